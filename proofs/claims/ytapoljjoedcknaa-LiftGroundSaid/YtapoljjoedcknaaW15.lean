/- Functions. No conditions. -/
import Derived.Test.YtapoljjoedcknaaW14
import Derived.KernelRfl
set_option linter.all false
namespace Go.Ab
open Go
open Classical
set_option maxRecDepth 100000
set_option maxHeartbeats 400000
theorem Qsi {a d:Nat} (h0:0 < d) (ha:a≤MX) (hd:d≤MX):qI (a:Int) (d:Int)=qN a d:=by
 rw [Quq (by omega) (by rw [Int.natAbs_natCast]; exact ha) (by rw [Int.natAbs_natCast]; exact hd)]
 simp only [Int.natAbs_natCast]
 have b1:decide ((a:Int) < 0)=false:=decide_eq_false (by omega)
 have b2:decide ((d:Int) < 0)=false:=decide_eq_false (by omega)
 rw [b1,b2]; rfl
theorem Qtx {D:NF} (V:VN D) {E E':Nat → Int} {v k:Nat} (hv:v < D.n) {f:(Nat → Nat)→Int} (hf:Ext D f) (he:E v=-1) (he':E' v=(k:Int)) (hne:∀j,j < D.n→j≠v→E' j=E j):SW D E (at' v k f)=SW D E' f:=by
 rw [Qky V (Qv2 hv hf),Qky V hf]
 refine X1 fun W _=>?_
 have hiff:Yu D.n E' 0 (dig D W)↔Yu D.n E 0 (dig D W)∧dig D W v=k:=by
  constructor
  ·intro h
   have hk:=h v (Nat.zero_le _) hv
   unfold okE at hk
   rw [he'] at hk
   refine ⟨fun j h0 hj=>?_,by omega⟩
   by_cases e:j=v
   ·subst e; exact .inl he
   ·have:=h j h0 hj
    unfold okE at this ⊢
    rwa [hne j hj e] at this
  ·rintro ⟨h,hk⟩ j h0 hj
   by_cases e:j=v
   ·subst e; unfold okE; rw [he',hk]; exact .inr rfl
   ·have:=h j h0 hj
    unfold okE at this ⊢
    rwa [hne j hj e]
 unfold at'
 by_cases c:Yu D.n E 0 (dig D W)
 ·rw [if_pos c]
  by_cases c2:dig D W v=k
  ·rw [if_pos c2,if_pos (hiff.2 ⟨c,c2⟩)]
  ·rw [if_neg c2,if_neg fun h=>c2 (hiff.1 h).2]
 ·rw [if_neg c,if_neg fun h=>c (hiff.1 h).1]
def Kl (C r j:Nat):Nat := if r≤j then j - r else j+C - r
def posR (C r v:Nat):Nat := if v+r < C then v+r else v+r - C
def ringE (C r z o:Nat) (c:Int) (j:Nat):Int:=if j < C then (if Kl C r j < z then 0 else if Kl C r j < z+o then 1 else -1) else c
theorem Ql7 {C r v:Nat} (hr:r < C) (hv:v < C):posR C r v < C:=by unfold posR; split <;> omega
theorem Qrh {C r v:Nat} (hr:r < C) (hv:v < C):Kl C r (posR C r v)=v:=by
 unfold posR
 split
 ·unfold Kl; split <;> omega
 ·unfold Kl; split <;> omega
theorem Qr8 {C r j:Nat} (hr:r < C) (hj:j < C):posR C r (Kl C r j)=j∧Kl C r j < C:=by
 unfold Kl
 split
 ·unfold posR; constructor
  ·split <;> omega
  ·omega
 ·unfold posR; constructor
  ·split <;> omega
  ·omega
theorem Qro {C t v:Nat} (hv:v < C):(v+t) % C=posR C (t % C) v:=by
 have hr:=Nat.mod_lt t (show 0 < C by omega)
 rw [←Nat.add_mod_mod]
 generalize t % C=r at hr
 unfold posR
 split
 ·exact Nat.mod_eq_of_lt (by omega)
 ·rw [Nat.mod_eq_sub_mod (by omega)]; exact Nat.mod_eq_of_lt (by omega)
def Qyf (C r z o:Nat):Bool:=!Nat.ble (z+o) C || (!Nat.blt r C || (Nat.beq (nb C (ringE C r z o 0) 0) z && (Nat.beq (nb C (ringE C r z o 0) 1) o && Nat.beq (nb C (ringE C r z o 0) (-1)) (C - z - o))))
theorem Qw0:((List.range 6).all fun C=>(List.range 6).all fun r=>(List.range 6).all fun z=>(List.range 6).all fun o=>Qyf C r z o)=true:=by kernel_rfl
theorem Qrl {C r z o u:Nat} {c:Int} (h5:C≤5) (hr:r < C) (hu:z+o+u=C):nb C (ringE C r z o c) 0=z∧nb C (ringE C r z o c) 1=o∧nb C (ringE C r z o c) (-1)=u:=by
 have h:=Qw0
 have h:=List.all_eq_true.1 h C (List.mem_range.2 (by omega))
 have h:=List.all_eq_true.1 h r (List.mem_range.2 (by omega))
 have h:=List.all_eq_true.1 h z (List.mem_range.2 (by omega))
 have h:=List.all_eq_true.1 h o (List.mem_range.2 (by omega))
 have e:∀x,nb C (ringE C r z o c) x=nb C (ringE C r z o 0) x:=fun x=>Zs fun v hv=>by unfold ringE; rw [if_pos hv,if_pos hv]
 unfold Qyf at h
 have b1:Nat.ble (z+o) C=true:=Nat.ble_eq_true_of_le (by omega)
 have b2:Nat.blt r C=true:=by unfold Nat.blt; exact Nat.ble_eq_true_of_le hr
 rw [b1,b2] at h
 simp only [Bool.not_true,Bool.false_or,Bool.and_eq_true,Nat.beq_eq] at h
 obtain ⟨h1,h2,h3⟩:=h
 rw [e,e,e]
 exact ⟨h1,h2,by omega⟩
theorem Quf {l:Qd} {C r z o:Nat} {c c' p2:Int} (hl:l.Count=C) (h1:1≤C) (h5:C≤5) (hp:0≤p2∧p2≤255) (hr:r=p2.toNat % C) (hz:z+o≤C) :
  Qc fuel (Xu l ⟨(z:Int),(o:Int),c'⟩ p2) (0,List.replicate (Int.toNat ((C+1:Nat):Int)) (0:Int))=some (Qf (C+1) fun j=>if j < C then ringE C r z o c j else 0):=by
 have hrC:r < C:=by rw [hr]; exact Nat.mod_lt _ (by omega)
 have h:=Vj (n:=C) (k0:=0) (by omega) (by omega) (fun i (t:List Int)=>(i,t)) (body:=Xu l ⟨(z:Int),(o:Int),c'⟩ p2) (fun k=>Qf (C+1) fun j=>if j < C∧Kl C r j < k then ringE C r z o c j else 0) (Qf (C+1) fun j=>if j < C then ringE C r z o c j else 0)
  (fun k _ hk=>by
   have hpl:=Ql7 hrC hk
   have hpi:=Qrh hrC hk
   have em:Int.tmod (zw ((k:Int)+zw p2)) (C:Int)=(posR C r k:Int):=by
    rw [w64 (n:=p2) (by omega),w64 (by omega),Xs (by omega),hr,←Qro hk,Int.natCast_emod,Int.natCast_add,Int.toNat_of_nonneg (by omega)]
   have st:∀y,y=ringE C r z o c (posR C r k)→((Qf (C+1) fun j=>if j < C∧Kl C r j < k then ringE C r z o c j else 0).set (posR C r k) y)=Qf (C+1) fun j=>if j < C∧Kl C r j < k+1 then ringE C r z o c j else 0:=fun y hy=>by
    rw [Vv]
    refine Qj fun j _=>?_
    by_cases e:j=posR C r k
    ·subst e; rw [if_pos rfl,if_pos ⟨hpl,by omega⟩,hy]
    ·rw [if_neg e]
     by_cases c1:j < C∧Kl C r j < k
     ·rw [if_pos c1,if_pos ⟨c1.1,by omega⟩]
     ·rw [if_neg c1,if_neg fun h=>by
       have h8:=(Qr8 hrC h.1).1
       have h9:Kl C r j=k:=by
        have:=h.2
        by_cases c2:Kl C r j < k
        ·exact absurd ⟨h.1,c2⟩ c1
        ·omega
       rw [h9] at h8
       exact e h8.symm]
   have hg:∃y,lkI (Qf (C+1) fun j=>if j < C∧Kl C r j < k then ringE C r z o c j else 0) (posR C r k:Int)=some y:=⟨_,Zc (by omega)⟩
   obtain ⟨y,hg⟩:=hg
   unfold Xu
   dsimp only
   rw [hl,if_pos (dlt hk),if_pos (by omega),em,hg,Option.bind_some,Option.bind_some,Option.bind_some,Option.bind_some,Option.bind_some,Option.bind_some,Int.toNat_natCast,w64 (n:=(z:Int)+(o:Int)) (by omega)]
   by_cases c1:k < z
   ·rw [if_pos (by rw [decide_eq_true_eq]; omega),st 0 (by unfold ringE; rw [if_pos hpl,hpi,if_pos c1])]
   ·rw [if_neg (by rw [decide_eq_true_eq]; omega)]
    by_cases c2:k < z+o
    ·rw [if_pos (by rw [decide_eq_true_eq]; omega),st 1 (by unfold ringE; rw [if_pos hpl,hpi,if_neg c1,if_pos c2])]
    ·rw [if_neg (by rw [decide_eq_true_eq]; omega),st (-1) (by unfold ringE; rw [if_pos hpl,hpi,if_neg c1,if_neg c2])])
  (by
   unfold Xu
   dsimp only
   rw [hl,if_neg (nlt C)]
   refine congrArg (fun l=>some (Qk.done l)) (Qj fun j _=>?_)
   by_cases c1:j < C
   ·rw [if_pos ⟨c1,(Qr8 hrC c1).2⟩,if_pos c1]
   ·rw [if_neg fun h=>c1 h.1,if_neg c1])
 have e0:List.replicate (Int.toNat ((C+1:Nat):Int)) (0:Int)=Qf (C+1) fun j=>if j < C∧Kl C r j < 0 then ringE C r z o c j else 0:=by
  rw [Int.toNat_natCast,J7]
  exact Qj fun j _=>(if_neg fun h=>by omega).symm
 rw [e0]
 exact h
section
variable {l:Qd} {g C a card:Nat}
theorem Qxb (h:VL l g C a card) {z o u:Nat} (hu:z+o+u=C) {c:Int} (hc:-1≤c∧c < card):Kx l (z:Int) (o:Int) c=some (qN (Ze z o u a (g - a) (shownN l g c)) (g^(C+1)),0):=by
 have c2:=h.c2; have g2:=h.g2; have g1:=h.g1
 have ok':Q0t C card (z:Int) (o:Int) c:=⟨by omega,by omega,by omega,hc.1,hc.2⟩
 have hp:0 < g^(C+1):=Nat.pow_pos (by omega)
 have hpl:=Qr9 g2 c2 (C+1) (Nat.le_refl _)
 have hMX:MX=4611686018427387903:=rfl
 unfold Kx
 rw [Qev h]
 simp only [Option.bind_some]
 rw [if_neg (by simp)]
 obtain ⟨r0,e1,_⟩:=Qy2 h ok' (some (Qb.mk 0 0,(2:Int))) (fun _=>(Za (Tlift_counter.mk l (z:Int) (o:Int) c)).bind fun x20=>(Yt l.Grain (zw (l.Count+1))).bind fun x22=>(Ys x20 x22).bind fun x24=>some (x24,0))
 refine e1.trans ?_
 rw [Qd0 h hu c hc]
 simp only [Option.bind_some]
 rw [h.hg,h.hC,w64 (by omega),show (C:Int)+1=((C+1:Nat):Int) by omega,Qko g (C+1) g2 (by omega)]
 simp only [Option.bind_some]
 rw [Qj8 _ _ (Jb h hu c) (by omega) hp]
 rfl
variable (h:VL l g C a card) (h5:C≤5) {r z o u:Nat} (hr:r < C) (hu:z+o+u=C)
include h hr hu
theorem Qmq {c:Int} (hc:-1≤c∧c < card):Qmc (gdD l g C a card) (ringE C r z o c):=fun j hj=>by
 have hj:j < C+1:=hj
 have:=h.k1
 show -1≤ringE C r z o c j∧ringE C r z o c j < (gdC C card j:Int)
 unfold ringE
 by_cases e:j < C
 ·rw [if_pos e,Qcj e]
  split
  ·omega
  ·split <;> omega
 ·rw [if_neg e,show j=C by omega,Qb0]; exact hc
theorem Qlq {c:Int}:∀v,v < C→ringE C r z o c v=0∨ringE C r z o c v=1∨ringE C r z o c v=-1:=fun v hv=>by
 unfold ringE
 rw [if_pos hv]
 split
 ·exact .inl rfl
 ·split
  ·exact .inr (.inl rfl)
  ·exact .inr (.inr rfl)
include h5
theorem Ql1 {c:Int} (hc:-1≤c∧c < card) {E:Nat → Int} (hE:∀v,v < C→E v=ringE C r z o c v) (hEC:E C=c):SW (gdD l g C a card) E (fS (gdD l g C a card) 0)=(Ze z o u a (g - a) (shownN l g c):Int):=by
 obtain ⟨n1,n2,n3⟩:=Qrl (c:=c) h5 hr hu
 have e:∀x,nb C E x=nb C (ringE C r z o c) x:=fun x=>Zs fun v hv=>by rw [hE v hv]
 rw [Qyc h (fun v hv=>by rw [hE v hv]; exact Qlq h hr hu v hv) (by rw [hEC]; exact hc),e,e,e,n1,n2,n3,hEC]
theorem Qva {c:Int} (hc:-1≤c∧c < card) (hlt:z+o < C):SW (gdD l g C a card) (ringE C r z o c) (at' (posR C r (z+o)) 1 (fS (gdD l g C a card) 0))=(Ze z (o+1) (u - 1) a (g - a) (shownN l g c):Int):=by
 have X:=Qyp h h5
 have hpl:=Ql7 hr hlt
 have hpi:=Qrh hr hlt
 have he:ringE C r z o c (posR C r (z+o))=-1:=by
  unfold ringE
  rw [if_pos hpl,hpi,if_neg (by omega),if_neg (by omega)]
 obtain ⟨E',hE'⟩:∃E':Nat → Int,∀j,E' j=if j=posR C r (z+o) then 1 else ringE C r z o c j:=⟨_,fun _=>rfl⟩
 rw [Qtx X.vn (E':=E') (show posR C r (z+o) < C+1 by omega) (Qlb X.vn) he (by rw [hE',if_pos rfl]; rfl) fun j _ hj=>by rw [hE',if_neg hj]]
 obtain ⟨n1,n2,n3⟩:=Qrl (c:=c) h5 hr hu
 have up:∀y:Int,nb C E' y+(if (-1:Int)=y then 1 else 0)=nb C (ringE C r z o c) y+(if (1:Int)=y then 1 else 0):=fun y=>by
  have:=Qpm (P:=ringE C r z o c) (P':=E') (x:=y) (fun v hv=>by rw [hE',if_neg hv]) C hpl
  rw [he,hE',if_pos rfl] at this; exact this
 have u0:=up 0; have u1:=up 1; have u2:=up (-1)
 simp at u0 u1 u2
 have hC:E' C=c:=by
  rw [hE',if_neg (by omega)]
  unfold ringE; rw [if_neg (Nat.lt_irrefl _)]
 rw [Qyc h (fun v hv=>by
  rw [hE']
  split
  ·exact .inr (.inl rfl)
  ·exact Qlq h hr hu v hv) (by rw [hC]; exact hc),hC,u0,u1,n1,n2,show nb C E' (-1)=u - 1 by omega]
end
theorem ground_true (p0:Qq) (p1:Q0) (p2:Int) (h0:Yh p0) (h1:Kq p1) (h2:(Lit.int .u8 p2).wf=true):J0 p0 p1 p2=some true:=by
 have hp:=Qgj h2
 obtain ⟨b1,b2,b3,b4,b5⟩:=h0
 have hcnt:=Qgj b2
 have et:Int.tmod p0.Count 5=p0.Count % 5:=Xs (by omega)
 have ok':Yh (Qq.mk p0.Grain (Int.tmod p0.Count 5) p0.One p0.Card p0.L):=⟨b1,by
  have:0≤Int.tmod p0.Count 5∧Int.tmod p0.Count 5≤255:=by rw [et]; omega
  simpa [Lit.wf,IntKind.min,IntKind.max,IntKind.bits,IntKind.signed] using this,b3,b4,b5⟩
 obtain ⟨l,g,C,a,card,el,h,hC⟩:=Qty _ ok'
 have hC:(C:Int)=1+Int.tmod p0.Count 5 % 10:=hC
 have h5:C≤5:=by rw [et] at hC; omega
 have hC1:=h.c1
 have hk1:=h.k1; have hk2:=h.k2
 have hg1:=h.g1; have hg2:=h.g2
 obtain ⟨z,o,u,c,hu,c0,c1,ek⟩:=Qxp p1 h
 have hc:-1≤c∧c < (card:Int):=⟨c0,c1⟩
 have hc':-1≤(-1:Int)∧(-1:Int) < (card:Int):=by omega
 obtain ⟨r,hr0⟩:∃r,r=p2.toNat % C:=⟨_,rfl⟩
 have hr:r < C:=by rw [hr0]; exact Nat.mod_lt _ (by omega)
 have X:=Qyp h h5
 have V:=X.vn
 have hG:Vg l=some ((gdD l g C a card).net,0):=by rw [Q0i h]; exact Qqs h (by omega)
 have hlen:(gdD l g C a card).net.Nodes.length=C+1:=Qv
 have hb0:=Quf (l:=l) (C:=C) (r:=r) (z:=z) (o:=o) (c:=c) (c':=c) (p2:=p2) h.hC hC1 h5 hp hr0 (by omega)
 have hMX:MX=4611686018427387903:=rfl
 have hpw:=Qr9 hg2 h.c2 (C+1) (Nat.le_refl _)
 have hm1:=Jb h hu c
 have hp0:0 < g^(C+1):=Nat.pow_pos (by omega)
 have setC:∀(F:Nat → Int) (y:Int) (_:∀j,j < C→F j=ringE C r z o y j),(Qf (C+1) F).set C y=Qf (C+1) (ringE C r z o y):=fun F y hF=>by
  rw [Vv]
  refine Qj fun j hj=>?_
  by_cases e:j=C
  ·subst e; rw [if_pos rfl]; unfold ringE; rw [if_neg (Nat.lt_irrefl _)]
  ·rw [if_neg e,hF j (by omega)]
 have indep:∀y y' j,j < C→ringE C r z o y j=ringE C r z o y' j:=fun y y' j hj=>by unfold ringE; rw [if_pos hj,if_pos hj]
 have ringC:∀y,ringE C r z o y C=y:=fun y=>if_neg (Nat.lt_irrefl _)
 have hsw:=Ql1 h h5 hr hu hc (E:=ringE C r z o c) (fun _ _=>rfl) (ringC c)
 have hprob:=Qzi X (E:=ringE C r z o c) (Qmq h hr hu hc)
 rw [hsw,Q11,Qsi hp0 hm1 (by omega),show (gdD l g C a card).n=C+1 from rfl] at hprob
 have hswc:=Ql1 h h5 hr hu hc' (E:=ringE C r z o (-1)) (fun _ _=>rfl) (ringC (-1))
 have hm2:=Jb h hu (-1)
 have hchild:Xi (gdD l g C a card).net (Qf (C+1) (ringE C r z o (-1))) (C:Int)=X7 l (z:Int) (o:Int):=by
  have e:=Qip X (E:=ringE C r z o (-1)) (Qmq h hr hu hc') (v:=C) (Nat.lt_succ_self C)
  rw [hswc,show (gdD l g C a card).n=C+1 from rfl] at e
  rw [e,child_eq h hu]
  by_cases cz:Ze z o u a (g - a) (shownN l g (-1))=0
  ·rw [if_pos cz,if_pos (by omega)]
  ·rw [if_neg cz,if_neg (by omega),show (gdD l g C a card).card C=card from Qb0]
   refine congrArg (fun l=>some (l,(0:Int))) (Qj fun k hk=>?_)
   obtain ⟨E',hE'⟩:∃E':Nat → Int,∀j,E' j=if j=C then (k:Int) else ringE C r z o (-1) j:=⟨_,fun _=>rfl⟩
   rw [Qtx V (E':=E') (show C < C+1 by omega) (Qlb V) (ringC (-1)) (by rw [hE',if_pos rfl]) fun j _ hj=>by rw [hE',if_neg hj]]
   rw [Ql1 h h5 hr hu (c:=(k:Int)) (by omega) (E:=E') (fun v hv=>by rw [hE',if_neg (by omega)]; exact indep _ _ _ hv) (by rw [hE',if_pos rfl]),Qsi (by omega) (Jb h hu _) hm2]
 have hlenc:∀y,X7 l (z:Int) (o:Int)=some y→(y.2=0∧y.1.length=card)∨y.2=7∧y.1=[]:=fun y hy=>by
  rw [child_eq h hu] at hy
  by_cases cz:Ze z o u a (g - a) (shownN l g (-1))=0
  ·rw [if_pos cz] at hy
   injection hy with hy
   subst hy; exact .inr ⟨rfl,rfl⟩
  ·rw [if_neg cz] at hy
   injection hy with hy
   subst hy; exact .inl ⟨rfl,by simp⟩
 have setc:=setC (fun j=>if j < C then ringE C r z o c j else 0) c fun j hj=>if_pos hj
 have setm:=setC (ringE C r z o c) (-1) fun j hj=>indep _ _ _ hj
 have hlk:lkI (Qf (C+1) fun j=>if j < C then ringE C r z o c j else 0) (C:Int)=some 0:=by rw [Zc (by omega),if_neg (Nat.lt_irrefl _)]
 have hnode:lkI (gdD l g C a card).net.Nodes (C:Int)=some ((gdD l g C a card).node C):=V.node (Nat.lt_succ_self C)
 have hncard:((gdD l g C a card).node C).Card=(card:Int):=congrArg Nat.cast Qb0
 have wC:zw ((C:Int)+1)=((C+1:Nat):Int):=by rw [w64 (by omega)]; omega
 have wzo:zw ((z:Int)+(o:Int))=((z+o:Nat):Int):=by rw [w64 (by omega)]; omega
 obtain ⟨y,hy⟩:∃y,X7 l (z:Int) (o:Int)=some y:=⟨_,child_eq h hu⟩
 have eqs:∀L:List Qb,L.length≤1000000→Qr L L=some true:=Q01
 unfold J0
 rw [Qsc,Option.bind_some,if_neg (by decide),el,Option.bind_some,ek,Option.bind_some,hG,Option.bind_some]
 dsimp only
 rw [if_neg (by decide),h.hC,wC,hlen,if_neg (by simp),if_pos (by omega),hb0,Option.bind_some,hlk,Option.bind_some,Qxb h hu hc,Option.bind_some,Int.toNat_natCast,setc,setm,hprob,Option.bind_some]
 dsimp only
 rw [if_neg (by decide),if_neg (by decide),if_neg (by simp),Qzf h hu c hc,Option.bind_some,wzo,hchild,hy]
 by_cases cu:u=0
 ·rw [if_pos cu,if_pos (by rw [beq_iff_eq]; omega)]; rfl
 rw [if_neg cu,if_neg (by rw [beq_iff_eq]; omega),if_pos (by omega)]
 have hlt:z+o < C:=by omega
 have hpl:=Ql7 hr hlt
 have em:Int.tmod (zw (((z+o:Nat):Int)+zw p2)) (C:Int)=(posR C r (z+o):Int):=by
  rw [w64 (n:=p2) (by omega),w64 (by omega),Xs (by omega),hr0,←Qro hlt,show ((z+o:Nat):Int)+p2=((z+o+p2.toNat : Nat):Int) by omega]
  exact (Int.natCast_emod _ _).symm
 have hpost:=Qip X (E:=ringE C r z o c) (Qmq h hr hu hc) (v:=posR C r (z+o)) (show posR C r (z+o) < C+1 by omega)
 rw [hsw,show (gdD l g C a card).n=C+1 from rfl,show (gdD l g C a card).card (posR C r (z+o))=2 from Qcj hpl] at hpost
 rw [em,hpost,Option.bind_some]
 have hend:∀q:Option Bool,q=(if (y.2==y.2)=true then if (y.2 != 0)=true then (Qr y.1 y.1).bind fun x=>some x else (lkI (gdD l g C a card).net.Nodes (C:Int)).bind fun a94=>if ((y.1.length:Int)==a94.Card)=true then (Qr y.1 y.1).bind fun x=>some x else some false else some false)→q=some true:=fun q hq=>by
  rw [hq,if_pos (by simp),hnode,Option.bind_some,hncard]
  rcases hlenc y hy with ⟨k1,k2⟩ | ⟨k1,k2⟩
  ·rw [k1,if_neg (by decide),k2,if_pos (by simp),eqs _ (by omega)]; rfl
  ·rw [k1,if_pos (by decide),k2,eqs _ (by simp)]; rfl
 by_cases cm:Ze z o u a (g - a) (shownN l g c)=0
 ·have cmi:((Ze z o u a (g - a) (shownN l g c):Nat):Int)=0:=by omega
  rw [if_pos cm,if_pos cmi]
  dsimp only
  rw [if_neg (by decide),if_neg (by decide),Option.bind_some,Option.bind_some]
  exact hend _ rfl
 ·have cmi:¬ ((Ze z o u a (g - a) (shownN l g c):Nat):Int)=0:=by omega
  rw [if_neg cm,if_neg cmi]
  dsimp only
  have hl1:∀F:Nat → Qb,lkI (Qf 2 F) 1=some (F 1):=fun F=>Zc (k:=1) (by omega)
  rw [if_neg (by decide),if_pos (by decide),Qv,if_neg (by decide),hl1,Option.bind_some,Qva h h5 hr hu hc hlt,Qsi (by omega) (Jb h (by omega) c) hm1,if_neg (by simp),Option.bind_some,Option.bind_some]
  exact hend _ rfl
end Go.Ab
