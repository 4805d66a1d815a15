/- Functions. No conditions. -/
import Derived.Test.YtgogkahhifkocaaDoorW15
import Derived.Test.YtgogkahhifkocaaDoorRows
import Derived.Test.YtgogkahhifkocaaDoorEng6
import Derived.WalkKit
import Derived.ProofKit
import Derived.LaidMore
import Derived.Lib.LaidTab
import Derived.Stop.LaidErr
import Derived.Stop.Joined
import Derived.OpenShut
set_option maxRecDepth 100000
set_option maxHeartbeats 400000
set_option linter.all false
namespace Go.Ab
open Go
open Classical
section
variable {D:NF} (X:VX D) {u:Nat -> Nat} (hu:∀v,v < D.n->u v < D.card v)
variable {y z x w:Nat} (hd:DjB D.n y z x w=true)
include X hu hd
theorem Q9o (hsep:¬ ∃v,z.testBit v=true/\(V7 D.n (rG D.n (setF D.node) 3 z x w) y z (x ||| w)).testBit v=true) :
  TT D u (x ||| z) (x ||| z ||| (y ||| w))*TT D u x (x ||| w)=TT D u x (x ||| (y ||| w))*TT D u (x ||| z) (x ||| z ||| w):=by
 have V:=X.vn
 have hS:=Qnp X
 have hG:Gd D.n (rG D.n (setF D.node) 3 z x w):=Qy0 V.n1 V.n8 hS
 have hG1:Gd D.n (cutG D.n x 0 (setF D.node)):=Qdu hS
 obtain ⟨hy,hz,hx,hw,d1,d2,d3⟩:=Qb6 hd
 have hxw:∀j,(x ||| w).testBit j=true->j < D.n:=fun j hj=>by
  rw [bH,aM] at hj
  exact hj.elim (hx j) (hw j)
 obtain ⟨A,hA⟩:∃A,A=anS D.n (rG D.n (setF D.node) 3 z x w) y z (x ||| w):=⟨_,rfl⟩
 obtain ⟨q,hq⟩:∃q,q=dS D.n (rG D.n (setF D.node) 3 z x w) y z (x ||| w):=⟨_,rfl⟩
 obtain ⟨an,han⟩:∃an,an=ups D.n (cutG D.n x 0 (setF D.node)) D.n w:=⟨_,rfl⟩
 have hs0:∀j,(x ||| (y ||| w)).testBit j=true->j < D.n:=fun j hj=>by
  simp only [tor,aM] at hj
  rcases hj with h | h | h
  ·exact hx j h
  ·exact hy j h
  exact hw j h
 obtain ⟨B,hB⟩:∃B,B=ups D.n (cutG D.n x 0 (setF D.node)) D.n (x ||| (y ||| w)):=⟨_,rfl⟩
 have qz:∀v,z.testBit v=true->q v=false:=fun v h=>by
  rw [hq]; unfold dS
  rw [bK]; intro h2
  simp only [aE] at h2
  exact hsep ⟨v,h,h2.1⟩
 have qy:∀v,y.testBit v=true->q v=true:=fun v h=>by rw [hq]; exact d_x hG hxw hy hz d2 d3 h
 have zx:∀v,z.testBit v=true->x.testBit v=false:=fun v h=>by
  have:=d3 v h
  rw [tor,cQ] at this; exact this.1
 have inA:∀v,y.testBit v=true\/z.testBit v=true\/x.testBit v=true\/w.testBit v=true->A.testBit v=true:=fun v h=>by
  rw [hA]
  refine Xq D.n v ?_
  rw [tor,tor,tor]
  rcases h with h | h | h | h <;> simp [h]
 have inB:∀v,x.testBit v=true\/y.testBit v=true\/w.testBit v=true->B.testBit v=true:=fun v h=>by
  rw [hB]
  refine Xq D.n v ?_
  rw [tor,tor]
  rcases h with h | h | h <;> simp [h]
 have edge:∀v p,v < D.n->p < D.n->x.testBit v=false->(z.testBit v=false\/an.testBit v=true)->(setF D.node v).testBit p=true->(rG D.n (setF D.node) 3 z x w v).testBit p=true:=fun v p hv hp hxv hzv h=>by
  show (cutG D.n (x ||| msk D.n fun i=>z.testBit i && !(ups D.n (cutG D.n x 0 (setF D.node)) D.n w).testBit i) 0 (setF D.node) v).testBit p=true
  rw [Jp hp]
  refine ⟨?_,h,by simp⟩
  rw [tor,Q3,<-han,hxv]
  rcases hzv with e | e <;> simp [e]
 have hP:∀v,B.testBit v=true->A.testBit v=true/\(an.testBit v=true\/x.testBit v=true\/q v=true):=fun v hv=>by
  rw [hB] at hv
  refine Qhw hG1 hs0 (fun v=>A.testBit v=true/\(an.testBit v=true\/x.testBit v=true\/q v=true)) (fun j hj=>?_) (fun v p hvn hPv hp=>?_) hv
  ·simp only [tor,aM] at hj
   rcases hj with h | h | h
   ·exact ⟨inA j (.inr (.inr (.inl h))),.inr (.inl h)⟩
   ·exact ⟨inA j (.inl h),.inr (.inr (qy j h))⟩
   exact ⟨inA j (.inr (.inr (.inr h))),.inl (by rw [han]; exact Xq D.n j h)⟩
  obtain ⟨ha,hc⟩:=hPv
  have hpn:=Qhe hp
  obtain ⟨hxv,hsp,_⟩:=(Jp hpn).1 hp
  have he:=edge v p hvn hpn hxv (by
   cases hzv:z.testBit v with
   | false=>exact .inl rfl
   | true =>
    rcases hc with h | h | h
    ·exact .inr h
    ·rw [hxv] at h; cases h
    rw [qz v hzv] at h; cases h) hsp
  refine ⟨?_,?_⟩
  ·rw [hA] at ha ⊢
   exact Qcf hG hxw hy hz d2 d3 v hvn ha p he
  rcases hc with h | h | h
  ·rw [han] at h ⊢
   exact .inl (J3 hG1.inn hw v hvn h p hp)
  ·rw [hxv] at h; cases h
  rw [hA] at ha
  rw [hq] at h
  rcases Qo6 hG hxw hy hz d2 d3 ha h (.inr rfl) (.inl he) with e | e
  ·rw [hq]; exact .inr (.inr e)
  rw [tor,aM] at e
  rcases e with e | e
  ·exact .inr (.inl e)
  exact .inl (by rw [han]; exact Xq D.n p e)
 have hzB:∀v,B.testBit v=true->z.testBit v=false\/an.testBit v=true:=fun v hv=>by
  cases hzv:z.testBit v with
  | false=>exact .inl rfl
  | true =>
   rcases (hP v hv).2 with h | h | h
   ·exact .inr h
   ·rw [zx v hzv] at h; cases h
   rw [qz v hzv] at h; cases h
 have cl:∀v,v < D.n->B.testBit v=true->x.testBit v=false->∀p∈D.par v,B.testBit p=true:=fun v hv hb hxv p hp=>by
  rw [hB] at hb ⊢
  exact J3 hG1.inn hs0 v hv hb p ((Jp (V.par v hv p hp)).2 ⟨hxv,Qje.2 hp,by simp⟩)
 have pr:∀M,(∀v,x.testBit v=true->M.testBit v=true)->(∀v,M.testBit v=true->B.testBit v=true)->TT D u x M=(D.g:Int)^cnt D.n (fun v=>!B.testBit v && !x.testBit v)*TT D u (x ||| coS D.n B) (M ||| coS D.n B):=fun M h1 h2 =>
  Qep X (A:=B) (N:=coS D.n B) (fun v hv=>Qbi hv) hu _ x M rfl h1 (fun v hv ha hxv p hp=>.inl (cl v hv ha hxv p hp)) (fun v _ h=>.inl (h2 v h))
 have pr2:∀M,(∀v,(x ||| z).testBit v=true->M.testBit v=true)->(∀v,M.testBit v=true->B.testBit v=true\/(x ||| z).testBit v=true)->TT D u (x ||| z) M=(D.g:Int)^cnt D.n (fun v=>!B.testBit v && !(x ||| z).testBit v)*TT D u (x ||| z ||| coS D.n B) (M ||| coS D.n B):=fun M h1 h2 =>
  Qep X (A:=B) (N:=coS D.n B) (fun v hv=>Qbi hv) hu _ (x ||| z) M rfl h1 (fun v hv ha hxv p hp=>.inl (cl v hv ha (by rw [tor,cQ] at hxv; exact hxv.1) p hp)) (fun v _ h=>h2 v h)
 rw [pr2 (x ||| z ||| (y ||| w)) (fun v h=>by rw [tor,h]; rfl) (fun v h=>by
   have:=inB v
   simp only [tor,aM] at h ⊢; grind),
  pr (x ||| w) (fun v h=>by simp [tor,h]) (fun v h=>inB v (by simp only [tor,aM] at h; grind)),
  pr (x ||| (y ||| w)) (fun v h=>by simp [tor,h]) (fun v h=>inB v (by simp only [tor,aM] at h; grind)),
  pr2 (x ||| z ||| w) (fun v h=>by rw [tor,h]; rfl) (fun v h=>by
   have:=inB v
   simp only [tor,aM] at h ⊢; grind)]
 have sw:=Qre (D:=D) (u:=u) V (m1:=x ||| z ||| coS D.n B) (M1:=x ||| z ||| (y ||| w) ||| coS D.n B) (m2:=x ||| coS D.n B) (M2:=x ||| w ||| coS D.n B) (m1':=x ||| coS D.n B) (M1':=x ||| (y ||| w) ||| coS D.n B) (m2':=x ||| z ||| coS D.n B) (M2':=x ||| z ||| w ||| coS D.n B) (q:=q)
  (fun v hv=>by
   have:=qz v
   have:=qy v
   simp only [tor,Qbi hv]
   cases hqv:q v <;> cases hyv:y.testBit v <;> cases hzv:z.testBit v <;> simp_all)
  (fun v hv=>by
   simp only [tor,Qbi hv]
   cases hav:B.testBit v with
   | false=>right; right; simp
   | true =>
    cases hxv:x.testBit v with
    | true=>right; right; simp
    | false =>
     by_cases ht:∃d,(d=v\/d∈D.par v)/\q d=true
     ·left
      obtain ⟨d,hdv,hqd⟩:=ht
      have trd:∀p,p=v\/p∈D.par v->((rG D.n (setF D.node) 3 z x w v).testBit p=true\/v=p):=fun p hp=>by
       rcases hp with rfl | hp
       ·exact .inr rfl
       exact .inl (edge v p hv (V.par v hv p hp) hxv (hzB v hav) (Qje.2 hp))
      have ha:=(hP v hav).1
      rw [hA] at ha
      have fm:∀p,p=v\/p∈D.par v->q p=true\/(x ||| w).testBit p=true:=fun p hp=>by
       rw [hq] at hqd ⊢
       exact Qo6 hG hxw hy hz d2 d3 ha hqd (trd d hdv) (trd p hp)
      have hvz:z.testBit v=false:=by
       rw [bK]; intro h
       rcases fm v (.inl rfl) with e | e
       ·rw [qz v h] at e; cases e
       rw [d3 v h] at e; cases e
      refine ⟨fun p hp=>?_,by simp [hvz],by simp [hvz]⟩
      rcases fm p hp with h | h
      ·exact .inl h
      right; rw [tor,aM] at h; rcases h with h | h <;> simp [h]
     right; left
     exact ⟨fun p hp=>by rw [bK]; exact fun h=>ht ⟨p,hp,h⟩,by simp,by simp⟩)
 have key:∀(a b c d e f:Int),c*d=e*f->a*c*(b*d)=b*e*(a*f):=fun a b c d e f h=>by
  have:a*c*(b*d)=a*b*(c*d):=by grind
  rw [this,h]; grind
 exact key _ _ _ _ _ _ sw
end
end Go.Ab
namespace Go.Ab
open Go
theorem Q9l {f:Nat -> Nat}:∀{k:Nat},k < 8->lkI ([(f 0:Int),(f 1:Int),(f 2:Int),(f 3:Int),(f 4:Int),(f 5:Int),(f 6:Int),(f 7:Int)]:List Int) (k:Int)=some (f k:Int)
 | 0,_=>rfl
 | 1,_=>rfl
 | 2,_=>rfl
 | 3,_=>rfl
 | 4,_=>rfl
 | 5,_=>rfl
 | 6,_=>rfl
 | 7,_=>rfl
theorem Q9m {f:Nat -> Nat}:∀{k:Nat},k < 4->lkI ([(f 0:Int),(f 1:Int),(f 2:Int),(f 3:Int)]:List Int) (k:Int)=some (f k:Int)
 | 0,_=>rfl
 | 1,_=>rfl
 | 2,_=>rfl
 | 3,_=>rfl
def ptS (f:Nat -> Nat) (n k:Nat):Nat := msk n fun j=>decide (f j % 5=k)
theorem Q4l {n:Nat} (hn:n<=8) {f:Nat -> Nat} (hf:∀j,j < 8->f j < 256) :
  Qcr (n:Int) ((f 0:Int),(f 1:Int),(f 2:Int),(f 3:Int),(f 4:Int),(f 5:Int),(f 6:Int),(f 7:Int))=some ((ptS f n 0:Int),(ptS f n 1:Int),(ptS f n 2:Int),(ptS f n 3:Int)):=by
 have hr:=Zc (n:=n) (k0:=0) (by omega) (by omega) (fun i (t:Int × Int × Int × Int)=>(i,t)) (body:=Qae (n:Int) ((f 0:Int),(f 1:Int),(f 2:Int),(f 3:Int),(f 4:Int),(f 5:Int),(f 6:Int),(f 7:Int)))
  (fun i=>((ptS f i 0:Int),(ptS f i 1:Int),(ptS f i 2:Int),(ptS f i 3:Int))) ((ptS f n 0:Int),(ptS f n 1:Int),(ptS f n 2:Int),(ptS f n 3:Int))
  (fun i _ hi=>by
   have e5:Int.tmod (f i:Int) 5=((f i % 5:Nat):Int):=by rw [Qak (by omega)]; omega
   have hs:∀k,ptS f (i+1) k=ptS f i k ||| if f i % 5=k then 2^i else 0:=fun k=>by
    show (msk i _ ||| if decide (f i % 5=k)=true then 2^i else 0)=_
    by_cases c:f i % 5=k <;> simp [c,ptS]
   have h8:(2:Nat)^i<=2^8:=aV (by omega) (by omega)
   have hl:∀k,ptS f i k < 18446744073709551616:=fun k=>bO Qjg (by omega)
   unfold Qae
   dsimp only
   rw [aH (dlt hi),Q9l (by omega),aC,e5,Zf (n:=i) (by omega),Qrh (by omega)]
   by_cases c:f i % 5 < 4
   ·rw [aH (by rw [aN]; omega),Q9m (f:=ptS f i) c,aC,aH (Z4 i),Vc (hl _) (Qpy (by omega))]
    have e:∀(k:Nat) (z:Int),z=(k:Int)->(if ((f i % 5:Nat):Int)=z then ((ptS f i (f i % 5) ||| 2^i:Nat):Int) else (ptS f i k:Int))=(ptS f (i+1) k:Int):=fun k z hz=>by
     rw [hs k]
     by_cases q:f i % 5=k
     ·rw [aH (by omega),aH q,q]
     rw [aI (by omega),aI q,Nat.or_zero]
    rw [e 0 0 rfl,e 1 1 rfl,e 2 2 rfl,e 3 3 rfl]
   have e:∀k,k < 4->ptS f (i+1) k=ptS f i k:=fun k hk=>by rw [hs k,aI (by omega),Nat.or_zero]
   rw [aI (by rw [aN]; omega),e 0 (by omega),e 1 (by omega),e 2 (by omega),e 3 (by omega)])
  (by unfold Qae; dsimp only; rw [aI (nlt n)])
 unfold Qcr
 exact Xg hr rfl
def f8 (a0 a1 a2 a3 a4 a5 a6 a7:Nat):Nat -> Nat
 | 0=>a0
 | 1=>a1
 | 2=>a2
 | 3=>a3
 | 4=>a4
 | 5=>a5
 | 6=>a6
 | _=>a7
theorem Qfa {n:Int} (h:(Lit.int .u8 n).wf=true):∃a:Nat,a < 256/\n=(a:Int):=⟨n.toNat,by have:=Q4w h; omega,by have:=Q4w h; omega⟩
end Go.Ab
namespace Go.Ab
open Go
open Classical
theorem Q51 {p r:Nat} (hp:p<=MX) (hr:r<=MX):Qbv false (0,(p:Int)) (0,(r:Int))=some ⟨(p:Int),(r:Int)⟩:=by
 have hMX:MX=4611686018427387903:=rfl
 unfold Qbv
 dsimp only
 rw [aI (by decide),aI (by simp; omega),aI (by decide),aI (by simp; omega),aI (by simp),w64 (by omega),w64 (by omega)]
theorem Q3h {a b c d:Nat} (hb:0 < b) (hd:0 < d) (ha':a<=MX) (hb':b<=MX) (hc':c<=MX) (hd':d<=MX) (h1:a / Nat.gcd a d*(c / Nat.gcd c b)<=MX) (h2:b / Nat.gcd c b*(d / Nat.gcd a d)<=MX) :
  K3 ⟨(a:Int),(b:Int)⟩ ⟨(c:Int),(d:Int)⟩=some ⟨((a / Nat.gcd a d*(c / Nat.gcd c b):Nat):Int),((b / Nat.gcd c b*(d / Nat.gcd a d):Nat):Int)⟩:=by
 have hMX:MX=4611686018427387903:=rfl
 have sz:∀n:Nat,n<=MX->Xe (n:Int)=some (n:Int):=fun n hn=>by rw [Qkx (by omega)]; rfl
 have hw:∀n:Nat,n<=MX->zv (n:Int)=(n:Int):=fun n hn=>Zf (by omega)
 have g1:0 < Nat.gcd a d:=Nat.gcd_pos_of_pos_right _ hd
 have g2:0 < Nat.gcd c b:=Nat.gcd_pos_of_pos_right _ hb
 have dv:∀n k:Nat,n<=MX->0 < k->zv (Int.tdiv (n:Int) (k:Int))=((n / k:Nat):Int):=fun n k hn hk=>by
  rw [Int.tdiv_eq_ediv_of_nonneg (by omega),<-Int.natCast_ediv]
  exact hw _ (bY (Nat.div_le_self _ _) hn)
 have l1:=Nat.div_le_self a (Nat.gcd a d)
 have l2:=Nat.div_le_self c (Nat.gcd c b)
 have l3:=Nat.div_le_self b (Nat.gcd c b)
 have l4:=Nat.div_le_self d (Nat.gcd a d)
 have tm:∀p r:Nat,p<=MX->r<=MX->p*r<=MX->Qbq (p:Int) (r:Int)=some (0,((p*r:Nat):Int)):=fun p r hp hr h=>by
  unfold Qbq
  rw [Q3u p r (by omega) (by omega),aC,Nat.div_eq_of_lt (by omega),Nat.mod_eq_of_lt (by omega)]; rfl
 unfold K3
 dsimp only
 rw [sz a ha',aC,hw d hd',Qib a d (by omega) (by omega),aC,sz c hc',aC,hw b hb',Qib c b (by omega) (by omega),aC,aC,aH (by omega),aC,aH (by omega),
  dv a _ ha' g1,dv c _ hc' g2,tm _ _ (by omega) (by omega) h1,aC,aH (by omega),aH (by omega),dv b _ hb' g2,dv d _ hd' g1,tm _ _ (by omega) (by omega) h2,aC]
 have hs:(!((decide ((a:Int) < 0))==(decide ((c:Int) < 0))))=false:=by
  rw [decide_eq_false (show ¬ (a:Int) < 0 by omega),decide_eq_false (show ¬ (c:Int) < 0 by omega)]; rfl
 rw [hs,Q51 h1 h2]; rfl
theorem Q5m {A1 A0 W:Int} (h1:0<=A1) (h1':A1.natAbs<=MX) (h0:0 < A0) (h0':A0.natAbs<=MX) (hW:0 < W) (hW':W.natAbs<=MX) :
  ∃N Dn:Nat,Qf1 (qI A1 W) (qI A0 W)=some (⟨(N:Int),(Dn:Int)⟩,0)/\0 < Dn/\Nat.Coprime N Dn/\(N:Int)*A0=A1*(Dn:Int):=by
 have hMX:MX=4611686018427387903:=rfl
 obtain ⟨r1,e1⟩:=Qq6 h1' hW' (by omega)
 obtain ⟨r2,e2⟩:=Qq6 h0' hW' (by omega)
 have hpN:0<=(qI A1 W).N:=Int.not_lt.1 fun h=>by
  have a1:(qI A1 W).N*W < 0:=Int.mul_neg_of_neg_of_pos h hW
  have a2:0<=A1*(qI A1 W).D:=Int.mul_nonneg h1 (by have:=r1.1; omega)
  omega
 have hqN:0 < (qI A0 W).N:=Int.not_le.1 fun h=>by
  have a1:(qI A0 W).N*W<=0:=Int.mul_nonpos_of_nonpos_of_nonneg h (by omega)
  have a2:0 < A0*(qI A0 W).D:=Int.mul_pos h0 (by have:=r2.1; omega)
  omega
 obtain ⟨a,ea⟩:∃a:Nat,(qI A1 W).N=a:=⟨(qI A1 W).N.toNat,by omega⟩
 obtain ⟨b,eb⟩:∃a:Nat,(qI A1 W).D=a:=⟨(qI A1 W).D.toNat,by have:=r1.1; omega⟩
 obtain ⟨d,ed⟩:∃a:Nat,(qI A0 W).N=a:=⟨(qI A0 W).N.toNat,by omega⟩
 obtain ⟨c,ec⟩:∃a:Nat,(qI A0 W).D=a:=⟨(qI A0 W).D.toNat,by have:=r2.1; omega⟩
 obtain ⟨s1,s2,s3,s4,s5⟩:=r1
 obtain ⟨t1,t2,t3,t4,t5⟩:=r2
 have R1:Rt (qI A1 W):=⟨s1,s2,s3,s4,s5⟩
 have R2:Rt (qI A0 W):=⟨t1,t2,t3,t4,t5⟩
 rw [ea,eb] at e1 s5
 rw [ed,ec] at e2 t5
 rw [eb] at s1 s2
 rw [ea] at s4
 rw [ec] at t1 t2
 rw [ed] at t4
 simp only [Int.natAbs_natCast] at s5 t5
 have hd0:0 < d:=by omega
 have hb0:0 < b:=by omega
 have hc0:0 < c:=by omega
 have G1:0 < Nat.gcd a d:=Nat.gcd_pos_of_pos_right _ hd0
 have G2:0 < Nat.gcd c b:=Nat.gcd_pos_of_pos_right _ hb0
 have ka:a / Nat.gcd a d*Nat.gcd a d=a:=Nat.div_mul_cancel (Nat.gcd_dvd_left _ _)
 have kd:d / Nat.gcd a d*Nat.gcd a d=d:=Nat.div_mul_cancel (Nat.gcd_dvd_right _ _)
 have kc:c / Nat.gcd c b*Nat.gcd c b=c:=Nat.div_mul_cancel (Nat.gcd_dvd_left _ _)
 have kb:b / Nat.gcd c b*Nat.gcd c b=b:=Nat.div_mul_cancel (Nat.gcd_dvd_right _ _)
 have c1:Nat.Coprime (a / Nat.gcd a d) (d / Nat.gcd a d):=Nat.coprime_div_gcd_div_gcd G1
 have c2:Nat.Coprime (c / Nat.gcd c b) (b / Nat.gcd c b):=Nat.coprime_div_gcd_div_gcd G2
 have c3:Nat.Coprime (a / Nat.gcd a d) (b / Nat.gcd c b):=by
  have h:Nat.Coprime a b:=s5
  exact ((h.coprime_dvd_left (Nat.div_dvd_of_dvd (Nat.gcd_dvd_left _ _))).symm.coprime_dvd_left (Nat.div_dvd_of_dvd (Nat.gcd_dvd_right _ _))).symm
 have c4:Nat.Coprime (c / Nat.gcd c b) (d / Nat.gcd a d):=by
  have h:Nat.Coprime c d:=by have:Nat.gcd d c=1:=t5; rw [Nat.gcd_comm] at this; exact this
  exact ((h.coprime_dvd_left (Nat.div_dvd_of_dvd (Nat.gcd_dvd_left _ _))).symm.coprime_dvd_left (Nat.div_dvd_of_dvd (Nat.gcd_dvd_right _ _))).symm
 have hcop:Nat.Coprime (a / Nat.gcd a d*(c / Nat.gcd c b)) (b / Nat.gcd c b*(d / Nat.gcd a d)):=Nat.Coprime.mul_left (Nat.Coprime.mul_right c3 c1) (Nat.Coprime.mul_right c2 c4)
 have hDn:0 < b / Nat.gcd c b*(d / Nat.gcd a d):=Nat.mul_pos (Nat.div_pos (Nat.le_of_dvd hb0 (Nat.gcd_dvd_right _ _)) G2) (Nat.div_pos (Nat.le_of_dvd hd0 (Nat.gcd_dvd_right _ _)) G1)
 obtain ⟨n1,rfl⟩:∃n:Nat,A1=n:=⟨A1.toNat,by omega⟩
 obtain ⟨n0,rfl⟩:∃n:Nat,A0=n:=⟨A0.toNat,by omega⟩
 obtain ⟨nw,rfl⟩:∃n:Nat,W=n:=⟨W.toNat,by omega⟩
 have f1:a*nw=n1*b:=by exact_mod_cast e1
 have f2:d*nw=n0*c:=by exact_mod_cast e2
 have hrat : a / Nat.gcd a d*(c / Nat.gcd c b)*n0=n1*(b / Nat.gcd c b*(d / Nat.gcd a d)):=by
  have:Nat.gcd a d*Nat.gcd c b*(a / Nat.gcd a d*(c / Nat.gcd c b)*n0)=Nat.gcd a d*Nat.gcd c b*(n1*(b / Nat.gcd c b*(d / Nat.gcd a d))):=by
   calc Nat.gcd a d*Nat.gcd c b*(a / Nat.gcd a d*(c / Nat.gcd c b)*n0)=(a / Nat.gcd a d*Nat.gcd a d)*((c / Nat.gcd c b*Nat.gcd c b)*n0):=by grind
     _=a*(n0*c):=by rw [ka,kc,cL c n0]
     _=(n1*b)*d:=by rw [<-f2,<-f1]; grind
     _=n1*((b / Nat.gcd c b*Nat.gcd c b)*(d / Nat.gcd a d*Nat.gcd a d)):=by rw [kb,kd,Nat.mul_assoc]
     _=_:=by grind
  exact Nat.eq_of_mul_eq_mul_left (Nat.mul_pos G1 G2) this
 have n1M:n1<=MX:=by simpa using h1'
 have n0M:n0<=MX:=by simpa using h0'
 have n0p:0 < n0:=by omega
 have hNle:a / Nat.gcd a d*(c / Nat.gcd c b)<=MX:=by
  have hdv:a / Nat.gcd a d*(c / Nat.gcd c b) ∣ n1*(b / Nat.gcd c b*(d / Nat.gcd a d)):=⟨n0,hrat.symm⟩
  have hdv:=hcop.dvd_of_dvd_mul_right hdv
  by_cases z:n1=0
  ·subst z
   rw [Nat.zero_mul] at hrat
   have:=Nat.mul_eq_zero.1 hrat
   omega
  exact bY (Nat.le_of_dvd (by omega) hdv) n1M
 have hDle:b / Nat.gcd c b*(d / Nat.gcd a d)<=MX:=by
  have hdv:b / Nat.gcd c b*(d / Nat.gcd a d) ∣ a / Nat.gcd a d*(c / Nat.gcd c b)*n0:=⟨n1,by rw [hrat,cL]⟩
  have hdv:=hcop.symm.dvd_of_dvd_mul_left hdv
  exact bY (Nat.le_of_dvd n0p hdv) n0M
 refine ⟨a / Nat.gcd a d*(c / Nat.gcd c b),b / Nat.gcd c b*(d / Nat.gcd a d),?_,hDn,hcop,by exact_mod_cast hrat⟩
 unfold Qf1
 rw [Qvy,aH R1,aC,aH (by decide),Qvy,aH R2,aC,aH (by decide),aI (by rw [ed]; simp; omega),aC,aI (by decide),aC,aI (by decide)]
 unfold Yi Qgx
 dsimp only
 rw [ea,eb,ec,ed,aI (by simp),Q3h hb0 hd0 (by omega) (by omega) (by omega) (by omega) hNle hDle]; rfl
theorem Q3c {N Dn N' Dn':Nat} {A1 A0 B1 B0:Int} (h0:0 < A0) (h0':0 < B0) (hc:Nat.Coprime N Dn) (hc':Nat.Coprime N' Dn') (hp:0 < Dn) (hp':0 < Dn') (e:(N:Int)*A0=A1*(Dn:Int)) (e':(N':Int)*B0=B1*(Dn':Int)) (h:A1*B0=B1*A0):N=N'/\Dn=Dn':=by
 have key:N*Dn'=N'*Dn:=by
  have:((N:Int)*(Dn':Int))*(A0*B0)=((N':Int)*(Dn:Int))*(A0*B0):=by
   calc ((N:Int)*(Dn':Int))*(A0*B0)=((N:Int)*A0)*((Dn':Int)*B0):=by grind
     _=(A1*B0)*((Dn:Int)*(Dn':Int)):=by rw [e]; grind
     _=(B1*(Dn':Int))*((Dn:Int)*A0):=by rw [h]; grind
     _=_:=by rw [<-e']; grind
  have hne:A0*B0≠0:=Int.ne_of_gt (Int.mul_pos h0 h0')
  have:=Int.eq_of_mul_eq_mul_right hne this
  exact_mod_cast this
 have d1:Dn ∣ Dn':=hc.symm.dvd_of_dvd_mul_left ⟨N',by rw [key,cL]⟩
 have d2:Dn' ∣ Dn:=hc'.symm.dvd_of_dvd_mul_left ⟨N,by rw [<-key,cL]⟩
 have hd:Dn=Dn':=Nat.dvd_antisymm d1 d2
 subst hd
 exact ⟨Nat.eq_of_mul_eq_mul_right hp key,rfl⟩
section
variable {D:NF} {u:Nat -> Nat}
def vF (u:Nat -> Nat) (M v:Nat):Int:=if M.testBit v=true then (u v:Int) else -1
theorem Qty (hu:∀v,v < D.n->u v < D.card v) {M:Nat}:Qmd D (vF u M):=fun v hv=>by
 have:=hu v hv
 unfold vF
 split <;> omega
theorem Qm0 {n M:Nat} (hn:n<=8) (hM:M < 18446744073709551616):Vm (Qe n u) (M:Int)=some (Qd n (vF u M)):=by
 have hr:=Zc (n:=n) (k0:=0) (by omega) (by omega) (fun i (t:List Int)=>(i,t)) (body:=Kt (Qe n u) (M:Int)) (fun k=>Qd n fun j=>if j < k then vF u M j else 0) (Qd n (vF u M))
  (fun k _ hk=>by
   have hg:lkI (Qd n fun j=>if j < k then vF u M j else 0) (k:Int)=some 0:=by rw [Q5 hk,aI (by omega)]
   have hset:∀y,y=vF u M k->((Qd n fun j=>if j < k then vF u M j else 0).set k y)=Qd n fun j=>if j < k+1 then vF u M j else 0:=fun y hy=>by
    rw [Je]
    refine Qm fun j _=>?_
    by_cases e:j=k
    ·subst e; rw [aH rfl,aH (by omega),hy]
    rw [aI e]
    by_cases e2:j < k
    ·rw [aH e2,aH (by omega)]
    rw [aI e2,aI (by omega)]
   unfold Kt
   dsimp only
   rw [Ql,Qne,Ql,aH (dlt hk),hg,aC,aH (by omega),Qja hM (by omega),aR]
   by_cases c:M.testBit k=true
   ·rw [aH c,Qy hk,aC,List.set_set,hset _ (by unfold vF; rw [aH c])]
   rw [aI c,hset _ (by unfold vF; rw [aI c])])
  (by
   unfold Kt
   dsimp only
   rw [Ql,Qne,Ql,aI (nlt n)]
   exact congrArg (fun l=>some (Qg.done l)) (Qm fun j hj=>by rw [aH hj]))
 have e0:Qe n (fun _=>0)=Qd n fun j=>if j < 0 then vF u M j else 0:=Qm fun j _=>by rw [aI (by omega)]; rfl
 unfold Vm
 rw [Ql,aH (by omega),Qne,e0]
 exact Xg hr rfl
theorem Q7q (V:VN D) {K:Nat -> Int} {f:(Nat -> Nat)->Int} (hf:Ext D f):SW D K f=NS D.card (fun w=>if Vi D.n K 0 w then f w else 0) D.n 0 fun _=>0:=by
 rw [<-Q41]
 show _=SW D (fun _=>-1) _
 have hext:Ext D (fun w=>if Vi D.n K 0 w then f w else 0):=fun w w' h=>by
  have e:Vi D.n K 0 w↔Vi D.n K 0 w':=⟨fun k j h1 h2=>by rw [<-h j h2]; exact k j h1 h2,fun k j h1 h2=>by rw [h j h2]; exact k j h1 h2⟩
  dsimp only
  by_cases c:Vi D.n K 0 w
  ·rw [aH c,aH (e.1 c),hf w w' h]
  rw [aI c,aI fun h=>c (e.2 h)]
 rw [Q1h V hf,Q1h V hext]
 exact Q2 fun W _=>by rw [aH (show Vi D.n (fun _=>-1) 0 (dig D W) from fun j _ _=>.inl rfl)]
theorem Q2m (V:VN D) (hu:∀v,v < D.n->u v < D.card v) {s e:Nat}:Qe3 D (vF u s) (vF u e)=TT D u s (s ||| e):=by
 unfold Qe3
 have hb:∀v,v < D.n->(actS D.n (vF u s)).testBit v=s.testBit v:=fun v hv=>by
  rw [Q3j]
  unfold vF
  by_cases c:s.testBit v=true
  ·rw [aH c,c]; simp [hv]
  rw [aI c]; simp only [cP] at c; rw [c]; simp
 rw [Q7q V (Q0i V),Qok V (m':=actS D.n (vF u s)) (M':=s ||| e) (fun v hv=>(hb v hv).symm) fun _ _=>rfl]
 refine Qob (n:=D.n) (fun w hw=>?_) D.n 0 _ (Qjv V)
 unfold hT
 have h100:∀j,j < D.n->w j < 100:=fun j hj=>by have:=hw j hj; have:=(V.card j hj).2; omega
 have e1:Vi D.n (Qdo (vF u s) (vF u e)) 0 w↔∀v,v < D.n->(s ||| e).testBit v=true->w v=u v:=by
  rw [Qy8 h100]
  constructor
  ·rintro ⟨k1,k2⟩ v hv hb
   rw [tor,aM] at hb
   rcases hb with h | h
   ·have:=k1 v (eJ _) hv
    unfold okE vF at this; rw [aH h] at this; omega
   have:=k2 v (eJ _) hv
   unfold okE vF at this; rw [aH h] at this; omega
  intro k
  constructor
  ·intro v _ hv
   unfold okE vF
   by_cases c:s.testBit v=true
   ·rw [aH c,k v hv (by rw [tor,c]; rfl)]; exact .inr rfl
   rw [aI c]; exact .inl rfl
  intro v _ hv
  unfold okE vF
  by_cases c:e.testBit v=true
  ·rw [aH c,k v hv (by rw [tor,c]; simp)]; exact .inr rfl
  rw [aI c]; exact .inl rfl
 by_cases c:∀v,v < D.n->(s ||| e).testBit v=true->w v=u v
 ·rw [aH (e1.2 c),aH c]
 rw [aI fun h=>c (e1.1 h),aI c]
theorem Qse (X:VX D) (hu:∀v,v < D.n->u v < D.card v) {s y e:Nat} (hs:s < 18446744073709551616) (hy:y < 18446744073709551616) (he:e < 18446744073709551616) :
  ∃r ok,Qas D.net (Qe D.n u) (s:Int) (y:Int) (e:Int)=some (r,ok)/\(ok=true->0 < TT D u s (s ||| e)/\∃N Dn:Nat,r=⟨(N:Int),(Dn:Int)⟩/\0 < Dn/\Nat.Coprime N Dn/\(N:Int)*TT D u s (s ||| e)=TT D u s (s ||| (y ||| e))*(Dn:Int)):=by
 have V:=X.vn
 have hn8:=V.n8
 obtain ⟨h3,h4⟩:=Q1k V (m:=actS D.n (vF u s))
 have h3':0 < ((D.wh (actS D.n (vF u s)) D.n:Nat):Int):=by omega
 have rng:∀e',0<=Qe3 D (vF u s) (vF u e')/\(Qe3 D (vF u s) (vF u e')).natAbs<=MX:=fun e'=>Qsy V
 unfold Qas
 rw [Qm0 hn8 hs,aC,Vc hy he,Qm0 hn8 (eF (n:=64) hy he),aC,Qsh X (Qty hu) (Qty hu),aC,aC,Qm0 hn8 he,aC,Qsh X (Qty hu) (Qty hu),aC]
 rw [aI (by simp),aI (by simp)]
 by_cases c:(qI (Qe3 D (vF u s) (vF u e)) (D.wh (actS D.n (vF u s)) D.n:Int)).N<=0
 ·rw [aH (by simpa using c)]
  exact ⟨_,_,rfl,fun h=>by cases h⟩
 ·rw [aI (by simpa using c)]
  have h0:0 < Qe3 D (vF u s) (vF u e):=by
   obtain ⟨r1,e1⟩:=Qq6 (rng e).2 h4 h3
   refine Int.not_le.1 fun h=>?_
   have a1:0 < (qI (Qe3 D (vF u s) (vF u e)) (D.wh (actS D.n (vF u s)) D.n:Int)).N*(D.wh (actS D.n (vF u s)) D.n:Int):=Int.mul_pos (by omega) h3'
   have a2:Qe3 D (vF u s) (vF u e)*(qI (Qe3 D (vF u s) (vF u e)) (D.wh (actS D.n (vF u s)) D.n:Int)).D<=0:=Int.mul_nonpos_of_nonpos_of_nonneg h (by have:=r1.1; omega)
   omega
  obtain ⟨N,Dn,e1,e2,e3,e4⟩:=Q5m (rng (y ||| e)).1 (rng (y ||| e)).2 h0 (rng e).2 h3' h4
  rw [e1,aC]
  refine ⟨_,_,rfl,fun _=>?_⟩
  rw [<-Q2m V hu,<-Q2m V hu]
  exact ⟨h0,N,Dn,rfl,e2,e3,e4⟩
end
end Go.Ab
namespace Go.Ab
open Go
open Classical
section
variable {D:NF}
theorem Q21 (V:VN D) {n:Nat} (hn:n<=D.n):Qi n D.card<=1024:=by
 obtain ⟨d,hd⟩:=Nat.exists_eq_add_of_le hn
 have:∀d,n+d<=D.n->Qi n D.card<=Qi (n+d) D.card:=fun d=>by
  induction d with
  | zero=>intro _; exact bA _
  | succ d ih =>
   intro h
   refine bY (ih (by omega)) ?_
   show _<=Qi (n+d) _*D.card (n+d)
   exact Nat.le_mul_of_pos_right _ (V.card _ (by omega)).1
 have h:=this d (by omega)
 rw [<-hd] at h
 exact bY h V.worlds
theorem Qsm (V:VN D):Qaq (Qe D.n D.card)=some ((Qi D.n D.card:Int),true):=by
 have hn8:=V.n8
 have hr:=Zc (n:=D.n) (k0:=0) (by omega) (by omega) (fun i (t:Int)=>(t,i)) (body:=Qai (Qe D.n D.card)) (fun k=>(Qi k D.card:Int)) ((Qi D.n D.card:Int),true)
  (fun k _ hk=>by
   have hc:=V.card k hk
   have hb:=Q21 V (n:=k+1) (by omega)
   have hs:Qi (k+1) D.card=Qi k D.card*D.card k:=rfl
   unfold Qai
   dsimp only
   rw [Ql,aH (dlt hk),Qy hk,aC,aI (by simp; omega),aI (by simp; omega),<-Int.natCast_mul,<-hs,w64 (n:=((Qi (k+1) D.card:Nat):Int)) (by omega),aI (by simp; omega)])
  (by unfold Qai; dsimp only; rw [Ql,aI (nlt _)])
 unfold Qaq
 rw [Ql,aI (by simp; omega)]
 exact Xg hr rfl
theorem Qyx (X:VX D):Qdn D.net=some ((Qi D.n D.card:Int),0):=by
 obtain ⟨o,hr⟩:=Qns X
 unfold Qdn Qgy
 rw [hr,aC]
 dsimp only
 rw [aI (by decide),Qsm X.vn]; rfl
theorem Qy2 (X:VX D) {W:Nat} (hW:W < Qi D.n D.card):∃u:Nat -> Nat,(∀v,v < D.n->u v < D.card v)/\Qd4 D.net (W:Int)=some (Qe D.n u,0):=by
 have V:=X.vn
 have hn8:=V.n8
 obtain ⟨o,hr⟩:=Qns X
 have hps:∀i,i<=D.n->1<=PS D i/\PS D i<=1024:=fun i hi=>by
  have h0:PS D 0=Qi D.n D.card:=by
   have:=Qzh (D:=D)
   unfold PS; rw [dD]; exact this
  have pos:∀d i,i+d=D.n->1<=PS D i:=fun d=>by
   induction d with
   | zero =>
    intro i hi; have:i=D.n:=by omega
    subst this; rw [Q75]; exact bA _
   | succ d ih =>
    intro i hi
    rw [Qjj (by omega)]
    exact Nat.mul_pos (V.card i (by omega)).1 (ih (i+1) (by omega))
  have up:∀i,i<=D.n->PS D i<=PS D 0:=fun i=>by
   induction i with
   | zero=>intro _; exact bA _
   | succ i ih =>
    intro hi
    refine bY ?_ (ih (by omega))
    have e:=Qjj (D:=D) (k:=i) (by omega)
    rw [e]
    exact Nat.le_mul_of_pos_left _ (V.card i (by omega)).1
  refine ⟨pos (D.n - i) i (by omega),bY (up i hi) ?_⟩
  rw [h0]; exact V.worlds
 have h0:PS D 0=Qi D.n D.card:=by
  have:=Qzh (D:=D)
  unfold PS; rw [dD]; exact this
 have hs:=Qch (body:=Kw (Qe D.n D.card)) (fun s=>∃(i R:Nat) (u:Nat -> Nat),i<=D.n/\R < PS D i/\(∀v,v < i->u v < D.card v)/\s=((R:Int),(PS D i:Int),(i:Int),Qe D.n u))
  (fun s=>D.n - s.2.2.1.toNat) (fun r=>∃u:Nat -> Nat,(∀v,v < D.n->u v < D.card v)/\r=Qe D.n u)
  (fun s hs=>by
   obtain ⟨i,R,u,hi,hR,hu,rfl⟩:=hs
   unfold Kw
   dsimp only
   rw [Ql]
   rcases bB i D.n with h | h
   ·left
    have hc:=V.card i h
    obtain ⟨q1,q2⟩:=hps (i+1) (by omega)
    obtain ⟨q3,q4⟩:=hps i hi
    have hst:=Qjj (D:=D) h
    have e1:zw (Int.tdiv (PS D i:Int) (D.card i:Int))=(PS D (i+1):Int):=by
     rw [Int.tdiv_eq_ediv_of_nonneg (by omega),<-Int.natCast_ediv,hst,Nat.mul_div_cancel_left _ (by omega),w64 (by omega)]
    have e2:zw (Int.tdiv (R:Int) (PS D (i+1):Int))=((R / PS D (i+1):Nat):Int):=by
     have:=Nat.div_le_self R (PS D (i+1))
     rw [Int.tdiv_eq_ediv_of_nonneg (by omega),<-Int.natCast_ediv]
     generalize R / PS D (i+1)=zz at *
     rw [w64 (by omega)]
    have e3:Int.tmod (R:Int) (PS D (i+1):Int)=((R % PS D (i+1):Nat):Int):=by
     rw [Qak (by omega),<-Int.natCast_emod]
    rw [aH (dlt h),Qy h,aC,aH (by omega),e1,aH (by omega),Qy h,aC,aH (by omega),e2,e3,aR,Qec]
    refine ⟨_,rfl,⟨i+1,R % PS D (i+1),updF u i (R / PS D (i+1)),h,cI _ (by omega),fun v hv=>?_,by rw [Qgv (by omega)]⟩,by
     dsimp only; rw [Qgv (by omega)]; omega⟩
    unfold updF
    split
    ·rename_i e; subst e
     exact (Nat.div_lt_iff_lt_mul (by omega)).2 (by rw [<-hst]; exact hR)
    exact hu v (by omega)
   right
   have:i=D.n:=by omega
   subst this
   rw [aI (nlt _)]
   exact ⟨_,rfl,u,hu,rfl⟩)
  fuel ((W:Int),(PS D 0:Int),((0:Nat):Int),Qe D.n fun _=>0) ⟨0,W,fun _=>0,by omega,by rw [h0]; exact hW,fun v hv=>by omega,rfl⟩ (by unfold fuel; simp; omega)
 obtain ⟨r,h1,u,h2,rfl⟩:=hs
 refine ⟨u,h2,?_⟩
 unfold Qd4 Qem
 rw [hr,aC]
 dsimp only
 rw [aI (by decide),Qsm V,aC]
 dsimp only
 rw [aI (by decide),aI (by simp),aI (by simp; omega),Ql,aH (by omega),Qne,<-h0]
 rw [show Qb fuel (Kw (Qe D.n D.card)) ((W:Int),(PS D 0:Int),0,Qe D.n fun _=>0)=_ from h1]; rfl
theorem Q38 (X:VX D) {y z x w:Nat} (hd:DjB D.n y z x w=true) {k:Nat} (hk:1<=k/\k<=3) :
  ∃b,Vn D.net (k:Int) (y:Int) (z:Int) (x:Int) (w:Int)=some (b,0)/\(b=true->¬ ∃v,z.testBit v=true/\(V7 D.n (rG D.n (setF D.node) k z x w) y z (x ||| w)).testBit v=true):=by
 have V:=X.vn
 have hn:=V.n8
 have h1:=V.n1
 have hS:=Qnp X
 have lt64:∀a:Nat,(∀j,a.testBit j=true->j < D.n)->a < 18446744073709551616:=fun a h=>Zy hn hS h h h
 obtain ⟨by',bz,bx,bw,_⟩:=Qb6 hd
 obtain ⟨b,e1,e2,e3,e4⟩:=Q05 h1 hn (Qy0 h1 hn hS (k:=k) (z:=z) (x:=x) (w:=w)) hd
 have hr:∃b' e,Vn D.net (k:Int) (y:Int) (z:Int) (x:Int) (w:Int)=some (b',e)/\V1 D.net (k:Int) (y:Int) (z:Int) (x:Int) (w:Int)=some (b',e) :=
  Q2s (Q9e X) (by omega) k y z x w (lt64 y by') (lt64 z bz) (lt64 x bx) (lt64 w bw)
 obtain ⟨b',e,r1,r2⟩:=hr
 have hlen:(Qd D.n D.node).length=D.n:=Q1
 have hu:zv (D.n:Int)=(D.n:Int):=Zf (by omega)
 have hps:=Qoj (n:=D.n) (g:=D.g) (F:=D.node) hn fun v hv=>((Qq0 X).node v hv).1.1
 have r3:V1 D.net (k:Int) (y:Int) (z:Int) (x:Int) (w:Int)=some (b,0):=by
  have ht:=Q4g X
  have hD:D.net=⟨D.g,Qd D.n D.node⟩:=rfl
  rw [hD] at ht ⊢
  unfold V1
  dsimp only
  rw [ht,aC,aI (by decide),hlen,hu,aH (by omega),Qmz (by omega) hn (lt64 y by') (lt64 z bz) (lt64 x bx) (lt64 w bw),aH hd,hps,aC,Qpv h1 hn hS hd hk e2]; rfl
 rw [r3] at r2
 cases r2
 exact ⟨b,r1,fun h=>e4.1 h⟩
theorem Q4p {f:Nat -> Nat} {n:Nat}:DjB n (ptS f n 0) (ptS f n 1) (ptS f n 2) (ptS f n 3)=true:=by
 have hb:∀k j,(ptS f n k).testBit j=(decide (j < n) && decide (f j % 5=k)):=fun k j=>by unfold ptS; rw [Q3]
 have no:∀a b,a≠b->(ptS f n a &&& ptS f n b==0)=true:=fun a b hne=>by
  rw [Qi0]
  rintro j ⟨h1,h2⟩
  rw [hb] at h1 h2
  simp only [aE,aN] at h1 h2
  omega
 unfold DjB
 rw [no 0 1 (by decide),no 0 2 (by decide),no 1 2 (by decide),no 0 3 (by decide),no 1 3 (by decide),no 2 3 (by decide)]
 have:ptS f n 0 ||| ptS f n 1 ||| ptS f n 2 ||| ptS f n 3 < 2^n:=lt_pow fun j hj=>by
  simp only [tor,hb,aM,aE,aN] at hj
  omega
 simp [this]
theorem Qmi (X:VX D) {u:Nat -> Nat} (hu:∀v,v < D.n->u v < D.card v) {y z x w:Nat} (hd:DjB D.n y z x w=true) {s0 e0 s1 e1:Nat} {k:Nat} (hk:k < 3) (hs0:s0 < 18446744073709551616) (he0:e0 < 18446744073709551616) (hs1:s1 < 18446744073709551616) (he1:e1 < 18446744073709551616) {t:Int}
  (hl:lkI ([(((x:Int),zv (zb (z:Int) ||| zb (w:Int)).toNat),((x:Int),(w:Int))),((zv (zb (x:Int) ||| zb (z:Int)).toNat,(w:Int)),((x:Int),zv (zb (z:Int) ||| zb (w:Int)).toNat)),((zv (zb (x:Int) ||| zb (z:Int)).toNat,(w:Int)),((x:Int),(w:Int)))]:(List ((Int × Int) × (Int × Int)))) (k:Int)=some (((s0:Int),(e0:Int)),((s1:Int),(e1:Int))))
  (heq:(¬ ∃v,z.testBit v=true/\(V7 D.n (rG D.n (setF D.node) (k+1) z x w) y z (x ||| w)).testBit v=true)->TT D u s0 (s0 ||| (y ||| e0))*TT D u s1 (s1 ||| e1)=TT D u s1 (s1 ||| (y ||| e1))*TT D u s0 (s0 ||| e0)) :
  Xd ((y:Int),(z:Int),(x:Int),(w:Int)) D.net (Qe D.n u,t) (k:Int)=some (.next (zw ((k:Int)+1))):=by
 have V:=X.vn
 have hS:=Qnp X
 obtain ⟨by',bz,bx,bw,_⟩:=Qb6 hd
 have lt64:∀a:Nat,(∀j,a.testBit j=true->j < D.n)->a < 18446744073709551616:=fun a h=>Zy V.n8 hS h h h
 obtain ⟨b,r1,r2⟩:=Q38 X hd (k:=k+1) (by omega)
 obtain ⟨ra,oka,g1,g2⟩:=Qse X hu hs0 (lt64 y by') he0
 obtain ⟨rb,okb,g3,g4⟩:=Qse X hu hs1 (lt64 y by') he1
 have ek:zw ((k:Int)+1)=((k+1:Nat):Int):=Qgv (by omega)
 unfold Xd
 dsimp only
 rw [aH (by rw [aN]; omega),hl,aC,ek,r1,aC,aI (by simp)]
 dsimp only
 rw [g1,aC,g3,aC]
 by_cases cb:b=true
 ·rw [aH cb]
  by_cases ca:oka=true
  ·rw [aH ca]
   by_cases cc:okb=true
   ·rw [aH cc]
    obtain ⟨p1,N,Dn,rfl,q1,q2,q3⟩:=g2 ca
    obtain ⟨p2,N',Dn',rfl,q4,q5,q6⟩:=g4 cc
    obtain ⟨rfl,rfl⟩:=Q3c p1 p2 q2 q5 q1 q4 q3 q6 (heq (r2 cb))
    rw [aI (by simp)]
   ·rw [aI cc]
  ·rw [aI ca]
 ·rw [aI cb]
theorem Q0f (X:VX D) {u:Nat -> Nat} (hu:∀v,v < D.n->u v < D.card v) {y z x w:Nat} (hd:DjB D.n y z x w=true) {t:Int}:Qb fuel (Xd ((y:Int),(z:Int),(x:Int),(w:Int)) D.net (Qe D.n u,t)) 0=some (.inr ()):=by
 have V:=X.vn
 have hS:=Qnp X
 obtain ⟨by',bz,bx,bw,_⟩:=Qb6 hd
 have lt64:∀a:Nat,(∀j,a.testBit j=true->j < D.n)->a < 18446744073709551616:=fun a h=>Zy V.n8 hS h h h
 have hzw:=Vc (lt64 z bz) (lt64 w bw)
 have hxz:=Vc (lt64 x bx) (lt64 z bz)
 have lzw:z ||| w < 18446744073709551616:=eF (n:=64) (lt64 z bz) (lt64 w bw)
 have lxz:x ||| z < 18446744073709551616:=eF (n:=64) (lt64 x bx) (lt64 z bz)
 have hr:=Zc (n:=3) (k0:=0) (by omega) (by omega) (fun i (_:Unit)=>i) (body:=Xd ((y:Int),(z:Int),(x:Int),(w:Int)) D.net (Qe D.n u,t)) (fun _=>()) (.inr ())
  (fun k _ hk=>by
   match k,hk with
   | 0,_=>exact Qmi X hu hd (k:=0) (s0:=x) (e0:=z ||| w) (s1:=x) (e1:=w) (by omega) (lt64 x bx) lzw (lt64 x bx) (lt64 w bw) (by rw [hzw]; rfl) fun h=>Q87 X hu hd h
   | 1,_=>exact Qmi X hu hd (k:=1) (s0:=x ||| z) (e0:=w) (s1:=x) (e1:=z ||| w) (by omega) lxz (lt64 w bw) (lt64 x bx) lzw (by rw [hzw,hxz]; rfl) fun h=>Q9s X hu hd h
   | 2,_=>exact Qmi X hu hd (k:=2) (s0:=x ||| z) (e0:=w) (s1:=x) (e1:=w) (by omega) lxz (lt64 w bw) (lt64 x bx) (lt64 w bw) (by rw [hxz]; rfl) fun h=>Q9o X hu hd h)
  (by unfold Xd; rw [aI (by decide)])
 exact hr
end
theorem calculus_true (p0:Qf) (p1:Int × Int × Int × Int × Int × Int × Int × Int) (p2:Int) (h0:Kp p0)
  (h1:((Lit.int .u8 p1.1).wf=true/\(Lit.int .u8 p1.2.1).wf=true/\(Lit.int .u8 p1.2.2.1).wf=true/\(Lit.int .u8 p1.2.2.2.1).wf=true/\(Lit.int .u8 p1.2.2.2.2.1).wf=true/\(Lit.int .u8 p1.2.2.2.2.2.1).wf=true/\(Lit.int .u8 p1.2.2.2.2.2.2.1).wf=true/\(Lit.int .u8 p1.2.2.2.2.2.2.2).wf=true)) (h2:(Lit.int .u16 p2).wf=true) :
  Qa4 p0 p1 p2=some true:=by
 obtain ⟨D,X,hn,hcd,e1⟩:=Qz5 (Q5i h0)
 have V:=X.vn
 have hlen:D.net.Nodes.length=D.n:=Q1
 obtain ⟨w0,w1,w2,w3,w4,w5,w6,w7⟩:=h1
 obtain ⟨a0,b0,c0⟩:=Qfa w0
 obtain ⟨a1,b1,c1⟩:=Qfa w1
 obtain ⟨a2,b2,c2⟩:=Qfa w2
 obtain ⟨a3,b3,c3⟩:=Qfa w3
 obtain ⟨a4,b4,c4⟩:=Qfa w4
 obtain ⟨a5,b5,c5⟩:=Qfa w5
 obtain ⟨a6,b6,c6⟩:=Qfa w6
 obtain ⟨a7,b7,c7⟩:=Qfa w7
 have hp:=Q4l (n:=D.n) V.n8 (f:=f8 a0 a1 a2 a3 a4 a5 a6 a7) (fun j hj=>by
  match j,hj with
  | 0,_=>exact b0
  | 1,_=>exact b1
  | 2,_=>exact b2
  | 3,_=>exact b3
  | 4,_=>exact b4
  | 5,_=>exact b5
  | 6,_=>exact b6
  | 7,_=>exact b7)
 have h2':0<=p2/\p2<=65535:=by simpa [Lit.wf,IntKind.min,IntKind.max,IntKind.bits,IntKind.signed] using h2
 have hN1:1<=Qi D.n D.card:=Qpo fun j hj=>(V.card j hj).1
 have hN2:=V.worlds
 have hW:p2.toNat % Qi D.n D.card < Qi D.n D.card:=cI _ (by omega)
 have eW:Int.tmod (zw p2) (Qi D.n D.card:Int)=((p2.toNat % Qi D.n D.card:Nat):Int):=by
  rw [w64 (by omega),Qak (by omega),Int.natCast_emod,Int.toNat_of_nonneg (by omega)]
 obtain ⟨u,hu,eu⟩:=Qy2 X hW
 unfold Qa4
 rw [Qym,aC,aI (by decide),e1,aC,hlen,c0,c1,c2,c3,c4,c5,c6,c7]
 refine Xg hp ?_
 rw [Qyx X,aC]
 dsimp only
 rw [aI (by decide),aI (by simp; omega),aH (by omega),eW,eu,aC]
 dsimp only
 rw [aI (by decide),aI (by simp [Ql])]
 exact Xg (Q0f X hu Q4p) rfl
end Go.Ab
namespace Go.Ab
open Go Go.Proofs Go.Proofs.YtgogkahhifkocaaDoor
open Go.ChangeShapes Go.WideShapes Go.ChangeAt Go.RowKit
abbrev dr_laid:List (String × DataW Unit):=[("math/bits.deBruijn32tab",Rows.laid_math_bits_deBruijn32tab),("math/bits.deBruijn64tab",Rows.laid_math_bits_deBruijn64tab)]
theorem dr_own:ownKnob Tryd.prog.godebug=none:=by kernel_rfl
theorem Q4x:Tryd.prog.globalNamed "math/bits.deBruijn32tab" = some 0:=by kernel_rfl
theorem Q4v:Tryd.prog.globalNamed "math/bits.deBruijn64tab" = some 1:=by kernel_rfl
theorem dr_met (os:Os) (args:Array Value):laidMetH Tryd.prog dr_laid ((World.doorLaid Tryd.prog 19 os).forCall (fun _ _=>0) ⟨#[],args,[]⟩).memory :=
 laidMetH_of_parts3 (fuel:=8) (laidMet_of_run' 8 (by kernel_rfl) (by kernel_rfl)) (by kernel_rfl) (by kernel_rfl)
theorem dr_glob {W:World} (h:laidMetH Tryd.prog dr_laid W):Go.Ab.GlobIn W:=by
 rw [MakeChecks.laidMetH_plain _ _ _ (by kernel_rfl)] at h
 have h0:=Lib.tabIs_of_head (k:=.u8) (zs:=Go.Ab.tab0) (t:=251) (e:=5) (n:=32) Q4x (by kernel_rfl) (by kernel_rfl) (by kernel_rfl) (by kernel_rfl) (by kernel_rfl) h
 have h1:=Lib.tabIs_of_head (k:=.u8) (zs:=Go.Ab.tab1) (t:=252) (e:=5) (n:=64) Q4v (by kernel_rfl) (by kernel_rfl) (by kernel_rfl) (by kernel_rfl) (by kernel_rfl) h.tail
 intro g xs hg i v hv
 match g,hg with
 | 0,hg =>
  cases hg
  have hi:i < Go.Ab.tab0.length:=by have:=(aD.1 hv).1; simpa using this
  have:=h0.cell Q4x i hi
  rw [this]
  rw [bF] at hv
  simpa [List.getD,hi] using hv
 | 1,hg =>
  cases hg
  have hi:i < Go.Ab.tab1.length:=by have:=(aD.1 hv).1; simpa using this
  have:=h1.cell Q4v i hi
  rw [this]
  rw [bF] at hv
  simpa [List.getD,hi] using hv
 | n+2,hg=>cases hg
end Go.Ab
