/- Functions. No conditions. -/
import Derived.Test.YtgogkahhifkocaaDoorW16
import Derived.Test.YtgogkahhifkocaaDoorRows
import Derived.Test.YtgogkahhifkocaaDoorEng7
import Derived.WalkKit
import Derived.ProofKit
import Derived.LaidMore
import Derived.Lib.LaidTab
import Derived.Stop.LaidErr
import Derived.Stop.Joined
import Derived.OpenShut
set_option maxRecDepth 100000
set_option maxHeartbeats 400000
set_option linter.all false
namespace Go.Ab
open Go
theorem Q7t {D:NF} (X:VX D):NB D.n D.node:=⟨fun v hv=>by
   have V:=X.vn
   have:=V.len v hv
   show (List.map _ (D.par v)).length<=_; rw [bZ]; have:=V.n8; omega,fun v hv=>by
   have V:=X.vn
   have:=V.rows_le hv
   show (rowG _ _).length<=_; rw [Z9]; omega,fun v hv r hr=>by
   have V:=X.vn
   have hr:r∈rowG (D.rows v) fun r=>rowG (D.card v) fun x=>(D.W v r x:Int):=hr
   unfold rowG at hr
   obtain ⟨i,_,rfl⟩:=cG.1 hr
   have:=(V.card v hv).2
   rw [bZ,List.length_range]; omega⟩
theorem Qxu {n:Nat} {F:Nat -> Ad} (hP:∀v,v < n->∀p∈Y0 F v,p < n) (hr:Qgx n (Y0 F)):Gd n (setF F):=by
 have hb:∀v j,(setF F v).testBit j=true↔j∈Y0 F v:=fun v j=>by unfold setF; rw [Yg]; simp
 obtain ⟨rk,hrk⟩:=hr
 refine ⟨fun v hv j hj=>hP v hv j ((hb v j).1 hj),fun v hv h=>?_⟩
 obtain ⟨T,hT⟩:=Qqw n fun j=>rk j < rk v
 have:=X2 (S:=setF F) (s:=setF F v) (T:=T) (fun u hu hub j hj=>(hT j).2 ⟨hP u hu j ((hb u j).1 hj),Nat.lt_trans (hrk u hu j ((hb u j).1 hj)) ((hT u).1 hub).2⟩)
  (fun j hj=>(hT j).2 ⟨hP v hv j ((hb v j).1 hj),hrk v hv j ((hb v j).1 hj)⟩) n v h
 exact dF _ ((hT v).1 this).2
theorem Q43 {α:Type} {K E:α} {b1 b2 b3 b4:Bool} {ok:Prop} [Decidable ok] (h:(b1 || b2 || b3 || b4)=!decide ok):(if b1=true then E else if b2=true then E else if b3=true then E else if b4=true then E else K)=if ok then K else E:=by
 by_cases c:ok
 ·simp [c] at h; simp [c,h]
 simp [c] at h; rw [aI c]
 cases b1 <;> cases b2 <;> cases b3 <;> cases b4 <;> simp_all
theorem Q6j {α:Type} {K E:α} {b1 b2 b3 b4 b5 b6 b7 b8 b9:Bool} {ok:Prop} [Decidable ok] (h2:b2=false) (h3:b3=false) (h:(b1 || b4 || b5 || b6 || b7 || b8 || b9)=!decide ok) :
  (if b1=true then E else if b2=true then E else if b3=true then E else if b4=true then E else if b5=true then E else if b6=true then E else if b7=true then E else if b8=true then E else if b9=true then E else K)=if ok then K else E:=by
 subst h2 h3
 by_cases c:ok
 ·simp [c] at h; simp [c,h]
 ·simp [c] at h; rw [aI c]
  cases b1 <;> cases b4 <;> cases b5 <;> cases b6 <;> cases b7 <;> cases b8 <;> cases b9 <;> simp_all
theorem Qdn {a b:Nat} (ha:a < 18446744073709551616) (hb:b < 18446744073709551616):((zv (zb (a:Int) &&& zb (b:Int)).toNat) != 0)=!(a &&& b==0):=by
 rw [BitVec.toNat_and,Vv ha,Vv hb,Yn (bX Nat.and_le_left ha),bne]
 congr 1
 rw [aP,dE,dE]
 exact ⟨fun h=>by exact_mod_cast h,fun h=>by rw [h]; rfl⟩
theorem Qm0 {a b:Nat}:(a &&& b==0)=true↔∀j,¬ (a.testBit j=true/\b.testBit j=true):=by
 rw [dE]
 constructor
 ·intro h j ⟨h1,h2⟩
  have:(a &&& b).testBit j=false:=by rw [h]; exact Nat.zero_testBit j
  rw [Nat.testBit_and,h1,h2] at this; cases this
 intro h
 apply dU
 intro j
 rw [Nat.testBit_and,Nat.zero_testBit,bK]
 intro hb
 rw [aE] at hb
 exact h j hb
theorem Qtj {a b c:Nat}:((a ||| b) &&& c==0)=((a &&& c==0) && (b &&& c==0)):=by
 rw [aP,aE,Qm0,Qm0,Qm0]
 constructor
 ·intro h
  exact ⟨fun j k=>h j ⟨by rw [bH,k.1]; rfl,k.2⟩,fun j k=>h j ⟨by rw [bH,k.1]; simp,k.2⟩⟩
 rintro ⟨h1,h2⟩ j ⟨k1,k2⟩
 rw [bH,aM] at k1
 rcases k1 with k1 | k1
 ·exact h1 j ⟨k1,k2⟩
 exact h2 j ⟨k1,k2⟩
def DjB (n y z x w:Nat):Bool:=decide (y ||| z ||| x ||| w < 2^n) && (y &&& z==0) && (y &&& x==0) && (z &&& x==0) && (y &&& w==0) && (z &&& w==0) && (x &&& w==0)
section
variable {n:Nat} {S:Nat -> Nat} (h1:1<=n) (hn:n<=8) (hS:Gd n S) {y z x w:Nat}
theorem Qqn (hd:DjB n y z x w=true):(∀j,y.testBit j=true->j < n)/\(∀j,z.testBit j=true->j < n)/\(∀j,x.testBit j=true->j < n)/\(∀j,w.testBit j=true->j < n)/\(∀j,¬ (z.testBit j=true/\y.testBit j=true))/\(∀j,y.testBit j=true->(x ||| w).testBit j=false)/\(∀j,z.testBit j=true->(x ||| w).testBit j=false):=by
 unfold DjB at hd
 simp only [aE,aN,Qm0] at hd
 obtain ⟨⟨⟨⟨⟨⟨hu,a1⟩,a2⟩,a3⟩,a4⟩,a5⟩,a6⟩:=hd
 have hb:=Q4a.1 hu
 have no:∀{a:Nat},(∀j,¬ (a.testBit j=true/\x.testBit j=true))->(∀j,¬ (a.testBit j=true/\w.testBit j=true))->∀j,a.testBit j=true->(x ||| w).testBit j=false:=fun {a} p q j hj=>by
  rw [bH,Bool.or_eq_false_iff,bK,bK]
  exact ⟨fun e=>p j ⟨hj,e⟩,fun e=>q j ⟨hj,e⟩⟩
 exact ⟨fun j hj=>hb j (by simp [bH,hj]),fun j hj=>hb j (by simp [bH,hj]),fun j hj=>hb j (by simp [bH,hj]),fun j hj=>hb j (by simp [bH,hj]),
  fun j h=>a1 j ⟨h.2,h.1⟩,no a2 a4,no a3 a5⟩
include h1 hn hS
theorem Q6g (hd:DjB n y z x w=true):∃b,Xs (Qf n S) (y:Int) (z:Int) (zv (zb (x:Int) ||| zb (w:Int)).toNat)=some (b,0) /\
  Y8 (Qf n S) (y:Int) (z:Int) (zv (zb (x:Int) ||| zb (w:Int)).toNat)=some b/\((y=0\/z=0)->b=true)/\(b=true↔¬ ∃u,z.testBit u=true/\(Qbv n S y z (x ||| w)).testBit u=true):=by
 obtain ⟨hy,hz,hx,hw,d1,d2,d3⟩:=Qqn hd
 have hxw:∀j,(x ||| w).testBit j=true->j < n:=fun j hj=>by
  rw [bH,aM] at hj
  exact hj.elim (hx j) (hw j)
 rw [Jc (Xe hn hS hx hx hx) (Xe hn hS hw hw hw)]
 obtain ⟨b,e1,e2⟩:=Qyz h1 hn hS hy hz d1 hxw d2 d3
 obtain ⟨b',e3,e4⟩:=Qss h1 hn hS hy hz hxw d2 d3
 have e:b'=b:=by rw [aP,e2,e4]
 subst e
 refine ⟨b',e1,e3,fun h=>e2.2 ?_,e2⟩
 rintro ⟨u,hu,hs⟩
 rcases h with rfl | rfl
 ·have:=X2 (n:=n) (S:=jo n S (anS n S 0 z (x ||| w)) (x ||| w)) (s:=0) (T:=0) (fun v _ hv=>by simp at hv) .refl n u hs
  simp at this
 ·simp at hu
def rG (n:Nat) (S:Nat -> Nat) (k:Nat) (z x w:Nat):Nat -> Nat :=
 if k=1 then cutG n x 0 S else if k=2 then cutG n x z S else cutG n (x ||| msk n fun i=>z.testBit i && !(ups n (cutG n x 0 S) n w).testBit i) 0 S
theorem Q69 {k:Nat}:Gd n (rG n S k z x w):=by
 unfold rG
 split
 ·exact Qjg hS
 split
 ·exact Qjg hS
 exact Qjg hS
theorem Q17 (hx:∀j,x.testBit j=true->j < n):Kv (agr n S) (z:Int) (x:Int) (w:Int)=some (agr n (rG n S 1 z x w)):=by
 unfold Kv
 rw [Qm8 h1 hn hS (Xe hn hS hx hx hx)]; rfl
theorem Qz8 (hx:∀j,x.testBit j=true->j < n) (hz:∀j,z.testBit j=true->j < n):Ko (agr n S) (z:Int) (x:Int) (w:Int)=some (agr n (rG n S 2 z x w)):=by
 unfold Ko
 rw [Qm8 h1 hn hS (Xe hn hS hx hx hx),aC,Q4s h1 hn (Qjg hS) (Xe hn hS hz hz hz),aC]
 have e:Qf n (cutG n 0 z (cutG n x 0 S))=Qf n (rG n S 2 z x w):=Qq fun v hv=>congrArg Nat.cast (dU fun j=>by
  show _=(cutG n x z S v).testBit j
  by_cases hj:j < n
  ·rw [aP,Qej hj,Qej hj,Qej hj]; simp [and_assoc]
  have q1:(cutG n 0 z (cutG n x 0 S) v).testBit j=false:=by rw [bK]; exact fun h=>hj (Qip h)
  have q2:(cutG n x z S v).testBit j=false:=by rw [bK]; exact fun h=>hj (Qip h)
  rw [q1,q2])
 unfold agr
 rw [e]
theorem Q0y (hx:∀j,x.testBit j=true->j < n) (hz:∀j,z.testBit j=true->j < n) (hw:∀j,w.testBit j=true->j < n):Ku (agr n S) (z:Int) (x:Int) (w:Int)=some (agr n (rG n S 3 z x w)):=by
 unfold Ku
 have hc:Gd n (cutG n x 0 S):=Qjg hS
 have h8:(2:Nat)^n<=256:=aV (n:=2) (by omega) hn
 rw [Qm8 h1 hn hS (Xe hn hS hx hx hx),aC,Q4w h1 hn hc hw,aC]
 refine X5 (Q1a h1 hn hc hz) ?_
 rw [Qm8 h1 hn hc (bO Qi3 (by omega)),aC]
 have e:Qf n (cutG n (msk n fun i=>z.testBit i && !(ups n (cutG n x 0 S) n w).testBit i) 0 (cutG n x 0 S))=Qf n (rG n S 3 z x w):=Qq fun v hv=>congrArg Nat.cast (dU fun j=>by
  show _=(cutG n (x ||| msk n fun i=>z.testBit i && !(ups n (cutG n x 0 S) n w).testBit i) 0 S v).testBit j
  by_cases hj:j < n
  ·rw [aP,Qej hj,Qej hj,Qej hj,bH]; simp; grind
  have q1:(cutG n (msk n fun i=>z.testBit i && !(ups n (cutG n x 0 S) n w).testBit i) 0 (cutG n x 0 S) v).testBit j=false:=by rw [bK]; exact fun h=>hj (Qip h)
  have q2:(cutG n (x ||| msk n fun i=>z.testBit i && !(ups n (cutG n x 0 S) n w).testBit i) 0 S v).testBit j=false:=by rw [bK]; exact fun h=>hj (Qip h)
  rw [q1,q2])
 unfold agr
 rw [e]
theorem Qyg (hd:DjB n y z x w=true) {k:Nat} (hk:1<=k/\k<=3) {b:Bool} (hb:Y8 (Qf n (rG n S k z x w)) (y:Int) (z:Int) (zv (zb (x:Int) ||| zb (w:Int)).toNat)=some b) :
  Qa5 (Qf n S) (k:Int) (y:Int) (z:Int) (x:Int) (w:Int)=some b:=by
 obtain ⟨hy,hz,hx,hw,d1,d2,d3⟩:=Qqn hd
 have hx64:=Xe hn hS hx hx hx
 have hz64:=Xe hn hS hz hz hz
 have hw64:=Xe hn hS hw hw hw
 have h8:(2:Nat)^n<=256:=aV (n:=2) (by omega) hn
 unfold Qa5
 rw [show (0:Int)=((0:Nat):Int) from rfl,Qjq h1 hn hS hx64 (O:=0) (by omega),aC]
 have hk':k=1\/k=2\/k=3:=by omega
 rcases hk' with rfl | rfl | rfl
 ·rw [aI (by decide),aI (by decide),show cutG n x 0 S=rG n S 1 z x w from rfl,hb]; rfl
 ·rw [aH (by decide),Qjq h1 hn hS hx64 hz64,aC,show cutG n x z S=rG n S 2 z x w from rfl,hb]; rfl
 ·have hc:Gd n (cutG n x 0 S):=Qjg hS
  have hup:∀j,(ups n (cutG n x 0 S) n w).testBit j=true->j < n:=fun j hj=>Qlb hc.inn hw hj
  have e1:zv (zb (z:Int) &&& ~~~ zb ((ups n (cutG n x 0 S) n w:Nat):Int)).toNat = ((msk n fun i=>z.testBit i && !(ups n (cutG n x 0 S) n w).testBit i:Nat):Int) :=
   Qi6 (n:=n) (by omega) (Yd hz) (Xe hn hS hup hup hup) (fun _ _=>rfl) (fun _ _=>rfl)
  have hm64:(msk n fun i=>z.testBit i && !(ups n (cutG n x 0 S) n w).testBit i) < 18446744073709551616:=bO Qi3 (by omega)
  rw [aI (by decide),aH (by decide),Qov hn hc.inn hw,aC,e1,Jc hx64 hm64,Qjq h1 hn hS (dZ (n:=64) hx64 hm64) (O:=0) (by omega),aC,
   show cutG n (x ||| msk n fun i=>z.testBit i && !(ups n (cutG n x 0 S) n w).testBit i) 0 S=rG n S 3 z x w from rfl,hb]; rfl
end
def RuleM (m:Qc):Prop:=∀(k:Int) (y z x w:Nat),y < 18446744073709551616->z < 18446744073709551616->x < 18446744073709551616->w < 18446744073709551616->∃(b:Bool) (e:Int),Kj m k (y:Int) (z:Int) (x:Int) (w:Int)=some (b,e)/\J0 m k (y:Int) (z:Int) (x:Int) (w:Int)=some (b,e)
section
variable {n:Nat} {g:Int} {F:Nat -> Ad}
theorem Q3t (hf:Qq2 n g F):Gd n (setF F):=Qxu (fun v hv=>(Qau (hf.node v hv).1.1).2.2) hf.rank
theorem Qbz {y z x w:Nat} (hn:n<=8) (hy:y < 18446744073709551616) (hz:z < 18446744073709551616) (hx:x < 18446744073709551616) (hw:w < 18446744073709551616) {α:Type} {K E:α} :
  (if ((Int.fdiv (zv (zb (zv (zb (zv (zb (y:Int) ||| zb (z:Int)).toNat) ||| zb (x:Int)).toNat) ||| zb (w:Int)).toNat) (2^min (Int.toNat (n:Int)) zk)) != 0)=true then E else
   if ((zv (zb (y:Int) &&& zb (z:Int)).toNat) != 0)=true then E else
   if ((zv (zb (zv (zb (y:Int) ||| zb (z:Int)).toNat) &&& zb (x:Int)).toNat) != 0)=true then E else
   if ((zv (zb (zv (zb (zv (zb (y:Int) ||| zb (z:Int)).toNat) ||| zb (x:Int)).toNat) &&& zb (w:Int)).toNat) != 0)=true then E else K)=if DjB n y z x w=true then K else E:=by
 have o1:=dZ (n:=64) hy hz
 have o2:=dZ (n:=64) o1 hx
 refine Q43 ?_
 rw [Jc hy hz,Jc o1 hx,Jc o2 hw,Qc8 (by omega),Qdn hy hz,Qdn o1 hx,Qdn o2 hw,Qtj,Qtj,Qtj]
 unfold DjB
 cases decide (y ||| z ||| x ||| w < 2^n) <;> cases (y &&& z==0) <;> cases (y &&& x==0) <;> cases (z &&& x==0) <;> cases (y &&& w==0) <;> cases (z &&& w==0) <;> cases (x &&& w==0) <;> rfl
theorem Qr5 {y z x w:Nat} {k:Int} (hk:1<=k/\k<=3) (hn:n<=8) (hy:y < 18446744073709551616) (hz:z < 18446744073709551616) (hx:x < 18446744073709551616) (hw:w < 18446744073709551616) {α:Type} {K E:α} :
  (if ((Int.fdiv (zv (zb (zv (zb (zv (zb (y:Int) ||| zb (z:Int)).toNat) ||| zb (x:Int)).toNat) ||| zb (w:Int)).toNat) (2^min (Int.toNat (n:Int)) zk)) != 0)=true then E else
   if (decide (k < 1))=true then E else if (decide (k > 3))=true then E else
   if ((zv (zb (y:Int) &&& zb (z:Int)).toNat) != 0)=true then E else
   if ((zv (zb (y:Int) &&& zb (x:Int)).toNat) != 0)=true then E else
   if ((zv (zb (y:Int) &&& zb (w:Int)).toNat) != 0)=true then E else
   if ((zv (zb (z:Int) &&& zb (x:Int)).toNat) != 0)=true then E else
   if ((zv (zb (z:Int) &&& zb (w:Int)).toNat) != 0)=true then E else
   if ((zv (zb (x:Int) &&& zb (w:Int)).toNat) != 0)=true then E else K)=if DjB n y z x w=true then K else E:=by
 have o1:=dZ (n:=64) hy hz
 have o2:=dZ (n:=64) o1 hx
 refine Q6j (by simp; omega) (by simp; omega) ?_
 rw [Jc hy hz,Jc o1 hx,Jc o2 hw,Qc8 (by omega),Qdn hy hz,Qdn hy hx,Qdn hy hw,Qdn hz hx,Qdn hz hw,Qdn hx hw]
 unfold DjB
 cases decide (y ||| z ||| x ||| w < 2^n) <;> cases (y &&& z==0) <;> cases (y &&& x==0) <;> cases (z &&& x==0) <;> cases (y &&& w==0) <;> cases (z &&& w==0) <;> cases (x &&& w==0) <;> rfl
theorem Qyy (hf:Qq2 n g F) {o:List Int} (hr:Vn ⟨g,rowG n F⟩=some (⟨⟨g,rowG n F⟩,Qf n (cardN F),Qf n (setF F),o⟩,0)) (ht:Jf ⟨g,rowG n F⟩=some true):RuleM ⟨g,rowG n F⟩:=fun k y z x w hy hz hx hw=>by
 have h1:=hf.n1
 have hn:=hf.n8
 have hS:=Q3t hf
 have hlen:(rowG n F).length=n:=Z9
 have hc:Yx ⟨g,rowG n F⟩ []=some 0:=by
  unfold Yx Qex
  rw [hr]; rfl
 have hp:Kb ⟨g,rowG n F⟩=some (Qf n (setF F),0):=by
  unfold Kb
  rw [hr]; rfl
 have hps:=Qtm (n:=n) (g:=g) (F:=F) hn fun v hv=>(hf.node v hv).1.1
 have hu:zv (n:Int)=(n:Int):=Yn (by omega)
 by_cases hk:1<=k/\k<=3
 ·by_cases hd:DjB n y z x w=true
  ·obtain ⟨kk,rfl⟩:∃kk:Nat,k=kk:=⟨k.toNat,by omega⟩
   obtain ⟨b,e1,e2,e3,_⟩:=Q6g h1 hn (Q69 h1 hn hS (k:=kk) (z:=z) (x:=x) (w:=w)) hd
   obtain ⟨by',bz,bx,bw,_⟩:=Qqn hd
   refine ⟨b,0,?_,?_⟩
   ·unfold Kj
    dsimp only
    rw [hc,aC,aI (by decide),hlen,Qbz hn hy hz hx hw,Qbz hn hy hz hx hw,Qbz hn hy hz hx hw,aH hd,aH hd,aH hd,hp,aC,aC,aC]
    dsimp only
    have hk':kk=1\/kk=2\/kk=3:=by omega
    have fin:∀{G:Option Aa},G=some (agr n (rG n (setF F) kk z x w))->(if ((0:Int) != 0)=true then some (false,(0:Int)) else if ((y:Int)==0)=true then some (true,0) else if ((z:Int)==0)=true then some (true,0) else G.bind fun x23=>(Xs x23.sets.parents (y:Int) (z:Int) (zv (zb (x:Int) ||| zb (w:Int)).toNat)).bind fun x25=>some (x25.1,x25.2))=some (b,0):=fun {G} hG=>by
     rw [aI (by decide)]
     by_cases cy:y=0
     ·rw [aH (by simp [cy]),e3 (.inl cy)]
     rw [aI (by simpa using cy)]
     by_cases cz:z=0
     ·rw [aH (by simp [cz]),e3 (.inr cz)]
     rw [aI (by simpa using cz),hG,aC,e1]; rfl
    rcases hk' with rfl | rfl | rfl
    ·rw [aH (by decide),aH (by omega)]; exact fin (Q17 h1 hn hS bx)
    ·rw [aI (by decide),aH (by decide),aH (by omega)]; exact fin (Qz8 h1 hn hS bx bz)
    rw [aI (by decide),aI (by decide),aH (by decide),aH (by omega)]; exact fin (Q0y h1 hn hS bx bz bw)
   unfold J0
   dsimp only
   rw [ht,aC,aI (by decide),hlen,hu,aH (by omega),Qr5 hk hn hy hz hx hw,aH hd,hps,aC,Qyg h1 hn hS hd (by omega) e2]; rfl
  refine ⟨false,2,?_,?_⟩
  ·unfold Kj
   dsimp only
   rw [hc,aC,aI (by decide),hlen,Qbz hn hy hz hx hw,Qbz hn hy hz hx hw,Qbz hn hy hz hx hw,aI hd,aI hd,aI hd]
   have hk':k=1\/k=2\/k=3:=by omega
   rcases hk' with rfl | rfl | rfl
   ·rw [aH (by decide),aH (by omega)]
   ·rw [aI (by decide),aH (by decide),aH (by omega)]
   rw [aI (by decide),aI (by decide),aH (by decide),aH (by omega)]
  unfold J0
  dsimp only
  rw [ht,aC,aI (by decide),hlen,hu,aH (by omega),Qr5 hk hn hy hz hx hw,aI hd]
 refine ⟨false,2,?_,?_⟩
 ·unfold Kj
  rw [hc,aC,aI (by decide),aI (by omega),aI (by omega),aI (by omega)]
 unfold J0
 dsimp only
 rw [ht,aC,aI (by decide),hlen,hu,aH (by omega)]
 split
 ·rfl
 by_cases c:k < 1
 ·rw [aH (by simpa using c)]
 rw [aI (by simpa using c),aH (by simp; omega)]
theorem Q1e {m:Qc} (h:Vn m=some Qtd) (hr:Jf m=some false):RuleM m:=fun k y z x w hy hz hx hw=>by
 refine ⟨false,50,?_,?_⟩
 ·unfold Kj
  rw [Qt8 h,aC,aH (by decide)]
 unfold J0
 rw [hr,aC,aH (by decide)]
theorem Qt7 (hb:NB n F) (hn:n<=1000000):RuleM ⟨g,rowG n F⟩:=by
 rcases Qyw (g:=g) hb hn with ⟨hf,o,hr⟩ | ⟨hf,hr⟩
 ·rcases Qpn (g:=g) hb with ⟨_,ht⟩ | ⟨no,_⟩
  ·exact Qyy hf hr ht
  exact absurd hf no
 rcases Qpn (g:=g) hb with ⟨hf',_⟩ | ⟨_,ht⟩
 ·exact absurd hf' hf
 exact Q1e hr ht
end
end Go.Ab
namespace Go.Ab
open Go
theorem Q7c {f:Nat -> Nat}:∀{k:Nat},k < 8->lkI ([(f 0:Int),(f 1:Int),(f 2:Int),(f 3:Int),(f 4:Int),(f 5:Int),(f 6:Int),(f 7:Int)]:List Int) (k:Int)=some (f k:Int)
 | 0,_=>rfl
 | 1,_=>rfl
 | 2,_=>rfl
 | 3,_=>rfl
 | 4,_=>rfl
 | 5,_=>rfl
 | 6,_=>rfl
 | 7,_=>rfl
theorem Q65 {f:Nat -> Nat}:∀{k:Nat},k < 4->lkI ([(f 0:Int),(f 1:Int),(f 2:Int),(f 3:Int)]:List Int) (k:Int)=some (f k:Int)
 | 0,_=>rfl
 | 1,_=>rfl
 | 2,_=>rfl
 | 3,_=>rfl
def ptS (f:Nat -> Nat) (n k:Nat):Nat := msk n fun j=>decide (f j % 5=k)
theorem Q07 {n:Nat} (hn:n<=8) {f:Nat -> Nat} (hf:∀j,j < 8->f j < 256) :
  Qci (n:Int) ((f 0:Int),(f 1:Int),(f 2:Int),(f 3:Int),(f 4:Int),(f 5:Int),(f 6:Int),(f 7:Int))=some ((ptS f n 0:Int),(ptS f n 1:Int),(ptS f n 2:Int),(ptS f n 3:Int)):=by
 have hr:=Zf (n:=n) (k0:=0) (by omega) (by omega) (fun i (t:Int × Int × Int × Int)=>(i,t)) (body:=Qag (n:Int) ((f 0:Int),(f 1:Int),(f 2:Int),(f 3:Int),(f 4:Int),(f 5:Int),(f 6:Int),(f 7:Int)))
  (fun i=>((ptS f i 0:Int),(ptS f i 1:Int),(ptS f i 2:Int),(ptS f i 3:Int))) ((ptS f n 0:Int),(ptS f n 1:Int),(ptS f n 2:Int),(ptS f n 3:Int))
  (fun i _ hi=>by
   have e5:Int.tmod (f i:Int) 5=((f i % 5:Nat):Int):=by rw [Qbk (by omega)]; omega
   have hs:∀k,ptS f (i+1) k=ptS f i k ||| if f i % 5=k then 2^i else 0:=fun k=>by
    show (msk i _ ||| if decide (f i % 5=k)=true then 2^i else 0)=_
    by_cases c:f i % 5=k <;> simp [c,ptS]
   have h8:(2:Nat)^i<=2^8:=aV (by omega) (by omega)
   have hl:∀k,ptS f i k < 18446744073709551616:=fun k=>bO Qi3 (by omega)
   unfold Qag
   dsimp only
   rw [aH (dlt hi),Q7c (by omega),aC,e5,Yn (n:=i) (by omega),Qri (by omega)]
   by_cases c:f i % 5 < 4
   ·rw [aH (by rw [aN]; omega),Q65 (f:=ptS f i) c,aC,aH (Z2 i),Jc (hl _) (Qpl (by omega))]
    have e:∀(k:Nat) (z:Int),z=(k:Int)->(if ((f i % 5:Nat):Int)=z then ((ptS f i (f i % 5) ||| 2^i:Nat):Int) else (ptS f i k:Int))=(ptS f (i+1) k:Int):=fun k z hz=>by
     rw [hs k]
     by_cases q:f i % 5=k
     ·rw [aH (by omega),aH q,q]
     rw [aI (by omega),aI q,Nat.or_zero]
    rw [e 0 0 rfl,e 1 1 rfl,e 2 2 rfl,e 3 3 rfl]
   have e:∀k,k < 4->ptS f (i+1) k=ptS f i k:=fun k hk=>by rw [hs k,aI (by omega),Nat.or_zero]
   rw [aI (by rw [aN]; omega),e 0 (by omega),e 1 (by omega),e 2 (by omega),e 3 (by omega)])
  (by unfold Qag; dsimp only; rw [aI (nlt n)])
 unfold Qci
 exact X5 hr rfl
def Msk (x:Int):Prop:=∃t:Nat,t < 18446744073709551616/\x=(t:Int)
def Msk4 (a:Int × Int × Int × Int):Prop:=Msk a.1/\Msk a.2.1/\Msk a.2.2.1/\Msk a.2.2.2
theorem Q77 {α:Type} {a b c:α} {k:Nat} (h:k < 3) {Q:α->Prop} (h1:Q a) (h2:Q b) (h3:Q c):∃x,lkI ([a,b,c]:List α) (k:Int)=some x/\Q x:=by
 match k,h with
 | 0,_=>exact ⟨a,rfl,h1⟩
 | 1,_=>exact ⟨b,rfl,h2⟩
 | 2,_=>exact ⟨c,rfl,h3⟩
theorem Q1g {m:Qc} (h:RuleM m) {p3:Int} {a:Int × Int × Int × Int} (ha:Msk4 a):Qb fuel (Vb p3 m a) 0=some (.inr ()):=by
 obtain ⟨⟨y,hy,ey⟩,⟨z,hz,ez⟩,⟨x,hx,ex⟩,w,hw,ew⟩:=ha
 have hr:=Zf (n:=5) (k0:=0) (by omega) (by omega) (fun i (_:Unit)=>i) (body:=Vb p3 m a) (fun _=>()) (.inr ())
  (fun k _ hk=>by
   have hl:([1,2,3,0,p3]:List Int).length=5:=rfl
   unfold Vb
   rw [aH (by rw [aN]; omega),Q0 (by rw [hl]; omega),aC,ey,ez,ex,ew]
   obtain ⟨b,e,h1,h2⟩:=h (([1,2,3,0,p3]:List Int)[k]'(by rw [hl]; omega)) y z x w hy hz hx hw
   rw [h1,aC,h2,aC,aI (by simp),aI (by simp)])
  (by unfold Vb; rw [aI (by decide)])
 exact hr
theorem Q1b {m:Qc} (h:RuleM m) {x3 p4:Int × Int × Int × Int} {p3:Int} (hx:Msk4 x3) (hp:Msk4 p4):Qb fuel (Vf x3 p4 p3 m) 0=some (.inr ()):=by
 have hr:=Zf (n:=3) (k0:=0) (by omega) (by omega) (fun i (_:Unit)=>i) (body:=Vf x3 p4 p3 m) (fun _=>()) (.inr ())
  (fun k _ hk=>by
   obtain ⟨a,e,ha⟩:=Q77 (a:=(x3.1,x3.2.1,x3.2.2.1,x3.2.2.2)) (b:=(p4.1,p4.2.1,p4.2.2.1,p4.2.2.2)) (c:=(x3.1,x3.2.1,x3.2.2.1,p4.2.2.2)) hk (Q:=Msk4) hx hp ⟨hx.1,hx.2.1,hx.2.2.1,hp.2.2.2⟩
   unfold Vf
   rw [aH (by rw [aN]; omega),e,aC]
   exact X5 (Q1g h ha) rfl)
  (by unfold Vf; rw [aI (by decide)])
 exact hr
def f8 (a0 a1 a2 a3 a4 a5 a6 a7:Nat):Nat -> Nat
 | 0=>a0
 | 1=>a1
 | 2=>a2
 | 3=>a3
 | 4=>a4
 | 5=>a5
 | 6=>a6
 | _=>a7
theorem Qe6 {n:Int} (h:(Lit.int .u8 n).wf=true):∃a:Nat,a < 256/\n=(a:Int):=⟨n.toNat,by have:=Qsx h; omega,by have:=Qsx h; omega⟩
theorem rules_true (p0:Qd) (p1:Q9) (p2:Int × Int × Int × Int × Int × Int × Int × Int) (p3:Int) (p4:Int × Int × Int × Int) (h0:Vo p0) (h1:K2 p1)
  (h2:((Lit.int .u8 p2.1).wf=true/\(Lit.int .u8 p2.2.1).wf=true/\(Lit.int .u8 p2.2.2.1).wf=true/\(Lit.int .u8 p2.2.2.2.1).wf=true/\(Lit.int .u8 p2.2.2.2.2.1).wf=true/\(Lit.int .u8 p2.2.2.2.2.2.1).wf=true/\(Lit.int .u8 p2.2.2.2.2.2.2.1).wf=true/\(Lit.int .u8 p2.2.2.2.2.2.2.2).wf=true)) {H3:Prop} (_:H3)
  (h4:((Lit.int .u64 p4.1).wf=true/\(Lit.int .u64 p4.2.1).wf=true/\(Lit.int .u64 p4.2.2.1).wf=true/\(Lit.int .u64 p4.2.2.2).wf=true)) :
  Qcr p0 p1 p2 p3 p4=some true:=by
 obtain ⟨D,n,g,F,X,hB,hn6,e1,e2⟩:=Q2m h0 h1
 have V:=X.toVX.vn
 have hlen:D.net.Nodes.length=D.n:=Z9
 obtain ⟨w0,w1,w2,w3,w4,w5,w6,w7⟩:=h2
 obtain ⟨a0,b0,c0⟩:=Qe6 w0
 obtain ⟨a1,b1,c1⟩:=Qe6 w1
 obtain ⟨a2,b2,c2⟩:=Qe6 w2
 obtain ⟨a3,b3,c3⟩:=Qe6 w3
 obtain ⟨a4,b4,c4⟩:=Qe6 w4
 obtain ⟨a5,b5,c5⟩:=Qe6 w5
 obtain ⟨a6,b6,c6⟩:=Qe6 w6
 obtain ⟨a7,b7,c7⟩:=Qe6 w7
 have hp:=Q07 (n:=D.n) V.n8 (f:=f8 a0 a1 a2 a3 a4 a5 a6 a7) (fun j hj=>by
  match j,hj with
  | 0,_=>exact b0
  | 1,_=>exact b1
  | 2,_=>exact b2
  | 3,_=>exact b3
  | 4,_=>exact b4
  | 5,_=>exact b5
  | 6,_=>exact b6
  | 7,_=>exact b7)
 have hs:∀f k,Msk ((ptS f D.n k:Nat):Int):=fun f k=>⟨_,bO Qi3 (bY (aV (by omega) V.n8) (by decide)),rfl⟩
 have h4':Msk4 p4:=⟨Qo8 h4.1,Qo8 h4.2.1,Qo8 h4.2.2.1,Qo8 h4.2.2.2⟩
 unfold Qcr
 rw [e1,aC,hlen,c0,c1,c2,c3,c4,c5,c6,c7]
 refine X5 hp ?_
 rw [e2,aC]
 have hD:D.net=⟨D.g,rowG D.n D.node⟩:=rfl
 have hr:=Zf (n:=2) (k0:=0) (by omega) (by omega) (fun i (_:Unit)=>i) (body:=J5 D.net ⟨g,rowG n F⟩ ((ptS (f8 a0 a1 a2 a3 a4 a5 a6 a7) D.n 0:Int),(ptS (f8 a0 a1 a2 a3 a4 a5 a6 a7) D.n 1:Int),(ptS (f8 a0 a1 a2 a3 a4 a5 a6 a7) D.n 2:Int),(ptS (f8 a0 a1 a2 a3 a4 a5 a6 a7) D.n 3:Int)) p4 p3) (fun _=>()) (.inr ())
  (fun k _ hk=>by
   obtain ⟨m,hm,hq⟩:=Q7w (a:=D.net) (b:=(⟨g,rowG n F⟩:Qc)) hk (Q:=RuleM) (by rw [hD]; exact Qt7 (Q7t X.toVX) (by have:=V.n8; omega)) (Qt7 hB (by omega))
   unfold J5
   rw [aH (by rw [aN]; omega),hm,aC]
   exact X5 (Q1b hq ⟨hs _ 0,hs _ 1,hs _ 2,hs _ 3⟩ h4') rfl)
  (by unfold J5; rw [aI (by decide)])
 refine X5 hr ?_
 dsimp only
 rw [Qyn]; rfl
end Go.Ab
namespace Go.Ab
open Go Go.Proofs Go.Proofs.YtgogkahhifkocaaDoor
open Go.ChangeShapes Go.WideShapes Go.ChangeAt Go.RowKit
abbrev dr_laid:List (String × DataW Unit):=[("math/bits.deBruijn32tab",Rows.laid_math_bits_deBruijn32tab),("math/bits.deBruijn64tab",Rows.laid_math_bits_deBruijn64tab)]
theorem dr_own:ownKnob Tryd.prog.godebug=none:=by kernel_rfl
theorem Q23:Tryd.prog.globalNamed "math/bits.deBruijn32tab" = some 0:=by kernel_rfl
theorem Q2y:Tryd.prog.globalNamed "math/bits.deBruijn64tab" = some 1:=by kernel_rfl
theorem dr_met (os:Os) (args:Array Value):laidMetH Tryd.prog dr_laid ((World.doorLaid Tryd.prog 19 os).forCall (fun _ _=>0) ⟨#[],args,[]⟩).memory :=
 laidMetH_of_parts3 (fuel:=8) (laidMet_of_run' 8 (by kernel_rfl) (by kernel_rfl)) (by kernel_rfl) (by kernel_rfl)
theorem dr_glob {W:World} (h:laidMetH Tryd.prog dr_laid W):Go.Ab.GlobIn W:=by
 rw [MakeChecks.laidMetH_plain _ _ _ (by kernel_rfl)] at h
 have h0:=Lib.tabIs_of_head (k:=.u8) (zs:=Go.Ab.tab0) (t:=251) (e:=5) (n:=32) Q23 (by kernel_rfl) (by kernel_rfl) (by kernel_rfl) (by kernel_rfl) (by kernel_rfl) h
 have h1:=Lib.tabIs_of_head (k:=.u8) (zs:=Go.Ab.tab1) (t:=252) (e:=5) (n:=64) Q2y (by kernel_rfl) (by kernel_rfl) (by kernel_rfl) (by kernel_rfl) (by kernel_rfl) h.tail
 intro g xs hg i v hv
 match g,hg with
 | 0,hg =>
  cases hg
  have hi:i < Go.Ab.tab0.length:=by have:=(aD.1 hv).1; simpa using this
  have:=h0.cell Q23 i hi
  rw [this]
  rw [bF] at hv
  simpa [List.getD,hi] using hv
 | 1,hg =>
  cases hg
  have hi:i < Go.Ab.tab1.length:=by have:=(aD.1 hv).1; simpa using this
  have:=h1.cell Q2y i hi
  rw [this]
  rw [bF] at hv
  simpa [List.getD,hi] using hv
 | n+2,hg=>cases hg
end Go.Ab
