/- What functions compute. No conditions. -/
import Derived.Test.YtojklbpplceiiaaDoorW16
import Derived.Test.YtojklbpplceiiaaDoorRows
import Derived.Test.YtojklbpplceiiaaDoorEng7
import Derived.WalkKit
import Derived.ProofKit
import Derived.LaidMore
import Derived.Lib.LaidTab
import Derived.Stop.LaidErr
import Derived.Stop.Joined
import Derived.OpenShut
set_option linter.all false
namespace Go.Ab
open Go
set_option maxRecDepth 100000
set_option maxHeartbeats 1000000
structure Plc (n:Nat) (q p:Nat → Nat):Prop where
 qn:∀i,i < n→q i < n
 pn:∀v,v < n→p v < n
 qp:∀v,v < n→q (p v)=v
 pq:∀i,i < n→p (q i)=i
theorem Q3i {n:Nat} {S:Nat → Nat} (hS:Gd n S):∃q p,Plc n q p∧∀i k,i < n→k < n→(S (q k)).testBit (q i)=true→i < k:=by
 obtain ⟨r,hr⟩:=Qde hS
 have hperm:=V3 (fun u v=>decide (r u≤r v)) (List.range n)
 have hsort:=Qcf (le:=fun u v=>decide (r u≤r v)) (fun x y z h1 h2=>by simp only [decide_eq_true_eq] at *; omega) (fun x y=>by simp only [Bool.or_eq_true,decide_eq_true_eq]; omega) (List.range n)
 generalize isort (fun u v=>decide (r u≤r v)) (List.range n)=l at *
 have hlen:l.length=n:=by rw [hperm.length_eq,List.length_range]
 have hnod:l.Nodup:=hperm.nodup_iff.2 List.nodup_range
 have hq:∀i,(h:i < n)→(l[i]?).getD 0=l[i]'(by omega):=fun i h=>by rw [List.getElem?_eq_getElem (by omega)]; rfl
 have hqn:∀i,i < n→(l[i]?).getD 0 < n:=fun i h=>by
  rw [hq i h]
  exact List.mem_range.1 (hperm.mem_iff.1 (List.getElem_mem _))
 have hinj:∀i k,i < n→k < n→(l[i]?).getD 0=(l[k]?).getD 0→i=k:=fun i k hi hk e=>by
  rw [hq i hi,hq k hk] at e
  have:=List.pairwise_iff_getElem.1 hnod
  rcases Nat.lt_trichotomy i k with h | h | h
  ·exact absurd e (this i k (by omega) (by omega) h)
  ·exact h
  ·exact absurd e.symm (this k i (by omega) (by omega) h)
 have hsur:∀v,v < n→∃i,i < n∧(l[i]?).getD 0=v:=fun v hv=>by
  obtain ⟨i,hi,e⟩:=List.mem_iff_getElem.1 (hperm.mem_iff.2 (List.mem_range.2 hv))
  exact ⟨i,by omega,by rw [hq i (by omega)]; exact e⟩
 classical
 refine ⟨fun i=>(l[i]?).getD 0,fun v=>if h:∃i,i < n∧(l[i]?).getD 0=v then Classical.choose h else 0,⟨hqn,fun v hv=>?_,fun v hv=>?_,fun i hi=>?_⟩,fun i k hi hk hb=>?_⟩
 ·simp only [dif_pos (hsur v hv)]
  exact (Classical.choose_spec (hsur v hv)).1
 ·simp only [dif_pos (hsur v hv)]
  exact (Classical.choose_spec (hsur v hv)).2
 ·have hs:=hsur _ (hqn i hi)
  simp only [dif_pos hs]
  exact hinj _ _ (Classical.choose_spec hs).1 hi (Classical.choose_spec hs).2
 ·have h1:=hr _ (hqn k hk) _ hb
  apply Classical.byContradiction
  intro hno
  rcases Nat.lt_or_ge k i with h | h
  ·have:=List.pairwise_iff_getElem.1 hsort k i (by omega) (by omega) h
   rw [←hq k hk,←hq i hi,decide_eq_true_eq] at this
   dsimp only at h1
   omega
  ·have:i=k:=by omega
   subst this; exact absurd h1 (Nat.lt_irrefl _)
def dcE:List (Nat × Nat):=[(0,1),(0,2),(1,2),(0,3),(1,3),(2,3),(0,4),(1,4),(2,4),(3,4)]
theorem Q5l {i k:Nat} (h:i < k) (hk:k < 5):egI i k < 10∧(dcE[egI i k]?).getD (0,0)=(i,k):=by
 have hk':k=1∨k=2∨k=3∨k=4:=by omega
 have hi':i=0∨i=1∨i=2∨i=3:=by omega
 rcases hk' with rfl | rfl | rfl | rfl <;> rcases hi' with rfl | rfl | rfl | rfl <;> first | omega | decide
section
variable {n:Nat} {S:Nat → Nat} {q p:Nat → Nat} (hn:n≤5) (hS:Gd n S) (hP:Plc n q p) (hU:∀i k,i < n→k < n→(S (q k)).testBit (q i)=true→i < k)
def bB (n:Nat) (S q:Nat → Nat) (i k:Nat):Bool:=decide (i < n) && decide (k < n) && (S (q k)).testBit (q i)
def cdU (n:Nat) (S q:Nat → Nat):Nat := msk 10 fun e=>bB n S q ((dcE[e]?).getD (0,0)).1 ((dcE[e]?).getD (0,0)).2
def bkT (n:Nat) (p:Nat → Nat) (T:Nat → Nat):Nat → Nat := fun v=>msk n fun x=>(T (p v)).testBit (p x)
theorem Qo0 {i k:Nat}:bB n S q i k=true↔i < n∧k < n∧(S (q k)).testBit (q i)=true:=by
 unfold bB
 simp only [Bool.and_eq_true,decide_eq_true_eq,and_assoc]
theorem Qau {T:Nat → Nat} {v x:Nat} (hx:x < n):(bkT n p T v).testBit x=(T (p v)).testBit (p x):=by
 unfold bkT; rw [Z7]; simp [hx]
include hn hS hP hU
theorem Q0t {i k:Nat} (hi:i < 5) (hk:k < 5):paB (cdU n S q) 0 i k=bB n S q i k:=by
 rw [Bool.eq_iff_iff,Qbq]
 have key:i < k→eB (cdU n S q) i k=bB n S q i k:=fun h=>by
  obtain ⟨h1,h2⟩:=Q5l h hk
  unfold eB
  rw [Qxf]
  unfold cdU
  rw [Z7,h2]
  simp [h1]
 constructor
 ·rintro ⟨h1,h2⟩; rw [←key h1]; exact h2
 ·intro h
  obtain ⟨h1,h2,h3⟩:=Qo0.1 h
  have:=hU i k h1 h2 h3
  exact ⟨this,by rw [key this]; exact h⟩
theorem Qpm {i k:Nat} (hi:i < 5) (hk:k < 5):(tM (cdU n S q) 0 k).testBit i=bB n S q i k:=by rw [Qd6 hi,Q0t hn hS hP hU hi hk]
theorem Qk2 {u w:Nat} (hu:u < 5) (hw:w < 5):near (tM (cdU n S q) 0) u w=(decide (u < n) && decide (w < n) && near S (q u) (q w)):=by
 unfold near
 rw [Qpm hn hS hP hU hw hu,Qpm hn hS hP hU hu hw]
 unfold bB
 cases decide (u < n) <;> cases decide (w < n) <;> simp
theorem Q3a:Gd 5 (tM (cdU n S q) 0):=Qe3 id fun v hv j hj=>by
 have hj5:j < 5:=by
  unfold tM at hj; rw [Z7] at hj
  simp only [Bool.and_eq_true,decide_eq_true_eq] at hj; exact hj.1
 rw [Qd6 hj5] at hj
 exact ⟨hj5,(Qbq.1 hj).1⟩
theorem Q5b {a b d:Nat} (ha:a < n) (hb:b < n) (hd:d < n):V5 (tM (cdU n S q) 0) (p a) (p b) (p d)=V5 S a b d:=by
 have pa:=hP.pn a ha
 have pb:=hP.pn b hb
 have pd:=hP.pn d hd
 unfold V5
 rw [Qpm hn hS hP hU (by omega) (by omega),Qpm hn hS hP hU (by omega) (by omega),Qk2 hn hS hP hU (by omega) (by omega)]
 unfold bB
 rw [hP.qp a ha,hP.qp b hb,hP.qp d hd]
 simp [pa,pb,pd]
theorem Qx2 {T:Nat → Nat} (hT:Cls 5 (tM (cdU n S q) 0) T):Cls n S (bkT n p T):=by
 obtain ⟨t,ht⟩:=Qde hT.gd
 have hnear:∀u w,u < n→w < n→near (bkT n p T) u w=near S u w:=fun u w hu hw=>by
  have e:near (bkT n p T) u w=near T (p u) (p w):=by unfold near; rw [Qau hw,Qau hu]
  have pu:=hP.pn u hu
  have pw:=hP.pn w hw
  rw [e,hT.nr _ _ (by omega) (by omega),Qk2 hn hS hP hU (by omega) (by omega),hP.qp u hu,hP.qp w hw]
  simp [pu,pw]
 refine ⟨Qe3 (fun v=>t (p v)) fun v hv j hj=>?_,hnear,Qip.2 fun a b d h1 h2 h3=>?_⟩
 ·have hjn:j < n:=by
   unfold bkT at hj; rw [Z7] at hj
   simp only [Bool.and_eq_true,decide_eq_true_eq] at hj; exact hj.1
  rw [Qau hjn] at hj
  have:=hP.pn v hv
  exact ⟨hjn,ht (p v) (by omega) (p j) hj⟩
 ·have ha:a < n:=by omega
  have pa:=hP.pn a ha
  have pb:=hP.pn b h3
  have pd:=hP.pn d h2
  have hne:p a≠p d:=fun e=>by
   have:=congrArg q e
   rw [hP.qp a ha,hP.qp d h2] at this; omega
  rw [←Q5b hn hS hP hU ha h3 h2,←Qpn hT.cl hT.gd (Q3a hn hS hP hU) hne (by omega) (by omega) (by omega)]
  unfold V5
  rw [Qau ha,Qau h2]
  have e:near (bkT n p T) a d=near T (p a) (p d):=by unfold near; rw [Qau h2,Qau ha]
  rw [e]
variable {O:Nat → Nat → Bool} (hA:Qac n S O) (hC:K7 n S O)
def oU (n:Nat) (q:Nat → Nat) (O:Nat → Nat → Bool) (i k:Nat):Bool:=decide (i < n) && decide (k < n) && O (q i) (q k)
omit hn hS hP hU in
theorem Qcn {i k:Nat}:oU n q O i k=true↔i < n∧k < n∧O (q i) (q k)=true:=by
 unfold oU
 simp only [Bool.and_eq_true,decide_eq_true_eq,and_assoc]
theorem Q3t (hA:Qac n S O):Qac 5 (tM (cdU n S q) 0) (oU n q O):=by
 refine ⟨fun a b h=>?_,fun T hT a b h=>?_,fun a b d hne ha hb hd h=>?_⟩
 ·have:=Qcn.1 h; omega
 ·obtain ⟨h1,h2,h3⟩:=Qcn.1 h
  have:=hA.snd _ (Qx2 hn hS hP hU hT) _ _ h3
  rw [Qau (hP.qn a h1),hP.pq a h1,hP.pq b h2] at this
  exact this
 ·have hb2:=h
  unfold V5 at hb2
  simp only [Bool.and_eq_true,Bool.not_eq_true'] at hb2
  obtain ⟨⟨g1,g2⟩,g3⟩:=hb2
  rw [Qpm hn hS hP hU ha hb] at g1
  rw [Qpm hn hS hP hU hd hb] at g2
  obtain ⟨a1,b1,c1⟩:=Qo0.1 g1
  obtain ⟨d1,_,c2⟩:=Qo0.1 g2
  rw [Qk2 hn hS hP hU ha hd] at g3
  refine Qcn.2 ⟨a1,b1,hA.col (q a) (q b) (q d) (fun e=>hne ?_) (hP.qn a a1) (hP.qn b b1) (hP.qn d d1) ?_⟩
  ·have:=congrArg p e
   rwa [hP.pq a a1,hP.pq d d1] at this
  ·unfold V5
   rw [c1,c2]
   simp only [a1,d1,decide_true,Bool.true_and] at g3
   rw [g3]; rfl
theorem Qxl (hC:K7 n S O):K7 5 (tM (cdU n S q) 0) (oU n q O):=by
 have ln:∀a b,a < 5→b < 5→lnB (near (tM (cdU n S q) 0)) (oU n q O) a b=true→a < n∧b < n∧lnB (near S) O (q a) (q b)=true:=fun a b ha hb h=>by
  obtain ⟨h1,h2,h3⟩:=Qb5.1 h
  rw [Qk2 hn hS hP hU ha hb] at h1
  simp only [Bool.and_eq_true,decide_eq_true_eq] at h1
  obtain ⟨⟨a1,b1⟩,c1⟩:=h1
  unfold oU at h2 h3
  simp only [a1,b1,decide_true,Bool.true_and] at h2 h3
  exact ⟨a1,b1,Qb5.2 ⟨c1,h2,h3⟩⟩
 intro a b ha hb h
 obtain ⟨a1,b1,hl⟩:=ln a b ha hb h
 have hr:=hC _ _ (hP.qn a a1) (hP.qn b b1) hl
 rw [Bool.eq_false_iff] at hr ⊢
 intro hu
 refine hr ?_
 unfold ruB at hu ⊢
 rw [Bool.or_eq_true,Bool.or_eq_true] at hu ⊢
 have nf:∀c d,c < n→d < n→near (tM (cdU n S q) 0) c d=false→near S (q c) (q d)=false:=fun c d hc hd e=>by
  rw [Qk2 hn hS hP hU (by omega) (by omega)] at e
  simpa [hc,hd] using e
 rcases hu with (hu | hu) | hu
 ·obtain ⟨c,h1,h2,h3,h4⟩:=Qhz.1 hu
  obtain ⟨c1,_,c2⟩:=Qcn.1 h3
  refine .inl (.inl (Qhz.2 ⟨q c,hP.qn c c1,fun e=>h2 ?_,c2,nf c b c1 b1 h4⟩))
  have:=congrArg p e
  rwa [hP.pq c c1,hP.pq b b1] at this
 ·obtain ⟨c,h1,h2,h3⟩:=Qhu.1 hu
  obtain ⟨_,c1,c2⟩:=Qcn.1 h2
  obtain ⟨_,_,c3⟩:=Qcn.1 h3
  exact .inl (.inr (Qhu.2 ⟨q c,hP.qn c c1,c2,c3⟩))
 ·obtain ⟨c,d,h1,h2,h3,h4,h5,h6,h7⟩:=Qhx.1 hu
  have hd5:d < 5:=by omega
  obtain ⟨_,c1,l1⟩:=ln a c ha h1 h3
  obtain ⟨_,d1,l2⟩:=ln a d ha hd5 h4
  obtain ⟨_,_,o1⟩:=Qcn.1 h5
  obtain ⟨_,_,o2⟩:=Qcn.1 h6
  have hnr:=nf c d c1 d1 h7
  have hne:q c≠q d:=fun e=>by
   have:=congrArg p e
   rw [hP.pq c c1,hP.pq d d1] at this; omega
  rcases Nat.lt_or_gt_of_ne hne with h | h
  ·exact .inr (Qhx.2 ⟨q d,q c,hP.qn d d1,h,l2,l1,o2,o1,by rw [near_symm]; exact hnr⟩)
  ·exact .inr (Qhx.2 ⟨q c,q d,hP.qn c c1,h,l1,l2,o1,o2,hnr⟩)
end
theorem Q53 {n:Nat} {S:Nat → Nat} (hn:n≤5) (hS:Gd n S) {O:Nat → Nat → Bool} (hA:Qac n S O) (hC:K7 n S O) {a b:Nat} (hb:b < n) (h:(S b).testBit a=true):O a b=true∨∃T,Cls n S T∧(T a).testBit b=true:=by
 have ha:=hS.inn b hb a h
 obtain ⟨q,p,hP,hU⟩:=Q3i hS
 have pa:=hP.pn a ha
 have pb:=hP.pn b hb
 have hc:cdU n S q < 1024:=msk_lt 10 _
 have he:paB (cdU n S q) 0 (p a) (p b)=true:=by
  rw [Q0t hn hS hP hU (by omega) (by omega),Qo0,hP.qp a ha,hP.qp b hb]
  exact ⟨pa,pb,h⟩
 rcases Q2r (Q3a hn hS hP hU) (Q3t hn hS hP hU hA) (Qxl hn hS hP hU hC) hc (a:=p a) (b:=p b) (by omega) (by omega) he with h1 | ⟨T,h1,h2⟩
 ·obtain ⟨_,_,h3⟩:=Qcn.1 h1
  rw [hP.qp a ha,hP.qp b hb] at h3
  exact .inl h3
 ·refine .inr ⟨_,Qx2 hn hS hP hU h1,?_⟩
  rw [Qau hb]; exact h2
end Go.Ab
namespace Go.Ab
open Go
set_option maxRecDepth 100000
set_option maxHeartbeats 1000000
section
variable {n:Nat} {S:Nat → Nat}
theorem Qqd (hS:Gd n S):Cls n S S:=⟨hS,fun _ _ _ _=>rfl,rfl⟩
theorem Qdq (hS:Gd n S) {x:List Int}:x∈Yr n S↔∃T,x=Qg n T∧Cls n S T:=by
 rw [Qy8 hS]
 constructor
 ·rintro ⟨T,h1,h2,h3,h4⟩; exact ⟨T,h1,h2,h3,h4⟩
 ·rintro ⟨T,h1,h2⟩; exact ⟨T,h1,h2.gd,h2.nr,h2.cl⟩
def Yx (n:Nat) (S:Nat → Nat) (a b:Nat):Bool:=(Yr n S).all fun x=>((x[b]?).getD 0).toNat.testBit a
theorem Qsp {T:Nat → Nat} {b:Nat} (hb:b < n):((Qg n T)[b]?).getD 0=(T b:Int):=by
 have h:=Z4 (n:=n) (w:=T) hb
 rw [Zo (by rw [Z3]; exact hb)] at h
 rw [List.getElem?_eq_getElem (by rw [Z3]; exact hb),Option.getD_some]
 exact Option.some.inj h
theorem Qy7 (hS:Gd n S) {a b:Nat} (hb:b < n):Yx n S a b=true↔∀T,Cls n S T→(T b).testBit a=true:=by
 unfold Yx
 rw [List.all_eq_true]
 constructor
 ·intro h T hT
  have:=h _ ((Qdq hS).2 ⟨T,rfl,hT⟩)
  rw [Qsp hb] at this
  simpa using this
 ·intro h x hx
  obtain ⟨T,rfl,hT⟩:=(Qdq hS).1 hx
  rw [Qsp hb]
  simpa using h T hT
theorem Q1h (hn:n≤5) (hS:Gd n S) {O:Nat → Nat → Bool} (hA:Qac n S O) (hC:K7 n S O) {a b:Nat} (ha:a < n) (hb:b < n):O a b=(near S a b && Yx n S a b):=by
 rw [Bool.eq_iff_iff,Bool.and_eq_true,Qy7 hS hb]
 constructor
 ·intro h
  have:=hA.snd S (Qqd hS) a b h
  exact ⟨by unfold near; rw [this]; simp,fun T hT=>hA.snd T hT a b h⟩
 ·rintro ⟨_,h⟩
  rcases Q53 hn hS hA hC hb (h S (Qqd hS)) with h1 | ⟨T,h1,h2⟩
  ·exact h1
  ·obtain ⟨r,hr⟩:=Qde h1.gd
   have g1:=hr b hb a (h T h1)
   have g2:=hr a ha b h2
   omega
theorem Qm5 (hn1:1≤n) (hn:n≤5) (hS:Gd n S):Vx (Qg n S)=some ⟨(n:Int),eL2 n fun a b=>near S a b && Yx n S a b,eL2 n fun a b=>near S a b && !Yx n S a b && !Yx n S b a && decide (a < b)⟩:=by
 have h64:=Qqh (show n≤8 by omega) hS
 have hlen:(Qg n S).length=n:=Z3
 have hml:=Qsz (n:=n) (S:=S) hn
 have hmem:∀k,(hk:k < (Yr n S).length)→∃T,(Yr n S)[k]=Qg n T∧Cls n S T:=fun k hk=>(Qdq hS).1 (List.getElem_mem hk)
 have inner:∀a b,a < n→b < n→∀(s6 s3:Int × List (Int × Int) × List (Int × Int)),s6.1=(b:Int)→s3.1=(a:Int)→Qb fuel (Yw (Yr n S) s6 s3) (true,true,0)=some (Yx n S a b,Yx n S b a):=fun a b ha hb s6 s3 h6 h3=>by
  have h:=Vn (n:=(Yr n S).length) (k0:=0) (by omega) (by omega) (fun i (x:Bool × Bool)=>(x.1,x.2,i)) (body:=Yw (Yr n S) s6 s3)
   (fun k=>(((Yr n S).take k).all fun x=>((x[b]?).getD 0).toNat.testBit a,((Yr n S).take k).all fun x=>((x[a]?).getD 0).toNat.testBit b)) (Yx n S a b,Yx n S b a)
   (fun k _ hk=>by
    obtain ⟨T,hT,hT2⟩:=hmem k hk
    have t64:=Qqh (show n≤8 by omega) hT2.gd
    have htk:(Yr n S).take (k+1)=(Yr n S).take k++[(Yr n S)[k]]:=List.take_succ_eq_append_getElem hk
    have hIn:∀u v,u < n→v < n→(lkI (Yr n S) (k:Int)).bind (fun x=>(lkI x (v:Int)).bind fun y=>Xy y (u:Int))=some ((T v).testBit u):=fun u v hu hv=>by
     rw [Zo hk,Option.bind_some,hT,Z4 hv,Option.bind_some,Qdk (t64 v hv) (by omega)]
    have e1:∀u v,v < n→((Yr n S).take (k+1)).all (fun x=>((x[v]?).getD 0).toNat.testBit u)=(((Yr n S).take k).all (fun x=>((x[v]?).getD 0).toNat.testBit u) && (T v).testBit u):=fun u v hv=>by
     rw [htk,List.all_append]
     simp only [List.all_cons,List.all_nil,Bool.and_true]
     rw [hT,Qsp hv]
     simp
    unfold Yw
    dsimp only
    rw [if_pos (dlt hk),h6,h3,e1 a b hb,e1 b a ha]
    generalize ((Yr n S).take k).all (fun x=>((x[b]?).getD 0).toNat.testBit a)=A
    generalize ((Yr n S).take k).all (fun x=>((x[a]?).getD 0).toNat.testBit b)=B
    rw [Zo hk,hT]
    simp only [Option.bind_some,Z4 hb,Z4 ha,Qdk (t64 b hb) (show a < 64 by omega),Qdk (t64 a ha) (show b < 64 by omega)]
    cases A <;> cases B <;> simp)
   (by
    unfold Yw
    dsimp only
    rw [if_neg (nlt _),List.take_length]
    rfl)
  rw [show ((0:Nat):Int)=0 from rfl] at h
  simpa using h
 have hif:∀(c:Bool) (x:Int × Int),(if c=true then [x] else []).length≤6:=fun c x=>by cases c <;> simp
 have mid:∀a,a < n→∀(o o2:List (Int × Int)) (s:Int × List (Int × Int) × List (Int × Int)),s.1=(a:Int)→o.length≤100→o2.length≤100→Qb fuel (Yu (Qg n S) s (Yr n S)) (0,o,o2)=some (o++apL (fun b=>if (near S a b && Yx n S a b)=true then [((a:Int),(b:Int))] else []) 0 n,o2++apL (fun b=>if (near S a b && !Yx n S a b && !Yx n S b a && decide (a < b))=true then [((a:Int),(b:Int))] else []) 0 n):=fun a ha o o2 s hs ho ho2 =>
  Qq2 (m:=0) (show n≤6 by omega) (fun i x y=>(i,x,y)) (body:=Yu (Qg n S) s (Yr n S)) _ _ (fun x y=>(x,y)) (fun k=>hif _ _) (fun k=>hif _ _) ho ho2
   (fun b o o2 hb ho ho2=>by
    unfold Yu
    dsimp only
    rw [hlen,if_pos (dlt hb),hs,Qnz (by omega) h64 ha hb,Option.bind_some]
    have l1:(o++([((a:Int),(b:Int))]:List (Int × Int))).length*16≤140737488355328:=by rw [List.length_append,List.length_singleton]; omega
    have l2:(o2++([((a:Int),(b:Int))]:List (Int × Int))).length*16≤140737488355328:=by rw [List.length_append,List.length_singleton]; omega
    have hlt:(decide ((a:Int) < (b:Int)))=decide (a < b):=by rw [Bool.eq_iff_iff]; simp
    cases hnr:near S a b with
    | false=>simp
    | true =>
     rw [if_neg (by decide),inner a b ha hb _ _ rfl hs,Option.bind_some]
     dsimp only
     cases h1:Yx n S a b with
     | true=>rw [if_pos rfl,if_pos l1]; simp
     | false =>
      rw [if_neg (by decide),hlt]
      cases h2:Yx n S b a with
      | true=>simp
      | false =>
       rw [if_pos (by decide)]
       cases hd:decide (a < b) with
       | true=>rw [if_pos rfl,if_pos l2]; simp
       | false=>simp)
   (fun o o2=>by unfold Yu; dsimp only; rw [hlen,if_neg (nlt n)])
 have hlen2:∀(p:Nat → Nat → Bool) a,(apL (fun b=>if p a b=true then [((a:Int),(b:Int))] else []) 0 n).length≤6:=fun p a=>by
  have:=Z6 (L:=fun b=>if p a b=true then [((a:Int),(b:Int))] else []) (k0:=0) (m:=1) (fun _=>Js) n
  omega
 have h:=Vn (n:=n) (k0:=0) (by omega) (by omega) (fun i (x:List (Int × Int) × List (Int × Int))=>(i,x.1,x.2)) (body:=X1 (Qg n S) (Yr n S))
  (fun k=>(apL (fun a=>apL (fun b=>if (near S a b && Yx n S a b)=true then [((a:Int),(b:Int))] else []) 0 n) 0 k,apL (fun a=>apL (fun b=>if (near S a b && !Yx n S a b && !Yx n S b a && decide (a < b))=true then [((a:Int),(b:Int))] else []) 0 n) 0 k))
  (eL2 n fun a b=>near S a b && Yx n S a b,eL2 n fun a b=>near S a b && !Yx n S a b && !Yx n S b a && decide (a < b))
  (fun k _ hk=>by
   have l1:=Z6 (k0:=0) (hlen2 fun a b=>near S a b && Yx n S a b) k
   have l2:=Z6 (k0:=0) (hlen2 fun a b=>near S a b && !Yx n S a b && !Yx n S b a && decide (a < b)) k
   unfold X1
   dsimp only
   rw [hlen,if_pos (dlt hk),mid k hk _ _ _ rfl (by omega) (by omega),Option.bind_some]
   simp only [apL,Nat.zero_add])
  (by unfold X1; dsimp only; rw [hlen,if_neg (nlt n)]; rfl)
 rw [show ((0:Nat):Int)=0 from rfl] at h
 unfold Vx
 rw [Qhb hn1 hn hS,Option.bind_some]
 show (Qb fuel (X1 (Qg n S) (Yr n S)) (0,[],[])).bind _=_
 have h0:(Qb fuel (X1 (Qg n S) (Yr n S)) (0,[],[]))=_:=h
 rw [h0,Option.bind_some,hlen]
theorem Qq9 {p p':Nat → Nat → Bool} (h:∀a b,a < n→b < n→p a b=p' a b):eL2 n p=eL2 n p':=by
 unfold eL2
 exact Zf n fun a _ ha=>Zf n fun b _ hb=>by rw [h a b (by omega) (by omega)]
theorem Qva {p:Nat → Nat → Bool} (hn:n≤6):(eL2 n p).length≤36:=by
 have hlen2:∀a,(apL (fun b=>if p a b=true then [((a:Int),(b:Int))] else []) 0 n).length≤6:=fun a=>by
  have:=Z6 (L:=fun b=>if p a b=true then [((a:Int),(b:Int))] else []) (k0:=0) (m:=1) (fun _=>Js) n
  omega
 have:=Z6 (k0:=0) hlen2 n
 unfold eL2; omega
theorem Qzk (hn1:1≤n) (hn:n≤5) (hS:Gd n S):X5 (Qg n S)=Vx (Qg n S):=by
 obtain ⟨O,h1,hA,hC⟩:=Qke (n:=n) (S:=S) (by omega) hS
 rw [h1,Qm5 hn1 hn hS]
 have e:=fun a b ha hb=>Q1h hn hS hA hC (a:=a) (b:=b) ha hb
 congr 2
 ·exact Qq9 e
 ·refine Qq9 fun a b ha hb=>?_
  unfold lnB
  rw [e a b ha hb,e b a hb ha,near_symm (u:=b)]
  cases near S a b <;> cases Yx n S a b <;> cases Yx n S b a <;> cases decide (a < b) <;> rfl
end
end Go.Ab
namespace Go.Ab
open Go
set_option maxRecDepth 100000
set_option maxHeartbeats 1000000
theorem Qyk {α:Type} {c:Bool} {x:α}:(if c=true then [x] else []).length=c.toNat := by cases c <;> rfl
theorem Qw6 {O p2 N:Nat → Nat → Bool} (h0:∀a,(O a a).toNat = 0) (h1:∀a b,a < b→(O a b).toNat + (O b a).toNat + (p2 a b).toNat = (N a b).toNat) (h2:∀a b,¬ a < b→(p2 a b).toNat = 0):(eL2 6 O).length+(eL2 6 p2).length=(prs 6 N).length:=by
 have a01:=h1 0 1 (by omega); have a02:=h1 0 2 (by omega); have a03:=h1 0 3 (by omega); have a04:=h1 0 4 (by omega); have a05:=h1 0 5 (by omega)
 have a12:=h1 1 2 (by omega); have a13:=h1 1 3 (by omega); have a14:=h1 1 4 (by omega); have a15:=h1 1 5 (by omega)
 have a23:=h1 2 3 (by omega); have a24:=h1 2 4 (by omega); have a25:=h1 2 5 (by omega)
 have a34:=h1 3 4 (by omega); have a35:=h1 3 5 (by omega); have a45:=h1 4 5 (by omega)
 have l:∀(p:Nat → Nat → Bool) (a:Nat),(apL (fun b=>if p a b=true then [((a:Int),(b:Int))] else []) 0 6).length=(p a 0).toNat + (p a 1).toNat + (p a 2).toNat + (p a 3).toNat + (p a 4).toNat + (p a 5).toNat := fun p a=>by
  simp only [apL,List.length_append,List.length_nil,Qyk,Nat.zero_add]
 have L:∀(p:Nat → Nat → Bool),(eL2 6 p).length=(apL (fun b=>if p 0 b=true then [(((0:Nat):Int),(b:Int))] else []) 0 6).length+(apL (fun b=>if p 1 b=true then [(((1:Nat):Int),(b:Int))] else []) 0 6).length+(apL (fun b=>if p 2 b=true then [(((2:Nat):Int),(b:Int))] else []) 0 6).length+(apL (fun b=>if p 3 b=true then [(((3:Nat):Int),(b:Int))] else []) 0 6).length+(apL (fun b=>if p 4 b=true then [(((4:Nat):Int),(b:Int))] else []) 0 6).length+(apL (fun b=>if p 5 b=true then [(((5:Nat):Int),(b:Int))] else []) 0 6).length:=fun p=>by
  unfold eL2
  generalize hF:(fun a:Nat => apL (fun b=>if p a b=true then [((a:Int),(b:Int))] else []) 0 6)=F
  have hF':∀a,apL (fun b=>if p a b=true then [((a:Int),(b:Int))] else []) 0 6=F a:=fun a=>by rw [←hF]
  simp only [hF']
  simp only [apL,List.length_append,List.length_nil,Nat.zero_add]
 have P:(prs 6 (N)).length=(N 0 1).toNat + (N 0 2).toNat + (N 0 3).toNat + (N 0 4).toNat + (N 0 5).toNat + ((N 1 2).toNat + (N 1 3).toNat + (N 1 4).toNat + (N 1 5).toNat)+((N 2 3).toNat + (N 2 4).toNat + (N 2 5).toNat)+((N 3 4).toNat + (N 3 5).toNat)+(N 4 5).toNat := by
  unfold prs
  simp only [apL,List.length_append,List.length_nil,Qyk,Nat.zero_add,Nat.add_zero,Nat.reduceAdd,Nat.reduceSub]
 rw [P,L O,L p2]
 simp only [l,h0,h2 0 0 (by omega),h2 1 0 (by omega),h2 1 1 (by omega),h2 2 0 (by omega),h2 2 1 (by omega),h2 2 2 (by omega),h2 3 0 (by omega),h2 3 1 (by omega),h2 3 2 (by omega),h2 3 3 (by omega),h2 4 0 (by omega),h2 4 1 (by omega),h2 4 2 (by omega),h2 4 3 (by omega),h2 4 4 (by omega),h2 5 0 (by omega),h2 5 1 (by omega),h2 5 2 (by omega),h2 5 3 (by omega),h2 5 4 (by omega),h2 5 5 (by omega)]
 omega
theorem Qgh {α:Type} {L:Nat → List α} {k0 j:Nat}:∀m,(∀i,k0+j≤i→L i=[])→apL L k0 (j+m)=apL L k0 j
 | 0,_=>rfl
 | m+1,h=>by
  show apL L k0 (j+m)++L (k0+(j+m))=_
  rw [h _ (by omega),List.append_nil,Qgh m h]
theorem Qvg {n:Nat} (hn:n≤6) {p:Nat → Nat → Bool}:eL2 n p=eL2 6 fun a b=>decide (a < n) && decide (b < n) && p a b:=by
 unfold eL2
 have e:6=n+(6 - n):=by omega
 have h2:∀a,apL (fun b=>if (decide (a < n) && decide (b < n) && p a b)=true then [((a:Int),(b:Int))] else []) 0 6=apL (fun b=>if (decide (a < n) && p a b)=true then [((a:Int),(b:Int))] else []) 0 n:=fun a=>by
  conv=>lhs; rw [e]
  rw [Qgh _ fun i hi=>by
   rw [if_neg]; have:¬ i < n:=by omega
   simp [this]]
  exact Zf n fun b _ hb=>by
   have:b < n:=by omega
   simp [this]
 have h3:apL (fun a=>apL (fun b=>if (decide (a < n) && decide (b < n) && p a b)=true then [((a:Int),(b:Int))] else []) 0 6) 0 6=apL (fun a=>apL (fun b=>if (decide (a < n) && p a b)=true then [((a:Int),(b:Int))] else []) 0 n) 0 6:=Zf 6 fun a _ _=>h2 a
 rw [h3]
 conv=>rhs; rw [e]
 rw [Qgh]
 ·exact Zf n fun a _ ha=>Zf n fun b _ _=>by
   have:a < n:=by omega
   simp [this]
 ·intro a ha
  have:¬ a < n:=by omega
  have hz:apL (fun b=>if (decide (a < n) && p a b)=true then [((a:Int),(b:Int))] else []) 0 n=apL (fun _=>[]) 0 n:=Zf n fun b _ _=>by simp [this]
  rw [hz]
  have:∀k,apL (fun _:Nat => ([]:List (Int × Int))) 0 k=[]:=fun k=>by
   induction k with
   | zero=>rfl
   | succ k ih=>simp [apL,ih]
  exact this n
theorem Q1l {n:Nat} (hn:n≤6) {N:Nat → Nat → Bool}:prs n N=prs 6 fun a b=>decide (a < n) && decide (b < n) && N a b:=by
 unfold prs
 have e:6=n+(6 - n):=by omega
 have nil:∀k0 k,apL (fun _:Nat => ([]:List (Int × Int))) k0 k=[]:=fun k0 k=>by
  induction k with
  | zero=>rfl
  | succ k ih=>simp [apL,ih]
 conv=>rhs; rw [show apL (fun i=>apL (fun j=>if (decide (i < n) && decide (j < n) && N i j)=true then [((i:Int),(j:Int))] else []) (i+1) (6 - (i+1))) 0 6=apL (fun i=>apL (fun j=>if (decide (i < n) && decide (j < n) && N i j)=true then [((i:Int),(j:Int))] else []) (i+1) (6 - (i+1))) 0 (n+(6 - n)) from congrArg _ e]
 rw [Qgh]
 ·refine Zf n fun i _ hi=>?_
  have hi':i < n:=by omega
  have e2:6 - (i+1)=(n - (i+1))+(6 - n):=by omega
  rw [e2,Qgh]
  ·exact Zf _ fun j h1 h2=>by
    have:j < n:=by omega
    simp [hi',this]
  ·intro j hj
   have:¬ j < n:=by omega
   simp [this]
 ·intro i hi
  have:¬ i < n:=by omega
  rw [Zf (L':=fun _=>[]) _ fun j _ _=>by simp [this]]
  exact nil _ _
theorem Q2a {n:Nat} {S:Nat → Nat} (hn:n≤6) (hS:Gd n S) {O:Nat → Nat → Bool} (hA:Qac n S O):(eL2 n O).length+(eL2 n fun a b=>decide (a < b) && lnB (near S) O a b).length=(prs n (near S)).length:=by
 have hup:∀a b,O a b=true→(S b).testBit a=true:=fun a b h=>hA.snd S (Qqd hS) a b h
 obtain ⟨r,hr⟩:=Qde hS
 have hrk:∀a b,O a b=true→r a < r b:=fun a b h=>hr b (hA.inn a b h).2 a (hup a b h)
 rw [Qvg hn,Qvg hn (p:=fun a b=>decide (a < b) && lnB (near S) O a b),Q1l hn]
 refine Qw6 (fun a=>?_) (fun a b h=>?_) (fun a b h=>by simp [h])
 ·have:O a a=false:=Bool.eq_false_iff.2 fun h=>by have:=hrk a a h; omega
  simp [this]
 ·cases ha:decide (a < n) with
  | false=>simp [ha]
  | true =>
   cases hb:decide (b < n) with
   | false=>simp [hb]
   | true =>
    simp only [h,decide_true,Bool.true_and]
    unfold lnB
    cases e1:O a b with
    | true =>
     have e2:O b a=false:=Bool.eq_false_iff.2 fun h=>by have:=hrk a b e1; have:=hrk b a h; omega
     have e3:near S a b=true:=by unfold near; rw [hup a b e1]; simp
     rw [e2,e3]; rfl
    | false =>
     cases e2:O b a with
     | true =>
      have e3:near S a b=true:=by unfold near; rw [hup b a e2]; rfl
      rw [e3]; rfl
     | false=>cases near S a b <;> rfl
theorem Qv0 {l:List (List Int)} (hl:l.length < 10000) (h:∀x∈l,x.length < 1000):Zh l l=some true:=by
 unfold Zh
 rw [if_neg (by simp)]
 have hh:=Vn (n:=l.length) (k0:=0) (by omega) (by omega) (fun i (_:Unit)=>i) (body:=Zd l l) (fun _=>()) (Sum.inr ())
  (fun k _ hk=>by
   unfold Zd J2
   have:=h _ (List.getElem_mem hk)
   rw [if_pos (dlt hk),Zo hk,Option.bind_some,Option.bind_some,Qvz (by omega),Option.bind_some,Option.bind_some,if_neg (by simp)])
  (by unfold Zd; rw [if_neg (nlt _)])
 rw [show ((0:Nat):Int)=0 from rfl] at hh
 rw [hh]; rfl
theorem Qnb {a b:Ql} (h1:a.Arrows.length < 1000000) (h2:a.Lines.length < 1000000):Z0 a b=some (decide (a=b)):=by
 unfold Z0
 obtain ⟨n,x,y⟩:=a; obtain ⟨m,z,w⟩:=b
 dsimp only at *
 by_cases e:n=m
 ·rw [if_pos (by simp [e]),Qkf h1,Option.bind_some]
  by_cases e2:x=z
  ·rw [if_pos (by simp [e2]),Qkf h2,Option.bind_some]; simp [e,e2]
  ·rw [if_neg (by simp [e2])]; simp [e2]
 ·rw [if_neg (by simp [e])]; simp [e]
theorem Qec {n:Nat} {S:Nat → Nat} {c:Int} (hc:Q5 (Qg n S)=some c):Vz (Qg n S)=if c=0 then (X5 (Qg n S)).bind fun x=>some (x,0) else some (⟨0,[],[]⟩,c):=by
 unfold Vz
 rw [hc,Option.bind_some]
 by_cases e:c=0
 ·rw [if_neg (by simp [e]),if_pos e]
 ·rw [if_pos (by simp [e]),if_neg e]
theorem Q4u {n:Nat} {S:Nat → Nat} (hn:n≤7) (hS:L64 n S) (h1:Q5 (Qg n S)=some 0):1≤n:=by
 obtain ⟨c,hc,hc2⟩:=Qrb hn hS
 rw [h1] at hc
 cases c with
 | true=>exact (hc2.1 rfl).1.1
 | false=>cases hc
theorem Qro {x1 x3 x5:List Int} {k:Nat} (hk:k < 3) (h:∀y∈([x1,x3,x5]:List (List Int)),Few y) :
  X4 x1 x3 x5 (k:Int)=some (.next (zw ((k:Int)+1))):=by
 unfold X4
 generalize hL:([x1,x3,x5]:List (List Int))=L at *
 have hl:L.length=3:=by rw [←hL]; rfl
 have hkl:k < L.length:=by omega
 rw [if_pos (decide_eq_true (by omega)),Zo hkl,Option.bind_some]
 obtain ⟨n,S,e,hn,hS⟩:=h _ (List.getElem_mem hkl)
 rw [e]
 have hlen:(Qg n S).length=n:=Z3
 rcases Q5w hn hS with ⟨⟨h6,hg⟩,h1,h2,h3,h4⟩ | ⟨h1,h2,h3,h4⟩
 ·have hn1:=Q4u hn hS h2
  by_cases h5:n≤5
  ·have hm:=Qu2 hn1 h5 hg h2
   have hr:=Qhb hn1 h5 hg
   have he:=Qm5 hn1 h5 hg
   have hs:=Qzk hn1 h5 hg
   have hmem:∀x∈Yr n S,x.length < 1000:=fun x hx=>by
    obtain ⟨T,rfl,_⟩:=(Qdq hg).1 hx
    rw [Z3]; omega
   have hml:=Qsz (n:=n) (S:=S) h5
   rw [hm,Option.bind_some,Qec h2,if_pos rfl,hs,he,Option.bind_some,Option.bind_some,h1,Option.bind_some]
   rw [if_neg (by decide),hlen,if_neg (by simp; omega),if_neg (by simp),if_neg (by simp),hr,Option.bind_some]
   dsimp only
   rw [Qv0 (by omega) hmem,Option.bind_some,if_neg (by decide),Option.bind_some,Qnb (by
    have:=Qva (n:=n) (p:=fun a b=>near S a b && Yx n S a b) (by omega)
    dsimp only; omega) (by
    have:=Qva (n:=n) (p:=fun a b=>near S a b && !Yx n S a b && !Yx n S b a && decide (a < b)) (by omega)
    dsimp only; omega),Option.bind_some,if_neg (by simp)]
  ·have hn6:n=6:=by omega
   subst hn6
   obtain ⟨O,o1,hA,hC⟩:=Qke (n:=6) (S:=S) (by omega) hg
   have hm:Xi (Qg 6 S)=some ([],6):=by
    unfold Xi
    rw [h2,Option.bind_some,if_neg (by simp),hlen,if_pos (by decide)]
   have hcnt:=Q2a (show 6≤6 by omega) hg hA
   have hp:=Q1g (n:=6) (N:=near S) (by omega)
   rw [hm,Option.bind_some,Qec h2,if_pos rfl,o1,Option.bind_some,Option.bind_some,h1,Option.bind_some,if_neg (by decide),hlen,if_pos (by decide)]
   dsimp only
   rw [if_neg (by simp),if_neg (by simp),if_neg (by simp),if_neg (by simp),Ql2 (by omega) hS,Option.bind_some,if_neg]
   rw [w64 (by omega),bne_iff_ne]
   intro hne
   exact hne (by omega)
 ·have hm:Xi (Qg n S)=some ([],310):=by
   unfold Xi
   rw [h2]; rfl
  rw [hm,Option.bind_some,Qec h2,if_neg (by decide),Option.bind_some,h1,Option.bind_some,if_pos (by decide)]
  dsimp only
  rw [if_neg (by simp),if_neg (by simp),if_neg (by simp),Qnb (by simp) (by simp),Option.bind_some,if_neg (by simp)]
theorem classes_true (p0:Qc) (p1:List Int) (h0:J0 p0) (h1:p1.length≤maxLen∧∀y0∈p1,(Lit.int .u64 y0).wf=true):Kp p0 p1=some true:=by
 have few_draft:∀m:Nat,1≤m∧m≤6→∃g,Zy p0 (m:Int)=some g∧Few g:=fun m hm=>by
  obtain ⟨S,hg,hG,h6⟩:=Qx1 (Qzo h0) hm
  exact ⟨_,hg,_,S,rfl,by omega,Qqh (by omega) hG⟩
 obtain ⟨g,hg,hgf⟩:=few_draft 5 (by omega)
 obtain ⟨g6,hg6,hgf6⟩:=few_draft 6 (by omega)
 obtain ⟨w,hw,hwf⟩:=Q2b (l:=p1) fun x hx=>by exact Q54 (h1.2 x hx)
 unfold Kp
 have hg':Zy (Qc.mk p0.N (p0.Order.1,p0.Order.2.1,p0.Order.2.2.1,p0.Order.2.2.2.1,p0.Order.2.2.2.2.1,p0.Order.2.2.2.2.2) p0.Edges) 5=some g:=hg
 have hg6':Zy (Qc.mk p0.N (p0.Order.1,p0.Order.2.1,p0.Order.2.2.1,p0.Order.2.2.2.1,p0.Order.2.2.2.2.1,p0.Order.2.2.2.2.2) p0.Edges) 6=some g6:=hg6
 rw [hg',Option.bind_some,hw,Option.bind_some,hg6',Option.bind_some]
 have hall:∀y∈([g,w,g6]:List (List Int)),Few y:=fun y hy=>by
  simp only [List.mem_cons,List.not_mem_nil,or_false] at hy
  rcases hy with rfl | rfl | rfl <;> assumption
 have h:=Vn (n:=3) (k0:=0) (by omega) (by omega) (fun i (_:Unit)=>i) (body:=X4 g w g6) (fun _=>()) (Sum.inr ())
  (fun k _ hk=>Qro hk hall)
  (by unfold X4; rw [if_neg (by decide)])
 rw [show ((0:Nat):Int)=0 from rfl] at h
 rw [h,Option.bind_some]
 dsimp only
 rw [Q0j]; rfl
#print axioms classes_true
end Go.Ab
namespace Go.Ab
open Go Go.Proofs Go.Proofs.YtojklbpplceiiaaDoor
open Go.ChangeShapes Go.WideShapes Go.ChangeAt Go.RowKit
abbrev dr_laid:List (String × DataW Unit):=[("math/bits.deBruijn32tab",Rows.laid_math_bits_deBruijn32tab),("math/bits.deBruijn64tab",Rows.laid_math_bits_deBruijn64tab)]
theorem dr_own:ownKnob Tryd.prog.godebug=none:=by kernel_rfl
theorem Q0v:Tryd.prog.globalNamed "math/bits.deBruijn32tab" = some 0:=by kernel_rfl
theorem Q0k:Tryd.prog.globalNamed "math/bits.deBruijn64tab" = some 1:=by kernel_rfl
theorem dr_met (os:Os) (args:Array Value):laidMetH Tryd.prog dr_laid ((World.doorLaid Tryd.prog 19 os).forCall (fun _ _=>0) ⟨#[],args,[]⟩).memory :=
 laidMetH_of_parts3 (fuel:=8) (laidMet_of_run' 8 (by kernel_rfl) (by kernel_rfl)) (by kernel_rfl) (by kernel_rfl)
theorem dr_glob {W:World} (h:laidMetH Tryd.prog dr_laid W):Go.Ab.GlobIn W:=by
 rw [MakeChecks.laidMetH_plain _ _ _ (by kernel_rfl)] at h
 have h0:=Lib.tabIs_of_head (k:=.u8) (zs:=Go.Ab.tab0) (t:=164) (e:=5) (n:=32) Q0v (by kernel_rfl) (by kernel_rfl) (by kernel_rfl) (by kernel_rfl) (by kernel_rfl) h
 have h1:=Lib.tabIs_of_head (k:=.u8) (zs:=Go.Ab.tab1) (t:=165) (e:=5) (n:=64) Q0k (by kernel_rfl) (by kernel_rfl) (by kernel_rfl) (by kernel_rfl) (by kernel_rfl) h.tail
 intro g xs hg i v hv
 match g,hg with
 | 0,hg =>
  cases hg
  have hi:i < Go.Ab.tab0.length:=by have:=(List.getElem?_eq_some_iff.1 hv).1; simpa using this
  have:=h0.cell Q0v i hi
  rw [this]
  rw [List.getElem?_map] at hv
  simpa [List.getD,hi] using hv
 | 1,hg =>
  cases hg
  have hi:i < Go.Ab.tab1.length:=by have:=(List.getElem?_eq_some_iff.1 hv).1; simpa using this
  have:=h1.cell Q0k i hi
  rw [this]
  rw [List.getElem?_map] at hv
  simpa [List.getD,hi] using hv
 | n+2,hg=>cases hg
end Go.Ab
