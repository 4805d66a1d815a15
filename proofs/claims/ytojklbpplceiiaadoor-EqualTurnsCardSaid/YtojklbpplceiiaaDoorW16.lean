/- What functions compute. No conditions. -/
import Derived.Test.YtojklbpplceiiaaDoorW15
import Derived.Test.YtojklbpplceiiaaDoorRows
import Derived.Test.YtojklbpplceiiaaDoorEng7
import Derived.WalkKit
import Derived.ProofKit
import Derived.LaidMore
import Derived.Lib.LaidTab
import Derived.Stop.LaidErr
import Derived.Stop.Joined
import Derived.OpenShut
set_option linter.all false
namespace Go.Ab
open Go
set_option maxRecDepth 100000
set_option maxHeartbeats 1000000
theorem Q0j {n:Int} (h:(Lit.int .u8 n).wf=true):0≤n∧n≤255:=by
 simpa [Lit.wf,IntKind.min,IntKind.max,IntKind.bits,IntKind.signed] using h
theorem wf8 {n:Int} (h:(Lit.int .u8 n).wf=true):0≤n∧n < 256:=by have:=Q0j h; omega
theorem Qwb:Qce=some true:=by kernel_rfl
theorem Qs0 {n:Nat} {N:Nat → Nat → Bool} {p:Int × Int}:p∈prs n N↔∃i j:Nat,i < j∧j < n∧N i j=true∧p=((i:Int),(j:Int)):=by
 unfold prs
 rw [J0]
 constructor
 ·rintro ⟨i,_,h2,h3⟩
  obtain ⟨j,h4,h5,h6⟩:=(J0 _).1 h3
  split at h6
  ·rename_i hN
   exact ⟨i,j,by omega,by omega,hN,List.mem_singleton.1 h6⟩
  ·cases h6
 ·rintro ⟨i,j,h1,h2,h3,rfl⟩
  refine ⟨i,by omega,by omega,(J0 _).2 ⟨j,by omega,by omega,?_⟩⟩
  rw [if_pos h3]; simp
def dels (a i:Nat):Nat := msk 64 fun b=>a.testBit b && !decide (i=b)
theorem Qwl {a i:Nat} (ha:a < 18446744073709551616) (b:Nat):(dels a i).testBit b=(a.testBit b && !decide (i=b)):=by
 unfold dels
 rw [Ya]
 by_cases h:b < 64
 ·simp [h]
 ·have:a.testBit b=false:=Nat.testBit_lt_two_pow (Nat.lt_of_lt_of_le (show a < 2^64 from ha) (Nat.pow_le_pow_right (by omega) (by omega)))
  simp [h,this]
def X5 (S:Nat → Nat) (i j:Nat):Nat → Nat := fun u=>if u=i then S i ||| 2^j else if u=j then dels (S j) i else S u
theorem Qqh {n i j:Nat} {S:Nat → Nat} (h:L64 n S) (hi:i < n) (hj:j < 64):L64 n (X5 S i j):=fun v hv=>by
 unfold X5
 split
 ·exact Nat.or_lt_two_pow (n:=64) (h i hi) (Qe7 hj)
 ·split
  ·exact Qlw 64 _
  ·exact h v hv
theorem Qst {a i:Nat} (ha:a < 18446744073709551616) (hi:i < 64):zv (zb (a:Int) &&& ~~~ zb (zv (1*2^min (Int.toNat (i:Int)) (IntKind.bits .u64)))).toNat = ((dels a i:Nat):Int):=by
 rw [Qje hi]
 exact Quk (n:=64) (by omega) ha (Qe7 hi) (fun _ _=>rfl) (fun b _=>Jj i b)
theorem Qtc {n:Nat} {S:Nat → Nat} {k:Int} (hn:n≤7) (h:L64 n S) (hk:0≤k∧k < 256) :
  (prs n (near S)=[]∧Vr (Qj n S) k=some (Qj n S)) ∨
  (∃i j,i < n∧j < n∧i≠j∧(S j).testBit i=true∧Vr (Qj n S) k=some (Qj n (X5 S i j))):=by
 have hlen:(Qj n S).length=n:=Y9
 unfold Vr
 rw [Qp6 hn h,Option.bind_some,hlen,if_pos (by omega)]
 by_cases he:prs n (near S)=[]
 ·left
  rw [he]
  exact ⟨rfl,rfl⟩
 ·right
  have hl:0 < (prs n (near S)).length:=List.length_pos_iff.2 he
  have hl49:=Qyu (N:=near S) hn
  rw [if_neg (by simp; omega),if_pos (by omega)]
  have hm:Int.tmod (zw k) ((prs n (near S)).length:Int)=((k.toNat % (prs n (near S)).length:Nat):Int):=by
   rw [w64 (by omega),Qqa hk.1]
   obtain ⟨m,rfl⟩:∃m:Nat,k=(m:Int):=⟨k.toNat,by omega⟩
   simp
  rw [hm]
  have hb:k.toNat % (prs n (near S)).length < (prs n (near S)).length:=Nat.mod_lt _ hl
  rw [Yk hb,Option.bind_some,if_pos (by omega)]
  obtain ⟨i,j,h1,h2,h3,h4⟩:=Qs0.1 (List.getElem_mem hb)
  rw [h4]
  dsimp only
  rw [Zs (show i < n by omega),Option.bind_some,Qe0 (h i (by omega)) (by omega),Option.bind_some]
  by_cases hb2:(S i).testBit j=true
  ·refine ⟨j,i,h2,by omega,by omega,hb2,?_⟩
   rw [if_pos hb2,if_pos (Yh j),Qst (h i (by omega)) (by omega),Qje (show i < 64 by omega),Int.toNat_natCast,Qdx,Zs h2,Option.bind_some,if_pos (Yh i)]
   rw [if_neg (by omega),Qkw (h j h2) (Qe7 (by omega)),Int.toNat_natCast,Qdx]
   rfl
  ·refine ⟨i,j,by omega,h2,by omega,by unfold near at h3; rw [Bool.eq_false_iff.2 hb2] at h3; simpa using h3,?_⟩
   rw [if_neg hb2,Zs h2,Option.bind_some,if_pos (Yh i),Qst (h j h2) (by omega),Qje (show j < 64 by omega),Int.toNat_natCast,Qdx,Zs (show i < n by omega),Option.bind_some,if_pos (Yh j)]
   rw [if_neg (by omega),Qkw (h i (by omega)) (Qe7 (by omega)),Int.toNat_natCast,Qdx]
   rfl
theorem Qz1 {n:Nat} {S:Nat → Nat} (hn:n≤7) (h:L64 n S) :
  ((n≤6∧Gd n S)∧Kv (Qj n S) 6=some true∧Qt (Qj n S)=some 0∧Zw (Qj n S)=some (prs n (near S),0)∧Xh (Qj n S)=some (cls n S,0)) ∨
  (Kv (Qj n S) 6=some false∧Qt (Qj n S)=some 310∧Zw (Qj n S)=some ([],310)∧Xh (Qj n S)=some ([],310)):=by
 obtain ⟨c,hc,hc2⟩:=Qu6 hn h
 obtain ⟨d,hd,hd2⟩:=Qi6 (m:=6) hn h
 have e:d=c:=by rw [Bool.eq_iff_iff,hc2,hd2]
 subst e
 cases d with
 | true =>
  left
  obtain ⟨h1,h2⟩:=hc2.1 rfl
  refine ⟨⟨h1.2,h2⟩,hd,hc,?_,?_⟩
  ·unfold Zw
   rw [hc,Option.bind_some,if_neg (by simp),J6 h1.2 h2,Option.bind_some]
   show (Zm ⟨(n:Int),Q9 (mI (nrN n S))⟩).bind _=_
   rw [Qwj h1.2]; rfl
  ·unfold Xh
   rw [hc,Option.bind_some,if_neg (by simp),Qci h1.2 h2]; rfl
 | false =>
  right
  refine ⟨hd,hc,?_,?_⟩
  ·unfold Zw
   rw [hc]; rfl
  ·unfold Xh
   rw [hc]; rfl
theorem Qwu {d:Qd} (h:Vm d):Qke d:=by
 obtain ⟨h0,⟨h1,h2,h3,h4,h5,h6⟩,_⟩:=h
 exact ⟨wf8 h0,wf8 h1,wf8 h2,wf8 h3,wf8 h4,wf8 h5,wf8 h6⟩
end Go.Ab
namespace Go.Ab
open Go
set_option maxRecDepth 100000
set_option maxHeartbeats 1000000
def eqv (n m:Nat) (S T:Nat → Nat):Bool:=decide (n=m∧prs n (near S)=prs m (near T)∧cls n S=cls m T)
theorem Qjm {S:Nat → Nat} {u w:Nat}:near S u w=near S w u:=by unfold near; exact Bool.or_comm _ _
theorem Qor {n:Nat} {S:Nat → Nat} (h:Gd n S) {u:Nat} (hu:u < n):near S u u=false:=by
 have:(S u).testBit u=false:=Bool.eq_false_iff.2 fun e=>h.acyc u hu (Qqo n u e)
 unfold near; rw [this]; rfl
theorem Qv8 {n:Nat} {S T:Nat → Nat} (hS:Gd n S) (hT:Gd n T):prs n (near S)=prs n (near T)↔∀u w,u < n→w < n→near S u w=near T u w:=by
 constructor
 ·intro h
  have key:∀u w,u < w→w < n→near S u w=near T u w:=fun u w h1 h2=>by
   have e:∀N,((u:Int),(w:Int))∈prs n N↔N u w=true:=fun N=>by
    rw [Qs0]
    constructor
    ·rintro ⟨i,j,_,_,h5,h6⟩
     have e1:u=i:=by have:=congrArg Prod.fst h6; exact Int.ofNat_inj.1 this
     have e2:w=j:=by have:=congrArg Prod.snd h6; exact Int.ofNat_inj.1 this
     rw [e1,e2]; exact h5
    ·intro h5; exact ⟨u,w,h1,h2,h5,rfl⟩
   rw [Bool.eq_iff_iff,←e (near S),←e (near T),h]
  intro u w hu hw
  rcases Nat.lt_trichotomy u w with h1 | h1 | h1
  ·exact key u w h1 hw
  ·subst h1; rw [Qor hS hu,Qor hT hu]
  ·rw [Qjm,Qjm (S:=T)]; exact key w u h1 hu
 ·intro h
  unfold prs
  exact Xr n fun i _ hi=>Xr _ fun j h1 h2=>by rw [h i j (by omega) (by omega)]
theorem Qs1 {n:Nat} {S:Nat → Nat} (h:Gd n S) {u w:Nat} (hn:¬ (u < n∧w < n)):nrN n S u w=false:=by
 unfold nrN
 have key:∀a b,¬ (a < n∧b < n)→(decide (a < n) && (S a).testBit b)=false:=fun a b hab=>by
  by_cases ha:a < n
  ·have:(S a).testBit b=false:=Bool.eq_false_iff.2 fun e=>hab ⟨ha,h.inn a ha b e⟩
   rw [this]; simp
  ·simp [ha]
 rw [key u w hn,key w u (fun e=>hn ⟨e.2,e.1⟩)]; rfl
theorem Qqx {n:Nat} {S T:Nat → Nat} (hn:n≤6) (hS:Gd n S) (hT:Gd n T):Q9 (mI (nrN n S))=Q9 (mI (nrN n T))↔prs n (near S)=prs n (near T):=by
 rw [Qv8 hS hT]
 constructor
 ·intro h u w hu hw
  have key:∀i,i < 6→mI (nrN n S) i=mI (nrN n T) i:=fun i hi=>by
   unfold Q9 at h
   simp only [Prod.mk.injEq] at h
   have hi':i=0∨i=1∨i=2∨i=3∨i=4∨i=5:=by omega
   rcases hi' with rfl | rfl | rfl | rfl | rfl | rfl
   ·exact h.1
   ·exact h.2.1
   ·exact h.2.2.1
   ·exact h.2.2.2.1
   ·exact h.2.2.2.2.1
   ·exact h.2.2.2.2.2
  have h1:=key u (by omega)
  unfold mI at h1
  have h2:=Qym (Int.ofNat_inj.1 h1) w (by omega)
  rwa [Qa5 hu hw,Qa5 hu hw] at h2
 ·intro h
  refine Qlj fun u w _ _=>?_
  by_cases hb:u < n∧w < n
  ·rw [Qa5 hb.1 hb.2,Qa5 hb.1 hb.2]; exact h u w hb.1 hb.2
  ·rw [Qs1 hS hb,Qs1 hT hb]
theorem Qyh {n m:Int} {X Y:Nat → Int} :
  ((n==m) && (((Q9 X).1==(Q9 Y).1) && (((Q9 X).2.1==(Q9 Y).2.1) && (((Q9 X).2.2.1==(Q9 Y).2.2.1) && (((Q9 X).2.2.2.1==(Q9 Y).2.2.2.1) && (((Q9 X).2.2.2.2.1==(Q9 Y).2.2.2.2.1) && (((Q9 X).2.2.2.2.2==(Q9 Y).2.2.2.2.2) && true)))))))=decide (n=m∧Q9 X=Q9 Y):=by
 rw [Bool.eq_iff_iff]
 simp only [Bool.and_eq_true,beq_iff_eq,decide_eq_true_eq,Bool.and_true]
 unfold Q9
 simp only [Prod.mk.injEq]
theorem Qog {n m:Nat} {S T:Nat → Nat} (hn:n≤6) (hS:Gd n S) (hm:m≤6) (hT:Gd m T) (c1:Qt (Qj n S)=some 0) (c2:Qt (Qj m T)=some 0):Vf (Qj n S) (Qj m T)=some (eqv n m S T,0):=by
 unfold Vf
 rw [c1,Option.bind_some,if_neg (by simp),c2,Option.bind_some,if_neg (by simp),J6 hn hS,Option.bind_some,J6 hm hT,Option.bind_some]
 dsimp only
 rw [Qyh]
 by_cases e:n=m
 ·subst e
  by_cases h:prs n (near S)=prs n (near T)
  ·rw [if_pos (decide_eq_true ⟨rfl,(Qqx hn hS hT).2 h⟩),Qci hn hS,Option.bind_some,Qci hm hT,Option.bind_some,Qs4 (by have:=Qxy (S:=S) (show n≤7 by omega); omega),Option.bind_some]
   unfold eqv
   simp [h]
  ·rw [if_neg (by simp only [decide_eq_true_eq,not_and]; exact fun _ e=>h ((Qqx hn hS hT).1 e))]
   unfold eqv
   simp [h]
 ·rw [if_neg (by simp only [decide_eq_true_eq,not_and]; exact fun h=>absurd (Int.ofNat_inj.1 h) e)]
  unfold eqv
  simp [e]
end Go.Ab
namespace Go.Ab
open Go
set_option maxRecDepth 100000
set_option maxHeartbeats 1000000
theorem Qkm {n:Nat} {S:Nat → Nat} (h:Gd n S):∃r:Nat → Nat,∀v,v < n→∀j,(S v).testBit j=true→r j < r v:=by
 have e:=Qvo.2 h
 obtain ⟨h1,r,M,h2,h3⟩:=Qmi (n:=n) (S:=S) n
 have hall:=(Qlp h1).1 e
 exact ⟨r,fun v hv j hj=>(h3 v (hall v hv) j hj).2⟩
def Y2 (S:Nat → Nat) (a b c:Nat):Bool:=(S b).testBit a && (S b).testBit c && !near S a c
theorem Qx6 {n:Nat} {S:Nat → Nat} {p:Int × Int × Int}:p∈cls n S↔∃a b c:Nat,a < c∧c < n∧b < n∧Y2 S a b c=true∧p=((a:Int),(b:Int),(c:Int)):=by
 unfold cls
 rw [J0]
 constructor
 ·rintro ⟨a,_,ha,h⟩
  obtain ⟨b,_,hb,h⟩:=(J0 _).1 h
  obtain ⟨c,hc,hc2,h⟩:=(J0 _).1 h
  split at h
  ·rename_i hN
   exact ⟨a,b,c,by omega,by omega,by omega,hN,List.mem_singleton.1 h⟩
  ·cases h
 ·rintro ⟨a,b,c,h1,h2,h3,h4,rfl⟩
  refine ⟨a,by omega,by omega,(J0 _).2 ⟨b,by omega,by omega,(J0 _).2 ⟨c,by omega,by omega,?_⟩⟩⟩
  unfold Y2 at h4
  rw [if_pos h4]; simp
theorem Qn4 {n:Nat} {S T:Nat → Nat}:cls n S=cls n T↔∀a b c,a < c→c < n→b < n→Y2 S a b c=Y2 T a b c:=by
 constructor
 ·intro h a b c h1 h2 h3
  have e:∀U,((a:Int),(b:Int),(c:Int))∈cls n U↔Y2 U a b c=true:=fun U=>by
   rw [Qx6]
   constructor
   ·rintro ⟨a',b',c',_,_,_,h5,h6⟩
    simp only [Prod.mk.injEq,Int.ofNat_inj] at h6
    obtain ⟨rfl,rfl,rfl⟩:=h6
    exact h5
   ·intro h5; exact ⟨a,b,c,h1,h2,h3,h5,rfl⟩
  rw [Bool.eq_iff_iff,←e S,←e T,h]
 ·intro h
  unfold cls
  refine Xr n fun a _ ha=>Xr n fun b _ hb=>Xr _ fun c h1 h2=>?_
  have:=h a b c (by omega) (by omega) (by omega)
  unfold Y2 at this
  rw [this]
theorem Qe5 {S:Nat → Nat} {a b c:Nat}:Y2 S a b c=Y2 S c b a:=by
 unfold Y2; rw [Qjm,Bool.and_comm ((S b).testBit a)]
theorem Qsi {n:Nat} {S T:Nat → Nat} (h:cls n S=cls n T) (hS:Gd n S) (hT:Gd n T) {a b c:Nat} (hac:a≠c) (ha:a < n) (hc:c < n) (hb:b < n):Y2 S a b c=Y2 T a b c:=by
 rcases Nat.lt_or_gt_of_ne hac with h1 | h1
 ·exact Qn4.1 h a b c h1 hc hb
 ·rw [Qe5,Qe5 (S:=T)]; exact Qn4.1 h c b a h1 ha hb
section
variable {n i j:Nat} {S:Nat → Nat} (hn:n≤7) (h:Gd n S) (hi:i < n) (hj:j < n) (hij:i≠j) (he:(S j).testBit i=true)
include hn h hi hj hij he
theorem V7 (u x:Nat) (hu:u < n):(X5 S i j u).testBit x=if u=i then (S i).testBit x || decide (j=x) else if u=j then (S j).testBit x && !decide (i=x) else (S u).testBit x:=by
 have h64:=Qqg (show n≤8 by omega) h
 unfold X5
 by_cases e:u=i
 ·simp only [e,if_true]; rw [Nat.testBit_or,Jj]
 ·by_cases e2:u=j
  ·simp only [e2,if_true]
   rw [if_neg (fun h=>hij h.symm),if_neg (fun h=>hij h.symm),Qwl (h64 j hj)]
  ·rw [if_neg e,if_neg e2,if_neg e,if_neg e2]
theorem Qjl {u w:Nat} (hu:u < n) (hw:w < n):near (X5 S i j) u w=near S u w:=by
 have hji:(S i).testBit j=false:=by
  obtain ⟨r,hr⟩:=Qkm h
  rw [Bool.eq_false_iff]
  intro e
  have:=hr i hi j e
  have:=hr j hj i he
  omega
 have hji':¬ j=i:=fun e=>hij e.symm
 unfold near
 rw [V7 hn h hi hj hij he u w hu,V7 hn h hi hj hij he w u hw]
 by_cases e1:u=i
 ·subst e1
  by_cases e2:w=u
  ·subst e2; simp [hji']
  ·by_cases e3:w=j
   ·subst e3; simp [hji,he,hji']
   ·have:¬ j=w:=fun e=>e3 e.symm
    simp [e2,e3,this]
 ·by_cases e2:u=j
  ·subst e2
   by_cases e3:w=i
   ·subst e3; simp [he,hij]
   ·have:¬ i=w:=fun e=>e3 e.symm
    by_cases e4:w=u
    ·subst e4; simp [e1,this]
    ·simp [e1,e3,e4,this]
  ·by_cases e3:w=i
   ·subst e3
    have:¬ j=u:=fun e=>e2 e.symm
    simp [e1,e2,this]
   ·by_cases e4:w=j
    ·subst e4
     have:¬ i=u:=fun e=>e1 e.symm
     simp [e1,e2,e3,this]
    ·simp [e1,e2,e3,e4]
def Qlt (S:Nat → Nat) (i j:Nat):Prop:=S j=S i ||| 2^i
omit hn h hi hj hij he in
theorem Qnp (hc:Qlt S i j) (x:Nat):(S j).testBit x=((S i).testBit x || decide (i=x)):=by
 unfold Qlt at hc
 rw [hc,Nat.testBit_or,Jj]
theorem Qxp (hc:Qlt S i j):Gd n (X5 S i j):=by
 obtain ⟨r,hr⟩:=Qkm h
 have hrij:=hr j hj i he
 refine Qmd (fun x=>if x=j then 2*r i+1 else 2*r x+2) fun v hv x hx=>?_
 rw [V7 hn h hi hj hij he v x hv] at hx
 have hii:¬ (S i).testBit i=true:=fun e=>by have:=hr i hi i e; omega
 by_cases e1:v=i
 ·subst e1
  rw [if_pos rfl] at hx
  by_cases e2:x=j
  ·subst e2
   refine ⟨hj,?_⟩
   rw [if_pos rfl,if_neg hij]; omega
  ·have hx:(S v).testBit x=true:=by
    rw [Bool.or_eq_true] at hx
    exact hx.resolve_right fun e=>e2 (of_decide_eq_true e).symm
   refine ⟨h.inn v hv x hx,?_⟩
   rw [if_neg e2,if_neg hij]
   have:=hr v hv x hx; omega
 ·rw [if_neg e1] at hx
  by_cases e2:v=j
  ·subst e2
   rw [if_pos rfl,Bool.and_eq_true] at hx
   have hxi:¬ i=x:=fun e=>by simp [e] at hx
   have hx2:=hx.1
   rw [Qnp hc] at hx2
   have hx2:(S i).testBit x=true:=by simpa [hxi] using hx2
   refine ⟨h.inn i hi x hx2,?_⟩
   have h3:=hr i hi x hx2
   have:¬ x=v:=fun e=>by rw [e] at h3; omega
   rw [if_neg this,if_pos rfl]; omega
  ·rw [if_neg e2] at hx
   refine ⟨h.inn v hv x hx,?_⟩
   have h3:=hr v hv x hx
   rw [if_neg e2]
   split
   ·rename_i e3; subst e3; omega
   ·omega
theorem Qwv (hc:Qlt S i j):cls n S=cls n (X5 S i j):=by
 have nr:∀p q,p < n→q < n→near (X5 S i j) p q=near S p q:=fun p q hp hq=>Qjl hn h hi hj hij he hp hq
 have fwd:∀p b q,p≠q→p < n→q < n→b < n→Y2 S p b q=true→(X5 S i j b).testBit p=true:=fun p b q hpq hp hq hb hcol=>by
  unfold Y2 at hcol
  simp only [Bool.and_eq_true,Bool.not_eq_true'] at hcol
  obtain ⟨⟨k1,k2⟩,k3⟩:=hcol
  rw [V7 hn h hi hj hij he b p hb]
  by_cases e1:b=i
  ·rw [if_pos e1,←e1,k1]; rfl
  ·rw [if_neg e1]
   by_cases e2:b=j
   ·subst e2
    rw [if_pos rfl,k1]
    have:¬ i=p:=fun e=>by
     subst e
     rw [Qnp hc] at k2
     have:(S i).testBit q=true:=by simpa [hpq] using k2
     unfold near at k3
     rw [this] at k3; cases k3
    simp [this]
   ·rw [if_neg e2,k1]
 have bwd:∀p b q,p≠q→p < n→q < n→b < n→Y2 (X5 S i j) p b q=true→(S b).testBit p=true:=fun p b q hpq hp hq hb hcol=>by
  unfold Y2 at hcol
  rw [nr p q hp hq] at hcol
  simp only [Bool.and_eq_true,Bool.not_eq_true'] at hcol
  obtain ⟨⟨k1,k2⟩,k3⟩:=hcol
  rw [V7 hn h hi hj hij he b p hb] at k1
  rw [V7 hn h hi hj hij he b q hb] at k2
  by_cases e1:b=i
  ·rw [if_pos e1] at k1 k2
   subst e1
   by_cases e2:j=p
   ·subst e2
    have:(S b).testBit q=true:=by simpa [hpq] using k2
    have:(S j).testBit q=true:=by rw [Qnp hc,this]; rfl
    unfold near at k3
    rw [this] at k3; cases k3
   ·simpa [e2] using k1
  ·rw [if_neg e1] at k1
   by_cases e2:b=j
   ·rw [if_pos e2,Bool.and_eq_true] at k1
    rw [e2]; exact k1.1
   ·rw [if_neg e2] at k1; exact k1
 refine Qn4.2 fun a b c h1 h2 h3=>?_
 have ha:a < n:=by omega
 rw [Bool.eq_iff_iff]
 constructor
 ·intro hcol
  have f1:=fwd a b c (by omega) ha h2 h3 hcol
  have f2:=fwd c b a (by omega) h2 ha h3 (by rw [Qe5]; exact hcol)
  unfold Y2 at hcol ⊢
  rw [nr a c ha h2,f1,f2]
  simp only [Bool.and_eq_true] at hcol ⊢
  exact ⟨⟨trivial,trivial⟩,hcol.2⟩
 ·intro hcol
  have f1:=bwd a b c (by omega) ha h2 h3 hcol
  have f2:=bwd c b a (by omega) h2 ha h3 (by rw [Qe5]; exact hcol)
  unfold Y2 at hcol ⊢
  rw [nr a c ha h2] at hcol
  rw [f1,f2]
  simp only [Bool.and_eq_true] at hcol ⊢
  exact ⟨⟨trivial,trivial⟩,hcol.2⟩
theorem Qwk:prs n (near S)=prs n (near (X5 S i j)):=by
 unfold prs
 exact Xr n fun a _ ha=>Xr _ fun b h1 h2=>by rw [Qjl hn h hi hj hij he (show a < n by omega) (show b < n by omega)]
theorem Qvp (hT:Gd n (X5 S i j)) (hcl:cls n S=cls n (X5 S i j)):Qlt S i j:=by
 obtain ⟨r,hr⟩:=Qkm h
 obtain ⟨t,ht⟩:=Qkm hT
 have tb:=fun u x hu=>V7 hn h hi hj hij he u x hu
 have nr:∀p q,p < n→q < n→near (X5 S i j) p q=near S p q:=fun p q hp hq=>Qjl hn h hi hj hij he hp hq
 have hji:(X5 S i j i).testBit j=true:=by rw [tb i j hi,if_pos rfl]; simp
 have hjn:(X5 S i j j).testBit i=false:=by
  rw [tb j i hj,if_neg (fun e=>hij e.symm),if_pos rfl]; simp
 unfold Qlt
 apply Nat.eq_of_testBit_eq
 intro p
 rw [Nat.testBit_or,Jj]
 by_cases hpi:i=p
 ·subst hpi; simp [he]
 ·simp only [hpi,decide_false,Bool.or_false]
  have hpi':¬ p=i:=fun e=>hpi e.symm
  rw [Bool.eq_iff_iff]
  constructor
  ·intro hp
   have hpn:=h.inn j hj p hp
   have hpj:¬ p=j:=fun e=>by subst e; have:=hr p hj p hp; omega
   have hp':(X5 S i j j).testBit p=true:=by rw [tb j p hj,if_neg (fun e=>hij e.symm),if_pos rfl,hp]; simp [hpi]
   by_cases hnear:near S p i=true
   ·unfold near at hnear
    rw [Bool.or_eq_true] at hnear
    rcases hnear with e | e
    ·
     have e2:(X5 S i j p).testBit i=true:=by rw [tb p i hpn,if_neg hpi',if_neg hpj]; exact e
     have h1:=ht p hpn i e2
     have h2:=ht j hj p hp'
     have h3:=ht i hi j hji
     omega
    ·exact e
   ·
    exfalso
    have hc:Y2 S p j i=true:=by unfold Y2; rw [hp,he,Bool.eq_false_iff.2 hnear]; rfl
    rw [Qsi hcl h hT hpi' hpn hi hj] at hc
    unfold Y2 at hc
    rw [hjn] at hc
    simp at hc
  ·intro hp
   have hpn:=h.inn i hi p hp
   have hpj:¬ p=j:=fun e=>by
    subst e
    have:=hr i hi p hp
    have:=hr p hj i he
    omega
   by_cases hnear:near S p j=true
   ·unfold near at hnear
    rw [Bool.or_eq_true] at hnear
    rcases hnear with e | e
    ·have h1:=hr p hpn j e
     have h2:=hr j hj i he
     have h3:=hr i hi p hp
     omega
    ·exact e
   ·exfalso
    have hp':(X5 S i j i).testBit p=true:=by rw [tb i p hi,if_pos rfl,hp]; rfl
    have hc:Y2 (X5 S i j) p i j=true:=by unfold Y2; rw [hp',hji,nr p j hpn hj,Bool.eq_false_iff.2 hnear]; rfl
    rw [←Qsi hcl h hT hpj hpn hj hi] at hc
    unfold Y2 at hc
    have:(S i).testBit j=false:=by
     rw [Bool.eq_false_iff]; intro e
     have:=hr i hi j e
     have:=hr j hj i he
     omega
    rw [this] at hc
    simp at hc
theorem Qtz:Qb fuel (Xw (Qj n S) (Qj n (X5 S i j))) (false,0)=some (S j==(S i ||| 2^i)):=by
 have h64:=Qqg (show n≤8 by omega) h
 have t64:=Qqh (i:=i) (j:=j) h64 hi (by omega)
 have hlen:(Qj n S).length=n:=Y9
 have tb:=fun u x hu=>V7 hn h hi hj hij he u x hu
 have hji:¬ j=i:=fun e=>hij e.symm
 have inner:∀v,v < n→∀b:Bool,∀s,s=(b,(v:Int))→Qb fuel (Xt (Qj n S) s (Qj n (X5 S i j))) (b,0)=some (if v=j then (S j==(S i ||| 2^i)) else b):=fun v hv b s hs=>by
  subst hs
  have hh:=J7 (n:=n) (k0:=0) (by omega) (by omega) (fun u (x:Bool)=>(x,u)) (body:=Xt (Qj n S) (b,(v:Int)) (Qj n (X5 S i j))) (fun u=>if v=j∧i < u then (S j==(S i ||| 2^i)) else b) (if v=j then (S j==(S i ||| 2^i)) else b)
   (fun u _ hu=>by
    unfold Xt
    dsimp only
    rw [hlen,if_pos (dlt hu),Zs hv,Option.bind_some,Qe0 (h64 v hv) (by omega),Option.bind_some]
    by_cases c1:(S v).testBit u=true
    ·rw [if_pos c1,Zs hv,Option.bind_some,Qe0 (t64 v hv) (by omega),Option.bind_some,tb v u hv]
     by_cases e1:v=i
     ·subst e1
      rw [if_pos rfl,c1,if_neg (by simp)]
      simp [hij]
     ·rw [if_neg e1]
      by_cases e2:v=j
      ·subst e2
       rw [if_pos rfl,c1]
       by_cases e3:i=u
       ·subst e3
        rw [if_pos (by simp),Zs hi,Option.bind_some,if_pos (Yh i),Qje (by omega),Qkw (h64 i hi) (Qe7 (by omega))]
        rw [if_pos (by omega)]
        congr 3
        rw [Bool.eq_iff_iff,beq_iff_eq,beq_iff_eq]
        exact Int.ofNat_inj
       ·rw [if_neg (by simp [e3])]
        have:(i < u)↔(i < u+1):=by omega
        simp only [this]
      ·rw [if_neg e2,c1,if_neg (by simp)]
       simp [e2]
    ·rw [if_neg c1]
     have:(v=j∧i < u)↔(v=j∧i < u+1):=by
      constructor
      ·intro ⟨a,b⟩; exact ⟨a,by omega⟩
      ·intro ⟨a,b⟩
       refine ⟨a,?_⟩
       have:¬ i=u:=fun e=>by subst e; subst a; exact c1 he
       omega
     simp only [this])
   (by
    unfold Xt
    dsimp only
    rw [hlen,if_neg (nlt n)]
    simp [hi])
  rw [show ((0:Nat):Int)=0 from rfl] at hh
  simpa using hh
 have hh:=J7 (n:=n) (k0:=0) (by omega) (by omega) (fun v (x:Bool)=>(x,v)) (body:=Xw (Qj n S) (Qj n (X5 S i j))) (fun v=>if j < v then (S j==(S i ||| 2^i)) else false) (S j==(S i ||| 2^i))
  (fun v _ hv=>by
   unfold Xw
   dsimp only
   rw [hlen,if_pos (dlt hv),inner v hv _ _ rfl,Option.bind_some]
   by_cases e:v=j
   ·subst e; simp
   ·have:j < v↔j < v+1:=by omega
    simp only [e,if_false,this])
  (by
   unfold Xw
   dsimp only
   rw [hlen,if_neg (nlt n),if_pos hj])
 rw [show ((0:Nat):Int)=0 from rfl] at hh
 simpa using hh
end
theorem Qwa {n:Nat} {S T:Nat → Nat} (h:Qj n S=Qj n T) {v:Nat} (hv:v < n):S v=T v:=by
 have h1:=Zs (n:=n) (w:=S) hv
 rw [h,Zs hv] at h1
 exact (Int.ofNat_inj.1 (Option.some.inj h1)).symm
theorem turns_true (p0:Qd) (p1:Int) (h0:Vm p0) (h1:(Lit.int .u8 p1).wf=true):Ju p0 p1=some true:=by
 obtain ⟨S,hg,hG,h6⟩:=Qub (Qwu h0) (m:=6) (by omega)
 generalize hn:1+p0.N.toNat % 6=n at *
 have hS:=Qqg (by omega) hG
 have hlen:∀U,(Qj n U).length=n:=fun U=>Y9
 unfold Ju
 have hg':X7 (Qd.mk p0.N (p0.Order.1,p0.Order.2.1,p0.Order.2.2.1,p0.Order.2.2.2.1,p0.Order.2.2.2.2.1,p0.Order.2.2.2.2.2) p0.Edges) 6=some (Qj n S):=hg
 rw [Qwb,Option.bind_some,if_neg (by decide),hg',Option.bind_some]
 have sg:=Qz1 (show n≤7 by omega) hS
 have hc:Qt (Qj n S)=some 0∧Zw (Qj n S)=some (prs n (near S),0):=by
  rcases sg with ⟨_,_,h3,h4,_⟩ | ⟨h2,_⟩
  ·exact ⟨h3,h4⟩
  ·obtain ⟨d,hd,hd2⟩:=Qi6 (m:=6) (show n≤7 by omega) hS
   have:=hd.symm.trans h2
   have:d=false:=Option.some.inj this
   have:=hd2.2 ⟨by omega,hG⟩
   simp_all
 rcases Qtc (show n≤7 by omega) hS (wf8 h1) with ⟨hp,ht⟩ | ⟨i,j,hi,hj,hij,he,ht⟩
 ·rw [ht,Option.bind_some,Qme (by rw [hlen]; omega),Option.bind_some,if_pos (by simp),hc.2,Option.bind_some,hp]
  rfl
 ·have hne:¬ Qj n S=Qj n (X5 S i j):=fun e=>by
   have e1:=Qwa e hj
   have e2:=V7 (show n≤7 by omega) hG hi hj hij he j i hj
   rw [←e1,he,if_neg (fun e=>hij e.symm),if_pos rfl] at e2
   simp at e2
  rw [ht,Option.bind_some,Qme (by rw [hlen]; omega),Option.bind_some,if_neg (by simp [hne]),Qtz (by omega) hG hi hj hij he,Option.bind_some]
  have st:=Qz1 (show n≤7 by omega) (Qqh (i:=i) (j:=j) hS hi (by omega))
  have hprs:=Qwk (show n≤7 by omega) hG hi hj hij he
  by_cases hcov:Qlt S i j
  ·have hT:=Qxp (by omega) hG hi hj hij he hcov
   have hcl:=Qwv (by omega) hG hi hj hij he hcov
   have hct:Qt (Qj n (X5 S i j))=some 0:=by
    rcases st with ⟨_,_,h3,_⟩ | ⟨h2,_⟩
    ·exact h3
    ·obtain ⟨d,hd,hd2⟩:=Qi6 (m:=6) (show n≤7 by omega) (Qqh (i:=i) (j:=j) hS hi (by omega))
     have:d=false:=Option.some.inj (hd.symm.trans h2)
     have:=hd2.2 ⟨by omega,hT⟩
     simp_all
   rw [hct,Option.bind_some,if_neg (by simp),Qog (by omega) hG (by omega) hT hc.1 hct,Option.bind_some,if_pos (by simp)]
   have e1:eqv n n S (X5 S i j)=true:=by unfold eqv; exact decide_eq_true ⟨rfl,hprs,hcl⟩
   have e2:(S j==(S i ||| 2^i))=true:=by rw [beq_iff_eq]; exact hcov
   rw [e1,e2]; rfl
  ·have e2:(S j==(S i ||| 2^i))=false:=by rw [beq_eq_false_iff_ne]; exact hcov
   rcases st with ⟨⟨_,hT⟩,_,hct,_⟩ | ⟨_,hct,_⟩
   ·rw [hct,Option.bind_some,if_neg (by simp),Qog (by omega) hG (by omega) hT hc.1 hct,Option.bind_some,if_pos (by simp)]
    have e1:eqv n n S (X5 S i j)=false:=by
     unfold eqv
     exact decide_eq_false fun e=>hcov (Qvp (by omega) hG hi hj hij he hT e.2.2)
    rw [e1,e2]; rfl
   ·rw [hct,Option.bind_some,if_pos (by simp),e2]; rfl
#print axioms turns_true
end Go.Ab
namespace Go.Ab
open Go Go.Proofs Go.Proofs.YtojklbpplceiiaaDoor
open Go.ChangeShapes Go.WideShapes Go.ChangeAt Go.RowKit
abbrev dr_laid:List (String × DataW Unit):=[("math/bits.deBruijn32tab",Rows.laid_math_bits_deBruijn32tab),("math/bits.deBruijn64tab",Rows.laid_math_bits_deBruijn64tab)]
theorem dr_own:ownKnob Tryd.prog.godebug=none:=by kernel_rfl
theorem Qw9:Tryd.prog.globalNamed "math/bits.deBruijn32tab" = some 0:=by kernel_rfl
theorem Qw8:Tryd.prog.globalNamed "math/bits.deBruijn64tab" = some 1:=by kernel_rfl
theorem dr_met (os:Os) (args:Array Value):laidMetH Tryd.prog dr_laid ((World.doorLaid Tryd.prog 19 os).forCall (fun _ _=>0) ⟨#[],args,[]⟩).memory :=
 laidMetH_of_parts3 (fuel:=8) (laidMet_of_run' 8 (by kernel_rfl) (by kernel_rfl)) (by kernel_rfl) (by kernel_rfl)
theorem dr_glob {W:World} (h:laidMetH Tryd.prog dr_laid W):Go.Ab.GlobIn W:=by
 rw [MakeChecks.laidMetH_plain _ _ _ (by kernel_rfl)] at h
 have h0:=Lib.tabIs_of_head (k:=.u8) (zs:=Go.Ab.tab0) (t:=164) (e:=5) (n:=32) Qw9 (by kernel_rfl) (by kernel_rfl) (by kernel_rfl) (by kernel_rfl) (by kernel_rfl) h
 have h1:=Lib.tabIs_of_head (k:=.u8) (zs:=Go.Ab.tab1) (t:=165) (e:=5) (n:=64) Qw8 (by kernel_rfl) (by kernel_rfl) (by kernel_rfl) (by kernel_rfl) (by kernel_rfl) h.tail
 intro g xs hg i v hv
 match g,hg with
 | 0,hg =>
  cases hg
  have hi:i < Go.Ab.tab0.length:=by have:=(List.getElem?_eq_some_iff.1 hv).1; simpa using this
  have:=h0.cell Qw9 i hi
  rw [this]
  rw [List.getElem?_map] at hv
  simpa [List.getD,hi] using hv
 | 1,hg =>
  cases hg
  have hi:i < Go.Ab.tab1.length:=by have:=(List.getElem?_eq_some_iff.1 hv).1; simpa using this
  have:=h1.cell Qw8 i hi
  rw [this]
  rw [List.getElem?_map] at hv
  simpa [List.getD,hi] using hv
 | n+2,hg=>cases hg
end Go.Ab
