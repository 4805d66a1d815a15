/- Functions. No conditions. -/
import Derived.Test.YtgogkahhifkocaaDoorW16
import Derived.Test.YtgogkahhifkocaaDoorRows
import Derived.Test.YtgogkahhifkocaaDoorEng7
import Derived.WalkKit
import Derived.ProofKit
import Derived.LaidMore
import Derived.Lib.LaidTab
import Derived.Stop.LaidErr
import Derived.Stop.Joined
import Derived.OpenShut
set_option maxRecDepth 100000
set_option maxHeartbeats 400000
set_option linter.all false
namespace Go.Ab
open Go
open Classical
def num (c w:Nat -> Nat):Nat -> Nat
 | 0=>0
 | n+1=>num c w n*c n+w n
def pd (c:Nat -> Nat):Nat -> Nat -> Nat -> Nat
 | 0,_,_=>0
 | n+1,k,j=>if j=n then k % c n else pd c n (k / c n) j
theorem Qjb {c w w':Nat -> Nat}:∀{n:Nat},(∀j,j < n->w j=w' j)->num c w n=num c w' n
 | 0,_=>rfl
 | n+1,h=>by unfold num; rw [Qjb fun j hj=>h j (by omega),h n (by omega)]
theorem Qu4 {c w:Nat -> Nat}:∀{n:Nat},(∀j,j < n->w j < c j)->num c w n < prodTo n c
 | 0,_=>by simp [num,prodTo]
 | n+1,h=>by
  have h1:=Qu4 (n:=n) fun j hj=>h j (by omega)
  have h2:=h n (by omega)
  unfold num prodTo
  have:(num c w n+1)*c n<=prodTo n c*c n:=aR _ h1
  rw [dR] at this
  omega
theorem Q2r {c w:Nat -> Nat}:∀{n:Nat},(∀j,j < n->w j < c j)->∀j,j < n->pd c n (num c w n) j=w j
 | 0,_,j,hj=>by omega
 | n+1,h,j,hj=>by
  have h2:=h n (by omega)
  unfold pd num
  by_cases e:j=n
  ·subst e; rw [aH rfl,cJ,Nat.mul_add_mod,Nat.mod_eq_of_lt h2]
  rw [aI e,cJ,Nat.mul_add_div (by omega),Nat.div_eq_of_lt h2,eG]
  exact Q2r (fun j hj=>h j (by omega)) j (by omega)
theorem Q2v {c:Nat -> Nat}:∀{n k:Nat},k < prodTo n c->num c (pd c n k) n=k
 | 0,k,h=>by simp [prodTo] at h; simp [num,h]
 | n+1,k,h=>by
  unfold prodTo at h
  have hc:0 < c n:=Nat.pos_of_ne_zero fun e=>by rw [e] at h; omega
  have hk:k / c n < prodTo n c:=(cG hc).2 h
  have e1:pd c (n+1) k n=k % c n:=by unfold pd; rw [aH rfl]
  have e2:num c (pd c (n+1) k) n=num c (pd c n (k / c n)) n:=Qjb fun j hj=>by
   show (if j=n then _ else _)=_
   rw [aI (by omega)]
  unfold num
  rw [e1,e2,Q2v hk,cJ]
  exact dL k (c n)
theorem Qz5 {c:Nat -> Nat}:∀{n k:Nat},(∀j,j < n->1<=c j)->∀j,j < n->pd c n k j < c j
 | 0,k,_,j,hj=>by omega
 | n+1,k,h,j,hj=>by
  unfold pd
  by_cases e:j=n
  ·subst e; rw [aH rfl]; exact cF _ (h j (by omega))
  rw [aI e]; exact Qz5 (fun j hj=>h j (by omega)) j (by omega)
def cS (D:NF) (m:Nat) (v:Nat):Nat := if m.testBit v=true then D.card v else 1
def wS (m:Nat) (w:Nat -> Nat) (v:Nat):Nat := if m.testBit v=true then w v else 0
def Xr (D:NF) (m n k:Nat) (v:Nat):Int:=if m.testBit v=true then (pd (cS D m) n k v:Int) else -1
section
variable {D:NF} {m:Nat}
theorem Qz7 {w:Nat -> Nat} (hw:D.ok w):∀j,j < D.n->wS m w j < cS D m j:=fun j hj=>by
 unfold wS cS
 split
 ·exact hw j hj
 omega
theorem Qru (V:VN D):∀j,j < D.n->1<=cS D m j:=fun j hj=>by
 unfold cS
 split
 ·exact (V.card j hj).1
 omega
theorem Qte {f g:Nat -> Nat}:∀{n:Nat},(∀j,j < n->f j<=g j)->prodTo n f<=prodTo n g
 | 0,_=>aY _
 | n+1,h=>Nat.mul_le_mul (Qte fun j hj=>h j (by omega)) (h n (by omega))
theorem Qdv (V:VN D) {n:Nat} (hn:n<=D.n):prodTo n (cS D m)<=1024:=by
 have h1:prodTo n (cS D m)<=prodTo D.n (cS D m):=by
  obtain ⟨d,hd⟩:=Nat.exists_eq_add_of_le hn
  have:∀d,n+d<=D.n->prodTo n (cS D m)<=prodTo (n+d) (cS D m):=fun d=>by
   induction d with
   | zero=>intro _; exact aY _
   | succ d ih =>
    intro h
    refine bV (ih (by omega)) ?_
    show _<=prodTo (n+d) _*cS D m (n+d)
    have:=Qru V (m:=m) (n+d) (by omega)
    exact Nat.le_mul_of_pos_right _ this
  rw [hd]; exact this d (by omega)
 refine bV h1 (bV (Qte fun j hj=>?_) V.worlds)
 unfold cS
 split
 ·exact aY _
 exact (V.card j hj).1
theorem Qjr (V:VN D) {n:Nat} (hn:n<=D.n):1<=prodTo n (cS D m):=Qro fun j hj=>Qru V j (by omega)
theorem Q7a (V:VN D) {k:Nat}:Qj7 D (Xr D m D.n k):=fun j hj=>by
 have h:=Qz5 (c:=cS D m) (n:=D.n) (k:=k) (Qru V) j hj
 have hc:=V.card j hj
 unfold Xr
 unfold cS at h
 split
 ·rename_i c; rw [aH c] at h; unfold cS; omega
 omega
theorem Qtw {k:Nat} (hm:m < 2^D.n):Vx D.n (Xr D m D.n k)=m:=by
 apply dS
 intro j
 rw [Qu7]
 by_cases hj:j < D.n
 ·unfold Xr
  by_cases c:m.testBit j=true
  ·rw [aH c,c]; simp [hj]
  rw [aI c]; simp at c; rw [c]; simp
 have:m.testBit j=false:=Nat.testBit_lt_two_pow (bM hm (aT (by omega) (by omega)))
 rw [this]; simp [hj]
theorem Q2c (V:VN D) {w:Nat -> Nat} (hw:D.ok w) {k:Nat} (hk:k < prodTo D.n (cS D m)):Z7 D.n (Xr D m D.n k) 0 w↔num (cS D m) (wS m w) D.n=k:=by
 constructor
 ·intro h
  rw [<-Q2v hk]
  refine Qjb fun j hj=>?_
  have h1:=h j (eC _) hj
  have h2:=Qz5 (c:=cS D m) (n:=D.n) (k:=k) (Qru V) j hj
  unfold okE Xr at h1
  unfold wS
  unfold cS at h2
  split
  ·rename_i c
   rw [aH c] at h1
   rcases h1 with h1 | h1
   ·omega
   omega
  rename_i c
  rw [aI c] at h2; unfold cS; omega
 rintro rfl j _ hj
 unfold okE Xr
 by_cases c:m.testBit j=true
 ·rw [aH c,Q2r (Qz7 hw) j hj]
  unfold wS; rw [aH c]; exact .inr rfl
 rw [aI c]; exact .inl rfl
theorem Qx3 (V:VN D) (hm:m < 18446744073709551616) {w:Nat -> Nat} (hw:D.ok w):Qb1 D.net (m:Int) (Qk D.n w)=some (num (cS D m) (wS m w) D.n:Int):=by
 have hlen:D.net.Nodes.length=D.n:=Qm
 have hn8:=V.n8
 have hr:=Zy (n:=D.n) (k0:=0) (by omega) (by omega) (fun i (t:Int)=>(t,i)) (body:=Ks D.net (m:Int) (Qk D.n w)) (fun k=>(num (cS D m) (wS m w) k:Int)) (num (cS D m) (wS m w) D.n:Int)
  (fun k _ hk=>by
   have hb:num (cS D m) (wS m w) k < 1024:=bM (Qu4 fun j hj=>Qz7 hw j (by omega)) (Qdv V (by omega))
   have hc:=(V.card k hk).2
   have hwk:=hw k hk
   have hmm:num (cS D m) (wS m w) k*D.card k<=1024*4:=Nat.mul_le_mul (by omega) hc
   have hs:num (cS D m) (wS m w) (k+1)=num (cS D m) (wS m w) k*cS D m k+wS m w k:=rfl
   unfold Ks
   simp only
   rw [aH (by rw [hlen]; exact dlt hk),V.node hk,aC,aH (by omega),Qs7 hm (by omega),hs]
   by_cases c:m.testBit k=true
   ·have e1:∀x:Nat,x*D.card k<=1024*4->zw (zw ((x:Int)*(D.card k:Int))+(w k:Int))=((x*D.card k+w k:Nat):Int):=fun x hx=>by
     rw [<-Int.natCast_mul,w64 (n:=((x*D.card k:Nat):Int)) (by omega),w64 (by omega)]; omega
    rw [aH c,Z6 hk,aC,show (D.node k).Card=(D.card k:Int) from rfl,show cS D m k=D.card k from aH c,show wS m w k=w k from aH c,e1 _ hmm]
   rw [aI c,show cS D m k=1 from aI c,show wS m w k=0 from aI c,Nat.mul_one,eG])
  (by unfold Ks; simp only; rw [hlen,aI (nlt _)])
 unfold Qb1
 exact Zw hr rfl
theorem Qzv (V:VN D) (hm:m < 18446744073709551616):Qb fuel (Qaq D.net (m:Int)) (1,0)=some (prodTo D.n (cS D m):Int):=by
 have hlen:D.net.Nodes.length=D.n:=Qm
 have hn8:=V.n8
 have hr:=Zy (n:=D.n) (k0:=0) (by omega) (by omega) (fun i (t:Int)=>(t,i)) (body:=Qaq D.net (m:Int)) (fun k=>(prodTo k (cS D m):Int)) (prodTo D.n (cS D m):Int)
  (fun k _ hk=>by
   have hb:=Qdv V (m:=m) (n:=k) (by omega)
   have hc:=(V.card k hk).2
   have hmm:prodTo k (cS D m)*D.card k<=1024*4:=Nat.mul_le_mul (by omega) hc
   have hs:prodTo (k+1) (cS D m)=prodTo k (cS D m)*cS D m k:=rfl
   unfold Qaq
   simp only
   rw [aH (by rw [hlen]; exact dlt hk),V.node hk,aC,aH (by omega),Qs7 hm (by omega),hs]
   by_cases c:m.testBit k=true
   ·rw [aH c,show (D.node k).Card=(D.card k:Int) from rfl,show cS D m k=D.card k from aH c,w64 (by rw [<-Int.natCast_mul]; omega),<-Int.natCast_mul]
   rw [aI c,show cS D m k=1 from aI c,Nat.mul_one])
  (by unfold Qaq; simp only; rw [hlen,aI (nlt _)])
 exact hr
def Zg (D:NF) (m v x k:Nat):Int:=SW D (fun _=>-1) (fun w=>if w v=x/\num (cS D m) (wS m w) D.n=k then fS D m w else 0)
def Qa2 (D:NF) (m v x k:Nat) (w:Nat -> Nat):Int:=if w v=x/\num (cS D m) (wS m w) D.n=k then fS D m w else 0
theorem Qvb (V:VN D) {v x k:Nat} (hv:v < D.n):Ext D (Qa2 D m v x k):=fun w w' h=>by
 unfold Qa2
 rw [h v hv,Qvn V w w' h,Qjb (w:=wS m w) (w':=wS m w') fun j hj=>by unfold wS; rw [h j hj]]
theorem Qsv (V:VN D) {v x k:Nat}:∀w,D.ok w->BD 1 (Qa2 D m v x k w):=fun w hw=>by
 unfold Qa2
 split
 ·exact Q0t V w hw
 exact BD.zero
theorem Q5a (V:VN D) {v x:Nat} (hm:m < 18446744073709551616) (hv:v < D.n) :
  ∃w',Qfh (Qam D.net (m:Int) (v:Int) (x:Int)) fuel (0,Qk (prodTo D.n (cS D m)) (fun _=>0),Qk D.n fun _=>0)=some (rowG (prodTo D.n (cS D m)) (fun k=>Zg D m v x k),Qk D.n w'):=by
 have hw:=V.worlds
 have hn8:=V.n8
 obtain ⟨N,hN⟩:∃N,N=prodTo D.n (cS D m):=⟨_,rfl⟩
 have hN1:=Qdv V (m:=m) (aY D.n)
 obtain ⟨w',_,_,h⟩:=Qwc V (K:=KE fun _=>-1) (leaf:=fun (t:Nat -> Int) w=>fun k=>t k+Qa2 D m v x k w) (fun t w w' h=>by funext k; show t k+_=t k+_; rw [Qvb V hv w w' h])
  (I:=fun m t=>∀x,BD m (t x)) (fun _ _ _ h hp=>fun x=>(h x).mono hp) (fun _ _ w h hw=>fun x=>(h x).add (Qsv V w hw))
  (fun i t l=>((i,rowG N t,l):Int × List Int × List Int)) (fun t l=>((rowG N t,l):List Int × List Int))
  (F:=Qam D.net (m:Int) (v:Int) (x:Int)) (B:=fun r i t w=>Qda (D.node i) ((i:Int),rowG N t,Qk D.n w) r)
  (fun r p t w hw hI hp=>by
   unfold Qam
   simp only
   rw [aH (by rw [Xn]; simp),V.aweigh hm hw,aC,Z6 hv,aC]
   by_cases c:w v=x
   ·have hk:num (cS D m) (wS m w) D.n < N:=by rw [hN]; exact Qu4 (Qz7 hw)
    have hit:Qa2 D m v x (num (cS D m) (wS m w) D.n) w=fS D m w:=aH ⟨c,rfl⟩
    have hf:=((hI (num (cS D m) (wS m w) D.n)).add (Qsv (m:=m) (v:=v) (x:=x) (k:=num (cS D m) (wS m w) D.n) V w hw)).fit hp
    rw [hit] at hf
    rw [aH (by simp [c]),Qx3 V hm hw,aC,show lkI (rowG N t) (num (cS D m) (wS m w) D.n:Int)=some (t (num (cS D m) (wS m w) D.n)) from Qr hk,aC,w64 hf,aP,Yc]
    have e:(rowG N fun s=>if s=num (cS D m) (wS m w) D.n then t (num (cS D m) (wS m w) D.n)+fS D m w else t s)=rowG N fun k=>t k+Qa2 D m v x k w:=Ql fun k _=>by
     by_cases e:k=num (cS D m) (wS m w) D.n
     ·subst e; rw [aH rfl,hit]
     rw [aI e]; unfold Qa2; rw [aI fun h=>e h.2.symm,Int.add_zero]
    rw [e]
   rw [aI (by simp; omega)]
   have e:rowG N t=rowG N fun k=>t k+Qa2 D m v x k w:=Ql fun k _=>by unfold Qa2; rw [aI fun h=>c h.1,Int.add_zero]
   rw [<-e])
  (fun r i t w z hi hw hz=>by
   unfold Qam
   simp only
   rw [aI (by rw [Xn]; simp; omega),V.node hi,aC,hz,aC])
  (fun r i t0 w0 x t w z w' hi hw hx hk hr=>by
   have hc:=(V.card i hi).2
   unfold Qda
   simp only
   rw [aH (by simp [NF.node]; omega),Qn5 (fun _=>()) 0 () (fun k hk=>by omega) rfl (by decide),aC,Z6 hi,aC,aP,Q4e,Qkr (by omega),hr,aC,Qkr (by omega)])
  (fun r i t0 w0 x t w hi hw hx hk=>by
   exfalso
   unfold KE okE at hk
   simp at hk)
  (fun r i t0 w0 t w hi hw=>by
   unfold Qda
   simp only
   rw [aI (by simp [NF.node])])
  D.n fuel (by unfold fuel; omega) 0 0 (fun _=>0) (fun _=>0) (by omega) (fun v hv=>(V.card v hv).1) (fun _=>BD.zero) (by rw [Q8g]; omega)
 have hr:∀k,FWl D (KE fun _=>-1) (fun (t:Nat -> Int) w=>fun k=>t k+Qa2 D m v x k w) D.n 0 (fun _=>0) (fun _=>0) k=Zg D m v x k:=fun k=>by
  have:=Qv7 (D:=D) (E:=fun _=>-1) (leaf:=fun (t:Nat -> Int) w=>fun k=>t k+Qa2 D m v x k w) (p:=fun t=>t k) (f:=Qa2 D m v x k) (fun _ _=>rfl) D.n 0 (fun _=>0) (fun _=>0)
  rw [Int.zero_add] at this
  exact this
 refine ⟨w',?_⟩
 rw [<-hN]
 have h':=h
 rw [Ql (fun k _=>hr k)] at h'
 exact h'
theorem Qnm (V:VN D) {v x k:Nat}:0<=Zg D m v x k/\(Zg D m v x k).natAbs<=MX:=by
 have h1:0<=Zg D m v x k:=Qmp (f:=Qa2 D m v x k) (fun w=>by unfold Qa2; split; exact Qtk V; exact Int.le_refl _) _ _ _
 have h2:=Q5k V (m:=1024) (E:=fun _=>-1) V.worlds (Qsv (m:=m) (v:=v) (x:=x) (k:=k) V)
 unfold BD KK at h2
 have h2:-((1024:Nat):Int)*167961600000000<=Zg D m v x k/\Zg D m v x k<=((1024:Nat):Int)*167961600000000:=by
  have:Zg D m v x k=SW D (fun _=>-1) (Qa2 D m v x k):=rfl
  rw [this]; omega
 refine ⟨h1,?_⟩
 unfold MX; omega
theorem Q1k (V:VN D) {v x k:Nat} (hm:m < 2^D.n) (hv:v < D.n) (hk:k < prodTo D.n (cS D m)):Qjk D (Xr D m D.n k) (Xh (fun _=>-1) v (x:Int))=Zg D m v x k:=by
 have e:Zg D m v x k=SW D (fun _=>-1) (Qa2 D m v x k):=rfl
 unfold Qjk
 rw [e,Qtw hm,Qw0 V (Qvn V),Qw0 V (Qvb V hv)]
 refine Jm fun W _=>?_
 simp only [Qq8 (Q2x V),Q2c V (Qq2 V W) hk]
 have h1:Z7 D.n (fun _=>-1) 0 (dig D W):=fun j _ _=>.inl rfl
 rw [aH h1]
 unfold Qa2
 by_cases c:dig D W v=x
 ·have h2:Z7 D.n (Xh (fun _=>-1) v (x:Int)) 0 (dig D W):=fun j _ hj=>by
   unfold okE Xh
   by_cases e:j=v
   ·subst e; rw [aH rfl]; exact .inr (by rw [c])
   rw [aI e]; exact .inl rfl
  simp [h2,c]
 have h2:¬ Z7 D.n (Xh (fun _=>-1) v (x:Int)) 0 (dig D W):=fun h=>c (by
  have:=h v (eC _) hv
  unfold okE Xh at this
  rw [aH rfl] at this
  omega)
 simp [h2,c]
def argF (A:Nat -> Int):Nat -> Nat
 | 0=>0
 | n+1=>if A n > A (argF A n) then n else argF A n
theorem Qsn {A:Nat -> Int}:∀{n:Nat},1<=n->argF A n < n
 | 1,_=>by unfold argF; split <;> (try unfold argF) <;> omega
 | n+2,_=>by
  have:=Qsn (A:=A) (n:=n+1) (by omega)
  unfold argF
  split <;> omega
theorem Q4n {N:Nat} {A:Nat -> Int} {l:List Int} (hN:1<=N) (hN2:N<=1024):Qb fuel (Qar (rowG N A,l)) (0,0)=some (argF A N:Int):=by
 have hr:=Zy (n:=N) (k0:=0) (by omega) (by omega) (fun i (t:Int)=>(t,i)) (body:=Qar (rowG N A,l)) (fun k=>(argF A k:Int)) (argF A N:Int)
  (fun k _ hk=>by
   have hb:argF A k < N:=by
    rcases dY k with e | e
    ·subst e; unfold argF; omega
    have:=Qsn (A:=A) e; omega
   unfold Qar
   simp only
   rw [aH (by rw [Qm]; exact dlt hk),show lkI (rowG N A) (k:Int)=some (A k) from Qr hk,aC,show lkI (rowG N A) (argF A k:Int)=some (A (argF A k)) from Qr hb,aC]
   by_cases c:A k > A (argF A k)
   ·rw [aH (by simpa using c),show argF A (k+1)=k from aH c]
   rw [aI (by simpa using c),show argF A (k+1)=argF A k from aI c])
  (by unfold Qar; simp only; rw [Qm,aI (nlt _)])
 exact hr
theorem Q1u (V:VN D) {k:Nat} (hm:m < 18446744073709551616) (hk:k < 1024):Qeb D.net (m:Int) (k:Int)=some (rowG D.n (Xr D m D.n k)):=by
 have hlen:D.net.Nodes.length=D.n:=Qm
 have hn8:=V.n8
 have hn1:=V.n1
 unfold Qeb
 rw [hlen,aH (by omega),aP,cE]
 have hs:=Qfj (body:=Qa7 (m:Int) D.net) (fun s=>∃(i r:Nat),i<=D.n/\r < 1024/\(∀j,j < i->pd (cS D m) D.n k j=pd (cS D m) i r j)/\s=((r:Int),(i:Int) - 1,rowG D.n fun j=>if j < i then 0 else Xr D m D.n k j))
  (fun s=>(s.2.1+1).toNat) (fun r=>r=rowG D.n (Xr D m D.n k))
  (fun s hs=>by
   obtain ⟨i,r,hi,hr,hp,rfl⟩:=hs
   cases i with
   | zero =>
    right
    unfold Qa7
    simp only
    rw [aI (by simp)]
    exact ⟨_,rfl,Ql fun j _=>by rw [aI (by omega)]⟩
   | succ i =>
    left
    have hc:=V.card i (by omega)
    have hgl:lkI (rowG D.n fun j=>if j < i+1 then 0 else Xr D m D.n k j) (i:Int)=some _:=Qr (by omega)
    have hset:∀y,y=Xr D m D.n k i->(rowG D.n fun j=>if j < i+1 then 0 else Xr D m D.n k j).set i y=rowG D.n fun j=>if j < i then 0 else Xr D m D.n k j:=fun y hy=>by
     rw [Yc]
     refine Ql fun j _=>?_
     by_cases e:j=i
     ·subst e; rw [aH rfl,aI (by omega),hy]
     rw [aI e]
     by_cases e2:j < i
     ·rw [aH (by omega),aH e2]
     rw [aI (by omega),aI e2]
    have hpi:=hp i (by omega)
    have hpd:pd (cS D m) (i+1) r i=r % cS D m i:=by unfold pd; rw [aH rfl]
    have hpj:∀j,j < i->pd (cS D m) (i+1) r j=pd (cS D m) i (r / cS D m i) j:=fun j hj=>by
     show (if j=i then _ else _)=_
     rw [aI (by omega)]
    have hcs:cS D m i=1\/(m.testBit i=true/\cS D m i=D.card i):=by
     unfold cS; split
     ·rename_i c; exact .inr ⟨c,rfl⟩
     exact .inl rfl
    unfold Qa7
    simp only
    rw [show ((i+1:Nat):Int) - 1=(i:Int) by omega,aH (by simp),aH (by omega),Qyy hm (by omega)]
    by_cases c:m.testBit i=true
    ·have hci:cS D m i=D.card i:=aH c
     rw [aI (by simp [c]),V.node (by omega),aC,show (D.node i).Card=(D.card i:Int) from rfl,aH (by omega),hgl,aC,aH (by omega),aP]
     have ed:zw (Int.tdiv (r:Int) (D.card i:Int))=((r / D.card i:Nat):Int):=by
      rw [Ji (by omega),<-Int.natCast_ediv]
      have:=Nat.div_le_self r (D.card i)
      generalize r / D.card i=z at *
      rw [w64 (by omega)]
     have em:Int.tmod (r:Int) (D.card i:Int)=((r % D.card i:Nat):Int):=by rw [Vc (by omega),<-Int.natCast_emod]
     rw [ed,em,w64 (n:=(i:Int) - 1) (by omega),hset _ (by unfold Xr; rw [aH c,hpi,hpd,hci])]
     exact ⟨_,rfl,⟨i,r / D.card i,by omega,by have:=Nat.div_le_self r (D.card i); omega,fun j hj=>by rw [hp j (by omega),hpj j hj,hci],rfl⟩,by simp⟩
    have hci:cS D m i=1:=aI c
    rw [aH (by simpa using c),hgl,aC,aP,w64 (n:=(i:Int) - 1) (by omega),hset _ (by unfold Xr; rw [aI c])]
    exact ⟨_,rfl,⟨i,r,by omega,hr,fun j hj=>by rw [hp j (by omega),hpj j hj,hci,Nat.div_one],rfl⟩,by simp⟩)
  fuel ((k:Int),(D.n:Int) - 1,rowG D.n fun j=>if j < D.n then 0 else Xr D m D.n k j) ⟨D.n,k,aY _,hk,fun _ _=>rfl,rfl⟩ (by unfold fuel; simp; omega)
 obtain ⟨r,h1,rfl⟩:=hs
 have e0:List.replicate D.n (0:Int)=rowG D.n fun j=>if j < D.n then 0 else Xr D m D.n k j:=by
  rw [Qbx]; exact Ql fun j hj=>by rw [aH hj]
 rw [w64 (by omega),e0]
 exact Zw h1 rfl
def bestK (D:NF) (m v x:Nat):Nat := argF (Zg D m v x) (prodTo D.n (cS D m))
theorem Qwd (V:VN D) {v x:Nat}:bestK D m v x < prodTo D.n (cS D m):=Qsn (Qjr V (aY _))
theorem Q6v (X:VX D) {v x:Nat} (hm:m < 2^D.n) (hv:v < D.n) (hx:x < D.card v) :
  Jp D.net (m:Int) (v:Int) (x:Int)=some (rowG D.n (Xr D m D.n (bestK D m v x)),qI (Zg D m v x (bestK D m v x)) (D.wh m D.n:Int),0):=by
 have V:=X.vn
 have hn8:=V.n8
 have hlen:D.net.Nodes.length=D.n:=Qm
 have hm64:m < 18446744073709551616:=bM hm (bV (aT (by omega) hn8) (by decide))
 have hN:=Qdv V (m:=m) (aY D.n)
 have hN1:=Qjr V (m:=m) (aY D.n)
 obtain ⟨w',hr⟩:=Q5a V (x:=x) hm64 hv
 have hk:=Qwd V (m:=m) (v:=v) (x:=x)
 obtain ⟨h3,h4⟩:=Qv8 V (m:=m)
 have hc:=Q11 X [] (by simp) (by simp)
 have hsh:Int.fdiv (m:Int) (2^min (Int.toNat (D.n:Int)) zk)=0:=by
  rw [aP,show min D.n zk=D.n from Nat.min_eq_left (by simp [IntKind.bits]; omega),Qmb,Nat.div_eq_of_lt hm]; rfl
 unfold Jp
 rw [show ([]:List (List Int))=[].map (rowG D.n) from rfl,hc,aC,aI (by decide),hlen,aH (by omega),hsh,aI (by decide),aI (by simp),aI (by simp; omega),aI (by simp),V.node hv,aC,
  show (D.node v).Card=(D.card v:Int) from rfl,aI (by simp; omega),Qzv V hm64,aC,aH (by omega),aH (by omega),Q5q,Q5q,hr,aC,Q4n hN1 hN,aC]
 rw [show lkI (rowG (prodTo D.n (cS D m)) (fun k=>Zg D m v x k)) (argF (fun k=>Zg D m v x k) (prodTo D.n (cS D m)):Int)=some (Zg D m v x (bestK D m v x)) from Qr hk,aC,V.awhole hm64,aC,Q69 (Qnm V).2 h4 h3,aC]
 simp only
 rw [aI (by decide),show argF (fun k=>Zg D m v x k) (prodTo D.n (cS D m))=bestK D m v x from rfl,Q1u V hm64 (by omega)]; rfl
end
end Go.Ab
namespace Go.Ab
open Go
open Classical
section
variable {D:NF} {m:Nat}
theorem Qw1 {i k x:Nat} (hx:x < cS D m i):rowG i (Xr D m i k)++[if m.testBit i=true then (x:Int) else -1]=rowG (i+1) (Xr D m (i+1) (k*cS D m i+x)):=by
 have hd:(k*cS D m i+x) / cS D m i=k:=by
  rw [cJ,Nat.mul_add_div (by omega),Nat.div_eq_of_lt hx,eG]
 have hmod:(k*cS D m i+x) % cS D m i=x:=by rw [cJ,Nat.mul_add_mod,Nat.mod_eq_of_lt hx]
 rw [<-K6]
 congr 1
 ·refine Ql fun j hj=>?_
  unfold Xr
  rw [show pd (cS D m) (i+1) (k*cS D m i+x) j=pd (cS D m) i k j by show (if j=i then _ else _)=_; rw [aI (by omega),hd]]
 unfold Xr
 rw [show pd (cS D m) (i+1) (k*cS D m i+x) i=x by unfold pd; rw [aH rfl,hmod]]
def Vj (D:NF) (m i:Nat) (K:Nat):List (List Int):=rowG K fun k=>rowG i (Xr D m i k)
theorem Q0y (V:VN D) (hm:m < 18446744073709551616) {i k:Nat} (hi:i < D.n) (hk:k < prodTo i (cS D m)) (hb:m.testBit i=true) {s4:Int × List (List Int)} (h4:s4.1=k) :
  Qb fuel (Vy D.net ((i:Int),Vj D m i (prodTo i (cS D m))) s4) (0,Vj D m (i+1) (k*cS D m i))=some (Vj D m (i+1) ((k+1)*cS D m i)):=by
 have hn8:=V.n8
 have hc:=V.card i hi
 have hci:cS D m i=D.card i:=aH hb
 have hP:=Qdv V (m:=m) (n:=i+1) (by omega)
 have hP':prodTo (i+1) (cS D m)=prodTo i (cS D m)*cS D m i:=rfl
 have hkk:(k+1)*cS D m i<=prodTo i (cS D m)*cS D m i:=aR _ hk
 rw [dR] at hkk
 have hr:=Zy (n:=D.card i) (k0:=0) (by omega) (by omega) (fun j (t:List (List Int))=>(j,t)) (body:=Vy D.net ((i:Int),Vj D m i (prodTo i (cS D m))) s4)
  (fun x=>Vj D m (i+1) (k*cS D m i+x)) (Vj D m (i+1) ((k+1)*cS D m i))
  (fun x _ hx=>by
   unfold Vy
   simp only
   rw [V.node hi,aC,show (D.node i).Card=(D.card i:Int) from rfl,aH (dlt hx),h4,show lkI (Vj D m i (prodTo i (cS D m))) (k:Int)=some (rowG i (Xr D m i k)) from Qr hk,aC,
    aH (by rw [Qm]; omega),aH (by simp [Qm]; omega)]
   have e:rowG i (Xr D m i k)++[(x:Int)]=rowG (i+1) (Xr D m (i+1) (k*cS D m i+x)):=by
    rw [<-Qw1 (by omega),aH hb]
   rw [e,aH (by unfold Vj; simp [Qm]; omega)]
   unfold Vj
   rw [K6]; rfl)
  (by
   unfold Vy
   simp only
   rw [V.node hi,aC,show (D.node i).Card=(D.card i:Int) from rfl,aI (nlt _),dR,hci])
 exact hr
theorem Qzy (V:VN D) (hm:m < 18446744073709551616) {i:Nat} (hi:i < D.n) :
  Qb fuel (V0 ((i:Int),Vj D m i (prodTo i (cS D m))) (m:Int) D.net) (0,([]:List (List Int)))=some (Vj D m (i+1) (prodTo (i+1) (cS D m))):=by
 have hn8:=V.n8
 have hP0:=Qdv V (m:=m) (n:=i) (by omega)
 have hP:=Qdv V (m:=m) (n:=i+1) (by omega)
 have hP':prodTo (i+1) (cS D m)=prodTo i (cS D m)*cS D m i:=rfl
 have hlen:(Vj D m i (prodTo i (cS D m))).length=prodTo i (cS D m):=Qm
 have hr:=Zy (n:=prodTo i (cS D m)) (k0:=0) (by omega) (by omega) (fun j (t:List (List Int))=>(j,t)) (body:=V0 ((i:Int),Vj D m i (prodTo i (cS D m))) (m:Int) D.net)
  (fun k=>Vj D m (i+1) (k*cS D m i)) (Vj D m (i+1) (prodTo (i+1) (cS D m)))
  (fun k _ hk=>by
   unfold V0
   simp only
   rw [hlen,aH (dlt hk),Qu2 hm (by omega),aC]
   by_cases hb:m.testBit i=true
   ·rw [aI (by simp [hb]),Q0y V hm hi hk hb rfl,aC]
   have hci:cS D m i=1:=aI hb
   rw [aH (by simpa using hb),show lkI (Vj D m i (prodTo i (cS D m))) (k:Int)=some (rowG i (Xr D m i k)) from Qr hk,aC,
    aH (by rw [Qm]; omega),aH (by simp [Qm]; omega)]
   have e:rowG i (Xr D m i k)++[(-1:Int)]=rowG (i+1) (Xr D m (i+1) (k*cS D m i)):=by
    have:=Qw1 (D:=D) (m:=m) (i:=i) (k:=k) (x:=0) (by omega)
    rw [aI hb,eG] at this; exact this
   rw [e,aH (by unfold Vj; rw [hci]; simp [Qm]; omega),dR,hci]
   unfold Vj
   have e2:=K6 (n:=k*1) (F:=fun k=>rowG (i+1) (Xr D m (i+1) k))
   rw [e2])
  (by unfold V0; simp only; rw [hlen,aI (nlt _)]; rfl)
 have e0:([]:List (List Int))=Vj D m (i+1) (0*cS D m i):=by rw [Nat.zero_mul]; rfl
 rw [e0]
 exact hr
theorem Qz2 (V:VN D) (hm:m < 18446744073709551616):Qbc D.net (m:Int)=some (Vj D m D.n (prodTo D.n (cS D m))):=by
 have hn8:=V.n8
 have hlen:D.net.Nodes.length=D.n:=Qm
 have hr:=Zy (n:=D.n) (k0:=0) (by omega) (by omega) (fun j (t:List (List Int))=>(j,t)) (body:=Km D.net (m:Int))
  (fun i=>Vj D m i (prodTo i (cS D m))) (Vj D m D.n (prodTo D.n (cS D m)))
  (fun i _ hi=>by
   unfold Km
   simp only
   rw [hlen,aH (dlt hi),Qzy V hm hi,aC])
  (by unfold Km; simp only; rw [hlen,aI (nlt _)])
 have e0:([[]]:List (List Int))=Vj D m 0 (prodTo 0 (cS D m)):=rfl
 unfold Qbc
 rw [e0]
 exact Zw hr rfl
theorem Qwz {a b c:Int} (h:0 < c):Qjn (a*c) (b*c)=Qjn a b:=by
 unfold Qjn
 by_cases h1:a < b
 ·rw [aH h1,aH (Int.mul_lt_mul_of_pos_right h1 h)]
 rw [aI h1,aI (Int.not_lt.2 (Int.mul_le_mul_of_nonneg_right (Int.not_lt.1 h1) (Int.le_of_lt h)))]
 by_cases h2:a=b
 ·rw [aH h2,aH (by rw [h2])]
 rw [aI h2,aI fun e=>h2 (Int.eq_of_mul_eq_mul_right (by omega) e)]
theorem Q7z {a b d:Int} (ha:a.natAbs<=MX) (hb:b.natAbs<=MX) (hd:d.natAbs<=MX) (h0:0 < d):Qjn ((qI a d).N*(qI b d).D) ((qI b d).N*(qI a d).D)=Qjn a b/\Rt (qI a d)/\Rt (qI b d):=by
 obtain ⟨r1,e1⟩:=Qyd ha hd (by omega)
 obtain ⟨r2,e2⟩:=Qyd hb hd (by omega)
 refine ⟨?_,r1,r2⟩
 have p1:0 < (qI a d).D:=by have:=r1.1; omega
 have p2:0 < (qI b d).D:=by have:=r2.1; omega
 rw [<-Qwz (a:=(qI a d).N*(qI b d).D) h0]
 rw [show (qI a d).N*(qI b d).D*d=(qI a d).N*d*(qI b d).D by rw [Int.mul_assoc,Int.mul_comm (qI b d).D,<-Int.mul_assoc],e1,
  show (qI b d).N*(qI a d).D*d=(qI b d).N*d*(qI a d).D by rw [Int.mul_assoc,Int.mul_comm (qI a d).D,<-Int.mul_assoc],e2]
 rw [show a*(qI a d).D*(qI b d).D=a*((qI a d).D*(qI b d).D) by rw [Int.mul_assoc],show b*(qI b d).D*(qI a d).D=b*((qI a d).D*(qI b d).D) by rw [Int.mul_assoc,Int.mul_comm (qI b d).D]]
 exact Qwz (Int.mul_pos p1 p2)
theorem Q7i {a b d:Int} (ha:a.natAbs<=MX) (hb:b.natAbs<=MX) (hd:d.natAbs<=MX) (h0:0 < d):Qcy (qI a d) (qI b d)=some (Qjn a b):=by
 obtain ⟨e,r1,r2⟩:=Q7z ha hb hd h0
 rw [Q7t r1.i64 r2.i64 (by have:=r1.1; omega) (by have:=r2.1; omega),e]
theorem Q3u {n:Nat} (hn:n<=8):Qb fuel (J9) (0,rowG n fun _=>0)=some (rowG n fun _=>-1):=by
 have hr:=Zy (n:=n) (k0:=0) (by omega) (by omega) (fun j (t:List Int)=>(j,t)) (body:=J9) (fun k=>rowG n fun j=>if j < k then (-1:Int) else 0) (rowG n fun _=>(-1:Int))
  (fun k _ hk=>by
   unfold J9
   simp only
   rw [Qm,aH (dlt hk),show lkI (rowG n fun j=>if j < k then (-1:Int) else 0) (k:Int)=some _ from Qr hk,aC,aP,Yc]
   refine congrArg (fun l=>some (Qf.next (zw ((k:Int)+1),l))) (Ql fun j _=>?_)
   by_cases e:j=k
   ·subst e; rw [aH rfl,aH (by omega)]
   rw [aI e]
   by_cases e2:j < k
   ·rw [aH e2,aH (by omega)]
   rw [aI e2,aI (by omega)])
  (by
   unfold J9
   simp only
   rw [Qm,aI (nlt _)]
   congr 2
   exact Ql fun j hj=>by rw [aH hj])
 have e0:(rowG n fun _=>(0:Int))=rowG n fun j=>if j < 0 then (-1:Int) else 0:=Ql fun j _=>by rw [aI (by omega)]
 rw [e0]; exact hr
theorem Q9c (V:VN D) {v x:Nat} (hv:v < D.n) (hx:x < D.card v):Qj7 D (Xh (fun _=>-1) v (x:Int)):=fun j hj=>by
 unfold Xh
 have:=(V.card j hj).1
 split
 ·subst j; omega
 show -1<=(-1:Int)/\(-1:Int) < _; omega
theorem Qq7 (V:VN D) {v x k:Nat} (hm:m < 2^D.n) (hv:v < D.n) (hx:x < D.card v) (hk:k < prodTo D.n (cS D m)) :
  Jw D.net (rowG D.n (Xr D m D.n k)) (rowG D.n (Xh (fun _=>-1) v (x:Int)))=some (qI (Zg D m v x k) (D.wh m D.n:Int)):=by
 rw [Q16 V (Q7a V) (Q9c V hv hx),Q1k V hm hv hk,Qtw hm]
theorem Q4h (X:VX D) {v x:Nat} (hm:m < 2^D.n) (hv:v < D.n) (hx:x < D.card v) :
  Jy D.net (m:Int) (v:Int) (x:Int)=some (rowG D.n (Xr D m D.n (bestK D m v x)),qI (Zg D m v x (bestK D m v x)) (D.wh m D.n:Int),0):=by
 have V:=X.vn
 have hn8:=V.n8
 have hlen:D.net.Nodes.length=D.n:=Qm
 have hm64:m < 18446744073709551616:=bM hm (bV (aT (by omega) hn8) (by decide))
 obtain ⟨N,hN⟩:∃N,N=prodTo D.n (cS D m):=⟨_,rfl⟩
 have hN2:N<=1024:=by rw [hN]; exact Qdv V (aY _)
 have hN1:1<=N:=by rw [hN]; exact Qjr V (aY _)
 have hk:=Qwd V (m:=m) (v:=v) (x:=x)
 obtain ⟨h3,h4⟩:=Qv8 V (m:=m)
 have h3':0 < ((D.wh m D.n:Nat):Int):=by omega
 have hu:zv (D.n:Int)=(D.n:Int):=Qaz (by omega)
 have hsh:Int.fdiv (m:Int) (2^min (Int.toNat (D.n:Int)) zk)=0:=by
  rw [aP,show min D.n zk=D.n from Nat.min_eq_left (by simp [IntKind.bits]; omega),Qmb,Nat.div_eq_of_lt hm]; rfl
 unfold Jy
 rw [Qvq X,aC,aI (by decide),hlen,hu,aH (by omega),hsh,aI (by decide),aI (by simp),aI (by simp; omega),aI (by simp),V.node hv,aC,
  show (D.node v).Card=(D.card v:Int) from rfl,aI (by simp; omega),aH (by omega),show List.replicate (Int.toNat (D.n:Int)) (0:Int)=rowG D.n fun _=>0 from (by rw [aP]; exact Qbx _ _),Q3u hn8,aC,
  show lkI (rowG D.n fun _=>(-1:Int)) (v:Int)=some (-1) from Qr hv,aC,Qz2 V hm64,aC,<-hN,show lkI (Vj D m D.n N) 0=some (rowG D.n (Xr D m D.n 0)) from Qr (k:=0) (by omega),aC,
  aP,Qvm,Qq7 V hm hv hx (by omega),aC]
 have hlN:(Vj D m D.n N).length=N:=Qm
 have hr:=Zy (n:=N) (k0:=1) hN1 (by omega) (fun i (t:Nat)=>((t:Int),i,(qI (Zg D m v x t) (D.wh m D.n:Int)).N,(qI (Zg D m v x t) (D.wh m D.n:Int)).D)) (body:=Qbd (Vj D m D.n N) D.net (rowG D.n fun _=>-1) (v:Int) (x:Int))
  (fun k=>argF (Zg D m v x) k) ((bestK D m v x:Int),(qI (Zg D m v x (bestK D m v x)) (D.wh m D.n:Int)).N,(qI (Zg D m v x (bestK D m v x)) (D.wh m D.n:Int)).D)
  (fun k hk1 hk=>by
   unfold Qbd
   simp only
   rw [hlN,aH (dlt hk),show lkI (Vj D m D.n N) (k:Int)=some (rowG D.n (Xr D m D.n k)) from Qr hk,aC,aP,Qvm,Qq7 V hm hv hx (by omega),aC,
    show (Ae.mk (qI (Zg D m v x (argF (Zg D m v x) k)) (D.wh m D.n:Int)).N (qI (Zg D m v x (argF (Zg D m v x) k)) (D.wh m D.n:Int)).D)=qI (Zg D m v x (argF (Zg D m v x) k)) (D.wh m D.n:Int) from rfl,
    Q7i (Qnm V).2 (Qnm V).2 h4 h3',aC]
   by_cases c:Zg D m v x k > Zg D m v x (argF (Zg D m v x) k)
   ·rw [aH (by rw [aN]; unfold Qjn; rw [aI (by omega),aI (by omega)]; decide),show argF (Zg D m v x) (k+1)=k from aH c]
   rw [aI (by
    rw [aN]; unfold Qjn; by_cases c1:Zg D m v x k < Zg D m v x (argF (Zg D m v x) k); · rw [aH c1]; decide
    rw [aI c1,aH (by omega)]; decide),show argF (Zg D m v x) (k+1)=argF (Zg D m v x) k from aI c])
  (by unfold Qbd; simp only; rw [hlN,aI (nlt _),hN]; rfl)
 have a1:argF (Zg D m v x) 1=0:=by
  show (if Zg D m v x 0 > Zg D m v x 0 then 0 else 0)=0
  split <;> rfl
 rw [a1] at hr
 refine Zw hr ?_
 simp only
 rw [show lkI (Vj D m D.n N) (bestK D m v x:Int)=some (rowG D.n (Xr D m D.n (bestK D m v x))) from Qr (by omega)]; rfl
def BestM (m:Qa):Prop:=∀(t:Nat) (v x:Int),t < 18446744073709551616->∃(l:List Int) (q:Ae) (e:Int),Jp m (t:Int) v x=some (l,q,e)/\Jy m (t:Int) v x=some (l,q,e)/\l.length<=1000000
theorem Q42 {m:Qa} (h:Ym m=some Qqm) (hr:Ve m=some false):BestM m:=fun t v x ht=>by
 refine ⟨[],⟨0,0⟩,50,?_,?_,by simp⟩
 ·unfold Jp; rw [Qwf h]; rfl
 unfold Jy; rw [hr]; rfl
theorem Qt6 (X:VX D):BestM D.net:=fun t v x ht=>by
 have V:=X.vn
 have hn8:=V.n8
 have hlen:D.net.Nodes.length=D.n:=Qm
 by_cases hall:t < 2^D.n/\0<=v/\v < D.n/\0<=x/\x < D.card v.toNat
 ·obtain ⟨c1,c2,c3,c4,c5⟩:=hall
  obtain ⟨u,rfl⟩:∃u:Nat,v=u:=⟨v.toNat,by omega⟩
  obtain ⟨y,rfl⟩:∃y:Nat,x=y:=⟨x.toNat,by omega⟩
  rw [aP] at c5
  exact ⟨_,_,_,Q6v X c1 (by omega) (by omega),Q4h X c1 (by omega) (by omega),by rw [Qm]; omega⟩
 have hu:zv (D.n:Int)=(D.n:Int):=Qaz (by omega)
 have hsh:Int.fdiv (t:Int) (2^min (Int.toNat (D.n:Int)) zk)=((t / 2^D.n:Nat):Int):=by
  rw [aP,show min D.n zk=D.n from Nat.min_eq_left (by simp [IntKind.bits]; omega),Qmb]
 have hc:=Q11 X [] (by simp) (by simp)
 refine ⟨[],⟨0,0⟩,2,?_,?_,by simp⟩
 ·unfold Jp
  rw [show ([]:List (List Int))=[].map (rowG D.n) from rfl,hc,aC,aI (by decide),hlen,aH (by omega),hsh]
  by_cases c1:t < 2^D.n
  ·rw [Nat.div_eq_of_lt c1,aI (by decide)]
   by_cases c2:v < 0
   ·rw [aH (by simpa using c2)]
   rw [aI (by simpa using c2)]
   by_cases c3:v>=D.n
   ·rw [aH (by simpa using c3)]
   rw [aI (by simpa using c3)]
   by_cases c4:x < 0
   ·rw [aH (by simpa using c4)]
   obtain ⟨u,rfl⟩:∃u:Nat,v=u:=⟨v.toNat,by omega⟩
   rw [aI (by simpa using c4),V.node (by omega),aC,show (D.node u).Card=(D.card u:Int) from rfl,aH (by
    rw [aN]
    exact Int.not_lt.1 fun h=>hall ⟨c1,by omega,by omega,by omega,by rw [aP]; exact h⟩)]
  have:t / 2^D.n≠0:=by
   have:=Nat.div_pos (Nat.not_lt.1 c1) (Nat.two_pow_pos D.n); omega
  rw [aH (by simpa using (by omega:¬ ((t / 2^D.n:Nat):Int)=0))]
 unfold Jy
 rw [Qvq X,aC,aI (by decide),hlen,hu,aH (by omega),hsh]
 by_cases c1:t < 2^D.n
 ·rw [Nat.div_eq_of_lt c1,aI (by decide)]
  by_cases c2:v < 0
  ·rw [aH (by simpa using c2)]
  rw [aI (by simpa using c2)]
  by_cases c3:v>=D.n
  ·rw [aH (by simpa using c3)]
  rw [aI (by simpa using c3)]
  by_cases c4:x < 0
  ·rw [aH (by simpa using c4)]
  obtain ⟨u,rfl⟩:∃u:Nat,v=u:=⟨v.toNat,by omega⟩
  rw [aI (by simpa using c4),V.node (by omega),aC,show (D.node u).Card=(D.card u:Int) from rfl,aH (by
   rw [aN]
   exact Int.not_lt.1 fun h=>hall ⟨c1,by omega,by omega,by omega,by rw [aP]; exact h⟩)]
 have:t / 2^D.n≠0:=by
  have:=Nat.div_pos (Nat.not_lt.1 c1) (Nat.two_pow_pos D.n); omega
 rw [aH (by simpa using (by omega:¬ ((t / 2^D.n:Nat):Int)=0))]
end
theorem Q4k {n:Nat} {g:Int} {F:Nat -> Ad} (hb:NB n F) (hn:n<=6):BestM ⟨g,rowG n F⟩:=by
 rcases Q33 (g:=g) hb hn with ⟨D,_,X,e⟩ | ⟨h1,h2⟩
 ·rw [<-e]; exact Qt6 X
 exact Q42 h1 h2
theorem Q6c (x:Int):∃t:Nat,t < 18446744073709551616/\zv x=(t:Int):=by
 refine ⟨(zv x).toNat,?_,?_⟩ <;> (simp [IntKind.wrap,IntKind.bits,IntKind.signed]; omega)
theorem Q9n {n:Int} (h:(Lit.int .u64 n).wf=true):∃t:Nat,t < 18446744073709551616/\n=(t:Int):=by
 have h:0<=n/\n<=18446744073709551615:=by simpa [Lit.wf,IntKind.min,IntKind.max,IntKind.bits,IntKind.signed] using h
 exact ⟨n.toNat,by omega,by omega⟩
theorem Q0u {m:Qa} (h:BestM m) {p2:Int} (hp:∃t:Nat,t < 18446744073709551616/\p2=(t:Int)) {a:Int × Int}:Qb fuel (Ys p2 m a) 0=some (.inr ()):=by
 have hr:=Zy (n:=2) (k0:=0) (by omega) (by omega) (fun i (_:Unit)=>i) (body:=Ys p2 m a) (fun _=>()) (.inr ())
  (fun k _ hk=>by
   obtain ⟨y,hy,⟨t,ht,rfl⟩⟩:=Q9v (a:=p2) (b:=zv (zb p2 &&& zb 31).toNat) hk (Q:=fun y=>∃t:Nat,t < 18446744073709551616/\y=(t:Int)) hp (Q6c _)
   unfold Ys
   rw [aH (by rw [aN]; omega),hy,aC]
   obtain ⟨l,q,e,h1,h2,h3⟩:=h t a.1 a.2 ht
   rw [h1,aC,h2,aC,aI (by simp),aI (by simp),Q1v h3,aC,aI (by simp)])
  (by unfold Ys; rw [aI (by decide)])
 exact hr
theorem Qzd {m:Qa} (h:BestM m) {p2 p3 p4:Int} (hp:∃t:Nat,t < 18446744073709551616/\p2=(t:Int)):Qb fuel (Yt p3 p4 p2 m) 0=some (.inr ()):=by
 have hr:=Zy (n:=3) (k0:=0) (by omega) (by omega) (fun i (_:Unit)=>i) (body:=Yt p3 p4 p2 m) (fun _=>()) (.inr ())
  (fun k _ hk=>by
   unfold Yt
   rw [aH (by rw [aN]; omega),Qn (by simpa using hk),aC]
   exact Zw (Q0u h hp) rfl)
  (by unfold Yt; rw [aI (by decide)])
 exact hr
theorem chooses_true (p0:Qe) (p1:Za) (p2 p3 p4:Int) (h0:Vt p0) (h1:Ku p1) (h2:(Lit.int .u64 p2).wf=true) {H3 H4:Prop} (_:H3) (_:H4) :
  Qbu p0 p1 p2 p3 p4=some true:=by
 obtain ⟨D,n,g,F,X,hB,hn6,e1,e2⟩:=Q31 h0 h1
 unfold Qbu
 rw [e1,aC,e2,aC]
 have hr:=Zy (n:=2) (k0:=0) (by omega) (by omega) (fun i (_:Unit)=>i) (body:=V9 D.net ⟨g,rowG n F⟩ p3 p4 p2) (fun _=>()) (.inr ())
  (fun k _ hk=>by
   obtain ⟨m,hm,hq⟩:=Q9v (a:=D.net) (b:=(⟨g,rowG n F⟩:Qa)) hk (Q:=BestM) (Qt6 X.toVX) (Q4k hB hn6)
   unfold V9
   rw [aH (by rw [aN]; omega),hm,aC]
   exact Zw (Qzd hq (Q9n h2)) rfl)
  (by unfold V9; rw [aI (by decide)])
 refine Zw hr ?_
 dsimp only
 rw [Qz3]; rfl
end Go.Ab
namespace Go.Ab
open Go Go.Proofs Go.Proofs.YtgogkahhifkocaaDoor
open Go.ChangeShapes Go.WideShapes Go.ChangeAt Go.RowKit
abbrev dr_laid:List (String × DataW Unit):=[("math/bits.deBruijn32tab",Rows.laid_math_bits_deBruijn32tab),("math/bits.deBruijn64tab",Rows.laid_math_bits_deBruijn64tab)]
theorem dr_own:ownKnob Tryd.prog.godebug=none:=by kernel_rfl
theorem Q5p:Tryd.prog.globalNamed "math/bits.deBruijn32tab" = some 0:=by kernel_rfl
theorem Q5w:Tryd.prog.globalNamed "math/bits.deBruijn64tab" = some 1:=by kernel_rfl
theorem dr_met (os:Os) (args:Array Value):laidMetH Tryd.prog dr_laid ((World.doorLaid Tryd.prog 19 os).forCall (fun _ _=>0) ⟨#[],args,[]⟩).memory :=
 laidMetH_of_parts3 (fuel:=8) (laidMet_of_run' 8 (by kernel_rfl) (by kernel_rfl)) (by kernel_rfl) (by kernel_rfl)
theorem dr_glob {W:World} (h:laidMetH Tryd.prog dr_laid W):Go.Ab.GlobIn W:=by
 rw [MakeChecks.laidMetH_plain _ _ _ (by kernel_rfl)] at h
 have h0:=Lib.tabIs_of_head (k:=.u8) (zs:=Go.Ab.tab0) (t:=251) (e:=5) (n:=32) Q5p (by kernel_rfl) (by kernel_rfl) (by kernel_rfl) (by kernel_rfl) (by kernel_rfl) h
 have h1:=Lib.tabIs_of_head (k:=.u8) (zs:=Go.Ab.tab1) (t:=252) (e:=5) (n:=64) Q5w (by kernel_rfl) (by kernel_rfl) (by kernel_rfl) (by kernel_rfl) (by kernel_rfl) h.tail
 intro g xs hg i v hv
 match g,hg with
 | 0,hg =>
  cases hg
  have hi:i < Go.Ab.tab0.length:=by have:=(aD.1 hv).1; simpa using this
  have:=h0.cell Q5p i hi
  rw [this]
  rw [bD] at hv
  simpa [List.getD,hi] using hv
 | 1,hg =>
  cases hg
  have hi:i < Go.Ab.tab1.length:=by have:=(aD.1 hv).1; simpa using this
  have:=h1.cell Q5w i hi
  rw [this]
  rw [bD] at hv
  simpa [List.getD,hi] using hv
 | n+2,hg=>cases hg
end Go.Ab
