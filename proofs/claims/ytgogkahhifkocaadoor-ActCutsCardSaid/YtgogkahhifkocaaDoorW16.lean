/- Functions. No conditions. -/
import Derived.Test.YtgogkahhifkocaaDoorW15
import Derived.Test.YtgogkahhifkocaaDoorEng7
import Derived.Test.YtgogkahhifkocaaDoorW11
import Derived.KernelRfl
set_option maxRecDepth 100000
set_option maxHeartbeats 400000
set_option linter.all false
namespace Go.Ab
open Go
def Qb {α:Type} (n:Nat) (F:Nat -> α):List α:=(List.range n).map F
theorem Qm {α:Type} {n:Nat} {F:Nat -> α}:(Qb n F).length=n:=by simp [Qb]
theorem Qx {α:Type} {n:Nat} {F:Nat -> α} {k:Nat} (h:k < n):lkI (Qb n F) (k:Int)=some (F k):=by
 rw [Xo (by rw [Qm]; exact h)]; simp [Qb]
theorem Qh {α:Type} {n:Nat} {F G:Nat -> α} (h:∀k,k < n->F k=G k):Qb n F=Qb n G:=by
 unfold Qb
 apply List.map_congr_left
 intro t ht
 exact h t (by simpa using ht)
theorem Xg {α:Type} {n:Nat} {F:Nat -> α} {k:Nat} {x:α}:(Qb n F).set k x=Qb n (fun s=>if s=k then x else F s):=by
 apply List.ext_getElem?
 intro s
 rw [List.getElem?_set]
 simp only [Qb,bC,bU,List.length_range]
 by_cases e:k=s
 ·subst e
  rw [aH rfl]
  by_cases hk:k < n
  ·rw [aH hk,List.getElem?_range hk]; simp
  rw [aI hk,dH (by simpa using hk)]; rfl
 rw [aI e]
 by_cases hs:s < n
 ·rw [List.getElem?_range hs]; simp only [bI]; rw [aI (Ne.symm e)]
 rw [dH (by simpa using hs)]; rfl
theorem V8 {α:Type} (n:Nat) (x:α):List.replicate n x=Qb n (fun _=>x):=by
 apply List.ext_getElem?
 intro s
 rw [cI]
 by_cases hs:s < n
 ·rw [aH hs]; simp [Qb,List.getElem?_range hs]
 rw [aI hs,dH (by rw [Qm]; omega)]
theorem Qlk {α:Type} {n:Nat} {F:Nat -> α}:Qb n F++[F n]=Qb (n+1) F:=by
 unfold Qb; rw [List.range_succ]; simp
def Zs {α:Type} (w:Nat -> α) (i:Nat) (x:α):Nat -> α:=fun s=>if s=i then x else w s
theorem Z5 {α:Type} {w:Nat -> α} {i:Nat} {x:α}:Zs w i x i=x:=by simp [Zs]
theorem Ve {α:Type} {w:Nat -> α} {i j:Nat} {x:α} (h:j≠i):Zs w i x j=w j:=by simp [Zs,h]
def Qj:Nat -> (Nat -> Int)->Int
 | 0,_=>0
 | n+1,f=>Qj n f+f n
theorem Xw {n:Nat} {f g:Nat -> Int} (h:∀k,k < n->f k=g k):Qj n f=Qj n g:=by
 induction n with
 | zero=>rfl
 | succ n ih=>simp only [Qj]; rw [ih (fun k hk=>h k (by omega)),h n (by omega)]
theorem Q1k {n:Nat} {f g:Nat -> Int}:Qj n (fun k=>f k+g k)=Qj n f+Qj n g:=by
 induction n with
 | zero=>rfl
 | succ n ih=>simp only [Qj,ih]; omega
theorem Qex {n:Nat}:Qj n (fun _=>0)=0:=by
 induction n with
 | zero=>rfl
 | succ n ih=>simp only [Qj,ih]; rfl
theorem Y8 {n:Nat} {f:Nat -> Int} (h:∀k,k < n->0<=f k):0<=Qj n f:=by
 induction n with
 | zero=>exact Int.le_refl 0
 | succ n ih=>simp only [Qj]; have:=ih (fun k hk=>h k (by omega)); have:=h n (by omega); omega
theorem Q15 {n k:Nat} {c:Int} (h:k < n):Qj n (fun x=>if k=x then c else 0)=c:=by
 induction n with
 | zero=>omega
 | succ n ih =>
  simp only [Qj]
  by_cases e:k=n
  ·subst e
   rw [aH rfl,Xw (g:=fun _=>0) (fun x hx=>aI (by omega)),Qex]; omega
  rw [aI e,ih (by omega)]; omega
theorem Qjk {a b:Nat} {f:Nat -> Int}:Qj (a+b) f=Qj a f+Qj b (fun k=>f (a+k)):=by
 induction b with
 | zero=>simp [Qj]
 | succ b ih=>rw [<-cF]; simp only [Qj,ih]; omega
def Qn:Nat -> (Nat -> Nat)->Nat
 | 0,_=>1
 | n+1,f=>Qn n f*f n
theorem Qh0 {n K:Nat} {f:Nat -> Nat} (h:∀k,k < n->f k<=K):Qn n f<=K^n:=by
 induction n with
 | zero=>simp [Qn]
 | succ n ih=>simp only [Qn,Nat.pow_succ]; exact Nat.mul_le_mul (ih fun k hk=>h k (by omega)) (h n (by omega))
structure NF where
 n:Nat
 g:Nat
 card:Nat -> Nat
 par:Nat -> List Nat
 W:Nat -> Nat -> Nat -> Nat
def lprod (f:Nat -> Nat) (l:List Nat):Nat := l.foldl (fun r p=>r*f p) 1
def NF.rows (D:NF) (v:Nat):Nat := lprod D.card (D.par v)
def NF.node (D:NF) (v:Nat):Ad:=⟨D.card v,(D.par v).map (fun (p:Nat)=>(p:Int)),Qb (D.rows v) fun r=>Qb (D.card v) fun x=>(D.W v r x:Int)⟩
def NF.net (D:NF):Qd:=⟨D.g,Qb D.n D.node⟩
def Qo (n:Nat) (w:Nat -> Nat):List Int:=Qb n fun j=>(w j:Int)
theorem Zn {n k:Nat} {w:Nat -> Nat} (h:k < n):lkI (Qo n w) (k:Int)=some (w k:Int):=Qx h
theorem Kp {n:Nat} {w:Nat -> Nat}:(Qo n w).length=n:=Qm
structure VN (D:NF):Prop where
 n1:1<=D.n
 n8:D.n<=8
 g1:1<=D.g
 g60:D.g<=60
 card:∀v,v < D.n->1<=D.card v/\D.card v<=4
 par:∀v,v < D.n->∀p∈D.par v,p < D.n
 len:∀v,v < D.n->(D.par v).length<=8
 W:∀v r x,v < D.n->r < D.rows v->x < D.card v->D.W v r x<=D.g
 worlds:Qn D.n D.card<=1024
theorem Qds {f:Nat -> Nat} {l:List Nat} {p:Nat}:lprod f (l++[p])=lprod f l*f p:=by simp [lprod]
theorem Qhc {f:Nat -> Nat} {l:List Nat} (h:∀p∈l,f p<=4):lprod f l<=4^l.length:=by
 have key:∀(l:List Nat) (R K:Nat),R<=K->(∀p∈l,f p<=4)->l.foldl (fun r p=>r*f p) R<=K*4^l.length:=by
  intro l
  induction l with
  | nil=>intro R K h _; simpa using h
  | cons p l ih =>
   intro R K hr hp
   simp only [List.foldl_cons,dC,Nat.pow_succ]
   have:=ih (R*f p) (K*4) (Nat.mul_le_mul hr (hp p (by simp))) (fun q hq=>hp q (cJ _ hq))
   rwa [Nat.mul_assoc,cH 4] at this
 have:=key l 1 1 (by omega) h
 simpa [lprod] using this
section
variable {D:NF} (V:VN D) {w:Nat -> Nat}
include V
theorem VN.rows_le {v:Nat} (hv:v < D.n):D.rows v<=65536:=by
 refine bT (Qhc fun p hp=>(V.card p (V.par v hv p hp)).2) ?_
 exact aT (by omega) (V.len v hv)
omit V in
theorem Vt {α:Type} {l:List α} {k:Nat} (h:k < l.length):l.take (k+1)=l.take k++[l[k]]:=by rw [List.take_add_one,aG h]; rfl
theorem VN.node {v:Nat} (hv:v < D.n):lkI D.net.Nodes (v:Int)=some (D.node v):=Qx hv
end
theorem Qx2 {a k:Nat} (ha:a < 18446744073709551616) (hk:k < 64) :
  zv (zb (a:Int) ||| zb (zv (1*2^min (Int.toNat (k:Int)) zk))).toNat = ((a ||| 2^k:Nat):Int):=by
 have hb:zk=64:=rfl
 have e0:min (Int.toNat (k:Int)) zk=k:=by rw [hb,aP]; omega
 have hp:2^k < 18446744073709551616:=by
  have:2^k < 2^64:=eD (by omega) hk
  exact this
 rw [e0,show (1:Int)*2^k=((2^k:Nat):Int) by simp,Qgo hp]
 have e1:(zb (a:Int) ||| zb ((2^k:Nat):Int)).toNat = a ||| 2^k:=by
  rw [BitVec.toNat_or,Ql3 ha,Ql3 hp]
 rw [e1,Qgo]
 exact Nat.or_lt_two_pow (n:=64) ha hp
theorem or_lt {a k:Nat} (ha:a < 18446744073709551616) (hk:k < 64):a ||| 2^k < 18446744073709551616 :=
 Nat.or_lt_two_pow (n:=64) ha (eD (by omega) hk)
theorem Q5x {a k j:Nat}:(a ||| 2^k).testBit j=(a.testBit j || decide (k=j)):=by
 rw [Nat.testBit_or,Nat.testBit_two_pow]
theorem Q28 {a b:Nat} (ha:a < 18446744073709551616) (hb:b < 18446744073709551616) :
  (zv (zb (a:Int) &&& ~~~ zb (b:Int)).toNat == 0)=true↔∀j,a.testBit j=true->b.testBit j=true:=by
 have h1:(zb (a:Int) &&& ~~~ zb (b:Int)).toNat < 18446744073709551616:=BitVec.isLt _
 rw [Qgo h1]
 generalize hx:zb (a:Int) &&& ~~~ zb (b:Int)=x
 have hbit:∀j,j < 64->x.getLsbD j=(a.testBit j && !(b.testBit j)):=fun j hj=>by
  rw [<-hx,BitVec.getLsbD_and,BitVec.getLsbD_not]
  have:zk=64:=rfl
  have e1:(zb (a:Int)).getLsbD j=a.testBit j:=by unfold BitVec.getLsbD; rw [Ql3 ha]
  have e2:(zb (b:Int)).getLsbD j=b.testBit j:=by unfold BitVec.getLsbD; rw [Ql3 hb]
  rw [e1,e2]
  simp [this,hj]
 constructor
 ·intro h j hj
  have hx0:x.toNat = 0:=by simpa using h
  have h64:j < 64:=by
   rcases aZ j 64 with h' | h'
   ·exact h'
   have:=Nat.testBit_lt_two_pow (i:=j) (x:=a) (bK ha (aT (n:=2) (by omega) h'))
   rw [this] at hj; cases hj
  have h2:=hbit j h64
  have h3:x.getLsbD j=false:=by unfold BitVec.getLsbD; rw [hx0]; simp
  rw [h3,hj] at h2
  simpa using h2
 ·intro h
  have:x=0#_:=by
   apply BitVec.eq_of_getLsbD_eq
   intro j hj
   have hj':j < 64:=hj
   rw [hbit j hj']
   cases ha':a.testBit j with
   | false=>simp
   | true=>rw [h j ha']; simp
  rw [this]; rfl
def KK:Int:=167961600000000
def BD (m:Nat) (z:Int):Prop:=-((m:Int)*KK)<=z/\z<=(m:Int)*KK
theorem BD.add {m p:Nat} {a b:Int} (h:BD m a) (k:BD p b):BD (m+p) (a+b):=by
 unfold BD at *
 rw [Int.natCast_add,Int.add_mul]; omega
theorem BD.zero {m:Nat}:BD m 0:=by unfold BD KK; omega
theorem BD.sum {n p:Nat} {f:Nat -> Int} (h:∀k,k < n->BD p (f k)):BD (n*p) (Qj n f):=by
 induction n with
 | zero=>exact BD.zero
 | succ n ih=>simp only [Qj]; rw [dO]; exact (ih fun k hk=>h k (by omega)).add (h n (by omega))
section
variable {D:NF} {E:Nat -> Int}
theorem Zk {α β:Type} {o:Option α} {a:α} {k:α->Option β} {r:Option β} (h:o=some a) (h2:k a=r):o.bind k=r:=by rw [h]; exact h2
theorem Q7p {n:Nat} {f:Nat -> Nat} {l:List Nat} (hl:∀p∈l,p < n) (h8:l.length<=8):Qfv (Qo n f) (l.map fun (p:Nat)=>(p:Int))=some (l.map fun p=>(f p:Int)):=by
 unfold Qfv
 refine Zk (Xx (s0:=((0:Int),([]:List Int))) (r:=l.map fun p=>(f p:Int)) (fun k=>((k:Int),(l.take k).map fun p=>(f p:Int))) l.length (by simp) (fun k hk=>?_) ?_ (by omega)) rfl
 ·unfold Qfb
  simp only
  rw [aH (by simpa using hk),Xo (by simpa using hk)]
  simp only [aC,List.getElem_map]
  rw [Zn (hl _ (bH hk))]
  simp only [aC]
  rw [aH (by simp [cO]; omega),w64 (by omega),Vt hk]
  simp only [cS,dA,dB]
  rfl
 unfold Qfb
 simp only
 rw [aI (by simp),List.take_of_length_le (aY _)]
end
structure VX (D:NF):Prop where
 vn:VN D
 sorted:∀v,v < D.n->(D.par v).Pairwise (· < ·)
 self:∀v,v < D.n->v ∉ D.par v
 rank:∃rk:Nat -> Nat,∀v,v < D.n->∀p∈D.par v,rk p < rk v
 sum:∀v r,v < D.n->r < D.rows v->Qj (D.card v) (fun x=>(D.W v r x:Int))=D.g
theorem Qhu:∀(a b:List Nat),a.Nodup->a ⊆ b->a.length<=b.length
 | [],_,_,_=>by simp
 | x::a,b,hn,hs=>by
  have hx:x∈b:=hs (by simp)
  rw [List.nodup_cons] at hn
  have h1:a ⊆ b.erase x:=fun y hy=>by
   have hne:y≠x:=fun e=>hn.1 (e ▸ hy)
   exact (List.mem_erase_of_ne hne).2 (hs (cJ _ hy))
  have h2:=Qhu a (b.erase x) hn.2 h1
  have h3:=List.length_erase_of_mem hx
  have h4:0 < b.length:=List.length_pos_of_mem hx
  simp only [dC]
  omega
def bitsOf (l:List Nat) (a:Nat):Nat := l.foldl (fun a p=>a ||| 2^p) a
theorem Qc4 {j:Nat}:∀(l:List Nat) (a:Nat),(bitsOf l a).testBit j=(a.testBit j || decide (j∈l))
 | [],a=>by simp [bitsOf]
 | p::l,a=>by
  have:=Qc4 (j:=j) l (a ||| 2^p)
  unfold bitsOf at this ⊢
  simp only [List.foldl_cons]
  rw [this,Q5x]
  by_cases h:p=j
  ·subst h; simp
  have:j≠p:=Ne.symm h
  simp [h,this]
theorem Qhr:∀(l:List Nat) (a:Nat),a < 18446744073709551616->(∀p∈l,p < 64)->bitsOf l a < 18446744073709551616
 | [],a,h,_=>h
 | p::l,a,h,hl=>Qhr l (a ||| 2^p) (or_lt h (hl p (by simp))) fun q hq=>hl q (cJ _ hq)
theorem Qkp {l:List Nat} {p a:Nat}:bitsOf (l++[p]) a=bitsOf l a ||| 2^p:=by simp [bitsOf]
section
variable {D:NF}
theorem Q1e (X:VX D) {v r k:Nat} (hv:v < D.n) (hr:r < D.rows v) (hk:k < D.card v):Qj k (fun x=>(D.W v r x:Int))+D.W v r k<=D.g:=by
 have h1:=X.sum v r hv hr
 have h2:Qj (D.card v) (fun x=>(D.W v r x:Int))=Qj (k+1) (fun x=>(D.W v r x:Int))+Qj (D.card v - (k+1)) (fun x=>(D.W v r (k+1+x):Int)):=by
  rw [<-Qjk,show k+1+(D.card v - (k+1))=D.card v by omega]
 have h3:0<=Qj (D.card v - (k+1)) (fun x=>(D.W v r (k+1+x):Int)):=Y8 fun x _=>cV _
 simp only [Qj] at h2
 omega
theorem Qzp (X:VX D) {v:Nat} (hv:v < D.n) {sets order:List Int}:Vu ⟨D.net,Qo D.n D.card,sets,order⟩ (D.node v)=some true:=by
 have V:=X.vn
 have hl:(D.node v).Parents.length=(D.par v).length:=by simp [NF.node]
 have hlen:=V.len v hv
 have hrl:(D.node v).Rows.length=D.rows v:=by simp [NF.node,Qm]
 have hrows:=V.rows_le hv
 have hcv:=V.card v hv
 unfold Vu
 refine Zk (Xx (s0:=((1:Int),(0:Int))) (r:=(D.rows v:Int)) (fun k=>((lprod D.card ((D.par v).take k):Int),(k:Int))) (D.par v).length (by simp [lprod]) (fun k hk=>?_) ?_ (by omega)) ?_
 ·have hp:=V.par v hv (D.par v)[k] (bH hk)
  have b1:lprod D.card ((D.par v).take k)<=4^8:=bT (Qhc fun p hp=>(V.card p (V.par v hv p (bF hp))).2) (aT (by omega) (by rw [cO]; omega))
  have b2:lprod D.card ((D.par v).take k)*D.card (D.par v)[k]<=65536*4:=Nat.mul_le_mul (by omega) (V.card _ hp).2
  unfold Jg
  simp only
  rw [aH (by rw [hl]; simpa using hk),Xo (by rw [hl]; exact hk)]
  have e0:(D.node v).Parents[k]'(by rw [hl]; exact hk)=(((D.par v)[k]:Nat):Int):=by simp [NF.node]
  simp only [aC,e0]
  rw [Zn hp]
  simp only [aC]
  have e1:(lprod D.card ((D.par v).take k):Int)*(D.card (D.par v)[k]:Int)=((lprod D.card ((D.par v).take (k+1)):Nat):Int):=by rw [Vt hk,Qds]; simp
  have e2:lprod D.card ((D.par v).take (k+1))<=65536*4:=by rw [Vt hk,Qds]; exact b2
  rw [e1,w64 (by omega),w64 (by omega)]
  rfl
 ·unfold Jg
  simp only
  rw [aI (by rw [hl]; simp),List.take_of_length_le (aY _)]
  rfl
 rw [aI (by rw [hrl]; simp)]
 refine Zk (Xx (s0:=(0:Int)) (r:=Sum.inr ()) (fun r=>(r:Int)) (D.rows v) rfl (fun r hr=>?_) ?_ (by omega)) rfl
 ·unfold Jh
  simp only
  rw [aH (by rw [hrl]; simpa using hr),show lkI (D.node v).Rows (r:Int)=some (Qb (D.card v) fun x=>(D.W v r x:Int)) from Qx hr]
  simp only [aC]
  have hin:Qc fuel (Yy (Qb (D.card v) fun x=>(D.W v r x:Int))) ((D.g:Int),(0:Int))=some (Sum.inr 0):=by
   refine Xx (fun k=>((D.g:Int) - Qj k (fun x=>(D.W v r x:Int)),(k:Int))) (D.card v) _ (by simp [Qj]) (fun k hk=>?_) ?_ (by omega)
   ·have h1:=Q1e X hv hr hk
    have h2:0<=Qj k (fun x=>(D.W v r x:Int)):=Y8 fun x _=>cV _
    have hg:=V.g60
    unfold Yy
    simp only
    rw [aH (by rw [Qm]; simpa using hk),Qx hk]
    simp only [aC]
    rw [aI (by simp),aI (by simp; omega),w64 (by omega),w64 (by omega)]
    simp only [Qj]
    congr 3
    omega
   unfold Yy
   simp only
   rw [aI (by rw [Qm]; simp),X.sum v r hv hr,Int.sub_self]
  rw [show (D.net.Grain:Int)=(D.g:Int) from rfl,hin]
  simp only [aC]
  rw [aI (by rw [Qm]; simp [NF.node]),aI (by simp),w64 (by omega)]
  rfl
 unfold Jh
 simp only
 rw [aI (by rw [hrl]; simp)]
def setN (D:NF) (v:Nat):Nat := bitsOf (D.par v) 0
theorem Qwg (V:VN D) {v:Nat} (hv:v < D.n):setN D v < 18446744073709551616:=Qhr _ _ (by omega) fun p hp=>by have:=V.par v hv p hp; have:=V.n8; omega
theorem Qug {v j:Nat}:(setN D v).testBit j=decide (j∈D.par v):=by unfold setN; rw [Qc4]; simp
theorem Q0o (X:VX D):∃order,Qdd (Qo D.n (setN D))=some (order,true):=by
 have V:=X.vn
 have hn:=V.n8
 obtain ⟨rk,hrk⟩:=X.rank
 have hlen:(Qo D.n (setN D)).length=D.n:=Kp
 let I:Int × List Int->Prop:=fun s=>∃(l:List Nat),l.Nodup/\(∀p∈l,p < D.n)/\s=((bitsOf l 0:Int),l.map fun (p:Nat)=>(p:Int))
 have hw:=Vy (body:=Qag (Qo D.n (setN D))) I (fun s=>D.n - s.2.length) (fun r=>∃o,r=Sum.inr o) (fun s hs=>?_) ((0:Int),List.replicate (Int.toNat 0) (0:Int)) ⟨[],List.nodup_nil,fun p hp=>by simp at hp,rfl⟩ (by simp; omega)
 ·obtain ⟨r,h1,o,rfl⟩:=hw
  refine ⟨o,?_⟩
  unfold Qdd
  rw [aH (by rw [hlen]; omega),h1]
  rfl
 obtain ⟨l,hnd,hl,rfl⟩:=hs
 have hll:l.length<=D.n:=by
  have h1:l ⊆ List.range D.n:=fun p hp=>cL.2 (hl p hp)
  have:=Qhu l (List.range D.n) hnd h1
  simpa using this
 have hdl:bitsOf l 0 < 18446744073709551616:=Qhr _ _ (by omega) fun p hp=>by have:=hl p hp; omega
 by_cases hc:l.length < D.n
 ·
  have hex:∃v,v < D.n/\v ∉ l:=by
   apply Classical.byContradiction
   intro hno
   have h1:List.range D.n ⊆ l:=fun p hp=>by
    apply Classical.byContradiction
    intro hp'
    exact hno ⟨p,cL.1 hp,hp'⟩
   have:=Qhu (List.range D.n) l List.nodup_range h1
   simp at this
   omega
  have hmin:∃v,v < D.n/\v ∉ l/\∀u,u < D.n->u ∉ l->rk v<=rk u:=by
   obtain ⟨v0,h1,h2⟩:=hex
   have:∀(k:Nat) (v:Nat),rk v<=k->v < D.n->v ∉ l->∃v,v < D.n/\v ∉ l/\∀u,u < D.n->u ∉ l->rk v<=rk u:=by
    intro k
    induction k with
    | zero=>intro v hk h1 h2; exact ⟨v,h1,h2,fun u _ _=>by omega⟩
    | succ k ih =>
     intro v hk h1 h2
     by_cases hall:∀u,u < D.n->u ∉ l->rk v<=rk u
     ·exact ⟨v,h1,h2,hall⟩
     ·have:∃u,u < D.n/\u ∉ l/\rk u < rk v:=by
       apply Classical.byContradiction
       intro hno
       exact hall fun u hu hul=>by
        apply Classical.byContradiction
        intro hlt
        exact hno ⟨u,hu,hul,by omega⟩
      obtain ⟨u,hu,hul,hlt⟩:=this
      exact ih u (by omega) hu hul
   exact this (rk v0) v0 (aY _) h1 h2
  obtain ⟨v1,hv1,hv1l,hv1m⟩:=hmin
  have hready:∀p∈D.par v1,p∈l:=fun p hp=>by
   apply Classical.byContradiction
   intro hpl
   have h1:=hv1m p (V.par v1 hv1 p hp) hpl
   have h2:=hrk v1 hv1 p hp
   omega
  left
  have hs2:=Vy (body:=Qdl (Qo D.n (setN D)) ((bitsOf l 0:Int),l.map fun (p:Nat)=>(p:Int))) (fun s=>∃k:Nat,k<=v1/\s=(k:Int)) (fun s=>D.n - s.toNat)
   (fun r=>∃v,v < D.n/\v ∉ l/\r=Sum.inl (((bitsOf l 0 ||| 2^v:Nat):Int),(l.map fun (p:Nat)=>(p:Int))++[(v:Int)])) (fun s hs=>?_) (0:Int) ⟨0,by omega,rfl⟩ (by simp; omega)
  ·obtain ⟨r,h1,v,hv,hvl,rfl⟩:=hs2
   refine ⟨(((bitsOf l 0 ||| 2^v:Nat):Int),(l.map fun (p:Nat)=>(p:Int))++[(v:Int)]),?_,⟨l++[v],?_,?_,?_⟩,by simp; omega⟩
   ·unfold Qag
    simp only
    rw [aH (by rw [hlen]; simp; omega),h1]
    rfl
   ·rw [List.nodup_append]
    exact ⟨hnd,by simp,fun a ha b hb=>by simp at hb; subst hb; exact fun e=>hvl (e ▸ ha)⟩
   ·intro p hp
    rcases bQ.1 hp with h | h
    ·exact hl p h
    ·simp at h; subst h; exact hv
   ·rw [Qkp]; simp
  ·obtain ⟨k,hk,rfl⟩:=hs
   have hkn:k < D.n:=by omega
   have ek:zw ((k:Int)+1)=((k+1:Nat):Int):=by rw [w64 (by omega)]; omega
   have hbk:(bitsOf l 0).testBit k=decide (k∈l):=by rw [Qc4]; simp
   unfold Qdl
   simp only
   rw [aH (by rw [hlen]; simpa using hkn),Zn hkn]
   simp only [aC]
   rw [aH (by omega),Qxq hdl (by omega),hbk]
   by_cases hkl:k∈l
   ·left
    rw [aI (by simp [hkl]),ek]
    have hne:k≠v1:=fun e=>hv1l (e ▸ hkl)
    exact ⟨_,rfl,⟨k+1,by omega,rfl⟩,by simp; omega⟩
   ·rw [aH (by simp [hkl])]
    by_cases hsub:∀p∈D.par k,p∈l
    ·right
     rw [aH ((Q28 (Qwg V hkn) hdl).2 fun j hj=>by
      rw [Qug] at hj
      rw [Qc4]
      simp at hj ⊢
      exact hsub j hj),aH (by simp; omega),aH (by omega),Qx2 hdl (by omega)]
     exact ⟨_,rfl,k,hkn,hkl,rfl⟩
    ·left
     have hne:k≠v1:=fun e=>by subst e; exact hsub hready
     rw [aI (fun hc'=>hsub fun p hp=>by
      have:=(Q28 (Qwg V hkn) hdl).1 hc' p (by rw [Qug]; simpa using hp)
      rw [Qc4] at this
      simpa using this),ek]
     exact ⟨_,rfl,⟨k+1,by omega,rfl⟩,by simp; omega⟩
 right
 refine ⟨Sum.inr (l.map fun (p:Nat)=>(p:Int)),?_,_,rfl⟩
 unfold Qag
 simp only
 rw [aI (by rw [hlen]; simp; omega)]
theorem Qi0 (X:VX D):∃order,J6 D.net=some (⟨D.net,Qo D.n D.card,Qo D.n (setN D),order⟩,0):=by
 have V:=X.vn
 have hn:=V.n8
 have hn1:=V.n1
 have hg:=V.g60
 have hg1:=V.g1
 have hlen:D.net.Nodes.length=D.n:=Qm
 have hG:D.net.Grain=(D.g:Int):=rfl
 obtain ⟨order,hord⟩:=Q0o X
 refine ⟨order,?_⟩
 unfold J6
 rw [hlen,hG,aI (by simp; omega),aI (by simp; omega),aI (by simp; omega),aI (by simp; omega),aH (by omega),aH (by omega),aP,V8]
 have h0:Qc fuel (Qby D.net) ((1:Int),(0:Int),Qb D.n fun _=>(0:Int))=some (Sum.inr ((Qn D.n D.card:Int),Qo D.n D.card)):=by
  refine Xx (fun k=>((Qn k D.card:Int),(k:Int),Qb D.n fun j=>if j < k then (D.card j:Int) else 0)) D.n _ (by simp [Qn]) (fun k hk=>?_) ?_ (by omega)
  ·have b1:Qn k D.card<=4^k:=Qh0 fun j hj=>(V.card j (by omega)).2
   have b2:(4:Nat)^k<=4^8:=aT (by omega) (by omega)
   have b3:Qn k D.card*D.card k<=65536*4:=Nat.mul_le_mul (by omega) (V.card k hk).2
   have hc:=V.card k hk
   have e1:(Qn k D.card:Int)*(D.node k).Card=((Qn (k+1) D.card:Nat):Int):=by simp [Qn,NF.node]
   unfold Qby
   simp only
   rw [aH (by rw [hlen]; simpa using hk),V.node hk]
   simp only [aC]
   have hc1:¬ (decide ((D.node k).Card < 1)=true):=by rw [aN]; show ¬ ((D.card k:Int) < 1); omega
   have hc2:¬ (decide ((D.node k).Card > 4)=true):=by rw [aN]; show ¬ ((D.card k:Int) > 4); omega
   rw [aI hc1,aI hc2,Qx hk]
   simp only [aC]
   have w1:zw ((Qn (k+1) D.card:Nat):Int)=((Qn (k+1) D.card:Nat):Int):=w64 (by simp only [Qn]; omega)
   rw [e1,w1,w64 (by omega),aP,Xg]
   congr 4
   refine Qh fun j hj=>?_
   by_cases e:j=k
   ·subst e; simp [NF.node]
   rw [aI e]
   by_cases e2:j < k
   ·rw [aH e2,aH (by omega)]
   rw [aI e2,aI (by omega)]
  unfold Qby
  simp only
  rw [aI (by rw [hlen]; simp)]
  congr 4
  exact Qh fun j hj=>aH hj
 rw [h0]
 simp only [aC]
 have hwd:=V.worlds
 rw [aI (by simp; omega)]
 have h2:Qc fuel (Qbq D.net ((Qn D.n D.card:Int),Qo D.n D.card)) ((0:Int),Qb D.n fun _=>(0:Int))=some (Sum.inr (Qo D.n (setN D))):=by
  refine Xx (fun v=>((v:Int),Qb D.n fun j=>if j < v then (setN D j:Int) else 0)) D.n _ (by simp) (fun v hv=>?_) ?_ (by omega)
  ·have hl:(D.node v).Parents.length=(D.par v).length:=by simp [NF.node]
   have hplen:=V.len v hv
   have h1:Qc fuel (Qbt (D.node v) D.net ((v:Int),Qb D.n fun j=>if j < v then (setN D j:Int) else 0)) ((-1:Int),(0:Int),Qb D.n fun j=>if j < v then (setN D j:Int) else 0) =
     some (Sum.inr (Qb D.n fun j=>if j < v+1 then (setN D j:Int) else 0)):=by
    refine Xx (fun k=>((if k=0 then (-1:Int) else (((D.par v).getD (k - 1) 0:Nat):Int)),(k:Int),Qb D.n fun j=>if j < v then (setN D j:Int) else if j=v then (bitsOf ((D.par v).take k) 0:Int) else 0)) (D.par v).length _ ?_ (fun k hk=>?_) ?_ (by omega)
    ·simp only [eC,List.take_zero]
     congr 2
     refine Qh fun j _=>?_
     by_cases e:j < v
     ·rw [aH e,aH e]
     ·rw [aI e,aI e]; simp [bitsOf]
    ·have hp:=V.par v hv (D.par v)[k] (bH hk)
     have hgt:(if k=0 then (-1:Int) else (((D.par v).getD (k - 1) 0:Nat):Int)) < (((D.par v)[k]:Nat):Int):=by
      by_cases h0:k=0
      ·rw [aH h0]; omega
      rw [aI h0]
      have hk1:k - 1 < (D.par v).length:=by omega
      have:=List.pairwise_iff_getElem.1 (X.sorted v hv) (k - 1) k hk1 hk (by omega)
      have e:(D.par v).getD (k - 1) 0=(D.par v)[k - 1]:=by simp [List.getD,hk1]
      rw [e]; omega
     have hself:(D.par v)[k]≠v:=fun e=>X.self v hv (by have:=bH hk; rwa [e] at this)
     have hbl:bitsOf ((D.par v).take k) 0 < 18446744073709551616:=Qhr _ _ (by omega) fun p hp=>by have:=V.par v hv p (bF hp); omega
     unfold Qbt
     simp only
     rw [aH (by rw [hl]; simpa using hk),Xo (by rw [hl]; exact hk)]
     have e0:(D.node v).Parents[k]'(by rw [hl]; exact hk)=(((D.par v)[k]:Nat):Int):=by simp [NF.node]
     simp only [aC,e0]
     rw [aI (by rw [aN]; exact Int.not_le.2 hgt),aI (by rw [hlen]; simp; omega),aI (by simp; omega),Qx hv]
     simp only [aC,cZ,dZ,eC]
     rw [aH (by omega),Qx2 hbl (by omega),w64 (by omega),aP,Xg,Vt hk,Qkp]
     have e2:(D.par v).getD (k+1 - 1) 0=(D.par v)[k]:=by simp [List.getD,hk]
     rw [aI (by omega),e2]
     congr 4
     refine Qh fun j _=>?_
     by_cases e:j=v
     ·subst e; simp
     ·rw [aI e,aI e,aI e]
    ·unfold Qbt
     simp only
     rw [aI (by rw [hl]; simp),List.take_of_length_le (aY _)]
     congr 3
     refine Qh fun j _=>?_
     by_cases e:j < v
     ·rw [aH e,aH (by omega)]
     ·rw [aI e]
      by_cases e2:j=v
      ·subst e2; rw [aH rfl,aH (by omega)]; rfl
      ·rw [aI e2,aI (by omega)]
   unfold Qbq
   simp only
   rw [aH (by rw [hlen]; simpa using hv),V.node hv]
   simp only [aC]
   rw [h1]
   simp only [aC]
   rw [Qzp X hv]
   simp only [aC]
   rw [aI (by simp),w64 (by omega)]
   rfl
  unfold Qbq
  simp only
  rw [aI (by rw [hlen]; simp)]
  congr 3
  exact Qh fun j hj=>aH hj
 rw [h2]
 simp only [aC]
 rw [hord]
 rfl
end
theorem Qyi {n:Nat} {f:Nat -> Nat}:∃s:Nat,Qj n (fun x=>(f x:Int))=(s:Int):=by
 obtain ⟨s,hs⟩:=Int.eq_ofNat_of_zero_le (Y8 (n:=n) (f:=fun x=>(f x:Int)) fun _ _=>cV _)
 exact ⟨s,hs⟩
theorem Qeg {n k:Nat} {f:Nat -> Int} (h:∀j,j < n->0<=f j) (hk:k<=n):Qj k f<=Qj n f:=by
 obtain ⟨m,rfl⟩:=Nat.exists_eq_add_of_le hk
 rw [Qjk]
 have:=Y8 (n:=m) (f:=fun x=>f (k+x)) fun j hj=>h _ (by omega)
 omega
theorem Qpa {g S:Nat} (hS:0 < S):∀(n:Nat) (o:Nat -> Nat),Qj n (fun x=>((g*o x / S:Nat):Int))*S<=g*Qj n (fun x=>(o x:Int))
 | 0,_=>by simp [Qj]
 | n+1,o=>by
  have ih:=Qpa (g:=g) hS n o
  have h1:g*o n / S*S<=g*o n:=Nat.div_mul_le_self _ _
  have h2:(((g*o n / S:Nat):Int))*(S:Int)<=(g:Int)*(o n:Int):=by exact_mod_cast h1
  simp only [Qj]
  rw [Int.add_mul,Int.mul_add]
  exact Int.add_le_add ih h2
theorem Q07 {g c:Nat} {l:List Int} {fr:Nat} (hg:g<=60) (hc:1<=c) (hc4:c<=4) (hl:∀x∈l,0<=x/\x<=255) (hll:l.length<=9223372036854775807) (hfr:fr<=100000) :
  ∃f:Nat -> Nat,Qbg (g:Int) (c:Int) l (fr:Int)=some (Qb c fun x=>(f x:Int))/\Qj c (fun x=>(f x:Int))=g:=by
 have hb0:∃o:Nat -> Nat,(∀j,o j < 8)/\Qc fuel (V2 (c:Int) l (fr:Int)) ((0:Int),(0:Int),Qb c fun _=>(0:Int))=some (Qj c (fun x=>(o x:Int)),Qb c fun x=>(o x:Int)):=by
  by_cases h0:l.length=0
  ·refine ⟨fun _=>0,fun _=>Nat.zero_lt_succ _,?_⟩
   have hz:∀k,Qj k (fun _=>((0:Nat):Int))=0:=fun k=>Qex
   refine Xx (fun k=>((0:Int),(k:Int),Qb c fun _=>(0:Int))) c _ rfl (fun k hk=>?_) ?_ (by omega)
   ·unfold V2
    simp only
    rw [aH (by simpa using hk),aI (by simp [h0]),Qx hk]
    simp only [aC]
    rw [w64 (by omega),w64 (by omega)]
    rfl
   unfold V2
   simp only
   rw [aI (by simp),hz]
   rfl
  have hpos:0 < l.length:=by omega
  let o:Nat -> Nat := fun k=>((l[(fr+k) % l.length]'(cD _ hpos)).toNat) % 8
  refine ⟨o,fun j=>cD _ (by omega),?_⟩
  refine Xx (fun k=>(Qj k (fun x=>(o x:Int)),(k:Int),Qb c fun j=>if j < k then (o j:Int) else 0)) c _ (by simp [Qj]) (fun k hk=>?_) ?_ (by omega)
  ·have hx:=hl _ (bH (cD (fr+k) hpos))
   have ho:o k=((l[(fr+k) % l.length]'(cD _ hpos)).toNat) % 8:=rfl
   have hs:Qj k (fun x=>(o x:Int))<=8*k:=by
    have:∀k,Qj k (fun x=>(o x:Int))<=8*k:=by
     intro k
     induction k with
     | zero=>simp [Qj]
     | succ k ih=>simp only [Qj]; have:o k < 8:=cD _ (by omega); omega
    exact this k
   have hs0:0<=Qj k (fun x=>(o x:Int)):=Y8 fun _ _=>cV _
   have e1:Int.tmod (zw ((fr:Int)+(k:Int))) (l.length:Int)=(((fr+k) % l.length:Nat):Int):=by
    rw [w64 (by omega),Kw (by omega)]; simp
   unfold V2
   simp only
   rw [aH (by simpa using hk),aH (by simp; omega),aH (by omega),e1,Xo (cD _ hpos)]
   simp only [aC]
   rw [Qx hk]
   simp only [aC]
   have e2:Int.tmod (l[(fr+k) % l.length]'(cD _ hpos)) 8=(o k:Int):=by rw [Kw hx.1,ho]; omega
   have ho8:o k < 8:=cD _ (by omega)
   rw [e2]
   have w1:zw (o k:Int)=(o k:Int):=w64 (by omega)
   rw [w1,w64 (by omega),w64 (by omega),aP,Xg]
   simp only [Qj]
   congr 4
   refine Qh fun j hj=>?_
   by_cases e:j=k
   ·subst e; simp
   rw [aI e]
   by_cases e2:j < k
   ·rw [aH e2,aH (by omega)]
   rw [aI e2,aI (by omega)]
  unfold V2
  simp only
  rw [aI (by simp)]
  congr 3
  exact Qh fun j hj=>aH hj
 obtain ⟨o,ho,h0⟩:=hb0
 obtain ⟨S,hS⟩:=Qyi (n:=c) (f:=o)
 let q:Nat -> Nat := fun x=>g*o x / S
 have hq:∀x,o x=0->q x=0:=fun x h=>by show g*o x / S=0; rw [h]; simp
 have hSb:S<=32:=by
  have:∀k,Qj k (fun x=>(o x:Int))<=8*k:=by
   intro k
   induction k with
   | zero=>simp [Qj]
   | succ k ih=>simp only [Qj]; have:=ho k; omega
  have:=this c
  omega
 have hpart:∀k,k<=c->0<=Qj k (fun x=>(q x:Int))/\Qj k (fun x=>(q x:Int))<=g:=fun k hk=>by
  refine ⟨Y8 fun _ _=>cV _,Int.le_trans (Qeg (fun _ _=>cV _) hk) ?_⟩
  by_cases h:S=0
  ·have:∀x,q x=0:=fun x=>by show g*o x / S=0; rw [h]; simp
   rw [Xw (g:=fun _=>0) (fun x _=>by rw [this]; rfl),Qex]; omega
  have h1:=Qpa (g:=g) (S:=S) (by omega) c o
  rw [hS] at h1
  have h2:Qj c (fun x=>(q x:Int))*(S:Int)<=(g:Int)*(S:Int):=h1
  exact Int.le_of_mul_le_mul_right h2 (by omega)
 have hb1:=Vy (body:=Qd0 (c:Int) (Qj c (fun x=>(o x:Int)),Qb c fun x=>(o x:Int)) (g:Int))
  (fun s=>∃k last:Nat,k<=c/\last < c/\s=((g:Int) - Qj k (fun x=>(q x:Int)),(last:Int),(k:Int),Qb c fun j=>if j < k then (q j:Int) else (o j:Int)))
  (fun s=>c - s.2.2.1.toNat)
  (fun r=>∃last:Nat,last < c/\r=((g:Int) - Qj c (fun x=>(q x:Int)),(last:Int),Qb c fun j=>(q j:Int)))
  (fun s hs=>?_) ((g:Int),(0:Int),(0:Int),Qb c fun x=>(o x:Int)) ⟨0,0,by omega,by omega,by simp [Qj]⟩ (by simp; omega)
 ·obtain ⟨r,h1,last,hlast,rfl⟩:=hb1
  have hp:=hpart c (aY _)
  obtain ⟨left,hleft⟩:=Int.eq_ofNat_of_zero_le (show 0<=(g:Int) - Qj c (fun x=>(q x:Int)) by omega)
  refine ⟨fun x=>q x+if last=x then left else 0,?_,?_⟩
  ·unfold Qbg
   rw [aH (by omega),aP,V8,h0]
   simp only [aC]
   rw [h1]
   simp only [aC]
   rw [Qx hlast]
   simp only [aC]
   have hql:(q last:Int)<=g:=by
    have e:=Qeg (n:=c) (k:=last+1) (f:=fun x=>(q x:Int)) (fun _ _=>cV _) (by omega)
    have e2:=(hpart last (by omega)).1
    simp only [Qj] at e
    omega
   rw [hleft,w64 (by omega),aP,Xg]
   congr 1
   refine Qh fun x hx=>?_
   by_cases e:x=last
   ·subst e; simp
   ·rw [aI e,aI (Ne.symm e)]; simp
  ·have e:(fun x=>((q x+if last=x then left else 0:Nat):Int))=fun x=>(q x:Int)+if last=x then (left:Int) else 0:=by
    funext x; split <;> simp
   rw [e,Q1k,Q15 hlast]
   have:(left:Int)=(g:Int) - Qj c (fun x=>(q x:Int)):=hleft.symm
   omega
 ·obtain ⟨k,last,hk,hlast,rfl⟩:=hs
  unfold Qd0
  simp only
  by_cases hkc:k < c
  ·left
   have hp1:=hpart k hk
   have hp2:=hpart (k+1) hkc
   have e1:Qj (k+1) (fun x=>(q x:Int))=Qj k (fun x=>(q x:Int))+(q k:Int):=rfl
   rw [aH (by simpa using hkc),Qx hkc]
   simp only [aC,cZ,dZ]
   have ek:zw ((k:Int)+1)=((k+1:Nat):Int):=by rw [w64 (by omega)]; omega
   by_cases ho0:o k=0
   ·rw [aI (by simp [ho0]),ek,ho0,w64 (by omega)]
    refine ⟨_,rfl,⟨k+1,last,hkc,hlast,?_⟩,by simp; omega⟩
    rw [e1,hq k ho0]
    congr 1
    ·simp
    ·congr 2
     refine Qh fun j hj=>?_
     by_cases e:j=k
     ·subst e; simp [ho0,hq]
     ·by_cases e2:j < k
      ·rw [aH e2,aH (by omega)]
      ·rw [aI e2,aI (by omega)]
   ·have hSpos:S≠0:=by
     intro h
     have:=Qeg (n:=c) (k:=k+1) (f:=fun x=>(o x:Int)) (fun _ _=>cV _) hkc
     have h2:0<=Qj k (fun x=>(o x:Int)):=Y8 fun _ _=>cV _
     simp only [Qj] at this
     omega
    have hok:=ho k
    have hm:g*o k<=60*8:=Nat.mul_le_mul hg (by omega)
    have e2:zw (Int.tdiv (zw ((g:Int)*(o k:Int))) (Qj c (fun x=>(o x:Int))))=(q k:Int):=by
     have e3:(g:Int)*(o k:Int)=((g*o k:Nat):Int):=by simp
     have hd:g*o k / S<=g*o k:=Nat.div_le_self _ _
     have w1:zw ((g*o k:Nat):Int)=((g*o k:Nat):Int):=w64 (by omega)
     rw [e3,w1,hS,Qn5 (cV _),show ((g*o k:Nat):Int) / (S:Int)=((g*o k / S:Nat):Int) by simp]
     show zw ((g*o k / S:Nat):Int)=((g*o k / S:Nat):Int)
     obtain ⟨z,hz⟩:∃z,g*o k / S=z:=⟨_,rfl⟩
     rw [hz] at hd ⊢
     exact w64 (by omega)
    rw [aH (by simp; omega),aH (by rw [hS]; omega),e2,ek,aP,Xg,w64 (by omega)]
    refine ⟨_,rfl,⟨k+1,k,hkc,hkc,?_⟩,by simp; omega⟩
    rw [e1]
    congr 1
    ·omega
    ·congr 2
     refine Qh fun j hj=>?_
     by_cases e:j=k
     ·subst e; simp
     ·rw [aI e]
      by_cases e2:j < k
      ·rw [aH e2,aH (by omega)]
      ·rw [aI e2,aI (by omega)]
  ·right
   have:k=c:=by omega
   subst this
   rw [aI (by simp)]
   refine ⟨_,rfl,last,hlast,?_⟩
   congr 2
   exact Qh fun j hj=>aH hj
theorem Q3x {n:Nat} (hn:n<=5) {w:Int} {o:List Int}:Je ⟨List.replicate n (0:Int),w,o⟩=some (List.replicate n 1):=by
 unfold Je
 refine Zk (Xx (s0:=((0:Int),([]:List Int))) (r:=List.replicate n 1) (fun k=>((k:Int),List.replicate k (1:Int))) n rfl (fun k hk=>?_) ?_ (by omega)) rfl
 ·unfold J7
  simp only
  rw [aH (by simp; omega),aH (by simp; omega),Xo (by simpa using hk)]
  simp only [aC,List.getElem_replicate]
  have e:zw (1+zw (Int.tmod 0 4))=1:=by decide
  rw [e,aH (by simp; omega),w64 (by omega),<-List.replicate_succ']
  rfl
 unfold J7
 simp only
 rw [aI (by simp)]
theorem Qs6 {q:List Nat} {k a:Nat} (h:q.Nodup) (hk:∀x∈q,x < k):(q.take a++[k]++q.drop a).Nodup/\∀x∈q.take a++[k]++q.drop a,x < k+1:=by
 have hperm:(q.take a++[k]++q.drop a).Perm (k::q):=by
  have h1:(q.take a++[k]++q.drop a).Perm ([k]++q.take a++q.drop a):=List.Perm.append_right _ List.perm_append_comm
  have h2:[k]++q.take a++q.drop a=k::q:=by simp
  rw [h2] at h1
  exact h1
 refine ⟨?_,fun x hx=>?_⟩
 ·rw [hperm.nodup_iff,List.nodup_cons]
  exact ⟨fun hm=>cZ _ (hk k hm),h⟩
 have:=hperm.mem_iff.1 hx
 rcases bY.1 this with e | e
 ·omega
 have:=hk x e; omega
theorem Qx6 {n:Nat} (hn:n<=5) {o:List Int} (ho:∀x∈o,0<=x/\x<=255) :
  ∃q:List Nat,q.Nodup/\(∀x∈q,x < n)/\q.length=n/\Yj ⟨List.replicate n (0:Int),0,o⟩=some (q.map fun (x:Nat)=>(x:Int)):=by
 have hw:=Vy (body:=Y5 ⟨List.replicate n (0:Int),0,o⟩) (fun s=>∃q:List Nat,q.Nodup/\(∀x∈q,x < q.length)/\q.length<=n/\s=((q.length:Int),q.map fun (x:Nat)=>(x:Int)))
  (fun s=>n - s.1.toNat) (fun r=>∃q:List Nat,q.Nodup/\(∀x∈q,x < n)/\q.length=n/\r=q.map fun (x:Nat)=>(x:Int)) (fun s hs=>?_) ((0:Int),([]:List Int)) ⟨[],List.nodup_nil,fun x hx=>by simp at hx,by simp,rfl⟩ (by simp; omega)
 ·obtain ⟨r,h1,q,h2,h3,h4,rfl⟩:=hw
  refine ⟨q,h2,h3,h4,?_⟩
  unfold Yj
  rw [h1]; rfl
 ·obtain ⟨q,hnd,hx,hl,rfl⟩:=hs
  unfold Y5
  rw [Q3x hn]
  simp only [aC,cC,bU]
  by_cases hc:q.length < n
  ·left
   rw [aH (by simpa using hc)]
   have ek:zw ((q.length:Int)+1)=((q.length+1:Nat):Int):=by rw [w64 (by omega)]; omega
   have ins:∀a:Nat,a<=q.length->∃s',s'=((((q.take a++[q.length]++q.drop a).length:Nat):Int),(q.take a++[q.length]++q.drop a).map fun (x:Nat)=>(x:Int)) /\
     (∃q:List Nat,q.Nodup/\(∀x∈q,x < q.length)/\q.length<=n/\s'=((q.length:Int),q.map fun (x:Nat)=>(x:Int)))/\n - s'.1.toNat < n - ((q.length:Int)).toNat := fun a ha=>by
    obtain ⟨i1,i2⟩:=Qs6 (a:=a) hnd hx
    have hlen:(q.take a++[q.length]++q.drop a).length=q.length+1:=by simp; omega
    exact ⟨_,rfl,⟨_,i1,fun x hx=>by rw [hlen]; exact i2 x hx,by rw [hlen]; omega,rfl⟩,by simp only [hlen]; simp; omega⟩
   have hsub:∀a:Nat,a<=q.length->sub (q.map fun (x:Nat)=>(x:Int)) 0 (a:Int)=(q.take a).map (fun (x:Nat)=>(x:Int))/\sub (q.map fun (x:Nat)=>(x:Int)) (a:Int) (q.length:Int)=(q.drop a).map (fun (x:Nat)=>(x:Int)):=fun a ha=>by
    unfold sub
    refine ⟨by simp,?_⟩
    simp only [aP]
    rw [List.take_of_length_le (by simp),List.map_drop]
   by_cases ho':q.length < o.length
   ·rw [aH (by simpa using ho'),Xo ho']
    simp only [aC]
    have hv:=ho _ (bH ho')
    obtain ⟨a,ha,hae⟩:∃a:Nat,a<=q.length/\Int.tmod (zw o[q.length]) ((q.length+1:Nat):Int)=(a:Int):=by
     refine ⟨(o[q.length]).toNat % (q.length+1),by have:=cD (o[q.length]).toNat (show 0 < q.length+1 by omega); omega,?_⟩
     rw [w64 (by omega),Kw hv.1]
     rw [Int.natCast_emod,Int.toNat_of_nonneg hv.1]
    obtain ⟨s',hs',h1,h2⟩:=ins a ha
    refine ⟨s',?_,h1,by simpa using h2⟩
    rw [ek,aH (by omega),hae,aH (by omega),(hsub a ha).1,aH (by simp; omega),aH (by simp; omega),aH (by omega),(hsub a ha).2,aH (by simp; omega),hs']
    simp
    omega
   ·rw [aI (by simpa using ho')]
    obtain ⟨s',hs',h1,h2⟩:=ins 0 (by omega)
    refine ⟨s',?_,h1,by simpa using h2⟩
    have hz:=hsub 0 (by omega)
    rw [ek,aH (by omega),show sub (q.map fun (x:Nat)=>(x:Int)) 0 0=(q.take 0).map (fun (x:Nat)=>(x:Int)) from hz.1,aH (by simp),aH (by simp),aH (by omega),show sub (q.map fun (x:Nat)=>(x:Int)) 0 (q.length:Int)=(q.drop 0).map (fun (x:Nat)=>(x:Int)) from hz.2,aH (by simp; omega),hs']
    simp
  ·right
   rw [aI (by simpa using hc)]
   exact ⟨_,rfl,q,hnd,fun x hm=>by have:=hx x hm; omega,by omega,rfl⟩
theorem Qfq {x:Int}:0<=zv x:=by simp only [IntKind.wrap,IntKind.bits,IntKind.signed]; simp; omega
theorem Qob {n:Nat} {q:List Nat} (hn:q.Nodup) (hl:∀x∈q,x < n) (hlen:q.length=n):∀v,v < n->v∈q:=fun v hv=>by
 apply Classical.byContradiction
 intro hno
 have h1:(v::q).Nodup:=List.nodup_cons.2 ⟨hno,hn⟩
 have h2:(v::q) ⊆ List.range n:=fun p hp=>by
  rcases bY.1 hp with e | e
  ·subst e; exact cL.2 hv
  exact cL.2 (hl p e)
 have:=Qhu _ _ h1 h2
 simp at this
 omega
theorem Qd6 {q:List Nat} {i:Nat} (hi:i < q.length) {v:Nat}:v∈q.take (i+1)↔v∈q.take i\/v=q[i]:=by
 rw [Vt hi,bQ,bR]
theorem Qn4 {q:List Nat} (hn:q.Nodup) {i:Nat} (hi:i < q.length):q[i] ∉ q.take i:=fun h=>by
 obtain ⟨k,hk,e⟩:=bA.1 h
 rw [cO] at hk
 rw [List.getElem_take] at e
 have:=List.pairwise_iff_getElem.1 hn k i (by omega) hi (by omega)
 exact this e
theorem Quu:∀{q:List Nat} {p j:Nat},p∈q.take j->q.idxOf p < j
 | [],p,j,h=>by simp at h
 | x::q,p,0,h=>by simp at h
 | x::q,p,j+1,h=>by
  rw [List.idxOf_cons]
  by_cases e:x=p
  ·subst e; simp
  have:p∈q.take j:=by
   rcases bY.1 h with e' | e'
   ·exact absurd e'.symm e
   exact e'
  have:=Quu this
  rw [show (x==p)=false by simpa using e]
  simp; omega
theorem Q00 {q:List Nat} (hn:q.Nodup) {j:Nat} (hj:j < q.length):j<=q.idxOf q[j]:=by
 apply Classical.byContradiction
 intro h
 have hk:q.idxOf q[j] < q.length:=by omega
 have e:q[q.idxOf q[j]]=q[j]:=List.getElem_idxOf hk
 have:=List.pairwise_iff_getElem.1 hn (q.idxOf q[j]) j hk hj (by omega)
 exact this e
def dcnt (p0:Qe):Nat := min (max p0.Nodes.length 1) 5
theorem Qgr {p0:Qe}:(if 5 < (if 1 > (p0.Nodes.length:Int) then 1 else (p0.Nodes.length:Int)) then 5 else (if 1 > (p0.Nodes.length:Int) then 1 else (p0.Nodes.length:Int)))=(dcnt p0:Int):=by
 unfold dcnt
 split <;> split at * <;> omega
theorem Qiy {p0:Qe}:1<=dcnt p0/\dcnt p0<=5:=by unfold dcnt; omega
structure Qwx (p0:Qe):Prop where
 grain:0<=p0.Grain/\p0.Grain<=255
 order:∀x∈p0.Order,0<=x/\x<=255
 card:∀p∈p0.Nodes,0<=p.Card/\p.Card<=255
 W:∀p∈p0.Nodes,∀x∈p.W,0<=x/\x<=255
 Wl:∀p∈p0.Nodes,p.W.length<=9223372036854775807
section
variable {p0:Qe} {q:List Nat}
theorem Qn1 {i:Nat} (hi:i < q.length):lkI (q.map fun (x:Nat)=>(x:Int)) (i:Int)=some ((q[i]:Nat):Int):=by rw [Xo (by simpa using hi)]; simp
theorem Q6a (h:Qwx p0) (hn:q.Nodup) (hl:∀x∈q,x < dcnt p0) (hlen:q.length=dcnt p0) :
  ∃C:Nat -> Nat,(∀v,v < dcnt p0->2<=C v/\C v<=3) /\
   Qc fuel (Yn p0 (q.map fun (x:Nat)=>(x:Int))) (1,0,List.replicate (dcnt p0) (Sum.inl 0))=some (Qb (dcnt p0) fun v=>Sum.inl (C v:Int)):=by
 have hcn:=Qiy (p0:=p0)
 have hw:=Vy (body:=Yn p0 (q.map fun (x:Nat)=>(x:Int)))
  (fun s=>∃(w:Int) (i:Nat) (C:Nat -> Nat),i<=dcnt p0/\(∀v,v∈q.take i->2<=C v/\C v<=3)/\s=(w,(i:Int),Qb (dcnt p0) fun v=>Sum.inl (C v:Int)))
  (fun s=>dcnt p0 - s.2.1.toNat)
  (fun r=>∃C:Nat -> Nat,(∀v,v < dcnt p0->2<=C v/\C v<=3)/\r=Qb (dcnt p0) fun v=>Sum.inl (C v:Int))
  (fun s hs=>?_) (1,0,List.replicate (dcnt p0) (Sum.inl 0)) ⟨1,0,fun _=>0,by omega,fun v hv=>by simp at hv,by rw [V8]; rfl⟩ (by simp; omega)
 ·obtain ⟨r,h1,C,h2,rfl⟩:=hw
  exact ⟨C,h2,h1⟩
 ·obtain ⟨w,i,C,hi,hC,rfl⟩:=hs
  by_cases hic:i < dcnt p0
  ·left
   have hiq:i < q.length:=by omega
   have hv:=hl _ (bH hiq)
   have ek:zw ((i:Int)+1)=((i+1:Nat):Int):=by rw [w64 (by omega)]; omega
   have leaf:∀(w':Int) (c:Nat),2<=c->c<=3->(∃s',some (Qg.next (w',zw ((i:Int)+1),List.set (Qb (dcnt p0) fun v=>(Sum.inl (C v:Int):Int ⊕ Ad)) (Int.toNat ((q[i]:Nat):Int)) (Sum.inl (c:Int))))=some (Qg.next (ρ:=List (Int ⊕ Ad)) s') /\
     (∃(w:Int) (i:Nat) (C:Nat -> Nat),i<=dcnt p0/\(∀v,v∈q.take i->2<=C v/\C v<=3)/\s'=(w,(i:Int),Qb (dcnt p0) fun v=>Sum.inl (C v:Int)))/\dcnt p0 - s'.2.1.toNat < dcnt p0 - (i:Int).toNat):=fun w' c c1 c2=>by
    rw [ek]
    refine ⟨_,rfl,⟨w',i+1,Zs C q[i] c,hic,fun v hv=>?_,?_⟩,by simp; omega⟩
    ·rcases (Qd6 hiq).1 hv with e | e
     ·by_cases e2:v=q[i]
      ·subst e2; rw [Z5]; exact ⟨c1,c2⟩
      ·rw [Ve e2]; exact hC v e
     ·subst e; rw [Z5]; exact ⟨c1,c2⟩
    ·rw [aP,Xg]
     congr 2
     refine Qh fun k hk=>?_
     by_cases e:k=q[i]
     ·rw [aH e,e,Z5]
     ·rw [aI e,Ve e]
   have hk:lkL (Qb (dcnt p0) fun v=>(Sum.inl (C v:Int):Int ⊕ Ad)) ((q[i]:Nat):Int)=some (C q[i]:Int):=by unfold lkL; rw [Qx hv]; rfl
   unfold Yn
   simp only [Qgr]
   rw [aH (by simpa using hic)]
   by_cases hin:i < p0.Nodes.length
   ·have hp:=h.card _ (bH hin)
    have ec:zw (2+zw (Int.tmod (p0.Nodes[i]).Card 2))=((2+(p0.Nodes[i]).Card.toNat % 2:Nat):Int):=by
     have w1:zw ((p0.Nodes[i]).Card % 2)=(p0.Nodes[i]).Card % 2:=w64 (by omega)
     rw [Kw hp.1,w1,w64 (by omega)]; omega
    rw [aH (by simpa using hin),Xo hin]
    simp only [aC]
    rw [aH Qfq]
    split
    ·rw [Qn1 hiq]
     simp only [aC]
     rw [hk]
     exact leaf _ 2 (by omega) (by omega)
    ·rw [Qn1 hiq]
     simp only [aC]
     rw [hk]
     simp only [aC]
     rw [ec]
     exact leaf _ _ (by omega) (by omega)
   ·rw [aI (by simpa using hin),aH Qfq]
    split
    ·rw [Qn1 hiq]
     simp only [aC]
     rw [hk]
     exact leaf _ 2 (by omega) (by omega)
    ·rw [Qn1 hiq]
     simp only [aC]
     rw [hk]
     simp only [aC]
     exact leaf _ 2 (by omega) (by omega)
  ·right
   have:i=dcnt p0:=by omega
   subst this
   unfold Yn
   simp only [Qgr]
   rw [aI (by simp)]
   refine ⟨_,rfl,C,fun v hv=>hC v ?_,rfl⟩
   rw [List.take_of_length_le (by omega)]
   exact Qob hn hl hlen v hv
theorem Q42 (hn:q.Nodup) {L:List (Int ⊕ Ad)} {i u:Nat} {P:List Nat} {pc:Q1} (hi:i < q.length) (hq:q.length<=5) :
  ∃P':List Nat,(P'=P\/(P'=P++[u]/\u∈q.take i/\P.length < 3)) /\
   Qc fuel (Yr ((i:Int),L) (q.map fun (x:Nat)=>(x:Int)) ((u:Int),P.map fun (x:Nat)=>(x:Int)) pc) (0,P.map fun (x:Nat)=>(x:Int))=some (P'.map fun (x:Nat)=>(x:Int)):=by
 have hw:=Vy (body:=Yr ((i:Int),L) (q.map fun (x:Nat)=>(x:Int)) ((u:Int),P.map fun (x:Nat)=>(x:Int)) pc)
  (fun s=>∃(k:Nat) (P':List Nat),k<=i/\(P'=P\/(P'=P++[u]/\u∈q.take k/\P.length < 3))/\s=((k:Int),P'.map fun (x:Nat)=>(x:Int)))
  (fun s=>i - s.1.toNat) (fun r=>∃P':List Nat,(P'=P\/(P'=P++[u]/\u∈q.take i/\P.length < 3))/\r=P'.map fun (x:Nat)=>(x:Int))
  (fun s hs=>?_) ((0:Int),P.map fun (x:Nat)=>(x:Int)) ⟨0,P,by omega,.inl rfl,rfl⟩ (by simp; omega)
 ·obtain ⟨r,h1,P',h2,rfl⟩:=hw
  exact ⟨P',h2,h1⟩
 ·obtain ⟨k,P',hk,hP,rfl⟩:=hs
  by_cases hki:k < i
  ·left
   have hkq:k < q.length:=by omega
   have ek:zw ((k:Int)+1)=((k+1:Nat):Int):=by rw [w64 (by omega)]; omega
   have same:∃s',some (Qg.next (zw ((k:Int)+1),P'.map fun (x:Nat)=>(x:Int)))=some (Qg.next (ρ:=List Int) s') /\
     (∃(k:Nat) (P':List Nat),k<=i/\(P'=P\/(P'=P++[u]/\u∈q.take k/\P.length < 3))/\s'=((k:Int),P'.map fun (x:Nat)=>(x:Int)))/\i - s'.1.toNat < i - (k:Int).toNat := by
    rw [ek]
    exact ⟨_,rfl,⟨k+1,P',hki,hP.imp id fun h=>⟨h.1,(Qd6 hkq).2 (.inl h.2.1),h.2.2⟩,rfl⟩,by simp; omega⟩
   unfold Yr
   simp only
   rw [aH (by simpa using hki),Qn1 hkq]
   simp only [aC]
   by_cases hqu:q[k]=u
   ·rw [aH (by simp [hqu]),aH Qfq]
    have hPP:P'=P:=by
     rcases hP with e | ⟨_,e,_⟩
     ·exact e
     exact absurd (hqu ▸ e) (Qn4 hn hkq)
    subst hPP
    split
    ·split
     ·rename_i h3
      have h3':P'.length < 3:=by simp at h3; omega
      rw [aH (by simp; omega),ek]
      exact ⟨_,rfl,⟨k+1,P'++[u],hki,.inr ⟨rfl,(Qd6 hkq).2 (.inr hqu.symm),h3'⟩,by simp⟩,by simp; omega⟩
     ·exact same
    ·exact same
   ·rw [aI (by simpa using (fun e:((q[k]:Nat):Int)=(u:Int)=>hqu (by omega)))]
    exact same
  ·right
   have:k=i:=by omega
   subst this
   unfold Yr
   simp only
   rw [aI (by simp)]
   exact ⟨_,rfl,P',hP,rfl⟩
theorem Q5h (hn:q.Nodup) (hlen:q.length=dcnt p0) {L:List (Int ⊕ Ad)} {i:Nat} {pc:Q1} (hi:i < q.length) :
  ∃P:List Nat,P.Pairwise (· < ·)/\(∀p∈P,p∈q.take i)/\P.length<=3 /\
   Qc fuel (Xv p0 ((i:Int),L) (q.map fun (x:Nat)=>(x:Int)) pc) (0,[])=some (P.map fun (x:Nat)=>(x:Int)):=by
 have hcn:=Qiy (p0:=p0)
 have hw:=Vy (body:=Xv p0 ((i:Int),L) (q.map fun (x:Nat)=>(x:Int)) pc)
  (fun s=>∃(u:Nat) (P:List Nat),u<=dcnt p0/\P.Pairwise (· < ·)/\(∀p∈P,p < u/\p∈q.take i)/\P.length<=3/\s=((u:Int),P.map fun (x:Nat)=>(x:Int)))
  (fun s=>dcnt p0 - s.1.toNat) (fun r=>∃P:List Nat,P.Pairwise (· < ·)/\(∀p∈P,p∈q.take i)/\P.length<=3/\r=P.map fun (x:Nat)=>(x:Int))
  (fun s hs=>?_) ((0:Int),([]:List Int)) ⟨0,[],by omega,List.Pairwise.nil,fun p hp=>by simp at hp,by simp,rfl⟩ (by simp; omega)
 ·obtain ⟨r,h1,P,h2,h3,h4,rfl⟩:=hw
  exact ⟨P,h2,h3,h4,h1⟩
 ·obtain ⟨u,P,hu,h2,h3,h4,rfl⟩:=hs
  unfold Xv
  simp only [Qgr]
  by_cases huc:u < dcnt p0
  ·left
   obtain ⟨P',hP',hb⟩:=Q42 hn (L:=L) (u:=u) (P:=P) (pc:=pc) hi (by omega)
   have ek:zw ((u:Int)+1)=((u+1:Nat):Int):=by rw [w64 (by omega)]; omega
   rw [aH (by simpa using huc),hb]
   simp only [aC]
   rw [ek]
   refine ⟨_,rfl,⟨u+1,P',huc,?_,?_,?_,rfl⟩,by simp; omega⟩
   ·rcases hP' with rfl | ⟨rfl,_,_⟩
    ·exact h2
    ·rw [List.pairwise_append]
     exact ⟨h2,List.pairwise_singleton _ _,fun a ha b hb=>by simp at hb; subst hb; exact (h3 a ha).1⟩
   ·rcases hP' with rfl | ⟨rfl,hm,_⟩
    ·exact fun p hp=>⟨by have:=(h3 p hp).1; omega,(h3 p hp).2⟩
    ·intro p hp
     rcases bQ.1 hp with e | e
     ·exact ⟨by have:=(h3 p e).1; omega,(h3 p e).2⟩
     ·simp at e; subst e; exact ⟨by omega,hm⟩
   ·rcases hP' with rfl | ⟨rfl,_,hlt⟩
    ·exact h4
    ·simp; omega
  ·right
   rw [aI (by simpa using huc)]
   exact ⟨_,rfl,P,h2,fun p hp=>(h3 p hp).2,h4,rfl⟩
theorem Qyx {n:Nat} {g:Int} {F:Nat -> Ad} {C:Nat -> Nat} (hF:∀v,v < n->(F v).Card=(C v:Int)) (hn:n<=8):Qbv ⟨g,Qb n F⟩=some (Qo n C):=by
 unfold Qbv
 refine Zk (Xx (s0:=((0:Int),([]:List Int))) (r:=Qo n C) (fun k=>((k:Int),Qo k C)) n rfl (fun k hk=>?_) ?_ (by omega)) rfl
 ·unfold Qb2
  simp only
  rw [aH (by rw [Qm]; simpa using hk),Qx hk]
  simp only [aC]
  rw [hF k hk,show Qo k C++[(C k:Int)]=Qo (k+1) C from Qlk,aH (by rw [Kp]; omega),w64 (by omega)]
  rfl
 unfold Qb2
 simp only
 rw [aI (by rw [Qm]; simp)]
theorem Qyv {f:Nat -> Nat} {l:List Nat} (hf:∀p∈l,f p<=4) (hl:l.length<=8):Qam (l.map fun p=>(f p:Int))=some (lprod f l:Int):=by
 unfold Qam
 refine Zk (Xx (s0:=((1:Int),(0:Int))) (r:=(lprod f l:Int)) (fun k=>((lprod f (l.take k):Int),(k:Int))) l.length (by simp [lprod]) (fun k hk=>?_) ?_ (by omega)) rfl
 ·have h1:lprod f (l.take k)<=4^8:=bT (Qhc fun p hp=>hf p (bF hp)) (aT (by omega) (by rw [cO]; omega))
  have h2:=hf _ (bH hk)
  have h3:lprod f (l.take k)*f l[k]<=65536*4:=Nat.mul_le_mul (by omega) h2
  have e:(lprod f (l.take k):Int)*(f l[k]:Int)=((lprod f (l.take (k+1)):Nat):Int):=by rw [Vt hk,Qds]; simp
  have e2:lprod f (l.take (k+1))<=65536*4:=by rw [Vt hk,Qds]; exact h3
  unfold Qcv
  simp only
  rw [aH (by simpa using hk),Xo (by simpa using hk)]
  simp only [aC,List.getElem_map]
  rw [e,w64 (by omega),w64 (by omega)]
  rfl
 unfold Qcv
 simp only
 rw [aI (by simp),List.take_of_length_le (aY _)]
theorem Q5u {n v:Nat} {N:Nat -> Int ⊕ Ad} {x:Ad}:List.set (List.map Ai (Qb n N)) (Int.toNat (v:Int)) x=Qb n fun k=>if k=v then x else Ai (N k):=by
 rw [show List.map Ai (Qb n N)=Qb n (fun k=>Ai (N k)) by simp [Qb],aP,Xg]
theorem Qx0 {n v:Nat} {g:Int} {N:Nat -> Int ⊕ Ad} {C:Nat -> Nat} {P:List Nat} {R:List (List Int)} (hN:∀k,k < n->(Ai (N k)).Card=(C k:Int)) (hn:n<=8) (hv:v < n) (hP:∀p∈P,p < n) (hl:P.length<=8) :
  Xi ⟨g,List.set (List.map Ai (Qb n N)) (Int.toNat (v:Int)) ⟨(C v:Int),P.map (fun (x:Nat)=>(x:Int)),R⟩⟩ (v:Int)=some (P.map fun p=>(C p:Int)):=by
 unfold Xi
 rw [Q5u,Qyx (C:=C) (fun k hk=>?_) hn]
 ·simp only [aC]
  rw [Qx hv]
  simp only [aC,eC]
  rw [Q7p hP hl]
  rfl
 ·by_cases e:k=v
  ·subst e; rw [aH rfl]
  ·rw [aI e]; exact hN k hk
theorem Q6g {g c v i:Nat} {N:Nat -> Int ⊕ Ad} {C:Nat -> Nat} {P:List Nat} {pc:Q1} (hg:zw (1+(zw (Int.tmod p0.Grain 60)))=(g:Int)) (hg60:g<=60)
  (hC:∀k,k < dcnt p0->2<=C k/\C k<=3) (hN:∀k,k < dcnt p0->(Ai (N k)).Card=(C k:Int)) (hv:v < dcnt p0) (hP:∀p∈P,p < dcnt p0) (hl:P.length<=3)
  (hW:∀x∈pc.W,0<=x/\x<=255) (hWl:pc.W.length<=9223372036854775807) :
  ∃W:Nat -> Nat -> Nat,(∀r,r < lprod C P->Qj (C v) (fun x=>(W r x:Int))=g) /\
   Qc fuel (Yw p0 ((i:Int),Qb (dcnt p0) N) (v:Int) (C v:Int) (P.map fun (x:Nat)=>(x:Int)) pc) (0,[])=some (Qb (lprod C P) fun r=>Qb (C v) fun x=>(W r x:Int)):=by
 have hcn:=Qiy (p0:=p0)
 have hcv:=hC v hv
 have hsz:=Qyv (f:=C) (l:=P) (fun p hp=>by have:=hC p (hP p hp); omega) (by omega)
 have hb:lprod C P<=64:=bT (Qhc fun p hp=>by have:=hC p (hP p hp); omega) (aT (by omega) hl:4^P.length<=4^3)
 have hw:=Vy (body:=Yw p0 ((i:Int),Qb (dcnt p0) N) (v:Int) (C v:Int) (P.map fun (x:Nat)=>(x:Int)) pc)
  (fun s=>∃(r:Nat) (W:Nat -> Nat -> Nat),r<=lprod C P/\(∀r',r' < r->Qj (C v) (fun x=>(W r' x:Int))=g)/\s=((r:Int),Qb r fun r=>Qb (C v) fun x=>(W r x:Int)))
  (fun s=>lprod C P - s.1.toNat) (fun o=>∃W:Nat -> Nat -> Nat,(∀r,r < lprod C P->Qj (C v) (fun x=>(W r x:Int))=g)/\o=Qb (lprod C P) fun r=>Qb (C v) fun x=>(W r x:Int))
  (fun s hs=>?_) ((0:Int),([]:List (List Int))) ⟨0,fun _ _=>0,by omega,fun r hr=>by omega,rfl⟩ (by simp; omega)
 ·obtain ⟨o,h1,W,h2,rfl⟩:=hw
  exact ⟨W,h2,h1⟩
 ·obtain ⟨r,W,hr,hS,rfl⟩:=hs
  unfold Yw
  simp only
  rw [Qx0 hN (by omega) hv hP (by omega)]
  simp only [aC]
  rw [hsz]
  simp only [aC]
  by_cases hrs:r < lprod C P
  ·left
   have hm:r*(C v+1)<=64*4:=Nat.mul_le_mul (by omega) (by omega)
   have ef:zw ((r:Int)*zw ((C v:Int)+1))=((r*(C v+1):Nat):Int):=by
    have w1:zw ((C v:Int)+1)=((C v+1:Nat):Int):=by rw [w64 (by omega)]; omega
    have e3:(r:Int)*((C v+1:Nat):Int)=((r*(C v+1):Nat):Int):=by simp
    rw [w1,e3]
    exact w64 (by omega)
   obtain ⟨f,hf,hfs⟩:=Q07 (g:=g) (c:=C v) (l:=pc.W) (fr:=r*(C v+1)) hg60 (by omega) (by omega) hW hWl (by omega)
   have ek:zw ((r:Int)+1)=((r+1:Nat):Int):=by rw [w64 (by omega)]; omega
   rw [aH (by simpa using hrs),hg,ef,hf]
   simp only [aC]
   rw [aH (by simp [Qm]; omega),ek]
   have e:(Qb r fun r=>Qb (C v) fun x=>(W r x:Int))++[Qb (C v) fun x=>(f x:Int)]=Qb (r+1) fun r'=>Qb (C v) fun x=>((Zs W r f) r' x:Int):=by
    rw [<-Qlk,Z5]
    congr 1
    exact Qh fun k hk=>by rw [Ve (by omega)]
   refine ⟨_,rfl,⟨r+1,Zs W r f,hrs,fun r' hr'=>?_,by rw [e]⟩,by simp; omega⟩
   by_cases e2:r'=r
   ·subst e2; rw [Z5]; exact hfs
   ·rw [Ve e2]; exact hS r' (by omega)
  ·right
   have:r=lprod C P:=by omega
   subst this
   rw [aI (by simp)]
   exact ⟨_,rfl,W,hS,rfl⟩
theorem Q7d {s:Int × List (Int ⊕ Ad)} {x1:List Int}:Qdh p0 s x1=Xv p0 s x1 ⟨0,0,[]⟩:=rfl
theorem Q38 {n:Nat} {F:Nat -> Ad}:alr (Qb n fun v=>(Sum.inr (F v):Int ⊕ Ad))=some (Qb n F):=by
 have:∀l:List Nat,alr (l.map fun v=>(Sum.inr (F v):Int ⊕ Ad))=some (l.map F):=by
  intro l
  induction l with
  | nil=>rfl
  | cons x l ih=>simp only [dA,alr,ih,bI]
 exact this _
def GdF (D:NF) (q:List Nat) (j:Nat) (v:Nat):Prop:=(D.par v).Pairwise (· < ·)/\(∀p∈D.par v,p∈q.take j)/\(D.par v).length<=3/\∀r,r < D.rows v->Qj (D.card v) (fun x=>(D.W v r x:Int))=D.g
theorem Q6f (h:Qwx p0) (hn:q.Nodup) (hl:∀x∈q,x < dcnt p0) (hlen:q.length=dcnt p0) {g:Nat} (hg:zw (1+(zw (Int.tmod p0.Grain 60)))=(g:Int)) (hg60:g<=60)
  {C:Nat -> Nat} (hC:∀k,k < dcnt p0->2<=C k/\C k<=3) :
  ∃(P:Nat -> List Nat) (W:Nat -> Nat -> Nat -> Nat),(∀j (hj:j < q.length),GdF ⟨dcnt p0,g,C,P,W⟩ q j q[j]) /\
   Qc fuel (Yp p0 (q.map fun (x:Nat)=>(x:Int))) (0,Qb (dcnt p0) fun v=>Sum.inl (C v:Int))=some (Qb (dcnt p0) fun v=>Sum.inr ((NF.mk (dcnt p0) g C P W).node v)):=by
 have hcn:=Qiy (p0:=p0)
 let N:Nat -> (Nat -> List Nat)->(Nat -> Nat -> Nat -> Nat)->Nat -> Int ⊕ Ad:=fun i P W v=>if v∈q.take i then Sum.inr ((NF.mk (dcnt p0) g C P W).node v) else Sum.inl (C v:Int)
 have hNco:∀i P W k,(Ai (N i P W k)).Card=(C k:Int):=fun i P W k=>by
  show (Ai (if k∈q.take i then Sum.inr ((NF.mk (dcnt p0) g C P W).node k) else Sum.inl (C k:Int))).Card=_
  split <;> rfl
 have hw:=Vy (body:=Yp p0 (q.map fun (x:Nat)=>(x:Int)))
  (fun s=>∃(i:Nat) (P:Nat -> List Nat) (W:Nat -> Nat -> Nat -> Nat),i<=dcnt p0/\(∀j (hj:j < q.length),j < i->GdF ⟨dcnt p0,g,C,P,W⟩ q j q[j])/\s=((i:Int),Qb (dcnt p0) (N i P W)))
  (fun s=>dcnt p0 - s.1.toNat)
  (fun o=>∃(P:Nat -> List Nat) (W:Nat -> Nat -> Nat -> Nat),(∀j (hj:j < q.length),GdF ⟨dcnt p0,g,C,P,W⟩ q j q[j])/\o=Qb (dcnt p0) fun v=>Sum.inr ((NF.mk (dcnt p0) g C P W).node v))
  (fun s hs=>?_) ((0:Int),Qb (dcnt p0) fun v=>Sum.inl (C v:Int)) ⟨0,fun _=>[],fun _ _ _=>0,by omega,fun j _ hj=>by omega,by congr 1⟩ (by simp; omega)
 ·obtain ⟨o,h1,P,W,h2,rfl⟩:=hw
  exact ⟨P,W,h2,h1⟩
 ·obtain ⟨i,P,W,hi,hG,rfl⟩:=hs
  by_cases hic:i < dcnt p0
  ·left
   have hiq:i < q.length:=by omega
   have hv:=hl _ (bH hiq)
   have hnot:=Qn4 hn hiq
   have ek:zw ((i:Int)+1)=((i+1:Nat):Int):=by rw [w64 (by omega)]; omega
   have hk:lkL (Qb (dcnt p0) (N i P W)) ((q[i]:Nat):Int)=some (C q[i]:Int):=by
    unfold lkL
    rw [Qx hv]
    show Option.bind (some (if q[i]∈q.take i then _ else _)) _=_
    rw [aI hnot]; rfl
   have leaf:∀pc:Q1,(∀x∈pc.W,0<=x/\x<=255)->pc.W.length<=9223372036854775807 ->
     ∃s',((Qc fuel (Xv p0 ((i:Int),Qb (dcnt p0) (N i P W)) (q.map fun (x:Nat)=>(x:Int)) pc) (0,([]:List Int))).bind fun x72 =>
      (Qc fuel (Yw p0 ((i:Int),Qb (dcnt p0) (N i P W)) ((q[i]:Nat):Int) (C q[i]:Int) x72 pc) (0,([]:List (List Int)))).bind fun x83 =>
      some (Qg.next (ρ:=List (Int ⊕ Ad)) (zw ((i:Int)+1),(List.set (Qb (dcnt p0) (N i P W)) (Int.toNat ((q[i]:Nat):Int)) (Sum.inr (Ad.mk (C q[i]:Int) x72 x83))))))=some (Qg.next s') /\
      (∃(i:Nat) (P:Nat -> List Nat) (W:Nat -> Nat -> Nat -> Nat),i<=dcnt p0/\(∀j (hj:j < q.length),j < i->GdF ⟨dcnt p0,g,C,P,W⟩ q j q[j])/\s'=((i:Int),Qb (dcnt p0) (N i P W)))/\dcnt p0 - s'.1.toNat < dcnt p0 - (i:Int).toNat := fun pc hpW hpl=>by
    obtain ⟨Pv,p1,p2,p3,hb2⟩:=Q5h (p0:=p0) hn hlen (L:=Qb (dcnt p0) (N i P W)) (pc:=pc) hiq
    have hPv:∀p∈Pv,p < dcnt p0:=fun p hp=>hl p (bF (p2 p hp))
    obtain ⟨Wv,w1,hb3⟩:=Q6g (p0:=p0) (i:=i) (c:=0) (pc:=pc) hg hg60 hC (fun k _=>hNco i P W k) hv hPv p3 hpW hpl
    rw [hb2]
    simp only [aC]
    rw [hb3]
    simp only [aC]
    rw [ek,aP,Xg]
    refine ⟨_,rfl,⟨i+1,Zs P q[i] Pv,Zs W q[i] Wv,hic,fun j hj hji=>?_,?_⟩,by simp; omega⟩
    ·by_cases e:j=i
     ·subst e
      unfold GdF NF.rows
      simp only [Z5]
      exact ⟨p1,p2,p3,w1⟩
     ·have hne:q[j]≠q[i]:=fun e2=>e (by
       rcases aZ j i with h' | h'
       ·exact absurd e2 (List.pairwise_iff_getElem.1 hn j i hj hiq h')
       ·omega)
      have:=hG j hj (by omega)
      unfold GdF NF.rows at this ⊢
      simp only [Ve hne]
      exact this
    ·congr 1
     refine Qh fun k hk=>?_
     by_cases e:k=q[i]
     ·rw [aH e]
      show _=if k∈q.take (i+1) then _ else _
      rw [aH ((Qd6 hiq).2 (.inr e)),e]
      unfold NF.node NF.rows
      simp only [Z5]
     ·rw [aI e]
      show (if k∈q.take i then _ else _)=if k∈q.take (i+1) then _ else _
      by_cases hm:k∈q.take i
      ·rw [aH hm,aH ((Qd6 hiq).2 (.inl hm))]
       unfold NF.node NF.rows
       simp only [Ve e]
      ·rw [aI hm,aI (fun h'=>((Qd6 hiq).1 h').elim hm e)]
   unfold Yp
   simp only [Qgr]
   rw [aH (by simpa using hic)]
   by_cases hin:i < p0.Nodes.length
   ·rw [aH (by simpa using hin),Xo hin]
    simp only [aC]
    rw [Qn1 hiq]
    simp only [aC]
    rw [hk]
    simp only [aC]
    exact leaf _ (h.W _ (bH hin)) (h.Wl _ (bH hin))
   ·rw [aI (by simpa using hin),Qn1 hiq]
    simp only [aC]
    rw [hk]
    simp only [aC]
    rw [Q7d]
    exact leaf ⟨0,0,[]⟩ (fun x hx=>by simp at hx) (by simp)
  ·right
   have:i=dcnt p0:=by omega
   subst this
   unfold Yp
   simp only [Qgr]
   rw [aI (by simp)]
   refine ⟨_,rfl,P,W,fun j hj=>hG j hj (by omega),?_⟩
   refine Qh fun k hk=>?_
   show (if k∈q.take (dcnt p0) then _ else _)=_
   rw [aH (by rw [List.take_of_length_le (by omega)]; exact Qob hn hl hlen k hk)]
theorem Qyw (h:Qwx p0):∃D:NF,VX D/\D.n<=5/\(∀v,v < D.n->2<=D.card v/\D.card v<=3)/\Kf p0=some D.net:=by
 have hcn:=Qiy (p0:=p0)
 have hgr:=h.grain
 obtain ⟨q,hn,hl,hlen,hq⟩:=Qx6 (n:=dcnt p0) hcn.2 h.order
 obtain ⟨C,hC,h0⟩:=Q6a h hn hl hlen
 have hg:zw (1+(zw (Int.tmod p0.Grain 60)))=((1+p0.Grain.toNat % 60:Nat):Int):=by
  have w1:zw (p0.Grain % 60)=p0.Grain % 60:=w64 (by omega)
  rw [Kw hgr.1,w1,w64 (by omega)]; omega
 have hg60:1+p0.Grain.toNat % 60<=60:=by omega
 obtain ⟨P,W,hG,h7⟩:=Q6f h hn hl hlen hg hg60 hC
 refine ⟨⟨dcnt p0,1+p0.Grain.toNat % 60,C,P,W⟩,?_,hcn.2,hC,?_⟩
 ·have hall:∀v,v < dcnt p0->∃j,∃hj:j < q.length,q[j]=v:=fun v hv=>bA.1 (Qob hn hl hlen v hv)
  have hsum:∀v r,v < dcnt p0->r < (NF.mk (dcnt p0) (1+p0.Grain.toNat % 60) C P W).rows v->Qj (C v) (fun x=>(W v r x:Int))=((1+p0.Grain.toNat % 60:Nat):Int):=fun v r hv hr=>by
   obtain ⟨j,hj,rfl⟩:=hall v hv
   exact (hG j hj).2.2.2 r hr
  refine ⟨⟨by show 1<=dcnt p0; omega,by show dcnt p0<=8; omega,by show 1<=1+p0.Grain.toNat % 60; omega,hg60,fun v hv=>by have:=hC v hv; show 1<=C v/\C v<=4; omega,fun v hv p hp=>?_,fun v hv=>?_,fun v r x hv hr hx=>?_,?_⟩,fun v hv=>?_,fun v hv hp=>?_,⟨fun v=>q.idxOf v,fun v hv p hp=>?_⟩,hsum⟩
  ·obtain ⟨j,hj,rfl⟩:=hall v hv
   exact hl p (bF ((hG j hj).2.1 p hp))
  ·obtain ⟨j,hj,rfl⟩:=hall v hv
   have:=(hG j hj).2.2.1
   omega
  ·have h1:=hsum v r hv hr
   have h2:=Qeg (n:=C v) (k:=x+1) (f:=fun x=>(W v r x:Int)) (fun _ _=>cV _) hx
   have h3:0<=Qj x (fun x=>(W v r x:Int)):=Y8 fun _ _=>cV _
   simp only [Qj] at h2
   show W v r x<=1+p0.Grain.toNat % 60
   omega
  ·have h1:Qn (dcnt p0) C<=3^dcnt p0:=Qh0 fun v hv=>(hC v hv).2
   have h2:3^dcnt p0<=3^5:=aT (by omega) hcn.2
   show Qn (dcnt p0) C<=1024
   omega
  ·obtain ⟨j,hj,rfl⟩:=hall v hv
   exact (hG j hj).1
  ·obtain ⟨j,hj,rfl⟩:=hall v hv
   exact Qn4 hn hj ((hG j hj).2.1 _ hp)
  obtain ⟨j,hj,rfl⟩:=hall v hv
  have h1:=Quu ((hG j hj).2.1 p hp)
  have h2:=Q00 hn hj
  show q.idxOf p < q.idxOf q[j]
  omega
 unfold Kf
 simp only [Qgr]
 rw [aH (by omega),aH (by omega),aP,hq]
 simp only [aC]
 rw [h0]
 simp only [aC]
 rw [h7]
 simp only [aC]
 rw [Q38,hg]
 rfl
end
end Go.Ab
namespace Go.Ab
open Go
theorem Qq4 {τ ρ σ:Type} {n:Nat} (hn:n < 1152921504606846976) (good:Nat -> Prop) (mkS:Int->τ->σ) {body:σ->Option (Qg σ ρ)} (T:Nat -> τ) (r rb:ρ)
  (step:∀k,k < n->(∀j,j < k->good j)->good k->body (mkS (k:Int) (T k))=some (.next (mkS (zw ((k:Int)+1)) (T (k+1)))))
  (bad:∀k,k < n->(∀j,j < k->good j)->¬ good k->body (mkS (k:Int) (T k))=some (.done rb))
  (done:(∀j,j < n->good j)->body (mkS (n:Int) (T n))=some (.done r)) :
  ((∀j,j < n->good j)/\Qc fuel body (mkS ((0:Nat):Int) (T 0))=some r)\/((¬ ∀j,j < n->good j)/\Qc fuel body (mkS ((0:Nat):Int) (T 0))=some rb):=by
 have h:=Qnp (n:=n) (k0:=0) (by omega) hn mkS (body:=body) (fun k t=>t=T k/\∀j,j < k->good j) (fun x=>((∀j,j < n->good j)/\x=r)\/((¬ ∀j,j < n->good j)/\x=rb))
  (fun k t _ hk hI=>by
   obtain ⟨rfl,hI⟩:=hI
   by_cases hg:good k
   ·left
    exact ⟨_,step k hk hI hg,rfl,fun j hj=>by
     by_cases e:j=k
     ·rw [e]; exact hg
     exact hI j (by omega)⟩
   exact .inr ⟨_,bad k hk hI hg,.inr ⟨fun h=>hg (h k hk),rfl⟩⟩)
  (fun t hI=>by
   obtain ⟨rfl,hI⟩:=hI
   exact ⟨_,done hI,.inl ⟨hI,rfl⟩⟩) (T 0) ⟨rfl,fun j hj=>by omega⟩
 obtain ⟨x,h1,h2⟩:=h
 rcases h2 with ⟨a,rfl⟩ | ⟨a,rfl⟩
 ·exact .inl ⟨a,h1⟩
 ·exact .inr ⟨a,h1⟩
end Go.Ab
namespace Go.Ab
open Go
def Qx4 (a b:Nat):Prop:=∀j,a.testBit j=true->b.testBit j=true
theorem Qx4.trans {a b c:Nat} (h:Qx4 a b) (k:Qx4 b c):Qx4 a c:=fun j hj=>k j (h j hj)
def upV (S:Nat -> Nat) (s v:Nat):Nat := if s.testBit v then s ||| S v else s
def upR (n:Nat) (S:Nat -> Nat) (s:Nat):Nat := (List.range n).foldl (upV S) s
def ups (n:Nat) (S:Nat -> Nat):Nat -> Nat -> Nat
 | 0,s=>s
 | k+1,s=>upR n S (ups n S k s)
end Go.Ab
namespace Go.Ab
open Go
structure Qj1 (m:Nat) (x:Ad):Prop where
 par:x.Parents.length<=m
 rows:x.Rows.length<=m
 row:∀r∈x.Rows,r.length<=m
theorem Q0c {m:Nat} {x:Ad} (hm:m<=1000000) (h:Qj1 m x):Qc fuel (Jn x) (0,([]:List (List Int)))=some x.Rows:=by
 have h1:=h.rows
 have hr:=Z7 (n:=x.Rows.length) (k0:=0) (by omega) (by omega) (fun i (t:List (List Int))=>(i,t)) (body:=Jn x) (fun k=>x.Rows.take k) x.Rows
  (fun k _ hk=>by
   have h2:=h.row _ (bH hk)
   unfold Jn
   dsimp only
   rw [aH (dlt hk),Xo hk,aC,aH (by omega),aH (by rw [aO,cO]; simp; omega),Vt hk])
  (by unfold Jn; dsimp only; rw [aI (nlt _),List.take_length])
 exact hr
end Go.Ab
namespace Go.Ab
open Go
theorem Q1r {n:Nat} {f:Nat -> Int} {c:Int}:Qj n (fun k=>f k*c)=Qj n f*c:=by
 induction n with
 | zero=>simp [Qj]
 | succ n ih=>simp only [Qj,ih]; rw [Int.add_mul]
theorem Qxj {a b:Nat} {f:Nat -> Int}:Qj (a*b) f=Qj a (fun x=>Qj b (fun y=>f (x*b+y))):=by
 induction a with
 | zero=>simp [Qj]
 | succ a ih=>rw [dO,Qjk,ih]; simp only [Qj]
theorem Qc6 {n:Nat} {f g:Nat -> Nat} (h:∀k,k < n->f k=g k):Qn n f=Qn n g:=by
 induction n with
 | zero=>rfl
 | succ n ih=>simp only [Qn]; rw [ih (fun k hk=>h k (by omega)),h n (by omega)]
theorem Qfs {n:Nat} {f:Nat -> Nat} (h:∀k,k < n->1<=f k):1<=Qn n f:=by
 induction n with
 | zero=>simp [Qn]
 | succ n ih=>simp only [Qn]; exact bT (by simp) (Nat.mul_le_mul (ih fun k hk=>h k (by omega)) (h n (by omega)))
end Go.Ab
namespace Go.Ab
open Go
def Va (c w:Nat -> Nat) (l:List Nat):Nat := l.foldl (fun r p=>r*c p+w p) 0
theorem Qr8 {c w:Nat -> Nat} {l:List Nat} {p:Nat}:Va c w (l++[p])=Va c w l*c p+w p:=by simp [Va]
theorem Qq1 {c w:Nat -> Nat} {l:List Nat} (h:∀p∈l,w p < c p):Va c w l < lprod c l:=by
 have key:∀(l:List Nat) (r R:Nat),r < R->(∀p∈l,w p < c p)->l.foldl (fun r p=>r*c p+w p) r < l.foldl (fun r p=>r*c p) R:=by
  intro l
  induction l with
  | nil=>intro r R h _; exact h
  | cons p l ih =>
   intro r R hr hp
   simp only [List.foldl_cons]
   refine ih _ _ ?_ (fun q hq=>hp q (cJ _ hq))
   have h1:=hp p (by simp)
   have h2:(r+1)*c p<=R*c p:=aR _ hr
   rw [dO] at h2
   omega
 exact key l 0 1 (by omega) h
def NF.idx (D:NF) (v:Nat) (w:Nat -> Nat):Nat := Va D.card w (D.par v)
def NF.wt (D:NF) (w:Nat -> Nat) (v:Nat):Nat := D.W v (D.idx v w) (w v)
def NF.ok (D:NF) (w:Nat -> Nat):Prop:=∀v,v < D.n->w v < D.card v
section
variable {D:NF} (V:VN D) {w:Nat -> Nat}
include V
theorem VN.idx_lt (hw:D.ok w) {v:Nat} (hv:v < D.n):D.idx v w < D.rows v:=Qq1 fun p hp=>hw p (V.par v hv p hp)
theorem VN.wt_le (hw:D.ok w) {v:Nat} (hv:v < D.n):D.wt w v<=60:=bT (V.W v _ _ hv (V.idx_lt hw hv) (hw v hv)) V.g60
end
structure SF where
 N:Nat
 R:Nat
 F:Nat
 T:Nat
def NF.hit (D:NF) (s:SF) (w:Nat -> Nat):Bool:=D.idx s.N w==s.R
def NF.own (D:NF) (s:SF) (w:Nat -> Nat):Nat := if D.hit s w=true then D.wt w s.N else 1
section
variable {D:NF} (V:VN D) {w:Nat -> Nat} {s:SF}
include V
end
end Go.Ab
namespace Go.Ab
open Go
def TM (D:NF) (E:Nat -> Int) (f:(Nat -> Nat)->Int):Nat -> Nat -> (Nat -> Nat)->Int
 | 0,_,w=>f w
 | d+1,i,w=>Qj (D.card i) fun x=>if E i=-1\/E i=(x:Int) then TM D E f d (i+1) (Zs w i x) else 0
def PC (D:NF):Nat -> Nat -> Nat
 | 0,_=>1
 | d+1,i=>D.card i*PC D d (i+1)
theorem Qyq {D:NF} (V:VN D):∀(d i:Nat),i+d=D.n->1<=PC D d i
 | 0,_,_=>aY 1
 | d+1,i,h=>by
  have:=Qyq V d (i+1) (by omega)
  have h2:=(V.card i (by omega)).1
  exact bT (by simp) (Nat.mul_le_mul h2 this)
theorem Qp1 {D:NF}:∀(d i:Nat),Qn i D.card*PC D d i=Qn (i+d) D.card
 | 0,i=>by simp [PC]
 | d+1,i=>by
  have:=Qp1 (D:=D) d (i+1)
  simp only [PC]
  rw [<-Nat.mul_assoc]
  rw [show i+(d+1)=i+1+d by omega,<-this]; rfl
def Ext (D:NF) (f:(Nat -> Nat)->Int):Prop:=∀w w',(∀j,j < D.n->w j=w' j)->f w=f w'
theorem BD.mono {m p:Nat} {a:Int} (h:BD m a) (hp:m<=p):BD p a:=by
 unfold BD KK at *; omega
theorem BD.fit {m:Nat} {a:Int} (h:BD m a) (hm:m<=1024):-9223372036854775808<=a/\a<=9223372036854775807:=by unfold BD KK at h; omega
theorem Qoo {D:NF} {w:Nat -> Nat} {i x:Nat} (h:D.ok w) (hx:x < D.card i):D.ok (Zs w i x):=fun v hv=>by
 unfold Zs
 by_cases e:v=i
 ·rw [aH e,e]; exact hx
 rw [aI e]; exact h v hv
theorem Qtp {D:NF} {E:Nat -> Int} {f:(Nat -> Nat)->Int} (hf:∀w,D.ok w->BD 1 (f w)):∀(d i:Nat) (w:Nat -> Nat),i+d=D.n->D.ok w->BD (PC D d i) (TM D E f d i w)
 | 0,i,w,_,hw=>hf w hw
 | d+1,i,w,h,hw=>by
  unfold TM PC
  refine BD.sum fun x hx=>?_
  split
  ·exact Qtp hf d (i+1) _ (by omega) (Qoo hw hx)
  exact BD.zero
def at' (v x:Nat) (f:(Nat -> Nat)->Int):(Nat -> Nat)->Int:=fun w=>if w v=x then f w else 0
section
variable {D:NF} (V:VN D) {s:SF} {E:Nat -> Int} {v:Nat}
theorem Q30 (V:VN D) {w w':Nat -> Nat} (h:∀j,j < D.n->w j=w' j) {u:Nat} (hu:u < D.n):D.idx u w=D.idx u w':=by
 unfold NF.idx Va
 have:∀(l:List Nat) (r:Nat),(∀p∈l,p < D.n)->l.foldl (fun r p=>r*D.card p+w p) r=l.foldl (fun r p=>r*D.card p+w' p) r:=by
  intro l
  induction l with
  | nil=>intros; rfl
  | cons p l ih =>
   intro r hp
   simp only [List.foldl_cons]
   rw [h p (hp p (by simp)),ih _ (fun q hq=>hp q (cJ _ hq))]
 exact this _ 0 (V.par u hu)
theorem Q5l (V:VN D) {w w':Nat -> Nat} (h:∀j,j < D.n->w j=w' j) {u:Nat} (hu:u < D.n):D.wt w u=D.wt w' u:=by
 unfold NF.wt; rw [Q30 V h hu,h u hu]
theorem Qo9 {f:(Nat -> Nat)->Int} (hv:v < D.n) (hf:Ext D f) {x:Nat}:Ext D (at' v x f):=fun w w' h=>by
 unfold at'; rw [h v hv,hf w w' h]
theorem Q2n {f:(Nat -> Nat)->Int} (hf:∀w,D.ok w->BD 1 (f w)) {x:Nat}:∀w,D.ok w->BD 1 (at' v x f w):=fun w hw=>by
 unfold at'
 split
 ·exact hf w hw
 exact BD.zero
end
end Go.Ab
namespace Go.Ab
open Go
def SW (D:NF) (E:Nat -> Int) (f:(Nat -> Nat)->Int):Int:=TM D E f D.n 0 (fun _=>0)
def Yf (D:NF) (E:Nat -> Int):Prop:=∀j,j < D.n->-1<=E j/\E j < D.card j
section
variable {D:NF} {s:SF} {E:Nat -> Int} {v:Nat}
theorem ok0 (V:VN D):D.ok (fun _=>0):=fun u hu=>(V.card u hu).1
end
end Go.Ab
namespace Go.Ab
open Go
section
variable {D:NF} {E:Nat -> Int}
def PS (D:NF) (k:Nat):Nat := PC D (D.n - k) k
theorem Qp2 {k:Nat} (h:k < D.n):PS D k=D.card k*PS D (k+1):=by
 unfold PS
 rw [show D.n - k=(D.n - (k+1))+1 by omega]; rfl
theorem Qt7:PS D D.n=1:=by unfold PS; rw [Nat.sub_self]; rfl
theorem Qzz (V:VN D) {k:Nat} (h:k<=D.n):1<=PS D k:=Qyq V _ _ (by omega)
def dig (D:NF) (W k:Nat):Nat := W / PS D (k+1) % D.card k
theorem Qi2 (V:VN D) (W:Nat):D.ok (dig D W):=fun v hv=>cD _ (V.card v hv).1
def okE (E:Nat -> Int) (j x:Nat):Prop:=E j=-1\/E j=(x:Int)
instance instokE (E:Nat -> Int) (j x:Nat):Decidable (okE E j x):=by unfold okE; infer_instance
def X1 (n:Nat) (E:Nat -> Int) (i:Nat) (w:Nat -> Nat):Prop:=∀j,i<=j->j < n->okE E j (w j)
def ix (c w:Nat -> Nat):List Nat -> Nat
 | []=>0
 | p::l=>w p*lprodR c l+ix c w l
where lprodR (c:Nat -> Nat):List Nat -> Nat
 | []=>1
 | p::l=>c p*lprodR c l
theorem Qtm (c w:Nat -> Nat):∀(l:List Nat) (r:Nat),l.foldl (fun r p=>r*c p+w p) r=r*ix.lprodR c l+ix c w l
 | [],r=>by simp [ix,ix.lprodR]
 | p::l,r=>by
  simp only [List.foldl_cons,Qtm c w l,ix,ix.lprodR]
  rw [dQ,Nat.mul_assoc,cF]
theorem Qyh {c w:Nat -> Nat} {l:List Nat}:Va c w l=ix c w l:=by
 unfold Va; rw [Qtm]; simp
theorem Qyj {c:Nat -> Nat} {l:List Nat} (h:∀p∈l,c p<=4):ix.lprodR c l<=4^l.length:=by
 induction l with
 | nil=>simp [ix.lprodR]
 | cons p l ih =>
  simp only [ix.lprodR,dC,Nat.pow_succ]
  rw [cH]
  exact Nat.mul_le_mul (ih fun q hq=>h q (cJ _ hq)) (h p (by simp))
def mix (D:NF) (i:Nat) (w:Nat -> Nat) (W:Nat):Nat -> Nat := fun j=>if j < i then w j else dig D W j
theorem Q4y (V:VN D) {i j:Nat} (hij:i<=j) (hj:j < D.n):∃M,PS D i=M*(D.card j*PS D (j+1)):=by
 obtain ⟨k,rfl⟩:=Nat.exists_eq_add_of_le hij
 induction k generalizing i with
 | zero=>exact ⟨1,by rw [dY,Nat.one_mul,Qp2 (by omega)]⟩
 | succ k ih =>
  obtain ⟨M,hM⟩:=ih (i:=i+1) (by omega) (by omega)
  refine ⟨D.card i*M,?_⟩
  rw [Qp2 (by omega),hM]
  rw [show i+1+k=i+(k+1) by omega,Nat.mul_assoc]
open Classical in
theorem Qpd (V:VN D) {f:(Nat -> Nat)->Int} (hf:Ext D f):∀(d i:Nat) (w:Nat -> Nat),i+d=D.n ->
  Qj (PC D d i) (fun W=>if X1 D.n E i (mix D i w W) then f (mix D i w W) else 0)=TM D E f d i w
 | 0,i,w,h=>by
  simp only [PC,Qj,TM,Int.zero_add]
  rw [aH (show X1 D.n E i (mix D i w 0) from fun j h1 h2=>by omega)]
  exact hf _ _ fun j hj=>by unfold mix; rw [aH (by omega)]
 | d+1,i,w,h=>by
  have hi:i < D.n:=by omega
  simp only [PC,TM]
  rw [Qxj]
  refine Xw fun x hx=>?_
  have hP:PC D d (i+1)=PS D (i+1):=by unfold PS; rw [show D.n - (i+1)=d by omega]
  have hpos:=Qzz V (k:=i+1) (by omega)
  have hag:∀y,y < PC D d (i+1)->∀j,j < D.n->mix D i w (x*PC D d (i+1)+y) j=mix D (i+1) (Zs w i x) y j:=fun y hy j hj=>by
   unfold mix
   by_cases h1:j < i
   ·rw [aH h1,aH (by omega),Ve (by omega)]
   rw [aI h1]
   by_cases h2:j=i
   ·subst h2
    rw [aH (by omega),Z5]
    unfold dig
    rw [hP] at hy ⊢
    rw [cH,Nat.mul_add_div (by omega),Nat.div_eq_of_lt hy,dY,Nat.mod_eq_of_lt hx]
   rw [aI (by omega)]
   unfold dig
   rw [hP]
   obtain ⟨M,hM⟩:=Q4y V (i:=i+1) (j:=j) (by omega) hj
   have hpj:=Qzz V (k:=j+1) (by omega)
   rw [hM,show x*(M*(D.card j*PS D (j+1)))+y=PS D (j+1)*(D.card j*(x*M))+y by
    rw [cH (D.card j),<-Nat.mul_assoc,<-Nat.mul_assoc,cH (PS D (j+1)),cH (D.card j),Nat.mul_right_comm (x*M)]]
   rw [Nat.mul_add_div (by omega),Nat.mul_add_mod]
  rw [Xw (g:=fun y=>if okE E i x then (if X1 D.n E (i+1) (mix D (i+1) (Zs w i x) y) then f (mix D (i+1) (Zs w i x) y) else 0) else 0) (fun y hy=>?_)]
  ·by_cases hok:okE E i x
   ·rw [Xw (g:=fun y=>if X1 D.n E (i+1) (mix D (i+1) (Zs w i x) y) then f (mix D (i+1) (Zs w i x) y) else 0) (fun y _=>aH hok),Qpd V hf d (i+1) _ (by omega),aH (show E i=-1\/E i=(x:Int) from hok)]
   rw [Xw (g:=fun _=>0) (fun y _=>aI hok),Qex,aI (show ¬ (E i=-1\/E i=(x:Int)) from hok)]
  have e:=hag y hy
  have hiff:X1 D.n E i (mix D i w (x*PC D d (i+1)+y))↔okE E i x/\X1 D.n E (i+1) (mix D (i+1) (Zs w i x) y):=by
   constructor
   ·intro hm
    refine ⟨?_,fun j h1 h2=>?_⟩
    ·have:=hm i (by omega) hi
     rw [e i hi] at this
     unfold mix at this
     rwa [aH (by omega),Z5] at this
    have:=hm j (by omega) h2
    rwa [e j h2] at this
   rintro ⟨h1,h2⟩ j h3 h4
   rw [e j h4]
   by_cases h5:j=i
   ·subst h5; unfold mix; rwa [aH (by omega),Z5]
   exact h2 j (by omega) h4
  by_cases hok:okE E i x
  ·rw [aH hok]
   by_cases hm:X1 D.n E (i+1) (mix D (i+1) (Zs w i x) y)
   ·rw [aH (hiff.2 ⟨hok,hm⟩),aH hm,hf _ _ e]
   rw [aI (fun c=>hm (hiff.1 c).2),aI hm]
  rw [aI (fun c=>hok (hiff.1 c).1),aI hok]
end
end Go.Ab
namespace Go.Ab
open Go
theorem one5 {cs:List AV} (h:WT (.int .u8) cs):∃a:Int,cs=[(AV.int .u8) a]/\(Lit.int .u8 a).wf=true:=by
 obtain ⟨n,rfl,w⟩:=h
 exact ⟨n,rfl,w⟩
theorem el5 {x:AV} (h:WT (.int .u8) x.flat /\ (if false then x=.agg x.flat else x.cell=true)):∃a:Int,x=(AV.int .u8) a/\(Lit.int .u8 a).wf=true:=by
 obtain ⟨a,h1,h2⟩:=one5 h.1
 rw [Qyr h.2] at h1
 exact ⟨a,(List.cons.inj h1).1,h2⟩
theorem Q21 {cs:List AV} (h:WT (.slice true false 1 (.int .u8)) cs):∃a:(List Int),cs=[(eL true (AV.int .u8)) a]/\(a.length<=maxLen/\∀y0∈a,(Lit.int .u8 y0).wf=true):=by
 obtain ⟨xs,rfl,hl,hx⟩:=h
 obtain ⟨l,rfl,hr⟩:=Qur (enc:=(AV.int .u8)) (R:=fun a=>(Lit.int .u8 a).wf=true) (fun x hm=>el5 (hx x hm))
 exact ⟨l,rfl,by simpa using hl,hr⟩
def Yb (x:Q1):Prop:=((Lit.int .u8 x.Card).wf=true)/\((Lit.int .u8 x.Parents).wf=true)/\((x.W.length<=maxLen/\∀y0∈x.W,(Lit.int .u8 y0).wf=true))
theorem Qib {cs:List AV} (h:WT (.cat (.int .u8) (.cat (.int .u8) (.cat (.slice true false 1 (.int .u8)) .unit))) cs):∃x:Q1,AV.agg cs=Al x/\Yb x:=by
 obtain ⟨_,_,rfl,a0,r0⟩:=h
 obtain ⟨v0,e0,w0⟩:=one5 a0
 cases e0
 obtain ⟨_,_,rfl,a1,r1⟩:=r0
 obtain ⟨v1,e1,w1⟩:=one5 a1
 cases e1
 obtain ⟨_,_,rfl,a2,r2⟩:=r1
 obtain ⟨v2,e2,w2⟩:=Q21 a2
 cases e2
 cases r2
 exact ⟨⟨v0,v1,v2⟩,rfl,⟨w0,w1,w2⟩⟩
theorem Q7t {x:AV} (h:WT (.cat (.int .u8) (.cat (.int .u8) (.cat (.slice true false 1 (.int .u8)) .unit))) x.flat /\ (if true then x=.agg x.flat else x.cell=true)):∃a:Q1,x=Al a/\Yb a:=by
 obtain ⟨a,h1,h2⟩:=Qib h.1
 have h3:x=.agg x.flat := h.2
 exact ⟨a,h3.trans h1,h2⟩
theorem Q7j {cs:List AV} (h:WT (.slice false true 3 (.cat (.int .u8) (.cat (.int .u8) (.cat (.slice true false 1 (.int .u8)) .unit)))) cs):∃a:(List Q1),cs=[(eL false Al) a]/\(a.length<=maxLen/\∀y0∈a,Yb y0):=by
 obtain ⟨xs,rfl,hl,hx⟩:=h
 obtain ⟨l,rfl,hr⟩:=Qur (enc:=Al) (R:=fun a=>Yb a) (fun x hm=>Q7t (hx x hm))
 exact ⟨l,rfl,by simpa using hl,hr⟩
def J9 (x:Qe):Prop:=((Lit.int .u8 x.Grain).wf=true)/\((x.Nodes.length<=maxLen/\∀y0∈x.Nodes,Yb y0))/\((x.Order.length<=maxLen/\∀y0∈x.Order,(Lit.int .u8 y0).wf=true))
theorem rdTharuspexref05_Draft {cs:List AV} (h:WT (.cat (.int .u8) (.cat (.slice false true 3 (.cat (.int .u8) (.cat (.int .u8) (.cat (.slice true false 1 (.int .u8)) .unit)))) (.cat (.slice true false 1 (.int .u8)) .unit))) cs):∃x:Qe,AV.agg cs=eTharuspexref05_Draft x/\J9 x:=by
 obtain ⟨_,_,rfl,a0,r0⟩:=h
 obtain ⟨v0,e0,w0⟩:=one5 a0
 cases e0
 obtain ⟨_,_,rfl,a1,r1⟩:=r0
 obtain ⟨v1,e1,w1⟩:=Q7j a1
 cases e1
 obtain ⟨_,_,rfl,a2,r2⟩:=r1
 obtain ⟨v2,e2,w2⟩:=Q21 a2
 cases e2
 cases r2
 exact ⟨⟨v0,v1,v2⟩,rfl,⟨w0,w1,w2⟩⟩
theorem Q7v {cs:List AV} (h:WT (.cat (.int .u8) (.cat (.int .u8) (.cat (.int .u8) (.cat (.int .u8) (.cat (.int .u8) (.cat (.int .u8) (.cat (.int .u8) (.cat (.int .u8) .unit)))))))) cs):∃x:(Int × Int × Int × Int × Int × Int × Int × Int),AV.agg cs=(fun x:(Int × Int × Int × Int × Int × Int × Int × Int)=>AV.agg [.int .u8 x.1,.int .u8 x.2.1,.int .u8 x.2.2.1,.int .u8 x.2.2.2.1,.int .u8 x.2.2.2.2.1,.int .u8 x.2.2.2.2.2.1,.int .u8 x.2.2.2.2.2.2.1,.int .u8 x.2.2.2.2.2.2.2]) x/\((Lit.int .u8 x.1).wf=true/\(Lit.int .u8 x.2.1).wf=true/\(Lit.int .u8 x.2.2.1).wf=true/\(Lit.int .u8 x.2.2.2.1).wf=true/\(Lit.int .u8 x.2.2.2.2.1).wf=true/\(Lit.int .u8 x.2.2.2.2.2.1).wf=true/\(Lit.int .u8 x.2.2.2.2.2.2.1).wf=true/\(Lit.int .u8 x.2.2.2.2.2.2.2).wf=true):=by
 obtain ⟨_,_,rfl,a0,r0⟩:=h
 obtain ⟨v0,e0,w0⟩:=one5 a0
 cases e0
 obtain ⟨_,_,rfl,a1,r1⟩:=r0
 obtain ⟨v1,e1,w1⟩:=one5 a1
 cases e1
 obtain ⟨_,_,rfl,a2,r2⟩:=r1
 obtain ⟨v2,e2,w2⟩:=one5 a2
 cases e2
 obtain ⟨_,_,rfl,a3,r3⟩:=r2
 obtain ⟨v3,e3,w3⟩:=one5 a3
 cases e3
 obtain ⟨_,_,rfl,a4,r4⟩:=r3
 obtain ⟨v4,e4,w4⟩:=one5 a4
 cases e4
 obtain ⟨_,_,rfl,a5,r5⟩:=r4
 obtain ⟨v5,e5,w5⟩:=one5 a5
 cases e5
 obtain ⟨_,_,rfl,a6,r6⟩:=r5
 obtain ⟨v6,e6,w6⟩:=one5 a6
 cases e6
 obtain ⟨_,_,rfl,a7,r7⟩:=r6
 obtain ⟨v7,e7,w7⟩:=one5 a7
 cases e7
 cases r7
 exact ⟨(v0,v1,v2,v3,v4,v5,v6,v7),rfl,⟨w0,w1,w2,w3,w4,w5,w6,w7⟩⟩
def Y6 (x:Af):Prop:=((Lit.int .u8 x.Which).wf=true)/\(((Lit.int .u8 x.V.1).wf=true/\(Lit.int .u8 x.V.2.1).wf=true/\(Lit.int .u8 x.V.2.2.1).wf=true/\(Lit.int .u8 x.V.2.2.2.1).wf=true/\(Lit.int .u8 x.V.2.2.2.2.1).wf=true/\(Lit.int .u8 x.V.2.2.2.2.2.1).wf=true/\(Lit.int .u8 x.V.2.2.2.2.2.2.1).wf=true/\(Lit.int .u8 x.V.2.2.2.2.2.2.2).wf=true))
theorem rdTharuspexref05_Known {cs:List AV} (h:WT (.cat (.int .u8) (.cat (.cat (.int .u8) (.cat (.int .u8) (.cat (.int .u8) (.cat (.int .u8) (.cat (.int .u8) (.cat (.int .u8) (.cat (.int .u8) (.cat (.int .u8) .unit)))))))) .unit)) cs):∃x:Af,AV.agg cs=eTharuspexref05_Known x/\Y6 x:=by
 obtain ⟨_,_,rfl,a0,r0⟩:=h
 obtain ⟨v0,e0,w0⟩:=one5 a0
 cases e0
 obtain ⟨_,_,rfl,a1,r1⟩:=r0
 obtain ⟨v1,e1,w1⟩:=Q7v a1
 cases e1
 cases r1
 exact ⟨⟨v0,v1⟩,rfl,⟨w0,w1⟩⟩
end Go.Ab
namespace Go.Ab
open Go
theorem Q31 {p0:Qe} (h:J9 p0):Qwx p0:=by
 obtain ⟨h1,⟨h2,h3⟩,h4,h5⟩:=h
 exact ⟨bounds_u8 h1,fun x hx=>bounds_u8 (h5 x hx),fun p hp=>bounds_u8 (h3 p hp).1,fun p hp x hx=>bounds_u8 ((h3 p hp).2.2.2 x hx),fun p hp=>(h3 p hp).2.2.1⟩
structure DX (D:NF):Prop extends VX D where
 n5:D.n<=5
 c23:∀v,v < D.n->2<=D.card v/\D.card v<=3
section
variable {D:NF}
theorem Que (X:DX D) {k:Af} (hk:Y6 k):∃E,Yf D E/\Jd k D.net=some (Qb D.n E):=by
 have V:=X.vn
 have hn:=X.n5
 have hlen:D.net.Nodes.length=D.n:=Qm
 obtain ⟨_,k0,k1,k2,k3,k4,_⟩:=hk
 have hw:=Vy (body:=Jf D.net k) (fun s=>∃(i:Nat) (E:Nat -> Int),i<=D.n/\(∀j,j < i->-1<=E j/\E j < D.card j)/\s=((i:Int),Qb i E))
  (fun s=>D.n - s.1.toNat) (fun r=>∃E,Yf D E/\r=Qb D.n E) (fun s hs=>?_) ((0:Int),([]:List Int)) ⟨0,fun _=>0,by omega,fun j hj=>by omega,rfl⟩ (by simp; omega)
 ·obtain ⟨r,h1,E,h2,rfl⟩:=hw
  refine ⟨E,h2,?_⟩
  unfold Jd
  rw [h1]; rfl
 obtain ⟨i,E,hi,hE,rfl⟩:=hs
 by_cases hin:i < D.n
 ·left
  have hc:=V.card i hin
  have hnode:lkI D.net.Nodes (i:Int)=some (D.node i):=V.node hin
  have add:∀y:Int,-1<=y->y < D.card i->(∃s',some (Qg.next (((i+1:Nat):Int),Qb i E++[y]))=some (Qg.next (ρ:=List Int) s') /\
    (∃(i:Nat) (E:Nat -> Int),i<=D.n/\(∀j,j < i->-1<=E j/\E j < D.card j)/\s'=((i:Int),Qb i E))/\D.n - s'.1.toNat < D.n - (i:Int).toNat):=fun y h1 h2=>by
   refine ⟨_,rfl,⟨i+1,Zs E i y,hin,fun j hj=>?_,?_⟩,by simp; omega⟩
   ·by_cases e:j=i
    ·subst e; rw [Z5]; exact ⟨h1,h2⟩
    ·rw [Ve e]; exact hE j (by omega)
   ·rw [<-Qlk,Z5]
    congr 2
    exact Qh fun j hj=>by rw [Ve (by omega)]
  have one:∀y:Int,(Lit.int .u8 y).wf=true->-1<=Int.tmod (zw y) (D.node i).Card/\Int.tmod (zw y) (D.node i).Card < D.card i:=fun y hy=>by
   have hb:=bounds_u8 hy
   have hp:(0:Int) < (D.card i:Int):=by omega
   rw [show (D.node i).Card=(D.card i:Int) from rfl,w64 (by omega),Kw hb.1]
   have h1:=Int.emod_nonneg y (show (D.card i:Int)≠0 by omega)
   have h2:=Int.emod_lt_of_pos y hp
   omega
  have hcard:(D.node i).Card≠0:=by show (D.card i:Int)≠0; omega
  have hll:∀y:Int,(Qb i E++[y]).length*8<=140737488355328:=fun y=>by simp [Qm]; omega
  have ek:zw ((i:Int)+1)=((i+1:Nat):Int):=by rw [w64 (by omega)]; omega
  unfold Jf
  simp only
  rw [aH (by rw [hlen]; simpa using hin),aH Qfq]
  by_cases hb:((IntKind.u8.wrap (BitVec.ofInt (IntKind.bits .u8) (Int.fdiv k.Which (2^min (Int.toNat (zv (i:Int))) (IntKind.bits .u8))) &&& BitVec.ofInt (IntKind.bits .u8) 1).toNat)==1)=true
  ·rw [aH hb]
   have hcases:i=0\/i=1\/i=2\/i=3\/i=4:=by omega
   rcases hcases with rfl | rfl | rfl | rfl | rfl
   ·rw [aH (show ((0:Nat):Int)=0 from rfl),show lkI D.net.Nodes 0=some (D.node 0) from hnode]
    simp only [aC]
    rw [aH hcard,aH (hll _)]
    exact add _ (one _ k0).1 (one _ k0).2
   ·rw [aI (by decide),aH (show ((1:Nat):Int)=1 from rfl),show lkI D.net.Nodes 1=some (D.node 1) from hnode]
    simp only [aC]
    rw [aH hcard,aH (hll _)]
    exact add _ (one _ k1).1 (one _ k1).2
   ·rw [aI (by decide),aI (by decide),aH (show ((2:Nat):Int)=2 from rfl),show lkI D.net.Nodes 2=some (D.node 2) from hnode]
    simp only [aC]
    rw [aH hcard,aH (hll _)]
    exact add _ (one _ k2).1 (one _ k2).2
   ·rw [aI (by decide),aI (by decide),aI (by decide),aH (show ((3:Nat):Int)=3 from rfl),show lkI D.net.Nodes 3=some (D.node 3) from hnode]
    simp only [aC]
    rw [aH hcard,aH (hll _)]
    exact add _ (one _ k3).1 (one _ k3).2
   rw [aI (by decide),aI (by decide),aI (by decide),aI (by decide),aH (show ((4:Nat):Int)=4 from rfl),show lkI D.net.Nodes 4=some (D.node 4) from hnode]
   simp only [aC]
   rw [aH hcard,aH (hll _)]
   exact add _ (one _ k4).1 (one _ k4).2
  rw [aI hb,aH (hll _),ek]
  exact add (-1) (by omega) (by omega)
 right
 have:i=D.n:=by omega
 subst this
 unfold Jf
 rw [aI (by rw [hlen]; simp)]
 exact ⟨_,rfl,E,hE,rfl⟩
theorem Q23 {E:Nat -> Int} {f:(Nat -> Nat)->Int} (V:VN D) {m:Nat} (hm:Qn D.n D.card<=m) (hf:∀w,D.ok w->BD 1 (f w)):BD m (SW D E f):=by
 have h1:PC D D.n 0=Qn D.n D.card:=by have:=Qp1 (D:=D) D.n 0; simpa [Qn] using this
 exact (Qtp hf D.n 0 _ (by omega) (ok0 V)).mono (by rw [h1]; exact hm)
end
end Go.Ab
namespace Go.Ab
open Go
theorem Q47 {i j:Nat} (h:i<=j):10000^i<=10000^j:=aT (by omega) h
end Go.Ab
namespace Go.Ab
open Go
theorem Q0s {p q:Nat} (h:2*(p+1)<=q+1):Nat.log2 (p+1) < Nat.log2 (q+1):=by
 have h1:2^Nat.log2 (p+1)<=p+1:=(Nat.le_log2 (by omega)).1 (aY _)
 have h2:Nat.log2 (p+1)+1<=Nat.log2 (q+1):=(Nat.le_log2 (by omega)).2 (by rw [Nat.pow_succ]; omega)
 omega
theorem Q1f {x K:Nat} (h:(dgs x).length<=K):Nat.log2 (x+1)<=14*K+1:=by
 have h1:=Qs2 x
 have h2:=Q47 (i:=(dgs x).length) (j:=K) h
 have h3:(10000:Nat)^K<=(2^14)^K:=Nat.pow_le_pow_left (by omega) K
 rw [<-Nat.pow_mul] at h3
 have h4:x+1 < 2^(14*K+1):=by rw [Nat.pow_succ]; omega
 have:=(Nat.log2_lt (by omega)).2 h4
 omega
def gm (x y:Nat):Nat := if y<=x then Nat.log2 (x*y+1) else Nat.log2 (x*y+1)+1
theorem Q4p {x y:Nat} (hy:0 < y):gm y (x % y) < gm x y:=by
 have hr:=cD x hy
 unfold gm
 rw [aH (by omega)]
 by_cases h:y<=x
 ·rw [aH h]
  refine Q0s ?_
  have h1:y+x % y<=x:=by
   have:=dI x y
   have h2:1<=x / y:=(Nat.one_le_div_iff hy).2 h
   have h3:y*1<=y*(x / y):=Nat.mul_le_mul_left _ h2
   omega
  have h4:(2*(x % y)+1)*y<=x*y:=aR _ (by omega)
  rw [dQ,Nat.mul_assoc,cH (x % y) y] at h4
  omega
 rw [aI h,Nat.mod_eq_of_lt (by omega),cH]
 omega
theorem Q1s (x y:Nat):Nat.gcd x y=Nat.gcd y (x % y):=by
 rw [Nat.gcd_comm,Nat.gcd_rec,Nat.gcd_comm]
theorem Q7a {x y:Nat} (hx:(dgs x).length<=8000) (hy:(dgs y).length<=8000):gm x y < 1152921504606846976:=by
 have h1:=Qs2 x
 have h2:=Qs2 y
 have h3:(dgs (x*y)).length<=16000:=by
  have:(dgs (x*y)).length<=(dgs x).length+(dgs y).length:=Qe3 (by rw [Nat.pow_add]; exact Nat.mul_lt_mul'' h1 h2)
  omega
 have:=Q1f h3
 unfold gm
 split <;> omega
def MX:Nat := 4611686018427387903
def mkQ (neg:Bool) (n d:Nat):Ql × Bool :=
 if n / Nat.gcd n d<=MX then (if d / Nat.gcd n d<=MX then (⟨if neg then -((n / Nat.gcd n d:Nat):Int) else ((n / Nat.gcd n d:Nat):Int),((d / Nat.gcd n d:Nat):Int)⟩,true) else (⟨0,0⟩,false)) else (⟨0,0⟩,false)
end Go.Ab
namespace Go.Ab
open Go
theorem Quk {n:Int} (h:0<=n/\n < 18446744073709551616):zv n=n:=by
 obtain ⟨m,rfl⟩:=Int.eq_ofNat_of_zero_le h.1
 exact Qgo (by omega)
theorem Qvs {n:Int} (h:n < 0/\-18446744073709551616<=n):zv n=n+18446744073709551616:=by
 simp [IntKind.wrap,IntKind.bits,IntKind.signed]; omega
theorem Qym (a b:Nat) (ha:a < 18446744073709551616) (hb:b < 18446744073709551616):Qbz (a:Int) (b:Int)=some ((Nat.gcd a b:Nat):Int):=by
 have l1:(dgs a).length<=5:=Qe3 (by omega)
 have l2:(dgs b).length<=5:=Qe3 (by omega)
 have lim:gm a b < 1152921504606846976:=Q7a (by omega) (by omega)
 unfold Qbz
 rw [Qq2 (fun s=>∃x y:Nat,s.1=(x:Int)/\s.2=(y:Int)/\Nat.gcd x y=Nat.gcd a b) (fun s=>gm s.1.toNat s.2.toNat) ((Nat.gcd a b:Nat):Int) ?_ _ ⟨a,b,rfl,rfl,rfl⟩ (by simpa using lim)]
 ·rfl
 rintro ⟨x0,y0⟩ ⟨x,y,h1,h2,h3⟩
 simp only at h1 h2
 subst h1; subst h2
 unfold Qg6
 simp only
 by_cases hy:y=0
 ·right
  subst hy
  rw [aI (by simp)]
  rw [Nat.gcd_zero_right] at h3
  rw [h3]
 left
 rw [aH (by simp; omega),aH (by omega),Kw (by omega)]
 refine ⟨_,rfl,⟨y,x % y,rfl,by simp,?_⟩,?_⟩
 ·rw [<-h3,Q1s x y]
 simp only [aP]
 rw [show ((x:Int) % (y:Int)).toNat = x % y by rw [<-Int.natCast_emod,aP]]
 exact Q4p (by omega)
theorem Qun {p:Int} (h:-9223372036854775808<=p/\p<=9223372036854775807):Kb p=some (p.natAbs:Int):=by
 unfold Kb
 by_cases h0:p < 0
 ·rw [aH (by simpa using h0)]
  have e:zv p=p+18446744073709551616:=Qvs (by omega)
  rw [e,Qvs (by omega)]
  congr 1; omega
 rw [aI (by simpa using h0),Quk (by omega)]
 congr 1; omega
def Rt (q:Ql):Prop:=1<=q.D/\q.D<=4611686018427387903/\-4611686018427387903<=q.N/\q.N<=4611686018427387903/\Nat.gcd q.N.natAbs q.D.natAbs=1
instance instRt (q:Ql):Decidable (Rt q):=by unfold Rt; infer_instance
def I64 (q:Ql):Prop:=(-9223372036854775808<=q.N/\q.N<=9223372036854775807)/\(-9223372036854775808<=q.D/\q.D<=9223372036854775807)
theorem Rt.i64 {q:Ql} (h:Rt q):I64 q:=by obtain ⟨h1,h2,h3,h4,_⟩:=h; unfold I64; omega
def qI (n d:Int):Ql:=(mkQ (!((decide (n < 0))==(decide (d < 0)))) n.natAbs d.natAbs).1
theorem Qo5 {n d:Int} (hd:d≠0) (hn:n.natAbs<=MX) (hd':d.natAbs<=MX):qI n d=⟨if (!((decide (n < 0))==(decide (d < 0))))=true then -((n.natAbs / Nat.gcd n.natAbs d.natAbs:Nat):Int) else ((n.natAbs / Nat.gcd n.natAbs d.natAbs:Nat):Int),((d.natAbs / Nat.gcd n.natAbs d.natAbs:Nat):Int)⟩:=by
 unfold qI mkQ
 have h1:=Nat.div_le_self n.natAbs (Nat.gcd n.natAbs d.natAbs)
 have h2:=Nat.div_le_self d.natAbs (Nat.gcd n.natAbs d.natAbs)
 rw [aH (by omega),aH (by omega)]
theorem Qm1 {n d:Int} (hn:n.natAbs<=MX) (hd:d.natAbs<=MX) (h0:d≠0):Vz n d=some (qI n d,0):=by
 have hMX:MX=4611686018427387903:=rfl
 unfold Vz
 rw [aI (by simpa using h0)]
 unfold Qcf
 rw [Qun (by omega),Qun (by omega)]
 simp only [aC]
 rw [Qym _ _ (by omega) (by omega)]
 simp only [aC]
 have hg:0 < Nat.gcd n.natAbs d.natAbs:=Nat.gcd_pos_of_pos_right _ (by omega)
 rw [aH (by omega),aH (by omega)]
 have h1:=Nat.div_le_self n.natAbs (Nat.gcd n.natAbs d.natAbs)
 have h2:=Nat.div_le_self d.natAbs (Nat.gcd n.natAbs d.natAbs)
 have e1:Int.tdiv (n.natAbs:Int) ((Nat.gcd n.natAbs d.natAbs:Nat):Int)=((n.natAbs / Nat.gcd n.natAbs d.natAbs:Nat):Int):=by rw [Qn5 (by omega)]; simp
 have e2:Int.tdiv (d.natAbs:Int) ((Nat.gcd n.natAbs d.natAbs:Nat):Int)=((d.natAbs / Nat.gcd n.natAbs d.natAbs:Nat):Int):=by rw [Qn5 (by omega)]; simp
 rw [e1,e2,Qo5 h0 hn hd]
 generalize n.natAbs / Nat.gcd n.natAbs d.natAbs=x at *
 generalize d.natAbs / Nat.gcd n.natAbs d.natAbs=y at *
 rw [Quk (by omega),Quk (by omega)]
 unfold Qkc
 simp only
 rw [aI (by simp),aI (by simp; omega),aI (by simp),aI (by simp; omega)]
 generalize (!((decide (n < 0))==(decide (d < 0))))=b
 cases b
 ·rw [aI (by simp),aI (by simp),w64 (by omega),w64 (by omega)]; rfl
 rw [aH rfl,aH rfl,w64 (n:=(x:Int)) (by omega),w64 (n:=(y:Int)) (by omega),w64 (by omega)]
 simp
theorem Q3p {n d:Int} (hn:n.natAbs<=MX) (hd:d.natAbs<=MX) (h0:d≠0):Rt (qI n d)/\(qI n d).N*d=n*(qI n d).D:=by
 have hMX:MX=4611686018427387903:=rfl
 rw [Qo5 h0 hn hd]
 have hg:0 < Nat.gcd n.natAbs d.natAbs:=Nat.gcd_pos_of_pos_right _ (by omega)
 have hc:Nat.gcd (n.natAbs / Nat.gcd n.natAbs d.natAbs) (d.natAbs / Nat.gcd n.natAbs d.natAbs)=1:=by rw [Nat.gcd_div (Nat.gcd_dvd_left _ _) (Nat.gcd_dvd_right _ _),Nat.div_self hg]
 have hx:n.natAbs=n.natAbs / Nat.gcd n.natAbs d.natAbs*Nat.gcd n.natAbs d.natAbs:=(Nat.div_mul_cancel (Nat.gcd_dvd_left _ _)).symm
 have hy:d.natAbs=d.natAbs / Nat.gcd n.natAbs d.natAbs*Nat.gcd n.natAbs d.natAbs:=(Nat.div_mul_cancel (Nat.gcd_dvd_right _ _)).symm
 have hxl:=Nat.div_le_self n.natAbs (Nat.gcd n.natAbs d.natAbs)
 have hyl:=Nat.div_le_self d.natAbs (Nat.gcd n.natAbs d.natAbs)
 have hyp:0 < d.natAbs / Nat.gcd n.natAbs d.natAbs:=Nat.div_pos (Nat.le_of_dvd (by omega) (Nat.gcd_dvd_right _ _)) hg
 generalize n.natAbs / Nat.gcd n.natAbs d.natAbs=x at *
 generalize d.natAbs / Nat.gcd n.natAbs d.natAbs=y at *
 generalize Nat.gcd n.natAbs d.natAbs=g at *
 have key:(x:Int)*(d.natAbs:Int)=(n.natAbs:Int)*(y:Int):=by
  rw [hx,hy]
  simp only [Int.natCast_mul]
  rw [Int.mul_assoc,Int.mul_comm (g:Int),Int.mul_comm (y:Int)]
 refine ⟨?_,?_⟩
 ·unfold Rt
  simp only
  refine ⟨by omega,by omega,?_,?_,?_⟩
  ·split <;> omega
  ·split <;> omega
  split
  ·rw [Int.natAbs_neg]; simpa using hc
  simpa using hc
 simp only
 by_cases h1:n < 0
 ·by_cases h2:d < 0
  ·rw [aI (by simp [h1,h2])]
   rw [show d=-(d.natAbs:Int) by omega,show n=-(n.natAbs:Int) by omega]
   rw [Int.mul_neg,Int.neg_mul,key]
  rw [aH (by simp [h1,h2])]
  rw [show d=(d.natAbs:Int) by omega,show n=-(n.natAbs:Int) by omega]
  rw [Int.neg_mul,Int.neg_mul,key]
 by_cases h2:d < 0
 ·rw [aH (by simp [h1,h2])]
  rw [show d=-(d.natAbs:Int) by omega,show n=(n.natAbs:Int) by omega]
  rw [Int.mul_neg,Int.neg_mul,Int.neg_neg,key]
 rw [aI (by simp [h1,h2])]
 rw [show d=(d.natAbs:Int) by omega,show n=(n.natAbs:Int) by omega]
 exact key
end Go.Ab
namespace Go.Ab
open Go
section
variable {D:NF}
def evJ (D:NF) (e:List Int) (j:Nat):Prop:=-1<=(e[j]?).getD 0/\(e[j]?).getD 0 < D.card j
def evL (D:NF) (e:List Int):Prop:=e.length=D.n/\∀j,j < D.n->evJ D e j
theorem Q2y {e:List Int} {j:Nat} (hj:j < e.length):lkI e (j:Int)=some ((e[j]?).getD 0):=by rw [Xo hj,aG hj]; rfl
theorem Qvv (X:VX D) (e:List Int):(evL D e/\Z0 D.net e=some 0)\/(¬ evL D e/\Z0 D.net e=some 2):=by
 have V:=X.vn
 have hn:=V.n8
 have hlen:D.net.Nodes.length=D.n:=Qm
 obtain ⟨order,hr⟩:=Qi0 X
 unfold Z0
 rw [hr,aC,aI (by simp)]
 dsimp only
 rw [hlen]
 by_cases c:e.length=D.n
 ·rw [aI (by simp; omega)]
  have h:=Qq4 (n:=D.n) (by omega) (evJ D e) (fun i (_:Unit)=>i) (body:=Zu e (⟨D.net,Qo D.n D.card,Qo D.n (setN D),order⟩,0)) (fun _=>()) (.inr ()) (.inl ())
   (fun j hj hI hg=>by
    obtain ⟨g1,g2⟩:=hg
    unfold Zu
    dsimp only
    rw [c,aH (dlt hj),Q2y (by omega),aC,aI (by simp; exact g1),Zn hj,aC,aI (by simp; exact g2)])
   (fun j hj hI hg=>by
    unfold Zu
    dsimp only
    rw [c,aH (dlt hj),Q2y (by omega),aC]
    by_cases c1:(e[j]?).getD 0 < -1
    ·rw [aH (by simpa using c1)]
    rw [aI (by simpa using c1),Zn hj,aC,aH (by
     rw [aN]
     exact Int.not_lt.1 fun hh=>hg ⟨by omega,hh⟩)])
   (fun hI=>by unfold Zu; dsimp only; rw [c,aI (nlt _)])
  rcases h with ⟨h,e1⟩ | ⟨h,e1⟩
  ·left; refine ⟨⟨c,h⟩,?_⟩
   have e1:Qc fuel (Zu e (⟨D.net,Qo D.n D.card,Qo D.n (setN D),order⟩,0)) 0=some (.inr ()):=e1
   rw [e1]; rfl
  right; refine ⟨fun hh=>h hh.2,?_⟩
  have e1:Qc fuel (Zu e (⟨D.net,Qo D.n D.card,Qo D.n (setN D),order⟩,0)) 0=some (.inl ()):=e1
  rw [e1]; rfl
 rw [aH (by simp; omega)]
 exact .inr ⟨fun hh=>c hh.1,rfl⟩
end
end Go.Ab
namespace Go.Ab
open Go
theorem Qwt:Qe8=some true:=by kernel_rfl
end Go.Ab
namespace Go.Ab
open Go
def Xm (S E:Nat -> Int):Nat -> Int:=fun j=>if S j=-1 then E j else if E j=-1\/E j=S j then S j else 100
theorem Qd5 {S E:Nat -> Int} {j x:Nat} (hx:x < 100):okE (Xm S E) j x↔okE S j x/\okE E j x:=by
 unfold okE Xm
 by_cases h1:S j=-1
 ·simp [h1]
 by_cases h2:E j=-1\/E j=S j
 ·rw [aI h1,aH h2]; omega
 rw [aI h1,aI h2]; omega
def NF.fr (D:NF) (m:Nat) (w:Nat -> Nat):Nat -> Nat := fun k=>Qn k fun v=>if m.testBit v=true then 1 else D.wt w v
def NF.wh (D:NF) (m:Nat):Nat -> Nat := fun k=>Qn k fun v=>if m.testBit v=true then 1 else D.g
def fS (D:NF) (m:Nat) (w:Nat -> Nat):Int:=(D.fr m w D.n:Int)
def actS (n:Nat) (S:Nat -> Int):Nat := msk n fun j=>decide (0<=S j)
theorem Q1c {n:Nat} {S:Nat -> Int} {j:Nat}:(actS n S).testBit j=(decide (j < n) && decide (0<=S j)):=Qvu _ _ _
theorem Q5m {n:Nat} {p:Nat -> Bool}:msk n p < 2^n:=Nat.lt_pow_two_of_testBit _ fun j hj=>by rw [Qvu]; simp; omega
theorem Qp0 {n:Nat} {S:Nat -> Int} (hn:n<=8):actS n S < 18446744073709551616:=bK Q5m (bT (aT (by omega) hn) (by decide))
theorem Q4e {a k:Nat} (ha:a < 18446744073709551616) (hk:k < 64) :
  ((zv (zb (Int.fdiv (a:Int) (2^min (Int.toNat (k:Int)) zk)) &&& zb 1).toNat)==1)=a.testBit k:=by
 rw [Qxq ha hk]; cases a.testBit k <;> rfl
theorem Q3k {a k:Nat} (ha:a < 18446744073709551616) (hk:k < 64) :
  ((zv (zb (Int.fdiv (a:Int) (2^min (Int.toNat (k:Int)) zk)) &&& zb 1).toNat)==0)=!a.testBit k:=by
 rw [Qxq ha hk]; cases a.testBit k <;> rfl
section
variable {D:NF} {w:Nat -> Nat} {m:Nat}
theorem Qtn {n:Nat} (hn:n<=8) {S:Nat -> Int}:K7 (Qb n S)=some (actS n S:Int):=by
 have hr:=Z7 (n:=n) (k0:=0) (by omega) (by omega) (fun i (t:Int)=>(t,i)) (body:=Qa2 (Qb n S)) (fun k=>(actS k S:Int)) (actS n S:Int)
  (fun k _ hk=>by
   unfold Qa2
   rw [aH (by rw [Qm]; exact dlt hk),show lkI (Qb n S) (k:Int)=some (S k) from Qx hk,aC]
   by_cases c:0<=S k
   ·rw [aH (by simpa using c),aH (by omega)]
    simp only
    rw [Qx2 (Qp0 (by omega)) (by omega),show actS (k+1) S=actS k S ||| 2^k by show msk k _ ||| _=_; rw [aH (by simpa using c)]; rfl]
   rw [aI (by simpa using c),show actS (k+1) S=actS k S by show msk k _ ||| _=_; rw [aI (by simpa using c)]; simp [actS]])
  (by unfold Qa2; rw [aI (by rw [Qm]; exact nlt n)])
 unfold K7
 rw [show ((0:Int),(0:Int))=(((actS 0 S:Nat):Int),((0:Nat):Int)) from rfl,hr]; rfl
variable (V:VN D)
include V
theorem VN.aweigh0 (hw:D.ok w) {v:Nat} (hv:v < D.n):Qc fuel (Qax (D.node v) D.net (Qo D.n w)) (0,0)=some (D.idx v w:Int):=by
 have hl:(D.node v).Parents.length=(D.par v).length:=by simp [NF.node]
 refine Xx (fun k=>((Va D.card w ((D.par v).take k):Int),(k:Int))) (D.par v).length _ rfl (fun k hk=>?_) ?_ (by have:=V.len v hv; omega)
 ·have hlen:=V.len v hv
  have hp:=V.par v hv (D.par v)[k] (bH hk)
  have hpar:lkI (D.node v).Parents (k:Int)=some (((D.par v)[k]:Nat):Int):=by rw [Xo (by rw [hl]; exact hk)]; simp [NF.node]
  have h1:Va D.card w ((D.par v).take k) < lprod D.card ((D.par v).take k):=Qq1 fun p hp=>hw p (V.par v hv p (bF hp))
  have h2:lprod D.card ((D.par v).take k)<=4^8:=bT (Qhc fun p hp=>(V.card p (V.par v hv p (bF hp))).2) (aT (by omega) (by rw [cO]; omega))
  have h3:Va D.card w ((D.par v).take (k+1))=Va D.card w ((D.par v).take k)*D.card (D.par v)[k]+w (D.par v)[k]:=by rw [Vt hk,Qr8]
  have hc:=(V.card _ hp).2
  have hww:=hw _ hp
  have h4:Va D.card w ((D.par v).take k)*D.card (D.par v)[k]<=65536*4:=Nat.mul_le_mul (by omega) hc
  unfold Qax
  simp only
  rw [aH (by rw [hl]; simpa using hk),hpar]
  simp only [aC]
  rw [V.node hp]
  simp only [aC]
  rw [Zn hp]
  simp only [aC]
  have e1:((Va D.card w ((D.par v).take k):Nat):Int)*(D.node (D.par v)[k]).Card=((Va D.card w ((D.par v).take k)*D.card (D.par v)[k]:Nat):Int):=by simp [NF.node]
  have w1:zw ((Va D.card w ((D.par v).take k)*D.card (D.par v)[k]:Nat):Int)=((Va D.card w ((D.par v).take k)*D.card (D.par v)[k]:Nat):Int):=w64 (by omega)
  rw [e1,w1,w64 (by omega),w64 (by omega),h3]
  simp
 unfold Qax
 simp only
 rw [aI (by rw [hl]; simp)]
 simp [NF.idx]
theorem VN.fr_le (hw:D.ok w) {k:Nat} (hk:k<=D.n):D.fr m w k<=167961600000000:=by
 have h1:D.fr m w k<=60^k:=Qh0 fun v hv=>by
  split
  ·omega
  exact V.wt_le hw (by omega)
 exact bT h1 (bT (aT (by omega) (bT hk V.n8)) (by decide))
theorem VN.wh_le {k:Nat} (hk:k<=D.n):D.wh m k<=167961600000000:=by
 have h1:D.wh m k<=60^k:=Qh0 fun v hv=>by
  split
  ·omega
  exact V.g60
 exact bT h1 (bT (aT (by omega) (bT hk V.n8)) (by decide))
theorem VN.wh_pos {k:Nat} (hk:k<=D.n):1<=D.wh m k:=Qfs fun v hv=>by
 split
 ·omega
 exact V.g1
theorem VN.aweigh (hm:m < 18446744073709551616) (hw:D.ok w):K8 D.net (m:Int) (Qo D.n w)=some (fS D m w):=by
 have hlen:D.net.Nodes.length=D.n:=Qm
 have hn8:=V.n8
 have hr:=Z7 (n:=D.n) (k0:=0) (by omega) (by omega) (fun i (t:Int)=>(t,i)) (body:=Qa4 D.net (m:Int) (Qo D.n w)) (fun k=>(D.fr m w k:Int)) (D.fr m w D.n:Int)
  (fun k _ hk=>by
   have hb:=V.fr_le (m:=m) hw (k:=k) (by omega)
   have hwt:=V.wt_le hw hk
   have hi:=V.idx_lt hw hk
   have hmm:D.fr m w k*D.wt w k<=167961600000000*60:=Nat.mul_le_mul hb hwt
   unfold Qa4
   rw [aH (by rw [hlen]; exact dlt hk),V.node hk,aC,aH (by omega)]
   simp only
   rw [Q4e hm (by omega)]
   by_cases c:m.testBit k=true
   ·rw [aH c,show D.fr m w (k+1)=D.fr m w k by show D.fr m w k*(if m.testBit k=true then 1 else D.wt w k)=_; rw [aH c,Nat.mul_one]]
   rw [aI c,V.aweigh0 hw hk,aC,show lkI (D.node k).Rows (D.idx k w:Int)=some (Qb (D.card k) fun x=>(D.W k (D.idx k w) x:Int)) from Qx hi,aC,Zn hk,aC,
    show lkI (Qb (D.card k) fun x=>(D.W k (D.idx k w) x:Int)) (w k:Int)=some (D.wt w k:Int) from Qx (hw k hk),aC,w64 (by rw [<-Int.natCast_mul]; omega),
    show D.fr m w (k+1)=D.fr m w k*D.wt w k by show D.fr m w k*(if m.testBit k=true then 1 else D.wt w k)=_; rw [aI c],Int.natCast_mul])
  (by unfold Qa4; rw [aI (by rw [hlen]; exact nlt _)])
 unfold K8
 rw [show ((1:Int),(0:Int))=(((D.fr m w 0:Nat):Int),((0:Nat):Int)) from rfl,hr]; rfl
theorem VN.awhole (hm:m < 18446744073709551616):Qbj D.net (m:Int)=some (D.wh m D.n:Int):=by
 have hlen:D.net.Nodes.length=D.n:=Qm
 have hn8:=V.n8
 have hr:=Z7 (n:=D.n) (k0:=0) (by omega) (by omega) (fun i (t:Int)=>(t,i)) (body:=Qa5 D.net (m:Int)) (fun k=>(D.wh m k:Int)) (D.wh m D.n:Int)
  (fun k _ hk=>by
   have hb:=V.wh_le (m:=m) (k:=k) (by omega)
   have hg:=V.g60
   have hmm:D.wh m k*D.g<=167961600000000*60:=Nat.mul_le_mul hb hg
   unfold Qa5
   rw [aH (by rw [hlen]; exact dlt hk),aH (by omega)]
   simp only
   rw [Q3k hm (by omega)]
   by_cases c:m.testBit k=true
   ·rw [aI (by simp [c]),show D.wh m (k+1)=D.wh m k by show D.wh m k*(if m.testBit k=true then 1 else D.g)=_; rw [aH c,Nat.mul_one]]
   rw [aH (by simpa using c),show D.net.Grain=(D.g:Int) from rfl,w64 (by rw [<-Int.natCast_mul]; omega),
    show D.wh m (k+1)=D.wh m k*D.g by show D.wh m k*(if m.testBit k=true then 1 else D.g)=_; rw [aI c],Int.natCast_mul])
  (by unfold Qa5; rw [aI (by rw [hlen]; exact nlt _)])
 unfold Qbj
 rw [show ((1:Int),(0:Int))=(((D.wh m 0:Nat):Int),((0:Nat):Int)) from rfl,hr]; rfl
theorem Qdm:Ext D (fS D m):=fun w w' h=>by
 unfold fS NF.fr
 congr 1
 exact Qc6 fun v hv=>by rw [Q5l V h hv]
theorem Qht:∀w,D.ok w->BD 1 (fS D m w):=fun w hw=>by
 have:=V.fr_le (m:=m) hw (aY _)
 unfold fS BD KK; omega
theorem Qqz {w:Nat -> Nat}:0<=fS D m w:=by unfold fS; omega
end
def FWl {τ:Type} (D:NF) (K:Nat -> Nat -> Bool) (leaf:τ->(Nat -> Nat)->τ):Nat -> Nat -> (Nat -> Nat)->τ->τ
 | 0,_,w,t=>leaf t w
 | d+1,i,w,t=>(List.range (D.card i)).foldl (fun t x=>if K i x then FWl D K leaf d (i+1) (Zs w i x) t else t) t
def FXl {τ:Type} (D:NF) (K:Nat -> Nat -> Bool) (leaf:τ->(Nat -> Nat)->τ) (d i:Nat) (w:Nat -> Nat) (t:τ) (x:Nat):τ:=(List.range x).foldl (fun t x=>if K i x then FWl D K leaf d (i+1) (Zs w i x) t else t) t
theorem Qkh {τ:Type} {D:NF} {K:Nat -> Nat -> Bool} {leaf:τ->(Nat -> Nat)->τ} {d i:Nat} {w:Nat -> Nat} {t:τ} {x:Nat} :
  FXl D K leaf d i w t (x+1)=if K i x then FWl D K leaf d (i+1) (Zs w i x) (FXl D K leaf d i w t x) else FXl D K leaf d i w t x:=by
 unfold FXl; rw [List.range_succ,List.foldl_append]; rfl
theorem Qq9 {τ:Type} {D:NF} {K:Nat -> Nat -> Bool} {leaf:τ->(Nat -> Nat)->τ} (hf:∀t w w',(∀j,j < D.n->w j=w' j)->leaf t w=leaf t w') :
  ∀(d i:Nat) (w w':Nat -> Nat) (t:τ),i+d=D.n->(∀j,j < i->w j=w' j)->FWl D K leaf d i w t=FWl D K leaf d i w' t
 | 0,i,w,w',t,hi,h=>hf t w w' fun j hj=>h j (by omega)
 | d+1,i,w,w',t,hi,h=>by
  unfold FWl
  have:∀(l:List Nat) (t:τ),l.foldl (fun t x=>if K i x then FWl D K leaf d (i+1) (Zs w i x) t else t) t=l.foldl (fun t x=>if K i x then FWl D K leaf d (i+1) (Zs w' i x) t else t) t:=fun l=>by
   induction l with
   | nil=>intro t; rfl
   | cons x l ih =>
    intro t
    simp only [List.foldl_cons]
    rw [ih]
    congr 1
    split
    ·exact Qq9 hf d (i+1) _ _ t (by omega) fun j hj=>by
      by_cases e:j=i
      ·subst e; rw [Z5,Z5]
      rw [Ve e,Ve e]; exact h j (by omega)
    rfl
  exact this _ t
theorem Qwd {τ:Type} {D:NF} {K:Nat -> Nat -> Bool} {leaf:τ->(Nat -> Nat)->τ} {I:Nat -> τ->Prop} (mono:∀m p t,I m t->m<=p->I p t) (hl:∀m t w,I m t->D.ok w->I (m+1) (leaf t w)) :
  ∀(d i:Nat) (w:Nat -> Nat) (t:τ) (m:Nat),i+d=D.n->D.ok w->I m t->I (m+PC D d i) (FWl D K leaf d i w t)
 | 0,i,w,t,m,hi,hw,h=>hl m t w h hw
 | d+1,i,w,t,m,hi,hw,h=>by
  have:∀x,x<=D.card i->I (m+x*PC D d (i+1)) (FXl D K leaf d i w t x):=fun x=>by
   induction x with
   | zero=>intro _; simpa [FXl] using h
   | succ x ih =>
    intro hx
    rw [Qkh,dO,<-cF]
    split
    ·exact Qwd mono hl d (i+1) _ _ _ (by omega) (Qoo hw (by omega)) (ih (by omega))
    exact mono _ _ _ (ih (by omega)) (by omega)
  exact this _ (aY _)
theorem Qnu {τ σ ρ:Type} {D:NF} (V:VN D) {K:Nat -> Nat -> Bool} {leaf:τ->(Nat -> Nat)->τ} (hext:∀t w w',(∀j,j < D.n->w j=w' j)->leaf t w=leaf t w')
  {I:Nat -> τ->Prop} (mono:∀m p t,I m t->m<=p->I p t) (hl:∀m t w,I m t->D.ok w->I (m+1) (leaf t w))
  (mkS:Int->τ->List Int->σ) (mkT:τ->List Int->ρ) {F:(σ->Option ρ)->σ->Option ρ} {B:(σ->Option ρ)->Nat -> τ->(Nat -> Nat)->σ->Option (Qg σ ρ)}
  (hleaf:∀r m t w,D.ok w->I m t->m+1<=1024->F r (mkS (D.n:Int) t (Qo D.n w))=some (mkT (leaf t w) (Qo D.n w)))
  (hnode:∀r i t w z,i < D.n->D.ok w->Qc fuel (B r i t w) (mkS 0 t (Qo D.n w))=some z->F r (mkS (i:Int) t (Qo D.n w))=some z)
  (hyes:∀r i t0 w0 x t w z w',i < D.n->D.ok w->x < D.card i->K i x=true->r (mkS ((i+1:Nat):Int) t (Qo D.n (Zs w i x)))=some (mkT z (Qo D.n w'))->B r i t0 w0 (mkS (x:Int) t (Qo D.n w))=some (.next (mkS ((x+1:Nat):Int) z (Qo D.n w'))))
  (hno:∀r i t0 w0 x t w,i < D.n->D.ok w->x < D.card i->K i x=false->B r i t0 w0 (mkS (x:Int) t (Qo D.n w))=some (.next (mkS ((x+1:Nat):Int) t (Qo D.n w))))
  (hend:∀r i t0 w0 t w,i < D.n->D.ok w->B r i t0 w0 (mkS (D.card i:Int) t (Qo D.n w))=some (.done (mkT t (Qo D.n w)))) :
  ∀(d N:Nat),d < N->∀(i m:Nat) (w:Nat -> Nat) (t:τ),i+d=D.n->D.ok w->I m t->m+PC D d i<=1024 ->
   ∃w',D.ok w'/\(∀j,j < i->w' j=w j)/\Qdj F N (mkS (i:Int) t (Qo D.n w))=some (mkT (FWl D K leaf d i w t) (Qo D.n w'))
 | 0,N+1,_,i,m,w,t,hi,hw,hI,hm=>by
  have e:i=D.n:=by omega
  subst e
  refine ⟨w,hw,fun _ _=>rfl,?_⟩
  show F (Qdj F N) _=_
  exact hleaf _ m t w hw hI hm
 | d+1,N+1,hN,i,m,w,t,hi,hw,hI,hm=>by
  have hin:i < D.n:=by omega
  have hc:=V.card i hin
  have hPC:PC D (d+1) i=D.card i*PC D d (i+1):=rfl
  have key:∀x,x<=D.card i->I (m+x*PC D d (i+1)) (FXl D K leaf d i w t x):=fun x=>by
   induction x with
   | zero=>intro _; simpa [FXl] using hI
   | succ x ih =>
    intro hx
    rw [Qkh,dO,<-cF]
    split
    ·exact Qwd mono hl d (i+1) _ _ _ (by omega) (Qoo hw (by omega)) (ih (by omega))
    exact mono _ _ _ (ih (by omega)) (by omega)
  have hloop:∀x w',x<=D.card i->D.ok w'->(∀j,j < i->w' j=w j)->∀k,D.card i - x < k ->
    ∃w2,D.ok w2/\(∀j,j < i->w2 j=w j)/\Qc k (B (Qdj F N) i t w) (mkS (x:Int) (FXl D K leaf d i w t x) (Qo D.n w'))=some (mkT (FXl D K leaf d i w t (D.card i)) (Qo D.n w2)):=by
   intro x w' hx hw' hag k
   induction hk:D.card i - x generalizing x w' k with
   | zero =>
    intro hk'
    obtain ⟨k,rfl⟩:∃k',k=k'+1:=⟨k - 1,by omega⟩
    have:x=D.card i:=by omega
    subst this
    refine ⟨w',hw',hag,?_⟩
    unfold Qc
    rw [hend _ i t w _ w' hin hw']
   | succ q ih =>
    intro hk'
    obtain ⟨k,rfl⟩:∃k',k=k'+1:=⟨k - 1,by omega⟩
    have hlt:x < D.card i:=by omega
    by_cases c:K i x=true
    ·have hxm:m+x*PC D d (i+1)+PC D d (i+1)<=1024:=by
      have:(x+1)*PC D d (i+1)<=D.card i*PC D d (i+1):=aR _ hlt
      rw [dO] at this
      omega
     obtain ⟨w2,k1,k2,k3⟩:=Qnu V hext mono hl mkS mkT hleaf hnode hyes hno hend d N (by omega) (i+1) (m+x*PC D d (i+1)) (Zs w' i x) (FXl D K leaf d i w t x) (by omega) (Qoo hw' hlt) (key x (by omega)) hxm
     have e1:FXl D K leaf d i w t (x+1)=FWl D K leaf d (i+1) (Zs w' i x) (FXl D K leaf d i w t x):=by
      rw [Qkh,aH c]
      exact Qq9 hext d (i+1) _ _ _ (by omega) fun j hj=>by
       by_cases e:j=i
       ·subst e; rw [Z5,Z5]
       rw [Ve e,Ve e]; exact (hag j (by omega)).symm
     rw [<-e1] at k3
     obtain ⟨w3,j1,j2,j3⟩:=ih (x+1) w2 (by omega) k1 (fun j hj=>by rw [k2 j (by omega),Ve (by omega),hag j hj]) k (by omega) (by omega)
     refine ⟨w3,j1,j2,?_⟩
     unfold Qc
     rw [hyes _ i t w x _ w' _ w2 hin hw' hlt c k3]
     exact j3
    have c':K i x=false:=by simpa using c
    obtain ⟨w3,j1,j2,j3⟩:=ih (x+1) w' (by omega) hw' hag k (by omega) (by omega)
    refine ⟨w3,j1,j2,?_⟩
    unfold Qc
    rw [hno _ i t w x _ w' hin hw' hlt c']
    rw [Qkh,aI c] at j3
    exact j3
  obtain ⟨w2,k1,k2,k3⟩:=hloop 0 w (by omega) hw (fun _ _=>rfl) fuel (by unfold fuel; omega)
  refine ⟨w2,k1,k2,?_⟩
  show F (Qdj F N) _=_
  exact hnode _ i t w _ hin hw k3
end Go.Ab
namespace Go.Ab
open Go
theorem Qdk {D:NF} {τ:Type} {p:τ->Int} {K:Nat -> Nat -> Bool} {g:Nat -> τ->τ} {h:Nat -> Int} {i:Nat} (hh:∀x t,K i x=true->p (g x t)=p t+h x) :
  ∀(n:Nat) (t:τ),p ((List.range n).foldl (fun t x=>if K i x then g x t else t) t)=p t+Qj n fun x=>if K i x=true then h x else 0
 | 0,t=>by simp [Qj]
 | n+1,t=>by
  rw [List.range_succ,List.foldl_append]
  simp only [List.foldl_cons,List.foldl_nil,Qj]
  split
  ·rename_i c; rw [hh _ _ c,Qdk (D:=D) hh n t]; omega
  rw [Qdk (D:=D) hh n t]; omega
def KE (E:Nat -> Int):Nat -> Nat -> Bool:=fun i x=>decide (okE E i x)
theorem Qjl {D:NF} {τ:Type} {E:Nat -> Int} {leaf:τ->(Nat -> Nat)->τ} {p:τ->Int} {f:(Nat -> Nat)->Int} (h:∀t w,p (leaf t w)=p t+f w) :
  ∀(d i:Nat) (w:Nat -> Nat) (t:τ),p (FWl D (KE E) leaf d i w t)=p t+TM D E f d i w
 | 0,i,w,t=>h t w
 | d+1,i,w,t=>by
  unfold FWl
  rw [Qdk (D:=D) (p:=p) (h:=fun x=>TM D E f d (i+1) (Zs w i x)) (fun x t _=>Qjl h d (i+1) _ t)]
  congr 1
  refine Xw fun x _=>?_
  unfold KE
  by_cases c:okE E i x
  ·rw [aH (by simpa using c)]; exact (aH (show E i=-1\/E i=(x:Int) from c)).symm
  rw [aI (by simpa using c)]; exact (aI (show ¬ (E i=-1\/E i=(x:Int)) from c)).symm
theorem Qo7 {a b x:Int} {body:Int->Option (Qg Int (Unit ⊕ Unit))} (ha:-1<=a) (hb:-1<=b)
  (h0:body 0=if (decide (a>=0))=true then (if (a != x)=true then some (.done (Sum.inl ())) else some (.next 1)) else some (.next 1))
  (h1:body 1=if (decide (b>=0))=true then (if (b != x)=true then some (.done (Sum.inl ())) else some (.next 2)) else some (.next 2))
  (h2:body 2=some (.done (Sum.inr ()))):Qc fuel body 0=some (if (a=-1\/a=x)/\(b=-1\/b=x) then Sum.inr () else Sum.inl ()):=by
 have st:∀{y:Int} {o:Option (Qg Int (Unit ⊕ Unit))} {z:Int},-1<=y->o=(if (decide (y>=0))=true then (if (y != x)=true then some (.done (Sum.inl ())) else some (.next z)) else some (.next z)) ->
   ((y=-1\/y=x)->o=some (.next z))/\(¬ (y=-1\/y=x)->o=some (.done (Sum.inl ()))):=fun {y o z} hy h=>by
  constructor
  ·intro c
   rw [h]
   rcases c with c | c
   ·rw [aI (by simp; omega)]
   ·by_cases c2:0<=y
    ·rw [aH (by simpa using c2),aI (by simpa using c)]
    ·rw [aI (by simpa using c2)]
  ·intro c
   rw [h,aH (by simp; omega),aH (by simp; omega)]
 refine Qq2 (fun s=>s=0\/(s=1/\(a=-1\/a=x))\/(s=2/\(a=-1\/a=x)/\(b=-1\/b=x))) (fun s=>(3 - s).toNat) _ (fun s hs=>?_) 0 (.inl rfl) (by decide)
 rcases hs with rfl | ⟨rfl,c⟩ | ⟨rfl,c,c'⟩
 ·by_cases c:a=-1\/a=x
  ·exact .inl ⟨1,(st ha h0).1 c,.inr (.inl ⟨rfl,c⟩),by decide⟩
  ·exact .inr (by rw [(st ha h0).2 c,aI (fun h=>c h.1)])
 ·by_cases c':b=-1\/b=x
  ·exact .inl ⟨2,(st hb h1).1 c',.inr (.inr ⟨rfl,c,c'⟩),by decide⟩
  ·exact .inr (by rw [(st hb h1).2 c',aI (fun h=>c' h.2)])
 ·exact .inr (by rw [h2,aH ⟨c,c'⟩])
theorem Qk5 {D:NF} {S E:Nat -> Int} (hS:Yf D S) (hE:Yf D E) {i x:Nat} (hi:i < D.n) (hx:x < 100) {s t:Int × Int × List Int} (hs:s.1=i) (ht:t.1=x) :
  Qc fuel (Qdp (Qb D.n S) (Qb D.n E) s t) 0=some (if KE (Xm S E) i x=true then Sum.inr () else Sum.inl ()):=by
 have hl:∀F:Nat -> Int,lkI (Qb D.n F) s.1=some (F i):=fun F=>by rw [hs]; exact Qx hi
 rw [Qo7 (a:=S i) (b:=E i) (x:=t.1) (hS i hi).1 (hE i hi).1]
 ·congr 1
  rw [ht]
  by_cases c:okE (Xm S E) i x
  ·rw [aH (show (S i=-1\/S i=(x:Int))/\(E i=-1\/E i=(x:Int)) from (Qd5 hx).1 c),aH (by unfold KE; simpa using c)]
  ·rw [aI (fun h:(S i=-1\/S i=(x:Int))/\(E i=-1\/E i=(x:Int))=>c ((Qd5 hx).2 h)),aI (by unfold KE; simpa using c)]
 all_goals (unfold Qdp; simp only [dC,List.length_nil])
 ·rw [aH (by simp),show lkI ([Qb D.n S,Qb D.n E]:List (List Int)) 0=some (Qb D.n S) from rfl,aC,hl,aC]; rfl
 ·rw [aH (by simp),show lkI ([Qb D.n S,Qb D.n E]:List (List Int)) 1=some (Qb D.n E) from rfl,aC,hl,aC]; rfl
 ·rfl
def sumSE (D:NF) (S E:Nat -> Int):Int:=SW D (Xm S E) (fS D (actS D.n S))
theorem Qxs {D:NF}:PC D D.n 0=Qn D.n D.card:=by have:=Qp1 (D:=D) D.n 0; simpa [Qn] using this
theorem Qap {n i x:Nat} {w:Nat -> Nat}:(Qo n w).set i (x:Int)=Qo n (Zs w i x):=by
 unfold Qo; rw [Xg]
 refine Qh fun j _=>?_
 unfold Zs
 split <;> rfl
theorem Qm9 {n:Nat}:List.replicate (Int.toNat (n:Int)) (0:Int)=Qo n fun _=>0:=by rw [aP]; exact V8 n 0
section
variable {D:NF} {S E:Nat -> Int}
theorem Qwy (V:VN D) {m:Nat} (hm:m < 18446744073709551616) (hS:Yf D S) (hE:Yf D E) :
  ∃w',Qdj (Jv D.net (m:Int) (Qb D.n S) (Qb D.n E)) fuel (0,0,Qo D.n fun _=>0)=some (SW D (Xm S E) (fS D m),Qo D.n w'):=by
 have hw:=V.worlds
 have hn8:=V.n8
 obtain ⟨w',_,_,h⟩:=Qnu V (K:=KE (Xm S E)) (leaf:=fun (t:Int) w=>t+fS D m w) (fun t w w' h=>by show t+_=t+_; rw [Qdm V w w' h])
  (I:=fun m t=>BD m t) (fun _ _ _ h hp=>h.mono hp) (fun _ _ w h hw=>h.add (Qht V w hw)) (fun i t l=>((i,t,l):Int × Int × List Int)) (fun t l=>((t,l):Int × List Int))
  (F:=Jv D.net (m:Int) (Qb D.n S) (Qb D.n E)) (B:=fun r i t w=>Jt (D.node i) (Qb D.n S) (Qb D.n E) ((i:Int),t,Qo D.n w) r)
  (fun r p t w hw hI hp=>by
   unfold Jv
   simp only
   rw [aH (by rw [Kp]; simp),V.aweigh hm hw,aC,w64 ((hI.add (Qht V w hw)).fit hp)])
  (fun r i t w z hi hw hz=>by
   unfold Jv
   simp only
   rw [aI (by rw [Kp]; simp; omega),V.node hi,aC,hz,aC])
  (fun r i t0 w0 x t w z w' hi hw hx hk hr=>by
   have hc:=(V.card i hi).2
   unfold Jt
   simp only
   rw [aH (by simp [NF.node]; omega),Qk5 hS hE hi (by omega) rfl rfl,aH hk,aC]
   simp only
   rw [Zn hi,aC,aP,Qap,V4 (by omega),hr,aC,V4 (by omega)])
  (fun r i t0 w0 x t w hi hw hx hk=>by
   have hc:=(V.card i hi).2
   unfold Jt
   simp only
   rw [aH (by simp [NF.node]; omega),Qk5 hS hE hi (by omega) rfl rfl,aI (by simp [hk]),aC]
   simp only
   rw [V4 (by omega)])
  (fun r i t0 w0 t w hi hw=>by
   unfold Jt
   simp only
   rw [aI (by simp [NF.node])])
  D.n fuel (by unfold fuel; omega) 0 0 (fun _=>0) 0 (by omega) (fun v hv=>(V.card v hv).1) BD.zero (by rw [Qxs]; omega)
 have hr:=Qjl (D:=D) (E:=Xm S E) (leaf:=fun (t:Int) w=>t+fS D m w) (p:=fun t=>t) (f:=fS D m) (fun _ _=>rfl) D.n 0 (fun _=>0) 0
 simp only [Int.zero_add] at hr
 rw [hr] at h
 exact ⟨w',h⟩
theorem Qlo {f:(Nat -> Nat)->Int} {K:Nat -> Int} (hf:∀w,0<=f w):∀(d i:Nat) (w:Nat -> Nat),0<=TM D K f d i w
 | 0,i,w=>hf w
 | d+1,i,w=>Y8 fun x _=>by
  split
  ·exact Qlo hf d (i+1) _
  exact Int.le_refl _
theorem Jo (V:VN D) {m:Nat} {K:Nat -> Int}:0<=SW D K (fS D m)/\(SW D K (fS D m)).natAbs<=MX:=by
 have h1:0<=SW D K (fS D m):=Qlo (fun w=>Qqz V) _ _ _
 have h2:=Q23 V (m:=1024) (E:=K) V.worlds (Qht V (m:=m))
 unfold BD KK at h2
 refine ⟨h1,?_⟩
 unfold MX; omega
theorem Qpl (V:VN D) {m:Nat}:((D.wh m D.n:Nat):Int)≠0/\((D.wh m D.n:Nat):Int).natAbs<=MX:=by
 have h1:=V.wh_pos (m:=m) (aY _)
 have h2:=V.wh_le (m:=m) (aY _)
 constructor
 ·omega
 unfold MX; omega
theorem Qtz (X:VX D) (ls:List (Nat -> Int)) (hl:ls.length<=2) (h:∀S∈ls,Yf D S):V0 D.net (ls.map (Qb D.n))=some 0:=by
 obtain ⟨order,hr⟩:=Qi0 X
 have hr2:=Z7 (n:=ls.length) (k0:=0) (by omega) (by omega) (fun i (_:Unit)=>i) (body:=Qav (ls.map (Qb D.n)) D.net) (fun _=>()) (.inr ())
  (fun k _ hk=>by
   unfold Qav
   rw [aH (by rw [bU]; exact dlt hk),Xo (by rw [bU]; exact hk),aC]
   have hc:Z0 D.net (Qb D.n ls[k])=some 0:=by
    rcases Qvv X (Qb D.n ls[k]) with ⟨_,c⟩ | ⟨c,_⟩
    ·exact c
    refine absurd ⟨Qm,fun j hj=>?_⟩ c
    unfold evJ
    have e:((Qb D.n ls[k])[j]?).getD 0=ls[k] j:=by unfold Qb; rw [bC,List.getElem?_range hj]; rfl
    rw [e]; exact h _ (bH hk) j hj
   rw [List.getElem_map,hc,aC,aI (by decide)])
  (by unfold Qav; rw [aI (by rw [bU]; exact nlt _)])
 unfold V0 K6
 rw [hr]
 simp only [aC]
 rw [aI (by simp),show ((0:Int))=((0:Nat):Int) from rfl,hr2]; rfl
theorem Qz6 (X:VX D) (hS:Yf D S) (hE:Yf D E):Kj D.net (Qb D.n S) (Qb D.n E)=some (qI (sumSE D S E) (D.wh (actS D.n S) D.n:Int),0):=by
 have V:=X.vn
 have hn8:=V.n8
 have hm:=Qp0 (S:=S) hn8
 obtain ⟨w',hr⟩:=Qwy V hm hS hE
 have hlen:D.net.Nodes.length=D.n:=Qm
 have hc:=Qtz X [S,E] (by simp) (by simp [hS,hE])
 obtain ⟨h1,h2⟩:=Jo V (m:=actS D.n S) (K:=Xm S E)
 obtain ⟨h3,h4⟩:=Qpl V (m:=actS D.n S)
 unfold Kj
 rw [show ([Qb D.n S,Qb D.n E]:List (List Int))=[S,E].map (Qb D.n) from rfl,hc,aC,aI (by decide),Qtn hn8,aC,hlen,aH (by omega),Qm9,hr]
 simp only [aC]
 rw [V.awhole hm,aC,Qm1 h2 h4 h3,aC]
 rfl
end
end Go.Ab
