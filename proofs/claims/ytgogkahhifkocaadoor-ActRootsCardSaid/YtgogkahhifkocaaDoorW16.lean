/- Functions. No conditions. -/
import Derived.Test.YtgogkahhifkocaaDoorW15
import Derived.Test.YtgogkahhifkocaaDoorEng7
import Derived.Test.YtgogkahhifkocaaDoorW11
import Derived.KernelRfl
set_option maxRecDepth 100000
set_option maxHeartbeats 400000
set_option linter.all false
namespace Go.Ab
open Go
def Qb {α:Type} (n:Nat) (F:Nat -> α):List α:=(List.range n).map F
theorem Qn {α:Type} {n:Nat} {F:Nat -> α}:(Qb n F).length=n:=by simp [Qb]
theorem Qv {α:Type} {n:Nat} {F:Nat -> α} {k:Nat} (h:k < n):lkI (Qb n F) (k:Int)=some (F k):=by
 rw [Y4 (by rw [Qn]; exact h)]; simp [Qb]
theorem Qf {α:Type} {n:Nat} {F G:Nat -> α} (h:∀k,k < n->F k=G k):Qb n F=Qb n G:=by
 unfold Qb
 apply List.map_congr_left
 intro t ht
 exact h t (by simpa using ht)
theorem Z9 {α:Type} {n:Nat} {F:Nat -> α} {k:Nat} {x:α}:(Qb n F).set k x=Qb n (fun s=>if s=k then x else F s):=by
 apply List.ext_getElem?
 intro s
 rw [List.getElem?_set]
 simp only [Qb,bD,bW,List.length_range]
 by_cases e:k=s
 ·subst e
  rw [aH rfl]
  by_cases hk:k < n
  ·rw [aH hk,List.getElem?_range hk]; simp
  rw [aI hk,dL (by simpa using hk)]; rfl
 rw [aI e]
 by_cases hs:s < n
 ·rw [List.getElem?_range hs]; simp only [bK]; rw [aI (Ne.symm e)]
 rw [dL (by simpa using hs)]; rfl
theorem J4 {α:Type} (n:Nat) (x:α):List.replicate n x=Qb n (fun _=>x):=by
 apply List.ext_getElem?
 intro s
 rw [cK]
 by_cases hs:s < n
 ·rw [aH hs]; simp [Qb,List.getElem?_range hs]
 rw [aI hs,dL (by rw [Qn]; omega)]
theorem Qli {α:Type} {n:Nat} {F:Nat -> α}:Qb n F++[F n]=Qb (n+1) F:=by
 unfold Qb; rw [List.range_succ]; simp
def updF {α:Type} (w:Nat -> α) (i:Nat) (x:α):Nat -> α:=fun s=>if s=i then x else w s
theorem Q9 {α:Type} {w:Nat -> α} {i:Nat} {x:α}:updF w i x i=x:=by simp [updF]
theorem Zz {α:Type} {w:Nat -> α} {i j:Nat} {x:α} (h:j≠i):updF w i x j=w j:=by simp [updF,h]
def Qi:Nat -> (Nat -> Int)->Int
 | 0,_=>0
 | n+1,f=>Qi n f+f n
theorem Q7 {n:Nat} {f g:Nat -> Int} (h:∀k,k < n->f k=g k):Qi n f=Qi n g:=by
 induction n with
 | zero=>rfl
 | succ n ih=>simp only [Qi]; rw [ih (fun k hk=>h k (by omega)),h n (by omega)]
theorem Qs6 {n:Nat} {f g:Nat -> Int}:Qi n (fun k=>f k+g k)=Qi n f+Qi n g:=by
 induction n with
 | zero=>rfl
 | succ n ih=>simp only [Qi,ih]; omega
theorem Ki {n:Nat}:Qi n (fun _=>0)=0:=by
 induction n with
 | zero=>rfl
 | succ n ih=>simp only [Qi,ih]; rfl
theorem Vh {n:Nat} {f:Nat -> Int} (h:∀k,k < n->0<=f k):0<=Qi n f:=by
 induction n with
 | zero=>exact Int.le_refl 0
 | succ n ih=>simp only [Qi]; have:=ih (fun k hk=>h k (by omega)); have:=h n (by omega); omega
theorem Q2l {n k:Nat} {c:Int} (h:k < n):Qi n (fun x=>if k=x then c else 0)=c:=by
 induction n with
 | zero=>omega
 | succ n ih =>
  simp only [Qi]
  by_cases e:k=n
  ·subst e
   rw [aH rfl,Q7 (g:=fun _=>0) (fun x hx=>aI (by omega)),Ki]; omega
  rw [aI e,ih (by omega)]; omega
theorem Qjw {a b:Nat} {f:Nat -> Int}:Qi (a+b) f=Qi a f+Qi b (fun k=>f (a+k)):=by
 induction b with
 | zero=>simp [Qi]
 | succ b ih=>rw [<-cH]; simp only [Qi,ih]; omega
def Qp:Nat -> (Nat -> Nat)->Nat
 | 0,_=>1
 | n+1,f=>Qp n f*f n
theorem Qk0 {n K:Nat} {f:Nat -> Nat} (h:∀k,k < n->f k<=K):Qp n f<=K^n:=by
 induction n with
 | zero=>simp [Qp]
 | succ n ih=>simp only [Qp,Nat.pow_succ]; exact Nat.mul_le_mul (ih fun k hk=>h k (by omega)) (h n (by omega))
structure NF where
 n:Nat
 g:Nat
 card:Nat -> Nat
 par:Nat -> List Nat
 W:Nat -> Nat -> Nat -> Nat
def lprod (f:Nat -> Nat) (l:List Nat):Nat := l.foldl (fun r p=>r*f p) 1
def NF.rows (D:NF) (v:Nat):Nat := lprod D.card (D.par v)
def NF.node (D:NF) (v:Nat):Ad:=⟨D.card v,(D.par v).map (fun (p:Nat)=>(p:Int)),Qb (D.rows v) fun r=>Qb (D.card v) fun x=>(D.W v r x:Int)⟩
def NF.net (D:NF):Qd:=⟨D.g,Qb D.n D.node⟩
def Qk (n:Nat) (w:Nat -> Nat):List Int:=Qb n fun j=>(w j:Int)
theorem Zp {n k:Nat} {w:Nat -> Nat} (h:k < n):lkI (Qk n w) (k:Int)=some (w k:Int):=Qv h
theorem Yt {n:Nat} {w:Nat -> Nat}:(Qk n w).length=n:=Qn
structure VN (D:NF):Prop where
 n1:1<=D.n
 n8:D.n<=8
 g1:1<=D.g
 g60:D.g<=60
 card:∀v,v < D.n->1<=D.card v/\D.card v<=4
 par:∀v,v < D.n->∀p∈D.par v,p < D.n
 len:∀v,v < D.n->(D.par v).length<=8
 W:∀v r x,v < D.n->r < D.rows v->x < D.card v->D.W v r x<=D.g
 worlds:Qp D.n D.card<=1024
theorem Qc4 {f:Nat -> Nat} {l:List Nat} {p:Nat}:lprod f (l++[p])=lprod f l*f p:=by simp [lprod]
theorem Qgv {f:Nat -> Nat} {l:List Nat} (h:∀p∈l,f p<=4):lprod f l<=4^l.length:=by
 have key:∀(l:List Nat) (R K:Nat),R<=K->(∀p∈l,f p<=4)->l.foldl (fun r p=>r*f p) R<=K*4^l.length:=by
  intro l
  induction l with
  | nil=>intro R K h _; simpa using h
  | cons p l ih =>
   intro R K hr hp
   simp only [List.foldl_cons,dG,Nat.pow_succ]
   have:=ih (R*f p) (K*4) (Nat.mul_le_mul hr (hp p (by simp))) (fun q hq=>hp q (cL _ hq))
   rwa [Nat.mul_assoc,cJ 4] at this
 have:=key l 1 1 (by omega) h
 simpa [lprod] using this
section
variable {D:NF} (V:VN D) {w:Nat -> Nat}
include V
theorem VN.rows_le {v:Nat} (hv:v < D.n):D.rows v<=65536:=by
 refine bV (Qgv fun p hp=>(V.card p (V.par v hv p hp)).2) ?_
 exact aU (by omega) (V.len v hv)
omit V in
theorem Jp {α:Type} {l:List α} {k:Nat} (h:k < l.length):l.take (k+1)=l.take k++[l[k]]:=by rw [List.take_add_one,aG h]; rfl
theorem VN.node {v:Nat} (hv:v < D.n):lkI D.net.Nodes (v:Int)=some (D.node v):=Qv hv
end
theorem Qmr {a k:Nat} (ha:a < 18446744073709551616) (hk:k < 64) :
  zv (zb (a:Int) ||| zb (zv (1*2^min (Int.toNat (k:Int)) zk))).toNat = ((a ||| 2^k:Nat):Int):=by
 have hb:zk=64:=rfl
 have e0:min (Int.toNat (k:Int)) zk=k:=by rw [hb,aQ]; omega
 have hp:2^k < 18446744073709551616:=by
  have:2^k < 2^64:=eM (by omega) hk
  exact this
 rw [e0,show (1:Int)*2^k=((2^k:Nat):Int) by simp,Qco hp]
 have e1:(zb (a:Int) ||| zb ((2^k:Nat):Int)).toNat = a ||| 2^k:=by
  rw [BitVec.toNat_or,Qda ha,Qda hp]
 rw [e1,Qco]
 exact dX (n:=64) ha hp
theorem or_lt {a k:Nat} (ha:a < 18446744073709551616) (hk:k < 64):a ||| 2^k < 18446744073709551616 :=
 dX (n:=64) ha (eM (by omega) hk)
theorem Q6c {a k j:Nat}:(a ||| 2^k).testBit j=(a.testBit j || decide (k=j)):=by
 rw [bF,dA]
theorem Q2u {a b:Nat} (ha:a < 18446744073709551616) (hb:b < 18446744073709551616) :
  (zv (zb (a:Int) &&& ~~~ zb (b:Int)).toNat == 0)=true↔∀j,a.testBit j=true->b.testBit j=true:=by
 have h1:(zb (a:Int) &&& ~~~ zb (b:Int)).toNat < 18446744073709551616:=BitVec.isLt _
 rw [Qco h1]
 generalize hx:zb (a:Int) &&& ~~~ zb (b:Int)=x
 have hbit:∀j,j < 64->x.getLsbD j=(a.testBit j && !(b.testBit j)):=fun j hj=>by
  rw [<-hx,BitVec.getLsbD_and,BitVec.getLsbD_not]
  have:zk=64:=rfl
  have e1:(zb (a:Int)).getLsbD j=a.testBit j:=by unfold BitVec.getLsbD; rw [Qda ha]
  have e2:(zb (b:Int)).getLsbD j=b.testBit j:=by unfold BitVec.getLsbD; rw [Qda hb]
  rw [e1,e2]
  simp [this,hj]
 constructor
 ·intro h j hj
  have hx0:x.toNat = 0:=by simpa using h
  have h64:j < 64:=by
   rcases bA j 64 with h' | h'
   ·exact h'
   have:=Nat.testBit_lt_two_pow (i:=j) (x:=a) (bM ha (aU (n:=2) (by omega) h'))
   rw [this] at hj; cases hj
  have h2:=hbit j h64
  have h3:x.getLsbD j=false:=by unfold BitVec.getLsbD; rw [hx0]; simp
  rw [h3,hj] at h2
  simpa using h2
 ·intro h
  have:x=0#_:=by
   apply BitVec.eq_of_getLsbD_eq
   intro j hj
   have hj':j < 64:=hj
   rw [hbit j hj']
   cases ha':a.testBit j with
   | false=>simp
   | true=>rw [h j ha']; simp
  rw [this]; rfl
def KK:Int:=167961600000000
def BD (m:Nat) (z:Int):Prop:=-((m:Int)*KK)<=z/\z<=(m:Int)*KK
theorem BD.add {m p:Nat} {a b:Int} (h:BD m a) (k:BD p b):BD (m+p) (a+b):=by
 unfold BD at *
 rw [Int.natCast_add,Int.add_mul]; omega
theorem BD.zero {m:Nat}:BD m 0:=by unfold BD KK; omega
theorem BD.sum {n p:Nat} {f:Nat -> Int} (h:∀k,k < n->BD p (f k)):BD (n*p) (Qi n f):=by
 induction n with
 | zero=>exact BD.zero
 | succ n ih=>simp only [Qi]; rw [dS]; exact (ih fun k hk=>h k (by omega)).add (h n (by omega))
section
variable {D:NF} {E:Nat -> Int}
theorem Xb {α β:Type} {o:Option α} {a:α} {k:α->Option β} {r:Option β} (h:o=some a) (h2:k a=r):o.bind k=r:=by rw [h]; exact h2
theorem Q7y {n:Nat} {f:Nat -> Nat} {l:List Nat} (hl:∀p∈l,p < n) (h8:l.length<=8):Qfv (Qk n f) (l.map fun (p:Nat)=>(p:Int))=some (l.map fun p=>(f p:Int)):=by
 unfold Qfv
 refine Xb (Xx (s0:=((0:Int),([]:List Int))) (r:=l.map fun p=>(f p:Int)) (fun k=>((k:Int),(l.take k).map fun p=>(f p:Int))) l.length (by simp) (fun k hk=>?_) ?_ (by omega)) rfl
 ·unfold Qe0
  simp only
  rw [aH (by simpa using hk),Y4 (by simpa using hk)]
  simp only [aC,List.getElem_map]
  rw [Zp (hl _ (bJ hk))]
  simp only [aC]
  rw [aH (by simp [cR]; omega),w64 (by omega),Jp hk]
  simp only [cV,dE,dF]
  rfl
 unfold Qe0
 simp only
 rw [aI (by simp),List.take_of_length_le (aZ _)]
end
structure VX (D:NF):Prop where
 vn:VN D
 sorted:∀v,v < D.n->(D.par v).Pairwise (· < ·)
 self:∀v,v < D.n->v ∉ D.par v
 rank:∃rk:Nat -> Nat,∀v,v < D.n->∀p∈D.par v,rk p < rk v
 sum:∀v r,v < D.n->r < D.rows v->Qi (D.card v) (fun x=>(D.W v r x:Int))=D.g
theorem Qhi:∀(a b:List Nat),a.Nodup->a ⊆ b->a.length<=b.length
 | [],_,_,_=>by simp
 | x::a,b,hn,hs=>by
  have hx:x∈b:=hs (by simp)
  rw [List.nodup_cons] at hn
  have h1:a ⊆ b.erase x:=fun y hy=>by
   have hne:y≠x:=fun e=>hn.1 (e ▸ hy)
   exact (List.mem_erase_of_ne hne).2 (hs (cL _ hy))
  have h2:=Qhi a (b.erase x) hn.2 h1
  have h3:=List.length_erase_of_mem hx
  have h4:0 < b.length:=List.length_pos_of_mem hx
  simp only [dG]
  omega
def bitsOf (l:List Nat) (a:Nat):Nat := l.foldl (fun a p=>a ||| 2^p) a
theorem Qdh {j:Nat}:∀(l:List Nat) (a:Nat),(bitsOf l a).testBit j=(a.testBit j || decide (j∈l))
 | [],a=>by simp [bitsOf]
 | p::l,a=>by
  have:=Qdh (j:=j) l (a ||| 2^p)
  unfold bitsOf at this ⊢
  simp only [List.foldl_cons]
  rw [this,Q6c]
  by_cases h:p=j
  ·subst h; simp
  have:j≠p:=Ne.symm h
  simp [h,this]
theorem Qhn:∀(l:List Nat) (a:Nat),a < 18446744073709551616->(∀p∈l,p < 64)->bitsOf l a < 18446744073709551616
 | [],a,h,_=>h
 | p::l,a,h,hl=>Qhn l (a ||| 2^p) (or_lt h (hl p (by simp))) fun q hq=>hl q (cL _ hq)
theorem Qkg {l:List Nat} {p a:Nat}:bitsOf (l++[p]) a=bitsOf l a ||| 2^p:=by simp [bitsOf]
section
variable {D:NF}
theorem Q1h (X:VX D) {v r k:Nat} (hv:v < D.n) (hr:r < D.rows v) (hk:k < D.card v):Qi k (fun x=>(D.W v r x:Int))+D.W v r k<=D.g:=by
 have h1:=X.sum v r hv hr
 have h2:Qi (D.card v) (fun x=>(D.W v r x:Int))=Qi (k+1) (fun x=>(D.W v r x:Int))+Qi (D.card v - (k+1)) (fun x=>(D.W v r (k+1+x):Int)):=by
  rw [<-Qjw,show k+1+(D.card v - (k+1))=D.card v by omega]
 have h3:0<=Qi (D.card v - (k+1)) (fun x=>(D.W v r (k+1+x):Int)):=Vh fun x _=>cY _
 simp only [Qi] at h2
 omega
theorem Qza (X:VX D) {v:Nat} (hv:v < D.n) {sets order:List Int}:Vz ⟨D.net,Qk D.n D.card,sets,order⟩ (D.node v)=some true:=by
 have V:=X.vn
 have hl:(D.node v).Parents.length=(D.par v).length:=by simp [NF.node]
 have hlen:=V.len v hv
 have hrl:(D.node v).Rows.length=D.rows v:=by simp [NF.node,Qn]
 have hrows:=V.rows_le hv
 have hcv:=V.card v hv
 unfold Vz
 refine Xb (Xx (s0:=((1:Int),(0:Int))) (r:=(D.rows v:Int)) (fun k=>((lprod D.card ((D.par v).take k):Int),(k:Int))) (D.par v).length (by simp [lprod]) (fun k hk=>?_) ?_ (by omega)) ?_
 ·have hp:=V.par v hv (D.par v)[k] (bJ hk)
  have b1:lprod D.card ((D.par v).take k)<=4^8:=bV (Qgv fun p hp=>(V.card p (V.par v hv p (bH hp))).2) (aU (by omega) (by rw [cR]; omega))
  have b2:lprod D.card ((D.par v).take k)*D.card (D.par v)[k]<=65536*4:=Nat.mul_le_mul (by omega) (V.card _ hp).2
  unfold Jh
  simp only
  rw [aH (by rw [hl]; simpa using hk),Y4 (by rw [hl]; exact hk)]
  have e0:(D.node v).Parents[k]'(by rw [hl]; exact hk)=(((D.par v)[k]:Nat):Int):=by simp [NF.node]
  simp only [aC,e0]
  rw [Zp hp]
  simp only [aC]
  have e1:(lprod D.card ((D.par v).take k):Int)*(D.card (D.par v)[k]:Int)=((lprod D.card ((D.par v).take (k+1)):Nat):Int):=by rw [Jp hk,Qc4]; simp
  have e2:lprod D.card ((D.par v).take (k+1))<=65536*4:=by rw [Jp hk,Qc4]; exact b2
  rw [e1,w64 (by omega),w64 (by omega)]
  rfl
 ·unfold Jh
  simp only
  rw [aI (by rw [hl]; simp),List.take_of_length_le (aZ _)]
  rfl
 rw [aI (by rw [hrl]; simp)]
 refine Xb (Xx (s0:=(0:Int)) (r:=Sum.inr ()) (fun r=>(r:Int)) (D.rows v) rfl (fun r hr=>?_) ?_ (by omega)) rfl
 ·unfold Jf
  simp only
  rw [aH (by rw [hrl]; simpa using hr),show lkI (D.node v).Rows (r:Int)=some (Qb (D.card v) fun x=>(D.W v r x:Int)) from Qv hr]
  simp only [aC]
  have hin:Qc fuel (Y5 (Qb (D.card v) fun x=>(D.W v r x:Int))) ((D.g:Int),(0:Int))=some (Sum.inr 0):=by
   refine Xx (fun k=>((D.g:Int) - Qi k (fun x=>(D.W v r x:Int)),(k:Int))) (D.card v) _ (by simp [Qi]) (fun k hk=>?_) ?_ (by omega)
   ·have h1:=Q1h X hv hr hk
    have h2:0<=Qi k (fun x=>(D.W v r x:Int)):=Vh fun x _=>cY _
    have hg:=V.g60
    unfold Y5
    simp only
    rw [aH (by rw [Qn]; simpa using hk),Qv hk]
    simp only [aC]
    rw [aI (by simp),aI (by simp; omega),w64 (by omega),w64 (by omega)]
    simp only [Qi]
    congr 3
    omega
   unfold Y5
   simp only
   rw [aI (by rw [Qn]; simp),X.sum v r hv hr,Int.sub_self]
  rw [show (D.net.Grain:Int)=(D.g:Int) from rfl,hin]
  simp only [aC]
  rw [aI (by rw [Qn]; simp [NF.node]),aI (by simp),w64 (by omega)]
  rfl
 unfold Jf
 simp only
 rw [aI (by rw [hrl]; simp)]
def setN (D:NF) (v:Nat):Nat := bitsOf (D.par v) 0
theorem Qp9 (V:VN D) {v:Nat} (hv:v < D.n):setN D v < 18446744073709551616:=Qhn _ _ (by omega) fun p hp=>by have:=V.par v hv p hp; have:=V.n8; omega
theorem Qnz {v j:Nat}:(setN D v).testBit j=decide (j∈D.par v):=by unfold setN; rw [Qdh]; simp
theorem Qz3 (X:VX D):∃order,Qc2 (Qk D.n (setN D))=some (order,true):=by
 have V:=X.vn
 have hn:=V.n8
 obtain ⟨rk,hrk⟩:=X.rank
 have hlen:(Qk D.n (setN D)).length=D.n:=Yt
 let I:Int × List Int->Prop:=fun s=>∃(l:List Nat),l.Nodup/\(∀p∈l,p < D.n)/\s=((bitsOf l 0:Int),l.map fun (p:Nat)=>(p:Int))
 have hw:=V2 (body:=K9 (Qk D.n (setN D))) I (fun s=>D.n - s.2.length) (fun r=>∃o,r=Sum.inr o) (fun s hs=>?_) ((0:Int),List.replicate (Int.toNat 0) (0:Int)) ⟨[],List.nodup_nil,fun p hp=>by simp at hp,rfl⟩ (by simp; omega)
 ·obtain ⟨r,h1,o,rfl⟩:=hw
  refine ⟨o,?_⟩
  unfold Qc2
  rw [aH (by rw [hlen]; omega),h1]
  rfl
 obtain ⟨l,hnd,hl,rfl⟩:=hs
 have hll:l.length<=D.n:=by
  have h1:l ⊆ List.range D.n:=fun p hp=>cO.2 (hl p hp)
  have:=Qhi l (List.range D.n) hnd h1
  simpa using this
 have hdl:bitsOf l 0 < 18446744073709551616:=Qhn _ _ (by omega) fun p hp=>by have:=hl p hp; omega
 by_cases hc:l.length < D.n
 ·
  have hex:∃v,v < D.n/\v ∉ l:=by
   apply Classical.byContradiction
   intro hno
   have h1:List.range D.n ⊆ l:=fun p hp=>by
    apply Classical.byContradiction
    intro hp'
    exact hno ⟨p,cO.1 hp,hp'⟩
   have:=Qhi (List.range D.n) l List.nodup_range h1
   simp at this
   omega
  have hmin:∃v,v < D.n/\v ∉ l/\∀u,u < D.n->u ∉ l->rk v<=rk u:=by
   obtain ⟨v0,h1,h2⟩:=hex
   have:∀(k:Nat) (v:Nat),rk v<=k->v < D.n->v ∉ l->∃v,v < D.n/\v ∉ l/\∀u,u < D.n->u ∉ l->rk v<=rk u:=by
    intro k
    induction k with
    | zero=>intro v hk h1 h2; exact ⟨v,h1,h2,fun u _ _=>by omega⟩
    | succ k ih =>
     intro v hk h1 h2
     by_cases hall:∀u,u < D.n->u ∉ l->rk v<=rk u
     ·exact ⟨v,h1,h2,hall⟩
     ·have:∃u,u < D.n/\u ∉ l/\rk u < rk v:=by
       apply Classical.byContradiction
       intro hno
       exact hall fun u hu hul=>by
        apply Classical.byContradiction
        intro hlt
        exact hno ⟨u,hu,hul,by omega⟩
      obtain ⟨u,hu,hul,hlt⟩:=this
      exact ih u (by omega) hu hul
   exact this (rk v0) v0 (aZ _) h1 h2
  obtain ⟨v1,hv1,hv1l,hv1m⟩:=hmin
  have hready:∀p∈D.par v1,p∈l:=fun p hp=>by
   apply Classical.byContradiction
   intro hpl
   have h1:=hv1m p (V.par v1 hv1 p hp) hpl
   have h2:=hrk v1 hv1 p hp
   omega
  left
  have hs2:=V2 (body:=Qc9 (Qk D.n (setN D)) ((bitsOf l 0:Int),l.map fun (p:Nat)=>(p:Int))) (fun s=>∃k:Nat,k<=v1/\s=(k:Int)) (fun s=>D.n - s.toNat)
   (fun r=>∃v,v < D.n/\v ∉ l/\r=Sum.inl (((bitsOf l 0 ||| 2^v:Nat):Int),(l.map fun (p:Nat)=>(p:Int))++[(v:Int)])) (fun s hs=>?_) (0:Int) ⟨0,by omega,rfl⟩ (by simp; omega)
  ·obtain ⟨r,h1,v,hv,hvl,rfl⟩:=hs2
   refine ⟨(((bitsOf l 0 ||| 2^v:Nat):Int),(l.map fun (p:Nat)=>(p:Int))++[(v:Int)]),?_,⟨l++[v],?_,?_,?_⟩,by simp; omega⟩
   ·unfold K9
    simp only
    rw [aH (by rw [hlen]; simp; omega),h1]
    rfl
   ·rw [List.nodup_append]
    exact ⟨hnd,by simp,fun a ha b hb=>by simp at hb; subst hb; exact fun e=>hvl (e ▸ ha)⟩
   ·intro p hp
    rcases bT.1 hp with h | h
    ·exact hl p h
    ·simp at h; subst h; exact hv
   ·rw [Qkg]; simp
  ·obtain ⟨k,hk,rfl⟩:=hs
   have hkn:k < D.n:=by omega
   have ek:zw ((k:Int)+1)=((k+1:Nat):Int):=by rw [w64 (by omega)]; omega
   have hbk:(bitsOf l 0).testBit k=decide (k∈l):=by rw [Qdh]; simp
   unfold Qc9
   simp only
   rw [aH (by rw [hlen]; simpa using hkn),Zp hkn]
   simp only [aC]
   rw [aH (by omega),Qxt hdl (by omega),hbk]
   by_cases hkl:k∈l
   ·left
    rw [aI (by simp [hkl]),ek]
    have hne:k≠v1:=fun e=>hv1l (e ▸ hkl)
    exact ⟨_,rfl,⟨k+1,by omega,rfl⟩,by simp; omega⟩
   ·rw [aH (by simp [hkl])]
    by_cases hsub:∀p∈D.par k,p∈l
    ·right
     rw [aH ((Q2u (Qp9 V hkn) hdl).2 fun j hj=>by
      rw [Qnz] at hj
      rw [Qdh]
      simp at hj ⊢
      exact hsub j hj),aH (by simp; omega),aH (by omega),Qmr hdl (by omega)]
     exact ⟨_,rfl,k,hkn,hkl,rfl⟩
    ·left
     have hne:k≠v1:=fun e=>by subst e; exact hsub hready
     rw [aI (fun hc'=>hsub fun p hp=>by
      have:=(Q2u (Qp9 V hkn) hdl).1 hc' p (by rw [Qnz]; simpa using hp)
      rw [Qdh] at this
      simpa using this),ek]
     exact ⟨_,rfl,⟨k+1,by omega,rfl⟩,by simp; omega⟩
 right
 refine ⟨Sum.inr (l.map fun (p:Nat)=>(p:Int)),?_,_,rfl⟩
 unfold K9
 simp only
 rw [aI (by rw [hlen]; simp; omega)]
theorem Qmv (X:VX D):∃order,Jq D.net=some (⟨D.net,Qk D.n D.card,Qk D.n (setN D),order⟩,0):=by
 have V:=X.vn
 have hn:=V.n8
 have hn1:=V.n1
 have hg:=V.g60
 have hg1:=V.g1
 have hlen:D.net.Nodes.length=D.n:=Qn
 have hG:D.net.Grain=(D.g:Int):=rfl
 obtain ⟨order,hord⟩:=Qz3 X
 refine ⟨order,?_⟩
 unfold Jq
 rw [hlen,hG,aI (by simp; omega),aI (by simp; omega),aI (by simp; omega),aI (by simp; omega),aH (by omega),aH (by omega),aQ,J4]
 have h0:Qc fuel (Qbo D.net) ((1:Int),(0:Int),Qb D.n fun _=>(0:Int))=some (Sum.inr ((Qp D.n D.card:Int),Qk D.n D.card)):=by
  refine Xx (fun k=>((Qp k D.card:Int),(k:Int),Qb D.n fun j=>if j < k then (D.card j:Int) else 0)) D.n _ (by simp [Qp]) (fun k hk=>?_) ?_ (by omega)
  ·have b1:Qp k D.card<=4^k:=Qk0 fun j hj=>(V.card j (by omega)).2
   have b2:(4:Nat)^k<=4^8:=aU (by omega) (by omega)
   have b3:Qp k D.card*D.card k<=65536*4:=Nat.mul_le_mul (by omega) (V.card k hk).2
   have hc:=V.card k hk
   have e1:(Qp k D.card:Int)*(D.node k).Card=((Qp (k+1) D.card:Nat):Int):=by simp [Qp,NF.node]
   unfold Qbo
   simp only
   rw [aH (by rw [hlen]; simpa using hk),V.node hk]
   simp only [aC]
   have hc1:¬ (decide ((D.node k).Card < 1)=true):=by rw [aN]; show ¬ ((D.card k:Int) < 1); omega
   have hc2:¬ (decide ((D.node k).Card > 4)=true):=by rw [aN]; show ¬ ((D.card k:Int) > 4); omega
   rw [aI hc1,aI hc2,Qv hk]
   simp only [aC]
   have w1:zw ((Qp (k+1) D.card:Nat):Int)=((Qp (k+1) D.card:Nat):Int):=w64 (by simp only [Qp]; omega)
   rw [e1,w1,w64 (by omega),aQ,Z9]
   congr 4
   refine Qf fun j hj=>?_
   by_cases e:j=k
   ·subst e; simp [NF.node]
   rw [aI e]
   by_cases e2:j < k
   ·rw [aH e2,aH (by omega)]
   rw [aI e2,aI (by omega)]
  unfold Qbo
  simp only
  rw [aI (by rw [hlen]; simp)]
  congr 4
  exact Qf fun j hj=>aH hj
 rw [h0]
 simp only [aC]
 have hwd:=V.worlds
 rw [aI (by simp; omega)]
 have h2:Qc fuel (Qbl D.net ((Qp D.n D.card:Int),Qk D.n D.card)) ((0:Int),Qb D.n fun _=>(0:Int))=some (Sum.inr (Qk D.n (setN D))):=by
  refine Xx (fun v=>((v:Int),Qb D.n fun j=>if j < v then (setN D j:Int) else 0)) D.n _ (by simp) (fun v hv=>?_) ?_ (by omega)
  ·have hl:(D.node v).Parents.length=(D.par v).length:=by simp [NF.node]
   have hplen:=V.len v hv
   have h1:Qc fuel (Qbi (D.node v) D.net ((v:Int),Qb D.n fun j=>if j < v then (setN D j:Int) else 0)) ((-1:Int),(0:Int),Qb D.n fun j=>if j < v then (setN D j:Int) else 0) =
     some (Sum.inr (Qb D.n fun j=>if j < v+1 then (setN D j:Int) else 0)):=by
    refine Xx (fun k=>((if k=0 then (-1:Int) else (((D.par v).getD (k - 1) 0:Nat):Int)),(k:Int),Qb D.n fun j=>if j < v then (setN D j:Int) else if j=v then (bitsOf ((D.par v).take k) 0:Int) else 0)) (D.par v).length _ ?_ (fun k hk=>?_) ?_ (by omega)
    ·simp only [eK,List.take_zero]
     congr 2
     refine Qf fun j _=>?_
     by_cases e:j < v
     ·rw [aH e,aH e]
     ·rw [aI e,aI e]; simp [bitsOf]
    ·have hp:=V.par v hv (D.par v)[k] (bJ hk)
     have hgt:(if k=0 then (-1:Int) else (((D.par v).getD (k - 1) 0:Nat):Int)) < (((D.par v)[k]:Nat):Int):=by
      by_cases h0:k=0
      ·rw [aH h0]; omega
      rw [aI h0]
      have hk1:k - 1 < (D.par v).length:=by omega
      have:=List.pairwise_iff_getElem.1 (X.sorted v hv) (k - 1) k hk1 hk (by omega)
      have e:(D.par v).getD (k - 1) 0=(D.par v)[k - 1]:=by simp [List.getD,hk1]
      rw [e]; omega
     have hself:(D.par v)[k]≠v:=fun e=>X.self v hv (by have:=bJ hk; rwa [e] at this)
     have hbl:bitsOf ((D.par v).take k) 0 < 18446744073709551616:=Qhn _ _ (by omega) fun p hp=>by have:=V.par v hv p (bH hp); omega
     unfold Qbi
     simp only
     rw [aH (by rw [hl]; simpa using hk),Y4 (by rw [hl]; exact hk)]
     have e0:(D.node v).Parents[k]'(by rw [hl]; exact hk)=(((D.par v)[k]:Nat):Int):=by simp [NF.node]
     simp only [aC,e0]
     rw [aI (by rw [aN]; exact Int.not_le.2 hgt),aI (by rw [hlen]; simp; omega),aI (by simp; omega),Qv hv]
     simp only [aC,dD,eJ,eK]
     rw [aH (by omega),Qmr hbl (by omega),w64 (by omega),aQ,Z9,Jp hk,Qkg]
     have e2:(D.par v).getD (k+1 - 1) 0=(D.par v)[k]:=by simp [List.getD,hk]
     rw [aI (by omega),e2]
     congr 4
     refine Qf fun j _=>?_
     by_cases e:j=v
     ·subst e; simp
     ·rw [aI e,aI e,aI e]
    ·unfold Qbi
     simp only
     rw [aI (by rw [hl]; simp),List.take_of_length_le (aZ _)]
     congr 3
     refine Qf fun j _=>?_
     by_cases e:j < v
     ·rw [aH e,aH (by omega)]
     ·rw [aI e]
      by_cases e2:j=v
      ·subst e2; rw [aH rfl,aH (by omega)]; rfl
      ·rw [aI e2,aI (by omega)]
   unfold Qbl
   simp only
   rw [aH (by rw [hlen]; simpa using hv),V.node hv]
   simp only [aC]
   rw [h1]
   simp only [aC]
   rw [Qza X hv]
   simp only [aC]
   rw [aI (by simp),w64 (by omega)]
   rfl
  unfold Qbl
  simp only
  rw [aI (by rw [hlen]; simp)]
  congr 3
  exact Qf fun j hj=>aH hj
 rw [h2]
 simp only [aC]
 rw [hord]
 rfl
end
theorem Qzv {n:Nat} {f:Nat -> Nat}:∃s:Nat,Qi n (fun x=>(f x:Int))=(s:Int):=by
 obtain ⟨s,hs⟩:=Int.eq_ofNat_of_zero_le (Vh (n:=n) (f:=fun x=>(f x:Int)) fun _ _=>cY _)
 exact ⟨s,hs⟩
theorem Qd7 {n k:Nat} {f:Nat -> Int} (h:∀j,j < n->0<=f j) (hk:k<=n):Qi k f<=Qi n f:=by
 obtain ⟨m,rfl⟩:=Nat.exists_eq_add_of_le hk
 rw [Qjw]
 have:=Vh (n:=m) (f:=fun x=>f (k+x)) fun j hj=>h _ (by omega)
 omega
theorem Qpn {g S:Nat} (hS:0 < S):∀(n:Nat) (o:Nat -> Nat),Qi n (fun x=>((g*o x / S:Nat):Int))*S<=g*Qi n (fun x=>(o x:Int))
 | 0,_=>by simp [Qi]
 | n+1,o=>by
  have ih:=Qpn (g:=g) hS n o
  have h1:g*o n / S*S<=g*o n:=Nat.div_mul_le_self _ _
  have h2:(((g*o n / S:Nat):Int))*(S:Int)<=(g:Int)*(o n:Int):=by exact_mod_cast h1
  simp only [Qi]
  rw [Int.add_mul,Int.mul_add]
  exact Int.add_le_add ih h2
theorem Q2r {g c:Nat} {l:List Int} {fr:Nat} (hg:g<=60) (hc:1<=c) (hc4:c<=4) (hl:∀x∈l,0<=x/\x<=255) (hll:l.length<=9223372036854775807) (hfr:fr<=100000) :
  ∃f:Nat -> Nat,Qbf (g:Int) (c:Int) l (fr:Int)=some (Qb c fun x=>(f x:Int))/\Qi c (fun x=>(f x:Int))=g:=by
 have hb0:∃o:Nat -> Nat,(∀j,o j < 8)/\Qc fuel (V5 (c:Int) l (fr:Int)) ((0:Int),(0:Int),Qb c fun _=>(0:Int))=some (Qi c (fun x=>(o x:Int)),Qb c fun x=>(o x:Int)):=by
  by_cases h0:l.length=0
  ·refine ⟨fun _=>0,fun _=>Nat.zero_lt_succ _,?_⟩
   have hz:∀k,Qi k (fun _=>((0:Nat):Int))=0:=fun k=>Ki
   refine Xx (fun k=>((0:Int),(k:Int),Qb c fun _=>(0:Int))) c _ rfl (fun k hk=>?_) ?_ (by omega)
   ·unfold V5
    simp only
    rw [aH (by simpa using hk),aI (by simp [h0]),Qv hk]
    simp only [aC]
    rw [w64 (by omega),w64 (by omega)]
    rfl
   unfold V5
   simp only
   rw [aI (by simp),hz]
   rfl
  have hpos:0 < l.length:=by omega
  let o:Nat -> Nat := fun k=>((l[(fr+k) % l.length]'(cF _ hpos)).toNat) % 8
  refine ⟨o,fun j=>cF _ (by omega),?_⟩
  refine Xx (fun k=>(Qi k (fun x=>(o x:Int)),(k:Int),Qb c fun j=>if j < k then (o j:Int) else 0)) c _ (by simp [Qi]) (fun k hk=>?_) ?_ (by omega)
  ·have hx:=hl _ (bJ (cF (fr+k) hpos))
   have ho:o k=((l[(fr+k) % l.length]'(cF _ hpos)).toNat) % 8:=rfl
   have hs:Qi k (fun x=>(o x:Int))<=8*k:=by
    have:∀k,Qi k (fun x=>(o x:Int))<=8*k:=by
     intro k
     induction k with
     | zero=>simp [Qi]
     | succ k ih=>simp only [Qi]; have:o k < 8:=cF _ (by omega); omega
    exact this k
   have hs0:0<=Qi k (fun x=>(o x:Int)):=Vh fun _ _=>cY _
   have e1:Int.tmod (zw ((fr:Int)+(k:Int))) (l.length:Int)=(((fr+k) % l.length:Nat):Int):=by
    rw [w64 (by omega),Kn (by omega)]; simp
   unfold V5
   simp only
   rw [aH (by simpa using hk),aH (by simp; omega),aH (by omega),e1,Y4 (cF _ hpos)]
   simp only [aC]
   rw [Qv hk]
   simp only [aC]
   have e2:Int.tmod (l[(fr+k) % l.length]'(cF _ hpos)) 8=(o k:Int):=by rw [Kn hx.1,ho]; omega
   have ho8:o k < 8:=cF _ (by omega)
   rw [e2]
   have w1:zw (o k:Int)=(o k:Int):=w64 (by omega)
   rw [w1,w64 (by omega),w64 (by omega),aQ,Z9]
   simp only [Qi]
   congr 4
   refine Qf fun j hj=>?_
   by_cases e:j=k
   ·subst e; simp
   rw [aI e]
   by_cases e2:j < k
   ·rw [aH e2,aH (by omega)]
   rw [aI e2,aI (by omega)]
  unfold V5
  simp only
  rw [aI (by simp)]
  congr 3
  exact Qf fun j hj=>aH hj
 obtain ⟨o,ho,h0⟩:=hb0
 obtain ⟨S,hS⟩:=Qzv (n:=c) (f:=o)
 let q:Nat -> Nat := fun x=>g*o x / S
 have hq:∀x,o x=0->q x=0:=fun x h=>by show g*o x / S=0; rw [h]; simp
 have hSb:S<=32:=by
  have:∀k,Qi k (fun x=>(o x:Int))<=8*k:=by
   intro k
   induction k with
   | zero=>simp [Qi]
   | succ k ih=>simp only [Qi]; have:=ho k; omega
  have:=this c
  omega
 have hpart:∀k,k<=c->0<=Qi k (fun x=>(q x:Int))/\Qi k (fun x=>(q x:Int))<=g:=fun k hk=>by
  refine ⟨Vh fun _ _=>cY _,Int.le_trans (Qd7 (fun _ _=>cY _) hk) ?_⟩
  by_cases h:S=0
  ·have:∀x,q x=0:=fun x=>by show g*o x / S=0; rw [h]; simp
   rw [Q7 (g:=fun _=>0) (fun x _=>by rw [this]; rfl),Ki]; omega
  have h1:=Qpn (g:=g) (S:=S) (by omega) c o
  rw [hS] at h1
  have h2:Qi c (fun x=>(q x:Int))*(S:Int)<=(g:Int)*(S:Int):=h1
  exact Int.le_of_mul_le_mul_right h2 (by omega)
 have hb1:=V2 (body:=Qdr (c:Int) (Qi c (fun x=>(o x:Int)),Qb c fun x=>(o x:Int)) (g:Int))
  (fun s=>∃k last:Nat,k<=c/\last < c/\s=((g:Int) - Qi k (fun x=>(q x:Int)),(last:Int),(k:Int),Qb c fun j=>if j < k then (q j:Int) else (o j:Int)))
  (fun s=>c - s.2.2.1.toNat)
  (fun r=>∃last:Nat,last < c/\r=((g:Int) - Qi c (fun x=>(q x:Int)),(last:Int),Qb c fun j=>(q j:Int)))
  (fun s hs=>?_) ((g:Int),(0:Int),(0:Int),Qb c fun x=>(o x:Int)) ⟨0,0,by omega,by omega,by simp [Qi]⟩ (by simp; omega)
 ·obtain ⟨r,h1,last,hlast,rfl⟩:=hb1
  have hp:=hpart c (aZ _)
  obtain ⟨left,hleft⟩:=Int.eq_ofNat_of_zero_le (show 0<=(g:Int) - Qi c (fun x=>(q x:Int)) by omega)
  refine ⟨fun x=>q x+if last=x then left else 0,?_,?_⟩
  ·unfold Qbf
   rw [aH (by omega),aQ,J4,h0]
   simp only [aC]
   rw [h1]
   simp only [aC]
   rw [Qv hlast]
   simp only [aC]
   have hql:(q last:Int)<=g:=by
    have e:=Qd7 (n:=c) (k:=last+1) (f:=fun x=>(q x:Int)) (fun _ _=>cY _) (by omega)
    have e2:=(hpart last (by omega)).1
    simp only [Qi] at e
    omega
   rw [hleft,w64 (by omega),aQ,Z9]
   congr 1
   refine Qf fun x hx=>?_
   by_cases e:x=last
   ·subst e; simp
   ·rw [aI e,aI (Ne.symm e)]; simp
  ·have e:(fun x=>((q x+if last=x then left else 0:Nat):Int))=fun x=>(q x:Int)+if last=x then (left:Int) else 0:=by
    funext x; split <;> simp
   rw [e,Qs6,Q2l hlast]
   have:(left:Int)=(g:Int) - Qi c (fun x=>(q x:Int)):=hleft.symm
   omega
 ·obtain ⟨k,last,hk,hlast,rfl⟩:=hs
  unfold Qdr
  simp only
  by_cases hkc:k < c
  ·left
   have hp1:=hpart k hk
   have hp2:=hpart (k+1) hkc
   have e1:Qi (k+1) (fun x=>(q x:Int))=Qi k (fun x=>(q x:Int))+(q k:Int):=rfl
   rw [aH (by simpa using hkc),Qv hkc]
   simp only [aC,dD,eJ]
   have ek:zw ((k:Int)+1)=((k+1:Nat):Int):=by rw [w64 (by omega)]; omega
   by_cases ho0:o k=0
   ·rw [aI (by simp [ho0]),ek,ho0,w64 (by omega)]
    refine ⟨_,rfl,⟨k+1,last,hkc,hlast,?_⟩,by simp; omega⟩
    rw [e1,hq k ho0]
    congr 1
    ·simp
    ·congr 2
     refine Qf fun j hj=>?_
     by_cases e:j=k
     ·subst e; simp [ho0,hq]
     ·by_cases e2:j < k
      ·rw [aH e2,aH (by omega)]
      ·rw [aI e2,aI (by omega)]
   ·have hSpos:S≠0:=by
     intro h
     have:=Qd7 (n:=c) (k:=k+1) (f:=fun x=>(o x:Int)) (fun _ _=>cY _) hkc
     have h2:0<=Qi k (fun x=>(o x:Int)):=Vh fun _ _=>cY _
     simp only [Qi] at this
     omega
    have hok:=ho k
    have hm:g*o k<=60*8:=Nat.mul_le_mul hg (by omega)
    have e2:zw (Int.tdiv (zw ((g:Int)*(o k:Int))) (Qi c (fun x=>(o x:Int))))=(q k:Int):=by
     have e3:(g:Int)*(o k:Int)=((g*o k:Nat):Int):=by simp
     have hd:g*o k / S<=g*o k:=Nat.div_le_self _ _
     have w1:zw ((g*o k:Nat):Int)=((g*o k:Nat):Int):=w64 (by omega)
     rw [e3,w1,hS,Qnv (cY _),show ((g*o k:Nat):Int) / (S:Int)=((g*o k / S:Nat):Int) by simp]
     show zw ((g*o k / S:Nat):Int)=((g*o k / S:Nat):Int)
     obtain ⟨z,hz⟩:∃z,g*o k / S=z:=⟨_,rfl⟩
     rw [hz] at hd ⊢
     exact w64 (by omega)
    rw [aH (by simp; omega),aH (by rw [hS]; omega),e2,ek,aQ,Z9,w64 (by omega)]
    refine ⟨_,rfl,⟨k+1,k,hkc,hkc,?_⟩,by simp; omega⟩
    rw [e1]
    congr 1
    ·omega
    ·congr 2
     refine Qf fun j hj=>?_
     by_cases e:j=k
     ·subst e; simp
     ·rw [aI e]
      by_cases e2:j < k
      ·rw [aH e2,aH (by omega)]
      ·rw [aI e2,aI (by omega)]
  ·right
   have:k=c:=by omega
   subst this
   rw [aI (by simp)]
   refine ⟨_,rfl,last,hlast,?_⟩
   congr 2
   exact Qf fun j hj=>aH hj
theorem Q4j {n:Nat} (hn:n<=5) {w:Int} {o:List Int}:Je ⟨List.replicate n (0:Int),w,o⟩=some (List.replicate n 1):=by
 unfold Je
 refine Xb (Xx (s0:=((0:Int),([]:List Int))) (r:=List.replicate n 1) (fun k=>((k:Int),List.replicate k (1:Int))) n rfl (fun k hk=>?_) ?_ (by omega)) rfl
 ·unfold Ka
  simp only
  rw [aH (by simp; omega),aH (by simp; omega),Y4 (by simpa using hk)]
  simp only [aC,List.getElem_replicate]
  have e:zw (1+zw (Int.tmod 0 4))=1:=by decide
  rw [e,aH (by simp; omega),w64 (by omega),<-List.replicate_succ']
  rfl
 unfold Ka
 simp only
 rw [aI (by simp)]
theorem Qs7 {q:List Nat} {k a:Nat} (h:q.Nodup) (hk:∀x∈q,x < k):(q.take a++[k]++q.drop a).Nodup/\∀x∈q.take a++[k]++q.drop a,x < k+1:=by
 have hperm:(q.take a++[k]++q.drop a).Perm (k::q):=by
  have h1:(q.take a++[k]++q.drop a).Perm ([k]++q.take a++q.drop a):=List.Perm.append_right _ List.perm_append_comm
  have h2:[k]++q.take a++q.drop a=k::q:=by simp
  rw [h2] at h1
  exact h1
 refine ⟨?_,fun x hx=>?_⟩
 ·rw [hperm.nodup_iff,List.nodup_cons]
  exact ⟨fun hm=>dD _ (hk k hm),h⟩
 have:=hperm.mem_iff.1 hx
 rcases cC.1 this with e | e
 ·omega
 have:=hk x e; omega
theorem Qx0 {n:Nat} (hn:n<=5) {o:List Int} (ho:∀x∈o,0<=x/\x<=255) :
  ∃q:List Nat,q.Nodup/\(∀x∈q,x < n)/\q.length=n/\Yo ⟨List.replicate n (0:Int),0,o⟩=some (q.map fun (x:Nat)=>(x:Int)):=by
 have hw:=V2 (body:=Ve ⟨List.replicate n (0:Int),0,o⟩) (fun s=>∃q:List Nat,q.Nodup/\(∀x∈q,x < q.length)/\q.length<=n/\s=((q.length:Int),q.map fun (x:Nat)=>(x:Int)))
  (fun s=>n - s.1.toNat) (fun r=>∃q:List Nat,q.Nodup/\(∀x∈q,x < n)/\q.length=n/\r=q.map fun (x:Nat)=>(x:Int)) (fun s hs=>?_) ((0:Int),([]:List Int)) ⟨[],List.nodup_nil,fun x hx=>by simp at hx,by simp,rfl⟩ (by simp; omega)
 ·obtain ⟨r,h1,q,h2,h3,h4,rfl⟩:=hw
  refine ⟨q,h2,h3,h4,?_⟩
  unfold Yo
  rw [h1]; rfl
 ·obtain ⟨q,hnd,hx,hl,rfl⟩:=hs
  unfold Ve
  rw [Q4j hn]
  simp only [aC,cE,bW]
  by_cases hc:q.length < n
  ·left
   rw [aH (by simpa using hc)]
   have ek:zw ((q.length:Int)+1)=((q.length+1:Nat):Int):=by rw [w64 (by omega)]; omega
   have ins:∀a:Nat,a<=q.length->∃s',s'=((((q.take a++[q.length]++q.drop a).length:Nat):Int),(q.take a++[q.length]++q.drop a).map fun (x:Nat)=>(x:Int)) /\
     (∃q:List Nat,q.Nodup/\(∀x∈q,x < q.length)/\q.length<=n/\s'=((q.length:Int),q.map fun (x:Nat)=>(x:Int)))/\n - s'.1.toNat < n - ((q.length:Int)).toNat := fun a ha=>by
    obtain ⟨i1,i2⟩:=Qs7 (a:=a) hnd hx
    have hlen:(q.take a++[q.length]++q.drop a).length=q.length+1:=by simp; omega
    exact ⟨_,rfl,⟨_,i1,fun x hx=>by rw [hlen]; exact i2 x hx,by rw [hlen]; omega,rfl⟩,by simp only [hlen]; simp; omega⟩
   have hsub:∀a:Nat,a<=q.length->sub (q.map fun (x:Nat)=>(x:Int)) 0 (a:Int)=(q.take a).map (fun (x:Nat)=>(x:Int))/\sub (q.map fun (x:Nat)=>(x:Int)) (a:Int) (q.length:Int)=(q.drop a).map (fun (x:Nat)=>(x:Int)):=fun a ha=>by
    unfold sub
    refine ⟨by simp,?_⟩
    simp only [aQ]
    rw [List.take_of_length_le (by simp),List.map_drop]
   by_cases ho':q.length < o.length
   ·rw [aH (by simpa using ho'),Y4 ho']
    simp only [aC]
    have hv:=ho _ (bJ ho')
    obtain ⟨a,ha,hae⟩:∃a:Nat,a<=q.length/\Int.tmod (zw o[q.length]) ((q.length+1:Nat):Int)=(a:Int):=by
     refine ⟨(o[q.length]).toNat % (q.length+1),by have:=cF (o[q.length]).toNat (show 0 < q.length+1 by omega); omega,?_⟩
     rw [w64 (by omega),Kn hv.1]
     rw [Int.natCast_emod,Int.toNat_of_nonneg hv.1]
    obtain ⟨s',hs',h1,h2⟩:=ins a ha
    refine ⟨s',?_,h1,by simpa using h2⟩
    rw [ek,aH (by omega),hae,aH (by omega),(hsub a ha).1,aH (by simp; omega),aH (by simp; omega),aH (by omega),(hsub a ha).2,aH (by simp; omega),hs']
    simp
    omega
   ·rw [aI (by simpa using ho')]
    obtain ⟨s',hs',h1,h2⟩:=ins 0 (by omega)
    refine ⟨s',?_,h1,by simpa using h2⟩
    have hz:=hsub 0 (by omega)
    rw [ek,aH (by omega),show sub (q.map fun (x:Nat)=>(x:Int)) 0 0=(q.take 0).map (fun (x:Nat)=>(x:Int)) from hz.1,aH (by simp),aH (by simp),aH (by omega),show sub (q.map fun (x:Nat)=>(x:Int)) 0 (q.length:Int)=(q.drop 0).map (fun (x:Nat)=>(x:Int)) from hz.2,aH (by simp; omega),hs']
    simp
  ·right
   rw [aI (by simpa using hc)]
   exact ⟨_,rfl,q,hnd,fun x hm=>by have:=hx x hm; omega,by omega,rfl⟩
theorem Qfx {x:Int}:0<=zv x:=by simp only [IntKind.wrap,IntKind.bits,IntKind.signed]; simp; omega
theorem Qnn {n:Nat} {q:List Nat} (hn:q.Nodup) (hl:∀x∈q,x < n) (hlen:q.length=n):∀v,v < n->v∈q:=fun v hv=>by
 apply Classical.byContradiction
 intro hno
 have h1:(v::q).Nodup:=List.nodup_cons.2 ⟨hno,hn⟩
 have h2:(v::q) ⊆ List.range n:=fun p hp=>by
  rcases cC.1 hp with e | e
  ·subst e; exact cO.2 hv
  exact cO.2 (hl p e)
 have:=Qhi _ _ h1 h2
 simp at this
 omega
theorem Qdw {q:List Nat} {i:Nat} (hi:i < q.length) {v:Nat}:v∈q.take (i+1)↔v∈q.take i\/v=q[i]:=by
 rw [Jp hi,bT,bU]
theorem Qno {q:List Nat} (hn:q.Nodup) {i:Nat} (hi:i < q.length):q[i] ∉ q.take i:=fun h=>by
 obtain ⟨k,hk,e⟩:=bB.1 h
 rw [cR] at hk
 rw [List.getElem_take] at e
 have:=List.pairwise_iff_getElem.1 hn k i (by omega) hi (by omega)
 exact this e
theorem Qs1:∀{q:List Nat} {p j:Nat},p∈q.take j->q.idxOf p < j
 | [],p,j,h=>by simp at h
 | x::q,p,0,h=>by simp at h
 | x::q,p,j+1,h=>by
  rw [List.idxOf_cons]
  by_cases e:x=p
  ·subst e; simp
  have:p∈q.take j:=by
   rcases cC.1 h with e' | e'
   ·exact absurd e'.symm e
   exact e'
  have:=Qs1 this
  rw [show (x==p)=false by simpa using e]
  simp; omega
theorem Q12 {q:List Nat} (hn:q.Nodup) {j:Nat} (hj:j < q.length):j<=q.idxOf q[j]:=by
 apply Classical.byContradiction
 intro h
 have hk:q.idxOf q[j] < q.length:=by omega
 have e:q[q.idxOf q[j]]=q[j]:=List.getElem_idxOf hk
 have:=List.pairwise_iff_getElem.1 hn (q.idxOf q[j]) j hk hj (by omega)
 exact this e
def dcnt (p0:Qe):Nat := min (max p0.Nodes.length 1) 5
theorem Qgi {p0:Qe}:(if 5 < (if 1 > (p0.Nodes.length:Int) then 1 else (p0.Nodes.length:Int)) then 5 else (if 1 > (p0.Nodes.length:Int) then 1 else (p0.Nodes.length:Int)))=(dcnt p0:Int):=by
 unfold dcnt
 split <;> split at * <;> omega
theorem Qid {p0:Qe}:1<=dcnt p0/\dcnt p0<=5:=by unfold dcnt; omega
structure Qx3 (p0:Qe):Prop where
 grain:0<=p0.Grain/\p0.Grain<=255
 order:∀x∈p0.Order,0<=x/\x<=255
 card:∀p∈p0.Nodes,0<=p.Card/\p.Card<=255
 W:∀p∈p0.Nodes,∀x∈p.W,0<=x/\x<=255
 Wl:∀p∈p0.Nodes,p.W.length<=9223372036854775807
section
variable {p0:Qe} {q:List Nat}
theorem Qnm {i:Nat} (hi:i < q.length):lkI (q.map fun (x:Nat)=>(x:Int)) (i:Int)=some ((q[i]:Nat):Int):=by rw [Y4 (by simpa using hi)]; simp
theorem Q5r (h:Qx3 p0) (hn:q.Nodup) (hl:∀x∈q,x < dcnt p0) (hlen:q.length=dcnt p0) :
  ∃C:Nat -> Nat,(∀v,v < dcnt p0->2<=C v/\C v<=3) /\
   Qc fuel (Yx p0 (q.map fun (x:Nat)=>(x:Int))) (1,0,List.replicate (dcnt p0) (Sum.inl 0))=some (Qb (dcnt p0) fun v=>Sum.inl (C v:Int)):=by
 have hcn:=Qid (p0:=p0)
 have hw:=V2 (body:=Yx p0 (q.map fun (x:Nat)=>(x:Int)))
  (fun s=>∃(w:Int) (i:Nat) (C:Nat -> Nat),i<=dcnt p0/\(∀v,v∈q.take i->2<=C v/\C v<=3)/\s=(w,(i:Int),Qb (dcnt p0) fun v=>Sum.inl (C v:Int)))
  (fun s=>dcnt p0 - s.2.1.toNat)
  (fun r=>∃C:Nat -> Nat,(∀v,v < dcnt p0->2<=C v/\C v<=3)/\r=Qb (dcnt p0) fun v=>Sum.inl (C v:Int))
  (fun s hs=>?_) (1,0,List.replicate (dcnt p0) (Sum.inl 0)) ⟨1,0,fun _=>0,by omega,fun v hv=>by simp at hv,by rw [J4]; rfl⟩ (by simp; omega)
 ·obtain ⟨r,h1,C,h2,rfl⟩:=hw
  exact ⟨C,h2,h1⟩
 ·obtain ⟨w,i,C,hi,hC,rfl⟩:=hs
  by_cases hic:i < dcnt p0
  ·left
   have hiq:i < q.length:=by omega
   have hv:=hl _ (bJ hiq)
   have ek:zw ((i:Int)+1)=((i+1:Nat):Int):=by rw [w64 (by omega)]; omega
   have leaf:∀(w':Int) (c:Nat),2<=c->c<=3->(∃s',some (Qh.next (w',zw ((i:Int)+1),List.set (Qb (dcnt p0) fun v=>(Sum.inl (C v:Int):Int ⊕ Ad)) (Int.toNat ((q[i]:Nat):Int)) (Sum.inl (c:Int))))=some (Qh.next (ρ:=List (Int ⊕ Ad)) s') /\
     (∃(w:Int) (i:Nat) (C:Nat -> Nat),i<=dcnt p0/\(∀v,v∈q.take i->2<=C v/\C v<=3)/\s'=(w,(i:Int),Qb (dcnt p0) fun v=>Sum.inl (C v:Int)))/\dcnt p0 - s'.2.1.toNat < dcnt p0 - (i:Int).toNat):=fun w' c c1 c2=>by
    rw [ek]
    refine ⟨_,rfl,⟨w',i+1,updF C q[i] c,hic,fun v hv=>?_,?_⟩,by simp; omega⟩
    ·rcases (Qdw hiq).1 hv with e | e
     ·by_cases e2:v=q[i]
      ·subst e2; rw [Q9]; exact ⟨c1,c2⟩
      ·rw [Zz e2]; exact hC v e
     ·subst e; rw [Q9]; exact ⟨c1,c2⟩
    ·rw [aQ,Z9]
     congr 2
     refine Qf fun k hk=>?_
     by_cases e:k=q[i]
     ·rw [aH e,e,Q9]
     ·rw [aI e,Zz e]
   have hk:lkL (Qb (dcnt p0) fun v=>(Sum.inl (C v:Int):Int ⊕ Ad)) ((q[i]:Nat):Int)=some (C q[i]:Int):=by unfold lkL; rw [Qv hv]; rfl
   unfold Yx
   simp only [Qgi]
   rw [aH (by simpa using hic)]
   by_cases hin:i < p0.Nodes.length
   ·have hp:=h.card _ (bJ hin)
    have ec:zw (2+zw (Int.tmod (p0.Nodes[i]).Card 2))=((2+(p0.Nodes[i]).Card.toNat % 2:Nat):Int):=by
     have w1:zw ((p0.Nodes[i]).Card % 2)=(p0.Nodes[i]).Card % 2:=w64 (by omega)
     rw [Kn hp.1,w1,w64 (by omega)]; omega
    rw [aH (by simpa using hin),Y4 hin]
    simp only [aC]
    rw [aH Qfx]
    split
    ·rw [Qnm hiq]
     simp only [aC]
     rw [hk]
     exact leaf _ 2 (by omega) (by omega)
    ·rw [Qnm hiq]
     simp only [aC]
     rw [hk]
     simp only [aC]
     rw [ec]
     exact leaf _ _ (by omega) (by omega)
   ·rw [aI (by simpa using hin),aH Qfx]
    split
    ·rw [Qnm hiq]
     simp only [aC]
     rw [hk]
     exact leaf _ 2 (by omega) (by omega)
    ·rw [Qnm hiq]
     simp only [aC]
     rw [hk]
     simp only [aC]
     exact leaf _ 2 (by omega) (by omega)
  ·right
   have:i=dcnt p0:=by omega
   subst this
   unfold Yx
   simp only [Qgi]
   rw [aI (by simp)]
   refine ⟨_,rfl,C,fun v hv=>hC v ?_,rfl⟩
   rw [List.take_of_length_le (by omega)]
   exact Qnn hn hl hlen v hv
theorem Q5d (hn:q.Nodup) {L:List (Int ⊕ Ad)} {i u:Nat} {P:List Nat} {pc:Q0} (hi:i < q.length) (hq:q.length<=5) :
  ∃P':List Nat,(P'=P\/(P'=P++[u]/\u∈q.take i/\P.length < 3)) /\
   Qc fuel (Yw ((i:Int),L) (q.map fun (x:Nat)=>(x:Int)) ((u:Int),P.map fun (x:Nat)=>(x:Int)) pc) (0,P.map fun (x:Nat)=>(x:Int))=some (P'.map fun (x:Nat)=>(x:Int)):=by
 have hw:=V2 (body:=Yw ((i:Int),L) (q.map fun (x:Nat)=>(x:Int)) ((u:Int),P.map fun (x:Nat)=>(x:Int)) pc)
  (fun s=>∃(k:Nat) (P':List Nat),k<=i/\(P'=P\/(P'=P++[u]/\u∈q.take k/\P.length < 3))/\s=((k:Int),P'.map fun (x:Nat)=>(x:Int)))
  (fun s=>i - s.1.toNat) (fun r=>∃P':List Nat,(P'=P\/(P'=P++[u]/\u∈q.take i/\P.length < 3))/\r=P'.map fun (x:Nat)=>(x:Int))
  (fun s hs=>?_) ((0:Int),P.map fun (x:Nat)=>(x:Int)) ⟨0,P,by omega,.inl rfl,rfl⟩ (by simp; omega)
 ·obtain ⟨r,h1,P',h2,rfl⟩:=hw
  exact ⟨P',h2,h1⟩
 ·obtain ⟨k,P',hk,hP,rfl⟩:=hs
  by_cases hki:k < i
  ·left
   have hkq:k < q.length:=by omega
   have ek:zw ((k:Int)+1)=((k+1:Nat):Int):=by rw [w64 (by omega)]; omega
   have same:∃s',some (Qh.next (zw ((k:Int)+1),P'.map fun (x:Nat)=>(x:Int)))=some (Qh.next (ρ:=List Int) s') /\
     (∃(k:Nat) (P':List Nat),k<=i/\(P'=P\/(P'=P++[u]/\u∈q.take k/\P.length < 3))/\s'=((k:Int),P'.map fun (x:Nat)=>(x:Int)))/\i - s'.1.toNat < i - (k:Int).toNat := by
    rw [ek]
    exact ⟨_,rfl,⟨k+1,P',hki,hP.imp id fun h=>⟨h.1,(Qdw hkq).2 (.inl h.2.1),h.2.2⟩,rfl⟩,by simp; omega⟩
   unfold Yw
   simp only
   rw [aH (by simpa using hki),Qnm hkq]
   simp only [aC]
   by_cases hqu:q[k]=u
   ·rw [aH (by simp [hqu]),aH Qfx]
    have hPP:P'=P:=by
     rcases hP with e | ⟨_,e,_⟩
     ·exact e
     exact absurd (hqu ▸ e) (Qno hn hkq)
    subst hPP
    split
    ·split
     ·rename_i h3
      have h3':P'.length < 3:=by simp at h3; omega
      rw [aH (by simp; omega),ek]
      exact ⟨_,rfl,⟨k+1,P'++[u],hki,.inr ⟨rfl,(Qdw hkq).2 (.inr hqu.symm),h3'⟩,by simp⟩,by simp; omega⟩
     ·exact same
    ·exact same
   ·rw [aI (by simpa using (fun e:((q[k]:Nat):Int)=(u:Int)=>hqu (by omega)))]
    exact same
  ·right
   have:k=i:=by omega
   subst this
   unfold Yw
   simp only
   rw [aI (by simp)]
   exact ⟨_,rfl,P',hP,rfl⟩
theorem Q7d (hn:q.Nodup) (hlen:q.length=dcnt p0) {L:List (Int ⊕ Ad)} {i:Nat} {pc:Q0} (hi:i < q.length) :
  ∃P:List Nat,P.Pairwise (· < ·)/\(∀p∈P,p∈q.take i)/\P.length<=3 /\
   Qc fuel (Xw p0 ((i:Int),L) (q.map fun (x:Nat)=>(x:Int)) pc) (0,[])=some (P.map fun (x:Nat)=>(x:Int)):=by
 have hcn:=Qid (p0:=p0)
 have hw:=V2 (body:=Xw p0 ((i:Int),L) (q.map fun (x:Nat)=>(x:Int)) pc)
  (fun s=>∃(u:Nat) (P:List Nat),u<=dcnt p0/\P.Pairwise (· < ·)/\(∀p∈P,p < u/\p∈q.take i)/\P.length<=3/\s=((u:Int),P.map fun (x:Nat)=>(x:Int)))
  (fun s=>dcnt p0 - s.1.toNat) (fun r=>∃P:List Nat,P.Pairwise (· < ·)/\(∀p∈P,p∈q.take i)/\P.length<=3/\r=P.map fun (x:Nat)=>(x:Int))
  (fun s hs=>?_) ((0:Int),([]:List Int)) ⟨0,[],by omega,List.Pairwise.nil,fun p hp=>by simp at hp,by simp,rfl⟩ (by simp; omega)
 ·obtain ⟨r,h1,P,h2,h3,h4,rfl⟩:=hw
  exact ⟨P,h2,h3,h4,h1⟩
 ·obtain ⟨u,P,hu,h2,h3,h4,rfl⟩:=hs
  unfold Xw
  simp only [Qgi]
  by_cases huc:u < dcnt p0
  ·left
   obtain ⟨P',hP',hb⟩:=Q5d hn (L:=L) (u:=u) (P:=P) (pc:=pc) hi (by omega)
   have ek:zw ((u:Int)+1)=((u+1:Nat):Int):=by rw [w64 (by omega)]; omega
   rw [aH (by simpa using huc),hb]
   simp only [aC]
   rw [ek]
   refine ⟨_,rfl,⟨u+1,P',huc,?_,?_,?_,rfl⟩,by simp; omega⟩
   ·rcases hP' with rfl | ⟨rfl,_,_⟩
    ·exact h2
    ·rw [List.pairwise_append]
     exact ⟨h2,List.pairwise_singleton _ _,fun a ha b hb=>by simp at hb; subst hb; exact (h3 a ha).1⟩
   ·rcases hP' with rfl | ⟨rfl,hm,_⟩
    ·exact fun p hp=>⟨by have:=(h3 p hp).1; omega,(h3 p hp).2⟩
    ·intro p hp
     rcases bT.1 hp with e | e
     ·exact ⟨by have:=(h3 p e).1; omega,(h3 p e).2⟩
     ·simp at e; subst e; exact ⟨by omega,hm⟩
   ·rcases hP' with rfl | ⟨rfl,_,hlt⟩
    ·exact h4
    ·simp; omega
  ·right
   rw [aI (by simpa using huc)]
   exact ⟨_,rfl,P,h2,fun p hp=>(h3 p hp).2,h4,rfl⟩
theorem Qyi {n:Nat} {g:Int} {F:Nat -> Ad} {C:Nat -> Nat} (hF:∀v,v < n->(F v).Card=(C v:Int)) (hn:n<=8):Qbt ⟨g,Qb n F⟩=some (Qk n C):=by
 unfold Qbt
 refine Xb (Xx (s0:=((0:Int),([]:List Int))) (r:=Qk n C) (fun k=>((k:Int),Qk k C)) n rfl (fun k hk=>?_) ?_ (by omega)) rfl
 ·unfold Qb2
  simp only
  rw [aH (by rw [Qn]; simpa using hk),Qv hk]
  simp only [aC]
  rw [hF k hk,show Qk k C++[(C k:Int)]=Qk (k+1) C from Qli,aH (by rw [Yt]; omega),w64 (by omega)]
  rfl
 unfold Qb2
 simp only
 rw [aI (by rw [Qn]; simp)]
theorem Q0k {f:Nat -> Nat} {l:List Nat} (hf:∀p∈l,f p<=4) (hl:l.length<=8):Qaj (l.map fun p=>(f p:Int))=some (lprod f l:Int):=by
 unfold Qaj
 refine Xb (Xx (s0:=((1:Int),(0:Int))) (r:=(lprod f l:Int)) (fun k=>((lprod f (l.take k):Int),(k:Int))) l.length (by simp [lprod]) (fun k hk=>?_) ?_ (by omega)) rfl
 ·have h1:lprod f (l.take k)<=4^8:=bV (Qgv fun p hp=>hf p (bH hp)) (aU (by omega) (by rw [cR]; omega))
  have h2:=hf _ (bJ hk)
  have h3:lprod f (l.take k)*f l[k]<=65536*4:=Nat.mul_le_mul (by omega) h2
  have e:(lprod f (l.take k):Int)*(f l[k]:Int)=((lprod f (l.take (k+1)):Nat):Int):=by rw [Jp hk,Qc4]; simp
  have e2:lprod f (l.take (k+1))<=65536*4:=by rw [Jp hk,Qc4]; exact h3
  unfold Qdg
  simp only
  rw [aH (by simpa using hk),Y4 (by simpa using hk)]
  simp only [aC,List.getElem_map]
  rw [e,w64 (by omega),w64 (by omega)]
  rfl
 unfold Qdg
 simp only
 rw [aI (by simp),List.take_of_length_le (aZ _)]
theorem Q68 {n v:Nat} {N:Nat -> Int ⊕ Ad} {x:Ad}:List.set (List.map Ai (Qb n N)) (Int.toNat (v:Int)) x=Qb n fun k=>if k=v then x else Ai (N k):=by
 rw [show List.map Ai (Qb n N)=Qb n (fun k=>Ai (N k)) by simp [Qb],aQ,Z9]
theorem Qxy {n v:Nat} {g:Int} {N:Nat -> Int ⊕ Ad} {C:Nat -> Nat} {P:List Nat} {R:List (List Int)} (hN:∀k,k < n->(Ai (N k)).Card=(C k:Int)) (hn:n<=8) (hv:v < n) (hP:∀p∈P,p < n) (hl:P.length<=8) :
  Xh ⟨g,List.set (List.map Ai (Qb n N)) (Int.toNat (v:Int)) ⟨(C v:Int),P.map (fun (x:Nat)=>(x:Int)),R⟩⟩ (v:Int)=some (P.map fun p=>(C p:Int)):=by
 unfold Xh
 rw [Q68,Qyi (C:=C) (fun k hk=>?_) hn]
 ·simp only [aC]
  rw [Qv hv]
  simp only [aC,eK]
  rw [Q7y hP hl]
  rfl
 ·by_cases e:k=v
  ·subst e; rw [aH rfl]
  ·rw [aI e]; exact hN k hk
theorem Q47 {g c v i:Nat} {N:Nat -> Int ⊕ Ad} {C:Nat -> Nat} {P:List Nat} {pc:Q0} (hg:zw (1+(zw (Int.tmod p0.Grain 60)))=(g:Int)) (hg60:g<=60)
  (hC:∀k,k < dcnt p0->2<=C k/\C k<=3) (hN:∀k,k < dcnt p0->(Ai (N k)).Card=(C k:Int)) (hv:v < dcnt p0) (hP:∀p∈P,p < dcnt p0) (hl:P.length<=3)
  (hW:∀x∈pc.W,0<=x/\x<=255) (hWl:pc.W.length<=9223372036854775807) :
  ∃W:Nat -> Nat -> Nat,(∀r,r < lprod C P->Qi (C v) (fun x=>(W r x:Int))=g) /\
   Qc fuel (Y0 p0 ((i:Int),Qb (dcnt p0) N) (v:Int) (C v:Int) (P.map fun (x:Nat)=>(x:Int)) pc) (0,[])=some (Qb (lprod C P) fun r=>Qb (C v) fun x=>(W r x:Int)):=by
 have hcn:=Qid (p0:=p0)
 have hcv:=hC v hv
 have hsz:=Q0k (f:=C) (l:=P) (fun p hp=>by have:=hC p (hP p hp); omega) (by omega)
 have hb:lprod C P<=64:=bV (Qgv fun p hp=>by have:=hC p (hP p hp); omega) (aU (by omega) hl:4^P.length<=4^3)
 have hw:=V2 (body:=Y0 p0 ((i:Int),Qb (dcnt p0) N) (v:Int) (C v:Int) (P.map fun (x:Nat)=>(x:Int)) pc)
  (fun s=>∃(r:Nat) (W:Nat -> Nat -> Nat),r<=lprod C P/\(∀r',r' < r->Qi (C v) (fun x=>(W r' x:Int))=g)/\s=((r:Int),Qb r fun r=>Qb (C v) fun x=>(W r x:Int)))
  (fun s=>lprod C P - s.1.toNat) (fun o=>∃W:Nat -> Nat -> Nat,(∀r,r < lprod C P->Qi (C v) (fun x=>(W r x:Int))=g)/\o=Qb (lprod C P) fun r=>Qb (C v) fun x=>(W r x:Int))
  (fun s hs=>?_) ((0:Int),([]:List (List Int))) ⟨0,fun _ _=>0,by omega,fun r hr=>by omega,rfl⟩ (by simp; omega)
 ·obtain ⟨o,h1,W,h2,rfl⟩:=hw
  exact ⟨W,h2,h1⟩
 ·obtain ⟨r,W,hr,hS,rfl⟩:=hs
  unfold Y0
  simp only
  rw [Qxy hN (by omega) hv hP (by omega)]
  simp only [aC]
  rw [hsz]
  simp only [aC]
  by_cases hrs:r < lprod C P
  ·left
   have hm:r*(C v+1)<=64*4:=Nat.mul_le_mul (by omega) (by omega)
   have ef:zw ((r:Int)*zw ((C v:Int)+1))=((r*(C v+1):Nat):Int):=by
    have w1:zw ((C v:Int)+1)=((C v+1:Nat):Int):=by rw [w64 (by omega)]; omega
    have e3:(r:Int)*((C v+1:Nat):Int)=((r*(C v+1):Nat):Int):=by simp
    rw [w1,e3]
    exact w64 (by omega)
   obtain ⟨f,hf,hfs⟩:=Q2r (g:=g) (c:=C v) (l:=pc.W) (fr:=r*(C v+1)) hg60 (by omega) (by omega) hW hWl (by omega)
   have ek:zw ((r:Int)+1)=((r+1:Nat):Int):=by rw [w64 (by omega)]; omega
   rw [aH (by simpa using hrs),hg,ef,hf]
   simp only [aC]
   rw [aH (by simp [Qn]; omega),ek]
   have e:(Qb r fun r=>Qb (C v) fun x=>(W r x:Int))++[Qb (C v) fun x=>(f x:Int)]=Qb (r+1) fun r'=>Qb (C v) fun x=>((updF W r f) r' x:Int):=by
    rw [<-Qli,Q9]
    congr 1
    exact Qf fun k hk=>by rw [Zz (by omega)]
   refine ⟨_,rfl,⟨r+1,updF W r f,hrs,fun r' hr'=>?_,by rw [e]⟩,by simp; omega⟩
   by_cases e2:r'=r
   ·subst e2; rw [Q9]; exact hfs
   ·rw [Zz e2]; exact hS r' (by omega)
  ·right
   have:r=lprod C P:=by omega
   subst this
   rw [aI (by simp)]
   exact ⟨_,rfl,W,hS,rfl⟩
theorem Q7v {s:Int × List (Int ⊕ Ad)} {x1:List Int}:Qdd p0 s x1=Xw p0 s x1 ⟨0,0,[]⟩:=rfl
theorem Q4y {n:Nat} {F:Nat -> Ad}:alr (Qb n fun v=>(Sum.inr (F v):Int ⊕ Ad))=some (Qb n F):=by
 have:∀l:List Nat,alr (l.map fun v=>(Sum.inr (F v):Int ⊕ Ad))=some (l.map F):=by
  intro l
  induction l with
  | nil=>rfl
  | cons x l ih=>simp only [dE,alr,ih,bK]
 exact this _
def GdF (D:NF) (q:List Nat) (j:Nat) (v:Nat):Prop:=(D.par v).Pairwise (· < ·)/\(∀p∈D.par v,p∈q.take j)/\(D.par v).length<=3/\∀r,r < D.rows v->Qi (D.card v) (fun x=>(D.W v r x:Int))=D.g
theorem Q50 (h:Qx3 p0) (hn:q.Nodup) (hl:∀x∈q,x < dcnt p0) (hlen:q.length=dcnt p0) {g:Nat} (hg:zw (1+(zw (Int.tmod p0.Grain 60)))=(g:Int)) (hg60:g<=60)
  {C:Nat -> Nat} (hC:∀k,k < dcnt p0->2<=C k/\C k<=3) :
  ∃(P:Nat -> List Nat) (W:Nat -> Nat -> Nat -> Nat),(∀j (hj:j < q.length),GdF ⟨dcnt p0,g,C,P,W⟩ q j q[j]) /\
   Qc fuel (Yr p0 (q.map fun (x:Nat)=>(x:Int))) (0,Qb (dcnt p0) fun v=>Sum.inl (C v:Int))=some (Qb (dcnt p0) fun v=>Sum.inr ((NF.mk (dcnt p0) g C P W).node v)):=by
 have hcn:=Qid (p0:=p0)
 let N:Nat -> (Nat -> List Nat)->(Nat -> Nat -> Nat -> Nat)->Nat -> Int ⊕ Ad:=fun i P W v=>if v∈q.take i then Sum.inr ((NF.mk (dcnt p0) g C P W).node v) else Sum.inl (C v:Int)
 have hNco:∀i P W k,(Ai (N i P W k)).Card=(C k:Int):=fun i P W k=>by
  show (Ai (if k∈q.take i then Sum.inr ((NF.mk (dcnt p0) g C P W).node k) else Sum.inl (C k:Int))).Card=_
  split <;> rfl
 have hw:=V2 (body:=Yr p0 (q.map fun (x:Nat)=>(x:Int)))
  (fun s=>∃(i:Nat) (P:Nat -> List Nat) (W:Nat -> Nat -> Nat -> Nat),i<=dcnt p0/\(∀j (hj:j < q.length),j < i->GdF ⟨dcnt p0,g,C,P,W⟩ q j q[j])/\s=((i:Int),Qb (dcnt p0) (N i P W)))
  (fun s=>dcnt p0 - s.1.toNat)
  (fun o=>∃(P:Nat -> List Nat) (W:Nat -> Nat -> Nat -> Nat),(∀j (hj:j < q.length),GdF ⟨dcnt p0,g,C,P,W⟩ q j q[j])/\o=Qb (dcnt p0) fun v=>Sum.inr ((NF.mk (dcnt p0) g C P W).node v))
  (fun s hs=>?_) ((0:Int),Qb (dcnt p0) fun v=>Sum.inl (C v:Int)) ⟨0,fun _=>[],fun _ _ _=>0,by omega,fun j _ hj=>by omega,by congr 1⟩ (by simp; omega)
 ·obtain ⟨o,h1,P,W,h2,rfl⟩:=hw
  exact ⟨P,W,h2,h1⟩
 ·obtain ⟨i,P,W,hi,hG,rfl⟩:=hs
  by_cases hic:i < dcnt p0
  ·left
   have hiq:i < q.length:=by omega
   have hv:=hl _ (bJ hiq)
   have hnot:=Qno hn hiq
   have ek:zw ((i:Int)+1)=((i+1:Nat):Int):=by rw [w64 (by omega)]; omega
   have hk:lkL (Qb (dcnt p0) (N i P W)) ((q[i]:Nat):Int)=some (C q[i]:Int):=by
    unfold lkL
    rw [Qv hv]
    show Option.bind (some (if q[i]∈q.take i then _ else _)) _=_
    rw [aI hnot]; rfl
   have leaf:∀pc:Q0,(∀x∈pc.W,0<=x/\x<=255)->pc.W.length<=9223372036854775807 ->
     ∃s',((Qc fuel (Xw p0 ((i:Int),Qb (dcnt p0) (N i P W)) (q.map fun (x:Nat)=>(x:Int)) pc) (0,([]:List Int))).bind fun x72 =>
      (Qc fuel (Y0 p0 ((i:Int),Qb (dcnt p0) (N i P W)) ((q[i]:Nat):Int) (C q[i]:Int) x72 pc) (0,([]:List (List Int)))).bind fun x83 =>
      some (Qh.next (ρ:=List (Int ⊕ Ad)) (zw ((i:Int)+1),(List.set (Qb (dcnt p0) (N i P W)) (Int.toNat ((q[i]:Nat):Int)) (Sum.inr (Ad.mk (C q[i]:Int) x72 x83))))))=some (Qh.next s') /\
      (∃(i:Nat) (P:Nat -> List Nat) (W:Nat -> Nat -> Nat -> Nat),i<=dcnt p0/\(∀j (hj:j < q.length),j < i->GdF ⟨dcnt p0,g,C,P,W⟩ q j q[j])/\s'=((i:Int),Qb (dcnt p0) (N i P W)))/\dcnt p0 - s'.1.toNat < dcnt p0 - (i:Int).toNat := fun pc hpW hpl=>by
    obtain ⟨Pv,p1,p2,p3,hb2⟩:=Q7d (p0:=p0) hn hlen (L:=Qb (dcnt p0) (N i P W)) (pc:=pc) hiq
    have hPv:∀p∈Pv,p < dcnt p0:=fun p hp=>hl p (bH (p2 p hp))
    obtain ⟨Wv,w1,hb3⟩:=Q47 (p0:=p0) (i:=i) (c:=0) (pc:=pc) hg hg60 hC (fun k _=>hNco i P W k) hv hPv p3 hpW hpl
    rw [hb2]
    simp only [aC]
    rw [hb3]
    simp only [aC]
    rw [ek,aQ,Z9]
    refine ⟨_,rfl,⟨i+1,updF P q[i] Pv,updF W q[i] Wv,hic,fun j hj hji=>?_,?_⟩,by simp; omega⟩
    ·by_cases e:j=i
     ·subst e
      unfold GdF NF.rows
      simp only [Q9]
      exact ⟨p1,p2,p3,w1⟩
     ·have hne:q[j]≠q[i]:=fun e2=>e (by
       rcases bA j i with h' | h'
       ·exact absurd e2 (List.pairwise_iff_getElem.1 hn j i hj hiq h')
       ·omega)
      have:=hG j hj (by omega)
      unfold GdF NF.rows at this ⊢
      simp only [Zz hne]
      exact this
    ·congr 1
     refine Qf fun k hk=>?_
     by_cases e:k=q[i]
     ·rw [aH e]
      show _=if k∈q.take (i+1) then _ else _
      rw [aH ((Qdw hiq).2 (.inr e)),e]
      unfold NF.node NF.rows
      simp only [Q9]
     ·rw [aI e]
      show (if k∈q.take i then _ else _)=if k∈q.take (i+1) then _ else _
      by_cases hm:k∈q.take i
      ·rw [aH hm,aH ((Qdw hiq).2 (.inl hm))]
       unfold NF.node NF.rows
       simp only [Zz e]
      ·rw [aI hm,aI (fun h'=>((Qdw hiq).1 h').elim hm e)]
   unfold Yr
   simp only [Qgi]
   rw [aH (by simpa using hic)]
   by_cases hin:i < p0.Nodes.length
   ·rw [aH (by simpa using hin),Y4 hin]
    simp only [aC]
    rw [Qnm hiq]
    simp only [aC]
    rw [hk]
    simp only [aC]
    exact leaf _ (h.W _ (bJ hin)) (h.Wl _ (bJ hin))
   ·rw [aI (by simpa using hin),Qnm hiq]
    simp only [aC]
    rw [hk]
    simp only [aC]
    rw [Q7v]
    exact leaf ⟨0,0,[]⟩ (fun x hx=>by simp at hx) (by simp)
  ·right
   have:i=dcnt p0:=by omega
   subst this
   unfold Yr
   simp only [Qgi]
   rw [aI (by simp)]
   refine ⟨_,rfl,P,W,fun j hj=>hG j hj (by omega),?_⟩
   refine Qf fun k hk=>?_
   show (if k∈q.take (dcnt p0) then _ else _)=_
   rw [aH (by rw [List.take_of_length_le (by omega)]; exact Qnn hn hl hlen k hk)]
theorem Q0j (h:Qx3 p0):∃D:NF,VX D/\D.n<=5/\(∀v,v < D.n->2<=D.card v/\D.card v<=3)/\Kc p0=some D.net:=by
 have hcn:=Qid (p0:=p0)
 have hgr:=h.grain
 obtain ⟨q,hn,hl,hlen,hq⟩:=Qx0 (n:=dcnt p0) hcn.2 h.order
 obtain ⟨C,hC,h0⟩:=Q5r h hn hl hlen
 have hg:zw (1+(zw (Int.tmod p0.Grain 60)))=((1+p0.Grain.toNat % 60:Nat):Int):=by
  have w1:zw (p0.Grain % 60)=p0.Grain % 60:=w64 (by omega)
  rw [Kn hgr.1,w1,w64 (by omega)]; omega
 have hg60:1+p0.Grain.toNat % 60<=60:=by omega
 obtain ⟨P,W,hG,h7⟩:=Q50 h hn hl hlen hg hg60 hC
 refine ⟨⟨dcnt p0,1+p0.Grain.toNat % 60,C,P,W⟩,?_,hcn.2,hC,?_⟩
 ·have hall:∀v,v < dcnt p0->∃j,∃hj:j < q.length,q[j]=v:=fun v hv=>bB.1 (Qnn hn hl hlen v hv)
  have hsum:∀v r,v < dcnt p0->r < (NF.mk (dcnt p0) (1+p0.Grain.toNat % 60) C P W).rows v->Qi (C v) (fun x=>(W v r x:Int))=((1+p0.Grain.toNat % 60:Nat):Int):=fun v r hv hr=>by
   obtain ⟨j,hj,rfl⟩:=hall v hv
   exact (hG j hj).2.2.2 r hr
  refine ⟨⟨by show 1<=dcnt p0; omega,by show dcnt p0<=8; omega,by show 1<=1+p0.Grain.toNat % 60; omega,hg60,fun v hv=>by have:=hC v hv; show 1<=C v/\C v<=4; omega,fun v hv p hp=>?_,fun v hv=>?_,fun v r x hv hr hx=>?_,?_⟩,fun v hv=>?_,fun v hv hp=>?_,⟨fun v=>q.idxOf v,fun v hv p hp=>?_⟩,hsum⟩
  ·obtain ⟨j,hj,rfl⟩:=hall v hv
   exact hl p (bH ((hG j hj).2.1 p hp))
  ·obtain ⟨j,hj,rfl⟩:=hall v hv
   have:=(hG j hj).2.2.1
   omega
  ·have h1:=hsum v r hv hr
   have h2:=Qd7 (n:=C v) (k:=x+1) (f:=fun x=>(W v r x:Int)) (fun _ _=>cY _) hx
   have h3:0<=Qi x (fun x=>(W v r x:Int)):=Vh fun _ _=>cY _
   simp only [Qi] at h2
   show W v r x<=1+p0.Grain.toNat % 60
   omega
  ·have h1:Qp (dcnt p0) C<=3^dcnt p0:=Qk0 fun v hv=>(hC v hv).2
   have h2:3^dcnt p0<=3^5:=aU (by omega) hcn.2
   show Qp (dcnt p0) C<=1024
   omega
  ·obtain ⟨j,hj,rfl⟩:=hall v hv
   exact (hG j hj).1
  ·obtain ⟨j,hj,rfl⟩:=hall v hv
   exact Qno hn hj ((hG j hj).2.1 _ hp)
  obtain ⟨j,hj,rfl⟩:=hall v hv
  have h1:=Qs1 ((hG j hj).2.1 p hp)
  have h2:=Q12 hn hj
  show q.idxOf p < q.idxOf q[j]
  omega
 unfold Kc
 simp only [Qgi]
 rw [aH (by omega),aH (by omega),aQ,hq]
 simp only [aC]
 rw [h0]
 simp only [aC]
 rw [h7]
 simp only [aC]
 rw [Q4y,hg]
 rfl
end
end Go.Ab
namespace Go.Ab
open Go
theorem Qqx {τ ρ σ:Type} {n:Nat} (hn:n < 1152921504606846976) (good:Nat -> Prop) (mkS:Int->τ->σ) {body:σ->Option (Qh σ ρ)} (T:Nat -> τ) (r rb:ρ)
  (step:∀k,k < n->(∀j,j < k->good j)->good k->body (mkS (k:Int) (T k))=some (.next (mkS (zw ((k:Int)+1)) (T (k+1)))))
  (bad:∀k,k < n->(∀j,j < k->good j)->¬ good k->body (mkS (k:Int) (T k))=some (.done rb))
  (done:(∀j,j < n->good j)->body (mkS (n:Int) (T n))=some (.done r)) :
  ((∀j,j < n->good j)/\Qc fuel body (mkS ((0:Nat):Int) (T 0))=some r)\/((¬ ∀j,j < n->good j)/\Qc fuel body (mkS ((0:Nat):Int) (T 0))=some rb):=by
 have h:=Qjh (n:=n) (k0:=0) (by omega) hn mkS (body:=body) (fun k t=>t=T k/\∀j,j < k->good j) (fun x=>((∀j,j < n->good j)/\x=r)\/((¬ ∀j,j < n->good j)/\x=rb))
  (fun k t _ hk hI=>by
   obtain ⟨rfl,hI⟩:=hI
   by_cases hg:good k
   ·left
    exact ⟨_,step k hk hI hg,rfl,fun j hj=>by
     by_cases e:j=k
     ·rw [e]; exact hg
     exact hI j (by omega)⟩
   exact .inr ⟨_,bad k hk hI hg,.inr ⟨fun h=>hg (h k hk),rfl⟩⟩)
  (fun t hI=>by
   obtain ⟨rfl,hI⟩:=hI
   exact ⟨_,done hI,.inl ⟨hI,rfl⟩⟩) (T 0) ⟨rfl,fun j hj=>by omega⟩
 obtain ⟨x,h1,h2⟩:=h
 rcases h2 with ⟨a,rfl⟩ | ⟨a,rfl⟩
 ·exact .inl ⟨a,h1⟩
 ·exact .inr ⟨a,h1⟩
end Go.Ab
namespace Go.Ab
open Go
theorem Q8a {a b:Nat} (ha:a < 18446744073709551616) (hb:b < 18446744073709551616):zv (zb (a:Int) ||| zb (b:Int)).toNat = ((a ||| b:Nat):Int):=by
 rw [BitVec.toNat_or,Qda ha,Qda hb,Qco (dX (n:=64) ha hb)]
def Qxr (a b:Nat):Prop:=∀j,a.testBit j=true->b.testBit j=true
theorem Qxr.trans {a b c:Nat} (h:Qxr a b) (k:Qxr b c):Qxr a c:=fun j hj=>k j (h j hj)
def upV (S:Nat -> Nat) (s v:Nat):Nat := if s.testBit v then s ||| S v else s
def upR (n:Nat) (S:Nat -> Nat) (s:Nat):Nat := (List.range n).foldl (upV S) s
def ups (n:Nat) (S:Nat -> Nat):Nat -> Nat -> Nat
 | 0,s=>s
 | k+1,s=>upR n S (ups n S k s)
end Go.Ab
namespace Go.Ab
open Go
theorem Qjg {n:Nat} {f:Nat -> Int} {c:Int}:Qi n (fun k=>f k*c)=Qi n f*c:=by
 induction n with
 | zero=>simp [Qi]
 | succ n ih=>simp only [Qi,ih]; rw [Int.add_mul]
theorem Qzm {m n:Nat} {f:Nat -> Nat -> Int}:Qi m (fun x=>Qi n (f x))=Qi n (fun y=>Qi m (fun x=>f x y)):=by
 induction m with
 | zero=>simp [Qi,Ki]
 | succ m ih=>simp only [Qi,ih]; rw [<-Qs6]
theorem Qw5 {a b:Nat} {f:Nat -> Int}:Qi (a*b) f=Qi a (fun x=>Qi b (fun y=>f (x*b+y))):=by
 induction a with
 | zero=>simp [Qi]
 | succ a ih=>rw [dS,Qjw,ih]; simp only [Qi]
theorem Kd {n:Nat} {f g:Nat -> Nat} (h:∀k,k < n->f k=g k):Qp n f=Qp n g:=by
 induction n with
 | zero=>rfl
 | succ n ih=>simp only [Qp]; rw [ih (fun k hk=>h k (by omega)),h n (by omega)]
theorem Qxs {n:Nat} {f:Nat -> Nat} (h:∀k,k < n->1<=f k):1<=Qp n f:=by
 induction n with
 | zero=>simp [Qp]
 | succ n ih=>simp only [Qp]; exact bV (by simp) (Nat.mul_le_mul (ih fun k hk=>h k (by omega)) (h n (by omega)))
end Go.Ab
namespace Go.Ab
open Go
def Yu (c w:Nat -> Nat) (l:List Nat):Nat := l.foldl (fun r p=>r*c p+w p) 0
theorem Qrv {c w:Nat -> Nat} {l:List Nat} {p:Nat}:Yu c w (l++[p])=Yu c w l*c p+w p:=by simp [Yu]
theorem Qri {c w:Nat -> Nat} {l:List Nat} (h:∀p∈l,w p < c p):Yu c w l < lprod c l:=by
 have key:∀(l:List Nat) (r R:Nat),r < R->(∀p∈l,w p < c p)->l.foldl (fun r p=>r*c p+w p) r < l.foldl (fun r p=>r*c p) R:=by
  intro l
  induction l with
  | nil=>intro r R h _; exact h
  | cons p l ih =>
   intro r R hr hp
   simp only [List.foldl_cons]
   refine ih _ _ ?_ (fun q hq=>hp q (cL _ hq))
   have h1:=hp p (by simp)
   have h2:(r+1)*c p<=R*c p:=aS _ hr
   rw [dS] at h2
   omega
 exact key l 0 1 (by omega) h
def NF.idx (D:NF) (v:Nat) (w:Nat -> Nat):Nat := Yu D.card w (D.par v)
def NF.wt (D:NF) (w:Nat -> Nat) (v:Nat):Nat := D.W v (D.idx v w) (w v)
def NF.ok (D:NF) (w:Nat -> Nat):Prop:=∀v,v < D.n->w v < D.card v
section
variable {D:NF} (V:VN D) {w:Nat -> Nat}
include V
theorem VN.idx_lt (hw:D.ok w) {v:Nat} (hv:v < D.n):D.idx v w < D.rows v:=Qri fun p hp=>hw p (V.par v hv p hp)
theorem VN.wt_le (hw:D.ok w) {v:Nat} (hv:v < D.n):D.wt w v<=60:=bV (V.W v _ _ hv (V.idx_lt hw hv) (hw v hv)) V.g60
end
structure SF where
 N:Nat
 R:Nat
 F:Nat
 T:Nat
def NF.hit (D:NF) (s:SF) (w:Nat -> Nat):Bool:=D.idx s.N w==s.R
def NF.own (D:NF) (s:SF) (w:Nat -> Nat):Nat := if D.hit s w=true then D.wt w s.N else 1
section
variable {D:NF} (V:VN D) {w:Nat -> Nat} {s:SF}
include V
end
end Go.Ab
namespace Go.Ab
open Go
def TM (D:NF) (E:Nat -> Int) (f:(Nat -> Nat)->Int):Nat -> Nat -> (Nat -> Nat)->Int
 | 0,_,w=>f w
 | d+1,i,w=>Qi (D.card i) fun x=>if E i=-1\/E i=(x:Int) then TM D E f d (i+1) (updF w i x) else 0
def PC (D:NF):Nat -> Nat -> Nat
 | 0,_=>1
 | d+1,i=>D.card i*PC D d (i+1)
theorem Qzt {D:NF} (V:VN D):∀(d i:Nat),i+d=D.n->1<=PC D d i
 | 0,_,_=>aZ 1
 | d+1,i,h=>by
  have:=Qzt V d (i+1) (by omega)
  have h2:=(V.card i (by omega)).1
  exact bV (by simp) (Nat.mul_le_mul h2 this)
theorem Qpt {D:NF}:∀(d i:Nat),Qp i D.card*PC D d i=Qp (i+d) D.card
 | 0,i=>by simp [PC]
 | d+1,i=>by
  have:=Qpt (D:=D) d (i+1)
  simp only [PC]
  rw [<-Nat.mul_assoc]
  rw [show i+(d+1)=i+1+d by omega,<-this]; rfl
def Ext (D:NF) (f:(Nat -> Nat)->Int):Prop:=∀w w',(∀j,j < D.n->w j=w' j)->f w=f w'
theorem BD.mono {m p:Nat} {a:Int} (h:BD m a) (hp:m<=p):BD p a:=by
 unfold BD KK at *; omega
theorem BD.fit {m:Nat} {a:Int} (h:BD m a) (hm:m<=1024):-9223372036854775808<=a/\a<=9223372036854775807:=by unfold BD KK at h; omega
theorem Qpj {D:NF} {w:Nat -> Nat} {i x:Nat} (h:D.ok w) (hx:x < D.card i):D.ok (updF w i x):=fun v hv=>by
 unfold updF
 by_cases e:v=i
 ·rw [aH e,e]; exact hx
 rw [aI e]; exact h v hv
theorem Qsq {D:NF} {E:Nat -> Int} {f:(Nat -> Nat)->Int} (hf:∀w,D.ok w->BD 1 (f w)):∀(d i:Nat) (w:Nat -> Nat),i+d=D.n->D.ok w->BD (PC D d i) (TM D E f d i w)
 | 0,i,w,_,hw=>hf w hw
 | d+1,i,w,h,hw=>by
  unfold TM PC
  refine BD.sum fun x hx=>?_
  split
  ·exact Qsq hf d (i+1) _ (by omega) (Qpj hw hx)
  exact BD.zero
def at' (v x:Nat) (f:(Nat -> Nat)->Int):(Nat -> Nat)->Int:=fun w=>if w v=x then f w else 0
section
variable {D:NF} (V:VN D) {s:SF} {E:Nat -> Int} {v:Nat}
theorem Q32 (V:VN D) {w w':Nat -> Nat} (h:∀j,j < D.n->w j=w' j) {u:Nat} (hu:u < D.n):D.idx u w=D.idx u w':=by
 unfold NF.idx Yu
 have:∀(l:List Nat) (r:Nat),(∀p∈l,p < D.n)->l.foldl (fun r p=>r*D.card p+w p) r=l.foldl (fun r p=>r*D.card p+w' p) r:=by
  intro l
  induction l with
  | nil=>intros; rfl
  | cons p l ih =>
   intro r hp
   simp only [List.foldl_cons]
   rw [h p (hp p (by simp)),ih _ (fun q hq=>hp q (cL _ hq))]
 exact this _ 0 (V.par u hu)
theorem Q5i (V:VN D) {w w':Nat -> Nat} (h:∀j,j < D.n->w j=w' j) {u:Nat} (hu:u < D.n):D.wt w u=D.wt w' u:=by
 unfold NF.wt; rw [Q32 V h hu,h u hu]
theorem Qlp {f:(Nat -> Nat)->Int} (hv:v < D.n) (hf:Ext D f) {x:Nat}:Ext D (at' v x f):=fun w w' h=>by
 unfold at'; rw [h v hv,hf w w' h]
theorem Q2v {f:(Nat -> Nat)->Int} (hf:∀w,D.ok w->BD 1 (f w)) {x:Nat}:∀w,D.ok w->BD 1 (at' v x f w):=fun w hw=>by
 unfold at'
 split
 ·exact hf w hw
 exact BD.zero
end
end Go.Ab
namespace Go.Ab
open Go
def SW (D:NF) (E:Nat -> Int) (f:(Nat -> Nat)->Int):Int:=TM D E f D.n 0 (fun _=>0)
def Jg (D:NF) (E:Nat -> Int):Prop:=∀j,j < D.n->-1<=E j/\E j < D.card j
section
variable {D:NF} {s:SF} {E:Nat -> Int} {v:Nat}
theorem ok0 (V:VN D):D.ok (fun _=>0):=fun u hu=>(V.card u hu).1
end
end Go.Ab
namespace Go.Ab
open Go
section
variable {D:NF} {E:Nat -> Int}
def PS (D:NF) (k:Nat):Nat := PC D (D.n - k) k
theorem Qp8 {k:Nat} (h:k < D.n):PS D k=D.card k*PS D (k+1):=by
 unfold PS
 rw [show D.n - k=(D.n - (k+1))+1 by omega]; rfl
theorem Qzu:PS D D.n=1:=by unfold PS; rw [Nat.sub_self]; rfl
theorem Qzp (V:VN D) {k:Nat} (h:k<=D.n):1<=PS D k:=Qzt V _ _ (by omega)
def dig (D:NF) (W k:Nat):Nat := W / PS D (k+1) % D.card k
theorem Qo8 (V:VN D) (W:Nat):D.ok (dig D W):=fun v hv=>cF _ (V.card v hv).1
def okE (E:Nat -> Int) (j x:Nat):Prop:=E j=-1\/E j=(x:Int)
instance instokE (E:Nat -> Int) (j x:Nat):Decidable (okE E j x):=by unfold okE; infer_instance
def Zu (n:Nat) (E:Nat -> Int) (i:Nat) (w:Nat -> Nat):Prop:=∀j,i<=j->j < n->okE E j (w j)
def ix (c w:Nat -> Nat):List Nat -> Nat
 | []=>0
 | p::l=>w p*lprodR c l+ix c w l
where lprodR (c:Nat -> Nat):List Nat -> Nat
 | []=>1
 | p::l=>c p*lprodR c l
theorem Qs0 (c w:Nat -> Nat):∀(l:List Nat) (r:Nat),l.foldl (fun r p=>r*c p+w p) r=r*ix.lprodR c l+ix c w l
 | [],r=>by simp [ix,ix.lprodR]
 | p::l,r=>by
  simp only [List.foldl_cons,Qs0 c w l,ix,ix.lprodR]
  rw [dU,Nat.mul_assoc,cH]
theorem Qzc {c w:Nat -> Nat} {l:List Nat}:Yu c w l=ix c w l:=by
 unfold Yu; rw [Qs0]; simp
theorem Qzj {c:Nat -> Nat} {l:List Nat} (h:∀p∈l,c p<=4):ix.lprodR c l<=4^l.length:=by
 induction l with
 | nil=>simp [ix.lprodR]
 | cons p l ih =>
  simp only [ix.lprodR,dG,Nat.pow_succ]
  rw [cJ]
  exact Nat.mul_le_mul (ih fun q hq=>h q (cL _ hq)) (h p (by simp))
def mix (D:NF) (i:Nat) (w:Nat -> Nat) (W:Nat):Nat -> Nat := fun j=>if j < i then w j else dig D W j
theorem Q5e (V:VN D) {i j:Nat} (hij:i<=j) (hj:j < D.n):∃M,PS D i=M*(D.card j*PS D (j+1)):=by
 obtain ⟨k,rfl⟩:=Nat.exists_eq_add_of_le hij
 induction k generalizing i with
 | zero=>exact ⟨1,by rw [eH,Nat.one_mul,Qp8 (by omega)]⟩
 | succ k ih =>
  obtain ⟨M,hM⟩:=ih (i:=i+1) (by omega) (by omega)
  refine ⟨D.card i*M,?_⟩
  rw [Qp8 (by omega),hM]
  rw [show i+1+k=i+(k+1) by omega,Nat.mul_assoc]
open Classical in
theorem Qor (V:VN D) {f:(Nat -> Nat)->Int} (hf:Ext D f):∀(d i:Nat) (w:Nat -> Nat),i+d=D.n ->
  Qi (PC D d i) (fun W=>if Zu D.n E i (mix D i w W) then f (mix D i w W) else 0)=TM D E f d i w
 | 0,i,w,h=>by
  simp only [PC,Qi,TM,Int.zero_add]
  rw [aH (show Zu D.n E i (mix D i w 0) from fun j h1 h2=>by omega)]
  exact hf _ _ fun j hj=>by unfold mix; rw [aH (by omega)]
 | d+1,i,w,h=>by
  have hi:i < D.n:=by omega
  simp only [PC,TM]
  rw [Qw5]
  refine Q7 fun x hx=>?_
  have hP:PC D d (i+1)=PS D (i+1):=by unfold PS; rw [show D.n - (i+1)=d by omega]
  have hpos:=Qzp V (k:=i+1) (by omega)
  have hag:∀y,y < PC D d (i+1)->∀j,j < D.n->mix D i w (x*PC D d (i+1)+y) j=mix D (i+1) (updF w i x) y j:=fun y hy j hj=>by
   unfold mix
   by_cases h1:j < i
   ·rw [aH h1,aH (by omega),Zz (by omega)]
   rw [aI h1]
   by_cases h2:j=i
   ·subst h2
    rw [aH (by omega),Q9]
    unfold dig
    rw [hP] at hy ⊢
    rw [cJ,Nat.mul_add_div (by omega),Nat.div_eq_of_lt hy,eH,Nat.mod_eq_of_lt hx]
   rw [aI (by omega)]
   unfold dig
   rw [hP]
   obtain ⟨M,hM⟩:=Q5e V (i:=i+1) (j:=j) (by omega) hj
   have hpj:=Qzp V (k:=j+1) (by omega)
   rw [hM,show x*(M*(D.card j*PS D (j+1)))+y=PS D (j+1)*(D.card j*(x*M))+y by
    rw [cJ (D.card j),<-Nat.mul_assoc,<-Nat.mul_assoc,cJ (PS D (j+1)),cJ (D.card j),Nat.mul_right_comm (x*M)]]
   rw [Nat.mul_add_div (by omega),Nat.mul_add_mod]
  rw [Q7 (g:=fun y=>if okE E i x then (if Zu D.n E (i+1) (mix D (i+1) (updF w i x) y) then f (mix D (i+1) (updF w i x) y) else 0) else 0) (fun y hy=>?_)]
  ·by_cases hok:okE E i x
   ·rw [Q7 (g:=fun y=>if Zu D.n E (i+1) (mix D (i+1) (updF w i x) y) then f (mix D (i+1) (updF w i x) y) else 0) (fun y _=>aH hok),Qor V hf d (i+1) _ (by omega),aH (show E i=-1\/E i=(x:Int) from hok)]
   rw [Q7 (g:=fun _=>0) (fun y _=>aI hok),Ki,aI (show ¬ (E i=-1\/E i=(x:Int)) from hok)]
  have e:=hag y hy
  have hiff:Zu D.n E i (mix D i w (x*PC D d (i+1)+y))↔okE E i x/\Zu D.n E (i+1) (mix D (i+1) (updF w i x) y):=by
   constructor
   ·intro hm
    refine ⟨?_,fun j h1 h2=>?_⟩
    ·have:=hm i (by omega) hi
     rw [e i hi] at this
     unfold mix at this
     rwa [aH (by omega),Q9] at this
    have:=hm j (by omega) h2
    rwa [e j h2] at this
   rintro ⟨h1,h2⟩ j h3 h4
   rw [e j h4]
   by_cases h5:j=i
   ·subst h5; unfold mix; rwa [aH (by omega),Q9]
   exact h2 j (by omega) h4
  by_cases hok:okE E i x
  ·rw [aH hok]
   by_cases hm:Zu D.n E (i+1) (mix D (i+1) (updF w i x) y)
   ·rw [aH (hiff.2 ⟨hok,hm⟩),aH hm,hf _ _ e]
   rw [aI (fun c=>hm (hiff.1 c).2),aI hm]
  rw [aI (fun c=>hok (hiff.1 c).1),aI hok]
end
end Go.Ab
namespace Go.Ab
open Go
theorem one5 {cs:List AV} (h:WT (.int .u8) cs):∃a:Int,cs=[(AV.int .u8) a]/\(Lit.int .u8 a).wf=true:=by
 obtain ⟨n,rfl,w⟩:=h
 exact ⟨n,rfl,w⟩
theorem el5 {x:AV} (h:WT (.int .u8) x.flat /\ (if false then x=.agg x.flat else x.cell=true)):∃a:Int,x=(AV.int .u8) a/\(Lit.int .u8 a).wf=true:=by
 obtain ⟨a,h1,h2⟩:=one5 h.1
 rw [Qy2 h.2] at h1
 exact ⟨a,(List.cons.inj h1).1,h2⟩
theorem Q3e {cs:List AV} (h:WT (.slice true false 1 (.int .u8)) cs):∃a:(List Int),cs=[(eL true (AV.int .u8)) a]/\(a.length<=maxLen/\∀y0∈a,(Lit.int .u8 y0).wf=true):=by
 obtain ⟨xs,rfl,hl,hx⟩:=h
 obtain ⟨l,rfl,hr⟩:=Qs8 (enc:=(AV.int .u8)) (R:=fun a=>(Lit.int .u8 a).wf=true) (fun x hm=>el5 (hx x hm))
 exact ⟨l,rfl,by simpa using hl,hr⟩
def Yc (x:Q0):Prop:=((Lit.int .u8 x.Card).wf=true)/\((Lit.int .u8 x.Parents).wf=true)/\((x.W.length<=maxLen/\∀y0∈x.W,(Lit.int .u8 y0).wf=true))
theorem Qh5 {cs:List AV} (h:WT (.cat (.int .u8) (.cat (.int .u8) (.cat (.slice true false 1 (.int .u8)) .unit))) cs):∃x:Q0,AV.agg cs=Al x/\Yc x:=by
 obtain ⟨_,_,rfl,a0,r0⟩:=h
 obtain ⟨v0,e0,w0⟩:=one5 a0
 cases e0
 obtain ⟨_,_,rfl,a1,r1⟩:=r0
 obtain ⟨v1,e1,w1⟩:=one5 a1
 cases e1
 obtain ⟨_,_,rfl,a2,r2⟩:=r1
 obtain ⟨v2,e2,w2⟩:=Q3e a2
 cases e2
 cases r2
 exact ⟨⟨v0,v1,v2⟩,rfl,⟨w0,w1,w2⟩⟩
theorem Q7z {x:AV} (h:WT (.cat (.int .u8) (.cat (.int .u8) (.cat (.slice true false 1 (.int .u8)) .unit))) x.flat /\ (if true then x=.agg x.flat else x.cell=true)):∃a:Q0,x=Al a/\Yc a:=by
 obtain ⟨a,h1,h2⟩:=Qh5 h.1
 have h3:x=.agg x.flat := h.2
 exact ⟨a,h3.trans h1,h2⟩
theorem Q71 {cs:List AV} (h:WT (.slice false true 3 (.cat (.int .u8) (.cat (.int .u8) (.cat (.slice true false 1 (.int .u8)) .unit)))) cs):∃a:(List Q0),cs=[(eL false Al) a]/\(a.length<=maxLen/\∀y0∈a,Yc y0):=by
 obtain ⟨xs,rfl,hl,hx⟩:=h
 obtain ⟨l,rfl,hr⟩:=Qs8 (enc:=Al) (R:=fun a=>Yc a) (fun x hm=>Q7z (hx x hm))
 exact ⟨l,rfl,by simpa using hl,hr⟩
def Kb (x:Qe):Prop:=((Lit.int .u8 x.Grain).wf=true)/\((x.Nodes.length<=maxLen/\∀y0∈x.Nodes,Yc y0))/\((x.Order.length<=maxLen/\∀y0∈x.Order,(Lit.int .u8 y0).wf=true))
theorem rdTharuspexref05_Draft {cs:List AV} (h:WT (.cat (.int .u8) (.cat (.slice false true 3 (.cat (.int .u8) (.cat (.int .u8) (.cat (.slice true false 1 (.int .u8)) .unit)))) (.cat (.slice true false 1 (.int .u8)) .unit))) cs):∃x:Qe,AV.agg cs=eTharuspexref05_Draft x/\Kb x:=by
 obtain ⟨_,_,rfl,a0,r0⟩:=h
 obtain ⟨v0,e0,w0⟩:=one5 a0
 cases e0
 obtain ⟨_,_,rfl,a1,r1⟩:=r0
 obtain ⟨v1,e1,w1⟩:=Q71 a1
 cases e1
 obtain ⟨_,_,rfl,a2,r2⟩:=r1
 obtain ⟨v2,e2,w2⟩:=Q3e a2
 cases e2
 cases r2
 exact ⟨⟨v0,v1,v2⟩,rfl,⟨w0,w1,w2⟩⟩
theorem Q79 {cs:List AV} (h:WT (.cat (.int .u8) (.cat (.int .u8) (.cat (.int .u8) (.cat (.int .u8) (.cat (.int .u8) (.cat (.int .u8) (.cat (.int .u8) (.cat (.int .u8) .unit)))))))) cs):∃x:(Int × Int × Int × Int × Int × Int × Int × Int),AV.agg cs=(fun x:(Int × Int × Int × Int × Int × Int × Int × Int)=>AV.agg [.int .u8 x.1,.int .u8 x.2.1,.int .u8 x.2.2.1,.int .u8 x.2.2.2.1,.int .u8 x.2.2.2.2.1,.int .u8 x.2.2.2.2.2.1,.int .u8 x.2.2.2.2.2.2.1,.int .u8 x.2.2.2.2.2.2.2]) x/\((Lit.int .u8 x.1).wf=true/\(Lit.int .u8 x.2.1).wf=true/\(Lit.int .u8 x.2.2.1).wf=true/\(Lit.int .u8 x.2.2.2.1).wf=true/\(Lit.int .u8 x.2.2.2.2.1).wf=true/\(Lit.int .u8 x.2.2.2.2.2.1).wf=true/\(Lit.int .u8 x.2.2.2.2.2.2.1).wf=true/\(Lit.int .u8 x.2.2.2.2.2.2.2).wf=true):=by
 obtain ⟨_,_,rfl,a0,r0⟩:=h
 obtain ⟨v0,e0,w0⟩:=one5 a0
 cases e0
 obtain ⟨_,_,rfl,a1,r1⟩:=r0
 obtain ⟨v1,e1,w1⟩:=one5 a1
 cases e1
 obtain ⟨_,_,rfl,a2,r2⟩:=r1
 obtain ⟨v2,e2,w2⟩:=one5 a2
 cases e2
 obtain ⟨_,_,rfl,a3,r3⟩:=r2
 obtain ⟨v3,e3,w3⟩:=one5 a3
 cases e3
 obtain ⟨_,_,rfl,a4,r4⟩:=r3
 obtain ⟨v4,e4,w4⟩:=one5 a4
 cases e4
 obtain ⟨_,_,rfl,a5,r5⟩:=r4
 obtain ⟨v5,e5,w5⟩:=one5 a5
 cases e5
 obtain ⟨_,_,rfl,a6,r6⟩:=r5
 obtain ⟨v6,e6,w6⟩:=one5 a6
 cases e6
 obtain ⟨_,_,rfl,a7,r7⟩:=r6
 obtain ⟨v7,e7,w7⟩:=one5 a7
 cases e7
 cases r7
 exact ⟨(v0,v1,v2,v3,v4,v5,v6,v7),rfl,⟨w0,w1,w2,w3,w4,w5,w6,w7⟩⟩
def Vi (x:Af):Prop:=((Lit.int .u8 x.Which).wf=true)/\(((Lit.int .u8 x.V.1).wf=true/\(Lit.int .u8 x.V.2.1).wf=true/\(Lit.int .u8 x.V.2.2.1).wf=true/\(Lit.int .u8 x.V.2.2.2.1).wf=true/\(Lit.int .u8 x.V.2.2.2.2.1).wf=true/\(Lit.int .u8 x.V.2.2.2.2.2.1).wf=true/\(Lit.int .u8 x.V.2.2.2.2.2.2.1).wf=true/\(Lit.int .u8 x.V.2.2.2.2.2.2.2).wf=true))
theorem rdTharuspexref05_Known {cs:List AV} (h:WT (.cat (.int .u8) (.cat (.cat (.int .u8) (.cat (.int .u8) (.cat (.int .u8) (.cat (.int .u8) (.cat (.int .u8) (.cat (.int .u8) (.cat (.int .u8) (.cat (.int .u8) .unit)))))))) .unit)) cs):∃x:Af,AV.agg cs=eTharuspexref05_Known x/\Vi x:=by
 obtain ⟨_,_,rfl,a0,r0⟩:=h
 obtain ⟨v0,e0,w0⟩:=one5 a0
 cases e0
 obtain ⟨_,_,rfl,a1,r1⟩:=r0
 obtain ⟨v1,e1,w1⟩:=Q79 a1
 cases e1
 cases r1
 exact ⟨⟨v0,v1⟩,rfl,⟨w0,w1⟩⟩
end Go.Ab
namespace Go.Ab
open Go
theorem Q4e {p0:Qe} (h:Kb p0):Qx3 p0:=by
 obtain ⟨h1,⟨h2,h3⟩,h4,h5⟩:=h
 exact ⟨bounds_u8 h1,fun x hx=>bounds_u8 (h5 x hx),fun p hp=>bounds_u8 (h3 p hp).1,fun p hp x hx=>bounds_u8 ((h3 p hp).2.2.2 x hx),fun p hp=>(h3 p hp).2.2.1⟩
structure DX (D:NF):Prop extends VX D where
 n5:D.n<=5
 c23:∀v,v < D.n->2<=D.card v/\D.card v<=3
section
variable {D:NF}
theorem Qtw (X:DX D) {k:Af} (hk:Vi k):∃E,Jg D E/\Yj k D.net=some (Qb D.n E):=by
 have V:=X.vn
 have hn:=X.n5
 have hlen:D.net.Nodes.length=D.n:=Qn
 obtain ⟨_,k0,k1,k2,k3,k4,_⟩:=hk
 have hw:=V2 (body:=Jd D.net k) (fun s=>∃(i:Nat) (E:Nat -> Int),i<=D.n/\(∀j,j < i->-1<=E j/\E j < D.card j)/\s=((i:Int),Qb i E))
  (fun s=>D.n - s.1.toNat) (fun r=>∃E,Jg D E/\r=Qb D.n E) (fun s hs=>?_) ((0:Int),([]:List Int)) ⟨0,fun _=>0,by omega,fun j hj=>by omega,rfl⟩ (by simp; omega)
 ·obtain ⟨r,h1,E,h2,rfl⟩:=hw
  refine ⟨E,h2,?_⟩
  unfold Yj
  rw [h1]; rfl
 obtain ⟨i,E,hi,hE,rfl⟩:=hs
 by_cases hin:i < D.n
 ·left
  have hc:=V.card i hin
  have hnode:lkI D.net.Nodes (i:Int)=some (D.node i):=V.node hin
  have add:∀y:Int,-1<=y->y < D.card i->(∃s',some (Qh.next (((i+1:Nat):Int),Qb i E++[y]))=some (Qh.next (ρ:=List Int) s') /\
    (∃(i:Nat) (E:Nat -> Int),i<=D.n/\(∀j,j < i->-1<=E j/\E j < D.card j)/\s'=((i:Int),Qb i E))/\D.n - s'.1.toNat < D.n - (i:Int).toNat):=fun y h1 h2=>by
   refine ⟨_,rfl,⟨i+1,updF E i y,hin,fun j hj=>?_,?_⟩,by simp; omega⟩
   ·by_cases e:j=i
    ·subst e; rw [Q9]; exact ⟨h1,h2⟩
    ·rw [Zz e]; exact hE j (by omega)
   ·rw [<-Qli,Q9]
    congr 2
    exact Qf fun j hj=>by rw [Zz (by omega)]
  have one:∀y:Int,(Lit.int .u8 y).wf=true->-1<=Int.tmod (zw y) (D.node i).Card/\Int.tmod (zw y) (D.node i).Card < D.card i:=fun y hy=>by
   have hb:=bounds_u8 hy
   have hp:(0:Int) < (D.card i:Int):=by omega
   rw [show (D.node i).Card=(D.card i:Int) from rfl,w64 (by omega),Kn hb.1]
   have h1:=Int.emod_nonneg y (show (D.card i:Int)≠0 by omega)
   have h2:=Int.emod_lt_of_pos y hp
   omega
  have hcard:(D.node i).Card≠0:=by show (D.card i:Int)≠0; omega
  have hll:∀y:Int,(Qb i E++[y]).length*8<=140737488355328:=fun y=>by simp [Qn]; omega
  have ek:zw ((i:Int)+1)=((i+1:Nat):Int):=by rw [w64 (by omega)]; omega
  unfold Jd
  simp only
  rw [aH (by rw [hlen]; simpa using hin),aH Qfx]
  by_cases hb:((IntKind.u8.wrap (BitVec.ofInt (IntKind.bits .u8) (Int.fdiv k.Which (2^min (Int.toNat (zv (i:Int))) (IntKind.bits .u8))) &&& BitVec.ofInt (IntKind.bits .u8) 1).toNat)==1)=true
  ·rw [aH hb]
   have hcases:i=0\/i=1\/i=2\/i=3\/i=4:=by omega
   rcases hcases with rfl | rfl | rfl | rfl | rfl
   ·rw [aH (show ((0:Nat):Int)=0 from rfl),show lkI D.net.Nodes 0=some (D.node 0) from hnode]
    simp only [aC]
    rw [aH hcard,aH (hll _)]
    exact add _ (one _ k0).1 (one _ k0).2
   ·rw [aI (by decide),aH (show ((1:Nat):Int)=1 from rfl),show lkI D.net.Nodes 1=some (D.node 1) from hnode]
    simp only [aC]
    rw [aH hcard,aH (hll _)]
    exact add _ (one _ k1).1 (one _ k1).2
   ·rw [aI (by decide),aI (by decide),aH (show ((2:Nat):Int)=2 from rfl),show lkI D.net.Nodes 2=some (D.node 2) from hnode]
    simp only [aC]
    rw [aH hcard,aH (hll _)]
    exact add _ (one _ k2).1 (one _ k2).2
   ·rw [aI (by decide),aI (by decide),aI (by decide),aH (show ((3:Nat):Int)=3 from rfl),show lkI D.net.Nodes 3=some (D.node 3) from hnode]
    simp only [aC]
    rw [aH hcard,aH (hll _)]
    exact add _ (one _ k3).1 (one _ k3).2
   rw [aI (by decide),aI (by decide),aI (by decide),aI (by decide),aH (show ((4:Nat):Int)=4 from rfl),show lkI D.net.Nodes 4=some (D.node 4) from hnode]
   simp only [aC]
   rw [aH hcard,aH (hll _)]
   exact add _ (one _ k4).1 (one _ k4).2
  rw [aI hb,aH (hll _),ek]
  exact add (-1) (by omega) (by omega)
 right
 have:i=D.n:=by omega
 subst this
 unfold Jd
 rw [aI (by rw [hlen]; simp)]
 exact ⟨_,rfl,E,hE,rfl⟩
theorem Q3j {E:Nat -> Int} {f:(Nat -> Nat)->Int} (V:VN D) {m:Nat} (hm:Qp D.n D.card<=m) (hf:∀w,D.ok w->BD 1 (f w)):BD m (SW D E f):=by
 have h1:PC D D.n 0=Qp D.n D.card:=by have:=Qpt (D:=D) D.n 0; simpa [Qp] using this
 exact (Qsq hf D.n 0 _ (by omega) (ok0 V)).mono (by rw [h1]; exact hm)
end
end Go.Ab
namespace Go.Ab
open Go
theorem Q5p {i j:Nat} (h:i<=j):10000^i<=10000^j:=aU (by omega) h
end Go.Ab
namespace Go.Ab
open Go
theorem Q0x {p q:Nat} (h:2*(p+1)<=q+1):Nat.log2 (p+1) < Nat.log2 (q+1):=by
 have h1:2^Nat.log2 (p+1)<=p+1:=(Nat.le_log2 (by omega)).1 (aZ _)
 have h2:Nat.log2 (p+1)+1<=Nat.log2 (q+1):=(Nat.le_log2 (by omega)).2 (by rw [Nat.pow_succ]; omega)
 omega
theorem Q1s {x K:Nat} (h:(dgs x).length<=K):Nat.log2 (x+1)<=14*K+1:=by
 have h1:=Qti x
 have h2:=Q5p (i:=(dgs x).length) (j:=K) h
 have h3:(10000:Nat)^K<=(2^14)^K:=Nat.pow_le_pow_left (by omega) K
 rw [<-Nat.pow_mul] at h3
 have h4:x+1 < 2^(14*K+1):=by rw [Nat.pow_succ]; omega
 have:=(Nat.log2_lt (by omega)).2 h4
 omega
def gm (x y:Nat):Nat := if y<=x then Nat.log2 (x*y+1) else Nat.log2 (x*y+1)+1
theorem Q4p {x y:Nat} (hy:0 < y):gm y (x % y) < gm x y:=by
 have hr:=cF x hy
 unfold gm
 rw [aH (by omega)]
 by_cases h:y<=x
 ·rw [aH h]
  refine Q0x ?_
  have h1:y+x % y<=x:=by
   have:=dM x y
   have h2:1<=x / y:=(Nat.one_le_div_iff hy).2 h
   have h3:y*1<=y*(x / y):=Nat.mul_le_mul_left _ h2
   omega
  have h4:(2*(x % y)+1)*y<=x*y:=aS _ (by omega)
  rw [dU,Nat.mul_assoc,cJ (x % y) y] at h4
  omega
 rw [aI h,Nat.mod_eq_of_lt (by omega),cJ]
 omega
theorem Q2k (x y:Nat):Nat.gcd x y=Nat.gcd y (x % y):=by
 rw [Nat.gcd_comm,Nat.gcd_rec,Nat.gcd_comm]
theorem Q67 {x y:Nat} (hx:(dgs x).length<=8000) (hy:(dgs y).length<=8000):gm x y < 1152921504606846976:=by
 have h1:=Qti x
 have h2:=Qti y
 have h3:(dgs (x*y)).length<=16000:=by
  have:(dgs (x*y)).length<=(dgs x).length+(dgs y).length:=Qe2 (by rw [Nat.pow_add]; exact Nat.mul_lt_mul'' h1 h2)
  omega
 have:=Q1s h3
 unfold gm
 split <;> omega
def MX:Nat := 4611686018427387903
def mkQ (neg:Bool) (n d:Nat):Qm × Bool :=
 if n / Nat.gcd n d<=MX then (if d / Nat.gcd n d<=MX then (⟨if neg then -((n / Nat.gcd n d:Nat):Int) else ((n / Nat.gcd n d:Nat):Int),((d / Nat.gcd n d:Nat):Int)⟩,true) else (⟨0,0⟩,false)) else (⟨0,0⟩,false)
end Go.Ab
namespace Go.Ab
open Go
theorem Qtn {n:Int} (h:0<=n/\n < 18446744073709551616):zv n=n:=by
 obtain ⟨m,rfl⟩:=Int.eq_ofNat_of_zero_le h.1
 exact Qco (by omega)
theorem Qv7 {n:Int} (h:n < 0/\-18446744073709551616<=n):zv n=n+18446744073709551616:=by
 simp [IntKind.wrap,IntKind.bits,IntKind.signed]; omega
theorem Q0r (a b:Nat) (ha:a < 18446744073709551616) (hb:b < 18446744073709551616):Qbs (a:Int) (b:Int)=some ((Nat.gcd a b:Nat):Int):=by
 have l1:(dgs a).length<=5:=Qe2 (by omega)
 have l2:(dgs b).length<=5:=Qe2 (by omega)
 have lim:gm a b < 1152921504606846976:=Q67 (by omega) (by omega)
 unfold Qbs
 rw [Qrd (fun s=>∃x y:Nat,s.1=(x:Int)/\s.2=(y:Int)/\Nat.gcd x y=Nat.gcd a b) (fun s=>gm s.1.toNat s.2.toNat) ((Nat.gcd a b:Nat):Int) ?_ _ ⟨a,b,rfl,rfl,rfl⟩ (by simpa using lim)]
 ·rfl
 rintro ⟨x0,y0⟩ ⟨x,y,h1,h2,h3⟩
 simp only at h1 h2
 subst h1; subst h2
 unfold Qg7
 simp only
 by_cases hy:y=0
 ·right
  subst hy
  rw [aI (by simp)]
  rw [Nat.gcd_zero_right] at h3
  rw [h3]
 left
 rw [aH (by simp; omega),aH (by omega),Kn (by omega)]
 refine ⟨_,rfl,⟨y,x % y,rfl,by simp,?_⟩,?_⟩
 ·rw [<-h3,Q2k x y]
 simp only [aQ]
 rw [show ((x:Int) % (y:Int)).toNat = x % y by rw [<-Int.natCast_emod,aQ]]
 exact Q4p (by omega)
theorem Qso {p:Int} (h:-9223372036854775808<=p/\p<=9223372036854775807):J8 p=some (p.natAbs:Int):=by
 unfold J8
 by_cases h0:p < 0
 ·rw [aH (by simpa using h0)]
  have e:zv p=p+18446744073709551616:=Qv7 (by omega)
  rw [e,Qv7 (by omega)]
  congr 1; omega
 rw [aI (by simpa using h0),Qtn (by omega)]
 congr 1; omega
def Rt (q:Qm):Prop:=1<=q.D/\q.D<=4611686018427387903/\-4611686018427387903<=q.N/\q.N<=4611686018427387903/\Nat.gcd q.N.natAbs q.D.natAbs=1
instance instRt (q:Qm):Decidable (Rt q):=by unfold Rt; infer_instance
def I64 (q:Qm):Prop:=(-9223372036854775808<=q.N/\q.N<=9223372036854775807)/\(-9223372036854775808<=q.D/\q.D<=9223372036854775807)
theorem Rt.i64 {q:Qm} (h:Rt q):I64 q:=by obtain ⟨h1,h2,h3,h4,_⟩:=h; unfold I64; omega
def qI (n d:Int):Qm:=(mkQ (!((decide (n < 0))==(decide (d < 0)))) n.natAbs d.natAbs).1
theorem Qt0 {n d:Int} (hd:d≠0) (hn:n.natAbs<=MX) (hd':d.natAbs<=MX):qI n d=⟨if (!((decide (n < 0))==(decide (d < 0))))=true then -((n.natAbs / Nat.gcd n.natAbs d.natAbs:Nat):Int) else ((n.natAbs / Nat.gcd n.natAbs d.natAbs:Nat):Int),((d.natAbs / Nat.gcd n.natAbs d.natAbs:Nat):Int)⟩:=by
 unfold qI mkQ
 have h1:=Nat.div_le_self n.natAbs (Nat.gcd n.natAbs d.natAbs)
 have h2:=Nat.div_le_self d.natAbs (Nat.gcd n.natAbs d.natAbs)
 rw [aH (by omega),aH (by omega)]
theorem Qwf {n d:Int} (hn:n.natAbs<=MX) (hd:d.natAbs<=MX) (h0:d≠0):J2 n d=some (qI n d,0):=by
 have hMX:MX=4611686018427387903:=rfl
 unfold J2
 rw [aI (by simpa using h0)]
 unfold Qca
 rw [Qso (by omega),Qso (by omega)]
 simp only [aC]
 rw [Q0r _ _ (by omega) (by omega)]
 simp only [aC]
 have hg:0 < Nat.gcd n.natAbs d.natAbs:=Nat.gcd_pos_of_pos_right _ (by omega)
 rw [aH (by omega),aH (by omega)]
 have h1:=Nat.div_le_self n.natAbs (Nat.gcd n.natAbs d.natAbs)
 have h2:=Nat.div_le_self d.natAbs (Nat.gcd n.natAbs d.natAbs)
 have e1:Int.tdiv (n.natAbs:Int) ((Nat.gcd n.natAbs d.natAbs:Nat):Int)=((n.natAbs / Nat.gcd n.natAbs d.natAbs:Nat):Int):=by rw [Qnv (by omega)]; simp
 have e2:Int.tdiv (d.natAbs:Int) ((Nat.gcd n.natAbs d.natAbs:Nat):Int)=((d.natAbs / Nat.gcd n.natAbs d.natAbs:Nat):Int):=by rw [Qnv (by omega)]; simp
 rw [e1,e2,Qt0 h0 hn hd]
 generalize n.natAbs / Nat.gcd n.natAbs d.natAbs=x at *
 generalize d.natAbs / Nat.gcd n.natAbs d.natAbs=y at *
 rw [Qtn (by omega),Qtn (by omega)]
 unfold Qi7
 simp only
 rw [aI (by simp),aI (by simp; omega),aI (by simp),aI (by simp; omega)]
 generalize (!((decide (n < 0))==(decide (d < 0))))=b
 cases b
 ·rw [aI (by simp),aI (by simp),w64 (by omega),w64 (by omega)]; rfl
 rw [aH rfl,aH rfl,w64 (n:=(x:Int)) (by omega),w64 (n:=(y:Int)) (by omega),w64 (by omega)]
 simp
end Go.Ab
namespace Go.Ab
open Go
section
variable {D:NF}
def evJ (D:NF) (e:List Int) (j:Nat):Prop:=-1<=(e[j]?).getD 0/\(e[j]?).getD 0 < D.card j
def evL (D:NF) (e:List Int):Prop:=e.length=D.n/\∀j,j < D.n->evJ D e j
theorem Q3g {e:List Int} {j:Nat} (hj:j < e.length):lkI e (j:Int)=some ((e[j]?).getD 0):=by rw [Y4 hj,aG hj]; rfl
theorem Qv4 (X:VX D) (e:List Int):(evL D e/\Z1 D.net e=some 0)\/(¬ evL D e/\Z1 D.net e=some 2):=by
 have V:=X.vn
 have hn:=V.n8
 have hlen:D.net.Nodes.length=D.n:=Qn
 obtain ⟨order,hr⟩:=Qmv X
 unfold Z1
 rw [hr,aC,aI (by simp)]
 dsimp only
 rw [hlen]
 by_cases c:e.length=D.n
 ·rw [aI (by simp; omega)]
  have h:=Qqx (n:=D.n) (by omega) (evJ D e) (fun i (_:Unit)=>i) (body:=Zw e (⟨D.net,Qk D.n D.card,Qk D.n (setN D),order⟩,0)) (fun _=>()) (.inr ()) (.inl ())
   (fun j hj hI hg=>by
    obtain ⟨g1,g2⟩:=hg
    unfold Zw
    dsimp only
    rw [c,aH (dlt hj),Q3g (by omega),aC,aI (by simp; exact g1),Zp hj,aC,aI (by simp; exact g2)])
   (fun j hj hI hg=>by
    unfold Zw
    dsimp only
    rw [c,aH (dlt hj),Q3g (by omega),aC]
    by_cases c1:(e[j]?).getD 0 < -1
    ·rw [aH (by simpa using c1)]
    rw [aI (by simpa using c1),Zp hj,aC,aH (by
     rw [aN]
     exact Int.not_lt.1 fun hh=>hg ⟨by omega,hh⟩)])
   (fun hI=>by unfold Zw; dsimp only; rw [c,aI (nlt _)])
  rcases h with ⟨h,e1⟩ | ⟨h,e1⟩
  ·left; refine ⟨⟨c,h⟩,?_⟩
   have e1:Qc fuel (Zw e (⟨D.net,Qk D.n D.card,Qk D.n (setN D),order⟩,0)) 0=some (.inr ()):=e1
   rw [e1]; rfl
  right; refine ⟨fun hh=>h hh.2,?_⟩
  have e1:Qc fuel (Zw e (⟨D.net,Qk D.n D.card,Qk D.n (setN D),order⟩,0)) 0=some (.inl ()):=e1
  rw [e1]; rfl
 rw [aH (by simp; omega)]
 exact .inr ⟨fun hh=>c hh.1,rfl⟩
end
end Go.Ab
namespace Go.Ab
open Go
theorem Qyb:Qeu=some true:=by kernel_rfl
end Go.Ab
namespace Go.Ab
open Go
def Xn (S E:Nat -> Int):Nat -> Int:=fun j=>if S j=-1 then E j else if E j=-1\/E j=S j then S j else 100
theorem Qi1 {S E:Nat -> Int} {j x:Nat} (hx:x < 100):okE (Xn S E) j x↔okE S j x/\okE E j x:=by
 unfold okE Xn
 by_cases h1:S j=-1
 ·simp [h1]
 by_cases h2:E j=-1\/E j=S j
 ·rw [aI h1,aH h2]; omega
 rw [aI h1,aI h2]; omega
def NF.fr (D:NF) (m:Nat) (w:Nat -> Nat):Nat -> Nat := fun k=>Qp k fun v=>if m.testBit v=true then 1 else D.wt w v
def fS (D:NF) (m:Nat) (w:Nat -> Nat):Int:=(D.fr m w D.n:Int)
def actS (n:Nat) (S:Nat -> Int):Nat := msk n fun j=>decide (0<=S j)
theorem Qj0 {n:Nat} {S:Nat -> Int} {j:Nat}:(actS n S).testBit j=(decide (j < n) && decide (0<=S j)):=Qge _ _ _
theorem Qo1 {n:Nat} {p:Nat -> Bool}:msk n p < 2^n:=Nat.lt_pow_two_of_testBit _ fun j hj=>by rw [Qge]; simp; omega
theorem Qqc {n:Nat} {S:Nat -> Int} (hn:n<=8):actS n S < 18446744073709551616:=bM Qo1 (bV (aU (by omega) hn) (by decide))
theorem Qqi {a k:Nat} (ha:a < 18446744073709551616) (hk:k < 64) :
  ((zv (zb (Int.fdiv (a:Int) (2^min (Int.toNat (k:Int)) zk)) &&& zb 1).toNat)==1)=a.testBit k:=by
 rw [Qxt ha hk]; cases a.testBit k <;> rfl
section
variable {D:NF} {w:Nat -> Nat} {m:Nat}
theorem Q2q {n:Nat} (hn:n<=8) {S:Nat -> Int}:K3 (Qb n S)=some (actS n S:Int):=by
 have hr:=Xy (n:=n) (k0:=0) (by omega) (by omega) (fun i (t:Int)=>(t,i)) (body:=Qaz (Qb n S)) (fun k=>(actS k S:Int)) (actS n S:Int)
  (fun k _ hk=>by
   unfold Qaz
   rw [aH (by rw [Qn]; exact dlt hk),show lkI (Qb n S) (k:Int)=some (S k) from Qv hk,aC]
   by_cases c:0<=S k
   ·rw [aH (by simpa using c),aH (by omega)]
    simp only
    rw [Qmr (Qqc (by omega)) (by omega),show actS (k+1) S=actS k S ||| 2^k by show msk k _ ||| _=_; rw [aH (by simpa using c)]; rfl]
   rw [aI (by simpa using c),show actS (k+1) S=actS k S by show msk k _ ||| _=_; rw [aI (by simpa using c)]; simp [actS]])
  (by unfold Qaz; rw [aI (by rw [Qn]; exact nlt n)])
 unfold K3
 rw [show ((0:Int),(0:Int))=(((actS 0 S:Nat):Int),((0:Nat):Int)) from rfl,hr]; rfl
variable (V:VN D)
include V
theorem VN.aweigh0 (hw:D.ok w) {v:Nat} (hv:v < D.n):Qc fuel (Qau (D.node v) D.net (Qk D.n w)) (0,0)=some (D.idx v w:Int):=by
 have hl:(D.node v).Parents.length=(D.par v).length:=by simp [NF.node]
 refine Xx (fun k=>((Yu D.card w ((D.par v).take k):Int),(k:Int))) (D.par v).length _ rfl (fun k hk=>?_) ?_ (by have:=V.len v hv; omega)
 ·have hlen:=V.len v hv
  have hp:=V.par v hv (D.par v)[k] (bJ hk)
  have hpar:lkI (D.node v).Parents (k:Int)=some (((D.par v)[k]:Nat):Int):=by rw [Y4 (by rw [hl]; exact hk)]; simp [NF.node]
  have h1:Yu D.card w ((D.par v).take k) < lprod D.card ((D.par v).take k):=Qri fun p hp=>hw p (V.par v hv p (bH hp))
  have h2:lprod D.card ((D.par v).take k)<=4^8:=bV (Qgv fun p hp=>(V.card p (V.par v hv p (bH hp))).2) (aU (by omega) (by rw [cR]; omega))
  have h3:Yu D.card w ((D.par v).take (k+1))=Yu D.card w ((D.par v).take k)*D.card (D.par v)[k]+w (D.par v)[k]:=by rw [Jp hk,Qrv]
  have hc:=(V.card _ hp).2
  have hww:=hw _ hp
  have h4:Yu D.card w ((D.par v).take k)*D.card (D.par v)[k]<=65536*4:=Nat.mul_le_mul (by omega) hc
  unfold Qau
  simp only
  rw [aH (by rw [hl]; simpa using hk),hpar]
  simp only [aC]
  rw [V.node hp]
  simp only [aC]
  rw [Zp hp]
  simp only [aC]
  have e1:((Yu D.card w ((D.par v).take k):Nat):Int)*(D.node (D.par v)[k]).Card=((Yu D.card w ((D.par v).take k)*D.card (D.par v)[k]:Nat):Int):=by simp [NF.node]
  have w1:zw ((Yu D.card w ((D.par v).take k)*D.card (D.par v)[k]:Nat):Int)=((Yu D.card w ((D.par v).take k)*D.card (D.par v)[k]:Nat):Int):=w64 (by omega)
  rw [e1,w1,w64 (by omega),w64 (by omega),h3]
  simp
 unfold Qau
 simp only
 rw [aI (by rw [hl]; simp)]
 simp [NF.idx]
theorem VN.fr_le (hw:D.ok w) {k:Nat} (hk:k<=D.n):D.fr m w k<=167961600000000:=by
 have h1:D.fr m w k<=60^k:=Qk0 fun v hv=>by
  split
  ·omega
  exact V.wt_le hw (by omega)
 exact bV h1 (bV (aU (by omega) (bV hk V.n8)) (by decide))
theorem VN.aweigh (hm:m < 18446744073709551616) (hw:D.ok w):K4 D.net (m:Int) (Qk D.n w)=some (fS D m w):=by
 have hlen:D.net.Nodes.length=D.n:=Qn
 have hn8:=V.n8
 have hr:=Xy (n:=D.n) (k0:=0) (by omega) (by omega) (fun i (t:Int)=>(t,i)) (body:=Qap D.net (m:Int) (Qk D.n w)) (fun k=>(D.fr m w k:Int)) (D.fr m w D.n:Int)
  (fun k _ hk=>by
   have hb:=V.fr_le (m:=m) hw (k:=k) (by omega)
   have hwt:=V.wt_le hw hk
   have hi:=V.idx_lt hw hk
   have hmm:D.fr m w k*D.wt w k<=167961600000000*60:=Nat.mul_le_mul hb hwt
   unfold Qap
   rw [aH (by rw [hlen]; exact dlt hk),V.node hk,aC,aH (by omega)]
   simp only
   rw [Qqi hm (by omega)]
   by_cases c:m.testBit k=true
   ·rw [aH c,show D.fr m w (k+1)=D.fr m w k by show D.fr m w k*(if m.testBit k=true then 1 else D.wt w k)=_; rw [aH c,Nat.mul_one]]
   rw [aI c,V.aweigh0 hw hk,aC,show lkI (D.node k).Rows (D.idx k w:Int)=some (Qb (D.card k) fun x=>(D.W k (D.idx k w) x:Int)) from Qv hi,aC,Zp hk,aC,
    show lkI (Qb (D.card k) fun x=>(D.W k (D.idx k w) x:Int)) (w k:Int)=some (D.wt w k:Int) from Qv (hw k hk),aC,w64 (by rw [<-Int.natCast_mul]; omega),
    show D.fr m w (k+1)=D.fr m w k*D.wt w k by show D.fr m w k*(if m.testBit k=true then 1 else D.wt w k)=_; rw [aI c],Int.natCast_mul])
  (by unfold Qap; rw [aI (by rw [hlen]; exact nlt _)])
 unfold K4
 rw [show ((1:Int),(0:Int))=(((D.fr m w 0:Nat):Int),((0:Nat):Int)) from rfl,hr]; rfl
theorem Qad:Ext D (fS D m):=fun w w' h=>by
 unfold fS NF.fr
 congr 1
 exact Kd fun v hv=>by rw [Q5i V h hv]
theorem Qmw:∀w,D.ok w->BD 1 (fS D m w):=fun w hw=>by
 have:=V.fr_le (m:=m) hw (aZ _)
 unfold fS BD KK; omega
theorem Qrn {w:Nat -> Nat}:0<=fS D m w:=by unfold fS; omega
end
def FWl {τ:Type} (D:NF) (K:Nat -> Nat -> Bool) (leaf:τ->(Nat -> Nat)->τ):Nat -> Nat -> (Nat -> Nat)->τ->τ
 | 0,_,w,t=>leaf t w
 | d+1,i,w,t=>(List.range (D.card i)).foldl (fun t x=>if K i x then FWl D K leaf d (i+1) (updF w i x) t else t) t
def FXl {τ:Type} (D:NF) (K:Nat -> Nat -> Bool) (leaf:τ->(Nat -> Nat)->τ) (d i:Nat) (w:Nat -> Nat) (t:τ) (x:Nat):τ:=(List.range x).foldl (fun t x=>if K i x then FWl D K leaf d (i+1) (updF w i x) t else t) t
theorem Qjz {τ:Type} {D:NF} {K:Nat -> Nat -> Bool} {leaf:τ->(Nat -> Nat)->τ} {d i:Nat} {w:Nat -> Nat} {t:τ} {x:Nat} :
  FXl D K leaf d i w t (x+1)=if K i x then FWl D K leaf d (i+1) (updF w i x) (FXl D K leaf d i w t x) else FXl D K leaf d i w t x:=by
 unfold FXl; rw [List.range_succ,List.foldl_append]; rfl
theorem Qrl {τ:Type} {D:NF} {K:Nat -> Nat -> Bool} {leaf:τ->(Nat -> Nat)->τ} (hf:∀t w w',(∀j,j < D.n->w j=w' j)->leaf t w=leaf t w') :
  ∀(d i:Nat) (w w':Nat -> Nat) (t:τ),i+d=D.n->(∀j,j < i->w j=w' j)->FWl D K leaf d i w t=FWl D K leaf d i w' t
 | 0,i,w,w',t,hi,h=>hf t w w' fun j hj=>h j (by omega)
 | d+1,i,w,w',t,hi,h=>by
  unfold FWl
  have:∀(l:List Nat) (t:τ),l.foldl (fun t x=>if K i x then FWl D K leaf d (i+1) (updF w i x) t else t) t=l.foldl (fun t x=>if K i x then FWl D K leaf d (i+1) (updF w' i x) t else t) t:=fun l=>by
   induction l with
   | nil=>intro t; rfl
   | cons x l ih =>
    intro t
    simp only [List.foldl_cons]
    rw [ih]
    congr 1
    split
    ·exact Qrl hf d (i+1) _ _ t (by omega) fun j hj=>by
      by_cases e:j=i
      ·subst e; rw [Q9,Q9]
      rw [Zz e,Zz e]; exact h j (by omega)
    rfl
  exact this _ t
theorem Qv8 {τ:Type} {D:NF} {K:Nat -> Nat -> Bool} {leaf:τ->(Nat -> Nat)->τ} {I:Nat -> τ->Prop} (mono:∀m p t,I m t->m<=p->I p t) (hl:∀m t w,I m t->D.ok w->I (m+1) (leaf t w)) :
  ∀(d i:Nat) (w:Nat -> Nat) (t:τ) (m:Nat),i+d=D.n->D.ok w->I m t->I (m+PC D d i) (FWl D K leaf d i w t)
 | 0,i,w,t,m,hi,hw,h=>hl m t w h hw
 | d+1,i,w,t,m,hi,hw,h=>by
  have:∀x,x<=D.card i->I (m+x*PC D d (i+1)) (FXl D K leaf d i w t x):=fun x=>by
   induction x with
   | zero=>intro _; simpa [FXl] using h
   | succ x ih =>
    intro hx
    rw [Qjz,dS,<-cH]
    split
    ·exact Qv8 mono hl d (i+1) _ _ _ (by omega) (Qpj hw (by omega)) (ih (by omega))
    exact mono _ _ _ (ih (by omega)) (by omega)
  exact this _ (aZ _)
theorem Qss {τ σ ρ:Type} {D:NF} (V:VN D) {K:Nat -> Nat -> Bool} {leaf:τ->(Nat -> Nat)->τ} (hext:∀t w w',(∀j,j < D.n->w j=w' j)->leaf t w=leaf t w')
  {I:Nat -> τ->Prop} (mono:∀m p t,I m t->m<=p->I p t) (hl:∀m t w,I m t->D.ok w->I (m+1) (leaf t w))
  (mkS:Int->τ->List Int->σ) (mkT:τ->List Int->ρ) {F:(σ->Option ρ)->σ->Option ρ} {B:(σ->Option ρ)->Nat -> τ->(Nat -> Nat)->σ->Option (Qh σ ρ)}
  (hleaf:∀r m t w,D.ok w->I m t->m+1<=1024->F r (mkS (D.n:Int) t (Qk D.n w))=some (mkT (leaf t w) (Qk D.n w)))
  (hnode:∀r i t w z,i < D.n->D.ok w->Qc fuel (B r i t w) (mkS 0 t (Qk D.n w))=some z->F r (mkS (i:Int) t (Qk D.n w))=some z)
  (hyes:∀r i t0 w0 x t w z w',i < D.n->D.ok w->x < D.card i->K i x=true->r (mkS ((i+1:Nat):Int) t (Qk D.n (updF w i x)))=some (mkT z (Qk D.n w'))->B r i t0 w0 (mkS (x:Int) t (Qk D.n w))=some (.next (mkS ((x+1:Nat):Int) z (Qk D.n w'))))
  (hno:∀r i t0 w0 x t w,i < D.n->D.ok w->x < D.card i->K i x=false->B r i t0 w0 (mkS (x:Int) t (Qk D.n w))=some (.next (mkS ((x+1:Nat):Int) t (Qk D.n w))))
  (hend:∀r i t0 w0 t w,i < D.n->D.ok w->B r i t0 w0 (mkS (D.card i:Int) t (Qk D.n w))=some (.done (mkT t (Qk D.n w)))) :
  ∀(d N:Nat),d < N->∀(i m:Nat) (w:Nat -> Nat) (t:τ),i+d=D.n->D.ok w->I m t->m+PC D d i<=1024 ->
   ∃w',D.ok w'/\(∀j,j < i->w' j=w j)/\Qa7 F N (mkS (i:Int) t (Qk D.n w))=some (mkT (FWl D K leaf d i w t) (Qk D.n w'))
 | 0,N+1,_,i,m,w,t,hi,hw,hI,hm=>by
  have e:i=D.n:=by omega
  subst e
  refine ⟨w,hw,fun _ _=>rfl,?_⟩
  show F (Qa7 F N) _=_
  exact hleaf _ m t w hw hI hm
 | d+1,N+1,hN,i,m,w,t,hi,hw,hI,hm=>by
  have hin:i < D.n:=by omega
  have hc:=V.card i hin
  have hPC:PC D (d+1) i=D.card i*PC D d (i+1):=rfl
  have key:∀x,x<=D.card i->I (m+x*PC D d (i+1)) (FXl D K leaf d i w t x):=fun x=>by
   induction x with
   | zero=>intro _; simpa [FXl] using hI
   | succ x ih =>
    intro hx
    rw [Qjz,dS,<-cH]
    split
    ·exact Qv8 mono hl d (i+1) _ _ _ (by omega) (Qpj hw (by omega)) (ih (by omega))
    exact mono _ _ _ (ih (by omega)) (by omega)
  have hloop:∀x w',x<=D.card i->D.ok w'->(∀j,j < i->w' j=w j)->∀k,D.card i - x < k ->
    ∃w2,D.ok w2/\(∀j,j < i->w2 j=w j)/\Qc k (B (Qa7 F N) i t w) (mkS (x:Int) (FXl D K leaf d i w t x) (Qk D.n w'))=some (mkT (FXl D K leaf d i w t (D.card i)) (Qk D.n w2)):=by
   intro x w' hx hw' hag k
   induction hk:D.card i - x generalizing x w' k with
   | zero =>
    intro hk'
    obtain ⟨k,rfl⟩:∃k',k=k'+1:=⟨k - 1,by omega⟩
    have:x=D.card i:=by omega
    subst this
    refine ⟨w',hw',hag,?_⟩
    unfold Qc
    rw [hend _ i t w _ w' hin hw']
   | succ q ih =>
    intro hk'
    obtain ⟨k,rfl⟩:∃k',k=k'+1:=⟨k - 1,by omega⟩
    have hlt:x < D.card i:=by omega
    by_cases c:K i x=true
    ·have hxm:m+x*PC D d (i+1)+PC D d (i+1)<=1024:=by
      have:(x+1)*PC D d (i+1)<=D.card i*PC D d (i+1):=aS _ hlt
      rw [dS] at this
      omega
     obtain ⟨w2,k1,k2,k3⟩:=Qss V hext mono hl mkS mkT hleaf hnode hyes hno hend d N (by omega) (i+1) (m+x*PC D d (i+1)) (updF w' i x) (FXl D K leaf d i w t x) (by omega) (Qpj hw' hlt) (key x (by omega)) hxm
     have e1:FXl D K leaf d i w t (x+1)=FWl D K leaf d (i+1) (updF w' i x) (FXl D K leaf d i w t x):=by
      rw [Qjz,aH c]
      exact Qrl hext d (i+1) _ _ _ (by omega) fun j hj=>by
       by_cases e:j=i
       ·subst e; rw [Q9,Q9]
       rw [Zz e,Zz e]; exact (hag j (by omega)).symm
     rw [<-e1] at k3
     obtain ⟨w3,j1,j2,j3⟩:=ih (x+1) w2 (by omega) k1 (fun j hj=>by rw [k2 j (by omega),Zz (by omega),hag j hj]) k (by omega) (by omega)
     refine ⟨w3,j1,j2,?_⟩
     unfold Qc
     rw [hyes _ i t w x _ w' _ w2 hin hw' hlt c k3]
     exact j3
    have c':K i x=false:=by simpa using c
    obtain ⟨w3,j1,j2,j3⟩:=ih (x+1) w' (by omega) hw' hag k (by omega) (by omega)
    refine ⟨w3,j1,j2,?_⟩
    unfold Qc
    rw [hno _ i t w x _ w' hin hw' hlt c']
    rw [Qjz,aI c] at j3
    exact j3
  obtain ⟨w2,k1,k2,k3⟩:=hloop 0 w (by omega) hw (fun _ _=>rfl) fuel (by unfold fuel; omega)
  refine ⟨w2,k1,k2,?_⟩
  show F (Qa7 F N) _=_
  exact hnode _ i t w _ hin hw k3
end Go.Ab
namespace Go.Ab
open Go
theorem Qcv {D:NF} {τ:Type} {p:τ->Int} {K:Nat -> Nat -> Bool} {g:Nat -> τ->τ} {h:Nat -> Int} {i:Nat} (hh:∀x t,K i x=true->p (g x t)=p t+h x) :
  ∀(n:Nat) (t:τ),p ((List.range n).foldl (fun t x=>if K i x then g x t else t) t)=p t+Qi n fun x=>if K i x=true then h x else 0
 | 0,t=>by simp [Qi]
 | n+1,t=>by
  rw [List.range_succ,List.foldl_append]
  simp only [List.foldl_cons,List.foldl_nil,Qi]
  split
  ·rename_i c; rw [hh _ _ c,Qcv (D:=D) hh n t]; omega
  rw [Qcv (D:=D) hh n t]; omega
def KE (E:Nat -> Int):Nat -> Nat -> Bool:=fun i x=>decide (okE E i x)
theorem Qn1 {D:NF} {τ:Type} {E:Nat -> Int} {leaf:τ->(Nat -> Nat)->τ} {p:τ->Int} {f:(Nat -> Nat)->Int} (h:∀t w,p (leaf t w)=p t+f w) :
  ∀(d i:Nat) (w:Nat -> Nat) (t:τ),p (FWl D (KE E) leaf d i w t)=p t+TM D E f d i w
 | 0,i,w,t=>h t w
 | d+1,i,w,t=>by
  unfold FWl
  rw [Qcv (D:=D) (p:=p) (h:=fun x=>TM D E f d (i+1) (updF w i x)) (fun x t _=>Qn1 h d (i+1) _ t)]
  congr 1
  refine Q7 fun x _=>?_
  unfold KE
  by_cases c:okE E i x
  ·rw [aH (by simpa using c)]; exact (aH (show E i=-1\/E i=(x:Int) from c)).symm
  rw [aI (by simpa using c)]; exact (aI (show ¬ (E i=-1\/E i=(x:Int)) from c)).symm
theorem Qww {a b x:Int} {body:Int->Option (Qh Int (Unit ⊕ Unit))} (ha:-1<=a) (hb:-1<=b)
  (h0:body 0=if (decide (a>=0))=true then (if (a != x)=true then some (.done (Sum.inl ())) else some (.next 1)) else some (.next 1))
  (h1:body 1=if (decide (b>=0))=true then (if (b != x)=true then some (.done (Sum.inl ())) else some (.next 2)) else some (.next 2))
  (h2:body 2=some (.done (Sum.inr ()))):Qc fuel body 0=some (if (a=-1\/a=x)/\(b=-1\/b=x) then Sum.inr () else Sum.inl ()):=by
 have st:∀{y:Int} {o:Option (Qh Int (Unit ⊕ Unit))} {z:Int},-1<=y->o=(if (decide (y>=0))=true then (if (y != x)=true then some (.done (Sum.inl ())) else some (.next z)) else some (.next z)) ->
   ((y=-1\/y=x)->o=some (.next z))/\(¬ (y=-1\/y=x)->o=some (.done (Sum.inl ()))):=fun {y o z} hy h=>by
  constructor
  ·intro c
   rw [h]
   rcases c with c | c
   ·rw [aI (by simp; omega)]
   ·by_cases c2:0<=y
    ·rw [aH (by simpa using c2),aI (by simpa using c)]
    ·rw [aI (by simpa using c2)]
  ·intro c
   rw [h,aH (by simp; omega),aH (by simp; omega)]
 refine Qrd (fun s=>s=0\/(s=1/\(a=-1\/a=x))\/(s=2/\(a=-1\/a=x)/\(b=-1\/b=x))) (fun s=>(3 - s).toNat) _ (fun s hs=>?_) 0 (.inl rfl) (by decide)
 rcases hs with rfl | ⟨rfl,c⟩ | ⟨rfl,c,c'⟩
 ·by_cases c:a=-1\/a=x
  ·exact .inl ⟨1,(st ha h0).1 c,.inr (.inl ⟨rfl,c⟩),by decide⟩
  ·exact .inr (by rw [(st ha h0).2 c,aI (fun h=>c h.1)])
 ·by_cases c':b=-1\/b=x
  ·exact .inl ⟨2,(st hb h1).1 c',.inr (.inr ⟨rfl,c,c'⟩),by decide⟩
  ·exact .inr (by rw [(st hb h1).2 c',aI (fun h=>c' h.2)])
 ·exact .inr (by rw [h2,aH ⟨c,c'⟩])
def Yd (D:NF) (S E:Nat -> Int):Int:=SW D (Xn S E) (fS D (actS D.n S))
theorem Q18 {D:NF}:PC D D.n 0=Qp D.n D.card:=by have:=Qpt (D:=D) D.n 0; simpa [Qp] using this
theorem Qg0 {n i x:Nat} {w:Nat -> Nat}:(Qk n w).set i (x:Int)=Qk n (updF w i x):=by
 unfold Qk; rw [Z9]
 refine Qf fun j _=>?_
 unfold updF
 split <;> rfl
theorem Qoy {n:Nat}:List.replicate (Int.toNat (n:Int)) (0:Int)=Qk n fun _=>0:=by rw [aQ]; exact J4 n 0
section
variable {D:NF} {S E:Nat -> Int}
theorem Ql7 {f:(Nat -> Nat)->Int} {K:Nat -> Int} (hf:∀w,0<=f w):∀(d i:Nat) (w:Nat -> Nat),0<=TM D K f d i w
 | 0,i,w=>hf w
 | d+1,i,w=>Vh fun x _=>by
  split
  ·exact Ql7 hf d (i+1) _
  exact Int.le_refl _
theorem Qcd (V:VN D) {m:Nat} {K:Nat -> Int}:0<=SW D K (fS D m)/\(SW D K (fS D m)).natAbs<=MX:=by
 have h1:0<=SW D K (fS D m):=Ql7 (fun w=>Qrn V) _ _ _
 have h2:=Q3j V (m:=1024) (E:=K) V.worlds (Qmw V (m:=m))
 unfold BD KK at h2
 refine ⟨h1,?_⟩
 unfold MX; omega
theorem Q5q (X:VX D) (ls:List (Nat -> Int)) (hl:ls.length<=2) (h:∀S∈ls,Jg D S):V3 D.net (ls.map (Qb D.n))=some 0:=by
 obtain ⟨order,hr⟩:=Qmv X
 have hr2:=Xy (n:=ls.length) (k0:=0) (by omega) (by omega) (fun i (_:Unit)=>i) (body:=Qav (ls.map (Qb D.n)) D.net) (fun _=>()) (.inr ())
  (fun k _ hk=>by
   unfold Qav
   rw [aH (by rw [bW]; exact dlt hk),Y4 (by rw [bW]; exact hk),aC]
   have hc:Z1 D.net (Qb D.n ls[k])=some 0:=by
    rcases Qv4 X (Qb D.n ls[k]) with ⟨_,c⟩ | ⟨c,_⟩
    ·exact c
    refine absurd ⟨Qn,fun j hj=>?_⟩ c
    unfold evJ
    have e:((Qb D.n ls[k])[j]?).getD 0=ls[k] j:=by unfold Qb; rw [bD,List.getElem?_range hj]; rfl
    rw [e]; exact h _ (bJ hk) j hj
   rw [List.getElem_map,hc,aC,aI (by decide)])
  (by unfold Qav; rw [aI (by rw [bW]; exact nlt _)])
 unfold V3 Qht
 rw [hr]
 simp only [aC]
 rw [aI (by simp),show ((0:Int))=((0:Nat):Int) from rfl,hr2]; rfl
end
end Go.Ab
namespace Go.Ab
open Go
open Classical
section
variable {D:NF} {S E:Nat -> Int}
theorem Qeo (V:VN D) {f:(Nat -> Nat)->Int} (hf:Ext D f) {K:Nat -> Int}:SW D K f=Qi (Qp D.n D.card) (fun W=>if Zu D.n K 0 (dig D W) then f (dig D W) else 0):=by
 have hmix:∀W,mix D 0 (fun _=>0) W=dig D W:=fun W=>by funext j; simp [mix]
 unfold SW
 rw [<-Qor V hf D.n 0 (fun _=>0) (by omega),Q18]
 exact Q7 fun W _=>by rw [hmix]
theorem Qfq {w:Nat -> Nat} (hw:∀j,j < D.n->w j < 100):Zu D.n (Xn S E) 0 w↔Zu D.n S 0 w/\Zu D.n E 0 w:=by
 constructor
 ·intro h
  exact ⟨fun j h1 h2=>((Qi1 (hw j h2)).1 (h j h1 h2)).1,fun j h1 h2=>((Qi1 (hw j h2)).1 (h j h1 h2)).2⟩
 rintro ⟨h1,h2⟩ j h3 h4
 exact (Qi1 (hw j h4)).2 ⟨h1 j h3 h4,h2 j h3 h4⟩
theorem Qut (V:VN D) {W:Nat}:∀j,j < D.n->dig D W j < 100:=fun j hj=>by
 have h1:=Qo8 V W j hj
 have h2:=(V.card j hj).2
 omega
def Qa3 (D:NF) (S E:Nat -> Int) (v k:Nat):Int:=SW D (Xn S E) (at' v k (fS D (actS D.n S)))
def acL (f:(Nat -> Nat)->Int) (v:Nat) (t:Int × (Nat -> Int)) (w:Nat -> Nat):Int × (Nat -> Int):=(t.1+f w,fun x=>t.2 x+at' v x f w)
theorem Qlr (hS:Jg D S) (hE:Jg D E) {i x:Nat} (hi:i < D.n) (hx:x < 100) {s t:Int × Int × List Int × List Int} (hs:s.1=i) (ht:t.1=x) :
  Qc fuel (Qcx (Qb D.n S) (Qb D.n E) s t) 0=some (if KE (Xn S E) i x=true then Sum.inr () else Sum.inl ()):=by
 have hl:∀F:Nat -> Int,lkI (Qb D.n F) s.1=some (F i):=fun F=>by rw [hs]; exact Qv hi
 rw [Qww (a:=S i) (b:=E i) (x:=t.1) (hS i hi).1 (hE i hi).1]
 ·congr 1
  rw [ht]
  by_cases c:okE (Xn S E) i x
  ·rw [aH (show (S i=-1\/S i=(x:Int))/\(E i=-1\/E i=(x:Int)) from (Qi1 hx).1 c),aH (by unfold KE; simpa using c)]
  ·rw [aI (fun h:(S i=-1\/S i=(x:Int))/\(E i=-1\/E i=(x:Int))=>c ((Qi1 hx).2 h)),aI (by unfold KE; simpa using c)]
 all_goals (unfold Qcx; simp only [dG,List.length_nil])
 ·rw [aH (by simp),show lkI ([Qb D.n S,Qb D.n E]:List (List Int)) 0=some (Qb D.n S) from rfl,aC,hl,aC]; rfl
 ·rw [aH (by simp),show lkI ([Qb D.n S,Qb D.n E]:List (List Int)) 1=some (Qb D.n E) from rfl,aC,hl,aC]; rfl
 ·rfl
theorem Qxl (V:VN D) {m v:Nat} (hm:m < 18446744073709551616) (hv:v < D.n) (hS:Jg D S) (hE:Jg D E) :
  ∃w',Qa7 (Jz D.net (m:Int) (v:Int) (Qb D.n S) (Qb D.n E)) fuel (0,0,Qk (D.card v) (fun _=>0),Qk D.n fun _=>0) =
   some (SW D (Xn S E) (fS D m),Qb (D.card v) (fun k=>SW D (Xn S E) (at' v k (fS D m))),Qk D.n w'):=by
 have hw:=V.worlds
 have hn8:=V.n8
 obtain ⟨w',_,_,h⟩:=Qss V (K:=KE (Xn S E)) (leaf:=acL (fS D m) v) (fun t w w' h=>by unfold acL; rw [Qad V w w' h]; congr 1; funext x; rw [Qlp hv (Qad V) w w' h])
  (I:=fun m t=>BD m t.1/\∀x,BD m (t.2 x)) (fun _ _ _ h hp=>⟨h.1.mono hp,fun x=>(h.2 x).mono hp⟩) (fun _ _ w h hw=>⟨h.1.add (Qmw V w hw),fun x=>(h.2 x).add (Q2v (Qmw V) w hw)⟩)
  (fun i t l=>((i,t.1,Qb (D.card v) t.2,l):Int × Int × List Int × List Int)) (fun t l=>((t.1,Qb (D.card v) t.2,l):Int × List Int × List Int))
  (F:=Jz D.net (m:Int) (v:Int) (Qb D.n S) (Qb D.n E)) (B:=fun r i t w=>J1 (D.node i) (Qb D.n S) (Qb D.n E) ((i:Int),t.1,Qb (D.card v) t.2,Qk D.n w) r)
  (fun r p t w hw hI hp=>by
   have hwv:=hw v hv
   unfold Jz
   simp only
   rw [aH (by rw [Yt]; simp),V.aweigh hm hw,aC,w64 ((hI.1.add (Qmw V w hw)).fit hp),Zp hv,aC,show lkI (Qb (D.card v) t.2) (w v:Int)=some (t.2 (w v)) from Qv hwv,aC,
    w64 (((hI.2 (w v)).add (Qmw V w hw)).fit hp),aQ,Z9]
   have e:(Qb (D.card v) fun s=>if s=w v then t.2 (w v)+fS D m w else t.2 s)=Qb (D.card v) (acL (fS D m) v t w).2:=Qf fun x _=>by
    show _=t.2 x+at' v x (fS D m) w
    unfold at'
    by_cases c:x=w v
    ·subst c; rw [aH rfl,aH rfl]
    rw [aI c,aI (Ne.symm c),Int.add_zero]
   rw [e]; rfl)
  (fun r i t w z hi hw hz=>by
   unfold Jz
   simp only
   rw [aI (by rw [Yt]; simp; omega),V.node hi,aC,hz,aC])
  (fun r i t0 w0 x t w z w' hi hw hx hk hr=>by
   have hc:=(V.card i hi).2
   unfold J1
   simp only
   rw [aH (by simp [NF.node]; omega),Qlr hS hE hi (by omega) rfl rfl,aH hk,aC]
   simp only
   rw [Zp hi,aC,aQ,Qg0,Qcr (by omega),hr,aC,Qcr (by omega)])
  (fun r i t0 w0 x t w hi hw hx hk=>by
   have hc:=(V.card i hi).2
   unfold J1
   simp only
   rw [aH (by simp [NF.node]; omega),Qlr hS hE hi (by omega) rfl rfl,aI (by simp [hk]),aC]
   simp only
   rw [Qcr (by omega)])
  (fun r i t0 w0 t w hi hw=>by
   unfold J1
   simp only
   rw [aI (by simp [NF.node])])
  D.n fuel (by unfold fuel; omega) 0 0 (fun _=>0) (0,fun _=>0) (by omega) (fun v hv=>(V.card v hv).1) ⟨BD.zero,fun _=>BD.zero⟩ (by rw [Q18]; omega)
 have hr1:=Qn1 (D:=D) (E:=Xn S E) (leaf:=acL (fS D m) v) (p:=fun t=>t.1) (f:=fS D m) (fun _ _=>rfl) D.n 0 (fun _=>0) (0,fun _=>0)
 have hr2:∀x,_:=fun x=>Qn1 (D:=D) (E:=Xn S E) (leaf:=acL (fS D m) v) (p:=fun t=>t.2 x) (f:=at' v x (fS D m)) (fun _ _=>rfl) D.n 0 (fun _=>0) (0,fun _=>0)
 simp only [Int.zero_add] at hr1 hr2
 refine ⟨w',?_⟩
 have h':=h
 simp only at h'
 rw [hr1,Qf (fun x _=>hr2 x)] at h'
 exact h'
theorem Qbw (V:VN D) {m v k:Nat} {K:Nat -> Int}:0<=SW D K (at' v k (fS D m))/\(SW D K (at' v k (fS D m))).natAbs<=MX:=by
 have h1:0<=SW D K (at' v k (fS D m)):=Ql7 (fun w=>by unfold at'; split; exact Qrn V; exact Int.le_refl _) _ _ _
 have h2:=Q3j V (m:=1024) (E:=K) V.worlds (Q2v (v:=v) (x:=k) (Qmw V (m:=m)))
 unfold BD KK at h2
 refine ⟨h1,?_⟩
 unfold MX; omega
def Vp (D:NF) (S E:Nat -> Int) (v:Nat):List Qm × Int:=if Yd D S E=0 then ([],7) else (Qb (D.card v) (fun k=>qI (Qa3 D S E v k) (Yd D S E)),0)
theorem Qq0 (X:VX D) (hS:Jg D S) (hE:Jg D E) {v:Nat} (hv:v < D.n):Yb D.net (Qb D.n S) (Qb D.n E) (v:Int)=some (Vp D S E v):=by
 have V:=X.vn
 have hn8:=V.n8
 have hc4:=V.card v hv
 have hm:=Qqc (S:=S) hn8
 obtain ⟨w',hr⟩:=Qxl V hm hv hS hE
 have hlen:D.net.Nodes.length=D.n:=Qn
 have hc:=Q5q X [S,E] (by simp) (by simp [hS,hE])
 obtain ⟨h1,h2⟩:=Qcd V (m:=actS D.n S) (K:=Xn S E)
 unfold Yb
 rw [show ([Qb D.n S,Qb D.n E]:List (List Int))=[S,E].map (Qb D.n) from rfl,hc,aC,aI (by decide),aI (by simp),aI (by rw [hlen]; simp; omega),V.node hv,aC]
 rw [show (D.node v).Card=(D.card v:Int) from rfl,aH (by omega),Q2q hn8,aC,hlen,aH (by omega),Qoy,Qoy,hr]
 simp only [aC]
 unfold Vp
 by_cases c:SW D (Xn S E) (fS D (actS D.n S))=0
 ·rw [aH (by simpa using c),aH (show Yd D S E=0 from c)]
 rw [aI (by simpa using c),aI (show ¬ Yd D S E=0 from c),Qn,aH (by omega),aQ]
 have hl:=Xy (n:=D.card v) (k0:=0) (by omega) (by omega) (fun i (t:List Qm)=>(i,t)) (body:=K7 (SW D (Xn S E) (fS D (actS D.n S)),Qb (D.card v) (fun k=>SW D (Xn S E) (at' v k (fS D (actS D.n S)))),Qk D.n w'))
  (fun k=>Qb (D.card v) fun j=>if j < k then qI (Qa3 D S E v j) (Yd D S E) else ⟨0,0⟩) (.inr (Qb (D.card v) (fun k=>qI (Qa3 D S E v k) (Yd D S E))))
  (fun k _ hk=>by
   unfold K7
   simp only
   rw [aH (by rw [Qn]; exact dlt hk),show lkI (Qb (D.card v) fun k=>SW D (Xn S E) (at' v k (fS D (actS D.n S)))) (k:Int)=some (SW D (Xn S E) (at' v k (fS D (actS D.n S)))) from Qv hk,aC,
    Qwf (Qbw V).2 h2 c,aC]
   simp only
   rw [aI (by decide),show lkI (Qb (D.card v) fun j=>if j < k then qI (Qa3 D S E v j) (Yd D S E) else ⟨0,0⟩) (k:Int)=some _ from Qv hk,aC,aQ,Z9]
   refine congrArg (fun l=>some (Qh.next (zw ((k:Int)+1),l))) (Qf fun j _=>?_)
   by_cases e:j=k
   ·subst e; rw [aH rfl,aH (by omega)]; rfl
   rw [aI e]
   by_cases e2:j < k
   ·rw [aH e2,aH (by omega)]
   rw [aI e2,aI (by omega)])
  (by
   unfold K7
   simp only
   rw [aI (by rw [Qn]; exact nlt _)]
   congr 3
   exact Qf fun j hj=>by rw [aH hj])
 have e0:List.replicate (D.card v) (Qm.mk 0 0)=Qb (D.card v) fun j=>if j < 0 then qI (Qa3 D S E v j) (Yd D S E) else ⟨0,0⟩:=by
  rw [J4]; exact Qf fun j _=>by rw [aI (by omega)]
 rw [e0]
 exact Xb hl rfl
end
end Go.Ab
namespace Go.Ab
open Go
open Classical
theorem Q78 {n:Int} (h:(Lit.int .u8 n).wf=true):0<=n/\n<=255:=by
 simpa [Lit.wf,IntKind.min,IntKind.max,IntKind.bits,IntKind.signed] using h
theorem Qx6 {l:List Qm} (h:l.length<=1000000):Ye l l=some true:=by
 unfold Ye
 rw [aI (by simp)]
 have hr:=Xy (n:=l.length) (k0:=0) (by omega) (by omega) (fun i (_:Unit)=>i) (body:=Kw l l) (fun _=>()) (.inr ())
  (fun k _ hk=>by
   unfold Kw
   rw [aH (dlt hk),Y4 hk,aC,aC,aI (by simp)])
  (by unfold Kw; rw [aI (nlt _)])
 exact Xb hr rfl
section
variable {D:NF} {S E:Nat -> Int}
end
end Go.Ab
