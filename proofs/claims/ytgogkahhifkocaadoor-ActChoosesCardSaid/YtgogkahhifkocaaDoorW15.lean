/- Functions. No conditions. -/
import Derived.Test.YtgogkahhifkocaaDoorW14
set_option maxRecDepth 100000
set_option maxHeartbeats 400000
set_option linter.all false
namespace Go.Ab
open Go
def rowG {α:Type} (n:Nat) (F:Nat -> α):List α:=(List.range n).map F
theorem Qm {α:Type} {n:Nat} {F:Nat -> α}:(rowG n F).length=n:=by simp [rowG]
theorem Qr {α:Type} {n:Nat} {F:Nat -> α} {k:Nat} (h:k < n):lkI (rowG n F) (k:Int)=some (F k):=by
 rw [Qn (by rw [Qm]; exact h)]; simp [rowG]
theorem Ql {α:Type} {n:Nat} {F G:Nat -> α} (h:∀k,k < n->F k=G k):rowG n F=rowG n G:=by
 unfold rowG
 apply List.map_congr_left
 intro t ht
 exact h t (by simpa using ht)
theorem Yc {α:Type} {n:Nat} {F:Nat -> α} {k:Nat} {x:α}:(rowG n F).set k x=rowG n (fun s=>if s=k then x else F s):=by
 apply List.ext_getElem?
 intro s
 rw [List.getElem?_set]
 simp only [rowG,bD,bW,List.length_range]
 by_cases e:k=s
 ·subst e
  rw [aH rfl]
  by_cases hk:k < n
  ·rw [aH hk,List.getElem?_range hk]; simp
  rw [aI hk,dK (by simpa using hk)]; rfl
 rw [aI e]
 by_cases hs:s < n
 ·rw [List.getElem?_range hs]; simp only [bK]; rw [aI (Ne.symm e)]
 rw [dK (by simpa using hs)]; rfl
theorem Qbx {α:Type} (n:Nat) (x:α):List.replicate n x=rowG n (fun _=>x):=by
 apply List.ext_getElem?
 intro s
 rw [cK]
 by_cases hs:s < n
 ·rw [aH hs]; simp [rowG,List.getElem?_range hs]
 rw [aI hs,dK (by rw [Qm]; omega)]
theorem K6 {α:Type} {n:Nat} {F:Nat -> α}:rowG n F++[F n]=rowG (n+1) F:=by
 unfold rowG; rw [List.range_succ]; simp
def Xh {α:Type} (w:Nat -> α) (i:Nat) (x:α):Nat -> α:=fun s=>if s=i then x else w s
theorem Yf {α:Type} {w:Nat -> α} {i:Nat} {x:α}:Xh w i x i=x:=by simp [Xh]
theorem J6 {α:Type} {w:Nat -> α} {i j:Nat} {x:α} (h:j≠i):Xh w i x j=w j:=by simp [Xh,h]
def Qo:Nat -> (Nat -> Int)->Int
 | 0,_=>0
 | n+1,f=>Qo n f+f n
theorem Jm {n:Nat} {f g:Nat -> Int} (h:∀k,k < n->f k=g k):Qo n f=Qo n g:=by
 induction n with
 | zero=>rfl
 | succ n ih=>simp only [Qo]; rw [ih (fun k hk=>h k (by omega)),h n (by omega)]
theorem Q3t {n:Nat} {f g:Nat -> Int}:Qo n (fun k=>f k+g k)=Qo n f+Qo n g:=by
 induction n with
 | zero=>rfl
 | succ n ih=>simp only [Qo,ih]; omega
theorem Qjl {n:Nat}:Qo n (fun _=>0)=0:=by
 induction n with
 | zero=>rfl
 | succ n ih=>simp only [Qo,ih]; rfl
theorem Y2 {n:Nat} {f:Nat -> Int} (h:∀k,k < n->0<=f k):0<=Qo n f:=by
 induction n with
 | zero=>exact Int.le_refl 0
 | succ n ih=>simp only [Qo]; have:=ih (fun k hk=>h k (by omega)); have:=h n (by omega); omega
theorem Q30 {n k:Nat} {c:Int} (h:k < n):Qo n (fun x=>if k=x then c else 0)=c:=by
 induction n with
 | zero=>omega
 | succ n ih =>
  simp only [Qo]
  by_cases e:k=n
  ·subst e
   rw [aH rfl,Jm (g:=fun _=>0) (fun x hx=>aI (by omega)),Qjl]; omega
  rw [aI e,ih (by omega)]; omega
theorem Qll {a b:Nat} {f:Nat -> Int}:Qo (a+b) f=Qo a f+Qo b (fun k=>f (a+k)):=by
 induction b with
 | zero=>simp [Qo]
 | succ b ih=>rw [<-cH]; simp only [Qo,ih]; omega
def prodTo:Nat -> (Nat -> Nat)->Nat
 | 0,_=>1
 | n+1,f=>prodTo n f*f n
theorem K4 {n K:Nat} {f:Nat -> Nat} (h:∀k,k < n->f k<=K):prodTo n f<=K^n:=by
 induction n with
 | zero=>simp [prodTo]
 | succ n ih=>simp only [prodTo,Nat.pow_succ]; exact Nat.mul_le_mul (ih fun k hk=>h k (by omega)) (h n (by omega))
structure NF where
 n:Nat
 g:Nat
 card:Nat -> Nat
 par:Nat -> List Nat
 W:Nat -> Nat -> Nat -> Nat
def lprod (f:Nat -> Nat) (l:List Nat):Nat := l.foldl (fun r p=>r*f p) 1
def NF.rows (D:NF) (v:Nat):Nat := lprod D.card (D.par v)
def NF.node (D:NF) (v:Nat):Ad:=⟨D.card v,(D.par v).map (fun (p:Nat)=>(p:Int)),rowG (D.rows v) fun r=>rowG (D.card v) fun x=>(D.W v r x:Int)⟩
def NF.net (D:NF):Qa:=⟨D.g,rowG D.n D.node⟩
def Qk (n:Nat) (w:Nat -> Nat):List Int:=rowG n fun j=>(w j:Int)
theorem Z6 {n k:Nat} {w:Nat -> Nat} (h:k < n):lkI (Qk n w) (k:Int)=some (w k:Int):=Qr h
theorem Xn {n:Nat} {w:Nat -> Nat}:(Qk n w).length=n:=Qm
structure VN (D:NF):Prop where
 n1:1<=D.n
 n8:D.n<=8
 g1:1<=D.g
 g60:D.g<=60
 card:∀v,v < D.n->1<=D.card v/\D.card v<=4
 par:∀v,v < D.n->∀p∈D.par v,p < D.n
 len:∀v,v < D.n->(D.par v).length<=8
 W:∀v r x,v < D.n->r < D.rows v->x < D.card v->D.W v r x<=D.g
 worlds:prodTo D.n D.card<=1024
theorem Qb0 {f:Nat -> Nat} {l:List Nat} {p:Nat}:lprod f (l++[p])=lprod f l*f p:=by simp [lprod]
theorem Qfi {f:Nat -> Nat} {l:List Nat} (h:∀p∈l,f p<=4):lprod f l<=4^l.length:=by
 have key:∀(l:List Nat) (R K:Nat),R<=K->(∀p∈l,f p<=4)->l.foldl (fun r p=>r*f p) R<=K*4^l.length:=by
  intro l
  induction l with
  | nil=>intro R K h _; simpa using h
  | cons p l ih =>
   intro R K hr hp
   simp only [List.foldl_cons,dF,Nat.pow_succ]
   have:=ih (R*f p) (K*4) (Nat.mul_le_mul hr (hp p (by simp))) (fun q hq=>hp q (cL _ hq))
   rwa [Nat.mul_assoc,cJ 4] at this
 have:=key l 1 1 (by omega) h
 simpa [lprod] using this
section
variable {D:NF} (V:VN D) {w:Nat -> Nat}
include V
theorem VN.rows_le {v:Nat} (hv:v < D.n):D.rows v<=65536:=by
 refine bV (Qfi fun p hp=>(V.card p (V.par v hv p hp)).2) ?_
 exact aT (by omega) (V.len v hv)
omit V in
theorem Xg {α:Type} {l:List α} {k:Nat} (h:k < l.length):l.take (k+1)=l.take k++[l[k]]:=by rw [List.take_add_one,aG h]; rfl
theorem VN.node {v:Nat} (hv:v < D.n):lkI D.net.Nodes (v:Int)=some (D.node v):=Qr hv
end
theorem Qqk {a k:Nat} (ha:a < 18446744073709551616) (hk:k < 64) :
  zv (zb (a:Int) ||| zb (zv (1*2^min (Int.toNat (k:Int)) zk))).toNat = ((a ||| 2^k:Nat):Int):=by
 have hb:zk=64:=rfl
 have e0:min (Int.toNat (k:Int)) zk=k:=by rw [hb,aP]; omega
 have hp:2^k < 18446744073709551616:=by
  have:2^k < 2^64:=eK (by omega) hk
  exact this
 rw [e0,show (1:Int)*2^k=((2^k:Nat):Int) by simp,Qaz hp]
 have e1:(zb (a:Int) ||| zb ((2^k:Nat):Int)).toNat = a ||| 2^k:=by
  rw [BitVec.toNat_or,Qiv ha,Qiv hp]
 rw [e1,Qaz]
 exact dX (n:=64) ha hp
theorem or_lt {a k:Nat} (ha:a < 18446744073709551616) (hk:k < 64):a ||| 2^k < 18446744073709551616 :=
 dX (n:=64) ha (eK (by omega) hk)
theorem Q9b {a k j:Nat}:(a ||| 2^k).testBit j=(a.testBit j || decide (k=j)):=by
 rw [bF,Nat.testBit_two_pow]
theorem Quy {a b:Nat} (ha:a < 18446744073709551616) (hb:b < 18446744073709551616) :
  (zv (zb (a:Int) &&& ~~~ zb (b:Int)).toNat == 0)=true↔∀j,a.testBit j=true->b.testBit j=true:=by
 have h1:(zb (a:Int) &&& ~~~ zb (b:Int)).toNat < 18446744073709551616:=BitVec.isLt _
 rw [Qaz h1]
 generalize hx:zb (a:Int) &&& ~~~ zb (b:Int)=x
 have hbit:∀j,j < 64->x.getLsbD j=(a.testBit j && !(b.testBit j)):=fun j hj=>by
  rw [<-hx,BitVec.getLsbD_and,BitVec.getLsbD_not]
  have:zk=64:=rfl
  have e1:(zb (a:Int)).getLsbD j=a.testBit j:=by unfold BitVec.getLsbD; rw [Qiv ha]
  have e2:(zb (b:Int)).getLsbD j=b.testBit j:=by unfold BitVec.getLsbD; rw [Qiv hb]
  rw [e1,e2]
  simp [this,hj]
 constructor
 ·intro h j hj
  have hx0:x.toNat = 0:=by simpa using h
  have h64:j < 64:=by
   rcases aZ j 64 with h' | h'
   ·exact h'
   have:=Nat.testBit_lt_two_pow (i:=j) (x:=a) (bM ha (aT (n:=2) (by omega) h'))
   rw [this] at hj; cases hj
  have h2:=hbit j h64
  have h3:x.getLsbD j=false:=by unfold BitVec.getLsbD; rw [hx0]; simp
  rw [h3,hj] at h2
  simpa using h2
 ·intro h
  have:x=0#_:=by
   apply BitVec.eq_of_getLsbD_eq
   intro j hj
   have hj':j < 64:=hj
   rw [hbit j hj']
   cases ha':a.testBit j with
   | false=>simp
   | true=>rw [h j ha']; simp
  rw [this]; rfl
def KK:Int:=167961600000000
def BD (m:Nat) (z:Int):Prop:=-((m:Int)*KK)<=z/\z<=(m:Int)*KK
theorem BD.add {m p:Nat} {a b:Int} (h:BD m a) (k:BD p b):BD (m+p) (a+b):=by
 unfold BD at *
 rw [Int.natCast_add,Int.add_mul]; omega
theorem BD.zero {m:Nat}:BD m 0:=by unfold BD KK; omega
theorem BD.sum {n p:Nat} {f:Nat -> Int} (h:∀k,k < n->BD p (f k)):BD (n*p) (Qo n f):=by
 induction n with
 | zero=>exact BD.zero
 | succ n ih=>simp only [Qo]; rw [dR]; exact (ih fun k hk=>h k (by omega)).add (h n (by omega))
section
variable {D:NF} {E:Nat -> Int}
theorem Zw {α β:Type} {o:Option α} {a:α} {k:α->Option β} {r:Option β} (h:o=some a) (h2:k a=r):o.bind k=r:=by rw [h]; exact h2
theorem Qpn (V:VN D):Vh D.net=some (Qk D.n D.card):=by
 have hlen:D.net.Nodes.length=D.n:=Qm
 have hn:=V.n8
 unfold Vh
 refine Zw (Zi (s0:=((0:Int),([]:List Int))) (r:=Qk D.n D.card) (fun k=>((k:Int),Qk k D.card)) D.n rfl (fun k hk=>?_) ?_ (by omega)) rfl
 ·unfold J1
  simp only
  rw [aH (by rw [hlen]; simpa using hk),V.node hk]
  simp only [aC]
  rw [show (D.node k).Card=(D.card k:Int) from rfl,show Qk k D.card++[(D.card k:Int)]=Qk (k+1) D.card from K6,aH (by rw [Xn]; omega),w64 (by omega)]
  rfl
 unfold J1
 simp only
 rw [aI (by rw [hlen]; simp)]
theorem Q6r {n:Nat} {f:Nat -> Nat} (hf:∀k,k < n->f k<=4) (hn:n<=8):Vd (Qk n f)=some (prodTo n f:Int):=by
 unfold Vd
 refine Zw (Zi (s0:=((1:Int),(0:Int))) (r:=(prodTo n f:Int)) (fun k=>((prodTo k f:Int),(k:Int))) n rfl (fun k hk=>?_) ?_ (by omega)) rfl
 ·have h1:prodTo k f<=4^k:=K4 fun j hj=>hf j (by omega)
  have h2:(4:Nat)^k<=4^8:=aT (by omega) (by omega)
  have h3:prodTo k f*f k<=65536*4:=Nat.mul_le_mul (by omega) (hf k hk)
  unfold Ki
  simp only
  rw [aH (by rw [Xn]; simpa using hk),Z6 hk]
  simp only [aC]
  have e:(prodTo k f:Int)*(f k:Int)=((prodTo (k+1) f:Nat):Int):=by simp [prodTo]
  rw [e,w64 (by simp only [prodTo]; omega),w64 (by omega)]
  rfl
 unfold Ki
 simp only
 rw [aI (by rw [Xn]; simp)]
theorem Qu1 {n:Nat} {f:Nat -> Nat} {l:List Nat} (hl:∀p∈l,p < n) (h8:l.length<=8):Qex (Qk n f) (l.map fun (p:Nat)=>(p:Int))=some (l.map fun p=>(f p:Int)):=by
 unfold Qex
 refine Zw (Zi (s0:=((0:Int),([]:List Int))) (r:=l.map fun p=>(f p:Int)) (fun k=>((k:Int),(l.take k).map fun p=>(f p:Int))) l.length (by simp) (fun k hk=>?_) ?_ (by omega)) rfl
 ·unfold Qgt
  simp only
  rw [aH (by simpa using hk),Qn (by simpa using hk)]
  simp only [aC,List.getElem_map]
  rw [Z6 (hl _ (bJ hk))]
  simp only [aC]
  rw [aH (by simp [cQ]; omega),w64 (by omega),Xg hk]
  simp only [cV,dD,dE]
  rfl
 unfold Qgt
 simp only
 rw [aI (by simp),List.take_of_length_le (aY _)]
end
structure VX (D:NF):Prop where
 vn:VN D
 sorted:∀v,v < D.n->(D.par v).Pairwise (· < ·)
 self:∀v,v < D.n->v ∉ D.par v
 rank:∃rk:Nat -> Nat,∀v,v < D.n->∀p∈D.par v,rk p < rk v
 sum:∀v r,v < D.n->r < D.rows v->Qo (D.card v) (fun x=>(D.W v r x:Int))=D.g
theorem Qd1:∀(a b:List Nat),a.Nodup->a ⊆ b->a.length<=b.length
 | [],_,_,_=>by simp
 | x::a,b,hn,hs=>by
  have hx:x∈b:=hs (by simp)
  rw [List.nodup_cons] at hn
  have h1:a ⊆ b.erase x:=fun y hy=>by
   have hne:y≠x:=fun e=>hn.1 (e ▸ hy)
   exact (List.mem_erase_of_ne hne).2 (hs (cL _ hy))
  have h2:=Qd1 a (b.erase x) hn.2 h1
  have h3:=List.length_erase_of_mem hx
  have h4:0 < b.length:=List.length_pos_of_mem hx
  simp only [dF]
  omega
def bitsOf (l:List Nat) (a:Nat):Nat := l.foldl (fun a p=>a ||| 2^p) a
theorem Y3 {j:Nat}:∀(l:List Nat) (a:Nat),(bitsOf l a).testBit j=(a.testBit j || decide (j∈l))
 | [],a=>by simp [bitsOf]
 | p::l,a=>by
  have:=Y3 (j:=j) l (a ||| 2^p)
  unfold bitsOf at this ⊢
  simp only [List.foldl_cons]
  rw [this,Q9b]
  by_cases h:p=j
  ·subst h; simp
  have:j≠p:=Ne.symm h
  simp [h,this]
theorem K9:∀(l:List Nat) (a:Nat),a < 18446744073709551616->(∀p∈l,p < 64)->bitsOf l a < 18446744073709551616
 | [],a,h,_=>h
 | p::l,a,h,hl=>K9 l (a ||| 2^p) (or_lt h (hl p (by simp))) fun q hq=>hl q (cL _ hq)
theorem Qal {l:List Nat} {p a:Nat}:bitsOf (l++[p]) a=bitsOf l a ||| 2^p:=by simp [bitsOf]
section
variable {D:NF}
theorem Q38 (X:VX D) {v r k:Nat} (hv:v < D.n) (hr:r < D.rows v) (hk:k < D.card v):Qo k (fun x=>(D.W v r x:Int))+D.W v r k<=D.g:=by
 have h1:=X.sum v r hv hr
 have h2:Qo (D.card v) (fun x=>(D.W v r x:Int))=Qo (k+1) (fun x=>(D.W v r x:Int))+Qo (D.card v - (k+1)) (fun x=>(D.W v r (k+1+x):Int)):=by
  rw [<-Qll,show k+1+(D.card v - (k+1))=D.card v by omega]
 have h3:0<=Qo (D.card v - (k+1)) (fun x=>(D.W v r (k+1+x):Int)):=Y2 fun x _=>cY _
 simp only [Qo] at h2
 omega
theorem Q1l (X:VX D) {v:Nat} (hv:v < D.n) {sets order:List Int}:Xf ⟨D.net,Qk D.n D.card,sets,order⟩ (D.node v)=some true:=by
 have V:=X.vn
 have hl:(D.node v).Parents.length=(D.par v).length:=by simp [NF.node]
 have hlen:=V.len v hv
 have hrl:(D.node v).Rows.length=D.rows v:=by simp [NF.node,Qm]
 have hrows:=V.rows_le hv
 have hcv:=V.card v hv
 unfold Xf
 refine Zw (Zi (s0:=((1:Int),(0:Int))) (r:=(D.rows v:Int)) (fun k=>((lprod D.card ((D.par v).take k):Int),(k:Int))) (D.par v).length (by simp [lprod]) (fun k hk=>?_) ?_ (by omega)) ?_
 ·have hp:=V.par v hv (D.par v)[k] (bJ hk)
  have b1:lprod D.card ((D.par v).take k)<=4^8:=bV (Qfi fun p hp=>(V.card p (V.par v hv p (bH hp))).2) (aT (by omega) (by rw [cQ]; omega))
  have b2:lprod D.card ((D.par v).take k)*D.card (D.par v)[k]<=65536*4:=Nat.mul_le_mul (by omega) (V.card _ hp).2
  unfold Xc
  simp only
  rw [aH (by rw [hl]; simpa using hk),Qn (by rw [hl]; exact hk)]
  have e0:(D.node v).Parents[k]'(by rw [hl]; exact hk)=(((D.par v)[k]:Nat):Int):=by simp [NF.node]
  simp only [aC,e0]
  rw [Z6 hp]
  simp only [aC]
  have e1:(lprod D.card ((D.par v).take k):Int)*(D.card (D.par v)[k]:Int)=((lprod D.card ((D.par v).take (k+1)):Nat):Int):=by rw [Xg hk,Qb0]; simp
  have e2:lprod D.card ((D.par v).take (k+1))<=65536*4:=by rw [Xg hk,Qb0]; exact b2
  rw [e1,w64 (by omega),w64 (by omega)]
  rfl
 ·unfold Xc
  simp only
  rw [aI (by rw [hl]; simp),List.take_of_length_le (aY _)]
  rfl
 rw [aI (by rw [hrl]; simp)]
 refine Zw (Zi (s0:=(0:Int)) (r:=Sum.inr ()) (fun r=>(r:Int)) (D.rows v) rfl (fun r hr=>?_) ?_ (by omega)) rfl
 ·unfold Zp
  simp only
  rw [aH (by rw [hrl]; simpa using hr),show lkI (D.node v).Rows (r:Int)=some (rowG (D.card v) fun x=>(D.W v r x:Int)) from Qr hr]
  simp only [aC]
  have hin:Qb fuel (Q5 (rowG (D.card v) fun x=>(D.W v r x:Int))) ((D.g:Int),(0:Int))=some (Sum.inr 0):=by
   refine Zi (fun k=>((D.g:Int) - Qo k (fun x=>(D.W v r x:Int)),(k:Int))) (D.card v) _ (by simp [Qo]) (fun k hk=>?_) ?_ (by omega)
   ·have h1:=Q38 X hv hr hk
    have h2:0<=Qo k (fun x=>(D.W v r x:Int)):=Y2 fun x _=>cY _
    have hg:=V.g60
    unfold Q5
    simp only
    rw [aH (by rw [Qm]; simpa using hk),Qr hk]
    simp only [aC]
    rw [aI (by simp),aI (by simp; omega),w64 (by omega),w64 (by omega)]
    simp only [Qo]
    congr 3
    omega
   unfold Q5
   simp only
   rw [aI (by rw [Qm]; simp),X.sum v r hv hr,Int.sub_self]
  rw [show (D.net.Grain:Int)=(D.g:Int) from rfl,hin]
  simp only [aC]
  rw [aI (by rw [Qm]; simp [NF.node]),aI (by simp),w64 (by omega)]
  rfl
 unfold Zp
 simp only
 rw [aI (by rw [hrl]; simp)]
def setN (D:NF) (v:Nat):Nat := bitsOf (D.par v) 0
theorem Qy8 (V:VN D) {v:Nat} (hv:v < D.n):setN D v < 18446744073709551616:=K9 _ _ (by omega) fun p hp=>by have:=V.par v hv p hp; have:=V.n8; omega
theorem Qwt {v j:Nat}:(setN D v).testBit j=decide (j∈D.par v):=by unfold setN; rw [Y3]; simp
theorem Qtd (X:VX D):∃order,Vw (Qk D.n (setN D))=some (order,true):=by
 have V:=X.vn
 have hn:=V.n8
 obtain ⟨rk,hrk⟩:=X.rank
 have hlen:(Qk D.n (setN D)).length=D.n:=Xn
 let I:Int × List Int->Prop:=fun s=>∃(l:List Nat),l.Nodup/\(∀p∈l,p < D.n)/\s=((bitsOf l 0:Int),l.map fun (p:Nat)=>(p:Int))
 have hw:=Xb (body:=Xt (Qk D.n (setN D))) I (fun s=>D.n - s.2.length) (fun r=>∃o,r=Sum.inr o) (fun s hs=>?_) ((0:Int),List.replicate (Int.toNat 0) (0:Int)) ⟨[],List.nodup_nil,fun p hp=>by simp at hp,rfl⟩ (by simp; omega)
 ·obtain ⟨r,h1,o,rfl⟩:=hw
  refine ⟨o,?_⟩
  unfold Vw
  rw [aH (by rw [hlen]; omega),h1]
  rfl
 obtain ⟨l,hnd,hl,rfl⟩:=hs
 have hll:l.length<=D.n:=by
  have h1:l ⊆ List.range D.n:=fun p hp=>cO.2 (hl p hp)
  have:=Qd1 l (List.range D.n) hnd h1
  simpa using this
 have hdl:bitsOf l 0 < 18446744073709551616:=K9 _ _ (by omega) fun p hp=>by have:=hl p hp; omega
 by_cases hc:l.length < D.n
 ·
  have hex:∃v,v < D.n/\v ∉ l:=by
   apply Classical.byContradiction
   intro hno
   have h1:List.range D.n ⊆ l:=fun p hp=>by
    apply Classical.byContradiction
    intro hp'
    exact hno ⟨p,cO.1 hp,hp'⟩
   have:=Qd1 (List.range D.n) l List.nodup_range h1
   simp at this
   omega
  have hmin:∃v,v < D.n/\v ∉ l/\∀u,u < D.n->u ∉ l->rk v<=rk u:=by
   obtain ⟨v0,h1,h2⟩:=hex
   have:∀(k:Nat) (v:Nat),rk v<=k->v < D.n->v ∉ l->∃v,v < D.n/\v ∉ l/\∀u,u < D.n->u ∉ l->rk v<=rk u:=by
    intro k
    induction k with
    | zero=>intro v hk h1 h2; exact ⟨v,h1,h2,fun u _ _=>by omega⟩
    | succ k ih =>
     intro v hk h1 h2
     by_cases hall:∀u,u < D.n->u ∉ l->rk v<=rk u
     ·exact ⟨v,h1,h2,hall⟩
     ·have:∃u,u < D.n/\u ∉ l/\rk u < rk v:=by
       apply Classical.byContradiction
       intro hno
       exact hall fun u hu hul=>by
        apply Classical.byContradiction
        intro hlt
        exact hno ⟨u,hu,hul,by omega⟩
      obtain ⟨u,hu,hul,hlt⟩:=this
      exact ih u (by omega) hu hul
   exact this (rk v0) v0 (aY _) h1 h2
  obtain ⟨v1,hv1,hv1l,hv1m⟩:=hmin
  have hready:∀p∈D.par v1,p∈l:=fun p hp=>by
   apply Classical.byContradiction
   intro hpl
   have h1:=hv1m p (V.par v1 hv1 p hp) hpl
   have h2:=hrk v1 hv1 p hp
   omega
  left
  have hs2:=Xb (body:=Jg (Qk D.n (setN D)) ((bitsOf l 0:Int),l.map fun (p:Nat)=>(p:Int))) (fun s=>∃k:Nat,k<=v1/\s=(k:Int)) (fun s=>D.n - s.toNat)
   (fun r=>∃v,v < D.n/\v ∉ l/\r=Sum.inl (((bitsOf l 0 ||| 2^v:Nat):Int),(l.map fun (p:Nat)=>(p:Int))++[(v:Int)])) (fun s hs=>?_) (0:Int) ⟨0,by omega,rfl⟩ (by simp; omega)
  ·obtain ⟨r,h1,v,hv,hvl,rfl⟩:=hs2
   refine ⟨(((bitsOf l 0 ||| 2^v:Nat):Int),(l.map fun (p:Nat)=>(p:Int))++[(v:Int)]),?_,⟨l++[v],?_,?_,?_⟩,by simp; omega⟩
   ·unfold Xt
    simp only
    rw [aH (by rw [hlen]; simp; omega),h1]
    rfl
   ·rw [List.nodup_append]
    exact ⟨hnd,by simp,fun a ha b hb=>by simp at hb; subst hb; exact fun e=>hvl (e ▸ ha)⟩
   ·intro p hp
    rcases bT.1 hp with h | h
    ·exact hl p h
    ·simp at h; subst h; exact hv
   ·rw [Qal]; simp
  ·obtain ⟨k,hk,rfl⟩:=hs
   have hkn:k < D.n:=by omega
   have ek:zw ((k:Int)+1)=((k+1:Nat):Int):=by rw [w64 (by omega)]; omega
   have hbk:(bitsOf l 0).testBit k=decide (k∈l):=by rw [Y3]; simp
   unfold Jg
   simp only
   rw [aH (by rw [hlen]; simpa using hkn),Z6 hkn]
   simp only [aC]
   rw [aH (by omega),Qq5 hdl (by omega),hbk]
   by_cases hkl:k∈l
   ·left
    rw [aI (by simp [hkl]),ek]
    have hne:k≠v1:=fun e=>hv1l (e ▸ hkl)
    exact ⟨_,rfl,⟨k+1,by omega,rfl⟩,by simp; omega⟩
   ·rw [aH (by simp [hkl])]
    by_cases hsub:∀p∈D.par k,p∈l
    ·right
     rw [aH ((Quy (Qy8 V hkn) hdl).2 fun j hj=>by
      rw [Qwt] at hj
      rw [Y3]
      simp at hj ⊢
      exact hsub j hj),aH (by simp; omega),aH (by omega),Qqk hdl (by omega)]
     exact ⟨_,rfl,k,hkn,hkl,rfl⟩
    ·left
     have hne:k≠v1:=fun e=>by subst e; exact hsub hready
     rw [aI (fun hc'=>hsub fun p hp=>by
      have:=(Quy (Qy8 V hkn) hdl).1 hc' p (by rw [Qwt]; simpa using hp)
      rw [Y3] at this
      simpa using this),ek]
     exact ⟨_,rfl,⟨k+1,by omega,rfl⟩,by simp; omega⟩
 right
 refine ⟨Sum.inr (l.map fun (p:Nat)=>(p:Int)),?_,_,rfl⟩
 unfold Xt
 simp only
 rw [aI (by rw [hlen]; simp; omega)]
theorem Qyu (X:VX D):∃order,Ym D.net=some (⟨D.net,Qk D.n D.card,Qk D.n (setN D),order⟩,0):=by
 have V:=X.vn
 have hn:=V.n8
 have hn1:=V.n1
 have hg:=V.g60
 have hg1:=V.g1
 have hlen:D.net.Nodes.length=D.n:=Qm
 have hG:D.net.Grain=(D.g:Int):=rfl
 obtain ⟨order,hord⟩:=Qtd X
 refine ⟨order,?_⟩
 unfold Ym
 rw [hlen,hG,aI (by simp; omega),aI (by simp; omega),aI (by simp; omega),aI (by simp; omega),aH (by omega),aH (by omega),aP,Qbx]
 have h0:Qb fuel (X1 D.net) ((1:Int),(0:Int),rowG D.n fun _=>(0:Int))=some (Sum.inr ((prodTo D.n D.card:Int),Qk D.n D.card)):=by
  refine Zi (fun k=>((prodTo k D.card:Int),(k:Int),rowG D.n fun j=>if j < k then (D.card j:Int) else 0)) D.n _ (by simp [prodTo]) (fun k hk=>?_) ?_ (by omega)
  ·have b1:prodTo k D.card<=4^k:=K4 fun j hj=>(V.card j (by omega)).2
   have b2:(4:Nat)^k<=4^8:=aT (by omega) (by omega)
   have b3:prodTo k D.card*D.card k<=65536*4:=Nat.mul_le_mul (by omega) (V.card k hk).2
   have hc:=V.card k hk
   have e1:(prodTo k D.card:Int)*(D.node k).Card=((prodTo (k+1) D.card:Nat):Int):=by simp [prodTo,NF.node]
   unfold X1
   simp only
   rw [aH (by rw [hlen]; simpa using hk),V.node hk]
   simp only [aC]
   have hc1:¬ (decide ((D.node k).Card < 1)=true):=by rw [aN]; show ¬ ((D.card k:Int) < 1); omega
   have hc2:¬ (decide ((D.node k).Card > 4)=true):=by rw [aN]; show ¬ ((D.card k:Int) > 4); omega
   rw [aI hc1,aI hc2,Qr hk]
   simp only [aC]
   have w1:zw ((prodTo (k+1) D.card:Nat):Int)=((prodTo (k+1) D.card:Nat):Int):=w64 (by simp only [prodTo]; omega)
   rw [e1,w1,w64 (by omega),aP,Yc]
   congr 4
   refine Ql fun j hj=>?_
   by_cases e:j=k
   ·subst e; simp [NF.node]
   rw [aI e]
   by_cases e2:j < k
   ·rw [aH e2,aH (by omega)]
   rw [aI e2,aI (by omega)]
  unfold X1
  simp only
  rw [aI (by rw [hlen]; simp)]
  congr 4
  exact Ql fun j hj=>aH hj
 rw [h0]
 simp only [aC]
 have hwd:=V.worlds
 rw [aI (by simp; omega)]
 have h2:Qb fuel (X3 D.net ((prodTo D.n D.card:Int),Qk D.n D.card)) ((0:Int),rowG D.n fun _=>(0:Int))=some (Sum.inr (Qk D.n (setN D))):=by
  refine Zi (fun v=>((v:Int),rowG D.n fun j=>if j < v then (setN D j:Int) else 0)) D.n _ (by simp) (fun v hv=>?_) ?_ (by omega)
  ·have hl:(D.node v).Parents.length=(D.par v).length:=by simp [NF.node]
   have hplen:=V.len v hv
   have h1:Qb fuel (X4 (D.node v) D.net ((v:Int),rowG D.n fun j=>if j < v then (setN D j:Int) else 0)) ((-1:Int),(0:Int),rowG D.n fun j=>if j < v then (setN D j:Int) else 0) =
     some (Sum.inr (rowG D.n fun j=>if j < v+1 then (setN D j:Int) else 0)):=by
    refine Zi (fun k=>((if k=0 then (-1:Int) else (((D.par v).getD (k - 1) 0:Nat):Int)),(k:Int),rowG D.n fun j=>if j < v then (setN D j:Int) else if j=v then (bitsOf ((D.par v).take k) 0:Int) else 0)) (D.par v).length _ ?_ (fun k hk=>?_) ?_ (by omega)
    ·simp only [eJ,List.take_zero]
     congr 2
     refine Ql fun j _=>?_
     by_cases e:j < v
     ·rw [aH e,aH e]
     ·rw [aI e,aI e]; simp [bitsOf]
    ·have hp:=V.par v hv (D.par v)[k] (bJ hk)
     have hgt:(if k=0 then (-1:Int) else (((D.par v).getD (k - 1) 0:Nat):Int)) < (((D.par v)[k]:Nat):Int):=by
      by_cases h0:k=0
      ·rw [aH h0]; omega
      rw [aI h0]
      have hk1:k - 1 < (D.par v).length:=by omega
      have:=List.pairwise_iff_getElem.1 (X.sorted v hv) (k - 1) k hk1 hk (by omega)
      have e:(D.par v).getD (k - 1) 0=(D.par v)[k - 1]:=by simp [List.getD,hk1]
      rw [e]; omega
     have hself:(D.par v)[k]≠v:=fun e=>X.self v hv (by have:=bJ hk; rwa [e] at this)
     have hbl:bitsOf ((D.par v).take k) 0 < 18446744073709551616:=K9 _ _ (by omega) fun p hp=>by have:=V.par v hv p (bH hp); omega
     unfold X4
     simp only
     rw [aH (by rw [hl]; simpa using hk),Qn (by rw [hl]; exact hk)]
     have e0:(D.node v).Parents[k]'(by rw [hl]; exact hk)=(((D.par v)[k]:Nat):Int):=by simp [NF.node]
     simp only [aC,e0]
     rw [aI (by rw [aN]; exact Int.not_le.2 hgt),aI (by rw [hlen]; simp; omega),aI (by simp; omega),Qr hv]
     simp only [aC,dC,eH,eJ]
     rw [aH (by omega),Qqk hbl (by omega),w64 (by omega),aP,Yc,Xg hk,Qal]
     have e2:(D.par v).getD (k+1 - 1) 0=(D.par v)[k]:=by simp [List.getD,hk]
     rw [aI (by omega),e2]
     congr 4
     refine Ql fun j _=>?_
     by_cases e:j=v
     ·subst e; simp
     ·rw [aI e,aI e,aI e]
    ·unfold X4
     simp only
     rw [aI (by rw [hl]; simp),List.take_of_length_le (aY _)]
     congr 3
     refine Ql fun j _=>?_
     by_cases e:j < v
     ·rw [aH e,aH (by omega)]
     ·rw [aI e]
      by_cases e2:j=v
      ·subst e2; rw [aH rfl,aH (by omega)]; rfl
      ·rw [aI e2,aI (by omega)]
   unfold X3
   simp only
   rw [aH (by rw [hlen]; simpa using hv),V.node hv]
   simp only [aC]
   rw [h1]
   simp only [aC]
   rw [Q1l X hv]
   simp only [aC]
   rw [aI (by simp),w64 (by omega)]
   rfl
  unfold X3
  simp only
  rw [aI (by rw [hlen]; simp)]
  congr 3
  exact Ql fun j hj=>aH hj
 rw [h2]
 simp only [aC]
 rw [hord]
 rfl
end
theorem Q25 {n:Nat} {f:Nat -> Nat}:∃s:Nat,Qo n (fun x=>(f x:Int))=(s:Int):=by
 obtain ⟨s,hs⟩:=Int.eq_ofNat_of_zero_le (Y2 (n:=n) (f:=fun x=>(f x:Int)) fun _ _=>cY _)
 exact ⟨s,hs⟩
theorem Qfv {n k:Nat} {f:Nat -> Int} (h:∀j,j < n->0<=f j) (hk:k<=n):Qo k f<=Qo n f:=by
 obtain ⟨m,rfl⟩:=Nat.exists_eq_add_of_le hk
 rw [Qll]
 have:=Y2 (n:=m) (f:=fun x=>f (k+x)) fun j hj=>h _ (by omega)
 omega
theorem Qr6 {g S:Nat} (hS:0 < S):∀(n:Nat) (o:Nat -> Nat),Qo n (fun x=>((g*o x / S:Nat):Int))*S<=g*Qo n (fun x=>(o x:Int))
 | 0,_=>by simp [Qo]
 | n+1,o=>by
  have ih:=Qr6 (g:=g) hS n o
  have h1:g*o n / S*S<=g*o n:=Nat.div_mul_le_self _ _
  have h2:(((g*o n / S:Nat):Int))*(S:Int)<=(g:Int)*(o n:Int):=by exact_mod_cast h1
  simp only [Qo]
  rw [Int.add_mul,Int.mul_add]
  exact Int.add_le_add ih h2
theorem Q47 {g c:Nat} {l:List Int} {fr:Nat} (hg:g<=60) (hc:1<=c) (hc4:c<=4) (hl:∀x∈l,0<=x/\x<=255) (hll:l.length<=9223372036854775807) (hfr:fr<=100000) :
  ∃f:Nat -> Nat,Qc2 (g:Int) (c:Int) l (fr:Int)=some (rowG c fun x=>(f x:Int))/\Qo c (fun x=>(f x:Int))=g:=by
 have hb0:∃o:Nat -> Nat,(∀j,o j < 8)/\Qb fuel (Jt (c:Int) l (fr:Int)) ((0:Int),(0:Int),rowG c fun _=>(0:Int))=some (Qo c (fun x=>(o x:Int)),rowG c fun x=>(o x:Int)):=by
  by_cases h0:l.length=0
  ·refine ⟨fun _=>0,fun _=>Nat.zero_lt_succ _,?_⟩
   have hz:∀k,Qo k (fun _=>((0:Nat):Int))=0:=fun k=>Qjl
   refine Zi (fun k=>((0:Int),(k:Int),rowG c fun _=>(0:Int))) c _ rfl (fun k hk=>?_) ?_ (by omega)
   ·unfold Jt
    simp only
    rw [aH (by simpa using hk),aI (by simp [h0]),Qr hk]
    simp only [aC]
    rw [w64 (by omega),w64 (by omega)]
    rfl
   unfold Jt
   simp only
   rw [aI (by simp),hz]
   rfl
  have hpos:0 < l.length:=by omega
  let o:Nat -> Nat := fun k=>((l[(fr+k) % l.length]'(cF _ hpos)).toNat) % 8
  refine ⟨o,fun j=>cF _ (by omega),?_⟩
  refine Zi (fun k=>(Qo k (fun x=>(o x:Int)),(k:Int),rowG c fun j=>if j < k then (o j:Int) else 0)) c _ (by simp [Qo]) (fun k hk=>?_) ?_ (by omega)
  ·have hx:=hl _ (bJ (cF (fr+k) hpos))
   have ho:o k=((l[(fr+k) % l.length]'(cF _ hpos)).toNat) % 8:=rfl
   have hs:Qo k (fun x=>(o x:Int))<=8*k:=by
    have:∀k,Qo k (fun x=>(o x:Int))<=8*k:=by
     intro k
     induction k with
     | zero=>simp [Qo]
     | succ k ih=>simp only [Qo]; have:o k < 8:=cF _ (by omega); omega
    exact this k
   have hs0:0<=Qo k (fun x=>(o x:Int)):=Y2 fun _ _=>cY _
   have e1:Int.tmod (zw ((fr:Int)+(k:Int))) (l.length:Int)=(((fr+k) % l.length:Nat):Int):=by
    rw [w64 (by omega),Vc (by omega)]; simp
   unfold Jt
   simp only
   rw [aH (by simpa using hk),aH (by simp; omega),aH (by omega),e1,Qn (cF _ hpos)]
   simp only [aC]
   rw [Qr hk]
   simp only [aC]
   have e2:Int.tmod (l[(fr+k) % l.length]'(cF _ hpos)) 8=(o k:Int):=by rw [Vc hx.1,ho]; omega
   have ho8:o k < 8:=cF _ (by omega)
   rw [e2]
   have w1:zw (o k:Int)=(o k:Int):=w64 (by omega)
   rw [w1,w64 (by omega),w64 (by omega),aP,Yc]
   simp only [Qo]
   congr 4
   refine Ql fun j hj=>?_
   by_cases e:j=k
   ·subst e; simp
   rw [aI e]
   by_cases e2:j < k
   ·rw [aH e2,aH (by omega)]
   rw [aI e2,aI (by omega)]
  unfold Jt
  simp only
  rw [aI (by simp)]
  congr 3
  exact Ql fun j hj=>aH hj
 obtain ⟨o,ho,h0⟩:=hb0
 obtain ⟨S,hS⟩:=Q25 (n:=c) (f:=o)
 let q:Nat -> Nat := fun x=>g*o x / S
 have hq:∀x,o x=0->q x=0:=fun x h=>by show g*o x / S=0; rw [h]; simp
 have hSb:S<=32:=by
  have:∀k,Qo k (fun x=>(o x:Int))<=8*k:=by
   intro k
   induction k with
   | zero=>simp [Qo]
   | succ k ih=>simp only [Qo]; have:=ho k; omega
  have:=this c
  omega
 have hpart:∀k,k<=c->0<=Qo k (fun x=>(q x:Int))/\Qo k (fun x=>(q x:Int))<=g:=fun k hk=>by
  refine ⟨Y2 fun _ _=>cY _,Int.le_trans (Qfv (fun _ _=>cY _) hk) ?_⟩
  by_cases h:S=0
  ·have:∀x,q x=0:=fun x=>by show g*o x / S=0; rw [h]; simp
   rw [Jm (g:=fun _=>0) (fun x _=>by rw [this]; rfl),Qjl]; omega
  have h1:=Qr6 (g:=g) (S:=S) (by omega) c o
  rw [hS] at h1
  have h2:Qo c (fun x=>(q x:Int))*(S:Int)<=(g:Int)*(S:Int):=h1
  exact Int.le_of_mul_le_mul_right h2 (by omega)
 have hb1:=Xb (body:=Qfa (c:Int) (Qo c (fun x=>(o x:Int)),rowG c fun x=>(o x:Int)) (g:Int))
  (fun s=>∃k last:Nat,k<=c/\last < c/\s=((g:Int) - Qo k (fun x=>(q x:Int)),(last:Int),(k:Int),rowG c fun j=>if j < k then (q j:Int) else (o j:Int)))
  (fun s=>c - s.2.2.1.toNat)
  (fun r=>∃last:Nat,last < c/\r=((g:Int) - Qo c (fun x=>(q x:Int)),(last:Int),rowG c fun j=>(q j:Int)))
  (fun s hs=>?_) ((g:Int),(0:Int),(0:Int),rowG c fun x=>(o x:Int)) ⟨0,0,by omega,by omega,by simp [Qo]⟩ (by simp; omega)
 ·obtain ⟨r,h1,last,hlast,rfl⟩:=hb1
  have hp:=hpart c (aY _)
  obtain ⟨left,hleft⟩:=Int.eq_ofNat_of_zero_le (show 0<=(g:Int) - Qo c (fun x=>(q x:Int)) by omega)
  refine ⟨fun x=>q x+if last=x then left else 0,?_,?_⟩
  ·unfold Qc2
   rw [aH (by omega),aP,Qbx,h0]
   simp only [aC]
   rw [h1]
   simp only [aC]
   rw [Qr hlast]
   simp only [aC]
   have hql:(q last:Int)<=g:=by
    have e:=Qfv (n:=c) (k:=last+1) (f:=fun x=>(q x:Int)) (fun _ _=>cY _) (by omega)
    have e2:=(hpart last (by omega)).1
    simp only [Qo] at e
    omega
   rw [hleft,w64 (by omega),aP,Yc]
   congr 1
   refine Ql fun x hx=>?_
   by_cases e:x=last
   ·subst e; simp
   ·rw [aI e,aI (Ne.symm e)]; simp
  ·have e:(fun x=>((q x+if last=x then left else 0:Nat):Int))=fun x=>(q x:Int)+if last=x then (left:Int) else 0:=by
    funext x; split <;> simp
   rw [e,Q3t,Q30 hlast]
   have:(left:Int)=(g:Int) - Qo c (fun x=>(q x:Int)):=hleft.symm
   omega
 ·obtain ⟨k,last,hk,hlast,rfl⟩:=hs
  unfold Qfa
  simp only
  by_cases hkc:k < c
  ·left
   have hp1:=hpart k hk
   have hp2:=hpart (k+1) hkc
   have e1:Qo (k+1) (fun x=>(q x:Int))=Qo k (fun x=>(q x:Int))+(q k:Int):=rfl
   rw [aH (by simpa using hkc),Qr hkc]
   simp only [aC,dC,eH]
   have ek:zw ((k:Int)+1)=((k+1:Nat):Int):=by rw [w64 (by omega)]; omega
   by_cases ho0:o k=0
   ·rw [aI (by simp [ho0]),ek,ho0,w64 (by omega)]
    refine ⟨_,rfl,⟨k+1,last,hkc,hlast,?_⟩,by simp; omega⟩
    rw [e1,hq k ho0]
    congr 1
    ·simp
    ·congr 2
     refine Ql fun j hj=>?_
     by_cases e:j=k
     ·subst e; simp [ho0,hq]
     ·by_cases e2:j < k
      ·rw [aH e2,aH (by omega)]
      ·rw [aI e2,aI (by omega)]
   ·have hSpos:S≠0:=by
     intro h
     have:=Qfv (n:=c) (k:=k+1) (f:=fun x=>(o x:Int)) (fun _ _=>cY _) hkc
     have h2:0<=Qo k (fun x=>(o x:Int)):=Y2 fun _ _=>cY _
     simp only [Qo] at this
     omega
    have hok:=ho k
    have hm:g*o k<=60*8:=Nat.mul_le_mul hg (by omega)
    have e2:zw (Int.tdiv (zw ((g:Int)*(o k:Int))) (Qo c (fun x=>(o x:Int))))=(q k:Int):=by
     have e3:(g:Int)*(o k:Int)=((g*o k:Nat):Int):=by simp
     have hd:g*o k / S<=g*o k:=Nat.div_le_self _ _
     have w1:zw ((g*o k:Nat):Int)=((g*o k:Nat):Int):=w64 (by omega)
     rw [e3,w1,hS,Ji (cY _),show ((g*o k:Nat):Int) / (S:Int)=((g*o k / S:Nat):Int) by simp]
     show zw ((g*o k / S:Nat):Int)=((g*o k / S:Nat):Int)
     obtain ⟨z,hz⟩:∃z,g*o k / S=z:=⟨_,rfl⟩
     rw [hz] at hd ⊢
     exact w64 (by omega)
    rw [aH (by simp; omega),aH (by rw [hS]; omega),e2,ek,aP,Yc,w64 (by omega)]
    refine ⟨_,rfl,⟨k+1,k,hkc,hkc,?_⟩,by simp; omega⟩
    rw [e1]
    congr 1
    ·omega
    ·congr 2
     refine Ql fun j hj=>?_
     by_cases e:j=k
     ·subst e; simp
     ·rw [aI e]
      by_cases e2:j < k
      ·rw [aH e2,aH (by omega)]
      ·rw [aI e2,aI (by omega)]
  ·right
   have:k=c:=by omega
   subst this
   rw [aI (by simp)]
   refine ⟨_,rfl,last,hlast,?_⟩
   congr 2
   exact Ql fun j hj=>aH hj
theorem Q7c {n:Nat} (hn:n<=5) {w:Int} {o:List Int}:J2 ⟨List.replicate n (0:Int),w,o⟩=some (List.replicate n 1):=by
 unfold J2
 refine Zw (Zi (s0:=((0:Int),([]:List Int))) (r:=List.replicate n 1) (fun k=>((k:Int),List.replicate k (1:Int))) n rfl (fun k hk=>?_) ?_ (by omega)) rfl
 ·unfold Kq
  simp only
  rw [aH (by simp; omega),aH (by simp; omega),Qn (by simpa using hk)]
  simp only [aC,List.getElem_replicate]
  have e:zw (1+zw (Int.tmod 0 4))=1:=by decide
  rw [e,aH (by simp; omega),w64 (by omega),<-List.replicate_succ']
  rfl
 unfold Kq
 simp only
 rw [aI (by simp)]
theorem Qu9 {q:List Nat} {k a:Nat} (h:q.Nodup) (hk:∀x∈q,x < k):(q.take a++[k]++q.drop a).Nodup/\∀x∈q.take a++[k]++q.drop a,x < k+1:=by
 have hperm:(q.take a++[k]++q.drop a).Perm (k::q):=by
  have h1:(q.take a++[k]++q.drop a).Perm ([k]++q.take a++q.drop a):=List.Perm.append_right _ List.perm_append_comm
  have h2:[k]++q.take a++q.drop a=k::q:=by simp
  rw [h2] at h1
  exact h1
 refine ⟨?_,fun x hx=>?_⟩
 ·rw [hperm.nodup_iff,List.nodup_cons]
  exact ⟨fun hm=>dC _ (hk k hm),h⟩
 have:=hperm.mem_iff.1 hx
 rcases cC.1 this with e | e
 ·omega
 have:=hk x e; omega
theorem Q0b {n:Nat} (hn:n<=5) {o:List Int} (ho:∀x∈o,0<=x/\x<=255) :
  ∃q:List Nat,q.Nodup/\(∀x∈q,x < n)/\q.length=n/\Yz ⟨List.replicate n (0:Int),0,o⟩=some (q.map fun (x:Nat)=>(x:Int)):=by
 have hw:=Xb (body:=Vr ⟨List.replicate n (0:Int),0,o⟩) (fun s=>∃q:List Nat,q.Nodup/\(∀x∈q,x < q.length)/\q.length<=n/\s=((q.length:Int),q.map fun (x:Nat)=>(x:Int)))
  (fun s=>n - s.1.toNat) (fun r=>∃q:List Nat,q.Nodup/\(∀x∈q,x < n)/\q.length=n/\r=q.map fun (x:Nat)=>(x:Int)) (fun s hs=>?_) ((0:Int),([]:List Int)) ⟨[],List.nodup_nil,fun x hx=>by simp at hx,by simp,rfl⟩ (by simp; omega)
 ·obtain ⟨r,h1,q,h2,h3,h4,rfl⟩:=hw
  refine ⟨q,h2,h3,h4,?_⟩
  unfold Yz
  rw [h1]; rfl
 ·obtain ⟨q,hnd,hx,hl,rfl⟩:=hs
  unfold Vr
  rw [Q7c hn]
  simp only [aC,cE,bW]
  by_cases hc:q.length < n
  ·left
   rw [aH (by simpa using hc)]
   have ek:zw ((q.length:Int)+1)=((q.length+1:Nat):Int):=by rw [w64 (by omega)]; omega
   have ins:∀a:Nat,a<=q.length->∃s',s'=((((q.take a++[q.length]++q.drop a).length:Nat):Int),(q.take a++[q.length]++q.drop a).map fun (x:Nat)=>(x:Int)) /\
     (∃q:List Nat,q.Nodup/\(∀x∈q,x < q.length)/\q.length<=n/\s'=((q.length:Int),q.map fun (x:Nat)=>(x:Int)))/\n - s'.1.toNat < n - ((q.length:Int)).toNat := fun a ha=>by
    obtain ⟨i1,i2⟩:=Qu9 (a:=a) hnd hx
    have hlen:(q.take a++[q.length]++q.drop a).length=q.length+1:=by simp; omega
    exact ⟨_,rfl,⟨_,i1,fun x hx=>by rw [hlen]; exact i2 x hx,by rw [hlen]; omega,rfl⟩,by simp only [hlen]; simp; omega⟩
   have hsub:∀a:Nat,a<=q.length->sub (q.map fun (x:Nat)=>(x:Int)) 0 (a:Int)=(q.take a).map (fun (x:Nat)=>(x:Int))/\sub (q.map fun (x:Nat)=>(x:Int)) (a:Int) (q.length:Int)=(q.drop a).map (fun (x:Nat)=>(x:Int)):=fun a ha=>by
    unfold sub
    refine ⟨by simp,?_⟩
    simp only [aP]
    rw [List.take_of_length_le (by simp),List.map_drop]
   by_cases ho':q.length < o.length
   ·rw [aH (by simpa using ho'),Qn ho']
    simp only [aC]
    have hv:=ho _ (bJ ho')
    obtain ⟨a,ha,hae⟩:∃a:Nat,a<=q.length/\Int.tmod (zw o[q.length]) ((q.length+1:Nat):Int)=(a:Int):=by
     refine ⟨(o[q.length]).toNat % (q.length+1),by have:=cF (o[q.length]).toNat (show 0 < q.length+1 by omega); omega,?_⟩
     rw [w64 (by omega),Vc hv.1]
     rw [Int.natCast_emod,Int.toNat_of_nonneg hv.1]
    obtain ⟨s',hs',h1,h2⟩:=ins a ha
    refine ⟨s',?_,h1,by simpa using h2⟩
    rw [ek,aH (by omega),hae,aH (by omega),(hsub a ha).1,aH (by simp; omega),aH (by simp; omega),aH (by omega),(hsub a ha).2,aH (by simp; omega),hs']
    simp
    omega
   ·rw [aI (by simpa using ho')]
    obtain ⟨s',hs',h1,h2⟩:=ins 0 (by omega)
    refine ⟨s',?_,h1,by simpa using h2⟩
    have hz:=hsub 0 (by omega)
    rw [ek,aH (by omega),show sub (q.map fun (x:Nat)=>(x:Int)) 0 0=(q.take 0).map (fun (x:Nat)=>(x:Int)) from hz.1,aH (by simp),aH (by simp),aH (by omega),show sub (q.map fun (x:Nat)=>(x:Int)) 0 (q.length:Int)=(q.drop 0).map (fun (x:Nat)=>(x:Int)) from hz.2,aH (by simp; omega),hs']
    simp
  ·right
   rw [aI (by simpa using hc)]
   exact ⟨_,rfl,q,hnd,fun x hm=>by have:=hx x hm; omega,by omega,rfl⟩
theorem Ql7 {x:Int}:0<=zv x:=by simp only [IntKind.wrap,IntKind.bits,IntKind.signed]; simp; omega
theorem Qlg {n:Nat} {q:List Nat} (hn:q.Nodup) (hl:∀x∈q,x < n) (hlen:q.length=n):∀v,v < n->v∈q:=fun v hv=>by
 apply Classical.byContradiction
 intro hno
 have h1:(v::q).Nodup:=List.nodup_cons.2 ⟨hno,hn⟩
 have h2:(v::q) ⊆ List.range n:=fun p hp=>by
  rcases cC.1 hp with e | e
  ·subst e; exact cO.2 hv
  exact cO.2 (hl p e)
 have:=Qd1 _ _ h1 h2
 simp at this
 omega
theorem Qfd {q:List Nat} {i:Nat} (hi:i < q.length) {v:Nat}:v∈q.take (i+1)↔v∈q.take i\/v=q[i]:=by
 rw [Xg hi,bT,bU]
theorem Qp5 {q:List Nat} (hn:q.Nodup) {i:Nat} (hi:i < q.length):q[i] ∉ q.take i:=fun h=>by
 obtain ⟨k,hk,e⟩:=bA.1 h
 rw [cQ] at hk
 rw [List.getElem_take] at e
 have:=List.pairwise_iff_getElem.1 hn k i (by omega) hi (by omega)
 exact this e
theorem Qps:∀{q:List Nat} {p j:Nat},p∈q.take j->q.idxOf p < j
 | [],p,j,h=>by simp at h
 | x::q,p,0,h=>by simp at h
 | x::q,p,j+1,h=>by
  rw [List.idxOf_cons]
  by_cases e:x=p
  ·subst e; simp
  have:p∈q.take j:=by
   rcases cC.1 h with e' | e'
   ·exact absurd e'.symm e
   exact e'
  have:=Qps this
  rw [show (x==p)=false by simpa using e]
  simp; omega
theorem Q48 {q:List Nat} (hn:q.Nodup) {j:Nat} (hj:j < q.length):j<=q.idxOf q[j]:=by
 apply Classical.byContradiction
 intro h
 have hk:q.idxOf q[j] < q.length:=by omega
 have e:q[q.idxOf q[j]]=q[j]:=List.getElem_idxOf hk
 have:=List.pairwise_iff_getElem.1 hn (q.idxOf q[j]) j hk hj (by omega)
 exact this e
def dcnt (p0:Qe):Nat := min (max p0.Nodes.length 1) 5
theorem Qhw {p0:Qe}:(if 5 < (if 1 > (p0.Nodes.length:Int) then 1 else (p0.Nodes.length:Int)) then 5 else (if 1 > (p0.Nodes.length:Int) then 1 else (p0.Nodes.length:Int)))=(dcnt p0:Int):=by
 unfold dcnt
 split <;> split at * <;> omega
theorem Qka {p0:Qe}:1<=dcnt p0/\dcnt p0<=5:=by unfold dcnt; omega
structure Q00 (p0:Qe):Prop where
 grain:0<=p0.Grain/\p0.Grain<=255
 order:∀x∈p0.Order,0<=x/\x<=255
 card:∀p∈p0.Nodes,0<=p.Card/\p.Card<=255
 W:∀p∈p0.Nodes,∀x∈p.W,0<=x/\x<=255
 Wl:∀p∈p0.Nodes,p.W.length<=9223372036854775807
section
variable {p0:Qe} {q:List Nat}
theorem Qpz {i:Nat} (hi:i < q.length):lkI (q.map fun (x:Nat)=>(x:Int)) (i:Int)=some ((q[i]:Nat):Int):=by rw [Qn (by simpa using hi)]; simp
theorem Q86 (h:Q00 p0) (hn:q.Nodup) (hl:∀x∈q,x < dcnt p0) (hlen:q.length=dcnt p0) :
  ∃C:Nat -> Nat,(∀v,v < dcnt p0->2<=C v/\C v<=3) /\
   Qb fuel (Y7 p0 (q.map fun (x:Nat)=>(x:Int))) (1,0,List.replicate (dcnt p0) (Sum.inl 0))=some (rowG (dcnt p0) fun v=>Sum.inl (C v:Int)):=by
 have hcn:=Qka (p0:=p0)
 have hw:=Xb (body:=Y7 p0 (q.map fun (x:Nat)=>(x:Int)))
  (fun s=>∃(w:Int) (i:Nat) (C:Nat -> Nat),i<=dcnt p0/\(∀v,v∈q.take i->2<=C v/\C v<=3)/\s=(w,(i:Int),rowG (dcnt p0) fun v=>Sum.inl (C v:Int)))
  (fun s=>dcnt p0 - s.2.1.toNat)
  (fun r=>∃C:Nat -> Nat,(∀v,v < dcnt p0->2<=C v/\C v<=3)/\r=rowG (dcnt p0) fun v=>Sum.inl (C v:Int))
  (fun s hs=>?_) (1,0,List.replicate (dcnt p0) (Sum.inl 0)) ⟨1,0,fun _=>0,by omega,fun v hv=>by simp at hv,by rw [Qbx]; rfl⟩ (by simp; omega)
 ·obtain ⟨r,h1,C,h2,rfl⟩:=hw
  exact ⟨C,h2,h1⟩
 ·obtain ⟨w,i,C,hi,hC,rfl⟩:=hs
  by_cases hic:i < dcnt p0
  ·left
   have hiq:i < q.length:=by omega
   have hv:=hl _ (bJ hiq)
   have ek:zw ((i:Int)+1)=((i+1:Nat):Int):=by rw [w64 (by omega)]; omega
   have leaf:∀(w':Int) (c:Nat),2<=c->c<=3->(∃s',some (Qf.next (w',zw ((i:Int)+1),List.set (rowG (dcnt p0) fun v=>(Sum.inl (C v:Int):Int ⊕ Ad)) (Int.toNat ((q[i]:Nat):Int)) (Sum.inl (c:Int))))=some (Qf.next (ρ:=List (Int ⊕ Ad)) s') /\
     (∃(w:Int) (i:Nat) (C:Nat -> Nat),i<=dcnt p0/\(∀v,v∈q.take i->2<=C v/\C v<=3)/\s'=(w,(i:Int),rowG (dcnt p0) fun v=>Sum.inl (C v:Int)))/\dcnt p0 - s'.2.1.toNat < dcnt p0 - (i:Int).toNat):=fun w' c c1 c2=>by
    rw [ek]
    refine ⟨_,rfl,⟨w',i+1,Xh C q[i] c,hic,fun v hv=>?_,?_⟩,by simp; omega⟩
    ·rcases (Qfd hiq).1 hv with e | e
     ·by_cases e2:v=q[i]
      ·subst e2; rw [Yf]; exact ⟨c1,c2⟩
      ·rw [J6 e2]; exact hC v e
     ·subst e; rw [Yf]; exact ⟨c1,c2⟩
    ·rw [aP,Yc]
     congr 2
     refine Ql fun k hk=>?_
     by_cases e:k=q[i]
     ·rw [aH e,e,Yf]
     ·rw [aI e,J6 e]
   have hk:lkL (rowG (dcnt p0) fun v=>(Sum.inl (C v:Int):Int ⊕ Ad)) ((q[i]:Nat):Int)=some (C q[i]:Int):=by unfold lkL; rw [Qr hv]; rfl
   unfold Y7
   simp only [Qhw]
   rw [aH (by simpa using hic)]
   by_cases hin:i < p0.Nodes.length
   ·have hp:=h.card _ (bJ hin)
    have ec:zw (2+zw (Int.tmod (p0.Nodes[i]).Card 2))=((2+(p0.Nodes[i]).Card.toNat % 2:Nat):Int):=by
     have w1:zw ((p0.Nodes[i]).Card % 2)=(p0.Nodes[i]).Card % 2:=w64 (by omega)
     rw [Vc hp.1,w1,w64 (by omega)]; omega
    rw [aH (by simpa using hin),Qn hin]
    simp only [aC]
    rw [aH Ql7]
    split
    ·rw [Qpz hiq]
     simp only [aC]
     rw [hk]
     exact leaf _ 2 (by omega) (by omega)
    ·rw [Qpz hiq]
     simp only [aC]
     rw [hk]
     simp only [aC]
     rw [ec]
     exact leaf _ _ (by omega) (by omega)
   ·rw [aI (by simpa using hin),aH Ql7]
    split
    ·rw [Qpz hiq]
     simp only [aC]
     rw [hk]
     exact leaf _ 2 (by omega) (by omega)
    ·rw [Qpz hiq]
     simp only [aC]
     rw [hk]
     simp only [aC]
     exact leaf _ 2 (by omega) (by omega)
  ·right
   have:i=dcnt p0:=by omega
   subst this
   unfold Y7
   simp only [Qhw]
   rw [aI (by simp)]
   refine ⟨_,rfl,C,fun v hv=>hC v ?_,rfl⟩
   rw [List.take_of_length_le (by omega)]
   exact Qlg hn hl hlen v hv
theorem Q89 (hn:q.Nodup) {L:List (Int ⊕ Ad)} {i u:Nat} {P:List Nat} {pc:Qz} (hi:i < q.length) (hq:q.length<=5) :
  ∃P':List Nat,(P'=P\/(P'=P++[u]/\u∈q.take i/\P.length < 3)) /\
   Qb fuel (Y8 ((i:Int),L) (q.map fun (x:Nat)=>(x:Int)) ((u:Int),P.map fun (x:Nat)=>(x:Int)) pc) (0,P.map fun (x:Nat)=>(x:Int))=some (P'.map fun (x:Nat)=>(x:Int)):=by
 have hw:=Xb (body:=Y8 ((i:Int),L) (q.map fun (x:Nat)=>(x:Int)) ((u:Int),P.map fun (x:Nat)=>(x:Int)) pc)
  (fun s=>∃(k:Nat) (P':List Nat),k<=i/\(P'=P\/(P'=P++[u]/\u∈q.take k/\P.length < 3))/\s=((k:Int),P'.map fun (x:Nat)=>(x:Int)))
  (fun s=>i - s.1.toNat) (fun r=>∃P':List Nat,(P'=P\/(P'=P++[u]/\u∈q.take i/\P.length < 3))/\r=P'.map fun (x:Nat)=>(x:Int))
  (fun s hs=>?_) ((0:Int),P.map fun (x:Nat)=>(x:Int)) ⟨0,P,by omega,.inl rfl,rfl⟩ (by simp; omega)
 ·obtain ⟨r,h1,P',h2,rfl⟩:=hw
  exact ⟨P',h2,h1⟩
 ·obtain ⟨k,P',hk,hP,rfl⟩:=hs
  by_cases hki:k < i
  ·left
   have hkq:k < q.length:=by omega
   have ek:zw ((k:Int)+1)=((k+1:Nat):Int):=by rw [w64 (by omega)]; omega
   have same:∃s',some (Qf.next (zw ((k:Int)+1),P'.map fun (x:Nat)=>(x:Int)))=some (Qf.next (ρ:=List Int) s') /\
     (∃(k:Nat) (P':List Nat),k<=i/\(P'=P\/(P'=P++[u]/\u∈q.take k/\P.length < 3))/\s'=((k:Int),P'.map fun (x:Nat)=>(x:Int)))/\i - s'.1.toNat < i - (k:Int).toNat := by
    rw [ek]
    exact ⟨_,rfl,⟨k+1,P',hki,hP.imp id fun h=>⟨h.1,(Qfd hkq).2 (.inl h.2.1),h.2.2⟩,rfl⟩,by simp; omega⟩
   unfold Y8
   simp only
   rw [aH (by simpa using hki),Qpz hkq]
   simp only [aC]
   by_cases hqu:q[k]=u
   ·rw [aH (by simp [hqu]),aH Ql7]
    have hPP:P'=P:=by
     rcases hP with e | ⟨_,e,_⟩
     ·exact e
     exact absurd (hqu ▸ e) (Qp5 hn hkq)
    subst hPP
    split
    ·split
     ·rename_i h3
      have h3':P'.length < 3:=by simp at h3; omega
      rw [aH (by simp; omega),ek]
      exact ⟨_,rfl,⟨k+1,P'++[u],hki,.inr ⟨rfl,(Qfd hkq).2 (.inr hqu.symm),h3'⟩,by simp⟩,by simp; omega⟩
     ·exact same
    ·exact same
   ·rw [aI (by simpa using (fun e:((q[k]:Nat):Int)=(u:Int)=>hqu (by omega)))]
    exact same
  ·right
   have:k=i:=by omega
   subst this
   unfold Y8
   simp only
   rw [aI (by simp)]
   exact ⟨_,rfl,P',hP,rfl⟩
theorem Q7l (hn:q.Nodup) (hlen:q.length=dcnt p0) {L:List (Int ⊕ Ad)} {i:Nat} {pc:Qz} (hi:i < q.length) :
  ∃P:List Nat,P.Pairwise (· < ·)/\(∀p∈P,p∈q.take i)/\P.length<=3 /\
   Qb fuel (X6 p0 ((i:Int),L) (q.map fun (x:Nat)=>(x:Int)) pc) (0,[])=some (P.map fun (x:Nat)=>(x:Int)):=by
 have hcn:=Qka (p0:=p0)
 have hw:=Xb (body:=X6 p0 ((i:Int),L) (q.map fun (x:Nat)=>(x:Int)) pc)
  (fun s=>∃(u:Nat) (P:List Nat),u<=dcnt p0/\P.Pairwise (· < ·)/\(∀p∈P,p < u/\p∈q.take i)/\P.length<=3/\s=((u:Int),P.map fun (x:Nat)=>(x:Int)))
  (fun s=>dcnt p0 - s.1.toNat) (fun r=>∃P:List Nat,P.Pairwise (· < ·)/\(∀p∈P,p∈q.take i)/\P.length<=3/\r=P.map fun (x:Nat)=>(x:Int))
  (fun s hs=>?_) ((0:Int),([]:List Int)) ⟨0,[],by omega,List.Pairwise.nil,fun p hp=>by simp at hp,by simp,rfl⟩ (by simp; omega)
 ·obtain ⟨r,h1,P,h2,h3,h4,rfl⟩:=hw
  exact ⟨P,h2,h3,h4,h1⟩
 ·obtain ⟨u,P,hu,h2,h3,h4,rfl⟩:=hs
  unfold X6
  simp only [Qhw]
  by_cases huc:u < dcnt p0
  ·left
   obtain ⟨P',hP',hb⟩:=Q89 hn (L:=L) (u:=u) (P:=P) (pc:=pc) hi (by omega)
   have ek:zw ((u:Int)+1)=((u+1:Nat):Int):=by rw [w64 (by omega)]; omega
   rw [aH (by simpa using huc),hb]
   simp only [aC]
   rw [ek]
   refine ⟨_,rfl,⟨u+1,P',huc,?_,?_,?_,rfl⟩,by simp; omega⟩
   ·rcases hP' with rfl | ⟨rfl,_,_⟩
    ·exact h2
    ·rw [List.pairwise_append]
     exact ⟨h2,List.pairwise_singleton _ _,fun a ha b hb=>by simp at hb; subst hb; exact (h3 a ha).1⟩
   ·rcases hP' with rfl | ⟨rfl,hm,_⟩
    ·exact fun p hp=>⟨by have:=(h3 p hp).1; omega,(h3 p hp).2⟩
    ·intro p hp
     rcases bT.1 hp with e | e
     ·exact ⟨by have:=(h3 p e).1; omega,(h3 p e).2⟩
     ·simp at e; subst e; exact ⟨by omega,hm⟩
   ·rcases hP' with rfl | ⟨rfl,_,hlt⟩
    ·exact h4
    ·simp; omega
  ·right
   rw [aI (by simpa using huc)]
   exact ⟨_,rfl,P,h2,fun p hp=>(h3 p hp).2,h4,rfl⟩
theorem Qua {n:Nat} {g:Int} {F:Nat -> Ad} {C:Nat -> Nat} (hF:∀v,v < n->(F v).Card=(C v:Int)) (hn:n<=8):Vh ⟨g,rowG n F⟩=some (Qk n C):=by
 unfold Vh
 refine Zw (Zi (s0:=((0:Int),([]:List Int))) (r:=Qk n C) (fun k=>((k:Int),Qk k C)) n rfl (fun k hk=>?_) ?_ (by omega)) rfl
 ·unfold J1
  simp only
  rw [aH (by rw [Qm]; simpa using hk),Qr hk]
  simp only [aC]
  rw [hF k hk,show Qk k C++[(C k:Int)]=Qk (k+1) C from K6,aH (by rw [Xn]; omega),w64 (by omega)]
  rfl
 unfold J1
 simp only
 rw [aI (by rw [Qm]; simp)]
theorem Qm5 {f:Nat -> Nat} {l:List Nat} (hf:∀p∈l,f p<=4) (hl:l.length<=8):Vd (l.map fun p=>(f p:Int))=some (lprod f l:Int):=by
 unfold Vd
 refine Zw (Zi (s0:=((1:Int),(0:Int))) (r:=(lprod f l:Int)) (fun k=>((lprod f (l.take k):Int),(k:Int))) l.length (by simp [lprod]) (fun k hk=>?_) ?_ (by omega)) rfl
 ·have h1:lprod f (l.take k)<=4^8:=bV (Qfi fun p hp=>hf p (bH hp)) (aT (by omega) (by rw [cQ]; omega))
  have h2:=hf _ (bJ hk)
  have h3:lprod f (l.take k)*f l[k]<=65536*4:=Nat.mul_le_mul (by omega) h2
  have e:(lprod f (l.take k):Int)*(f l[k]:Int)=((lprod f (l.take (k+1)):Nat):Int):=by rw [Xg hk,Qb0]; simp
  have e2:lprod f (l.take (k+1))<=65536*4:=by rw [Xg hk,Qb0]; exact h3
  unfold Ki
  simp only
  rw [aH (by simpa using hk),Qn (by simpa using hk)]
  simp only [aC,List.getElem_map]
  rw [e,w64 (by omega),w64 (by omega)]
  rfl
 unfold Ki
 simp only
 rw [aI (by simp),List.take_of_length_le (aY _)]
theorem Q8u {n v:Nat} {N:Nat -> Int ⊕ Ad} {x:Ad}:List.set (List.map Ah (rowG n N)) (Int.toNat (v:Int)) x=rowG n fun k=>if k=v then x else Ah (N k):=by
 rw [show List.map Ah (rowG n N)=rowG n (fun k=>Ah (N k)) by simp [rowG],aP,Yc]
theorem Qzh {n v:Nat} {g:Int} {N:Nat -> Int ⊕ Ad} {C:Nat -> Nat} {P:List Nat} {R:List (List Int)} (hN:∀k,k < n->(Ah (N k)).Card=(C k:Int)) (hn:n<=8) (hv:v < n) (hP:∀p∈P,p < n) (hl:P.length<=8) :
  Q4 ⟨g,List.set (List.map Ah (rowG n N)) (Int.toNat (v:Int)) ⟨(C v:Int),P.map (fun (x:Nat)=>(x:Int)),R⟩⟩ (v:Int)=some (P.map fun p=>(C p:Int)):=by
 unfold Q4
 rw [Q8u,Qua (C:=C) (fun k hk=>?_) hn]
 ·simp only [aC]
  rw [Qr hv]
  simp only [aC,eJ]
  rw [Qu1 hP hl]
  rfl
 ·by_cases e:k=v
  ·subst e; rw [aH rfl]
  ·rw [aI e]; exact hN k hk
theorem Q8b {g c v i:Nat} {N:Nat -> Int ⊕ Ad} {C:Nat -> Nat} {P:List Nat} {pc:Qz} (hg:zw (1+(zw (Int.tmod p0.Grain 60)))=(g:Int)) (hg60:g<=60)
  (hC:∀k,k < dcnt p0->2<=C k/\C k<=3) (hN:∀k,k < dcnt p0->(Ah (N k)).Card=(C k:Int)) (hv:v < dcnt p0) (hP:∀p∈P,p < dcnt p0) (hl:P.length<=3)
  (hW:∀x∈pc.W,0<=x/\x<=255) (hWl:pc.W.length<=9223372036854775807) :
  ∃W:Nat -> Nat -> Nat,(∀r,r < lprod C P->Qo (C v) (fun x=>(W r x:Int))=g) /\
   Qb fuel (Y4 p0 ((i:Int),rowG (dcnt p0) N) (v:Int) (C v:Int) (P.map fun (x:Nat)=>(x:Int)) pc) (0,[])=some (rowG (lprod C P) fun r=>rowG (C v) fun x=>(W r x:Int)):=by
 have hcn:=Qka (p0:=p0)
 have hcv:=hC v hv
 have hsz:=Qm5 (f:=C) (l:=P) (fun p hp=>by have:=hC p (hP p hp); omega) (by omega)
 have hb:lprod C P<=64:=bV (Qfi fun p hp=>by have:=hC p (hP p hp); omega) (aT (by omega) hl:4^P.length<=4^3)
 have hw:=Xb (body:=Y4 p0 ((i:Int),rowG (dcnt p0) N) (v:Int) (C v:Int) (P.map fun (x:Nat)=>(x:Int)) pc)
  (fun s=>∃(r:Nat) (W:Nat -> Nat -> Nat),r<=lprod C P/\(∀r',r' < r->Qo (C v) (fun x=>(W r' x:Int))=g)/\s=((r:Int),rowG r fun r=>rowG (C v) fun x=>(W r x:Int)))
  (fun s=>lprod C P - s.1.toNat) (fun o=>∃W:Nat -> Nat -> Nat,(∀r,r < lprod C P->Qo (C v) (fun x=>(W r x:Int))=g)/\o=rowG (lprod C P) fun r=>rowG (C v) fun x=>(W r x:Int))
  (fun s hs=>?_) ((0:Int),([]:List (List Int))) ⟨0,fun _ _=>0,by omega,fun r hr=>by omega,rfl⟩ (by simp; omega)
 ·obtain ⟨o,h1,W,h2,rfl⟩:=hw
  exact ⟨W,h2,h1⟩
 ·obtain ⟨r,W,hr,hS,rfl⟩:=hs
  unfold Y4
  simp only
  rw [Qzh hN (by omega) hv hP (by omega)]
  simp only [aC]
  rw [hsz]
  simp only [aC]
  by_cases hrs:r < lprod C P
  ·left
   have hm:r*(C v+1)<=64*4:=Nat.mul_le_mul (by omega) (by omega)
   have ef:zw ((r:Int)*zw ((C v:Int)+1))=((r*(C v+1):Nat):Int):=by
    have w1:zw ((C v:Int)+1)=((C v+1:Nat):Int):=by rw [w64 (by omega)]; omega
    have e3:(r:Int)*((C v+1:Nat):Int)=((r*(C v+1):Nat):Int):=by simp
    rw [w1,e3]
    exact w64 (by omega)
   obtain ⟨f,hf,hfs⟩:=Q47 (g:=g) (c:=C v) (l:=pc.W) (fr:=r*(C v+1)) hg60 (by omega) (by omega) hW hWl (by omega)
   have ek:zw ((r:Int)+1)=((r+1:Nat):Int):=by rw [w64 (by omega)]; omega
   rw [aH (by simpa using hrs),hg,ef,hf]
   simp only [aC]
   rw [aH (by simp [Qm]; omega),ek]
   have e:(rowG r fun r=>rowG (C v) fun x=>(W r x:Int))++[rowG (C v) fun x=>(f x:Int)]=rowG (r+1) fun r'=>rowG (C v) fun x=>((Xh W r f) r' x:Int):=by
    rw [<-K6,Yf]
    congr 1
    exact Ql fun k hk=>by rw [J6 (by omega)]
   refine ⟨_,rfl,⟨r+1,Xh W r f,hrs,fun r' hr'=>?_,by rw [e]⟩,by simp; omega⟩
   by_cases e2:r'=r
   ·subst e2; rw [Yf]; exact hfs
   ·rw [J6 e2]; exact hS r' (by omega)
  ·right
   have:r=lprod C P:=by omega
   subst this
   rw [aI (by simp)]
   exact ⟨_,rfl,W,hS,rfl⟩
theorem Q94 {s:Int × List (Int ⊕ Ad)} {x1:List Int}:Qei p0 s x1=X6 p0 s x1 ⟨0,0,[]⟩:=rfl
theorem Q7h {n:Nat} {F:Nat -> Ad}:alr (rowG n fun v=>(Sum.inr (F v):Int ⊕ Ad))=some (rowG n F):=by
 have:∀l:List Nat,alr (l.map fun v=>(Sum.inr (F v):Int ⊕ Ad))=some (l.map F):=by
  intro l
  induction l with
  | nil=>rfl
  | cons x l ih=>simp only [dD,alr,ih,bK]
 exact this _
def GdF (D:NF) (q:List Nat) (j:Nat) (v:Nat):Prop:=(D.par v).Pairwise (· < ·)/\(∀p∈D.par v,p∈q.take j)/\(D.par v).length<=3/\∀r,r < D.rows v->Qo (D.card v) (fun x=>(D.W v r x:Int))=D.g
theorem Q9h (h:Q00 p0) (hn:q.Nodup) (hl:∀x∈q,x < dcnt p0) (hlen:q.length=dcnt p0) {g:Nat} (hg:zw (1+(zw (Int.tmod p0.Grain 60)))=(g:Int)) (hg60:g<=60)
  {C:Nat -> Nat} (hC:∀k,k < dcnt p0->2<=C k/\C k<=3) :
  ∃(P:Nat -> List Nat) (W:Nat -> Nat -> Nat -> Nat),(∀j (hj:j < q.length),GdF ⟨dcnt p0,g,C,P,W⟩ q j q[j]) /\
   Qb fuel (Vb p0 (q.map fun (x:Nat)=>(x:Int))) (0,rowG (dcnt p0) fun v=>Sum.inl (C v:Int))=some (rowG (dcnt p0) fun v=>Sum.inr ((NF.mk (dcnt p0) g C P W).node v)):=by
 have hcn:=Qka (p0:=p0)
 let N:Nat -> (Nat -> List Nat)->(Nat -> Nat -> Nat -> Nat)->Nat -> Int ⊕ Ad:=fun i P W v=>if v∈q.take i then Sum.inr ((NF.mk (dcnt p0) g C P W).node v) else Sum.inl (C v:Int)
 have hNco:∀i P W k,(Ah (N i P W k)).Card=(C k:Int):=fun i P W k=>by
  show (Ah (if k∈q.take i then Sum.inr ((NF.mk (dcnt p0) g C P W).node k) else Sum.inl (C k:Int))).Card=_
  split <;> rfl
 have hw:=Xb (body:=Vb p0 (q.map fun (x:Nat)=>(x:Int)))
  (fun s=>∃(i:Nat) (P:Nat -> List Nat) (W:Nat -> Nat -> Nat -> Nat),i<=dcnt p0/\(∀j (hj:j < q.length),j < i->GdF ⟨dcnt p0,g,C,P,W⟩ q j q[j])/\s=((i:Int),rowG (dcnt p0) (N i P W)))
  (fun s=>dcnt p0 - s.1.toNat)
  (fun o=>∃(P:Nat -> List Nat) (W:Nat -> Nat -> Nat -> Nat),(∀j (hj:j < q.length),GdF ⟨dcnt p0,g,C,P,W⟩ q j q[j])/\o=rowG (dcnt p0) fun v=>Sum.inr ((NF.mk (dcnt p0) g C P W).node v))
  (fun s hs=>?_) ((0:Int),rowG (dcnt p0) fun v=>Sum.inl (C v:Int)) ⟨0,fun _=>[],fun _ _ _=>0,by omega,fun j _ hj=>by omega,by congr 1⟩ (by simp; omega)
 ·obtain ⟨o,h1,P,W,h2,rfl⟩:=hw
  exact ⟨P,W,h2,h1⟩
 ·obtain ⟨i,P,W,hi,hG,rfl⟩:=hs
  by_cases hic:i < dcnt p0
  ·left
   have hiq:i < q.length:=by omega
   have hv:=hl _ (bJ hiq)
   have hnot:=Qp5 hn hiq
   have ek:zw ((i:Int)+1)=((i+1:Nat):Int):=by rw [w64 (by omega)]; omega
   have hk:lkL (rowG (dcnt p0) (N i P W)) ((q[i]:Nat):Int)=some (C q[i]:Int):=by
    unfold lkL
    rw [Qr hv]
    show Option.bind (some (if q[i]∈q.take i then _ else _)) _=_
    rw [aI hnot]; rfl
   have leaf:∀pc:Qz,(∀x∈pc.W,0<=x/\x<=255)->pc.W.length<=9223372036854775807 ->
     ∃s',((Qb fuel (X6 p0 ((i:Int),rowG (dcnt p0) (N i P W)) (q.map fun (x:Nat)=>(x:Int)) pc) (0,([]:List Int))).bind fun x72 =>
      (Qb fuel (Y4 p0 ((i:Int),rowG (dcnt p0) (N i P W)) ((q[i]:Nat):Int) (C q[i]:Int) x72 pc) (0,([]:List (List Int)))).bind fun x83 =>
      some (Qf.next (ρ:=List (Int ⊕ Ad)) (zw ((i:Int)+1),(List.set (rowG (dcnt p0) (N i P W)) (Int.toNat ((q[i]:Nat):Int)) (Sum.inr (Ad.mk (C q[i]:Int) x72 x83))))))=some (Qf.next s') /\
      (∃(i:Nat) (P:Nat -> List Nat) (W:Nat -> Nat -> Nat -> Nat),i<=dcnt p0/\(∀j (hj:j < q.length),j < i->GdF ⟨dcnt p0,g,C,P,W⟩ q j q[j])/\s'=((i:Int),rowG (dcnt p0) (N i P W)))/\dcnt p0 - s'.1.toNat < dcnt p0 - (i:Int).toNat := fun pc hpW hpl=>by
    obtain ⟨Pv,p1,p2,p3,hb2⟩:=Q7l (p0:=p0) hn hlen (L:=rowG (dcnt p0) (N i P W)) (pc:=pc) hiq
    have hPv:∀p∈Pv,p < dcnt p0:=fun p hp=>hl p (bH (p2 p hp))
    obtain ⟨Wv,w1,hb3⟩:=Q8b (p0:=p0) (i:=i) (c:=0) (pc:=pc) hg hg60 hC (fun k _=>hNco i P W k) hv hPv p3 hpW hpl
    rw [hb2]
    simp only [aC]
    rw [hb3]
    simp only [aC]
    rw [ek,aP,Yc]
    refine ⟨_,rfl,⟨i+1,Xh P q[i] Pv,Xh W q[i] Wv,hic,fun j hj hji=>?_,?_⟩,by simp; omega⟩
    ·by_cases e:j=i
     ·subst e
      unfold GdF NF.rows
      simp only [Yf]
      exact ⟨p1,p2,p3,w1⟩
     ·have hne:q[j]≠q[i]:=fun e2=>e (by
       rcases aZ j i with h' | h'
       ·exact absurd e2 (List.pairwise_iff_getElem.1 hn j i hj hiq h')
       ·omega)
      have:=hG j hj (by omega)
      unfold GdF NF.rows at this ⊢
      simp only [J6 hne]
      exact this
    ·congr 1
     refine Ql fun k hk=>?_
     by_cases e:k=q[i]
     ·rw [aH e]
      show _=if k∈q.take (i+1) then _ else _
      rw [aH ((Qfd hiq).2 (.inr e)),e]
      unfold NF.node NF.rows
      simp only [Yf]
     ·rw [aI e]
      show (if k∈q.take i then _ else _)=if k∈q.take (i+1) then _ else _
      by_cases hm:k∈q.take i
      ·rw [aH hm,aH ((Qfd hiq).2 (.inl hm))]
       unfold NF.node NF.rows
       simp only [J6 e]
      ·rw [aI hm,aI (fun h'=>((Qfd hiq).1 h').elim hm e)]
   unfold Vb
   simp only [Qhw]
   rw [aH (by simpa using hic)]
   by_cases hin:i < p0.Nodes.length
   ·rw [aH (by simpa using hin),Qn hin]
    simp only [aC]
    rw [Qpz hiq]
    simp only [aC]
    rw [hk]
    simp only [aC]
    exact leaf _ (h.W _ (bJ hin)) (h.Wl _ (bJ hin))
   ·rw [aI (by simpa using hin),Qpz hiq]
    simp only [aC]
    rw [hk]
    simp only [aC]
    rw [Q94]
    exact leaf ⟨0,0,[]⟩ (fun x hx=>by simp at hx) (by simp)
  ·right
   have:i=dcnt p0:=by omega
   subst this
   unfold Vb
   simp only [Qhw]
   rw [aI (by simp)]
   refine ⟨_,rfl,P,W,fun j hj=>hG j hj (by omega),?_⟩
   refine Ql fun k hk=>?_
   show (if k∈q.take (dcnt p0) then _ else _)=_
   rw [aH (by rw [List.take_of_length_le (by omega)]; exact Qlg hn hl hlen k hk)]
theorem Q3e (h:Q00 p0):∃D:NF,VX D/\D.n<=5/\(∀v,v < D.n->2<=D.card v/\D.card v<=3)/\Jl p0=some D.net:=by
 have hcn:=Qka (p0:=p0)
 have hgr:=h.grain
 obtain ⟨q,hn,hl,hlen,hq⟩:=Q0b (n:=dcnt p0) hcn.2 h.order
 obtain ⟨C,hC,h0⟩:=Q86 h hn hl hlen
 have hg:zw (1+(zw (Int.tmod p0.Grain 60)))=((1+p0.Grain.toNat % 60:Nat):Int):=by
  have w1:zw (p0.Grain % 60)=p0.Grain % 60:=w64 (by omega)
  rw [Vc hgr.1,w1,w64 (by omega)]; omega
 have hg60:1+p0.Grain.toNat % 60<=60:=by omega
 obtain ⟨P,W,hG,h7⟩:=Q9h h hn hl hlen hg hg60 hC
 refine ⟨⟨dcnt p0,1+p0.Grain.toNat % 60,C,P,W⟩,?_,hcn.2,hC,?_⟩
 ·have hall:∀v,v < dcnt p0->∃j,∃hj:j < q.length,q[j]=v:=fun v hv=>bA.1 (Qlg hn hl hlen v hv)
  have hsum:∀v r,v < dcnt p0->r < (NF.mk (dcnt p0) (1+p0.Grain.toNat % 60) C P W).rows v->Qo (C v) (fun x=>(W v r x:Int))=((1+p0.Grain.toNat % 60:Nat):Int):=fun v r hv hr=>by
   obtain ⟨j,hj,rfl⟩:=hall v hv
   exact (hG j hj).2.2.2 r hr
  refine ⟨⟨by show 1<=dcnt p0; omega,by show dcnt p0<=8; omega,by show 1<=1+p0.Grain.toNat % 60; omega,hg60,fun v hv=>by have:=hC v hv; show 1<=C v/\C v<=4; omega,fun v hv p hp=>?_,fun v hv=>?_,fun v r x hv hr hx=>?_,?_⟩,fun v hv=>?_,fun v hv hp=>?_,⟨fun v=>q.idxOf v,fun v hv p hp=>?_⟩,hsum⟩
  ·obtain ⟨j,hj,rfl⟩:=hall v hv
   exact hl p (bH ((hG j hj).2.1 p hp))
  ·obtain ⟨j,hj,rfl⟩:=hall v hv
   have:=(hG j hj).2.2.1
   omega
  ·have h1:=hsum v r hv hr
   have h2:=Qfv (n:=C v) (k:=x+1) (f:=fun x=>(W v r x:Int)) (fun _ _=>cY _) hx
   have h3:0<=Qo x (fun x=>(W v r x:Int)):=Y2 fun _ _=>cY _
   simp only [Qo] at h2
   show W v r x<=1+p0.Grain.toNat % 60
   omega
  ·have h1:prodTo (dcnt p0) C<=3^dcnt p0:=K4 fun v hv=>(hC v hv).2
   have h2:3^dcnt p0<=3^5:=aT (by omega) hcn.2
   show prodTo (dcnt p0) C<=1024
   omega
  ·obtain ⟨j,hj,rfl⟩:=hall v hv
   exact (hG j hj).1
  ·obtain ⟨j,hj,rfl⟩:=hall v hv
   exact Qp5 hn hj ((hG j hj).2.1 _ hp)
  obtain ⟨j,hj,rfl⟩:=hall v hv
  have h1:=Qps ((hG j hj).2.1 p hp)
  have h2:=Q48 hn hj
  show q.idxOf p < q.idxOf q[j]
  omega
 unfold Jl
 simp only [Qhw]
 rw [aH (by omega),aH (by omega),aP,hq]
 simp only [aC]
 rw [h0]
 simp only [aC]
 rw [h7]
 simp only [aC]
 rw [Q7h,hg]
 rfl
end
end Go.Ab
namespace Go.Ab
open Go
theorem Vf {τ ρ σ:Type} {n:Nat} (hn:n < 1152921504606846976) (good:Nat -> Prop) (mkS:Int->τ->σ) {body:σ->Option (Qf σ ρ)} (T:Nat -> τ) (r rb:ρ)
  (step:∀k,k < n->(∀j,j < k->good j)->good k->body (mkS (k:Int) (T k))=some (.next (mkS (zw ((k:Int)+1)) (T (k+1)))))
  (bad:∀k,k < n->(∀j,j < k->good j)->¬ good k->body (mkS (k:Int) (T k))=some (.done rb))
  (done:(∀j,j < n->good j)->body (mkS (n:Int) (T n))=some (.done r)) :
  ((∀j,j < n->good j)/\Qb fuel body (mkS ((0:Nat):Int) (T 0))=some r)\/((¬ ∀j,j < n->good j)/\Qb fuel body (mkS ((0:Nat):Int) (T 0))=some rb):=by
 have h:=Qpt (n:=n) (k0:=0) (by omega) hn mkS (body:=body) (fun k t=>t=T k/\∀j,j < k->good j) (fun x=>((∀j,j < n->good j)/\x=r)\/((¬ ∀j,j < n->good j)/\x=rb))
  (fun k t _ hk hI=>by
   obtain ⟨rfl,hI⟩:=hI
   by_cases hg:good k
   ·left
    exact ⟨_,step k hk hI hg,rfl,fun j hj=>by
     by_cases e:j=k
     ·rw [e]; exact hg
     exact hI j (by omega)⟩
   exact .inr ⟨_,bad k hk hI hg,.inr ⟨fun h=>hg (h k hk),rfl⟩⟩)
  (fun t hI=>by
   obtain ⟨rfl,hI⟩:=hI
   exact ⟨_,done hI,.inl ⟨hI,rfl⟩⟩) (T 0) ⟨rfl,fun j hj=>by omega⟩
 obtain ⟨x,h1,h2⟩:=h
 rcases h2 with ⟨a,rfl⟩ | ⟨a,rfl⟩
 ·exact .inl ⟨a,h1⟩
 ·exact .inr ⟨a,h1⟩
structure NB (n:Nat) (F:Nat -> Ad):Prop where
 par:∀v,v < n->(F v).Parents.length<=1000000
 rows:∀v,v < n->(F v).Rows.length<=1000000
 row:∀v,v < n->∀r∈(F v).Rows,r.length<=1000000
def Kz (x:Ad):Prop:=1<=x.Card/\x.Card<=4
def cardN (F:Nat -> Ad) (v:Nat):Nat := (F v).Card.toNat
theorem Qfb {F:Nat -> Ad} {v:Nat} (h:Kz (F v)):((cardN F v:Nat):Int)=(F v).Card:=by
 unfold cardN; have:=h.1; omega
theorem Qak {F:Nat -> Ad} {v:Nat} (h:Kz (F v)):1<=cardN F v/\cardN F v<=4:=by
 unfold cardN; have:=h.1; have:=h.2; omega
theorem Q0h {n:Nat} {g:Int} {F:Nat -> Ad} (hn:n<=8) :
  ((∀v,v < n->Kz (F v))/\Qb fuel (X1 ⟨g,rowG n F⟩) ((1:Int),(0:Int),rowG n fun _=>(0:Int))=some (Sum.inr ((prodTo n (cardN F):Int),Qk n (cardN F)))) \/
  ((¬ ∀v,v < n->Kz (F v))/\Qb fuel (X1 ⟨g,rowG n F⟩) ((1:Int),(0:Int),rowG n fun _=>(0:Int))=some (Sum.inl ())):=by
 have hlen:(rowG n F).length=n:=Qm
 have h:=Vf (n:=n) (by omega) (fun v=>Kz (F v)) (fun i (t:Int × List Int)=>(t.1,i,t.2)) (body:=X1 ⟨g,rowG n F⟩)
  (fun k=>((prodTo k (cardN F):Int),rowG n fun j=>if j < k then (cardN F j:Int) else 0)) (Sum.inr ((prodTo n (cardN F):Int),Qk n (cardN F))) (Sum.inl ())
  (fun k hk hI hg=>by
   have b1:prodTo k (cardN F)<=4^k:=K4 fun j hj=>(Qak (hI j hj)).2
   have b2:(4:Nat)^k<=4^8:=aT (by omega) (by omega)
   have b3:prodTo k (cardN F)*cardN F k<=65536*4:=Nat.mul_le_mul (by omega) (Qak hg).2
   have hc:=Qfb hg
   have e1:(prodTo k (cardN F):Int)*(F k).Card=((prodTo (k+1) (cardN F):Nat):Int):=by rw [<-hc]; simp [prodTo]
   unfold X1
   dsimp only
   rw [hlen,aH (dlt hk),Qr hk,aC,aI (by simp; exact hg.1),aI (by simp; exact hg.2),Qr hk,aC,e1,w64 (n:=((prodTo (k+1) (cardN F):Nat):Int)) (by simp only [prodTo]; omega),aP,Yc,<-hc]
   congr 4
   refine Ql fun j hj=>?_
   by_cases e:j=k
   ·subst e; simp
   rw [aI e]
   by_cases e2:j < k
   ·rw [aH e2,aH (by omega)]
   rw [aI e2,aI (by omega)])
  (fun k hk hI hg=>by
   unfold X1
   dsimp only
   rw [hlen,aH (dlt hk),Qr hk,aC]
   by_cases c:(F k).Card < 1
   ·rw [aH (by simpa using c)]
   rw [aI (by simpa using c),aH (by unfold Kz at hg; simp; omega)])
  (fun hI=>by
   unfold X1
   dsimp only
   rw [hlen,aI (nlt n)]
   congr 4
   exact Ql fun j hj=>aH hj)
 have e0:(rowG n fun j=>if j < 0 then (cardN F j:Int) else 0)=rowG n fun _=>(0:Int):=Ql fun j _=>aI (by omega)
 simp only [e0] at h
 exact h
def Qaj (n:Nat) (l:List Int):Prop:=∃q:List Nat,l=nI q/\q.Pairwise (· < ·)/\∀p∈q,p < n
def Qji (l:List Int) (k:Nat):Int:=if k=0 then -1 else (l[k - 1]?).getD 0
def Qi1 (n:Nat) (l:List Int) (k:Nat):Prop:=Qji l k < (l[k]?).getD 0/\(l[k]?).getD 0 < n
theorem Qr1 {l:List Int} {k:Nat}:Qji l (k+1)=(l[k]?).getD 0:=by simp [Qji]
theorem Qg9 {n:Nat} {l:List Int} {m:Nat} (h:∀j,j < m->Qi1 n l j):∀k,k < m->0<=(l[k]?).getD 0/\∀j,j < k->(l[j]?).getD 0 < (l[k]?).getD 0
 | 0,hk=>⟨by have:=(h 0 hk).1; simp [Qji] at this ⊢; omega,fun j hj=>by omega⟩
 | k+1,hk=>by
  obtain ⟨h1,h2⟩:=Qg9 h k (by omega)
  have h3:=(h (k+1) hk).1
  rw [Qr1] at h3
  refine ⟨by omega,fun j hj=>?_⟩
  by_cases e:j=k
  ·rw [e]; exact h3
  have:=h2 j (by omega); omega
theorem Qtf {n:Nat} {l:List Int} (h:∀j,j < l.length->Qi1 n l j):Qaj n l:=by
 have hm:=Qg9 h
 have e:l=nI (l.map Int.toNat):=by
  unfold nI
  rw [List.map_map]
  conv=>lhs; rw [<-List.map_id l]
  refine List.map_congr_left fun x hx=>?_
  obtain ⟨k,hk,rfl⟩:=bA.1 hx
  have:=(hm k hk).1
  rw [aG hk] at this
  simp at this ⊢; omega
 refine ⟨l.map Int.toNat,e,?_,fun p hp=>?_⟩
 ·rw [List.pairwise_map,List.pairwise_iff_getElem]
  intro i j hi hj hij
  have h1:=(hm j hj).2 i hij
  have h2:=(hm i hi).1
  rw [aG hj,aG hi] at h1
  rw [aG hi] at h2
  simp at h1 h2; omega
 obtain ⟨x,hx,rfl⟩:=cD.1 hp
 obtain ⟨k,hk,rfl⟩:=bA.1 hx
 have h1:=(h k hk).2
 have h2:=(hm k hk).1
 rw [aG hk] at h1 h2
 simp at h1 h2; omega
theorem Qnt {n:Nat} {l:List Int} (h:Qaj n l):∀j,j < l.length->Qi1 n l j:=by
 obtain ⟨q,rfl,h1,h2⟩:=h
 intro j hj
 rw [Qan] at hj
 have e:∀k (hk:k < q.length),((nI q)[k]?).getD 0=(q[k]:Int):=fun k hk=>by simp [nI,hk]
 refine ⟨?_,?_⟩
 ·unfold Qji
  rw [e j hj]
  by_cases c:j=0
  ·rw [aH c]; omega
  rw [aI c,e (j - 1) (by omega)]
  have:=List.pairwise_iff_getElem.1 h1 (j - 1) j (by omega) hj (by omega)
  omega
 rw [e j hj]
 have:=h2 _ (bJ hj); omega
def parN (F:Nat -> Ad) (v:Nat):List Nat := (F v).Parents.map Int.toNat
theorem Je {n:Nat} {F:Nat -> Ad} {v:Nat} (h:Qaj n (F v).Parents):(F v).Parents=nI (parN F v)/\(parN F v).Pairwise (· < ·)/\∀p∈parN F v,p < n:=by
 obtain ⟨q,e,h1,h2⟩:=h
 have:parN F v=q:=by
  unfold parN; rw [e]; unfold nI; rw [List.map_map]
  conv=>rhs; rw [<-List.map_id q]
  exact List.map_congr_left fun x _=>by simp
 rw [this]; exact ⟨e,h1,h2⟩
theorem Qd8 {n:Nat} {q:List Nat} (h1:q.Pairwise (· < ·)) (h2:∀p∈q,p < n):q.length<=n:=by
 have:=Qd1 q (List.range n) (h1.imp fun h=>by omega) fun p hp=>cO.2 (h2 p hp)
 simpa using this
theorem Qwo {n v:Nat} {g:Int} {F:Nat -> Ad} {x:Ad} {S:Nat -> Int} {R:List Int} (hn:n<=8) (hv:v < n) (hb:x.Parents.length<=1000000) (h0:S v=0) (w:Int × List Int) (hw1:w.1=(v:Int)) :
  ((Qaj n x.Parents/\(v:Int) ∉ x.Parents)/\Qb fuel (X4 x ⟨g,rowG n F⟩ w) ((-1:Int),(0:Int),rowG n S)=some (Sum.inr (rowG n fun j=>if j=v then (bitsOf (x.Parents.map Int.toNat) 0:Int) else S j))) \/
  (¬ (Qaj n x.Parents/\(v:Int) ∉ x.Parents)/\Qb fuel (X4 x ⟨g,rowG n F⟩ w) ((-1:Int),(0:Int),rowG n S)=some (Sum.inl ())):=by
 have hlen:(rowG n F).length=n:=Qm
 have h:=Vf (n:=x.Parents.length) (by omega) (fun k=>Qi1 n x.Parents k/\(x.Parents[k]?).getD 0≠(v:Int)) (fun i (t:Int × List Int)=>(t.1,i,t.2)) (body:=X4 x ⟨g,rowG n F⟩ w)
  (fun k=>(Qji x.Parents k,rowG n fun j=>if j=v then (bitsOf ((x.Parents.take k).map Int.toNat) 0:Int) else S j)) (Sum.inr (rowG n fun j=>if j=v then (bitsOf (x.Parents.map Int.toNat) 0:Int) else S j)) (Sum.inl ())
  (fun k hk hI hg=>by
   have hm:=Qg9 (m:=k+1) (n:=n) (l:=x.Parents) fun j hj=>by
    by_cases e:j=k
    ·rw [e]; exact hg.1
    exact (hI j (by omega)).1
   have ek:lkI x.Parents (k:Int)=some ((x.Parents[k]?).getD 0):=by rw [Qn hk,aG hk]; rfl
   have htake:(x.Parents.take (k+1)).map Int.toNat = (x.Parents.take k).map Int.toNat ++ [((x.Parents[k]?).getD 0).toNat]:=by
    rw [Xg hk,cV,aG hk]; rfl
   have hbl:bitsOf ((x.Parents.take k).map Int.toNat) 0 < 18446744073709551616:=K9 _ _ (by omega) fun p hp=>by
    obtain ⟨y,hy,rfl⟩:=cD.1 hp
    obtain ⟨j,hj,rfl⟩:=bA.1 hy
    have hj':j < k:=by rw [cQ] at hj; omega
    have h1:=(hI j hj').1.2
    have h2:=(hm j (by omega)).1
    rw [aG (by omega)] at h1 h2
    rw [List.getElem_take]
    simp at h1 h2; omega
   obtain ⟨⟨g1,g2⟩,g3⟩:=hg
   have g4:=(hm k (by omega)).1
   generalize hp:(x.Parents[k]?).getD 0=p at *
   obtain ⟨p,rfl⟩:∃m:Nat,p=(m:Int):=⟨p.toNat,by omega⟩
   unfold X4
   dsimp only
   rw [aH (dlt hk),ek,aC,aI (by simp; omega),hlen,aI (by simp; omega),hw1,aI (by simp; omega),Qr hv,aC,aH (Qnk p),aH rfl,Qqk hbl (by omega),aP,Yc,htake,Qr1,hp,Qal,aP]
   congr 4
   refine Ql fun j _=>?_
   by_cases e:j=v
   ·subst e; simp
   rw [aI e,aI e,aI e])
  (fun k hk hI hg=>by
   have ek:lkI x.Parents (k:Int)=some ((x.Parents[k]?).getD 0):=by rw [Qn hk,aG hk]; rfl
   unfold X4
   dsimp only
   rw [aH (dlt hk),ek,aC]
   by_cases c1:(x.Parents[k]?).getD 0<=Qji x.Parents k
   ·rw [aH (by simpa using c1)]
   rw [aI (by simpa using c1),hlen]
   by_cases c2:(x.Parents[k]?).getD 0>=(n:Int)
   ·rw [aH (by simpa using c2)]
   rw [aI (by simpa using c2),hw1,aH (by
    have:(x.Parents[k]?).getD 0=(v:Int):=by
     apply Classical.byContradiction
     intro h
     exact hg ⟨⟨by omega,by omega⟩,h⟩
    simpa using this)])
  (fun hI=>by
   unfold X4
   dsimp only
   rw [aI (nlt _),List.take_of_length_le (aY _)])
 have hiff:(∀j,j < x.Parents.length->Qi1 n x.Parents j/\(x.Parents[j]?).getD 0≠(v:Int))↔Qaj n x.Parents/\(v:Int) ∉ x.Parents:=by
  constructor
  ·intro h
   refine ⟨Qtf fun j hj=>(h j hj).1,fun hm=>?_⟩
   obtain ⟨k,hk,e⟩:=bA.1 hm
   have:=(h k hk).2
   rw [aG hk] at this
   exact this e
  rintro ⟨h1,h2⟩ j hj
  refine ⟨Qnt h1 j hj,fun e=>h2 ?_⟩
  rw [aG hj] at e
  rw [<-show x.Parents[j]=(v:Int) from e]
  exact bJ hj
 rw [hiff] at h
 have e0:(rowG n fun j=>if j=v then (bitsOf ((x.Parents.take 0).map Int.toNat) 0:Int) else S j)=rowG n S:=Ql fun j _=>by
  by_cases e:j=v
  ·rw [aH e,e,h0]; rfl
  rw [aI e]
 simp only [e0] at h
 exact h
end Go.Ab
namespace Go.Ab
open Go
def Qg6 (g c:Int) (r:List Int):Prop:=(r.length:Int)=c/\(∀w∈r,0<=w)/\r.sum=g
def Qia (g:Int) (C:Nat -> Nat) (x:Ad) (q:List Nat):Prop:=x.Rows.length=lprod C q/\∀r∈x.Rows,Qg6 g x.Card r
theorem Qe5 {l:List Int} {k:Nat} (h:k < l.length):(l.take (k+1)).sum=(l.take k).sum+l[k]:=by
 rw [Xg h,List.sum_append]; simp
theorem Qln:∀{l:List Int},(∀w∈l,0<=w)->0<=l.sum
 | [],_=>by simp
 | w::l,h=>by
  have h1:=h w (by simp)
  have h2:=Qln (l:=l) fun x hx=>h x (cL _ hx)
  rw [List.sum_cons]; omega
theorem Qpq {l:List Int} {k:Nat} (h:∀w∈l,0<=w):(l.take k).sum<=l.sum/\0<=(l.take k).sum:=by
 have h1:l.sum=(l.take k).sum+(l.drop k).sum:=by rw [<-List.sum_append,List.take_append_drop]
 have h2:=Qln (l:=l.drop k) fun w hw=>h w (bL hw)
 have h3:=Qln (l:=l.take k) fun w hw=>h w (bH hw)
 omega
theorem Qw8 {g:Int} {r:List Int} (hg:0<=g) (hg60:g<=60) (hr:r.length<=1000000) :
  (((∀w∈r,0<=w)/\r.sum<=g)/\Qb fuel (Q5 r) (g,0)=some (.inr (g - r.sum)))\/(¬ ((∀w∈r,0<=w)/\r.sum<=g)/\Qb fuel (Q5 r) (g,0)=some (.inl ())):=by
 have pre:∀k,k<=r.length->(∀j,j < k->0<=(r[j]?).getD 0/\(r[j]?).getD 0<=g - (r.take j).sum)->0<=(r.take k).sum/\(r.take k).sum<=g:=by
  intro k
  induction k with
  | zero=>intro _ _; simp; omega
  | succ k ih =>
   intro hk h
   have h1:=ih (by omega) fun j hj=>h j (by omega)
   have h2:=h k (by omega)
   rw [aG (by omega)] at h2
   rw [Qe5 (by omega)]
   simp at h2; omega
 have h:=Vf (n:=r.length) (by omega) (fun k=>0<=(r[k]?).getD 0/\(r[k]?).getD 0<=g - (r.take k).sum) (fun i (t:Int)=>(t,i)) (body:=Q5 r)
  (fun k=>g - (r.take k).sum) (.inr (g - r.sum)) (.inl ())
  (fun k hk hI hgd=>by
   have hp:=pre k (by omega) hI
   have ek:lkI r (k:Int)=some r[k]:=Qn hk
   rw [aG hk] at hgd
   simp only [cP] at hgd
   unfold Q5
   dsimp only
   rw [aH (dlt hk),ek,aC,aI (by simp; omega),aI (by simp; omega),w64 (n:=g - (r.take k).sum - r[k]) (by omega),Qe5 hk]
   congr 3
   omega)
  (fun k hk hI hgd=>by
   have ek:lkI r (k:Int)=some r[k]:=Qn hk
   rw [aG hk] at hgd
   simp only [cP] at hgd
   unfold Q5
   dsimp only
   rw [aH (dlt hk),ek,aC]
   by_cases c:r[k] < 0
   ·rw [aH (by simpa using c)]
   rw [aI (by simpa using c),aH (by simp; omega)])
  (fun hI=>by
   unfold Q5
   dsimp only
   rw [aI (nlt _),cM])
 have hiff:(∀j,j < r.length->0<=(r[j]?).getD 0/\(r[j]?).getD 0<=g - (r.take j).sum)↔((∀w∈r,0<=w)/\r.sum<=g):=by
  constructor
  ·intro h
   have:=pre r.length (aY _) h
   rw [cM] at this
   refine ⟨fun w hw=>?_,this.2⟩
   obtain ⟨k,hk,rfl⟩:=bA.1 hw
   have:=(h k hk).1
   rw [aG hk] at this
   exact this
  rintro ⟨h1,h2⟩ j hj
  rw [aG hj]
  refine ⟨h1 _ (bJ hj),?_⟩
  have h3:=(Qpq (k:=j+1) h1).1
  rw [Qe5 hj] at h3
  simp; omega
 rw [hiff] at h
 simp only [List.take_zero,List.sum_nil,Int.sub_zero] at h
 exact h
theorem Qpe {n:Nat} {g:Int} {F:Nat -> Ad} {C:Nat -> Nat} {x:Ad} {q:List Nat} {sets order:List Int} (hg:0<=g) (hg60:g<=60) (hC:∀v,v < n->C v<=4) (hq:∀p∈q,p < n) (hl:q.length<=8) (hx:x.Parents=nI q) (hr:x.Rows.length<=1000000) (hrr:∀r∈x.Rows,r.length<=1000000) :
  (Qia g C x q/\Xf ⟨⟨g,rowG n F⟩,Qk n C,sets,order⟩ x=some true)\/(¬ Qia g C x q/\Xf ⟨⟨g,rowG n F⟩,Qk n C,sets,order⟩ x=some false):=by
 have bnd:∀k,lprod C (q.take k)<=65536:=fun k=>bV (Qfi fun p hp=>hC p (hq p (bH hp))) (bV (aT (by omega) (by rw [cQ]; omega)) (Nat.le_of_eq (show 4^8=65536 from rfl)))
 have h0:=Zy (n:=q.length) (k0:=0) (by omega) (by omega) (fun i (t:Int)=>(t,i)) (body:=Xc x ⟨⟨g,rowG n F⟩,Qk n C,sets,order⟩) (fun k=>(lprod C (q.take k):Int)) (lprod C q:Int)
  (fun k _ hk=>by
   have hp:=hq _ (bJ hk)
   have e1:(lprod C (q.take k):Int)*(C q[k]:Int)=((lprod C (q.take (k+1)):Nat):Int):=by rw [Xg hk,Qb0]; simp
   have:=bnd (k+1)
   unfold Xc
   dsimp only
   rw [hx,Qan,aH (dlt hk),Q5t hk,aC,Z6 hp,aC,e1,w64 (n:=((lprod C (q.take (k+1)):Nat):Int)) (by omega)])
  (by
   unfold Xc
   dsimp only
   rw [hx,Qan,aI (nlt _),cM])
 simp only [List.take_zero,show lprod C []=1 from rfl] at h0
 rw [show (((1:Nat):Int),((0:Nat):Int))=((1:Int),(0:Int)) from rfl] at h0
 unfold Xf
 rw [h0,aC]
 by_cases c:x.Rows.length=lprod C q
 ·rw [aI (by simp; omega)]
  have h:=Vf (n:=x.Rows.length) (by omega) (fun k=>∀r,x.Rows[k]?=some r->Qg6 g x.Card r) (fun i (t:Unit)=>i) (body:=Zp x ⟨⟨g,rowG n F⟩,Qk n C,sets,order⟩)
   (fun _=>()) (.inr ()) (.inl ())
   (fun k hk hI hgd=>by
    have ek:lkI x.Rows (k:Int)=some x.Rows[k]:=Qn hk
    obtain ⟨k1,k2,k3⟩:=hgd _ (aG hk)
    unfold Zp
    dsimp only
    rw [aH (dlt hk),ek,aC]
    rcases Qw8 (g:=g) (r:=x.Rows[k]) hg hg60 (hrr _ (bJ hk)) with ⟨_,e⟩ | ⟨no,_⟩
    ·rw [e,aC]
     dsimp only
     rw [aI (by simp; omega),aI (by simp; omega)]
    exact absurd ⟨k2,by omega⟩ no)
   (fun k hk hI hgd=>by
    have ek:lkI x.Rows (k:Int)=some x.Rows[k]:=Qn hk
    unfold Zp
    dsimp only
    rw [aH (dlt hk),ek,aC]
    rcases Qw8 (g:=g) (r:=x.Rows[k]) hg hg60 (hrr _ (bJ hk)) with ⟨hok,e⟩ | ⟨no,e⟩
    ·rw [e,aC]
     dsimp only
     by_cases c2:(x.Rows[k].length:Int)=x.Card
     ·rw [aI (by simp; omega),aH (by
       have:g - x.Rows[k].sum≠0:=fun h0=>hgd fun r hr=>by
        rw [aG hk] at hr; cases hr
        exact ⟨c2,hok.1,by omega⟩
       simpa using this)]
     rw [aH (by simpa using c2)]
    rw [e,aC])
   (fun hI=>by
    unfold Zp
    dsimp only
    rw [aI (nlt _)])
  have hiff:(∀j,j < x.Rows.length->∀r,x.Rows[j]?=some r->Qg6 g x.Card r)↔Qia g C x q:=by
   constructor
   ·intro h
    refine ⟨c,fun r hr=>?_⟩
    obtain ⟨k,hk,rfl⟩:=bA.1 hr
    exact h k hk _ (aG hk)
   rintro ⟨_,h⟩ j hj r hr
   exact h r (aF hr)
  rw [hiff] at h
  rcases h with ⟨h1,h2⟩ | ⟨h1,h2⟩
  ·exact .inl ⟨h1,by rw [show ((0:Nat):Int)=0 from rfl] at h2; rw [h2]; rfl⟩
  ·exact .inr ⟨h1,by rw [show ((0:Nat):Int)=0 from rfl] at h2; rw [h2]; rfl⟩
 ·rw [aH (by simp; omega)]
  exact .inr ⟨fun h=>c h.1,rfl⟩
def setF (F:Nat -> Ad) (v:Nat):Nat := bitsOf (parN F v) 0
def Qrf (n:Nat) (g:Int) (F:Nat -> Ad) (v:Nat):Prop:=(Qaj n (F v).Parents/\(v:Int) ∉ (F v).Parents)/\Qia g (cardN F) (F v) (parN F v)
theorem Q2q {n:Nat} {g w:Int} {F:Nat -> Ad} (hn:n<=8) (hg:0<=g) (hg60:g<=60) (hb:NB n F) (hC:∀v,v < n->Kz (F v)) :
  ((∀v,v < n->Qrf n g F v)/\Qb fuel (X3 ⟨g,rowG n F⟩ (w,Qk n (cardN F))) ((0:Int),rowG n fun _=>(0:Int))=some (Sum.inr (Qk n (setF F)))) \/
  ((¬ ∀v,v < n->Qrf n g F v)/\Qb fuel (X3 ⟨g,rowG n F⟩ (w,Qk n (cardN F))) ((0:Int),rowG n fun _=>(0:Int))=some (Sum.inl ())):=by
 have hlen:(rowG n F).length=n:=Qm
 have h:=Vf (n:=n) (by omega) (Qrf n g F) (fun i (t:List Int)=>(i,t)) (body:=X3 ⟨g,rowG n F⟩ (w,Qk n (cardN F)))
  (fun k=>rowG n fun j=>if j < k then (setF F j:Int) else 0) (.inr (Qk n (setF F))) (.inl ())
  (fun v hv hI hgd=>by
   unfold X3
   dsimp only
   rw [hlen,aH (dlt hv),Qr hv,aC]
   rcases Qwo (n:=n) (v:=v) (g:=g) (F:=F) (x:=F v) (S:=fun j=>if j < v then (setF F j:Int) else 0) (R:=[]) hn hv (hb.par v hv) (aI (by omega)) ((v:Int),rowG n fun j=>if j < v then (setF F j:Int) else 0) rfl with ⟨_,e⟩ | ⟨no,_⟩
   ·rw [e,aC]
    dsimp only
    obtain ⟨p1,p2,p3⟩:=Je hgd.1.1
    rcases Qpe (n:=n) (g:=g) (F:=F) (C:=cardN F) (x:=F v) (q:=parN F v) (sets:=rowG n fun j=>if j=v then (bitsOf ((F v).Parents.map Int.toNat) 0:Int) else if j < v then (setF F j:Int) else 0) (order:=[]) hg hg60 (fun u hu=>(Qak (hC u hu)).2) p3 (by have:=Qd8 p2 p3; omega) p1 (hb.rows v hv) (hb.row v hv) with ⟨_,e2⟩ | ⟨no,_⟩
    ·rw [e2,aC,aI (by decide)]
     congr 3
     refine Ql fun j _=>?_
     by_cases c:j=v
     ·subst c; rw [aH rfl,aH (by omega)]; rfl
     rw [aI c]
     by_cases c2:j < v
     ·rw [aH c2,aH (by omega)]
     rw [aI c2,aI (by omega)]
    exact absurd hgd.2 no
   exact absurd hgd.1 no)
  (fun v hv hI hgd=>by
   unfold X3
   dsimp only
   rw [hlen,aH (dlt hv),Qr hv,aC]
   rcases Qwo (n:=n) (v:=v) (g:=g) (F:=F) (x:=F v) (S:=fun j=>if j < v then (setF F j:Int) else 0) (R:=[]) hn hv (hb.par v hv) (aI (by omega)) ((v:Int),rowG n fun j=>if j < v then (setF F j:Int) else 0) rfl with ⟨hp,e⟩ | ⟨no,e⟩
   ·rw [e,aC]
    dsimp only
    obtain ⟨p1,p2,p3⟩:=Je hp.1
    rcases Qpe (n:=n) (g:=g) (F:=F) (C:=cardN F) (x:=F v) (q:=parN F v) (sets:=rowG n fun j=>if j=v then (bitsOf ((F v).Parents.map Int.toNat) 0:Int) else if j < v then (setF F j:Int) else 0) (order:=[]) hg hg60 (fun u hu=>(Qak (hC u hu)).2) p3 (by have:=Qd8 p2 p3; omega) p1 (hb.rows v hv) (hb.row v hv) with ⟨hf,_⟩ | ⟨no,e2⟩
    ·exact absurd ⟨hp,hf⟩ hgd
    rw [e2,aC,aH (by decide)]
   rw [e,aC])
  (fun hI=>by
   unfold X3
   dsimp only
   rw [hlen,aI (nlt n)]
   congr 3
   exact Ql fun j hj=>aH hj)
 have e0:(rowG n fun j=>if j < 0 then (setF F j:Int) else 0)=rowG n fun _=>(0:Int):=Ql fun j _=>aI (by omega)
 simp only [e0] at h
 exact h
end Go.Ab
namespace Go.Ab
open Go
def Qj4 (n:Nat) (q:Nat -> List Nat):Prop:=∃rk:Nat -> Nat,∀v,v < n->∀p∈q v,rk p < rk v
theorem Q3b:∀(l:List Nat),lprod (fun _=>1) l=1:=fun l=>by
 have:∀(l:List Nat) (r:Nat),l.foldl (fun r _=>r*1) r=r:=fun l=>by
  induction l with
  | nil=>intro r; rfl
  | cons a l ih=>intro r; simp only [List.foldl_cons]; rw [ih]; omega
 exact this l 1
theorem Qr7:∀n,prodTo n (fun _=>1)=1
 | 0=>rfl
 | n+1=>by simp [prodTo,Qr7 n]
theorem Q0x {n:Nat} {q:Nat -> List Nat} (h1:1<=n) (hn:n<=8) (hq:∀v,v < n->(q v).Pairwise (· < ·)/\(∀p∈q v,p < n)/\v ∉ q v) (hr:Qj4 n q):∃o,Vw (Qk n fun v=>bitsOf (q v) 0)=some (o,true):=by
 let D:NF:=⟨n,1,fun _=>1,q,fun _ _ _=>1⟩
 have hrows:∀v,D.rows v=1:=fun v=>Q3b (q v)
 exact Qtd (D:=D) ⟨⟨h1,hn,aY _,by show 1<=60; omega,fun v hv=>⟨aY _,by show 1<=4; omega⟩,fun v hv=>(hq v hv).2.1,fun v hv=>bV (Qd8 (hq v hv).1 (hq v hv).2.1) hn,fun v r x hv hr hx=>aY _,by show prodTo n (fun _=>1)<=1024; rw [Qr7]; omega⟩,
  fun v hv=>(hq v hv).1,fun v hv=>(hq v hv).2.2,hr,fun v r hv hr=>rfl⟩
theorem Qz1 {n:Nat} {q:Nat -> List Nat} (hn:n<=8) (hq:∀v,v < n->∀p∈q v,p < n):∃r,Qb fuel (Xt (Qk n fun v=>bitsOf (q v) 0)) ((0:Int),([]:List Int))=some r/\(r=.inl ()\/∃o,r=.inr o/\Qj4 n q):=by
 have hlen:(Qk n fun v=>bitsOf (q v) 0).length=n:=Xn
 refine Xb (body:=Xt (Qk n fun v=>bitsOf (q v) 0)) (fun s=>∃l:List Nat,l.Nodup/\(∀p∈l,p < n)/\(∀i (hi:i < l.length),∀p∈q l[i],p∈l.take i)/\s=((bitsOf l 0:Int),nI l)) (fun s=>n - s.2.length) (fun r=>r=.inl ()\/∃o,r=.inr o/\Qj4 n q)
  (fun s hs=>?_) ((0:Int),([]:List Int)) ⟨[],List.nodup_nil,by simp,by simp,rfl⟩ (by show n - 0 < 1152921504606846976; omega)
 obtain ⟨l,hnd,hl,hb,rfl⟩:=hs
 have hll:l.length<=n:=by
  have:=Qd1 l (List.range n) hnd fun p hp=>cO.2 (hl p hp)
  simpa using this
 have hdl:bitsOf l 0 < 18446744073709551616:=K9 _ _ (by omega) fun p hp=>by have:=hl p hp; omega
 by_cases hc:l.length < n
 ·
  have hsr:=Qpt (n:=n) (k0:=0) (by omega) (by omega) (fun i (_:Unit)=>i) (body:=Jg (Qk n fun v=>bitsOf (q v) 0) ((bitsOf l 0:Int),nI l)) (fun _ _=>True)
   (fun r=>r=.inr ()\/∃v,v < n/\v ∉ l/\(∀p∈q v,p∈l)/\r=.inl (((bitsOf (l++[v]) 0:Nat):Int),nI (l++[v])))
   (fun k _ _ hk _=>by
    have hbk:(bitsOf l 0).testBit k=decide (k∈l):=by rw [Y3]; simp
    have hsl:bitsOf (q k) 0 < 18446744073709551616:=K9 _ _ (by omega) fun p hp=>by have:=hq k hk p hp; omega
    unfold Jg
    dsimp only
    rw [hlen,aH (dlt hk),Z6 hk,aC,aH (Qnk k),Qq5 hdl (by omega),hbk]
    by_cases hkl:k∈l
    ·left
     rw [aI (by simp [hkl])]
     exact ⟨(),rfl,trivial⟩
    ·rw [aH (by simp [hkl])]
     by_cases hsub:∀p∈q k,p∈l
     ·right
      rw [aH ((Quy hsl hdl).2 fun j hj=>by
       rw [Y3] at hj
       rw [Y3]
       simp at hj ⊢
       exact hsub j hj),aH (by rw [aO,Qan]; simp; omega),aH (Qnk k),Qqk hdl (by omega)]
      exact ⟨_,rfl,.inr ⟨k,hk,hkl,hsub,by rw [Qal]; unfold nI; simp⟩⟩
     ·left
      rw [aI (fun hc'=>hsub fun p hp=>by
       have:=(Quy hsl hdl).1 hc' p (by rw [Y3]; simpa using hp)
       rw [Y3] at this
       simpa using this)]
      exact ⟨(),rfl,trivial⟩)
   (fun _ _=>⟨_,by unfold Jg; dsimp only; rw [hlen,aI (nlt n)],.inl rfl⟩) () trivial
  obtain ⟨r,e1,e2⟩:=hsr
  rcases e2 with rfl | ⟨v,hv,hvl,hvq,rfl⟩
  ·right
   refine ⟨_,?_,.inl rfl⟩
   unfold Xt
   dsimp only
   rw [Qan,hlen,aH (dlt hc),show (0:Int)=((0:Nat):Int) from rfl,e1]; rfl
  ·left
   refine ⟨(((bitsOf (l++[v]) 0:Nat):Int),nI (l++[v])),?_,⟨l++[v],?_,?_,?_,rfl⟩,by rw [Qan,Qan,aO]; simp; omega⟩
   ·unfold Xt
    dsimp only
    rw [Qan,hlen,aH (dlt hc),show (0:Int)=((0:Nat):Int) from rfl,e1]; rfl
   ·rw [List.nodup_append]
    exact ⟨hnd,by simp,fun a ha b hb=>by simp at hb; subst hb; exact fun e=>hvl (e ▸ ha)⟩
   ·intro p hp
    rcases bT.1 hp with h | h
    ·exact hl p h
    ·simp at h; omega
   ·intro i hi p hp
    rw [aO] at hi
    by_cases c:i < l.length
    ·rw [List.getElem_append_left c] at hp
     rw [List.take_append_of_le_length (by omega)]
     exact hb i c p hp
    ·have:i=l.length:=by simp at hi; omega
     subst this
     rw [List.getElem_append_right (by omega)] at hp
     simp at hp
     rw [List.take_append_of_le_length (by omega),cM]
     exact hvq p hp
 right
 refine ⟨_,?_,.inr ⟨nI l,rfl,fun v=>l.idxOf v,fun v hv p hp=>?_⟩⟩
 ·unfold Xt
  dsimp only
  rw [Qan,hlen,aI (by simp; omega)]
 have hvl:v∈l:=Qlg hnd hl (by omega) v hv
 have hi:=List.idxOf_lt_length_of_mem hvl
 have:=hb (l.idxOf v) hi p (by rw [List.getElem_idxOf hi]; exact hp)
 exact Qps this
theorem Qx2 {n:Nat} {q:Nat -> List Nat} (h1:1<=n) (hn:n<=8) (hq:∀v,v < n->(q v).Pairwise (· < ·)/\(∀p∈q v,p < n)/\v ∉ q v) :
  (Qj4 n q/\∃o,Vw (Qk n fun v=>bitsOf (q v) 0)=some (o,true))\/(¬ Qj4 n q/\Vw (Qk n fun v=>bitsOf (q v) 0)=some ([],false)):=by
 by_cases hr:Qj4 n q
 ·exact .inl ⟨hr,Q0x h1 hn hq hr⟩
 ·right
  refine ⟨hr,?_⟩
  obtain ⟨r,e1,e2⟩:=Qz1 hn fun v hv=>(hq v hv).2.1
  rcases e2 with rfl | ⟨o,rfl,h⟩
  ·unfold Vw
   rw [aH (by rw [Xn]; omega)]
   simp only [Int.toNat_zero,List.replicate_zero]
   rw [e1]; rfl
  ·exact absurd h hr
structure Qpv (n:Nat) (g:Int) (F:Nat -> Ad):Prop where
 g1:1<=g
 g60:g<=60
 n1:1<=n
 n8:n<=8
 card:∀v,v < n->Kz (F v)
 worlds:prodTo n (cardN F)<=1024
 node:∀v,v < n->Qrf n g F v
 rank:Qj4 n (parN F)
def Qqm:Q7 × Int:=(⟨⟨0,[]⟩,[],[],[]⟩,50)
theorem Q1h {n:Nat} {g:Int} {F:Nat -> Ad} (hb:NB n F) (hbig:n<=1000000) :
  (Qpv n g F/\∃o,Ym ⟨g,rowG n F⟩=some (⟨⟨g,rowG n F⟩,Qk n (cardN F),Qk n (setF F),o⟩,0))\/(¬ Qpv n g F/\Ym ⟨g,rowG n F⟩=some Qqm):=by
 have hlen:(rowG n F).length=n:=Qm
 unfold Ym
 dsimp only
 rw [hlen]
 by_cases c1:g < 1
 ·rw [aH (by simpa using c1)]; exact .inr ⟨fun h=>by have:=h.g1; omega,rfl⟩
 rw [aI (by simpa using c1)]
 by_cases c2:g > 60
 ·rw [aH (by simpa using c2)]; exact .inr ⟨fun h=>by have:=h.g60; omega,rfl⟩
 rw [aI (by simpa using c2)]
 by_cases c3:n < 1
 ·rw [aH (by simp; omega)]; exact .inr ⟨fun h=>by have:=h.n1; omega,rfl⟩
 rw [aI (by simp; omega)]
 by_cases c4:n > 8
 ·rw [aH (by simp; omega)]; exact .inr ⟨fun h=>by have:=h.n8; omega,rfl⟩
 rw [aI (by simp; omega),aH (by omega),aH (by omega),aP,Qbx]
 rcases Q0h (n:=n) (g:=g) (F:=F) (by omega) with ⟨hC,e⟩ | ⟨hC,e⟩
 ·rw [e,aC]
  dsimp only
  by_cases c5:prodTo n (cardN F) > 1024
  ·rw [aH (by simp; omega)]; exact .inr ⟨fun h=>by have:=h.worlds; omega,rfl⟩
  rw [aI (by simp; omega)]
  rcases Q2q (n:=n) (g:=g) (w:=(prodTo n (cardN F):Int)) (F:=F) (by omega) (by omega) (by omega) hb hC with ⟨hN,e⟩ | ⟨hN,e⟩
  ·rw [e,aC]
   dsimp only
   rcases Qx2 (n:=n) (q:=parN F) (by omega) (by omega) (fun v hv=>by
    obtain ⟨p1,p2,p3⟩:=Je (hN v hv).1.1
    refine ⟨p2,p3,fun h=>(hN v hv).1.2 ?_⟩
    rw [p1]; unfold nI; exact cD.2 ⟨v,h,rfl⟩) with ⟨hR,o,e⟩ | ⟨hR,e⟩
   ·left
    refine ⟨⟨by omega,by omega,by omega,by omega,hC,by omega,hN,hR⟩,o,?_⟩
    rw [show (Qk n (setF F))=(Qk n fun v=>bitsOf (parN F v) 0) from rfl,e,aC,aI (by simp)]
   ·right
    refine ⟨fun h=>hR h.rank,?_⟩
    rw [show (Qk n (setF F))=(Qk n fun v=>bitsOf (parN F v) 0) from rfl,e,aC,aH (by simp)]; rfl
  ·rw [e,aC]; exact .inr ⟨fun h=>hN h.node,rfl⟩
 ·rw [e,aC]; exact .inr ⟨fun h=>hC h.card,rfl⟩
end Go.Ab
namespace Go.Ab
open Go
theorem Zac {a b:Nat} (ha:a < 18446744073709551616) (hb:b < 18446744073709551616):zv (zb (a:Int) ||| zb (b:Int)).toNat = ((a ||| b:Nat):Int):=by
 rw [BitVec.toNat_or,Qiv ha,Qiv hb,Qaz (dX (n:=64) ha hb)]
theorem Qu2 {a v:Nat} (ha:a < 18446744073709551616) (hv:v < 64):Qb8 (a:Int) (v:Int)=some (a.testBit v):=by
 unfold Qb8
 rw [Qaz (show v < 18446744073709551616 by omega),aH (Qnk v),Qq5 ha hv]
 cases a.testBit v <;> rfl
def Vi (a b:Nat):Prop:=∀j,a.testBit j=true->b.testBit j=true
theorem Vi.refl {a:Nat}:Vi a a:=fun _ h=>h
theorem Vi.trans {a b c:Nat} (h:Vi a b) (k:Vi b c):Vi a c:=fun j hj=>k j (h j hj)
theorem Q3y {a b:Nat}:Vi a (a ||| b):=fun j h=>by rw [bF,h]; rfl
theorem Q4o {a b:Nat}:Vi b (a ||| b):=fun j h=>by rw [bF,h]; simp
theorem Q9u {a b c:Nat} (h:Vi a c) (k:Vi b c):Vi (a ||| b) c:=fun j hj=>by
 rw [bF,aM] at hj
 rcases hj with e | e
 ·exact h j e
 exact k j e
theorem Q41 {a b:Nat} (h:Vi a b) (k:Vi b a):a=b:=dS fun j=>by
 cases ha:a.testBit j with
 | true=>rw [h j ha]
 | false=>cases hb:b.testBit j with
  | true=>rw [k j hb] at ha; cases ha
  | false=>rfl
def upV (S:Nat -> Nat) (s v:Nat):Nat := if s.testBit v then s ||| S v else s
def upR (n:Nat) (S:Nat -> Nat) (s:Nat):Nat := (List.range n).foldl (upV S) s
def ups (n:Nat) (S:Nat -> Nat):Nat -> Nat -> Nat
 | 0,s=>s
 | k+1,s=>upR n S (ups n S k s)
theorem Q2k {S:Nat -> Nat} {s v:Nat}:Vi s (upV S s v):=by
 unfold upV; split
 ·exact Q3y
 exact .refl
theorem Qow {S:Nat -> Nat}:∀(l:List Nat) (s:Nat),Vi s (l.foldl (upV S) s)
 | [],s=>.refl
 | v::l,s=>Q2k.trans (Qow l _)
theorem Qvl {S:Nat -> Nat} {v:Nat}:∀(l:List Nat) (s:Nat),v∈l->s.testBit v=true->Vi (S v) (l.foldl (upV S) s)
 | [],s,h,_=>by cases h
 | u::l,s,h,hs=>by
  simp only [List.foldl_cons]
  by_cases e:v=u
  ·subst e
   refine Vi.trans ?_ (Qow l _)
   unfold upV; rw [aH hs]; exact Q4o
  exact Qvl l _ (by simpa [e] using h) (Q2k v hs)
theorem Qsp {S:Nat -> Nat} {T:Nat}:∀(l:List Nat) (s:Nat),(∀v∈l,T.testBit v=true->Vi (S v) T)->Vi s T->Vi (l.foldl (upV S) s) T
 | [],s,_,h=>h
 | v::l,s,hT,h=>by
  simp only [List.foldl_cons]
  refine Qsp l _ (fun u hu=>hT u (cL _ hu)) ?_
  unfold upV; split
  ·rename_i hs; exact Q9u h (hT v (by simp) (h v hs))
  exact h
def Clo (n:Nat) (S:Nat -> Nat) (T:Nat):Prop:=∀v,v < n->T.testBit v=true->Vi (S v) T
theorem Q1d {n:Nat} {S:Nat -> Nat} {s:Nat}:∀k,Vi s (ups n S k s)
 | 0=>.refl
 | k+1=>(Q1d k).trans (Qow _ _)
theorem Qip {n:Nat} {S:Nat -> Nat} {s T:Nat} (hT:Clo n S T) (h:Vi s T):∀k,Vi (ups n S k s) T
 | 0=>h
 | k+1=>Qsp _ _ (fun v hv=>hT v (cO.1 hv)) (Qip hT h k)
theorem Q6g {n:Nat} {S:Nat -> Nat} {s:Nat} (h:upR n S s=s):Clo n S s:=fun v hv hs=>by
 have:=Qvl (S:=S) (List.range n) s (cO.2 hv) hs
 unfold upR at h
 rwa [h] at this
theorem Q1q {n a b:Nat} (h:Vi a b) (hb:∀j,b.testBit j=true->j < n) (hne:a≠b):cnt n a.testBit < cnt n b.testBit:=by
 have:∃j,b.testBit j=true/\a.testBit j=false:=by
  apply Classical.byContradiction
  intro hno
  exact hne (Q41 h fun j hj=>by
   cases ha:a.testBit j with
   | true=>rfl
   | false=>exact absurd ⟨j,hj,ha⟩ hno)
 obtain ⟨j,h1,h2⟩:=this
 have e:=Q65 (n:=n) (p:=b.testBit) (hb j h1) h1
 have:cnt n a.testBit<=cnt n (fun i=>b.testBit i && !decide (j=i)):=Q3n fun i _ hi=>by
  have:j≠i:=fun e=>by subst e; rw [h2] at hi; cases hi
  simp [h i hi,this]
 omega
theorem Qp7 (n:Nat) {S:Nat -> Nat} (hS:∀v,v < n->∀j,(S v).testBit j=true->j < n):Clo n S (2^n - 1):=fun v hv _ j hj=>by
 rw [bB]; simpa using hS v hv j hj
theorem Q7d {n:Nat} {S:Nat -> Nat} {s:Nat} (hS:∀v,v < n->∀j,(S v).testBit j=true->j < n) (hs:∀j,s.testBit j=true->j < n):Clo n S (ups n S n s):=by
 have hin:∀k j,(ups n S k s).testBit j=true->j < n:=fun k j hj=>by
  have:=Qip (Qp7 n hS) (s:=s) (fun j hj=>by rw [bB]; simpa using hs j hj) k j hj
  rw [bB] at this; simpa using this
 have key:∀k,upR n S (ups n S k s)=ups n S k s\/k+cnt n s.testBit<=cnt n (ups n S k s).testBit:=by
  intro k
  induction k with
  | zero=>right; simp [ups]
  | succ k ih =>
   by_cases hf:upR n S (ups n S k s)=ups n S k s
   ·left; simp only [ups]; rw [hf,hf]
   right
   rcases ih with h | h
   ·exact absurd h hf
   have:=Q1q (n:=n) (Qow (S:=S) (List.range n) (ups n S k s)) (hin (k+1)) (fun e=>hf e.symm)
   show k+1+_<=cnt n (upR n S (ups n S k s)).testBit
   unfold upR; omega
 rcases key n with h | h
 ·exact Q6g h
 have h0:=Q8y n (ups n S n s).testBit
 have hz:cnt n s.testBit=0:=by omega
 have:s=0:=dS fun j=>by
  rw [Nat.zero_testBit,bI]
  intro hj
  have:=Q7k (n:=n) (hs j hj) hj; omega
 subst this
 have h1:=Qip (n:=n) (S:=S) (s:=0) (T:=0) (fun v _ hv=>by rw [Nat.zero_testBit] at hv; cases hv) .refl n
 intro v hv hb
 have:=h1 v hb
 rw [Nat.zero_testBit] at this; cases this
theorem Qrx {n s:Nat} (h:∀j,s.testBit j=true->j < n):s < 2^n:=by
 apply Nat.lt_pow_two_of_testBit
 intro i hi
 rw [bI]; intro hj
 have:=h i hj; omega
theorem Q1n {n:Nat} {S:Nat -> Nat} {s:Nat} (hn:n<=8) (hS:∀v,v < n->∀j,(S v).testBit j=true->j < n) (hs:∀j,s.testBit j=true->j < n):Qha (Qk n S) (s:Int)=some ((ups n S n s:Nat):Int):=by
 have hlen:(Qk n S).length=n:=Xn
 have hfull:=Qp7 n hS
 have hs0:Vi s (2^n - 1):=fun j hj=>by rw [bB]; simpa using hs j hj
 have p8:(2:Nat)^n<=256:=aT (n:=2) (by omega) hn
 have hlt:∀{t:Nat},Vi t (2^n - 1)->t < 18446744073709551616:=fun h=>by
  have:=Qrx (n:=n) fun j hj=>by have:=h j hj; rw [bB] at this; simpa using this
  omega
 have inner:∀t,Vi t (2^n - 1)->Qb fuel (Qao (Qk n S)) ((t:Int),(0:Int))=some ((upR n S t:Nat):Int):=fun t ht=>by
  have h:=Zy (n:=n) (k0:=0) (by omega) (by omega) (fun i (x:Int)=>(x,i)) (body:=Qao (Qk n S)) (fun k=>(((List.range k).foldl (upV S) t:Nat):Int)) ((upR n S t:Nat):Int)
   (fun k _ hk=>by
    have hsub:=Qsp (S:=S) (T:=2^n - 1) (List.range k) t (fun v hv=>hfull v (by have:=cO.1 hv; omega)) ht
    unfold Qao
    dsimp only
    rw [hlen,aH (dlt hk),Qu2 (hlt hsub) (by omega),aC,List.range_succ,List.foldl_append]
    simp only [List.foldl_cons,List.foldl_nil]
    unfold upV
    by_cases c:((List.range k).foldl (upV S) t).testBit k=true
    ·unfold upV at c
     rw [aH c,Z6 hk,aC,aH c]
     have hsub':=hsub
     unfold upV at hsub'
     rw [Zac (hlt hsub') (by
      have:=Qrx (hS k hk); omega)]
    unfold upV at c
    rw [aI c,aI c])
   (by unfold Qao; dsimp only; rw [hlen,aI (nlt n)]; rfl)
  rw [show ((0:Nat):Int)=0 from rfl] at h
  exact h
 have h:=Zy (n:=n) (k0:=0) (by omega) (by omega) (fun i (x:Int)=>(x,i)) (body:=Qdb (Qk n S)) (fun k=>((ups n S k s:Nat):Int)) ((ups n S n s:Nat):Int)
  (fun k _ hk=>by
   unfold Qdb
   dsimp only
   rw [hlen,aH (dlt hk),inner _ (Qip hfull hs0 k)]; rfl)
  (by unfold Qdb; dsimp only; rw [hlen,aI (nlt n)])
 rw [show ((0:Nat):Int)=0 from rfl] at h
 unfold Qha
 rw [show ups n S 0 s=s from rfl] at h
 rw [h]; rfl
theorem Qx7 {n:Nat} {q:Nat -> List Nat} (hn:n<=8) (hq:∀v,v < n->∀p∈q v,p < n) :
  (Qj4 n q/\Kl (Qk n fun v=>bitsOf (q v) 0)=some true)\/(¬ Qj4 n q/\Kl (Qk n fun v=>bitsOf (q v) 0)=some false):=by
 have hlen:(Qk n fun v=>bitsOf (q v) 0).length=n:=Xn
 have hbit:∀v j,(bitsOf (q v) 0).testBit j=true↔j∈q v:=fun v j=>by rw [Y3]; simp
 have hS:∀v,v < n->∀j,(bitsOf (q v) 0).testBit j=true->j < n:=fun v hv j hj=>hq v hv j ((hbit v j).1 hj)
 have p8:(2:Nat)^n<=256:=aT (n:=2) (by omega) hn
 have hin:∀v,v < n->∀j,(ups n (fun v=>bitsOf (q v) 0) n (bitsOf (q v) 0)).testBit j=true->j < n:=fun v hv j hj=>by
  have:=Qip (Qp7 n hS) (s:=bitsOf (q v) 0) (fun j hj=>by rw [bB]; simpa using hS v hv j hj) n j hj
  rw [bB] at this; simpa using this
 have h:=Vf (n:=n) (by omega) (fun v=>(ups n (fun v=>bitsOf (q v) 0) n (bitsOf (q v) 0)).testBit v=false) (fun i (t:Unit)=>i) (body:=V4 (Qk n fun v=>bitsOf (q v) 0)) (fun _=>()) (.inr ()) (.inl ())
  (fun v hv hI hg=>by
   unfold V4
   rw [hlen,aH (dlt hv),Z6 hv,aC,Q1n hn hS (hS v hv),aC,Qu2 (by have:=Qrx (hin v hv); omega) (by omega),aC,hg,aI (by decide)])
  (fun v hv hI hg=>by
   unfold V4
   rw [hlen,aH (dlt hv),Z6 hv,aC,Q1n hn hS (hS v hv),aC,Qu2 (by have:=Qrx (hin v hv); omega) (by omega),aC,aH (by simpa using hg)])
  (fun hI=>by unfold V4; rw [hlen,aI (nlt n)])
 have hiff:(∀v,v < n->(ups n (fun v=>bitsOf (q v) 0) n (bitsOf (q v) 0)).testBit v=false)↔Qj4 n q:=by
  constructor
  ·intro hac
   refine ⟨fun v=>cnt n (ups n (fun v=>bitsOf (q v) 0) n (bitsOf (q v) 0)).testBit,fun v hv p hp=>?_⟩
   have hpn:=hq v hv p hp
   have hcv:=Q7d hS (hS v hv)
   have hpv:(ups n (fun v=>bitsOf (q v) 0) n (bitsOf (q v) 0)).testBit p=true:=Q1d n p ((hbit v p).2 hp)
   refine Q1q (Qip hcv (hcv p hpn hpv) n) (hin v hv) fun e=>?_
   have:=hac p hpn
   rw [e,hpv] at this; cases this
  rintro ⟨rk,hrk⟩ v hv
  rw [bI]
  intro hb
  have hT:∃T:Nat,∀j,T.testBit j=true↔j < n/\rk j < rk v:=⟨msk n fun j=>decide (rk j < rk v),fun j=>by rw [Qyq]; simp⟩
  obtain ⟨T,hT⟩:=hT
  have:=Qip (n:=n) (S:=fun v=>bitsOf (q v) 0) (s:=bitsOf (q v) 0) (T:=T) (fun u hu hb j hj=>by
   have h1:=(hT u).1 hb
   have h2:=(hbit u j).1 hj
   have h3:=hrk u hu j h2
   exact (hT j).2 ⟨hq u hu j h2,by omega⟩) (fun j hj=>by
   have h2:=(hbit v j).1 hj
   exact (hT j).2 ⟨hq v hv j h2,hrk v hv j h2⟩) n v hb
  have:=((hT v).1 this).2
  omega
 rw [hiff] at h
 rw [show ((0:Nat):Int)=0 from rfl] at h
 unfold Kl
 rcases h with ⟨h1,h2⟩ | ⟨h1,h2⟩
 ·exact .inl ⟨h1,by rw [h2]; rfl⟩
 ·exact .inr ⟨h1,by rw [h2]; rfl⟩
end Go.Ab
namespace Go.Ab
open Go
theorem Qrc {n:Nat} {l:List Int} (hl:l.length<=1000000):(Qaj n l/\Ky l (n:Int)=some true)\/(¬ Qaj n l/\Ky l (n:Int)=some false):=by
 have good:∀k,k < l.length->((0<=(l[k]?).getD 0/\(l[k]?).getD 0 < n/\(0 < k->(l[k - 1]?).getD 0 < (l[k]?).getD 0))↔(0<=(l[k]?).getD 0/\Qi1 n l k)):=fun k hk=>by
  unfold Qi1 Qji
  by_cases c:k=0
  ·rw [aH c]; constructor
   ·rintro ⟨a,b,_⟩; exact ⟨a,by omega,b⟩
   rintro ⟨a,_,b⟩; exact ⟨a,b,fun h=>by omega⟩
  rw [aI c]; constructor
  ·rintro ⟨a,b,d⟩; exact ⟨a,d (by omega),b⟩
  rintro ⟨a,d,b⟩; exact ⟨a,b,fun _=>d⟩
 have h:=Vf (n:=l.length) (by omega) (fun k=>0<=(l[k]?).getD 0/\(l[k]?).getD 0 < n/\(0 < k->(l[k - 1]?).getD 0 < (l[k]?).getD 0)) (fun i (t:Unit)=>i) (body:=Jk l (n:Int)) (fun _=>()) (.inr ()) (.inl ())
  (fun k hk hI hg=>by
   have ek:lkI l (k:Int)=some ((l[k]?).getD 0):=by rw [Qn hk,aG hk]; rfl
   unfold Jk
   rw [aH (dlt hk),ek,aC,aI (by simp; exact hg.1),aI (by simp; exact hg.2.1)]
   by_cases c:0 < k
   ·have ek2:lkI l (zw ((k:Int) - 1))=some ((l[k - 1]?).getD 0):=by
     rw [w64 (by omega),show ((k:Int) - 1)=((k - 1:Nat):Int) by omega,Qn (by omega),aG (by omega)]; rfl
    rw [aH (by simp; omega),ek2,aC,aI (by simp; exact hg.2.2 c)]
   rw [aI (by simp; omega)])
  (fun k hk hI hg=>by
   have ek:lkI l (k:Int)=some ((l[k]?).getD 0):=by rw [Qn hk,aG hk]; rfl
   unfold Jk
   rw [aH (dlt hk),ek,aC]
   by_cases c1:(l[k]?).getD 0 < 0
   ·rw [aH (by simpa using c1)]
   rw [aI (by simpa using c1)]
   by_cases c2:(l[k]?).getD 0>=(n:Int)
   ·rw [aH (by simpa using c2)]
   rw [aI (by simpa using c2)]
   by_cases c:0 < k
   ·have ek2:lkI l (zw ((k:Int) - 1))=some ((l[k - 1]?).getD 0):=by
     rw [w64 (by omega),show ((k:Int) - 1)=((k - 1:Nat):Int) by omega,Qn (by omega),aG (by omega)]; rfl
    rw [aH (by simp; omega),ek2,aC,aH (by
     have:¬ (l[k - 1]?).getD 0 < (l[k]?).getD 0:=fun h=>hg ⟨by omega,by omega,fun _=>h⟩
     simp; omega)]
   exact absurd ⟨by omega,by omega,fun h=>absurd h c⟩ hg)
  (fun hI=>by unfold Jk; rw [aI (nlt _)])
 have hiff:(∀k,k < l.length->0<=(l[k]?).getD 0/\(l[k]?).getD 0 < n/\(0 < k->(l[k - 1]?).getD 0 < (l[k]?).getD 0))↔Qaj n l:=by
  constructor
  ·intro h; exact Qtf fun k hk=>((good k hk).1 (h k hk)).2
  intro h k hk
  exact (good k hk).2 ⟨(Qg9 (Qnt h) k hk).1,Qnt h k hk⟩
 rw [hiff] at h
 rw [show ((0:Nat):Int)=0 from rfl] at h
 unfold Ky
 rcases h with ⟨h1,h2⟩ | ⟨h1,h2⟩
 ·exact .inl ⟨h1,by rw [h2]; rfl⟩
 exact .inr ⟨h1,by rw [h2]; rfl⟩
theorem Q9k {n:Nat} {g:Int} {F:Nat -> Ad} (hn:n<=8) (hb:NB n F) :
  ((∀v,v < n->Kz (F v)/\Qaj n (F v).Parents)/\Qb fuel (Yo ⟨g,rowG n F⟩) ((1:Int),(0:Int))=some (Sum.inr (prodTo n (cardN F):Int))) \/
  ((¬ ∀v,v < n->Kz (F v)/\Qaj n (F v).Parents)/\Qb fuel (Yo ⟨g,rowG n F⟩) ((1:Int),(0:Int))=some (Sum.inl ())):=by
 have hlen:(rowG n F).length=n:=Qm
 have h:=Vf (n:=n) (by omega) (fun v=>Kz (F v)/\Qaj n (F v).Parents) (fun i (t:Int)=>(t,i)) (body:=Yo ⟨g,rowG n F⟩)
  (fun k=>(prodTo k (cardN F):Int)) (Sum.inr (prodTo n (cardN F):Int)) (Sum.inl ())
  (fun k hk hI hg=>by
   have b1:prodTo k (cardN F)<=4^k:=K4 fun j hj=>(Qak (hI j hj).1).2
   have b2:(4:Nat)^k<=4^8:=aT (by omega) (by omega)
   have b3:prodTo k (cardN F)*cardN F k<=65536*4:=Nat.mul_le_mul (by omega) (Qak hg.1).2
   have hc:=Qfb hg.1
   have e1:(prodTo k (cardN F):Int)*(F k).Card=((prodTo (k+1) (cardN F):Nat):Int):=by rw [<-hc]; simp [prodTo]
   unfold Yo
   dsimp only
   rw [hlen,aH (dlt hk),Qr hk,aC,aI (by simp; exact hg.1.1),aI (by simp; exact hg.1.2)]
   rcases Qrc (n:=n) (hb.par k hk) with ⟨_,e⟩ | ⟨no,_⟩
   ·rw [e,aC,aI (by decide),e1,w64 (n:=((prodTo (k+1) (cardN F):Nat):Int)) (by simp only [prodTo]; omega)]
   exact absurd hg.2 no)
  (fun k hk hI hg=>by
   unfold Yo
   dsimp only
   rw [hlen,aH (dlt hk),Qr hk,aC]
   by_cases c:(F k).Card < 1
   ·rw [aH (by simpa using c)]
   rw [aI (by simpa using c)]
   by_cases c2:(F k).Card > 4
   ·rw [aH (by simpa using c2)]
   rw [aI (by simpa using c2)]
   rcases Qrc (n:=n) (hb.par k hk) with ⟨hp,_⟩ | ⟨_,e⟩
   ·exact absurd ⟨⟨by omega,by omega⟩,hp⟩ hg
   rw [e,aC,aH (by decide)])
  (fun hI=>by
   unfold Yo
   dsimp only
   rw [hlen,aI (nlt n)])
 exact h
theorem Q4b {n:Nat} {g:Int} {F:Nat -> Ad} (hn:n<=8) (hP:∀v,v < n->Qaj n (F v).Parents):Kk ⟨g,rowG n F⟩=some (Qk n (setF F)):=by
 have hlen:(rowG n F).length=n:=Qm
 have h:=Zy (n:=n) (k0:=0) (by omega) (by omega) (fun i (t:List Int)=>(i,t)) (body:=Jb ⟨g,rowG n F⟩) (fun k=>Qk k (setF F)) (Qk n (setF F))
  (fun v _ hv=>by
   obtain ⟨p1,p2,p3⟩:=Je (hP v hv)
   have hl:=Qd8 p2 p3
   have hi:=Zy (n:=(parN F v).length) (k0:=0) (by omega) (by omega) (fun i (t:Int)=>(t,i)) (body:=Jc ⟨g,rowG n F⟩ ((v:Int),Qk v (setF F))) (fun k=>(bitsOf ((parN F v).take k) 0:Int)) ((setF F v:Nat):Int)
    (fun k _ hk=>by
     have hp:=p3 _ (bJ hk)
     have hbl:bitsOf ((parN F v).take k) 0 < 18446744073709551616:=K9 _ _ (by omega) fun p hp=>by have:=p3 p (bH hp); omega
     unfold Jc
     dsimp only
     rw [Qr hv,aC,p1,Qan,aH (dlt hk),Q5t hk,aC,Qaz (n:=(parN F v)[k]) (by omega),aH (Qnk _),Qqk hbl (by omega),Xg hk,Qal])
    (by
     unfold Jc
     dsimp only
     rw [Qr hv,aC,p1,Qan,aI (nlt _),cM]; rfl)
   rw [show ((0:Nat):Int)=0 from rfl,List.take_zero] at hi
   rw [show ((bitsOf [] 0:Nat):Int)=0 from rfl] at hi
   unfold Jb
   dsimp only
   rw [hlen,aH (dlt hv),hi,aC,aH (by rw [aO,Xn]; simp; omega)]
   congr 3
   exact K6 (F:=fun j=>((setF F j:Nat):Int)))
  (by
   unfold Jb
   dsimp only
   rw [hlen,aI (nlt n)])
 rw [show ((0:Nat):Int)=0 from rfl] at h
 rw [show Qk 0 (setF F)=[] from rfl] at h
 unfold Kk
 rw [h]; rfl
theorem Q6s {n:Nat} {g:Int} {F:Nat -> Ad} {r:List Int} (hg:0<=g) (hg60:g<=60) (hr:r.length<=4) :
  ((∀w∈r,0<=w/\w<=g)/\Qb fuel (Yq r ⟨g,rowG n F⟩) (0,0)=some (.inr r.sum))\/(¬ (∀w∈r,0<=w/\w<=g)/\Qb fuel (Yq r ⟨g,rowG n F⟩) (0,0)=some (.inl ())):=by
 have pre:∀k,k<=r.length->(∀j,j < k->0<=(r[j]?).getD 0/\(r[j]?).getD 0<=g)->0<=(r.take k).sum/\(r.take k).sum<=60*k:=by
  intro k
  induction k with
  | zero=>intro _ _; simp
  | succ k ih =>
   intro hk h
   have h1:=ih (by omega) fun j hj=>h j (by omega)
   have h2:=h k (by omega)
   rw [aG (by omega)] at h2
   rw [Qe5 (by omega)]
   simp at h2; omega
 have h:=Vf (n:=r.length) (by omega) (fun k=>0<=(r[k]?).getD 0/\(r[k]?).getD 0<=g) (fun i (t:Int)=>(t,i)) (body:=Yq r ⟨g,rowG n F⟩)
  (fun k=>(r.take k).sum) (.inr r.sum) (.inl ())
  (fun k hk hI hgd=>by
   have hp:=pre k (by omega) hI
   have ek:lkI r (k:Int)=some r[k]:=Qn hk
   rw [aG hk] at hgd
   simp only [cP] at hgd
   unfold Yq
   dsimp only
   rw [aH (dlt hk),ek,aC,aI (by simp; omega),aI (by simp; omega),w64 (n:=(r.take k).sum+r[k]) (by omega),Qe5 hk])
  (fun k hk hI hgd=>by
   have ek:lkI r (k:Int)=some r[k]:=Qn hk
   rw [aG hk] at hgd
   simp only [cP] at hgd
   unfold Yq
   dsimp only
   rw [aH (dlt hk),ek,aC]
   by_cases c:r[k] < 0
   ·rw [aH (by simpa using c)]
   rw [aI (by simpa using c),aH (by simp; omega)])
  (fun hI=>by
   unfold Yq
   dsimp only
   rw [aI (nlt _),cM])
 have hiff:(∀j,j < r.length->0<=(r[j]?).getD 0/\(r[j]?).getD 0<=g)↔(∀w∈r,0<=w/\w<=g):=by
  constructor
  ·intro h w hw
   obtain ⟨k,hk,rfl⟩:=bA.1 hw
   have:=h k hk
   rw [aG hk] at this
   exact this
  intro h j hj
  rw [aG hj]
  exact h _ (bJ hj)
 rw [hiff] at h
 simp only [List.take_zero,List.sum_nil] at h
 exact h
theorem Qyi {g c:Int} {r:List Int}:Qg6 g c r↔(r.length:Int)=c/\(∀w∈r,0<=w/\w<=g)/\r.sum=g:=by
 unfold Qg6
 constructor
 ·rintro ⟨a,b,d⟩
  refine ⟨a,fun w hw=>⟨b w hw,?_⟩,d⟩
  obtain ⟨k,hk,rfl⟩:=bA.1 hw
  have h1:=(Qpq (k:=k+1) b).1
  have h2:=(Qpq (k:=k) b).2
  rw [Qe5 hk] at h1; omega
 rintro ⟨a,b,d⟩; exact ⟨a,fun w hw=>(b w hw).1,d⟩
theorem Q4x {n:Nat} {g:Int} {F:Nat -> Ad} (hn:n<=8) (hg:0<=g) (hg60:g<=60) (hb:NB n F) (hC:∀v,v < n->Kz (F v)) (hP:∀v,v < n->Qaj n (F v).Parents) :
  ((∀v,v < n->Qia g (cardN F) (F v) (parN F v))/\Qb fuel (Yn ⟨g,rowG n F⟩) 0=some (.inr ()))\/((¬ ∀v,v < n->Qia g (cardN F) (F v) (parN F v))/\Qb fuel (Yn ⟨g,rowG n F⟩) 0=some (.inl ())):=by
 have hlen:(rowG n F).length=n:=Qm
 have hpc:∀v,v < n->Q4 ⟨g,rowG n F⟩ (v:Int)=some ((parN F v).map fun p=>(cardN F p:Int)):=fun v hv=>by
  obtain ⟨p1,p2,p3⟩:=Je (hP v hv)
  unfold Q4
  rw [Qua (C:=cardN F) (fun v hv=>(Qfb (hC v hv)).symm) hn,aC,Qr hv,aC,p1,show nI (parN F v)=(parN F v).map fun (p:Nat)=>(p:Int) from rfl,Qu1 p3 (by have:=Qd8 p2 p3; omega)]
  rfl
 have hrow:∀v (hv:v < n) k (hk:k < (F v).Rows.length),Yp (F v) ⟨g,rowG n F⟩ (k:Int)=some (if (((F v).Rows[k].length:Int)=(F v).Card/\(∀w∈(F v).Rows[k],0<=w/\w<=g)/\(F v).Rows[k].sum=g) then .next (zw ((k:Int)+1)) else .done (.inl ())):=fun v hv k hk=>by
  have ek:lkI (F v).Rows (k:Int)=some (F v).Rows[k]:=Qn hk
  unfold Yp
  rw [aH (dlt hk),ek,aC]
  by_cases c:((F v).Rows[k].length:Int)=(F v).Card
  ·rw [aI (by simp; omega)]
   have hc:=(hC v hv).2
   rcases Q6s (n:=n) (g:=g) (F:=F) (r:=(F v).Rows[k]) hg hg60 (by omega) with ⟨h,e⟩ | ⟨h,e⟩
   ·rw [e,aC]
    dsimp only
    by_cases c2:(F v).Rows[k].sum=g
    ·rw [aI (by simp; exact c2),aH ⟨c,h,c2⟩]
    rw [aH (by simpa using c2),aI fun hh=>c2 hh.2.2]
   rw [e,aC,aI fun hh=>h hh.2.1]
  rw [aH (by simpa using c),aI fun hh=>c hh.1]
 have hrows:∀v (hv:v < n),((∀k,k < (F v).Rows.length->∀r,(F v).Rows[k]?=some r->Qg6 g (F v).Card r)/\Qb fuel (Yp (F v) ⟨g,rowG n F⟩) 0=some (.inr ()))\/((¬ ∀k,k < (F v).Rows.length->∀r,(F v).Rows[k]?=some r->Qg6 g (F v).Card r)/\Qb fuel (Yp (F v) ⟨g,rowG n F⟩) 0=some (.inl ())):=fun v hv=>by
  have h:=Vf (n:=(F v).Rows.length) (by have:=hb.rows v hv; omega) (fun k=>∀r,(F v).Rows[k]?=some r->Qg6 g (F v).Card r) (fun i (t:Unit)=>i) (body:=Yp (F v) ⟨g,rowG n F⟩) (fun _=>()) (.inr ()) (.inl ())
   (fun k hk hI hgd=>by
    rw [hrow v hv k hk,aH (Qyi.1 (hgd _ (aG hk)))])
   (fun k hk hI hgd=>by
    rw [hrow v hv k hk,aI fun hh=>hgd fun r hr=>by
     rw [aG hk] at hr; cases hr
     exact Qyi.2 hh])
   (fun hI=>by unfold Yp; rw [aI (nlt _)])
  exact h
 have h:=Vf (n:=n) (by omega) (fun v=>Qia g (cardN F) (F v) (parN F v)) (fun i (t:Unit)=>i) (body:=Yn ⟨g,rowG n F⟩) (fun _=>()) (.inr ()) (.inl ())
  (fun v hv hI hgd=>by
   obtain ⟨p1,p2,p3⟩:=Je (hP v hv)
   unfold Yn
   dsimp only
   rw [hlen,aH (dlt hv),Qr hv,aC,hpc v hv,aC,Qm5 (fun p hp=>(Qak (hC p (p3 p hp))).2) (by have:=Qd8 p2 p3; omega),aC,aI (by have:=hgd.1; simp; omega)]
   rcases hrows v hv with ⟨_,e⟩ | ⟨no,_⟩
   ·rw [e,aC]
   exact absurd (fun k hk r hr=>hgd.2 r (aF hr)) no)
  (fun v hv hI hgd=>by
   obtain ⟨p1,p2,p3⟩:=Je (hP v hv)
   unfold Yn
   dsimp only
   rw [hlen,aH (dlt hv),Qr hv,aC,hpc v hv,aC,Qm5 (fun p hp=>(Qak (hC p (p3 p hp))).2) (by have:=Qd8 p2 p3; omega),aC]
   by_cases c:(F v).Rows.length=lprod (cardN F) (parN F v)
   ·rw [aI (by simp; omega)]
    rcases hrows v hv with ⟨h,_⟩ | ⟨_,e⟩
    ·exact absurd ⟨c,fun r hr=>by
      obtain ⟨k,hk,rfl⟩:=bA.1 hr
      exact h k hk _ (aG hk)⟩ hgd
    rw [e,aC]
   rw [aH (by simp; omega)])
  (fun hI=>by unfold Yn; dsimp only; rw [hlen,aI (nlt n)])
 exact h
theorem Qrg {n:Nat} {g:Int} {F:Nat -> Ad} (hb:NB n F):(Qpv n g F/\Ve ⟨g,rowG n F⟩=some true)\/(¬ Qpv n g F/\Ve ⟨g,rowG n F⟩=some false):=by
 have hlen:(rowG n F).length=n:=Qm
 unfold Ve
 dsimp only
 rw [hlen]
 by_cases c1:g < 1
 ·rw [aH (by simpa using c1)]; exact .inr ⟨fun h=>by have:=h.g1; omega,rfl⟩
 rw [aI (by simpa using c1)]
 by_cases c2:g > 60
 ·rw [aH (by simpa using c2)]; exact .inr ⟨fun h=>by have:=h.g60; omega,rfl⟩
 rw [aI (by simpa using c2)]
 by_cases c3:n < 1
 ·rw [aH (by simp; omega)]; exact .inr ⟨fun h=>by have:=h.n1; omega,rfl⟩
 rw [aI (by simp; omega)]
 by_cases c4:n > 8
 ·rw [aH (by simp; omega)]; exact .inr ⟨fun h=>by have:=h.n8; omega,rfl⟩
 rw [aI (by simp; omega)]
 rcases Q9k (n:=n) (g:=g) (by omega) hb with ⟨hC,e⟩ | ⟨hC,e⟩
 rotate_left
 ·rw [e,aC]; exact .inr ⟨fun h=>hC fun v hv=>⟨h.card v hv,(h.node v hv).1.1⟩,rfl⟩
 rw [e,aC]
 dsimp only
 by_cases c5:prodTo n (cardN F) > 1024
 ·rw [aH (by simp; omega)]; exact .inr ⟨fun h=>by have:=h.worlds; omega,rfl⟩
 rw [aI (by simp; omega),Q4b (by omega) fun v hv=>(hC v hv).2,aC]
 rw [show (Qk n (setF F))=(Qk n fun v=>bitsOf (parN F v) 0) from rfl]
 rcases Qx7 (n:=n) (q:=parN F) (by omega) (fun v hv=>(Je (hC v hv).2).2.2) with ⟨hR,e⟩ | ⟨hR,e⟩
 ·rw [e,aC,aI (by decide)]
  rcases Q4x (n:=n) (g:=g) (F:=F) (by omega) (by omega) (by omega) hb (fun v hv=>(hC v hv).1) (fun v hv=>(hC v hv).2) with ⟨hN,e⟩ | ⟨hN,e⟩
  ·left
   refine ⟨⟨by omega,by omega,by omega,by omega,fun v hv=>(hC v hv).1,by omega,fun v hv=>⟨⟨(hC v hv).2,fun hm=>?_⟩,hN v hv⟩,hR⟩,by rw [e]; rfl⟩
   obtain ⟨p1,_,_⟩:=Je (hC v hv).2
   obtain ⟨rk,hrk⟩:=hR
   rw [p1] at hm
   unfold nI at hm
   obtain ⟨p,hp,e⟩:=cD.1 hm
   have:p=v:=by omega
   subst this
   have:=hrk p hv p hp; omega
  right
  exact ⟨fun h=>hN fun v hv=>(h.node v hv).2,by rw [e]; rfl⟩
 rw [e,aC,aH (by decide)]
 exact .inr ⟨fun h=>hR h.rank,rfl⟩
end Go.Ab
