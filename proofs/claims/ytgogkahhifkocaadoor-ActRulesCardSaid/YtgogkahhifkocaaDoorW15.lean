/- Functions. No conditions. -/
import Derived.Test.YtgogkahhifkocaaDoorW14
set_option maxRecDepth 100000
set_option maxHeartbeats 400000
set_option linter.all false
namespace Go.Ab
open Go
def rowG {α:Type} (n:Nat) (F:Nat -> α):List α:=(List.range n).map F
theorem Z9 {α:Type} {n:Nat} {F:Nat -> α}:(rowG n F).length=n:=by simp [rowG]
theorem Zn {α:Type} {n:Nat} {F:Nat -> α} {k:Nat} (h:k < n):lkI (rowG n F) (k:Int)=some (F k):=by
 rw [Q0 (by rw [Z9]; exact h)]; simp [rowG]
theorem Qq {α:Type} {n:Nat} {F G:Nat -> α} (h:∀k,k < n->F k=G k):rowG n F=rowG n G:=by
 unfold rowG
 apply List.map_congr_left
 intro t ht
 exact h t (by simpa using ht)
theorem Qah {α:Type} {n:Nat} {F:Nat -> α} {k:Nat} {x:α}:(rowG n F).set k x=rowG n (fun s=>if s=k then x else F s):=by
 apply List.ext_getElem?
 intro s
 rw [List.getElem?_set]
 simp only [rowG,bF,bZ,List.length_range]
 by_cases e:k=s
 ·subst e
  rw [aH rfl]
  by_cases hk:k < n
  ·rw [aH hk,List.getElem?_range hk]; simp
  rw [aI hk,dN (by simpa using hk)]; rfl
 rw [aI e]
 by_cases hs:s < n
 ·rw [List.getElem?_range hs]; simp only [bM]; rw [aI (Ne.symm e)]
 rw [dN (by simpa using hs)]; rfl
theorem Qjn {α:Type} (n:Nat) (x:α):List.replicate n x=rowG n (fun _=>x):=by
 apply List.ext_getElem?
 intro s
 rw [cM]
 by_cases hs:s < n
 ·rw [aH hs]; simp [rowG,List.getElem?_range hs]
 rw [aI hs,dN (by rw [Z9]; omega)]
theorem Qe9 {α:Type} {n:Nat} {F:Nat -> α}:rowG n F++[F n]=rowG (n+1) F:=by
 unfold rowG; rw [List.range_succ]; simp
def Qdt {α:Type} (w:Nat -> α) (i:Nat) (x:α):Nat -> α:=fun s=>if s=i then x else w s
theorem Qbh {α:Type} {w:Nat -> α} {i:Nat} {x:α}:Qdt w i x i=x:=by simp [Qdt]
theorem Qgm {α:Type} {w:Nat -> α} {i j:Nat} {x:α} (h:j≠i):Qdt w i x j=w j:=by simp [Qdt,h]
def Q2:Nat -> (Nat -> Int)->Int
 | 0,_=>0
 | n+1,f=>Q2 n f+f n
theorem Qox {n:Nat} {f g:Nat -> Int} (h:∀k,k < n->f k=g k):Q2 n f=Q2 n g:=by
 induction n with
 | zero=>rfl
 | succ n ih=>simp only [Q2]; rw [ih (fun k hk=>h k (by omega)),h n (by omega)]
theorem Q1l {n:Nat} {f g:Nat -> Int}:Q2 n (fun k=>f k+g k)=Q2 n f+Q2 n g:=by
 induction n with
 | zero=>rfl
 | succ n ih=>simp only [Q2,ih]; omega
theorem Qln {n:Nat}:Q2 n (fun _=>0)=0:=by
 induction n with
 | zero=>rfl
 | succ n ih=>simp only [Q2,ih]; rfl
theorem Qaq {n:Nat} {f:Nat -> Int} (h:∀k,k < n->0<=f k):0<=Q2 n f:=by
 induction n with
 | zero=>exact Int.le_refl 0
 | succ n ih=>simp only [Q2]; have:=ih (fun k hk=>h k (by omega)); have:=h n (by omega); omega
theorem Q1i {n k:Nat} {c:Int} (h:k < n):Q2 n (fun x=>if k=x then c else 0)=c:=by
 induction n with
 | zero=>omega
 | succ n ih =>
  simp only [Q2]
  by_cases e:k=n
  ·subst e
   rw [aH rfl,Qox (g:=fun _=>0) (fun x hx=>aI (by omega)),Qln]; omega
  rw [aI e,ih (by omega)]; omega
theorem Qyc {a b:Nat} {f:Nat -> Int}:Q2 (a+b) f=Q2 a f+Q2 b (fun k=>f (a+k)):=by
 induction b with
 | zero=>simp [Q2]
 | succ b ih=>rw [<-cJ]; simp only [Q2,ih]; omega
def Za:Nat -> (Nat -> Nat)->Nat
 | 0,_=>1
 | n+1,f=>Za n f*f n
theorem Qhs {n K:Nat} {f:Nat -> Nat} (h:∀k,k < n->f k<=K):Za n f<=K^n:=by
 induction n with
 | zero=>simp [Za]
 | succ n ih=>simp only [Za,Nat.pow_succ]; exact Nat.mul_le_mul (ih fun k hk=>h k (by omega)) (h n (by omega))
structure NF where
 n:Nat
 g:Nat
 card:Nat -> Nat
 par:Nat -> List Nat
 W:Nat -> Nat -> Nat -> Nat
def lprod (f:Nat -> Nat) (l:List Nat):Nat := l.foldl (fun r p=>r*f p) 1
def NF.rows (D:NF) (v:Nat):Nat := lprod D.card (D.par v)
def NF.node (D:NF) (v:Nat):Ad:=⟨D.card v,(D.par v).map (fun (p:Nat)=>(p:Int)),rowG (D.rows v) fun r=>rowG (D.card v) fun x=>(D.W v r x:Int)⟩
def NF.net (D:NF):Qc:=⟨D.g,rowG D.n D.node⟩
def Qf (n:Nat) (w:Nat -> Nat):List Int:=rowG n fun j=>(w j:Int)
theorem Zk {n k:Nat} {w:Nat -> Nat} (h:k < n):lkI (Qf n w) (k:Int)=some (w k:Int):=Zn h
theorem Qp {n:Nat} {w:Nat -> Nat}:(Qf n w).length=n:=Z9
structure VN (D:NF):Prop where
 n1:1<=D.n
 n8:D.n<=8
 g1:1<=D.g
 g60:D.g<=60
 card:∀v,v < D.n->1<=D.card v/\D.card v<=4
 par:∀v,v < D.n->∀p∈D.par v,p < D.n
 len:∀v,v < D.n->(D.par v).length<=8
 W:∀v r x,v < D.n->r < D.rows v->x < D.card v->D.W v r x<=D.g
 worlds:Za D.n D.card<=1024
theorem Qg6 {f:Nat -> Nat} {l:List Nat} {p:Nat}:lprod f (l++[p])=lprod f l*f p:=by simp [lprod]
theorem Qjv {f:Nat -> Nat} {l:List Nat} (h:∀p∈l,f p<=4):lprod f l<=4^l.length:=by
 have key:∀(l:List Nat) (R K:Nat),R<=K->(∀p∈l,f p<=4)->l.foldl (fun r p=>r*f p) R<=K*4^l.length:=by
  intro l
  induction l with
  | nil=>intro R K h _; simpa using h
  | cons p l ih =>
   intro R K hr hp
   simp only [List.foldl_cons,dI,Nat.pow_succ]
   have:=ih (R*f p) (K*4) (Nat.mul_le_mul hr (hp p (by simp))) (fun q hq=>hp q (cN _ hq))
   rwa [Nat.mul_assoc,cL 4] at this
 have:=key l 1 1 (by omega) h
 simpa [lprod] using this
section
variable {D:NF} (V:VN D) {w:Nat -> Nat}
include V
theorem VN.rows_le {v:Nat} (hv:v < D.n):D.rows v<=65536:=by
 refine bY (Qjv fun p hp=>(V.card p (V.par v hv p hp)).2) ?_
 exact aV (by omega) (V.len v hv)
omit V in
theorem Y7 {α:Type} {l:List α} {k:Nat} (h:k < l.length):l.take (k+1)=l.take k++[l[k]]:=by rw [List.take_add_one,aG h]; rfl
theorem VN.node {v:Nat} (hv:v < D.n):lkI D.net.Nodes (v:Int)=some (D.node v):=Zn hv
end
theorem Qsw {a k:Nat} (ha:a < 18446744073709551616) (hk:k < 64) :
  zv (zb (a:Int) ||| zb (zv (1*2^min (Int.toNat (k:Int)) zk))).toNat = ((a ||| 2^k:Nat):Int):=by
 have hb:zk=64:=rfl
 have e0:min (Int.toNat (k:Int)) zk=k:=by rw [hb,aR]; omega
 have hp:2^k < 18446744073709551616:=by
  have:2^k < 2^64:=eN (by omega) hk
  exact this
 rw [e0,show (1:Int)*2^k=((2^k:Nat):Int) by simp,Yn hp]
 have e1:(zb (a:Int) ||| zb ((2^k:Nat):Int)).toNat = a ||| 2^k:=by
  rw [BitVec.toNat_or,Vv ha,Vv hp]
 rw [e1,Yn]
 exact dZ (n:=64) ha hp
theorem or_lt {a k:Nat} (ha:a < 18446744073709551616) (hk:k < 64):a ||| 2^k < 18446744073709551616 :=
 dZ (n:=64) ha (eN (by omega) hk)
theorem Q5j {a k j:Nat}:(a ||| 2^k).testBit j=(a.testBit j || decide (k=j)):=by
 rw [bH,dC]
theorem Qs1 {a b:Nat} (ha:a < 18446744073709551616) (hb:b < 18446744073709551616) :
  (zv (zb (a:Int) &&& ~~~ zb (b:Int)).toNat == 0)=true↔∀j,a.testBit j=true->b.testBit j=true:=by
 have h1:(zb (a:Int) &&& ~~~ zb (b:Int)).toNat < 18446744073709551616:=BitVec.isLt _
 rw [Yn h1]
 generalize hx:zb (a:Int) &&& ~~~ zb (b:Int)=x
 have hbit:∀j,j < 64->x.getLsbD j=(a.testBit j && !(b.testBit j)):=fun j hj=>by
  rw [<-hx,BitVec.getLsbD_and,BitVec.getLsbD_not]
  have:zk=64:=rfl
  have e1:(zb (a:Int)).getLsbD j=a.testBit j:=by unfold BitVec.getLsbD; rw [Vv ha]
  have e2:(zb (b:Int)).getLsbD j=b.testBit j:=by unfold BitVec.getLsbD; rw [Vv hb]
  rw [e1,e2]
  simp [this,hj]
 constructor
 ·intro h j hj
  have hx0:x.toNat = 0:=by simpa using h
  have h64:j < 64:=by
   rcases bB j 64 with h' | h'
   ·exact h'
   have:=Nat.testBit_lt_two_pow (i:=j) (x:=a) (bO ha (aV (n:=2) (by omega) h'))
   rw [this] at hj; cases hj
  have h2:=hbit j h64
  have h3:x.getLsbD j=false:=by unfold BitVec.getLsbD; rw [hx0]; simp
  rw [h3,hj] at h2
  simpa using h2
 ·intro h
  have:x=0#_:=by
   apply BitVec.eq_of_getLsbD_eq
   intro j hj
   have hj':j < 64:=hj
   rw [hbit j hj']
   cases ha':a.testBit j with
   | false=>simp
   | true=>rw [h j ha']; simp
  rw [this]; rfl
def KK:Int:=167961600000000
def BD (m:Nat) (z:Int):Prop:=-((m:Int)*KK)<=z/\z<=(m:Int)*KK
theorem BD.add {m p:Nat} {a b:Int} (h:BD m a) (k:BD p b):BD (m+p) (a+b):=by
 unfold BD at *
 rw [Int.natCast_add,Int.add_mul]; omega
theorem BD.zero {m:Nat}:BD m 0:=by unfold BD KK; omega
theorem BD.sum {n p:Nat} {f:Nat -> Int} (h:∀k,k < n->BD p (f k)):BD (n*p) (Q2 n f):=by
 induction n with
 | zero=>exact BD.zero
 | succ n ih=>simp only [Q2]; rw [dT]; exact (ih fun k hk=>h k (by omega)).add (h n (by omega))
section
variable {D:NF} {E:Nat -> Int}
theorem X5 {α β:Type} {o:Option α} {a:α} {k:α->Option β} {r:Option β} (h:o=some a) (h2:k a=r):o.bind k=r:=by rw [h]; exact h2
theorem Q2z {n:Nat} {f:Nat -> Nat} {l:List Nat} (hl:∀p∈l,p < n) (h8:l.length<=8):Qfy (Qf n f) (l.map fun (p:Nat)=>(p:Int))=some (l.map fun p=>(f p:Int)):=by
 unfold Qfy
 refine X5 (Qby (s0:=((0:Int),([]:List Int))) (r:=l.map fun p=>(f p:Int)) (fun k=>((k:Int),(l.take k).map fun p=>(f p:Int))) l.length (by simp) (fun k hk=>?_) ?_ (by omega)) rfl
 ·unfold Qfu
  simp only
  rw [aH (by simpa using hk),Q0 (by simpa using hk)]
  simp only [aC,List.getElem_map]
  rw [Zk (hl _ (bL hk))]
  simp only [aC]
  rw [aH (by simp [cT]; omega),w64 (by omega),Y7 hk]
  simp only [cY,dG,dH]
  rfl
 unfold Qfu
 simp only
 rw [aI (by simp),List.take_of_length_le (bA _)]
end
structure VX (D:NF):Prop where
 vn:VN D
 sorted:∀v,v < D.n->(D.par v).Pairwise (· < ·)
 self:∀v,v < D.n->v ∉ D.par v
 rank:∃rk:Nat -> Nat,∀v,v < D.n->∀p∈D.par v,rk p < rk v
 sum:∀v r,v < D.n->r < D.rows v->Q2 (D.card v) (fun x=>(D.W v r x:Int))=D.g
theorem Qc9:∀(a b:List Nat),a.Nodup->a ⊆ b->a.length<=b.length
 | [],_,_,_=>by simp
 | x::a,b,hn,hs=>by
  have hx:x∈b:=hs (by simp)
  rw [List.nodup_cons] at hn
  have h1:a ⊆ b.erase x:=fun y hy=>by
   have hne:y≠x:=fun e=>hn.1 (e ▸ hy)
   exact (List.mem_erase_of_ne hne).2 (hs (cN _ hy))
  have h2:=Qc9 a (b.erase x) hn.2 h1
  have h3:=List.length_erase_of_mem hx
  have h4:0 < b.length:=List.length_pos_of_mem hx
  simp only [dI]
  omega
def bitsOf (l:List Nat) (a:Nat):Nat := l.foldl (fun a p=>a ||| 2^p) a
theorem Yg {j:Nat}:∀(l:List Nat) (a:Nat),(bitsOf l a).testBit j=(a.testBit j || decide (j∈l))
 | [],a=>by simp [bitsOf]
 | p::l,a=>by
  have:=Yg (j:=j) l (a ||| 2^p)
  unfold bitsOf at this ⊢
  simp only [List.foldl_cons]
  rw [this,Q5j]
  by_cases h:p=j
  ·subst h; simp
  have:j≠p:=Ne.symm h
  simp [h,this]
theorem Qbl:∀(l:List Nat) (a:Nat),a < 18446744073709551616->(∀p∈l,p < 64)->bitsOf l a < 18446744073709551616
 | [],a,h,_=>h
 | p::l,a,h,hl=>Qbl l (a ||| 2^p) (or_lt h (hl p (by simp))) fun q hq=>hl q (cN _ hq)
theorem Qcm {l:List Nat} {p a:Nat}:bitsOf (l++[p]) a=bitsOf l a ||| 2^p:=by simp [bitsOf]
section
variable {D:NF}
def Qof (D:NF) (v:Nat):Nat := bitsOf (D.par v) 0
theorem Qwc (V:VN D) {v:Nat} (hv:v < D.n):Qof D v < 18446744073709551616:=Qbl _ _ (by omega) fun p hp=>by have:=V.par v hv p hp; have:=V.n8; omega
theorem Qu7 {v j:Nat}:(Qof D v).testBit j=decide (j∈D.par v):=by unfold Qof; rw [Yg]; simp
theorem Qze (X:VX D):∃order,V0 (Qf D.n (Qof D))=some (order,true):=by
 have V:=X.vn
 have hn:=V.n8
 obtain ⟨rk,hrk⟩:=X.rank
 have hlen:(Qf D.n (Qof D)).length=D.n:=Qp
 let I:Int × List Int->Prop:=fun s=>∃(l:List Nat),l.Nodup/\(∀p∈l,p < D.n)/\s=((bitsOf l 0:Int),l.map fun (p:Nat)=>(p:Int))
 have hw:=Vr (body:=Xn (Qf D.n (Qof D))) I (fun s=>D.n - s.2.length) (fun r=>∃o,r=Sum.inr o) (fun s hs=>?_) ((0:Int),List.replicate (Int.toNat 0) (0:Int)) ⟨[],List.nodup_nil,fun p hp=>by simp at hp,rfl⟩ (by simp; omega)
 ·obtain ⟨r,h1,o,rfl⟩:=hw
  refine ⟨o,?_⟩
  unfold V0
  rw [aH (by rw [hlen]; omega),h1]
  rfl
 obtain ⟨l,hnd,hl,rfl⟩:=hs
 have hll:l.length<=D.n:=by
  have h1:l ⊆ List.range D.n:=fun p hp=>cR.2 (hl p hp)
  have:=Qc9 l (List.range D.n) hnd h1
  simpa using this
 have hdl:bitsOf l 0 < 18446744073709551616:=Qbl _ _ (by omega) fun p hp=>by have:=hl p hp; omega
 by_cases hc:l.length < D.n
 ·
  have hex:∃v,v < D.n/\v ∉ l:=by
   apply Classical.byContradiction
   intro hno
   have h1:List.range D.n ⊆ l:=fun p hp=>by
    apply Classical.byContradiction
    intro hp'
    exact hno ⟨p,cR.1 hp,hp'⟩
   have:=Qc9 (List.range D.n) l List.nodup_range h1
   simp at this
   omega
  have hmin:∃v,v < D.n/\v ∉ l/\∀u,u < D.n->u ∉ l->rk v<=rk u:=by
   obtain ⟨v0,h1,h2⟩:=hex
   have:∀(k:Nat) (v:Nat),rk v<=k->v < D.n->v ∉ l->∃v,v < D.n/\v ∉ l/\∀u,u < D.n->u ∉ l->rk v<=rk u:=by
    intro k
    induction k with
    | zero=>intro v hk h1 h2; exact ⟨v,h1,h2,fun u _ _=>by omega⟩
    | succ k ih =>
     intro v hk h1 h2
     by_cases hall:∀u,u < D.n->u ∉ l->rk v<=rk u
     ·exact ⟨v,h1,h2,hall⟩
     ·have:∃u,u < D.n/\u ∉ l/\rk u < rk v:=by
       apply Classical.byContradiction
       intro hno
       exact hall fun u hu hul=>by
        apply Classical.byContradiction
        intro hlt
        exact hno ⟨u,hu,hul,by omega⟩
      obtain ⟨u,hu,hul,hlt⟩:=this
      exact ih u (by omega) hu hul
   exact this (rk v0) v0 (bA _) h1 h2
  obtain ⟨v1,hv1,hv1l,hv1m⟩:=hmin
  have hready:∀p∈D.par v1,p∈l:=fun p hp=>by
   apply Classical.byContradiction
   intro hpl
   have h1:=hv1m p (V.par v1 hv1 p hp) hpl
   have h2:=hrk v1 hv1 p hp
   omega
  left
  have hs2:=Vr (body:=V6 (Qf D.n (Qof D)) ((bitsOf l 0:Int),l.map fun (p:Nat)=>(p:Int))) (fun s=>∃k:Nat,k<=v1/\s=(k:Int)) (fun s=>D.n - s.toNat)
   (fun r=>∃v,v < D.n/\v ∉ l/\r=Sum.inl (((bitsOf l 0 ||| 2^v:Nat):Int),(l.map fun (p:Nat)=>(p:Int))++[(v:Int)])) (fun s hs=>?_) (0:Int) ⟨0,by omega,rfl⟩ (by simp; omega)
  ·obtain ⟨r,h1,v,hv,hvl,rfl⟩:=hs2
   refine ⟨(((bitsOf l 0 ||| 2^v:Nat):Int),(l.map fun (p:Nat)=>(p:Int))++[(v:Int)]),?_,⟨l++[v],?_,?_,?_⟩,by simp; omega⟩
   ·unfold Xn
    simp only
    rw [aH (by rw [hlen]; simp; omega),h1]
    rfl
   ·rw [List.nodup_append]
    exact ⟨hnd,by simp,fun a ha b hb=>by simp at hb; subst hb; exact fun e=>hvl (e ▸ ha)⟩
   ·intro p hp
    rcases bV.1 hp with h | h
    ·exact hl p h
    ·simp at h; subst h; exact hv
   ·rw [Qcm]; simp
  ·obtain ⟨k,hk,rfl⟩:=hs
   have hkn:k < D.n:=by omega
   have ek:zw ((k:Int)+1)=((k+1:Nat):Int):=by rw [w64 (by omega)]; omega
   have hbk:(bitsOf l 0).testBit k=decide (k∈l):=by rw [Yg]; simp
   unfold V6
   simp only
   rw [aH (by rw [hlen]; simpa using hkn),Zk hkn]
   simp only [aC]
   rw [aH (by omega),Qf0 hdl (by omega),hbk]
   by_cases hkl:k∈l
   ·left
    rw [aI (by simp [hkl]),ek]
    have hne:k≠v1:=fun e=>hv1l (e ▸ hkl)
    exact ⟨_,rfl,⟨k+1,by omega,rfl⟩,by simp; omega⟩
   ·rw [aH (by simp [hkl])]
    by_cases hsub:∀p∈D.par k,p∈l
    ·right
     rw [aH ((Qs1 (Qwc V hkn) hdl).2 fun j hj=>by
      rw [Qu7] at hj
      rw [Yg]
      simp at hj ⊢
      exact hsub j hj),aH (by simp; omega),aH (by omega),Qsw hdl (by omega)]
     exact ⟨_,rfl,k,hkn,hkl,rfl⟩
    ·left
     have hne:k≠v1:=fun e=>by subst e; exact hsub hready
     rw [aI (fun hc'=>hsub fun p hp=>by
      have:=(Qs1 (Qwc V hkn) hdl).1 hc' p (by rw [Qu7]; simpa using hp)
      rw [Yg] at this
      simpa using this),ek]
     exact ⟨_,rfl,⟨k+1,by omega,rfl⟩,by simp; omega⟩
 right
 refine ⟨Sum.inr (l.map fun (p:Nat)=>(p:Int)),?_,_,rfl⟩
 unfold Xn
 simp only
 rw [aI (by rw [hlen]; simp; omega)]
end
theorem Q0i {n:Nat} {f:Nat -> Nat}:∃s:Nat,Q2 n (fun x=>(f x:Int))=(s:Int):=by
 obtain ⟨s,hs⟩:=Int.eq_ofNat_of_zero_le (Qaq (n:=n) (f:=fun x=>(f x:Int)) fun _ _=>dB _)
 exact ⟨s,hs⟩
theorem Qew {n k:Nat} {f:Nat -> Int} (h:∀j,j < n->0<=f j) (hk:k<=n):Q2 k f<=Q2 n f:=by
 obtain ⟨m,rfl⟩:=Nat.exists_eq_add_of_le hk
 rw [Qyc]
 have:=Qaq (n:=m) (f:=fun x=>f (k+x)) fun j hj=>h _ (by omega)
 omega
theorem Qo2 {g S:Nat} (hS:0 < S):∀(n:Nat) (o:Nat -> Nat),Q2 n (fun x=>((g*o x / S:Nat):Int))*S<=g*Q2 n (fun x=>(o x:Int))
 | 0,_=>by simp [Q2]
 | n+1,o=>by
  have ih:=Qo2 (g:=g) hS n o
  have h1:g*o n / S*S<=g*o n:=Nat.div_mul_le_self _ _
  have h2:(((g*o n / S:Nat):Int))*(S:Int)<=(g:Int)*(o n:Int):=by exact_mod_cast h1
  simp only [Q2]
  rw [Int.add_mul,Int.mul_add]
  exact Int.add_le_add ih h2
theorem Q1t {g c:Nat} {l:List Int} {fr:Nat} (hg:g<=60) (hc:1<=c) (hc4:c<=4) (hl:∀x∈l,0<=x/\x<=255) (hll:l.length<=9223372036854775807) (hfr:fr<=100000) :
  ∃f:Nat -> Nat,Qb7 (g:Int) (c:Int) l (fr:Int)=some (rowG c fun x=>(f x:Int))/\Q2 c (fun x=>(f x:Int))=g:=by
 have hb0:∃o:Nat -> Nat,(∀j,o j < 8)/\Qb fuel (Jt (c:Int) l (fr:Int)) ((0:Int),(0:Int),rowG c fun _=>(0:Int))=some (Q2 c (fun x=>(o x:Int)),rowG c fun x=>(o x:Int)):=by
  by_cases h0:l.length=0
  ·refine ⟨fun _=>0,fun _=>Nat.zero_lt_succ _,?_⟩
   have hz:∀k,Q2 k (fun _=>((0:Nat):Int))=0:=fun k=>Qln
   refine Qby (fun k=>((0:Int),(k:Int),rowG c fun _=>(0:Int))) c _ rfl (fun k hk=>?_) ?_ (by omega)
   ·unfold Jt
    simp only
    rw [aH (by simpa using hk),aI (by simp [h0]),Zn hk]
    simp only [aC]
    rw [w64 (by omega),w64 (by omega)]
    rfl
   unfold Jt
   simp only
   rw [aI (by simp),hz]
   rfl
  have hpos:0 < l.length:=by omega
  let o:Nat -> Nat := fun k=>((l[(fr+k) % l.length]'(cI _ hpos)).toNat) % 8
  refine ⟨o,fun j=>cI _ (by omega),?_⟩
  refine Qby (fun k=>(Q2 k (fun x=>(o x:Int)),(k:Int),rowG c fun j=>if j < k then (o j:Int) else 0)) c _ (by simp [Q2]) (fun k hk=>?_) ?_ (by omega)
  ·have hx:=hl _ (bL (cI (fr+k) hpos))
   have ho:o k=((l[(fr+k) % l.length]'(cI _ hpos)).toNat) % 8:=rfl
   have hs:Q2 k (fun x=>(o x:Int))<=8*k:=by
    have:∀k,Q2 k (fun x=>(o x:Int))<=8*k:=by
     intro k
     induction k with
     | zero=>simp [Q2]
     | succ k ih=>simp only [Q2]; have:o k < 8:=cI _ (by omega); omega
    exact this k
   have hs0:0<=Q2 k (fun x=>(o x:Int)):=Qaq fun _ _=>dB _
   have e1:Int.tmod (zw ((fr:Int)+(k:Int))) (l.length:Int)=(((fr+k) % l.length:Nat):Int):=by
    rw [w64 (by omega),Qbk (by omega)]; simp
   unfold Jt
   simp only
   rw [aH (by simpa using hk),aH (by simp; omega),aH (by omega),e1,Q0 (cI _ hpos)]
   simp only [aC]
   rw [Zn hk]
   simp only [aC]
   have e2:Int.tmod (l[(fr+k) % l.length]'(cI _ hpos)) 8=(o k:Int):=by rw [Qbk hx.1,ho]; omega
   have ho8:o k < 8:=cI _ (by omega)
   rw [e2]
   have w1:zw (o k:Int)=(o k:Int):=w64 (by omega)
   rw [w1,w64 (by omega),w64 (by omega),aR,Qah]
   simp only [Q2]
   congr 4
   refine Qq fun j hj=>?_
   by_cases e:j=k
   ·subst e; simp
   rw [aI e]
   by_cases e2:j < k
   ·rw [aH e2,aH (by omega)]
   rw [aI e2,aI (by omega)]
  unfold Jt
  simp only
  rw [aI (by simp)]
  congr 3
  exact Qq fun j hj=>aH hj
 obtain ⟨o,ho,h0⟩:=hb0
 obtain ⟨S,hS⟩:=Q0i (n:=c) (f:=o)
 let q:Nat -> Nat := fun x=>g*o x / S
 have hq:∀x,o x=0->q x=0:=fun x h=>by show g*o x / S=0; rw [h]; simp
 have hSb:S<=32:=by
  have:∀k,Q2 k (fun x=>(o x:Int))<=8*k:=by
   intro k
   induction k with
   | zero=>simp [Q2]
   | succ k ih=>simp only [Q2]; have:=ho k; omega
  have:=this c
  omega
 have hpart:∀k,k<=c->0<=Q2 k (fun x=>(q x:Int))/\Q2 k (fun x=>(q x:Int))<=g:=fun k hk=>by
  refine ⟨Qaq fun _ _=>dB _,Int.le_trans (Qew (fun _ _=>dB _) hk) ?_⟩
  by_cases h:S=0
  ·have:∀x,q x=0:=fun x=>by show g*o x / S=0; rw [h]; simp
   rw [Qox (g:=fun _=>0) (fun x _=>by rw [this]; rfl),Qln]; omega
  have h1:=Qo2 (g:=g) (S:=S) (by omega) c o
  rw [hS] at h1
  have h2:Q2 c (fun x=>(q x:Int))*(S:Int)<=(g:Int)*(S:Int):=h1
  exact Int.le_of_mul_le_mul_right h2 (by omega)
 have hb1:=Vr (body:=Qd7 (c:Int) (Q2 c (fun x=>(o x:Int)),rowG c fun x=>(o x:Int)) (g:Int))
  (fun s=>∃k last:Nat,k<=c/\last < c/\s=((g:Int) - Q2 k (fun x=>(q x:Int)),(last:Int),(k:Int),rowG c fun j=>if j < k then (q j:Int) else (o j:Int)))
  (fun s=>c - s.2.2.1.toNat)
  (fun r=>∃last:Nat,last < c/\r=((g:Int) - Q2 c (fun x=>(q x:Int)),(last:Int),rowG c fun j=>(q j:Int)))
  (fun s hs=>?_) ((g:Int),(0:Int),(0:Int),rowG c fun x=>(o x:Int)) ⟨0,0,by omega,by omega,by simp [Q2]⟩ (by simp; omega)
 ·obtain ⟨r,h1,last,hlast,rfl⟩:=hb1
  have hp:=hpart c (bA _)
  obtain ⟨left,hleft⟩:=Int.eq_ofNat_of_zero_le (show 0<=(g:Int) - Q2 c (fun x=>(q x:Int)) by omega)
  refine ⟨fun x=>q x+if last=x then left else 0,?_,?_⟩
  ·unfold Qb7
   rw [aH (by omega),aR,Qjn,h0]
   simp only [aC]
   rw [h1]
   simp only [aC]
   rw [Zn hlast]
   simp only [aC]
   have hql:(q last:Int)<=g:=by
    have e:=Qew (n:=c) (k:=last+1) (f:=fun x=>(q x:Int)) (fun _ _=>dB _) (by omega)
    have e2:=(hpart last (by omega)).1
    simp only [Q2] at e
    omega
   rw [hleft,w64 (by omega),aR,Qah]
   congr 1
   refine Qq fun x hx=>?_
   by_cases e:x=last
   ·subst e; simp
   ·rw [aI e,aI (Ne.symm e)]; simp
  ·have e:(fun x=>((q x+if last=x then left else 0:Nat):Int))=fun x=>(q x:Int)+if last=x then (left:Int) else 0:=by
    funext x; split <;> simp
   rw [e,Q1l,Q1i hlast]
   have:(left:Int)=(g:Int) - Q2 c (fun x=>(q x:Int)):=hleft.symm
   omega
 ·obtain ⟨k,last,hk,hlast,rfl⟩:=hs
  unfold Qd7
  simp only
  by_cases hkc:k < c
  ·left
   have hp1:=hpart k hk
   have hp2:=hpart (k+1) hkc
   have e1:Q2 (k+1) (fun x=>(q x:Int))=Q2 k (fun x=>(q x:Int))+(q k:Int):=rfl
   rw [aH (by simpa using hkc),Zn hkc]
   simp only [aC,dF,eK]
   have ek:zw ((k:Int)+1)=((k+1:Nat):Int):=by rw [w64 (by omega)]; omega
   by_cases ho0:o k=0
   ·rw [aI (by simp [ho0]),ek,ho0,w64 (by omega)]
    refine ⟨_,rfl,⟨k+1,last,hkc,hlast,?_⟩,by simp; omega⟩
    rw [e1,hq k ho0]
    congr 1
    ·simp
    ·congr 2
     refine Qq fun j hj=>?_
     by_cases e:j=k
     ·subst e; simp [ho0,hq]
     ·by_cases e2:j < k
      ·rw [aH e2,aH (by omega)]
      ·rw [aI e2,aI (by omega)]
   ·have hSpos:S≠0:=by
     intro h
     have:=Qew (n:=c) (k:=k+1) (f:=fun x=>(o x:Int)) (fun _ _=>dB _) hkc
     have h2:0<=Q2 k (fun x=>(o x:Int)):=Qaq fun _ _=>dB _
     simp only [Q2] at this
     omega
    have hok:=ho k
    have hm:g*o k<=60*8:=Nat.mul_le_mul hg (by omega)
    have e2:zw (Int.tdiv (zw ((g:Int)*(o k:Int))) (Q2 c (fun x=>(o x:Int))))=(q k:Int):=by
     have e3:(g:Int)*(o k:Int)=((g*o k:Nat):Int):=by simp
     have hd:g*o k / S<=g*o k:=Nat.div_le_self _ _
     have w1:zw ((g*o k:Nat):Int)=((g*o k:Nat):Int):=w64 (by omega)
     rw [e3,w1,hS,Q2g (dB _),show ((g*o k:Nat):Int) / (S:Int)=((g*o k / S:Nat):Int) by simp]
     show zw ((g*o k / S:Nat):Int)=((g*o k / S:Nat):Int)
     obtain ⟨z,hz⟩:∃z,g*o k / S=z:=⟨_,rfl⟩
     rw [hz] at hd ⊢
     exact w64 (by omega)
    rw [aH (by simp; omega),aH (by rw [hS]; omega),e2,ek,aR,Qah,w64 (by omega)]
    refine ⟨_,rfl,⟨k+1,k,hkc,hkc,?_⟩,by simp; omega⟩
    rw [e1]
    congr 1
    ·omega
    ·congr 2
     refine Qq fun j hj=>?_
     by_cases e:j=k
     ·subst e; simp
     ·rw [aI e]
      by_cases e2:j < k
      ·rw [aH e2,aH (by omega)]
      ·rw [aI e2,aI (by omega)]
  ·right
   have:k=c:=by omega
   subst this
   rw [aI (by simp)]
   refine ⟨_,rfl,last,hlast,?_⟩
   congr 2
   exact Qq fun j hj=>aH hj
theorem Q38 {n:Nat} (hn:n<=5) {w:Int} {o:List Int}:J4 ⟨List.replicate n (0:Int),w,o⟩=some (List.replicate n 1):=by
 unfold J4
 refine X5 (Qby (s0:=((0:Int),([]:List Int))) (r:=List.replicate n 1) (fun k=>((k:Int),List.replicate k (1:Int))) n rfl (fun k hk=>?_) ?_ (by omega)) rfl
 ·unfold Kr
  simp only
  rw [aH (by simp; omega),aH (by simp; omega),Q0 (by simpa using hk)]
  simp only [aC,List.getElem_replicate]
  have e:zw (1+zw (Int.tmod 0 4))=1:=by decide
  rw [e,aH (by simp; omega),w64 (by omega),<-List.replicate_succ']
  rfl
 unfold Kr
 simp only
 rw [aI (by simp)]
theorem Qtr {q:List Nat} {k a:Nat} (h:q.Nodup) (hk:∀x∈q,x < k):(q.take a++[k]++q.drop a).Nodup/\∀x∈q.take a++[k]++q.drop a,x < k+1:=by
 have hperm:(q.take a++[k]++q.drop a).Perm (k::q):=by
  have h1:(q.take a++[k]++q.drop a).Perm ([k]++q.take a++q.drop a):=List.Perm.append_right _ List.perm_append_comm
  have h2:[k]++q.take a++q.drop a=k::q:=by simp
  rw [h2] at h1
  exact h1
 refine ⟨?_,fun x hx=>?_⟩
 ·rw [hperm.nodup_iff,List.nodup_cons]
  exact ⟨fun hm=>dF _ (hk k hm),h⟩
 have:=hperm.mem_iff.1 hx
 rcases cF.1 this with e | e
 ·omega
 have:=hk x e; omega
theorem Qxz {n:Nat} (hn:n<=5) {o:List Int} (ho:∀x∈o,0<=x/\x<=255) :
  ∃q:List Nat,q.Nodup/\(∀x∈q,x < n)/\q.length=n/\Yv ⟨List.replicate n (0:Int),0,o⟩=some (q.map fun (x:Nat)=>(x:Int)):=by
 have hw:=Vr (body:=Vg ⟨List.replicate n (0:Int),0,o⟩) (fun s=>∃q:List Nat,q.Nodup/\(∀x∈q,x < q.length)/\q.length<=n/\s=((q.length:Int),q.map fun (x:Nat)=>(x:Int)))
  (fun s=>n - s.1.toNat) (fun r=>∃q:List Nat,q.Nodup/\(∀x∈q,x < n)/\q.length=n/\r=q.map fun (x:Nat)=>(x:Int)) (fun s hs=>?_) ((0:Int),([]:List Int)) ⟨[],List.nodup_nil,fun x hx=>by simp at hx,by simp,rfl⟩ (by simp; omega)
 ·obtain ⟨r,h1,q,h2,h3,h4,rfl⟩:=hw
  refine ⟨q,h2,h3,h4,?_⟩
  unfold Yv
  rw [h1]; rfl
 ·obtain ⟨q,hnd,hx,hl,rfl⟩:=hs
  unfold Vg
  rw [Q38 hn]
  simp only [aC,cH,bZ]
  by_cases hc:q.length < n
  ·left
   rw [aH (by simpa using hc)]
   have ek:zw ((q.length:Int)+1)=((q.length+1:Nat):Int):=by rw [w64 (by omega)]; omega
   have ins:∀a:Nat,a<=q.length->∃s',s'=((((q.take a++[q.length]++q.drop a).length:Nat):Int),(q.take a++[q.length]++q.drop a).map fun (x:Nat)=>(x:Int)) /\
     (∃q:List Nat,q.Nodup/\(∀x∈q,x < q.length)/\q.length<=n/\s'=((q.length:Int),q.map fun (x:Nat)=>(x:Int)))/\n - s'.1.toNat < n - ((q.length:Int)).toNat := fun a ha=>by
    obtain ⟨i1,i2⟩:=Qtr (a:=a) hnd hx
    have hlen:(q.take a++[q.length]++q.drop a).length=q.length+1:=by simp; omega
    exact ⟨_,rfl,⟨_,i1,fun x hx=>by rw [hlen]; exact i2 x hx,by rw [hlen]; omega,rfl⟩,by simp only [hlen]; simp; omega⟩
   have hsub:∀a:Nat,a<=q.length->sub (q.map fun (x:Nat)=>(x:Int)) 0 (a:Int)=(q.take a).map (fun (x:Nat)=>(x:Int))/\sub (q.map fun (x:Nat)=>(x:Int)) (a:Int) (q.length:Int)=(q.drop a).map (fun (x:Nat)=>(x:Int)):=fun a ha=>by
    unfold sub
    refine ⟨by simp,?_⟩
    simp only [aR]
    rw [List.take_of_length_le (by simp),List.map_drop]
   by_cases ho':q.length < o.length
   ·rw [aH (by simpa using ho'),Q0 ho']
    simp only [aC]
    have hv:=ho _ (bL ho')
    obtain ⟨a,ha,hae⟩:∃a:Nat,a<=q.length/\Int.tmod (zw o[q.length]) ((q.length+1:Nat):Int)=(a:Int):=by
     refine ⟨(o[q.length]).toNat % (q.length+1),by have:=cI (o[q.length]).toNat (show 0 < q.length+1 by omega); omega,?_⟩
     rw [w64 (by omega),Qbk hv.1]
     rw [Int.natCast_emod,Int.toNat_of_nonneg hv.1]
    obtain ⟨s',hs',h1,h2⟩:=ins a ha
    refine ⟨s',?_,h1,by simpa using h2⟩
    rw [ek,aH (by omega),hae,aH (by omega),(hsub a ha).1,aH (by simp; omega),aH (by simp; omega),aH (by omega),(hsub a ha).2,aH (by simp; omega),hs']
    simp
    omega
   ·rw [aI (by simpa using ho')]
    obtain ⟨s',hs',h1,h2⟩:=ins 0 (by omega)
    refine ⟨s',?_,h1,by simpa using h2⟩
    have hz:=hsub 0 (by omega)
    rw [ek,aH (by omega),show sub (q.map fun (x:Nat)=>(x:Int)) 0 0=(q.take 0).map (fun (x:Nat)=>(x:Int)) from hz.1,aH (by simp),aH (by simp),aH (by omega),show sub (q.map fun (x:Nat)=>(x:Int)) 0 (q.length:Int)=(q.drop 0).map (fun (x:Nat)=>(x:Int)) from hz.2,aH (by simp; omega),hs']
    simp
  ·right
   rw [aI (by simpa using hc)]
   exact ⟨_,rfl,q,hnd,fun x hm=>by have:=hx x hm; omega,by omega,rfl⟩
theorem Qj0 {x:Int}:0<=zv x:=by simp only [IntKind.wrap,IntKind.bits,IntKind.signed]; simp; omega
theorem Qka {n:Nat} {q:List Nat} (hn:q.Nodup) (hl:∀x∈q,x < n) (hlen:q.length=n):∀v,v < n->v∈q:=fun v hv=>by
 apply Classical.byContradiction
 intro hno
 have h1:(v::q).Nodup:=List.nodup_cons.2 ⟨hno,hn⟩
 have h2:(v::q) ⊆ List.range n:=fun p hp=>by
  rcases cF.1 hp with e | e
  ·subst e; exact cR.2 hv
  exact cR.2 (hl p e)
 have:=Qc9 _ _ h1 h2
 simp at this
 omega
theorem Qen {q:List Nat} {i:Nat} (hi:i < q.length) {v:Nat}:v∈q.take (i+1)↔v∈q.take i\/v=q[i]:=by
 rw [Y7 hi,bV,bW]
theorem Qoc {q:List Nat} (hn:q.Nodup) {i:Nat} (hi:i < q.length):q[i] ∉ q.take i:=fun h=>by
 obtain ⟨k,hk,e⟩:=bC.1 h
 rw [cT] at hk
 rw [List.getElem_take] at e
 have:=List.pairwise_iff_getElem.1 hn k i (by omega) hi (by omega)
 exact this e
theorem Qog:∀{q:List Nat} {p j:Nat},p∈q.take j->q.idxOf p < j
 | [],p,j,h=>by simp at h
 | x::q,p,0,h=>by simp at h
 | x::q,p,j+1,h=>by
  rw [List.idxOf_cons]
  by_cases e:x=p
  ·subst e; simp
  have:p∈q.take j:=by
   rcases cF.1 h with e' | e'
   ·exact absurd e'.symm e
   exact e'
  have:=Qog this
  rw [show (x==p)=false by simpa using e]
  simp; omega
theorem Q0v {q:List Nat} (hn:q.Nodup) {j:Nat} (hj:j < q.length):j<=q.idxOf q[j]:=by
 apply Classical.byContradiction
 intro h
 have hk:q.idxOf q[j] < q.length:=by omega
 have e:q[q.idxOf q[j]]=q[j]:=List.getElem_idxOf hk
 have:=List.pairwise_iff_getElem.1 hn (q.idxOf q[j]) j hk hj (by omega)
 exact this e
def dcnt (p0:Qd):Nat := min (max p0.Nodes.length 1) 5
theorem Qgi {p0:Qd}:(if 5 < (if 1 > (p0.Nodes.length:Int) then 1 else (p0.Nodes.length:Int)) then 5 else (if 1 > (p0.Nodes.length:Int) then 1 else (p0.Nodes.length:Int)))=(dcnt p0:Int):=by
 unfold dcnt
 split <;> split at * <;> omega
theorem Qjm {p0:Qd}:1<=dcnt p0/\dcnt p0<=5:=by unfold dcnt; omega
structure Qyk (p0:Qd):Prop where
 grain:0<=p0.Grain/\p0.Grain<=255
 order:∀x∈p0.Order,0<=x/\x<=255
 card:∀p∈p0.Nodes,0<=p.Card/\p.Card<=255
 W:∀p∈p0.Nodes,∀x∈p.W,0<=x/\x<=255
 Wl:∀p∈p0.Nodes,p.W.length<=9223372036854775807
section
variable {p0:Qd} {q:List Nat}
theorem Qnz {i:Nat} (hi:i < q.length):lkI (q.map fun (x:Nat)=>(x:Int)) (i:Int)=some ((q[i]:Nat):Int):=by rw [Q0 (by simpa using hi)]; simp
theorem Q6c (h:Qyk p0) (hn:q.Nodup) (hl:∀x∈q,x < dcnt p0) (hlen:q.length=dcnt p0) :
  ∃C:Nat -> Nat,(∀v,v < dcnt p0->2<=C v/\C v<=3) /\
   Qb fuel (Y1 p0 (q.map fun (x:Nat)=>(x:Int))) (1,0,List.replicate (dcnt p0) (Sum.inl 0))=some (rowG (dcnt p0) fun v=>Sum.inl (C v:Int)):=by
 have hcn:=Qjm (p0:=p0)
 have hw:=Vr (body:=Y1 p0 (q.map fun (x:Nat)=>(x:Int)))
  (fun s=>∃(w:Int) (i:Nat) (C:Nat -> Nat),i<=dcnt p0/\(∀v,v∈q.take i->2<=C v/\C v<=3)/\s=(w,(i:Int),rowG (dcnt p0) fun v=>Sum.inl (C v:Int)))
  (fun s=>dcnt p0 - s.2.1.toNat)
  (fun r=>∃C:Nat -> Nat,(∀v,v < dcnt p0->2<=C v/\C v<=3)/\r=rowG (dcnt p0) fun v=>Sum.inl (C v:Int))
  (fun s hs=>?_) (1,0,List.replicate (dcnt p0) (Sum.inl 0)) ⟨1,0,fun _=>0,by omega,fun v hv=>by simp at hv,by rw [Qjn]; rfl⟩ (by simp; omega)
 ·obtain ⟨r,h1,C,h2,rfl⟩:=hw
  exact ⟨C,h2,h1⟩
 ·obtain ⟨w,i,C,hi,hC,rfl⟩:=hs
  by_cases hic:i < dcnt p0
  ·left
   have hiq:i < q.length:=by omega
   have hv:=hl _ (bL hiq)
   have ek:zw ((i:Int)+1)=((i+1:Nat):Int):=by rw [w64 (by omega)]; omega
   have leaf:∀(w':Int) (c:Nat),2<=c->c<=3->(∃s',some (Qe.next (w',zw ((i:Int)+1),List.set (rowG (dcnt p0) fun v=>(Sum.inl (C v:Int):Int ⊕ Ad)) (Int.toNat ((q[i]:Nat):Int)) (Sum.inl (c:Int))))=some (Qe.next (ρ:=List (Int ⊕ Ad)) s') /\
     (∃(w:Int) (i:Nat) (C:Nat -> Nat),i<=dcnt p0/\(∀v,v∈q.take i->2<=C v/\C v<=3)/\s'=(w,(i:Int),rowG (dcnt p0) fun v=>Sum.inl (C v:Int)))/\dcnt p0 - s'.2.1.toNat < dcnt p0 - (i:Int).toNat):=fun w' c c1 c2=>by
    rw [ek]
    refine ⟨_,rfl,⟨w',i+1,Qdt C q[i] c,hic,fun v hv=>?_,?_⟩,by simp; omega⟩
    ·rcases (Qen hiq).1 hv with e | e
     ·by_cases e2:v=q[i]
      ·subst e2; rw [Qbh]; exact ⟨c1,c2⟩
      ·rw [Qgm e2]; exact hC v e
     ·subst e; rw [Qbh]; exact ⟨c1,c2⟩
    ·rw [aR,Qah]
     congr 2
     refine Qq fun k hk=>?_
     by_cases e:k=q[i]
     ·rw [aH e,e,Qbh]
     ·rw [aI e,Qgm e]
   have hk:lkL (rowG (dcnt p0) fun v=>(Sum.inl (C v:Int):Int ⊕ Ad)) ((q[i]:Nat):Int)=some (C q[i]:Int):=by unfold lkL; rw [Zn hv]; rfl
   unfold Y1
   simp only [Qgi]
   rw [aH (by simpa using hic)]
   by_cases hin:i < p0.Nodes.length
   ·have hp:=h.card _ (bL hin)
    have ec:zw (2+zw (Int.tmod (p0.Nodes[i]).Card 2))=((2+(p0.Nodes[i]).Card.toNat % 2:Nat):Int):=by
     have w1:zw ((p0.Nodes[i]).Card % 2)=(p0.Nodes[i]).Card % 2:=w64 (by omega)
     rw [Qbk hp.1,w1,w64 (by omega)]; omega
    rw [aH (by simpa using hin),Q0 hin]
    simp only [aC]
    rw [aH Qj0]
    split
    ·rw [Qnz hiq]
     simp only [aC]
     rw [hk]
     exact leaf _ 2 (by omega) (by omega)
    ·rw [Qnz hiq]
     simp only [aC]
     rw [hk]
     simp only [aC]
     rw [ec]
     exact leaf _ _ (by omega) (by omega)
   ·rw [aI (by simpa using hin),aH Qj0]
    split
    ·rw [Qnz hiq]
     simp only [aC]
     rw [hk]
     exact leaf _ 2 (by omega) (by omega)
    ·rw [Qnz hiq]
     simp only [aC]
     rw [hk]
     simp only [aC]
     exact leaf _ 2 (by omega) (by omega)
  ·right
   have:i=dcnt p0:=by omega
   subst this
   unfold Y1
   simp only [Qgi]
   rw [aI (by simp)]
   refine ⟨_,rfl,C,fun v hv=>hC v ?_,rfl⟩
   rw [List.take_of_length_le (by omega)]
   exact Qka hn hl hlen v hv
theorem Q5y (hn:q.Nodup) {L:List (Int ⊕ Ad)} {i u:Nat} {P:List Nat} {pc:Qu} (hi:i < q.length) (hq:q.length<=5) :
  ∃P':List Nat,(P'=P\/(P'=P++[u]/\u∈q.take i/\P.length < 3)) /\
   Qb fuel (Y3 ((i:Int),L) (q.map fun (x:Nat)=>(x:Int)) ((u:Int),P.map fun (x:Nat)=>(x:Int)) pc) (0,P.map fun (x:Nat)=>(x:Int))=some (P'.map fun (x:Nat)=>(x:Int)):=by
 have hw:=Vr (body:=Y3 ((i:Int),L) (q.map fun (x:Nat)=>(x:Int)) ((u:Int),P.map fun (x:Nat)=>(x:Int)) pc)
  (fun s=>∃(k:Nat) (P':List Nat),k<=i/\(P'=P\/(P'=P++[u]/\u∈q.take k/\P.length < 3))/\s=((k:Int),P'.map fun (x:Nat)=>(x:Int)))
  (fun s=>i - s.1.toNat) (fun r=>∃P':List Nat,(P'=P\/(P'=P++[u]/\u∈q.take i/\P.length < 3))/\r=P'.map fun (x:Nat)=>(x:Int))
  (fun s hs=>?_) ((0:Int),P.map fun (x:Nat)=>(x:Int)) ⟨0,P,by omega,.inl rfl,rfl⟩ (by simp; omega)
 ·obtain ⟨r,h1,P',h2,rfl⟩:=hw
  exact ⟨P',h2,h1⟩
 ·obtain ⟨k,P',hk,hP,rfl⟩:=hs
  by_cases hki:k < i
  ·left
   have hkq:k < q.length:=by omega
   have ek:zw ((k:Int)+1)=((k+1:Nat):Int):=by rw [w64 (by omega)]; omega
   have same:∃s',some (Qe.next (zw ((k:Int)+1),P'.map fun (x:Nat)=>(x:Int)))=some (Qe.next (ρ:=List Int) s') /\
     (∃(k:Nat) (P':List Nat),k<=i/\(P'=P\/(P'=P++[u]/\u∈q.take k/\P.length < 3))/\s'=((k:Int),P'.map fun (x:Nat)=>(x:Int)))/\i - s'.1.toNat < i - (k:Int).toNat := by
    rw [ek]
    exact ⟨_,rfl,⟨k+1,P',hki,hP.imp id fun h=>⟨h.1,(Qen hkq).2 (.inl h.2.1),h.2.2⟩,rfl⟩,by simp; omega⟩
   unfold Y3
   simp only
   rw [aH (by simpa using hki),Qnz hkq]
   simp only [aC]
   by_cases hqu:q[k]=u
   ·rw [aH (by simp [hqu]),aH Qj0]
    have hPP:P'=P:=by
     rcases hP with e | ⟨_,e,_⟩
     ·exact e
     exact absurd (hqu ▸ e) (Qoc hn hkq)
    subst hPP
    split
    ·split
     ·rename_i h3
      have h3':P'.length < 3:=by simp at h3; omega
      rw [aH (by simp; omega),ek]
      exact ⟨_,rfl,⟨k+1,P'++[u],hki,.inr ⟨rfl,(Qen hkq).2 (.inr hqu.symm),h3'⟩,by simp⟩,by simp; omega⟩
     ·exact same
    ·exact same
   ·rw [aI (by simpa using (fun e:((q[k]:Nat):Int)=(u:Int)=>hqu (by omega)))]
    exact same
  ·right
   have:k=i:=by omega
   subst this
   unfold Y3
   simp only
   rw [aI (by simp)]
   exact ⟨_,rfl,P',hP,rfl⟩
theorem Q6w (hn:q.Nodup) (hlen:q.length=dcnt p0) {L:List (Int ⊕ Ad)} {i:Nat} {pc:Qu} (hi:i < q.length) :
  ∃P:List Nat,P.Pairwise (· < ·)/\(∀p∈P,p∈q.take i)/\P.length<=3 /\
   Qb fuel (X0 p0 ((i:Int),L) (q.map fun (x:Nat)=>(x:Int)) pc) (0,[])=some (P.map fun (x:Nat)=>(x:Int)):=by
 have hcn:=Qjm (p0:=p0)
 have hw:=Vr (body:=X0 p0 ((i:Int),L) (q.map fun (x:Nat)=>(x:Int)) pc)
  (fun s=>∃(u:Nat) (P:List Nat),u<=dcnt p0/\P.Pairwise (· < ·)/\(∀p∈P,p < u/\p∈q.take i)/\P.length<=3/\s=((u:Int),P.map fun (x:Nat)=>(x:Int)))
  (fun s=>dcnt p0 - s.1.toNat) (fun r=>∃P:List Nat,P.Pairwise (· < ·)/\(∀p∈P,p∈q.take i)/\P.length<=3/\r=P.map fun (x:Nat)=>(x:Int))
  (fun s hs=>?_) ((0:Int),([]:List Int)) ⟨0,[],by omega,List.Pairwise.nil,fun p hp=>by simp at hp,by simp,rfl⟩ (by simp; omega)
 ·obtain ⟨r,h1,P,h2,h3,h4,rfl⟩:=hw
  exact ⟨P,h2,h3,h4,h1⟩
 ·obtain ⟨u,P,hu,h2,h3,h4,rfl⟩:=hs
  unfold X0
  simp only [Qgi]
  by_cases huc:u < dcnt p0
  ·left
   obtain ⟨P',hP',hb⟩:=Q5y hn (L:=L) (u:=u) (P:=P) (pc:=pc) hi (by omega)
   have ek:zw ((u:Int)+1)=((u+1:Nat):Int):=by rw [w64 (by omega)]; omega
   rw [aH (by simpa using huc),hb]
   simp only [aC]
   rw [ek]
   refine ⟨_,rfl,⟨u+1,P',huc,?_,?_,?_,rfl⟩,by simp; omega⟩
   ·rcases hP' with rfl | ⟨rfl,_,_⟩
    ·exact h2
    ·rw [List.pairwise_append]
     exact ⟨h2,List.pairwise_singleton _ _,fun a ha b hb=>by simp at hb; subst hb; exact (h3 a ha).1⟩
   ·rcases hP' with rfl | ⟨rfl,hm,_⟩
    ·exact fun p hp=>⟨by have:=(h3 p hp).1; omega,(h3 p hp).2⟩
    ·intro p hp
     rcases bV.1 hp with e | e
     ·exact ⟨by have:=(h3 p e).1; omega,(h3 p e).2⟩
     ·simp at e; subst e; exact ⟨by omega,hm⟩
   ·rcases hP' with rfl | ⟨rfl,_,hlt⟩
    ·exact h4
    ·simp; omega
  ·right
   rw [aI (by simpa using huc)]
   exact ⟨_,rfl,P,h2,fun p hp=>(h3 p hp).2,h4,rfl⟩
theorem Qrq {n:Nat} {g:Int} {F:Nat -> Ad} {C:Nat -> Nat} (hF:∀v,v < n->(F v).Card=(C v:Int)) (hn:n<=8):Qch ⟨g,rowG n F⟩=some (Qf n C):=by
 unfold Qch
 refine X5 (Qby (s0:=((0:Int),([]:List Int))) (r:=Qf n C) (fun k=>((k:Int),Qf k C)) n rfl (fun k hk=>?_) ?_ (by omega)) rfl
 ·unfold Qc0
  simp only
  rw [aH (by rw [Z9]; simpa using hk),Zn hk]
  simp only [aC]
  rw [hF k hk,show Qf k C++[(C k:Int)]=Qf (k+1) C from Qe9,aH (by rw [Qp]; omega),w64 (by omega)]
  rfl
 unfold Qc0
 simp only
 rw [aI (by rw [Z9]; simp)]
theorem Ql1 {f:Nat -> Nat} {l:List Nat} (hf:∀p∈l,f p<=4) (hl:l.length<=8):Kx (l.map fun p=>(f p:Int))=some (lprod f l:Int):=by
 unfold Kx
 refine X5 (Qby (s0:=((1:Int),(0:Int))) (r:=(lprod f l:Int)) (fun k=>((lprod f (l.take k):Int),(k:Int))) l.length (by simp [lprod]) (fun k hk=>?_) ?_ (by omega)) rfl
 ·have h1:lprod f (l.take k)<=4^8:=bY (Qjv fun p hp=>hf p (bJ hp)) (aV (by omega) (by rw [cT]; omega))
  have h2:=hf _ (bL hk)
  have h3:lprod f (l.take k)*f l[k]<=65536*4:=Nat.mul_le_mul (by omega) h2
  have e:(lprod f (l.take k):Int)*(f l[k]:Int)=((lprod f (l.take (k+1)):Nat):Int):=by rw [Y7 hk,Qg6]; simp
  have e2:lprod f (l.take (k+1))<=65536*4:=by rw [Y7 hk,Qg6]; exact h3
  unfold Qd0
  simp only
  rw [aH (by simpa using hk),Q0 (by simpa using hk)]
  simp only [aC,List.getElem_map]
  rw [e,w64 (by omega),w64 (by omega)]
  rfl
 unfold Qd0
 simp only
 rw [aI (by simp),List.take_of_length_le (bA _)]
theorem Q58 {n v:Nat} {N:Nat -> Int ⊕ Ad} {x:Ad}:List.set (List.map Ag (rowG n N)) (Int.toNat (v:Int)) x=rowG n fun k=>if k=v then x else Ag (N k):=by
 rw [show List.map Ag (rowG n N)=rowG n (fun k=>Ag (N k)) by simp [rowG],aR,Qah]
theorem Qw8 {n v:Nat} {g:Int} {N:Nat -> Int ⊕ Ad} {C:Nat -> Nat} {P:List Nat} {R:List (List Int)} (hN:∀k,k < n->(Ag (N k)).Card=(C k:Int)) (hn:n<=8) (hv:v < n) (hP:∀p∈P,p < n) (hl:P.length<=8) :
  Zh ⟨g,List.set (List.map Ag (rowG n N)) (Int.toNat (v:Int)) ⟨(C v:Int),P.map (fun (x:Nat)=>(x:Int)),R⟩⟩ (v:Int)=some (P.map fun p=>(C p:Int)):=by
 unfold Zh
 rw [Q58,Qrq (C:=C) (fun k hk=>?_) hn]
 ·simp only [aC]
  rw [Zn hv]
  simp only [aC,eM]
  rw [Q2z hP hl]
  rfl
 ·by_cases e:k=v
  ·subst e; rw [aH rfl]
  ·rw [aI e]; exact hN k hk
theorem Q6r {g c v i:Nat} {N:Nat -> Int ⊕ Ad} {C:Nat -> Nat} {P:List Nat} {pc:Qu} (hg:zw (1+(zw (Int.tmod p0.Grain 60)))=(g:Int)) (hg60:g<=60)
  (hC:∀k,k < dcnt p0->2<=C k/\C k<=3) (hN:∀k,k < dcnt p0->(Ag (N k)).Card=(C k:Int)) (hv:v < dcnt p0) (hP:∀p∈P,p < dcnt p0) (hl:P.length<=3)
  (hW:∀x∈pc.W,0<=x/\x<=255) (hWl:pc.W.length<=9223372036854775807) :
  ∃W:Nat -> Nat -> Nat,(∀r,r < lprod C P->Q2 (C v) (fun x=>(W r x:Int))=g) /\
   Qb fuel (Y6 p0 ((i:Int),rowG (dcnt p0) N) (v:Int) (C v:Int) (P.map fun (x:Nat)=>(x:Int)) pc) (0,[])=some (rowG (lprod C P) fun r=>rowG (C v) fun x=>(W r x:Int)):=by
 have hcn:=Qjm (p0:=p0)
 have hcv:=hC v hv
 have hsz:=Ql1 (f:=C) (l:=P) (fun p hp=>by have:=hC p (hP p hp); omega) (by omega)
 have hb:lprod C P<=64:=bY (Qjv fun p hp=>by have:=hC p (hP p hp); omega) (aV (by omega) hl:4^P.length<=4^3)
 have hw:=Vr (body:=Y6 p0 ((i:Int),rowG (dcnt p0) N) (v:Int) (C v:Int) (P.map fun (x:Nat)=>(x:Int)) pc)
  (fun s=>∃(r:Nat) (W:Nat -> Nat -> Nat),r<=lprod C P/\(∀r',r' < r->Q2 (C v) (fun x=>(W r' x:Int))=g)/\s=((r:Int),rowG r fun r=>rowG (C v) fun x=>(W r x:Int)))
  (fun s=>lprod C P - s.1.toNat) (fun o=>∃W:Nat -> Nat -> Nat,(∀r,r < lprod C P->Q2 (C v) (fun x=>(W r x:Int))=g)/\o=rowG (lprod C P) fun r=>rowG (C v) fun x=>(W r x:Int))
  (fun s hs=>?_) ((0:Int),([]:List (List Int))) ⟨0,fun _ _=>0,by omega,fun r hr=>by omega,rfl⟩ (by simp; omega)
 ·obtain ⟨o,h1,W,h2,rfl⟩:=hw
  exact ⟨W,h2,h1⟩
 ·obtain ⟨r,W,hr,hS,rfl⟩:=hs
  unfold Y6
  simp only
  rw [Qw8 hN (by omega) hv hP (by omega)]
  simp only [aC]
  rw [hsz]
  simp only [aC]
  by_cases hrs:r < lprod C P
  ·left
   have hm:r*(C v+1)<=64*4:=Nat.mul_le_mul (by omega) (by omega)
   have ef:zw ((r:Int)*zw ((C v:Int)+1))=((r*(C v+1):Nat):Int):=by
    have w1:zw ((C v:Int)+1)=((C v+1:Nat):Int):=by rw [w64 (by omega)]; omega
    have e3:(r:Int)*((C v+1:Nat):Int)=((r*(C v+1):Nat):Int):=by simp
    rw [w1,e3]
    exact w64 (by omega)
   obtain ⟨f,hf,hfs⟩:=Q1t (g:=g) (c:=C v) (l:=pc.W) (fr:=r*(C v+1)) hg60 (by omega) (by omega) hW hWl (by omega)
   have ek:zw ((r:Int)+1)=((r+1:Nat):Int):=by rw [w64 (by omega)]; omega
   rw [aH (by simpa using hrs),hg,ef,hf]
   simp only [aC]
   rw [aH (by simp [Z9]; omega),ek]
   have e:(rowG r fun r=>rowG (C v) fun x=>(W r x:Int))++[rowG (C v) fun x=>(f x:Int)]=rowG (r+1) fun r'=>rowG (C v) fun x=>((Qdt W r f) r' x:Int):=by
    rw [<-Qe9,Qbh]
    congr 1
    exact Qq fun k hk=>by rw [Qgm (by omega)]
   refine ⟨_,rfl,⟨r+1,Qdt W r f,hrs,fun r' hr'=>?_,by rw [e]⟩,by simp; omega⟩
   by_cases e2:r'=r
   ·subst e2; rw [Qbh]; exact hfs
   ·rw [Qgm e2]; exact hS r' (by omega)
  ·right
   have:r=lprod C P:=by omega
   subst this
   rw [aI (by simp)]
   exact ⟨_,rfl,W,hS,rfl⟩
theorem Q7r {s:Int × List (Int ⊕ Ad)} {x1:List Int}:Qdx p0 s x1=X0 p0 s x1 ⟨0,0,[]⟩:=rfl
theorem Q4j {n:Nat} {F:Nat -> Ad}:alr (rowG n fun v=>(Sum.inr (F v):Int ⊕ Ad))=some (rowG n F):=by
 have:∀l:List Nat,alr (l.map fun v=>(Sum.inr (F v):Int ⊕ Ad))=some (l.map F):=by
  intro l
  induction l with
  | nil=>rfl
  | cons x l ih=>simp only [dG,alr,ih,bM]
 exact this _
def GdF (D:NF) (q:List Nat) (j:Nat) (v:Nat):Prop:=(D.par v).Pairwise (· < ·)/\(∀p∈D.par v,p∈q.take j)/\(D.par v).length<=3/\∀r,r < D.rows v->Q2 (D.card v) (fun x=>(D.W v r x:Int))=D.g
theorem Q4u (h:Qyk p0) (hn:q.Nodup) (hl:∀x∈q,x < dcnt p0) (hlen:q.length=dcnt p0) {g:Nat} (hg:zw (1+(zw (Int.tmod p0.Grain 60)))=(g:Int)) (hg60:g<=60)
  {C:Nat -> Nat} (hC:∀k,k < dcnt p0->2<=C k/\C k<=3) :
  ∃(P:Nat -> List Nat) (W:Nat -> Nat -> Nat -> Nat),(∀j (hj:j < q.length),GdF ⟨dcnt p0,g,C,P,W⟩ q j q[j]) /\
   Qb fuel (Yy p0 (q.map fun (x:Nat)=>(x:Int))) (0,rowG (dcnt p0) fun v=>Sum.inl (C v:Int))=some (rowG (dcnt p0) fun v=>Sum.inr ((NF.mk (dcnt p0) g C P W).node v)):=by
 have hcn:=Qjm (p0:=p0)
 let N:Nat -> (Nat -> List Nat)->(Nat -> Nat -> Nat -> Nat)->Nat -> Int ⊕ Ad:=fun i P W v=>if v∈q.take i then Sum.inr ((NF.mk (dcnt p0) g C P W).node v) else Sum.inl (C v:Int)
 have hNco:∀i P W k,(Ag (N i P W k)).Card=(C k:Int):=fun i P W k=>by
  show (Ag (if k∈q.take i then Sum.inr ((NF.mk (dcnt p0) g C P W).node k) else Sum.inl (C k:Int))).Card=_
  split <;> rfl
 have hw:=Vr (body:=Yy p0 (q.map fun (x:Nat)=>(x:Int)))
  (fun s=>∃(i:Nat) (P:Nat -> List Nat) (W:Nat -> Nat -> Nat -> Nat),i<=dcnt p0/\(∀j (hj:j < q.length),j < i->GdF ⟨dcnt p0,g,C,P,W⟩ q j q[j])/\s=((i:Int),rowG (dcnt p0) (N i P W)))
  (fun s=>dcnt p0 - s.1.toNat)
  (fun o=>∃(P:Nat -> List Nat) (W:Nat -> Nat -> Nat -> Nat),(∀j (hj:j < q.length),GdF ⟨dcnt p0,g,C,P,W⟩ q j q[j])/\o=rowG (dcnt p0) fun v=>Sum.inr ((NF.mk (dcnt p0) g C P W).node v))
  (fun s hs=>?_) ((0:Int),rowG (dcnt p0) fun v=>Sum.inl (C v:Int)) ⟨0,fun _=>[],fun _ _ _=>0,by omega,fun j _ hj=>by omega,by congr 1⟩ (by simp; omega)
 ·obtain ⟨o,h1,P,W,h2,rfl⟩:=hw
  exact ⟨P,W,h2,h1⟩
 ·obtain ⟨i,P,W,hi,hG,rfl⟩:=hs
  by_cases hic:i < dcnt p0
  ·left
   have hiq:i < q.length:=by omega
   have hv:=hl _ (bL hiq)
   have hnot:=Qoc hn hiq
   have ek:zw ((i:Int)+1)=((i+1:Nat):Int):=by rw [w64 (by omega)]; omega
   have hk:lkL (rowG (dcnt p0) (N i P W)) ((q[i]:Nat):Int)=some (C q[i]:Int):=by
    unfold lkL
    rw [Zn hv]
    show Option.bind (some (if q[i]∈q.take i then _ else _)) _=_
    rw [aI hnot]; rfl
   have leaf:∀pc:Qu,(∀x∈pc.W,0<=x/\x<=255)->pc.W.length<=9223372036854775807 ->
     ∃s',((Qb fuel (X0 p0 ((i:Int),rowG (dcnt p0) (N i P W)) (q.map fun (x:Nat)=>(x:Int)) pc) (0,([]:List Int))).bind fun x72 =>
      (Qb fuel (Y6 p0 ((i:Int),rowG (dcnt p0) (N i P W)) ((q[i]:Nat):Int) (C q[i]:Int) x72 pc) (0,([]:List (List Int)))).bind fun x83 =>
      some (Qe.next (ρ:=List (Int ⊕ Ad)) (zw ((i:Int)+1),(List.set (rowG (dcnt p0) (N i P W)) (Int.toNat ((q[i]:Nat):Int)) (Sum.inr (Ad.mk (C q[i]:Int) x72 x83))))))=some (Qe.next s') /\
      (∃(i:Nat) (P:Nat -> List Nat) (W:Nat -> Nat -> Nat -> Nat),i<=dcnt p0/\(∀j (hj:j < q.length),j < i->GdF ⟨dcnt p0,g,C,P,W⟩ q j q[j])/\s'=((i:Int),rowG (dcnt p0) (N i P W)))/\dcnt p0 - s'.1.toNat < dcnt p0 - (i:Int).toNat := fun pc hpW hpl=>by
    obtain ⟨Pv,p1,p2,p3,hb2⟩:=Q6w (p0:=p0) hn hlen (L:=rowG (dcnt p0) (N i P W)) (pc:=pc) hiq
    have hPv:∀p∈Pv,p < dcnt p0:=fun p hp=>hl p (bJ (p2 p hp))
    obtain ⟨Wv,w1,hb3⟩:=Q6r (p0:=p0) (i:=i) (c:=0) (pc:=pc) hg hg60 hC (fun k _=>hNco i P W k) hv hPv p3 hpW hpl
    rw [hb2]
    simp only [aC]
    rw [hb3]
    simp only [aC]
    rw [ek,aR,Qah]
    refine ⟨_,rfl,⟨i+1,Qdt P q[i] Pv,Qdt W q[i] Wv,hic,fun j hj hji=>?_,?_⟩,by simp; omega⟩
    ·by_cases e:j=i
     ·subst e
      unfold GdF NF.rows
      simp only [Qbh]
      exact ⟨p1,p2,p3,w1⟩
     ·have hne:q[j]≠q[i]:=fun e2=>e (by
       rcases bB j i with h' | h'
       ·exact absurd e2 (List.pairwise_iff_getElem.1 hn j i hj hiq h')
       ·omega)
      have:=hG j hj (by omega)
      unfold GdF NF.rows at this ⊢
      simp only [Qgm hne]
      exact this
    ·congr 1
     refine Qq fun k hk=>?_
     by_cases e:k=q[i]
     ·rw [aH e]
      show _=if k∈q.take (i+1) then _ else _
      rw [aH ((Qen hiq).2 (.inr e)),e]
      unfold NF.node NF.rows
      simp only [Qbh]
     ·rw [aI e]
      show (if k∈q.take i then _ else _)=if k∈q.take (i+1) then _ else _
      by_cases hm:k∈q.take i
      ·rw [aH hm,aH ((Qen hiq).2 (.inl hm))]
       unfold NF.node NF.rows
       simp only [Qgm e]
      ·rw [aI hm,aI (fun h'=>((Qen hiq).1 h').elim hm e)]
   unfold Yy
   simp only [Qgi]
   rw [aH (by simpa using hic)]
   by_cases hin:i < p0.Nodes.length
   ·rw [aH (by simpa using hin),Q0 hin]
    simp only [aC]
    rw [Qnz hiq]
    simp only [aC]
    rw [hk]
    simp only [aC]
    exact leaf _ (h.W _ (bL hin)) (h.Wl _ (bL hin))
   ·rw [aI (by simpa using hin),Qnz hiq]
    simp only [aC]
    rw [hk]
    simp only [aC]
    rw [Q7r]
    exact leaf ⟨0,0,[]⟩ (fun x hx=>by simp at hx) (by simp)
  ·right
   have:i=dcnt p0:=by omega
   subst this
   unfold Yy
   simp only [Qgi]
   rw [aI (by simp)]
   refine ⟨_,rfl,P,W,fun j hj=>hG j hj (by omega),?_⟩
   refine Qq fun k hk=>?_
   show (if k∈q.take (dcnt p0) then _ else _)=_
   rw [aH (by rw [List.take_of_length_le (by omega)]; exact Qka hn hl hlen k hk)]
theorem Qz7 (h:Qyk p0):∃D:NF,VX D/\D.n<=5/\(∀v,v < D.n->2<=D.card v/\D.card v<=3)/\Jl p0=some D.net:=by
 have hcn:=Qjm (p0:=p0)
 have hgr:=h.grain
 obtain ⟨q,hn,hl,hlen,hq⟩:=Qxz (n:=dcnt p0) hcn.2 h.order
 obtain ⟨C,hC,h0⟩:=Q6c h hn hl hlen
 have hg:zw (1+(zw (Int.tmod p0.Grain 60)))=((1+p0.Grain.toNat % 60:Nat):Int):=by
  have w1:zw (p0.Grain % 60)=p0.Grain % 60:=w64 (by omega)
  rw [Qbk hgr.1,w1,w64 (by omega)]; omega
 have hg60:1+p0.Grain.toNat % 60<=60:=by omega
 obtain ⟨P,W,hG,h7⟩:=Q4u h hn hl hlen hg hg60 hC
 refine ⟨⟨dcnt p0,1+p0.Grain.toNat % 60,C,P,W⟩,?_,hcn.2,hC,?_⟩
 ·have hall:∀v,v < dcnt p0->∃j,∃hj:j < q.length,q[j]=v:=fun v hv=>bC.1 (Qka hn hl hlen v hv)
  have hsum:∀v r,v < dcnt p0->r < (NF.mk (dcnt p0) (1+p0.Grain.toNat % 60) C P W).rows v->Q2 (C v) (fun x=>(W v r x:Int))=((1+p0.Grain.toNat % 60:Nat):Int):=fun v r hv hr=>by
   obtain ⟨j,hj,rfl⟩:=hall v hv
   exact (hG j hj).2.2.2 r hr
  refine ⟨⟨by show 1<=dcnt p0; omega,by show dcnt p0<=8; omega,by show 1<=1+p0.Grain.toNat % 60; omega,hg60,fun v hv=>by have:=hC v hv; show 1<=C v/\C v<=4; omega,fun v hv p hp=>?_,fun v hv=>?_,fun v r x hv hr hx=>?_,?_⟩,fun v hv=>?_,fun v hv hp=>?_,⟨fun v=>q.idxOf v,fun v hv p hp=>?_⟩,hsum⟩
  ·obtain ⟨j,hj,rfl⟩:=hall v hv
   exact hl p (bJ ((hG j hj).2.1 p hp))
  ·obtain ⟨j,hj,rfl⟩:=hall v hv
   have:=(hG j hj).2.2.1
   omega
  ·have h1:=hsum v r hv hr
   have h2:=Qew (n:=C v) (k:=x+1) (f:=fun x=>(W v r x:Int)) (fun _ _=>dB _) hx
   have h3:0<=Q2 x (fun x=>(W v r x:Int)):=Qaq fun _ _=>dB _
   simp only [Q2] at h2
   show W v r x<=1+p0.Grain.toNat % 60
   omega
  ·have h1:Za (dcnt p0) C<=3^dcnt p0:=Qhs fun v hv=>(hC v hv).2
   have h2:3^dcnt p0<=3^5:=aV (by omega) hcn.2
   show Za (dcnt p0) C<=1024
   omega
  ·obtain ⟨j,hj,rfl⟩:=hall v hv
   exact (hG j hj).1
  ·obtain ⟨j,hj,rfl⟩:=hall v hv
   exact Qoc hn hj ((hG j hj).2.1 _ hp)
  obtain ⟨j,hj,rfl⟩:=hall v hv
  have h1:=Qog ((hG j hj).2.1 p hp)
  have h2:=Q0v hn hj
  show q.idxOf p < q.idxOf q[j]
  omega
 unfold Jl
 simp only [Qgi]
 rw [aH (by omega),aH (by omega),aR,hq]
 simp only [aC]
 rw [h0]
 simp only [aC]
 rw [h7]
 simp only [aC]
 rw [Q4j,hg]
 rfl
end
end Go.Ab
namespace Go.Ab
open Go
theorem Vp {τ ρ σ:Type} {n:Nat} (hn:n < 1152921504606846976) (good:Nat -> Prop) (mkS:Int->τ->σ) {body:σ->Option (Qe σ ρ)} (T:Nat -> τ) (r rb:ρ)
  (step:∀k,k < n->(∀j,j < k->good j)->good k->body (mkS (k:Int) (T k))=some (.next (mkS (zw ((k:Int)+1)) (T (k+1)))))
  (bad:∀k,k < n->(∀j,j < k->good j)->¬ good k->body (mkS (k:Int) (T k))=some (.done rb))
  (done:(∀j,j < n->good j)->body (mkS (n:Int) (T n))=some (.done r)) :
  ((∀j,j < n->good j)/\Qb fuel body (mkS ((0:Nat):Int) (T 0))=some r)\/((¬ ∀j,j < n->good j)/\Qb fuel body (mkS ((0:Nat):Int) (T 0))=some rb):=by
 have h:=Qee (n:=n) (k0:=0) (by omega) hn mkS (body:=body) (fun k t=>t=T k/\∀j,j < k->good j) (fun x=>((∀j,j < n->good j)/\x=r)\/((¬ ∀j,j < n->good j)/\x=rb))
  (fun k t _ hk hI=>by
   obtain ⟨rfl,hI⟩:=hI
   by_cases hg:good k
   ·left
    exact ⟨_,step k hk hI hg,rfl,fun j hj=>by
     by_cases e:j=k
     ·rw [e]; exact hg
     exact hI j (by omega)⟩
   exact .inr ⟨_,bad k hk hI hg,.inr ⟨fun h=>hg (h k hk),rfl⟩⟩)
  (fun t hI=>by
   obtain ⟨rfl,hI⟩:=hI
   exact ⟨_,done hI,.inl ⟨hI,rfl⟩⟩) (T 0) ⟨rfl,fun j hj=>by omega⟩
 obtain ⟨x,h1,h2⟩:=h
 rcases h2 with ⟨a,rfl⟩ | ⟨a,rfl⟩
 ·exact .inl ⟨a,h1⟩
 ·exact .inr ⟨a,h1⟩
structure NB (n:Nat) (F:Nat -> Ad):Prop where
 par:∀v,v < n->(F v).Parents.length<=1000000
 rows:∀v,v < n->(F v).Rows.length<=1000000
 row:∀v,v < n->∀r∈(F v).Rows,r.length<=1000000
def Qaj (x:Ad):Prop:=1<=x.Card/\x.Card<=4
def cardN (F:Nat -> Ad) (v:Nat):Nat := (F v).Card.toNat
theorem Qob {F:Nat -> Ad} {v:Nat} (h:Qaj (F v)):((cardN F v:Nat):Int)=(F v).Card:=by
 unfold cardN; have:=h.1; omega
theorem Qa9 {F:Nat -> Ad} {v:Nat} (h:Qaj (F v)):1<=cardN F v/\cardN F v<=4:=by
 unfold cardN; have:=h.1; have:=h.2; omega
theorem Qxl {n:Nat} {g:Int} {F:Nat -> Ad} (hn:n<=8) :
  ((∀v,v < n->Qaj (F v))/\Qb fuel (Jh ⟨g,rowG n F⟩) ((1:Int),(0:Int),rowG n fun _=>(0:Int))=some (Sum.inr ((Za n (cardN F):Int),Qf n (cardN F)))) \/
  ((¬ ∀v,v < n->Qaj (F v))/\Qb fuel (Jh ⟨g,rowG n F⟩) ((1:Int),(0:Int),rowG n fun _=>(0:Int))=some (Sum.inl ())):=by
 have hlen:(rowG n F).length=n:=Z9
 have h:=Vp (n:=n) (by omega) (fun v=>Qaj (F v)) (fun i (t:Int × List Int)=>(t.1,i,t.2)) (body:=Jh ⟨g,rowG n F⟩)
  (fun k=>((Za k (cardN F):Int),rowG n fun j=>if j < k then (cardN F j:Int) else 0)) (Sum.inr ((Za n (cardN F):Int),Qf n (cardN F))) (Sum.inl ())
  (fun k hk hI hg=>by
   have b1:Za k (cardN F)<=4^k:=Qhs fun j hj=>(Qa9 (hI j hj)).2
   have b2:(4:Nat)^k<=4^8:=aV (by omega) (by omega)
   have b3:Za k (cardN F)*cardN F k<=65536*4:=Nat.mul_le_mul (by omega) (Qa9 hg).2
   have hc:=Qob hg
   have e1:(Za k (cardN F):Int)*(F k).Card=((Za (k+1) (cardN F):Nat):Int):=by rw [<-hc]; simp [Za]
   unfold Jh
   dsimp only
   rw [hlen,aH (dlt hk),Zn hk,aC,aI (by simp; exact hg.1),aI (by simp; exact hg.2),Zn hk,aC,e1,w64 (n:=((Za (k+1) (cardN F):Nat):Int)) (by simp only [Za]; omega),aR,Qah,<-hc]
   congr 4
   refine Qq fun j hj=>?_
   by_cases e:j=k
   ·subst e; simp
   rw [aI e]
   by_cases e2:j < k
   ·rw [aH e2,aH (by omega)]
   rw [aI e2,aI (by omega)])
  (fun k hk hI hg=>by
   unfold Jh
   dsimp only
   rw [hlen,aH (dlt hk),Zn hk,aC]
   by_cases c:(F k).Card < 1
   ·rw [aH (by simpa using c)]
   rw [aI (by simpa using c),aH (by unfold Qaj at hg; simp; omega)])
  (fun hI=>by
   unfold Jh
   dsimp only
   rw [hlen,aI (nlt n)]
   congr 4
   exact Qq fun j hj=>aH hj)
 have e0:(rowG n fun j=>if j < 0 then (cardN F j:Int) else 0)=rowG n fun _=>(0:Int):=Qq fun j _=>aI (by omega)
 simp only [e0] at h
 exact h
def Qaa (n:Nat) (l:List Int):Prop:=∃q:List Nat,l=nI q/\q.Pairwise (· < ·)/\∀p∈q,p < n
def Qhr (l:List Int) (k:Nat):Int:=if k=0 then -1 else (l[k - 1]?).getD 0
def Qg8 (n:Nat) (l:List Int) (k:Nat):Prop:=Qhr l k < (l[k]?).getD 0/\(l[k]?).getD 0 < n
theorem Qqa {l:List Int} {k:Nat}:Qhr l (k+1)=(l[k]?).getD 0:=by simp [Qhr]
theorem Qgb {n:Nat} {l:List Int} {m:Nat} (h:∀j,j < m->Qg8 n l j):∀k,k < m->0<=(l[k]?).getD 0/\∀j,j < k->(l[j]?).getD 0 < (l[k]?).getD 0
 | 0,hk=>⟨by have:=(h 0 hk).1; simp [Qhr] at this ⊢; omega,fun j hj=>by omega⟩
 | k+1,hk=>by
  obtain ⟨h1,h2⟩:=Qgb h k (by omega)
  have h3:=(h (k+1) hk).1
  rw [Qqa] at h3
  refine ⟨by omega,fun j hj=>?_⟩
  by_cases e:j=k
  ·rw [e]; exact h3
  have:=h2 j (by omega); omega
theorem Qrl {n:Nat} {l:List Int} (h:∀j,j < l.length->Qg8 n l j):Qaa n l:=by
 have hm:=Qgb h
 have e:l=nI (l.map Int.toNat):=by
  unfold nI
  rw [List.map_map]
  conv=>lhs; rw [<-List.map_id l]
  refine List.map_congr_left fun x hx=>?_
  obtain ⟨k,hk,rfl⟩:=bC.1 hx
  have:=(hm k hk).1
  rw [aG hk] at this
  simp at this ⊢; omega
 refine ⟨l.map Int.toNat,e,?_,fun p hp=>?_⟩
 ·rw [List.pairwise_map,List.pairwise_iff_getElem]
  intro i j hi hj hij
  have h1:=(hm j hj).2 i hij
  have h2:=(hm i hi).1
  rw [aG hj,aG hi] at h1
  rw [aG hi] at h2
  simp at h1 h2; omega
 obtain ⟨x,hx,rfl⟩:=cG.1 hp
 obtain ⟨k,hk,rfl⟩:=bC.1 hx
 have h1:=(h k hk).2
 have h2:=(hm k hk).1
 rw [aG hk] at h1 h2
 simp at h1 h2; omega
theorem Qmg {n:Nat} {l:List Int} (h:Qaa n l):∀j,j < l.length->Qg8 n l j:=by
 obtain ⟨q,rfl,h1,h2⟩:=h
 intro j hj
 rw [Qao] at hj
 have e:∀k (hk:k < q.length),((nI q)[k]?).getD 0=(q[k]:Int):=fun k hk=>by simp [nI,hk]
 refine ⟨?_,?_⟩
 ·unfold Qhr
  rw [e j hj]
  by_cases c:j=0
  ·rw [aH c]; omega
  rw [aI c,e (j - 1) (by omega)]
  have:=List.pairwise_iff_getElem.1 h1 (j - 1) j (by omega) hj (by omega)
  omega
 rw [e j hj]
 have:=h2 _ (bL hj); omega
def Y0 (F:Nat -> Ad) (v:Nat):List Nat := (F v).Parents.map Int.toNat
theorem Qau {n:Nat} {F:Nat -> Ad} {v:Nat} (h:Qaa n (F v).Parents):(F v).Parents=nI (Y0 F v)/\(Y0 F v).Pairwise (· < ·)/\∀p∈Y0 F v,p < n:=by
 obtain ⟨q,e,h1,h2⟩:=h
 have:Y0 F v=q:=by
  unfold Y0; rw [e]; unfold nI; rw [List.map_map]
  conv=>rhs; rw [<-List.map_id q]
  exact List.map_congr_left fun x _=>by simp
 rw [this]; exact ⟨e,h1,h2⟩
theorem Qef {n:Nat} {q:List Nat} (h1:q.Pairwise (· < ·)) (h2:∀p∈q,p < n):q.length<=n:=by
 have:=Qc9 q (List.range n) (h1.imp fun h=>by omega) fun p hp=>cR.2 (h2 p hp)
 simpa using this
theorem Quj {n v:Nat} {g:Int} {F:Nat -> Ad} {x:Ad} {S:Nat -> Int} {R:List Int} (hn:n<=8) (hv:v < n) (hb:x.Parents.length<=1000000) (h0:S v=0) (w:Int × List Int) (hw1:w.1=(v:Int)) :
  ((Qaa n x.Parents/\(v:Int) ∉ x.Parents)/\Qb fuel (Je x ⟨g,rowG n F⟩ w) ((-1:Int),(0:Int),rowG n S)=some (Sum.inr (rowG n fun j=>if j=v then (bitsOf (x.Parents.map Int.toNat) 0:Int) else S j))) \/
  (¬ (Qaa n x.Parents/\(v:Int) ∉ x.Parents)/\Qb fuel (Je x ⟨g,rowG n F⟩ w) ((-1:Int),(0:Int),rowG n S)=some (Sum.inl ())):=by
 have hlen:(rowG n F).length=n:=Z9
 have h:=Vp (n:=x.Parents.length) (by omega) (fun k=>Qg8 n x.Parents k/\(x.Parents[k]?).getD 0≠(v:Int)) (fun i (t:Int × List Int)=>(t.1,i,t.2)) (body:=Je x ⟨g,rowG n F⟩ w)
  (fun k=>(Qhr x.Parents k,rowG n fun j=>if j=v then (bitsOf ((x.Parents.take k).map Int.toNat) 0:Int) else S j)) (Sum.inr (rowG n fun j=>if j=v then (bitsOf (x.Parents.map Int.toNat) 0:Int) else S j)) (Sum.inl ())
  (fun k hk hI hg=>by
   have hm:=Qgb (m:=k+1) (n:=n) (l:=x.Parents) fun j hj=>by
    by_cases e:j=k
    ·rw [e]; exact hg.1
    exact (hI j (by omega)).1
   have ek:lkI x.Parents (k:Int)=some ((x.Parents[k]?).getD 0):=by rw [Q0 hk,aG hk]; rfl
   have htake:(x.Parents.take (k+1)).map Int.toNat = (x.Parents.take k).map Int.toNat ++ [((x.Parents[k]?).getD 0).toNat]:=by
    rw [Y7 hk,cY,aG hk]; rfl
   have hbl:bitsOf ((x.Parents.take k).map Int.toNat) 0 < 18446744073709551616:=Qbl _ _ (by omega) fun p hp=>by
    obtain ⟨y,hy,rfl⟩:=cG.1 hp
    obtain ⟨j,hj,rfl⟩:=bC.1 hy
    have hj':j < k:=by rw [cT] at hj; omega
    have h1:=(hI j hj').1.2
    have h2:=(hm j (by omega)).1
    rw [aG (by omega)] at h1 h2
    rw [List.getElem_take]
    simp at h1 h2; omega
   obtain ⟨⟨g1,g2⟩,g3⟩:=hg
   have g4:=(hm k (by omega)).1
   generalize hp:(x.Parents[k]?).getD 0=p at *
   obtain ⟨p,rfl⟩:∃m:Nat,p=(m:Int):=⟨p.toNat,by omega⟩
   unfold Je
   dsimp only
   rw [aH (dlt hk),ek,aC,aI (by simp; omega),hlen,aI (by simp; omega),hw1,aI (by simp; omega),Zn hv,aC,aH (Z2 p),aH rfl,Qsw hbl (by omega),aR,Qah,htake,Qqa,hp,Qcm,aR]
   congr 4
   refine Qq fun j _=>?_
   by_cases e:j=v
   ·subst e; simp
   rw [aI e,aI e,aI e])
  (fun k hk hI hg=>by
   have ek:lkI x.Parents (k:Int)=some ((x.Parents[k]?).getD 0):=by rw [Q0 hk,aG hk]; rfl
   unfold Je
   dsimp only
   rw [aH (dlt hk),ek,aC]
   by_cases c1:(x.Parents[k]?).getD 0<=Qhr x.Parents k
   ·rw [aH (by simpa using c1)]
   rw [aI (by simpa using c1),hlen]
   by_cases c2:(x.Parents[k]?).getD 0>=(n:Int)
   ·rw [aH (by simpa using c2)]
   rw [aI (by simpa using c2),hw1,aH (by
    have:(x.Parents[k]?).getD 0=(v:Int):=by
     apply Classical.byContradiction
     intro h
     exact hg ⟨⟨by omega,by omega⟩,h⟩
    simpa using this)])
  (fun hI=>by
   unfold Je
   dsimp only
   rw [aI (nlt _),List.take_of_length_le (bA _)])
 have hiff:(∀j,j < x.Parents.length->Qg8 n x.Parents j/\(x.Parents[j]?).getD 0≠(v:Int))↔Qaa n x.Parents/\(v:Int) ∉ x.Parents:=by
  constructor
  ·intro h
   refine ⟨Qrl fun j hj=>(h j hj).1,fun hm=>?_⟩
   obtain ⟨k,hk,e⟩:=bC.1 hm
   have:=(h k hk).2
   rw [aG hk] at this
   exact this e
  rintro ⟨h1,h2⟩ j hj
  refine ⟨Qmg h1 j hj,fun e=>h2 ?_⟩
  rw [aG hj] at e
  rw [<-show x.Parents[j]=(v:Int) from e]
  exact bL hj
 rw [hiff] at h
 have e0:(rowG n fun j=>if j=v then (bitsOf ((x.Parents.take 0).map Int.toNat) 0:Int) else S j)=rowG n S:=Qq fun j _=>by
  by_cases e:j=v
  ·rw [aH e,e,h0]; rfl
  rw [aI e]
 simp only [e0] at h
 exact h
end Go.Ab
namespace Go.Ab
open Go
def Qht (g c:Int) (r:List Int):Prop:=(r.length:Int)=c/\(∀w∈r,0<=w)/\r.sum=g
def Qhc (g:Int) (C:Nat -> Nat) (x:Ad) (q:List Nat):Prop:=x.Rows.length=lprod C q/\∀r∈x.Rows,Qht g x.Card r
theorem Qed {l:List Int} {k:Nat} (h:k < l.length):(l.take (k+1)).sum=(l.take k).sum+l[k]:=by
 rw [Y7 h,List.sum_append]; simp
theorem Qj8:∀{l:List Int},(∀w∈l,0<=w)->0<=l.sum
 | [],_=>by simp
 | w::l,h=>by
  have h1:=h w (by simp)
  have h2:=Qj8 (l:=l) fun x hx=>h x (cN _ hx)
  rw [List.sum_cons]; omega
theorem Qn1 {l:List Int} {k:Nat} (h:∀w∈l,0<=w):(l.take k).sum<=l.sum/\0<=(l.take k).sum:=by
 have h1:l.sum=(l.take k).sum+(l.drop k).sum:=by rw [<-List.sum_append,List.take_append_drop]
 have h2:=Qj8 (l:=l.drop k) fun w hw=>h w (bN hw)
 have h3:=Qj8 (l:=l.take k) fun w hw=>h w (bJ hw)
 omega
theorem Qt6 {g:Int} {r:List Int} (hg:0<=g) (hg60:g<=60) (hr:r.length<=1000000) :
  (((∀w∈r,0<=w)/\r.sum<=g)/\Qb fuel (Zq r) (g,0)=some (.inr (g - r.sum)))\/(¬ ((∀w∈r,0<=w)/\r.sum<=g)/\Qb fuel (Zq r) (g,0)=some (.inl ())):=by
 have pre:∀k,k<=r.length->(∀j,j < k->0<=(r[j]?).getD 0/\(r[j]?).getD 0<=g - (r.take j).sum)->0<=(r.take k).sum/\(r.take k).sum<=g:=by
  intro k
  induction k with
  | zero=>intro _ _; simp; omega
  | succ k ih =>
   intro hk h
   have h1:=ih (by omega) fun j hj=>h j (by omega)
   have h2:=h k (by omega)
   rw [aG (by omega)] at h2
   rw [Qed (by omega)]
   simp at h2; omega
 have h:=Vp (n:=r.length) (by omega) (fun k=>0<=(r[k]?).getD 0/\(r[k]?).getD 0<=g - (r.take k).sum) (fun i (t:Int)=>(t,i)) (body:=Zq r)
  (fun k=>g - (r.take k).sum) (.inr (g - r.sum)) (.inl ())
  (fun k hk hI hgd=>by
   have hp:=pre k (by omega) hI
   have ek:lkI r (k:Int)=some r[k]:=Q0 hk
   rw [aG hk] at hgd
   simp only [cS] at hgd
   unfold Zq
   dsimp only
   rw [aH (dlt hk),ek,aC,aI (by simp; omega),aI (by simp; omega),w64 (n:=g - (r.take k).sum - r[k]) (by omega),Qed hk]
   congr 3
   omega)
  (fun k hk hI hgd=>by
   have ek:lkI r (k:Int)=some r[k]:=Q0 hk
   rw [aG hk] at hgd
   simp only [cS] at hgd
   unfold Zq
   dsimp only
   rw [aH (dlt hk),ek,aC]
   by_cases c:r[k] < 0
   ·rw [aH (by simpa using c)]
   rw [aI (by simpa using c),aH (by simp; omega)])
  (fun hI=>by
   unfold Zq
   dsimp only
   rw [aI (nlt _),cO])
 have hiff:(∀j,j < r.length->0<=(r[j]?).getD 0/\(r[j]?).getD 0<=g - (r.take j).sum)↔((∀w∈r,0<=w)/\r.sum<=g):=by
  constructor
  ·intro h
   have:=pre r.length (bA _) h
   rw [cO] at this
   refine ⟨fun w hw=>?_,this.2⟩
   obtain ⟨k,hk,rfl⟩:=bC.1 hw
   have:=(h k hk).1
   rw [aG hk] at this
   exact this
  rintro ⟨h1,h2⟩ j hj
  rw [aG hj]
  refine ⟨h1 _ (bL hj),?_⟩
  have h3:=(Qn1 (k:=j+1) h1).1
  rw [Qed hj] at h3
  simp; omega
 rw [hiff] at h
 simp only [List.take_zero,List.sum_nil,Int.sub_zero] at h
 exact h
theorem Qnj {n:Nat} {g:Int} {F:Nat -> Ad} {C:Nat -> Nat} {x:Ad} {q:List Nat} {sets order:List Int} (hg:0<=g) (hg60:g<=60) (hC:∀v,v < n->C v<=4) (hq:∀p∈q,p < n) (hl:q.length<=8) (hx:x.Parents=nI q) (hr:x.Rows.length<=1000000) (hrr:∀r∈x.Rows,r.length<=1000000) :
  (Qhc g C x q/\Y2 ⟨⟨g,rowG n F⟩,Qf n C,sets,order⟩ x=some true)\/(¬ Qhc g C x q/\Y2 ⟨⟨g,rowG n F⟩,Qf n C,sets,order⟩ x=some false):=by
 have bnd:∀k,lprod C (q.take k)<=65536:=fun k=>bY (Qjv fun p hp=>hC p (hq p (bJ hp))) (bY (aV (by omega) (by rw [cT]; omega)) (Nat.le_of_eq (show 4^8=65536 from rfl)))
 have h0:=Zf (n:=q.length) (k0:=0) (by omega) (by omega) (fun i (t:Int)=>(t,i)) (body:=Va x ⟨⟨g,rowG n F⟩,Qf n C,sets,order⟩) (fun k=>(lprod C (q.take k):Int)) (lprod C q:Int)
  (fun k _ hk=>by
   have hp:=hq _ (bL hk)
   have e1:(lprod C (q.take k):Int)*(C q[k]:Int)=((lprod C (q.take (k+1)):Nat):Int):=by rw [Y7 hk,Qg6]; simp
   have:=bnd (k+1)
   unfold Va
   dsimp only
   rw [hx,Qao,aH (dlt hk),Q3a hk,aC,Zk hp,aC,e1,w64 (n:=((lprod C (q.take (k+1)):Nat):Int)) (by omega)])
  (by
   unfold Va
   dsimp only
   rw [hx,Qao,aI (nlt _),cO])
 simp only [List.take_zero,show lprod C []=1 from rfl] at h0
 rw [show (((1:Nat):Int),((0:Nat):Int))=((1:Int),(0:Int)) from rfl] at h0
 unfold Y2
 rw [h0,aC]
 by_cases c:x.Rows.length=lprod C q
 ·rw [aI (by simp; omega)]
  have h:=Vp (n:=x.Rows.length) (by omega) (fun k=>∀r,x.Rows[k]?=some r->Qht g x.Card r) (fun i (t:Unit)=>i) (body:=X3 x ⟨⟨g,rowG n F⟩,Qf n C,sets,order⟩)
   (fun _=>()) (.inr ()) (.inl ())
   (fun k hk hI hgd=>by
    have ek:lkI x.Rows (k:Int)=some x.Rows[k]:=Q0 hk
    obtain ⟨k1,k2,k3⟩:=hgd _ (aG hk)
    unfold X3
    dsimp only
    rw [aH (dlt hk),ek,aC]
    rcases Qt6 (g:=g) (r:=x.Rows[k]) hg hg60 (hrr _ (bL hk)) with ⟨_,e⟩ | ⟨no,_⟩
    ·rw [e,aC]
     dsimp only
     rw [aI (by simp; omega),aI (by simp; omega)]
    exact absurd ⟨k2,by omega⟩ no)
   (fun k hk hI hgd=>by
    have ek:lkI x.Rows (k:Int)=some x.Rows[k]:=Q0 hk
    unfold X3
    dsimp only
    rw [aH (dlt hk),ek,aC]
    rcases Qt6 (g:=g) (r:=x.Rows[k]) hg hg60 (hrr _ (bL hk)) with ⟨hok,e⟩ | ⟨no,e⟩
    ·rw [e,aC]
     dsimp only
     by_cases c2:(x.Rows[k].length:Int)=x.Card
     ·rw [aI (by simp; omega),aH (by
       have:g - x.Rows[k].sum≠0:=fun h0=>hgd fun r hr=>by
        rw [aG hk] at hr; cases hr
        exact ⟨c2,hok.1,by omega⟩
       simpa using this)]
     rw [aH (by simpa using c2)]
    rw [e,aC])
   (fun hI=>by
    unfold X3
    dsimp only
    rw [aI (nlt _)])
  have hiff:(∀j,j < x.Rows.length->∀r,x.Rows[j]?=some r->Qht g x.Card r)↔Qhc g C x q:=by
   constructor
   ·intro h
    refine ⟨c,fun r hr=>?_⟩
    obtain ⟨k,hk,rfl⟩:=bC.1 hr
    exact h k hk _ (aG hk)
   rintro ⟨_,h⟩ j hj r hr
   exact h r (aF hr)
  rw [hiff] at h
  rcases h with ⟨h1,h2⟩ | ⟨h1,h2⟩
  ·exact .inl ⟨h1,by rw [show ((0:Nat):Int)=0 from rfl] at h2; rw [h2]; rfl⟩
  ·exact .inr ⟨h1,by rw [show ((0:Nat):Int)=0 from rfl] at h2; rw [h2]; rfl⟩
 ·rw [aH (by simp; omega)]
  exact .inr ⟨fun h=>c h.1,rfl⟩
def setF (F:Nat -> Ad) (v:Nat):Nat := bitsOf (Y0 F v) 0
def Qp9 (n:Nat) (g:Int) (F:Nat -> Ad) (v:Nat):Prop:=(Qaa n (F v).Parents/\(v:Int) ∉ (F v).Parents)/\Qhc g (cardN F) (F v) (Y0 F v)
theorem Q0a {n:Nat} {g w:Int} {F:Nat -> Ad} (hn:n<=8) (hg:0<=g) (hg60:g<=60) (hb:NB n F) (hC:∀v,v < n->Qaj (F v)) :
  ((∀v,v < n->Qp9 n g F v)/\Qb fuel (Jd ⟨g,rowG n F⟩ (w,Qf n (cardN F))) ((0:Int),rowG n fun _=>(0:Int))=some (Sum.inr (Qf n (setF F)))) \/
  ((¬ ∀v,v < n->Qp9 n g F v)/\Qb fuel (Jd ⟨g,rowG n F⟩ (w,Qf n (cardN F))) ((0:Int),rowG n fun _=>(0:Int))=some (Sum.inl ())):=by
 have hlen:(rowG n F).length=n:=Z9
 have h:=Vp (n:=n) (by omega) (Qp9 n g F) (fun i (t:List Int)=>(i,t)) (body:=Jd ⟨g,rowG n F⟩ (w,Qf n (cardN F)))
  (fun k=>rowG n fun j=>if j < k then (setF F j:Int) else 0) (.inr (Qf n (setF F))) (.inl ())
  (fun v hv hI hgd=>by
   unfold Jd
   dsimp only
   rw [hlen,aH (dlt hv),Zn hv,aC]
   rcases Quj (n:=n) (v:=v) (g:=g) (F:=F) (x:=F v) (S:=fun j=>if j < v then (setF F j:Int) else 0) (R:=[]) hn hv (hb.par v hv) (aI (by omega)) ((v:Int),rowG n fun j=>if j < v then (setF F j:Int) else 0) rfl with ⟨_,e⟩ | ⟨no,_⟩
   ·rw [e,aC]
    dsimp only
    obtain ⟨p1,p2,p3⟩:=Qau hgd.1.1
    rcases Qnj (n:=n) (g:=g) (F:=F) (C:=cardN F) (x:=F v) (q:=Y0 F v) (sets:=rowG n fun j=>if j=v then (bitsOf ((F v).Parents.map Int.toNat) 0:Int) else if j < v then (setF F j:Int) else 0) (order:=[]) hg hg60 (fun u hu=>(Qa9 (hC u hu)).2) p3 (by have:=Qef p2 p3; omega) p1 (hb.rows v hv) (hb.row v hv) with ⟨_,e2⟩ | ⟨no,_⟩
    ·rw [e2,aC,aI (by decide)]
     congr 3
     refine Qq fun j _=>?_
     by_cases c:j=v
     ·subst c; rw [aH rfl,aH (by omega)]; rfl
     rw [aI c]
     by_cases c2:j < v
     ·rw [aH c2,aH (by omega)]
     rw [aI c2,aI (by omega)]
    exact absurd hgd.2 no
   exact absurd hgd.1 no)
  (fun v hv hI hgd=>by
   unfold Jd
   dsimp only
   rw [hlen,aH (dlt hv),Zn hv,aC]
   rcases Quj (n:=n) (v:=v) (g:=g) (F:=F) (x:=F v) (S:=fun j=>if j < v then (setF F j:Int) else 0) (R:=[]) hn hv (hb.par v hv) (aI (by omega)) ((v:Int),rowG n fun j=>if j < v then (setF F j:Int) else 0) rfl with ⟨hp,e⟩ | ⟨no,e⟩
   ·rw [e,aC]
    dsimp only
    obtain ⟨p1,p2,p3⟩:=Qau hp.1
    rcases Qnj (n:=n) (g:=g) (F:=F) (C:=cardN F) (x:=F v) (q:=Y0 F v) (sets:=rowG n fun j=>if j=v then (bitsOf ((F v).Parents.map Int.toNat) 0:Int) else if j < v then (setF F j:Int) else 0) (order:=[]) hg hg60 (fun u hu=>(Qa9 (hC u hu)).2) p3 (by have:=Qef p2 p3; omega) p1 (hb.rows v hv) (hb.row v hv) with ⟨hf,_⟩ | ⟨no,e2⟩
    ·exact absurd ⟨hp,hf⟩ hgd
    rw [e2,aC,aH (by decide)]
   rw [e,aC])
  (fun hI=>by
   unfold Jd
   dsimp only
   rw [hlen,aI (nlt n)]
   congr 3
   exact Qq fun j hj=>aH hj)
 have e0:(rowG n fun j=>if j < 0 then (setF F j:Int) else 0)=rowG n fun _=>(0:Int):=Qq fun j _=>aI (by omega)
 simp only [e0] at h
 exact h
end Go.Ab
namespace Go.Ab
open Go
def Qgx (n:Nat) (q:Nat -> List Nat):Prop:=∃rk:Nat -> Nat,∀v,v < n->∀p∈q v,rk p < rk v
theorem Qzf:∀(l:List Nat),lprod (fun _=>1) l=1:=fun l=>by
 have:∀(l:List Nat) (r:Nat),l.foldl (fun r _=>r*1) r=r:=fun l=>by
  induction l with
  | nil=>intro r; rfl
  | cons a l ih=>intro r; simp only [List.foldl_cons]; rw [ih]; omega
 exact this l 1
theorem Qpi:∀n,Za n (fun _=>1)=1
 | 0=>rfl
 | n+1=>by simp [Za,Qpi n]
theorem Qx0 {n:Nat} {q:Nat -> List Nat} (h1:1<=n) (hn:n<=8) (hq:∀v,v < n->(q v).Pairwise (· < ·)/\(∀p∈q v,p < n)/\v ∉ q v) (hr:Qgx n q):∃o,V0 (Qf n fun v=>bitsOf (q v) 0)=some (o,true):=by
 let D:NF:=⟨n,1,fun _=>1,q,fun _ _ _=>1⟩
 have hrows:∀v,D.rows v=1:=fun v=>Qzf (q v)
 exact Qze (D:=D) ⟨⟨h1,hn,bA _,by show 1<=60; omega,fun v hv=>⟨bA _,by show 1<=4; omega⟩,fun v hv=>(hq v hv).2.1,fun v hv=>bY (Qef (hq v hv).1 (hq v hv).2.1) hn,fun v r x hv hr hx=>bA _,by show Za n (fun _=>1)<=1024; rw [Qpi]; omega⟩,
  fun v hv=>(hq v hv).1,fun v hv=>(hq v hv).2.2,hr,fun v r hv hr=>rfl⟩
theorem Qxo {n:Nat} {q:Nat -> List Nat} (hn:n<=8) (hq:∀v,v < n->∀p∈q v,p < n):∃r,Qb fuel (Xn (Qf n fun v=>bitsOf (q v) 0)) ((0:Int),([]:List Int))=some r/\(r=.inl ()\/∃o,r=.inr o/\Qgx n q):=by
 have hlen:(Qf n fun v=>bitsOf (q v) 0).length=n:=Qp
 refine Vr (body:=Xn (Qf n fun v=>bitsOf (q v) 0)) (fun s=>∃l:List Nat,l.Nodup/\(∀p∈l,p < n)/\(∀i (hi:i < l.length),∀p∈q l[i],p∈l.take i)/\s=((bitsOf l 0:Int),nI l)) (fun s=>n - s.2.length) (fun r=>r=.inl ()\/∃o,r=.inr o/\Qgx n q)
  (fun s hs=>?_) ((0:Int),([]:List Int)) ⟨[],List.nodup_nil,by simp,by simp,rfl⟩ (by show n - 0 < 1152921504606846976; omega)
 obtain ⟨l,hnd,hl,hb,rfl⟩:=hs
 have hll:l.length<=n:=by
  have:=Qc9 l (List.range n) hnd fun p hp=>cR.2 (hl p hp)
  simpa using this
 have hdl:bitsOf l 0 < 18446744073709551616:=Qbl _ _ (by omega) fun p hp=>by have:=hl p hp; omega
 by_cases hc:l.length < n
 ·
  have hsr:=Qee (n:=n) (k0:=0) (by omega) (by omega) (fun i (_:Unit)=>i) (body:=V6 (Qf n fun v=>bitsOf (q v) 0) ((bitsOf l 0:Int),nI l)) (fun _ _=>True)
   (fun r=>r=.inr ()\/∃v,v < n/\v ∉ l/\(∀p∈q v,p∈l)/\r=.inl (((bitsOf (l++[v]) 0:Nat):Int),nI (l++[v])))
   (fun k _ _ hk _=>by
    have hbk:(bitsOf l 0).testBit k=decide (k∈l):=by rw [Yg]; simp
    have hsl:bitsOf (q k) 0 < 18446744073709551616:=Qbl _ _ (by omega) fun p hp=>by have:=hq k hk p hp; omega
    unfold V6
    dsimp only
    rw [hlen,aH (dlt hk),Zk hk,aC,aH (Z2 k),Qf0 hdl (by omega),hbk]
    by_cases hkl:k∈l
    ·left
     rw [aI (by simp [hkl])]
     exact ⟨(),rfl,trivial⟩
    ·rw [aH (by simp [hkl])]
     by_cases hsub:∀p∈q k,p∈l
     ·right
      rw [aH ((Qs1 hsl hdl).2 fun j hj=>by
       rw [Yg] at hj
       rw [Yg]
       simp at hj ⊢
       exact hsub j hj),aH (by rw [aO,Qao]; simp; omega),aH (Z2 k),Qsw hdl (by omega)]
      exact ⟨_,rfl,.inr ⟨k,hk,hkl,hsub,by rw [Qcm]; unfold nI; simp⟩⟩
     ·left
      rw [aI (fun hc'=>hsub fun p hp=>by
       have:=(Qs1 hsl hdl).1 hc' p (by rw [Yg]; simpa using hp)
       rw [Yg] at this
       simpa using this)]
      exact ⟨(),rfl,trivial⟩)
   (fun _ _=>⟨_,by unfold V6; dsimp only; rw [hlen,aI (nlt n)],.inl rfl⟩) () trivial
  obtain ⟨r,e1,e2⟩:=hsr
  rcases e2 with rfl | ⟨v,hv,hvl,hvq,rfl⟩
  ·right
   refine ⟨_,?_,.inl rfl⟩
   unfold Xn
   dsimp only
   rw [Qao,hlen,aH (dlt hc),show (0:Int)=((0:Nat):Int) from rfl,e1]; rfl
  ·left
   refine ⟨(((bitsOf (l++[v]) 0:Nat):Int),nI (l++[v])),?_,⟨l++[v],?_,?_,?_,rfl⟩,by rw [Qao,Qao,aO]; simp; omega⟩
   ·unfold Xn
    dsimp only
    rw [Qao,hlen,aH (dlt hc),show (0:Int)=((0:Nat):Int) from rfl,e1]; rfl
   ·rw [List.nodup_append]
    exact ⟨hnd,by simp,fun a ha b hb=>by simp at hb; subst hb; exact fun e=>hvl (e ▸ ha)⟩
   ·intro p hp
    rcases bV.1 hp with h | h
    ·exact hl p h
    ·simp at h; omega
   ·intro i hi p hp
    rw [aO] at hi
    by_cases c:i < l.length
    ·rw [List.getElem_append_left c] at hp
     rw [List.take_append_of_le_length (by omega)]
     exact hb i c p hp
    ·have:i=l.length:=by simp at hi; omega
     subst this
     rw [List.getElem_append_right (by omega)] at hp
     simp at hp
     rw [List.take_append_of_le_length (by omega),cO]
     exact hvq p hp
 right
 refine ⟨_,?_,.inr ⟨nI l,rfl,fun v=>l.idxOf v,fun v hv p hp=>?_⟩⟩
 ·unfold Xn
  dsimp only
  rw [Qao,hlen,aI (by simp; omega)]
 have hvl:v∈l:=Qka hnd hl (by omega) v hv
 have hi:=List.idxOf_lt_length_of_mem hvl
 have:=hb (l.idxOf v) hi p (by rw [List.getElem_idxOf hi]; exact hp)
 exact Qog this
theorem Qvr {n:Nat} {q:Nat -> List Nat} (h1:1<=n) (hn:n<=8) (hq:∀v,v < n->(q v).Pairwise (· < ·)/\(∀p∈q v,p < n)/\v ∉ q v) :
  (Qgx n q/\∃o,V0 (Qf n fun v=>bitsOf (q v) 0)=some (o,true))\/(¬ Qgx n q/\V0 (Qf n fun v=>bitsOf (q v) 0)=some ([],false)):=by
 by_cases hr:Qgx n q
 ·exact .inl ⟨hr,Qx0 h1 hn hq hr⟩
 ·right
  refine ⟨hr,?_⟩
  obtain ⟨r,e1,e2⟩:=Qxo hn fun v hv=>(hq v hv).2.1
  rcases e2 with rfl | ⟨o,rfl,h⟩
  ·unfold V0
   rw [aH (by rw [Qp]; omega)]
   simp only [Int.toNat_zero,List.replicate_zero]
   rw [e1]; rfl
  ·exact absurd h hr
structure Qq2 (n:Nat) (g:Int) (F:Nat -> Ad):Prop where
 g1:1<=g
 g60:g<=60
 n1:1<=n
 n8:n<=8
 card:∀v,v < n->Qaj (F v)
 worlds:Za n (cardN F)<=1024
 node:∀v,v < n->Qp9 n g F v
 rank:Qgx n (Y0 F)
def Qtd:Q5 × Int:=(⟨⟨0,[]⟩,[],[],[]⟩,50)
theorem Qyw {n:Nat} {g:Int} {F:Nat -> Ad} (hb:NB n F) (hbig:n<=1000000) :
  (Qq2 n g F/\∃o,Vn ⟨g,rowG n F⟩=some (⟨⟨g,rowG n F⟩,Qf n (cardN F),Qf n (setF F),o⟩,0))\/(¬ Qq2 n g F/\Vn ⟨g,rowG n F⟩=some Qtd):=by
 have hlen:(rowG n F).length=n:=Z9
 unfold Vn
 dsimp only
 rw [hlen]
 by_cases c1:g < 1
 ·rw [aH (by simpa using c1)]; exact .inr ⟨fun h=>by have:=h.g1; omega,rfl⟩
 rw [aI (by simpa using c1)]
 by_cases c2:g > 60
 ·rw [aH (by simpa using c2)]; exact .inr ⟨fun h=>by have:=h.g60; omega,rfl⟩
 rw [aI (by simpa using c2)]
 by_cases c3:n < 1
 ·rw [aH (by simp; omega)]; exact .inr ⟨fun h=>by have:=h.n1; omega,rfl⟩
 rw [aI (by simp; omega)]
 by_cases c4:n > 8
 ·rw [aH (by simp; omega)]; exact .inr ⟨fun h=>by have:=h.n8; omega,rfl⟩
 rw [aI (by simp; omega),aH (by omega),aH (by omega),aR,Qjn]
 rcases Qxl (n:=n) (g:=g) (F:=F) (by omega) with ⟨hC,e⟩ | ⟨hC,e⟩
 ·rw [e,aC]
  dsimp only
  by_cases c5:Za n (cardN F) > 1024
  ·rw [aH (by simp; omega)]; exact .inr ⟨fun h=>by have:=h.worlds; omega,rfl⟩
  rw [aI (by simp; omega)]
  rcases Q0a (n:=n) (g:=g) (w:=(Za n (cardN F):Int)) (F:=F) (by omega) (by omega) (by omega) hb hC with ⟨hN,e⟩ | ⟨hN,e⟩
  ·rw [e,aC]
   dsimp only
   rcases Qvr (n:=n) (q:=Y0 F) (by omega) (by omega) (fun v hv=>by
    obtain ⟨p1,p2,p3⟩:=Qau (hN v hv).1.1
    refine ⟨p2,p3,fun h=>(hN v hv).1.2 ?_⟩
    rw [p1]; unfold nI; exact cG.2 ⟨v,h,rfl⟩) with ⟨hR,o,e⟩ | ⟨hR,e⟩
   ·left
    refine ⟨⟨by omega,by omega,by omega,by omega,hC,by omega,hN,hR⟩,o,?_⟩
    rw [show (Qf n (setF F))=(Qf n fun v=>bitsOf (Y0 F v) 0) from rfl,e,aC,aI (by simp)]
   ·right
    refine ⟨fun h=>hR h.rank,?_⟩
    rw [show (Qf n (setF F))=(Qf n fun v=>bitsOf (Y0 F v) 0) from rfl,e,aC,aH (by simp)]; rfl
  ·rw [e,aC]; exact .inr ⟨fun h=>hN h.node,rfl⟩
 ·rw [e,aC]; exact .inr ⟨fun h=>hC h.card,rfl⟩
end Go.Ab
namespace Go.Ab
open Go
theorem Jc {a b:Nat} (ha:a < 18446744073709551616) (hb:b < 18446744073709551616):zv (zb (a:Int) ||| zb (b:Int)).toNat = ((a ||| b:Nat):Int):=by
 rw [BitVec.toNat_or,Vv ha,Vv hb,Yn (dZ (n:=64) ha hb)]
theorem Qho {a v:Nat} (ha:a < 18446744073709551616) (hv:v < 64):Xm (a:Int) (v:Int)=some (a.testBit v):=by
 unfold Xm
 rw [Yn (show v < 18446744073709551616 by omega),aH (Z2 v),Qf0 ha hv]
 cases a.testBit v <;> rfl
def Zi (a b:Nat):Prop:=∀j,a.testBit j=true->b.testBit j=true
theorem Zi.refl {a:Nat}:Zi a a:=fun _ h=>h
theorem Zi.trans {a b c:Nat} (h:Zi a b) (k:Zi b c):Zi a c:=fun j hj=>k j (h j hj)
theorem Qhi {a b:Nat}:Zi a (a ||| b):=fun j h=>by rw [bH,h]; rfl
theorem Qt5 {a b:Nat}:Zi b (a ||| b):=fun j h=>by rw [bH,h]; simp
theorem or_sub {a b c:Nat} (h:Zi a c) (k:Zi b c):Zi (a ||| b) c:=fun j hj=>by
 rw [bH,aM] at hj
 rcases hj with e | e
 ·exact h j e
 exact k j e
theorem sub_anti {a b:Nat} (h:Zi a b) (k:Zi b a):a=b:=dU fun j=>by
 cases ha:a.testBit j with
 | true=>rw [h j ha]
 | false=>cases hb:b.testBit j with
  | true=>rw [k j hb] at ha; cases ha
  | false=>rfl
def upV (S:Nat -> Nat) (s v:Nat):Nat := if s.testBit v then s ||| S v else s
def upR (n:Nat) (S:Nat -> Nat) (s:Nat):Nat := (List.range n).foldl (upV S) s
def ups (n:Nat) (S:Nat -> Nat):Nat -> Nat -> Nat
 | 0,s=>s
 | k+1,s=>upR n S (ups n S k s)
theorem Q0b {S:Nat -> Nat} {s v:Nat}:Zi s (upV S s v):=by
 unfold upV; split
 ·exact Qhi
 exact .refl
theorem Qm2 {S:Nat -> Nat}:∀(l:List Nat) (s:Nat),Zi s (l.foldl (upV S) s)
 | [],s=>.refl
 | v::l,s=>Q0b.trans (Qm2 l _)
theorem Qt0 {S:Nat -> Nat} {v:Nat}:∀(l:List Nat) (s:Nat),v∈l->s.testBit v=true->Zi (S v) (l.foldl (upV S) s)
 | [],s,h,_=>by cases h
 | u::l,s,h,hs=>by
  simp only [List.foldl_cons]
  by_cases e:v=u
  ·subst e
   refine Zi.trans ?_ (Qm2 l _)
   unfold upV; rw [aH hs]; exact Qt5
  exact Qt0 l _ (by simpa [e] using h) (Q0b v hs)
theorem Qiv {S:Nat -> Nat} {T:Nat}:∀(l:List Nat) (s:Nat),(∀v∈l,T.testBit v=true->Zi (S v) T)->Zi s T->Zi (l.foldl (upV S) s) T
 | [],s,_,h=>h
 | v::l,s,hT,h=>by
  simp only [List.foldl_cons]
  refine Qiv l _ (fun u hu=>hT u (cN _ hu)) ?_
  unfold upV; split
  ·rename_i hs; exact or_sub h (hT v (by simp) (h v hs))
  exact h
def Clo (n:Nat) (S:Nat -> Nat) (T:Nat):Prop:=∀v,v < n->T.testBit v=true->Zi (S v) T
theorem Vy {n:Nat} {S:Nat -> Nat} {s:Nat}:∀k,Zi s (ups n S k s)
 | 0=>.refl
 | k+1=>(Vy k).trans (Qm2 _ _)
theorem X2 {n:Nat} {S:Nat -> Nat} {s T:Nat} (hT:Clo n S T) (h:Zi s T):∀k,Zi (ups n S k s) T
 | 0=>h
 | k+1=>Qiv _ _ (fun v hv=>hT v (cR.1 hv)) (X2 hT h k)
theorem Q37 {n:Nat} {S:Nat -> Nat} {s:Nat} (h:upR n S s=s):Clo n S s:=fun v hv hs=>by
 have:=Qt0 (S:=S) (List.range n) s (cR.2 hv) hs
 unfold upR at h
 rwa [h] at this
theorem Qmq {n a b:Nat} (h:Zi a b) (hb:∀j,b.testBit j=true->j < n) (hne:a≠b):cnt n a.testBit < cnt n b.testBit:=by
 have:∃j,b.testBit j=true/\a.testBit j=false:=by
  apply Classical.byContradiction
  intro hno
  exact hne (sub_anti h fun j hj=>by
   cases ha:a.testBit j with
   | true=>rfl
   | false=>exact absurd ⟨j,hj,ha⟩ hno)
 obtain ⟨j,h1,h2⟩:=this
 have e:=Qna (n:=n) (p:=b.testBit) (hb j h1) h1
 have:cnt n a.testBit<=cnt n (fun i=>b.testBit i && !decide (j=i)):=Qkf fun i _ hi=>by
  have:j≠i:=fun e=>by subst e; rw [h2] at hi; cases hi
  simp [h i hi,this]
 omega
theorem Qcx (n:Nat) {S:Nat -> Nat} (hS:∀v,v < n->∀j,(S v).testBit j=true->j < n):Clo n S (2^n - 1):=fun v hv _ j hj=>by
 rw [bD]; simpa using hS v hv j hj
theorem Qar {n:Nat} {S:Nat -> Nat} {s:Nat} (hS:∀v,v < n->∀j,(S v).testBit j=true->j < n) (hs:∀j,s.testBit j=true->j < n):Clo n S (ups n S n s):=by
 have hin:∀k j,(ups n S k s).testBit j=true->j < n:=fun k j hj=>by
  have:=X2 (Qcx n hS) (s:=s) (fun j hj=>by rw [bD]; simpa using hs j hj) k j hj
  rw [bD] at this; simpa using this
 have key:∀k,upR n S (ups n S k s)=ups n S k s\/k+cnt n s.testBit<=cnt n (ups n S k s).testBit:=by
  intro k
  induction k with
  | zero=>right; simp [ups]
  | succ k ih =>
   by_cases hf:upR n S (ups n S k s)=ups n S k s
   ·left; simp only [ups]; rw [hf,hf]
   right
   rcases ih with h | h
   ·exact absurd h hf
   have:=Qmq (n:=n) (Qm2 (S:=S) (List.range n) (ups n S k s)) (hin (k+1)) (fun e=>hf e.symm)
   show k+1+_<=cnt n (upR n S (ups n S k s)).testBit
   unfold upR; omega
 rcases key n with h | h
 ·exact Q37 h
 have h0:=Qpt n (ups n S n s).testBit
 have hz:cnt n s.testBit=0:=by omega
 have:s=0:=dU fun j=>by
  rw [Nat.zero_testBit,bK]
  intro hj
  have:=Q4n (n:=n) (hs j hj) hj; omega
 subst this
 have h1:=X2 (n:=n) (S:=S) (s:=0) (T:=0) (fun v _ hv=>by rw [Nat.zero_testBit] at hv; cases hv) .refl n
 intro v hv hb
 have:=h1 v hb
 rw [Nat.zero_testBit] at this; cases this
theorem Yd {n s:Nat} (h:∀j,s.testBit j=true->j < n):s < 2^n:=by
 apply Nat.lt_pow_two_of_testBit
 intro i hi
 rw [bK]; intro hj
 have:=h i hj; omega
theorem Qov {n:Nat} {S:Nat -> Nat} {s:Nat} (hn:n<=8) (hS:∀v,v < n->∀j,(S v).testBit j=true->j < n) (hs:∀j,s.testBit j=true->j < n):Qb0 (Qf n S) (s:Int)=some ((ups n S n s:Nat):Int):=by
 have hlen:(Qf n S).length=n:=Qp
 have hfull:=Qcx n hS
 have hs0:Zi s (2^n - 1):=fun j hj=>by rw [bD]; simpa using hs j hj
 have p8:(2:Nat)^n<=256:=aV (n:=2) (by omega) hn
 have hlt:∀{t:Nat},Zi t (2^n - 1)->t < 18446744073709551616:=fun h=>by
  have:=Yd (n:=n) fun j hj=>by have:=h j hj; rw [bD] at this; simpa using this
  omega
 have inner:∀t,Zi t (2^n - 1)->Qb fuel (Qal (Qf n S)) ((t:Int),(0:Int))=some ((upR n S t:Nat):Int):=fun t ht=>by
  have h:=Zf (n:=n) (k0:=0) (by omega) (by omega) (fun i (x:Int)=>(x,i)) (body:=Qal (Qf n S)) (fun k=>(((List.range k).foldl (upV S) t:Nat):Int)) ((upR n S t:Nat):Int)
   (fun k _ hk=>by
    have hsub:=Qiv (S:=S) (T:=2^n - 1) (List.range k) t (fun v hv=>hfull v (by have:=cR.1 hv; omega)) ht
    unfold Qal
    dsimp only
    rw [hlen,aH (dlt hk),Qho (hlt hsub) (by omega),aC,List.range_succ,List.foldl_append]
    simp only [List.foldl_cons,List.foldl_nil]
    unfold upV
    by_cases c:((List.range k).foldl (upV S) t).testBit k=true
    ·unfold upV at c
     rw [aH c,Zk hk,aC,aH c]
     have hsub':=hsub
     unfold upV at hsub'
     rw [Jc (hlt hsub') (by
      have:=Yd (hS k hk); omega)]
    unfold upV at c
    rw [aI c,aI c])
   (by unfold Qal; dsimp only; rw [hlen,aI (nlt n)]; rfl)
  rw [show ((0:Nat):Int)=0 from rfl] at h
  exact h
 have h:=Zf (n:=n) (k0:=0) (by omega) (by omega) (fun i (x:Int)=>(x,i)) (body:=Qcg (Qf n S)) (fun k=>((ups n S k s:Nat):Int)) ((ups n S n s:Nat):Int)
  (fun k _ hk=>by
   unfold Qcg
   dsimp only
   rw [hlen,aH (dlt hk),inner _ (X2 hfull hs0 k)]; rfl)
  (by unfold Qcg; dsimp only; rw [hlen,aI (nlt n)])
 rw [show ((0:Nat):Int)=0 from rfl] at h
 unfold Qb0
 rw [show ups n S 0 s=s from rfl] at h
 rw [h]; rfl
theorem Qvz {n:Nat} {q:Nat -> List Nat} (hn:n<=8) (hq:∀v,v < n->∀p∈q v,p < n) :
  (Qgx n q/\Kf (Qf n fun v=>bitsOf (q v) 0)=some true)\/(¬ Qgx n q/\Kf (Qf n fun v=>bitsOf (q v) 0)=some false):=by
 have hlen:(Qf n fun v=>bitsOf (q v) 0).length=n:=Qp
 have hbit:∀v j,(bitsOf (q v) 0).testBit j=true↔j∈q v:=fun v j=>by rw [Yg]; simp
 have hS:∀v,v < n->∀j,(bitsOf (q v) 0).testBit j=true->j < n:=fun v hv j hj=>hq v hv j ((hbit v j).1 hj)
 have p8:(2:Nat)^n<=256:=aV (n:=2) (by omega) hn
 have hin:∀v,v < n->∀j,(ups n (fun v=>bitsOf (q v) 0) n (bitsOf (q v) 0)).testBit j=true->j < n:=fun v hv j hj=>by
  have:=X2 (Qcx n hS) (s:=bitsOf (q v) 0) (fun j hj=>by rw [bD]; simpa using hS v hv j hj) n j hj
  rw [bD] at this; simpa using this
 have h:=Vp (n:=n) (by omega) (fun v=>(ups n (fun v=>bitsOf (q v) 0) n (bitsOf (q v) 0)).testBit v=false) (fun i (t:Unit)=>i) (body:=Vq (Qf n fun v=>bitsOf (q v) 0)) (fun _=>()) (.inr ()) (.inl ())
  (fun v hv hI hg=>by
   unfold Vq
   rw [hlen,aH (dlt hv),Zk hv,aC,Qov hn hS (hS v hv),aC,Qho (by have:=Yd (hin v hv); omega) (by omega),aC,hg,aI (by decide)])
  (fun v hv hI hg=>by
   unfold Vq
   rw [hlen,aH (dlt hv),Zk hv,aC,Qov hn hS (hS v hv),aC,Qho (by have:=Yd (hin v hv); omega) (by omega),aC,aH (by simpa using hg)])
  (fun hI=>by unfold Vq; rw [hlen,aI (nlt n)])
 have hiff:(∀v,v < n->(ups n (fun v=>bitsOf (q v) 0) n (bitsOf (q v) 0)).testBit v=false)↔Qgx n q:=by
  constructor
  ·intro hac
   refine ⟨fun v=>cnt n (ups n (fun v=>bitsOf (q v) 0) n (bitsOf (q v) 0)).testBit,fun v hv p hp=>?_⟩
   have hpn:=hq v hv p hp
   have hcv:=Qar hS (hS v hv)
   have hpv:(ups n (fun v=>bitsOf (q v) 0) n (bitsOf (q v) 0)).testBit p=true:=Vy n p ((hbit v p).2 hp)
   refine Qmq (X2 hcv (hcv p hpn hpv) n) (hin v hv) fun e=>?_
   have:=hac p hpn
   rw [e,hpv] at this; cases this
  rintro ⟨rk,hrk⟩ v hv
  rw [bK]
  intro hb
  have hT:∃T:Nat,∀j,T.testBit j=true↔j < n/\rk j < rk v:=⟨msk n fun j=>decide (rk j < rk v),fun j=>by rw [Q6]; simp⟩
  obtain ⟨T,hT⟩:=hT
  have:=X2 (n:=n) (S:=fun v=>bitsOf (q v) 0) (s:=bitsOf (q v) 0) (T:=T) (fun u hu hb j hj=>by
   have h1:=(hT u).1 hb
   have h2:=(hbit u j).1 hj
   have h3:=hrk u hu j h2
   exact (hT j).2 ⟨hq u hu j h2,by omega⟩) (fun j hj=>by
   have h2:=(hbit v j).1 hj
   exact (hT j).2 ⟨hq v hv j h2,hrk v hv j h2⟩) n v hb
  have:=((hT v).1 this).2
  omega
 rw [hiff] at h
 rw [show ((0:Nat):Int)=0 from rfl] at h
 unfold Kf
 rcases h with ⟨h1,h2⟩ | ⟨h1,h2⟩
 ·exact .inl ⟨h1,by rw [h2]; rfl⟩
 ·exact .inr ⟨h1,by rw [h2]; rfl⟩
end Go.Ab
namespace Go.Ab
open Go
theorem Qpz {n:Nat} {l:List Int} (hl:l.length<=1000000):(Qaa n l/\Ky l (n:Int)=some true)\/(¬ Qaa n l/\Ky l (n:Int)=some false):=by
 have good:∀k,k < l.length->((0<=(l[k]?).getD 0/\(l[k]?).getD 0 < n/\(0 < k->(l[k - 1]?).getD 0 < (l[k]?).getD 0))↔(0<=(l[k]?).getD 0/\Qg8 n l k)):=fun k hk=>by
  unfold Qg8 Qhr
  by_cases c:k=0
  ·rw [aH c]; constructor
   ·rintro ⟨a,b,_⟩; exact ⟨a,by omega,b⟩
   rintro ⟨a,_,b⟩; exact ⟨a,b,fun h=>by omega⟩
  rw [aI c]; constructor
  ·rintro ⟨a,b,d⟩; exact ⟨a,d (by omega),b⟩
  rintro ⟨a,d,b⟩; exact ⟨a,b,fun _=>d⟩
 have h:=Vp (n:=l.length) (by omega) (fun k=>0<=(l[k]?).getD 0/\(l[k]?).getD 0 < n/\(0 < k->(l[k - 1]?).getD 0 < (l[k]?).getD 0)) (fun i (t:Unit)=>i) (body:=Jj l (n:Int)) (fun _=>()) (.inr ()) (.inl ())
  (fun k hk hI hg=>by
   have ek:lkI l (k:Int)=some ((l[k]?).getD 0):=by rw [Q0 hk,aG hk]; rfl
   unfold Jj
   rw [aH (dlt hk),ek,aC,aI (by simp; exact hg.1),aI (by simp; exact hg.2.1)]
   by_cases c:0 < k
   ·have ek2:lkI l (zw ((k:Int) - 1))=some ((l[k - 1]?).getD 0):=by
     rw [w64 (by omega),show ((k:Int) - 1)=((k - 1:Nat):Int) by omega,Q0 (by omega),aG (by omega)]; rfl
    rw [aH (by simp; omega),ek2,aC,aI (by simp; exact hg.2.2 c)]
   rw [aI (by simp; omega)])
  (fun k hk hI hg=>by
   have ek:lkI l (k:Int)=some ((l[k]?).getD 0):=by rw [Q0 hk,aG hk]; rfl
   unfold Jj
   rw [aH (dlt hk),ek,aC]
   by_cases c1:(l[k]?).getD 0 < 0
   ·rw [aH (by simpa using c1)]
   rw [aI (by simpa using c1)]
   by_cases c2:(l[k]?).getD 0>=(n:Int)
   ·rw [aH (by simpa using c2)]
   rw [aI (by simpa using c2)]
   by_cases c:0 < k
   ·have ek2:lkI l (zw ((k:Int) - 1))=some ((l[k - 1]?).getD 0):=by
     rw [w64 (by omega),show ((k:Int) - 1)=((k - 1:Nat):Int) by omega,Q0 (by omega),aG (by omega)]; rfl
    rw [aH (by simp; omega),ek2,aC,aH (by
     have:¬ (l[k - 1]?).getD 0 < (l[k]?).getD 0:=fun h=>hg ⟨by omega,by omega,fun _=>h⟩
     simp; omega)]
   exact absurd ⟨by omega,by omega,fun h=>absurd h c⟩ hg)
  (fun hI=>by unfold Jj; rw [aI (nlt _)])
 have hiff:(∀k,k < l.length->0<=(l[k]?).getD 0/\(l[k]?).getD 0 < n/\(0 < k->(l[k - 1]?).getD 0 < (l[k]?).getD 0))↔Qaa n l:=by
  constructor
  ·intro h; exact Qrl fun k hk=>((good k hk).1 (h k hk)).2
  intro h k hk
  exact (good k hk).2 ⟨(Qgb (Qmg h) k hk).1,Qmg h k hk⟩
 rw [hiff] at h
 rw [show ((0:Nat):Int)=0 from rfl] at h
 unfold Ky
 rcases h with ⟨h1,h2⟩ | ⟨h1,h2⟩
 ·exact .inl ⟨h1,by rw [h2]; rfl⟩
 exact .inr ⟨h1,by rw [h2]; rfl⟩
theorem Q5t {n:Nat} {g:Int} {F:Nat -> Ad} (hn:n<=8) (hb:NB n F) :
  ((∀v,v < n->Qaj (F v)/\Qaa n (F v).Parents)/\Qb fuel (Yj ⟨g,rowG n F⟩) ((1:Int),(0:Int))=some (Sum.inr (Za n (cardN F):Int))) \/
  ((¬ ∀v,v < n->Qaj (F v)/\Qaa n (F v).Parents)/\Qb fuel (Yj ⟨g,rowG n F⟩) ((1:Int),(0:Int))=some (Sum.inl ())):=by
 have hlen:(rowG n F).length=n:=Z9
 have h:=Vp (n:=n) (by omega) (fun v=>Qaj (F v)/\Qaa n (F v).Parents) (fun i (t:Int)=>(t,i)) (body:=Yj ⟨g,rowG n F⟩)
  (fun k=>(Za k (cardN F):Int)) (Sum.inr (Za n (cardN F):Int)) (Sum.inl ())
  (fun k hk hI hg=>by
   have b1:Za k (cardN F)<=4^k:=Qhs fun j hj=>(Qa9 (hI j hj).1).2
   have b2:(4:Nat)^k<=4^8:=aV (by omega) (by omega)
   have b3:Za k (cardN F)*cardN F k<=65536*4:=Nat.mul_le_mul (by omega) (Qa9 hg.1).2
   have hc:=Qob hg.1
   have e1:(Za k (cardN F):Int)*(F k).Card=((Za (k+1) (cardN F):Nat):Int):=by rw [<-hc]; simp [Za]
   unfold Yj
   dsimp only
   rw [hlen,aH (dlt hk),Zn hk,aC,aI (by simp; exact hg.1.1),aI (by simp; exact hg.1.2)]
   rcases Qpz (n:=n) (hb.par k hk) with ⟨_,e⟩ | ⟨no,_⟩
   ·rw [e,aC,aI (by decide),e1,w64 (n:=((Za (k+1) (cardN F):Nat):Int)) (by simp only [Za]; omega)]
   exact absurd hg.2 no)
  (fun k hk hI hg=>by
   unfold Yj
   dsimp only
   rw [hlen,aH (dlt hk),Zn hk,aC]
   by_cases c:(F k).Card < 1
   ·rw [aH (by simpa using c)]
   rw [aI (by simpa using c)]
   by_cases c2:(F k).Card > 4
   ·rw [aH (by simpa using c2)]
   rw [aI (by simpa using c2)]
   rcases Qpz (n:=n) (hb.par k hk) with ⟨hp,_⟩ | ⟨_,e⟩
   ·exact absurd ⟨⟨by omega,by omega⟩,hp⟩ hg
   rw [e,aC,aH (by decide)])
  (fun hI=>by
   unfold Yj
   dsimp only
   rw [hlen,aI (nlt n)])
 exact h
theorem Qtm {n:Nat} {g:Int} {F:Nat -> Ad} (hn:n<=8) (hP:∀v,v < n->Qaa n (F v).Parents):Vu ⟨g,rowG n F⟩=some (Qf n (setF F)):=by
 have hlen:(rowG n F).length=n:=Z9
 have h:=Zf (n:=n) (k0:=0) (by omega) (by omega) (fun i (t:List Int)=>(i,t)) (body:=V5 ⟨g,rowG n F⟩) (fun k=>Qf k (setF F)) (Qf n (setF F))
  (fun v _ hv=>by
   obtain ⟨p1,p2,p3⟩:=Qau (hP v hv)
   have hl:=Qef p2 p3
   have hi:=Zf (n:=(Y0 F v).length) (k0:=0) (by omega) (by omega) (fun i (t:Int)=>(t,i)) (body:=V4 ⟨g,rowG n F⟩ ((v:Int),Qf v (setF F))) (fun k=>(bitsOf ((Y0 F v).take k) 0:Int)) ((setF F v:Nat):Int)
    (fun k _ hk=>by
     have hp:=p3 _ (bL hk)
     have hbl:bitsOf ((Y0 F v).take k) 0 < 18446744073709551616:=Qbl _ _ (by omega) fun p hp=>by have:=p3 p (bJ hp); omega
     unfold V4
     dsimp only
     rw [Zn hv,aC,p1,Qao,aH (dlt hk),Q3a hk,aC,Yn (n:=(Y0 F v)[k]) (by omega),aH (Z2 _),Qsw hbl (by omega),Y7 hk,Qcm])
    (by
     unfold V4
     dsimp only
     rw [Zn hv,aC,p1,Qao,aI (nlt _),cO]; rfl)
   rw [show ((0:Nat):Int)=0 from rfl,List.take_zero] at hi
   rw [show ((bitsOf [] 0:Nat):Int)=0 from rfl] at hi
   unfold V5
   dsimp only
   rw [hlen,aH (dlt hv),hi,aC,aH (by rw [aO,Qp]; simp; omega)]
   congr 3
   exact Qe9 (F:=fun j=>((setF F j:Nat):Int)))
  (by
   unfold V5
   dsimp only
   rw [hlen,aI (nlt n)])
 rw [show ((0:Nat):Int)=0 from rfl] at h
 rw [show Qf 0 (setF F)=[] from rfl] at h
 unfold Vu
 rw [h]; rfl
theorem Q4d {n:Nat} {g:Int} {F:Nat -> Ad} {r:List Int} (hg:0<=g) (hg60:g<=60) (hr:r.length<=4) :
  ((∀w∈r,0<=w/\w<=g)/\Qb fuel (Yh r ⟨g,rowG n F⟩) (0,0)=some (.inr r.sum))\/(¬ (∀w∈r,0<=w/\w<=g)/\Qb fuel (Yh r ⟨g,rowG n F⟩) (0,0)=some (.inl ())):=by
 have pre:∀k,k<=r.length->(∀j,j < k->0<=(r[j]?).getD 0/\(r[j]?).getD 0<=g)->0<=(r.take k).sum/\(r.take k).sum<=60*k:=by
  intro k
  induction k with
  | zero=>intro _ _; simp
  | succ k ih =>
   intro hk h
   have h1:=ih (by omega) fun j hj=>h j (by omega)
   have h2:=h k (by omega)
   rw [aG (by omega)] at h2
   rw [Qed (by omega)]
   simp at h2; omega
 have h:=Vp (n:=r.length) (by omega) (fun k=>0<=(r[k]?).getD 0/\(r[k]?).getD 0<=g) (fun i (t:Int)=>(t,i)) (body:=Yh r ⟨g,rowG n F⟩)
  (fun k=>(r.take k).sum) (.inr r.sum) (.inl ())
  (fun k hk hI hgd=>by
   have hp:=pre k (by omega) hI
   have ek:lkI r (k:Int)=some r[k]:=Q0 hk
   rw [aG hk] at hgd
   simp only [cS] at hgd
   unfold Yh
   dsimp only
   rw [aH (dlt hk),ek,aC,aI (by simp; omega),aI (by simp; omega),w64 (n:=(r.take k).sum+r[k]) (by omega),Qed hk])
  (fun k hk hI hgd=>by
   have ek:lkI r (k:Int)=some r[k]:=Q0 hk
   rw [aG hk] at hgd
   simp only [cS] at hgd
   unfold Yh
   dsimp only
   rw [aH (dlt hk),ek,aC]
   by_cases c:r[k] < 0
   ·rw [aH (by simpa using c)]
   rw [aI (by simpa using c),aH (by simp; omega)])
  (fun hI=>by
   unfold Yh
   dsimp only
   rw [aI (nlt _),cO])
 have hiff:(∀j,j < r.length->0<=(r[j]?).getD 0/\(r[j]?).getD 0<=g)↔(∀w∈r,0<=w/\w<=g):=by
  constructor
  ·intro h w hw
   obtain ⟨k,hk,rfl⟩:=bC.1 hw
   have:=h k hk
   rw [aG hk] at this
   exact this
  intro h j hj
  rw [aG hj]
  exact h _ (bL hj)
 rw [hiff] at h
 simp only [List.take_zero,List.sum_nil] at h
 exact h
theorem Qwt {g c:Int} {r:List Int}:Qht g c r↔(r.length:Int)=c/\(∀w∈r,0<=w/\w<=g)/\r.sum=g:=by
 unfold Qht
 constructor
 ·rintro ⟨a,b,d⟩
  refine ⟨a,fun w hw=>⟨b w hw,?_⟩,d⟩
  obtain ⟨k,hk,rfl⟩:=bC.1 hw
  have h1:=(Qn1 (k:=k+1) b).1
  have h2:=(Qn1 (k:=k) b).2
  rw [Qed hk] at h1; omega
 rintro ⟨a,b,d⟩; exact ⟨a,fun w hw=>(b w hw).1,d⟩
theorem Q2i {n:Nat} {g:Int} {F:Nat -> Ad} (hn:n<=8) (hg:0<=g) (hg60:g<=60) (hb:NB n F) (hC:∀v,v < n->Qaj (F v)) (hP:∀v,v < n->Qaa n (F v).Parents) :
  ((∀v,v < n->Qhc g (cardN F) (F v) (Y0 F v))/\Qb fuel (Yi ⟨g,rowG n F⟩) 0=some (.inr ()))\/((¬ ∀v,v < n->Qhc g (cardN F) (F v) (Y0 F v))/\Qb fuel (Yi ⟨g,rowG n F⟩) 0=some (.inl ())):=by
 have hlen:(rowG n F).length=n:=Z9
 have hpc:∀v,v < n->Zh ⟨g,rowG n F⟩ (v:Int)=some ((Y0 F v).map fun p=>(cardN F p:Int)):=fun v hv=>by
  obtain ⟨p1,p2,p3⟩:=Qau (hP v hv)
  unfold Zh
  rw [Qrq (C:=cardN F) (fun v hv=>(Qob (hC v hv)).symm) hn,aC,Zn hv,aC,p1,show nI (Y0 F v)=(Y0 F v).map fun (p:Nat)=>(p:Int) from rfl,Q2z p3 (by have:=Qef p2 p3; omega)]
  rfl
 have hrow:∀v (hv:v < n) k (hk:k < (F v).Rows.length),Yk (F v) ⟨g,rowG n F⟩ (k:Int)=some (if (((F v).Rows[k].length:Int)=(F v).Card/\(∀w∈(F v).Rows[k],0<=w/\w<=g)/\(F v).Rows[k].sum=g) then .next (zw ((k:Int)+1)) else .done (.inl ())):=fun v hv k hk=>by
  have ek:lkI (F v).Rows (k:Int)=some (F v).Rows[k]:=Q0 hk
  unfold Yk
  rw [aH (dlt hk),ek,aC]
  by_cases c:((F v).Rows[k].length:Int)=(F v).Card
  ·rw [aI (by simp; omega)]
   have hc:=(hC v hv).2
   rcases Q4d (n:=n) (g:=g) (F:=F) (r:=(F v).Rows[k]) hg hg60 (by omega) with ⟨h,e⟩ | ⟨h,e⟩
   ·rw [e,aC]
    dsimp only
    by_cases c2:(F v).Rows[k].sum=g
    ·rw [aI (by simp; exact c2),aH ⟨c,h,c2⟩]
    rw [aH (by simpa using c2),aI fun hh=>c2 hh.2.2]
   rw [e,aC,aI fun hh=>h hh.2.1]
  rw [aH (by simpa using c),aI fun hh=>c hh.1]
 have hrows:∀v (hv:v < n),((∀k,k < (F v).Rows.length->∀r,(F v).Rows[k]?=some r->Qht g (F v).Card r)/\Qb fuel (Yk (F v) ⟨g,rowG n F⟩) 0=some (.inr ()))\/((¬ ∀k,k < (F v).Rows.length->∀r,(F v).Rows[k]?=some r->Qht g (F v).Card r)/\Qb fuel (Yk (F v) ⟨g,rowG n F⟩) 0=some (.inl ())):=fun v hv=>by
  have h:=Vp (n:=(F v).Rows.length) (by have:=hb.rows v hv; omega) (fun k=>∀r,(F v).Rows[k]?=some r->Qht g (F v).Card r) (fun i (t:Unit)=>i) (body:=Yk (F v) ⟨g,rowG n F⟩) (fun _=>()) (.inr ()) (.inl ())
   (fun k hk hI hgd=>by
    rw [hrow v hv k hk,aH (Qwt.1 (hgd _ (aG hk)))])
   (fun k hk hI hgd=>by
    rw [hrow v hv k hk,aI fun hh=>hgd fun r hr=>by
     rw [aG hk] at hr; cases hr
     exact Qwt.2 hh])
   (fun hI=>by unfold Yk; rw [aI (nlt _)])
  exact h
 have h:=Vp (n:=n) (by omega) (fun v=>Qhc g (cardN F) (F v) (Y0 F v)) (fun i (t:Unit)=>i) (body:=Yi ⟨g,rowG n F⟩) (fun _=>()) (.inr ()) (.inl ())
  (fun v hv hI hgd=>by
   obtain ⟨p1,p2,p3⟩:=Qau (hP v hv)
   unfold Yi
   dsimp only
   rw [hlen,aH (dlt hv),Zn hv,aC,hpc v hv,aC,Ql1 (fun p hp=>(Qa9 (hC p (p3 p hp))).2) (by have:=Qef p2 p3; omega),aC,aI (by have:=hgd.1; simp; omega)]
   rcases hrows v hv with ⟨_,e⟩ | ⟨no,_⟩
   ·rw [e,aC]
   exact absurd (fun k hk r hr=>hgd.2 r (aF hr)) no)
  (fun v hv hI hgd=>by
   obtain ⟨p1,p2,p3⟩:=Qau (hP v hv)
   unfold Yi
   dsimp only
   rw [hlen,aH (dlt hv),Zn hv,aC,hpc v hv,aC,Ql1 (fun p hp=>(Qa9 (hC p (p3 p hp))).2) (by have:=Qef p2 p3; omega),aC]
   by_cases c:(F v).Rows.length=lprod (cardN F) (Y0 F v)
   ·rw [aI (by simp; omega)]
    rcases hrows v hv with ⟨h,_⟩ | ⟨_,e⟩
    ·exact absurd ⟨c,fun r hr=>by
      obtain ⟨k,hk,rfl⟩:=bC.1 hr
      exact h k hk _ (aG hk)⟩ hgd
    rw [e,aC]
   rw [aH (by simp; omega)])
  (fun hI=>by unfold Yi; dsimp only; rw [hlen,aI (nlt n)])
 exact h
theorem Qpn {n:Nat} {g:Int} {F:Nat -> Ad} (hb:NB n F):(Qq2 n g F/\Jf ⟨g,rowG n F⟩=some true)\/(¬ Qq2 n g F/\Jf ⟨g,rowG n F⟩=some false):=by
 have hlen:(rowG n F).length=n:=Z9
 unfold Jf
 dsimp only
 rw [hlen]
 by_cases c1:g < 1
 ·rw [aH (by simpa using c1)]; exact .inr ⟨fun h=>by have:=h.g1; omega,rfl⟩
 rw [aI (by simpa using c1)]
 by_cases c2:g > 60
 ·rw [aH (by simpa using c2)]; exact .inr ⟨fun h=>by have:=h.g60; omega,rfl⟩
 rw [aI (by simpa using c2)]
 by_cases c3:n < 1
 ·rw [aH (by simp; omega)]; exact .inr ⟨fun h=>by have:=h.n1; omega,rfl⟩
 rw [aI (by simp; omega)]
 by_cases c4:n > 8
 ·rw [aH (by simp; omega)]; exact .inr ⟨fun h=>by have:=h.n8; omega,rfl⟩
 rw [aI (by simp; omega)]
 rcases Q5t (n:=n) (g:=g) (by omega) hb with ⟨hC,e⟩ | ⟨hC,e⟩
 rotate_left
 ·rw [e,aC]; exact .inr ⟨fun h=>hC fun v hv=>⟨h.card v hv,(h.node v hv).1.1⟩,rfl⟩
 rw [e,aC]
 dsimp only
 by_cases c5:Za n (cardN F) > 1024
 ·rw [aH (by simp; omega)]; exact .inr ⟨fun h=>by have:=h.worlds; omega,rfl⟩
 rw [aI (by simp; omega),Qtm (by omega) fun v hv=>(hC v hv).2,aC]
 rw [show (Qf n (setF F))=(Qf n fun v=>bitsOf (Y0 F v) 0) from rfl]
 rcases Qvz (n:=n) (q:=Y0 F) (by omega) (fun v hv=>(Qau (hC v hv).2).2.2) with ⟨hR,e⟩ | ⟨hR,e⟩
 ·rw [e,aC,aI (by decide)]
  rcases Q2i (n:=n) (g:=g) (F:=F) (by omega) (by omega) (by omega) hb (fun v hv=>(hC v hv).1) (fun v hv=>(hC v hv).2) with ⟨hN,e⟩ | ⟨hN,e⟩
  ·left
   refine ⟨⟨by omega,by omega,by omega,by omega,fun v hv=>(hC v hv).1,by omega,fun v hv=>⟨⟨(hC v hv).2,fun hm=>?_⟩,hN v hv⟩,hR⟩,by rw [e]; rfl⟩
   obtain ⟨p1,_,_⟩:=Qau (hC v hv).2
   obtain ⟨rk,hrk⟩:=hR
   rw [p1] at hm
   unfold nI at hm
   obtain ⟨p,hp,e⟩:=cG.1 hm
   have:p=v:=by omega
   subst this
   have:=hrk p hv p hp; omega
  right
  exact ⟨fun h=>hN fun v hv=>(h.node v hv).2,by rw [e]; rfl⟩
 rw [e,aC,aH (by decide)]
 exact .inr ⟨fun h=>hR h.rank,rfl⟩
end Go.Ab
namespace Go.Ab
open Go
structure Qac (m:Nat) (x:Ad):Prop where
 par:x.Parents.length<=m
 rows:x.Rows.length<=m
 row:∀r∈x.Rows,r.length<=m
theorem Qml {m:Nat} {x:Ad} (hm:m<=1000000) (h:Qac m x):Qb fuel (Xu x) (0,([]:List (List Int)))=some x.Rows:=by
 have h1:=h.rows
 have hr:=Zf (n:=x.Rows.length) (k0:=0) (by omega) (by omega) (fun i (t:List (List Int))=>(i,t)) (body:=Xu x) (fun k=>x.Rows.take k) x.Rows
  (fun k _ hk=>by
   have h2:=h.row _ (bL hk)
   unfold Xu
   dsimp only
   rw [aH (dlt hk),Q0 hk,aC,aH (by omega),aH (by rw [aO,cT]; simp; omega),Y7 hk])
  (by unfold Xu; dsimp only; rw [aI (nlt _),cO])
 exact hr
theorem Q39 {x:Ad}:Qfd x=Xu x:=rfl
theorem Q4m {x:Ad}:Qe8 x=Xu x:=rfl
theorem Qxf {m:Nat} {g:Int} {l:List Ad} {t:Nat} (hm:m<=1000000) (hl:l.length<=8) (h:∀x∈l,Qac m x) (ht:t < l.length) :
  Qb fuel (Qa7 (fun s=>decide (s.1=(t:Int))) (Yo ⟨g,l⟩)) (0,([]:List Ad))=some (.inl ((t:Int),l.take t)):=by
 have step:∀k,k < t->Yo ⟨g,l⟩ ((k:Int),l.take k)=some (.next (((k+1:Nat):Int),l.take (k+1))):=fun k hk=>by
  have hkl:k < l.length:=by omega
  have hx:=h _ (bL hkl)
  have h3:=hx.par
  unfold Yo
  dsimp only
  rw [aH (dlt hkl),Q0 hkl,aC,aH (by omega),Qml hm hx,aC,aH (by rw [aO,cT]; simp; omega),Y7 hkl,Quz (by omega)]
 have key:∀(j N k:Nat),k+j=t->j < N->Qb N (Qa7 (fun s=>decide (s.1=(t:Int))) (Yo ⟨g,l⟩)) ((k:Int),l.take k)=some (.inl ((t:Int),l.take t)):=by
  intro j
  induction j with
  | zero =>
   intro N k e hN
   obtain ⟨N,rfl⟩:∃M,N=M+1:=⟨N - 1,by omega⟩
   have:k=t:=by omega
   subst this
   simp only [Qb,Qa7,decide_true,eM]
  | succ j ih =>
   intro N k e hN
   obtain ⟨N,rfl⟩:∃M,N=M+1:=⟨N - 1,by omega⟩
   have hne:¬ ((k:Int)=(t:Int)):=by omega
   have hs:Qa7 (fun s=>decide (s.1=(t:Int))) (Yo ⟨g,l⟩) ((k:Int),l.take k)=some (.next (((k+1:Nat):Int),l.take (k+1))):=by
    unfold Qa7
    rw [aI (by simpa using hne),step k (by omega)]; rfl
   rw [Qb,hs]
   exact ih N (k+1) (by omega) (by omega)
 exact key t fuel 0 (by omega) (by show t < 1152921504606846976; omega)
theorem Qy1 {m:Nat} {g:Int} {l:List Ad} {t:Nat} (hm:m<=1000000) (hl:l.length<=8) (h:∀x∈l,Qac m x) (ht:t < l.length) :
  Qb fuel (V3 ⟨g,l⟩ ((t:Int),l.take t)) (zw ((t:Int)+1),(l.take t++[(default:Ad)]))=some (l.take t++[(default:Ad)]++l.drop (t+1)):=by
 have hr:=Zf (n:=l.length) (k0:=t+1) (by omega) (by omega) (fun i (s:List Ad)=>(i,s)) (body:=V3 ⟨g,l⟩ ((t:Int),l.take t)) (fun k=>l.take t++[(default:Ad)]++(l.drop (t+1)).take (k - (t+1))) (l.take t++[(default:Ad)]++l.drop (t+1))
  (fun k hk0 hk=>by
   have hx:=h _ (bL hk)
   have h3:=hx.par
   have htl:(l.take t).length=t:=by rw [cT]; omega
   have hi:t < (l.take t++[(default:Ad)]++(l.drop (t+1)).take (k - (t+1))).length:=by rw [aO,aO,htl]; simp only [dI,List.length_nil]; omega
   unfold V3
   dsimp only
   rw [aH (dlt hk),Q0 hk,aC,aH (by omega),Q4m,Qml hm hx,aC,htl,Q0 hi,aC,aH (by simp; omega)]
   congr 3
   rw [dM,show k+1 - (t+1)=(k - (t+1))+1 by omega,Y7 (by rw [cU]; omega)]
   congr 2
   rw [List.getElem_drop]
   simp only [show t+1+(k - (t+1))=k by omega])
  (by
   unfold V3
   dsimp only
   rw [aI (nlt _)]
   congr 3
   rw [List.take_of_length_le (by rw [cU]; omega)])
 rw [Quz (by omega)]
 simp only [Nat.sub_self,List.take_zero,List.append_nil] at hr
 exact hr
def Out (m k:Nat) (o:Option Qc):Prop:=∃g l,o=some ⟨g,l⟩/\l.length<=k/\∀x∈l,Qac m x
theorem Qm6 {m k t:Nat} {g:Int} {l:List Ad} {x:Ad} (hl:l.length<=k) (h:∀y∈l,Qac m y) (hx:Qac m x):Out m k (some ⟨g,l.set t x⟩):=by
 refine ⟨g,_,rfl,by rw [cC]; exact hl,fun y hy=>?_⟩
 rcases dO hy with h1 | h1
 ·exact h y h1
 rw [h1]; exact hx
theorem Qrn {m k t:Nat} {w0 w1 w2 w3 w4 w5 w6 row:Int} {q:Nat} {l:List Ad} {c:Int} {P:List Int} {R:List (List Int)} (hm:m<=1000000) (hl:l.length<=k) (hk:k<=8) (h:∀y∈l,Qac m y) (ht:t < l.length) (hP:P.length<=m) (hR:R.length<=m) (hr:∀r∈R,r.length<=m)
  (hrow:row=-1\/(0<=row/\row < R.length)):Out (m+1) (k+1) (Vt q row w0 w1 w2 w3 w4 w5 l (t:Int) c P R):=by
 have h':∀y∈l,Qac (m+1) y:=fun y hy=>⟨Nat.le_succ_of_le (h y hy).par,Nat.le_succ_of_le (h y hy).rows,fun r hr=>Nat.le_succ_of_le ((h y hy).row r hr)⟩
 have hlk:lkI l (t:Int)=some l[t]:=Q0 ht
 have mk:∀{g c:Int} {P:List Int} {R:List (List Int)},P.length<=m+1->R.length<=m+1->(∀r∈R,r.length<=m+1)->Out (m+1) (k+1) (Ql g l (t:Int) c P R):=fun a b d=>by
  unfold Ql
  rw [hlk,aC]
  exact Qm6 (Nat.le_succ_of_le hl) h' ⟨a,b,d⟩
 have same:∀{g c:Int},Out (m+1) (k+1) (Ql g l (t:Int) c P R):=mk (by omega) (by omega) fun r h=>Nat.le_succ_of_le (hr r h)
 have rowAt:0<=row->∃(i:Nat) (hi:i < R.length),row=(i:Int)/\lkI R row=some R[i]:=fun h0=>by
  rcases hrow with h1 | h1
  ·omega
  obtain ⟨i,rfl⟩:∃i:Nat,row=(i:Int):=⟨row.toNat,by omega⟩
  exact ⟨i,by omega,rfl,Q0 (by omega)⟩
 have setR:∀{i:Nat} {r:List Int},r.length<=m+1->(R.set i r).length<=m+1/\∀s∈R.set i r,s.length<=m+1:=fun hr'=>⟨by rw [cC]; omega,fun s hs=>by
  rcases dO hs with h1 | h1
  ·exact Nat.le_succ_of_le (hr s h1)
  rw [h1]; exact hr'⟩
 unfold Vt
 by_cases c0:Int.tmod w0 12=0
 ·rw [aH (by simpa using c0)]; exact same
 rw [aI (by simpa using c0)]
 by_cases c1:Int.tmod w0 12=1
 ·rw [aH (by simpa using c1),hlk,aC]; exact same
 rw [aI (by simpa using c1)]
 by_cases c2:Int.tmod w0 12=2
 ·rw [aH (by simpa using c2),hlk,aC,aH (by rw [aO]; simp; omega)]
  exact mk (by rw [aO]; simp; omega) (by omega) fun r h=>Nat.le_succ_of_le (hr r h)
 rw [aI (by simpa using c2)]
 by_cases c3:Int.tmod w0 12=3
 ·rw [aH (by simpa using c3),hlk,aC]
  unfold Qbq
  rw [hlk,aC]
  exact Qm6 (Nat.le_succ_of_le hl) h' ⟨by simp,Nat.le_succ_of_le hR,fun r h=>Nat.le_succ_of_le (hr r h)⟩
 rw [aI (by simpa using c3)]
 by_cases c4:Int.tmod w0 12=4
 ·rw [aH (by simpa using c4),hlk,aC,aH (by rw [aO]; simp; omega)]
  refine mk (by omega) (by rw [aO]; simp; omega) fun r h=>?_
  rcases bV.1 h with h1 | h1
  ·exact Nat.le_succ_of_le (hr r h1)
  ·simp at h1; rw [h1]; simp
 rw [aI (by simpa using c4)]
 by_cases c5:Int.tmod w0 12=5
 ·rw [aH (by simpa using c5)]
  by_cases d:row>=0
  ·rw [aH (by simpa using d),hlk,aC,aH (by rcases hrow with h1 | h1 <;> omega)]
   unfold Qbo
   refine Qm6 (Nat.le_succ_of_le hl) h' ⟨by simp only; omega,?_,fun r h=>?_⟩
   ·show (sub R 0 row).length<=m+1
    unfold sub; simp; omega
   ·have h:r∈sub R 0 row:=h
    unfold sub at h
    exact Nat.le_succ_of_le (hr r (bJ (by simpa using h)))
  ·rw [aI (by simpa using d)]; exact same
 rw [aI (by simpa using c5)]
 by_cases c6:Int.tmod w0 12=6
 ·rw [aH (by simpa using c6)]
  by_cases d:row>=0
  ·obtain ⟨i,hi,e1,e2⟩:=rowAt d
   rw [aH (by simpa using d),hlk,aC,e2,aC]
   have hri:=hr _ (bL hi)
   by_cases d2:((R[i].length:Int) > 0)
   ·rw [aH (by simpa using d2),show (0:Int)=((0:Nat):Int) from rfl,Q0 (by omega),aC]
    obtain ⟨a,b⟩:=setR (i:=row.toNat) (r:=R[i].set (Int.toNat ((0:Nat):Int)) w3) (by rw [cC]; omega)
    exact mk (by omega) a b
   ·rw [aI (by simpa using d2)]; exact same
  ·rw [aI (by simpa using d)]; exact same
 rw [aI (by simpa using c6)]
 by_cases c7:Int.tmod w0 12=7
 ·rw [aH (by simpa using c7)]
  by_cases d:row>=0
  ·obtain ⟨i,hi,e1,e2⟩:=rowAt d
   have hri:=hr _ (bL hi)
   rw [aH (by simpa using d),e2,aC,hlk,aC,aH (by rw [aO]; simp; omega),List.set_set]
   obtain ⟨a,b⟩:=setR (i:=row.toNat) (r:=R[i]++[(0:Int)]) (by rw [aO]; simp; omega)
   exact mk (by omega) a b
  ·rw [aI (by simpa using d)]; exact same
 rw [aI (by simpa using c7)]
 by_cases c8:Int.tmod w0 12=8
 ·rw [aH (by simpa using c8)]
  by_cases d:row>=0
  ·obtain ⟨i,hi,e1,e2⟩:=rowAt d
   have hri:=hr _ (bL hi)
   rw [aH (by simpa using d),hlk,aC,e2,aC]
   by_cases d2:((R[i].length:Int) > 0)
   ·rw [aH (by simpa using d2),aH (by omega),show (0:Int)=((0:Nat):Int) from rfl,Q0 (by rw [cH]; omega),aC,List.set_set]
    obtain ⟨a,b⟩:=setR (i:=row.toNat) (r:=(List.replicate (Int.toNat (R[i].length:Int)) ((0:Nat):Int)).set (Int.toNat ((0:Nat):Int)) w4) (by rw [cC,cH]; omega)
    exact mk (by omega) a b
   ·rw [aI (by simpa using d2)]; exact same
  ·rw [aI (by simpa using d)]; exact same
 rw [aI (by simpa using c8)]
 by_cases c9:Int.tmod w0 12=9
 ·rw [aH (by simpa using c9)]
  by_cases d:row>=0
  ·obtain ⟨i,hi,e1,e2⟩:=rowAt d
   have hri:=hr _ (bL hi)
   rw [aH (by simpa using d),hlk,aC,e2,aC]
   have hw:=Vr (body:=Qbc row) (fun s:Int × Int × List (List Int)=>∃(a b:Int) (T:List (List Int)),s=(a,b,T)/\0<=a/\-1<=b/\a+b=(R[i].length:Int) - 1/\T.length=R.length/\(∀r∈T,r.length<=m)/\∃r,T[i]?=some r/\r.length=R[i].length) (fun s=>R[i].length+1 - s.1.toNat) (fun T=>T.length=R.length/\∀r∈T,r.length<=m)
    (fun s hs=>by
     obtain ⟨a,b,T,rfl,ha,hb,hab,hT,hTr,r,er,hrl⟩:=hs
     unfold Qbc
     dsimp only
     by_cases hc:a < b
     ·left
      have eT:lkI T row=some r:=by unfold lkI; rw [aI (by omega),e1,aR,er]
      have l1:∀(s:List Int) (z:Int),s.length=R[i].length->0<=z->z < R[i].length->lkI s z=some ((s[z.toNat]?).getD 0):=fun s z hs h1 h2=>by
       unfold lkI; rw [aI (by omega),aG (by omega)]; rfl
      rw [aH (by simpa using hc),eT,aC,l1 r a hrl ha (by omega),aC,l1 r b hrl (by omega) (by omega),aC,l1 _ b (by rw [cC]; exact hrl) (by omega) (by omega),aC,List.set_set,w64 (by omega),w64 (by omega)]
      refine ⟨_,rfl,⟨_,_,_,rfl,by omega,by omega,by omega,by rw [cC]; exact hT,fun s hs=>?_,_,by rw [e1,aR,cD (by omega)],by rw [cC,cC]; exact hrl⟩,by simp only; omega⟩
      rcases dO hs with h1 | h1
      ·exact hTr s h1
      rw [h1,cC,cC,hrl]; exact hri
     right
     rw [aI (by simpa using hc)]
     exact ⟨_,rfl,hT,hTr⟩) (0,zw ((R[i].length:Int) - 1),R) ⟨0,(R[i].length:Int) - 1,R,by rw [w64 (by omega)],by omega,by omega,by omega,rfl,hr,_,aG hi,rfl⟩ (by show R[i].length+1 - 0 < 1152921504606846976; omega)
   obtain ⟨T,h1,h2,h3⟩:=hw
   rw [h1,aC]
   exact mk (by omega) (by omega) fun r h=>Nat.le_succ_of_le (h3 r h)
  ·rw [aI (by simpa using d)]; exact same
 rw [aI (by simpa using c9)]
 by_cases c10:Int.tmod w0 12=10
 ·rw [aH (by simpa using c10),hlk,aC,aH (by rw [aO]; simp; omega)]
  unfold Ql
  have hn:∀y∈l++[Ad.mk 1 [] [[w4]]],Qac (m+1) y:=fun y hy=>by
   rcases bV.1 hy with h1 | h1
   ·exact h' y h1
   simp at h1; rw [h1]; exact ⟨by simp,by simp,fun r hr=>by simp at hr; rw [hr]; simp⟩
  rw [Q0 (by rw [aO]; omega),aC]
  exact Qm6 (by rw [aO]; simp; omega) hn ⟨by simp only; omega,by simp only; omega,fun r h=>Nat.le_succ_of_le (hr r h)⟩
 rw [aI (by simpa using c10),hlk,aC,cC,w64 (n:=(l.length:Int) - 1) (by omega),aH (by omega)]
 have hx:Qac (m+1) (Ad.mk c P R):=⟨by simp only; omega,by simp only; omega,fun r h=>Nat.le_succ_of_le (hr r h)⟩
 refine ⟨_,_,rfl,?_,fun y hy=>?_⟩
 ·unfold sub; simp; omega
 ·unfold sub at hy
  have hy:=bJ (show y∈List.take (l.length - 1) (l.set t { Card:=c,Parents:=P,Rows:=R }) by simpa using hy)
  rcases dO hy with h1 | h1
  ·exact h' y h1
  ·rw [h1]; exact hx
theorem Q09 {b:Q9} {g:Int} {l:List Ad} {m:Nat} (hm:m<=999999) (h1:1<=l.length) (hl:l.length<=8) (h:∀x∈l,Qac m x) (hA:0<=b.At/\b.At<=255) (hR:0<=b.Row/\b.Row<=255):Out (m+1) (l.length+1) (V9 b ⟨g,l⟩):=by
 have eA:zw b.At=b.At:=w64 (by omega)
 have eR:zw b.Row=b.Row:=w64 (by omega)
 have tm:∀k:Nat,0 < k->∃t:Nat,t < k/\Int.tmod b.At (k:Int)=(t:Int):=fun k hk=>by
  rw [Qbk hA.1]
  have h1:=Int.emod_nonneg b.At (show (k:Int)≠0 by omega)
  have h2:=Int.emod_lt_of_pos b.At (show (0:Int) < k by omega)
  exact ⟨(b.At % k).toNat,by omega,by omega⟩
 obtain ⟨t,ht,et⟩:=tm l.length (by omega)
 unfold V9
 dsimp only
 rw [eA,et,Qxf (by omega) hl h ht,aC]
 dsimp only
 have hx:=h _ (bL ht)
 have hxp:=hx.par
 have htl:(l.take t).length=t:=by rw [cT]; omega
 rw [aH (dlt ht),Q0 ht,aC,aH (by omega),Q39,Qml (by omega) hx,aC,aH (by rw [aO,htl]; simp; omega),Qy1 (by omega) hl h ht,aC,htl]
 have hlen:(l.take t++[(default:Ad)]++l.drop (t+1)).length=l.length:=by simp [htl]; omega
 have hall:∀y∈l.take t++[(default:Ad)]++l.drop (t+1),Qac m y:=fun y hy=>by
  rcases bV.1 hy with h1 | h1
  ·rcases bV.1 h1 with h2 | h2
   ·exact h y (bJ h2)
   simp at h2; rw [h2]; exact ⟨eE _,eE _,fun r hr=>by cases hr⟩
  exact h y (bN h1)
 generalize l.take t++[(default:Ad)]++l.drop (t+1)=L at hlen hall
 have hne:¬ (((l.length:Int)==0)=true):=by simp; intro e; rw [e] at h1; simp at h1
 rw [hlen,aI hne,aH (by omega),Q0 (by omega),aC,et,aH rfl]
 by_cases c:((l[t].Rows.length:Int) > 0)
 ·rw [aH (by simpa using c),aH (by omega)]
  have hrow:0<=Int.tmod (zw b.Row) (l[t].Rows.length:Int)/\Int.tmod (zw b.Row) (l[t].Rows.length:Int) < l[t].Rows.length:=by
   rw [eR,Qbk hR.1]
   exact ⟨Int.emod_nonneg _ (by omega),Int.emod_lt_of_pos _ (by omega)⟩
  exact Qrn (by omega) (by omega) hl hall (by omega) hx.par hx.rows hx.row (.inr hrow) (w5:=0) (w6:=0)
 rw [aI (by simpa using c)]
 exact Qrn (by omega) (by omega) hl hall (by omega) hx.par hx.rows hx.row (.inl rfl) (w5:=0) (w6:=0)
theorem Q13 {l:List Ad}:l=rowG l.length fun v=>(l[v]?).getD default:=by
 apply List.ext_getElem?
 intro i
 unfold rowG
 rw [bF]
 by_cases c:i < l.length
 ·rw [aG c,List.getElem?_range c]
  simp [c]
 rw [dN (by omega),dN (by simp; omega)]; rfl
theorem Q7f {l:List Ad} {m:Nat} (hm:m<=1000000) (h:∀x∈l,Qac m x):NB l.length fun v=>(l[v]?).getD default:=by
 have key:∀v,v < l.length->Qac m ((l[v]?).getD default):=fun v hv=>by
  rw [aG hv]; exact h _ (bL hv)
 exact ⟨fun v hv=>by have:=(key v hv).par; omega,fun v hv=>by have:=(key v hv).rows; omega,fun v hv r hr=>by have:=(key v hv).row r hr; omega⟩
end Go.Ab
namespace Go.Ab
open Go
def Q6a (c w:Nat -> Nat) (l:List Nat):Nat := l.foldl (fun r p=>r*c p+w p) 0
def NF.idx (D:NF) (v:Nat) (w:Nat -> Nat):Nat := Q6a D.card w (D.par v)
def NF.wt (D:NF) (w:Nat -> Nat) (v:Nat):Nat := D.W v (D.idx v w) (w v)
def NF.ok (D:NF) (w:Nat -> Nat):Prop:=∀v,v < D.n->w v < D.card v
section
variable {D:NF} (V:VN D) {w:Nat -> Nat}
include V
end
structure SF where
 N:Nat
 R:Nat
 F:Nat
 T:Nat
def NF.hit (D:NF) (s:SF) (w:Nat -> Nat):Bool:=D.idx s.N w==s.R
def NF.own (D:NF) (s:SF) (w:Nat -> Nat):Nat := if D.hit s w=true then D.wt w s.N else 1
section
variable {D:NF} (V:VN D) {w:Nat -> Nat} {s:SF}
include V
end
end Go.Ab
