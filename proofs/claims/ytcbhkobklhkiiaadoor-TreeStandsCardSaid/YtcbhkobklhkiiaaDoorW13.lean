/- What functions compute. No conditions. -/
import Derived.Test.YtcbhkobklhkiiaaDoorW12
set_option linter.all false
namespace Go.Ab
open Go
set_option maxRecDepth 100000
set_option maxHeartbeats 400000
def Qd {α:Type} (n:Nat) (F:Nat → α):List α:=(List.range n).map F
theorem Ya {α:Type} {n:Nat} {F:Nat → α}:(Qd n F).length=n:=by simp [Qd]
theorem Xx {α:Type} {n:Nat} {F:Nat → α} {k:Nat} (h:k < n):lkI (Qd n F) (k:Int)=some (F k):=by
 rw [Zm (by rw [Ya]; exact h)]; simp [Qd]
theorem Zk {α:Type} {n:Nat} {F G:Nat → α} (h:∀k,k < n→F k=G k):Qd n F=Qd n G:=by
 unfold Qd
 apply List.map_congr_left
 intro t ht
 exact h t (by simpa using ht)
theorem K3 {α:Type} {n:Nat} {F:Nat → α} {k:Nat} {x:α}:(Qd n F).set k x=Qd n (fun s=>if s=k then x else F s):=by
 apply List.ext_getElem?
 intro s
 rw [List.getElem?_set]
 simp only [Qd,List.getElem?_map,List.length_map,List.length_range]
 by_cases e:k=s
 ·subst e
  rw [if_pos rfl]
  by_cases hk:k < n
  ·rw [if_pos hk,List.getElem?_range hk]; simp
  ·rw [if_neg hk,List.getElem?_eq_none (by simpa using hk)]; rfl
 ·rw [if_neg e]
  by_cases hs:s < n
  ·rw [List.getElem?_range hs]; simp only [Option.map_some]; rw [if_neg (Ne.symm e)]
  ·rw [List.getElem?_eq_none (by simpa using hs)]; rfl
theorem Qlq {α:Type} (n:Nat) (x:α):List.replicate n x=Qd n (fun _=>x):=by
 apply List.ext_getElem?
 intro s
 rw [List.getElem?_replicate]
 by_cases hs:s < n
 ·rw [if_pos hs]; simp [Qd,List.getElem?_range hs]
 ·rw [if_neg hs,List.getElem?_eq_none (by rw [Ya]; omega)]
theorem Qj4 {α:Type} {n:Nat} {F:Nat → α}:Qd n F++[F n]=Qd (n+1) F:=by
 unfold Qd; rw [List.range_succ]; simp
def Qie {α:Type} (w:Nat → α) (i:Nat) (x:α):Nat → α:=fun s=>if s=i then x else w s
theorem Kt {α:Type} {w:Nat → α} {i:Nat} {x:α}:Qie w i x i=x:=by simp [Qie]
theorem Qee {α:Type} {w:Nat → α} {i j:Nat} {x:α} (h:j≠i):Qie w i x j=w j:=by simp [Qie,h]
def Qx:Nat → (Nat → Int)→Int
 | 0,_=>0
 | n+1,f=>Qx n f+f n
theorem Qm7 {n:Nat} {f g:Nat → Int} (h:∀k,k < n→f k=g k):Qx n f=Qx n g:=by
 induction n with
 | zero=>rfl
 | succ n ih=>simp only [Qx]; rw [ih (fun k hk=>h k (by omega)),h n (by omega)]
theorem Qzg {n:Nat} {f g:Nat → Int}:Qx n (fun k=>f k+g k)=Qx n f+Qx n g:=by
 induction n with
 | zero=>rfl
 | succ n ih=>simp only [Qx,ih]; omega
theorem Qi3 {n:Nat}:Qx n (fun _=>0)=0:=by
 induction n with
 | zero=>rfl
 | succ n ih=>simp only [Qx,ih]; rfl
theorem Ki {n:Nat} {f:Nat → Int} (h:∀k,k < n→0≤f k):0≤Qx n f:=by
 induction n with
 | zero=>exact Int.le_refl 0
 | succ n ih=>simp only [Qx]; have:=ih (fun k hk=>h k (by omega)); have:=h n (by omega); omega
theorem Qza {n k:Nat} {c:Int} (h:k < n):Qx n (fun x=>if k=x then c else 0)=c:=by
 induction n with
 | zero=>omega
 | succ n ih =>
  simp only [Qx]
  by_cases e:k=n
  ·subst e
   rw [if_pos rfl,Qm7 (g:=fun _=>0) (fun x hx=>if_neg (by omega)),Qi3]; omega
  ·rw [if_neg e,ih (by omega)]; omega
theorem Qu7 {a b:Nat} {f:Nat → Int}:Qx (a+b) f=Qx a f+Qx b (fun k=>f (a+k)):=by
 induction b with
 | zero=>simp [Qx]
 | succ b ih=>rw [←Nat.add_assoc]; simp only [Qx,ih]; omega
def Xo:Nat → (Nat → Nat)→Nat
 | 0,_=>1
 | n+1,f=>Xo n f*f n
theorem Qo4 {n K:Nat} {f:Nat → Nat} (h:∀k,k < n→f k≤K):Xo n f≤K^n:=by
 induction n with
 | zero=>simp [Xo]
 | succ n ih=>simp only [Xo,Nat.pow_succ]; exact Nat.mul_le_mul (ih fun k hk=>h k (by omega)) (h n (by omega))
structure NF where
 n:Nat
 g:Nat
 card:Nat → Nat
 par:Nat → List Nat
 W:Nat → Nat → Nat → Nat
def lprod (f:Nat → Nat) (l:List Nat):Nat := l.foldl (fun r p=>r*f p) 1
def NF.rows (D:NF) (v:Nat):Nat := lprod D.card (D.par v)
def NF.node (D:NF) (v:Nat):Tapi_Node:=⟨D.card v,(D.par v).map (fun (p:Nat)=>(p:Int)),Qd (D.rows v) fun r=>Qd (D.card v) fun x=>(D.W v r x:Int)⟩
def NF.net (D:NF):Qg:=⟨D.g,Qd D.n D.node⟩
def Z7 (n:Nat) (w:Nat → Nat):List Int:=Qd n fun j=>(w j:Int)
theorem Qhr {n k:Nat} {w:Nat → Nat} (h:k < n):lkI (Z7 n w) (k:Int)=some (w k:Int):=Xx h
theorem Qhh {n:Nat} {w:Nat → Nat}:(Z7 n w).length=n:=Ya
structure VN (D:NF):Prop where
 n1:1≤D.n
 n8:D.n≤8
 g1:1≤D.g
 g60:D.g≤60
 card:∀v,v < D.n→1≤D.card v∧D.card v≤4
 par:∀v,v < D.n→∀p∈D.par v,p < D.n
 len:∀v,v < D.n→(D.par v).length≤8
 W:∀v r x,v < D.n→r < D.rows v→x < D.card v→D.W v r x≤D.g
 worlds:Xo D.n D.card≤1024
theorem Qet {f:Nat → Nat} {l:List Nat} {p:Nat}:lprod f (l++[p])=lprod f l*f p:=by simp [lprod]
theorem Qim {f:Nat → Nat} {l:List Nat} (h:∀p∈l,f p≤4):lprod f l≤4^l.length:=by
 have key:∀(l:List Nat) (R K:Nat),R≤K→(∀p∈l,f p≤4)→l.foldl (fun r p=>r*f p) R≤K*4^l.length:=by
  intro l
  induction l with
  | nil=>intro R K h _; simpa using h
  | cons p l ih =>
   intro R K hr hp
   simp only [List.foldl_cons,List.length_cons,Nat.pow_succ]
   have:=ih (R*f p) (K*4) (Nat.mul_le_mul hr (hp p (by simp))) (fun q hq=>hp q (List.mem_cons_of_mem _ hq))
   rwa [Nat.mul_assoc,Nat.mul_comm 4] at this
 have:=key l 1 1 (by omega) h
 simpa [lprod] using this
section
variable {D:NF} (V:VN D) {w:Nat → Nat}
include V
theorem VN.rows_le {v:Nat} (hv:v < D.n):D.rows v≤65536:=by
 refine Nat.le_trans (Qim fun p hp=>(V.card p (V.par v hv p hp)).2) ?_
 exact Nat.pow_le_pow_right (by omega) (V.len v hv)
omit V in
theorem Zg {α:Type} {l:List α} {k:Nat} (h:k < l.length):l.take (k+1)=l.take k++[l[k]]:=by rw [List.take_add_one,List.getElem?_eq_getElem h]; rfl
theorem VN.node {v:Nat} (hv:v < D.n):lkI D.net.Nodes (v:Int)=some (D.node v):=Xx hv
end
theorem Qu5 {a k:Nat} (ha:a < 18446744073709551616) (hk:k < 64) :
  zv (zb (a:Int) ||| zb (zv (1*2^min (Int.toNat (k:Int)) (IntKind.bits .u64)))).toNat = ((a ||| 2^k:Nat):Int):=by
 have hb:IntKind.bits .u64=64:=rfl
 have e0:min (Int.toNat (k:Int)) (IntKind.bits .u64)=k:=by rw [hb,Int.toNat_natCast]; omega
 have hp:2^k < 18446744073709551616:=by
  have:2^k < 2^64:=Nat.pow_lt_pow_right (by omega) hk
  exact this
 rw [e0,show (1:Int)*2^k=((2^k:Nat):Int) by simp,Ji hp]
 have e1:(zb (a:Int) ||| zb ((2^k:Nat):Int)).toNat = a ||| 2^k:=by
  rw [BitVec.toNat_or,V8 ha,V8 hp]
 rw [e1,Ji]
 exact Nat.or_lt_two_pow (n:=64) ha hp
theorem or_lt {a k:Nat} (ha:a < 18446744073709551616) (hk:k < 64):a ||| 2^k < 18446744073709551616 :=
 Nat.or_lt_two_pow (n:=64) ha (Nat.pow_lt_pow_right (by omega) hk)
theorem Q2h {a k j:Nat}:(a ||| 2^k).testBit j=(a.testBit j || decide (k=j)):=by
 rw [Nat.testBit_or,Nat.testBit_two_pow]
theorem Qnu {a b:Nat} (ha:a < 18446744073709551616) (hb:b < 18446744073709551616) :
  (zv (zb (a:Int) &&& ~~~ zb (b:Int)).toNat == 0)=true↔∀j,a.testBit j=true→b.testBit j=true:=by
 have h1:(zb (a:Int) &&& ~~~ zb (b:Int)).toNat < 18446744073709551616:=BitVec.isLt _
 rw [Ji h1]
 generalize hx:zb (a:Int) &&& ~~~ zb (b:Int)=x
 have hbit:∀j,j < 64→x.getLsbD j=(a.testBit j && !(b.testBit j)):=fun j hj=>by
  rw [←hx,BitVec.getLsbD_and,BitVec.getLsbD_not]
  have:(IntKind.bits .u64)=64:=rfl
  have e1:(zb (a:Int)).getLsbD j=a.testBit j:=by unfold BitVec.getLsbD; rw [V8 ha]
  have e2:(zb (b:Int)).getLsbD j=b.testBit j:=by unfold BitVec.getLsbD; rw [V8 hb]
  rw [e1,e2]
  simp [this,hj]
 constructor
 ·intro h j hj
  have hx0:x.toNat = 0:=by simpa using h
  have h64:j < 64:=by
   rcases Nat.lt_or_ge j 64 with h' | h'
   ·exact h'
   ·have:=Nat.testBit_lt_two_pow (i:=j) (x:=a) (Nat.lt_of_lt_of_le ha (Nat.pow_le_pow_right (n:=2) (by omega) h'))
    rw [this] at hj; cases hj
  have h2:=hbit j h64
  have h3:x.getLsbD j=false:=by unfold BitVec.getLsbD; rw [hx0]; simp
  rw [h3,hj] at h2
  simpa using h2
 ·intro h
  have:x=0#_:=by
   apply BitVec.eq_of_getLsbD_eq
   intro j hj
   have hj':j < 64:=hj
   rw [hbit j hj']
   cases ha':a.testBit j with
   | false=>simp
   | true=>rw [h j ha']; simp
  rw [this]; rfl
def KK:Int:=167961600000000
def BD (m:Nat) (z:Int):Prop:=-((m:Int)*KK)≤z∧z≤(m:Int)*KK
theorem BD.add {m p:Nat} {a b:Int} (h:BD m a) (k:BD p b):BD (m+p) (a+b):=by
 unfold BD at *
 rw [Int.natCast_add,Int.add_mul]; omega
theorem BD.zero {m:Nat}:BD m 0:=by unfold BD KK; omega
theorem BD.sum {n p:Nat} {f:Nat → Int} (h:∀k,k < n→BD p (f k)):BD (n*p) (Qx n f):=by
 induction n with
 | zero=>exact BD.zero
 | succ n ih=>simp only [Qx]; rw [Nat.succ_mul]; exact (ih fun k hk=>h k (by omega)).add (h n (by omega))
section
variable {D:NF} {E:Nat → Int}
theorem Qii {α β:Type} {o:Option α} {a:α} {k:α→Option β} {r:Option β} (h:o=some a) (h2:k a=r):o.bind k=r:=by rw [h]; exact h2
theorem Q3t {n:Nat} {f:Nat → Nat} {l:List Nat} (hl:∀p∈l,p < n) (h8:l.length≤8):Qd6 (Z7 n f) (l.map fun (p:Nat)=>(p:Int))=some (l.map fun p=>(f p:Int)):=by
 unfold Qd6
 refine Qii (K9 (s0:=((0:Int),([]:List Int))) (r:=l.map fun p=>(f p:Int)) (fun k=>((k:Int),(l.take k).map fun p=>(f p:Int))) l.length (by simp) (fun k hk=>?_) ?_ (by omega)) rfl
 ·unfold Qdq
  simp only
  rw [if_pos (by simpa using hk),Zm (by simpa using hk)]
  simp only [Option.bind_some,List.getElem_map]
  rw [Qhr (hl _ (List.getElem_mem hk))]
  simp only [Option.bind_some]
  rw [if_pos (by simp [List.length_take]; omega),w64 (by omega),Zg hk]
  simp only [List.map_append,List.map_cons,List.map_nil]
  rfl
 ·unfold Qdq
  simp only
  rw [if_neg (by simp),List.take_of_length_le (Nat.le_refl _)]
end
structure VX (D:NF):Prop where
 vn:VN D
 sorted:∀v,v < D.n→(D.par v).Pairwise (· < ·)
 self:∀v,v < D.n→v ∉ D.par v
 rank:∃rk:Nat → Nat,∀v,v < D.n→∀p∈D.par v,rk p < rk v
 sum:∀v r,v < D.n→r < D.rows v→Qx (D.card v) (fun x=>(D.W v r x:Int))=D.g
theorem K1:∀(a b:List Nat),a.Nodup→a ⊆ b→a.length≤b.length
 | [],_,_,_=>by simp
 | x::a,b,hn,hs=>by
  have hx:x∈b:=hs (by simp)
  rw [List.nodup_cons] at hn
  have h1:a ⊆ b.erase x:=fun y hy=>by
   have hne:y≠x:=fun e=>hn.1 (e ▸ hy)
   exact (List.mem_erase_of_ne hne).2 (hs (List.mem_cons_of_mem _ hy))
  have h2:=K1 a (b.erase x) hn.2 h1
  have h3:=List.length_erase_of_mem hx
  have h4:0 < b.length:=List.length_pos_of_mem hx
  simp only [List.length_cons]
  omega
def bitsOf (l:List Nat) (a:Nat):Nat := l.foldl (fun a p=>a ||| 2^p) a
theorem X7 {j:Nat}:∀(l:List Nat) (a:Nat),(bitsOf l a).testBit j=(a.testBit j || decide (j∈l))
 | [],a=>by simp [bitsOf]
 | p::l,a=>by
  have:=X7 (j:=j) l (a ||| 2^p)
  unfold bitsOf at this ⊢
  simp only [List.foldl_cons]
  rw [this,Q2h]
  by_cases h:p=j
  ·subst h; simp
  ·have:j≠p:=Ne.symm h
   simp [h,this]
theorem Qbw:∀(l:List Nat) (a:Nat),a < 18446744073709551616→(∀p∈l,p < 64)→bitsOf l a < 18446744073709551616
 | [],a,h,_=>h
 | p::l,a,h,hl=>Qbw l (a ||| 2^p) (or_lt h (hl p (by simp))) fun q hq=>hl q (List.mem_cons_of_mem _ hq)
theorem Qdu {l:List Nat} {p a:Nat}:bitsOf (l++[p]) a=bitsOf l a ||| 2^p:=by simp [bitsOf]
section
variable {D:NF}
def Ql3 (D:NF) (v:Nat):Nat := bitsOf (D.par v) 0
theorem Qtt (V:VN D) {v:Nat} (hv:v < D.n):Ql3 D v < 18446744073709551616:=Qbw _ _ (by omega) fun p hp=>by have:=V.par v hv p hp; have:=V.n8; omega
theorem Qr6 {v j:Nat}:(Ql3 D v).testBit j=decide (j∈D.par v):=by unfold Ql3; rw [X7]; simp
theorem Qyh (X:VX D):∃order,X3 (Z7 D.n (Ql3 D))=some (order,true):=by
 have V:=X.vn
 have hn:=V.n8
 obtain ⟨rk,hrk⟩:=X.rank
 have hlen:(Z7 D.n (Ql3 D)).length=D.n:=Qhh
 let I:Int × List Int→Prop:=fun s=>∃(l:List Nat),l.Nodup∧(∀p∈l,p < D.n)∧s=((bitsOf l 0:Int),l.map fun (p:Nat)=>(p:Int))
 have hw:=V1 (body:=Xh (Z7 D.n (Ql3 D))) I (fun s=>D.n - s.2.length) (fun r=>∃o,r=Sum.inr o) (fun s hs=>?_) ((0:Int),List.replicate (Int.toNat 0) (0:Int)) ⟨[],List.nodup_nil,fun p hp=>by simp at hp,rfl⟩ (by simp; omega)
 ·obtain ⟨r,h1,o,rfl⟩:=hw
  refine ⟨o,?_⟩
  unfold X3
  rw [if_pos (by rw [hlen]; omega),h1]
  rfl
 ·obtain ⟨l,hnd,hl,rfl⟩:=hs
  have hll:l.length≤D.n:=by
   have h1:l ⊆ List.range D.n:=fun p hp=>List.mem_range.2 (hl p hp)
   have:=K1 l (List.range D.n) hnd h1
   simpa using this
  have hdl:bitsOf l 0 < 18446744073709551616:=Qbw _ _ (by omega) fun p hp=>by have:=hl p hp; omega
  by_cases hc:l.length < D.n
  ·
   have hex:∃v,v < D.n∧v ∉ l:=by
    apply Classical.byContradiction
    intro hno
    have h1:List.range D.n ⊆ l:=fun p hp=>by
     apply Classical.byContradiction
     intro hp'
     exact hno ⟨p,List.mem_range.1 hp,hp'⟩
    have:=K1 (List.range D.n) l List.nodup_range h1
    simp at this
    omega
   have hmin:∃v,v < D.n∧v ∉ l∧∀u,u < D.n→u ∉ l→rk v≤rk u:=by
    obtain ⟨v0,h1,h2⟩:=hex
    have:∀(k:Nat) (v:Nat),rk v≤k→v < D.n→v ∉ l→∃v,v < D.n∧v ∉ l∧∀u,u < D.n→u ∉ l→rk v≤rk u:=by
     intro k
     induction k with
     | zero=>intro v hk h1 h2; exact ⟨v,h1,h2,fun u _ _=>by omega⟩
     | succ k ih =>
      intro v hk h1 h2
      by_cases hall:∀u,u < D.n→u ∉ l→rk v≤rk u
      ·exact ⟨v,h1,h2,hall⟩
      ·have:∃u,u < D.n∧u ∉ l∧rk u < rk v:=by
        apply Classical.byContradiction
        intro hno
        exact hall fun u hu hul=>by
         apply Classical.byContradiction
         intro hlt
         exact hno ⟨u,hu,hul,by omega⟩
       obtain ⟨u,hu,hul,hlt⟩:=this
       exact ih u (by omega) hu hul
    exact this (rk v0) v0 (Nat.le_refl _) h1 h2
   obtain ⟨v1,hv1,hv1l,hv1m⟩:=hmin
   have hready:∀p∈D.par v1,p∈l:=fun p hp=>by
    apply Classical.byContradiction
    intro hpl
    have h1:=hv1m p (V.par v1 hv1 p hp) hpl
    have h2:=hrk v1 hv1 p hp
    omega
   left
   have hs2:=V1 (body:=Vk (Z7 D.n (Ql3 D)) ((bitsOf l 0:Int),l.map fun (p:Nat)=>(p:Int))) (fun s=>∃k:Nat,k≤v1∧s=(k:Int)) (fun s=>D.n - s.toNat)
    (fun r=>∃v,v < D.n∧v ∉ l∧r=Sum.inl (((bitsOf l 0 ||| 2^v:Nat):Int),(l.map fun (p:Nat)=>(p:Int))++[(v:Int)])) (fun s hs=>?_) (0:Int) ⟨0,by omega,rfl⟩ (by simp; omega)
   ·obtain ⟨r,h1,v,hv,hvl,rfl⟩:=hs2
    refine ⟨(((bitsOf l 0 ||| 2^v:Nat):Int),(l.map fun (p:Nat)=>(p:Int))++[(v:Int)]),?_,⟨l++[v],?_,?_,?_⟩,by simp; omega⟩
    ·unfold Xh
     simp only
     rw [if_pos (by rw [hlen]; simp; omega),h1]
     rfl
    ·rw [List.nodup_append]
     exact ⟨hnd,by simp,fun a ha b hb=>by simp at hb; subst hb; exact fun e=>hvl (e ▸ ha)⟩
    ·intro p hp
     rcases List.mem_append.1 hp with h | h
     ·exact hl p h
     ·simp at h; subst h; exact hv
    ·rw [Qdu]; simp
   ·obtain ⟨k,hk,rfl⟩:=hs
    have hkn:k < D.n:=by omega
    have ek:zw ((k:Int)+1)=((k+1:Nat):Int):=by rw [w64 (by omega)]; omega
    have hbk:(bitsOf l 0).testBit k=decide (k∈l):=by rw [X7]; simp
    unfold Vk
    simp only
    rw [if_pos (by rw [hlen]; simpa using hkn),Qhr hkn]
    simp only [Option.bind_some]
    rw [if_pos (by omega),Qb8 hdl (by omega),hbk]
    by_cases hkl:k∈l
    ·left
     rw [if_neg (by simp [hkl]),ek]
     have hne:k≠v1:=fun e=>hv1l (e ▸ hkl)
     exact ⟨_,rfl,⟨k+1,by omega,rfl⟩,by simp; omega⟩
    ·rw [if_pos (by simp [hkl])]
     by_cases hsub:∀p∈D.par k,p∈l
     ·right
      rw [if_pos ((Qnu (Qtt V hkn) hdl).2 fun j hj=>by
       rw [Qr6] at hj
       rw [X7]
       simp at hj ⊢
       exact hsub j hj),if_pos (by simp; omega),if_pos (by omega),Qu5 hdl (by omega)]
      exact ⟨_,rfl,k,hkn,hkl,rfl⟩
     ·left
      have hne:k≠v1:=fun e=>by subst e; exact hsub hready
      rw [if_neg (fun hc'=>hsub fun p hp=>by
       have:=(Qnu (Qtt V hkn) hdl).1 hc' p (by rw [Qr6]; simpa using hp)
       rw [X7] at this
       simpa using this),ek]
      exact ⟨_,rfl,⟨k+1,by omega,rfl⟩,by simp; omega⟩
  ·right
   refine ⟨Sum.inr (l.map fun (p:Nat)=>(p:Int)),?_,_,rfl⟩
   unfold Xh
   simp only
   rw [if_neg (by rw [hlen]; simp; omega)]
end
theorem Qwc {n:Nat} {f:Nat → Nat}:∃s:Nat,Qx n (fun x=>(f x:Int))=(s:Int):=by
 obtain ⟨s,hs⟩:=Int.eq_ofNat_of_zero_le (Ki (n:=n) (f:=fun x=>(f x:Int)) fun _ _=>Int.natCast_nonneg _)
 exact ⟨s,hs⟩
theorem Qc8 {n k:Nat} {f:Nat → Int} (h:∀j,j < n→0≤f j) (hk:k≤n):Qx k f≤Qx n f:=by
 obtain ⟨m,rfl⟩:=Nat.exists_eq_add_of_le hk
 rw [Qu7]
 have:=Ki (n:=m) (f:=fun x=>f (k+x)) fun j hj=>h _ (by omega)
 omega
theorem Qmt {g S:Nat} (hS:0 < S):∀(n:Nat) (o:Nat → Nat),Qx n (fun x=>((g*o x / S:Nat):Int))*S≤g*Qx n (fun x=>(o x:Int))
 | 0,_=>by simp [Qx]
 | n+1,o=>by
  have ih:=Qmt (g:=g) hS n o
  have h1:g*o n / S*S≤g*o n:=Nat.div_mul_le_self _ _
  have h2:(((g*o n / S:Nat):Int))*(S:Int)≤(g:Int)*(o n:Int):=by exact_mod_cast h1
  simp only [Qx]
  rw [Int.add_mul,Int.mul_add]
  exact Int.add_le_add ih h2
theorem Qzj {g c:Nat} {l:List Int} {fr:Nat} (hg:g≤60) (hc:1≤c) (hc4:c≤4) (hl:∀x∈l,0≤x∧x≤255) (hll:l.length≤9223372036854775807) (hfr:fr≤100000) :
  ∃f:Nat → Nat,Qax (g:Int) (c:Int) l (fr:Int)=some (Qd c fun x=>(f x:Int))∧Qx c (fun x=>(f x:Int))=g:=by
 have hb0:∃o:Nat → Nat,(∀j,o j < 8)∧Qb fuel (V3 (c:Int) l (fr:Int)) ((0:Int),(0:Int),Qd c fun _=>(0:Int))=some (Qx c (fun x=>(o x:Int)),Qd c fun x=>(o x:Int)):=by
  by_cases h0:l.length=0
  ·refine ⟨fun _=>0,fun _=>Nat.zero_lt_succ _,?_⟩
   have hz:∀k,Qx k (fun _=>((0:Nat):Int))=0:=fun k=>Qi3
   refine K9 (fun k=>((0:Int),(k:Int),Qd c fun _=>(0:Int))) c _ rfl (fun k hk=>?_) ?_ (by omega)
   ·unfold V3
    simp only
    rw [if_pos (by simpa using hk),if_neg (by simp [h0]),Xx hk]
    simp only [Option.bind_some]
    rw [w64 (by omega),w64 (by omega)]
    rfl
   ·unfold V3
    simp only
    rw [if_neg (by simp),hz]
    rfl
  ·have hpos:0 < l.length:=by omega
   let o:Nat → Nat := fun k=>((l[(fr+k) % l.length]'(Nat.mod_lt _ hpos)).toNat) % 8
   refine ⟨o,fun j=>Nat.mod_lt _ (by omega),?_⟩
   refine K9 (fun k=>(Qx k (fun x=>(o x:Int)),(k:Int),Qd c fun j=>if j < k then (o j:Int) else 0)) c _ (by simp [Qx]) (fun k hk=>?_) ?_ (by omega)
   ·have hx:=hl _ (List.getElem_mem (Nat.mod_lt (fr+k) hpos))
    have ho:o k=((l[(fr+k) % l.length]'(Nat.mod_lt _ hpos)).toNat) % 8:=rfl
    have hs:Qx k (fun x=>(o x:Int))≤8*k:=by
     have:∀k,Qx k (fun x=>(o x:Int))≤8*k:=by
      intro k
      induction k with
      | zero=>simp [Qx]
      | succ k ih=>simp only [Qx]; have:o k < 8:=Nat.mod_lt _ (by omega); omega
     exact this k
    have hs0:0≤Qx k (fun x=>(o x:Int)):=Ki fun _ _=>Int.natCast_nonneg _
    have e1:Int.tmod (zw ((fr:Int)+(k:Int))) (l.length:Int)=(((fr+k) % l.length:Nat):Int):=by
     rw [w64 (by omega),Qbe (by omega)]; simp
    unfold V3
    simp only
    rw [if_pos (by simpa using hk),if_pos (by simp; omega),if_pos (by omega),e1,Zm (Nat.mod_lt _ hpos)]
    simp only [Option.bind_some]
    rw [Xx hk]
    simp only [Option.bind_some]
    have e2:Int.tmod (l[(fr+k) % l.length]'(Nat.mod_lt _ hpos)) 8=(o k:Int):=by rw [Qbe hx.1,ho]; omega
    have ho8:o k < 8:=Nat.mod_lt _ (by omega)
    rw [e2]
    have w1:zw (o k:Int)=(o k:Int):=w64 (by omega)
    rw [w1,w64 (by omega),w64 (by omega),Int.toNat_natCast,K3]
    simp only [Qx]
    congr 4
    refine Zk fun j hj=>?_
    by_cases e:j=k
    ·subst e; simp
    ·rw [if_neg e]
     by_cases e2:j < k
     ·rw [if_pos e2,if_pos (by omega)]
     ·rw [if_neg e2,if_neg (by omega)]
   ·unfold V3
    simp only
    rw [if_neg (by simp)]
    congr 3
    exact Zk fun j hj=>if_pos hj
 obtain ⟨o,ho,h0⟩:=hb0
 obtain ⟨S,hS⟩:=Qwc (n:=c) (f:=o)
 let q:Nat → Nat := fun x=>g*o x / S
 have hq:∀x,o x=0→q x=0:=fun x h=>by show g*o x / S=0; rw [h]; simp
 have hSb:S≤32:=by
  have:∀k,Qx k (fun x=>(o x:Int))≤8*k:=by
   intro k
   induction k with
   | zero=>simp [Qx]
   | succ k ih=>simp only [Qx]; have:=ho k; omega
  have:=this c
  omega
 have hpart:∀k,k≤c→0≤Qx k (fun x=>(q x:Int))∧Qx k (fun x=>(q x:Int))≤g:=fun k hk=>by
  refine ⟨Ki fun _ _=>Int.natCast_nonneg _,Int.le_trans (Qc8 (fun _ _=>Int.natCast_nonneg _) hk) ?_⟩
  by_cases h:S=0
  ·have:∀x,q x=0:=fun x=>by show g*o x / S=0; rw [h]; simp
   rw [Qm7 (g:=fun _=>0) (fun x _=>by rw [this]; rfl),Qi3]; omega
  ·have h1:=Qmt (g:=g) (S:=S) (by omega) c o
   rw [hS] at h1
   have h2:Qx c (fun x=>(q x:Int))*(S:Int)≤(g:Int)*(S:Int):=h1
   exact Int.le_of_mul_le_mul_right h2 (by omega)
 have hb1:=V1 (body:=Qcv (c:Int) (Qx c (fun x=>(o x:Int)),Qd c fun x=>(o x:Int)) (g:Int))
  (fun s=>∃k last:Nat,k≤c∧last < c∧s=((g:Int) - Qx k (fun x=>(q x:Int)),(last:Int),(k:Int),Qd c fun j=>if j < k then (q j:Int) else (o j:Int)))
  (fun s=>c - s.2.2.1.toNat)
  (fun r=>∃last:Nat,last < c∧r=((g:Int) - Qx c (fun x=>(q x:Int)),(last:Int),Qd c fun j=>(q j:Int)))
  (fun s hs=>?_) ((g:Int),(0:Int),(0:Int),Qd c fun x=>(o x:Int)) ⟨0,0,by omega,by omega,by simp [Qx]⟩ (by simp; omega)
 ·obtain ⟨r,h1,last,hlast,rfl⟩:=hb1
  have hp:=hpart c (Nat.le_refl _)
  obtain ⟨left,hleft⟩:=Int.eq_ofNat_of_zero_le (show 0≤(g:Int) - Qx c (fun x=>(q x:Int)) by omega)
  refine ⟨fun x=>q x+if last=x then left else 0,?_,?_⟩
  ·unfold Qax
   rw [if_pos (by omega),Int.toNat_natCast,Qlq,h0]
   simp only [Option.bind_some]
   rw [h1]
   simp only [Option.bind_some]
   rw [Xx hlast]
   simp only [Option.bind_some]
   have hql:(q last:Int)≤g:=by
    have e:=Qc8 (n:=c) (k:=last+1) (f:=fun x=>(q x:Int)) (fun _ _=>Int.natCast_nonneg _) (by omega)
    have e2:=(hpart last (by omega)).1
    simp only [Qx] at e
    omega
   rw [hleft,w64 (by omega),Int.toNat_natCast,K3]
   congr 1
   refine Zk fun x hx=>?_
   by_cases e:x=last
   ·subst e; simp
   ·rw [if_neg e,if_neg (Ne.symm e)]; simp
  ·have e:(fun x=>((q x+if last=x then left else 0:Nat):Int))=fun x=>(q x:Int)+if last=x then (left:Int) else 0:=by
    funext x; split <;> simp
   rw [e,Qzg,Qza hlast]
   have:(left:Int)=(g:Int) - Qx c (fun x=>(q x:Int)):=hleft.symm
   omega
 ·obtain ⟨k,last,hk,hlast,rfl⟩:=hs
  unfold Qcv
  simp only
  by_cases hkc:k < c
  ·left
   have hp1:=hpart k hk
   have hp2:=hpart (k+1) hkc
   have e1:Qx (k+1) (fun x=>(q x:Int))=Qx k (fun x=>(q x:Int))+(q k:Int):=rfl
   rw [if_pos (by simpa using hkc),Xx hkc]
   simp only [Option.bind_some,Nat.lt_irrefl,if_false]
   have ek:zw ((k:Int)+1)=((k+1:Nat):Int):=by rw [w64 (by omega)]; omega
   by_cases ho0:o k=0
   ·rw [if_neg (by simp [ho0]),ek,ho0,w64 (by omega)]
    refine ⟨_,rfl,⟨k+1,last,hkc,hlast,?_⟩,by simp; omega⟩
    rw [e1,hq k ho0]
    congr 1
    ·simp
    ·congr 2
     refine Zk fun j hj=>?_
     by_cases e:j=k
     ·subst e; simp [ho0,hq]
     ·by_cases e2:j < k
      ·rw [if_pos e2,if_pos (by omega)]
      ·rw [if_neg e2,if_neg (by omega)]
   ·have hSpos:S≠0:=by
     intro h
     have:=Qc8 (n:=c) (k:=k+1) (f:=fun x=>(o x:Int)) (fun _ _=>Int.natCast_nonneg _) hkc
     have h2:0≤Qx k (fun x=>(o x:Int)):=Ki fun _ _=>Int.natCast_nonneg _
     simp only [Qx] at this
     omega
    have hok:=ho k
    have hm:g*o k≤60*8:=Nat.mul_le_mul hg (by omega)
    have e2:zw (Int.tdiv (zw ((g:Int)*(o k:Int))) (Qx c (fun x=>(o x:Int))))=(q k:Int):=by
     have e3:(g:Int)*(o k:Int)=((g*o k:Nat):Int):=by simp
     have hd:g*o k / S≤g*o k:=Nat.div_le_self _ _
     have w1:zw ((g*o k:Nat):Int)=((g*o k:Nat):Int):=w64 (by omega)
     rw [e3,w1,hS,Qyv (Int.natCast_nonneg _),show ((g*o k:Nat):Int) / (S:Int)=((g*o k / S:Nat):Int) by simp]
     show zw ((g*o k / S:Nat):Int)=((g*o k / S:Nat):Int)
     obtain ⟨z,hz⟩:∃z,g*o k / S=z:=⟨_,rfl⟩
     rw [hz] at hd ⊢
     exact w64 (by omega)
    rw [if_pos (by simp; omega),if_pos (by rw [hS]; omega),e2,ek,Int.toNat_natCast,K3,w64 (by omega)]
    refine ⟨_,rfl,⟨k+1,k,hkc,hkc,?_⟩,by simp; omega⟩
    rw [e1]
    congr 1
    ·omega
    ·congr 2
     refine Zk fun j hj=>?_
     by_cases e:j=k
     ·subst e; simp
     ·rw [if_neg e]
      by_cases e2:j < k
      ·rw [if_pos e2,if_pos (by omega)]
      ·rw [if_neg e2,if_neg (by omega)]
  ·right
   have:k=c:=by omega
   subst this
   rw [if_neg (by simp)]
   refine ⟨_,rfl,last,hlast,?_⟩
   congr 2
   exact Zk fun j hj=>if_pos hj
theorem Q1w {n:Nat} (hn:n≤5) {w:Int} {o:List Int}:Ja ⟨List.replicate n (0:Int),w,o⟩=some (List.replicate n 1):=by
 unfold Ja
 refine Qii (K9 (s0:=((0:Int),([]:List Int))) (r:=List.replicate n 1) (fun k=>((k:Int),List.replicate k (1:Int))) n rfl (fun k hk=>?_) ?_ (by omega)) rfl
 ·unfold Ju
  simp only
  rw [if_pos (by simp; omega),if_pos (by simp; omega),Zm (by simpa using hk)]
  simp only [Option.bind_some,List.getElem_replicate]
  have e:zw (1+zw (Int.tmod 0 4))=1:=by decide
  rw [e,if_pos (by simp; omega),w64 (by omega),←List.replicate_succ']
  rfl
 ·unfold Ju
  simp only
  rw [if_neg (by simp)]
theorem Qj3 {q:List Nat} {k a:Nat} (h:q.Nodup) (hk:∀x∈q,x < k):(q.take a++[k]++q.drop a).Nodup∧∀x∈q.take a++[k]++q.drop a,x < k+1:=by
 have hperm:(q.take a++[k]++q.drop a).Perm (k::q):=by
  have h1:(q.take a++[k]++q.drop a).Perm ([k]++q.take a++q.drop a):=List.Perm.append_right _ List.perm_append_comm
  have h2:[k]++q.take a++q.drop a=k::q:=by simp
  rw [h2] at h1
  exact h1
 refine ⟨?_,fun x hx=>?_⟩
 ·rw [hperm.nodup_iff,List.nodup_cons]
  exact ⟨fun hm=>Nat.lt_irrefl _ (hk k hm),h⟩
 ·have:=hperm.mem_iff.1 hx
  rcases List.mem_cons.1 this with e | e
  ·omega
  ·have:=hk x e; omega
theorem Qum {n:Nat} (hn:n≤5) {o:List Int} (ho:∀x∈o,0≤x∧x≤255) :
  ∃q:List Nat,q.Nodup∧(∀x∈q,x < n)∧q.length=n∧Yh ⟨List.replicate n (0:Int),0,o⟩=some (q.map fun (x:Nat)=>(x:Int)):=by
 have hw:=V1 (body:=Y1 ⟨List.replicate n (0:Int),0,o⟩) (fun s=>∃q:List Nat,q.Nodup∧(∀x∈q,x < q.length)∧q.length≤n∧s=((q.length:Int),q.map fun (x:Nat)=>(x:Int)))
  (fun s=>n - s.1.toNat) (fun r=>∃q:List Nat,q.Nodup∧(∀x∈q,x < n)∧q.length=n∧r=q.map fun (x:Nat)=>(x:Int)) (fun s hs=>?_) ((0:Int),([]:List Int)) ⟨[],List.nodup_nil,fun x hx=>by simp at hx,by simp,rfl⟩ (by simp; omega)
 ·obtain ⟨r,h1,q,h2,h3,h4,rfl⟩:=hw
  refine ⟨q,h2,h3,h4,?_⟩
  unfold Yh
  rw [h1]; rfl
 ·obtain ⟨q,hnd,hx,hl,rfl⟩:=hs
  unfold Y1
  rw [Q1w hn]
  simp only [Option.bind_some,List.length_replicate,List.length_map]
  by_cases hc:q.length < n
  ·left
   rw [if_pos (by simpa using hc)]
   have ek:zw ((q.length:Int)+1)=((q.length+1:Nat):Int):=by rw [w64 (by omega)]; omega
   have ins:∀a:Nat,a≤q.length→∃s',s'=((((q.take a++[q.length]++q.drop a).length:Nat):Int),(q.take a++[q.length]++q.drop a).map fun (x:Nat)=>(x:Int)) ∧
     (∃q:List Nat,q.Nodup∧(∀x∈q,x < q.length)∧q.length≤n∧s'=((q.length:Int),q.map fun (x:Nat)=>(x:Int)))∧n - s'.1.toNat < n - ((q.length:Int)).toNat := fun a ha=>by
    obtain ⟨i1,i2⟩:=Qj3 (a:=a) hnd hx
    have hlen:(q.take a++[q.length]++q.drop a).length=q.length+1:=by simp; omega
    exact ⟨_,rfl,⟨_,i1,fun x hx=>by rw [hlen]; exact i2 x hx,by rw [hlen]; omega,rfl⟩,by simp only [hlen]; simp; omega⟩
   have hsub:∀a:Nat,a≤q.length→sub (q.map fun (x:Nat)=>(x:Int)) 0 (a:Int)=(q.take a).map (fun (x:Nat)=>(x:Int))∧sub (q.map fun (x:Nat)=>(x:Int)) (a:Int) (q.length:Int)=(q.drop a).map (fun (x:Nat)=>(x:Int)):=fun a ha=>by
    unfold sub
    refine ⟨by simp,?_⟩
    simp only [Int.toNat_natCast]
    rw [List.take_of_length_le (by simp),List.map_drop]
   by_cases ho':q.length < o.length
   ·rw [if_pos (by simpa using ho'),Zm ho']
    simp only [Option.bind_some]
    have hv:=ho _ (List.getElem_mem ho')
    obtain ⟨a,ha,hae⟩:∃a:Nat,a≤q.length∧Int.tmod (zw o[q.length]) ((q.length+1:Nat):Int)=(a:Int):=by
     refine ⟨(o[q.length]).toNat % (q.length+1),by have:=Nat.mod_lt (o[q.length]).toNat (show 0 < q.length+1 by omega); omega,?_⟩
     rw [w64 (by omega),Qbe hv.1]
     rw [Int.natCast_emod,Int.toNat_of_nonneg hv.1]
    obtain ⟨s',hs',h1,h2⟩:=ins a ha
    refine ⟨s',?_,h1,by simpa using h2⟩
    rw [ek,if_pos (by omega),hae,if_pos (by omega),(hsub a ha).1,if_pos (by simp; omega),if_pos (by simp; omega),if_pos (by omega),(hsub a ha).2,if_pos (by simp; omega),hs']
    simp
    omega
   ·rw [if_neg (by simpa using ho')]
    obtain ⟨s',hs',h1,h2⟩:=ins 0 (by omega)
    refine ⟨s',?_,h1,by simpa using h2⟩
    have hz:=hsub 0 (by omega)
    rw [ek,if_pos (by omega),show sub (q.map fun (x:Nat)=>(x:Int)) 0 0=(q.take 0).map (fun (x:Nat)=>(x:Int)) from hz.1,if_pos (by simp),if_pos (by simp),if_pos (by omega),show sub (q.map fun (x:Nat)=>(x:Int)) 0 (q.length:Int)=(q.drop 0).map (fun (x:Nat)=>(x:Int)) from hz.2,if_pos (by simp; omega),hs']
    simp
  ·right
   rw [if_neg (by simpa using hc)]
   exact ⟨_,rfl,q,hnd,fun x hm=>by have:=hx x hm; omega,by omega,rfl⟩
theorem Qic {x:Int}:0≤zv x:=by simp only [IntKind.wrap,IntKind.bits,IntKind.signed]; simp; omega
theorem Qbh {n:Nat} {q:List Nat} (hn:q.Nodup) (hl:∀x∈q,x < n) (hlen:q.length=n):∀v,v < n→v∈q:=fun v hv=>by
 apply Classical.byContradiction
 intro hno
 have h1:(v::q).Nodup:=List.nodup_cons.2 ⟨hno,hn⟩
 have h2:(v::q) ⊆ List.range n:=fun p hp=>by
  rcases List.mem_cons.1 hp with e | e
  ·subst e; exact List.mem_range.2 hv
  ·exact List.mem_range.2 (hl p e)
 have:=K1 _ _ h1 h2
 simp at this
 omega
theorem Qcw {q:List Nat} {i:Nat} (hi:i < q.length) {v:Nat}:v∈q.take (i+1)↔v∈q.take i∨v=q[i]:=by
 rw [Zg hi,List.mem_append,List.mem_singleton]
theorem Qfb {q:List Nat} (hn:q.Nodup) {i:Nat} (hi:i < q.length):q[i] ∉ q.take i:=fun h=>by
 obtain ⟨k,hk,e⟩:=List.mem_iff_getElem.1 h
 rw [List.length_take] at hk
 rw [List.getElem_take] at e
 have:=List.pairwise_iff_getElem.1 hn k i (by omega) hi (by omega)
 exact this e
theorem Ql5:∀{q:List Nat} {p j:Nat},p∈q.take j→q.idxOf p < j
 | [],p,j,h=>by simp at h
 | x::q,p,0,h=>by simp at h
 | x::q,p,j+1,h=>by
  rw [List.idxOf_cons]
  by_cases e:x=p
  ·subst e; simp
  ·have:p∈q.take j:=by
    rcases List.mem_cons.1 h with e' | e'
    ·exact absurd e'.symm e
    ·exact e'
   have:=Ql5 this
   rw [show (x==p)=false by simpa using e]
   simp; omega
theorem Qz1 {q:List Nat} (hn:q.Nodup) {j:Nat} (hj:j < q.length):j≤q.idxOf q[j]:=by
 apply Classical.byContradiction
 intro h
 have hk:q.idxOf q[j] < q.length:=by omega
 have e:q[q.idxOf q[j]]=q[j]:=List.getElem_idxOf hk
 have:=List.pairwise_iff_getElem.1 hn (q.idxOf q[j]) j hk hj (by omega)
 exact this e
def dcnt (p0:Qc):Nat := min (max p0.Nodes.length 1) 5
theorem Qed {p0:Qc}:(if 5 < (if 1 > (p0.Nodes.length:Int) then 1 else (p0.Nodes.length:Int)) then 5 else (if 1 > (p0.Nodes.length:Int) then 1 else (p0.Nodes.length:Int)))=(dcnt p0:Int):=by
 unfold dcnt
 split <;> split at * <;> omega
theorem Qgt {p0:Qc}:1≤dcnt p0∧dcnt p0≤5:=by unfold dcnt; omega
structure Qu0 (p0:Qc):Prop where
 grain:0≤p0.Grain∧p0.Grain≤255
 order:∀x∈p0.Order,0≤x∧x≤255
 card:∀p∈p0.Nodes,0≤p.Card∧p.Card≤255
 W:∀p∈p0.Nodes,∀x∈p.W,0≤x∧x≤255
 Wl:∀p∈p0.Nodes,p.W.length≤9223372036854775807
section
variable {p0:Qc} {q:List Nat}
theorem Qlu {i:Nat} (hi:i < q.length):lkI (q.map fun (x:Nat)=>(x:Int)) (i:Int)=some ((q[i]:Nat):Int):=by rw [Zm (by simpa using hi)]; simp
theorem Q26 (h:Qu0 p0) (hn:q.Nodup) (hl:∀x∈q,x < dcnt p0) (hlen:q.length=dcnt p0) :
  ∃C:Nat → Nat,(∀v,v < dcnt p0→2≤C v∧C v≤3) ∧
   Qb fuel (Yq p0 (q.map fun (x:Nat)=>(x:Int))) (1,0,List.replicate (dcnt p0) (Sum.inl 0))=some (Qd (dcnt p0) fun v=>Sum.inl (C v:Int)):=by
 have hcn:=Qgt (p0:=p0)
 have hw:=V1 (body:=Yq p0 (q.map fun (x:Nat)=>(x:Int)))
  (fun s=>∃(w:Int) (i:Nat) (C:Nat → Nat),i≤dcnt p0∧(∀v,v∈q.take i→2≤C v∧C v≤3)∧s=(w,(i:Int),Qd (dcnt p0) fun v=>Sum.inl (C v:Int)))
  (fun s=>dcnt p0 - s.2.1.toNat)
  (fun r=>∃C:Nat → Nat,(∀v,v < dcnt p0→2≤C v∧C v≤3)∧r=Qd (dcnt p0) fun v=>Sum.inl (C v:Int))
  (fun s hs=>?_) (1,0,List.replicate (dcnt p0) (Sum.inl 0)) ⟨1,0,fun _=>0,by omega,fun v hv=>by simp at hv,by rw [Qlq]; rfl⟩ (by simp; omega)
 ·obtain ⟨r,h1,C,h2,rfl⟩:=hw
  exact ⟨C,h2,h1⟩
 ·obtain ⟨w,i,C,hi,hC,rfl⟩:=hs
  by_cases hic:i < dcnt p0
  ·left
   have hiq:i < q.length:=by omega
   have hv:=hl _ (List.getElem_mem hiq)
   have ek:zw ((i:Int)+1)=((i+1:Nat):Int):=by rw [w64 (by omega)]; omega
   have leaf:∀(w':Int) (c:Nat),2≤c→c≤3→(∃s',some (Ql.next (w',zw ((i:Int)+1),List.set (Qd (dcnt p0) fun v=>(Sum.inl (C v:Int):Int ⊕ Tapi_Node)) (Int.toNat ((q[i]:Nat):Int)) (Sum.inl (c:Int))))=some (Ql.next (ρ:=List (Int ⊕ Tapi_Node)) s') ∧
     (∃(w:Int) (i:Nat) (C:Nat → Nat),i≤dcnt p0∧(∀v,v∈q.take i→2≤C v∧C v≤3)∧s'=(w,(i:Int),Qd (dcnt p0) fun v=>Sum.inl (C v:Int)))∧dcnt p0 - s'.2.1.toNat < dcnt p0 - (i:Int).toNat):=fun w' c c1 c2=>by
    rw [ek]
    refine ⟨_,rfl,⟨w',i+1,Qie C q[i] c,hic,fun v hv=>?_,?_⟩,by simp; omega⟩
    ·rcases (Qcw hiq).1 hv with e | e
     ·by_cases e2:v=q[i]
      ·subst e2; rw [Kt]; exact ⟨c1,c2⟩
      ·rw [Qee e2]; exact hC v e
     ·subst e; rw [Kt]; exact ⟨c1,c2⟩
    ·rw [Int.toNat_natCast,K3]
     congr 2
     refine Zk fun k hk=>?_
     by_cases e:k=q[i]
     ·rw [if_pos e,e,Kt]
     ·rw [if_neg e,Qee e]
   have hk:lkL (Qd (dcnt p0) fun v=>(Sum.inl (C v:Int):Int ⊕ Tapi_Node)) ((q[i]:Nat):Int)=some (C q[i]:Int):=by unfold lkL; rw [Xx hv]; rfl
   unfold Yq
   simp only [Qed]
   rw [if_pos (by simpa using hic)]
   by_cases hin:i < p0.Nodes.length
   ·have hp:=h.card _ (List.getElem_mem hin)
    have ec:zw (2+zw (Int.tmod (p0.Nodes[i]).Card 2))=((2+(p0.Nodes[i]).Card.toNat % 2:Nat):Int):=by
     have w1:zw ((p0.Nodes[i]).Card % 2)=(p0.Nodes[i]).Card % 2:=w64 (by omega)
     rw [Qbe hp.1,w1,w64 (by omega)]; omega
    rw [if_pos (by simpa using hin),Zm hin]
    simp only [Option.bind_some]
    rw [if_pos Qic]
    split
    ·rw [Qlu hiq]
     simp only [Option.bind_some]
     rw [hk]
     exact leaf _ 2 (by omega) (by omega)
    ·rw [Qlu hiq]
     simp only [Option.bind_some]
     rw [hk]
     simp only [Option.bind_some]
     rw [ec]
     exact leaf _ _ (by omega) (by omega)
   ·rw [if_neg (by simpa using hin),if_pos Qic]
    split
    ·rw [Qlu hiq]
     simp only [Option.bind_some]
     rw [hk]
     exact leaf _ 2 (by omega) (by omega)
    ·rw [Qlu hiq]
     simp only [Option.bind_some]
     rw [hk]
     simp only [Option.bind_some]
     exact leaf _ 2 (by omega) (by omega)
  ·right
   have:i=dcnt p0:=by omega
   subst this
   unfold Yq
   simp only [Qed]
   rw [if_neg (by simp)]
   refine ⟨_,rfl,C,fun v hv=>hC v ?_,rfl⟩
   rw [List.take_of_length_le (by omega)]
   exact Qbh hn hl hlen v hv
theorem Q23 (hn:q.Nodup) {L:List (Int ⊕ Tapi_Node)} {i u:Nat} {P:List Nat} {pc:Qs} (hi:i < q.length) (hq:q.length≤5) :
  ∃P':List Nat,(P'=P∨(P'=P++[u]∧u∈q.take i∧P.length < 3)) ∧
   Qb fuel (Yk ((i:Int),L) (q.map fun (x:Nat)=>(x:Int)) ((u:Int),P.map fun (x:Nat)=>(x:Int)) pc) (0,P.map fun (x:Nat)=>(x:Int))=some (P'.map fun (x:Nat)=>(x:Int)):=by
 have hw:=V1 (body:=Yk ((i:Int),L) (q.map fun (x:Nat)=>(x:Int)) ((u:Int),P.map fun (x:Nat)=>(x:Int)) pc)
  (fun s=>∃(k:Nat) (P':List Nat),k≤i∧(P'=P∨(P'=P++[u]∧u∈q.take k∧P.length < 3))∧s=((k:Int),P'.map fun (x:Nat)=>(x:Int)))
  (fun s=>i - s.1.toNat) (fun r=>∃P':List Nat,(P'=P∨(P'=P++[u]∧u∈q.take i∧P.length < 3))∧r=P'.map fun (x:Nat)=>(x:Int))
  (fun s hs=>?_) ((0:Int),P.map fun (x:Nat)=>(x:Int)) ⟨0,P,by omega,.inl rfl,rfl⟩ (by simp; omega)
 ·obtain ⟨r,h1,P',h2,rfl⟩:=hw
  exact ⟨P',h2,h1⟩
 ·obtain ⟨k,P',hk,hP,rfl⟩:=hs
  by_cases hki:k < i
  ·left
   have hkq:k < q.length:=by omega
   have ek:zw ((k:Int)+1)=((k+1:Nat):Int):=by rw [w64 (by omega)]; omega
   have same:∃s',some (Ql.next (zw ((k:Int)+1),P'.map fun (x:Nat)=>(x:Int)))=some (Ql.next (ρ:=List Int) s') ∧
     (∃(k:Nat) (P':List Nat),k≤i∧(P'=P∨(P'=P++[u]∧u∈q.take k∧P.length < 3))∧s'=((k:Int),P'.map fun (x:Nat)=>(x:Int)))∧i - s'.1.toNat < i - (k:Int).toNat := by
    rw [ek]
    exact ⟨_,rfl,⟨k+1,P',hki,hP.imp id fun h=>⟨h.1,(Qcw hkq).2 (.inl h.2.1),h.2.2⟩,rfl⟩,by simp; omega⟩
   unfold Yk
   simp only
   rw [if_pos (by simpa using hki),Qlu hkq]
   simp only [Option.bind_some]
   by_cases hqu:q[k]=u
   ·rw [if_pos (by simp [hqu]),if_pos Qic]
    have hPP:P'=P:=by
     rcases hP with e | ⟨_,e,_⟩
     ·exact e
     ·exact absurd (hqu ▸ e) (Qfb hn hkq)
    subst hPP
    split
    ·split
     ·rename_i h3
      have h3':P'.length < 3:=by simp at h3; omega
      rw [if_pos (by simp; omega),ek]
      exact ⟨_,rfl,⟨k+1,P'++[u],hki,.inr ⟨rfl,(Qcw hkq).2 (.inr hqu.symm),h3'⟩,by simp⟩,by simp; omega⟩
     ·exact same
    ·exact same
   ·rw [if_neg (by simpa using (fun e:((q[k]:Nat):Int)=(u:Int)=>hqu (by omega)))]
    exact same
  ·right
   have:k=i:=by omega
   subst this
   unfold Yk
   simp only
   rw [if_neg (by simp)]
   exact ⟨_,rfl,P',hP,rfl⟩
theorem Q1z (hn:q.Nodup) (hlen:q.length=dcnt p0) {L:List (Int ⊕ Tapi_Node)} {i:Nat} {pc:Qs} (hi:i < q.length) :
  ∃P:List Nat,P.Pairwise (· < ·)∧(∀p∈P,p∈q.take i)∧P.length≤3 ∧
   Qb fuel (Xt p0 ((i:Int),L) (q.map fun (x:Nat)=>(x:Int)) pc) (0,[])=some (P.map fun (x:Nat)=>(x:Int)):=by
 have hcn:=Qgt (p0:=p0)
 have hw:=V1 (body:=Xt p0 ((i:Int),L) (q.map fun (x:Nat)=>(x:Int)) pc)
  (fun s=>∃(u:Nat) (P:List Nat),u≤dcnt p0∧P.Pairwise (· < ·)∧(∀p∈P,p < u∧p∈q.take i)∧P.length≤3∧s=((u:Int),P.map fun (x:Nat)=>(x:Int)))
  (fun s=>dcnt p0 - s.1.toNat) (fun r=>∃P:List Nat,P.Pairwise (· < ·)∧(∀p∈P,p∈q.take i)∧P.length≤3∧r=P.map fun (x:Nat)=>(x:Int))
  (fun s hs=>?_) ((0:Int),([]:List Int)) ⟨0,[],by omega,List.Pairwise.nil,fun p hp=>by simp at hp,by simp,rfl⟩ (by simp; omega)
 ·obtain ⟨r,h1,P,h2,h3,h4,rfl⟩:=hw
  exact ⟨P,h2,h3,h4,h1⟩
 ·obtain ⟨u,P,hu,h2,h3,h4,rfl⟩:=hs
  unfold Xt
  simp only [Qed]
  by_cases huc:u < dcnt p0
  ·left
   obtain ⟨P',hP',hb⟩:=Q23 hn (L:=L) (u:=u) (P:=P) (pc:=pc) hi (by omega)
   have ek:zw ((u:Int)+1)=((u+1:Nat):Int):=by rw [w64 (by omega)]; omega
   rw [if_pos (by simpa using huc),hb]
   simp only [Option.bind_some]
   rw [ek]
   refine ⟨_,rfl,⟨u+1,P',huc,?_,?_,?_,rfl⟩,by simp; omega⟩
   ·rcases hP' with rfl | ⟨rfl,_,_⟩
    ·exact h2
    ·rw [List.pairwise_append]
     exact ⟨h2,List.pairwise_singleton _ _,fun a ha b hb=>by simp at hb; subst hb; exact (h3 a ha).1⟩
   ·rcases hP' with rfl | ⟨rfl,hm,_⟩
    ·exact fun p hp=>⟨by have:=(h3 p hp).1; omega,(h3 p hp).2⟩
    ·intro p hp
     rcases List.mem_append.1 hp with e | e
     ·exact ⟨by have:=(h3 p e).1; omega,(h3 p e).2⟩
     ·simp at e; subst e; exact ⟨by omega,hm⟩
   ·rcases hP' with rfl | ⟨rfl,_,hlt⟩
    ·exact h4
    ·simp; omega
  ·right
   rw [if_neg (by simpa using huc)]
   exact ⟨_,rfl,P,h2,fun p hp=>(h3 p hp).2,h4,rfl⟩
theorem Qyj {n:Nat} {g:Int} {F:Nat → Tapi_Node} {C:Nat → Nat} (hF:∀v,v < n→(F v).Card=(C v:Int)) (hn:n≤8):Qa7 ⟨g,Qd n F⟩=some (Z7 n C):=by
 unfold Qa7
 refine Qii (K9 (s0:=((0:Int),([]:List Int))) (r:=Z7 n C) (fun k=>((k:Int),Z7 k C)) n rfl (fun k hk=>?_) ?_ (by omega)) rfl
 ·unfold Qbd
  simp only
  rw [if_pos (by rw [Ya]; simpa using hk),Xx hk]
  simp only [Option.bind_some]
  rw [hF k hk,show Z7 k C++[(C k:Int)]=Z7 (k+1) C from Qj4,if_pos (by rw [Qhh]; omega),w64 (by omega)]
  rfl
 ·unfold Qbd
  simp only
  rw [if_neg (by rw [Ya]; simp)]
theorem Qxy {f:Nat → Nat} {l:List Nat} (hf:∀p∈l,f p≤4) (hl:l.length≤8):K5 (l.map fun p=>(f p:Int))=some (lprod f l:Int):=by
 unfold K5
 refine Qii (K9 (s0:=((1:Int),(0:Int))) (r:=(lprod f l:Int)) (fun k=>((lprod f (l.take k):Int),(k:Int))) l.length (by simp [lprod]) (fun k hk=>?_) ?_ (by omega)) rfl
 ·have h1:lprod f (l.take k)≤4^8:=Nat.le_trans (Qim fun p hp=>hf p (List.mem_of_mem_take hp)) (Nat.pow_le_pow_right (by omega) (by rw [List.length_take]; omega))
  have h2:=hf _ (List.getElem_mem hk)
  have h3:lprod f (l.take k)*f l[k]≤65536*4:=Nat.mul_le_mul (by omega) h2
  have e:(lprod f (l.take k):Int)*(f l[k]:Int)=((lprod f (l.take (k+1)):Nat):Int):=by rw [Zg hk,Qet]; simp
  have e2:lprod f (l.take (k+1))≤65536*4:=by rw [Zg hk,Qet]; exact h3
  unfold Qcl
  simp only
  rw [if_pos (by simpa using hk),Zm (by simpa using hk)]
  simp only [Option.bind_some,List.getElem_map]
  rw [e,w64 (by omega),w64 (by omega)]
  rfl
 ·unfold Qcl
  simp only
  rw [if_neg (by simp),List.take_of_length_le (Nat.le_refl _)]
theorem Q2j {n v:Nat} {N:Nat → Int ⊕ Tapi_Node} {x:Tapi_Node}:List.set (List.map coTapi_Node (Qd n N)) (Int.toNat (v:Int)) x=Qd n fun k=>if k=v then x else coTapi_Node (N k):=by
 rw [show List.map coTapi_Node (Qd n N)=Qd n (fun k=>coTapi_Node (N k)) by simp [Qd],Int.toNat_natCast,K3]
theorem Qul {n v:Nat} {g:Int} {N:Nat → Int ⊕ Tapi_Node} {C:Nat → Nat} {P:List Nat} {R:List (List Int)} (hN:∀k,k < n→(coTapi_Node (N k)).Card=(C k:Int)) (hn:n≤8) (hv:v < n) (hP:∀p∈P,p < n) (hl:P.length≤8) :
  Xe ⟨g,List.set (List.map coTapi_Node (Qd n N)) (Int.toNat (v:Int)) ⟨(C v:Int),P.map (fun (x:Nat)=>(x:Int)),R⟩⟩ (v:Int)=some (P.map fun p=>(C p:Int)):=by
 unfold Xe
 rw [Q2j,Qyj (C:=C) (fun k hk=>?_) hn]
 ·simp only [Option.bind_some]
  rw [Xx hv]
  simp only [Option.bind_some,if_true]
  rw [Q3t hP hl]
  rfl
 ·by_cases e:k=v
  ·subst e; rw [if_pos rfl]
  ·rw [if_neg e]; exact hN k hk
theorem Q2y {g c v i:Nat} {N:Nat → Int ⊕ Tapi_Node} {C:Nat → Nat} {P:List Nat} {pc:Qs} (hg:zw (1+(zw (Int.tmod p0.Grain 60)))=(g:Int)) (hg60:g≤60)
  (hC:∀k,k < dcnt p0→2≤C k∧C k≤3) (hN:∀k,k < dcnt p0→(coTapi_Node (N k)).Card=(C k:Int)) (hv:v < dcnt p0) (hP:∀p∈P,p < dcnt p0) (hl:P.length≤3)
  (hW:∀x∈pc.W,0≤x∧x≤255) (hWl:pc.W.length≤9223372036854775807) :
  ∃W:Nat → Nat → Nat,(∀r,r < lprod C P→Qx (C v) (fun x=>(W r x:Int))=g) ∧
   Qb fuel (Yi p0 ((i:Int),Qd (dcnt p0) N) (v:Int) (C v:Int) (P.map fun (x:Nat)=>(x:Int)) pc) (0,[])=some (Qd (lprod C P) fun r=>Qd (C v) fun x=>(W r x:Int)):=by
 have hcn:=Qgt (p0:=p0)
 have hcv:=hC v hv
 have hsz:=Qxy (f:=C) (l:=P) (fun p hp=>by have:=hC p (hP p hp); omega) (by omega)
 have hb:lprod C P≤64:=Nat.le_trans (Qim fun p hp=>by have:=hC p (hP p hp); omega) (Nat.pow_le_pow_right (by omega) hl:4^P.length≤4^3)
 have hw:=V1 (body:=Yi p0 ((i:Int),Qd (dcnt p0) N) (v:Int) (C v:Int) (P.map fun (x:Nat)=>(x:Int)) pc)
  (fun s=>∃(r:Nat) (W:Nat → Nat → Nat),r≤lprod C P∧(∀r',r' < r→Qx (C v) (fun x=>(W r' x:Int))=g)∧s=((r:Int),Qd r fun r=>Qd (C v) fun x=>(W r x:Int)))
  (fun s=>lprod C P - s.1.toNat) (fun o=>∃W:Nat → Nat → Nat,(∀r,r < lprod C P→Qx (C v) (fun x=>(W r x:Int))=g)∧o=Qd (lprod C P) fun r=>Qd (C v) fun x=>(W r x:Int))
  (fun s hs=>?_) ((0:Int),([]:List (List Int))) ⟨0,fun _ _=>0,by omega,fun r hr=>by omega,rfl⟩ (by simp; omega)
 ·obtain ⟨o,h1,W,h2,rfl⟩:=hw
  exact ⟨W,h2,h1⟩
 ·obtain ⟨r,W,hr,hS,rfl⟩:=hs
  unfold Yi
  simp only
  rw [Qul hN (by omega) hv hP (by omega)]
  simp only [Option.bind_some]
  rw [hsz]
  simp only [Option.bind_some]
  by_cases hrs:r < lprod C P
  ·left
   have hm:r*(C v+1)≤64*4:=Nat.mul_le_mul (by omega) (by omega)
   have ef:zw ((r:Int)*zw ((C v:Int)+1))=((r*(C v+1):Nat):Int):=by
    have w1:zw ((C v:Int)+1)=((C v+1:Nat):Int):=by rw [w64 (by omega)]; omega
    have e3:(r:Int)*((C v+1:Nat):Int)=((r*(C v+1):Nat):Int):=by simp
    rw [w1,e3]
    exact w64 (by omega)
   obtain ⟨f,hf,hfs⟩:=Qzj (g:=g) (c:=C v) (l:=pc.W) (fr:=r*(C v+1)) hg60 (by omega) (by omega) hW hWl (by omega)
   have ek:zw ((r:Int)+1)=((r+1:Nat):Int):=by rw [w64 (by omega)]; omega
   rw [if_pos (by simpa using hrs),hg,ef,hf]
   simp only [Option.bind_some]
   rw [if_pos (by simp [Ya]; omega),ek]
   have e:(Qd r fun r=>Qd (C v) fun x=>(W r x:Int))++[Qd (C v) fun x=>(f x:Int)]=Qd (r+1) fun r'=>Qd (C v) fun x=>((Qie W r f) r' x:Int):=by
    rw [←Qj4,Kt]
    congr 1
    exact Zk fun k hk=>by rw [Qee (by omega)]
   refine ⟨_,rfl,⟨r+1,Qie W r f,hrs,fun r' hr'=>?_,by rw [e]⟩,by simp; omega⟩
   by_cases e2:r'=r
   ·subst e2; rw [Kt]; exact hfs
   ·rw [Qee e2]; exact hS r' (by omega)
  ·right
   have:r=lprod C P:=by omega
   subst this
   rw [if_neg (by simp)]
   exact ⟨_,rfl,W,hS,rfl⟩
theorem Q3r {s:Int × List (Int ⊕ Tapi_Node)} {x1:List Int}:Qce p0 s x1=Xt p0 s x1 ⟨0,0,[]⟩:=rfl
theorem Q1e {n:Nat} {F:Nat → Tapi_Node}:alr (Qd n fun v=>(Sum.inr (F v):Int ⊕ Tapi_Node))=some (Qd n F):=by
 have:∀l:List Nat,alr (l.map fun v=>(Sum.inr (F v):Int ⊕ Tapi_Node))=some (l.map F):=by
  intro l
  induction l with
  | nil=>rfl
  | cons x l ih=>simp only [List.map_cons,alr,ih,Option.map_some]
 exact this _
def GdF (D:NF) (q:List Nat) (j:Nat) (v:Nat):Prop:=(D.par v).Pairwise (· < ·)∧(∀p∈D.par v,p∈q.take j)∧(D.par v).length≤3∧∀r,r < D.rows v→Qx (D.card v) (fun x=>(D.W v r x:Int))=D.g
theorem Q2c (h:Qu0 p0) (hn:q.Nodup) (hl:∀x∈q,x < dcnt p0) (hlen:q.length=dcnt p0) {g:Nat} (hg:zw (1+(zw (Int.tmod p0.Grain 60)))=(g:Int)) (hg60:g≤60)
  {C:Nat → Nat} (hC:∀k,k < dcnt p0→2≤C k∧C k≤3) :
  ∃(P:Nat → List Nat) (W:Nat → Nat → Nat → Nat),(∀j (hj:j < q.length),GdF ⟨dcnt p0,g,C,P,W⟩ q j q[j]) ∧
   Qb fuel (Ym p0 (q.map fun (x:Nat)=>(x:Int))) (0,Qd (dcnt p0) fun v=>Sum.inl (C v:Int))=some (Qd (dcnt p0) fun v=>Sum.inr ((NF.mk (dcnt p0) g C P W).node v)):=by
 have hcn:=Qgt (p0:=p0)
 let N:Nat → (Nat → List Nat)→(Nat → Nat → Nat → Nat)→Nat → Int ⊕ Tapi_Node:=fun i P W v=>if v∈q.take i then Sum.inr ((NF.mk (dcnt p0) g C P W).node v) else Sum.inl (C v:Int)
 have hNco:∀i P W k,(coTapi_Node (N i P W k)).Card=(C k:Int):=fun i P W k=>by
  show (coTapi_Node (if k∈q.take i then Sum.inr ((NF.mk (dcnt p0) g C P W).node k) else Sum.inl (C k:Int))).Card=_
  split <;> rfl
 have hw:=V1 (body:=Ym p0 (q.map fun (x:Nat)=>(x:Int)))
  (fun s=>∃(i:Nat) (P:Nat → List Nat) (W:Nat → Nat → Nat → Nat),i≤dcnt p0∧(∀j (hj:j < q.length),j < i→GdF ⟨dcnt p0,g,C,P,W⟩ q j q[j])∧s=((i:Int),Qd (dcnt p0) (N i P W)))
  (fun s=>dcnt p0 - s.1.toNat)
  (fun o=>∃(P:Nat → List Nat) (W:Nat → Nat → Nat → Nat),(∀j (hj:j < q.length),GdF ⟨dcnt p0,g,C,P,W⟩ q j q[j])∧o=Qd (dcnt p0) fun v=>Sum.inr ((NF.mk (dcnt p0) g C P W).node v))
  (fun s hs=>?_) ((0:Int),Qd (dcnt p0) fun v=>Sum.inl (C v:Int)) ⟨0,fun _=>[],fun _ _ _=>0,by omega,fun j _ hj=>by omega,by congr 1⟩ (by simp; omega)
 ·obtain ⟨o,h1,P,W,h2,rfl⟩:=hw
  exact ⟨P,W,h2,h1⟩
 ·obtain ⟨i,P,W,hi,hG,rfl⟩:=hs
  by_cases hic:i < dcnt p0
  ·left
   have hiq:i < q.length:=by omega
   have hv:=hl _ (List.getElem_mem hiq)
   have hnot:=Qfb hn hiq
   have ek:zw ((i:Int)+1)=((i+1:Nat):Int):=by rw [w64 (by omega)]; omega
   have hk:lkL (Qd (dcnt p0) (N i P W)) ((q[i]:Nat):Int)=some (C q[i]:Int):=by
    unfold lkL
    rw [Xx hv]
    show Option.bind (some (if q[i]∈q.take i then _ else _)) _=_
    rw [if_neg hnot]; rfl
   have leaf:∀pc:Qs,(∀x∈pc.W,0≤x∧x≤255)→pc.W.length≤9223372036854775807 →
     ∃s',((Qb fuel (Xt p0 ((i:Int),Qd (dcnt p0) (N i P W)) (q.map fun (x:Nat)=>(x:Int)) pc) (0,([]:List Int))).bind fun x72 =>
      (Qb fuel (Yi p0 ((i:Int),Qd (dcnt p0) (N i P W)) ((q[i]:Nat):Int) (C q[i]:Int) x72 pc) (0,([]:List (List Int)))).bind fun x83 =>
      some (Ql.next (ρ:=List (Int ⊕ Tapi_Node)) (zw ((i:Int)+1),(List.set (Qd (dcnt p0) (N i P W)) (Int.toNat ((q[i]:Nat):Int)) (Sum.inr (Tapi_Node.mk (C q[i]:Int) x72 x83))))))=some (Ql.next s') ∧
      (∃(i:Nat) (P:Nat → List Nat) (W:Nat → Nat → Nat → Nat),i≤dcnt p0∧(∀j (hj:j < q.length),j < i→GdF ⟨dcnt p0,g,C,P,W⟩ q j q[j])∧s'=((i:Int),Qd (dcnt p0) (N i P W)))∧dcnt p0 - s'.1.toNat < dcnt p0 - (i:Int).toNat := fun pc hpW hpl=>by
    obtain ⟨Pv,p1,p2,p3,hb2⟩:=Q1z (p0:=p0) hn hlen (L:=Qd (dcnt p0) (N i P W)) (pc:=pc) hiq
    have hPv:∀p∈Pv,p < dcnt p0:=fun p hp=>hl p (List.mem_of_mem_take (p2 p hp))
    obtain ⟨Wv,w1,hb3⟩:=Q2y (p0:=p0) (i:=i) (c:=0) (pc:=pc) hg hg60 hC (fun k _=>hNco i P W k) hv hPv p3 hpW hpl
    rw [hb2]
    simp only [Option.bind_some]
    rw [hb3]
    simp only [Option.bind_some]
    rw [ek,Int.toNat_natCast,K3]
    refine ⟨_,rfl,⟨i+1,Qie P q[i] Pv,Qie W q[i] Wv,hic,fun j hj hji=>?_,?_⟩,by simp; omega⟩
    ·by_cases e:j=i
     ·subst e
      unfold GdF NF.rows
      simp only [Kt]
      exact ⟨p1,p2,p3,w1⟩
     ·have hne:q[j]≠q[i]:=fun e2=>e (by
       rcases Nat.lt_or_ge j i with h' | h'
       ·exact absurd e2 (List.pairwise_iff_getElem.1 hn j i hj hiq h')
       ·omega)
      have:=hG j hj (by omega)
      unfold GdF NF.rows at this ⊢
      simp only [Qee hne]
      exact this
    ·congr 1
     refine Zk fun k hk=>?_
     by_cases e:k=q[i]
     ·rw [if_pos e]
      show _=if k∈q.take (i+1) then _ else _
      rw [if_pos ((Qcw hiq).2 (.inr e)),e]
      unfold NF.node NF.rows
      simp only [Kt]
     ·rw [if_neg e]
      show (if k∈q.take i then _ else _)=if k∈q.take (i+1) then _ else _
      by_cases hm:k∈q.take i
      ·rw [if_pos hm,if_pos ((Qcw hiq).2 (.inl hm))]
       unfold NF.node NF.rows
       simp only [Qee e]
      ·rw [if_neg hm,if_neg (fun h'=>((Qcw hiq).1 h').elim hm e)]
   unfold Ym
   simp only [Qed]
   rw [if_pos (by simpa using hic)]
   by_cases hin:i < p0.Nodes.length
   ·rw [if_pos (by simpa using hin),Zm hin]
    simp only [Option.bind_some]
    rw [Qlu hiq]
    simp only [Option.bind_some]
    rw [hk]
    simp only [Option.bind_some]
    exact leaf _ (h.W _ (List.getElem_mem hin)) (h.Wl _ (List.getElem_mem hin))
   ·rw [if_neg (by simpa using hin),Qlu hiq]
    simp only [Option.bind_some]
    rw [hk]
    simp only [Option.bind_some]
    rw [Q3r]
    exact leaf ⟨0,0,[]⟩ (fun x hx=>by simp at hx) (by simp)
  ·right
   have:i=dcnt p0:=by omega
   subst this
   unfold Ym
   simp only [Qed]
   rw [if_neg (by simp)]
   refine ⟨_,rfl,P,W,fun j hj=>hG j hj (by omega),?_⟩
   refine Zk fun k hk=>?_
   show (if k∈q.take (dcnt p0) then _ else _)=_
   rw [if_pos (by rw [List.take_of_length_le (by omega)]; exact Qbh hn hl hlen k hk)]
theorem Qwt (h:Qu0 p0):∃D:NF,VX D∧D.n≤5∧(∀v,v < D.n→2≤D.card v∧D.card v≤3)∧Vr p0=some D.net:=by
 have hcn:=Qgt (p0:=p0)
 have hgr:=h.grain
 obtain ⟨q,hn,hl,hlen,hq⟩:=Qum (n:=dcnt p0) hcn.2 h.order
 obtain ⟨C,hC,h0⟩:=Q26 h hn hl hlen
 have hg:zw (1+(zw (Int.tmod p0.Grain 60)))=((1+p0.Grain.toNat % 60:Nat):Int):=by
  have w1:zw (p0.Grain % 60)=p0.Grain % 60:=w64 (by omega)
  rw [Qbe hgr.1,w1,w64 (by omega)]; omega
 have hg60:1+p0.Grain.toNat % 60≤60:=by omega
 obtain ⟨P,W,hG,h7⟩:=Q2c h hn hl hlen hg hg60 hC
 refine ⟨⟨dcnt p0,1+p0.Grain.toNat % 60,C,P,W⟩,?_,hcn.2,hC,?_⟩
 ·have hall:∀v,v < dcnt p0→∃j,∃hj:j < q.length,q[j]=v:=fun v hv=>List.mem_iff_getElem.1 (Qbh hn hl hlen v hv)
  have hsum:∀v r,v < dcnt p0→r < (NF.mk (dcnt p0) (1+p0.Grain.toNat % 60) C P W).rows v→Qx (C v) (fun x=>(W v r x:Int))=((1+p0.Grain.toNat % 60:Nat):Int):=fun v r hv hr=>by
   obtain ⟨j,hj,rfl⟩:=hall v hv
   exact (hG j hj).2.2.2 r hr
  refine ⟨⟨by show 1≤dcnt p0; omega,by show dcnt p0≤8; omega,by show 1≤1+p0.Grain.toNat % 60; omega,hg60,fun v hv=>by have:=hC v hv; show 1≤C v∧C v≤4; omega,fun v hv p hp=>?_,fun v hv=>?_,fun v r x hv hr hx=>?_,?_⟩,fun v hv=>?_,fun v hv hp=>?_,⟨fun v=>q.idxOf v,fun v hv p hp=>?_⟩,hsum⟩
  ·obtain ⟨j,hj,rfl⟩:=hall v hv
   exact hl p (List.mem_of_mem_take ((hG j hj).2.1 p hp))
  ·obtain ⟨j,hj,rfl⟩:=hall v hv
   have:=(hG j hj).2.2.1
   omega
  ·have h1:=hsum v r hv hr
   have h2:=Qc8 (n:=C v) (k:=x+1) (f:=fun x=>(W v r x:Int)) (fun _ _=>Int.natCast_nonneg _) hx
   have h3:0≤Qx x (fun x=>(W v r x:Int)):=Ki fun _ _=>Int.natCast_nonneg _
   simp only [Qx] at h2
   show W v r x≤1+p0.Grain.toNat % 60
   omega
  ·have h1:Xo (dcnt p0) C≤3^dcnt p0:=Qo4 fun v hv=>(hC v hv).2
   have h2:3^dcnt p0≤3^5:=Nat.pow_le_pow_right (by omega) hcn.2
   show Xo (dcnt p0) C≤1024
   omega
  ·obtain ⟨j,hj,rfl⟩:=hall v hv
   exact (hG j hj).1
  ·obtain ⟨j,hj,rfl⟩:=hall v hv
   exact Qfb hn hj ((hG j hj).2.1 _ hp)
  ·obtain ⟨j,hj,rfl⟩:=hall v hv
   have h1:=Ql5 ((hG j hj).2.1 p hp)
   have h2:=Qz1 hn hj
   show q.idxOf p < q.idxOf q[j]
   omega
 ·unfold Vr
  simp only [Qed]
  rw [if_pos (by omega),if_pos (by omega),Int.toNat_natCast,hq]
  simp only [Option.bind_some]
  rw [h0]
  simp only [Option.bind_some]
  rw [h7]
  simp only [Option.bind_some]
  rw [Q1e,hg]
  rfl
end
end Go.Ab
namespace Go.Ab
open Go
set_option maxRecDepth 100000
set_option maxHeartbeats 400000
theorem Jo {τ ρ σ:Type} {n:Nat} (hn:n < 1152921504606846976) (good:Nat → Prop) (mkS:Int→τ→σ) {body:σ→Option (Ql σ ρ)} (T:Nat → τ) (r rb:ρ)
  (step:∀k,k < n→(∀j,j < k→good j)→good k→body (mkS (k:Int) (T k))=some (.next (mkS (zw ((k:Int)+1)) (T (k+1)))))
  (bad:∀k,k < n→(∀j,j < k→good j)→¬ good k→body (mkS (k:Int) (T k))=some (.done rb))
  (done:(∀j,j < n→good j)→body (mkS (n:Int) (T n))=some (.done r)) :
  ((∀j,j < n→good j)∧Qb fuel body (mkS ((0:Nat):Int) (T 0))=some r)∨((¬ ∀j,j < n→good j)∧Qb fuel body (mkS ((0:Nat):Int) (T 0))=some rb):=by
 have h:=Jq (n:=n) (k0:=0) (by omega) hn mkS (body:=body) (fun k t=>t=T k∧∀j,j < k→good j) (fun x=>((∀j,j < n→good j)∧x=r)∨((¬ ∀j,j < n→good j)∧x=rb))
  (fun k t _ hk hI=>by
   obtain ⟨rfl,hI⟩:=hI
   by_cases hg:good k
   ·left
    exact ⟨_,step k hk hI hg,rfl,fun j hj=>by
     by_cases e:j=k
     ·rw [e]; exact hg
     ·exact hI j (by omega)⟩
   ·exact .inr ⟨_,bad k hk hI hg,.inr ⟨fun h=>hg (h k hk),rfl⟩⟩)
  (fun t hI=>by
   obtain ⟨rfl,hI⟩:=hI
   exact ⟨_,done hI,.inl ⟨hI,rfl⟩⟩) (T 0) ⟨rfl,fun j hj=>by omega⟩
 obtain ⟨x,h1,h2⟩:=h
 rcases h2 with ⟨a,rfl⟩ | ⟨a,rfl⟩
 ·exact .inl ⟨a,h1⟩
 ·exact .inr ⟨a,h1⟩
structure NB (n:Nat) (F:Nat → Tapi_Node):Prop where
 par:∀v,v < n→(F v).Parents.length≤1000000
 rows:∀v,v < n→(F v).Rows.length≤1000000
 row:∀v,v < n→∀r∈(F v).Rows,r.length≤1000000
def Qcc (x:Tapi_Node):Prop:=1≤x.Card∧x.Card≤4
def cardN (F:Nat → Tapi_Node) (v:Nat):Nat := (F v).Card.toNat
theorem Qys {F:Nat → Tapi_Node} {v:Nat} (h:Qcc (F v)):((cardN F v:Nat):Int)=(F v).Card:=by
 unfold cardN; have:=h.1; omega
theorem Qhv {F:Nat → Tapi_Node} {v:Nat} (h:Qcc (F v)):1≤cardN F v∧cardN F v≤4:=by
 unfold cardN; have:=h.1; have:=h.2; omega
theorem Qvo {n:Nat} {g:Int} {F:Nat → Tapi_Node} (hn:n≤8) :
  ((∀v,v < n→Qcc (F v))∧Qb fuel (X8 ⟨g,Qd n F⟩) ((1:Int),(0:Int),Qd n fun _=>(0:Int))=some (Sum.inr ((Xo n (cardN F):Int),Z7 n (cardN F)))) ∨
  ((¬ ∀v,v < n→Qcc (F v))∧Qb fuel (X8 ⟨g,Qd n F⟩) ((1:Int),(0:Int),Qd n fun _=>(0:Int))=some (Sum.inl ())):=by
 have hlen:(Qd n F).length=n:=Ya
 have h:=Jo (n:=n) (by omega) (fun v=>Qcc (F v)) (fun i (t:Int × List Int)=>(t.1,i,t.2)) (body:=X8 ⟨g,Qd n F⟩)
  (fun k=>((Xo k (cardN F):Int),Qd n fun j=>if j < k then (cardN F j:Int) else 0)) (Sum.inr ((Xo n (cardN F):Int),Z7 n (cardN F))) (Sum.inl ())
  (fun k hk hI hg=>by
   have b1:Xo k (cardN F)≤4^k:=Qo4 fun j hj=>(Qhv (hI j hj)).2
   have b2:(4:Nat)^k≤4^8:=Nat.pow_le_pow_right (by omega) (by omega)
   have b3:Xo k (cardN F)*cardN F k≤65536*4:=Nat.mul_le_mul (by omega) (Qhv hg).2
   have hc:=Qys hg
   have e1:(Xo k (cardN F):Int)*(F k).Card=((Xo (k+1) (cardN F):Nat):Int):=by rw [←hc]; simp [Xo]
   unfold X8
   dsimp only
   rw [hlen,if_pos (dlt hk),Xx hk,Option.bind_some,if_neg (by simp; exact hg.1),if_neg (by simp; exact hg.2),Xx hk,Option.bind_some,e1,w64 (n:=((Xo (k+1) (cardN F):Nat):Int)) (by simp only [Xo]; omega),Int.toNat_natCast,K3,←hc]
   congr 4
   refine Zk fun j hj=>?_
   by_cases e:j=k
   ·subst e; simp
   ·rw [if_neg e]
    by_cases e2:j < k
    ·rw [if_pos e2,if_pos (by omega)]
    ·rw [if_neg e2,if_neg (by omega)])
  (fun k hk hI hg=>by
   unfold X8
   dsimp only
   rw [hlen,if_pos (dlt hk),Xx hk,Option.bind_some]
   by_cases c:(F k).Card < 1
   ·rw [if_pos (by simpa using c)]
   ·rw [if_neg (by simpa using c),if_pos (by unfold Qcc at hg; simp; omega)])
  (fun hI=>by
   unfold X8
   dsimp only
   rw [hlen,if_neg (nlt n)]
   congr 4
   exact Zk fun j hj=>if_pos hj)
 have e0:(Qd n fun j=>if j < 0 then (cardN F j:Int) else 0)=Qd n fun _=>(0:Int):=Zk fun j _=>if_neg (by omega)
 simp only [e0] at h
 exact h
def Qhy (n:Nat) (l:List Int):Prop:=∃q:List Nat,l=nI q∧q.Pairwise (· < ·)∧∀p∈q,p < n
def Qhp (l:List Int) (k:Nat):Int:=if k=0 then -1 else (l[k - 1]?).getD 0
def Qjz (n:Nat) (l:List Int) (k:Nat):Prop:=Qhp l k < (l[k]?).getD 0∧(l[k]?).getD 0 < n
theorem Qmb {l:List Int} {k:Nat}:Qhp l (k+1)=(l[k]?).getD 0:=by simp [Qhp]
theorem Qhq {n:Nat} {l:List Int} {m:Nat} (h:∀j,j < m→Qjz n l j):∀k,k < m→0≤(l[k]?).getD 0∧∀j,j < k→(l[j]?).getD 0 < (l[k]?).getD 0
 | 0,hk=>⟨by have:=(h 0 hk).1; simp [Qhp] at this ⊢; omega,fun j hj=>by omega⟩
 | k+1,hk=>by
  obtain ⟨h1,h2⟩:=Qhq h k (by omega)
  have h3:=(h (k+1) hk).1
  rw [Qmb] at h3
  refine ⟨by omega,fun j hj=>?_⟩
  by_cases e:j=k
  ·rw [e]; exact h3
  ·have:=h2 j (by omega); omega
theorem Qwe {n:Nat} {l:List Int} (h:∀j,j < l.length→Qjz n l j):Qhy n l:=by
 have hm:=Qhq h
 have e:l=nI (l.map Int.toNat):=by
  unfold nI
  rw [List.map_map]
  conv=>lhs; rw [←List.map_id l]
  refine List.map_congr_left fun x hx=>?_
  obtain ⟨k,hk,rfl⟩:=List.mem_iff_getElem.1 hx
  have:=(hm k hk).1
  rw [List.getElem?_eq_getElem hk] at this
  simp at this ⊢; omega
 refine ⟨l.map Int.toNat,e,?_,fun p hp=>?_⟩
 ·rw [List.pairwise_map,List.pairwise_iff_getElem]
  intro i j hi hj hij
  have h1:=(hm j hj).2 i hij
  have h2:=(hm i hi).1
  rw [List.getElem?_eq_getElem hj,List.getElem?_eq_getElem hi] at h1
  rw [List.getElem?_eq_getElem hi] at h2
  simp at h1 h2; omega
 ·obtain ⟨x,hx,rfl⟩:=List.mem_map.1 hp
  obtain ⟨k,hk,rfl⟩:=List.mem_iff_getElem.1 hx
  have h1:=(h k hk).2
  have h2:=(hm k hk).1
  rw [List.getElem?_eq_getElem hk] at h1 h2
  simp at h1 h2; omega
theorem Qx3 {n:Nat} {l:List Int} (h:Qhy n l):∀j,j < l.length→Qjz n l j:=by
 obtain ⟨q,rfl,h1,h2⟩:=h
 intro j hj
 rw [Qo] at hj
 have e:∀k (hk:k < q.length),((nI q)[k]?).getD 0=(q[k]:Int):=fun k hk=>by simp [nI,hk]
 refine ⟨?_,?_⟩
 ·unfold Qhp
  rw [e j hj]
  by_cases c:j=0
  ·rw [if_pos c]; omega
  ·rw [if_neg c,e (j - 1) (by omega)]
   have:=List.pairwise_iff_getElem.1 h1 (j - 1) j (by omega) hj (by omega)
   omega
 ·rw [e j hj]
  have:=h2 _ (List.getElem_mem hj); omega
def Qi (F:Nat → Tapi_Node) (v:Nat):List Nat := (F v).Parents.map Int.toNat
theorem Qbu {n:Nat} {F:Nat → Tapi_Node} {v:Nat} (h:Qhy n (F v).Parents):(F v).Parents=nI (Qi F v)∧(Qi F v).Pairwise (· < ·)∧∀p∈Qi F v,p < n:=by
 obtain ⟨q,e,h1,h2⟩:=h
 have:Qi F v=q:=by
  unfold Qi; rw [e]; unfold nI; rw [List.map_map]
  conv=>rhs; rw [←List.map_id q]
  exact List.map_congr_left fun x _=>by simp
 rw [this]; exact ⟨e,h1,h2⟩
theorem Qoo {n:Nat} {q:List Nat} (h1:q.Pairwise (· < ·)) (h2:∀p∈q,p < n):q.length≤n:=by
 have:=K1 q (List.range n) (h1.imp fun h=>by omega) fun p hp=>List.mem_range.2 (h2 p hp)
 simpa using this
theorem Qrr {n v:Nat} {g:Int} {F:Nat → Tapi_Node} {x:Tapi_Node} {S:Nat → Int} {R:List Int} (hn:n≤8) (hv:v < n) (hb:x.Parents.length≤1000000) (h0:S v=0) (w:Int × List Int) (hw1:w.1=(v:Int)) :
  ((Qhy n x.Parents∧(v:Int) ∉ x.Parents)∧Qb fuel (Vq x ⟨g,Qd n F⟩ w) ((-1:Int),(0:Int),Qd n S)=some (Sum.inr (Qd n fun j=>if j=v then (bitsOf (x.Parents.map Int.toNat) 0:Int) else S j))) ∨
  (¬ (Qhy n x.Parents∧(v:Int) ∉ x.Parents)∧Qb fuel (Vq x ⟨g,Qd n F⟩ w) ((-1:Int),(0:Int),Qd n S)=some (Sum.inl ())):=by
 have hlen:(Qd n F).length=n:=Ya
 have h:=Jo (n:=x.Parents.length) (by omega) (fun k=>Qjz n x.Parents k∧(x.Parents[k]?).getD 0≠(v:Int)) (fun i (t:Int × List Int)=>(t.1,i,t.2)) (body:=Vq x ⟨g,Qd n F⟩ w)
  (fun k=>(Qhp x.Parents k,Qd n fun j=>if j=v then (bitsOf ((x.Parents.take k).map Int.toNat) 0:Int) else S j)) (Sum.inr (Qd n fun j=>if j=v then (bitsOf (x.Parents.map Int.toNat) 0:Int) else S j)) (Sum.inl ())
  (fun k hk hI hg=>by
   have hm:=Qhq (m:=k+1) (n:=n) (l:=x.Parents) fun j hj=>by
    by_cases e:j=k
    ·rw [e]; exact hg.1
    ·exact (hI j (by omega)).1
   have ek:lkI x.Parents (k:Int)=some ((x.Parents[k]?).getD 0):=by rw [Zm hk,List.getElem?_eq_getElem hk]; rfl
   have htake:(x.Parents.take (k+1)).map Int.toNat = (x.Parents.take k).map Int.toNat ++ [((x.Parents[k]?).getD 0).toNat]:=by
    rw [Zg hk,List.map_append,List.getElem?_eq_getElem hk]; rfl
   have hbl:bitsOf ((x.Parents.take k).map Int.toNat) 0 < 18446744073709551616:=Qbw _ _ (by omega) fun p hp=>by
    obtain ⟨y,hy,rfl⟩:=List.mem_map.1 hp
    obtain ⟨j,hj,rfl⟩:=List.mem_iff_getElem.1 hy
    have hj':j < k:=by rw [List.length_take] at hj; omega
    have h1:=(hI j hj').1.2
    have h2:=(hm j (by omega)).1
    rw [List.getElem?_eq_getElem (by omega)] at h1 h2
    rw [List.getElem_take]
    simp at h1 h2; omega
   obtain ⟨⟨g1,g2⟩,g3⟩:=hg
   have g4:=(hm k (by omega)).1
   generalize hp:(x.Parents[k]?).getD 0=p at *
   obtain ⟨p,rfl⟩:∃m:Nat,p=(m:Int):=⟨p.toNat,by omega⟩
   unfold Vq
   dsimp only
   rw [if_pos (dlt hk),ek,Option.bind_some,if_neg (by simp; omega),hlen,if_neg (by simp; omega),hw1,if_neg (by simp; omega),Xx hv,Option.bind_some,if_pos (Zi p),if_pos rfl,Qu5 hbl (by omega),Int.toNat_natCast,K3,htake,Qmb,hp,Qdu,Int.toNat_natCast]
   congr 4
   refine Zk fun j _=>?_
   by_cases e:j=v
   ·subst e; simp
   ·rw [if_neg e,if_neg e,if_neg e])
  (fun k hk hI hg=>by
   have ek:lkI x.Parents (k:Int)=some ((x.Parents[k]?).getD 0):=by rw [Zm hk,List.getElem?_eq_getElem hk]; rfl
   unfold Vq
   dsimp only
   rw [if_pos (dlt hk),ek,Option.bind_some]
   by_cases c1:(x.Parents[k]?).getD 0≤Qhp x.Parents k
   ·rw [if_pos (by simpa using c1)]
   ·rw [if_neg (by simpa using c1),hlen]
    by_cases c2:(x.Parents[k]?).getD 0≥(n:Int)
    ·rw [if_pos (by simpa using c2)]
    ·rw [if_neg (by simpa using c2),hw1,if_pos (by
      have:(x.Parents[k]?).getD 0=(v:Int):=by
       apply Classical.byContradiction
       intro h
       exact hg ⟨⟨by omega,by omega⟩,h⟩
      simpa using this)])
  (fun hI=>by
   unfold Vq
   dsimp only
   rw [if_neg (nlt _),List.take_of_length_le (Nat.le_refl _)])
 have hiff:(∀j,j < x.Parents.length→Qjz n x.Parents j∧(x.Parents[j]?).getD 0≠(v:Int))↔Qhy n x.Parents∧(v:Int) ∉ x.Parents:=by
  constructor
  ·intro h
   refine ⟨Qwe fun j hj=>(h j hj).1,fun hm=>?_⟩
   obtain ⟨k,hk,e⟩:=List.mem_iff_getElem.1 hm
   have:=(h k hk).2
   rw [List.getElem?_eq_getElem hk] at this
   exact this e
  ·rintro ⟨h1,h2⟩ j hj
   refine ⟨Qx3 h1 j hj,fun e=>h2 ?_⟩
   rw [List.getElem?_eq_getElem hj] at e
   rw [←show x.Parents[j]=(v:Int) from e]
   exact List.getElem_mem hj
 rw [hiff] at h
 have e0:(Qd n fun j=>if j=v then (bitsOf ((x.Parents.take 0).map Int.toNat) 0:Int) else S j)=Qd n S:=Zk fun j _=>by
  by_cases e:j=v
  ·rw [if_pos e,e,h0]; rfl
  ·rw [if_neg e]
 simp only [e0] at h
 exact h
end Go.Ab
namespace Go.Ab
open Go
set_option maxRecDepth 100000
set_option maxHeartbeats 400000
def Qvi (g c:Int) (r:List Int):Prop:=(r.length:Int)=c∧(∀w∈r,0≤w)∧r.sum=g
def Qm9 (g:Int) (C:Nat → Nat) (x:Tapi_Node) (q:List Nat):Prop:=x.Rows.length=lprod C q∧∀r∈x.Rows,Qvi g x.Card r
theorem Qlw {l:List Int} {k:Nat} (h:k < l.length):(l.take (k+1)).sum=(l.take k).sum+l[k]:=by
 rw [Zg h,List.sum_append]; simp
theorem Qh9:∀{l:List Int},(∀w∈l,0≤w)→0≤l.sum
 | [],_=>by simp
 | w::l,h=>by
  have h1:=h w (by simp)
  have h2:=Qh9 (l:=l) fun x hx=>h x (List.mem_cons_of_mem _ hx)
  rw [List.sum_cons]; omega
theorem Qy3 {l:List Int} {k:Nat} (h:∀w∈l,0≤w):(l.take k).sum≤l.sum∧0≤(l.take k).sum:=by
 have h1:l.sum=(l.take k).sum+(l.drop k).sum:=by rw [←List.sum_append,List.take_append_drop]
 have h2:=Qh9 (l:=l.drop k) fun w hw=>h w (List.mem_of_mem_drop hw)
 have h3:=Qh9 (l:=l.take k) fun w hw=>h w (List.mem_of_mem_take hw)
 omega
theorem Qqz {g:Int} {r:List Int} (hg:0≤g) (hg60:g≤60) (hr:r.length≤1000000) :
  (((∀w∈r,0≤w)∧r.sum≤g)∧Qb fuel (Zo r) (g,0)=some (.inr (g - r.sum)))∨(¬ ((∀w∈r,0≤w)∧r.sum≤g)∧Qb fuel (Zo r) (g,0)=some (.inl ())):=by
 have pre:∀k,k≤r.length→(∀j,j < k→0≤(r[j]?).getD 0∧(r[j]?).getD 0≤g - (r.take j).sum)→0≤(r.take k).sum∧(r.take k).sum≤g:=by
  intro k
  induction k with
  | zero=>intro _ _; simp; omega
  | succ k ih =>
   intro hk h
   have h1:=ih (by omega) fun j hj=>h j (by omega)
   have h2:=h k (by omega)
   rw [List.getElem?_eq_getElem (by omega)] at h2
   rw [Qlw (by omega)]
   simp at h2; omega
 have h:=Jo (n:=r.length) (by omega) (fun k=>0≤(r[k]?).getD 0∧(r[k]?).getD 0≤g - (r.take k).sum) (fun i (t:Int)=>(t,i)) (body:=Zo r)
  (fun k=>g - (r.take k).sum) (.inr (g - r.sum)) (.inl ())
  (fun k hk hI hgd=>by
   have hp:=pre k (by omega) hI
   have ek:lkI r (k:Int)=some r[k]:=Zm hk
   rw [List.getElem?_eq_getElem hk] at hgd
   simp only [Option.getD_some] at hgd
   unfold Zo
   dsimp only
   rw [if_pos (dlt hk),ek,Option.bind_some,if_neg (by simp; omega),if_neg (by simp; omega),w64 (n:=g - (r.take k).sum - r[k]) (by omega),Qlw hk]
   congr 3
   omega)
  (fun k hk hI hgd=>by
   have ek:lkI r (k:Int)=some r[k]:=Zm hk
   rw [List.getElem?_eq_getElem hk] at hgd
   simp only [Option.getD_some] at hgd
   unfold Zo
   dsimp only
   rw [if_pos (dlt hk),ek,Option.bind_some]
   by_cases c:r[k] < 0
   ·rw [if_pos (by simpa using c)]
   ·rw [if_neg (by simpa using c),if_pos (by simp; omega)])
  (fun hI=>by
   unfold Zo
   dsimp only
   rw [if_neg (nlt _),List.take_length])
 have hiff:(∀j,j < r.length→0≤(r[j]?).getD 0∧(r[j]?).getD 0≤g - (r.take j).sum)↔((∀w∈r,0≤w)∧r.sum≤g):=by
  constructor
  ·intro h
   have:=pre r.length (Nat.le_refl _) h
   rw [List.take_length] at this
   refine ⟨fun w hw=>?_,this.2⟩
   obtain ⟨k,hk,rfl⟩:=List.mem_iff_getElem.1 hw
   have:=(h k hk).1
   rw [List.getElem?_eq_getElem hk] at this
   exact this
  ·rintro ⟨h1,h2⟩ j hj
   rw [List.getElem?_eq_getElem hj]
   refine ⟨h1 _ (List.getElem_mem hj),?_⟩
   have h3:=(Qy3 (k:=j+1) h1).1
   rw [Qlw hj] at h3
   simp; omega
 rw [hiff] at h
 simp only [List.take_zero,List.sum_nil,Int.sub_zero] at h
 exact h
theorem Qk9 {n:Nat} {g:Int} {F:Nat → Tapi_Node} {C:Nat → Nat} {x:Tapi_Node} {q:List Nat} {sets order:List Int} (hg:0≤g) (hg60:g≤60) (hC:∀v,v < n→C v≤4) (hq:∀p∈q,p < n) (hl:q.length≤8) (hx:x.Parents=nI q) (hr:x.Rows.length≤1000000) (hrr:∀r∈x.Rows,r.length≤1000000) :
  (Qm9 g C x q∧Xs ⟨⟨g,Qd n F⟩,Z7 n C,sets,order⟩ x=some true)∨(¬ Qm9 g C x q∧Xs ⟨⟨g,Qd n F⟩,Z7 n C,sets,order⟩ x=some false):=by
 have bnd:∀k,lprod C (q.take k)≤65536:=fun k=>Nat.le_trans (Qim fun p hp=>hC p (hq p (List.mem_of_mem_take hp))) (Nat.le_trans (Nat.pow_le_pow_right (by omega) (by rw [List.length_take]; omega)) (Nat.le_of_eq (show 4^8=65536 from rfl)))
 have h0:=Vh (n:=q.length) (k0:=0) (by omega) (by omega) (fun i (t:Int)=>(t,i)) (body:=Yw x ⟨⟨g,Qd n F⟩,Z7 n C,sets,order⟩) (fun k=>(lprod C (q.take k):Int)) (lprod C q:Int)
  (fun k _ hk=>by
   have hp:=hq _ (List.getElem_mem hk)
   have e1:(lprod C (q.take k):Int)*(C q[k]:Int)=((lprod C (q.take (k+1)):Nat):Int):=by rw [Zg hk,Qet]; simp
   have:=bnd (k+1)
   unfold Yw
   dsimp only
   rw [hx,Qo,if_pos (dlt hk),Qbb hk,Option.bind_some,Qhr hp,Option.bind_some,e1,w64 (n:=((lprod C (q.take (k+1)):Nat):Int)) (by omega)])
  (by
   unfold Yw
   dsimp only
   rw [hx,Qo,if_neg (nlt _),List.take_length])
 simp only [List.take_zero,show lprod C []=1 from rfl] at h0
 rw [show (((1:Nat):Int),((0:Nat):Int))=((1:Int),(0:Int)) from rfl] at h0
 unfold Xs
 rw [h0,Option.bind_some]
 by_cases c:x.Rows.length=lprod C q
 ·rw [if_neg (by simp; omega)]
  have h:=Jo (n:=x.Rows.length) (by omega) (fun k=>∀r,x.Rows[k]?=some r→Qvi g x.Card r) (fun i (t:Unit)=>i) (body:=Xw x ⟨⟨g,Qd n F⟩,Z7 n C,sets,order⟩)
   (fun _=>()) (.inr ()) (.inl ())
   (fun k hk hI hgd=>by
    have ek:lkI x.Rows (k:Int)=some x.Rows[k]:=Zm hk
    obtain ⟨k1,k2,k3⟩:=hgd _ (List.getElem?_eq_getElem hk)
    unfold Xw
    dsimp only
    rw [if_pos (dlt hk),ek,Option.bind_some]
    rcases Qqz (g:=g) (r:=x.Rows[k]) hg hg60 (hrr _ (List.getElem_mem hk)) with ⟨_,e⟩ | ⟨no,_⟩
    ·rw [e,Option.bind_some]
     dsimp only
     rw [if_neg (by simp; omega),if_neg (by simp; omega)]
    ·exact absurd ⟨k2,by omega⟩ no)
   (fun k hk hI hgd=>by
    have ek:lkI x.Rows (k:Int)=some x.Rows[k]:=Zm hk
    unfold Xw
    dsimp only
    rw [if_pos (dlt hk),ek,Option.bind_some]
    rcases Qqz (g:=g) (r:=x.Rows[k]) hg hg60 (hrr _ (List.getElem_mem hk)) with ⟨hok,e⟩ | ⟨no,e⟩
    ·rw [e,Option.bind_some]
     dsimp only
     by_cases c2:(x.Rows[k].length:Int)=x.Card
     ·rw [if_neg (by simp; omega),if_pos (by
       have:g - x.Rows[k].sum≠0:=fun h0=>hgd fun r hr=>by
        rw [List.getElem?_eq_getElem hk] at hr; cases hr
        exact ⟨c2,hok.1,by omega⟩
       simpa using this)]
     ·rw [if_pos (by simpa using c2)]
    ·rw [e,Option.bind_some])
   (fun hI=>by
    unfold Xw
    dsimp only
    rw [if_neg (nlt _)])
  have hiff:(∀j,j < x.Rows.length→∀r,x.Rows[j]?=some r→Qvi g x.Card r)↔Qm9 g C x q:=by
   constructor
   ·intro h
    refine ⟨c,fun r hr=>?_⟩
    obtain ⟨k,hk,rfl⟩:=List.mem_iff_getElem.1 hr
    exact h k hk _ (List.getElem?_eq_getElem hk)
   ·rintro ⟨_,h⟩ j hj r hr
    exact h r (List.mem_of_getElem? hr)
  rw [hiff] at h
  rcases h with ⟨h1,h2⟩ | ⟨h1,h2⟩
  ·exact .inl ⟨h1,by rw [show ((0:Nat):Int)=0 from rfl] at h2; rw [h2]; rfl⟩
  ·exact .inr ⟨h1,by rw [show ((0:Nat):Int)=0 from rfl] at h2; rw [h2]; rfl⟩
 ·rw [if_pos (by simp; omega)]
  exact .inr ⟨fun h=>c h.1,rfl⟩
def setF (F:Nat → Tapi_Node) (v:Nat):Nat := bitsOf (Qi F v) 0
def Qnm (n:Nat) (g:Int) (F:Nat → Tapi_Node) (v:Nat):Prop:=(Qhy n (F v).Parents∧(v:Int) ∉ (F v).Parents)∧Qm9 g (cardN F) (F v) (Qi F v)
theorem Qxf {n:Nat} {g w:Int} {F:Nat → Tapi_Node} (hn:n≤8) (hg:0≤g) (hg60:g≤60) (hb:NB n F) (hC:∀v,v < n→Qcc (F v)) :
  ((∀v,v < n→Qnm n g F v)∧Qb fuel (X5 ⟨g,Qd n F⟩ (w,Z7 n (cardN F))) ((0:Int),Qd n fun _=>(0:Int))=some (Sum.inr (Z7 n (setF F)))) ∨
  ((¬ ∀v,v < n→Qnm n g F v)∧Qb fuel (X5 ⟨g,Qd n F⟩ (w,Z7 n (cardN F))) ((0:Int),Qd n fun _=>(0:Int))=some (Sum.inl ())):=by
 have hlen:(Qd n F).length=n:=Ya
 have h:=Jo (n:=n) (by omega) (Qnm n g F) (fun i (t:List Int)=>(i,t)) (body:=X5 ⟨g,Qd n F⟩ (w,Z7 n (cardN F)))
  (fun k=>Qd n fun j=>if j < k then (setF F j:Int) else 0) (.inr (Z7 n (setF F))) (.inl ())
  (fun v hv hI hgd=>by
   unfold X5
   dsimp only
   rw [hlen,if_pos (dlt hv),Xx hv,Option.bind_some]
   rcases Qrr (n:=n) (v:=v) (g:=g) (F:=F) (x:=F v) (S:=fun j=>if j < v then (setF F j:Int) else 0) (R:=[]) hn hv (hb.par v hv) (if_neg (by omega)) ((v:Int),Qd n fun j=>if j < v then (setF F j:Int) else 0) rfl with ⟨_,e⟩ | ⟨no,_⟩
   ·rw [e,Option.bind_some]
    dsimp only
    obtain ⟨p1,p2,p3⟩:=Qbu hgd.1.1
    rcases Qk9 (n:=n) (g:=g) (F:=F) (C:=cardN F) (x:=F v) (q:=Qi F v) (sets:=Qd n fun j=>if j=v then (bitsOf ((F v).Parents.map Int.toNat) 0:Int) else if j < v then (setF F j:Int) else 0) (order:=[]) hg hg60 (fun u hu=>(Qhv (hC u hu)).2) p3 (by have:=Qoo p2 p3; omega) p1 (hb.rows v hv) (hb.row v hv) with ⟨_,e2⟩ | ⟨no,_⟩
    ·rw [e2,Option.bind_some,if_neg (by decide)]
     congr 3
     refine Zk fun j _=>?_
     by_cases c:j=v
     ·subst c; rw [if_pos rfl,if_pos (by omega)]; rfl
     ·rw [if_neg c]
      by_cases c2:j < v
      ·rw [if_pos c2,if_pos (by omega)]
      ·rw [if_neg c2,if_neg (by omega)]
    ·exact absurd hgd.2 no
   ·exact absurd hgd.1 no)
  (fun v hv hI hgd=>by
   unfold X5
   dsimp only
   rw [hlen,if_pos (dlt hv),Xx hv,Option.bind_some]
   rcases Qrr (n:=n) (v:=v) (g:=g) (F:=F) (x:=F v) (S:=fun j=>if j < v then (setF F j:Int) else 0) (R:=[]) hn hv (hb.par v hv) (if_neg (by omega)) ((v:Int),Qd n fun j=>if j < v then (setF F j:Int) else 0) rfl with ⟨hp,e⟩ | ⟨no,e⟩
   ·rw [e,Option.bind_some]
    dsimp only
    obtain ⟨p1,p2,p3⟩:=Qbu hp.1
    rcases Qk9 (n:=n) (g:=g) (F:=F) (C:=cardN F) (x:=F v) (q:=Qi F v) (sets:=Qd n fun j=>if j=v then (bitsOf ((F v).Parents.map Int.toNat) 0:Int) else if j < v then (setF F j:Int) else 0) (order:=[]) hg hg60 (fun u hu=>(Qhv (hC u hu)).2) p3 (by have:=Qoo p2 p3; omega) p1 (hb.rows v hv) (hb.row v hv) with ⟨hf,_⟩ | ⟨no,e2⟩
    ·exact absurd ⟨hp,hf⟩ hgd
    ·rw [e2,Option.bind_some,if_pos (by decide)]
   ·rw [e,Option.bind_some])
  (fun hI=>by
   unfold X5
   dsimp only
   rw [hlen,if_neg (nlt n)]
   congr 3
   exact Zk fun j hj=>if_pos hj)
 have e0:(Qd n fun j=>if j < 0 then (setF F j:Int) else 0)=Qd n fun _=>(0:Int):=Zk fun j _=>if_neg (by omega)
 simp only [e0] at h
 exact h
end Go.Ab
namespace Go.Ab
open Go
set_option maxRecDepth 100000
set_option maxHeartbeats 400000
def Qlz (n:Nat) (q:Nat → List Nat):Prop:=∃rk:Nat → Nat,∀v,v < n→∀p∈q v,rk p < rk v
theorem Qw8:∀(l:List Nat),lprod (fun _=>1) l=1:=fun l=>by
 have:∀(l:List Nat) (r:Nat),l.foldl (fun r _=>r*1) r=r:=fun l=>by
  induction l with
  | nil=>intro r; rfl
  | cons a l ih=>intro r; simp only [List.foldl_cons]; rw [ih]; omega
 exact this l 1
theorem Qmx:∀n,Xo n (fun _=>1)=1
 | 0=>rfl
 | n+1=>by simp [Xo,Qmx n]
theorem Qv1 {n:Nat} {q:Nat → List Nat} (h1:1≤n) (hn:n≤8) (hq:∀v,v < n→(q v).Pairwise (· < ·)∧(∀p∈q v,p < n)∧v ∉ q v) (hr:Qlz n q):∃o,X3 (Z7 n fun v=>bitsOf (q v) 0)=some (o,true):=by
 let D:NF:=⟨n,1,fun _=>1,q,fun _ _ _=>1⟩
 have hrows:∀v,D.rows v=1:=fun v=>Qw8 (q v)
 exact Qyh (D:=D) ⟨⟨h1,hn,Nat.le_refl _,by show 1≤60; omega,fun v hv=>⟨Nat.le_refl _,by show 1≤4; omega⟩,fun v hv=>(hq v hv).2.1,fun v hv=>Nat.le_trans (Qoo (hq v hv).1 (hq v hv).2.1) hn,fun v r x hv hr hx=>Nat.le_refl _,by show Xo n (fun _=>1)≤1024; rw [Qmx]; omega⟩,
  fun v hv=>(hq v hv).1,fun v hv=>(hq v hv).2.2,hr,fun v r hv hr=>rfl⟩
theorem Qv2 {n:Nat} {q:Nat → List Nat} (hn:n≤8) (hq:∀v,v < n→∀p∈q v,p < n):∃r,Qb fuel (Xh (Z7 n fun v=>bitsOf (q v) 0)) ((0:Int),([]:List Int))=some r∧(r=.inl ()∨∃o,r=.inr o∧Qlz n q):=by
 have hlen:(Z7 n fun v=>bitsOf (q v) 0).length=n:=Qhh
 refine V1 (body:=Xh (Z7 n fun v=>bitsOf (q v) 0)) (fun s=>∃l:List Nat,l.Nodup∧(∀p∈l,p < n)∧(∀i (hi:i < l.length),∀p∈q l[i],p∈l.take i)∧s=((bitsOf l 0:Int),nI l)) (fun s=>n - s.2.length) (fun r=>r=.inl ()∨∃o,r=.inr o∧Qlz n q)
  (fun s hs=>?_) ((0:Int),([]:List Int)) ⟨[],List.nodup_nil,by simp,by simp,rfl⟩ (by show n - 0 < 1152921504606846976; omega)
 obtain ⟨l,hnd,hl,hb,rfl⟩:=hs
 have hll:l.length≤n:=by
  have:=K1 l (List.range n) hnd fun p hp=>List.mem_range.2 (hl p hp)
  simpa using this
 have hdl:bitsOf l 0 < 18446744073709551616:=Qbw _ _ (by omega) fun p hp=>by have:=hl p hp; omega
 by_cases hc:l.length < n
 ·
  have hsr:=Jq (n:=n) (k0:=0) (by omega) (by omega) (fun i (_:Unit)=>i) (body:=Vk (Z7 n fun v=>bitsOf (q v) 0) ((bitsOf l 0:Int),nI l)) (fun _ _=>True)
   (fun r=>r=.inr ()∨∃v,v < n∧v ∉ l∧(∀p∈q v,p∈l)∧r=.inl (((bitsOf (l++[v]) 0:Nat):Int),nI (l++[v])))
   (fun k _ _ hk _=>by
    have hbk:(bitsOf l 0).testBit k=decide (k∈l):=by rw [X7]; simp
    have hsl:bitsOf (q k) 0 < 18446744073709551616:=Qbw _ _ (by omega) fun p hp=>by have:=hq k hk p hp; omega
    unfold Vk
    dsimp only
    rw [hlen,if_pos (dlt hk),Qhr hk,Option.bind_some,if_pos (Zi k),Qb8 hdl (by omega),hbk]
    by_cases hkl:k∈l
    ·left
     rw [if_neg (by simp [hkl])]
     exact ⟨(),rfl,trivial⟩
    ·rw [if_pos (by simp [hkl])]
     by_cases hsub:∀p∈q k,p∈l
     ·right
      rw [if_pos ((Qnu hsl hdl).2 fun j hj=>by
       rw [X7] at hj
       rw [X7]
       simp at hj ⊢
       exact hsub j hj),if_pos (by rw [List.length_append,Qo]; simp; omega),if_pos (Zi k),Qu5 hdl (by omega)]
      exact ⟨_,rfl,.inr ⟨k,hk,hkl,hsub,by rw [Qdu]; unfold nI; simp⟩⟩
     ·left
      rw [if_neg (fun hc'=>hsub fun p hp=>by
       have:=(Qnu hsl hdl).1 hc' p (by rw [X7]; simpa using hp)
       rw [X7] at this
       simpa using this)]
      exact ⟨(),rfl,trivial⟩)
   (fun _ _=>⟨_,by unfold Vk; dsimp only; rw [hlen,if_neg (nlt n)],.inl rfl⟩) () trivial
  obtain ⟨r,e1,e2⟩:=hsr
  rcases e2 with rfl | ⟨v,hv,hvl,hvq,rfl⟩
  ·right
   refine ⟨_,?_,.inl rfl⟩
   unfold Xh
   dsimp only
   rw [Qo,hlen,if_pos (dlt hc),show (0:Int)=((0:Nat):Int) from rfl,e1]; rfl
  ·left
   refine ⟨(((bitsOf (l++[v]) 0:Nat):Int),nI (l++[v])),?_,⟨l++[v],?_,?_,?_,rfl⟩,by rw [Qo,Qo,List.length_append]; simp; omega⟩
   ·unfold Xh
    dsimp only
    rw [Qo,hlen,if_pos (dlt hc),show (0:Int)=((0:Nat):Int) from rfl,e1]; rfl
   ·rw [List.nodup_append]
    exact ⟨hnd,by simp,fun a ha b hb=>by simp at hb; subst hb; exact fun e=>hvl (e ▸ ha)⟩
   ·intro p hp
    rcases List.mem_append.1 hp with h | h
    ·exact hl p h
    ·simp at h; omega
   ·intro i hi p hp
    rw [List.length_append] at hi
    by_cases c:i < l.length
    ·rw [List.getElem_append_left c] at hp
     rw [List.take_append_of_le_length (by omega)]
     exact hb i c p hp
    ·have:i=l.length:=by simp at hi; omega
     subst this
     rw [List.getElem_append_right (by omega)] at hp
     simp at hp
     rw [List.take_append_of_le_length (by omega),List.take_length]
     exact hvq p hp
 ·right
  refine ⟨_,?_,.inr ⟨nI l,rfl,fun v=>l.idxOf v,fun v hv p hp=>?_⟩⟩
  ·unfold Xh
   dsimp only
   rw [Qo,hlen,if_neg (by simp; omega)]
  ·have hvl:v∈l:=Qbh hnd hl (by omega) v hv
   have hi:=List.idxOf_lt_length_of_mem hvl
   have:=hb (l.idxOf v) hi p (by rw [List.getElem_idxOf hi]; exact hp)
   exact Ql5 this
theorem Qs5 {n:Nat} {q:Nat → List Nat} (h1:1≤n) (hn:n≤8) (hq:∀v,v < n→(q v).Pairwise (· < ·)∧(∀p∈q v,p < n)∧v ∉ q v) :
  (Qlz n q∧∃o,X3 (Z7 n fun v=>bitsOf (q v) 0)=some (o,true))∨(¬ Qlz n q∧X3 (Z7 n fun v=>bitsOf (q v) 0)=some ([],false)):=by
 by_cases hr:Qlz n q
 ·exact .inl ⟨hr,Qv1 h1 hn hq hr⟩
 ·right
  refine ⟨hr,?_⟩
  obtain ⟨r,e1,e2⟩:=Qv2 hn fun v hv=>(hq v hv).2.1
  rcases e2 with rfl | ⟨o,rfl,h⟩
  ·unfold X3
   rw [if_pos (by rw [Qhh]; omega)]
   simp only [Int.toNat_zero,List.replicate_zero]
   rw [e1]; rfl
  ·exact absurd h hr
structure K4 (n:Nat) (g:Int) (F:Nat → Tapi_Node):Prop where
 g1:1≤g
 g60:g≤60
 n1:1≤n
 n8:n≤8
 card:∀v,v < n→Qcc (F v)
 worlds:Xo n (cardN F)≤1024
 node:∀v,v < n→Qnm n g F v
 rank:Qlz n (Qi F)
def Q2k:Qw × Int:=(⟨⟨0,[]⟩,[],[],[]⟩,50)
theorem Qpo {n:Nat} {g:Int} {F:Nat → Tapi_Node} (hb:NB n F) (hbig:n≤1000000) :
  (K4 n g F∧∃o,Ka ⟨g,Qd n F⟩=some (⟨⟨g,Qd n F⟩,Z7 n (cardN F),Z7 n (setF F),o⟩,0))∨(¬ K4 n g F∧Ka ⟨g,Qd n F⟩=some Q2k):=by
 have hlen:(Qd n F).length=n:=Ya
 unfold Ka
 dsimp only
 rw [hlen]
 by_cases c1:g < 1
 ·rw [if_pos (by simpa using c1)]; exact .inr ⟨fun h=>by have:=h.g1; omega,rfl⟩
 rw [if_neg (by simpa using c1)]
 by_cases c2:g > 60
 ·rw [if_pos (by simpa using c2)]; exact .inr ⟨fun h=>by have:=h.g60; omega,rfl⟩
 rw [if_neg (by simpa using c2)]
 by_cases c3:n < 1
 ·rw [if_pos (by simp; omega)]; exact .inr ⟨fun h=>by have:=h.n1; omega,rfl⟩
 rw [if_neg (by simp; omega)]
 by_cases c4:n > 8
 ·rw [if_pos (by simp; omega)]; exact .inr ⟨fun h=>by have:=h.n8; omega,rfl⟩
 rw [if_neg (by simp; omega),if_pos (by omega),if_pos (by omega),Int.toNat_natCast,Qlq]
 rcases Qvo (n:=n) (g:=g) (F:=F) (by omega) with ⟨hC,e⟩ | ⟨hC,e⟩
 ·rw [e,Option.bind_some]
  dsimp only
  by_cases c5:Xo n (cardN F) > 1024
  ·rw [if_pos (by simp; omega)]; exact .inr ⟨fun h=>by have:=h.worlds; omega,rfl⟩
  rw [if_neg (by simp; omega)]
  rcases Qxf (n:=n) (g:=g) (w:=(Xo n (cardN F):Int)) (F:=F) (by omega) (by omega) (by omega) hb hC with ⟨hN,e⟩ | ⟨hN,e⟩
  ·rw [e,Option.bind_some]
   dsimp only
   rcases Qs5 (n:=n) (q:=Qi F) (by omega) (by omega) (fun v hv=>by
    obtain ⟨p1,p2,p3⟩:=Qbu (hN v hv).1.1
    refine ⟨p2,p3,fun h=>(hN v hv).1.2 ?_⟩
    rw [p1]; unfold nI; exact List.mem_map.2 ⟨v,h,rfl⟩) with ⟨hR,o,e⟩ | ⟨hR,e⟩
   ·left
    refine ⟨⟨by omega,by omega,by omega,by omega,hC,by omega,hN,hR⟩,o,?_⟩
    rw [show (Z7 n (setF F))=(Z7 n fun v=>bitsOf (Qi F v) 0) from rfl,e,Option.bind_some,if_neg (by simp)]
   ·right
    refine ⟨fun h=>hR h.rank,?_⟩
    rw [show (Z7 n (setF F))=(Z7 n fun v=>bitsOf (Qi F v) 0) from rfl,e,Option.bind_some,if_pos (by simp)]; rfl
  ·rw [e,Option.bind_some]; exact .inr ⟨fun h=>hN h.node,rfl⟩
 ·rw [e,Option.bind_some]; exact .inr ⟨fun h=>hC h.card,rfl⟩
end Go.Ab
namespace Go.Ab
open Go
set_option maxRecDepth 100000
set_option maxHeartbeats 400000
theorem Q3b {a b:Nat} (ha:a < 18446744073709551616) (hb:b < 18446744073709551616):zv (zb (a:Int) ||| zb (b:Int)).toNat = ((a ||| b:Nat):Int):=by
 rw [BitVec.toNat_or,V8 ha,V8 hb,Ji (Nat.or_lt_two_pow (n:=64) ha hb)]
def Qga (a b:Nat):Prop:=∀j,a.testBit j=true→b.testBit j=true
theorem Qga.refl {a:Nat}:Qga a a:=fun _ h=>h
theorem Qga.trans {a b c:Nat} (h:Qga a b) (k:Qga b c):Qga a c:=fun j hj=>k j (h j hj)
theorem Q2t {n s:Nat} (h:∀j,s.testBit j=true→j < n):s < 2^n:=by
 apply Nat.lt_pow_two_of_testBit
 intro i hi
 rw [Bool.eq_false_iff]; intro hj
 have:=h i hj; omega
end Go.Ab
namespace Go.Ab
open Go
set_option maxRecDepth 100000
set_option maxHeartbeats 400000
structure Qvu (m:Nat) (x:Tapi_Node):Prop where
 par:x.Parents.length≤m
 rows:x.Rows.length≤m
 row:∀r∈x.Rows,r.length≤m
end Go.Ab
namespace Go.Ab
open Go
set_option maxRecDepth 100000
set_option maxHeartbeats 400000
def PG (q:Nat → List Nat):Gr:=fun v i=>decide (i∈q v)
def FG (q:Nat → List Nat):Gr:=fun v i=>decide (v=i) || decide (i∈q v)
def mgk (q:Nat → List Nat) (k:Nat):Gr:=fun u w=>!decide (u=w) && (List.range k).any fun v=>FG q v u && FG q v w
def mg (n:Nat) (q:Nat → List Nat):Gr:=fun u w=>decide (u < n) && decide (w < n) && mgk q n u w
theorem Qt8 {n:Nat} {F:Nat → Tapi_Node} (hn:n≤8) (h:∀v,v < n→∀p∈Qi F v,p < n):Z7 n (setF F)=gl n (PG (Qi F)):=by
 unfold Z7 Qd gl
 refine List.map_congr_left fun v hv=>?_
 have hv:=List.mem_range.1 hv
 have:setF F v=msk n (PG (Qi F) v):=Kf (Q2t fun j hj=>h v hv j (by unfold setF at hj; rw [X7] at hj; simpa using hj)) fun i _=>by
  unfold setF PG; rw [X7]; simp
 rw [this]
theorem Qhf {n:Nat} {q:Nat → List Nat}:Vx n (mg n q):=by
 refine ⟨fun u w=>?_,fun u=>?_,fun u w h=>?_⟩
 ·unfold mg mgk
  rw [Bool.eq_iff_iff]
  simp only [Bool.and_eq_true,Bool.not_eq_true',decide_eq_false_iff_not,List.any_eq_true,decide_eq_true_eq]
  constructor <;> rintro ⟨⟨a,b⟩,c,v,d,e,f⟩ <;> exact ⟨⟨b,a⟩,fun h=>c h.symm,v,d,f,e⟩
 ·unfold mg mgk; simp
 ·unfold mg at h
  simp only [Bool.and_eq_true,decide_eq_true_eq] at h
  exact h.1.1
theorem Qz9 {q:Nat → List Nat} {k:Nat}:mgk q (k+1)=fun u w=>mgk q k u w || (!decide (u=w) && (FG q k u && FG q k w)):=by
 funext u w
 unfold mgk
 rw [List.range_succ,List.any_append]
 simp only [List.any_cons,List.any_nil,Bool.or_false]
 cases decide (u=w) <;> simp
theorem Qyw {n k:Nat} {q:Nat → List Nat} (hn:n≤10) (hk:k < n):zv (zb ((msk n (PG q k):Nat):Int) ||| zb (zv (1*2^min (Int.toNat (k:Int)) (IntKind.bits .u64)))).toNat = ((msk n (FG q k):Nat):Int):=by
 rw [Qhu hn hk]
 congr 1
 exact Yu fun i _=>by unfold PG FG; rw [Bool.or_comm]
theorem Qzx {n:Nat} {q:Nat → List Nat} {N:Qg} {C o:List Int} (h1:1≤n) (hn:n≤8):V9 ⟨N,C,gl n (PG q),o⟩=some (gl n (mg n q)):=by
 have inner:∀k,k < n→Qb fuel (X1 ((k:Int),gl n (mgk q k)) ((msk n (PG q k):Nat):Int)) ((0:Int),gl n (mgk q k))=some (gl n (mgk q (k+1))):=fun k hk=>by
  have h:=Vh (n:=n) (k0:=0) (by omega) (by omega) (fun i (t:List Int)=>(i,t)) (body:=X1 ((k:Int),gl n (mgk q k)) ((msk n (PG q k):Nat):Int)) (fun j=>gl n fun u w=>mgk q k u w || (decide (u < j) && (!decide (u=w) && (FG q k u && FG q k w)))) (gl n (mgk q (k+1)))
   (fun j _ hj=>by
    unfold X1
    dsimp only
    rw [Z1,if_pos (dlt hj),if_pos (Zi j),Qyw (by omega) hk,Qb8 (Qoa (by omega) (Z2 n _)) (by omega),Jr j hj]
    by_cases c:FG q k j=true
    ·rw [c,if_pos (by decide),J8 hj,Option.bind_some,if_pos (Zi j),Qp9 (by omega) (by omega),Qz5 (n:=n) (by omega) (Z2 n _) (Z2 n _) Jr Jr,Qer]
     congr 3
     refine gl_congr fun u w hu hw=>?_
     simp only [upd]
     grind
    ·rw [Bool.not_eq_true] at c
     rw [c,if_neg (by decide)]
     congr 3
     refine gl_congr fun u w hu hw=>?_
     grind)
   (by
    unfold X1
    dsimp only
    rw [Z1,if_neg (nlt n),Qz9]
    congr 2
    refine gl_congr fun u w hu hw=>?_
    simp [hu])
  have e0:(gl n fun u w=>mgk q k u w || (decide (u < 0) && (!decide (u=w) && (FG q k u && FG q k w))))=gl n (mgk q k):=gl_congr fun u w _ _=>by simp
  simp only [e0] at h
  exact h
 have h:=Vh (n:=n) (k0:=0) (by omega) (by omega) (fun i (t:List Int)=>(i,t)) (body:=Va ⟨N,C,gl n (PG q),o⟩) (fun k=>gl n (mgk q k)) (gl n (mg n q))
  (fun k _ hk=>by
   unfold Va
   dsimp only
   rw [Z1,if_pos (dlt hk),J8 hk,Option.bind_some,if_pos (Zi k),inner k hk]; rfl)
  (by
   unfold Va
   dsimp only
   rw [Z1,if_neg (nlt n)]
   congr 2
   refine gl_congr fun u w hu hw=>?_
   unfold mg; simp [hu,hw])
 have e0:gl n (mgk q 0)=gl n fun _ _=>false:=gl_congr fun u w _ _=>by unfold mgk; simp
 simp only [e0] at h
 unfold V9
 dsimp only
 rw [Z1,if_pos (by omega),Int.toNat_natCast,Q06]
 rw [show ((0:Nat):Int)=0 from rfl] at h
 rw [h]; rfl
end Go.Ab
namespace Go.Ab
open Go
set_option maxRecDepth 100000
set_option maxHeartbeats 400000
def setP (A:Gr) (v:Nat):Nat → Bool:=fun i=>A v i || decide (v=i)
def Q0 (n:Nat):Gr→List Nat → List Nat
 | _,[]=>[]
 | A,v::o=>msk n (setP A v)::Q0 n (elim A v) o
def subB (a b:Nat):Bool:=Nat.beq (a &&& b) a
def Kn (acc:List Nat) (s:Nat):List Nat := if acc.any (subB s) then acc else acc++[s]
def Zx (l:List Nat):List Nat := l.foldl Kn []
theorem Yr {a b:Nat}:subB a b=true↔Qga a b:=by
 unfold subB Qga
 rw [Nat.beq_eq]
 constructor
 ·intro h j hj
  rw [←h,Nat.testBit_and,Bool.and_eq_true] at hj
  exact hj.2
 ·intro h
  refine Nat.eq_of_testBit_eq fun j=>?_
  rw [Nat.testBit_and]
  cases ha:a.testBit j with
  | true=>rw [h j ha]; rfl
  | false=>rfl
theorem Qpg {n:Nat}:∀(o:List Nat) (A:Gr) (v:Nat),Q0 n A (o++[v])=Q0 n A o++[msk n (setP (seqA A o) v)]
 | [],A,v=>rfl
 | u::o,A,v=>by
  simp only [List.cons_append,Q0]
  rw [Qpg o (elim A u) v]; rfl
theorem Qfe {n:Nat}:∀(o:List Nat) (A:Gr),(Q0 n A o).length=o.length
 | [],A=>rfl
 | u::o,A=>by simp only [Q0,List.length_cons]; rw [Qfe o]
theorem Qeg {n:Nat}:∀(o:List Nat) (A:Gr),∀s∈Q0 n A o,s < 2^n
 | [],A,s,h=>by cases h
 | u::o,A,s,h=>by
  simp only [Q0,List.mem_cons] at h
  rcases h with h | h
  ·rw [h]; exact Z2 n _
  ·exact Qeg o _ s h
theorem Qhl {l:List Nat} {s:Nat}:Zx (l++[s])=Kn (Zx l) s:=by unfold Zx; rw [List.foldl_append]; rfl
theorem Qkm:∀(l acc:List Nat),(l.foldl Kn acc).length≤acc.length+l.length∧∀s∈l.foldl Kn acc,s∈acc∨s∈l
 | [],acc=>⟨by simp,fun s h=>.inl h⟩
 | x::l,acc=>by
  obtain ⟨h1,h2⟩:=Qkm l (Kn acc x)
  have h3:(Kn acc x).length≤acc.length+1∧∀s∈Kn acc x,s∈acc∨s=x:=by
   unfold Kn; split
   ·exact ⟨by omega,fun s h=>.inl h⟩
   ·exact ⟨by simp,fun s h=>by
     rcases List.mem_append.1 h with h | h
     ·exact .inl h
     ·simp at h; exact .inr h⟩
  refine ⟨by simp only [List.foldl_cons,List.length_cons]; omega,fun s hs=>?_⟩
  rcases h2 s hs with h | h
  ·rcases h3.2 s h with h | h
   ·exact .inl h
   ·exact .inr (by simp [h])
  ·exact .inr (List.mem_cons_of_mem _ h)
theorem Qft {l:List Nat} {s:Nat} (h:s∈Zx l):s∈l:=by
 rcases (Qkm l []).2 s h with h | h
 ·cases h
 ·exact h
theorem Qpf {l:List Nat}:(Zx l).length≤l.length:=by have:=(Qkm l []).1; unfold Zx; simpa using this
theorem Kw {a b:Nat} (ha:a < 18446744073709551616) (hb:b < 18446744073709551616) :
  ((zv (zb (a:Int) &&& ~~~ zb (b:Int)).toNat == 0)=true)↔subB a b=true:=by rw [Qnu ha hb,Yr]; rfl
theorem Qxd {n k:Nat} {A N:Gr} {o:List Nat} (hn:n≤8) (hG:Vx n A) (hk:k < o.length) (hl:∀v∈o,v < n) (hnd:o.Nodup) (hN:∀u w,u < n→w < n→u ∉ o.take k→w ∉ o.take k→N u w=seqA A (o.take k) u w) :
  zv (zb (zv (zb ((msk n (N o[k]):Nat):Int) &&& zb ((msk 64 (fun i=>!(o.take k).contains i):Nat):Int)).toNat) ||| zb (zv (1*2^min (Int.toNat ((o[k]:Nat):Int)) (IntKind.bits .u64)))).toNat = ((msk n (setP (seqA A (o.take k)) o[k]):Nat):Int):=by
 have hv:=hl _ (List.getElem_mem hk)
 have hnot:=Qfb hnd hk
 rw [Q3o (n:=n) (q:=fun i=>!(o.take k).contains i) (by omega) (Z2 n _) (Z2 64 _) Jr (fun i hi=>by rw [Zl]; simp; omega),Qhu (by omega) hv]
 congr 1
 refine Yu fun i hi=>?_
 unfold setP
 by_cases c:i∈o.take k
 ·have:=Qh3 (o:=o.take k) hG (.inl c) o[k]
  rw [(Qf3 (o:=o.take k) hG).sym,this]
  simp [c]
 ·rw [hN _ _ hv hi hnot c]
  simp [c]
theorem Qwi {n:Nat} {A B N:Gr} {v:Nat} {done:Nat → Prop} (hB:∀u w,u < n→w < n→¬ done u→¬ done w→N u w=B u w):∀u w,u < n→w < n→¬ (done u∨u=v)→¬ (done w∨w=v)→(N u w || (setP B v u && (setP B v w && !decide (u=w))))=elim B v u w:=fun u w hu hw h1 h2=>by
 have e:=hB u w hu hw (fun h=>h1 (.inl h)) (fun h=>h2 (.inl h))
 have e1:¬ u=v:=fun h=>h1 (.inr h)
 have e2:¬ w=v:=fun h=>h2 (.inr h)
 unfold setP elim
 rw [e]
 have e1':¬ v=u:=fun h=>e1 h.symm
 have e2':¬ v=w:=fun h=>e2 h.symm
 simp [e1,e2,e1',e2',Bool.and_assoc]
theorem Qvt {n:Nat} {A:Gr} {o:List Nat} (h1:1≤n) (hn:n≤8) (hG:Vx n A) (hl:∀v∈o,v < n) (hnd:o.Nodup):Vz ⟨⟨gl n A⟩,nI o⟩=some (nI (Zx (Q0 n A o))):=by
 have hol:=K1 o (List.range n) hnd fun v hv=>List.mem_range.2 (hl v hv)
 rw [List.length_range] at hol
 have p8:(2:Nat)^n≤256:=Nat.pow_le_pow_right (n:=2) (by omega) hn
 have step:∀(k:Nat) (N:Gr) (hk:k < o.length),(∀u w,u < n→w < n→u ∉ o.take k→w ∉ o.take k→N u w=seqA A (o.take k) u w) →
   Xv ⟨⟨gl n A⟩,nI o⟩ (((msk 64 (fun i=>!(o.take k).contains i):Nat):Int),(k:Int),nI (Zx (Q0 n A (o.take k))),gl n N) =
   some (.next (((msk 64 (fun i=>!(o.take (k+1)).contains i):Nat):Int),zw ((k:Int)+1),nI (Zx (Q0 n A (o.take (k+1)))),gl n fun u w=>N u w || (setP (seqA A (o.take k)) o[k] u && (setP (seqA A (o.take k)) o[k] w && !decide (u=w))))):=fun k N hk hN=>by
  have hv:=hl _ (List.getElem_mem hk)
  have hnot:=Qfb hnd hk
  have hw:=Qxd hn hG hk hl hnd hN
  have hs:msk n (setP (seqA A (o.take k)) o[k]) < 2^n:=Z2 n _
  have hacc:∀s∈Zx (Q0 n A (o.take k)),s < 2^n:=fun s h=>Qeg _ _ s (Qft h)
  have hal:(Zx (Q0 n A (o.take k))).length≤8:=by
   have h1:=Qpf (l:=Q0 n A (o.take k)); rw [Qfe,List.length_take] at h1; omega
  have et:Q0 n A (o.take (k+1))=Q0 n A (o.take k)++[msk n (setP (seqA A (o.take k)) o[k])]:=by rw [Zg hk,Qpg]
  have eleft:zv (zb ((msk 64 (fun i=>!(o.take k).contains i):Nat):Int) &&& ~~~ zb (zv (1*2^min (Int.toNat ((o[k]:Nat):Int)) (IntKind.bits .u64)))).toNat = ((msk 64 (fun i=>!(o.take (k+1)).contains i):Nat):Int):=by
   rw [Qr9 (by omega),Qnl (n:=64) (Nat.le_refl _) (Z2 64 _) (Qmu (by omega)) Jr fun i _=>Qom _ i]
   congr 1
   refine Yu fun i _=>?_
   rw [Zg hk,List.contains_append]
   by_cases e:i=o[k]
   ·subst e; simp
   ·have e':¬ o[k]=i:=fun h=>e h.symm
    simp [e,e']
  have near:∀(X Y:List Int),Qb fuel (Z4 (((msk 64 (fun i=>!(o.take k).contains i):Nat):Int),(k:Int),X,gl n N) ((msk n (N o[k]):Nat):Int) ((o[k]:Nat):Int)) ((0:Int),gl n N)=some (gl n fun u w=>N u w || (setP (seqA A (o.take k)) o[k] u && (setP (seqA A (o.take k)) o[k] w && !decide (u=w)))):=fun X Y=>by
   have h:=Vh (n:=n) (k0:=0) (by omega) (by omega) (fun i (t:List Int)=>(i,t)) (body:=Z4 (((msk 64 (fun i=>!(o.take k).contains i):Nat):Int),(k:Int),X,gl n N) ((msk n (N o[k]):Nat):Int) ((o[k]:Nat):Int))
    (fun j=>gl n fun u w=>N u w || (decide (u < j) && (setP (seqA A (o.take k)) o[k] u && (setP (seqA A (o.take k)) o[k] w && !decide (u=w))))) (gl n fun u w=>N u w || (setP (seqA A (o.take k)) o[k] u && (setP (seqA A (o.take k)) o[k] w && !decide (u=w))))
    (fun j _ hj=>by
     unfold Z4
     dsimp only
     rw [Z1,if_pos (dlt hj),if_pos (Zi j),hw,Qb8 (by omega) (by omega),Jr j hj]
     by_cases c:setP (seqA A (o.take k)) o[k] j=true
     ·rw [c,if_pos (by decide),J8 hj,Option.bind_some,if_pos (Zi j),Qp9 (by omega) (by omega),Qz5 (n:=n) (by omega) (Z2 n _) (Z2 n _) Jr Jr,Qer]
      congr 3
      refine gl_congr fun u w hu hw=>?_
      simp only [upd]
      grind
     ·rw [Bool.not_eq_true] at c
      rw [c,if_neg (by decide)]
      congr 3
      refine gl_congr fun u w hu hw=>?_
      grind)
    (by
     unfold Z4
     dsimp only
     rw [Z1,if_neg (nlt n)]
     congr 2
     refine gl_congr fun u w hu hw=>?_
     simp [hu])
   have e0:(gl n fun u w=>N u w || (decide (u < 0) && (setP (seqA A (o.take k)) o[k] u && (setP (seqA A (o.take k)) o[k] w && !decide (u=w)))))=gl n N:=gl_congr fun u w _ _=>by simp
   simp only [e0] at h
   exact h
  have part:∀(Y:List Int),(((Zx (Q0 n A (o.take k))).any (subB (msk n (setP (seqA A (o.take k)) o[k])))=true∧Qb fuel (Zp (((msk 64 (fun i=>!(o.take k).contains i):Nat):Int),(k:Int),nI (Zx (Q0 n A (o.take k))),Y) ((msk n (N o[k]):Nat):Int) ((o[k]:Nat):Int)) 0=some (.inl ()))∨((Zx (Q0 n A (o.take k))).any (subB (msk n (setP (seqA A (o.take k)) o[k])))=false∧Qb fuel (Zp (((msk 64 (fun i=>!(o.take k).contains i):Nat):Int),(k:Int),nI (Zx (Q0 n A (o.take k))),Y) ((msk n (N o[k]):Nat):Int) ((o[k]:Nat):Int)) 0=some (.inr ()))):=fun Y=>by
   generalize Zx (Q0 n A (o.take k))=acc at hacc hal
   have h:=Jo (n:=acc.length) (by omega) (fun j=>∀s,acc[j]?=some s→subB (msk n (setP (seqA A (o.take k)) o[k])) s=false) (fun i (t:Unit)=>i) (body:=Zp (((msk 64 (fun i=>!(o.take k).contains i):Nat):Int),(k:Int),nI acc,Y) ((msk n (N o[k]):Nat):Int) ((o[k]:Nat):Int)) (fun _=>()) (.inr ()) (.inl ())
    (fun j hj hI hg=>by
     have hsj:=hacc _ (List.getElem_mem hj)
     have:=hg _ (List.getElem?_eq_getElem hj)
     unfold Zp
     dsimp only
     rw [Qo,if_pos (dlt hj),Qbb hj,Option.bind_some,hw,if_neg (by rw [Kw (by omega) (by omega),this]; decide)])
    (fun j hj hI hg=>by
     have hsj:=hacc _ (List.getElem_mem hj)
     unfold Zp
     dsimp only
     rw [Qo,if_pos (dlt hj),Qbb hj,Option.bind_some,hw,if_pos (by
      rw [Kw (by omega) (by omega)]
      rw [←Bool.not_eq_false]
      exact fun h=>hg fun s hs=>by rw [List.getElem?_eq_getElem hj] at hs; cases hs; exact h)])
    (fun hI=>by unfold Zp; dsimp only; rw [Qo,if_neg (nlt _)])
   have hiff:(∀j,j < acc.length→∀s,acc[j]?=some s→subB (msk n (setP (seqA A (o.take k)) o[k])) s=false)↔acc.any (subB (msk n (setP (seqA A (o.take k)) o[k])))=false:=by
    rw [List.any_eq_false]
    constructor
    ·intro h s hs
     obtain ⟨j,hj,rfl⟩:=List.mem_iff_getElem.1 hs
     rw [h j hj _ (List.getElem?_eq_getElem hj)]; decide
    ·intro h j hj s hs
     have:=h s (List.mem_of_getElem? hs)
     simpa using this
   rw [hiff] at h
   rcases h with ⟨a,b⟩ | ⟨a,b⟩
   ·exact .inr ⟨a,b⟩
   ·exact .inl ⟨by simpa using a,b⟩
  unfold Xv
  dsimp only
  rw [Qo,if_pos (dlt hk),Qbb hk,Option.bind_some,J8 hv,Option.bind_some,if_pos (Zi _)]
  rcases part (gl n N) with ⟨a,b⟩ | ⟨a,b⟩
  ·rw [b,Option.bind_some]
   dsimp only
   rw [if_pos (Zi _),near _ [],Option.bind_some,eleft,et,Qhl]
   unfold Kn
   rw [if_pos a]
  ·rw [b,Option.bind_some]
   dsimp only
   rw [if_pos (by rw [List.length_append,Qo]; simp; omega),if_pos (Zi _),show @Qao=@Z4 from rfl,near _ [],Option.bind_some,eleft,et,Qhl,hw]
   unfold Kn
   rw [if_neg (by rw [a]; decide)]
   congr 4
   unfold nI; simp
 have h:=Jq (n:=o.length) (k0:=0) (by omega) (by omega) (fun i (t:Int × List Int × List Int)=>(t.1,i,t.2.1,t.2.2)) (body:=Xv ⟨⟨gl n A⟩,nI o⟩)
  (fun k t=>∃N:Gr,t=(((msk 64 (fun i=>!(o.take k).contains i):Nat):Int),nI (Zx (Q0 n A (o.take k))),gl n N)∧∀u w,u < n→w < n→u ∉ o.take k→w ∉ o.take k→N u w=seqA A (o.take k) u w) (fun r=>r=nI (Zx (Q0 n A o)))
  (fun k t _ hk hI=>by
   obtain ⟨N,rfl,hN⟩:=hI
   left
   refine ⟨_,step k N hk hN,_,rfl,fun u w hu hw h3 h4=>?_⟩
   rw [Zg hk,List.mem_append,List.mem_singleton] at h3 h4
   rw [Zg hk,Qo6]
   exact Qwi (A:=A) (done:=fun x=>x∈o.take k) hN u w hu hw h3 h4)
  (fun t hI=>by
   obtain ⟨N,rfl,hN⟩:=hI
   refine ⟨_,?_,rfl⟩
   unfold Xv
   dsimp only
   rw [Qo,if_neg (nlt _),List.take_length]) (((msk 64 (fun i=>!(o.take 0).contains i):Nat):Int),nI (Zx (Q0 n A (o.take 0))),gl n A) ⟨A,rfl,fun u w _ _ _ _=>rfl⟩
 obtain ⟨r,e1,rfl⟩:=h
 have e0:((msk 64 (fun i=>!(o.take 0).contains i):Nat):Int)=18446744073709551615:=by
  rw [Yu (q:=fun _=>true) fun i _=>by simp,Qt2]; decide
 simp only [e0] at e1
 rw [show ((0:Nat):Int)=0 from rfl] at e1
 unfold Vz
 dsimp only
 rw [Qt1 (by rw [Z1]; omega),Option.bind_some]
 rw [show nI (Zx (Q0 n A (o.take 0)))=[] from rfl] at e1
 rw [e1]; rfl
end Go.Ab
namespace Go.Ab
open Go
set_option maxRecDepth 100000
set_option maxHeartbeats 400000
theorem Quk {a b c:Nat} (h:subB a b=true) (k:subB b c=true):subB a c=true:=Yr.2 ((Yr.1 h).trans (Yr.1 k))
theorem Qx4 {a:Nat}:subB a a=true:=Yr.2 .refl
theorem Qh7 {l:List Nat}:∀k,k≤l.length→∀s∈l.take k,∃e∈Zx (l.take k),subB s e=true:=by
 intro k
 induction k with
 | zero=>intro _ s h; simp at h
 | succ k ih =>
  intro hk s hs
  rw [Zg (by omega)] at hs ⊢
  rw [Qhl]
  have up:∀e∈Zx (l.take k),e∈Kn (Zx (l.take k)) l[k]:=fun e he=>by
   unfold Kn; split
   ·exact he
   ·exact List.mem_append_left _ he
  rcases List.mem_append.1 hs with h | h
  ·obtain ⟨e,h1,h2⟩:=ih (by omega) s h
   exact ⟨e,up e h1,h2⟩
  ·simp only [List.mem_singleton] at h
   subst h
   unfold Kn
   by_cases c:(Zx (l.take k)).any (subB l[k])=true
   ·rw [if_pos c]
    obtain ⟨e,h1,h2⟩:=List.any_eq_true.1 c
    exact ⟨e,h1,h2⟩
   ·rw [if_neg c]
    exact ⟨l[k],by simp,Qx4⟩
end Go.Ab
namespace Go.Ab
open Go
set_option maxRecDepth 100000
set_option maxHeartbeats 400000
theorem Qo1 {α:Type} {j:Nat}:∀(m l:List α) (i:Nat),(ovr l i m)[j]?=if i≤j∧j < i+m.length∧j < l.length then m[j - i]? else l[j]?
 | [],l,i=>by
  simp only [ovr,List.length_nil]
  rw [if_neg (by omega)]
 | y::ys,l,i=>by
  simp only [ovr,List.length_cons]
  rw [Qo1 ys (l.set i y) (i+1),List.length_set]
  by_cases c:i+1≤j∧j < i+1+ys.length∧j < l.length
  ·rw [if_pos c,if_pos (by omega),show j - i=(j - (i+1))+1 by omega,List.getElem?_cons_succ]
  ·rw [if_neg c]
   by_cases e:i=j
   ·subst e
    rw [List.getElem?_set]
    simp only [if_true]
    by_cases c2:i < l.length
    ·rw [if_pos c2,if_pos (by omega),Nat.sub_self]; rfl
    ·rw [if_neg c2,if_neg (by omega),List.getElem?_eq_none (by omega)]
   ·rw [List.getElem?_set,if_neg e,if_neg (by omega)]
theorem Q2p {α:Type} {l:List α} {i:Nat} {z:α} (hi:i < l.length):List.take (i+(l.drop (i+1)).length) (ovr (ovr l i (l.drop (i+1))) (i+(l.drop (i+1)).length) (List.replicate (l.length - (i+(l.drop (i+1)).length)) z))=l.eraseIdx i:=by
 have hm:(l.drop (i+1)).length=l.length - (i+1):=List.length_drop
 apply List.ext_getElem?
 intro j
 rw [List.getElem?_take,Qo1,Qo1,List.getElem?_eraseIdx,hm,List.length_replicate,←Jf]
 by_cases c:j < i
 ·rw [if_pos (by omega),if_neg (by omega),if_neg (by omega),if_pos c]
 ·by_cases c2:j < i+(l.length - (i+1))
  ·rw [if_pos c2,if_neg (by omega),if_pos (by omega),if_neg c,List.getElem?_drop,show i+1+(j - i)=j+1 by omega]
  ·rw [if_neg c2,if_neg c,List.getElem?_eq_none (by omega)]
def pc (n a:Nat):Nat := cnt n a.testBit
theorem Qv3 {n a:Nat} (hn:n≤10) (ha:a < 2^n):Zb (a:Int)=some (pc n a:Int):=by
 have:a=msk n a.testBit:=Kf ha fun _ _=>rfl
 conv=>lhs; rw [this]
 exact Qww hn _
theorem Qm4 {a b:Nat} (ha:a < 18446744073709551616) (hb:b < 18446744073709551616):zv (zb (a:Int) &&& zb (b:Int)).toNat = ((a &&& b:Nat):Int):=by
 have hl:a &&& b≤a:=Nat.and_le_left
 rw [BitVec.toNat_and,V8 ha,V8 hb,Ji (by omega)]
theorem Qx1 {n a b:Nat} (ha:a < 2^n):a &&& b < 2^n:=Nat.lt_of_le_of_lt Nat.and_le_left ha
def com (n:Nat) (cl:List Nat) (s:Nat):Nat := cl.foldl (fun m c=>max m (pc n (c &&& s))) 0
theorem Qlp {n:Nat} {cl:List Nat} {c s:Nat}:com n (cl++[c]) s=max (com n cl s) (pc n (c &&& s)):=by unfold com; rw [List.foldl_append]; rfl
theorem Q01 {n:Nat} {cl:List Nat} {s:Nat} (hn:n≤8) (hc:∀c∈cl,c < 2^n) (hs:s < 2^n) (hl:cl.length≤1000):Qdb (nI cl) (s:Int)=some (com n cl s:Int):=by
 have p8:(2:Nat)^n≤256:=Nat.pow_le_pow_right (n:=2) (by omega) hn
 have h:=Vh (n:=cl.length) (k0:=0) (by omega) (by omega) (fun i (t:Int)=>(t,i)) (body:=Qah (nI cl) (s:Int)) (fun k=>(com n (cl.take k) s:Int)) (com n cl s:Int)
  (fun k _ hk=>by
   have h1:=hc _ (List.getElem_mem hk)
   unfold Qah
   dsimp only
   rw [Qo,if_pos (dlt hk),Qbb hk,Option.bind_some,Qm4 (by omega) (by omega),Qv3 (by omega) (Qx1 h1),Option.bind_some,Qyr,Zg hk,Qlp])
  (by unfold Qah; dsimp only; rw [Qo,if_neg (nlt _),List.take_length])
 unfold Qdb
 rw [show ((0:Nat):Int)=0 from rfl,List.take_zero] at h
 rw [show (com n [] s:Int)=0 from rfl] at h
 rw [h]; rfl
theorem Q2n {n:Nat} {s:Nat} {cl:List Nat} (hc:0 < cl.length):∃k,∃hk:k < cl.length,pc n (cl[k] &&& s)=com n cl s:=by
 have key:∀j,j < cl.length→∃k,∃hk:k < cl.length,k≤j∧pc n (cl[k] &&& s)=com n (cl.take (j+1)) s:=by
  intro j
  induction j with
  | zero =>
   intro hj
   refine ⟨0,hj,Nat.le_refl _,?_⟩
   rw [Zg hj,Qlp,List.take_zero]
   show _=max 0 _
   omega
  | succ j ih =>
   intro hj
   obtain ⟨k,hk,hkj,e⟩:=ih (by omega)
   rw [Zg hj,Qlp,←e]
   by_cases c:pc n (cl[k] &&& s)≤pc n (cl[j+1] &&& s)
   ·exact ⟨j+1,hj,Nat.le_refl _,by omega⟩
   ·exact ⟨k,hk,by omega,by omega⟩
 obtain ⟨k,hk,_,e⟩:=key (cl.length - 1) (by omega)
 rw [show cl.length - 1+1=cl.length by omega,List.take_length] at e
 exact ⟨k,hk,e⟩
def Vs (n:Nat) (cl left:List Nat):Nat → Nat × Int
 | 0=>(0,-1)
 | k+1=>if (Vs n cl left k).2≤(com n cl (left.getD k 0):Int) then (k,(com n cl (left.getD k 0):Int)) else Vs n cl left k
def pickI (n:Nat) (cl left:List Nat):Nat := (Vs n cl left left.length).1
theorem Qlr {n:Nat} {cl left:List Nat}:∀k,(Vs n cl left k).1 < k+1∧(0 < k→(Vs n cl left k).1 < k∧(Vs n cl left k).2=(com n cl (left.getD (Vs n cl left k).1 0):Int))
 | 0=>⟨by simp [Vs],fun h=>by omega⟩
 | k+1=>by
  obtain ⟨h1,h2⟩:=Qlr (n:=n) (cl:=cl) (left:=left) k
  simp only [Vs]
  split
  ·exact ⟨by simp only; omega,fun _=>⟨by simp only; omega,rfl⟩⟩
  ·rename_i hc
   refine ⟨by omega,fun _=>⟨by omega,?_⟩⟩
   by_cases e:k=0
   ·subst e
    exfalso
    apply hc
    simp only [Vs]; omega
   ·exact (h2 (by omega)).2
def upI (n:Nat) (cl:List Nat) (s:Nat):Nat := cl.findIdx fun c=>Nat.beq (pc n (c &&& s)) (com n cl s)
def bld (n:Nat):Nat → List Nat → List Nat → List Nat → List Nat × List Nat
 | 0,_,cl,up=>(cl,up)
 | k+1,left,cl,up=>bld n k (left.eraseIdx (pickI n cl left)) (cl++[left.getD (pickI n cl left) 0]) (up++[upI n cl (left.getD (pickI n cl left) 0)])
theorem Q2o {n:Nat} {cl:List Nat} {s:Nat} (hc:0 < cl.length):upI n cl s < cl.length:=by
 obtain ⟨k,hk,e⟩:=Q2n (n:=n) (s:=s) hc
 unfold upI
 rw [List.findIdx_lt_length]
 exact ⟨_,List.getElem_mem hk,by rw [e]; simp⟩
theorem Q1b {n:Nat} {cl:List Nat} {s:Nat} {x:Int × Int} {X Y:List Int} (hn:n≤8) (hc:∀c∈cl,c < 2^n) (hs:s < 2^n) (hl:cl.length≤1000) (h0:0 < cl.length) (hx:x.2=(com n cl s:Int)) :
  Qb fuel (Jp (X,nI cl,Y) (s:Int) x) 0=some (.inl (upI n cl s:Int)):=by
 have p8:(2:Nat)^n≤256:=Nat.pow_le_pow_right (n:=2) (by omega) hn
 have hu:=Q2o (n:=n) (s:=s) h0
 have hstep:∀k (hk:k < cl.length),Jp (X,nI cl,Y) (s:Int) x (k:Int)=some (if Nat.beq (pc n (cl[k] &&& s)) (com n cl s)=true then .done (.inl (k:Int)) else .next (zw ((k:Int)+1))):=fun k hk=>by
  have h1:=hc _ (List.getElem_mem hk)
  unfold Jp
  dsimp only
  rw [Qo,if_pos (dlt hk),Qbb hk,Option.bind_some,Qm4 (by omega) (by omega),Qv3 (by omega) (Qx1 h1),Option.bind_some,hx]
  by_cases c:pc n (cl[k] &&& s)=com n cl s
  ·rw [if_pos (by simp [c]),if_pos (by simp [c])]
  ·rw [if_neg (by simp; omega),if_neg (by simpa using c)]
 have h:=Jq (n:=upI n cl s+1) (k0:=0) (by omega) (by omega) (fun i (_:Unit)=>i) (body:=Jp (X,nI cl,Y) (s:Int) x) (fun k _=>k≤upI n cl s) (fun r=>r=.inl (upI n cl s:Int))
  (fun k _ _ hk _=>by
   by_cases e:k=upI n cl s
   ·right
    refine ⟨.inl (k:Int),?_,by rw [e]⟩
    rw [hstep k (by omega),if_pos (by
     have:=List.findIdx_getElem (w:=hu)
     unfold upI at e
     subst e; exact this)]
   ·left
    refine ⟨(),?_,by omega⟩
    rw [hstep k (by omega),if_neg (by
     have:=List.not_of_lt_findIdx (show k < cl.findIdx (fun c=>Nat.beq (pc n (c &&& s)) (com n cl s)) by unfold upI at hk e; omega)
     intro h
     rw [h] at this; cases this)])
  (fun _ hI=>by omega) () (by omega)
 obtain ⟨r,e1,rfl⟩:=h
 exact e1
theorem Qwu {n:Nat} {cl left:List Nat} {Y:List Int} (hn:n≤8) (hc:∀c∈cl,c < 2^n) (hs:∀s∈left,s < 2^n) (hl:cl.length≤1000) (hl2:left.length≤1000) :
  Qb fuel (Jl (nI left,nI cl,Y)) ((0:Int),(0:Int),(-1:Int))=some (((pickI n cl left:Nat):Int),(Vs n cl left left.length).2):=by
 have h:=Vh (n:=left.length) (k0:=0) (by omega) (by omega) (fun i (t:Int × Int)=>(t.1,i,t.2)) (body:=Jl (nI left,nI cl,Y)) (fun k=>(((Vs n cl left k).1:Int),(Vs n cl left k).2)) (((pickI n cl left:Nat):Int),(Vs n cl left left.length).2)
  (fun k _ hk=>by
   have h1:=hs _ (List.getElem_mem hk)
   have e:left.getD k 0=left[k]:=by simp [List.getD,hk]
   unfold Jl
   dsimp only
   rw [Qo,if_pos (dlt hk),Qbb hk,Option.bind_some,Q01 hn hc h1 hl,Option.bind_some]
   simp only [Vs,e]
   by_cases c:(Vs n cl left k).2≤(com n cl left[k]:Int)
   ·rw [if_pos (by simpa using c),if_pos c]
   ·rw [if_neg (by simpa using c),if_neg c])
  (by unfold Jl; dsimp only; rw [Qo,if_neg (nlt _)]; rfl)
 exact h
theorem Qxi {a b:List Nat}:nI a++nI b=nI (a++b):=by unfold nI; rw [List.map_append]
theorem Qyt {l:List Nat} {i:Nat}:(nI l).eraseIdx i=nI (l.eraseIdx i):=by unfold nI; rw [List.eraseIdx_eq_take_drop_succ,List.eraseIdx_eq_take_drop_succ,List.map_append,List.map_take,List.map_drop]
theorem Qm6 {n:Nat} (hn:n≤8):∀(k N:Nat) (left cl up:List Nat),left.length=k→k < N→(∀c∈cl,c < 2^n)→(∀s∈left,s < 2^n)→0 < cl.length→cl.length+k≤500→up.length≤cl.length →
  Qb N Vj (nI left,nI cl,(-1:Int)::nI up)=some (nI (bld n k left cl up).1,(-1:Int)::nI (bld n k left cl up).2)
 | 0,N,left,cl,up,hk,hN,hc,hs,h0,hl,hu=>by
  obtain ⟨N,rfl⟩:∃M,N=M+1:=⟨N - 1,by omega⟩
  have hb:Vj (nI left,nI cl,(-1:Int)::nI up)=some (.done (nI cl,(-1:Int)::nI up)):=by
   unfold Vj
   dsimp only
   rw [Qo,hk,if_neg (by decide)]
  simp only [Qb,hb,bld]
 | k+1,N,left,cl,up,hk,hN,hc,hs,h0,hl,hu=>by
  obtain ⟨N,rfl⟩:∃M,N=M+1:=⟨N - 1,by omega⟩
  obtain ⟨_,hp⟩:=Qlr (n:=n) (cl:=cl) (left:=left) left.length
  obtain ⟨hp1,hp2⟩:=hp (by omega)
  have hi:pickI n cl left < left.length:=hp1
  have ei:left.getD (pickI n cl left) 0=left[pickI n cl left]:=by simp [List.getD,hi]
  have hsi:=hs _ (List.getElem_mem hi)
  have hne:¬ (((pickI n cl left:Nat):Int)==((pickI n cl left+1:Nat):Int))=true:=by simp; omega
  have hsub:sub (nI left) ((pickI n cl left+1:Nat):Int) (left.length:Int)=(nI left).drop (pickI n cl left+1):=by
   unfold sub
   rw [Int.toNat_natCast,Int.toNat_natCast,List.take_of_length_le (by rw [List.length_drop,Qo]; omega)]
  have hdl:((nI left).drop (pickI n cl left+1)).length=left.length - (pickI n cl left+1):=by rw [List.length_drop,Qo]
  have hdel:=Q2p (l:=nI left) (i:=pickI n cl left) (z:=(0:Int)) (by rw [Qo]; exact hi)
  rw [Qo] at hdel
  have hb:Vj (nI left,nI cl,(-1:Int)::nI up)=some (.next (nI (left.eraseIdx (pickI n cl left)),nI (cl++[left.getD (pickI n cl left) 0]),(-1:Int)::nI (up++[upI n cl (left.getD (pickI n cl left) 0)]))):=by
   unfold Vj
   dsimp only
   rw [Qo,if_pos (by simp; omega),Qwu hn hc hs (by omega) (by omega),Option.bind_some]
   dsimp only
   rw [Qbb hi,Option.bind_some,Q1b hn hc hsi (by omega) h0 (by rw [←ei]; exact hp2),Option.bind_some]
   dsimp only
   rw [if_pos (by rw [List.length_append,Qo]; simp; omega),if_pos (by rw [List.length_append,List.length_cons,Qo]; simp; omega),Qqw (by omega),if_pos (by omega),if_neg hne,if_pos (by omega),if_pos (by omega)]
   simp only [Int.toNat_natCast,Int.toNat_zero,Nat.sub_zero,hsub,hdl]
   rw [if_pos (by omega),if_pos (by rw [←Jf,Qo]; omega),if_pos (by rw [←Jf,Qo]; omega)]
   rw [hdl] at hdel
   rw [hdel,Qyt,ei]
   congr 3
   all_goals (unfold nI; simp)
  have ih:=Qm6 hn k N (left.eraseIdx (pickI n cl left)) (cl++[left.getD (pickI n cl left) 0]) (up++[upI n cl (left.getD (pickI n cl left) 0)]) (by rw [List.length_eraseIdx,if_pos hi]; omega) (by omega)
   (fun c h=>by
    rcases List.mem_append.1 h with h | h
    ·exact hc c h
    ·simp only [List.mem_singleton] at h; rw [h,ei]; exact hsi) (fun s h=>hs s (List.mem_of_mem_eraseIdx h)) (by simp) (by simp; omega) (by simp; omega)
  simp only [Qb,hb,bld]
  exact ih
end Go.Ab
