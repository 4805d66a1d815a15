/- What functions compute. No conditions. -/
import Derived.Test.YtcbhkobklhkiiaaDoorW13
set_option linter.all false
namespace Go.Ab
open Go
set_option maxRecDepth 100000
set_option maxHeartbeats 400000
def Qe {α:Type} (n:Nat) (F:Nat → α):List α:=(List.range n).map F
theorem Zo {α:Type} {n:Nat} {F:Nat → α}:(Qe n F).length=n:=by simp [Qe]
theorem Zn {α:Type} {n:Nat} {F:Nat → α} {k:Nat} (h:k < n):lkI (Qe n F) (k:Int)=some (F k):=by
 rw [lkI_nat (by rw [Zo]; exact h)]; simp [Qe]
theorem Zp {α:Type} {n:Nat} {F G:Nat → α} (h:∀k,k < n→F k=G k):Qe n F=Qe n G:=by
 unfold Qe
 apply List.map_congr_left
 intro t ht
 exact h t (by simpa using ht)
theorem Qam {α:Type} {n:Nat} {F:Nat → α} {k:Nat} {x:α}:(Qe n F).set k x=Qe n (fun s=>if s=k then x else F s):=by
 apply List.ext_getElem?
 intro s
 rw [List.getElem?_set]
 simp only [Qe,List.getElem?_map,List.length_map,List.length_range]
 by_cases e:k=s
 ·subst e
  rw [if_pos rfl]
  by_cases hk:k < n
  ·rw [if_pos hk,List.getElem?_range hk]; simp
  ·rw [if_neg hk,List.getElem?_eq_none (by simpa using hk)]; rfl
 ·rw [if_neg e]
  by_cases hs:s < n
  ·rw [List.getElem?_range hs]; simp only [Option.map_some]; rw [if_neg (Ne.symm e)]
  ·rw [List.getElem?_eq_none (by simpa using hs)]; rfl
theorem Qm6 {α:Type} (n:Nat) (x:α):List.replicate n x=Qe n (fun _=>x):=by
 apply List.ext_getElem?
 intro s
 rw [List.getElem?_replicate]
 by_cases hs:s < n
 ·rw [if_pos hs]; simp [Qe,List.getElem?_range hs]
 ·rw [if_neg hs,List.getElem?_eq_none (by rw [Zo]; omega)]
theorem Qhj {α:Type} {n:Nat} {F:Nat → α}:Qe n F++[F n]=Qe (n+1) F:=by
 unfold Qe; rw [List.range_succ]; simp
def Qi2 {α:Type} (w:Nat → α) (i:Nat) (x:α):Nat → α:=fun s=>if s=i then x else w s
theorem Qa7 {α:Type} {w:Nat → α} {i:Nat} {x:α}:Qi2 w i x i=x:=by simp [Qi2]
theorem Qfx {α:Type} {w:Nat → α} {i j:Nat} {x:α} (h:j≠i):Qi2 w i x j=w j:=by simp [Qi2,h]
def Q0:Nat → (Nat → Int)→Int
 | 0,_=>0
 | n+1,f=>Q0 n f+f n
theorem Qpg {n:Nat} {f g:Nat → Int} (h:∀k,k < n→f k=g k):Q0 n f=Q0 n g:=by
 induction n with
 | zero=>rfl
 | succ n ih=>simp only [Q0]; rw [ih (fun k hk=>h k (by omega)),h n (by omega)]
theorem Q0d {n:Nat} {f g:Nat → Int}:Q0 n (fun k=>f k+g k)=Q0 n f+Q0 n g:=by
 induction n with
 | zero=>rfl
 | succ n ih=>simp only [Q0,ih]; omega
theorem Qlt {n:Nat}:Q0 n (fun _=>0)=0:=by
 induction n with
 | zero=>rfl
 | succ n ih=>simp only [Q0,ih]; rfl
theorem Qae {n:Nat} {f:Nat → Int} (h:∀k,k < n→0≤f k):0≤Q0 n f:=by
 induction n with
 | zero=>exact Int.le_refl 0
 | succ n ih=>simp only [Q0]; have:=ih (fun k hk=>h k (by omega)); have:=h n (by omega); omega
theorem Q0l {n k:Nat} {c:Int} (h:k < n):Q0 n (fun x=>if k=x then c else 0)=c:=by
 induction n with
 | zero=>omega
 | succ n ih =>
  simp only [Q0]
  by_cases e:k=n
  ·subst e
   rw [if_pos rfl,Qpg (g:=fun _=>0) (fun x hx=>if_neg (by omega)),Qlt]; omega
  ·rw [if_neg e,ih (by omega)]; omega
theorem Qvy {a b:Nat} {f:Nat → Int}:Q0 (a+b) f=Q0 a f+Q0 b (fun k=>f (a+k)):=by
 induction b with
 | zero=>simp [Q0]
 | succ b ih=>rw [←Nat.add_assoc]; simp only [Q0,ih]; omega
def Ze:Nat → (Nat → Nat)→Nat
 | 0,_=>1
 | n+1,f=>Ze n f*f n
theorem Qkz {n K:Nat} {f:Nat → Nat} (h:∀k,k < n→f k≤K):Ze n f≤K^n:=by
 induction n with
 | zero=>simp [Ze]
 | succ n ih=>simp only [Ze,Nat.pow_succ]; exact Nat.mul_le_mul (ih fun k hk=>h k (by omega)) (h n (by omega))
structure NF where
 n:Nat
 g:Nat
 card:Nat → Nat
 par:Nat → List Nat
 W:Nat → Nat → Nat → Nat
def lprod (f:Nat → Nat) (l:List Nat):Nat := l.foldl (fun r p=>r*f p) 1
def NF.rows (D:NF) (v:Nat):Nat := lprod D.card (D.par v)
def NF.node (D:NF) (v:Nat):Tapi_Node:=⟨D.card v,(D.par v).map (fun (p:Nat)=>(p:Int)),Qe (D.rows v) fun r=>Qe (D.card v) fun x=>(D.W v r x:Int)⟩
def NF.net (D:NF):Qd:=⟨D.g,Qe D.n D.node⟩
def Zc (n:Nat) (w:Nat → Nat):List Int:=Qe n fun j=>(w j:Int)
theorem Qcd {n k:Nat} {w:Nat → Nat} (h:k < n):lkI (Zc n w) (k:Int)=some (w k:Int):=Zn h
theorem Qco {n:Nat} {w:Nat → Nat}:(Zc n w).length=n:=Zo
structure VN (D:NF):Prop where
 n1:1≤D.n
 n8:D.n≤8
 g1:1≤D.g
 g60:D.g≤60
 card:∀v,v < D.n→1≤D.card v∧D.card v≤4
 par:∀v,v < D.n→∀p∈D.par v,p < D.n
 len:∀v,v < D.n→(D.par v).length≤8
 W:∀v r x,v < D.n→r < D.rows v→x < D.card v→D.W v r x≤D.g
 worlds:Ze D.n D.card≤1024
theorem Qf8 {f:Nat → Nat} {l:List Nat} {p:Nat}:lprod f (l++[p])=lprod f l*f p:=by simp [lprod]
theorem Qi8 {f:Nat → Nat} {l:List Nat} (h:∀p∈l,f p≤4):lprod f l≤4^l.length:=by
 have key:∀(l:List Nat) (R K:Nat),R≤K→(∀p∈l,f p≤4)→l.foldl (fun r p=>r*f p) R≤K*4^l.length:=by
  intro l
  induction l with
  | nil=>intro R K h _; simpa using h
  | cons p l ih =>
   intro R K hr hp
   simp only [List.foldl_cons,List.length_cons,Nat.pow_succ]
   have:=ih (R*f p) (K*4) (Nat.mul_le_mul hr (hp p (by simp))) (fun q hq=>hp q (List.mem_cons_of_mem _ hq))
   rwa [Nat.mul_assoc,Nat.mul_comm 4] at this
 have:=key l 1 1 (by omega) h
 simpa [lprod] using this
section
variable {D:NF} (V:VN D) {w:Nat → Nat}
include V
theorem VN.rows_le {v:Nat} (hv:v < D.n):D.rows v≤65536:=by
 refine Nat.le_trans (Qi8 fun p hp=>(V.card p (V.par v hv p hp)).2) ?_
 exact Nat.pow_le_pow_right (by omega) (V.len v hv)
omit V in
theorem Q2 {α:Type} {l:List α} {k:Nat} (h:k < l.length):l.take (k+1)=l.take k++[l[k]]:=by rw [List.take_add_one,List.getElem?_eq_getElem h]; rfl
theorem VN.node {v:Nat} (hv:v < D.n):lkI D.net.Nodes (v:Int)=some (D.node v):=Zn hv
end
theorem Qru {a k:Nat} (ha:a < 18446744073709551616) (hk:k < 64) :
  zv (zb (a:Int) ||| zb (zv (1*2^min (Int.toNat (k:Int)) (IntKind.bits .u64)))).toNat = ((a ||| 2^k:Nat):Int):=by
 have hb:IntKind.bits .u64=64:=rfl
 have e0:min (Int.toNat (k:Int)) (IntKind.bits .u64)=k:=by rw [hb,Int.toNat_natCast]; omega
 have hp:2^k < 18446744073709551616:=by
  have:2^k < 2^64:=Nat.pow_lt_pow_right (by omega) hk
  exact this
 rw [e0,show (1:Int)*2^k=((2^k:Nat):Int) by simp,X4 hp]
 have e1:(zb (a:Int) ||| zb ((2^k:Nat):Int)).toNat = a ||| 2^k:=by
  rw [BitVec.toNat_or,Kf ha,Kf hp]
 rw [e1,X4]
 exact Nat.or_lt_two_pow (n:=64) ha hp
theorem or_lt {a k:Nat} (ha:a < 18446744073709551616) (hk:k < 64):a ||| 2^k < 18446744073709551616 :=
 Nat.or_lt_two_pow (n:=64) ha (Nat.pow_lt_pow_right (by omega) hk)
theorem Q3m {a k j:Nat}:(a ||| 2^k).testBit j=(a.testBit j || decide (k=j)):=by
 rw [Nat.testBit_or,Nat.testBit_two_pow]
theorem Qoh {a b:Nat} (ha:a < 18446744073709551616) (hb:b < 18446744073709551616) :
  (zv (zb (a:Int) &&& ~~~ zb (b:Int)).toNat == 0)=true↔∀j,a.testBit j=true→b.testBit j=true:=by
 have h1:(zb (a:Int) &&& ~~~ zb (b:Int)).toNat < 18446744073709551616:=BitVec.isLt _
 rw [X4 h1]
 generalize hx:zb (a:Int) &&& ~~~ zb (b:Int)=x
 have hbit:∀j,j < 64→x.getLsbD j=(a.testBit j && !(b.testBit j)):=fun j hj=>by
  rw [←hx,BitVec.getLsbD_and,BitVec.getLsbD_not]
  have:(IntKind.bits .u64)=64:=rfl
  have e1:(zb (a:Int)).getLsbD j=a.testBit j:=by unfold BitVec.getLsbD; rw [Kf ha]
  have e2:(zb (b:Int)).getLsbD j=b.testBit j:=by unfold BitVec.getLsbD; rw [Kf hb]
  rw [e1,e2]
  simp [this,hj]
 constructor
 ·intro h j hj
  have hx0:x.toNat = 0:=by simpa using h
  have h64:j < 64:=by
   rcases Nat.lt_or_ge j 64 with h' | h'
   ·exact h'
   ·have:=Nat.testBit_lt_two_pow (i:=j) (x:=a) (Nat.lt_of_lt_of_le ha (Nat.pow_le_pow_right (n:=2) (by omega) h'))
    rw [this] at hj; cases hj
  have h2:=hbit j h64
  have h3:x.getLsbD j=false:=by unfold BitVec.getLsbD; rw [hx0]; simp
  rw [h3,hj] at h2
  simpa using h2
 ·intro h
  have:x=0#_:=by
   apply BitVec.eq_of_getLsbD_eq
   intro j hj
   have hj':j < 64:=hj
   rw [hbit j hj']
   cases ha':a.testBit j with
   | false=>simp
   | true=>rw [h j ha']; simp
  rw [this]; rfl
def KK:Int:=167961600000000
def BD (m:Nat) (z:Int):Prop:=-((m:Int)*KK)≤z∧z≤(m:Int)*KK
theorem BD.add {m p:Nat} {a b:Int} (h:BD m a) (k:BD p b):BD (m+p) (a+b):=by
 unfold BD at *
 rw [Int.natCast_add,Int.add_mul]; omega
theorem BD.zero {m:Nat}:BD m 0:=by unfold BD KK; omega
theorem BD.sum {n p:Nat} {f:Nat → Int} (h:∀k,k < n→BD p (f k)):BD (n*p) (Q0 n f):=by
 induction n with
 | zero=>exact BD.zero
 | succ n ih=>simp only [Q0]; rw [Nat.succ_mul]; exact (ih fun k hk=>h k (by omega)).add (h n (by omega))
section
variable {D:NF} {E:Nat → Int}
theorem Qi4 {α β:Type} {o:Option α} {a:α} {k:α→Option β} {r:Option β} (h:o=some a) (h2:k a=r):o.bind k=r:=by rw [h]; exact h2
theorem Q0w {n:Nat} {f:Nat → Nat} {l:List Nat} (hl:∀p∈l,p < n) (h8:l.length≤8):Qfn (Zc n f) (l.map fun (p:Nat)=>(p:Int))=some (l.map fun p=>(f p:Int)):=by
 unfold Qfn
 refine Qi4 (Qbp (s0:=((0:Int),([]:List Int))) (r:=l.map fun p=>(f p:Int)) (fun k=>((k:Int),(l.take k).map fun p=>(f p:Int))) l.length (by simp) (fun k hk=>?_) ?_ (by omega)) rfl
 ·unfold Qe3
  simp only
  rw [if_pos (by simpa using hk),lkI_nat (by simpa using hk)]
  simp only [Option.bind_some,List.getElem_map]
  rw [Qcd (hl _ (List.getElem_mem hk))]
  simp only [Option.bind_some]
  rw [if_pos (by simp [List.length_take]; omega),w64 (by omega),Q2 hk]
  simp only [List.map_append,List.map_cons,List.map_nil]
  rfl
 ·unfold Qe3
  simp only
  rw [if_neg (by simp),List.take_of_length_le (Nat.le_refl _)]
end
structure VX (D:NF):Prop where
 vn:VN D
 sorted:∀v,v < D.n→(D.par v).Pairwise (· < ·)
 self:∀v,v < D.n→v ∉ D.par v
 rank:∃rk:Nat → Nat,∀v,v < D.n→∀p∈D.par v,rk p < rk v
 sum:∀v r,v < D.n→r < D.rows v→Q0 (D.card v) (fun x=>(D.W v r x:Int))=D.g
theorem Qa3:∀(a b:List Nat),a.Nodup→a ⊆ b→a.length≤b.length
 | [],_,_,_=>by simp
 | x::a,b,hn,hs=>by
  have hx:x∈b:=hs (by simp)
  rw [List.nodup_cons] at hn
  have h1:a ⊆ b.erase x:=fun y hy=>by
   have hne:y≠x:=fun e=>hn.1 (e ▸ hy)
   exact (List.mem_erase_of_ne hne).2 (hs (List.mem_cons_of_mem _ hy))
  have h2:=Qa3 a (b.erase x) hn.2 h1
  have h3:=List.length_erase_of_mem hx
  have h4:0 < b.length:=List.length_pos_of_mem hx
  simp only [List.length_cons]
  omega
def bitsOf (l:List Nat) (a:Nat):Nat := l.foldl (fun a p=>a ||| 2^p) a
theorem Xu {j:Nat}:∀(l:List Nat) (a:Nat),(bitsOf l a).testBit j=(a.testBit j || decide (j∈l))
 | [],a=>by simp [bitsOf]
 | p::l,a=>by
  have:=Xu (j:=j) l (a ||| 2^p)
  unfold bitsOf at this ⊢
  simp only [List.foldl_cons]
  rw [this,Q3m]
  by_cases h:p=j
  ·subst h; simp
  ·have:j≠p:=Ne.symm h
   simp [h,this]
theorem Qaz:∀(l:List Nat) (a:Nat),a < 18446744073709551616→(∀p∈l,p < 64)→bitsOf l a < 18446744073709551616
 | [],a,h,_=>h
 | p::l,a,h,hl=>Qaz l (a ||| 2^p) (or_lt h (hl p (by simp))) fun q hq=>hl q (List.mem_cons_of_mem _ hq)
theorem Qb4 {l:List Nat} {p a:Nat}:bitsOf (l++[p]) a=bitsOf l a ||| 2^p:=by simp [bitsOf]
section
variable {D:NF}
def Qng (D:NF) (v:Nat):Nat := bitsOf (D.par v) 0
theorem Quj (V:VN D) {v:Nat} (hv:v < D.n):Qng D v < 18446744073709551616:=Qaz _ _ (by omega) fun p hp=>by have:=V.par v hv p hp; have:=V.n8; omega
theorem Qs5 {v j:Nat}:(Qng D v).testBit j=decide (j∈D.par v):=by unfold Qng; rw [Xu]; simp
theorem Qwy (X:VX D):∃order,X8 (Zc D.n (Qng D))=some (order,true):=by
 have V:=X.vn
 have hn:=V.n8
 obtain ⟨rk,hrk⟩:=X.rank
 have hlen:(Zc D.n (Qng D)).length=D.n:=Qco
 let I:Int × List Int→Prop:=fun s=>∃(l:List Nat),l.Nodup∧(∀p∈l,p < D.n)∧s=((bitsOf l 0:Int),l.map fun (p:Nat)=>(p:Int))
 have hw:=Vm (body:=Xf (Zc D.n (Qng D))) I (fun s=>D.n - s.2.length) (fun r=>∃o,r=Sum.inr o) (fun s hs=>?_) ((0:Int),List.replicate (Int.toNat 0) (0:Int)) ⟨[],List.nodup_nil,fun p hp=>by simp at hp,rfl⟩ (by simp; omega)
 ·obtain ⟨r,h1,o,rfl⟩:=hw
  refine ⟨o,?_⟩
  unfold X8
  rw [if_pos (by rw [hlen]; omega),h1]
  rfl
 ·obtain ⟨l,hnd,hl,rfl⟩:=hs
  have hll:l.length≤D.n:=by
   have h1:l ⊆ List.range D.n:=fun p hp=>List.mem_range.2 (hl p hp)
   have:=Qa3 l (List.range D.n) hnd h1
   simpa using this
  have hdl:bitsOf l 0 < 18446744073709551616:=Qaz _ _ (by omega) fun p hp=>by have:=hl p hp; omega
  by_cases hc:l.length < D.n
  ·
   have hex:∃v,v < D.n∧v ∉ l:=by
    apply Classical.byContradiction
    intro hno
    have h1:List.range D.n ⊆ l:=fun p hp=>by
     apply Classical.byContradiction
     intro hp'
     exact hno ⟨p,List.mem_range.1 hp,hp'⟩
    have:=Qa3 (List.range D.n) l List.nodup_range h1
    simp at this
    omega
   have hmin:∃v,v < D.n∧v ∉ l∧∀u,u < D.n→u ∉ l→rk v≤rk u:=by
    obtain ⟨v0,h1,h2⟩:=hex
    have:∀(k:Nat) (v:Nat),rk v≤k→v < D.n→v ∉ l→∃v,v < D.n∧v ∉ l∧∀u,u < D.n→u ∉ l→rk v≤rk u:=by
     intro k
     induction k with
     | zero=>intro v hk h1 h2; exact ⟨v,h1,h2,fun u _ _=>by omega⟩
     | succ k ih =>
      intro v hk h1 h2
      by_cases hall:∀u,u < D.n→u ∉ l→rk v≤rk u
      ·exact ⟨v,h1,h2,hall⟩
      ·have:∃u,u < D.n∧u ∉ l∧rk u < rk v:=by
        apply Classical.byContradiction
        intro hno
        exact hall fun u hu hul=>by
         apply Classical.byContradiction
         intro hlt
         exact hno ⟨u,hu,hul,by omega⟩
       obtain ⟨u,hu,hul,hlt⟩:=this
       exact ih u (by omega) hu hul
    exact this (rk v0) v0 (Nat.le_refl _) h1 h2
   obtain ⟨v1,hv1,hv1l,hv1m⟩:=hmin
   have hready:∀p∈D.par v1,p∈l:=fun p hp=>by
    apply Classical.byContradiction
    intro hpl
    have h1:=hv1m p (V.par v1 hv1 p hp) hpl
    have h2:=hrk v1 hv1 p hp
    omega
   left
   have hs2:=Vm (body:=Vw (Zc D.n (Qng D)) ((bitsOf l 0:Int),l.map fun (p:Nat)=>(p:Int))) (fun s=>∃k:Nat,k≤v1∧s=(k:Int)) (fun s=>D.n - s.toNat)
    (fun r=>∃v,v < D.n∧v ∉ l∧r=Sum.inl (((bitsOf l 0 ||| 2^v:Nat):Int),(l.map fun (p:Nat)=>(p:Int))++[(v:Int)])) (fun s hs=>?_) (0:Int) ⟨0,by omega,rfl⟩ (by simp; omega)
   ·obtain ⟨r,h1,v,hv,hvl,rfl⟩:=hs2
    refine ⟨(((bitsOf l 0 ||| 2^v:Nat):Int),(l.map fun (p:Nat)=>(p:Int))++[(v:Int)]),?_,⟨l++[v],?_,?_,?_⟩,by simp; omega⟩
    ·unfold Xf
     simp only
     rw [if_pos (by rw [hlen]; simp; omega),h1]
     rfl
    ·rw [List.nodup_append]
     exact ⟨hnd,by simp,fun a ha b hb=>by simp at hb; subst hb; exact fun e=>hvl (e ▸ ha)⟩
    ·intro p hp
     rcases List.mem_append.1 hp with h | h
     ·exact hl p h
     ·simp at h; subst h; exact hv
    ·rw [Qb4]; simp
   ·obtain ⟨k,hk,rfl⟩:=hs
    have hkn:k < D.n:=by omega
    have ek:zw ((k:Int)+1)=((k+1:Nat):Int):=by rw [w64 (by omega)]; omega
    have hbk:(bitsOf l 0).testBit k=decide (k∈l):=by rw [Xu]; simp
    unfold Vw
    simp only
    rw [if_pos (by rw [hlen]; simpa using hkn),Qcd hkn]
    simp only [Option.bind_some]
    rw [if_pos (by omega),Qvu hdl (by omega),hbk]
    by_cases hkl:k∈l
    ·left
     rw [if_neg (by simp [hkl]),ek]
     have hne:k≠v1:=fun e=>hv1l (e ▸ hkl)
     exact ⟨_,rfl,⟨k+1,by omega,rfl⟩,by simp; omega⟩
    ·rw [if_pos (by simp [hkl])]
     by_cases hsub:∀p∈D.par k,p∈l
     ·right
      rw [if_pos ((Qoh (Quj V hkn) hdl).2 fun j hj=>by
       rw [Qs5] at hj
       rw [Xu]
       simp at hj ⊢
       exact hsub j hj),if_pos (by simp; omega),if_pos (by omega),Qru hdl (by omega)]
      exact ⟨_,rfl,k,hkn,hkl,rfl⟩
     ·left
      have hne:k≠v1:=fun e=>by subst e; exact hsub hready
      rw [if_neg (fun hc'=>hsub fun p hp=>by
       have:=(Qoh (Quj V hkn) hdl).1 hc' p (by rw [Qs5]; simpa using hp)
       rw [Xu] at this
       simpa using this),ek]
      exact ⟨_,rfl,⟨k+1,by omega,rfl⟩,by simp; omega⟩
  ·right
   refine ⟨Sum.inr (l.map fun (p:Nat)=>(p:Int)),?_,_,rfl⟩
   unfold Xf
   simp only
   rw [if_neg (by rw [hlen]; simp; omega)]
end
theorem Qw0 {n:Nat} {f:Nat → Nat}:∃s:Nat,Q0 n (fun x=>(f x:Int))=(s:Int):=by
 obtain ⟨s,hs⟩:=Int.eq_ofNat_of_zero_le (Qae (n:=n) (f:=fun x=>(f x:Int)) fun _ _=>Int.natCast_nonneg _)
 exact ⟨s,hs⟩
theorem Qed {n k:Nat} {f:Nat → Int} (h:∀j,j < n→0≤f j) (hk:k≤n):Q0 k f≤Q0 n f:=by
 obtain ⟨m,rfl⟩:=Nat.exists_eq_add_of_le hk
 rw [Qvy]
 have:=Qae (n:=m) (f:=fun x=>f (k+x)) fun j hj=>h _ (by omega)
 omega
theorem Qn1 {g S:Nat} (hS:0 < S):∀(n:Nat) (o:Nat → Nat),Q0 n (fun x=>((g*o x / S:Nat):Int))*S≤g*Q0 n (fun x=>(o x:Int))
 | 0,_=>by simp [Q0]
 | n+1,o=>by
  have ih:=Qn1 (g:=g) hS n o
  have h1:g*o n / S*S≤g*o n:=Nat.div_mul_le_self _ _
  have h2:(((g*o n / S:Nat):Int))*(S:Int)≤(g:Int)*(o n:Int):=by exact_mod_cast h1
  simp only [Q0]
  rw [Int.add_mul,Int.mul_add]
  exact Int.add_le_add ih h2
theorem Qz6 {g c:Nat} {l:List Int} {fr:Nat} (hg:g≤60) (hc:1≤c) (hc4:c≤4) (hl:∀x∈l,0≤x∧x≤255) (hll:l.length≤9223372036854775807) (hfr:fr≤100000) :
  ∃f:Nat → Nat,Qbw (g:Int) (c:Int) l (fr:Int)=some (Qe c fun x=>(f x:Int))∧Q0 c (fun x=>(f x:Int))=g:=by
 have hb0:∃o:Nat → Nat,(∀j,o j < 8)∧Qa fuel (Ja (c:Int) l (fr:Int)) ((0:Int),(0:Int),Qe c fun _=>(0:Int))=some (Q0 c (fun x=>(o x:Int)),Qe c fun x=>(o x:Int)):=by
  by_cases h0:l.length=0
  ·refine ⟨fun _=>0,fun _=>Nat.zero_lt_succ _,?_⟩
   have hz:∀k,Q0 k (fun _=>((0:Nat):Int))=0:=fun k=>Qlt
   refine Qbp (fun k=>((0:Int),(k:Int),Qe c fun _=>(0:Int))) c _ rfl (fun k hk=>?_) ?_ (by omega)
   ·unfold Ja
    simp only
    rw [if_pos (by simpa using hk),if_neg (by simp [h0]),Zn hk]
    simp only [Option.bind_some]
    rw [w64 (by omega),w64 (by omega)]
    rfl
   ·unfold Ja
    simp only
    rw [if_neg (by simp),hz]
    rfl
  ·have hpos:0 < l.length:=by omega
   let o:Nat → Nat := fun k=>((l[(fr+k) % l.length]'(Nat.mod_lt _ hpos)).toNat) % 8
   refine ⟨o,fun j=>Nat.mod_lt _ (by omega),?_⟩
   refine Qbp (fun k=>(Q0 k (fun x=>(o x:Int)),(k:Int),Qe c fun j=>if j < k then (o j:Int) else 0)) c _ (by simp [Q0]) (fun k hk=>?_) ?_ (by omega)
   ·have hx:=hl _ (List.getElem_mem (Nat.mod_lt (fr+k) hpos))
    have ho:o k=((l[(fr+k) % l.length]'(Nat.mod_lt _ hpos)).toNat) % 8:=rfl
    have hs:Q0 k (fun x=>(o x:Int))≤8*k:=by
     have:∀k,Q0 k (fun x=>(o x:Int))≤8*k:=by
      intro k
      induction k with
      | zero=>simp [Q0]
      | succ k ih=>simp only [Q0]; have:o k < 8:=Nat.mod_lt _ (by omega); omega
     exact this k
    have hs0:0≤Q0 k (fun x=>(o x:Int)):=Qae fun _ _=>Int.natCast_nonneg _
    have e1:Int.tmod (zw ((fr:Int)+(k:Int))) (l.length:Int)=(((fr+k) % l.length:Nat):Int):=by
     rw [w64 (by omega),Kb (by omega)]; simp
    unfold Ja
    simp only
    rw [if_pos (by simpa using hk),if_pos (by simp; omega),if_pos (by omega),e1,lkI_nat (Nat.mod_lt _ hpos)]
    simp only [Option.bind_some]
    rw [Zn hk]
    simp only [Option.bind_some]
    have e2:Int.tmod (l[(fr+k) % l.length]'(Nat.mod_lt _ hpos)) 8=(o k:Int):=by rw [Kb hx.1,ho]; omega
    have ho8:o k < 8:=Nat.mod_lt _ (by omega)
    rw [e2]
    have w1:zw (o k:Int)=(o k:Int):=w64 (by omega)
    rw [w1,w64 (by omega),w64 (by omega),Int.toNat_natCast,Qam]
    simp only [Q0]
    congr 4
    refine Zp fun j hj=>?_
    by_cases e:j=k
    ·subst e; simp
    ·rw [if_neg e]
     by_cases e2:j < k
     ·rw [if_pos e2,if_pos (by omega)]
     ·rw [if_neg e2,if_neg (by omega)]
   ·unfold Ja
    simp only
    rw [if_neg (by simp)]
    congr 3
    exact Zp fun j hj=>if_pos hj
 obtain ⟨o,ho,h0⟩:=hb0
 obtain ⟨S,hS⟩:=Qw0 (n:=c) (f:=o)
 let q:Nat → Nat := fun x=>g*o x / S
 have hq:∀x,o x=0→q x=0:=fun x h=>by show g*o x / S=0; rw [h]; simp
 have hSb:S≤32:=by
  have:∀k,Q0 k (fun x=>(o x:Int))≤8*k:=by
   intro k
   induction k with
   | zero=>simp [Q0]
   | succ k ih=>simp only [Q0]; have:=ho k; omega
  have:=this c
  omega
 have hpart:∀k,k≤c→0≤Q0 k (fun x=>(q x:Int))∧Q0 k (fun x=>(q x:Int))≤g:=fun k hk=>by
  refine ⟨Qae fun _ _=>Int.natCast_nonneg _,Int.le_trans (Qed (fun _ _=>Int.natCast_nonneg _) hk) ?_⟩
  by_cases h:S=0
  ·have:∀x,q x=0:=fun x=>by show g*o x / S=0; rw [h]; simp
   rw [Qpg (g:=fun _=>0) (fun x _=>by rw [this]; rfl),Qlt]; omega
  ·have h1:=Qn1 (g:=g) (S:=S) (by omega) c o
   rw [hS] at h1
   have h2:Q0 c (fun x=>(q x:Int))*(S:Int)≤(g:Int)*(S:Int):=h1
   exact Int.le_of_mul_le_mul_right h2 (by omega)
 have hb1:=Vm (body:=Qd3 (c:Int) (Q0 c (fun x=>(o x:Int)),Qe c fun x=>(o x:Int)) (g:Int))
  (fun s=>∃k last:Nat,k≤c∧last < c∧s=((g:Int) - Q0 k (fun x=>(q x:Int)),(last:Int),(k:Int),Qe c fun j=>if j < k then (q j:Int) else (o j:Int)))
  (fun s=>c - s.2.2.1.toNat)
  (fun r=>∃last:Nat,last < c∧r=((g:Int) - Q0 c (fun x=>(q x:Int)),(last:Int),Qe c fun j=>(q j:Int)))
  (fun s hs=>?_) ((g:Int),(0:Int),(0:Int),Qe c fun x=>(o x:Int)) ⟨0,0,by omega,by omega,by simp [Q0]⟩ (by simp; omega)
 ·obtain ⟨r,h1,last,hlast,rfl⟩:=hb1
  have hp:=hpart c (Nat.le_refl _)
  obtain ⟨left,hleft⟩:=Int.eq_ofNat_of_zero_le (show 0≤(g:Int) - Q0 c (fun x=>(q x:Int)) by omega)
  refine ⟨fun x=>q x+if last=x then left else 0,?_,?_⟩
  ·unfold Qbw
   rw [if_pos (by omega),Int.toNat_natCast,Qm6,h0]
   simp only [Option.bind_some]
   rw [h1]
   simp only [Option.bind_some]
   rw [Zn hlast]
   simp only [Option.bind_some]
   have hql:(q last:Int)≤g:=by
    have e:=Qed (n:=c) (k:=last+1) (f:=fun x=>(q x:Int)) (fun _ _=>Int.natCast_nonneg _) (by omega)
    have e2:=(hpart last (by omega)).1
    simp only [Q0] at e
    omega
   rw [hleft,w64 (by omega),Int.toNat_natCast,Qam]
   congr 1
   refine Zp fun x hx=>?_
   by_cases e:x=last
   ·subst e; simp
   ·rw [if_neg e,if_neg (Ne.symm e)]; simp
  ·have e:(fun x=>((q x+if last=x then left else 0:Nat):Int))=fun x=>(q x:Int)+if last=x then (left:Int) else 0:=by
    funext x; split <;> simp
   rw [e,Q0d,Q0l hlast]
   have:(left:Int)=(g:Int) - Q0 c (fun x=>(q x:Int)):=hleft.symm
   omega
 ·obtain ⟨k,last,hk,hlast,rfl⟩:=hs
  unfold Qd3
  simp only
  by_cases hkc:k < c
  ·left
   have hp1:=hpart k hk
   have hp2:=hpart (k+1) hkc
   have e1:Q0 (k+1) (fun x=>(q x:Int))=Q0 k (fun x=>(q x:Int))+(q k:Int):=rfl
   rw [if_pos (by simpa using hkc),Zn hkc]
   simp only [Option.bind_some,Nat.lt_irrefl,if_false]
   have ek:zw ((k:Int)+1)=((k+1:Nat):Int):=by rw [w64 (by omega)]; omega
   by_cases ho0:o k=0
   ·rw [if_neg (by simp [ho0]),ek,ho0,w64 (by omega)]
    refine ⟨_,rfl,⟨k+1,last,hkc,hlast,?_⟩,by simp; omega⟩
    rw [e1,hq k ho0]
    congr 1
    ·simp
    ·congr 2
     refine Zp fun j hj=>?_
     by_cases e:j=k
     ·subst e; simp [ho0,hq]
     ·by_cases e2:j < k
      ·rw [if_pos e2,if_pos (by omega)]
      ·rw [if_neg e2,if_neg (by omega)]
   ·have hSpos:S≠0:=by
     intro h
     have:=Qed (n:=c) (k:=k+1) (f:=fun x=>(o x:Int)) (fun _ _=>Int.natCast_nonneg _) hkc
     have h2:0≤Q0 k (fun x=>(o x:Int)):=Qae fun _ _=>Int.natCast_nonneg _
     simp only [Q0] at this
     omega
    have hok:=ho k
    have hm:g*o k≤60*8:=Nat.mul_le_mul hg (by omega)
    have e2:zw (Int.tdiv (zw ((g:Int)*(o k:Int))) (Q0 c (fun x=>(o x:Int))))=(q k:Int):=by
     have e3:(g:Int)*(o k:Int)=((g*o k:Nat):Int):=by simp
     have hd:g*o k / S≤g*o k:=Nat.div_le_self _ _
     have w1:zw ((g*o k:Nat):Int)=((g*o k:Nat):Int):=w64 (by omega)
     rw [e3,w1,hS,Qy2 (Int.natCast_nonneg _),show ((g*o k:Nat):Int) / (S:Int)=((g*o k / S:Nat):Int) by simp]
     show zw ((g*o k / S:Nat):Int)=((g*o k / S:Nat):Int)
     obtain ⟨z,hz⟩:∃z,g*o k / S=z:=⟨_,rfl⟩
     rw [hz] at hd ⊢
     exact w64 (by omega)
    rw [if_pos (by simp; omega),if_pos (by rw [hS]; omega),e2,ek,Int.toNat_natCast,Qam,w64 (by omega)]
    refine ⟨_,rfl,⟨k+1,k,hkc,hkc,?_⟩,by simp; omega⟩
    rw [e1]
    congr 1
    ·omega
    ·congr 2
     refine Zp fun j hj=>?_
     by_cases e:j=k
     ·subst e; simp
     ·rw [if_neg e]
      by_cases e2:j < k
      ·rw [if_pos e2,if_pos (by omega)]
      ·rw [if_neg e2,if_neg (by omega)]
  ·right
   have:k=c:=by omega
   subst this
   rw [if_neg (by simp)]
   refine ⟨_,rfl,last,hlast,?_⟩
   congr 2
   exact Zp fun j hj=>if_pos hj
theorem Q1s {n:Nat} (hn:n≤5) {w:Int} {o:List Int}:Jh ⟨List.replicate n (0:Int),w,o⟩=some (List.replicate n 1):=by
 unfold Jh
 refine Qi4 (Qbp (s0:=((0:Int),([]:List Int))) (r:=List.replicate n 1) (fun k=>((k:Int),List.replicate k (1:Int))) n rfl (fun k hk=>?_) ?_ (by omega)) rfl
 ·unfold Kd
  simp only
  rw [if_pos (by simp; omega),if_pos (by simp; omega),lkI_nat (by simpa using hk)]
  simp only [Option.bind_some,List.getElem_replicate]
  have e:zw (1+zw (Int.tmod 0 4))=1:=by decide
  rw [e,if_pos (by simp; omega),w64 (by omega),←List.replicate_succ']
  rfl
 ·unfold Kd
  simp only
  rw [if_neg (by simp)]
theorem Qkp {q:List Nat} {k a:Nat} (h:q.Nodup) (hk:∀x∈q,x < k):(q.take a++[k]++q.drop a).Nodup∧∀x∈q.take a++[k]++q.drop a,x < k+1:=by
 have hperm:(q.take a++[k]++q.drop a).Perm (k::q):=by
  have h1:(q.take a++[k]++q.drop a).Perm ([k]++q.take a++q.drop a):=List.Perm.append_right _ List.perm_append_comm
  have h2:[k]++q.take a++q.drop a=k::q:=by simp
  rw [h2] at h1
  exact h1
 refine ⟨?_,fun x hx=>?_⟩
 ·rw [hperm.nodup_iff,List.nodup_cons]
  exact ⟨fun hm=>Nat.lt_irrefl _ (hk k hm),h⟩
 ·have:=hperm.mem_iff.1 hx
  rcases List.mem_cons.1 this with e | e
  ·omega
  ·have:=hk x e; omega
theorem Qve {n:Nat} (hn:n≤5) {o:List Int} (ho:∀x∈o,0≤x∧x≤255) :
  ∃q:List Nat,q.Nodup∧(∀x∈q,x < n)∧q.length=n∧Yw ⟨List.replicate n (0:Int),0,o⟩=some (q.map fun (x:Nat)=>(x:Int)):=by
 have hw:=Vm (body:=Vg ⟨List.replicate n (0:Int),0,o⟩) (fun s=>∃q:List Nat,q.Nodup∧(∀x∈q,x < q.length)∧q.length≤n∧s=((q.length:Int),q.map fun (x:Nat)=>(x:Int)))
  (fun s=>n - s.1.toNat) (fun r=>∃q:List Nat,q.Nodup∧(∀x∈q,x < n)∧q.length=n∧r=q.map fun (x:Nat)=>(x:Int)) (fun s hs=>?_) ((0:Int),([]:List Int)) ⟨[],List.nodup_nil,fun x hx=>by simp at hx,by simp,rfl⟩ (by simp; omega)
 ·obtain ⟨r,h1,q,h2,h3,h4,rfl⟩:=hw
  refine ⟨q,h2,h3,h4,?_⟩
  unfold Yw
  rw [h1]; rfl
 ·obtain ⟨q,hnd,hx,hl,rfl⟩:=hs
  unfold Vg
  rw [Q1s hn]
  simp only [Option.bind_some,List.length_replicate,List.length_map]
  by_cases hc:q.length < n
  ·left
   rw [if_pos (by simpa using hc)]
   have ek:zw ((q.length:Int)+1)=((q.length+1:Nat):Int):=by rw [w64 (by omega)]; omega
   have ins:∀a:Nat,a≤q.length→∃s',s'=((((q.take a++[q.length]++q.drop a).length:Nat):Int),(q.take a++[q.length]++q.drop a).map fun (x:Nat)=>(x:Int)) ∧
     (∃q:List Nat,q.Nodup∧(∀x∈q,x < q.length)∧q.length≤n∧s'=((q.length:Int),q.map fun (x:Nat)=>(x:Int)))∧n - s'.1.toNat < n - ((q.length:Int)).toNat := fun a ha=>by
    obtain ⟨i1,i2⟩:=Qkp (a:=a) hnd hx
    have hlen:(q.take a++[q.length]++q.drop a).length=q.length+1:=by simp; omega
    exact ⟨_,rfl,⟨_,i1,fun x hx=>by rw [hlen]; exact i2 x hx,by rw [hlen]; omega,rfl⟩,by simp only [hlen]; simp; omega⟩
   have hsub:∀a:Nat,a≤q.length→sub (q.map fun (x:Nat)=>(x:Int)) 0 (a:Int)=(q.take a).map (fun (x:Nat)=>(x:Int))∧sub (q.map fun (x:Nat)=>(x:Int)) (a:Int) (q.length:Int)=(q.drop a).map (fun (x:Nat)=>(x:Int)):=fun a ha=>by
    unfold sub
    refine ⟨by simp,?_⟩
    simp only [Int.toNat_natCast]
    rw [List.take_of_length_le (by simp),List.map_drop]
   by_cases ho':q.length < o.length
   ·rw [if_pos (by simpa using ho'),lkI_nat ho']
    simp only [Option.bind_some]
    have hv:=ho _ (List.getElem_mem ho')
    obtain ⟨a,ha,hae⟩:∃a:Nat,a≤q.length∧Int.tmod (zw o[q.length]) ((q.length+1:Nat):Int)=(a:Int):=by
     refine ⟨(o[q.length]).toNat % (q.length+1),by have:=Nat.mod_lt (o[q.length]).toNat (show 0 < q.length+1 by omega); omega,?_⟩
     rw [w64 (by omega),Kb hv.1]
     rw [Int.natCast_emod,Int.toNat_of_nonneg hv.1]
    obtain ⟨s',hs',h1,h2⟩:=ins a ha
    refine ⟨s',?_,h1,by simpa using h2⟩
    rw [ek,if_pos (by omega),hae,if_pos (by omega),(hsub a ha).1,if_pos (by simp; omega),if_pos (by simp; omega),if_pos (by omega),(hsub a ha).2,if_pos (by simp; omega),hs']
    simp
    omega
   ·rw [if_neg (by simpa using ho')]
    obtain ⟨s',hs',h1,h2⟩:=ins 0 (by omega)
    refine ⟨s',?_,h1,by simpa using h2⟩
    have hz:=hsub 0 (by omega)
    rw [ek,if_pos (by omega),show sub (q.map fun (x:Nat)=>(x:Int)) 0 0=(q.take 0).map (fun (x:Nat)=>(x:Int)) from hz.1,if_pos (by simp),if_pos (by simp),if_pos (by omega),show sub (q.map fun (x:Nat)=>(x:Int)) 0 (q.length:Int)=(q.drop 0).map (fun (x:Nat)=>(x:Int)) from hz.2,if_pos (by simp; omega),hs']
    simp
  ·right
   rw [if_neg (by simpa using hc)]
   exact ⟨_,rfl,q,hnd,fun x hm=>by have:=hx x hm; omega,by omega,rfl⟩
theorem Qjr {x:Int}:0≤zv x:=by simp only [IntKind.wrap,IntKind.bits,IntKind.signed]; simp; omega
theorem Qgq {n:Nat} {q:List Nat} (hn:q.Nodup) (hl:∀x∈q,x < n) (hlen:q.length=n):∀v,v < n→v∈q:=fun v hv=>by
 apply Classical.byContradiction
 intro hno
 have h1:(v::q).Nodup:=List.nodup_cons.2 ⟨hno,hn⟩
 have h2:(v::q) ⊆ List.range n:=fun p hp=>by
  rcases List.mem_cons.1 hp with e | e
  ·subst e; exact List.mem_range.2 hv
  ·exact List.mem_range.2 (hl p e)
 have:=Qa3 _ _ h1 h2
 simp at this
 omega
theorem Qdx {q:List Nat} {i:Nat} (hi:i < q.length) {v:Nat}:v∈q.take (i+1)↔v∈q.take i∨v=q[i]:=by
 rw [Q2 hi,List.mem_append,List.mem_singleton]
theorem Qje {q:List Nat} (hn:q.Nodup) {i:Nat} (hi:i < q.length):q[i] ∉ q.take i:=fun h=>by
 obtain ⟨k,hk,e⟩:=List.mem_iff_getElem.1 h
 rw [List.length_take] at hk
 rw [List.getElem_take] at e
 have:=List.pairwise_iff_getElem.1 hn k i (by omega) hi (by omega)
 exact this e
theorem Qnp:∀{q:List Nat} {p j:Nat},p∈q.take j→q.idxOf p < j
 | [],p,j,h=>by simp at h
 | x::q,p,0,h=>by simp at h
 | x::q,p,j+1,h=>by
  rw [List.idxOf_cons]
  by_cases e:x=p
  ·subst e; simp
  ·have:p∈q.take j:=by
    rcases List.mem_cons.1 h with e' | e'
    ·exact absurd e'.symm e
    ·exact e'
   have:=Qnp this
   rw [show (x==p)=false by simpa using e]
   simp; omega
theorem Qzx {q:List Nat} (hn:q.Nodup) {j:Nat} (hj:j < q.length):j≤q.idxOf q[j]:=by
 apply Classical.byContradiction
 intro h
 have hk:q.idxOf q[j] < q.length:=by omega
 have e:q[q.idxOf q[j]]=q[j]:=List.getElem_idxOf hk
 have:=List.pairwise_iff_getElem.1 hn (q.idxOf q[j]) j hk hj (by omega)
 exact this e
def dcnt (p0:Qf):Nat := min (max p0.Nodes.length 1) 5
theorem Qfw {p0:Qf}:(if 5 < (if 1 > (p0.Nodes.length:Int) then 1 else (p0.Nodes.length:Int)) then 5 else (if 1 > (p0.Nodes.length:Int) then 1 else (p0.Nodes.length:Int)))=(dcnt p0:Int):=by
 unfold dcnt
 split <;> split at * <;> omega
theorem Qib {p0:Qf}:1≤dcnt p0∧dcnt p0≤5:=by unfold dcnt; omega
structure Qwf (p0:Qf):Prop where
 grain:0≤p0.Grain∧p0.Grain≤255
 order:∀x∈p0.Order,0≤x∧x≤255
 card:∀p∈p0.Nodes,0≤p.Card∧p.Card≤255
 W:∀p∈p0.Nodes,∀x∈p.W,0≤x∧x≤255
 Wl:∀p∈p0.Nodes,p.W.length≤9223372036854775807
section
variable {p0:Qf} {q:List Nat}
theorem Qm2 {i:Nat} (hi:i < q.length):lkI (q.map fun (x:Nat)=>(x:Int)) (i:Int)=some ((q[i]:Nat):Int):=by rw [lkI_nat (by simpa using hi)]; simp
theorem Q2v (h:Qwf p0) (hn:q.Nodup) (hl:∀x∈q,x < dcnt p0) (hlen:q.length=dcnt p0) :
  ∃C:Nat → Nat,(∀v,v < dcnt p0→2≤C v∧C v≤3) ∧
   Qa fuel (Y2 p0 (q.map fun (x:Nat)=>(x:Int))) (1,0,List.replicate (dcnt p0) (Sum.inl 0))=some (Qe (dcnt p0) fun v=>Sum.inl (C v:Int)):=by
 have hcn:=Qib (p0:=p0)
 have hw:=Vm (body:=Y2 p0 (q.map fun (x:Nat)=>(x:Int)))
  (fun s=>∃(w:Int) (i:Nat) (C:Nat → Nat),i≤dcnt p0∧(∀v,v∈q.take i→2≤C v∧C v≤3)∧s=(w,(i:Int),Qe (dcnt p0) fun v=>Sum.inl (C v:Int)))
  (fun s=>dcnt p0 - s.2.1.toNat)
  (fun r=>∃C:Nat → Nat,(∀v,v < dcnt p0→2≤C v∧C v≤3)∧r=Qe (dcnt p0) fun v=>Sum.inl (C v:Int))
  (fun s hs=>?_) (1,0,List.replicate (dcnt p0) (Sum.inl 0)) ⟨1,0,fun _=>0,by omega,fun v hv=>by simp at hv,by rw [Qm6]; rfl⟩ (by simp; omega)
 ·obtain ⟨r,h1,C,h2,rfl⟩:=hw
  exact ⟨C,h2,h1⟩
 ·obtain ⟨w,i,C,hi,hC,rfl⟩:=hs
  by_cases hic:i < dcnt p0
  ·left
   have hiq:i < q.length:=by omega
   have hv:=hl _ (List.getElem_mem hiq)
   have ek:zw ((i:Int)+1)=((i+1:Nat):Int):=by rw [w64 (by omega)]; omega
   have leaf:∀(w':Int) (c:Nat),2≤c→c≤3→(∃s',some (Qi.next (w',zw ((i:Int)+1),List.set (Qe (dcnt p0) fun v=>(Sum.inl (C v:Int):Int ⊕ Tapi_Node)) (Int.toNat ((q[i]:Nat):Int)) (Sum.inl (c:Int))))=some (Qi.next (ρ:=List (Int ⊕ Tapi_Node)) s') ∧
     (∃(w:Int) (i:Nat) (C:Nat → Nat),i≤dcnt p0∧(∀v,v∈q.take i→2≤C v∧C v≤3)∧s'=(w,(i:Int),Qe (dcnt p0) fun v=>Sum.inl (C v:Int)))∧dcnt p0 - s'.2.1.toNat < dcnt p0 - (i:Int).toNat):=fun w' c c1 c2=>by
    rw [ek]
    refine ⟨_,rfl,⟨w',i+1,Qi2 C q[i] c,hic,fun v hv=>?_,?_⟩,by simp; omega⟩
    ·rcases (Qdx hiq).1 hv with e | e
     ·by_cases e2:v=q[i]
      ·subst e2; rw [Qa7]; exact ⟨c1,c2⟩
      ·rw [Qfx e2]; exact hC v e
     ·subst e; rw [Qa7]; exact ⟨c1,c2⟩
    ·rw [Int.toNat_natCast,Qam]
     congr 2
     refine Zp fun k hk=>?_
     by_cases e:k=q[i]
     ·rw [if_pos e,e,Qa7]
     ·rw [if_neg e,Qfx e]
   have hk:lkL (Qe (dcnt p0) fun v=>(Sum.inl (C v:Int):Int ⊕ Tapi_Node)) ((q[i]:Nat):Int)=some (C q[i]:Int):=by unfold lkL; rw [Zn hv]; rfl
   unfold Y2
   simp only [Qfw]
   rw [if_pos (by simpa using hic)]
   by_cases hin:i < p0.Nodes.length
   ·have hp:=h.card _ (List.getElem_mem hin)
    have ec:zw (2+zw (Int.tmod (p0.Nodes[i]).Card 2))=((2+(p0.Nodes[i]).Card.toNat % 2:Nat):Int):=by
     have w1:zw ((p0.Nodes[i]).Card % 2)=(p0.Nodes[i]).Card % 2:=w64 (by omega)
     rw [Kb hp.1,w1,w64 (by omega)]; omega
    rw [if_pos (by simpa using hin),lkI_nat hin]
    simp only [Option.bind_some]
    rw [if_pos Qjr]
    split
    ·rw [Qm2 hiq]
     simp only [Option.bind_some]
     rw [hk]
     exact leaf _ 2 (by omega) (by omega)
    ·rw [Qm2 hiq]
     simp only [Option.bind_some]
     rw [hk]
     simp only [Option.bind_some]
     rw [ec]
     exact leaf _ _ (by omega) (by omega)
   ·rw [if_neg (by simpa using hin),if_pos Qjr]
    split
    ·rw [Qm2 hiq]
     simp only [Option.bind_some]
     rw [hk]
     exact leaf _ 2 (by omega) (by omega)
    ·rw [Qm2 hiq]
     simp only [Option.bind_some]
     rw [hk]
     simp only [Option.bind_some]
     exact leaf _ 2 (by omega) (by omega)
  ·right
   have:i=dcnt p0:=by omega
   subst this
   unfold Y2
   simp only [Qfw]
   rw [if_neg (by simp)]
   refine ⟨_,rfl,C,fun v hv=>hC v ?_,rfl⟩
   rw [List.take_of_length_le (by omega)]
   exact Qgq hn hl hlen v hv
theorem Q2g (hn:q.Nodup) {L:List (Int ⊕ Tapi_Node)} {i u:Nat} {P:List Nat} {pc:Qu} (hi:i < q.length) (hq:q.length≤5) :
  ∃P':List Nat,(P'=P∨(P'=P++[u]∧u∈q.take i∧P.length < 3)) ∧
   Qa fuel (Y3 ((i:Int),L) (q.map fun (x:Nat)=>(x:Int)) ((u:Int),P.map fun (x:Nat)=>(x:Int)) pc) (0,P.map fun (x:Nat)=>(x:Int))=some (P'.map fun (x:Nat)=>(x:Int)):=by
 have hw:=Vm (body:=Y3 ((i:Int),L) (q.map fun (x:Nat)=>(x:Int)) ((u:Int),P.map fun (x:Nat)=>(x:Int)) pc)
  (fun s=>∃(k:Nat) (P':List Nat),k≤i∧(P'=P∨(P'=P++[u]∧u∈q.take k∧P.length < 3))∧s=((k:Int),P'.map fun (x:Nat)=>(x:Int)))
  (fun s=>i - s.1.toNat) (fun r=>∃P':List Nat,(P'=P∨(P'=P++[u]∧u∈q.take i∧P.length < 3))∧r=P'.map fun (x:Nat)=>(x:Int))
  (fun s hs=>?_) ((0:Int),P.map fun (x:Nat)=>(x:Int)) ⟨0,P,by omega,.inl rfl,rfl⟩ (by simp; omega)
 ·obtain ⟨r,h1,P',h2,rfl⟩:=hw
  exact ⟨P',h2,h1⟩
 ·obtain ⟨k,P',hk,hP,rfl⟩:=hs
  by_cases hki:k < i
  ·left
   have hkq:k < q.length:=by omega
   have ek:zw ((k:Int)+1)=((k+1:Nat):Int):=by rw [w64 (by omega)]; omega
   have same:∃s',some (Qi.next (zw ((k:Int)+1),P'.map fun (x:Nat)=>(x:Int)))=some (Qi.next (ρ:=List Int) s') ∧
     (∃(k:Nat) (P':List Nat),k≤i∧(P'=P∨(P'=P++[u]∧u∈q.take k∧P.length < 3))∧s'=((k:Int),P'.map fun (x:Nat)=>(x:Int)))∧i - s'.1.toNat < i - (k:Int).toNat := by
    rw [ek]
    exact ⟨_,rfl,⟨k+1,P',hki,hP.imp id fun h=>⟨h.1,(Qdx hkq).2 (.inl h.2.1),h.2.2⟩,rfl⟩,by simp; omega⟩
   unfold Y3
   simp only
   rw [if_pos (by simpa using hki),Qm2 hkq]
   simp only [Option.bind_some]
   by_cases hqu:q[k]=u
   ·rw [if_pos (by simp [hqu]),if_pos Qjr]
    have hPP:P'=P:=by
     rcases hP with e | ⟨_,e,_⟩
     ·exact e
     ·exact absurd (hqu ▸ e) (Qje hn hkq)
    subst hPP
    split
    ·split
     ·rename_i h3
      have h3':P'.length < 3:=by simp at h3; omega
      rw [if_pos (by simp; omega),ek]
      exact ⟨_,rfl,⟨k+1,P'++[u],hki,.inr ⟨rfl,(Qdx hkq).2 (.inr hqu.symm),h3'⟩,by simp⟩,by simp; omega⟩
     ·exact same
    ·exact same
   ·rw [if_neg (by simpa using (fun e:((q[k]:Nat):Int)=(u:Int)=>hqu (by omega)))]
    exact same
  ·right
   have:k=i:=by omega
   subst this
   unfold Y3
   simp only
   rw [if_neg (by simp)]
   exact ⟨_,rfl,P',hP,rfl⟩
theorem Q3l (hn:q.Nodup) (hlen:q.length=dcnt p0) {L:List (Int ⊕ Tapi_Node)} {i:Nat} {pc:Qu} (hi:i < q.length) :
  ∃P:List Nat,P.Pairwise (· < ·)∧(∀p∈P,p∈q.take i)∧P.length≤3 ∧
   Qa fuel (Xy p0 ((i:Int),L) (q.map fun (x:Nat)=>(x:Int)) pc) (0,[])=some (P.map fun (x:Nat)=>(x:Int)):=by
 have hcn:=Qib (p0:=p0)
 have hw:=Vm (body:=Xy p0 ((i:Int),L) (q.map fun (x:Nat)=>(x:Int)) pc)
  (fun s=>∃(u:Nat) (P:List Nat),u≤dcnt p0∧P.Pairwise (· < ·)∧(∀p∈P,p < u∧p∈q.take i)∧P.length≤3∧s=((u:Int),P.map fun (x:Nat)=>(x:Int)))
  (fun s=>dcnt p0 - s.1.toNat) (fun r=>∃P:List Nat,P.Pairwise (· < ·)∧(∀p∈P,p∈q.take i)∧P.length≤3∧r=P.map fun (x:Nat)=>(x:Int))
  (fun s hs=>?_) ((0:Int),([]:List Int)) ⟨0,[],by omega,List.Pairwise.nil,fun p hp=>by simp at hp,by simp,rfl⟩ (by simp; omega)
 ·obtain ⟨r,h1,P,h2,h3,h4,rfl⟩:=hw
  exact ⟨P,h2,h3,h4,h1⟩
 ·obtain ⟨u,P,hu,h2,h3,h4,rfl⟩:=hs
  unfold Xy
  simp only [Qfw]
  by_cases huc:u < dcnt p0
  ·left
   obtain ⟨P',hP',hb⟩:=Q2g hn (L:=L) (u:=u) (P:=P) (pc:=pc) hi (by omega)
   have ek:zw ((u:Int)+1)=((u+1:Nat):Int):=by rw [w64 (by omega)]; omega
   rw [if_pos (by simpa using huc),hb]
   simp only [Option.bind_some]
   rw [ek]
   refine ⟨_,rfl,⟨u+1,P',huc,?_,?_,?_,rfl⟩,by simp; omega⟩
   ·rcases hP' with rfl | ⟨rfl,_,_⟩
    ·exact h2
    ·rw [List.pairwise_append]
     exact ⟨h2,List.pairwise_singleton _ _,fun a ha b hb=>by simp at hb; subst hb; exact (h3 a ha).1⟩
   ·rcases hP' with rfl | ⟨rfl,hm,_⟩
    ·exact fun p hp=>⟨by have:=(h3 p hp).1; omega,(h3 p hp).2⟩
    ·intro p hp
     rcases List.mem_append.1 hp with e | e
     ·exact ⟨by have:=(h3 p e).1; omega,(h3 p e).2⟩
     ·simp at e; subst e; exact ⟨by omega,hm⟩
   ·rcases hP' with rfl | ⟨rfl,_,hlt⟩
    ·exact h4
    ·simp; omega
  ·right
   rw [if_neg (by simpa using huc)]
   exact ⟨_,rfl,P,h2,fun p hp=>(h3 p hp).2,h4,rfl⟩
theorem Qq1 {n:Nat} {g:Int} {F:Nat → Tapi_Node} {C:Nat → Nat} (hF:∀v,v < n→(F v).Card=(C v:Int)) (hn:n≤8):Qb8 ⟨g,Qe n F⟩=some (Zc n C):=by
 unfold Qb8
 refine Qi4 (Qbp (s0:=((0:Int),([]:List Int))) (r:=Zc n C) (fun k=>((k:Int),Zc k C)) n rfl (fun k hk=>?_) ?_ (by omega)) rfl
 ·unfold Qcg
  simp only
  rw [if_pos (by rw [Zo]; simpa using hk),Zn hk]
  simp only [Option.bind_some]
  rw [hF k hk,show Zc k C++[(C k:Int)]=Zc (k+1) C from Qhj,if_pos (by rw [Qco]; omega),w64 (by omega)]
  rfl
 ·unfold Qcg
  simp only
  rw [if_neg (by rw [Zo]; simp)]
theorem Qk9 {f:Nat → Nat} {l:List Nat} (hf:∀p∈l,f p≤4) (hl:l.length≤8):Kl (l.map fun p=>(f p:Int))=some (lprod f l:Int):=by
 unfold Kl
 refine Qi4 (Qbp (s0:=((1:Int),(0:Int))) (r:=(lprod f l:Int)) (fun k=>((lprod f (l.take k):Int),(k:Int))) l.length (by simp [lprod]) (fun k hk=>?_) ?_ (by omega)) rfl
 ·have h1:lprod f (l.take k)≤4^8:=Nat.le_trans (Qi8 fun p hp=>hf p (List.mem_of_mem_take hp)) (Nat.pow_le_pow_right (by omega) (by rw [List.length_take]; omega))
  have h2:=hf _ (List.getElem_mem hk)
  have h3:lprod f (l.take k)*f l[k]≤65536*4:=Nat.mul_le_mul (by omega) h2
  have e:(lprod f (l.take k):Int)*(f l[k]:Int)=((lprod f (l.take (k+1)):Nat):Int):=by rw [Q2 hk,Qf8]; simp
  have e2:lprod f (l.take (k+1))≤65536*4:=by rw [Q2 hk,Qf8]; exact h3
  unfold Qdn
  simp only
  rw [if_pos (by simpa using hk),lkI_nat (by simpa using hk)]
  simp only [Option.bind_some,List.getElem_map]
  rw [e,w64 (by omega),w64 (by omega)]
  rfl
 ·unfold Qdn
  simp only
  rw [if_neg (by simp),List.take_of_length_le (Nat.le_refl _)]
theorem Q3j {n v:Nat} {N:Nat → Int ⊕ Tapi_Node} {x:Tapi_Node}:List.set (List.map coTapi_Node (Qe n N)) (Int.toNat (v:Int)) x=Qe n fun k=>if k=v then x else coTapi_Node (N k):=by
 rw [show List.map coTapi_Node (Qe n N)=Qe n (fun k=>coTapi_Node (N k)) by simp [Qe],Int.toNat_natCast,Qam]
theorem Qvo {n v:Nat} {g:Int} {N:Nat → Int ⊕ Tapi_Node} {C:Nat → Nat} {P:List Nat} {R:List (List Int)} (hN:∀k,k < n→(coTapi_Node (N k)).Card=(C k:Int)) (hn:n≤8) (hv:v < n) (hP:∀p∈P,p < n) (hl:P.length≤8) :
  Zf ⟨g,List.set (List.map coTapi_Node (Qe n N)) (Int.toNat (v:Int)) ⟨(C v:Int),P.map (fun (x:Nat)=>(x:Int)),R⟩⟩ (v:Int)=some (P.map fun p=>(C p:Int)):=by
 unfold Zf
 rw [Q3j,Qq1 (C:=C) (fun k hk=>?_) hn]
 ·simp only [Option.bind_some]
  rw [Zn hv]
  simp only [Option.bind_some,if_true]
  rw [Q0w hP hl]
  rfl
 ·by_cases e:k=v
  ·subst e; rw [if_pos rfl]
  ·rw [if_neg e]; exact hN k hk
theorem Q3d {g c v i:Nat} {N:Nat → Int ⊕ Tapi_Node} {C:Nat → Nat} {P:List Nat} {pc:Qu} (hg:zw (1+(zw (Int.tmod p0.Grain 60)))=(g:Int)) (hg60:g≤60)
  (hC:∀k,k < dcnt p0→2≤C k∧C k≤3) (hN:∀k,k < dcnt p0→(coTapi_Node (N k)).Card=(C k:Int)) (hv:v < dcnt p0) (hP:∀p∈P,p < dcnt p0) (hl:P.length≤3)
  (hW:∀x∈pc.W,0≤x∧x≤255) (hWl:pc.W.length≤9223372036854775807) :
  ∃W:Nat → Nat → Nat,(∀r,r < lprod C P→Q0 (C v) (fun x=>(W r x:Int))=g) ∧
   Qa fuel (Y1 p0 ((i:Int),Qe (dcnt p0) N) (v:Int) (C v:Int) (P.map fun (x:Nat)=>(x:Int)) pc) (0,[])=some (Qe (lprod C P) fun r=>Qe (C v) fun x=>(W r x:Int)):=by
 have hcn:=Qib (p0:=p0)
 have hcv:=hC v hv
 have hsz:=Qk9 (f:=C) (l:=P) (fun p hp=>by have:=hC p (hP p hp); omega) (by omega)
 have hb:lprod C P≤64:=Nat.le_trans (Qi8 fun p hp=>by have:=hC p (hP p hp); omega) (Nat.pow_le_pow_right (by omega) hl:4^P.length≤4^3)
 have hw:=Vm (body:=Y1 p0 ((i:Int),Qe (dcnt p0) N) (v:Int) (C v:Int) (P.map fun (x:Nat)=>(x:Int)) pc)
  (fun s=>∃(r:Nat) (W:Nat → Nat → Nat),r≤lprod C P∧(∀r',r' < r→Q0 (C v) (fun x=>(W r' x:Int))=g)∧s=((r:Int),Qe r fun r=>Qe (C v) fun x=>(W r x:Int)))
  (fun s=>lprod C P - s.1.toNat) (fun o=>∃W:Nat → Nat → Nat,(∀r,r < lprod C P→Q0 (C v) (fun x=>(W r x:Int))=g)∧o=Qe (lprod C P) fun r=>Qe (C v) fun x=>(W r x:Int))
  (fun s hs=>?_) ((0:Int),([]:List (List Int))) ⟨0,fun _ _=>0,by omega,fun r hr=>by omega,rfl⟩ (by simp; omega)
 ·obtain ⟨o,h1,W,h2,rfl⟩:=hw
  exact ⟨W,h2,h1⟩
 ·obtain ⟨r,W,hr,hS,rfl⟩:=hs
  unfold Y1
  simp only
  rw [Qvo hN (by omega) hv hP (by omega)]
  simp only [Option.bind_some]
  rw [hsz]
  simp only [Option.bind_some]
  by_cases hrs:r < lprod C P
  ·left
   have hm:r*(C v+1)≤64*4:=Nat.mul_le_mul (by omega) (by omega)
   have ef:zw ((r:Int)*zw ((C v:Int)+1))=((r*(C v+1):Nat):Int):=by
    have w1:zw ((C v:Int)+1)=((C v+1:Nat):Int):=by rw [w64 (by omega)]; omega
    have e3:(r:Int)*((C v+1:Nat):Int)=((r*(C v+1):Nat):Int):=by simp
    rw [w1,e3]
    exact w64 (by omega)
   obtain ⟨f,hf,hfs⟩:=Qz6 (g:=g) (c:=C v) (l:=pc.W) (fr:=r*(C v+1)) hg60 (by omega) (by omega) hW hWl (by omega)
   have ek:zw ((r:Int)+1)=((r+1:Nat):Int):=by rw [w64 (by omega)]; omega
   rw [if_pos (by simpa using hrs),hg,ef,hf]
   simp only [Option.bind_some]
   rw [if_pos (by simp [Zo]; omega),ek]
   have e:(Qe r fun r=>Qe (C v) fun x=>(W r x:Int))++[Qe (C v) fun x=>(f x:Int)]=Qe (r+1) fun r'=>Qe (C v) fun x=>((Qi2 W r f) r' x:Int):=by
    rw [←Qhj,Qa7]
    congr 1
    exact Zp fun k hk=>by rw [Qfx (by omega)]
   refine ⟨_,rfl,⟨r+1,Qi2 W r f,hrs,fun r' hr'=>?_,by rw [e]⟩,by simp; omega⟩
   by_cases e2:r'=r
   ·subst e2; rw [Qa7]; exact hfs
   ·rw [Qfx e2]; exact hS r' (by omega)
  ·right
   have:r=lprod C P:=by omega
   subst this
   rw [if_neg (by simp)]
   exact ⟨_,rfl,W,hS,rfl⟩
theorem Q4f {s:Int × List (Int ⊕ Tapi_Node)} {x1:List Int}:Qdi p0 s x1=Xy p0 s x1 ⟨0,0,[]⟩:=rfl
theorem Q1u {n:Nat} {F:Nat → Tapi_Node}:alr (Qe n fun v=>(Sum.inr (F v):Int ⊕ Tapi_Node))=some (Qe n F):=by
 have:∀l:List Nat,alr (l.map fun v=>(Sum.inr (F v):Int ⊕ Tapi_Node))=some (l.map F):=by
  intro l
  induction l with
  | nil=>rfl
  | cons x l ih=>simp only [List.map_cons,alr,ih,Option.map_some]
 exact this _
def GdF (D:NF) (q:List Nat) (j:Nat) (v:Nat):Prop:=(D.par v).Pairwise (· < ·)∧(∀p∈D.par v,p∈q.take j)∧(D.par v).length≤3∧∀r,r < D.rows v→Q0 (D.card v) (fun x=>(D.W v r x:Int))=D.g
theorem Q23 (h:Qwf p0) (hn:q.Nodup) (hl:∀x∈q,x < dcnt p0) (hlen:q.length=dcnt p0) {g:Nat} (hg:zw (1+(zw (Int.tmod p0.Grain 60)))=(g:Int)) (hg60:g≤60)
  {C:Nat → Nat} (hC:∀k,k < dcnt p0→2≤C k∧C k≤3) :
  ∃(P:Nat → List Nat) (W:Nat → Nat → Nat → Nat),(∀j (hj:j < q.length),GdF ⟨dcnt p0,g,C,P,W⟩ q j q[j]) ∧
   Qa fuel (Y6 p0 (q.map fun (x:Nat)=>(x:Int))) (0,Qe (dcnt p0) fun v=>Sum.inl (C v:Int))=some (Qe (dcnt p0) fun v=>Sum.inr ((NF.mk (dcnt p0) g C P W).node v)):=by
 have hcn:=Qib (p0:=p0)
 let N:Nat → (Nat → List Nat)→(Nat → Nat → Nat → Nat)→Nat → Int ⊕ Tapi_Node:=fun i P W v=>if v∈q.take i then Sum.inr ((NF.mk (dcnt p0) g C P W).node v) else Sum.inl (C v:Int)
 have hNco:∀i P W k,(coTapi_Node (N i P W k)).Card=(C k:Int):=fun i P W k=>by
  show (coTapi_Node (if k∈q.take i then Sum.inr ((NF.mk (dcnt p0) g C P W).node k) else Sum.inl (C k:Int))).Card=_
  split <;> rfl
 have hw:=Vm (body:=Y6 p0 (q.map fun (x:Nat)=>(x:Int)))
  (fun s=>∃(i:Nat) (P:Nat → List Nat) (W:Nat → Nat → Nat → Nat),i≤dcnt p0∧(∀j (hj:j < q.length),j < i→GdF ⟨dcnt p0,g,C,P,W⟩ q j q[j])∧s=((i:Int),Qe (dcnt p0) (N i P W)))
  (fun s=>dcnt p0 - s.1.toNat)
  (fun o=>∃(P:Nat → List Nat) (W:Nat → Nat → Nat → Nat),(∀j (hj:j < q.length),GdF ⟨dcnt p0,g,C,P,W⟩ q j q[j])∧o=Qe (dcnt p0) fun v=>Sum.inr ((NF.mk (dcnt p0) g C P W).node v))
  (fun s hs=>?_) ((0:Int),Qe (dcnt p0) fun v=>Sum.inl (C v:Int)) ⟨0,fun _=>[],fun _ _ _=>0,by omega,fun j _ hj=>by omega,by congr 1⟩ (by simp; omega)
 ·obtain ⟨o,h1,P,W,h2,rfl⟩:=hw
  exact ⟨P,W,h2,h1⟩
 ·obtain ⟨i,P,W,hi,hG,rfl⟩:=hs
  by_cases hic:i < dcnt p0
  ·left
   have hiq:i < q.length:=by omega
   have hv:=hl _ (List.getElem_mem hiq)
   have hnot:=Qje hn hiq
   have ek:zw ((i:Int)+1)=((i+1:Nat):Int):=by rw [w64 (by omega)]; omega
   have hk:lkL (Qe (dcnt p0) (N i P W)) ((q[i]:Nat):Int)=some (C q[i]:Int):=by
    unfold lkL
    rw [Zn hv]
    show Option.bind (some (if q[i]∈q.take i then _ else _)) _=_
    rw [if_neg hnot]; rfl
   have leaf:∀pc:Qu,(∀x∈pc.W,0≤x∧x≤255)→pc.W.length≤9223372036854775807 →
     ∃s',((Qa fuel (Xy p0 ((i:Int),Qe (dcnt p0) (N i P W)) (q.map fun (x:Nat)=>(x:Int)) pc) (0,([]:List Int))).bind fun x72 =>
      (Qa fuel (Y1 p0 ((i:Int),Qe (dcnt p0) (N i P W)) ((q[i]:Nat):Int) (C q[i]:Int) x72 pc) (0,([]:List (List Int)))).bind fun x83 =>
      some (Qi.next (ρ:=List (Int ⊕ Tapi_Node)) (zw ((i:Int)+1),(List.set (Qe (dcnt p0) (N i P W)) (Int.toNat ((q[i]:Nat):Int)) (Sum.inr (Tapi_Node.mk (C q[i]:Int) x72 x83))))))=some (Qi.next s') ∧
      (∃(i:Nat) (P:Nat → List Nat) (W:Nat → Nat → Nat → Nat),i≤dcnt p0∧(∀j (hj:j < q.length),j < i→GdF ⟨dcnt p0,g,C,P,W⟩ q j q[j])∧s'=((i:Int),Qe (dcnt p0) (N i P W)))∧dcnt p0 - s'.1.toNat < dcnt p0 - (i:Int).toNat := fun pc hpW hpl=>by
    obtain ⟨Pv,p1,p2,p3,hb2⟩:=Q3l (p0:=p0) hn hlen (L:=Qe (dcnt p0) (N i P W)) (pc:=pc) hiq
    have hPv:∀p∈Pv,p < dcnt p0:=fun p hp=>hl p (List.mem_of_mem_take (p2 p hp))
    obtain ⟨Wv,w1,hb3⟩:=Q3d (p0:=p0) (i:=i) (c:=0) (pc:=pc) hg hg60 hC (fun k _=>hNco i P W k) hv hPv p3 hpW hpl
    rw [hb2]
    simp only [Option.bind_some]
    rw [hb3]
    simp only [Option.bind_some]
    rw [ek,Int.toNat_natCast,Qam]
    refine ⟨_,rfl,⟨i+1,Qi2 P q[i] Pv,Qi2 W q[i] Wv,hic,fun j hj hji=>?_,?_⟩,by simp; omega⟩
    ·by_cases e:j=i
     ·subst e
      unfold GdF NF.rows
      simp only [Qa7]
      exact ⟨p1,p2,p3,w1⟩
     ·have hne:q[j]≠q[i]:=fun e2=>e (by
       rcases Nat.lt_or_ge j i with h' | h'
       ·exact absurd e2 (List.pairwise_iff_getElem.1 hn j i hj hiq h')
       ·omega)
      have:=hG j hj (by omega)
      unfold GdF NF.rows at this ⊢
      simp only [Qfx hne]
      exact this
    ·congr 1
     refine Zp fun k hk=>?_
     by_cases e:k=q[i]
     ·rw [if_pos e]
      show _=if k∈q.take (i+1) then _ else _
      rw [if_pos ((Qdx hiq).2 (.inr e)),e]
      unfold NF.node NF.rows
      simp only [Qa7]
     ·rw [if_neg e]
      show (if k∈q.take i then _ else _)=if k∈q.take (i+1) then _ else _
      by_cases hm:k∈q.take i
      ·rw [if_pos hm,if_pos ((Qdx hiq).2 (.inl hm))]
       unfold NF.node NF.rows
       simp only [Qfx e]
      ·rw [if_neg hm,if_neg (fun h'=>((Qdx hiq).1 h').elim hm e)]
   unfold Y6
   simp only [Qfw]
   rw [if_pos (by simpa using hic)]
   by_cases hin:i < p0.Nodes.length
   ·rw [if_pos (by simpa using hin),lkI_nat hin]
    simp only [Option.bind_some]
    rw [Qm2 hiq]
    simp only [Option.bind_some]
    rw [hk]
    simp only [Option.bind_some]
    exact leaf _ (h.W _ (List.getElem_mem hin)) (h.Wl _ (List.getElem_mem hin))
   ·rw [if_neg (by simpa using hin),Qm2 hiq]
    simp only [Option.bind_some]
    rw [hk]
    simp only [Option.bind_some]
    rw [Q4f]
    exact leaf ⟨0,0,[]⟩ (fun x hx=>by simp at hx) (by simp)
  ·right
   have:i=dcnt p0:=by omega
   subst this
   unfold Y6
   simp only [Qfw]
   rw [if_neg (by simp)]
   refine ⟨_,rfl,P,W,fun j hj=>hG j hj (by omega),?_⟩
   refine Zp fun k hk=>?_
   show (if k∈q.take (dcnt p0) then _ else _)=_
   rw [if_pos (by rw [List.take_of_length_le (by omega)]; exact Qgq hn hl hlen k hk)]
theorem Qyu (h:Qwf p0):∃D:NF,VX D∧D.n≤5∧(∀v,v < D.n→2≤D.card v∧D.card v≤3)∧V3 p0=some D.net:=by
 have hcn:=Qib (p0:=p0)
 have hgr:=h.grain
 obtain ⟨q,hn,hl,hlen,hq⟩:=Qve (n:=dcnt p0) hcn.2 h.order
 obtain ⟨C,hC,h0⟩:=Q2v h hn hl hlen
 have hg:zw (1+(zw (Int.tmod p0.Grain 60)))=((1+p0.Grain.toNat % 60:Nat):Int):=by
  have w1:zw (p0.Grain % 60)=p0.Grain % 60:=w64 (by omega)
  rw [Kb hgr.1,w1,w64 (by omega)]; omega
 have hg60:1+p0.Grain.toNat % 60≤60:=by omega
 obtain ⟨P,W,hG,h7⟩:=Q23 h hn hl hlen hg hg60 hC
 refine ⟨⟨dcnt p0,1+p0.Grain.toNat % 60,C,P,W⟩,?_,hcn.2,hC,?_⟩
 ·have hall:∀v,v < dcnt p0→∃j,∃hj:j < q.length,q[j]=v:=fun v hv=>List.mem_iff_getElem.1 (Qgq hn hl hlen v hv)
  have hsum:∀v r,v < dcnt p0→r < (NF.mk (dcnt p0) (1+p0.Grain.toNat % 60) C P W).rows v→Q0 (C v) (fun x=>(W v r x:Int))=((1+p0.Grain.toNat % 60:Nat):Int):=fun v r hv hr=>by
   obtain ⟨j,hj,rfl⟩:=hall v hv
   exact (hG j hj).2.2.2 r hr
  refine ⟨⟨by show 1≤dcnt p0; omega,by show dcnt p0≤8; omega,by show 1≤1+p0.Grain.toNat % 60; omega,hg60,fun v hv=>by have:=hC v hv; show 1≤C v∧C v≤4; omega,fun v hv p hp=>?_,fun v hv=>?_,fun v r x hv hr hx=>?_,?_⟩,fun v hv=>?_,fun v hv hp=>?_,⟨fun v=>q.idxOf v,fun v hv p hp=>?_⟩,hsum⟩
  ·obtain ⟨j,hj,rfl⟩:=hall v hv
   exact hl p (List.mem_of_mem_take ((hG j hj).2.1 p hp))
  ·obtain ⟨j,hj,rfl⟩:=hall v hv
   have:=(hG j hj).2.2.1
   omega
  ·have h1:=hsum v r hv hr
   have h2:=Qed (n:=C v) (k:=x+1) (f:=fun x=>(W v r x:Int)) (fun _ _=>Int.natCast_nonneg _) hx
   have h3:0≤Q0 x (fun x=>(W v r x:Int)):=Qae fun _ _=>Int.natCast_nonneg _
   simp only [Q0] at h2
   show W v r x≤1+p0.Grain.toNat % 60
   omega
  ·have h1:Ze (dcnt p0) C≤3^dcnt p0:=Qkz fun v hv=>(hC v hv).2
   have h2:3^dcnt p0≤3^5:=Nat.pow_le_pow_right (by omega) hcn.2
   show Ze (dcnt p0) C≤1024
   omega
  ·obtain ⟨j,hj,rfl⟩:=hall v hv
   exact (hG j hj).1
  ·obtain ⟨j,hj,rfl⟩:=hall v hv
   exact Qje hn hj ((hG j hj).2.1 _ hp)
  ·obtain ⟨j,hj,rfl⟩:=hall v hv
   have h1:=Qnp ((hG j hj).2.1 p hp)
   have h2:=Qzx hn hj
   show q.idxOf p < q.idxOf q[j]
   omega
 ·unfold V3
  simp only [Qfw]
  rw [if_pos (by omega),if_pos (by omega),Int.toNat_natCast,hq]
  simp only [Option.bind_some]
  rw [h0]
  simp only [Option.bind_some]
  rw [h7]
  simp only [Option.bind_some]
  rw [Q1u,hg]
  rfl
end
end Go.Ab
namespace Go.Ab
open Go
set_option maxRecDepth 100000
set_option maxHeartbeats 400000
theorem Xd {τ ρ σ:Type} {n:Nat} (hn:n < 1152921504606846976) (good:Nat → Prop) (mkS:Int→τ→σ) {body:σ→Option (Qi σ ρ)} (T:Nat → τ) (r rb:ρ)
  (step:∀k,k < n→(∀j,j < k→good j)→good k→body (mkS (k:Int) (T k))=some (.next (mkS (zw ((k:Int)+1)) (T (k+1)))))
  (bad:∀k,k < n→(∀j,j < k→good j)→¬ good k→body (mkS (k:Int) (T k))=some (.done rb))
  (done:(∀j,j < n→good j)→body (mkS (n:Int) (T n))=some (.done r)) :
  ((∀j,j < n→good j)∧Qa fuel body (mkS ((0:Nat):Int) (T 0))=some r)∨((¬ ∀j,j < n→good j)∧Qa fuel body (mkS ((0:Nat):Int) (T 0))=some rb):=by
 have h:=Qcp (n:=n) (k0:=0) (by omega) hn mkS (body:=body) (fun k t=>t=T k∧∀j,j < k→good j) (fun x=>((∀j,j < n→good j)∧x=r)∨((¬ ∀j,j < n→good j)∧x=rb))
  (fun k t _ hk hI=>by
   obtain ⟨rfl,hI⟩:=hI
   by_cases hg:good k
   ·left
    exact ⟨_,step k hk hI hg,rfl,fun j hj=>by
     by_cases e:j=k
     ·rw [e]; exact hg
     ·exact hI j (by omega)⟩
   ·exact .inr ⟨_,bad k hk hI hg,.inr ⟨fun h=>hg (h k hk),rfl⟩⟩)
  (fun t hI=>by
   obtain ⟨rfl,hI⟩:=hI
   exact ⟨_,done hI,.inl ⟨hI,rfl⟩⟩) (T 0) ⟨rfl,fun j hj=>by omega⟩
 obtain ⟨x,h1,h2⟩:=h
 rcases h2 with ⟨a,rfl⟩ | ⟨a,rfl⟩
 ·exact .inl ⟨a,h1⟩
 ·exact .inr ⟨a,h1⟩
structure NB (n:Nat) (F:Nat → Tapi_Node):Prop where
 par:∀v,v < n→(F v).Parents.length≤1000000
 rows:∀v,v < n→(F v).Rows.length≤1000000
 row:∀v,v < n→∀r∈(F v).Rows,r.length≤1000000
def Kn (x:Tapi_Node):Prop:=1≤x.Card∧x.Card≤4
def cardN (F:Nat → Tapi_Node) (v:Nat):Nat := (F v).Card.toNat
theorem Qnm {F:Nat → Tapi_Node} {v:Nat} (h:Kn (F v)):((cardN F v:Nat):Int)=(F v).Card:=by
 unfold cardN; have:=h.1; omega
theorem Qa5 {F:Nat → Tapi_Node} {v:Nat} (h:Kn (F v)):1≤cardN F v∧cardN F v≤4:=by
 unfold cardN; have:=h.1; have:=h.2; omega
theorem Qwq {n:Nat} {g:Int} {F:Nat → Tapi_Node} (hn:n≤8) :
  ((∀v,v < n→Kn (F v))∧Qa fuel (X9 ⟨g,Qe n F⟩) ((1:Int),(0:Int),Qe n fun _=>(0:Int))=some (Sum.inr ((Ze n (cardN F):Int),Zc n (cardN F)))) ∨
  ((¬ ∀v,v < n→Kn (F v))∧Qa fuel (X9 ⟨g,Qe n F⟩) ((1:Int),(0:Int),Qe n fun _=>(0:Int))=some (Sum.inl ())):=by
 have hlen:(Qe n F).length=n:=Zo
 have h:=Xd (n:=n) (by omega) (fun v=>Kn (F v)) (fun i (t:Int × List Int)=>(t.1,i,t.2)) (body:=X9 ⟨g,Qe n F⟩)
  (fun k=>((Ze k (cardN F):Int),Qe n fun j=>if j < k then (cardN F j:Int) else 0)) (Sum.inr ((Ze n (cardN F):Int),Zc n (cardN F))) (Sum.inl ())
  (fun k hk hI hg=>by
   have b1:Ze k (cardN F)≤4^k:=Qkz fun j hj=>(Qa5 (hI j hj)).2
   have b2:(4:Nat)^k≤4^8:=Nat.pow_le_pow_right (by omega) (by omega)
   have b3:Ze k (cardN F)*cardN F k≤65536*4:=Nat.mul_le_mul (by omega) (Qa5 hg).2
   have hc:=Qnm hg
   have e1:(Ze k (cardN F):Int)*(F k).Card=((Ze (k+1) (cardN F):Nat):Int):=by rw [←hc]; simp [Ze]
   unfold X9
   dsimp only
   rw [hlen,if_pos (dlt hk),Zn hk,Option.bind_some,if_neg (by simp; exact hg.1),if_neg (by simp; exact hg.2),Zn hk,Option.bind_some,e1,w64 (n:=((Ze (k+1) (cardN F):Nat):Int)) (by simp only [Ze]; omega),Int.toNat_natCast,Qam,←hc]
   congr 4
   refine Zp fun j hj=>?_
   by_cases e:j=k
   ·subst e; simp
   ·rw [if_neg e]
    by_cases e2:j < k
    ·rw [if_pos e2,if_pos (by omega)]
    ·rw [if_neg e2,if_neg (by omega)])
  (fun k hk hI hg=>by
   unfold X9
   dsimp only
   rw [hlen,if_pos (dlt hk),Zn hk,Option.bind_some]
   by_cases c:(F k).Card < 1
   ·rw [if_pos (by simpa using c)]
   ·rw [if_neg (by simpa using c),if_pos (by unfold Kn at hg; simp; omega)])
  (fun hI=>by
   unfold X9
   dsimp only
   rw [hlen,if_neg (nlt n)]
   congr 4
   exact Zp fun j hj=>if_pos hj)
 have e0:(Qe n fun j=>if j < 0 then (cardN F j:Int) else 0)=Qe n fun _=>(0:Int):=Zp fun j _=>if_neg (by omega)
 simp only [e0] at h
 exact h
def Kr (n:Nat) (l:List Int):Prop:=∃q:List Nat,l=nI q∧q.Pairwise (· < ·)∧∀p∈q,p < n
def Qhc (l:List Int) (k:Nat):Int:=if k=0 then -1 else (l[k - 1]?).getD 0
def Qgj (n:Nat) (l:List Int) (k:Nat):Prop:=Qhc l k < (l[k]?).getD 0∧(l[k]?).getD 0 < n
theorem Qnw {l:List Int} {k:Nat}:Qhc l (k+1)=(l[k]?).getD 0:=by simp [Qhc]
theorem Qfe {n:Nat} {l:List Int} {m:Nat} (h:∀j,j < m→Qgj n l j):∀k,k < m→0≤(l[k]?).getD 0∧∀j,j < k→(l[j]?).getD 0 < (l[k]?).getD 0
 | 0,hk=>⟨by have:=(h 0 hk).1; simp [Qhc] at this ⊢; omega,fun j hj=>by omega⟩
 | k+1,hk=>by
  obtain ⟨h1,h2⟩:=Qfe h k (by omega)
  have h3:=(h (k+1) hk).1
  rw [Qnw] at h3
  refine ⟨by omega,fun j hj=>?_⟩
  by_cases e:j=k
  ·rw [e]; exact h3
  ·have:=h2 j (by omega); omega
theorem Qqe {n:Nat} {l:List Int} (h:∀j,j < l.length→Qgj n l j):Kr n l:=by
 have hm:=Qfe h
 have e:l=nI (l.map Int.toNat):=by
  unfold nI
  rw [List.map_map]
  conv=>lhs; rw [←List.map_id l]
  refine List.map_congr_left fun x hx=>?_
  obtain ⟨k,hk,rfl⟩:=List.mem_iff_getElem.1 hx
  have:=(hm k hk).1
  rw [List.getElem?_eq_getElem hk] at this
  simp at this ⊢; omega
 refine ⟨l.map Int.toNat,e,?_,fun p hp=>?_⟩
 ·rw [List.pairwise_map,List.pairwise_iff_getElem]
  intro i j hi hj hij
  have h1:=(hm j hj).2 i hij
  have h2:=(hm i hi).1
  rw [List.getElem?_eq_getElem hj,List.getElem?_eq_getElem hi] at h1
  rw [List.getElem?_eq_getElem hi] at h2
  simp at h1 h2; omega
 ·obtain ⟨x,hx,rfl⟩:=List.mem_map.1 hp
  obtain ⟨k,hk,rfl⟩:=List.mem_iff_getElem.1 hx
  have h1:=(h k hk).2
  have h2:=(hm k hk).1
  rw [List.getElem?_eq_getElem hk] at h1 h2
  simp at h1 h2; omega
theorem Qkk {n:Nat} {l:List Int} (h:Kr n l):∀j,j < l.length→Qgj n l j:=by
 obtain ⟨q,rfl,h1,h2⟩:=h
 intro j hj
 rw [Q5] at hj
 have e:∀k (hk:k < q.length),((nI q)[k]?).getD 0=(q[k]:Int):=fun k hk=>by simp [nI,hk]
 refine ⟨?_,?_⟩
 ·unfold Qhc
  rw [e j hj]
  by_cases c:j=0
  ·rw [if_pos c]; omega
  ·rw [if_neg c,e (j - 1) (by omega)]
   have:=List.pairwise_iff_getElem.1 h1 (j - 1) j (by omega) hj (by omega)
   omega
 ·rw [e j hj]
  have:=h2 _ (List.getElem_mem hj); omega
def Qj (F:Nat → Tapi_Node) (v:Nat):List Nat := (F v).Parents.map Int.toNat
theorem Jo {n:Nat} {F:Nat → Tapi_Node} {v:Nat} (h:Kr n (F v).Parents):(F v).Parents=nI (Qj F v)∧(Qj F v).Pairwise (· < ·)∧∀p∈Qj F v,p < n:=by
 obtain ⟨q,e,h1,h2⟩:=h
 have:Qj F v=q:=by
  unfold Qj; rw [e]; unfold nI; rw [List.map_map]
  conv=>rhs; rw [←List.map_id q]
  exact List.map_congr_left fun x _=>by simp
 rw [this]; exact ⟨e,h1,h2⟩
theorem Qd4 {n:Nat} {q:List Nat} (h1:q.Pairwise (· < ·)) (h2:∀p∈q,p < n):q.length≤n:=by
 have:=Qa3 q (List.range n) (h1.imp fun h=>by omega) fun p hp=>List.mem_range.2 (h2 p hp)
 simpa using this
theorem Qtm {n v:Nat} {g:Int} {F:Nat → Tapi_Node} {x:Tapi_Node} {S:Nat → Int} {R:List Int} (hn:n≤8) (hv:v < n) (hb:x.Parents.length≤1000000) (h0:S v=0) (w:Int × List Int) (hw1:w.1=(v:Int)) :
  ((Kr n x.Parents∧(v:Int) ∉ x.Parents)∧Qa fuel (Vx x ⟨g,Qe n F⟩ w) ((-1:Int),(0:Int),Qe n S)=some (Sum.inr (Qe n fun j=>if j=v then (bitsOf (x.Parents.map Int.toNat) 0:Int) else S j))) ∨
  (¬ (Kr n x.Parents∧(v:Int) ∉ x.Parents)∧Qa fuel (Vx x ⟨g,Qe n F⟩ w) ((-1:Int),(0:Int),Qe n S)=some (Sum.inl ())):=by
 have hlen:(Qe n F).length=n:=Zo
 have h:=Xd (n:=x.Parents.length) (by omega) (fun k=>Qgj n x.Parents k∧(x.Parents[k]?).getD 0≠(v:Int)) (fun i (t:Int × List Int)=>(t.1,i,t.2)) (body:=Vx x ⟨g,Qe n F⟩ w)
  (fun k=>(Qhc x.Parents k,Qe n fun j=>if j=v then (bitsOf ((x.Parents.take k).map Int.toNat) 0:Int) else S j)) (Sum.inr (Qe n fun j=>if j=v then (bitsOf (x.Parents.map Int.toNat) 0:Int) else S j)) (Sum.inl ())
  (fun k hk hI hg=>by
   have hm:=Qfe (m:=k+1) (n:=n) (l:=x.Parents) fun j hj=>by
    by_cases e:j=k
    ·rw [e]; exact hg.1
    ·exact (hI j (by omega)).1
   have ek:lkI x.Parents (k:Int)=some ((x.Parents[k]?).getD 0):=by rw [lkI_nat hk,List.getElem?_eq_getElem hk]; rfl
   have htake:(x.Parents.take (k+1)).map Int.toNat = (x.Parents.take k).map Int.toNat ++ [((x.Parents[k]?).getD 0).toNat]:=by
    rw [Q2 hk,List.map_append,List.getElem?_eq_getElem hk]; rfl
   have hbl:bitsOf ((x.Parents.take k).map Int.toNat) 0 < 18446744073709551616:=Qaz _ _ (by omega) fun p hp=>by
    obtain ⟨y,hy,rfl⟩:=List.mem_map.1 hp
    obtain ⟨j,hj,rfl⟩:=List.mem_iff_getElem.1 hy
    have hj':j < k:=by rw [List.length_take] at hj; omega
    have h1:=(hI j hj').1.2
    have h2:=(hm j (by omega)).1
    rw [List.getElem?_eq_getElem (by omega)] at h1 h2
    rw [List.getElem_take]
    simp at h1 h2; omega
   obtain ⟨⟨g1,g2⟩,g3⟩:=hg
   have g4:=(hm k (by omega)).1
   generalize hp:(x.Parents[k]?).getD 0=p at *
   obtain ⟨p,rfl⟩:∃m:Nat,p=(m:Int):=⟨p.toNat,by omega⟩
   unfold Vx
   dsimp only
   rw [if_pos (dlt hk),ek,Option.bind_some,if_neg (by simp; omega),hlen,if_neg (by simp; omega),hw1,if_neg (by simp; omega),Zn hv,Option.bind_some,if_pos (J1 p),if_pos rfl,Qru hbl (by omega),Int.toNat_natCast,Qam,htake,Qnw,hp,Qb4,Int.toNat_natCast]
   congr 4
   refine Zp fun j _=>?_
   by_cases e:j=v
   ·subst e; simp
   ·rw [if_neg e,if_neg e,if_neg e])
  (fun k hk hI hg=>by
   have ek:lkI x.Parents (k:Int)=some ((x.Parents[k]?).getD 0):=by rw [lkI_nat hk,List.getElem?_eq_getElem hk]; rfl
   unfold Vx
   dsimp only
   rw [if_pos (dlt hk),ek,Option.bind_some]
   by_cases c1:(x.Parents[k]?).getD 0≤Qhc x.Parents k
   ·rw [if_pos (by simpa using c1)]
   ·rw [if_neg (by simpa using c1),hlen]
    by_cases c2:(x.Parents[k]?).getD 0≥(n:Int)
    ·rw [if_pos (by simpa using c2)]
    ·rw [if_neg (by simpa using c2),hw1,if_pos (by
      have:(x.Parents[k]?).getD 0=(v:Int):=by
       apply Classical.byContradiction
       intro h
       exact hg ⟨⟨by omega,by omega⟩,h⟩
      simpa using this)])
  (fun hI=>by
   unfold Vx
   dsimp only
   rw [if_neg (nlt _),List.take_of_length_le (Nat.le_refl _)])
 have hiff:(∀j,j < x.Parents.length→Qgj n x.Parents j∧(x.Parents[j]?).getD 0≠(v:Int))↔Kr n x.Parents∧(v:Int) ∉ x.Parents:=by
  constructor
  ·intro h
   refine ⟨Qqe fun j hj=>(h j hj).1,fun hm=>?_⟩
   obtain ⟨k,hk,e⟩:=List.mem_iff_getElem.1 hm
   have:=(h k hk).2
   rw [List.getElem?_eq_getElem hk] at this
   exact this e
  ·rintro ⟨h1,h2⟩ j hj
   refine ⟨Qkk h1 j hj,fun e=>h2 ?_⟩
   rw [List.getElem?_eq_getElem hj] at e
   rw [←show x.Parents[j]=(v:Int) from e]
   exact List.getElem_mem hj
 rw [hiff] at h
 have e0:(Qe n fun j=>if j=v then (bitsOf ((x.Parents.take 0).map Int.toNat) 0:Int) else S j)=Qe n S:=Zp fun j _=>by
  by_cases e:j=v
  ·rw [if_pos e,e,h0]; rfl
  ·rw [if_neg e]
 simp only [e0] at h
 exact h
end Go.Ab
namespace Go.Ab
open Go
set_option maxRecDepth 100000
set_option maxHeartbeats 400000
def Qhf (g c:Int) (r:List Int):Prop:=(r.length:Int)=c∧(∀w∈r,0≤w)∧r.sum=g
def Qgh (g:Int) (C:Nat → Nat) (x:Tapi_Node) (q:List Nat):Prop:=x.Rows.length=lprod C q∧∀r∈x.Rows,Qhf g x.Card r
theorem Qd7 {l:List Int} {k:Nat} (h:k < l.length):(l.take (k+1)).sum=(l.take k).sum+l[k]:=by
 rw [Q2 h,List.sum_append]; simp
theorem Qi9:∀{l:List Int},(∀w∈l,0≤w)→0≤l.sum
 | [],_=>by simp
 | w::l,h=>by
  have h1:=h w (by simp)
  have h2:=Qi9 (l:=l) fun x hx=>h x (List.mem_cons_of_mem _ hx)
  rw [List.sum_cons]; omega
theorem Qm7 {l:List Int} {k:Nat} (h:∀w∈l,0≤w):(l.take k).sum≤l.sum∧0≤(l.take k).sum:=by
 have h1:l.sum=(l.take k).sum+(l.drop k).sum:=by rw [←List.sum_append,List.take_append_drop]
 have h2:=Qi9 (l:=l.drop k) fun w hw=>h w (List.mem_of_mem_drop hw)
 have h3:=Qi9 (l:=l.take k) fun w hw=>h w (List.mem_of_mem_take hw)
 omega
theorem Qsv {g:Int} {r:List Int} (hg:0≤g) (hg60:g≤60) (hr:r.length≤1000000) :
  (((∀w∈r,0≤w)∧r.sum≤g)∧Qa fuel (Zt r) (g,0)=some (.inr (g - r.sum)))∨(¬ ((∀w∈r,0≤w)∧r.sum≤g)∧Qa fuel (Zt r) (g,0)=some (.inl ())):=by
 have pre:∀k,k≤r.length→(∀j,j < k→0≤(r[j]?).getD 0∧(r[j]?).getD 0≤g - (r.take j).sum)→0≤(r.take k).sum∧(r.take k).sum≤g:=by
  intro k
  induction k with
  | zero=>intro _ _; simp; omega
  | succ k ih =>
   intro hk h
   have h1:=ih (by omega) fun j hj=>h j (by omega)
   have h2:=h k (by omega)
   rw [List.getElem?_eq_getElem (by omega)] at h2
   rw [Qd7 (by omega)]
   simp at h2; omega
 have h:=Xd (n:=r.length) (by omega) (fun k=>0≤(r[k]?).getD 0∧(r[k]?).getD 0≤g - (r.take k).sum) (fun i (t:Int)=>(t,i)) (body:=Zt r)
  (fun k=>g - (r.take k).sum) (.inr (g - r.sum)) (.inl ())
  (fun k hk hI hgd=>by
   have hp:=pre k (by omega) hI
   have ek:lkI r (k:Int)=some r[k]:=lkI_nat hk
   rw [List.getElem?_eq_getElem hk] at hgd
   simp only [Option.getD_some] at hgd
   unfold Zt
   dsimp only
   rw [if_pos (dlt hk),ek,Option.bind_some,if_neg (by simp; omega),if_neg (by simp; omega),w64 (n:=g - (r.take k).sum - r[k]) (by omega),Qd7 hk]
   congr 3
   omega)
  (fun k hk hI hgd=>by
   have ek:lkI r (k:Int)=some r[k]:=lkI_nat hk
   rw [List.getElem?_eq_getElem hk] at hgd
   simp only [Option.getD_some] at hgd
   unfold Zt
   dsimp only
   rw [if_pos (dlt hk),ek,Option.bind_some]
   by_cases c:r[k] < 0
   ·rw [if_pos (by simpa using c)]
   ·rw [if_neg (by simpa using c),if_pos (by simp; omega)])
  (fun hI=>by
   unfold Zt
   dsimp only
   rw [if_neg (nlt _),List.take_length])
 have hiff:(∀j,j < r.length→0≤(r[j]?).getD 0∧(r[j]?).getD 0≤g - (r.take j).sum)↔((∀w∈r,0≤w)∧r.sum≤g):=by
  constructor
  ·intro h
   have:=pre r.length (Nat.le_refl _) h
   rw [List.take_length] at this
   refine ⟨fun w hw=>?_,this.2⟩
   obtain ⟨k,hk,rfl⟩:=List.mem_iff_getElem.1 hw
   have:=(h k hk).1
   rw [List.getElem?_eq_getElem hk] at this
   exact this
  ·rintro ⟨h1,h2⟩ j hj
   rw [List.getElem?_eq_getElem hj]
   refine ⟨h1 _ (List.getElem_mem hj),?_⟩
   have h3:=(Qm7 (k:=j+1) h1).1
   rw [Qd7 hj] at h3
   simp; omega
 rw [hiff] at h
 simp only [List.take_zero,List.sum_nil,Int.sub_zero] at h
 exact h
theorem Qmr {n:Nat} {g:Int} {F:Nat → Tapi_Node} {C:Nat → Nat} {x:Tapi_Node} {q:List Nat} {sets order:List Int} (hg:0≤g) (hg60:g≤60) (hC:∀v,v < n→C v≤4) (hq:∀p∈q,p < n) (hl:q.length≤8) (hx:x.Parents=nI q) (hr:x.Rows.length≤1000000) (hrr:∀r∈x.Rows,r.length≤1000000) :
  (Qgh g C x q∧Xx ⟨⟨g,Qe n F⟩,Zc n C,sets,order⟩ x=some true)∨(¬ Qgh g C x q∧Xx ⟨⟨g,Qe n F⟩,Zc n C,sets,order⟩ x=some false):=by
 have bnd:∀k,lprod C (q.take k)≤65536:=fun k=>Nat.le_trans (Qi8 fun p hp=>hC p (hq p (List.mem_of_mem_take hp))) (Nat.le_trans (Nat.pow_le_pow_right (by omega) (by rw [List.length_take]; omega)) (Nat.le_of_eq (show 4^8=65536 from rfl)))
 have h0:=Zx (n:=q.length) (k0:=0) (by omega) (by omega) (fun i (t:Int)=>(t,i)) (body:=Y7 x ⟨⟨g,Qe n F⟩,Zc n C,sets,order⟩) (fun k=>(lprod C (q.take k):Int)) (lprod C q:Int)
  (fun k _ hk=>by
   have hp:=hq _ (List.getElem_mem hk)
   have e1:(lprod C (q.take k):Int)*(C q[k]:Int)=((lprod C (q.take (k+1)):Nat):Int):=by rw [Q2 hk,Qf8]; simp
   have:=bnd (k+1)
   unfold Y7
   dsimp only
   rw [hx,Q5,if_pos (dlt hk),Qdm hk,Option.bind_some,Qcd hp,Option.bind_some,e1,w64 (n:=((lprod C (q.take (k+1)):Nat):Int)) (by omega)])
  (by
   unfold Y7
   dsimp only
   rw [hx,Q5,if_neg (nlt _),List.take_length])
 simp only [List.take_zero,show lprod C []=1 from rfl] at h0
 rw [show (((1:Nat):Int),((0:Nat):Int))=((1:Int),(0:Int)) from rfl] at h0
 unfold Xx
 rw [h0,Option.bind_some]
 by_cases c:x.Rows.length=lprod C q
 ·rw [if_neg (by simp; omega)]
  have h:=Xd (n:=x.Rows.length) (by omega) (fun k=>∀r,x.Rows[k]?=some r→Qhf g x.Card r) (fun i (t:Unit)=>i) (body:=X1 x ⟨⟨g,Qe n F⟩,Zc n C,sets,order⟩)
   (fun _=>()) (.inr ()) (.inl ())
   (fun k hk hI hgd=>by
    have ek:lkI x.Rows (k:Int)=some x.Rows[k]:=lkI_nat hk
    obtain ⟨k1,k2,k3⟩:=hgd _ (List.getElem?_eq_getElem hk)
    unfold X1
    dsimp only
    rw [if_pos (dlt hk),ek,Option.bind_some]
    rcases Qsv (g:=g) (r:=x.Rows[k]) hg hg60 (hrr _ (List.getElem_mem hk)) with ⟨_,e⟩ | ⟨no,_⟩
    ·rw [e,Option.bind_some]
     dsimp only
     rw [if_neg (by simp; omega),if_neg (by simp; omega)]
    ·exact absurd ⟨k2,by omega⟩ no)
   (fun k hk hI hgd=>by
    have ek:lkI x.Rows (k:Int)=some x.Rows[k]:=lkI_nat hk
    unfold X1
    dsimp only
    rw [if_pos (dlt hk),ek,Option.bind_some]
    rcases Qsv (g:=g) (r:=x.Rows[k]) hg hg60 (hrr _ (List.getElem_mem hk)) with ⟨hok,e⟩ | ⟨no,e⟩
    ·rw [e,Option.bind_some]
     dsimp only
     by_cases c2:(x.Rows[k].length:Int)=x.Card
     ·rw [if_neg (by simp; omega),if_pos (by
       have:g - x.Rows[k].sum≠0:=fun h0=>hgd fun r hr=>by
        rw [List.getElem?_eq_getElem hk] at hr; cases hr
        exact ⟨c2,hok.1,by omega⟩
       simpa using this)]
     ·rw [if_pos (by simpa using c2)]
    ·rw [e,Option.bind_some])
   (fun hI=>by
    unfold X1
    dsimp only
    rw [if_neg (nlt _)])
  have hiff:(∀j,j < x.Rows.length→∀r,x.Rows[j]?=some r→Qhf g x.Card r)↔Qgh g C x q:=by
   constructor
   ·intro h
    refine ⟨c,fun r hr=>?_⟩
    obtain ⟨k,hk,rfl⟩:=List.mem_iff_getElem.1 hr
    exact h k hk _ (List.getElem?_eq_getElem hk)
   ·rintro ⟨_,h⟩ j hj r hr
    exact h r (List.mem_of_getElem? hr)
  rw [hiff] at h
  rcases h with ⟨h1,h2⟩ | ⟨h1,h2⟩
  ·exact .inl ⟨h1,by rw [show ((0:Nat):Int)=0 from rfl] at h2; rw [h2]; rfl⟩
  ·exact .inr ⟨h1,by rw [show ((0:Nat):Int)=0 from rfl] at h2; rw [h2]; rfl⟩
 ·rw [if_pos (by simp; omega)]
  exact .inr ⟨fun h=>c h.1,rfl⟩
def setF (F:Nat → Tapi_Node) (v:Nat):Nat := bitsOf (Qj F v) 0
def Qnv (n:Nat) (g:Int) (F:Nat → Tapi_Node) (v:Nat):Prop:=(Kr n (F v).Parents∧(v:Int) ∉ (F v).Parents)∧Qgh g (cardN F) (F v) (Qj F v)
theorem Qyl {n:Nat} {g w:Int} {F:Nat → Tapi_Node} (hn:n≤8) (hg:0≤g) (hg60:g≤60) (hb:NB n F) (hC:∀v,v < n→Kn (F v)) :
  ((∀v,v < n→Qnv n g F v)∧Qa fuel (Ya ⟨g,Qe n F⟩ (w,Zc n (cardN F))) ((0:Int),Qe n fun _=>(0:Int))=some (Sum.inr (Zc n (setF F)))) ∨
  ((¬ ∀v,v < n→Qnv n g F v)∧Qa fuel (Ya ⟨g,Qe n F⟩ (w,Zc n (cardN F))) ((0:Int),Qe n fun _=>(0:Int))=some (Sum.inl ())):=by
 have hlen:(Qe n F).length=n:=Zo
 have h:=Xd (n:=n) (by omega) (Qnv n g F) (fun i (t:List Int)=>(i,t)) (body:=Ya ⟨g,Qe n F⟩ (w,Zc n (cardN F)))
  (fun k=>Qe n fun j=>if j < k then (setF F j:Int) else 0) (.inr (Zc n (setF F))) (.inl ())
  (fun v hv hI hgd=>by
   unfold Ya
   dsimp only
   rw [hlen,if_pos (dlt hv),Zn hv,Option.bind_some]
   rcases Qtm (n:=n) (v:=v) (g:=g) (F:=F) (x:=F v) (S:=fun j=>if j < v then (setF F j:Int) else 0) (R:=[]) hn hv (hb.par v hv) (if_neg (by omega)) ((v:Int),Qe n fun j=>if j < v then (setF F j:Int) else 0) rfl with ⟨_,e⟩ | ⟨no,_⟩
   ·rw [e,Option.bind_some]
    dsimp only
    obtain ⟨p1,p2,p3⟩:=Jo hgd.1.1
    rcases Qmr (n:=n) (g:=g) (F:=F) (C:=cardN F) (x:=F v) (q:=Qj F v) (sets:=Qe n fun j=>if j=v then (bitsOf ((F v).Parents.map Int.toNat) 0:Int) else if j < v then (setF F j:Int) else 0) (order:=[]) hg hg60 (fun u hu=>(Qa5 (hC u hu)).2) p3 (by have:=Qd4 p2 p3; omega) p1 (hb.rows v hv) (hb.row v hv) with ⟨_,e2⟩ | ⟨no,_⟩
    ·rw [e2,Option.bind_some,if_neg (by decide)]
     congr 3
     refine Zp fun j _=>?_
     by_cases c:j=v
     ·subst c; rw [if_pos rfl,if_pos (by omega)]; rfl
     ·rw [if_neg c]
      by_cases c2:j < v
      ·rw [if_pos c2,if_pos (by omega)]
      ·rw [if_neg c2,if_neg (by omega)]
    ·exact absurd hgd.2 no
   ·exact absurd hgd.1 no)
  (fun v hv hI hgd=>by
   unfold Ya
   dsimp only
   rw [hlen,if_pos (dlt hv),Zn hv,Option.bind_some]
   rcases Qtm (n:=n) (v:=v) (g:=g) (F:=F) (x:=F v) (S:=fun j=>if j < v then (setF F j:Int) else 0) (R:=[]) hn hv (hb.par v hv) (if_neg (by omega)) ((v:Int),Qe n fun j=>if j < v then (setF F j:Int) else 0) rfl with ⟨hp,e⟩ | ⟨no,e⟩
   ·rw [e,Option.bind_some]
    dsimp only
    obtain ⟨p1,p2,p3⟩:=Jo hp.1
    rcases Qmr (n:=n) (g:=g) (F:=F) (C:=cardN F) (x:=F v) (q:=Qj F v) (sets:=Qe n fun j=>if j=v then (bitsOf ((F v).Parents.map Int.toNat) 0:Int) else if j < v then (setF F j:Int) else 0) (order:=[]) hg hg60 (fun u hu=>(Qa5 (hC u hu)).2) p3 (by have:=Qd4 p2 p3; omega) p1 (hb.rows v hv) (hb.row v hv) with ⟨hf,_⟩ | ⟨no,e2⟩
    ·exact absurd ⟨hp,hf⟩ hgd
    ·rw [e2,Option.bind_some,if_pos (by decide)]
   ·rw [e,Option.bind_some])
  (fun hI=>by
   unfold Ya
   dsimp only
   rw [hlen,if_neg (nlt n)]
   congr 3
   exact Zp fun j hj=>if_pos hj)
 have e0:(Qe n fun j=>if j < 0 then (setF F j:Int) else 0)=Qe n fun _=>(0:Int):=Zp fun j _=>if_neg (by omega)
 simp only [e0] at h
 exact h
end Go.Ab
namespace Go.Ab
open Go
set_option maxRecDepth 100000
set_option maxHeartbeats 400000
def Qhp (n:Nat) (q:Nat → List Nat):Prop:=∃rk:Nat → Nat,∀v,v < n→∀p∈q v,rk p < rk v
theorem Qxe:∀(l:List Nat),lprod (fun _=>1) l=1:=fun l=>by
 have:∀(l:List Nat) (r:Nat),l.foldl (fun r _=>r*1) r=r:=fun l=>by
  induction l with
  | nil=>intro r; rfl
  | cons a l ih=>intro r; simp only [List.foldl_cons]; rw [ih]; omega
 exact this l 1
theorem Qn4:∀n,Ze n (fun _=>1)=1
 | 0=>rfl
 | n+1=>by simp [Ze,Qn4 n]
theorem Qvt {n:Nat} {q:Nat → List Nat} (h1:1≤n) (hn:n≤8) (hq:∀v,v < n→(q v).Pairwise (· < ·)∧(∀p∈q v,p < n)∧v ∉ q v) (hr:Qhp n q):∃o,X8 (Zc n fun v=>bitsOf (q v) 0)=some (o,true):=by
 let D:NF:=⟨n,1,fun _=>1,q,fun _ _ _=>1⟩
 have hrows:∀v,D.rows v=1:=fun v=>Qxe (q v)
 exact Qwy (D:=D) ⟨⟨h1,hn,Nat.le_refl _,by show 1≤60; omega,fun v hv=>⟨Nat.le_refl _,by show 1≤4; omega⟩,fun v hv=>(hq v hv).2.1,fun v hv=>Nat.le_trans (Qd4 (hq v hv).1 (hq v hv).2.1) hn,fun v r x hv hr hx=>Nat.le_refl _,by show Ze n (fun _=>1)≤1024; rw [Qn4]; omega⟩,
  fun v hv=>(hq v hv).1,fun v hv=>(hq v hv).2.2,hr,fun v r hv hr=>rfl⟩
theorem Qvb {n:Nat} {q:Nat → List Nat} (hn:n≤8) (hq:∀v,v < n→∀p∈q v,p < n):∃r,Qa fuel (Xf (Zc n fun v=>bitsOf (q v) 0)) ((0:Int),([]:List Int))=some r∧(r=.inl ()∨∃o,r=.inr o∧Qhp n q):=by
 have hlen:(Zc n fun v=>bitsOf (q v) 0).length=n:=Qco
 refine Vm (body:=Xf (Zc n fun v=>bitsOf (q v) 0)) (fun s=>∃l:List Nat,l.Nodup∧(∀p∈l,p < n)∧(∀i (hi:i < l.length),∀p∈q l[i],p∈l.take i)∧s=((bitsOf l 0:Int),nI l)) (fun s=>n - s.2.length) (fun r=>r=.inl ()∨∃o,r=.inr o∧Qhp n q)
  (fun s hs=>?_) ((0:Int),([]:List Int)) ⟨[],List.nodup_nil,by simp,by simp,rfl⟩ (by show n - 0 < 1152921504606846976; omega)
 obtain ⟨l,hnd,hl,hb,rfl⟩:=hs
 have hll:l.length≤n:=by
  have:=Qa3 l (List.range n) hnd fun p hp=>List.mem_range.2 (hl p hp)
  simpa using this
 have hdl:bitsOf l 0 < 18446744073709551616:=Qaz _ _ (by omega) fun p hp=>by have:=hl p hp; omega
 by_cases hc:l.length < n
 ·
  have hsr:=Qcp (n:=n) (k0:=0) (by omega) (by omega) (fun i (_:Unit)=>i) (body:=Vw (Zc n fun v=>bitsOf (q v) 0) ((bitsOf l 0:Int),nI l)) (fun _ _=>True)
   (fun r=>r=.inr ()∨∃v,v < n∧v ∉ l∧(∀p∈q v,p∈l)∧r=.inl (((bitsOf (l++[v]) 0:Nat):Int),nI (l++[v])))
   (fun k _ _ hk _=>by
    have hbk:(bitsOf l 0).testBit k=decide (k∈l):=by rw [Xu]; simp
    have hsl:bitsOf (q k) 0 < 18446744073709551616:=Qaz _ _ (by omega) fun p hp=>by have:=hq k hk p hp; omega
    unfold Vw
    dsimp only
    rw [hlen,if_pos (dlt hk),Qcd hk,Option.bind_some,if_pos (J1 k),Qvu hdl (by omega),hbk]
    by_cases hkl:k∈l
    ·left
     rw [if_neg (by simp [hkl])]
     exact ⟨(),rfl,trivial⟩
    ·rw [if_pos (by simp [hkl])]
     by_cases hsub:∀p∈q k,p∈l
     ·right
      rw [if_pos ((Qoh hsl hdl).2 fun j hj=>by
       rw [Xu] at hj
       rw [Xu]
       simp at hj ⊢
       exact hsub j hj),if_pos (by rw [List.length_append,Q5]; simp; omega),if_pos (J1 k),Qru hdl (by omega)]
      exact ⟨_,rfl,.inr ⟨k,hk,hkl,hsub,by rw [Qb4]; unfold nI; simp⟩⟩
     ·left
      rw [if_neg (fun hc'=>hsub fun p hp=>by
       have:=(Qoh hsl hdl).1 hc' p (by rw [Xu]; simpa using hp)
       rw [Xu] at this
       simpa using this)]
      exact ⟨(),rfl,trivial⟩)
   (fun _ _=>⟨_,by unfold Vw; dsimp only; rw [hlen,if_neg (nlt n)],.inl rfl⟩) () trivial
  obtain ⟨r,e1,e2⟩:=hsr
  rcases e2 with rfl | ⟨v,hv,hvl,hvq,rfl⟩
  ·right
   refine ⟨_,?_,.inl rfl⟩
   unfold Xf
   dsimp only
   rw [Q5,hlen,if_pos (dlt hc),show (0:Int)=((0:Nat):Int) from rfl,e1]; rfl
  ·left
   refine ⟨(((bitsOf (l++[v]) 0:Nat):Int),nI (l++[v])),?_,⟨l++[v],?_,?_,?_,rfl⟩,by rw [Q5,Q5,List.length_append]; simp; omega⟩
   ·unfold Xf
    dsimp only
    rw [Q5,hlen,if_pos (dlt hc),show (0:Int)=((0:Nat):Int) from rfl,e1]; rfl
   ·rw [List.nodup_append]
    exact ⟨hnd,by simp,fun a ha b hb=>by simp at hb; subst hb; exact fun e=>hvl (e ▸ ha)⟩
   ·intro p hp
    rcases List.mem_append.1 hp with h | h
    ·exact hl p h
    ·simp at h; omega
   ·intro i hi p hp
    rw [List.length_append] at hi
    by_cases c:i < l.length
    ·rw [List.getElem_append_left c] at hp
     rw [List.take_append_of_le_length (by omega)]
     exact hb i c p hp
    ·have:i=l.length:=by simp at hi; omega
     subst this
     rw [List.getElem_append_right (by omega)] at hp
     simp at hp
     rw [List.take_append_of_le_length (by omega),List.take_length]
     exact hvq p hp
 ·right
  refine ⟨_,?_,.inr ⟨nI l,rfl,fun v=>l.idxOf v,fun v hv p hp=>?_⟩⟩
  ·unfold Xf
   dsimp only
   rw [Q5,hlen,if_neg (by simp; omega)]
  ·have hvl:v∈l:=Qgq hnd hl (by omega) v hv
   have hi:=List.idxOf_lt_length_of_mem hvl
   have:=hb (l.idxOf v) hi p (by rw [List.getElem_idxOf hi]; exact hp)
   exact Qnp this
theorem Qtt {n:Nat} {q:Nat → List Nat} (h1:1≤n) (hn:n≤8) (hq:∀v,v < n→(q v).Pairwise (· < ·)∧(∀p∈q v,p < n)∧v ∉ q v) :
  (Qhp n q∧∃o,X8 (Zc n fun v=>bitsOf (q v) 0)=some (o,true))∨(¬ Qhp n q∧X8 (Zc n fun v=>bitsOf (q v) 0)=some ([],false)):=by
 by_cases hr:Qhp n q
 ·exact .inl ⟨hr,Qvt h1 hn hq hr⟩
 ·right
  refine ⟨hr,?_⟩
  obtain ⟨r,e1,e2⟩:=Qvb hn fun v hv=>(hq v hv).2.1
  rcases e2 with rfl | ⟨o,rfl,h⟩
  ·unfold X8
   rw [if_pos (by rw [Qco]; omega)]
   simp only [Int.toNat_zero,List.replicate_zero]
   rw [e1]; rfl
  ·exact absurd h hr
structure V4 (n:Nat) (g:Int) (F:Nat → Tapi_Node):Prop where
 g1:1≤g
 g60:g≤60
 n1:1≤n
 n8:n≤8
 card:∀v,v < n→Kn (F v)
 worlds:Ze n (cardN F)≤1024
 node:∀v,v < n→Qnv n g F v
 rank:Qhp n (Qj F)
def Q3u:Qx × Int:=(⟨⟨0,[]⟩,[],[],[]⟩,50)
theorem Qxf {n:Nat} {g:Int} {F:Nat → Tapi_Node} (hb:NB n F) (hbig:n≤1000000) :
  (V4 n g F∧∃o,Kq ⟨g,Qe n F⟩=some (⟨⟨g,Qe n F⟩,Zc n (cardN F),Zc n (setF F),o⟩,0))∨(¬ V4 n g F∧Kq ⟨g,Qe n F⟩=some Q3u):=by
 have hlen:(Qe n F).length=n:=Zo
 unfold Kq
 dsimp only
 rw [hlen]
 by_cases c1:g < 1
 ·rw [if_pos (by simpa using c1)]; exact .inr ⟨fun h=>by have:=h.g1; omega,rfl⟩
 rw [if_neg (by simpa using c1)]
 by_cases c2:g > 60
 ·rw [if_pos (by simpa using c2)]; exact .inr ⟨fun h=>by have:=h.g60; omega,rfl⟩
 rw [if_neg (by simpa using c2)]
 by_cases c3:n < 1
 ·rw [if_pos (by simp; omega)]; exact .inr ⟨fun h=>by have:=h.n1; omega,rfl⟩
 rw [if_neg (by simp; omega)]
 by_cases c4:n > 8
 ·rw [if_pos (by simp; omega)]; exact .inr ⟨fun h=>by have:=h.n8; omega,rfl⟩
 rw [if_neg (by simp; omega),if_pos (by omega),if_pos (by omega),Int.toNat_natCast,Qm6]
 rcases Qwq (n:=n) (g:=g) (F:=F) (by omega) with ⟨hC,e⟩ | ⟨hC,e⟩
 ·rw [e,Option.bind_some]
  dsimp only
  by_cases c5:Ze n (cardN F) > 1024
  ·rw [if_pos (by simp; omega)]; exact .inr ⟨fun h=>by have:=h.worlds; omega,rfl⟩
  rw [if_neg (by simp; omega)]
  rcases Qyl (n:=n) (g:=g) (w:=(Ze n (cardN F):Int)) (F:=F) (by omega) (by omega) (by omega) hb hC with ⟨hN,e⟩ | ⟨hN,e⟩
  ·rw [e,Option.bind_some]
   dsimp only
   rcases Qtt (n:=n) (q:=Qj F) (by omega) (by omega) (fun v hv=>by
    obtain ⟨p1,p2,p3⟩:=Jo (hN v hv).1.1
    refine ⟨p2,p3,fun h=>(hN v hv).1.2 ?_⟩
    rw [p1]; unfold nI; exact List.mem_map.2 ⟨v,h,rfl⟩) with ⟨hR,o,e⟩ | ⟨hR,e⟩
   ·left
    refine ⟨⟨by omega,by omega,by omega,by omega,hC,by omega,hN,hR⟩,o,?_⟩
    rw [show (Zc n (setF F))=(Zc n fun v=>bitsOf (Qj F v) 0) from rfl,e,Option.bind_some,if_neg (by simp)]
   ·right
    refine ⟨fun h=>hR h.rank,?_⟩
    rw [show (Zc n (setF F))=(Zc n fun v=>bitsOf (Qj F v) 0) from rfl,e,Option.bind_some,if_pos (by simp)]; rfl
  ·rw [e,Option.bind_some]; exact .inr ⟨fun h=>hN h.node,rfl⟩
 ·rw [e,Option.bind_some]; exact .inr ⟨fun h=>hC h.card,rfl⟩
end Go.Ab
namespace Go.Ab
open Go
set_option maxRecDepth 100000
set_option maxHeartbeats 400000
theorem Q1e {a b:Nat} (ha:a < 18446744073709551616) (hb:b < 18446744073709551616):zv (zb (a:Int) ||| zb (b:Int)).toNat = ((a ||| b:Nat):Int):=by
 rw [BitVec.toNat_or,Kf ha,Kf hb,X4 (Nat.or_lt_two_pow (n:=64) ha hb)]
theorem Qrt {a v:Nat} (ha:a < 18446744073709551616) (hv:v < 64):Yb (a:Int) (v:Int)=some (a.testBit v):=by
 unfold Yb
 rw [X4 (show v < 18446744073709551616 by omega),if_pos (J1 v),Qvu ha hv]
 cases a.testBit v <;> rfl
def Xl (a b:Nat):Prop:=∀j,a.testBit j=true→b.testBit j=true
theorem Xl.refl {a:Nat}:Xl a a:=fun _ h=>h
theorem Xl.trans {a b c:Nat} (h:Xl a b) (k:Xl b c):Xl a c:=fun j hj=>k j (h j hj)
theorem Qzm {a b:Nat}:Xl a (a ||| b):=fun j h=>by rw [Nat.testBit_or,h]; rfl
theorem Q0c {a b:Nat}:Xl b (a ||| b):=fun j h=>by rw [Nat.testBit_or,h]; simp
theorem Q21 {a b c:Nat} (h:Xl a c) (k:Xl b c):Xl (a ||| b) c:=fun j hj=>by
 rw [Nat.testBit_or,Bool.or_eq_true] at hj
 rcases hj with e | e
 ·exact h j e
 ·exact k j e
theorem Q0a {a b:Nat} (h:Xl a b) (k:Xl b a):a=b:=Nat.eq_of_testBit_eq fun j=>by
 cases ha:a.testBit j with
 | true=>rw [h j ha]
 | false=>cases hb:b.testBit j with
  | true=>rw [k j hb] at ha; cases ha
  | false=>rfl
def upV (S:Nat → Nat) (s v:Nat):Nat := if s.testBit v then s ||| S v else s
def upR (n:Nat) (S:Nat → Nat) (s:Nat):Nat := (List.range n).foldl (upV S) s
def ups (n:Nat) (S:Nat → Nat):Nat → Nat → Nat
 | 0,s=>s
 | k+1,s=>upR n S (ups n S k s)
theorem Qyh {S:Nat → Nat} {s v:Nat}:Xl s (upV S s v):=by
 unfold upV; split
 ·exact Qzm
 ·exact .refl
theorem Qma {S:Nat → Nat}:∀(l:List Nat) (s:Nat),Xl s (l.foldl (upV S) s)
 | [],s=>.refl
 | v::l,s=>Qyh.trans (Qma l _)
theorem Qsd {S:Nat → Nat} {v:Nat}:∀(l:List Nat) (s:Nat),v∈l→s.testBit v=true→Xl (S v) (l.foldl (upV S) s)
 | [],s,h,_=>by cases h
 | u::l,s,h,hs=>by
  simp only [List.foldl_cons]
  by_cases e:v=u
  ·subst e
   refine Xl.trans ?_ (Qma l _)
   unfold upV; rw [if_pos hs]; exact Q0c
  ·exact Qsd l _ (by simpa [e] using h) (Qyh v hs)
theorem Qp4 {S:Nat → Nat} {T:Nat}:∀(l:List Nat) (s:Nat),(∀v∈l,T.testBit v=true→Xl (S v) T)→Xl s T→Xl (l.foldl (upV S) s) T
 | [],s,_,h=>h
 | v::l,s,hT,h=>by
  simp only [List.foldl_cons]
  refine Qp4 l _ (fun u hu=>hT u (List.mem_cons_of_mem _ hu)) ?_
  unfold upV; split
  ·rename_i hs; exact Q21 h (hT v (by simp) (h v hs))
  ·exact h
def Clo (n:Nat) (S:Nat → Nat) (T:Nat):Prop:=∀v,v < n→T.testBit v=true→Xl (S v) T
theorem Qxb {n:Nat} {S:Nat → Nat} {s:Nat}:∀k,Xl s (ups n S k s)
 | 0=>.refl
 | k+1=>(Qxb k).trans (Qma _ _)
theorem Qf4 {n:Nat} {S:Nat → Nat} {s T:Nat} (hT:Clo n S T) (h:Xl s T):∀k,Xl (ups n S k s) T
 | 0=>h
 | k+1=>Qp4 _ _ (fun v hv=>hT v (List.mem_range.1 hv)) (Qf4 hT h k)
theorem Q2e {n:Nat} {S:Nat → Nat} {s:Nat} (h:upR n S s=s):Clo n S s:=fun v hv hs=>by
 have:=Qsd (S:=S) (List.range n) s (List.mem_range.2 hv) hs
 unfold upR at h
 rwa [h] at this
theorem Qx2 {n a b:Nat} (h:Xl a b) (hb:∀j,b.testBit j=true→j < n) (hne:a≠b):cnt n a.testBit < cnt n b.testBit:=by
 have:∃j,b.testBit j=true∧a.testBit j=false:=by
  apply Classical.byContradiction
  intro hno
  exact hne (Q0a h fun j hj=>by
   cases ha:a.testBit j with
   | true=>rfl
   | false=>exact absurd ⟨j,hj,ha⟩ hno)
 obtain ⟨j,h1,h2⟩:=this
 have e:=Q2c (n:=n) (p:=b.testBit) (hb j h1) h1
 have:cnt n a.testBit≤cnt n (fun i=>b.testBit i && !decide (j=i)):=Qz8 fun i _ hi=>by
  have:j≠i:=fun e=>by subst e; rw [h2] at hi; cases hi
  simp [h i hi,this]
 omega
theorem Qnr (n:Nat) {S:Nat → Nat} (hS:∀v,v < n→∀j,(S v).testBit j=true→j < n):Clo n S (2^n - 1):=fun v hv _ j hj=>by
 rw [Nat.testBit_two_pow_sub_one]; simpa using hS v hv j hj
theorem Q1p {n:Nat} {S:Nat → Nat} {s:Nat} (hS:∀v,v < n→∀j,(S v).testBit j=true→j < n) (hs:∀j,s.testBit j=true→j < n):Clo n S (ups n S n s):=by
 have hin:∀k j,(ups n S k s).testBit j=true→j < n:=fun k j hj=>by
  have:=Qf4 (Qnr n hS) (s:=s) (fun j hj=>by rw [Nat.testBit_two_pow_sub_one]; simpa using hs j hj) k j hj
  rw [Nat.testBit_two_pow_sub_one] at this; simpa using this
 have key:∀k,upR n S (ups n S k s)=ups n S k s∨k+cnt n s.testBit≤cnt n (ups n S k s).testBit:=by
  intro k
  induction k with
  | zero=>right; simp [ups]
  | succ k ih =>
   by_cases hf:upR n S (ups n S k s)=ups n S k s
   ·left; simp only [ups]; rw [hf,hf]
   ·right
    rcases ih with h | h
    ·exact absurd h hf
    ·have:=Qx2 (n:=n) (Qma (S:=S) (List.range n) (ups n S k s)) (hin (k+1)) (fun e=>hf e.symm)
     show k+1+_≤cnt n (upR n S (ups n S k s)).testBit
     unfold upR; omega
 rcases key n with h | h
 ·exact Q2e h
 ·have h0:=Qsj n (ups n S n s).testBit
  have hz:cnt n s.testBit=0:=by omega
  have:s=0:=Nat.eq_of_testBit_eq fun j=>by
   rw [Nat.zero_testBit,Bool.eq_false_iff]
   intro hj
   have:=Qut (n:=n) (hs j hj) hj; omega
  subst this
  have h1:=Qf4 (n:=n) (S:=S) (s:=0) (T:=0) (fun v _ hv=>by rw [Nat.zero_testBit] at hv; cases hv) .refl n
  intro v hv hb
  have:=h1 v hb
  rw [Nat.zero_testBit] at this; cases this
theorem Qk3 {n s:Nat} (h:∀j,s.testBit j=true→j < n):s < 2^n:=by
 apply Nat.lt_pow_two_of_testBit
 intro i hi
 rw [Bool.eq_false_iff]; intro hj
 have:=h i hj; omega
theorem Qw9 {n:Nat} {S:Nat → Nat} {s:Nat} (hn:n≤8) (hS:∀v,v < n→∀j,(S v).testBit j=true→j < n) (hs:∀j,s.testBit j=true→j < n):Qff (Zc n S) (s:Int)=some ((ups n S n s:Nat):Int):=by
 have hlen:(Zc n S).length=n:=Qco
 have hfull:=Qnr n hS
 have hs0:Xl s (2^n - 1):=fun j hj=>by rw [Nat.testBit_two_pow_sub_one]; simpa using hs j hj
 have p8:(2:Nat)^n≤256:=Nat.pow_le_pow_right (n:=2) (by omega) hn
 have hlt:∀{t:Nat},Xl t (2^n - 1)→t < 18446744073709551616:=fun h=>by
  have:=Qk3 (n:=n) fun j hj=>by have:=h j hj; rw [Nat.testBit_two_pow_sub_one] at this; simpa using this
  omega
 have inner:∀t,Xl t (2^n - 1)→Qa fuel (K9 (Zc n S)) ((t:Int),(0:Int))=some ((upR n S t:Nat):Int):=fun t ht=>by
  have h:=Zx (n:=n) (k0:=0) (by omega) (by omega) (fun i (x:Int)=>(x,i)) (body:=K9 (Zc n S)) (fun k=>(((List.range k).foldl (upV S) t:Nat):Int)) ((upR n S t:Nat):Int)
   (fun k _ hk=>by
    have hsub:=Qp4 (S:=S) (T:=2^n - 1) (List.range k) t (fun v hv=>hfull v (by have:=List.mem_range.1 hv; omega)) ht
    unfold K9
    dsimp only
    rw [hlen,if_pos (dlt hk),Qrt (hlt hsub) (by omega),Option.bind_some,List.range_succ,List.foldl_append]
    simp only [List.foldl_cons,List.foldl_nil]
    unfold upV
    by_cases c:((List.range k).foldl (upV S) t).testBit k=true
    ·unfold upV at c
     rw [if_pos c,Qcd hk,Option.bind_some,if_pos c]
     have hsub':=hsub
     unfold upV at hsub'
     rw [Q1e (hlt hsub') (by
      have:=Qk3 (hS k hk); omega)]
    ·unfold upV at c
     rw [if_neg c,if_neg c])
   (by unfold K9; dsimp only; rw [hlen,if_neg (nlt n)]; rfl)
  rw [show ((0:Nat):Int)=0 from rfl] at h
  exact h
 have h:=Zx (n:=n) (k0:=0) (by omega) (by omega) (fun i (x:Int)=>(x,i)) (body:=Qb9 (Zc n S)) (fun k=>((ups n S k s:Nat):Int)) ((ups n S n s:Nat):Int)
  (fun k _ hk=>by
   unfold Qb9
   dsimp only
   rw [hlen,if_pos (dlt hk),inner _ (Qf4 hfull hs0 k)]; rfl)
  (by unfold Qb9; dsimp only; rw [hlen,if_neg (nlt n)])
 rw [show ((0:Nat):Int)=0 from rfl] at h
 unfold Qff
 rw [show ups n S 0 s=s from rfl] at h
 rw [h]; rfl
theorem Qtv {n:Nat} {q:Nat → List Nat} (hn:n≤8) (hq:∀v,v < n→∀p∈q v,p < n) :
  (Qhp n q∧Js (Zc n fun v=>bitsOf (q v) 0)=some true)∨(¬ Qhp n q∧Js (Zc n fun v=>bitsOf (q v) 0)=some false):=by
 have hlen:(Zc n fun v=>bitsOf (q v) 0).length=n:=Qco
 have hbit:∀v j,(bitsOf (q v) 0).testBit j=true↔j∈q v:=fun v j=>by rw [Xu]; simp
 have hS:∀v,v < n→∀j,(bitsOf (q v) 0).testBit j=true→j < n:=fun v hv j hj=>hq v hv j ((hbit v j).1 hj)
 have p8:(2:Nat)^n≤256:=Nat.pow_le_pow_right (n:=2) (by omega) hn
 have hin:∀v,v < n→∀j,(ups n (fun v=>bitsOf (q v) 0) n (bitsOf (q v) 0)).testBit j=true→j < n:=fun v hv j hj=>by
  have:=Qf4 (Qnr n hS) (s:=bitsOf (q v) 0) (fun j hj=>by rw [Nat.testBit_two_pow_sub_one]; simpa using hS v hv j hj) n j hj
  rw [Nat.testBit_two_pow_sub_one] at this; simpa using this
 have h:=Xd (n:=n) (by omega) (fun v=>(ups n (fun v=>bitsOf (q v) 0) n (bitsOf (q v) 0)).testBit v=false) (fun i (t:Unit)=>i) (body:=Vo (Zc n fun v=>bitsOf (q v) 0)) (fun _=>()) (.inr ()) (.inl ())
  (fun v hv hI hg=>by
   unfold Vo
   rw [hlen,if_pos (dlt hv),Qcd hv,Option.bind_some,Qw9 hn hS (hS v hv),Option.bind_some,Qrt (by have:=Qk3 (hin v hv); omega) (by omega),Option.bind_some,hg,if_neg (by decide)])
  (fun v hv hI hg=>by
   unfold Vo
   rw [hlen,if_pos (dlt hv),Qcd hv,Option.bind_some,Qw9 hn hS (hS v hv),Option.bind_some,Qrt (by have:=Qk3 (hin v hv); omega) (by omega),Option.bind_some,if_pos (by simpa using hg)])
  (fun hI=>by unfold Vo; rw [hlen,if_neg (nlt n)])
 have hiff:(∀v,v < n→(ups n (fun v=>bitsOf (q v) 0) n (bitsOf (q v) 0)).testBit v=false)↔Qhp n q:=by
  constructor
  ·intro hac
   refine ⟨fun v=>cnt n (ups n (fun v=>bitsOf (q v) 0) n (bitsOf (q v) 0)).testBit,fun v hv p hp=>?_⟩
   have hpn:=hq v hv p hp
   have hcv:=Q1p hS (hS v hv)
   have hpv:(ups n (fun v=>bitsOf (q v) 0) n (bitsOf (q v) 0)).testBit p=true:=Qxb n p ((hbit v p).2 hp)
   refine Qx2 (Qf4 hcv (hcv p hpn hpv) n) (hin v hv) fun e=>?_
   have:=hac p hpn
   rw [e,hpv] at this; cases this
  ·rintro ⟨rk,hrk⟩ v hv
   rw [Bool.eq_false_iff]
   intro hb
   have hT:∃T:Nat,∀j,T.testBit j=true↔j < n∧rk j < rk v:=⟨msk n fun j=>decide (rk j < rk v),fun j=>by rw [Qfr]; simp⟩
   obtain ⟨T,hT⟩:=hT
   have:=Qf4 (n:=n) (S:=fun v=>bitsOf (q v) 0) (s:=bitsOf (q v) 0) (T:=T) (fun u hu hb j hj=>by
    have h1:=(hT u).1 hb
    have h2:=(hbit u j).1 hj
    have h3:=hrk u hu j h2
    exact (hT j).2 ⟨hq u hu j h2,by omega⟩) (fun j hj=>by
    have h2:=(hbit v j).1 hj
    exact (hT j).2 ⟨hq v hv j h2,hrk v hv j h2⟩) n v hb
   have:=((hT v).1 this).2
   omega
 rw [hiff] at h
 rw [show ((0:Nat):Int)=0 from rfl] at h
 unfold Js
 rcases h with ⟨h1,h2⟩ | ⟨h1,h2⟩
 ·exact .inl ⟨h1,by rw [h2]; rfl⟩
 ·exact .inr ⟨h1,by rw [h2]; rfl⟩
end Go.Ab
namespace Go.Ab
open Go
set_option maxRecDepth 100000
set_option maxHeartbeats 400000
theorem Qo4 {n:Nat} {l:List Int} (hl:l.length≤1000000):(Kr n l∧Ki l (n:Int)=some true)∨(¬ Kr n l∧Ki l (n:Int)=some false):=by
 have good:∀k,k < l.length→((0≤(l[k]?).getD 0∧(l[k]?).getD 0 < n∧(0 < k→(l[k - 1]?).getD 0 < (l[k]?).getD 0))↔(0≤(l[k]?).getD 0∧Qgj n l k)):=fun k hk=>by
  unfold Qgj Qhc
  by_cases c:k=0
  ·rw [if_pos c]; constructor
   ·rintro ⟨a,b,_⟩; exact ⟨a,by omega,b⟩
   ·rintro ⟨a,_,b⟩; exact ⟨a,b,fun h=>by omega⟩
  ·rw [if_neg c]; constructor
   ·rintro ⟨a,b,d⟩; exact ⟨a,d (by omega),b⟩
   ·rintro ⟨a,d,b⟩; exact ⟨a,b,fun _=>d⟩
 have h:=Xd (n:=l.length) (by omega) (fun k=>0≤(l[k]?).getD 0∧(l[k]?).getD 0 < n∧(0 < k→(l[k - 1]?).getD 0 < (l[k]?).getD 0)) (fun i (t:Unit)=>i) (body:=V2 l (n:Int)) (fun _=>()) (.inr ()) (.inl ())
  (fun k hk hI hg=>by
   have ek:lkI l (k:Int)=some ((l[k]?).getD 0):=by rw [lkI_nat hk,List.getElem?_eq_getElem hk]; rfl
   unfold V2
   rw [if_pos (dlt hk),ek,Option.bind_some,if_neg (by simp; exact hg.1),if_neg (by simp; exact hg.2.1)]
   by_cases c:0 < k
   ·have ek2:lkI l (zw ((k:Int) - 1))=some ((l[k - 1]?).getD 0):=by
     rw [w64 (by omega),show ((k:Int) - 1)=((k - 1:Nat):Int) by omega,lkI_nat (by omega),List.getElem?_eq_getElem (by omega)]; rfl
    rw [if_pos (by simp; omega),ek2,Option.bind_some,if_neg (by simp; exact hg.2.2 c)]
   ·rw [if_neg (by simp; omega)])
  (fun k hk hI hg=>by
   have ek:lkI l (k:Int)=some ((l[k]?).getD 0):=by rw [lkI_nat hk,List.getElem?_eq_getElem hk]; rfl
   unfold V2
   rw [if_pos (dlt hk),ek,Option.bind_some]
   by_cases c1:(l[k]?).getD 0 < 0
   ·rw [if_pos (by simpa using c1)]
   ·rw [if_neg (by simpa using c1)]
    by_cases c2:(l[k]?).getD 0≥(n:Int)
    ·rw [if_pos (by simpa using c2)]
    ·rw [if_neg (by simpa using c2)]
     by_cases c:0 < k
     ·have ek2:lkI l (zw ((k:Int) - 1))=some ((l[k - 1]?).getD 0):=by
       rw [w64 (by omega),show ((k:Int) - 1)=((k - 1:Nat):Int) by omega,lkI_nat (by omega),List.getElem?_eq_getElem (by omega)]; rfl
      rw [if_pos (by simp; omega),ek2,Option.bind_some,if_pos (by
       have:¬ (l[k - 1]?).getD 0 < (l[k]?).getD 0:=fun h=>hg ⟨by omega,by omega,fun _=>h⟩
       simp; omega)]
     ·exact absurd ⟨by omega,by omega,fun h=>absurd h c⟩ hg)
  (fun hI=>by unfold V2; rw [if_neg (nlt _)])
 have hiff:(∀k,k < l.length→0≤(l[k]?).getD 0∧(l[k]?).getD 0 < n∧(0 < k→(l[k - 1]?).getD 0 < (l[k]?).getD 0))↔Kr n l:=by
  constructor
  ·intro h; exact Qqe fun k hk=>((good k hk).1 (h k hk)).2
  ·intro h k hk
   exact (good k hk).2 ⟨(Qfe (Qkk h) k hk).1,Qkk h k hk⟩
 rw [hiff] at h
 rw [show ((0:Nat):Int)=0 from rfl] at h
 unfold Ki
 rcases h with ⟨h1,h2⟩ | ⟨h1,h2⟩
 ·exact .inl ⟨h1,by rw [h2]; rfl⟩
 ·exact .inr ⟨h1,by rw [h2]; rfl⟩
theorem Q3h {n:Nat} {g:Int} {F:Nat → Tapi_Node} (hn:n≤8) (hb:NB n F) :
  ((∀v,v < n→Kn (F v)∧Kr n (F v).Parents)∧Qa fuel (Yd ⟨g,Qe n F⟩) ((1:Int),(0:Int))=some (Sum.inr (Ze n (cardN F):Int))) ∨
  ((¬ ∀v,v < n→Kn (F v)∧Kr n (F v).Parents)∧Qa fuel (Yd ⟨g,Qe n F⟩) ((1:Int),(0:Int))=some (Sum.inl ())):=by
 have hlen:(Qe n F).length=n:=Zo
 have h:=Xd (n:=n) (by omega) (fun v=>Kn (F v)∧Kr n (F v).Parents) (fun i (t:Int)=>(t,i)) (body:=Yd ⟨g,Qe n F⟩)
  (fun k=>(Ze k (cardN F):Int)) (Sum.inr (Ze n (cardN F):Int)) (Sum.inl ())
  (fun k hk hI hg=>by
   have b1:Ze k (cardN F)≤4^k:=Qkz fun j hj=>(Qa5 (hI j hj).1).2
   have b2:(4:Nat)^k≤4^8:=Nat.pow_le_pow_right (by omega) (by omega)
   have b3:Ze k (cardN F)*cardN F k≤65536*4:=Nat.mul_le_mul (by omega) (Qa5 hg.1).2
   have hc:=Qnm hg.1
   have e1:(Ze k (cardN F):Int)*(F k).Card=((Ze (k+1) (cardN F):Nat):Int):=by rw [←hc]; simp [Ze]
   unfold Yd
   dsimp only
   rw [hlen,if_pos (dlt hk),Zn hk,Option.bind_some,if_neg (by simp; exact hg.1.1),if_neg (by simp; exact hg.1.2)]
   rcases Qo4 (n:=n) (hb.par k hk) with ⟨_,e⟩ | ⟨no,_⟩
   ·rw [e,Option.bind_some,if_neg (by decide),e1,w64 (n:=((Ze (k+1) (cardN F):Nat):Int)) (by simp only [Ze]; omega)]
   ·exact absurd hg.2 no)
  (fun k hk hI hg=>by
   unfold Yd
   dsimp only
   rw [hlen,if_pos (dlt hk),Zn hk,Option.bind_some]
   by_cases c:(F k).Card < 1
   ·rw [if_pos (by simpa using c)]
   ·rw [if_neg (by simpa using c)]
    by_cases c2:(F k).Card > 4
    ·rw [if_pos (by simpa using c2)]
    ·rw [if_neg (by simpa using c2)]
     rcases Qo4 (n:=n) (hb.par k hk) with ⟨hp,_⟩ | ⟨_,e⟩
     ·exact absurd ⟨⟨by omega,by omega⟩,hp⟩ hg
     ·rw [e,Option.bind_some,if_pos (by decide)])
  (fun hI=>by
   unfold Yd
   dsimp only
   rw [hlen,if_neg (nlt n)])
 exact h
theorem Qm3 {n:Nat} {g:Int} {F:Nat → Tapi_Node} (hn:n≤8) (hP:∀v,v < n→Kr n (F v).Parents):Yj ⟨g,Qe n F⟩=some (Zc n (setF F)):=by
 have hlen:(Qe n F).length=n:=Zo
 have h:=Zx (n:=n) (k0:=0) (by omega) (by omega) (fun i (t:List Int)=>(i,t)) (body:=Vt ⟨g,Qe n F⟩) (fun k=>Zc k (setF F)) (Zc n (setF F))
  (fun v _ hv=>by
   obtain ⟨p1,p2,p3⟩:=Jo (hP v hv)
   have hl:=Qd4 p2 p3
   have hi:=Zx (n:=(Qj F v).length) (k0:=0) (by omega) (by omega) (fun i (t:Int)=>(t,i)) (body:=Vr ⟨g,Qe n F⟩ ((v:Int),Zc v (setF F))) (fun k=>(bitsOf ((Qj F v).take k) 0:Int)) ((setF F v:Nat):Int)
    (fun k _ hk=>by
     have hp:=p3 _ (List.getElem_mem hk)
     have hbl:bitsOf ((Qj F v).take k) 0 < 18446744073709551616:=Qaz _ _ (by omega) fun p hp=>by have:=p3 p (List.mem_of_mem_take hp); omega
     unfold Vr
     dsimp only
     rw [Zn hv,Option.bind_some,p1,Q5,if_pos (dlt hk),Qdm hk,Option.bind_some,X4 (n:=(Qj F v)[k]) (by omega),if_pos (J1 _),Qru hbl (by omega),Q2 hk,Qb4])
    (by
     unfold Vr
     dsimp only
     rw [Zn hv,Option.bind_some,p1,Q5,if_neg (nlt _),List.take_length]; rfl)
   rw [show ((0:Nat):Int)=0 from rfl,List.take_zero] at hi
   rw [show ((bitsOf [] 0:Nat):Int)=0 from rfl] at hi
   unfold Vt
   dsimp only
   rw [hlen,if_pos (dlt hv),hi,Option.bind_some,if_pos (by rw [List.length_append,Qco]; simp; omega)]
   congr 3
   exact Qhj (F:=fun j=>((setF F j:Nat):Int)))
  (by
   unfold Vt
   dsimp only
   rw [hlen,if_neg (nlt n)])
 rw [show ((0:Nat):Int)=0 from rfl] at h
 rw [show Zc 0 (setF F)=[] from rfl] at h
 unfold Yj
 rw [h]; rfl
theorem Q1w {n:Nat} {g:Int} {F:Nat → Tapi_Node} {r:List Int} (hg:0≤g) (hg60:g≤60) (hr:r.length≤4) :
  ((∀w∈r,0≤w∧w≤g)∧Qa fuel (Yh r ⟨g,Qe n F⟩) (0,0)=some (.inr r.sum))∨(¬ (∀w∈r,0≤w∧w≤g)∧Qa fuel (Yh r ⟨g,Qe n F⟩) (0,0)=some (.inl ())):=by
 have pre:∀k,k≤r.length→(∀j,j < k→0≤(r[j]?).getD 0∧(r[j]?).getD 0≤g)→0≤(r.take k).sum∧(r.take k).sum≤60*k:=by
  intro k
  induction k with
  | zero=>intro _ _; simp
  | succ k ih =>
   intro hk h
   have h1:=ih (by omega) fun j hj=>h j (by omega)
   have h2:=h k (by omega)
   rw [List.getElem?_eq_getElem (by omega)] at h2
   rw [Qd7 (by omega)]
   simp at h2; omega
 have h:=Xd (n:=r.length) (by omega) (fun k=>0≤(r[k]?).getD 0∧(r[k]?).getD 0≤g) (fun i (t:Int)=>(t,i)) (body:=Yh r ⟨g,Qe n F⟩)
  (fun k=>(r.take k).sum) (.inr r.sum) (.inl ())
  (fun k hk hI hgd=>by
   have hp:=pre k (by omega) hI
   have ek:lkI r (k:Int)=some r[k]:=lkI_nat hk
   rw [List.getElem?_eq_getElem hk] at hgd
   simp only [Option.getD_some] at hgd
   unfold Yh
   dsimp only
   rw [if_pos (dlt hk),ek,Option.bind_some,if_neg (by simp; omega),if_neg (by simp; omega),w64 (n:=(r.take k).sum+r[k]) (by omega),Qd7 hk])
  (fun k hk hI hgd=>by
   have ek:lkI r (k:Int)=some r[k]:=lkI_nat hk
   rw [List.getElem?_eq_getElem hk] at hgd
   simp only [Option.getD_some] at hgd
   unfold Yh
   dsimp only
   rw [if_pos (dlt hk),ek,Option.bind_some]
   by_cases c:r[k] < 0
   ·rw [if_pos (by simpa using c)]
   ·rw [if_neg (by simpa using c),if_pos (by simp; omega)])
  (fun hI=>by
   unfold Yh
   dsimp only
   rw [if_neg (nlt _),List.take_length])
 have hiff:(∀j,j < r.length→0≤(r[j]?).getD 0∧(r[j]?).getD 0≤g)↔(∀w∈r,0≤w∧w≤g):=by
  constructor
  ·intro h w hw
   obtain ⟨k,hk,rfl⟩:=List.mem_iff_getElem.1 hw
   have:=h k hk
   rw [List.getElem?_eq_getElem hk] at this
   exact this
  ·intro h j hj
   rw [List.getElem?_eq_getElem hj]
   exact h _ (List.getElem_mem hj)
 rw [hiff] at h
 simp only [List.take_zero,List.sum_nil] at h
 exact h
theorem Quu {g c:Int} {r:List Int}:Qhf g c r↔(r.length:Int)=c∧(∀w∈r,0≤w∧w≤g)∧r.sum=g:=by
 unfold Qhf
 constructor
 ·rintro ⟨a,b,d⟩
  refine ⟨a,fun w hw=>⟨b w hw,?_⟩,d⟩
  obtain ⟨k,hk,rfl⟩:=List.mem_iff_getElem.1 hw
  have h1:=(Qm7 (k:=k+1) b).1
  have h2:=(Qm7 (k:=k) b).2
  rw [Qd7 hk] at h1; omega
 ·rintro ⟨a,b,d⟩; exact ⟨a,fun w hw=>(b w hw).1,d⟩
theorem Qzv {n:Nat} {g:Int} {F:Nat → Tapi_Node} (hn:n≤8) (hg:0≤g) (hg60:g≤60) (hb:NB n F) (hC:∀v,v < n→Kn (F v)) (hP:∀v,v < n→Kr n (F v).Parents) :
  ((∀v,v < n→Qgh g (cardN F) (F v) (Qj F v))∧Qa fuel (Ye ⟨g,Qe n F⟩) 0=some (.inr ()))∨((¬ ∀v,v < n→Qgh g (cardN F) (F v) (Qj F v))∧Qa fuel (Ye ⟨g,Qe n F⟩) 0=some (.inl ())):=by
 have hlen:(Qe n F).length=n:=Zo
 have hpc:∀v,v < n→Zf ⟨g,Qe n F⟩ (v:Int)=some ((Qj F v).map fun p=>(cardN F p:Int)):=fun v hv=>by
  obtain ⟨p1,p2,p3⟩:=Jo (hP v hv)
  unfold Zf
  rw [Qq1 (C:=cardN F) (fun v hv=>(Qnm (hC v hv)).symm) hn,Option.bind_some,Zn hv,Option.bind_some,p1,show nI (Qj F v)=(Qj F v).map fun (p:Nat)=>(p:Int) from rfl,Q0w p3 (by have:=Qd4 p2 p3; omega)]
  rfl
 have hrow:∀v (hv:v < n) k (hk:k < (F v).Rows.length),Yc (F v) ⟨g,Qe n F⟩ (k:Int)=some (if (((F v).Rows[k].length:Int)=(F v).Card∧(∀w∈(F v).Rows[k],0≤w∧w≤g)∧(F v).Rows[k].sum=g) then .next (zw ((k:Int)+1)) else .done (.inl ())):=fun v hv k hk=>by
  have ek:lkI (F v).Rows (k:Int)=some (F v).Rows[k]:=lkI_nat hk
  unfold Yc
  rw [if_pos (dlt hk),ek,Option.bind_some]
  by_cases c:((F v).Rows[k].length:Int)=(F v).Card
  ·rw [if_neg (by simp; omega)]
   have hc:=(hC v hv).2
   rcases Q1w (n:=n) (g:=g) (F:=F) (r:=(F v).Rows[k]) hg hg60 (by omega) with ⟨h,e⟩ | ⟨h,e⟩
   ·rw [e,Option.bind_some]
    dsimp only
    by_cases c2:(F v).Rows[k].sum=g
    ·rw [if_neg (by simp; exact c2),if_pos ⟨c,h,c2⟩]
    ·rw [if_pos (by simpa using c2),if_neg fun hh=>c2 hh.2.2]
   ·rw [e,Option.bind_some,if_neg fun hh=>h hh.2.1]
  ·rw [if_pos (by simpa using c),if_neg fun hh=>c hh.1]
 have hrows:∀v (hv:v < n),((∀k,k < (F v).Rows.length→∀r,(F v).Rows[k]?=some r→Qhf g (F v).Card r)∧Qa fuel (Yc (F v) ⟨g,Qe n F⟩) 0=some (.inr ()))∨((¬ ∀k,k < (F v).Rows.length→∀r,(F v).Rows[k]?=some r→Qhf g (F v).Card r)∧Qa fuel (Yc (F v) ⟨g,Qe n F⟩) 0=some (.inl ())):=fun v hv=>by
  have h:=Xd (n:=(F v).Rows.length) (by have:=hb.rows v hv; omega) (fun k=>∀r,(F v).Rows[k]?=some r→Qhf g (F v).Card r) (fun i (t:Unit)=>i) (body:=Yc (F v) ⟨g,Qe n F⟩) (fun _=>()) (.inr ()) (.inl ())
   (fun k hk hI hgd=>by
    rw [hrow v hv k hk,if_pos (Quu.1 (hgd _ (List.getElem?_eq_getElem hk)))])
   (fun k hk hI hgd=>by
    rw [hrow v hv k hk,if_neg fun hh=>hgd fun r hr=>by
     rw [List.getElem?_eq_getElem hk] at hr; cases hr
     exact Quu.2 hh])
   (fun hI=>by unfold Yc; rw [if_neg (nlt _)])
  exact h
 have h:=Xd (n:=n) (by omega) (fun v=>Qgh g (cardN F) (F v) (Qj F v)) (fun i (t:Unit)=>i) (body:=Ye ⟨g,Qe n F⟩) (fun _=>()) (.inr ()) (.inl ())
  (fun v hv hI hgd=>by
   obtain ⟨p1,p2,p3⟩:=Jo (hP v hv)
   unfold Ye
   dsimp only
   rw [hlen,if_pos (dlt hv),Zn hv,Option.bind_some,hpc v hv,Option.bind_some,Qk9 (fun p hp=>(Qa5 (hC p (p3 p hp))).2) (by have:=Qd4 p2 p3; omega),Option.bind_some,if_neg (by have:=hgd.1; simp; omega)]
   rcases hrows v hv with ⟨_,e⟩ | ⟨no,_⟩
   ·rw [e,Option.bind_some]
   ·exact absurd (fun k hk r hr=>hgd.2 r (List.mem_of_getElem? hr)) no)
  (fun v hv hI hgd=>by
   obtain ⟨p1,p2,p3⟩:=Jo (hP v hv)
   unfold Ye
   dsimp only
   rw [hlen,if_pos (dlt hv),Zn hv,Option.bind_some,hpc v hv,Option.bind_some,Qk9 (fun p hp=>(Qa5 (hC p (p3 p hp))).2) (by have:=Qd4 p2 p3; omega),Option.bind_some]
   by_cases c:(F v).Rows.length=lprod (cardN F) (Qj F v)
   ·rw [if_neg (by simp; omega)]
    rcases hrows v hv with ⟨h,_⟩ | ⟨_,e⟩
    ·exact absurd ⟨c,fun r hr=>by
      obtain ⟨k,hk,rfl⟩:=List.mem_iff_getElem.1 hr
      exact h k hk _ (List.getElem?_eq_getElem hk)⟩ hgd
    ·rw [e,Option.bind_some]
   ·rw [if_pos (by simp; omega)])
  (fun hI=>by unfold Ye; dsimp only; rw [hlen,if_neg (nlt n)])
 exact h
theorem Qv3 {n:Nat} {g:Int} {F:Nat → Tapi_Node} (hb:NB n F):(V4 n g F∧K3 ⟨g,Qe n F⟩=some true)∨(¬ V4 n g F∧K3 ⟨g,Qe n F⟩=some false):=by
 have hlen:(Qe n F).length=n:=Zo
 unfold K3
 dsimp only
 rw [hlen]
 by_cases c1:g < 1
 ·rw [if_pos (by simpa using c1)]; exact .inr ⟨fun h=>by have:=h.g1; omega,rfl⟩
 rw [if_neg (by simpa using c1)]
 by_cases c2:g > 60
 ·rw [if_pos (by simpa using c2)]; exact .inr ⟨fun h=>by have:=h.g60; omega,rfl⟩
 rw [if_neg (by simpa using c2)]
 by_cases c3:n < 1
 ·rw [if_pos (by simp; omega)]; exact .inr ⟨fun h=>by have:=h.n1; omega,rfl⟩
 rw [if_neg (by simp; omega)]
 by_cases c4:n > 8
 ·rw [if_pos (by simp; omega)]; exact .inr ⟨fun h=>by have:=h.n8; omega,rfl⟩
 rw [if_neg (by simp; omega)]
 rcases Q3h (n:=n) (g:=g) (by omega) hb with ⟨hC,e⟩ | ⟨hC,e⟩
 ·rw [e,Option.bind_some]
  dsimp only
  by_cases c5:Ze n (cardN F) > 1024
  ·rw [if_pos (by simp; omega)]; exact .inr ⟨fun h=>by have:=h.worlds; omega,rfl⟩
  rw [if_neg (by simp; omega),Qm3 (by omega) fun v hv=>(hC v hv).2,Option.bind_some]
  rw [show (Zc n (setF F))=(Zc n fun v=>bitsOf (Qj F v) 0) from rfl]
  rcases Qtv (n:=n) (q:=Qj F) (by omega) (fun v hv=>(Jo (hC v hv).2).2.2) with ⟨hR,e⟩ | ⟨hR,e⟩
  ·rw [e,Option.bind_some,if_neg (by decide)]
   rcases Qzv (n:=n) (g:=g) (F:=F) (by omega) (by omega) (by omega) hb (fun v hv=>(hC v hv).1) (fun v hv=>(hC v hv).2) with ⟨hN,e⟩ | ⟨hN,e⟩
   ·left
    refine ⟨⟨by omega,by omega,by omega,by omega,fun v hv=>(hC v hv).1,by omega,fun v hv=>⟨⟨(hC v hv).2,fun hm=>?_⟩,hN v hv⟩,hR⟩,by rw [e]; rfl⟩
    obtain ⟨p1,_,_⟩:=Jo (hC v hv).2
    obtain ⟨rk,hrk⟩:=hR
    rw [p1] at hm
    unfold nI at hm
    obtain ⟨p,hp,e⟩:=List.mem_map.1 hm
    have:p=v:=by omega
    subst this
    have:=hrk p hv p hp; omega
   ·right
    exact ⟨fun h=>hN fun v hv=>(h.node v hv).2,by rw [e]; rfl⟩
  ·rw [e,Option.bind_some,if_pos (by decide)]
   exact .inr ⟨fun h=>hR h.rank,rfl⟩
 ·rw [e,Option.bind_some]; exact .inr ⟨fun h=>hC fun v hv=>⟨h.card v hv,(h.node v hv).1.1⟩,rfl⟩
end Go.Ab
namespace Go.Ab
open Go
set_option maxRecDepth 100000
set_option maxHeartbeats 400000
structure Ju (m:Nat) (x:Tapi_Node):Prop where
 par:x.Parents.length≤m
 rows:x.Rows.length≤m
 row:∀r∈x.Rows,r.length≤m
theorem Qko {m:Nat} {x:Tapi_Node} (hm:m≤1000000) (h:Ju m x):Qa fuel (Xs x) (0,([]:List (List Int)))=some x.Rows:=by
 have h1:=h.rows
 have hr:=Zx (n:=x.Rows.length) (k0:=0) (by omega) (by omega) (fun i (t:List (List Int))=>(i,t)) (body:=Xs x) (fun k=>x.Rows.take k) x.Rows
  (fun k _ hk=>by
   have h2:=h.row _ (List.getElem_mem hk)
   unfold Xs
   dsimp only
   rw [if_pos (dlt hk),lkI_nat hk,Option.bind_some,if_pos (by omega),if_pos (by rw [List.length_append,List.length_take]; simp; omega),Q2 hk])
  (by unfold Xs; dsimp only; rw [if_neg (nlt _),List.take_length])
 exact hr
theorem Q12 {x:Tapi_Node}:Qeu x=Xs x:=rfl
theorem Q1g {x:Tapi_Node}:Qey x=Xs x:=rfl
theorem Qvw {m:Nat} {g:Int} {l:List Tapi_Node} {t:Nat} (hm:m≤1000000) (hl:l.length≤8) (h:∀x∈l,Ju m x) (ht:t < l.length) :
  Qa fuel (Qau (fun s=>decide (s.1=(t:Int))) (Yo ⟨g,l⟩)) (0,([]:List Tapi_Node))=some (.inl ((t:Int),l.take t)):=by
 have step:∀k,k < t→Yo ⟨g,l⟩ ((k:Int),l.take k)=some (.next (((k+1:Nat):Int),l.take (k+1))):=fun k hk=>by
  have hkl:k < l.length:=by omega
  have hx:=h _ (List.getElem_mem hkl)
  have h3:=hx.par
  unfold Yo
  dsimp only
  rw [if_pos (dlt hkl),lkI_nat hkl,Option.bind_some,if_pos (by omega),Qko hm hx,Option.bind_some,if_pos (by rw [List.length_append,List.length_take]; simp; omega),Q2 hkl,Qoa (by omega)]
 have key:∀(j N k:Nat),k+j=t→j < N→Qa N (Qau (fun s=>decide (s.1=(t:Int))) (Yo ⟨g,l⟩)) ((k:Int),l.take k)=some (.inl ((t:Int),l.take t)):=by
  intro j
  induction j with
  | zero =>
   intro N k e hN
   obtain ⟨N,rfl⟩:∃M,N=M+1:=⟨N - 1,by omega⟩
   have:k=t:=by omega
   subst this
   simp only [Qa,Qau,decide_true,if_true]
  | succ j ih =>
   intro N k e hN
   obtain ⟨N,rfl⟩:∃M,N=M+1:=⟨N - 1,by omega⟩
   have hne:¬ ((k:Int)=(t:Int)):=by omega
   have hs:Qau (fun s=>decide (s.1=(t:Int))) (Yo ⟨g,l⟩) ((k:Int),l.take k)=some (.next (((k+1:Nat):Int),l.take (k+1))):=by
    unfold Qau
    rw [if_neg (by simpa using hne),step k (by omega)]; rfl
   rw [Qa,hs]
   exact ih N (k+1) (by omega) (by omega)
 exact key t fuel 0 (by omega) (by show t < 1152921504606846976; omega)
theorem Qx0 {m:Nat} {g:Int} {l:List Tapi_Node} {t:Nat} (hm:m≤1000000) (hl:l.length≤8) (h:∀x∈l,Ju m x) (ht:t < l.length) :
  Qa fuel (Vn ⟨g,l⟩ ((t:Int),l.take t)) (zw ((t:Int)+1),(l.take t++[(default:Tapi_Node)]))=some (l.take t++[(default:Tapi_Node)]++l.drop (t+1)):=by
 have hr:=Zx (n:=l.length) (k0:=t+1) (by omega) (by omega) (fun i (s:List Tapi_Node)=>(i,s)) (body:=Vn ⟨g,l⟩ ((t:Int),l.take t)) (fun k=>l.take t++[(default:Tapi_Node)]++(l.drop (t+1)).take (k - (t+1))) (l.take t++[(default:Tapi_Node)]++l.drop (t+1))
  (fun k hk0 hk=>by
   have hx:=h _ (List.getElem_mem hk)
   have h3:=hx.par
   have htl:(l.take t).length=t:=by rw [List.length_take]; omega
   have hi:t < (l.take t++[(default:Tapi_Node)]++(l.drop (t+1)).take (k - (t+1))).length:=by rw [List.length_append,List.length_append,htl]; simp only [List.length_cons,List.length_nil]; omega
   unfold Vn
   dsimp only
   rw [if_pos (dlt hk),lkI_nat hk,Option.bind_some,if_pos (by omega),Q1g,Qko hm hx,Option.bind_some,htl,lkI_nat hi,Option.bind_some,if_pos (by simp; omega)]
   congr 3
   rw [List.append_assoc,show k+1 - (t+1)=(k - (t+1))+1 by omega,Q2 (by rw [List.length_drop]; omega)]
   congr 2
   rw [List.getElem_drop]
   simp only [show t+1+(k - (t+1))=k by omega])
  (by
   unfold Vn
   dsimp only
   rw [if_neg (nlt _)]
   congr 3
   rw [List.take_of_length_le (by rw [List.length_drop]; omega)])
 rw [Qoa (by omega)]
 simp only [Nat.sub_self,List.take_zero,List.append_nil] at hr
 exact hr
def Out (m k:Nat) (o:Option Qd):Prop:=∃g l,o=some ⟨g,l⟩∧l.length≤k∧∀x∈l,Ju m x
theorem Ql8 {m k t:Nat} {g:Int} {l:List Tapi_Node} {x:Tapi_Node} (hl:l.length≤k) (h:∀y∈l,Ju m y) (hx:Ju m x):Out m k (some ⟨g,l.set t x⟩):=by
 refine ⟨g,_,rfl,by rw [List.length_set]; exact hl,fun y hy=>?_⟩
 rcases List.mem_or_eq_of_mem_set hy with h1 | h1
 ·exact h y h1
 ·rw [h1]; exact hx
theorem Qq8 {m k t:Nat} {w0 w1 w2 w3 w4 w5 w6 row:Int} {q:Nat} {l:List Tapi_Node} {c:Int} {P:List Int} {R:List (List Int)} (hm:m≤1000000) (hl:l.length≤k) (hk:k≤8) (h:∀y∈l,Ju m y) (ht:t < l.length) (hP:P.length≤m) (hR:R.length≤m) (hr:∀r∈R,r.length≤m)
  (hrow:row=-1∨(0≤row∧row < R.length)):Out (m+1) (k+1) (Vp q row w0 w1 w2 w3 w4 w5 l (t:Int) c P R):=by
 have h':∀y∈l,Ju (m+1) y:=fun y hy=>⟨Nat.le_succ_of_le (h y hy).par,Nat.le_succ_of_le (h y hy).rows,fun r hr=>Nat.le_succ_of_le ((h y hy).row r hr)⟩
 have hlk:lkI l (t:Int)=some l[t]:=lkI_nat ht
 have mk:∀{g c:Int} {P:List Int} {R:List (List Int)},P.length≤m+1→R.length≤m+1→(∀r∈R,r.length≤m+1)→Out (m+1) (k+1) (Qm g l (t:Int) c P R):=fun a b d=>by
  unfold Qm
  rw [hlk,Option.bind_some]
  exact Ql8 (Nat.le_succ_of_le hl) h' ⟨a,b,d⟩
 have same:∀{g c:Int},Out (m+1) (k+1) (Qm g l (t:Int) c P R):=mk (by omega) (by omega) fun r h=>Nat.le_succ_of_le (hr r h)
 have rowAt:0≤row→∃(i:Nat) (hi:i < R.length),row=(i:Int)∧lkI R row=some R[i]:=fun h0=>by
  rcases hrow with h1 | h1
  ·omega
  ·obtain ⟨i,rfl⟩:∃i:Nat,row=(i:Int):=⟨row.toNat,by omega⟩
   exact ⟨i,by omega,rfl,lkI_nat (by omega)⟩
 have setR:∀{i:Nat} {r:List Int},r.length≤m+1→(R.set i r).length≤m+1∧∀s∈R.set i r,s.length≤m+1:=fun hr'=>⟨by rw [List.length_set]; omega,fun s hs=>by
  rcases List.mem_or_eq_of_mem_set hs with h1 | h1
  ·exact Nat.le_succ_of_le (hr s h1)
  ·rw [h1]; exact hr'⟩
 unfold Vp
 by_cases c0:Int.tmod w0 12=0
 ·rw [if_pos (by simpa using c0)]; exact same
 rw [if_neg (by simpa using c0)]
 by_cases c1:Int.tmod w0 12=1
 ·rw [if_pos (by simpa using c1),hlk,Option.bind_some]; exact same
 rw [if_neg (by simpa using c1)]
 by_cases c2:Int.tmod w0 12=2
 ·rw [if_pos (by simpa using c2),hlk,Option.bind_some,if_pos (by rw [List.length_append]; simp; omega)]
  exact mk (by rw [List.length_append]; simp; omega) (by omega) fun r h=>Nat.le_succ_of_le (hr r h)
 rw [if_neg (by simpa using c2)]
 by_cases c3:Int.tmod w0 12=3
 ·rw [if_pos (by simpa using c3),hlk,Option.bind_some]
  unfold Qa1
  rw [hlk,Option.bind_some]
  exact Ql8 (Nat.le_succ_of_le hl) h' ⟨by simp,Nat.le_succ_of_le hR,fun r h=>Nat.le_succ_of_le (hr r h)⟩
 rw [if_neg (by simpa using c3)]
 by_cases c4:Int.tmod w0 12=4
 ·rw [if_pos (by simpa using c4),hlk,Option.bind_some,if_pos (by rw [List.length_append]; simp; omega)]
  refine mk (by omega) (by rw [List.length_append]; simp; omega) fun r h=>?_
  rcases List.mem_append.1 h with h1 | h1
  ·exact Nat.le_succ_of_le (hr r h1)
  ·simp at h1; rw [h1]; simp
 rw [if_neg (by simpa using c4)]
 by_cases c5:Int.tmod w0 12=5
 ·rw [if_pos (by simpa using c5)]
  by_cases d:row≥0
  ·rw [if_pos (by simpa using d),hlk,Option.bind_some,if_pos (by rcases hrow with h1 | h1 <;> omega)]
   unfold Qa6
   refine Ql8 (Nat.le_succ_of_le hl) h' ⟨by simp only; omega,?_,fun r h=>?_⟩
   ·show (sub R 0 row).length≤m+1
    unfold sub; simp; omega
   ·have h:r∈sub R 0 row:=h
    unfold sub at h
    exact Nat.le_succ_of_le (hr r (List.mem_of_mem_take (by simpa using h)))
  ·rw [if_neg (by simpa using d)]; exact same
 rw [if_neg (by simpa using c5)]
 by_cases c6:Int.tmod w0 12=6
 ·rw [if_pos (by simpa using c6)]
  by_cases d:row≥0
  ·obtain ⟨i,hi,e1,e2⟩:=rowAt d
   rw [if_pos (by simpa using d),hlk,Option.bind_some,e2,Option.bind_some]
   have hri:=hr _ (List.getElem_mem hi)
   by_cases d2:((R[i].length:Int) > 0)
   ·rw [if_pos (by simpa using d2),show (0:Int)=((0:Nat):Int) from rfl,lkI_nat (by omega),Option.bind_some]
    obtain ⟨a,b⟩:=setR (i:=row.toNat) (r:=R[i].set (Int.toNat ((0:Nat):Int)) w3) (by rw [List.length_set]; omega)
    exact mk (by omega) a b
   ·rw [if_neg (by simpa using d2)]; exact same
  ·rw [if_neg (by simpa using d)]; exact same
 rw [if_neg (by simpa using c6)]
 by_cases c7:Int.tmod w0 12=7
 ·rw [if_pos (by simpa using c7)]
  by_cases d:row≥0
  ·obtain ⟨i,hi,e1,e2⟩:=rowAt d
   have hri:=hr _ (List.getElem_mem hi)
   rw [if_pos (by simpa using d),e2,Option.bind_some,hlk,Option.bind_some,if_pos (by rw [List.length_append]; simp; omega),List.set_set]
   obtain ⟨a,b⟩:=setR (i:=row.toNat) (r:=R[i]++[(0:Int)]) (by rw [List.length_append]; simp; omega)
   exact mk (by omega) a b
  ·rw [if_neg (by simpa using d)]; exact same
 rw [if_neg (by simpa using c7)]
 by_cases c8:Int.tmod w0 12=8
 ·rw [if_pos (by simpa using c8)]
  by_cases d:row≥0
  ·obtain ⟨i,hi,e1,e2⟩:=rowAt d
   have hri:=hr _ (List.getElem_mem hi)
   rw [if_pos (by simpa using d),hlk,Option.bind_some,e2,Option.bind_some]
   by_cases d2:((R[i].length:Int) > 0)
   ·rw [if_pos (by simpa using d2),if_pos (by omega),show (0:Int)=((0:Nat):Int) from rfl,lkI_nat (by rw [List.length_replicate]; omega),Option.bind_some,List.set_set]
    obtain ⟨a,b⟩:=setR (i:=row.toNat) (r:=(List.replicate (Int.toNat (R[i].length:Int)) ((0:Nat):Int)).set (Int.toNat ((0:Nat):Int)) w4) (by rw [List.length_set,List.length_replicate]; omega)
    exact mk (by omega) a b
   ·rw [if_neg (by simpa using d2)]; exact same
  ·rw [if_neg (by simpa using d)]; exact same
 rw [if_neg (by simpa using c8)]
 by_cases c9:Int.tmod w0 12=9
 ·rw [if_pos (by simpa using c9)]
  by_cases d:row≥0
  ·obtain ⟨i,hi,e1,e2⟩:=rowAt d
   have hri:=hr _ (List.getElem_mem hi)
   rw [if_pos (by simpa using d),hlk,Option.bind_some,e2,Option.bind_some]
   have hw:=Vm (body:=Qar row) (fun s:Int × Int × List (List Int)=>∃(a b:Int) (T:List (List Int)),s=(a,b,T)∧0≤a∧-1≤b∧a+b=(R[i].length:Int) - 1∧T.length=R.length∧(∀r∈T,r.length≤m)∧∃r,T[i]?=some r∧r.length=R[i].length) (fun s=>R[i].length+1 - s.1.toNat) (fun T=>T.length=R.length∧∀r∈T,r.length≤m)
    (fun s hs=>by
     obtain ⟨a,b,T,rfl,ha,hb,hab,hT,hTr,r,er,hrl⟩:=hs
     unfold Qar
     dsimp only
     by_cases hc:a < b
     ·left
      have eT:lkI T row=some r:=by unfold lkI; rw [if_neg (by omega),e1,Int.toNat_natCast,er]
      have l1:∀(s:List Int) (z:Int),s.length=R[i].length→0≤z→z < R[i].length→lkI s z=some ((s[z.toNat]?).getD 0):=fun s z hs h1 h2=>by
       unfold lkI; rw [if_neg (by omega),List.getElem?_eq_getElem (by omega)]; rfl
      rw [if_pos (by simpa using hc),eT,Option.bind_some,l1 r a hrl ha (by omega),Option.bind_some,l1 r b hrl (by omega) (by omega),Option.bind_some,l1 _ b (by rw [List.length_set]; exact hrl) (by omega) (by omega),Option.bind_some,List.set_set,w64 (by omega),w64 (by omega)]
      refine ⟨_,rfl,⟨_,_,_,rfl,by omega,by omega,by omega,by rw [List.length_set]; exact hT,fun s hs=>?_,_,by rw [e1,Int.toNat_natCast,List.getElem?_set_self (by omega)],by rw [List.length_set,List.length_set]; exact hrl⟩,by simp only; omega⟩
      rcases List.mem_or_eq_of_mem_set hs with h1 | h1
      ·exact hTr s h1
      ·rw [h1,List.length_set,List.length_set,hrl]; exact hri
     ·right
      rw [if_neg (by simpa using hc)]
      exact ⟨_,rfl,hT,hTr⟩) (0,zw ((R[i].length:Int) - 1),R) ⟨0,(R[i].length:Int) - 1,R,by rw [w64 (by omega)],by omega,by omega,by omega,rfl,hr,_,List.getElem?_eq_getElem hi,rfl⟩ (by show R[i].length+1 - 0 < 1152921504606846976; omega)
   obtain ⟨T,h1,h2,h3⟩:=hw
   rw [h1,Option.bind_some]
   exact mk (by omega) (by omega) fun r h=>Nat.le_succ_of_le (h3 r h)
  ·rw [if_neg (by simpa using d)]; exact same
 rw [if_neg (by simpa using c9)]
 by_cases c10:Int.tmod w0 12=10
 ·rw [if_pos (by simpa using c10),hlk,Option.bind_some,if_pos (by rw [List.length_append]; simp; omega)]
  unfold Qm
  have hn:∀y∈l++[Tapi_Node.mk 1 [] [[w4]]],Ju (m+1) y:=fun y hy=>by
   rcases List.mem_append.1 hy with h1 | h1
   ·exact h' y h1
   ·simp at h1; rw [h1]; exact ⟨by simp,by simp,fun r hr=>by simp at hr; rw [hr]; simp⟩
  rw [lkI_nat (by rw [List.length_append]; omega),Option.bind_some]
  exact Ql8 (by rw [List.length_append]; simp; omega) hn ⟨by simp only; omega,by simp only; omega,fun r h=>Nat.le_succ_of_le (hr r h)⟩
 rw [if_neg (by simpa using c10),hlk,Option.bind_some,List.length_set,w64 (n:=(l.length:Int) - 1) (by omega),if_pos (by omega)]
 have hx:Ju (m+1) (Tapi_Node.mk c P R):=⟨by simp only; omega,by simp only; omega,fun r h=>Nat.le_succ_of_le (hr r h)⟩
 refine ⟨_,_,rfl,?_,fun y hy=>?_⟩
 ·unfold sub; simp; omega
 ·unfold sub at hy
  have hy:=List.mem_of_mem_take (show y∈List.take (l.length - 1) (l.set t { Card:=c,Parents:=P,Rows:=R }) by simpa using hy)
  rcases List.mem_or_eq_of_mem_set hy with h1 | h1
  ·exact h' y h1
  ·rw [h1]; exact hx
theorem Qy3 {b:Q8} {g:Int} {l:List Tapi_Node} {m:Nat} (hm:m≤999999) (h1:1≤l.length) (hl:l.length≤8) (h:∀x∈l,Ju m x) (hA:0≤b.At∧b.At≤255) (hR:0≤b.Row∧b.Row≤255):Out (m+1) (l.length+1) (J5 b ⟨g,l⟩):=by
 have eA:zw b.At=b.At:=w64 (by omega)
 have eR:zw b.Row=b.Row:=w64 (by omega)
 have tm:∀k:Nat,0 < k→∃t:Nat,t < k∧Int.tmod b.At (k:Int)=(t:Int):=fun k hk=>by
  rw [Kb hA.1]
  have h1:=Int.emod_nonneg b.At (show (k:Int)≠0 by omega)
  have h2:=Int.emod_lt_of_pos b.At (show (0:Int) < k by omega)
  exact ⟨(b.At % k).toNat,by omega,by omega⟩
 obtain ⟨t,ht,et⟩:=tm l.length (by omega)
 unfold J5
 dsimp only
 rw [eA,et,Qvw (by omega) hl h ht,Option.bind_some]
 dsimp only
 have hx:=h _ (List.getElem_mem ht)
 have hxp:=hx.par
 have htl:(l.take t).length=t:=by rw [List.length_take]; omega
 rw [if_pos (dlt ht),lkI_nat ht,Option.bind_some,if_pos (by omega),Q12,Qko (by omega) hx,Option.bind_some,if_pos (by rw [List.length_append,htl]; simp; omega),Qx0 (by omega) hl h ht,Option.bind_some,htl]
 have hlen:(l.take t++[(default:Tapi_Node)]++l.drop (t+1)).length=l.length:=by simp [htl]; omega
 have hall:∀y∈l.take t++[(default:Tapi_Node)]++l.drop (t+1),Ju m y:=fun y hy=>by
  rcases List.mem_append.1 hy with h1 | h1
  ·rcases List.mem_append.1 h1 with h2 | h2
   ·exact h y (List.mem_of_mem_take h2)
   ·simp at h2; rw [h2]; exact ⟨Nat.zero_le _,Nat.zero_le _,fun r hr=>by cases hr⟩
  ·exact h y (List.mem_of_mem_drop h1)
 generalize l.take t++[(default:Tapi_Node)]++l.drop (t+1)=L at hlen hall
 have hne:¬ (((l.length:Int)==0)=true):=by simp; intro e; rw [e] at h1; simp at h1
 rw [hlen,if_neg hne,if_pos (by omega),lkI_nat (by omega),Option.bind_some,et,if_pos rfl]
 by_cases c:((l[t].Rows.length:Int) > 0)
 ·rw [if_pos (by simpa using c),if_pos (by omega)]
  have hrow:0≤Int.tmod (zw b.Row) (l[t].Rows.length:Int)∧Int.tmod (zw b.Row) (l[t].Rows.length:Int) < l[t].Rows.length:=by
   rw [eR,Kb hR.1]
   exact ⟨Int.emod_nonneg _ (by omega),Int.emod_lt_of_pos _ (by omega)⟩
  exact Qq8 (by omega) (by omega) hl hall (by omega) hx.par hx.rows hx.row (.inr hrow) (w5:=0) (w6:=0)
 ·rw [if_neg (by simpa using c)]
  exact Qq8 (by omega) (by omega) hl hall (by omega) hx.par hx.rows hx.row (.inl rfl) (w5:=0) (w6:=0)
theorem Q0k {l:List Tapi_Node}:l=Qe l.length fun v=>(l[v]?).getD default:=by
 apply List.ext_getElem?
 intro i
 unfold Qe
 rw [List.getElem?_map]
 by_cases c:i < l.length
 ·rw [List.getElem?_eq_getElem c,List.getElem?_range c]
  simp [c]
 ·rw [List.getElem?_eq_none (by omega),List.getElem?_eq_none (by simp; omega)]; rfl
theorem Q4e {l:List Tapi_Node} {m:Nat} (hm:m≤1000000) (h:∀x∈l,Ju m x):NB l.length fun v=>(l[v]?).getD default:=by
 have key:∀v,v < l.length→Ju m ((l[v]?).getD default):=fun v hv=>by
  rw [List.getElem?_eq_getElem hv]; exact h _ (List.getElem_mem hv)
 exact ⟨fun v hv=>by have:=(key v hv).par; omega,fun v hv=>by have:=(key v hv).rows; omega,fun v hv r hr=>by have:=(key v hv).row r hr; omega⟩
end Go.Ab
