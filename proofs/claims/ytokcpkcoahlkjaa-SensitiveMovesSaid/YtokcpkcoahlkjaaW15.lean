/- Functions. No conditions. -/
import Derived.Test.YtokcpkcoahlkjaaW14
import Derived.Test.YtokcpkcoahlkjaaEng7
import Derived.Test.YtokcpkcoahlkjaaW11
import Derived.KernelRfl
set_option linter.all false
namespace Go.Ab
open Go
set_option maxRecDepth 100000
set_option maxHeartbeats 400000
def Qb {α:Type} (n:Nat) (F:Nat → α):List α:=(List.range n).map F
theorem Qj {α:Type} {n:Nat} {F:Nat → α}:(Qb n F).length=n:=by simp [Qb]
theorem Qp {α:Type} {n:Nat} {F:Nat → α} {k:Nat} (h:k < n):lkI (Qb n F) (k:Int)=some (F k):=by
 rw [Yx (by rw [Qj]; exact h)]; simp [Qb]
theorem Qh {α:Type} {n:Nat} {F G:Nat → α} (h:∀k,k < n→F k=G k):Qb n F=Qb n G:=by
 unfold Qb
 apply List.map_congr_left
 intro t ht
 exact h t (by simpa using ht)
theorem Zs {α:Type} {n:Nat} {F:Nat → α} {k:Nat} {x:α}:(Qb n F).set k x=Qb n (fun s=>if s=k then x else F s):=by
 apply List.ext_getElem?
 intro s
 rw [List.getElem?_set]
 simp only [Qb,List.getElem?_map,List.length_map,List.length_range]
 by_cases e:k=s
 ·subst e
  rw [if_pos rfl]
  by_cases hk:k < n
  ·rw [if_pos hk,List.getElem?_range hk]; simp
  ·rw [if_neg hk,List.getElem?_eq_none (by simpa using hk)]; rfl
 ·rw [if_neg e]
  by_cases hs:s < n
  ·rw [List.getElem?_range hs]; simp only [Option.map_some]; rw [if_neg (Ne.symm e)]
  ·rw [List.getElem?_eq_none (by simpa using hs)]; rfl
theorem Jr {α:Type} (n:Nat) (x:α):List.replicate n x=Qb n (fun _=>x):=by
 apply List.ext_getElem?
 intro s
 rw [List.getElem?_replicate]
 by_cases hs:s < n
 ·rw [if_pos hs]; simp [Qb,List.getElem?_range hs]
 ·rw [if_neg hs,List.getElem?_eq_none (by rw [Qj]; omega)]
theorem K9 {α:Type} {n:Nat} {F:Nat → α}:Qb n F++[F n]=Qb (n+1) F:=by
 unfold Qb; rw [List.range_succ]; simp
def Zd {α:Type} (w:Nat → α) (i:Nat) (x:α):Nat → α:=fun s=>if s=i then x else w s
theorem Xc {α:Type} {w:Nat → α} {i:Nat} {x:α}:Zd w i x i=x:=by simp [Zd]
theorem Jb {α:Type} {w:Nat → α} {i j:Nat} {x:α} (h:j≠i):Zd w i x j=w j:=by simp [Zd,h]
def Qi:Nat → (Nat → Int)→Int
 | 0,_=>0
 | n+1,f=>Qi n f+f n
theorem Z9 {n:Nat} {f g:Nat → Int} (h:∀k,k < n→f k=g k):Qi n f=Qi n g:=by
 induction n with
 | zero=>rfl
 | succ n ih=>simp only [Qi]; rw [ih (fun k hk=>h k (by omega)),h n (by omega)]
theorem Qh7 {n:Nat} {f g:Nat → Int}:Qi n (fun k=>f k+g k)=Qi n f+Qi n g:=by
 induction n with
 | zero=>rfl
 | succ n ih=>simp only [Qi,ih]; omega
theorem Qf5 {n:Nat}:Qi n (fun _=>0)=0:=by
 induction n with
 | zero=>rfl
 | succ n ih=>simp only [Qi,ih]; rfl
theorem Y0 {n:Nat} {f:Nat → Int} (h:∀k,k < n→0≤f k):0≤Qi n f:=by
 induction n with
 | zero=>exact Int.le_refl 0
 | succ n ih=>simp only [Qi]; have:=ih (fun k hk=>h k (by omega)); have:=h n (by omega); omega
theorem Qie {n k:Nat} {c:Int} (h:k < n):Qi n (fun x=>if k=x then c else 0)=c:=by
 induction n with
 | zero=>omega
 | succ n ih =>
  simp only [Qi]
  by_cases e:k=n
  ·subst e
   rw [if_pos rfl,Z9 (g:=fun _=>0) (fun x hx=>if_neg (by omega)),Qf5]; omega
  ·rw [if_neg e,ih (by omega)]; omega
theorem Qh4 {a b:Nat} {f:Nat → Int}:Qi (a+b) f=Qi a f+Qi b (fun k=>f (a+k)):=by
 induction b with
 | zero=>simp [Qi]
 | succ b ih=>rw [←Nat.add_assoc]; simp only [Qi,ih]; omega
def Qk:Nat → (Nat → Nat)→Nat
 | 0,_=>1
 | n+1,f=>Qk n f*f n
theorem J7 {n K:Nat} {f:Nat → Nat} (h:∀k,k < n→f k≤K):Qk n f≤K^n:=by
 induction n with
 | zero=>simp [Qk]
 | succ n ih=>simp only [Qk,Nat.pow_succ]; exact Nat.mul_le_mul (ih fun k hk=>h k (by omega)) (h n (by omega))
structure NF where
 n:Nat
 g:Nat
 card:Nat → Nat
 par:Nat → List Nat
 W:Nat → Nat → Nat → Nat
def lprod (f:Nat → Nat) (l:List Nat):Nat := l.foldl (fun r p=>r*f p) 1
def NF.rows (D:NF) (v:Nat):Nat := lprod D.card (D.par v)
def NF.node (D:NF) (v:Nat):Tapi_Node:=⟨D.card v,(D.par v).map (fun (p:Nat)=>(p:Int)),Qb (D.rows v) fun r=>Qb (D.card v) fun x=>(D.W v r x:Int)⟩
def NF.net (D:NF):Qc:=⟨D.g,Qb D.n D.node⟩
def Qn (n:Nat) (w:Nat → Nat):List Int:=Qb n fun j=>(w j:Int)
theorem Zr {n k:Nat} {w:Nat → Nat} (h:k < n):lkI (Qn n w) (k:Int)=some (w k:Int):=Qp h
theorem Qbh {n:Nat} {w:Nat → Nat}:(Qn n w).length=n:=Qj
structure VN (D:NF):Prop where
 n1:1≤D.n
 n8:D.n≤8
 g1:1≤D.g
 g60:D.g≤60
 card:∀v,v < D.n→1≤D.card v∧D.card v≤4
 par:∀v,v < D.n→∀p∈D.par v,p < D.n
 len:∀v,v < D.n→(D.par v).length≤8
 W:∀v r x,v < D.n→r < D.rows v→x < D.card v→D.W v r x≤D.g
 worlds:Qk D.n D.card≤1024
theorem Qcw {f:Nat → Nat} {l:List Nat} {p:Nat}:lprod f (l++[p])=lprod f l*f p:=by simp [lprod]
theorem Qe5 {f:Nat → Nat} {l:List Nat} (h:∀p∈l,f p≤4):lprod f l≤4^l.length:=by
 have key:∀(l:List Nat) (R K:Nat),R≤K→(∀p∈l,f p≤4)→l.foldl (fun r p=>r*f p) R≤K*4^l.length:=by
  intro l
  induction l with
  | nil=>intro R K h _; simpa using h
  | cons p l ih =>
   intro R K hr hp
   simp only [List.foldl_cons,List.length_cons,Nat.pow_succ]
   have:=ih (R*f p) (K*4) (Nat.mul_le_mul hr (hp p (by simp))) (fun q hq=>hp q (List.mem_cons_of_mem _ hq))
   rwa [Nat.mul_assoc,Nat.mul_comm 4] at this
 have:=key l 1 1 (by omega) h
 simpa [lprod] using this
section
variable {D:NF} (V:VN D) {w:Nat → Nat}
include V
theorem VN.rows_le {v:Nat} (hv:v < D.n):D.rows v≤65536:=by
 refine Nat.le_trans (Qe5 fun p hp=>(V.card p (V.par v hv p hp)).2) ?_
 exact Nat.pow_le_pow_right (by omega) (V.len v hv)
omit V in
theorem Jf {α:Type} {l:List α} {k:Nat} (h:k < l.length):l.take (k+1)=l.take k++[l[k]]:=by rw [List.take_add_one,List.getElem?_eq_getElem h]; rfl
theorem VN.node {v:Nat} (hv:v < D.n):lkI D.net.Nodes (v:Int)=some (D.node v):=Qp hv
end
theorem Q0p {a k:Nat} (ha:a < 18446744073709551616) (hk:k < 64) :
  zv (zb (a:Int) ||| zb (zv (1*2^min (Int.toNat (k:Int)) (IntKind.bits .u64)))).toNat = ((a ||| 2^k:Nat):Int):=by
 have hb:IntKind.bits .u64=64:=rfl
 have e0:min (Int.toNat (k:Int)) (IntKind.bits .u64)=k:=by rw [hb,Int.toNat_natCast]; omega
 have hp:2^k < 18446744073709551616:=by
  have:2^k < 2^64:=Nat.pow_lt_pow_right (by omega) hk
  exact this
 rw [e0,show (1:Int)*2^k=((2^k:Nat):Int) by simp,Qer hp]
 have e1:(zb (a:Int) ||| zb ((2^k:Nat):Int)).toNat = a ||| 2^k:=by
  rw [BitVec.toNat_or,Qjb ha,Qjb hp]
 rw [e1,Qer]
 exact Nat.or_lt_two_pow (n:=64) ha hp
theorem or_lt {a k:Nat} (ha:a < 18446744073709551616) (hk:k < 64):a ||| 2^k < 18446744073709551616 :=
 Nat.or_lt_two_pow (n:=64) ha (Nat.pow_lt_pow_right (by omega) hk)
theorem Q2n {a k j:Nat}:(a ||| 2^k).testBit j=(a.testBit j || decide (k=j)):=by
 rw [Nat.testBit_or,Nat.testBit_two_pow]
theorem Q0h {a b:Nat} (ha:a < 18446744073709551616) (hb:b < 18446744073709551616) :
  (zv (zb (a:Int) &&& ~~~ zb (b:Int)).toNat == 0)=true↔∀j,a.testBit j=true→b.testBit j=true:=by
 have h1:(zb (a:Int) &&& ~~~ zb (b:Int)).toNat < 18446744073709551616:=BitVec.isLt _
 rw [Qer h1]
 generalize hx:zb (a:Int) &&& ~~~ zb (b:Int)=x
 have hbit:∀j,j < 64→x.getLsbD j=(a.testBit j && !(b.testBit j)):=fun j hj=>by
  rw [←hx,BitVec.getLsbD_and,BitVec.getLsbD_not]
  have:(IntKind.bits .u64)=64:=rfl
  have e1:(zb (a:Int)).getLsbD j=a.testBit j:=by unfold BitVec.getLsbD; rw [Qjb ha]
  have e2:(zb (b:Int)).getLsbD j=b.testBit j:=by unfold BitVec.getLsbD; rw [Qjb hb]
  rw [e1,e2]
  simp [this,hj]
 constructor
 ·intro h j hj
  have hx0:x.toNat = 0:=by simpa using h
  have h64:j < 64:=by
   rcases Nat.lt_or_ge j 64 with h' | h'
   ·exact h'
   ·have:=Nat.testBit_lt_two_pow (i:=j) (x:=a) (Nat.lt_of_lt_of_le ha (Nat.pow_le_pow_right (n:=2) (by omega) h'))
    rw [this] at hj; cases hj
  have h2:=hbit j h64
  have h3:x.getLsbD j=false:=by unfold BitVec.getLsbD; rw [hx0]; simp
  rw [h3,hj] at h2
  simpa using h2
 ·intro h
  have:x=0#_:=by
   apply BitVec.eq_of_getLsbD_eq
   intro j hj
   have hj':j < 64:=hj
   rw [hbit j hj']
   cases ha':a.testBit j with
   | false=>simp
   | true=>rw [h j ha']; simp
  rw [this]; rfl
def KK:Int:=167961600000000
def BD (m:Nat) (z:Int):Prop:=-((m:Int)*KK)≤z∧z≤(m:Int)*KK
theorem BD.add {m p:Nat} {a b:Int} (h:BD m a) (k:BD p b):BD (m+p) (a+b):=by
 unfold BD at *
 rw [Int.natCast_add,Int.add_mul]; omega
theorem BD.zero {m:Nat}:BD m 0:=by unfold BD KK; omega
theorem BD.sum {n p:Nat} {f:Nat → Int} (h:∀k,k < n→BD p (f k)):BD (n*p) (Qi n f):=by
 induction n with
 | zero=>exact BD.zero
 | succ n ih=>simp only [Qi]; rw [Nat.succ_mul]; exact (ih fun k hk=>h k (by omega)).add (h n (by omega))
section
variable {D:NF} {E:Nat → Int}
theorem Z5 {α β:Type} {o:Option α} {a:α} {k:α→Option β} {r:Option β} (h:o=some a) (h2:k a=r):o.bind k=r:=by rw [h]; exact h2
theorem Q4p {n:Nat} {f:Nat → Nat} {l:List Nat} (hl:∀p∈l,p < n) (h8:l.length≤8):Qei (Qn n f) (l.map fun (p:Nat)=>(p:Int))=some (l.map fun p=>(f p:Int)):=by
 unfold Qei
 refine Z5 (Ze (s0:=((0:Int),([]:List Int))) (r:=l.map fun p=>(f p:Int)) (fun k=>((k:Int),(l.take k).map fun p=>(f p:Int))) l.length (by simp) (fun k hk=>?_) ?_ (by omega)) rfl
 ·unfold Qdy
  simp only
  rw [if_pos (by simpa using hk),Yx (by simpa using hk)]
  simp only [Option.bind_some,List.getElem_map]
  rw [Zr (hl _ (List.getElem_mem hk))]
  simp only [Option.bind_some]
  rw [if_pos (by simp [List.length_take]; omega),w64 (by omega),Jf hk]
  simp only [List.map_append,List.map_cons,List.map_nil]
  rfl
 ·unfold Qdy
  simp only
  rw [if_neg (by simp),List.take_of_length_le (Nat.le_refl _)]
end
structure VX (D:NF):Prop where
 vn:VN D
 sorted:∀v,v < D.n→(D.par v).Pairwise (· < ·)
 self:∀v,v < D.n→v ∉ D.par v
 rank:∃rk:Nat → Nat,∀v,v < D.n→∀p∈D.par v,rk p < rk v
 sum:∀v r,v < D.n→r < D.rows v→Qi (D.card v) (fun x=>(D.W v r x:Int))=D.g
theorem Qft:∀(a b:List Nat),a.Nodup→a ⊆ b→a.length≤b.length
 | [],_,_,_=>by simp
 | x::a,b,hn,hs=>by
  have hx:x∈b:=hs (by simp)
  rw [List.nodup_cons] at hn
  have h1:a ⊆ b.erase x:=fun y hy=>by
   have hne:y≠x:=fun e=>hn.1 (e ▸ hy)
   exact (List.mem_erase_of_ne hne).2 (hs (List.mem_cons_of_mem _ hy))
  have h2:=Qft a (b.erase x) hn.2 h1
  have h3:=List.length_erase_of_mem hx
  have h4:0 < b.length:=List.length_pos_of_mem hx
  simp only [List.length_cons]
  omega
def bitsOf (l:List Nat) (a:Nat):Nat := l.foldl (fun a p=>a ||| 2^p) a
theorem Qb6 {j:Nat}:∀(l:List Nat) (a:Nat),(bitsOf l a).testBit j=(a.testBit j || decide (j∈l))
 | [],a=>by simp [bitsOf]
 | p::l,a=>by
  have:=Qb6 (j:=j) l (a ||| 2^p)
  unfold bitsOf at this ⊢
  simp only [List.foldl_cons]
  rw [this,Q2n]
  by_cases h:p=j
  ·subst h; simp
  ·have:j≠p:=Ne.symm h
   simp [h,this]
theorem Qfz:∀(l:List Nat) (a:Nat),a < 18446744073709551616→(∀p∈l,p < 64)→bitsOf l a < 18446744073709551616
 | [],a,h,_=>h
 | p::l,a,h,hl=>Qfz l (a ||| 2^p) (or_lt h (hl p (by simp))) fun q hq=>hl q (List.mem_cons_of_mem _ hq)
theorem Qiu {l:List Nat} {p a:Nat}:bitsOf (l++[p]) a=bitsOf l a ||| 2^p:=by simp [bitsOf]
section
variable {D:NF}
theorem Qzu (X:VX D) {v r k:Nat} (hv:v < D.n) (hr:r < D.rows v) (hk:k < D.card v):Qi k (fun x=>(D.W v r x:Int))+D.W v r k≤D.g:=by
 have h1:=X.sum v r hv hr
 have h2:Qi (D.card v) (fun x=>(D.W v r x:Int))=Qi (k+1) (fun x=>(D.W v r x:Int))+Qi (D.card v - (k+1)) (fun x=>(D.W v r (k+1+x):Int)):=by
  rw [←Qh4,show k+1+(D.card v - (k+1))=D.card v by omega]
 have h3:0≤Qi (D.card v - (k+1)) (fun x=>(D.W v r (k+1+x):Int)):=Y0 fun x _=>Int.natCast_nonneg _
 simp only [Qi] at h2
 omega
theorem Qxp (X:VX D) {v:Nat} (hv:v < D.n) {sets order:List Int}:Vn ⟨D.net,Qn D.n D.card,sets,order⟩ (D.node v)=some true:=by
 have V:=X.vn
 have hl:(D.node v).Parents.length=(D.par v).length:=by simp [NF.node]
 have hlen:=V.len v hv
 have hrl:(D.node v).Rows.length=D.rows v:=by simp [NF.node,Qj]
 have hrows:=V.rows_le hv
 have hcv:=V.card v hv
 unfold Vn
 refine Z5 (Ze (s0:=((1:Int),(0:Int))) (r:=(D.rows v:Int)) (fun k=>((lprod D.card ((D.par v).take k):Int),(k:Int))) (D.par v).length (by simp [lprod]) (fun k hk=>?_) ?_ (by omega)) ?_
 ·have hp:=V.par v hv (D.par v)[k] (List.getElem_mem hk)
  have b1:lprod D.card ((D.par v).take k)≤4^8:=Nat.le_trans (Qe5 fun p hp=>(V.card p (V.par v hv p (List.mem_of_mem_take hp))).2) (Nat.pow_le_pow_right (by omega) (by rw [List.length_take]; omega))
  have b2:lprod D.card ((D.par v).take k)*D.card (D.par v)[k]≤65536*4:=Nat.mul_le_mul (by omega) (V.card _ hp).2
  unfold V7
  simp only
  rw [if_pos (by rw [hl]; simpa using hk),Yx (by rw [hl]; exact hk)]
  have e0:(D.node v).Parents[k]'(by rw [hl]; exact hk)=(((D.par v)[k]:Nat):Int):=by simp [NF.node]
  simp only [Option.bind_some,e0]
  rw [Zr hp]
  simp only [Option.bind_some]
  have e1:(lprod D.card ((D.par v).take k):Int)*(D.card (D.par v)[k]:Int)=((lprod D.card ((D.par v).take (k+1)):Nat):Int):=by rw [Jf hk,Qcw]; simp
  have e2:lprod D.card ((D.par v).take (k+1))≤65536*4:=by rw [Jf hk,Qcw]; exact b2
  rw [e1,w64 (by omega),w64 (by omega)]
  rfl
 ·unfold V7
  simp only
  rw [if_neg (by rw [hl]; simp),List.take_of_length_le (Nat.le_refl _)]
  rfl
 ·rw [if_neg (by rw [hrl]; simp)]
  refine Z5 (Ze (s0:=(0:Int)) (r:=Sum.inr ()) (fun r=>(r:Int)) (D.rows v) rfl (fun r hr=>?_) ?_ (by omega)) rfl
  ·unfold V6
   simp only
   rw [if_pos (by rw [hrl]; simpa using hr),show lkI (D.node v).Rows (r:Int)=some (Qb (D.card v) fun x=>(D.W v r x:Int)) from Qp hr]
   simp only [Option.bind_some]
   have hin:Qd fuel (Yq (Qb (D.card v) fun x=>(D.W v r x:Int))) ((D.g:Int),(0:Int))=some (Sum.inr 0):=by
    refine Ze (fun k=>((D.g:Int) - Qi k (fun x=>(D.W v r x:Int)),(k:Int))) (D.card v) _ (by simp [Qi]) (fun k hk=>?_) ?_ (by omega)
    ·have h1:=Qzu X hv hr hk
     have h2:0≤Qi k (fun x=>(D.W v r x:Int)):=Y0 fun x _=>Int.natCast_nonneg _
     have hg:=V.g60
     unfold Yq
     simp only
     rw [if_pos (by rw [Qj]; simpa using hk),Qp hk]
     simp only [Option.bind_some]
     rw [if_neg (by simp),if_neg (by simp; omega),w64 (by omega),w64 (by omega)]
     simp only [Qi]
     congr 3
     omega
    ·unfold Yq
     simp only
     rw [if_neg (by rw [Qj]; simp),X.sum v r hv hr,Int.sub_self]
   rw [show (D.net.Grain:Int)=(D.g:Int) from rfl,hin]
   simp only [Option.bind_some]
   rw [if_neg (by rw [Qj]; simp [NF.node]),if_neg (by simp),w64 (by omega)]
   rfl
  ·unfold V6
   simp only
   rw [if_neg (by rw [hrl]; simp)]
def setN (D:NF) (v:Nat):Nat := bitsOf (D.par v) 0
theorem Qub (V:VN D) {v:Nat} (hv:v < D.n):setN D v < 18446744073709551616:=Qfz _ _ (by omega) fun p hp=>by have:=V.par v hv p hp; have:=V.n8; omega
theorem Qru {v j:Nat}:(setN D v).testBit j=decide (j∈D.par v):=by unfold setN; rw [Qb6]; simp
theorem Qx6 (X:VX D):∃order,Qca (Qn D.n (setN D))=some (order,true):=by
 have V:=X.vn
 have hn:=V.n8
 obtain ⟨rk,hrk⟩:=X.rank
 have hlen:(Qn D.n (setN D)).length=D.n:=Qbh
 let I:Int × List Int→Prop:=fun s=>∃(l:List Nat),l.Nodup∧(∀p∈l,p < D.n)∧s=((bitsOf l 0:Int),l.map fun (p:Nat)=>(p:Int))
 have hw:=Vb (body:=Kz (Qn D.n (setN D))) I (fun s=>D.n - s.2.length) (fun r=>∃o,r=Sum.inr o) (fun s hs=>?_) ((0:Int),List.replicate (Int.toNat 0) (0:Int)) ⟨[],List.nodup_nil,fun p hp=>by simp at hp,rfl⟩ (by simp; omega)
 ·obtain ⟨r,h1,o,rfl⟩:=hw
  refine ⟨o,?_⟩
  unfold Qca
  rw [if_pos (by rw [hlen]; omega),h1]
  rfl
 ·obtain ⟨l,hnd,hl,rfl⟩:=hs
  have hll:l.length≤D.n:=by
   have h1:l ⊆ List.range D.n:=fun p hp=>List.mem_range.2 (hl p hp)
   have:=Qft l (List.range D.n) hnd h1
   simpa using this
  have hdl:bitsOf l 0 < 18446744073709551616:=Qfz _ _ (by omega) fun p hp=>by have:=hl p hp; omega
  by_cases hc:l.length < D.n
  ·
   have hex:∃v,v < D.n∧v ∉ l:=by
    apply Classical.byContradiction
    intro hno
    have h1:List.range D.n ⊆ l:=fun p hp=>by
     apply Classical.byContradiction
     intro hp'
     exact hno ⟨p,List.mem_range.1 hp,hp'⟩
    have:=Qft (List.range D.n) l List.nodup_range h1
    simp at this
    omega
   have hmin:∃v,v < D.n∧v ∉ l∧∀u,u < D.n→u ∉ l→rk v≤rk u:=by
    obtain ⟨v0,h1,h2⟩:=hex
    have:∀(k:Nat) (v:Nat),rk v≤k→v < D.n→v ∉ l→∃v,v < D.n∧v ∉ l∧∀u,u < D.n→u ∉ l→rk v≤rk u:=by
     intro k
     induction k with
     | zero=>intro v hk h1 h2; exact ⟨v,h1,h2,fun u _ _=>by omega⟩
     | succ k ih =>
      intro v hk h1 h2
      by_cases hall:∀u,u < D.n→u ∉ l→rk v≤rk u
      ·exact ⟨v,h1,h2,hall⟩
      ·have:∃u,u < D.n∧u ∉ l∧rk u < rk v:=by
        apply Classical.byContradiction
        intro hno
        exact hall fun u hu hul=>by
         apply Classical.byContradiction
         intro hlt
         exact hno ⟨u,hu,hul,by omega⟩
       obtain ⟨u,hu,hul,hlt⟩:=this
       exact ih u (by omega) hu hul
    exact this (rk v0) v0 (Nat.le_refl _) h1 h2
   obtain ⟨v1,hv1,hv1l,hv1m⟩:=hmin
   have hready:∀p∈D.par v1,p∈l:=fun p hp=>by
    apply Classical.byContradiction
    intro hpl
    have h1:=hv1m p (V.par v1 hv1 p hp) hpl
    have h2:=hrk v1 hv1 p hp
    omega
   left
   have hs2:=Vb (body:=Qcg (Qn D.n (setN D)) ((bitsOf l 0:Int),l.map fun (p:Nat)=>(p:Int))) (fun s=>∃k:Nat,k≤v1∧s=(k:Int)) (fun s=>D.n - s.toNat)
    (fun r=>∃v,v < D.n∧v ∉ l∧r=Sum.inl (((bitsOf l 0 ||| 2^v:Nat):Int),(l.map fun (p:Nat)=>(p:Int))++[(v:Int)])) (fun s hs=>?_) (0:Int) ⟨0,by omega,rfl⟩ (by simp; omega)
   ·obtain ⟨r,h1,v,hv,hvl,rfl⟩:=hs2
    refine ⟨(((bitsOf l 0 ||| 2^v:Nat):Int),(l.map fun (p:Nat)=>(p:Int))++[(v:Int)]),?_,⟨l++[v],?_,?_,?_⟩,by simp; omega⟩
    ·unfold Kz
     simp only
     rw [if_pos (by rw [hlen]; simp; omega),h1]
     rfl
    ·rw [List.nodup_append]
     exact ⟨hnd,by simp,fun a ha b hb=>by simp at hb; subst hb; exact fun e=>hvl (e ▸ ha)⟩
    ·intro p hp
     rcases List.mem_append.1 hp with h | h
     ·exact hl p h
     ·simp at h; subst h; exact hv
    ·rw [Qiu]; simp
   ·obtain ⟨k,hk,rfl⟩:=hs
    have hkn:k < D.n:=by omega
    have ek:zw ((k:Int)+1)=((k+1:Nat):Int):=by rw [w64 (by omega)]; omega
    have hbk:(bitsOf l 0).testBit k=decide (k∈l):=by rw [Qb6]; simp
    unfold Qcg
    simp only
    rw [if_pos (by rw [hlen]; simpa using hkn),Zr hkn]
    simp only [Option.bind_some]
    rw [if_pos (by omega),Q4s hdl (by omega),hbk]
    by_cases hkl:k∈l
    ·left
     rw [if_neg (by simp [hkl]),ek]
     have hne:k≠v1:=fun e=>hv1l (e ▸ hkl)
     exact ⟨_,rfl,⟨k+1,by omega,rfl⟩,by simp; omega⟩
    ·rw [if_pos (by simp [hkl])]
     by_cases hsub:∀p∈D.par k,p∈l
     ·right
      rw [if_pos ((Q0h (Qub V hkn) hdl).2 fun j hj=>by
       rw [Qru] at hj
       rw [Qb6]
       simp at hj ⊢
       exact hsub j hj),if_pos (by simp; omega),if_pos (by omega),Q0p hdl (by omega)]
      exact ⟨_,rfl,k,hkn,hkl,rfl⟩
     ·left
      have hne:k≠v1:=fun e=>by subst e; exact hsub hready
      rw [if_neg (fun hc'=>hsub fun p hp=>by
       have:=(Q0h (Qub V hkn) hdl).1 hc' p (by rw [Qru]; simpa using hp)
       rw [Qb6] at this
       simpa using this),ek]
      exact ⟨_,rfl,⟨k+1,by omega,rfl⟩,by simp; omega⟩
  ·right
   refine ⟨Sum.inr (l.map fun (p:Nat)=>(p:Int)),?_,_,rfl⟩
   unfold Kz
   simp only
   rw [if_neg (by rw [hlen]; simp; omega)]
theorem Qoh (X:VX D):∃order,Qak D.net=some (⟨D.net,Qn D.n D.card,Qn D.n (setN D),order⟩,0):=by
 have V:=X.vn
 have hn:=V.n8
 have hn1:=V.n1
 have hg:=V.g60
 have hg1:=V.g1
 have hlen:D.net.Nodes.length=D.n:=Qj
 have hG:D.net.Grain=(D.g:Int):=rfl
 obtain ⟨order,hord⟩:=Qx6 X
 refine ⟨order,?_⟩
 unfold Qak
 rw [hlen,hG,if_neg (by simp; omega),if_neg (by simp; omega),if_neg (by simp; omega),if_neg (by simp; omega),if_pos (by omega),if_pos (by omega),Int.toNat_natCast,Jr]
 have h0:Qd fuel (Qa5 D.net) ((1:Int),(0:Int),Qb D.n fun _=>(0:Int))=some (Sum.inr ((Qk D.n D.card:Int),Qn D.n D.card)):=by
  refine Ze (fun k=>((Qk k D.card:Int),(k:Int),Qb D.n fun j=>if j < k then (D.card j:Int) else 0)) D.n _ (by simp [Qk]) (fun k hk=>?_) ?_ (by omega)
  ·have b1:Qk k D.card≤4^k:=J7 fun j hj=>(V.card j (by omega)).2
   have b2:(4:Nat)^k≤4^8:=Nat.pow_le_pow_right (by omega) (by omega)
   have b3:Qk k D.card*D.card k≤65536*4:=Nat.mul_le_mul (by omega) (V.card k hk).2
   have hc:=V.card k hk
   have e1:(Qk k D.card:Int)*(D.node k).Card=((Qk (k+1) D.card:Nat):Int):=by simp [Qk,NF.node]
   unfold Qa5
   simp only
   rw [if_pos (by rw [hlen]; simpa using hk),V.node hk]
   simp only [Option.bind_some]
   have hc1:¬ (decide ((D.node k).Card < 1)=true):=by rw [decide_eq_true_eq]; show ¬ ((D.card k:Int) < 1); omega
   have hc2:¬ (decide ((D.node k).Card > 4)=true):=by rw [decide_eq_true_eq]; show ¬ ((D.card k:Int) > 4); omega
   rw [if_neg hc1,if_neg hc2,Qp hk]
   simp only [Option.bind_some]
   have w1:zw ((Qk (k+1) D.card:Nat):Int)=((Qk (k+1) D.card:Nat):Int):=w64 (by simp only [Qk]; omega)
   rw [e1,w1,w64 (by omega),Int.toNat_natCast,Zs]
   congr 4
   refine Qh fun j hj=>?_
   by_cases e:j=k
   ·subst e; simp [NF.node]
   ·rw [if_neg e]
    by_cases e2:j < k
    ·rw [if_pos e2,if_pos (by omega)]
    ·rw [if_neg e2,if_neg (by omega)]
  ·unfold Qa5
   simp only
   rw [if_neg (by rw [hlen]; simp)]
   congr 4
   exact Qh fun j hj=>if_pos hj
 rw [h0]
 simp only [Option.bind_some]
 have hwd:=V.worlds
 rw [if_neg (by simp; omega)]
 have h2:Qd fuel (Qa4 D.net ((Qk D.n D.card:Int),Qn D.n D.card)) ((0:Int),Qb D.n fun _=>(0:Int))=some (Sum.inr (Qn D.n (setN D))):=by
  refine Ze (fun v=>((v:Int),Qb D.n fun j=>if j < v then (setN D j:Int) else 0)) D.n _ (by simp) (fun v hv=>?_) ?_ (by omega)
  ·have hl:(D.node v).Parents.length=(D.par v).length:=by simp [NF.node]
   have hplen:=V.len v hv
   have h1:Qd fuel (Qbc (D.node v) D.net ((v:Int),Qb D.n fun j=>if j < v then (setN D j:Int) else 0)) ((-1:Int),(0:Int),Qb D.n fun j=>if j < v then (setN D j:Int) else 0) =
     some (Sum.inr (Qb D.n fun j=>if j < v+1 then (setN D j:Int) else 0)):=by
    refine Ze (fun k=>((if k=0 then (-1:Int) else (((D.par v).getD (k - 1) 0:Nat):Int)),(k:Int),Qb D.n fun j=>if j < v then (setN D j:Int) else if j=v then (bitsOf ((D.par v).take k) 0:Int) else 0)) (D.par v).length _ ?_ (fun k hk=>?_) ?_ (by omega)
    ·simp only [if_true,List.take_zero]
     congr 2
     refine Qh fun j _=>?_
     by_cases e:j < v
     ·rw [if_pos e,if_pos e]
     ·rw [if_neg e,if_neg e]; simp [bitsOf]
    ·have hp:=V.par v hv (D.par v)[k] (List.getElem_mem hk)
     have hgt:(if k=0 then (-1:Int) else (((D.par v).getD (k - 1) 0:Nat):Int)) < (((D.par v)[k]:Nat):Int):=by
      by_cases h0:k=0
      ·rw [if_pos h0]; omega
      ·rw [if_neg h0]
       have hk1:k - 1 < (D.par v).length:=by omega
       have:=List.pairwise_iff_getElem.1 (X.sorted v hv) (k - 1) k hk1 hk (by omega)
       have e:(D.par v).getD (k - 1) 0=(D.par v)[k - 1]:=by simp [List.getD,hk1]
       rw [e]; omega
     have hself:(D.par v)[k]≠v:=fun e=>X.self v hv (by have:=List.getElem_mem hk; rwa [e] at this)
     have hbl:bitsOf ((D.par v).take k) 0 < 18446744073709551616:=Qfz _ _ (by omega) fun p hp=>by have:=V.par v hv p (List.mem_of_mem_take hp); omega
     unfold Qbc
     simp only
     rw [if_pos (by rw [hl]; simpa using hk),Yx (by rw [hl]; exact hk)]
     have e0:(D.node v).Parents[k]'(by rw [hl]; exact hk)=(((D.par v)[k]:Nat):Int):=by simp [NF.node]
     simp only [Option.bind_some,e0]
     rw [if_neg (by rw [decide_eq_true_eq]; exact Int.not_le.2 hgt),if_neg (by rw [hlen]; simp; omega),if_neg (by simp; omega),Qp hv]
     simp only [Option.bind_some,Nat.lt_irrefl,if_false,if_true]
     rw [if_pos (by omega),Q0p hbl (by omega),w64 (by omega),Int.toNat_natCast,Zs,Jf hk,Qiu]
     have e2:(D.par v).getD (k+1 - 1) 0=(D.par v)[k]:=by simp [List.getD,hk]
     rw [if_neg (by omega),e2]
     congr 4
     refine Qh fun j _=>?_
     by_cases e:j=v
     ·subst e; simp
     ·rw [if_neg e,if_neg e,if_neg e]
    ·unfold Qbc
     simp only
     rw [if_neg (by rw [hl]; simp),List.take_of_length_le (Nat.le_refl _)]
     congr 3
     refine Qh fun j _=>?_
     by_cases e:j < v
     ·rw [if_pos e,if_pos (by omega)]
     ·rw [if_neg e]
      by_cases e2:j=v
      ·subst e2; rw [if_pos rfl,if_pos (by omega)]; rfl
      ·rw [if_neg e2,if_neg (by omega)]
   unfold Qa4
   simp only
   rw [if_pos (by rw [hlen]; simpa using hv),V.node hv]
   simp only [Option.bind_some]
   rw [h1]
   simp only [Option.bind_some]
   rw [Qxp X hv]
   simp only [Option.bind_some]
   rw [if_neg (by simp),w64 (by omega)]
   rfl
  ·unfold Qa4
   simp only
   rw [if_neg (by rw [hlen]; simp)]
   congr 3
   exact Qh fun j hj=>if_pos hj
 rw [h2]
 simp only [Option.bind_some]
 rw [hord]
 rfl
end
theorem Qwm {n:Nat} {f:Nat → Nat}:∃s:Nat,Qi n (fun x=>(f x:Int))=(s:Int):=by
 obtain ⟨s,hs⟩:=Int.eq_ofNat_of_zero_le (Y0 (n:=n) (f:=fun x=>(f x:Int)) fun _ _=>Int.natCast_nonneg _)
 exact ⟨s,hs⟩
theorem Qdk {n k:Nat} {f:Nat → Int} (h:∀j,j < n→0≤f j) (hk:k≤n):Qi k f≤Qi n f:=by
 obtain ⟨m,rfl⟩:=Nat.exists_eq_add_of_le hk
 rw [Qh4]
 have:=Y0 (n:=m) (f:=fun x=>f (k+x)) fun j hj=>h _ (by omega)
 omega
theorem Qmy {g S:Nat} (hS:0 < S):∀(n:Nat) (o:Nat → Nat),Qi n (fun x=>((g*o x / S:Nat):Int))*S≤g*Qi n (fun x=>(o x:Int))
 | 0,_=>by simp [Qi]
 | n+1,o=>by
  have ih:=Qmy (g:=g) hS n o
  have h1:g*o n / S*S≤g*o n:=Nat.div_mul_le_self _ _
  have h2:(((g*o n / S:Nat):Int))*(S:Int)≤(g:Int)*(o n:Int):=by exact_mod_cast h1
  simp only [Qi]
  rw [Int.add_mul,Int.mul_add]
  exact Int.add_le_add ih h2
theorem Qy9 {g c:Nat} {l:List Int} {fr:Nat} (hg:g≤60) (hc:1≤c) (hc4:c≤4) (hl:∀x∈l,0≤x∧x≤255) (hll:l.length≤9223372036854775807) (hfr:fr≤100000) :
  ∃f:Nat → Nat,Qay (g:Int) (c:Int) l (fr:Int)=some (Qb c fun x=>(f x:Int))∧Qi c (fun x=>(f x:Int))=g:=by
 have hb0:∃o:Nat → Nat,(∀j,o j < 8)∧Qd fuel (Vu (c:Int) l (fr:Int)) ((0:Int),(0:Int),Qb c fun _=>(0:Int))=some (Qi c (fun x=>(o x:Int)),Qb c fun x=>(o x:Int)):=by
  by_cases h0:l.length=0
  ·refine ⟨fun _=>0,fun _=>Nat.zero_lt_succ _,?_⟩
   have hz:∀k,Qi k (fun _=>((0:Nat):Int))=0:=fun k=>Qf5
   refine Ze (fun k=>((0:Int),(k:Int),Qb c fun _=>(0:Int))) c _ rfl (fun k hk=>?_) ?_ (by omega)
   ·unfold Vu
    simp only
    rw [if_pos (by simpa using hk),if_neg (by simp [h0]),Qp hk]
    simp only [Option.bind_some]
    rw [w64 (by omega),w64 (by omega)]
    rfl
   ·unfold Vu
    simp only
    rw [if_neg (by simp),hz]
    rfl
  ·have hpos:0 < l.length:=by omega
   let o:Nat → Nat := fun k=>((l[(fr+k) % l.length]'(Nat.mod_lt _ hpos)).toNat) % 8
   refine ⟨o,fun j=>Nat.mod_lt _ (by omega),?_⟩
   refine Ze (fun k=>(Qi k (fun x=>(o x:Int)),(k:Int),Qb c fun j=>if j < k then (o j:Int) else 0)) c _ (by simp [Qi]) (fun k hk=>?_) ?_ (by omega)
   ·have hx:=hl _ (List.getElem_mem (Nat.mod_lt (fr+k) hpos))
    have ho:o k=((l[(fr+k) % l.length]'(Nat.mod_lt _ hpos)).toNat) % 8:=rfl
    have hs:Qi k (fun x=>(o x:Int))≤8*k:=by
     have:∀k,Qi k (fun x=>(o x:Int))≤8*k:=by
      intro k
      induction k with
      | zero=>simp [Qi]
      | succ k ih=>simp only [Qi]; have:o k < 8:=Nat.mod_lt _ (by omega); omega
     exact this k
    have hs0:0≤Qi k (fun x=>(o x:Int)):=Y0 fun _ _=>Int.natCast_nonneg _
    have e1:Int.tmod (zw ((fr:Int)+(k:Int))) (l.length:Int)=(((fr+k) % l.length:Nat):Int):=by
     rw [w64 (by omega),Jx (by omega)]; simp
    unfold Vu
    simp only
    rw [if_pos (by simpa using hk),if_pos (by simp; omega),if_pos (by omega),e1,Yx (Nat.mod_lt _ hpos)]
    simp only [Option.bind_some]
    rw [Qp hk]
    simp only [Option.bind_some]
    have e2:Int.tmod (l[(fr+k) % l.length]'(Nat.mod_lt _ hpos)) 8=(o k:Int):=by rw [Jx hx.1,ho]; omega
    have ho8:o k < 8:=Nat.mod_lt _ (by omega)
    rw [e2]
    have w1:zw (o k:Int)=(o k:Int):=w64 (by omega)
    rw [w1,w64 (by omega),w64 (by omega),Int.toNat_natCast,Zs]
    simp only [Qi]
    congr 4
    refine Qh fun j hj=>?_
    by_cases e:j=k
    ·subst e; simp
    ·rw [if_neg e]
     by_cases e2:j < k
     ·rw [if_pos e2,if_pos (by omega)]
     ·rw [if_neg e2,if_neg (by omega)]
   ·unfold Vu
    simp only
    rw [if_neg (by simp)]
    congr 3
    exact Qh fun j hj=>if_pos hj
 obtain ⟨o,ho,h0⟩:=hb0
 obtain ⟨S,hS⟩:=Qwm (n:=c) (f:=o)
 let q:Nat → Nat := fun x=>g*o x / S
 have hq:∀x,o x=0→q x=0:=fun x h=>by show g*o x / S=0; rw [h]; simp
 have hSb:S≤32:=by
  have:∀k,Qi k (fun x=>(o x:Int))≤8*k:=by
   intro k
   induction k with
   | zero=>simp [Qi]
   | succ k ih=>simp only [Qi]; have:=ho k; omega
  have:=this c
  omega
 have hpart:∀k,k≤c→0≤Qi k (fun x=>(q x:Int))∧Qi k (fun x=>(q x:Int))≤g:=fun k hk=>by
  refine ⟨Y0 fun _ _=>Int.natCast_nonneg _,Int.le_trans (Qdk (fun _ _=>Int.natCast_nonneg _) hk) ?_⟩
  by_cases h:S=0
  ·have:∀x,q x=0:=fun x=>by show g*o x / S=0; rw [h]; simp
   rw [Z9 (g:=fun _=>0) (fun x _=>by rw [this]; rfl),Qf5]; omega
  ·have h1:=Qmy (g:=g) (S:=S) (by omega) c o
   rw [hS] at h1
   have h2:Qi c (fun x=>(q x:Int))*(S:Int)≤(g:Int)*(S:Int):=h1
   exact Int.le_of_mul_le_mul_right h2 (by omega)
 have hb1:=Vb (body:=Qc9 (c:Int) (Qi c (fun x=>(o x:Int)),Qb c fun x=>(o x:Int)) (g:Int))
  (fun s=>∃k last:Nat,k≤c∧last < c∧s=((g:Int) - Qi k (fun x=>(q x:Int)),(last:Int),(k:Int),Qb c fun j=>if j < k then (q j:Int) else (o j:Int)))
  (fun s=>c - s.2.2.1.toNat)
  (fun r=>∃last:Nat,last < c∧r=((g:Int) - Qi c (fun x=>(q x:Int)),(last:Int),Qb c fun j=>(q j:Int)))
  (fun s hs=>?_) ((g:Int),(0:Int),(0:Int),Qb c fun x=>(o x:Int)) ⟨0,0,by omega,by omega,by simp [Qi]⟩ (by simp; omega)
 ·obtain ⟨r,h1,last,hlast,rfl⟩:=hb1
  have hp:=hpart c (Nat.le_refl _)
  obtain ⟨left,hleft⟩:=Int.eq_ofNat_of_zero_le (show 0≤(g:Int) - Qi c (fun x=>(q x:Int)) by omega)
  refine ⟨fun x=>q x+if last=x then left else 0,?_,?_⟩
  ·unfold Qay
   rw [if_pos (by omega),Int.toNat_natCast,Jr,h0]
   simp only [Option.bind_some]
   rw [h1]
   simp only [Option.bind_some]
   rw [Qp hlast]
   simp only [Option.bind_some]
   have hql:(q last:Int)≤g:=by
    have e:=Qdk (n:=c) (k:=last+1) (f:=fun x=>(q x:Int)) (fun _ _=>Int.natCast_nonneg _) (by omega)
    have e2:=(hpart last (by omega)).1
    simp only [Qi] at e
    omega
   rw [hleft,w64 (by omega),Int.toNat_natCast,Zs]
   congr 1
   refine Qh fun x hx=>?_
   by_cases e:x=last
   ·subst e; simp
   ·rw [if_neg e,if_neg (Ne.symm e)]; simp
  ·have e:(fun x=>((q x+if last=x then left else 0:Nat):Int))=fun x=>(q x:Int)+if last=x then (left:Int) else 0:=by
    funext x; split <;> simp
   rw [e,Qh7,Qie hlast]
   have:(left:Int)=(g:Int) - Qi c (fun x=>(q x:Int)):=hleft.symm
   omega
 ·obtain ⟨k,last,hk,hlast,rfl⟩:=hs
  unfold Qc9
  simp only
  by_cases hkc:k < c
  ·left
   have hp1:=hpart k hk
   have hp2:=hpart (k+1) hkc
   have e1:Qi (k+1) (fun x=>(q x:Int))=Qi k (fun x=>(q x:Int))+(q k:Int):=rfl
   rw [if_pos (by simpa using hkc),Qp hkc]
   simp only [Option.bind_some,Nat.lt_irrefl,if_false]
   have ek:zw ((k:Int)+1)=((k+1:Nat):Int):=by rw [w64 (by omega)]; omega
   by_cases ho0:o k=0
   ·rw [if_neg (by simp [ho0]),ek,ho0,w64 (by omega)]
    refine ⟨_,rfl,⟨k+1,last,hkc,hlast,?_⟩,by simp; omega⟩
    rw [e1,hq k ho0]
    congr 1
    ·simp
    ·congr 2
     refine Qh fun j hj=>?_
     by_cases e:j=k
     ·subst e; simp [ho0,hq]
     ·by_cases e2:j < k
      ·rw [if_pos e2,if_pos (by omega)]
      ·rw [if_neg e2,if_neg (by omega)]
   ·have hSpos:S≠0:=by
     intro h
     have:=Qdk (n:=c) (k:=k+1) (f:=fun x=>(o x:Int)) (fun _ _=>Int.natCast_nonneg _) hkc
     have h2:0≤Qi k (fun x=>(o x:Int)):=Y0 fun _ _=>Int.natCast_nonneg _
     simp only [Qi] at this
     omega
    have hok:=ho k
    have hm:g*o k≤60*8:=Nat.mul_le_mul hg (by omega)
    have e2:zw (Int.tdiv (zw ((g:Int)*(o k:Int))) (Qi c (fun x=>(o x:Int))))=(q k:Int):=by
     have e3:(g:Int)*(o k:Int)=((g*o k:Nat):Int):=by simp
     have hd:g*o k / S≤g*o k:=Nat.div_le_self _ _
     have w1:zw ((g*o k:Nat):Int)=((g*o k:Nat):Int):=w64 (by omega)
     rw [e3,w1,hS,Qly (Int.natCast_nonneg _),show ((g*o k:Nat):Int) / (S:Int)=((g*o k / S:Nat):Int) by simp]
     show zw ((g*o k / S:Nat):Int)=((g*o k / S:Nat):Int)
     obtain ⟨z,hz⟩:∃z,g*o k / S=z:=⟨_,rfl⟩
     rw [hz] at hd ⊢
     exact w64 (by omega)
    rw [if_pos (by simp; omega),if_pos (by rw [hS]; omega),e2,ek,Int.toNat_natCast,Zs,w64 (by omega)]
    refine ⟨_,rfl,⟨k+1,k,hkc,hkc,?_⟩,by simp; omega⟩
    rw [e1]
    congr 1
    ·omega
    ·congr 2
     refine Qh fun j hj=>?_
     by_cases e:j=k
     ·subst e; simp
     ·rw [if_neg e]
      by_cases e2:j < k
      ·rw [if_pos e2,if_pos (by omega)]
      ·rw [if_neg e2,if_neg (by omega)]
  ·right
   have:k=c:=by omega
   subst this
   rw [if_neg (by simp)]
   refine ⟨_,rfl,last,hlast,?_⟩
   congr 2
   exact Qh fun j hj=>if_pos hj
theorem Q2c {n:Nat} (hn:n≤5) {w:Int} {o:List Int}:V3 ⟨List.replicate n (0:Int),w,o⟩=some (List.replicate n 1):=by
 unfold V3
 refine Z5 (Ze (s0:=((0:Int),([]:List Int))) (r:=List.replicate n 1) (fun k=>((k:Int),List.replicate k (1:Int))) n rfl (fun k hk=>?_) ?_ (by omega)) rfl
 ·unfold Ju
  simp only
  rw [if_pos (by simp; omega),if_pos (by simp; omega),Yx (by simpa using hk)]
  simp only [Option.bind_some,List.getElem_replicate]
  have e:zw (1+zw (Int.tmod 0 4))=1:=by decide
  rw [e,if_pos (by simp; omega),w64 (by omega),←List.replicate_succ']
  rfl
 ·unfold Ju
  simp only
  rw [if_neg (by simp)]
theorem Qsv {q:List Nat} {k a:Nat} (h:q.Nodup) (hk:∀x∈q,x < k):(q.take a++[k]++q.drop a).Nodup∧∀x∈q.take a++[k]++q.drop a,x < k+1:=by
 have hperm:(q.take a++[k]++q.drop a).Perm (k::q):=by
  have h1:(q.take a++[k]++q.drop a).Perm ([k]++q.take a++q.drop a):=List.Perm.append_right _ List.perm_append_comm
  have h2:[k]++q.take a++q.drop a=k::q:=by simp
  rw [h2] at h1
  exact h1
 refine ⟨?_,fun x hx=>?_⟩
 ·rw [hperm.nodup_iff,List.nodup_cons]
  exact ⟨fun hm=>Nat.lt_irrefl _ (hk k hm),h⟩
 ·have:=hperm.mem_iff.1 hx
  rcases List.mem_cons.1 this with e | e
  ·omega
  ·have:=hk x e; omega
theorem Qvo {n:Nat} (hn:n≤5) {o:List Int} (ho:∀x∈o,0≤x∧x≤255) :
  ∃q:List Nat,q.Nodup∧(∀x∈q,x < n)∧q.length=n∧X6 ⟨List.replicate n (0:Int),0,o⟩=some (q.map fun (x:Nat)=>(x:Int)):=by
 have hw:=Vb (body:=Yu ⟨List.replicate n (0:Int),0,o⟩) (fun s=>∃q:List Nat,q.Nodup∧(∀x∈q,x < q.length)∧q.length≤n∧s=((q.length:Int),q.map fun (x:Nat)=>(x:Int)))
  (fun s=>n - s.1.toNat) (fun r=>∃q:List Nat,q.Nodup∧(∀x∈q,x < n)∧q.length=n∧r=q.map fun (x:Nat)=>(x:Int)) (fun s hs=>?_) ((0:Int),([]:List Int)) ⟨[],List.nodup_nil,fun x hx=>by simp at hx,by simp,rfl⟩ (by simp; omega)
 ·obtain ⟨r,h1,q,h2,h3,h4,rfl⟩:=hw
  refine ⟨q,h2,h3,h4,?_⟩
  unfold X6
  rw [h1]; rfl
 ·obtain ⟨q,hnd,hx,hl,rfl⟩:=hs
  unfold Yu
  rw [Q2c hn]
  simp only [Option.bind_some,List.length_replicate,List.length_map]
  by_cases hc:q.length < n
  ·left
   rw [if_pos (by simpa using hc)]
   have ek:zw ((q.length:Int)+1)=((q.length+1:Nat):Int):=by rw [w64 (by omega)]; omega
   have ins:∀a:Nat,a≤q.length→∃s',s'=((((q.take a++[q.length]++q.drop a).length:Nat):Int),(q.take a++[q.length]++q.drop a).map fun (x:Nat)=>(x:Int)) ∧
     (∃q:List Nat,q.Nodup∧(∀x∈q,x < q.length)∧q.length≤n∧s'=((q.length:Int),q.map fun (x:Nat)=>(x:Int)))∧n - s'.1.toNat < n - ((q.length:Int)).toNat := fun a ha=>by
    obtain ⟨i1,i2⟩:=Qsv (a:=a) hnd hx
    have hlen:(q.take a++[q.length]++q.drop a).length=q.length+1:=by simp; omega
    exact ⟨_,rfl,⟨_,i1,fun x hx=>by rw [hlen]; exact i2 x hx,by rw [hlen]; omega,rfl⟩,by simp only [hlen]; simp; omega⟩
   have hsub:∀a:Nat,a≤q.length→sub (q.map fun (x:Nat)=>(x:Int)) 0 (a:Int)=(q.take a).map (fun (x:Nat)=>(x:Int))∧sub (q.map fun (x:Nat)=>(x:Int)) (a:Int) (q.length:Int)=(q.drop a).map (fun (x:Nat)=>(x:Int)):=fun a ha=>by
    unfold sub
    refine ⟨by simp,?_⟩
    simp only [Int.toNat_natCast]
    rw [List.take_of_length_le (by simp),List.map_drop]
   by_cases ho':q.length < o.length
   ·rw [if_pos (by simpa using ho'),Yx ho']
    simp only [Option.bind_some]
    have hv:=ho _ (List.getElem_mem ho')
    obtain ⟨a,ha,hae⟩:∃a:Nat,a≤q.length∧Int.tmod (zw o[q.length]) ((q.length+1:Nat):Int)=(a:Int):=by
     refine ⟨(o[q.length]).toNat % (q.length+1),by have:=Nat.mod_lt (o[q.length]).toNat (show 0 < q.length+1 by omega); omega,?_⟩
     rw [w64 (by omega),Jx hv.1]
     rw [Int.natCast_emod,Int.toNat_of_nonneg hv.1]
    obtain ⟨s',hs',h1,h2⟩:=ins a ha
    refine ⟨s',?_,h1,by simpa using h2⟩
    rw [ek,if_pos (by omega),hae,if_pos (by omega),(hsub a ha).1,if_pos (by simp; omega),if_pos (by simp; omega),if_pos (by omega),(hsub a ha).2,if_pos (by simp; omega),hs']
    simp
    omega
   ·rw [if_neg (by simpa using ho')]
    obtain ⟨s',hs',h1,h2⟩:=ins 0 (by omega)
    refine ⟨s',?_,h1,by simpa using h2⟩
    have hz:=hsub 0 (by omega)
    rw [ek,if_pos (by omega),show sub (q.map fun (x:Nat)=>(x:Int)) 0 0=(q.take 0).map (fun (x:Nat)=>(x:Int)) from hz.1,if_pos (by simp),if_pos (by simp),if_pos (by omega),show sub (q.map fun (x:Nat)=>(x:Int)) 0 (q.length:Int)=(q.drop 0).map (fun (x:Nat)=>(x:Int)) from hz.2,if_pos (by simp; omega),hs']
    simp
  ·right
   rw [if_neg (by simpa using hc)]
   exact ⟨_,rfl,q,hnd,fun x hm=>by have:=hx x hm; omega,by omega,rfl⟩
theorem Qeb {x:Int}:0≤zv x:=by simp only [IntKind.wrap,IntKind.bits,IntKind.signed]; simp; omega
theorem Qlw {n:Nat} {q:List Nat} (hn:q.Nodup) (hl:∀x∈q,x < n) (hlen:q.length=n):∀v,v < n→v∈q:=fun v hv=>by
 apply Classical.byContradiction
 intro hno
 have h1:(v::q).Nodup:=List.nodup_cons.2 ⟨hno,hn⟩
 have h2:(v::q) ⊆ List.range n:=fun p hp=>by
  rcases List.mem_cons.1 hp with e | e
  ·subst e; exact List.mem_range.2 hv
  ·exact List.mem_range.2 (hl p e)
 have:=Qft _ _ h1 h2
 simp at this
 omega
theorem Qde {q:List Nat} {i:Nat} (hi:i < q.length) {v:Nat}:v∈q.take (i+1)↔v∈q.take i∨v=q[i]:=by
 rw [Jf hi,List.mem_append,List.mem_singleton]
theorem Qmg {q:List Nat} (hn:q.Nodup) {i:Nat} (hi:i < q.length):q[i] ∉ q.take i:=fun h=>by
 obtain ⟨k,hk,e⟩:=List.mem_iff_getElem.1 h
 rw [List.length_take] at hk
 rw [List.getElem_take] at e
 have:=List.pairwise_iff_getElem.1 hn k i (by omega) hi (by omega)
 exact this e
theorem Qq1:∀{q:List Nat} {p j:Nat},p∈q.take j→q.idxOf p < j
 | [],p,j,h=>by simp at h
 | x::q,p,0,h=>by simp at h
 | x::q,p,j+1,h=>by
  rw [List.idxOf_cons]
  by_cases e:x=p
  ·subst e; simp
  ·have:p∈q.take j:=by
    rcases List.mem_cons.1 h with e' | e'
    ·exact absurd e'.symm e
    ·exact e'
   have:=Qq1 this
   rw [show (x==p)=false by simpa using e]
   simp; omega
theorem Qzd {q:List Nat} (hn:q.Nodup) {j:Nat} (hj:j < q.length):j≤q.idxOf q[j]:=by
 apply Classical.byContradiction
 intro h
 have hk:q.idxOf q[j] < q.length:=by omega
 have e:q[q.idxOf q[j]]=q[j]:=List.getElem_idxOf hk
 have:=List.pairwise_iff_getElem.1 hn (q.idxOf q[j]) j hk hj (by omega)
 exact this e
def dcnt (p0:Qe):Nat := min (max p0.Nodes.length 1) 5
theorem Qeq {p0:Qe}:(if 5 < (if 1 > (p0.Nodes.length:Int) then 1 else (p0.Nodes.length:Int)) then 5 else (if 1 > (p0.Nodes.length:Int) then 1 else (p0.Nodes.length:Int)))=(dcnt p0:Int):=by
 unfold dcnt
 split <;> split at * <;> omega
theorem Qhp {p0:Qe}:1≤dcnt p0∧dcnt p0≤5:=by unfold dcnt; omega
structure Quu (p0:Qe):Prop where
 grain:0≤p0.Grain∧p0.Grain≤255
 order:∀x∈p0.Order,0≤x∧x≤255
 card:∀p∈p0.Nodes,0≤p.Card∧p.Card≤255
 W:∀p∈p0.Nodes,∀x∈p.W,0≤x∧x≤255
 Wl:∀p∈p0.Nodes,p.W.length≤9223372036854775807
section
variable {p0:Qe} {q:List Nat}
theorem Ql9 {i:Nat} (hi:i < q.length):lkI (q.map fun (x:Nat)=>(x:Int)) (i:Int)=some ((q[i]:Nat):Int):=by rw [Yx (by simpa using hi)]; simp
theorem Q3m (h:Quu p0) (hn:q.Nodup) (hl:∀x∈q,x < dcnt p0) (hlen:q.length=dcnt p0) :
  ∃C:Nat → Nat,(∀v,v < dcnt p0→2≤C v∧C v≤3) ∧
   Qd fuel (Yi p0 (q.map fun (x:Nat)=>(x:Int))) (1,0,List.replicate (dcnt p0) (Sum.inl 0))=some (Qb (dcnt p0) fun v=>Sum.inl (C v:Int)):=by
 have hcn:=Qhp (p0:=p0)
 have hw:=Vb (body:=Yi p0 (q.map fun (x:Nat)=>(x:Int)))
  (fun s=>∃(w:Int) (i:Nat) (C:Nat → Nat),i≤dcnt p0∧(∀v,v∈q.take i→2≤C v∧C v≤3)∧s=(w,(i:Int),Qb (dcnt p0) fun v=>Sum.inl (C v:Int)))
  (fun s=>dcnt p0 - s.2.1.toNat)
  (fun r=>∃C:Nat → Nat,(∀v,v < dcnt p0→2≤C v∧C v≤3)∧r=Qb (dcnt p0) fun v=>Sum.inl (C v:Int))
  (fun s hs=>?_) (1,0,List.replicate (dcnt p0) (Sum.inl 0)) ⟨1,0,fun _=>0,by omega,fun v hv=>by simp at hv,by rw [Jr]; rfl⟩ (by simp; omega)
 ·obtain ⟨r,h1,C,h2,rfl⟩:=hw
  exact ⟨C,h2,h1⟩
 ·obtain ⟨w,i,C,hi,hC,rfl⟩:=hs
  by_cases hic:i < dcnt p0
  ·left
   have hiq:i < q.length:=by omega
   have hv:=hl _ (List.getElem_mem hiq)
   have ek:zw ((i:Int)+1)=((i+1:Nat):Int):=by rw [w64 (by omega)]; omega
   have leaf:∀(w':Int) (c:Nat),2≤c→c≤3→(∃s',some (Qm.next (w',zw ((i:Int)+1),List.set (Qb (dcnt p0) fun v=>(Sum.inl (C v:Int):Int ⊕ Tapi_Node)) (Int.toNat ((q[i]:Nat):Int)) (Sum.inl (c:Int))))=some (Qm.next (ρ:=List (Int ⊕ Tapi_Node)) s') ∧
     (∃(w:Int) (i:Nat) (C:Nat → Nat),i≤dcnt p0∧(∀v,v∈q.take i→2≤C v∧C v≤3)∧s'=(w,(i:Int),Qb (dcnt p0) fun v=>Sum.inl (C v:Int)))∧dcnt p0 - s'.2.1.toNat < dcnt p0 - (i:Int).toNat):=fun w' c c1 c2=>by
    rw [ek]
    refine ⟨_,rfl,⟨w',i+1,Zd C q[i] c,hic,fun v hv=>?_,?_⟩,by simp; omega⟩
    ·rcases (Qde hiq).1 hv with e | e
     ·by_cases e2:v=q[i]
      ·subst e2; rw [Xc]; exact ⟨c1,c2⟩
      ·rw [Jb e2]; exact hC v e
     ·subst e; rw [Xc]; exact ⟨c1,c2⟩
    ·rw [Int.toNat_natCast,Zs]
     congr 2
     refine Qh fun k hk=>?_
     by_cases e:k=q[i]
     ·rw [if_pos e,e,Xc]
     ·rw [if_neg e,Jb e]
   have hk:lkL (Qb (dcnt p0) fun v=>(Sum.inl (C v:Int):Int ⊕ Tapi_Node)) ((q[i]:Nat):Int)=some (C q[i]:Int):=by unfold lkL; rw [Qp hv]; rfl
   unfold Yi
   simp only [Qeq]
   rw [if_pos (by simpa using hic)]
   by_cases hin:i < p0.Nodes.length
   ·have hp:=h.card _ (List.getElem_mem hin)
    have ec:zw (2+zw (Int.tmod (p0.Nodes[i]).Card 2))=((2+(p0.Nodes[i]).Card.toNat % 2:Nat):Int):=by
     have w1:zw ((p0.Nodes[i]).Card % 2)=(p0.Nodes[i]).Card % 2:=w64 (by omega)
     rw [Jx hp.1,w1,w64 (by omega)]; omega
    rw [if_pos (by simpa using hin),Yx hin]
    simp only [Option.bind_some]
    rw [if_pos Qeb]
    split
    ·rw [Ql9 hiq]
     simp only [Option.bind_some]
     rw [hk]
     exact leaf _ 2 (by omega) (by omega)
    ·rw [Ql9 hiq]
     simp only [Option.bind_some]
     rw [hk]
     simp only [Option.bind_some]
     rw [ec]
     exact leaf _ _ (by omega) (by omega)
   ·rw [if_neg (by simpa using hin),if_pos Qeb]
    split
    ·rw [Ql9 hiq]
     simp only [Option.bind_some]
     rw [hk]
     exact leaf _ 2 (by omega) (by omega)
    ·rw [Ql9 hiq]
     simp only [Option.bind_some]
     rw [hk]
     simp only [Option.bind_some]
     exact leaf _ 2 (by omega) (by omega)
  ·right
   have:i=dcnt p0:=by omega
   subst this
   unfold Yi
   simp only [Qeq]
   rw [if_neg (by simp)]
   refine ⟨_,rfl,C,fun v hv=>hC v ?_,rfl⟩
   rw [List.take_of_length_le (by omega)]
   exact Qlw hn hl hlen v hv
theorem Q39 (hn:q.Nodup) {L:List (Int ⊕ Tapi_Node)} {i u:Nat} {P:List Nat} {pc:Qw} (hi:i < q.length) (hq:q.length≤5) :
  ∃P':List Nat,(P'=P∨(P'=P++[u]∧u∈q.take i∧P.length < 3)) ∧
   Qd fuel (Yj ((i:Int),L) (q.map fun (x:Nat)=>(x:Int)) ((u:Int),P.map fun (x:Nat)=>(x:Int)) pc) (0,P.map fun (x:Nat)=>(x:Int))=some (P'.map fun (x:Nat)=>(x:Int)):=by
 have hw:=Vb (body:=Yj ((i:Int),L) (q.map fun (x:Nat)=>(x:Int)) ((u:Int),P.map fun (x:Nat)=>(x:Int)) pc)
  (fun s=>∃(k:Nat) (P':List Nat),k≤i∧(P'=P∨(P'=P++[u]∧u∈q.take k∧P.length < 3))∧s=((k:Int),P'.map fun (x:Nat)=>(x:Int)))
  (fun s=>i - s.1.toNat) (fun r=>∃P':List Nat,(P'=P∨(P'=P++[u]∧u∈q.take i∧P.length < 3))∧r=P'.map fun (x:Nat)=>(x:Int))
  (fun s hs=>?_) ((0:Int),P.map fun (x:Nat)=>(x:Int)) ⟨0,P,by omega,.inl rfl,rfl⟩ (by simp; omega)
 ·obtain ⟨r,h1,P',h2,rfl⟩:=hw
  exact ⟨P',h2,h1⟩
 ·obtain ⟨k,P',hk,hP,rfl⟩:=hs
  by_cases hki:k < i
  ·left
   have hkq:k < q.length:=by omega
   have ek:zw ((k:Int)+1)=((k+1:Nat):Int):=by rw [w64 (by omega)]; omega
   have same:∃s',some (Qm.next (zw ((k:Int)+1),P'.map fun (x:Nat)=>(x:Int)))=some (Qm.next (ρ:=List Int) s') ∧
     (∃(k:Nat) (P':List Nat),k≤i∧(P'=P∨(P'=P++[u]∧u∈q.take k∧P.length < 3))∧s'=((k:Int),P'.map fun (x:Nat)=>(x:Int)))∧i - s'.1.toNat < i - (k:Int).toNat := by
    rw [ek]
    exact ⟨_,rfl,⟨k+1,P',hki,hP.imp id fun h=>⟨h.1,(Qde hkq).2 (.inl h.2.1),h.2.2⟩,rfl⟩,by simp; omega⟩
   unfold Yj
   simp only
   rw [if_pos (by simpa using hki),Ql9 hkq]
   simp only [Option.bind_some]
   by_cases hqu:q[k]=u
   ·rw [if_pos (by simp [hqu]),if_pos Qeb]
    have hPP:P'=P:=by
     rcases hP with e | ⟨_,e,_⟩
     ·exact e
     ·exact absurd (hqu ▸ e) (Qmg hn hkq)
    subst hPP
    split
    ·split
     ·rename_i h3
      have h3':P'.length < 3:=by simp at h3; omega
      rw [if_pos (by simp; omega),ek]
      exact ⟨_,rfl,⟨k+1,P'++[u],hki,.inr ⟨rfl,(Qde hkq).2 (.inr hqu.symm),h3'⟩,by simp⟩,by simp; omega⟩
     ·exact same
    ·exact same
   ·rw [if_neg (by simpa using (fun e:((q[k]:Nat):Int)=(u:Int)=>hqu (by omega)))]
    exact same
  ·right
   have:k=i:=by omega
   subst this
   unfold Yj
   simp only
   rw [if_neg (by simp)]
   exact ⟨_,rfl,P',hP,rfl⟩
theorem Q2z (hn:q.Nodup) (hlen:q.length=dcnt p0) {L:List (Int ⊕ Tapi_Node)} {i:Nat} {pc:Qw} (hi:i < q.length) :
  ∃P:List Nat,P.Pairwise (· < ·)∧(∀p∈P,p∈q.take i)∧P.length≤3 ∧
   Qd fuel (Xg p0 ((i:Int),L) (q.map fun (x:Nat)=>(x:Int)) pc) (0,[])=some (P.map fun (x:Nat)=>(x:Int)):=by
 have hcn:=Qhp (p0:=p0)
 have hw:=Vb (body:=Xg p0 ((i:Int),L) (q.map fun (x:Nat)=>(x:Int)) pc)
  (fun s=>∃(u:Nat) (P:List Nat),u≤dcnt p0∧P.Pairwise (· < ·)∧(∀p∈P,p < u∧p∈q.take i)∧P.length≤3∧s=((u:Int),P.map fun (x:Nat)=>(x:Int)))
  (fun s=>dcnt p0 - s.1.toNat) (fun r=>∃P:List Nat,P.Pairwise (· < ·)∧(∀p∈P,p∈q.take i)∧P.length≤3∧r=P.map fun (x:Nat)=>(x:Int))
  (fun s hs=>?_) ((0:Int),([]:List Int)) ⟨0,[],by omega,List.Pairwise.nil,fun p hp=>by simp at hp,by simp,rfl⟩ (by simp; omega)
 ·obtain ⟨r,h1,P,h2,h3,h4,rfl⟩:=hw
  exact ⟨P,h2,h3,h4,h1⟩
 ·obtain ⟨u,P,hu,h2,h3,h4,rfl⟩:=hs
  unfold Xg
  simp only [Qeq]
  by_cases huc:u < dcnt p0
  ·left
   obtain ⟨P',hP',hb⟩:=Q39 hn (L:=L) (u:=u) (P:=P) (pc:=pc) hi (by omega)
   have ek:zw ((u:Int)+1)=((u+1:Nat):Int):=by rw [w64 (by omega)]; omega
   rw [if_pos (by simpa using huc),hb]
   simp only [Option.bind_some]
   rw [ek]
   refine ⟨_,rfl,⟨u+1,P',huc,?_,?_,?_,rfl⟩,by simp; omega⟩
   ·rcases hP' with rfl | ⟨rfl,_,_⟩
    ·exact h2
    ·rw [List.pairwise_append]
     exact ⟨h2,List.pairwise_singleton _ _,fun a ha b hb=>by simp at hb; subst hb; exact (h3 a ha).1⟩
   ·rcases hP' with rfl | ⟨rfl,hm,_⟩
    ·exact fun p hp=>⟨by have:=(h3 p hp).1; omega,(h3 p hp).2⟩
    ·intro p hp
     rcases List.mem_append.1 hp with e | e
     ·exact ⟨by have:=(h3 p e).1; omega,(h3 p e).2⟩
     ·simp at e; subst e; exact ⟨by omega,hm⟩
   ·rcases hP' with rfl | ⟨rfl,_,hlt⟩
    ·exact h4
    ·simp; omega
  ·right
   rw [if_neg (by simpa using huc)]
   exact ⟨_,rfl,P,h2,fun p hp=>(h3 p hp).2,h4,rfl⟩
theorem Qx9 {n:Nat} {g:Int} {F:Nat → Tapi_Node} {C:Nat → Nat} (hF:∀v,v < n→(F v).Card=(C v:Int)) (hn:n≤8):Qa6 ⟨g,Qb n F⟩=some (Qn n C):=by
 unfold Qa6
 refine Z5 (Ze (s0:=((0:Int),([]:List Int))) (r:=Qn n C) (fun k=>((k:Int),Qn k C)) n rfl (fun k hk=>?_) ?_ (by omega)) rfl
 ·unfold Qbg
  simp only
  rw [if_pos (by rw [Qj]; simpa using hk),Qp hk]
  simp only [Option.bind_some]
  rw [hF k hk,show Qn k C++[(C k:Int)]=Qn (k+1) C from K9,if_pos (by rw [Qbh]; omega),w64 (by omega)]
  rfl
 ·unfold Qbg
  simp only
  rw [if_neg (by rw [Qj]; simp)]
theorem Qxe {f:Nat → Nat} {l:List Nat} (hf:∀p∈l,f p≤4) (hl:l.length≤8):Qaa (l.map fun p=>(f p:Int))=some (lprod f l:Int):=by
 unfold Qaa
 refine Z5 (Ze (s0:=((1:Int),(0:Int))) (r:=(lprod f l:Int)) (fun k=>((lprod f (l.take k):Int),(k:Int))) l.length (by simp [lprod]) (fun k hk=>?_) ?_ (by omega)) rfl
 ·have h1:lprod f (l.take k)≤4^8:=Nat.le_trans (Qe5 fun p hp=>hf p (List.mem_of_mem_take hp)) (Nat.pow_le_pow_right (by omega) (by rw [List.length_take]; omega))
  have h2:=hf _ (List.getElem_mem hk)
  have h3:lprod f (l.take k)*f l[k]≤65536*4:=Nat.mul_le_mul (by omega) h2
  have e:(lprod f (l.take k):Int)*(f l[k]:Int)=((lprod f (l.take (k+1)):Nat):Int):=by rw [Jf hk,Qcw]; simp
  have e2:lprod f (l.take (k+1))≤65536*4:=by rw [Jf hk,Qcw]; exact h3
  unfold Qcd
  simp only
  rw [if_pos (by simpa using hk),Yx (by simpa using hk)]
  simp only [Option.bind_some,List.getElem_map]
  rw [e,w64 (by omega),w64 (by omega)]
  rfl
 ·unfold Qcd
  simp only
  rw [if_neg (by simp),List.take_of_length_le (Nat.le_refl _)]
theorem Q2q {n v:Nat} {N:Nat → Int ⊕ Tapi_Node} {x:Tapi_Node}:List.set (List.map coTapi_Node (Qb n N)) (Int.toNat (v:Int)) x=Qb n fun k=>if k=v then x else coTapi_Node (N k):=by
 rw [show List.map coTapi_Node (Qb n N)=Qb n (fun k=>coTapi_Node (N k)) by simp [Qb],Int.toNat_natCast,Zs]
theorem Qv7 {n v:Nat} {g:Int} {N:Nat → Int ⊕ Tapi_Node} {C:Nat → Nat} {P:List Nat} {R:List (List Int)} (hN:∀k,k < n→(coTapi_Node (N k)).Card=(C k:Int)) (hn:n≤8) (hv:v < n) (hP:∀p∈P,p < n) (hl:P.length≤8) :
  Z4 ⟨g,List.set (List.map coTapi_Node (Qb n N)) (Int.toNat (v:Int)) ⟨(C v:Int),P.map (fun (x:Nat)=>(x:Int)),R⟩⟩ (v:Int)=some (P.map fun p=>(C p:Int)):=by
 unfold Z4
 rw [Q2q,Qx9 (C:=C) (fun k hk=>?_) hn]
 ·simp only [Option.bind_some]
  rw [Qp hv]
  simp only [Option.bind_some,if_true]
  rw [Q4p hP hl]
  rfl
 ·by_cases e:k=v
  ·subst e; rw [if_pos rfl]
  ·rw [if_neg e]; exact hN k hk
theorem Q25 {g c v i:Nat} {N:Nat → Int ⊕ Tapi_Node} {C:Nat → Nat} {P:List Nat} {pc:Qw} (hg:zw (1+(zw (Int.tmod p0.Grain 60)))=(g:Int)) (hg60:g≤60)
  (hC:∀k,k < dcnt p0→2≤C k∧C k≤3) (hN:∀k,k < dcnt p0→(coTapi_Node (N k)).Card=(C k:Int)) (hv:v < dcnt p0) (hP:∀p∈P,p < dcnt p0) (hl:P.length≤3)
  (hW:∀x∈pc.W,0≤x∧x≤255) (hWl:pc.W.length≤9223372036854775807) :
  ∃W:Nat → Nat → Nat,(∀r,r < lprod C P→Qi (C v) (fun x=>(W r x:Int))=g) ∧
   Qd fuel (Yf p0 ((i:Int),Qb (dcnt p0) N) (v:Int) (C v:Int) (P.map fun (x:Nat)=>(x:Int)) pc) (0,[])=some (Qb (lprod C P) fun r=>Qb (C v) fun x=>(W r x:Int)):=by
 have hcn:=Qhp (p0:=p0)
 have hcv:=hC v hv
 have hsz:=Qxe (f:=C) (l:=P) (fun p hp=>by have:=hC p (hP p hp); omega) (by omega)
 have hb:lprod C P≤64:=Nat.le_trans (Qe5 fun p hp=>by have:=hC p (hP p hp); omega) (Nat.pow_le_pow_right (by omega) hl:4^P.length≤4^3)
 have hw:=Vb (body:=Yf p0 ((i:Int),Qb (dcnt p0) N) (v:Int) (C v:Int) (P.map fun (x:Nat)=>(x:Int)) pc)
  (fun s=>∃(r:Nat) (W:Nat → Nat → Nat),r≤lprod C P∧(∀r',r' < r→Qi (C v) (fun x=>(W r' x:Int))=g)∧s=((r:Int),Qb r fun r=>Qb (C v) fun x=>(W r x:Int)))
  (fun s=>lprod C P - s.1.toNat) (fun o=>∃W:Nat → Nat → Nat,(∀r,r < lprod C P→Qi (C v) (fun x=>(W r x:Int))=g)∧o=Qb (lprod C P) fun r=>Qb (C v) fun x=>(W r x:Int))
  (fun s hs=>?_) ((0:Int),([]:List (List Int))) ⟨0,fun _ _=>0,by omega,fun r hr=>by omega,rfl⟩ (by simp; omega)
 ·obtain ⟨o,h1,W,h2,rfl⟩:=hw
  exact ⟨W,h2,h1⟩
 ·obtain ⟨r,W,hr,hS,rfl⟩:=hs
  unfold Yf
  simp only
  rw [Qv7 hN (by omega) hv hP (by omega)]
  simp only [Option.bind_some]
  rw [hsz]
  simp only [Option.bind_some]
  by_cases hrs:r < lprod C P
  ·left
   have hm:r*(C v+1)≤64*4:=Nat.mul_le_mul (by omega) (by omega)
   have ef:zw ((r:Int)*zw ((C v:Int)+1))=((r*(C v+1):Nat):Int):=by
    have w1:zw ((C v:Int)+1)=((C v+1:Nat):Int):=by rw [w64 (by omega)]; omega
    have e3:(r:Int)*((C v+1:Nat):Int)=((r*(C v+1):Nat):Int):=by simp
    rw [w1,e3]
    exact w64 (by omega)
   obtain ⟨f,hf,hfs⟩:=Qy9 (g:=g) (c:=C v) (l:=pc.W) (fr:=r*(C v+1)) hg60 (by omega) (by omega) hW hWl (by omega)
   have ek:zw ((r:Int)+1)=((r+1:Nat):Int):=by rw [w64 (by omega)]; omega
   rw [if_pos (by simpa using hrs),hg,ef,hf]
   simp only [Option.bind_some]
   rw [if_pos (by simp [Qj]; omega),ek]
   have e:(Qb r fun r=>Qb (C v) fun x=>(W r x:Int))++[Qb (C v) fun x=>(f x:Int)]=Qb (r+1) fun r'=>Qb (C v) fun x=>((Zd W r f) r' x:Int):=by
    rw [←K9,Xc]
    congr 1
    exact Qh fun k hk=>by rw [Jb (by omega)]
   refine ⟨_,rfl,⟨r+1,Zd W r f,hrs,fun r' hr'=>?_,by rw [e]⟩,by simp; omega⟩
   by_cases e2:r'=r
   ·subst e2; rw [Xc]; exact hfs
   ·rw [Jb e2]; exact hS r' (by omega)
  ·right
   have:r=lprod C P:=by omega
   subst this
   rw [if_neg (by simp)]
   exact ⟨_,rfl,W,hS,rfl⟩
theorem Q4k {s:Int × List (Int ⊕ Tapi_Node)} {x1:List Int}:Qct p0 s x1=Xg p0 s x1 ⟨0,0,[]⟩:=rfl
theorem Q1j {n:Nat} {F:Nat → Tapi_Node}:alr (Qb n fun v=>(Sum.inr (F v):Int ⊕ Tapi_Node))=some (Qb n F):=by
 have:∀l:List Nat,alr (l.map fun v=>(Sum.inr (F v):Int ⊕ Tapi_Node))=some (l.map F):=by
  intro l
  induction l with
  | nil=>rfl
  | cons x l ih=>simp only [List.map_cons,alr,ih,Option.map_some]
 exact this _
def GdF (D:NF) (q:List Nat) (j:Nat) (v:Nat):Prop:=(D.par v).Pairwise (· < ·)∧(∀p∈D.par v,p∈q.take j)∧(D.par v).length≤3∧∀r,r < D.rows v→Qi (D.card v) (fun x=>(D.W v r x:Int))=D.g
theorem Q3p (h:Quu p0) (hn:q.Nodup) (hl:∀x∈q,x < dcnt p0) (hlen:q.length=dcnt p0) {g:Nat} (hg:zw (1+(zw (Int.tmod p0.Grain 60)))=(g:Int)) (hg60:g≤60)
  {C:Nat → Nat} (hC:∀k,k < dcnt p0→2≤C k∧C k≤3) :
  ∃(P:Nat → List Nat) (W:Nat → Nat → Nat → Nat),(∀j (hj:j < q.length),GdF ⟨dcnt p0,g,C,P,W⟩ q j q[j]) ∧
   Qd fuel (Yb p0 (q.map fun (x:Nat)=>(x:Int))) (0,Qb (dcnt p0) fun v=>Sum.inl (C v:Int))=some (Qb (dcnt p0) fun v=>Sum.inr ((NF.mk (dcnt p0) g C P W).node v)):=by
 have hcn:=Qhp (p0:=p0)
 let N:Nat → (Nat → List Nat)→(Nat → Nat → Nat → Nat)→Nat → Int ⊕ Tapi_Node:=fun i P W v=>if v∈q.take i then Sum.inr ((NF.mk (dcnt p0) g C P W).node v) else Sum.inl (C v:Int)
 have hNco:∀i P W k,(coTapi_Node (N i P W k)).Card=(C k:Int):=fun i P W k=>by
  show (coTapi_Node (if k∈q.take i then Sum.inr ((NF.mk (dcnt p0) g C P W).node k) else Sum.inl (C k:Int))).Card=_
  split <;> rfl
 have hw:=Vb (body:=Yb p0 (q.map fun (x:Nat)=>(x:Int)))
  (fun s=>∃(i:Nat) (P:Nat → List Nat) (W:Nat → Nat → Nat → Nat),i≤dcnt p0∧(∀j (hj:j < q.length),j < i→GdF ⟨dcnt p0,g,C,P,W⟩ q j q[j])∧s=((i:Int),Qb (dcnt p0) (N i P W)))
  (fun s=>dcnt p0 - s.1.toNat)
  (fun o=>∃(P:Nat → List Nat) (W:Nat → Nat → Nat → Nat),(∀j (hj:j < q.length),GdF ⟨dcnt p0,g,C,P,W⟩ q j q[j])∧o=Qb (dcnt p0) fun v=>Sum.inr ((NF.mk (dcnt p0) g C P W).node v))
  (fun s hs=>?_) ((0:Int),Qb (dcnt p0) fun v=>Sum.inl (C v:Int)) ⟨0,fun _=>[],fun _ _ _=>0,by omega,fun j _ hj=>by omega,by congr 1⟩ (by simp; omega)
 ·obtain ⟨o,h1,P,W,h2,rfl⟩:=hw
  exact ⟨P,W,h2,h1⟩
 ·obtain ⟨i,P,W,hi,hG,rfl⟩:=hs
  by_cases hic:i < dcnt p0
  ·left
   have hiq:i < q.length:=by omega
   have hv:=hl _ (List.getElem_mem hiq)
   have hnot:=Qmg hn hiq
   have ek:zw ((i:Int)+1)=((i+1:Nat):Int):=by rw [w64 (by omega)]; omega
   have hk:lkL (Qb (dcnt p0) (N i P W)) ((q[i]:Nat):Int)=some (C q[i]:Int):=by
    unfold lkL
    rw [Qp hv]
    show Option.bind (some (if q[i]∈q.take i then _ else _)) _=_
    rw [if_neg hnot]; rfl
   have leaf:∀pc:Qw,(∀x∈pc.W,0≤x∧x≤255)→pc.W.length≤9223372036854775807 →
     ∃s',((Qd fuel (Xg p0 ((i:Int),Qb (dcnt p0) (N i P W)) (q.map fun (x:Nat)=>(x:Int)) pc) (0,([]:List Int))).bind fun x72 =>
      (Qd fuel (Yf p0 ((i:Int),Qb (dcnt p0) (N i P W)) ((q[i]:Nat):Int) (C q[i]:Int) x72 pc) (0,([]:List (List Int)))).bind fun x83 =>
      some (Qm.next (ρ:=List (Int ⊕ Tapi_Node)) (zw ((i:Int)+1),(List.set (Qb (dcnt p0) (N i P W)) (Int.toNat ((q[i]:Nat):Int)) (Sum.inr (Tapi_Node.mk (C q[i]:Int) x72 x83))))))=some (Qm.next s') ∧
      (∃(i:Nat) (P:Nat → List Nat) (W:Nat → Nat → Nat → Nat),i≤dcnt p0∧(∀j (hj:j < q.length),j < i→GdF ⟨dcnt p0,g,C,P,W⟩ q j q[j])∧s'=((i:Int),Qb (dcnt p0) (N i P W)))∧dcnt p0 - s'.1.toNat < dcnt p0 - (i:Int).toNat := fun pc hpW hpl=>by
    obtain ⟨Pv,p1,p2,p3,hb2⟩:=Q2z (p0:=p0) hn hlen (L:=Qb (dcnt p0) (N i P W)) (pc:=pc) hiq
    have hPv:∀p∈Pv,p < dcnt p0:=fun p hp=>hl p (List.mem_of_mem_take (p2 p hp))
    obtain ⟨Wv,w1,hb3⟩:=Q25 (p0:=p0) (i:=i) (c:=0) (pc:=pc) hg hg60 hC (fun k _=>hNco i P W k) hv hPv p3 hpW hpl
    rw [hb2]
    simp only [Option.bind_some]
    rw [hb3]
    simp only [Option.bind_some]
    rw [ek,Int.toNat_natCast,Zs]
    refine ⟨_,rfl,⟨i+1,Zd P q[i] Pv,Zd W q[i] Wv,hic,fun j hj hji=>?_,?_⟩,by simp; omega⟩
    ·by_cases e:j=i
     ·subst e
      unfold GdF NF.rows
      simp only [Xc]
      exact ⟨p1,p2,p3,w1⟩
     ·have hne:q[j]≠q[i]:=fun e2=>e (by
       rcases Nat.lt_or_ge j i with h' | h'
       ·exact absurd e2 (List.pairwise_iff_getElem.1 hn j i hj hiq h')
       ·omega)
      have:=hG j hj (by omega)
      unfold GdF NF.rows at this ⊢
      simp only [Jb hne]
      exact this
    ·congr 1
     refine Qh fun k hk=>?_
     by_cases e:k=q[i]
     ·rw [if_pos e]
      show _=if k∈q.take (i+1) then _ else _
      rw [if_pos ((Qde hiq).2 (.inr e)),e]
      unfold NF.node NF.rows
      simp only [Xc]
     ·rw [if_neg e]
      show (if k∈q.take i then _ else _)=if k∈q.take (i+1) then _ else _
      by_cases hm:k∈q.take i
      ·rw [if_pos hm,if_pos ((Qde hiq).2 (.inl hm))]
       unfold NF.node NF.rows
       simp only [Jb e]
      ·rw [if_neg hm,if_neg (fun h'=>((Qde hiq).1 h').elim hm e)]
   unfold Yb
   simp only [Qeq]
   rw [if_pos (by simpa using hic)]
   by_cases hin:i < p0.Nodes.length
   ·rw [if_pos (by simpa using hin),Yx hin]
    simp only [Option.bind_some]
    rw [Ql9 hiq]
    simp only [Option.bind_some]
    rw [hk]
    simp only [Option.bind_some]
    exact leaf _ (h.W _ (List.getElem_mem hin)) (h.Wl _ (List.getElem_mem hin))
   ·rw [if_neg (by simpa using hin),Ql9 hiq]
    simp only [Option.bind_some]
    rw [hk]
    simp only [Option.bind_some]
    rw [Q4k]
    exact leaf ⟨0,0,[]⟩ (fun x hx=>by simp at hx) (by simp)
  ·right
   have:i=dcnt p0:=by omega
   subst this
   unfold Yb
   simp only [Qeq]
   rw [if_neg (by simp)]
   refine ⟨_,rfl,P,W,fun j hj=>hG j hj (by omega),?_⟩
   refine Qh fun k hk=>?_
   show (if k∈q.take (dcnt p0) then _ else _)=_
   rw [if_pos (by rw [List.take_of_length_le (by omega)]; exact Qlw hn hl hlen k hk)]
theorem Qxo (h:Quu p0):∃D:NF,VX D∧D.n≤5∧(∀v,v < D.n→2≤D.card v∧D.card v≤3)∧Jz p0=some D.net:=by
 have hcn:=Qhp (p0:=p0)
 have hgr:=h.grain
 obtain ⟨q,hn,hl,hlen,hq⟩:=Qvo (n:=dcnt p0) hcn.2 h.order
 obtain ⟨C,hC,h0⟩:=Q3m h hn hl hlen
 have hg:zw (1+(zw (Int.tmod p0.Grain 60)))=((1+p0.Grain.toNat % 60:Nat):Int):=by
  have w1:zw (p0.Grain % 60)=p0.Grain % 60:=w64 (by omega)
  rw [Jx hgr.1,w1,w64 (by omega)]; omega
 have hg60:1+p0.Grain.toNat % 60≤60:=by omega
 obtain ⟨P,W,hG,h7⟩:=Q3p h hn hl hlen hg hg60 hC
 refine ⟨⟨dcnt p0,1+p0.Grain.toNat % 60,C,P,W⟩,?_,hcn.2,hC,?_⟩
 ·have hall:∀v,v < dcnt p0→∃j,∃hj:j < q.length,q[j]=v:=fun v hv=>List.mem_iff_getElem.1 (Qlw hn hl hlen v hv)
  have hsum:∀v r,v < dcnt p0→r < (NF.mk (dcnt p0) (1+p0.Grain.toNat % 60) C P W).rows v→Qi (C v) (fun x=>(W v r x:Int))=((1+p0.Grain.toNat % 60:Nat):Int):=fun v r hv hr=>by
   obtain ⟨j,hj,rfl⟩:=hall v hv
   exact (hG j hj).2.2.2 r hr
  refine ⟨⟨by show 1≤dcnt p0; omega,by show dcnt p0≤8; omega,by show 1≤1+p0.Grain.toNat % 60; omega,hg60,fun v hv=>by have:=hC v hv; show 1≤C v∧C v≤4; omega,fun v hv p hp=>?_,fun v hv=>?_,fun v r x hv hr hx=>?_,?_⟩,fun v hv=>?_,fun v hv hp=>?_,⟨fun v=>q.idxOf v,fun v hv p hp=>?_⟩,hsum⟩
  ·obtain ⟨j,hj,rfl⟩:=hall v hv
   exact hl p (List.mem_of_mem_take ((hG j hj).2.1 p hp))
  ·obtain ⟨j,hj,rfl⟩:=hall v hv
   have:=(hG j hj).2.2.1
   omega
  ·have h1:=hsum v r hv hr
   have h2:=Qdk (n:=C v) (k:=x+1) (f:=fun x=>(W v r x:Int)) (fun _ _=>Int.natCast_nonneg _) hx
   have h3:0≤Qi x (fun x=>(W v r x:Int)):=Y0 fun _ _=>Int.natCast_nonneg _
   simp only [Qi] at h2
   show W v r x≤1+p0.Grain.toNat % 60
   omega
  ·have h1:Qk (dcnt p0) C≤3^dcnt p0:=J7 fun v hv=>(hC v hv).2
   have h2:3^dcnt p0≤3^5:=Nat.pow_le_pow_right (by omega) hcn.2
   show Qk (dcnt p0) C≤1024
   omega
  ·obtain ⟨j,hj,rfl⟩:=hall v hv
   exact (hG j hj).1
  ·obtain ⟨j,hj,rfl⟩:=hall v hv
   exact Qmg hn hj ((hG j hj).2.1 _ hp)
  ·obtain ⟨j,hj,rfl⟩:=hall v hv
   have h1:=Qq1 ((hG j hj).2.1 p hp)
   have h2:=Qzd hn hj
   show q.idxOf p < q.idxOf q[j]
   omega
 ·unfold Jz
  simp only [Qeq]
  rw [if_pos (by omega),if_pos (by omega),Int.toNat_natCast,hq]
  simp only [Option.bind_some]
  rw [h0]
  simp only [Option.bind_some]
  rw [h7]
  simp only [Option.bind_some]
  rw [Q1j,hg]
  rfl
end
end Go.Ab
namespace Go.Ab
open Go
set_option maxRecDepth 100000
set_option maxHeartbeats 400000
theorem Qpg {τ ρ σ:Type} {n:Nat} (hn:n < 1152921504606846976) (good:Nat → Prop) (mkS:Int→τ→σ) {body:σ→Option (Qm σ ρ)} (T:Nat → τ) (r rb:ρ)
  (step:∀k,k < n→(∀j,j < k→good j)→good k→body (mkS (k:Int) (T k))=some (.next (mkS (zw ((k:Int)+1)) (T (k+1)))))
  (bad:∀k,k < n→(∀j,j < k→good j)→¬ good k→body (mkS (k:Int) (T k))=some (.done rb))
  (done:(∀j,j < n→good j)→body (mkS (n:Int) (T n))=some (.done r)) :
  ((∀j,j < n→good j)∧Qd fuel body (mkS ((0:Nat):Int) (T 0))=some r)∨((¬ ∀j,j < n→good j)∧Qd fuel body (mkS ((0:Nat):Int) (T 0))=some rb):=by
 have h:=Ql2 (n:=n) (k0:=0) (by omega) hn mkS (body:=body) (fun k t=>t=T k∧∀j,j < k→good j) (fun x=>((∀j,j < n→good j)∧x=r)∨((¬ ∀j,j < n→good j)∧x=rb))
  (fun k t _ hk hI=>by
   obtain ⟨rfl,hI⟩:=hI
   by_cases hg:good k
   ·left
    exact ⟨_,step k hk hI hg,rfl,fun j hj=>by
     by_cases e:j=k
     ·rw [e]; exact hg
     ·exact hI j (by omega)⟩
   ·exact .inr ⟨_,bad k hk hI hg,.inr ⟨fun h=>hg (h k hk),rfl⟩⟩)
  (fun t hI=>by
   obtain ⟨rfl,hI⟩:=hI
   exact ⟨_,done hI,.inl ⟨hI,rfl⟩⟩) (T 0) ⟨rfl,fun j hj=>by omega⟩
 obtain ⟨x,h1,h2⟩:=h
 rcases h2 with ⟨a,rfl⟩ | ⟨a,rfl⟩
 ·exact .inl ⟨a,h1⟩
 ·exact .inr ⟨a,h1⟩
end Go.Ab
namespace Go.Ab
open Go
theorem Qzh {n:Nat} {f:Nat → Int} {c:Int}:Qi n (fun k=>f k*c)=Qi n f*c:=by
 induction n with
 | zero=>simp [Qi]
 | succ n ih=>simp only [Qi,ih]; rw [Int.add_mul]
theorem Qug {n:Nat} {f g:Nat → Int} (h:∀k,k < n→f k≤g k):Qi n f≤Qi n g:=by
 induction n with
 | zero=>exact Int.le_refl 0
 | succ n ih=>simp only [Qi]; have:=ih (fun k hk=>h k (by omega)); have:=h n (by omega); omega
theorem Qu3 {a b:Nat} {f:Nat → Int}:Qi (a*b) f=Qi a (fun x=>Qi b (fun y=>f (x*b+y))):=by
 induction a with
 | zero=>simp [Qi]
 | succ a ih=>rw [Nat.succ_mul,Qh4,ih]; simp only [Qi]
theorem Va {n:Nat} {f g:Nat → Nat} (h:∀k,k < n→f k=g k):Qk n f=Qk n g:=by
 induction n with
 | zero=>rfl
 | succ n ih=>simp only [Qk]; rw [ih (fun k hk=>h k (by omega)),h n (by omega)]
theorem Qu2 {n:Nat} {f:Nat → Nat} (h:∀k,k < n→1≤f k):1≤Qk n f:=by
 induction n with
 | zero=>simp [Qk]
 | succ n ih=>simp only [Qk]; exact Nat.le_trans (by simp) (Nat.mul_le_mul (ih fun k hk=>h k (by omega)) (h n (by omega)))
theorem Qfi {n j:Nat} {f:Nat → Nat} (h:j < n):Qk n (fun v=>if v=j then 1 else f v)*f j=Qk n f:=by
 induction n with
 | zero=>omega
 | succ n ih =>
  simp only [Qk]
  by_cases e:n=j
  ·subst e
   rw [if_pos rfl,Nat.mul_one,Va (g:=f) (fun k hk=>if_neg (by omega))]
  ·rw [if_neg e,←ih (by omega),Nat.mul_assoc,Nat.mul_comm (f n),←Nat.mul_assoc]
end Go.Ab
namespace Go.Ab
open Go
def Y8 (c w:Nat → Nat) (l:List Nat):Nat := l.foldl (fun r p=>r*c p+w p) 0
theorem Qp5 {c w:Nat → Nat} {l:List Nat} {p:Nat}:Y8 c w (l++[p])=Y8 c w l*c p+w p:=by simp [Y8]
theorem Qpm {c w:Nat → Nat} {l:List Nat} (h:∀p∈l,w p < c p):Y8 c w l < lprod c l:=by
 have key:∀(l:List Nat) (r R:Nat),r < R→(∀p∈l,w p < c p)→l.foldl (fun r p=>r*c p+w p) r < l.foldl (fun r p=>r*c p) R:=by
  intro l
  induction l with
  | nil=>intro r R h _; exact h
  | cons p l ih =>
   intro r R hr hp
   simp only [List.foldl_cons]
   refine ih _ _ ?_ (fun q hq=>hp q (List.mem_cons_of_mem _ hq))
   have h1:=hp p (by simp)
   have h2:(r+1)*c p≤R*c p:=Nat.mul_le_mul_right _ hr
   rw [Nat.succ_mul] at h2
   omega
 exact key l 0 1 (by omega) h
def NF.idx (D:NF) (v:Nat) (w:Nat → Nat):Nat := Y8 D.card w (D.par v)
def NF.wt (D:NF) (w:Nat → Nat) (v:Nat):Nat := D.W v (D.idx v w) (w v)
def NF.ok (D:NF) (w:Nat → Nat):Prop:=∀v,v < D.n→w v < D.card v
section
variable {D:NF} (V:VN D) {w:Nat → Nat}
include V
theorem VN.idx_lt (hw:D.ok w) {v:Nat} (hv:v < D.n):D.idx v w < D.rows v:=Qpm fun p hp=>hw p (V.par v hv p hp)
theorem VN.wt_le (hw:D.ok w) {v:Nat} (hv:v < D.n):D.wt w v≤60:=Nat.le_trans (V.W v _ _ hv (V.idx_lt hw hv) (hw v hv)) V.g60
theorem VN.weigh0 (hw:D.ok w) {v:Nat} (hv:v < D.n):Qd fuel (Vq (D.node v) D.net (Qn D.n w)) (0,0)=some (D.idx v w:Int):=by
 have hl:(D.node v).Parents.length=(D.par v).length:=by simp [NF.node]
 refine Ze (fun k=>((Y8 D.card w ((D.par v).take k):Int),(k:Int))) (D.par v).length _ rfl (fun k hk=>?_) ?_ (by have:=V.len v hv; omega)
 ·have hlen:=V.len v hv
  have hp:=V.par v hv (D.par v)[k] (List.getElem_mem hk)
  have hpar:lkI (D.node v).Parents (k:Int)=some (((D.par v)[k]:Nat):Int):=by rw [Yx (by rw [hl]; exact hk)]; simp [NF.node]
  have h1:Y8 D.card w ((D.par v).take k) < lprod D.card ((D.par v).take k):=Qpm fun p hp=>hw p (V.par v hv p (List.mem_of_mem_take hp))
  have h2:lprod D.card ((D.par v).take k)≤4^8:=Nat.le_trans (Qe5 fun p hp=>(V.card p (V.par v hv p (List.mem_of_mem_take hp))).2) (Nat.pow_le_pow_right (by omega) (by rw [List.length_take]; omega))
  have h3:Y8 D.card w ((D.par v).take (k+1))=Y8 D.card w ((D.par v).take k)*D.card (D.par v)[k]+w (D.par v)[k]:=by rw [Jf hk,Qp5]
  have hc:=(V.card _ hp).2
  have hww:=hw _ hp
  have h4:Y8 D.card w ((D.par v).take k)*D.card (D.par v)[k]≤65536*4:=Nat.mul_le_mul (by omega) hc
  unfold Vq
  simp only
  rw [if_pos (by rw [hl]; simpa using hk),hpar]
  simp only [Option.bind_some]
  rw [V.node hp]
  simp only [Option.bind_some]
  rw [Zr hp]
  simp only [Option.bind_some]
  have e1:((Y8 D.card w ((D.par v).take k):Nat):Int)*(D.node (D.par v)[k]).Card=((Y8 D.card w ((D.par v).take k)*D.card (D.par v)[k]:Nat):Int):=by simp [NF.node]
  have w1:zw ((Y8 D.card w ((D.par v).take k)*D.card (D.par v)[k]:Nat):Int)=((Y8 D.card w ((D.par v).take k)*D.card (D.par v)[k]:Nat):Int):=w64 (by omega)
  rw [e1,w1,w64 (by omega),w64 (by omega),h3]
  simp
 ·unfold Vq
  simp only
  rw [if_neg (by rw [hl]; simp)]
  simp [NF.idx]
end
structure SF where
 N:Nat
 R:Nat
 F:Nat
 T:Nat
def SF.sh (s:SF):Tapi_Shift:=⟨s.N,s.R,s.F,s.T⟩
def NF.hit (D:NF) (s:SF) (w:Nat → Nat):Bool:=D.idx s.N w==s.R
def NF.change (D:NF) (s:SF) (w:Nat → Nat):Int:=if D.hit s w=true then (if w s.N=s.F then -1 else if w s.N=s.T then 1 else 0) else 0
def NF.rest (D:NF) (s:SF) (w:Nat → Nat):Nat → Nat := fun k=>Qk k fun v=>if v=s.N∧D.hit s w=true then 1 else D.wt w v
def NF.own (D:NF) (s:SF) (w:Nat → Nat):Nat := if D.hit s w=true then D.wt w s.N else 1
def NF.fA (D:NF) (s:SF) (w:Nat → Nat):Int:=(D.rest s w D.n:Int)*D.own s w
def NF.fB (D:NF) (s:SF) (w:Nat → Nat):Int:=(D.rest s w D.n:Int)*D.change s w
section
variable {D:NF} (V:VN D) {w:Nat → Nat} {s:SF}
include V
theorem VN.rest_le (hw:D.ok w) {k:Nat} (hk:k≤D.n):D.rest s w k≤167961600000000:=by
 have h1:D.rest s w k≤60^k:=J7 fun v hv=>by
  split
  ·omega
  ·exact V.wt_le hw (by omega)
 have h2:(60:Nat)^k≤60^8:=Nat.pow_le_pow_right (by omega) (by have:=V.n8; omega)
 exact Nat.le_trans h1 (Nat.le_trans h2 (by decide))
theorem VN.own_le (hw:D.ok w) (hs:s.N < D.n):D.own s w≤60:=by
 unfold NF.own
 split
 ·exact V.wt_le hw hs
 ·omega
theorem VN.weigh_eq (hw:D.ok w) (hs:s.N < D.n):J0 D.net (Qn D.n w) s.sh=some (D.fA s w,D.fB s w):=by
 have hlen:D.net.Nodes.length=D.n:=Qj
 have hn8:=V.n8
 have hrun:Qd fuel (Vp D.net (Qn D.n w) s.sh) (1,1,0,0)=some ((D.rest s w D.n:Int),(D.own s w:Int),D.change s w):=by
  refine Ze (fun k=>((D.rest s w k:Int),(if s.N < k then (D.own s w:Int) else 1),(if s.N < k then D.change s w else 0),(k:Int))) D.n _ (by simp [NF.rest,Qk]) (fun k hk=>?_) ?_ (by omega)
  ·have hb:=V.rest_le (s:=s) hw (k:=k) (by omega)
   have hwt:=V.wt_le hw hk
   have hr1:D.rest s w (k+1)=D.rest s w k*(if k=s.N∧D.hit s w=true then 1 else D.wt w k):=rfl
   have hi:=V.idx_lt hw hk
   have hm:D.rest s w k*D.wt w k≤167961600000000*60:=Nat.mul_le_mul hb hwt
   unfold Vp
   simp only
   rw [if_pos (by rw [hlen]; simpa using hk),V.node hk]
   simp only [Option.bind_some]
   rw [V.weigh0 hw hk]
   simp only [Option.bind_some]
   rw [show lkI (D.node k).Rows (D.idx k w:Int)=some (Qb (D.card k) fun x=>(D.W k (D.idx k w) x:Int)) from Qp hi]
   simp only [Option.bind_some]
   rw [Zr hk]
   simp only [Option.bind_some]
   rw [show lkI (Qb (D.card k) fun x=>(D.W k (D.idx k w) x:Int)) (w k:Int)=some (D.wt w k:Int) from Qp (hw k hk)]
   simp only [Option.bind_some]
   have hi1:zw ((k:Int)+1)=((k+1:Nat):Int):=by rw [w64 (by omega)]; omega
   rw [hi1]
   by_cases hN:k=s.N
   ·subst hN
    by_cases hh:D.hit s w=true
    ·have hR:D.idx s.N w=s.R:=by simpa [NF.hit] using hh
     rw [if_neg (by simp [SF.sh,hR])]
     have hrest:D.rest s w (s.N+1)=D.rest s w s.N:=by rw [hr1,if_pos ⟨rfl,hh⟩,Nat.mul_one]
     rw [hrest]
     simp only [Nat.lt_irrefl,if_false,Nat.lt_succ_self,if_true,NF.own,NF.change,hh]
     by_cases hF:w s.N=s.F
     ·rw [if_pos (by simp [SF.sh,hF])]; simp [hF]
     ·rw [if_neg (by simp [SF.sh]; omega)]
      by_cases hT:w s.N=s.T
      ·rw [if_pos (by simp [SF.sh,hT]),if_neg hF,if_pos hT]
      ·rw [if_neg (by simp [SF.sh]; omega),if_neg hF,if_neg hT]
    ·have hR:D.idx s.N w≠s.R:=by simpa [NF.hit] using hh
     rw [if_pos (by simp [SF.sh]; omega)]
     have hrest:D.rest s w (s.N+1)=D.rest s w s.N*D.wt w s.N:=by rw [hr1,if_neg (fun h=>hh h.2)]
     rw [hrest]
     simp only [Nat.lt_irrefl,if_false,Nat.lt_succ_self,if_true,NF.own,NF.change,hh]
     rw [w64 (by rw [←Int.natCast_mul]; omega)]
     simp
   ·have e1:(s.N < k+1)=(s.N < k):=propext (by omega)
    rw [if_pos (by simp [SF.sh]; omega)]
    have hrest:D.rest s w (k+1)=D.rest s w k*D.wt w k:=by rw [hr1,if_neg (fun h=>hN h.1)]
    rw [hrest]
    simp only [e1]
    rw [w64 (by rw [←Int.natCast_mul]; omega)]
    simp
  ·unfold Vp
   simp only
   rw [if_neg (by rw [hlen]; simp)]
   simp [hs]
 have hb:=V.rest_le (s:=s) hw (k:=D.n) (Nat.le_refl _)
 have ho:=V.own_le (s:=s) hw hs
 have hm:D.rest s w D.n*D.own s w≤167961600000000*60:=Nat.mul_le_mul hb ho
 have hc:D.change s w=-1∨D.change s w=0∨D.change s w=1:=by
  unfold NF.change
  split
  ·split
   ·exact .inl rfl
   ·split
    ·exact .inr (.inr rfl)
    ·exact .inr (.inl rfl)
  ·exact .inr (.inl rfl)
 unfold J0
 rw [hrun]
 simp only [Option.bind_some]
 rw [w64 (by rw [←Int.natCast_mul]; omega),w64 (by rcases hc with h | h | h <;> rw [h] <;> omega)]
 rfl
theorem VN.fB_bound (hw:D.ok w):-167961600000000≤D.fB s w∧D.fB s w≤167961600000000:=by
 have hb:=V.rest_le (s:=s) hw (k:=D.n) (Nat.le_refl _)
 have hc:D.change s w=-1∨D.change s w=0∨D.change s w=1:=by
  unfold NF.change
  split
  ·split
   ·exact .inl rfl
   ·split
    ·exact .inr (.inr rfl)
    ·exact .inr (.inl rfl)
  ·exact .inr (.inl rfl)
 unfold NF.fB
 rcases hc with h | h | h <;> rw [h] <;> omega
theorem VN.fA_eq (hs:s.N < D.n):D.fA s w=(Qk D.n (D.wt w):Int):=by
 unfold NF.fA NF.rest NF.own
 by_cases hh:D.hit s w=true
 ·rw [if_pos hh,Va (g:=fun v=>if v=s.N then 1 else D.wt w v) (fun k _=>by simp [hh]),←Int.natCast_mul,Qfi hs]
 ·rw [if_neg hh,Va (g:=D.wt w) (fun k _=>by rw [if_neg (fun h=>hh h.2)])]; simp
end
end Go.Ab
namespace Go.Ab
open Go
def TM (D:NF) (E:Nat → Int) (f:(Nat → Nat)→Int):Nat → Nat → (Nat → Nat)→Int
 | 0,_,w=>f w
 | d+1,i,w=>Qi (D.card i) fun x=>if E i=-1∨E i=(x:Int) then TM D E f d (i+1) (Zd w i x) else 0
def PC (D:NF):Nat → Nat → Nat
 | 0,_=>1
 | d+1,i=>D.card i*PC D d (i+1)
theorem Qxr {D:NF} (V:VN D):∀(d i:Nat),i+d=D.n→1≤PC D d i
 | 0,_,_=>Nat.le_refl 1
 | d+1,i,h=>by
  have:=Qxr V d (i+1) (by omega)
  have h2:=(V.card i (by omega)).1
  exact Nat.le_trans (by simp) (Nat.mul_le_mul h2 this)
theorem Qk5 {D:NF}:∀(d i:Nat),Qk i D.card*PC D d i=Qk (i+d) D.card
 | 0,i=>by simp [PC]
 | d+1,i=>by
  have:=Qk5 (D:=D) d (i+1)
  simp only [PC]
  rw [←Nat.mul_assoc]
  rw [show i+(d+1)=i+1+d by omega,←this]; rfl
def Ext (D:NF) (f:(Nat → Nat)→Int):Prop:=∀w w',(∀j,j < D.n→w j=w' j)→f w=f w'
theorem Qrh {D:NF} {E:Nat → Int} {f:(Nat → Nat)→Int} (hf:Ext D f):∀(d i:Nat) (w w':Nat → Nat),i+d=D.n→(∀j,j < i→w j=w' j)→TM D E f d i w=TM D E f d i w'
 | 0,i,w,w',h,hw=>hf w w' fun j hj=>hw j (by omega)
 | d+1,i,w,w',h,hw=>by
  unfold TM
  refine Z9 fun x _=>?_
  rw [Qrh hf d (i+1) (Zd w i x) (Zd w' i x) (by omega) (fun j hj=>?_)]
  unfold Zd
  by_cases e:j=i
  ·rw [if_pos e,if_pos e]
  ·rw [if_neg e,if_neg e]; exact hw j (by omega)
theorem BD.mono {m p:Nat} {a:Int} (h:BD m a) (hp:m≤p):BD p a:=by
 unfold BD KK at *; omega
theorem BD.fit {m:Nat} {a:Int} (h:BD m a) (hm:m≤1024):-9223372036854775808≤a∧a≤9223372036854775807:=by unfold BD KK at h; omega
theorem Qjk {D:NF} {w:Nat → Nat} {i x:Nat} (h:D.ok w) (hx:x < D.card i):D.ok (Zd w i x):=fun v hv=>by
 unfold Zd
 by_cases e:v=i
 ·rw [if_pos e,e]; exact hx
 ·rw [if_neg e]; exact h v hv
theorem Ql8 {D:NF} {E:Nat → Int} {f:(Nat → Nat)→Int} (hf:∀w,D.ok w→BD 1 (f w)):∀(d i:Nat) (w:Nat → Nat),i+d=D.n→D.ok w→BD (PC D d i) (TM D E f d i w)
 | 0,i,w,_,hw=>hf w hw
 | d+1,i,w,h,hw=>by
  unfold TM PC
  refine BD.sum fun x hx=>?_
  split
  ·exact Ql8 hf d (i+1) _ (by omega) (Qjk hw hx)
  ·exact BD.zero
def Jm (A B:Nat → Int):Nat → Int × Int × Int × Int:=fun x=>(A x,B x,0,0)
def at' (v x:Nat) (f:(Nat → Nat)→Int):(Nat → Nat)→Int:=fun w=>if w v=x then f w else 0
section
variable {D:NF} (V:VN D) {s:SF} {E:Nat → Int} {v:Nat}
theorem Qt9 (V:VN D) {w w':Nat → Nat} (h:∀j,j < D.n→w j=w' j) {u:Nat} (hu:u < D.n):D.idx u w=D.idx u w':=by
 unfold NF.idx Y8
 have:∀(l:List Nat) (r:Nat),(∀p∈l,p < D.n)→l.foldl (fun r p=>r*D.card p+w p) r=l.foldl (fun r p=>r*D.card p+w' p) r:=by
  intro l
  induction l with
  | nil=>intros; rfl
  | cons p l ih =>
   intro r hp
   simp only [List.foldl_cons]
   rw [h p (hp p (by simp)),ih _ (fun q hq=>hp q (List.mem_cons_of_mem _ hq))]
 exact this _ 0 (V.par u hu)
theorem Qrv (V:VN D) {w w':Nat → Nat} (h:∀j,j < D.n→w j=w' j) {u:Nat} (hu:u < D.n):D.wt w u=D.wt w' u:=by
 unfold NF.wt; rw [Qt9 V h hu,h u hu]
theorem Qok (V:VN D) (hs:s.N < D.n) {w w':Nat → Nat} (h:∀j,j < D.n→w j=w' j):D.hit s w=D.hit s w':=by unfold NF.hit; rw [Qt9 V h hs]
theorem Qqu (V:VN D) (hs:s.N < D.n) {w w':Nat → Nat} (h:∀j,j < D.n→w j=w' j):D.rest s w D.n=D.rest s w' D.n:=by
 unfold NF.rest
 exact Va fun u hu=>by rw [Qok V hs h,Qrv V h hu]
theorem Qya (V:VN D) (hs:s.N < D.n):Ext D (D.fA s):=fun w w' h=>by
 unfold NF.fA NF.own; rw [Qqu V hs h,Qok V hs h,Qrv V h hs]
theorem Qxg (V:VN D) (hs:s.N < D.n):Ext D (D.fB s):=fun w w' h=>by
 unfold NF.fB NF.change; rw [Qqu V hs h,Qok V hs h,h s.N hs]
theorem Qsu {f:(Nat → Nat)→Int} (hv:v < D.n) (hf:Ext D f) {x:Nat}:Ext D (at' v x f):=fun w w' h=>by
 unfold at'; rw [h v hv,hf w w' h]
theorem Qkx (V:VN D) (hs:s.N < D.n):∀w,D.ok w→BD 1 (D.fA s w):=fun w hw=>by
 rw [V.fA_eq hs]
 have h1:Qk D.n (D.wt w)≤60^D.n:=J7 fun u hu=>V.wt_le hw hu
 have h2:(60:Nat)^D.n≤60^8:=Nat.pow_le_pow_right (by omega) V.n8
 have h3:(60:Nat)^8=167961600000000:=by decide
 unfold BD KK; omega
theorem Qle (V:VN D):∀w,D.ok w→BD 1 (D.fB s w):=fun w hw=>by
 have:=V.fB_bound (s:=s) hw
 unfold BD KK; omega
theorem Qni {f:(Nat → Nat)→Int} (hf:∀w,D.ok w→BD 1 (f w)) {x:Nat}:∀w,D.ok w→BD 1 (at' v x f w):=fun w hw=>by
 unfold at'
 split
 ·exact hf w hw
 ·exact BD.zero
def SM (D:NF) (E:Nat → Int) (f:(Nat → Nat)→Int) (d i:Nat) (w:Nat → Nat) (x:Nat):Int:=Qi x fun y=>if E i=-1∨E i=(y:Int) then TM D E f d (i+1) (Zd w i y) else 0
theorem Qqb {f:(Nat → Nat)→Int} (hf:∀w,D.ok w→BD 1 (f w)) {d i x:Nat} {w:Nat → Nat} (hi:i+1+d=D.n) (hw:D.ok w) (hx:x≤D.card i):BD (x*PC D d (i+1)) (SM D E f d i w x):=by
 refine BD.sum fun y hy=>?_
 split
 ·exact Ql8 hf d (i+1) _ hi (Qjk hw (by omega))
 ·exact BD.zero
def RS (D:NF) (s:SF) (E:Nat → Int) (v m d i:Nat) (w:Nat → Nat) (A B:Nat → Int) (C Dd:Int):Prop :=
 D.ok w∧(∀x,BD m (A x)∧BD m (B x))∧BD m C∧BD m Dd∧m+PC D d i≤1024∧i+d=D.n
theorem Qpp (V:VN D) (hs:s.N < D.n) (hv:v < D.n) (hE:∀j,j < D.n→-1≤E j∧E j < D.card j):∀(d N:Nat),d < N→∀(i m:Nat) (w:Nat → Nat) (A B:Nat → Int) (C Dd:Int),RS D s E v m d i w A B C Dd →
  ∃w',D.ok w'∧(∀j,j < i→w' j=w j)∧Qh5 (Q2 D.net s.sh (v:Int) (Qb D.n E)) N ((i:Int),Qb (D.card v) (Jm A B),C,Dd,Qn D.n w) =
   some (Qb (D.card v) (Jm (fun x=>A x+TM D E (at' v x (D.fA s)) d i w) (fun x=>B x+TM D E (at' v x (D.fB s)) d i w)),C+TM D E (D.fA s) d i w,Dd+TM D E (D.fB s) d i w,Qn D.n w')
 | d,0,h,_,_,_,_,_,_,_,_=>by omega
 | 0,N+1,_,i,m,w,A,B,C,Dd,⟨hw,hAB,hC,hD,hm,hi⟩=>by
  have hm':m+1≤1024:=hm
  refine ⟨w,hw,fun _ _=>rfl,?_⟩
  show Q2 _ _ _ _ _ _=_
  unfold Q2
  simp only
  rw [if_pos (by rw [Qbh]; simp; omega),V.weigh_eq hw hs]
  simp only [Option.bind_some]
  rw [Zr hv]
  simp only [Option.bind_some]
  rw [show lkI (Qb (D.card v) (Jm A B)) (w v:Int)=some (Jm A B (w v)) from Qp (hw v hv)]
  simp only [Option.bind_some,Jm,Int.toNat_natCast]
  have f1:=((hAB (w v)).1.add (Qkx V hs w hw)).fit hm'
  have f2:=((hAB (w v)).2.add (Qle V (s:=s) w hw)).fit hm'
  have f3:=(hC.add (Qkx V hs w hw)).fit hm'
  have f4:=(hD.add (Qle V (s:=s) w hw)).fit hm'
  rw [w64 f1,w64 f2,w64 f3,w64 f4]
  simp only [TM]
  rw [Zs,Zs]
  congr 2
  refine Qh fun x hx=>?_
  simp only [Jm,at']
  by_cases e:x=w v
  ·subst e; simp
  ·rw [if_neg e,if_neg e,if_neg (Ne.symm e),if_neg (Ne.symm e)]; simp
 | d+1,N+1,hN,i,m,w,A,B,C,Dd,⟨hw,hAB,hC,hD,hm,hi⟩=>by
  have hin:i < D.n:=by omega
  have hc:=V.card i hin
  have hPC:PC D (d+1) i=D.card i*PC D d (i+1):=rfl
  have hEi:=hE i hin
  have hloop:=Vb (body:=Vj (D.node i) (Qb D.n E) ((i:Int),Qb (D.card v) (Jm A B),C,Dd,Qn D.n w) (Qh5 (Q2 D.net s.sh (v:Int) (Qb D.n E)) N))
   (fun st=>∃(x:Nat) (w':Nat → Nat),x≤D.card i∧D.ok w'∧(∀j,j < i→w' j=w j)∧st=((x:Int),Qb (D.card v) (Jm (fun y=>A y+SM D E (at' v y (D.fA s)) d i w x) (fun y=>B y+SM D E (at' v y (D.fB s)) d i w x)),C+SM D E (D.fA s) d i w x,Dd+SM D E (D.fB s) d i w x,Qn D.n w'))
   (fun st=>D.card i - st.1.toNat)
   (fun r=>∃(w':Nat → Nat),D.ok w'∧(∀j,j < i→w' j=w j)∧r=(Qb (D.card v) (Jm (fun y=>A y+TM D E (at' v y (D.fA s)) (d+1) i w) (fun y=>B y+TM D E (at' v y (D.fB s)) (d+1) i w)),C+TM D E (D.fA s) (d+1) i w,Dd+TM D E (D.fB s) (d+1) i w,Qn D.n w'))
   (fun st hst=>?_) ((0:Int),Qb (D.card v) (Jm A B),C,Dd,Qn D.n w) ⟨0,w,by omega,hw,fun _ _=>rfl,by simp [SM,Qi]⟩ (by simp; omega)
  ·obtain ⟨r,h1,w',h2,h3,rfl⟩:=hloop
   refine ⟨w',h2,h3,?_⟩
   show Q2 _ _ _ _ (Qh5 (Q2 D.net s.sh (v:Int) (Qb D.n E)) N) _=_
   rw [Q2]
   simp only
   rw [if_neg (by rw [Qbh]; simp; omega),V.node hin]
   simp only [Option.bind_some]
   rw [h1]
   rfl
  ·obtain ⟨x,w',hx,hw',hag,rfl⟩:=hst
   have ew:zw ((x:Int)+1)=((x+1:Nat):Int):=by rw [w64 (by omega)]; omega
   have ei:zw ((i:Int)+1)=((i+1:Nat):Int):=by have:=V.n8; rw [w64 (by omega)]; omega
   unfold Vj
   simp only
   by_cases hlt:x < D.card i
   ·left
    rw [if_pos (by simp [NF.node]; omega),show lkI (Qb D.n E) (i:Int)=some (E i) from Qp hin]
    simp only [Option.bind_some]
    have hsm:∀f,SM D E f d i w (x+1)=SM D E f d i w x+(if E i=-1∨E i=(x:Int) then TM D E f d (i+1) (Zd w i x) else 0):=fun f=>rfl
    by_cases hok:E i=-1∨E i=(x:Int)
    ·
     have hxm:m+x*PC D d (i+1)+PC D d (i+1)≤1024:=by
      have:(x+1)*PC D d (i+1)≤D.card i*PC D d (i+1):=Nat.mul_le_mul_right _ hlt
      rw [Nat.succ_mul] at this
      omega
     have okw:D.ok (Zd w' i x):=Qjk hw' hlt
     obtain ⟨w2,k1,k2,k3⟩:=Qpp V hs hv hE d N (by omega) (i+1) (m+x*PC D d (i+1)) (Zd w' i x)
      (fun y=>A y+SM D E (at' v y (D.fA s)) d i w x) (fun y=>B y+SM D E (at' v y (D.fB s)) d i w x) (C+SM D E (D.fA s) d i w x) (Dd+SM D E (D.fB s) d i w x)
      ⟨okw,fun y=>⟨(hAB y).1.add (Qqb (Qni (Qkx V hs)) (by omega) hw (by omega)),(hAB y).2.add (Qqb (Qni (Qle V)) (by omega) hw (by omega))⟩,hC.add (Qqb (Qkx V hs) (by omega) hw (by omega)),hD.add (Qqb (Qle V) (by omega) hw (by omega)),hxm,by omega⟩
     have hcg:∀f,Ext D f→TM D E f d (i+1) (Zd w' i x)=TM D E f d (i+1) (Zd w i x):=fun f hf=>Qrh hf d (i+1) _ _ (by omega) fun j hj=>by
      by_cases e:j=i
      ·subst e; rw [Xc,Xc]
      ·rw [Jb e,Jb e]; exact hag j (by omega)
     have hset:(Qn D.n w').set i (x:Int)=Qn D.n (Zd w' i x):=by
      unfold Qn; rw [Zs]
      refine Qh fun j _=>?_
      unfold Zd
      split <;> rfl
     have fin:((if (E i==-1)=true then (lkI (Qn D.n w') (i:Int)).bind fun _=>(Qh5 (Q2 D.net s.sh (v:Int) (Qb D.n E)) N (zw ((i:Int)+1),Qb (D.card v) (Jm (fun y=>A y+SM D E (at' v y (D.fA s)) d i w x) (fun y=>B y+SM D E (at' v y (D.fB s)) d i w x)),C+SM D E (D.fA s) d i w x,Dd+SM D E (D.fB s) d i w x,List.set (Qn D.n w') (Int.toNat (i:Int)) (x:Int))).bind fun x27=>some (Qm.next (zw ((x:Int)+1),x27.1,x27.2.1,x27.2.2.1,x27.2.2.2))
       else if (E i==(x:Int))=true then (lkI (Qn D.n w') (i:Int)).bind fun _=>(Qh5 (Q2 D.net s.sh (v:Int) (Qb D.n E)) N (zw ((i:Int)+1),Qb (D.card v) (Jm (fun y=>A y+SM D E (at' v y (D.fA s)) d i w x) (fun y=>B y+SM D E (at' v y (D.fB s)) d i w x)),C+SM D E (D.fA s) d i w x,Dd+SM D E (D.fB s) d i w x,List.set (Qn D.n w') (Int.toNat (i:Int)) (x:Int))).bind fun x27=>some (Qm.next (zw ((x:Int)+1),x27.1,x27.2.1,x27.2.2.1,x27.2.2.2))
       else some (Qm.next (zw ((x:Int)+1),Qb (D.card v) (Jm (fun y=>A y+SM D E (at' v y (D.fA s)) d i w x) (fun y=>B y+SM D E (at' v y (D.fB s)) d i w x)),C+SM D E (D.fA s) d i w x,Dd+SM D E (D.fB s) d i w x,Qn D.n w'))):Option (Qm (Int × (List (Int × Int × Int × Int)) × Int × Int × (List Int)) ((List (Int × Int × Int × Int)) × Int × Int × (List Int)))) =
       some (Qm.next (((x+1:Nat):Int),Qb (D.card v) (Jm (fun y=>A y+SM D E (at' v y (D.fA s)) d i w (x+1)) (fun y=>B y+SM D E (at' v y (D.fB s)) d i w (x+1))),C+SM D E (D.fA s) d i w (x+1),Dd+SM D E (D.fB s) d i w (x+1),Qn D.n w2)):=by
      rw [ew,ei,Int.toNat_natCast,hset,Zr hin]
      simp only [Option.bind_some]
      rw [k3]
      simp only [Option.bind_some]
      rw [hcg _ (Qya V hs),hcg _ (Qxg V hs)]
      have e2:∀y,TM D E (at' v y (D.fA s)) d (i+1) (Zd w' i x)=TM D E (at' v y (D.fA s)) d (i+1) (Zd w i x):=fun y=>hcg _ (Qsu hv (Qya V hs))
      have e3:∀y,TM D E (at' v y (D.fB s)) d (i+1) (Zd w' i x)=TM D E (at' v y (D.fB s)) d (i+1) (Zd w i x):=fun y=>hcg _ (Qsu hv (Qxg V hs))
      simp only [hsm,if_pos hok,e2,e3,←Int.add_assoc]
      rcases hok with h | h
      ·rw [if_pos (by simp [h])]
      ·by_cases h':E i=-1
       ·rw [if_pos (by simp [h'])]
       ·rw [if_neg (by simp [h']),if_pos (by simp [h])]
     refine ⟨_,fin,⟨x+1,w2,by omega,k1,fun j hj=>by rw [k2 j (by omega),Jb (by omega),hag j hj],rfl⟩,by simp; omega⟩
    ·rw [if_neg (by simp; exact fun h=>hok (.inl h)),if_neg (by simp; exact fun h=>hok (.inr h)),ew]
     refine ⟨_,rfl,⟨x+1,w',by omega,hw',hag,?_⟩,by simp; omega⟩
     simp only [hsm,if_neg hok,Int.add_zero]
   ·right
    have:x=D.card i:=by omega
    subst this
    rw [if_neg (by simp [NF.node])]
    exact ⟨_,rfl,w',hw',hag,rfl⟩
end
end Go.Ab
namespace Go.Ab
open Go
def SW (D:NF) (E:Nat → Int) (f:(Nat → Nat)→Int):Int:=TM D E f D.n 0 (fun _=>0)
def Qgr (D:NF) (E:Nat → Int):Prop:=∀j,j < D.n→-1≤E j∧E j < D.card j
def Qbe (D:NF) (s:SF) (E:Nat → Int) (v:Nat) (x:Nat):Int × Int × Int × Int:=(SW D E (at' v x (D.fA s)),SW D E (at' v x (D.fB s)),SW D E (D.fA s),SW D E (D.fB s))
section
variable {D:NF} {s:SF} {E:Nat → Int} {v:Nat}
theorem Qwd (V:VN D):PC D D.n 0≤1024:=by
 have:=Qk5 (D:=D) D.n 0
 simp only [Qk,Nat.one_mul,Nat.zero_add] at this
 rw [this]; exact V.worlds
theorem Qy5 (V:VN D) (hs:s.N < D.n) (hv:v < D.n) (hE:Qgr D E):Ym D.net (Qb D.n E) (v:Int) s.sh=some (Qb (D.card v) (Qbe D s E v)):=by
 have hn8:=V.n8
 have hcv:=V.card v hv
 have hlen:D.net.Nodes.length=D.n:=Qj
 obtain ⟨w',h1,h2,h3⟩:=Qpp V hs hv hE D.n fuel (by show D.n < 1152921504606846976; omega) 0 0 (fun _=>0) (fun _=>0) (fun _=>0) 0 0
  ⟨fun u hu=>(V.card u hu).1,fun _=>⟨BD.zero,BD.zero⟩,BD.zero,BD.zero,by have:=Qwd V; omega,by omega⟩
 unfold Ym
 rw [V.node hv]
 simp only [Option.bind_some]
 have hcard:(D.node v).Card=(D.card v:Int):=rfl
 rw [if_pos (by rw [hcard]; omega),if_pos (by rw [hlen]; omega)]
 rw [hcard,hlen,Int.toNat_natCast,Int.toNat_natCast,Jr,Jr]
 have e0:(Qb (D.card v) fun _=>((0:Int),(0:Int),(0:Int),(0:Int)))=Qb (D.card v) (Jm (fun _=>0) (fun _=>0)):=rfl
 have e1:(Qb D.n fun _=>(0:Int))=Qn D.n (fun _=>0):=rfl
 rw [e0,e1,show ((0:Int),Qb (D.card v) (Jm (fun _=>0) (fun _=>0)),(0:Int),(0:Int),Qn D.n (fun _=>0))=(((0:Nat):Int),Qb (D.card v) (Jm (fun _=>0) (fun _=>0)),(0:Int),(0:Int),Qn D.n (fun _=>0)) from rfl,h3]
 simp only [Option.bind_some,Int.zero_add]
 have hrun:Qd fuel (Ye (Qb (D.card v) (Jm (fun x=>TM D E (at' v x (D.fA s)) D.n 0 fun _=>0) (fun x=>TM D E (at' v x (D.fB s)) D.n 0 fun _=>0)),TM D E (D.fA s) D.n 0 (fun _=>0),TM D E (D.fB s) D.n 0 (fun _=>0),Qn D.n w'))
   (0,Qb (D.card v) (Jm (fun x=>TM D E (at' v x (D.fA s)) D.n 0 fun _=>0) (fun x=>TM D E (at' v x (D.fB s)) D.n 0 fun _=>0)))=some (Qb (D.card v) (Qbe D s E v)):=by
  refine Ze (fun k=>((k:Int),Qb (D.card v) fun x=>if x < k then Qbe D s E v x else Jm (fun x=>TM D E (at' v x (D.fA s)) D.n 0 fun _=>0) (fun x=>TM D E (at' v x (D.fB s)) D.n 0 fun _=>0) x)) (D.card v) _ (by simp) (fun k hk=>?_) ?_ (by omega)
  ·unfold Ye
   simp only
   rw [if_pos (by rw [Qj]; simpa using hk),Qp hk]
   simp only [Option.bind_some,Nat.lt_irrefl,if_false,Jm,Int.toNat_natCast]
   rw [Zs,Zs,w64 (by omega)]
   congr 3
   refine Qh fun x hx=>?_
   by_cases e:x=k
   ·subst e; simp [Qbe,SW]
   ·rw [if_neg e,if_neg e]
    by_cases e2:x < k
    ·rw [if_pos e2,if_pos (by omega)]
    ·rw [if_neg e2,if_neg (by omega)]
  ·unfold Ye
   simp only
   rw [if_neg (by rw [Qj]; simp)]
   congr 2
   refine Qh fun x hx=>?_
   rw [if_pos hx]
 rw [hrun]
 rfl
theorem Q1h (V:VN D) (hs:s.N < D.n) (hv:v < D.n) (hE:Qgr D E) {x:Nat} (hx:x < D.card v) (hc:Yk D.net (Qb D.n E) (v:Int) s.sh [(x:Int)]=some 0) :
  Zf D.net (Qb D.n E) (v:Int) (x:Int) s.sh=some (Qbe D s E v x,0):=by
 unfold Zf
 rw [hc]
 simp only [Option.bind_some]
 rw [if_neg (by simp),Qy5 V hs hv hE]
 simp only [Option.bind_some]
 rw [Qp hx]
 rfl
theorem Qq0 {f g:(Nat → Nat)→Int}:∀(d i:Nat) (w:Nat → Nat),TM D E (fun w=>f w+g w) d i w=TM D E f d i w+TM D E g d i w
 | 0,_,_=>rfl
 | d+1,i,w=>by
  unfold TM
  rw [←Qh7]
  refine Z9 fun x _=>?_
  split
  ·exact Qq0 d (i+1) _
  ·rfl
theorem Qsf {f:(Nat → Nat)→Int} {c:Int}:∀(d i:Nat) (w:Nat → Nat),TM D E (fun w=>f w*c) d i w=TM D E f d i w*c
 | 0,_,_=>rfl
 | d+1,i,w=>by
  unfold TM
  rw [←Qzh]
  refine Z9 fun x _=>?_
  split
  ·exact Qsf d (i+1) _
  ·exact (Int.zero_mul c).symm
theorem Qu6 {f g:(Nat → Nat)→Int} (h:∀w,D.ok w→f w≤g w):∀(d i:Nat) (w:Nat → Nat),i+d=D.n→D.ok w→TM D E f d i w≤TM D E g d i w
 | 0,_,w,_,hw=>h w hw
 | d+1,i,w,hi,hw=>by
  unfold TM
  refine Qug fun x hx=>?_
  split
  ·exact Qu6 h d (i+1) _ (by omega) (Qjk hw hx)
  ·exact Int.le_refl 0
theorem Q0w {f g:(Nat → Nat)→Int} (h:∀w,D.ok w→f w=g w) {d i:Nat} {w:Nat → Nat} (hi:i+d=D.n) (hw:D.ok w):TM D E f d i w=TM D E g d i w :=
 Int.le_antisymm (Qu6 (fun w hw=>Int.le_of_eq (h w hw)) d i w hi hw) (Qu6 (fun w hw=>Int.le_of_eq (h w hw).symm) d i w hi hw)
theorem ok0 (V:VN D):D.ok (fun _=>0):=fun u hu=>(V.card u hu).1
end
end Go.Ab
namespace Go.Ab
open Go
section
variable {D:NF} {E:Nat → Int}
def PS (D:NF) (k:Nat):Nat := PC D (D.n - k) k
theorem Qoe {k:Nat} (h:k < D.n):PS D k=D.card k*PS D (k+1):=by
 unfold PS
 rw [show D.n - k=(D.n - (k+1))+1 by omega]; rfl
theorem Qyh:PS D D.n=1:=by unfold PS; rw [Nat.sub_self]; rfl
theorem Qwv (V:VN D) {k:Nat} (h:k≤D.n):1≤PS D k:=Qxr V _ _ (by omega)
def dig (D:NF) (W k:Nat):Nat := W / PS D (k+1) % D.card k
theorem Qrr (V:VN D) (W:Nat):D.ok (dig D W):=fun v hv=>Nat.mod_lt _ (V.card v hv).1
def okE (E:Nat → Int) (j x:Nat):Prop:=E j=-1∨E j=(x:Int)
instance instokE (E:Nat → Int) (j x:Nat):Decidable (okE E j x):=by unfold okE; infer_instance
def Kn (n:Nat) (E:Nat → Int) (i:Nat) (w:Nat → Nat):Prop:=∀j,i≤j→j < n→okE E j (w j)
def ix (c w:Nat → Nat):List Nat → Nat
 | []=>0
 | p::l=>w p*lprodR c l+ix c w l
where lprodR (c:Nat → Nat):List Nat → Nat
 | []=>1
 | p::l=>c p*lprodR c l
theorem Qsc (c w:Nat → Nat):∀(l:List Nat) (r:Nat),l.foldl (fun r p=>r*c p+w p) r=r*ix.lprodR c l+ix c w l
 | [],r=>by simp [ix,ix.lprodR]
 | p::l,r=>by
  simp only [List.foldl_cons,Qsc c w l,ix,ix.lprodR]
  rw [Nat.add_mul,Nat.mul_assoc,Nat.add_assoc]
theorem Qwj {c w:Nat → Nat} {l:List Nat}:Y8 c w l=ix c w l:=by
 unfold Y8; rw [Qsc]; simp
theorem Qxk {c:Nat → Nat} {l:List Nat} (h:∀p∈l,c p≤4):ix.lprodR c l≤4^l.length:=by
 induction l with
 | nil=>simp [ix.lprodR]
 | cons p l ih =>
  simp only [ix.lprodR,List.length_cons,Nat.pow_succ]
  rw [Nat.mul_comm]
  exact Nat.mul_le_mul (ih fun q hq=>h q (List.mem_cons_of_mem _ hq)) (h p (by simp))
def mix (D:NF) (i:Nat) (w:Nat → Nat) (W:Nat):Nat → Nat := fun j=>if j < i then w j else dig D W j
theorem Q3h (V:VN D) {i j:Nat} (hij:i≤j) (hj:j < D.n):∃M,PS D i=M*(D.card j*PS D (j+1)):=by
 obtain ⟨k,rfl⟩:=Nat.exists_eq_add_of_le hij
 induction k generalizing i with
 | zero=>exact ⟨1,by rw [Nat.add_zero,Nat.one_mul,Qoe (by omega)]⟩
 | succ k ih =>
  obtain ⟨M,hM⟩:=ih (i:=i+1) (by omega) (by omega)
  refine ⟨D.card i*M,?_⟩
  rw [Qoe (by omega),hM]
  rw [show i+1+k=i+(k+1) by omega,Nat.mul_assoc]
open Classical in
theorem Qnw (V:VN D) {f:(Nat → Nat)→Int} (hf:Ext D f):∀(d i:Nat) (w:Nat → Nat),i+d=D.n →
  Qi (PC D d i) (fun W=>if Kn D.n E i (mix D i w W) then f (mix D i w W) else 0)=TM D E f d i w
 | 0,i,w,h=>by
  simp only [PC,Qi,TM,Int.zero_add]
  rw [if_pos (show Kn D.n E i (mix D i w 0) from fun j h1 h2=>by omega)]
  exact hf _ _ fun j hj=>by unfold mix; rw [if_pos (by omega)]
 | d+1,i,w,h=>by
  have hi:i < D.n:=by omega
  simp only [PC,TM]
  rw [Qu3]
  refine Z9 fun x hx=>?_
  have hP:PC D d (i+1)=PS D (i+1):=by unfold PS; rw [show D.n - (i+1)=d by omega]
  have hpos:=Qwv V (k:=i+1) (by omega)
  have hag:∀y,y < PC D d (i+1)→∀j,j < D.n→mix D i w (x*PC D d (i+1)+y) j=mix D (i+1) (Zd w i x) y j:=fun y hy j hj=>by
   unfold mix
   by_cases h1:j < i
   ·rw [if_pos h1,if_pos (by omega),Jb (by omega)]
   ·rw [if_neg h1]
    by_cases h2:j=i
    ·subst h2
     rw [if_pos (by omega),Xc]
     unfold dig
     rw [hP] at hy ⊢
     rw [Nat.mul_comm,Nat.mul_add_div (by omega),Nat.div_eq_of_lt hy,Nat.add_zero,Nat.mod_eq_of_lt hx]
    ·rw [if_neg (by omega)]
     unfold dig
     rw [hP]
     obtain ⟨M,hM⟩:=Q3h V (i:=i+1) (j:=j) (by omega) hj
     have hpj:=Qwv V (k:=j+1) (by omega)
     rw [hM,show x*(M*(D.card j*PS D (j+1)))+y=PS D (j+1)*(D.card j*(x*M))+y by
      rw [Nat.mul_comm (D.card j),←Nat.mul_assoc,←Nat.mul_assoc,Nat.mul_comm (PS D (j+1)),Nat.mul_comm (D.card j),Nat.mul_right_comm (x*M)]]
     rw [Nat.mul_add_div (by omega),Nat.mul_add_mod]
  rw [Z9 (g:=fun y=>if okE E i x then (if Kn D.n E (i+1) (mix D (i+1) (Zd w i x) y) then f (mix D (i+1) (Zd w i x) y) else 0) else 0) (fun y hy=>?_)]
  ·by_cases hok:okE E i x
   ·rw [Z9 (g:=fun y=>if Kn D.n E (i+1) (mix D (i+1) (Zd w i x) y) then f (mix D (i+1) (Zd w i x) y) else 0) (fun y _=>if_pos hok),Qnw V hf d (i+1) _ (by omega),if_pos (show E i=-1∨E i=(x:Int) from hok)]
   ·rw [Z9 (g:=fun _=>0) (fun y _=>if_neg hok),Qf5,if_neg (show ¬ (E i=-1∨E i=(x:Int)) from hok)]
  ·have e:=hag y hy
   have hiff:Kn D.n E i (mix D i w (x*PC D d (i+1)+y))↔okE E i x∧Kn D.n E (i+1) (mix D (i+1) (Zd w i x) y):=by
    constructor
    ·intro hm
     refine ⟨?_,fun j h1 h2=>?_⟩
     ·have:=hm i (by omega) hi
      rw [e i hi] at this
      unfold mix at this
      rwa [if_pos (by omega),Xc] at this
     ·have:=hm j (by omega) h2
      rwa [e j h2] at this
    ·rintro ⟨h1,h2⟩ j h3 h4
     rw [e j h4]
     by_cases h5:j=i
     ·subst h5; unfold mix; rwa [if_pos (by omega),Xc]
     ·exact h2 j (by omega) h4
   by_cases hok:okE E i x
   ·rw [if_pos hok]
    by_cases hm:Kn D.n E (i+1) (mix D (i+1) (Zd w i x) y)
    ·rw [if_pos (hiff.2 ⟨hok,hm⟩),if_pos hm,hf _ _ e]
    ·rw [if_neg (fun c=>hm (hiff.1 c).2),if_neg hm]
   ·rw [if_neg (fun c=>hok (hiff.1 c).1),if_neg hok]
end
end Go.Ab
namespace Go.Ab
open Go
section
variable {D:NF}
theorem Qzv (X:VX D) {E:Nat → Int} (hE:Qgr D E) {s:SF} {v x:Nat} (hs:s.N < D.n) (hR:s.R < D.rows s.N) (hF:s.F < D.card s.N) (hT:s.T < D.card s.N) (hFT:s.F≠s.T) (hv:v < D.n) (hx:x < D.card v) :
  Yk D.net (Qb D.n E) (v:Int) s.sh [(x:Int)]=some 0:=by
 have V:=X.vn
 have hn:=V.n8
 have hlen:D.net.Nodes.length=D.n:=Qj
 obtain ⟨order,hr⟩:=Qoh X
 have hce:Zj D.net (Qb D.n E)=some 0:=by
  unfold Zj
  rw [hr]
  simp only [Option.bind_some]
  rw [if_neg (by simp),if_neg (by rw [Qj,hlen]; simp)]
  refine Z5 (Ze (s0:=(0:Int)) (r:=Sum.inr ()) (fun k=>(k:Int)) D.n rfl (fun k hk=>?_) ?_ (by omega)) rfl
  ·have:=hE k hk
   unfold Zb
   rw [if_pos (by rw [Qj]; simpa using hk),Qp hk]
   simp only [Option.bind_some]
   rw [if_neg (by simp; omega),Zr hk]
   simp only [Option.bind_some]
   rw [if_neg (by simp; omega),w64 (by omega)]
   rfl
  ·unfold Zb
   rw [if_neg (by rw [Qj]; simp)]
 unfold Yk Qgi
 rw [hr]
 simp only [Option.bind_some]
 rw [if_neg (by simp),hce]
 simp only [Option.bind_some]
 rw [if_neg (by simp),if_neg (by simp),if_neg (by rw [hlen]; simp; omega)]
 refine Z5 (Ze (s0:=(0:Int)) (r:=Sum.inr ()) (fun k=>(k:Int)) 1 rfl (fun k hk=>?_) ?_ (by omega)) ?_
 ·have:k=0:=by omega
  subst this
  unfold Kf
  rw [if_pos (by simp),show lkI [(x:Int)] ((0:Nat):Int)=some (x:Int) from rfl]
  simp only [Option.bind_some]
  rw [if_neg (by simp),V.node hv]
  simp only [Option.bind_some]
  rw [if_neg (by simp [NF.node]; omega)]
  rfl
 ·unfold Kf
  rw [if_neg (by simp)]
 ·simp only
  rw [show s.sh.Node=(s.N:Int) from rfl,show s.sh.Row=(s.R:Int) from rfl,show s.sh.From=(s.F:Int) from rfl,show s.sh.To=(s.T:Int) from rfl]
  rw [if_neg (by simp),if_neg (by rw [hlen]; simp; omega),V.node hs]
  simp only [Option.bind_some]
  rw [if_neg (by simp),if_neg (by simp [NF.node,Qj]; omega),if_neg (by simp),if_neg (by simp [NF.node]; omega),if_neg (by simp),if_neg (by simp [NF.node]; omega),if_neg (by simp; omega)]
end
end Go.Ab
namespace Go.Ab
open Go
theorem V8 {cs:List AV} (h:WT (.int .u8) cs):∃a:Int,cs=[(AV.int .u8) a]∧(Lit.int .u8 a).wf=true:=by
 obtain ⟨n,rfl,w⟩:=h
 exact ⟨n,rfl,w⟩
theorem el5 {x:AV} (h:WT (.int .u8) x.flat ∧ (if false then x=.agg x.flat else x.cell=true)):∃a:Int,x=(AV.int .u8) a∧(Lit.int .u8 a).wf=true:=by
 obtain ⟨a,h1,h2⟩:=V8 h.1
 rw [Qo0 h.2] at h1
 exact ⟨a,(List.cons.inj h1).1,h2⟩
theorem Q0k {cs:List AV} (h:WT (.slice true false 1 (.int .u8)) cs):∃a:(List Int),cs=[(eL true (AV.int .u8)) a]∧(a.length≤maxLen∧∀y0∈a,(Lit.int .u8 y0).wf=true):=by
 obtain ⟨xs,rfl,hl,hx⟩:=h
 obtain ⟨l,rfl,hr⟩:=Qmk (enc:=(AV.int .u8)) (R:=fun a=>(Lit.int .u8 a).wf=true) (fun x hm=>el5 (hx x hm))
 exact ⟨l,rfl,by simpa using hl,hr⟩
def Xx (x:Qw):Prop:=((Lit.int .u8 x.Card).wf=true)∧((Lit.int .u8 x.Parents).wf=true)∧((x.W.length≤maxLen∧∀y0∈x.W,(Lit.int .u8 y0).wf=true))
theorem Qgv {cs:List AV} (h:WT (.cat (.int .u8) (.cat (.int .u8) (.cat (.slice true false 1 (.int .u8)) .unit))) cs):∃x:Qw,AV.agg cs=eTharuspexref05_Piece x∧Xx x:=by
 obtain ⟨_,_,rfl,a0,r0⟩:=h
 obtain ⟨v0,e0,w0⟩:=V8 a0
 cases e0
 obtain ⟨_,_,rfl,a1,r1⟩:=r0
 obtain ⟨v1,e1,w1⟩:=V8 a1
 cases e1
 obtain ⟨_,_,rfl,a2,r2⟩:=r1
 obtain ⟨v2,e2,w2⟩:=Q0k a2
 cases e2
 cases r2
 exact ⟨⟨v0,v1,v2⟩,rfl,⟨w0,w1,w2⟩⟩
theorem Q4g {x:AV} (h:WT (.cat (.int .u8) (.cat (.int .u8) (.cat (.slice true false 1 (.int .u8)) .unit))) x.flat ∧ (if true then x=.agg x.flat else x.cell=true)):∃a:Qw,x=eTharuspexref05_Piece a∧Xx a:=by
 obtain ⟨a,h1,h2⟩:=Qgv h.1
 have h3:x=.agg x.flat := h.2
 exact ⟨a,h3.trans h1,h2⟩
theorem Q4u {cs:List AV} (h:WT (.slice false true 3 (.cat (.int .u8) (.cat (.int .u8) (.cat (.slice true false 1 (.int .u8)) .unit)))) cs):∃a:(List Qw),cs=[(eL false eTharuspexref05_Piece) a]∧(a.length≤maxLen∧∀y0∈a,Xx y0):=by
 obtain ⟨xs,rfl,hl,hx⟩:=h
 obtain ⟨l,rfl,hr⟩:=Qmk (enc:=eTharuspexref05_Piece) (R:=fun a=>Xx a) (fun x hm=>Q4g (hx x hm))
 exact ⟨l,rfl,by simpa using hl,hr⟩
def Jp (x:Qe):Prop:=((Lit.int .u8 x.Grain).wf=true)∧((x.Nodes.length≤maxLen∧∀y0∈x.Nodes,Xx y0))∧((x.Order.length≤maxLen∧∀y0∈x.Order,(Lit.int .u8 y0).wf=true))
theorem Qgf {cs:List AV} (h:WT (.cat (.int .u8) (.cat (.slice false true 3 (.cat (.int .u8) (.cat (.int .u8) (.cat (.slice true false 1 (.int .u8)) .unit)))) (.cat (.slice true false 1 (.int .u8)) .unit))) cs):∃x:Qe,AV.agg cs=Qg4 x∧Jp x:=by
 obtain ⟨_,_,rfl,a0,r0⟩:=h
 obtain ⟨v0,e0,w0⟩:=V8 a0
 cases e0
 obtain ⟨_,_,rfl,a1,r1⟩:=r0
 obtain ⟨v1,e1,w1⟩:=Q4u a1
 cases e1
 obtain ⟨_,_,rfl,a2,r2⟩:=r1
 obtain ⟨v2,e2,w2⟩:=Q0k a2
 cases e2
 cases r2
 exact ⟨⟨v0,v1,v2⟩,rfl,⟨w0,w1,w2⟩⟩
theorem Qju {cs:List AV} (h:WT (.int .i64) cs):∃a:Int,cs=[eI a]∧(Lit.int .i64 a).wf=true:=by
 obtain ⟨n,rfl,w⟩:=h
 exact ⟨n,rfl,w⟩
theorem el3 {x:AV} (h:WT (.int .i64) x.flat ∧ (if false then x=.agg x.flat else x.cell=true)):∃a:Int,x=eI a∧(Lit.int .i64 a).wf=true:=by
 obtain ⟨a,h1,h2⟩:=Qju h.1
 rw [Qo0 h.2] at h1
 exact ⟨a,(List.cons.inj h1).1,h2⟩
def Qb4 (x:V4):Prop:=((Lit.int .u8 x.What).wf=true)∧((Lit.int .u8 x.At).wf=true)∧((Lit.int .u8 x.Row).wf=true)∧((Lit.int .i64 x.N).wf=true)
theorem Qgz {cs:List AV} (h:WT (.cat (.int .u8) (.cat (.int .u8) (.cat (.int .u8) (.cat (.int .i64) .unit)))) cs):∃x:V4,AV.agg cs=Qii x∧Qb4 x:=by
 obtain ⟨_,_,rfl,a0,r0⟩:=h
 obtain ⟨v0,e0,w0⟩:=V8 a0
 cases e0
 obtain ⟨_,_,rfl,a1,r1⟩:=r0
 obtain ⟨v1,e1,w1⟩:=V8 a1
 cases e1
 obtain ⟨_,_,rfl,a2,r2⟩:=r1
 obtain ⟨v2,e2,w2⟩:=V8 a2
 cases e2
 obtain ⟨_,_,rfl,a3,r3⟩:=r2
 obtain ⟨v3,e3,w3⟩:=Qju a3
 cases e3
 cases r3
 exact ⟨⟨v0,v1,v2,v3⟩,rfl,⟨w0,w1,w2,w3⟩⟩
theorem Q4x {cs:List AV} (h:WT (.cat (.int .u8) (.cat (.int .u8) (.cat (.int .u8) (.cat (.int .u8) (.cat (.int .u8) (.cat (.int .u8) (.cat (.int .u8) (.cat (.int .u8) .unit)))))))) cs):∃x:(Int × Int × Int × Int × Int × Int × Int × Int),AV.agg cs=(fun x:(Int × Int × Int × Int × Int × Int × Int × Int)=>AV.agg [.int .u8 x.1,.int .u8 x.2.1,.int .u8 x.2.2.1,.int .u8 x.2.2.2.1,.int .u8 x.2.2.2.2.1,.int .u8 x.2.2.2.2.2.1,.int .u8 x.2.2.2.2.2.2.1,.int .u8 x.2.2.2.2.2.2.2]) x∧((Lit.int .u8 x.1).wf=true∧(Lit.int .u8 x.2.1).wf=true∧(Lit.int .u8 x.2.2.1).wf=true∧(Lit.int .u8 x.2.2.2.1).wf=true∧(Lit.int .u8 x.2.2.2.2.1).wf=true∧(Lit.int .u8 x.2.2.2.2.2.1).wf=true∧(Lit.int .u8 x.2.2.2.2.2.2.1).wf=true∧(Lit.int .u8 x.2.2.2.2.2.2.2).wf=true):=by
 obtain ⟨_,_,rfl,a0,r0⟩:=h
 obtain ⟨v0,e0,w0⟩:=V8 a0
 cases e0
 obtain ⟨_,_,rfl,a1,r1⟩:=r0
 obtain ⟨v1,e1,w1⟩:=V8 a1
 cases e1
 obtain ⟨_,_,rfl,a2,r2⟩:=r1
 obtain ⟨v2,e2,w2⟩:=V8 a2
 cases e2
 obtain ⟨_,_,rfl,a3,r3⟩:=r2
 obtain ⟨v3,e3,w3⟩:=V8 a3
 cases e3
 obtain ⟨_,_,rfl,a4,r4⟩:=r3
 obtain ⟨v4,e4,w4⟩:=V8 a4
 cases e4
 obtain ⟨_,_,rfl,a5,r5⟩:=r4
 obtain ⟨v5,e5,w5⟩:=V8 a5
 cases e5
 obtain ⟨_,_,rfl,a6,r6⟩:=r5
 obtain ⟨v6,e6,w6⟩:=V8 a6
 cases e6
 obtain ⟨_,_,rfl,a7,r7⟩:=r6
 obtain ⟨v7,e7,w7⟩:=V8 a7
 cases e7
 cases r7
 exact ⟨(v0,v1,v2,v3,v4,v5,v6,v7),rfl,⟨w0,w1,w2,w3,w4,w5,w6,w7⟩⟩
def Jn (x:Tharuspexref05_Known):Prop:=((Lit.int .u8 x.Which).wf=true)∧(((Lit.int .u8 x.V.1).wf=true∧(Lit.int .u8 x.V.2.1).wf=true∧(Lit.int .u8 x.V.2.2.1).wf=true∧(Lit.int .u8 x.V.2.2.2.1).wf=true∧(Lit.int .u8 x.V.2.2.2.2.1).wf=true∧(Lit.int .u8 x.V.2.2.2.2.2.1).wf=true∧(Lit.int .u8 x.V.2.2.2.2.2.2.1).wf=true∧(Lit.int .u8 x.V.2.2.2.2.2.2.2).wf=true))
theorem Qgs {cs:List AV} (h:WT (.cat (.int .u8) (.cat (.cat (.int .u8) (.cat (.int .u8) (.cat (.int .u8) (.cat (.int .u8) (.cat (.int .u8) (.cat (.int .u8) (.cat (.int .u8) (.cat (.int .u8) .unit)))))))) .unit)) cs):∃x:Tharuspexref05_Known,AV.agg cs=Qg1 x∧Jn x:=by
 obtain ⟨_,_,rfl,a0,r0⟩:=h
 obtain ⟨v0,e0,w0⟩:=V8 a0
 cases e0
 obtain ⟨_,_,rfl,a1,r1⟩:=r0
 obtain ⟨v1,e1,w1⟩:=Q4x a1
 cases e1
 cases r1
 exact ⟨⟨v0,v1⟩,rfl,⟨w0,w1⟩⟩
def Jt (x:Z0):Prop:=((Lit.int .u8 x.V).wf=true)∧((Lit.int .u8 x.Value).wf=true)∧((Lit.int .u8 x.Node).wf=true)∧((Lit.int .u8 x.Row).wf=true)∧((Lit.int .u8 x.From).wf=true)∧((Lit.int .u8 x.To).wf=true)
theorem Qgm {cs:List AV} (h:WT (.cat (.int .u8) (.cat (.int .u8) (.cat (.int .u8) (.cat (.int .u8) (.cat (.int .u8) (.cat (.int .u8) .unit)))))) cs):∃x:Z0,AV.agg cs=Qhg x∧Jt x:=by
 obtain ⟨_,_,rfl,a0,r0⟩:=h
 obtain ⟨v0,e0,w0⟩:=V8 a0
 cases e0
 obtain ⟨_,_,rfl,a1,r1⟩:=r0
 obtain ⟨v1,e1,w1⟩:=V8 a1
 cases e1
 obtain ⟨_,_,rfl,a2,r2⟩:=r1
 obtain ⟨v2,e2,w2⟩:=V8 a2
 cases e2
 obtain ⟨_,_,rfl,a3,r3⟩:=r2
 obtain ⟨v3,e3,w3⟩:=V8 a3
 cases e3
 obtain ⟨_,_,rfl,a4,r4⟩:=r3
 obtain ⟨v4,e4,w4⟩:=V8 a4
 cases e4
 obtain ⟨_,_,rfl,a5,r5⟩:=r4
 obtain ⟨v5,e5,w5⟩:=V8 a5
 cases e5
 cases r5
 exact ⟨⟨v0,v1,v2,v3,v4,v5⟩,rfl,⟨w0,w1,w2,w3,w4,w5⟩⟩
theorem Q4o {cs:List AV} (h:WT (.slice true false 1 (.int .i64)) cs):∃a:(List Int),cs=[(eL true eI) a]∧(a.length≤maxLen∧∀y0∈a,(Lit.int .i64 y0).wf=true):=by
 obtain ⟨xs,rfl,hl,hx⟩:=h
 obtain ⟨l,rfl,hr⟩:=Qmk (enc:=eI) (R:=fun a=>(Lit.int .i64 a).wf=true) (fun x hm=>el3 (hx x hm))
 exact ⟨l,rfl,by simpa using hl,hr⟩
def Qj8 (x:Tapi_Shift):Prop:=((Lit.int .i64 x.Node).wf=true)∧((Lit.int .i64 x.Row).wf=true)∧((Lit.int .i64 x.From).wf=true)∧((Lit.int .i64 x.To).wf=true)
theorem Qso {cs:List AV} (h:WT (.cat (.int .i64) (.cat (.int .i64) (.cat (.int .i64) (.cat (.int .i64) .unit)))) cs):∃x:Tapi_Shift,AV.agg cs=Qte x∧Qj8 x:=by
 obtain ⟨_,_,rfl,a0,r0⟩:=h
 obtain ⟨v0,e0,w0⟩:=Qju a0
 cases e0
 obtain ⟨_,_,rfl,a1,r1⟩:=r0
 obtain ⟨v1,e1,w1⟩:=Qju a1
 cases e1
 obtain ⟨_,_,rfl,a2,r2⟩:=r1
 obtain ⟨v2,e2,w2⟩:=Qju a2
 cases e2
 obtain ⟨_,_,rfl,a3,r3⟩:=r2
 obtain ⟨v3,e3,w3⟩:=Qju a3
 cases e3
 cases r3
 exact ⟨⟨v0,v1,v2,v3⟩,rfl,⟨w0,w1,w2,w3⟩⟩
def Qav (x:Xi):Prop:=(Jp x.N)∧(Qb4 x.C)∧(Jn x.K)∧(Jt x.D)∧((x.Raw.length≤maxLen∧∀y0∈x.Raw,(Lit.int .i64 y0).wf=true))∧((Lit.int .i64 x.V).wf=true)∧((Lit.int .i64 x.Value).wf=true)∧(Qj8 x.S)
theorem rdTharuspexlaw24_Story {cs:List AV} (h:WT (.cat (.cat (.int .u8) (.cat (.slice false true 3 (.cat (.int .u8) (.cat (.int .u8) (.cat (.slice true false 1 (.int .u8)) .unit)))) (.cat (.slice true false 1 (.int .u8)) .unit))) (.cat (.cat (.int .u8) (.cat (.int .u8) (.cat (.int .u8) (.cat (.int .i64) .unit)))) (.cat (.cat (.int .u8) (.cat (.cat (.int .u8) (.cat (.int .u8) (.cat (.int .u8) (.cat (.int .u8) (.cat (.int .u8) (.cat (.int .u8) (.cat (.int .u8) (.cat (.int .u8) .unit)))))))) .unit)) (.cat (.cat (.int .u8) (.cat (.int .u8) (.cat (.int .u8) (.cat (.int .u8) (.cat (.int .u8) (.cat (.int .u8) .unit)))))) (.cat (.slice true false 1 (.int .i64)) (.cat (.int .i64) (.cat (.int .i64) (.cat (.cat (.int .i64) (.cat (.int .i64) (.cat (.int .i64) (.cat (.int .i64) .unit)))) .unit)))))))) cs):∃x:Xi,AV.agg cs=eTharuspexlaw24_Story x∧Qav x:=by
 obtain ⟨_,_,rfl,a0,r0⟩:=h
 obtain ⟨v0,e0,w0⟩:=Qgf a0
 cases e0
 obtain ⟨_,_,rfl,a1,r1⟩:=r0
 obtain ⟨v1,e1,w1⟩:=Qgz a1
 cases e1
 obtain ⟨_,_,rfl,a2,r2⟩:=r1
 obtain ⟨v2,e2,w2⟩:=Qgs a2
 cases e2
 obtain ⟨_,_,rfl,a3,r3⟩:=r2
 obtain ⟨v3,e3,w3⟩:=Qgm a3
 cases e3
 obtain ⟨_,_,rfl,a4,r4⟩:=r3
 obtain ⟨v4,e4,w4⟩:=Q4o a4
 cases e4
 obtain ⟨_,_,rfl,a5,r5⟩:=r4
 obtain ⟨v5,e5,w5⟩:=Qju a5
 cases e5
 obtain ⟨_,_,rfl,a6,r6⟩:=r5
 obtain ⟨v6,e6,w6⟩:=Qju a6
 cases e6
 obtain ⟨_,_,rfl,a7,r7⟩:=r6
 obtain ⟨v7,e7,w7⟩:=Qso a7
 cases e7
 cases r7
 exact ⟨⟨v0,v1,v2,v3,v4,v5,v6,v7⟩,rfl,⟨w0,w1,w2,w3,w4,w5,w6,w7⟩⟩
theorem one40 {cs:List AV} (h:WT (.int .i8) cs):∃a:Int,cs=[(AV.int .i8) a]∧(Lit.int .i8 a).wf=true:=by
 obtain ⟨n,rfl,w⟩:=h
 exact ⟨n,rfl,w⟩
end Go.Ab
namespace Go.Ab
open Go
theorem Q1v {p0:Qe} (h:Jp p0):Quu p0:=by
 obtain ⟨h1,⟨h2,h3⟩,h4,h5⟩:=h
 exact ⟨bounds_u8 h1,fun x hx=>bounds_u8 (h5 x hx),fun p hp=>bounds_u8 (h3 p hp).1,fun p hp x hx=>bounds_u8 ((h3 p hp).2.2.2 x hx),fun p hp=>(h3 p hp).2.2.1⟩
structure DX (D:NF):Prop extends VX D where
 n5:D.n≤5
 c23:∀v,v < D.n→2≤D.card v∧D.card v≤3
section
variable {D:NF}
theorem DX.worlds (X:DX D):Qk D.n D.card≤243:=by
 have h1:Qk D.n D.card≤3^D.n:=J7 fun v hv=>(X.c23 v hv).2
 have h2:3^D.n≤3^5:=Nat.pow_le_pow_right (by omega) X.n5
 omega
theorem Qzw (X:DX D) {k:Tharuspexref05_Known} (hk:Jn k):∃E,Qgr D E∧Kd k D.net=some (Qb D.n E):=by
 have V:=X.vn
 have hn:=X.n5
 have hlen:D.net.Nodes.length=D.n:=Qj
 obtain ⟨_,k0,k1,k2,k3,k4,_⟩:=hk
 have hw:=Vb (body:=V5 D.net k) (fun s=>∃(i:Nat) (E:Nat → Int),i≤D.n∧(∀j,j < i→-1≤E j∧E j < D.card j)∧s=((i:Int),Qb i E))
  (fun s=>D.n - s.1.toNat) (fun r=>∃E,Qgr D E∧r=Qb D.n E) (fun s hs=>?_) ((0:Int),([]:List Int)) ⟨0,fun _=>0,by omega,fun j hj=>by omega,rfl⟩ (by simp; omega)
 ·obtain ⟨r,h1,E,h2,rfl⟩:=hw
  refine ⟨E,h2,?_⟩
  unfold Kd
  rw [h1]; rfl
 ·obtain ⟨i,E,hi,hE,rfl⟩:=hs
  by_cases hin:i < D.n
  ·left
   have hc:=V.card i hin
   have hnode:lkI D.net.Nodes (i:Int)=some (D.node i):=V.node hin
   have add:∀y:Int,-1≤y→y < D.card i→(∃s',some (Qm.next (((i+1:Nat):Int),Qb i E++[y]))=some (Qm.next (ρ:=List Int) s') ∧
     (∃(i:Nat) (E:Nat → Int),i≤D.n∧(∀j,j < i→-1≤E j∧E j < D.card j)∧s'=((i:Int),Qb i E))∧D.n - s'.1.toNat < D.n - (i:Int).toNat):=fun y h1 h2=>by
    refine ⟨_,rfl,⟨i+1,Zd E i y,hin,fun j hj=>?_,?_⟩,by simp; omega⟩
    ·by_cases e:j=i
     ·subst e; rw [Xc]; exact ⟨h1,h2⟩
     ·rw [Jb e]; exact hE j (by omega)
    ·rw [←K9,Xc]
     congr 2
     exact Qh fun j hj=>by rw [Jb (by omega)]
   have one:∀y:Int,(Lit.int .u8 y).wf=true→-1≤Int.tmod (zw y) (D.node i).Card∧Int.tmod (zw y) (D.node i).Card < D.card i:=fun y hy=>by
    have hb:=bounds_u8 hy
    have hp:(0:Int) < (D.card i:Int):=by omega
    rw [show (D.node i).Card=(D.card i:Int) from rfl,w64 (by omega),Jx hb.1]
    have h1:=Int.emod_nonneg y (show (D.card i:Int)≠0 by omega)
    have h2:=Int.emod_lt_of_pos y hp
    omega
   have hcard:(D.node i).Card≠0:=by show (D.card i:Int)≠0; omega
   have hll:∀y:Int,(Qb i E++[y]).length*8≤140737488355328:=fun y=>by simp [Qj]; omega
   have ek:zw ((i:Int)+1)=((i+1:Nat):Int):=by rw [w64 (by omega)]; omega
   unfold V5
   simp only
   rw [if_pos (by rw [hlen]; simpa using hin),if_pos Qeb]
   by_cases hb:((IntKind.u8.wrap (BitVec.ofInt (IntKind.bits .u8) (Int.fdiv k.Which (2^min (Int.toNat (zv (i:Int))) (IntKind.bits .u8))) &&& BitVec.ofInt (IntKind.bits .u8) 1).toNat)==1)=true
   ·rw [if_pos hb]
    have hcases:i=0∨i=1∨i=2∨i=3∨i=4:=by omega
    rcases hcases with rfl | rfl | rfl | rfl | rfl
    ·rw [if_pos (show ((0:Nat):Int)=0 from rfl),show lkI D.net.Nodes 0=some (D.node 0) from hnode]
     simp only [Option.bind_some]
     rw [if_pos hcard,if_pos (hll _)]
     exact add _ (one _ k0).1 (one _ k0).2
    ·rw [if_neg (by decide),if_pos (show ((1:Nat):Int)=1 from rfl),show lkI D.net.Nodes 1=some (D.node 1) from hnode]
     simp only [Option.bind_some]
     rw [if_pos hcard,if_pos (hll _)]
     exact add _ (one _ k1).1 (one _ k1).2
    ·rw [if_neg (by decide),if_neg (by decide),if_pos (show ((2:Nat):Int)=2 from rfl),show lkI D.net.Nodes 2=some (D.node 2) from hnode]
     simp only [Option.bind_some]
     rw [if_pos hcard,if_pos (hll _)]
     exact add _ (one _ k2).1 (one _ k2).2
    ·rw [if_neg (by decide),if_neg (by decide),if_neg (by decide),if_pos (show ((3:Nat):Int)=3 from rfl),show lkI D.net.Nodes 3=some (D.node 3) from hnode]
     simp only [Option.bind_some]
     rw [if_pos hcard,if_pos (hll _)]
     exact add _ (one _ k3).1 (one _ k3).2
    ·rw [if_neg (by decide),if_neg (by decide),if_neg (by decide),if_neg (by decide),if_pos (show ((4:Nat):Int)=4 from rfl),show lkI D.net.Nodes 4=some (D.node 4) from hnode]
     simp only [Option.bind_some]
     rw [if_pos hcard,if_pos (hll _)]
     exact add _ (one _ k4).1 (one _ k4).2
   ·rw [if_neg hb,if_pos (hll _),ek]
    exact add (-1) (by omega) (by omega)
  ·right
   have:i=D.n:=by omega
   subst this
   unfold V5
   rw [if_neg (by rw [hlen]; simp)]
   exact ⟨_,rfl,E,hE,rfl⟩
theorem Qwk {f:Nat → Nat} {l:List Nat} (h:∀p∈l,1≤f p):1≤lprod f l:=by
 have key:∀(l:List Nat) (R:Nat),1≤R→(∀p∈l,1≤f p)→1≤l.foldl (fun r p=>r*f p) R:=by
  intro l
  induction l with
  | nil=>intro R h _; exact h
  | cons p l ih=>intro R h hp; exact ih _ (Nat.mul_le_mul h (hp p (by simp))) fun q hq=>hp q (List.mem_cons_of_mem _ hq)
 exact key l 1 (Nat.le_refl 1) h
theorem Qn9 {y:Int} {c:Nat} (hy:(Lit.int .u8 y).wf=true) (hc:1≤c):∃r:Nat,r < c∧Int.tmod (zw y) (c:Int)=(r:Int):=by
 have hb:=bounds_u8 hy
 refine ⟨y.toNat % c,Nat.mod_lt _ (by omega),?_⟩
 rw [w64 (by omega),Jx hb.1,Int.natCast_emod,Int.toNat_of_nonneg hb.1]
theorem Qzm (X:DX D) {d:Z0} (hd:Jt d):∃(v x:Nat) (s:SF),v < D.n∧x < D.card v∧s.N < D.n∧s.R < D.rows s.N∧s.F < D.card s.N∧s.T < D.card s.N∧Ke d D.net=some ((v:Int),(x:Int),s.sh):=by
 have V:=X.vn
 have hn:=V.n1
 have hn5:=X.n5
 have hlen:D.net.Nodes.length=D.n:=Qj
 obtain ⟨d1,d2,d3,d4,d5,d6⟩:=hd
 obtain ⟨v,hv,ev⟩:=Qn9 d1 hn
 obtain ⟨N,hN,eN⟩:=Qn9 d3 hn
 have hcv:=X.c23 v hv
 have hcN:=X.c23 N hN
 have hrows:1≤D.rows N:=Qwk fun p hp=>(V.card p (V.par N hN p hp)).1
 have hrl:(D.node N).Rows.length=D.rows N:=by simp [NF.node,Qj]
 obtain ⟨x,hx,ex⟩:=Qn9 d2 (show 1≤D.card v by omega)
 obtain ⟨R,hR,eR⟩:=Qn9 d4 hrows
 obtain ⟨F,hF,eF⟩:=Qn9 d5 (show 1≤D.card N by omega)
 obtain ⟨t,ht,et⟩:=Qn9 d6 (show 1≤D.card N - 1 by omega)
 have em:(if (zw ((D.card N:Int) - 1)) > 1 then (zw ((D.card N:Int) - 1)) else 1)=((D.card N - 1:Nat):Int):=by
  rw [w64 (by omega)]
  split <;> omega
 have eT:Int.tmod (zw ((zw ((F:Int)+1))+(t:Int))) (D.card N:Int)=(((F+1+t) % D.card N:Nat):Int):=by
  have w1:zw ((F:Int)+1)=(F:Int)+1:=w64 (by omega)
  rw [w1,w64 (by omega),Jx (by omega)]
  simp
 refine ⟨v,x,⟨N,R,F,(F+1+t) % D.card N⟩,hv,hx,hN,hR,hF,Nat.mod_lt _ (by omega),?_⟩
 unfold Ke
 rw [hlen,if_pos (by omega),if_pos (by omega),eN,V.node hN]
 simp only [Option.bind_some]
 rw [hrl,show (D.node N).Card=(D.card N:Int) from rfl,if_pos (by omega),if_pos (by omega),em,if_pos (by omega),if_pos (by omega),ev,V.node hv]
 simp only [Option.bind_some]
 rw [show (D.node v).Card=(D.card v:Int) from rfl,if_pos (by omega),ex,eR,eF,et,eT]
 rfl
theorem Qkw {E:Nat → Int} {f:(Nat → Nat)→Int} (V:VN D) {m:Nat} (hm:Qk D.n D.card≤m) (hf:∀w,D.ok w→BD 1 (f w)):BD m (SW D E f):=by
 have h1:PC D D.n 0=Qk D.n D.card:=by have:=Qk5 (D:=D) D.n 0; simpa [Qk] using this
 exact (Ql8 hf D.n 0 _ (by omega) (ok0 V)).mono (by rw [h1]; exact hm)
end
theorem Qvi:Qd4=some true:=by kernel_rfl
end Go.Ab
namespace Go.Ab
open Go
set_option maxRecDepth 100000
theorem Q26 {i j:Nat} (h:i≤j):10000^i≤10000^j:=Nat.pow_le_pow_right (by omega) h
end Go.Ab
namespace Go.Ab
open Go
set_option maxRecDepth 100000
theorem Qxl {p q:Nat} (h:2*(p+1)≤q+1):Nat.log2 (p+1) < Nat.log2 (q+1):=by
 have h1:2^Nat.log2 (p+1)≤p+1:=(Nat.le_log2 (by omega)).1 (Nat.le_refl _)
 have h2:Nat.log2 (p+1)+1≤Nat.log2 (q+1):=(Nat.le_log2 (by omega)).2 (by rw [Nat.pow_succ]; omega)
 omega
theorem Q0e {x K:Nat} (h:(dgs x).length≤K):Nat.log2 (x+1)≤14*K+1:=by
 have h1:=Qra x
 have h2:=Q26 (i:=(dgs x).length) (j:=K) h
 have h3:(10000:Nat)^K≤(2^14)^K:=Nat.pow_le_pow_left (by omega) K
 rw [←Nat.pow_mul] at h3
 have h4:x+1 < 2^(14*K+1):=by rw [Nat.pow_succ]; omega
 have:=(Nat.log2_lt (by omega)).2 h4
 omega
def gm (x y:Nat):Nat := if y≤x then Nat.log2 (x*y+1) else Nat.log2 (x*y+1)+1
theorem Q1w {x y:Nat} (hy:0 < y):gm y (x % y) < gm x y:=by
 have hr:=Nat.mod_lt x hy
 unfold gm
 rw [if_pos (by omega)]
 by_cases h:y≤x
 ·rw [if_pos h]
  refine Qxl ?_
  have h1:y+x % y≤x:=by
   have:=Nat.div_add_mod x y
   have h2:1≤x / y:=(Nat.one_le_div_iff hy).2 h
   have h3:y*1≤y*(x / y):=Nat.mul_le_mul_left _ h2
   omega
  have h4:(2*(x % y)+1)*y≤x*y:=Nat.mul_le_mul_right _ (by omega)
  rw [Nat.add_mul,Nat.mul_assoc,Nat.mul_comm (x % y) y] at h4
  omega
 ·rw [if_neg h,Nat.mod_eq_of_lt (by omega),Nat.mul_comm]
  omega
theorem Qzc (x y:Nat):Nat.gcd x y=Nat.gcd y (x % y):=by
 rw [Nat.gcd_comm,Nat.gcd_rec,Nat.gcd_comm]
theorem Q29 {x y:Nat} (hx:(dgs x).length≤8000) (hy:(dgs y).length≤8000):gm x y < 1152921504606846976:=by
 have h1:=Qra x
 have h2:=Qra y
 have h3:(dgs (x*y)).length≤16000:=by
  have:(dgs (x*y)).length≤(dgs x).length+(dgs y).length:=Qd8 (by rw [Nat.pow_add]; exact Nat.mul_lt_mul'' h1 h2)
  omega
 have:=Q0e h3
 unfold gm
 split <;> omega
def MX:Nat := 4611686018427387903
def mkQ (neg:Bool) (n d:Nat):Tapi_Q × Bool :=
 if n / Nat.gcd n d≤MX then (if d / Nat.gcd n d≤MX then (⟨if neg then -((n / Nat.gcd n d:Nat):Int) else ((n / Nat.gcd n d:Nat):Int),((d / Nat.gcd n d:Nat):Int)⟩,true) else (⟨0,0⟩,false)) else (⟨0,0⟩,false)
end Go.Ab
namespace Go.Ab
open Go
theorem Qns {n:Int} (h:0≤n∧n < 18446744073709551616):zv n=n:=by
 obtain ⟨m,rfl⟩:=Int.eq_ofNat_of_zero_le h.1
 exact Qer (by omega)
theorem Qtp {n:Int} (h:n < 0∧-18446744073709551616≤n):zv n=n+18446744073709551616:=by
 simp [IntKind.wrap,IntKind.bits,IntKind.signed]; omega
theorem Qpc (a b:Nat) (ha:a < 18446744073709551616) (hb:b < 18446744073709551616):Ko (a:Int) (b:Int)=some ((Nat.gcd a b:Nat):Int):=by
 have l1:(dgs a).length≤5:=Qd8 (by omega)
 have l2:(dgs b).length≤5:=Qd8 (by omega)
 have lim:gm a b < 1152921504606846976:=Q29 (by omega) (by omega)
 unfold Ko
 rw [Qxt (fun s=>∃x y:Nat,s.1=(x:Int)∧s.2=(y:Int)∧Nat.gcd x y=Nat.gcd a b) (fun s=>gm s.1.toNat s.2.toNat) ((Nat.gcd a b:Nat):Int) ?_ _ ⟨a,b,rfl,rfl,rfl⟩ (by simpa using lim)]
 ·rfl
 ·rintro ⟨x0,y0⟩ ⟨x,y,h1,h2,h3⟩
  simp only at h1 h2
  subst h1; subst h2
  unfold Qe6
  simp only
  by_cases hy:y=0
  ·right
   subst hy
   rw [if_neg (by simp)]
   rw [Nat.gcd_zero_right] at h3
   rw [h3]
  ·left
   rw [if_pos (by simp; omega),if_pos (by omega),Jx (by omega)]
   refine ⟨_,rfl,⟨y,x % y,rfl,by simp,?_⟩,?_⟩
   ·rw [←h3,Qzc x y]
   ·simp only [Int.toNat_natCast]
    rw [show ((x:Int) % (y:Int)).toNat = x % y by rw [←Int.natCast_emod,Int.toNat_natCast]]
    exact Q1w (by omega)
theorem Ql3 {p:Int} (h:-9223372036854775808≤p∧p≤9223372036854775807):X9 p=some (p.natAbs:Int):=by
 unfold X9
 by_cases h0:p < 0
 ·rw [if_pos (by simpa using h0)]
  have e:zv p=p+18446744073709551616:=Qtp (by omega)
  rw [e,Qtp (by omega)]
  congr 1; omega
 ·rw [if_neg (by simpa using h0),Qns (by omega)]
  congr 1; omega
def Rt (q:Tapi_Q):Prop:=1≤q.D∧q.D≤4611686018427387903∧-4611686018427387903≤q.N∧q.N≤4611686018427387903∧Nat.gcd q.N.natAbs q.D.natAbs=1
instance instRt (q:Tapi_Q):Decidable (Rt q):=by unfold Rt; infer_instance
def I64 (q:Tapi_Q):Prop:=(-9223372036854775808≤q.N∧q.N≤9223372036854775807)∧(-9223372036854775808≤q.D∧q.D≤9223372036854775807)
theorem Rt.i64 {q:Tapi_Q} (h:Rt q):I64 q:=by obtain ⟨h1,h2,h3,h4,_⟩:=h; unfold I64; omega
theorem Qzg (q:Tapi_Q):J2 q=some (if Rt q then 0 else 5):=by
 unfold J2
 by_cases h1:q.D < 1
 ·rw [if_pos (by simpa using h1),if_neg (fun h=>by have:=h.1; omega)]
 rw [if_neg (by simpa using h1)]
 by_cases h2:q.D > 4611686018427387903
 ·rw [if_pos (by simpa using h2),if_neg (fun h=>by have:=h.2.1; omega)]
 rw [if_neg (by simpa using h2)]
 by_cases h3:q.N < -4611686018427387903
 ·rw [if_pos (by simpa using h3),if_neg (fun h=>by have:=h.2.2.1; omega)]
 rw [if_neg (by simpa using h3)]
 by_cases h4:q.N > 4611686018427387903
 ·rw [if_pos (by simpa using h4),if_neg (fun h=>by have:=h.2.2.2.1; omega)]
 rw [if_neg (by simpa using h4),Ql3 (by omega)]
 simp only [Option.bind_some]
 have eD:zv q.D=((q.D.natAbs:Nat):Int):=by rw [Qns (by omega)]; omega
 rw [eD,Qpc _ _ (by omega) (by omega)]
 simp only [Option.bind_some]
 by_cases h5:Nat.gcd q.N.natAbs q.D.natAbs=1
 ·rw [if_neg (by simp [h5]),if_pos ⟨by omega,by omega,by omega,by omega,h5⟩]
 ·rw [if_pos (by simpa using (fun e:((Nat.gcd q.N.natAbs q.D.natAbs:Nat):Int)=1=>h5 (by omega))),if_neg (fun h=>h5 h.2.2.2.2)]
def qI (n d:Int):Tapi_Q:=(mkQ (!((decide (n < 0))==(decide (d < 0)))) n.natAbs d.natAbs).1
theorem Q21 {n d:Int} (hd:d≠0) (hn:n.natAbs≤MX) (hd':d.natAbs≤MX):qI n d=⟨if (!((decide (n < 0))==(decide (d < 0))))=true then -((n.natAbs / Nat.gcd n.natAbs d.natAbs:Nat):Int) else ((n.natAbs / Nat.gcd n.natAbs d.natAbs:Nat):Int),((d.natAbs / Nat.gcd n.natAbs d.natAbs:Nat):Int)⟩:=by
 unfold qI mkQ
 have h1:=Nat.div_le_self n.natAbs (Nat.gcd n.natAbs d.natAbs)
 have h2:=Nat.div_le_self d.natAbs (Nat.gcd n.natAbs d.natAbs)
 rw [if_pos (by omega),if_pos (by omega)]
theorem Qt3 {n d:Int} (hn:n.natAbs≤MX) (hd:d.natAbs≤MX) (h0:d≠0):Jy n d=some (qI n d,0):=by
 have hMX:MX=4611686018427387903:=rfl
 unfold Jy
 rw [if_neg (by simpa using h0)]
 unfold Qbp
 rw [Ql3 (by omega),Ql3 (by omega)]
 simp only [Option.bind_some]
 rw [Qpc _ _ (by omega) (by omega)]
 simp only [Option.bind_some]
 have hg:0 < Nat.gcd n.natAbs d.natAbs:=Nat.gcd_pos_of_pos_right _ (by omega)
 rw [if_pos (by omega),if_pos (by omega)]
 have h1:=Nat.div_le_self n.natAbs (Nat.gcd n.natAbs d.natAbs)
 have h2:=Nat.div_le_self d.natAbs (Nat.gcd n.natAbs d.natAbs)
 have e1:Int.tdiv (n.natAbs:Int) ((Nat.gcd n.natAbs d.natAbs:Nat):Int)=((n.natAbs / Nat.gcd n.natAbs d.natAbs:Nat):Int):=by rw [Qly (by omega)]; simp
 have e2:Int.tdiv (d.natAbs:Int) ((Nat.gcd n.natAbs d.natAbs:Nat):Int)=((d.natAbs / Nat.gcd n.natAbs d.natAbs:Nat):Int):=by rw [Qly (by omega)]; simp
 rw [e1,e2,Q21 h0 hn hd]
 generalize n.natAbs / Nat.gcd n.natAbs d.natAbs=x at *
 generalize d.natAbs / Nat.gcd n.natAbs d.natAbs=y at *
 rw [Qns (by omega),Qns (by omega)]
 unfold Qis
 simp only
 rw [if_neg (by simp),if_neg (by simp; omega),if_neg (by simp),if_neg (by simp; omega)]
 generalize (!((decide (n < 0))==(decide (d < 0))))=b
 cases b
 ·rw [if_neg (by simp),if_neg (by simp),w64 (by omega),w64 (by omega)]; rfl
 ·rw [if_pos rfl,if_pos rfl,w64 (n:=(x:Int)) (by omega),w64 (n:=(y:Int)) (by omega),w64 (by omega)]
  simp
end Go.Ab
namespace Go.Ab
open Go
abbrev LN:=Nat → Int × Int × Int × Int
theorem Q3o {z:Int} (h:-1000≤z∧z≤1000):Rt ⟨z,1⟩:=⟨by simp,by simp,by simp only; omega,by simp only; omega,by simp⟩
section
variable {L:LN} {b aT aF:Nat}
end
section
variable {D:NF}
end
end Go.Ab
