/- Functions. No conditions. -/
import Derived.Test.YtgogkahhifkocaaDoorW13
import Derived.Test.YtgogkahhifkocaaDoorEng7
import Derived.Test.YtgogkahhifkocaaDoorW10
import Derived.KernelRfl
set_option maxRecDepth 100000
set_option maxHeartbeats 400000
set_option linter.all false
namespace Go.Ab
open Go
def Qhd (n:Nat) (q:Nat -> List Nat):Prop:=∃rk:Nat -> Nat,∀v,v < n->∀p∈q v,rk p < rk v
theorem Q2g:∀(l:List Nat),lprod (fun _=>1) l=1:=fun l=>by
 have:∀(l:List Nat) (r:Nat),l.foldl (fun r _=>r*1) r=r:=fun l=>by
  induction l with
  | nil=>intro r; rfl
  | cons a l ih=>intro r; simp only [List.foldl_cons]; rw [ih]; omega
 exact this l 1
theorem Qqm:∀n,Qi n (fun _=>1)=1
 | 0=>rfl
 | n+1=>by simp [Qi,Qqm n]
theorem Qy9 {n:Nat} {q:Nat -> List Nat} (h1:1<=n) (hn:n<=8) (hq:∀v,v < n->(q v).Pairwise (· < ·)/\(∀p∈q v,p < n)/\v ∉ q v) (hr:Qhd n q):∃o,Vz (Qe n fun v=>bitsOf (q v) 0)=some (o,true):=by
 let D:NF:=⟨n,1,fun _=>1,q,fun _ _ _=>1⟩
 have hrows:∀v,D.rows v=1:=fun v=>Q2g (q v)
 exact Qr7 (D:=D) ⟨⟨h1,hn,bA _,by show 1<=60; omega,fun v hv=>⟨bA _,by show 1<=4; omega⟩,fun v hv=>(hq v hv).2.1,fun v hv=>bY (Qej (hq v hv).1 (hq v hv).2.1) hn,fun v r x hv hr hx=>bA _,by show Qi n (fun _=>1)<=1024; rw [Qqm]; omega⟩,
  fun v hv=>(hq v hv).1,fun v hv=>(hq v hv).2.2,hr,fun v r hv hr=>rfl⟩
theorem Qyn {n:Nat} {q:Nat -> List Nat} (hn:n<=8) (hq:∀v,v < n->∀p∈q v,p < n):∃r,Qb fuel (Xl (Qe n fun v=>bitsOf (q v) 0)) ((0:Int),([]:List Int))=some r/\(r=.inl ()\/∃o,r=.inr o/\Qhd n q):=by
 have hlen:(Qe n fun v=>bitsOf (q v) 0).length=n:=Ql
 refine Jn (body:=Xl (Qe n fun v=>bitsOf (q v) 0)) (fun s=>∃l:List Nat,l.Nodup/\(∀p∈l,p < n)/\(∀i (hi:i < l.length),∀p∈q l[i],p∈l.take i)/\s=((bitsOf l 0:Int),nI l)) (fun s=>n - s.2.length) (fun r=>r=.inl ()\/∃o,r=.inr o/\Qhd n q)
  (fun s hs=>?_) ((0:Int),([]:List Int)) ⟨[],List.nodup_nil,by simp,by simp,rfl⟩ (by show n - 0 < 1152921504606846976; omega)
 obtain ⟨l,hnd,hl,hb,rfl⟩:=hs
 have hll:l.length<=n:=by
  have:=Qdi l (List.range n) hnd fun p hp=>cS.2 (hl p hp)
  simpa using this
 have hdl:bitsOf l 0 < 18446744073709551616:=K7 _ _ (by omega) fun p hp=>by have:=hl p hp; omega
 by_cases hc:l.length < n
 ·
  have hsr:=Qen (n:=n) (k0:=0) (by omega) (by omega) (fun i (_:Unit)=>i) (body:=V8 (Qe n fun v=>bitsOf (q v) 0) ((bitsOf l 0:Int),nI l)) (fun _ _=>True)
   (fun r=>r=.inr ()\/∃v,v < n/\v ∉ l/\(∀p∈q v,p∈l)/\r=.inl (((bitsOf (l++[v]) 0:Nat):Int),nI (l++[v])))
   (fun k _ _ hk _=>by
    have hbk:(bitsOf l 0).testBit k=decide (k∈l):=by rw [X8]; simp
    have hsl:bitsOf (q k) 0 < 18446744073709551616:=K7 _ _ (by omega) fun p hp=>by have:=hq k hk p hp; omega
    unfold V8
    dsimp only
    rw [hlen,aH (dlt hk),Qy hk,aC,aH (Z4 k),Qe2 hdl (by omega),hbk]
    by_cases hkl:k∈l
    ·left
     rw [aI (by simp [hkl])]
     exact ⟨(),rfl,trivial⟩
    ·rw [aH (by simp [hkl])]
     by_cases hsub:∀p∈q k,p∈l
     ·right
      rw [aH ((Qts hsl hdl).2 fun j hj=>by
       rw [X8] at hj
       rw [X8]
       simp at hj ⊢
       exact hsub j hj),aH (by rw [aO,Qap]; simp; omega),aH (Z4 k),Qnl hdl (by omega)]
      exact ⟨_,rfl,.inr ⟨k,hk,hkl,hsub,by rw [Qat]; unfold nI; simp⟩⟩
     ·left
      rw [aI (fun hc'=>hsub fun p hp=>by
       have:=(Qts hsl hdl).1 hc' p (by rw [X8]; simpa using hp)
       rw [X8] at this
       simpa using this)]
      exact ⟨(),rfl,trivial⟩)
   (fun _ _=>⟨_,by unfold V8; dsimp only; rw [hlen,aI (nlt n)],.inl rfl⟩) () trivial
  obtain ⟨r,e1,e2⟩:=hsr
  rcases e2 with rfl | ⟨v,hv,hvl,hvq,rfl⟩
  ·right
   refine ⟨_,?_,.inl rfl⟩
   unfold Xl
   dsimp only
   rw [Qap,hlen,aH (dlt hc),show (0:Int)=((0:Nat):Int) from rfl,e1]; rfl
  ·left
   refine ⟨(((bitsOf (l++[v]) 0:Nat):Int),nI (l++[v])),?_,⟨l++[v],?_,?_,?_,rfl⟩,by rw [Qap,Qap,aO]; simp; omega⟩
   ·unfold Xl
    dsimp only
    rw [Qap,hlen,aH (dlt hc),show (0:Int)=((0:Nat):Int) from rfl,e1]; rfl
   ·rw [List.nodup_append]
    exact ⟨hnd,by simp,fun a ha b hb=>by simp at hb; subst hb; exact fun e=>hvl (e ▸ ha)⟩
   ·intro p hp
    rcases bV.1 hp with h | h
    ·exact hl p h
    ·simp at h; omega
   ·intro i hi p hp
    rw [aO] at hi
    by_cases c:i < l.length
    ·rw [List.getElem_append_left c] at hp
     rw [List.take_append_of_le_length (by omega)]
     exact hb i c p hp
    ·have:i=l.length:=by simp at hi; omega
     subst this
     rw [List.getElem_append_right (by omega)] at hp
     simp at hp
     rw [List.take_append_of_le_length (by omega),cO]
     exact hvq p hp
 right
 refine ⟨_,?_,.inr ⟨nI l,rfl,fun v=>l.idxOf v,fun v hv p hp=>?_⟩⟩
 ·unfold Xl
  dsimp only
  rw [Qap,hlen,aI (by simp; omega)]
 have hvl:v∈l:=Qko hnd hl (by omega) v hv
 have hi:=List.idxOf_lt_length_of_mem hvl
 have:=hb (l.idxOf v) hi p (by rw [List.getElem_idxOf hi]; exact hp)
 exact Qoi this
theorem Qwt {n:Nat} {q:Nat -> List Nat} (h1:1<=n) (hn:n<=8) (hq:∀v,v < n->(q v).Pairwise (· < ·)/\(∀p∈q v,p < n)/\v ∉ q v) :
  (Qhd n q/\∃o,Vz (Qe n fun v=>bitsOf (q v) 0)=some (o,true))\/(¬ Qhd n q/\Vz (Qe n fun v=>bitsOf (q v) 0)=some ([],false)):=by
 by_cases hr:Qhd n q
 ·exact .inl ⟨hr,Qy9 h1 hn hq hr⟩
 ·right
  refine ⟨hr,?_⟩
  obtain ⟨r,e1,e2⟩:=Qyn hn fun v hv=>(hq v hv).2.1
  rcases e2 with rfl | ⟨o,rfl,h⟩
  ·unfold Vz
   rw [aH (by rw [Ql]; omega)]
   simp only [Int.toNat_zero,List.replicate_zero]
   rw [e1]; rfl
  ·exact absurd h hr
structure Qox (n:Nat) (g:Int) (F:Nat -> Ad):Prop where
 g1:1<=g
 g60:g<=60
 n1:1<=n
 n8:n<=8
 card:∀v,v < n->K1 (F v)
 worlds:Qi n (cardN F)<=1024
 node:∀v,v < n->Qpf n g F v
 rank:Qhd n (Yk F)
def Quy:Q9 × Int:=(⟨⟨0,[]⟩,[],[],[]⟩,50)
theorem Q00 {n:Nat} {g:Int} {F:Nat -> Ad} (hb:NB n F) (hbig:n<=1000000) :
  (Qox n g F/\∃o,Xn ⟨g,Qd n F⟩=some (⟨⟨g,Qd n F⟩,Qe n (cardN F),Qe n (setF F),o⟩,0))\/(¬ Qox n g F/\Xn ⟨g,Qd n F⟩=some Quy):=by
 have hlen:(Qd n F).length=n:=Q1
 unfold Xn
 dsimp only
 rw [hlen]
 by_cases c1:g < 1
 ·rw [aH (by simpa using c1)]; exact .inr ⟨fun h=>by have:=h.g1; omega,rfl⟩
 rw [aI (by simpa using c1)]
 by_cases c2:g > 60
 ·rw [aH (by simpa using c2)]; exact .inr ⟨fun h=>by have:=h.g60; omega,rfl⟩
 rw [aI (by simpa using c2)]
 by_cases c3:n < 1
 ·rw [aH (by simp; omega)]; exact .inr ⟨fun h=>by have:=h.n1; omega,rfl⟩
 rw [aI (by simp; omega)]
 by_cases c4:n > 8
 ·rw [aH (by simp; omega)]; exact .inr ⟨fun h=>by have:=h.n8; omega,rfl⟩
 rw [aI (by simp; omega),aH (by omega),aH (by omega),aR,Qgw]
 rcases Qzu (n:=n) (g:=g) (F:=F) (by omega) with ⟨hC,e⟩ | ⟨hC,e⟩
 ·rw [e,aC]
  dsimp only
  by_cases c5:Qi n (cardN F) > 1024
  ·rw [aH (by simp; omega)]; exact .inr ⟨fun h=>by have:=h.worlds; omega,rfl⟩
  rw [aI (by simp; omega)]
  rcases Q1x (n:=n) (g:=g) (w:=(Qi n (cardN F):Int)) (F:=F) (by omega) (by omega) (by omega) hb hC with ⟨hN,e⟩ | ⟨hN,e⟩
  ·rw [e,aC]
   dsimp only
   rcases Qwt (n:=n) (q:=Yk F) (by omega) (by omega) (fun v hv=>by
    obtain ⟨p1,p2,p3⟩:=Qa2 (hN v hv).1.1
    refine ⟨p2,p3,fun h=>(hN v hv).1.2 ?_⟩
    rw [p1]; unfold nI; exact cG.2 ⟨v,h,rfl⟩) with ⟨hR,o,e⟩ | ⟨hR,e⟩
   ·left
    refine ⟨⟨by omega,by omega,by omega,by omega,hC,by omega,hN,hR⟩,o,?_⟩
    rw [show (Qe n (setF F))=(Qe n fun v=>bitsOf (Yk F v) 0) from rfl,e,aC,aI (by simp)]
   ·right
    refine ⟨fun h=>hR h.rank,?_⟩
    rw [show (Qe n (setF F))=(Qe n fun v=>bitsOf (Yk F v) 0) from rfl,e,aC,aH (by simp)]; rfl
  ·rw [e,aC]; exact .inr ⟨fun h=>hN h.node,rfl⟩
 ·rw [e,aC]; exact .inr ⟨fun h=>hC h.card,rfl⟩
end Go.Ab
namespace Go.Ab
open Go
theorem Vc {a b:Nat} (ha:a < 18446744073709551616) (hb:b < 18446744073709551616):zv (zb (a:Int) ||| zb (b:Int)).toNat = ((a ||| b:Nat):Int):=by
 rw [BitVec.toNat_or,Y9 ha,Y9 hb,Zf (eF (n:=64) ha hb)]
theorem Qhv {a v:Nat} (ha:a < 18446744073709551616) (hv:v < 64):X9 (a:Int) (v:Int)=some (a.testBit v):=by
 unfold X9
 rw [Zf (show v < 18446744073709551616 by omega),aH (Z4 v),Qe2 ha hv]
 cases a.testBit v <;> rfl
def Zh (a b:Nat):Prop:=∀j,a.testBit j=true->b.testBit j=true
theorem Zh.refl {a:Nat}:Zh a a:=fun _ h=>h
theorem Zh.trans {a b c:Nat} (h:Zh a b) (k:Zh b c):Zh a c:=fun j hj=>k j (h j hj)
theorem Qg7 {a b:Nat}:Zh a (a ||| b):=fun j h=>by rw [bH,h]; rfl
theorem Qv0 {a b:Nat}:Zh b (a ||| b):=fun j h=>by rw [bH,h]; simp
theorem or_sub {a b c:Nat} (h:Zh a c) (k:Zh b c):Zh (a ||| b) c:=fun j hj=>by
 rw [bH,aM] at hj
 rcases hj with e | e
 ·exact h j e
 exact k j e
theorem sub_anti {a b:Nat} (h:Zh a b) (k:Zh b a):a=b:=dX fun j=>by
 cases ha:a.testBit j with
 | true=>rw [h j ha]
 | false=>cases hb:b.testBit j with
  | true=>rw [k j hb] at ha; cases ha
  | false=>rfl
def upV (S:Nat -> Nat) (s v:Nat):Nat := if s.testBit v then s ||| S v else s
def upR (n:Nat) (S:Nat -> Nat) (s:Nat):Nat := (List.range n).foldl (upV S) s
def ups (n:Nat) (S:Nat -> Nat):Nat -> Nat -> Nat
 | 0,s=>s
 | k+1,s=>upR n S (ups n S k s)
theorem Qz6 {S:Nat -> Nat} {s v:Nat}:Zh s (upV S s v):=by
 unfold upV; split
 ·exact Qg7
 exact .refl
theorem Qni {S:Nat -> Nat}:∀(l:List Nat) (s:Nat),Zh s (l.foldl (upV S) s)
 | [],s=>.refl
 | v::l,s=>Qz6.trans (Qni l _)
theorem Qv6 {S:Nat -> Nat} {v:Nat}:∀(l:List Nat) (s:Nat),v∈l->s.testBit v=true->Zh (S v) (l.foldl (upV S) s)
 | [],s,h,_=>by cases h
 | u::l,s,h,hs=>by
  simp only [List.foldl_cons]
  by_cases e:v=u
  ·subst e
   refine Zh.trans ?_ (Qni l _)
   unfold upV; rw [aH hs]; exact Qv0
  exact Qv6 l _ (by simpa [e] using h) (Qz6 v hs)
theorem Qjq {S:Nat -> Nat} {T:Nat}:∀(l:List Nat) (s:Nat),(∀v∈l,T.testBit v=true->Zh (S v) T)->Zh s T->Zh (l.foldl (upV S) s) T
 | [],s,_,h=>h
 | v::l,s,hT,h=>by
  simp only [List.foldl_cons]
  refine Qjq l _ (fun u hu=>hT u (cN _ hu)) ?_
  unfold upV; split
  ·rename_i hs; exact or_sub h (hT v (by simp) (h v hs))
  exact h
def Clo (n:Nat) (S:Nat -> Nat) (T:Nat):Prop:=∀v,v < n->T.testBit v=true->Zh (S v) T
theorem Xq {n:Nat} {S:Nat -> Nat} {s:Nat}:∀k,Zh s (ups n S k s)
 | 0=>.refl
 | k+1=>(Xq k).trans (Qni _ _)
theorem Ya {n:Nat} {S:Nat -> Nat} {s T:Nat} (hT:Clo n S T) (h:Zh s T):∀k,Zh (ups n S k s) T
 | 0=>h
 | k+1=>Qjq _ _ (fun v hv=>hT v (cS.1 hv)) (Ya hT h k)
theorem Q5u {n:Nat} {S:Nat -> Nat} {s:Nat} (h:upR n S s=s):Clo n S s:=fun v hv hs=>by
 have:=Qv6 (S:=S) (List.range n) s (cS.2 hv) hs
 unfold upR at h
 rwa [h] at this
theorem Qmv {n a b:Nat} (h:Zh a b) (hb:∀j,b.testBit j=true->j < n) (hne:a≠b):cnt n a.testBit < cnt n b.testBit:=by
 have:∃j,b.testBit j=true/\a.testBit j=false:=by
  apply Classical.byContradiction
  intro hno
  exact hne (sub_anti h fun j hj=>by
   cases ha:a.testBit j with
   | true=>rfl
   | false=>exact absurd ⟨j,hj,ha⟩ hno)
 obtain ⟨j,h1,h2⟩:=this
 have e:=Qi3 (n:=n) (p:=b.testBit) (hb j h1) h1
 have:cnt n a.testBit<=cnt n (fun i=>b.testBit i && !decide (j=i)):=Qkn fun i _ hi=>by
  have:j≠i:=fun e=>by subst e; rw [h2] at hi; cases hi
  simp [h i hi,this]
 omega
theorem Qc2 (n:Nat) {S:Nat -> Nat} (hS:∀v,v < n->∀j,(S v).testBit j=true->j < n):Clo n S (2^n - 1):=fun v hv _ j hj=>by
 rw [bD]; simpa using hS v hv j hj
theorem J3 {n:Nat} {S:Nat -> Nat} {s:Nat} (hS:∀v,v < n->∀j,(S v).testBit j=true->j < n) (hs:∀j,s.testBit j=true->j < n):Clo n S (ups n S n s):=by
 have hin:∀k j,(ups n S k s).testBit j=true->j < n:=fun k j hj=>by
  have:=Ya (Qc2 n hS) (s:=s) (fun j hj=>by rw [bD]; simpa using hs j hj) k j hj
  rw [bD] at this; simpa using this
 have key:∀k,upR n S (ups n S k s)=ups n S k s\/k+cnt n s.testBit<=cnt n (ups n S k s).testBit:=by
  intro k
  induction k with
  | zero=>right; simp [ups]
  | succ k ih =>
   by_cases hf:upR n S (ups n S k s)=ups n S k s
   ·left; simp only [ups]; rw [hf,hf]
   right
   rcases ih with h | h
   ·exact absurd h hf
   have:=Qmv (n:=n) (Qni (S:=S) (List.range n) (ups n S k s)) (hin (k+1)) (fun e=>hf e.symm)
   show k+1+_<=cnt n (upR n S (ups n S k s)).testBit
   unfold upR; omega
 rcases key n with h | h
 ·exact Q5u h
 have h0:=Qqx n (ups n S n s).testBit
 have hz:cnt n s.testBit=0:=by omega
 have:s=0:=dX fun j=>by
  rw [Nat.zero_testBit,bK]
  intro hj
  have:=Qxs (n:=n) (hs j hj) hj; omega
 subst this
 have h1:=Ya (n:=n) (S:=S) (s:=0) (T:=0) (fun v _ hv=>by rw [Nat.zero_testBit] at hv; cases hv) .refl n
 intro v hv hb
 have:=h1 v hb
 rw [Nat.zero_testBit] at this; cases this
theorem lt_pow {n s:Nat} (h:∀j,s.testBit j=true->j < n):s < 2^n:=by
 apply Nat.lt_pow_two_of_testBit
 intro i hi
 rw [bK]; intro hj
 have:=h i hj; omega
theorem Qp1 {n:Nat} {S:Nat -> Nat} {s:Nat} (hn:n<=8) (hS:∀v,v < n->∀j,(S v).testBit j=true->j < n) (hs:∀j,s.testBit j=true->j < n):Qd1 (Qe n S) (s:Int)=some ((ups n S n s:Nat):Int):=by
 have hlen:(Qe n S).length=n:=Ql
 have hfull:=Qc2 n hS
 have hs0:Zh s (2^n - 1):=fun j hj=>by rw [bD]; simpa using hs j hj
 have p8:(2:Nat)^n<=256:=aV (n:=2) (by omega) hn
 have hlt:∀{t:Nat},Zh t (2^n - 1)->t < 18446744073709551616:=fun h=>by
  have:=lt_pow (n:=n) fun j hj=>by have:=h j hj; rw [bD] at this; simpa using this
  omega
 have inner:∀t,Zh t (2^n - 1)->Qb fuel (Qan (Qe n S)) ((t:Int),(0:Int))=some ((upR n S t:Nat):Int):=fun t ht=>by
  have h:=Zc (n:=n) (k0:=0) (by omega) (by omega) (fun i (x:Int)=>(x,i)) (body:=Qan (Qe n S)) (fun k=>(((List.range k).foldl (upV S) t:Nat):Int)) ((upR n S t:Nat):Int)
   (fun k _ hk=>by
    have hsub:=Qjq (S:=S) (T:=2^n - 1) (List.range k) t (fun v hv=>hfull v (by have:=cS.1 hv; omega)) ht
    unfold Qan
    dsimp only
    rw [hlen,aH (dlt hk),Qhv (hlt hsub) (by omega),aC,List.range_succ,List.foldl_append]
    simp only [List.foldl_cons,List.foldl_nil]
    unfold upV
    by_cases c:((List.range k).foldl (upV S) t).testBit k=true
    ·unfold upV at c
     rw [aH c,Qy hk,aC,aH c]
     have hsub':=hsub
     unfold upV at hsub'
     rw [Vc (hlt hsub') (by
      have:=lt_pow (hS k hk); omega)]
    unfold upV at c
    rw [aI c,aI c])
   (by unfold Qan; dsimp only; rw [hlen,aI (nlt n)]; rfl)
  rw [show ((0:Nat):Int)=0 from rfl] at h
  exact h
 have h:=Zc (n:=n) (k0:=0) (by omega) (by omega) (fun i (x:Int)=>(x,i)) (body:=Qcm (Qe n S)) (fun k=>((ups n S k s:Nat):Int)) ((ups n S n s:Nat):Int)
  (fun k _ hk=>by
   unfold Qcm
   dsimp only
   rw [hlen,aH (dlt hk),inner _ (Ya hfull hs0 k)]; rfl)
  (by unfold Qcm; dsimp only; rw [hlen,aI (nlt n)])
 rw [show ((0:Nat):Int)=0 from rfl] at h
 unfold Qd1
 rw [show ups n S 0 s=s from rfl] at h
 rw [h]; rfl
theorem Qxb {n:Nat} {q:Nat -> List Nat} (hn:n<=8) (hq:∀v,v < n->∀p∈q v,p < n) :
  (Qhd n q/\Qa8 (Qe n fun v=>bitsOf (q v) 0)=some true)\/(¬ Qhd n q/\Qa8 (Qe n fun v=>bitsOf (q v) 0)=some false):=by
 have hlen:(Qe n fun v=>bitsOf (q v) 0).length=n:=Ql
 have hbit:∀v j,(bitsOf (q v) 0).testBit j=true↔j∈q v:=fun v j=>by rw [X8]; simp
 have hS:∀v,v < n->∀j,(bitsOf (q v) 0).testBit j=true->j < n:=fun v hv j hj=>hq v hv j ((hbit v j).1 hj)
 have p8:(2:Nat)^n<=256:=aV (n:=2) (by omega) hn
 have hin:∀v,v < n->∀j,(ups n (fun v=>bitsOf (q v) 0) n (bitsOf (q v) 0)).testBit j=true->j < n:=fun v hv j hj=>by
  have:=Ya (Qc2 n hS) (s:=bitsOf (q v) 0) (fun j hj=>by rw [bD]; simpa using hS v hv j hj) n j hj
  rw [bD] at this; simpa using this
 have h:=Vd (n:=n) (by omega) (fun v=>(ups n (fun v=>bitsOf (q v) 0) n (bitsOf (q v) 0)).testBit v=false) (fun i (t:Unit)=>i) (body:=Vx (Qe n fun v=>bitsOf (q v) 0)) (fun _=>()) (.inr ()) (.inl ())
  (fun v hv hI hg=>by
   unfold Vx
   rw [hlen,aH (dlt hv),Qy hv,aC,Qp1 hn hS (hS v hv),aC,Qhv (by have:=lt_pow (hin v hv); omega) (by omega),aC,hg,aI (by decide)])
  (fun v hv hI hg=>by
   unfold Vx
   rw [hlen,aH (dlt hv),Qy hv,aC,Qp1 hn hS (hS v hv),aC,Qhv (by have:=lt_pow (hin v hv); omega) (by omega),aC,aH (by simpa using hg)])
  (fun hI=>by unfold Vx; rw [hlen,aI (nlt n)])
 have hiff:(∀v,v < n->(ups n (fun v=>bitsOf (q v) 0) n (bitsOf (q v) 0)).testBit v=false)↔Qhd n q:=by
  constructor
  ·intro hac
   refine ⟨fun v=>cnt n (ups n (fun v=>bitsOf (q v) 0) n (bitsOf (q v) 0)).testBit,fun v hv p hp=>?_⟩
   have hpn:=hq v hv p hp
   have hcv:=J3 hS (hS v hv)
   have hpv:(ups n (fun v=>bitsOf (q v) 0) n (bitsOf (q v) 0)).testBit p=true:=Xq n p ((hbit v p).2 hp)
   refine Qmv (Ya hcv (hcv p hpn hpv) n) (hin v hv) fun e=>?_
   have:=hac p hpn
   rw [e,hpv] at this; cases this
  rintro ⟨rk,hrk⟩ v hv
  rw [bK]
  intro hb
  have hT:∃T:Nat,∀j,T.testBit j=true↔j < n/\rk j < rk v:=⟨msk n fun j=>decide (rk j < rk v),fun j=>by rw [Q3]; simp⟩
  obtain ⟨T,hT⟩:=hT
  have:=Ya (n:=n) (S:=fun v=>bitsOf (q v) 0) (s:=bitsOf (q v) 0) (T:=T) (fun u hu hb j hj=>by
   have h1:=(hT u).1 hb
   have h2:=(hbit u j).1 hj
   have h3:=hrk u hu j h2
   exact (hT j).2 ⟨hq u hu j h2,by omega⟩) (fun j hj=>by
   have h2:=(hbit v j).1 hj
   exact (hT j).2 ⟨hq v hv j h2,hrk v hv j h2⟩) n v hb
  have:=((hT v).1 this).2
  omega
 rw [hiff] at h
 rw [show ((0:Nat):Int)=0 from rfl] at h
 unfold Qa8
 rcases h with ⟨h1,h2⟩ | ⟨h1,h2⟩
 ·exact .inl ⟨h1,by rw [h2]; rfl⟩
 ·exact .inr ⟨h1,by rw [h2]; rfl⟩
end Go.Ab
namespace Go.Ab
open Go
theorem Qo4 {n:Nat} {l:List Int} (hl:l.length<=1000000):(Qag n l/\Qbu l (n:Int)=some true)\/(¬ Qag n l/\Qbu l (n:Int)=some false):=by
 have good:∀k,k < l.length->((0<=(l[k]?).getD 0/\(l[k]?).getD 0 < n/\(0 < k->(l[k - 1]?).getD 0 < (l[k]?).getD 0))↔(0<=(l[k]?).getD 0/\Qhf n l k)):=fun k hk=>by
  unfold Qhf Qif
  by_cases c:k=0
  ·rw [aH c]; constructor
   ·rintro ⟨a,b,_⟩; exact ⟨a,by omega,b⟩
   rintro ⟨a,_,b⟩; exact ⟨a,b,fun h=>by omega⟩
  rw [aI c]; constructor
  ·rintro ⟨a,b,d⟩; exact ⟨a,d (by omega),b⟩
  rintro ⟨a,d,b⟩; exact ⟨a,b,fun _=>d⟩
 have h:=Vd (n:=l.length) (by omega) (fun k=>0<=(l[k]?).getD 0/\(l[k]?).getD 0 < n/\(0 < k->(l[k - 1]?).getD 0 < (l[k]?).getD 0)) (fun i (t:Unit)=>i) (body:=Ji l (n:Int)) (fun _=>()) (.inr ()) (.inl ())
  (fun k hk hI hg=>by
   have ek:lkI l (k:Int)=some ((l[k]?).getD 0):=by rw [Zd hk,aG hk]; rfl
   unfold Ji
   rw [aH (dlt hk),ek,aC,aI (by simp; exact hg.1),aI (by simp; exact hg.2.1)]
   by_cases c:0 < k
   ·have ek2:lkI l (zw ((k:Int) - 1))=some ((l[k - 1]?).getD 0):=by
     rw [w64 (by omega),show ((k:Int) - 1)=((k - 1:Nat):Int) by omega,Zd (by omega),aG (by omega)]; rfl
    rw [aH (by simp; omega),ek2,aC,aI (by simp; exact hg.2.2 c)]
   rw [aI (by simp; omega)])
  (fun k hk hI hg=>by
   have ek:lkI l (k:Int)=some ((l[k]?).getD 0):=by rw [Zd hk,aG hk]; rfl
   unfold Ji
   rw [aH (dlt hk),ek,aC]
   by_cases c1:(l[k]?).getD 0 < 0
   ·rw [aH (by simpa using c1)]
   rw [aI (by simpa using c1)]
   by_cases c2:(l[k]?).getD 0>=(n:Int)
   ·rw [aH (by simpa using c2)]
   rw [aI (by simpa using c2)]
   by_cases c:0 < k
   ·have ek2:lkI l (zw ((k:Int) - 1))=some ((l[k - 1]?).getD 0):=by
     rw [w64 (by omega),show ((k:Int) - 1)=((k - 1:Nat):Int) by omega,Zd (by omega),aG (by omega)]; rfl
    rw [aH (by simp; omega),ek2,aC,aH (by
     have:¬ (l[k - 1]?).getD 0 < (l[k]?).getD 0:=fun h=>hg ⟨by omega,by omega,fun _=>h⟩
     simp; omega)]
   exact absurd ⟨by omega,by omega,fun h=>absurd h c⟩ hg)
  (fun hI=>by unfold Ji; rw [aI (nlt _)])
 have hiff:(∀k,k < l.length->0<=(l[k]?).getD 0/\(l[k]?).getD 0 < n/\(0 < k->(l[k - 1]?).getD 0 < (l[k]?).getD 0))↔Qag n l:=by
  constructor
  ·intro h; exact Qs4 fun k hk=>((good k hk).1 (h k hk)).2
  intro h k hk
  exact (good k hk).2 ⟨(Qfz (Qm4 h) k hk).1,Qm4 h k hk⟩
 rw [hiff] at h
 rw [show ((0:Nat):Int)=0 from rfl] at h
 unfold Qbu
 rcases h with ⟨h1,h2⟩ | ⟨h1,h2⟩
 ·exact .inl ⟨h1,by rw [h2]; rfl⟩
 exact .inr ⟨h1,by rw [h2]; rfl⟩
theorem Q6v {n:Nat} {g:Int} {F:Nat -> Ad} (hn:n<=8) (hb:NB n F) :
  ((∀v,v < n->K1 (F v)/\Qag n (F v).Parents)/\Qb fuel (Yq ⟨g,Qd n F⟩) ((1:Int),(0:Int))=some (Sum.inr (Qi n (cardN F):Int))) \/
  ((¬ ∀v,v < n->K1 (F v)/\Qag n (F v).Parents)/\Qb fuel (Yq ⟨g,Qd n F⟩) ((1:Int),(0:Int))=some (Sum.inl ())):=by
 have hlen:(Qd n F).length=n:=Q1
 have h:=Vd (n:=n) (by omega) (fun v=>K1 (F v)/\Qag n (F v).Parents) (fun i (t:Int)=>(t,i)) (body:=Yq ⟨g,Qd n F⟩)
  (fun k=>(Qi k (cardN F):Int)) (Sum.inr (Qi n (cardN F):Int)) (Sum.inl ())
  (fun k hk hI hg=>by
   have b1:Qi k (cardN F)<=4^k:=Qbo fun j hj=>(Qbn (hI j hj).1).2
   have b2:(4:Nat)^k<=4^8:=aV (by omega) (by omega)
   have b3:Qi k (cardN F)*cardN F k<=65536*4:=Nat.mul_le_mul (by omega) (Qbn hg.1).2
   have hc:=Qoy hg.1
   have e1:(Qi k (cardN F):Int)*(F k).Card=((Qi (k+1) (cardN F):Nat):Int):=by rw [<-hc]; simp [Qi]
   unfold Yq
   dsimp only
   rw [hlen,aH (dlt hk),Q5 hk,aC,aI (by simp; exact hg.1.1),aI (by simp; exact hg.1.2)]
   rcases Qo4 (n:=n) (hb.par k hk) with ⟨_,e⟩ | ⟨no,_⟩
   ·rw [e,aC,aI (by decide),e1,w64 (n:=((Qi (k+1) (cardN F):Nat):Int)) (by simp only [Qi]; omega)]
   exact absurd hg.2 no)
  (fun k hk hI hg=>by
   unfold Yq
   dsimp only
   rw [hlen,aH (dlt hk),Q5 hk,aC]
   by_cases c:(F k).Card < 1
   ·rw [aH (by simpa using c)]
   rw [aI (by simpa using c)]
   by_cases c2:(F k).Card > 4
   ·rw [aH (by simpa using c2)]
   rw [aI (by simpa using c2)]
   rcases Qo4 (n:=n) (hb.par k hk) with ⟨hp,_⟩ | ⟨_,e⟩
   ·exact absurd ⟨⟨by omega,by omega⟩,hp⟩ hg
   rw [e,aC,aH (by decide)])
  (fun hI=>by
   unfold Yq
   dsimp only
   rw [hlen,aI (nlt n)])
 exact h
theorem Qoj {n:Nat} {g:Int} {F:Nat -> Ad} (hn:n<=8) (hP:∀v,v < n->Qag n (F v).Parents):Kc ⟨g,Qd n F⟩=some (Qe n (setF F)):=by
 have hlen:(Qd n F).length=n:=Q1
 have h:=Zc (n:=n) (k0:=0) (by omega) (by omega) (fun i (t:List Int)=>(i,t)) (body:=V6 ⟨g,Qd n F⟩) (fun k=>Qe k (setF F)) (Qe n (setF F))
  (fun v _ hv=>by
   obtain ⟨p1,p2,p3⟩:=Qa2 (hP v hv)
   have hl:=Qej p2 p3
   have hi:=Zc (n:=(Yk F v).length) (k0:=0) (by omega) (by omega) (fun i (t:Int)=>(t,i)) (body:=V9 ⟨g,Qd n F⟩ ((v:Int),Qe v (setF F))) (fun k=>(bitsOf ((Yk F v).take k) 0:Int)) ((setF F v:Nat):Int)
    (fun k _ hk=>by
     have hp:=p3 _ (bL hk)
     have hbl:bitsOf ((Yk F v).take k) 0 < 18446744073709551616:=K7 _ _ (by omega) fun p hp=>by have:=p3 p (bJ hp); omega
     unfold V9
     dsimp only
     rw [Q5 hv,aC,p1,Qap,aH (dlt hk),Q44 hk,aC,Zf (n:=(Yk F v)[k]) (by omega),aH (Z4 _),Qnl hbl (by omega),Yn hk,Qat])
    (by
     unfold V9
     dsimp only
     rw [Q5 hv,aC,p1,Qap,aI (nlt _),cO]; rfl)
   rw [show ((0:Nat):Int)=0 from rfl,List.take_zero] at hi
   rw [show ((bitsOf [] 0:Nat):Int)=0 from rfl] at hi
   unfold V6
   dsimp only
   rw [hlen,aH (dlt hv),hi,aC,aH (by rw [aO,Ql]; simp; omega)]
   congr 3
   exact Qdh (F:=fun j=>((setF F j:Nat):Int)))
  (by
   unfold V6
   dsimp only
   rw [hlen,aI (nlt n)])
 rw [show ((0:Nat):Int)=0 from rfl] at h
 rw [show Qe 0 (setF F)=[] from rfl] at h
 unfold Kc
 rw [h]; rfl
theorem Q54 {n:Nat} {g:Int} {F:Nat -> Ad} {r:List Int} (hg:0<=g) (hg60:g<=60) (hr:r.length<=4) :
  ((∀w∈r,0<=w/\w<=g)/\Qb fuel (Ys r ⟨g,Qd n F⟩) (0,0)=some (.inr r.sum))\/(¬ (∀w∈r,0<=w/\w<=g)/\Qb fuel (Ys r ⟨g,Qd n F⟩) (0,0)=some (.inl ())):=by
 have pre:∀k,k<=r.length->(∀j,j < k->0<=(r[j]?).getD 0/\(r[j]?).getD 0<=g)->0<=(r.take k).sum/\(r.take k).sum<=60*k:=by
  intro k
  induction k with
  | zero=>intro _ _; simp
  | succ k ih =>
   intro hk h
   have h1:=ih (by omega) fun j hj=>h j (by omega)
   have h2:=h k (by omega)
   rw [aG (by omega)] at h2
   rw [Qed (by omega)]
   simp at h2; omega
 have h:=Vd (n:=r.length) (by omega) (fun k=>0<=(r[k]?).getD 0/\(r[k]?).getD 0<=g) (fun i (t:Int)=>(t,i)) (body:=Ys r ⟨g,Qd n F⟩)
  (fun k=>(r.take k).sum) (.inr r.sum) (.inl ())
  (fun k hk hI hgd=>by
   have hp:=pre k (by omega) hI
   have ek:lkI r (k:Int)=some r[k]:=Zd hk
   rw [aG hk] at hgd
   simp only [cT] at hgd
   unfold Ys
   dsimp only
   rw [aH (dlt hk),ek,aC,aI (by simp; omega),aI (by simp; omega),w64 (n:=(r.take k).sum+r[k]) (by omega),Qed hk])
  (fun k hk hI hgd=>by
   have ek:lkI r (k:Int)=some r[k]:=Zd hk
   rw [aG hk] at hgd
   simp only [cT] at hgd
   unfold Ys
   dsimp only
   rw [aH (dlt hk),ek,aC]
   by_cases c:r[k] < 0
   ·rw [aH (by simpa using c)]
   rw [aI (by simpa using c),aH (by simp; omega)])
  (fun hI=>by
   unfold Ys
   dsimp only
   rw [aI (nlt _),cO])
 have hiff:(∀j,j < r.length->0<=(r[j]?).getD 0/\(r[j]?).getD 0<=g)↔(∀w∈r,0<=w/\w<=g):=by
  constructor
  ·intro h w hw
   obtain ⟨k,hk,rfl⟩:=bC.1 hw
   have:=h k hk
   rw [aG hk] at this
   exact this
  intro h j hj
  rw [aG hj]
  exact h _ (bL hj)
 rw [hiff] at h
 simp only [List.take_zero,List.sum_nil] at h
 exact h
theorem Qxx {g c:Int} {r:List Int}:Qh8 g c r↔(r.length:Int)=c/\(∀w∈r,0<=w/\w<=g)/\r.sum=g:=by
 unfold Qh8
 constructor
 ·rintro ⟨a,b,d⟩
  refine ⟨a,fun w hw=>⟨b w hw,?_⟩,d⟩
  obtain ⟨k,hk,rfl⟩:=bC.1 hw
  have h1:=(Qou (k:=k+1) b).1
  have h2:=(Qou (k:=k) b).2
  rw [Qed hk] at h1; omega
 rintro ⟨a,b,d⟩; exact ⟨a,fun w hw=>(b w hw).1,d⟩
theorem Q4d {n:Nat} {g:Int} {F:Nat -> Ad} (hn:n<=8) (hg:0<=g) (hg60:g<=60) (hb:NB n F) (hC:∀v,v < n->K1 (F v)) (hP:∀v,v < n->Qag n (F v).Parents) :
  ((∀v,v < n->Qhj g (cardN F) (F v) (Yk F v))/\Qb fuel (Yp ⟨g,Qd n F⟩) 0=some (.inr ()))\/((¬ ∀v,v < n->Qhj g (cardN F) (F v) (Yk F v))/\Qb fuel (Yp ⟨g,Qd n F⟩) 0=some (.inl ())):=by
 have hlen:(Qd n F).length=n:=Q1
 have hpc:∀v,v < n->Zg ⟨g,Qd n F⟩ (v:Int)=some ((Yk F v).map fun p=>(cardN F p:Int)):=fun v hv=>by
  obtain ⟨p1,p2,p3⟩:=Qa2 (hP v hv)
  unfold Zg
  rw [Qsd (C:=cardN F) (fun v hv=>(Qoy (hC v hv)).symm) hn,aC,Q5 hv,aC,p1,show nI (Yk F v)=(Yk F v).map fun (p:Nat)=>(p:Int) from rfl,Q49 p3 (by have:=Qej p2 p3; omega)]
  rfl
 have hrow:∀v (hv:v < n) k (hk:k < (F v).Rows.length),Yu (F v) ⟨g,Qd n F⟩ (k:Int)=some (if (((F v).Rows[k].length:Int)=(F v).Card/\(∀w∈(F v).Rows[k],0<=w/\w<=g)/\(F v).Rows[k].sum=g) then .next (zw ((k:Int)+1)) else .done (.inl ())):=fun v hv k hk=>by
  have ek:lkI (F v).Rows (k:Int)=some (F v).Rows[k]:=Zd hk
  unfold Yu
  rw [aH (dlt hk),ek,aC]
  by_cases c:((F v).Rows[k].length:Int)=(F v).Card
  ·rw [aI (by simp; omega)]
   have hc:=(hC v hv).2
   rcases Q54 (n:=n) (g:=g) (F:=F) (r:=(F v).Rows[k]) hg hg60 (by omega) with ⟨h,e⟩ | ⟨h,e⟩
   ·rw [e,aC]
    dsimp only
    by_cases c2:(F v).Rows[k].sum=g
    ·rw [aI (by simp; exact c2),aH ⟨c,h,c2⟩]
    rw [aH (by simpa using c2),aI fun hh=>c2 hh.2.2]
   rw [e,aC,aI fun hh=>h hh.2.1]
  rw [aH (by simpa using c),aI fun hh=>c hh.1]
 have hrows:∀v (hv:v < n),((∀k,k < (F v).Rows.length->∀r,(F v).Rows[k]?=some r->Qh8 g (F v).Card r)/\Qb fuel (Yu (F v) ⟨g,Qd n F⟩) 0=some (.inr ()))\/((¬ ∀k,k < (F v).Rows.length->∀r,(F v).Rows[k]?=some r->Qh8 g (F v).Card r)/\Qb fuel (Yu (F v) ⟨g,Qd n F⟩) 0=some (.inl ())):=fun v hv=>by
  have h:=Vd (n:=(F v).Rows.length) (by have:=hb.rows v hv; omega) (fun k=>∀r,(F v).Rows[k]?=some r->Qh8 g (F v).Card r) (fun i (t:Unit)=>i) (body:=Yu (F v) ⟨g,Qd n F⟩) (fun _=>()) (.inr ()) (.inl ())
   (fun k hk hI hgd=>by
    rw [hrow v hv k hk,aH (Qxx.1 (hgd _ (aG hk)))])
   (fun k hk hI hgd=>by
    rw [hrow v hv k hk,aI fun hh=>hgd fun r hr=>by
     rw [aG hk] at hr; cases hr
     exact Qxx.2 hh])
   (fun hI=>by unfold Yu; rw [aI (nlt _)])
  exact h
 have h:=Vd (n:=n) (by omega) (fun v=>Qhj g (cardN F) (F v) (Yk F v)) (fun i (t:Unit)=>i) (body:=Yp ⟨g,Qd n F⟩) (fun _=>()) (.inr ()) (.inl ())
  (fun v hv hI hgd=>by
   obtain ⟨p1,p2,p3⟩:=Qa2 (hP v hv)
   unfold Yp
   dsimp only
   rw [hlen,aH (dlt hv),Q5 hv,aC,hpc v hv,aC,Qlu (fun p hp=>(Qbn (hC p (p3 p hp))).2) (by have:=Qej p2 p3; omega),aC,aI (by have:=hgd.1; simp; omega)]
   rcases hrows v hv with ⟨_,e⟩ | ⟨no,_⟩
   ·rw [e,aC]
   exact absurd (fun k hk r hr=>hgd.2 r (aF hr)) no)
  (fun v hv hI hgd=>by
   obtain ⟨p1,p2,p3⟩:=Qa2 (hP v hv)
   unfold Yp
   dsimp only
   rw [hlen,aH (dlt hv),Q5 hv,aC,hpc v hv,aC,Qlu (fun p hp=>(Qbn (hC p (p3 p hp))).2) (by have:=Qej p2 p3; omega),aC]
   by_cases c:(F v).Rows.length=lprod (cardN F) (Yk F v)
   ·rw [aI (by simp; omega)]
    rcases hrows v hv with ⟨h,_⟩ | ⟨_,e⟩
    ·exact absurd ⟨c,fun r hr=>by
      obtain ⟨k,hk,rfl⟩:=bC.1 hr
      exact h k hk _ (aG hk)⟩ hgd
    rw [e,aC]
   rw [aH (by simp; omega)])
  (fun hI=>by unfold Yp; dsimp only; rw [hlen,aI (nlt n)])
 exact h
theorem Qj3 {n:Nat} {g:Int} {F:Nat -> Ad} (hb:NB n F):(Qox n g F/\Jc ⟨g,Qd n F⟩=some true)\/(¬ Qox n g F/\Jc ⟨g,Qd n F⟩=some false):=by
 have hlen:(Qd n F).length=n:=Q1
 unfold Jc
 dsimp only
 rw [hlen]
 by_cases c1:g < 1
 ·rw [aH (by simpa using c1)]; exact .inr ⟨fun h=>by have:=h.g1; omega,rfl⟩
 rw [aI (by simpa using c1)]
 by_cases c2:g > 60
 ·rw [aH (by simpa using c2)]; exact .inr ⟨fun h=>by have:=h.g60; omega,rfl⟩
 rw [aI (by simpa using c2)]
 by_cases c3:n < 1
 ·rw [aH (by simp; omega)]; exact .inr ⟨fun h=>by have:=h.n1; omega,rfl⟩
 rw [aI (by simp; omega)]
 by_cases c4:n > 8
 ·rw [aH (by simp; omega)]; exact .inr ⟨fun h=>by have:=h.n8; omega,rfl⟩
 rw [aI (by simp; omega)]
 rcases Q6v (n:=n) (g:=g) (by omega) hb with ⟨hC,e⟩ | ⟨hC,e⟩
 rotate_left
 ·rw [e,aC]; exact .inr ⟨fun h=>hC fun v hv=>⟨h.card v hv,(h.node v hv).1.1⟩,rfl⟩
 rw [e,aC]
 dsimp only
 by_cases c5:Qi n (cardN F) > 1024
 ·rw [aH (by simp; omega)]; exact .inr ⟨fun h=>by have:=h.worlds; omega,rfl⟩
 rw [aI (by simp; omega),Qoj (by omega) fun v hv=>(hC v hv).2,aC]
 rw [show (Qe n (setF F))=(Qe n fun v=>bitsOf (Yk F v) 0) from rfl]
 rcases Qxb (n:=n) (q:=Yk F) (by omega) (fun v hv=>(Qa2 (hC v hv).2).2.2) with ⟨hR,e⟩ | ⟨hR,e⟩
 ·rw [e,aC,aI (by decide)]
  rcases Q4d (n:=n) (g:=g) (F:=F) (by omega) (by omega) (by omega) hb (fun v hv=>(hC v hv).1) (fun v hv=>(hC v hv).2) with ⟨hN,e⟩ | ⟨hN,e⟩
  ·left
   refine ⟨⟨by omega,by omega,by omega,by omega,fun v hv=>(hC v hv).1,by omega,fun v hv=>⟨⟨(hC v hv).2,fun hm=>?_⟩,hN v hv⟩,hR⟩,by rw [e]; rfl⟩
   obtain ⟨p1,_,_⟩:=Qa2 (hC v hv).2
   obtain ⟨rk,hrk⟩:=hR
   rw [p1] at hm
   unfold nI at hm
   obtain ⟨p,hp,e⟩:=cG.1 hm
   have:p=v:=by omega
   subst this
   have:=hrk p hv p hp; omega
  right
  exact ⟨fun h=>hN fun v hv=>(h.node v hv).2,by rw [e]; rfl⟩
 rw [e,aC,aH (by decide)]
 exact .inr ⟨fun h=>hR h.rank,rfl⟩
end Go.Ab
namespace Go.Ab
open Go
theorem Qhp {n:Nat} {f:Nat -> Int} {c:Int}:Qj n (fun k=>f k*c)=Qj n f*c:=by
 induction n with
 | zero=>simp [Qj]
 | succ n ih=>simp only [Qj,ih]; rw [Int.add_mul]
theorem Qsq {m n:Nat} {f:Nat -> Nat -> Int}:Qj m (fun x=>Qj n (f x))=Qj n (fun y=>Qj m (fun x=>f x y)):=by
 induction m with
 | zero=>simp [Qj,K6]
 | succ m ih=>simp only [Qj,ih]; rw [<-Qus]
theorem Qyj {a b:Nat} {f:Nat -> Int}:Qj (a*b) f=Qj a (fun x=>Qj b (fun y=>f (x*b+y))):=by
 induction a with
 | zero=>simp [Qj]
 | succ a ih=>rw [dW,Qky,ih]; simp only [Qj]
theorem Qbj {n:Nat} {f g:Nat -> Nat} (h:∀k,k < n->f k=g k):Qi n f=Qi n g:=by
 induction n with
 | zero=>rfl
 | succ n ih=>simp only [Qi]; rw [ih (fun k hk=>h k (by omega)),h n (by omega)]
theorem Qpo {n:Nat} {f:Nat -> Nat} (h:∀k,k < n->1<=f k):1<=Qi n f:=by
 induction n with
 | zero=>simp [Qi]
 | succ n ih=>simp only [Qi]; exact bY (by simp) (Nat.mul_le_mul (ih fun k hk=>h k (by omega)) (h n (by omega)))
end Go.Ab
namespace Go.Ab
open Go
def Vw (c w:Nat -> Nat) (l:List Nat):Nat := l.foldl (fun r p=>r*c p+w p) 0
theorem Qtc {c w:Nat -> Nat} {l:List Nat} {p:Nat}:Vw c w (l++[p])=Vw c w l*c p+w p:=by simp [Vw]
theorem Qsw {c w:Nat -> Nat} {l:List Nat} (h:∀p∈l,w p < c p):Vw c w l < lprod c l:=by
 have key:∀(l:List Nat) (r R:Nat),r < R->(∀p∈l,w p < c p)->l.foldl (fun r p=>r*c p+w p) r < l.foldl (fun r p=>r*c p) R:=by
  intro l
  induction l with
  | nil=>intro r R h _; exact h
  | cons p l ih =>
   intro r R hr hp
   simp only [List.foldl_cons]
   refine ih _ _ ?_ (fun q hq=>hp q (cN _ hq))
   have h1:=hp p (by simp)
   have h2:(r+1)*c p<=R*c p:=aT _ hr
   rw [dW] at h2
   omega
 exact key l 0 1 (by omega) h
def NF.idx (D:NF) (v:Nat) (w:Nat -> Nat):Nat := Vw D.card w (D.par v)
def NF.wt (D:NF) (w:Nat -> Nat) (v:Nat):Nat := D.W v (D.idx v w) (w v)
def NF.ok (D:NF) (w:Nat -> Nat):Prop:=∀v,v < D.n->w v < D.card v
section
variable {D:NF} (V:VN D) {w:Nat -> Nat}
include V
theorem VN.idx_lt (hw:D.ok w) {v:Nat} (hv:v < D.n):D.idx v w < D.rows v:=Qsw fun p hp=>hw p (V.par v hv p hp)
theorem VN.wt_le (hw:D.ok w) {v:Nat} (hv:v < D.n):D.wt w v<=60:=bY (V.W v _ _ hv (V.idx_lt hw hv) (hw v hv)) V.g60
end
structure SF where
 N:Nat
 R:Nat
 F:Nat
 T:Nat
def NF.hit (D:NF) (s:SF) (w:Nat -> Nat):Bool:=D.idx s.N w==s.R
def NF.own (D:NF) (s:SF) (w:Nat -> Nat):Nat := if D.hit s w=true then D.wt w s.N else 1
section
variable {D:NF} (V:VN D) {w:Nat -> Nat} {s:SF}
include V
end
end Go.Ab
namespace Go.Ab
open Go
def TM (D:NF) (E:Nat -> Int) (f:(Nat -> Nat)->Int):Nat -> Nat -> (Nat -> Nat)->Int
 | 0,_,w=>f w
 | d+1,i,w=>Qj (D.card i) fun x=>if E i=-1\/E i=(x:Int) then TM D E f d (i+1) (updF w i x) else 0
def PC (D:NF):Nat -> Nat -> Nat
 | 0,_=>1
 | d+1,i=>D.card i*PC D d (i+1)
theorem Q0l {D:NF} (V:VN D):∀(d i:Nat),i+d=D.n->1<=PC D d i
 | 0,_,_=>bA 1
 | d+1,i,h=>by
  have:=Q0l V d (i+1) (by omega)
  have h2:=(V.card i (by omega)).1
  exact bY (by simp) (Nat.mul_le_mul h2 this)
theorem Qq3 {D:NF}:∀(d i:Nat),Qi i D.card*PC D d i=Qi (i+d) D.card
 | 0,i=>by simp [PC]
 | d+1,i=>by
  have:=Qq3 (D:=D) d (i+1)
  simp only [PC]
  rw [<-Nat.mul_assoc]
  rw [show i+(d+1)=i+1+d by omega,<-this]; rfl
def Ext (D:NF) (f:(Nat -> Nat)->Int):Prop:=∀w w',(∀j,j < D.n->w j=w' j)->f w=f w'
theorem BD.mono {m p:Nat} {a:Int} (h:BD m a) (hp:m<=p):BD p a:=by
 unfold BD KK at *; omega
theorem BD.fit {m:Nat} {a:Int} (h:BD m a) (hm:m<=1024):-9223372036854775808<=a/\a<=9223372036854775807:=by unfold BD KK at h; omega
theorem Qqn {D:NF} {w:Nat -> Nat} {i x:Nat} (h:D.ok w) (hx:x < D.card i):D.ok (updF w i x):=fun v hv=>by
 unfold updF
 by_cases e:v=i
 ·rw [aH e,e]; exact hx
 rw [aI e]; exact h v hv
theorem Qvb {D:NF} {E:Nat -> Int} {f:(Nat -> Nat)->Int} (hf:∀w,D.ok w->BD 1 (f w)):∀(d i:Nat) (w:Nat -> Nat),i+d=D.n->D.ok w->BD (PC D d i) (TM D E f d i w)
 | 0,i,w,_,hw=>hf w hw
 | d+1,i,w,h,hw=>by
  unfold TM PC
  refine BD.sum fun x hx=>?_
  split
  ·exact Qvb hf d (i+1) _ (by omega) (Qqn hw hx)
  exact BD.zero
def at' (v x:Nat) (f:(Nat -> Nat)->Int):(Nat -> Nat)->Int:=fun w=>if w v=x then f w else 0
section
variable {D:NF} (V:VN D) {s:SF} {E:Nat -> Int} {v:Nat}
theorem Q50 (V:VN D) {w w':Nat -> Nat} (h:∀j,j < D.n->w j=w' j) {u:Nat} (hu:u < D.n):D.idx u w=D.idx u w':=by
 unfold NF.idx Vw
 have:∀(l:List Nat) (r:Nat),(∀p∈l,p < D.n)->l.foldl (fun r p=>r*D.card p+w p) r=l.foldl (fun r p=>r*D.card p+w' p) r:=by
  intro l
  induction l with
  | nil=>intros; rfl
  | cons p l ih =>
   intro r hp
   simp only [List.foldl_cons]
   rw [h p (hp p (by simp)),ih _ (fun q hq=>hp q (cN _ hq))]
 exact this _ 0 (V.par u hu)
theorem Q8p (V:VN D) {w w':Nat -> Nat} (h:∀j,j < D.n->w j=w' j) {u:Nat} (hu:u < D.n):D.wt w u=D.wt w' u:=by
 unfold NF.wt; rw [Q50 V h hu,h u hu]
end
end Go.Ab
namespace Go.Ab
open Go
def SW (D:NF) (E:Nat -> Int) (f:(Nat -> Nat)->Int):Int:=TM D E f D.n 0 (fun _=>0)
def Qmd (D:NF) (E:Nat -> Int):Prop:=∀j,j < D.n->-1<=E j/\E j < D.card j
section
variable {D:NF} {s:SF} {E:Nat -> Int} {v:Nat}
theorem ok0 (V:VN D):D.ok (fun _=>0):=fun u hu=>(V.card u hu).1
end
end Go.Ab
namespace Go.Ab
open Go
section
variable {D:NF} {E:Nat -> Int}
def PS (D:NF) (k:Nat):Nat := PC D (D.n - k) k
theorem Qjj {k:Nat} (h:k < D.n):PS D k=D.card k*PS D (k+1):=by
 unfold PS
 rw [show D.n - k=(D.n - (k+1))+1 by omega]; rfl
theorem Q75:PS D D.n=1:=by unfold PS; rw [Nat.sub_self]; rfl
theorem Q0g (V:VN D) {k:Nat} (h:k<=D.n):1<=PS D k:=Q0l V _ _ (by omega)
def dig (D:NF) (W k:Nat):Nat := W / PS D (k+1) % D.card k
def okE (E:Nat -> Int) (j x:Nat):Prop:=E j=-1\/E j=(x:Int)
instance instokE (E:Nat -> Int) (j x:Nat):Decidable (okE E j x):=by unfold okE; infer_instance
def Vi (n:Nat) (E:Nat -> Int) (i:Nat) (w:Nat -> Nat):Prop:=∀j,i<=j->j < n->okE E j (w j)
def mix (D:NF) (i:Nat) (w:Nat -> Nat) (W:Nat):Nat -> Nat := fun j=>if j < i then w j else dig D W j
theorem Q67 (V:VN D) {i j:Nat} (hij:i<=j) (hj:j < D.n):∃M,PS D i=M*(D.card j*PS D (j+1)):=by
 obtain ⟨k,rfl⟩:=Nat.exists_eq_add_of_le hij
 induction k generalizing i with
 | zero=>exact ⟨1,by rw [eN,Nat.one_mul,Qjj (by omega)]⟩
 | succ k ih =>
  obtain ⟨M,hM⟩:=ih (i:=i+1) (by omega) (by omega)
  refine ⟨D.card i*M,?_⟩
  rw [Qjj (by omega),hM]
  rw [show i+1+k=i+(k+1) by omega,Nat.mul_assoc]
open Classical in
theorem Qpa (V:VN D) {f:(Nat -> Nat)->Int} (hf:Ext D f):∀(d i:Nat) (w:Nat -> Nat),i+d=D.n ->
  Qj (PC D d i) (fun W=>if Vi D.n E i (mix D i w W) then f (mix D i w W) else 0)=TM D E f d i w
 | 0,i,w,h=>by
  simp only [PC,Qj,TM,Int.zero_add]
  rw [aH (show Vi D.n E i (mix D i w 0) from fun j h1 h2=>by omega)]
  exact hf _ _ fun j hj=>by unfold mix; rw [aH (by omega)]
 | d+1,i,w,h=>by
  have hi:i < D.n:=by omega
  simp only [PC,TM]
  rw [Qyj]
  refine Q2 fun x hx=>?_
  have hP:PC D d (i+1)=PS D (i+1):=by unfold PS; rw [show D.n - (i+1)=d by omega]
  have hpos:=Q0g V (k:=i+1) (by omega)
  have hag:∀y,y < PC D d (i+1)->∀j,j < D.n->mix D i w (x*PC D d (i+1)+y) j=mix D (i+1) (updF w i x) y j:=fun y hy j hj=>by
   unfold mix
   by_cases h1:j < i
   ·rw [aH h1,aH (by omega),Yw (by omega)]
   rw [aI h1]
   by_cases h2:j=i
   ·subst h2
    rw [aH (by omega),Z6]
    unfold dig
    rw [hP] at hy ⊢
    rw [cL,Nat.mul_add_div (by omega),Nat.div_eq_of_lt hy,eN,Nat.mod_eq_of_lt hx]
   rw [aI (by omega)]
   unfold dig
   rw [hP]
   obtain ⟨M,hM⟩:=Q67 V (i:=i+1) (j:=j) (by omega) hj
   have hpj:=Q0g V (k:=j+1) (by omega)
   rw [hM,show x*(M*(D.card j*PS D (j+1)))+y=PS D (j+1)*(D.card j*(x*M))+y by
    rw [cL (D.card j),<-Nat.mul_assoc,<-Nat.mul_assoc,cL (PS D (j+1)),cL (D.card j),Nat.mul_right_comm (x*M)]]
   rw [Nat.mul_add_div (by omega),Nat.mul_add_mod]
  rw [Q2 (g:=fun y=>if okE E i x then (if Vi D.n E (i+1) (mix D (i+1) (updF w i x) y) then f (mix D (i+1) (updF w i x) y) else 0) else 0) (fun y hy=>?_)]
  ·by_cases hok:okE E i x
   ·rw [Q2 (g:=fun y=>if Vi D.n E (i+1) (mix D (i+1) (updF w i x) y) then f (mix D (i+1) (updF w i x) y) else 0) (fun y _=>aH hok),Qpa V hf d (i+1) _ (by omega),aH (show E i=-1\/E i=(x:Int) from hok)]
   rw [Q2 (g:=fun _=>0) (fun y _=>aI hok),K6,aI (show ¬ (E i=-1\/E i=(x:Int)) from hok)]
  have e:=hag y hy
  have hiff:Vi D.n E i (mix D i w (x*PC D d (i+1)+y))↔okE E i x/\Vi D.n E (i+1) (mix D (i+1) (updF w i x) y):=by
   constructor
   ·intro hm
    refine ⟨?_,fun j h1 h2=>?_⟩
    ·have:=hm i (by omega) hi
     rw [e i hi] at this
     unfold mix at this
     rwa [aH (by omega),Z6] at this
    have:=hm j (by omega) h2
    rwa [e j h2] at this
   rintro ⟨h1,h2⟩ j h3 h4
   rw [e j h4]
   by_cases h5:j=i
   ·subst h5; unfold mix; rwa [aH (by omega),Z6]
   exact h2 j (by omega) h4
  by_cases hok:okE E i x
  ·rw [aH hok]
   by_cases hm:Vi D.n E (i+1) (mix D (i+1) (updF w i x) y)
   ·rw [aH (hiff.2 ⟨hok,hm⟩),aH hm,hf _ _ e]
   rw [aI (fun c=>hm (hiff.1 c).2),aI hm]
  rw [aI (fun c=>hok (hiff.1 c).1),aI hok]
end
end Go.Ab
namespace Go.Ab
open Go
theorem Qfp {cs:List AV} (h:WT (.int .u8) cs):∃a:Int,cs=[(AV.int .u8) a]/\(Lit.int .u8 a).wf=true:=by
 obtain ⟨n,rfl,w⟩:=h
 exact ⟨n,rfl,w⟩
theorem el5 {x:AV} (h:WT (.int .u8) x.flat /\ (if false then x=.agg x.flat else x.cell=true)):∃a:Int,x=(AV.int .u8) a/\(Lit.int .u8 a).wf=true:=by
 obtain ⟨a,h1,h2⟩:=Qfp h.1
 rw [Qz7 h.2] at h1
 exact ⟨a,(List.cons.inj h1).1,h2⟩
theorem Q43 {cs:List AV} (h:WT (.slice true false 1 (.int .u8)) cs):∃a:(List Int),cs=[(eL true (AV.int .u8)) a]/\(a.length<=maxLen/\∀y0∈a,(Lit.int .u8 y0).wf=true):=by
 obtain ⟨xs,rfl,hl,hx⟩:=h
 obtain ⟨l,rfl,hr⟩:=Qt3 (enc:=(AV.int .u8)) (R:=fun a=>(Lit.int .u8 a).wf=true) (fun x hm=>el5 (hx x hm))
 exact ⟨l,rfl,by simpa using hl,hr⟩
def Ym (x:Qw):Prop:=((Lit.int .u8 x.Card).wf=true)/\((Lit.int .u8 x.Parents).wf=true)/\((x.W.length<=maxLen/\∀y0∈x.W,(Lit.int .u8 y0).wf=true))
theorem Qim {cs:List AV} (h:WT (.cat (.int .u8) (.cat (.int .u8) (.cat (.slice true false 1 (.int .u8)) .unit))) cs):∃x:Qw,AV.agg cs=Ak x/\Ym x:=by
 obtain ⟨_,_,rfl,a0,r0⟩:=h
 obtain ⟨v0,e0,w0⟩:=Qfp a0
 cases e0
 obtain ⟨_,_,rfl,a1,r1⟩:=r0
 obtain ⟨v1,e1,w1⟩:=Qfp a1
 cases e1
 obtain ⟨_,_,rfl,a2,r2⟩:=r1
 obtain ⟨v2,e2,w2⟩:=Q43 a2
 cases e2
 cases r2
 exact ⟨⟨v0,v1,v2⟩,rfl,⟨w0,w1,w2⟩⟩
theorem Q9a {x:AV} (h:WT (.cat (.int .u8) (.cat (.int .u8) (.cat (.slice true false 1 (.int .u8)) .unit))) x.flat /\ (if true then x=.agg x.flat else x.cell=true)):∃a:Qw,x=Ak a/\Ym a:=by
 obtain ⟨a,h1,h2⟩:=Qim h.1
 have h3:x=.agg x.flat := h.2
 exact ⟨a,h3.trans h1,h2⟩
theorem Q9q {cs:List AV} (h:WT (.slice false true 3 (.cat (.int .u8) (.cat (.int .u8) (.cat (.slice true false 1 (.int .u8)) .unit)))) cs):∃a:(List Qw),cs=[(eL false Ak) a]/\(a.length<=maxLen/\∀y0∈a,Ym y0):=by
 obtain ⟨xs,rfl,hl,hx⟩:=h
 obtain ⟨l,rfl,hr⟩:=Qt3 (enc:=Ak) (R:=fun a=>Ym a) (fun x hm=>Q9a (hx x hm))
 exact ⟨l,rfl,by simpa using hl,hr⟩
def Kp (x:Qf):Prop:=((Lit.int .u8 x.Grain).wf=true)/\((x.Nodes.length<=maxLen/\∀y0∈x.Nodes,Ym y0))/\((x.Order.length<=maxLen/\∀y0∈x.Order,(Lit.int .u8 y0).wf=true))
theorem rdTharuspexref05_Draft {cs:List AV} (h:WT (.cat (.int .u8) (.cat (.slice false true 3 (.cat (.int .u8) (.cat (.int .u8) (.cat (.slice true false 1 (.int .u8)) .unit)))) (.cat (.slice true false 1 (.int .u8)) .unit))) cs):∃x:Qf,AV.agg cs=eTharuspexref05_Draft x/\Kp x:=by
 obtain ⟨_,_,rfl,a0,r0⟩:=h
 obtain ⟨v0,e0,w0⟩:=Qfp a0
 cases e0
 obtain ⟨_,_,rfl,a1,r1⟩:=r0
 obtain ⟨v1,e1,w1⟩:=Q9q a1
 cases e1
 obtain ⟨_,_,rfl,a2,r2⟩:=r1
 obtain ⟨v2,e2,w2⟩:=Q43 a2
 cases e2
 cases r2
 exact ⟨⟨v0,v1,v2⟩,rfl,⟨w0,w1,w2⟩⟩
theorem rdA26 {cs:List AV} (h:WT (.cat (.int .u8) (.cat (.int .u8) (.cat (.int .u8) (.cat (.int .u8) (.cat (.int .u8) (.cat (.int .u8) (.cat (.int .u8) (.cat (.int .u8) .unit)))))))) cs):∃x:(Int × Int × Int × Int × Int × Int × Int × Int),AV.agg cs=(fun x:(Int × Int × Int × Int × Int × Int × Int × Int)=>AV.agg [.int .u8 x.1,.int .u8 x.2.1,.int .u8 x.2.2.1,.int .u8 x.2.2.2.1,.int .u8 x.2.2.2.2.1,.int .u8 x.2.2.2.2.2.1,.int .u8 x.2.2.2.2.2.2.1,.int .u8 x.2.2.2.2.2.2.2]) x/\((Lit.int .u8 x.1).wf=true/\(Lit.int .u8 x.2.1).wf=true/\(Lit.int .u8 x.2.2.1).wf=true/\(Lit.int .u8 x.2.2.2.1).wf=true/\(Lit.int .u8 x.2.2.2.2.1).wf=true/\(Lit.int .u8 x.2.2.2.2.2.1).wf=true/\(Lit.int .u8 x.2.2.2.2.2.2.1).wf=true/\(Lit.int .u8 x.2.2.2.2.2.2.2).wf=true):=by
 obtain ⟨_,_,rfl,a0,r0⟩:=h
 obtain ⟨v0,e0,w0⟩:=Qfp a0
 cases e0
 obtain ⟨_,_,rfl,a1,r1⟩:=r0
 obtain ⟨v1,e1,w1⟩:=Qfp a1
 cases e1
 obtain ⟨_,_,rfl,a2,r2⟩:=r1
 obtain ⟨v2,e2,w2⟩:=Qfp a2
 cases e2
 obtain ⟨_,_,rfl,a3,r3⟩:=r2
 obtain ⟨v3,e3,w3⟩:=Qfp a3
 cases e3
 obtain ⟨_,_,rfl,a4,r4⟩:=r3
 obtain ⟨v4,e4,w4⟩:=Qfp a4
 cases e4
 obtain ⟨_,_,rfl,a5,r5⟩:=r4
 obtain ⟨v5,e5,w5⟩:=Qfp a5
 cases e5
 obtain ⟨_,_,rfl,a6,r6⟩:=r5
 obtain ⟨v6,e6,w6⟩:=Qfp a6
 cases e6
 obtain ⟨_,_,rfl,a7,r7⟩:=r6
 obtain ⟨v7,e7,w7⟩:=Qfp a7
 cases e7
 cases r7
 exact ⟨(v0,v1,v2,v3,v4,v5,v6,v7),rfl,⟨w0,w1,w2,w3,w4,w5,w6,w7⟩⟩
theorem one87 {cs:List AV} (h:WT (.int .u16) cs):∃a:Int,cs=[(AV.int .u16) a]/\(Lit.int .u16 a).wf=true:=by
 obtain ⟨n,rfl,w⟩:=h
 exact ⟨n,rfl,w⟩
end Go.Ab
namespace Go.Ab
open Go
theorem Q5i {p0:Qf} (h:Kp p0):Qzx p0:=by
 obtain ⟨h1,⟨h2,h3⟩,h4,h5⟩:=h
 exact ⟨bounds_u8 h1,fun x hx=>bounds_u8 (h5 x hx),fun p hp=>bounds_u8 (h3 p hp).1,fun p hp x hx=>bounds_u8 ((h3 p hp).2.2.2 x hx),fun p hp=>(h3 p hp).2.2.1⟩
structure DX (D:NF):Prop extends VX D where
 n5:D.n<=5
 c23:∀v,v < D.n->2<=D.card v/\D.card v<=3
section
variable {D:NF}
theorem DX.worlds (X:DX D):Qi D.n D.card<=243:=by
 have h1:Qi D.n D.card<=3^D.n:=Qbo fun v hv=>(X.c23 v hv).2
 have h2:3^D.n<=3^5:=aV (by omega) X.n5
 omega
theorem Q9r {E:Nat -> Int} {f:(Nat -> Nat)->Int} (V:VN D) {m:Nat} (hm:Qi D.n D.card<=m) (hf:∀w,D.ok w->BD 1 (f w)):BD m (SW D E f):=by
 have h1:PC D D.n 0=Qi D.n D.card:=by have:=Qq3 (D:=D) D.n 0; simpa [Qi] using this
 exact (Qvb hf D.n 0 _ (by omega) (ok0 V)).mono (by rw [h1]; exact hm)
end
end Go.Ab
namespace Go.Ab
open Go
theorem Q6w {i j:Nat} (h:i<=j):10000^i<=10000^j:=aV (by omega) h
end Go.Ab
namespace Go.Ab
open Go
theorem Q1b {p q:Nat} (h:2*(p+1)<=q+1):Nat.log2 (p+1) < Nat.log2 (q+1):=by
 have h1:2^Nat.log2 (p+1)<=p+1:=(Nat.le_log2 (by omega)).1 (bA _)
 have h2:Nat.log2 (p+1)+1<=Nat.log2 (q+1):=(Nat.le_log2 (by omega)).2 (by rw [Nat.pow_succ]; omega)
 omega
theorem Q25 {x K:Nat} (h:(dgs x).length<=K):Nat.log2 (x+1)<=14*K+1:=by
 have h1:=Qua x
 have h2:=Q6w (i:=(dgs x).length) (j:=K) h
 have h3:(10000:Nat)^K<=(2^14)^K:=Nat.pow_le_pow_left (by omega) K
 rw [<-Nat.pow_mul] at h3
 have h4:x+1 < 2^(14*K+1):=by rw [Nat.pow_succ]; omega
 have:=(Nat.log2_lt (by omega)).2 h4
 omega
def gm (x y:Nat):Nat := if y<=x then Nat.log2 (x*y+1) else Nat.log2 (x*y+1)+1
theorem Q57 {x y:Nat} (hy:0 < y):gm y (x % y) < gm x y:=by
 have hr:=cI x hy
 unfold gm
 rw [aH (by omega)]
 by_cases h:y<=x
 ·rw [aH h]
  refine Q1b ?_
  have h1:y+x % y<=x:=by
   have:=Nat.div_add_mod x y
   have h2:1<=x / y:=(Nat.one_le_div_iff hy).2 h
   have h3:y*1<=y*(x / y):=Nat.mul_le_mul_left _ h2
   omega
  have h4:(2*(x % y)+1)*y<=x*y:=aT _ (by omega)
  rw [dZ,Nat.mul_assoc,cL (x % y) y] at h4
  omega
 rw [aI h,Nat.mod_eq_of_lt (by omega),cL]
 omega
theorem Q23 (x y:Nat):Nat.gcd x y=Nat.gcd y (x % y):=by
 rw [Nat.gcd_comm,Nat.gcd_rec,Nat.gcd_comm]
theorem Q8d {x y:Nat} (hx:(dgs x).length<=8000) (hy:(dgs y).length<=8000):gm x y < 1152921504606846976:=by
 have h1:=Qua x
 have h2:=Qua y
 have h3:(dgs (x*y)).length<=16000:=by
  have:(dgs (x*y)).length<=(dgs x).length+(dgs y).length:=Qfw (by rw [Nat.pow_add]; exact Nat.mul_lt_mul'' h1 h2)
  omega
 have:=Q25 h3
 unfold gm
 split <;> omega
def MX:Nat := 4611686018427387903
def mkQ (neg:Bool) (n d:Nat):Ae × Bool :=
 if n / Nat.gcd n d<=MX then (if d / Nat.gcd n d<=MX then (⟨if neg then -((n / Nat.gcd n d:Nat):Int) else ((n / Nat.gcd n d:Nat):Int),((d / Nat.gcd n d:Nat):Int)⟩,true) else (⟨0,0⟩,false)) else (⟨0,0⟩,false)
end Go.Ab
namespace Go.Ab
open Go
theorem Qpu {n:Int} (h:0<=n/\n < 18446744073709551616):zv n=n:=by
 obtain ⟨m,rfl⟩:=Int.eq_ofNat_of_zero_le h.1
 exact Zf (by omega)
theorem Qx9 {n:Int} (h:n < 0/\-18446744073709551616<=n):zv n=n+18446744073709551616:=by
 simp [IntKind.wrap,IntKind.bits,IntKind.signed]; omega
theorem Qib (a b:Nat) (ha:a < 18446744073709551616) (hb:b < 18446744073709551616):Jd (a:Int) (b:Int)=some ((Nat.gcd a b:Nat):Int):=by
 have l1:(dgs a).length<=5:=Qfw (by omega)
 have l2:(dgs b).length<=5:=Qfw (by omega)
 have lim:gm a b < 1152921504606846976:=Q8d (by omega) (by omega)
 unfold Jd
 rw [Qs2 (fun s=>∃x y:Nat,s.1=(x:Int)/\s.2=(y:Int)/\Nat.gcd x y=Nat.gcd a b) (fun s=>gm s.1.toNat s.2.toNat) ((Nat.gcd a b:Nat):Int) ?_ _ ⟨a,b,rfl,rfl,rfl⟩ (by simpa using lim)]
 ·rfl
 rintro ⟨x0,y0⟩ ⟨x,y,h1,h2,h3⟩
 simp only at h1 h2
 subst h1; subst h2
 unfold Qg8
 simp only
 by_cases hy:y=0
 ·right
  subst hy
  rw [aI (by simp)]
  rw [Nat.gcd_zero_right] at h3
  rw [h3]
 left
 rw [aH (by simp; omega),aH (by omega),Qak (by omega)]
 refine ⟨_,rfl,⟨y,x % y,rfl,by simp,?_⟩,?_⟩
 ·rw [<-h3,Q23 x y]
 simp only [aR]
 rw [show ((x:Int) % (y:Int)).toNat = x % y by rw [<-Int.natCast_emod,aR]]
 exact Q57 (by omega)
theorem Qkx {p:Int} (h:-9223372036854775808<=p/\p<=9223372036854775807):Xe p=some (p.natAbs:Int):=by
 unfold Xe
 by_cases h0:p < 0
 ·rw [aH (by simpa using h0)]
  have e:zv p=p+18446744073709551616:=Qx9 (by omega)
  rw [e,Qx9 (by omega)]
  congr 1; omega
 rw [aI (by simpa using h0),Qpu (by omega)]
 congr 1; omega
def Rt (q:Ae):Prop:=1<=q.D/\q.D<=4611686018427387903/\-4611686018427387903<=q.N/\q.N<=4611686018427387903/\Nat.gcd q.N.natAbs q.D.natAbs=1
instance instRt (q:Ae):Decidable (Rt q):=by unfold Rt; infer_instance
def I64 (q:Ae):Prop:=(-9223372036854775808<=q.N/\q.N<=9223372036854775807)/\(-9223372036854775808<=q.D/\q.D<=9223372036854775807)
theorem Rt.i64 {q:Ae} (h:Rt q):I64 q:=by obtain ⟨h1,h2,h3,h4,_⟩:=h; unfold I64; omega
theorem Qvy (q:Ae):Xt q=some (if Rt q then 0 else 5):=by
 unfold Xt
 by_cases h1:q.D < 1
 ·rw [aH (by simpa using h1),aI (fun h=>by have:=h.1; omega)]
 rw [aI (by simpa using h1)]
 by_cases h2:q.D > 4611686018427387903
 ·rw [aH (by simpa using h2),aI (fun h=>by have:=h.2.1; omega)]
 rw [aI (by simpa using h2)]
 by_cases h3:q.N < -4611686018427387903
 ·rw [aH (by simpa using h3),aI (fun h=>by have:=h.2.2.1; omega)]
 rw [aI (by simpa using h3)]
 by_cases h4:q.N > 4611686018427387903
 ·rw [aH (by simpa using h4),aI (fun h=>by have:=h.2.2.2.1; omega)]
 rw [aI (by simpa using h4),Qkx (by omega)]
 simp only [aC]
 have eD:zv q.D=((q.D.natAbs:Nat):Int):=by rw [Qpu (by omega)]; omega
 rw [eD,Qib _ _ (by omega) (by omega)]
 simp only [aC]
 by_cases h5:Nat.gcd q.N.natAbs q.D.natAbs=1
 ·rw [aI (by simp [h5]),aH ⟨by omega,by omega,by omega,by omega,h5⟩]
 rw [aH (by simpa using (fun e:((Nat.gcd q.N.natAbs q.D.natAbs:Nat):Int)=1=>h5 (by omega))),aI (fun h=>h5 h.2.2.2.2)]
def qI (n d:Int):Ae:=(mkQ (!((decide (n < 0))==(decide (d < 0)))) n.natAbs d.natAbs).1
theorem Q2c {n d:Int} (hd:d≠0) (hn:n.natAbs<=MX) (hd':d.natAbs<=MX):qI n d=⟨if (!((decide (n < 0))==(decide (d < 0))))=true then -((n.natAbs / Nat.gcd n.natAbs d.natAbs:Nat):Int) else ((n.natAbs / Nat.gcd n.natAbs d.natAbs:Nat):Int),((d.natAbs / Nat.gcd n.natAbs d.natAbs:Nat):Int)⟩:=by
 unfold qI mkQ
 have h1:=Nat.div_le_self n.natAbs (Nat.gcd n.natAbs d.natAbs)
 have h2:=Nat.div_le_self d.natAbs (Nat.gcd n.natAbs d.natAbs)
 rw [aH (by omega),aH (by omega)]
theorem Q6a {n d:Int} (hn:n.natAbs<=MX) (hd:d.natAbs<=MX) (h0:d≠0):Qa0 n d=some (qI n d,0):=by
 have hMX:MX=4611686018427387903:=rfl
 unfold Qa0
 rw [aI (by simpa using h0)]
 unfold Qcy
 rw [Qkx (by omega),Qkx (by omega)]
 simp only [aC]
 rw [Qib _ _ (by omega) (by omega)]
 simp only [aC]
 have hg:0 < Nat.gcd n.natAbs d.natAbs:=Nat.gcd_pos_of_pos_right _ (by omega)
 rw [aH (by omega),aH (by omega)]
 have h1:=Nat.div_le_self n.natAbs (Nat.gcd n.natAbs d.natAbs)
 have h2:=Nat.div_le_self d.natAbs (Nat.gcd n.natAbs d.natAbs)
 have e1:Int.tdiv (n.natAbs:Int) ((Nat.gcd n.natAbs d.natAbs:Nat):Int)=((n.natAbs / Nat.gcd n.natAbs d.natAbs:Nat):Int):=by rw [Qov (by omega)]; simp
 have e2:Int.tdiv (d.natAbs:Int) ((Nat.gcd n.natAbs d.natAbs:Nat):Int)=((d.natAbs / Nat.gcd n.natAbs d.natAbs:Nat):Int):=by rw [Qov (by omega)]; simp
 rw [e1,e2,Q2c h0 hn hd]
 generalize n.natAbs / Nat.gcd n.natAbs d.natAbs=x at *
 generalize d.natAbs / Nat.gcd n.natAbs d.natAbs=y at *
 rw [Qpu (by omega),Qpu (by omega)]
 unfold Qbv
 simp only
 rw [aI (by simp),aI (by simp; omega),aI (by simp),aI (by simp; omega)]
 generalize (!((decide (n < 0))==(decide (d < 0))))=b
 cases b
 ·rw [aI (by simp),aI (by simp),w64 (by omega),w64 (by omega)]; rfl
 rw [aH rfl,aH rfl,w64 (n:=(x:Int)) (by omega),w64 (n:=(y:Int)) (by omega),w64 (by omega)]
 simp
theorem Qq6 {n d:Int} (hn:n.natAbs<=MX) (hd:d.natAbs<=MX) (h0:d≠0):Rt (qI n d)/\(qI n d).N*d=n*(qI n d).D:=by
 have hMX:MX=4611686018427387903:=rfl
 rw [Q2c h0 hn hd]
 have hg:0 < Nat.gcd n.natAbs d.natAbs:=Nat.gcd_pos_of_pos_right _ (by omega)
 have hc:Nat.gcd (n.natAbs / Nat.gcd n.natAbs d.natAbs) (d.natAbs / Nat.gcd n.natAbs d.natAbs)=1:=by rw [Nat.gcd_div (Nat.gcd_dvd_left _ _) (Nat.gcd_dvd_right _ _),Nat.div_self hg]
 have hx:n.natAbs=n.natAbs / Nat.gcd n.natAbs d.natAbs*Nat.gcd n.natAbs d.natAbs:=(Nat.div_mul_cancel (Nat.gcd_dvd_left _ _)).symm
 have hy:d.natAbs=d.natAbs / Nat.gcd n.natAbs d.natAbs*Nat.gcd n.natAbs d.natAbs:=(Nat.div_mul_cancel (Nat.gcd_dvd_right _ _)).symm
 have hxl:=Nat.div_le_self n.natAbs (Nat.gcd n.natAbs d.natAbs)
 have hyl:=Nat.div_le_self d.natAbs (Nat.gcd n.natAbs d.natAbs)
 have hyp:0 < d.natAbs / Nat.gcd n.natAbs d.natAbs:=Nat.div_pos (Nat.le_of_dvd (by omega) (Nat.gcd_dvd_right _ _)) hg
 generalize n.natAbs / Nat.gcd n.natAbs d.natAbs=x at *
 generalize d.natAbs / Nat.gcd n.natAbs d.natAbs=y at *
 generalize Nat.gcd n.natAbs d.natAbs=g at *
 have key:(x:Int)*(d.natAbs:Int)=(n.natAbs:Int)*(y:Int):=by
  rw [hx,hy]
  simp only [Int.natCast_mul]
  rw [Int.mul_assoc,Int.mul_comm (g:Int),Int.mul_comm (y:Int)]
 refine ⟨?_,?_⟩
 ·unfold Rt
  simp only
  refine ⟨by omega,by omega,?_,?_,?_⟩
  ·split <;> omega
  ·split <;> omega
  split
  ·rw [Int.natAbs_neg]; simpa using hc
  simpa using hc
 simp only
 by_cases h1:n < 0
 ·by_cases h2:d < 0
  ·rw [aI (by simp [h1,h2])]
   rw [show d=-(d.natAbs:Int) by omega,show n=-(n.natAbs:Int) by omega]
   rw [Int.mul_neg,Int.neg_mul,key]
  rw [aH (by simp [h1,h2])]
  rw [show d=(d.natAbs:Int) by omega,show n=-(n.natAbs:Int) by omega]
  rw [Int.neg_mul,Int.neg_mul,key]
 by_cases h2:d < 0
 ·rw [aH (by simp [h1,h2])]
  rw [show d=-(d.natAbs:Int) by omega,show n=(n.natAbs:Int) by omega]
  rw [Int.mul_neg,Int.neg_mul,Int.neg_neg,key]
 rw [aI (by simp [h1,h2])]
 rw [show d=(d.natAbs:Int) by omega,show n=(n.natAbs:Int) by omega]
 exact key
theorem Q3u (x y:Nat) (hx:x < 18446744073709551616) (hy:y < 18446744073709551616):Ks (x:Int) (y:Int)=some (((x*y / 18446744073709551616:Nat):Int),((x*y % 18446744073709551616:Nat):Int)):=by
 have hb:zk=64:=rfl
 have hp:(2:Int)^min (Int.toNat 32) zk=4294967296:=rfl
 have hf:∀z:Nat,Int.fdiv (z:Int) 4294967296=((z / 4294967296:Nat):Int):=fun z=>by rw [Int.fdiv_eq_ediv_of_nonneg _ (by omega)]; simp
 have hm:∀z:Nat,z < 18446744073709551616->zv ((zb (z:Int) &&& zb 4294967295).toNat : Int)=((z % 4294967296:Nat):Int):=fun z hz=>by
  have e1:(zb (z:Int) &&& zb 4294967295).toNat = z % 4294967296:=by
   rw [BitVec.toNat_and,Y9 hz,show (zb 4294967295).toNat = 2^32 - 1 from Y9 (a:=4294967295) (by omega),Nat.and_two_pow_sub_one_eq_mod]
  rw [e1,Zf (by omega)]
 unfold Ks
 simp only [hp]
 rw [hf x,hf y,hm x hx,hm y hy]
 obtain ⟨x1,ex1⟩:∃z,z=x / 4294967296:=⟨_,rfl⟩
 obtain ⟨x0,ex0⟩:∃z,z=x % 4294967296:=⟨_,rfl⟩
 obtain ⟨y1,ey1⟩:∃z,z=y / 4294967296:=⟨_,rfl⟩
 obtain ⟨y0,ey0⟩:∃z,z=y % 4294967296:=⟨_,rfl⟩
 rw [<-ex1,<-ex0,<-ey1,<-ey0]
 have hX:x=x1*4294967296+x0:=by omega
 have hY:y=y1*4294967296+y0:=by omega
 have hx1:x1<=4294967295:=by omega
 have hy1:y1<=4294967295:=by omega
 have ba:x1*y1<=4294967295*4294967295:=Nat.mul_le_mul hx1 hy1
 have bb:x1*y0<=4294967295*4294967295:=Nat.mul_le_mul hx1 (by omega)
 have bc:x0*y1<=4294967295*4294967295:=Nat.mul_le_mul (by omega) hy1
 have bd:x0*y0<=4294967295*4294967295:=Nat.mul_le_mul (by omega) (by omega)
 have hprod:(x1*4294967296+x0)*(y1*4294967296+y0)=x1*y1*18446744073709551616+(x1*y0+x0*y1)*4294967296+x0*y0:=by
  simp only [dZ,Nat.mul_add]
  have e1:x1*4294967296*(y1*4294967296)=x1*y1*18446744073709551616:=by
   rw [Nat.mul_mul_mul_comm]
  have e2:x1*4294967296*y0=x1*y0*4294967296:=Nat.mul_right_comm _ _ _
  have e3:x0*(y1*4294967296)=x0*y1*4294967296:=(Nat.mul_assoc _ _ _).symm
  rw [e1,e2,e3]; omega
 rw [<-hX,<-hY] at hprod
 have e4:(x:Int)*(y:Int)=((x*y:Nat):Int):=by simp
 rw [e4,hprod]
 simp only [<-Int.natCast_mul]
 generalize x1*y1=a at *
 generalize x1*y0=b at *
 generalize x0*y1=c at *
 generalize x0*y0=d at *
 rw [Zf (n:=a) (by omega),Zf (n:=b) (by omega),Zf (n:=c) (by omega),Zf (n:=d) (by omega),hf d]
 have s1:(b:Int)+((d / 4294967296:Nat):Int)=((b+d / 4294967296:Nat):Int):=by simp
 rw [s1,Zf (n:=b+d / 4294967296) (by omega),hm _ (by omega),hf]
 have s2:(((b+d / 4294967296) % 4294967296:Nat):Int)+(c:Int)=(((b+d / 4294967296) % 4294967296+c:Nat):Int):=by simp
 have s3:(a:Int)+(((b+d / 4294967296) / 4294967296:Nat):Int)=((a+(b+d / 4294967296) / 4294967296:Nat):Int):=by simp
 rw [s2,s3,Zf (n:=(b+d / 4294967296) % 4294967296+c) (by omega),hf,Zf (n:=a+(b+d / 4294967296) / 4294967296) (by omega)]
 have s4:((a+(b+d / 4294967296) / 4294967296:Nat):Int)+((((b+d / 4294967296) % 4294967296+c) / 4294967296:Nat):Int)=((a+(b+d / 4294967296) / 4294967296+((b+d / 4294967296) % 4294967296+c) / 4294967296:Nat):Int):=by simp
 rw [s4,Zf (n:=a+(b+d / 4294967296) / 4294967296+((b+d / 4294967296) % 4294967296+c) / 4294967296) (by omega)]
 have s5:zv ((a*18446744073709551616+(b+c)*4294967296+d:Nat):Int)=(((a*18446744073709551616+(b+c)*4294967296+d) % 18446744073709551616:Nat):Int):=by
  simp [IntKind.wrap,IntKind.bits,IntKind.signed]
 rw [s5]
 congr 2
 omega
end Go.Ab
namespace Go.Ab
open Go
theorem Q6o {n:Nat} {f:Nat -> Int}:(Qd n f).sum=Qj n f:=by
 induction n with
 | zero=>rfl
 | succ n ih=>rw [<-Qdh,List.sum_append,ih]; simp [Qj]
theorem Qq0 {D:NF} (X:VX D):Qox D.n D.g D.node:=by
 have V:=X.vn
 have hc:∀v,v < D.n->K1 (D.node v):=fun v hv=>by
  have:=V.card v hv
  exact ⟨by show (1:Int)<=(D.card v:Int); omega,by show (D.card v:Int)<=4; omega⟩
 have ec:cardN D.node=D.card:=funext fun v=>by unfold cardN NF.node; simp
 have ep:Yk D.node=D.par:=funext fun v=>by
  unfold Yk NF.node
  rw [List.map_map]
  conv=>rhs; rw [<-List.map_id (D.par v)]
  exact List.map_congr_left fun x _=>by simp
 refine ⟨by have:=V.g1; omega,by have:=V.g60; omega,V.n1,V.n8,hc,by rw [ec]; exact V.worlds,fun v hv=>⟨⟨⟨D.par v,rfl,X.sorted v hv,V.par v hv⟩,fun hm=>?_⟩,?_,fun r hr=>?_⟩,by rw [ep]; obtain ⟨rk,h⟩:=X.rank; exact ⟨rk,h⟩⟩
 ·have hm:(v:Int)∈nI (D.par v):=hm
  unfold nI at hm
  obtain ⟨p,hp,e⟩:=cG.1 hm
  have:p=v:=by omega
  subst this
  exact X.self p hv hp
 ·rw [ec,ep]; show (Qd (D.rows v) _).length=_; rw [Q1]; rfl
 have hr:r∈Qd (D.rows v) fun r=>Qd (D.card v) fun x=>(D.W v r x:Int):=hr
 unfold Qd at hr
 obtain ⟨i,hi,rfl⟩:=cG.1 hr
 have hi:=cS.1 hi
 have e:=X.sum v i hv hi
 have h1:((List.range (D.card v)).map fun x=>(D.W v i x:Int))=Qd (D.card v) fun x=>(D.W v i x:Int):=rfl
 rw [h1]
 refine ⟨by rw [Q1]; rfl,fun w hw=>?_,by rw [Q6o]; exact e⟩
 unfold Qd at hw
 obtain ⟨x,_,rfl⟩:=cG.1 hw
 omega
section
variable {D:NF}
def evJ (D:NF) (e:List Int) (j:Nat):Prop:=-1<=(e[j]?).getD 0/\(e[j]?).getD 0 < D.card j
def evL (D:NF) (e:List Int):Prop:=e.length=D.n/\∀j,j < D.n->evJ D e j
theorem Q4y {e:List Int} {j:Nat} (hj:j < e.length):lkI e (j:Int)=some ((e[j]?).getD 0):=by rw [Zd hj,aG hj]; rfl
theorem Q5q (X:VX D) (e:List Int):(evL D e/\Yf D.net e=some 0)\/(¬ evL D e/\Yf D.net e=some 2):=by
 have V:=X.vn
 have hn:=V.n8
 have hlen:D.net.Nodes.length=D.n:=Q1
 obtain ⟨order,hr⟩:=Qns X
 unfold Yf
 rw [hr,aC,aI (by simp)]
 dsimp only
 rw [hlen]
 by_cases c:e.length=D.n
 ·rw [aI (by simp; omega)]
  have h:=Vd (n:=D.n) (by omega) (evJ D e) (fun i (_:Unit)=>i) (body:=Zt e (⟨D.net,Qe D.n D.card,Qe D.n (setN D),order⟩,0)) (fun _=>()) (.inr ()) (.inl ())
   (fun j hj hI hg=>by
    obtain ⟨g1,g2⟩:=hg
    unfold Zt
    dsimp only
    rw [c,aH (dlt hj),Q4y (by omega),aC,aI (by simp; exact g1),Qy hj,aC,aI (by simp; exact g2)])
   (fun j hj hI hg=>by
    unfold Zt
    dsimp only
    rw [c,aH (dlt hj),Q4y (by omega),aC]
    by_cases c1:(e[j]?).getD 0 < -1
    ·rw [aH (by simpa using c1)]
    rw [aI (by simpa using c1),Qy hj,aC,aH (by
     rw [aN]
     exact Int.not_lt.1 fun hh=>hg ⟨by omega,hh⟩)])
   (fun hI=>by unfold Zt; dsimp only; rw [c,aI (nlt _)])
  rcases h with ⟨h,e1⟩ | ⟨h,e1⟩
  ·left; refine ⟨⟨c,h⟩,?_⟩
   have e1:Qb fuel (Zt e (⟨D.net,Qe D.n D.card,Qe D.n (setN D),order⟩,0)) 0=some (.inr ()):=e1
   rw [e1]; rfl
  right; refine ⟨fun hh=>h hh.2,?_⟩
  have e1:Qb fuel (Zt e (⟨D.net,Qe D.n D.card,Qe D.n (setN D),order⟩,0)) 0=some (.inl ()):=e1
  rw [e1]; rfl
 rw [aH (by simp; omega)]
 exact .inr ⟨fun hh=>c hh.1,rfl⟩
theorem Q4g (X:VX D):Jc D.net=some true:=by
 have V:=X.vn
 have hb:NB D.n D.node:=⟨fun v hv=>by
   have:=V.len v hv
   show (List.map _ (D.par v)).length<=_; rw [bZ]; omega,fun v hv=>by
   have:=V.rows_le hv
   show (Qd _ _).length<=_; rw [Q1]; omega,fun v hv r hr=>by
   have hr:r∈Qd (D.rows v) fun r=>Qd (D.card v) fun x=>(D.W v r x:Int):=hr
   unfold Qd at hr
   obtain ⟨i,_,rfl⟩:=cG.1 hr
   have:=(V.card v hv).2
   rw [bZ,List.length_range]; omega⟩
 rcases Qj3 (g:=D.g) hb with ⟨_,e⟩ | ⟨no,_⟩
 ·exact e
 exact absurd (Qq0 X) no
end
end Go.Ab
namespace Go.Ab
open Go
theorem Qym:Qfq=some true:=by kernel_rfl
end Go.Ab
namespace Go.Ab
open Go
def Qdo (S E:Nat -> Int):Nat -> Int:=fun j=>if S j=-1 then E j else if E j=-1\/E j=S j then S j else 100
theorem Qi1 {S E:Nat -> Int} {j x:Nat} (hx:x < 100):okE (Qdo S E) j x↔okE S j x/\okE E j x:=by
 unfold okE Qdo
 by_cases h1:S j=-1
 ·simp [h1]
 by_cases h2:E j=-1\/E j=S j
 ·rw [aI h1,aH h2]; omega
 rw [aI h1,aI h2]; omega
def NF.fr (D:NF) (m:Nat) (w:Nat -> Nat):Nat -> Nat := fun k=>Qi k fun v=>if m.testBit v=true then 1 else D.wt w v
def NF.wh (D:NF) (m:Nat):Nat -> Nat := fun k=>Qi k fun v=>if m.testBit v=true then 1 else D.g
def fS (D:NF) (m:Nat) (w:Nat -> Nat):Int:=(D.fr m w D.n:Int)
def actS (n:Nat) (S:Nat -> Int):Nat := msk n fun j=>decide (0<=S j)
theorem Q3j {n:Nat} {S:Nat -> Int} {j:Nat}:(actS n S).testBit j=(decide (j < n) && decide (0<=S j)):=Q3 _ _ _
theorem Qjg {n:Nat} {p:Nat -> Bool}:msk n p < 2^n:=Nat.lt_pow_two_of_testBit _ fun j hj=>by rw [Q3]; simp; omega
theorem Qx4 {n:Nat} {S:Nat -> Int} (hn:n<=8):actS n S < 18446744073709551616:=bO Qjg (bY (aV (by omega) hn) (by decide))
theorem Qja {a k:Nat} (ha:a < 18446744073709551616) (hk:k < 64) :
  ((zv (zb (Int.fdiv (a:Int) (2^min (Int.toNat (k:Int)) zk)) &&& zb 1).toNat)==1)=a.testBit k:=by
 rw [Qe2 ha hk]; cases a.testBit k <;> rfl
theorem Q52 {a k:Nat} (ha:a < 18446744073709551616) (hk:k < 64) :
  ((zv (zb (Int.fdiv (a:Int) (2^min (Int.toNat (k:Int)) zk)) &&& zb 1).toNat)==0)=!a.testBit k:=by
 rw [Qe2 ha hk]; cases a.testBit k <;> rfl
section
variable {D:NF} {w:Nat -> Nat} {m:Nat}
theorem Q2o {n:Nat} (hn:n<=8) {S:Nat -> Int}:Qaw (Qd n S)=some (actS n S:Int):=by
 have hr:=Zc (n:=n) (k0:=0) (by omega) (by omega) (fun i (t:Int)=>(t,i)) (body:=Qbz (Qd n S)) (fun k=>(actS k S:Int)) (actS n S:Int)
  (fun k _ hk=>by
   unfold Qbz
   rw [aH (by rw [Q1]; exact dlt hk),show lkI (Qd n S) (k:Int)=some (S k) from Q5 hk,aC]
   by_cases c:0<=S k
   ·rw [aH (by simpa using c),aH (by omega)]
    simp only
    rw [Qnl (Qx4 (by omega)) (by omega),show actS (k+1) S=actS k S ||| 2^k by show msk k _ ||| _=_; rw [aH (by simpa using c)]; rfl]
   rw [aI (by simpa using c),show actS (k+1) S=actS k S by show msk k _ ||| _=_; rw [aI (by simpa using c)]; simp [actS]])
  (by unfold Qbz; rw [aI (by rw [Q1]; exact nlt n)])
 unfold Qaw
 rw [show ((0:Int),(0:Int))=(((actS 0 S:Nat):Int),((0:Nat):Int)) from rfl,hr]; rfl
variable (V:VN D)
include V
theorem VN.aweigh0 (hw:D.ok w) {v:Nat} (hv:v < D.n):Qb fuel (Qby (D.node v) D.net (Qe D.n w)) (0,0)=some (D.idx v w:Int):=by
 have hl:(D.node v).Parents.length=(D.par v).length:=by simp [NF.node]
 refine X5 (fun k=>((Vw D.card w ((D.par v).take k):Int),(k:Int))) (D.par v).length _ rfl (fun k hk=>?_) ?_ (by have:=V.len v hv; omega)
 ·have hlen:=V.len v hv
  have hp:=V.par v hv (D.par v)[k] (bL hk)
  have hpar:lkI (D.node v).Parents (k:Int)=some (((D.par v)[k]:Nat):Int):=by rw [Zd (by rw [hl]; exact hk)]; simp [NF.node]
  have h1:Vw D.card w ((D.par v).take k) < lprod D.card ((D.par v).take k):=Qsw fun p hp=>hw p (V.par v hv p (bJ hp))
  have h2:lprod D.card ((D.par v).take k)<=4^8:=bY (Qer fun p hp=>(V.card p (V.par v hv p (bJ hp))).2) (aV (by omega) (by rw [cU]; omega))
  have h3:Vw D.card w ((D.par v).take (k+1))=Vw D.card w ((D.par v).take k)*D.card (D.par v)[k]+w (D.par v)[k]:=by rw [Yn hk,Qtc]
  have hc:=(V.card _ hp).2
  have hww:=hw _ hp
  have h4:Vw D.card w ((D.par v).take k)*D.card (D.par v)[k]<=65536*4:=Nat.mul_le_mul (by omega) hc
  unfold Qby
  simp only
  rw [aH (by rw [hl]; simpa using hk),hpar]
  simp only [aC]
  rw [V.node hp]
  simp only [aC]
  rw [Qy hp]
  simp only [aC]
  have e1:((Vw D.card w ((D.par v).take k):Nat):Int)*(D.node (D.par v)[k]).Card=((Vw D.card w ((D.par v).take k)*D.card (D.par v)[k]:Nat):Int):=by simp [NF.node]
  have w1:zw ((Vw D.card w ((D.par v).take k)*D.card (D.par v)[k]:Nat):Int)=((Vw D.card w ((D.par v).take k)*D.card (D.par v)[k]:Nat):Int):=w64 (by omega)
  rw [e1,w1,w64 (by omega),w64 (by omega),h3]
  simp
 unfold Qby
 simp only
 rw [aI (by rw [hl]; simp)]
 simp [NF.idx]
theorem VN.fr_le (hw:D.ok w) {k:Nat} (hk:k<=D.n):D.fr m w k<=167961600000000:=by
 have h1:D.fr m w k<=60^k:=Qbo fun v hv=>by
  split
  ·omega
  exact V.wt_le hw (by omega)
 exact bY h1 (bY (aV (by omega) (bY hk V.n8)) (by decide))
theorem VN.wh_le {k:Nat} (hk:k<=D.n):D.wh m k<=167961600000000:=by
 have h1:D.wh m k<=60^k:=Qbo fun v hv=>by
  split
  ·omega
  exact V.g60
 exact bY h1 (bY (aV (by omega) (bY hk V.n8)) (by decide))
theorem VN.wh_pos {k:Nat} (hk:k<=D.n):1<=D.wh m k:=Qpo fun v hv=>by
 split
 ·omega
 exact V.g1
theorem VN.aweigh (hm:m < 18446744073709551616) (hw:D.ok w):Qay D.net (m:Int) (Qe D.n w)=some (fS D m w):=by
 have hlen:D.net.Nodes.length=D.n:=Q1
 have hn8:=V.n8
 have hr:=Zc (n:=D.n) (k0:=0) (by omega) (by omega) (fun i (t:Int)=>(t,i)) (body:=Qbx D.net (m:Int) (Qe D.n w)) (fun k=>(D.fr m w k:Int)) (D.fr m w D.n:Int)
  (fun k _ hk=>by
   have hb:=V.fr_le (m:=m) hw (k:=k) (by omega)
   have hwt:=V.wt_le hw hk
   have hi:=V.idx_lt hw hk
   have hmm:D.fr m w k*D.wt w k<=167961600000000*60:=Nat.mul_le_mul hb hwt
   unfold Qbx
   rw [aH (by rw [hlen]; exact dlt hk),V.node hk,aC,aH (by omega)]
   simp only
   rw [Qja hm (by omega)]
   by_cases c:m.testBit k=true
   ·rw [aH c,show D.fr m w (k+1)=D.fr m w k by show D.fr m w k*(if m.testBit k=true then 1 else D.wt w k)=_; rw [aH c,Nat.mul_one]]
   rw [aI c,V.aweigh0 hw hk,aC,show lkI (D.node k).Rows (D.idx k w:Int)=some (Qd (D.card k) fun x=>(D.W k (D.idx k w) x:Int)) from Q5 hi,aC,Qy hk,aC,
    show lkI (Qd (D.card k) fun x=>(D.W k (D.idx k w) x:Int)) (w k:Int)=some (D.wt w k:Int) from Q5 (hw k hk),aC,w64 (by rw [<-Int.natCast_mul]; omega),
    show D.fr m w (k+1)=D.fr m w k*D.wt w k by show D.fr m w k*(if m.testBit k=true then 1 else D.wt w k)=_; rw [aI c],Int.natCast_mul])
  (by unfold Qbx; rw [aI (by rw [hlen]; exact nlt _)])
 unfold Qay
 rw [show ((1:Int),(0:Int))=(((D.fr m w 0:Nat):Int),((0:Nat):Int)) from rfl,hr]; rfl
theorem VN.awhole (hm:m < 18446744073709551616):Qcd D.net (m:Int)=some (D.wh m D.n:Int):=by
 have hlen:D.net.Nodes.length=D.n:=Q1
 have hn8:=V.n8
 have hr:=Zc (n:=D.n) (k0:=0) (by omega) (by omega) (fun i (t:Int)=>(t,i)) (body:=Qb4 D.net (m:Int)) (fun k=>(D.wh m k:Int)) (D.wh m D.n:Int)
  (fun k _ hk=>by
   have hb:=V.wh_le (m:=m) (k:=k) (by omega)
   have hg:=V.g60
   have hmm:D.wh m k*D.g<=167961600000000*60:=Nat.mul_le_mul hb hg
   unfold Qb4
   rw [aH (by rw [hlen]; exact dlt hk),aH (by omega)]
   simp only
   rw [Q52 hm (by omega)]
   by_cases c:m.testBit k=true
   ·rw [aI (by simp [c]),show D.wh m (k+1)=D.wh m k by show D.wh m k*(if m.testBit k=true then 1 else D.g)=_; rw [aH c,Nat.mul_one]]
   rw [aH (by simpa using c),show D.net.Grain=(D.g:Int) from rfl,w64 (by rw [<-Int.natCast_mul]; omega),
    show D.wh m (k+1)=D.wh m k*D.g by show D.wh m k*(if m.testBit k=true then 1 else D.g)=_; rw [aI c],Int.natCast_mul])
  (by unfold Qb4; rw [aI (by rw [hlen]; exact nlt _)])
 unfold Qcd
 rw [show ((1:Int),(0:Int))=(((D.wh m 0:Nat):Int),((0:Nat):Int)) from rfl,hr]; rfl
theorem Q0i:Ext D (fS D m):=fun w w' h=>by
 unfold fS NF.fr
 congr 1
 exact Qbj fun v hv=>by rw [Q8p V h hv]
theorem Qyp:∀w,D.ok w->BD 1 (fS D m w):=fun w hw=>by
 have:=V.fr_le (m:=m) hw (bA _)
 unfold fS BD KK; omega
theorem Q2h {w:Nat -> Nat}:0<=fS D m w:=by unfold fS; omega
end
def FWl {τ:Type} (D:NF) (K:Nat -> Nat -> Bool) (leaf:τ->(Nat -> Nat)->τ):Nat -> Nat -> (Nat -> Nat)->τ->τ
 | 0,_,w,t=>leaf t w
 | d+1,i,w,t=>(List.range (D.card i)).foldl (fun t x=>if K i x then FWl D K leaf d (i+1) (updF w i x) t else t) t
def FXl {τ:Type} (D:NF) (K:Nat -> Nat -> Bool) (leaf:τ->(Nat -> Nat)->τ) (d i:Nat) (w:Nat -> Nat) (t:τ) (x:Nat):τ:=(List.range x).foldl (fun t x=>if K i x then FWl D K leaf d (i+1) (updF w i x) t else t) t
theorem Qk6 {τ:Type} {D:NF} {K:Nat -> Nat -> Bool} {leaf:τ->(Nat -> Nat)->τ} {d i:Nat} {w:Nat -> Nat} {t:τ} {x:Nat} :
  FXl D K leaf d i w t (x+1)=if K i x then FWl D K leaf d (i+1) (updF w i x) (FXl D K leaf d i w t x) else FXl D K leaf d i w t x:=by
 unfold FXl; rw [List.range_succ,List.foldl_append]; rfl
theorem Qsa {τ:Type} {D:NF} {K:Nat -> Nat -> Bool} {leaf:τ->(Nat -> Nat)->τ} (hf:∀t w w',(∀j,j < D.n->w j=w' j)->leaf t w=leaf t w') :
  ∀(d i:Nat) (w w':Nat -> Nat) (t:τ),i+d=D.n->(∀j,j < i->w j=w' j)->FWl D K leaf d i w t=FWl D K leaf d i w' t
 | 0,i,w,w',t,hi,h=>hf t w w' fun j hj=>h j (by omega)
 | d+1,i,w,w',t,hi,h=>by
  unfold FWl
  have:∀(l:List Nat) (t:τ),l.foldl (fun t x=>if K i x then FWl D K leaf d (i+1) (updF w i x) t else t) t=l.foldl (fun t x=>if K i x then FWl D K leaf d (i+1) (updF w' i x) t else t) t:=fun l=>by
   induction l with
   | nil=>intro t; rfl
   | cons x l ih =>
    intro t
    simp only [List.foldl_cons]
    rw [ih]
    congr 1
    split
    ·exact Qsa hf d (i+1) _ _ t (by omega) fun j hj=>by
      by_cases e:j=i
      ·subst e; rw [Z6,Z6]
      rw [Yw e,Yw e]; exact h j (by omega)
    rfl
  exact this _ t
theorem Qxh {τ:Type} {D:NF} {K:Nat -> Nat -> Bool} {leaf:τ->(Nat -> Nat)->τ} {I:Nat -> τ->Prop} (mono:∀m p t,I m t->m<=p->I p t) (hl:∀m t w,I m t->D.ok w->I (m+1) (leaf t w)) :
  ∀(d i:Nat) (w:Nat -> Nat) (t:τ) (m:Nat),i+d=D.n->D.ok w->I m t->I (m+PC D d i) (FWl D K leaf d i w t)
 | 0,i,w,t,m,hi,hw,h=>hl m t w h hw
 | d+1,i,w,t,m,hi,hw,h=>by
  have:∀x,x<=D.card i->I (m+x*PC D d (i+1)) (FXl D K leaf d i w t x):=fun x=>by
   induction x with
   | zero=>intro _; simpa [FXl] using h
   | succ x ih =>
    intro hx
    rw [Qk6,dW,<-cJ]
    split
    ·exact Qxh mono hl d (i+1) _ _ _ (by omega) (Qqn hw (by omega)) (ih (by omega))
    exact mono _ _ _ (ih (by omega)) (by omega)
  exact this _ (bA _)
theorem Qu0 {τ σ ρ:Type} {D:NF} (V:VN D) {K:Nat -> Nat -> Bool} {leaf:τ->(Nat -> Nat)->τ} (hext:∀t w w',(∀j,j < D.n->w j=w' j)->leaf t w=leaf t w')
  {I:Nat -> τ->Prop} (mono:∀m p t,I m t->m<=p->I p t) (hl:∀m t w,I m t->D.ok w->I (m+1) (leaf t w))
  (mkS:Int->τ->List Int->σ) (mkT:τ->List Int->ρ) {F:(σ->Option ρ)->σ->Option ρ} {B:(σ->Option ρ)->Nat -> τ->(Nat -> Nat)->σ->Option (Qg σ ρ)}
  (hleaf:∀r m t w,D.ok w->I m t->m+1<=1024->F r (mkS (D.n:Int) t (Qe D.n w))=some (mkT (leaf t w) (Qe D.n w)))
  (hnode:∀r i t w z,i < D.n->D.ok w->Qb fuel (B r i t w) (mkS 0 t (Qe D.n w))=some z->F r (mkS (i:Int) t (Qe D.n w))=some z)
  (hyes:∀r i t0 w0 x t w z w',i < D.n->D.ok w->x < D.card i->K i x=true->r (mkS ((i+1:Nat):Int) t (Qe D.n (updF w i x)))=some (mkT z (Qe D.n w'))->B r i t0 w0 (mkS (x:Int) t (Qe D.n w))=some (.next (mkS ((x+1:Nat):Int) z (Qe D.n w'))))
  (hno:∀r i t0 w0 x t w,i < D.n->D.ok w->x < D.card i->K i x=false->B r i t0 w0 (mkS (x:Int) t (Qe D.n w))=some (.next (mkS ((x+1:Nat):Int) t (Qe D.n w))))
  (hend:∀r i t0 w0 t w,i < D.n->D.ok w->B r i t0 w0 (mkS (D.card i:Int) t (Qe D.n w))=some (.done (mkT t (Qe D.n w)))) :
  ∀(d N:Nat),d < N->∀(i m:Nat) (w:Nat -> Nat) (t:τ),i+d=D.n->D.ok w->I m t->m+PC D d i<=1024 ->
   ∃w',D.ok w'/\(∀j,j < i->w' j=w j)/\Qbh F N (mkS (i:Int) t (Qe D.n w))=some (mkT (FWl D K leaf d i w t) (Qe D.n w'))
 | 0,N+1,_,i,m,w,t,hi,hw,hI,hm=>by
  have e:i=D.n:=by omega
  subst e
  refine ⟨w,hw,fun _ _=>rfl,?_⟩
  show F (Qbh F N) _=_
  exact hleaf _ m t w hw hI hm
 | d+1,N+1,hN,i,m,w,t,hi,hw,hI,hm=>by
  have hin:i < D.n:=by omega
  have hc:=V.card i hin
  have hPC:PC D (d+1) i=D.card i*PC D d (i+1):=rfl
  have key:∀x,x<=D.card i->I (m+x*PC D d (i+1)) (FXl D K leaf d i w t x):=fun x=>by
   induction x with
   | zero=>intro _; simpa [FXl] using hI
   | succ x ih =>
    intro hx
    rw [Qk6,dW,<-cJ]
    split
    ·exact Qxh mono hl d (i+1) _ _ _ (by omega) (Qqn hw (by omega)) (ih (by omega))
    exact mono _ _ _ (ih (by omega)) (by omega)
  have hloop:∀x w',x<=D.card i->D.ok w'->(∀j,j < i->w' j=w j)->∀k,D.card i - x < k ->
    ∃w2,D.ok w2/\(∀j,j < i->w2 j=w j)/\Qb k (B (Qbh F N) i t w) (mkS (x:Int) (FXl D K leaf d i w t x) (Qe D.n w'))=some (mkT (FXl D K leaf d i w t (D.card i)) (Qe D.n w2)):=by
   intro x w' hx hw' hag k
   induction hk:D.card i - x generalizing x w' k with
   | zero =>
    intro hk'
    obtain ⟨k,rfl⟩:∃k',k=k'+1:=⟨k - 1,by omega⟩
    have:x=D.card i:=by omega
    subst this
    refine ⟨w',hw',hag,?_⟩
    unfold Qb
    rw [hend _ i t w _ w' hin hw']
   | succ q ih =>
    intro hk'
    obtain ⟨k,rfl⟩:∃k',k=k'+1:=⟨k - 1,by omega⟩
    have hlt:x < D.card i:=by omega
    by_cases c:K i x=true
    ·have hxm:m+x*PC D d (i+1)+PC D d (i+1)<=1024:=by
      have:(x+1)*PC D d (i+1)<=D.card i*PC D d (i+1):=aT _ hlt
      rw [dW] at this
      omega
     obtain ⟨w2,k1,k2,k3⟩:=Qu0 V hext mono hl mkS mkT hleaf hnode hyes hno hend d N (by omega) (i+1) (m+x*PC D d (i+1)) (updF w' i x) (FXl D K leaf d i w t x) (by omega) (Qqn hw' hlt) (key x (by omega)) hxm
     have e1:FXl D K leaf d i w t (x+1)=FWl D K leaf d (i+1) (updF w' i x) (FXl D K leaf d i w t x):=by
      rw [Qk6,aH c]
      exact Qsa hext d (i+1) _ _ _ (by omega) fun j hj=>by
       by_cases e:j=i
       ·subst e; rw [Z6,Z6]
       rw [Yw e,Yw e]; exact (hag j (by omega)).symm
     rw [<-e1] at k3
     obtain ⟨w3,j1,j2,j3⟩:=ih (x+1) w2 (by omega) k1 (fun j hj=>by rw [k2 j (by omega),Yw (by omega),hag j hj]) k (by omega) (by omega)
     refine ⟨w3,j1,j2,?_⟩
     unfold Qb
     rw [hyes _ i t w x _ w' _ w2 hin hw' hlt c k3]
     exact j3
    have c':K i x=false:=by simpa using c
    obtain ⟨w3,j1,j2,j3⟩:=ih (x+1) w' (by omega) hw' hag k (by omega) (by omega)
    refine ⟨w3,j1,j2,?_⟩
    unfold Qb
    rw [hno _ i t w x _ w' hin hw' hlt c']
    rw [Qk6,aI c] at j3
    exact j3
  obtain ⟨w2,k1,k2,k3⟩:=hloop 0 w (by omega) hw (fun _ _=>rfl) fuel (by unfold fuel; omega)
  refine ⟨w2,k1,k2,?_⟩
  show F (Qbh F N) _=_
  exact hnode _ i t w _ hin hw k3
end Go.Ab
namespace Go.Ab
open Go
theorem Qdm {D:NF} {τ:Type} {p:τ->Int} {K:Nat -> Nat -> Bool} {g:Nat -> τ->τ} {h:Nat -> Int} {i:Nat} (hh:∀x t,K i x=true->p (g x t)=p t+h x) :
  ∀(n:Nat) (t:τ),p ((List.range n).foldl (fun t x=>if K i x then g x t else t) t)=p t+Qj n fun x=>if K i x=true then h x else 0
 | 0,t=>by simp [Qj]
 | n+1,t=>by
  rw [List.range_succ,List.foldl_append]
  simp only [List.foldl_cons,List.foldl_nil,Qj]
  split
  ·rename_i c; rw [hh _ _ c,Qdm (D:=D) hh n t]; omega
  rw [Qdm (D:=D) hh n t]; omega
def KE (E:Nat -> Int):Nat -> Nat -> Bool:=fun i x=>decide (okE E i x)
theorem Qve {D:NF} {τ:Type} {E:Nat -> Int} {leaf:τ->(Nat -> Nat)->τ} {p:τ->Int} {f:(Nat -> Nat)->Int} (h:∀t w,p (leaf t w)=p t+f w) :
  ∀(d i:Nat) (w:Nat -> Nat) (t:τ),p (FWl D (KE E) leaf d i w t)=p t+TM D E f d i w
 | 0,i,w,t=>h t w
 | d+1,i,w,t=>by
  unfold FWl
  rw [Qdm (D:=D) (p:=p) (h:=fun x=>TM D E f d (i+1) (updF w i x)) (fun x t _=>Qve h d (i+1) _ t)]
  congr 1
  refine Q2 fun x _=>?_
  unfold KE
  by_cases c:okE E i x
  ·rw [aH (by simpa using c)]; exact (aH (show E i=-1\/E i=(x:Int) from c)).symm
  rw [aI (by simpa using c)]; exact (aI (show ¬ (E i=-1\/E i=(x:Int)) from c)).symm
theorem Qze {a b x:Int} {body:Int->Option (Qg Int (Unit ⊕ Unit))} (ha:-1<=a) (hb:-1<=b)
  (h0:body 0=if (decide (a>=0))=true then (if (a != x)=true then some (.done (Sum.inl ())) else some (.next 1)) else some (.next 1))
  (h1:body 1=if (decide (b>=0))=true then (if (b != x)=true then some (.done (Sum.inl ())) else some (.next 2)) else some (.next 2))
  (h2:body 2=some (.done (Sum.inr ()))):Qb fuel body 0=some (if (a=-1\/a=x)/\(b=-1\/b=x) then Sum.inr () else Sum.inl ()):=by
 have st:∀{y:Int} {o:Option (Qg Int (Unit ⊕ Unit))} {z:Int},-1<=y->o=(if (decide (y>=0))=true then (if (y != x)=true then some (.done (Sum.inl ())) else some (.next z)) else some (.next z)) ->
   ((y=-1\/y=x)->o=some (.next z))/\(¬ (y=-1\/y=x)->o=some (.done (Sum.inl ()))):=fun {y o z} hy h=>by
  constructor
  ·intro c
   rw [h]
   rcases c with c | c
   ·rw [aI (by simp; omega)]
   ·by_cases c2:0<=y
    ·rw [aH (by simpa using c2),aI (by simpa using c)]
    ·rw [aI (by simpa using c2)]
  ·intro c
   rw [h,aH (by simp; omega),aH (by simp; omega)]
 refine Qs2 (fun s=>s=0\/(s=1/\(a=-1\/a=x))\/(s=2/\(a=-1\/a=x)/\(b=-1\/b=x))) (fun s=>(3 - s).toNat) _ (fun s hs=>?_) 0 (.inl rfl) (by decide)
 rcases hs with rfl | ⟨rfl,c⟩ | ⟨rfl,c,c'⟩
 ·by_cases c:a=-1\/a=x
  ·exact .inl ⟨1,(st ha h0).1 c,.inr (.inl ⟨rfl,c⟩),by decide⟩
  ·exact .inr (by rw [(st ha h0).2 c,aI (fun h=>c h.1)])
 ·by_cases c':b=-1\/b=x
  ·exact .inl ⟨2,(st hb h1).1 c',.inr (.inr ⟨rfl,c,c'⟩),by decide⟩
  ·exact .inr (by rw [(st hb h1).2 c',aI (fun h=>c' h.2)])
 ·exact .inr (by rw [h2,aH ⟨c,c'⟩])
theorem Qmh {D:NF} {S E:Nat -> Int} (hS:Qmd D S) (hE:Qmd D E) {i x:Nat} (hi:i < D.n) (hx:x < 100) {s t:Int × Int × List Int} (hs:s.1=i) (ht:t.1=x) :
  Qb fuel (Qd0 (Qd D.n S) (Qd D.n E) s t) 0=some (if KE (Qdo S E) i x=true then Sum.inr () else Sum.inl ()):=by
 have hl:∀F:Nat -> Int,lkI (Qd D.n F) s.1=some (F i):=fun F=>by rw [hs]; exact Q5 hi
 rw [Qze (a:=S i) (b:=E i) (x:=t.1) (hS i hi).1 (hE i hi).1]
 ·congr 1
  rw [ht]
  by_cases c:okE (Qdo S E) i x
  ·rw [aH (show (S i=-1\/S i=(x:Int))/\(E i=-1\/E i=(x:Int)) from (Qi1 hx).1 c),aH (by unfold KE; simpa using c)]
  ·rw [aI (fun h:(S i=-1\/S i=(x:Int))/\(E i=-1\/E i=(x:Int))=>c ((Qi1 hx).2 h)),aI (by unfold KE; simpa using c)]
 all_goals (unfold Qd0; simp only [dK,List.length_nil])
 ·rw [aH (by simp),show lkI ([Qd D.n S,Qd D.n E]:List (List Int)) 0=some (Qd D.n S) from rfl,aC,hl,aC]; rfl
 ·rw [aH (by simp),show lkI ([Qd D.n S,Qd D.n E]:List (List Int)) 1=some (Qd D.n E) from rfl,aC,hl,aC]; rfl
 ·rfl
def Qe3 (D:NF) (S E:Nat -> Int):Int:=SW D (Qdo S E) (fS D (actS D.n S))
theorem Qzh {D:NF}:PC D D.n 0=Qi D.n D.card:=by have:=Qq3 (D:=D) D.n 0; simpa [Qi] using this
theorem Qec {n i x:Nat} {w:Nat -> Nat}:(Qe n w).set i (x:Int)=Qe n (updF w i x):=by
 unfold Qe; rw [Je]
 refine Qm fun j _=>?_
 unfold updF
 split <;> rfl
theorem Qne {n:Nat}:List.replicate (Int.toNat (n:Int)) (0:Int)=Qe n fun _=>0:=by rw [aR]; exact Qgw n 0
section
variable {D:NF} {S E:Nat -> Int}
theorem Qyy (V:VN D) {m:Nat} (hm:m < 18446744073709551616) (hS:Qmd D S) (hE:Qmd D E) :
  ∃w',Qbh (Kb D.net (m:Int) (Qd D.n S) (Qd D.n E)) fuel (0,0,Qe D.n fun _=>0)=some (SW D (Qdo S E) (fS D m),Qe D.n w'):=by
 have hw:=V.worlds
 have hn8:=V.n8
 obtain ⟨w',_,_,h⟩:=Qu0 V (K:=KE (Qdo S E)) (leaf:=fun (t:Int) w=>t+fS D m w) (fun t w w' h=>by show t+_=t+_; rw [Q0i V w w' h])
  (I:=fun m t=>BD m t) (fun _ _ _ h hp=>h.mono hp) (fun _ _ w h hw=>h.add (Qyp V w hw)) (fun i t l=>((i,t,l):Int × Int × List Int)) (fun t l=>((t,l):Int × List Int))
  (F:=Kb D.net (m:Int) (Qd D.n S) (Qd D.n E)) (B:=fun r i t w=>Kg (D.node i) (Qd D.n S) (Qd D.n E) ((i:Int),t,Qe D.n w) r)
  (fun r p t w hw hI hp=>by
   unfold Kb
   simp only
   rw [aH (by rw [Ql]; simp),V.aweigh hm hw,aC,w64 ((hI.add (Qyp V w hw)).fit hp)])
  (fun r i t w z hi hw hz=>by
   unfold Kb
   simp only
   rw [aI (by rw [Ql]; simp; omega),V.node hi,aC,hz,aC])
  (fun r i t0 w0 x t w z w' hi hw hx hk hr=>by
   have hc:=(V.card i hi).2
   unfold Kg
   simp only
   rw [aH (by simp [NF.node]; omega),Qmh hS hE hi (by omega) rfl rfl,aH hk,aC]
   simp only
   rw [Qy hi,aC,aR,Qec,Qgv (by omega),hr,aC,Qgv (by omega)])
  (fun r i t0 w0 x t w hi hw hx hk=>by
   have hc:=(V.card i hi).2
   unfold Kg
   simp only
   rw [aH (by simp [NF.node]; omega),Qmh hS hE hi (by omega) rfl rfl,aI (by simp [hk]),aC]
   simp only
   rw [Qgv (by omega)])
  (fun r i t0 w0 t w hi hw=>by
   unfold Kg
   simp only
   rw [aI (by simp [NF.node])])
  D.n fuel (by unfold fuel; omega) 0 0 (fun _=>0) 0 (by omega) (fun v hv=>(V.card v hv).1) BD.zero (by rw [Qzh]; omega)
 have hr:=Qve (D:=D) (E:=Qdo S E) (leaf:=fun (t:Int) w=>t+fS D m w) (p:=fun t=>t) (f:=fS D m) (fun _ _=>rfl) D.n 0 (fun _=>0) 0
 simp only [Int.zero_add] at hr
 rw [hr] at h
 exact ⟨w',h⟩
theorem Qsn {f:(Nat -> Nat)->Int} {K:Nat -> Int} (hf:∀w,0<=f w):∀(d i:Nat) (w:Nat -> Nat),0<=TM D K f d i w
 | 0,i,w=>hf w
 | d+1,i,w=>Vr fun x _=>by
  split
  ·exact Qsn hf d (i+1) _
  exact Int.le_refl _
theorem Qsy (V:VN D) {m:Nat} {K:Nat -> Int}:0<=SW D K (fS D m)/\(SW D K (fS D m)).natAbs<=MX:=by
 have h1:0<=SW D K (fS D m):=Qsn (fun w=>Q2h V) _ _ _
 have h2:=Q9r V (m:=1024) (E:=K) V.worlds (Qyp V (m:=m))
 unfold BD KK at h2
 refine ⟨h1,?_⟩
 unfold MX; omega
theorem Q1k (V:VN D) {m:Nat}:((D.wh m D.n:Nat):Int)≠0/\((D.wh m D.n:Nat):Int).natAbs<=MX:=by
 have h1:=V.wh_pos (m:=m) (bA _)
 have h2:=V.wh_le (m:=m) (bA _)
 constructor
 ·omega
 unfold MX; omega
theorem Q7g (X:VX D) (ls:List (Nat -> Int)) (hl:ls.length<=2) (h:∀S∈ls,Qmd D S):X4 D.net (ls.map (Qd D.n))=some 0:=by
 obtain ⟨order,hr⟩:=Qns X
 have hr2:=Zc (n:=ls.length) (k0:=0) (by omega) (by omega) (fun i (_:Unit)=>i) (body:=Qbt (ls.map (Qd D.n)) D.net) (fun _=>()) (.inr ())
  (fun k _ hk=>by
   unfold Qbt
   rw [aH (by rw [bZ]; exact dlt hk),Zd (by rw [bZ]; exact hk),aC]
   have hc:Yf D.net (Qd D.n ls[k])=some 0:=by
    rcases Q5q X (Qd D.n ls[k]) with ⟨_,c⟩ | ⟨c,_⟩
    ·exact c
    refine absurd ⟨Q1,fun j hj=>?_⟩ c
    unfold evJ
    have e:((Qd D.n ls[k])[j]?).getD 0=ls[k] j:=by unfold Qd; rw [bF,List.getElem?_range hj]; rfl
    rw [e]; exact h _ (bL hk) j hj
   rw [List.getElem_map,hc,aC,aI (by decide)])
  (by unfold Qbt; rw [aI (by rw [bZ]; exact nlt _)])
 unfold X4 Qcb
 rw [hr]
 simp only [aC]
 rw [aI (by simp),show ((0:Int))=((0:Nat):Int) from rfl,hr2]; rfl
theorem Qsh (X:VX D) (hS:Qmd D S) (hE:Qmd D E):Jv D.net (Qd D.n S) (Qd D.n E)=some (qI (Qe3 D S E) (D.wh (actS D.n S) D.n:Int),0):=by
 have V:=X.vn
 have hn8:=V.n8
 have hm:=Qx4 (S:=S) hn8
 obtain ⟨w',hr⟩:=Qyy V hm hS hE
 have hlen:D.net.Nodes.length=D.n:=Q1
 have hc:=Q7g X [S,E] (by simp) (by simp [hS,hE])
 obtain ⟨h1,h2⟩:=Qsy V (m:=actS D.n S) (K:=Qdo S E)
 obtain ⟨h3,h4⟩:=Q1k V (m:=actS D.n S)
 unfold Jv
 rw [show ([Qd D.n S,Qd D.n E]:List (List Int))=[S,E].map (Qd D.n) from rfl,hc,aC,aI (by decide),Q2o hn8,aC,hlen,aH (by omega),Qne,hr]
 simp only [aC]
 rw [V.awhole hm,aC,Q6a h2 h4 h3,aC]
 rfl
end
end Go.Ab
namespace Go.Ab
open Go
open Classical
section
variable {D:NF} {S E:Nat -> Int}
theorem Q1h (V:VN D) {f:(Nat -> Nat)->Int} (hf:Ext D f) {K:Nat -> Int}:SW D K f=Qj (Qi D.n D.card) (fun W=>if Vi D.n K 0 (dig D W) then f (dig D W) else 0):=by
 have hmix:∀W,mix D 0 (fun _=>0) W=dig D W:=fun W=>by funext j; simp [mix]
 unfold SW
 rw [<-Qpa V hf D.n 0 (fun _=>0) (by omega),Qzh]
 exact Q2 fun W _=>by rw [hmix]
theorem Qy8 {w:Nat -> Nat} (hw:∀j,j < D.n->w j < 100):Vi D.n (Qdo S E) 0 w↔Vi D.n S 0 w/\Vi D.n E 0 w:=by
 constructor
 ·intro h
  exact ⟨fun j h1 h2=>((Qi1 (hw j h2)).1 (h j h1 h2)).1,fun j h1 h2=>((Qi1 (hw j h2)).1 (h j h1 h2)).2⟩
 rintro ⟨h1,h2⟩ j h3 h4
 exact (Qi1 (hw j h4)).2 ⟨h1 j h3 h4,h2 j h3 h4⟩
end
end Go.Ab
namespace Go.Ab
open Go
open Classical
theorem Q4w {n:Int} (h:(Lit.int .u8 n).wf=true):0<=n/\n<=255:=by
 simpa [Lit.wf,IntKind.min,IntKind.max,IntKind.bits,IntKind.signed] using h
section
variable {D:NF} {S E:Nat -> Int}
theorem Qut {m:Qc} (h:Xn m=some Quy) (ls:List (List Int)):X4 m ls=some 50:=by
 unfold X4 Qcb
 rw [h]; rfl
end
end Go.Ab
namespace Go.Ab
open Go
theorem Qju (n:Nat) (p:Nat -> Bool):msk n p < 2^n:=by
 induction n with
 | zero=>simp [msk]
 | succ n ih =>
  unfold msk
  refine eF (bO ih (aV (by omega) (by omega))) ?_
  split
  ·exact eQ (by omega) (by omega)
  exact Nat.two_pow_pos _
theorem Qdy {n:Nat} {p:Nat -> Bool} {a:Nat} (ha:a < 2^n) (h:∀i,i < n->a.testBit i=p i):a=msk n p:=by
 apply dX
 intro i
 rw [Q3]
 by_cases hi:i < n
 ·simp [hi,h i hi]
 rw [Nat.testBit_lt_two_pow (bO ha (aV (by omega) (by omega)))]; simp [hi]
theorem Ye {n:Nat} {p q:Nat -> Bool} (h:∀i,i < n->p i=q i):msk n p=msk n q :=
 Qdy (Qju n p) fun i hi=>by rw [Q3,h i hi]; simp [hi]
theorem Q01 {n a:Nat} (hn:n<=10) (ha:a < 2^n):a < 1024:=bO ha (aV (n:=2) (by omega) hn)
theorem lt64 {n a:Nat} (hn:n<=10) (ha:a < 2^n):a < 18446744073709551616:=by have:=Q01 hn ha; omega
theorem Q1i {a j:Nat} (h:a < 18446744073709551616):(zb (a:Int)).getLsbD j=a.testBit j:=by unfold BitVec.getLsbD; rw [Y9 h]
theorem Qrh {v:Nat} (hv:v < 64):zv (1*2^min (Int.toNat (v:Int)) zk)=((2^v:Nat):Int):=by
 have hb:zk=64:=rfl
 have e0:min (Int.toNat (v:Int)) zk=v:=by rw [hb,aR]; omega
 have hp:2^v < 18446744073709551616:=eQ (n:=64) (by omega) hv
 rw [e0,show (1:Int)*2^v=((2^v:Nat):Int) by simp,Zf hp]
theorem Qpy {v:Nat} (hv:v < 64):2^v < 18446744073709551616:=eQ (n:=64) (by omega) hv
theorem Qi7 {n:Nat} {p q:Nat -> Bool} {a b:Nat} (hn:n<=64) (ha:a < 2^n) (hb:b < 18446744073709551616) (hp:∀i,i < n->a.testBit i=p i) (hq:∀i,i < n->b.testBit i=q i) :
  zv (zb (a:Int) &&& ~~~ zb (b:Int)).toNat = ((msk n fun i=>p i && !q i:Nat):Int):=by
 have ha':a < 18446744073709551616:=bO ha (aV (n:=2) (by omega) hn)
 have h1:(zb (a:Int) &&& ~~~ zb (b:Int)).toNat < 18446744073709551616:=BitVec.isLt _
 rw [Zf h1]
 congr 1
 refine Qdy ?_ fun i hi=>?_
 ·refine bX ?_ ha
  rw [BitVec.toNat_and,Y9 ha']
  exact Nat.and_le_left
 ·have:i < 64:=by omega
  have e:(zb (a:Int) &&& ~~~ zb (b:Int)).toNat.testBit i=(zb (a:Int) &&& ~~~ zb (b:Int)).getLsbD i:=rfl
  rw [e,BitVec.getLsbD_and,BitVec.getLsbD_not,Q1i ha',Q1i hb,hp i hi,hq i hi]
  have h64:i < zk:=this
  simp [h64]
theorem Q94 {n:Nat} {p q:Nat -> Bool} {a b:Nat} (hn:n<=64) (ha:a < 2^n) (hb:b < 2^n) (hp:∀i,i < n->a.testBit i=p i) (hq:∀i,i < n->b.testBit i=q i) :
  zv (zb (a:Int) ||| zb (b:Int)).toNat = ((msk n fun i=>p i || q i:Nat):Int):=by
 have h64:2^n<=2^64:=aV (n:=2) (by omega) hn
 have ha':a < 18446744073709551616:=bO ha h64
 have hb':b < 18446744073709551616:=bO hb h64
 rw [BitVec.toNat_or,Y9 ha',Y9 hb',Zf (eF (n:=64) ha' hb')]
 congr 1
 exact Qdy (eF ha hb) fun i hi=>by rw [bH,hp i hi,hq i hi]
theorem Q89 {n:Nat} {p q:Nat -> Bool} {a b:Nat} (hn:n<=64) (ha:a < 2^n) (hb:b < 18446744073709551616) (hp:∀i,i < n->a.testBit i=p i) (hq:∀i,i < n->b.testBit i=q i) :
  zv (zb (a:Int) &&& zb (b:Int)).toNat = ((msk n fun i=>p i && q i:Nat):Int):=by
 have h64:2^n<=2^64:=aV (n:=2) (by omega) hn
 have ha':a < 18446744073709551616:=bO ha h64
 have hl:a &&& b<=a:=Nat.and_le_left
 rw [BitVec.toNat_and,Y9 ha',Y9 hb,Zf (by omega)]
 congr 1
 exact Qdy (by omega) fun i hi=>by rw [Nat.testBit_and,hp i hi,hq i hi]
theorem V5 (v i:Nat):(2^v).testBit i=decide (v=i):=dE
theorem Q3z {n:Nat} {p:Nat -> Bool}:∀i,i < n->(msk n p).testBit i=p i:=fun i hi=>by rw [Q3]; simp [hi]
theorem Q9h {n v:Nat} {p:Nat -> Bool} (hn:n<=10) (hv:v < 64):zv (zb ((msk n p:Nat):Int) &&& ~~~ zb (zv (1*2^min (Int.toNat (v:Int)) zk))).toNat = ((msk n fun i=>p i && !decide (v=i):Nat):Int):=by
 rw [Qrh hv]
 exact Qi7 (by omega) (Qju n p) (Qpy hv) Q3z fun i _=>V5 v i
theorem Q4t {n v:Nat} {p:Nat -> Bool} (hn:n<=10) (hv:v < n):zv (zb ((msk n p:Nat):Int) ||| zb (zv (1*2^min (Int.toNat (v:Int)) zk))).toNat = ((msk n fun i=>p i || decide (v=i):Nat):Int):=by
 rw [Qrh (by omega)]
 exact Q94 (by omega) (Qju n p) (eQ (by omega) hv) Q3z fun i _=>V5 v i
def tzN:Nat -> (Nat -> Bool)->Nat
 | 0,_=>0
 | n+1,p=>if p 0 then 0 else tzN n (fun i=>p (i+1))+1
def isS (x:Option Int) (y:Int):Bool:=match x with | some z=>z==y | none=>false
theorem Q6q {x:Option Int} {y:Int} (h:isS x y=true):x=some y:=by
 cases x with
 | none=>cases h
 | some z=>simp only [isS,dG] at h; rw [h]
theorem Q0r {p:Nat -> Bool} {n:Nat} (h:(List.range n).all p=true) {k:Nat} (hk:k < n):p k=true:=bQ.1 h k (cS.2 hk)
theorem Q9w:((List.range 1024).all fun R=>Nat.beq R 0 || (isS (Qv (R:Int)) (tzN 10 R.testBit:Int)))=true:=by kernel_rfl
theorem Q8x:((List.range 1024).all fun R=>Nat.beq R 0 || (zv (zb (R:Int) &&& zb (zv ((R:Int) - 1))).toNat == ((msk 10 fun i=>R.testBit i && !Nat.beq (tzN 10 R.testBit) i:Nat):Int)))=true:=by kernel_rfl
theorem Qv4 {n:Nat} {p:Nat -> Bool} (h:∀i,i < n->p i=false):cnt n p=0:=by
 induction n with
 | zero=>rfl
 | succ n ih=>simp only [cnt]; rw [ih fun i hi=>h i (by omega),h n (by omega)]; rfl
theorem Qos:∀(n:Nat) (p:Nat -> Bool),(∃i,i < n/\p i=true)->tzN n p < n/\p (tzN n p)=true/\∀i,i < tzN n p->p i=false
 | 0,p,⟨i,hi,_⟩=>by omega
 | n+1,p,⟨i,hi,h⟩=>by
  unfold tzN
  by_cases h0:p 0=true
  ·rw [aH h0]; exact ⟨by omega,h0,fun i hi=>by omega⟩
  rw [aI h0]
  have hi0:i≠0:=fun e=>h0 (e ▸ h)
  obtain ⟨a,b,c⟩:=Qos n (fun i=>p (i+1)) ⟨i - 1,by omega,by rw [show i - 1+1=i by omega]; exact h⟩
  refine ⟨by omega,b,fun j hj=>?_⟩
  cases j with
  | zero=>simpa using h0
  | succ j=>exact c j (by omega)
theorem Q7x {n v:Nat} {p:Nat -> Bool} (hv:v < n) (h:p v=true) (hl:∀i,i < v->p i=false):tzN n p=v:=by
 obtain ⟨a,b,c⟩:=Qos n p ⟨v,hv,h⟩
 rcases Nat.lt_trichotomy (tzN n p) v with e | e | e
 ·rw [hl _ e] at b; cases b
 ·exact e
 rw [c v e] at h; cases h
theorem Q2z {n v:Nat} {p:Nat -> Bool} (hn:n<=10) (hv:v < n) (h:p v=true) (hl:∀i,i < v->p i=false) :
  (((msk n p:Nat):Int) != 0)=true/\Qv ((msk n p:Nat):Int)=some (v:Int) /\
  zv (zb ((msk n p:Nat):Int) &&& zb (zv (((msk n p:Nat):Int) - 1))).toNat = ((msk n fun i=>p i && !decide (v=i):Nat):Int):=by
 have hlt:=Qju n p
 have hR:=Q01 hn hlt
 have hb:(msk n p).testBit v=true:=by rw [Q3]; simp [hv,h]
 have h0:msk n p≠0:=fun e=>by rw [e] at hb; simp at hb
 have e0:Nat.beq (msk n p) 0=false:=by
  cases e:msk n p with
  | zero=>exact absurd e h0
  | succ k=>rfl
 have etz:tzN 10 (msk n p).testBit=v:=Q7x (by omega) hb fun i hi=>by rw [Q3,hl i hi]; simp
 have h1:=Q0r Q9w hR
 have h2:=Q0r Q8x hR
 simp only [e0,Bool.false_or,etz] at h1 h2
 refine ⟨by simp; omega,Q6q h1,?_⟩
 have h3:zv (zb ((msk n p:Nat):Int) &&& zb (zv (((msk n p:Nat):Int) - 1))).toNat = ((msk 10 fun i=>(msk n p).testBit i && !Nat.beq v i:Nat):Int):=by simpa using h2
 rw [h3]
 congr 1
 apply dX
 intro j
 rw [Q3,Q3,Q3]
 have e:Nat.beq v j=decide (v=j):=by
  by_cases e:v=j
  ·subst e; simp
  rw [decide_eq_false e,bK]; exact fun h=>e (aJ h)
 rw [e]
 by_cases hj:j < n
 ·simp [hj,show j < 10 by omega]
 ·simp [hj]
end Go.Ab
namespace Go.Ab
open Go
def Qo0 (a p:Nat):Bool:=(a ||| p)==p
theorem Qj2 {a p:Nat}:Qo0 a p=true↔Zh a p:=by
 unfold Qo0
 rw [dG]
 constructor
 ·intro h j hj
  have:(a ||| p).testBit j=p.testBit j:=by rw [h]
  rw [bH,hj] at this; simpa using this.symm
 intro h
 exact sub_anti (or_sub h .refl) Qv0
theorem Q8v {a p:Nat} (ha:a < 18446744073709551616) (hp:p < 18446744073709551616) :
  ((zv (zb (a:Int) &&& ~~~ zb (p:Int)).toNat)==0)=Qo0 a p:=by
 rw [Qi7 (n:=64) (p:=a.testBit) (q:=p.testBit) (by omega) ha hp (fun _ _=>rfl) (fun _ _=>rfl)]
 rw [aP,dG,Qj2]
 constructor
 ·intro h j hj
  have h0:(msk 64 fun i=>a.testBit i && !p.testBit i)=0:=by exact_mod_cast h
  have hj64:j < 64:=by
   apply Classical.byContradiction
   intro hn
   rw [Nat.testBit_lt_two_pow (bO (show a < 2^64 from ha) (aV (by omega) (by omega)))] at hj; cases hj
  have:=Q3 64 (fun i=>a.testBit i && !p.testBit i) j
  rw [h0] at this
  simp [hj64,hj] at this
  exact this
 ·intro h
  have:(msk 64 fun i=>a.testBit i && !p.testBit i)=msk 64 (fun _=>false):=Ye fun i _=>by
   cases e:a.testBit i with
   | false=>rfl
   | true=>rw [h i e]; rfl
  rw [this]
  rfl
def plV (S:Nat -> Nat) (p v:Nat):Nat := if Qo0 (S v) p=true then p ||| 2^v else p
def plR (n:Nat) (S:Nat -> Nat) (p:Nat):Nat := (List.range n).foldl (plV S) p
def pls (n:Nat) (S:Nat -> Nat):Nat -> Nat
 | 0=>0
 | k+1=>plR n S (pls n S k)
theorem Q1n {S:Nat -> Nat} {p v:Nat}:Zh p (plV S p v):=by
 unfold plV; split
 ·exact Qg7
 exact .refl
theorem Qul {S:Nat -> Nat}:∀(l:List Nat) (p:Nat),Zh p (l.foldl (plV S) p)
 | [],_=>.refl
 | v::l,p=>Q1n.trans (Qul l _)
theorem Qxj {S:Nat -> Nat} {v:Nat}:∀(l:List Nat) (p:Nat),v∈l->Zh (S v) p->(l.foldl (plV S) p).testBit v=true
 | [],_,h,_=>by cases h
 | u::l,p,h,hs=>by
  simp only [List.foldl_cons]
  by_cases e:v=u
  ·subst e
   refine Qul l _ v ?_
   unfold plV; rw [aH (Qj2.2 hs),bH,V5]; simp
  exact Qxj l _ (by simpa [e] using h) (hs.trans Q1n)
def Rk (n:Nat) (S:Nat -> Nat) (p:Nat):Prop:=(∀j,p.testBit j=true->j < n)/\∃(r:Nat -> Nat) (M:Nat),(∀x,r x<=M)/\∀v,p.testBit v=true->∀j,(S v).testBit j=true->p.testBit j=true/\r j < r v
theorem Q6b {n:Nat} {S:Nat -> Nat} {p v:Nat} (hv:v < n) (h:Rk n S p):Rk n S (plV S p v):=by
 unfold plV
 split
 rotate_left
 ·exact h
 rename_i hs
 have hs:=Qj2.1 hs
 obtain ⟨h1,r,M,h2,h3⟩:=h
 by_cases hp:p.testBit v=true
 ·have e:p ||| 2^v=p:=sub_anti (or_sub .refl fun j hj=>by rw [V5] at hj; have:=aQ hj; subst this; exact hp) Qg7
  rw [e]; exact ⟨h1,r,M,h2,h3⟩
 refine ⟨fun j hj=>?_,fun x=>if x=v then M+1 else r x,M+1,fun x=>?_,fun w hw j hj=>?_⟩
 ·rw [bH,V5,aM] at hj
  rcases hj with hj | hj
  ·exact h1 j hj
  have:=aQ hj; omega
 ·show (if x=v then M+1 else r x)<=M+1
  split
  ·omega
  have:=h2 x; omega
 rw [bH,V5,aM] at hw
 by_cases e:w=v
 ·subst e
  have hjp:=hs j hj
  have:¬ j=w:=fun e=>hp (e ▸ hjp)
  refine ⟨Qg7 j hjp,?_⟩
  show (if j=w then M+1 else r j) < (if w=w then M+1 else r w)
  rw [aI this,aH rfl]; have:=h2 j; omega
 have hw:p.testBit w=true:=hw.resolve_right fun h=>e (aQ h).symm
 obtain ⟨h4,h5⟩:=h3 w hw j hj
 have:¬ j=v:=fun e=>hp (e ▸ h4)
 refine ⟨Qg7 j h4,?_⟩
 show (if j=v then M+1 else r j) < (if w=v then M+1 else r w)
 rw [aI this,aI e]; exact h5
theorem Qxp {n:Nat} {S:Nat -> Nat}:∀(l:List Nat) (p:Nat),(∀v∈l,v < n)->Rk n S p->Rk n S (l.foldl (plV S) p)
 | [],_,_,h=>h
 | v::l,p,hl,h=>Qxp l _ (fun u hu=>hl u (cN _ hu)) (Q6b (hl v (by simp)) h)
theorem Qu1 {n:Nat} {S:Nat -> Nat}:∀k,Rk n S (pls n S k)
 | 0=>⟨fun j hj=>by simp [pls] at hj,fun _=>0,0,fun _=>bA _,fun v hv=>by simp [pls] at hv⟩
 | k+1=>Qxp _ _ (fun v hv=>cS.1 hv) (Qu1 k)
structure Gd (n:Nat) (S:Nat -> Nat):Prop where
 inn:∀v,v < n->∀j,(S v).testBit j=true->j < n
 acyc:∀v,v < n->¬ (ups n S n (S v)).testBit v=true
theorem Qod {n p:Nat} (h:∀j,p.testBit j=true->j < n):p=2^n - 1↔∀j,j < n->p.testBit j=true:=by
 constructor
 ·intro e j hj; rw [e,bD]; simpa using hj
 intro k
 apply dX
 intro j
 rw [bD]
 by_cases hj:j < n
 ·rw [k j hj]; simp [hj]
 have:p.testBit j=false:=by rw [bK]; exact fun e=>hj (h j e)
 rw [this]; simp [hj]
theorem Q76 {n:Nat} {S:Nat -> Nat}:pls n S n=2^n - 1↔Gd n S:=by
 have hrk:=Qu1 (n:=n) (S:=S)
 constructor
 ·intro h
  obtain ⟨h1,r,M,h2,h3⟩:=hrk n
  have hall:=(Qod h1).1 h
  refine ⟨fun v hv j hj=>h1 j (h3 v (hall v hv) j hj).1,fun v hv hb=>?_⟩
  have hT:Clo n S (msk n fun j=>decide (r j < r v)):=fun w hw hb j hj=>by
   rw [Q3] at hb ⊢
   simp only [aE,aN] at hb ⊢
   have:=h3 w (hall w hw) j hj
   exact ⟨h1 j this.1,by omega⟩
  have hs:Zh (S v) (msk n fun j=>decide (r j < r v)):=fun j hj=>by
   rw [Q3]
   simp only [aE,aN]
   have:=h3 v (hall v hv) j hj
   exact ⟨h1 j this.1,this.2⟩
  have:=Ya hT hs n v hb
  rw [Q3] at this
  simp at this
 intro h
 have key:∀k,plR n S (pls n S k)=pls n S k\/k<=cnt n (pls n S k).testBit:=by
  intro k
  induction k with
  | zero=>right; exact eJ _
  | succ k ih =>
   by_cases hf:plR n S (pls n S k)=pls n S k
   ·left; simp only [pls]; rw [hf,hf]
   right
   rcases ih with h | h
   ·exact absurd h hf
   have:=Qmv (n:=n) (Qul (S:=S) (List.range n) (pls n S k)) (hrk (k+1)).1 (fun e=>hf e.symm)
   show k+1<=cnt n (plR n S (pls n S k)).testBit
   unfold plR; omega
 refine (Qod (hrk n).1).2 ?_
 rcases key n with hst | hc
 ·generalize pls n S n=P at *
  have main:∀c v,v < n->¬ P.testBit v=true->cnt n (ups n S n (S v)).testBit=c->False:=by
   intro c
   induction c using Nat.strongRecOn with
   | _ c ih =>
    intro v hv hp hc
    have hns:¬ Zh (S v) P:=fun hs=>hp (by
     have:=Qxj (List.range n) P (cS.2 hv) hs
     unfold plR at hst
     rwa [hst] at this)
    obtain ⟨j,hj,hjp⟩:∃j,(S v).testBit j=true/\¬ P.testBit j=true:=by
     apply Classical.byContradiction
     intro hno
     exact hns fun j hj=>Classical.byContradiction fun hp=>hno ⟨j,hj,hp⟩
    have hjn:=h.inn v hv j hj
    have hclo:=J3 h.inn (s:=S v) (h.inn v hv)
    have hin:(ups n S n (S v)).testBit j=true:=Xq n j hj
    have hsub:Zh (ups n S n (S j)) (ups n S n (S v)):=Ya hclo (hclo j hjn hin) n
    have hb:∀i,(ups n S n (S v)).testBit i=true->i < n:=fun i hi=>by
     have:=Ya (Qc2 n h.inn) (s:=S v) (fun i hi=>by rw [bD]; simpa using h.inn v hv i hi) n i hi
     rw [bD] at this; simpa using this
    have:=Qmv (n:=n) hsub hb fun e=>h.acyc j hjn (by rw [e]; exact hin)
    exact ih _ (by omega) j hjn hjp rfl
  exact fun j hj=>Classical.byContradiction fun hp=>main _ j hj hp rfl
 intro j hj
 apply Classical.byContradiction
 intro hp
 have h1:cnt n (pls n S n).testBit < n:=by
  have e:=Qi3 (n:=n) (p:=fun _=>true) hj rfl
  have:cnt n (pls n S n).testBit<=cnt n (fun i=>true && !decide (j=i)):=Qkn fun i _ hi=>by
   have:j≠i:=fun e=>hp (e ▸ hi)
   simp [this]
  have:=Qqx n (fun _=>true)
  omega
 omega
def L64 (n:Nat) (S:Nat -> Nat):Prop:=∀v,v < n->S v < 18446744073709551616
theorem Qc8 {a n:Nat} (hn:n<=64):((Int.fdiv (a:Int) (2^min (Int.toNat (n:Int)) zk)) != 0)=!decide (a < 2^n):=by
 have hb:zk=64:=rfl
 have e0:min (Int.toNat (n:Int)) zk=n:=by rw [hb,aR]; omega
 rw [e0,Qvn,aP]
 simp only [dF,ne_eq,bI,decide_eq_false_iff_not]
 have:a / 2^n=0↔a < 2^n:=Nat.div_eq_zero_iff_lt (Nat.two_pow_pos n)
 rw [<-this]
 exact not_congr ⟨fun h=>by exact_mod_cast h,fun h=>by rw [h]; rfl⟩
theorem Q73 {n:Nat} {S:Nat -> Nat} (hn:n<=8) (h:Gd n S):L64 n S:=fun v hv=>by
 have:=lt_pow (h.inn v hv)
 have:(2:Nat)^n<=256:=aV (n:=2) (by omega) hn
 omega
theorem Q6k {n:Nat} {S:Nat -> Nat} (h:Gd n S):∃r:Nat -> Nat,∀v,v < n->∀j,(S v).testBit j=true->r j < r v:=by
 have e:=Q76.2 h
 obtain ⟨h1,r,M,h2,h3⟩:=Qu1 (n:=n) (S:=S) n
 have hall:=(Qod h1).1 e
 exact ⟨r,fun v hv j hj=>(h3 v (hall v hv) j hj).2⟩
theorem Q5k {a n:Nat}:a < 2^n↔∀j,a.testBit j=true->j < n:=by
 constructor
 ·intro h j hj
  apply Classical.byContradiction
  intro hn
  rw [Nat.testBit_lt_two_pow (bO h (aV (by omega) (by omega)))] at hj; cases hj
 exact lt_pow
end Go.Ab
namespace Go.Ab
open Go
inductive Rch (S:Nat -> Nat) (z anz x:Nat):Nat -> Bool->Prop
 | start {v:Nat}:x.testBit v=true->Rch S z anz x v false
 | up {v p:Nat}:Rch S z anz x v false->z.testBit v=false->(S v).testBit p=true->Rch S z anz x p false
 | dn {v c:Nat} {d:Bool}:Rch S z anz x v d->z.testBit v=false->(S c).testBit v=true->Rch S z anz x c true
 | turn {v p:Nat}:Rch S z anz x v true->anz.testBit v=true->(S v).testBit p=true->Rch S z anz x p false
inductive Tow (S:Nat -> Nat) (z anz y:Nat):Nat -> Bool->Prop
 | here {v:Nat} (d:Bool):y.testBit v=true->Tow S z anz y v d
 | up {v p:Nat}:Tow S z anz y p false->z.testBit v=false->(S v).testBit p=true->Tow S z anz y v false
 | dn {v c:Nat} {d:Bool}:Tow S z anz y c true->z.testBit v=false->(S c).testBit v=true->Tow S z anz y v d
 | turn {v p:Nat}:Tow S z anz y p false->anz.testBit v=true->(S v).testBit p=true->Tow S z anz y v true
theorem Qr2 (n:Nat) (P:Nat -> Prop):∃T:Nat,(∀v,T.testBit v=true↔v < n/\P v):=by
 classical
 refine ⟨msk n fun v=>decide (P v),fun v=>?_⟩
 rw [Q3]
 simp
theorem Qmq {n:Nat} {S:Nat -> Nat} (hS:∀v,v < n->∀j,(S v).testBit j=true->j < n) {s:Nat} (hs:∀j,s.testBit j=true->j < n) {j:Nat} (hj:(ups n S n s).testBit j=true):j < n:=by
 have:=Ya (Qc2 n hS) (s:=s) (fun i hi=>by rw [bD]; simpa using hs i hi) n j hj
 rw [bD] at this; simpa using this
theorem Qhw {n:Nat} {S:Nat -> Nat} (hS:Gd n S) {s:Nat} (hs:∀j,s.testBit j=true->j < n) (P:Nat -> Prop) (h0:∀j,s.testBit j=true->P j) (h1:∀v p,v < n->P v->(S v).testBit p=true->P p) {v:Nat} (hv:(ups n S n s).testBit v=true):P v:=by
 obtain ⟨T,hT⟩:=Qr2 n P
 have hc:Clo n S T:=fun u hu hb j hj=>(hT j).2 ⟨hS.inn u hu j hj,h1 u j hu ((hT u).1 hb).2 hj⟩
 exact ((hT v).1 (Ya hc (fun j hj=>(hT j).2 ⟨hs j hj,h0 j hj⟩) n v hv)).2
def jo (n:Nat) (S:Nat -> Nat) (an z a:Nat):Nat := if z.testBit a=true then 0 else msk n fun b=>an.testBit b && (List.range n).any fun k=>an.testBit k && ((S k).testBit a || decide (k=a)) && ((S k).testBit b || decide (k=b))
theorem Qvk {n:Nat} {S:Nat -> Nat} {an z a b:Nat} (hb:b < n):(jo n S an z a).testBit b=true↔z.testBit a=false/\an.testBit b=true/\∃k,k < n/\an.testBit k=true/\((S k).testBit a=true\/k=a)/\((S k).testBit b=true\/k=b):=by
 unfold jo
 by_cases c:z.testBit a=true
 ·rw [aH c]; simp [c]
 rw [aI c,Q3]
 simp only [cP] at c
 simp only [hb,c,true_and,decide_true,eE,aE,bI,bR,aM,aN,cS]
 constructor
 ·rintro ⟨h1,k,h3,⟨h4,h5⟩,h6⟩; exact ⟨h1,k,h3,h4,h5,h6⟩
 rintro ⟨h1,k,h3,h4,h5,h6⟩; exact ⟨h1,k,h3,⟨h4,h5⟩,h6⟩
section
variable {n:Nat} {S:Nat -> Nat} (hS:Gd n S) {z x y:Nat} (hz:∀j,z.testBit j=true->j < n) (hx:∀j,x.testBit j=true->j < n) (hy:∀j,y.testBit j=true->j < n) (hxz:∀j,x.testBit j=true->z.testBit j=false) (hyz:∀j,y.testBit j=true->z.testBit j=false)
def anS (n:Nat) (S:Nat -> Nat) (x y z:Nat):Nat := ups n S n (x ||| y ||| z)
def anZ (n:Nat) (S:Nat -> Nat) (z:Nat):Nat := ups n S n z
def V7 (n:Nat) (S:Nat -> Nat) (x y z:Nat):Nat := ups n (jo n S (anS n S x y z) z) n x
include hS hz hx hy hxz hyz
theorem Qtw {j:Nat} (h:(x ||| y ||| z).testBit j=true):j < n:=by
 rw [bH,bH,aM,aM] at h
 rcases h with (h | h) | h
 ·exact hx j h
 ·exact hy j h
 exact hz j h
theorem Qcf:Clo n S (anS n S x y z):=J3 hS.inn (fun j hj=>Qtw hS hz hx hy hxz hyz hj)
theorem Qjm:Clo n S (anZ n S z):=J3 hS.inn hz
theorem Qgc {j:Nat} (h:(anS n S x y z).testBit j=true):j < n:=Qmq hS.inn (fun j hj=>Qtw hS hz hx hy hxz hyz hj) h
theorem Q7u {j:Nat} (h:(anZ n S z).testBit j=true):j < n:=Qmq hS.inn hz h
theorem Quf {j:Nat} (h:(anZ n S z).testBit j=true):(anS n S x y z).testBit j=true :=
 Ya (Qcf hS hz hx hy hxz hyz) (fun i hi=>Xq n i (by rw [bH,hi]; simp)) n j h
theorem Q97 {j:Nat} (h:x.testBit j=true):(anS n S x y z).testBit j=true:=Xq n j (by rw [bH,bH,h]; simp)
theorem Q95 {j:Nat} (h:y.testBit j=true):(anS n S x y z).testBit j=true:=Xq n j (by rw [bH,bH,h]; simp)
theorem Q3o {v:Nat} (h:(anS n S x y z).testBit v=true):(anZ n S z).testBit v=true\/(ups n S n y).testBit v=true\/(ups n S n x).testBit v=true:=by
 refine Qhw hS (fun j hj=>Qtw hS hz hx hy hxz hyz hj) (fun v=>(anZ n S z).testBit v=true\/(ups n S n y).testBit v=true\/(ups n S n x).testBit v=true) (fun j hj=>?_) (fun v p hv hP hp=>?_) h
 ·rw [bH,bH,aM,aM] at hj
  rcases hj with (hj | hj) | hj
  ·exact .inr (.inr (Xq n j hj))
  ·exact .inr (.inl (Xq n j hj))
  exact .inl (Xq n j hj)
 rcases hP with h | h | h
 ·exact .inl (Qjm hS hz hx hy hxz hyz v hv h p hp)
 ·exact .inr (.inl (J3 hS.inn hy v hv h p hp))
 exact .inr (.inr (J3 hS.inn hx v hv h p hp))
theorem Qyv {v:Nat} (h:(anZ n S z).testBit v=false):z.testBit v=false:=by
 rw [bK] at h ⊢
 exact fun e=>h (Xq n v e)
theorem Q56 {v:Nat} (h:(ups n S n x).testBit v=true):(anZ n S z).testBit v=true\/Rch S z (anZ n S z) x v false:=by
 refine Qhw hS (s:=x) hx (fun v=>(anZ n S z).testBit v=true\/Rch S z (anZ n S z) x v false) (fun j hj=>.inr (.start hj)) (fun v p hv hP hp=>?_) h
 rcases hP with h | h
 ·exact .inl (Qjm hS hz hx hy hxz hyz v hv h p hp)
 cases hz2:(anZ n S z).testBit v with
 | true=>exact .inl (Qjm hS hz hx hy hxz hyz v hv hz2 p hp)
 | false=>exact .inr (.up h (Qyv hS hz hx hy hxz hyz hz2) hp)
theorem Q5j {v:Nat} (h:(ups n S n y).testBit v=true):(anZ n S z).testBit v=true\/∀d,Rch S z (anZ n S z) x v d->∃u d,y.testBit u=true/\Rch S z (anZ n S z) x u d:=by
 refine Qhw hS (s:=y) hy (fun v=>(anZ n S z).testBit v=true\/∀d,Rch S z (anZ n S z) x v d->∃u d,y.testBit u=true/\Rch S z (anZ n S z) x u d) (fun j hj=>.inr fun d hd=>⟨j,d,hj,hd⟩) (fun v p hv hP hp=>?_) h
 rcases hP with h | h
 ·exact .inl (Qjm hS hz hx hy hxz hyz v hv h p hp)
 cases hz2:(anZ n S z).testBit p with
 | true=>exact .inl rfl
 | false=>exact .inr fun d hd=>h true (.dn hd (Qyv hS hz hx hy hxz hyz hz2) hp)
theorem Q29 (hno:¬ ∃u d,y.testBit u=true/\Rch S z (anZ n S z) x u d) {a:Nat} (h:(V7 n S x y z).testBit a=true):z.testBit a=false->∃d,Rch S z (anZ n S z) x a d:=by
 obtain ⟨T,hT⟩:=Qr2 n fun a=>z.testBit a=false->∃d,Rch S z (anZ n S z) x a d
 have hc:Clo n (jo n S (anS n S x y z) z) T:=fun a ha hb b hbb=>by
  obtain ⟨_,had⟩:=(hT a).1 hb
  have hbn:b < n:=by
   unfold jo at hbb
   split at hbb
   ·simp at hbb
   rw [Q3] at hbb
   simp only [aE,aN] at hbb; exact hbb.1
  obtain ⟨haz,h1,k,hk,h3,h4,h5⟩:=(Qvk hbn).1 hbb
  obtain ⟨d,hd⟩:=had haz
  refine (hT b).2 ⟨hbn,fun h2=>?_⟩
  have on:∀p,Rch S z (anZ n S z) x k true->(S k).testBit p=true->∃d,Rch S z (anZ n S z) x p d:=fun p hkr hp=>by
   cases hkz:(anZ n S z).testBit k with
   | true=>exact ⟨_,.turn hkr hkz hp⟩
   | false =>
    rcases Q3o hS hz hx hy hxz hyz h3 with e | e | e
    ·rw [hkz] at e; cases e
    ·rcases Q5j hS hz hx hy hxz hyz e with e | e
     ·rw [hkz] at e; cases e
     exact absurd (e _ hkr) hno
    rcases Q56 hS hz hx hy hxz hyz e with e | e
    ·rw [hkz] at e; cases e
    exact ⟨_,.up e (Qyv hS hz hx hy hxz hyz hkz) hp⟩
  rcases h4 with h4 | rfl
  ·have hkr:Rch S z (anZ n S z) x k true:=.dn hd haz h4
   rcases h5 with h5 | rfl
   ·exact on b hkr h5
   exact ⟨_,hkr⟩
  rcases h5 with h5 | rfl
  ·cases d with
   | false=>exact ⟨_,.up hd haz h5⟩
   | true=>exact on b hd h5
  exact ⟨_,hd⟩
 have hs:Zh x T:=fun j hj=>(hT _).2 ⟨hx j hj,fun _=>⟨_,.start hj⟩⟩
 exact ((hT a).1 (Ya hc hs n a h)).2
theorem Qzm {a j:Nat} (h:(jo n S (anS n S x y z) z a).testBit j=true):j < n:=by
 unfold jo at h
 split at h
 ·simp at h
 rw [Q3] at h
 simp only [aE,aN] at h; exact h.1
theorem Qt7:Clo n (jo n S (anS n S x y z) z) (V7 n S x y z):=J3 (fun v _ j hj=>Qzm hS hz hx hy hxz hyz hj) hx
theorem Qxz {j:Nat} (h:(V7 n S x y z).testBit j=true):j < n:=Qmq (fun v _ j hj=>Qzm hS hz hx hy hxz hyz hj) hx h
theorem Qg1 {a b k:Nat} (ha:(V7 n S x y z).testBit a=true) (haz:z.testBit a=false) (hb:b < n) (hban:(anS n S x y z).testBit b=true) (hk:(anS n S x y z).testBit k=true) (h1:(S k).testBit a=true\/k=a) (h2:(S k).testBit b=true\/k=b):(V7 n S x y z).testBit b=true :=
 Qt7 hS hz hx hy hxz hyz a (Qxz hS hz hx hy hxz hyz ha) ha b ((Qvk hb).2 ⟨haz,hban,k,Qgc hS hz hx hy hxz hyz hk,hk,h1,h2⟩)
theorem Q9k {v:Nat} {d:Bool} (h:Rch S z (anZ n S z) x v d) (hd:d=false):(anS n S x y z).testBit v=true:=by
 induction h with
 | start h=>exact Q97 hS hz hx hy hxz hyz h
 | up _ _ hp ih=>exact Qcf hS hz hx hy hxz hyz _ (Qgc hS hz hx hy hxz hyz (ih rfl)) (ih rfl) _ hp
 | dn=>cases hd
 | @turn v p _ hv hp ih=>exact Quf hS hz hx hy hxz hyz (Qjm hS hz hx hy hxz hyz v (Q7u hS hz hx hy hxz hyz hv) hv p hp)
theorem Q9d {v:Nat} {d:Bool} (h:Tow S z (anZ n S z) y v d) (hd:d=true):(anS n S x y z).testBit v=true:=by
 induction h with
 | here _ h=>exact Q95 hS hz hx hy hxz hyz h
 | up=>cases hd
 | @dn v c d _ hv hc ih=>exact Qcf hS hz hx hy hxz hyz c (Qgc hS hz hx hy hxz hyz (ih rfl)) (ih rfl) v hc
 | turn _ hv _ _=>exact Quf hS hz hx hy hxz hyz hv
theorem Q4e {v:Nat} {d:Bool} (h:Rch S z (anZ n S z) x v d):Tow S z (anZ n S z) y v d->(z.testBit v=false->(V7 n S x y z).testBit v=true)/\(z.testBit v=true->d=true->∃p,(S v).testBit p=true/\z.testBit p=false/\(V7 n S x y z).testBit p=true):=by
 have lt:=fun {j:Nat} h=>Qgc hS hz hx hy hxz hyz (j:=j) h
 induction h with
 | start h=>exact fun _=>⟨fun _=>Xq n _ h,fun e=>by rw [hxz _ h] at e; cases e⟩
 | @up v p hr hv hp ih =>
  intro k
  have i1:=(ih (.up k hv hp)).1 hv
  have va:=Q9k hS hz hx hy hxz hyz hr rfl
  have pa:=Qcf hS hz hx hy hxz hyz v (lt va) va p hp
  exact ⟨fun hpz=>Qg1 hS hz hx hy hxz hyz i1 hv (lt pa) pa va (.inr rfl) (.inl hp),fun _ e=>by cases e⟩
 | @dn v c d hr hv hc ih =>
  intro k
  have i1:=(ih (.dn k hv hc)).1 hv
  have ca:=Q9d hS hz hx hy hxz hyz k rfl
  exact ⟨fun hcz=>Qg1 hS hz hx hy hxz hyz i1 hv (lt ca) ca ca (.inl hc) (.inr rfl),fun _ _=>⟨v,hc,hv,i1⟩⟩
 | @turn v p hr hv hp ih =>
  intro k
  have i:=ih (.turn k hv hp)
  have va:=Quf hS hz hx hy hxz hyz hv
  have pa:=Qcf hS hz hx hy hxz hyz v (lt va) va p hp
  refine ⟨fun hpz=>?_,fun _ e=>by cases e⟩
  cases hvz:z.testBit v with
  | false=>exact Qg1 hS hz hx hy hxz hyz (i.1 hvz) hvz (lt pa) pa va (.inr rfl) (.inl hp)
  | true =>
   obtain ⟨q,hq1,hq0,hq2⟩:=i.2 hvz rfl
   exact Qg1 hS hz hx hy hxz hyz hq2 hq0 (lt pa) pa va (.inl hq1) (.inl hp)
theorem Q6f:(∃u,y.testBit u=true/\(V7 n S x y z).testBit u=true)↔∃u d,y.testBit u=true/\Rch S z (anZ n S z) x u d:=by
 constructor
 ·rintro ⟨u,hu,h⟩
  apply Classical.byContradiction
  intro hno
  obtain ⟨d,hd⟩:=Q29 hS hz hx hy hxz hyz hno h (hyz u hu)
  exact hno ⟨u,d,hu,hd⟩
 rintro ⟨u,d,hu,h⟩
 exact ⟨u,hu,(Q4e hS hz hx hy hxz hyz h (.here _ hu)).1 (hyz u hu)⟩
end
end Go.Ab
