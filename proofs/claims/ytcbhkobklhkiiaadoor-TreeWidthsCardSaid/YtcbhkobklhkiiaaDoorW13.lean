/- What functions compute. No conditions. -/
import Derived.Test.YtcbhkobklhkiiaaDoorW12
import Derived.Test.YtcbhkobklhkiiaaDoorEng6
import Derived.Test.YtcbhkobklhkiiaaDoorW9
import Derived.KernelRfl
set_option linter.all false
namespace Go.Ab
open Go
set_option maxRecDepth 100000
set_option maxHeartbeats 400000
def Qt1 (g c:Int) (r:List Int):Prop:=(r.length:Int)=c∧(∀w∈r,0≤w)∧r.sum=g
def Qmc (g:Int) (C:Nat → Nat) (x:Tapi_Node) (q:List Nat):Prop:=x.Rows.length=lprod C q∧∀r∈x.Rows,Qt1 g x.Card r
theorem Qkr {l:List Int} {k:Nat} (h:k < l.length):(l.take (k+1)).sum=(l.take k).sum+l[k]:=by
 rw [Zb h,List.sum_append]; simp
theorem Qhh:∀{l:List Int},(∀w∈l,0≤w)→0≤l.sum
 | [],_=>by simp
 | w::l,h=>by
  have h1:=h w (by simp)
  have h2:=Qhh (l:=l) fun x hx=>h x (List.mem_cons_of_mem _ hx)
  rw [List.sum_cons]; omega
theorem Qyv {l:List Int} {k:Nat} (h:∀w∈l,0≤w):(l.take k).sum≤l.sum∧0≤(l.take k).sum:=by
 have h1:l.sum=(l.take k).sum+(l.drop k).sum:=by rw [←List.sum_append,List.take_append_drop]
 have h2:=Qhh (l:=l.drop k) fun w hw=>h w (List.mem_of_mem_drop hw)
 have h3:=Qhh (l:=l.take k) fun w hw=>h w (List.mem_of_mem_take hw)
 omega
theorem Qpi {g:Int} {r:List Int} (hg:0≤g) (hg60:g≤60) (hr:r.length≤1000000) :
  (((∀w∈r,0≤w)∧r.sum≤g)∧Qb fuel (Zi r) (g,0)=some (.inr (g - r.sum)))∨(¬ ((∀w∈r,0≤w)∧r.sum≤g)∧Qb fuel (Zi r) (g,0)=some (.inl ())):=by
 have pre:∀k,k≤r.length→(∀j,j < k→0≤(r[j]?).getD 0∧(r[j]?).getD 0≤g - (r.take j).sum)→0≤(r.take k).sum∧(r.take k).sum≤g:=by
  intro k
  induction k with
  | zero=>intro _ _; simp; omega
  | succ k ih =>
   intro hk h
   have h1:=ih (by omega) fun j hj=>h j (by omega)
   have h2:=h k (by omega)
   rw [List.getElem?_eq_getElem (by omega)] at h2
   rw [Qkr (by omega)]
   simp at h2; omega
 have h:=V2 (n:=r.length) (by omega) (fun k=>0≤(r[k]?).getD 0∧(r[k]?).getD 0≤g - (r.take k).sum) (fun i (t:Int)=>(t,i)) (body:=Zi r)
  (fun k=>g - (r.take k).sum) (.inr (g - r.sum)) (.inl ())
  (fun k hk hI hgd=>by
   have hp:=pre k (by omega) hI
   have ek:lkI r (k:Int)=some r[k]:=Zy hk
   rw [List.getElem?_eq_getElem hk] at hgd
   simp only [Option.getD_some] at hgd
   unfold Zi
   dsimp only
   rw [if_pos (dlt hk),ek,Option.bind_some,if_neg (by simp; omega),if_neg (by simp; omega),w64 (n:=g - (r.take k).sum - r[k]) (by omega),Qkr hk]
   congr 3
   omega)
  (fun k hk hI hgd=>by
   have ek:lkI r (k:Int)=some r[k]:=Zy hk
   rw [List.getElem?_eq_getElem hk] at hgd
   simp only [Option.getD_some] at hgd
   unfold Zi
   dsimp only
   rw [if_pos (dlt hk),ek,Option.bind_some]
   by_cases c:r[k] < 0
   ·rw [if_pos (by simpa using c)]
   ·rw [if_neg (by simpa using c),if_pos (by simp; omega)])
  (fun hI=>by
   unfold Zi
   dsimp only
   rw [if_neg (nlt _),List.take_length])
 have hiff:(∀j,j < r.length→0≤(r[j]?).getD 0∧(r[j]?).getD 0≤g - (r.take j).sum)↔((∀w∈r,0≤w)∧r.sum≤g):=by
  constructor
  ·intro h
   have:=pre r.length (Nat.le_refl _) h
   rw [List.take_length] at this
   refine ⟨fun w hw=>?_,this.2⟩
   obtain ⟨k,hk,rfl⟩:=List.mem_iff_getElem.1 hw
   have:=(h k hk).1
   rw [List.getElem?_eq_getElem hk] at this
   exact this
  ·rintro ⟨h1,h2⟩ j hj
   rw [List.getElem?_eq_getElem hj]
   refine ⟨h1 _ (List.getElem_mem hj),?_⟩
   have h3:=(Qyv (k:=j+1) h1).1
   rw [Qkr hj] at h3
   simp; omega
 rw [hiff] at h
 simp only [List.take_zero,List.sum_nil,Int.sub_zero] at h
 exact h
theorem Qke {n:Nat} {g:Int} {F:Nat → Tapi_Node} {C:Nat → Nat} {x:Tapi_Node} {q:List Nat} {sets order:List Int} (hg:0≤g) (hg60:g≤60) (hC:∀v,v < n→C v≤4) (hq:∀p∈q,p < n) (hl:q.length≤8) (hx:x.Parents=nI q) (hr:x.Rows.length≤1000000) (hrr:∀r∈x.Rows,r.length≤1000000) :
  (Qmc g C x q∧Xn ⟨⟨g,Qd n F⟩,Z2 n C,sets,order⟩ x=some true)∨(¬ Qmc g C x q∧Xn ⟨⟨g,Qd n F⟩,Z2 n C,sets,order⟩ x=some false):=by
 have bnd:∀k,lprod C (q.take k)≤65536:=fun k=>Nat.le_trans (Qhb fun p hp=>hC p (hq p (List.mem_of_mem_take hp))) (Nat.le_trans (Nat.pow_le_pow_right (by omega) (by rw [List.length_take]; omega)) (Nat.le_of_eq (show 4^8=65536 from rfl)))
 have h0:=Jq (n:=q.length) (k0:=0) (by omega) (by omega) (fun i (t:Int)=>(t,i)) (body:=Yn x ⟨⟨g,Qd n F⟩,Z2 n C,sets,order⟩) (fun k=>(lprod C (q.take k):Int)) (lprod C q:Int)
  (fun k _ hk=>by
   have hp:=hq _ (List.getElem_mem hk)
   have e1:(lprod C (q.take k):Int)*(C q[k]:Int)=((lprod C (q.take (k+1)):Nat):Int):=by rw [Zb hk,Qeb]; simp
   have:=bnd (k+1)
   unfold Yn
   dsimp only
   rw [hx,Qo,if_pos (dlt hk),Qbp hk,Option.bind_some,Qh3 hp,Option.bind_some,e1,w64 (n:=((lprod C (q.take (k+1)):Nat):Int)) (by omega)])
  (by
   unfold Yn
   dsimp only
   rw [hx,Qo,if_neg (nlt _),List.take_length])
 simp only [List.take_zero,show lprod C []=1 from rfl] at h0
 rw [show (((1:Nat):Int),((0:Nat):Int))=((1:Int),(0:Int)) from rfl] at h0
 unfold Xn
 rw [h0,Option.bind_some]
 by_cases c:x.Rows.length=lprod C q
 ·rw [if_neg (by simp; omega)]
  have h:=V2 (n:=x.Rows.length) (by omega) (fun k=>∀r,x.Rows[k]?=some r→Qt1 g x.Card r) (fun i (t:Unit)=>i) (body:=Xo x ⟨⟨g,Qd n F⟩,Z2 n C,sets,order⟩)
   (fun _=>()) (.inr ()) (.inl ())
   (fun k hk hI hgd=>by
    have ek:lkI x.Rows (k:Int)=some x.Rows[k]:=Zy hk
    obtain ⟨k1,k2,k3⟩:=hgd _ (List.getElem?_eq_getElem hk)
    unfold Xo
    dsimp only
    rw [if_pos (dlt hk),ek,Option.bind_some]
    rcases Qpi (g:=g) (r:=x.Rows[k]) hg hg60 (hrr _ (List.getElem_mem hk)) with ⟨_,e⟩ | ⟨no,_⟩
    ·rw [e,Option.bind_some]
     dsimp only
     rw [if_neg (by simp; omega),if_neg (by simp; omega)]
    ·exact absurd ⟨k2,by omega⟩ no)
   (fun k hk hI hgd=>by
    have ek:lkI x.Rows (k:Int)=some x.Rows[k]:=Zy hk
    unfold Xo
    dsimp only
    rw [if_pos (dlt hk),ek,Option.bind_some]
    rcases Qpi (g:=g) (r:=x.Rows[k]) hg hg60 (hrr _ (List.getElem_mem hk)) with ⟨hok,e⟩ | ⟨no,e⟩
    ·rw [e,Option.bind_some]
     dsimp only
     by_cases c2:(x.Rows[k].length:Int)=x.Card
     ·rw [if_neg (by simp; omega),if_pos (by
       have:g - x.Rows[k].sum≠0:=fun h0=>hgd fun r hr=>by
        rw [List.getElem?_eq_getElem hk] at hr; cases hr
        exact ⟨c2,hok.1,by omega⟩
       simpa using this)]
     ·rw [if_pos (by simpa using c2)]
    ·rw [e,Option.bind_some])
   (fun hI=>by
    unfold Xo
    dsimp only
    rw [if_neg (nlt _)])
  have hiff:(∀j,j < x.Rows.length→∀r,x.Rows[j]?=some r→Qt1 g x.Card r)↔Qmc g C x q:=by
   constructor
   ·intro h
    refine ⟨c,fun r hr=>?_⟩
    obtain ⟨k,hk,rfl⟩:=List.mem_iff_getElem.1 hr
    exact h k hk _ (List.getElem?_eq_getElem hk)
   ·rintro ⟨_,h⟩ j hj r hr
    exact h r (List.mem_of_getElem? hr)
  rw [hiff] at h
  rcases h with ⟨h1,h2⟩ | ⟨h1,h2⟩
  ·exact .inl ⟨h1,by rw [show ((0:Nat):Int)=0 from rfl] at h2; rw [h2]; rfl⟩
  ·exact .inr ⟨h1,by rw [show ((0:Nat):Int)=0 from rfl] at h2; rw [h2]; rfl⟩
 ·rw [if_pos (by simp; omega)]
  exact .inr ⟨fun h=>c h.1,rfl⟩
def setF (F:Nat → Tapi_Node) (v:Nat):Nat := bitsOf (Qf F v) 0
def Qlz (n:Nat) (g:Int) (F:Nat → Tapi_Node) (v:Nat):Prop:=(Qh2 n (F v).Parents∧(v:Int) ∉ (F v).Parents)∧Qmc g (cardN F) (F v) (Qf F v)
theorem Qwf {n:Nat} {g w:Int} {F:Nat → Tapi_Node} (hn:n≤8) (hg:0≤g) (hg60:g≤60) (hb:NB n F) (hC:∀v,v < n→Qbt (F v)) :
  ((∀v,v < n→Qlz n g F v)∧Qb fuel (Xx ⟨g,Qd n F⟩ (w,Z2 n (cardN F))) ((0:Int),Qd n fun _=>(0:Int))=some (Sum.inr (Z2 n (setF F)))) ∨
  ((¬ ∀v,v < n→Qlz n g F v)∧Qb fuel (Xx ⟨g,Qd n F⟩ (w,Z2 n (cardN F))) ((0:Int),Qd n fun _=>(0:Int))=some (Sum.inl ())):=by
 have hlen:(Qd n F).length=n:=X2
 have h:=V2 (n:=n) (by omega) (Qlz n g F) (fun i (t:List Int)=>(i,t)) (body:=Xx ⟨g,Qd n F⟩ (w,Z2 n (cardN F)))
  (fun k=>Qd n fun j=>if j < k then (setF F j:Int) else 0) (.inr (Z2 n (setF F))) (.inl ())
  (fun v hv hI hgd=>by
   unfold Xx
   dsimp only
   rw [hlen,if_pos (dlt hv),Xc hv,Option.bind_some]
   rcases Qq8 (n:=n) (v:=v) (g:=g) (F:=F) (x:=F v) (S:=fun j=>if j < v then (setF F j:Int) else 0) (R:=[]) hn hv (hb.par v hv) (if_neg (by omega)) ((v:Int),Qd n fun j=>if j < v then (setF F j:Int) else 0) rfl with ⟨_,e⟩ | ⟨no,_⟩
   ·rw [e,Option.bind_some]
    dsimp only
    obtain ⟨p1,p2,p3⟩:=K7 hgd.1.1
    rcases Qke (n:=n) (g:=g) (F:=F) (C:=cardN F) (x:=F v) (q:=Qf F v) (sets:=Qd n fun j=>if j=v then (bitsOf ((F v).Parents.map Int.toNat) 0:Int) else if j < v then (setF F j:Int) else 0) (order:=[]) hg hg60 (fun u hu=>(Qgy (hC u hu)).2) p3 (by have:=Qno p2 p3; omega) p1 (hb.rows v hv) (hb.row v hv) with ⟨_,e2⟩ | ⟨no,_⟩
    ·rw [e2,Option.bind_some,if_neg (by decide)]
     congr 3
     refine Zc fun j _=>?_
     by_cases c:j=v
     ·subst c; rw [if_pos rfl,if_pos (by omega)]; rfl
     ·rw [if_neg c]
      by_cases c2:j < v
      ·rw [if_pos c2,if_pos (by omega)]
      ·rw [if_neg c2,if_neg (by omega)]
    ·exact absurd hgd.2 no
   ·exact absurd hgd.1 no)
  (fun v hv hI hgd=>by
   unfold Xx
   dsimp only
   rw [hlen,if_pos (dlt hv),Xc hv,Option.bind_some]
   rcases Qq8 (n:=n) (v:=v) (g:=g) (F:=F) (x:=F v) (S:=fun j=>if j < v then (setF F j:Int) else 0) (R:=[]) hn hv (hb.par v hv) (if_neg (by omega)) ((v:Int),Qd n fun j=>if j < v then (setF F j:Int) else 0) rfl with ⟨hp,e⟩ | ⟨no,e⟩
   ·rw [e,Option.bind_some]
    dsimp only
    obtain ⟨p1,p2,p3⟩:=K7 hp.1
    rcases Qke (n:=n) (g:=g) (F:=F) (C:=cardN F) (x:=F v) (q:=Qf F v) (sets:=Qd n fun j=>if j=v then (bitsOf ((F v).Parents.map Int.toNat) 0:Int) else if j < v then (setF F j:Int) else 0) (order:=[]) hg hg60 (fun u hu=>(Qgy (hC u hu)).2) p3 (by have:=Qno p2 p3; omega) p1 (hb.rows v hv) (hb.row v hv) with ⟨hf,_⟩ | ⟨no,e2⟩
    ·exact absurd ⟨hp,hf⟩ hgd
    ·rw [e2,Option.bind_some,if_pos (by decide)]
   ·rw [e,Option.bind_some])
  (fun hI=>by
   unfold Xx
   dsimp only
   rw [hlen,if_neg (nlt n)]
   congr 3
   exact Zc fun j hj=>if_pos hj)
 have e0:(Qd n fun j=>if j < 0 then (setF F j:Int) else 0)=Qd n fun _=>(0:Int):=Zc fun j _=>if_neg (by omega)
 simp only [e0] at h
 exact h
end Go.Ab
namespace Go.Ab
open Go
set_option maxRecDepth 100000
set_option maxHeartbeats 400000
def Qlb (n:Nat) (q:Nat → List Nat):Prop:=∃rk:Nat → Nat,∀v,v < n→∀p∈q v,rk p < rk v
theorem Qvy:∀(l:List Nat),lprod (fun _=>1) l=1:=fun l=>by
 have:∀(l:List Nat) (r:Nat),l.foldl (fun r _=>r*1) r=r:=fun l=>by
  induction l with
  | nil=>intro r; rfl
  | cons a l ih=>intro r; simp only [List.foldl_cons]; rw [ih]; omega
 exact this l 1
theorem Qmd:∀n,Xf n (fun _=>1)=1
 | 0=>rfl
 | n+1=>by simp [Xf,Qmd n]
theorem Qtx {n:Nat} {q:Nat → List Nat} (h1:1≤n) (hn:n≤8) (hq:∀v,v < n→(q v).Pairwise (· < ·)∧(∀p∈q v,p < n)∧v ∉ q v) (hr:Qlb n q):∃o,Xv (Z2 n fun v=>bitsOf (q v) 0)=some (o,true):=by
 let D:NF:=⟨n,1,fun _=>1,q,fun _ _ _=>1⟩
 have hrows:∀v,D.rows v=1:=fun v=>Qvy (q v)
 exact Qu3 (D:=D) ⟨⟨h1,hn,Nat.le_refl _,by show 1≤60; omega,fun v hv=>⟨Nat.le_refl _,by show 1≤4; omega⟩,fun v hv=>(hq v hv).2.1,fun v hv=>Nat.le_trans (Qno (hq v hv).1 (hq v hv).2.1) hn,fun v r x hv hr hx=>Nat.le_refl _,by show Xf n (fun _=>1)≤1024; rw [Qmd]; omega⟩,
  fun v hv=>(hq v hv).1,fun v hv=>(hq v hv).2.2,hr,fun v r hv hr=>rfl⟩
theorem Quc {n:Nat} {q:Nat → List Nat} (hn:n≤8) (hq:∀v,v < n→∀p∈q v,p < n):∃r,Qb fuel (Z8 (Z2 n fun v=>bitsOf (q v) 0)) ((0:Int),([]:List Int))=some r∧(r=.inl ()∨∃o,r=.inr o∧Qlb n q):=by
 have hlen:(Z2 n fun v=>bitsOf (q v) 0).length=n:=Qg9
 refine Y5 (body:=Z8 (Z2 n fun v=>bitsOf (q v) 0)) (fun s=>∃l:List Nat,l.Nodup∧(∀p∈l,p < n)∧(∀i (hi:i < l.length),∀p∈q l[i],p∈l.take i)∧s=((bitsOf l 0:Int),nI l)) (fun s=>n - s.2.length) (fun r=>r=.inl ()∨∃o,r=.inr o∧Qlb n q)
  (fun s hs=>?_) ((0:Int),([]:List Int)) ⟨[],List.nodup_nil,by simp,by simp,rfl⟩ (by show n - 0 < 1152921504606846976; omega)
 obtain ⟨l,hnd,hl,hb,rfl⟩:=hs
 have hll:l.length≤n:=by
  have:=Ko l (List.range n) hnd fun p hp=>List.mem_range.2 (hl p hp)
  simpa using this
 have hdl:bitsOf l 0 < 18446744073709551616:=Qbd _ _ (by omega) fun p hp=>by have:=hl p hp; omega
 by_cases hc:l.length < n
 ·
  have hsr:=Ju (n:=n) (k0:=0) (by omega) (by omega) (fun i (_:Unit)=>i) (body:=Va (Z2 n fun v=>bitsOf (q v) 0) ((bitsOf l 0:Int),nI l)) (fun _ _=>True)
   (fun r=>r=.inr ()∨∃v,v < n∧v ∉ l∧(∀p∈q v,p∈l)∧r=.inl (((bitsOf (l++[v]) 0:Nat):Int),nI (l++[v])))
   (fun k _ _ hk _=>by
    have hbk:(bitsOf l 0).testBit k=decide (k∈l):=by rw [Xy]; simp
    have hsl:bitsOf (q k) 0 < 18446744073709551616:=Qbd _ _ (by omega) fun p hp=>by have:=hq k hk p hp; omega
    unfold Va
    dsimp only
    rw [hlen,if_pos (dlt hk),Qh3 hk,Option.bind_some,if_pos (Zf k),Qcp hdl (by omega),hbk]
    by_cases hkl:k∈l
    ·left
     rw [if_neg (by simp [hkl])]
     exact ⟨(),rfl,trivial⟩
    ·rw [if_pos (by simp [hkl])]
     by_cases hsub:∀p∈q k,p∈l
     ·right
      rw [if_pos ((Qmg hsl hdl).2 fun j hj=>by
       rw [Xy] at hj
       rw [Xy]
       simp at hj ⊢
       exact hsub j hj),if_pos (by rw [List.length_append,Qo]; simp; omega),if_pos (Zf k),Qtv hdl (by omega)]
      exact ⟨_,rfl,.inr ⟨k,hk,hkl,hsub,by rw [Qdc]; unfold nI; simp⟩⟩
     ·left
      rw [if_neg (fun hc'=>hsub fun p hp=>by
       have:=(Qmg hsl hdl).1 hc' p (by rw [Xy]; simpa using hp)
       rw [Xy] at this
       simpa using this)]
      exact ⟨(),rfl,trivial⟩)
   (fun _ _=>⟨_,by unfold Va; dsimp only; rw [hlen,if_neg (nlt n)],.inl rfl⟩) () trivial
  obtain ⟨r,e1,e2⟩:=hsr
  rcases e2 with rfl | ⟨v,hv,hvl,hvq,rfl⟩
  ·right
   refine ⟨_,?_,.inl rfl⟩
   unfold Z8
   dsimp only
   rw [Qo,hlen,if_pos (dlt hc),show (0:Int)=((0:Nat):Int) from rfl,e1]; rfl
  ·left
   refine ⟨(((bitsOf (l++[v]) 0:Nat):Int),nI (l++[v])),?_,⟨l++[v],?_,?_,?_,rfl⟩,by rw [Qo,Qo,List.length_append]; simp; omega⟩
   ·unfold Z8
    dsimp only
    rw [Qo,hlen,if_pos (dlt hc),show (0:Int)=((0:Nat):Int) from rfl,e1]; rfl
   ·rw [List.nodup_append]
    exact ⟨hnd,by simp,fun a ha b hb=>by simp at hb; subst hb; exact fun e=>hvl (e ▸ ha)⟩
   ·intro p hp
    rcases List.mem_append.1 hp with h | h
    ·exact hl p h
    ·simp at h; omega
   ·intro i hi p hp
    rw [List.length_append] at hi
    by_cases c:i < l.length
    ·rw [List.getElem_append_left c] at hp
     rw [List.take_append_of_le_length (by omega)]
     exact hb i c p hp
    ·have:i=l.length:=by simp at hi; omega
     subst this
     rw [List.getElem_append_right (by omega)] at hp
     simp at hp
     rw [List.take_append_of_le_length (by omega),List.take_length]
     exact hvq p hp
 ·right
  refine ⟨_,?_,.inr ⟨nI l,rfl,fun v=>l.idxOf v,fun v hv p hp=>?_⟩⟩
  ·unfold Z8
   dsimp only
   rw [Qo,hlen,if_neg (by simp; omega)]
  ·have hvl:v∈l:=Qaw hnd hl (by omega) v hv
   have hi:=List.idxOf_lt_length_of_mem hvl
   have:=hb (l.idxOf v) hi p (by rw [List.getElem_idxOf hi]; exact hp)
   exact Qlf this
theorem Qrv {n:Nat} {q:Nat → List Nat} (h1:1≤n) (hn:n≤8) (hq:∀v,v < n→(q v).Pairwise (· < ·)∧(∀p∈q v,p < n)∧v ∉ q v) :
  (Qlb n q∧∃o,Xv (Z2 n fun v=>bitsOf (q v) 0)=some (o,true))∨(¬ Qlb n q∧Xv (Z2 n fun v=>bitsOf (q v) 0)=some ([],false)):=by
 by_cases hr:Qlb n q
 ·exact .inl ⟨hr,Qtx h1 hn hq hr⟩
 ·right
  refine ⟨hr,?_⟩
  obtain ⟨r,e1,e2⟩:=Quc hn fun v hv=>(hq v hv).2.1
  rcases e2 with rfl | ⟨o,rfl,h⟩
  ·unfold Xv
   rw [if_pos (by rw [Qg9]; omega)]
   simp only [Int.toNat_zero,List.replicate_zero]
   rw [e1]; rfl
  ·exact absurd h hr
structure Jo (n:Nat) (g:Int) (F:Nat → Tapi_Node):Prop where
 g1:1≤g
 g60:g≤60
 n1:1≤n
 n8:n≤8
 card:∀v,v < n→Qbt (F v)
 worlds:Xf n (cardN F)≤1024
 node:∀v,v < n→Qlz n g F v
 rank:Qlb n (Qf F)
def Q1k:Qs × Int:=(⟨⟨0,[]⟩,[],[],[]⟩,50)
theorem Qog {n:Nat} {g:Int} {F:Nat → Tapi_Node} (hb:NB n F) (hbig:n≤1000000) :
  (Jo n g F∧∃o,Jx ⟨g,Qd n F⟩=some (⟨⟨g,Qd n F⟩,Z2 n (cardN F),Z2 n (setF F),o⟩,0))∨(¬ Jo n g F∧Jx ⟨g,Qd n F⟩=some Q1k):=by
 have hlen:(Qd n F).length=n:=X2
 unfold Jx
 dsimp only
 rw [hlen]
 by_cases c1:g < 1
 ·rw [if_pos (by simpa using c1)]; exact .inr ⟨fun h=>by have:=h.g1; omega,rfl⟩
 rw [if_neg (by simpa using c1)]
 by_cases c2:g > 60
 ·rw [if_pos (by simpa using c2)]; exact .inr ⟨fun h=>by have:=h.g60; omega,rfl⟩
 rw [if_neg (by simpa using c2)]
 by_cases c3:n < 1
 ·rw [if_pos (by simp; omega)]; exact .inr ⟨fun h=>by have:=h.n1; omega,rfl⟩
 rw [if_neg (by simp; omega)]
 by_cases c4:n > 8
 ·rw [if_pos (by simp; omega)]; exact .inr ⟨fun h=>by have:=h.n8; omega,rfl⟩
 rw [if_neg (by simp; omega),if_pos (by omega),if_pos (by omega),Int.toNat_natCast,Qkt]
 rcases Quu (n:=n) (g:=g) (F:=F) (by omega) with ⟨hC,e⟩ | ⟨hC,e⟩
 ·rw [e,Option.bind_some]
  dsimp only
  by_cases c5:Xf n (cardN F) > 1024
  ·rw [if_pos (by simp; omega)]; exact .inr ⟨fun h=>by have:=h.worlds; omega,rfl⟩
  rw [if_neg (by simp; omega)]
  rcases Qwf (n:=n) (g:=g) (w:=(Xf n (cardN F):Int)) (F:=F) (by omega) (by omega) (by omega) hb hC with ⟨hN,e⟩ | ⟨hN,e⟩
  ·rw [e,Option.bind_some]
   dsimp only
   rcases Qrv (n:=n) (q:=Qf F) (by omega) (by omega) (fun v hv=>by
    obtain ⟨p1,p2,p3⟩:=K7 (hN v hv).1.1
    refine ⟨p2,p3,fun h=>(hN v hv).1.2 ?_⟩
    rw [p1]; unfold nI; exact List.mem_map.2 ⟨v,h,rfl⟩) with ⟨hR,o,e⟩ | ⟨hR,e⟩
   ·left
    refine ⟨⟨by omega,by omega,by omega,by omega,hC,by omega,hN,hR⟩,o,?_⟩
    rw [show (Z2 n (setF F))=(Z2 n fun v=>bitsOf (Qf F v) 0) from rfl,e,Option.bind_some,if_neg (by simp)]
   ·right
    refine ⟨fun h=>hR h.rank,?_⟩
    rw [show (Z2 n (setF F))=(Z2 n fun v=>bitsOf (Qf F v) 0) from rfl,e,Option.bind_some,if_pos (by simp)]; rfl
  ·rw [e,Option.bind_some]; exact .inr ⟨fun h=>hN h.node,rfl⟩
 ·rw [e,Option.bind_some]; exact .inr ⟨fun h=>hC h.card,rfl⟩
end Go.Ab
namespace Go.Ab
open Go
set_option maxRecDepth 100000
set_option maxHeartbeats 400000
theorem Q2r {a b:Nat} (ha:a < 18446744073709551616) (hb:b < 18446744073709551616):zv (zb (a:Int) ||| zb (b:Int)).toNat = ((a ||| b:Nat):Int):=by
 rw [BitVec.toNat_or,Vs ha,Vs hb,Jm (Nat.or_lt_two_pow (n:=64) ha hb)]
def Qf6 (a b:Nat):Prop:=∀j,a.testBit j=true→b.testBit j=true
theorem Qf6.refl {a:Nat}:Qf6 a a:=fun _ h=>h
theorem Qf6.trans {a b c:Nat} (h:Qf6 a b) (k:Qf6 b c):Qf6 a c:=fun j hj=>k j (h j hj)
theorem Q1m {n s:Nat} (h:∀j,s.testBit j=true→j < n):s < 2^n:=by
 apply Nat.lt_pow_two_of_testBit
 intro i hi
 rw [Bool.eq_false_iff]; intro hj
 have:=h i hj; omega
end Go.Ab
namespace Go.Ab
open Go
set_option maxRecDepth 100000
set_option maxHeartbeats 400000
structure Qth (m:Nat) (x:Tapi_Node):Prop where
 par:x.Parents.length≤m
 rows:x.Rows.length≤m
 row:∀r∈x.Rows,r.length≤m
end Go.Ab
namespace Go.Ab
open Go
set_option maxRecDepth 100000
set_option maxHeartbeats 400000
def PG (q:Nat → List Nat):Gr:=fun v i=>decide (i∈q v)
def FG (q:Nat → List Nat):Gr:=fun v i=>decide (v=i) || decide (i∈q v)
def mgk (q:Nat → List Nat) (k:Nat):Gr:=fun u w=>!decide (u=w) && (List.range k).any fun v=>FG q v u && FG q v w
def mg (n:Nat) (q:Nat → List Nat):Gr:=fun u w=>decide (u < n) && decide (w < n) && mgk q n u w
theorem Qsu {n:Nat} {F:Nat → Tapi_Node} (hn:n≤8) (h:∀v,v < n→∀p∈Qf F v,p < n):Z2 n (setF F)=gl n (PG (Qf F)):=by
 unfold Z2 Qd gl
 refine List.map_congr_left fun v hv=>?_
 have hv:=List.mem_range.1 hv
 have:setF F v=msk n (PG (Qf F) v):=V7 (Q1m fun j hj=>h v hv j (by unfold setF at hj; rw [Xy] at hj; simpa using hj)) fun i _=>by
  unfold setF PG; rw [Xy]; simp
 rw [this]
theorem Qcc {n:Nat} {q:Nat → List Nat}:Xd n (mg n q):=by
 refine ⟨fun u w=>?_,fun u=>?_,fun u w h=>?_⟩
 ·unfold mg mgk
  rw [Bool.eq_iff_iff]
  simp only [Bool.and_eq_true,Bool.not_eq_true',decide_eq_false_iff_not,List.any_eq_true,decide_eq_true_eq]
  constructor <;> rintro ⟨⟨a,b⟩,c,v,d,e,f⟩ <;> exact ⟨⟨b,a⟩,fun h=>c h.symm,v,d,f,e⟩
 ·unfold mg mgk; simp
 ·unfold mg at h
  simp only [Bool.and_eq_true,decide_eq_true_eq] at h
  exact h.1.1
theorem Qyp {q:Nat → List Nat} {k:Nat}:mgk q (k+1)=fun u w=>mgk q k u w || (!decide (u=w) && (FG q k u && FG q k w)):=by
 funext u w
 unfold mgk
 rw [List.range_succ,List.any_append]
 simp only [List.any_cons,List.any_nil,Bool.or_false]
 cases decide (u=w) <;> simp
theorem Qxh {n k:Nat} {q:Nat → List Nat} (hn:n≤10) (hk:k < n):zv (zb ((msk n (PG q k):Nat):Int) ||| zb (zv (1*2^min (Int.toNat (k:Int)) (IntKind.bits .u64)))).toNat = ((msk n (FG q k):Nat):Int):=by
 rw [Qkc hn hk]
 congr 1
 exact Y2 fun i _=>by unfold PG FG; rw [Bool.or_comm]
theorem Qyt {n:Nat} {q:Nat → List Nat} {N:Qg} {C o:List Int} (h1:1≤n) (hn:n≤8):Vt ⟨N,C,gl n (PG q),o⟩=some (gl n (mg n q)):=by
 have inner:∀k,k < n→Qb fuel (Xt ((k:Int),gl n (mgk q k)) ((msk n (PG q k):Nat):Int)) ((0:Int),gl n (mgk q k))=some (gl n (mgk q (k+1))):=fun k hk=>by
  have h:=Jq (n:=n) (k0:=0) (by omega) (by omega) (fun i (t:List Int)=>(i,t)) (body:=Xt ((k:Int),gl n (mgk q k)) ((msk n (PG q k):Nat):Int)) (fun j=>gl n fun u w=>mgk q k u w || (decide (u < j) && (!decide (u=w) && (FG q k u && FG q k w)))) (gl n (mgk q (k+1)))
   (fun j _ hj=>by
    unfold Xt
    dsimp only
    rw [Zp,if_pos (dlt hj),if_pos (Zf j),Qxh (by omega) hk,Qcp (Qk3 (by omega) (Zm n _)) (by omega),Ym j hj]
    by_cases c:FG q k j=true
    ·rw [c,if_pos (by decide),Qco hj,Option.bind_some,if_pos (Zf j),Qo0 (by omega) (by omega),Qt4 (n:=n) (by omega) (Zm n _) (Zm n _) Ym Ym,Qph]
     congr 3
     refine gl_congr fun u w hu hw=>?_
     simp only [upd]
     grind
    ·rw [Bool.not_eq_true] at c
     rw [c,if_neg (by decide)]
     congr 3
     refine gl_congr fun u w hu hw=>?_
     grind)
   (by
    unfold Xt
    dsimp only
    rw [Zp,if_neg (nlt n),Qyp]
    congr 2
    refine gl_congr fun u w hu hw=>?_
    simp [hu])
  have e0:(gl n fun u w=>mgk q k u w || (decide (u < 0) && (!decide (u=w) && (FG q k u && FG q k w))))=gl n (mgk q k):=gl_congr fun u w _ _=>by simp
  simp only [e0] at h
  exact h
 have h:=Jq (n:=n) (k0:=0) (by omega) (by omega) (fun i (t:List Int)=>(i,t)) (body:=Y0 ⟨N,C,gl n (PG q),o⟩) (fun k=>gl n (mgk q k)) (gl n (mg n q))
  (fun k _ hk=>by
   unfold Y0
   dsimp only
   rw [Zp,if_pos (dlt hk),Qco hk,Option.bind_some,if_pos (Zf k),inner k hk]; rfl)
  (by
   unfold Y0
   dsimp only
   rw [Zp,if_neg (nlt n)]
   congr 2
   refine gl_congr fun u w hu hw=>?_
   unfold mg; simp [hu,hw])
 have e0:gl n (mgk q 0)=gl n fun _ _=>false:=gl_congr fun u w _ _=>by unfold mgk; simp
 simp only [e0] at h
 unfold Vt
 dsimp only
 rw [Zp,if_pos (by omega),Int.toNat_natCast,Qzy]
 rw [show ((0:Nat):Int)=0 from rfl] at h
 rw [h]; rfl
end Go.Ab
namespace Go.Ab
open Go
set_option maxRecDepth 100000
set_option maxHeartbeats 400000
def setP (A:Gr) (v:Nat):Nat → Bool:=fun i=>A v i || decide (v=i)
def Qz (n:Nat):Gr→List Nat → List Nat
 | _,[]=>[]
 | A,v::o=>msk n (setP A v)::Qz n (elim A v) o
def subB (a b:Nat):Bool:=Nat.beq (a &&& b) a
def Kc (acc:List Nat) (s:Nat):List Nat := if acc.any (subB s) then acc else acc++[s]
def Zu (l:List Nat):List Nat := l.foldl Kc []
theorem X1 {a b:Nat}:subB a b=true↔Qf6 a b:=by
 unfold subB Qf6
 rw [Nat.beq_eq]
 constructor
 ·intro h j hj
  rw [←h,Nat.testBit_and,Bool.and_eq_true] at hj
  exact hj.2
 ·intro h
  refine Nat.eq_of_testBit_eq fun j=>?_
  rw [Nat.testBit_and]
  cases ha:a.testBit j with
  | true=>rw [h j ha]; rfl
  | false=>rfl
theorem Qod {n:Nat}:∀(o:List Nat) (A:Gr) (v:Nat),Qz n A (o++[v])=Qz n A o++[msk n (setP (seqA A o) v)]
 | [],A,v=>rfl
 | u::o,A,v=>by
  simp only [List.cons_append,Qz]
  rw [Qod o (elim A u) v]; rfl
theorem Qen {n:Nat}:∀(o:List Nat) (A:Gr),(Qz n A o).length=o.length
 | [],A=>rfl
 | u::o,A=>by simp only [Qz,List.length_cons]; rw [Qen o]
theorem Qd2 {n:Nat}:∀(o:List Nat) (A:Gr),∀s∈Qz n A o,s < 2^n
 | [],A,s,h=>by cases h
 | u::o,A,s,h=>by
  simp only [Qz,List.mem_cons] at h
  rcases h with h | h
  ·rw [h]; exact Zm n _
  ·exact Qd2 o _ s h
theorem Qgz {l:List Nat} {s:Nat}:Zu (l++[s])=Kc (Zu l) s:=by unfold Zu; rw [List.foldl_append]; rfl
theorem Qjj:∀(l acc:List Nat),(l.foldl Kc acc).length≤acc.length+l.length∧∀s∈l.foldl Kc acc,s∈acc∨s∈l
 | [],acc=>⟨by simp,fun s h=>.inl h⟩
 | x::l,acc=>by
  obtain ⟨h1,h2⟩:=Qjj l (Kc acc x)
  have h3:(Kc acc x).length≤acc.length+1∧∀s∈Kc acc x,s∈acc∨s=x:=by
   unfold Kc; split
   ·exact ⟨by omega,fun s h=>.inl h⟩
   ·exact ⟨by simp,fun s h=>by
     rcases List.mem_append.1 h with h | h
     ·exact .inl h
     ·simp at h; exact .inr h⟩
  refine ⟨by simp only [List.foldl_cons,List.length_cons]; omega,fun s hs=>?_⟩
  rcases h2 s hs with h | h
  ·rcases h3.2 s h with h | h
   ·exact .inl h
   ·exact .inr (by simp [h])
  ·exact .inr (List.mem_cons_of_mem _ h)
theorem Qfg {l:List Nat} {s:Nat} (h:s∈Zu l):s∈l:=by
 rcases (Qjj l []).2 s h with h | h
 ·cases h
 ·exact h
theorem Qoa {l:List Nat}:(Zu l).length≤l.length:=by have:=(Qjj l []).1; unfold Zu; simpa using this
theorem Qav {a b:Nat} (ha:a < 18446744073709551616) (hb:b < 18446744073709551616) :
  ((zv (zb (a:Int) &&& ~~~ zb (b:Int)).toNat == 0)=true)↔subB a b=true:=by rw [Qmg ha hb,X1]; rfl
theorem Qu4 {n k:Nat} {A N:Gr} {o:List Nat} (hn:n≤8) (hG:Xd n A) (hk:k < o.length) (hl:∀v∈o,v < n) (hnd:o.Nodup) (hN:∀u w,u < n→w < n→u ∉ o.take k→w ∉ o.take k→N u w=seqA A (o.take k) u w) :
  zv (zb (zv (zb ((msk n (N o[k]):Nat):Int) &&& zb ((msk 64 (fun i=>!(o.take k).contains i):Nat):Int)).toNat) ||| zb (zv (1*2^min (Int.toNat ((o[k]:Nat):Int)) (IntKind.bits .u64)))).toNat = ((msk n (setP (seqA A (o.take k)) o[k]):Nat):Int):=by
 have hv:=hl _ (List.getElem_mem hk)
 have hnot:=Qd9 hnd hk
 rw [Q23 (n:=n) (q:=fun i=>!(o.take k).contains i) (by omega) (Zm n _) (Zm 64 _) Ym (fun i hi=>by rw [Q8]; simp; omega),Qkc (by omega) hv]
 congr 1
 refine Y2 fun i hi=>?_
 unfold setP
 by_cases c:i∈o.take k
 ·have:=Qk6 (o:=o.take k) hG (.inl c) o[k]
  rw [(Qjg (o:=o.take k) hG).sym,this]
  simp [c]
 ·rw [hN _ _ hv hi hnot c]
  simp [c]
theorem Qvg {n:Nat} {A B N:Gr} {v:Nat} {done:Nat → Prop} (hB:∀u w,u < n→w < n→¬ done u→¬ done w→N u w=B u w):∀u w,u < n→w < n→¬ (done u∨u=v)→¬ (done w∨w=v)→(N u w || (setP B v u && (setP B v w && !decide (u=w))))=elim B v u w:=fun u w hu hw h1 h2=>by
 have e:=hB u w hu hw (fun h=>h1 (.inl h)) (fun h=>h2 (.inl h))
 have e1:¬ u=v:=fun h=>h1 (.inr h)
 have e2:¬ w=v:=fun h=>h2 (.inr h)
 unfold setP elim
 rw [e]
 have e1':¬ v=u:=fun h=>e1 h.symm
 have e2':¬ v=w:=fun h=>e2 h.symm
 simp [e1,e2,e1',e2',Bool.and_assoc]
theorem Que {n:Nat} {A:Gr} {o:List Nat} (h1:1≤n) (hn:n≤8) (hG:Xd n A) (hl:∀v∈o,v < n) (hnd:o.Nodup):Vi ⟨⟨gl n A⟩,nI o⟩=some (nI (Zu (Qz n A o))):=by
 have hol:=Ko o (List.range n) hnd fun v hv=>List.mem_range.2 (hl v hv)
 rw [List.length_range] at hol
 have p8:(2:Nat)^n≤256:=Nat.pow_le_pow_right (n:=2) (by omega) hn
 have step:∀(k:Nat) (N:Gr) (hk:k < o.length),(∀u w,u < n→w < n→u ∉ o.take k→w ∉ o.take k→N u w=seqA A (o.take k) u w) →
   Xp ⟨⟨gl n A⟩,nI o⟩ (((msk 64 (fun i=>!(o.take k).contains i):Nat):Int),(k:Int),nI (Zu (Qz n A (o.take k))),gl n N) =
   some (.next (((msk 64 (fun i=>!(o.take (k+1)).contains i):Nat):Int),zw ((k:Int)+1),nI (Zu (Qz n A (o.take (k+1)))),gl n fun u w=>N u w || (setP (seqA A (o.take k)) o[k] u && (setP (seqA A (o.take k)) o[k] w && !decide (u=w))))):=fun k N hk hN=>by
  have hv:=hl _ (List.getElem_mem hk)
  have hnot:=Qd9 hnd hk
  have hw:=Qu4 hn hG hk hl hnd hN
  have hs:msk n (setP (seqA A (o.take k)) o[k]) < 2^n:=Zm n _
  have hacc:∀s∈Zu (Qz n A (o.take k)),s < 2^n:=fun s h=>Qd2 _ _ s (Qfg h)
  have hal:(Zu (Qz n A (o.take k))).length≤8:=by
   have h1:=Qoa (l:=Qz n A (o.take k)); rw [Qen,List.length_take] at h1; omega
  have et:Qz n A (o.take (k+1))=Qz n A (o.take k)++[msk n (setP (seqA A (o.take k)) o[k])]:=by rw [Zb hk,Qod]
  have eleft:zv (zb ((msk 64 (fun i=>!(o.take k).contains i):Nat):Int) &&& ~~~ zb (zv (1*2^min (Int.toNat ((o[k]:Nat):Int)) (IntKind.bits .u64)))).toNat = ((msk 64 (fun i=>!(o.take (k+1)).contains i):Nat):Int):=by
   rw [Qra (by omega),Qls (n:=64) (Nat.le_refl _) (Zm 64 _) (Qt8 (by omega)) Ym fun i _=>Qj8 _ i]
   congr 1
   refine Y2 fun i _=>?_
   rw [Zb hk,List.contains_append]
   by_cases e:i=o[k]
   ·subst e; simp
   ·have e':¬ o[k]=i:=fun h=>e h.symm
    simp [e,e']
  have near:∀(X Y:List Int),Qb fuel (Zz (((msk 64 (fun i=>!(o.take k).contains i):Nat):Int),(k:Int),X,gl n N) ((msk n (N o[k]):Nat):Int) ((o[k]:Nat):Int)) ((0:Int),gl n N)=some (gl n fun u w=>N u w || (setP (seqA A (o.take k)) o[k] u && (setP (seqA A (o.take k)) o[k] w && !decide (u=w)))):=fun X Y=>by
   have h:=Jq (n:=n) (k0:=0) (by omega) (by omega) (fun i (t:List Int)=>(i,t)) (body:=Zz (((msk 64 (fun i=>!(o.take k).contains i):Nat):Int),(k:Int),X,gl n N) ((msk n (N o[k]):Nat):Int) ((o[k]:Nat):Int))
    (fun j=>gl n fun u w=>N u w || (decide (u < j) && (setP (seqA A (o.take k)) o[k] u && (setP (seqA A (o.take k)) o[k] w && !decide (u=w))))) (gl n fun u w=>N u w || (setP (seqA A (o.take k)) o[k] u && (setP (seqA A (o.take k)) o[k] w && !decide (u=w))))
    (fun j _ hj=>by
     unfold Zz
     dsimp only
     rw [Zp,if_pos (dlt hj),if_pos (Zf j),hw,Qcp (by omega) (by omega),Ym j hj]
     by_cases c:setP (seqA A (o.take k)) o[k] j=true
     ·rw [c,if_pos (by decide),Qco hj,Option.bind_some,if_pos (Zf j),Qo0 (by omega) (by omega),Qt4 (n:=n) (by omega) (Zm n _) (Zm n _) Ym Ym,Qph]
      congr 3
      refine gl_congr fun u w hu hw=>?_
      simp only [upd]
      grind
     ·rw [Bool.not_eq_true] at c
      rw [c,if_neg (by decide)]
      congr 3
      refine gl_congr fun u w hu hw=>?_
      grind)
    (by
     unfold Zz
     dsimp only
     rw [Zp,if_neg (nlt n)]
     congr 2
     refine gl_congr fun u w hu hw=>?_
     simp [hu])
   have e0:(gl n fun u w=>N u w || (decide (u < 0) && (setP (seqA A (o.take k)) o[k] u && (setP (seqA A (o.take k)) o[k] w && !decide (u=w)))))=gl n N:=gl_congr fun u w _ _=>by simp
   simp only [e0] at h
   exact h
  have part:∀(Y:List Int),(((Zu (Qz n A (o.take k))).any (subB (msk n (setP (seqA A (o.take k)) o[k])))=true∧Qb fuel (Zk (((msk 64 (fun i=>!(o.take k).contains i):Nat):Int),(k:Int),nI (Zu (Qz n A (o.take k))),Y) ((msk n (N o[k]):Nat):Int) ((o[k]:Nat):Int)) 0=some (.inl ()))∨((Zu (Qz n A (o.take k))).any (subB (msk n (setP (seqA A (o.take k)) o[k])))=false∧Qb fuel (Zk (((msk 64 (fun i=>!(o.take k).contains i):Nat):Int),(k:Int),nI (Zu (Qz n A (o.take k))),Y) ((msk n (N o[k]):Nat):Int) ((o[k]:Nat):Int)) 0=some (.inr ()))):=fun Y=>by
   generalize Zu (Qz n A (o.take k))=acc at hacc hal
   have h:=V2 (n:=acc.length) (by omega) (fun j=>∀s,acc[j]?=some s→subB (msk n (setP (seqA A (o.take k)) o[k])) s=false) (fun i (t:Unit)=>i) (body:=Zk (((msk 64 (fun i=>!(o.take k).contains i):Nat):Int),(k:Int),nI acc,Y) ((msk n (N o[k]):Nat):Int) ((o[k]:Nat):Int)) (fun _=>()) (.inr ()) (.inl ())
    (fun j hj hI hg=>by
     have hsj:=hacc _ (List.getElem_mem hj)
     have:=hg _ (List.getElem?_eq_getElem hj)
     unfold Zk
     dsimp only
     rw [Qo,if_pos (dlt hj),Qbp hj,Option.bind_some,hw,if_neg (by rw [Qav (by omega) (by omega),this]; decide)])
    (fun j hj hI hg=>by
     have hsj:=hacc _ (List.getElem_mem hj)
     unfold Zk
     dsimp only
     rw [Qo,if_pos (dlt hj),Qbp hj,Option.bind_some,hw,if_pos (by
      rw [Qav (by omega) (by omega)]
      rw [←Bool.not_eq_false]
      exact fun h=>hg fun s hs=>by rw [List.getElem?_eq_getElem hj] at hs; cases hs; exact h)])
    (fun hI=>by unfold Zk; dsimp only; rw [Qo,if_neg (nlt _)])
   have hiff:(∀j,j < acc.length→∀s,acc[j]?=some s→subB (msk n (setP (seqA A (o.take k)) o[k])) s=false)↔acc.any (subB (msk n (setP (seqA A (o.take k)) o[k])))=false:=by
    rw [List.any_eq_false]
    constructor
    ·intro h s hs
     obtain ⟨j,hj,rfl⟩:=List.mem_iff_getElem.1 hs
     rw [h j hj _ (List.getElem?_eq_getElem hj)]; decide
    ·intro h j hj s hs
     have:=h s (List.mem_of_getElem? hs)
     simpa using this
   rw [hiff] at h
   rcases h with ⟨a,b⟩ | ⟨a,b⟩
   ·exact .inr ⟨a,b⟩
   ·exact .inl ⟨by simpa using a,b⟩
  unfold Xp
  dsimp only
  rw [Qo,if_pos (dlt hk),Qbp hk,Option.bind_some,Qco hv,Option.bind_some,if_pos (Zf _)]
  rcases part (gl n N) with ⟨a,b⟩ | ⟨a,b⟩
  ·rw [b,Option.bind_some]
   dsimp only
   rw [if_pos (Zf _),near _ [],Option.bind_some,eleft,et,Qgz]
   unfold Kc
   rw [if_pos a]
  ·rw [b,Option.bind_some]
   dsimp only
   rw [if_pos (by rw [List.length_append,Qo]; simp; omega),if_pos (Zf _),show @Qac=@Zz from rfl,near _ [],Option.bind_some,eleft,et,Qgz,hw]
   unfold Kc
   rw [if_neg (by rw [a]; decide)]
   congr 4
   unfold nI; simp
 have h:=Ju (n:=o.length) (k0:=0) (by omega) (by omega) (fun i (t:Int × List Int × List Int)=>(t.1,i,t.2.1,t.2.2)) (body:=Xp ⟨⟨gl n A⟩,nI o⟩)
  (fun k t=>∃N:Gr,t=(((msk 64 (fun i=>!(o.take k).contains i):Nat):Int),nI (Zu (Qz n A (o.take k))),gl n N)∧∀u w,u < n→w < n→u ∉ o.take k→w ∉ o.take k→N u w=seqA A (o.take k) u w) (fun r=>r=nI (Zu (Qz n A o)))
  (fun k t _ hk hI=>by
   obtain ⟨N,rfl,hN⟩:=hI
   left
   refine ⟨_,step k N hk hN,_,rfl,fun u w hu hw h3 h4=>?_⟩
   rw [Zb hk,List.mem_append,List.mem_singleton] at h3 h4
   rw [Zb hk,Qv1]
   exact Qvg (A:=A) (done:=fun x=>x∈o.take k) hN u w hu hw h3 h4)
  (fun t hI=>by
   obtain ⟨N,rfl,hN⟩:=hI
   refine ⟨_,?_,rfl⟩
   unfold Xp
   dsimp only
   rw [Qo,if_neg (nlt _),List.take_length]) (((msk 64 (fun i=>!(o.take 0).contains i):Nat):Int),nI (Zu (Qz n A (o.take 0))),gl n A) ⟨A,rfl,fun u w _ _ _ _=>rfl⟩
 obtain ⟨r,e1,rfl⟩:=h
 have e0:((msk 64 (fun i=>!(o.take 0).contains i):Nat):Int)=18446744073709551615:=by
  rw [Y2 (q:=fun _=>true) fun i _=>by simp,Qsb]; decide
 simp only [e0] at e1
 rw [show ((0:Nat):Int)=0 from rfl] at e1
 unfold Vi
 dsimp only
 rw [Q0h (by rw [Zp]; omega),Option.bind_some]
 rw [show nI (Zu (Qz n A (o.take 0)))=[] from rfl] at e1
 rw [e1]; rfl
end Go.Ab
namespace Go.Ab
open Go
set_option maxRecDepth 100000
set_option maxHeartbeats 400000
theorem Qt9 {a b c:Nat} (h:subB a b=true) (k:subB b c=true):subB a c=true:=X1.2 ((X1.1 h).trans (X1.1 k))
theorem Qwc {a:Nat}:subB a a=true:=X1.2 .refl
theorem Qg7 {l:List Nat}:∀k,k≤l.length→∀s∈l.take k,∃e∈Zu (l.take k),subB s e=true:=by
 intro k
 induction k with
 | zero=>intro _ s h; simp at h
 | succ k ih =>
  intro hk s hs
  rw [Zb (by omega)] at hs ⊢
  rw [Qgz]
  have up:∀e∈Zu (l.take k),e∈Kc (Zu (l.take k)) l[k]:=fun e he=>by
   unfold Kc; split
   ·exact he
   ·exact List.mem_append_left _ he
  rcases List.mem_append.1 hs with h | h
  ·obtain ⟨e,h1,h2⟩:=ih (by omega) s h
   exact ⟨e,up e h1,h2⟩
  ·simp only [List.mem_singleton] at h
   subst h
   unfold Kc
   by_cases c:(Zu (l.take k)).any (subB l[k])=true
   ·rw [if_pos c]
    obtain ⟨e,h1,h2⟩:=List.any_eq_true.1 c
    exact ⟨e,h1,h2⟩
   ·rw [if_neg c]
    exact ⟨l[k],by simp,Qwc⟩
end Go.Ab
namespace Go.Ab
open Go
set_option maxRecDepth 100000
set_option maxHeartbeats 400000
theorem Qnb {α:Type} {j:Nat}:∀(m l:List α) (i:Nat),(ovr l i m)[j]?=if i≤j∧j < i+m.length∧j < l.length then m[j - i]? else l[j]?
 | [],l,i=>by
  simp only [ovr,List.length_nil]
  rw [if_neg (by omega)]
 | y::ys,l,i=>by
  simp only [ovr,List.length_cons]
  rw [Qnb ys (l.set i y) (i+1),List.length_set]
  by_cases c:i+1≤j∧j < i+1+ys.length∧j < l.length
  ·rw [if_pos c,if_pos (by omega),show j - i=(j - (i+1))+1 by omega,List.getElem?_cons_succ]
  ·rw [if_neg c]
   by_cases e:i=j
   ·subst e
    rw [List.getElem?_set]
    simp only [if_true]
    by_cases c2:i < l.length
    ·rw [if_pos c2,if_pos (by omega),Nat.sub_self]; rfl
    ·rw [if_neg c2,if_neg (by omega),List.getElem?_eq_none (by omega)]
   ·rw [List.getElem?_set,if_neg e,if_neg (by omega)]
theorem Q1d {α:Type} {l:List α} {i:Nat} {z:α} (hi:i < l.length):List.take (i+(l.drop (i+1)).length) (ovr (ovr l i (l.drop (i+1))) (i+(l.drop (i+1)).length) (List.replicate (l.length - (i+(l.drop (i+1)).length)) z))=l.eraseIdx i:=by
 have hm:(l.drop (i+1)).length=l.length - (i+1):=List.length_drop
 apply List.ext_getElem?
 intro j
 rw [List.getElem?_take,Qnb,Qnb,List.getElem?_eraseIdx,hm,List.length_replicate,←V1]
 by_cases c:j < i
 ·rw [if_pos (by omega),if_neg (by omega),if_neg (by omega),if_pos c]
 ·by_cases c2:j < i+(l.length - (i+1))
  ·rw [if_pos c2,if_neg (by omega),if_pos (by omega),if_neg c,List.getElem?_drop,show i+1+(j - i)=j+1 by omega]
  ·rw [if_neg c2,if_neg c,List.getElem?_eq_none (by omega)]
def pc (n a:Nat):Nat := cnt n a.testBit
theorem Qud {n a:Nat} (hn:n≤10) (ha:a < 2^n):Zd (a:Int)=some (pc n a:Int):=by
 have:a=msk n a.testBit:=V7 ha fun _ _=>rfl
 conv=>lhs; rw [this]
 exact Qw5 hn _
theorem Qlq {a b:Nat} (ha:a < 18446744073709551616) (hb:b < 18446744073709551616):zv (zb (a:Int) &&& zb (b:Int)).toNat = ((a &&& b:Nat):Int):=by
 have hl:a &&& b≤a:=Nat.and_le_left
 rw [BitVec.toNat_and,Vs ha,Vs hb,Jm (by omega)]
theorem Qwh {n a b:Nat} (ha:a < 2^n):a &&& b < 2^n:=Nat.lt_of_le_of_lt Nat.and_le_left ha
def com (n:Nat) (cl:List Nat) (s:Nat):Nat := cl.foldl (fun m c=>max m (pc n (c &&& s))) 0
theorem Qky {n:Nat} {cl:List Nat} {c s:Nat}:com n (cl++[c]) s=max (com n cl s) (pc n (c &&& s)):=by unfold com; rw [List.foldl_append]; rfl
theorem Qzw {n:Nat} {cl:List Nat} {s:Nat} (hn:n≤8) (hc:∀c∈cl,c < 2^n) (hs:s < 2^n) (hl:cl.length≤1000):Qcj (nI cl) (s:Int)=some (com n cl s:Int):=by
 have p8:(2:Nat)^n≤256:=Nat.pow_le_pow_right (n:=2) (by omega) hn
 have h:=Jq (n:=cl.length) (k0:=0) (by omega) (by omega) (fun i (t:Int)=>(t,i)) (body:=K2 (nI cl) (s:Int)) (fun k=>(com n (cl.take k) s:Int)) (com n cl s:Int)
  (fun k _ hk=>by
   have h1:=hc _ (List.getElem_mem hk)
   unfold K2
   dsimp only
   rw [Qo,if_pos (dlt hk),Qbp hk,Option.bind_some,Qlq (by omega) (by omega),Qud (by omega) (Qwh h1),Option.bind_some,Qxu,Zb hk,Qky])
  (by unfold K2; dsimp only; rw [Qo,if_neg (nlt _),List.take_length])
 unfold Qcj
 rw [show ((0:Nat):Int)=0 from rfl,List.take_zero] at h
 rw [show (com n [] s:Int)=0 from rfl] at h
 rw [h]; rfl
theorem Q17 {n:Nat} {s:Nat} {cl:List Nat} (hc:0 < cl.length):∃k,∃hk:k < cl.length,pc n (cl[k] &&& s)=com n cl s:=by
 have key:∀j,j < cl.length→∃k,∃hk:k < cl.length,k≤j∧pc n (cl[k] &&& s)=com n (cl.take (j+1)) s:=by
  intro j
  induction j with
  | zero =>
   intro hj
   refine ⟨0,hj,Nat.le_refl _,?_⟩
   rw [Zb hj,Qky,List.take_zero]
   show _=max 0 _
   omega
  | succ j ih =>
   intro hj
   obtain ⟨k,hk,hkj,e⟩:=ih (by omega)
   rw [Zb hj,Qky,←e]
   by_cases c:pc n (cl[k] &&& s)≤pc n (cl[j+1] &&& s)
   ·exact ⟨j+1,hj,Nat.le_refl _,by omega⟩
   ·exact ⟨k,hk,by omega,by omega⟩
 obtain ⟨k,hk,_,e⟩:=key (cl.length - 1) (by omega)
 rw [show cl.length - 1+1=cl.length by omega,List.take_length] at e
 exact ⟨k,hk,e⟩
def Vk (n:Nat) (cl left:List Nat):Nat → Nat × Int
 | 0=>(0,-1)
 | k+1=>if (Vk n cl left k).2≤(com n cl (left.getD k 0):Int) then (k,(com n cl (left.getD k 0):Int)) else Vk n cl left k
def pickI (n:Nat) (cl left:List Nat):Nat := (Vk n cl left left.length).1
theorem Qld {n:Nat} {cl left:List Nat}:∀k,(Vk n cl left k).1 < k+1∧(0 < k→(Vk n cl left k).1 < k∧(Vk n cl left k).2=(com n cl (left.getD (Vk n cl left k).1 0):Int))
 | 0=>⟨by simp [Vk],fun h=>by omega⟩
 | k+1=>by
  obtain ⟨h1,h2⟩:=Qld (n:=n) (cl:=cl) (left:=left) k
  simp only [Vk]
  split
  ·exact ⟨by simp only; omega,fun _=>⟨by simp only; omega,rfl⟩⟩
  ·rename_i hc
   refine ⟨by omega,fun _=>⟨by omega,?_⟩⟩
   by_cases e:k=0
   ·subst e
    exfalso
    apply hc
    simp only [Vk]; omega
   ·exact (h2 (by omega)).2
def upI (n:Nat) (cl:List Nat) (s:Nat):Nat := cl.findIdx fun c=>Nat.beq (pc n (c &&& s)) (com n cl s)
def bld (n:Nat):Nat → List Nat → List Nat → List Nat → List Nat × List Nat
 | 0,_,cl,up=>(cl,up)
 | k+1,left,cl,up=>bld n k (left.eraseIdx (pickI n cl left)) (cl++[left.getD (pickI n cl left) 0]) (up++[upI n cl (left.getD (pickI n cl left) 0)])
theorem Q1a {n:Nat} {cl:List Nat} {s:Nat} (hc:0 < cl.length):upI n cl s < cl.length:=by
 obtain ⟨k,hk,e⟩:=Q17 (n:=n) (s:=s) hc
 unfold upI
 rw [List.findIdx_lt_length]
 exact ⟨_,List.getElem_mem hk,by rw [e]; simp⟩
theorem Qz6 {n:Nat} {cl:List Nat} {s:Nat} {x:Int × Int} {X Y:List Int} (hn:n≤8) (hc:∀c∈cl,c < 2^n) (hs:s < 2^n) (hl:cl.length≤1000) (h0:0 < cl.length) (hx:x.2=(com n cl s:Int)) :
  Qb fuel (V9 (X,nI cl,Y) (s:Int) x) 0=some (.inl (upI n cl s:Int)):=by
 have p8:(2:Nat)^n≤256:=Nat.pow_le_pow_right (n:=2) (by omega) hn
 have hu:=Q1a (n:=n) (s:=s) h0
 have hstep:∀k (hk:k < cl.length),V9 (X,nI cl,Y) (s:Int) x (k:Int)=some (if Nat.beq (pc n (cl[k] &&& s)) (com n cl s)=true then .done (.inl (k:Int)) else .next (zw ((k:Int)+1))):=fun k hk=>by
  have h1:=hc _ (List.getElem_mem hk)
  unfold V9
  dsimp only
  rw [Qo,if_pos (dlt hk),Qbp hk,Option.bind_some,Qlq (by omega) (by omega),Qud (by omega) (Qwh h1),Option.bind_some,hx]
  by_cases c:pc n (cl[k] &&& s)=com n cl s
  ·rw [if_pos (by simp [c]),if_pos (by simp [c])]
  ·rw [if_neg (by simp; omega),if_neg (by simpa using c)]
 have h:=Ju (n:=upI n cl s+1) (k0:=0) (by omega) (by omega) (fun i (_:Unit)=>i) (body:=V9 (X,nI cl,Y) (s:Int) x) (fun k _=>k≤upI n cl s) (fun r=>r=.inl (upI n cl s:Int))
  (fun k _ _ hk _=>by
   by_cases e:k=upI n cl s
   ·right
    refine ⟨.inl (k:Int),?_,by rw [e]⟩
    rw [hstep k (by omega),if_pos (by
     have:=List.findIdx_getElem (w:=hu)
     unfold upI at e
     subst e; exact this)]
   ·left
    refine ⟨(),?_,by omega⟩
    rw [hstep k (by omega),if_neg (by
     have:=List.not_of_lt_findIdx (show k < cl.findIdx (fun c=>Nat.beq (pc n (c &&& s)) (com n cl s)) by unfold upI at hk e; omega)
     intro h
     rw [h] at this; cases this)])
  (fun _ hI=>by omega) () (by omega)
 obtain ⟨r,e1,rfl⟩:=h
 exact e1
theorem Qwg {n:Nat} {cl left:List Nat} {Y:List Int} (hn:n≤8) (hc:∀c∈cl,c < 2^n) (hs:∀s∈left,s < 2^n) (hl:cl.length≤1000) (hl2:left.length≤1000) :
  Qb fuel (V4 (nI left,nI cl,Y)) ((0:Int),(0:Int),(-1:Int))=some (((pickI n cl left:Nat):Int),(Vk n cl left left.length).2):=by
 have h:=Jq (n:=left.length) (k0:=0) (by omega) (by omega) (fun i (t:Int × Int)=>(t.1,i,t.2)) (body:=V4 (nI left,nI cl,Y)) (fun k=>(((Vk n cl left k).1:Int),(Vk n cl left k).2)) (((pickI n cl left:Nat):Int),(Vk n cl left left.length).2)
  (fun k _ hk=>by
   have h1:=hs _ (List.getElem_mem hk)
   have e:left.getD k 0=left[k]:=by simp [List.getD,hk]
   unfold V4
   dsimp only
   rw [Qo,if_pos (dlt hk),Qbp hk,Option.bind_some,Qzw hn hc h1 hl,Option.bind_some]
   simp only [Vk,e]
   by_cases c:(Vk n cl left k).2≤(com n cl left[k]:Int)
   ·rw [if_pos (by simpa using c),if_pos c]
   ·rw [if_neg (by simpa using c),if_neg c])
  (by unfold V4; dsimp only; rw [Qo,if_neg (nlt _)]; rfl)
 exact h
theorem Qv3 {a b:List Nat}:nI a++nI b=nI (a++b):=by unfold nI; rw [List.map_append]
theorem Qy4 {l:List Nat} {i:Nat}:(nI l).eraseIdx i=nI (l.eraseIdx i):=by unfold nI; rw [List.eraseIdx_eq_take_drop_succ,List.eraseIdx_eq_take_drop_succ,List.map_append,List.map_take,List.map_drop]
theorem Ql7 {n:Nat} (hn:n≤8):∀(k N:Nat) (left cl up:List Nat),left.length=k→k < N→(∀c∈cl,c < 2^n)→(∀s∈left,s < 2^n)→0 < cl.length→cl.length+k≤500→up.length≤cl.length →
  Qb N Y9 (nI left,nI cl,(-1:Int)::nI up)=some (nI (bld n k left cl up).1,(-1:Int)::nI (bld n k left cl up).2)
 | 0,N,left,cl,up,hk,hN,hc,hs,h0,hl,hu=>by
  obtain ⟨N,rfl⟩:∃M,N=M+1:=⟨N - 1,by omega⟩
  have hb:Y9 (nI left,nI cl,(-1:Int)::nI up)=some (.done (nI cl,(-1:Int)::nI up)):=by
   unfold Y9
   dsimp only
   rw [Qo,hk,if_neg (by decide)]
  simp only [Qb,hb,bld]
 | k+1,N,left,cl,up,hk,hN,hc,hs,h0,hl,hu=>by
  obtain ⟨N,rfl⟩:∃M,N=M+1:=⟨N - 1,by omega⟩
  obtain ⟨_,hp⟩:=Qld (n:=n) (cl:=cl) (left:=left) left.length
  obtain ⟨hp1,hp2⟩:=hp (by omega)
  have hi:pickI n cl left < left.length:=hp1
  have ei:left.getD (pickI n cl left) 0=left[pickI n cl left]:=by simp [List.getD,hi]
  have hsi:=hs _ (List.getElem_mem hi)
  have hne:¬ (((pickI n cl left:Nat):Int)==((pickI n cl left+1:Nat):Int))=true:=by simp; omega
  have hsub:sub (nI left) ((pickI n cl left+1:Nat):Int) (left.length:Int)=(nI left).drop (pickI n cl left+1):=by
   unfold sub
   rw [Int.toNat_natCast,Int.toNat_natCast,List.take_of_length_le (by rw [List.length_drop,Qo]; omega)]
  have hdl:((nI left).drop (pickI n cl left+1)).length=left.length - (pickI n cl left+1):=by rw [List.length_drop,Qo]
  have hdel:=Q1d (l:=nI left) (i:=pickI n cl left) (z:=(0:Int)) (by rw [Qo]; exact hi)
  rw [Qo] at hdel
  have hb:Y9 (nI left,nI cl,(-1:Int)::nI up)=some (.next (nI (left.eraseIdx (pickI n cl left)),nI (cl++[left.getD (pickI n cl left) 0]),(-1:Int)::nI (up++[upI n cl (left.getD (pickI n cl left) 0)]))):=by
   unfold Y9
   dsimp only
   rw [Qo,if_pos (by simp; omega),Qwg hn hc hs (by omega) (by omega),Option.bind_some]
   dsimp only
   rw [Qbp hi,Option.bind_some,Qz6 hn hc hsi (by omega) h0 (by rw [←ei]; exact hp2),Option.bind_some]
   dsimp only
   rw [if_pos (by rw [List.length_append,Qo]; simp; omega),if_pos (by rw [List.length_append,List.length_cons,Qo]; simp; omega),Qqu (by omega),if_pos (by omega),if_neg hne,if_pos (by omega),if_pos (by omega)]
   simp only [Int.toNat_natCast,Int.toNat_zero,Nat.sub_zero,hsub,hdl]
   rw [if_pos (by omega),if_pos (by rw [←V1,Qo]; omega),if_pos (by rw [←V1,Qo]; omega)]
   rw [hdl] at hdel
   rw [hdel,Qy4,ei]
   congr 3
   all_goals (unfold nI; simp)
  have ih:=Ql7 hn k N (left.eraseIdx (pickI n cl left)) (cl++[left.getD (pickI n cl left) 0]) (up++[upI n cl (left.getD (pickI n cl left) 0)]) (by rw [List.length_eraseIdx,if_pos hi]; omega) (by omega)
   (fun c h=>by
    rcases List.mem_append.1 h with h | h
    ·exact hc c h
    ·simp only [List.mem_singleton] at h; rw [h,ei]; exact hsi) (fun s h=>hs s (List.mem_of_mem_eraseIdx h)) (by simp) (by simp; omega) (by simp; omega)
  simp only [Qb,hb,bld]
  exact ih
end Go.Ab
namespace Go.Ab
open Go
set_option maxRecDepth 100000
set_option maxHeartbeats 400000
theorem Qxt (p0:Qg):Zt p0=(Jx p0).bind fun x=>if x.2=0 then (Qb fuel (Xu x.1.sets) (0,x.1.sets)).bind fun y=>some (y,0) else some ([],50):=by
 unfold Zt Jx
 have e0:@Qap=@Xz:=rfl
 have e2:@Qak=@Xx:=rfl
 rw [e0,e2]
 have h50:¬ ((50:Int)=0):=by decide
 by_cases c1:decide (p0.Grain < 1)=true
 ·rw [if_pos c1,if_pos c1]; rfl
 rw [if_neg c1,if_neg c1]
 by_cases c2:decide (p0.Grain > 60)=true
 ·rw [if_pos c2,if_pos c2]; rfl
 rw [if_neg c2,if_neg c2]
 by_cases c3:decide ((p0.Nodes.length:Int) < 1)=true
 ·rw [if_pos c3,if_pos c3]; rfl
 rw [if_neg c3,if_neg c3]
 by_cases c4:decide ((p0.Nodes.length:Int) > 8)=true
 ·rw [if_pos c4,if_pos c4]; rfl
 rw [if_neg c4,if_neg c4]
 by_cases c5:0≤(p0.Nodes.length:Int)∧(p0.Nodes.length:Int)≤(p0.Nodes.length:Int)∧(p0.Nodes.length:Int)*8≤140737488355328
 ·rw [if_pos c5,if_pos c5,if_pos c5,if_pos c5]
  cases Qb fuel (Xz p0) (1,0,List.replicate (Int.toNat (p0.Nodes.length:Int)) (0:Int)) with
  | none=>rfl
  | some x =>
   cases x with
   | inl u=>rfl
   | inr x23 =>
    simp only [Option.bind_some]
    by_cases c6:decide (x23.1 > 1024)=true
    ·rw [if_pos c6,if_pos c6]; rfl
    rw [if_neg c6,if_neg c6]
    cases Qb fuel (Xx p0 x23) (0,List.replicate (Int.toNat (p0.Nodes.length:Int)) (0:Int)) with
    | none=>rfl
    | some y =>
     cases y with
     | inl u=>rfl
     | inr x54 =>
      simp only [Option.bind_some]
      cases Xv x54 with
      | none=>rfl
      | some z =>
       simp only [Option.bind_some]
       by_cases c7:(!z.2)=true
       ·rw [if_pos c7,if_pos c7]; rfl
       ·rw [if_neg c7,if_neg c7]; rfl
 ·rw [if_neg c5,if_neg c5]; rfl
theorem Qkx {n:Nat} {g:Int} {F:Nat → Tapi_Node} (hb:NB n F) (hbig:n≤1000000) :
  (Jo n g F∧Zt ⟨g,Qd n F⟩=some (gl n (FG (Qf F)),0))∨(¬ Jo n g F∧Zt ⟨g,Qd n F⟩=some ([],50)):=by
 rw [Qxt]
 rcases Qog (g:=g) hb hbig with ⟨hf,o,e⟩ | ⟨hf,e⟩
 ·left
  refine ⟨hf,?_⟩
  have hn:=hf.n8
  have hpar:=fun v hv=>(K7 (hf.node v hv).1.1).2.2
  rw [e,Option.bind_some]
  dsimp only
  rw [if_pos rfl,Qsu hn hpar]
  have h:=Jq (n:=n) (k0:=0) (by omega) (by omega) (fun i (t:List Int)=>(i,t)) (body:=Xu (gl n (PG (Qf F)))) (fun k=>gl n fun u w=>if u < k then FG (Qf F) u w else PG (Qf F) u w) (gl n (FG (Qf F)))
   (fun k _ hk=>by
    unfold Xu
    dsimp only
    rw [Zp,if_pos (dlt hk),Qco hk,Option.bind_some,if_pos (Zf k),Qkc (by omega) hk,Qph]
    congr 3
    refine gl_congr fun u w hu hw=>?_
    simp only [upd]
    by_cases c:u=k
    ·subst c
     rw [if_pos rfl,if_neg (by omega),if_pos (by omega)]
     unfold FG PG; rw [Bool.or_comm]
    ·rw [if_neg c]
     by_cases c2:u < k
     ·rw [if_pos c2,if_pos (by omega)]
     ·rw [if_neg c2,if_neg (by omega)])
   (by
    unfold Xu
    dsimp only
    rw [Zp,if_neg (nlt n)]
    congr 2
    exact gl_congr fun u w hu hw=>by rw [if_pos hu])
  have e0:(gl n fun u w=>if u < 0 then FG (Qf F) u w else PG (Qf F) u w)=gl n (PG (Qf F)):=gl_congr fun u w _ _=>if_neg (by omega)
  simp only [e0] at h
  rw [show ((0:Nat):Int)=0 from rfl] at h
  rw [h]; rfl
 ·right
  refine ⟨hf,?_⟩
  rw [e]; rfl
theorem Qmn {n:Nat} {g:Int} {F:Nat → Tapi_Node} (hb:NB n F) (hf:Jo n g F):Qan ⟨g,Qd n F⟩=some (gl n (mg n (Qf F)),0):=by
 have hn:=hf.n8
 have hpar:=fun v hv=>(K7 (hf.node v hv).1.1).2.2
 rcases Qog (g:=g) hb (by omega) with ⟨_,o,e⟩ | ⟨no,_⟩
 ·unfold Qan
  rw [e,Option.bind_some,if_neg (by simp)]
  dsimp only
  rw [Qsu hn hpar,Qyt hf.n1 hn]; rfl
 ·exact absurd hf no
theorem Qn5 {n:Nat}:∀(o:List Nat) (A:Gr) (K:Nat → Bool),(∃i,i < n∧K i=true)→(∀i,K i=true→i∈o)→(∀a b,K a=true→K b=true→a≠b→A a b=true)→∃s∈Qz n A o,subB (msk n K) s=true
 | [],A,K,⟨i,_,hi⟩,ho,_=>by have:=ho i hi; cases this
 | v::o,A,K,hne,ho,hK=>by
  simp only [Qz]
  by_cases c:K v=true
  ·refine ⟨_,List.mem_cons_self ..,X1.2 fun j hj=>?_⟩
   rw [Q8] at hj ⊢
   simp only [Bool.and_eq_true,decide_eq_true_eq] at hj ⊢
   refine ⟨hj.1,?_⟩
   unfold setP
   by_cases e:v=j
   ·simp [e]
   ·rw [hK v j c hj.2 e]; rfl
  ·obtain ⟨s,h1,h2⟩:=Qn5 o (elim A v) K hne (fun i hi=>by
    have:=ho i hi
    rcases List.mem_cons.1 this with e | e
    ·subst e; exact absurd hi c
    ·exact e) fun a b ha hb hne=>by
    have e1:¬ a=v:=fun e=>by subst e; exact c ha
    have e2:¬ b=v:=fun e=>by subst e; exact c hb
    unfold elim
    simp [hK a b ha hb hne,e1,e2]
   exact ⟨s,List.mem_cons_of_mem _ h1,h2⟩
theorem Qsh {n:Nat}:∀(k:Nat) (left cl up:List Nat),left.length=k→(∀s,(s∈cl∨s∈left)↔s∈(bld n k left cl up).1)∧(bld n k left cl up).1.length=cl.length+k∧(bld n k left cl up).2.length=up.length+k
 | 0,left,cl,up,hk=>by
  have:left=[]:=List.length_eq_zero_iff.1 hk
  subst this
  simp [bld]
 | k+1,left,cl,up,hk=>by
  obtain ⟨_,hp⟩:=Qld (n:=n) (cl:=cl) (left:=left) left.length
  have hi:pickI n cl left < left.length:=(hp (by omega)).1
  have ei:left.getD (pickI n cl left) 0=left[pickI n cl left]:=by simp [List.getD,hi]
  obtain ⟨h1,h2,h3⟩:=Qsh k (left.eraseIdx (pickI n cl left)) (cl++[left.getD (pickI n cl left) 0]) (up++[upI n cl (left.getD (pickI n cl left) 0)]) (by rw [List.length_eraseIdx,if_pos hi]; omega)
  simp only [bld]
  refine ⟨fun s=>?_,by rw [h2]; simp; omega,by rw [h3]; simp; omega⟩
  rw [←h1 s,ei,List.mem_append,List.mem_singleton]
  have hm:s∈left↔s=left[pickI n cl left]∨s∈left.eraseIdx (pickI n cl left):=by
   constructor
   ·intro h
    obtain ⟨j,hj,rfl⟩:=List.mem_iff_getElem.1 h
    by_cases e:j=pickI n cl left
    ·subst e; exact .inl rfl
    ·exact .inr (List.mem_eraseIdx_iff_getElem.2 ⟨j,hj,e,rfl⟩)
   ·rintro (h | h)
    ·rw [h]; exact List.getElem_mem hi
    ·exact List.mem_of_mem_eraseIdx h
  rw [hm]
  constructor
  ·rintro (h | h | h)
   ·exact .inl (.inl h)
   ·exact .inl (.inr h)
   ·exact .inr h
  ·rintro ((h | h) | h)
   ·exact .inl h
   ·exact .inr (.inl h)
   ·exact .inr (.inr h)
def mkK (n:Nat) (A:Gr) (o:List Nat):List Nat := Zu (Qz n A o)
def mkB (n:Nat) (A:Gr) (o:List Nat):List Nat × List Nat := bld n ((mkK n A o).length - 1) ((mkK n A o).take ((mkK n A o).length - 1)) [(mkK n A o).getD ((mkK n A o).length - 1) 0] []
def homeI (cl:List Nat) (f:Nat):Nat := cl.findIdx (subB f)
def mkT (n:Nat) (q:Nat → List Nat) (o:List Nat):Tapi_Tree:=⟨nI (mkB n (mg n q) o).1,-1::nI (mkB n (mg n q) o).2,nI ((List.range n).map fun v=>homeI (mkB n (mg n q) o).1 (msk n (FG q v)))⟩
theorem Qnq {n:Nat} {A:Gr} {o:List Nat} (ho:0 < o.length):0 < (mkK n A o).length:=by
 have h1:0 < (Qz n A o).length:=by rw [Qen]; exact ho
 obtain ⟨e,he,_⟩:=Qg7 (l:=Qz n A o) _ (Nat.le_refl _) ((Qz n A o)[0]) (by rw [List.take_length]; exact List.getElem_mem h1)
 rw [List.take_length] at he
 exact List.length_pos_of_mem he
theorem Q18 {n:Nat} {A:Gr} {o:List Nat}:∀s∈mkK n A o,s < 2^n:=fun s h=>Qd2 _ _ s (Qfg h)
theorem Qvx {n:Nat} {A:Gr} {o:List Nat}:(mkK n A o).length≤o.length:=by have:=Qoa (l:=Qz n A o); rwa [Qen] at this
theorem Qus {l:List Nat} (h:0 < l.length):∀s,(s∈[l.getD (l.length - 1) 0]∨s∈l.take (l.length - 1))↔s∈l:=fun s=>by
 have e:l=l.take (l.length - 1)++[l.getD (l.length - 1) 0]:=by
  have h1:l.length - 1 < l.length:=by omega
  have:=Zb (l:=l) h1
  rw [show l.length - 1+1=l.length by omega,List.take_length] at this
  have e2:l.getD (l.length - 1) 0=l[l.length - 1]:=by simp [List.getD,h1]
  rw [e2]; exact this
 conv=>rhs; rw [e,List.mem_append]
 exact Or.comm
theorem Qd5 {n:Nat} {A:Gr} {o:List Nat} (ho:0 < o.length):(∀s,s∈mkK n A o↔s∈(mkB n A o).1)∧(mkB n A o).1.length=(mkK n A o).length∧(mkB n A o).2.length=(mkK n A o).length - 1:=by
 have hp:=Qnq (n:=n) (A:=A) ho
 obtain ⟨h1,h2,h3⟩:=Qsh (n:=n) ((mkK n A o).length - 1) ((mkK n A o).take ((mkK n A o).length - 1)) [(mkK n A o).getD ((mkK n A o).length - 1) 0] [] (by rw [List.length_take]; omega)
 refine ⟨fun s=>?_,?_,?_⟩
 ·rw [←Qus hp s]; exact h1 s
 ·unfold mkB; rw [h2]; simp; omega
 ·unfold mkB; rw [h3]; simp
theorem Qwt {n:Nat} {q:Nat → List Nat} {o:List Nat} {v:Nat} (ho:Ord n o) (hv:v < n) (hq:∀p∈q v,p < n):∃c∈(mkB n (mg n q) o).1,subB (msk n (FG q v)) c=true:=by
 have hall:∀i,i < n→i∈o:=fun i hi=>Qaw ho.nodup ho.lt ho.len i hi
 have hin:∀i,FG q v i=true→i < n:=fun i hi=>by
  unfold FG at hi
  simp only [Bool.or_eq_true,decide_eq_true_eq] at hi
  rcases hi with h | h
  ·omega
  ·exact hq i h
 obtain ⟨s,h1,h2⟩:=Qn5 o (mg n q) (FG q v) ⟨v,hv,by unfold FG; simp⟩ (fun i hi=>hall i (hin i hi)) fun a b ha hb hne=>by
  unfold mg mgk
  simp only [hin a ha,hin b hb,decide_true,Bool.true_and,Bool.and_eq_true,Bool.not_eq_true',decide_eq_false_iff_not,List.any_eq_true]
  exact ⟨hne,v,List.mem_range.2 hv,ha,hb⟩
 obtain ⟨e,h3,h4⟩:=Qg7 (l:=Qz n (mg n q) o) _ (Nat.le_refl _) s (by rw [List.take_length]; exact h1)
 rw [List.take_length] at h3
 exact ⟨e,((Qd5 (n:=n) (A:=mg n q) (by rw [ho.len]; omega)).1 e).1 h3,Qt9 h2 h4⟩
theorem Qsv {cl:List Nat} {f:Nat} (h:∃c∈cl,subB f c=true):homeI cl f < cl.length:=by
 unfold homeI; rw [List.findIdx_lt_length]; exact h
theorem Qx4 {cl:List Nat} {f:Nat} (hc:∀c∈cl,c < 18446744073709551616) (hf:f < 18446744073709551616) (hl:cl.length≤1000) (h:∃c∈cl,subB f c=true):Vl (nI cl) (f:Int)=some (homeI cl f:Int):=by
 have hu:=Qsv h
 have hstep:∀k (hk:k < cl.length),Yo (nI cl) (f:Int) (k:Int)=some (if subB f cl[k]=true then .done (.inl (k:Int)) else .next (zw ((k:Int)+1))):=fun k hk=>by
  unfold Yo
  rw [Qo,if_pos (dlt hk),Qbp hk,Option.bind_some]
  have hw:=Qav hf (hc _ (List.getElem_mem hk))
  by_cases c:subB f cl[k]=true
  ·rw [if_pos (hw.2 c),if_pos c]
  ·rw [if_neg fun hh=>c (hw.1 hh),if_neg c]
 have hr:=Ju (n:=homeI cl f+1) (k0:=0) (by omega) (by omega) (fun i (_:Unit)=>i) (body:=Yo (nI cl) (f:Int)) (fun k _=>k≤homeI cl f) (fun r=>r=.inl (homeI cl f:Int))
  (fun k _ _ hk _=>by
   by_cases e:k=homeI cl f
   ·right
    refine ⟨.inl (k:Int),?_,by rw [e]⟩
    rw [hstep k (by omega),if_pos (by
     have:=List.findIdx_getElem (w:=hu)
     unfold homeI at e
     subst e; exact this)]
   ·left
    refine ⟨(),?_,by omega⟩
    rw [hstep k (by omega),if_neg (by
     have:=List.not_of_lt_findIdx (show k < cl.findIdx (subB f) by unfold homeI at hk e; omega)
     intro h
     rw [h] at this; cases this)])
  (fun _ hI=>by omega) () (by omega)
 obtain ⟨r,e1,rfl⟩:=hr
 rw [show ((0:Nat):Int)=0 from rfl] at e1
 unfold Vl
 rw [e1]; rfl
theorem Qqs {n:Nat} {g:Int} {F:Nat → Tapi_Node} {o:List Nat} (hb:NB n F) (hf:Jo n g F) (ho:Ord n o):Kp ⟨g,Qd n F⟩ (gl n (FG (Qf F))) (nI o)=some (mkT n (Qf F) o,0):=by
 have hn:=hf.n8
 have h1:=hf.n1
 have hpar:=fun v hv=>(K7 (hf.node v hv).1.1).2.2
 have p8:(2:Nat)^n≤256:=Nat.pow_le_pow_right (n:=2) (by omega) hn
 have hop:0 < o.length:=by rw [ho.len]; omega
 have hp:=Qnq (n:=n) (A:=mg n (Qf F)) hop
 have hle:=Qvx (n:=n) (A:=mg n (Qf F)) (o:=o)
 rw [ho.len] at hle
 obtain ⟨m1,m2,m3⟩:=Qd5 (n:=n) (A:=mg n (Qf F)) hop
 unfold Kp
 rw [Qmn hb hf,Option.bind_some,if_neg (by simp),Que h1 hn Qcc ho.lt ho.nodup,Option.bind_some]
 rw [show Zu (Qz n (mg n (Qf F)) o)=mkK n (mg n (Qf F)) o from rfl,Qo,w64 (n:=((mkK n (mg n (Qf F)) o).length:Int) - 1) (by omega),show ((mkK n (mg n (Qf F)) o).length:Int) - 1=(((mkK n (mg n (Qf F)) o).length - 1:Nat):Int) by omega,Qbp (by omega),Option.bind_some,if_pos (by omega),Int.toNat_natCast]
 have hlt:∀s∈mkK n (mg n (Qf F)) o,s < 2^n:=Q18
 have eg:(mkK n (mg n (Qf F)) o).getD ((mkK n (mg n (Qf F)) o).length - 1) 0=(mkK n (mg n (Qf F)) o)[(mkK n (mg n (Qf F)) o).length - 1]:=by
  rw [List.getD_eq_getElem?_getD,List.getElem?_eq_getElem (by omega)]; rfl
 have hbl:=Ql7 hn ((mkK n (mg n (Qf F)) o).length - 1) fuel ((mkK n (mg n (Qf F)) o).take ((mkK n (mg n (Qf F)) o).length - 1)) [(mkK n (mg n (Qf F)) o).getD ((mkK n (mg n (Qf F)) o).length - 1) 0] [] (by rw [List.length_take]; omega) (by show _ < 1152921504606846976; omega)
  (fun c hc=>by simp only [List.mem_singleton] at hc; rw [hc,eg]; exact hlt _ (List.getElem_mem _)) (fun s hs=>hlt s (List.mem_of_mem_take hs)) (by simp) (by simp; omega) (by simp)
 have et:List.take ((mkK n (mg n (Qf F)) o).length - 1) (nI (mkK n (mg n (Qf F)) o))=nI ((mkK n (mg n (Qf F)) o).take ((mkK n (mg n (Qf F)) o).length - 1)):=by unfold nI; rw [List.map_take]
 rw [show nI [(mkK n (mg n (Qf F)) o).getD ((mkK n (mg n (Qf F)) o).length - 1) 0]=[(((mkK n (mg n (Qf F)) o)[(mkK n (mg n (Qf F)) o).length - 1]:Nat):Int)] by unfold nI; rw [eg]; rfl,show nI []=[] from rfl] at hbl
 rw [et,hbl,Option.bind_some]
 rw [show bld n ((mkK n (mg n (Qf F)) o).length - 1) ((mkK n (mg n (Qf F)) o).take ((mkK n (mg n (Qf F)) o).length - 1)) [(mkK n (mg n (Qf F)) o).getD ((mkK n (mg n (Qf F)) o).length - 1) 0] []=mkB n (mg n (Qf F)) o from rfl]
 have hcl:∀c∈(mkB n (mg n (Qf F)) o).1,c < 18446744073709551616:=fun c hc=>by have:=hlt c ((m1 c).2 hc); omega
 have hfam:∀v,v < n→∃c∈(mkB n (mg n (Qf F)) o).1,subB (msk n (FG (Qf F) v)) c=true:=fun v hv=>Qwt ho hv (hpar v hv)
 have h:=Jq (n:=n) (k0:=0) (by omega) (by omega) (fun i (t:List Int)=>(i,t)) (body:=Kh (gl n (FG (Qf F))) (nI (mkB n (mg n (Qf F)) o).1,(-1:Int)::nI (mkB n (mg n (Qf F)) o).2))
  (fun k=>nI ((List.range k).map fun v=>homeI (mkB n (mg n (Qf F)) o).1 (msk n (FG (Qf F) v)))) (nI ((List.range n).map fun v=>homeI (mkB n (mg n (Qf F)) o).1 (msk n (FG (Qf F) v))))
  (fun k _ hk=>by
   unfold Kh
   dsimp only
   rw [Zp,if_pos (dlt hk),Qco hk,Option.bind_some,Qx4 hcl (by have:=Zm n (FG (Qf F) k); omega) (by omega) (hfam k hk),Option.bind_some,if_pos (by rw [List.length_append,Qo,List.length_map,List.length_range]; simp; omega)]
   congr 3
   rw [List.range_succ,List.map_append,←Qv3]; rfl)
  (by unfold Kh; dsimp only; rw [Zp,if_neg (nlt n)])
 rw [show ((0:Nat):Int)=0 from rfl] at h
 rw [show nI ((List.range 0).map fun v=>homeI (mkB n (mg n (Qf F)) o).1 (msk n (FG (Qf F) v)))=[] from rfl] at h
 rw [h]; rfl
end Go.Ab
namespace Go.Ab
open Go
set_option maxRecDepth 100000
set_option maxHeartbeats 400000
def tb (x:Int) (s1:Int × List Int):Option (Ql (Int × List Int) (List Int)) :=
 if (zw ((s1.2.length:Int)+1))≠0 then
  if 0≤(0:Int)∧(0:Int)≤(Int.tmod (zw x) (zw ((s1.2.length:Int)+1)))∧(Int.tmod (zw x) (zw ((s1.2.length:Int)+1)))≤(s1.2.length:Int) then
   if (sub s1.2 0 (Int.tmod (zw x) (zw ((s1.2.length:Int)+1)))).length*8≤140737488355328 then
    if ((sub s1.2 0 (Int.tmod (zw x) (zw ((s1.2.length:Int)+1))))++([s1.1]:(List Int))).length*8≤140737488355328 then
     if 0≤(Int.tmod (zw x) (zw ((s1.2.length:Int)+1)))∧(Int.tmod (zw x) (zw ((s1.2.length:Int)+1)))≤(s1.2.length:Int)∧(s1.2.length:Int)≤(s1.2.length:Int) then
      if (((sub s1.2 0 (Int.tmod (zw x) (zw ((s1.2.length:Int)+1))))++([s1.1]:(List Int)))++(sub s1.2 (Int.tmod (zw x) (zw ((s1.2.length:Int)+1))) (s1.2.length:Int))).length*8≤140737488355328 then
       some (.next (zw (s1.1+1),(((sub s1.2 0 (Int.tmod (zw x) (zw ((s1.2.length:Int)+1))))++([s1.1]:(List Int)))++(sub s1.2 (Int.tmod (zw x) (zw ((s1.2.length:Int)+1))) (s1.2.length:Int)))))
      else none
     else none
    else none
   else none
  else none
 else none
theorem Qsw (p0 p1:Int) (p2:Int × Int × Int × Int × Int × Int × Int × Int) (s1:Int × List Int):Qag p0 p1 p2 s1 =
  if (decide (s1.1 < p0))=true then
   if (s1.1==p1)=true then some (.next (zw (s1.1+1),s1.2)) else
   if Int.tmod s1.1 8=0 then tb p2.1 s1 else if Int.tmod s1.1 8=1 then tb p2.2.1 s1 else if Int.tmod s1.1 8=2 then tb p2.2.2.1 s1 else if Int.tmod s1.1 8=3 then tb p2.2.2.2.1 s1 else
   if Int.tmod s1.1 8=4 then tb p2.2.2.2.2.1 s1 else if Int.tmod s1.1 8=5 then tb p2.2.2.2.2.2.1 s1 else if Int.tmod s1.1 8=6 then tb p2.2.2.2.2.2.2.1 s1 else if Int.tmod s1.1 8=7 then tb p2.2.2.2.2.2.2.2 s1 else none
  else some (.done s1.2):=rfl
theorem Q2s {x:Int} {k:Nat} {o:List Nat} (hx:0≤x∧x≤255) (ho:o.length≤1000) (hk:k≤1000):∃a:Nat,a≤o.length∧tb x ((k:Int),nI o)=some (.next (zw ((k:Int)+1),nI (o.take a++[k]++o.drop a))):=by
 have e1:zw ((o.length:Int)+1)=((o.length+1:Nat):Int):=Qqu (by omega)
 have e2:zw x=x:=w64 (by omega)
 obtain ⟨a,ha,ea⟩:∃a:Nat,a≤o.length∧Int.tmod x ((o.length+1:Nat):Int)=(a:Int):=by
  rw [Ks hx.1]
  have h1:=Int.emod_nonneg x (show ((o.length+1:Nat):Int)≠0 by omega)
  have h2:=Int.emod_lt_of_pos x (show (0:Int) < ((o.length+1:Nat):Int) by omega)
  exact ⟨(x % ((o.length+1:Nat):Int)).toNat,by omega,by omega⟩
 have s1:sub (nI o) 0 (a:Int)=nI (o.take a):=by unfold sub nI; simp [List.map_take]
 have s2:sub (nI o) (a:Int) (o.length:Int)=nI (o.drop a):=by
  unfold sub nI
  rw [Int.toNat_natCast,Int.toNat_natCast,←List.map_drop,List.take_of_length_le (by rw [List.length_map,List.length_drop]; omega)]
 refine ⟨a,ha,?_⟩
 unfold tb
 dsimp only
 rw [Qo,e1,e2,ea,s1,s2,if_pos (by omega),if_pos (by omega)]
 rw [if_pos (by rw [Qo,List.length_take]; omega),if_pos (by rw [List.length_append,Qo,List.length_take]; simp; omega),if_pos (by omega),if_pos (by rw [List.length_append,List.length_append,Qo,Qo,List.length_take,List.length_drop]; simp; omega)]
 congr 3
 unfold nI; simp
def ok8 (l:Int × Int × Int × Int × Int × Int × Int × Int):Prop:=(0≤l.1∧l.1≤255)∧(0≤l.2.1∧l.2.1≤255)∧(0≤l.2.2.1∧l.2.2.1≤255)∧(0≤l.2.2.2.1∧l.2.2.2.1≤255)∧(0≤l.2.2.2.2.1∧l.2.2.2.2.1≤255)∧(0≤l.2.2.2.2.2.1∧l.2.2.2.2.2.1≤255)∧(0≤l.2.2.2.2.2.2.1∧l.2.2.2.2.2.2.1≤255)∧(0≤l.2.2.2.2.2.2.2∧l.2.2.2.2.2.2.2≤255)
theorem Q0y {k a:Nat} {o:List Nat} (h:Ord k o):Ord (k+1) (o.take a++[k]++o.drop a):=by
 obtain ⟨h1,h2⟩:=Qii (q:=o) (k:=k) (a:=a) h.nodup h.lt
 exact ⟨by have:=h.len; simp; omega,h2,h1⟩
theorem Qwj {n:Nat} {l:Int × Int × Int × Int × Int × Int × Int × Int} (hn:n≤1000) (hl:ok8 l):∃o,Ord n o∧Jk (n:Int) (-1) l=some (nI o):=by
 obtain ⟨l0,l1,l2,l3,l4,l5,l6,l7⟩:=hl
 have h:=Ju (n:=n) (k0:=0) (by omega) (by omega) (fun i (t:List Int)=>(i,t)) (body:=Qag (n:Int) (-1) l) (fun k t=>∃o,Ord k o∧t=nI o) (fun r=>∃o,Ord n o∧r=nI o)
  (fun k t _ hk hI=>by
   obtain ⟨o,ho,rfl⟩:=hI
   left
   have hol:o.length≤1000:=by rw [ho.len]; omega
   have fin:∀x,0≤x∧x≤255→∃t',tb x ((k:Int),nI o)=some (.next (zw ((k:Int)+1),t'))∧∃o,Ord (k+1) o∧t'=nI o:=fun x hx=>by
    obtain ⟨a,_,e⟩:=Q2s (k:=k) hx hol (by omega)
    exact ⟨_,e,_,Q0y ho,rfl⟩
   rw [Qsw]
   dsimp only
   rw [if_pos (dlt hk),if_neg (by simp),Ks (by omega)]
   by_cases c0:(k:Int) % 8=0
   ·rw [if_pos c0]; exact fin _ l0
   rw [if_neg c0]
   by_cases c1:(k:Int) % 8=1
   ·rw [if_pos c1]; exact fin _ l1
   rw [if_neg c1]
   by_cases c2:(k:Int) % 8=2
   ·rw [if_pos c2]; exact fin _ l2
   rw [if_neg c2]
   by_cases c3:(k:Int) % 8=3
   ·rw [if_pos c3]; exact fin _ l3
   rw [if_neg c3]
   by_cases c4:(k:Int) % 8=4
   ·rw [if_pos c4]; exact fin _ l4
   rw [if_neg c4]
   by_cases c5:(k:Int) % 8=5
   ·rw [if_pos c5]; exact fin _ l5
   rw [if_neg c5]
   by_cases c6:(k:Int) % 8=6
   ·rw [if_pos c6]; exact fin _ l6
   rw [if_neg c6,if_pos (by omega)]
   exact fin _ l7)
  (fun t hI=>⟨t,by rw [Qsw]; dsimp only; rw [if_neg (nlt n)],hI⟩) [] ⟨[],⟨rfl,by simp,List.nodup_nil⟩,rfl⟩
 obtain ⟨r,e,o,ho,rfl⟩:=h
 refine ⟨o,ho,?_⟩
 rw [show ((0:Nat):Int)=0 from rfl] at e
 unfold Jk
 rw [e]; rfl
def Qoz (n:Nat) (l:List Int) (k:Nat):Prop:=0≤(l[k]?).getD 0∧(l[k]?).getD 0 < n∧(l[k]?).getD 0 ∉ l.take k
theorem Qvh {n:Nat} {l:List Int}:(∀k,k < l.length→Qoz n l k)↔okL n l:=by
 unfold okL Qoz
 constructor
 ·intro h
  refine ⟨fun x hx=>?_,?_⟩
  ·obtain ⟨k,hk,rfl⟩:=List.mem_iff_getElem.1 hx
   have:=h k hk
   rw [List.getElem?_eq_getElem hk] at this
   exact ⟨this.1,this.2.1⟩
  ·rw [List.nodup_iff_pairwise_ne,List.pairwise_iff_getElem]
   intro i j hi hj hij e
   have:=(h j hj).2.2
   rw [List.getElem?_eq_getElem hj] at this
   refine this (List.mem_iff_getElem.2 ⟨i,by rw [List.length_take]; omega,?_⟩)
   rw [List.getElem_take]; exact e
 ·rintro ⟨h1,h2⟩ k hk
  rw [List.getElem?_eq_getElem hk]
  obtain ⟨a,b⟩:=h1 _ (List.getElem_mem hk)
  refine ⟨a,b,fun hm=>?_⟩
  obtain ⟨i,hi,e⟩:=List.mem_iff_getElem.1 hm
  rw [List.length_take] at hi
  rw [List.getElem_take] at e
  rw [List.nodup_iff_pairwise_ne,List.pairwise_iff_getElem] at h2
  exact h2 i k (by omega) hk (by omega) e
theorem Qyo {n:Nat} {l:List Int} {k a:Nat} (hn:n≤8) (hk:k < l.length) (ha:a < n) (e:l[k]=(a:Int)):zv (zb ((msk n (fun i=>(l.take k).contains (i:Int)):Nat):Int) ||| zb (zv (1*2^min (Int.toNat (a:Int)) (IntKind.bits .u64)))).toNat = ((msk n (fun i=>(l.take (k+1)).contains (i:Int)):Nat):Int):=by
 rw [Qkc (by omega) ha]
 congr 1
 refine Y2 fun i _=>?_
 rw [Zb hk,List.contains_append,e]
 by_cases c:a=i
 ·subst c; simp
 ·have c2:¬ (i:Int)=(a:Int):=by omega
  simp [c,c2]
theorem Qve {n:Nat} {l fam:List Int} {w:Int} (hn:n≤8) (hf:fam.length=n) (hl:l.length≤1000) :
  (okL n l∧Qb fuel (Yx l (fam,w)) (0,0)=some (.inr ()))∨(¬ okL n l∧Qb fuel (Yx l (fam,w)) (0,0)=some (.inl ())):=by
 have p8:(2:Nat)^n≤256:=Nat.pow_le_pow_right (n:=2) (by omega) hn
 have hz:msk n (fun i=>(l.take 0).contains (i:Int))=0:=(V7 (by have:=Nat.two_pow_pos n; omega) fun i _=>by simp).symm
 have h:=V2 (n:=l.length) (by omega) (Qoz n l) (fun i (t:Int)=>(t,i)) (body:=Yx l (fam,w)) (fun k=>((msk n (fun i=>(l.take k).contains (i:Int)):Nat):Int)) (.inr ()) (.inl ())
  (fun k hk hI hg=>by
   have ek:=Zy hk
   obtain ⟨h1,h2,h3⟩:=hg
   rw [List.getElem?_eq_getElem hk] at h1 h2 h3
   simp only [Option.getD_some] at h1 h2 h3
   generalize ev:l[k]=v at *
   obtain ⟨a,rfl⟩:∃a:Nat,v=(a:Int):=⟨v.toNat,by omega⟩
   have ha:a < n:=by omega
   unfold Yx
   dsimp only
   rw [if_pos (dlt hk),ek,Option.bind_some,if_neg (by simp),hf,if_neg (by simp; omega),if_pos (Zf a),Qcp (Qk3 (by omega) (Zm n _)) (by omega),Ym a ha]
   have hc:(l.take k).contains (a:Int)=false:=by rw [Bool.eq_false_iff]; intro h; exact h3 (by simpa using h)
   rw [hc,if_neg (by decide),if_pos (Zf a),Qyo hn hk ha ev])
  (fun k hk hI hg=>by
   have ek:=Zy hk
   have hg':¬ (0≤l[k]∧l[k] < n∧l[k] ∉ l.take k):=by
    unfold Qoz at hg
    rw [List.getElem?_eq_getElem hk] at hg
    exact hg
   generalize l[k]=v at *
   unfold Yx
   dsimp only
   rw [if_pos (dlt hk),ek,Option.bind_some]
   by_cases c1:v < 0
   ·rw [if_pos (by simpa using c1)]
   ·rw [if_neg (by simpa using c1),hf]
    by_cases c2:v≥(n:Int)
    ·rw [if_pos (by simpa using c2)]
    ·rw [if_neg (by simpa using c2)]
     obtain ⟨a,rfl⟩:∃a:Nat,v=(a:Int):=⟨v.toNat,by omega⟩
     have ha:a < n:=by omega
     have hc:(l.take k).contains (a:Int)=true:=by
      rw [List.contains_iff_mem]
      apply Classical.byContradiction
      intro h; exact hg' ⟨by omega,by omega,h⟩
     rw [if_pos (Zf a),Qcp (Qk3 (by omega) (Zm n _)) (by omega),Ym a ha,hc,if_pos (by decide)])
  (fun hI=>by unfold Yx; dsimp only; rw [if_neg (nlt _)])
 simp only [hz,Qvh] at h
 exact h
def Qqc:Tapi_Tree:=⟨[],[],[]⟩
theorem Qw2 {n:Nat} {g:Int} {F:Nat → Tapi_Node} {l:List Int} (hb:NB n F) (hbig:n≤1000) (hl:l.length≤1000) :
  (¬ Jo n g F∧Vo ⟨g,Qd n F⟩ l=some (Qqc,50))∨(Jo n g F∧¬ (okL n l∧l.length=n)∧Vo ⟨g,Qd n F⟩ l=some (Qqc,2)) ∨
  (Jo n g F∧∃o,l=nI o∧Ord n o∧Vo ⟨g,Qd n F⟩ l=some (mkT n (Qf F) o,0)):=by
 unfold Vo
 rcases Qkx (g:=g) hb (by omega) with ⟨hf,e⟩ | ⟨hf,e⟩
 ·right
  rw [e,Option.bind_some,if_neg (by simp)]
  dsimp only
  rw [Zp]
  by_cases c:l.length=n
  ·rw [if_neg (by simp; omega)]
   rcases Qve (n:=n) (l:=l) (fam:=gl n (FG (Qf F))) (w:=0) hf.n8 (Zp _ _) hl with ⟨hp,e2⟩ | ⟨hp,e2⟩
   ·right
    obtain ⟨o,rfl,ho⟩:=Q1e hp c
    refine ⟨hf,o,rfl,ho,?_⟩
    rw [e2,Option.bind_some]
    dsimp only
    rw [Qqs hb hf ho]; rfl
   ·left
    refine ⟨hf,fun h=>hp h.1,?_⟩
    rw [e2]; rfl
  ·left
   refine ⟨hf,fun h=>c h.2,?_⟩
   rw [if_pos (by simp; omega)]; rfl
 ·left
  refine ⟨hf,?_⟩
  rw [e,Option.bind_some,if_pos (by decide)]; rfl
end Go.Ab
namespace Go.Ab
open Go
theorem Qb1 {cs:List AV} (h:WT (.int .u8) cs):∃a:Int,cs=[(AV.int .u8) a]∧(Lit.int .u8 a).wf=true:=by
 obtain ⟨n,rfl,w⟩:=h
 exact ⟨n,rfl,w⟩
theorem el5 {x:AV} (h:WT (.int .u8) x.flat ∧ (if false then x=.agg x.flat else x.cell=true)):∃a:Int,x=(AV.int .u8) a∧(Lit.int .u8 a).wf=true:=by
 obtain ⟨a,h1,h2⟩:=Qb1 h.1
 rw [Qu5 h.2] at h1
 exact ⟨a,(List.cons.inj h1).1,h2⟩
theorem Qzp {cs:List AV} (h:WT (.slice true false 1 (.int .u8)) cs):∃a:(List Int),cs=[(eL true (AV.int .u8)) a]∧(a.length≤maxLen∧∀y0∈a,(Lit.int .u8 y0).wf=true):=by
 obtain ⟨xs,rfl,hl,hx⟩:=h
 obtain ⟨l,rfl,hr⟩:=Qqe (enc:=(AV.int .u8)) (R:=fun a=>(Lit.int .u8 a).wf=true) (fun x hm=>el5 (hx x hm))
 exact ⟨l,rfl,by simpa using hl,hr⟩
def Xw (x:Qp):Prop:=((Lit.int .u8 x.Card).wf=true)∧((Lit.int .u8 x.Parents).wf=true)∧((x.W.length≤maxLen∧∀y0∈x.W,(Lit.int .u8 y0).wf=true))
theorem Qfu {cs:List AV} (h:WT (.cat (.int .u8) (.cat (.int .u8) (.cat (.slice true false 1 (.int .u8)) .unit))) cs):∃x:Qp,AV.agg cs=eTharuspexref05_Piece x∧Xw x:=by
 obtain ⟨_,_,rfl,a0,r0⟩:=h
 obtain ⟨v0,e0,w0⟩:=Qb1 a0
 cases e0
 obtain ⟨_,_,rfl,a1,r1⟩:=r0
 obtain ⟨v1,e1,w1⟩:=Qb1 a1
 cases e1
 obtain ⟨_,_,rfl,a2,r2⟩:=r1
 obtain ⟨v2,e2,w2⟩:=Qzp a2
 cases e2
 cases r2
 exact ⟨⟨v0,v1,v2⟩,rfl,⟨w0,w1,w2⟩⟩
theorem Q3q {x:AV} (h:WT (.cat (.int .u8) (.cat (.int .u8) (.cat (.slice true false 1 (.int .u8)) .unit))) x.flat ∧ (if true then x=.agg x.flat else x.cell=true)):∃a:Qp,x=eTharuspexref05_Piece a∧Xw a:=by
 obtain ⟨a,h1,h2⟩:=Qfu h.1
 have h3:x=.agg x.flat := h.2
 exact ⟨a,h3.trans h1,h2⟩
theorem Q2u {cs:List AV} (h:WT (.slice false true 3 (.cat (.int .u8) (.cat (.int .u8) (.cat (.slice true false 1 (.int .u8)) .unit)))) cs):∃a:(List Qp),cs=[(eL false eTharuspexref05_Piece) a]∧(a.length≤maxLen∧∀y0∈a,Xw y0):=by
 obtain ⟨xs,rfl,hl,hx⟩:=h
 obtain ⟨l,rfl,hr⟩:=Qqe (enc:=eTharuspexref05_Piece) (R:=fun a=>Xw a) (fun x hm=>Q3q (hx x hm))
 exact ⟨l,rfl,by simpa using hl,hr⟩
def Yz (x:Qc):Prop:=((Lit.int .u8 x.Grain).wf=true)∧((x.Nodes.length≤maxLen∧∀y0∈x.Nodes,Xw y0))∧((x.Order.length≤maxLen∧∀y0∈x.Order,(Lit.int .u8 y0).wf=true))
theorem rdTharuspexref05_Draft {cs:List AV} (h:WT (.cat (.int .u8) (.cat (.slice false true 3 (.cat (.int .u8) (.cat (.int .u8) (.cat (.slice true false 1 (.int .u8)) .unit)))) (.cat (.slice true false 1 (.int .u8)) .unit))) cs):∃x:Qc,AV.agg cs=eTharuspexref05_Draft x∧Yz x:=by
 obtain ⟨_,_,rfl,a0,r0⟩:=h
 obtain ⟨v0,e0,w0⟩:=Qb1 a0
 cases e0
 obtain ⟨_,_,rfl,a1,r1⟩:=r0
 obtain ⟨v1,e1,w1⟩:=Q2u a1
 cases e1
 obtain ⟨_,_,rfl,a2,r2⟩:=r1
 obtain ⟨v2,e2,w2⟩:=Qzp a2
 cases e2
 cases r2
 exact ⟨⟨v0,v1,v2⟩,rfl,⟨w0,w1,w2⟩⟩
theorem Q3k {cs:List AV} (h:WT (.int .i64) cs):∃a:Int,cs=[eI a]∧(Lit.int .i64 a).wf=true:=by
 obtain ⟨n,rfl,w⟩:=h
 exact ⟨n,rfl,w⟩
theorem rdA28 {cs:List AV} (h:WT (.cat (.int .u8) (.cat (.int .u8) (.cat (.int .u8) (.cat (.int .u8) (.cat (.int .u8) (.cat (.int .u8) (.cat (.int .u8) (.cat (.int .u8) .unit)))))))) cs):∃x:(Int × Int × Int × Int × Int × Int × Int × Int),AV.agg cs=(fun x:(Int × Int × Int × Int × Int × Int × Int × Int)=>AV.agg [.int .u8 x.1,.int .u8 x.2.1,.int .u8 x.2.2.1,.int .u8 x.2.2.2.1,.int .u8 x.2.2.2.2.1,.int .u8 x.2.2.2.2.2.1,.int .u8 x.2.2.2.2.2.2.1,.int .u8 x.2.2.2.2.2.2.2]) x∧((Lit.int .u8 x.1).wf=true∧(Lit.int .u8 x.2.1).wf=true∧(Lit.int .u8 x.2.2.1).wf=true∧(Lit.int .u8 x.2.2.2.1).wf=true∧(Lit.int .u8 x.2.2.2.2.1).wf=true∧(Lit.int .u8 x.2.2.2.2.2.1).wf=true∧(Lit.int .u8 x.2.2.2.2.2.2.1).wf=true∧(Lit.int .u8 x.2.2.2.2.2.2.2).wf=true):=by
 obtain ⟨_,_,rfl,a0,r0⟩:=h
 obtain ⟨v0,e0,w0⟩:=Qb1 a0
 cases e0
 obtain ⟨_,_,rfl,a1,r1⟩:=r0
 obtain ⟨v1,e1,w1⟩:=Qb1 a1
 cases e1
 obtain ⟨_,_,rfl,a2,r2⟩:=r1
 obtain ⟨v2,e2,w2⟩:=Qb1 a2
 cases e2
 obtain ⟨_,_,rfl,a3,r3⟩:=r2
 obtain ⟨v3,e3,w3⟩:=Qb1 a3
 cases e3
 obtain ⟨_,_,rfl,a4,r4⟩:=r3
 obtain ⟨v4,e4,w4⟩:=Qb1 a4
 cases e4
 obtain ⟨_,_,rfl,a5,r5⟩:=r4
 obtain ⟨v5,e5,w5⟩:=Qb1 a5
 cases e5
 obtain ⟨_,_,rfl,a6,r6⟩:=r5
 obtain ⟨v6,e6,w6⟩:=Qb1 a6
 cases e6
 obtain ⟨_,_,rfl,a7,r7⟩:=r6
 obtain ⟨v7,e7,w7⟩:=Qb1 a7
 cases e7
 cases r7
 exact ⟨(v0,v1,v2,v3,v4,v5,v6,v7),rfl,⟨w0,w1,w2,w3,w4,w5,w6,w7⟩⟩
theorem Q2l {cs:List AV} (h:WT (.int .u64) cs):∃a:Int,cs=[(AV.int .u64) a]∧(Lit.int .u64 a).wf=true:=by
 obtain ⟨n,rfl,w⟩:=h
 exact ⟨n,rfl,w⟩
def Xa (x:Tharuspexref10_Bend):Prop:=((Lit.int .u8 x.What).wf=true)∧((Lit.int .u8 x.At).wf=true)∧((Lit.int .i64 x.N).wf=true)∧((Lit.int .u64 x.S).wf=true)
theorem Qbc {cs:List AV} (h:WT (.cat (.int .u8) (.cat (.int .u8) (.cat (.int .i64) (.cat (.int .u64) .unit)))) cs):∃x:Tharuspexref10_Bend,AV.agg cs=Qhc x∧Xa x:=by
 obtain ⟨_,_,rfl,a0,r0⟩:=h
 obtain ⟨v0,e0,w0⟩:=Qb1 a0
 cases e0
 obtain ⟨_,_,rfl,a1,r1⟩:=r0
 obtain ⟨v1,e1,w1⟩:=Qb1 a1
 cases e1
 obtain ⟨_,_,rfl,a2,r2⟩:=r1
 obtain ⟨v2,e2,w2⟩:=Q3k a2
 cases e2
 obtain ⟨_,_,rfl,a3,r3⟩:=r2
 obtain ⟨v3,e3,w3⟩:=Q2l a3
 cases e3
 cases r3
 exact ⟨⟨v0,v1,v2,v3⟩,rfl,⟨w0,w1,w2,w3⟩⟩
theorem rdA32 {cs:List AV} (h:WT (.cat (.cat (.int .u8) (.cat (.int .u8) (.cat (.int .i64) (.cat (.int .u64) .unit)))) (.cat (.cat (.int .u8) (.cat (.int .u8) (.cat (.int .i64) (.cat (.int .u64) .unit)))) .unit)) cs):∃x:(Tharuspexref10_Bend × Tharuspexref10_Bend),AV.agg cs=(fun x:(Tharuspexref10_Bend × Tharuspexref10_Bend)=>AV.agg [.int .u8 x.1.What,.int .u8 x.1.At,vI x.1.N,.int .u64 x.1.S,.int .u8 x.2.What,.int .u8 x.2.At,vI x.2.N,.int .u64 x.2.S]) x∧(Xa x.1∧Xa x.2):=by
 obtain ⟨_,_,rfl,a0,r0⟩:=h
 obtain ⟨v0,e0,w0⟩:=Qbc a0
 cases e0
 obtain ⟨_,_,rfl,a1,r1⟩:=r0
 obtain ⟨v1,e1,w1⟩:=Qbc a1
 cases e1
 cases r1
 exact ⟨(v0,v1),rfl,⟨w0,w1⟩⟩
end Go.Ab
namespace Go.Ab
open Go
set_option maxRecDepth 100000
set_option maxHeartbeats 400000
theorem Kz {n:Int} (h:(Lit.int .u8 n).wf=true):0≤n∧n≤255:=by
 simpa [Lit.wf,IntKind.min,IntKind.max,IntKind.bits,IntKind.signed] using h
theorem Q0z {p0:Qc} (h:Yz p0):Qtr p0:=by
 refine ⟨Kz h.1,fun x hx=>Kz (h.2.2.2 x hx),fun p hp=>Kz (h.2.1.2 p hp).1,fun p hp x hx=>Kz ((h.2.1.2 p hp).2.2.2 x hx),fun p hp=>?_⟩
 have:=(h.2.1.2 p hp).2.2.1
 unfold maxLen at this; omega
theorem Qy6 {n:Nat} {f:Nat → Int}:(Qd n f).sum=Qw n f:=by
 induction n with
 | zero=>rfl
 | succ n ih=>rw [←Qim,List.sum_append,ih]; simp [Qw]
theorem Qxb {D:NF} (X:VX D):Jo D.n D.g D.node:=by
 have V:=X.vn
 have hc:∀v,v < D.n→Qbt (D.node v):=fun v hv=>by
  have:=V.card v hv
  exact ⟨by show (1:Int)≤(D.card v:Int); omega,by show (D.card v:Int)≤4; omega⟩
 have ec:cardN D.node=D.card:=funext fun v=>by unfold cardN NF.node; simp
 have ep:Qf D.node=D.par:=funext fun v=>by
  unfold Qf NF.node
  rw [List.map_map]
  conv=>rhs; rw [←List.map_id (D.par v)]
  exact List.map_congr_left fun x _=>by simp
 refine ⟨by have:=V.g1; omega,by have:=V.g60; omega,V.n1,V.n8,hc,by rw [ec]; exact V.worlds,fun v hv=>⟨⟨⟨D.par v,rfl,X.sorted v hv,V.par v hv⟩,fun hm=>?_⟩,?_,fun r hr=>?_⟩,by rw [ep]; obtain ⟨rk,h⟩:=X.rank; exact ⟨rk,h⟩⟩
 ·have hm:(v:Int)∈nI (D.par v):=hm
  unfold nI at hm
  obtain ⟨p,hp,e⟩:=List.mem_map.1 hm
  have:p=v:=by omega
  subst this
  exact X.self p hv hp
 ·rw [ec,ep]; show (Qd (D.rows v) _).length=_; rw [X2]; rfl
 ·have hr:r∈Qd (D.rows v) fun r=>Qd (D.card v) fun x=>(D.W v r x:Int):=hr
  unfold Qd at hr
  obtain ⟨i,hi,rfl⟩:=List.mem_map.1 hr
  have hi:=List.mem_range.1 hi
  have e:=X.sum v i hv hi
  have h1:((List.range (D.card v)).map fun x=>(D.W v i x:Int))=Qd (D.card v) fun x=>(D.W v i x:Int):=rfl
  rw [h1]
  refine ⟨by rw [X2]; rfl,fun w hw=>?_,by rw [Qy6]; exact e⟩
  unfold Qd at hw
  obtain ⟨x,_,rfl⟩:=List.mem_map.1 hw
  omega
theorem Qtk {D:NF} (X:VX D):∀x∈Qd D.n D.node,Qth 65536 x:=fun x hx=>by
 have V:=X.vn
 unfold Qd at hx
 obtain ⟨v,hv,rfl⟩:=List.mem_map.1 hx
 have hv:=List.mem_range.1 hv
 have hc:=V.card v hv
 refine ⟨?_,?_,fun r hr=>?_⟩
 ·have:=V.len v hv
  show (List.map _ (D.par v)).length≤_
  rw [List.length_map]; omega
 ·show (Qd (D.rows v) _).length≤_
  rw [X2]; exact V.rows_le hv
 ·have hr:r∈Qd (D.rows v) fun r=>Qd (D.card v) fun x=>(D.W v r x:Int):=hr
  unfold Qd at hr
  obtain ⟨i,hi,rfl⟩:=List.mem_map.1 hr
  rw [List.length_map,List.length_range]; omega
theorem Q0l {n:Nat} {F:Nat → Tapi_Node} (h:∀x∈Qd n F,Qth 65536 x):NB n F:=by
 have key:∀v,v < n→Qth 65536 (F v):=fun v hv=>h _ (by unfold Qd; exact List.mem_map.2 ⟨v,List.mem_range.2 hv,rfl⟩)
 exact ⟨fun v hv=>by have:=(key v hv).par; omega,fun v hv=>by have:=(key v hv).rows; omega,fun v hv r hr=>by have:=(key v hv).row r hr; omega⟩
theorem Qnt {n:Nat} {q:Nat → List Nat} {o:List Nat} (ho:Ord n o) (h1:1≤n):(mkT n q o).Cliques.length≤n∧1≤(mkT n q o).Cliques.length∧(mkT n q o).Up.length=(mkT n q o).Cliques.length∧(mkT n q o).Home.length=n:=by
 have hop:0 < o.length:=by rw [ho.len]; omega
 have hp:=Qnq (n:=n) (A:=mg n q) hop
 have hle:=Qvx (n:=n) (A:=mg n q) (o:=o)
 rw [ho.len] at hle
 obtain ⟨_,m2,m3⟩:=Qd5 (n:=n) (A:=mg n q) hop
 have c1:(mkT n q o).Cliques.length=(mkK n (mg n q) o).length:=by show (nI _).length=_; rw [Qo,m2]
 have c2:(mkT n q o).Up.length=(mkK n (mg n q) o).length:=by show ((-1:Int)::nI _).length=_; rw [List.length_cons,Qo,m3]; omega
 have c3:(mkT n q o).Home.length=n:=by show (nI _).length=_; rw [Qo,List.length_map,List.length_range]
 exact ⟨by omega,by omega,by omega,c3⟩
theorem Qua:Qda=some true:=by kernel_rfl
theorem Q1i {p2:Int × Int × Int × Int × Int × Int × Int × Int} (h:(Lit.int .u8 p2.1).wf=true∧(Lit.int .u8 p2.2.1).wf=true∧(Lit.int .u8 p2.2.2.1).wf=true∧(Lit.int .u8 p2.2.2.2.1).wf=true∧(Lit.int .u8 p2.2.2.2.2.1).wf=true∧(Lit.int .u8 p2.2.2.2.2.2.1).wf=true∧(Lit.int .u8 p2.2.2.2.2.2.2.1).wf=true∧(Lit.int .u8 p2.2.2.2.2.2.2.2).wf=true):ok8 p2 :=
 ⟨Kz h.1,Kz h.2.1,Kz h.2.2.1,Kz h.2.2.2.1,Kz h.2.2.2.2.1,Kz h.2.2.2.2.2.1,Kz h.2.2.2.2.2.2.1,Kz h.2.2.2.2.2.2.2⟩
end Go.Ab
namespace Go.Ab
open Go
set_option maxRecDepth 100000
set_option maxHeartbeats 400000
def Jp (t:Tapi_Tree):Prop:=(∀c∈t.Cliques,0≤c∧c≤18446744073709551615)∧t.Cliques.length≤100000∧t.Up.length≤100000∧t.Home.length≤100000
def cqN (t:Tapi_Tree) (i:Nat):Nat := ((t.Cliques[i]?).getD 0).toNat
def upA (t:Tapi_Tree) (i:Nat):Int:=(t.Up[i]?).getD 0
def hmA (t:Tapi_Tree) (v:Nat):Int:=(t.Home[v]?).getD 0
def ahead (t:Tapi_Tree):Nat → Nat
 | 0=>0
 | i+1=>ahead t i ||| cqN t i
def Qtm (n:Nat) (t:Tapi_Tree) (i:Nat):Prop:=cqN t i≠0∧cqN t i < 2^n∧(i=0→upA t i=-1)∧(0 < i→0≤upA t i∧upA t i < i∧Qf6 (cqN t i &&& ahead t i) (cqN t (upA t i).toNat))
def Qti (n:Nat) (q:Nat → List Nat) (t:Tapi_Tree) (v:Nat):Prop:=0≤hmA t v∧hmA t v < t.Cliques.length∧subB (msk n (FG q v)) (cqN t (hmA t v).toNat)=true
structure Kw (n:Nat) (q:Nat → List Nat) (t:Tapi_Tree):Prop where
 c1:1≤t.Cliques.length
 c8:t.Cliques.length≤8
 up:t.Up.length=t.Cliques.length
 home:t.Home.length=n
 cq:∀i,i < t.Cliques.length→Qtm n t i
 hm:∀v,v < n→Qti n q t v
theorem Qct {t:Tapi_Tree} {i:Nat} (h:Jp t) (hi:i < t.Cliques.length):lkI t.Cliques (i:Int)=some ((cqN t i:Nat):Int)∧cqN t i < 18446744073709551616:=by
 have:=h.1 _ (List.getElem_mem hi)
 unfold cqN
 rw [Zy hi,List.getElem?_eq_getElem hi,Option.getD_some]
 exact ⟨by congr 1; omega,by omega⟩
theorem Qk8 {t:Tapi_Tree} (h:Jp t):∀i,i≤t.Cliques.length→ahead t i < 18446744073709551616
 | 0,_=>by simp [ahead]
 | i+1,hi=>by
  simp only [ahead]
  exact Nat.or_lt_two_pow (n:=64) (Qk8 h i (by omega)) (Qct h (by omega)).2
theorem Qkp {n c:Nat} (hn:n≤8) (hc:c < 18446744073709551616):((Int.fdiv (c:Int) (2^min (Int.toNat (n:Int)) (IntKind.bits .u64))) != 0)=true↔¬ c < 2^n:=by
 have hb:IntKind.bits .u64=64:=rfl
 have e0:min (Int.toNat (n:Int)) (IntKind.bits .u64)=n:=by rw [hb,Int.toNat_natCast]; omega
 rw [e0,Qk2]
 have hp:=Nat.two_pow_pos n
 have:c / 2^n=0↔c < 2^n:=by
  rw [Nat.div_eq_zero_iff]
  constructor
  ·rintro (h | h)
   ·omega
   ·exact h
  ·exact .inr
 generalize c / 2^n=d at this
 rw [←this]
 simp
theorem Qjx {x:Int}:(x != 0)=true↔¬ (x==0)=true:=by simp
theorem Qyr {n:Nat} {t:Tapi_Tree} {fam:List Int} {w:Int} (hn:n≤8) (hf:fam.length=n) (h:Jp t) (hu:t.Up.length=t.Cliques.length) :
  ((∀i,i < t.Cliques.length→Qtm n t i)∧Qb fuel (Yf t (fam,w)) (0,0)=some (.inr ()))∨((¬ ∀i,i < t.Cliques.length→Qtm n t i)∧Qb fuel (Yf t (fam,w)) (0,0)=some (.inl ())):=by
 have hlen:=h.2.1
 have hr:=V2 (n:=t.Cliques.length) (by omega) (Qtm n t) (fun i (e:Int)=>(e,i)) (body:=Yf t (fam,w)) (fun i=>((ahead t i:Nat):Int)) (.inr ()) (.inl ())
  (fun i hi hI hg=>by
   obtain ⟨e1,e2⟩:=Qct h hi
   have ha:=Qk8 h i (by omega)
   have eu:lkI t.Up (i:Int)=some (upA t i):=by unfold upA; rw [Zy (by omega),List.getElem?_eq_getElem (by omega)]; rfl
   obtain ⟨g1,g2,g3,g4⟩:=hg
   unfold Yf
   dsimp only
   rw [if_pos (dlt hi),e1,Option.bind_some,if_neg (by simp; exact g1),hf,if_pos (Zf n),if_neg (fun hh=>(Qkp hn e2).1 hh g2),eu,Option.bind_some,Q2r ha e2]
   by_cases c:i=0
   ·rw [if_pos (by simp; exact c),if_neg (by simp; exact g3 c)]
    rfl
   ·obtain ⟨k1,k2,k3⟩:=g4 (by omega)
    obtain ⟨f1,f2⟩:=Qct h (show (upA t i).toNat < t.Cliques.length by omega)
    rw [show (((upA t i).toNat : Nat):Int)=upA t i by omega] at f1
    rw [if_neg (by simp; exact c),if_neg (by simp; exact k1),if_neg (by simp; exact k2),f1,Option.bind_some,Qlq e2 ha]
    rw [if_neg (by
     rw [Qjx,Qav (Nat.lt_of_le_of_lt Nat.and_le_left e2) f2,X1]
     exact fun hh=>hh k3)]
    rfl)
  (fun i hi hI hg=>by
   obtain ⟨e1,e2⟩:=Qct h hi
   have ha:=Qk8 h i (by omega)
   have eu:lkI t.Up (i:Int)=some (upA t i):=by unfold upA; rw [Zy (by omega),List.getElem?_eq_getElem (by omega)]; rfl
   unfold Yf
   dsimp only
   rw [if_pos (dlt hi),e1,Option.bind_some]
   by_cases c1:cqN t i=0
   ·rw [if_pos (by simp; exact c1)]
   rw [if_neg (by simp; exact c1),hf,if_pos (Zf n)]
   by_cases c2':¬ cqN t i < 2^n
   ·rw [if_pos ((Qkp hn e2).2 c2')]
   have c2:cqN t i < 2^n:=Nat.lt_of_not_le fun hh=>c2' (by omega)
   rw [if_neg (fun hh=>(Qkp hn e2).1 hh c2),eu,Option.bind_some]
   by_cases c:i=0
   ·rw [if_pos (by simp; exact c),if_pos (by
     rw [bne_iff_ne]
     exact fun hh=>hg ⟨c1,c2,fun _=>hh,fun h0=>by omega⟩)]
   ·rw [if_neg (by simp; exact c)]
    by_cases c3:upA t i < 0
    ·rw [if_pos (by simpa using c3)]
    rw [if_neg (by simpa using c3)]
    by_cases c4:upA t i≥(i:Int)
    ·rw [if_pos (by simpa using c4)]
    rw [if_neg (by simpa using c4)]
    obtain ⟨f1,f2⟩:=Qct h (show (upA t i).toNat < t.Cliques.length by omega)
    rw [show (((upA t i).toNat : Nat):Int)=upA t i by omega] at f1
    rw [f1,Option.bind_some,Qlq e2 ha,if_pos (by
     rw [Qjx,Qav (Nat.lt_of_le_of_lt Nat.and_le_left e2) f2,X1]
     exact fun hh=>hg ⟨c1,c2,fun h0=>absurd h0 c,fun _=>⟨by omega,by omega,hh⟩⟩)])
  (fun hI=>by unfold Yf; dsimp only; rw [if_neg (nlt _)])
 exact hr
theorem Qyd {n:Nat} {t:Tapi_Tree} {q:Nat → List Nat} {w:Int} (hn:n≤8) (h:Jp t) (hh:t.Home.length=n) :
  ((∀v,v < n→Qti n q t v)∧Qb fuel (Yc t (gl n (FG q),w)) 0=some (.inr ()))∨((¬ ∀v,v < n→Qti n q t v)∧Qb fuel (Yc t (gl n (FG q),w)) 0=some (.inl ())):=by
 have p8:(2:Nat)^n≤256:=Nat.pow_le_pow_right (n:=2) (by omega) hn
 have eh:∀v,v < n→lkI t.Home (v:Int)=some (hmA t v):=fun v hv=>by unfold hmA; rw [Zy (by omega),List.getElem?_eq_getElem (by omega)]; rfl
 have hfl:∀v,msk n (FG q v) < 18446744073709551616:=fun v=>by have:=Zm n (FG q v); omega
 have hr:=V2 (n:=n) (by omega) (Qti n q t) (fun i (_:Unit)=>i) (body:=Yc t (gl n (FG q),w)) (fun _=>()) (.inr ()) (.inl ())
  (fun v hv hI hg=>by
   obtain ⟨g1,g2,g3⟩:=hg
   obtain ⟨f1,f2⟩:=Qct h (show (hmA t v).toNat < t.Cliques.length by omega)
   rw [show (((hmA t v).toNat : Nat):Int)=hmA t v by omega] at f1
   unfold Yc
   dsimp only
   rw [hh,if_pos (dlt hv),eh v hv,Option.bind_some,if_neg (by simp; exact g1),if_neg (by simp; exact g2),Qco hv,Option.bind_some,f1,Option.bind_some,if_neg (by
    rw [Qjx,Qav (hfl v) f2]
    exact fun x=>x g3)])
  (fun v hv hI hg=>by
   unfold Yc
   dsimp only
   rw [hh,if_pos (dlt hv),eh v hv,Option.bind_some]
   by_cases c1:hmA t v < 0
   ·rw [if_pos (by simpa using c1)]
   rw [if_neg (by simpa using c1)]
   by_cases c2:hmA t v≥(t.Cliques.length:Int)
   ·rw [if_pos (by simpa using c2)]
   rw [if_neg (by simpa using c2)]
   obtain ⟨f1,f2⟩:=Qct h (show (hmA t v).toNat < t.Cliques.length by omega)
   rw [show (((hmA t v).toNat : Nat):Int)=hmA t v by omega] at f1
   rw [Qco hv,Option.bind_some,f1,Option.bind_some,if_pos (by
    rw [Qjx,Qav (hfl v) f2]
    exact fun x=>hg ⟨by omega,by omega,x⟩)])
  (fun hI=>by unfold Yc; dsimp only; rw [hh,if_neg (nlt n)])
 exact hr
theorem Qta {n:Nat} {g:Int} {F:Nat → Tapi_Node} {t:Tapi_Tree} (hb:NB n F) (hbig:n≤1000) (h:Jp t) :
  (¬ Jo n g F∧Ye ⟨g,Qd n F⟩ t=some 50)∨(Jo n g F∧¬ Kw n (Qf F) t∧Ye ⟨g,Qd n F⟩ t=some 100)∨(Jo n g F∧Kw n (Qf F) t∧Ye ⟨g,Qd n F⟩ t=some 0):=by
 unfold Ye
 rcases Qkx (g:=g) hb (by omega) with ⟨hf,e⟩ | ⟨hf,e⟩
 ·right
  have hn:=hf.n8
  rw [e,Option.bind_some,if_neg (by simp)]
  dsimp only
  rw [Zp]
  by_cases c1:t.Cliques.length < 1
  ·rw [if_pos (by simp; omega)]; exact .inl ⟨hf,fun x=>by have:=x.c1; omega,rfl⟩
  rw [if_neg (by simp; omega)]
  by_cases c2:t.Cliques.length > 8
  ·rw [if_pos (by simp; omega)]; exact .inl ⟨hf,fun x=>by have:=x.c8; omega,rfl⟩
  rw [if_neg (by simp; omega)]
  by_cases c3:t.Up.length=t.Cliques.length
  ·rw [if_neg (by simp; omega)]
   by_cases c4:t.Home.length=n
   ·rw [if_neg (by simp; omega)]
    rcases Qyr (n:=n) (fam:=gl n (FG (Qf F))) (w:=0) hn (Zp _ _) h c3 with ⟨k1,e1⟩ | ⟨k1,e1⟩
    ·rw [e1,Option.bind_some]
     dsimp only
     rcases Qyd (q:=Qf F) (w:=0) hn h c4 with ⟨k2,e2⟩ | ⟨k2,e2⟩
     ·rw [e2]; exact .inr ⟨hf,⟨by omega,by omega,c3,c4,k1,k2⟩,rfl⟩
     ·rw [e2]; exact .inl ⟨hf,fun x=>k2 x.hm,rfl⟩
    ·rw [e1]; exact .inl ⟨hf,fun x=>k1 x.cq,rfl⟩
   ·rw [if_pos (by simp; omega)]; exact .inl ⟨hf,fun x=>c4 x.home,rfl⟩
  ·rw [if_pos (by simp; omega)]; exact .inl ⟨hf,fun x=>c3 x.up,rfl⟩
 ·left
  refine ⟨hf,?_⟩
  rw [e,Option.bind_some,if_pos (by decide)]
end Go.Ab
namespace Go.Ab
open Go
set_option maxRecDepth 100000
set_option maxHeartbeats 400000
def Rip:List (Nat → Bool)→Prop
 | []=>True
 | c::rest=>(rest=[]∨∃u∈rest,∀i,c i=true→(∃d∈rest,d i=true)→u i=true)∧Rip rest
theorem Q00 {n w:Nat} {A:Gr} (hG:Xd n A):∀(m k:Nat) (S:Nat → Bool) (cs:List (Nat → Bool)),k+cs.length=m→cnt n S=k→Rip cs→(∀i,i < n→S i=true→∃c∈cs,c i=true) →
  (∀a b,Egr A S a b=true→∃c∈cs,c a=true∧c b=true)→(∀c∈cs,cnt n (fun i=>c i && S i)≤w+1)→wid n A k S≤w:=by
 intro m
 induction m with
 | zero =>
  intro k S cs hm _ _ _ _ _
  have:k=0:=by omega
  subst this
  simp [wid]
 | succ m ih =>
  intro k S cs hm hc hr hv he hw
  cases cs with
  | nil =>
   have:k=0:=by
    rw [←hc]
    refine Qhy fun i hi=>?_
    rw [Bool.eq_false_iff]
    intro h
    obtain ⟨c,h1,_⟩:=hv i hi h
    cases h1
   subst this; simp [wid]
  | cons c rest =>
   by_cases hx:∃v,v < n∧S v=true∧c v=true∧∀d∈rest,d v=false
   ·obtain ⟨v,hvn,hS,hcv,hno⟩:=hx
    obtain ⟨k',rfl⟩:∃k',k=k'+1:=⟨k - 1,by have:=Qj3 hvn hS; omega⟩
    have hall:∀b,Egr A S v b=true→c b=true∧S b=true∧b≠v:=fun b hb=>by
     have hb':=J9.1 hb
     obtain ⟨d,h1,h2,h3⟩:=he v b hb
     rcases List.mem_cons.1 h1 with e | e
     ·subst e; exact ⟨h3,hb'.2.1,fun e=>hb'.2.2.1 e.symm⟩
     ·rw [hno d e] at h2; cases h2
    have hdeg:lateN n A S v≤w:=by
     have h1:lateN n A S v≤cnt n (fun i=>(c i && S i) && !decide (v=i)):=Qd7 fun i hi h=>by
      obtain ⟨a,b,d⟩:=hall i h
      have:¬ v=i:=fun e=>d e.symm
      simp [a,b,this]
     have h2:=Qcb (n:=n) (p:=fun i=>c i && S i) hvn (by simp [hcv,hS])
     have h3:=hw c (by simp)
     omega
    have hrem:wid n A k' (rem S v)≤w:=ih k' (rem S v) (c::rest) (by simp at hm ⊢; omega) (Qb9 hvn hS hc) hr
     (fun i hi h=>hv i hi (by unfold rem at h; simp only [Bool.and_eq_true] at h; exact h.1))
     (fun a b hab=>by
      rw [←Qp8 hG hS] at hab
      unfold elim at hab
      simp only [Bool.and_eq_true,Bool.or_eq_true] at hab
      rcases hab.1.1 with h | ⟨⟨h1,h2⟩,_⟩
      ·exact he a b h
      ·exact ⟨c,by simp,(hall a h1).1,(hall b h2).1⟩)
     (fun d hd=>Nat.le_trans (Qd7 fun i hi h=>by
      unfold rem at h
      simp only [Bool.and_eq_true] at h ⊢
      exact ⟨h.1,h.2.1⟩) (hw d hd))
    have h4:wid n A (k'+1) S≤max (lateN n A S v) (wid n A k' (rem S v)):=Qzn (n:=n) (f:=fun v=>max (lateN n A S v) (wid n A k' (rem S v))) hS n hvn
    omega
   ·have hin:∀v,v < n→S v=true→c v=true→∃d∈rest,d v=true:=fun v h1 h2 h3=>by
     apply Classical.byContradiction
     intro hno
     exact hx ⟨v,h1,h2,h3,fun d hd=>by
      rw [Bool.eq_false_iff]; intro h; exact hno ⟨d,hd,h⟩⟩
    have hlt:∀a b,Egr A S a b=true→a < n∧b < n:=fun a b h=>by
     have key:∀x y,Via A (fun i=>!S i) x y→x < n∧y < n:=fun x y h=>by
      induction h with
      | one h=>exact ⟨hG.lt _ _ (by rw [hG.sym]; exact by rw [hG.sym]; exact h) |> fun h=>h,hG.lt _ _ (by rw [hG.sym]; exact h)⟩
      | step h _ _ ih=>exact ⟨hG.lt _ _ h,ih.2⟩
     exact key a b (J9.1 h).2.2.2
    obtain ⟨h1,h2⟩:=hr
    refine ih k S rest (by simp at hm; omega) hc h2 (fun i hi h=>?_) (fun a b hab=>?_) fun d hd=>hw d (List.mem_cons_of_mem _ hd)
    ·obtain ⟨d,h3,h4⟩:=hv i hi h
     rcases List.mem_cons.1 h3 with e | e
     ·subst e; exact hin i hi h h4
     ·exact ⟨d,e,h4⟩
    ·obtain ⟨d,h3,h4,h5⟩:=he a b hab
     have hS:=J9.1 hab
     obtain ⟨la,lb⟩:=hlt a b hab
     rcases List.mem_cons.1 h3 with e | e
     ·subst e
      have da:=hin a la hS.1 h4
      have db:=hin b lb hS.2.1 h5
      rcases h1 with h1 | ⟨u,hu,hu2⟩
      ·subst h1
       obtain ⟨x,hx1,_⟩:=da; cases hx1
      ·exact ⟨u,hu,hu2 a h4 da,hu2 b h5 db⟩
     ·exact ⟨d,e,h4,h5⟩
theorem Qyy {n w:Nat} {A:Gr} {cs:List (Nat → Bool)} (hG:Xd n A) (hr:Rip cs) (hv:∀i,i < n→∃c∈cs,c i=true) (he:∀a b,A a b=true→∃c∈cs,c a=true∧c b=true) (hw:∀c∈cs,cnt n c≤w+1):wid n A n (fun _=>true)≤w:=by
 refine Q00 hG (n+cs.length) n (fun _=>true) cs rfl ?_ hr (fun i hi _=>hv i hi) (fun a b h=>?_) fun c hc=>?_
 ·exact Ky n
 ·rw [Qq3 hG fun _ _ _=>rfl] at h
  exact he a b h
 ·have:cnt n (fun i=>c i && true)=cnt n c:=Y4 fun i _=>by simp
  rw [this]; exact hw c hc
end Go.Ab
namespace Go.Ab
open Go
set_option maxRecDepth 100000
set_option maxHeartbeats 400000
def maxPc (n:Nat) (t:Tapi_Tree):Nat → Nat
 | 0=>0
 | i+1=>max (maxPc n t i) (pc n (cqN t i))
theorem Qew {n:Nat} {t:Tapi_Tree}:∀k i,i < k→pc n (cqN t i)≤maxPc n t k
 | 0,i,h=>by omega
 | k+1,i,h=>by
  simp only [maxPc]
  by_cases e:i=k
  ·subst e; omega
  ·have:=Qew (n:=n) (t:=t) k i (by omega); omega
theorem Qrd {n:Nat} {t:Tapi_Tree}:∀k,maxPc n t k≤n
 | 0=>Nat.zero_le _
 | k+1=>by
  have:=Qrd (n:=n) (t:=t) k
  have h2:pc n (cqN t k)≤n:=Qrh n _
  simp only [maxPc]; omega
theorem Qur {n:Nat} {q:Nat → List Nat} {t:Tapi_Tree} (hn:n≤8) (h:Jp t) (ht:Kw n q t):Qb fuel (V3 t) (0,0)=some (maxPc n t t.Cliques.length:Int):=by
 have hlen:=h.2.1
 have hr:=Jq (n:=t.Cliques.length) (k0:=0) (by omega) (by omega) (fun i (e:Int)=>(e,i)) (body:=V3 t) (fun i=>(maxPc n t i:Int)) (maxPc n t t.Cliques.length:Int)
  (fun i _ hi=>by
   obtain ⟨e1,e2⟩:=Qct h hi
   have:=(ht.cq i hi).2.1
   unfold V3
   dsimp only
   rw [if_pos (dlt hi),e1,Option.bind_some,Qud (by omega) this,Option.bind_some,Qxu]
   rfl)
  (by unfold V3; dsimp only; rw [if_neg (nlt _)])
 exact hr
theorem Qmw {n:Nat} {g:Int} {F:Nat → Tapi_Node} {t:Tapi_Tree} (hb:NB n F) (hbig:n≤1000) (h:Jp t) :
  (¬ Jo n g F∧X9 ⟨g,Qd n F⟩ t=some (0,50))∨(Jo n g F∧¬ Kw n (Qf F) t∧X9 ⟨g,Qd n F⟩ t=some (0,100))∨(Jo n g F∧Kw n (Qf F) t∧X9 ⟨g,Qd n F⟩ t=some ((maxPc n t t.Cliques.length:Int) - 1,0)):=by
 unfold X9
 rcases Qta (g:=g) hb hbig h with ⟨hf,e⟩ | ⟨hf,ht,e⟩ | ⟨hf,ht,e⟩
 ·exact .inl ⟨hf,by rw [e,Option.bind_some,if_pos (by decide)]⟩
 ·exact .inr (.inl ⟨hf,ht,by rw [e,Option.bind_some,if_pos (by decide)]⟩)
 ·refine .inr (.inr ⟨hf,ht,?_⟩)
  have:=Qrd (n:=n) (t:=t) t.Cliques.length
  have hn:=hf.n8
  rw [e,Option.bind_some,if_neg (by decide),Qur hf.n8 h ht,Option.bind_some,w64 (by omega)]
theorem Qnv {t:Tapi_Tree} {x:Nat}:∀i,(ahead t i).testBit x=true↔∃j,j < i∧(cqN t j).testBit x=true
 | 0=>by simp [ahead]
 | i+1=>by
  simp only [ahead]
  rw [Nat.testBit_or,Bool.or_eq_true,Qnv i]
  constructor
  ·rintro (⟨j,h1,h2⟩ | h)
   ·exact ⟨j,by omega,h2⟩
   ·exact ⟨i,by omega,h⟩
  ·rintro ⟨j,h1,h2⟩
   by_cases e:j=i
   ·subst e; exact .inr h2
   ·exact .inl ⟨j,by omega,h2⟩
def Qk0 (t:Tapi_Tree):Nat → List (Nat → Bool)
 | 0=>[]
 | i+1=>(cqN t i).testBit::Qk0 t i
theorem Qeu {t:Tapi_Tree} {c:Nat → Bool}:∀k,c∈Qk0 t k↔∃i,i < k∧c=(cqN t i).testBit
 | 0=>by simp [Qk0]
 | k+1=>by
  simp only [Qk0,List.mem_cons,Qeu k]
  constructor
  ·rintro (h | ⟨i,h1,h2⟩)
   ·exact ⟨k,by omega,h⟩
   ·exact ⟨i,by omega,h2⟩
  ·rintro ⟨i,h1,h2⟩
   by_cases e:i=k
   ·subst e; exact .inl h2
   ·exact .inr ⟨i,by omega,h2⟩
theorem Qo8 {n:Nat} {q:Nat → List Nat} {t:Tapi_Tree} (ht:Kw n q t):∀k,k≤t.Cliques.length→Rip (Qk0 t k)
 | 0,_=>trivial
 | k+1,hk=>by
  simp only [Qk0,Rip]
  refine ⟨?_,Qo8 ht k (by omega)⟩
  by_cases c:k=0
  ·subst c; exact .inl rfl
  ·right
   obtain ⟨u1,u2,u3⟩:=(ht.cq k (by omega)).2.2.2 (by omega)
   refine ⟨(cqN t (upA t k).toNat).testBit,(Qeu k).2 ⟨_,by omega,rfl⟩,fun i hi hd=>u3 i ?_⟩
   obtain ⟨d,h1,h2⟩:=hd
   obtain ⟨j,h3,rfl⟩:=(Qeu k).1 h1
   rw [Nat.testBit_and,hi,(Qnv k).2 ⟨j,h3,h2⟩]; rfl
theorem Qwp {n:Nat} {q:Nat → List Nat} {t:Tapi_Tree} (ht:Kw n q t):wid n (mg n q) n (fun _=>true)+1≤maxPc n t t.Cliques.length:=by
 have hpos:1≤maxPc n t t.Cliques.length:=by
  have h1:=ht.c1
  obtain ⟨a,b,_⟩:=ht.cq 0 (by omega)
  have:1≤pc n (cqN t 0):=by
   apply Classical.byContradiction
   intro hno
   have hz:pc n (cqN t 0)=0:=by omega
   apply a
   refine Nat.eq_of_testBit_eq fun j=>?_
   rw [Nat.zero_testBit,Bool.eq_false_iff]
   intro hj
   have hjn:j < n:=by
    apply Nat.lt_of_not_le
    intro hle
    have:=Nat.lt_of_lt_of_le b (Nat.pow_le_pow_right (n:=2) (by omega) hle)
    rw [Nat.testBit_lt_two_pow this] at hj; cases hj
   have:=Qj3 (n:=n) hjn hj
   unfold pc at hz; omega
  have:=Qew (n:=n) (t:=t) t.Cliques.length 0 (by omega); omega
 have fam:∀v,v < n→∃c∈Qk0 t t.Cliques.length,∀i,i < n→FG q v i=true→c i=true:=fun v hv=>by
  obtain ⟨h1,h2,h3⟩:=ht.hm v hv
  refine ⟨(cqN t (hmA t v).toNat).testBit,(Qeu _).2 ⟨_,by omega,rfl⟩,fun i hi hf=>?_⟩
  exact X1.1 h3 i (by rw [Q8]; simp [hi,hf])
 have:=Qyy (n:=n) (w:=maxPc n t t.Cliques.length - 1) (A:=mg n q) Qcc (Qo8 ht _ (Nat.le_refl _)) (fun i hi=>by
   obtain ⟨c,h1,h2⟩:=fam i hi
   exact ⟨c,h1,h2 i hi (by unfold FG; simp)⟩) (fun a b hab=>by
   unfold mg mgk at hab
   simp only [Bool.and_eq_true,decide_eq_true_eq,List.any_eq_true] at hab
   obtain ⟨⟨la,lb⟩,_,v,hv,fa,fb⟩:=hab
   obtain ⟨c,h1,h2⟩:=fam v (List.mem_range.1 hv)
   exact ⟨c,h1,h2 a la fa,h2 b lb fb⟩) (fun c hc=>by
   obtain ⟨i,hi,rfl⟩:=(Qeu _).1 hc
   have:=Qew (n:=n) (t:=t) t.Cliques.length i hi
   unfold pc at this; omega)
 omega
end Go.Ab
namespace Go.Ab
open Go
set_option maxRecDepth 100000
set_option maxHeartbeats 400000
def plc (n:Nat) (o:List Nat) (m:Nat):Nat := msk n fun i=>m.testBit (o.getD i n)
theorem Qre {n m:Nat} {o:List Nat}:plc n o m < 2^n:=Zm n _
theorem Qcg {n i m:Nat} {o:List Nat} (hi:i < n):(plc n o m).testBit i=m.testBit (o.getD i n):=by unfold plc; rw [Q8]; simp [hi]
theorem Qm2 {n a b:Nat} {o:List Nat}:plc n o (a &&& b)=plc n o a &&& plc n o b:=Nat.eq_of_testBit_eq fun j=>by
 unfold plc; rw [Nat.testBit_and,Q8,Q8,Q8,Nat.testBit_and]; cases decide (j < n) <;> simp
theorem Q2h {n a b:Nat} {o:List Nat}:plc n o (a ||| b)=plc n o a ||| plc n o b:=Nat.eq_of_testBit_eq fun j=>by
 unfold plc; rw [Nat.testBit_or,Q8,Q8,Q8,Nat.testBit_or]; cases decide (j < n) <;> simp
theorem Qqp {n:Nat} {o:List Nat}:plc n o 0=0:=Nat.eq_of_testBit_eq fun j=>by unfold plc; rw [Q8]; simp
theorem Qs9 (n:Nat) (p:Nat → Bool):cnt n p=(List.range n).countP p:=by
 induction n with
 | zero=>rfl
 | succ n ih =>
  rw [List.range_succ,List.countP_append,←ih]
  simp only [cnt,List.countP_cons,List.countP_nil]
  cases p n <;> rfl
theorem Qqf {n:Nat} {o:List Nat} (p:Nat → Bool):∀k,k≤o.length→cnt k (fun i=>p (o.getD i n))=(o.take k).countP p
 | 0,_=>rfl
 | k+1,hk=>by
  rw [Zb (by omega),List.countP_append,←Qqf (n:=n) p k (by omega)]
  have e:o.getD k n=o[k]:=by simp [List.getD,show k < o.length by omega]
  simp only [cnt,e,List.countP_cons,List.countP_nil]
  cases p o[k] <;> rfl
theorem Qxf {n:Nat} {o:List Nat} (ho:Ord n o):o.Perm (List.range n):=(List.perm_ext_iff_of_nodup ho.nodup List.nodup_range).2 fun a=>⟨fun h=>List.mem_range.2 (ho.lt a h),fun h=>Qaw ho.nodup ho.lt ho.len a (List.mem_range.1 h)⟩
theorem Q0t {n:Nat} {o:List Nat} (ho:Ord n o) (p:Nat → Bool):cnt n (fun i=>p (o.getD i n))=cnt n p:=by
 have:=Qqf (n:=n) (o:=o) p n (by rw [ho.len]; omega)
 rw [this,List.take_of_length_le (by rw [ho.len]; omega),Qs9,(Qxf ho).countP_eq]
theorem Qvj {n a:Nat} {o:List Nat} (ho:Ord n o):pc n (plc n o a)=pc n a:=by
 unfold pc
 rw [←Q0t ho a.testBit]
 exact Y4 fun i hi=>Qcg hi
theorem Q03 {n j:Nat} {o:List Nat} (ho:Ord n o) (hj:j < n):∃i,i < n∧o.getD i n=j:=by
 obtain ⟨i,hi,e⟩:=List.mem_iff_getElem.1 (Qaw ho.nodup ho.lt ho.len j hj)
 have:=ho.len
 exact ⟨i,by omega,by simp [List.getD,hi,e]⟩
theorem Qqa {n a j:Nat} (ha:a < 2^n) (h:a.testBit j=true):j < n:=by
 apply Nat.lt_of_not_le
 intro hle
 have:=Nat.lt_of_lt_of_le ha (Nat.pow_le_pow_right (n:=2) (by omega) hle)
 rw [Nat.testBit_lt_two_pow this] at h; cases h
theorem Qne {n a b:Nat} {o:List Nat} (ho:Ord n o) (ha:a < 2^n):subB (plc n o a) (plc n o b)=subB a b:=by
 rw [Bool.eq_iff_iff,X1,X1]
 constructor
 ·intro h j hj
  obtain ⟨i,hi,rfl⟩:=Q03 ho (Qqa ha hj)
  rw [←Qcg (o:=o) hi] at hj ⊢
  exact h i hj
 ·intro h i hi
  have hin:=Qqa Qre hi
  rw [Qcg hin] at hi ⊢
  exact h _ hi
theorem Qcf {n:Nat} {o l:List Nat} {k:Nat}:(l.map (plc n o)).getD k 0=plc n o (l.getD k 0):=by
 simp only [List.getD,List.getElem?_map]
 cases l[k]? with
 | none=>simp [Qqp]
 | some x=>rfl
theorem Qyi {n s:Nat} {o acc:List Nat} (ho:Ord n o) (hs:s < 2^n):Kc (acc.map (plc n o)) (plc n o s)=(Kc acc s).map (plc n o):=by
 unfold Kc
 have:(acc.map (plc n o)).any (subB (plc n o s))=acc.any (subB s):=by
  rw [List.any_map]
  congr 1
  exact funext fun x=>Qne ho hs
 rw [this]
 split
 ·rfl
 ·rw [List.map_append]; rfl
theorem Qpy {n:Nat} {o:List Nat} (ho:Ord n o):∀(l acc:List Nat),(∀s∈l,s < 2^n)→(l.map (plc n o)).foldl Kc (acc.map (plc n o))=(l.foldl Kc acc).map (plc n o)
 | [],acc,_=>rfl
 | s::l,acc,h=>by
  simp only [List.map_cons,List.foldl_cons]
  rw [Qyi ho (h s (by simp)),Qpy ho l _ fun x hx=>h x (List.mem_cons_of_mem _ hx)]
theorem Qym {n:Nat} {o l:List Nat} (ho:Ord n o) (h:∀s∈l,s < 2^n):Zu (l.map (plc n o))=(Zu l).map (plc n o):=Qpy ho l [] h
theorem Qse {n s:Nat} {o cl:List Nat} (ho:Ord n o):com n (cl.map (plc n o)) (plc n o s)=com n cl s:=by
 unfold com
 rw [List.foldl_map]
 congr 1
 exact funext fun m=>funext fun c=>by rw [←Qm2,Qvj ho]
theorem Qn8 {n:Nat} {o cl left:List Nat} (ho:Ord n o):∀k,Vk n (cl.map (plc n o)) (left.map (plc n o)) k=Vk n cl left k
 | 0=>rfl
 | k+1=>by simp only [Vk,Qn8 ho k,Qcf,Qse ho]
theorem Q0a {n s:Nat} {o cl:List Nat} (ho:Ord n o):upI n (cl.map (plc n o)) (plc n o s)=upI n cl s:=by
 unfold upI
 rw [List.findIdx_map]
 congr 1
 exact funext fun c=>by simp only [Function.comp,Qse ho,←Qm2,Qvj ho]
theorem Qvk {α β:Type} (f:α→β) (l:List α) (i:Nat):(l.map f).eraseIdx i=(l.eraseIdx i).map f:=by
 rw [List.eraseIdx_eq_take_drop_succ,List.eraseIdx_eq_take_drop_succ,List.map_append,List.map_take,List.map_drop]
theorem Qso {n:Nat} {o:List Nat} (ho:Ord n o):∀(k:Nat) (left cl up:List Nat),bld n k (left.map (plc n o)) (cl.map (plc n o)) up=((bld n k left cl up).1.map (plc n o),(bld n k left cl up).2)
 | 0,_,_,_=>rfl
 | k+1,left,cl,up=>by
  have hp:pickI n (cl.map (plc n o)) (left.map (plc n o))=pickI n cl left:=by unfold pickI; rw [List.length_map,Qn8 ho]
  simp only [bld]
  rw [hp,Qcf,Q0a ho,Qvk,show cl.map (plc n o)++[plc n o (left.getD (pickI n cl left) 0)]=(cl++[left.getD (pickI n cl left) 0]).map (plc n o) by simp,Qso ho k]
def trL (n:Nat) (l:List Nat):List Nat × List Nat := bld n ((Zu l).length - 1) ((Zu l).take ((Zu l).length - 1)) [(Zu l).getD ((Zu l).length - 1) 0] []
theorem Q0o {n:Nat} {A:Gr} {o:List Nat}:mkB n A o=trL n (Qz n A o):=rfl
theorem Q0q {n:Nat} {o l:List Nat} (ho:Ord n o) (h:∀s∈l,s < 2^n):trL n (l.map (plc n o))=((trL n l).1.map (plc n o),(trL n l).2):=by
 unfold trL
 rw [Qym ho h,List.length_map,←List.map_take,Qcf]
 exact Qso ho _ _ [_] []
def orU (l:List Nat) (i:Nat):Nat := (l.take i).foldl (fun a b=>a ||| b) 0
def okB (x:List Nat × List Nat):Bool:=(List.range x.1.length).all fun i=>(Nat.beq i 0 || (Nat.blt (x.2.getD (i - 1) 0) i && subB (x.1.getD i 0 &&& orU x.1 i) (x.1.getD (x.2.getD (i - 1) 0) 0))) && (List.range x.1.length).all fun j=>Nat.beq i j || !subB (x.1.getD i 0) (x.1.getD j 0)
theorem Qsm {n:Nat} {o:List Nat}:∀(l:List Nat) (a:Nat),(l.map (plc n o)).foldl (fun a b=>a ||| b) (plc n o a)=plc n o (l.foldl (fun a b=>a ||| b) a)
 | [],a=>rfl
 | x::l,a=>by simp only [List.map_cons,List.foldl_cons]; rw [←Q2h,Qsm l]
theorem Qzv {n i:Nat} {o l:List Nat}:orU (l.map (plc n o)) i=plc n o (orU l i):=by
 unfold orU
 rw [←List.map_take,←Qsm,Qqp]
theorem Qr8 {n:Nat} {l:List Nat} (h:∀s∈l,s < 2^n) (i:Nat):l.getD i 0 < 2^n:=by
 have:=Nat.two_pow_pos n
 by_cases c:i < l.length
 ·have e:l.getD i 0=l[i]:=by simp [List.getD,c]
  rw [e]; exact h _ (List.getElem_mem c)
 ·have e:l.getD i 0=0:=by simp [List.getD,List.getElem?_eq_none (show l.length≤i by omega)]
  rw [e]; exact this
theorem Q0e {n:Nat} {o:List Nat} {x:List Nat × List Nat} (ho:Ord n o) (h:∀s∈x.1,s < 2^n):okB (x.1.map (plc n o),x.2)=okB x:=by
 unfold okB
 simp only [List.length_map,Qcf,Qzv,←Qm2]
 congr 1
 funext i
 rw [Qne ho (Nat.lt_of_le_of_lt Nat.and_le_left (Qr8 h i))]
 congr 1
 congr 1
 funext j
 rw [Qne ho (Qr8 h i)]
def Qo4 (n i x:Nat) (L:List Nat):Bool:=(List.range n).all fun j=>if Nat.blt j i then !x.testBit j else if Nat.beq j i then x.testBit i else !x.testBit j || subB ((x >>> j) <<< j) (L.getD (j - i - 1) 0)
def gen (n:Nat):Nat → List (List Nat)
 | 0=>[[]]
 | k+1=>(gen n k).flatMap fun L=>((List.range (2^n)).filter fun x=>Qo4 n (n - (k+1)) x L).map (·::L)
theorem Qs3 {n:Nat} {T:List Nat} (hT:T.length=n) (hlt:∀s∈T,s < 2^n) (hs:∀i,i < n→Qo4 n i (T.getD i 0) (T.drop (i+1))=true):∀k,k≤n→T.drop (n - k)∈gen n k
 | 0,_=>by
  rw [List.drop_of_length_le (by omega)]; simp [gen]
 | k+1,hk=>by
  have ih:=Qs3 hT hlt hs k (by omega)
  have hi:n - (k+1) < T.length:=by omega
  have e:T.drop (n - (k+1))=T[n - (k+1)]::T.drop (n - k):=by
   rw [List.drop_eq_getElem_cons hi,show n - (k+1)+1=n - k by omega]
  have e2:T.getD (n - (k+1)) 0=T[n - (k+1)]:=by simp [List.getD,hi]
  have h:=hs (n - (k+1)) (by omega)
  rw [e2,show n - (k+1)+1=n - k by omega] at h
  simp only [gen,List.mem_flatMap,List.mem_map,List.mem_filter,List.mem_range]
  exact ⟨_,ih,_,⟨hlt _ (List.getElem_mem hi),h⟩,e.symm⟩
theorem Q3c:((gen 1 1).all fun T=>okB (trL 1 T))=true:=by kernel_rfl
theorem Q3e:((gen 2 2).all fun T=>okB (trL 2 T))=true:=by kernel_rfl
theorem Q28:((gen 3 3).all fun T=>okB (trL 3 T))=true:=by kernel_rfl
theorem Q3l:((gen 4 4).all fun T=>okB (trL 4 T))=true:=by kernel_rfl
theorem Q3j:((gen 5 5).all fun T=>okB (trL 5 T))=true:=by kernel_rfl
theorem Qj1 {n:Nat}:∀(o:List Nat) (A:Gr) (i:Nat) (hi:i < o.length),(Qz n A o).getD i 0=msk n (setP (seqA A (o.take i)) o[i])
 | v::o,A,0,hi=>rfl
 | v::o,A,i+1,hi=>by
  simp only [Qz,List.getD_cons_succ,List.take_succ_cons,List.getElem_cons_succ]
  rw [Qj1 o (elim A v) i (by simpa using hi)]; rfl
theorem Qx5 {A:Gr} {v u w:Nat} (h:A u w=true) (h1:¬ u=v) (h2:¬ w=v):elim A v u w=true:=by unfold elim; simp [h,h1,h2]
theorem Qpw {n:Nat}:∀(o:List Nat) (A:Gr) (j k:Nat) (hj:j < o.length) (hk:k < o.length),o.Nodup→(∀v∈o,v < n)→j < k→A o[j] o[k]=true→((Qz n A o).getD j 0).testBit o[k]=true
 | v::o,A,0,k+1,hj,hk,hn,hl,hjk,h=>by
  simp only [Qz,List.getD_cons_zero]
  rw [Q8,decide_eq_true (hl _ (List.getElem_mem hk))]
  unfold setP
  have h:A v (o[k]'(by simpa using hk))=true:=h
  simp [h]
 | v::o,A,j+1,k+1,hj,hk,hn,hl,hjk,h=>by
  simp only [Qz,List.getD_cons_succ,List.getElem_cons_succ] at h ⊢
  have hno:=(List.nodup_cons.1 hn).1
  refine Qpw o _ j k (by simpa using hj) (by simpa using hk) (List.nodup_cons.1 hn).2 (fun x hx=>hl x (List.mem_cons_of_mem _ hx)) (by omega) (Qx5 h (fun e=>?_) fun e=>?_)
  ·exact hno (by rw [←e]; exact List.getElem_mem _)
  ·exact hno (by rw [←e]; exact List.getElem_mem _)
theorem Qp7 {o:List Nat} (h:o.Nodup) {i j:Nat} (hi:i < o.length) (hj:j < o.length) (hij:i≠j):¬ o[i]=o[j]:=by
 rcases Nat.lt_or_gt_of_ne hij with c | c
 ·exact (List.pairwise_iff_getElem.1 h) i j hi hj c
 ·exact fun e=>(List.pairwise_iff_getElem.1 h) j i hj hi c e.symm
theorem Qln {n:Nat}:∀(o:List Nat) (A:Gr) (i j k:Nat) (hj:j < o.length) (hk:k < o.length),o.Nodup→(∀v∈o,v < n)→i < j→j < k→((Qz n A o).getD i 0).testBit o[j]=true→((Qz n A o).getD i 0).testBit o[k]=true→((Qz n A o).getD j 0).testBit o[k]=true
 | v::o,A,0,j+1,k+1,hj,hk,hn,hl,hij,hjk,h1,h2=>by
  simp only [Qz,List.getD_cons_zero,List.getD_cons_succ,List.getElem_cons_succ] at h1 h2 ⊢
  have hno:=(List.nodup_cons.1 hn).1
  have hj':j < o.length:=by simpa using hj
  have hk':k < o.length:=by simpa using hk
  have n1:¬ v=o[j]:=fun e=>hno (by rw [e]; exact List.getElem_mem _)
  have n2:¬ v=o[k]:=fun e=>hno (by rw [e]; exact List.getElem_mem _)
  have n3:=Qp7 (List.nodup_cons.1 hn).2 hj' hk' (by omega)
  rw [Q8] at h1 h2
  unfold setP at h1 h2
  simp only [n1,n2,decide_false,Bool.or_false,Bool.and_eq_true] at h1 h2
  refine Qpw o _ j k hj' hk' (List.nodup_cons.1 hn).2 (fun x hx=>hl x (List.mem_cons_of_mem _ hx)) (by omega) ?_
  unfold elim
  simp [h1.2,h2.2,n3,show ¬ o[j]=v from fun e=>n1 (Eq.symm e),show ¬ o[k]=v from fun e=>n2 (Eq.symm e)]
 | v::o,A,i+1,j+1,k+1,hj,hk,hn,hl,hij,hjk,h1,h2=>by
  simp only [Qz,List.getD_cons_succ,List.getElem_cons_succ] at h1 h2 ⊢
  exact Qln o _ i j k (by simpa using hj) (by simpa using hk) (List.nodup_cons.1 hn).2 (fun x hx=>hl x (List.mem_cons_of_mem _ hx)) (by omega) (by omega) h1 h2
theorem Qy0 {n:Nat} {A:Gr} {o:List Nat} (hG:Xd n A) (ho:Ord n o) {i:Nat} (hi:i < n):Qo4 n i (((Qz n A o).map (plc n o)).getD i 0) (((Qz n A o).map (plc n o)).drop (i+1))=true:=by
 have hlen:=ho.len
 have hoi:∀j (hj:j < n),o.getD j n=o[j]'(by omega):=fun j hj=>by simp [List.getD,show j < o.length by omega]
 unfold Qo4
 rw [List.all_eq_true]
 intro j hj
 have hj:=List.mem_range.1 hj
 rw [Qcf]
 by_cases c:j < i
 ·rw [if_pos (by simpa using c),Qcg hj,hoi j hj,Qj1 o A i (by omega),Q8]
  unfold setP
  have h1:=Qk6 (o:=o.take i) (x:=o[j]'(by omega)) hG (.inl (List.mem_take_iff_getElem.2 ⟨j,by omega,rfl⟩)) (o[i]'(by omega))
  rw [(Qjg (o:=o.take i) hG).sym,h1]
  have:=Qp7 ho.nodup (show i < o.length by omega) (show j < o.length by omega) (by omega)
  simp [this]
 ·rw [if_neg (by simpa using c)]
  by_cases e:j=i
  ·subst e
   rw [if_pos (by simp),Qcg hj,hoi j hj,Qj1 o A j (by omega),Q8,decide_eq_true (ho.lt _ (List.getElem_mem _))]
   unfold setP; simp
  ·rw [if_neg (by simpa using e)]
   cases hb:(plc n o ((Qz n A o).getD i 0)).testBit j with
   | false=>rfl
   | true =>
    simp only [Bool.not_true,Bool.false_or]
    rw [X1]
    intro k hk
    have ed:(((Qz n A o).map (plc n o)).drop (i+1)).getD (j - i - 1) 0=plc n o ((Qz n A o).getD j 0):=by
     rw [←Qcf]
     simp only [List.getD,List.getElem?_drop]
     rw [show i+1+(j - i - 1)=j by omega]
    rw [ed]
    rw [Nat.testBit_shiftLeft,Bool.and_eq_true,Nat.testBit_shiftRight] at hk
    obtain ⟨h1,h2⟩:=hk
    have h1:j≤k:=by simpa using h1
    rw [show j+(k - j)=k by omega] at h2
    have hk:=Qqa Qre h2
    rw [Qcg hj,hoi j hj] at hb
    rw [Qcg hk,hoi k hk] at h2 ⊢
    by_cases e2:j=k
    ·subst e2
     rw [Qj1 o A j (by omega),Q8,decide_eq_true (ho.lt _ (List.getElem_mem _))]
     unfold setP; simp
    ·exact Qln o A i j k (by omega) (by omega) ho.nodup ho.lt (by omega) (by omega) hb h2
theorem Q14 {n:Nat} {A:Gr} {o:List Nat} (h1:1≤n) (h5:n≤5) (hG:Xd n A) (ho:Ord n o):okB (mkB n A o)=true:=by
 have hlt:∀s∈(mkB n A o).1,s < 2^n:=fun s hs=>Qd2 o A s (Qfg (((Qd5 (n:=n) (A:=A) (o:=o) (by rw [ho.len]; omega)).1 s).2 hs))
 have hg:(Qz n A o).map (plc n o)∈gen n n:=by
  have:=Qs3 (n:=n) (T:=(Qz n A o).map (plc n o)) (by rw [List.length_map,Qen,ho.len]) (fun s hs=>by
   obtain ⟨x,_,rfl⟩:=List.mem_map.1 hs
   exact Qre) (fun i hi=>Qy0 hG ho hi) n (Nat.le_refl _)
  rwa [Nat.sub_self,List.drop_zero] at this
 have hall:okB (trL n ((Qz n A o).map (plc n o)))=true:=by
  have:n=1∨n=2∨n=3∨n=4∨n=5:=by omega
  rcases this with e | e | e | e | e <;> subst e
  ·exact List.all_eq_true.1 Q3c _ hg
  ·exact List.all_eq_true.1 Q3e _ hg
  ·exact List.all_eq_true.1 Q28 _ hg
  ·exact List.all_eq_true.1 Q3l _ hg
  ·exact List.all_eq_true.1 Q3j _ hg
 rw [Q0q ho (Qd2 o A),←Q0o,Q0e ho hlt] at hall
 exact hall
end Go.Ab
namespace Go.Ab
open Go
set_option maxRecDepth 100000
set_option maxHeartbeats 400000
section
variable {n:Nat} {q:Nat → List Nat} {o:List Nat}
theorem Qcv (i:Nat):cqN (mkT n q o) i=(mkB n (mg n q) o).1.getD i 0:=by
 show (((nI (mkB n (mg n q) o).1)[i]?).getD 0).toNat = _
 unfold nI
 rw [List.getElem?_map,List.getD_eq_getElem?_getD]
 cases (mkB n (mg n q) o).1[i]? <;> simp
theorem Qy1:upA (mkT n q o) 0=-1:=rfl
theorem Q15 (i:Nat):upA (mkT n q o) (i+1)=((mkB n (mg n q) o).2.getD i 0:Int):=by
 show ((nI (mkB n (mg n q) o).2)[i]?).getD 0=_
 unfold nI
 rw [List.getElem?_map,List.getD_eq_getElem?_getD]
 cases (mkB n (mg n q) o).2[i]? <;> simp
theorem Qqq {v:Nat} (hv:v < n):hmA (mkT n q o) v=(homeI (mkB n (mg n q) o).1 (msk n (FG q v)):Int):=by
 show ((nI ((List.range n).map fun v=>homeI (mkB n (mg n q) o).1 (msk n (FG q v))))[v]?).getD 0=_
 unfold nI
 rw [List.getElem?_map,List.getElem?_map,List.getElem?_range hv]
 rfl
theorem Qpf:∀i,i≤(mkB n (mg n q) o).1.length→ahead (mkT n q o) i=orU (mkB n (mg n q) o).1 i
 | 0,_=>rfl
 | i+1,h=>by
  simp only [ahead]
  rw [Qpf i (by omega),Qcv]
  unfold orU
  rw [Zb (by omega),List.foldl_append]
  have e:(mkB n (mg n q) o).1.getD i 0=(mkB n (mg n q) o).1[i]:=by simp [List.getD,show i < (mkB n (mg n q) o).1.length by omega]
  rw [e]; rfl
theorem Qvq:(mkT n q o).Cliques.length=(mkB n (mg n q) o).1.length:=Qo _
end
theorem Qq4 {n:Nat}:∀(o:List Nat) (A:Gr),(∀v∈o,v < n)→∀s∈Qz n A o,s≠0
 | v::o,A,hl,s,hs=>by
  simp only [Qz,List.mem_cons] at hs
  rcases hs with rfl | hs
  ·intro h
   have hb:(msk n (setP A v)).testBit v=true:=by rw [Q8,decide_eq_true (hl v (by simp))]; unfold setP; simp
   rw [h,Nat.zero_testBit] at hb; cases hb
  ·exact Qq4 o _ (fun x hx=>hl x (List.mem_cons_of_mem _ hx)) s hs
structure Q3p (n:Nat) (A:Gr) (o:List Nat):Prop where
 up:∀i,0 < i→i < (mkB n A o).1.length→(mkB n A o).2.getD (i - 1) 0 < i∧Qf6 ((mkB n A o).1.getD i 0 &&& orU (mkB n A o).1 i) ((mkB n A o).1.getD ((mkB n A o).2.getD (i - 1) 0) 0)
 anti:∀i j,i < (mkB n A o).1.length→j < (mkB n A o).1.length→i≠j→subB ((mkB n A o).1.getD i 0) ((mkB n A o).1.getD j 0)=false
theorem Q2w {n:Nat} {A:Gr} {o:List Nat} (h1:1≤n) (h5:n≤5) (hG:Xd n A) (ho:Ord n o):Q3p n A o:=by
 have h:=Q14 h1 h5 hG ho
 unfold okB at h
 rw [List.all_eq_true] at h
 constructor
 ·intro i h0 hi
  have:=h i (List.mem_range.2 hi)
  rw [Bool.and_eq_true,Bool.or_eq_true,Bool.and_eq_true] at this
  rcases this.1 with e | ⟨a,b⟩
  ·have:=Nat.eq_of_beq_eq_true e; omega
  ·exact ⟨by simpa [Nat.blt_eq] using a,X1.1 b⟩
 ·intro i j hi hj hne
  have:=h i (List.mem_range.2 hi)
  rw [Bool.and_eq_true,List.all_eq_true] at this
  have:=this.2 j (List.mem_range.2 hj)
  rw [Bool.or_eq_true] at this
  rcases this with e | e
  ·exact absurd (Nat.eq_of_beq_eq_true e) hne
  ·simpa using e
theorem Qpv {n:Nat} {A:Gr} {o:List Nat} (h1:1≤n) (ho:Ord n o):∀s∈(mkB n A o).1,s∈Qz n A o∧s < 2^n:=fun s hs=>by
 have hm:=Qfg (((Qd5 (n:=n) (A:=A) (o:=o) (by rw [ho.len]; omega)).1 s).2 hs)
 exact ⟨hm,Qd2 o A s hm⟩
theorem Qpc {l:List Nat} {i:Nat} (hi:i < l.length):l.getD i 0∈l:=by
 have e:l.getD i 0=l[i]:=by simp [List.getD,hi]
 rw [e]; exact List.getElem_mem hi
theorem Qjt {n:Nat} {q:Nat → List Nat} {o:List Nat} (h1:1≤n) (hn:n≤8) (ho:Ord n o):Jp (mkT n q o):=by
 obtain ⟨l1,l2,l3,l4⟩:=Qnt (q:=q) ho h1
 have p8:(2:Nat)^n≤256:=Nat.pow_le_pow_right (n:=2) (by omega) hn
 refine ⟨fun c hc=>?_,by omega,by omega,by omega⟩
 have hc:c∈nI (mkB n (mg n q) o).1:=hc
 unfold nI at hc
 obtain ⟨x,hx,rfl⟩:=List.mem_map.1 hc
 have:=(Qpv h1 ho x hx).2
 omega
theorem Qw0 {n:Nat} {q:Nat → List Nat} {o:List Nat} (h1:1≤n) (h5:n≤5) (hq:∀v,v < n→∀p∈q v,p < n) (ho:Ord n o):Kw n q (mkT n q o):=by
 obtain ⟨l1,l2,l3,l4⟩:=Qnt (q:=q) ho h1
 have M:=Q2w h1 h5 (Qcc (n:=n) (q:=q)) ho
 have hlen:(mkT n q o).Cliques.length=(mkB n (mg n q) o).1.length:=Qvq
 refine ⟨l2,by omega,l3,l4,fun i hi=>?_,fun v hv=>?_⟩
 ·rw [hlen] at hi
  obtain ⟨m1,m2⟩:=Qpv h1 ho _ (Qpc hi)
  refine ⟨?_,?_,fun e=>by subst e; exact Qy1,fun h0=>?_⟩
  ·rw [Qcv]; exact Qq4 o _ ho.lt _ m1
  ·rw [Qcv]; exact m2
  ·obtain ⟨i,rfl⟩:∃j,i=j+1:=⟨i - 1,by omega⟩
   obtain ⟨a,b⟩:=M.up (i+1) h0 hi
   rw [Nat.add_sub_cancel] at a b
   rw [Q15]
   refine ⟨by omega,by omega,?_⟩
   rw [Int.toNat_natCast,Qcv,Qcv,Qpf _ (by omega)]
   exact b
 ·have hf:=Qwt ho hv (hq v hv)
  have h3:=Qsv hf
  refine ⟨by rw [Qqq hv]; omega,by rw [Qqq hv,hlen]; omega,?_⟩
  rw [Qqq hv,Int.toNat_natCast,Qcv]
  have:=List.findIdx_getElem (w:=h3)
  have e:(mkB n (mg n q) o).1.getD (homeI (mkB n (mg n q) o).1 (msk n (FG q v))) 0=(mkB n (mg n q) o).1[homeI (mkB n (mg n q) o).1 (msk n (FG q v))]:=by simp [List.getD,h3]
  rw [e]; exact this
theorem Qwl {n v:Nat} {A:Gr} (hG:Xd n A) (hv:v < n):pc n (msk n (setP A v))=cnt n (A v)+1:=by
 unfold pc
 have h:=Qcb (n:=n) (v:=v) (p:=setP A v) hv (by unfold setP; simp)
 have e:cnt n (fun i=>setP A v i && !decide (v=i))=cnt n (A v):=Y4 fun i _=>by
  unfold setP
  by_cases c:v=i
  ·subst c; simp [hG.irr]
  ·simp [c]
 rw [e] at h
 rw [show cnt n (msk n (setP A v)).testBit=cnt n (setP A v) from Y4 fun i hi=>Ym i hi]
 omega
theorem Qpg {n:Nat}:∀(o:List Nat) (A:Gr),Xd n A→(∀v∈o,v < n)→∀s∈Qz n A o,pc n s≤Qde n A o+1
 | v::o,A,hG,hl,s,hs=>by
  simp only [Qz,List.mem_cons] at hs
  simp only [Qde]
  rcases hs with rfl | hs
  ·rw [Qwl hG (hl v (by simp))]; omega
  ·have:=Qpg o _ (Qe1 hG v) (fun x hx=>hl x (List.mem_cons_of_mem _ hx)) s hs; omega
theorem Qri {n:Nat}:∀(o:List Nat) (A:Gr),Xd n A→(∀v∈o,v < n)→o≠[]→∃s∈Qz n A o,Qde n A o+1≤pc n s
 | v::o,A,hG,hl,_=>by
  simp only [Qz,Qde]
  by_cases c:Qde n (elim A v) o≤cnt n (A v)
  ·exact ⟨_,List.mem_cons_self ..,by rw [Qwl hG (hl v (by simp))]; omega⟩
  ·have hne:o≠[]:=fun e=>by subst e; simp [Qde] at c
   obtain ⟨s,h1,h2⟩:=Qri o _ (Qe1 hG v) (fun x hx=>hl x (List.mem_cons_of_mem _ hx)) hne
   exact ⟨s,List.mem_cons_of_mem _ h1,by omega⟩
theorem Qn3 {n b:Nat} {t:Tapi_Tree}:∀k,(∀i,i < k→pc n (cqN t i)≤b)→maxPc n t k≤b
 | 0,_=>Nat.zero_le _
 | k+1,h=>by
  have:=Qn3 (n:=n) (t:=t) k fun i hi=>h i (by omega)
  have:=h k (by omega)
  simp only [maxPc]; omega
theorem Q0n {n:Nat} {q:Nat → List Nat} {o:List Nat} (h1:1≤n) (ho:Ord n o):maxPc n (mkT n q o) (mkT n q o).Cliques.length=Qde n (mg n q) o+1:=by
 have hlen:(mkT n q o).Cliques.length=(mkB n (mg n q) o).1.length:=Qvq
 have hG:=Qcc (n:=n) (q:=q)
 have hop:0 < o.length:=by rw [ho.len]; omega
 apply Nat.le_antisymm
 ·refine Qn3 _ fun i hi=>?_
  rw [hlen] at hi
  rw [Qcv]
  exact Qpg o _ hG ho.lt _ (Qpv h1 ho _ (Qpc hi)).1
 ·obtain ⟨s,hs,hw⟩:=Qri o _ hG ho.lt (List.ne_nil_of_length_pos hop)
  obtain ⟨e,h3,h4⟩:=Qg7 (l:=Qz n (mg n q) o) _ (Nat.le_refl _) s (by rw [List.take_length]; exact hs)
  rw [List.take_length] at h3
  have h5:=((Qd5 (n:=n) (A:=mg n q) hop).1 e).1 h3
  obtain ⟨i,hi,rfl⟩:=List.mem_iff_getElem.1 h5
  have e1:(mkB n (mg n q) o).1.getD i 0=(mkB n (mg n q) o).1[i]:=by simp [List.getD,hi]
  have h6:=Qew (n:=n) (t:=mkT n q o) (mkT n q o).Cliques.length i (by omega)
  rw [Qcv,e1] at h6
  have h7:pc n s≤pc n (mkB n (mg n q) o).1[i]:=Qd7 fun j _ hj=>X1.1 h4 j hj
  omega
end Go.Ab
namespace Go.Ab
open Go
set_option maxRecDepth 100000
set_option maxHeartbeats 400000
section
variable {n:Nat} {q:Nat → List Nat} {t:Tapi_Tree} {w:Int}
end
theorem Quk {p0:Qc} {p2:Int × Int × Int × Int × Int × Int × Int × Int} (h0:Yz p0)
  (h2:(Lit.int .u8 p2.1).wf=true∧(Lit.int .u8 p2.2.1).wf=true∧(Lit.int .u8 p2.2.2.1).wf=true∧(Lit.int .u8 p2.2.2.2.1).wf=true∧(Lit.int .u8 p2.2.2.2.2.1).wf=true∧(Lit.int .u8 p2.2.2.2.2.2.1).wf=true∧(Lit.int .u8 p2.2.2.2.2.2.2.1).wf=true∧(Lit.int .u8 p2.2.2.2.2.2.2.2).wf=true) :
  ∃(D:NF) (o:List Nat),VX D∧1≤D.n∧D.n≤5∧NB D.n D.node∧Jo D.n D.g D.node∧Ord D.n o∧Vh p0=some ⟨D.g,Qd D.n D.node⟩∧Jk (D.n:Int) (-1) p2=some (nI o)∧Vo ⟨D.g,Qd D.n D.node⟩ (nI o)=some (mkT D.n (Qf D.node) o,0)∧Kw D.n (Qf D.node) (mkT D.n (Qf D.node) o)∧Jp (mkT D.n (Qf D.node) o):=by
 obtain ⟨D,X,hn,_,e⟩:=Qw3 (Q0z h0)
 have hf:=Qxb X
 have hb:=Q0l (Qtk X)
 obtain ⟨o,ho,eo⟩:=Qwj (n:=D.n) (by omega) (Q1i h2)
 refine ⟨D,o,X,hf.n1,hn,hb,hf,ho,e,eo,?_,Qw0 hf.n1 hn (fun v hv=>(K7 (hf.node v hv).1.1).2.2) ho,Qjt hf.n1 hf.n8 ho⟩
 rcases Qw2 (g:=D.g) (l:=nI o) hb (by omega) (by rw [Qo,ho.len]; omega) with ⟨hf',_⟩ | ⟨_,hp,_⟩ | ⟨_,o',e1,ho',e2⟩
 ·exact absurd hf hf'
 ·exact absurd (Qz9 ho) (fun h=>hp ⟨h,by rw [Qo]; exact ho.len⟩)
 ·have:o=o':=by
   unfold nI at e1
   exact (List.map_inj_right (fun a b h=>by omega)).1 e1
  subst this; exact e2
end Go.Ab
