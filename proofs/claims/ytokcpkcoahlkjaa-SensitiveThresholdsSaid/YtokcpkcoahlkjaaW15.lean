/- What functions compute. No conditions. -/
import Derived.Test.YtokcpkcoahlkjaaW14
import Derived.Test.YtokcpkcoahlkjaaEng7
import Derived.Test.YtokcpkcoahlkjaaW10
import Derived.KernelRfl
set_option linter.all false
namespace Go.Ab
open Go
set_option maxRecDepth 100000
set_option maxHeartbeats 400000
def Qg2 (g c:Int) (r:List Int):Prop:=(r.length:Int)=c∧(∀w∈r,0≤w)∧r.sum=g
def Qh1 (g:Int) (C:Nat → Nat) (x:Tapi_Node) (q:List Nat):Prop:=x.Rows.length=lprod C q∧∀r∈x.Rows,Qg2 g x.Card r
theorem Qfa {l:List Int} {k:Nat} (h:k < l.length):(l.take (k+1)).sum=(l.take k).sum+l[k]:=by
 rw [Xn h,List.sum_append]; simp
theorem Qls:∀{l:List Int},(∀w∈l,0≤w)→0≤l.sum
 | [],_=>by simp
 | w::l,h=>by
  have h1:=h w (by simp)
  have h2:=Qls (l:=l) fun x hx=>h x (List.mem_cons_of_mem _ hx)
  rw [List.sum_cons]; omega
theorem Qp9 {l:List Int} {k:Nat} (h:∀w∈l,0≤w):(l.take k).sum≤l.sum∧0≤(l.take k).sum:=by
 have h1:l.sum=(l.take k).sum+(l.drop k).sum:=by rw [←List.sum_append,List.take_append_drop]
 have h2:=Qls (l:=l.drop k) fun w hw=>h w (List.mem_of_mem_drop hw)
 have h3:=Qls (l:=l.take k) fun w hw=>h w (List.mem_of_mem_take hw)
 omega
theorem Qwp {g:Int} {r:List Int} (hg:0≤g) (hg60:g≤60) (hr:r.length≤1000000) :
  (((∀w∈r,0≤w)∧r.sum≤g)∧Qd fuel (Za r) (g,0)=some (.inr (g - r.sum)))∨(¬ ((∀w∈r,0≤w)∧r.sum≤g)∧Qd fuel (Za r) (g,0)=some (.inl ())):=by
 have pre:∀k,k≤r.length→(∀j,j < k→0≤(r[j]?).getD 0∧(r[j]?).getD 0≤g - (r.take j).sum)→0≤(r.take k).sum∧(r.take k).sum≤g:=by
  intro k
  induction k with
  | zero=>intro _ _; simp; omega
  | succ k ih =>
   intro hk h
   have h1:=ih (by omega) fun j hj=>h j (by omega)
   have h2:=h k (by omega)
   rw [List.getElem?_eq_getElem (by omega)] at h2
   rw [Qfa (by omega)]
   simp at h2; omega
 have h:=Yh (n:=r.length) (by omega) (fun k=>0≤(r[k]?).getD 0∧(r[k]?).getD 0≤g - (r.take k).sum) (fun i (t:Int)=>(t,i)) (body:=Za r)
  (fun k=>g - (r.take k).sum) (.inr (g - r.sum)) (.inl ())
  (fun k hk hI hgd=>by
   have hp:=pre k (by omega) hI
   have ek:lkI r (k:Int)=some r[k]:=Qn hk
   rw [List.getElem?_eq_getElem hk] at hgd
   simp only [Option.getD_some] at hgd
   unfold Za
   dsimp only
   rw [if_pos (dlt hk),ek,Option.bind_some,if_neg (by simp; omega),if_neg (by simp; omega),w64 (n:=g - (r.take k).sum - r[k]) (by omega),Qfa hk]
   congr 3
   omega)
  (fun k hk hI hgd=>by
   have ek:lkI r (k:Int)=some r[k]:=Qn hk
   rw [List.getElem?_eq_getElem hk] at hgd
   simp only [Option.getD_some] at hgd
   unfold Za
   dsimp only
   rw [if_pos (dlt hk),ek,Option.bind_some]
   by_cases c:r[k] < 0
   ·rw [if_pos (by simpa using c)]
   ·rw [if_neg (by simpa using c),if_pos (by simp; omega)])
  (fun hI=>by
   unfold Za
   dsimp only
   rw [if_neg (nlt _),List.take_length])
 have hiff:(∀j,j < r.length→0≤(r[j]?).getD 0∧(r[j]?).getD 0≤g - (r.take j).sum)↔((∀w∈r,0≤w)∧r.sum≤g):=by
  constructor
  ·intro h
   have:=pre r.length (Nat.le_refl _) h
   rw [List.take_length] at this
   refine ⟨fun w hw=>?_,this.2⟩
   obtain ⟨k,hk,rfl⟩:=List.mem_iff_getElem.1 hw
   have:=(h k hk).1
   rw [List.getElem?_eq_getElem hk] at this
   exact this
  ·rintro ⟨h1,h2⟩ j hj
   rw [List.getElem?_eq_getElem hj]
   refine ⟨h1 _ (List.getElem_mem hj),?_⟩
   have h3:=(Qp9 (k:=j+1) h1).1
   rw [Qfa hj] at h3
   simp; omega
 rw [hiff] at h
 simp only [List.take_zero,List.sum_nil,Int.sub_zero] at h
 exact h
theorem Qo7 {n:Nat} {g:Int} {F:Nat → Tapi_Node} {C:Nat → Nat} {x:Tapi_Node} {q:List Nat} {sets order:List Int} (hg:0≤g) (hg60:g≤60) (hC:∀v,v < n→C v≤4) (hq:∀p∈q,p < n) (hl:q.length≤8) (hx:x.Parents=nI q) (hr:x.Rows.length≤1000000) (hrr:∀r∈x.Rows,r.length≤1000000) :
  (Qh1 g C x q∧Xl ⟨⟨g,Qc n F⟩,Qm n C,sets,order⟩ x=some true)∨(¬ Qh1 g C x q∧Xl ⟨⟨g,Qc n F⟩,Qm n C,sets,order⟩ x=some false):=by
 have bnd:∀k,lprod C (q.take k)≤65536:=fun k=>Nat.le_trans (Qfb fun p hp=>hC p (hq p (List.mem_of_mem_take hp))) (Nat.le_trans (Nat.pow_le_pow_right (by omega) (by rw [List.length_take]; omega)) (Nat.le_of_eq (show 4^8=65536 from rfl)))
 have h0:=Kd (n:=q.length) (k0:=0) (by omega) (by omega) (fun i (t:Int)=>(t,i)) (body:=Xj x ⟨⟨g,Qc n F⟩,Qm n C,sets,order⟩) (fun k=>(lprod C (q.take k):Int)) (lprod C q:Int)
  (fun k _ hk=>by
   have hp:=hq _ (List.getElem_mem hk)
   have e1:(lprod C (q.take k):Int)*(C q[k]:Int)=((lprod C (q.take (k+1)):Nat):Int):=by rw [Xn hk,Qb1]; simp
   have:=bnd (k+1)
   unfold Xj
   dsimp only
   rw [hx,Qa4,if_pos (dlt hk),Q4v hk,Option.bind_some,Zr hp,Option.bind_some,e1,w64 (n:=((lprod C (q.take (k+1)):Nat):Int)) (by omega)])
  (by
   unfold Xj
   dsimp only
   rw [hx,Qa4,if_neg (nlt _),List.take_length])
 simp only [List.take_zero,show lprod C []=1 from rfl] at h0
 rw [show (((1:Nat):Int),((0:Nat):Int))=((1:Int),(0:Int)) from rfl] at h0
 unfold Xl
 rw [h0,Option.bind_some]
 by_cases c:x.Rows.length=lprod C q
 ·rw [if_neg (by simp; omega)]
  have h:=Yh (n:=x.Rows.length) (by omega) (fun k=>∀r,x.Rows[k]?=some r→Qg2 g x.Card r) (fun i (t:Unit)=>i) (body:=Zw x ⟨⟨g,Qc n F⟩,Qm n C,sets,order⟩)
   (fun _=>()) (.inr ()) (.inl ())
   (fun k hk hI hgd=>by
    have ek:lkI x.Rows (k:Int)=some x.Rows[k]:=Qn hk
    obtain ⟨k1,k2,k3⟩:=hgd _ (List.getElem?_eq_getElem hk)
    unfold Zw
    dsimp only
    rw [if_pos (dlt hk),ek,Option.bind_some]
    rcases Qwp (g:=g) (r:=x.Rows[k]) hg hg60 (hrr _ (List.getElem_mem hk)) with ⟨_,e⟩ | ⟨no,_⟩
    ·rw [e,Option.bind_some]
     dsimp only
     rw [if_neg (by simp; omega),if_neg (by simp; omega)]
    ·exact absurd ⟨k2,by omega⟩ no)
   (fun k hk hI hgd=>by
    have ek:lkI x.Rows (k:Int)=some x.Rows[k]:=Qn hk
    unfold Zw
    dsimp only
    rw [if_pos (dlt hk),ek,Option.bind_some]
    rcases Qwp (g:=g) (r:=x.Rows[k]) hg hg60 (hrr _ (List.getElem_mem hk)) with ⟨hok,e⟩ | ⟨no,e⟩
    ·rw [e,Option.bind_some]
     dsimp only
     by_cases c2:(x.Rows[k].length:Int)=x.Card
     ·rw [if_neg (by simp; omega),if_pos (by
       have:g - x.Rows[k].sum≠0:=fun h0=>hgd fun r hr=>by
        rw [List.getElem?_eq_getElem hk] at hr; cases hr
        exact ⟨c2,hok.1,by omega⟩
       simpa using this)]
     ·rw [if_pos (by simpa using c2)]
    ·rw [e,Option.bind_some])
   (fun hI=>by
    unfold Zw
    dsimp only
    rw [if_neg (nlt _)])
  have hiff:(∀j,j < x.Rows.length→∀r,x.Rows[j]?=some r→Qg2 g x.Card r)↔Qh1 g C x q:=by
   constructor
   ·intro h
    refine ⟨c,fun r hr=>?_⟩
    obtain ⟨k,hk,rfl⟩:=List.mem_iff_getElem.1 hr
    exact h k hk _ (List.getElem?_eq_getElem hk)
   ·rintro ⟨_,h⟩ j hj r hr
    exact h r (List.mem_of_getElem? hr)
  rw [hiff] at h
  rcases h with ⟨h1,h2⟩ | ⟨h1,h2⟩
  ·exact .inl ⟨h1,by rw [show ((0:Nat):Int)=0 from rfl] at h2; rw [h2]; rfl⟩
  ·exact .inr ⟨h1,by rw [show ((0:Nat):Int)=0 from rfl] at h2; rw [h2]; rfl⟩
 ·rw [if_pos (by simp; omega)]
  exact .inr ⟨fun h=>c h.1,rfl⟩
def setF (F:Nat → Tapi_Node) (v:Nat):Nat := bitsOf (parN F v) 0
def Qq1 (n:Nat) (g:Int) (F:Nat → Tapi_Node) (v:Nat):Prop:=(Qap n (F v).Parents∧(v:Int) ∉ (F v).Parents)∧Qh1 g (cardN F) (F v) (parN F v)
theorem Q2k {n:Nat} {g w:Int} {F:Nat → Tapi_Node} (hn:n≤8) (hg:0≤g) (hg60:g≤60) (hb:NB n F) (hC:∀v,v < n→Qab (F v)) :
  ((∀v,v < n→Qq1 n g F v)∧Qd fuel (X8 ⟨g,Qc n F⟩ (w,Qm n (cardN F))) ((0:Int),Qc n fun _=>(0:Int))=some (Sum.inr (Qm n (setF F)))) ∨
  ((¬ ∀v,v < n→Qq1 n g F v)∧Qd fuel (X8 ⟨g,Qc n F⟩ (w,Qm n (cardN F))) ((0:Int),Qc n fun _=>(0:Int))=some (Sum.inl ())):=by
 have hlen:(Qc n F).length=n:=Qr
 have h:=Yh (n:=n) (by omega) (Qq1 n g F) (fun i (t:List Int)=>(i,t)) (body:=X8 ⟨g,Qc n F⟩ (w,Qm n (cardN F)))
  (fun k=>Qc n fun j=>if j < k then (setF F j:Int) else 0) (.inr (Qm n (setF F))) (.inl ())
  (fun v hv hI hgd=>by
   unfold X8
   dsimp only
   rw [hlen,if_pos (dlt hv),Qv hv,Option.bind_some]
   rcases Qut (n:=n) (v:=v) (g:=g) (F:=F) (x:=F v) (S:=fun j=>if j < v then (setF F j:Int) else 0) (R:=[]) hn hv (hb.par v hv) (if_neg (by omega)) ((v:Int),Qc n fun j=>if j < v then (setF F j:Int) else 0) rfl with ⟨_,e⟩ | ⟨no,_⟩
   ·rw [e,Option.bind_some]
    dsimp only
    obtain ⟨p1,p2,p3⟩:=Ja hgd.1.1
    rcases Qo7 (n:=n) (g:=g) (F:=F) (C:=cardN F) (x:=F v) (q:=parN F v) (sets:=Qc n fun j=>if j=v then (bitsOf ((F v).Parents.map Int.toNat) 0:Int) else if j < v then (setF F j:Int) else 0) (order:=[]) hg hg60 (fun u hu=>(Qas (hC u hu)).2) p3 (by have:=Qea p2 p3; omega) p1 (hb.rows v hv) (hb.row v hv) with ⟨_,e2⟩ | ⟨no,_⟩
    ·rw [e2,Option.bind_some,if_neg (by decide)]
     congr 3
     refine Qu fun j _=>?_
     by_cases c:j=v
     ·subst c; rw [if_pos rfl,if_pos (by omega)]; rfl
     ·rw [if_neg c]
      by_cases c2:j < v
      ·rw [if_pos c2,if_pos (by omega)]
      ·rw [if_neg c2,if_neg (by omega)]
    ·exact absurd hgd.2 no
   ·exact absurd hgd.1 no)
  (fun v hv hI hgd=>by
   unfold X8
   dsimp only
   rw [hlen,if_pos (dlt hv),Qv hv,Option.bind_some]
   rcases Qut (n:=n) (v:=v) (g:=g) (F:=F) (x:=F v) (S:=fun j=>if j < v then (setF F j:Int) else 0) (R:=[]) hn hv (hb.par v hv) (if_neg (by omega)) ((v:Int),Qc n fun j=>if j < v then (setF F j:Int) else 0) rfl with ⟨hp,e⟩ | ⟨no,e⟩
   ·rw [e,Option.bind_some]
    dsimp only
    obtain ⟨p1,p2,p3⟩:=Ja hp.1
    rcases Qo7 (n:=n) (g:=g) (F:=F) (C:=cardN F) (x:=F v) (q:=parN F v) (sets:=Qc n fun j=>if j=v then (bitsOf ((F v).Parents.map Int.toNat) 0:Int) else if j < v then (setF F j:Int) else 0) (order:=[]) hg hg60 (fun u hu=>(Qas (hC u hu)).2) p3 (by have:=Qea p2 p3; omega) p1 (hb.rows v hv) (hb.row v hv) with ⟨hf,_⟩ | ⟨no,e2⟩
    ·exact absurd ⟨hp,hf⟩ hgd
    ·rw [e2,Option.bind_some,if_pos (by decide)]
   ·rw [e,Option.bind_some])
  (fun hI=>by
   unfold X8
   dsimp only
   rw [hlen,if_neg (nlt n)]
   congr 3
   exact Qu fun j hj=>if_pos hj)
 have e0:(Qc n fun j=>if j < 0 then (setF F j:Int) else 0)=Qc n fun _=>(0:Int):=Qu fun j _=>if_neg (by omega)
 simp only [e0] at h
 exact h
end Go.Ab
namespace Go.Ab
open Go
set_option maxRecDepth 100000
set_option maxHeartbeats 400000
def Qi0 (n:Nat) (q:Nat → List Nat):Prop:=∃rk:Nat → Nat,∀v,v < n→∀p∈q v,rk p < rk v
theorem Q02:∀(l:List Nat),lprod (fun _=>1) l=1:=fun l=>by
 have:∀(l:List Nat) (r:Nat),l.foldl (fun r _=>r*1) r=r:=fun l=>by
  induction l with
  | nil=>intro r; rfl
  | cons a l ih=>intro r; simp only [List.foldl_cons]; rw [ih]; omega
 exact this l 1
theorem Qrc:∀n,prodTo n (fun _=>1)=1
 | 0=>rfl
 | n+1=>by simp [prodTo,Qrc n]
theorem Qzi {n:Nat} {q:Nat → List Nat} (h1:1≤n) (hn:n≤8) (hq:∀v,v < n→(q v).Pairwise (· < ·)∧(∀p∈q v,p < n)∧v ∉ q v) (hr:Qi0 n q):∃o,V6 (Qm n fun v=>bitsOf (q v) 0)=some (o,true):=by
 let D:NF:=⟨n,1,fun _=>1,q,fun _ _ _=>1⟩
 have hrows:∀v,D.rows v=1:=fun v=>Q02 (q v)
 exact Qsw (D:=D) ⟨⟨h1,hn,Nat.le_refl _,by show 1≤60; omega,fun v hv=>⟨Nat.le_refl _,by show 1≤4; omega⟩,fun v hv=>(hq v hv).2.1,fun v hv=>Nat.le_trans (Qea (hq v hv).1 (hq v hv).2.1) hn,fun v r x hv hr hx=>Nat.le_refl _,by show prodTo n (fun _=>1)≤1024; rw [Qrc]; omega⟩,
  fun v hv=>(hq v hv).1,fun v hv=>(hq v hv).2.2,hr,fun v r hv hr=>rfl⟩
theorem Qzb {n:Nat} {q:Nat → List Nat} (hn:n≤8) (hq:∀v,v < n→∀p∈q v,p < n):∃r,Qd fuel (Xu (Qm n fun v=>bitsOf (q v) 0)) ((0:Int),([]:List Int))=some r∧(r=.inl ()∨∃o,r=.inr o∧Qi0 n q):=by
 have hlen:(Qm n fun v=>bitsOf (q v) 0).length=n:=Ye
 refine Z2 (body:=Xu (Qm n fun v=>bitsOf (q v) 0)) (fun s=>∃l:List Nat,l.Nodup∧(∀p∈l,p < n)∧(∀i (hi:i < l.length),∀p∈q l[i],p∈l.take i)∧s=((bitsOf l 0:Int),nI l)) (fun s=>n - s.2.length) (fun r=>r=.inl ()∨∃o,r=.inr o∧Qi0 n q)
  (fun s hs=>?_) ((0:Int),([]:List Int)) ⟨[],List.nodup_nil,by simp,by simp,rfl⟩ (by show n - 0 < 1152921504606846976; omega)
 obtain ⟨l,hnd,hl,hb,rfl⟩:=hs
 have hll:l.length≤n:=by
  have:=Qd4 l (List.range n) hnd fun p hp=>List.mem_range.2 (hl p hp)
  simpa using this
 have hdl:bitsOf l 0 < 18446744073709551616:=Qam _ _ (by omega) fun p hp=>by have:=hl p hp; omega
 by_cases hc:l.length < n
 ·
  have hsr:=Qpf (n:=n) (k0:=0) (by omega) (by omega) (fun i (_:Unit)=>i) (body:=V9 (Qm n fun v=>bitsOf (q v) 0) ((bitsOf l 0:Int),nI l)) (fun _ _=>True)
   (fun r=>r=.inr ()∨∃v,v < n∧v ∉ l∧(∀p∈q v,p∈l)∧r=.inl (((bitsOf (l++[v]) 0:Nat):Int),nI (l++[v])))
   (fun k _ _ hk _=>by
    have hbk:(bitsOf l 0).testBit k=decide (k∈l):=by rw [Vf]; simp
    have hsl:bitsOf (q k) 0 < 18446744073709551616:=Qam _ _ (by omega) fun p hp=>by have:=hq k hk p hp; omega
    unfold V9
    dsimp only
    rw [hlen,if_pos (dlt hk),Zr hk,Option.bind_some,if_pos (Qmd k),Qzw hdl (by omega),hbk]
    by_cases hkl:k∈l
    ·left
     rw [if_neg (by simp [hkl])]
     exact ⟨(),rfl,trivial⟩
    ·rw [if_pos (by simp [hkl])]
     by_cases hsub:∀p∈q k,p∈l
     ·right
      rw [if_pos ((Quc hsl hdl).2 fun j hj=>by
       rw [Vf] at hj
       rw [Vf]
       simp at hj ⊢
       exact hsub j hj),if_pos (by rw [List.length_append,Qa4]; simp; omega),if_pos (Qmd k),Qrm hdl (by omega)]
      exact ⟨_,rfl,.inr ⟨k,hk,hkl,hsub,by rw [Qaz]; unfold nI; simp⟩⟩
     ·left
      rw [if_neg (fun hc'=>hsub fun p hp=>by
       have:=(Quc hsl hdl).1 hc' p (by rw [Vf]; simpa using hp)
       rw [Vf] at this
       simpa using this)]
      exact ⟨(),rfl,trivial⟩)
   (fun _ _=>⟨_,by unfold V9; dsimp only; rw [hlen,if_neg (nlt n)],.inl rfl⟩) () trivial
  obtain ⟨r,e1,e2⟩:=hsr
  rcases e2 with rfl | ⟨v,hv,hvl,hvq,rfl⟩
  ·right
   refine ⟨_,?_,.inl rfl⟩
   unfold Xu
   dsimp only
   rw [Qa4,hlen,if_pos (dlt hc),show (0:Int)=((0:Nat):Int) from rfl,e1]; rfl
  ·left
   refine ⟨(((bitsOf (l++[v]) 0:Nat):Int),nI (l++[v])),?_,⟨l++[v],?_,?_,?_,rfl⟩,by rw [Qa4,Qa4,List.length_append]; simp; omega⟩
   ·unfold Xu
    dsimp only
    rw [Qa4,hlen,if_pos (dlt hc),show (0:Int)=((0:Nat):Int) from rfl,e1]; rfl
   ·rw [List.nodup_append]
    exact ⟨hnd,by simp,fun a ha b hb=>by simp at hb; subst hb; exact fun e=>hvl (e ▸ ha)⟩
   ·intro p hp
    rcases List.mem_append.1 hp with h | h
    ·exact hl p h
    ·simp at h; omega
   ·intro i hi p hp
    rw [List.length_append] at hi
    by_cases c:i < l.length
    ·rw [List.getElem_append_left c] at hp
     rw [List.take_append_of_le_length (by omega)]
     exact hb i c p hp
    ·have:i=l.length:=by simp at hi; omega
     subst this
     rw [List.getElem_append_right (by omega)] at hp
     simp at hp
     rw [List.take_append_of_le_length (by omega),List.take_length]
     exact hvq p hp
 ·right
  refine ⟨_,?_,.inr ⟨nI l,rfl,fun v=>l.idxOf v,fun v hv p hp=>?_⟩⟩
  ·unfold Xu
   dsimp only
   rw [Qa4,hlen,if_neg (by simp; omega)]
  ·have hvl:v∈l:=Qkz hnd hl (by omega) v hv
   have hi:=List.idxOf_lt_length_of_mem hvl
   have:=hb (l.idxOf v) hi p (by rw [List.getElem_idxOf hi]; exact hp)
   exact Qpg this
theorem Qxe {n:Nat} {q:Nat → List Nat} (h1:1≤n) (hn:n≤8) (hq:∀v,v < n→(q v).Pairwise (· < ·)∧(∀p∈q v,p < n)∧v ∉ q v) :
  (Qi0 n q∧∃o,V6 (Qm n fun v=>bitsOf (q v) 0)=some (o,true))∨(¬ Qi0 n q∧V6 (Qm n fun v=>bitsOf (q v) 0)=some ([],false)):=by
 by_cases hr:Qi0 n q
 ·exact .inl ⟨hr,Qzi h1 hn hq hr⟩
 ·right
  refine ⟨hr,?_⟩
  obtain ⟨r,e1,e2⟩:=Qzb hn fun v hv=>(hq v hv).2.1
  rcases e2 with rfl | ⟨o,rfl,h⟩
  ·unfold V6
   rw [if_pos (by rw [Ye]; omega)]
   simp only [Int.toNat_zero,List.replicate_zero]
   rw [e1]; rfl
  ·exact absurd h hr
structure Qk0 (n:Nat) (g:Int) (F:Nat → Tapi_Node):Prop where
 g1:1≤g
 g60:g≤60
 n1:1≤n
 n8:n≤8
 card:∀v,v < n→Qab (F v)
 worlds:prodTo n (cardN F)≤1024
 node:∀v,v < n→Qq1 n g F v
 rank:Qi0 n (parN F)
def Q7l:Zc × Int:=(⟨⟨0,[]⟩,[],[],[]⟩,50)
theorem Q01 {n:Nat} {g:Int} {F:Nat → Tapi_Node} (hb:NB n F) (hbig:n≤1000000) :
  (Qk0 n g F∧∃o,Kk ⟨g,Qc n F⟩=some (⟨⟨g,Qc n F⟩,Qm n (cardN F),Qm n (setF F),o⟩,0))∨(¬ Qk0 n g F∧Kk ⟨g,Qc n F⟩=some Q7l):=by
 have hlen:(Qc n F).length=n:=Qr
 unfold Kk
 dsimp only
 rw [hlen]
 by_cases c1:g < 1
 ·rw [if_pos (by simpa using c1)]; exact .inr ⟨fun h=>by have:=h.g1; omega,rfl⟩
 rw [if_neg (by simpa using c1)]
 by_cases c2:g > 60
 ·rw [if_pos (by simpa using c2)]; exact .inr ⟨fun h=>by have:=h.g60; omega,rfl⟩
 rw [if_neg (by simpa using c2)]
 by_cases c3:n < 1
 ·rw [if_pos (by simp; omega)]; exact .inr ⟨fun h=>by have:=h.n1; omega,rfl⟩
 rw [if_neg (by simp; omega)]
 by_cases c4:n > 8
 ·rw [if_pos (by simp; omega)]; exact .inr ⟨fun h=>by have:=h.n8; omega,rfl⟩
 rw [if_neg (by simp; omega),if_pos (by omega),if_pos (by omega),Int.toNat_natCast,Qdu]
 rcases Qy2 (n:=n) (g:=g) (F:=F) (by omega) with ⟨hC,e⟩ | ⟨hC,e⟩
 ·rw [e,Option.bind_some]
  dsimp only
  by_cases c5:prodTo n (cardN F) > 1024
  ·rw [if_pos (by simp; omega)]; exact .inr ⟨fun h=>by have:=h.worlds; omega,rfl⟩
  rw [if_neg (by simp; omega)]
  rcases Q2k (n:=n) (g:=g) (w:=(prodTo n (cardN F):Int)) (F:=F) (by omega) (by omega) (by omega) hb hC with ⟨hN,e⟩ | ⟨hN,e⟩
  ·rw [e,Option.bind_some]
   dsimp only
   rcases Qxe (n:=n) (q:=parN F) (by omega) (by omega) (fun v hv=>by
    obtain ⟨p1,p2,p3⟩:=Ja (hN v hv).1.1
    refine ⟨p2,p3,fun h=>(hN v hv).1.2 ?_⟩
    rw [p1]; unfold nI; exact List.mem_map.2 ⟨v,h,rfl⟩) with ⟨hR,o,e⟩ | ⟨hR,e⟩
   ·left
    refine ⟨⟨by omega,by omega,by omega,by omega,hC,by omega,hN,hR⟩,o,?_⟩
    rw [show (Qm n (setF F))=(Qm n fun v=>bitsOf (parN F v) 0) from rfl,e,Option.bind_some,if_neg (by simp)]
   ·right
    refine ⟨fun h=>hR h.rank,?_⟩
    rw [show (Qm n (setF F))=(Qm n fun v=>bitsOf (parN F v) 0) from rfl,e,Option.bind_some,if_pos (by simp)]; rfl
  ·rw [e,Option.bind_some]; exact .inr ⟨fun h=>hN h.node,rfl⟩
 ·rw [e,Option.bind_some]; exact .inr ⟨fun h=>hC h.card,rfl⟩
end Go.Ab
namespace Go.Ab
open Go
set_option maxRecDepth 100000
set_option maxHeartbeats 400000
theorem Q8a {a b:Nat} (ha:a < 18446744073709551616) (hb:b < 18446744073709551616):zv (zb (a:Int) ||| zb (b:Int)).toNat = ((a ||| b:Nat):Int):=by
 rw [BitVec.toNat_or,Qes ha,Qes hb,Yx (Nat.or_lt_two_pow (n:=64) ha hb)]
theorem Qy7 {a v:Nat} (ha:a < 18446744073709551616) (hv:v < 64):Qeh (a:Int) (v:Int)=some (a.testBit v):=by
 unfold Qeh
 rw [Yx (show v < 18446744073709551616 by omega),if_pos (Qmd v),Qzw ha hv]
 cases a.testBit v <;> rfl
def Vm (a b:Nat):Prop:=∀j,a.testBit j=true→b.testBit j=true
theorem Vm.refl {a:Nat}:Vm a a:=fun _ h=>h
theorem Vm.trans {a b c:Nat} (h:Vm a b) (k:Vm b c):Vm a c:=fun j hj=>k j (h j hj)
theorem Q4b {a b:Nat}:Vm a (a ||| b):=fun j h=>by rw [Nat.testBit_or,h]; rfl
theorem Q3s {a b:Nat}:Vm b (a ||| b):=fun j h=>by rw [Nat.testBit_or,h]; simp
theorem Q7g {a b c:Nat} (h:Vm a c) (k:Vm b c):Vm (a ||| b) c:=fun j hj=>by
 rw [Nat.testBit_or,Bool.or_eq_true] at hj
 rcases hj with e | e
 ·exact h j e
 ·exact k j e
theorem Q3v {a b:Nat} (h:Vm a b) (k:Vm b a):a=b:=Nat.eq_of_testBit_eq fun j=>by
 cases ha:a.testBit j with
 | true=>rw [h j ha]
 | false=>cases hb:b.testBit j with
  | true=>rw [k j hb] at ha; cases ha
  | false=>rfl
def upV (S:Nat → Nat) (s v:Nat):Nat := if s.testBit v then s ||| S v else s
def upR (n:Nat) (S:Nat → Nat) (s:Nat):Nat := (List.range n).foldl (upV S) s
def ups (n:Nat) (S:Nat → Nat):Nat → Nat → Nat
 | 0,s=>s
 | k+1,s=>upR n S (ups n S k s)
theorem Q19 {S:Nat → Nat} {s v:Nat}:Vm s (upV S s v):=by
 unfold upV; split
 ·exact Q4b
 ·exact .refl
theorem Qom {S:Nat → Nat}:∀(l:List Nat) (s:Nat),Vm s (l.foldl (upV S) s)
 | [],s=>.refl
 | v::l,s=>Q19.trans (Qom l _)
theorem Qve {S:Nat → Nat} {v:Nat}:∀(l:List Nat) (s:Nat),v∈l→s.testBit v=true→Vm (S v) (l.foldl (upV S) s)
 | [],s,h,_=>by cases h
 | u::l,s,h,hs=>by
  simp only [List.foldl_cons]
  by_cases e:v=u
  ·subst e
   refine Vm.trans ?_ (Qom l _)
   unfold upV; rw [if_pos hs]; exact Q3s
  ·exact Qve l _ (by simpa [e] using h) (Q19 v hs)
theorem Qsg {S:Nat → Nat} {T:Nat}:∀(l:List Nat) (s:Nat),(∀v∈l,T.testBit v=true→Vm (S v) T)→Vm s T→Vm (l.foldl (upV S) s) T
 | [],s,_,h=>h
 | v::l,s,hT,h=>by
  simp only [List.foldl_cons]
  refine Qsg l _ (fun u hu=>hT u (List.mem_cons_of_mem _ hu)) ?_
  unfold upV; split
  ·rename_i hs; exact Q7g h (hT v (by simp) (h v hs))
  ·exact h
def Clo (n:Nat) (S:Nat → Nat) (T:Nat):Prop:=∀v,v < n→T.testBit v=true→Vm (S v) T
theorem Q1o {n:Nat} {S:Nat → Nat} {s:Nat}:∀k,Vm s (ups n S k s)
 | 0=>.refl
 | k+1=>(Q1o k).trans (Qom _ _)
theorem Qht {n:Nat} {S:Nat → Nat} {s T:Nat} (hT:Clo n S T) (h:Vm s T):∀k,Vm (ups n S k s) T
 | 0=>h
 | k+1=>Qsg _ _ (fun v hv=>hT v (List.mem_range.1 hv)) (Qht hT h k)
theorem Q5l {n:Nat} {S:Nat → Nat} {s:Nat} (h:upR n S s=s):Clo n S s:=fun v hv hs=>by
 have:=Qve (S:=S) (List.range n) s (List.mem_range.2 hv) hs
 unfold upR at h
 rwa [h] at this
theorem Q0w {n a b:Nat} (h:Vm a b) (hb:∀j,b.testBit j=true→j < n) (hne:a≠b):cnt n a.testBit < cnt n b.testBit:=by
 have:∃j,b.testBit j=true∧a.testBit j=false:=by
  apply Classical.byContradiction
  intro hno
  exact hne (Q3v h fun j hj=>by
   cases ha:a.testBit j with
   | true=>rfl
   | false=>exact absurd ⟨j,hj,ha⟩ hno)
 obtain ⟨j,h1,h2⟩:=this
 have e:=Q6f (n:=n) (p:=b.testBit) (hb j h1) h1
 have:cnt n a.testBit≤cnt n (fun i=>b.testBit i && !decide (j=i)):=Q3i fun i _ hi=>by
  have:j≠i:=fun e=>by subst e; rw [h2] at hi; cases hi
  simp [h i hi,this]
 omega
theorem Qp6 (n:Nat) {S:Nat → Nat} (hS:∀v,v < n→∀j,(S v).testBit j=true→j < n):Clo n S (2^n - 1):=fun v hv _ j hj=>by
 rw [Nat.testBit_two_pow_sub_one]; simpa using hS v hv j hj
theorem Q53 {n:Nat} {S:Nat → Nat} {s:Nat} (hS:∀v,v < n→∀j,(S v).testBit j=true→j < n) (hs:∀j,s.testBit j=true→j < n):Clo n S (ups n S n s):=by
 have hin:∀k j,(ups n S k s).testBit j=true→j < n:=fun k j hj=>by
  have:=Qht (Qp6 n hS) (s:=s) (fun j hj=>by rw [Nat.testBit_two_pow_sub_one]; simpa using hs j hj) k j hj
  rw [Nat.testBit_two_pow_sub_one] at this; simpa using this
 have key:∀k,upR n S (ups n S k s)=ups n S k s∨k+cnt n s.testBit≤cnt n (ups n S k s).testBit:=by
  intro k
  induction k with
  | zero=>right; simp [ups]
  | succ k ih =>
   by_cases hf:upR n S (ups n S k s)=ups n S k s
   ·left; simp only [ups]; rw [hf,hf]
   ·right
    rcases ih with h | h
    ·exact absurd h hf
    ·have:=Q0w (n:=n) (Qom (S:=S) (List.range n) (ups n S k s)) (hin (k+1)) (fun e=>hf e.symm)
     show k+1+_≤cnt n (upR n S (ups n S k s)).testBit
     unfold upR; omega
 rcases key n with h | h
 ·exact Q5l h
 ·have h0:=Q7c n (ups n S n s).testBit
  have hz:cnt n s.testBit=0:=by omega
  have:s=0:=Nat.eq_of_testBit_eq fun j=>by
   rw [Nat.zero_testBit,Bool.eq_false_iff]
   intro hj
   have:=Q5m (n:=n) (hs j hj) hj; omega
  subst this
  have h1:=Qht (n:=n) (S:=S) (s:=0) (T:=0) (fun v _ hv=>by rw [Nat.zero_testBit] at hv; cases hv) .refl n
  intro v hv hb
  have:=h1 v hb
  rw [Nat.zero_testBit] at this; cases this
theorem Qqy {n s:Nat} (h:∀j,s.testBit j=true→j < n):s < 2^n:=by
 apply Nat.lt_pow_two_of_testBit
 intro i hi
 rw [Bool.eq_false_iff]; intro hj
 have:=h i hj; omega
theorem Q0k {n:Nat} {S:Nat → Nat} {s:Nat} (hn:n≤8) (hS:∀v,v < n→∀j,(S v).testBit j=true→j < n) (hs:∀j,s.testBit j=true→j < n):Qgp (Qm n S) (s:Int)=some ((ups n S n s:Nat):Int):=by
 have hlen:(Qm n S).length=n:=Ye
 have hfull:=Qp6 n hS
 have hs0:Vm s (2^n - 1):=fun j hj=>by rw [Nat.testBit_two_pow_sub_one]; simpa using hs j hj
 have p8:(2:Nat)^n≤256:=Nat.pow_le_pow_right (n:=2) (by omega) hn
 have hlt:∀{t:Nat},Vm t (2^n - 1)→t < 18446744073709551616:=fun h=>by
  have:=Qqy (n:=n) fun j hj=>by have:=h j hj; rw [Nat.testBit_two_pow_sub_one] at this; simpa using this
  omega
 have inner:∀t,Vm t (2^n - 1)→Qd fuel (Qa1 (Qm n S)) ((t:Int),(0:Int))=some ((upR n S t:Nat):Int):=fun t ht=>by
  have h:=Kd (n:=n) (k0:=0) (by omega) (by omega) (fun i (x:Int)=>(x,i)) (body:=Qa1 (Qm n S)) (fun k=>(((List.range k).foldl (upV S) t:Nat):Int)) ((upR n S t:Nat):Int)
   (fun k _ hk=>by
    have hsub:=Qsg (S:=S) (T:=2^n - 1) (List.range k) t (fun v hv=>hfull v (by have:=List.mem_range.1 hv; omega)) ht
    unfold Qa1
    dsimp only
    rw [hlen,if_pos (dlt hk),Qy7 (hlt hsub) (by omega),Option.bind_some,List.range_succ,List.foldl_append]
    simp only [List.foldl_cons,List.foldl_nil]
    unfold upV
    by_cases c:((List.range k).foldl (upV S) t).testBit k=true
    ·unfold upV at c
     rw [if_pos c,Zr hk,Option.bind_some,if_pos c]
     have hsub':=hsub
     unfold upV at hsub'
     rw [Q8a (hlt hsub') (by
      have:=Qqy (hS k hk); omega)]
    ·unfold upV at c
     rw [if_neg c,if_neg c])
   (by unfold Qa1; dsimp only; rw [hlen,if_neg (nlt n)]; rfl)
  rw [show ((0:Nat):Int)=0 from rfl] at h
  exact h
 have h:=Kd (n:=n) (k0:=0) (by omega) (by omega) (fun i (x:Int)=>(x,i)) (body:=Qdd (Qm n S)) (fun k=>((ups n S k s:Nat):Int)) ((ups n S n s:Nat):Int)
  (fun k _ hk=>by
   unfold Qdd
   dsimp only
   rw [hlen,if_pos (dlt hk),inner _ (Qht hfull hs0 k)]; rfl)
  (by unfold Qdd; dsimp only; rw [hlen,if_neg (nlt n)])
 rw [show ((0:Nat):Int)=0 from rfl] at h
 unfold Qgp
 rw [show ups n S 0 s=s from rfl] at h
 rw [h]; rfl
theorem Qw8 {n:Nat} {q:Nat → List Nat} (hn:n≤8) (hq:∀v,v < n→∀p∈q v,p < n) :
  (Qi0 n q∧Kr (Qm n fun v=>bitsOf (q v) 0)=some true)∨(¬ Qi0 n q∧Kr (Qm n fun v=>bitsOf (q v) 0)=some false):=by
 have hlen:(Qm n fun v=>bitsOf (q v) 0).length=n:=Ye
 have hbit:∀v j,(bitsOf (q v) 0).testBit j=true↔j∈q v:=fun v j=>by rw [Vf]; simp
 have hS:∀v,v < n→∀j,(bitsOf (q v) 0).testBit j=true→j < n:=fun v hv j hj=>hq v hv j ((hbit v j).1 hj)
 have p8:(2:Nat)^n≤256:=Nat.pow_le_pow_right (n:=2) (by omega) hn
 have hin:∀v,v < n→∀j,(ups n (fun v=>bitsOf (q v) 0) n (bitsOf (q v) 0)).testBit j=true→j < n:=fun v hv j hj=>by
  have:=Qht (Qp6 n hS) (s:=bitsOf (q v) 0) (fun j hj=>by rw [Nat.testBit_two_pow_sub_one]; simpa using hS v hv j hj) n j hj
  rw [Nat.testBit_two_pow_sub_one] at this; simpa using this
 have h:=Yh (n:=n) (by omega) (fun v=>(ups n (fun v=>bitsOf (q v) 0) n (bitsOf (q v) 0)).testBit v=false) (fun i (t:Unit)=>i) (body:=V0 (Qm n fun v=>bitsOf (q v) 0)) (fun _=>()) (.inr ()) (.inl ())
  (fun v hv hI hg=>by
   unfold V0
   rw [hlen,if_pos (dlt hv),Zr hv,Option.bind_some,Q0k hn hS (hS v hv),Option.bind_some,Qy7 (by have:=Qqy (hin v hv); omega) (by omega),Option.bind_some,hg,if_neg (by decide)])
  (fun v hv hI hg=>by
   unfold V0
   rw [hlen,if_pos (dlt hv),Zr hv,Option.bind_some,Q0k hn hS (hS v hv),Option.bind_some,Qy7 (by have:=Qqy (hin v hv); omega) (by omega),Option.bind_some,if_pos (by simpa using hg)])
  (fun hI=>by unfold V0; rw [hlen,if_neg (nlt n)])
 have hiff:(∀v,v < n→(ups n (fun v=>bitsOf (q v) 0) n (bitsOf (q v) 0)).testBit v=false)↔Qi0 n q:=by
  constructor
  ·intro hac
   refine ⟨fun v=>cnt n (ups n (fun v=>bitsOf (q v) 0) n (bitsOf (q v) 0)).testBit,fun v hv p hp=>?_⟩
   have hpn:=hq v hv p hp
   have hcv:=Q53 hS (hS v hv)
   have hpv:(ups n (fun v=>bitsOf (q v) 0) n (bitsOf (q v) 0)).testBit p=true:=Q1o n p ((hbit v p).2 hp)
   refine Q0w (Qht hcv (hcv p hpn hpv) n) (hin v hv) fun e=>?_
   have:=hac p hpn
   rw [e,hpv] at this; cases this
  ·rintro ⟨rk,hrk⟩ v hv
   rw [Bool.eq_false_iff]
   intro hb
   have hT:∃T:Nat,∀j,T.testBit j=true↔j < n∧rk j < rk v:=⟨msk n fun j=>decide (rk j < rk v),fun j=>by rw [Q5e]; simp⟩
   obtain ⟨T,hT⟩:=hT
   have:=Qht (n:=n) (S:=fun v=>bitsOf (q v) 0) (s:=bitsOf (q v) 0) (T:=T) (fun u hu hb j hj=>by
    have h1:=(hT u).1 hb
    have h2:=(hbit u j).1 hj
    have h3:=hrk u hu j h2
    exact (hT j).2 ⟨hq u hu j h2,by omega⟩) (fun j hj=>by
    have h2:=(hbit v j).1 hj
    exact (hT j).2 ⟨hq v hv j h2,hrk v hv j h2⟩) n v hb
   have:=((hT v).1 this).2
   omega
 rw [hiff] at h
 rw [show ((0:Nat):Int)=0 from rfl] at h
 unfold Kr
 rcases h with ⟨h1,h2⟩ | ⟨h1,h2⟩
 ·exact .inl ⟨h1,by rw [h2]; rfl⟩
 ·exact .inr ⟨h1,by rw [h2]; rfl⟩
end Go.Ab
namespace Go.Ab
open Go
set_option maxRecDepth 100000
set_option maxHeartbeats 400000
theorem Qqa {n:Nat} {l:List Int} (hl:l.length≤1000000):(Qap n l∧Qag l (n:Int)=some true)∨(¬ Qap n l∧Qag l (n:Int)=some false):=by
 have good:∀k,k < l.length→((0≤(l[k]?).getD 0∧(l[k]?).getD 0 < n∧(0 < k→(l[k - 1]?).getD 0 < (l[k]?).getD 0))↔(0≤(l[k]?).getD 0∧Qh2 n l k)):=fun k hk=>by
  unfold Qh2 Qir
  by_cases c:k=0
  ·rw [if_pos c]; constructor
   ·rintro ⟨a,b,_⟩; exact ⟨a,by omega,b⟩
   ·rintro ⟨a,_,b⟩; exact ⟨a,b,fun h=>by omega⟩
  ·rw [if_neg c]; constructor
   ·rintro ⟨a,b,d⟩; exact ⟨a,d (by omega),b⟩
   ·rintro ⟨a,d,b⟩; exact ⟨a,b,fun _=>d⟩
 have h:=Yh (n:=l.length) (by omega) (fun k=>0≤(l[k]?).getD 0∧(l[k]?).getD 0 < n∧(0 < k→(l[k - 1]?).getD 0 < (l[k]?).getD 0)) (fun i (t:Unit)=>i) (body:=Ji l (n:Int)) (fun _=>()) (.inr ()) (.inl ())
  (fun k hk hI hg=>by
   have ek:lkI l (k:Int)=some ((l[k]?).getD 0):=by rw [Qn hk,List.getElem?_eq_getElem hk]; rfl
   unfold Ji
   rw [if_pos (dlt hk),ek,Option.bind_some,if_neg (by simp; exact hg.1),if_neg (by simp; exact hg.2.1)]
   by_cases c:0 < k
   ·have ek2:lkI l (zw ((k:Int) - 1))=some ((l[k - 1]?).getD 0):=by
     rw [w64 (by omega),show ((k:Int) - 1)=((k - 1:Nat):Int) by omega,Qn (by omega),List.getElem?_eq_getElem (by omega)]; rfl
    rw [if_pos (by simp; omega),ek2,Option.bind_some,if_neg (by simp; exact hg.2.2 c)]
   ·rw [if_neg (by simp; omega)])
  (fun k hk hI hg=>by
   have ek:lkI l (k:Int)=some ((l[k]?).getD 0):=by rw [Qn hk,List.getElem?_eq_getElem hk]; rfl
   unfold Ji
   rw [if_pos (dlt hk),ek,Option.bind_some]
   by_cases c1:(l[k]?).getD 0 < 0
   ·rw [if_pos (by simpa using c1)]
   ·rw [if_neg (by simpa using c1)]
    by_cases c2:(l[k]?).getD 0≥(n:Int)
    ·rw [if_pos (by simpa using c2)]
    ·rw [if_neg (by simpa using c2)]
     by_cases c:0 < k
     ·have ek2:lkI l (zw ((k:Int) - 1))=some ((l[k - 1]?).getD 0):=by
       rw [w64 (by omega),show ((k:Int) - 1)=((k - 1:Nat):Int) by omega,Qn (by omega),List.getElem?_eq_getElem (by omega)]; rfl
      rw [if_pos (by simp; omega),ek2,Option.bind_some,if_pos (by
       have:¬ (l[k - 1]?).getD 0 < (l[k]?).getD 0:=fun h=>hg ⟨by omega,by omega,fun _=>h⟩
       simp; omega)]
     ·exact absurd ⟨by omega,by omega,fun h=>absurd h c⟩ hg)
  (fun hI=>by unfold Ji; rw [if_neg (nlt _)])
 have hiff:(∀k,k < l.length→0≤(l[k]?).getD 0∧(l[k]?).getD 0 < n∧(0 < k→(l[k - 1]?).getD 0 < (l[k]?).getD 0))↔Qap n l:=by
  constructor
  ·intro h; exact Qti fun k hk=>((good k hk).1 (h k hk)).2
  ·intro h k hk
   exact (good k hk).2 ⟨(Qgo (Qmm h) k hk).1,Qmm h k hk⟩
 rw [hiff] at h
 rw [show ((0:Nat):Int)=0 from rfl] at h
 unfold Qag
 rcases h with ⟨h1,h2⟩ | ⟨h1,h2⟩
 ·exact .inl ⟨h1,by rw [h2]; rfl⟩
 ·exact .inr ⟨h1,by rw [h2]; rfl⟩
theorem Q64 {n:Nat} {g:Int} {F:Nat → Tapi_Node} (hn:n≤8) (hb:NB n F) :
  ((∀v,v < n→Qab (F v)∧Qap n (F v).Parents)∧Qd fuel (Yr ⟨g,Qc n F⟩) ((1:Int),(0:Int))=some (Sum.inr (prodTo n (cardN F):Int))) ∨
  ((¬ ∀v,v < n→Qab (F v)∧Qap n (F v).Parents)∧Qd fuel (Yr ⟨g,Qc n F⟩) ((1:Int),(0:Int))=some (Sum.inl ())):=by
 have hlen:(Qc n F).length=n:=Qr
 have h:=Yh (n:=n) (by omega) (fun v=>Qab (F v)∧Qap n (F v).Parents) (fun i (t:Int)=>(t,i)) (body:=Yr ⟨g,Qc n F⟩)
  (fun k=>(prodTo k (cardN F):Int)) (Sum.inr (prodTo n (cardN F):Int)) (Sum.inl ())
  (fun k hk hI hg=>by
   have b1:prodTo k (cardN F)≤4^k:=Vk fun j hj=>(Qas (hI j hj).1).2
   have b2:(4:Nat)^k≤4^8:=Nat.pow_le_pow_right (by omega) (by omega)
   have b3:prodTo k (cardN F)*cardN F k≤65536*4:=Nat.mul_le_mul (by omega) (Qas hg.1).2
   have hc:=Qfn hg.1
   have e1:(prodTo k (cardN F):Int)*(F k).Card=((prodTo (k+1) (cardN F):Nat):Int):=by rw [←hc]; simp [prodTo]
   unfold Yr
   dsimp only
   rw [hlen,if_pos (dlt hk),Qv hk,Option.bind_some,if_neg (by simp; exact hg.1.1),if_neg (by simp; exact hg.1.2)]
   rcases Qqa (n:=n) (hb.par k hk) with ⟨_,e⟩ | ⟨no,_⟩
   ·rw [e,Option.bind_some,if_neg (by decide),e1,w64 (n:=((prodTo (k+1) (cardN F):Nat):Int)) (by simp only [prodTo]; omega)]
   ·exact absurd hg.2 no)
  (fun k hk hI hg=>by
   unfold Yr
   dsimp only
   rw [hlen,if_pos (dlt hk),Qv hk,Option.bind_some]
   by_cases c:(F k).Card < 1
   ·rw [if_pos (by simpa using c)]
   ·rw [if_neg (by simpa using c)]
    by_cases c2:(F k).Card > 4
    ·rw [if_pos (by simpa using c2)]
    ·rw [if_neg (by simpa using c2)]
     rcases Qqa (n:=n) (hb.par k hk) with ⟨hp,_⟩ | ⟨_,e⟩
     ·exact absurd ⟨⟨by omega,by omega⟩,hp⟩ hg
     ·rw [e,Option.bind_some,if_pos (by decide)])
  (fun hI=>by
   unfold Yr
   dsimp only
   rw [hlen,if_neg (nlt n)])
 exact h
theorem Q36 {n:Nat} {g:Int} {F:Nat → Tapi_Node} (hn:n≤8) (hP:∀v,v < n→Qap n (F v).Parents):Kj ⟨g,Qc n F⟩=some (Qm n (setF F)):=by
 have hlen:(Qc n F).length=n:=Qr
 have h:=Kd (n:=n) (k0:=0) (by omega) (by omega) (fun i (t:List Int)=>(i,t)) (body:=Jc ⟨g,Qc n F⟩) (fun k=>Qm k (setF F)) (Qm n (setF F))
  (fun v _ hv=>by
   obtain ⟨p1,p2,p3⟩:=Ja (hP v hv)
   have hl:=Qea p2 p3
   have hi:=Kd (n:=(parN F v).length) (k0:=0) (by omega) (by omega) (fun i (t:Int)=>(t,i)) (body:=Jd ⟨g,Qc n F⟩ ((v:Int),Qm v (setF F))) (fun k=>(bitsOf ((parN F v).take k) 0:Int)) ((setF F v:Nat):Int)
    (fun k _ hk=>by
     have hp:=p3 _ (List.getElem_mem hk)
     have hbl:bitsOf ((parN F v).take k) 0 < 18446744073709551616:=Qam _ _ (by omega) fun p hp=>by have:=p3 p (List.mem_of_mem_take hp); omega
     unfold Jd
     dsimp only
     rw [Qv hv,Option.bind_some,p1,Qa4,if_pos (dlt hk),Q4v hk,Option.bind_some,Yx (n:=(parN F v)[k]) (by omega),if_pos (Qmd _),Qrm hbl (by omega),Xn hk,Qaz])
    (by
     unfold Jd
     dsimp only
     rw [Qv hv,Option.bind_some,p1,Qa4,if_neg (nlt _),List.take_length]; rfl)
   rw [show ((0:Nat):Int)=0 from rfl,List.take_zero] at hi
   rw [show ((bitsOf [] 0:Nat):Int)=0 from rfl] at hi
   unfold Jc
   dsimp only
   rw [hlen,if_pos (dlt hv),hi,Option.bind_some,if_pos (by rw [List.length_append,Ye]; simp; omega)]
   congr 3
   exact Qd8 (F:=fun j=>((setF F j:Nat):Int)))
  (by
   unfold Jc
   dsimp only
   rw [hlen,if_neg (nlt n)])
 rw [show ((0:Nat):Int)=0 from rfl] at h
 rw [show Qm 0 (setF F)=[] from rfl] at h
 unfold Kj
 rw [h]; rfl
theorem Q5f {n:Nat} {g:Int} {F:Nat → Tapi_Node} {r:List Int} (hg:0≤g) (hg60:g≤60) (hr:r.length≤4) :
  ((∀w∈r,0≤w∧w≤g)∧Qd fuel (Yt r ⟨g,Qc n F⟩) (0,0)=some (.inr r.sum))∨(¬ (∀w∈r,0≤w∧w≤g)∧Qd fuel (Yt r ⟨g,Qc n F⟩) (0,0)=some (.inl ())):=by
 have pre:∀k,k≤r.length→(∀j,j < k→0≤(r[j]?).getD 0∧(r[j]?).getD 0≤g)→0≤(r.take k).sum∧(r.take k).sum≤60*k:=by
  intro k
  induction k with
  | zero=>intro _ _; simp
  | succ k ih =>
   intro hk h
   have h1:=ih (by omega) fun j hj=>h j (by omega)
   have h2:=h k (by omega)
   rw [List.getElem?_eq_getElem (by omega)] at h2
   rw [Qfa (by omega)]
   simp at h2; omega
 have h:=Yh (n:=r.length) (by omega) (fun k=>0≤(r[k]?).getD 0∧(r[k]?).getD 0≤g) (fun i (t:Int)=>(t,i)) (body:=Yt r ⟨g,Qc n F⟩)
  (fun k=>(r.take k).sum) (.inr r.sum) (.inl ())
  (fun k hk hI hgd=>by
   have hp:=pre k (by omega) hI
   have ek:lkI r (k:Int)=some r[k]:=Qn hk
   rw [List.getElem?_eq_getElem hk] at hgd
   simp only [Option.getD_some] at hgd
   unfold Yt
   dsimp only
   rw [if_pos (dlt hk),ek,Option.bind_some,if_neg (by simp; omega),if_neg (by simp; omega),w64 (n:=(r.take k).sum+r[k]) (by omega),Qfa hk])
  (fun k hk hI hgd=>by
   have ek:lkI r (k:Int)=some r[k]:=Qn hk
   rw [List.getElem?_eq_getElem hk] at hgd
   simp only [Option.getD_some] at hgd
   unfold Yt
   dsimp only
   rw [if_pos (dlt hk),ek,Option.bind_some]
   by_cases c:r[k] < 0
   ·rw [if_pos (by simpa using c)]
   ·rw [if_neg (by simpa using c),if_pos (by simp; omega)])
  (fun hI=>by
   unfold Yt
   dsimp only
   rw [if_neg (nlt _),List.take_length])
 have hiff:(∀j,j < r.length→0≤(r[j]?).getD 0∧(r[j]?).getD 0≤g)↔(∀w∈r,0≤w∧w≤g):=by
  constructor
  ·intro h w hw
   obtain ⟨k,hk,rfl⟩:=List.mem_iff_getElem.1 hw
   have:=h k hk
   rw [List.getElem?_eq_getElem hk] at this
   exact this
  ·intro h j hj
   rw [List.getElem?_eq_getElem hj]
   exact h _ (List.getElem_mem hj)
 rw [hiff] at h
 simp only [List.take_zero,List.sum_nil] at h
 exact h
theorem Qyc {g c:Int} {r:List Int}:Qg2 g c r↔(r.length:Int)=c∧(∀w∈r,0≤w∧w≤g)∧r.sum=g:=by
 unfold Qg2
 constructor
 ·rintro ⟨a,b,d⟩
  refine ⟨a,fun w hw=>⟨b w hw,?_⟩,d⟩
  obtain ⟨k,hk,rfl⟩:=List.mem_iff_getElem.1 hw
  have h1:=(Qp9 (k:=k+1) b).1
  have h2:=(Qp9 (k:=k) b).2
  rw [Qfa hk] at h1; omega
 ·rintro ⟨a,b,d⟩; exact ⟨a,fun w hw=>(b w hw).1,d⟩
theorem Q4h {n:Nat} {g:Int} {F:Nat → Tapi_Node} (hn:n≤8) (hg:0≤g) (hg60:g≤60) (hb:NB n F) (hC:∀v,v < n→Qab (F v)) (hP:∀v,v < n→Qap n (F v).Parents) :
  ((∀v,v < n→Qh1 g (cardN F) (F v) (parN F v))∧Qd fuel (Ys ⟨g,Qc n F⟩) 0=some (.inr ()))∨((¬ ∀v,v < n→Qh1 g (cardN F) (F v) (parN F v))∧Qd fuel (Ys ⟨g,Qc n F⟩) 0=some (.inl ())):=by
 have hlen:(Qc n F).length=n:=Qr
 have hpc:∀v,v < n→Q2 ⟨g,Qc n F⟩ (v:Int)=some ((parN F v).map fun p=>(cardN F p:Int)):=fun v hv=>by
  obtain ⟨p1,p2,p3⟩:=Ja (hP v hv)
  unfold Q2
  rw [Qtf (C:=cardN F) (fun v hv=>(Qfn (hC v hv)).symm) hn,Option.bind_some,Qv hv,Option.bind_some,p1,show nI (parN F v)=(parN F v).map fun (p:Nat)=>(p:Int) from rfl,Qrh p3 (by have:=Qea p2 p3; omega)]
  rfl
 have hrow:∀v (hv:v < n) k (hk:k < (F v).Rows.length),Yu (F v) ⟨g,Qc n F⟩ (k:Int)=some (if (((F v).Rows[k].length:Int)=(F v).Card∧(∀w∈(F v).Rows[k],0≤w∧w≤g)∧(F v).Rows[k].sum=g) then .next (zw ((k:Int)+1)) else .done (.inl ())):=fun v hv k hk=>by
  have ek:lkI (F v).Rows (k:Int)=some (F v).Rows[k]:=Qn hk
  unfold Yu
  rw [if_pos (dlt hk),ek,Option.bind_some]
  by_cases c:((F v).Rows[k].length:Int)=(F v).Card
  ·rw [if_neg (by simp; omega)]
   have hc:=(hC v hv).2
   rcases Q5f (n:=n) (g:=g) (F:=F) (r:=(F v).Rows[k]) hg hg60 (by omega) with ⟨h,e⟩ | ⟨h,e⟩
   ·rw [e,Option.bind_some]
    dsimp only
    by_cases c2:(F v).Rows[k].sum=g
    ·rw [if_neg (by simp; exact c2),if_pos ⟨c,h,c2⟩]
    ·rw [if_pos (by simpa using c2),if_neg fun hh=>c2 hh.2.2]
   ·rw [e,Option.bind_some,if_neg fun hh=>h hh.2.1]
  ·rw [if_pos (by simpa using c),if_neg fun hh=>c hh.1]
 have hrows:∀v (hv:v < n),((∀k,k < (F v).Rows.length→∀r,(F v).Rows[k]?=some r→Qg2 g (F v).Card r)∧Qd fuel (Yu (F v) ⟨g,Qc n F⟩) 0=some (.inr ()))∨((¬ ∀k,k < (F v).Rows.length→∀r,(F v).Rows[k]?=some r→Qg2 g (F v).Card r)∧Qd fuel (Yu (F v) ⟨g,Qc n F⟩) 0=some (.inl ())):=fun v hv=>by
  have h:=Yh (n:=(F v).Rows.length) (by have:=hb.rows v hv; omega) (fun k=>∀r,(F v).Rows[k]?=some r→Qg2 g (F v).Card r) (fun i (t:Unit)=>i) (body:=Yu (F v) ⟨g,Qc n F⟩) (fun _=>()) (.inr ()) (.inl ())
   (fun k hk hI hgd=>by
    rw [hrow v hv k hk,if_pos (Qyc.1 (hgd _ (List.getElem?_eq_getElem hk)))])
   (fun k hk hI hgd=>by
    rw [hrow v hv k hk,if_neg fun hh=>hgd fun r hr=>by
     rw [List.getElem?_eq_getElem hk] at hr; cases hr
     exact Qyc.2 hh])
   (fun hI=>by unfold Yu; rw [if_neg (nlt _)])
  exact h
 have h:=Yh (n:=n) (by omega) (fun v=>Qh1 g (cardN F) (F v) (parN F v)) (fun i (t:Unit)=>i) (body:=Ys ⟨g,Qc n F⟩) (fun _=>()) (.inr ()) (.inl ())
  (fun v hv hI hgd=>by
   obtain ⟨p1,p2,p3⟩:=Ja (hP v hv)
   unfold Ys
   dsimp only
   rw [hlen,if_pos (dlt hv),Qv hv,Option.bind_some,hpc v hv,Option.bind_some,Qms (fun p hp=>(Qas (hC p (p3 p hp))).2) (by have:=Qea p2 p3; omega),Option.bind_some,if_neg (by have:=hgd.1; simp; omega)]
   rcases hrows v hv with ⟨_,e⟩ | ⟨no,_⟩
   ·rw [e,Option.bind_some]
   ·exact absurd (fun k hk r hr=>hgd.2 r (List.mem_of_getElem? hr)) no)
  (fun v hv hI hgd=>by
   obtain ⟨p1,p2,p3⟩:=Ja (hP v hv)
   unfold Ys
   dsimp only
   rw [hlen,if_pos (dlt hv),Qv hv,Option.bind_some,hpc v hv,Option.bind_some,Qms (fun p hp=>(Qas (hC p (p3 p hp))).2) (by have:=Qea p2 p3; omega),Option.bind_some]
   by_cases c:(F v).Rows.length=lprod (cardN F) (parN F v)
   ·rw [if_neg (by simp; omega)]
    rcases hrows v hv with ⟨h,_⟩ | ⟨_,e⟩
    ·exact absurd ⟨c,fun r hr=>by
      obtain ⟨k,hk,rfl⟩:=List.mem_iff_getElem.1 hr
      exact h k hk _ (List.getElem?_eq_getElem hk)⟩ hgd
    ·rw [e,Option.bind_some]
   ·rw [if_pos (by simp; omega)])
  (fun hI=>by unfold Ys; dsimp only; rw [hlen,if_neg (nlt n)])
 exact h
theorem Qqi {n:Nat} {g:Int} {F:Nat → Tapi_Node} (hb:NB n F):(Qk0 n g F∧Kb ⟨g,Qc n F⟩=some true)∨(¬ Qk0 n g F∧Kb ⟨g,Qc n F⟩=some false):=by
 have hlen:(Qc n F).length=n:=Qr
 unfold Kb
 dsimp only
 rw [hlen]
 by_cases c1:g < 1
 ·rw [if_pos (by simpa using c1)]; exact .inr ⟨fun h=>by have:=h.g1; omega,rfl⟩
 rw [if_neg (by simpa using c1)]
 by_cases c2:g > 60
 ·rw [if_pos (by simpa using c2)]; exact .inr ⟨fun h=>by have:=h.g60; omega,rfl⟩
 rw [if_neg (by simpa using c2)]
 by_cases c3:n < 1
 ·rw [if_pos (by simp; omega)]; exact .inr ⟨fun h=>by have:=h.n1; omega,rfl⟩
 rw [if_neg (by simp; omega)]
 by_cases c4:n > 8
 ·rw [if_pos (by simp; omega)]; exact .inr ⟨fun h=>by have:=h.n8; omega,rfl⟩
 rw [if_neg (by simp; omega)]
 rcases Q64 (n:=n) (g:=g) (by omega) hb with ⟨hC,e⟩ | ⟨hC,e⟩
 ·rw [e,Option.bind_some]
  dsimp only
  by_cases c5:prodTo n (cardN F) > 1024
  ·rw [if_pos (by simp; omega)]; exact .inr ⟨fun h=>by have:=h.worlds; omega,rfl⟩
  rw [if_neg (by simp; omega),Q36 (by omega) fun v hv=>(hC v hv).2,Option.bind_some]
  rw [show (Qm n (setF F))=(Qm n fun v=>bitsOf (parN F v) 0) from rfl]
  rcases Qw8 (n:=n) (q:=parN F) (by omega) (fun v hv=>(Ja (hC v hv).2).2.2) with ⟨hR,e⟩ | ⟨hR,e⟩
  ·rw [e,Option.bind_some,if_neg (by decide)]
   rcases Q4h (n:=n) (g:=g) (F:=F) (by omega) (by omega) (by omega) hb (fun v hv=>(hC v hv).1) (fun v hv=>(hC v hv).2) with ⟨hN,e⟩ | ⟨hN,e⟩
   ·left
    refine ⟨⟨by omega,by omega,by omega,by omega,fun v hv=>(hC v hv).1,by omega,fun v hv=>⟨⟨(hC v hv).2,fun hm=>?_⟩,hN v hv⟩,hR⟩,by rw [e]; rfl⟩
    obtain ⟨p1,_,_⟩:=Ja (hC v hv).2
    obtain ⟨rk,hrk⟩:=hR
    rw [p1] at hm
    unfold nI at hm
    obtain ⟨p,hp,e⟩:=List.mem_map.1 hm
    have:p=v:=by omega
    subst this
    have:=hrk p hv p hp; omega
   ·right
    exact ⟨fun h=>hN fun v hv=>(h.node v hv).2,by rw [e]; rfl⟩
  ·rw [e,Option.bind_some,if_pos (by decide)]
   exact .inr ⟨fun h=>hR h.rank,rfl⟩
 ·rw [e,Option.bind_some]; exact .inr ⟨fun h=>hC fun v hv=>⟨h.card v hv,(h.node v hv).1.1⟩,rfl⟩
end Go.Ab
namespace Go.Ab
open Go
set_option maxRecDepth 100000
set_option maxHeartbeats 400000
structure Kq (m:Nat) (x:Tapi_Node):Prop where
 par:x.Parents.length≤m
 rows:x.Rows.length≤m
 row:∀r∈x.Rows,r.length≤m
theorem Qm3 {m:Nat} {x:Tapi_Node} (hm:m≤1000000) (h:Kq m x):Qd fuel (X4 x) (0,([]:List (List Int)))=some x.Rows:=by
 have h1:=h.rows
 have hr:=Kd (n:=x.Rows.length) (k0:=0) (by omega) (by omega) (fun i (t:List (List Int))=>(i,t)) (body:=X4 x) (fun k=>x.Rows.take k) x.Rows
  (fun k _ hk=>by
   have h2:=h.row _ (List.getElem_mem hk)
   unfold X4
   dsimp only
   rw [if_pos (dlt hk),Qn hk,Option.bind_some,if_pos (by omega),if_pos (by rw [List.length_append,List.length_take]; simp; omega),Xn hk])
  (by unfold X4; dsimp only; rw [if_neg (nlt _),List.take_length])
 exact hr
theorem Q6r {x:Tapi_Node}:Qf4 x=X4 x:=rfl
theorem Q5d {x:Tapi_Node}:Qf1 x=X4 x:=rfl
theorem Qzm {m:Nat} {g:Int} {l:List Tapi_Node} {t:Nat} (hm:m≤1000000) (hl:l.length≤8) (h:∀x∈l,Kq m x) (ht:t < l.length) :
  Qd fuel (Qcb (fun s=>decide (s.1=(t:Int))) (Yw ⟨g,l⟩)) (0,([]:List Tapi_Node))=some (.inl ((t:Int),l.take t)):=by
 have step:∀k,k < t→Yw ⟨g,l⟩ ((k:Int),l.take k)=some (.next (((k+1:Nat):Int),l.take (k+1))):=fun k hk=>by
  have hkl:k < l.length:=by omega
  have hx:=h _ (List.getElem_mem hkl)
  have h3:=hx.par
  unfold Yw
  dsimp only
  rw [if_pos (dlt hkl),Qn hkl,Option.bind_some,if_pos (by omega),Qm3 hm hx,Option.bind_some,if_pos (by rw [List.length_append,List.length_take]; simp; omega),Xn hkl,Qu5 (by omega)]
 have key:∀(j N k:Nat),k+j=t→j < N→Qd N (Qcb (fun s=>decide (s.1=(t:Int))) (Yw ⟨g,l⟩)) ((k:Int),l.take k)=some (.inl ((t:Int),l.take t)):=by
  intro j
  induction j with
  | zero =>
   intro N k e hN
   obtain ⟨N,rfl⟩:∃M,N=M+1:=⟨N - 1,by omega⟩
   have:k=t:=by omega
   subst this
   simp only [Qd,Qcb,decide_true,if_true]
  | succ j ih =>
   intro N k e hN
   obtain ⟨N,rfl⟩:∃M,N=M+1:=⟨N - 1,by omega⟩
   have hne:¬ ((k:Int)=(t:Int)):=by omega
   have hs:Qcb (fun s=>decide (s.1=(t:Int))) (Yw ⟨g,l⟩) ((k:Int),l.take k)=some (.next (((k+1:Nat):Int),l.take (k+1))):=by
    unfold Qcb
    rw [if_neg (by simpa using hne),step k (by omega)]; rfl
   rw [Qd,hs]
   exact ih N (k+1) (by omega) (by omega)
 exact key t fuel 0 (by omega) (by show t < 1152921504606846976; omega)
theorem Q1n {m:Nat} {g:Int} {l:List Tapi_Node} {t:Nat} (hm:m≤1000000) (hl:l.length≤8) (h:∀x∈l,Kq m x) (ht:t < l.length) :
  Qd fuel (Vz ⟨g,l⟩ ((t:Int),l.take t)) (zw ((t:Int)+1),(l.take t++[(default:Tapi_Node)]))=some (l.take t++[(default:Tapi_Node)]++l.drop (t+1)):=by
 have hr:=Kd (n:=l.length) (k0:=t+1) (by omega) (by omega) (fun i (s:List Tapi_Node)=>(i,s)) (body:=Vz ⟨g,l⟩ ((t:Int),l.take t)) (fun k=>l.take t++[(default:Tapi_Node)]++(l.drop (t+1)).take (k - (t+1))) (l.take t++[(default:Tapi_Node)]++l.drop (t+1))
  (fun k hk0 hk=>by
   have hx:=h _ (List.getElem_mem hk)
   have h3:=hx.par
   have htl:(l.take t).length=t:=by rw [List.length_take]; omega
   have hi:t < (l.take t++[(default:Tapi_Node)]++(l.drop (t+1)).take (k - (t+1))).length:=by rw [List.length_append,List.length_append,htl]; simp only [List.length_cons,List.length_nil]; omega
   unfold Vz
   dsimp only
   rw [if_pos (dlt hk),Qn hk,Option.bind_some,if_pos (by omega),Q5d,Qm3 hm hx,Option.bind_some,htl,Qn hi,Option.bind_some,if_pos (by simp; omega)]
   congr 3
   rw [List.append_assoc,show k+1 - (t+1)=(k - (t+1))+1 by omega,Xn (by rw [List.length_drop]; omega)]
   congr 2
   rw [List.getElem_drop]
   simp only [show t+1+(k - (t+1))=k by omega])
  (by
   unfold Vz
   dsimp only
   rw [if_neg (nlt _)]
   congr 3
   rw [List.take_of_length_le (by rw [List.length_drop]; omega)])
 rw [Qu5 (by omega)]
 simp only [Nat.sub_self,List.take_zero,List.append_nil] at hr
 exact hr
def Out (m k:Nat) (o:Option Qb):Prop:=∃g l,o=some ⟨g,l⟩∧l.length≤k∧∀x∈l,Kq m x
theorem Qob {m k t:Nat} {g:Int} {l:List Tapi_Node} {x:Tapi_Node} (hl:l.length≤k) (h:∀y∈l,Kq m y) (hx:Kq m x):Out m k (some ⟨g,l.set t x⟩):=by
 refine ⟨g,_,rfl,by rw [List.length_set]; exact hl,fun y hy=>?_⟩
 rcases List.mem_or_eq_of_mem_set hy with h1 | h1
 ·exact h y h1
 ·rw [h1]; exact hx
theorem Qtd {m k t:Nat} {w0 w1 w2 w3 w4 w5 w6 row:Int} {q:Nat} {l:List Tapi_Node} {c:Int} {P:List Int} {R:List (List Int)} (hm:m≤1000000) (hl:l.length≤k) (hk:k≤8) (h:∀y∈l,Kq m y) (ht:t < l.length) (hP:P.length≤m) (hR:R.length≤m) (hr:∀r∈R,r.length≤m)
  (hrow:row=-1∨(0≤row∧row < R.length)):Out (m+1) (k+1) (V5 q row w0 w1 w2 w3 w4 w5 l (t:Int) c P R):=by
 have h':∀y∈l,Kq (m+1) y:=fun y hy=>⟨Nat.le_succ_of_le (h y hy).par,Nat.le_succ_of_le (h y hy).rows,fun r hr=>Nat.le_succ_of_le ((h y hy).row r hr)⟩
 have hlk:lkI l (t:Int)=some l[t]:=Qn ht
 have mk:∀{g c:Int} {P:List Int} {R:List (List Int)},P.length≤m+1→R.length≤m+1→(∀r∈R,r.length≤m+1)→Out (m+1) (k+1) (Qo g l (t:Int) c P R):=fun a b d=>by
  unfold Qo
  rw [hlk,Option.bind_some]
  exact Qob (Nat.le_succ_of_le hl) h' ⟨a,b,d⟩
 have same:∀{g c:Int},Out (m+1) (k+1) (Qo g l (t:Int) c P R):=mk (by omega) (by omega) fun r h=>Nat.le_succ_of_le (hr r h)
 have rowAt:0≤row→∃(i:Nat) (hi:i < R.length),row=(i:Int)∧lkI R row=some R[i]:=fun h0=>by
  rcases hrow with h1 | h1
  ·omega
  ·obtain ⟨i,rfl⟩:∃i:Nat,row=(i:Int):=⟨row.toNat,by omega⟩
   exact ⟨i,by omega,rfl,Qn (by omega)⟩
 have setR:∀{i:Nat} {r:List Int},r.length≤m+1→(R.set i r).length≤m+1∧∀s∈R.set i r,s.length≤m+1:=fun hr'=>⟨by rw [List.length_set]; omega,fun s hs=>by
  rcases List.mem_or_eq_of_mem_set hs with h1 | h1
  ·exact Nat.le_succ_of_le (hr s h1)
  ·rw [h1]; exact hr'⟩
 unfold V5
 by_cases c0:Int.tmod w0 12=0
 ·rw [if_pos (by simpa using c0)]; exact same
 rw [if_neg (by simpa using c0)]
 by_cases c1:Int.tmod w0 12=1
 ·rw [if_pos (by simpa using c1),hlk,Option.bind_some]; exact same
 rw [if_neg (by simpa using c1)]
 by_cases c2:Int.tmod w0 12=2
 ·rw [if_pos (by simpa using c2),hlk,Option.bind_some,if_pos (by rw [List.length_append]; simp; omega)]
  exact mk (by rw [List.length_append]; simp; omega) (by omega) fun r h=>Nat.le_succ_of_le (hr r h)
 rw [if_neg (by simpa using c2)]
 by_cases c3:Int.tmod w0 12=3
 ·rw [if_pos (by simpa using c3),hlk,Option.bind_some]
  unfold Qbn
  rw [hlk,Option.bind_some]
  exact Qob (Nat.le_succ_of_le hl) h' ⟨by simp,Nat.le_succ_of_le hR,fun r h=>Nat.le_succ_of_le (hr r h)⟩
 rw [if_neg (by simpa using c3)]
 by_cases c4:Int.tmod w0 12=4
 ·rw [if_pos (by simpa using c4),hlk,Option.bind_some,if_pos (by rw [List.length_append]; simp; omega)]
  refine mk (by omega) (by rw [List.length_append]; simp; omega) fun r h=>?_
  rcases List.mem_append.1 h with h1 | h1
  ·exact Nat.le_succ_of_le (hr r h1)
  ·simp at h1; rw [h1]; simp
 rw [if_neg (by simpa using c4)]
 by_cases c5:Int.tmod w0 12=5
 ·rw [if_pos (by simpa using c5)]
  by_cases d:row≥0
  ·rw [if_pos (by simpa using d),hlk,Option.bind_some,if_pos (by rcases hrow with h1 | h1 <;> omega)]
   unfold Qca
   refine Qob (Nat.le_succ_of_le hl) h' ⟨by simp only; omega,?_,fun r h=>?_⟩
   ·show (sub R 0 row).length≤m+1
    unfold sub; simp; omega
   ·have h:r∈sub R 0 row:=h
    unfold sub at h
    exact Nat.le_succ_of_le (hr r (List.mem_of_mem_take (by simpa using h)))
  ·rw [if_neg (by simpa using d)]; exact same
 rw [if_neg (by simpa using c5)]
 by_cases c6:Int.tmod w0 12=6
 ·rw [if_pos (by simpa using c6)]
  by_cases d:row≥0
  ·obtain ⟨i,hi,e1,e2⟩:=rowAt d
   rw [if_pos (by simpa using d),hlk,Option.bind_some,e2,Option.bind_some]
   have hri:=hr _ (List.getElem_mem hi)
   by_cases d2:((R[i].length:Int) > 0)
   ·rw [if_pos (by simpa using d2),show (0:Int)=((0:Nat):Int) from rfl,Qn (by omega),Option.bind_some]
    obtain ⟨a,b⟩:=setR (i:=row.toNat) (r:=R[i].set (Int.toNat ((0:Nat):Int)) w3) (by rw [List.length_set]; omega)
    exact mk (by omega) a b
   ·rw [if_neg (by simpa using d2)]; exact same
  ·rw [if_neg (by simpa using d)]; exact same
 rw [if_neg (by simpa using c6)]
 by_cases c7:Int.tmod w0 12=7
 ·rw [if_pos (by simpa using c7)]
  by_cases d:row≥0
  ·obtain ⟨i,hi,e1,e2⟩:=rowAt d
   have hri:=hr _ (List.getElem_mem hi)
   rw [if_pos (by simpa using d),e2,Option.bind_some,hlk,Option.bind_some,if_pos (by rw [List.length_append]; simp; omega),List.set_set]
   obtain ⟨a,b⟩:=setR (i:=row.toNat) (r:=R[i]++[(0:Int)]) (by rw [List.length_append]; simp; omega)
   exact mk (by omega) a b
  ·rw [if_neg (by simpa using d)]; exact same
 rw [if_neg (by simpa using c7)]
 by_cases c8:Int.tmod w0 12=8
 ·rw [if_pos (by simpa using c8)]
  by_cases d:row≥0
  ·obtain ⟨i,hi,e1,e2⟩:=rowAt d
   have hri:=hr _ (List.getElem_mem hi)
   rw [if_pos (by simpa using d),hlk,Option.bind_some,e2,Option.bind_some]
   by_cases d2:((R[i].length:Int) > 0)
   ·rw [if_pos (by simpa using d2),if_pos (by omega),show (0:Int)=((0:Nat):Int) from rfl,Qn (by rw [List.length_replicate]; omega),Option.bind_some,List.set_set]
    obtain ⟨a,b⟩:=setR (i:=row.toNat) (r:=(List.replicate (Int.toNat (R[i].length:Int)) ((0:Nat):Int)).set (Int.toNat ((0:Nat):Int)) w4) (by rw [List.length_set,List.length_replicate]; omega)
    exact mk (by omega) a b
   ·rw [if_neg (by simpa using d2)]; exact same
  ·rw [if_neg (by simpa using d)]; exact same
 rw [if_neg (by simpa using c8)]
 by_cases c9:Int.tmod w0 12=9
 ·rw [if_pos (by simpa using c9)]
  by_cases d:row≥0
  ·obtain ⟨i,hi,e1,e2⟩:=rowAt d
   have hri:=hr _ (List.getElem_mem hi)
   rw [if_pos (by simpa using d),hlk,Option.bind_some,e2,Option.bind_some]
   have hw:=Z2 (body:=Qbz row) (fun s:Int × Int × List (List Int)=>∃(a b:Int) (T:List (List Int)),s=(a,b,T)∧0≤a∧-1≤b∧a+b=(R[i].length:Int) - 1∧T.length=R.length∧(∀r∈T,r.length≤m)∧∃r,T[i]?=some r∧r.length=R[i].length) (fun s=>R[i].length+1 - s.1.toNat) (fun T=>T.length=R.length∧∀r∈T,r.length≤m)
    (fun s hs=>by
     obtain ⟨a,b,T,rfl,ha,hb,hab,hT,hTr,r,er,hrl⟩:=hs
     unfold Qbz
     dsimp only
     by_cases hc:a < b
     ·left
      have eT:lkI T row=some r:=by unfold lkI; rw [if_neg (by omega),e1,Int.toNat_natCast,er]
      have l1:∀(s:List Int) (z:Int),s.length=R[i].length→0≤z→z < R[i].length→lkI s z=some ((s[z.toNat]?).getD 0):=fun s z hs h1 h2=>by
       unfold lkI; rw [if_neg (by omega),List.getElem?_eq_getElem (by omega)]; rfl
      rw [if_pos (by simpa using hc),eT,Option.bind_some,l1 r a hrl ha (by omega),Option.bind_some,l1 r b hrl (by omega) (by omega),Option.bind_some,l1 _ b (by rw [List.length_set]; exact hrl) (by omega) (by omega),Option.bind_some,List.set_set,w64 (by omega),w64 (by omega)]
      refine ⟨_,rfl,⟨_,_,_,rfl,by omega,by omega,by omega,by rw [List.length_set]; exact hT,fun s hs=>?_,_,by rw [e1,Int.toNat_natCast,List.getElem?_set_self (by omega)],by rw [List.length_set,List.length_set]; exact hrl⟩,by simp only; omega⟩
      rcases List.mem_or_eq_of_mem_set hs with h1 | h1
      ·exact hTr s h1
      ·rw [h1,List.length_set,List.length_set,hrl]; exact hri
     ·right
      rw [if_neg (by simpa using hc)]
      exact ⟨_,rfl,hT,hTr⟩) (0,zw ((R[i].length:Int) - 1),R) ⟨0,(R[i].length:Int) - 1,R,by rw [w64 (by omega)],by omega,by omega,by omega,rfl,hr,_,List.getElem?_eq_getElem hi,rfl⟩ (by show R[i].length+1 - 0 < 1152921504606846976; omega)
   obtain ⟨T,h1,h2,h3⟩:=hw
   rw [h1,Option.bind_some]
   exact mk (by omega) (by omega) fun r h=>Nat.le_succ_of_le (h3 r h)
  ·rw [if_neg (by simpa using d)]; exact same
 rw [if_neg (by simpa using c9)]
 by_cases c10:Int.tmod w0 12=10
 ·rw [if_pos (by simpa using c10),hlk,Option.bind_some,if_pos (by rw [List.length_append]; simp; omega)]
  unfold Qo
  have hn:∀y∈l++[Tapi_Node.mk 1 [] [[w4]]],Kq (m+1) y:=fun y hy=>by
   rcases List.mem_append.1 hy with h1 | h1
   ·exact h' y h1
   ·simp at h1; rw [h1]; exact ⟨by simp,by simp,fun r hr=>by simp at hr; rw [hr]; simp⟩
  rw [Qn (by rw [List.length_append]; omega),Option.bind_some]
  exact Qob (by rw [List.length_append]; simp; omega) hn ⟨by simp only; omega,by simp only; omega,fun r h=>Nat.le_succ_of_le (hr r h)⟩
 rw [if_neg (by simpa using c10),hlk,Option.bind_some,List.length_set,w64 (n:=(l.length:Int) - 1) (by omega),if_pos (by omega)]
 have hx:Kq (m+1) (Tapi_Node.mk c P R):=⟨by simp only; omega,by simp only; omega,fun r h=>Nat.le_succ_of_le (hr r h)⟩
 refine ⟨_,_,rfl,?_,fun y hy=>?_⟩
 ·unfold sub; simp; omega
 ·unfold sub at hy
  have hy:=List.mem_of_mem_take (show y∈List.take (l.length - 1) (l.set t { Card:=c,Parents:=P,Rows:=R }) by simpa using hy)
  rcases List.mem_or_eq_of_mem_set hy with h1 | h1
  ·exact h' y h1
  ·rw [h1]; exact hx
theorem Q34 {b:Zt} {g:Int} {l:List Tapi_Node} {m:Nat} (hm:m≤999999) (h1:1≤l.length) (hl:l.length≤8) (h:∀x∈l,Kq m x) (hA:0≤b.At∧b.At≤255) (hR:0≤b.Row∧b.Row≤255):Out (m+1) (l.length+1) (Km b ⟨g,l⟩):=by
 have eA:zw b.At=b.At:=w64 (by omega)
 have eR:zw b.Row=b.Row:=w64 (by omega)
 have tm:∀k:Nat,0 < k→∃t:Nat,t < k∧Int.tmod b.At (k:Int)=(t:Int):=fun k hk=>by
  rw [Xr hA.1]
  have h1:=Int.emod_nonneg b.At (show (k:Int)≠0 by omega)
  have h2:=Int.emod_lt_of_pos b.At (show (0:Int) < k by omega)
  exact ⟨(b.At % k).toNat,by omega,by omega⟩
 obtain ⟨t,ht,et⟩:=tm l.length (by omega)
 unfold Km
 dsimp only
 rw [eA,et,Qzm (by omega) hl h ht,Option.bind_some]
 dsimp only
 have hx:=h _ (List.getElem_mem ht)
 have hxp:=hx.par
 have htl:(l.take t).length=t:=by rw [List.length_take]; omega
 rw [if_pos (dlt ht),Qn ht,Option.bind_some,if_pos (by omega),Q6r,Qm3 (by omega) hx,Option.bind_some,if_pos (by rw [List.length_append,htl]; simp; omega),Q1n (by omega) hl h ht,Option.bind_some,htl]
 have hlen:(l.take t++[(default:Tapi_Node)]++l.drop (t+1)).length=l.length:=by simp [htl]; omega
 have hall:∀y∈l.take t++[(default:Tapi_Node)]++l.drop (t+1),Kq m y:=fun y hy=>by
  rcases List.mem_append.1 hy with h1 | h1
  ·rcases List.mem_append.1 h1 with h2 | h2
   ·exact h y (List.mem_of_mem_take h2)
   ·simp at h2; rw [h2]; exact ⟨Nat.zero_le _,Nat.zero_le _,fun r hr=>by cases hr⟩
  ·exact h y (List.mem_of_mem_drop h1)
 generalize l.take t++[(default:Tapi_Node)]++l.drop (t+1)=L at hlen hall
 have hne:¬ (((l.length:Int)==0)=true):=by simp; intro e; rw [e] at h1; simp at h1
 rw [hlen,if_neg hne,if_pos (by omega),Qn (by omega),Option.bind_some,et,if_pos rfl]
 by_cases c:((l[t].Rows.length:Int) > 0)
 ·rw [if_pos (by simpa using c),if_pos (by omega)]
  have hrow:0≤Int.tmod (zw b.Row) (l[t].Rows.length:Int)∧Int.tmod (zw b.Row) (l[t].Rows.length:Int) < l[t].Rows.length:=by
   rw [eR,Xr hR.1]
   exact ⟨Int.emod_nonneg _ (by omega),Int.emod_lt_of_pos _ (by omega)⟩
  exact Qtd (by omega) (by omega) hl hall (by omega) hx.par hx.rows hx.row (.inr hrow) (w5:=0) (w6:=0)
 ·rw [if_neg (by simpa using c)]
  exact Qtd (by omega) (by omega) hl hall (by omega) hx.par hx.rows hx.row (.inl rfl) (w5:=0) (w6:=0)
theorem Q4p {l:List Tapi_Node}:l=Qc l.length fun v=>(l[v]?).getD default:=by
 apply List.ext_getElem?
 intro i
 unfold Qc
 rw [List.getElem?_map]
 by_cases c:i < l.length
 ·rw [List.getElem?_eq_getElem c,List.getElem?_range c]
  simp [c]
 ·rw [List.getElem?_eq_none (by omega),List.getElem?_eq_none (by simp; omega)]; rfl
theorem Q8j {l:List Tapi_Node} {m:Nat} (hm:m≤1000000) (h:∀x∈l,Kq m x):NB l.length fun v=>(l[v]?).getD default:=by
 have key:∀v,v < l.length→Kq m ((l[v]?).getD default):=fun v hv=>by
  rw [List.getElem?_eq_getElem hv]; exact h _ (List.getElem_mem hv)
 exact ⟨fun v hv=>by have:=(key v hv).par; omega,fun v hv=>by have:=(key v hv).rows; omega,fun v hv r hr=>by have:=(key v hv).row r hr; omega⟩
end Go.Ab
namespace Go.Ab
open Go
theorem Q28 {n:Nat} {f:Nat → Int} {c:Int}:Ql n (fun k=>f k*c)=Ql n f*c:=by
 induction n with
 | zero=>simp [Ql]
 | succ n ih=>simp only [Ql,ih]; rw [Int.add_mul]
theorem Q5h {n:Nat} {f g:Nat → Int} (h:∀k,k < n→f k≤g k):Ql n f≤Ql n g:=by
 induction n with
 | zero=>exact Int.le_refl 0
 | succ n ih=>simp only [Ql]; have:=ih (fun k hk=>h k (by omega)); have:=h n (by omega); omega
theorem Qzl {a b:Nat} {f:Nat → Int}:Ql (a*b) f=Ql a (fun x=>Ql b (fun y=>f (x*b+y))):=by
 induction a with
 | zero=>simp [Ql]
 | succ a ih=>rw [Nat.succ_mul,Qk6,ih]; simp only [Ql]
theorem Qcd {n:Nat} {f g:Nat → Nat} (h:∀k,k < n→f k=g k):prodTo n f=prodTo n g:=by
 induction n with
 | zero=>rfl
 | succ n ih=>simp only [prodTo]; rw [ih (fun k hk=>h k (by omega)),h n (by omega)]
theorem Qul {n j:Nat} {f:Nat → Nat} (h:j < n):prodTo n (fun v=>if v=j then 1 else f v)*f j=prodTo n f:=by
 induction n with
 | zero=>omega
 | succ n ih =>
  simp only [prodTo]
  by_cases e:n=j
  ·subst e
   rw [if_pos rfl,Nat.mul_one,Qcd (g:=f) (fun k hk=>if_neg (by omega))]
  ·rw [if_neg e,←ih (by omega),Nat.mul_assoc,Nat.mul_comm (f n),←Nat.mul_assoc]
end Go.Ab
namespace Go.Ab
open Go
def horner (c w:Nat → Nat) (l:List Nat):Nat := l.foldl (fun r p=>r*c p+w p) 0
theorem Qtq {c w:Nat → Nat} {l:List Nat} {p:Nat}:horner c w (l++[p])=horner c w l*c p+w p:=by simp [horner]
theorem Qs7 {c w:Nat → Nat} {l:List Nat} (h:∀p∈l,w p < c p):horner c w l < lprod c l:=by
 have key:∀(l:List Nat) (r R:Nat),r < R→(∀p∈l,w p < c p)→l.foldl (fun r p=>r*c p+w p) r < l.foldl (fun r p=>r*c p) R:=by
  intro l
  induction l with
  | nil=>intro r R h _; exact h
  | cons p l ih =>
   intro r R hr hp
   simp only [List.foldl_cons]
   refine ih _ _ ?_ (fun q hq=>hp q (List.mem_cons_of_mem _ hq))
   have h1:=hp p (by simp)
   have h2:(r+1)*c p≤R*c p:=Nat.mul_le_mul_right _ hr
   rw [Nat.succ_mul] at h2
   omega
 exact key l 0 1 (by omega) h
def NF.idx (D:NF) (v:Nat) (w:Nat → Nat):Nat := horner D.card w (D.par v)
def NF.wt (D:NF) (w:Nat → Nat) (v:Nat):Nat := D.W v (D.idx v w) (w v)
def NF.ok (D:NF) (w:Nat → Nat):Prop:=∀v,v < D.n→w v < D.card v
section
variable {D:NF} (V:VN D) {w:Nat → Nat}
include V
theorem VN.idx_lt (hw:D.ok w) {v:Nat} (hv:v < D.n):D.idx v w < D.rows v:=Qs7 fun p hp=>hw p (V.par v hv p hp)
theorem VN.wt_le (hw:D.ok w) {v:Nat} (hv:v < D.n):D.wt w v≤60:=Nat.le_trans (V.W v _ _ hv (V.idx_lt hw hv) (hw v hv)) V.g60
theorem VN.weigh0 (hw:D.ok w) {v:Nat} (hv:v < D.n):Qd fuel (Jn (D.node v) D.net (Qm D.n w)) (0,0)=some (D.idx v w:Int):=by
 have hl:(D.node v).Parents.length=(D.par v).length:=by simp [NF.node]
 refine Ze (fun k=>((horner D.card w ((D.par v).take k):Int),(k:Int))) (D.par v).length _ rfl (fun k hk=>?_) ?_ (by have:=V.len v hv; omega)
 ·have hlen:=V.len v hv
  have hp:=V.par v hv (D.par v)[k] (List.getElem_mem hk)
  have hpar:lkI (D.node v).Parents (k:Int)=some (((D.par v)[k]:Nat):Int):=by rw [Qn (by rw [hl]; exact hk)]; simp [NF.node]
  have h1:horner D.card w ((D.par v).take k) < lprod D.card ((D.par v).take k):=Qs7 fun p hp=>hw p (V.par v hv p (List.mem_of_mem_take hp))
  have h2:lprod D.card ((D.par v).take k)≤4^8:=Nat.le_trans (Qfb fun p hp=>(V.card p (V.par v hv p (List.mem_of_mem_take hp))).2) (Nat.pow_le_pow_right (by omega) (by rw [List.length_take]; omega))
  have h3:horner D.card w ((D.par v).take (k+1))=horner D.card w ((D.par v).take k)*D.card (D.par v)[k]+w (D.par v)[k]:=by rw [Xn hk,Qtq]
  have hc:=(V.card _ hp).2
  have hww:=hw _ hp
  have h4:horner D.card w ((D.par v).take k)*D.card (D.par v)[k]≤65536*4:=Nat.mul_le_mul (by omega) hc
  unfold Jn
  simp only
  rw [if_pos (by rw [hl]; simpa using hk),hpar]
  simp only [Option.bind_some]
  rw [V.node hp]
  simp only [Option.bind_some]
  rw [Zr hp]
  simp only [Option.bind_some]
  have e1:((horner D.card w ((D.par v).take k):Nat):Int)*(D.node (D.par v)[k]).Card=((horner D.card w ((D.par v).take k)*D.card (D.par v)[k]:Nat):Int):=by simp [NF.node]
  have w1:zw ((horner D.card w ((D.par v).take k)*D.card (D.par v)[k]:Nat):Int)=((horner D.card w ((D.par v).take k)*D.card (D.par v)[k]:Nat):Int):=w64 (by omega)
  rw [e1,w1,w64 (by omega),w64 (by omega),h3]
  simp
 ·unfold Jn
  simp only
  rw [if_neg (by rw [hl]; simp)]
  simp [NF.idx]
end
structure SF where
 N:Nat
 R:Nat
 F:Nat
 T:Nat
def SF.sh (s:SF):Tapi_Shift:=⟨s.N,s.R,s.F,s.T⟩
def NF.hit (D:NF) (s:SF) (w:Nat → Nat):Bool:=D.idx s.N w==s.R
def NF.change (D:NF) (s:SF) (w:Nat → Nat):Int:=if D.hit s w=true then (if w s.N=s.F then -1 else if w s.N=s.T then 1 else 0) else 0
def NF.rest (D:NF) (s:SF) (w:Nat → Nat):Nat → Nat := fun k=>prodTo k fun v=>if v=s.N∧D.hit s w=true then 1 else D.wt w v
def NF.own (D:NF) (s:SF) (w:Nat → Nat):Nat := if D.hit s w=true then D.wt w s.N else 1
def NF.fA (D:NF) (s:SF) (w:Nat → Nat):Int:=(D.rest s w D.n:Int)*D.own s w
def NF.fB (D:NF) (s:SF) (w:Nat → Nat):Int:=(D.rest s w D.n:Int)*D.change s w
section
variable {D:NF} (V:VN D) {w:Nat → Nat} {s:SF}
include V
theorem VN.rest_le (hw:D.ok w) {k:Nat} (hk:k≤D.n):D.rest s w k≤167961600000000:=by
 have h1:D.rest s w k≤60^k:=Vk fun v hv=>by
  split
  ·omega
  ·exact V.wt_le hw (by omega)
 have h2:(60:Nat)^k≤60^8:=Nat.pow_le_pow_right (by omega) (by have:=V.n8; omega)
 exact Nat.le_trans h1 (Nat.le_trans h2 (by decide))
theorem VN.own_le (hw:D.ok w) (hs:s.N < D.n):D.own s w≤60:=by
 unfold NF.own
 split
 ·exact V.wt_le hw hs
 ·omega
theorem VN.weigh_eq (hw:D.ok w) (hs:s.N < D.n):K9 D.net (Qm D.n w) s.sh=some (D.fA s w,D.fB s w):=by
 have hlen:D.net.Nodes.length=D.n:=Qr
 have hn8:=V.n8
 have hrun:Qd fuel (Jj D.net (Qm D.n w) s.sh) (1,1,0,0)=some ((D.rest s w D.n:Int),(D.own s w:Int),D.change s w):=by
  refine Ze (fun k=>((D.rest s w k:Int),(if s.N < k then (D.own s w:Int) else 1),(if s.N < k then D.change s w else 0),(k:Int))) D.n _ (by simp [NF.rest,prodTo]) (fun k hk=>?_) ?_ (by omega)
  ·have hb:=V.rest_le (s:=s) hw (k:=k) (by omega)
   have hwt:=V.wt_le hw hk
   have hr1:D.rest s w (k+1)=D.rest s w k*(if k=s.N∧D.hit s w=true then 1 else D.wt w k):=rfl
   have hi:=V.idx_lt hw hk
   have hm:D.rest s w k*D.wt w k≤167961600000000*60:=Nat.mul_le_mul hb hwt
   unfold Jj
   simp only
   rw [if_pos (by rw [hlen]; simpa using hk),V.node hk]
   simp only [Option.bind_some]
   rw [V.weigh0 hw hk]
   simp only [Option.bind_some]
   rw [show lkI (D.node k).Rows (D.idx k w:Int)=some (Qc (D.card k) fun x=>(D.W k (D.idx k w) x:Int)) from Qv hi]
   simp only [Option.bind_some]
   rw [Zr hk]
   simp only [Option.bind_some]
   rw [show lkI (Qc (D.card k) fun x=>(D.W k (D.idx k w) x:Int)) (w k:Int)=some (D.wt w k:Int) from Qv (hw k hk)]
   simp only [Option.bind_some]
   have hi1:zw ((k:Int)+1)=((k+1:Nat):Int):=by rw [w64 (by omega)]; omega
   rw [hi1]
   by_cases hN:k=s.N
   ·subst hN
    by_cases hh:D.hit s w=true
    ·have hR:D.idx s.N w=s.R:=by simpa [NF.hit] using hh
     rw [if_neg (by simp [SF.sh,hR])]
     have hrest:D.rest s w (s.N+1)=D.rest s w s.N:=by rw [hr1,if_pos ⟨rfl,hh⟩,Nat.mul_one]
     rw [hrest]
     simp only [Nat.lt_irrefl,if_false,Nat.lt_succ_self,if_true,NF.own,NF.change,hh]
     by_cases hF:w s.N=s.F
     ·rw [if_pos (by simp [SF.sh,hF])]; simp [hF]
     ·rw [if_neg (by simp [SF.sh]; omega)]
      by_cases hT:w s.N=s.T
      ·rw [if_pos (by simp [SF.sh,hT]),if_neg hF,if_pos hT]
      ·rw [if_neg (by simp [SF.sh]; omega),if_neg hF,if_neg hT]
    ·have hR:D.idx s.N w≠s.R:=by simpa [NF.hit] using hh
     rw [if_pos (by simp [SF.sh]; omega)]
     have hrest:D.rest s w (s.N+1)=D.rest s w s.N*D.wt w s.N:=by rw [hr1,if_neg (fun h=>hh h.2)]
     rw [hrest]
     simp only [Nat.lt_irrefl,if_false,Nat.lt_succ_self,if_true,NF.own,NF.change,hh]
     rw [w64 (by rw [←Int.natCast_mul]; omega)]
     simp
   ·have e1:(s.N < k+1)=(s.N < k):=propext (by omega)
    rw [if_pos (by simp [SF.sh]; omega)]
    have hrest:D.rest s w (k+1)=D.rest s w k*D.wt w k:=by rw [hr1,if_neg (fun h=>hN h.1)]
    rw [hrest]
    simp only [e1]
    rw [w64 (by rw [←Int.natCast_mul]; omega)]
    simp
  ·unfold Jj
   simp only
   rw [if_neg (by rw [hlen]; simp)]
   simp [hs]
 have hb:=V.rest_le (s:=s) hw (k:=D.n) (Nat.le_refl _)
 have ho:=V.own_le (s:=s) hw hs
 have hm:D.rest s w D.n*D.own s w≤167961600000000*60:=Nat.mul_le_mul hb ho
 have hc:D.change s w=-1∨D.change s w=0∨D.change s w=1:=by
  unfold NF.change
  split
  ·split
   ·exact .inl rfl
   ·split
    ·exact .inr (.inr rfl)
    ·exact .inr (.inl rfl)
  ·exact .inr (.inl rfl)
 unfold K9
 rw [hrun]
 simp only [Option.bind_some]
 rw [w64 (by rw [←Int.natCast_mul]; omega),w64 (by rcases hc with h | h | h <;> rw [h] <;> omega)]
 rfl
theorem VN.fB_bound (hw:D.ok w):-167961600000000≤D.fB s w∧D.fB s w≤167961600000000:=by
 have hb:=V.rest_le (s:=s) hw (k:=D.n) (Nat.le_refl _)
 have hc:D.change s w=-1∨D.change s w=0∨D.change s w=1:=by
  unfold NF.change
  split
  ·split
   ·exact .inl rfl
   ·split
    ·exact .inr (.inr rfl)
    ·exact .inr (.inl rfl)
  ·exact .inr (.inl rfl)
 unfold NF.fB
 rcases hc with h | h | h <;> rw [h] <;> omega
theorem VN.fA_eq (hs:s.N < D.n):D.fA s w=(prodTo D.n (D.wt w):Int):=by
 unfold NF.fA NF.rest NF.own
 by_cases hh:D.hit s w=true
 ·rw [if_pos hh,Qcd (g:=fun v=>if v=s.N then 1 else D.wt w v) (fun k _=>by simp [hh]),←Int.natCast_mul,Qul hs]
 ·rw [if_neg hh,Qcd (g:=D.wt w) (fun k _=>by rw [if_neg (fun h=>hh h.2)])]; simp
end
end Go.Ab
namespace Go.Ab
open Go
def TM (D:NF) (E:Nat → Int) (f:(Nat → Nat)→Int):Nat → Nat → (Nat → Nat)→Int
 | 0,_,w=>f w
 | d+1,i,w=>Ql (D.card i) fun x=>if E i=-1∨E i=(x:Int) then TM D E f d (i+1) (Xm w i x) else 0
def PC (D:NF):Nat → Nat → Nat
 | 0,_=>1
 | d+1,i=>D.card i*PC D d (i+1)
theorem Q1d {D:NF} (V:VN D):∀(d i:Nat),i+d=D.n→1≤PC D d i
 | 0,_,_=>Nat.le_refl 1
 | d+1,i,h=>by
  have:=Q1d V d (i+1) (by omega)
  have h2:=(V.card i (by omega)).1
  exact Nat.le_trans (by simp) (Nat.mul_le_mul h2 this)
theorem Qoc {D:NF}:∀(d i:Nat),prodTo i D.card*PC D d i=prodTo (i+d) D.card
 | 0,i=>by simp [PC]
 | d+1,i=>by
  have:=Qoc (D:=D) d (i+1)
  simp only [PC]
  rw [←Nat.mul_assoc]
  rw [show i+(d+1)=i+1+d by omega,←this]; rfl
def Ext (D:NF) (f:(Nat → Nat)→Int):Prop:=∀w w',(∀j,j < D.n→w j=w' j)→f w=f w'
theorem Qwy {D:NF} {E:Nat → Int} {f:(Nat → Nat)→Int} (hf:Ext D f):∀(d i:Nat) (w w':Nat → Nat),i+d=D.n→(∀j,j < i→w j=w' j)→TM D E f d i w=TM D E f d i w'
 | 0,i,w,w',h,hw=>hf w w' fun j hj=>hw j (by omega)
 | d+1,i,w,w',h,hw=>by
  unfold TM
  refine Y9 fun x _=>?_
  rw [Qwy hf d (i+1) (Xm w i x) (Xm w' i x) (by omega) (fun j hj=>?_)]
  unfold Xm
  by_cases e:j=i
  ·rw [if_pos e,if_pos e]
  ·rw [if_neg e,if_neg e]; exact hw j (by omega)
theorem BD.mono {m p:Nat} {a:Int} (h:BD m a) (hp:m≤p):BD p a:=by
 unfold BD KK at *; omega
theorem BD.fit {m:Nat} {a:Int} (h:BD m a) (hm:m≤1024):-9223372036854775808≤a∧a≤9223372036854775807:=by unfold BD KK at h; omega
theorem Qmn {D:NF} {w:Nat → Nat} {i x:Nat} (h:D.ok w) (hx:x < D.card i):D.ok (Xm w i x):=fun v hv=>by
 unfold Xm
 by_cases e:v=i
 ·rw [if_pos e,e]; exact hx
 ·rw [if_neg e]; exact h v hv
theorem Qpp {D:NF} {E:Nat → Int} {f:(Nat → Nat)→Int} (hf:∀w,D.ok w→BD 1 (f w)):∀(d i:Nat) (w:Nat → Nat),i+d=D.n→D.ok w→BD (PC D d i) (TM D E f d i w)
 | 0,i,w,_,hw=>hf w hw
 | d+1,i,w,h,hw=>by
  unfold TM PC
  refine BD.sum fun x hx=>?_
  split
  ·exact Qpp hf d (i+1) _ (by omega) (Qmn hw hx)
  ·exact BD.zero
def K4 (A B:Nat → Int):Nat → Int × Int × Int × Int:=fun x=>(A x,B x,0,0)
def at' (v x:Nat) (f:(Nat → Nat)→Int):(Nat → Nat)→Int:=fun w=>if w v=x then f w else 0
section
variable {D:NF} (V:VN D) {s:SF} {E:Nat → Int} {v:Nat}
theorem Qyd (V:VN D) {w w':Nat → Nat} (h:∀j,j < D.n→w j=w' j) {u:Nat} (hu:u < D.n):D.idx u w=D.idx u w':=by
 unfold NF.idx horner
 have:∀(l:List Nat) (r:Nat),(∀p∈l,p < D.n)→l.foldl (fun r p=>r*D.card p+w p) r=l.foldl (fun r p=>r*D.card p+w' p) r:=by
  intro l
  induction l with
  | nil=>intros; rfl
  | cons p l ih =>
   intro r hp
   simp only [List.foldl_cons]
   rw [h p (hp p (by simp)),ih _ (fun q hq=>hp q (List.mem_cons_of_mem _ hq))]
 exact this _ 0 (V.par u hu)
theorem Q1a (V:VN D) {w w':Nat → Nat} (h:∀j,j < D.n→w j=w' j) {u:Nat} (hu:u < D.n):D.wt w u=D.wt w' u:=by
 unfold NF.wt; rw [Qyd V h hu,h u hu]
theorem Qrw (V:VN D) (hs:s.N < D.n) {w w':Nat → Nat} (h:∀j,j < D.n→w j=w' j):D.hit s w=D.hit s w':=by unfold NF.hit; rw [Qyd V h hs]
theorem Qv3 (V:VN D) (hs:s.N < D.n) {w w':Nat → Nat} (h:∀j,j < D.n→w j=w' j):D.rest s w D.n=D.rest s w' D.n:=by
 unfold NF.rest
 exact Qcd fun u hu=>by rw [Qrw V hs h,Q1a V h hu]
theorem Qqp (V:VN D) (hs:s.N < D.n):Ext D (D.fA s):=fun w w' h=>by
 unfold NF.fA NF.own; rw [Qv3 V hs h,Qrw V hs h,Q1a V h hs]
theorem Qra (V:VN D) (hs:s.N < D.n):Ext D (D.fB s):=fun w w' h=>by
 unfold NF.fB NF.change; rw [Qv3 V hs h,Qrw V hs h,h s.N hs]
theorem Qqt {f:(Nat → Nat)→Int} (hv:v < D.n) (hf:Ext D f) {x:Nat}:Ext D (at' v x f):=fun w w' h=>by
 unfold at'; rw [h v hv,hf w w' h]
theorem Qiv (V:VN D) (hs:s.N < D.n):∀w,D.ok w→BD 1 (D.fA s w):=fun w hw=>by
 rw [V.fA_eq hs]
 have h1:prodTo D.n (D.wt w)≤60^D.n:=Vk fun u hu=>V.wt_le hw hu
 have h2:(60:Nat)^D.n≤60^8:=Nat.pow_le_pow_right (by omega) V.n8
 have h3:(60:Nat)^8=167961600000000:=by decide
 unfold BD KK; omega
theorem Qio (V:VN D):∀w,D.ok w→BD 1 (D.fB s w):=fun w hw=>by
 have:=V.fB_bound (s:=s) hw
 unfold BD KK; omega
theorem Qoq {f:(Nat → Nat)→Int} (hf:∀w,D.ok w→BD 1 (f w)) {x:Nat}:∀w,D.ok w→BD 1 (at' v x f w):=fun w hw=>by
 unfold at'
 split
 ·exact hf w hw
 ·exact BD.zero
def SM (D:NF) (E:Nat → Int) (f:(Nat → Nat)→Int) (d i:Nat) (w:Nat → Nat) (x:Nat):Int:=Ql x fun y=>if E i=-1∨E i=(y:Int) then TM D E f d (i+1) (Xm w i y) else 0
theorem Qt8 {f:(Nat → Nat)→Int} (hf:∀w,D.ok w→BD 1 (f w)) {d i x:Nat} {w:Nat → Nat} (hi:i+1+d=D.n) (hw:D.ok w) (hx:x≤D.card i):BD (x*PC D d (i+1)) (SM D E f d i w x):=by
 refine BD.sum fun y hy=>?_
 split
 ·exact Qpp hf d (i+1) _ hi (Qmn hw (by omega))
 ·exact BD.zero
def RS (D:NF) (s:SF) (E:Nat → Int) (v m d i:Nat) (w:Nat → Nat) (A B:Nat → Int) (C Dd:Int):Prop :=
 D.ok w∧(∀x,BD m (A x)∧BD m (B x))∧BD m C∧BD m Dd∧m+PC D d i≤1024∧i+d=D.n
theorem Qs9 (V:VN D) (hs:s.N < D.n) (hv:v < D.n) (hE:∀j,j < D.n→-1≤E j∧E j < D.card j):∀(d N:Nat),d < N→∀(i m:Nat) (w:Nat → Nat) (A B:Nat → Int) (C Dd:Int),RS D s E v m d i w A B C Dd →
  ∃w',D.ok w'∧(∀j,j < i→w' j=w j)∧Qk3 (Q9 D.net s.sh (v:Int) (Qc D.n E)) N ((i:Int),Qc (D.card v) (K4 A B),C,Dd,Qm D.n w) =
   some (Qc (D.card v) (K4 (fun x=>A x+TM D E (at' v x (D.fA s)) d i w) (fun x=>B x+TM D E (at' v x (D.fB s)) d i w)),C+TM D E (D.fA s) d i w,Dd+TM D E (D.fB s) d i w,Qm D.n w')
 | d,0,h,_,_,_,_,_,_,_,_=>by omega
 | 0,N+1,_,i,m,w,A,B,C,Dd,⟨hw,hAB,hC,hD,hm,hi⟩=>by
  have hm':m+1≤1024:=hm
  refine ⟨w,hw,fun _ _=>rfl,?_⟩
  show Q9 _ _ _ _ _ _=_
  unfold Q9
  simp only
  rw [if_pos (by rw [Ye]; simp; omega),V.weigh_eq hw hs]
  simp only [Option.bind_some]
  rw [Zr hv]
  simp only [Option.bind_some]
  rw [show lkI (Qc (D.card v) (K4 A B)) (w v:Int)=some (K4 A B (w v)) from Qv (hw v hv)]
  simp only [Option.bind_some,K4,Int.toNat_natCast]
  have f1:=((hAB (w v)).1.add (Qiv V hs w hw)).fit hm'
  have f2:=((hAB (w v)).2.add (Qio V (s:=s) w hw)).fit hm'
  have f3:=(hC.add (Qiv V hs w hw)).fit hm'
  have f4:=(hD.add (Qio V (s:=s) w hw)).fit hm'
  rw [w64 f1,w64 f2,w64 f3,w64 f4]
  simp only [TM]
  rw [Yf,Yf]
  congr 2
  refine Qu fun x hx=>?_
  simp only [K4,at']
  by_cases e:x=w v
  ·subst e; simp
  ·rw [if_neg e,if_neg e,if_neg (Ne.symm e),if_neg (Ne.symm e)]; simp
 | d+1,N+1,hN,i,m,w,A,B,C,Dd,⟨hw,hAB,hC,hD,hm,hi⟩=>by
  have hin:i < D.n:=by omega
  have hc:=V.card i hin
  have hPC:PC D (d+1) i=D.card i*PC D d (i+1):=rfl
  have hEi:=hE i hin
  have hloop:=Z2 (body:=Jk (D.node i) (Qc D.n E) ((i:Int),Qc (D.card v) (K4 A B),C,Dd,Qm D.n w) (Qk3 (Q9 D.net s.sh (v:Int) (Qc D.n E)) N))
   (fun st=>∃(x:Nat) (w':Nat → Nat),x≤D.card i∧D.ok w'∧(∀j,j < i→w' j=w j)∧st=((x:Int),Qc (D.card v) (K4 (fun y=>A y+SM D E (at' v y (D.fA s)) d i w x) (fun y=>B y+SM D E (at' v y (D.fB s)) d i w x)),C+SM D E (D.fA s) d i w x,Dd+SM D E (D.fB s) d i w x,Qm D.n w'))
   (fun st=>D.card i - st.1.toNat)
   (fun r=>∃(w':Nat → Nat),D.ok w'∧(∀j,j < i→w' j=w j)∧r=(Qc (D.card v) (K4 (fun y=>A y+TM D E (at' v y (D.fA s)) (d+1) i w) (fun y=>B y+TM D E (at' v y (D.fB s)) (d+1) i w)),C+TM D E (D.fA s) (d+1) i w,Dd+TM D E (D.fB s) (d+1) i w,Qm D.n w'))
   (fun st hst=>?_) ((0:Int),Qc (D.card v) (K4 A B),C,Dd,Qm D.n w) ⟨0,w,by omega,hw,fun _ _=>rfl,by simp [SM,Ql]⟩ (by simp; omega)
  ·obtain ⟨r,h1,w',h2,h3,rfl⟩:=hloop
   refine ⟨w',h2,h3,?_⟩
   show Q9 _ _ _ _ (Qk3 (Q9 D.net s.sh (v:Int) (Qc D.n E)) N) _=_
   rw [Q9]
   simp only
   rw [if_neg (by rw [Ye]; simp; omega),V.node hin]
   simp only [Option.bind_some]
   rw [h1]
   rfl
  ·obtain ⟨x,w',hx,hw',hag,rfl⟩:=hst
   have ew:zw ((x:Int)+1)=((x+1:Nat):Int):=by rw [w64 (by omega)]; omega
   have ei:zw ((i:Int)+1)=((i+1:Nat):Int):=by have:=V.n8; rw [w64 (by omega)]; omega
   unfold Jk
   simp only
   by_cases hlt:x < D.card i
   ·left
    rw [if_pos (by simp [NF.node]; omega),show lkI (Qc D.n E) (i:Int)=some (E i) from Qv hin]
    simp only [Option.bind_some]
    have hsm:∀f,SM D E f d i w (x+1)=SM D E f d i w x+(if E i=-1∨E i=(x:Int) then TM D E f d (i+1) (Xm w i x) else 0):=fun f=>rfl
    by_cases hok:E i=-1∨E i=(x:Int)
    ·
     have hxm:m+x*PC D d (i+1)+PC D d (i+1)≤1024:=by
      have:(x+1)*PC D d (i+1)≤D.card i*PC D d (i+1):=Nat.mul_le_mul_right _ hlt
      rw [Nat.succ_mul] at this
      omega
     have okw:D.ok (Xm w' i x):=Qmn hw' hlt
     obtain ⟨w2,k1,k2,k3⟩:=Qs9 V hs hv hE d N (by omega) (i+1) (m+x*PC D d (i+1)) (Xm w' i x)
      (fun y=>A y+SM D E (at' v y (D.fA s)) d i w x) (fun y=>B y+SM D E (at' v y (D.fB s)) d i w x) (C+SM D E (D.fA s) d i w x) (Dd+SM D E (D.fB s) d i w x)
      ⟨okw,fun y=>⟨(hAB y).1.add (Qt8 (Qoq (Qiv V hs)) (by omega) hw (by omega)),(hAB y).2.add (Qt8 (Qoq (Qio V)) (by omega) hw (by omega))⟩,hC.add (Qt8 (Qiv V hs) (by omega) hw (by omega)),hD.add (Qt8 (Qio V) (by omega) hw (by omega)),hxm,by omega⟩
     have hcg:∀f,Ext D f→TM D E f d (i+1) (Xm w' i x)=TM D E f d (i+1) (Xm w i x):=fun f hf=>Qwy hf d (i+1) _ _ (by omega) fun j hj=>by
      by_cases e:j=i
      ·subst e; rw [Yi,Yi]
      ·rw [Kg e,Kg e]; exact hag j (by omega)
     have hset:(Qm D.n w').set i (x:Int)=Qm D.n (Xm w' i x):=by
      unfold Qm; rw [Yf]
      refine Qu fun j _=>?_
      unfold Xm
      split <;> rfl
     have fin:((if (E i==-1)=true then (lkI (Qm D.n w') (i:Int)).bind fun _=>(Qk3 (Q9 D.net s.sh (v:Int) (Qc D.n E)) N (zw ((i:Int)+1),Qc (D.card v) (K4 (fun y=>A y+SM D E (at' v y (D.fA s)) d i w x) (fun y=>B y+SM D E (at' v y (D.fB s)) d i w x)),C+SM D E (D.fA s) d i w x,Dd+SM D E (D.fB s) d i w x,List.set (Qm D.n w') (Int.toNat (i:Int)) (x:Int))).bind fun x27=>some (Qk.next (zw ((x:Int)+1),x27.1,x27.2.1,x27.2.2.1,x27.2.2.2))
       else if (E i==(x:Int))=true then (lkI (Qm D.n w') (i:Int)).bind fun _=>(Qk3 (Q9 D.net s.sh (v:Int) (Qc D.n E)) N (zw ((i:Int)+1),Qc (D.card v) (K4 (fun y=>A y+SM D E (at' v y (D.fA s)) d i w x) (fun y=>B y+SM D E (at' v y (D.fB s)) d i w x)),C+SM D E (D.fA s) d i w x,Dd+SM D E (D.fB s) d i w x,List.set (Qm D.n w') (Int.toNat (i:Int)) (x:Int))).bind fun x27=>some (Qk.next (zw ((x:Int)+1),x27.1,x27.2.1,x27.2.2.1,x27.2.2.2))
       else some (Qk.next (zw ((x:Int)+1),Qc (D.card v) (K4 (fun y=>A y+SM D E (at' v y (D.fA s)) d i w x) (fun y=>B y+SM D E (at' v y (D.fB s)) d i w x)),C+SM D E (D.fA s) d i w x,Dd+SM D E (D.fB s) d i w x,Qm D.n w'))):Option (Qk (Int × (List (Int × Int × Int × Int)) × Int × Int × (List Int)) ((List (Int × Int × Int × Int)) × Int × Int × (List Int)))) =
       some (Qk.next (((x+1:Nat):Int),Qc (D.card v) (K4 (fun y=>A y+SM D E (at' v y (D.fA s)) d i w (x+1)) (fun y=>B y+SM D E (at' v y (D.fB s)) d i w (x+1))),C+SM D E (D.fA s) d i w (x+1),Dd+SM D E (D.fB s) d i w (x+1),Qm D.n w2)):=by
      rw [ew,ei,Int.toNat_natCast,hset,Zr hin]
      simp only [Option.bind_some]
      rw [k3]
      simp only [Option.bind_some]
      rw [hcg _ (Qqp V hs),hcg _ (Qra V hs)]
      have e2:∀y,TM D E (at' v y (D.fA s)) d (i+1) (Xm w' i x)=TM D E (at' v y (D.fA s)) d (i+1) (Xm w i x):=fun y=>hcg _ (Qqt hv (Qqp V hs))
      have e3:∀y,TM D E (at' v y (D.fB s)) d (i+1) (Xm w' i x)=TM D E (at' v y (D.fB s)) d (i+1) (Xm w i x):=fun y=>hcg _ (Qqt hv (Qra V hs))
      simp only [hsm,if_pos hok,e2,e3,←Int.add_assoc]
      rcases hok with h | h
      ·rw [if_pos (by simp [h])]
      ·by_cases h':E i=-1
       ·rw [if_pos (by simp [h'])]
       ·rw [if_neg (by simp [h']),if_pos (by simp [h])]
     refine ⟨_,fin,⟨x+1,w2,by omega,k1,fun j hj=>by rw [k2 j (by omega),Kg (by omega),hag j hj],rfl⟩,by simp; omega⟩
    ·rw [if_neg (by simp; exact fun h=>hok (.inl h)),if_neg (by simp; exact fun h=>hok (.inr h)),ew]
     refine ⟨_,rfl,⟨x+1,w',by omega,hw',hag,?_⟩,by simp; omega⟩
     simp only [hsm,if_neg hok,Int.add_zero]
   ·right
    have:x=D.card i:=by omega
    subst this
    rw [if_neg (by simp [NF.node])]
    exact ⟨_,rfl,w',hw',hag,rfl⟩
end
end Go.Ab
namespace Go.Ab
open Go
def SW (D:NF) (E:Nat → Int) (f:(Nat → Nat)→Int):Int:=TM D E f D.n 0 (fun _=>0)
def Qmc (D:NF) (E:Nat → Int):Prop:=∀j,j < D.n→-1≤E j∧E j < D.card j
def Zf (D:NF) (s:SF) (E:Nat → Int) (v:Nat) (x:Nat):Int × Int × Int × Int:=(SW D E (at' v x (D.fA s)),SW D E (at' v x (D.fB s)),SW D E (D.fA s),SW D E (D.fB s))
section
variable {D:NF} {s:SF} {E:Nat → Int} {v:Nat}
theorem Q00 (V:VN D):PC D D.n 0≤1024:=by
 have:=Qoc (D:=D) D.n 0
 simp only [prodTo,Nat.one_mul,Nat.zero_add] at this
 rw [this]; exact V.worlds
theorem Q3q (V:VN D) (hs:s.N < D.n) (hv:v < D.n) (hE:Qmc D E):Vh D.net (Qc D.n E) (v:Int) s.sh=some (Qc (D.card v) (Zf D s E v)):=by
 have hn8:=V.n8
 have hcv:=V.card v hv
 have hlen:D.net.Nodes.length=D.n:=Qr
 obtain ⟨w',h1,h2,h3⟩:=Qs9 V hs hv hE D.n fuel (by show D.n < 1152921504606846976; omega) 0 0 (fun _=>0) (fun _=>0) (fun _=>0) 0 0
  ⟨fun u hu=>(V.card u hu).1,fun _=>⟨BD.zero,BD.zero⟩,BD.zero,BD.zero,by have:=Q00 V; omega,by omega⟩
 unfold Vh
 rw [V.node hv]
 simp only [Option.bind_some]
 have hcard:(D.node v).Card=(D.card v:Int):=rfl
 rw [if_pos (by rw [hcard]; omega),if_pos (by rw [hlen]; omega)]
 rw [hcard,hlen,Int.toNat_natCast,Int.toNat_natCast,Qdu,Qdu]
 have e0:(Qc (D.card v) fun _=>((0:Int),(0:Int),(0:Int),(0:Int)))=Qc (D.card v) (K4 (fun _=>0) (fun _=>0)):=rfl
 have e1:(Qc D.n fun _=>(0:Int))=Qm D.n (fun _=>0):=rfl
 rw [e0,e1,show ((0:Int),Qc (D.card v) (K4 (fun _=>0) (fun _=>0)),(0:Int),(0:Int),Qm D.n (fun _=>0))=(((0:Nat):Int),Qc (D.card v) (K4 (fun _=>0) (fun _=>0)),(0:Int),(0:Int),Qm D.n (fun _=>0)) from rfl,h3]
 simp only [Option.bind_some,Int.zero_add]
 have hrun:Qd fuel (Y5 (Qc (D.card v) (K4 (fun x=>TM D E (at' v x (D.fA s)) D.n 0 fun _=>0) (fun x=>TM D E (at' v x (D.fB s)) D.n 0 fun _=>0)),TM D E (D.fA s) D.n 0 (fun _=>0),TM D E (D.fB s) D.n 0 (fun _=>0),Qm D.n w'))
   (0,Qc (D.card v) (K4 (fun x=>TM D E (at' v x (D.fA s)) D.n 0 fun _=>0) (fun x=>TM D E (at' v x (D.fB s)) D.n 0 fun _=>0)))=some (Qc (D.card v) (Zf D s E v)):=by
  refine Ze (fun k=>((k:Int),Qc (D.card v) fun x=>if x < k then Zf D s E v x else K4 (fun x=>TM D E (at' v x (D.fA s)) D.n 0 fun _=>0) (fun x=>TM D E (at' v x (D.fB s)) D.n 0 fun _=>0) x)) (D.card v) _ (by simp) (fun k hk=>?_) ?_ (by omega)
  ·unfold Y5
   simp only
   rw [if_pos (by rw [Qr]; simpa using hk),Qv hk]
   simp only [Option.bind_some,Nat.lt_irrefl,if_false,K4,Int.toNat_natCast]
   rw [Yf,Yf,w64 (by omega)]
   congr 3
   refine Qu fun x hx=>?_
   by_cases e:x=k
   ·subst e; simp [Zf,SW]
   ·rw [if_neg e,if_neg e]
    by_cases e2:x < k
    ·rw [if_pos e2,if_pos (by omega)]
    ·rw [if_neg e2,if_neg (by omega)]
  ·unfold Y5
   simp only
   rw [if_neg (by rw [Qr]; simp)]
   congr 2
   refine Qu fun x hx=>?_
   rw [if_pos hx]
 rw [hrun]
 rfl
theorem Q6d (V:VN D) (hs:s.N < D.n) (hv:v < D.n) (hE:Qmc D E) {x:Nat} (hx:x < D.card v) (hc:Zk D.net (Qc D.n E) (v:Int) s.sh [(x:Int)]=some 0) :
  Q1 D.net (Qc D.n E) (v:Int) (x:Int) s.sh=some (Zf D s E v x,0):=by
 unfold Q1
 rw [hc]
 simp only [Option.bind_some]
 rw [if_neg (by simp),Q3q V hs hv hE]
 simp only [Option.bind_some]
 rw [Qv hx]
 rfl
theorem Qv5 {f g:(Nat → Nat)→Int}:∀(d i:Nat) (w:Nat → Nat),TM D E (fun w=>f w+g w) d i w=TM D E f d i w+TM D E g d i w
 | 0,_,_=>rfl
 | d+1,i,w=>by
  unfold TM
  rw [←Qv8]
  refine Y9 fun x _=>?_
  split
  ·exact Qv5 d (i+1) _
  ·rfl
theorem Qui {f:(Nat → Nat)→Int} {c:Int}:∀(d i:Nat) (w:Nat → Nat),TM D E (fun w=>f w*c) d i w=TM D E f d i w*c
 | 0,_,_=>rfl
 | d+1,i,w=>by
  unfold TM
  rw [←Q28]
  refine Y9 fun x _=>?_
  split
  ·exact Qui d (i+1) _
  ·exact (Int.zero_mul c).symm
theorem Qz5 {f g:(Nat → Nat)→Int} (h:∀w,D.ok w→f w≤g w):∀(d i:Nat) (w:Nat → Nat),i+d=D.n→D.ok w→TM D E f d i w≤TM D E g d i w
 | 0,_,w,_,hw=>h w hw
 | d+1,i,w,hi,hw=>by
  unfold TM
  refine Q5h fun x hx=>?_
  split
  ·exact Qz5 h d (i+1) _ (by omega) (Qmn hw hx)
  ·exact Int.le_refl 0
theorem Qx0:∀(d i:Nat) (w:Nat → Nat),TM D E (fun _=>0) d i w=0
 | 0,_,_=>rfl
 | d+1,i,w=>by
  unfold TM
  rw [Y9 (g:=fun _=>0) (fun x _=>by simp [Qx0 d]),Qfv]
theorem ok0 (V:VN D):D.ok (fun _=>0):=fun u hu=>(V.card u hu).1
theorem Qqk (V:VN D) (hs:s.N < D.n) (hR:s.R < D.rows s.N) (hF:s.F < D.card s.N) (hT:s.T < D.card s.N) (hFT:s.F≠s.T) {t:Int}
  (ht:-(D.W s.N s.R s.T:Int)≤t∧t≤D.W s.N s.R s.F) (x:Nat):0≤(Zf D s E v x).1+(Zf D s E v x).2.1*t∧(Zf D s E v x).1+(Zf D s E v x).2.1*t≤(Zf D s E v x).2.2.1+(Zf D s E v x).2.2.2*t:=by
 have hpos:∀w,D.ok w→0≤D.fA s w+D.fB s w*t:=fun w hw=>by
  have e:D.fA s w+D.fB s w*t=(D.rest s w D.n:Int)*(D.own s w+D.change s w*t):=by
   unfold NF.fA NF.fB; rw [Int.mul_add,Int.mul_assoc]
  rw [e]
  refine Int.mul_nonneg (Int.natCast_nonneg _) ?_
  unfold NF.own NF.change
  by_cases hh:D.hit s w=true
  ·have hi:D.idx s.N w=s.R:=by simpa [NF.hit] using hh
   rw [if_pos hh,if_pos hh]
   have hw1:D.wt w s.N=D.W s.N s.R (w s.N):=by unfold NF.wt; rw [hi]
   by_cases h1:w s.N=s.F
   ·rw [if_pos h1,hw1,h1]; omega
   ·rw [if_neg h1]
    by_cases h2:w s.N=s.T
    ·rw [if_pos h2,hw1,h2]; omega
    ·rw [if_neg h2]; omega
  ·rw [if_neg hh,if_neg hh]; omega
 unfold Zf SW
 simp only
 rw [←Qui,←Qui,←Qv5,←Qv5]
 constructor
 ·rw [←Qx0 (D:=D) (E:=E) D.n 0 (fun _=>0)]
  refine Qz5 (fun w hw=>?_) _ _ _ (by omega) (ok0 V)
  unfold at'
  split
  ·exact hpos w hw
  ·simp
 ·refine Qz5 (fun w hw=>?_) _ _ _ (by omega) (ok0 V)
  unfold at'
  split
  ·exact Int.le_refl _
  ·have:=hpos w hw; simpa using this
end
end Go.Ab
namespace Go.Ab
open Go
section
variable {D:NF} {E:Nat → Int}
theorem Qnz (V:VN D):Qcq D.net=some (prodTo D.n D.card:Int):=by
 unfold Qcq
 rw [Qph V]
 simp only [Option.bind_some]
 rw [Q56 (fun k hk=>(V.card k hk).2) V.n8]
 rfl
def PS (D:NF) (k:Nat):Nat := PC D (D.n - k) k
theorem Qse {k:Nat} (h:k < D.n):PS D k=D.card k*PS D (k+1):=by
 unfold PS
 rw [show D.n - k=(D.n - (k+1))+1 by omega]; rfl
theorem Q68:PS D D.n=1:=by unfold PS; rw [Nat.sub_self]; rfl
theorem Q2c (V:VN D) {k:Nat} (h:k≤D.n):1≤PS D k:=Q1d V _ _ (by omega)
def dig (D:NF) (W k:Nat):Nat := W / PS D (k+1) % D.card k
theorem Qvr (V:VN D) (W:Nat):D.ok (dig D W):=fun v hv=>Nat.mod_lt _ (V.card v hv).1
theorem Qni (V:VN D) {W:Nat} (hW:W < 1125899906842624):Qaj D.net (W:Int)=some (Qm D.n (dig D W)):=by
 have hn:=V.n8
 have hlen:(Qm D.n D.card).length=D.n:=Ye
 unfold Qaj
 rw [Qph V]
 simp only [Option.bind_some]
 unfold Qfo
 rw [hlen,if_pos (by omega),Int.toNat_natCast,Qdu]
 refine Yv (Yv (Ze (s0:=((W:Int),zw ((D.n:Int) - 1),Qc D.n fun _=>(0:Int))) (r:=Qm D.n (dig D W)) (fun m=>(((W / PS D (D.n - m):Nat):Int),((D.n - m:Nat):Int) - 1,Qc D.n fun j=>if D.n - m≤j then (dig D W j:Int) else 0)) D.n ?_ (fun m hm=>?_) ?_ (by omega)) rfl) rfl
 ·have e1:(Qc D.n fun j=>if D.n - 0≤j then (dig D W j:Int) else 0)=Qc D.n fun _=>(0:Int):=Qu fun j hj=>if_neg (by omega)
  rw [w64 (by omega),e1]
  simp only [Nat.sub_zero,Q68,Nat.div_one]
 ·obtain ⟨k,hk⟩:∃k,D.n - m=k+1:=⟨D.n - m - 1,by omega⟩
  have hkn:k < D.n:=by omega
  have hc:=V.card k hkn
  have hk2:D.n - (m+1)=k:=by omega
  simp only [hk,hk2]
  have hkk:((k+1:Nat):Int) - 1=(k:Int):=by omega
  rw [hkk]
  unfold Qcu
  simp only
  rw [if_pos (by simp),Zr hkn]
  simp only [Option.bind_some]
  rw [if_pos (by omega),Qv hkn]
  simp only [Option.bind_some]
  rw [if_pos (by omega),J0 (Int.natCast_nonneg _),Xr (Int.natCast_nonneg _),Int.toNat_natCast,Yf]
  have h1:W / PS D (k+1) / D.card k=W / PS D k:=by rw [Nat.div_div_eq_div_mul,Qse hkn,Nat.mul_comm]
  have h2:((W / PS D (k+1):Nat):Int) / (D.card k:Int)=((W / PS D k:Nat):Int):=by rw [←h1]; simp
  have h3:((W / PS D (k+1):Nat):Int) % (D.card k:Int)=(dig D W k:Int):=by unfold dig; simp
  have h4:W / PS D k≤W:=Nat.div_le_self _ _
  rw [h2,h3]
  obtain ⟨q,hq⟩:∃q,W / PS D k=q:=⟨_,rfl⟩
  rw [hq] at h4 ⊢
  rw [w64 (by omega),w64 (by omega)]
  congr 4
  refine Qu fun j hj=>?_
  by_cases e:j=k
  ·subst e; simp
  ·rw [if_neg e]
   by_cases e2:k+1≤j
   ·rw [if_pos e2,if_pos (by omega)]
   ·rw [if_neg e2,if_neg (by omega)]
 ·unfold Qcu
  simp only [Nat.sub_self]
  rw [if_neg (by simp)]
  exact congrArg (fun z=>some (Qk.done z)) (Qu fun j hj=>if_pos (by omega))
def okE (E:Nat → Int) (j x:Nat):Prop:=E j=-1∨E j=(x:Int)
instance instokE (E:Nat → Int) (j x:Nat):Decidable (okE E j x):=by unfold okE; infer_instance
def Yz (n:Nat) (E:Nat → Int) (i:Nat) (w:Nat → Nat):Prop:=∀j,i≤j→j < n→okE E j (w j)
theorem Quy {n:Nat} {w:Nat → Nat} (hn:n≤8) (hE:∀j,j < n→-1≤E j) (h:Yz n E 0 w):Jb (Qm n w) (Qc n E)=some true:=by
 unfold Jb
 refine Yv (Ze (s0:=(0:Int)) (r:=Sum.inr ()) (fun k=>(k:Int)) n rfl (fun k hk=>?_) ?_ (by omega)) rfl
 ·unfold V7
  rw [if_pos (by rw [Ye]; simpa using hk),Qv hk]
  simp only [Option.bind_some]
  have e:zw ((k:Int)+1)=((k+1:Nat):Int):=by rw [w64 (by omega)]; omega
  rcases h k (by omega) hk with h1 | h1
  ·rw [if_neg (by rw [h1]; simp),e]
  ·by_cases h0:E k≥0
   ·rw [if_pos (by simpa using h0),Zr hk]
    simp only [Option.bind_some]
    rw [if_neg (by rw [h1]; simp),e]
   ·omega
 ·unfold V7
  rw [if_neg (by rw [Ye]; simp)]
theorem Qts {n:Nat} {w:Nat → Nat} (hn:n≤8) (hE:∀j,j < n→-1≤E j) (h:¬ Yz n E 0 w):Jb (Qm n w) (Qc n E)=some false:=by
 unfold Jb
 have hw:=Z2 (body:=V7 (Qm n w) (Qc n E)) (fun s=>∃k:Nat,k≤n∧s=(k:Int)∧∀j,j < k→okE E j (w j)) (fun s=>n - s.toNat) (fun r=>r=Sum.inl ()) (fun s hs=>?_) (0:Int) ⟨0,by omega,rfl,fun j hj=>by omega⟩ (by simp; omega)
 ·obtain ⟨r,h1,h2⟩:=hw
  rw [h1,h2]; rfl
 ·obtain ⟨k,hk,rfl,hpre⟩:=hs
  have hlt:k < n:=by
   rcases Nat.lt_or_ge k n with h' | h'
   ·exact h'
   ·exact absurd (fun j _ hj=>hpre j (by omega)) h
  have e:zw ((k:Int)+1)=((k+1:Nat):Int):=by rw [w64 (by omega)]; omega
  have hb:=hE k hlt
  unfold V7
  rw [if_pos (by rw [Ye]; simpa using hlt),Qv hlt]
  simp only [Option.bind_some]
  by_cases h0:E k≥0
  ·rw [if_pos (by simpa using h0),Zr hlt]
   simp only [Option.bind_some]
   by_cases h1:E k=(w k:Int)
   ·left
    rw [if_neg (by rw [h1]; simp),e]
    exact ⟨_,rfl,⟨k+1,by omega,rfl,fun j hj=>by
     rcases Nat.lt_succ_iff_lt_or_eq.1 hj with h2 | h2
     ·exact hpre j h2
     ·subst h2; exact .inr h1⟩,by simp; omega⟩
   ·right
    rw [if_pos (by simpa using h1)]
    exact ⟨_,rfl,rfl⟩
  ·left
   rw [if_neg (by simpa using h0),e]
   exact ⟨_,rfl,⟨k+1,by omega,rfl,fun j hj=>by
    rcases Nat.lt_succ_iff_lt_or_eq.1 hj with h2 | h2
    ·exact hpre j h2
    ·subst h2; exact .inl (by omega)⟩,by simp; omega⟩
def ix (c w:Nat → Nat):List Nat → Nat
 | []=>0
 | p::l=>w p*lprodR c l+ix c w l
where lprodR (c:Nat → Nat):List Nat → Nat
 | []=>1
 | p::l=>c p*lprodR c l
theorem Qvb (c w:Nat → Nat):∀(l:List Nat) (r:Nat),l.foldl (fun r p=>r*c p+w p) r=r*ix.lprodR c l+ix c w l
 | [],r=>by simp [ix,ix.lprodR]
 | p::l,r=>by
  simp only [List.foldl_cons,Qvb c w l,ix,ix.lprodR]
  rw [Nat.add_mul,Nat.mul_assoc,Nat.add_assoc]
theorem Q14 {c w:Nat → Nat} {l:List Nat}:horner c w l=ix c w l:=by
 unfold horner; rw [Qvb]; simp
theorem Q0u {c:Nat → Nat} {l:List Nat} (h:∀p∈l,c p≤4):ix.lprodR c l≤4^l.length:=by
 induction l with
 | nil=>simp [ix.lprodR]
 | cons p l ih =>
  simp only [ix.lprodR,List.length_cons,Nat.pow_succ]
  rw [Nat.mul_comm]
  exact Nat.mul_le_mul (ih fun q hq=>h q (List.mem_cons_of_mem _ hq)) (h p (by simp))
theorem Q77 {c w:Nat → Nat} {l:List Nat} (h:∀p∈l,c p≤4∧w p < c p):ix c w l < ix.lprodR c l:=by
 induction l with
 | nil=>simp [ix,ix.lprodR]
 | cons p l ih =>
  have h1:=ih fun q hq=>h q (List.mem_cons_of_mem _ hq)
  have h2:=(h p (by simp)).2
  simp only [ix,ix.lprodR]
  have:(w p+1)*ix.lprodR c l≤c p*ix.lprodR c l:=Nat.mul_le_mul_right _ h2
  rw [Nat.succ_mul] at this
  omega
theorem Qwv {c w:Nat → Nat} {l:List Nat} (h:∀p∈l,c p≤4∧w p < c p) (h8:l.length≤8) :
  Qa5 (l.map fun p=>(c p:Int)) (l.map fun p=>(w p:Int))=some (horner c w l:Int):=by
 unfold Qa5
 have hd:∀(k:Nat) (hk:k < l.length),l.drop k=l[k]'hk::l.drop (k+1):=fun k hk=>List.drop_eq_getElem_cons hk
 refine Yv (Ze (s0:=((0:Int),(1:Int),zw (((l.map fun p=>(c p:Int)).length:Int) - 1))) (r:=(horner c w l:Int)) (fun m=>((ix c w (l.drop (l.length - m)):Int),(ix.lprodR c (l.drop (l.length - m)):Int),((l.length - m:Nat):Int) - 1)) l.length ?_ (fun m hm=>?_) ?_ (by omega)) rfl
 ·simp only [Nat.sub_zero,List.drop_length,ix,ix.lprodR,List.length_map]
  rw [w64 (by omega)]
  rfl
 ·obtain ⟨k,hk⟩:∃k,l.length - m=k+1:=⟨l.length - m - 1,by omega⟩
  have hkn:k < l.length:=by omega
  have hk2:l.length - (m+1)=k:=by omega
  simp only [hk,hk2]
  have hkk:((k+1:Nat):Int) - 1=(k:Int):=by omega
  rw [hkk]
  have hmem:=h _ (List.getElem_mem hkn)
  have hsub:∀p∈l.drop (k+1),c p≤4∧w p < c p:=fun p hp=>h p (List.mem_of_mem_drop hp)
  have b1:=Q0u (c:=c) (l:=l.drop (k+1)) (fun p hp=>(hsub p hp).1)
  have b2:(4:Nat)^(l.drop (k+1)).length≤4^8:=Nat.pow_le_pow_right (by omega) (by rw [List.length_drop]; omega)
  have b3:=Q77 hsub
  have b4:w l[k]*ix.lprodR c (l.drop (k+1))≤4*65536:=Nat.mul_le_mul (by omega) (by omega)
  have b5:ix.lprodR c (l.drop (k+1))*c l[k]≤65536*4:=Nat.mul_le_mul (by omega) hmem.1
  unfold Qdj
  simp only
  rw [if_pos (by simp),Qn (by simpa using hkn)]
  simp only [Option.bind_some]
  rw [Qn (by simpa using hkn)]
  simp only [Option.bind_some,List.getElem_map]
  have e1:(w l[k]:Int)*(ix.lprodR c (l.drop (k+1)):Int)=((w l[k]*ix.lprodR c (l.drop (k+1)):Nat):Int):=by simp
  have e2:(ix.lprodR c (l.drop (k+1)):Int)*(c l[k]:Int)=((ix.lprodR c (l.drop (k+1))*c l[k]:Nat):Int):=by simp
  have w1:zw ((w l[k]*ix.lprodR c (l.drop (k+1)):Nat):Int)=((w l[k]*ix.lprodR c (l.drop (k+1)):Nat):Int):=w64 (by omega)
  rw [e1,e2,w1,w64 (by omega),w64 (by omega),w64 (by omega),hd k hkn]
  simp only [ix,ix.lprodR]
  congr 3
  ·rw [Int.natCast_add]; omega
  ·rw [Nat.mul_comm]
 ·unfold Qdj
  simp only [Nat.sub_self,List.drop_zero]
  rw [if_neg (by simp),Q14]
theorem Qs8 (V:VN D) {v:Nat} (hv:v < D.n):Q2 D.net (v:Int)=some ((D.par v).map fun p=>(D.card p:Int)):=by
 unfold Q2
 rw [Qph V]
 simp only [Option.bind_some]
 rw [V.node hv]
 simp only [Option.bind_some]
 rw [show (D.node v).Parents=(D.par v).map fun (p:Nat)=>(p:Int) from rfl,Qrh (V.par v hv) (V.len v hv)]
 rfl
theorem Q1v (V:VN D) {w:Nat → Nat} (hw:D.ok w) {v:Nat} (hv:v < D.n):Qbc D.net (v:Int) (Qm D.n w)=some (Qc (D.card v) fun x=>(D.W v (D.idx v w) x:Int)):=by
 unfold Qbc
 rw [V.node hv]
 simp only [Option.bind_some]
 rw [Qs8 V hv]
 simp only [Option.bind_some]
 rw [show (D.node v).Parents=(D.par v).map fun (p:Nat)=>(p:Int) from rfl,Qrh (V.par v hv) (V.len v hv)]
 simp only [Option.bind_some]
 rw [Qwv (fun p hp=>⟨(V.card p (V.par v hv p hp)).2,hw p (V.par v hv p hp)⟩) (V.len v hv)]
 simp only [Option.bind_some]
 rw [show lkI (D.node v).Rows (horner D.card w (D.par v):Int)=some (Qc (D.card v) fun x=>(D.W v (D.idx v w) x:Int)) from Qv (V.idx_lt hw hv)]
 rfl
theorem Q2p (V:VN D) {W:Nat} (hW:W < 1125899906842624):Qcl D.net (W:Int)=some (prodTo D.n (D.wt (dig D W)):Int):=by
 have hlen:D.net.Nodes.length=D.n:=Qr
 have hn:=V.n8
 have hw:=Qvr V W
 unfold Qcl
 rw [Qni V hW]
 simp only [Option.bind_some]
 refine Yv (Ze (s0:=((1:Int),(0:Int))) (r:=(prodTo D.n (D.wt (dig D W)):Int)) (fun k=>((prodTo k (D.wt (dig D W)):Int),(k:Int))) D.n rfl (fun k hk=>?_) ?_ (by omega)) rfl
 ·have h1:prodTo k (D.wt (dig D W))≤60^k:=Vk fun j hj=>V.wt_le hw (by omega)
  have h2:(60:Nat)^k≤60^8:=Nat.pow_le_pow_right (by omega) (by omega)
  have h3:prodTo k (D.wt (dig D W))*D.wt (dig D W) k≤167961600000000*60:=Nat.mul_le_mul (Nat.le_trans h1 (Nat.le_trans h2 (by decide))) (V.wt_le hw hk)
  unfold Qc1
  simp only
  rw [if_pos (by rw [hlen]; simpa using hk),Q1v V hw hk]
  simp only [Option.bind_some]
  rw [Zr hk]
  simp only [Option.bind_some]
  rw [Qv (hw k hk)]
  simp only [Option.bind_some]
  have e:(prodTo k (D.wt (dig D W)):Int)*(D.W k (D.idx k (dig D W)) (dig D W k):Int)=((prodTo (k+1) (D.wt (dig D W)):Nat):Int):=by simp [prodTo,NF.wt]
  rw [e,w64 (by simp only [prodTo]; omega),w64 (by omega)]
  rfl
 ·unfold Qc1
  simp only
  rw [if_neg (by rw [hlen]; simp)]
def mix (D:NF) (i:Nat) (w:Nat → Nat) (W:Nat):Nat → Nat := fun j=>if j < i then w j else dig D W j
theorem Q7i (V:VN D) {i j:Nat} (hij:i≤j) (hj:j < D.n):∃M,PS D i=M*(D.card j*PS D (j+1)):=by
 obtain ⟨k,rfl⟩:=Nat.exists_eq_add_of_le hij
 induction k generalizing i with
 | zero=>exact ⟨1,by rw [Nat.add_zero,Nat.one_mul,Qse (by omega)]⟩
 | succ k ih =>
  obtain ⟨M,hM⟩:=ih (i:=i+1) (by omega) (by omega)
  refine ⟨D.card i*M,?_⟩
  rw [Qse (by omega),hM]
  rw [show i+1+k=i+(k+1) by omega,Nat.mul_assoc]
open Classical in
theorem Qqe (V:VN D) {f:(Nat → Nat)→Int} (hf:Ext D f):∀(d i:Nat) (w:Nat → Nat),i+d=D.n →
  Ql (PC D d i) (fun W=>if Yz D.n E i (mix D i w W) then f (mix D i w W) else 0)=TM D E f d i w
 | 0,i,w,h=>by
  simp only [PC,Ql,TM,Int.zero_add]
  rw [if_pos (show Yz D.n E i (mix D i w 0) from fun j h1 h2=>by omega)]
  exact hf _ _ fun j hj=>by unfold mix; rw [if_pos (by omega)]
 | d+1,i,w,h=>by
  have hi:i < D.n:=by omega
  simp only [PC,TM]
  rw [Qzl]
  refine Y9 fun x hx=>?_
  have hP:PC D d (i+1)=PS D (i+1):=by unfold PS; rw [show D.n - (i+1)=d by omega]
  have hpos:=Q2c V (k:=i+1) (by omega)
  have hag:∀y,y < PC D d (i+1)→∀j,j < D.n→mix D i w (x*PC D d (i+1)+y) j=mix D (i+1) (Xm w i x) y j:=fun y hy j hj=>by
   unfold mix
   by_cases h1:j < i
   ·rw [if_pos h1,if_pos (by omega),Kg (by omega)]
   ·rw [if_neg h1]
    by_cases h2:j=i
    ·subst h2
     rw [if_pos (by omega),Yi]
     unfold dig
     rw [hP] at hy ⊢
     rw [Nat.mul_comm,Nat.mul_add_div (by omega),Nat.div_eq_of_lt hy,Nat.add_zero,Nat.mod_eq_of_lt hx]
    ·rw [if_neg (by omega)]
     unfold dig
     rw [hP]
     obtain ⟨M,hM⟩:=Q7i V (i:=i+1) (j:=j) (by omega) hj
     have hpj:=Q2c V (k:=j+1) (by omega)
     rw [hM,show x*(M*(D.card j*PS D (j+1)))+y=PS D (j+1)*(D.card j*(x*M))+y by
      rw [Nat.mul_comm (D.card j),←Nat.mul_assoc,←Nat.mul_assoc,Nat.mul_comm (PS D (j+1)),Nat.mul_comm (D.card j),Nat.mul_right_comm (x*M)]]
     rw [Nat.mul_add_div (by omega),Nat.mul_add_mod]
  rw [Y9 (g:=fun y=>if okE E i x then (if Yz D.n E (i+1) (mix D (i+1) (Xm w i x) y) then f (mix D (i+1) (Xm w i x) y) else 0) else 0) (fun y hy=>?_)]
  ·by_cases hok:okE E i x
   ·rw [Y9 (g:=fun y=>if Yz D.n E (i+1) (mix D (i+1) (Xm w i x) y) then f (mix D (i+1) (Xm w i x) y) else 0) (fun y _=>if_pos hok),Qqe V hf d (i+1) _ (by omega),if_pos (show E i=-1∨E i=(x:Int) from hok)]
   ·rw [Y9 (g:=fun _=>0) (fun y _=>if_neg hok),Qfv,if_neg (show ¬ (E i=-1∨E i=(x:Int)) from hok)]
  ·have e:=hag y hy
   have hiff:Yz D.n E i (mix D i w (x*PC D d (i+1)+y))↔okE E i x∧Yz D.n E (i+1) (mix D (i+1) (Xm w i x) y):=by
    constructor
    ·intro hm
     refine ⟨?_,fun j h1 h2=>?_⟩
     ·have:=hm i (by omega) hi
      rw [e i hi] at this
      unfold mix at this
      rwa [if_pos (by omega),Yi] at this
     ·have:=hm j (by omega) h2
      rwa [e j h2] at this
    ·rintro ⟨h1,h2⟩ j h3 h4
     rw [e j h4]
     by_cases h5:j=i
     ·subst h5; unfold mix; rwa [if_pos (by omega),Yi]
     ·exact h2 j (by omega) h4
   by_cases hok:okE E i x
   ·rw [if_pos hok]
    by_cases hm:Yz D.n E (i+1) (mix D (i+1) (Xm w i x) y)
    ·rw [if_pos (hiff.2 ⟨hok,hm⟩),if_pos hm,hf _ _ e]
    ·rw [if_neg (fun c=>hm (hiff.1 c).2),if_neg hm]
   ·rw [if_neg (fun c=>hok (hiff.1 c).1),if_neg hok]
end
end Go.Ab
namespace Go.Ab
open Go
section
variable {D:NF}
theorem Q2z (X:VX D) {E:Nat → Int} (hE:Qmc D E) {s:SF} {v x:Nat} (hs:s.N < D.n) (hR:s.R < D.rows s.N) (hF:s.F < D.card s.N) (hT:s.T < D.card s.N) (hFT:s.F≠s.T) (hv:v < D.n) (hx:x < D.card v) :
  Zk D.net (Qc D.n E) (v:Int) s.sh [(x:Int)]=some 0:=by
 have V:=X.vn
 have hn:=V.n8
 have hlen:D.net.Nodes.length=D.n:=Qr
 obtain ⟨order,hr⟩:=Qsl X
 have hce:Z9 D.net (Qc D.n E)=some 0:=by
  unfold Z9
  rw [hr]
  simp only [Option.bind_some]
  rw [if_neg (by simp),if_neg (by rw [Qr,hlen]; simp)]
  refine Yv (Ze (s0:=(0:Int)) (r:=Sum.inr ()) (fun k=>(k:Int)) D.n rfl (fun k hk=>?_) ?_ (by omega)) rfl
  ·have:=hE k hk
   unfold Zl
   rw [if_pos (by rw [Qr]; simpa using hk),Qv hk]
   simp only [Option.bind_some]
   rw [if_neg (by simp; omega),Zr hk]
   simp only [Option.bind_some]
   rw [if_neg (by simp; omega),w64 (by omega)]
   rfl
  ·unfold Zl
   rw [if_neg (by rw [Qr]; simp)]
 unfold Zk Qc6
 rw [hr]
 simp only [Option.bind_some]
 rw [if_neg (by simp),hce]
 simp only [Option.bind_some]
 rw [if_neg (by simp),if_neg (by simp),if_neg (by rw [hlen]; simp; omega)]
 refine Yv (Ze (s0:=(0:Int)) (r:=Sum.inr ()) (fun k=>(k:Int)) 1 rfl (fun k hk=>?_) ?_ (by omega)) ?_
 ·have:k=0:=by omega
  subst this
  unfold Zm
  rw [if_pos (by simp),show lkI [(x:Int)] ((0:Nat):Int)=some (x:Int) from rfl]
  simp only [Option.bind_some]
  rw [if_neg (by simp),V.node hv]
  simp only [Option.bind_some]
  rw [if_neg (by simp [NF.node]; omega)]
  rfl
 ·unfold Zm
  rw [if_neg (by simp)]
 ·simp only
  rw [show s.sh.Node=(s.N:Int) from rfl,show s.sh.Row=(s.R:Int) from rfl,show s.sh.From=(s.F:Int) from rfl,show s.sh.To=(s.T:Int) from rfl]
  rw [if_neg (by simp),if_neg (by rw [hlen]; simp; omega),V.node hs]
  simp only [Option.bind_some]
  rw [if_neg (by simp),if_neg (by simp [NF.node,Qr]; omega),if_neg (by simp),if_neg (by simp [NF.node]; omega),if_neg (by simp),if_neg (by simp [NF.node]; omega),if_neg (by simp; omega)]
end
end Go.Ab
namespace Go.Ab
open Go
theorem Jm {cs:List AV} (h:WT (.int .u8) cs):∃a:Int,cs=[(AV.int .u8) a]∧(Lit.int .u8 a).wf=true:=by
 obtain ⟨n,rfl,w⟩:=h
 exact ⟨n,rfl,w⟩
theorem el5 {x:AV} (h:WT (.int .u8) x.flat ∧ (if false then x=.agg x.flat else x.cell=true)):∃a:Int,x=(AV.int .u8) a∧(Lit.int .u8 a).wf=true:=by
 obtain ⟨a,h1,h2⟩:=Jm h.1
 rw [Qsz h.2] at h1
 exact ⟨a,(List.cons.inj h1).1,h2⟩
theorem Q4x {cs:List AV} (h:WT (.slice true false 1 (.int .u8)) cs):∃a:(List Int),cs=[(eL true (AV.int .u8)) a]∧(a.length≤maxLen∧∀y0∈a,(Lit.int .u8 y0).wf=true):=by
 obtain ⟨xs,rfl,hl,hx⟩:=h
 obtain ⟨l,rfl,hr⟩:=Qpn (enc:=(AV.int .u8)) (R:=fun a=>(Lit.int .u8 a).wf=true) (fun x hm=>el5 (hx x hm))
 exact ⟨l,rfl,by simpa using hl,hr⟩
def Ym (x:Qz):Prop:=((Lit.int .u8 x.Card).wf=true)∧((Lit.int .u8 x.Parents).wf=true)∧((x.W.length≤maxLen∧∀y0∈x.W,(Lit.int .u8 y0).wf=true))
theorem Qiz {cs:List AV} (h:WT (.cat (.int .u8) (.cat (.int .u8) (.cat (.slice true false 1 (.int .u8)) .unit))) cs):∃x:Qz,AV.agg cs=eTharuspexref05_Piece x∧Ym x:=by
 obtain ⟨_,_,rfl,a0,r0⟩:=h
 obtain ⟨v0,e0,w0⟩:=Jm a0
 cases e0
 obtain ⟨_,_,rfl,a1,r1⟩:=r0
 obtain ⟨v1,e1,w1⟩:=Jm a1
 cases e1
 obtain ⟨_,_,rfl,a2,r2⟩:=r1
 obtain ⟨v2,e2,w2⟩:=Q4x a2
 cases e2
 cases r2
 exact ⟨⟨v0,v1,v2⟩,rfl,⟨w0,w1,w2⟩⟩
theorem Q8f {x:AV} (h:WT (.cat (.int .u8) (.cat (.int .u8) (.cat (.slice true false 1 (.int .u8)) .unit))) x.flat ∧ (if true then x=.agg x.flat else x.cell=true)):∃a:Qz,x=eTharuspexref05_Piece a∧Ym a:=by
 obtain ⟨a,h1,h2⟩:=Qiz h.1
 have h3:x=.agg x.flat := h.2
 exact ⟨a,h3.trans h1,h2⟩
theorem Q8k {cs:List AV} (h:WT (.slice false true 3 (.cat (.int .u8) (.cat (.int .u8) (.cat (.slice true false 1 (.int .u8)) .unit)))) cs):∃a:(List Qz),cs=[(eL false eTharuspexref05_Piece) a]∧(a.length≤maxLen∧∀y0∈a,Ym y0):=by
 obtain ⟨xs,rfl,hl,hx⟩:=h
 obtain ⟨l,rfl,hr⟩:=Qpn (enc:=eTharuspexref05_Piece) (R:=fun a=>Ym a) (fun x hm=>Q8f (hx x hm))
 exact ⟨l,rfl,by simpa using hl,hr⟩
def Vv (x:Qg):Prop:=((Lit.int .u8 x.Grain).wf=true)∧((x.Nodes.length≤maxLen∧∀y0∈x.Nodes,Ym y0))∧((x.Order.length≤maxLen∧∀y0∈x.Order,(Lit.int .u8 y0).wf=true))
theorem Qjp {cs:List AV} (h:WT (.cat (.int .u8) (.cat (.slice false true 3 (.cat (.int .u8) (.cat (.int .u8) (.cat (.slice true false 1 (.int .u8)) .unit)))) (.cat (.slice true false 1 (.int .u8)) .unit))) cs):∃x:Qg,AV.agg cs=Qkr x∧Vv x:=by
 obtain ⟨_,_,rfl,a0,r0⟩:=h
 obtain ⟨v0,e0,w0⟩:=Jm a0
 cases e0
 obtain ⟨_,_,rfl,a1,r1⟩:=r0
 obtain ⟨v1,e1,w1⟩:=Q8k a1
 cases e1
 obtain ⟨_,_,rfl,a2,r2⟩:=r1
 obtain ⟨v2,e2,w2⟩:=Q4x a2
 cases e2
 cases r2
 exact ⟨⟨v0,v1,v2⟩,rfl,⟨w0,w1,w2⟩⟩
theorem Qi5 {cs:List AV} (h:WT (.int .i64) cs):∃a:Int,cs=[eI a]∧(Lit.int .i64 a).wf=true:=by
 obtain ⟨n,rfl,w⟩:=h
 exact ⟨n,rfl,w⟩
theorem el3 {x:AV} (h:WT (.int .i64) x.flat ∧ (if false then x=.agg x.flat else x.cell=true)):∃a:Int,x=eI a∧(Lit.int .i64 a).wf=true:=by
 obtain ⟨a,h1,h2⟩:=Qi5 h.1
 rw [Qsz h.2] at h1
 exact ⟨a,(List.cons.inj h1).1,h2⟩
def Qae (x:Zt):Prop:=((Lit.int .u8 x.What).wf=true)∧((Lit.int .u8 x.At).wf=true)∧((Lit.int .u8 x.Row).wf=true)∧((Lit.int .i64 x.N).wf=true)
theorem Qj2 {cs:List AV} (h:WT (.cat (.int .u8) (.cat (.int .u8) (.cat (.int .u8) (.cat (.int .i64) .unit)))) cs):∃x:Zt,AV.agg cs=Qk2 x∧Qae x:=by
 obtain ⟨_,_,rfl,a0,r0⟩:=h
 obtain ⟨v0,e0,w0⟩:=Jm a0
 cases e0
 obtain ⟨_,_,rfl,a1,r1⟩:=r0
 obtain ⟨v1,e1,w1⟩:=Jm a1
 cases e1
 obtain ⟨_,_,rfl,a2,r2⟩:=r1
 obtain ⟨v2,e2,w2⟩:=Jm a2
 cases e2
 obtain ⟨_,_,rfl,a3,r3⟩:=r2
 obtain ⟨v3,e3,w3⟩:=Qi5 a3
 cases e3
 cases r3
 exact ⟨⟨v0,v1,v2,v3⟩,rfl,⟨w0,w1,w2,w3⟩⟩
theorem Q7y {cs:List AV} (h:WT (.cat (.int .u8) (.cat (.int .u8) (.cat (.int .u8) (.cat (.int .u8) (.cat (.int .u8) (.cat (.int .u8) (.cat (.int .u8) (.cat (.int .u8) .unit)))))))) cs):∃x:(Int × Int × Int × Int × Int × Int × Int × Int),AV.agg cs=(fun x:(Int × Int × Int × Int × Int × Int × Int × Int)=>AV.agg [.int .u8 x.1,.int .u8 x.2.1,.int .u8 x.2.2.1,.int .u8 x.2.2.2.1,.int .u8 x.2.2.2.2.1,.int .u8 x.2.2.2.2.2.1,.int .u8 x.2.2.2.2.2.2.1,.int .u8 x.2.2.2.2.2.2.2]) x∧((Lit.int .u8 x.1).wf=true∧(Lit.int .u8 x.2.1).wf=true∧(Lit.int .u8 x.2.2.1).wf=true∧(Lit.int .u8 x.2.2.2.1).wf=true∧(Lit.int .u8 x.2.2.2.2.1).wf=true∧(Lit.int .u8 x.2.2.2.2.2.1).wf=true∧(Lit.int .u8 x.2.2.2.2.2.2.1).wf=true∧(Lit.int .u8 x.2.2.2.2.2.2.2).wf=true):=by
 obtain ⟨_,_,rfl,a0,r0⟩:=h
 obtain ⟨v0,e0,w0⟩:=Jm a0
 cases e0
 obtain ⟨_,_,rfl,a1,r1⟩:=r0
 obtain ⟨v1,e1,w1⟩:=Jm a1
 cases e1
 obtain ⟨_,_,rfl,a2,r2⟩:=r1
 obtain ⟨v2,e2,w2⟩:=Jm a2
 cases e2
 obtain ⟨_,_,rfl,a3,r3⟩:=r2
 obtain ⟨v3,e3,w3⟩:=Jm a3
 cases e3
 obtain ⟨_,_,rfl,a4,r4⟩:=r3
 obtain ⟨v4,e4,w4⟩:=Jm a4
 cases e4
 obtain ⟨_,_,rfl,a5,r5⟩:=r4
 obtain ⟨v5,e5,w5⟩:=Jm a5
 cases e5
 obtain ⟨_,_,rfl,a6,r6⟩:=r5
 obtain ⟨v6,e6,w6⟩:=Jm a6
 cases e6
 obtain ⟨_,_,rfl,a7,r7⟩:=r6
 obtain ⟨v7,e7,w7⟩:=Jm a7
 cases e7
 cases r7
 exact ⟨(v0,v1,v2,v3,v4,v5,v6,v7),rfl,⟨w0,w1,w2,w3,w4,w5,w6,w7⟩⟩
def Kx (x:Tharuspexref05_Known):Prop:=((Lit.int .u8 x.Which).wf=true)∧(((Lit.int .u8 x.V.1).wf=true∧(Lit.int .u8 x.V.2.1).wf=true∧(Lit.int .u8 x.V.2.2.1).wf=true∧(Lit.int .u8 x.V.2.2.2.1).wf=true∧(Lit.int .u8 x.V.2.2.2.2.1).wf=true∧(Lit.int .u8 x.V.2.2.2.2.2.1).wf=true∧(Lit.int .u8 x.V.2.2.2.2.2.2.1).wf=true∧(Lit.int .u8 x.V.2.2.2.2.2.2.2).wf=true))
theorem Qjn {cs:List AV} (h:WT (.cat (.int .u8) (.cat (.cat (.int .u8) (.cat (.int .u8) (.cat (.int .u8) (.cat (.int .u8) (.cat (.int .u8) (.cat (.int .u8) (.cat (.int .u8) (.cat (.int .u8) .unit)))))))) .unit)) cs):∃x:Tharuspexref05_Known,AV.agg cs=Qkm x∧Kx x:=by
 obtain ⟨_,_,rfl,a0,r0⟩:=h
 obtain ⟨v0,e0,w0⟩:=Jm a0
 cases e0
 obtain ⟨_,_,rfl,a1,r1⟩:=r0
 obtain ⟨v1,e1,w1⟩:=Q7y a1
 cases e1
 cases r1
 exact ⟨⟨v0,v1⟩,rfl,⟨w0,w1⟩⟩
def K3 (x:Xk):Prop:=((Lit.int .u8 x.V).wf=true)∧((Lit.int .u8 x.Value).wf=true)∧((Lit.int .u8 x.Node).wf=true)∧((Lit.int .u8 x.Row).wf=true)∧((Lit.int .u8 x.From).wf=true)∧((Lit.int .u8 x.To).wf=true)
theorem Qi9 {cs:List AV} (h:WT (.cat (.int .u8) (.cat (.int .u8) (.cat (.int .u8) (.cat (.int .u8) (.cat (.int .u8) (.cat (.int .u8) .unit)))))) cs):∃x:Xk,AV.agg cs=Qjy x∧K3 x:=by
 obtain ⟨_,_,rfl,a0,r0⟩:=h
 obtain ⟨v0,e0,w0⟩:=Jm a0
 cases e0
 obtain ⟨_,_,rfl,a1,r1⟩:=r0
 obtain ⟨v1,e1,w1⟩:=Jm a1
 cases e1
 obtain ⟨_,_,rfl,a2,r2⟩:=r1
 obtain ⟨v2,e2,w2⟩:=Jm a2
 cases e2
 obtain ⟨_,_,rfl,a3,r3⟩:=r2
 obtain ⟨v3,e3,w3⟩:=Jm a3
 cases e3
 obtain ⟨_,_,rfl,a4,r4⟩:=r3
 obtain ⟨v4,e4,w4⟩:=Jm a4
 cases e4
 obtain ⟨_,_,rfl,a5,r5⟩:=r4
 obtain ⟨v5,e5,w5⟩:=Jm a5
 cases e5
 cases r5
 exact ⟨⟨v0,v1,v2,v3,v4,v5⟩,rfl,⟨w0,w1,w2,w3,w4,w5⟩⟩
theorem Q8h {cs:List AV} (h:WT (.slice true false 1 (.int .i64)) cs):∃a:(List Int),cs=[(eL true eI) a]∧(a.length≤maxLen∧∀y0∈a,(Lit.int .i64 y0).wf=true):=by
 obtain ⟨xs,rfl,hl,hx⟩:=h
 obtain ⟨l,rfl,hr⟩:=Qpn (enc:=eI) (R:=fun a=>(Lit.int .i64 a).wf=true) (fun x hm=>el3 (hx x hm))
 exact ⟨l,rfl,by simpa using hl,hr⟩
def Qna (x:Tapi_Shift):Prop:=((Lit.int .i64 x.Node).wf=true)∧((Lit.int .i64 x.Row).wf=true)∧((Lit.int .i64 x.From).wf=true)∧((Lit.int .i64 x.To).wf=true)
theorem Qu2 {cs:List AV} (h:WT (.cat (.int .i64) (.cat (.int .i64) (.cat (.int .i64) (.cat (.int .i64) .unit)))) cs):∃x:Tapi_Shift,AV.agg cs=Qxi x∧Qna x:=by
 obtain ⟨_,_,rfl,a0,r0⟩:=h
 obtain ⟨v0,e0,w0⟩:=Qi5 a0
 cases e0
 obtain ⟨_,_,rfl,a1,r1⟩:=r0
 obtain ⟨v1,e1,w1⟩:=Qi5 a1
 cases e1
 obtain ⟨_,_,rfl,a2,r2⟩:=r1
 obtain ⟨v2,e2,w2⟩:=Qi5 a2
 cases e2
 obtain ⟨_,_,rfl,a3,r3⟩:=r2
 obtain ⟨v3,e3,w3⟩:=Qi5 a3
 cases e3
 cases r3
 exact ⟨⟨v0,v1,v2,v3⟩,rfl,⟨w0,w1,w2,w3⟩⟩
def Kz (x:Tharuspexlaw24_Story):Prop:=(Vv x.N)∧(Qae x.C)∧(Kx x.K)∧(K3 x.D)∧((x.Raw.length≤maxLen∧∀y0∈x.Raw,(Lit.int .i64 y0).wf=true))∧((Lit.int .i64 x.V).wf=true)∧((Lit.int .i64 x.Value).wf=true)∧(Qna x.S)
theorem rdTharuspexlaw24_Story {cs:List AV} (h:WT (.cat (.cat (.int .u8) (.cat (.slice false true 3 (.cat (.int .u8) (.cat (.int .u8) (.cat (.slice true false 1 (.int .u8)) .unit)))) (.cat (.slice true false 1 (.int .u8)) .unit))) (.cat (.cat (.int .u8) (.cat (.int .u8) (.cat (.int .u8) (.cat (.int .i64) .unit)))) (.cat (.cat (.int .u8) (.cat (.cat (.int .u8) (.cat (.int .u8) (.cat (.int .u8) (.cat (.int .u8) (.cat (.int .u8) (.cat (.int .u8) (.cat (.int .u8) (.cat (.int .u8) .unit)))))))) .unit)) (.cat (.cat (.int .u8) (.cat (.int .u8) (.cat (.int .u8) (.cat (.int .u8) (.cat (.int .u8) (.cat (.int .u8) .unit)))))) (.cat (.slice true false 1 (.int .i64)) (.cat (.int .i64) (.cat (.int .i64) (.cat (.cat (.int .i64) (.cat (.int .i64) (.cat (.int .i64) (.cat (.int .i64) .unit)))) .unit)))))))) cs):∃x:Tharuspexlaw24_Story,AV.agg cs=eTharuspexlaw24_Story x∧Kz x:=by
 obtain ⟨_,_,rfl,a0,r0⟩:=h
 obtain ⟨v0,e0,w0⟩:=Qjp a0
 cases e0
 obtain ⟨_,_,rfl,a1,r1⟩:=r0
 obtain ⟨v1,e1,w1⟩:=Qj2 a1
 cases e1
 obtain ⟨_,_,rfl,a2,r2⟩:=r1
 obtain ⟨v2,e2,w2⟩:=Qjn a2
 cases e2
 obtain ⟨_,_,rfl,a3,r3⟩:=r2
 obtain ⟨v3,e3,w3⟩:=Qi9 a3
 cases e3
 obtain ⟨_,_,rfl,a4,r4⟩:=r3
 obtain ⟨v4,e4,w4⟩:=Q8h a4
 cases e4
 obtain ⟨_,_,rfl,a5,r5⟩:=r4
 obtain ⟨v5,e5,w5⟩:=Qi5 a5
 cases e5
 obtain ⟨_,_,rfl,a6,r6⟩:=r5
 obtain ⟨v6,e6,w6⟩:=Qi5 a6
 cases e6
 obtain ⟨_,_,rfl,a7,r7⟩:=r6
 obtain ⟨v7,e7,w7⟩:=Qu2 a7
 cases e7
 cases r7
 exact ⟨⟨v0,v1,v2,v3,v4,v5,v6,v7⟩,rfl,⟨w0,w1,w2,w3,w4,w5,w6,w7⟩⟩
def Qu7 (x:Tapi_Q):Prop:=((Lit.int .i64 x.N).wf=true)∧((Lit.int .i64 x.D).wf=true)
theorem rdTapi_Q {cs:List AV} (h:WT (.cat (.int .i64) (.cat (.int .i64) .unit)) cs):∃x:Tapi_Q,AV.agg cs=eTapi_Q x∧Qu7 x:=by
 obtain ⟨_,_,rfl,a0,r0⟩:=h
 obtain ⟨v0,e0,w0⟩:=Qi5 a0
 cases e0
 obtain ⟨_,_,rfl,a1,r1⟩:=r0
 obtain ⟨v1,e1,w1⟩:=Qi5 a1
 cases e1
 cases r1
 exact ⟨⟨v0,v1⟩,rfl,⟨w0,w1⟩⟩
theorem one40 {cs:List AV} (h:WT (.int .i8) cs):∃a:Int,cs=[(AV.int .i8) a]∧(Lit.int .i8 a).wf=true:=by
 obtain ⟨n,rfl,w⟩:=h
 exact ⟨n,rfl,w⟩
theorem rdA64 {cs:List AV} (h:WT (.cat (.int .u8) (.cat (.int .u8) .unit)) cs):∃x:(Int × Int),AV.agg cs=(fun x:(Int × Int)=>AV.agg [.int .u8 x.1,.int .u8 x.2]) x∧((Lit.int .u8 x.1).wf=true∧(Lit.int .u8 x.2).wf=true):=by
 obtain ⟨_,_,rfl,a0,r0⟩:=h
 obtain ⟨v0,e0,w0⟩:=Jm a0
 cases e0
 obtain ⟨_,_,rfl,a1,r1⟩:=r0
 obtain ⟨v1,e1,w1⟩:=Jm a1
 cases e1
 cases r1
 exact ⟨(v0,v1),rfl,⟨w0,w1⟩⟩
end Go.Ab
namespace Go.Ab
open Go
theorem Qyg {p0:Qg} (h:Vv p0):Qy0 p0:=by
 obtain ⟨h1,⟨h2,h3⟩,h4,h5⟩:=h
 exact ⟨bounds_u8 h1,fun x hx=>bounds_u8 (h5 x hx),fun p hp=>bounds_u8 (h3 p hp).1,fun p hp x hx=>bounds_u8 ((h3 p hp).2.2.2 x hx),fun p hp=>(h3 p hp).2.2.1⟩
structure DX (D:NF):Prop extends VX D where
 n5:D.n≤5
 c23:∀v,v < D.n→2≤D.card v∧D.card v≤3
section
variable {D:NF}
theorem DX.worlds (X:DX D):prodTo D.n D.card≤243:=by
 have h1:prodTo D.n D.card≤3^D.n:=Vk fun v hv=>(X.c23 v hv).2
 have h2:3^D.n≤3^5:=Nat.pow_le_pow_right (by omega) X.n5
 omega
theorem Q4l (X:DX D) {k:Tharuspexref05_Known} (hk:Kx k):∃E,Qmc D E∧Qao k D.net=some (Qc D.n E):=by
 have V:=X.vn
 have hn:=X.n5
 have hlen:D.net.Nodes.length=D.n:=Qr
 obtain ⟨_,k0,k1,k2,k3,k4,_⟩:=hk
 have hw:=Z2 (body:=J3 D.net k) (fun s=>∃(i:Nat) (E:Nat → Int),i≤D.n∧(∀j,j < i→-1≤E j∧E j < D.card j)∧s=((i:Int),Qc i E))
  (fun s=>D.n - s.1.toNat) (fun r=>∃E,Qmc D E∧r=Qc D.n E) (fun s hs=>?_) ((0:Int),([]:List Int)) ⟨0,fun _=>0,by omega,fun j hj=>by omega,rfl⟩ (by simp; omega)
 ·obtain ⟨r,h1,E,h2,rfl⟩:=hw
  refine ⟨E,h2,?_⟩
  unfold Qao
  rw [h1]; rfl
 ·obtain ⟨i,E,hi,hE,rfl⟩:=hs
  by_cases hin:i < D.n
  ·left
   have hc:=V.card i hin
   have hnode:lkI D.net.Nodes (i:Int)=some (D.node i):=V.node hin
   have add:∀y:Int,-1≤y→y < D.card i→(∃s',some (Qk.next (((i+1:Nat):Int),Qc i E++[y]))=some (Qk.next (ρ:=List Int) s') ∧
     (∃(i:Nat) (E:Nat → Int),i≤D.n∧(∀j,j < i→-1≤E j∧E j < D.card j)∧s'=((i:Int),Qc i E))∧D.n - s'.1.toNat < D.n - (i:Int).toNat):=fun y h1 h2=>by
    refine ⟨_,rfl,⟨i+1,Xm E i y,hin,fun j hj=>?_,?_⟩,by simp; omega⟩
    ·by_cases e:j=i
     ·subst e; rw [Yi]; exact ⟨h1,h2⟩
     ·rw [Kg e]; exact hE j (by omega)
    ·rw [←Qd8,Yi]
     congr 2
     exact Qu fun j hj=>by rw [Kg (by omega)]
   have one:∀y:Int,(Lit.int .u8 y).wf=true→-1≤Int.tmod (zw y) (D.node i).Card∧Int.tmod (zw y) (D.node i).Card < D.card i:=fun y hy=>by
    have hb:=bounds_u8 hy
    have hp:(0:Int) < (D.card i:Int):=by omega
    rw [show (D.node i).Card=(D.card i:Int) from rfl,w64 (by omega),Xr hb.1]
    have h1:=Int.emod_nonneg y (show (D.card i:Int)≠0 by omega)
    have h2:=Int.emod_lt_of_pos y hp
    omega
   have hcard:(D.node i).Card≠0:=by show (D.card i:Int)≠0; omega
   have hll:∀y:Int,(Qc i E++[y]).length*8≤140737488355328:=fun y=>by simp [Qr]; omega
   have ek:zw ((i:Int)+1)=((i+1:Nat):Int):=by rw [w64 (by omega)]; omega
   unfold J3
   simp only
   rw [if_pos (by rw [hlen]; simpa using hin),if_pos Qgx]
   by_cases hb:((IntKind.u8.wrap (BitVec.ofInt (IntKind.bits .u8) (Int.fdiv k.Which (2^min (Int.toNat (zv (i:Int))) (IntKind.bits .u8))) &&& BitVec.ofInt (IntKind.bits .u8) 1).toNat)==1)=true
   ·rw [if_pos hb]
    have hcases:i=0∨i=1∨i=2∨i=3∨i=4:=by omega
    rcases hcases with rfl | rfl | rfl | rfl | rfl
    ·rw [if_pos (show ((0:Nat):Int)=0 from rfl),show lkI D.net.Nodes 0=some (D.node 0) from hnode]
     simp only [Option.bind_some]
     rw [if_pos hcard,if_pos (hll _)]
     exact add _ (one _ k0).1 (one _ k0).2
    ·rw [if_neg (by decide),if_pos (show ((1:Nat):Int)=1 from rfl),show lkI D.net.Nodes 1=some (D.node 1) from hnode]
     simp only [Option.bind_some]
     rw [if_pos hcard,if_pos (hll _)]
     exact add _ (one _ k1).1 (one _ k1).2
    ·rw [if_neg (by decide),if_neg (by decide),if_pos (show ((2:Nat):Int)=2 from rfl),show lkI D.net.Nodes 2=some (D.node 2) from hnode]
     simp only [Option.bind_some]
     rw [if_pos hcard,if_pos (hll _)]
     exact add _ (one _ k2).1 (one _ k2).2
    ·rw [if_neg (by decide),if_neg (by decide),if_neg (by decide),if_pos (show ((3:Nat):Int)=3 from rfl),show lkI D.net.Nodes 3=some (D.node 3) from hnode]
     simp only [Option.bind_some]
     rw [if_pos hcard,if_pos (hll _)]
     exact add _ (one _ k3).1 (one _ k3).2
    ·rw [if_neg (by decide),if_neg (by decide),if_neg (by decide),if_neg (by decide),if_pos (show ((4:Nat):Int)=4 from rfl),show lkI D.net.Nodes 4=some (D.node 4) from hnode]
     simp only [Option.bind_some]
     rw [if_pos hcard,if_pos (hll _)]
     exact add _ (one _ k4).1 (one _ k4).2
   ·rw [if_neg hb,if_pos (hll _),ek]
    exact add (-1) (by omega) (by omega)
  ·right
   have:i=D.n:=by omega
   subst this
   unfold J3
   rw [if_neg (by rw [hlen]; simp)]
   exact ⟨_,rfl,E,hE,rfl⟩
theorem Q12 {f:Nat → Nat} {l:List Nat} (h:∀p∈l,1≤f p):1≤lprod f l:=by
 have key:∀(l:List Nat) (R:Nat),1≤R→(∀p∈l,1≤f p)→1≤l.foldl (fun r p=>r*f p) R:=by
  intro l
  induction l with
  | nil=>intro R h _; exact h
  | cons p l ih=>intro R h hp; exact ih _ (Nat.mul_le_mul h (hp p (by simp))) fun q hq=>hp q (List.mem_cons_of_mem _ hq)
 exact key l 1 (Nat.le_refl 1) h
theorem Qso {y:Int} {c:Nat} (hy:(Lit.int .u8 y).wf=true) (hc:1≤c):∃r:Nat,r < c∧Int.tmod (zw y) (c:Int)=(r:Int):=by
 have hb:=bounds_u8 hy
 refine ⟨y.toNat % c,Nat.mod_lt _ (by omega),?_⟩
 rw [w64 (by omega),Xr hb.1,Int.natCast_emod,Int.toNat_of_nonneg hb.1]
theorem Q4m (X:DX D) {d:Xk} (hd:K3 d):∃(v x:Nat) (s:SF),v < D.n∧x < D.card v∧s.N < D.n∧s.R < D.rows s.N∧s.F < D.card s.N∧s.T < D.card s.N∧Qau d D.net=some ((v:Int),(x:Int),s.sh):=by
 have V:=X.vn
 have hn:=V.n1
 have hn5:=X.n5
 have hlen:D.net.Nodes.length=D.n:=Qr
 obtain ⟨d1,d2,d3,d4,d5,d6⟩:=hd
 obtain ⟨v,hv,ev⟩:=Qso d1 hn
 obtain ⟨N,hN,eN⟩:=Qso d3 hn
 have hcv:=X.c23 v hv
 have hcN:=X.c23 N hN
 have hrows:1≤D.rows N:=Q12 fun p hp=>(V.card p (V.par N hN p hp)).1
 have hrl:(D.node N).Rows.length=D.rows N:=by simp [NF.node,Qr]
 obtain ⟨x,hx,ex⟩:=Qso d2 (show 1≤D.card v by omega)
 obtain ⟨R,hR,eR⟩:=Qso d4 hrows
 obtain ⟨F,hF,eF⟩:=Qso d5 (show 1≤D.card N by omega)
 obtain ⟨t,ht,et⟩:=Qso d6 (show 1≤D.card N - 1 by omega)
 have em:(if (zw ((D.card N:Int) - 1)) > 1 then (zw ((D.card N:Int) - 1)) else 1)=((D.card N - 1:Nat):Int):=by
  rw [w64 (by omega)]
  split <;> omega
 have eT:Int.tmod (zw ((zw ((F:Int)+1))+(t:Int))) (D.card N:Int)=(((F+1+t) % D.card N:Nat):Int):=by
  have w1:zw ((F:Int)+1)=(F:Int)+1:=w64 (by omega)
  rw [w1,w64 (by omega),Xr (by omega)]
  simp
 refine ⟨v,x,⟨N,R,F,(F+1+t) % D.card N⟩,hv,hx,hN,hR,hF,Nat.mod_lt _ (by omega),?_⟩
 unfold Qau
 rw [hlen,if_pos (by omega),if_pos (by omega),eN,V.node hN]
 simp only [Option.bind_some]
 rw [hrl,show (D.node N).Card=(D.card N:Int) from rfl,if_pos (by omega),if_pos (by omega),em,if_pos (by omega),if_pos (by omega),ev,V.node hv]
 simp only [Option.bind_some]
 rw [show (D.node v).Card=(D.card v:Int) from rfl,if_pos (by omega),ex,eR,eF,et,eT]
 rfl
theorem Qt1 {E:Nat → Int} {f:(Nat → Nat)→Int} (V:VN D) {m:Nat} (hm:prodTo D.n D.card≤m) (hf:∀w,D.ok w→BD 1 (f w)):BD m (SW D E f):=by
 have h1:PC D D.n 0=prodTo D.n D.card:=by have:=Qoc (D:=D) D.n 0; simpa [prodTo] using this
 exact (Qpp hf D.n 0 _ (by omega) (ok0 V)).mono (by rw [h1]; exact hm)
end
theorem Qyv:Qgf=some true:=by kernel_rfl
end Go.Ab
