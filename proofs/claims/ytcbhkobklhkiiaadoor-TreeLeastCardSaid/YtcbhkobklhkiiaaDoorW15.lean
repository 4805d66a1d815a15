/- What functions compute. No conditions. -/
import Derived.Test.YtcbhkobklhkiiaaDoorW14
set_option linter.all false
namespace Go.Ab
open Go
set_option maxRecDepth 100000
set_option maxHeartbeats 400000
def Qh0 (g c:Int) (r:List Int):Prop:=(r.length:Int)=c∧(∀w∈r,0≤w)∧r.sum=g
def Qg2 (g:Int) (C:Nat → Nat) (x:Tapi_Node) (q:List Nat):Prop:=x.Rows.length=lprod C q∧∀r∈x.Rows,Qh0 g x.Card r
theorem Qet {l:List Int} {k:Nat} (h:k < l.length):(l.take (k+1)).sum=(l.take k).sum+l[k]:=by
 rw [Qt h,List.sum_append]; simp
theorem Qju:∀{l:List Int},(∀w∈l,0≤w)→0≤l.sum
 | [],_=>by simp
 | w::l,h=>by
  have h1:=h w (by simp)
  have h2:=Qju (l:=l) fun x hx=>h x (List.mem_cons_of_mem _ hx)
  rw [List.sum_cons]; omega
theorem Qnz {l:List Int} {k:Nat} (h:∀w∈l,0≤w):(l.take k).sum≤l.sum∧0≤(l.take k).sum:=by
 have h1:l.sum=(l.take k).sum+(l.drop k).sum:=by rw [←List.sum_append,List.take_append_drop]
 have h2:=Qju (l:=l.drop k) fun w hw=>h w (List.mem_of_mem_drop hw)
 have h3:=Qju (l:=l.take k) fun w hw=>h w (List.mem_of_mem_take hw)
 omega
theorem Qs3 {g:Int} {r:List Int} (hg:0≤g) (hg60:g≤60) (hr:r.length≤1000000) :
  (((∀w∈r,0≤w)∧r.sum≤g)∧Qa fuel (Zy r) (g,0)=some (.inr (g - r.sum)))∨(¬ ((∀w∈r,0≤w)∧r.sum≤g)∧Qa fuel (Zy r) (g,0)=some (.inl ())):=by
 have pre:∀k,k≤r.length→(∀j,j < k→0≤(r[j]?).getD 0∧(r[j]?).getD 0≤g - (r.take j).sum)→0≤(r.take k).sum∧(r.take k).sum≤g:=by
  intro k
  induction k with
  | zero=>intro _ _; simp; omega
  | succ k ih =>
   intro hk h
   have h1:=ih (by omega) fun j hj=>h j (by omega)
   have h2:=h k (by omega)
   rw [List.getElem?_eq_getElem (by omega)] at h2
   rw [Qet (by omega)]
   simp at h2; omega
 have h:=Vd (n:=r.length) (by omega) (fun k=>0≤(r[k]?).getD 0∧(r[k]?).getD 0≤g - (r.take k).sum) (fun i (t:Int)=>(t,i)) (body:=Zy r)
  (fun k=>g - (r.take k).sum) (.inr (g - r.sum)) (.inl ())
  (fun k hk hI hgd=>by
   have hp:=pre k (by omega) hI
   have ek:lkI r (k:Int)=some r[k]:=Q4 hk
   rw [List.getElem?_eq_getElem hk] at hgd
   simp only [Option.getD_some] at hgd
   unfold Zy
   dsimp only
   rw [if_pos (dlt hk),ek,Option.bind_some,if_neg (by simp; omega),if_neg (by simp; omega),w64 (n:=g - (r.take k).sum - r[k]) (by omega),Qet hk]
   congr 3
   omega)
  (fun k hk hI hgd=>by
   have ek:lkI r (k:Int)=some r[k]:=Q4 hk
   rw [List.getElem?_eq_getElem hk] at hgd
   simp only [Option.getD_some] at hgd
   unfold Zy
   dsimp only
   rw [if_pos (dlt hk),ek,Option.bind_some]
   by_cases c:r[k] < 0
   ·rw [if_pos (by simpa using c)]
   ·rw [if_neg (by simpa using c),if_pos (by simp; omega)])
  (fun hI=>by
   unfold Zy
   dsimp only
   rw [if_neg (nlt _),List.take_length])
 have hiff:(∀j,j < r.length→0≤(r[j]?).getD 0∧(r[j]?).getD 0≤g - (r.take j).sum)↔((∀w∈r,0≤w)∧r.sum≤g):=by
  constructor
  ·intro h
   have:=pre r.length (Nat.le_refl _) h
   rw [List.take_length] at this
   refine ⟨fun w hw=>?_,this.2⟩
   obtain ⟨k,hk,rfl⟩:=List.mem_iff_getElem.1 hw
   have:=(h k hk).1
   rw [List.getElem?_eq_getElem hk] at this
   exact this
  ·rintro ⟨h1,h2⟩ j hj
   rw [List.getElem?_eq_getElem hj]
   refine ⟨h1 _ (List.getElem_mem hj),?_⟩
   have h3:=(Qnz (k:=j+1) h1).1
   rw [Qet hj] at h3
   simp; omega
 rw [hiff] at h
 simp only [List.take_zero,List.sum_nil,Int.sub_zero] at h
 exact h
theorem Qm7 {n:Nat} {g:Int} {F:Nat → Tapi_Node} {C:Nat → Nat} {x:Tapi_Node} {q:List Nat} {sets order:List Int} (hg:0≤g) (hg60:g≤60) (hC:∀v,v < n→C v≤4) (hq:∀p∈q,p < n) (hl:q.length≤8) (hx:x.Parents=nI q) (hr:x.Rows.length≤1000000) (hrr:∀r∈x.Rows,r.length≤1000000) :
  (Qg2 g C x q∧Xz ⟨⟨g,rowG n F⟩,Ze n C,sets,order⟩ x=some true)∨(¬ Qg2 g C x q∧Xz ⟨⟨g,rowG n F⟩,Ze n C,sets,order⟩ x=some false):=by
 have bnd:∀k,lprod C (q.take k)≤65536:=fun k=>Nat.le_trans (Qkc fun p hp=>hC p (hq p (List.mem_of_mem_take hp))) (Nat.le_trans (Nat.pow_le_pow_right (by omega) (by rw [List.length_take]; omega)) (Nat.le_of_eq (show 4^8=65536 from rfl)))
 have h0:=Zi (n:=q.length) (k0:=0) (by omega) (by omega) (fun i (t:Int)=>(t,i)) (body:=Vf x ⟨⟨g,rowG n F⟩,Ze n C,sets,order⟩) (fun k=>(lprod C (q.take k):Int)) (lprod C q:Int)
  (fun k _ hk=>by
   have hp:=hq _ (List.getElem_mem hk)
   have e1:(lprod C (q.take k):Int)*(C q[k]:Int)=((lprod C (q.take (k+1)):Nat):Int):=by rw [Qt hk,Qhq]; simp
   have:=bnd (k+1)
   unfold Vf
   dsimp only
   rw [hx,Qg,if_pos (dlt hk),Yw hk,Option.bind_some,Qc9 hp,Option.bind_some,e1,w64 (n:=((lprod C (q.take (k+1)):Nat):Int)) (by omega)])
  (by
   unfold Vf
   dsimp only
   rw [hx,Qg,if_neg (nlt _),List.take_length])
 simp only [List.take_zero,show lprod C []=1 from rfl] at h0
 rw [show (((1:Nat):Int),((0:Nat):Int))=((1:Int),(0:Int)) from rfl] at h0
 unfold Xz
 rw [h0,Option.bind_some]
 by_cases c:x.Rows.length=lprod C q
 ·rw [if_neg (by simp; omega)]
  have h:=Vd (n:=x.Rows.length) (by omega) (fun k=>∀r,x.Rows[k]?=some r→Qh0 g x.Card r) (fun i (t:Unit)=>i) (body:=X4 x ⟨⟨g,rowG n F⟩,Ze n C,sets,order⟩)
   (fun _=>()) (.inr ()) (.inl ())
   (fun k hk hI hgd=>by
    have ek:lkI x.Rows (k:Int)=some x.Rows[k]:=Q4 hk
    obtain ⟨k1,k2,k3⟩:=hgd _ (List.getElem?_eq_getElem hk)
    unfold X4
    dsimp only
    rw [if_pos (dlt hk),ek,Option.bind_some]
    rcases Qs3 (g:=g) (r:=x.Rows[k]) hg hg60 (hrr _ (List.getElem_mem hk)) with ⟨_,e⟩ | ⟨no,_⟩
    ·rw [e,Option.bind_some]
     dsimp only
     rw [if_neg (by simp; omega),if_neg (by simp; omega)]
    ·exact absurd ⟨k2,by omega⟩ no)
   (fun k hk hI hgd=>by
    have ek:lkI x.Rows (k:Int)=some x.Rows[k]:=Q4 hk
    unfold X4
    dsimp only
    rw [if_pos (dlt hk),ek,Option.bind_some]
    rcases Qs3 (g:=g) (r:=x.Rows[k]) hg hg60 (hrr _ (List.getElem_mem hk)) with ⟨hok,e⟩ | ⟨no,e⟩
    ·rw [e,Option.bind_some]
     dsimp only
     by_cases c2:(x.Rows[k].length:Int)=x.Card
     ·rw [if_neg (by simp; omega),if_pos (by
       have:g - x.Rows[k].sum≠0:=fun h0=>hgd fun r hr=>by
        rw [List.getElem?_eq_getElem hk] at hr; cases hr
        exact ⟨c2,hok.1,by omega⟩
       simpa using this)]
     ·rw [if_pos (by simpa using c2)]
    ·rw [e,Option.bind_some])
   (fun hI=>by
    unfold X4
    dsimp only
    rw [if_neg (nlt _)])
  have hiff:(∀j,j < x.Rows.length→∀r,x.Rows[j]?=some r→Qh0 g x.Card r)↔Qg2 g C x q:=by
   constructor
   ·intro h
    refine ⟨c,fun r hr=>?_⟩
    obtain ⟨k,hk,rfl⟩:=List.mem_iff_getElem.1 hr
    exact h k hk _ (List.getElem?_eq_getElem hk)
   ·rintro ⟨_,h⟩ j hj r hr
    exact h r (List.mem_of_getElem? hr)
  rw [hiff] at h
  rcases h with ⟨h1,h2⟩ | ⟨h1,h2⟩
  ·exact .inl ⟨h1,by rw [show ((0:Nat):Int)=0 from rfl] at h2; rw [h2]; rfl⟩
  ·exact .inr ⟨h1,by rw [show ((0:Nat):Int)=0 from rfl] at h2; rw [h2]; rfl⟩
 ·rw [if_pos (by simp; omega)]
  exact .inr ⟨fun h=>c h.1,rfl⟩
def setF (F:Nat → Tapi_Node) (v:Nat):Nat := bitsOf (Qd F v) 0
def Qou (n:Nat) (g:Int) (F:Nat → Tapi_Node) (v:Nat):Prop:=(Qai n (F v).Parents∧(v:Int) ∉ (F v).Parents)∧Qg2 g (cardN F) (F v) (Qd F v)
theorem Qyn {n:Nat} {g w:Int} {F:Nat → Tapi_Node} (hn:n≤8) (hg:0≤g) (hg60:g≤60) (hb:NB n F) (hC:∀v,v < n→K2 (F v)) :
  ((∀v,v < n→Qou n g F v)∧Qa fuel (Yf ⟨g,rowG n F⟩ (w,Ze n (cardN F))) ((0:Int),rowG n fun _=>(0:Int))=some (Sum.inr (Ze n (setF F)))) ∨
  ((¬ ∀v,v < n→Qou n g F v)∧Qa fuel (Yf ⟨g,rowG n F⟩ (w,Ze n (cardN F))) ((0:Int),rowG n fun _=>(0:Int))=some (Sum.inl ())):=by
 have hlen:(rowG n F).length=n:=Z1
 have h:=Vd (n:=n) (by omega) (Qou n g F) (fun i (t:List Int)=>(i,t)) (body:=Yf ⟨g,rowG n F⟩ (w,Ze n (cardN F)))
  (fun k=>rowG n fun j=>if j < k then (setF F j:Int) else 0) (.inr (Ze n (setF F))) (.inl ())
  (fun v hv hI hgd=>by
   unfold Yf
   dsimp only
   rw [hlen,if_pos (dlt hv),Zr hv,Option.bind_some]
   rcases Qth (n:=n) (v:=v) (g:=g) (F:=F) (x:=F v) (S:=fun j=>if j < v then (setF F j:Int) else 0) (R:=[]) hn hv (hb.par v hv) (if_neg (by omega)) ((v:Int),rowG n fun j=>if j < v then (setF F j:Int) else 0) rfl with ⟨_,e⟩ | ⟨no,_⟩
   ·rw [e,Option.bind_some]
    dsimp only
    obtain ⟨p1,p2,p3⟩:=Vn hgd.1.1
    rcases Qm7 (n:=n) (g:=g) (F:=F) (C:=cardN F) (x:=F v) (q:=Qd F v) (sets:=rowG n fun j=>if j=v then (bitsOf ((F v).Parents.map Int.toNat) 0:Int) else if j < v then (setF F j:Int) else 0) (order:=[]) hg hg60 (fun u hu=>(Qb0 (hC u hu)).2) p3 (by have:=Qeq p2 p3; omega) p1 (hb.rows v hv) (hb.row v hv) with ⟨_,e2⟩ | ⟨no,_⟩
    ·rw [e2,Option.bind_some,if_neg (by decide)]
     congr 3
     refine Zu fun j _=>?_
     by_cases c:j=v
     ·subst c; rw [if_pos rfl,if_pos (by omega)]; rfl
     ·rw [if_neg c]
      by_cases c2:j < v
      ·rw [if_pos c2,if_pos (by omega)]
      ·rw [if_neg c2,if_neg (by omega)]
    ·exact absurd hgd.2 no
   ·exact absurd hgd.1 no)
  (fun v hv hI hgd=>by
   unfold Yf
   dsimp only
   rw [hlen,if_pos (dlt hv),Zr hv,Option.bind_some]
   rcases Qth (n:=n) (v:=v) (g:=g) (F:=F) (x:=F v) (S:=fun j=>if j < v then (setF F j:Int) else 0) (R:=[]) hn hv (hb.par v hv) (if_neg (by omega)) ((v:Int),rowG n fun j=>if j < v then (setF F j:Int) else 0) rfl with ⟨hp,e⟩ | ⟨no,e⟩
   ·rw [e,Option.bind_some]
    dsimp only
    obtain ⟨p1,p2,p3⟩:=Vn hp.1
    rcases Qm7 (n:=n) (g:=g) (F:=F) (C:=cardN F) (x:=F v) (q:=Qd F v) (sets:=rowG n fun j=>if j=v then (bitsOf ((F v).Parents.map Int.toNat) 0:Int) else if j < v then (setF F j:Int) else 0) (order:=[]) hg hg60 (fun u hu=>(Qb0 (hC u hu)).2) p3 (by have:=Qeq p2 p3; omega) p1 (hb.rows v hv) (hb.row v hv) with ⟨hf,_⟩ | ⟨no,e2⟩
    ·exact absurd ⟨hp,hf⟩ hgd
    ·rw [e2,Option.bind_some,if_pos (by decide)]
   ·rw [e,Option.bind_some])
  (fun hI=>by
   unfold Yf
   dsimp only
   rw [hlen,if_neg (nlt n)]
   congr 3
   exact Zu fun j hj=>if_pos hj)
 have e0:(rowG n fun j=>if j < 0 then (setF F j:Int) else 0)=rowG n fun _=>(0:Int):=Zu fun j _=>if_neg (by omega)
 simp only [e0] at h
 exact h
end Go.Ab
namespace Go.Ab
open Go
set_option maxRecDepth 100000
set_option maxHeartbeats 400000
def Qip (n:Nat) (q:Nat → List Nat):Prop:=∃rk:Nat → Nat,∀v,v < n→∀p∈q v,rk p < rk v
theorem Qy8:∀(l:List Nat),lprod (fun _=>1) l=1:=fun l=>by
 have:∀(l:List Nat) (r:Nat),l.foldl (fun r _=>r*1) r=r:=fun l=>by
  induction l with
  | nil=>intro r; rfl
  | cons a l ih=>intro r; simp only [List.foldl_cons]; rw [ih]; omega
 exact this l 1
theorem Qoj:∀n,Zh n (fun _=>1)=1
 | 0=>rfl
 | n+1=>by simp [Zh,Qoj n]
theorem Qv8 {n:Nat} {q:Nat → List Nat} (h1:1≤n) (hn:n≤8) (hq:∀v,v < n→(q v).Pairwise (· < ·)∧(∀p∈q v,p < n)∧v ∉ q v) (hr:Qip n q):∃o,Ya (Ze n fun v=>bitsOf (q v) 0)=some (o,true):=by
 let D:NF:=⟨n,1,fun _=>1,q,fun _ _ _=>1⟩
 have hrows:∀v,D.rows v=1:=fun v=>Qy8 (q v)
 exact Qym (D:=D) ⟨⟨h1,hn,Nat.le_refl _,by show 1≤60; omega,fun v hv=>⟨Nat.le_refl _,by show 1≤4; omega⟩,fun v hv=>(hq v hv).2.1,fun v hv=>Nat.le_trans (Qeq (hq v hv).1 (hq v hv).2.1) hn,fun v r x hv hr hx=>Nat.le_refl _,by show Zh n (fun _=>1)≤1024; rw [Qoj]; omega⟩,
  fun v hv=>(hq v hv).1,fun v hv=>(hq v hv).2.2,hr,fun v r hv hr=>rfl⟩
theorem Qv7 {n:Nat} {q:Nat → List Nat} (hn:n≤8) (hq:∀v,v < n→∀p∈q v,p < n):∃r,Qa fuel (Xm (Ze n fun v=>bitsOf (q v) 0)) ((0:Int),([]:List Int))=some r∧(r=.inl ()∨∃o,r=.inr o∧Qip n q):=by
 have hlen:(Ze n fun v=>bitsOf (q v) 0).length=n:=Qdn
 refine Vc (body:=Xm (Ze n fun v=>bitsOf (q v) 0)) (fun s=>∃l:List Nat,l.Nodup∧(∀p∈l,p < n)∧(∀i (hi:i < l.length),∀p∈q l[i],p∈l.take i)∧s=((bitsOf l 0:Int),nI l)) (fun s=>n - s.2.length) (fun r=>r=.inl ()∨∃o,r=.inr o∧Qip n q)
  (fun s hs=>?_) ((0:Int),([]:List Int)) ⟨[],List.nodup_nil,by simp,by simp,rfl⟩ (by show n - 0 < 1152921504606846976; omega)
 obtain ⟨l,hnd,hl,hb,rfl⟩:=hs
 have hll:l.length≤n:=by
  have:=K9 l (List.range n) hnd fun p hp=>List.mem_range.2 (hl p hp)
  simpa using this
 have hdl:bitsOf l 0 < 18446744073709551616:=Qbd _ _ (by omega) fun p hp=>by have:=hl p hp; omega
 by_cases hc:l.length < n
 ·
  have hsr:=Jh (n:=n) (k0:=0) (by omega) (by omega) (fun i (_:Unit)=>i) (body:=V3 (Ze n fun v=>bitsOf (q v) 0) ((bitsOf l 0:Int),nI l)) (fun _ _=>True)
   (fun r=>r=.inr ()∨∃v,v < n∧v ∉ l∧(∀p∈q v,p∈l)∧r=.inl (((bitsOf (l++[v]) 0:Nat):Int),nI (l++[v])))
   (fun k _ _ hk _=>by
    have hbk:(bitsOf l 0).testBit k=decide (k∈l):=by rw [X2]; simp
    have hsl:bitsOf (q k) 0 < 18446744073709551616:=Qbd _ _ (by omega) fun p hp=>by have:=hq k hk p hp; omega
    unfold V3
    dsimp only
    rw [hlen,if_pos (dlt hk),Qc9 hk,Option.bind_some,if_pos (Zm k),Qgf hdl (by omega),hbk]
    by_cases hkl:k∈l
    ·left
     rw [if_neg (by simp [hkl])]
     exact ⟨(),rfl,trivial⟩
    ·rw [if_pos (by simp [hkl])]
     by_cases hsub:∀p∈q k,p∈l
     ·right
      rw [if_pos ((Qog hsl hdl).2 fun j hj=>by
       rw [X2] at hj
       rw [X2]
       simp at hj ⊢
       exact hsub j hj),if_pos (by rw [List.length_append,Qg]; simp; omega),if_pos (Zm k),Qr5 hdl (by omega)]
      exact ⟨_,rfl,.inr ⟨k,hk,hkl,hsub,by rw [Qc0]; unfold nI; simp⟩⟩
     ·left
      rw [if_neg (fun hc'=>hsub fun p hp=>by
       have:=(Qog hsl hdl).1 hc' p (by rw [X2]; simpa using hp)
       rw [X2] at this
       simpa using this)]
      exact ⟨(),rfl,trivial⟩)
   (fun _ _=>⟨_,by unfold V3; dsimp only; rw [hlen,if_neg (nlt n)],.inl rfl⟩) () trivial
  obtain ⟨r,e1,e2⟩:=hsr
  rcases e2 with rfl | ⟨v,hv,hvl,hvq,rfl⟩
  ·right
   refine ⟨_,?_,.inl rfl⟩
   unfold Xm
   dsimp only
   rw [Qg,hlen,if_pos (dlt hc),show (0:Int)=((0:Nat):Int) from rfl,e1]; rfl
  ·left
   refine ⟨(((bitsOf (l++[v]) 0:Nat):Int),nI (l++[v])),?_,⟨l++[v],?_,?_,?_,rfl⟩,by rw [Qg,Qg,List.length_append]; simp; omega⟩
   ·unfold Xm
    dsimp only
    rw [Qg,hlen,if_pos (dlt hc),show (0:Int)=((0:Nat):Int) from rfl,e1]; rfl
   ·rw [List.nodup_append]
    exact ⟨hnd,by simp,fun a ha b hb=>by simp at hb; subst hb; exact fun e=>hvl (e ▸ ha)⟩
   ·intro p hp
    rcases List.mem_append.1 hp with h | h
    ·exact hl p h
    ·simp at h; omega
   ·intro i hi p hp
    rw [List.length_append] at hi
    by_cases c:i < l.length
    ·rw [List.getElem_append_left c] at hp
     rw [List.take_append_of_le_length (by omega)]
     exact hb i c p hp
    ·have:i=l.length:=by simp at hi; omega
     subst this
     rw [List.getElem_append_right (by omega)] at hp
     simp at hp
     rw [List.take_append_of_le_length (by omega),List.take_length]
     exact hvq p hp
 ·right
  refine ⟨_,?_,.inr ⟨nI l,rfl,fun v=>l.idxOf v,fun v hv p hp=>?_⟩⟩
  ·unfold Xm
   dsimp only
   rw [Qg,hlen,if_neg (by simp; omega)]
  ·have hvl:v∈l:=Qhj hnd hl (by omega) v hv
   have hi:=List.idxOf_lt_length_of_mem hvl
   have:=hb (l.idxOf v) hi p (by rw [List.getElem_idxOf hi]; exact hp)
   exact Qns this
theorem Qup {n:Nat} {q:Nat → List Nat} (h1:1≤n) (hn:n≤8) (hq:∀v,v < n→(q v).Pairwise (· < ·)∧(∀p∈q v,p < n)∧v ∉ q v) :
  (Qip n q∧∃o,Ya (Ze n fun v=>bitsOf (q v) 0)=some (o,true))∨(¬ Qip n q∧Ya (Ze n fun v=>bitsOf (q v) 0)=some ([],false)):=by
 by_cases hr:Qip n q
 ·exact .inl ⟨hr,Qv8 h1 hn hq hr⟩
 ·right
  refine ⟨hr,?_⟩
  obtain ⟨r,e1,e2⟩:=Qv7 hn fun v hv=>(hq v hv).2.1
  rcases e2 with rfl | ⟨o,rfl,h⟩
  ·unfold Ya
   rw [if_pos (by rw [Qdn]; omega)]
   simp only [Int.toNat_zero,List.replicate_zero]
   rw [e1]; rfl
  ·exact absurd h hr
structure Qah (n:Nat) (g:Int) (F:Nat → Tapi_Node):Prop where
 g1:1≤g
 g60:g≤60
 n1:1≤n
 n8:n≤8
 card:∀v,v < n→K2 (F v)
 worlds:Zh n (cardN F)≤1024
 node:∀v,v < n→Qou n g F v
 rank:Qip n (Qd F)
def Q4p:Q2 × Int:=(⟨⟨0,[]⟩,[],[],[]⟩,50)
theorem Qrs {n:Nat} {g:Int} {F:Nat → Tapi_Node} (hb:NB n F) (hbig:n≤1000000) :
  (Qah n g F∧∃o,Qae ⟨g,rowG n F⟩=some (⟨⟨g,rowG n F⟩,Ze n (cardN F),Ze n (setF F),o⟩,0))∨(¬ Qah n g F∧Qae ⟨g,rowG n F⟩=some Q4p):=by
 have hlen:(rowG n F).length=n:=Z1
 unfold Qae
 dsimp only
 rw [hlen]
 by_cases c1:g < 1
 ·rw [if_pos (by simpa using c1)]; exact .inr ⟨fun h=>by have:=h.g1; omega,rfl⟩
 rw [if_neg (by simpa using c1)]
 by_cases c2:g > 60
 ·rw [if_pos (by simpa using c2)]; exact .inr ⟨fun h=>by have:=h.g60; omega,rfl⟩
 rw [if_neg (by simpa using c2)]
 by_cases c3:n < 1
 ·rw [if_pos (by simp; omega)]; exact .inr ⟨fun h=>by have:=h.n1; omega,rfl⟩
 rw [if_neg (by simp; omega)]
 by_cases c4:n > 8
 ·rw [if_pos (by simp; omega)]; exact .inr ⟨fun h=>by have:=h.n8; omega,rfl⟩
 rw [if_neg (by simp; omega),if_pos (by omega),if_pos (by omega),Int.toNat_natCast,Qnj]
 rcases Qxq (n:=n) (g:=g) (F:=F) (by omega) with ⟨hC,e⟩ | ⟨hC,e⟩
 ·rw [e,Option.bind_some]
  dsimp only
  by_cases c5:Zh n (cardN F) > 1024
  ·rw [if_pos (by simp; omega)]; exact .inr ⟨fun h=>by have:=h.worlds; omega,rfl⟩
  rw [if_neg (by simp; omega)]
  rcases Qyn (n:=n) (g:=g) (w:=(Zh n (cardN F):Int)) (F:=F) (by omega) (by omega) (by omega) hb hC with ⟨hN,e⟩ | ⟨hN,e⟩
  ·rw [e,Option.bind_some]
   dsimp only
   rcases Qup (n:=n) (q:=Qd F) (by omega) (by omega) (fun v hv=>by
    obtain ⟨p1,p2,p3⟩:=Vn (hN v hv).1.1
    refine ⟨p2,p3,fun h=>(hN v hv).1.2 ?_⟩
    rw [p1]; unfold nI; exact List.mem_map.2 ⟨v,h,rfl⟩) with ⟨hR,o,e⟩ | ⟨hR,e⟩
   ·left
    refine ⟨⟨by omega,by omega,by omega,by omega,hC,by omega,hN,hR⟩,o,?_⟩
    rw [show (Ze n (setF F))=(Ze n fun v=>bitsOf (Qd F v) 0) from rfl,e,Option.bind_some,if_neg (by simp)]
   ·right
    refine ⟨fun h=>hR h.rank,?_⟩
    rw [show (Ze n (setF F))=(Ze n fun v=>bitsOf (Qd F v) 0) from rfl,e,Option.bind_some,if_pos (by simp)]; rfl
  ·rw [e,Option.bind_some]; exact .inr ⟨fun h=>hN h.node,rfl⟩
 ·rw [e,Option.bind_some]; exact .inr ⟨fun h=>hC h.card,rfl⟩
end Go.Ab
namespace Go.Ab
open Go
set_option maxRecDepth 100000
set_option maxHeartbeats 400000
theorem Q46 {a b:Nat} (ha:a < 18446744073709551616) (hb:b < 18446744073709551616):zv (zb (a:Int) ||| zb (b:Int)).toNat = ((a ||| b:Nat):Int):=by
 rw [BitVec.toNat_or,J1 ha,J1 hb,X8 (Nat.or_lt_two_pow (n:=64) ha hb)]
theorem Qr8 {a v:Nat} (ha:a < 18446744073709551616) (hv:v < 64):Yg (a:Int) (v:Int)=some (a.testBit v):=by
 unfold Yg
 rw [X8 (show v < 18446744073709551616 by omega),if_pos (Zm v),Qgf ha hv]
 cases a.testBit v <;> rfl
def Yy (a b:Nat):Prop:=∀j,a.testBit j=true→b.testBit j=true
theorem Yy.refl {a:Nat}:Yy a a:=fun _ h=>h
theorem Yy.trans {a b c:Nat} (h:Yy a b) (k:Yy b c):Yy a c:=fun j hj=>k j (h j hj)
theorem Q05 {a b:Nat}:Yy a (a ||| b):=fun j h=>by rw [Nat.testBit_or,h]; rfl
theorem Q01 {a b:Nat}:Yy b (a ||| b):=fun j h=>by rw [Nat.testBit_or,h]; simp
theorem Q33 {a b c:Nat} (h:Yy a c) (k:Yy b c):Yy (a ||| b) c:=fun j hj=>by
 rw [Nat.testBit_or,Bool.or_eq_true] at hj
 rcases hj with e | e
 ·exact h j e
 ·exact k j e
theorem Q02 {a b:Nat} (h:Yy a b) (k:Yy b a):a=b:=Nat.eq_of_testBit_eq fun j=>by
 cases ha:a.testBit j with
 | true=>rw [h j ha]
 | false=>cases hb:b.testBit j with
  | true=>rw [k j hb] at ha; cases ha
  | false=>rfl
def upV (S:Nat → Nat) (s v:Nat):Nat := if s.testBit v then s ||| S v else s
def upR (n:Nat) (S:Nat → Nat) (s:Nat):Nat := (List.range n).foldl (upV S) s
def ups (n:Nat) (S:Nat → Nat):Nat → Nat → Nat
 | 0,s=>s
 | k+1,s=>upR n S (ups n S k s)
theorem Qzf {S:Nat → Nat} {s v:Nat}:Yy s (upV S s v):=by
 unfold upV; split
 ·exact Q05
 ·exact .refl
theorem Qmo {S:Nat → Nat}:∀(l:List Nat) (s:Nat),Yy s (l.foldl (upV S) s)
 | [],s=>.refl
 | v::l,s=>Qzf.trans (Qmo l _)
theorem Qtk {S:Nat → Nat} {v:Nat}:∀(l:List Nat) (s:Nat),v∈l→s.testBit v=true→Yy (S v) (l.foldl (upV S) s)
 | [],s,h,_=>by cases h
 | u::l,s,h,hs=>by
  simp only [List.foldl_cons]
  by_cases e:v=u
  ·subst e
   refine Yy.trans ?_ (Qmo l _)
   unfold upV; rw [if_pos hs]; exact Q01
  ·exact Qtk l _ (by simpa [e] using h) (Qzf v hs)
theorem Qp1 {S:Nat → Nat} {T:Nat}:∀(l:List Nat) (s:Nat),(∀v∈l,T.testBit v=true→Yy (S v) T)→Yy s T→Yy (l.foldl (upV S) s) T
 | [],s,_,h=>h
 | v::l,s,hT,h=>by
  simp only [List.foldl_cons]
  refine Qp1 l _ (fun u hu=>hT u (List.mem_cons_of_mem _ hu)) ?_
  unfold upV; split
  ·rename_i hs; exact Q33 h (hT v (by simp) (h v hs))
  ·exact h
def Clo (n:Nat) (S:Nat → Nat) (T:Nat):Prop:=∀v,v < n→T.testBit v=true→Yy (S v) T
theorem Qzp {n:Nat} {S:Nat → Nat} {s:Nat}:∀k,Yy s (ups n S k s)
 | 0=>.refl
 | k+1=>(Qzp k).trans (Qmo _ _)
theorem Qg4 {n:Nat} {S:Nat → Nat} {s T:Nat} (hT:Clo n S T) (h:Yy s T):∀k,Yy (ups n S k s) T
 | 0=>h
 | k+1=>Qp1 _ _ (fun v hv=>hT v (List.mem_range.1 hv)) (Qg4 hT h k)
theorem Q2w {n:Nat} {S:Nat → Nat} {s:Nat} (h:upR n S s=s):Clo n S s:=fun v hv hs=>by
 have:=Qtk (S:=S) (List.range n) s (List.mem_range.2 hv) hs
 unfold upR at h
 rwa [h] at this
theorem Qzg {n a b:Nat} (h:Yy a b) (hb:∀j,b.testBit j=true→j < n) (hne:a≠b):cnt n a.testBit < cnt n b.testBit:=by
 have:∃j,b.testBit j=true∧a.testBit j=false:=by
  apply Classical.byContradiction
  intro hno
  exact hne (Q02 h fun j hj=>by
   cases ha:a.testBit j with
   | true=>rfl
   | false=>exact absurd ⟨j,hj,ha⟩ hno)
 obtain ⟨j,h1,h2⟩:=this
 have e:=Qjc (n:=n) (p:=b.testBit) (hb j h1) h1
 have:cnt n a.testBit≤cnt n (fun i=>b.testBit i && !decide (j=i)):=Qs2 fun i _ hi=>by
  have:j≠i:=fun e=>by subst e; rw [h2] at hi; cases hi
  simp [h i hi,this]
 omega
theorem Qny (n:Nat) {S:Nat → Nat} (hS:∀v,v < n→∀j,(S v).testBit j=true→j < n):Clo n S (2^n - 1):=fun v hv _ j hj=>by
 rw [Nat.testBit_two_pow_sub_one]; simpa using hS v hv j hj
theorem Q2r {n:Nat} {S:Nat → Nat} {s:Nat} (hS:∀v,v < n→∀j,(S v).testBit j=true→j < n) (hs:∀j,s.testBit j=true→j < n):Clo n S (ups n S n s):=by
 have hin:∀k j,(ups n S k s).testBit j=true→j < n:=fun k j hj=>by
  have:=Qg4 (Qny n hS) (s:=s) (fun j hj=>by rw [Nat.testBit_two_pow_sub_one]; simpa using hs j hj) k j hj
  rw [Nat.testBit_two_pow_sub_one] at this; simpa using this
 have key:∀k,upR n S (ups n S k s)=ups n S k s∨k+cnt n s.testBit≤cnt n (ups n S k s).testBit:=by
  intro k
  induction k with
  | zero=>right; simp [ups]
  | succ k ih =>
   by_cases hf:upR n S (ups n S k s)=ups n S k s
   ·left; simp only [ups]; rw [hf,hf]
   ·right
    rcases ih with h | h
    ·exact absurd h hf
    ·have:=Qzg (n:=n) (Qmo (S:=S) (List.range n) (ups n S k s)) (hin (k+1)) (fun e=>hf e.symm)
     show k+1+_≤cnt n (upR n S (ups n S k s)).testBit
     unfold upR; omega
 rcases key n with h | h
 ·exact Q2w h
 ·have h0:=Qsw n (ups n S n s).testBit
  have hz:cnt n s.testBit=0:=by omega
  have:s=0:=Nat.eq_of_testBit_eq fun j=>by
   rw [Nat.zero_testBit,Bool.eq_false_iff]
   intro hj
   have:=Qqg (n:=n) (hs j hj) hj; omega
  subst this
  have h1:=Qg4 (n:=n) (S:=S) (s:=0) (T:=0) (fun v _ hv=>by rw [Nat.zero_testBit] at hv; cases hv) .refl n
  intro v hv hb
  have:=h1 v hb
  rw [Nat.zero_testBit] at this; cases this
theorem Qlf {n s:Nat} (h:∀j,s.testBit j=true→j < n):s < 2^n:=by
 apply Nat.lt_pow_two_of_testBit
 intro i hi
 rw [Bool.eq_false_iff]; intro hj
 have:=h i hj; omega
theorem Qzh {n:Nat} {S:Nat → Nat} {s:Nat} (hn:n≤8) (hS:∀v,v < n→∀j,(S v).testBit j=true→j < n) (hs:∀j,s.testBit j=true→j < n):Qgh (Ze n S) (s:Int)=some ((ups n S n s:Nat):Int):=by
 have hlen:(Ze n S).length=n:=Qdn
 have hfull:=Qny n hS
 have hs0:Yy s (2^n - 1):=fun j hj=>by rw [Nat.testBit_two_pow_sub_one]; simpa using hs j hj
 have p8:(2:Nat)^n≤256:=Nat.pow_le_pow_right (n:=2) (by omega) hn
 have hlt:∀{t:Nat},Yy t (2^n - 1)→t < 18446744073709551616:=fun h=>by
  have:=Qlf (n:=n) fun j hj=>by have:=h j hj; rw [Nat.testBit_two_pow_sub_one] at this; simpa using this
  omega
 have inner:∀t,Yy t (2^n - 1)→Qa fuel (Qar (Ze n S)) ((t:Int),(0:Int))=some ((upR n S t:Nat):Int):=fun t ht=>by
  have h:=Zi (n:=n) (k0:=0) (by omega) (by omega) (fun i (x:Int)=>(x,i)) (body:=Qar (Ze n S)) (fun k=>(((List.range k).foldl (upV S) t:Nat):Int)) ((upR n S t:Nat):Int)
   (fun k _ hk=>by
    have hsub:=Qp1 (S:=S) (T:=2^n - 1) (List.range k) t (fun v hv=>hfull v (by have:=List.mem_range.1 hv; omega)) ht
    unfold Qar
    dsimp only
    rw [hlen,if_pos (dlt hk),Qr8 (hlt hsub) (by omega),Option.bind_some,List.range_succ,List.foldl_append]
    simp only [List.foldl_cons,List.foldl_nil]
    unfold upV
    by_cases c:((List.range k).foldl (upV S) t).testBit k=true
    ·unfold upV at c
     rw [if_pos c,Qc9 hk,Option.bind_some,if_pos c]
     have hsub':=hsub
     unfold upV at hsub'
     rw [Q46 (hlt hsub') (by
      have:=Qlf (hS k hk); omega)]
    ·unfold upV at c
     rw [if_neg c,if_neg c])
   (by unfold Qar; dsimp only; rw [hlen,if_neg (nlt n)]; rfl)
  rw [show ((0:Nat):Int)=0 from rfl] at h
  exact h
 have h:=Zi (n:=n) (k0:=0) (by omega) (by omega) (fun i (x:Int)=>(x,i)) (body:=Qc6 (Ze n S)) (fun k=>((ups n S k s:Nat):Int)) ((ups n S n s:Nat):Int)
  (fun k _ hk=>by
   unfold Qc6
   dsimp only
   rw [hlen,if_pos (dlt hk),inner _ (Qg4 hfull hs0 k)]; rfl)
  (by unfold Qc6; dsimp only; rw [hlen,if_neg (nlt n)])
 rw [show ((0:Nat):Int)=0 from rfl] at h
 unfold Qgh
 rw [show ups n S 0 s=s from rfl] at h
 rw [h]; rfl
theorem Quq {n:Nat} {q:Nat → List Nat} (hn:n≤8) (hq:∀v,v < n→∀p∈q v,p < n) :
  (Qip n q∧Kt (Ze n fun v=>bitsOf (q v) 0)=some true)∨(¬ Qip n q∧Kt (Ze n fun v=>bitsOf (q v) 0)=some false):=by
 have hlen:(Ze n fun v=>bitsOf (q v) 0).length=n:=Qdn
 have hbit:∀v j,(bitsOf (q v) 0).testBit j=true↔j∈q v:=fun v j=>by rw [X2]; simp
 have hS:∀v,v < n→∀j,(bitsOf (q v) 0).testBit j=true→j < n:=fun v hv j hj=>hq v hv j ((hbit v j).1 hj)
 have p8:(2:Nat)^n≤256:=Nat.pow_le_pow_right (n:=2) (by omega) hn
 have hin:∀v,v < n→∀j,(ups n (fun v=>bitsOf (q v) 0) n (bitsOf (q v) 0)).testBit j=true→j < n:=fun v hv j hj=>by
  have:=Qg4 (Qny n hS) (s:=bitsOf (q v) 0) (fun j hj=>by rw [Nat.testBit_two_pow_sub_one]; simpa using hS v hv j hj) n j hj
  rw [Nat.testBit_two_pow_sub_one] at this; simpa using this
 have h:=Vd (n:=n) (by omega) (fun v=>(ups n (fun v=>bitsOf (q v) 0) n (bitsOf (q v) 0)).testBit v=false) (fun i (t:Unit)=>i) (body:=V1 (Ze n fun v=>bitsOf (q v) 0)) (fun _=>()) (.inr ()) (.inl ())
  (fun v hv hI hg=>by
   unfold V1
   rw [hlen,if_pos (dlt hv),Qc9 hv,Option.bind_some,Qzh hn hS (hS v hv),Option.bind_some,Qr8 (by have:=Qlf (hin v hv); omega) (by omega),Option.bind_some,hg,if_neg (by decide)])
  (fun v hv hI hg=>by
   unfold V1
   rw [hlen,if_pos (dlt hv),Qc9 hv,Option.bind_some,Qzh hn hS (hS v hv),Option.bind_some,Qr8 (by have:=Qlf (hin v hv); omega) (by omega),Option.bind_some,if_pos (by simpa using hg)])
  (fun hI=>by unfold V1; rw [hlen,if_neg (nlt n)])
 have hiff:(∀v,v < n→(ups n (fun v=>bitsOf (q v) 0) n (bitsOf (q v) 0)).testBit v=false)↔Qip n q:=by
  constructor
  ·intro hac
   refine ⟨fun v=>cnt n (ups n (fun v=>bitsOf (q v) 0) n (bitsOf (q v) 0)).testBit,fun v hv p hp=>?_⟩
   have hpn:=hq v hv p hp
   have hcv:=Q2r hS (hS v hv)
   have hpv:(ups n (fun v=>bitsOf (q v) 0) n (bitsOf (q v) 0)).testBit p=true:=Qzp n p ((hbit v p).2 hp)
   refine Qzg (Qg4 hcv (hcv p hpn hpv) n) (hin v hv) fun e=>?_
   have:=hac p hpn
   rw [e,hpv] at this; cases this
  ·rintro ⟨rk,hrk⟩ v hv
   rw [Bool.eq_false_iff]
   intro hb
   have hT:∃T:Nat,∀j,T.testBit j=true↔j < n∧rk j < rk v:=⟨msk n fun j=>decide (rk j < rk v),fun j=>by rw [V7]; simp⟩
   obtain ⟨T,hT⟩:=hT
   have:=Qg4 (n:=n) (S:=fun v=>bitsOf (q v) 0) (s:=bitsOf (q v) 0) (T:=T) (fun u hu hb j hj=>by
    have h1:=(hT u).1 hb
    have h2:=(hbit u j).1 hj
    have h3:=hrk u hu j h2
    exact (hT j).2 ⟨hq u hu j h2,by omega⟩) (fun j hj=>by
    have h2:=(hbit v j).1 hj
    exact (hT j).2 ⟨hq v hv j h2,hrk v hv j h2⟩) n v hb
   have:=((hT v).1 this).2
   omega
 rw [hiff] at h
 rw [show ((0:Nat):Int)=0 from rfl] at h
 unfold Kt
 rcases h with ⟨h1,h2⟩ | ⟨h1,h2⟩
 ·exact .inl ⟨h1,by rw [h2]; rfl⟩
 ·exact .inr ⟨h1,by rw [h2]; rfl⟩
end Go.Ab
namespace Go.Ab
open Go
set_option maxRecDepth 100000
set_option maxHeartbeats 400000
theorem Qop {n:Nat} {l:List Int} (hl:l.length≤1000000):(Qai n l∧K3 l (n:Int)=some true)∨(¬ Qai n l∧K3 l (n:Int)=some false):=by
 have good:∀k,k < l.length→((0≤(l[k]?).getD 0∧(l[k]?).getD 0 < n∧(0 < k→(l[k - 1]?).getD 0 < (l[k]?).getD 0))↔(0≤(l[k]?).getD 0∧Qhf n l k)):=fun k hk=>by
  unfold Qhf Qh2
  by_cases c:k=0
  ·rw [if_pos c]; constructor
   ·rintro ⟨a,b,_⟩; exact ⟨a,by omega,b⟩
   ·rintro ⟨a,_,b⟩; exact ⟨a,b,fun h=>by omega⟩
  ·rw [if_neg c]; constructor
   ·rintro ⟨a,b,d⟩; exact ⟨a,d (by omega),b⟩
   ·rintro ⟨a,d,b⟩; exact ⟨a,b,fun _=>d⟩
 have h:=Vd (n:=l.length) (by omega) (fun k=>0≤(l[k]?).getD 0∧(l[k]?).getD 0 < n∧(0 < k→(l[k - 1]?).getD 0 < (l[k]?).getD 0)) (fun i (t:Unit)=>i) (body:=Ji l (n:Int)) (fun _=>()) (.inr ()) (.inl ())
  (fun k hk hI hg=>by
   have ek:lkI l (k:Int)=some ((l[k]?).getD 0):=by rw [Q4 hk,List.getElem?_eq_getElem hk]; rfl
   unfold Ji
   rw [if_pos (dlt hk),ek,Option.bind_some,if_neg (by simp; exact hg.1),if_neg (by simp; exact hg.2.1)]
   by_cases c:0 < k
   ·have ek2:lkI l (zw ((k:Int) - 1))=some ((l[k - 1]?).getD 0):=by
     rw [w64 (by omega),show ((k:Int) - 1)=((k - 1:Nat):Int) by omega,Q4 (by omega),List.getElem?_eq_getElem (by omega)]; rfl
    rw [if_pos (by simp; omega),ek2,Option.bind_some,if_neg (by simp; exact hg.2.2 c)]
   ·rw [if_neg (by simp; omega)])
  (fun k hk hI hg=>by
   have ek:lkI l (k:Int)=some ((l[k]?).getD 0):=by rw [Q4 hk,List.getElem?_eq_getElem hk]; rfl
   unfold Ji
   rw [if_pos (dlt hk),ek,Option.bind_some]
   by_cases c1:(l[k]?).getD 0 < 0
   ·rw [if_pos (by simpa using c1)]
   ·rw [if_neg (by simpa using c1)]
    by_cases c2:(l[k]?).getD 0≥(n:Int)
    ·rw [if_pos (by simpa using c2)]
    ·rw [if_neg (by simpa using c2)]
     by_cases c:0 < k
     ·have ek2:lkI l (zw ((k:Int) - 1))=some ((l[k - 1]?).getD 0):=by
       rw [w64 (by omega),show ((k:Int) - 1)=((k - 1:Nat):Int) by omega,Q4 (by omega),List.getElem?_eq_getElem (by omega)]; rfl
      rw [if_pos (by simp; omega),ek2,Option.bind_some,if_pos (by
       have:¬ (l[k - 1]?).getD 0 < (l[k]?).getD 0:=fun h=>hg ⟨by omega,by omega,fun _=>h⟩
       simp; omega)]
     ·exact absurd ⟨by omega,by omega,fun h=>absurd h c⟩ hg)
  (fun hI=>by unfold Ji; rw [if_neg (nlt _)])
 have hiff:(∀k,k < l.length→0≤(l[k]?).getD 0∧(l[k]?).getD 0 < n∧(0 < k→(l[k - 1]?).getD 0 < (l[k]?).getD 0))↔Qai n l:=by
  constructor
  ·intro h; exact Qrc fun k hk=>((good k hk).1 (h k hk)).2
  ·intro h k hk
   exact (good k hk).2 ⟨(Qgi (Qlo h) k hk).1,Qlo h k hk⟩
 rw [hiff] at h
 rw [show ((0:Nat):Int)=0 from rfl] at h
 unfold K3
 rcases h with ⟨h1,h2⟩ | ⟨h1,h2⟩
 ·exact .inl ⟨h1,by rw [h2]; rfl⟩
 ·exact .inr ⟨h1,by rw [h2]; rfl⟩
theorem Q4a {n:Nat} {g:Int} {F:Nat → Tapi_Node} (hn:n≤8) (hb:NB n F) :
  ((∀v,v < n→K2 (F v)∧Qai n (F v).Parents)∧Qa fuel (Yi ⟨g,rowG n F⟩) ((1:Int),(0:Int))=some (Sum.inr (Zh n (cardN F):Int))) ∨
  ((¬ ∀v,v < n→K2 (F v)∧Qai n (F v).Parents)∧Qa fuel (Yi ⟨g,rowG n F⟩) ((1:Int),(0:Int))=some (Sum.inl ())):=by
 have hlen:(rowG n F).length=n:=Z1
 have h:=Vd (n:=n) (by omega) (fun v=>K2 (F v)∧Qai n (F v).Parents) (fun i (t:Int)=>(t,i)) (body:=Yi ⟨g,rowG n F⟩)
  (fun k=>(Zh k (cardN F):Int)) (Sum.inr (Zh n (cardN F):Int)) (Sum.inl ())
  (fun k hk hI hg=>by
   have b1:Zh k (cardN F)≤4^k:=Qlz fun j hj=>(Qb0 (hI j hj).1).2
   have b2:(4:Nat)^k≤4^8:=Nat.pow_le_pow_right (by omega) (by omega)
   have b3:Zh k (cardN F)*cardN F k≤65536*4:=Nat.mul_le_mul (by omega) (Qb0 hg.1).2
   have hc:=Qnq hg.1
   have e1:(Zh k (cardN F):Int)*(F k).Card=((Zh (k+1) (cardN F):Nat):Int):=by rw [←hc]; simp [Zh]
   unfold Yi
   dsimp only
   rw [hlen,if_pos (dlt hk),Zr hk,Option.bind_some,if_neg (by simp; exact hg.1.1),if_neg (by simp; exact hg.1.2)]
   rcases Qop (n:=n) (hb.par k hk) with ⟨_,e⟩ | ⟨no,_⟩
   ·rw [e,Option.bind_some,if_neg (by decide),e1,w64 (n:=((Zh (k+1) (cardN F):Nat):Int)) (by simp only [Zh]; omega)]
   ·exact absurd hg.2 no)
  (fun k hk hI hg=>by
   unfold Yi
   dsimp only
   rw [hlen,if_pos (dlt hk),Zr hk,Option.bind_some]
   by_cases c:(F k).Card < 1
   ·rw [if_pos (by simpa using c)]
   ·rw [if_neg (by simpa using c)]
    by_cases c2:(F k).Card > 4
    ·rw [if_pos (by simpa using c2)]
    ·rw [if_neg (by simpa using c2)]
     rcases Qop (n:=n) (hb.par k hk) with ⟨hp,_⟩ | ⟨_,e⟩
     ·exact absurd ⟨⟨by omega,by omega⟩,hp⟩ hg
     ·rw [e,Option.bind_some,if_pos (by decide)])
  (fun hI=>by
   unfold Yi
   dsimp only
   rw [hlen,if_neg (nlt n)])
 exact h
theorem Qki {n:Nat} {g:Int} {F:Nat → Tapi_Node} (hn:n≤8) (hP:∀v,v < n→Qai n (F v).Parents):Yu ⟨g,rowG n F⟩=some (Ze n (setF F)):=by
 have hlen:(rowG n F).length=n:=Z1
 have h:=Zi (n:=n) (k0:=0) (by omega) (by omega) (fun i (t:List Int)=>(i,t)) (body:=V4 ⟨g,rowG n F⟩) (fun k=>Ze k (setF F)) (Ze n (setF F))
  (fun v _ hv=>by
   obtain ⟨p1,p2,p3⟩:=Vn (hP v hv)
   have hl:=Qeq p2 p3
   have hi:=Zi (n:=(Qd F v).length) (k0:=0) (by omega) (by omega) (fun i (t:Int)=>(t,i)) (body:=Ja ⟨g,rowG n F⟩ ((v:Int),Ze v (setF F))) (fun k=>(bitsOf ((Qd F v).take k) 0:Int)) ((setF F v:Nat):Int)
    (fun k _ hk=>by
     have hp:=p3 _ (List.getElem_mem hk)
     have hbl:bitsOf ((Qd F v).take k) 0 < 18446744073709551616:=Qbd _ _ (by omega) fun p hp=>by have:=p3 p (List.mem_of_mem_take hp); omega
     unfold Ja
     dsimp only
     rw [Zr hv,Option.bind_some,p1,Qg,if_pos (dlt hk),Yw hk,Option.bind_some,X8 (n:=(Qd F v)[k]) (by omega),if_pos (Zm _),Qr5 hbl (by omega),Qt hk,Qc0])
    (by
     unfold Ja
     dsimp only
     rw [Zr hv,Option.bind_some,p1,Qg,if_neg (nlt _),List.take_length]; rfl)
   rw [show ((0:Nat):Int)=0 from rfl,List.take_zero] at hi
   rw [show ((bitsOf [] 0:Nat):Int)=0 from rfl] at hi
   unfold V4
   dsimp only
   rw [hlen,if_pos (dlt hv),hi,Option.bind_some,if_pos (by rw [List.length_append,Qdn]; simp; omega)]
   congr 3
   exact Qhs (F:=fun j=>((setF F j:Nat):Int)))
  (by
   unfold V4
   dsimp only
   rw [hlen,if_neg (nlt n)])
 rw [show ((0:Nat):Int)=0 from rfl] at h
 rw [show Ze 0 (setF F)=[] from rfl] at h
 unfold Yu
 rw [h]; rfl
theorem Q2s {n:Nat} {g:Int} {F:Nat → Tapi_Node} {r:List Int} (hg:0≤g) (hg60:g≤60) (hr:r.length≤4) :
  ((∀w∈r,0≤w∧w≤g)∧Qa fuel (Yh r ⟨g,rowG n F⟩) (0,0)=some (.inr r.sum))∨(¬ (∀w∈r,0≤w∧w≤g)∧Qa fuel (Yh r ⟨g,rowG n F⟩) (0,0)=some (.inl ())):=by
 have pre:∀k,k≤r.length→(∀j,j < k→0≤(r[j]?).getD 0∧(r[j]?).getD 0≤g)→0≤(r.take k).sum∧(r.take k).sum≤60*k:=by
  intro k
  induction k with
  | zero=>intro _ _; simp
  | succ k ih =>
   intro hk h
   have h1:=ih (by omega) fun j hj=>h j (by omega)
   have h2:=h k (by omega)
   rw [List.getElem?_eq_getElem (by omega)] at h2
   rw [Qet (by omega)]
   simp at h2; omega
 have h:=Vd (n:=r.length) (by omega) (fun k=>0≤(r[k]?).getD 0∧(r[k]?).getD 0≤g) (fun i (t:Int)=>(t,i)) (body:=Yh r ⟨g,rowG n F⟩)
  (fun k=>(r.take k).sum) (.inr r.sum) (.inl ())
  (fun k hk hI hgd=>by
   have hp:=pre k (by omega) hI
   have ek:lkI r (k:Int)=some r[k]:=Q4 hk
   rw [List.getElem?_eq_getElem hk] at hgd
   simp only [Option.getD_some] at hgd
   unfold Yh
   dsimp only
   rw [if_pos (dlt hk),ek,Option.bind_some,if_neg (by simp; omega),if_neg (by simp; omega),w64 (n:=(r.take k).sum+r[k]) (by omega),Qet hk])
  (fun k hk hI hgd=>by
   have ek:lkI r (k:Int)=some r[k]:=Q4 hk
   rw [List.getElem?_eq_getElem hk] at hgd
   simp only [Option.getD_some] at hgd
   unfold Yh
   dsimp only
   rw [if_pos (dlt hk),ek,Option.bind_some]
   by_cases c:r[k] < 0
   ·rw [if_pos (by simpa using c)]
   ·rw [if_neg (by simpa using c),if_pos (by simp; omega)])
  (fun hI=>by
   unfold Yh
   dsimp only
   rw [if_neg (nlt _),List.take_length])
 have hiff:(∀j,j < r.length→0≤(r[j]?).getD 0∧(r[j]?).getD 0≤g)↔(∀w∈r,0≤w∧w≤g):=by
  constructor
  ·intro h w hw
   obtain ⟨k,hk,rfl⟩:=List.mem_iff_getElem.1 hw
   have:=h k hk
   rw [List.getElem?_eq_getElem hk] at this
   exact this
  ·intro h j hj
   rw [List.getElem?_eq_getElem hj]
   exact h _ (List.getElem_mem hj)
 rw [hiff] at h
 simp only [List.take_zero,List.sum_nil] at h
 exact h
theorem Qvv {g c:Int} {r:List Int}:Qh0 g c r↔(r.length:Int)=c∧(∀w∈r,0≤w∧w≤g)∧r.sum=g:=by
 unfold Qh0
 constructor
 ·rintro ⟨a,b,d⟩
  refine ⟨a,fun w hw=>⟨b w hw,?_⟩,d⟩
  obtain ⟨k,hk,rfl⟩:=List.mem_iff_getElem.1 hw
  have h1:=(Qnz (k:=k+1) b).1
  have h2:=(Qnz (k:=k) b).2
  rw [Qet hk] at h1; omega
 ·rintro ⟨a,b,d⟩; exact ⟨a,fun w hw=>(b w hw).1,d⟩
theorem Qz3 {n:Nat} {g:Int} {F:Nat → Tapi_Node} (hn:n≤8) (hg:0≤g) (hg60:g≤60) (hb:NB n F) (hC:∀v,v < n→K2 (F v)) (hP:∀v,v < n→Qai n (F v).Parents) :
  ((∀v,v < n→Qg2 g (cardN F) (F v) (Qd F v))∧Qa fuel (Ym ⟨g,rowG n F⟩) 0=some (.inr ()))∨((¬ ∀v,v < n→Qg2 g (cardN F) (F v) (Qd F v))∧Qa fuel (Ym ⟨g,rowG n F⟩) 0=some (.inl ())):=by
 have hlen:(rowG n F).length=n:=Z1
 have hpc:∀v,v < n→Zj ⟨g,rowG n F⟩ (v:Int)=some ((Qd F v).map fun p=>(cardN F p:Int)):=fun v hv=>by
  obtain ⟨p1,p2,p3⟩:=Vn (hP v hv)
  unfold Zj
  rw [Qq0 (C:=cardN F) (fun v hv=>(Qnq (hC v hv)).symm) hn,Option.bind_some,Zr hv,Option.bind_some,p1,show nI (Qd F v)=(Qd F v).map fun (p:Nat)=>(p:Int) from rfl,Q13 p3 (by have:=Qeq p2 p3; omega)]
  rfl
 have hrow:∀v (hv:v < n) k (hk:k < (F v).Rows.length),Yk (F v) ⟨g,rowG n F⟩ (k:Int)=some (if (((F v).Rows[k].length:Int)=(F v).Card∧(∀w∈(F v).Rows[k],0≤w∧w≤g)∧(F v).Rows[k].sum=g) then .next (zw ((k:Int)+1)) else .done (.inl ())):=fun v hv k hk=>by
  have ek:lkI (F v).Rows (k:Int)=some (F v).Rows[k]:=Q4 hk
  unfold Yk
  rw [if_pos (dlt hk),ek,Option.bind_some]
  by_cases c:((F v).Rows[k].length:Int)=(F v).Card
  ·rw [if_neg (by simp; omega)]
   have hc:=(hC v hv).2
   rcases Q2s (n:=n) (g:=g) (F:=F) (r:=(F v).Rows[k]) hg hg60 (by omega) with ⟨h,e⟩ | ⟨h,e⟩
   ·rw [e,Option.bind_some]
    dsimp only
    by_cases c2:(F v).Rows[k].sum=g
    ·rw [if_neg (by simp; exact c2),if_pos ⟨c,h,c2⟩]
    ·rw [if_pos (by simpa using c2),if_neg fun hh=>c2 hh.2.2]
   ·rw [e,Option.bind_some,if_neg fun hh=>h hh.2.1]
  ·rw [if_pos (by simpa using c),if_neg fun hh=>c hh.1]
 have hrows:∀v (hv:v < n),((∀k,k < (F v).Rows.length→∀r,(F v).Rows[k]?=some r→Qh0 g (F v).Card r)∧Qa fuel (Yk (F v) ⟨g,rowG n F⟩) 0=some (.inr ()))∨((¬ ∀k,k < (F v).Rows.length→∀r,(F v).Rows[k]?=some r→Qh0 g (F v).Card r)∧Qa fuel (Yk (F v) ⟨g,rowG n F⟩) 0=some (.inl ())):=fun v hv=>by
  have h:=Vd (n:=(F v).Rows.length) (by have:=hb.rows v hv; omega) (fun k=>∀r,(F v).Rows[k]?=some r→Qh0 g (F v).Card r) (fun i (t:Unit)=>i) (body:=Yk (F v) ⟨g,rowG n F⟩) (fun _=>()) (.inr ()) (.inl ())
   (fun k hk hI hgd=>by
    rw [hrow v hv k hk,if_pos (Qvv.1 (hgd _ (List.getElem?_eq_getElem hk)))])
   (fun k hk hI hgd=>by
    rw [hrow v hv k hk,if_neg fun hh=>hgd fun r hr=>by
     rw [List.getElem?_eq_getElem hk] at hr; cases hr
     exact Qvv.2 hh])
   (fun hI=>by unfold Yk; rw [if_neg (nlt _)])
  exact h
 have h:=Vd (n:=n) (by omega) (fun v=>Qg2 g (cardN F) (F v) (Qd F v)) (fun i (t:Unit)=>i) (body:=Ym ⟨g,rowG n F⟩) (fun _=>()) (.inr ()) (.inl ())
  (fun v hv hI hgd=>by
   obtain ⟨p1,p2,p3⟩:=Vn (hP v hv)
   unfold Ym
   dsimp only
   rw [hlen,if_pos (dlt hv),Zr hv,Option.bind_some,hpc v hv,Option.bind_some,Qlj (fun p hp=>(Qb0 (hC p (p3 p hp))).2) (by have:=Qeq p2 p3; omega),Option.bind_some,if_neg (by have:=hgd.1; simp; omega)]
   rcases hrows v hv with ⟨_,e⟩ | ⟨no,_⟩
   ·rw [e,Option.bind_some]
   ·exact absurd (fun k hk r hr=>hgd.2 r (List.mem_of_getElem? hr)) no)
  (fun v hv hI hgd=>by
   obtain ⟨p1,p2,p3⟩:=Vn (hP v hv)
   unfold Ym
   dsimp only
   rw [hlen,if_pos (dlt hv),Zr hv,Option.bind_some,hpc v hv,Option.bind_some,Qlj (fun p hp=>(Qb0 (hC p (p3 p hp))).2) (by have:=Qeq p2 p3; omega),Option.bind_some]
   by_cases c:(F v).Rows.length=lprod (cardN F) (Qd F v)
   ·rw [if_neg (by simp; omega)]
    rcases hrows v hv with ⟨h,_⟩ | ⟨_,e⟩
    ·exact absurd ⟨c,fun r hr=>by
      obtain ⟨k,hk,rfl⟩:=List.mem_iff_getElem.1 hr
      exact h k hk _ (List.getElem?_eq_getElem hk)⟩ hgd
    ·rw [e,Option.bind_some]
   ·rw [if_pos (by simp; omega)])
  (fun hI=>by unfold Ym; dsimp only; rw [hlen,if_neg (nlt n)])
 exact h
theorem Qxi {n:Nat} {g:Int} {F:Nat → Tapi_Node} (hb:NB n F):(Qah n g F∧Qat ⟨g,rowG n F⟩=some true)∨(¬ Qah n g F∧Qat ⟨g,rowG n F⟩=some false):=by
 have hlen:(rowG n F).length=n:=Z1
 unfold Qat
 dsimp only
 rw [hlen]
 by_cases c1:g < 1
 ·rw [if_pos (by simpa using c1)]; exact .inr ⟨fun h=>by have:=h.g1; omega,rfl⟩
 rw [if_neg (by simpa using c1)]
 by_cases c2:g > 60
 ·rw [if_pos (by simpa using c2)]; exact .inr ⟨fun h=>by have:=h.g60; omega,rfl⟩
 rw [if_neg (by simpa using c2)]
 by_cases c3:n < 1
 ·rw [if_pos (by simp; omega)]; exact .inr ⟨fun h=>by have:=h.n1; omega,rfl⟩
 rw [if_neg (by simp; omega)]
 by_cases c4:n > 8
 ·rw [if_pos (by simp; omega)]; exact .inr ⟨fun h=>by have:=h.n8; omega,rfl⟩
 rw [if_neg (by simp; omega)]
 rcases Q4a (n:=n) (g:=g) (by omega) hb with ⟨hC,e⟩ | ⟨hC,e⟩
 ·rw [e,Option.bind_some]
  dsimp only
  by_cases c5:Zh n (cardN F) > 1024
  ·rw [if_pos (by simp; omega)]; exact .inr ⟨fun h=>by have:=h.worlds; omega,rfl⟩
  rw [if_neg (by simp; omega),Qki (by omega) fun v hv=>(hC v hv).2,Option.bind_some]
  rw [show (Ze n (setF F))=(Ze n fun v=>bitsOf (Qd F v) 0) from rfl]
  rcases Quq (n:=n) (q:=Qd F) (by omega) (fun v hv=>(Vn (hC v hv).2).2.2) with ⟨hR,e⟩ | ⟨hR,e⟩
  ·rw [e,Option.bind_some,if_neg (by decide)]
   rcases Qz3 (n:=n) (g:=g) (F:=F) (by omega) (by omega) (by omega) hb (fun v hv=>(hC v hv).1) (fun v hv=>(hC v hv).2) with ⟨hN,e⟩ | ⟨hN,e⟩
   ·left
    refine ⟨⟨by omega,by omega,by omega,by omega,fun v hv=>(hC v hv).1,by omega,fun v hv=>⟨⟨(hC v hv).2,fun hm=>?_⟩,hN v hv⟩,hR⟩,by rw [e]; rfl⟩
    obtain ⟨p1,_,_⟩:=Vn (hC v hv).2
    obtain ⟨rk,hrk⟩:=hR
    rw [p1] at hm
    unfold nI at hm
    obtain ⟨p,hp,e⟩:=List.mem_map.1 hm
    have:p=v:=by omega
    subst this
    have:=hrk p hv p hp; omega
   ·right
    exact ⟨fun h=>hN fun v hv=>(h.node v hv).2,by rw [e]; rfl⟩
  ·rw [e,Option.bind_some,if_pos (by decide)]
   exact .inr ⟨fun h=>hR h.rank,rfl⟩
 ·rw [e,Option.bind_some]; exact .inr ⟨fun h=>hC fun v hv=>⟨h.card v hv,(h.node v hv).1.1⟩,rfl⟩
end Go.Ab
namespace Go.Ab
open Go
set_option maxRecDepth 100000
set_option maxHeartbeats 400000
structure Kj (m:Nat) (x:Tapi_Node):Prop where
 par:x.Parents.length≤m
 rows:x.Rows.length≤m
 row:∀r∈x.Rows,r.length≤m
theorem Ql5 {m:Nat} {x:Tapi_Node} (hm:m≤1000000) (h:Kj m x):Qa fuel (Xv x) (0,([]:List (List Int)))=some x.Rows:=by
 have h1:=h.rows
 have hr:=Zi (n:=x.Rows.length) (k0:=0) (by omega) (by omega) (fun i (t:List (List Int))=>(i,t)) (body:=Xv x) (fun k=>x.Rows.take k) x.Rows
  (fun k _ hk=>by
   have h2:=h.row _ (List.getElem_mem hk)
   unfold Xv
   dsimp only
   rw [if_pos (dlt hk),Q4 hk,Option.bind_some,if_pos (by omega),if_pos (by rw [List.length_append,List.length_take]; simp; omega),Qt hk])
  (by unfold Xv; dsimp only; rw [if_neg (nlt _),List.take_length])
 exact hr
theorem Q2l {x:Tapi_Node}:Qft x=Xv x:=rfl
theorem Q2p {x:Tapi_Node}:Qfk x=Xv x:=rfl
theorem Qxo {m:Nat} {g:Int} {l:List Tapi_Node} {t:Nat} (hm:m≤1000000) (hl:l.length≤8) (h:∀x∈l,Kj m x) (ht:t < l.length) :
  Qa fuel (Qbt (fun s=>decide (s.1=(t:Int))) (Yr ⟨g,l⟩)) (0,([]:List Tapi_Node))=some (.inl ((t:Int),l.take t)):=by
 have step:∀k,k < t→Yr ⟨g,l⟩ ((k:Int),l.take k)=some (.next (((k+1:Nat):Int),l.take (k+1))):=fun k hk=>by
  have hkl:k < l.length:=by omega
  have hx:=h _ (List.getElem_mem hkl)
  have h3:=hx.par
  unfold Yr
  dsimp only
  rw [if_pos (dlt hkl),Q4 hkl,Option.bind_some,if_pos (by omega),Ql5 hm hx,Option.bind_some,if_pos (by rw [List.length_append,List.length_take]; simp; omega),Qt hkl,Qom (by omega)]
 have key:∀(j N k:Nat),k+j=t→j < N→Qa N (Qbt (fun s=>decide (s.1=(t:Int))) (Yr ⟨g,l⟩)) ((k:Int),l.take k)=some (.inl ((t:Int),l.take t)):=by
  intro j
  induction j with
  | zero =>
   intro N k e hN
   obtain ⟨N,rfl⟩:∃M,N=M+1:=⟨N - 1,by omega⟩
   have:k=t:=by omega
   subst this
   simp only [Qa,Qbt,decide_true,if_true]
  | succ j ih =>
   intro N k e hN
   obtain ⟨N,rfl⟩:∃M,N=M+1:=⟨N - 1,by omega⟩
   have hne:¬ ((k:Int)=(t:Int)):=by omega
   have hs:Qbt (fun s=>decide (s.1=(t:Int))) (Yr ⟨g,l⟩) ((k:Int),l.take k)=some (.next (((k+1:Nat):Int),l.take (k+1))):=by
    unfold Qbt
    rw [if_neg (by simpa using hne),step k (by omega)]; rfl
   rw [Qa,hs]
   exact ih N (k+1) (by omega) (by omega)
 exact key t fuel 0 (by omega) (by show t < 1152921504606846976; omega)
theorem Qze {m:Nat} {g:Int} {l:List Tapi_Node} {t:Nat} (hm:m≤1000000) (hl:l.length≤8) (h:∀x∈l,Kj m x) (ht:t < l.length) :
  Qa fuel (V0 ⟨g,l⟩ ((t:Int),l.take t)) (zw ((t:Int)+1),(l.take t++[(default:Tapi_Node)]))=some (l.take t++[(default:Tapi_Node)]++l.drop (t+1)):=by
 have hr:=Zi (n:=l.length) (k0:=t+1) (by omega) (by omega) (fun i (s:List Tapi_Node)=>(i,s)) (body:=V0 ⟨g,l⟩ ((t:Int),l.take t)) (fun k=>l.take t++[(default:Tapi_Node)]++(l.drop (t+1)).take (k - (t+1))) (l.take t++[(default:Tapi_Node)]++l.drop (t+1))
  (fun k hk0 hk=>by
   have hx:=h _ (List.getElem_mem hk)
   have h3:=hx.par
   have htl:(l.take t).length=t:=by rw [List.length_take]; omega
   have hi:t < (l.take t++[(default:Tapi_Node)]++(l.drop (t+1)).take (k - (t+1))).length:=by rw [List.length_append,List.length_append,htl]; simp only [List.length_cons,List.length_nil]; omega
   unfold V0
   dsimp only
   rw [if_pos (dlt hk),Q4 hk,Option.bind_some,if_pos (by omega),Q2p,Ql5 hm hx,Option.bind_some,htl,Q4 hi,Option.bind_some,if_pos (by simp; omega)]
   congr 3
   rw [List.append_assoc,show k+1 - (t+1)=(k - (t+1))+1 by omega,Qt (by rw [List.length_drop]; omega)]
   congr 2
   rw [List.getElem_drop]
   simp only [show t+1+(k - (t+1))=k by omega])
  (by
   unfold V0
   dsimp only
   rw [if_neg (nlt _)]
   congr 3
   rw [List.take_of_length_le (by rw [List.length_drop]; omega)])
 rw [Qom (by omega)]
 simp only [Nat.sub_self,List.take_zero,List.append_nil] at hr
 exact hr
def Out (m k:Nat) (o:Option Qc):Prop:=∃g l,o=some ⟨g,l⟩∧l.length≤k∧∀x∈l,Kj m x
theorem Qmu {m k t:Nat} {g:Int} {l:List Tapi_Node} {x:Tapi_Node} (hl:l.length≤k) (h:∀y∈l,Kj m y) (hx:Kj m x):Out m k (some ⟨g,l.set t x⟩):=by
 refine ⟨g,_,rfl,by rw [List.length_set]; exact hl,fun y hy=>?_⟩
 rcases List.mem_or_eq_of_mem_set hy with h1 | h1
 ·exact h y h1
 ·rw [h1]; exact hx
theorem Qrk {m k t:Nat} {w0 w1 w2 w3 w4 w5 w6 row:Int} {q:Nat} {l:List Tapi_Node} {c:Int} {P:List Int} {R:List (List Int)} (hm:m≤1000000) (hl:l.length≤k) (hk:k≤8) (h:∀y∈l,Kj m y) (ht:t < l.length) (hP:P.length≤m) (hR:R.length≤m) (hr:∀r∈R,r.length≤m)
  (hrow:row=-1∨(0≤row∧row < R.length)):Out (m+1) (k+1) (Vw q row w0 w1 w2 w3 w4 w5 l (t:Int) c P R):=by
 have h':∀y∈l,Kj (m+1) y:=fun y hy=>⟨Nat.le_succ_of_le (h y hy).par,Nat.le_succ_of_le (h y hy).rows,fun r hr=>Nat.le_succ_of_le ((h y hy).row r hr)⟩
 have hlk:lkI l (t:Int)=some l[t]:=Q4 ht
 have mk:∀{g c:Int} {P:List Int} {R:List (List Int)},P.length≤m+1→R.length≤m+1→(∀r∈R,r.length≤m+1)→Out (m+1) (k+1) (Qn g l (t:Int) c P R):=fun a b d=>by
  unfold Qn
  rw [hlk,Option.bind_some]
  exact Qmu (Nat.le_succ_of_le hl) h' ⟨a,b,d⟩
 have same:∀{g c:Int},Out (m+1) (k+1) (Qn g l (t:Int) c P R):=mk (by omega) (by omega) fun r h=>Nat.le_succ_of_le (hr r h)
 have rowAt:0≤row→∃(i:Nat) (hi:i < R.length),row=(i:Int)∧lkI R row=some R[i]:=fun h0=>by
  rcases hrow with h1 | h1
  ·omega
  ·obtain ⟨i,rfl⟩:∃i:Nat,row=(i:Int):=⟨row.toNat,by omega⟩
   exact ⟨i,by omega,rfl,Q4 (by omega)⟩
 have setR:∀{i:Nat} {r:List Int},r.length≤m+1→(R.set i r).length≤m+1∧∀s∈R.set i r,s.length≤m+1:=fun hr'=>⟨by rw [List.length_set]; omega,fun s hs=>by
  rcases List.mem_or_eq_of_mem_set hs with h1 | h1
  ·exact Nat.le_succ_of_le (hr s h1)
  ·rw [h1]; exact hr'⟩
 unfold Vw
 by_cases c0:Int.tmod w0 12=0
 ·rw [if_pos (by simpa using c0)]; exact same
 rw [if_neg (by simpa using c0)]
 by_cases c1:Int.tmod w0 12=1
 ·rw [if_pos (by simpa using c1),hlk,Option.bind_some]; exact same
 rw [if_neg (by simpa using c1)]
 by_cases c2:Int.tmod w0 12=2
 ·rw [if_pos (by simpa using c2),hlk,Option.bind_some,if_pos (by rw [List.length_append]; simp; omega)]
  exact mk (by rw [List.length_append]; simp; omega) (by omega) fun r h=>Nat.le_succ_of_le (hr r h)
 rw [if_neg (by simpa using c2)]
 by_cases c3:Int.tmod w0 12=3
 ·rw [if_pos (by simpa using c3),hlk,Option.bind_some]
  unfold Qbn
  rw [hlk,Option.bind_some]
  exact Qmu (Nat.le_succ_of_le hl) h' ⟨by simp,Nat.le_succ_of_le hR,fun r h=>Nat.le_succ_of_le (hr r h)⟩
 rw [if_neg (by simpa using c3)]
 by_cases c4:Int.tmod w0 12=4
 ·rw [if_pos (by simpa using c4),hlk,Option.bind_some,if_pos (by rw [List.length_append]; simp; omega)]
  refine mk (by omega) (by rw [List.length_append]; simp; omega) fun r h=>?_
  rcases List.mem_append.1 h with h1 | h1
  ·exact Nat.le_succ_of_le (hr r h1)
  ·simp at h1; rw [h1]; simp
 rw [if_neg (by simpa using c4)]
 by_cases c5:Int.tmod w0 12=5
 ·rw [if_pos (by simpa using c5)]
  by_cases d:row≥0
  ·rw [if_pos (by simpa using d),hlk,Option.bind_some,if_pos (by rcases hrow with h1 | h1 <;> omega)]
   unfold Qbe
   refine Qmu (Nat.le_succ_of_le hl) h' ⟨by simp only; omega,?_,fun r h=>?_⟩
   ·show (sub R 0 row).length≤m+1
    unfold sub; simp; omega
   ·have h:r∈sub R 0 row:=h
    unfold sub at h
    exact Nat.le_succ_of_le (hr r (List.mem_of_mem_take (by simpa using h)))
  ·rw [if_neg (by simpa using d)]; exact same
 rw [if_neg (by simpa using c5)]
 by_cases c6:Int.tmod w0 12=6
 ·rw [if_pos (by simpa using c6)]
  by_cases d:row≥0
  ·obtain ⟨i,hi,e1,e2⟩:=rowAt d
   rw [if_pos (by simpa using d),hlk,Option.bind_some,e2,Option.bind_some]
   have hri:=hr _ (List.getElem_mem hi)
   by_cases d2:((R[i].length:Int) > 0)
   ·rw [if_pos (by simpa using d2),show (0:Int)=((0:Nat):Int) from rfl,Q4 (by omega),Option.bind_some]
    obtain ⟨a,b⟩:=setR (i:=row.toNat) (r:=R[i].set (Int.toNat ((0:Nat):Int)) w3) (by rw [List.length_set]; omega)
    exact mk (by omega) a b
   ·rw [if_neg (by simpa using d2)]; exact same
  ·rw [if_neg (by simpa using d)]; exact same
 rw [if_neg (by simpa using c6)]
 by_cases c7:Int.tmod w0 12=7
 ·rw [if_pos (by simpa using c7)]
  by_cases d:row≥0
  ·obtain ⟨i,hi,e1,e2⟩:=rowAt d
   have hri:=hr _ (List.getElem_mem hi)
   rw [if_pos (by simpa using d),e2,Option.bind_some,hlk,Option.bind_some,if_pos (by rw [List.length_append]; simp; omega),List.set_set]
   obtain ⟨a,b⟩:=setR (i:=row.toNat) (r:=R[i]++[(0:Int)]) (by rw [List.length_append]; simp; omega)
   exact mk (by omega) a b
  ·rw [if_neg (by simpa using d)]; exact same
 rw [if_neg (by simpa using c7)]
 by_cases c8:Int.tmod w0 12=8
 ·rw [if_pos (by simpa using c8)]
  by_cases d:row≥0
  ·obtain ⟨i,hi,e1,e2⟩:=rowAt d
   have hri:=hr _ (List.getElem_mem hi)
   rw [if_pos (by simpa using d),hlk,Option.bind_some,e2,Option.bind_some]
   by_cases d2:((R[i].length:Int) > 0)
   ·rw [if_pos (by simpa using d2),if_pos (by omega),show (0:Int)=((0:Nat):Int) from rfl,Q4 (by rw [List.length_replicate]; omega),Option.bind_some,List.set_set]
    obtain ⟨a,b⟩:=setR (i:=row.toNat) (r:=(List.replicate (Int.toNat (R[i].length:Int)) ((0:Nat):Int)).set (Int.toNat ((0:Nat):Int)) w4) (by rw [List.length_set,List.length_replicate]; omega)
    exact mk (by omega) a b
   ·rw [if_neg (by simpa using d2)]; exact same
  ·rw [if_neg (by simpa using d)]; exact same
 rw [if_neg (by simpa using c8)]
 by_cases c9:Int.tmod w0 12=9
 ·rw [if_pos (by simpa using c9)]
  by_cases d:row≥0
  ·obtain ⟨i,hi,e1,e2⟩:=rowAt d
   have hri:=hr _ (List.getElem_mem hi)
   rw [if_pos (by simpa using d),hlk,Option.bind_some,e2,Option.bind_some]
   have hw:=Vc (body:=Qbj row) (fun s:Int × Int × List (List Int)=>∃(a b:Int) (T:List (List Int)),s=(a,b,T)∧0≤a∧-1≤b∧a+b=(R[i].length:Int) - 1∧T.length=R.length∧(∀r∈T,r.length≤m)∧∃r,T[i]?=some r∧r.length=R[i].length) (fun s=>R[i].length+1 - s.1.toNat) (fun T=>T.length=R.length∧∀r∈T,r.length≤m)
    (fun s hs=>by
     obtain ⟨a,b,T,rfl,ha,hb,hab,hT,hTr,r,er,hrl⟩:=hs
     unfold Qbj
     dsimp only
     by_cases hc:a < b
     ·left
      have eT:lkI T row=some r:=by unfold lkI; rw [if_neg (by omega),e1,Int.toNat_natCast,er]
      have l1:∀(s:List Int) (z:Int),s.length=R[i].length→0≤z→z < R[i].length→lkI s z=some ((s[z.toNat]?).getD 0):=fun s z hs h1 h2=>by
       unfold lkI; rw [if_neg (by omega),List.getElem?_eq_getElem (by omega)]; rfl
      rw [if_pos (by simpa using hc),eT,Option.bind_some,l1 r a hrl ha (by omega),Option.bind_some,l1 r b hrl (by omega) (by omega),Option.bind_some,l1 _ b (by rw [List.length_set]; exact hrl) (by omega) (by omega),Option.bind_some,List.set_set,w64 (by omega),w64 (by omega)]
      refine ⟨_,rfl,⟨_,_,_,rfl,by omega,by omega,by omega,by rw [List.length_set]; exact hT,fun s hs=>?_,_,by rw [e1,Int.toNat_natCast,List.getElem?_set_self (by omega)],by rw [List.length_set,List.length_set]; exact hrl⟩,by simp only; omega⟩
      rcases List.mem_or_eq_of_mem_set hs with h1 | h1
      ·exact hTr s h1
      ·rw [h1,List.length_set,List.length_set,hrl]; exact hri
     ·right
      rw [if_neg (by simpa using hc)]
      exact ⟨_,rfl,hT,hTr⟩) (0,zw ((R[i].length:Int) - 1),R) ⟨0,(R[i].length:Int) - 1,R,by rw [w64 (by omega)],by omega,by omega,by omega,rfl,hr,_,List.getElem?_eq_getElem hi,rfl⟩ (by show R[i].length+1 - 0 < 1152921504606846976; omega)
   obtain ⟨T,h1,h2,h3⟩:=hw
   rw [h1,Option.bind_some]
   exact mk (by omega) (by omega) fun r h=>Nat.le_succ_of_le (h3 r h)
  ·rw [if_neg (by simpa using d)]; exact same
 rw [if_neg (by simpa using c9)]
 by_cases c10:Int.tmod w0 12=10
 ·rw [if_pos (by simpa using c10),hlk,Option.bind_some,if_pos (by rw [List.length_append]; simp; omega)]
  unfold Qn
  have hn:∀y∈l++[Tapi_Node.mk 1 [] [[w4]]],Kj (m+1) y:=fun y hy=>by
   rcases List.mem_append.1 hy with h1 | h1
   ·exact h' y h1
   ·simp at h1; rw [h1]; exact ⟨by simp,by simp,fun r hr=>by simp at hr; rw [hr]; simp⟩
  rw [Q4 (by rw [List.length_append]; omega),Option.bind_some]
  exact Qmu (by rw [List.length_append]; simp; omega) hn ⟨by simp only; omega,by simp only; omega,fun r h=>Nat.le_succ_of_le (hr r h)⟩
 rw [if_neg (by simpa using c10),hlk,Option.bind_some,List.length_set,w64 (n:=(l.length:Int) - 1) (by omega),if_pos (by omega)]
 have hx:Kj (m+1) (Tapi_Node.mk c P R):=⟨by simp only; omega,by simp only; omega,fun r h=>Nat.le_succ_of_le (hr r h)⟩
 refine ⟨_,_,rfl,?_,fun y hy=>?_⟩
 ·unfold sub; simp; omega
 ·unfold sub at hy
  have hy:=List.mem_of_mem_take (show y∈List.take (l.length - 1) (l.set t { Card:=c,Parents:=P,Rows:=R }) by simpa using hy)
  rcases List.mem_or_eq_of_mem_set hy with h1 | h1
  ·exact h' y h1
  ·rw [h1]; exact hx
theorem Q0s {b:Q9} {g:Int} {l:List Tapi_Node} {m:Nat} (hm:m≤999999) (h1:1≤l.length) (hl:l.length≤8) (h:∀x∈l,Kj m x) (hA:0≤b.At∧b.At≤255) (hR:0≤b.Row∧b.Row≤255):Out (m+1) (l.length+1) (Kh b ⟨g,l⟩):=by
 have eA:zw b.At=b.At:=w64 (by omega)
 have eR:zw b.Row=b.Row:=w64 (by omega)
 have tm:∀k:Nat,0 < k→∃t:Nat,t < k∧Int.tmod b.At (k:Int)=(t:Int):=fun k hk=>by
  rw [Qdi hA.1]
  have h1:=Int.emod_nonneg b.At (show (k:Int)≠0 by omega)
  have h2:=Int.emod_lt_of_pos b.At (show (0:Int) < k by omega)
  exact ⟨(b.At % k).toNat,by omega,by omega⟩
 obtain ⟨t,ht,et⟩:=tm l.length (by omega)
 unfold Kh
 dsimp only
 rw [eA,et,Qxo (by omega) hl h ht,Option.bind_some]
 dsimp only
 have hx:=h _ (List.getElem_mem ht)
 have hxp:=hx.par
 have htl:(l.take t).length=t:=by rw [List.length_take]; omega
 rw [if_pos (dlt ht),Q4 ht,Option.bind_some,if_pos (by omega),Q2l,Ql5 (by omega) hx,Option.bind_some,if_pos (by rw [List.length_append,htl]; simp; omega),Qze (by omega) hl h ht,Option.bind_some,htl]
 have hlen:(l.take t++[(default:Tapi_Node)]++l.drop (t+1)).length=l.length:=by simp [htl]; omega
 have hall:∀y∈l.take t++[(default:Tapi_Node)]++l.drop (t+1),Kj m y:=fun y hy=>by
  rcases List.mem_append.1 hy with h1 | h1
  ·rcases List.mem_append.1 h1 with h2 | h2
   ·exact h y (List.mem_of_mem_take h2)
   ·simp at h2; rw [h2]; exact ⟨Nat.zero_le _,Nat.zero_le _,fun r hr=>by cases hr⟩
  ·exact h y (List.mem_of_mem_drop h1)
 generalize l.take t++[(default:Tapi_Node)]++l.drop (t+1)=L at hlen hall
 have hne:¬ (((l.length:Int)==0)=true):=by simp; intro e; rw [e] at h1; simp at h1
 rw [hlen,if_neg hne,if_pos (by omega),Q4 (by omega),Option.bind_some,et,if_pos rfl]
 by_cases c:((l[t].Rows.length:Int) > 0)
 ·rw [if_pos (by simpa using c),if_pos (by omega)]
  have hrow:0≤Int.tmod (zw b.Row) (l[t].Rows.length:Int)∧Int.tmod (zw b.Row) (l[t].Rows.length:Int) < l[t].Rows.length:=by
   rw [eR,Qdi hR.1]
   exact ⟨Int.emod_nonneg _ (by omega),Int.emod_lt_of_pos _ (by omega)⟩
  exact Qrk (by omega) (by omega) hl hall (by omega) hx.par hx.rows hx.row (.inr hrow) (w5:=0) (w6:=0)
 ·rw [if_neg (by simpa using c)]
  exact Qrk (by omega) (by omega) hl hall (by omega) hx.par hx.rows hx.row (.inl rfl) (w5:=0) (w6:=0)
theorem Q0y {l:List Tapi_Node}:l=rowG l.length fun v=>(l[v]?).getD default:=by
 apply List.ext_getElem?
 intro i
 unfold rowG
 rw [List.getElem?_map]
 by_cases c:i < l.length
 ·rw [List.getElem?_eq_getElem c,List.getElem?_range c]
  simp [c]
 ·rw [List.getElem?_eq_none (by omega),List.getElem?_eq_none (by simp; omega)]; rfl
theorem Q49 {l:List Tapi_Node} {m:Nat} (hm:m≤1000000) (h:∀x∈l,Kj m x):NB l.length fun v=>(l[v]?).getD default:=by
 have key:∀v,v < l.length→Kj m ((l[v]?).getD default):=fun v hv=>by
  rw [List.getElem?_eq_getElem hv]; exact h _ (List.getElem_mem hv)
 exact ⟨fun v hv=>by have:=(key v hv).par; omega,fun v hv=>by have:=(key v hv).rows; omega,fun v hv r hr=>by have:=(key v hv).row r hr; omega⟩
end Go.Ab
namespace Go.Ab
open Go
set_option maxRecDepth 100000
set_option maxHeartbeats 400000
def PG (q:Nat → List Nat):Gr:=fun v i=>decide (i∈q v)
def FG (q:Nat → List Nat):Gr:=fun v i=>decide (v=i) || decide (i∈q v)
def mgk (q:Nat → List Nat) (k:Nat):Gr:=fun u w=>!decide (u=w) && (List.range k).any fun v=>FG q v u && FG q v w
def mg (n:Nat) (q:Nat → List Nat):Gr:=fun u w=>decide (u < n) && decide (w < n) && mgk q n u w
theorem Qi6 {n:Nat} {F:Nat → Tapi_Node} (hn:n≤8) (h:∀v,v < n→∀p∈Qd F v,p < n):Ze n (setF F)=gl n (PG (Qd F)):=by
 unfold Ze rowG gl
 refine List.map_congr_left fun v hv=>?_
 have hv:=List.mem_range.1 hv
 have:setF F v=msk n (PG (Qd F) v):=Ks (Qlf fun j hj=>h v hv j (by unfold setF at hj; rw [X2] at hj; simpa using hj)) fun i _=>by
  unfold setF PG; rw [X2]; simp
 rw [this]
theorem Qdu {n:Nat} {q:Nat → List Nat}:Y0 n (mg n q):=by
 refine ⟨fun u w=>?_,fun u=>?_,fun u w h=>?_⟩
 ·unfold mg mgk
  rw [Bool.eq_iff_iff]
  simp only [Bool.and_eq_true,Bool.not_eq_true',decide_eq_false_iff_not,List.any_eq_true,decide_eq_true_eq]
  constructor <;> rintro ⟨⟨a,b⟩,c,v,d,e,f⟩ <;> exact ⟨⟨b,a⟩,fun h=>c h.symm,v,d,f,e⟩
 ·unfold mg mgk; simp
 ·unfold mg at h
  simp only [Bool.and_eq_true,decide_eq_true_eq] at h
  exact h.1.1
theorem Qzz {q:Nat → List Nat} {k:Nat}:mgk q (k+1)=fun u w=>mgk q k u w || (!decide (u=w) && (FG q k u && FG q k w)):=by
 funext u w
 unfold mgk
 rw [List.range_succ,List.any_append]
 simp only [List.any_cons,List.any_nil,Bool.or_false]
 cases decide (u=w) <;> simp
theorem Quh {n k:Nat} {q:Nat → List Nat} (hn:n≤10) (hk:k < n):zv (zb ((msk n (PG q k):Nat):Int) ||| zb (zv (1*2^min (Int.toNat (k:Int)) (IntKind.bits .u64)))).toNat = ((msk n (FG q k):Nat):Int):=by
 rw [Qe9 hn hk]
 congr 1
 exact Yn fun i _=>by unfold PG FG; rw [Bool.or_comm]
theorem Q0e {n:Nat} {q:Nat → List Nat} {N:Qc} {C o:List Int} (h1:1≤n) (hn:n≤8):J2 ⟨N,C,gl n (PG q),o⟩=some (gl n (mg n q)):=by
 have inner:∀k,k < n→Qa fuel (Yc ((k:Int),gl n (mgk q k)) ((msk n (PG q k):Nat):Int)) ((0:Int),gl n (mgk q k))=some (gl n (mgk q (k+1))):=fun k hk=>by
  have h:=Zi (n:=n) (k0:=0) (by omega) (by omega) (fun i (t:List Int)=>(i,t)) (body:=Yc ((k:Int),gl n (mgk q k)) ((msk n (PG q k):Nat):Int)) (fun j=>gl n fun u w=>mgk q k u w || (decide (u < j) && (!decide (u=w) && (FG q k u && FG q k w)))) (gl n (mgk q (k+1)))
   (fun j _ hj=>by
    unfold Yc
    dsimp only
    rw [Zd,if_pos (dlt hj),if_pos (Zm j),Quh (by omega) hk,Qgf (Qp7 (by omega) (Zt n _)) (by omega),Y3 j hj]
    by_cases c:FG q k j=true
    ·rw [c,if_pos (by decide),Kz hj,Option.bind_some,if_pos (Zm j),Qsc (by omega) (by omega),Qwr (n:=n) (by omega) (Zt n _) (Zt n _) Y3 Y3,Qi3]
     congr 3
     refine gl_congr fun u w hu hw=>?_
     simp only [upd]
     grind
    ·rw [Bool.not_eq_true] at c
     rw [c,if_neg (by decide)]
     congr 3
     refine gl_congr fun u w hu hw=>?_
     grind)
   (by
    unfold Yc
    dsimp only
    rw [Zd,if_neg (nlt n),Qzz]
    congr 2
    refine gl_congr fun u w hu hw=>?_
    simp [hu])
  have e0:(gl n fun u w=>mgk q k u w || (decide (u < 0) && (!decide (u=w) && (FG q k u && FG q k w))))=gl n (mgk q k):=gl_congr fun u w _ _=>by simp
  simp only [e0] at h
  exact h
 have h:=Zi (n:=n) (k0:=0) (by omega) (by omega) (fun i (t:List Int)=>(i,t)) (body:=Vv ⟨N,C,gl n (PG q),o⟩) (fun k=>gl n (mgk q k)) (gl n (mg n q))
  (fun k _ hk=>by
   unfold Vv
   dsimp only
   rw [Zd,if_pos (dlt hk),Kz hk,Option.bind_some,if_pos (Zm k),inner k hk]; rfl)
  (by
   unfold Vv
   dsimp only
   rw [Zd,if_neg (nlt n)]
   congr 2
   refine gl_congr fun u w hu hw=>?_
   unfold mg; simp [hu,hw])
 have e0:gl n (mgk q 0)=gl n fun _ _=>false:=gl_congr fun u w _ _=>by unfold mgk; simp
 simp only [e0] at h
 unfold J2
 dsimp only
 rw [Zd,if_pos (by omega),Int.toNat_natCast,Qvn]
 rw [show ((0:Nat):Int)=0 from rfl] at h
 rw [h]; rfl
theorem Qix {n v:Nat} {p:Nat → Bool} (hn:n≤10) (hv:v < n):Yg ((msk n p:Nat):Int) (v:Int)=some (p v):=by
 rw [Qr8 (Qp7 hn (Zt n p)) (by omega),Y3 v hv]
theorem Qtz {n:Nat} {L:List Int} (hL:L.length=n) (hn:n≤8):Qa fuel (Jv L) 0=some ():=by
 have h:=Zi (n:=n) (k0:=0) (by omega) (by omega) (fun i (_:Unit)=>i) (body:=Jv L) (fun _=>()) ()
  (fun k _ hk=>by unfold Jv; rw [hL,if_pos (dlt hk)])
  (by unfold Jv; rw [hL,if_neg (nlt n)])
 exact h
theorem Qre {n:Nat} {q:Nat → List Nat} (h1:1≤n) (hn:n≤8) (hq:∀v,v < n→v ∉ q v):Qc7 (gl n (PG q))=some (gl n (mg n q)):=by
 have join:∀a b,a < n→b < n→a≠b→(mg n q a b=true↔PG q a b=true∨PG q b a=true∨∃v,v < n∧PG q v a=true∧PG q v b=true):=fun a b ha hb hne=>by
  unfold mg mgk FG PG
  simp only [ha,hb,Bool.and_eq_true,Bool.not_eq_true',decide_eq_false_iff_not,List.any_eq_true,decide_eq_true_eq,Bool.or_eq_true,List.mem_range,decide_true]
  constructor
  ·rintro ⟨_,_,v,hv,e1,e2⟩
   rcases e1 with e1 | e1 <;> rcases e2 with e2 | e2
   ·omega
   ·subst e1; exact .inl e2
   ·subst e2; exact .inr (.inl e1)
   ·exact .inr (.inr ⟨v,hv,e1,e2⟩)
  ·rintro (h | h | ⟨v,hv,e1,e2⟩)
   ·exact ⟨⟨trivial,trivial⟩,hne,a,ha,.inl rfl,.inr h⟩
   ·exact ⟨⟨trivial,trivial⟩,hne,b,hb,.inr h,.inl rfl⟩
   ·exact ⟨⟨trivial,trivial⟩,hne,v,hv,.inr e1,.inr e2⟩
 have b1:∀(a b:Nat) (X Y:List Int) (x:Bool),a < n→b < n→∃y,Qa fuel (Jt (gl n (PG q)) ((a:Int),X) ((b:Int),Y)) (x,(0:Int))=some y∧(y=true↔x=true∨∃v,v < n∧PG q v a=true∧PG q v b=true):=fun a b X Y x ha hb=>by
  have h:=Jh (n:=n) (k0:=0) (by omega) (by omega) (fun i (t:Bool)=>(t,i)) (body:=Jt (gl n (PG q)) ((a:Int),X) ((b:Int),Y)) (fun k t=>t=true↔x=true∨∃v,v < k∧PG q v a=true∧PG q v b=true) (fun y=>y=true↔x=true∨∃v,v < n∧PG q v a=true∧PG q v b=true)
   (fun k t _ hk hI=>by
    left
    unfold Jt
    dsimp only
    rw [Zd,if_pos (dlt hk)]
    by_cases c:t=true
    ·rw [if_pos c]
     refine ⟨true,rfl,by
      simp only [true_iff]
      rcases hI.1 c with h | ⟨v,hv,h⟩
      ·exact .inl h
      ·exact .inr ⟨v,by omega,h⟩⟩
    ·rw [if_neg c,Kz hk,Option.bind_some,Qix (by omega) ha,Option.bind_some]
     have hno:¬ (x=true∨∃v,v < k∧PG q v a=true∧PG q v b=true):=fun h=>c (hI.2 h)
     have key:(x=true∨∃v,v < k+1∧PG q v a=true∧PG q v b=true)↔PG q k a=true∧PG q k b=true:=by
      constructor
      ·rintro (h | ⟨v,hv,h⟩)
       ·exact absurd (.inl h) hno
       ·by_cases e:v=k
        ·rw [←e]; exact h
        ·exact absurd (.inr ⟨v,by omega,h⟩) hno
      ·intro h; exact .inr ⟨k,by omega,h⟩
     by_cases c2:PG q k a=true
     ·rw [if_pos c2,Qix (by omega) hb,Option.bind_some]
      exact ⟨_,rfl,by rw [key]; simp [c2]⟩
     ·rw [if_neg c2]
      exact ⟨false,rfl,by rw [key]; simp [c2]⟩)
   (fun t hI=>⟨t,by unfold Jt; dsimp only; rw [Zd,if_neg (nlt n)],hI⟩) x (by simp)
  exact h
 have b2:∀a,a < n→Qa fuel (J0 (gl n (PG q)) ((a:Int),gl n fun u w=>decide (u < a) && mg n q u w)) ((0:Int),gl n fun u w=>decide (u < a) && mg n q u w)=some (gl n fun u w=>decide (u < a+1) && mg n q u w):=fun a ha=>by
  have h:=Zi (n:=n) (k0:=0) (by omega) (by omega) (fun i (t:List Int)=>(i,t)) (body:=J0 (gl n (PG q)) ((a:Int),gl n fun u w=>decide (u < a) && mg n q u w)) (fun b=>gl n fun u w=>(decide (u < a) || (decide (u=a) && decide (w < b))) && mg n q u w) (gl n fun u w=>decide (u < a+1) && mg n q u w)
   (fun b _ hb=>by
    have put:mg n q a b=true→gl n (upd (fun u w=>(decide (u < a) || (decide (u=a) && decide (w < b))) && mg n q u w) a fun i=>((decide (a < a) || (decide (a=a) && decide (i < b))) && mg n q a i) || decide (b=i))=gl n fun u w=>(decide (u < a) || (decide (u=a) && decide (w < b+1))) && mg n q u w:=fun hm=>gl_congr fun u w hu hw=>by
     simp only [upd]
     by_cases e:u=a
     ·subst e
      rw [if_pos rfl]
      by_cases e2:b=w
      ·subst e2; simp [hm]
      ·have:(w < b+1)↔w < b:=by omega
       simp [e2,this]
     ·rw [if_neg e]; simp [e]
    have skip:mg n q a b=false→(gl n fun u w=>(decide (u < a) || (decide (u=a) && decide (w < b))) && mg n q u w)=gl n fun u w=>(decide (u < a) || (decide (u=a) && decide (w < b+1))) && mg n q u w:=fun hm=>gl_congr fun u w hu hw=>by
     by_cases e:u=a
     ·subst e
      by_cases e2:b=w
      ·subst e2; simp [hm]
      ·have:(w < b+1)↔w < b:=by omega
       simp [this]
     ·simp [e]
    unfold J0
    dsimp only
    rw [Zd,if_pos (dlt hb),Kz ha,Option.bind_some,Qix (by omega) hb,Option.bind_some]
    have self:mg n q a a=false:=Qdu.irr a
    by_cases c:PG q a b=true
    ·rw [if_pos c,Qtz (Zd _ _) hn,Option.bind_some]
     have hne:a≠b:=fun e=>by subst e; unfold PG at c; exact hq a ha (by simpa using c)
     have hm:=(join a b ha hb hne).2 (.inl c)
     rw [if_pos (by simp; omega),Kz ha,Option.bind_some,X8 (n:=b) (by omega),if_pos (Zm b),Qe9 (by omega) hb,Qi3,put hm]
    ·rw [if_neg c,Kz hb,Option.bind_some,Qix (by omega) ha,Option.bind_some]
     obtain ⟨y,e1,e2⟩:=b1 a b (gl n fun u w=>decide (u < a) && mg n q u w) (gl n fun u w=>(decide (u < a) || (decide (u=a) && decide (w < b))) && mg n q u w) (PG q b a) ha hb
     rw [e1,Option.bind_some]
     by_cases hne:a=b
     ·subst hne
      rw [if_neg (by simp),skip self]
     ·rw [if_pos (by simp; omega)]
      by_cases c2:y=true
      ·have hm:mg n q a b=true:=(join a b ha hb hne).2 (.inr (e2.1 c2))
       rw [if_pos c2,Kz ha,Option.bind_some,X8 (n:=b) (by omega),if_pos (Zm b),Qe9 (by omega) hb,Qi3,put hm]
      ·have hm:mg n q a b=false:=by
        rw [Bool.eq_false_iff]; intro h
        rcases (join a b ha hb hne).1 h with h | h
        ·exact c h
        ·exact c2 (e2.2 h)
       rw [if_neg c2,skip hm])
   (by
    unfold J0
    dsimp only
    rw [Zd,if_neg (nlt n)]
    congr 2
    refine gl_congr fun u w hu hw=>?_
    have:(u < a+1)↔(u < a∨u=a):=by omega
    simp [hw,this])
  have e0:(gl n fun u w=>(decide (u < a) || (decide (u=a) && decide (w < 0))) && mg n q u w)=gl n fun u w=>decide (u < a) && mg n q u w:=gl_congr fun u w _ _=>by simp
  simp only [e0] at h
  exact h
 have h:=Zi (n:=n) (k0:=0) (by omega) (by omega) (fun i (t:List Int)=>(i,t)) (body:=Qao (gl n (PG q))) (fun a=>gl n fun u w=>decide (u < a) && mg n q u w) (gl n (mg n q))
  (fun a _ ha=>by
   unfold Qao
   dsimp only
   rw [Zd,if_pos (dlt ha),b2 a ha]; rfl)
  (by
   unfold Qao
   dsimp only
   rw [Zd,if_neg (nlt n)]
   congr 2
   refine gl_congr fun u w hu hw=>?_
   simp [hu])
 have e0:(gl n fun u w=>decide (u < 0) && mg n q u w)=gl n fun _ _=>false:=gl_congr fun u w _ _=>by simp
 simp only [e0] at h
 unfold Qc7
 rw [Zd,if_pos (by omega),Int.toNat_natCast,Qvn]
 rw [show ((0:Nat):Int)=0 from rfl] at h
 rw [h]; rfl
end Go.Ab
namespace Go.Ab
open Go
set_option maxRecDepth 100000
set_option maxHeartbeats 400000
def setP (A:Gr) (v:Nat):Nat → Bool:=fun i=>A v i || decide (v=i)
def setL (n:Nat):Gr→List Nat → List Nat
 | _,[]=>[]
 | A,v::o=>msk n (setP A v)::setL n (elim A v) o
def Xc (a b:Nat):Bool:=Nat.beq (a &&& b) a
def Qec (acc:List Nat) (s:Nat):List Nat := if acc.any (Xc s) then acc else acc++[s]
def Z8 (l:List Nat):List Nat := l.foldl Qec []
theorem Qe0 {a b:Nat}:Xc a b=true↔Yy a b:=by
 unfold Xc Yy
 rw [Nat.beq_eq]
 constructor
 ·intro h j hj
  rw [←h,Nat.testBit_and,Bool.and_eq_true] at hj
  exact hj.2
 ·intro h
  refine Nat.eq_of_testBit_eq fun j=>?_
  rw [Nat.testBit_and]
  cases ha:a.testBit j with
  | true=>rw [h j ha]; rfl
  | false=>rfl
theorem Qfy {n:Nat}:∀(o:List Nat) (A:Gr) (v:Nat),setL n A (o++[v])=setL n A o++[msk n (setP (seqA A o) v)]
 | [],A,v=>rfl
 | u::o,A,v=>by
  simp only [List.cons_append,setL]
  rw [Qfy o (elim A u) v]; rfl
theorem Vo {n:Nat}:∀(o:List Nat) (A:Gr),(setL n A o).length=o.length
 | [],A=>rfl
 | u::o,A=>by simp only [setL,List.length_cons]; rw [Vo o]
theorem Qm3 {n:Nat}:∀(o:List Nat) (A:Gr),∀s∈setL n A o,s < 2^n
 | [],A,s,h=>by cases h
 | u::o,A,s,h=>by
  simp only [setL,List.mem_cons] at h
  rcases h with h | h
  ·rw [h]; exact Zt n _
  ·exact Qm3 o _ s h
theorem Qgd {l:List Nat} {s:Nat}:Z8 (l++[s])=Qec (Z8 l) s:=by unfold Z8; rw [List.foldl_append]; rfl
theorem Qlb:∀(l acc:List Nat),(l.foldl Qec acc).length≤acc.length+l.length∧∀s∈l.foldl Qec acc,s∈acc∨s∈l
 | [],acc=>⟨by simp,fun s h=>.inl h⟩
 | x::l,acc=>by
  obtain ⟨h1,h2⟩:=Qlb l (Qec acc x)
  have h3:(Qec acc x).length≤acc.length+1∧∀s∈Qec acc x,s∈acc∨s=x:=by
   unfold Qec; split
   ·exact ⟨by omega,fun s h=>.inl h⟩
   ·exact ⟨by simp,fun s h=>by
     rcases List.mem_append.1 h with h | h
     ·exact .inl h
     ·simp at h; exact .inr h⟩
  refine ⟨by simp only [List.foldl_cons,List.length_cons]; omega,fun s hs=>?_⟩
  rcases h2 s hs with h | h
  ·rcases h3.2 s h with h | h
   ·exact .inl h
   ·exact .inr (by simp [h])
  ·exact .inr (List.mem_cons_of_mem _ h)
theorem Qmk {l:List Nat} {s:Nat} (h:s∈Z8 l):s∈l:=by
 rcases (Qlb l []).2 s h with h | h
 ·cases h
 ·exact h
theorem Qlu {l:List Nat}:(Z8 l).length≤l.length:=by have:=(Qlb l []).1; unfold Z8; simpa using this
theorem Qgz {a b:Nat} (ha:a < 18446744073709551616) (hb:b < 18446744073709551616) :
  ((zv (zb (a:Int) &&& ~~~ zb (b:Int)).toNat == 0)=true)↔Xc a b=true:=by rw [Qog ha hb,Qe0]; rfl
theorem Qzu {n k:Nat} {A N:Gr} {o:List Nat} (hn:n≤8) (hG:Y0 n A) (hk:k < o.length) (hl:∀v∈o,v < n) (hnd:o.Nodup) (hN:∀u w,u < n→w < n→u ∉ o.take k→w ∉ o.take k→N u w=seqA A (o.take k) u w) :
  zv (zb (zv (zb ((msk n (N o[k]):Nat):Int) &&& zb ((msk 64 (fun i=>!(o.take k).contains i):Nat):Int)).toNat) ||| zb (zv (1*2^min (Int.toNat ((o[k]:Nat):Int)) (IntKind.bits .u64)))).toNat = ((msk n (setP (seqA A (o.take k)) o[k]):Nat):Int):=by
 have hv:=hl _ (List.getElem_mem hk)
 have hnot:=Qez hnd hk
 rw [Q5b (n:=n) (q:=fun i=>!(o.take k).contains i) (by omega) (Zt n _) (Zt 64 _) Y3 (fun i hi=>by rw [V7]; simp; omega),Qe9 (by omega) hv]
 congr 1
 refine Yn fun i hi=>?_
 unfold setP
 by_cases c:i∈o.take k
 ·have:=Qnu (o:=o.take k) hG (.inl c) o[k]
  rw [(Qfp (o:=o.take k) hG).sym,this]
  simp [c]
 ·rw [hN _ _ hv hi hnot c]
  simp [c]
theorem Qq9 {n:Nat} {A B N:Gr} {v:Nat} {done:Nat → Prop} (hB:∀u w,u < n→w < n→¬ done u→¬ done w→N u w=B u w):∀u w,u < n→w < n→¬ (done u∨u=v)→¬ (done w∨w=v)→(N u w || (setP B v u && (setP B v w && !decide (u=w))))=elim B v u w:=fun u w hu hw h1 h2=>by
 have e:=hB u w hu hw (fun h=>h1 (.inl h)) (fun h=>h2 (.inl h))
 have e1:¬ u=v:=fun h=>h1 (.inr h)
 have e2:¬ w=v:=fun h=>h2 (.inr h)
 unfold setP elim
 rw [e]
 have e1':¬ v=u:=fun h=>e1 h.symm
 have e2':¬ v=w:=fun h=>e2 h.symm
 simp [e1,e2,e1',e2',Bool.and_assoc]
theorem Qwt {n:Nat} {A:Gr} {o:List Nat} (h1:1≤n) (hn:n≤8) (hG:Y0 n A) (hl:∀v∈o,v < n) (hnd:o.Nodup):Jm ⟨⟨gl n A⟩,nI o⟩=some (nI (Z8 (setL n A o))):=by
 have hol:=K9 o (List.range n) hnd fun v hv=>List.mem_range.2 (hl v hv)
 rw [List.length_range] at hol
 have p8:(2:Nat)^n≤256:=Nat.pow_le_pow_right (n:=2) (by omega) hn
 have step:∀(k:Nat) (N:Gr) (hk:k < o.length),(∀u w,u < n→w < n→u ∉ o.take k→w ∉ o.take k→N u w=seqA A (o.take k) u w) →
   X3 ⟨⟨gl n A⟩,nI o⟩ (((msk 64 (fun i=>!(o.take k).contains i):Nat):Int),(k:Int),nI (Z8 (setL n A (o.take k))),gl n N) =
   some (.next (((msk 64 (fun i=>!(o.take (k+1)).contains i):Nat):Int),zw ((k:Int)+1),nI (Z8 (setL n A (o.take (k+1)))),gl n fun u w=>N u w || (setP (seqA A (o.take k)) o[k] u && (setP (seqA A (o.take k)) o[k] w && !decide (u=w))))):=fun k N hk hN=>by
  have hv:=hl _ (List.getElem_mem hk)
  have hnot:=Qez hnd hk
  have hw:=Qzu hn hG hk hl hnd hN
  have hs:msk n (setP (seqA A (o.take k)) o[k]) < 2^n:=Zt n _
  have hacc:∀s∈Z8 (setL n A (o.take k)),s < 2^n:=fun s h=>Qm3 _ _ s (Qmk h)
  have hal:(Z8 (setL n A (o.take k))).length≤8:=by
   have h1:=Qlu (l:=setL n A (o.take k)); rw [Vo,List.length_take] at h1; omega
  have et:setL n A (o.take (k+1))=setL n A (o.take k)++[msk n (setP (seqA A (o.take k)) o[k])]:=by rw [Qt hk,Qfy]
  have eleft:zv (zb ((msk 64 (fun i=>!(o.take k).contains i):Nat):Int) &&& ~~~ zb (zv (1*2^min (Int.toNat ((o[k]:Nat):Int)) (IntKind.bits .u64)))).toNat = ((msk 64 (fun i=>!(o.take (k+1)).contains i):Nat):Int):=by
   rw [Qtt (by omega),Qk3 (n:=64) (Nat.le_refl _) (Zt 64 _) (Qwz (by omega)) Y3 fun i _=>Qmv _ i]
   congr 1
   refine Yn fun i _=>?_
   rw [Qt hk,List.contains_append]
   by_cases e:i=o[k]
   ·subst e; simp
   ·have e':¬ o[k]=i:=fun h=>e h.symm
    simp [e,e']
  have near:∀(X Y:List Int),Qa fuel (Xb (((msk 64 (fun i=>!(o.take k).contains i):Nat):Int),(k:Int),X,gl n N) ((msk n (N o[k]):Nat):Int) ((o[k]:Nat):Int)) ((0:Int),gl n N)=some (gl n fun u w=>N u w || (setP (seqA A (o.take k)) o[k] u && (setP (seqA A (o.take k)) o[k] w && !decide (u=w)))):=fun X Y=>by
   have h:=Zi (n:=n) (k0:=0) (by omega) (by omega) (fun i (t:List Int)=>(i,t)) (body:=Xb (((msk 64 (fun i=>!(o.take k).contains i):Nat):Int),(k:Int),X,gl n N) ((msk n (N o[k]):Nat):Int) ((o[k]:Nat):Int))
    (fun j=>gl n fun u w=>N u w || (decide (u < j) && (setP (seqA A (o.take k)) o[k] u && (setP (seqA A (o.take k)) o[k] w && !decide (u=w))))) (gl n fun u w=>N u w || (setP (seqA A (o.take k)) o[k] u && (setP (seqA A (o.take k)) o[k] w && !decide (u=w))))
    (fun j _ hj=>by
     unfold Xb
     dsimp only
     rw [Zd,if_pos (dlt hj),if_pos (Zm j),hw,Qgf (by omega) (by omega),Y3 j hj]
     by_cases c:setP (seqA A (o.take k)) o[k] j=true
     ·rw [c,if_pos (by decide),Kz hj,Option.bind_some,if_pos (Zm j),Qsc (by omega) (by omega),Qwr (n:=n) (by omega) (Zt n _) (Zt n _) Y3 Y3,Qi3]
      congr 3
      refine gl_congr fun u w hu hw=>?_
      simp only [upd]
      grind
     ·rw [Bool.not_eq_true] at c
      rw [c,if_neg (by decide)]
      congr 3
      refine gl_congr fun u w hu hw=>?_
      grind)
    (by
     unfold Xb
     dsimp only
     rw [Zd,if_neg (nlt n)]
     congr 2
     refine gl_congr fun u w hu hw=>?_
     simp [hu])
   have e0:(gl n fun u w=>N u w || (decide (u < 0) && (setP (seqA A (o.take k)) o[k] u && (setP (seqA A (o.take k)) o[k] w && !decide (u=w)))))=gl n N:=gl_congr fun u w _ _=>by simp
   simp only [e0] at h
   exact h
  have part:∀(Y:List Int),(((Z8 (setL n A (o.take k))).any (Xc (msk n (setP (seqA A (o.take k)) o[k])))=true∧Qa fuel (Zx (((msk 64 (fun i=>!(o.take k).contains i):Nat):Int),(k:Int),nI (Z8 (setL n A (o.take k))),Y) ((msk n (N o[k]):Nat):Int) ((o[k]:Nat):Int)) 0=some (.inl ()))∨((Z8 (setL n A (o.take k))).any (Xc (msk n (setP (seqA A (o.take k)) o[k])))=false∧Qa fuel (Zx (((msk 64 (fun i=>!(o.take k).contains i):Nat):Int),(k:Int),nI (Z8 (setL n A (o.take k))),Y) ((msk n (N o[k]):Nat):Int) ((o[k]:Nat):Int)) 0=some (.inr ()))):=fun Y=>by
   generalize Z8 (setL n A (o.take k))=acc at hacc hal
   have h:=Vd (n:=acc.length) (by omega) (fun j=>∀s,acc[j]?=some s→Xc (msk n (setP (seqA A (o.take k)) o[k])) s=false) (fun i (t:Unit)=>i) (body:=Zx (((msk 64 (fun i=>!(o.take k).contains i):Nat):Int),(k:Int),nI acc,Y) ((msk n (N o[k]):Nat):Int) ((o[k]:Nat):Int)) (fun _=>()) (.inr ()) (.inl ())
    (fun j hj hI hg=>by
     have hsj:=hacc _ (List.getElem_mem hj)
     have:=hg _ (List.getElem?_eq_getElem hj)
     unfold Zx
     dsimp only
     rw [Qg,if_pos (dlt hj),Yw hj,Option.bind_some,hw,if_neg (by rw [Qgz (by omega) (by omega),this]; decide)])
    (fun j hj hI hg=>by
     have hsj:=hacc _ (List.getElem_mem hj)
     unfold Zx
     dsimp only
     rw [Qg,if_pos (dlt hj),Yw hj,Option.bind_some,hw,if_pos (by
      rw [Qgz (by omega) (by omega)]
      rw [←Bool.not_eq_false]
      exact fun h=>hg fun s hs=>by rw [List.getElem?_eq_getElem hj] at hs; cases hs; exact h)])
    (fun hI=>by unfold Zx; dsimp only; rw [Qg,if_neg (nlt _)])
   have hiff:(∀j,j < acc.length→∀s,acc[j]?=some s→Xc (msk n (setP (seqA A (o.take k)) o[k])) s=false)↔acc.any (Xc (msk n (setP (seqA A (o.take k)) o[k])))=false:=by
    rw [List.any_eq_false]
    constructor
    ·intro h s hs
     obtain ⟨j,hj,rfl⟩:=List.mem_iff_getElem.1 hs
     rw [h j hj _ (List.getElem?_eq_getElem hj)]; decide
    ·intro h j hj s hs
     have:=h s (List.mem_of_getElem? hs)
     simpa using this
   rw [hiff] at h
   rcases h with ⟨a,b⟩ | ⟨a,b⟩
   ·exact .inr ⟨a,b⟩
   ·exact .inl ⟨by simpa using a,b⟩
  unfold X3
  dsimp only
  rw [Qg,if_pos (dlt hk),Yw hk,Option.bind_some,Kz hv,Option.bind_some,if_pos (Zm _)]
  rcases part (gl n N) with ⟨a,b⟩ | ⟨a,b⟩
  ·rw [b,Option.bind_some]
   dsimp only
   rw [if_pos (Zm _),near _ [],Option.bind_some,eleft,et,Qgd]
   unfold Qec
   rw [if_pos a]
  ·rw [b,Option.bind_some]
   dsimp only
   rw [if_pos (by rw [List.length_append,Qg]; simp; omega),if_pos (Zm _),show @Qcl=@Xb from rfl,near _ [],Option.bind_some,eleft,et,Qgd,hw]
   unfold Qec
   rw [if_neg (by rw [a]; decide)]
   congr 4
   unfold nI; simp
 have h:=Jh (n:=o.length) (k0:=0) (by omega) (by omega) (fun i (t:Int × List Int × List Int)=>(t.1,i,t.2.1,t.2.2)) (body:=X3 ⟨⟨gl n A⟩,nI o⟩)
  (fun k t=>∃N:Gr,t=(((msk 64 (fun i=>!(o.take k).contains i):Nat):Int),nI (Z8 (setL n A (o.take k))),gl n N)∧∀u w,u < n→w < n→u ∉ o.take k→w ∉ o.take k→N u w=seqA A (o.take k) u w) (fun r=>r=nI (Z8 (setL n A o)))
  (fun k t _ hk hI=>by
   obtain ⟨N,rfl,hN⟩:=hI
   left
   refine ⟨_,step k N hk hN,_,rfl,fun u w hu hw h3 h4=>?_⟩
   rw [Qt hk,List.mem_append,List.mem_singleton] at h3 h4
   rw [Qt hk,Qk4]
   exact Qq9 (A:=A) (done:=fun x=>x∈o.take k) hN u w hu hw h3 h4)
  (fun t hI=>by
   obtain ⟨N,rfl,hN⟩:=hI
   refine ⟨_,?_,rfl⟩
   unfold X3
   dsimp only
   rw [Qg,if_neg (nlt _),List.take_length]) (((msk 64 (fun i=>!(o.take 0).contains i):Nat):Int),nI (Z8 (setL n A (o.take 0))),gl n A) ⟨A,rfl,fun u w _ _ _ _=>rfl⟩
 obtain ⟨r,e1,rfl⟩:=h
 have e0:((msk 64 (fun i=>!(o.take 0).contains i):Nat):Int)=18446744073709551615:=by
  rw [Yn (q:=fun _=>true) fun i _=>by simp,Qvs]; decide
 simp only [e0] at e1
 rw [show ((0:Nat):Int)=0 from rfl] at e1
 unfold Jm
 dsimp only
 rw [Q2o (by rw [Zd]; omega),Option.bind_some]
 rw [show nI (Z8 (setL n A (o.take 0)))=[] from rfl] at e1
 rw [e1]; rfl
end Go.Ab
namespace Go.Ab
open Go
set_option maxRecDepth 100000
set_option maxHeartbeats 400000
theorem Qum {n:Nat} {A:Gr} {o:List Nat} (h1:1≤n) (hn:n≤8) (hG:Y0 n A) (hl:∀v∈o,v < n) (hnd:o.Nodup):Qa fuel (V8 (nI o)) ((0:Int),(0:Int),gl n A,([]:List Int))=some (nI (setL n A o)):=by
 have hol:=K9 o (List.range n) hnd fun v hv=>List.mem_range.2 (hl v hv)
 rw [List.length_range] at hol
 have p8:(2:Nat)^n≤256:=Nat.pow_le_pow_right (n:=2) (by omega) hn
 have step:∀(k:Nat) (N:Gr) (hk:k < o.length),(∀u w,u < n→w < n→u ∉ o.take k→w ∉ o.take k→N u w=seqA A (o.take k) u w) →
   V8 (nI o) (((msk n (fun i=>(o.take k).contains i):Nat):Int),(k:Int),gl n N,nI (setL n A (o.take k))) =
   some (.next (((msk n (fun i=>(o.take (k+1)).contains i):Nat):Int),zw ((k:Int)+1),gl n (fun u w=>N u w || (seqA A (o.take k) o[k] u && (seqA A (o.take k) o[k] w && !decide (u=w)))),nI (setL n A (o.take (k+1))))):=fun k N hk hN=>by
  have hv:=hl _ (List.getElem_mem hk)
  have hnot:=Qez hnd hk
  have har:zv (zb ((msk n (N o[k]):Nat):Int) &&& ~~~ zb ((msk n (fun i=>(o.take k).contains i):Nat):Int)).toNat = ((msk n (seqA A (o.take k) o[k]):Nat):Int):=by
   rw [Qk3 (n:=n) (by omega) (Zt n _) (by have:=Zt n (fun i=>(o.take k).contains i); omega) Y3 Y3]
   congr 1
   refine Yn fun i hi=>?_
   by_cases c:i∈o.take k
   ·have:=Qnu (o:=o.take k) hG (.inl c) o[k]
    rw [(Qfp (o:=o.take k) hG).sym,this]
    simp [c]
   ·rw [hN _ _ hv hi hnot c]
    simp [c]
  have inner:∀(X:List Int) (a:Nat),a < n→Qa fuel (Kg ((a:Int),X) ((msk n (N o[k]):Nat):Int) (((msk n (fun i=>(o.take k).contains i):Nat):Int),(k:Int),gl n N,nI (setL n A (o.take k)))) ((0:Int),gl n fun u w=>N u w || (decide (u < a) && (seqA A (o.take k) o[k] u && (seqA A (o.take k) o[k] w && !decide (u=w))))) =
    some (gl n fun u w=>N u w || (decide (u < a+1) && (seqA A (o.take k) o[k] u && (seqA A (o.take k) o[k] w && !decide (u=w))))):=fun X a ha=>by
   generalize seqA A (o.take k) o[k]=P at har
   have h:=Zi (n:=n) (k0:=0) (by omega) (by omega) (fun i (t:List Int)=>(i,t)) (body:=Kg ((a:Int),X) ((msk n (N o[k]):Nat):Int) (((msk n (fun i=>(o.take k).contains i):Nat):Int),(k:Int),gl n N,nI (setL n A (o.take k))))
    (fun b=>gl n fun u w=>N u w || ((decide (u < a) || (decide (u=a) && decide (w < b))) && (P u && (P w && !decide (u=w))))) (gl n fun u w=>N u w || (decide (u < a+1) && (P u && (P w && !decide (u=w)))))
    (fun b _ hb=>by
     have skip:(P a && (P b && !decide (a=b)))=false→(gl n fun u w=>N u w || ((decide (u < a) || (decide (u=a) && decide (w < b))) && (P u && (P w && !decide (u=w)))))=gl n fun u w=>N u w || ((decide (u < a) || (decide (u=a) && decide (w < b+1))) && (P u && (P w && !decide (u=w)))):=fun hm=>gl_congr fun u w hu hw=>by
      by_cases e:u=a
      ·subst e
       by_cases e2:w=b
       ·subst e2; rw [hm]; simp
       ·have:(w < b+1)↔w < b:=by omega
        simp [this]
      ·simp [e]
     unfold Kg
     dsimp only
     rw [Zd,if_pos (dlt hb)]
     by_cases c1:a=b
     ·subst c1
      rw [if_neg (by simp),skip (by simp)]
     ·rw [if_pos (by simp; omega),har,Qix (by omega) ha,Option.bind_some]
      by_cases c2:P a=true
      ·rw [if_pos c2,Qix (by omega) hb,Option.bind_some]
       by_cases c3:P b=true
       ·rw [if_pos c3,Kz ha,Option.bind_some,X8 (n:=b) (by omega),if_pos (Zm b),Qe9 (by omega) hb,Qi3]
        congr 3
        refine gl_congr fun u w hu hw=>?_
        simp only [upd]
        by_cases e:u=a
        ·subst e
         rw [if_pos rfl]
         by_cases e2:b=w
         ·subst e2; simp [c2,c3,c1]
         ·have:(w < b+1)↔w < b:=by omega
          simp [e2,this]
        ·rw [if_neg e]; simp [e]
       ·rw [if_neg c3,skip (by simp [c3])]
      ·rw [if_neg c2,skip (by simp [c2])])
    (by
     unfold Kg
     dsimp only
     rw [Zd,if_neg (nlt n)]
     congr 2
     refine gl_congr fun u w hu hw=>?_
     have:(u < a+1)↔(u < a∨u=a):=by omega
     simp [hw,this])
   have e0:(gl n fun u w=>N u w || ((decide (u < a) || (decide (u=a) && decide (w < 0))) && (P u && (P w && !decide (u=w)))))=gl n fun u w=>N u w || (decide (u < a) && (P u && (P w && !decide (u=w)))):=gl_congr fun u w _ _=>by simp
   simp only [e0] at h
   exact h
  have outer:Qa fuel (Kd ((msk n (N o[k]):Nat):Int) (((msk n (fun i=>(o.take k).contains i):Nat):Int),(k:Int),gl n N,nI (setL n A (o.take k)))) ((0:Int),gl n N)=some (gl n fun u w=>N u w || (seqA A (o.take k) o[k] u && (seqA A (o.take k) o[k] w && !decide (u=w)))):=by
   have h:=Zi (n:=n) (k0:=0) (by omega) (by omega) (fun i (t:List Int)=>(i,t)) (body:=Kd ((msk n (N o[k]):Nat):Int) (((msk n (fun i=>(o.take k).contains i):Nat):Int),(k:Int),gl n N,nI (setL n A (o.take k))))
    (fun a=>gl n fun u w=>N u w || (decide (u < a) && (seqA A (o.take k) o[k] u && (seqA A (o.take k) o[k] w && !decide (u=w))))) (gl n fun u w=>N u w || (seqA A (o.take k) o[k] u && (seqA A (o.take k) o[k] w && !decide (u=w))))
    (fun a _ ha=>by
     unfold Kd
     dsimp only
     rw [Zd,if_pos (dlt ha),inner _ a ha]; rfl)
    (by
     unfold Kd
     dsimp only
     rw [Zd,if_neg (nlt n)]
     congr 2
     refine gl_congr fun u w hu hw=>?_
     simp [hu])
   have e0:(gl n fun u w=>N u w || (decide (u < 0) && (seqA A (o.take k) o[k] u && (seqA A (o.take k) o[k] w && !decide (u=w)))))=gl n N:=gl_congr fun u w _ _=>by simp
   simp only [e0] at h
   exact h
  unfold V8
  dsimp only
  rw [Qg,if_pos (dlt hk),Yw hk,Option.bind_some,Kz hv,Option.bind_some,X8 (n:=o[k]) (by omega),if_pos (Zm _),if_pos (by rw [List.length_append,Qg,Vo,List.length_take]; simp; omega),outer,Option.bind_some,if_pos (Zm _),har,Qe9 (by omega) hv,Qe9 (by omega) hv]
  congr 2
  refine Prod.ext ?_ (Prod.ext rfl (Prod.ext rfl ?_))
  ·dsimp only
   congr 1
   refine Yn fun i _=>?_
   rw [Qt hk,List.contains_append]
   by_cases e:i=o[k]
   ·subst e; simp
   ·have e':¬ o[k]=i:=fun h=>e h.symm
    simp [e,e']
  ·dsimp only
   rw [Qt hk,Qfy]
   unfold nI setP; simp
 have h:=Jh (n:=o.length) (k0:=0) (by omega) (by omega) (fun i (t:Int × List Int × List Int)=>(t.1,i,t.2.1,t.2.2)) (body:=V8 (nI o))
  (fun k t=>∃N:Gr,t=(((msk n (fun i=>(o.take k).contains i):Nat):Int),gl n N,nI (setL n A (o.take k)))∧∀u w,u < n→w < n→u ∉ o.take k→w ∉ o.take k→N u w=seqA A (o.take k) u w) (fun r=>r=nI (setL n A o))
  (fun k t _ hk hI=>by
   obtain ⟨N,rfl,hN⟩:=hI
   left
   refine ⟨_,step k N hk hN,_,rfl,fun u w hu hw h3 h4=>?_⟩
   rw [Qt hk,List.mem_append,List.mem_singleton] at h3 h4
   rw [Qt hk,Qk4]
   rw [←Qq9 (A:=A) (done:=fun x=>x∈o.take k) hN u w hu hw h3 h4]
   unfold setP
   have e1:¬ o[k]=u:=fun h=>h3 (.inr h.symm)
   have e2:¬ o[k]=w:=fun h=>h4 (.inr h.symm)
   simp [e1,e2])
  (fun t hI=>by
   obtain ⟨N,rfl,hN⟩:=hI
   refine ⟨_,?_,rfl⟩
   unfold V8
   dsimp only
   rw [Qg,if_neg (nlt _),List.take_length]) (((msk n (fun i=>(o.take 0).contains i):Nat):Int),gl n A,nI (setL n A (o.take 0))) ⟨A,rfl,fun u w _ _ _ _=>rfl⟩
 obtain ⟨r,e1,rfl⟩:=h
 have e0:((msk n (fun i=>(o.take 0).contains i):Nat):Int)=0:=by
  rw [Yn (q:=fun _=>false) fun i _=>by simp]
  have:msk n (fun _=>false)=0:=(Ks (by have:=Nat.two_pow_pos n; omega) fun i _=>by simp).symm
  rw [this]; rfl
 simp only [e0] at e1
 rw [show ((0:Nat):Int)=0 from rfl] at e1
 rw [show nI (setL n A (o.take 0))=[] from rfl] at e1
 exact e1
theorem Qpb {a b c:Nat} (h:Xc a b=true) (k:Xc b c=true):Xc a c=true:=Qe0.2 ((Qe0.1 h).trans (Qe0.1 k))
theorem Qyx {a:Nat}:Xc a a=true:=Qe0.2 .refl
theorem Qjt {l:List Nat}:∀k,k≤l.length→∀s∈l.take k,∃e∈Z8 (l.take k),Xc s e=true:=by
 intro k
 induction k with
 | zero=>intro _ s h; simp at h
 | succ k ih =>
  intro hk s hs
  rw [Qt (by omega)] at hs ⊢
  rw [Qgd]
  have up:∀e∈Z8 (l.take k),e∈Qec (Z8 (l.take k)) l[k]:=fun e he=>by
   unfold Qec; split
   ·exact he
   ·exact List.mem_append_left _ he
  rcases List.mem_append.1 hs with h | h
  ·obtain ⟨e,h1,h2⟩:=ih (by omega) s h
   exact ⟨e,up e h1,h2⟩
  ·simp only [List.mem_singleton] at h
   subst h
   unfold Qec
   by_cases c:(Z8 (l.take k)).any (Xc l[k])=true
   ·rw [if_pos c]
    obtain ⟨e,h1,h2⟩:=List.any_eq_true.1 c
    exact ⟨e,h1,h2⟩
   ·rw [if_neg c]
    exact ⟨l[k],by simp,Qyx⟩
theorem Qz6 {l:List Nat} (hl:l.length≤1000) (h:∀s∈l,s < 18446744073709551616):Qa fuel (Kr (nI l)) ((0:Int),([]:List Int))=some (nI (Z8 l)):=by
 have inner:∀(i:Nat) (hi:i < l.length) (Y:List Int),Qa fuel (Ke ((i:Int),Y) (nI l)) (false,(0:Int))=some ((Z8 (l.take i)).any (Xc l[i])):=fun i hi Y=>by
  have e1:(Z8 (l.take i)).any (Xc l[i])=(l.take i).any (Xc l[i]):=by
   rw [Bool.eq_iff_iff,List.any_eq_true,List.any_eq_true]
   constructor
   ·rintro ⟨e,h1,h2⟩; exact ⟨e,Qmk h1,h2⟩
   ·rintro ⟨e,h1,h2⟩
    obtain ⟨f,h3,h4⟩:=Qjt i (by omega) e h1
    exact ⟨f,h3,Qpb h2 h4⟩
  rw [e1]
  have hr:=Zi (n:=i) (k0:=0) (by omega) (by omega) (fun j (t:Bool)=>(t,j)) (body:=Ke ((i:Int),Y) (nI l)) (fun j=>(l.take j).any (Xc l[i])) ((l.take i).any (Xc l[i]))
   (fun j _ hj=>by
    have e2:(l.take (j+1)).any (Xc l[i])=((l.take j).any (Xc l[i]) || Xc l[i] l[j]):=by rw [Qt (by omega),List.any_append]; simp
    unfold Ke
    dsimp only
    rw [if_pos (dlt hj)]
    by_cases c:(l.take j).any (Xc l[i])=true
    ·rw [if_pos c,e2,c]; rfl
    ·rw [if_neg c,Yw hi,Option.bind_some,Yw (by omega),Option.bind_some,e2]
     have hc:(l.take j).any (Xc l[i])=false:=by simpa using c
     rw [hc,Bool.false_or]
     have hw:=Qgz (h _ (List.getElem_mem hi)) (h _ (List.getElem_mem (show j < l.length by omega)))
     congr 4
     rw [Bool.eq_iff_iff]
     exact hw)
   (by unfold Ke; dsimp only; rw [if_neg (nlt i)])
  exact hr
 have hr:=Zi (n:=l.length) (k0:=0) (by omega) (by omega) (fun i (t:List Int)=>(i,t)) (body:=Kr (nI l)) (fun k=>nI (Z8 (l.take k))) (nI (Z8 l))
  (fun k _ hk=>by
   unfold Kr
   dsimp only
   rw [Qg,if_pos (dlt hk),inner k hk,Option.bind_some,Qt hk,Qgd]
   unfold Qec
   by_cases c:(Z8 (l.take k)).any (Xc l[k])=true
   ·rw [if_neg (by rw [c]; decide),if_pos c]
   ·rw [Bool.not_eq_true] at c
    rw [if_pos (by rw [c]; decide),if_neg (by rw [c]; decide),Yw hk,Option.bind_some,if_pos (by
     have h1:=Qlu (l:=l.take k)
     rw [List.length_take] at h1
     rw [List.length_append,Qg]; simp; omega)]
    congr 3
    unfold nI; simp)
  (by unfold Kr; dsimp only; rw [Qg,if_neg (nlt _),List.take_length])
 exact hr
end Go.Ab
namespace Go.Ab
open Go
set_option maxRecDepth 100000
set_option maxHeartbeats 400000
theorem Qp8 {α:Type} {j:Nat}:∀(m l:List α) (i:Nat),(ovr l i m)[j]?=if i≤j∧j < i+m.length∧j < l.length then m[j - i]? else l[j]?
 | [],l,i=>by
  simp only [ovr,List.length_nil]
  rw [if_neg (by omega)]
 | y::ys,l,i=>by
  simp only [ovr,List.length_cons]
  rw [Qp8 ys (l.set i y) (i+1),List.length_set]
  by_cases c:i+1≤j∧j < i+1+ys.length∧j < l.length
  ·rw [if_pos c,if_pos (by omega),show j - i=(j - (i+1))+1 by omega,List.getElem?_cons_succ]
  ·rw [if_neg c]
   by_cases e:i=j
   ·subst e
    rw [List.getElem?_set]
    simp only [if_true]
    by_cases c2:i < l.length
    ·rw [if_pos c2,if_pos (by omega),Nat.sub_self]; rfl
    ·rw [if_neg c2,if_neg (by omega),List.getElem?_eq_none (by omega)]
   ·rw [List.getElem?_set,if_neg e,if_neg (by omega)]
theorem Q4r {α:Type} {l:List α} {i:Nat} {z:α} (hi:i < l.length):List.take (i+(l.drop (i+1)).length) (ovr (ovr l i (l.drop (i+1))) (i+(l.drop (i+1)).length) (List.replicate (l.length - (i+(l.drop (i+1)).length)) z))=l.eraseIdx i:=by
 have hm:(l.drop (i+1)).length=l.length - (i+1):=List.length_drop
 apply List.ext_getElem?
 intro j
 rw [List.getElem?_take,Qp8,Qp8,List.getElem?_eraseIdx,hm,List.length_replicate,←Ka]
 by_cases c:j < i
 ·rw [if_pos (by omega),if_neg (by omega),if_neg (by omega),if_pos c]
 ·by_cases c2:j < i+(l.length - (i+1))
  ·rw [if_pos c2,if_neg (by omega),if_pos (by omega),if_neg c,List.getElem?_drop,show i+1+(j - i)=j+1 by omega]
  ·rw [if_neg c2,if_neg c,List.getElem?_eq_none (by omega)]
def pc (n a:Nat):Nat := cnt n a.testBit
theorem Q12 {n a:Nat} (hn:n≤10) (ha:a < 2^n):Zv (a:Int)=some (pc n a:Int):=by
 have:a=msk n a.testBit:=Ks ha fun _ _=>rfl
 conv=>lhs; rw [this]
 exact Qy9 hn _
theorem Qsq {a b:Nat} (ha:a < 18446744073709551616) (hb:b < 18446744073709551616):zv (zb (a:Int) &&& zb (b:Int)).toNat = ((a &&& b:Nat):Int):=by
 have hl:a &&& b≤a:=Nat.and_le_left
 rw [BitVec.toNat_and,J1 ha,J1 hb,X8 (by omega)]
theorem Qsx {n a b:Nat} (ha:a < 2^n):a &&& b < 2^n:=Nat.lt_of_le_of_lt Nat.and_le_left ha
def com (n:Nat) (cl:List Nat) (s:Nat):Nat := cl.foldl (fun m c=>max m (pc n (c &&& s))) 0
theorem Qdl {n:Nat} {cl:List Nat} {c s:Nat}:com n (cl++[c]) s=max (com n cl s) (pc n (c &&& s)):=by unfold com; rw [List.foldl_append]; rfl
theorem Q2v {n:Nat} {cl:List Nat} {s:Nat} (hn:n≤8) (hc:∀c∈cl,c < 2^n) (hs:s < 2^n) (hl:cl.length≤1000):Qfe (nI cl) (s:Int)=some (com n cl s:Int):=by
 have p8:(2:Nat)^n≤256:=Nat.pow_le_pow_right (n:=2) (by omega) hn
 have h:=Zi (n:=cl.length) (k0:=0) (by omega) (by omega) (fun i (t:Int)=>(t,i)) (body:=Qb5 (nI cl) (s:Int)) (fun k=>(com n (cl.take k) s:Int)) (com n cl s:Int)
  (fun k _ hk=>by
   have h1:=hc _ (List.getElem_mem hk)
   unfold Qb5
   dsimp only
   rw [Qg,if_pos (dlt hk),Yw hk,Option.bind_some,Qsq (by omega) (by omega),Q12 (by omega) (Qsx h1),Option.bind_some,Q3x,Qt hk,Qdl])
  (by unfold Qb5; dsimp only; rw [Qg,if_neg (nlt _),List.take_length])
 unfold Qfe
 rw [show ((0:Nat):Int)=0 from rfl,List.take_zero] at h
 rw [show (com n [] s:Int)=0 from rfl] at h
 rw [h]; rfl
theorem Q3w {n:Nat} {s:Nat}:∀(cl:List Nat) (k:Nat) (hk:k < cl.length),pc n (cl[k] &&& s)≤com n cl s:=by
 intro cl
 have key:∀j,j≤cl.length→∀k (hk:k < cl.length),k < j→pc n (cl[k] &&& s)≤com n (cl.take j) s:=by
  intro j
  induction j with
  | zero=>intro _ k _ h; omega
  | succ j ih =>
   intro hj k hk hkj
   rw [Qt (by omega),Qdl]
   by_cases e:k=j
   ·subst e; omega
   ·have:=ih (by omega) k hk (by omega); omega
 intro k hk
 have:=key cl.length (Nat.le_refl _) k hk hk
 rwa [List.take_length] at this
theorem Q34 {n:Nat} {s:Nat} {cl:List Nat} (hc:0 < cl.length):∃k,∃hk:k < cl.length,pc n (cl[k] &&& s)=com n cl s:=by
 have key:∀j,j < cl.length→∃k,∃hk:k < cl.length,k≤j∧pc n (cl[k] &&& s)=com n (cl.take (j+1)) s:=by
  intro j
  induction j with
  | zero =>
   intro hj
   refine ⟨0,hj,Nat.le_refl _,?_⟩
   rw [Qt hj,Qdl,List.take_zero]
   show _=max 0 _
   omega
  | succ j ih =>
   intro hj
   obtain ⟨k,hk,hkj,e⟩:=ih (by omega)
   rw [Qt hj,Qdl,←e]
   by_cases c:pc n (cl[k] &&& s)≤pc n (cl[j+1] &&& s)
   ·exact ⟨j+1,hj,Nat.le_refl _,by omega⟩
   ·exact ⟨k,hk,by omega,by omega⟩
 obtain ⟨k,hk,_,e⟩:=key (cl.length - 1) (by omega)
 rw [show cl.length - 1+1=cl.length by omega,List.take_length] at e
 exact ⟨k,hk,e⟩
def Yx (n:Nat) (cl left:List Nat):Nat → Nat × Int
 | 0=>(0,-1)
 | k+1=>if (Yx n cl left k).2≤(com n cl (left.getD k 0):Int) then (k,(com n cl (left.getD k 0):Int)) else Yx n cl left k
def pickI (n:Nat) (cl left:List Nat):Nat := (Yx n cl left left.length).1
theorem Qn7 {n:Nat} {cl left:List Nat}:∀k,(Yx n cl left k).1 < k+1∧(0 < k→(Yx n cl left k).1 < k∧(Yx n cl left k).2=(com n cl (left.getD (Yx n cl left k).1 0):Int))
 | 0=>⟨by simp [Yx],fun h=>by omega⟩
 | k+1=>by
  obtain ⟨h1,h2⟩:=Qn7 (n:=n) (cl:=cl) (left:=left) k
  simp only [Yx]
  split
  ·exact ⟨by simp only; omega,fun _=>⟨by simp only; omega,rfl⟩⟩
  ·rename_i hc
   refine ⟨by omega,fun _=>⟨by omega,?_⟩⟩
   by_cases e:k=0
   ·subst e
    exfalso
    apply hc
    simp only [Yx]; omega
   ·exact (h2 (by omega)).2
def upI (n:Nat) (cl:List Nat) (s:Nat):Nat := cl.findIdx fun c=>Nat.beq (pc n (c &&& s)) (com n cl s)
def bld (n:Nat):Nat → List Nat → List Nat → List Nat → List Nat × List Nat
 | 0,_,cl,up=>(cl,up)
 | k+1,left,cl,up=>bld n k (left.eraseIdx (pickI n cl left)) (cl++[left.getD (pickI n cl left) 0]) (up++[upI n cl (left.getD (pickI n cl left) 0)])
theorem Qsl {n:Nat} {cl:List Nat} {s:Nat} (hc:0 < cl.length):upI n cl s < cl.length:=by
 obtain ⟨k,hk,e⟩:=Q34 (n:=n) (s:=s) hc
 unfold upI
 rw [List.findIdx_lt_length]
 exact ⟨_,List.getElem_mem hk,by rw [e]; simp⟩
theorem Q22 {n:Nat} {cl:List Nat} {s:Nat} {x:Int × Int} {X Y:List Int} (hn:n≤8) (hc:∀c∈cl,c < 2^n) (hs:s < 2^n) (hl:cl.length≤1000) (h0:0 < cl.length) (hx:x.2=(com n cl s:Int)) :
  Qa fuel (Kf (X,nI cl,Y) (s:Int) x) 0=some (.inl (upI n cl s:Int)):=by
 have p8:(2:Nat)^n≤256:=Nat.pow_le_pow_right (n:=2) (by omega) hn
 have hu:=Qsl (n:=n) (s:=s) h0
 have hstep:∀k (hk:k < cl.length),Kf (X,nI cl,Y) (s:Int) x (k:Int)=some (if Nat.beq (pc n (cl[k] &&& s)) (com n cl s)=true then .done (.inl (k:Int)) else .next (zw ((k:Int)+1))):=fun k hk=>by
  have h1:=hc _ (List.getElem_mem hk)
  unfold Kf
  dsimp only
  rw [Qg,if_pos (dlt hk),Yw hk,Option.bind_some,Qsq (by omega) (by omega),Q12 (by omega) (Qsx h1),Option.bind_some,hx]
  by_cases c:pc n (cl[k] &&& s)=com n cl s
  ·rw [if_pos (by simp [c]),if_pos (by simp [c])]
  ·rw [if_neg (by simp; omega),if_neg (by simpa using c)]
 have h:=Jh (n:=upI n cl s+1) (k0:=0) (by omega) (by omega) (fun i (_:Unit)=>i) (body:=Kf (X,nI cl,Y) (s:Int) x) (fun k _=>k≤upI n cl s) (fun r=>r=.inl (upI n cl s:Int))
  (fun k _ _ hk _=>by
   by_cases e:k=upI n cl s
   ·right
    refine ⟨.inl (k:Int),?_,by rw [e]⟩
    rw [hstep k (by omega),if_pos (by
     have:=List.findIdx_getElem (w:=hu)
     unfold upI at e
     subst e; exact this)]
   ·left
    refine ⟨(),?_,by omega⟩
    rw [hstep k (by omega),if_neg (by
     have:=List.not_of_lt_findIdx (show k < cl.findIdx (fun c=>Nat.beq (pc n (c &&& s)) (com n cl s)) by unfold upI at hk e; omega)
     intro h
     rw [h] at this; cases this)])
  (fun _ hI=>by omega) () (by omega)
 obtain ⟨r,e1,rfl⟩:=h
 exact e1
theorem Qyu {n:Nat} {cl left:List Nat} {Y:List Int} (hn:n≤8) (hc:∀c∈cl,c < 2^n) (hs:∀s∈left,s < 2^n) (hl:cl.length≤1000) (hl2:left.length≤1000) :
  Qa fuel (Kl (nI left,nI cl,Y)) ((0:Int),(0:Int),(-1:Int))=some (((pickI n cl left:Nat):Int),(Yx n cl left left.length).2):=by
 have h:=Zi (n:=left.length) (k0:=0) (by omega) (by omega) (fun i (t:Int × Int)=>(t.1,i,t.2)) (body:=Kl (nI left,nI cl,Y)) (fun k=>(((Yx n cl left k).1:Int),(Yx n cl left k).2)) (((pickI n cl left:Nat):Int),(Yx n cl left left.length).2)
  (fun k _ hk=>by
   have h1:=hs _ (List.getElem_mem hk)
   have e:left.getD k 0=left[k]:=by simp [List.getD,hk]
   unfold Kl
   dsimp only
   rw [Qg,if_pos (dlt hk),Yw hk,Option.bind_some,Q2v hn hc h1 hl,Option.bind_some]
   simp only [Yx,e]
   by_cases c:(Yx n cl left k).2≤(com n cl left[k]:Int)
   ·rw [if_pos (by simpa using c),if_pos c]
   ·rw [if_neg (by simpa using c),if_neg c])
  (by unfold Kl; dsimp only; rw [Qg,if_neg (nlt _)]; rfl)
 exact h
theorem Qrj {a b:List Nat}:nI a++nI b=nI (a++b):=by unfold nI; rw [List.map_append]
theorem Q0u {l:List Nat} {i:Nat}:(nI l).eraseIdx i=nI (l.eraseIdx i):=by unfold nI; rw [List.eraseIdx_eq_take_drop_succ,List.eraseIdx_eq_take_drop_succ,List.map_append,List.map_take,List.map_drop]
theorem Qoq {n:Nat} (hn:n≤8):∀(k N:Nat) (left cl up:List Nat),left.length=k→k < N→(∀c∈cl,c < 2^n)→(∀s∈left,s < 2^n)→0 < cl.length→cl.length+k≤500→up.length≤cl.length →
  Qa N Jb (nI left,nI cl,(-1:Int)::nI up)=some (nI (bld n k left cl up).1,(-1:Int)::nI (bld n k left cl up).2)
 | 0,N,left,cl,up,hk,hN,hc,hs,h0,hl,hu=>by
  obtain ⟨N,rfl⟩:∃M,N=M+1:=⟨N - 1,by omega⟩
  have hb:Jb (nI left,nI cl,(-1:Int)::nI up)=some (.done (nI cl,(-1:Int)::nI up)):=by
   unfold Jb
   dsimp only
   rw [Qg,hk,if_neg (by decide)]
  simp only [Qa,hb,bld]
 | k+1,N,left,cl,up,hk,hN,hc,hs,h0,hl,hu=>by
  obtain ⟨N,rfl⟩:∃M,N=M+1:=⟨N - 1,by omega⟩
  obtain ⟨_,hp⟩:=Qn7 (n:=n) (cl:=cl) (left:=left) left.length
  obtain ⟨hp1,hp2⟩:=hp (by omega)
  have hi:pickI n cl left < left.length:=hp1
  have ei:left.getD (pickI n cl left) 0=left[pickI n cl left]:=by simp [List.getD,hi]
  have hsi:=hs _ (List.getElem_mem hi)
  have hne:¬ (((pickI n cl left:Nat):Int)==((pickI n cl left+1:Nat):Int))=true:=by simp; omega
  have hsub:sub (nI left) ((pickI n cl left+1:Nat):Int) (left.length:Int)=(nI left).drop (pickI n cl left+1):=by
   unfold sub
   rw [Int.toNat_natCast,Int.toNat_natCast,List.take_of_length_le (by rw [List.length_drop,Qg]; omega)]
  have hdl:((nI left).drop (pickI n cl left+1)).length=left.length - (pickI n cl left+1):=by rw [List.length_drop,Qg]
  have hdel:=Q4r (l:=nI left) (i:=pickI n cl left) (z:=(0:Int)) (by rw [Qg]; exact hi)
  rw [Qg] at hdel
  have hb:Jb (nI left,nI cl,(-1:Int)::nI up)=some (.next (nI (left.eraseIdx (pickI n cl left)),nI (cl++[left.getD (pickI n cl left) 0]),(-1:Int)::nI (up++[upI n cl (left.getD (pickI n cl left) 0)]))):=by
   unfold Jb
   dsimp only
   rw [Qg,if_pos (by simp; omega),Qyu hn hc hs (by omega) (by omega),Option.bind_some]
   dsimp only
   rw [Yw hi,Option.bind_some,Q22 hn hc hsi (by omega) h0 (by rw [←ei]; exact hp2),Option.bind_some]
   dsimp only
   rw [if_pos (by rw [List.length_append,Qg]; simp; omega),if_pos (by rw [List.length_append,List.length_cons,Qg]; simp; omega),Qom (by omega),if_pos (by omega),if_neg hne,if_pos (by omega),if_pos (by omega)]
   simp only [Int.toNat_natCast,Int.toNat_zero,Nat.sub_zero,hsub,hdl]
   rw [if_pos (by omega),if_pos (by rw [←Ka,Qg]; omega),if_pos (by rw [←Ka,Qg]; omega)]
   rw [hdl] at hdel
   rw [hdel,Q0u,ei]
   congr 3
   all_goals (unfold nI; simp)
  have ih:=Qoq hn k N (left.eraseIdx (pickI n cl left)) (cl++[left.getD (pickI n cl left) 0]) (up++[upI n cl (left.getD (pickI n cl left) 0)]) (by rw [List.length_eraseIdx,if_pos hi]; omega) (by omega)
   (fun c h=>by
    rcases List.mem_append.1 h with h | h
    ·exact hc c h
    ·simp only [List.mem_singleton] at h; rw [h,ei]; exact hsi) (fun s h=>hs s (List.mem_of_mem_eraseIdx h)) (by simp) (by simp; omega) (by simp; omega)
  simp only [Qa,hb,bld]
  exact ih
end Go.Ab
namespace Go.Ab
open Go
set_option maxRecDepth 100000
set_option maxHeartbeats 400000
theorem Q07 (p0:Qc):Z5 p0=(Qae p0).bind fun x=>if x.2=0 then (Qa fuel (Yb x.1.sets) (0,x.1.sets)).bind fun y=>some (y,0) else some ([],50):=by
 unfold Z5 Qae
 have e0:@Qcs=@Ye:=rfl
 have e2:@Qcu=@Yf:=rfl
 rw [e0,e2]
 have h50:¬ ((50:Int)=0):=by decide
 by_cases c1:decide (p0.Grain < 1)=true
 ·rw [if_pos c1,if_pos c1]; rfl
 rw [if_neg c1,if_neg c1]
 by_cases c2:decide (p0.Grain > 60)=true
 ·rw [if_pos c2,if_pos c2]; rfl
 rw [if_neg c2,if_neg c2]
 by_cases c3:decide ((p0.Nodes.length:Int) < 1)=true
 ·rw [if_pos c3,if_pos c3]; rfl
 rw [if_neg c3,if_neg c3]
 by_cases c4:decide ((p0.Nodes.length:Int) > 8)=true
 ·rw [if_pos c4,if_pos c4]; rfl
 rw [if_neg c4,if_neg c4]
 by_cases c5:0≤(p0.Nodes.length:Int)∧(p0.Nodes.length:Int)≤(p0.Nodes.length:Int)∧(p0.Nodes.length:Int)*8≤140737488355328
 ·rw [if_pos c5,if_pos c5,if_pos c5,if_pos c5]
  cases Qa fuel (Ye p0) (1,0,List.replicate (Int.toNat (p0.Nodes.length:Int)) (0:Int)) with
  | none=>rfl
  | some x =>
   cases x with
   | inl u=>rfl
   | inr x23 =>
    simp only [Option.bind_some]
    by_cases c6:decide (x23.1 > 1024)=true
    ·rw [if_pos c6,if_pos c6]; rfl
    rw [if_neg c6,if_neg c6]
    cases Qa fuel (Yf p0 x23) (0,List.replicate (Int.toNat (p0.Nodes.length:Int)) (0:Int)) with
    | none=>rfl
    | some y =>
     cases y with
     | inl u=>rfl
     | inr x54 =>
      simp only [Option.bind_some]
      cases Ya x54 with
      | none=>rfl
      | some z =>
       simp only [Option.bind_some]
       by_cases c7:(!z.2)=true
       ·rw [if_pos c7,if_pos c7]; rfl
       ·rw [if_neg c7,if_neg c7]; rfl
 ·rw [if_neg c5,if_neg c5]; rfl
theorem Qz5 {n:Nat} {g:Int} {F:Nat → Tapi_Node} (hb:NB n F) (hbig:n≤1000000) :
  (Qah n g F∧Z5 ⟨g,rowG n F⟩=some (gl n (FG (Qd F)),0))∨(¬ Qah n g F∧Z5 ⟨g,rowG n F⟩=some ([],50)):=by
 rw [Q07]
 rcases Qrs (g:=g) hb hbig with ⟨hf,o,e⟩ | ⟨hf,e⟩
 ·left
  refine ⟨hf,?_⟩
  have hn:=hf.n8
  have hpar:=fun v hv=>(Vn (hf.node v hv).1.1).2.2
  rw [e,Option.bind_some]
  dsimp only
  rw [if_pos rfl,Qi6 hn hpar]
  have h:=Zi (n:=n) (k0:=0) (by omega) (by omega) (fun i (t:List Int)=>(i,t)) (body:=Yb (gl n (PG (Qd F)))) (fun k=>gl n fun u w=>if u < k then FG (Qd F) u w else PG (Qd F) u w) (gl n (FG (Qd F)))
   (fun k _ hk=>by
    unfold Yb
    dsimp only
    rw [Zd,if_pos (dlt hk),Kz hk,Option.bind_some,if_pos (Zm k),Qe9 (by omega) hk,Qi3]
    congr 3
    refine gl_congr fun u w hu hw=>?_
    simp only [upd]
    by_cases c:u=k
    ·subst c
     rw [if_pos rfl,if_neg (by omega),if_pos (by omega)]
     unfold FG PG; rw [Bool.or_comm]
    ·rw [if_neg c]
     by_cases c2:u < k
     ·rw [if_pos c2,if_pos (by omega)]
     ·rw [if_neg c2,if_neg (by omega)])
   (by
    unfold Yb
    dsimp only
    rw [Zd,if_neg (nlt n)]
    congr 2
    exact gl_congr fun u w hu hw=>by rw [if_pos hu])
  have e0:(gl n fun u w=>if u < 0 then FG (Qd F) u w else PG (Qd F) u w)=gl n (PG (Qd F)):=gl_congr fun u w _ _=>if_neg (by omega)
  simp only [e0] at h
  rw [show ((0:Nat):Int)=0 from rfl] at h
  rw [h]; rfl
 ·right
  refine ⟨hf,?_⟩
  rw [e]; rfl
theorem Qps {n:Nat} {g:Int} {F:Nat → Tapi_Node} (hb:NB n F) (hf:Qah n g F):Qcz ⟨g,rowG n F⟩=some (gl n (mg n (Qd F)),0):=by
 have hn:=hf.n8
 have hpar:=fun v hv=>(Vn (hf.node v hv).1.1).2.2
 rcases Qrs (g:=g) hb (by omega) with ⟨_,o,e⟩ | ⟨no,_⟩
 ·unfold Qcz
  rw [e,Option.bind_some,if_neg (by simp)]
  dsimp only
  rw [Qi6 hn hpar,Q0e hf.n1 hn]; rfl
 ·exact absurd hf no
theorem Qrh {n:Nat}:∀(o:List Nat) (A:Gr) (K:Nat → Bool),(∃i,i < n∧K i=true)→(∀i,K i=true→i∈o)→(∀a b,K a=true→K b=true→a≠b→A a b=true)→∃s∈setL n A o,Xc (msk n K) s=true
 | [],A,K,⟨i,_,hi⟩,ho,_=>by have:=ho i hi; cases this
 | v::o,A,K,hne,ho,hK=>by
  simp only [setL]
  by_cases c:K v=true
  ·refine ⟨_,List.mem_cons_self ..,Qe0.2 fun j hj=>?_⟩
   rw [V7] at hj ⊢
   simp only [Bool.and_eq_true,decide_eq_true_eq] at hj ⊢
   refine ⟨hj.1,?_⟩
   unfold setP
   by_cases e:v=j
   ·simp [e]
   ·rw [hK v j c hj.2 e]; rfl
  ·obtain ⟨s,h1,h2⟩:=Qrh o (elim A v) K hne (fun i hi=>by
    have:=ho i hi
    rcases List.mem_cons.1 this with e | e
    ·subst e; exact absurd hi c
    ·exact e) fun a b ha hb hne=>by
    have e1:¬ a=v:=fun e=>by subst e; exact c ha
    have e2:¬ b=v:=fun e=>by subst e; exact c hb
    unfold elim
    simp [hK a b ha hb hne,e1,e2]
   exact ⟨s,List.mem_cons_of_mem _ h1,h2⟩
theorem Qv0 {n:Nat}:∀(k:Nat) (left cl up:List Nat),left.length=k→(∀s,(s∈cl∨s∈left)↔s∈(bld n k left cl up).1)∧(bld n k left cl up).1.length=cl.length+k∧(bld n k left cl up).2.length=up.length+k
 | 0,left,cl,up,hk=>by
  have:left=[]:=List.length_eq_zero_iff.1 hk
  subst this
  simp [bld]
 | k+1,left,cl,up,hk=>by
  obtain ⟨_,hp⟩:=Qn7 (n:=n) (cl:=cl) (left:=left) left.length
  have hi:pickI n cl left < left.length:=(hp (by omega)).1
  have ei:left.getD (pickI n cl left) 0=left[pickI n cl left]:=by simp [List.getD,hi]
  obtain ⟨h1,h2,h3⟩:=Qv0 k (left.eraseIdx (pickI n cl left)) (cl++[left.getD (pickI n cl left) 0]) (up++[upI n cl (left.getD (pickI n cl left) 0)]) (by rw [List.length_eraseIdx,if_pos hi]; omega)
  simp only [bld]
  refine ⟨fun s=>?_,by rw [h2]; simp; omega,by rw [h3]; simp; omega⟩
  rw [←h1 s,ei,List.mem_append,List.mem_singleton]
  have hm:s∈left↔s=left[pickI n cl left]∨s∈left.eraseIdx (pickI n cl left):=by
   constructor
   ·intro h
    obtain ⟨j,hj,rfl⟩:=List.mem_iff_getElem.1 h
    by_cases e:j=pickI n cl left
    ·subst e; exact .inl rfl
    ·exact .inr (List.mem_eraseIdx_iff_getElem.2 ⟨j,hj,e,rfl⟩)
   ·rintro (h | h)
    ·rw [h]; exact List.getElem_mem hi
    ·exact List.mem_of_mem_eraseIdx h
  rw [hm]
  constructor
  ·rintro (h | h | h)
   ·exact .inl (.inl h)
   ·exact .inl (.inr h)
   ·exact .inr h
  ·rintro ((h | h) | h)
   ·exact .inl h
   ·exact .inr (.inl h)
   ·exact .inr (.inr h)
def mkK (n:Nat) (A:Gr) (o:List Nat):List Nat := Z8 (setL n A o)
def mkB (n:Nat) (A:Gr) (o:List Nat):List Nat × List Nat := bld n ((mkK n A o).length - 1) ((mkK n A o).take ((mkK n A o).length - 1)) [(mkK n A o).getD ((mkK n A o).length - 1) 0] []
def homeI (cl:List Nat) (f:Nat):Nat := cl.findIdx (Xc f)
def mkT (n:Nat) (q:Nat → List Nat) (o:List Nat):Qq:=⟨nI (mkB n (mg n q) o).1,-1::nI (mkB n (mg n q) o).2,nI ((List.range n).map fun v=>homeI (mkB n (mg n q) o).1 (msk n (FG q v)))⟩
theorem Qmx {n:Nat} {A:Gr} {o:List Nat} (ho:0 < o.length):0 < (mkK n A o).length:=by
 have h1:0 < (setL n A o).length:=by rw [Vo]; exact ho
 obtain ⟨e,he,_⟩:=Qjt (l:=setL n A o) _ (Nat.le_refl _) ((setL n A o)[0]) (by rw [List.take_length]; exact List.getElem_mem h1)
 rw [List.take_length] at he
 exact List.length_pos_of_mem he
theorem Qy1 {n:Nat} {A:Gr} {o:List Nat}:∀s∈mkK n A o,s < 2^n:=fun s h=>Qm3 _ _ s (Qmk h)
theorem Qsj {n:Nat} {A:Gr} {o:List Nat}:(mkK n A o).length≤o.length:=by have:=Qlu (l:=setL n A o); rwa [Vo] at this
theorem Qwh {l:List Nat} (h:0 < l.length):∀s,(s∈[l.getD (l.length - 1) 0]∨s∈l.take (l.length - 1))↔s∈l:=fun s=>by
 have e:l=l.take (l.length - 1)++[l.getD (l.length - 1) 0]:=by
  have h1:l.length - 1 < l.length:=by omega
  have:=Qt (l:=l) h1
  rw [show l.length - 1+1=l.length by omega,List.take_length] at this
  have e2:l.getD (l.length - 1) 0=l[l.length - 1]:=by simp [List.getD,h1]
  rw [e2]; exact this
 conv=>rhs; rw [e,List.mem_append]
 exact Or.comm
theorem Qmq {n:Nat} {A:Gr} {o:List Nat} (ho:0 < o.length):(∀s,s∈mkK n A o↔s∈(mkB n A o).1)∧(mkB n A o).1.length=(mkK n A o).length∧(mkB n A o).2.length=(mkK n A o).length - 1:=by
 have hp:=Qmx (n:=n) (A:=A) ho
 obtain ⟨h1,h2,h3⟩:=Qv0 (n:=n) ((mkK n A o).length - 1) ((mkK n A o).take ((mkK n A o).length - 1)) [(mkK n A o).getD ((mkK n A o).length - 1) 0] [] (by rw [List.length_take]; omega)
 refine ⟨fun s=>?_,?_,?_⟩
 ·rw [←Qwh hp s]; exact h1 s
 ·unfold mkB; rw [h2]; simp; omega
 ·unfold mkB; rw [h3]; simp
theorem Qzl {n:Nat} {q:Nat → List Nat} {o:List Nat} {v:Nat} (ho:Ord n o) (hv:v < n) (hq:∀p∈q v,p < n):∃c∈(mkB n (mg n q) o).1,Xc (msk n (FG q v)) c=true:=by
 have hall:∀i,i < n→i∈o:=fun i hi=>Qhj ho.nodup ho.lt ho.len i hi
 have hin:∀i,FG q v i=true→i < n:=fun i hi=>by
  unfold FG at hi
  simp only [Bool.or_eq_true,decide_eq_true_eq] at hi
  rcases hi with h | h
  ·omega
  ·exact hq i h
 obtain ⟨s,h1,h2⟩:=Qrh o (mg n q) (FG q v) ⟨v,hv,by unfold FG; simp⟩ (fun i hi=>hall i (hin i hi)) fun a b ha hb hne=>by
  unfold mg mgk
  simp only [hin a ha,hin b hb,decide_true,Bool.true_and,Bool.and_eq_true,Bool.not_eq_true',decide_eq_false_iff_not,List.any_eq_true]
  exact ⟨hne,v,List.mem_range.2 hv,ha,hb⟩
 obtain ⟨e,h3,h4⟩:=Qjt (l:=setL n (mg n q) o) _ (Nat.le_refl _) s (by rw [List.take_length]; exact h1)
 rw [List.take_length] at h3
 exact ⟨e,((Qmq (n:=n) (A:=mg n q) (by rw [ho.len]; omega)).1 e).1 h3,Qpb h2 h4⟩
theorem Qvx {cl:List Nat} {f:Nat} (h:∃c∈cl,Xc f c=true):homeI cl f < cl.length:=by
 unfold homeI; rw [List.findIdx_lt_length]; exact h
theorem Qzw {cl:List Nat} {f:Nat} (hc:∀c∈cl,c < 18446744073709551616) (hf:f < 18446744073709551616) (hl:cl.length≤1000) (h:∃c∈cl,Xc f c=true):Jo (nI cl) (f:Int)=some (homeI cl f:Int):=by
 have hu:=Qvx h
 have hstep:∀k (hk:k < cl.length),Vg (nI cl) (f:Int) (k:Int)=some (if Xc f cl[k]=true then .done (.inl (k:Int)) else .next (zw ((k:Int)+1))):=fun k hk=>by
  unfold Vg
  rw [Qg,if_pos (dlt hk),Yw hk,Option.bind_some]
  have hw:=Qgz hf (hc _ (List.getElem_mem hk))
  by_cases c:Xc f cl[k]=true
  ·rw [if_pos (hw.2 c),if_pos c]
  ·rw [if_neg fun hh=>c (hw.1 hh),if_neg c]
 have hr:=Jh (n:=homeI cl f+1) (k0:=0) (by omega) (by omega) (fun i (_:Unit)=>i) (body:=Vg (nI cl) (f:Int)) (fun k _=>k≤homeI cl f) (fun r=>r=.inl (homeI cl f:Int))
  (fun k _ _ hk _=>by
   by_cases e:k=homeI cl f
   ·right
    refine ⟨.inl (k:Int),?_,by rw [e]⟩
    rw [hstep k (by omega),if_pos (by
     have:=List.findIdx_getElem (w:=hu)
     unfold homeI at e
     subst e; exact this)]
   ·left
    refine ⟨(),?_,by omega⟩
    rw [hstep k (by omega),if_neg (by
     have:=List.not_of_lt_findIdx (show k < cl.findIdx (Xc f) by unfold homeI at hk e; omega)
     intro h
     rw [h] at this; cases this)])
  (fun _ hI=>by omega) () (by omega)
 obtain ⟨r,e1,rfl⟩:=hr
 rw [show ((0:Nat):Int)=0 from rfl] at e1
 unfold Jo
 rw [e1]; rfl
theorem Q0t {n:Nat} {g:Int} {F:Nat → Tapi_Node} {o:List Nat} (hb:NB n F) (hf:Qah n g F) (ho:Ord n o):Qbc ⟨g,rowG n F⟩ (gl n (FG (Qd F))) (nI o)=some (mkT n (Qd F) o,0):=by
 have hn:=hf.n8
 have h1:=hf.n1
 have hpar:=fun v hv=>(Vn (hf.node v hv).1.1).2.2
 have p8:(2:Nat)^n≤256:=Nat.pow_le_pow_right (n:=2) (by omega) hn
 have hop:0 < o.length:=by rw [ho.len]; omega
 have hp:=Qmx (n:=n) (A:=mg n (Qd F)) hop
 have hle:=Qsj (n:=n) (A:=mg n (Qd F)) (o:=o)
 rw [ho.len] at hle
 obtain ⟨m1,m2,m3⟩:=Qmq (n:=n) (A:=mg n (Qd F)) hop
 unfold Qbc
 rw [Qps hb hf,Option.bind_some,if_neg (by simp),Qwt h1 hn Qdu ho.lt ho.nodup,Option.bind_some]
 rw [show Z8 (setL n (mg n (Qd F)) o)=mkK n (mg n (Qd F)) o from rfl,Qg,w64 (n:=((mkK n (mg n (Qd F)) o).length:Int) - 1) (by omega),show ((mkK n (mg n (Qd F)) o).length:Int) - 1=(((mkK n (mg n (Qd F)) o).length - 1:Nat):Int) by omega,Yw (by omega),Option.bind_some,if_pos (by omega),Int.toNat_natCast]
 have hlt:∀s∈mkK n (mg n (Qd F)) o,s < 2^n:=Qy1
 have eg:(mkK n (mg n (Qd F)) o).getD ((mkK n (mg n (Qd F)) o).length - 1) 0=(mkK n (mg n (Qd F)) o)[(mkK n (mg n (Qd F)) o).length - 1]:=by
  rw [List.getD_eq_getElem?_getD,List.getElem?_eq_getElem (by omega)]; rfl
 have hbl:=Qoq hn ((mkK n (mg n (Qd F)) o).length - 1) fuel ((mkK n (mg n (Qd F)) o).take ((mkK n (mg n (Qd F)) o).length - 1)) [(mkK n (mg n (Qd F)) o).getD ((mkK n (mg n (Qd F)) o).length - 1) 0] [] (by rw [List.length_take]; omega) (by show _ < 1152921504606846976; omega)
  (fun c hc=>by simp only [List.mem_singleton] at hc; rw [hc,eg]; exact hlt _ (List.getElem_mem _)) (fun s hs=>hlt s (List.mem_of_mem_take hs)) (by simp) (by simp; omega) (by simp)
 have et:List.take ((mkK n (mg n (Qd F)) o).length - 1) (nI (mkK n (mg n (Qd F)) o))=nI ((mkK n (mg n (Qd F)) o).take ((mkK n (mg n (Qd F)) o).length - 1)):=by unfold nI; rw [List.map_take]
 rw [show nI [(mkK n (mg n (Qd F)) o).getD ((mkK n (mg n (Qd F)) o).length - 1) 0]=[(((mkK n (mg n (Qd F)) o)[(mkK n (mg n (Qd F)) o).length - 1]:Nat):Int)] by unfold nI; rw [eg]; rfl,show nI []=[] from rfl] at hbl
 rw [et,hbl,Option.bind_some]
 rw [show bld n ((mkK n (mg n (Qd F)) o).length - 1) ((mkK n (mg n (Qd F)) o).take ((mkK n (mg n (Qd F)) o).length - 1)) [(mkK n (mg n (Qd F)) o).getD ((mkK n (mg n (Qd F)) o).length - 1) 0] []=mkB n (mg n (Qd F)) o from rfl]
 have hcl:∀c∈(mkB n (mg n (Qd F)) o).1,c < 18446744073709551616:=fun c hc=>by have:=hlt c ((m1 c).2 hc); omega
 have hfam:∀v,v < n→∃c∈(mkB n (mg n (Qd F)) o).1,Xc (msk n (FG (Qd F) v)) c=true:=fun v hv=>Qzl ho hv (hpar v hv)
 have h:=Zi (n:=n) (k0:=0) (by omega) (by omega) (fun i (t:List Int)=>(i,t)) (body:=Qa8 (gl n (FG (Qd F))) (nI (mkB n (mg n (Qd F)) o).1,(-1:Int)::nI (mkB n (mg n (Qd F)) o).2))
  (fun k=>nI ((List.range k).map fun v=>homeI (mkB n (mg n (Qd F)) o).1 (msk n (FG (Qd F) v)))) (nI ((List.range n).map fun v=>homeI (mkB n (mg n (Qd F)) o).1 (msk n (FG (Qd F) v))))
  (fun k _ hk=>by
   unfold Qa8
   dsimp only
   rw [Zd,if_pos (dlt hk),Kz hk,Option.bind_some,Qzw hcl (by have:=Zt n (FG (Qd F) k); omega) (by omega) (hfam k hk),Option.bind_some,if_pos (by rw [List.length_append,Qg,List.length_map,List.length_range]; simp; omega)]
   congr 3
   rw [List.range_succ,List.map_append,←Qrj]; rfl)
  (by unfold Qa8; dsimp only; rw [Zd,if_neg (nlt n)])
 rw [show ((0:Nat):Int)=0 from rfl] at h
 rw [show nI ((List.range 0).map fun v=>homeI (mkB n (mg n (Qd F)) o).1 (msk n (FG (Qd F) v)))=[] from rfl] at h
 rw [h]; rfl
end Go.Ab
namespace Go.Ab
open Go
set_option maxRecDepth 100000
set_option maxHeartbeats 400000
def Qya:Qq:=⟨[],[],[]⟩
end Go.Ab
