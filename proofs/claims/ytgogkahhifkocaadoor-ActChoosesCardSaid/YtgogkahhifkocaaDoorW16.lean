/- Functions. No conditions. -/
import Derived.Test.YtgogkahhifkocaaDoorW15
import Derived.Test.YtgogkahhifkocaaDoorEng7
import Derived.Test.YtgogkahhifkocaaDoorW11
import Derived.KernelRfl
set_option maxRecDepth 100000
set_option maxHeartbeats 400000
set_option linter.all false
namespace Go.Ab
open Go
structure Qad (m:Nat) (x:Ad):Prop where
 par:x.Parents.length<=m
 rows:x.Rows.length<=m
 row:∀r∈x.Rows,r.length<=m
theorem Qnx {m:Nat} {x:Ad} (hm:m<=1000000) (h:Qad m x):Qb fuel (X0 x) (0,([]:List (List Int)))=some x.Rows:=by
 have h1:=h.rows
 have hr:=Zy (n:=x.Rows.length) (k0:=0) (by omega) (by omega) (fun i (t:List (List Int))=>(i,t)) (body:=X0 x) (fun k=>x.Rows.take k) x.Rows
  (fun k _ hk=>by
   have h2:=h.row _ (bJ hk)
   unfold X0
   dsimp only
   rw [aH (dlt hk),Qn hk,aC,aH (by omega),aH (by rw [aO,cQ]; simp; omega),Xg hk])
  (by unfold X0; dsimp only; rw [aI (nlt _),cM])
 exact hr
theorem Q6p {x:Ad}:Qf4 x=X0 x:=rfl
theorem Q6h {x:Ad}:Qgc x=X0 x:=rfl
theorem Qzj {m:Nat} {g:Int} {l:List Ad} {t:Nat} (hm:m<=1000000) (hl:l.length<=8) (h:∀x∈l,Qad m x) (ht:t < l.length) :
  Qb fuel (Qbg (fun s=>decide (s.1=(t:Int))) (Yu ⟨g,l⟩)) (0,([]:List Ad))=some (.inl ((t:Int),l.take t)):=by
 have step:∀k,k < t->Yu ⟨g,l⟩ ((k:Int),l.take k)=some (.next (((k+1:Nat):Int),l.take (k+1))):=fun k hk=>by
  have hkl:k < l.length:=by omega
  have hx:=h _ (bJ hkl)
  have h3:=hx.par
  unfold Yu
  dsimp only
  rw [aH (dlt hkl),Qn hkl,aC,aH (by omega),Qnx hm hx,aC,aH (by rw [aO,cQ]; simp; omega),Xg hkl,Qkr (by omega)]
 have key:∀(j N k:Nat),k+j=t->j < N->Qb N (Qbg (fun s=>decide (s.1=(t:Int))) (Yu ⟨g,l⟩)) ((k:Int),l.take k)=some (.inl ((t:Int),l.take t)):=by
  intro j
  induction j with
  | zero =>
   intro N k e hN
   obtain ⟨N,rfl⟩:∃M,N=M+1:=⟨N - 1,by omega⟩
   have:k=t:=by omega
   subst this
   simp only [Qb,Qbg,decide_true,eJ]
  | succ j ih =>
   intro N k e hN
   obtain ⟨N,rfl⟩:∃M,N=M+1:=⟨N - 1,by omega⟩
   have hne:¬ ((k:Int)=(t:Int)):=by omega
   have hs:Qbg (fun s=>decide (s.1=(t:Int))) (Yu ⟨g,l⟩) ((k:Int),l.take k)=some (.next (((k+1:Nat):Int),l.take (k+1))):=by
    unfold Qbg
    rw [aI (by simpa using hne),step k (by omega)]; rfl
   rw [Qb,hs]
   exact ih N (k+1) (by omega) (by omega)
 exact key t fuel 0 (by omega) (by show t < 1152921504606846976; omega)
theorem Q22 {m:Nat} {g:Int} {l:List Ad} {t:Nat} (hm:m<=1000000) (hl:l.length<=8) (h:∀x∈l,Qad m x) (ht:t < l.length) :
  Qb fuel (V5 ⟨g,l⟩ ((t:Int),l.take t)) (zw ((t:Int)+1),(l.take t++[(default:Ad)]))=some (l.take t++[(default:Ad)]++l.drop (t+1)):=by
 have hr:=Zy (n:=l.length) (k0:=t+1) (by omega) (by omega) (fun i (s:List Ad)=>(i,s)) (body:=V5 ⟨g,l⟩ ((t:Int),l.take t)) (fun k=>l.take t++[(default:Ad)]++(l.drop (t+1)).take (k - (t+1))) (l.take t++[(default:Ad)]++l.drop (t+1))
  (fun k hk0 hk=>by
   have hx:=h _ (bJ hk)
   have h3:=hx.par
   have htl:(l.take t).length=t:=by rw [cQ]; omega
   have hi:t < (l.take t++[(default:Ad)]++(l.drop (t+1)).take (k - (t+1))).length:=by rw [aO,aO,htl]; simp only [dF,List.length_nil]; omega
   unfold V5
   dsimp only
   rw [aH (dlt hk),Qn hk,aC,aH (by omega),Q6h,Qnx hm hx,aC,htl,Qn hi,aC,aH (by simp; omega)]
   congr 3
   rw [dJ,show k+1 - (t+1)=(k - (t+1))+1 by omega,Xg (by rw [cR]; omega)]
   congr 2
   rw [List.getElem_drop]
   simp only [show t+1+(k - (t+1))=k by omega])
  (by
   unfold V5
   dsimp only
   rw [aI (nlt _)]
   congr 3
   rw [List.take_of_length_le (by rw [cR]; omega)])
 rw [Qkr (by omega)]
 simp only [Nat.sub_self,List.take_zero,cU] at hr
 exact hr
def Out (m k:Nat) (o:Option Qa):Prop:=∃g l,o=some ⟨g,l⟩/\l.length<=k/\∀x∈l,Qad m x
theorem Qop {m k t:Nat} {g:Int} {l:List Ad} {x:Ad} (hl:l.length<=k) (h:∀y∈l,Qad m y) (hx:Qad m x):Out m k (some ⟨g,l.set t x⟩):=by
 refine ⟨g,_,rfl,by rw [bX]; exact hl,fun y hy=>?_⟩
 rcases dM hy with h1 | h1
 ·exact h y h1
 rw [h1]; exact hx
theorem Qts {m k t:Nat} {w0 w1 w2 w3 w4 w5 w6 row:Int} {q:Nat} {l:List Ad} {c:Int} {P:List Int} {R:List (List Int)} (hm:m<=1000000) (hl:l.length<=k) (hk:k<=8) (h:∀y∈l,Qad m y) (ht:t < l.length) (hP:P.length<=m) (hR:R.length<=m) (hr:∀r∈R,r.length<=m)
  (hrow:row=-1\/(0<=row/\row < R.length)):Out (m+1) (k+1) (V2 q row w0 w1 w2 w3 w4 w5 l (t:Int) c P R):=by
 have h':∀y∈l,Qad (m+1) y:=fun y hy=>⟨Nat.le_succ_of_le (h y hy).par,Nat.le_succ_of_le (h y hy).rows,fun r hr=>Nat.le_succ_of_le ((h y hy).row r hr)⟩
 have hlk:lkI l (t:Int)=some l[t]:=Qn ht
 have mk:∀{g c:Int} {P:List Int} {R:List (List Int)},P.length<=m+1->R.length<=m+1->(∀r∈R,r.length<=m+1)->Out (m+1) (k+1) (Qq g l (t:Int) c P R):=fun a b d=>by
  unfold Qq
  rw [hlk,aC]
  exact Qop (Nat.le_succ_of_le hl) h' ⟨a,b,d⟩
 have same:∀{g c:Int},Out (m+1) (k+1) (Qq g l (t:Int) c P R):=mk (by omega) (by omega) fun r h=>Nat.le_succ_of_le (hr r h)
 have rowAt:0<=row->∃(i:Nat) (hi:i < R.length),row=(i:Int)/\lkI R row=some R[i]:=fun h0=>by
  rcases hrow with h1 | h1
  ·omega
  obtain ⟨i,rfl⟩:∃i:Nat,row=(i:Int):=⟨row.toNat,by omega⟩
  exact ⟨i,by omega,rfl,Qn (by omega)⟩
 have setR:∀{i:Nat} {r:List Int},r.length<=m+1->(R.set i r).length<=m+1/\∀s∈R.set i r,s.length<=m+1:=fun hr'=>⟨by rw [bX]; omega,fun s hs=>by
  rcases dM hs with h1 | h1
  ·exact Nat.le_succ_of_le (hr s h1)
  rw [h1]; exact hr'⟩
 unfold V2
 by_cases c0:Int.tmod w0 12=0
 ·rw [aH (by simpa using c0)]; exact same
 rw [aI (by simpa using c0)]
 by_cases c1:Int.tmod w0 12=1
 ·rw [aH (by simpa using c1),hlk,aC]; exact same
 rw [aI (by simpa using c1)]
 by_cases c2:Int.tmod w0 12=2
 ·rw [aH (by simpa using c2),hlk,aC,aH (by rw [aO]; simp; omega)]
  exact mk (by rw [aO]; simp; omega) (by omega) fun r h=>Nat.le_succ_of_le (hr r h)
 rw [aI (by simpa using c2)]
 by_cases c3:Int.tmod w0 12=3
 ·rw [aH (by simpa using c3),hlk,aC]
  unfold Qbi
  rw [hlk,aC]
  exact Qop (Nat.le_succ_of_le hl) h' ⟨by simp,Nat.le_succ_of_le hR,fun r h=>Nat.le_succ_of_le (hr r h)⟩
 rw [aI (by simpa using c3)]
 by_cases c4:Int.tmod w0 12=4
 ·rw [aH (by simpa using c4),hlk,aC,aH (by rw [aO]; simp; omega)]
  refine mk (by omega) (by rw [aO]; simp; omega) fun r h=>?_
  rcases bT.1 h with h1 | h1
  ·exact Nat.le_succ_of_le (hr r h1)
  ·simp at h1; rw [h1]; simp
 rw [aI (by simpa using c4)]
 by_cases c5:Int.tmod w0 12=5
 ·rw [aH (by simpa using c5)]
  by_cases d:row>=0
  ·rw [aH (by simpa using d),hlk,aC,aH (by rcases hrow with h1 | h1 <;> omega)]
   unfold Qbo
   refine Qop (Nat.le_succ_of_le hl) h' ⟨by simp only; omega,?_,fun r h=>?_⟩
   ·show (sub R 0 row).length<=m+1
    unfold sub; simp; omega
   ·have h:r∈sub R 0 row:=h
    unfold sub at h
    exact Nat.le_succ_of_le (hr r (bH (by simpa using h)))
  ·rw [aI (by simpa using d)]; exact same
 rw [aI (by simpa using c5)]
 by_cases c6:Int.tmod w0 12=6
 ·rw [aH (by simpa using c6)]
  by_cases d:row>=0
  ·obtain ⟨i,hi,e1,e2⟩:=rowAt d
   rw [aH (by simpa using d),hlk,aC,e2,aC]
   have hri:=hr _ (bJ hi)
   by_cases d2:((R[i].length:Int) > 0)
   ·rw [aH (by simpa using d2),show (0:Int)=((0:Nat):Int) from rfl,Qn (by omega),aC]
    obtain ⟨a,b⟩:=setR (i:=row.toNat) (r:=R[i].set (Int.toNat ((0:Nat):Int)) w3) (by rw [bX]; omega)
    exact mk (by omega) a b
   ·rw [aI (by simpa using d2)]; exact same
  ·rw [aI (by simpa using d)]; exact same
 rw [aI (by simpa using c6)]
 by_cases c7:Int.tmod w0 12=7
 ·rw [aH (by simpa using c7)]
  by_cases d:row>=0
  ·obtain ⟨i,hi,e1,e2⟩:=rowAt d
   have hri:=hr _ (bJ hi)
   rw [aH (by simpa using d),e2,aC,hlk,aC,aH (by rw [aO]; simp; omega),List.set_set]
   obtain ⟨a,b⟩:=setR (i:=row.toNat) (r:=R[i]++[(0:Int)]) (by rw [aO]; simp; omega)
   exact mk (by omega) a b
  ·rw [aI (by simpa using d)]; exact same
 rw [aI (by simpa using c7)]
 by_cases c8:Int.tmod w0 12=8
 ·rw [aH (by simpa using c8)]
  by_cases d:row>=0
  ·obtain ⟨i,hi,e1,e2⟩:=rowAt d
   have hri:=hr _ (bJ hi)
   rw [aH (by simpa using d),hlk,aC,e2,aC]
   by_cases d2:((R[i].length:Int) > 0)
   ·rw [aH (by simpa using d2),aH (by omega),show (0:Int)=((0:Nat):Int) from rfl,Qn (by rw [cE]; omega),aC,List.set_set]
    obtain ⟨a,b⟩:=setR (i:=row.toNat) (r:=(List.replicate (Int.toNat (R[i].length:Int)) ((0:Nat):Int)).set (Int.toNat ((0:Nat):Int)) w4) (by rw [bX,cE]; omega)
    exact mk (by omega) a b
   ·rw [aI (by simpa using d2)]; exact same
  ·rw [aI (by simpa using d)]; exact same
 rw [aI (by simpa using c8)]
 by_cases c9:Int.tmod w0 12=9
 ·rw [aH (by simpa using c9)]
  by_cases d:row>=0
  ·obtain ⟨i,hi,e1,e2⟩:=rowAt d
   have hri:=hr _ (bJ hi)
   rw [aH (by simpa using d),hlk,aC,e2,aC]
   have hw:=Xb (body:=Qbk row) (fun s:Int × Int × List (List Int)=>∃(a b:Int) (T:List (List Int)),s=(a,b,T)/\0<=a/\-1<=b/\a+b=(R[i].length:Int) - 1/\T.length=R.length/\(∀r∈T,r.length<=m)/\∃r,T[i]?=some r/\r.length=R[i].length) (fun s=>R[i].length+1 - s.1.toNat) (fun T=>T.length=R.length/\∀r∈T,r.length<=m)
    (fun s hs=>by
     obtain ⟨a,b,T,rfl,ha,hb,hab,hT,hTr,r,er,hrl⟩:=hs
     unfold Qbk
     dsimp only
     by_cases hc:a < b
     ·left
      have eT:lkI T row=some r:=by unfold lkI; rw [aI (by omega),e1,aP,er]
      have l1:∀(s:List Int) (z:Int),s.length=R[i].length->0<=z->z < R[i].length->lkI s z=some ((s[z.toNat]?).getD 0):=fun s z hs h1 h2=>by
       unfold lkI; rw [aI (by omega),aG (by omega)]; rfl
      rw [aH (by simpa using hc),eT,aC,l1 r a hrl ha (by omega),aC,l1 r b hrl (by omega) (by omega),aC,l1 _ b (by rw [bX]; exact hrl) (by omega) (by omega),aC,List.set_set,w64 (by omega),w64 (by omega)]
      refine ⟨_,rfl,⟨_,_,_,rfl,by omega,by omega,by omega,by rw [bX]; exact hT,fun s hs=>?_,_,by rw [e1,aP,bY (by omega)],by rw [bX,bX]; exact hrl⟩,by simp only; omega⟩
      rcases dM hs with h1 | h1
      ·exact hTr s h1
      rw [h1,bX,bX,hrl]; exact hri
     right
     rw [aI (by simpa using hc)]
     exact ⟨_,rfl,hT,hTr⟩) (0,zw ((R[i].length:Int) - 1),R) ⟨0,(R[i].length:Int) - 1,R,by rw [w64 (by omega)],by omega,by omega,by omega,rfl,hr,_,aG hi,rfl⟩ (by show R[i].length+1 - 0 < 1152921504606846976; omega)
   obtain ⟨T,h1,h2,h3⟩:=hw
   rw [h1,aC]
   exact mk (by omega) (by omega) fun r h=>Nat.le_succ_of_le (h3 r h)
  ·rw [aI (by simpa using d)]; exact same
 rw [aI (by simpa using c9)]
 by_cases c10:Int.tmod w0 12=10
 ·rw [aH (by simpa using c10),hlk,aC,aH (by rw [aO]; simp; omega)]
  unfold Qq
  have hn:∀y∈l++[Ad.mk 1 [] [[w4]]],Qad (m+1) y:=fun y hy=>by
   rcases bT.1 hy with h1 | h1
   ·exact h' y h1
   simp at h1; rw [h1]; exact ⟨by simp,by simp,fun r hr=>by simp at hr; rw [hr]; simp⟩
  rw [Qn (by rw [aO]; omega),aC]
  exact Qop (by rw [aO]; simp; omega) hn ⟨by simp only; omega,by simp only; omega,fun r h=>Nat.le_succ_of_le (hr r h)⟩
 rw [aI (by simpa using c10),hlk,aC,bX,w64 (n:=(l.length:Int) - 1) (by omega),aH (by omega)]
 have hx:Qad (m+1) (Ad.mk c P R):=⟨by simp only; omega,by simp only; omega,fun r h=>Nat.le_succ_of_le (hr r h)⟩
 refine ⟨_,_,rfl,?_,fun y hy=>?_⟩
 ·unfold sub; simp; omega
 ·unfold sub at hy
  have hy:=bH (show y∈List.take (l.length - 1) (l.set t { Card:=c,Parents:=P,Rows:=R }) by simpa using hy)
  rcases dM hy with h1 | h1
  ·exact h' y h1
  ·rw [h1]; exact hx
theorem Q4z {b:Za} {g:Int} {l:List Ad} {m:Nat} (hm:m<=999999) (h1:1<=l.length) (hl:l.length<=8) (h:∀x∈l,Qad m x) (hA:0<=b.At/\b.At<=255) (hR:0<=b.Row/\b.Row<=255):Out (m+1) (l.length+1) (Jf b ⟨g,l⟩):=by
 have eA:zw b.At=b.At:=w64 (by omega)
 have eR:zw b.Row=b.Row:=w64 (by omega)
 have tm:∀k:Nat,0 < k->∃t:Nat,t < k/\Int.tmod b.At (k:Int)=(t:Int):=fun k hk=>by
  rw [Vc hA.1]
  have h1:=Int.emod_nonneg b.At (show (k:Int)≠0 by omega)
  have h2:=Int.emod_lt_of_pos b.At (show (0:Int) < k by omega)
  exact ⟨(b.At % k).toNat,by omega,by omega⟩
 obtain ⟨t,ht,et⟩:=tm l.length (by omega)
 unfold Jf
 dsimp only
 rw [eA,et,Qzj (by omega) hl h ht,aC]
 dsimp only
 have hx:=h _ (bJ ht)
 have hxp:=hx.par
 have htl:(l.take t).length=t:=by rw [cQ]; omega
 rw [aH (dlt ht),Qn ht,aC,aH (by omega),Q6p,Qnx (by omega) hx,aC,aH (by rw [aO,htl]; simp; omega),Q22 (by omega) hl h ht,aC,htl]
 have hlen:(l.take t++[(default:Ad)]++l.drop (t+1)).length=l.length:=by simp [htl]; omega
 have hall:∀y∈l.take t++[(default:Ad)]++l.drop (t+1),Qad m y:=fun y hy=>by
  rcases bT.1 hy with h1 | h1
  ·rcases bT.1 h1 with h2 | h2
   ·exact h y (bH h2)
   simp at h2; rw [h2]; exact ⟨eC _,eC _,fun r hr=>by cases hr⟩
  exact h y (bL h1)
 generalize l.take t++[(default:Ad)]++l.drop (t+1)=L at hlen hall
 have hne:¬ (((l.length:Int)==0)=true):=by simp; intro e; rw [e] at h1; simp at h1
 rw [hlen,aI hne,aH (by omega),Qn (by omega),aC,et,aH rfl]
 by_cases c:((l[t].Rows.length:Int) > 0)
 ·rw [aH (by simpa using c),aH (by omega)]
  have hrow:0<=Int.tmod (zw b.Row) (l[t].Rows.length:Int)/\Int.tmod (zw b.Row) (l[t].Rows.length:Int) < l[t].Rows.length:=by
   rw [eR,Vc hR.1]
   exact ⟨Int.emod_nonneg _ (by omega),Int.emod_lt_of_pos _ (by omega)⟩
  exact Qts (by omega) (by omega) hl hall (by omega) hx.par hx.rows hx.row (.inr hrow) (w5:=0) (w6:=0)
 rw [aI (by simpa using c)]
 exact Qts (by omega) (by omega) hl hall (by omega) hx.par hx.rows hx.row (.inl rfl) (w5:=0) (w6:=0)
theorem Q3v {l:List Ad}:l=rowG l.length fun v=>(l[v]?).getD default:=by
 apply List.ext_getElem?
 intro i
 unfold rowG
 rw [bD]
 by_cases c:i < l.length
 ·rw [aG c,List.getElem?_range c]
  simp [c]
 rw [dK (by omega),dK (by simp; omega)]; rfl
theorem Q93 {l:List Ad} {m:Nat} (hm:m<=1000000) (h:∀x∈l,Qad m x):NB l.length fun v=>(l[v]?).getD default:=by
 have key:∀v,v < l.length->Qad m ((l[v]?).getD default):=fun v hv=>by
  rw [aG hv]; exact h _ (bJ hv)
 exact ⟨fun v hv=>by have:=(key v hv).par; omega,fun v hv=>by have:=(key v hv).rows; omega,fun v hv r hr=>by have:=(key v hv).row r hr; omega⟩
end Go.Ab
namespace Go.Ab
open Go
theorem Qz0 {a b:Nat} {f:Nat -> Int}:Qo (a*b) f=Qo a (fun x=>Qo b (fun y=>f (x*b+y))):=by
 induction a with
 | zero=>simp [Qo]
 | succ a ih=>rw [dR,Qll,ih]; simp only [Qo]
theorem Qwl {n:Nat} {f g:Nat -> Nat} (h:∀k,k < n->f k=g k):prodTo n f=prodTo n g:=by
 induction n with
 | zero=>rfl
 | succ n ih=>simp only [prodTo]; rw [ih (fun k hk=>h k (by omega)),h n (by omega)]
theorem Qro {n:Nat} {f:Nat -> Nat} (h:∀k,k < n->1<=f k):1<=prodTo n f:=by
 induction n with
 | zero=>simp [prodTo]
 | succ n ih=>simp only [prodTo]; exact bV (by simp) (Nat.mul_le_mul (ih fun k hk=>h k (by omega)) (h n (by omega)))
end Go.Ab
namespace Go.Ab
open Go
def horner (c w:Nat -> Nat) (l:List Nat):Nat := l.foldl (fun r p=>r*c p+w p) 0
theorem Quk {c w:Nat -> Nat} {l:List Nat} {p:Nat}:horner c w (l++[p])=horner c w l*c p+w p:=by simp [horner]
theorem Qtz {c w:Nat -> Nat} {l:List Nat} (h:∀p∈l,w p < c p):horner c w l < lprod c l:=by
 have key:∀(l:List Nat) (r R:Nat),r < R->(∀p∈l,w p < c p)->l.foldl (fun r p=>r*c p+w p) r < l.foldl (fun r p=>r*c p) R:=by
  intro l
  induction l with
  | nil=>intro r R h _; exact h
  | cons p l ih =>
   intro r R hr hp
   simp only [List.foldl_cons]
   refine ih _ _ ?_ (fun q hq=>hp q (cL _ hq))
   have h1:=hp p (by simp)
   have h2:(r+1)*c p<=R*c p:=aR _ hr
   rw [dR] at h2
   omega
 exact key l 0 1 (by omega) h
def NF.idx (D:NF) (v:Nat) (w:Nat -> Nat):Nat := horner D.card w (D.par v)
def NF.wt (D:NF) (w:Nat -> Nat) (v:Nat):Nat := D.W v (D.idx v w) (w v)
def NF.ok (D:NF) (w:Nat -> Nat):Prop:=∀v,v < D.n->w v < D.card v
section
variable {D:NF} (V:VN D) {w:Nat -> Nat}
include V
theorem VN.idx_lt (hw:D.ok w) {v:Nat} (hv:v < D.n):D.idx v w < D.rows v:=Qtz fun p hp=>hw p (V.par v hv p hp)
theorem VN.wt_le (hw:D.ok w) {v:Nat} (hv:v < D.n):D.wt w v<=60:=bV (V.W v _ _ hv (V.idx_lt hw hv) (hw v hv)) V.g60
end
structure SF where
 N:Nat
 R:Nat
 F:Nat
 T:Nat
def NF.hit (D:NF) (s:SF) (w:Nat -> Nat):Bool:=D.idx s.N w==s.R
def NF.rest (D:NF) (s:SF) (w:Nat -> Nat):Nat -> Nat := fun k=>prodTo k fun v=>if v=s.N/\D.hit s w=true then 1 else D.wt w v
def NF.own (D:NF) (s:SF) (w:Nat -> Nat):Nat := if D.hit s w=true then D.wt w s.N else 1
section
variable {D:NF} (V:VN D) {w:Nat -> Nat} {s:SF}
include V
end
end Go.Ab
namespace Go.Ab
open Go
def TM (D:NF) (E:Nat -> Int) (f:(Nat -> Nat)->Int):Nat -> Nat -> (Nat -> Nat)->Int
 | 0,_,w=>f w
 | d+1,i,w=>Qo (D.card i) fun x=>if E i=-1\/E i=(x:Int) then TM D E f d (i+1) (Xh w i x) else 0
def PC (D:NF):Nat -> Nat -> Nat
 | 0,_=>1
 | d+1,i=>D.card i*PC D d (i+1)
theorem Q1j {D:NF} (V:VN D):∀(d i:Nat),i+d=D.n->1<=PC D d i
 | 0,_,_=>aY 1
 | d+1,i,h=>by
  have:=Q1j V d (i+1) (by omega)
  have h2:=(V.card i (by omega)).1
  exact bV (by simp) (Nat.mul_le_mul h2 this)
theorem Qso {D:NF}:∀(d i:Nat),prodTo i D.card*PC D d i=prodTo (i+d) D.card
 | 0,i=>by simp [PC]
 | d+1,i=>by
  have:=Qso (D:=D) d (i+1)
  simp only [PC]
  rw [<-Nat.mul_assoc]
  rw [show i+(d+1)=i+1+d by omega,<-this]; rfl
def Ext (D:NF) (f:(Nat -> Nat)->Int):Prop:=∀w w',(∀j,j < D.n->w j=w' j)->f w=f w'
theorem BD.mono {m p:Nat} {a:Int} (h:BD m a) (hp:m<=p):BD p a:=by
 unfold BD KK at *; omega
theorem BD.fit {m:Nat} {a:Int} (h:BD m a) (hm:m<=1024):-9223372036854775808<=a/\a<=9223372036854775807:=by unfold BD KK at h; omega
theorem Qqd {D:NF} {w:Nat -> Nat} {i x:Nat} (h:D.ok w) (hx:x < D.card i):D.ok (Xh w i x):=fun v hv=>by
 unfold Xh
 by_cases e:v=i
 ·rw [aH e,e]; exact hx
 rw [aI e]; exact h v hv
theorem Qw7 {D:NF} {E:Nat -> Int} {f:(Nat -> Nat)->Int} (hf:∀w,D.ok w->BD 1 (f w)):∀(d i:Nat) (w:Nat -> Nat),i+d=D.n->D.ok w->BD (PC D d i) (TM D E f d i w)
 | 0,i,w,_,hw=>hf w hw
 | d+1,i,w,h,hw=>by
  unfold TM PC
  refine BD.sum fun x hx=>?_
  split
  ·exact Qw7 hf d (i+1) _ (by omega) (Qqd hw hx)
  exact BD.zero
def at' (v x:Nat) (f:(Nat -> Nat)->Int):(Nat -> Nat)->Int:=fun w=>if w v=x then f w else 0
section
variable {D:NF} (V:VN D) {s:SF} {E:Nat -> Int} {v:Nat}
theorem Q55 (V:VN D) {w w':Nat -> Nat} (h:∀j,j < D.n->w j=w' j) {u:Nat} (hu:u < D.n):D.idx u w=D.idx u w':=by
 unfold NF.idx horner
 have:∀(l:List Nat) (r:Nat),(∀p∈l,p < D.n)->l.foldl (fun r p=>r*D.card p+w p) r=l.foldl (fun r p=>r*D.card p+w' p) r:=by
  intro l
  induction l with
  | nil=>intros; rfl
  | cons p l ih =>
   intro r hp
   simp only [List.foldl_cons]
   rw [h p (hp p (by simp)),ih _ (fun q hq=>hp q (cL _ hq))]
 exact this _ 0 (V.par u hu)
theorem Q8w (V:VN D) {w w':Nat -> Nat} (h:∀j,j < D.n->w j=w' j) {u:Nat} (hu:u < D.n):D.wt w u=D.wt w' u:=by
 unfold NF.wt; rw [Q55 V h hu,h u hu]
end
end Go.Ab
namespace Go.Ab
open Go
def SW (D:NF) (E:Nat -> Int) (f:(Nat -> Nat)->Int):Int:=TM D E f D.n 0 (fun _=>0)
def Qj7 (D:NF) (E:Nat -> Int):Prop:=∀j,j < D.n->-1<=E j/\E j < D.card j
section
variable {D:NF} {s:SF} {E:Nat -> Int} {v:Nat}
theorem ok0 (V:VN D):D.ok (fun _=>0):=fun u hu=>(V.card u hu).1
end
end Go.Ab
namespace Go.Ab
open Go
section
variable {D:NF} {E:Nat -> Int}
theorem Qt0 (V:VN D):Qcf D.net=some (prodTo D.n D.card:Int):=by
 unfold Qcf
 rw [Qpn V]
 simp only [aC]
 rw [Q6r (fun k hk=>(V.card k hk).2) V.n8]
 rfl
def PS (D:NF) (k:Nat):Nat := PC D (D.n - k) k
theorem Qsf {k:Nat} (h:k < D.n):PS D k=D.card k*PS D (k+1):=by
 unfold PS
 rw [show D.n - k=(D.n - (k+1))+1 by omega]; rfl
theorem Q77:PS D D.n=1:=by unfold PS; rw [Nat.sub_self]; rfl
theorem Q2w (V:VN D) {k:Nat} (h:k<=D.n):1<=PS D k:=Q1j V _ _ (by omega)
def dig (D:NF) (W k:Nat):Nat := W / PS D (k+1) % D.card k
theorem Qq2 (V:VN D) (W:Nat):D.ok (dig D W):=fun v hv=>cF _ (V.card v hv).1
theorem Q1r (V:VN D) {W:Nat} (hW:W < 1125899906842624):Qb9 D.net (W:Int)=some (Qk D.n (dig D W)):=by
 have hn:=V.n8
 have hlen:(Qk D.n D.card).length=D.n:=Xn
 unfold Qb9
 rw [Qpn V]
 simp only [aC]
 unfold Qe2
 rw [hlen,aH (by omega),aP,Qbx]
 refine Zw (Zw (Zi (s0:=((W:Int),zw ((D.n:Int) - 1),rowG D.n fun _=>(0:Int))) (r:=Qk D.n (dig D W)) (fun m=>(((W / PS D (D.n - m):Nat):Int),((D.n - m:Nat):Int) - 1,rowG D.n fun j=>if D.n - m<=j then (dig D W j:Int) else 0)) D.n ?_ (fun m hm=>?_) ?_ (by omega)) rfl) rfl
 ·have e1:(rowG D.n fun j=>if D.n - 0<=j then (dig D W j:Int) else 0)=rowG D.n fun _=>(0:Int):=Ql fun j hj=>aI (by omega)
  rw [w64 (by omega),e1]
  simp only [cZ,Q77,Nat.div_one]
 ·obtain ⟨k,hk⟩:∃k,D.n - m=k+1:=⟨D.n - m - 1,by omega⟩
  have hkn:k < D.n:=by omega
  have hc:=V.card k hkn
  have hk2:D.n - (m+1)=k:=by omega
  simp only [hk,hk2]
  have hkk:((k+1:Nat):Int) - 1=(k:Int):=by omega
  rw [hkk]
  unfold Qcq
  simp only
  rw [aH (by simp),Z6 hkn]
  simp only [aC]
  rw [aH (by omega),Qr hkn]
  simp only [aC]
  rw [aH (by omega),Ji (cY _),Vc (cY _),aP,Yc]
  have h1:W / PS D (k+1) / D.card k=W / PS D k:=by rw [Nat.div_div_eq_div_mul,Qsf hkn,cJ]
  have h2:((W / PS D (k+1):Nat):Int) / (D.card k:Int)=((W / PS D k:Nat):Int):=by rw [<-h1]; simp
  have h3:((W / PS D (k+1):Nat):Int) % (D.card k:Int)=(dig D W k:Int):=by unfold dig; simp
  have h4:W / PS D k<=W:=Nat.div_le_self _ _
  rw [h2,h3]
  obtain ⟨q,hq⟩:∃q,W / PS D k=q:=⟨_,rfl⟩
  rw [hq] at h4 ⊢
  rw [w64 (by omega),w64 (by omega)]
  congr 4
  refine Ql fun j hj=>?_
  by_cases e:j=k
  ·subst e; simp
  rw [aI e]
  by_cases e2:k+1<=j
  ·rw [aH e2,aH (by omega)]
  rw [aI e2,aI (by omega)]
 unfold Qcq
 simp only [Nat.sub_self]
 rw [aI (by simp)]
 exact congrArg (fun z=>some (Qf.done z)) (Ql fun j hj=>aH (by omega))
def okE (E:Nat -> Int) (j x:Nat):Prop:=E j=-1\/E j=(x:Int)
instance instokE (E:Nat -> Int) (j x:Nat):Decidable (okE E j x):=by unfold okE; infer_instance
def Z7 (n:Nat) (E:Nat -> Int) (i:Nat) (w:Nat -> Nat):Prop:=∀j,i<=j->j < n->okE E j (w j)
theorem Qmw {n:Nat} {w:Nat -> Nat} (hn:n<=8) (hE:∀j,j < n->-1<=E j) (h:Z7 n E 0 w):Y5 (Qk n w) (rowG n E)=some true:=by
 unfold Y5
 refine Zw (Zi (s0:=(0:Int)) (r:=Sum.inr ()) (fun k=>(k:Int)) n rfl (fun k hk=>?_) ?_ (by omega)) rfl
 ·unfold V8
  rw [aH (by rw [Xn]; simpa using hk),Qr hk]
  simp only [aC]
  have e:zw ((k:Int)+1)=((k+1:Nat):Int):=by rw [w64 (by omega)]; omega
  rcases h k (by omega) hk with h1 | h1
  ·rw [aI (by rw [h1]; simp),e]
  by_cases h0:E k>=0
  ·rw [aH (by simpa using h0),Z6 hk]
   simp only [aC]
   rw [aI (by rw [h1]; simp),e]
  omega
 unfold V8
 rw [aI (by rw [Xn]; simp)]
theorem Qmc {n:Nat} {w:Nat -> Nat} (hn:n<=8) (hE:∀j,j < n->-1<=E j) (h:¬ Z7 n E 0 w):Y5 (Qk n w) (rowG n E)=some false:=by
 unfold Y5
 have hw:=Xb (body:=V8 (Qk n w) (rowG n E)) (fun s=>∃k:Nat,k<=n/\s=(k:Int)/\∀j,j < k->okE E j (w j)) (fun s=>n - s.toNat) (fun r=>r=Sum.inl ()) (fun s hs=>?_) (0:Int) ⟨0,by omega,rfl,fun j hj=>by omega⟩ (by simp; omega)
 ·obtain ⟨r,h1,h2⟩:=hw
  rw [h1,h2]; rfl
 obtain ⟨k,hk,rfl,hpre⟩:=hs
 have hlt:k < n:=by
  rcases aZ k n with h' | h'
  ·exact h'
  exact absurd (fun j _ hj=>hpre j (by omega)) h
 have e:zw ((k:Int)+1)=((k+1:Nat):Int):=by rw [w64 (by omega)]; omega
 have hb:=hE k hlt
 unfold V8
 rw [aH (by rw [Xn]; simpa using hlt),Qr hlt]
 simp only [aC]
 by_cases h0:E k>=0
 ·rw [aH (by simpa using h0),Z6 hlt]
  simp only [aC]
  by_cases h1:E k=(w k:Int)
  ·left
   rw [aI (by rw [h1]; simp),e]
   exact ⟨_,rfl,⟨k+1,by omega,rfl,fun j hj=>by
    rcases Nat.lt_succ_iff_lt_or_eq.1 hj with h2 | h2
    ·exact hpre j h2
    subst h2; exact .inr h1⟩,by simp; omega⟩
  right
  rw [aH (by simpa using h1)]
  exact ⟨_,rfl,rfl⟩
 left
 rw [aI (by simpa using h0),e]
 exact ⟨_,rfl,⟨k+1,by omega,rfl,fun j hj=>by
  rcases Nat.lt_succ_iff_lt_or_eq.1 hj with h2 | h2
  ·exact hpre j h2
  subst h2; exact .inl (by omega)⟩,by simp; omega⟩
def ix (c w:Nat -> Nat):List Nat -> Nat
 | []=>0
 | p::l=>w p*lprodR c l+ix c w l
where lprodR (c:Nat -> Nat):List Nat -> Nat
 | []=>1
 | p::l=>c p*lprodR c l
theorem Qvu (c w:Nat -> Nat):∀(l:List Nat) (r:Nat),l.foldl (fun r p=>r*c p+w p) r=r*ix.lprodR c l+ix c w l
 | [],r=>by simp [ix,ix.lprodR]
 | p::l,r=>by
  simp only [List.foldl_cons,Qvu c w l,ix,ix.lprodR]
  rw [dU,Nat.mul_assoc,cH]
theorem Q3h {c w:Nat -> Nat} {l:List Nat}:horner c w l=ix c w l:=by
 unfold horner; rw [Qvu]; simp
theorem Q19 {c:Nat -> Nat} {l:List Nat} (h:∀p∈l,c p<=4):ix.lprodR c l<=4^l.length:=by
 induction l with
 | nil=>simp [ix.lprodR]
 | cons p l ih =>
  simp only [ix.lprodR,dF,Nat.pow_succ]
  rw [cJ]
  exact Nat.mul_le_mul (ih fun q hq=>h q (cL _ hq)) (h p (by simp))
theorem Zad {c w:Nat -> Nat} {l:List Nat} (h:∀p∈l,c p<=4/\w p < c p):ix c w l < ix.lprodR c l:=by
 induction l with
 | nil=>simp [ix,ix.lprodR]
 | cons p l ih =>
  have h1:=ih fun q hq=>h q (cL _ hq)
  have h2:=(h p (by simp)).2
  simp only [ix,ix.lprodR]
  have:(w p+1)*ix.lprodR c l<=c p*ix.lprodR c l:=aR _ h2
  rw [dR] at this
  omega
theorem Q4q {c w:Nat -> Nat} {l:List Nat} (h:∀p∈l,c p<=4/\w p < c p) (h8:l.length<=8) :
  Qc8 (l.map fun p=>(c p:Int)) (l.map fun p=>(w p:Int))=some (horner c w l:Int):=by
 unfold Qc8
 have hd:∀(k:Nat) (hk:k < l.length),l.drop k=l[k]'hk::l.drop (k+1):=fun k hk=>eE hk
 refine Zw (Zi (s0:=((0:Int),(1:Int),zw (((l.map fun p=>(c p:Int)).length:Int) - 1))) (r:=(horner c w l:Int)) (fun m=>((ix c w (l.drop (l.length - m)):Int),(ix.lprodR c (l.drop (l.length - m)):Int),((l.length - m:Nat):Int) - 1)) l.length ?_ (fun m hm=>?_) ?_ (by omega)) rfl
 ·simp only [cZ,List.drop_length,ix,ix.lprodR,bW]
  rw [w64 (by omega)]
  rfl
 ·obtain ⟨k,hk⟩:∃k,l.length - m=k+1:=⟨l.length - m - 1,by omega⟩
  have hkn:k < l.length:=by omega
  have hk2:l.length - (m+1)=k:=by omega
  simp only [hk,hk2]
  have hkk:((k+1:Nat):Int) - 1=(k:Int):=by omega
  rw [hkk]
  have hmem:=h _ (bJ hkn)
  have hsub:∀p∈l.drop (k+1),c p<=4/\w p < c p:=fun p hp=>h p (bL hp)
  have b1:=Q19 (c:=c) (l:=l.drop (k+1)) (fun p hp=>(hsub p hp).1)
  have b2:(4:Nat)^(l.drop (k+1)).length<=4^8:=aT (by omega) (by rw [cR]; omega)
  have b3:=Zad hsub
  have b4:w l[k]*ix.lprodR c (l.drop (k+1))<=4*65536:=Nat.mul_le_mul (by omega) (by omega)
  have b5:ix.lprodR c (l.drop (k+1))*c l[k]<=65536*4:=Nat.mul_le_mul (by omega) hmem.1
  unfold Qdu
  simp only
  rw [aH (by simp),Qn (by simpa using hkn)]
  simp only [aC]
  rw [Qn (by simpa using hkn)]
  simp only [aC,List.getElem_map]
  have e1:(w l[k]:Int)*(ix.lprodR c (l.drop (k+1)):Int)=((w l[k]*ix.lprodR c (l.drop (k+1)):Nat):Int):=by simp
  have e2:(ix.lprodR c (l.drop (k+1)):Int)*(c l[k]:Int)=((ix.lprodR c (l.drop (k+1))*c l[k]:Nat):Int):=by simp
  have w1:zw ((w l[k]*ix.lprodR c (l.drop (k+1)):Nat):Int)=((w l[k]*ix.lprodR c (l.drop (k+1)):Nat):Int):=w64 (by omega)
  rw [e1,e2,w1,w64 (by omega),w64 (by omega),w64 (by omega),hd k hkn]
  simp only [ix,ix.lprodR]
  congr 3
  ·rw [Int.natCast_add]; omega
  ·rw [cJ]
 ·unfold Qdu
  simp only [Nat.sub_self,List.drop_zero]
  rw [aI (by simp),Q3h]
theorem Q2g (V:VN D) {v:Nat} (hv:v < D.n):Q4 D.net (v:Int)=some ((D.par v).map fun p=>(D.card p:Int)):=by
 unfold Q4
 rw [Qpn V]
 simp only [aC]
 rw [V.node hv]
 simp only [aC]
 rw [show (D.node v).Parents=(D.par v).map fun (p:Nat)=>(p:Int) from rfl,Qu1 (V.par v hv) (V.len v hv)]
 rfl
theorem Q9g (V:VN D) {w:Nat -> Nat} (hw:D.ok w) {v:Nat} (hv:v < D.n):Qfo D.net (v:Int) (Qk D.n w)=some (rowG (D.card v) fun x=>(D.W v (D.idx v w) x:Int)):=by
 unfold Qfo
 rw [V.node hv]
 simp only [aC]
 rw [Q2g V hv]
 simp only [aC]
 rw [show (D.node v).Parents=(D.par v).map fun (p:Nat)=>(p:Int) from rfl,Qu1 (V.par v hv) (V.len v hv)]
 simp only [aC]
 rw [Q4q (fun p hp=>⟨(V.card p (V.par v hv p hp)).2,hw p (V.par v hv p hp)⟩) (V.len v hv)]
 simp only [aC]
 rw [show lkI (D.node v).Rows (horner D.card w (D.par v):Int)=some (rowG (D.card v) fun x=>(D.W v (D.idx v w) x:Int)) from Qr (V.idx_lt hw hv)]
 rfl
def mix (D:NF) (i:Nat) (w:Nat -> Nat) (W:Nat):Nat -> Nat := fun j=>if j < i then w j else dig D W j
theorem Q7p (V:VN D) {i j:Nat} (hij:i<=j) (hj:j < D.n):∃M,PS D i=M*(D.card j*PS D (j+1)):=by
 obtain ⟨k,rfl⟩:=Nat.exists_eq_add_of_le hij
 induction k generalizing i with
 | zero=>exact ⟨1,by rw [eG,Nat.one_mul,Qsf (by omega)]⟩
 | succ k ih =>
  obtain ⟨M,hM⟩:=ih (i:=i+1) (by omega) (by omega)
  refine ⟨D.card i*M,?_⟩
  rw [Qsf (by omega),hM]
  rw [show i+1+k=i+(k+1) by omega,Nat.mul_assoc]
open Classical in
theorem Qre (V:VN D) {f:(Nat -> Nat)->Int} (hf:Ext D f):∀(d i:Nat) (w:Nat -> Nat),i+d=D.n ->
  Qo (PC D d i) (fun W=>if Z7 D.n E i (mix D i w W) then f (mix D i w W) else 0)=TM D E f d i w
 | 0,i,w,h=>by
  simp only [PC,Qo,TM,Int.zero_add]
  rw [aH (show Z7 D.n E i (mix D i w 0) from fun j h1 h2=>by omega)]
  exact hf _ _ fun j hj=>by unfold mix; rw [aH (by omega)]
 | d+1,i,w,h=>by
  have hi:i < D.n:=by omega
  simp only [PC,TM]
  rw [Qz0]
  refine Jm fun x hx=>?_
  have hP:PC D d (i+1)=PS D (i+1):=by unfold PS; rw [show D.n - (i+1)=d by omega]
  have hpos:=Q2w V (k:=i+1) (by omega)
  have hag:∀y,y < PC D d (i+1)->∀j,j < D.n->mix D i w (x*PC D d (i+1)+y) j=mix D (i+1) (Xh w i x) y j:=fun y hy j hj=>by
   unfold mix
   by_cases h1:j < i
   ·rw [aH h1,aH (by omega),J6 (by omega)]
   rw [aI h1]
   by_cases h2:j=i
   ·subst h2
    rw [aH (by omega),Yf]
    unfold dig
    rw [hP] at hy ⊢
    rw [cJ,Nat.mul_add_div (by omega),Nat.div_eq_of_lt hy,eG,Nat.mod_eq_of_lt hx]
   rw [aI (by omega)]
   unfold dig
   rw [hP]
   obtain ⟨M,hM⟩:=Q7p V (i:=i+1) (j:=j) (by omega) hj
   have hpj:=Q2w V (k:=j+1) (by omega)
   rw [hM,show x*(M*(D.card j*PS D (j+1)))+y=PS D (j+1)*(D.card j*(x*M))+y by
    rw [cJ (D.card j),<-Nat.mul_assoc,<-Nat.mul_assoc,cJ (PS D (j+1)),cJ (D.card j),Nat.mul_right_comm (x*M)]]
   rw [Nat.mul_add_div (by omega),Nat.mul_add_mod]
  rw [Jm (g:=fun y=>if okE E i x then (if Z7 D.n E (i+1) (mix D (i+1) (Xh w i x) y) then f (mix D (i+1) (Xh w i x) y) else 0) else 0) (fun y hy=>?_)]
  ·by_cases hok:okE E i x
   ·rw [Jm (g:=fun y=>if Z7 D.n E (i+1) (mix D (i+1) (Xh w i x) y) then f (mix D (i+1) (Xh w i x) y) else 0) (fun y _=>aH hok),Qre V hf d (i+1) _ (by omega),aH (show E i=-1\/E i=(x:Int) from hok)]
   rw [Jm (g:=fun _=>0) (fun y _=>aI hok),Qjl,aI (show ¬ (E i=-1\/E i=(x:Int)) from hok)]
  have e:=hag y hy
  have hiff:Z7 D.n E i (mix D i w (x*PC D d (i+1)+y))↔okE E i x/\Z7 D.n E (i+1) (mix D (i+1) (Xh w i x) y):=by
   constructor
   ·intro hm
    refine ⟨?_,fun j h1 h2=>?_⟩
    ·have:=hm i (by omega) hi
     rw [e i hi] at this
     unfold mix at this
     rwa [aH (by omega),Yf] at this
    have:=hm j (by omega) h2
    rwa [e j h2] at this
   rintro ⟨h1,h2⟩ j h3 h4
   rw [e j h4]
   by_cases h5:j=i
   ·subst h5; unfold mix; rwa [aH (by omega),Yf]
   exact h2 j (by omega) h4
  by_cases hok:okE E i x
  ·rw [aH hok]
   by_cases hm:Z7 D.n E (i+1) (mix D (i+1) (Xh w i x) y)
   ·rw [aH (hiff.2 ⟨hok,hm⟩),aH hm,hf _ _ e]
   rw [aI (fun c=>hm (hiff.1 c).2),aI hm]
  rw [aI (fun c=>hok (hiff.1 c).1),aI hok]
end
end Go.Ab
namespace Go.Ab
open Go
theorem Qpo {cs:List AV} (h:WT (.int .u8) cs):∃a:Int,cs=[(AV.int .u8) a]/\(Lit.int .u8 a).wf=true:=by
 obtain ⟨n,rfl,w⟩:=h
 exact ⟨n,rfl,w⟩
theorem el5 {x:AV} (h:WT (.int .u8) x.flat /\ (if false then x=.agg x.flat else x.cell=true)):∃a:Int,x=(AV.int .u8) a/\(Lit.int .u8 a).wf=true:=by
 obtain ⟨a,h1,h2⟩:=Qpo h.1
 rw [Q2s h.2] at h1
 exact ⟨a,(List.cons.inj h1).1,h2⟩
theorem Q52 {cs:List AV} (h:WT (.slice true false 1 (.int .u8)) cs):∃a:(List Int),cs=[(eL true (AV.int .u8)) a]/\(a.length<=maxLen/\∀y0∈a,(Lit.int .u8 y0).wf=true):=by
 obtain ⟨xs,rfl,hl,hx⟩:=h
 obtain ⟨l,rfl,hr⟩:=Qw5 (enc:=(AV.int .u8)) (R:=fun a=>(Lit.int .u8 a).wf=true) (fun x hm=>el5 (hx x hm))
 exact ⟨l,rfl,by simpa using hl,hr⟩
def Yk (x:Qz):Prop:=((Lit.int .u8 x.Card).wf=true)/\((Lit.int .u8 x.Parents).wf=true)/\((x.W.length<=maxLen/\∀y0∈x.W,(Lit.int .u8 y0).wf=true))
theorem Qju {cs:List AV} (h:WT (.cat (.int .u8) (.cat (.int .u8) (.cat (.slice true false 1 (.int .u8)) .unit))) cs):∃x:Qz,AV.agg cs=Ak x/\Yk x:=by
 obtain ⟨_,_,rfl,a0,r0⟩:=h
 obtain ⟨v0,e0,w0⟩:=Qpo a0
 cases e0
 obtain ⟨_,_,rfl,a1,r1⟩:=r0
 obtain ⟨v1,e1,w1⟩:=Qpo a1
 cases e1
 obtain ⟨_,_,rfl,a2,r2⟩:=r1
 obtain ⟨v2,e2,w2⟩:=Q52 a2
 cases e2
 cases r2
 exact ⟨⟨v0,v1,v2⟩,rfl,⟨w0,w1,w2⟩⟩
theorem Q95 {x:AV} (h:WT (.cat (.int .u8) (.cat (.int .u8) (.cat (.slice true false 1 (.int .u8)) .unit))) x.flat /\ (if true then x=.agg x.flat else x.cell=true)):∃a:Qz,x=Ak a/\Yk a:=by
 obtain ⟨a,h1,h2⟩:=Qju h.1
 have h3:x=.agg x.flat := h.2
 exact ⟨a,h3.trans h1,h2⟩
theorem Zab {cs:List AV} (h:WT (.slice false true 3 (.cat (.int .u8) (.cat (.int .u8) (.cat (.slice true false 1 (.int .u8)) .unit)))) cs):∃a:(List Qz),cs=[(eL false Ak) a]/\(a.length<=maxLen/\∀y0∈a,Yk y0):=by
 obtain ⟨xs,rfl,hl,hx⟩:=h
 obtain ⟨l,rfl,hr⟩:=Qw5 (enc:=Ak) (R:=fun a=>Yk a) (fun x hm=>Q95 (hx x hm))
 exact ⟨l,rfl,by simpa using hl,hr⟩
def Vt (x:Qe):Prop:=((Lit.int .u8 x.Grain).wf=true)/\((x.Nodes.length<=maxLen/\∀y0∈x.Nodes,Yk y0))/\((x.Order.length<=maxLen/\∀y0∈x.Order,(Lit.int .u8 y0).wf=true))
theorem rdTharuspexref05_Draft {cs:List AV} (h:WT (.cat (.int .u8) (.cat (.slice false true 3 (.cat (.int .u8) (.cat (.int .u8) (.cat (.slice true false 1 (.int .u8)) .unit)))) (.cat (.slice true false 1 (.int .u8)) .unit))) cs):∃x:Qe,AV.agg cs=eTharuspexref05_Draft x/\Vt x:=by
 obtain ⟨_,_,rfl,a0,r0⟩:=h
 obtain ⟨v0,e0,w0⟩:=Qpo a0
 cases e0
 obtain ⟨_,_,rfl,a1,r1⟩:=r0
 obtain ⟨v1,e1,w1⟩:=Zab a1
 cases e1
 obtain ⟨_,_,rfl,a2,r2⟩:=r1
 obtain ⟨v2,e2,w2⟩:=Q52 a2
 cases e2
 cases r2
 exact ⟨⟨v0,v1,v2⟩,rfl,⟨w0,w1,w2⟩⟩
theorem one3 {cs:List AV} (h:WT (.int .i64) cs):∃a:Int,cs=[eI a]/\(Lit.int .i64 a).wf=true:=by
 obtain ⟨n,rfl,w⟩:=h
 exact ⟨n,rfl,w⟩
def Ku (x:Za):Prop:=((Lit.int .u8 x.What).wf=true)/\((Lit.int .u8 x.At).wf=true)/\((Lit.int .u8 x.Row).wf=true)/\((Lit.int .i64 x.N).wf=true)
theorem rdTharuspexref05_Bend {cs:List AV} (h:WT (.cat (.int .u8) (.cat (.int .u8) (.cat (.int .u8) (.cat (.int .i64) .unit)))) cs):∃x:Za,AV.agg cs=eTharuspexref05_Bend x/\Ku x:=by
 obtain ⟨_,_,rfl,a0,r0⟩:=h
 obtain ⟨v0,e0,w0⟩:=Qpo a0
 cases e0
 obtain ⟨_,_,rfl,a1,r1⟩:=r0
 obtain ⟨v1,e1,w1⟩:=Qpo a1
 cases e1
 obtain ⟨_,_,rfl,a2,r2⟩:=r1
 obtain ⟨v2,e2,w2⟩:=Qpo a2
 cases e2
 obtain ⟨_,_,rfl,a3,r3⟩:=r2
 obtain ⟨v3,e3,w3⟩:=one3 a3
 cases e3
 cases r3
 exact ⟨⟨v0,v1,v2,v3⟩,rfl,⟨w0,w1,w2,w3⟩⟩
theorem one52 {cs:List AV} (h:WT (.int .u64) cs):∃a:Int,cs=[(AV.int .u64) a]/\(Lit.int .u64 a).wf=true:=by
 obtain ⟨n,rfl,w⟩:=h
 exact ⟨n,rfl,w⟩
end Go.Ab
namespace Go.Ab
open Go
theorem Q53 {p0:Qe} (h:Vt p0):Q00 p0:=by
 obtain ⟨h1,⟨h2,h3⟩,h4,h5⟩:=h
 exact ⟨bounds_u8 h1,fun x hx=>bounds_u8 (h5 x hx),fun p hp=>bounds_u8 (h3 p hp).1,fun p hp x hx=>bounds_u8 ((h3 p hp).2.2.2 x hx),fun p hp=>(h3 p hp).2.2.1⟩
structure DX (D:NF):Prop extends VX D where
 n5:D.n<=5
 c23:∀v,v < D.n->2<=D.card v/\D.card v<=3
section
variable {D:NF}
theorem DX.worlds (X:DX D):prodTo D.n D.card<=243:=by
 have h1:prodTo D.n D.card<=3^D.n:=K4 fun v hv=>(X.c23 v hv).2
 have h2:3^D.n<=3^5:=aT (by omega) X.n5
 omega
theorem Q5k {E:Nat -> Int} {f:(Nat -> Nat)->Int} (V:VN D) {m:Nat} (hm:prodTo D.n D.card<=m) (hf:∀w,D.ok w->BD 1 (f w)):BD m (SW D E f):=by
 have h1:PC D D.n 0=prodTo D.n D.card:=by have:=Qso (D:=D) D.n 0; simpa [prodTo] using this
 exact (Qw7 hf D.n 0 _ (by omega) (ok0 V)).mono (by rw [h1]; exact hm)
end
end Go.Ab
namespace Go.Ab
open Go
theorem Qen {l:List Int} {k:Nat} (hk:k<=l.length):Qh l=Qh (l.take k)+10000^k*Qh (l.drop k):=by
 conv=>lhs; rw [<-List.take_append_drop k l,Qj3]
 rw [cQ,Nat.min_eq_left hk]
theorem Qmx (m:Int):m=(m.natAbs:Int)\/m=-(m.natAbs:Int):=by omega
theorem Q8a (m:Int) (h:-9223372036854775808<=m/\m<=9223372036854775807):(if zw (0 - Int.tmod m 10000) > Int.tmod m 10000 then zw (0 - Int.tmod m 10000) else Int.tmod m 10000)=((m.natAbs % 10000:Nat):Int):=by
 rcases Qmx m with hm | hm
 ·have e:Int.tmod m 10000=((m.natAbs % 10000:Nat):Int):=by rw [Vc (by omega)]; omega
  rw [e,w64 (by omega),aI (by omega)]
 have e:Int.tmod m 10000=-((m.natAbs % 10000:Nat):Int):=by
  conv=>lhs; rw [hm,Int.neg_tmod,Vc (by omega)]
  omega
 rw [e,w64 (by omega)]
 split <;> omega
theorem Qr5 (m:Int) (h:-9223372036854775808<=m/\m<=9223372036854775807):zw (Int.tdiv m 10000)=Int.tdiv m 10000/\(Int.tdiv m 10000).natAbs=m.natAbs / 10000:=by
 rcases Qmx m with hm | hm
 ·have e:Int.tdiv m 10000=((m.natAbs / 10000:Nat):Int):=by rw [Ji (by omega)]; omega
  rw [e,w64 (by omega)]; omega
 have e:Int.tdiv m 10000=-((m.natAbs / 10000:Nat):Int):=by
  conv=>lhs; rw [hm,Int.neg_tdiv,Ji (by omega)]
  omega
 rw [e,w64 (by omega)]; omega
theorem Qbm (p:Int) (h:-9223372036854775808<=p/\p<=9223372036854775807):Xl p=some (dgs p.natAbs):=by
 unfold Xl
 have hlen:(dgs p.natAbs).length<=5:=Xj (by omega)
 rw [Qbz (fun s=>s.2++dgs s.1.natAbs=dgs p.natAbs/\-9223372036854775808<=s.1/\s.1<=9223372036854775807) (fun s=>(dgs s.1.natAbs).length) (dgs p.natAbs) ?_ (p,[]) ⟨by simp,h⟩ (by simp only []; omega)]
 ·rfl
 rintro ⟨m,out⟩ ⟨h1,h2,h3⟩
 simp only at h1 h2 h3
 by_cases hm:m=0
 ·subst hm
  rw [Int.natAbs_zero,Yb,cU] at h1
  exact .inr (by simp [Qcr,h1])
 refine .inl ⟨(Int.tdiv m 10000,out++[((m.natAbs % 10000:Nat):Int)]),?_,?_,?_⟩
 ·unfold Qcr
  simp only
  rw [aH (by simpa using hm),Q8a m ⟨h2,h3⟩,(Qr5 m ⟨h2,h3⟩).1,aH]
  have:=congrArg List.length h1
  simp only [aO,dF,List.length_nil] at this ⊢
  omega
 ·simp only
  refine ⟨?_,?_⟩
  ·rw [(Qr5 m ⟨h2,h3⟩).2,dJ,<-h1,Qea (n:=m.natAbs) (by omega)]; rfl
  have:=(Qr5 m ⟨h2,h3⟩).2; omega
 simp only
 rw [(Qr5 m ⟨h2,h3⟩).2,Qea (n:=m.natAbs) (by omega)]; simp
theorem Q40 (k:Nat):0 < 10000^k:=Nat.pow_pos (by omega)
theorem Qey {i j:Nat} (h:i<=j):10000^i<=10000^j:=aT (by omega) h
theorem Qrn {x y:List Int} {j:Nat} (hx:Xa x) (hy:Xa y) (hl:x.length=y.length) (hj:j < x.length) (hd:x.drop (j+1)=y.drop (j+1)) (hlt:x[j] < y[j]'(by omega)):Qh x < Qh y:=by
 rw [Qen (l:=x) (k:=j) (by omega),Qen (l:=y) (k:=j) (by omega),Qbl hj,Qbl (l:=y) (k:=j) (by omega),hd]
 have h1:=Kw (Qi3 hx j)
 rw [cQ,Nat.min_eq_left (by omega)] at h1
 have h2:=Qai hx hj
 have h3:=Qai hy (k:=j) (by omega)
 have h4:x[j].toNat + 1<=(y[j]'(by omega)).toNat := by omega
 have h5:10000^j*(x[j].toNat + 10000*Qh (y.drop (j+1))+1)<=10000^j*((y[j]'(by omega)).toNat + 10000*Qh (y.drop (j+1))):=Nat.mul_le_mul_left _ (by omega)
 rw [Nat.mul_add (10000^j) _ 1] at h5
 omega
def Qs4 (a b:Nat):Int:=if a < b then -1 else if a=b then 0 else 1
theorem Q6q {a b:Nat} (h:dgs a=dgs b):a=b:=by
 have:=congrArg Qh h
 rwa [Zm,Zm] at this
theorem Qnu {a b:Nat} (h:(dgs a).length < (dgs b).length):a < b:=by
 have h1:=Qin a
 have h2:=Q15 (n:=b) (by intro h0; rw [h0,Yb] at h; simp at h)
 have:=Qey (i:=(dgs a).length) (j:=(dgs b).length - 1) (by omega)
 omega
theorem Qhm (a b:Nat) (ha:(dgs a).length<=1000000) (hb:(dgs b).length<=1000000):Y9 (dgs a) (dgs b)=some (Qs4 a b):=by
 unfold Y9 Qs4
 by_cases hl:(dgs a).length=(dgs b).length
 ·rw [aI (by simp [hl])]
  have key:=Xb (body:=J8 (dgs a) (dgs b)) (fun s=>∃k:Nat,s=(k:Int) - 1/\k<=(dgs a).length/\(dgs a).drop k=(dgs b).drop k) (fun s=>(s+1).toNat)
   (fun r=>(match r with | .inl x=>some x | .inr _=>some (0:Int))=some (if a < b then (-1:Int) else if a=b then 0 else 1)) ?_
   (zw (((dgs a).length:Int) - 1)) ⟨(dgs a).length,by rw [w64 (by omega)],aY _,by rw [List.drop_length,hl,List.drop_length]⟩ (by rw [w64 (by omega)]; omega)
  ·obtain ⟨r,h1,h2⟩:=key
   rw [h1]
   exact h2
  rintro s ⟨k,rfl,hk,hd⟩
  cases k with
  | zero =>
   right
   refine ⟨.inr (),by simp [J8],?_⟩
   simp only [List.drop_zero] at hd
   have:=Q6q hd
   subst this
   simp
  | succ k =>
   have e:((k+1:Nat):Int) - 1=(k:Int):=by omega
   rw [e]
   have hka:k < (dgs a).length:=by omega
   have hkb:k < (dgs b).length:=by omega
   unfold J8
   rw [aH (by simp),Qn hka,Qn hkb]
   simp only [aC]
   by_cases hne:(dgs a)[k]=(dgs b)[k]
   ·left
    refine ⟨(k:Int) - 1,?_,⟨k,rfl,by omega,?_⟩,by omega⟩
    ·rw [aI (by simp [hne]),w64 (by omega)]
    rw [eE hka,eE hkb,hne,hd]
   right
   rw [aH (by simp [hne])]
   by_cases hlt:(dgs a)[k] < (dgs b)[k]
   ·refine ⟨.inl (-1),by simp [hlt],?_⟩
    have:=Qrn (Zx a) (Zx b) hl hka hd hlt
    rw [Zm,Zm] at this
    simp [this]
   refine ⟨.inl 1,by simp [hlt],?_⟩
   have:=Qrn (Zx b) (Zx a) hl.symm hkb hd.symm (by omega)
   rw [Zm,Zm] at this
   simp only [aK]
   rw [aI (by omega),aI (by omega)]
 rw [aH (by simp; omega)]
 by_cases hlt:(dgs a).length < (dgs b).length
 ·have:=Qnu hlt
  simp [hlt,this]
 have:=Qnu (a:=b) (b:=a) (by omega)
 rw [aI (by simp; omega),aI (by omega),aI (by omega)]
theorem Q3m {l:List Int} {k:Nat}:sub l 0 (k:Int)=l.take k:=by simp [sub]
theorem Qm6 (l:List Int) (h:Xa l) (hl:l.length<=1000000):Jr l=some (dgs (Qh l)):=by
 unfold Jr
 rw [Qbz (fun s=>Xa s/\Qh s=Qh l/\s.length<=1000000) (fun s=>s.length) (dgs (Qh l)) ?_ l ⟨h,rfl,hl⟩ (by omega)]
 ·rfl
 rintro s ⟨h1,h2,h3⟩
 unfold Qks
 by_cases hs:s.length=0
 ·right
  rw [aI (by simp [hs])]
  have:s=[]:=List.length_eq_zero_iff.1 hs
  subst this
  rw [<-h2]; simp [Qh,Yb]
 obtain ⟨k,hk⟩:∃k,s.length=k+1:=⟨s.length - 1,by omega⟩
 rw [aH (by simp; omega),w64 (by omega),show (s.length:Int) - 1=(k:Int) by omega,Qn (by omega)]
 simp only [aC]
 by_cases h0:s[k]=0
 ·left
  refine ⟨s.take k,?_,⟨Qi3 h1 k,?_,by simp; omega⟩,by simp; omega⟩
  ·rw [aH (by simp [h0]),aH (by omega),Q3m]
  rw [<-h2,Qen (l:=s) (k:=k) (by omega),Qbl (by omega),h0,List.drop_of_length_le (by omega)]; simp [Qh]
 right
 rw [aI (by simp [h0])]
 have hn:Qee s:=by
  unfold Qee
  rw [List.getLast?_eq_getElem?,hk,Nat.add_sub_cancel,aG (by omega)]
  simpa using h0
 rw [<-h2,Qwk h1 hn]
theorem Qmf {l:List Int} (h:Xa l) (hn:Qee l) {k:Nat} (hk:k < l.length):0 < Qh (l.drop k):=by
 have h1:Qee (l.drop k):=by
  unfold Qee at *
  rwa [List.getLast?_drop,aI (by omega)]
 have h2:=Qwk (Qbv h k) h1
 rcases dY (Qh (l.drop k)) with h0 | h0
 ·rw [h0,Yb] at h2
  have:=congrArg List.length h2
  simp at this; omega
 exact h0
theorem V1 {l:List Int} {k:Nat} (hk:l.length<=k):Qh (l.drop k)=0:=by rw [List.drop_of_length_le hk]; rfl
def dat (l:List Int) (k:Nat):Int:=l.getD k 0
theorem Qib {l:List Int} {k:Nat} (h:k < l.length):dat l k=l[k]:=by simp [dat,h]
theorem Qnh {l:List Int} {k:Nat} (h:l.length<=k):dat l k=0:=by simp [dat,h]
theorem Qvv {l:List Int} (h:Xa l) (k:Nat):0<=dat l k/\dat l k < 10000:=by
 rcases aZ k l.length with hk | hk
 ·rw [Qib hk]; exact Qai h hk
 rw [Qnh hk]; omega
theorem Qu5 (l:List Int) (k:Nat):Qh (l.drop k)=(dat l k).toNat + 10000*Qh (l.drop (k+1)):=by
 rcases aZ k l.length with hk | hk
 ·rw [Qib hk]; exact Qbl hk
 rw [V1 hk,V1 (by omega),Qnh hk]; rfl
theorem Q1z (l:List Int) (x:Int):Qh (l++[x])=Qh l+10000^l.length*x.toNat := by rw [Qj3]; simp [Qh]
theorem Q3s (a b:Nat) (hab:b<=a) (ha:(dgs a).length<=1000000):Qc9 (dgs a) (dgs b)=some (dgs (a - b)):=by
 unfold Qc9
 have hlb:(dgs b).length<=(dgs a).length:=by
  rcases aZ (dgs a).length (dgs b).length with h | h
  ·have:=Qnu h; omega
  exact h
 obtain ⟨M,hM⟩:∃M:Nat,M=2000005:=⟨_,rfl⟩
 obtain ⟨out,h1,h2,h3,h4⟩:∃out,Qb fuel (Qdo (dgs a) (dgs b)) (0,0,[])=some out/\Xa out/\out.length<=1000000/\Qh out=a - b:=by
  refine Xb (fun s=>∃i c:Nat,s.2.1=(i:Int)/\s.1=(c:Int)/\c<=1/\i<=(dgs a).length/\s.2.2.length=i/\Xa s.2.2/\Qh s.2.2+Qh ((dgs b).take i)=Qh ((dgs a).take i)+10000^i*c) (fun s=>M - s.2.1.toNat) _ ?_ (0,0,[])
   ⟨0,0,rfl,rfl,by omega,by omega,rfl,Ql1,by simp [Qh]⟩ (by simp only; omega)
  rintro ⟨c0,i0,out⟩ ⟨i,c,h1,h2,hc,hi,ho,hd,hv⟩
  simp only at h1 h2 ho hd hv
  subst h1; subst h2
  unfold Qdo
  simp only
  by_cases h1:i < (dgs a).length
  ·left
   have xa:=Qai (Zx a) h1
   have xb:=Qvv (Zx b) i
   have tb:Qh ((dgs b).take (i+1))=Qh ((dgs b).take i)+10000^i*(dat (dgs b) i).toNat := by
    rcases aZ i (dgs b).length with h | h
    ·rw [Qb3 h,Qib h]
    rw [Qnh h,List.take_of_length_le (by omega),List.take_of_length_le (by omega)]; simp
   have round:∀d:Int,∀c':Nat,d=(dgs a)[i] - c - dat (dgs b) i+10000*c'->0<=d->d < 10000->c'<=1->∃j e:Nat,((i:Int)+1)=(j:Int)/\(c':Int)=(e:Int)/\e<=1/\j<=(dgs a).length/\(out++[d]).length=j/\Xa (out++[d]) /\
     Qh (out++[d])+Qh ((dgs b).take j)=Qh ((dgs a).take j)+10000^j*e:=by
    intro d c' hd' h0 h9 hc'
    refine ⟨i+1,c',by omega,rfl,hc',h1,by simp [ho],?_,?_⟩
    ·rw [Qo9]; exact ⟨hd,Qf9.2 ⟨⟨h0,h9⟩,Ql1⟩⟩
    ·rw [Q1z,ho,tb,Qb3 h1,Nat.pow_succ]
     have e1:d.toNat + (dat (dgs b) i).toNat + c=(dgs a)[i].toNat + 10000*c':=by omega
     have e2:10000^i*(d.toNat + (dat (dgs b) i).toNat + c)=10000^i*((dgs a)[i].toNat + 10000*c'):=by rw [e1]
     rw [Nat.mul_add,Nat.mul_add,Nat.mul_add,<-Nat.mul_assoc] at e2
     omega
   rw [aH (by simp [h1]),Qn h1]
   simp only [aC]
   by_cases h2:i < (dgs b).length
   ·rw [aH (by simp [h2]),Qn h2]
    simp only [aC]
    rw [Qib h2] at xb round
    have hw:zw (zw ((dgs a)[i] - (c:Int)) - (dgs b)[i])=(dgs a)[i] - c - (dgs b)[i]:=by rw [w64 (n:=(dgs a)[i] - (c:Int)) (by omega),w64 (by omega)]
    rw [hw,w64 (n:=(i:Int)+1) (by omega)]
    by_cases h3:(dgs a)[i] - c - (dgs b)[i] < 0
    ·rw [aH (by simp [h3]),w64 (by omega),aH (by simp; omega)]
     exact ⟨_,rfl,round _ 1 (by omega) (by omega) (by omega) (by omega),by simp only; omega⟩
    rw [aI (by simpa using h3),aH (by simp; omega)]
    exact ⟨_,rfl,round _ 0 (by omega) (by omega) (by omega) (by omega),by simp only; omega⟩
   rw [aI (by simp; omega)]
   rw [Qnh (by omega)] at xb round
   rw [w64 (n:=(dgs a)[i] - (c:Int)) (by omega),w64 (n:=(i:Int)+1) (by omega)]
   by_cases h3:(dgs a)[i] - (c:Int) < 0
   ·rw [aH (by simp [h3]),w64 (by omega),aH (by simp; omega)]
    exact ⟨_,rfl,round _ 1 (by omega) (by omega) (by omega) (by omega),by simp only; omega⟩
   rw [aI (by simpa using h3),aH (by simp; omega)]
   exact ⟨_,rfl,round _ 0 (by omega) (by omega) (by omega) (by omega),by simp only; omega⟩
  right
  rw [aI (by simp; omega)]
  have:i=(dgs a).length:=by omega
  subst this
  rw [cM,List.take_of_length_le hlb,Zm,Zm] at hv
  have h5:=Kw hd
  rw [ho] at h5
  refine ⟨out,rfl,hd,by omega,?_⟩
  rcases dY c with h | h
  ·subst h; omega
  have:c=1:=by omega
  subst this
  omega
 rw [h1]
 simp only [aC]
 rw [Qm6 out h2 h3,h4]
 rfl
theorem Qv0 {l:List Int} {k:Nat} (hk:k < l.length) {x:Int} (hx:0<=x) (h0:0<=l[k]):Qh (l.set k x)+10000^k*l[k].toNat = Qh l+10000^k*x.toNat := by
 induction l generalizing k with
 | nil=>simp at hk
 | cons y l ih =>
  cases k with
  | zero=>simp only [List.set_cons_zero,Qh,List.getElem_cons_zero,Nat.pow_zero]; omega
  | succ k =>
   simp only [List.set_cons_succ,Qh,List.getElem_cons_succ,Nat.pow_succ] at *
   have:=ih (by simpa using hk) h0
   have e:∀z,10000^k*10000*z=10000*(10000^k*z):=fun z=>by rw [cJ (10000^k),Nat.mul_assoc]
   rw [e,e]
   omega
theorem Qpi {l:List Int} (h:Xa l) {k:Nat} {x:Int} (hx:0<=x/\x < 10000):Xa (l.set k x):=by
 intro y hy
 rcases dM hy with h1 | h1
 ·exact h y h1
 subst h1; exact hx
theorem Qk5 (n:Nat):Xa (List.replicate n (0:Int)):=fun x hx=>by
 rw [List.mem_replicate] at hx
 omega
theorem Qr8 (n:Nat):Qh (List.replicate n (0:Int))=0:=by
 induction n with
 | zero=>rfl
 | succ n ih=>simp [List.replicate_succ,Qh,ih]
theorem Qpy (x y:List Int) (hx:Xa x) (hy:∀z∈y,0<=z/\z<=10000) (hyv:Qh y<=10000^y.length) (lx:x.length<=10000) (ly:y.length<=10000):Vg x y=some (dgs (Qh x*Qh y)):=by
 unfold Vg
 obtain ⟨M,hM⟩:∃M:Nat,M=2000005:=⟨_,rfl⟩
 have hw:zw ((x.length:Int)+(y.length:Int))=((x.length+y.length:Nat):Int):=by rw [w64 (by omega)]; omega
 rw [hw,aH (by omega),aP]
 obtain ⟨out,h1,h2,h3,h4⟩:∃out,Qb fuel (Qdh x y) (0,List.replicate (x.length+y.length) 0)=some out/\Xa out/\out.length=x.length+y.length/\Qh out=Qh x*Qh y:=by
  refine Xb (fun s=>∃i:Nat,s.1=(i:Int)/\i<=x.length/\s.2.length=x.length+y.length/\Xa s.2/\Qh s.2=Qh (x.take i)*Qh y) (fun s=>M - s.1.toNat) _ ?_ (0,List.replicate (x.length+y.length) 0)
   ⟨0,rfl,by omega,by simp,Qk5 _,by simp [Qh,Qr8]⟩ (by simp only; omega)
  rintro ⟨i0,o⟩ ⟨i,h1,hi,ho,hd,hv⟩
  simp only at h1 ho hd hv
  subst h1
  unfold Qdh
  simp only
  by_cases h1:i < x.length
  ·left
   rw [aH (by simp [h1])]
   have xi:=Qai hx h1
   have tot:Qh (x.take (i+1))*Qh y < 10000^(i+1+y.length):=by
    have a1:=Kw (Qi3 hx (i+1))
    rw [cQ,Nat.min_eq_left (by omega)] at a1
    have a2:(Qh (x.take (i+1))+1)*Qh y<=10000^(i+1)*10000^y.length:=Nat.mul_le_mul a1 hyv
    rw [<-Nat.pow_add,dU] at a2
    rcases dY (Qh y) with h | h
    ·rw [h,Nat.mul_zero]; exact Nat.pow_pos (by omega)
    omega
   obtain ⟨o',e1,e2,e3,e4⟩:∃o',Qb fuel (Qdm y ((i:Int),o) x) (0,0,o)=some o'/\Xa o'/\o'.length=x.length+y.length/\Qh o'=Qh (x.take (i+1))*Qh y:=by
    refine Xb (fun s=>∃k c:Nat,s.2.1=(k:Int)/\s.1=(c:Int)/\c<=10000/\i+k<=x.length+y.length/\s.2.2.length=x.length+y.length/\Xa s.2.2/\Qh s.2.2+10000^(i+k)*c=Qh o+10000^i*(x[i].toNat * Qh (y.take k))) (fun s=>M - s.2.1.toNat) _ ?_ (0,0,o)
     ⟨0,0,rfl,rfl,by omega,by omega,ho,hd,by simp [Qh]⟩ (by simp only; omega)
    rintro ⟨c0,k0,o2⟩ ⟨k,c,g1,g2,gc,gk,go,gd,gv⟩
    simp only at g1 g2 go gd gv
    subst g1; subst g2
    have full:y.length<=k->Qh o+10000^i*(x[i].toNat * Qh (y.take k))=Qh (x.take (i+1))*Qh y:=fun h=>by
     rw [List.take_of_length_le h,hv,Qb3 h1,dU,Nat.mul_assoc]
    unfold Qdm
    simp only
    have hik:zw ((i:Int)+(k:Int))=((i+k:Nat):Int):=by rw [w64 (by omega)]; omega
    rw [hik]
    by_cases hk:k < y.length
    ·left
     have hj:i+k < o2.length:=by omega
     have yk:=hy _ (bJ hk)
     have oj:=Qai gd hj
     rw [aH (by simp [hk]),Qn hj]
     simp only [aC]
     rw [Qn h1]
     simp only [aC]
     rw [Qn hk]
     simp only [aC]
     have p1:0<=x[i]*y[k]:=Int.mul_nonneg xi.1 yk.1
     have p2:x[i]*y[k]<=9999*10000:=Int.mul_le_mul (by omega) yk.2 yk.1 (by omega)
     have hc:zw (zw ((c:Int)+o2[i+k])+zw (x[i]*y[k]))=c+o2[i+k]+x[i]*y[k]:=by
      rw [w64 (n:=(c:Int)+o2[i+k]) (by omega),w64 (n:=x[i]*y[k]) (by omega),w64 (by omega)]
     rw [hc,Ji (by omega),Vc (by omega),w64 (n:=_ / 10000) (by omega),w64 (n:=(k:Int)+1) (by omega),aP]
     generalize ht:c+o2[i+k]+x[i]*y[k]=t at *
     refine ⟨_,rfl,⟨k+1,(t / 10000).toNat,by simp only; omega,by simp only; omega,by omega,by omega,by simp [go],Qpi gd (by omega),?_⟩,by simp only; omega⟩
     simp only
     have s1:=Qv0 (l:=o2) (k:=i+k) hj (x:=t % 10000) (by omega) oj.1
     have pt:(x[i]*y[k]).toNat = x[i].toNat * y[k].toNat := Int.toNat_mul xi.1 yk.1
     have e1:(t % 10000).toNat + 10000*(t / 10000).toNat = c+o2[i+k].toNat + x[i].toNat * y[k].toNat := by omega
     have e2:10000^(i+k)*((t % 10000).toNat + 10000*(t / 10000).toNat)=10000^(i+k)*(c+o2[i+k].toNat + x[i].toNat * y[k].toNat):=by rw [e1]
     rw [Nat.mul_add,Nat.mul_add,Nat.mul_add,<-Nat.mul_assoc] at e2
     rw [Qb3 hk,Nat.mul_add,Nat.mul_add,show i+(k+1)=(i+k)+1 by omega,Nat.pow_succ]
     have e3:10000^i*(x[i].toNat * (10000^k*y[k].toNat))=10000^(i+k)*(x[i].toNat * y[k].toNat):=by
      rw [Nat.pow_add,Nat.mul_assoc,Nat.mul_left_comm (10000^k)]
     rw [e3]
     omega
    rw [aI (by simp; omega)]
    by_cases hc:0 < c
    ·left
     have hj:i+k < o2.length:=by
      rw [full (by omega)] at gv
      have:10000^(i+k)*1<=10000^(i+k)*c:=Nat.mul_le_mul_left _ hc
      have h5:10000^(i+k) < 10000^(i+1+y.length):=by omega
      have:=(Nat.pow_lt_pow_iff_right (by omega)).1 h5
      omega
     have oj:=Qai gd hj
     rw [aH (by simp [hc]),Qn hj]
     simp only [aC]
     rw [w64 (n:=(c:Int)+o2[i+k]) (by omega),Ji (by omega),Vc (by omega),w64 (n:=_ / 10000) (by omega),w64 (n:=(k:Int)+1) (by omega),aP]
     generalize ht:(c:Int)+o2[i+k]=t at *
     refine ⟨_,rfl,⟨k+1,(t / 10000).toNat,by simp only; omega,by simp only; omega,by omega,by omega,by simp [go],Qpi gd (by omega),?_⟩,by simp only; omega⟩
     simp only
     have s1:=Qv0 (l:=o2) (k:=i+k) hj (x:=t % 10000) (by omega) oj.1
     have e1:(t % 10000).toNat + 10000*(t / 10000).toNat = c+o2[i+k].toNat := by omega
     have e2:10000^(i+k)*((t % 10000).toNat + 10000*(t / 10000).toNat)=10000^(i+k)*(c+o2[i+k].toNat):=by rw [e1]
     rw [Nat.mul_add,Nat.mul_add,<-Nat.mul_assoc] at e2
     rw [List.take_of_length_le (by omega)] at gv ⊢
     rw [show i+(k+1)=(i+k)+1 by omega,Nat.pow_succ]
     omega
    right
    rw [aI (by simp; omega)]
    have:c=0:=by omega
    subst this
    rw [full (by omega)] at gv
    exact ⟨o2,rfl,gd,go,by simpa using gv⟩
   rw [e1]
   simp only [aC]
   rw [w64 (n:=(i:Int)+1) (by omega)]
   exact ⟨_,rfl,⟨i+1,by simp only; omega,by omega,e3,e2,e4⟩,by simp only; omega⟩
  right
  rw [aI (by simp; omega)]
  rw [List.take_of_length_le (by omega)] at hv
  exact ⟨o,rfl,hd,ho,hv⟩
 rw [h1]
 simp only [aC]
 rw [Qm6 out h2 (by omega),h4]
 rfl
end Go.Ab
namespace Go.Ab
open Go
theorem Qo5 (l:List Int) (k:Nat):Qh l=Qh (l.take k)+10000^k*Qh (l.drop k):=by
 rcases aZ l.length k with h | h
 ·rw [List.take_of_length_le (by omega),List.drop_of_length_le (by omega)]; simp [Qh]
 exact Qen h
theorem Qnd {l:List Int} (h:Xa l) (k:Nat):Qh (l.take k) < 10000^k:=by
 have h1:=Kw (Qi3 h k)
 have h2:=Qey (i:=(l.take k).length) (j:=k) (by simp; omega)
 omega
theorem Q6x (y x:List Int) (hy:Xa y) (hx:Xa x) (n:Nat) (ly:y.length=n+1) (lx:x.length<=n+2) (hn:n<=100000) :
  Qb fuel (Qcm y x) (0,0,((n+1:Nat):Int))=some (((Qh (y.drop (n - 1)):Nat):Int),((Qh (x.drop (n - 1)):Nat):Int)):=by
 have hb:∀t,n - 1<=t->Qh (x.drop t) < 1000000000000/\Qh (y.drop t) < 100000000:=fun t ht=>by
  have h1:=Kw (Qbv hx t)
  have h2:=Qey (i:=(x.drop t).length) (j:=3) (by simp; omega)
  have h3:=Kw (Qbv hy t)
  have h4:=Qey (i:=(y.drop t).length) (j:=2) (by simp; omega)
  omega
 refine Qbz (fun s=>∃t:Nat,s.2.2=(t:Int) - 1/\n - 1<=t/\t<=n+2/\s.1=((Qh (y.drop t):Nat):Int)/\s.2.1=((Qh (x.drop t):Nat):Int)) (fun s=>(s.2.2+1).toNat) _ ?_ _
  ⟨n+2,by simp only; omega,by omega,by omega,by rw [V1 (by omega)]; rfl,by rw [V1 (by omega)]; rfl⟩ (by simp only; omega)
 rintro ⟨top,first,kk⟩ ⟨t,h1,h2,h3,h4,h5⟩
 simp only at h1 h4 h5
 subst h1; subst h4; subst h5
 unfold Qcm
 simp only
 have hn1:zw ((y.length:Int) - 1)=(n:Int):=by rw [w64 (by omega)]; omega
 have hmx:(if zw ((n:Int) - 1) > 0 then zw ((n:Int) - 1) else 0)=((n - 1:Nat):Int):=by
  rw [w64 (by omega)]; split <;> omega
 rw [hn1,hmx]
 by_cases hge:n - 1 < t
 ·left
  obtain ⟨u,rfl⟩:∃u,t=u+1:=⟨t - 1,by omega⟩
  have e:((u+1:Nat):Int) - 1=(u:Int):=by omega
  rw [e]
  have bu:=hb u (by omega)
  have bt:=hb (u+1) (by omega)
  have vx:=Qu5 x u
  have vy:=Qu5 y u
  have dx:=Qvv hx u
  have dy:=Qvv hy u
  rw [aH (by simp; omega)]
  by_cases hxu:u < x.length
  ·rw [aH (by simp [hxu]),Qn hxu]
   simp only [aC]
   rw [Qib hxu] at vx dx
   rw [w64 (n:=((Qh (x.drop (u+1)):Nat):Int)*10000) (by omega),w64 (n:=((Qh (x.drop (u+1)):Nat):Int)*10000+x[u]) (by omega),w64 (n:=(u:Int) - 1) (by omega)]
   by_cases hyu:u<=n
   ·have hyl:u < y.length:=by omega
    rw [aH (by simp [hyu]),Qn hyl]
    simp only [aC]
    rw [Qib hyl] at vy dy
    rw [w64 (n:=((Qh (y.drop (u+1)):Nat):Int)*10000) (by omega),w64 (n:=((Qh (y.drop (u+1)):Nat):Int)*10000+y[u]) (by omega)]
    exact ⟨_,rfl,⟨u,rfl,by omega,by omega,by simp only; omega,by simp only; omega⟩,by simp only; omega⟩
   ·rw [aI (by simp; omega)]
    rw [V1 (l:=y) (k:=u+1) (by omega)]
    exact ⟨_,rfl,⟨u,rfl,by omega,by omega,by simp only [V1 (l:=y) (k:=u) (by omega)],by simp only; omega⟩,by simp only; omega⟩
  ·rw [aI (by simp; omega)]
   rw [Qnh (by omega)] at vx dx
   rw [w64 (n:=((Qh (x.drop (u+1)):Nat):Int)*10000) (by omega),w64 (n:=(u:Int) - 1) (by omega)]
   by_cases hyu:u<=n
   ·have hyl:u < y.length:=by omega
    rw [aH (by simp [hyu]),Qn hyl]
    simp only [aC]
    rw [Qib hyl] at vy dy
    rw [w64 (n:=((Qh (y.drop (u+1)):Nat):Int)*10000) (by omega),w64 (n:=((Qh (y.drop (u+1)):Nat):Int)*10000+y[u]) (by omega)]
    exact ⟨_,rfl,⟨u,rfl,by omega,by omega,by simp only; omega,by simp only; omega⟩,by simp only; omega⟩
   ·rw [aI (by simp; omega)]
    rw [V1 (l:=y) (k:=u+1) (by omega)]
    exact ⟨_,rfl,⟨u,rfl,by omega,by omega,by simp only [V1 (l:=y) (k:=u) (by omega)],by simp only; omega⟩,by simp only; omega⟩
 ·right
  have:t=n - 1:=by omega
  subst this
  rw [aI (by simp; omega)]
theorem Qoy {a b:Nat}:Qs4 a b<=0↔a<=b:=by
 unfold Qs4
 split
 ·omega
 split <;> omega
theorem Q36 (b R lo hi:Nat) (hb:0 < b) (lb:(dgs b).length<=9000) (lR:(dgs R).length<=10000) (h1:lo<=R / b) (h2:R / b<=hi) (h3:hi<=10000) :
  Qb fuel (Qch (dgs b) (dgs R)) ((lo:Int),(hi:Int))=some ((R / b:Nat):Int):=by
 refine Qbz (fun s=>∃l h:Nat,s.1=(l:Int)/\s.2=(h:Int)/\l<=R / b/\R / b<=h/\h<=10000) (fun s=>(s.2 - s.1).toNat) _ ?_ _ ⟨lo,hi,rfl,rfl,h1,h2,h3⟩ (by simp only; omega)
 rintro ⟨l0,h0⟩ ⟨l,h,e1,e2,g1,g2,g3⟩
 simp only at e1 e2
 subst e1; subst e2
 unfold Qch
 simp only
 by_cases hlt:l < h
 ·left
  rw [aH (by simp [hlt])]
  rw [w64 (n:=(l:Int)+h) (by omega),w64 (n:=(l:Int)+h+1) (by omega),Ji (by omega),w64 (by omega)]
  obtain ⟨mid,hm⟩:∃mid:Nat,((l:Int)+h+1) / 2=(mid:Int):=⟨(((l:Int)+h+1) / 2).toNat,by omega⟩
  rw [hm]
  have hv:Qh [(mid:Int)]=mid:=by simp [Qh]
  rw [Qpy (dgs b) [(mid:Int)] (Zx b) (by intro z hz; rw [bU] at hz; omega) (by rw [hv]; simp; omega) (by omega) (by simp),hv,Zm]
  simp only [aC]
  obtain ⟨L,hL⟩:∃L:Nat,L=10000:=⟨_,rfl⟩
  have lm:(dgs (b*mid)).length<=L:=by
   refine Xj ?_
   have a1:=Qin b
   have a2:b*mid<=b*10000:=Nat.mul_le_mul_left _ (by omega)
   have a3:b*10000 < 10000^((dgs b).length+1):=by rw [Nat.pow_succ]; omega
   have a5:=Qey (i:=(dgs b).length+1) (j:=L) (by omega)
   omega
  rw [Qhm _ _ (by omega) (by omega)]
  simp only [aC]
  by_cases hc:b*mid<=R
  ·have hq:mid<=R / b:=(Nat.le_div_iff_mul_le hb).2 (by rw [cJ]; exact hc)
   rw [aH (by simpa using Qoy.2 hc)]
   exact ⟨_,rfl,⟨mid,h,rfl,rfl,hq,g2,g3⟩,by simp only; omega⟩
  ·have hq:R / b < mid:=(cG hb).2 (by rw [cJ]; omega)
   rw [aI (by simpa using fun h=>hc (Qoy.1 h)),w64 (by omega)]
   exact ⟨_,rfl,⟨l,mid - 1,rfl,by simp only; omega,g1,by omega,by omega⟩,by simp only; omega⟩
 ·right
  rw [aI (by simp; omega)]
  have:l=R / b:=by omega
  rw [this]
theorem Qmy (a b:Nat) (hb:0 < b) (la:(dgs a).length<=8000) (lb:(dgs b).length<=8000):Jv (dgs a) (dgs b)=some (dgs (a / b),dgs (a % b)):=by
 unfold Jv
 obtain ⟨n,hn⟩:∃n,(dgs b).length=n+1:=by
  have:(dgs b).length≠0:=by rw [Ne,List.length_eq_zero_iff,Qhc]; omega
  exact ⟨(dgs b).length - 1,by omega⟩
 have hn1:zw (((dgs b).length:Int) - 1)=(n:Int):=by rw [w64 (by omega)]; omega
 rw [hn1]
 by_cases hle:(dgs a).length<=n
 ·rw [aH (by simp [hle]),aH (by omega)]
  have hab:=Qnu (a:=a) (b:=b) (by omega)
  rw [Nat.div_eq_of_lt hab,Nat.mod_eq_of_lt hab,Yb]
 obtain ⟨m,hm⟩:∃m,(dgs a).length=n+m/\0 < m:=⟨(dgs a).length - n,by omega,by omega⟩
 have hm1:zw (((dgs a).length:Int) - (n:Int))=(m:Int):=by rw [w64 (by omega)]; omega
 rw [aI (by simp; omega),hm1,aH (by omega),aH (by omega)]
 have hsub:sub (dgs a) (m:Int) ((dgs a).length:Int)=(dgs a).drop m:=by
  simp only [sub,aP]
  rw [List.take_of_length_le (by simp)]
 rw [hsub,aH (by simp; omega),aP,cE,w64 (by omega)]
 obtain ⟨M,hM⟩:∃M:Nat,M=2000005:=⟨_,rfl⟩
 have hpb:Xa (dgs b):=Zx b
 have hnb:Qee (dgs b):=Qv1 b
 have bpow:b < 10000^(n+1):=by have:=Qin b; rwa [hn] at this
 obtain ⟨out,h1,R,Q,h2,h3,h4,h5,h6⟩:∃out:List Int × List Int,Qb fuel (Qcn (dgs a) (dgs b)) ((dgs a).drop m,(m:Int) - 1,List.replicate m 0)=some out/\∃R Q:Nat,out.1=dgs R/\R < b/\Xa out.2/\out.2.length=m/\a=b*Qh out.2+R:=by
  refine (Xb (fun (s:List Int × Int × List Int)=>∃k R:Nat,s.2.1=(k:Int) - 1/\k<=m/\s.1=dgs R/\R < b/\s.2.2.length=m/\Xa s.2.2/\Qh ((dgs a).drop k)=b*Qh (s.2.2.drop k)+R) (fun s=>(s.2.1+1).toNat) (fun (out:List Int × List Int)=>∃R Q:Nat,out.1=dgs R/\R < b/\Xa out.2/\out.2.length=m/\a=b*Qh out.2+R) ?_ _ ?_ (by simp only; omega))
  ·rintro ⟨rest,i0,qs⟩ ⟨k,R,e1,e2,e3,e4,e5,e6,e7⟩
   simp only at e1 e3 e5 e6 e7
   subst e1; subst e3
   unfold Qcn
   simp only
   cases k with
   | zero =>
    right
    rw [aI (by simp)]
    refine ⟨_,rfl,R,0,rfl,e4,e6,e5,?_⟩
    rw [List.drop_zero,List.drop_zero,Zm] at e7
    exact e7
   | succ j =>
    left
    have e:((j+1:Nat):Int) - 1=(j:Int):=by omega
    rw [e,aH (by simp)]
    have hj:j < (dgs a).length:=by omega
    have aj:=Qai (Zx a) hj
    rw [Qn hj]
    simp only [aC]
    have lR:(dgs R).length<=n+1:=Xj (by omega)
    have hcons:Xa ([(dgs a)[j]]++dgs R):=by rw [Qo9]; exact ⟨Qf9.2 ⟨aj,Ql1⟩,Zx R⟩
    rw [aH (by simp; omega),Qm6 _ hcons (by simp; omega)]
    have hval:Qh ([(dgs a)[j]]++dgs R)=(dgs a)[j].toNat + 10000*R:=by simp [Qh,Zm]
    rw [hval]
    simp only [aC]
    generalize hR':(dgs a)[j].toNat + 10000*R=R' at *
    have R'lt:R' < 10000*b:=by omega
    have lR':(dgs R').length<=n+2:=Xj (by rw [Nat.pow_succ]; omega)
    rw [hn1,w64 (n:=(n:Int)+1) (by omega),show (n:Int)+1=((n+1:Nat):Int) by omega,Q6x (dgs b) (dgs R') hpb (Zx R') n hn lR' (by omega)]
    simp only [aC]
    have sb:=Qo5 (dgs b) (n - 1)
    have sR:=Qo5 (dgs R') (n - 1)
    rw [Zm] at sb sR
    have tb:=Qnd hpb (n - 1)
    have tR:=Qnd (Zx R') (n - 1)
    have tpos:=Qmf hpb hnb (k:=n - 1) (by omega)
    have tbig:n=0\/10000<=Qh ((dgs b).drop (n - 1)):=by
     rcases dY n with h | h
     ·exact .inl h
     right
     rw [Qbl (by omega),show n - 1+1=n by omega]
     have:=Qmf hpb hnb (k:=n) (by omega)
     omega
    have tlim:Qh ((dgs b).drop (n - 1)) < 100000000:=by
     have h3:=Kw (Qbv hpb (n - 1))
     have h4:=Qey (i:=((dgs b).drop (n - 1)).length) (j:=2) (by simp; omega)
     omega
    have flim:Qh ((dgs R').drop (n - 1)) < 1000000000000:=by
     have h3:=Kw (Qbv (Zx R') (n - 1))
     have h4:=Qey (i:=((dgs R').drop (n - 1)).length) (j:=3) (by simp; omega)
     omega
    generalize hT:Qh ((dgs b).drop (n - 1))=T at *
    generalize hF:Qh ((dgs R').drop (n - 1))=F at *
    generalize hbl:Qh ((dgs b).take (n - 1))=bl at *
    generalize hRl:Qh ((dgs R').take (n - 1))=Rl at *
    rw [w64 (n:=(T:Int)+1) (by omega),aH (by omega),aH (by omega),Ji (by omega),Ji (by omega)]
    have c1:(F:Int) / ((T:Int)+1)=((F / (T+1):Nat):Int):=by simp
    have c2:(F:Int) / (T:Int)=((F / T:Nat):Int):=by simp
    have b1:F / (T+1)<=F:=Nat.div_le_self _ _
    have b2:F / T<=F:=Nat.div_le_self _ _
    rw [c1,c2]
    have q1:F / (T+1)<=R' / b:=by
     rw [Nat.le_div_iff_mul_le hb]
     have x1:F / (T+1)*(T+1)<=F:=Nat.div_mul_le_self _ _
     have x2:b<=10000^(n - 1)*(T+1):=by rw [Nat.mul_add]; omega
     have x3:F / (T+1)*b<=F / (T+1)*(10000^(n - 1)*(T+1)):=Nat.mul_le_mul_left _ x2
     have x4:F / (T+1)*(10000^(n - 1)*(T+1))=10000^(n - 1)*(F / (T+1)*(T+1)):=by rw [Nat.mul_left_comm]
     have x5:10000^(n - 1)*(F / (T+1)*(T+1))<=10000^(n - 1)*F:=Nat.mul_le_mul_left _ x1
     omega
    have q2:R' / b<=F / T:=by
     rw [Nat.le_div_iff_mul_le tpos]
     have x1:R' / b*b<=R':=Nat.div_mul_le_self _ _
     have x2:R' / b*(10000^(n - 1)*T)<=R' / b*b:=Nat.mul_le_mul_left _ (by omega)
     have x3:R' / b*(10000^(n - 1)*T)=10000^(n - 1)*(R' / b*T):=by rw [Nat.mul_left_comm]
     have x4:10000^(n - 1)*(R' / b*T) < 10000^(n - 1)*(F+1):=by rw [Nat.mul_add (10000^(n - 1)) F]; omega
     have:=Nat.lt_of_mul_lt_mul_left x4
     omega
    have q3:F / T<=10000:=by
     have x1:10000^(n - 1)*F < 10000^(n - 1)*(10000*(T+1)):=by
      have:10000^(n - 1)*(10000*(T+1))=10000*(10000^(n - 1)*(T+1)):=Nat.mul_left_comm _ _ _
      rw [this,Nat.mul_add (10000^(n - 1))]
      omega
     have x2:=Nat.lt_of_mul_lt_mul_left x1
     rcases tbig with h | h
     ·subst h
      simp only [Nat.zero_sub,Nat.pow_zero,Nat.one_mul] at sb sR tb tR
      have:F < 10000*T:=by omega
      exact Nat.le_of_lt ((cG tpos).2 this)
     have:F < 10001*T:=by omega
     have:=(cG tpos).2 this
     omega
    have q9:R' / b < 10000:=(cG hb).2 (by omega)
    have w1:∀x:Nat,x<=F->zw (x:Int)=(x:Int):=fun x hx=>w64 (by omega)
    rw [w1 _ b1,w1 _ b2,Q36 b R' _ _ hb (by omega) (by omega) q1 q2 q3]
    simp only [aC]
    have hd:=dL R' b
    have hmod:R' - b*(R' / b)=R' % b:=by omega
    have hml:=Nat.mul_div_le R' b
    have hmb:=cF R' hb
    generalize R' / b=q at *
    generalize R' % b=r at *
    rw [Qn (l:=qs) (k:=j) (by omega)]
    simp only [aC]
    rw [Qm6 [(q:Int)] (Qf9.2 ⟨by omega,Ql1⟩) (by simp)]
    simp only [aC]
    have hv:Qh [(q:Int)]=q:=by simp [Qh]
    rw [hv]
    have lq:(dgs q).length<=1:=Xj (by omega)
    rw [Qpy (dgs b) (dgs q) hpb (fun z hz=>by have:=Zx q z hz; omega) (by rw [Zm]; exact Nat.le_of_lt (Qin _)) (by omega) (by omega),Zm,Zm]
    simp only [aC]
    rw [Q3s _ _ hml (by omega),hmod]
    simp only [aC]
    rw [w64 (n:=(j:Int) - 1) (by omega),aP]
    refine ⟨_,rfl,⟨j,r,rfl,by omega,rfl,hmb,by simp [e5],Qpi e6 (by omega),?_⟩,by simp only; omega⟩
    simp only
    have hset:(qs.set j (q:Int)).drop j=(q:Int)::qs.drop (j+1):=by
     rw [eE (by simp; omega),List.getElem_set_self,List.drop_set_of_lt (by omega)]
    rw [hset,Qbl hj,e7]
    simp only [Qh,aP]
    rw [Nat.mul_add,Nat.mul_add,Nat.mul_left_comm b 10000]
    omega
  refine ⟨m,Qh ((dgs a).drop m),rfl,aY _,?_,?_,by simp,Qk5 _,?_⟩
  ·simp only
   by_cases h0:n=0
   ·rw [List.drop_of_length_le (by omega)]; simp [Qh,Yb]
   refine (Qwk (Qbv (Zx a) m) ?_).symm
   have:=Qv1 a
   unfold Qee at *
   rwa [List.getLast?_drop,aI (by omega)]
  ·have h1:=Kw (Qbv (Zx a) m)
   have h2:=Q15 (n:=b) (by omega)
   rw [cR] at h1
   have h3:=Qey (i:=(dgs a).length - m) (j:=(dgs b).length - 1) (by omega)
   omega
  simp only
  rw [List.drop_of_length_le (l:=List.replicate m (0:Int)) (by simp)]; simp [Qh]
 rw [h1]
 simp only [aC]
 rw [Qm6 _ h4 (by omega),h2]
 simp only [aC]
 have e1:a / b=Qh out.2:=by
  rw [h6,Nat.mul_add_div hb,Nat.div_eq_of_lt h3,eG]
 have e2:a % b=R:=by
  rw [h6,Nat.mul_add_mod,Nat.mod_eq_of_lt h3]
 rw [e1,e2]
end Go.Ab
namespace Go.Ab
open Go
theorem Qi4 {a b:Nat} (h:a<=b):(dgs a).length<=(dgs b).length:=by
 rcases aZ (dgs b).length (dgs a).length with h1 | h1
 ·have:=Qnu h1; omega
 exact h1
theorem Q23 {p q:Nat} (h:2*(p+1)<=q+1):Nat.log2 (p+1) < Nat.log2 (q+1):=by
 have h1:2^Nat.log2 (p+1)<=p+1:=(Nat.le_log2 (by omega)).1 (aY _)
 have h2:Nat.log2 (p+1)+1<=Nat.log2 (q+1):=(Nat.le_log2 (by omega)).2 (by rw [Nat.pow_succ]; omega)
 omega
theorem Q3i {x K:Nat} (h:(dgs x).length<=K):Nat.log2 (x+1)<=14*K+1:=by
 have h1:=Qin x
 have h2:=Qey (i:=(dgs x).length) (j:=K) h
 have h3:(10000:Nat)^K<=(2^14)^K:=Nat.pow_le_pow_left (by omega) K
 rw [<-Nat.pow_mul] at h3
 have h4:x+1 < 2^(14*K+1):=by rw [Nat.pow_succ]; omega
 have:=(Nat.log2_lt (by omega)).2 h4
 omega
def gm (x y:Nat):Nat := if y<=x then Nat.log2 (x*y+1) else Nat.log2 (x*y+1)+1
theorem Qyx {x y:Nat} (hy:0 < y):gm y (x % y) < gm x y:=by
 have hr:=cF x hy
 unfold gm
 rw [aH (by omega)]
 by_cases h:y<=x
 ·rw [aH h]
  refine Q23 ?_
  have h1:y+x % y<=x:=by
   have:=dL x y
   have h2:1<=x / y:=(Nat.one_le_div_iff hy).2 h
   have h3:y*1<=y*(x / y):=Nat.mul_le_mul_left _ h2
   omega
  have h4:(2*(x % y)+1)*y<=x*y:=aR _ (by omega)
  rw [dU,Nat.mul_assoc,cJ (x % y) y] at h4
  omega
 rw [aI h,Nat.mod_eq_of_lt (by omega),cJ]
 omega
theorem Qv6 (x y:Nat):Nat.gcd x y=Nat.gcd y (x % y):=by
 rw [Nat.gcd_comm,Nat.gcd_rec,Nat.gcd_comm]
theorem Q1s {x y:Nat} (hx:(dgs x).length<=8000) (hy:(dgs y).length<=8000):gm x y < 1152921504606846976:=by
 have h1:=Qin x
 have h2:=Qin y
 have h3:(dgs (x*y)).length<=16000:=by
  have:(dgs (x*y)).length<=(dgs x).length+(dgs y).length:=Xj (by rw [Nat.pow_add]; exact Nat.mul_lt_mul'' h1 h2)
  omega
 have:=Q3i h3
 unfold gm
 split <;> omega
theorem Q9a (a b:Nat) (la:(dgs a).length<=8000) (lb:(dgs b).length<=8000):Qfs (dgs a) (dgs b)=some (dgs (Nat.gcd a b)):=by
 unfold Qfs
 rw [Qbz (fun s=>∃x y:Nat,s.1=dgs x/\s.2=dgs y/\(dgs x).length<=8000/\(dgs y).length<=8000/\Nat.gcd x y=Nat.gcd a b) (fun s=>gm (Qh s.1) (Qh s.2)) (dgs (Nat.gcd a b)) ?_ (dgs a,dgs b) ⟨a,b,rfl,rfl,la,lb,rfl⟩ (by simp only [Zm]; exact Q1s la lb)]
 ·rfl
 rintro ⟨x0,y0⟩ ⟨x,y,h1,h2,h3,h4,h5⟩
 simp only at h1 h2
 subst h1; subst h2
 unfold Qkt
 simp only
 by_cases hy:y=0
 ·right
  subst hy
  rw [Yb,aI (by simp)]
  rw [Nat.gcd_zero_right] at h5
  rw [h5]
 left
 have hne:(dgs y).length≠0:=by rw [Ne,List.length_eq_zero_iff,Qhc]; exact hy
 rw [aH (by simp; omega),Qmy x y (by omega) h3 h4]
 simp only [aC]
 refine ⟨_,rfl,⟨y,x % y,rfl,rfl,h4,?_,?_⟩,?_⟩
 ·have:=Qi4 (a:=x % y) (b:=y) (Nat.le_of_lt (cF _ (by omega))); omega
 ·rw [<-h5,Qv6 x y]
 simp only [Zm]
 exact Qyx (by omega)
def MX:Nat := 4611686018427387903
theorem Qwg (a:Nat) (la:(dgs a).length<=8000):Qat (dgs a)=some (if a<=MX then ((a:Int),true) else (0,false)):=by
 unfold Qat
 rw [Qbm _ (by omega)]
 simp only [aC]
 rw [show Int.natAbs 4611686018427387903=MX from rfl]
 have lm:(dgs MX).length<=5:=Xj (by decide)
 rw [Qhm _ _ (by omega) (by omega)]
 simp only [aC]
 by_cases h:a<=MX
 rotate_left
 ·rw [aH (by simpa using fun h'=>h (Qoy.1 h')),aI h]
 rw [aI (by simpa using Qoy.2 h),aH h]
 have hMX:MX=4611686018427387903:=rfl
 rw [Qbz (fun s=>∃k:Nat,s.2=(k:Int) - 1/\k<=(dgs a).length/\s.1=((Qh ((dgs a).drop k):Nat):Int)) (fun s=>(s.2+1).toNat) (a:Int) ?_ _ ⟨(dgs a).length,by simp only; rw [w64 (by omega)],aY _,by simp [Qh]⟩ (by simp only; rw [w64 (by omega)]; omega)]
 ·rfl
 rintro ⟨v,i⟩ ⟨k,h1,h2,h3⟩
 simp only at h1 h3
 subst h1; subst h3
 unfold Qiy
 simp only
 cases k with
 | zero =>
  right
  rw [aI (by simp),List.drop_zero,Zm]
 | succ j =>
  left
  have e:((j+1:Nat):Int) - 1=(j:Int):=by omega
  rw [e,aH (by simp),Qn (by omega)]
  simp only [aC]
  have hv:=Qbl (l:=dgs a) (k:=j) (by omega)
  have hd:=Qai (Zx a) (k:=j) (by omega)
  have hle:Qh ((dgs a).drop j)<=a:=by
   have h1:=Qen (l:=dgs a) (k:=j) (by omega)
   rw [Zm] at h1
   have h2:1*Qh ((dgs a).drop j)<=10000^j*Qh ((dgs a).drop j):=aR _ (Q40 j)
   omega
  rw [w64 (n:=10000*((Qh ((dgs a).drop (j+1)):Nat):Int)) (by omega),w64 (by omega),w64 (by omega)]
  exact ⟨_,rfl,⟨j,rfl,by omega,by simp only; omega⟩,by simp only; omega⟩
def mkQ (neg:Bool) (n d:Nat):Ae × Bool :=
 if n / Nat.gcd n d<=MX then (if d / Nat.gcd n d<=MX then (⟨if neg then -((n / Nat.gcd n d:Nat):Int) else ((n / Nat.gcd n d:Nat):Int),((d / Nat.gcd n d:Nat):Int)⟩,true) else (⟨0,0⟩,false)) else (⟨0,0⟩,false)
theorem Q7f (neg:Bool) (n d:Nat) (hd:0 < d) (ln:(dgs n).length<=8000) (ld:(dgs d).length<=8000):Qet neg (dgs n) (dgs d)=some (mkQ neg n d):=by
 unfold Qet mkQ
 rw [Q9a n d ln ld]
 simp only [aC]
 have hg:0 < Nat.gcd n d:=Nat.gcd_pos_of_pos_right _ hd
 have lg:=Qi4 (Nat.le_of_dvd hd (Nat.gcd_dvd_right n d))
 have l1:=Qi4 (Nat.div_le_self n (Nat.gcd n d))
 have l2:=Qi4 (Nat.div_le_self d (Nat.gcd n d))
 rw [Qmy n _ hg ln (by omega),Qmy d _ hg ld (by omega)]
 simp only [aC]
 rw [Qwg _ (by omega),Qwg _ (by omega)]
 simp only [aC]
 have hMX:MX=4611686018427387903:=rfl
 by_cases h1:n / Nat.gcd n d<=MX
 ·by_cases h2:d / Nat.gcd n d<=MX
  ·generalize n / Nat.gcd n d=x at *
   generalize d / Nat.gcd n d=y at *
   simp only [h1,h2,eJ,Bool.not_true,aS,eH]
   cases neg
   ·simp
   rw [aH rfl,w64 (by omega)]; simp
  simp only [h1,h2,eJ,eH,Bool.not_true,Bool.not_false,aS]
 simp only [h1,eH,Bool.not_false,eJ]
theorem Qzn {p:Int} (h:-9223372036854775808<=p/\p<=9223372036854775807):(dgs p.natAbs).length<=5:=Xj (by omega)
theorem Q6e (n d:Int) (hn:-9223372036854775808<=n/\n<=9223372036854775807) (hd:-9223372036854775808<=d/\d<=9223372036854775807) (h0:d≠0) :
  Qej n d=some (mkQ (!((decide (n < 0))==(decide (d < 0)))) n.natAbs d.natAbs):=by
 unfold Qej
 have l1:=Qzn hn
 have l2:=Qzn hd
 rw [Qbm n hn,Qbm d hd]
 simp only [aC]
 rw [Q7f _ _ _ (by omega) (by omega) (by omega)]
 rfl
end Go.Ab
namespace Go.Ab
open Go
theorem Qvp {n:Int} (h:0<=n/\n < 18446744073709551616):zv n=n:=by
 obtain ⟨m,rfl⟩:=Int.eq_ofNat_of_zero_le h.1
 exact Qaz (by omega)
theorem Qy4 {n:Int} (h:n < 0/\-18446744073709551616<=n):zv n=n+18446744073709551616:=by
 simp [IntKind.wrap,IntKind.bits,IntKind.signed]; omega
theorem Q1e (a b:Nat) (ha:a < 18446744073709551616) (hb:b < 18446744073709551616):Qc5 (a:Int) (b:Int)=some ((Nat.gcd a b:Nat):Int):=by
 have l1:(dgs a).length<=5:=Xj (by omega)
 have l2:(dgs b).length<=5:=Xj (by omega)
 have lim:gm a b < 1152921504606846976:=Q1s (by omega) (by omega)
 unfold Qc5
 rw [Qbz (fun s=>∃x y:Nat,s.1=(x:Int)/\s.2=(y:Int)/\Nat.gcd x y=Nat.gcd a b) (fun s=>gm s.1.toNat s.2.toNat) ((Nat.gcd a b:Nat):Int) ?_ _ ⟨a,b,rfl,rfl,rfl⟩ (by simpa using lim)]
 ·rfl
 rintro ⟨x0,y0⟩ ⟨x,y,h1,h2,h3⟩
 simp only at h1 h2
 subst h1; subst h2
 unfold Qik
 simp only
 by_cases hy:y=0
 ·right
  subst hy
  rw [aI (by simp)]
  rw [Nat.gcd_zero_right] at h3
  rw [h3]
 left
 rw [aH (by simp; omega),aH (by omega),Vc (by omega)]
 refine ⟨_,rfl,⟨y,x % y,rfl,by simp,?_⟩,?_⟩
 ·rw [<-h3,Qv6 x y]
 simp only [aP]
 rw [show ((x:Int) % (y:Int)).toNat = x % y by rw [<-Int.natCast_emod,aP]]
 exact Qyx (by omega)
theorem Qva {p:Int} (h:-9223372036854775808<=p/\p<=9223372036854775807):Ko p=some (p.natAbs:Int):=by
 unfold Ko
 by_cases h0:p < 0
 ·rw [aH (by simpa using h0)]
  have e:zv p=p+18446744073709551616:=Qy4 (by omega)
  rw [e,Qy4 (by omega)]
  congr 1; omega
 rw [aI (by simpa using h0),Qvp (by omega)]
 congr 1; omega
def Rt (q:Ae):Prop:=1<=q.D/\q.D<=4611686018427387903/\-4611686018427387903<=q.N/\q.N<=4611686018427387903/\Nat.gcd q.N.natAbs q.D.natAbs=1
instance instRt (q:Ae):Decidable (Rt q):=by unfold Rt; infer_instance
def I64 (q:Ae):Prop:=(-9223372036854775808<=q.N/\q.N<=9223372036854775807)/\(-9223372036854775808<=q.D/\q.D<=9223372036854775807)
theorem Rt.i64 {q:Ae} (h:Rt q):I64 q:=by obtain ⟨h1,h2,h3,h4,_⟩:=h; unfold I64; omega
def qI (n d:Int):Ae:=(mkQ (!((decide (n < 0))==(decide (d < 0)))) n.natAbs d.natAbs).1
theorem Q10 {n d:Int} (hd:d≠0) (hn:n.natAbs<=MX) (hd':d.natAbs<=MX):qI n d=⟨if (!((decide (n < 0))==(decide (d < 0))))=true then -((n.natAbs / Nat.gcd n.natAbs d.natAbs:Nat):Int) else ((n.natAbs / Nat.gcd n.natAbs d.natAbs:Nat):Int),((d.natAbs / Nat.gcd n.natAbs d.natAbs:Nat):Int)⟩:=by
 unfold qI mkQ
 have h1:=Nat.div_le_self n.natAbs (Nat.gcd n.natAbs d.natAbs)
 have h2:=Nat.div_le_self d.natAbs (Nat.gcd n.natAbs d.natAbs)
 rw [aH (by omega),aH (by omega)]
theorem Q96 {n d:Int} (hn:-9223372036854775808<=n/\n<=9223372036854775807) (hd:-9223372036854775808<=d/\d<=9223372036854775807) (h0:d≠0):Qhh n d=some (qI n d):=by
 unfold Qhh
 rw [Q6e n d hn hd h0]
 rfl
theorem Q69 {n d:Int} (hn:n.natAbs<=MX) (hd:d.natAbs<=MX) (h0:d≠0):Qay n d=some (qI n d,0):=by
 have hMX:MX=4611686018427387903:=rfl
 unfold Qay
 rw [aI (by simpa using h0)]
 unfold Qdi
 rw [Qva (by omega),Qva (by omega)]
 simp only [aC]
 rw [Q1e _ _ (by omega) (by omega)]
 simp only [aC]
 have hg:0 < Nat.gcd n.natAbs d.natAbs:=Nat.gcd_pos_of_pos_right _ (by omega)
 rw [aH (by omega),aH (by omega)]
 have h1:=Nat.div_le_self n.natAbs (Nat.gcd n.natAbs d.natAbs)
 have h2:=Nat.div_le_self d.natAbs (Nat.gcd n.natAbs d.natAbs)
 have e1:Int.tdiv (n.natAbs:Int) ((Nat.gcd n.natAbs d.natAbs:Nat):Int)=((n.natAbs / Nat.gcd n.natAbs d.natAbs:Nat):Int):=by rw [Ji (by omega)]; simp
 have e2:Int.tdiv (d.natAbs:Int) ((Nat.gcd n.natAbs d.natAbs:Nat):Int)=((d.natAbs / Nat.gcd n.natAbs d.natAbs:Nat):Int):=by rw [Ji (by omega)]; simp
 rw [e1,e2,Q10 h0 hn hd]
 generalize n.natAbs / Nat.gcd n.natAbs d.natAbs=x at *
 generalize d.natAbs / Nat.gcd n.natAbs d.natAbs=y at *
 rw [Qvp (by omega),Qvp (by omega)]
 unfold Ql6
 simp only
 rw [aI (by simp),aI (by simp; omega),aI (by simp),aI (by simp; omega)]
 generalize (!((decide (n < 0))==(decide (d < 0))))=b
 cases b
 ·rw [aI (by simp),aI (by simp),w64 (by omega),w64 (by omega)]; rfl
 rw [aH rfl,aH rfl,w64 (n:=(x:Int)) (by omega),w64 (n:=(y:Int)) (by omega),w64 (by omega)]
 simp
theorem Qyd {n d:Int} (hn:n.natAbs<=MX) (hd:d.natAbs<=MX) (h0:d≠0):Rt (qI n d)/\(qI n d).N*d=n*(qI n d).D:=by
 have hMX:MX=4611686018427387903:=rfl
 rw [Q10 h0 hn hd]
 have hg:0 < Nat.gcd n.natAbs d.natAbs:=Nat.gcd_pos_of_pos_right _ (by omega)
 have hc:Nat.gcd (n.natAbs / Nat.gcd n.natAbs d.natAbs) (d.natAbs / Nat.gcd n.natAbs d.natAbs)=1:=by rw [Nat.gcd_div (Nat.gcd_dvd_left _ _) (Nat.gcd_dvd_right _ _),Nat.div_self hg]
 have hx:n.natAbs=n.natAbs / Nat.gcd n.natAbs d.natAbs*Nat.gcd n.natAbs d.natAbs:=(Nat.div_mul_cancel (Nat.gcd_dvd_left _ _)).symm
 have hy:d.natAbs=d.natAbs / Nat.gcd n.natAbs d.natAbs*Nat.gcd n.natAbs d.natAbs:=(Nat.div_mul_cancel (Nat.gcd_dvd_right _ _)).symm
 have hxl:=Nat.div_le_self n.natAbs (Nat.gcd n.natAbs d.natAbs)
 have hyl:=Nat.div_le_self d.natAbs (Nat.gcd n.natAbs d.natAbs)
 have hyp:0 < d.natAbs / Nat.gcd n.natAbs d.natAbs:=Nat.div_pos (Nat.le_of_dvd (by omega) (Nat.gcd_dvd_right _ _)) hg
 generalize n.natAbs / Nat.gcd n.natAbs d.natAbs=x at *
 generalize d.natAbs / Nat.gcd n.natAbs d.natAbs=y at *
 generalize Nat.gcd n.natAbs d.natAbs=g at *
 have key:(x:Int)*(d.natAbs:Int)=(n.natAbs:Int)*(y:Int):=by
  rw [hx,hy]
  simp only [Int.natCast_mul]
  rw [Int.mul_assoc,Int.mul_comm (g:Int),Int.mul_comm (y:Int)]
 refine ⟨?_,?_⟩
 ·unfold Rt
  simp only
  refine ⟨by omega,by omega,?_,?_,?_⟩
  ·split <;> omega
  ·split <;> omega
  split
  ·rw [Int.natAbs_neg]; simpa using hc
  simpa using hc
 simp only
 by_cases h1:n < 0
 ·by_cases h2:d < 0
  ·rw [aI (by simp [h1,h2])]
   rw [show d=-(d.natAbs:Int) by omega,show n=-(n.natAbs:Int) by omega]
   rw [Int.mul_neg,Int.neg_mul,key]
  rw [aH (by simp [h1,h2])]
  rw [show d=(d.natAbs:Int) by omega,show n=-(n.natAbs:Int) by omega]
  rw [Int.neg_mul,Int.neg_mul,key]
 by_cases h2:d < 0
 ·rw [aH (by simp [h1,h2])]
  rw [show d=-(d.natAbs:Int) by omega,show n=(n.natAbs:Int) by omega]
  rw [Int.mul_neg,Int.neg_mul,Int.neg_neg,key]
 rw [aI (by simp [h1,h2])]
 rw [show d=(d.natAbs:Int) by omega,show n=(n.natAbs:Int) by omega]
 exact key
def Qjn (a b:Int):Int:=if a < b then -1 else if a=b then 0 else 1
theorem Q7t {p q:Ae} (hp:I64 p) (hq:I64 q) (hpD:0 < p.D) (hqD:0 < q.D):Qcy p q=some (Qjn (p.N*q.D) (q.N*p.D)):=by
 obtain ⟨p1,p2⟩:=hp
 obtain ⟨q1,q2⟩:=hq
 unfold Qcy
 rw [Qbm _ p1,Qbm _ q2]
 simp only [aC]
 have dgb:∀{m:Int},(-9223372036854775808<=m/\m<=9223372036854775807)->(dgs m.natAbs).length<=5:=fun h=>Qzn h
 have tm:∀(a b:Int),(-9223372036854775808<=a/\a<=9223372036854775807)->(-9223372036854775808<=b/\b<=9223372036854775807)->Vg (dgs a.natAbs) (dgs b.natAbs)=some (dgs (a.natAbs*b.natAbs)):=fun a b ha hb=>by
  have h1:=dgb ha
  have h2:=dgb hb
  have h3:=Kw (Zx b.natAbs)
  rw [Qpy _ _ (Zx _) (fun z hz=>by have:=Zx _ z hz; omega) (by omega) (by omega) (by omega),Zm,Zm]
 rw [tm _ _ p1 q2,Qbm _ q1,Qbm _ p2]
 simp only [aC]
 rw [tm _ _ q1 p2]
 simp only [aC]
 have len:∀(a b:Int),(-9223372036854775808<=a/\a<=9223372036854775807)->(-9223372036854775808<=b/\b<=9223372036854775807)->(dgs (a.natAbs*b.natAbs)).length<=10:=fun a b ha hb=>by
  refine Xj ?_
  have h1:a.natAbs<=9223372036854775808:=by omega
  have h2:b.natAbs<=9223372036854775808:=by omega
  have:=Nat.mul_le_mul h1 h2
  omega
 have len1:=len _ _ p1 q2
 have len2:=len _ _ q1 p2
 have hx:p.N*q.D=if p.N < 0 then -((p.N.natAbs*q.D.natAbs:Nat):Int) else ((p.N.natAbs*q.D.natAbs:Nat):Int):=by
  split
  ·rw [Int.natCast_mul,<-Int.neg_mul]; congr 1 <;> omega
  rw [Int.natCast_mul]; congr 1 <;> omega
 have hy:q.N*p.D=if q.N < 0 then -((q.N.natAbs*p.D.natAbs:Nat):Int) else ((q.N.natAbs*p.D.natAbs:Nat):Int):=by
  split
  ·rw [Int.natCast_mul,<-Int.neg_mul]; congr 1 <;> omega
  rw [Int.natCast_mul]; congr 1 <;> omega
 have hxp:p.N < 0->0 < p.N.natAbs*q.D.natAbs:=fun h=>Nat.mul_pos (by omega) (by omega)
 have hyp:q.N < 0->0 < q.N.natAbs*p.D.natAbs:=fun h=>Nat.mul_pos (by omega) (by omega)
 rw [hx,hy]
 generalize p.N.natAbs*q.D.natAbs=x at *
 generalize q.N.natAbs*p.D.natAbs=y at *
 unfold Qjn
 by_cases h1:p.N < 0
 ·rw [aH (by simpa using h1),aH h1]
  by_cases h2:q.N < 0
  ·rw [aH (by simpa using h2),aH h2,Qhm _ _ (by omega) (by omega)]
   simp only [aC]
   unfold Qs4
   congr 1
   by_cases a1:y < x
   ·rw [aH a1,aH (by omega)]
   rw [aI a1]
   by_cases a2:y=x
   ·rw [aH a2,aI (by omega),aH (by omega)]
   rw [aI a2,aI (by omega),aI (by omega)]
  rw [aI (by simpa using h2),aI h2,aH (by have:=hxp h1; omega)]
 rw [aI (by simpa using h1),aI h1]
 by_cases h2:q.N < 0
 ·rw [aH (by simpa using h2),aH h2,aI (by have:=hyp h2; omega),aI (by have:=hyp h2; omega)]
 rw [aI (by simpa using h2),aI h2,Qhm _ _ (by omega) (by omega)]
 simp only [aC]
 unfold Qs4
 congr 1
 by_cases a1:x < y
 ·rw [aH a1,aH (by omega)]
 rw [aI a1]
 by_cases a2:x=y
 ·rw [aH a2,aI (by omega),aH (by omega)]
 rw [aI a2,aI (by omega),aI (by omega)]
end Go.Ab
namespace Go.Ab
open Go
theorem Qtg {α:Type} (l:List α) (d:α):l=rowG l.length fun k=>l.getD k d:=by
 apply List.ext_getElem?
 intro i
 unfold rowG
 rw [bD]
 by_cases c:i < l.length
 ·rw [List.getElem?_range c,aG c]; simp [List.getD,c]
 rw [dK (by omega),dK (by simp; omega)]; rfl
theorem Qyl {n:Nat} {f:Nat -> Int}:(rowG n f).sum=Qo n f:=by
 induction n with
 | zero=>rfl
 | succ n ih=>rw [<-K6,List.sum_append,ih]; simp [Qo]
theorem Qyz {k:Nat} {f:Nat -> Int}:∀{n:Nat},(∀j,j < n->0<=f j)->k < n->f k<=Qo n f
 | n+1,h,hk=>by
  have h0:=Y2 (n:=n) (f:=f) fun j hj=>h j (by omega)
  have hn:=h n (by omega)
  simp only [Qo]
  by_cases e:k=n
  ·subst e; omega
  have:=Qyz (n:=n) (k:=k) (f:=f) (fun j hj=>h j (by omega)) (by omega); omega
theorem Q6b {D:NF} (X:VX D):Qpv D.n D.g D.node:=by
 have V:=X.vn
 have hc:∀v,v < D.n->Kz (D.node v):=fun v hv=>by
  have:=V.card v hv
  exact ⟨by show (1:Int)<=(D.card v:Int); omega,by show (D.card v:Int)<=4; omega⟩
 have ec:cardN D.node=D.card:=funext fun v=>by unfold cardN NF.node; simp
 have ep:parN D.node=D.par:=funext fun v=>by
  unfold parN NF.node
  rw [List.map_map]
  conv=>rhs; rw [<-List.map_id (D.par v)]
  exact List.map_congr_left fun x _=>by simp
 refine ⟨by have:=V.g1; omega,by have:=V.g60; omega,V.n1,V.n8,hc,by rw [ec]; exact V.worlds,fun v hv=>⟨⟨⟨D.par v,rfl,X.sorted v hv,V.par v hv⟩,fun hm=>?_⟩,?_,fun r hr=>?_⟩,by rw [ep]; obtain ⟨rk,h⟩:=X.rank; exact ⟨rk,h⟩⟩
 ·have hm:(v:Int)∈nI (D.par v):=hm
  unfold nI at hm
  obtain ⟨p,hp,e⟩:=cD.1 hm
  have:p=v:=by omega
  subst this
  exact X.self p hv hp
 ·rw [ec,ep]; show (rowG (D.rows v) _).length=_; rw [Qm]; rfl
 have hr:r∈rowG (D.rows v) fun r=>rowG (D.card v) fun x=>(D.W v r x:Int):=hr
 unfold rowG at hr
 obtain ⟨i,hi,rfl⟩:=cD.1 hr
 have hi:=cO.1 hi
 have e:=X.sum v i hv hi
 have h1:((List.range (D.card v)).map fun x=>(D.W v i x:Int))=rowG (D.card v) fun x=>(D.W v i x:Int):=rfl
 rw [h1]
 refine ⟨by rw [Qm]; rfl,fun w hw=>?_,by rw [Qyl]; exact e⟩
 unfold rowG at hw
 obtain ⟨x,_,rfl⟩:=cD.1 hw
 omega
theorem Q60 {n:Nat} {g:Int} {F:Nat -> Ad} (hf:Qpv n g F):∃D:NF,D.n=n/\VX D/\D.net=⟨g,rowG n F⟩:=by
 let D:NF:=⟨n,g.toNat,cardN F,parN F,fun v r x=>(((F v).Rows.getD r []).getD x 0).toNat⟩
 have hg:=hf.g1
 have hg60:=hf.g60
 have hrow:∀v r,v < n->r < D.rows v->∃hr:r < (F v).Rows.length,Qg6 g (F v).Card (F v).Rows[r]/\(F v).Rows.getD r []=(F v).Rows[r]:=fun v r hv hr=>by
  obtain ⟨_,h1,h2⟩:=hf.node v hv
  have h1:(F v).Rows.length=D.rows v:=h1
  have hr':r < (F v).Rows.length:=by omega
  exact ⟨hr',h2 _ (bJ hr'),by simp [List.getD,hr']⟩
 have hcell:∀v r x,v < n->r < D.rows v->x < D.card v->∃hr:r < (F v).Rows.length,∃hx:x < (F v).Rows[r].length,(D.W v r x:Int)=(F v).Rows[r][x]:=fun v r x hv hr hx=>by
  obtain ⟨hr',⟨e1,e2,_⟩,e3⟩:=hrow v r hv hr
  have hc:=Qfb (hf.card v hv)
  have hx:x < cardN F v:=hx
  have hx':x < (F v).Rows[r].length:=by omega
  refine ⟨hr',hx',?_⟩
  show ((((F v).Rows.getD r []).getD x 0).toNat : Int)=_
  rw [e3]
  have e4:(F v).Rows[r].getD x 0=(F v).Rows[r][x]:=by simp [List.getD,hx']
  rw [e4]
  have:=e2 _ (bJ hx')
  omega
 have hrw:∀v r,v < n->(hr:r < D.rows v)->∃hr':r < (F v).Rows.length,(F v).Rows[r]=rowG (D.card v) fun x=>(D.W v r x:Int):=fun v r hv hr=>by
  obtain ⟨hr',⟨e1,_,_⟩,_⟩:=hrow v r hv hr
  refine ⟨hr',?_⟩
  have hc:=Qfb (hf.card v hv)
  have el:(F v).Rows[r].length=D.card v:=by show _=cardN F v; omega
  rw [Qtg (F v).Rows[r] 0,el]
  refine Ql fun x hx=>?_
  obtain ⟨_,hx',e⟩:=hcell v r x hv hr hx
  rw [e]; simp [List.getD,hx']
 have hnode:∀v,v < n->D.node v=F v:=fun v hv=>by
  obtain ⟨p1,p2,p3⟩:=Je (hf.node v hv).1.1
  have hc:=Qfb (hf.card v hv)
  obtain ⟨_,h1,_⟩:=hf.node v hv
  have h1:(F v).Rows.length=D.rows v:=h1
  have e1:((D.card v:Nat):Int)=(F v).Card:=hc
  have e2:(D.par v).map (fun (p:Nat)=>(p:Int))=(F v).Parents:=p1.symm
  have e3:(rowG (D.rows v) fun r=>rowG (D.card v) fun x=>(D.W v r x:Int))=(F v).Rows:=by
   conv=>rhs; rw [Qtg (F v).Rows []]
   rw [h1]
   refine Ql fun r hr=>?_
   obtain ⟨hr',e⟩:=hrw v r hv hr
   rw [<-e]; simp [List.getD,hr']
  show (⟨((D.card v:Nat):Int),(D.par v).map (fun (p:Nat)=>(p:Int)),rowG (D.rows v) fun r=>rowG (D.card v) fun x=>(D.W v r x:Int)⟩:Ad)=⟨(F v).Card,(F v).Parents,(F v).Rows⟩
  rw [e1,e2,e3]
 have hsum:∀v r,v < n->r < D.rows v->Qo (D.card v) (fun x=>(D.W v r x:Int))=(D.g:Int):=fun v r hv hr=>by
  obtain ⟨hr',e⟩:=hrw v r hv hr
  obtain ⟨_,⟨_,_,e3⟩,_⟩:=hrow v r hv hr
  rw [e,Qyl] at e3
  rw [e3]; show g=(g.toNat : Int); omega
 have hD:(D.g:Int)=g:=by show (g.toNat : Int)=g; omega
 refine ⟨D,rfl,⟨⟨hf.n1,hf.n8,by omega,by omega,fun v hv=>?_,fun v hv=>(Je (hf.node v hv).1.1).2.2,fun v hv=>?_,fun v r x hv hr hx=>?_,hf.worlds⟩,fun v hv=>(Je (hf.node v hv).1.1).2.1,fun v hv hm=>?_,hf.rank,hsum⟩,?_⟩
 ·exact Qak (hf.card v hv)
 ·obtain ⟨_,p2,p3⟩:=Je (hf.node v hv).1.1
  have:=Qd8 p2 p3
  have:=hf.n8
  show (parN F v).length<=8; omega
 ·have h1:=hsum v r hv hr
  have h2:=Qyz (k:=x) (f:=fun x=>(D.W v r x:Int)) (n:=D.card v) (fun k _=>by omega) hx
  omega
 ·have hm:v∈parN F v:=hm
  obtain ⟨p1,_,_⟩:=Je (hf.node v hv).1.1
  exact (hf.node v hv).1.2 (by rw [p1]; unfold nI; exact cD.2 ⟨v,hm,rfl⟩)
 show (⟨(D.g:Int),rowG n D.node⟩:Qa)=_
 rw [hD,Ql hnode]
section
variable {D:NF}
def evJ (D:NF) (e:List Int) (j:Nat):Prop:=-1<=(e[j]?).getD 0/\(e[j]?).getD 0 < D.card j
def evL (D:NF) (e:List Int):Prop:=e.length=D.n/\∀j,j < D.n->evJ D e j
theorem Q5i {e:List Int} {j:Nat} (hj:j < e.length):lkI e (j:Int)=some ((e[j]?).getD 0):=by rw [Qn hj,aG hj]; rfl
theorem Q68 (X:VX D) (e:List Int):(evL D e/\Yh D.net e=some 0)\/(¬ evL D e/\Yh D.net e=some 2):=by
 have V:=X.vn
 have hn:=V.n8
 have hlen:D.net.Nodes.length=D.n:=Qm
 obtain ⟨order,hr⟩:=Qyu X
 unfold Yh
 rw [hr,aC,aI (by simp)]
 dsimp only
 rw [hlen]
 by_cases c:e.length=D.n
 ·rw [aI (by simp; omega)]
  have h:=Vf (n:=D.n) (by omega) (evJ D e) (fun i (_:Unit)=>i) (body:=Zv e (⟨D.net,Qk D.n D.card,Qk D.n (setN D),order⟩,0)) (fun _=>()) (.inr ()) (.inl ())
   (fun j hj hI hg=>by
    obtain ⟨g1,g2⟩:=hg
    unfold Zv
    dsimp only
    rw [c,aH (dlt hj),Q5i (by omega),aC,aI (by simp; exact g1),Z6 hj,aC,aI (by simp; exact g2)])
   (fun j hj hI hg=>by
    unfold Zv
    dsimp only
    rw [c,aH (dlt hj),Q5i (by omega),aC]
    by_cases c1:(e[j]?).getD 0 < -1
    ·rw [aH (by simpa using c1)]
    rw [aI (by simpa using c1),Z6 hj,aC,aH (by
     rw [aN]
     exact Int.not_lt.1 fun hh=>hg ⟨by omega,hh⟩)])
   (fun hI=>by unfold Zv; dsimp only; rw [c,aI (nlt _)])
  rcases h with ⟨h,e1⟩ | ⟨h,e1⟩
  ·left; refine ⟨⟨c,h⟩,?_⟩
   have e1:Qb fuel (Zv e (⟨D.net,Qk D.n D.card,Qk D.n (setN D),order⟩,0)) 0=some (.inr ()):=e1
   rw [e1]; rfl
  right; refine ⟨fun hh=>h hh.2,?_⟩
  have e1:Qb fuel (Zv e (⟨D.net,Qk D.n D.card,Qk D.n (setN D),order⟩,0)) 0=some (.inl ()):=e1
  rw [e1]; rfl
 rw [aH (by simp; omega)]
 exact .inr ⟨fun hh=>c hh.1,rfl⟩
theorem Qvq (X:VX D):Ve D.net=some true:=by
 have V:=X.vn
 have hb:NB D.n D.node:=⟨fun v hv=>by
   have:=V.len v hv
   show (List.map _ (D.par v)).length<=_; rw [bW]; omega,fun v hv=>by
   have:=V.rows_le hv
   show (rowG _ _).length<=_; rw [Qm]; omega,fun v hv r hr=>by
   have hr:r∈rowG (D.rows v) fun r=>rowG (D.card v) fun x=>(D.W v r x:Int):=hr
   unfold rowG at hr
   obtain ⟨i,_,rfl⟩:=cD.1 hr
   have:=(V.card v hv).2
   rw [bW,List.length_range]; omega⟩
 rcases Qrg (g:=D.g) hb with ⟨_,e⟩ | ⟨no,_⟩
 ·exact e
 exact absurd (Q6b X) no
end
end Go.Ab
namespace Go.Ab
open Go
theorem Qz3:Qgq=some true:=by kernel_rfl
end Go.Ab
namespace Go.Ab
open Go
def Qbb (S E:Nat -> Int):Nat -> Int:=fun j=>if S j=-1 then E j else if E j=-1\/E j=S j then S j else 100
theorem Qs1 {S E:Nat -> Int} {j x:Nat} (hx:x < 100):okE (Qbb S E) j x↔okE S j x/\okE E j x:=by
 unfold okE Qbb
 by_cases h1:S j=-1
 ·simp [h1]
 by_cases h2:E j=-1\/E j=S j
 ·rw [aI h1,aH h2]; omega
 rw [aI h1,aI h2]; omega
def NF.fr (D:NF) (m:Nat) (w:Nat -> Nat):Nat -> Nat := fun k=>prodTo k fun v=>if m.testBit v=true then 1 else D.wt w v
def NF.wh (D:NF) (m:Nat):Nat -> Nat := fun k=>prodTo k fun v=>if m.testBit v=true then 1 else D.g
def fS (D:NF) (m:Nat) (w:Nat -> Nat):Int:=(D.fr m w D.n:Int)
def Vx (n:Nat) (S:Nat -> Int):Nat := msk n fun j=>decide (0<=S j)
theorem Qu7 {n:Nat} {S:Nat -> Int} {j:Nat}:(Vx n S).testBit j=(decide (j < n) && decide (0<=S j)):=Qyq _ _ _
theorem Qs7 {a k:Nat} (ha:a < 18446744073709551616) (hk:k < 64) :
  ((zv (zb (Int.fdiv (a:Int) (2^min (Int.toNat (k:Int)) zk)) &&& zb 1).toNat)==1)=a.testBit k:=by
 rw [Qq5 ha hk]; cases a.testBit k <;> rfl
theorem Qyy {a k:Nat} (ha:a < 18446744073709551616) (hk:k < 64) :
  ((zv (zb (Int.fdiv (a:Int) (2^min (Int.toNat (k:Int)) zk)) &&& zb 1).toNat)==0)=!a.testBit k:=by
 rw [Qq5 ha hk]; cases a.testBit k <;> rfl
section
variable {D:NF} {w:Nat -> Nat} {m:Nat}
variable (V:VN D)
include V
theorem VN.aweigh0 (hw:D.ok w) {v:Nat} (hv:v < D.n):Qb fuel (Qcb (D.node v) D.net (Qk D.n w)) (0,0)=some (D.idx v w:Int):=by
 have hl:(D.node v).Parents.length=(D.par v).length:=by simp [NF.node]
 refine Zi (fun k=>((horner D.card w ((D.par v).take k):Int),(k:Int))) (D.par v).length _ rfl (fun k hk=>?_) ?_ (by have:=V.len v hv; omega)
 ·have hlen:=V.len v hv
  have hp:=V.par v hv (D.par v)[k] (bJ hk)
  have hpar:lkI (D.node v).Parents (k:Int)=some (((D.par v)[k]:Nat):Int):=by rw [Qn (by rw [hl]; exact hk)]; simp [NF.node]
  have h1:horner D.card w ((D.par v).take k) < lprod D.card ((D.par v).take k):=Qtz fun p hp=>hw p (V.par v hv p (bH hp))
  have h2:lprod D.card ((D.par v).take k)<=4^8:=bV (Qfi fun p hp=>(V.card p (V.par v hv p (bH hp))).2) (aT (by omega) (by rw [cQ]; omega))
  have h3:horner D.card w ((D.par v).take (k+1))=horner D.card w ((D.par v).take k)*D.card (D.par v)[k]+w (D.par v)[k]:=by rw [Xg hk,Quk]
  have hc:=(V.card _ hp).2
  have hww:=hw _ hp
  have h4:horner D.card w ((D.par v).take k)*D.card (D.par v)[k]<=65536*4:=Nat.mul_le_mul (by omega) hc
  unfold Qcb
  simp only
  rw [aH (by rw [hl]; simpa using hk),hpar]
  simp only [aC]
  rw [V.node hp]
  simp only [aC]
  rw [Z6 hp]
  simp only [aC]
  have e1:((horner D.card w ((D.par v).take k):Nat):Int)*(D.node (D.par v)[k]).Card=((horner D.card w ((D.par v).take k)*D.card (D.par v)[k]:Nat):Int):=by simp [NF.node]
  have w1:zw ((horner D.card w ((D.par v).take k)*D.card (D.par v)[k]:Nat):Int)=((horner D.card w ((D.par v).take k)*D.card (D.par v)[k]:Nat):Int):=w64 (by omega)
  rw [e1,w1,w64 (by omega),w64 (by omega),h3]
  simp
 unfold Qcb
 simp only
 rw [aI (by rw [hl]; simp)]
 simp [NF.idx]
theorem VN.fr_le (hw:D.ok w) {k:Nat} (hk:k<=D.n):D.fr m w k<=167961600000000:=by
 have h1:D.fr m w k<=60^k:=K4 fun v hv=>by
  split
  ·omega
  exact V.wt_le hw (by omega)
 exact bV h1 (bV (aT (by omega) (bV hk V.n8)) (by decide))
theorem VN.wh_le {k:Nat} (hk:k<=D.n):D.wh m k<=167961600000000:=by
 have h1:D.wh m k<=60^k:=K4 fun v hv=>by
  split
  ·omega
  exact V.g60
 exact bV h1 (bV (aT (by omega) (bV hk V.n8)) (by decide))
theorem VN.wh_pos {k:Nat} (hk:k<=D.n):1<=D.wh m k:=Qro fun v hv=>by
 split
 ·omega
 exact V.g1
theorem VN.aweigh (hm:m < 18446744073709551616) (hw:D.ok w):Qax D.net (m:Int) (Qk D.n w)=some (fS D m w):=by
 have hlen:D.net.Nodes.length=D.n:=Qm
 have hn8:=V.n8
 have hr:=Zy (n:=D.n) (k0:=0) (by omega) (by omega) (fun i (t:Int)=>(t,i)) (body:=Qcg D.net (m:Int) (Qk D.n w)) (fun k=>(D.fr m w k:Int)) (D.fr m w D.n:Int)
  (fun k _ hk=>by
   have hb:=V.fr_le (m:=m) hw (k:=k) (by omega)
   have hwt:=V.wt_le hw hk
   have hi:=V.idx_lt hw hk
   have hmm:D.fr m w k*D.wt w k<=167961600000000*60:=Nat.mul_le_mul hb hwt
   unfold Qcg
   rw [aH (by rw [hlen]; exact dlt hk),V.node hk,aC,aH (by omega)]
   simp only
   rw [Qs7 hm (by omega)]
   by_cases c:m.testBit k=true
   ·rw [aH c,show D.fr m w (k+1)=D.fr m w k by show D.fr m w k*(if m.testBit k=true then 1 else D.wt w k)=_; rw [aH c,Nat.mul_one]]
   rw [aI c,V.aweigh0 hw hk,aC,show lkI (D.node k).Rows (D.idx k w:Int)=some (rowG (D.card k) fun x=>(D.W k (D.idx k w) x:Int)) from Qr hi,aC,Z6 hk,aC,
    show lkI (rowG (D.card k) fun x=>(D.W k (D.idx k w) x:Int)) (w k:Int)=some (D.wt w k:Int) from Qr (hw k hk),aC,w64 (by rw [<-Int.natCast_mul]; omega),
    show D.fr m w (k+1)=D.fr m w k*D.wt w k by show D.fr m w k*(if m.testBit k=true then 1 else D.wt w k)=_; rw [aI c],Int.natCast_mul])
  (by unfold Qcg; rw [aI (by rw [hlen]; exact nlt _)])
 unfold Qax
 rw [show ((1:Int),(0:Int))=(((D.fr m w 0:Nat):Int),((0:Nat):Int)) from rfl,hr]; rfl
theorem VN.awhole (hm:m < 18446744073709551616):Qcw D.net (m:Int)=some (D.wh m D.n:Int):=by
 have hlen:D.net.Nodes.length=D.n:=Qm
 have hn8:=V.n8
 have hr:=Zy (n:=D.n) (k0:=0) (by omega) (by omega) (fun i (t:Int)=>(t,i)) (body:=Qcd D.net (m:Int)) (fun k=>(D.wh m k:Int)) (D.wh m D.n:Int)
  (fun k _ hk=>by
   have hb:=V.wh_le (m:=m) (k:=k) (by omega)
   have hg:=V.g60
   have hmm:D.wh m k*D.g<=167961600000000*60:=Nat.mul_le_mul hb hg
   unfold Qcd
   rw [aH (by rw [hlen]; exact dlt hk),aH (by omega)]
   simp only
   rw [Qyy hm (by omega)]
   by_cases c:m.testBit k=true
   ·rw [aI (by simp [c]),show D.wh m (k+1)=D.wh m k by show D.wh m k*(if m.testBit k=true then 1 else D.g)=_; rw [aH c,Nat.mul_one]]
   rw [aH (by simpa using c),show D.net.Grain=(D.g:Int) from rfl,w64 (by rw [<-Int.natCast_mul]; omega),
    show D.wh m (k+1)=D.wh m k*D.g by show D.wh m k*(if m.testBit k=true then 1 else D.g)=_; rw [aI c],Int.natCast_mul])
  (by unfold Qcd; rw [aI (by rw [hlen]; exact nlt _)])
 unfold Qcw
 rw [show ((1:Int),(0:Int))=(((D.wh m 0:Nat):Int),((0:Nat):Int)) from rfl,hr]; rfl
theorem Qvn:Ext D (fS D m):=fun w w' h=>by
 unfold fS NF.fr
 congr 1
 exact Qwl fun v hv=>by rw [Q8w V h hv]
theorem Q0t:∀w,D.ok w->BD 1 (fS D m w):=fun w hw=>by
 have:=V.fr_le (m:=m) hw (aY _)
 unfold fS BD KK; omega
theorem Qtk {w:Nat -> Nat}:0<=fS D m w:=by unfold fS; omega
end
def FWl {τ:Type} (D:NF) (K:Nat -> Nat -> Bool) (leaf:τ->(Nat -> Nat)->τ):Nat -> Nat -> (Nat -> Nat)->τ->τ
 | 0,_,w,t=>leaf t w
 | d+1,i,w,t=>(List.range (D.card i)).foldl (fun t x=>if K i x then FWl D K leaf d (i+1) (Xh w i x) t else t) t
def FXl {τ:Type} (D:NF) (K:Nat -> Nat -> Bool) (leaf:τ->(Nat -> Nat)->τ) (d i:Nat) (w:Nat -> Nat) (t:τ) (x:Nat):τ:=(List.range x).foldl (fun t x=>if K i x then FWl D K leaf d (i+1) (Xh w i x) t else t) t
theorem Qlq {τ:Type} {D:NF} {K:Nat -> Nat -> Bool} {leaf:τ->(Nat -> Nat)->τ} {d i:Nat} {w:Nat -> Nat} {t:τ} {x:Nat} :
  FXl D K leaf d i w t (x+1)=if K i x then FWl D K leaf d (i+1) (Xh w i x) (FXl D K leaf d i w t x) else FXl D K leaf d i w t x:=by
 unfold FXl; rw [List.range_succ,List.foldl_append]; rfl
theorem Qtr {τ:Type} {D:NF} {K:Nat -> Nat -> Bool} {leaf:τ->(Nat -> Nat)->τ} (hf:∀t w w',(∀j,j < D.n->w j=w' j)->leaf t w=leaf t w') :
  ∀(d i:Nat) (w w':Nat -> Nat) (t:τ),i+d=D.n->(∀j,j < i->w j=w' j)->FWl D K leaf d i w t=FWl D K leaf d i w' t
 | 0,i,w,w',t,hi,h=>hf t w w' fun j hj=>h j (by omega)
 | d+1,i,w,w',t,hi,h=>by
  unfold FWl
  have:∀(l:List Nat) (t:τ),l.foldl (fun t x=>if K i x then FWl D K leaf d (i+1) (Xh w i x) t else t) t=l.foldl (fun t x=>if K i x then FWl D K leaf d (i+1) (Xh w' i x) t else t) t:=fun l=>by
   induction l with
   | nil=>intro t; rfl
   | cons x l ih =>
    intro t
    simp only [List.foldl_cons]
    rw [ih]
    congr 1
    split
    ·exact Qtr hf d (i+1) _ _ t (by omega) fun j hj=>by
      by_cases e:j=i
      ·subst e; rw [Yf,Yf]
      rw [J6 e,J6 e]; exact h j (by omega)
    rfl
  exact this _ t
theorem Qyb {τ:Type} {D:NF} {K:Nat -> Nat -> Bool} {leaf:τ->(Nat -> Nat)->τ} {I:Nat -> τ->Prop} (mono:∀m p t,I m t->m<=p->I p t) (hl:∀m t w,I m t->D.ok w->I (m+1) (leaf t w)) :
  ∀(d i:Nat) (w:Nat -> Nat) (t:τ) (m:Nat),i+d=D.n->D.ok w->I m t->I (m+PC D d i) (FWl D K leaf d i w t)
 | 0,i,w,t,m,hi,hw,h=>hl m t w h hw
 | d+1,i,w,t,m,hi,hw,h=>by
  have:∀x,x<=D.card i->I (m+x*PC D d (i+1)) (FXl D K leaf d i w t x):=fun x=>by
   induction x with
   | zero=>intro _; simpa [FXl] using h
   | succ x ih =>
    intro hx
    rw [Qlq,dR,<-cH]
    split
    ·exact Qyb mono hl d (i+1) _ _ _ (by omega) (Qqd hw (by omega)) (ih (by omega))
    exact mono _ _ _ (ih (by omega)) (by omega)
  exact this _ (aY _)
theorem Qwc {τ σ ρ:Type} {D:NF} (V:VN D) {K:Nat -> Nat -> Bool} {leaf:τ->(Nat -> Nat)->τ} (hext:∀t w w',(∀j,j < D.n->w j=w' j)->leaf t w=leaf t w')
  {I:Nat -> τ->Prop} (mono:∀m p t,I m t->m<=p->I p t) (hl:∀m t w,I m t->D.ok w->I (m+1) (leaf t w))
  (mkS:Int->τ->List Int->σ) (mkT:τ->List Int->ρ) {F:(σ->Option ρ)->σ->Option ρ} {B:(σ->Option ρ)->Nat -> τ->(Nat -> Nat)->σ->Option (Qf σ ρ)}
  (hleaf:∀r m t w,D.ok w->I m t->m+1<=1024->F r (mkS (D.n:Int) t (Qk D.n w))=some (mkT (leaf t w) (Qk D.n w)))
  (hnode:∀r i t w z,i < D.n->D.ok w->Qb fuel (B r i t w) (mkS 0 t (Qk D.n w))=some z->F r (mkS (i:Int) t (Qk D.n w))=some z)
  (hyes:∀r i t0 w0 x t w z w',i < D.n->D.ok w->x < D.card i->K i x=true->r (mkS ((i+1:Nat):Int) t (Qk D.n (Xh w i x)))=some (mkT z (Qk D.n w'))->B r i t0 w0 (mkS (x:Int) t (Qk D.n w))=some (.next (mkS ((x+1:Nat):Int) z (Qk D.n w'))))
  (hno:∀r i t0 w0 x t w,i < D.n->D.ok w->x < D.card i->K i x=false->B r i t0 w0 (mkS (x:Int) t (Qk D.n w))=some (.next (mkS ((x+1:Nat):Int) t (Qk D.n w))))
  (hend:∀r i t0 w0 t w,i < D.n->D.ok w->B r i t0 w0 (mkS (D.card i:Int) t (Qk D.n w))=some (.done (mkT t (Qk D.n w)))) :
  ∀(d N:Nat),d < N->∀(i m:Nat) (w:Nat -> Nat) (t:τ),i+d=D.n->D.ok w->I m t->m+PC D d i<=1024 ->
   ∃w',D.ok w'/\(∀j,j < i->w' j=w j)/\Qfh F N (mkS (i:Int) t (Qk D.n w))=some (mkT (FWl D K leaf d i w t) (Qk D.n w'))
 | 0,N+1,_,i,m,w,t,hi,hw,hI,hm=>by
  have e:i=D.n:=by omega
  subst e
  refine ⟨w,hw,fun _ _=>rfl,?_⟩
  show F (Qfh F N) _=_
  exact hleaf _ m t w hw hI hm
 | d+1,N+1,hN,i,m,w,t,hi,hw,hI,hm=>by
  have hin:i < D.n:=by omega
  have hc:=V.card i hin
  have hPC:PC D (d+1) i=D.card i*PC D d (i+1):=rfl
  have key:∀x,x<=D.card i->I (m+x*PC D d (i+1)) (FXl D K leaf d i w t x):=fun x=>by
   induction x with
   | zero=>intro _; simpa [FXl] using hI
   | succ x ih =>
    intro hx
    rw [Qlq,dR,<-cH]
    split
    ·exact Qyb mono hl d (i+1) _ _ _ (by omega) (Qqd hw (by omega)) (ih (by omega))
    exact mono _ _ _ (ih (by omega)) (by omega)
  have hloop:∀x w',x<=D.card i->D.ok w'->(∀j,j < i->w' j=w j)->∀k,D.card i - x < k ->
    ∃w2,D.ok w2/\(∀j,j < i->w2 j=w j)/\Qb k (B (Qfh F N) i t w) (mkS (x:Int) (FXl D K leaf d i w t x) (Qk D.n w'))=some (mkT (FXl D K leaf d i w t (D.card i)) (Qk D.n w2)):=by
   intro x w' hx hw' hag k
   induction hk:D.card i - x generalizing x w' k with
   | zero =>
    intro hk'
    obtain ⟨k,rfl⟩:∃k',k=k'+1:=⟨k - 1,by omega⟩
    have:x=D.card i:=by omega
    subst this
    refine ⟨w',hw',hag,?_⟩
    unfold Qb
    rw [hend _ i t w _ w' hin hw']
   | succ q ih =>
    intro hk'
    obtain ⟨k,rfl⟩:∃k',k=k'+1:=⟨k - 1,by omega⟩
    have hlt:x < D.card i:=by omega
    by_cases c:K i x=true
    ·have hxm:m+x*PC D d (i+1)+PC D d (i+1)<=1024:=by
      have:(x+1)*PC D d (i+1)<=D.card i*PC D d (i+1):=aR _ hlt
      rw [dR] at this
      omega
     obtain ⟨w2,k1,k2,k3⟩:=Qwc V hext mono hl mkS mkT hleaf hnode hyes hno hend d N (by omega) (i+1) (m+x*PC D d (i+1)) (Xh w' i x) (FXl D K leaf d i w t x) (by omega) (Qqd hw' hlt) (key x (by omega)) hxm
     have e1:FXl D K leaf d i w t (x+1)=FWl D K leaf d (i+1) (Xh w' i x) (FXl D K leaf d i w t x):=by
      rw [Qlq,aH c]
      exact Qtr hext d (i+1) _ _ _ (by omega) fun j hj=>by
       by_cases e:j=i
       ·subst e; rw [Yf,Yf]
       rw [J6 e,J6 e]; exact (hag j (by omega)).symm
     rw [<-e1] at k3
     obtain ⟨w3,j1,j2,j3⟩:=ih (x+1) w2 (by omega) k1 (fun j hj=>by rw [k2 j (by omega),J6 (by omega),hag j hj]) k (by omega) (by omega)
     refine ⟨w3,j1,j2,?_⟩
     unfold Qb
     rw [hyes _ i t w x _ w' _ w2 hin hw' hlt c k3]
     exact j3
    have c':K i x=false:=by simpa using c
    obtain ⟨w3,j1,j2,j3⟩:=ih (x+1) w' (by omega) hw' hag k (by omega) (by omega)
    refine ⟨w3,j1,j2,?_⟩
    unfold Qb
    rw [hno _ i t w x _ w' hin hw' hlt c']
    rw [Qlq,aI c] at j3
    exact j3
  obtain ⟨w2,k1,k2,k3⟩:=hloop 0 w (by omega) hw (fun _ _=>rfl) fuel (by unfold fuel; omega)
  refine ⟨w2,k1,k2,?_⟩
  show F (Qfh F N) _=_
  exact hnode _ i t w _ hin hw k3
end Go.Ab
namespace Go.Ab
open Go
theorem Qew {D:NF} {τ:Type} {p:τ->Int} {K:Nat -> Nat -> Bool} {g:Nat -> τ->τ} {h:Nat -> Int} {i:Nat} (hh:∀x t,K i x=true->p (g x t)=p t+h x) :
  ∀(n:Nat) (t:τ),p ((List.range n).foldl (fun t x=>if K i x then g x t else t) t)=p t+Qo n fun x=>if K i x=true then h x else 0
 | 0,t=>by simp [Qo]
 | n+1,t=>by
  rw [List.range_succ,List.foldl_append]
  simp only [List.foldl_cons,List.foldl_nil,Qo]
  split
  ·rename_i c; rw [hh _ _ c,Qew (D:=D) hh n t]; omega
  rw [Qew (D:=D) hh n t]; omega
def KE (E:Nat -> Int):Nat -> Nat -> Bool:=fun i x=>decide (okE E i x)
theorem Qv7 {D:NF} {τ:Type} {E:Nat -> Int} {leaf:τ->(Nat -> Nat)->τ} {p:τ->Int} {f:(Nat -> Nat)->Int} (h:∀t w,p (leaf t w)=p t+f w) :
  ∀(d i:Nat) (w:Nat -> Nat) (t:τ),p (FWl D (KE E) leaf d i w t)=p t+TM D E f d i w
 | 0,i,w,t=>h t w
 | d+1,i,w,t=>by
  unfold FWl
  rw [Qew (D:=D) (p:=p) (h:=fun x=>TM D E f d (i+1) (Xh w i x)) (fun x t _=>Qv7 h d (i+1) _ t)]
  congr 1
  refine Jm fun x _=>?_
  unfold KE
  by_cases c:okE E i x
  ·rw [aH (by simpa using c)]; exact (aH (show E i=-1\/E i=(x:Int) from c)).symm
  rw [aI (by simpa using c)]; exact (aI (show ¬ (E i=-1\/E i=(x:Int)) from c)).symm
def Qjk (D:NF) (S E:Nat -> Int):Int:=SW D (Qbb S E) (fS D (Vx D.n S))
theorem Q8g {D:NF}:PC D D.n 0=prodTo D.n D.card:=by have:=Qso (D:=D) D.n 0; simpa [prodTo] using this
theorem Q4e {n i x:Nat} {w:Nat -> Nat}:(Qk n w).set i (x:Int)=Qk n (Xh w i x):=by
 unfold Qk; rw [Yc]
 refine Ql fun j _=>?_
 unfold Xh
 split <;> rfl
theorem Q5q {n:Nat}:List.replicate (Int.toNat (n:Int)) (0:Int)=Qk n fun _=>0:=by rw [aP]; exact Qbx n 0
section
variable {D:NF} {S E:Nat -> Int}
theorem Qmp {f:(Nat -> Nat)->Int} {K:Nat -> Int} (hf:∀w,0<=f w):∀(d i:Nat) (w:Nat -> Nat),0<=TM D K f d i w
 | 0,i,w=>hf w
 | d+1,i,w=>Y2 fun x _=>by
  split
  ·exact Qmp hf d (i+1) _
  exact Int.le_refl _
theorem Q05 (V:VN D) {m:Nat} {K:Nat -> Int}:0<=SW D K (fS D m)/\(SW D K (fS D m)).natAbs<=MX:=by
 have h1:0<=SW D K (fS D m):=Qmp (fun w=>Qtk V) _ _ _
 have h2:=Q5k V (m:=1024) (E:=K) V.worlds (Q0t V (m:=m))
 unfold BD KK at h2
 refine ⟨h1,?_⟩
 unfold MX; omega
theorem Qv8 (V:VN D) {m:Nat}:((D.wh m D.n:Nat):Int)≠0/\((D.wh m D.n:Nat):Int).natAbs<=MX:=by
 have h1:=V.wh_pos (m:=m) (aY _)
 have h2:=V.wh_le (m:=m) (aY _)
 constructor
 ·omega
 unfold MX; omega
theorem Q11 (X:VX D) (ls:List (Nat -> Int)) (hl:ls.length<=2) (h:∀S∈ls,Qj7 D S):Y1 D.net (ls.map (rowG D.n))=some 0:=by
 obtain ⟨order,hr⟩:=Qyu X
 have hr2:=Zy (n:=ls.length) (k0:=0) (by omega) (by omega) (fun i (_:Unit)=>i) (body:=Qb7 (ls.map (rowG D.n)) D.net) (fun _=>()) (.inr ())
  (fun k _ hk=>by
   unfold Qb7
   rw [aH (by rw [bW]; exact dlt hk),Qn (by rw [bW]; exact hk),aC]
   have hc:Yh D.net (rowG D.n ls[k])=some 0:=by
    rcases Q68 X (rowG D.n ls[k]) with ⟨_,c⟩ | ⟨c,_⟩
    ·exact c
    refine absurd ⟨Qm,fun j hj=>?_⟩ c
    unfold evJ
    have e:((rowG D.n ls[k])[j]?).getD 0=ls[k] j:=by unfold rowG; rw [bD,List.getElem?_range hj]; rfl
    rw [e]; exact h _ (bJ hk) j hj
   rw [List.getElem_map,hc,aC,aI (by decide)])
  (by unfold Qb7; rw [aI (by rw [bW]; exact nlt _)])
 unfold Y1 Qfp
 rw [hr]
 simp only [aC]
 rw [aI (by simp),show ((0:Int))=((0:Nat):Int) from rfl,hr2]; rfl
end
end Go.Ab
namespace Go.Ab
open Go
open Classical
section
variable {D:NF} {S E:Nat -> Int}
theorem Qw0 (V:VN D) {f:(Nat -> Nat)->Int} (hf:Ext D f) {K:Nat -> Int}:SW D K f=Qo (prodTo D.n D.card) (fun W=>if Z7 D.n K 0 (dig D W) then f (dig D W) else 0):=by
 have hmix:∀W,mix D 0 (fun _=>0) W=dig D W:=fun W=>by funext j; simp [mix]
 unfold SW
 rw [<-Qre V hf D.n 0 (fun _=>0) (by omega),Q8g]
 exact Jm fun W _=>by rw [hmix]
theorem Qq8 {w:Nat -> Nat} (hw:∀j,j < D.n->w j < 100):Z7 D.n (Qbb S E) 0 w↔Z7 D.n S 0 w/\Z7 D.n E 0 w:=by
 constructor
 ·intro h
  exact ⟨fun j h1 h2=>((Qs1 (hw j h2)).1 (h j h1 h2)).1,fun j h1 h2=>((Qs1 (hw j h2)).1 (h j h1 h2)).2⟩
 rintro ⟨h1,h2⟩ j h3 h4
 exact (Qs1 (hw j h4)).2 ⟨h1 j h3 h4,h2 j h3 h4⟩
theorem Q2x (V:VN D) {W:Nat}:∀j,j < D.n->dig D W j < 100:=fun j hj=>by
 have h1:=Qq2 V W j hj
 have h2:=(V.card j hj).2
 omega
theorem Qyv {S:Nat -> Int} (hS:Qj7 D S) {k:Nat} (hk:k < D.n):(Vx D.n S).testBit k=decide (0<=S k):=by
 rw [Qu7]; simp [hk]
theorem Q6m (V:VN D) (hS:Qj7 D S):Qb fuel (K0 (rowG D.n S) D.net) (1,0)=some (D.wh (Vx D.n S) D.n:Int):=by
 have hn8:=V.n8
 have hr:=Zy (n:=D.n) (k0:=0) (by omega) (by omega) (fun i (t:Int)=>(t,i)) (body:=K0 (rowG D.n S) D.net) (fun k=>(D.wh (Vx D.n S) k:Int)) (D.wh (Vx D.n S) D.n:Int)
  (fun k _ hk=>by
   have hb:=V.wh_le (m:=Vx D.n S) (k:=k) (by omega)
   have hg:=V.g60
   have hmm:D.wh (Vx D.n S) k*D.g<=167961600000000*60:=Nat.mul_le_mul hb hg
   have hs:D.wh (Vx D.n S) (k+1)=D.wh (Vx D.n S) k*(if (Vx D.n S).testBit k=true then 1 else D.g):=rfl
   unfold K0
   rw [aH (by rw [Qm]; exact dlt hk),show lkI (rowG D.n S) (k:Int)=some (S k) from Qr hk,aC]
   simp only
   rw [hs,Qyv hS hk]
   by_cases c:S k < 0
   ·rw [aH (by simpa using c),aI (by simp; omega),show D.net.Grain=(D.g:Int) from rfl,w64 (by rw [<-Int.natCast_mul]; omega),Int.natCast_mul]
   rw [aI (by simpa using c),aH (by simp; omega),Nat.mul_one])
  (by unfold K0; rw [aI (by rw [Qm]; exact nlt _)])
 exact hr
theorem Q66 (V:VN D) (hS:Qj7 D S) {w:Nat -> Nat} (hw:D.ok w):Qb fuel (Kx (Qk D.n w) (rowG D.n S) D.net) (1,0)=some (fS D (Vx D.n S) w):=by
 have hn8:=V.n8
 have hr:=Zy (n:=D.n) (k0:=0) (by omega) (by omega) (fun i (t:Int)=>(t,i)) (body:=Kx (Qk D.n w) (rowG D.n S) D.net) (fun k=>(D.fr (Vx D.n S) w k:Int)) (D.fr (Vx D.n S) w D.n:Int)
  (fun k _ hk=>by
   have hb:=V.fr_le (m:=Vx D.n S) hw (k:=k) (by omega)
   have hwt:=V.wt_le hw hk
   have hmm:D.fr (Vx D.n S) w k*D.wt w k<=167961600000000*60:=Nat.mul_le_mul hb hwt
   have hs:D.fr (Vx D.n S) w (k+1)=D.fr (Vx D.n S) w k*(if (Vx D.n S).testBit k=true then 1 else D.wt w k):=rfl
   unfold Kx
   rw [aH (by rw [Xn]; exact dlt hk),show lkI (rowG D.n S) (k:Int)=some (S k) from Qr hk,aC]
   simp only
   rw [hs,Qyv hS hk]
   by_cases c:S k < 0
   ·rw [aH (by simpa using c),aI (by simp; omega),Q9g V hw hk,aC,Z6 hk,aC,
     show lkI (rowG (D.card k) fun x=>(D.W k (D.idx k w) x:Int)) (w k:Int)=some (D.wt w k:Int) from Qr (hw k hk),aC,w64 (by rw [<-Int.natCast_mul]; omega),Int.natCast_mul]
   rw [aI (by simpa using c),aH (by simp; omega),Nat.mul_one])
  (by unfold Kx; rw [aI (by rw [Xn]; exact nlt _)])
 exact hr
theorem Q62 (V:VN D) (hS:Qj7 D S) (hE:Qj7 D E):Qfn D.net (rowG D.n S) (rowG D.n E)=some (Qjk D S E,(D.wh (Vx D.n S) D.n:Int)):=by
 have hn8:=V.n8
 have hw:=V.worlds
 obtain ⟨m,hm⟩:∃m,m=Vx D.n S:=⟨_,rfl⟩
 have key:Qjk D S E=Qo (prodTo D.n D.card) (fun W=>if Z7 D.n (Qbb S E) 0 (dig D W) then fS D m (dig D W) else 0):=by
  unfold Qjk; rw [<-hm]; exact Qw0 V (Qvn V)
 have hb:∀k,BD (k*1) (Qo k (fun W=>if Z7 D.n (Qbb S E) 0 (dig D W) then fS D m (dig D W) else 0)):=fun k=>BD.sum fun W _=>by
  split
  ·exact Q0t V _ (Qq2 V W)
  exact BD.zero
 unfold Qfn
 rw [Q6m V hS,aC]
 refine Zw (Zi (s0:=((0:Int),(0:Int))) (r:=Qjk D S E) (fun k=>(Qo k (fun W=>if Z7 D.n (Qbb S E) 0 (dig D W) then fS D m (dig D W) else 0),(k:Int))) (prodTo D.n D.card) rfl (fun k hk=>?_) ?_ (by omega)) rfl
 ·have e:zw ((k:Int)+1)=((k+1:Nat):Int):=Qkr (by omega)
  have hfit:=(hb (k+1)).fit (by omega)
  have hmb:=Qq8 (S:=S) (E:=E) (Q2x V (W:=k))
  unfold Qe1
  simp only
  rw [Qt0 V]
  simp only [aC]
  rw [aH (by simpa using hk),Q1r V (by omega)]
  simp only [aC]
  have no:¬ Z7 D.n (Qbb S E) 0 (dig D k)->Qo (k+1) (fun W=>if Z7 D.n (Qbb S E) 0 (dig D W) then fS D m (dig D W) else 0)=Qo k (fun W=>if Z7 D.n (Qbb S E) 0 (dig D W) then fS D m (dig D W) else 0):=fun c=>by
   simp only [Qo]; rw [aI c]; omega
  by_cases hs:Z7 D.n S 0 (dig D k)
  ·rw [Qmw hn8 (fun j hj=>(hS j hj).1) hs]
   simp only [aC]
   rw [aI (by simp)]
   by_cases he:Z7 D.n E 0 (dig D k)
   ·rw [Qmw hn8 (fun j hj=>(hE j hj).1) he]
    simp only [aC]
    rw [aI (by simp),Q66 V hS (Qq2 V k),<-hm]
    simp only [aC]
    have e2:Qo (k+1) (fun W=>if Z7 D.n (Qbb S E) 0 (dig D W) then fS D m (dig D W) else 0)=Qo k (fun W=>if Z7 D.n (Qbb S E) 0 (dig D W) then fS D m (dig D W) else 0)+fS D m (dig D k):=by
     simp only [Qo]; rw [aH (hmb.2 ⟨hs,he⟩)]
    rw [e2] at hfit ⊢
    rw [w64 hfit,e]
   rw [Qmc hn8 (fun j hj=>(hE j hj).1) he]
   simp only [aC]
   rw [aH (by simp),no (fun c=>he (hmb.1 c).2),e]
  rw [Qmc hn8 (fun j hj=>(hS j hj).1) hs]
  simp only [aC]
  rw [aH (by simp),no (fun c=>hs (hmb.1 c).1),e]
 unfold Qe1
 simp only
 rw [Qt0 V]
 simp only [aC]
 rw [aI (by simp),key]
theorem Qym {a:Int} (h:a.natAbs<=MX):-9223372036854775808<=a/\a<=9223372036854775807:=by unfold MX at h; omega
theorem Q16 (V:VN D) (hS:Qj7 D S) (hE:Qj7 D E):Jw D.net (rowG D.n S) (rowG D.n E)=some (qI (Qjk D S E) (D.wh (Vx D.n S) D.n:Int)):=by
 obtain ⟨h1,h2⟩:=Q05 V (m:=Vx D.n S) (K:=Qbb S E)
 obtain ⟨h3,h4⟩:=Qv8 V (m:=Vx D.n S)
 unfold Jw
 rw [Q62 V hS hE,aC]
 simp only
 rw [show Qjk D S E=SW D (Qbb S E) (fS D (Vx D.n S)) from rfl,Q96 (Qym h2) (Qym h4) h3]; rfl
theorem Qvm {n v:Nat} {E:Nat -> Int} {x:Int}:(rowG n E).set v x=rowG n (Xh E v x):=by
 rw [Yc]; rfl
end
end Go.Ab
namespace Go.Ab
open Go
open Classical
theorem Q50 {n:Int} (h:(Lit.int .u8 n).wf=true):0<=n/\n<=255:=by
 simpa [Lit.wf,IntKind.min,IntKind.max,IntKind.bits,IntKind.signed] using h
theorem Qz6 {D:NF} (X:VX D):∀x∈rowG D.n D.node,Qad 65536 x:=fun x hx=>by
 have V:=X.vn
 unfold rowG at hx
 obtain ⟨v,hv,rfl⟩:=cD.1 hx
 have hv:=cO.1 hv
 have hc:=V.card v hv
 refine ⟨?_,?_,fun r hr=>?_⟩
 ·have:=V.len v hv
  show (List.map _ (D.par v)).length<=_
  rw [bW]; omega
 ·show (rowG (D.rows v) _).length<=_
  rw [Qm]; exact V.rows_le hv
 have hr:r∈rowG (D.rows v) fun r=>rowG (D.card v) fun x=>(D.W v r x:Int):=hr
 unfold rowG at hr
 obtain ⟨i,hi,rfl⟩:=cD.1 hr
 rw [bW,List.length_range]; omega
theorem Q31 {p0:Qe} {p1:Za} (h0:Vt p0) (h1:Ku p1) :
  ∃(D:NF) (n:Nat) (g:Int) (F:Nat -> Ad),DX D/\NB n F/\n<=6/\Jl p0=some D.net/\Jf p1 D.net=some ⟨g,rowG n F⟩:=by
 obtain ⟨D,X,hn,hc,e⟩:=Q3e (Q53 h0)
 have hs:=Qz6 X
 have V:=X.vn
 have hlen:(rowG D.n D.node).length=D.n:=Qm
 obtain ⟨g,l,e2,h2,h3⟩:=Q4z (b:=p1) (g:=D.g) (l:=rowG D.n D.node) (m:=65536) (by omega) (by rw [hlen]; exact V.n1) (by rw [hlen]; exact V.n8) hs (Q50 h1.2.1) (Q50 h1.2.2.1)
 rw [hlen] at h2
 refine ⟨D,l.length,g,fun v=>(l[v]?).getD default,⟨X,hn,hc⟩,Q93 (m:=65536+1) (by omega) h3,by omega,e,?_⟩
 have e2:Jf p1 D.net=some ⟨g,l⟩:=e2
 rw [e2,<-Q3v]
theorem Q33 {n:Nat} {g:Int} {F:Nat -> Ad} (hb:NB n F) (hn:n<=6):(∃D:NF,D.n=n/\VX D/\D.net=⟨g,rowG n F⟩)\/(Ym ⟨g,rowG n F⟩=some Qqm/\Ve ⟨g,rowG n F⟩=some false):=by
 by_cases hf:Qpv n g F
 ·exact .inl (Q60 hf)
 right
 constructor
 ·rcases Q1h (g:=g) hb (by omega) with ⟨h,_⟩ | ⟨_,h⟩
  ·exact absurd h hf
  exact h
 rcases Qrg (g:=g) hb with ⟨h,_⟩ | ⟨_,h⟩
 ·exact absurd h hf
 exact h
theorem Q1v {l:List Int} (h:l.length<=1000000):Vz l l=some true:=by
 unfold Vz
 rw [aI (by simp)]
 have hr:=Zy (n:=l.length) (k0:=0) (by omega) (by omega) (fun i (_:Unit)=>i) (body:=Qa6 l l) (fun _=>()) (.inr ())
  (fun k _ hk=>by
   unfold Qa6
   rw [aH (dlt hk),Qn hk,aC,aC,aI (by simp)])
  (by unfold Qa6; rw [aI (nlt _)])
 exact Zw hr rfl
section
variable {D:NF} {S E:Nat -> Int}
theorem Qwf {m:Qa} (h:Ym m=some Qqm) (ls:List (List Int)):Y1 m ls=some 50:=by
 unfold Y1 Qfp
 rw [h]; rfl
end
theorem Q9v {α:Type} {a b:α} {k:Nat} (h:k < 2) {Q:α->Prop} (h1:Q a) (h2:Q b):∃x,lkI ([a,b]:List α) (k:Int)=some x/\Q x:=by
 match k,h with
 | 0,_=>exact ⟨a,rfl,h1⟩
 | 1,_=>exact ⟨b,rfl,h2⟩
end Go.Ab
