/- What functions compute. No conditions. -/
import Derived.Test.YtokcpkcoahlkjaaW14
import Derived.Test.YtokcpkcoahlkjaaEng7
import Derived.Test.YtokcpkcoahlkjaaW10
import Derived.KernelRfl
set_option linter.all false
namespace Go.Ab
open Go
set_option maxRecDepth 100000
set_option maxHeartbeats 400000
structure Kl (m:Nat) (x:Tapi_Node):Prop where
 par:x.Parents.length≤m
 rows:x.Rows.length≤m
 row:∀r∈x.Rows,r.length≤m
theorem Qmd {m:Nat} {x:Tapi_Node} (hm:m≤1000000) (h:Kl m x):Qd fuel (Xv x) (0,([]:List (List Int)))=some x.Rows:=by
 have h1:=h.rows
 have hr:=Qa4 (n:=x.Rows.length) (k0:=0) (by omega) (by omega) (fun i (t:List (List Int))=>(i,t)) (body:=Xv x) (fun k=>x.Rows.take k) x.Rows
  (fun k _ hk=>by
   have h2:=h.row _ (List.getElem_mem hk)
   unfold Xv
   dsimp only
   rw [if_pos (dlt hk),Qs hk,Option.bind_some,if_pos (by omega),if_pos (by rw [List.length_append,List.length_take]; simp; omega),Xe hk])
  (by unfold Xv; dsimp only; rw [if_neg (nlt _),List.take_length])
 exact hr
theorem Q4q {x:Tapi_Node}:Qfs x=Xv x:=rfl
theorem Q5c {x:Tapi_Node}:Qfx x=Xv x:=rfl
theorem Qzf {m:Nat} {g:Int} {l:List Tapi_Node} {t:Nat} (hm:m≤1000000) (hl:l.length≤8) (h:∀x∈l,Kl m x) (ht:t < l.length) :
  Qd fuel (Qbk (fun s=>decide (s.1=(t:Int))) (Yq ⟨g,l⟩)) (0,([]:List Tapi_Node))=some (.inl ((t:Int),l.take t)):=by
 have step:∀k,k < t→Yq ⟨g,l⟩ ((k:Int),l.take k)=some (.next (((k+1:Nat):Int),l.take (k+1))):=fun k hk=>by
  have hkl:k < l.length:=by omega
  have hx:=h _ (List.getElem_mem hkl)
  have h3:=hx.par
  unfold Yq
  dsimp only
  rw [if_pos (dlt hkl),Qs hkl,Option.bind_some,if_pos (by omega),Qmd hm hx,Option.bind_some,if_pos (by rw [List.length_append,List.length_take]; simp; omega),Xe hkl,Qt2 (by omega)]
 have key:∀(j N k:Nat),k+j=t→j < N→Qd N (Qbk (fun s=>decide (s.1=(t:Int))) (Yq ⟨g,l⟩)) ((k:Int),l.take k)=some (.inl ((t:Int),l.take t)):=by
  intro j
  induction j with
  | zero =>
   intro N k e hN
   obtain ⟨N,rfl⟩:∃M,N=M+1:=⟨N - 1,by omega⟩
   have:k=t:=by omega
   subst this
   simp only [Qd,Qbk,decide_true,if_true]
  | succ j ih =>
   intro N k e hN
   obtain ⟨N,rfl⟩:∃M,N=M+1:=⟨N - 1,by omega⟩
   have hne:¬ ((k:Int)=(t:Int)):=by omega
   have hs:Qbk (fun s=>decide (s.1=(t:Int))) (Yq ⟨g,l⟩) ((k:Int),l.take k)=some (.next (((k+1:Nat):Int),l.take (k+1))):=by
    unfold Qbk
    rw [if_neg (by simpa using hne),step k (by omega)]; rfl
   rw [Qd,hs]
   exact ih N (k+1) (by omega) (by omega)
 exact key t fuel 0 (by omega) (by show t < 1152921504606846976; omega)
theorem Qz1 {m:Nat} {g:Int} {l:List Tapi_Node} {t:Nat} (hm:m≤1000000) (hl:l.length≤8) (h:∀x∈l,Kl m x) (ht:t < l.length) :
  Qd fuel (Vy ⟨g,l⟩ ((t:Int),l.take t)) (zw ((t:Int)+1),(l.take t++[(default:Tapi_Node)]))=some (l.take t++[(default:Tapi_Node)]++l.drop (t+1)):=by
 have hr:=Qa4 (n:=l.length) (k0:=t+1) (by omega) (by omega) (fun i (s:List Tapi_Node)=>(i,s)) (body:=Vy ⟨g,l⟩ ((t:Int),l.take t)) (fun k=>l.take t++[(default:Tapi_Node)]++(l.drop (t+1)).take (k - (t+1))) (l.take t++[(default:Tapi_Node)]++l.drop (t+1))
  (fun k hk0 hk=>by
   have hx:=h _ (List.getElem_mem hk)
   have h3:=hx.par
   have htl:(l.take t).length=t:=by rw [List.length_take]; omega
   have hi:t < (l.take t++[(default:Tapi_Node)]++(l.drop (t+1)).take (k - (t+1))).length:=by rw [List.length_append,List.length_append,htl]; simp only [List.length_cons,List.length_nil]; omega
   unfold Vy
   dsimp only
   rw [if_pos (dlt hk),Qs hk,Option.bind_some,if_pos (by omega),Q5c,Qmd hm hx,Option.bind_some,htl,Qs hi,Option.bind_some,if_pos (by simp; omega)]
   congr 3
   rw [List.append_assoc,show k+1 - (t+1)=(k - (t+1))+1 by omega,Xe (by rw [List.length_drop]; omega)]
   congr 2
   rw [List.getElem_drop]
   simp only [show t+1+(k - (t+1))=k by omega])
  (by
   unfold Vy
   dsimp only
   rw [if_neg (nlt _)]
   congr 3
   rw [List.take_of_length_le (by rw [List.length_drop]; omega)])
 rw [Qt2 (by omega)]
 simp only [Nat.sub_self,List.take_zero,List.append_nil] at hr
 exact hr
def Out (m k:Nat) (o:Option Qb):Prop:=∃g l,o=some ⟨g,l⟩∧l.length≤k∧∀x∈l,Kl m x
theorem Qoc {m k t:Nat} {g:Int} {l:List Tapi_Node} {x:Tapi_Node} (hl:l.length≤k) (h:∀y∈l,Kl m y) (hx:Kl m x):Out m k (some ⟨g,l.set t x⟩):=by
 refine ⟨g,_,rfl,by rw [List.length_set]; exact hl,fun y hy=>?_⟩
 rcases List.mem_or_eq_of_mem_set hy with h1 | h1
 ·exact h y h1
 ·rw [h1]; exact hx
theorem Qs3 {m k t:Nat} {w0 w1 w2 w3 w4 w5 w6 row:Int} {q:Nat} {l:List Tapi_Node} {c:Int} {P:List Int} {R:List (List Int)} (hm:m≤1000000) (hl:l.length≤k) (hk:k≤8) (h:∀y∈l,Kl m y) (ht:t < l.length) (hP:P.length≤m) (hR:R.length≤m) (hr:∀r∈R,r.length≤m)
  (hrow:row=-1∨(0≤row∧row < R.length)):Out (m+1) (k+1) (Vr q row w0 w1 w2 w3 w4 w5 l (t:Int) c P R):=by
 have h':∀y∈l,Kl (m+1) y:=fun y hy=>⟨Nat.le_succ_of_le (h y hy).par,Nat.le_succ_of_le (h y hy).rows,fun r hr=>Nat.le_succ_of_le ((h y hy).row r hr)⟩
 have hlk:lkI l (t:Int)=some l[t]:=Qs ht
 have mk:∀{g c:Int} {P:List Int} {R:List (List Int)},P.length≤m+1→R.length≤m+1→(∀r∈R,r.length≤m+1)→Out (m+1) (k+1) (Qp g l (t:Int) c P R):=fun a b d=>by
  unfold Qp
  rw [hlk,Option.bind_some]
  exact Qoc (Nat.le_succ_of_le hl) h' ⟨a,b,d⟩
 have same:∀{g c:Int},Out (m+1) (k+1) (Qp g l (t:Int) c P R):=mk (by omega) (by omega) fun r h=>Nat.le_succ_of_le (hr r h)
 have rowAt:0≤row→∃(i:Nat) (hi:i < R.length),row=(i:Int)∧lkI R row=some R[i]:=fun h0=>by
  rcases hrow with h1 | h1
  ·omega
  ·obtain ⟨i,rfl⟩:∃i:Nat,row=(i:Int):=⟨row.toNat,by omega⟩
   exact ⟨i,by omega,rfl,Qs (by omega)⟩
 have setR:∀{i:Nat} {r:List Int},r.length≤m+1→(R.set i r).length≤m+1∧∀s∈R.set i r,s.length≤m+1:=fun hr'=>⟨by rw [List.length_set]; omega,fun s hs=>by
  rcases List.mem_or_eq_of_mem_set hs with h1 | h1
  ·exact Nat.le_succ_of_le (hr s h1)
  ·rw [h1]; exact hr'⟩
 unfold Vr
 by_cases c0:Int.tmod w0 12=0
 ·rw [if_pos (by simpa using c0)]; exact same
 rw [if_neg (by simpa using c0)]
 by_cases c1:Int.tmod w0 12=1
 ·rw [if_pos (by simpa using c1),hlk,Option.bind_some]; exact same
 rw [if_neg (by simpa using c1)]
 by_cases c2:Int.tmod w0 12=2
 ·rw [if_pos (by simpa using c2),hlk,Option.bind_some,if_pos (by rw [List.length_append]; simp; omega)]
  exact mk (by rw [List.length_append]; simp; omega) (by omega) fun r h=>Nat.le_succ_of_le (hr r h)
 rw [if_neg (by simpa using c2)]
 by_cases c3:Int.tmod w0 12=3
 ·rw [if_pos (by simpa using c3),hlk,Option.bind_some]
  unfold Qbq
  rw [hlk,Option.bind_some]
  exact Qoc (Nat.le_succ_of_le hl) h' ⟨by simp,Nat.le_succ_of_le hR,fun r h=>Nat.le_succ_of_le (hr r h)⟩
 rw [if_neg (by simpa using c3)]
 by_cases c4:Int.tmod w0 12=4
 ·rw [if_pos (by simpa using c4),hlk,Option.bind_some,if_pos (by rw [List.length_append]; simp; omega)]
  refine mk (by omega) (by rw [List.length_append]; simp; omega) fun r h=>?_
  rcases List.mem_append.1 h with h1 | h1
  ·exact Nat.le_succ_of_le (hr r h1)
  ·simp at h1; rw [h1]; simp
 rw [if_neg (by simpa using c4)]
 by_cases c5:Int.tmod w0 12=5
 ·rw [if_pos (by simpa using c5)]
  by_cases d:row≥0
  ·rw [if_pos (by simpa using d),hlk,Option.bind_some,if_pos (by rcases hrow with h1 | h1 <;> omega)]
   unfold Qbt
   refine Qoc (Nat.le_succ_of_le hl) h' ⟨by simp only; omega,?_,fun r h=>?_⟩
   ·show (sub R 0 row).length≤m+1
    unfold sub; simp; omega
   ·have h:r∈sub R 0 row:=h
    unfold sub at h
    exact Nat.le_succ_of_le (hr r (List.mem_of_mem_take (by simpa using h)))
  ·rw [if_neg (by simpa using d)]; exact same
 rw [if_neg (by simpa using c5)]
 by_cases c6:Int.tmod w0 12=6
 ·rw [if_pos (by simpa using c6)]
  by_cases d:row≥0
  ·obtain ⟨i,hi,e1,e2⟩:=rowAt d
   rw [if_pos (by simpa using d),hlk,Option.bind_some,e2,Option.bind_some]
   have hri:=hr _ (List.getElem_mem hi)
   by_cases d2:((R[i].length:Int) > 0)
   ·rw [if_pos (by simpa using d2),show (0:Int)=((0:Nat):Int) from rfl,Qs (by omega),Option.bind_some]
    obtain ⟨a,b⟩:=setR (i:=row.toNat) (r:=R[i].set (Int.toNat ((0:Nat):Int)) w3) (by rw [List.length_set]; omega)
    exact mk (by omega) a b
   ·rw [if_neg (by simpa using d2)]; exact same
  ·rw [if_neg (by simpa using d)]; exact same
 rw [if_neg (by simpa using c6)]
 by_cases c7:Int.tmod w0 12=7
 ·rw [if_pos (by simpa using c7)]
  by_cases d:row≥0
  ·obtain ⟨i,hi,e1,e2⟩:=rowAt d
   have hri:=hr _ (List.getElem_mem hi)
   rw [if_pos (by simpa using d),e2,Option.bind_some,hlk,Option.bind_some,if_pos (by rw [List.length_append]; simp; omega),List.set_set]
   obtain ⟨a,b⟩:=setR (i:=row.toNat) (r:=R[i]++[(0:Int)]) (by rw [List.length_append]; simp; omega)
   exact mk (by omega) a b
  ·rw [if_neg (by simpa using d)]; exact same
 rw [if_neg (by simpa using c7)]
 by_cases c8:Int.tmod w0 12=8
 ·rw [if_pos (by simpa using c8)]
  by_cases d:row≥0
  ·obtain ⟨i,hi,e1,e2⟩:=rowAt d
   have hri:=hr _ (List.getElem_mem hi)
   rw [if_pos (by simpa using d),hlk,Option.bind_some,e2,Option.bind_some]
   by_cases d2:((R[i].length:Int) > 0)
   ·rw [if_pos (by simpa using d2),if_pos (by omega),show (0:Int)=((0:Nat):Int) from rfl,Qs (by rw [List.length_replicate]; omega),Option.bind_some,List.set_set]
    obtain ⟨a,b⟩:=setR (i:=row.toNat) (r:=(List.replicate (Int.toNat (R[i].length:Int)) ((0:Nat):Int)).set (Int.toNat ((0:Nat):Int)) w4) (by rw [List.length_set,List.length_replicate]; omega)
    exact mk (by omega) a b
   ·rw [if_neg (by simpa using d2)]; exact same
  ·rw [if_neg (by simpa using d)]; exact same
 rw [if_neg (by simpa using c8)]
 by_cases c9:Int.tmod w0 12=9
 ·rw [if_pos (by simpa using c9)]
  by_cases d:row≥0
  ·obtain ⟨i,hi,e1,e2⟩:=rowAt d
   have hri:=hr _ (List.getElem_mem hi)
   rw [if_pos (by simpa using d),hlk,Option.bind_some,e2,Option.bind_some]
   have hw:=Zy (body:=Qbj row) (fun s:Int × Int × List (List Int)=>∃(a b:Int) (T:List (List Int)),s=(a,b,T)∧0≤a∧-1≤b∧a+b=(R[i].length:Int) - 1∧T.length=R.length∧(∀r∈T,r.length≤m)∧∃r,T[i]?=some r∧r.length=R[i].length) (fun s=>R[i].length+1 - s.1.toNat) (fun T=>T.length=R.length∧∀r∈T,r.length≤m)
    (fun s hs=>by
     obtain ⟨a,b,T,rfl,ha,hb,hab,hT,hTr,r,er,hrl⟩:=hs
     unfold Qbj
     dsimp only
     by_cases hc:a < b
     ·left
      have eT:lkI T row=some r:=by unfold lkI; rw [if_neg (by omega),e1,Int.toNat_natCast,er]
      have l1:∀(s:List Int) (z:Int),s.length=R[i].length→0≤z→z < R[i].length→lkI s z=some ((s[z.toNat]?).getD 0):=fun s z hs h1 h2=>by
       unfold lkI; rw [if_neg (by omega),List.getElem?_eq_getElem (by omega)]; rfl
      rw [if_pos (by simpa using hc),eT,Option.bind_some,l1 r a hrl ha (by omega),Option.bind_some,l1 r b hrl (by omega) (by omega),Option.bind_some,l1 _ b (by rw [List.length_set]; exact hrl) (by omega) (by omega),Option.bind_some,List.set_set,w64 (by omega),w64 (by omega)]
      refine ⟨_,rfl,⟨_,_,_,rfl,by omega,by omega,by omega,by rw [List.length_set]; exact hT,fun s hs=>?_,_,by rw [e1,Int.toNat_natCast,List.getElem?_set_self (by omega)],by rw [List.length_set,List.length_set]; exact hrl⟩,by simp only; omega⟩
      rcases List.mem_or_eq_of_mem_set hs with h1 | h1
      ·exact hTr s h1
      ·rw [h1,List.length_set,List.length_set,hrl]; exact hri
     ·right
      rw [if_neg (by simpa using hc)]
      exact ⟨_,rfl,hT,hTr⟩) (0,zw ((R[i].length:Int) - 1),R) ⟨0,(R[i].length:Int) - 1,R,by rw [w64 (by omega)],by omega,by omega,by omega,rfl,hr,_,List.getElem?_eq_getElem hi,rfl⟩ (by show R[i].length+1 - 0 < 1152921504606846976; omega)
   obtain ⟨T,h1,h2,h3⟩:=hw
   rw [h1,Option.bind_some]
   exact mk (by omega) (by omega) fun r h=>Nat.le_succ_of_le (h3 r h)
  ·rw [if_neg (by simpa using d)]; exact same
 rw [if_neg (by simpa using c9)]
 by_cases c10:Int.tmod w0 12=10
 ·rw [if_pos (by simpa using c10),hlk,Option.bind_some,if_pos (by rw [List.length_append]; simp; omega)]
  unfold Qp
  have hn:∀y∈l++[Tapi_Node.mk 1 [] [[w4]]],Kl (m+1) y:=fun y hy=>by
   rcases List.mem_append.1 hy with h1 | h1
   ·exact h' y h1
   ·simp at h1; rw [h1]; exact ⟨by simp,by simp,fun r hr=>by simp at hr; rw [hr]; simp⟩
  rw [Qs (by rw [List.length_append]; omega),Option.bind_some]
  exact Qoc (by rw [List.length_append]; simp; omega) hn ⟨by simp only; omega,by simp only; omega,fun r h=>Nat.le_succ_of_le (hr r h)⟩
 rw [if_neg (by simpa using c10),hlk,Option.bind_some,List.length_set,w64 (n:=(l.length:Int) - 1) (by omega),if_pos (by omega)]
 have hx:Kl (m+1) (Tapi_Node.mk c P R):=⟨by simp only; omega,by simp only; omega,fun r h=>Nat.le_succ_of_le (hr r h)⟩
 refine ⟨_,_,rfl,?_,fun y hy=>?_⟩
 ·unfold sub; simp; omega
 ·unfold sub at hy
  have hy:=List.mem_of_mem_take (show y∈List.take (l.length - 1) (l.set t { Card:=c,Parents:=P,Rows:=R }) by simpa using hy)
  rcases List.mem_or_eq_of_mem_set hy with h1 | h1
  ·exact h' y h1
  ·rw [h1]; exact hx
theorem Q21 {b:Zr} {g:Int} {l:List Tapi_Node} {m:Nat} (hm:m≤999999) (h1:1≤l.length) (hl:l.length≤8) (h:∀x∈l,Kl m x) (hA:0≤b.At∧b.At≤255) (hR:0≤b.Row∧b.Row≤255):Out (m+1) (l.length+1) (Kh b ⟨g,l⟩):=by
 have eA:zw b.At=b.At:=w64 (by omega)
 have eR:zw b.Row=b.Row:=w64 (by omega)
 have tm:∀k:Nat,0 < k→∃t:Nat,t < k∧Int.tmod b.At (k:Int)=(t:Int):=fun k hk=>by
  rw [Ya hA.1]
  have h1:=Int.emod_nonneg b.At (show (k:Int)≠0 by omega)
  have h2:=Int.emod_lt_of_pos b.At (show (0:Int) < k by omega)
  exact ⟨(b.At % k).toNat,by omega,by omega⟩
 obtain ⟨t,ht,et⟩:=tm l.length (by omega)
 unfold Kh
 dsimp only
 rw [eA,et,Qzf (by omega) hl h ht,Option.bind_some]
 dsimp only
 have hx:=h _ (List.getElem_mem ht)
 have hxp:=hx.par
 have htl:(l.take t).length=t:=by rw [List.length_take]; omega
 rw [if_pos (dlt ht),Qs ht,Option.bind_some,if_pos (by omega),Q4q,Qmd (by omega) hx,Option.bind_some,if_pos (by rw [List.length_append,htl]; simp; omega),Qz1 (by omega) hl h ht,Option.bind_some,htl]
 have hlen:(l.take t++[(default:Tapi_Node)]++l.drop (t+1)).length=l.length:=by simp [htl]; omega
 have hall:∀y∈l.take t++[(default:Tapi_Node)]++l.drop (t+1),Kl m y:=fun y hy=>by
  rcases List.mem_append.1 hy with h1 | h1
  ·rcases List.mem_append.1 h1 with h2 | h2
   ·exact h y (List.mem_of_mem_take h2)
   ·simp at h2; rw [h2]; exact ⟨Nat.zero_le _,Nat.zero_le _,fun r hr=>by cases hr⟩
  ·exact h y (List.mem_of_mem_drop h1)
 generalize l.take t++[(default:Tapi_Node)]++l.drop (t+1)=L at hlen hall
 have hne:¬ (((l.length:Int)==0)=true):=by simp; intro e; rw [e] at h1; simp at h1
 rw [hlen,if_neg hne,if_pos (by omega),Qs (by omega),Option.bind_some,et,if_pos rfl]
 by_cases c:((l[t].Rows.length:Int) > 0)
 ·rw [if_pos (by simpa using c),if_pos (by omega)]
  have hrow:0≤Int.tmod (zw b.Row) (l[t].Rows.length:Int)∧Int.tmod (zw b.Row) (l[t].Rows.length:Int) < l[t].Rows.length:=by
   rw [eR,Ya hR.1]
   exact ⟨Int.emod_nonneg _ (by omega),Int.emod_lt_of_pos _ (by omega)⟩
  exact Qs3 (by omega) (by omega) hl hall (by omega) hx.par hx.rows hx.row (.inr hrow) (w5:=0) (w6:=0)
 ·rw [if_neg (by simpa using c)]
  exact Qs3 (by omega) (by omega) hl hall (by omega) hx.par hx.rows hx.row (.inl rfl) (w5:=0) (w6:=0)
theorem Q3x {l:List Tapi_Node}:l=Qc l.length fun v=>(l[v]?).getD default:=by
 apply List.ext_getElem?
 intro i
 unfold Qc
 rw [List.getElem?_map]
 by_cases c:i < l.length
 ·rw [List.getElem?_eq_getElem c,List.getElem?_range c]
  simp [c]
 ·rw [List.getElem?_eq_none (by omega),List.getElem?_eq_none (by simp; omega)]; rfl
theorem Q7p {l:List Tapi_Node} {m:Nat} (hm:m≤1000000) (h:∀x∈l,Kl m x):NB l.length fun v=>(l[v]?).getD default:=by
 have key:∀v,v < l.length→Kl m ((l[v]?).getD default):=fun v hv=>by
  rw [List.getElem?_eq_getElem hv]; exact h _ (List.getElem_mem hv)
 exact ⟨fun v hv=>by have:=(key v hv).par; omega,fun v hv=>by have:=(key v hv).rows; omega,fun v hv r hr=>by have:=(key v hv).row r hr; omega⟩
end Go.Ab
namespace Go.Ab
open Go
theorem Qy2 {a b:Nat} {f:Nat → Int}:Qn (a*b) f=Qn a (fun x=>Qn b (fun y=>f (x*b+y))):=by
 induction a with
 | zero=>simp [Qn]
 | succ a ih=>rw [Nat.succ_mul,Qld,ih]; simp only [Qn]
theorem Qbo {n:Nat} {f g:Nat → Nat} (h:∀k,k < n→f k=g k):prodTo n f=prodTo n g:=by
 induction n with
 | zero=>rfl
 | succ n ih=>simp only [prodTo]; rw [ih (fun k hk=>h k (by omega)),h n (by omega)]
theorem Quj {n j:Nat} {f:Nat → Nat} (h:j < n):prodTo n (fun v=>if v=j then 1 else f v)*f j=prodTo n f:=by
 induction n with
 | zero=>omega
 | succ n ih =>
  simp only [prodTo]
  by_cases e:n=j
  ·subst e
   rw [if_pos rfl,Nat.mul_one,Qbo (g:=f) (fun k hk=>if_neg (by omega))]
  ·rw [if_neg e,←ih (by omega),Nat.mul_assoc,Nat.mul_comm (f n),←Nat.mul_assoc]
end Go.Ab
namespace Go.Ab
open Go
def horner (c w:Nat → Nat) (l:List Nat):Nat := l.foldl (fun r p=>r*c p+w p) 0
theorem Qtj {c w:Nat → Nat} {l:List Nat} {p:Nat}:horner c w (l++[p])=horner c w l*c p+w p:=by simp [horner]
theorem Qsh {c w:Nat → Nat} {l:List Nat} (h:∀p∈l,w p < c p):horner c w l < lprod c l:=by
 have key:∀(l:List Nat) (r R:Nat),r < R→(∀p∈l,w p < c p)→l.foldl (fun r p=>r*c p+w p) r < l.foldl (fun r p=>r*c p) R:=by
  intro l
  induction l with
  | nil=>intro r R h _; exact h
  | cons p l ih =>
   intro r R hr hp
   simp only [List.foldl_cons]
   refine ih _ _ ?_ (fun q hq=>hp q (List.mem_cons_of_mem _ hq))
   have h1:=hp p (by simp)
   have h2:(r+1)*c p≤R*c p:=Nat.mul_le_mul_right _ hr
   rw [Nat.succ_mul] at h2
   omega
 exact key l 0 1 (by omega) h
def NF.idx (D:NF) (v:Nat) (w:Nat → Nat):Nat := horner D.card w (D.par v)
def NF.wt (D:NF) (w:Nat → Nat) (v:Nat):Nat := D.W v (D.idx v w) (w v)
def NF.ok (D:NF) (w:Nat → Nat):Prop:=∀v,v < D.n→w v < D.card v
section
variable {D:NF} (V:VN D) {w:Nat → Nat}
include V
theorem VN.idx_lt (hw:D.ok w) {v:Nat} (hv:v < D.n):D.idx v w < D.rows v:=Qsh fun p hp=>hw p (V.par v hv p hp)
theorem VN.wt_le (hw:D.ok w) {v:Nat} (hv:v < D.n):D.wt w v≤60:=Nat.le_trans (V.W v _ _ hv (V.idx_lt hw hv) (hw v hv)) V.g60
theorem VN.weigh0 (hw:D.ok w) {v:Nat} (hv:v < D.n):Qd fuel (Jf (D.node v) D.net (Qo D.n w)) (0,0)=some (D.idx v w:Int):=by
 have hl:(D.node v).Parents.length=(D.par v).length:=by simp [NF.node]
 refine Qz (fun k=>((horner D.card w ((D.par v).take k):Int),(k:Int))) (D.par v).length _ rfl (fun k hk=>?_) ?_ (by have:=V.len v hv; omega)
 ·have hlen:=V.len v hv
  have hp:=V.par v hv (D.par v)[k] (List.getElem_mem hk)
  have hpar:lkI (D.node v).Parents (k:Int)=some (((D.par v)[k]:Nat):Int):=by rw [Qs (by rw [hl]; exact hk)]; simp [NF.node]
  have h1:horner D.card w ((D.par v).take k) < lprod D.card ((D.par v).take k):=Qsh fun p hp=>hw p (V.par v hv p (List.mem_of_mem_take hp))
  have h2:lprod D.card ((D.par v).take k)≤4^8:=Nat.le_trans (Qfc fun p hp=>(V.card p (V.par v hv p (List.mem_of_mem_take hp))).2) (Nat.pow_le_pow_right (by omega) (by rw [List.length_take]; omega))
  have h3:horner D.card w ((D.par v).take (k+1))=horner D.card w ((D.par v).take k)*D.card (D.par v)[k]+w (D.par v)[k]:=by rw [Xe hk,Qtj]
  have hc:=(V.card _ hp).2
  have hww:=hw _ hp
  have h4:horner D.card w ((D.par v).take k)*D.card (D.par v)[k]≤65536*4:=Nat.mul_le_mul (by omega) hc
  unfold Jf
  simp only
  rw [if_pos (by rw [hl]; simpa using hk),hpar]
  simp only [Option.bind_some]
  rw [V.node hp]
  simp only [Option.bind_some]
  rw [Zq hp]
  simp only [Option.bind_some]
  have e1:((horner D.card w ((D.par v).take k):Nat):Int)*(D.node (D.par v)[k]).Card=((horner D.card w ((D.par v).take k)*D.card (D.par v)[k]:Nat):Int):=by simp [NF.node]
  have w1:zw ((horner D.card w ((D.par v).take k)*D.card (D.par v)[k]:Nat):Int)=((horner D.card w ((D.par v).take k)*D.card (D.par v)[k]:Nat):Int):=w64 (by omega)
  rw [e1,w1,w64 (by omega),w64 (by omega),h3]
  simp
 ·unfold Jf
  simp only
  rw [if_neg (by rw [hl]; simp)]
  simp [NF.idx]
end
structure SF where
 N:Nat
 R:Nat
 F:Nat
 T:Nat
def SF.sh (s:SF):Tapi_Shift:=⟨s.N,s.R,s.F,s.T⟩
def NF.hit (D:NF) (s:SF) (w:Nat → Nat):Bool:=D.idx s.N w==s.R
def NF.change (D:NF) (s:SF) (w:Nat → Nat):Int:=if D.hit s w=true then (if w s.N=s.F then -1 else if w s.N=s.T then 1 else 0) else 0
def NF.rest (D:NF) (s:SF) (w:Nat → Nat):Nat → Nat := fun k=>prodTo k fun v=>if v=s.N∧D.hit s w=true then 1 else D.wt w v
def NF.own (D:NF) (s:SF) (w:Nat → Nat):Nat := if D.hit s w=true then D.wt w s.N else 1
def NF.fA (D:NF) (s:SF) (w:Nat → Nat):Int:=(D.rest s w D.n:Int)*D.own s w
def NF.fB (D:NF) (s:SF) (w:Nat → Nat):Int:=(D.rest s w D.n:Int)*D.change s w
section
variable {D:NF} (V:VN D) {w:Nat → Nat} {s:SF}
include V
theorem VN.rest_le (hw:D.ok w) {k:Nat} (hk:k≤D.n):D.rest s w k≤167961600000000:=by
 have h1:D.rest s w k≤60^k:=Vg fun v hv=>by
  split
  ·omega
  ·exact V.wt_le hw (by omega)
 have h2:(60:Nat)^k≤60^8:=Nat.pow_le_pow_right (by omega) (by have:=V.n8; omega)
 exact Nat.le_trans h1 (Nat.le_trans h2 (by decide))
theorem VN.own_le (hw:D.ok w) (hs:s.N < D.n):D.own s w≤60:=by
 unfold NF.own
 split
 ·exact V.wt_le hw hs
 ·omega
theorem VN.weigh_eq (hw:D.ok w) (hs:s.N < D.n):Ky D.net (Qo D.n w) s.sh=some (D.fA s w,D.fB s w):=by
 have hlen:D.net.Nodes.length=D.n:=Ql
 have hn8:=V.n8
 have hrun:Qd fuel (Je D.net (Qo D.n w) s.sh) (1,1,0,0)=some ((D.rest s w D.n:Int),(D.own s w:Int),D.change s w):=by
  refine Qz (fun k=>((D.rest s w k:Int),(if s.N < k then (D.own s w:Int) else 1),(if s.N < k then D.change s w else 0),(k:Int))) D.n _ (by simp [NF.rest,prodTo]) (fun k hk=>?_) ?_ (by omega)
  ·have hb:=V.rest_le (s:=s) hw (k:=k) (by omega)
   have hwt:=V.wt_le hw hk
   have hr1:D.rest s w (k+1)=D.rest s w k*(if k=s.N∧D.hit s w=true then 1 else D.wt w k):=rfl
   have hi:=V.idx_lt hw hk
   have hm:D.rest s w k*D.wt w k≤167961600000000*60:=Nat.mul_le_mul hb hwt
   unfold Je
   simp only
   rw [if_pos (by rw [hlen]; simpa using hk),V.node hk]
   simp only [Option.bind_some]
   rw [V.weigh0 hw hk]
   simp only [Option.bind_some]
   rw [show lkI (D.node k).Rows (D.idx k w:Int)=some (Qc (D.card k) fun x=>(D.W k (D.idx k w) x:Int)) from Qk hi]
   simp only [Option.bind_some]
   rw [Zq hk]
   simp only [Option.bind_some]
   rw [show lkI (Qc (D.card k) fun x=>(D.W k (D.idx k w) x:Int)) (w k:Int)=some (D.wt w k:Int) from Qk (hw k hk)]
   simp only [Option.bind_some]
   have hi1:zw ((k:Int)+1)=((k+1:Nat):Int):=by rw [w64 (by omega)]; omega
   rw [hi1]
   by_cases hN:k=s.N
   ·subst hN
    by_cases hh:D.hit s w=true
    ·have hR:D.idx s.N w=s.R:=by simpa [NF.hit] using hh
     rw [if_neg (by simp [SF.sh,hR])]
     have hrest:D.rest s w (s.N+1)=D.rest s w s.N:=by rw [hr1,if_pos ⟨rfl,hh⟩,Nat.mul_one]
     rw [hrest]
     simp only [Nat.lt_irrefl,if_false,Nat.lt_succ_self,if_true,NF.own,NF.change,hh]
     by_cases hF:w s.N=s.F
     ·rw [if_pos (by simp [SF.sh,hF])]; simp [hF]
     ·rw [if_neg (by simp [SF.sh]; omega)]
      by_cases hT:w s.N=s.T
      ·rw [if_pos (by simp [SF.sh,hT]),if_neg hF,if_pos hT]
      ·rw [if_neg (by simp [SF.sh]; omega),if_neg hF,if_neg hT]
    ·have hR:D.idx s.N w≠s.R:=by simpa [NF.hit] using hh
     rw [if_pos (by simp [SF.sh]; omega)]
     have hrest:D.rest s w (s.N+1)=D.rest s w s.N*D.wt w s.N:=by rw [hr1,if_neg (fun h=>hh h.2)]
     rw [hrest]
     simp only [Nat.lt_irrefl,if_false,Nat.lt_succ_self,if_true,NF.own,NF.change,hh]
     rw [w64 (by rw [←Int.natCast_mul]; omega)]
     simp
   ·have e1:(s.N < k+1)=(s.N < k):=propext (by omega)
    rw [if_pos (by simp [SF.sh]; omega)]
    have hrest:D.rest s w (k+1)=D.rest s w k*D.wt w k:=by rw [hr1,if_neg (fun h=>hN h.1)]
    rw [hrest]
    simp only [e1]
    rw [w64 (by rw [←Int.natCast_mul]; omega)]
    simp
  ·unfold Je
   simp only
   rw [if_neg (by rw [hlen]; simp)]
   simp [hs]
 have hb:=V.rest_le (s:=s) hw (k:=D.n) (Nat.le_refl _)
 have ho:=V.own_le (s:=s) hw hs
 have hm:D.rest s w D.n*D.own s w≤167961600000000*60:=Nat.mul_le_mul hb ho
 have hc:D.change s w=-1∨D.change s w=0∨D.change s w=1:=by
  unfold NF.change
  split
  ·split
   ·exact .inl rfl
   ·split
    ·exact .inr (.inr rfl)
    ·exact .inr (.inl rfl)
  ·exact .inr (.inl rfl)
 unfold Ky
 rw [hrun]
 simp only [Option.bind_some]
 rw [w64 (by rw [←Int.natCast_mul]; omega),w64 (by rcases hc with h | h | h <;> rw [h] <;> omega)]
 rfl
theorem VN.fB_bound (hw:D.ok w):-167961600000000≤D.fB s w∧D.fB s w≤167961600000000:=by
 have hb:=V.rest_le (s:=s) hw (k:=D.n) (Nat.le_refl _)
 have hc:D.change s w=-1∨D.change s w=0∨D.change s w=1:=by
  unfold NF.change
  split
  ·split
   ·exact .inl rfl
   ·split
    ·exact .inr (.inr rfl)
    ·exact .inr (.inl rfl)
  ·exact .inr (.inl rfl)
 unfold NF.fB
 rcases hc with h | h | h <;> rw [h] <;> omega
theorem VN.fA_eq (hs:s.N < D.n):D.fA s w=(prodTo D.n (D.wt w):Int):=by
 unfold NF.fA NF.rest NF.own
 by_cases hh:D.hit s w=true
 ·rw [if_pos hh,Qbo (g:=fun v=>if v=s.N then 1 else D.wt w v) (fun k _=>by simp [hh]),←Int.natCast_mul,Quj hs]
 ·rw [if_neg hh,Qbo (g:=D.wt w) (fun k _=>by rw [if_neg (fun h=>hh h.2)])]; simp
end
end Go.Ab
namespace Go.Ab
open Go
def TM (D:NF) (E:Nat → Int) (f:(Nat → Nat)→Int):Nat → Nat → (Nat → Nat)→Int
 | 0,_,w=>f w
 | d+1,i,w=>Qn (D.card i) fun x=>if E i=-1∨E i=(x:Int) then TM D E f d (i+1) (Xf w i x) else 0
def PC (D:NF):Nat → Nat → Nat
 | 0,_=>1
 | d+1,i=>D.card i*PC D d (i+1)
theorem Q0v {D:NF} (V:VN D):∀(d i:Nat),i+d=D.n→1≤PC D d i
 | 0,_,_=>Nat.le_refl 1
 | d+1,i,h=>by
  have:=Q0v V d (i+1) (by omega)
  have h2:=(V.card i (by omega)).1
  exact Nat.le_trans (by simp) (Nat.mul_le_mul h2 this)
theorem Qnz {D:NF}:∀(d i:Nat),prodTo i D.card*PC D d i=prodTo (i+d) D.card
 | 0,i=>by simp [PC]
 | d+1,i=>by
  have:=Qnz (D:=D) d (i+1)
  simp only [PC]
  rw [←Nat.mul_assoc]
  rw [show i+(d+1)=i+1+d by omega,←this]; rfl
def Ext (D:NF) (f:(Nat → Nat)→Int):Prop:=∀w w',(∀j,j < D.n→w j=w' j)→f w=f w'
theorem Qwf {D:NF} {E:Nat → Int} {f:(Nat → Nat)→Int} (hf:Ext D f):∀(d i:Nat) (w w':Nat → Nat),i+d=D.n→(∀j,j < i→w j=w' j)→TM D E f d i w=TM D E f d i w'
 | 0,i,w,w',h,hw=>hf w w' fun j hj=>hw j (by omega)
 | d+1,i,w,w',h,hw=>by
  unfold TM
  refine Kc fun x _=>?_
  rw [Qwf hf d (i+1) (Xf w i x) (Xf w' i x) (by omega) (fun j hj=>?_)]
  unfold Xf
  by_cases e:j=i
  ·rw [if_pos e,if_pos e]
  ·rw [if_neg e,if_neg e]; exact hw j (by omega)
theorem BD.mono {m p:Nat} {a:Int} (h:BD m a) (hp:m≤p):BD p a:=by
 unfold BD KK at *; omega
theorem BD.fit {m:Nat} {a:Int} (h:BD m a) (hm:m≤1024):-9223372036854775808≤a∧a≤9223372036854775807:=by unfold BD KK at h; omega
theorem Qqq {D:NF} {w:Nat → Nat} {i x:Nat} (h:D.ok w) (hx:x < D.card i):D.ok (Xf w i x):=fun v hv=>by
 unfold Xf
 by_cases e:v=i
 ·rw [if_pos e,e]; exact hx
 ·rw [if_neg e]; exact h v hv
theorem Qpn {D:NF} {E:Nat → Int} {f:(Nat → Nat)→Int} (hf:∀w,D.ok w→BD 1 (f w)):∀(d i:Nat) (w:Nat → Nat),i+d=D.n→D.ok w→BD (PC D d i) (TM D E f d i w)
 | 0,i,w,_,hw=>hf w hw
 | d+1,i,w,h,hw=>by
  unfold TM PC
  refine BD.sum fun x hx=>?_
  split
  ·exact Qpn hf d (i+1) _ (by omega) (Qqq hw hx)
  ·exact BD.zero
def Kq (A B:Nat → Int):Nat → Int × Int × Int × Int:=fun x=>(A x,B x,0,0)
def at' (v x:Nat) (f:(Nat → Nat)→Int):(Nat → Nat)→Int:=fun w=>if w v=x then f w else 0
section
variable {D:NF} (V:VN D) {s:SF} {E:Nat → Int} {v:Nat}
theorem Qx1 (V:VN D) {w w':Nat → Nat} (h:∀j,j < D.n→w j=w' j) {u:Nat} (hu:u < D.n):D.idx u w=D.idx u w':=by
 unfold NF.idx horner
 have:∀(l:List Nat) (r:Nat),(∀p∈l,p < D.n)→l.foldl (fun r p=>r*D.card p+w p) r=l.foldl (fun r p=>r*D.card p+w' p) r:=by
  intro l
  induction l with
  | nil=>intros; rfl
  | cons p l ih =>
   intro r hp
   simp only [List.foldl_cons]
   rw [h p (hp p (by simp)),ih _ (fun q hq=>hp q (List.mem_cons_of_mem _ hq))]
 exact this _ 0 (V.par u hu)
theorem Q1n (V:VN D) {w w':Nat → Nat} (h:∀j,j < D.n→w j=w' j) {u:Nat} (hu:u < D.n):D.wt w u=D.wt w' u:=by
 unfold NF.wt; rw [Qx1 V h hu,h u hu]
theorem Qrz (V:VN D) (hs:s.N < D.n) {w w':Nat → Nat} (h:∀j,j < D.n→w j=w' j):D.hit s w=D.hit s w':=by unfold NF.hit; rw [Qx1 V h hs]
theorem Qvl (V:VN D) (hs:s.N < D.n) {w w':Nat → Nat} (h:∀j,j < D.n→w j=w' j):D.rest s w D.n=D.rest s w' D.n:=by
 unfold NF.rest
 exact Qbo fun u hu=>by rw [Qrz V hs h,Q1n V h hu]
theorem Qqn (V:VN D) (hs:s.N < D.n):Ext D (D.fA s):=fun w w' h=>by
 unfold NF.fA NF.own; rw [Qvl V hs h,Qrz V hs h,Q1n V h hs]
theorem Qrb (V:VN D) (hs:s.N < D.n):Ext D (D.fB s):=fun w w' h=>by
 unfold NF.fB NF.change; rw [Qvl V hs h,Qrz V hs h,h s.N hs]
theorem Qq7 {f:(Nat → Nat)→Int} (hv:v < D.n) (hf:Ext D f) {x:Nat}:Ext D (at' v x f):=fun w w' h=>by
 unfold at'; rw [h v hv,hf w w' h]
theorem Qia (V:VN D) (hs:s.N < D.n):∀w,D.ok w→BD 1 (D.fA s w):=fun w hw=>by
 rw [V.fA_eq hs]
 have h1:prodTo D.n (D.wt w)≤60^D.n:=Vg fun u hu=>V.wt_le hw hu
 have h2:(60:Nat)^D.n≤60^8:=Nat.pow_le_pow_right (by omega) V.n8
 have h3:(60:Nat)^8=167961600000000:=by decide
 unfold BD KK; omega
theorem Qif (V:VN D):∀w,D.ok w→BD 1 (D.fB s w):=fun w hw=>by
 have:=V.fB_bound (s:=s) hw
 unfold BD KK; omega
theorem Qn0 {f:(Nat → Nat)→Int} (hf:∀w,D.ok w→BD 1 (f w)) {x:Nat}:∀w,D.ok w→BD 1 (at' v x f w):=fun w hw=>by
 unfold at'
 split
 ·exact hf w hw
 ·exact BD.zero
def SM (D:NF) (E:Nat → Int) (f:(Nat → Nat)→Int) (d i:Nat) (w:Nat → Nat) (x:Nat):Int:=Qn x fun y=>if E i=-1∨E i=(y:Int) then TM D E f d (i+1) (Xf w i y) else 0
theorem Qt0 {f:(Nat → Nat)→Int} (hf:∀w,D.ok w→BD 1 (f w)) {d i x:Nat} {w:Nat → Nat} (hi:i+1+d=D.n) (hw:D.ok w) (hx:x≤D.card i):BD (x*PC D d (i+1)) (SM D E f d i w x):=by
 refine BD.sum fun y hy=>?_
 split
 ·exact Qpn hf d (i+1) _ hi (Qqq hw (by omega))
 ·exact BD.zero
def RS (D:NF) (s:SF) (E:Nat → Int) (v m d i:Nat) (w:Nat → Nat) (A B:Nat → Int) (C Dd:Int):Prop :=
 D.ok w∧(∀x,BD m (A x)∧BD m (B x))∧BD m C∧BD m Dd∧m+PC D d i≤1024∧i+d=D.n
theorem Qsz (V:VN D) (hs:s.N < D.n) (hv:v < D.n) (hE:∀j,j < D.n→-1≤E j∧E j < D.card j):∀(d N:Nat),d < N→∀(i m:Nat) (w:Nat → Nat) (A B:Nat → Int) (C Dd:Int),RS D s E v m d i w A B C Dd →
  ∃w',D.ok w'∧(∀j,j < i→w' j=w j)∧Qk0 (Q8 D.net s.sh (v:Int) (Qc D.n E)) N ((i:Int),Qc (D.card v) (Kq A B),C,Dd,Qo D.n w) =
   some (Qc (D.card v) (Kq (fun x=>A x+TM D E (at' v x (D.fA s)) d i w) (fun x=>B x+TM D E (at' v x (D.fB s)) d i w)),C+TM D E (D.fA s) d i w,Dd+TM D E (D.fB s) d i w,Qo D.n w')
 | d,0,h,_,_,_,_,_,_,_,_=>by omega
 | 0,N+1,_,i,m,w,A,B,C,Dd,⟨hw,hAB,hC,hD,hm,hi⟩=>by
  have hm':m+1≤1024:=hm
  refine ⟨w,hw,fun _ _=>rfl,?_⟩
  show Q8 _ _ _ _ _ _=_
  unfold Q8
  simp only
  rw [if_pos (by rw [Yb]; simp; omega),V.weigh_eq hw hs]
  simp only [Option.bind_some]
  rw [Zq hv]
  simp only [Option.bind_some]
  rw [show lkI (Qc (D.card v) (Kq A B)) (w v:Int)=some (Kq A B (w v)) from Qk (hw v hv)]
  simp only [Option.bind_some,Kq,Int.toNat_natCast]
  have f1:=((hAB (w v)).1.add (Qia V hs w hw)).fit hm'
  have f2:=((hAB (w v)).2.add (Qif V (s:=s) w hw)).fit hm'
  have f3:=(hC.add (Qia V hs w hw)).fit hm'
  have f4:=(hD.add (Qif V (s:=s) w hw)).fit hm'
  rw [w64 f1,w64 f2,w64 f3,w64 f4]
  simp only [TM]
  rw [Yc,Yc]
  congr 2
  refine Qv fun x hx=>?_
  simp only [Kq,at']
  by_cases e:x=w v
  ·subst e; simp
  ·rw [if_neg e,if_neg e,if_neg (Ne.symm e),if_neg (Ne.symm e)]; simp
 | d+1,N+1,hN,i,m,w,A,B,C,Dd,⟨hw,hAB,hC,hD,hm,hi⟩=>by
  have hin:i < D.n:=by omega
  have hc:=V.card i hin
  have hPC:PC D (d+1) i=D.card i*PC D d (i+1):=rfl
  have hEi:=hE i hin
  have hloop:=Zy (body:=Jd (D.node i) (Qc D.n E) ((i:Int),Qc (D.card v) (Kq A B),C,Dd,Qo D.n w) (Qk0 (Q8 D.net s.sh (v:Int) (Qc D.n E)) N))
   (fun st=>∃(x:Nat) (w':Nat → Nat),x≤D.card i∧D.ok w'∧(∀j,j < i→w' j=w j)∧st=((x:Int),Qc (D.card v) (Kq (fun y=>A y+SM D E (at' v y (D.fA s)) d i w x) (fun y=>B y+SM D E (at' v y (D.fB s)) d i w x)),C+SM D E (D.fA s) d i w x,Dd+SM D E (D.fB s) d i w x,Qo D.n w'))
   (fun st=>D.card i - st.1.toNat)
   (fun r=>∃(w':Nat → Nat),D.ok w'∧(∀j,j < i→w' j=w j)∧r=(Qc (D.card v) (Kq (fun y=>A y+TM D E (at' v y (D.fA s)) (d+1) i w) (fun y=>B y+TM D E (at' v y (D.fB s)) (d+1) i w)),C+TM D E (D.fA s) (d+1) i w,Dd+TM D E (D.fB s) (d+1) i w,Qo D.n w'))
   (fun st hst=>?_) ((0:Int),Qc (D.card v) (Kq A B),C,Dd,Qo D.n w) ⟨0,w,by omega,hw,fun _ _=>rfl,by simp [SM,Qn]⟩ (by simp; omega)
  ·obtain ⟨r,h1,w',h2,h3,rfl⟩:=hloop
   refine ⟨w',h2,h3,?_⟩
   show Q8 _ _ _ _ (Qk0 (Q8 D.net s.sh (v:Int) (Qc D.n E)) N) _=_
   rw [Q8]
   simp only
   rw [if_neg (by rw [Yb]; simp; omega),V.node hin]
   simp only [Option.bind_some]
   rw [h1]
   rfl
  ·obtain ⟨x,w',hx,hw',hag,rfl⟩:=hst
   have ew:zw ((x:Int)+1)=((x+1:Nat):Int):=by rw [w64 (by omega)]; omega
   have ei:zw ((i:Int)+1)=((i+1:Nat):Int):=by have:=V.n8; rw [w64 (by omega)]; omega
   unfold Jd
   simp only
   by_cases hlt:x < D.card i
   ·left
    rw [if_pos (by simp [NF.node]; omega),show lkI (Qc D.n E) (i:Int)=some (E i) from Qk hin]
    simp only [Option.bind_some]
    have hsm:∀f,SM D E f d i w (x+1)=SM D E f d i w x+(if E i=-1∨E i=(x:Int) then TM D E f d (i+1) (Xf w i x) else 0):=fun f=>rfl
    by_cases hok:E i=-1∨E i=(x:Int)
    ·
     have hxm:m+x*PC D d (i+1)+PC D d (i+1)≤1024:=by
      have:(x+1)*PC D d (i+1)≤D.card i*PC D d (i+1):=Nat.mul_le_mul_right _ hlt
      rw [Nat.succ_mul] at this
      omega
     have okw:D.ok (Xf w' i x):=Qqq hw' hlt
     obtain ⟨w2,k1,k2,k3⟩:=Qsz V hs hv hE d N (by omega) (i+1) (m+x*PC D d (i+1)) (Xf w' i x)
      (fun y=>A y+SM D E (at' v y (D.fA s)) d i w x) (fun y=>B y+SM D E (at' v y (D.fB s)) d i w x) (C+SM D E (D.fA s) d i w x) (Dd+SM D E (D.fB s) d i w x)
      ⟨okw,fun y=>⟨(hAB y).1.add (Qt0 (Qn0 (Qia V hs)) (by omega) hw (by omega)),(hAB y).2.add (Qt0 (Qn0 (Qif V)) (by omega) hw (by omega))⟩,hC.add (Qt0 (Qia V hs) (by omega) hw (by omega)),hD.add (Qt0 (Qif V) (by omega) hw (by omega)),hxm,by omega⟩
     have hcg:∀f,Ext D f→TM D E f d (i+1) (Xf w' i x)=TM D E f d (i+1) (Xf w i x):=fun f hf=>Qwf hf d (i+1) _ _ (by omega) fun j hj=>by
      by_cases e:j=i
      ·subst e; rw [Yd,Yd]
      ·rw [J6 e,J6 e]; exact hag j (by omega)
     have hset:(Qo D.n w').set i (x:Int)=Qo D.n (Xf w' i x):=by
      unfold Qo; rw [Yc]
      refine Qv fun j _=>?_
      unfold Xf
      split <;> rfl
     have fin:((if (E i==-1)=true then (lkI (Qo D.n w') (i:Int)).bind fun _=>(Qk0 (Q8 D.net s.sh (v:Int) (Qc D.n E)) N (zw ((i:Int)+1),Qc (D.card v) (Kq (fun y=>A y+SM D E (at' v y (D.fA s)) d i w x) (fun y=>B y+SM D E (at' v y (D.fB s)) d i w x)),C+SM D E (D.fA s) d i w x,Dd+SM D E (D.fB s) d i w x,List.set (Qo D.n w') (Int.toNat (i:Int)) (x:Int))).bind fun x27=>some (Qm.next (zw ((x:Int)+1),x27.1,x27.2.1,x27.2.2.1,x27.2.2.2))
       else if (E i==(x:Int))=true then (lkI (Qo D.n w') (i:Int)).bind fun _=>(Qk0 (Q8 D.net s.sh (v:Int) (Qc D.n E)) N (zw ((i:Int)+1),Qc (D.card v) (Kq (fun y=>A y+SM D E (at' v y (D.fA s)) d i w x) (fun y=>B y+SM D E (at' v y (D.fB s)) d i w x)),C+SM D E (D.fA s) d i w x,Dd+SM D E (D.fB s) d i w x,List.set (Qo D.n w') (Int.toNat (i:Int)) (x:Int))).bind fun x27=>some (Qm.next (zw ((x:Int)+1),x27.1,x27.2.1,x27.2.2.1,x27.2.2.2))
       else some (Qm.next (zw ((x:Int)+1),Qc (D.card v) (Kq (fun y=>A y+SM D E (at' v y (D.fA s)) d i w x) (fun y=>B y+SM D E (at' v y (D.fB s)) d i w x)),C+SM D E (D.fA s) d i w x,Dd+SM D E (D.fB s) d i w x,Qo D.n w'))):Option (Qm (Int × (List (Int × Int × Int × Int)) × Int × Int × (List Int)) ((List (Int × Int × Int × Int)) × Int × Int × (List Int)))) =
       some (Qm.next (((x+1:Nat):Int),Qc (D.card v) (Kq (fun y=>A y+SM D E (at' v y (D.fA s)) d i w (x+1)) (fun y=>B y+SM D E (at' v y (D.fB s)) d i w (x+1))),C+SM D E (D.fA s) d i w (x+1),Dd+SM D E (D.fB s) d i w (x+1),Qo D.n w2)):=by
      rw [ew,ei,Int.toNat_natCast,hset,Zq hin]
      simp only [Option.bind_some]
      rw [k3]
      simp only [Option.bind_some]
      rw [hcg _ (Qqn V hs),hcg _ (Qrb V hs)]
      have e2:∀y,TM D E (at' v y (D.fA s)) d (i+1) (Xf w' i x)=TM D E (at' v y (D.fA s)) d (i+1) (Xf w i x):=fun y=>hcg _ (Qq7 hv (Qqn V hs))
      have e3:∀y,TM D E (at' v y (D.fB s)) d (i+1) (Xf w' i x)=TM D E (at' v y (D.fB s)) d (i+1) (Xf w i x):=fun y=>hcg _ (Qq7 hv (Qrb V hs))
      simp only [hsm,if_pos hok,e2,e3,←Int.add_assoc]
      rcases hok with h | h
      ·rw [if_pos (by simp [h])]
      ·by_cases h':E i=-1
       ·rw [if_pos (by simp [h'])]
       ·rw [if_neg (by simp [h']),if_pos (by simp [h])]
     refine ⟨_,fin,⟨x+1,w2,by omega,k1,fun j hj=>by rw [k2 j (by omega),J6 (by omega),hag j hj],rfl⟩,by simp; omega⟩
    ·rw [if_neg (by simp; exact fun h=>hok (.inl h)),if_neg (by simp; exact fun h=>hok (.inr h)),ew]
     refine ⟨_,rfl,⟨x+1,w',by omega,hw',hag,?_⟩,by simp; omega⟩
     simp only [hsm,if_neg hok,Int.add_zero]
   ·right
    have:x=D.card i:=by omega
    subst this
    rw [if_neg (by simp [NF.node])]
    exact ⟨_,rfl,w',hw',hag,rfl⟩
end
end Go.Ab
namespace Go.Ab
open Go
def SW (D:NF) (E:Nat → Int) (f:(Nat → Nat)→Int):Int:=TM D E f D.n 0 (fun _=>0)
def Qhm (D:NF) (E:Nat → Int):Prop:=∀j,j < D.n→-1≤E j∧E j < D.card j
def Zn (D:NF) (s:SF) (E:Nat → Int) (v:Nat) (x:Nat):Int × Int × Int × Int:=(SW D E (at' v x (D.fA s)),SW D E (at' v x (D.fB s)),SW D E (D.fA s),SW D E (D.fB s))
section
variable {D:NF} {s:SF} {E:Nat → Int} {v:Nat}
theorem Q1f (V:VN D):PC D D.n 0≤1024:=by
 have:=Qnz (D:=D) D.n 0
 simp only [prodTo,Nat.one_mul,Nat.zero_add] at this
 rw [this]; exact V.worlds
theorem Q3p (V:VN D) (hs:s.N < D.n) (hv:v < D.n) (hE:Qhm D E):Vc D.net (Qc D.n E) (v:Int) s.sh=some (Qc (D.card v) (Zn D s E v)):=by
 have hn8:=V.n8
 have hcv:=V.card v hv
 have hlen:D.net.Nodes.length=D.n:=Ql
 obtain ⟨w',h1,h2,h3⟩:=Qsz V hs hv hE D.n fuel (by show D.n < 1152921504606846976; omega) 0 0 (fun _=>0) (fun _=>0) (fun _=>0) 0 0
  ⟨fun u hu=>(V.card u hu).1,fun _=>⟨BD.zero,BD.zero⟩,BD.zero,BD.zero,by have:=Q1f V; omega,by omega⟩
 unfold Vc
 rw [V.node hv]
 simp only [Option.bind_some]
 have hcard:(D.node v).Card=(D.card v:Int):=rfl
 rw [if_pos (by rw [hcard]; omega),if_pos (by rw [hlen]; omega)]
 rw [hcard,hlen,Int.toNat_natCast,Int.toNat_natCast,Qda,Qda]
 have e0:(Qc (D.card v) fun _=>((0:Int),(0:Int),(0:Int),(0:Int)))=Qc (D.card v) (Kq (fun _=>0) (fun _=>0)):=rfl
 have e1:(Qc D.n fun _=>(0:Int))=Qo D.n (fun _=>0):=rfl
 rw [e0,e1,show ((0:Int),Qc (D.card v) (Kq (fun _=>0) (fun _=>0)),(0:Int),(0:Int),Qo D.n (fun _=>0))=(((0:Nat):Int),Qc (D.card v) (Kq (fun _=>0) (fun _=>0)),(0:Int),(0:Int),Qo D.n (fun _=>0)) from rfl,h3]
 simp only [Option.bind_some,Int.zero_add]
 have hrun:Qd fuel (Y4 (Qc (D.card v) (Kq (fun x=>TM D E (at' v x (D.fA s)) D.n 0 fun _=>0) (fun x=>TM D E (at' v x (D.fB s)) D.n 0 fun _=>0)),TM D E (D.fA s) D.n 0 (fun _=>0),TM D E (D.fB s) D.n 0 (fun _=>0),Qo D.n w'))
   (0,Qc (D.card v) (Kq (fun x=>TM D E (at' v x (D.fA s)) D.n 0 fun _=>0) (fun x=>TM D E (at' v x (D.fB s)) D.n 0 fun _=>0)))=some (Qc (D.card v) (Zn D s E v)):=by
  refine Qz (fun k=>((k:Int),Qc (D.card v) fun x=>if x < k then Zn D s E v x else Kq (fun x=>TM D E (at' v x (D.fA s)) D.n 0 fun _=>0) (fun x=>TM D E (at' v x (D.fB s)) D.n 0 fun _=>0) x)) (D.card v) _ (by simp) (fun k hk=>?_) ?_ (by omega)
  ·unfold Y4
   simp only
   rw [if_pos (by rw [Ql]; simpa using hk),Qk hk]
   simp only [Option.bind_some,Nat.lt_irrefl,if_false,Kq,Int.toNat_natCast]
   rw [Yc,Yc,w64 (by omega)]
   congr 3
   refine Qv fun x hx=>?_
   by_cases e:x=k
   ·subst e; simp [Zn,SW]
   ·rw [if_neg e,if_neg e]
    by_cases e2:x < k
    ·rw [if_pos e2,if_pos (by omega)]
    ·rw [if_neg e2,if_neg (by omega)]
  ·unfold Y4
   simp only
   rw [if_neg (by rw [Ql]; simp)]
   congr 2
   refine Qv fun x hx=>?_
   rw [if_pos hx]
 rw [hrun]
 rfl
theorem ok0 (V:VN D):D.ok (fun _=>0):=fun u hu=>(V.card u hu).1
end
end Go.Ab
namespace Go.Ab
open Go
section
variable {D:NF} {E:Nat → Int}
theorem Qml (V:VN D):Qcj D.net=some (prodTo D.n D.card:Int):=by
 unfold Qcj
 rw [Qpg V]
 simp only [Option.bind_some]
 rw [Q4y (fun k hk=>(V.card k hk).2) V.n8]
 rfl
def PS (D:NF) (k:Nat):Nat := PC D (D.n - k) k
theorem Qri {k:Nat} (h:k < D.n):PS D k=D.card k*PS D (k+1):=by
 unfold PS
 rw [show D.n - k=(D.n - (k+1))+1 by omega]; rfl
theorem Q6u:PS D D.n=1:=by unfold PS; rw [Nat.sub_self]; rfl
theorem Q1h (V:VN D) {k:Nat} (h:k≤D.n):1≤PS D k:=Q0v V _ _ (by omega)
def dig (D:NF) (W k:Nat):Nat := W / PS D (k+1) % D.card k
theorem Qvz (V:VN D) (W:Nat):D.ok (dig D W):=fun v hv=>Nat.mod_lt _ (V.card v hv).1
theorem Qnb (V:VN D) {W:Nat} (hW:W < 1125899906842624):K9 D.net (W:Int)=some (Qo D.n (dig D W)):=by
 have hn:=V.n8
 have hlen:(Qo D.n D.card).length=D.n:=Yb
 unfold K9
 rw [Qpg V]
 simp only [Option.bind_some]
 unfold Qfd
 rw [hlen,if_pos (by omega),Int.toNat_natCast,Qda]
 refine Yk (Yk (Qz (s0:=((W:Int),zw ((D.n:Int) - 1),Qc D.n fun _=>(0:Int))) (r:=Qo D.n (dig D W)) (fun m=>(((W / PS D (D.n - m):Nat):Int),((D.n - m:Nat):Int) - 1,Qc D.n fun j=>if D.n - m≤j then (dig D W j:Int) else 0)) D.n ?_ (fun m hm=>?_) ?_ (by omega)) rfl) rfl
 ·have e1:(Qc D.n fun j=>if D.n - 0≤j then (dig D W j:Int) else 0)=Qc D.n fun _=>(0:Int):=Qv fun j hj=>if_neg (by omega)
  rw [w64 (by omega),e1]
  simp only [Nat.sub_zero,Q6u,Nat.div_one]
 ·obtain ⟨k,hk⟩:∃k,D.n - m=k+1:=⟨D.n - m - 1,by omega⟩
  have hkn:k < D.n:=by omega
  have hc:=V.card k hkn
  have hk2:D.n - (m+1)=k:=by omega
  simp only [hk,hk2]
  have hkk:((k+1:Nat):Int) - 1=(k:Int):=by omega
  rw [hkk]
  unfold Qct
  simp only
  rw [if_pos (by simp),Zq hkn]
  simp only [Option.bind_some]
  rw [if_pos (by omega),Qk hkn]
  simp only [Option.bind_some]
  rw [if_pos (by omega),Jr (Int.natCast_nonneg _),Ya (Int.natCast_nonneg _),Int.toNat_natCast,Yc]
  have h1:W / PS D (k+1) / D.card k=W / PS D k:=by rw [Nat.div_div_eq_div_mul,Qri hkn,Nat.mul_comm]
  have h2:((W / PS D (k+1):Nat):Int) / (D.card k:Int)=((W / PS D k:Nat):Int):=by rw [←h1]; simp
  have h3:((W / PS D (k+1):Nat):Int) % (D.card k:Int)=(dig D W k:Int):=by unfold dig; simp
  have h4:W / PS D k≤W:=Nat.div_le_self _ _
  rw [h2,h3]
  obtain ⟨q,hq⟩:∃q,W / PS D k=q:=⟨_,rfl⟩
  rw [hq] at h4 ⊢
  rw [w64 (by omega),w64 (by omega)]
  congr 4
  refine Qv fun j hj=>?_
  by_cases e:j=k
  ·subst e; simp
  ·rw [if_neg e]
   by_cases e2:k+1≤j
   ·rw [if_pos e2,if_pos (by omega)]
   ·rw [if_neg e2,if_neg (by omega)]
 ·unfold Qct
  simp only [Nat.sub_self]
  rw [if_neg (by simp)]
  exact congrArg (fun z=>some (Qm.done z)) (Qv fun j hj=>if_pos (by omega))
def okE (E:Nat → Int) (j x:Nat):Prop:=E j=-1∨E j=(x:Int)
instance instokE (E:Nat → Int) (j x:Nat):Decidable (okE E j x):=by unfold okE; infer_instance
def Yv (n:Nat) (E:Nat → Int) (i:Nat) (w:Nat → Nat):Prop:=∀j,i≤j→j < n→okE E j (w j)
theorem Quu {n:Nat} {w:Nat → Nat} (hn:n≤8) (hE:∀j,j < n→-1≤E j) (h:Yv n E 0 w):V4 (Qo n w) (Qc n E)=some true:=by
 unfold V4
 refine Yk (Qz (s0:=(0:Int)) (r:=Sum.inr ()) (fun k=>(k:Int)) n rfl (fun k hk=>?_) ?_ (by omega)) rfl
 ·unfold Vu
  rw [if_pos (by rw [Yb]; simpa using hk),Qk hk]
  simp only [Option.bind_some]
  have e:zw ((k:Int)+1)=((k+1:Nat):Int):=by rw [w64 (by omega)]; omega
  rcases h k (by omega) hk with h1 | h1
  ·rw [if_neg (by rw [h1]; simp),e]
  ·by_cases h0:E k≥0
   ·rw [if_pos (by simpa using h0),Zq hk]
    simp only [Option.bind_some]
    rw [if_neg (by rw [h1]; simp),e]
   ·omega
 ·unfold Vu
  rw [if_neg (by rw [Yb]; simp)]
theorem Qs9 {n:Nat} {w:Nat → Nat} (hn:n≤8) (hE:∀j,j < n→-1≤E j) (h:¬ Yv n E 0 w):V4 (Qo n w) (Qc n E)=some false:=by
 unfold V4
 have hw:=Zy (body:=Vu (Qo n w) (Qc n E)) (fun s=>∃k:Nat,k≤n∧s=(k:Int)∧∀j,j < k→okE E j (w j)) (fun s=>n - s.toNat) (fun r=>r=Sum.inl ()) (fun s hs=>?_) (0:Int) ⟨0,by omega,rfl,fun j hj=>by omega⟩ (by simp; omega)
 ·obtain ⟨r,h1,h2⟩:=hw
  rw [h1,h2]; rfl
 ·obtain ⟨k,hk,rfl,hpre⟩:=hs
  have hlt:k < n:=by
   rcases Nat.lt_or_ge k n with h' | h'
   ·exact h'
   ·exact absurd (fun j _ hj=>hpre j (by omega)) h
  have e:zw ((k:Int)+1)=((k+1:Nat):Int):=by rw [w64 (by omega)]; omega
  have hb:=hE k hlt
  unfold Vu
  rw [if_pos (by rw [Yb]; simpa using hlt),Qk hlt]
  simp only [Option.bind_some]
  by_cases h0:E k≥0
  ·rw [if_pos (by simpa using h0),Zq hlt]
   simp only [Option.bind_some]
   by_cases h1:E k=(w k:Int)
   ·left
    rw [if_neg (by rw [h1]; simp),e]
    exact ⟨_,rfl,⟨k+1,by omega,rfl,fun j hj=>by
     rcases Nat.lt_succ_iff_lt_or_eq.1 hj with h2 | h2
     ·exact hpre j h2
     ·subst h2; exact .inr h1⟩,by simp; omega⟩
   ·right
    rw [if_pos (by simpa using h1)]
    exact ⟨_,rfl,rfl⟩
  ·left
   rw [if_neg (by simpa using h0),e]
   exact ⟨_,rfl,⟨k+1,by omega,rfl,fun j hj=>by
    rcases Nat.lt_succ_iff_lt_or_eq.1 hj with h2 | h2
    ·exact hpre j h2
    ·subst h2; exact .inl (by omega)⟩,by simp; omega⟩
def ix (c w:Nat → Nat):List Nat → Nat
 | []=>0
 | p::l=>w p*lprodR c l+ix c w l
where lprodR (c:Nat → Nat):List Nat → Nat
 | []=>1
 | p::l=>c p*lprodR c l
theorem Qt5 (c w:Nat → Nat):∀(l:List Nat) (r:Nat),l.foldl (fun r p=>r*c p+w p) r=r*ix.lprodR c l+ix c w l
 | [],r=>by simp [ix,ix.lprodR]
 | p::l,r=>by
  simp only [List.foldl_cons,Qt5 c w l,ix,ix.lprodR]
  rw [Nat.add_mul,Nat.mul_assoc,Nat.add_assoc]
theorem Q0j {c w:Nat → Nat} {l:List Nat}:horner c w l=ix c w l:=by
 unfold horner; rw [Qt5]; simp
theorem Q01 {c:Nat → Nat} {l:List Nat} (h:∀p∈l,c p≤4):ix.lprodR c l≤4^l.length:=by
 induction l with
 | nil=>simp [ix.lprodR]
 | cons p l ih =>
  simp only [ix.lprodR,List.length_cons,Nat.pow_succ]
  rw [Nat.mul_comm]
  exact Nat.mul_le_mul (ih fun q hq=>h q (List.mem_cons_of_mem _ hq)) (h p (by simp))
theorem Q7q {c w:Nat → Nat} {l:List Nat} (h:∀p∈l,c p≤4∧w p < c p):ix c w l < ix.lprodR c l:=by
 induction l with
 | nil=>simp [ix,ix.lprodR]
 | cons p l ih =>
  have h1:=ih fun q hq=>h q (List.mem_cons_of_mem _ hq)
  have h2:=(h p (by simp)).2
  simp only [ix,ix.lprodR]
  have:(w p+1)*ix.lprodR c l≤c p*ix.lprodR c l:=Nat.mul_le_mul_right _ h2
  rw [Nat.succ_mul] at this
  omega
theorem Qui {c w:Nat → Nat} {l:List Nat} (h:∀p∈l,c p≤4∧w p < c p) (h8:l.length≤8) :
  Qat (l.map fun p=>(c p:Int)) (l.map fun p=>(w p:Int))=some (horner c w l:Int):=by
 unfold Qat
 have hd:∀(k:Nat) (hk:k < l.length),l.drop k=l[k]'hk::l.drop (k+1):=fun k hk=>List.drop_eq_getElem_cons hk
 refine Yk (Qz (s0:=((0:Int),(1:Int),zw (((l.map fun p=>(c p:Int)).length:Int) - 1))) (r:=(horner c w l:Int)) (fun m=>((ix c w (l.drop (l.length - m)):Int),(ix.lprodR c (l.drop (l.length - m)):Int),((l.length - m:Nat):Int) - 1)) l.length ?_ (fun m hm=>?_) ?_ (by omega)) rfl
 ·simp only [Nat.sub_zero,List.drop_length,ix,ix.lprodR,List.length_map]
  rw [w64 (by omega)]
  rfl
 ·obtain ⟨k,hk⟩:∃k,l.length - m=k+1:=⟨l.length - m - 1,by omega⟩
  have hkn:k < l.length:=by omega
  have hk2:l.length - (m+1)=k:=by omega
  simp only [hk,hk2]
  have hkk:((k+1:Nat):Int) - 1=(k:Int):=by omega
  rw [hkk]
  have hmem:=h _ (List.getElem_mem hkn)
  have hsub:∀p∈l.drop (k+1),c p≤4∧w p < c p:=fun p hp=>h p (List.mem_of_mem_drop hp)
  have b1:=Q01 (c:=c) (l:=l.drop (k+1)) (fun p hp=>(hsub p hp).1)
  have b2:(4:Nat)^(l.drop (k+1)).length≤4^8:=Nat.pow_le_pow_right (by omega) (by rw [List.length_drop]; omega)
  have b3:=Q7q hsub
  have b4:w l[k]*ix.lprodR c (l.drop (k+1))≤4*65536:=Nat.mul_le_mul (by omega) (by omega)
  have b5:ix.lprodR c (l.drop (k+1))*c l[k]≤65536*4:=Nat.mul_le_mul (by omega) hmem.1
  unfold Qdm
  simp only
  rw [if_pos (by simp),Qs (by simpa using hkn)]
  simp only [Option.bind_some]
  rw [Qs (by simpa using hkn)]
  simp only [Option.bind_some,List.getElem_map]
  have e1:(w l[k]:Int)*(ix.lprodR c (l.drop (k+1)):Int)=((w l[k]*ix.lprodR c (l.drop (k+1)):Nat):Int):=by simp
  have e2:(ix.lprodR c (l.drop (k+1)):Int)*(c l[k]:Int)=((ix.lprodR c (l.drop (k+1))*c l[k]:Nat):Int):=by simp
  have w1:zw ((w l[k]*ix.lprodR c (l.drop (k+1)):Nat):Int)=((w l[k]*ix.lprodR c (l.drop (k+1)):Nat):Int):=w64 (by omega)
  rw [e1,e2,w1,w64 (by omega),w64 (by omega),w64 (by omega),hd k hkn]
  simp only [ix,ix.lprodR]
  congr 3
  ·rw [Int.natCast_add]; omega
  ·rw [Nat.mul_comm]
 ·unfold Qdm
  simp only [Nat.sub_self,List.drop_zero]
  rw [if_neg (by simp),Q0j]
theorem Qsj (V:VN D) {v:Nat} (hv:v < D.n):Q3 D.net (v:Int)=some ((D.par v).map fun p=>(D.card p:Int)):=by
 unfold Q3
 rw [Qpg V]
 simp only [Option.bind_some]
 rw [V.node hv]
 simp only [Option.bind_some]
 rw [show (D.node v).Parents=(D.par v).map fun (p:Nat)=>(p:Int) from rfl,Qp5 (V.par v hv) (V.len v hv)]
 rfl
theorem Q0r (V:VN D) {w:Nat → Nat} (hw:D.ok w) {v:Nat} (hv:v < D.n):Qa3 D.net (v:Int) (Qo D.n w)=some (Qc (D.card v) fun x=>(D.W v (D.idx v w) x:Int)):=by
 unfold Qa3
 rw [V.node hv]
 simp only [Option.bind_some]
 rw [Qsj V hv]
 simp only [Option.bind_some]
 rw [show (D.node v).Parents=(D.par v).map fun (p:Nat)=>(p:Int) from rfl,Qp5 (V.par v hv) (V.len v hv)]
 simp only [Option.bind_some]
 rw [Qui (fun p hp=>⟨(V.card p (V.par v hv p hp)).2,hw p (V.par v hv p hp)⟩) (V.len v hv)]
 simp only [Option.bind_some]
 rw [show lkI (D.node v).Rows (horner D.card w (D.par v):Int)=some (Qc (D.card v) fun x=>(D.W v (D.idx v w) x:Int)) from Qk (V.idx_lt hw hv)]
 rfl
theorem Q1e (V:VN D) {W:Nat} (hW:W < 1125899906842624):Qci D.net (W:Int)=some (prodTo D.n (D.wt (dig D W)):Int):=by
 have hlen:D.net.Nodes.length=D.n:=Ql
 have hn:=V.n8
 have hw:=Qvz V W
 unfold Qci
 rw [Qnb V hW]
 simp only [Option.bind_some]
 refine Yk (Qz (s0:=((1:Int),(0:Int))) (r:=(prodTo D.n (D.wt (dig D W)):Int)) (fun k=>((prodTo k (D.wt (dig D W)):Int),(k:Int))) D.n rfl (fun k hk=>?_) ?_ (by omega)) rfl
 ·have h1:prodTo k (D.wt (dig D W))≤60^k:=Vg fun j hj=>V.wt_le hw (by omega)
  have h2:(60:Nat)^k≤60^8:=Nat.pow_le_pow_right (by omega) (by omega)
  have h3:prodTo k (D.wt (dig D W))*D.wt (dig D W) k≤167961600000000*60:=Nat.mul_le_mul (Nat.le_trans h1 (Nat.le_trans h2 (by decide))) (V.wt_le hw hk)
  unfold Qcv
  simp only
  rw [if_pos (by rw [hlen]; simpa using hk),Q0r V hw hk]
  simp only [Option.bind_some]
  rw [Zq hk]
  simp only [Option.bind_some]
  rw [Qk (hw k hk)]
  simp only [Option.bind_some]
  have e:(prodTo k (D.wt (dig D W)):Int)*(D.W k (D.idx k (dig D W)) (dig D W k):Int)=((prodTo (k+1) (D.wt (dig D W)):Nat):Int):=by simp [prodTo,NF.wt]
  rw [e,w64 (by simp only [prodTo]; omega),w64 (by omega)]
  rfl
 ·unfold Qcv
  simp only
  rw [if_neg (by rw [hlen]; simp)]
def mix (D:NF) (i:Nat) (w:Nat → Nat) (W:Nat):Nat → Nat := fun j=>if j < i then w j else dig D W j
theorem Q56 (V:VN D) {i j:Nat} (hij:i≤j) (hj:j < D.n):∃M,PS D i=M*(D.card j*PS D (j+1)):=by
 obtain ⟨k,rfl⟩:=Nat.exists_eq_add_of_le hij
 induction k generalizing i with
 | zero=>exact ⟨1,by rw [Nat.add_zero,Nat.one_mul,Qri (by omega)]⟩
 | succ k ih =>
  obtain ⟨M,hM⟩:=ih (i:=i+1) (by omega) (by omega)
  refine ⟨D.card i*M,?_⟩
  rw [Qri (by omega),hM]
  rw [show i+1+k=i+(k+1) by omega,Nat.mul_assoc]
open Classical in
theorem Qp9 (V:VN D) {f:(Nat → Nat)→Int} (hf:Ext D f):∀(d i:Nat) (w:Nat → Nat),i+d=D.n →
  Qn (PC D d i) (fun W=>if Yv D.n E i (mix D i w W) then f (mix D i w W) else 0)=TM D E f d i w
 | 0,i,w,h=>by
  simp only [PC,Qn,TM,Int.zero_add]
  rw [if_pos (show Yv D.n E i (mix D i w 0) from fun j h1 h2=>by omega)]
  exact hf _ _ fun j hj=>by unfold mix; rw [if_pos (by omega)]
 | d+1,i,w,h=>by
  have hi:i < D.n:=by omega
  simp only [PC,TM]
  rw [Qy2]
  refine Kc fun x hx=>?_
  have hP:PC D d (i+1)=PS D (i+1):=by unfold PS; rw [show D.n - (i+1)=d by omega]
  have hpos:=Q1h V (k:=i+1) (by omega)
  have hag:∀y,y < PC D d (i+1)→∀j,j < D.n→mix D i w (x*PC D d (i+1)+y) j=mix D (i+1) (Xf w i x) y j:=fun y hy j hj=>by
   unfold mix
   by_cases h1:j < i
   ·rw [if_pos h1,if_pos (by omega),J6 (by omega)]
   ·rw [if_neg h1]
    by_cases h2:j=i
    ·subst h2
     rw [if_pos (by omega),Yd]
     unfold dig
     rw [hP] at hy ⊢
     rw [Nat.mul_comm,Nat.mul_add_div (by omega),Nat.div_eq_of_lt hy,Nat.add_zero,Nat.mod_eq_of_lt hx]
    ·rw [if_neg (by omega)]
     unfold dig
     rw [hP]
     obtain ⟨M,hM⟩:=Q56 V (i:=i+1) (j:=j) (by omega) hj
     have hpj:=Q1h V (k:=j+1) (by omega)
     rw [hM,show x*(M*(D.card j*PS D (j+1)))+y=PS D (j+1)*(D.card j*(x*M))+y by
      rw [Nat.mul_comm (D.card j),←Nat.mul_assoc,←Nat.mul_assoc,Nat.mul_comm (PS D (j+1)),Nat.mul_comm (D.card j),Nat.mul_right_comm (x*M)]]
     rw [Nat.mul_add_div (by omega),Nat.mul_add_mod]
  rw [Kc (g:=fun y=>if okE E i x then (if Yv D.n E (i+1) (mix D (i+1) (Xf w i x) y) then f (mix D (i+1) (Xf w i x) y) else 0) else 0) (fun y hy=>?_)]
  ·by_cases hok:okE E i x
   ·rw [Kc (g:=fun y=>if Yv D.n E (i+1) (mix D (i+1) (Xf w i x) y) then f (mix D (i+1) (Xf w i x) y) else 0) (fun y _=>if_pos hok),Qp9 V hf d (i+1) _ (by omega),if_pos (show E i=-1∨E i=(x:Int) from hok)]
   ·rw [Kc (g:=fun _=>0) (fun y _=>if_neg hok),Qid,if_neg (show ¬ (E i=-1∨E i=(x:Int)) from hok)]
  ·have e:=hag y hy
   have hiff:Yv D.n E i (mix D i w (x*PC D d (i+1)+y))↔okE E i x∧Yv D.n E (i+1) (mix D (i+1) (Xf w i x) y):=by
    constructor
    ·intro hm
     refine ⟨?_,fun j h1 h2=>?_⟩
     ·have:=hm i (by omega) hi
      rw [e i hi] at this
      unfold mix at this
      rwa [if_pos (by omega),Yd] at this
     ·have:=hm j (by omega) h2
      rwa [e j h2] at this
    ·rintro ⟨h1,h2⟩ j h3 h4
     rw [e j h4]
     by_cases h5:j=i
     ·subst h5; unfold mix; rwa [if_pos (by omega),Yd]
     ·exact h2 j (by omega) h4
   by_cases hok:okE E i x
   ·rw [if_pos hok]
    by_cases hm:Yv D.n E (i+1) (mix D (i+1) (Xf w i x) y)
    ·rw [if_pos (hiff.2 ⟨hok,hm⟩),if_pos hm,hf _ _ e]
    ·rw [if_neg (fun c=>hm (hiff.1 c).2),if_neg hm]
   ·rw [if_neg (fun c=>hok (hiff.1 c).1),if_neg hok]
end
end Go.Ab
namespace Go.Ab
open Go
section
variable {D:NF}
theorem Q20 (X:VX D) {E:Nat → Int} (hE:Qhm D E) {s:SF} {v x:Nat} (hs:s.N < D.n) (hR:s.R < D.rows s.N) (hF:s.F < D.card s.N) (hT:s.T < D.card s.N) (hFT:s.F≠s.T) (hv:v < D.n) (hx:x < D.card v) :
  Ze D.net (Qc D.n E) (v:Int) s.sh [(x:Int)]=some 0:=by
 have V:=X.vn
 have hn:=V.n8
 have hlen:D.net.Nodes.length=D.n:=Ql
 obtain ⟨order,hr⟩:=Qrk X
 have hce:Zs D.net (Qc D.n E)=some 0:=by
  unfold Zs
  rw [hr]
  simp only [Option.bind_some]
  rw [if_neg (by simp),if_neg (by rw [Ql,hlen]; simp)]
  refine Yk (Qz (s0:=(0:Int)) (r:=Sum.inr ()) (fun k=>(k:Int)) D.n rfl (fun k hk=>?_) ?_ (by omega)) rfl
  ·have:=hE k hk
   unfold Zh
   rw [if_pos (by rw [Ql]; simpa using hk),Qk hk]
   simp only [Option.bind_some]
   rw [if_neg (by simp; omega),Zq hk]
   simp only [Option.bind_some]
   rw [if_neg (by simp; omega),w64 (by omega)]
   rfl
  ·unfold Zh
   rw [if_neg (by rw [Ql]; simp)]
 unfold Ze Qa0
 rw [hr]
 simp only [Option.bind_some]
 rw [if_neg (by simp),hce]
 simp only [Option.bind_some]
 rw [if_neg (by simp),if_neg (by simp),if_neg (by rw [hlen]; simp; omega)]
 refine Yk (Qz (s0:=(0:Int)) (r:=Sum.inr ()) (fun k=>(k:Int)) 1 rfl (fun k hk=>?_) ?_ (by omega)) ?_
 ·have:k=0:=by omega
  subst this
  unfold Zi
  rw [if_pos (by simp),show lkI [(x:Int)] ((0:Nat):Int)=some (x:Int) from rfl]
  simp only [Option.bind_some]
  rw [if_neg (by simp),V.node hv]
  simp only [Option.bind_some]
  rw [if_neg (by simp [NF.node]; omega)]
  rfl
 ·unfold Zi
  rw [if_neg (by simp)]
 ·simp only
  rw [show s.sh.Node=(s.N:Int) from rfl,show s.sh.Row=(s.R:Int) from rfl,show s.sh.From=(s.F:Int) from rfl,show s.sh.To=(s.T:Int) from rfl]
  rw [if_neg (by simp),if_neg (by rw [hlen]; simp; omega),V.node hs]
  simp only [Option.bind_some]
  rw [if_neg (by simp),if_neg (by simp [NF.node,Ql]; omega),if_neg (by simp),if_neg (by simp [NF.node]; omega),if_neg (by simp),if_neg (by simp [NF.node]; omega),if_neg (by simp; omega)]
end
end Go.Ab
namespace Go.Ab
open Go
theorem J0 {cs:List AV} (h:WT (.int .u8) cs):∃a:Int,cs=[(AV.int .u8) a]∧(Lit.int .u8 a).wf=true:=by
 obtain ⟨n,rfl,w⟩:=h
 exact ⟨n,rfl,w⟩
theorem el5 {x:AV} (h:WT (.int .u8) x.flat ∧ (if false then x=.agg x.flat else x.cell=true)):∃a:Int,x=(AV.int .u8) a∧(Lit.int .u8 a).wf=true:=by
 obtain ⟨a,h1,h2⟩:=J0 h.1
 rw [Qsn h.2] at h1
 exact ⟨a,(List.cons.inj h1).1,h2⟩
theorem Q37 {cs:List AV} (h:WT (.slice true false 1 (.int .u8)) cs):∃a:(List Int),cs=[(eL true (AV.int .u8)) a]∧(a.length≤maxLen∧∀y0∈a,(Lit.int .u8 y0).wf=true):=by
 obtain ⟨xs,rfl,hl,hx⟩:=h
 obtain ⟨l,rfl,hr⟩:=Qo8 (enc:=(AV.int .u8)) (R:=fun a=>(Lit.int .u8 a).wf=true) (fun x hm=>el5 (hx x hm))
 exact ⟨l,rfl,by simpa using hl,hr⟩
def Yh (x:Q0):Prop:=((Lit.int .u8 x.Card).wf=true)∧((Lit.int .u8 x.Parents).wf=true)∧((x.W.length≤maxLen∧∀y0∈x.W,(Lit.int .u8 y0).wf=true))
theorem Qi3 {cs:List AV} (h:WT (.cat (.int .u8) (.cat (.int .u8) (.cat (.slice true false 1 (.int .u8)) .unit))) cs):∃x:Q0,AV.agg cs=eTharuspexref05_Piece x∧Yh x:=by
 obtain ⟨_,_,rfl,a0,r0⟩:=h
 obtain ⟨v0,e0,w0⟩:=J0 a0
 cases e0
 obtain ⟨_,_,rfl,a1,r1⟩:=r0
 obtain ⟨v1,e1,w1⟩:=J0 a1
 cases e1
 obtain ⟨_,_,rfl,a2,r2⟩:=r1
 obtain ⟨v2,e2,w2⟩:=Q37 a2
 cases e2
 cases r2
 exact ⟨⟨v0,v1,v2⟩,rfl,⟨w0,w1,w2⟩⟩
theorem Q7d {x:AV} (h:WT (.cat (.int .u8) (.cat (.int .u8) (.cat (.slice true false 1 (.int .u8)) .unit))) x.flat ∧ (if true then x=.agg x.flat else x.cell=true)):∃a:Q0,x=eTharuspexref05_Piece a∧Yh a:=by
 obtain ⟨a,h1,h2⟩:=Qi3 h.1
 have h3:x=.agg x.flat := h.2
 exact ⟨a,h3.trans h1,h2⟩
theorem Q7i {cs:List AV} (h:WT (.slice false true 3 (.cat (.int .u8) (.cat (.int .u8) (.cat (.slice true false 1 (.int .u8)) .unit)))) cs):∃a:(List Q0),cs=[(eL false eTharuspexref05_Piece) a]∧(a.length≤maxLen∧∀y0∈a,Yh y0):=by
 obtain ⟨xs,rfl,hl,hx⟩:=h
 obtain ⟨l,rfl,hr⟩:=Qo8 (enc:=eTharuspexref05_Piece) (R:=fun a=>Yh a) (fun x hm=>Q7d (hx x hm))
 exact ⟨l,rfl,by simpa using hl,hr⟩
def Vo (x:Qf):Prop:=((Lit.int .u8 x.Grain).wf=true)∧((x.Nodes.length≤maxLen∧∀y0∈x.Nodes,Yh y0))∧((x.Order.length≤maxLen∧∀y0∈x.Order,(Lit.int .u8 y0).wf=true))
theorem Qi8 {cs:List AV} (h:WT (.cat (.int .u8) (.cat (.slice false true 3 (.cat (.int .u8) (.cat (.int .u8) (.cat (.slice true false 1 (.int .u8)) .unit)))) (.cat (.slice true false 1 (.int .u8)) .unit))) cs):∃x:Qf,AV.agg cs=Qki x∧Vo x:=by
 obtain ⟨_,_,rfl,a0,r0⟩:=h
 obtain ⟨v0,e0,w0⟩:=J0 a0
 cases e0
 obtain ⟨_,_,rfl,a1,r1⟩:=r0
 obtain ⟨v1,e1,w1⟩:=Q7i a1
 cases e1
 obtain ⟨_,_,rfl,a2,r2⟩:=r1
 obtain ⟨v2,e2,w2⟩:=Q37 a2
 cases e2
 cases r2
 exact ⟨⟨v0,v1,v2⟩,rfl,⟨w0,w1,w2⟩⟩
theorem Qmj {cs:List AV} (h:WT (.int .i64) cs):∃a:Int,cs=[eI a]∧(Lit.int .i64 a).wf=true:=by
 obtain ⟨n,rfl,w⟩:=h
 exact ⟨n,rfl,w⟩
theorem el3 {x:AV} (h:WT (.int .i64) x.flat ∧ (if false then x=.agg x.flat else x.cell=true)):∃a:Int,x=eI a∧(Lit.int .i64 a).wf=true:=by
 obtain ⟨a,h1,h2⟩:=Qmj h.1
 rw [Qsn h.2] at h1
 exact ⟨a,(List.cons.inj h1).1,h2⟩
def Qaa (x:Zr):Prop:=((Lit.int .u8 x.What).wf=true)∧((Lit.int .u8 x.At).wf=true)∧((Lit.int .u8 x.Row).wf=true)∧((Lit.int .i64 x.N).wf=true)
theorem Qj6 {cs:List AV} (h:WT (.cat (.int .u8) (.cat (.int .u8) (.cat (.int .u8) (.cat (.int .i64) .unit)))) cs):∃x:Zr,AV.agg cs=Qk4 x∧Qaa x:=by
 obtain ⟨_,_,rfl,a0,r0⟩:=h
 obtain ⟨v0,e0,w0⟩:=J0 a0
 cases e0
 obtain ⟨_,_,rfl,a1,r1⟩:=r0
 obtain ⟨v1,e1,w1⟩:=J0 a1
 cases e1
 obtain ⟨_,_,rfl,a2,r2⟩:=r1
 obtain ⟨v2,e2,w2⟩:=J0 a2
 cases e2
 obtain ⟨_,_,rfl,a3,r3⟩:=r2
 obtain ⟨v3,e3,w3⟩:=Qmj a3
 cases e3
 cases r3
 exact ⟨⟨v0,v1,v2,v3⟩,rfl,⟨w0,w1,w2,w3⟩⟩
theorem Q7c {cs:List AV} (h:WT (.cat (.int .u8) (.cat (.int .u8) (.cat (.int .u8) (.cat (.int .u8) (.cat (.int .u8) (.cat (.int .u8) (.cat (.int .u8) (.cat (.int .u8) .unit)))))))) cs):∃x:(Int × Int × Int × Int × Int × Int × Int × Int),AV.agg cs=(fun x:(Int × Int × Int × Int × Int × Int × Int × Int)=>AV.agg [.int .u8 x.1,.int .u8 x.2.1,.int .u8 x.2.2.1,.int .u8 x.2.2.2.1,.int .u8 x.2.2.2.2.1,.int .u8 x.2.2.2.2.2.1,.int .u8 x.2.2.2.2.2.2.1,.int .u8 x.2.2.2.2.2.2.2]) x∧((Lit.int .u8 x.1).wf=true∧(Lit.int .u8 x.2.1).wf=true∧(Lit.int .u8 x.2.2.1).wf=true∧(Lit.int .u8 x.2.2.2.1).wf=true∧(Lit.int .u8 x.2.2.2.2.1).wf=true∧(Lit.int .u8 x.2.2.2.2.2.1).wf=true∧(Lit.int .u8 x.2.2.2.2.2.2.1).wf=true∧(Lit.int .u8 x.2.2.2.2.2.2.2).wf=true):=by
 obtain ⟨_,_,rfl,a0,r0⟩:=h
 obtain ⟨v0,e0,w0⟩:=J0 a0
 cases e0
 obtain ⟨_,_,rfl,a1,r1⟩:=r0
 obtain ⟨v1,e1,w1⟩:=J0 a1
 cases e1
 obtain ⟨_,_,rfl,a2,r2⟩:=r1
 obtain ⟨v2,e2,w2⟩:=J0 a2
 cases e2
 obtain ⟨_,_,rfl,a3,r3⟩:=r2
 obtain ⟨v3,e3,w3⟩:=J0 a3
 cases e3
 obtain ⟨_,_,rfl,a4,r4⟩:=r3
 obtain ⟨v4,e4,w4⟩:=J0 a4
 cases e4
 obtain ⟨_,_,rfl,a5,r5⟩:=r4
 obtain ⟨v5,e5,w5⟩:=J0 a5
 cases e5
 obtain ⟨_,_,rfl,a6,r6⟩:=r5
 obtain ⟨v6,e6,w6⟩:=J0 a6
 cases e6
 obtain ⟨_,_,rfl,a7,r7⟩:=r6
 obtain ⟨v7,e7,w7⟩:=J0 a7
 cases e7
 cases r7
 exact ⟨(v0,v1,v2,v3,v4,v5,v6,v7),rfl,⟨w0,w1,w2,w3,w4,w5,w6,w7⟩⟩
def Ko (x:Tharuspexref05_Known):Prop:=((Lit.int .u8 x.Which).wf=true)∧(((Lit.int .u8 x.V.1).wf=true∧(Lit.int .u8 x.V.2.1).wf=true∧(Lit.int .u8 x.V.2.2.1).wf=true∧(Lit.int .u8 x.V.2.2.2.1).wf=true∧(Lit.int .u8 x.V.2.2.2.2.1).wf=true∧(Lit.int .u8 x.V.2.2.2.2.2.1).wf=true∧(Lit.int .u8 x.V.2.2.2.2.2.2.1).wf=true∧(Lit.int .u8 x.V.2.2.2.2.2.2.2).wf=true))
theorem Qir {cs:List AV} (h:WT (.cat (.int .u8) (.cat (.cat (.int .u8) (.cat (.int .u8) (.cat (.int .u8) (.cat (.int .u8) (.cat (.int .u8) (.cat (.int .u8) (.cat (.int .u8) (.cat (.int .u8) .unit)))))))) .unit)) cs):∃x:Tharuspexref05_Known,AV.agg cs=Qjp x∧Ko x:=by
 obtain ⟨_,_,rfl,a0,r0⟩:=h
 obtain ⟨v0,e0,w0⟩:=J0 a0
 cases e0
 obtain ⟨_,_,rfl,a1,r1⟩:=r0
 obtain ⟨v1,e1,w1⟩:=Q7c a1
 cases e1
 cases r1
 exact ⟨⟨v0,v1⟩,rfl,⟨w0,w1⟩⟩
def Kn (x:Xc):Prop:=((Lit.int .u8 x.V).wf=true)∧((Lit.int .u8 x.Value).wf=true)∧((Lit.int .u8 x.Node).wf=true)∧((Lit.int .u8 x.Row).wf=true)∧((Lit.int .u8 x.From).wf=true)∧((Lit.int .u8 x.To).wf=true)
theorem Qit {cs:List AV} (h:WT (.cat (.int .u8) (.cat (.int .u8) (.cat (.int .u8) (.cat (.int .u8) (.cat (.int .u8) (.cat (.int .u8) .unit)))))) cs):∃x:Xc,AV.agg cs=Qj7 x∧Kn x:=by
 obtain ⟨_,_,rfl,a0,r0⟩:=h
 obtain ⟨v0,e0,w0⟩:=J0 a0
 cases e0
 obtain ⟨_,_,rfl,a1,r1⟩:=r0
 obtain ⟨v1,e1,w1⟩:=J0 a1
 cases e1
 obtain ⟨_,_,rfl,a2,r2⟩:=r1
 obtain ⟨v2,e2,w2⟩:=J0 a2
 cases e2
 obtain ⟨_,_,rfl,a3,r3⟩:=r2
 obtain ⟨v3,e3,w3⟩:=J0 a3
 cases e3
 obtain ⟨_,_,rfl,a4,r4⟩:=r3
 obtain ⟨v4,e4,w4⟩:=J0 a4
 cases e4
 obtain ⟨_,_,rfl,a5,r5⟩:=r4
 obtain ⟨v5,e5,w5⟩:=J0 a5
 cases e5
 cases r5
 exact ⟨⟨v0,v1,v2,v3,v4,v5⟩,rfl,⟨w0,w1,w2,w3,w4,w5⟩⟩
theorem Q7l {cs:List AV} (h:WT (.slice true false 1 (.int .i64)) cs):∃a:(List Int),cs=[(eL true eI) a]∧(a.length≤maxLen∧∀y0∈a,(Lit.int .i64 y0).wf=true):=by
 obtain ⟨xs,rfl,hl,hx⟩:=h
 obtain ⟨l,rfl,hr⟩:=Qo8 (enc:=eI) (R:=fun a=>(Lit.int .i64 a).wf=true) (fun x hm=>el3 (hx x hm))
 exact ⟨l,rfl,by simpa using hl,hr⟩
def Ql4 (x:Tapi_Shift):Prop:=((Lit.int .i64 x.Node).wf=true)∧((Lit.int .i64 x.Row).wf=true)∧((Lit.int .i64 x.From).wf=true)∧((Lit.int .i64 x.To).wf=true)
theorem Quy {cs:List AV} (h:WT (.cat (.int .i64) (.cat (.int .i64) (.cat (.int .i64) (.cat (.int .i64) .unit)))) cs):∃x:Tapi_Shift,AV.agg cs=Qww x∧Ql4 x:=by
 obtain ⟨_,_,rfl,a0,r0⟩:=h
 obtain ⟨v0,e0,w0⟩:=Qmj a0
 cases e0
 obtain ⟨_,_,rfl,a1,r1⟩:=r0
 obtain ⟨v1,e1,w1⟩:=Qmj a1
 cases e1
 obtain ⟨_,_,rfl,a2,r2⟩:=r1
 obtain ⟨v2,e2,w2⟩:=Qmj a2
 cases e2
 obtain ⟨_,_,rfl,a3,r3⟩:=r2
 obtain ⟨v3,e3,w3⟩:=Qmj a3
 cases e3
 cases r3
 exact ⟨⟨v0,v1,v2,v3⟩,rfl,⟨w0,w1,w2,w3⟩⟩
def Kp (x:Tharuspexlaw24_Story):Prop:=(Vo x.N)∧(Qaa x.C)∧(Ko x.K)∧(Kn x.D)∧((x.Raw.length≤maxLen∧∀y0∈x.Raw,(Lit.int .i64 y0).wf=true))∧((Lit.int .i64 x.V).wf=true)∧((Lit.int .i64 x.Value).wf=true)∧(Ql4 x.S)
theorem rdTharuspexlaw24_Story {cs:List AV} (h:WT (.cat (.cat (.int .u8) (.cat (.slice false true 3 (.cat (.int .u8) (.cat (.int .u8) (.cat (.slice true false 1 (.int .u8)) .unit)))) (.cat (.slice true false 1 (.int .u8)) .unit))) (.cat (.cat (.int .u8) (.cat (.int .u8) (.cat (.int .u8) (.cat (.int .i64) .unit)))) (.cat (.cat (.int .u8) (.cat (.cat (.int .u8) (.cat (.int .u8) (.cat (.int .u8) (.cat (.int .u8) (.cat (.int .u8) (.cat (.int .u8) (.cat (.int .u8) (.cat (.int .u8) .unit)))))))) .unit)) (.cat (.cat (.int .u8) (.cat (.int .u8) (.cat (.int .u8) (.cat (.int .u8) (.cat (.int .u8) (.cat (.int .u8) .unit)))))) (.cat (.slice true false 1 (.int .i64)) (.cat (.int .i64) (.cat (.int .i64) (.cat (.cat (.int .i64) (.cat (.int .i64) (.cat (.int .i64) (.cat (.int .i64) .unit)))) .unit)))))))) cs):∃x:Tharuspexlaw24_Story,AV.agg cs=eTharuspexlaw24_Story x∧Kp x:=by
 obtain ⟨_,_,rfl,a0,r0⟩:=h
 obtain ⟨v0,e0,w0⟩:=Qi8 a0
 cases e0
 obtain ⟨_,_,rfl,a1,r1⟩:=r0
 obtain ⟨v1,e1,w1⟩:=Qj6 a1
 cases e1
 obtain ⟨_,_,rfl,a2,r2⟩:=r1
 obtain ⟨v2,e2,w2⟩:=Qir a2
 cases e2
 obtain ⟨_,_,rfl,a3,r3⟩:=r2
 obtain ⟨v3,e3,w3⟩:=Qit a3
 cases e3
 obtain ⟨_,_,rfl,a4,r4⟩:=r3
 obtain ⟨v4,e4,w4⟩:=Q7l a4
 cases e4
 obtain ⟨_,_,rfl,a5,r5⟩:=r4
 obtain ⟨v5,e5,w5⟩:=Qmj a5
 cases e5
 obtain ⟨_,_,rfl,a6,r6⟩:=r5
 obtain ⟨v6,e6,w6⟩:=Qmj a6
 cases e6
 obtain ⟨_,_,rfl,a7,r7⟩:=r6
 obtain ⟨v7,e7,w7⟩:=Quy a7
 cases e7
 cases r7
 exact ⟨⟨v0,v1,v2,v3,v4,v5,v6,v7⟩,rfl,⟨w0,w1,w2,w3,w4,w5,w6,w7⟩⟩
end Go.Ab
namespace Go.Ab
open Go
theorem Qxz {p0:Qf} (h:Vo p0):Qyd p0:=by
 obtain ⟨h1,⟨h2,h3⟩,h4,h5⟩:=h
 exact ⟨bounds_u8 h1,fun x hx=>bounds_u8 (h5 x hx),fun p hp=>bounds_u8 (h3 p hp).1,fun p hp x hx=>bounds_u8 ((h3 p hp).2.2.2 x hx),fun p hp=>(h3 p hp).2.2.1⟩
structure DX (D:NF):Prop extends VX D where
 n5:D.n≤5
 c23:∀v,v < D.n→2≤D.card v∧D.card v≤3
section
variable {D:NF}
theorem DX.worlds (X:DX D):prodTo D.n D.card≤243:=by
 have h1:prodTo D.n D.card≤3^D.n:=Vg fun v hv=>(X.c23 v hv).2
 have h2:3^D.n≤3^5:=Nat.pow_le_pow_right (by omega) X.n5
 omega
theorem Q22 (X:DX D) {k:Tharuspexref05_Known} (hk:Ko k):∃E,Qhm D E∧Qap k D.net=some (Qc D.n E):=by
 have V:=X.vn
 have hn:=X.n5
 have hlen:D.net.Nodes.length=D.n:=Ql
 obtain ⟨_,k0,k1,k2,k3,k4,_⟩:=hk
 have hw:=Zy (body:=Jx D.net k) (fun s=>∃(i:Nat) (E:Nat → Int),i≤D.n∧(∀j,j < i→-1≤E j∧E j < D.card j)∧s=((i:Int),Qc i E))
  (fun s=>D.n - s.1.toNat) (fun r=>∃E,Qhm D E∧r=Qc D.n E) (fun s hs=>?_) ((0:Int),([]:List Int)) ⟨0,fun _=>0,by omega,fun j hj=>by omega,rfl⟩ (by simp; omega)
 ·obtain ⟨r,h1,E,h2,rfl⟩:=hw
  refine ⟨E,h2,?_⟩
  unfold Qap
  rw [h1]; rfl
 ·obtain ⟨i,E,hi,hE,rfl⟩:=hs
  by_cases hin:i < D.n
  ·left
   have hc:=V.card i hin
   have hnode:lkI D.net.Nodes (i:Int)=some (D.node i):=V.node hin
   have add:∀y:Int,-1≤y→y < D.card i→(∃s',some (Qm.next (((i+1:Nat):Int),Qc i E++[y]))=some (Qm.next (ρ:=List Int) s') ∧
     (∃(i:Nat) (E:Nat → Int),i≤D.n∧(∀j,j < i→-1≤E j∧E j < D.card j)∧s'=((i:Int),Qc i E))∧D.n - s'.1.toNat < D.n - (i:Int).toNat):=fun y h1 h2=>by
    refine ⟨_,rfl,⟨i+1,Xf E i y,hin,fun j hj=>?_,?_⟩,by simp; omega⟩
    ·by_cases e:j=i
     ·subst e; rw [Yd]; exact ⟨h1,h2⟩
     ·rw [J6 e]; exact hE j (by omega)
    ·rw [←Qb8,Yd]
     congr 2
     exact Qv fun j hj=>by rw [J6 (by omega)]
   have one:∀y:Int,(Lit.int .u8 y).wf=true→-1≤Int.tmod (zw y) (D.node i).Card∧Int.tmod (zw y) (D.node i).Card < D.card i:=fun y hy=>by
    have hb:=bounds_u8 hy
    have hp:(0:Int) < (D.card i:Int):=by omega
    rw [show (D.node i).Card=(D.card i:Int) from rfl,w64 (by omega),Ya hb.1]
    have h1:=Int.emod_nonneg y (show (D.card i:Int)≠0 by omega)
    have h2:=Int.emod_lt_of_pos y hp
    omega
   have hcard:(D.node i).Card≠0:=by show (D.card i:Int)≠0; omega
   have hll:∀y:Int,(Qc i E++[y]).length*8≤140737488355328:=fun y=>by simp [Ql]; omega
   have ek:zw ((i:Int)+1)=((i+1:Nat):Int):=by rw [w64 (by omega)]; omega
   unfold Jx
   simp only
   rw [if_pos (by rw [hlen]; simpa using hin),if_pos Qgr]
   by_cases hb:((IntKind.u8.wrap (BitVec.ofInt (IntKind.bits .u8) (Int.fdiv k.Which (2^min (Int.toNat (zv (i:Int))) (IntKind.bits .u8))) &&& BitVec.ofInt (IntKind.bits .u8) 1).toNat)==1)=true
   ·rw [if_pos hb]
    have hcases:i=0∨i=1∨i=2∨i=3∨i=4:=by omega
    rcases hcases with rfl | rfl | rfl | rfl | rfl
    ·rw [if_pos (show ((0:Nat):Int)=0 from rfl),show lkI D.net.Nodes 0=some (D.node 0) from hnode]
     simp only [Option.bind_some]
     rw [if_pos hcard,if_pos (hll _)]
     exact add _ (one _ k0).1 (one _ k0).2
    ·rw [if_neg (by decide),if_pos (show ((1:Nat):Int)=1 from rfl),show lkI D.net.Nodes 1=some (D.node 1) from hnode]
     simp only [Option.bind_some]
     rw [if_pos hcard,if_pos (hll _)]
     exact add _ (one _ k1).1 (one _ k1).2
    ·rw [if_neg (by decide),if_neg (by decide),if_pos (show ((2:Nat):Int)=2 from rfl),show lkI D.net.Nodes 2=some (D.node 2) from hnode]
     simp only [Option.bind_some]
     rw [if_pos hcard,if_pos (hll _)]
     exact add _ (one _ k2).1 (one _ k2).2
    ·rw [if_neg (by decide),if_neg (by decide),if_neg (by decide),if_pos (show ((3:Nat):Int)=3 from rfl),show lkI D.net.Nodes 3=some (D.node 3) from hnode]
     simp only [Option.bind_some]
     rw [if_pos hcard,if_pos (hll _)]
     exact add _ (one _ k3).1 (one _ k3).2
    ·rw [if_neg (by decide),if_neg (by decide),if_neg (by decide),if_neg (by decide),if_pos (show ((4:Nat):Int)=4 from rfl),show lkI D.net.Nodes 4=some (D.node 4) from hnode]
     simp only [Option.bind_some]
     rw [if_pos hcard,if_pos (hll _)]
     exact add _ (one _ k4).1 (one _ k4).2
   ·rw [if_neg hb,if_pos (hll _),ek]
    exact add (-1) (by omega) (by omega)
  ·right
   have:i=D.n:=by omega
   subst this
   unfold Jx
   rw [if_neg (by rw [hlen]; simp)]
   exact ⟨_,rfl,E,hE,rfl⟩
theorem Q0t {f:Nat → Nat} {l:List Nat} (h:∀p∈l,1≤f p):1≤lprod f l:=by
 have key:∀(l:List Nat) (R:Nat),1≤R→(∀p∈l,1≤f p)→1≤l.foldl (fun r p=>r*f p) R:=by
  intro l
  induction l with
  | nil=>intro R h _; exact h
  | cons p l ih=>intro R h hp; exact ih _ (Nat.mul_le_mul h (hp p (by simp))) fun q hq=>hp q (List.mem_cons_of_mem _ hq)
 exact key l 1 (Nat.le_refl 1) h
theorem Qr3 {y:Int} {c:Nat} (hy:(Lit.int .u8 y).wf=true) (hc:1≤c):∃r:Nat,r < c∧Int.tmod (zw y) (c:Int)=(r:Int):=by
 have hb:=bounds_u8 hy
 refine ⟨y.toNat % c,Nat.mod_lt _ (by omega),?_⟩
 rw [w64 (by omega),Ya hb.1,Int.natCast_emod,Int.toNat_of_nonneg hb.1]
theorem Q2v (X:DX D) {d:Xc} (hd:Kn d):∃(v x:Nat) (s:SF),v < D.n∧x < D.card v∧s.N < D.n∧s.R < D.rows s.N∧s.F < D.card s.N∧s.T < D.card s.N∧Qak d D.net=some ((v:Int),(x:Int),s.sh):=by
 have V:=X.vn
 have hn:=V.n1
 have hn5:=X.n5
 have hlen:D.net.Nodes.length=D.n:=Ql
 obtain ⟨d1,d2,d3,d4,d5,d6⟩:=hd
 obtain ⟨v,hv,ev⟩:=Qr3 d1 hn
 obtain ⟨N,hN,eN⟩:=Qr3 d3 hn
 have hcv:=X.c23 v hv
 have hcN:=X.c23 N hN
 have hrows:1≤D.rows N:=Q0t fun p hp=>(V.card p (V.par N hN p hp)).1
 have hrl:(D.node N).Rows.length=D.rows N:=by simp [NF.node,Ql]
 obtain ⟨x,hx,ex⟩:=Qr3 d2 (show 1≤D.card v by omega)
 obtain ⟨R,hR,eR⟩:=Qr3 d4 hrows
 obtain ⟨F,hF,eF⟩:=Qr3 d5 (show 1≤D.card N by omega)
 obtain ⟨t,ht,et⟩:=Qr3 d6 (show 1≤D.card N - 1 by omega)
 have em:(if (zw ((D.card N:Int) - 1)) > 1 then (zw ((D.card N:Int) - 1)) else 1)=((D.card N - 1:Nat):Int):=by
  rw [w64 (by omega)]
  split <;> omega
 have eT:Int.tmod (zw ((zw ((F:Int)+1))+(t:Int))) (D.card N:Int)=(((F+1+t) % D.card N:Nat):Int):=by
  have w1:zw ((F:Int)+1)=(F:Int)+1:=w64 (by omega)
  rw [w1,w64 (by omega),Ya (by omega)]
  simp
 refine ⟨v,x,⟨N,R,F,(F+1+t) % D.card N⟩,hv,hx,hN,hR,hF,Nat.mod_lt _ (by omega),?_⟩
 unfold Qak
 rw [hlen,if_pos (by omega),if_pos (by omega),eN,V.node hN]
 simp only [Option.bind_some]
 rw [hrl,show (D.node N).Card=(D.card N:Int) from rfl,if_pos (by omega),if_pos (by omega),em,if_pos (by omega),if_pos (by omega),ev,V.node hv]
 simp only [Option.bind_some]
 rw [show (D.node v).Card=(D.card v:Int) from rfl,if_pos (by omega),ex,eR,eF,et,eT]
 rfl
theorem Qtr {E:Nat → Int} {f:(Nat → Nat)→Int} (V:VN D) {m:Nat} (hm:prodTo D.n D.card≤m) (hf:∀w,D.ok w→BD 1 (f w)):BD m (SW D E f):=by
 have h1:PC D D.n 0=prodTo D.n D.card:=by have:=Qnz (D:=D) D.n 0; simpa [prodTo] using this
 exact (Qpn hf D.n 0 _ (by omega) (ok0 V)).mono (by rw [h1]; exact hm)
end
theorem Qy9:Qf7=some true:=by kernel_rfl
end Go.Ab
namespace Go.Ab
open Go
set_option maxRecDepth 100000
theorem Qew {l:List Int} {k:Nat} (hk:k≤l.length):Qg l=Qg (l.take k)+10000^k*Qg (l.drop k):=by
 conv=>lhs; rw [←List.take_append_drop k l,Qix]
 rw [List.length_take,Nat.min_eq_left hk]
theorem Ql6 (m:Int):m=(m.natAbs:Int)∨m=-(m.natAbs:Int):=by omega
theorem Q54 (m:Int) (h:-9223372036854775808≤m∧m≤9223372036854775807):(if zw (0 - Int.tmod m 10000) > Int.tmod m 10000 then zw (0 - Int.tmod m 10000) else Int.tmod m 10000)=((m.natAbs % 10000:Nat):Int):=by
 rcases Ql6 m with hm | hm
 ·have e:Int.tmod m 10000=((m.natAbs % 10000:Nat):Int):=by rw [Ya (by omega)]; omega
  rw [e,w64 (by omega),if_neg (by omega)]
 ·have e:Int.tmod m 10000=-((m.natAbs % 10000:Nat):Int):=by
   conv=>lhs; rw [hm,Int.neg_tmod,Ya (by omega)]
   omega
  rw [e,w64 (by omega)]
  split <;> omega
theorem Qqe (m:Int) (h:-9223372036854775808≤m∧m≤9223372036854775807):zw (Int.tdiv m 10000)=Int.tdiv m 10000∧(Int.tdiv m 10000).natAbs=m.natAbs / 10000:=by
 rcases Ql6 m with hm | hm
 ·have e:Int.tdiv m 10000=((m.natAbs / 10000:Nat):Int):=by rw [Jr (by omega)]; omega
  rw [e,w64 (by omega)]; omega
 ·have e:Int.tdiv m 10000=-((m.natAbs / 10000:Nat):Int):=by
   conv=>lhs; rw [hm,Int.neg_tdiv,Jr (by omega)]
   omega
  rw [e,w64 (by omega)]; omega
theorem Qbv (p:Int) (h:-9223372036854775808≤p∧p≤9223372036854775807):Xk p=some (dgs p.natAbs):=by
 unfold Xk
 have hlen:(dgs p.natAbs).length≤5:=Xj (by omega)
 rw [Qbh (fun s=>s.2++dgs s.1.natAbs=dgs p.natAbs∧-9223372036854775808≤s.1∧s.1≤9223372036854775807) (fun s=>(dgs s.1.natAbs).length) (dgs p.natAbs) ?_ (p,[]) ⟨by simp,h⟩ (by simp only []; omega)]
 ·rfl
 ·rintro ⟨m,out⟩ ⟨h1,h2,h3⟩
  simp only at h1 h2 h3
  by_cases hm:m=0
  ·subst hm
   rw [Int.natAbs_zero,X9,List.append_nil] at h1
   exact .inr (by simp [Qcu,h1])
  ·refine .inl ⟨(Int.tdiv m 10000,out++[((m.natAbs % 10000:Nat):Int)]),?_,?_,?_⟩
   ·unfold Qcu
    simp only
    rw [if_pos (by simpa using hm),Q54 m ⟨h2,h3⟩,(Qqe m ⟨h2,h3⟩).1,if_pos]
    have:=congrArg List.length h1
    simp only [List.length_append,List.length_cons,List.length_nil] at this ⊢
    omega
   ·simp only
    refine ⟨?_,?_⟩
    ·rw [(Qqe m ⟨h2,h3⟩).2,List.append_assoc,←h1,Qdy (n:=m.natAbs) (by omega)]; rfl
    ·have:=(Qqe m ⟨h2,h3⟩).2; omega
   ·simp only
    rw [(Qqe m ⟨h2,h3⟩).2,Qdy (n:=m.natAbs) (by omega)]; simp
theorem Q3n (k:Nat):0 < 10000^k:=Nat.pow_pos (by omega)
theorem Qea {i j:Nat} (h:i≤j):10000^i≤10000^j:=Nat.pow_le_pow_right (by omega) h
theorem Qqy {x y:List Int} {j:Nat} (hx:Xa x) (hy:Xa y) (hl:x.length=y.length) (hj:j < x.length) (hd:x.drop (j+1)=y.drop (j+1)) (hlt:x[j] < y[j]'(by omega)):Qg x < Qg y:=by
 rw [Qew (l:=x) (k:=j) (by omega),Qew (l:=y) (k:=j) (by omega),Qbx hj,Qbx (l:=y) (k:=j) (by omega),hd]
 have h1:=K7 (Qib hx j)
 rw [List.length_take,Nat.min_eq_left (by omega)] at h1
 have h2:=Qai hx hj
 have h3:=Qai hy (k:=j) (by omega)
 have h4:x[j].toNat + 1≤(y[j]'(by omega)).toNat := by omega
 have h5:10000^j*(x[j].toNat + 10000*Qg (y.drop (j+1))+1)≤10000^j*((y[j]'(by omega)).toNat + 10000*Qg (y.drop (j+1))):=Nat.mul_le_mul_left _ (by omega)
 rw [Nat.mul_add (10000^j) _ 1] at h5
 omega
def Qsg (a b:Nat):Int:=if a < b then -1 else if a=b then 0 else 1
theorem Q5w {a b:Nat} (h:dgs a=dgs b):a=b:=by
 have:=congrArg Qg h
 rwa [Zp,Zp] at this
theorem Ql7 {a b:Nat} (h:(dgs a).length < (dgs b).length):a < b:=by
 have h1:=Qhr a
 have h2:=Qz4 (n:=b) (by intro h0; rw [h0,X9] at h; simp at h)
 have:=Qea (i:=(dgs a).length) (j:=(dgs b).length - 1) (by omega)
 omega
theorem Qgf (a b:Nat) (ha:(dgs a).length≤1000000) (hb:(dgs b).length≤1000000):Y6 (dgs a) (dgs b)=some (Qsg a b):=by
 unfold Y6 Qsg
 by_cases hl:(dgs a).length=(dgs b).length
 ·rw [if_neg (by simp [hl])]
  have key:=Zy (body:=Kk (dgs a) (dgs b)) (fun s=>∃k:Nat,s=(k:Int) - 1∧k≤(dgs a).length∧(dgs a).drop k=(dgs b).drop k) (fun s=>(s+1).toNat)
   (fun r=>(match r with | .inl x=>some x | .inr _=>some (0:Int))=some (if a < b then (-1:Int) else if a=b then 0 else 1)) ?_
   (zw (((dgs a).length:Int) - 1)) ⟨(dgs a).length,by rw [w64 (by omega)],Nat.le_refl _,by rw [List.drop_length,hl,List.drop_length]⟩ (by rw [w64 (by omega)]; omega)
  ·obtain ⟨r,h1,h2⟩:=key
   rw [h1]
   exact h2
  ·rintro s ⟨k,rfl,hk,hd⟩
   cases k with
   | zero =>
    right
    refine ⟨.inr (),by simp [Kk],?_⟩
    simp only [List.drop_zero] at hd
    have:=Q5w hd
    subst this
    simp
   | succ k =>
    have e:((k+1:Nat):Int) - 1=(k:Int):=by omega
    rw [e]
    have hka:k < (dgs a).length:=by omega
    have hkb:k < (dgs b).length:=by omega
    unfold Kk
    rw [if_pos (by simp),Qs hka,Qs hkb]
    simp only [Option.bind_some]
    by_cases hne:(dgs a)[k]=(dgs b)[k]
    ·left
     refine ⟨(k:Int) - 1,?_,⟨k,rfl,by omega,?_⟩,by omega⟩
     ·rw [if_neg (by simp [hne]),w64 (by omega)]
     ·rw [List.drop_eq_getElem_cons hka,List.drop_eq_getElem_cons hkb,hne,hd]
    ·right
     rw [if_pos (by simp [hne])]
     by_cases hlt:(dgs a)[k] < (dgs b)[k]
     ·refine ⟨.inl (-1),by simp [hlt],?_⟩
      have:=Qqy (Z0 a) (Z0 b) hl hka hd hlt
      rw [Zp,Zp] at this
      simp [this]
     ·refine ⟨.inl 1,by simp [hlt],?_⟩
      have:=Qqy (Z0 b) (Z0 a) hl.symm hkb hd.symm (by omega)
      rw [Zp,Zp] at this
      simp only [Option.some.injEq]
      rw [if_neg (by omega),if_neg (by omega)]
 ·rw [if_pos (by simp; omega)]
  by_cases hlt:(dgs a).length < (dgs b).length
  ·have:=Ql7 hlt
   simp [hlt,this]
  ·have:=Ql7 (a:=b) (b:=a) (by omega)
   rw [if_neg (by simp; omega),if_neg (by omega),if_neg (by omega)]
theorem Q3z {l:List Int} {k:Nat}:sub l 0 (k:Int)=l.take k:=by simp [sub]
theorem Qmu (l:List Int) (h:Xa l) (hl:l.length≤1000000):Jh l=some (dgs (Qg l)):=by
 unfold Jh
 rw [Qbh (fun s=>Xa s∧Qg s=Qg l∧s.length≤1000000) (fun s=>s.length) (dgs (Qg l)) ?_ l ⟨h,rfl,hl⟩ (by omega)]
 ·rfl
 ·rintro s ⟨h1,h2,h3⟩
  unfold Qjt
  by_cases hs:s.length=0
  ·right
   rw [if_neg (by simp [hs])]
   have:s=[]:=List.length_eq_zero_iff.1 hs
   subst this
   rw [←h2]; simp [Qg,X9]
  ·obtain ⟨k,hk⟩:∃k,s.length=k+1:=⟨s.length - 1,by omega⟩
   rw [if_pos (by simp; omega),w64 (by omega),show (s.length:Int) - 1=(k:Int) by omega,Qs (by omega)]
   simp only [Option.bind_some]
   by_cases h0:s[k]=0
   ·left
    refine ⟨s.take k,?_,⟨Qib h1 k,?_,by simp; omega⟩,by simp; omega⟩
    ·rw [if_pos (by simp [h0]),if_pos (by omega),Q3z]
    ·rw [←h2,Qew (l:=s) (k:=k) (by omega),Qbx (by omega),h0,List.drop_of_length_le (by omega)]; simp [Qg]
   ·right
    rw [if_neg (by simp [h0])]
    have hn:Qeg s:=by
     unfold Qeg
     rw [List.getLast?_eq_getElem?,hk,Nat.add_sub_cancel,List.getElem?_eq_getElem (by omega)]
     simpa using h0
    rw [←h2,Qut h1 hn]
theorem Qlv {l:List Int} (h:Xa l) (hn:Qeg l) {k:Nat} (hk:k < l.length):0 < Qg (l.drop k):=by
 have h1:Qeg (l.drop k):=by
  unfold Qeg at *
  rwa [List.getLast?_drop,if_neg (by omega)]
 have h2:=Qut (Qbw h k) h1
 rcases Nat.eq_zero_or_pos (Qg (l.drop k)) with h0 | h0
 ·rw [h0,X9] at h2
  have:=congrArg List.length h2
  simp at this; omega
 ·exact h0
theorem Vw {l:List Int} {k:Nat} (hk:l.length≤k):Qg (l.drop k)=0:=by rw [List.drop_of_length_le hk]; rfl
def dat (l:List Int) (k:Nat):Int:=l.getD k 0
theorem Qhc {l:List Int} {k:Nat} (h:k < l.length):dat l k=l[k]:=by simp [dat,h]
theorem Qnh {l:List Int} {k:Nat} (h:l.length≤k):dat l k=0:=by simp [dat,h]
theorem Qwl {l:List Int} (h:Xa l) (k:Nat):0≤dat l k∧dat l k < 10000:=by
 rcases Nat.lt_or_ge k l.length with hk | hk
 ·rw [Qhc hk]; exact Qai h hk
 ·rw [Qnh hk]; omega
theorem Qub (l:List Int) (k:Nat):Qg (l.drop k)=(dat l k).toNat + 10000*Qg (l.drop (k+1)):=by
 rcases Nat.lt_or_ge k l.length with hk | hk
 ·rw [Qhc hk]; exact Qbx hk
 ·rw [Vw hk,Vw (by omega),Qnh hk]; rfl
theorem Qzt (l:List Int) (x:Int):Qg (l++[x])=Qg l+10000^l.length*x.toNat := by rw [Qix]; simp [Qg]
theorem Q2a (a b:Nat) (hab:b≤a) (ha:(dgs a).length≤1000000):Qc5 (dgs a) (dgs b)=some (dgs (a - b)):=by
 unfold Qc5
 have hlb:(dgs b).length≤(dgs a).length:=by
  rcases Nat.lt_or_ge (dgs a).length (dgs b).length with h | h
  ·have:=Ql7 h; omega
  ·exact h
 obtain ⟨M,hM⟩:∃M:Nat,M=2000005:=⟨_,rfl⟩
 obtain ⟨out,h1,h2,h3,h4⟩:∃out,Qd fuel (Qdg (dgs a) (dgs b)) (0,0,[])=some out∧Xa out∧out.length≤1000000∧Qg out=a - b:=by
  refine Zy (fun s=>∃i c:Nat,s.2.1=(i:Int)∧s.1=(c:Int)∧c≤1∧i≤(dgs a).length∧s.2.2.length=i∧Xa s.2.2∧Qg s.2.2+Qg ((dgs b).take i)=Qg ((dgs a).take i)+10000^i*c) (fun s=>M - s.2.1.toNat) _ ?_ (0,0,[])
   ⟨0,0,rfl,rfl,by omega,by omega,rfl,Qkl,by simp [Qg]⟩ (by simp only; omega)
  rintro ⟨c0,i0,out⟩ ⟨i,c,h1,h2,hc,hi,ho,hd,hv⟩
  simp only at h1 h2 ho hd hv
  subst h1; subst h2
  unfold Qdg
  simp only
  by_cases h1:i < (dgs a).length
  ·left
   have xa:=Qai (Z0 a) h1
   have xb:=Qwl (Z0 b) i
   have tb:Qg ((dgs b).take (i+1))=Qg ((dgs b).take i)+10000^i*(dat (dgs b) i).toNat := by
    rcases Nat.lt_or_ge i (dgs b).length with h | h
    ·rw [Qcl h,Qhc h]
    ·rw [Qnh h,List.take_of_length_le (by omega),List.take_of_length_le (by omega)]; simp
   have round:∀d:Int,∀c':Nat,d=(dgs a)[i] - c - dat (dgs b) i+10000*c'→0≤d→d < 10000→c'≤1→∃j e:Nat,((i:Int)+1)=(j:Int)∧(c':Int)=(e:Int)∧e≤1∧j≤(dgs a).length∧(out++[d]).length=j∧Xa (out++[d]) ∧
     Qg (out++[d])+Qg ((dgs b).take j)=Qg ((dgs a).take j)+10000^j*e:=by
    intro d c' hd' h0 h9 hc'
    refine ⟨i+1,c',by omega,rfl,hc',h1,by simp [ho],?_,?_⟩
    ·rw [Qop]; exact ⟨hd,Qfy.2 ⟨⟨h0,h9⟩,Qkl⟩⟩
    ·rw [Qzt,ho,tb,Qcl h1,Nat.pow_succ]
     have e1:d.toNat + (dat (dgs b) i).toNat + c=(dgs a)[i].toNat + 10000*c':=by omega
     have e2:10000^i*(d.toNat + (dat (dgs b) i).toNat + c)=10000^i*((dgs a)[i].toNat + 10000*c'):=by rw [e1]
     rw [Nat.mul_add,Nat.mul_add,Nat.mul_add,←Nat.mul_assoc] at e2
     omega
   rw [if_pos (by simp [h1]),Qs h1]
   simp only [Option.bind_some]
   by_cases h2:i < (dgs b).length
   ·rw [if_pos (by simp [h2]),Qs h2]
    simp only [Option.bind_some]
    rw [Qhc h2] at xb round
    have hw:zw (zw ((dgs a)[i] - (c:Int)) - (dgs b)[i])=(dgs a)[i] - c - (dgs b)[i]:=by rw [w64 (n:=(dgs a)[i] - (c:Int)) (by omega),w64 (by omega)]
    rw [hw,w64 (n:=(i:Int)+1) (by omega)]
    by_cases h3:(dgs a)[i] - c - (dgs b)[i] < 0
    ·rw [if_pos (by simp [h3]),w64 (by omega),if_pos (by simp; omega)]
     exact ⟨_,rfl,round _ 1 (by omega) (by omega) (by omega) (by omega),by simp only; omega⟩
    ·rw [if_neg (by simpa using h3),if_pos (by simp; omega)]
     exact ⟨_,rfl,round _ 0 (by omega) (by omega) (by omega) (by omega),by simp only; omega⟩
   ·rw [if_neg (by simp; omega)]
    rw [Qnh (by omega)] at xb round
    rw [w64 (n:=(dgs a)[i] - (c:Int)) (by omega),w64 (n:=(i:Int)+1) (by omega)]
    by_cases h3:(dgs a)[i] - (c:Int) < 0
    ·rw [if_pos (by simp [h3]),w64 (by omega),if_pos (by simp; omega)]
     exact ⟨_,rfl,round _ 1 (by omega) (by omega) (by omega) (by omega),by simp only; omega⟩
    ·rw [if_neg (by simpa using h3),if_pos (by simp; omega)]
     exact ⟨_,rfl,round _ 0 (by omega) (by omega) (by omega) (by omega),by simp only; omega⟩
  ·right
   rw [if_neg (by simp; omega)]
   have:i=(dgs a).length:=by omega
   subst this
   rw [List.take_length,List.take_of_length_le hlb,Zp,Zp] at hv
   have h5:=K7 hd
   rw [ho] at h5
   refine ⟨out,rfl,hd,by omega,?_⟩
   rcases Nat.eq_zero_or_pos c with h | h
   ·subst h; omega
   ·have:c=1:=by omega
    subst this
    omega
 rw [h1]
 simp only [Option.bind_some]
 rw [Qmu out h2 h3,h4]
 rfl
theorem Quq {l:List Int} {k:Nat} (hk:k < l.length) {x:Int} (hx:0≤x) (h0:0≤l[k]):Qg (l.set k x)+10000^k*l[k].toNat = Qg l+10000^k*x.toNat := by
 induction l generalizing k with
 | nil=>simp at hk
 | cons y l ih =>
  cases k with
  | zero=>simp only [List.set_cons_zero,Qg,List.getElem_cons_zero,Nat.pow_zero]; omega
  | succ k =>
   simp only [List.set_cons_succ,Qg,List.getElem_cons_succ,Nat.pow_succ] at *
   have:=ih (by simpa using hk) h0
   have e:∀z,10000^k*10000*z=10000*(10000^k*z):=fun z=>by rw [Nat.mul_comm (10000^k),Nat.mul_assoc]
   rw [e,e]
   omega
theorem Qpt {l:List Int} (h:Xa l) {k:Nat} {x:Int} (hx:0≤x∧x < 10000):Xa (l.set k x):=by
 intro y hy
 rcases List.mem_or_eq_of_mem_set hy with h1 | h1
 ·exact h y h1
 ·subst h1; exact hx
theorem Qjm (n:Nat):Xa (List.replicate n (0:Int)):=fun x hx=>by
 rw [List.mem_replicate] at hx
 omega
theorem Qrt (n:Nat):Qg (List.replicate n (0:Int))=0:=by
 induction n with
 | zero=>rfl
 | succ n ih=>simp [List.replicate_succ,Qg,ih]
theorem Qo3 (x y:List Int) (hx:Xa x) (hy:∀z∈y,0≤z∧z≤10000) (hyv:Qg y≤10000^y.length) (lx:x.length≤10000) (ly:y.length≤10000):Ve x y=some (dgs (Qg x*Qg y)):=by
 unfold Ve
 obtain ⟨M,hM⟩:∃M:Nat,M=2000005:=⟨_,rfl⟩
 have hw:zw ((x.length:Int)+(y.length:Int))=((x.length+y.length:Nat):Int):=by rw [w64 (by omega)]; omega
 rw [hw,if_pos (by omega),Int.toNat_natCast]
 obtain ⟨out,h1,h2,h3,h4⟩:∃out,Qd fuel (Qdj x y) (0,List.replicate (x.length+y.length) 0)=some out∧Xa out∧out.length=x.length+y.length∧Qg out=Qg x*Qg y:=by
  refine Zy (fun s=>∃i:Nat,s.1=(i:Int)∧i≤x.length∧s.2.length=x.length+y.length∧Xa s.2∧Qg s.2=Qg (x.take i)*Qg y) (fun s=>M - s.1.toNat) _ ?_ (0,List.replicate (x.length+y.length) 0)
   ⟨0,rfl,by omega,by simp,Qjm _,by simp [Qg,Qrt]⟩ (by simp only; omega)
  rintro ⟨i0,o⟩ ⟨i,h1,hi,ho,hd,hv⟩
  simp only at h1 ho hd hv
  subst h1
  unfold Qdj
  simp only
  by_cases h1:i < x.length
  ·left
   rw [if_pos (by simp [h1])]
   have xi:=Qai hx h1
   have tot:Qg (x.take (i+1))*Qg y < 10000^(i+1+y.length):=by
    have a1:=K7 (Qib hx (i+1))
    rw [List.length_take,Nat.min_eq_left (by omega)] at a1
    have a2:(Qg (x.take (i+1))+1)*Qg y≤10000^(i+1)*10000^y.length:=Nat.mul_le_mul a1 hyv
    rw [←Nat.pow_add,Nat.add_mul] at a2
    rcases Nat.eq_zero_or_pos (Qg y) with h | h
    ·rw [h,Nat.mul_zero]; exact Nat.pow_pos (by omega)
    ·omega
   obtain ⟨o',e1,e2,e3,e4⟩:∃o',Qd fuel (Qdd y ((i:Int),o) x) (0,0,o)=some o'∧Xa o'∧o'.length=x.length+y.length∧Qg o'=Qg (x.take (i+1))*Qg y:=by
    refine Zy (fun s=>∃k c:Nat,s.2.1=(k:Int)∧s.1=(c:Int)∧c≤10000∧i+k≤x.length+y.length∧s.2.2.length=x.length+y.length∧Xa s.2.2∧Qg s.2.2+10000^(i+k)*c=Qg o+10000^i*(x[i].toNat * Qg (y.take k))) (fun s=>M - s.2.1.toNat) _ ?_ (0,0,o)
     ⟨0,0,rfl,rfl,by omega,by omega,ho,hd,by simp [Qg]⟩ (by simp only; omega)
    rintro ⟨c0,k0,o2⟩ ⟨k,c,g1,g2,gc,gk,go,gd,gv⟩
    simp only at g1 g2 go gd gv
    subst g1; subst g2
    have full:y.length≤k→Qg o+10000^i*(x[i].toNat * Qg (y.take k))=Qg (x.take (i+1))*Qg y:=fun h=>by
     rw [List.take_of_length_le h,hv,Qcl h1,Nat.add_mul,Nat.mul_assoc]
    unfold Qdd
    simp only
    have hik:zw ((i:Int)+(k:Int))=((i+k:Nat):Int):=by rw [w64 (by omega)]; omega
    rw [hik]
    by_cases hk:k < y.length
    ·left
     have hj:i+k < o2.length:=by omega
     have yk:=hy _ (List.getElem_mem hk)
     have oj:=Qai gd hj
     rw [if_pos (by simp [hk]),Qs hj]
     simp only [Option.bind_some]
     rw [Qs h1]
     simp only [Option.bind_some]
     rw [Qs hk]
     simp only [Option.bind_some]
     have p1:0≤x[i]*y[k]:=Int.mul_nonneg xi.1 yk.1
     have p2:x[i]*y[k]≤9999*10000:=Int.mul_le_mul (by omega) yk.2 yk.1 (by omega)
     have hc:zw (zw ((c:Int)+o2[i+k])+zw (x[i]*y[k]))=c+o2[i+k]+x[i]*y[k]:=by
      rw [w64 (n:=(c:Int)+o2[i+k]) (by omega),w64 (n:=x[i]*y[k]) (by omega),w64 (by omega)]
     rw [hc,Jr (by omega),Ya (by omega),w64 (n:=_ / 10000) (by omega),w64 (n:=(k:Int)+1) (by omega),Int.toNat_natCast]
     generalize ht:c+o2[i+k]+x[i]*y[k]=t at *
     refine ⟨_,rfl,⟨k+1,(t / 10000).toNat,by simp only; omega,by simp only; omega,by omega,by omega,by simp [go],Qpt gd (by omega),?_⟩,by simp only; omega⟩
     simp only
     have s1:=Quq (l:=o2) (k:=i+k) hj (x:=t % 10000) (by omega) oj.1
     have pt:(x[i]*y[k]).toNat = x[i].toNat * y[k].toNat := Int.toNat_mul xi.1 yk.1
     have e1:(t % 10000).toNat + 10000*(t / 10000).toNat = c+o2[i+k].toNat + x[i].toNat * y[k].toNat := by omega
     have e2:10000^(i+k)*((t % 10000).toNat + 10000*(t / 10000).toNat)=10000^(i+k)*(c+o2[i+k].toNat + x[i].toNat * y[k].toNat):=by rw [e1]
     rw [Nat.mul_add,Nat.mul_add,Nat.mul_add,←Nat.mul_assoc] at e2
     rw [Qcl hk,Nat.mul_add,Nat.mul_add,show i+(k+1)=(i+k)+1 by omega,Nat.pow_succ]
     have e3:10000^i*(x[i].toNat * (10000^k*y[k].toNat))=10000^(i+k)*(x[i].toNat * y[k].toNat):=by
      rw [Nat.pow_add,Nat.mul_assoc,Nat.mul_left_comm (10000^k)]
     rw [e3]
     omega
    ·rw [if_neg (by simp; omega)]
     by_cases hc:0 < c
     ·left
      have hj:i+k < o2.length:=by
       rw [full (by omega)] at gv
       have:10000^(i+k)*1≤10000^(i+k)*c:=Nat.mul_le_mul_left _ hc
       have h5:10000^(i+k) < 10000^(i+1+y.length):=by omega
       have:=(Nat.pow_lt_pow_iff_right (by omega)).1 h5
       omega
      have oj:=Qai gd hj
      rw [if_pos (by simp [hc]),Qs hj]
      simp only [Option.bind_some]
      rw [w64 (n:=(c:Int)+o2[i+k]) (by omega),Jr (by omega),Ya (by omega),w64 (n:=_ / 10000) (by omega),w64 (n:=(k:Int)+1) (by omega),Int.toNat_natCast]
      generalize ht:(c:Int)+o2[i+k]=t at *
      refine ⟨_,rfl,⟨k+1,(t / 10000).toNat,by simp only; omega,by simp only; omega,by omega,by omega,by simp [go],Qpt gd (by omega),?_⟩,by simp only; omega⟩
      simp only
      have s1:=Quq (l:=o2) (k:=i+k) hj (x:=t % 10000) (by omega) oj.1
      have e1:(t % 10000).toNat + 10000*(t / 10000).toNat = c+o2[i+k].toNat := by omega
      have e2:10000^(i+k)*((t % 10000).toNat + 10000*(t / 10000).toNat)=10000^(i+k)*(c+o2[i+k].toNat):=by rw [e1]
      rw [Nat.mul_add,Nat.mul_add,←Nat.mul_assoc] at e2
      rw [List.take_of_length_le (by omega)] at gv ⊢
      rw [show i+(k+1)=(i+k)+1 by omega,Nat.pow_succ]
      omega
     ·right
      rw [if_neg (by simp; omega)]
      have:c=0:=by omega
      subst this
      rw [full (by omega)] at gv
      exact ⟨o2,rfl,gd,go,by simpa using gv⟩
   rw [e1]
   simp only [Option.bind_some]
   rw [w64 (n:=(i:Int)+1) (by omega)]
   exact ⟨_,rfl,⟨i+1,by simp only; omega,by omega,e3,e2,e4⟩,by simp only; omega⟩
  ·right
   rw [if_neg (by simp; omega)]
   rw [List.take_of_length_le (by omega)] at hv
   exact ⟨o,rfl,hd,ho,hv⟩
 rw [h1]
 simp only [Option.bind_some]
 rw [Qmu out h2 (by omega),h4]
 rfl
end Go.Ab
namespace Go.Ab
open Go
set_option maxRecDepth 100000
theorem Qo0 (l:List Int) (k:Nat):Qg l=Qg (l.take k)+10000^k*Qg (l.drop k):=by
 rcases Nat.lt_or_ge l.length k with h | h
 ·rw [List.take_of_length_le (by omega),List.drop_of_length_le (by omega)]; simp [Qg]
 ·exact Qew h
theorem Qnw {l:List Int} (h:Xa l) (k:Nat):Qg (l.take k) < 10000^k:=by
 have h1:=K7 (Qib h k)
 have h2:=Qea (i:=(l.take k).length) (j:=k) (by simp; omega)
 omega
theorem Q5t (y x:List Int) (hy:Xa y) (hx:Xa x) (n:Nat) (ly:y.length=n+1) (lx:x.length≤n+2) (hn:n≤100000) :
  Qd fuel (Qcq y x) (0,0,((n+1:Nat):Int))=some (((Qg (y.drop (n - 1)):Nat):Int),((Qg (x.drop (n - 1)):Nat):Int)):=by
 have hb:∀t,n - 1≤t→Qg (x.drop t) < 1000000000000∧Qg (y.drop t) < 100000000:=fun t ht=>by
  have h1:=K7 (Qbw hx t)
  have h2:=Qea (i:=(x.drop t).length) (j:=3) (by simp; omega)
  have h3:=K7 (Qbw hy t)
  have h4:=Qea (i:=(y.drop t).length) (j:=2) (by simp; omega)
  omega
 refine Qbh (fun s=>∃t:Nat,s.2.2=(t:Int) - 1∧n - 1≤t∧t≤n+2∧s.1=((Qg (y.drop t):Nat):Int)∧s.2.1=((Qg (x.drop t):Nat):Int)) (fun s=>(s.2.2+1).toNat) _ ?_ _
  ⟨n+2,by simp only; omega,by omega,by omega,by rw [Vw (by omega)]; rfl,by rw [Vw (by omega)]; rfl⟩ (by simp only; omega)
 rintro ⟨top,first,kk⟩ ⟨t,h1,h2,h3,h4,h5⟩
 simp only at h1 h4 h5
 subst h1; subst h4; subst h5
 unfold Qcq
 simp only
 have hn1:zw ((y.length:Int) - 1)=(n:Int):=by rw [w64 (by omega)]; omega
 have hmx:(if zw ((n:Int) - 1) > 0 then zw ((n:Int) - 1) else 0)=((n - 1:Nat):Int):=by
  rw [w64 (by omega)]; split <;> omega
 rw [hn1,hmx]
 by_cases hge:n - 1 < t
 ·left
  obtain ⟨u,rfl⟩:∃u,t=u+1:=⟨t - 1,by omega⟩
  have e:((u+1:Nat):Int) - 1=(u:Int):=by omega
  rw [e]
  have bu:=hb u (by omega)
  have bt:=hb (u+1) (by omega)
  have vx:=Qub x u
  have vy:=Qub y u
  have dx:=Qwl hx u
  have dy:=Qwl hy u
  rw [if_pos (by simp; omega)]
  by_cases hxu:u < x.length
  ·rw [if_pos (by simp [hxu]),Qs hxu]
   simp only [Option.bind_some]
   rw [Qhc hxu] at vx dx
   rw [w64 (n:=((Qg (x.drop (u+1)):Nat):Int)*10000) (by omega),w64 (n:=((Qg (x.drop (u+1)):Nat):Int)*10000+x[u]) (by omega),w64 (n:=(u:Int) - 1) (by omega)]
   by_cases hyu:u≤n
   ·have hyl:u < y.length:=by omega
    rw [if_pos (by simp [hyu]),Qs hyl]
    simp only [Option.bind_some]
    rw [Qhc hyl] at vy dy
    rw [w64 (n:=((Qg (y.drop (u+1)):Nat):Int)*10000) (by omega),w64 (n:=((Qg (y.drop (u+1)):Nat):Int)*10000+y[u]) (by omega)]
    exact ⟨_,rfl,⟨u,rfl,by omega,by omega,by simp only; omega,by simp only; omega⟩,by simp only; omega⟩
   ·rw [if_neg (by simp; omega)]
    rw [Vw (l:=y) (k:=u+1) (by omega)]
    exact ⟨_,rfl,⟨u,rfl,by omega,by omega,by simp only [Vw (l:=y) (k:=u) (by omega)],by simp only; omega⟩,by simp only; omega⟩
  ·rw [if_neg (by simp; omega)]
   rw [Qnh (by omega)] at vx dx
   rw [w64 (n:=((Qg (x.drop (u+1)):Nat):Int)*10000) (by omega),w64 (n:=(u:Int) - 1) (by omega)]
   by_cases hyu:u≤n
   ·have hyl:u < y.length:=by omega
    rw [if_pos (by simp [hyu]),Qs hyl]
    simp only [Option.bind_some]
    rw [Qhc hyl] at vy dy
    rw [w64 (n:=((Qg (y.drop (u+1)):Nat):Int)*10000) (by omega),w64 (n:=((Qg (y.drop (u+1)):Nat):Int)*10000+y[u]) (by omega)]
    exact ⟨_,rfl,⟨u,rfl,by omega,by omega,by simp only; omega,by simp only; omega⟩,by simp only; omega⟩
   ·rw [if_neg (by simp; omega)]
    rw [Vw (l:=y) (k:=u+1) (by omega)]
    exact ⟨_,rfl,⟨u,rfl,by omega,by omega,by simp only [Vw (l:=y) (k:=u) (by omega)],by simp only; omega⟩,by simp only; omega⟩
 ·right
  have:t=n - 1:=by omega
  subst this
  rw [if_neg (by simp; omega)]
theorem Qob {a b:Nat}:Qsg a b≤0↔a≤b:=by
 unfold Qsg
 split
 ·omega
 ·split <;> omega
theorem Q2f (b R lo hi:Nat) (hb:0 < b) (lb:(dgs b).length≤9000) (lR:(dgs R).length≤10000) (h1:lo≤R / b) (h2:R / b≤hi) (h3:hi≤10000) :
  Qd fuel (Qcs (dgs b) (dgs R)) ((lo:Int),(hi:Int))=some ((R / b:Nat):Int):=by
 refine Qbh (fun s=>∃l h:Nat,s.1=(l:Int)∧s.2=(h:Int)∧l≤R / b∧R / b≤h∧h≤10000) (fun s=>(s.2 - s.1).toNat) _ ?_ _ ⟨lo,hi,rfl,rfl,h1,h2,h3⟩ (by simp only; omega)
 rintro ⟨l0,h0⟩ ⟨l,h,e1,e2,g1,g2,g3⟩
 simp only at e1 e2
 subst e1; subst e2
 unfold Qcs
 simp only
 by_cases hlt:l < h
 ·left
  rw [if_pos (by simp [hlt])]
  rw [w64 (n:=(l:Int)+h) (by omega),w64 (n:=(l:Int)+h+1) (by omega),Jr (by omega),w64 (by omega)]
  obtain ⟨mid,hm⟩:∃mid:Nat,((l:Int)+h+1) / 2=(mid:Int):=⟨(((l:Int)+h+1) / 2).toNat,by omega⟩
  rw [hm]
  have hv:Qg [(mid:Int)]=mid:=by simp [Qg]
  rw [Qo3 (dgs b) [(mid:Int)] (Z0 b) (by intro z hz; rw [List.mem_singleton] at hz; omega) (by rw [hv]; simp; omega) (by omega) (by simp),hv,Zp]
  simp only [Option.bind_some]
  obtain ⟨L,hL⟩:∃L:Nat,L=10000:=⟨_,rfl⟩
  have lm:(dgs (b*mid)).length≤L:=by
   refine Xj ?_
   have a1:=Qhr b
   have a2:b*mid≤b*10000:=Nat.mul_le_mul_left _ (by omega)
   have a3:b*10000 < 10000^((dgs b).length+1):=by rw [Nat.pow_succ]; omega
   have a5:=Qea (i:=(dgs b).length+1) (j:=L) (by omega)
   omega
  rw [Qgf _ _ (by omega) (by omega)]
  simp only [Option.bind_some]
  by_cases hc:b*mid≤R
  ·have hq:mid≤R / b:=(Nat.le_div_iff_mul_le hb).2 (by rw [Nat.mul_comm]; exact hc)
   rw [if_pos (by simpa using Qob.2 hc)]
   exact ⟨_,rfl,⟨mid,h,rfl,rfl,hq,g2,g3⟩,by simp only; omega⟩
  ·have hq:R / b < mid:=(Nat.div_lt_iff_lt_mul hb).2 (by rw [Nat.mul_comm]; omega)
   rw [if_neg (by simpa using fun h=>hc (Qob.1 h)),w64 (by omega)]
   exact ⟨_,rfl,⟨l,mid - 1,rfl,by simp only; omega,g1,by omega,by omega⟩,by simp only; omega⟩
 ·right
  rw [if_neg (by simp; omega)]
  have:l=R / b:=by omega
  rw [this]
theorem Qmo (a b:Nat) (hb:0 < b) (la:(dgs a).length≤8000) (lb:(dgs b).length≤8000):Jl (dgs a) (dgs b)=some (dgs (a / b),dgs (a % b)):=by
 unfold Jl
 obtain ⟨n,hn⟩:∃n,(dgs b).length=n+1:=by
  have:(dgs b).length≠0:=by rw [Ne,List.length_eq_zero_iff,Qgd]; omega
  exact ⟨(dgs b).length - 1,by omega⟩
 have hn1:zw (((dgs b).length:Int) - 1)=(n:Int):=by rw [w64 (by omega)]; omega
 rw [hn1]
 by_cases hle:(dgs a).length≤n
 ·rw [if_pos (by simp [hle]),if_pos (by omega)]
  have hab:=Ql7 (a:=a) (b:=b) (by omega)
  rw [Nat.div_eq_of_lt hab,Nat.mod_eq_of_lt hab,X9]
 ·obtain ⟨m,hm⟩:∃m,(dgs a).length=n+m∧0 < m:=⟨(dgs a).length - n,by omega,by omega⟩
  have hm1:zw (((dgs a).length:Int) - (n:Int))=(m:Int):=by rw [w64 (by omega)]; omega
  rw [if_neg (by simp; omega),hm1,if_pos (by omega),if_pos (by omega)]
  have hsub:sub (dgs a) (m:Int) ((dgs a).length:Int)=(dgs a).drop m:=by
   simp only [sub,Int.toNat_natCast]
   rw [List.take_of_length_le (by simp)]
  rw [hsub,if_pos (by simp; omega),Int.toNat_natCast,List.length_replicate,w64 (by omega)]
  obtain ⟨M,hM⟩:∃M:Nat,M=2000005:=⟨_,rfl⟩
  have hpb:Xa (dgs b):=Z0 b
  have hnb:Qeg (dgs b):=Qvw b
  have bpow:b < 10000^(n+1):=by have:=Qhr b; rwa [hn] at this
  obtain ⟨out,h1,R,Q,h2,h3,h4,h5,h6⟩:∃out:List Int × List Int,Qd fuel (Qcr (dgs a) (dgs b)) ((dgs a).drop m,(m:Int) - 1,List.replicate m 0)=some out∧∃R Q:Nat,out.1=dgs R∧R < b∧Xa out.2∧out.2.length=m∧a=b*Qg out.2+R:=by
   refine (Zy (fun (s:List Int × Int × List Int)=>∃k R:Nat,s.2.1=(k:Int) - 1∧k≤m∧s.1=dgs R∧R < b∧s.2.2.length=m∧Xa s.2.2∧Qg ((dgs a).drop k)=b*Qg (s.2.2.drop k)+R) (fun s=>(s.2.1+1).toNat) (fun (out:List Int × List Int)=>∃R Q:Nat,out.1=dgs R∧R < b∧Xa out.2∧out.2.length=m∧a=b*Qg out.2+R) ?_ _ ?_ (by simp only; omega))
   ·rintro ⟨rest,i0,qs⟩ ⟨k,R,e1,e2,e3,e4,e5,e6,e7⟩
    simp only at e1 e3 e5 e6 e7
    subst e1; subst e3
    unfold Qcr
    simp only
    cases k with
    | zero =>
     right
     rw [if_neg (by simp)]
     refine ⟨_,rfl,R,0,rfl,e4,e6,e5,?_⟩
     rw [List.drop_zero,List.drop_zero,Zp] at e7
     exact e7
    | succ j =>
     left
     have e:((j+1:Nat):Int) - 1=(j:Int):=by omega
     rw [e,if_pos (by simp)]
     have hj:j < (dgs a).length:=by omega
     have aj:=Qai (Z0 a) hj
     rw [Qs hj]
     simp only [Option.bind_some]
     have lR:(dgs R).length≤n+1:=Xj (by omega)
     have hcons:Xa ([(dgs a)[j]]++dgs R):=by rw [Qop]; exact ⟨Qfy.2 ⟨aj,Qkl⟩,Z0 R⟩
     rw [if_pos (by simp; omega),Qmu _ hcons (by simp; omega)]
     have hval:Qg ([(dgs a)[j]]++dgs R)=(dgs a)[j].toNat + 10000*R:=by simp [Qg,Zp]
     rw [hval]
     simp only [Option.bind_some]
     generalize hR':(dgs a)[j].toNat + 10000*R=R' at *
     have R'lt:R' < 10000*b:=by omega
     have lR':(dgs R').length≤n+2:=Xj (by rw [Nat.pow_succ]; omega)
     rw [hn1,w64 (n:=(n:Int)+1) (by omega),show (n:Int)+1=((n+1:Nat):Int) by omega,Q5t (dgs b) (dgs R') hpb (Z0 R') n hn lR' (by omega)]
     simp only [Option.bind_some]
     have sb:=Qo0 (dgs b) (n - 1)
     have sR:=Qo0 (dgs R') (n - 1)
     rw [Zp] at sb sR
     have tb:=Qnw hpb (n - 1)
     have tR:=Qnw (Z0 R') (n - 1)
     have tpos:=Qlv hpb hnb (k:=n - 1) (by omega)
     have tbig:n=0∨10000≤Qg ((dgs b).drop (n - 1)):=by
      rcases Nat.eq_zero_or_pos n with h | h
      ·exact .inl h
      ·right
       rw [Qbx (by omega),show n - 1+1=n by omega]
       have:=Qlv hpb hnb (k:=n) (by omega)
       omega
     have tlim:Qg ((dgs b).drop (n - 1)) < 100000000:=by
      have h3:=K7 (Qbw hpb (n - 1))
      have h4:=Qea (i:=((dgs b).drop (n - 1)).length) (j:=2) (by simp; omega)
      omega
     have flim:Qg ((dgs R').drop (n - 1)) < 1000000000000:=by
      have h3:=K7 (Qbw (Z0 R') (n - 1))
      have h4:=Qea (i:=((dgs R').drop (n - 1)).length) (j:=3) (by simp; omega)
      omega
     generalize hT:Qg ((dgs b).drop (n - 1))=T at *
     generalize hF:Qg ((dgs R').drop (n - 1))=F at *
     generalize hbl:Qg ((dgs b).take (n - 1))=bl at *
     generalize hRl:Qg ((dgs R').take (n - 1))=Rl at *
     rw [w64 (n:=(T:Int)+1) (by omega),if_pos (by omega),if_pos (by omega),Jr (by omega),Jr (by omega)]
     have c1:(F:Int) / ((T:Int)+1)=((F / (T+1):Nat):Int):=by simp
     have c2:(F:Int) / (T:Int)=((F / T:Nat):Int):=by simp
     have b1:F / (T+1)≤F:=Nat.div_le_self _ _
     have b2:F / T≤F:=Nat.div_le_self _ _
     rw [c1,c2]
     have q1:F / (T+1)≤R' / b:=by
      rw [Nat.le_div_iff_mul_le hb]
      have x1:F / (T+1)*(T+1)≤F:=Nat.div_mul_le_self _ _
      have x2:b≤10000^(n - 1)*(T+1):=by rw [Nat.mul_add]; omega
      have x3:F / (T+1)*b≤F / (T+1)*(10000^(n - 1)*(T+1)):=Nat.mul_le_mul_left _ x2
      have x4:F / (T+1)*(10000^(n - 1)*(T+1))=10000^(n - 1)*(F / (T+1)*(T+1)):=by rw [Nat.mul_left_comm]
      have x5:10000^(n - 1)*(F / (T+1)*(T+1))≤10000^(n - 1)*F:=Nat.mul_le_mul_left _ x1
      omega
     have q2:R' / b≤F / T:=by
      rw [Nat.le_div_iff_mul_le tpos]
      have x1:R' / b*b≤R':=Nat.div_mul_le_self _ _
      have x2:R' / b*(10000^(n - 1)*T)≤R' / b*b:=Nat.mul_le_mul_left _ (by omega)
      have x3:R' / b*(10000^(n - 1)*T)=10000^(n - 1)*(R' / b*T):=by rw [Nat.mul_left_comm]
      have x4:10000^(n - 1)*(R' / b*T) < 10000^(n - 1)*(F+1):=by rw [Nat.mul_add (10000^(n - 1)) F]; omega
      have:=Nat.lt_of_mul_lt_mul_left x4
      omega
     have q3:F / T≤10000:=by
      have x1:10000^(n - 1)*F < 10000^(n - 1)*(10000*(T+1)):=by
       have:10000^(n - 1)*(10000*(T+1))=10000*(10000^(n - 1)*(T+1)):=Nat.mul_left_comm _ _ _
       rw [this,Nat.mul_add (10000^(n - 1))]
       omega
      have x2:=Nat.lt_of_mul_lt_mul_left x1
      rcases tbig with h | h
      ·subst h
       simp only [Nat.zero_sub,Nat.pow_zero,Nat.one_mul] at sb sR tb tR
       have:F < 10000*T:=by omega
       exact Nat.le_of_lt ((Nat.div_lt_iff_lt_mul tpos).2 this)
      ·have:F < 10001*T:=by omega
       have:=(Nat.div_lt_iff_lt_mul tpos).2 this
       omega
     have q9:R' / b < 10000:=(Nat.div_lt_iff_lt_mul hb).2 (by omega)
     have w1:∀x:Nat,x≤F→zw (x:Int)=(x:Int):=fun x hx=>w64 (by omega)
     rw [w1 _ b1,w1 _ b2,Q2f b R' _ _ hb (by omega) (by omega) q1 q2 q3]
     simp only [Option.bind_some]
     have hd:=Nat.div_add_mod R' b
     have hmod:R' - b*(R' / b)=R' % b:=by omega
     have hml:=Nat.mul_div_le R' b
     have hmb:=Nat.mod_lt R' hb
     generalize R' / b=q at *
     generalize R' % b=r at *
     rw [Qs (l:=qs) (k:=j) (by omega)]
     simp only [Option.bind_some]
     rw [Qmu [(q:Int)] (Qfy.2 ⟨by omega,Qkl⟩) (by simp)]
     simp only [Option.bind_some]
     have hv:Qg [(q:Int)]=q:=by simp [Qg]
     rw [hv]
     have lq:(dgs q).length≤1:=Xj (by omega)
     rw [Qo3 (dgs b) (dgs q) hpb (fun z hz=>by have:=Z0 q z hz; omega) (by rw [Zp]; exact Nat.le_of_lt (Qhr _)) (by omega) (by omega),Zp,Zp]
     simp only [Option.bind_some]
     rw [Q2a _ _ hml (by omega),hmod]
     simp only [Option.bind_some]
     rw [w64 (n:=(j:Int) - 1) (by omega),Int.toNat_natCast]
     refine ⟨_,rfl,⟨j,r,rfl,by omega,rfl,hmb,by simp [e5],Qpt e6 (by omega),?_⟩,by simp only; omega⟩
     simp only
     have hset:(qs.set j (q:Int)).drop j=(q:Int)::qs.drop (j+1):=by
      rw [List.drop_eq_getElem_cons (by simp; omega),List.getElem_set_self,List.drop_set_of_lt (by omega)]
     rw [hset,Qbx hj,e7]
     simp only [Qg,Int.toNat_natCast]
     rw [Nat.mul_add,Nat.mul_add,Nat.mul_left_comm b 10000]
     omega
   ·refine ⟨m,Qg ((dgs a).drop m),rfl,Nat.le_refl _,?_,?_,by simp,Qjm _,?_⟩
    ·simp only
     by_cases h0:n=0
     ·rw [List.drop_of_length_le (by omega)]; simp [Qg,X9]
     ·refine (Qut (Qbw (Z0 a) m) ?_).symm
      have:=Qvw a
      unfold Qeg at *
      rwa [List.getLast?_drop,if_neg (by omega)]
    ·have h1:=K7 (Qbw (Z0 a) m)
     have h2:=Qz4 (n:=b) (by omega)
     rw [List.length_drop] at h1
     have h3:=Qea (i:=(dgs a).length - m) (j:=(dgs b).length - 1) (by omega)
     omega
    ·simp only
     rw [List.drop_of_length_le (l:=List.replicate m (0:Int)) (by simp)]; simp [Qg]
  rw [h1]
  simp only [Option.bind_some]
  rw [Qmu _ h4 (by omega),h2]
  simp only [Option.bind_some]
  have e1:a / b=Qg out.2:=by
   rw [h6,Nat.mul_add_div hb,Nat.div_eq_of_lt h3,Nat.add_zero]
  have e2:a % b=R:=by
   rw [h6,Nat.mul_add_mod,Nat.mod_eq_of_lt h3]
  rw [e1,e2]
end Go.Ab
namespace Go.Ab
open Go
set_option maxRecDepth 100000
theorem Qh5 {a b:Nat} (h:a≤b):(dgs a).length≤(dgs b).length:=by
 rcases Nat.lt_or_ge (dgs b).length (dgs a).length with h1 | h1
 ·have:=Ql7 h1; omega
 ·exact h1
theorem Qzx {p q:Nat} (h:2*(p+1)≤q+1):Nat.log2 (p+1) < Nat.log2 (q+1):=by
 have h1:2^Nat.log2 (p+1)≤p+1:=(Nat.le_log2 (by omega)).1 (Nat.le_refl _)
 have h2:Nat.log2 (p+1)+1≤Nat.log2 (q+1):=(Nat.le_log2 (by omega)).2 (by rw [Nat.pow_succ]; omega)
 omega
theorem Q3v {x K:Nat} (h:(dgs x).length≤K):Nat.log2 (x+1)≤14*K+1:=by
 have h1:=Qhr x
 have h2:=Qea (i:=(dgs x).length) (j:=K) h
 have h3:(10000:Nat)^K≤(2^14)^K:=Nat.pow_le_pow_left (by omega) K
 rw [←Nat.pow_mul] at h3
 have h4:x+1 < 2^(14*K+1):=by rw [Nat.pow_succ]; omega
 have:=(Nat.log2_lt (by omega)).2 h4
 omega
def gm (x y:Nat):Nat := if y≤x then Nat.log2 (x*y+1) else Nat.log2 (x*y+1)+1
theorem Qxn {x y:Nat} (hy:0 < y):gm y (x % y) < gm x y:=by
 have hr:=Nat.mod_lt x hy
 unfold gm
 rw [if_pos (by omega)]
 by_cases h:y≤x
 ·rw [if_pos h]
  refine Qzx ?_
  have h1:y+x % y≤x:=by
   have:=Nat.div_add_mod x y
   have h2:1≤x / y:=(Nat.one_le_div_iff hy).2 h
   have h3:y*1≤y*(x / y):=Nat.mul_le_mul_left _ h2
   omega
  have h4:(2*(x % y)+1)*y≤x*y:=Nat.mul_le_mul_right _ (by omega)
  rw [Nat.add_mul,Nat.mul_assoc,Nat.mul_comm (x % y) y] at h4
  omega
 ·rw [if_neg h,Nat.mod_eq_of_lt (by omega),Nat.mul_comm]
  omega
theorem Qu9 (x y:Nat):Nat.gcd x y=Nat.gcd y (x % y):=by
 rw [Nat.gcd_comm,Nat.gcd_rec,Nat.gcd_comm]
theorem Q1v {x y:Nat} (hx:(dgs x).length≤8000) (hy:(dgs y).length≤8000):gm x y < 1152921504606846976:=by
 have h1:=Qhr x
 have h2:=Qhr y
 have h3:(dgs (x*y)).length≤16000:=by
  have:(dgs (x*y)).length≤(dgs x).length+(dgs y).length:=Xj (by rw [Nat.pow_add]; exact Nat.mul_lt_mul'' h1 h2)
  omega
 have:=Q3v h3
 unfold gm
 split <;> omega
theorem Q6j (a b:Nat) (la:(dgs a).length≤8000) (lb:(dgs b).length≤8000):Qfm (dgs a) (dgs b)=some (dgs (Nat.gcd a b)):=by
 unfold Qfm
 rw [Qbh (fun s=>∃x y:Nat,s.1=dgs x∧s.2=dgs y∧(dgs x).length≤8000∧(dgs y).length≤8000∧Nat.gcd x y=Nat.gcd a b) (fun s=>gm (Qg s.1) (Qg s.2)) (dgs (Nat.gcd a b)) ?_ (dgs a,dgs b) ⟨a,b,rfl,rfl,la,lb,rfl⟩ (by simp only [Zp]; exact Q1v la lb)]
 ·rfl
 ·rintro ⟨x0,y0⟩ ⟨x,y,h1,h2,h3,h4,h5⟩
  simp only at h1 h2
  subst h1; subst h2
  unfold Qj9
  simp only
  by_cases hy:y=0
  ·right
   subst hy
   rw [X9,if_neg (by simp)]
   rw [Nat.gcd_zero_right] at h5
   rw [h5]
  ·left
   have hne:(dgs y).length≠0:=by rw [Ne,List.length_eq_zero_iff,Qgd]; exact hy
   rw [if_pos (by simp; omega),Qmo x y (by omega) h3 h4]
   simp only [Option.bind_some]
   refine ⟨_,rfl,⟨y,x % y,rfl,rfl,h4,?_,?_⟩,?_⟩
   ·have:=Qh5 (a:=x % y) (b:=y) (Nat.le_of_lt (Nat.mod_lt _ (by omega))); omega
   ·rw [←h5,Qu9 x y]
   ·simp only [Zp]
    exact Qxn (by omega)
def MX:Nat := 4611686018427387903
theorem Quv (a:Nat) (la:(dgs a).length≤8000):Qas (dgs a)=some (if a≤MX then ((a:Int),true) else (0,false)):=by
 unfold Qas
 rw [Qbv _ (by omega)]
 simp only [Option.bind_some]
 rw [show Int.natAbs 4611686018427387903=MX from rfl]
 have lm:(dgs MX).length≤5:=Xj (by decide)
 rw [Qgf _ _ (by omega) (by omega)]
 simp only [Option.bind_some]
 by_cases h:a≤MX
 ·rw [if_neg (by simpa using Qob.2 h),if_pos h]
  have hMX:MX=4611686018427387903:=rfl
  rw [Qbh (fun s=>∃k:Nat,s.2=(k:Int) - 1∧k≤(dgs a).length∧s.1=((Qg ((dgs a).drop k):Nat):Int)) (fun s=>(s.2+1).toNat) (a:Int) ?_ _ ⟨(dgs a).length,by simp only; rw [w64 (by omega)],Nat.le_refl _,by simp [Qg]⟩ (by simp only; rw [w64 (by omega)]; omega)]
  ·rfl
  ·rintro ⟨v,i⟩ ⟨k,h1,h2,h3⟩
   simp only at h1 h3
   subst h1; subst h3
   unfold Qhw
   simp only
   cases k with
   | zero =>
    right
    rw [if_neg (by simp),List.drop_zero,Zp]
   | succ j =>
    left
    have e:((j+1:Nat):Int) - 1=(j:Int):=by omega
    rw [e,if_pos (by simp),Qs (by omega)]
    simp only [Option.bind_some]
    have hv:=Qbx (l:=dgs a) (k:=j) (by omega)
    have hd:=Qai (Z0 a) (k:=j) (by omega)
    have hle:Qg ((dgs a).drop j)≤a:=by
     have h1:=Qew (l:=dgs a) (k:=j) (by omega)
     rw [Zp] at h1
     have h2:1*Qg ((dgs a).drop j)≤10000^j*Qg ((dgs a).drop j):=Nat.mul_le_mul_right _ (Q3n j)
     omega
    rw [w64 (n:=10000*((Qg ((dgs a).drop (j+1)):Nat):Int)) (by omega),w64 (by omega),w64 (by omega)]
    exact ⟨_,rfl,⟨j,rfl,by omega,by simp only; omega⟩,by simp only; omega⟩
 ·rw [if_pos (by simpa using fun h'=>h (Qob.1 h')),if_neg h]
def mkQ (neg:Bool) (n d:Nat):Tapi_Q × Bool :=
 if n / Nat.gcd n d≤MX then (if d / Nat.gcd n d≤MX then (⟨if neg then -((n / Nat.gcd n d:Nat):Int) else ((n / Nat.gcd n d:Nat):Int),((d / Nat.gcd n d:Nat):Int)⟩,true) else (⟨0,0⟩,false)) else (⟨0,0⟩,false)
theorem Q43 (neg:Bool) (n d:Nat) (hd:0 < d) (ln:(dgs n).length≤8000) (ld:(dgs d).length≤8000):Qet neg (dgs n) (dgs d)=some (mkQ neg n d):=by
 unfold Qet mkQ
 rw [Q6j n d ln ld]
 simp only [Option.bind_some]
 have hg:0 < Nat.gcd n d:=Nat.gcd_pos_of_pos_right _ hd
 have lg:=Qh5 (Nat.le_of_dvd hd (Nat.gcd_dvd_right n d))
 have l1:=Qh5 (Nat.div_le_self n (Nat.gcd n d))
 have l2:=Qh5 (Nat.div_le_self d (Nat.gcd n d))
 rw [Qmo n _ hg ln (by omega),Qmo d _ hg ld (by omega)]
 simp only [Option.bind_some]
 rw [Quv _ (by omega),Quv _ (by omega)]
 simp only [Option.bind_some]
 have hMX:MX=4611686018427387903:=rfl
 by_cases h1:n / Nat.gcd n d≤MX
 ·by_cases h2:d / Nat.gcd n d≤MX
  ·generalize n / Nat.gcd n d=x at *
   generalize d / Nat.gcd n d=y at *
   simp only [h1,h2,if_true,Bool.not_true,Bool.false_eq_true,if_false]
   cases neg
   ·simp
   ·rw [if_pos rfl,w64 (by omega)]; simp
  ·simp only [h1,h2,if_true,if_false,Bool.not_true,Bool.not_false,Bool.false_eq_true]
 ·simp only [h1,if_false,Bool.not_false,if_true]
theorem Qy7 {p:Int} (h:-9223372036854775808≤p∧p≤9223372036854775807):(dgs p.natAbs).length≤5:=Xj (by omega)
theorem Q42 (n d:Int) (hn:-9223372036854775808≤n∧n≤9223372036854775807) (hd:-9223372036854775808≤d∧d≤9223372036854775807) (h0:d≠0) :
  Qd7 n d=some (mkQ (!((decide (n < 0))==(decide (d < 0)))) n.natAbs d.natAbs):=by
 unfold Qd7
 have l1:=Qy7 hn
 have l2:=Qy7 hd
 rw [Qbv n hn,Qbv d hd]
 simp only [Option.bind_some]
 rw [Q43 _ _ _ (by omega) (by omega) (by omega)]
 rfl
end Go.Ab
