/- What functions compute. No conditions. -/
import Derived.Test.YtcbhkobklhkiiaaDoorW14
import Derived.Test.YtcbhkobklhkiiaaDoorEng7
import Derived.Test.YtcbhkobklhkiiaaDoorW10
set_option linter.all false
namespace Go.Ab
open Go
set_option maxRecDepth 100000
set_option maxHeartbeats 400000
structure Kb (m:Nat) (x:Tapi_Node):Prop where
 par:x.Parents.length≤m
 rows:x.Rows.length≤m
 row:∀r∈x.Rows,r.length≤m
theorem Qld {m:Nat} {x:Tapi_Node} (hm:m≤1000000) (h:Kb m x):Qa fuel (Xy x) (0,([]:List (List Int)))=some x.Rows:=by
 have h1:=h.rows
 have hr:=Zp (n:=x.Rows.length) (k0:=0) (by omega) (by omega) (fun i (t:List (List Int))=>(i,t)) (body:=Xy x) (fun k=>x.Rows.take k) x.Rows
  (fun k _ hk=>by
   have h2:=h.row _ (List.getElem_mem hk)
   unfold Xy
   dsimp only
   rw [if_pos (dlt hk),Qt hk,Option.bind_some,if_pos (by omega),if_pos (by rw [List.length_append,List.length_take]; simp; omega),Qr hk])
  (by unfold Xy; dsimp only; rw [if_neg (nlt _),List.take_length])
 exact hr
theorem Q1d {x:Tapi_Node}:Qe7 x=Xy x:=rfl
theorem Q1b {x:Tapi_Node}:Qex x=Xy x:=rfl
theorem Quy {m:Nat} {g:Int} {l:List Tapi_Node} {t:Nat} (hm:m≤1000000) (hl:l.length≤8) (h:∀x∈l,Kb m x) (ht:t < l.length) :
  Qa fuel (Qbf (fun s=>decide (s.1=(t:Int))) (Yw ⟨g,l⟩)) (0,([]:List Tapi_Node))=some (.inl ((t:Int),l.take t)):=by
 have step:∀k,k < t→Yw ⟨g,l⟩ ((k:Int),l.take k)=some (.next (((k+1:Nat):Int),l.take (k+1))):=fun k hk=>by
  have hkl:k < l.length:=by omega
  have hx:=h _ (List.getElem_mem hkl)
  have h3:=hx.par
  unfold Yw
  dsimp only
  rw [if_pos (dlt hkl),Qt hkl,Option.bind_some,if_pos (by omega),Qld hm hx,Option.bind_some,if_pos (by rw [List.length_append,List.length_take]; simp; omega),Qr hkl,Qko (by omega)]
 have key:∀(j N k:Nat),k+j=t→j < N→Qa N (Qbf (fun s=>decide (s.1=(t:Int))) (Yw ⟨g,l⟩)) ((k:Int),l.take k)=some (.inl ((t:Int),l.take t)):=by
  intro j
  induction j with
  | zero =>
   intro N k e hN
   obtain ⟨N,rfl⟩:∃M,N=M+1:=⟨N - 1,by omega⟩
   have:k=t:=by omega
   subst this
   simp only [Qa,Qbf,decide_true,if_true]
  | succ j ih =>
   intro N k e hN
   obtain ⟨N,rfl⟩:∃M,N=M+1:=⟨N - 1,by omega⟩
   have hne:¬ ((k:Int)=(t:Int)):=by omega
   have hs:Qbf (fun s=>decide (s.1=(t:Int))) (Yw ⟨g,l⟩) ((k:Int),l.take k)=some (.next (((k+1:Nat):Int),l.take (k+1))):=by
    unfold Qbf
    rw [if_neg (by simpa using hne),step k (by omega)]; rfl
   rw [Qa,hs]
   exact ih N (k+1) (by omega) (by omega)
 exact key t fuel 0 (by omega) (by show t < 1152921504606846976; omega)
theorem Qxf {m:Nat} {g:Int} {l:List Tapi_Node} {t:Nat} (hm:m≤1000000) (hl:l.length≤8) (h:∀x∈l,Kb m x) (ht:t < l.length) :
  Qa fuel (Vp ⟨g,l⟩ ((t:Int),l.take t)) (zw ((t:Int)+1),(l.take t++[(default:Tapi_Node)]))=some (l.take t++[(default:Tapi_Node)]++l.drop (t+1)):=by
 have hr:=Zp (n:=l.length) (k0:=t+1) (by omega) (by omega) (fun i (s:List Tapi_Node)=>(i,s)) (body:=Vp ⟨g,l⟩ ((t:Int),l.take t)) (fun k=>l.take t++[(default:Tapi_Node)]++(l.drop (t+1)).take (k - (t+1))) (l.take t++[(default:Tapi_Node)]++l.drop (t+1))
  (fun k hk0 hk=>by
   have hx:=h _ (List.getElem_mem hk)
   have h3:=hx.par
   have htl:(l.take t).length=t:=by rw [List.length_take]; omega
   have hi:t < (l.take t++[(default:Tapi_Node)]++(l.drop (t+1)).take (k - (t+1))).length:=by rw [List.length_append,List.length_append,htl]; simp only [List.length_cons,List.length_nil]; omega
   unfold Vp
   dsimp only
   rw [if_pos (dlt hk),Qt hk,Option.bind_some,if_pos (by omega),Q1b,Qld hm hx,Option.bind_some,htl,Qt hi,Option.bind_some,if_pos (by simp; omega)]
   congr 3
   rw [List.append_assoc,show k+1 - (t+1)=(k - (t+1))+1 by omega,Qr (by rw [List.length_drop]; omega)]
   congr 2
   rw [List.getElem_drop]
   simp only [show t+1+(k - (t+1))=k by omega])
  (by
   unfold Vp
   dsimp only
   rw [if_neg (nlt _)]
   congr 3
   rw [List.take_of_length_le (by rw [List.length_drop]; omega)])
 rw [Qko (by omega)]
 simp only [Nat.sub_self,List.take_zero,List.append_nil] at hr
 exact hr
def Out (m k:Nat) (o:Option Qc):Prop:=∃g l,o=some ⟨g,l⟩∧l.length≤k∧∀x∈l,Kb m x
theorem Ql7 {m k t:Nat} {g:Int} {l:List Tapi_Node} {x:Tapi_Node} (hl:l.length≤k) (h:∀y∈l,Kb m y) (hx:Kb m x):Out m k (some ⟨g,l.set t x⟩):=by
 refine ⟨g,_,rfl,by rw [List.length_set]; exact hl,fun y hy=>?_⟩
 rcases List.mem_or_eq_of_mem_set hy with h1 | h1
 ·exact h y h1
 ·rw [h1]; exact hx
theorem Qqk {m k t:Nat} {w0 w1 w2 w3 w4 w5 w6 row:Int} {q:Nat} {l:List Tapi_Node} {c:Int} {P:List Int} {R:List (List Int)} (hm:m≤1000000) (hl:l.length≤k) (hk:k≤8) (h:∀y∈l,Kb m y) (ht:t < l.length) (hP:P.length≤m) (hR:R.length≤m) (hr:∀r∈R,r.length≤m)
  (hrow:row=-1∨(0≤row∧row < R.length)):Out (m+1) (k+1) (Vv q row w0 w1 w2 w3 w4 w5 l (t:Int) c P R):=by
 have h':∀y∈l,Kb (m+1) y:=fun y hy=>⟨Nat.le_succ_of_le (h y hy).par,Nat.le_succ_of_le (h y hy).rows,fun r hr=>Nat.le_succ_of_le ((h y hy).row r hr)⟩
 have hlk:lkI l (t:Int)=some l[t]:=Qt ht
 have mk:∀{g c:Int} {P:List Int} {R:List (List Int)},P.length≤m+1→R.length≤m+1→(∀r∈R,r.length≤m+1)→Out (m+1) (k+1) (Qm g l (t:Int) c P R):=fun a b d=>by
  unfold Qm
  rw [hlk,Option.bind_some]
  exact Ql7 (Nat.le_succ_of_le hl) h' ⟨a,b,d⟩
 have same:∀{g c:Int},Out (m+1) (k+1) (Qm g l (t:Int) c P R):=mk (by omega) (by omega) fun r h=>Nat.le_succ_of_le (hr r h)
 have rowAt:0≤row→∃(i:Nat) (hi:i < R.length),row=(i:Int)∧lkI R row=some R[i]:=fun h0=>by
  rcases hrow with h1 | h1
  ·omega
  ·obtain ⟨i,rfl⟩:∃i:Nat,row=(i:Int):=⟨row.toNat,by omega⟩
   exact ⟨i,by omega,rfl,Qt (by omega)⟩
 have setR:∀{i:Nat} {r:List Int},r.length≤m+1→(R.set i r).length≤m+1∧∀s∈R.set i r,s.length≤m+1:=fun hr'=>⟨by rw [List.length_set]; omega,fun s hs=>by
  rcases List.mem_or_eq_of_mem_set hs with h1 | h1
  ·exact Nat.le_succ_of_le (hr s h1)
  ·rw [h1]; exact hr'⟩
 unfold Vv
 by_cases c0:Int.tmod w0 12=0
 ·rw [if_pos (by simpa using c0)]; exact same
 rw [if_neg (by simpa using c0)]
 by_cases c1:Int.tmod w0 12=1
 ·rw [if_pos (by simpa using c1),hlk,Option.bind_some]; exact same
 rw [if_neg (by simpa using c1)]
 by_cases c2:Int.tmod w0 12=2
 ·rw [if_pos (by simpa using c2),hlk,Option.bind_some,if_pos (by rw [List.length_append]; simp; omega)]
  exact mk (by rw [List.length_append]; simp; omega) (by omega) fun r h=>Nat.le_succ_of_le (hr r h)
 rw [if_neg (by simpa using c2)]
 by_cases c3:Int.tmod w0 12=3
 ·rw [if_pos (by simpa using c3),hlk,Option.bind_some]
  unfold Qa2
  rw [hlk,Option.bind_some]
  exact Ql7 (Nat.le_succ_of_le hl) h' ⟨by simp,Nat.le_succ_of_le hR,fun r h=>Nat.le_succ_of_le (hr r h)⟩
 rw [if_neg (by simpa using c3)]
 by_cases c4:Int.tmod w0 12=4
 ·rw [if_pos (by simpa using c4),hlk,Option.bind_some,if_pos (by rw [List.length_append]; simp; omega)]
  refine mk (by omega) (by rw [List.length_append]; simp; omega) fun r h=>?_
  rcases List.mem_append.1 h with h1 | h1
  ·exact Nat.le_succ_of_le (hr r h1)
  ·simp at h1; rw [h1]; simp
 rw [if_neg (by simpa using c4)]
 by_cases c5:Int.tmod w0 12=5
 ·rw [if_pos (by simpa using c5)]
  by_cases d:row≥0
  ·rw [if_pos (by simpa using d),hlk,Option.bind_some,if_pos (by rcases hrow with h1 | h1 <;> omega)]
   unfold Qa7
   refine Ql7 (Nat.le_succ_of_le hl) h' ⟨by simp only; omega,?_,fun r h=>?_⟩
   ·show (sub R 0 row).length≤m+1
    unfold sub; simp; omega
   ·have h:r∈sub R 0 row:=h
    unfold sub at h
    exact Nat.le_succ_of_le (hr r (List.mem_of_mem_take (by simpa using h)))
  ·rw [if_neg (by simpa using d)]; exact same
 rw [if_neg (by simpa using c5)]
 by_cases c6:Int.tmod w0 12=6
 ·rw [if_pos (by simpa using c6)]
  by_cases d:row≥0
  ·obtain ⟨i,hi,e1,e2⟩:=rowAt d
   rw [if_pos (by simpa using d),hlk,Option.bind_some,e2,Option.bind_some]
   have hri:=hr _ (List.getElem_mem hi)
   by_cases d2:((R[i].length:Int) > 0)
   ·rw [if_pos (by simpa using d2),show (0:Int)=((0:Nat):Int) from rfl,Qt (by omega),Option.bind_some]
    obtain ⟨a,b⟩:=setR (i:=row.toNat) (r:=R[i].set (Int.toNat ((0:Nat):Int)) w3) (by rw [List.length_set]; omega)
    exact mk (by omega) a b
   ·rw [if_neg (by simpa using d2)]; exact same
  ·rw [if_neg (by simpa using d)]; exact same
 rw [if_neg (by simpa using c6)]
 by_cases c7:Int.tmod w0 12=7
 ·rw [if_pos (by simpa using c7)]
  by_cases d:row≥0
  ·obtain ⟨i,hi,e1,e2⟩:=rowAt d
   have hri:=hr _ (List.getElem_mem hi)
   rw [if_pos (by simpa using d),e2,Option.bind_some,hlk,Option.bind_some,if_pos (by rw [List.length_append]; simp; omega),List.set_set]
   obtain ⟨a,b⟩:=setR (i:=row.toNat) (r:=R[i]++[(0:Int)]) (by rw [List.length_append]; simp; omega)
   exact mk (by omega) a b
  ·rw [if_neg (by simpa using d)]; exact same
 rw [if_neg (by simpa using c7)]
 by_cases c8:Int.tmod w0 12=8
 ·rw [if_pos (by simpa using c8)]
  by_cases d:row≥0
  ·obtain ⟨i,hi,e1,e2⟩:=rowAt d
   have hri:=hr _ (List.getElem_mem hi)
   rw [if_pos (by simpa using d),hlk,Option.bind_some,e2,Option.bind_some]
   by_cases d2:((R[i].length:Int) > 0)
   ·rw [if_pos (by simpa using d2),if_pos (by omega),show (0:Int)=((0:Nat):Int) from rfl,Qt (by rw [List.length_replicate]; omega),Option.bind_some,List.set_set]
    obtain ⟨a,b⟩:=setR (i:=row.toNat) (r:=(List.replicate (Int.toNat (R[i].length:Int)) ((0:Nat):Int)).set (Int.toNat ((0:Nat):Int)) w4) (by rw [List.length_set,List.length_replicate]; omega)
    exact mk (by omega) a b
   ·rw [if_neg (by simpa using d2)]; exact same
  ·rw [if_neg (by simpa using d)]; exact same
 rw [if_neg (by simpa using c8)]
 by_cases c9:Int.tmod w0 12=9
 ·rw [if_pos (by simpa using c9)]
  by_cases d:row≥0
  ·obtain ⟨i,hi,e1,e2⟩:=rowAt d
   have hri:=hr _ (List.getElem_mem hi)
   rw [if_pos (by simpa using d),hlk,Option.bind_some,e2,Option.bind_some]
   have hw:=Vq (body:=Qax row) (fun s:Int × Int × List (List Int)=>∃(a b:Int) (T:List (List Int)),s=(a,b,T)∧0≤a∧-1≤b∧a+b=(R[i].length:Int) - 1∧T.length=R.length∧(∀r∈T,r.length≤m)∧∃r,T[i]?=some r∧r.length=R[i].length) (fun s=>R[i].length+1 - s.1.toNat) (fun T=>T.length=R.length∧∀r∈T,r.length≤m)
    (fun s hs=>by
     obtain ⟨a,b,T,rfl,ha,hb,hab,hT,hTr,r,er,hrl⟩:=hs
     unfold Qax
     dsimp only
     by_cases hc:a < b
     ·left
      have eT:lkI T row=some r:=by unfold lkI; rw [if_neg (by omega),e1,Int.toNat_natCast,er]
      have l1:∀(s:List Int) (z:Int),s.length=R[i].length→0≤z→z < R[i].length→lkI s z=some ((s[z.toNat]?).getD 0):=fun s z hs h1 h2=>by
       unfold lkI; rw [if_neg (by omega),List.getElem?_eq_getElem (by omega)]; rfl
      rw [if_pos (by simpa using hc),eT,Option.bind_some,l1 r a hrl ha (by omega),Option.bind_some,l1 r b hrl (by omega) (by omega),Option.bind_some,l1 _ b (by rw [List.length_set]; exact hrl) (by omega) (by omega),Option.bind_some,List.set_set,w64 (by omega),w64 (by omega)]
      refine ⟨_,rfl,⟨_,_,_,rfl,by omega,by omega,by omega,by rw [List.length_set]; exact hT,fun s hs=>?_,_,by rw [e1,Int.toNat_natCast,List.getElem?_set_self (by omega)],by rw [List.length_set,List.length_set]; exact hrl⟩,by simp only; omega⟩
      rcases List.mem_or_eq_of_mem_set hs with h1 | h1
      ·exact hTr s h1
      ·rw [h1,List.length_set,List.length_set,hrl]; exact hri
     ·right
      rw [if_neg (by simpa using hc)]
      exact ⟨_,rfl,hT,hTr⟩) (0,zw ((R[i].length:Int) - 1),R) ⟨0,(R[i].length:Int) - 1,R,by rw [w64 (by omega)],by omega,by omega,by omega,rfl,hr,_,List.getElem?_eq_getElem hi,rfl⟩ (by show R[i].length+1 - 0 < 1152921504606846976; omega)
   obtain ⟨T,h1,h2,h3⟩:=hw
   rw [h1,Option.bind_some]
   exact mk (by omega) (by omega) fun r h=>Nat.le_succ_of_le (h3 r h)
  ·rw [if_neg (by simpa using d)]; exact same
 rw [if_neg (by simpa using c9)]
 by_cases c10:Int.tmod w0 12=10
 ·rw [if_pos (by simpa using c10),hlk,Option.bind_some,if_pos (by rw [List.length_append]; simp; omega)]
  unfold Qm
  have hn:∀y∈l++[Tapi_Node.mk 1 [] [[w4]]],Kb (m+1) y:=fun y hy=>by
   rcases List.mem_append.1 hy with h1 | h1
   ·exact h' y h1
   ·simp at h1; rw [h1]; exact ⟨by simp,by simp,fun r hr=>by simp at hr; rw [hr]; simp⟩
  rw [Qt (by rw [List.length_append]; omega),Option.bind_some]
  exact Ql7 (by rw [List.length_append]; simp; omega) hn ⟨by simp only; omega,by simp only; omega,fun r h=>Nat.le_succ_of_le (hr r h)⟩
 rw [if_neg (by simpa using c10),hlk,Option.bind_some,List.length_set,w64 (n:=(l.length:Int) - 1) (by omega),if_pos (by omega)]
 have hx:Kb (m+1) (Tapi_Node.mk c P R):=⟨by simp only; omega,by simp only; omega,fun r h=>Nat.le_succ_of_le (hr r h)⟩
 refine ⟨_,_,rfl,?_,fun y hy=>?_⟩
 ·unfold sub; simp; omega
 ·unfold sub at hy
  have hy:=List.mem_of_mem_take (show y∈List.take (l.length - 1) (l.set t { Card:=c,Parents:=P,Rows:=R }) by simpa using hy)
  rcases List.mem_or_eq_of_mem_set hy with h1 | h1
  ·exact h' y h1
  ·rw [h1]; exact hx
theorem Qyr {b:Zd} {g:Int} {l:List Tapi_Node} {m:Nat} (hm:m≤999999) (h1:1≤l.length) (hl:l.length≤8) (h:∀x∈l,Kb m x) (hA:0≤b.At∧b.At≤255) (hR:0≤b.Row∧b.Row≤255):Out (m+1) (l.length+1) (Kd b ⟨g,l⟩):=by
 have eA:zw b.At=b.At:=w64 (by omega)
 have eR:zw b.Row=b.Row:=w64 (by omega)
 have tm:∀k:Nat,0 < k→∃t:Nat,t < k∧Int.tmod b.At (k:Int)=(t:Int):=fun k hk=>by
  rw [K5 hA.1]
  have h1:=Int.emod_nonneg b.At (show (k:Int)≠0 by omega)
  have h2:=Int.emod_lt_of_pos b.At (show (0:Int) < k by omega)
  exact ⟨(b.At % k).toNat,by omega,by omega⟩
 obtain ⟨t,ht,et⟩:=tm l.length (by omega)
 unfold Kd
 dsimp only
 rw [eA,et,Quy (by omega) hl h ht,Option.bind_some]
 dsimp only
 have hx:=h _ (List.getElem_mem ht)
 have hxp:=hx.par
 have htl:(l.take t).length=t:=by rw [List.length_take]; omega
 rw [if_pos (dlt ht),Qt ht,Option.bind_some,if_pos (by omega),Q1d,Qld (by omega) hx,Option.bind_some,if_pos (by rw [List.length_append,htl]; simp; omega),Qxf (by omega) hl h ht,Option.bind_some,htl]
 have hlen:(l.take t++[(default:Tapi_Node)]++l.drop (t+1)).length=l.length:=by simp [htl]; omega
 have hall:∀y∈l.take t++[(default:Tapi_Node)]++l.drop (t+1),Kb m y:=fun y hy=>by
  rcases List.mem_append.1 hy with h1 | h1
  ·rcases List.mem_append.1 h1 with h2 | h2
   ·exact h y (List.mem_of_mem_take h2)
   ·simp at h2; rw [h2]; exact ⟨Nat.zero_le _,Nat.zero_le _,fun r hr=>by cases hr⟩
  ·exact h y (List.mem_of_mem_drop h1)
 generalize l.take t++[(default:Tapi_Node)]++l.drop (t+1)=L at hlen hall
 have hne:¬ (((l.length:Int)==0)=true):=by simp; intro e; rw [e] at h1; simp at h1
 rw [hlen,if_neg hne,if_pos (by omega),Qt (by omega),Option.bind_some,et,if_pos rfl]
 by_cases c:((l[t].Rows.length:Int) > 0)
 ·rw [if_pos (by simpa using c),if_pos (by omega)]
  have hrow:0≤Int.tmod (zw b.Row) (l[t].Rows.length:Int)∧Int.tmod (zw b.Row) (l[t].Rows.length:Int) < l[t].Rows.length:=by
   rw [eR,K5 hR.1]
   exact ⟨Int.emod_nonneg _ (by omega),Int.emod_lt_of_pos _ (by omega)⟩
  exact Qqk (by omega) (by omega) hl hall (by omega) hx.par hx.rows hx.row (.inr hrow) (w5:=0) (w6:=0)
 ·rw [if_neg (by simpa using c)]
  exact Qqk (by omega) (by omega) hl hall (by omega) hx.par hx.rows hx.row (.inl rfl) (w5:=0) (w6:=0)
theorem Qyl {l:List Tapi_Node}:l=Qd l.length fun v=>(l[v]?).getD default:=by
 apply List.ext_getElem?
 intro i
 unfold Qd
 rw [List.getElem?_map]
 by_cases c:i < l.length
 ·rw [List.getElem?_eq_getElem c,List.getElem?_range c]
  simp [c]
 ·rw [List.getElem?_eq_none (by omega),List.getElem?_eq_none (by simp; omega)]; rfl
theorem Q28 {l:List Tapi_Node} {m:Nat} (hm:m≤1000000) (h:∀x∈l,Kb m x):NB l.length fun v=>(l[v]?).getD default:=by
 have key:∀v,v < l.length→Kb m ((l[v]?).getD default):=fun v hv=>by
  rw [List.getElem?_eq_getElem hv]; exact h _ (List.getElem_mem hv)
 exact ⟨fun v hv=>by have:=(key v hv).par; omega,fun v hv=>by have:=(key v hv).rows; omega,fun v hv r hr=>by have:=(key v hv).row r hr; omega⟩
end Go.Ab
namespace Go.Ab
open Go
set_option maxRecDepth 100000
set_option maxHeartbeats 400000
def PG (q:Nat → List Nat):Gr:=fun v i=>decide (i∈q v)
def FG (q:Nat → List Nat):Gr:=fun v i=>decide (v=i) || decide (i∈q v)
def mgk (q:Nat → List Nat) (k:Nat):Gr:=fun u w=>!decide (u=w) && (List.range k).any fun v=>FG q v u && FG q v w
def mg (n:Nat) (q:Nat → List Nat):Gr:=fun u w=>decide (u < n) && decide (w < n) && mgk q n u w
theorem Ql9 {n:Nat} {F:Nat → Tapi_Node} (hn:n≤8) (h:∀v,v < n→∀p∈Qf F v,p < n):Za n (setF F)=gl n (PG (Qf F)):=by
 unfold Za Qd gl
 refine List.map_congr_left fun v hv=>?_
 have hv:=List.mem_range.1 hv
 have:setF F v=msk n (PG (Qf F) v):=Qav (Qk9 fun j hj=>h v hv j (by unfold setF at hj; rw [X3] at hj; simpa using hj)) fun i _=>by
  unfold setF PG; rw [X3]; simp
 rw [this]
theorem Qo7 {n:Nat} {q:Nat → List Nat}:Qgc n (mg n q):=by
 refine ⟨fun u w=>?_,fun u=>?_,fun u w h=>?_⟩
 ·unfold mg mgk
  rw [Bool.eq_iff_iff]
  simp only [Bool.and_eq_true,Bool.not_eq_true',decide_eq_false_iff_not,List.any_eq_true,decide_eq_true_eq]
  constructor <;> rintro ⟨⟨a,b⟩,c,v,d,e,f⟩ <;> exact ⟨⟨b,a⟩,fun h=>c h.symm,v,d,f,e⟩
 ·unfold mg mgk; simp
 ·unfold mg at h
  simp only [Bool.and_eq_true,decide_eq_true_eq] at h
  exact h.1.1
theorem Qzt {q:Nat → List Nat} {k:Nat}:mgk q (k+1)=fun u w=>mgk q k u w || (!decide (u=w) && (FG q k u && FG q k w)):=by
 funext u w
 unfold mgk
 rw [List.range_succ,List.any_append]
 simp only [List.any_cons,List.any_nil,Bool.or_false]
 cases decide (u=w) <;> simp
theorem Qre {n k:Nat} {q:Nat → List Nat} (hn:n≤10) (hk:k < n):zv (zb ((msk n (PG q k):Nat):Int) ||| zb (zv (1*2^min (Int.toNat (k:Int)) (IntKind.bits .u64)))).toNat = ((msk n (FG q k):Nat):Int):=by
 rw [Qf0 hn hk]
 congr 1
 exact Kc fun i _=>by unfold PG FG; rw [Bool.or_comm]
theorem Qza {n:Nat} {q:Nat → List Nat} {N:Qc} {C o:List Int} (h1:1≤n) (hn:n≤8):Jq ⟨N,C,gl n (PG q),o⟩=some (gl n (mg n q)):=by
 have inner:∀k,k < n→Qa fuel (Yj ((k:Int),gl n (mgk q k)) ((msk n (PG q k):Nat):Int)) ((0:Int),gl n (mgk q k))=some (gl n (mgk q (k+1))):=fun k hk=>by
  have h:=Zp (n:=n) (k0:=0) (by omega) (by omega) (fun i (t:List Int)=>(i,t)) (body:=Yj ((k:Int),gl n (mgk q k)) ((msk n (PG q k):Nat):Int)) (fun j=>gl n fun u w=>mgk q k u w || (decide (u < j) && (!decide (u=w) && (FG q k u && FG q k w)))) (gl n (mgk q (k+1)))
   (fun j _ hj=>by
    unfold Yj
    dsimp only
    rw [Zr,if_pos (dlt hj),if_pos (Xr j),Qre (by omega) hk,Qji (Qun (by omega) (Yf n _)) (by omega),Qb4 j hj]
    by_cases c:FG q k j=true
    ·rw [c,if_pos (by decide),Qap hj,Option.bind_some,if_pos (Xr j),Qz9 (by omega) (by omega),Qzd (n:=n) (by omega) (Yf n _) (Yf n _) Qb4 Qb4,Qik]
     congr 3
     refine gl_congr fun u w hu hw=>?_
     simp only [upd]
     grind
    ·rw [Bool.not_eq_true] at c
     rw [c,if_neg (by decide)]
     congr 3
     refine gl_congr fun u w hu hw=>?_
     grind)
   (by
    unfold Yj
    dsimp only
    rw [Zr,if_neg (nlt n),Qzt]
    congr 2
    refine gl_congr fun u w hu hw=>?_
    simp [hu])
  have e0:(gl n fun u w=>mgk q k u w || (decide (u < 0) && (!decide (u=w) && (FG q k u && FG q k w))))=gl n (mgk q k):=gl_congr fun u w _ _=>by simp
  simp only [e0] at h
  exact h
 have h:=Zp (n:=n) (k0:=0) (by omega) (by omega) (fun i (t:List Int)=>(i,t)) (body:=Vm ⟨N,C,gl n (PG q),o⟩) (fun k=>gl n (mgk q k)) (gl n (mg n q))
  (fun k _ hk=>by
   unfold Vm
   dsimp only
   rw [Zr,if_pos (dlt hk),Qap hk,Option.bind_some,if_pos (Xr k),inner k hk]; rfl)
  (by
   unfold Vm
   dsimp only
   rw [Zr,if_neg (nlt n)]
   congr 2
   refine gl_congr fun u w hu hw=>?_
   unfold mg; simp [hu,hw])
 have e0:gl n (mgk q 0)=gl n fun _ _=>false:=gl_congr fun u w _ _=>by unfold mgk; simp
 simp only [e0] at h
 unfold Jq
 dsimp only
 rw [Zr,if_pos (by omega),Int.toNat_natCast,Qt8]
 rw [show ((0:Nat):Int)=0 from rfl] at h
 rw [h]; rfl
theorem Qe8 {n v:Nat} {p:Nat → Bool} (hn:n≤10) (hv:v < n):X7 ((msk n p:Nat):Int) (v:Int)=some (p v):=by
 rw [Qra (Qun hn (Yf n p)) (by omega),Qb4 v hv]
theorem Qsw {n:Nat} {L:List Int} (hL:L.length=n) (hn:n≤8):Qa fuel (Jo L) 0=some ():=by
 have h:=Zp (n:=n) (k0:=0) (by omega) (by omega) (fun i (_:Unit)=>i) (body:=Jo L) (fun _=>()) ()
  (fun k _ hk=>by unfold Jo; rw [hL,if_pos (dlt hk)])
  (by unfold Jo; rw [hL,if_neg (nlt n)])
 exact h
theorem Qw8 {n:Nat} {q:Nat → List Nat} (h1:1≤n) (hn:n≤8) (hq:∀v,v < n→v ∉ q v):Qcl (gl n (PG q))=some (gl n (mg n q)):=by
 have join:∀a b,a < n→b < n→a≠b→(mg n q a b=true↔PG q a b=true∨PG q b a=true∨∃v,v < n∧PG q v a=true∧PG q v b=true):=fun a b ha hb hne=>by
  unfold mg mgk FG PG
  simp only [ha,hb,Bool.and_eq_true,Bool.not_eq_true',decide_eq_false_iff_not,List.any_eq_true,decide_eq_true_eq,Bool.or_eq_true,List.mem_range,decide_true]
  constructor
  ·rintro ⟨_,_,v,hv,e1,e2⟩
   rcases e1 with e1 | e1 <;> rcases e2 with e2 | e2
   ·omega
   ·subst e1; exact .inl e2
   ·subst e2; exact .inr (.inl e1)
   ·exact .inr (.inr ⟨v,hv,e1,e2⟩)
  ·rintro (h | h | ⟨v,hv,e1,e2⟩)
   ·exact ⟨⟨trivial,trivial⟩,hne,a,ha,.inl rfl,.inr h⟩
   ·exact ⟨⟨trivial,trivial⟩,hne,b,hb,.inr h,.inl rfl⟩
   ·exact ⟨⟨trivial,trivial⟩,hne,v,hv,.inr e1,.inr e2⟩
 have b1:∀(a b:Nat) (X Y:List Int) (x:Bool),a < n→b < n→∃y,Qa fuel (Jn (gl n (PG q)) ((a:Int),X) ((b:Int),Y)) (x,(0:Int))=some y∧(y=true↔x=true∨∃v,v < n∧PG q v a=true∧PG q v b=true):=fun a b X Y x ha hb=>by
  have h:=Kk (n:=n) (k0:=0) (by omega) (by omega) (fun i (t:Bool)=>(t,i)) (body:=Jn (gl n (PG q)) ((a:Int),X) ((b:Int),Y)) (fun k t=>t=true↔x=true∨∃v,v < k∧PG q v a=true∧PG q v b=true) (fun y=>y=true↔x=true∨∃v,v < n∧PG q v a=true∧PG q v b=true)
   (fun k t _ hk hI=>by
    left
    unfold Jn
    dsimp only
    rw [Zr,if_pos (dlt hk)]
    by_cases c:t=true
    ·rw [if_pos c]
     refine ⟨true,rfl,by
      simp only [true_iff]
      rcases hI.1 c with h | ⟨v,hv,h⟩
      ·exact .inl h
      ·exact .inr ⟨v,by omega,h⟩⟩
    ·rw [if_neg c,Qap hk,Option.bind_some,Qe8 (by omega) ha,Option.bind_some]
     have hno:¬ (x=true∨∃v,v < k∧PG q v a=true∧PG q v b=true):=fun h=>c (hI.2 h)
     have key:(x=true∨∃v,v < k+1∧PG q v a=true∧PG q v b=true)↔PG q k a=true∧PG q k b=true:=by
      constructor
      ·rintro (h | ⟨v,hv,h⟩)
       ·exact absurd (.inl h) hno
       ·by_cases e:v=k
        ·rw [←e]; exact h
        ·exact absurd (.inr ⟨v,by omega,h⟩) hno
      ·intro h; exact .inr ⟨k,by omega,h⟩
     by_cases c2:PG q k a=true
     ·rw [if_pos c2,Qe8 (by omega) hb,Option.bind_some]
      exact ⟨_,rfl,by rw [key]; simp [c2]⟩
     ·rw [if_neg c2]
      exact ⟨false,rfl,by rw [key]; simp [c2]⟩)
   (fun t hI=>⟨t,by unfold Jn; dsimp only; rw [Zr,if_neg (nlt n)],hI⟩) x (by simp)
  exact h
 have b2:∀a,a < n→Qa fuel (Jm (gl n (PG q)) ((a:Int),gl n fun u w=>decide (u < a) && mg n q u w)) ((0:Int),gl n fun u w=>decide (u < a) && mg n q u w)=some (gl n fun u w=>decide (u < a+1) && mg n q u w):=fun a ha=>by
  have h:=Zp (n:=n) (k0:=0) (by omega) (by omega) (fun i (t:List Int)=>(i,t)) (body:=Jm (gl n (PG q)) ((a:Int),gl n fun u w=>decide (u < a) && mg n q u w)) (fun b=>gl n fun u w=>(decide (u < a) || (decide (u=a) && decide (w < b))) && mg n q u w) (gl n fun u w=>decide (u < a+1) && mg n q u w)
   (fun b _ hb=>by
    have put:mg n q a b=true→gl n (upd (fun u w=>(decide (u < a) || (decide (u=a) && decide (w < b))) && mg n q u w) a fun i=>((decide (a < a) || (decide (a=a) && decide (i < b))) && mg n q a i) || decide (b=i))=gl n fun u w=>(decide (u < a) || (decide (u=a) && decide (w < b+1))) && mg n q u w:=fun hm=>gl_congr fun u w hu hw=>by
     simp only [upd]
     by_cases e:u=a
     ·subst e
      rw [if_pos rfl]
      by_cases e2:b=w
      ·subst e2; simp [hm]
      ·have:(w < b+1)↔w < b:=by omega
       simp [e2,this]
     ·rw [if_neg e]; simp [e]
    have skip:mg n q a b=false→(gl n fun u w=>(decide (u < a) || (decide (u=a) && decide (w < b))) && mg n q u w)=gl n fun u w=>(decide (u < a) || (decide (u=a) && decide (w < b+1))) && mg n q u w:=fun hm=>gl_congr fun u w hu hw=>by
     by_cases e:u=a
     ·subst e
      by_cases e2:b=w
      ·subst e2; simp [hm]
      ·have:(w < b+1)↔w < b:=by omega
       simp [this]
     ·simp [e]
    unfold Jm
    dsimp only
    rw [Zr,if_pos (dlt hb),Qap ha,Option.bind_some,Qe8 (by omega) hb,Option.bind_some]
    have self:mg n q a a=false:=Qo7.irr a
    by_cases c:PG q a b=true
    ·rw [if_pos c,Qsw (Zr _ _) hn,Option.bind_some]
     have hne:a≠b:=fun e=>by subst e; unfold PG at c; exact hq a ha (by simpa using c)
     have hm:=(join a b ha hb hne).2 (.inl c)
     rw [if_pos (by simp; omega),Qap ha,Option.bind_some,Yd (n:=b) (by omega),if_pos (Xr b),Qf0 (by omega) hb,Qik,put hm]
    ·rw [if_neg c,Qap hb,Option.bind_some,Qe8 (by omega) ha,Option.bind_some]
     obtain ⟨y,e1,e2⟩:=b1 a b (gl n fun u w=>decide (u < a) && mg n q u w) (gl n fun u w=>(decide (u < a) || (decide (u=a) && decide (w < b))) && mg n q u w) (PG q b a) ha hb
     rw [e1,Option.bind_some]
     by_cases hne:a=b
     ·subst hne
      rw [if_neg (by simp),skip self]
     ·rw [if_pos (by simp; omega)]
      by_cases c2:y=true
      ·have hm:mg n q a b=true:=(join a b ha hb hne).2 (.inr (e2.1 c2))
       rw [if_pos c2,Qap ha,Option.bind_some,Yd (n:=b) (by omega),if_pos (Xr b),Qf0 (by omega) hb,Qik,put hm]
      ·have hm:mg n q a b=false:=by
        rw [Bool.eq_false_iff]; intro h
        rcases (join a b ha hb hne).1 h with h | h
        ·exact c h
        ·exact c2 (e2.2 h)
       rw [if_neg c2,skip hm])
   (by
    unfold Jm
    dsimp only
    rw [Zr,if_neg (nlt n)]
    congr 2
    refine gl_congr fun u w hu hw=>?_
    have:(u < a+1)↔(u < a∨u=a):=by omega
    simp [hw,this])
  have e0:(gl n fun u w=>(decide (u < a) || (decide (u=a) && decide (w < 0))) && mg n q u w)=gl n fun u w=>decide (u < a) && mg n q u w:=gl_congr fun u w _ _=>by simp
  simp only [e0] at h
  exact h
 have h:=Zp (n:=n) (k0:=0) (by omega) (by omega) (fun i (t:List Int)=>(i,t)) (body:=Ky (gl n (PG q))) (fun a=>gl n fun u w=>decide (u < a) && mg n q u w) (gl n (mg n q))
  (fun a _ ha=>by
   unfold Ky
   dsimp only
   rw [Zr,if_pos (dlt ha),b2 a ha]; rfl)
  (by
   unfold Ky
   dsimp only
   rw [Zr,if_neg (nlt n)]
   congr 2
   refine gl_congr fun u w hu hw=>?_
   simp [hu])
 have e0:(gl n fun u w=>decide (u < 0) && mg n q u w)=gl n fun _ _=>false:=gl_congr fun u w _ _=>by simp
 simp only [e0] at h
 unfold Qcl
 rw [Zr,if_pos (by omega),Int.toNat_natCast,Qt8]
 rw [show ((0:Nat):Int)=0 from rfl] at h
 rw [h]; rfl
end Go.Ab
namespace Go.Ab
open Go
set_option maxRecDepth 100000
set_option maxHeartbeats 400000
def setP (A:Gr) (v:Nat):Nat → Bool:=fun i=>A v i || decide (v=i)
def setL (n:Nat):Gr→List Nat → List Nat
 | _,[]=>[]
 | A,v::o=>msk n (setP A v)::setL n (elim A v) o
def Xi (a b:Nat):Bool:=Nat.beq (a &&& b) a
def Qdj (acc:List Nat) (s:Nat):List Nat := if acc.any (Xi s) then acc else acc++[s]
def Z9 (l:List Nat):List Nat := l.foldl Qdj []
theorem Qd2 {a b:Nat}:Xi a b=true↔Y1 a b:=by
 unfold Xi Y1
 rw [Nat.beq_eq]
 constructor
 ·intro h j hj
  rw [←h,Nat.testBit_and,Bool.and_eq_true] at hj
  exact hj.2
 ·intro h
  refine Nat.eq_of_testBit_eq fun j=>?_
  rw [Nat.testBit_and]
  cases ha:a.testBit j with
  | true=>rw [h j ha]; rfl
  | false=>rfl
theorem Qkk {n:Nat}:∀(o:List Nat) (A:Gr) (v:Nat),setL n A (o++[v])=setL n A o++[msk n (setP (seqA A o) v)]
 | [],A,v=>rfl
 | u::o,A,v=>by
  simp only [List.cons_append,setL]
  rw [Qkk o (elim A u) v]; rfl
theorem Qee {n:Nat}:∀(o:List Nat) (A:Gr),(setL n A o).length=o.length
 | [],A=>rfl
 | u::o,A=>by simp only [setL,List.length_cons]; rw [Qee o]
theorem Ql6 {n:Nat}:∀(o:List Nat) (A:Gr),∀s∈setL n A o,s < 2^n
 | [],A,s,h=>by cases h
 | u::o,A,s,h=>by
  simp only [setL,List.mem_cons] at h
  rcases h with h | h
  ·rw [h]; exact Yf n _
  ·exact Ql6 o _ s h
theorem Qfw {l:List Nat} {s:Nat}:Z9 (l++[s])=Qdj (Z9 l) s:=by unfold Z9; rw [List.foldl_append]; rfl
theorem Qkd:∀(l acc:List Nat),(l.foldl Qdj acc).length≤acc.length+l.length∧∀s∈l.foldl Qdj acc,s∈acc∨s∈l
 | [],acc=>⟨by simp,fun s h=>.inl h⟩
 | x::l,acc=>by
  obtain ⟨h1,h2⟩:=Qkd l (Qdj acc x)
  have h3:(Qdj acc x).length≤acc.length+1∧∀s∈Qdj acc x,s∈acc∨s=x:=by
   unfold Qdj; split
   ·exact ⟨by omega,fun s h=>.inl h⟩
   ·exact ⟨by simp,fun s h=>by
     rcases List.mem_append.1 h with h | h
     ·exact .inl h
     ·simp at h; exact .inr h⟩
  refine ⟨by simp only [List.foldl_cons,List.length_cons]; omega,fun s hs=>?_⟩
  rcases h2 s hs with h | h
  ·rcases h3.2 s h with h | h
   ·exact .inl h
   ·exact .inr (by simp [h])
  ·exact .inr (List.mem_cons_of_mem _ h)
theorem Qkm {l:List Nat} {s:Nat} (h:s∈Z9 l):s∈l:=by
 rcases (Qkd l []).2 s h with h | h
 ·cases h
 ·exact h
theorem Qj9 {l:List Nat}:(Z9 l).length≤l.length:=by have:=(Qkd l []).1; unfold Z9; simpa using this
theorem Qgk {a b:Nat} (ha:a < 18446744073709551616) (hb:b < 18446744073709551616) :
  ((zv (zb (a:Int) &&& ~~~ zb (b:Int)).toNat == 0)=true)↔Xi a b=true:=by rw [Qol ha hb,Qd2]; rfl
theorem Qv5 {n k:Nat} {A N:Gr} {o:List Nat} (hn:n≤8) (hG:Qgc n A) (hk:k < o.length) (hl:∀v∈o,v < n) (hnd:o.Nodup) (hN:∀u w,u < n→w < n→u ∉ o.take k→w ∉ o.take k→N u w=seqA A (o.take k) u w) :
  zv (zb (zv (zb ((msk n (N o[k]):Nat):Int) &&& zb ((msk 64 (fun i=>!(o.take k).contains i):Nat):Int)).toNat) ||| zb (zv (1*2^min (Int.toNat ((o[k]:Nat):Int)) (IntKind.bits .u64)))).toNat = ((msk n (setP (seqA A (o.take k)) o[k]):Nat):Int):=by
 have hv:=hl _ (List.getElem_mem hk)
 have hnot:=Qd3 hnd hk
 rw [Q3h (n:=n) (q:=fun i=>!(o.take k).contains i) (by omega) (Yf n _) (Yf 64 _) Qb4 (fun i hi=>by rw [Qd4]; simp; omega),Qf0 (by omega) hv]
 congr 1
 refine Kc fun i hi=>?_
 unfold setP
 by_cases c:i∈o.take k
 ·have:=Qms (o:=o.take k) hG (.inl c) o[k]
  rw [(Qki (o:=o.take k) hG).sym,this]
  simp [c]
 ·rw [hN _ _ hv hi hnot c]
  simp [c]
theorem Qp6 {n:Nat} {A B N:Gr} {v:Nat} {done:Nat → Prop} (hB:∀u w,u < n→w < n→¬ done u→¬ done w→N u w=B u w):∀u w,u < n→w < n→¬ (done u∨u=v)→¬ (done w∨w=v)→(N u w || (setP B v u && (setP B v w && !decide (u=w))))=elim B v u w:=fun u w hu hw h1 h2=>by
 have e:=hB u w hu hw (fun h=>h1 (.inl h)) (fun h=>h2 (.inl h))
 have e1:¬ u=v:=fun h=>h1 (.inr h)
 have e2:¬ w=v:=fun h=>h2 (.inr h)
 unfold setP elim
 rw [e]
 have e1':¬ v=u:=fun h=>e1 h.symm
 have e2':¬ v=w:=fun h=>e2 h.symm
 simp [e1,e2,e1',e2',Bool.and_assoc]
theorem Qvz {n:Nat} {A:Gr} {o:List Nat} (h1:1≤n) (hn:n≤8) (hG:Qgc n A) (hl:∀v∈o,v < n) (hnd:o.Nodup):Je ⟨⟨gl n A⟩,nI o⟩=some (nI (Z9 (setL n A o))):=by
 have hol:=Kv o (List.range n) hnd fun v hv=>List.mem_range.2 (hl v hv)
 rw [List.length_range] at hol
 have p8:(2:Nat)^n≤256:=Nat.pow_le_pow_right (n:=2) (by omega) hn
 have step:∀(k:Nat) (N:Gr) (hk:k < o.length),(∀u w,u < n→w < n→u ∉ o.take k→w ∉ o.take k→N u w=seqA A (o.take k) u w) →
   X9 ⟨⟨gl n A⟩,nI o⟩ (((msk 64 (fun i=>!(o.take k).contains i):Nat):Int),(k:Int),nI (Z9 (setL n A (o.take k))),gl n N) =
   some (.next (((msk 64 (fun i=>!(o.take (k+1)).contains i):Nat):Int),zw ((k:Int)+1),nI (Z9 (setL n A (o.take (k+1)))),gl n fun u w=>N u w || (setP (seqA A (o.take k)) o[k] u && (setP (seqA A (o.take k)) o[k] w && !decide (u=w))))):=fun k N hk hN=>by
  have hv:=hl _ (List.getElem_mem hk)
  have hnot:=Qd3 hnd hk
  have hw:=Qv5 hn hG hk hl hnd hN
  have hs:msk n (setP (seqA A (o.take k)) o[k]) < 2^n:=Yf n _
  have hacc:∀s∈Z9 (setL n A (o.take k)),s < 2^n:=fun s h=>Ql6 _ _ s (Qkm h)
  have hal:(Z9 (setL n A (o.take k))).length≤8:=by
   have h1:=Qj9 (l:=setL n A (o.take k)); rw [Qee,List.length_take] at h1; omega
  have et:setL n A (o.take (k+1))=setL n A (o.take k)++[msk n (setP (seqA A (o.take k)) o[k])]:=by rw [Qr hk,Qkk]
  have eleft:zv (zb ((msk 64 (fun i=>!(o.take k).contains i):Nat):Int) &&& ~~~ zb (zv (1*2^min (Int.toNat ((o[k]:Nat):Int)) (IntKind.bits .u64)))).toNat = ((msk 64 (fun i=>!(o.take (k+1)).contains i):Nat):Int):=by
   rw [Qyg (by omega),Qsp (n:=64) (Nat.le_refl _) (Yf 64 _) (Qz2 (by omega)) Qb4 fun i _=>Qpp _ i]
   congr 1
   refine Kc fun i _=>?_
   rw [Qr hk,List.contains_append]
   by_cases e:i=o[k]
   ·subst e; simp
   ·have e':¬ o[k]=i:=fun h=>e h.symm
    simp [e,e']
  have near:∀(X Y:List Int),Qa fuel (Xh (((msk 64 (fun i=>!(o.take k).contains i):Nat):Int),(k:Int),X,gl n N) ((msk n (N o[k]):Nat):Int) ((o[k]:Nat):Int)) ((0:Int),gl n N)=some (gl n fun u w=>N u w || (setP (seqA A (o.take k)) o[k] u && (setP (seqA A (o.take k)) o[k] w && !decide (u=w)))):=fun X Y=>by
   have h:=Zp (n:=n) (k0:=0) (by omega) (by omega) (fun i (t:List Int)=>(i,t)) (body:=Xh (((msk 64 (fun i=>!(o.take k).contains i):Nat):Int),(k:Int),X,gl n N) ((msk n (N o[k]):Nat):Int) ((o[k]:Nat):Int))
    (fun j=>gl n fun u w=>N u w || (decide (u < j) && (setP (seqA A (o.take k)) o[k] u && (setP (seqA A (o.take k)) o[k] w && !decide (u=w))))) (gl n fun u w=>N u w || (setP (seqA A (o.take k)) o[k] u && (setP (seqA A (o.take k)) o[k] w && !decide (u=w))))
    (fun j _ hj=>by
     unfold Xh
     dsimp only
     rw [Zr,if_pos (dlt hj),if_pos (Xr j),hw,Qji (by omega) (by omega),Qb4 j hj]
     by_cases c:setP (seqA A (o.take k)) o[k] j=true
     ·rw [c,if_pos (by decide),Qap hj,Option.bind_some,if_pos (Xr j),Qz9 (by omega) (by omega),Qzd (n:=n) (by omega) (Yf n _) (Yf n _) Qb4 Qb4,Qik]
      congr 3
      refine gl_congr fun u w hu hw=>?_
      simp only [upd]
      grind
     ·rw [Bool.not_eq_true] at c
      rw [c,if_neg (by decide)]
      congr 3
      refine gl_congr fun u w hu hw=>?_
      grind)
    (by
     unfold Xh
     dsimp only
     rw [Zr,if_neg (nlt n)]
     congr 2
     refine gl_congr fun u w hu hw=>?_
     simp [hu])
   have e0:(gl n fun u w=>N u w || (decide (u < 0) && (setP (seqA A (o.take k)) o[k] u && (setP (seqA A (o.take k)) o[k] w && !decide (u=w)))))=gl n N:=gl_congr fun u w _ _=>by simp
   simp only [e0] at h
   exact h
  have part:∀(Y:List Int),(((Z9 (setL n A (o.take k))).any (Xi (msk n (setP (seqA A (o.take k)) o[k])))=true∧Qa fuel (Zw (((msk 64 (fun i=>!(o.take k).contains i):Nat):Int),(k:Int),nI (Z9 (setL n A (o.take k))),Y) ((msk n (N o[k]):Nat):Int) ((o[k]:Nat):Int)) 0=some (.inl ()))∨((Z9 (setL n A (o.take k))).any (Xi (msk n (setP (seqA A (o.take k)) o[k])))=false∧Qa fuel (Zw (((msk 64 (fun i=>!(o.take k).contains i):Nat):Int),(k:Int),nI (Z9 (setL n A (o.take k))),Y) ((msk n (N o[k]):Nat):Int) ((o[k]:Nat):Int)) 0=some (.inr ()))):=fun Y=>by
   generalize Z9 (setL n A (o.take k))=acc at hacc hal
   have h:=Yb (n:=acc.length) (by omega) (fun j=>∀s,acc[j]?=some s→Xi (msk n (setP (seqA A (o.take k)) o[k])) s=false) (fun i (t:Unit)=>i) (body:=Zw (((msk 64 (fun i=>!(o.take k).contains i):Nat):Int),(k:Int),nI acc,Y) ((msk n (N o[k]):Nat):Int) ((o[k]:Nat):Int)) (fun _=>()) (.inr ()) (.inl ())
    (fun j hj hI hg=>by
     have hsj:=hacc _ (List.getElem_mem hj)
     have:=hg _ (List.getElem?_eq_getElem hj)
     unfold Zw
     dsimp only
     rw [Qn,if_pos (dlt hj),Vz hj,Option.bind_some,hw,if_neg (by rw [Qgk (by omega) (by omega),this]; decide)])
    (fun j hj hI hg=>by
     have hsj:=hacc _ (List.getElem_mem hj)
     unfold Zw
     dsimp only
     rw [Qn,if_pos (dlt hj),Vz hj,Option.bind_some,hw,if_pos (by
      rw [Qgk (by omega) (by omega)]
      rw [←Bool.not_eq_false]
      exact fun h=>hg fun s hs=>by rw [List.getElem?_eq_getElem hj] at hs; cases hs; exact h)])
    (fun hI=>by unfold Zw; dsimp only; rw [Qn,if_neg (nlt _)])
   have hiff:(∀j,j < acc.length→∀s,acc[j]?=some s→Xi (msk n (setP (seqA A (o.take k)) o[k])) s=false)↔acc.any (Xi (msk n (setP (seqA A (o.take k)) o[k])))=false:=by
    rw [List.any_eq_false]
    constructor
    ·intro h s hs
     obtain ⟨j,hj,rfl⟩:=List.mem_iff_getElem.1 hs
     rw [h j hj _ (List.getElem?_eq_getElem hj)]; decide
    ·intro h j hj s hs
     have:=h s (List.mem_of_getElem? hs)
     simpa using this
   rw [hiff] at h
   rcases h with ⟨a,b⟩ | ⟨a,b⟩
   ·exact .inr ⟨a,b⟩
   ·exact .inl ⟨by simpa using a,b⟩
  unfold X9
  dsimp only
  rw [Qn,if_pos (dlt hk),Vz hk,Option.bind_some,Qap hv,Option.bind_some,if_pos (Xr _)]
  rcases part (gl n N) with ⟨a,b⟩ | ⟨a,b⟩
  ·rw [b,Option.bind_some]
   dsimp only
   rw [if_pos (Xr _),near _ [],Option.bind_some,eleft,et,Qfw]
   unfold Qdj
   rw [if_pos a]
  ·rw [b,Option.bind_some]
   dsimp only
   rw [if_pos (by rw [List.length_append,Qn]; simp; omega),if_pos (Xr _),show @Qby=@Xh from rfl,near _ [],Option.bind_some,eleft,et,Qfw,hw]
   unfold Qdj
   rw [if_neg (by rw [a]; decide)]
   congr 4
   unfold nI; simp
 have h:=Kk (n:=o.length) (k0:=0) (by omega) (by omega) (fun i (t:Int × List Int × List Int)=>(t.1,i,t.2.1,t.2.2)) (body:=X9 ⟨⟨gl n A⟩,nI o⟩)
  (fun k t=>∃N:Gr,t=(((msk 64 (fun i=>!(o.take k).contains i):Nat):Int),nI (Z9 (setL n A (o.take k))),gl n N)∧∀u w,u < n→w < n→u ∉ o.take k→w ∉ o.take k→N u w=seqA A (o.take k) u w) (fun r=>r=nI (Z9 (setL n A o)))
  (fun k t _ hk hI=>by
   obtain ⟨N,rfl,hN⟩:=hI
   left
   refine ⟨_,step k N hk hN,_,rfl,fun u w hu hw h3 h4=>?_⟩
   rw [Qr hk,List.mem_append,List.mem_singleton] at h3 h4
   rw [Qr hk,Qp8]
   exact Qp6 (A:=A) (done:=fun x=>x∈o.take k) hN u w hu hw h3 h4)
  (fun t hI=>by
   obtain ⟨N,rfl,hN⟩:=hI
   refine ⟨_,?_,rfl⟩
   unfold X9
   dsimp only
   rw [Qn,if_neg (nlt _),List.take_length]) (((msk 64 (fun i=>!(o.take 0).contains i):Nat):Int),nI (Z9 (setL n A (o.take 0))),gl n A) ⟨A,rfl,fun u w _ _ _ _=>rfl⟩
 obtain ⟨r,e1,rfl⟩:=h
 have e0:((msk 64 (fun i=>!(o.take 0).contains i):Nat):Int)=18446744073709551615:=by
  rw [Kc (q:=fun _=>true) fun i _=>by simp,Q08]; decide
 simp only [e0] at e1
 rw [show ((0:Nat):Int)=0 from rfl] at e1
 unfold Je
 dsimp only
 rw [Q0k (by rw [Zr]; omega),Option.bind_some]
 rw [show nI (Z9 (setL n A (o.take 0)))=[] from rfl] at e1
 rw [e1]; rfl
end Go.Ab
namespace Go.Ab
open Go
set_option maxRecDepth 100000
set_option maxHeartbeats 400000
theorem Qzu {n:Nat} {A:Gr} {o:List Nat} (h1:1≤n) (hn:n≤8) (hG:Qgc n A) (hl:∀v∈o,v < n) (hnd:o.Nodup):Qa fuel (Vw (nI o)) ((0:Int),(0:Int),gl n A,([]:List Int))=some (nI (setL n A o)):=by
 have hol:=Kv o (List.range n) hnd fun v hv=>List.mem_range.2 (hl v hv)
 rw [List.length_range] at hol
 have p8:(2:Nat)^n≤256:=Nat.pow_le_pow_right (n:=2) (by omega) hn
 have step:∀(k:Nat) (N:Gr) (hk:k < o.length),(∀u w,u < n→w < n→u ∉ o.take k→w ∉ o.take k→N u w=seqA A (o.take k) u w) →
   Vw (nI o) (((msk n (fun i=>(o.take k).contains i):Nat):Int),(k:Int),gl n N,nI (setL n A (o.take k))) =
   some (.next (((msk n (fun i=>(o.take (k+1)).contains i):Nat):Int),zw ((k:Int)+1),gl n (fun u w=>N u w || (seqA A (o.take k) o[k] u && (seqA A (o.take k) o[k] w && !decide (u=w)))),nI (setL n A (o.take (k+1))))):=fun k N hk hN=>by
  have hv:=hl _ (List.getElem_mem hk)
  have hnot:=Qd3 hnd hk
  have har:zv (zb ((msk n (N o[k]):Nat):Int) &&& ~~~ zb ((msk n (fun i=>(o.take k).contains i):Nat):Int)).toNat = ((msk n (seqA A (o.take k) o[k]):Nat):Int):=by
   rw [Qsp (n:=n) (by omega) (Yf n _) (by have:=Yf n (fun i=>(o.take k).contains i); omega) Qb4 Qb4]
   congr 1
   refine Kc fun i hi=>?_
   by_cases c:i∈o.take k
   ·have:=Qms (o:=o.take k) hG (.inl c) o[k]
    rw [(Qki (o:=o.take k) hG).sym,this]
    simp [c]
   ·rw [hN _ _ hv hi hnot c]
    simp [c]
  have inner:∀(X:List Int) (a:Nat),a < n→Qa fuel (J8 ((a:Int),X) ((msk n (N o[k]):Nat):Int) (((msk n (fun i=>(o.take k).contains i):Nat):Int),(k:Int),gl n N,nI (setL n A (o.take k)))) ((0:Int),gl n fun u w=>N u w || (decide (u < a) && (seqA A (o.take k) o[k] u && (seqA A (o.take k) o[k] w && !decide (u=w))))) =
    some (gl n fun u w=>N u w || (decide (u < a+1) && (seqA A (o.take k) o[k] u && (seqA A (o.take k) o[k] w && !decide (u=w))))):=fun X a ha=>by
   generalize seqA A (o.take k) o[k]=P at har
   have h:=Zp (n:=n) (k0:=0) (by omega) (by omega) (fun i (t:List Int)=>(i,t)) (body:=J8 ((a:Int),X) ((msk n (N o[k]):Nat):Int) (((msk n (fun i=>(o.take k).contains i):Nat):Int),(k:Int),gl n N,nI (setL n A (o.take k))))
    (fun b=>gl n fun u w=>N u w || ((decide (u < a) || (decide (u=a) && decide (w < b))) && (P u && (P w && !decide (u=w))))) (gl n fun u w=>N u w || (decide (u < a+1) && (P u && (P w && !decide (u=w)))))
    (fun b _ hb=>by
     have skip:(P a && (P b && !decide (a=b)))=false→(gl n fun u w=>N u w || ((decide (u < a) || (decide (u=a) && decide (w < b))) && (P u && (P w && !decide (u=w)))))=gl n fun u w=>N u w || ((decide (u < a) || (decide (u=a) && decide (w < b+1))) && (P u && (P w && !decide (u=w)))):=fun hm=>gl_congr fun u w hu hw=>by
      by_cases e:u=a
      ·subst e
       by_cases e2:w=b
       ·subst e2; rw [hm]; simp
       ·have:(w < b+1)↔w < b:=by omega
        simp [this]
      ·simp [e]
     unfold J8
     dsimp only
     rw [Zr,if_pos (dlt hb)]
     by_cases c1:a=b
     ·subst c1
      rw [if_neg (by simp),skip (by simp)]
     ·rw [if_pos (by simp; omega),har,Qe8 (by omega) ha,Option.bind_some]
      by_cases c2:P a=true
      ·rw [if_pos c2,Qe8 (by omega) hb,Option.bind_some]
       by_cases c3:P b=true
       ·rw [if_pos c3,Qap ha,Option.bind_some,Yd (n:=b) (by omega),if_pos (Xr b),Qf0 (by omega) hb,Qik]
        congr 3
        refine gl_congr fun u w hu hw=>?_
        simp only [upd]
        by_cases e:u=a
        ·subst e
         rw [if_pos rfl]
         by_cases e2:b=w
         ·subst e2; simp [c2,c3,c1]
         ·have:(w < b+1)↔w < b:=by omega
          simp [e2,this]
        ·rw [if_neg e]; simp [e]
       ·rw [if_neg c3,skip (by simp [c3])]
      ·rw [if_neg c2,skip (by simp [c2])])
    (by
     unfold J8
     dsimp only
     rw [Zr,if_neg (nlt n)]
     congr 2
     refine gl_congr fun u w hu hw=>?_
     have:(u < a+1)↔(u < a∨u=a):=by omega
     simp [hw,this])
   have e0:(gl n fun u w=>N u w || ((decide (u < a) || (decide (u=a) && decide (w < 0))) && (P u && (P w && !decide (u=w)))))=gl n fun u w=>N u w || (decide (u < a) && (P u && (P w && !decide (u=w)))):=gl_congr fun u w _ _=>by simp
   simp only [e0] at h
   exact h
  have outer:Qa fuel (J2 ((msk n (N o[k]):Nat):Int) (((msk n (fun i=>(o.take k).contains i):Nat):Int),(k:Int),gl n N,nI (setL n A (o.take k)))) ((0:Int),gl n N)=some (gl n fun u w=>N u w || (seqA A (o.take k) o[k] u && (seqA A (o.take k) o[k] w && !decide (u=w)))):=by
   have h:=Zp (n:=n) (k0:=0) (by omega) (by omega) (fun i (t:List Int)=>(i,t)) (body:=J2 ((msk n (N o[k]):Nat):Int) (((msk n (fun i=>(o.take k).contains i):Nat):Int),(k:Int),gl n N,nI (setL n A (o.take k))))
    (fun a=>gl n fun u w=>N u w || (decide (u < a) && (seqA A (o.take k) o[k] u && (seqA A (o.take k) o[k] w && !decide (u=w))))) (gl n fun u w=>N u w || (seqA A (o.take k) o[k] u && (seqA A (o.take k) o[k] w && !decide (u=w))))
    (fun a _ ha=>by
     unfold J2
     dsimp only
     rw [Zr,if_pos (dlt ha),inner _ a ha]; rfl)
    (by
     unfold J2
     dsimp only
     rw [Zr,if_neg (nlt n)]
     congr 2
     refine gl_congr fun u w hu hw=>?_
     simp [hu])
   have e0:(gl n fun u w=>N u w || (decide (u < 0) && (seqA A (o.take k) o[k] u && (seqA A (o.take k) o[k] w && !decide (u=w)))))=gl n N:=gl_congr fun u w _ _=>by simp
   simp only [e0] at h
   exact h
  unfold Vw
  dsimp only
  rw [Qn,if_pos (dlt hk),Vz hk,Option.bind_some,Qap hv,Option.bind_some,Yd (n:=o[k]) (by omega),if_pos (Xr _),if_pos (by rw [List.length_append,Qn,Qee,List.length_take]; simp; omega),outer,Option.bind_some,if_pos (Xr _),har,Qf0 (by omega) hv,Qf0 (by omega) hv]
  congr 2
  refine Prod.ext ?_ (Prod.ext rfl (Prod.ext rfl ?_))
  ·dsimp only
   congr 1
   refine Kc fun i _=>?_
   rw [Qr hk,List.contains_append]
   by_cases e:i=o[k]
   ·subst e; simp
   ·have e':¬ o[k]=i:=fun h=>e h.symm
    simp [e,e']
  ·dsimp only
   rw [Qr hk,Qkk]
   unfold nI setP; simp
 have h:=Kk (n:=o.length) (k0:=0) (by omega) (by omega) (fun i (t:Int × List Int × List Int)=>(t.1,i,t.2.1,t.2.2)) (body:=Vw (nI o))
  (fun k t=>∃N:Gr,t=(((msk n (fun i=>(o.take k).contains i):Nat):Int),gl n N,nI (setL n A (o.take k)))∧∀u w,u < n→w < n→u ∉ o.take k→w ∉ o.take k→N u w=seqA A (o.take k) u w) (fun r=>r=nI (setL n A o))
  (fun k t _ hk hI=>by
   obtain ⟨N,rfl,hN⟩:=hI
   left
   refine ⟨_,step k N hk hN,_,rfl,fun u w hu hw h3 h4=>?_⟩
   rw [Qr hk,List.mem_append,List.mem_singleton] at h3 h4
   rw [Qr hk,Qp8]
   rw [←Qp6 (A:=A) (done:=fun x=>x∈o.take k) hN u w hu hw h3 h4]
   unfold setP
   have e1:¬ o[k]=u:=fun h=>h3 (.inr h.symm)
   have e2:¬ o[k]=w:=fun h=>h4 (.inr h.symm)
   simp [e1,e2])
  (fun t hI=>by
   obtain ⟨N,rfl,hN⟩:=hI
   refine ⟨_,?_,rfl⟩
   unfold Vw
   dsimp only
   rw [Qn,if_neg (nlt _),List.take_length]) (((msk n (fun i=>(o.take 0).contains i):Nat):Int),gl n A,nI (setL n A (o.take 0))) ⟨A,rfl,fun u w _ _ _ _=>rfl⟩
 obtain ⟨r,e1,rfl⟩:=h
 have e0:((msk n (fun i=>(o.take 0).contains i):Nat):Int)=0:=by
  rw [Kc (q:=fun _=>false) fun i _=>by simp]
  have:msk n (fun _=>false)=0:=(Qav (by have:=Nat.two_pow_pos n; omega) fun i _=>by simp).symm
  rw [this]; rfl
 simp only [e0] at e1
 rw [show ((0:Nat):Int)=0 from rfl] at e1
 rw [show nI (setL n A (o.take 0))=[] from rfl] at e1
 exact e1
theorem Qn9 {a b c:Nat} (h:Xi a b=true) (k:Xi b c=true):Xi a c=true:=Qd2.2 ((Qd2.1 h).trans (Qd2.1 k))
theorem Qxb {a:Nat}:Xi a a=true:=Qd2.2 .refl
theorem Qi3 {l:List Nat}:∀k,k≤l.length→∀s∈l.take k,∃e∈Z9 (l.take k),Xi s e=true:=by
 intro k
 induction k with
 | zero=>intro _ s h; simp at h
 | succ k ih =>
  intro hk s hs
  rw [Qr (by omega)] at hs ⊢
  rw [Qfw]
  have up:∀e∈Z9 (l.take k),e∈Qdj (Z9 (l.take k)) l[k]:=fun e he=>by
   unfold Qdj; split
   ·exact he
   ·exact List.mem_append_left _ he
  rcases List.mem_append.1 hs with h | h
  ·obtain ⟨e,h1,h2⟩:=ih (by omega) s h
   exact ⟨e,up e h1,h2⟩
  ·simp only [List.mem_singleton] at h
   subst h
   unfold Qdj
   by_cases c:(Z9 (l.take k)).any (Xi l[k])=true
   ·rw [if_pos c]
    obtain ⟨e,h1,h2⟩:=List.any_eq_true.1 c
    exact ⟨e,h1,h2⟩
   ·rw [if_neg c]
    exact ⟨l[k],by simp,Qxb⟩
theorem Qyn {l:List Nat} (hl:l.length≤1000) (h:∀s∈l,s < 18446744073709551616):Qa fuel (Jx (nI l)) ((0:Int),([]:List Int))=some (nI (Z9 l)):=by
 have inner:∀(i:Nat) (hi:i < l.length) (Y:List Int),Qa fuel (J9 ((i:Int),Y) (nI l)) (false,(0:Int))=some ((Z9 (l.take i)).any (Xi l[i])):=fun i hi Y=>by
  have e1:(Z9 (l.take i)).any (Xi l[i])=(l.take i).any (Xi l[i]):=by
   rw [Bool.eq_iff_iff,List.any_eq_true,List.any_eq_true]
   constructor
   ·rintro ⟨e,h1,h2⟩; exact ⟨e,Qkm h1,h2⟩
   ·rintro ⟨e,h1,h2⟩
    obtain ⟨f,h3,h4⟩:=Qi3 i (by omega) e h1
    exact ⟨f,h3,Qn9 h2 h4⟩
  rw [e1]
  have hr:=Zp (n:=i) (k0:=0) (by omega) (by omega) (fun j (t:Bool)=>(t,j)) (body:=J9 ((i:Int),Y) (nI l)) (fun j=>(l.take j).any (Xi l[i])) ((l.take i).any (Xi l[i]))
   (fun j _ hj=>by
    have e2:(l.take (j+1)).any (Xi l[i])=((l.take j).any (Xi l[i]) || Xi l[i] l[j]):=by rw [Qr (by omega),List.any_append]; simp
    unfold J9
    dsimp only
    rw [if_pos (dlt hj)]
    by_cases c:(l.take j).any (Xi l[i])=true
    ·rw [if_pos c,e2,c]; rfl
    ·rw [if_neg c,Vz hi,Option.bind_some,Vz (by omega),Option.bind_some,e2]
     have hc:(l.take j).any (Xi l[i])=false:=by simpa using c
     rw [hc,Bool.false_or]
     have hw:=Qgk (h _ (List.getElem_mem hi)) (h _ (List.getElem_mem (show j < l.length by omega)))
     congr 4
     rw [Bool.eq_iff_iff]
     exact hw)
   (by unfold J9; dsimp only; rw [if_neg (nlt i)])
  exact hr
 have hr:=Zp (n:=l.length) (k0:=0) (by omega) (by omega) (fun i (t:List Int)=>(i,t)) (body:=Jx (nI l)) (fun k=>nI (Z9 (l.take k))) (nI (Z9 l))
  (fun k _ hk=>by
   unfold Jx
   dsimp only
   rw [Qn,if_pos (dlt hk),inner k hk,Option.bind_some,Qr hk,Qfw]
   unfold Qdj
   by_cases c:(Z9 (l.take k)).any (Xi l[k])=true
   ·rw [if_neg (by rw [c]; decide),if_pos c]
   ·rw [Bool.not_eq_true] at c
    rw [if_pos (by rw [c]; decide),if_neg (by rw [c]; decide),Vz hk,Option.bind_some,if_pos (by
     have h1:=Qj9 (l:=l.take k)
     rw [List.length_take] at h1
     rw [List.length_append,Qn]; simp; omega)]
    congr 3
    unfold nI; simp)
  (by unfold Jx; dsimp only; rw [Qn,if_neg (nlt _),List.take_length])
 exact hr
end Go.Ab
namespace Go.Ab
open Go
set_option maxRecDepth 100000
set_option maxHeartbeats 400000
theorem Qo1 {α:Type} {j:Nat}:∀(m l:List α) (i:Nat),(ovr l i m)[j]?=if i≤j∧j < i+m.length∧j < l.length then m[j - i]? else l[j]?
 | [],l,i=>by
  simp only [ovr,List.length_nil]
  rw [if_neg (by omega)]
 | y::ys,l,i=>by
  simp only [ovr,List.length_cons]
  rw [Qo1 ys (l.set i y) (i+1),List.length_set]
  by_cases c:i+1≤j∧j < i+1+ys.length∧j < l.length
  ·rw [if_pos c,if_pos (by omega),show j - i=(j - (i+1))+1 by omega,List.getElem?_cons_succ]
  ·rw [if_neg c]
   by_cases e:i=j
   ·subst e
    rw [List.getElem?_set]
    simp only [if_true]
    by_cases c2:i < l.length
    ·rw [if_pos c2,if_pos (by omega),Nat.sub_self]; rfl
    ·rw [if_neg c2,if_neg (by omega),List.getElem?_eq_none (by omega)]
   ·rw [List.getElem?_set,if_neg e,if_neg (by omega)]
theorem Q2n {α:Type} {l:List α} {i:Nat} {z:α} (hi:i < l.length):List.take (i+(l.drop (i+1)).length) (ovr (ovr l i (l.drop (i+1))) (i+(l.drop (i+1)).length) (List.replicate (l.length - (i+(l.drop (i+1)).length)) z))=l.eraseIdx i:=by
 have hm:(l.drop (i+1)).length=l.length - (i+1):=List.length_drop
 apply List.ext_getElem?
 intro j
 rw [List.getElem?_take,Qo1,Qo1,List.getElem?_eraseIdx,hm,List.length_replicate,←Jw]
 by_cases c:j < i
 ·rw [if_pos (by omega),if_neg (by omega),if_neg (by omega),if_pos c]
 ·by_cases c2:j < i+(l.length - (i+1))
  ·rw [if_pos c2,if_neg (by omega),if_pos (by omega),if_neg c,List.getElem?_drop,show i+1+(j - i)=j+1 by omega]
  ·rw [if_neg c2,if_neg c,List.getElem?_eq_none (by omega)]
def pc (n a:Nat):Nat := cnt n a.testBit
theorem Q0g {n a:Nat} (hn:n≤10) (ha:a < 2^n):Zt (a:Int)=some (pc n a:Int):=by
 have:a=msk n a.testBit:=Qav ha fun _ _=>rfl
 conv=>lhs; rw [this]
 exact Q2f hn _
theorem Qrl {a b:Nat} (ha:a < 18446744073709551616) (hb:b < 18446744073709551616):zv (zb (a:Int) &&& zb (b:Int)).toNat = ((a &&& b:Nat):Int):=by
 have hl:a &&& b≤a:=Nat.and_le_left
 rw [BitVec.toNat_and,Jk ha,Jk hb,Yd (by omega)]
theorem Qrn {n a b:Nat} (ha:a < 2^n):a &&& b < 2^n:=Nat.lt_of_le_of_lt Nat.and_le_left ha
def com (n:Nat) (cl:List Nat) (s:Nat):Nat := cl.foldl (fun m c=>max m (pc n (c &&& s))) 0
theorem Qct {n:Nat} {cl:List Nat} {c s:Nat}:com n (cl++[c]) s=max (com n cl s) (pc n (c &&& s)):=by unfold com; rw [List.foldl_append]; rfl
theorem Q0o {n:Nat} {cl:List Nat} {s:Nat} (hn:n≤8) (hc:∀c∈cl,c < 2^n) (hs:s < 2^n) (hl:cl.length≤1000):Qei (nI cl) (s:Int)=some (com n cl s:Int):=by
 have p8:(2:Nat)^n≤256:=Nat.pow_le_pow_right (n:=2) (by omega) hn
 have h:=Zp (n:=cl.length) (k0:=0) (by omega) (by omega) (fun i (t:Int)=>(t,i)) (body:=Qbv (nI cl) (s:Int)) (fun k=>(com n (cl.take k) s:Int)) (com n cl s:Int)
  (fun k _ hk=>by
   have h1:=hc _ (List.getElem_mem hk)
   unfold Qbv
   dsimp only
   rw [Qn,if_pos (dlt hk),Vz hk,Option.bind_some,Qrl (by omega) (by omega),Q0g (by omega) (Qrn h1),Option.bind_some,Q3r,Qr hk,Qct])
  (by unfold Qbv; dsimp only; rw [Qn,if_neg (nlt _),List.take_length])
 unfold Qei
 rw [show ((0:Nat):Int)=0 from rfl,List.take_zero] at h
 rw [show (com n [] s:Int)=0 from rfl] at h
 rw [h]; rfl
theorem Q2j {n:Nat} {s:Nat}:∀(cl:List Nat) (k:Nat) (hk:k < cl.length),pc n (cl[k] &&& s)≤com n cl s:=by
 intro cl
 have key:∀j,j≤cl.length→∀k (hk:k < cl.length),k < j→pc n (cl[k] &&& s)≤com n (cl.take j) s:=by
  intro j
  induction j with
  | zero=>intro _ k _ h; omega
  | succ j ih =>
   intro hj k hk hkj
   rw [Qr (by omega),Qct]
   by_cases e:k=j
   ·subst e; omega
   ·have:=ih (by omega) k hk (by omega); omega
 intro k hk
 have:=key cl.length (Nat.le_refl _) k hk hk
 rwa [List.take_length] at this
theorem Q2h {n:Nat} {s:Nat} {cl:List Nat} (hc:0 < cl.length):∃k,∃hk:k < cl.length,pc n (cl[k] &&& s)=com n cl s:=by
 have key:∀j,j < cl.length→∃k,∃hk:k < cl.length,k≤j∧pc n (cl[k] &&& s)=com n (cl.take (j+1)) s:=by
  intro j
  induction j with
  | zero =>
   intro hj
   refine ⟨0,hj,Nat.le_refl _,?_⟩
   rw [Qr hj,Qct,List.take_zero]
   show _=max 0 _
   omega
  | succ j ih =>
   intro hj
   obtain ⟨k,hk,hkj,e⟩:=ih (by omega)
   rw [Qr hj,Qct,←e]
   by_cases c:pc n (cl[k] &&& s)≤pc n (cl[j+1] &&& s)
   ·exact ⟨j+1,hj,Nat.le_refl _,by omega⟩
   ·exact ⟨k,hk,by omega,by omega⟩
 obtain ⟨k,hk,_,e⟩:=key (cl.length - 1) (by omega)
 rw [show cl.length - 1+1=cl.length by omega,List.take_length] at e
 exact ⟨k,hk,e⟩
def Yy (n:Nat) (cl left:List Nat):Nat → Nat × Int
 | 0=>(0,-1)
 | k+1=>if (Yy n cl left k).2≤(com n cl (left.getD k 0):Int) then (k,(com n cl (left.getD k 0):Int)) else Yy n cl left k
def pickI (n:Nat) (cl left:List Nat):Nat := (Yy n cl left left.length).1
theorem Qm5 {n:Nat} {cl left:List Nat}:∀k,(Yy n cl left k).1 < k+1∧(0 < k→(Yy n cl left k).1 < k∧(Yy n cl left k).2=(com n cl (left.getD (Yy n cl left k).1 0):Int))
 | 0=>⟨by simp [Yy],fun h=>by omega⟩
 | k+1=>by
  obtain ⟨h1,h2⟩:=Qm5 (n:=n) (cl:=cl) (left:=left) k
  simp only [Yy]
  split
  ·exact ⟨by simp only; omega,fun _=>⟨by simp only; omega,rfl⟩⟩
  ·rename_i hc
   refine ⟨by omega,fun _=>⟨by omega,?_⟩⟩
   by_cases e:k=0
   ·subst e
    exfalso
    apply hc
    simp only [Yy]; omega
   ·exact (h2 (by omega)).2
def upI (n:Nat) (cl:List Nat) (s:Nat):Nat := cl.findIdx fun c=>Nat.beq (pc n (c &&& s)) (com n cl s)
def bld (n:Nat):Nat → List Nat → List Nat → List Nat → List Nat × List Nat
 | 0,_,cl,up=>(cl,up)
 | k+1,left,cl,up=>bld n k (left.eraseIdx (pickI n cl left)) (cl++[left.getD (pickI n cl left) 0]) (up++[upI n cl (left.getD (pickI n cl left) 0)])
theorem Qrd {n:Nat} {cl:List Nat} {s:Nat} (hc:0 < cl.length):upI n cl s < cl.length:=by
 obtain ⟨k,hk,e⟩:=Q2h (n:=n) (s:=s) hc
 unfold upI
 rw [List.findIdx_lt_length]
 exact ⟨_,List.getElem_mem hk,by rw [e]; simp⟩
theorem Q1g {n:Nat} {cl:List Nat} {s:Nat} {x:Int × Int} {X Y:List Int} (hn:n≤8) (hc:∀c∈cl,c < 2^n) (hs:s < 2^n) (hl:cl.length≤1000) (h0:0 < cl.length) (hx:x.2=(com n cl s:Int)) :
  Qa fuel (J1 (X,nI cl,Y) (s:Int) x) 0=some (.inl (upI n cl s:Int)):=by
 have p8:(2:Nat)^n≤256:=Nat.pow_le_pow_right (n:=2) (by omega) hn
 have hu:=Qrd (n:=n) (s:=s) h0
 have hstep:∀k (hk:k < cl.length),J1 (X,nI cl,Y) (s:Int) x (k:Int)=some (if Nat.beq (pc n (cl[k] &&& s)) (com n cl s)=true then .done (.inl (k:Int)) else .next (zw ((k:Int)+1))):=fun k hk=>by
  have h1:=hc _ (List.getElem_mem hk)
  unfold J1
  dsimp only
  rw [Qn,if_pos (dlt hk),Vz hk,Option.bind_some,Qrl (by omega) (by omega),Q0g (by omega) (Qrn h1),Option.bind_some,hx]
  by_cases c:pc n (cl[k] &&& s)=com n cl s
  ·rw [if_pos (by simp [c]),if_pos (by simp [c])]
  ·rw [if_neg (by simp; omega),if_neg (by simpa using c)]
 have h:=Kk (n:=upI n cl s+1) (k0:=0) (by omega) (by omega) (fun i (_:Unit)=>i) (body:=J1 (X,nI cl,Y) (s:Int) x) (fun k _=>k≤upI n cl s) (fun r=>r=.inl (upI n cl s:Int))
  (fun k _ _ hk _=>by
   by_cases e:k=upI n cl s
   ·right
    refine ⟨.inl (k:Int),?_,by rw [e]⟩
    rw [hstep k (by omega),if_pos (by
     have:=List.findIdx_getElem (w:=hu)
     unfold upI at e
     subst e; exact this)]
   ·left
    refine ⟨(),?_,by omega⟩
    rw [hstep k (by omega),if_neg (by
     have:=List.not_of_lt_findIdx (show k < cl.findIdx (fun c=>Nat.beq (pc n (c &&& s)) (com n cl s)) by unfold upI at hk e; omega)
     intro h
     rw [h] at this; cases this)])
  (fun _ hI=>by omega) () (by omega)
 obtain ⟨r,e1,rfl⟩:=h
 exact e1
theorem Qwo {n:Nat} {cl left:List Nat} {Y:List Int} (hn:n≤8) (hc:∀c∈cl,c < 2^n) (hs:∀s∈left,s < 2^n) (hl:cl.length≤1000) (hl2:left.length≤1000) :
  Qa fuel (Jz (nI left,nI cl,Y)) ((0:Int),(0:Int),(-1:Int))=some (((pickI n cl left:Nat):Int),(Yy n cl left left.length).2):=by
 have h:=Zp (n:=left.length) (k0:=0) (by omega) (by omega) (fun i (t:Int × Int)=>(t.1,i,t.2)) (body:=Jz (nI left,nI cl,Y)) (fun k=>(((Yy n cl left k).1:Int),(Yy n cl left k).2)) (((pickI n cl left:Nat):Int),(Yy n cl left left.length).2)
  (fun k _ hk=>by
   have h1:=hs _ (List.getElem_mem hk)
   have e:left.getD k 0=left[k]:=by simp [List.getD,hk]
   unfold Jz
   dsimp only
   rw [Qn,if_pos (dlt hk),Vz hk,Option.bind_some,Q0o hn hc h1 hl,Option.bind_some]
   simp only [Yy,e]
   by_cases c:(Yy n cl left k).2≤(com n cl left[k]:Int)
   ·rw [if_pos (by simpa using c),if_pos c]
   ·rw [if_neg (by simpa using c),if_neg c])
  (by unfold Jz; dsimp only; rw [Qn,if_neg (nlt _)]; rfl)
 exact h
theorem Qqj {a b:List Nat}:nI a++nI b=nI (a++b):=by unfold nI; rw [List.map_append]
theorem Qzk {l:List Nat} {i:Nat}:(nI l).eraseIdx i=nI (l.eraseIdx i):=by unfold nI; rw [List.eraseIdx_eq_take_drop_succ,List.eraseIdx_eq_take_drop_succ,List.map_append,List.map_take,List.map_drop]
theorem Qos {n:Nat} (hn:n≤8):∀(k N:Nat) (left cl up:List Nat),left.length=k→k < N→(∀c∈cl,c < 2^n)→(∀s∈left,s < 2^n)→0 < cl.length→cl.length+k≤500→up.length≤cl.length →
  Qa N V2 (nI left,nI cl,(-1:Int)::nI up)=some (nI (bld n k left cl up).1,(-1:Int)::nI (bld n k left cl up).2)
 | 0,N,left,cl,up,hk,hN,hc,hs,h0,hl,hu=>by
  obtain ⟨N,rfl⟩:∃M,N=M+1:=⟨N - 1,by omega⟩
  have hb:V2 (nI left,nI cl,(-1:Int)::nI up)=some (.done (nI cl,(-1:Int)::nI up)):=by
   unfold V2
   dsimp only
   rw [Qn,hk,if_neg (by decide)]
  simp only [Qa,hb,bld]
 | k+1,N,left,cl,up,hk,hN,hc,hs,h0,hl,hu=>by
  obtain ⟨N,rfl⟩:∃M,N=M+1:=⟨N - 1,by omega⟩
  obtain ⟨_,hp⟩:=Qm5 (n:=n) (cl:=cl) (left:=left) left.length
  obtain ⟨hp1,hp2⟩:=hp (by omega)
  have hi:pickI n cl left < left.length:=hp1
  have ei:left.getD (pickI n cl left) 0=left[pickI n cl left]:=by simp [List.getD,hi]
  have hsi:=hs _ (List.getElem_mem hi)
  have hne:¬ (((pickI n cl left:Nat):Int)==((pickI n cl left+1:Nat):Int))=true:=by simp; omega
  have hsub:sub (nI left) ((pickI n cl left+1:Nat):Int) (left.length:Int)=(nI left).drop (pickI n cl left+1):=by
   unfold sub
   rw [Int.toNat_natCast,Int.toNat_natCast,List.take_of_length_le (by rw [List.length_drop,Qn]; omega)]
  have hdl:((nI left).drop (pickI n cl left+1)).length=left.length - (pickI n cl left+1):=by rw [List.length_drop,Qn]
  have hdel:=Q2n (l:=nI left) (i:=pickI n cl left) (z:=(0:Int)) (by rw [Qn]; exact hi)
  rw [Qn] at hdel
  have hb:V2 (nI left,nI cl,(-1:Int)::nI up)=some (.next (nI (left.eraseIdx (pickI n cl left)),nI (cl++[left.getD (pickI n cl left) 0]),(-1:Int)::nI (up++[upI n cl (left.getD (pickI n cl left) 0)]))):=by
   unfold V2
   dsimp only
   rw [Qn,if_pos (by simp; omega),Qwo hn hc hs (by omega) (by omega),Option.bind_some]
   dsimp only
   rw [Vz hi,Option.bind_some,Q1g hn hc hsi (by omega) h0 (by rw [←ei]; exact hp2),Option.bind_some]
   dsimp only
   rw [if_pos (by rw [List.length_append,Qn]; simp; omega),if_pos (by rw [List.length_append,List.length_cons,Qn]; simp; omega),Qko (by omega),if_pos (by omega),if_neg hne,if_pos (by omega),if_pos (by omega)]
   simp only [Int.toNat_natCast,Int.toNat_zero,Nat.sub_zero,hsub,hdl]
   rw [if_pos (by omega),if_pos (by rw [←Jw,Qn]; omega),if_pos (by rw [←Jw,Qn]; omega)]
   rw [hdl] at hdel
   rw [hdel,Qzk,ei]
   congr 3
   all_goals (unfold nI; simp)
  have ih:=Qos hn k N (left.eraseIdx (pickI n cl left)) (cl++[left.getD (pickI n cl left) 0]) (up++[upI n cl (left.getD (pickI n cl left) 0)]) (by rw [List.length_eraseIdx,if_pos hi]; omega) (by omega)
   (fun c h=>by
    rcases List.mem_append.1 h with h | h
    ·exact hc c h
    ·simp only [List.mem_singleton] at h; rw [h,ei]; exact hsi) (fun s h=>hs s (List.mem_of_mem_eraseIdx h)) (by simp) (by simp; omega) (by simp; omega)
  simp only [Qa,hb,bld]
  exact ih
end Go.Ab
namespace Go.Ab
open Go
set_option maxRecDepth 100000
set_option maxHeartbeats 400000
theorem Qzl (p0:Qc):Z7 p0=(Jd p0).bind fun x=>if x.2=0 then (Qa fuel (Ye x.1.sets) (0,x.1.sets)).bind fun y=>some (y,0) else some ([],50):=by
 unfold Z7 Jd
 have e0:@Qca=@Xb:=rfl
 have e2:@Qce=@Xa:=rfl
 rw [e0,e2]
 have h50:¬ ((50:Int)=0):=by decide
 by_cases c1:decide (p0.Grain < 1)=true
 ·rw [if_pos c1,if_pos c1]; rfl
 rw [if_neg c1,if_neg c1]
 by_cases c2:decide (p0.Grain > 60)=true
 ·rw [if_pos c2,if_pos c2]; rfl
 rw [if_neg c2,if_neg c2]
 by_cases c3:decide ((p0.Nodes.length:Int) < 1)=true
 ·rw [if_pos c3,if_pos c3]; rfl
 rw [if_neg c3,if_neg c3]
 by_cases c4:decide ((p0.Nodes.length:Int) > 8)=true
 ·rw [if_pos c4,if_pos c4]; rfl
 rw [if_neg c4,if_neg c4]
 by_cases c5:0≤(p0.Nodes.length:Int)∧(p0.Nodes.length:Int)≤(p0.Nodes.length:Int)∧(p0.Nodes.length:Int)*8≤140737488355328
 ·rw [if_pos c5,if_pos c5,if_pos c5,if_pos c5]
  cases Qa fuel (Xb p0) (1,0,List.replicate (Int.toNat (p0.Nodes.length:Int)) (0:Int)) with
  | none=>rfl
  | some x =>
   cases x with
   | inl u=>rfl
   | inr x23 =>
    simp only [Option.bind_some]
    by_cases c6:decide (x23.1 > 1024)=true
    ·rw [if_pos c6,if_pos c6]; rfl
    rw [if_neg c6,if_neg c6]
    cases Qa fuel (Xa p0 x23) (0,List.replicate (Int.toNat (p0.Nodes.length:Int)) (0:Int)) with
    | none=>rfl
    | some y =>
     cases y with
     | inl u=>rfl
     | inr x54 =>
      simp only [Option.bind_some]
      cases Yi x54 with
      | none=>rfl
      | some z =>
       simp only [Option.bind_some]
       by_cases c7:(!z.2)=true
       ·rw [if_pos c7,if_pos c7]; rfl
       ·rw [if_neg c7,if_neg c7]; rfl
 ·rw [if_neg c5,if_neg c5]; rfl
theorem Qy9 {n:Nat} {g:Int} {F:Nat → Tapi_Node} (hb:NB n F) (hbig:n≤1000000) :
  (Qb1 n g F∧Z7 ⟨g,Qd n F⟩=some (gl n (FG (Qf F)),0))∨(¬ Qb1 n g F∧Z7 ⟨g,Qd n F⟩=some ([],50)):=by
 rw [Qzl]
 rcases Qql (g:=g) hb hbig with ⟨hf,o,e⟩ | ⟨hf,e⟩
 ·left
  refine ⟨hf,?_⟩
  have hn:=hf.n8
  have hpar:=fun v hv=>(Vx (hf.node v hv).1.1).2.2
  rw [e,Option.bind_some]
  dsimp only
  rw [if_pos rfl,Ql9 hn hpar]
  have h:=Zp (n:=n) (k0:=0) (by omega) (by omega) (fun i (t:List Int)=>(i,t)) (body:=Ye (gl n (PG (Qf F)))) (fun k=>gl n fun u w=>if u < k then FG (Qf F) u w else PG (Qf F) u w) (gl n (FG (Qf F)))
   (fun k _ hk=>by
    unfold Ye
    dsimp only
    rw [Zr,if_pos (dlt hk),Qap hk,Option.bind_some,if_pos (Xr k),Qf0 (by omega) hk,Qik]
    congr 3
    refine gl_congr fun u w hu hw=>?_
    simp only [upd]
    by_cases c:u=k
    ·subst c
     rw [if_pos rfl,if_neg (by omega),if_pos (by omega)]
     unfold FG PG; rw [Bool.or_comm]
    ·rw [if_neg c]
     by_cases c2:u < k
     ·rw [if_pos c2,if_pos (by omega)]
     ·rw [if_neg c2,if_neg (by omega)])
   (by
    unfold Ye
    dsimp only
    rw [Zr,if_neg (nlt n)]
    congr 2
    exact gl_congr fun u w hu hw=>by rw [if_pos hu])
  have e0:(gl n fun u w=>if u < 0 then FG (Qf F) u w else PG (Qf F) u w)=gl n (PG (Qf F)):=gl_congr fun u w _ _=>if_neg (by omega)
  simp only [e0] at h
  rw [show ((0:Nat):Int)=0 from rfl] at h
  rw [h]; rfl
 ·right
  refine ⟨hf,?_⟩
  rw [e]; rfl
theorem Qvh {n:Nat} {g:Int} {F:Nat → Tapi_Node} (hb:NB n F) (hf:Qb1 n g F):Qb8 ⟨g,Qd n F⟩=some (gl n (mg n (Qf F)),0):=by
 have hn:=hf.n8
 have hpar:=fun v hv=>(Vx (hf.node v hv).1.1).2.2
 rcases Qql (g:=g) hb (by omega) with ⟨_,o,e⟩ | ⟨no,_⟩
 ·unfold Qb8
  rw [e,Option.bind_some,if_neg (by simp)]
  dsimp only
  rw [Ql9 hn hpar,Qza hf.n1 hn]; rfl
 ·exact absurd hf no
theorem Qqg {n:Nat}:∀(o:List Nat) (A:Gr) (K:Nat → Bool),(∃i,i < n∧K i=true)→(∀i,K i=true→i∈o)→(∀a b,K a=true→K b=true→a≠b→A a b=true)→∃s∈setL n A o,Xi (msk n K) s=true
 | [],A,K,⟨i,_,hi⟩,ho,_=>by have:=ho i hi; cases this
 | v::o,A,K,hne,ho,hK=>by
  simp only [setL]
  by_cases c:K v=true
  ·refine ⟨_,List.mem_cons_self ..,Qd2.2 fun j hj=>?_⟩
   rw [Qd4] at hj ⊢
   simp only [Bool.and_eq_true,decide_eq_true_eq] at hj ⊢
   refine ⟨hj.1,?_⟩
   unfold setP
   by_cases e:v=j
   ·simp [e]
   ·rw [hK v j c hj.2 e]; rfl
  ·obtain ⟨s,h1,h2⟩:=Qqg o (elim A v) K hne (fun i hi=>by
    have:=ho i hi
    rcases List.mem_cons.1 this with e | e
    ·subst e; exact absurd hi c
    ·exact e) fun a b ha hb hne=>by
    have e1:¬ a=v:=fun e=>by subst e; exact c ha
    have e2:¬ b=v:=fun e=>by subst e; exact c hb
    unfold elim
    simp [hK a b ha hb hne,e1,e2]
   exact ⟨s,List.mem_cons_of_mem _ h1,h2⟩
theorem Qty {n:Nat}:∀(k:Nat) (left cl up:List Nat),left.length=k→(∀s,(s∈cl∨s∈left)↔s∈(bld n k left cl up).1)∧(bld n k left cl up).1.length=cl.length+k∧(bld n k left cl up).2.length=up.length+k
 | 0,left,cl,up,hk=>by
  have:left=[]:=List.length_eq_zero_iff.1 hk
  subst this
  simp [bld]
 | k+1,left,cl,up,hk=>by
  obtain ⟨_,hp⟩:=Qm5 (n:=n) (cl:=cl) (left:=left) left.length
  have hi:pickI n cl left < left.length:=(hp (by omega)).1
  have ei:left.getD (pickI n cl left) 0=left[pickI n cl left]:=by simp [List.getD,hi]
  obtain ⟨h1,h2,h3⟩:=Qty k (left.eraseIdx (pickI n cl left)) (cl++[left.getD (pickI n cl left) 0]) (up++[upI n cl (left.getD (pickI n cl left) 0)]) (by rw [List.length_eraseIdx,if_pos hi]; omega)
  simp only [bld]
  refine ⟨fun s=>?_,by rw [h2]; simp; omega,by rw [h3]; simp; omega⟩
  rw [←h1 s,ei,List.mem_append,List.mem_singleton]
  have hm:s∈left↔s=left[pickI n cl left]∨s∈left.eraseIdx (pickI n cl left):=by
   constructor
   ·intro h
    obtain ⟨j,hj,rfl⟩:=List.mem_iff_getElem.1 h
    by_cases e:j=pickI n cl left
    ·subst e; exact .inl rfl
    ·exact .inr (List.mem_eraseIdx_iff_getElem.2 ⟨j,hj,e,rfl⟩)
   ·rintro (h | h)
    ·rw [h]; exact List.getElem_mem hi
    ·exact List.mem_of_mem_eraseIdx h
  rw [hm]
  constructor
  ·rintro (h | h | h)
   ·exact .inl (.inl h)
   ·exact .inl (.inr h)
   ·exact .inr h
  ·rintro ((h | h) | h)
   ·exact .inl h
   ·exact .inr (.inl h)
   ·exact .inr (.inr h)
def mkK (n:Nat) (A:Gr) (o:List Nat):List Nat := Z9 (setL n A o)
def mkB (n:Nat) (A:Gr) (o:List Nat):List Nat × List Nat := bld n ((mkK n A o).length - 1) ((mkK n A o).take ((mkK n A o).length - 1)) [(mkK n A o).getD ((mkK n A o).length - 1) 0] []
def homeI (cl:List Nat) (f:Nat):Nat := cl.findIdx (Xi f)
def mkT (n:Nat) (q:Nat → List Nat) (o:List Nat):Qp:=⟨nI (mkB n (mg n q) o).1,-1::nI (mkB n (mg n q) o).2,nI ((List.range n).map fun v=>homeI (mkB n (mg n q) o).1 (msk n (FG q v)))⟩
theorem Qlz {n:Nat} {A:Gr} {o:List Nat} (ho:0 < o.length):0 < (mkK n A o).length:=by
 have h1:0 < (setL n A o).length:=by rw [Qee]; exact ho
 obtain ⟨e,he,_⟩:=Qi3 (l:=setL n A o) _ (Nat.le_refl _) ((setL n A o)[0]) (by rw [List.take_length]; exact List.getElem_mem h1)
 rw [List.take_length] at he
 exact List.length_pos_of_mem he
theorem Qxv {n:Nat} {A:Gr} {o:List Nat}:∀s∈mkK n A o,s < 2^n:=fun s h=>Ql6 _ _ s (Qkm h)
theorem Qr0 {n:Nat} {A:Gr} {o:List Nat}:(mkK n A o).length≤o.length:=by have:=Qj9 (l:=setL n A o); rwa [Qee] at this
theorem Qvv {l:List Nat} (h:0 < l.length):∀s,(s∈[l.getD (l.length - 1) 0]∨s∈l.take (l.length - 1))↔s∈l:=fun s=>by
 have e:l=l.take (l.length - 1)++[l.getD (l.length - 1) 0]:=by
  have h1:l.length - 1 < l.length:=by omega
  have:=Qr (l:=l) h1
  rw [show l.length - 1+1=l.length by omega,List.take_length] at this
  have e2:l.getD (l.length - 1) 0=l[l.length - 1]:=by simp [List.getD,h1]
  rw [e2]; exact this
 conv=>rhs; rw [e,List.mem_append]
 exact Or.comm
theorem Qly {n:Nat} {A:Gr} {o:List Nat} (ho:0 < o.length):(∀s,s∈mkK n A o↔s∈(mkB n A o).1)∧(mkB n A o).1.length=(mkK n A o).length∧(mkB n A o).2.length=(mkK n A o).length - 1:=by
 have hp:=Qlz (n:=n) (A:=A) ho
 obtain ⟨h1,h2,h3⟩:=Qty (n:=n) ((mkK n A o).length - 1) ((mkK n A o).take ((mkK n A o).length - 1)) [(mkK n A o).getD ((mkK n A o).length - 1) 0] [] (by rw [List.length_take]; omega)
 refine ⟨fun s=>?_,?_,?_⟩
 ·rw [←Qvv hp s]; exact h1 s
 ·unfold mkB; rw [h2]; simp; omega
 ·unfold mkB; rw [h3]; simp
theorem Qv6 {n:Nat} {q:Nat → List Nat} {o:List Nat} {v:Nat} (ho:Ord n o) (hv:v < n) (hq:∀p∈q v,p < n):∃c∈(mkB n (mg n q) o).1,Xi (msk n (FG q v)) c=true:=by
 have hall:∀i,i < n→i∈o:=fun i hi=>Qgr ho.nodup ho.lt ho.len i hi
 have hin:∀i,FG q v i=true→i < n:=fun i hi=>by
  unfold FG at hi
  simp only [Bool.or_eq_true,decide_eq_true_eq] at hi
  rcases hi with h | h
  ·omega
  ·exact hq i h
 obtain ⟨s,h1,h2⟩:=Qqg o (mg n q) (FG q v) ⟨v,hv,by unfold FG; simp⟩ (fun i hi=>hall i (hin i hi)) fun a b ha hb hne=>by
  unfold mg mgk
  simp only [hin a ha,hin b hb,decide_true,Bool.true_and,Bool.and_eq_true,Bool.not_eq_true',decide_eq_false_iff_not,List.any_eq_true]
  exact ⟨hne,v,List.mem_range.2 hv,ha,hb⟩
 obtain ⟨e,h3,h4⟩:=Qi3 (l:=setL n (mg n q) o) _ (Nat.le_refl _) s (by rw [List.take_length]; exact h1)
 rw [List.take_length] at h3
 exact ⟨e,((Qly (n:=n) (A:=mg n q) (by rw [ho.len]; omega)).1 e).1 h3,Qn9 h2 h4⟩
theorem Qt1 {cl:List Nat} {f:Nat} (h:∃c∈cl,Xi f c=true):homeI cl f < cl.length:=by
 unfold homeI; rw [List.findIdx_lt_length]; exact h
theorem Qx2 {cl:List Nat} {f:Nat} (hc:∀c∈cl,c < 18446744073709551616) (hf:f < 18446744073709551616) (hl:cl.length≤1000) (h:∃c∈cl,Xi f c=true):Jc (nI cl) (f:Int)=some (homeI cl f:Int):=by
 have hu:=Qt1 h
 have hstep:∀k (hk:k < cl.length),Va (nI cl) (f:Int) (k:Int)=some (if Xi f cl[k]=true then .done (.inl (k:Int)) else .next (zw ((k:Int)+1))):=fun k hk=>by
  unfold Va
  rw [Qn,if_pos (dlt hk),Vz hk,Option.bind_some]
  have hw:=Qgk hf (hc _ (List.getElem_mem hk))
  by_cases c:Xi f cl[k]=true
  ·rw [if_pos (hw.2 c),if_pos c]
  ·rw [if_neg fun hh=>c (hw.1 hh),if_neg c]
 have hr:=Kk (n:=homeI cl f+1) (k0:=0) (by omega) (by omega) (fun i (_:Unit)=>i) (body:=Va (nI cl) (f:Int)) (fun k _=>k≤homeI cl f) (fun r=>r=.inl (homeI cl f:Int))
  (fun k _ _ hk _=>by
   by_cases e:k=homeI cl f
   ·right
    refine ⟨.inl (k:Int),?_,by rw [e]⟩
    rw [hstep k (by omega),if_pos (by
     have:=List.findIdx_getElem (w:=hu)
     unfold homeI at e
     subst e; exact this)]
   ·left
    refine ⟨(),?_,by omega⟩
    rw [hstep k (by omega),if_neg (by
     have:=List.not_of_lt_findIdx (show k < cl.findIdx (Xi f) by unfold homeI at hk e; omega)
     intro h
     rw [h] at this; cases this)])
  (fun _ hI=>by omega) () (by omega)
 obtain ⟨r,e1,rfl⟩:=hr
 rw [show ((0:Nat):Int)=0 from rfl] at e1
 unfold Jc
 rw [e1]; rfl
theorem Qzg {n:Nat} {g:Int} {F:Nat → Tapi_Node} {o:List Nat} (hb:NB n F) (hf:Qb1 n g F) (ho:Ord n o):Qa8 ⟨g,Qd n F⟩ (gl n (FG (Qf F))) (nI o)=some (mkT n (Qf F) o,0):=by
 have hn:=hf.n8
 have h1:=hf.n1
 have hpar:=fun v hv=>(Vx (hf.node v hv).1.1).2.2
 have p8:(2:Nat)^n≤256:=Nat.pow_le_pow_right (n:=2) (by omega) hn
 have hop:0 < o.length:=by rw [ho.len]; omega
 have hp:=Qlz (n:=n) (A:=mg n (Qf F)) hop
 have hle:=Qr0 (n:=n) (A:=mg n (Qf F)) (o:=o)
 rw [ho.len] at hle
 obtain ⟨m1,m2,m3⟩:=Qly (n:=n) (A:=mg n (Qf F)) hop
 unfold Qa8
 rw [Qvh hb hf,Option.bind_some,if_neg (by simp),Qvz h1 hn Qo7 ho.lt ho.nodup,Option.bind_some]
 rw [show Z9 (setL n (mg n (Qf F)) o)=mkK n (mg n (Qf F)) o from rfl,Qn,w64 (n:=((mkK n (mg n (Qf F)) o).length:Int) - 1) (by omega),show ((mkK n (mg n (Qf F)) o).length:Int) - 1=(((mkK n (mg n (Qf F)) o).length - 1:Nat):Int) by omega,Vz (by omega),Option.bind_some,if_pos (by omega),Int.toNat_natCast]
 have hlt:∀s∈mkK n (mg n (Qf F)) o,s < 2^n:=Qxv
 have eg:(mkK n (mg n (Qf F)) o).getD ((mkK n (mg n (Qf F)) o).length - 1) 0=(mkK n (mg n (Qf F)) o)[(mkK n (mg n (Qf F)) o).length - 1]:=by
  rw [List.getD_eq_getElem?_getD,List.getElem?_eq_getElem (by omega)]; rfl
 have hbl:=Qos hn ((mkK n (mg n (Qf F)) o).length - 1) fuel ((mkK n (mg n (Qf F)) o).take ((mkK n (mg n (Qf F)) o).length - 1)) [(mkK n (mg n (Qf F)) o).getD ((mkK n (mg n (Qf F)) o).length - 1) 0] [] (by rw [List.length_take]; omega) (by show _ < 1152921504606846976; omega)
  (fun c hc=>by simp only [List.mem_singleton] at hc; rw [hc,eg]; exact hlt _ (List.getElem_mem _)) (fun s hs=>hlt s (List.mem_of_mem_take hs)) (by simp) (by simp; omega) (by simp)
 have et:List.take ((mkK n (mg n (Qf F)) o).length - 1) (nI (mkK n (mg n (Qf F)) o))=nI ((mkK n (mg n (Qf F)) o).take ((mkK n (mg n (Qf F)) o).length - 1)):=by unfold nI; rw [List.map_take]
 rw [show nI [(mkK n (mg n (Qf F)) o).getD ((mkK n (mg n (Qf F)) o).length - 1) 0]=[(((mkK n (mg n (Qf F)) o)[(mkK n (mg n (Qf F)) o).length - 1]:Nat):Int)] by unfold nI; rw [eg]; rfl,show nI []=[] from rfl] at hbl
 rw [et,hbl,Option.bind_some]
 rw [show bld n ((mkK n (mg n (Qf F)) o).length - 1) ((mkK n (mg n (Qf F)) o).take ((mkK n (mg n (Qf F)) o).length - 1)) [(mkK n (mg n (Qf F)) o).getD ((mkK n (mg n (Qf F)) o).length - 1) 0] []=mkB n (mg n (Qf F)) o from rfl]
 have hcl:∀c∈(mkB n (mg n (Qf F)) o).1,c < 18446744073709551616:=fun c hc=>by have:=hlt c ((m1 c).2 hc); omega
 have hfam:∀v,v < n→∃c∈(mkB n (mg n (Qf F)) o).1,Xi (msk n (FG (Qf F) v)) c=true:=fun v hv=>Qv6 ho hv (hpar v hv)
 have h:=Zp (n:=n) (k0:=0) (by omega) (by omega) (fun i (t:List Int)=>(i,t)) (body:=Qam (gl n (FG (Qf F))) (nI (mkB n (mg n (Qf F)) o).1,(-1:Int)::nI (mkB n (mg n (Qf F)) o).2))
  (fun k=>nI ((List.range k).map fun v=>homeI (mkB n (mg n (Qf F)) o).1 (msk n (FG (Qf F) v)))) (nI ((List.range n).map fun v=>homeI (mkB n (mg n (Qf F)) o).1 (msk n (FG (Qf F) v))))
  (fun k _ hk=>by
   unfold Qam
   dsimp only
   rw [Zr,if_pos (dlt hk),Qap hk,Option.bind_some,Qx2 hcl (by have:=Yf n (FG (Qf F) k); omega) (by omega) (hfam k hk),Option.bind_some,if_pos (by rw [List.length_append,Qn,List.length_map,List.length_range]; simp; omega)]
   congr 3
   rw [List.range_succ,List.map_append,←Qqj]; rfl)
  (by unfold Qam; dsimp only; rw [Zr,if_neg (nlt n)])
 rw [show ((0:Nat):Int)=0 from rfl] at h
 rw [show nI ((List.range 0).map fun v=>homeI (mkB n (mg n (Qf F)) o).1 (msk n (FG (Qf F) v)))=[] from rfl] at h
 rw [h]; rfl
end Go.Ab
namespace Go.Ab
open Go
set_option maxRecDepth 100000
set_option maxHeartbeats 400000
def tb (x:Int) (s1:Int × List Int):Option (Qh (Int × List Int) (List Int)) :=
 if (zw ((s1.2.length:Int)+1))≠0 then
  if 0≤(0:Int)∧(0:Int)≤(Int.tmod (zw x) (zw ((s1.2.length:Int)+1)))∧(Int.tmod (zw x) (zw ((s1.2.length:Int)+1)))≤(s1.2.length:Int) then
   if (sub s1.2 0 (Int.tmod (zw x) (zw ((s1.2.length:Int)+1)))).length*8≤140737488355328 then
    if ((sub s1.2 0 (Int.tmod (zw x) (zw ((s1.2.length:Int)+1))))++([s1.1]:(List Int))).length*8≤140737488355328 then
     if 0≤(Int.tmod (zw x) (zw ((s1.2.length:Int)+1)))∧(Int.tmod (zw x) (zw ((s1.2.length:Int)+1)))≤(s1.2.length:Int)∧(s1.2.length:Int)≤(s1.2.length:Int) then
      if (((sub s1.2 0 (Int.tmod (zw x) (zw ((s1.2.length:Int)+1))))++([s1.1]:(List Int)))++(sub s1.2 (Int.tmod (zw x) (zw ((s1.2.length:Int)+1))) (s1.2.length:Int))).length*8≤140737488355328 then
       some (.next (zw (s1.1+1),(((sub s1.2 0 (Int.tmod (zw x) (zw ((s1.2.length:Int)+1))))++([s1.1]:(List Int)))++(sub s1.2 (Int.tmod (zw x) (zw ((s1.2.length:Int)+1))) (s1.2.length:Int)))))
      else none
     else none
    else none
   else none
  else none
 else none
theorem Qtt (p0 p1:Int) (p2:Int × Int × Int × Int × Int × Int × Int × Int) (s1:Int × List Int):Qb6 p0 p1 p2 s1 =
  if (decide (s1.1 < p0))=true then
   if (s1.1==p1)=true then some (.next (zw (s1.1+1),s1.2)) else
   if Int.tmod s1.1 8=0 then tb p2.1 s1 else if Int.tmod s1.1 8=1 then tb p2.2.1 s1 else if Int.tmod s1.1 8=2 then tb p2.2.2.1 s1 else if Int.tmod s1.1 8=3 then tb p2.2.2.2.1 s1 else
   if Int.tmod s1.1 8=4 then tb p2.2.2.2.2.1 s1 else if Int.tmod s1.1 8=5 then tb p2.2.2.2.2.2.1 s1 else if Int.tmod s1.1 8=6 then tb p2.2.2.2.2.2.2.1 s1 else if Int.tmod s1.1 8=7 then tb p2.2.2.2.2.2.2.2 s1 else none
  else some (.done s1.2):=rfl
theorem Q26 {x:Int} {k:Nat} {o:List Nat} (hx:0≤x∧x≤255) (ho:o.length≤1000) (hk:k≤1000):∃a:Nat,a≤o.length∧tb x ((k:Int),nI o)=some (.next (zw ((k:Int)+1),nI (o.take a++[k]++o.drop a))):=by
 have e1:zw ((o.length:Int)+1)=((o.length+1:Nat):Int):=Qko (by omega)
 have e2:zw x=x:=w64 (by omega)
 obtain ⟨a,ha,ea⟩:∃a:Nat,a≤o.length∧Int.tmod x ((o.length+1:Nat):Int)=(a:Int):=by
  rw [K5 hx.1]
  have h1:=Int.emod_nonneg x (show ((o.length+1:Nat):Int)≠0 by omega)
  have h2:=Int.emod_lt_of_pos x (show (0:Int) < ((o.length+1:Nat):Int) by omega)
  exact ⟨(x % ((o.length+1:Nat):Int)).toNat,by omega,by omega⟩
 have s1:sub (nI o) 0 (a:Int)=nI (o.take a):=by unfold sub nI; simp [List.map_take]
 have s2:sub (nI o) (a:Int) (o.length:Int)=nI (o.drop a):=by
  unfold sub nI
  rw [Int.toNat_natCast,Int.toNat_natCast,←List.map_drop,List.take_of_length_le (by rw [List.length_map,List.length_drop]; omega)]
 refine ⟨a,ha,?_⟩
 unfold tb
 dsimp only
 rw [Qn,e1,e2,ea,s1,s2,if_pos (by omega),if_pos (by omega)]
 rw [if_pos (by rw [Qn,List.length_take]; omega),if_pos (by rw [List.length_append,Qn,List.length_take]; simp; omega),if_pos (by omega),if_pos (by rw [List.length_append,List.length_append,Qn,Qn,List.length_take,List.length_drop]; simp; omega)]
 congr 3
 unfold nI; simp
def ok8 (l:Int × Int × Int × Int × Int × Int × Int × Int):Prop:=(0≤l.1∧l.1≤255)∧(0≤l.2.1∧l.2.1≤255)∧(0≤l.2.2.1∧l.2.2.1≤255)∧(0≤l.2.2.2.1∧l.2.2.2.1≤255)∧(0≤l.2.2.2.2.1∧l.2.2.2.2.1≤255)∧(0≤l.2.2.2.2.2.1∧l.2.2.2.2.2.1≤255)∧(0≤l.2.2.2.2.2.2.1∧l.2.2.2.2.2.2.1≤255)∧(0≤l.2.2.2.2.2.2.2∧l.2.2.2.2.2.2.2≤255)
theorem Q0p {k a:Nat} {o:List Nat} (h:Ord k o):Ord (k+1) (o.take a++[k]++o.drop a):=by
 obtain ⟨h1,h2⟩:=Qlu (q:=o) (k:=k) (a:=a) h.nodup h.lt
 exact ⟨by have:=h.len; simp; omega,h2,h1⟩
theorem Qlo {n:Nat} {l:Int × Int × Int × Int × Int × Int × Int × Int} (hn:n≤1000) (hl:ok8 l):∃o,Ord n o∧Kn (n:Int) (-1) l=some (nI o):=by
 obtain ⟨l0,l1,l2,l3,l4,l5,l6,l7⟩:=hl
 have h:=Kk (n:=n) (k0:=0) (by omega) (by omega) (fun i (t:List Int)=>(i,t)) (body:=Qb6 (n:Int) (-1) l) (fun k t=>∃o,Ord k o∧t=nI o) (fun r=>∃o,Ord n o∧r=nI o)
  (fun k t _ hk hI=>by
   obtain ⟨o,ho,rfl⟩:=hI
   left
   have hol:o.length≤1000:=by rw [ho.len]; omega
   have fin:∀x,0≤x∧x≤255→∃t',tb x ((k:Int),nI o)=some (.next (zw ((k:Int)+1),t'))∧∃o,Ord (k+1) o∧t'=nI o:=fun x hx=>by
    obtain ⟨a,_,e⟩:=Q26 (k:=k) hx hol (by omega)
    exact ⟨_,e,_,Q0p ho,rfl⟩
   rw [Qtt]
   dsimp only
   rw [if_pos (dlt hk),if_neg (by simp),K5 (by omega)]
   by_cases c0:(k:Int) % 8=0
   ·rw [if_pos c0]; exact fin _ l0
   rw [if_neg c0]
   by_cases c1:(k:Int) % 8=1
   ·rw [if_pos c1]; exact fin _ l1
   rw [if_neg c1]
   by_cases c2:(k:Int) % 8=2
   ·rw [if_pos c2]; exact fin _ l2
   rw [if_neg c2]
   by_cases c3:(k:Int) % 8=3
   ·rw [if_pos c3]; exact fin _ l3
   rw [if_neg c3]
   by_cases c4:(k:Int) % 8=4
   ·rw [if_pos c4]; exact fin _ l4
   rw [if_neg c4]
   by_cases c5:(k:Int) % 8=5
   ·rw [if_pos c5]; exact fin _ l5
   rw [if_neg c5]
   by_cases c6:(k:Int) % 8=6
   ·rw [if_pos c6]; exact fin _ l6
   rw [if_neg c6,if_pos (by omega)]
   exact fin _ l7)
  (fun t hI=>⟨t,by rw [Qtt]; dsimp only; rw [if_neg (nlt n)],hI⟩) [] ⟨[],⟨rfl,by simp,List.nodup_nil⟩,rfl⟩
 obtain ⟨r,e,o,ho,rfl⟩:=h
 refine ⟨o,ho,?_⟩
 rw [show ((0:Nat):Int)=0 from rfl] at e
 unfold Kn
 rw [e]; rfl
def Ql4 (n:Nat) (l:List Int) (k:Nat):Prop:=0≤(l[k]?).getD 0∧(l[k]?).getD 0 < n∧(l[k]?).getD 0 ∉ l.take k
theorem Qqn {n:Nat} {l:List Int}:(∀k,k < l.length→Ql4 n l k)↔okL n l:=by
 unfold okL Ql4
 constructor
 ·intro h
  refine ⟨fun x hx=>?_,?_⟩
  ·obtain ⟨k,hk,rfl⟩:=List.mem_iff_getElem.1 hx
   have:=h k hk
   rw [List.getElem?_eq_getElem hk] at this
   exact ⟨this.1,this.2.1⟩
  ·rw [List.nodup_iff_pairwise_ne,List.pairwise_iff_getElem]
   intro i j hi hj hij e
   have:=(h j hj).2.2
   rw [List.getElem?_eq_getElem hj] at this
   refine this (List.mem_iff_getElem.2 ⟨i,by rw [List.length_take]; omega,?_⟩)
   rw [List.getElem_take]; exact e
 ·rintro ⟨h1,h2⟩ k hk
  rw [List.getElem?_eq_getElem hk]
  obtain ⟨a,b⟩:=h1 _ (List.getElem_mem hk)
  refine ⟨a,b,fun hm=>?_⟩
  obtain ⟨i,hi,e⟩:=List.mem_iff_getElem.1 hm
  rw [List.length_take] at hi
  rw [List.getElem_take] at e
  rw [List.nodup_iff_pairwise_ne,List.pairwise_iff_getElem] at h2
  exact h2 i k (by omega) hk (by omega) e
theorem Qsq {n:Nat} {l:List Int} {k a:Nat} (hn:n≤8) (hk:k < l.length) (ha:a < n) (e:l[k]=(a:Int)):zv (zb ((msk n (fun i=>(l.take k).contains (i:Int)):Nat):Int) ||| zb (zv (1*2^min (Int.toNat (a:Int)) (IntKind.bits .u64)))).toNat = ((msk n (fun i=>(l.take (k+1)).contains (i:Int)):Nat):Int):=by
 rw [Qf0 (by omega) ha]
 congr 1
 refine Kc fun i _=>?_
 rw [Qr hk,List.contains_append,e]
 by_cases c:a=i
 ·subst c; simp
 ·have c2:¬ (i:Int)=(a:Int):=by omega
  simp [c,c2]
theorem Qww {n:Nat} {l fam:List Int} {w:Int} (hn:n≤8) (hf:fam.length=n) (hl:l.length≤1000) :
  (okL n l∧Qa fuel (Vk l (fam,w)) (0,0)=some (.inr ()))∨(¬ okL n l∧Qa fuel (Vk l (fam,w)) (0,0)=some (.inl ())):=by
 have p8:(2:Nat)^n≤256:=Nat.pow_le_pow_right (n:=2) (by omega) hn
 have hz:msk n (fun i=>(l.take 0).contains (i:Int))=0:=(Qav (by have:=Nat.two_pow_pos n; omega) fun i _=>by simp).symm
 have h:=Yb (n:=l.length) (by omega) (Ql4 n l) (fun i (t:Int)=>(t,i)) (body:=Vk l (fam,w)) (fun k=>((msk n (fun i=>(l.take k).contains (i:Int)):Nat):Int)) (.inr ()) (.inl ())
  (fun k hk hI hg=>by
   have ek:=Qt hk
   obtain ⟨h1,h2,h3⟩:=hg
   rw [List.getElem?_eq_getElem hk] at h1 h2 h3
   simp only [Option.getD_some] at h1 h2 h3
   generalize ev:l[k]=v at *
   obtain ⟨a,rfl⟩:∃a:Nat,v=(a:Int):=⟨v.toNat,by omega⟩
   have ha:a < n:=by omega
   unfold Vk
   dsimp only
   rw [if_pos (dlt hk),ek,Option.bind_some,if_neg (by simp),hf,if_neg (by simp; omega),if_pos (Xr a),Qji (Qun (by omega) (Yf n _)) (by omega),Qb4 a ha]
   have hc:(l.take k).contains (a:Int)=false:=by rw [Bool.eq_false_iff]; intro h; exact h3 (by simpa using h)
   rw [hc,if_neg (by decide),if_pos (Xr a),Qsq hn hk ha ev])
  (fun k hk hI hg=>by
   have ek:=Qt hk
   have hg':¬ (0≤l[k]∧l[k] < n∧l[k] ∉ l.take k):=by
    unfold Ql4 at hg
    rw [List.getElem?_eq_getElem hk] at hg
    exact hg
   generalize l[k]=v at *
   unfold Vk
   dsimp only
   rw [if_pos (dlt hk),ek,Option.bind_some]
   by_cases c1:v < 0
   ·rw [if_pos (by simpa using c1)]
   ·rw [if_neg (by simpa using c1),hf]
    by_cases c2:v≥(n:Int)
    ·rw [if_pos (by simpa using c2)]
    ·rw [if_neg (by simpa using c2)]
     obtain ⟨a,rfl⟩:∃a:Nat,v=(a:Int):=⟨v.toNat,by omega⟩
     have ha:a < n:=by omega
     have hc:(l.take k).contains (a:Int)=true:=by
      rw [List.contains_iff_mem]
      apply Classical.byContradiction
      intro h; exact hg' ⟨by omega,by omega,h⟩
     rw [if_pos (Xr a),Qji (Qun (by omega) (Yf n _)) (by omega),Qb4 a ha,hc,if_pos (by decide)])
  (fun hI=>by unfold Vk; dsimp only; rw [if_neg (nlt _)])
 simp only [hz,Qqn] at h
 exact h
theorem Qyh {n:Nat} {l:List Int} (hn:n≤8) (hl:l.length≤1000) :
  (okL n l∧Qa fuel (Z2 l (n:Int) (-1)) (0,0)=some (.inr ()))∨(¬ okL n l∧Qa fuel (Z2 l (n:Int) (-1)) (0,0)=some (.inl ())):=by
 have p8:(2:Nat)^n≤256:=Nat.pow_le_pow_right (n:=2) (by omega) hn
 have hz:msk n (fun i=>(l.take 0).contains (i:Int))=0:=(Qav (by have:=Nat.two_pow_pos n; omega) fun i _=>by simp).symm
 have h:=Yb (n:=l.length) (by omega) (Ql4 n l) (fun i (t:Int)=>(t,i)) (body:=Z2 l (n:Int) (-1)) (fun k=>((msk n (fun i=>(l.take k).contains (i:Int)):Nat):Int)) (.inr ()) (.inl ())
  (fun k hk hI hg=>by
   have ek:=Qt hk
   obtain ⟨h1,h2,h3⟩:=hg
   rw [List.getElem?_eq_getElem hk] at h1 h2 h3
   simp only [Option.getD_some] at h1 h2 h3
   generalize ev:l[k]=v at *
   obtain ⟨a,rfl⟩:∃a:Nat,v=(a:Int):=⟨v.toNat,by omega⟩
   have ha:a < n:=by omega
   have hc:(l.take k).contains (a:Int)=false:=by rw [Bool.eq_false_iff]; intro h; exact h3 (by simpa using h)
   unfold Z2
   dsimp only
   rw [if_pos (dlt hk),ek,Option.bind_some,if_neg (by simp),if_neg (by simp; omega),if_neg (by simp),Qe8 (by omega) ha,Option.bind_some,hc,if_neg (by decide),Yd (n:=a) (by omega),if_pos (Xr a),Qsq hn hk ha ev])
  (fun k hk hI hg=>by
   have ek:=Qt hk
   have hg':¬ (0≤l[k]∧l[k] < n∧l[k] ∉ l.take k):=by
    unfold Ql4 at hg
    rw [List.getElem?_eq_getElem hk] at hg
    exact hg
   generalize l[k]=v at *
   unfold Z2
   dsimp only
   rw [if_pos (dlt hk),ek,Option.bind_some]
   by_cases c1:v < 0
   ·rw [if_pos (by simpa using c1)]
   ·rw [if_neg (by simpa using c1)]
    by_cases c2:v≥(n:Int)
    ·rw [if_pos (by simpa using c2)]
    ·rw [if_neg (by simpa using c2)]
     obtain ⟨a,rfl⟩:∃a:Nat,v=(a:Int):=⟨v.toNat,by omega⟩
     have ha:a < n:=by omega
     have hc:(l.take k).contains (a:Int)=true:=by
      rw [List.contains_iff_mem]
      apply Classical.byContradiction
      intro h; exact hg' ⟨by omega,by omega,h⟩
     rw [if_neg (by simp),Qe8 (by omega) ha,Option.bind_some,hc,if_pos rfl])
  (fun hI=>by unfold Z2; dsimp only; rw [if_neg (nlt _)])
 simp only [hz,Qqn] at h
 exact h
theorem Qnm {n:Nat} {l:List Int} (hn:n≤8) (hl:l.length≤1000):((okL n l∧l.length=n)∧Vd l (n:Int) (-1)=some true)∨(¬ (okL n l∧l.length=n)∧Vd l (n:Int) (-1)=some false):=by
 unfold Vd
 rcases Qyh hn hl with ⟨h,e⟩ | ⟨h,e⟩
 ·rw [e,Option.bind_some]
  dsimp only
  rw [if_neg (by decide)]
  by_cases c:l.length=n
  ·exact .inl ⟨⟨h,c⟩,by rw [c]; simp⟩
  ·exact .inr ⟨fun hh=>c hh.2,by simp; omega⟩
 ·rw [e,Option.bind_some]
  exact .inr ⟨fun hh=>h hh.1,rfl⟩
def Qnh:Qp:=⟨[],[],[]⟩
theorem Qwq {n:Nat} {g:Int} {F:Nat → Tapi_Node} {l:List Int} (hb:NB n F) (hbig:n≤1000) (hl:l.length≤1000) :
  (¬ Qb1 n g F∧Ke ⟨g,Qd n F⟩ l=some (Qnh,50))∨(Qb1 n g F∧¬ (okL n l∧l.length=n)∧Ke ⟨g,Qd n F⟩ l=some (Qnh,2)) ∨
  (Qb1 n g F∧∃o,l=nI o∧Ord n o∧Ke ⟨g,Qd n F⟩ l=some (mkT n (Qf F) o,0)):=by
 unfold Ke
 rcases Qy9 (g:=g) hb (by omega) with ⟨hf,e⟩ | ⟨hf,e⟩
 ·right
  rw [e,Option.bind_some,if_neg (by simp)]
  dsimp only
  rw [Zr]
  by_cases c:l.length=n
  ·rw [if_neg (by simp; omega)]
   rcases Qww (n:=n) (l:=l) (fam:=gl n (FG (Qf F))) (w:=0) hf.n8 (Zr _ _) hl with ⟨hp,e2⟩ | ⟨hp,e2⟩
   ·right
    obtain ⟨o,rfl,ho⟩:=Q2r hp c
    refine ⟨hf,o,rfl,ho,?_⟩
    rw [e2,Option.bind_some]
    dsimp only
    rw [Qzg hb hf ho]; rfl
   ·left
    refine ⟨hf,fun h=>hp h.1,?_⟩
    rw [e2]; rfl
  ·left
   refine ⟨hf,fun h=>c h.2,?_⟩
   rw [if_pos (by simp; omega)]; rfl
 ·left
  refine ⟨hf,?_⟩
  rw [e,Option.bind_some,if_pos (by decide)]; rfl
end Go.Ab
namespace Go.Ab
open Go
set_option maxRecDepth 100000
set_option maxHeartbeats 400000
theorem Q1r:((List.range 256).all fun R=>isS (Kr (R:Int)) (cnt 8 R.testBit:Int))=true:=by kernel_rfl
theorem Q0m {n a:Nat} (hn:n≤8) (ha:a < 2^n):Kr (a:Int)=some (pc n a:Int):=by
 have p8:(2:Nat)^n≤256:=Nat.pow_le_pow_right (n:=2) (by omega) hn
 have h:=Qxs (Qxc Q1r (show a < 256 by omega))
 rw [h]
 congr 2
 unfold pc
 refine Quh hn fun i h1 h2=>?_
 rw [Bool.eq_false_iff]
 intro hb
 have:=Nat.lt_of_lt_of_le ha (Nat.pow_le_pow_right (n:=2) (by omega) h1)
 rw [Nat.testBit_lt_two_pow this] at hb; cases hb
theorem Qyf {n:Nat} {cl:List Nat} {c s:Nat} (h0:0 < cl.length):upI n (cl++[c]) s=if com n cl s < pc n (c &&& s) then cl.length else upI n cl s:=by
 have hu:=Qrd (n:=n) (s:=s) h0
 by_cases hc:com n cl s < pc n (c &&& s)
 ·rw [if_pos hc]
  have e:com n (cl++[c]) s=pc n (c &&& s):=by rw [Qct]; omega
  unfold upI
  rw [List.findIdx_append,e]
  have hno:cl.findIdx (fun c'=>Nat.beq (pc n (c' &&& s)) (pc n (c &&& s)))=cl.length:=by
   rw [List.findIdx_eq_length]
   intro x hx
   obtain ⟨k,hk,rfl⟩:=List.mem_iff_getElem.1 hx
   have:=Q2j (n:=n) (s:=s) cl k hk
   rw [Bool.eq_false_iff]
   intro h
   have:=Nat.eq_of_beq_eq_true h; omega
  rw [hno,if_neg (by omega)]
  simp [List.findIdx_cons]
 ·rw [if_neg hc]
  have e:com n (cl++[c]) s=com n cl s:=by rw [Qct]; omega
  unfold upI
  rw [List.findIdx_append,e]
  unfold upI at hu
  rw [if_pos hu]
theorem Qqp {n:Nat} {cl:List Nat} {s:Nat} (hn:n≤8) (hc:∀c∈cl,c < 2^n) (hs:s < 2^n) (hl:cl.length≤1000) (h0:0 < cl.length):Ko (s:Int) (nI cl)=some ((com n cl s:Int),(upI n cl s:Int)):=by
 have p8:(2:Nat)^n≤256:=Nat.pow_le_pow_right (n:=2) (by omega) hn
 have h:=Zp (n:=cl.length) (k0:=0) (by omega) (by omega) (fun i (t:Int × Int)=>(t.1,t.2,i)) (body:=g_ref10_common_b0 (nI cl) (s:Int)) (fun k=>(if k=0 then -1 else (com n (cl.take k) s:Int),if k=0 then 0 else (upI n (cl.take k) s:Int))) ((com n cl s:Int),(upI n cl s:Int))
  (fun k _ hk=>by
   have h1:=hc _ (List.getElem_mem hk)
   have hsz:Kr (zv (zb (s:Int) &&& zb ((cl[k]:Nat):Int)).toNat)=some (pc n (cl[k] &&& s):Int):=by
    rw [Qrl (by omega) (by omega),Nat.and_comm,Q0m hn (Qrn h1)]
   unfold g_ref10_common_b0
   dsimp only
   rw [Qn,if_pos (dlt hk),Vz hk,Option.bind_some,hsz,Option.bind_some]
   have hk1:¬ (k+1=0):=by omega
   rw [if_neg hk1,if_neg hk1]
   by_cases c0:k=0
   ·subst c0
    have e1:com n (cl.take (0+1)) s=pc n (cl[0] &&& s):=by
     rw [Qr hk,List.take_zero,List.nil_append]
     show max 0 (pc n (cl[0] &&& s))=_
     omega
    have e2:upI n (cl.take (0+1)) s=0:=by
     rw [Qr hk,List.take_zero,List.nil_append]
     have:=Qrd (n:=n) (cl:=[cl[0]]) (s:=s) (by simp)
     simp at this
     exact this
    rw [if_pos rfl,if_pos rfl,if_pos (by rw [decide_eq_true_eq]; omega),Option.bind_some,e1,e2]
   ·have htl:0 < (cl.take k).length:=by rw [List.length_take]; omega
    have hup:=Qyf (n:=n) (c:=cl[k]) (s:=s) htl
    rw [←Qr hk,List.length_take,Nat.min_eq_left (by omega)] at hup
    have hcs:com n (cl.take (k+1)) s=max (com n (cl.take k) s) (pc n (cl[k] &&& s)):=by rw [Qr hk,Qct]
    rw [if_neg c0,if_neg c0,hcs,hup]
    by_cases c:com n (cl.take k) s < pc n (cl[k] &&& s)
    ·rw [if_pos (by rw [decide_eq_true_eq]; omega),Option.bind_some,if_pos c,Nat.max_eq_right (by omega)]
    ·rw [if_neg (by rw [decide_eq_true_eq]; omega),if_neg c,Nat.max_eq_left (by omega)])
  (by
   unfold g_ref10_common_b0
   dsimp only
   have h2:¬ (cl.length=0):=by omega
   rw [Qn,if_neg (nlt _),if_neg h2,if_neg h2,List.take_length])
 rw [show ((0:Nat):Int)=0 from rfl] at h
 simp only [if_true] at h
 unfold Ko
 rw [h]; rfl
def Qc9 (n:Nat) (cl kp:List Nat) (f:Nat → Bool):Nat → Nat × Int
 | 0=>(0,-1)
 | i+1=>if f i=false∧(Qc9 n cl kp f i).2≤(com n cl (kp.getD i 0):Int) then (i,(com n cl (kp.getD i 0):Int)) else Qc9 n cl kp f i
def X5 (f:Nat → Bool) (m:Nat):List Nat := (List.range m).filter fun i=>!f i
def Xl (kp:List Nat) (f:Nat → Bool) (m:Nat):List Nat := (X5 f m).map fun i=>kp.getD i 0
theorem Qpy {n:Nat} {cl l m:List Nat}:∀k,k≤l.length→Yy n cl (l++m) k=Yy n cl l k
 | 0,_=>rfl
 | k+1,h=>by
  simp only [Yy]
  rw [Qpy k (by omega)]
  have:(l++m).getD k 0=l.getD k 0:=by
   rw [List.getD_eq_getElem?_getD,List.getD_eq_getElem?_getD,List.getElem?_append_left (by omega)]
  rw [this]
theorem Qjp {f:Nat → Bool} {i:Nat}:X5 f (i+1)=if f i=true then X5 f i else X5 f i++[i]:=by
 unfold X5
 rw [List.range_succ,List.filter_append]
 cases h:f i <;> simp [h]
theorem Qts {n:Nat} {cl kp:List Nat} {f:Nat → Bool}:∀i,(Qc9 n cl kp f i).2=(Yy n cl (Xl kp f i) (Xl kp f i).length).2∧(0 < (X5 f i).length→(X5 f i)[(Yy n cl (Xl kp f i) (Xl kp f i).length).1]?=some (Qc9 n cl kp f i).1)
 | 0=>⟨rfl,fun h=>by simp [X5] at h⟩
 | i+1=>by
  obtain ⟨h1,h2⟩:=Qts (n:=n) (cl:=cl) (kp:=kp) (f:=f) i
  by_cases hf:f i=true
  ·have e:X5 f (i+1)=X5 f i:=by rw [Qjp,if_pos hf]
   have e2:Xl kp f (i+1)=Xl kp f i:=by unfold Xl; rw [e]
   rw [e,e2]
   simp only [Qc9]
   rw [if_neg (by simp [hf])]
   exact ⟨h1,h2⟩
  ·have e:X5 f (i+1)=X5 f i++[i]:=by rw [Qjp,if_neg hf]
   have e2:Xl kp f (i+1)=Xl kp f i++[kp.getD i 0]:=by unfold Xl; rw [e]; simp
   have hl:(Xl kp f i).length=(X5 f i).length:=by unfold Xl; simp
   have e3:(Xl kp f i++[kp.getD i 0]).getD (Xl kp f i).length 0=kp.getD i 0:=by
    rw [List.getD_eq_getElem?_getD,List.getElem?_append_right (Nat.le_refl _),Nat.sub_self]; rfl
   rw [e,e2,List.length_append,List.length_singleton]
   simp only [Qc9,Yy]
   rw [Qpy _ (Nat.le_refl _),e3,←h1]
   have hf':f i=false:=by simpa using hf
   by_cases c:(Qc9 n cl kp f i).2≤(com n cl (kp.getD i 0):Int)
   ·rw [if_pos ⟨hf',c⟩,if_pos c]
    refine ⟨rfl,fun _=>?_⟩
    simp only
    rw [hl,List.getElem?_append_right (Nat.le_refl _),Nat.sub_self]; rfl
   ·rw [if_neg (fun h=>c h.2),if_neg c]
    refine ⟨h1,fun _=>?_⟩
    by_cases c0:0 < (X5 f i).length
    ·have h3:=h2 c0
     have hlt:=(List.getElem?_eq_some_iff.1 h3).1
     rw [List.getElem?_append_left hlt]
     exact h3
    ·exfalso
     apply c
     rw [h1]
     have:(Xl kp f i).length=0:=by omega
     rw [this]
     simp only [Yy]; omega
theorem Qk4:∀(l:List Nat) (p:Nat) (hp:p < l.length),l.Nodup→l.filter (fun i=>!decide (i=l[p]))=l.eraseIdx p
 | [],p,hp,_=>by simp at hp
 | a::l,0,hp,hn=>by
  rw [List.nodup_cons] at hn
  simp only [List.getElem_cons_zero,List.eraseIdx_zero,List.tail_cons]
  rw [List.filter_cons_of_neg (by simp),List.filter_eq_self.2 fun x hx=>by
   have:x≠a:=fun e=>hn.1 (e ▸ hx)
   simp [this]]
 | a::l,p+1,hp,hn=>by
  rw [List.nodup_cons] at hn
  have hp':p < l.length:=by simpa using hp
  simp only [List.getElem_cons_succ,List.eraseIdx_cons_succ]
  have:a≠l[p]:=fun e=>hn.1 (e ▸ List.getElem_mem hp')
  rw [List.filter_cons_of_pos (by simp [this]),Qk4 l p hp' hn.2]
def Qkc (f:Nat → Bool) (j:Nat):Nat → Bool:=fun i=>f i || decide (i=j)
theorem Qrh {f:Nat → Bool} {m p j:Nat} (h:(X5 f m)[p]?=some j):X5 (Qkc f j) m=(X5 f m).eraseIdx p:=by
 obtain ⟨hp,e⟩:=List.getElem?_eq_some_iff.1 h
 have hnd:(X5 f m).Nodup:=List.Nodup.sublist List.filter_sublist List.nodup_range
 rw [←Qk4 _ p hp hnd,e]
 unfold X5
 rw [List.filter_filter]
 refine List.filter_congr fun i _=>?_
 unfold Qkc
 cases f i <;> cases decide (i=j) <;> rfl
theorem Qym {kp:List Nat} {f:Nat → Bool} {m p j:Nat} (h:(X5 f m)[p]?=some j):Xl kp (Qkc f j) m=(Xl kp f m).eraseIdx p:=by
 unfold Xl
 rw [Qrh h,List.eraseIdx_eq_take_drop_succ,List.eraseIdx_eq_take_drop_succ,List.map_append,List.map_take,List.map_drop]
theorem Qp3 {f:Nat → Bool} {m j:Nat}:((List.range m).map f).set j true=(List.range m).map (Qkc f j):=by
 apply List.ext_getElem?
 intro i
 rw [List.getElem?_set,List.getElem?_map,List.getElem?_map,List.length_map,List.length_range]
 unfold Qkc
 by_cases c:j=i
 ·subst c
  by_cases c2:j < m
  ·rw [if_pos rfl,if_pos c2,List.getElem?_range c2]; simp
  ·rw [if_pos rfl,if_neg c2,List.getElem?_eq_none (by simp; omega)]; rfl
 ·rw [if_neg c]
  have:¬ i=j:=fun e=>c e.symm
  by_cases c2:i < m
  ·rw [List.getElem?_range c2]; simp [this]
  ·rw [List.getElem?_eq_none (by simp; omega)]; rfl
theorem Qyz {n:Nat} {cl kp:List Nat} {f:Nat → Bool} {Y:List Int} (hn:n≤8) (hc:∀c∈cl,c < 2^n) (hk:∀s∈kp,s < 2^n) (hl:cl.length≤1000) (hl2:kp.length≤1000) (h0:0 < cl.length) :
  Qa fuel (Jy (nI kp) ((List.range kp.length).map f,nI cl,Y)) ((0:Int),(-1:Int),(0:Int))=some ((Qc9 n cl kp f kp.length).1:Int):=by
 have h:=Zp (n:=kp.length) (k0:=0) (by omega) (by omega) (fun i (t:Int × Int)=>(t.1,t.2,i)) (body:=Jy (nI kp) ((List.range kp.length).map f,nI cl,Y)) (fun k=>(((Qc9 n cl kp f k).1:Int),(Qc9 n cl kp f k).2)) ((Qc9 n cl kp f kp.length).1:Int)
  (fun k _ hk'=>by
   have h1:=hk _ (List.getElem_mem hk')
   have e:kp.getD k 0=kp[k]:=by simp [List.getD,hk']
   have ef:lkI ((List.range kp.length).map f) (k:Int)=some (f k):=by rw [Qt (by simpa using hk')]; simp
   unfold Jy
   dsimp only
   rw [Qn,if_pos (dlt hk'),Vz hk',Option.bind_some,Qqp hn hc h1 hl h0,Option.bind_some,ef,Option.bind_some]
   simp only [Qc9,e]
   by_cases c1:f k=true
   ·rw [if_neg (by simp [c1]),if_neg (by simp [c1])]
   ·have c1':f k=false:=by simpa using c1
    rw [if_pos (by simp [c1'])]
    by_cases c2:(Qc9 n cl kp f k).2≤(com n cl kp[k]:Int)
    ·rw [if_pos (by simpa using c2),if_pos ⟨c1',c2⟩]
    ·rw [if_neg (by simpa using c2),if_neg (fun h=>c2 h.2)])
  (by unfold Jy; dsimp only; rw [Qn,if_neg (nlt _)])
 exact h
theorem Qpx {n:Nat} {kp:List Nat} (hn:n≤8) (hk:∀s∈kp,s < 2^n) (hl2:kp.length≤500):∀(k N:Nat) (f:Nat → Bool) (cl up:List Nat),(X5 f kp.length).length=k→cl.length+k=kp.length→k < N→(∀c∈cl,c < 2^n)→0 < cl.length→up.length≤cl.length →
  Qa N (V3 (nI kp)) ((List.range kp.length).map f,nI cl,(-1:Int)::nI up)=some (nI (bld n k (Xl kp f kp.length) cl up).1,(-1:Int)::nI (bld n k (Xl kp f kp.length) cl up).2)
 | 0,N,f,cl,up,hf,hm,hN,hc,h0,hu=>by
  obtain ⟨N,rfl⟩:∃M,N=M+1:=⟨N - 1,by omega⟩
  have hb:V3 (nI kp) ((List.range kp.length).map f,nI cl,(-1:Int)::nI up)=some (.done (nI cl,(-1:Int)::nI up)):=by
   unfold V3
   dsimp only
   rw [Qn,Qn,if_neg (by rw [decide_eq_true_eq]; omega)]
  simp only [Qa,hb,bld]
 | k+1,N,f,cl,up,hf,hm,hN,hc,h0,hu=>by
  obtain ⟨N,rfl⟩:∃M,N=M+1:=⟨N - 1,by omega⟩
  have hll:(Xl kp f kp.length).length=k+1:=by unfold Xl; rw [List.length_map]; exact hf
  obtain ⟨_,h2⟩:=Qts (n:=n) (cl:=cl) (kp:=kp) (f:=f) kp.length
  have h3:=h2 (by omega)
  have hpi:(Yy n cl (Xl kp f kp.length) (Xl kp f kp.length).length).1=pickI n cl (Xl kp f kp.length):=rfl
  rw [hpi] at h3
  generalize hj:(Qc9 n cl kp f kp.length).1=j at h3
  obtain ⟨hp,e3⟩:=List.getElem?_eq_some_iff.1 h3
  have hjm:j < kp.length:=by
   have:j∈X5 f kp.length:=List.mem_of_getElem? h3
   unfold X5 at this
   exact List.mem_range.1 (List.mem_filter.1 this).1
  have hset:(Xl kp f kp.length).getD (pickI n cl (Xl kp f kp.length)) 0=kp[j]:=by
   unfold Xl at h3 ⊢
   rw [List.getD_eq_getElem?_getD,List.getElem?_map]
   have h3':(X5 f kp.length)[pickI n cl (List.map (fun i=>kp.getD i 0) (X5 f kp.length))]?=some j:=h3
   rw [h3']
   simp [hjm]
  have hkj:=hk _ (List.getElem_mem hjm)
  have el:lkI ((List.range kp.length).map f) (j:Int)=some (f j):=by rw [Qt (by simpa using hjm)]; simp
  have hb:V3 (nI kp) ((List.range kp.length).map f,nI cl,(-1:Int)::nI up)=some (.next ((List.range kp.length).map (Qkc f j),nI (cl++[kp[j]]),(-1:Int)::nI (up++[upI n cl kp[j]]))):=by
   unfold V3
   dsimp only
   rw [Qn,Qn,if_pos (by rw [decide_eq_true_eq]; omega),Qyz hn hc hk (by omega) (by omega) h0,Option.bind_some,hj,Vz hjm,Option.bind_some,Qqp hn hc hkj (by omega) h0,Option.bind_some]
   dsimp only
   rw [if_pos (by rw [List.length_append,Qn]; simp; omega),if_pos (by rw [List.length_append,List.length_cons,Qn]; simp; omega),el,Option.bind_some,Int.toNat_natCast,Qp3]
   congr 3
   all_goals (unfold nI; simp)
  have ih:=Qpx hn hk hl2 k N (Qkc f j) (cl++[kp[j]]) (up++[upI n cl kp[j]]) (by rw [Qrh h3,List.length_eraseIdx,if_pos hp]; omega) (by simp; omega) (by omega)
   (fun c h=>by
    rcases List.mem_append.1 h with h | h
    ·exact hc c h
    ·simp only [List.mem_singleton] at h; rw [h]; exact hkj) (by simp) (by simp; omega)
  rw [Qym h3] at ih
  simp only [Qa,hb,bld]
  rw [hset]
  exact ih
theorem Qu4 {n v:Nat} {g:Int} {F:Nat → Tapi_Node} (hf:Qb1 n g F) (hv:v < n):Qbr ⟨g,Qd n F⟩ (v:Int)=some ((msk n (FG (Qf F) v):Nat):Int):=by
 have hn:=hf.n8
 have hpar:=fun v hv=>(Vx (hf.node v hv).1.1).2.2
 unfold Qbr
 rw [Qm8 hn (fun v hv=>(hf.node v hv).1.1),Option.bind_some,Ql9 hn hpar,Qap hv,Option.bind_some,Yd (n:=v) (by omega),if_pos (Xr v),Qre (by omega) hv]
theorem Qyx {n:Nat} {g:Int} {F:Nat → Tapi_Node} {cl:List Nat} {v:Nat} {X Y:List Int} (hf:Qb1 n g F) (hv:v < n) (hc:∀c∈cl,c < 18446744073709551616) (hl:cl.length≤1000) (h:∃c∈cl,Xi (msk n (FG (Qf F) v)) c=true) :
  Qa fuel (J7 ⟨g,Qd n F⟩ ((v:Int),X) (nI cl,Y)) 0=some (homeI cl (msk n (FG (Qf F) v)):Int):=by
 have hn:=hf.n8
 have p8:(2:Nat)^n≤256:=Nat.pow_le_pow_right (n:=2) (by omega) hn
 have hfl:msk n (FG (Qf F) v) < 18446744073709551616:=by have:=Yf n (FG (Qf F) v); omega
 have hu:=Qt1 h
 have hstep:∀k (hk:k < cl.length),J7 ⟨g,Qd n F⟩ ((v:Int),X) (nI cl,Y) (k:Int)=some (if Xi (msk n (FG (Qf F) v)) cl[k]=true then .done (k:Int) else .next (zw ((k:Int)+1))):=fun k hk=>by
  unfold J7
  dsimp only
  rw [Qu4 hf hv,Option.bind_some,Vz hk,Option.bind_some]
  have hw:=Qgk hfl (hc _ (List.getElem_mem hk))
  by_cases c:Xi (msk n (FG (Qf F) v)) cl[k]=true
  ·have:=hw.2 c
   rw [if_neg (by simp at this ⊢; exact this),if_pos c]
  ·have:¬ _:=fun hh=>c (hw.1 hh)
   rw [if_pos (by simp at this ⊢; exact this),if_neg c]
 generalize msk n (FG (Qf F) v)=fm at *
 have hr:=Kk (n:=homeI cl fm+1) (k0:=0) (by omega) (by omega) (fun i (_:Unit)=>i) (body:=J7 ⟨g,Qd n F⟩ ((v:Int),X) (nI cl,Y)) (fun k _=>k≤homeI cl fm) (fun r=>r=(homeI cl fm:Int))
  (fun k _ _ hk _=>by
   by_cases e:k=homeI cl fm
   ·right
    refine ⟨(k:Int),?_,by rw [e]⟩
    rw [hstep k (by omega),if_pos (by
     have:=List.findIdx_getElem (w:=hu)
     unfold homeI at e
     subst e; exact this)]
   ·left
    refine ⟨(),?_,by omega⟩
    rw [hstep k (by omega),if_neg (by
     have:=List.not_of_lt_findIdx (show k < cl.findIdx (Xi fm) by unfold homeI at hk e; omega)
     intro h
     rw [h] at this; cases this)])
  (fun _ hI=>by omega) () (by omega)
 obtain ⟨r,e1,rfl⟩:=hr
 exact e1
theorem Qn1 {m:Nat} (h:0 < m):X5 (fun i=>decide (i=m - 1)) m=List.range (m - 1):=by
 obtain ⟨k,rfl⟩:∃k,m=k+1:=⟨m - 1,by omega⟩
 rw [Qjp,if_pos (by simp)]
 unfold X5
 rw [List.filter_eq_self.2 fun x hx=>by
  have:=List.mem_range.1 hx
  simp; omega]
 simp
theorem Quo {kp:List Nat} (h:0 < kp.length):Xl kp (fun i=>decide (i=kp.length - 1)) kp.length=kp.take (kp.length - 1):=by
 unfold Xl
 rw [Qn1 h]
 apply List.ext_getElem?
 intro i
 rw [List.getElem?_map,List.getElem?_take]
 by_cases c:i < kp.length - 1
 ·rw [List.getElem?_range c,if_pos c,List.getElem?_eq_getElem (by omega)]
  simp [List.getElem?_eq_getElem (show i < kp.length by omega)]
 ·rw [if_neg c,List.getElem?_eq_none (by simp; omega)]; rfl
theorem Qzs {n:Nat} {g:Int} {F:Nat → Tapi_Node} {o:List Nat} (hf:Qb1 n g F) (ho:Ord n o):Qdm ⟨g,Qd n F⟩ (nI o)=some (mkT n (Qf F) o):=by
 have hn:=hf.n8
 have h1:=hf.n1
 have hpar:=fun v hv=>(Vx (hf.node v hv).1.1).2.2
 have hself:∀v,v < n→v ∉ Qf F v:=fun v hv hm=>by
  obtain ⟨rk,hrk⟩:=hf.rank
  have:=hrk v hv v hm; omega
 have p8:(2:Nat)^n≤256:=Nat.pow_le_pow_right (n:=2) (by omega) hn
 have hop:0 < o.length:=by rw [ho.len]; omega
 have hp:=Qlz (n:=n) (A:=mg n (Qf F)) hop
 have hle:=Qr0 (n:=n) (A:=mg n (Qf F)) (o:=o)
 rw [ho.len] at hle
 obtain ⟨m1,m2,m3⟩:=Qly (n:=n) (A:=mg n (Qf F)) hop
 have hlt:∀s∈mkK n (mg n (Qf F)) o,s < 2^n:=Qxv
 have hsets:Qdk ⟨g,Qd n F⟩ (nI o)=some (nI (setL n (mg n (Qf F)) o)):=by
  unfold Qdk
  rw [Qm8 hn (fun v hv=>(hf.node v hv).1.1),Option.bind_some,Ql9 hn hpar,Qw8 h1 hn hself,Option.bind_some,Qzu h1 hn Qo7 ho.lt ho.nodup]; rfl
 have hkeep:=Qyn (l:=setL n (mg n (Qf F)) o) (by rw [Qee,ho.len]; omega) (fun s hs=>by have:=Ql6 _ _ s hs; omega)
 unfold Qdm
 rw [hsets,Option.bind_some,hkeep,Option.bind_some]
 rw [show Z9 (setL n (mg n (Qf F)) o)=mkK n (mg n (Qf F)) o from rfl,Qn,w64 (n:=((mkK n (mg n (Qf F)) o).length:Int) - 1) (by omega),show ((mkK n (mg n (Qf F)) o).length:Int) - 1=(((mkK n (mg n (Qf F)) o).length - 1:Nat):Int) by omega,Vz (by omega),Option.bind_some,if_pos (by omega),Int.toNat_natCast,Qt (by rw [List.length_replicate]; omega),Option.bind_some,Option.bind_some,Int.toNat_natCast]
 have eg:(mkK n (mg n (Qf F)) o).getD ((mkK n (mg n (Qf F)) o).length - 1) 0=(mkK n (mg n (Qf F)) o)[(mkK n (mg n (Qf F)) o).length - 1]:=by
  rw [List.getD_eq_getElem?_getD,List.getElem?_eq_getElem (by omega)]; rfl
 have efl:(List.replicate (mkK n (mg n (Qf F)) o).length false).set ((mkK n (mg n (Qf F)) o).length - 1) true=(List.range (mkK n (mg n (Qf F)) o).length).map (fun i=>decide (i=(mkK n (mg n (Qf F)) o).length - 1)):=by
  have e0:List.replicate (mkK n (mg n (Qf F)) o).length false=(List.range (mkK n (mg n (Qf F)) o).length).map fun _=>false:=by
   apply List.ext_getElem?
   intro i
   rw [List.getElem?_replicate,List.getElem?_map]
   by_cases c:i < (mkK n (mg n (Qf F)) o).length
   ·rw [if_pos c,List.getElem?_range c]; rfl
   ·rw [if_neg c,List.getElem?_eq_none (by simp; omega)]; rfl
  rw [e0,Qp3]
  refine List.map_congr_left fun i _=>?_
  unfold Qkc; simp
 have hbl:=Qpx hn hlt (by omega) ((mkK n (mg n (Qf F)) o).length - 1) fuel (fun i=>decide (i=(mkK n (mg n (Qf F)) o).length - 1)) [(mkK n (mg n (Qf F)) o).getD ((mkK n (mg n (Qf F)) o).length - 1) 0] [] (by rw [Qn1 hp,List.length_range]) (by simp; omega) (by show _ < 1152921504606846976; omega)
  (fun c hc=>by simp only [List.mem_singleton] at hc; rw [hc,eg]; exact hlt _ (List.getElem_mem _)) (by simp) (by simp)
 rw [Quo hp] at hbl
 rw [show nI [(mkK n (mg n (Qf F)) o).getD ((mkK n (mg n (Qf F)) o).length - 1) 0]=[(((mkK n (mg n (Qf F)) o)[(mkK n (mg n (Qf F)) o).length - 1]:Nat):Int)] by unfold nI; rw [eg]; rfl,show nI []=[] from rfl] at hbl
 rw [efl,hbl,Option.bind_some]
 rw [show bld n ((mkK n (mg n (Qf F)) o).length - 1) ((mkK n (mg n (Qf F)) o).take ((mkK n (mg n (Qf F)) o).length - 1)) [(mkK n (mg n (Qf F)) o).getD ((mkK n (mg n (Qf F)) o).length - 1) 0] []=mkB n (mg n (Qf F)) o from rfl]
 have hcl:∀c∈(mkB n (mg n (Qf F)) o).1,c < 18446744073709551616:=fun c hc=>by have:=hlt c ((m1 c).2 hc); omega
 have hlen:(Qd n F).length=n:=Zb
 have h:=Zp (n:=n) (k0:=0) (by omega) (by omega) (fun i (t:List Int)=>(i,t)) (body:=Qar ⟨g,Qd n F⟩ (nI (mkB n (mg n (Qf F)) o).1,(-1:Int)::nI (mkB n (mg n (Qf F)) o).2))
  (fun k=>nI ((List.range k).map fun v=>homeI (mkB n (mg n (Qf F)) o).1 (msk n (FG (Qf F) v)))) (nI ((List.range n).map fun v=>homeI (mkB n (mg n (Qf F)) o).1 (msk n (FG (Qf F) v))))
  (fun k _ hk=>by
   unfold Qar
   dsimp only
   rw [hlen,if_pos (dlt hk),Qyx hf hk hcl (by omega) (Qv6 ho hk (hpar k hk)),Option.bind_some,if_pos (by rw [List.length_append,Qn,List.length_map,List.length_range]; simp; omega)]
   congr 3
   rw [List.range_succ,List.map_append,←Qqj]; rfl)
  (by unfold Qar; dsimp only; rw [hlen,if_neg (nlt n)])
 rw [show ((0:Nat):Int)=0 from rfl] at h
 rw [show nI ((List.range 0).map fun v=>homeI (mkB n (mg n (Qf F)) o).1 (msk n (FG (Qf F) v)))=[] from rfl] at h
 rw [h]; rfl
end Go.Ab
namespace Go.Ab
open Go
theorem Qcr {cs:List AV} (h:WT (.int .u8) cs):∃a:Int,cs=[(AV.int .u8) a]∧(Lit.int .u8 a).wf=true:=by
 obtain ⟨n,rfl,w⟩:=h
 exact ⟨n,rfl,w⟩
theorem el5 {x:AV} (h:WT (.int .u8) x.flat ∧ (if false then x=.agg x.flat else x.cell=true)):∃a:Int,x=(AV.int .u8) a∧(Lit.int .u8 a).wf=true:=by
 obtain ⟨a,h1,h2⟩:=Qcr h.1
 rw [Qp2 h.2] at h1
 exact ⟨a,(List.cons.inj h1).1,h2⟩
theorem Qz3 {cs:List AV} (h:WT (.slice true false 1 (.int .u8)) cs):∃a:(List Int),cs=[(eL true (AV.int .u8)) a]∧(a.length≤maxLen∧∀y0∈a,(Lit.int .u8 y0).wf=true):=by
 obtain ⟨xs,rfl,hl,hx⟩:=h
 obtain ⟨l,rfl,hr⟩:=Qnb (enc:=(AV.int .u8)) (R:=fun a=>(Lit.int .u8 a).wf=true) (fun x hm=>el5 (hx x hm))
 exact ⟨l,rfl,by simpa using hl,hr⟩
def Yh (x:Qz):Prop:=((Lit.int .u8 x.Card).wf=true)∧((Lit.int .u8 x.Parents).wf=true)∧((x.W.length≤maxLen∧∀y0∈x.W,(Lit.int .u8 y0).wf=true))
theorem Qhw {cs:List AV} (h:WT (.cat (.int .u8) (.cat (.int .u8) (.cat (.slice true false 1 (.int .u8)) .unit))) cs):∃x:Qz,AV.agg cs=eTharuspexref05_Piece x∧Yh x:=by
 obtain ⟨_,_,rfl,a0,r0⟩:=h
 obtain ⟨v0,e0,w0⟩:=Qcr a0
 cases e0
 obtain ⟨_,_,rfl,a1,r1⟩:=r0
 obtain ⟨v1,e1,w1⟩:=Qcr a1
 cases e1
 obtain ⟨_,_,rfl,a2,r2⟩:=r1
 obtain ⟨v2,e2,w2⟩:=Qz3 a2
 cases e2
 cases r2
 exact ⟨⟨v0,v1,v2⟩,rfl,⟨w0,w1,w2⟩⟩
theorem Q3u {x:AV} (h:WT (.cat (.int .u8) (.cat (.int .u8) (.cat (.slice true false 1 (.int .u8)) .unit))) x.flat ∧ (if true then x=.agg x.flat else x.cell=true)):∃a:Qz,x=eTharuspexref05_Piece a∧Yh a:=by
 obtain ⟨a,h1,h2⟩:=Qhw h.1
 have h3:x=.agg x.flat := h.2
 exact ⟨a,h3.trans h1,h2⟩
theorem Q3l {cs:List AV} (h:WT (.slice false true 3 (.cat (.int .u8) (.cat (.int .u8) (.cat (.slice true false 1 (.int .u8)) .unit)))) cs):∃a:(List Qz),cs=[(eL false eTharuspexref05_Piece) a]∧(a.length≤maxLen∧∀y0∈a,Yh y0):=by
 obtain ⟨xs,rfl,hl,hx⟩:=h
 obtain ⟨l,rfl,hr⟩:=Qnb (enc:=eTharuspexref05_Piece) (R:=fun a=>Yh a) (fun x hm=>Q3u (hx x hm))
 exact ⟨l,rfl,by simpa using hl,hr⟩
def Vn (x:Qe):Prop:=((Lit.int .u8 x.Grain).wf=true)∧((x.Nodes.length≤maxLen∧∀y0∈x.Nodes,Yh y0))∧((x.Order.length≤maxLen∧∀y0∈x.Order,(Lit.int .u8 y0).wf=true))
theorem rdTharuspexref05_Draft {cs:List AV} (h:WT (.cat (.int .u8) (.cat (.slice false true 3 (.cat (.int .u8) (.cat (.int .u8) (.cat (.slice true false 1 (.int .u8)) .unit)))) (.cat (.slice true false 1 (.int .u8)) .unit))) cs):∃x:Qe,AV.agg cs=eTharuspexref05_Draft x∧Vn x:=by
 obtain ⟨_,_,rfl,a0,r0⟩:=h
 obtain ⟨v0,e0,w0⟩:=Qcr a0
 cases e0
 obtain ⟨_,_,rfl,a1,r1⟩:=r0
 obtain ⟨v1,e1,w1⟩:=Q3l a1
 cases e1
 obtain ⟨_,_,rfl,a2,r2⟩:=r1
 obtain ⟨v2,e2,w2⟩:=Qz3 a2
 cases e2
 cases r2
 exact ⟨⟨v0,v1,v2⟩,rfl,⟨w0,w1,w2⟩⟩
theorem Q13 {cs:List AV} (h:WT (.int .i64) cs):∃a:Int,cs=[eI a]∧(Lit.int .i64 a).wf=true:=by
 obtain ⟨n,rfl,w⟩:=h
 exact ⟨n,rfl,w⟩
theorem el3 {x:AV} (h:WT (.int .i64) x.flat ∧ (if false then x=.agg x.flat else x.cell=true)):∃a:Int,x=eI a∧(Lit.int .i64 a).wf=true:=by
 obtain ⟨a,h1,h2⟩:=Q13 h.1
 rw [Qp2 h.2] at h1
 exact ⟨a,(List.cons.inj h1).1,h2⟩
def Kp (x:Zd):Prop:=((Lit.int .u8 x.What).wf=true)∧((Lit.int .u8 x.At).wf=true)∧((Lit.int .u8 x.Row).wf=true)∧((Lit.int .i64 x.N).wf=true)
theorem rdTharuspexref05_Bend {cs:List AV} (h:WT (.cat (.int .u8) (.cat (.int .u8) (.cat (.int .u8) (.cat (.int .i64) .unit)))) cs):∃x:Zd,AV.agg cs=eTharuspexref05_Bend x∧Kp x:=by
 obtain ⟨_,_,rfl,a0,r0⟩:=h
 obtain ⟨v0,e0,w0⟩:=Qcr a0
 cases e0
 obtain ⟨_,_,rfl,a1,r1⟩:=r0
 obtain ⟨v1,e1,w1⟩:=Qcr a1
 cases e1
 obtain ⟨_,_,rfl,a2,r2⟩:=r1
 obtain ⟨v2,e2,w2⟩:=Qcr a2
 cases e2
 obtain ⟨_,_,rfl,a3,r3⟩:=r2
 obtain ⟨v3,e3,w3⟩:=Q13 a3
 cases e3
 cases r3
 exact ⟨⟨v0,v1,v2,v3⟩,rfl,⟨w0,w1,w2,w3⟩⟩
theorem rdA28 {cs:List AV} (h:WT (.cat (.int .u8) (.cat (.int .u8) (.cat (.int .u8) (.cat (.int .u8) (.cat (.int .u8) (.cat (.int .u8) (.cat (.int .u8) (.cat (.int .u8) .unit)))))))) cs):∃x:(Int × Int × Int × Int × Int × Int × Int × Int),AV.agg cs=(fun x:(Int × Int × Int × Int × Int × Int × Int × Int)=>AV.agg [.int .u8 x.1,.int .u8 x.2.1,.int .u8 x.2.2.1,.int .u8 x.2.2.2.1,.int .u8 x.2.2.2.2.1,.int .u8 x.2.2.2.2.2.1,.int .u8 x.2.2.2.2.2.2.1,.int .u8 x.2.2.2.2.2.2.2]) x∧((Lit.int .u8 x.1).wf=true∧(Lit.int .u8 x.2.1).wf=true∧(Lit.int .u8 x.2.2.1).wf=true∧(Lit.int .u8 x.2.2.2.1).wf=true∧(Lit.int .u8 x.2.2.2.2.1).wf=true∧(Lit.int .u8 x.2.2.2.2.2.1).wf=true∧(Lit.int .u8 x.2.2.2.2.2.2.1).wf=true∧(Lit.int .u8 x.2.2.2.2.2.2.2).wf=true):=by
 obtain ⟨_,_,rfl,a0,r0⟩:=h
 obtain ⟨v0,e0,w0⟩:=Qcr a0
 cases e0
 obtain ⟨_,_,rfl,a1,r1⟩:=r0
 obtain ⟨v1,e1,w1⟩:=Qcr a1
 cases e1
 obtain ⟨_,_,rfl,a2,r2⟩:=r1
 obtain ⟨v2,e2,w2⟩:=Qcr a2
 cases e2
 obtain ⟨_,_,rfl,a3,r3⟩:=r2
 obtain ⟨v3,e3,w3⟩:=Qcr a3
 cases e3
 obtain ⟨_,_,rfl,a4,r4⟩:=r3
 obtain ⟨v4,e4,w4⟩:=Qcr a4
 cases e4
 obtain ⟨_,_,rfl,a5,r5⟩:=r4
 obtain ⟨v5,e5,w5⟩:=Qcr a5
 cases e5
 obtain ⟨_,_,rfl,a6,r6⟩:=r5
 obtain ⟨v6,e6,w6⟩:=Qcr a6
 cases e6
 obtain ⟨_,_,rfl,a7,r7⟩:=r6
 obtain ⟨v7,e7,w7⟩:=Qcr a7
 cases e7
 cases r7
 exact ⟨(v0,v1,v2,v3,v4,v5,v6,v7),rfl,⟨w0,w1,w2,w3,w4,w5,w6,w7⟩⟩
theorem one34 {cs:List AV} (h:WT (.slice true false 1 (.int .i64)) cs):∃a:(List Int),cs=[(eL true eI) a]∧(a.length≤maxLen∧∀y0∈a,(Lit.int .i64 y0).wf=true):=by
 obtain ⟨xs,rfl,hl,hx⟩:=h
 obtain ⟨l,rfl,hr⟩:=Qnb (enc:=eI) (R:=fun a=>(Lit.int .i64 a).wf=true) (fun x hm=>el3 (hx x hm))
 exact ⟨l,rfl,by simpa using hl,hr⟩
end Go.Ab
namespace Go.Ab
open Go
set_option maxRecDepth 100000
set_option maxHeartbeats 400000
theorem Qaq {n:Int} (h:(Lit.int .u8 n).wf=true):0≤n∧n≤255:=by
 simpa [Lit.wf,IntKind.min,IntKind.max,IntKind.bits,IntKind.signed] using h
theorem Q0x {p0:Qe} (h:Vn p0):Qut p0:=by
 refine ⟨Qaq h.1,fun x hx=>Qaq (h.2.2.2 x hx),fun p hp=>Qaq (h.2.1.2 p hp).1,fun p hp x hx=>Qaq ((h.2.1.2 p hp).2.2.2 x hx),fun p hp=>?_⟩
 have:=(h.2.1.2 p hp).2.2.1
 unfold maxLen at this; omega
theorem Qx4 {n:Nat} {f:Nat → Int}:(Qd n f).sum=Qw n f:=by
 induction n with
 | zero=>rfl
 | succ n ih=>rw [←Qg7,List.sum_append,ih]; simp [Qw]
theorem Qyt {D:NF} (X:VX D):Qb1 D.n D.g D.node:=by
 have V:=X.vn
 have hc:∀v,v < D.n→Kt (D.node v):=fun v hv=>by
  have:=V.card v hv
  exact ⟨by show (1:Int)≤(D.card v:Int); omega,by show (D.card v:Int)≤4; omega⟩
 have ec:cardN D.node=D.card:=funext fun v=>by unfold cardN NF.node; simp
 have ep:Qf D.node=D.par:=funext fun v=>by
  unfold Qf NF.node
  rw [List.map_map]
  conv=>rhs; rw [←List.map_id (D.par v)]
  exact List.map_congr_left fun x _=>by simp
 refine ⟨by have:=V.g1; omega,by have:=V.g60; omega,V.n1,V.n8,hc,by rw [ec]; exact V.worlds,fun v hv=>⟨⟨⟨D.par v,rfl,X.sorted v hv,V.par v hv⟩,fun hm=>?_⟩,?_,fun r hr=>?_⟩,by rw [ep]; obtain ⟨rk,h⟩:=X.rank; exact ⟨rk,h⟩⟩
 ·have hm:(v:Int)∈nI (D.par v):=hm
  unfold nI at hm
  obtain ⟨p,hp,e⟩:=List.mem_map.1 hm
  have:p=v:=by omega
  subst this
  exact X.self p hv hp
 ·rw [ec,ep]; show (Qd (D.rows v) _).length=_; rw [Zb]; rfl
 ·have hr:r∈Qd (D.rows v) fun r=>Qd (D.card v) fun x=>(D.W v r x:Int):=hr
  unfold Qd at hr
  obtain ⟨i,hi,rfl⟩:=List.mem_map.1 hr
  have hi:=List.mem_range.1 hi
  have e:=X.sum v i hv hi
  have h1:((List.range (D.card v)).map fun x=>(D.W v i x:Int))=Qd (D.card v) fun x=>(D.W v i x:Int):=rfl
  rw [h1]
  refine ⟨by rw [Zb]; rfl,fun w hw=>?_,by rw [Qx4]; exact e⟩
  unfold Qd at hw
  obtain ⟨x,_,rfl⟩:=List.mem_map.1 hw
  omega
theorem Qul {D:NF} (X:VX D):∀x∈Qd D.n D.node,Kb 65536 x:=fun x hx=>by
 have V:=X.vn
 unfold Qd at hx
 obtain ⟨v,hv,rfl⟩:=List.mem_map.1 hx
 have hv:=List.mem_range.1 hv
 have hc:=V.card v hv
 refine ⟨?_,?_,fun r hr=>?_⟩
 ·have:=V.len v hv
  show (List.map _ (D.par v)).length≤_
  rw [List.length_map]; omega
 ·show (Qd (D.rows v) _).length≤_
  rw [Zb]; exact V.rows_le hv
 ·have hr:r∈Qd (D.rows v) fun r=>Qd (D.card v) fun x=>(D.W v r x:Int):=hr
  unfold Qd at hr
  obtain ⟨i,hi,rfl⟩:=List.mem_map.1 hr
  rw [List.length_map,List.length_range]; omega
theorem Q04 {n:Nat} {F:Nat → Tapi_Node} (h:∀x∈Qd n F,Kb 65536 x):NB n F:=by
 have key:∀v,v < n→Kb 65536 (F v):=fun v hv=>h _ (by unfold Qd; exact List.mem_map.2 ⟨v,List.mem_range.2 hv,rfl⟩)
 exact ⟨fun v hv=>by have:=(key v hv).par; omega,fun v hv=>by have:=(key v hv).rows; omega,fun v hv r hr=>by have:=(key v hv).row r hr; omega⟩
theorem Qzf {p0:Qe} {p1:Zd} (h0:Vn p0) (h1:Kp p1) :
  ∃(D:NF) (n:Nat) (g:Int) (F:Nat → Tapi_Node),VX D∧D.n≤5∧NB D.n D.node∧Qb1 D.n D.g D.node∧NB n F∧n≤6∧V9 p0=some ⟨D.g,Qd D.n D.node⟩∧Kd p1 ⟨D.g,Qd D.n D.node⟩=some ⟨g,Qd n F⟩:=by
 obtain ⟨D,X,hn,_,e⟩:=Qw5 (Q0x h0)
 have hs:=Qul X
 have V:=X.vn
 have hlen:(Qd D.n D.node).length=D.n:=Zb
 obtain ⟨g,l,e2,h2,h3⟩:=Qyr (b:=p1) (g:=D.g) (l:=Qd D.n D.node) (m:=65536) (by omega) (by rw [hlen]; exact V.n1) (by rw [hlen]; exact V.n8) hs (Qaq h1.2.1) (Qaq h1.2.2.1)
 rw [hlen] at h2
 refine ⟨D,l.length,g,fun v=>(l[v]?).getD default,X,hn,Q04 hs,Qyt X,Q28 (m:=65536+1) (by omega) h3,by omega,e,?_⟩
 rw [e2,←Qyl]
theorem Qwa (l:List Int) (h:l.length≤1000):Qde l l=some true:=by
 unfold Qde
 rw [if_neg (by simp)]
 have hr:=Zp (n:=l.length) (k0:=0) (by omega) (by omega) (fun i (_:Unit)=>i) (body:=Qas l l) (fun _=>()) (.inr ())
  (fun k _ hk=>by
   unfold Qas
   rw [if_pos (dlt hk),Qt hk,Option.bind_some,Option.bind_some,if_neg (by simp)])
  (by unfold Qas; rw [if_neg (nlt _)])
 rw [show ((0:Nat):Int)=0 from rfl] at hr
 rw [hr]; rfl
theorem Qpv (l:List Int) (h:l.length≤1000):Qbc l l=some true:=by
 unfold Qbc
 rw [if_neg (by simp)]
 have hr:=Zp (n:=l.length) (k0:=0) (by omega) (by omega) (fun i (_:Unit)=>i) (body:=Qan l l) (fun _=>()) (.inr ())
  (fun k _ hk=>by
   unfold Qan
   rw [if_pos (dlt hk),Qt hk,Option.bind_some,Option.bind_some,if_neg (by simp)])
  (by unfold Qan; rw [if_neg (nlt _)])
 rw [show ((0:Nat):Int)=0 from rfl] at hr
 rw [hr]; rfl
theorem Qli (t:Qp) (h1:t.Cliques.length≤1000) (h2:t.Up.length≤1000) (h3:t.Home.length≤1000):Yg t t=some true:=by
 unfold Yg
 rw [Qwa _ h1,Option.bind_some,if_pos rfl,Qpv _ h2,Option.bind_some,if_pos rfl,Qpv _ h3]; rfl
theorem Q1c {n:Nat} {q:Nat → List Nat} {o:List Nat} (ho:Ord n o) (h1:1≤n):(mkT n q o).Cliques.length≤n∧1≤(mkT n q o).Cliques.length∧(mkT n q o).Up.length=(mkT n q o).Cliques.length∧(mkT n q o).Home.length=n:=by
 have hop:0 < o.length:=by rw [ho.len]; omega
 have hp:=Qlz (n:=n) (A:=mg n q) hop
 have hle:=Qr0 (n:=n) (A:=mg n q) (o:=o)
 rw [ho.len] at hle
 obtain ⟨_,m2,m3⟩:=Qly (n:=n) (A:=mg n q) hop
 have c1:(mkT n q o).Cliques.length=(mkK n (mg n q) o).length:=by show (nI _).length=_; rw [Qn,m2]
 have c2:(mkT n q o).Up.length=(mkK n (mg n q) o).length:=by show ((-1:Int)::nI _).length=_; rw [List.length_cons,Qn,m3]; omega
 have c3:(mkT n q o).Home.length=n:=by show (nI _).length=_; rw [Qn,List.length_map,List.length_range]
 exact ⟨by omega,by omega,by omega,c3⟩
theorem Qv0:Qfg=some true:=by kernel_rfl
theorem Qx5 {n:Nat} {g:Int} {F:Nat → Tapi_Node} {x14 p3 x16:List Int} (hb:NB n F) (hn:n≤1000) (h14:x14.length≤1000) (h16:x16.length≤1000) :
  Qa fuel (X6 x14 p3 x16 ⟨g,Qd n F⟩) 0=some (.inr ()):=by
 have hlen:(Qd n F).length=n:=Zb
 have hsub:(sub p3 0 (if 10 < (p3.length:Int) then 10 else (p3.length:Int))).length≤1000:=by
  unfold sub
  rw [List.length_take,List.length_drop]
  split <;> simp <;> omega
 have body:∀(k:Nat) (l:List Int),k < 3→lkI ([x14,(sub p3 0 (if 10 < (p3.length:Int) then 10 else (p3.length:Int))),x16]:(List (List Int))) (k:Int)=some l→l.length≤1000→X6 x14 p3 x16 ⟨g,Qd n F⟩ (k:Int)=some (.next (zw ((k:Int)+1))):=fun k l hk hl hll=>by
  unfold X6
  dsimp only
  rw [if_pos (by rw [decide_eq_true_eq]; omega),hl,Option.bind_some]
  rcases Qwq (g:=g) (l:=l) hb hn hll with ⟨hf,e⟩ | ⟨hf,hp,e⟩ | ⟨hf,o,rfl,ho,e⟩
  ·rcases Qi4 (g:=g) hb with ⟨hf',_⟩ | ⟨_,e2⟩
   ·exact absurd hf' hf
   ·rw [e,Option.bind_some,e2,Option.bind_some,if_pos (by decide),if_neg (by decide)]
    rw [show Yg Qnh (Qp.mk [] [] [])=some true from Qli _ (Nat.zero_le _) (Nat.zero_le _) (Nat.zero_le _),Option.bind_some,if_neg (by decide)]
  ·rcases Qi4 (g:=g) hb with ⟨_,e2⟩ | ⟨hf',_⟩
   ·rcases Qnm (l:=l) hf.n8 hll with ⟨h,_⟩ | ⟨_,e3⟩
    ·exact absurd h hp
    ·rw [e,Option.bind_some,e2,Option.bind_some,if_neg (by decide),hlen,e3,Option.bind_some,if_pos (by decide),if_neg (by decide)]
     rw [show Yg Qnh (Qp.mk [] [] [])=some true from Qli _ (Nat.zero_le _) (Nat.zero_le _) (Nat.zero_le _),Option.bind_some,if_neg (by decide)]
   ·exact absurd hf hf'
  ·rcases Qi4 (g:=g) hb with ⟨_,e2⟩ | ⟨hf',_⟩
   ·have hok:okL n (nI o)∧(nI o).length=n:=by
     refine ⟨⟨fun x hx=>?_,?_⟩,by rw [Qn]; exact ho.len⟩
     ·unfold nI at hx
      obtain ⟨y,hy,rfl⟩:=List.mem_map.1 hx
      have:=ho.lt y hy; omega
     ·unfold nI
      have h:=ho.nodup
      rw [List.nodup_iff_pairwise_ne] at h ⊢
      rw [List.pairwise_map]
      exact h.imp fun h=>by omega
    rcases Qnm (l:=nI o) hf.n8 hll with ⟨_,e3⟩ | ⟨h,_⟩
    ·obtain ⟨l1,l2,l3,l4⟩:=Q1c (q:=Qf F) ho hf.n1
     rw [e,Option.bind_some,e2,Option.bind_some,if_neg (by decide),hlen,e3,Option.bind_some,if_neg (by decide),if_neg (by simp),Qzs hf ho,Option.bind_some]
     dsimp only
     rw [Qli _ (by omega) (by omega) (by omega),Option.bind_some,if_neg (by decide)]
    ·exact absurd hok h
   ·exact absurd hf hf'
 have h:=Zp (n:=3) (k0:=0) (by omega) (by omega) (fun i (_:Unit)=>i) (body:=X6 x14 p3 x16 ⟨g,Qd n F⟩) (fun _=>()) (.inr ())
  (fun k _ hk=>by
   match k,hk with
   | 0,_=>exact body 0 x14 (by omega) rfl h14
   | 1,_=>exact body 1 _ (by omega) rfl hsub
   | 2,_=>exact body 2 x16 (by omega) rfl h16)
  (by unfold X6; rw [if_neg (by decide)])
 exact h
theorem Q17 {p2:Int × Int × Int × Int × Int × Int × Int × Int} (h:(Lit.int .u8 p2.1).wf=true∧(Lit.int .u8 p2.2.1).wf=true∧(Lit.int .u8 p2.2.2.1).wf=true∧(Lit.int .u8 p2.2.2.2.1).wf=true∧(Lit.int .u8 p2.2.2.2.2.1).wf=true∧(Lit.int .u8 p2.2.2.2.2.2.1).wf=true∧(Lit.int .u8 p2.2.2.2.2.2.2.1).wf=true∧(Lit.int .u8 p2.2.2.2.2.2.2.2).wf=true):ok8 p2 :=
 ⟨Qaq h.1,Qaq h.2.1,Qaq h.2.2.1,Qaq h.2.2.2.1,Qaq h.2.2.2.2.1,Qaq h.2.2.2.2.2.1,Qaq h.2.2.2.2.2.2.1,Qaq h.2.2.2.2.2.2.2⟩
theorem makes_true (p0:Qe) (p1:Zd) (p2:Int × Int × Int × Int × Int × Int × Int × Int) (p3:List Int) (h0:Vn p0) (h1:Kp p1)
  (h2:(Lit.int .u8 p2.1).wf=true∧(Lit.int .u8 p2.2.1).wf=true∧(Lit.int .u8 p2.2.2.1).wf=true∧(Lit.int .u8 p2.2.2.2.1).wf=true∧(Lit.int .u8 p2.2.2.2.2.1).wf=true∧(Lit.int .u8 p2.2.2.2.2.2.1).wf=true∧(Lit.int .u8 p2.2.2.2.2.2.2.1).wf=true∧(Lit.int .u8 p2.2.2.2.2.2.2.2).wf=true)
  (h3:p3.length≤maxLen∧∀y0∈p3,(Lit.int .i64 y0).wf=true):Qb5 p0 p1 p2 p3=some true:=by
 obtain ⟨D,n,g,F,X,hD5,hDB,hDF,hB,hn6,e1,e2⟩:=Qzf h0 h1
 have h8:=Q17 h2
 have hDl:(Qd D.n D.node).length=D.n:=Zb
 have hl:(Qd n F).length=n:=Zb
 obtain ⟨o,ho,eo⟩:=Qlo (n:=D.n) (by omega) h8
 obtain ⟨o',ho',eo'⟩:=Qlo (n:=n) (by omega) h8
 unfold Qb5
 rw [Qv0,Option.bind_some,if_neg (by decide),e1,Option.bind_some,e2,Option.bind_some]
 have hstep:∀(k:Nat) (m:Nat) (gg:Int) (G:Nat → Tapi_Node),k < 2→lkI ([⟨D.g,Qd D.n D.node⟩,⟨g,Qd n F⟩]:(List Qc)) (k:Int)=some ⟨gg,Qd m G⟩→NB m G→m≤1000→Y7 ⟨D.g,Qd D.n D.node⟩ ⟨g,Qd n F⟩ p2 p3 (k:Int)=some (.next (zw ((k:Int)+1))):=fun k m gg G hk hlk hb hm=>by
  have hml:(Qd m G).length=m:=Zb
  obtain ⟨u,hu,eu⟩:=Qlo (n:=m) hm h8
  unfold Y7
  dsimp only
  rw [if_pos (by rw [decide_eq_true_eq]; omega),hlk,Option.bind_some,hDl]
  rw [show (p2.1,p2.2.1,p2.2.2.1,p2.2.2.2.1,p2.2.2.2.2.1,p2.2.2.2.2.2.1,p2.2.2.2.2.2.2.1,p2.2.2.2.2.2.2.2)=p2 from rfl,eo,Option.bind_some,if_pos (by split <;> omega)]
  dsimp only
  rw [hml,eu,Option.bind_some,Qx5 hb hm (by rw [Qn,ho.len]; omega) (by rw [Qn,hu.len]; omega)]
  rfl
 have h:=Zp (n:=2) (k0:=0) (by omega) (by omega) (fun i (_:Unit)=>i) (body:=Y7 ⟨D.g,Qd D.n D.node⟩ ⟨g,Qd n F⟩ p2 p3) (fun _=>()) (.inr ())
  (fun k _ hk=>by
   match k,hk with
   | 0,_=>exact hstep 0 D.n D.g D.node (by omega) rfl hDB (by omega)
   | 1,_=>exact hstep 1 n g F (by omega) rfl hB (by omega))
  (by unfold Y7; rw [if_neg (by decide)])
 rw [show ((0:Nat):Int)=0 from rfl] at h
 rw [h]; rfl
#print axioms makes_true
end Go.Ab
