/- What functions compute. No conditions. -/
import Derived.Test.YtojklbpplceiiaaDoorW15
import Derived.Test.YtojklbpplceiiaaDoorEng7
import Derived.Test.YtojklbpplceiiaaDoorW11
import Derived.Test.YtojklbpplceiiaaDoorRows
import Derived.WalkKit
import Derived.ProofKit
import Derived.LaidMore
import Derived.Lib.LaidTab
import Derived.Stop.LaidErr
import Derived.Stop.Joined
import Derived.OpenShut
set_option linter.all false
namespace Go.Ab
open Go
set_option maxRecDepth 100000
set_option maxHeartbeats 1000000
def U64 (l:List Int):Prop:=∀x∈l,0≤x∧x < 18446744073709551616
theorem Qz8 {l:List Int} (h:U64 l):∃S,l=Qj l.length S∧L64 l.length S:=by
 refine ⟨fun v=>((l[v]?).getD 0).toNat,?_,fun v hv=>?_⟩
 ·apply List.ext_getElem?
  intro k
  by_cases hk:k < l.length
  ·have:=h l[k] (List.getElem_mem hk)
   simp only [Qj,Qf0,List.getElem?_map,List.getElem?_range hk,Option.map_some,List.getElem?_eq_getElem hk,Option.getD_some]
   congr 1; omega
  ·rw [List.getElem?_eq_none (by omega),List.getElem?_eq_none (by rw [Yk]; omega)]
 ·have hv':v < l.length:=hv
  have:=h l[v] (List.getElem_mem hv')
  show ((l[v]?).getD 0).toNat < _
  rw [List.getElem?_eq_getElem hv',Option.getD_some]
  omega
theorem Qtm {n:Nat} {S:Nat → Nat} (r:Nat → Nat) (h:∀v,v < n→∀j,(S v).testBit j=true→j < n∧r j < r v):Gd n S:=by
 refine ⟨fun v hv j hj=>(h v hv j hj).1,fun v hv hb=>?_⟩
 have hT:Clo n S (msk n fun j=>decide (r j < r v)):=fun w hw hb j hj=>by
  rw [Yx] at hb ⊢
  simp only [Bool.and_eq_true,decide_eq_true_eq] at hb ⊢
  have:=h w hw j hj
  exact ⟨this.1,by omega⟩
 have hs:Z7 (S v) (msk n fun j=>decide (r j < r v)):=fun j hj=>by
  rw [Yx]
  simp only [Bool.and_eq_true,decide_eq_true_eq]
  exact h v hv j hj
 have:=Kn hT hs n v hb
 rw [Yx] at this
 simp at this
theorem Qbk {α:Type} {d:α} {body:Int × List α→Option (Qf (Int × List α) (List α))} {A i:Nat} {aI:Int} (hA:A≤i) (hi:i < 100000) (ha:aI=(A:Int)) {l:List α} (hl:l.length=i)
  (hb:∀s,body s=if (decide (s.1 > aI))=true then (lkI s.2 (zw (s.1 - 1))).bind fun a=>(lkI s.2 s.1).bind fun _=>some (.next (zw (s.1 - 1),s.2.set (Int.toNat s.1) a)) else some (.done s.2)) :
  Qb fuel body ((i:Int),l++[d])=some ((l++[d]).take (A+1)++l.drop A):=by
 subst ha
 have key:∀(j N k:Nat),k=A+j→k≤i→j < N→Qb N body ((k:Int),(l++[d]).take (k+1)++l.drop k)=some ((l++[d]).take (A+1)++l.drop A):=by
  intro j
  induction j with
  | zero =>
   intro N k hk hki hN
   obtain ⟨N,rfl⟩:∃M,N=M+1:=⟨N - 1,by omega⟩
   have:k=A:=by omega
   subst this
   unfold Qb
   rw [hb]
   dsimp only
   rw [if_neg (by simp)]
  | succ j ih =>
   intro N k hk hki hN
   obtain ⟨N,rfl⟩:∃M,N=M+1:=⟨N - 1,by omega⟩
   obtain ⟨k,rfl⟩:∃m,k=m+1:=⟨k - 1,by omega⟩
   have hkl:k < l.length:=by omega
   have hlen:((l++[d]).take (k+1+1)++l.drop (k+1)).length=i+1:=by simp; omega
   have hg:lkI ((l++[d]).take (k+1+1)++l.drop (k+1)) (k:Int)=some l[k]:=by
    rw [Yb (by omega)]
    congr 1
    rw [List.getElem_append_left (by simp; omega),List.getElem_take,List.getElem_append_left hkl]
   have hg2:∃x,lkI ((l++[d]).take (k+1+1)++l.drop (k+1)) ((k+1:Nat):Int)=some x:=⟨_,Yb (by omega)⟩
   obtain ⟨x,hx⟩:=hg2
   have e1:zw (((k+1:Nat):Int) - 1)=(k:Int):=by rw [w64 (by omega)]; omega
   have hset:((l++[d]).take (k+1+1)++l.drop (k+1)).set (k+1) l[k]=(l++[d]).take (k+1)++l.drop k:=by
    apply List.ext_getElem
    ·simp; omega
    ·intro q h1 h2
     rw [List.getElem_set]
     by_cases e:k+1=q
     ·subst e
      rw [if_pos rfl,List.getElem_append_right (by simp; omega)]
      simp only [List.length_take,List.length_append,List.length_singleton,List.getElem_drop]
      congr 1; omega
     ·rw [if_neg e]
      by_cases h3:q < k+1
      ·rw [List.getElem_append_left (by simp; omega),List.getElem_append_left (by simp; omega),List.getElem_take,List.getElem_take]
      ·have hq:q < i+1:=by simpa [hl] using (by rw [List.length_set] at h1; omega:q < i+1)
       rw [List.getElem_append_right (by simp; omega),List.getElem_append_right (by simp; omega)]
       simp only [List.length_take,List.length_append,List.length_singleton,List.getElem_drop]
       congr 1; omega
   unfold Qb
   rw [hb]
   dsimp only
   rw [if_pos (by simp; omega),e1,hg,Option.bind_some,hx,Option.bind_some]
   dsimp only
   rw [Int.toNat_natCast,hset]
   exact ih N k (by omega) (by omega) (by omega)
 have h:=key (i - A) fuel i (by omega) (Nat.le_refl _) (by unfold fuel; omega)
 rw [←h]
 congr 2
 rw [List.take_of_length_le (by simp; omega),List.drop_eq_nil_of_le (by omega),List.append_nil]
def Qeo {α:Type} (A:Nat) (x:α) (l:List α):List α:=l.take A++x::l.drop A
theorem Qd2 {α:Type} {d:α} {A i:Nat} (hA:A≤i) {l:List α} (hl:l.length=i) (x:α):((l++[d]).take (A+1)++l.drop A).set A x=Qeo A x l:=by
 unfold Qeo
 have e:(l++[d]).take (A+1)=l.take A++[(l++[d])[A]'(by simp; omega)]:=by
  rw [List.take_succ_eq_append_getElem (by simp; omega),List.take_append_of_le_length (by omega)]
 rw [e,List.append_assoc,List.set_append,if_neg (by simp; omega)]
 simp only [List.length_take]
 rw [show A - min A l.length=0 by omega]
 rfl
theorem Qd8 {α:Type} {d:α} {A i:Nat} (hA:A≤i) {l:List α} (hl:l.length=i):∃x,lkI ((l++[d]).take (A+1)++l.drop A) (A:Int)=some x:=⟨_,Yb (by simp; omega)⟩
theorem Qbx {o:Int} {k:Nat} (h:0≤o∧o < 256) (hk:0 < k):Int.tmod (zw o) (k:Int)=((o.toNat % k:Nat):Int):=by
 rw [w64 (by omega),Qqr h.1]
 obtain ⟨m,rfl⟩:∃m:Nat,o=(m:Int):=⟨o.toNat,by omega⟩
 simp
structure Qg4 (d:Tharuspexref31_Draft):Prop where
 n:0≤d.N∧d.N < 256
 o0:0≤d.Order.1∧d.Order.1 < 256
 o1:0≤d.Order.2.1∧d.Order.2.1 < 256
 o2:0≤d.Order.2.2.1∧d.Order.2.2.1 < 256
 o3:0≤d.Order.2.2.2.1∧d.Order.2.2.2.1 < 256
 o4:0≤d.Order.2.2.2.2.1∧d.Order.2.2.2.2.1 < 256
 o5:0≤d.Order.2.2.2.2.2∧d.Order.2.2.2.2.2 < 256
structure Qc8 (i:Nat) (l:List Int):Prop where
 len:l.length=i
 inn:∀x∈l,∃a:Nat,a < i∧x=(a:Int)
 nod:l.Nodup
theorem Qbl {i A:Nat} {l:List Int} (h:Qc8 i l) (hA:A≤i):Qc8 (i+1) (Qeo A (i:Int) l):=by
 have hp:(Qeo A (i:Int) l).Perm ((i:Int)::l):=by
  unfold Qeo
  refine List.perm_middle.trans ?_
  rw [List.take_append_drop]
 refine ⟨by rw [hp.length_eq]; simp [h.len],fun x hx=>?_,?_⟩
 ·rcases List.mem_cons.1 (hp.mem_iff.1 hx) with rfl | hx
  ·exact ⟨i,by omega,rfl⟩
  ·obtain ⟨a,h1,h2⟩:=h.inn x hx
   exact ⟨a,by omega,h2⟩
 ·rw [hp.nodup_iff,List.nodup_cons]
  refine ⟨fun hx=>?_,h.nod⟩
  obtain ⟨a,h1,h2⟩:=h.inn _ hx
  omega
theorem Qud {d:Tharuspexref31_Draft} (hd:Qg4 d) {m N:Int} (hN:zw (1+(Int.tmod (zw (d.N)) m))=N) {i:Nat} (hi:i < 6) (hiN:(i:Int) < N) {l:List Int} (h:Qc8 i l) :
  ∃l',Z2 d m ((i:Int),l)=some (.next (zw ((i:Int)+1),l'))∧Qc8 (i+1) l':=by
 have hll:(l++([0]:List Int)).length*8≤140737488355328:=by rw [List.length_append,h.len]; simp; omega
 have hi':i=0∨i=1∨i=2∨i=3∨i=4∨i=5:=by omega
 unfold Z2
 dsimp only
 rw [hN,if_pos (decide_eq_true hiN)]
 rcases hi' with rfl | rfl | rfl | rfl | rfl | rfl
 ·have hm:=Qbx hd.o0 (k:=1) (by omega)
  have hA:(d.Order.1).toNat % 1≤0:=by omega
  have hw:Qb fuel (Kv d) ((0:Int),l++([0]:List Int))=some ((l++[0]).take ((d.Order.1).toNat % 1+1)++l.drop ((d.Order.1).toNat % 1)):=Qbk (i:=0) hA (by omega) hm h.len (fun s=>rfl)
  obtain ⟨x,hx⟩:=Qd8 hA h.len
  have hm':Int.tmod (zw (d.Order.1)) 1=(((d.Order.1).toNat % 1:Nat):Int):=hm
  refine ⟨Qeo ((d.Order.1).toNat % 1) 0 l,?_,Qbl h hA⟩
  rw [if_pos (by decide),if_pos hll,hw,Option.bind_some,hm',hx,Option.bind_some,Option.bind_some,Int.toNat_natCast,Qd2 hA h.len]
  rfl
 ·have hm:=Qbx hd.o1 (k:=2) (by omega)
  have hA:(d.Order.2.1).toNat % 2≤1:=by omega
  have hw:Qb fuel (Kw d) ((1:Int),l++([0]:List Int))=some ((l++[0]).take ((d.Order.2.1).toNat % 2+1)++l.drop ((d.Order.2.1).toNat % 2)):=Qbk (i:=1) hA (by omega) hm h.len (fun s=>rfl)
  obtain ⟨x,hx⟩:=Qd8 hA h.len
  have hm':Int.tmod (zw (d.Order.2.1)) 2=(((d.Order.2.1).toNat % 2:Nat):Int):=hm
  refine ⟨Qeo ((d.Order.2.1).toNat % 2) 1 l,?_,Qbl h hA⟩
  rw [if_neg (by decide),if_pos (by decide),if_pos hll,hw,Option.bind_some,hm',hx,Option.bind_some,Option.bind_some,Int.toNat_natCast,Qd2 hA h.len]
  rfl
 ·have hm:=Qbx hd.o2 (k:=3) (by omega)
  have hA:(d.Order.2.2.1).toNat % 3≤2:=by omega
  have hw:Qb fuel (Kx d) ((2:Int),l++([0]:List Int))=some ((l++[0]).take ((d.Order.2.2.1).toNat % 3+1)++l.drop ((d.Order.2.2.1).toNat % 3)):=Qbk (i:=2) hA (by omega) hm h.len (fun s=>rfl)
  obtain ⟨x,hx⟩:=Qd8 hA h.len
  have hm':Int.tmod (zw (d.Order.2.2.1)) 3=(((d.Order.2.2.1).toNat % 3:Nat):Int):=hm
  refine ⟨Qeo ((d.Order.2.2.1).toNat % 3) 2 l,?_,Qbl h hA⟩
  rw [if_neg (by decide),if_neg (by decide),if_pos (by decide),if_pos hll,hw,Option.bind_some,hm',hx,Option.bind_some,Option.bind_some,Int.toNat_natCast,Qd2 hA h.len]
  rfl
 ·have hm:=Qbx hd.o3 (k:=4) (by omega)
  have hA:(d.Order.2.2.2.1).toNat % 4≤3:=by omega
  have hw:Qb fuel (Ky d) ((3:Int),l++([0]:List Int))=some ((l++[0]).take ((d.Order.2.2.2.1).toNat % 4+1)++l.drop ((d.Order.2.2.2.1).toNat % 4)):=Qbk (i:=3) hA (by omega) hm h.len (fun s=>rfl)
  obtain ⟨x,hx⟩:=Qd8 hA h.len
  have hm':Int.tmod (zw (d.Order.2.2.2.1)) 4=(((d.Order.2.2.2.1).toNat % 4:Nat):Int):=hm
  refine ⟨Qeo ((d.Order.2.2.2.1).toNat % 4) 3 l,?_,Qbl h hA⟩
  rw [if_neg (by decide),if_neg (by decide),if_neg (by decide),if_pos (by decide),if_pos hll,hw,Option.bind_some,hm',hx,Option.bind_some,Option.bind_some,Int.toNat_natCast,Qd2 hA h.len]
  rfl
 ·have hm:=Qbx hd.o4 (k:=5) (by omega)
  have hA:(d.Order.2.2.2.2.1).toNat % 5≤4:=by omega
  have hw:Qb fuel (Kp d) ((4:Int),l++([0]:List Int))=some ((l++[0]).take ((d.Order.2.2.2.2.1).toNat % 5+1)++l.drop ((d.Order.2.2.2.2.1).toNat % 5)):=Qbk (i:=4) hA (by omega) hm h.len (fun s=>rfl)
  obtain ⟨x,hx⟩:=Qd8 hA h.len
  have hm':Int.tmod (zw (d.Order.2.2.2.2.1)) 5=(((d.Order.2.2.2.2.1).toNat % 5:Nat):Int):=hm
  refine ⟨Qeo ((d.Order.2.2.2.2.1).toNat % 5) 4 l,?_,Qbl h hA⟩
  rw [if_neg (by decide),if_neg (by decide),if_neg (by decide),if_neg (by decide),if_pos (by decide),if_pos hll,hw,Option.bind_some,hm',hx,Option.bind_some,Option.bind_some,Int.toNat_natCast,Qd2 hA h.len]
  rfl
 ·have hm:=Qbx hd.o5 (k:=6) (by omega)
  have hA:(d.Order.2.2.2.2.2).toNat % 6≤5:=by omega
  have hw:Qb fuel (Ku d) ((5:Int),l++([0]:List Int))=some ((l++[0]).take ((d.Order.2.2.2.2.2).toNat % 6+1)++l.drop ((d.Order.2.2.2.2.2).toNat % 6)):=Qbk (i:=5) hA (by omega) hm h.len (fun s=>rfl)
  obtain ⟨x,hx⟩:=Qd8 hA h.len
  have hm':Int.tmod (zw (d.Order.2.2.2.2.2)) 6=(((d.Order.2.2.2.2.2).toNat % 6:Nat):Int):=hm
  refine ⟨Qeo ((d.Order.2.2.2.2.2).toNat % 6) 5 l,?_,Qbl h hA⟩
  rw [if_neg (by decide),if_neg (by decide),if_neg (by decide),if_neg (by decide),if_neg (by decide),if_pos (by decide),if_pos hll,hw,Option.bind_some,hm',hx,Option.bind_some,Option.bind_some,Int.toNat_natCast,Qd2 hA h.len]
  rfl
theorem Qu9 {d:Tharuspexref31_Draft} (hd:Qg4 d) {m:Int} {n:Nat} (hn:n≤6) (hN:zw (1+(Int.tmod (zw (d.N)) m))=(n:Int)):∃l,Qb fuel (Z2 d m) (0,([]:List Int))=some l∧Qc8 n l:=by
 have h:=Qez (n:=n) (k0:=0) (by omega) (by omega) (fun i (x:List Int)=>(i,x)) (body:=Z2 d m) Qc8 (Qc8 n)
  (fun k t _ hk hI=>by
   obtain ⟨l',h1,h2⟩:=Qud hd hN (by omega) (by omega) hI
   exact .inl ⟨l',h1,h2⟩)
  (fun t ht=>by
   refine ⟨t,?_,ht⟩
   unfold Z2
   dsimp only
   rw [hN,if_neg (nlt n)]) [] ⟨rfl,fun x hx=>by simp at hx,List.nodup_nil⟩
 exact h
def Qfd (n:Nat) (l:List Int) (S:Nat → Nat):Prop:=∀v,v < n→∀x,(S v).testBit x=true→∃a b:Nat,a < b∧b < n∧l[a]?=some (x:Int)∧l[b]?=some (v:Int)
theorem Qq8 {n:Nat} {l:List Int} {S:Nat → Nat} (hp:Qc8 n l) (h:Qfd n l S):Gd n S:=by
 have inj:∀a b:Nat,∀x:Int,l[a]?=some x→l[b]?=some x→a=b:=fun a b x h1 h2=>by
  have ha:=(List.getElem?_eq_some_iff.1 h1)
  have hb:=(List.getElem?_eq_some_iff.1 h2)
  obtain ⟨ha,ha2⟩:=ha
  obtain ⟨hb,hb2⟩:=hb
  have:=List.pairwise_iff_getElem.1 hp.nod
  rcases Nat.lt_trichotomy a b with h | h | h
  ·exact absurd (ha2.trans hb2.symm) (this a b ha hb h)
  ·exact h
  ·exact absurd (hb2.trans ha2.symm) (this b a hb ha h)
 have hr:∃r:Nat → Nat,∀a x:Nat,l[a]?=some (x:Int)→r x=a:=by
  classical
  refine ⟨fun x=>if h:∃a,l[a]?=some (x:Int) then Classical.choose h else 0,fun a x h=>?_⟩
  have:∃a,l[a]?=some (x:Int):=⟨a,h⟩
  simp only [dif_pos this]
  exact inj _ _ _ (Classical.choose_spec this) h
 obtain ⟨r,hr⟩:=hr
 refine Qtm r fun v hv j hj=>?_
 obtain ⟨a,b,h1,h2,h3,h4⟩:=h v hv j hj
 rw [hr a j h3,hr b v h4]
 obtain ⟨c,h5,h6⟩:=hp.inn (j:Int) (List.mem_of_getElem? h3)
 exact ⟨by omega,h1⟩
theorem Qek {n v:Nat} {S:Nat → Nat} {y:Nat}:(Qj n S).set v (y:Int)=Qj n fun u=>if u=v then y else S u:=by
 apply List.ext_getElem
 ·simp [Qj,Qf0]
 ·intro k h1 h2
  rw [List.getElem_set]
  simp only [Qj,Qf0,List.getElem_map,List.getElem_range]
  by_cases e:v=k
  ·subst e; simp
  ·have:¬ k=v:=fun h=>e h.symm
   simp [e,this]
theorem Qwb {d:Tharuspexref31_Draft} {m:Int} {n:Nat} (hn:n≤6) (hN:zw (1+(Int.tmod (zw (d.N)) m))=(n:Int)) {l:List Int} (hp:Qc8 n l) (hn1:1≤n) :
  ∃S,Qb fuel (Xp d m l) (0,1,List.replicate n (0:Int))=some (Qj n S)∧Qfd n l S:=by
 have hlen:∀S,(Qj n S).length=n:=fun S=>Yk
 have inner:∀(j B:Nat) (S:Nat → Nat) (s:Int × List Int),j < n→B≤100→Qfd n l S→∃r:Int × List Int,Qb fuel (Xq (s.1,(j:Int),s.2) d l) ((B:Int),((0:Nat):Int),Qj n S)=some r∧∃(B':Nat) (S':Nat → Nat),r=((B':Int),Qj n S')∧B'≤B+j∧Qfd n l S':=fun j B S s hj hB hS =>
  Qez (n:=j) (k0:=0) (by omega) (by omega) (fun i (x:Int × List Int)=>(x.1,i,x.2)) (body:=Xq (s.1,(j:Int),s.2) d l)
   (fun k t=>∃(B':Nat) (S':Nat → Nat),t=((B':Int),Qj n S')∧B'≤B+k∧Qfd n l S') (fun r=>∃(B':Nat) (S':Nat → Nat),r=((B':Int),Qj n S')∧B'≤B+j∧Qfd n l S')
   (fun k t _ hk hI=>by
    left
    obtain ⟨B',S',rfl,hB',hS'⟩:=hI
    unfold Xq
    try dsimp only
    rw [if_pos (dlt hk),if_pos (Y5 B'),Qq0 (by omega:B' < 9223372036854775807)]
    split
    ·have hjl:j < l.length:=by rw [hp.len]; exact hj
     have hkl:k < l.length:=by omega
     obtain ⟨v,hv,hv2⟩:=hp.inn l[j] (List.getElem_mem hjl)
     obtain ⟨x,hx,hx2⟩:=hp.inn l[k] (List.getElem_mem hkl)
     rw [Yb hjl,Option.bind_some,hv2,Xi hv,Option.bind_some,Yb hkl,Option.bind_some,hx2,if_pos (Y5 x),Int.toNat_natCast]
     have hg:=Qq8 hp hS'
     have h64:=Qwo (by omega) hg
     rw [Qlt (by omega),Ql8 (h64 v hv) (Qhl (by omega)),Qek]
     refine ⟨_,rfl,B'+1,_,rfl,by omega,fun u hu y hy=>?_⟩
     try dsimp only at hy
     by_cases e:u=v
     ·subst e
      rw [if_pos rfl,Nat.testBit_or,Qbr,Bool.or_eq_true] at hy
      rcases hy with hy | hy
      ·exact hS' u hu y hy
      ·have:=of_decide_eq_true hy
       subst this
       exact ⟨k,j,hk,hj,by rw [List.getElem?_eq_getElem hkl,hx2],by rw [List.getElem?_eq_getElem hjl,hv2]⟩
     ·rw [if_neg e] at hy
      exact hS' u hu y hy
    ·exact ⟨_,rfl,B'+1,S',rfl,by omega,hS'⟩)
   (fun t ht=>by
    obtain ⟨B',S',rfl,hB',hS'⟩:=ht
    unfold Xq
    dsimp only
    rw [if_neg (nlt j)]
    exact ⟨_,rfl,B',S',rfl,hB',hS'⟩) ((B:Int),Qj n S) ⟨B,S,rfl,by omega,hS⟩
 have h:=Qez (n:=n) (k0:=1) hn1 (by omega) (fun i (x:Int × List Int)=>(x.1,i,x.2)) (body:=Xp d m l)
  (fun k t=>∃(B':Nat) (S':Nat → Nat),t=((B':Int),Qj n S')∧B'≤6*k∧Qfd n l S') (fun r=>∃S,r=Qj n S∧Qfd n l S)
  (fun k t h1 hk hI=>by
   left
   obtain ⟨B',S',rfl,hB',hS'⟩:=hI
   obtain ⟨r,h2,B2,S2,rfl,hB2,hS2⟩:=inner k B' S' ((B':Int),Qj n S') hk (by omega) hS'
   unfold Xp
   dsimp only
   try dsimp only at h2
   rw [show ((0:Nat):Int)=0 from rfl] at h2
   rw [hN,if_pos (dlt hk),h2,Option.bind_some]
   exact ⟨_,rfl,B2,S2,rfl,by omega,hS2⟩)
  (fun t ht=>by
   obtain ⟨B',S',rfl,hB',hS'⟩:=ht
   unfold Xp
   dsimp only
   rw [hN,if_neg (nlt n)]
   exact ⟨_,rfl,S',rfl,hS'⟩) (0,List.replicate n (0:Int)) ⟨0,fun _=>0,by
    have:List.replicate n (0:Int)=Qj n fun _=>0:=by
     apply List.ext_getElem
     ·simp [Qj,Qf0]
     ·intro k h1 h2; simp [Qj,Qf0]
    rw [this]; rfl,by omega,fun v _ x hx=>by simp at hx⟩
 obtain ⟨r,h1,S,rfl,h2⟩:=h
 exact ⟨S,h1,h2⟩
theorem Qvc {d:Tharuspexref31_Draft} (hd:Qg4 d) {m:Nat} (hm:1≤m∧m≤6):∃S,Zq d (m:Int)=some (Qj (1+d.N.toNat % m) S)∧Gd (1+d.N.toNat % m) S∧1+d.N.toNat % m≤m:=by
 have hlt:d.N.toNat % m < m:=Nat.mod_lt _ (by omega)
 generalize hn:1+d.N.toNat % m=n at *
 have hN:zw (1+(Int.tmod (zw (d.N)) (m:Int)))=(n:Int):=by
  rw [Qbx hd.n (by omega),w64 (by omega)]; omega
 obtain ⟨l,h1,h2⟩:=Qu9 hd (by omega) hN
 obtain ⟨S,h3,h4⟩:=Qwb (by omega) hN h2 (by omega)
 refine ⟨S,?_,Qq8 h2 h4,by omega⟩
 unfold Zq
 rw [if_pos (by omega),h1,Option.bind_some,hN,if_pos (by omega),Int.toNat_natCast,h3]
 rfl
end Go.Ab
namespace Go.Ab
open Go
theorem Qhw {cs:List AV} (h:WT (.int .u8) cs):∃a:Int,cs=[(AV.int .u8) a]∧(Lit.int .u8 a).wf=true:=by
 obtain ⟨n,rfl,w⟩:=h
 exact ⟨n,rfl,w⟩
theorem Q1d {cs:List AV} (h:WT (.cat (.int .u8) (.cat (.int .u8) (.cat (.int .u8) (.cat (.int .u8) (.cat (.int .u8) (.cat (.int .u8) .unit)))))) cs):∃x:(Int × Int × Int × Int × Int × Int),AV.agg cs=(fun x:(Int × Int × Int × Int × Int × Int)=>AV.agg [.int .u8 x.1,.int .u8 x.2.1,.int .u8 x.2.2.1,.int .u8 x.2.2.2.1,.int .u8 x.2.2.2.2.1,.int .u8 x.2.2.2.2.2]) x∧((Lit.int .u8 x.1).wf=true∧(Lit.int .u8 x.2.1).wf=true∧(Lit.int .u8 x.2.2.1).wf=true∧(Lit.int .u8 x.2.2.2.1).wf=true∧(Lit.int .u8 x.2.2.2.2.1).wf=true∧(Lit.int .u8 x.2.2.2.2.2).wf=true):=by
 obtain ⟨_,_,rfl,a0,r0⟩:=h
 obtain ⟨v0,e0,w0⟩:=Qhw a0
 cases e0
 obtain ⟨_,_,rfl,a1,r1⟩:=r0
 obtain ⟨v1,e1,w1⟩:=Qhw a1
 cases e1
 obtain ⟨_,_,rfl,a2,r2⟩:=r1
 obtain ⟨v2,e2,w2⟩:=Qhw a2
 cases e2
 obtain ⟨_,_,rfl,a3,r3⟩:=r2
 obtain ⟨v3,e3,w3⟩:=Qhw a3
 cases e3
 obtain ⟨_,_,rfl,a4,r4⟩:=r3
 obtain ⟨v4,e4,w4⟩:=Qhw a4
 cases e4
 obtain ⟨_,_,rfl,a5,r5⟩:=r4
 obtain ⟨v5,e5,w5⟩:=Qhw a5
 cases e5
 cases r5
 exact ⟨(v0,v1,v2,v3,v4,v5),rfl,⟨w0,w1,w2,w3,w4,w5⟩⟩
theorem Q08 {cs:List AV} (h:WT (.int .u16) cs):∃a:Int,cs=[(AV.int .u16) a]∧(Lit.int .u16 a).wf=true:=by
 obtain ⟨n,rfl,w⟩:=h
 exact ⟨n,rfl,w⟩
def Yp (x:Tharuspexref31_Draft):Prop:=((Lit.int .u8 x.N).wf=true)∧(((Lit.int .u8 x.Order.1).wf=true∧(Lit.int .u8 x.Order.2.1).wf=true∧(Lit.int .u8 x.Order.2.2.1).wf=true∧(Lit.int .u8 x.Order.2.2.2.1).wf=true∧(Lit.int .u8 x.Order.2.2.2.2.1).wf=true∧(Lit.int .u8 x.Order.2.2.2.2.2).wf=true))∧((Lit.int .u16 x.Edges).wf=true)
theorem rdTharuspexref31_Draft {cs:List AV} (h:WT (.cat (.int .u8) (.cat (.cat (.int .u8) (.cat (.int .u8) (.cat (.int .u8) (.cat (.int .u8) (.cat (.int .u8) (.cat (.int .u8) .unit)))))) (.cat (.int .u16) .unit))) cs):∃x:Tharuspexref31_Draft,AV.agg cs=eTharuspexref31_Draft x∧Yp x:=by
 obtain ⟨_,_,rfl,a0,r0⟩:=h
 obtain ⟨v0,e0,w0⟩:=Qhw a0
 cases e0
 obtain ⟨_,_,rfl,a1,r1⟩:=r0
 obtain ⟨v1,e1,w1⟩:=Q1d a1
 cases e1
 obtain ⟨_,_,rfl,a2,r2⟩:=r1
 obtain ⟨v2,e2,w2⟩:=Q08 a2
 cases e2
 cases r2
 exact ⟨⟨v0,v1,v2⟩,rfl,⟨w0,w1,w2⟩⟩
theorem Q1b {cs:List AV} (h:WT (.int .u64) cs):∃a:Int,cs=[(AV.int .u64) a]∧(Lit.int .u64 a).wf=true:=by
 obtain ⟨n,rfl,w⟩:=h
 exact ⟨n,rfl,w⟩
theorem Q1v {x:AV} (h:WT (.int .u64) x.flat ∧ (if false then x=.agg x.flat else x.cell=true)):∃a:Int,x=(AV.int .u64) a∧(Lit.int .u64 a).wf=true:=by
 obtain ⟨a,h1,h2⟩:=Q1b h.1
 rw [Qut h.2] at h1
 exact ⟨a,(List.cons.inj h1).1,h2⟩
theorem one28 {cs:List AV} (h:WT (.slice true false 1 (.int .u64)) cs):∃a:(List Int),cs=[(eL true (AV.int .u64)) a]∧(a.length≤maxLen∧∀y0∈a,(Lit.int .u64 y0).wf=true):=by
 obtain ⟨xs,rfl,hl,hx⟩:=h
 obtain ⟨l,rfl,hr⟩:=Qxf (enc:=(AV.int .u64)) (R:=fun a=>(Lit.int .u64 a).wf=true) (fun x hm=>Q1v (hx x hm))
 exact ⟨l,rfl,by simpa using hl,hr⟩
theorem rdA26 {cs:List AV} (h:WT (.cat (.int .u8) (.cat (.int .u8) .unit)) cs):∃x:(Int × Int),AV.agg cs=(fun x:(Int × Int)=>AV.agg [.int .u8 x.1,.int .u8 x.2]) x∧((Lit.int .u8 x.1).wf=true∧(Lit.int .u8 x.2).wf=true):=by
 obtain ⟨_,_,rfl,a0,r0⟩:=h
 obtain ⟨v0,e0,w0⟩:=Qhw a0
 cases e0
 obtain ⟨_,_,rfl,a1,r1⟩:=r0
 obtain ⟨v1,e1,w1⟩:=Qhw a1
 cases e1
 cases r1
 exact ⟨(v0,v1),rfl,⟨w0,w1⟩⟩
end Go.Ab
namespace Go.Ab
open Go
set_option maxRecDepth 100000
set_option maxHeartbeats 1000000
theorem Q1f {n:Int} (h:(Lit.int .u8 n).wf=true):0≤n∧n≤255:=by
 simpa [Lit.wf,IntKind.min,IntKind.max,IntKind.bits,IntKind.signed] using h
theorem Qz3 {n:Int} (h:(Lit.int .u64 n).wf=true):0≤n∧n≤18446744073709551615:=by
 simpa [Lit.wf,IntKind.min,IntKind.max,IntKind.bits,IntKind.signed] using h
theorem wf8 {n:Int} (h:(Lit.int .u8 n).wf=true):0≤n∧n < 256:=by have:=Q1f h; omega
theorem Q1j {n:Int} (h:(Lit.int .u64 n).wf=true):0≤n∧n < 18446744073709551616:=by have:=Qz3 h; omega
theorem Qw6:Qcx=some true:=by kernel_rfl
theorem Qta {n:Nat} {N:Nat → Nat → Bool} {p:Int × Int}:p∈prs n N↔∃i j:Nat,i < j∧j < n∧N i j=true∧p=((i:Int),(j:Int)):=by
 unfold prs
 rw [Qkz]
 constructor
 ·rintro ⟨i,_,h2,h3⟩
  obtain ⟨j,h4,h5,h6⟩:=(Qkz _).1 h3
  split at h6
  ·rename_i hN
   exact ⟨i,j,by omega,by omega,hN,List.mem_singleton.1 h6⟩
  ·cases h6
 ·rintro ⟨i,j,h1,h2,h3,rfl⟩
  refine ⟨i,by omega,by omega,(Qkz _).2 ⟨j,by omega,by omega,?_⟩⟩
  rw [if_pos h3]; simp
def dels (a i:Nat):Nat := msk 64 fun b=>a.testBit b && !decide (i=b)
def Qwi (S:Nat → Nat) (i j:Nat):Nat → Nat := fun u=>if u=i then S i ||| 2^j else if u=j then dels (S j) i else S u
theorem Q0h {n i j:Nat} {S:Nat → Nat} (h:L64 n S) (hi:i < n) (hj:j < 64):L64 n (Qwi S i j):=fun v hv=>by
 unfold Qwi
 split
 ·exact Nat.or_lt_two_pow (n:=64) (h i hi) (Qhl hj)
 ·split
  ·exact Qm2 64 _
  ·exact h v hv
theorem Qsq {a i:Nat} (ha:a < 18446744073709551616) (hi:i < 64):zv (zb (a:Int) &&& ~~~ zb (zv (1*2^min (Int.toNat (i:Int)) (IntKind.bits .u64)))).toNat = ((dels a i:Nat):Int):=by
 rw [Qlt hi]
 exact Qwf (n:=64) (by omega) ha (Qhl hi) (fun _ _=>rfl) (fun b _=>Qbr i b)
theorem Qup {n:Nat} {S:Nat → Nat} {k:Int} (hn:n≤7) (h:L64 n S) (hk:0≤k∧k < 256) :
  (prs n (near S)=[]∧Yi (Qj n S) k=some (Qj n S)) ∨
  (∃i j,i < n∧j < n∧i≠j∧(S j).testBit i=true∧Yi (Qj n S) k=some (Qj n (Qwi S i j))):=by
 have hlen:(Qj n S).length=n:=Yk
 unfold Yi
 rw [Qe1 hn h,Option.bind_some,hlen,if_pos (by omega)]
 by_cases he:prs n (near S)=[]
 ·left
  rw [he]
  exact ⟨rfl,rfl⟩
 ·right
  have hl:0 < (prs n (near S)).length:=List.length_pos_iff.2 he
  have hl49:=Qtc (N:=near S) hn
  rw [if_neg (by simp; omega),if_pos (by omega)]
  have hm:Int.tmod (zw k) ((prs n (near S)).length:Int)=((k.toNat % (prs n (near S)).length:Nat):Int):=by
   rw [w64 (by omega),Qqr hk.1]
   obtain ⟨m,rfl⟩:∃m:Nat,k=(m:Int):=⟨k.toNat,by omega⟩
   simp
  rw [hm]
  have hb:k.toNat % (prs n (near S)).length < (prs n (near S)).length:=Nat.mod_lt _ hl
  rw [Yb hb,Option.bind_some,if_pos (by omega)]
  obtain ⟨i,j,h1,h2,h3,h4⟩:=Qta.1 (List.getElem_mem hb)
  rw [h4]
  dsimp only
  rw [Xi (show i < n by omega),Option.bind_some,Qfk (h i (by omega)) (by omega),Option.bind_some]
  by_cases hb2:(S i).testBit j=true
  ·refine ⟨j,i,h2,by omega,by omega,hb2,?_⟩
   rw [if_pos hb2,if_pos (Y5 j),Qsq (h i (by omega)) (by omega),Qlt (show i < 64 by omega),Int.toNat_natCast,Qek,Xi h2,Option.bind_some,if_pos (Y5 i)]
   rw [if_neg (by omega),Ql8 (h j h2) (Qhl (by omega)),Int.toNat_natCast,Qek]
   rfl
  ·refine ⟨i,j,by omega,h2,by omega,by unfold near at h3; rw [Bool.eq_false_iff.2 hb2] at h3; simpa using h3,?_⟩
   rw [if_neg hb2,Xi h2,Option.bind_some,if_pos (Y5 i),Qsq (h j h2) (by omega),Qlt (show j < 64 by omega),Int.toNat_natCast,Qek,Xi (show i < n by omega),Option.bind_some,if_pos (Y5 j)]
   rw [if_neg (by omega),Ql8 (h i (by omega)) (Qhl (by omega)),Int.toNat_natCast,Qek]
   rfl
def Few (y:List Int):Prop:=∃n S,y=Qj n S∧n≤7∧L64 n S
theorem Qm5 {y:List Int} {k:Int} (h:Few y) (hk:0≤k∧k < 256):∃z,Yi y k=some z∧Few z:=by
 obtain ⟨n,S,rfl,hn,hS⟩:=h
 rcases Qup hn hS hk with ⟨_,h⟩ | ⟨i,j,hi,hj,_,_,h⟩
 ·exact ⟨_,h,n,S,rfl,hn,hS⟩
 ·exact ⟨_,h,n,_,rfl,hn,Q0h hS hi (by omega)⟩
theorem Qvd {l:List Int} (h:l.length≤1000):Q6 l=some l:=by
 unfold Q6
 cases l with
 | nil=>rfl
 | cons c d=>simp only [Y2]; rw [if_pos (by omega)]
theorem Qyv {l:List Int} (h:U64 l):∃z,Qb4 l=some z∧Few z:=by
 unfold Qb4
 have hm:(if 7 < (l.length:Int) then 7 else (l.length:Int))=((min l.length 7:Nat):Int):=by split <;> omega
 rw [hm,if_pos (by omega)]
 have hs:sub l 0 ((min l.length 7:Nat):Int)=l.take (min l.length 7):=by
  unfold sub
  simp
 rw [hs,Qvd (by simp; omega),Option.bind_some]
 refine ⟨_,rfl,?_⟩
 have hu:U64 (l.take (min l.length 7)):=fun x hx=>h x (List.mem_of_mem_take hx)
 obtain ⟨S,h1,h2⟩:=Qz8 hu
 exact ⟨_,S,h1,by simp; omega,h2⟩
theorem Qzr {n:Nat} {S:Nat → Nat} (hn:n≤7) (h:L64 n S) :
  ((n≤6∧Gd n S)∧Y1 (Qj n S) 6=some true∧Q0 (Qj n S)=some 0∧Xs (Qj n S)=some (prs n (near S),0)∧Xk (Qj n S)=some (cls n S,0)) ∨
  (Y1 (Qj n S) 6=some false∧Q0 (Qj n S)=some 310∧Xs (Qj n S)=some ([],310)∧Xk (Qj n S)=some ([],310)):=by
 obtain ⟨c,hc,hc2⟩:=Qux hn h
 obtain ⟨d,hd,hd2⟩:=Qu7 (m:=6) hn h
 have e:d=c:=by rw [Bool.eq_iff_iff,hc2,hd2]
 subst e
 cases d with
 | true =>
  left
  obtain ⟨h1,h2⟩:=hc2.1 rfl
  refine ⟨⟨h1.2,h2⟩,hd,hc,?_,?_⟩
  ·unfold Xs
   rw [hc,Option.bind_some,if_neg (by simp),Kd h1.2 h2,Option.bind_some]
   show (Zn ⟨(n:Int),Q9 (mI (nrN n S))⟩).bind _=_
   rw [Qxm h1.2]; rfl
  ·unfold Xk
   rw [hc,Option.bind_some,if_neg (by simp),Qcp h1.2 h2]; rfl
 | false =>
  right
  refine ⟨hd,hc,?_,?_⟩
  ·unfold Xs
   rw [hc]; rfl
  ·unfold Xk
   rw [hc]; rfl
theorem Qqd {d:Tharuspexref31_Draft} (h:Yp d):Qg4 d:=by
 obtain ⟨h0,⟨h1,h2,h3,h4,h5,h6⟩,_⟩:=h
 exact ⟨wf8 h0,wf8 h1,wf8 h2,wf8 h3,wf8 h4,wf8 h5,wf8 h6⟩
end Go.Ab
namespace Go.Ab
open Go
set_option maxRecDepth 100000
set_option maxHeartbeats 1000000
def eqv (n m:Nat) (S T:Nat → Nat):Bool:=decide (n=m∧prs n (near S)=prs m (near T)∧cls n S=cls m T)
theorem Qoy {S:Nat → Nat} {u w:Nat}:near S u w=near S w u:=by unfold near; exact Bool.or_comm _ _
theorem Qou {n:Nat} {S:Nat → Nat} (h:Gd n S) {u:Nat} (hu:u < n):near S u u=false:=by
 have:(S u).testBit u=false:=Bool.eq_false_iff.2 fun e=>h.acyc u hu (Qp2 n u e)
 unfold near; rw [this]; rfl
theorem Qxi {n:Nat} {S T:Nat → Nat} (hS:Gd n S) (hT:Gd n T):prs n (near S)=prs n (near T)↔∀u w,u < n→w < n→near S u w=near T u w:=by
 constructor
 ·intro h
  have key:∀u w,u < w→w < n→near S u w=near T u w:=fun u w h1 h2=>by
   have e:∀N,((u:Int),(w:Int))∈prs n N↔N u w=true:=fun N=>by
    rw [Qta]
    constructor
    ·rintro ⟨i,j,_,_,h5,h6⟩
     have e1:u=i:=by have:=congrArg Prod.fst h6; exact Int.ofNat_inj.1 this
     have e2:w=j:=by have:=congrArg Prod.snd h6; exact Int.ofNat_inj.1 this
     rw [e1,e2]; exact h5
    ·intro h5; exact ⟨u,w,h1,h2,h5,rfl⟩
   rw [Bool.eq_iff_iff,←e (near S),←e (near T),h]
  intro u w hu hw
  rcases Nat.lt_trichotomy u w with h1 | h1 | h1
  ·exact key u w h1 hw
  ·subst h1; rw [Qou hS hu,Qou hT hu]
  ·rw [Qoy,Qoy (S:=T)]; exact key w u h1 hu
 ·intro h
  unfold prs
  exact Va n fun i _ hi=>Va _ fun j h1 h2=>by rw [h i j (by omega) (by omega)]
theorem Qtl {n:Nat} {S:Nat → Nat} (h:Gd n S) {u w:Nat} (hn:¬ (u < n∧w < n)):nrN n S u w=false:=by
 unfold nrN
 have key:∀a b,¬ (a < n∧b < n)→(decide (a < n) && (S a).testBit b)=false:=fun a b hab=>by
  by_cases ha:a < n
  ·have:(S a).testBit b=false:=Bool.eq_false_iff.2 fun e=>hab ⟨ha,h.inn a ha b e⟩
   rw [this]; simp
  ·simp [ha]
 rw [key u w hn,key w u (fun e=>hn ⟨e.2,e.1⟩)]; rfl
theorem Qrb {n:Nat} {S T:Nat → Nat} (hn:n≤6) (hS:Gd n S) (hT:Gd n T):Q9 (mI (nrN n S))=Q9 (mI (nrN n T))↔prs n (near S)=prs n (near T):=by
 rw [Qxi hS hT]
 constructor
 ·intro h u w hu hw
  have key:∀i,i < 6→mI (nrN n S) i=mI (nrN n T) i:=fun i hi=>by
   unfold Q9 at h
   simp only [Prod.mk.injEq] at h
   have hi':i=0∨i=1∨i=2∨i=3∨i=4∨i=5:=by omega
   rcases hi' with rfl | rfl | rfl | rfl | rfl | rfl
   ·exact h.1
   ·exact h.2.1
   ·exact h.2.2.1
   ·exact h.2.2.2.1
   ·exact h.2.2.2.2.1
   ·exact h.2.2.2.2.2
  have h1:=key u (by omega)
  unfold mI at h1
  have h2:=Qyg (Int.ofNat_inj.1 h1) w (by omega)
  rwa [Qbv hu hw,Qbv hu hw] at h2
 ·intro h
  refine Ql2 fun u w _ _=>?_
  by_cases hb:u < n∧w < n
  ·rw [Qbv hb.1 hb.2,Qbv hb.1 hb.2]; exact h u w hb.1 hb.2
  ·rw [Qtl hS hb,Qtl hT hb]
theorem Qyu {n m:Int} {X Y:Nat → Int} :
  ((n==m) && (((Q9 X).1==(Q9 Y).1) && (((Q9 X).2.1==(Q9 Y).2.1) && (((Q9 X).2.2.1==(Q9 Y).2.2.1) && (((Q9 X).2.2.2.1==(Q9 Y).2.2.2.1) && (((Q9 X).2.2.2.2.1==(Q9 Y).2.2.2.2.1) && (((Q9 X).2.2.2.2.2==(Q9 Y).2.2.2.2.2) && true)))))))=decide (n=m∧Q9 X=Q9 Y):=by
 rw [Bool.eq_iff_iff]
 simp only [Bool.and_eq_true,beq_iff_eq,decide_eq_true_eq,Bool.and_true]
 unfold Q9
 simp only [Prod.mk.injEq]
theorem Qvt {n m:Nat} {S T:Nat → Nat} (hn:n≤6) (hS:Gd n S) (hm:m≤6) (hT:Gd m T) (c1:Q0 (Qj n S)=some 0) (c2:Q0 (Qj m T)=some 0):Xg (Qj n S) (Qj m T)=some (eqv n m S T,0):=by
 unfold Xg
 rw [c1,Option.bind_some,if_neg (by simp),c2,Option.bind_some,if_neg (by simp),Kd hn hS,Option.bind_some,Kd hm hT,Option.bind_some]
 dsimp only
 rw [Qyu]
 by_cases e:n=m
 ·subst e
  by_cases h:prs n (near S)=prs n (near T)
  ·rw [if_pos (decide_eq_true ⟨rfl,(Qrb hn hS hT).2 h⟩),Qcp hn hS,Option.bind_some,Qcp hm hT,Option.bind_some,Quj (by have:=Qst (S:=S) (show n≤7 by omega); omega),Option.bind_some]
   unfold eqv
   simp [h]
  ·rw [if_neg (by simp only [decide_eq_true_eq,not_and]; exact fun _ e=>h ((Qrb hn hS hT).1 e))]
   unfold eqv
   simp [h]
 ·rw [if_neg (by simp only [decide_eq_true_eq,not_and]; exact fun h=>absurd (Int.ofNat_inj.1 h) e)]
  unfold eqv
  simp [e]
theorem Qpa {n m:Nat} {S T:Nat → Nat} (hn:n≤6) (hS:L64 n S) (hm:m≤6) (hT:L64 m T):K5 (Qj n S) (Qj m T)=some (eqv n m S T):=by
 unfold K5
 rw [Yk,Yk]
 by_cases e:n=m
 ·subst e
  rw [if_pos (by simp),Qe1 (by omega) hS,Option.bind_some,Qe1 (by omega) hT,Option.bind_some,Qo9 (by have:=Qtc (N:=near S) (show n≤7 by omega); omega),Option.bind_some]
  by_cases h:prs n (near S)=prs n (near T)
  ·rw [if_pos (by simp [h]),Qis hn hS,Option.bind_some,Qis hn hT,Option.bind_some,Qna (by have:=Qst (S:=S) (show n≤7 by omega); omega),Option.bind_some]
   unfold eqv
   simp [h]
  ·rw [if_neg (by simp [h])]
   unfold eqv
   simp [h]
 ·rw [if_neg (by simp only [beq_iff_eq]; exact fun h=>e (Int.ofNat_inj.1 h))]
  unfold eqv
  simp [e]
theorem Qsa {x1 x3 x5 x7 x9 y:List Int} {k:Nat} (hk:k < 5) (h:∀y∈([x1,x3,x5,x7,x9]:List (List Int)),Few y) (hy:Few y) :
  Xa x1 x3 x5 x7 x9 y (k:Int)=some (.next (zw ((k:Int)+1))):=by
 unfold Xa
 generalize hL:([x1,x3,x5,x7,x9]:List (List Int))=L at *
 have hl:L.length=5:=by rw [←hL]; rfl
 have hkl:k < L.length:=by omega
 rw [if_pos (decide_eq_true (by omega)),Yb hkl,Option.bind_some]
 obtain ⟨m,T,e,hm,hT⟩:=h _ (List.getElem_mem hkl)
 obtain ⟨n,S,rfl,hn,hS⟩:=hy
 rw [e]
 rcases Qzr hn hS with ⟨⟨h6,hg⟩,h1,h2,_,_⟩ | ⟨h1,h2,_,_⟩
 ·rcases Qzr hm hT with ⟨⟨h6',hg'⟩,h1',h2',_,_⟩ | ⟨h1',h2',_,_⟩
  ·rw [Qvt h6 hg h6' hg' h2 h2',Option.bind_some,h1,Option.bind_some,if_neg (by decide),h1',Option.bind_some,if_neg (by decide),if_neg (by simp),Qpa h6 hS h6' hT,Option.bind_some,if_neg (by simp)]
  ·have:Xg (Qj n S) (Qj m T)=some (false,310):=by
    unfold Xg
    rw [h2,Option.bind_some,if_neg (by simp),h2']; rfl
   rw [this,Option.bind_some,h1,Option.bind_some,if_neg (by decide),h1',Option.bind_some]
   rfl
 ·have:Xg (Qj n S) (Qj m T)=some (false,310):=by
   unfold Xg
   rw [h2]; rfl
  rw [this,Option.bind_some,h1,Option.bind_some]
  rfl
theorem pairs_true (p0 p1:Tharuspexref31_Draft) (p2:Int × Int) (p3:List Int) (h0:Yp p0) (h1:Yp p1) (h2:(Lit.int .u8 p2.1).wf=true∧(Lit.int .u8 p2.2).wf=true) (h3:p3.length≤maxLen∧∀y0∈p3,(Lit.int .u64 y0).wf=true) :
  J7 p0 p1 p2 p3=some true:=by
 have few_draft:∀d:Tharuspexref31_Draft,Qg4 d→∃g,Zq d 6=some g∧Few g:=fun d hd=>by
  obtain ⟨S,hg,hG,h6⟩:=Qvc hd (m:=6) (by omega)
  exact ⟨_,hg,_,S,rfl,by omega,Qwo (by omega) hG⟩
 have d0:=Qqd h0
 have d1:=Qqd h1
 obtain ⟨g,hg,hgf⟩:=few_draft p0 d0
 obtain ⟨x3,e3,f3⟩:=Qm5 hgf (wf8 h2.1)
 obtain ⟨x5,e5,f5⟩:=Qm5 f3 (wf8 h2.2)
 obtain ⟨x7,e7,f7⟩:=few_draft ⟨p0.N,p1.Order,p1.Edges⟩ ⟨d0.n,d1.o0,d1.o1,d1.o2,d1.o3,d1.o4,d1.o5⟩
 obtain ⟨x9,e9,f9⟩:=Qyv (l:=p3) fun x hx=>by exact Q1j (h3.2 x hx)
 unfold J7
 have hg':Zq (Tharuspexref31_Draft.mk p0.N (p0.Order.1,p0.Order.2.1,p0.Order.2.2.1,p0.Order.2.2.2.1,p0.Order.2.2.2.2.1,p0.Order.2.2.2.2.2) p0.Edges) 6=some g:=hg
 have e7':Zq (Tharuspexref31_Draft.mk p0.N (p1.Order.1,p1.Order.2.1,p1.Order.2.2.1,p1.Order.2.2.2.1,p1.Order.2.2.2.2.1,p1.Order.2.2.2.2.2) p1.Edges) 6=some x7:=e7
 rw [hg',Option.bind_some,e3,Option.bind_some,e5,Option.bind_some,e7',Option.bind_some,e9,Option.bind_some]
 have hall:∀y∈([g,x3,x5,x7,x9]:List (List Int)),Few y:=fun y hy=>by
  simp only [List.mem_cons,List.not_mem_nil,or_false] at hy
  rcases hy with rfl | rfl | rfl | rfl | rfl <;> assumption
 have inner:∀y,Few y→Qb fuel (Xa g x3 x5 x7 x9 y) 0=some (Sum.inr ()):=fun y hy=>by
  have h:=Ka (n:=5) (k0:=0) (by omega) (by omega) (fun i (_:Unit)=>i) (body:=Xa g x3 x5 x7 x9 y) (fun _=>()) (Sum.inr ())
   (fun k _ hk=>Qsa hk hall hy)
   (by unfold Xa; rw [if_neg (by decide)])
  rw [show ((0:Nat):Int)=0 from rfl] at h
  exact h
 have h:=Ka (n:=5) (k0:=0) (by omega) (by omega) (fun i (_:Unit)=>i) (body:=Yt g x3 x5 x7 x9) (fun _=>()) (Sum.inr ())
  (fun k _ hk=>by
   have hkl:k < ([g,x3,x5,x7,x9]:List (List Int)).length:=hk
   unfold Yt
   rw [if_pos (decide_eq_true (by omega)),Yb hkl,Option.bind_some,inner _ (hall _ (List.getElem_mem hkl)),Option.bind_some])
  (by unfold Yt; rw [if_neg (by decide)])
 rw [show ((0:Nat):Int)=0 from rfl] at h
 rw [h,Option.bind_some]
 dsimp only
 rw [Qw6]; rfl
#print axioms pairs_true
end Go.Ab
namespace Go.Ab
open Go Go.Proofs Go.Proofs.YtojklbpplceiiaaDoor
open Go.ChangeShapes Go.WideShapes Go.ChangeAt Go.RowKit
abbrev dr_laid:List (String × DataW Unit):=[("math/bits.deBruijn32tab",Rows.laid_math_bits_deBruijn32tab),("math/bits.deBruijn64tab",Rows.laid_math_bits_deBruijn64tab)]
theorem dr_own:ownKnob Tryd.prog.godebug=none:=by kernel_rfl
theorem Qxq:Tryd.prog.globalNamed "math/bits.deBruijn32tab" = some 0:=by kernel_rfl
theorem Qx0:Tryd.prog.globalNamed "math/bits.deBruijn64tab" = some 1:=by kernel_rfl
theorem dr_met (os:Os) (args:Array Value):laidMetH Tryd.prog dr_laid ((World.doorLaid Tryd.prog 19 os).forCall (fun _ _=>0) ⟨#[],args,[]⟩).memory :=
 laidMetH_of_parts3 (fuel:=8) (laidMet_of_run' 8 (by kernel_rfl) (by kernel_rfl)) (by kernel_rfl) (by kernel_rfl)
theorem dr_glob {W:World} (h:laidMetH Tryd.prog dr_laid W):Go.Ab.GlobIn W:=by
 rw [MakeChecks.laidMetH_plain _ _ _ (by kernel_rfl)] at h
 have h0:=Lib.tabIs_of_head (k:=.u8) (zs:=Go.Ab.tab0) (t:=164) (e:=5) (n:=32) Qxq (by kernel_rfl) (by kernel_rfl) (by kernel_rfl) (by kernel_rfl) (by kernel_rfl) h
 have h1:=Lib.tabIs_of_head (k:=.u8) (zs:=Go.Ab.tab1) (t:=165) (e:=5) (n:=64) Qx0 (by kernel_rfl) (by kernel_rfl) (by kernel_rfl) (by kernel_rfl) (by kernel_rfl) h.tail
 intro g xs hg i v hv
 match g,hg with
 | 0,hg =>
  cases hg
  have hi:i < Go.Ab.tab0.length:=by have:=(List.getElem?_eq_some_iff.1 hv).1; simpa using this
  have:=h0.cell Qxq i hi
  rw [this]
  rw [List.getElem?_map] at hv
  simpa [List.getD,hi] using hv
 | 1,hg =>
  cases hg
  have hi:i < Go.Ab.tab1.length:=by have:=(List.getElem?_eq_some_iff.1 hv).1; simpa using this
  have:=h1.cell Qx0 i hi
  rw [this]
  rw [List.getElem?_map] at hv
  simpa [List.getD,hi] using hv
 | n+2,hg=>cases hg
end Go.Ab
