/- What functions compute. No conditions. -/
import Derived.Test.YtojklbpplceiiaaDoorW14
import Derived.Test.YtojklbpplceiiaaDoorEng7
import Derived.Test.YtojklbpplceiiaaDoorW11
set_option linter.all false
namespace Go.Ab
open Go
set_option maxRecDepth 100000
set_option maxHeartbeats 1000000
theorem Qdg {n:Nat} {S:Nat → Nat} (r:Nat → Nat) (h:∀v,v < n→∀j,(S v).testBit j=true→j < n∧r j < r v):Gd n S:=by
 refine ⟨fun v hv j hj=>(h v hv j hj).1,fun v hv hb=>?_⟩
 have hT:Clo n S (msk n fun j=>decide (r j < r v)):=fun w hw hb j hj=>by
  rw [Qv] at hb ⊢
  simp only [Bool.and_eq_true,decide_eq_true_eq] at hb ⊢
  have:=h w hw j hj
  exact ⟨this.1,by omega⟩
 have hs:Zo (S v) (msk n fun j=>decide (r j < r v)):=fun j hj=>by
  rw [Qv]
  simp only [Bool.and_eq_true,decide_eq_true_eq]
  exact h v hv j hj
 have:=Vx hT hs n v hb
 rw [Qv] at this
 simp at this
theorem Qca {α:Type} {d:α} {body:Int × List α→Option (Qg (Int × List α) (List α))} {A i:Nat} {aI:Int} (hA:A≤i) (hi:i < 100000) (ha:aI=(A:Int)) {l:List α} (hl:l.length=i)
  (hb:∀s,body s=if (decide (s.1 > aI))=true then (lkI s.2 (zw (s.1 - 1))).bind fun a=>(lkI s.2 s.1).bind fun _=>some (.next (zw (s.1 - 1),s.2.set (Int.toNat s.1) a)) else some (.done s.2)) :
  Qb fuel body ((i:Int),l++[d])=some ((l++[d]).take (A+1)++l.drop A):=by
 subst ha
 have key:∀(j N k:Nat),k=A+j→k≤i→j < N→Qb N body ((k:Int),(l++[d]).take (k+1)++l.drop k)=some ((l++[d]).take (A+1)++l.drop A):=by
  intro j
  induction j with
  | zero =>
   intro N k hk hki hN
   obtain ⟨N,rfl⟩:∃M,N=M+1:=⟨N - 1,by omega⟩
   have:k=A:=by omega
   subst this
   unfold Qb
   rw [hb]
   dsimp only
   rw [if_neg (by simp)]
  | succ j ih =>
   intro N k hk hki hN
   obtain ⟨N,rfl⟩:∃M,N=M+1:=⟨N - 1,by omega⟩
   obtain ⟨k,rfl⟩:∃m,k=m+1:=⟨k - 1,by omega⟩
   have hkl:k < l.length:=by omega
   have hlen:((l++[d]).take (k+1+1)++l.drop (k+1)).length=i+1:=by simp; omega
   have hg:lkI ((l++[d]).take (k+1+1)++l.drop (k+1)) (k:Int)=some l[k]:=by
    rw [Q6 (by omega)]
    congr 1
    rw [List.getElem_append_left (by simp; omega),List.getElem_take,List.getElem_append_left hkl]
   have hg2:∃x,lkI ((l++[d]).take (k+1+1)++l.drop (k+1)) ((k+1:Nat):Int)=some x:=⟨_,Q6 (by omega)⟩
   obtain ⟨x,hx⟩:=hg2
   have e1:zw (((k+1:Nat):Int) - 1)=(k:Int):=by rw [w64 (by omega)]; omega
   have hset:((l++[d]).take (k+1+1)++l.drop (k+1)).set (k+1) l[k]=(l++[d]).take (k+1)++l.drop k:=by
    apply List.ext_getElem
    ·simp; omega
    ·intro q h1 h2
     rw [List.getElem_set]
     by_cases e:k+1=q
     ·subst e
      rw [if_pos rfl,List.getElem_append_right (by simp; omega)]
      simp only [List.length_take,List.length_append,List.length_singleton,List.getElem_drop]
      congr 1; omega
     ·rw [if_neg e]
      by_cases h3:q < k+1
      ·rw [List.getElem_append_left (by simp; omega),List.getElem_append_left (by simp; omega),List.getElem_take,List.getElem_take]
      ·have hq:q < i+1:=by simpa [hl] using (by rw [List.length_set] at h1; omega:q < i+1)
       rw [List.getElem_append_right (by simp; omega),List.getElem_append_right (by simp; omega)]
       simp only [List.length_take,List.length_append,List.length_singleton,List.getElem_drop]
       congr 1; omega
   unfold Qb
   rw [hb]
   dsimp only
   rw [if_pos (by simp; omega),e1,hg,Option.bind_some,hx,Option.bind_some]
   dsimp only
   rw [Int.toNat_natCast,hset]
   exact ih N k (by omega) (by omega) (by omega)
 have h:=key (i - A) fuel i (by omega) (Nat.le_refl _) (by unfold fuel; omega)
 rw [←h]
 congr 2
 rw [List.take_of_length_le (by simp; omega),List.drop_eq_nil_of_le (by omega),List.append_nil]
def Qa8 {α:Type} (A:Nat) (x:α) (l:List α):List α:=l.take A++x::l.drop A
theorem Qd3 {α:Type} {d:α} {A i:Nat} (hA:A≤i) {l:List α} (hl:l.length=i) (x:α):((l++[d]).take (A+1)++l.drop A).set A x=Qa8 A x l:=by
 unfold Qa8
 have e:(l++[d]).take (A+1)=l.take A++[(l++[d])[A]'(by simp; omega)]:=by
  rw [List.take_succ_eq_append_getElem (by simp; omega),List.take_append_of_le_length (by omega)]
 rw [e,List.append_assoc,List.set_append,if_neg (by simp; omega)]
 simp only [List.length_take]
 rw [show A - min A l.length=0 by omega]
 rfl
theorem Qd9 {α:Type} {d:α} {A i:Nat} (hA:A≤i) {l:List α} (hl:l.length=i):∃x,lkI ((l++[d]).take (A+1)++l.drop A) (A:Int)=some x:=⟨_,Q6 (by simp; omega)⟩
theorem Qdz {o:Int} {k:Nat} (h:0≤o∧o < 256) (hk:0 < k):Int.tmod (zw o) (k:Int)=((o.toNat % k:Nat):Int):=by
 rw [w64 (by omega),Qtg h.1]
 obtain ⟨m,rfl⟩:∃m:Nat,o=(m:Int):=⟨o.toNat,by omega⟩
 simp
structure Qmd (d:Qd):Prop where
 n:0≤d.N∧d.N < 256
 o0:0≤d.Order.1∧d.Order.1 < 256
 o1:0≤d.Order.2.1∧d.Order.2.1 < 256
 o2:0≤d.Order.2.2.1∧d.Order.2.2.1 < 256
 o3:0≤d.Order.2.2.2.1∧d.Order.2.2.2.1 < 256
 o4:0≤d.Order.2.2.2.2.1∧d.Order.2.2.2.2.1 < 256
 o5:0≤d.Order.2.2.2.2.2∧d.Order.2.2.2.2.2 < 256
structure Qfo (i:Nat) (l:List Int):Prop where
 len:l.length=i
 inn:∀x∈l,∃a:Nat,a < i∧x=(a:Int)
 nod:l.Nodup
theorem Qd8 {i A:Nat} {l:List Int} (h:Qfo i l) (hA:A≤i):Qfo (i+1) (Qa8 A (i:Int) l):=by
 have hp:(Qa8 A (i:Int) l).Perm ((i:Int)::l):=by
  unfold Qa8
  refine List.perm_middle.trans ?_
  rw [List.take_append_drop]
 refine ⟨by rw [hp.length_eq]; simp [h.len],fun x hx=>?_,?_⟩
 ·rcases List.mem_cons.1 (hp.mem_iff.1 hx) with rfl | hx
  ·exact ⟨i,by omega,rfl⟩
  ·obtain ⟨a,h1,h2⟩:=h.inn x hx
   exact ⟨a,by omega,h2⟩
 ·rw [hp.nodup_iff,List.nodup_cons]
  refine ⟨fun hx=>?_,h.nod⟩
  obtain ⟨a,h1,h2⟩:=h.inn _ hx
  omega
theorem Qwj {d:Qd} (hd:Qmd d) {m N:Int} (hN:zw (1+(Int.tmod (zw (d.N)) m))=N) {i:Nat} (hi:i < 6) (hiN:(i:Int) < N) {l:List Int} (h:Qfo i l) :
  ∃l',Xd d m ((i:Int),l)=some (.next (zw ((i:Int)+1),l'))∧Qfo (i+1) l':=by
 have hll:(l++([0]:List Int)).length*8≤140737488355328:=by rw [List.length_append,h.len]; simp; omega
 have hi':i=0∨i=1∨i=2∨i=3∨i=4∨i=5:=by omega
 unfold Xd
 dsimp only
 rw [hN,if_pos (decide_eq_true hiN)]
 rcases hi' with rfl | rfl | rfl | rfl | rfl | rfl
 ·have hm:=Qdz hd.o0 (k:=1) (by omega)
  have hA:(d.Order.1).toNat % 1≤0:=by omega
  have hw:Qb fuel (Qbp d) ((0:Int),l++([0]:List Int))=some ((l++[0]).take ((d.Order.1).toNat % 1+1)++l.drop ((d.Order.1).toNat % 1)):=Qca (i:=0) hA (by omega) hm h.len (fun s=>rfl)
  obtain ⟨x,hx⟩:=Qd9 hA h.len
  have hm':Int.tmod (zw (d.Order.1)) 1=(((d.Order.1).toNat % 1:Nat):Int):=hm
  refine ⟨Qa8 ((d.Order.1).toNat % 1) 0 l,?_,Qd8 h hA⟩
  rw [if_pos (by decide),if_pos hll,hw,Option.bind_some,hm',hx,Option.bind_some,Option.bind_some,Int.toNat_natCast,Qd3 hA h.len]
  rfl
 ·have hm:=Qdz hd.o1 (k:=2) (by omega)
  have hA:(d.Order.2.1).toNat % 2≤1:=by omega
  have hw:Qb fuel (Qbv d) ((1:Int),l++([0]:List Int))=some ((l++[0]).take ((d.Order.2.1).toNat % 2+1)++l.drop ((d.Order.2.1).toNat % 2)):=Qca (i:=1) hA (by omega) hm h.len (fun s=>rfl)
  obtain ⟨x,hx⟩:=Qd9 hA h.len
  have hm':Int.tmod (zw (d.Order.2.1)) 2=(((d.Order.2.1).toNat % 2:Nat):Int):=hm
  refine ⟨Qa8 ((d.Order.2.1).toNat % 2) 1 l,?_,Qd8 h hA⟩
  rw [if_neg (by decide),if_pos (by decide),if_pos hll,hw,Option.bind_some,hm',hx,Option.bind_some,Option.bind_some,Int.toNat_natCast,Qd3 hA h.len]
  rfl
 ·have hm:=Qdz hd.o2 (k:=3) (by omega)
  have hA:(d.Order.2.2.1).toNat % 3≤2:=by omega
  have hw:Qb fuel (Qbw d) ((2:Int),l++([0]:List Int))=some ((l++[0]).take ((d.Order.2.2.1).toNat % 3+1)++l.drop ((d.Order.2.2.1).toNat % 3)):=Qca (i:=2) hA (by omega) hm h.len (fun s=>rfl)
  obtain ⟨x,hx⟩:=Qd9 hA h.len
  have hm':Int.tmod (zw (d.Order.2.2.1)) 3=(((d.Order.2.2.1).toNat % 3:Nat):Int):=hm
  refine ⟨Qa8 ((d.Order.2.2.1).toNat % 3) 2 l,?_,Qd8 h hA⟩
  rw [if_neg (by decide),if_neg (by decide),if_pos (by decide),if_pos hll,hw,Option.bind_some,hm',hx,Option.bind_some,Option.bind_some,Int.toNat_natCast,Qd3 hA h.len]
  rfl
 ·have hm:=Qdz hd.o3 (k:=4) (by omega)
  have hA:(d.Order.2.2.2.1).toNat % 4≤3:=by omega
  have hw:Qb fuel (Qb1 d) ((3:Int),l++([0]:List Int))=some ((l++[0]).take ((d.Order.2.2.2.1).toNat % 4+1)++l.drop ((d.Order.2.2.2.1).toNat % 4)):=Qca (i:=3) hA (by omega) hm h.len (fun s=>rfl)
  obtain ⟨x,hx⟩:=Qd9 hA h.len
  have hm':Int.tmod (zw (d.Order.2.2.2.1)) 4=(((d.Order.2.2.2.1).toNat % 4:Nat):Int):=hm
  refine ⟨Qa8 ((d.Order.2.2.2.1).toNat % 4) 3 l,?_,Qd8 h hA⟩
  rw [if_neg (by decide),if_neg (by decide),if_neg (by decide),if_pos (by decide),if_pos hll,hw,Option.bind_some,hm',hx,Option.bind_some,Option.bind_some,Int.toNat_natCast,Qd3 hA h.len]
  rfl
 ·have hm:=Qdz hd.o4 (k:=5) (by omega)
  have hA:(d.Order.2.2.2.2.1).toNat % 5≤4:=by omega
  have hw:Qb fuel (Qbx d) ((4:Int),l++([0]:List Int))=some ((l++[0]).take ((d.Order.2.2.2.2.1).toNat % 5+1)++l.drop ((d.Order.2.2.2.2.1).toNat % 5)):=Qca (i:=4) hA (by omega) hm h.len (fun s=>rfl)
  obtain ⟨x,hx⟩:=Qd9 hA h.len
  have hm':Int.tmod (zw (d.Order.2.2.2.2.1)) 5=(((d.Order.2.2.2.2.1).toNat % 5:Nat):Int):=hm
  refine ⟨Qa8 ((d.Order.2.2.2.2.1).toNat % 5) 4 l,?_,Qd8 h hA⟩
  rw [if_neg (by decide),if_neg (by decide),if_neg (by decide),if_neg (by decide),if_pos (by decide),if_pos hll,hw,Option.bind_some,hm',hx,Option.bind_some,Option.bind_some,Int.toNat_natCast,Qd3 hA h.len]
  rfl
 ·have hm:=Qdz hd.o5 (k:=6) (by omega)
  have hA:(d.Order.2.2.2.2.2).toNat % 6≤5:=by omega
  have hw:Qb fuel (Qbu d) ((5:Int),l++([0]:List Int))=some ((l++[0]).take ((d.Order.2.2.2.2.2).toNat % 6+1)++l.drop ((d.Order.2.2.2.2.2).toNat % 6)):=Qca (i:=5) hA (by omega) hm h.len (fun s=>rfl)
  obtain ⟨x,hx⟩:=Qd9 hA h.len
  have hm':Int.tmod (zw (d.Order.2.2.2.2.2)) 6=(((d.Order.2.2.2.2.2).toNat % 6:Nat):Int):=hm
  refine ⟨Qa8 ((d.Order.2.2.2.2.2).toNat % 6) 5 l,?_,Qd8 h hA⟩
  rw [if_neg (by decide),if_neg (by decide),if_neg (by decide),if_neg (by decide),if_neg (by decide),if_pos (by decide),if_pos hll,hw,Option.bind_some,hm',hx,Option.bind_some,Option.bind_some,Int.toNat_natCast,Qd3 hA h.len]
  rfl
theorem Qx5 {d:Qd} (hd:Qmd d) {m:Int} {n:Nat} (hn:n≤6) (hN:zw (1+(Int.tmod (zw (d.N)) m))=(n:Int)):∃l,Qb fuel (Xd d m) (0,([]:List Int))=some l∧Qfo n l:=by
 have h:=Yt (n:=n) (k0:=0) (by omega) (by omega) (fun i (x:List Int)=>(i,x)) (body:=Xd d m) Qfo (Qfo n)
  (fun k t _ hk hI=>by
   obtain ⟨l',h1,h2⟩:=Qwj hd hN (by omega) (by omega) hI
   exact .inl ⟨l',h1,h2⟩)
  (fun t ht=>by
   refine ⟨t,?_,ht⟩
   unfold Xd
   dsimp only
   rw [hN,if_neg (nlt n)]) [] ⟨rfl,fun x hx=>by simp at hx,List.nodup_nil⟩
 exact h
def Qhb (n:Nat) (l:List Int) (S:Nat → Nat):Prop:=∀v,v < n→∀x,(S v).testBit x=true→∃a b:Nat,a < b∧b < n∧l[a]?=some (x:Int)∧l[b]?=some (v:Int)
theorem Qsq {n:Nat} {l:List Int} {S:Nat → Nat} (hp:Qfo n l) (h:Qhb n l S):Gd n S:=by
 have inj:∀a b:Nat,∀x:Int,l[a]?=some x→l[b]?=some x→a=b:=fun a b x h1 h2=>by
  have ha:=(List.getElem?_eq_some_iff.1 h1)
  have hb:=(List.getElem?_eq_some_iff.1 h2)
  obtain ⟨ha,ha2⟩:=ha
  obtain ⟨hb,hb2⟩:=hb
  have:=List.pairwise_iff_getElem.1 hp.nod
  rcases Nat.lt_trichotomy a b with h | h | h
  ·exact absurd (ha2.trans hb2.symm) (this a b ha hb h)
  ·exact h
  ·exact absurd (hb2.trans ha2.symm) (this b a hb ha h)
 have hr:∃r:Nat → Nat,∀a x:Nat,l[a]?=some (x:Int)→r x=a:=by
  classical
  refine ⟨fun x=>if h:∃a,l[a]?=some (x:Int) then Classical.choose h else 0,fun a x h=>?_⟩
  have:∃a,l[a]?=some (x:Int):=⟨a,h⟩
  simp only [dif_pos this]
  exact inj _ _ _ (Classical.choose_spec this) h
 obtain ⟨r,hr⟩:=hr
 refine Qdg r fun v hv j hj=>?_
 obtain ⟨a,b,h1,h2,h3,h4⟩:=h v hv j hj
 rw [hr a j h3,hr b v h4]
 obtain ⟨c,h5,h6⟩:=hp.inn (j:Int) (List.mem_of_getElem? h3)
 exact ⟨by omega,h1⟩
theorem Qbb {n v:Nat} {S:Nat → Nat} {y:Nat}:(Qc n S).set v (y:Int)=Qc n fun u=>if u=v then y else S u:=by
 apply List.ext_getElem
 ·simp [Qc,Qc8]
 ·intro k h1 h2
  rw [List.getElem_set]
  simp only [Qc,Qc8,List.getElem_map,List.getElem_range]
  by_cases e:v=k
  ·subst e; simp
  ·have:¬ k=v:=fun h=>e h.symm
   simp [e,this]
theorem Qzi {d:Qd} {m:Int} {n:Nat} (hn:n≤6) (hN:zw (1+(Int.tmod (zw (d.N)) m))=(n:Int)) {l:List Int} (hp:Qfo n l) (hn1:1≤n) :
  ∃S,Qb fuel (Yf d m l) (0,1,List.replicate n (0:Int))=some (Qc n S)∧Qhb n l S:=by
 have hlen:∀S,(Qc n S).length=n:=fun S=>Zd
 have inner:∀(j B:Nat) (S:Nat → Nat) (s:Int × List Int),j < n→B≤100→Qhb n l S→∃r:Int × List Int,Qb fuel (Yg (s.1,(j:Int),s.2) d l) ((B:Int),((0:Nat):Int),Qc n S)=some r∧∃(B':Nat) (S':Nat → Nat),r=((B':Int),Qc n S')∧B'≤B+j∧Qhb n l S':=fun j B S s hj hB hS =>
  Yt (n:=j) (k0:=0) (by omega) (by omega) (fun i (x:Int × List Int)=>(x.1,i,x.2)) (body:=Yg (s.1,(j:Int),s.2) d l)
   (fun k t=>∃(B':Nat) (S':Nat → Nat),t=((B':Int),Qc n S')∧B'≤B+k∧Qhb n l S') (fun r=>∃(B':Nat) (S':Nat → Nat),r=((B':Int),Qc n S')∧B'≤B+j∧Qhb n l S')
   (fun k t _ hk hI=>by
    left
    obtain ⟨B',S',rfl,hB',hS'⟩:=hI
    unfold Yg
    try dsimp only
    rw [if_pos (dlt hk),if_pos (Qo B'),Qs6 (by omega:B' < 9223372036854775807)]
    split
    ·have hjl:j < l.length:=by rw [hp.len]; exact hj
     have hkl:k < l.length:=by omega
     obtain ⟨v,hv,hv2⟩:=hp.inn l[j] (List.getElem_mem hjl)
     obtain ⟨x,hx,hx2⟩:=hp.inn l[k] (List.getElem_mem hkl)
     rw [Q6 hjl,Option.bind_some,hv2,Qy hv,Option.bind_some,Q6 hkl,Option.bind_some,hx2,if_pos (Qo x),Int.toNat_natCast]
     have hg:=Qsq hp hS'
     have h64:=Qho (by omega) hg
     rw [Qa5 (by omega),Kj (h64 v hv) (Kl (by omega)),Qbb]
     refine ⟨_,rfl,B'+1,_,rfl,by omega,fun u hu y hy=>?_⟩
     try dsimp only at hy
     by_cases e:u=v
     ·subst e
      rw [if_pos rfl,Nat.testBit_or,Qm,Bool.or_eq_true] at hy
      rcases hy with hy | hy
      ·exact hS' u hu y hy
      ·have:=of_decide_eq_true hy
       subst this
       exact ⟨k,j,hk,hj,by rw [List.getElem?_eq_getElem hkl,hx2],by rw [List.getElem?_eq_getElem hjl,hv2]⟩
     ·rw [if_neg e] at hy
      exact hS' u hu y hy
    ·exact ⟨_,rfl,B'+1,S',rfl,by omega,hS'⟩)
   (fun t ht=>by
    obtain ⟨B',S',rfl,hB',hS'⟩:=ht
    unfold Yg
    dsimp only
    rw [if_neg (nlt j)]
    exact ⟨_,rfl,B',S',rfl,hB',hS'⟩) ((B:Int),Qc n S) ⟨B,S,rfl,by omega,hS⟩
 have h:=Yt (n:=n) (k0:=1) hn1 (by omega) (fun i (x:Int × List Int)=>(x.1,i,x.2)) (body:=Yf d m l)
  (fun k t=>∃(B':Nat) (S':Nat → Nat),t=((B':Int),Qc n S')∧B'≤6*k∧Qhb n l S') (fun r=>∃S,r=Qc n S∧Qhb n l S)
  (fun k t h1 hk hI=>by
   left
   obtain ⟨B',S',rfl,hB',hS'⟩:=hI
   obtain ⟨r,h2,B2,S2,rfl,hB2,hS2⟩:=inner k B' S' ((B':Int),Qc n S') hk (by omega) hS'
   unfold Yf
   dsimp only
   try dsimp only at h2
   rw [show ((0:Nat):Int)=0 from rfl] at h2
   rw [hN,if_pos (dlt hk),h2,Option.bind_some]
   exact ⟨_,rfl,B2,S2,rfl,by omega,hS2⟩)
  (fun t ht=>by
   obtain ⟨B',S',rfl,hB',hS'⟩:=ht
   unfold Yf
   dsimp only
   rw [hN,if_neg (nlt n)]
   exact ⟨_,rfl,S',rfl,hS'⟩) (0,List.replicate n (0:Int)) ⟨0,fun _=>0,by
    have:List.replicate n (0:Int)=Qc n fun _=>0:=by
     apply List.ext_getElem
     ·simp [Qc,Qc8]
     ·intro k h1 h2; simp [Qc,Qc8]
    rw [this]; rfl,by omega,fun v _ x hx=>by simp at hx⟩
 obtain ⟨r,h1,S,rfl,h2⟩:=h
 exact ⟨S,h1,h2⟩
theorem Qqe {d:Qd} (hd:Qmd d) {m:Nat} (hm:1≤m∧m≤6):∃S,Xe d (m:Int)=some (Qc (1+d.N.toNat % m) S)∧Gd (1+d.N.toNat % m) S∧1+d.N.toNat % m≤m:=by
 have hlt:d.N.toNat % m < m:=Nat.mod_lt _ (by omega)
 generalize hn:1+d.N.toNat % m=n at *
 have hN:zw (1+(Int.tmod (zw (d.N)) (m:Int)))=(n:Int):=by
  rw [Qdz hd.n (by omega),w64 (by omega)]; omega
 obtain ⟨l,h1,h2⟩:=Qx5 hd (by omega) hN
 obtain ⟨S,h3,h4⟩:=Qzi (by omega) hN h2 (by omega)
 refine ⟨S,?_,Qsq h2 h4,by omega⟩
 unfold Xe
 rw [if_pos (by omega),h1,Option.bind_some,hN,if_pos (by omega),Int.toNat_natCast,h3]
 rfl
end Go.Ab
namespace Go.Ab
open Go
theorem Qj6 {cs:List AV} (h:WT (.int .u8) cs):∃a:Int,cs=[(AV.int .u8) a]∧(Lit.int .u8 a).wf=true:=by
 obtain ⟨n,rfl,w⟩:=h
 exact ⟨n,rfl,w⟩
theorem Q6a {cs:List AV} (h:WT (.cat (.int .u8) (.cat (.int .u8) (.cat (.int .u8) (.cat (.int .u8) (.cat (.int .u8) (.cat (.int .u8) .unit)))))) cs):∃x:(Int × Int × Int × Int × Int × Int),AV.agg cs=(fun x:(Int × Int × Int × Int × Int × Int)=>AV.agg [.int .u8 x.1,.int .u8 x.2.1,.int .u8 x.2.2.1,.int .u8 x.2.2.2.1,.int .u8 x.2.2.2.2.1,.int .u8 x.2.2.2.2.2]) x∧((Lit.int .u8 x.1).wf=true∧(Lit.int .u8 x.2.1).wf=true∧(Lit.int .u8 x.2.2.1).wf=true∧(Lit.int .u8 x.2.2.2.1).wf=true∧(Lit.int .u8 x.2.2.2.2.1).wf=true∧(Lit.int .u8 x.2.2.2.2.2).wf=true):=by
 obtain ⟨_,_,rfl,a0,r0⟩:=h
 obtain ⟨v0,e0,w0⟩:=Qj6 a0
 cases e0
 obtain ⟨_,_,rfl,a1,r1⟩:=r0
 obtain ⟨v1,e1,w1⟩:=Qj6 a1
 cases e1
 obtain ⟨_,_,rfl,a2,r2⟩:=r1
 obtain ⟨v2,e2,w2⟩:=Qj6 a2
 cases e2
 obtain ⟨_,_,rfl,a3,r3⟩:=r2
 obtain ⟨v3,e3,w3⟩:=Qj6 a3
 cases e3
 obtain ⟨_,_,rfl,a4,r4⟩:=r3
 obtain ⟨v4,e4,w4⟩:=Qj6 a4
 cases e4
 obtain ⟨_,_,rfl,a5,r5⟩:=r4
 obtain ⟨v5,e5,w5⟩:=Qj6 a5
 cases e5
 cases r5
 exact ⟨(v0,v1,v2,v3,v4,v5),rfl,⟨w0,w1,w2,w3,w4,w5⟩⟩
theorem Q56 {cs:List AV} (h:WT (.int .u16) cs):∃a:Int,cs=[(AV.int .u16) a]∧(Lit.int .u16 a).wf=true:=by
 obtain ⟨n,rfl,w⟩:=h
 exact ⟨n,rfl,w⟩
def Vn (x:Qd):Prop:=((Lit.int .u8 x.N).wf=true)∧(((Lit.int .u8 x.Order.1).wf=true∧(Lit.int .u8 x.Order.2.1).wf=true∧(Lit.int .u8 x.Order.2.2.1).wf=true∧(Lit.int .u8 x.Order.2.2.2.1).wf=true∧(Lit.int .u8 x.Order.2.2.2.2.1).wf=true∧(Lit.int .u8 x.Order.2.2.2.2.2).wf=true))∧((Lit.int .u16 x.Edges).wf=true)
theorem rdTharuspexref31_Draft {cs:List AV} (h:WT (.cat (.int .u8) (.cat (.cat (.int .u8) (.cat (.int .u8) (.cat (.int .u8) (.cat (.int .u8) (.cat (.int .u8) (.cat (.int .u8) .unit)))))) (.cat (.int .u16) .unit))) cs):∃x:Qd,AV.agg cs=eTharuspexref31_Draft x∧Vn x:=by
 obtain ⟨_,_,rfl,a0,r0⟩:=h
 obtain ⟨v0,e0,w0⟩:=Qj6 a0
 cases e0
 obtain ⟨_,_,rfl,a1,r1⟩:=r0
 obtain ⟨v1,e1,w1⟩:=Q6a a1
 cases e1
 obtain ⟨_,_,rfl,a2,r2⟩:=r1
 obtain ⟨v2,e2,w2⟩:=Q56 a2
 cases e2
 cases r2
 exact ⟨⟨v0,v1,v2⟩,rfl,⟨w0,w1,w2⟩⟩
theorem rdA26 {cs:List AV} (h:WT (.cat (.int .u8) (.cat (.int .u8) .unit)) cs):∃x:(Int × Int),AV.agg cs=(fun x:(Int × Int)=>AV.agg [.int .u8 x.1,.int .u8 x.2]) x∧((Lit.int .u8 x.1).wf=true∧(Lit.int .u8 x.2).wf=true):=by
 obtain ⟨_,_,rfl,a0,r0⟩:=h
 obtain ⟨v0,e0,w0⟩:=Qj6 a0
 cases e0
 obtain ⟨_,_,rfl,a1,r1⟩:=r0
 obtain ⟨v1,e1,w1⟩:=Qj6 a1
 cases e1
 cases r1
 exact ⟨(v0,v1),rfl,⟨w0,w1⟩⟩
end Go.Ab
namespace Go.Ab
open Go
set_option maxRecDepth 100000
set_option maxHeartbeats 1000000
theorem Q6c {n:Int} (h:(Lit.int .u8 n).wf=true):0≤n∧n≤255:=by
 simpa [Lit.wf,IntKind.min,IntKind.max,IntKind.bits,IntKind.signed] using h
theorem wf8 {n:Int} (h:(Lit.int .u8 n).wf=true):0≤n∧n < 256:=by have:=Q6c h; omega
theorem Q0u:Qe4=some true:=by kernel_rfl
theorem Qvj {n:Nat} {N:Nat → Nat → Bool} {p:Int × Int}:p∈prs n N↔∃i j:Nat,i < j∧j < n∧N i j=true∧p=((i:Int),(j:Int)):=by
 unfold prs
 rw [Zw]
 constructor
 ·rintro ⟨i,_,h2,h3⟩
  obtain ⟨j,h4,h5,h6⟩:=(Zw _).1 h3
  split at h6
  ·rename_i hN
   exact ⟨i,j,by omega,by omega,hN,List.mem_singleton.1 h6⟩
  ·cases h6
 ·rintro ⟨i,j,h1,h2,h3,rfl⟩
  refine ⟨i,by omega,by omega,(Zw _).2 ⟨j,by omega,by omega,?_⟩⟩
  rw [if_pos h3]; simp
def dels (a i:Nat):Nat := msk 64 fun b=>a.testBit b && !decide (i=b)
theorem Qzy {a i:Nat} (ha:a < 18446744073709551616) (b:Nat):(dels a i).testBit b=(a.testBit b && !decide (i=b)):=by
 unfold dels
 rw [Qv]
 by_cases h:b < 64
 ·simp [h]
 ·have:a.testBit b=false:=Nat.testBit_lt_two_pow (Nat.lt_of_lt_of_le (show a < 2^64 from ha) (Nat.pow_le_pow_right (by omega) (by omega)))
  simp [h,this]
def turn (S:Nat → Nat) (i j:Nat):Nat → Nat := fun u=>if u=i then S i ||| 2^j else if u=j then dels (S j) i else S u
theorem Q4l {n i j:Nat} {S:Nat → Nat} (h:L64 n S) (hi:i < n) (hj:j < 64):L64 n (turn S i j):=fun v hv=>by
 unfold turn
 split
 ·exact Nat.or_lt_two_pow (n:=64) (h i hi) (Kl hj)
 ·split
  ·exact msk_lt 64 _
  ·exact h v hv
theorem Qvl {a i:Nat} (ha:a < 18446744073709551616) (hi:i < 64):zv (zb (a:Int) &&& ~~~ zb (zv (1*2^min (Int.toNat (i:Int)) zk))).toNat = ((dels a i:Nat):Int):=by
 rw [Qa5 hi]
 exact Qth (n:=64) (by omega) ha (Kl hi) (fun _ _=>rfl) (fun b _=>Qm i b)
theorem Qw0 {n:Nat} {S:Nat → Nat} {k:Int} (hn:n≤7) (h:L64 n S) (hk:0≤k∧k < 256) :
  (prs n (near S)=[]∧Vj (Qc n S) k=some (Qc n S)) ∨
  (∃i j,i < n∧j < n∧i≠j∧(S j).testBit i=true∧Vj (Qc n S) k=some (Qc n (turn S i j))):=by
 have hlen:(Qc n S).length=n:=Zd
 unfold Vj
 rw [Qlf hn h,Option.bind_some,hlen,if_pos (by omega)]
 by_cases he:prs n (near S)=[]
 ·left
  rw [he]
  exact ⟨rfl,rfl⟩
 ·right
  have hl:0 < (prs n (near S)).length:=List.length_pos_iff.2 he
  have hl49:=Q2w (N:=near S) hn
  rw [if_neg (by simp; omega),if_pos (by omega)]
  have hm:Int.tmod (zw k) ((prs n (near S)).length:Int)=((k.toNat % (prs n (near S)).length:Nat):Int):=by
   rw [w64 (by omega),Qtg hk.1]
   obtain ⟨m,rfl⟩:∃m:Nat,k=(m:Int):=⟨k.toNat,by omega⟩
   simp
  rw [hm]
  have hb:k.toNat % (prs n (near S)).length < (prs n (near S)).length:=Nat.mod_lt _ hl
  rw [Q6 hb,Option.bind_some,if_pos (by omega)]
  obtain ⟨i,j,h1,h2,h3,h4⟩:=Qvj.1 (List.getElem_mem hb)
  rw [h4]
  dsimp only
  rw [Qy (show i < n by omega),Option.bind_some,Qdq (h i (by omega)) (by omega),Option.bind_some]
  by_cases hb2:(S i).testBit j=true
  ·refine ⟨j,i,h2,by omega,by omega,hb2,?_⟩
   rw [if_pos hb2,if_pos (Qo j),Qvl (h i (by omega)) (by omega),Qa5 (show i < 64 by omega),Int.toNat_natCast,Qbb,Qy h2,Option.bind_some,if_pos (Qo i)]
   rw [if_neg (by omega),Kj (h j h2) (Kl (by omega)),Int.toNat_natCast,Qbb]
   rfl
  ·refine ⟨i,j,by omega,h2,by omega,by unfold near at h3; rw [Bool.eq_false_iff.2 hb2] at h3; simpa using h3,?_⟩
   rw [if_neg hb2,Qy h2,Option.bind_some,if_pos (Qo i),Qvl (h j h2) (by omega),Qa5 (show j < 64 by omega),Int.toNat_natCast,Qbb,Qy (show i < n by omega),Option.bind_some,if_pos (Qo j)]
   rw [if_neg (by omega),Kj (h i (by omega)) (Kl (by omega)),Int.toNat_natCast,Qbb]
   rfl
theorem Qz4 {n:Nat} {S:Nat → Nat} (hn:n≤7) (h:L64 n S) :
  ((n≤6∧Gd n S)∧Y8 (Qc n S) 6=some true∧Qt (Qc n S)=some 0∧Yj (Qc n S)=some (prs n (near S),0)∧X8 (Qc n S)=some (cls n S,0)) ∨
  (Y8 (Qc n S) 6=some false∧Qt (Qc n S)=some 310∧Yj (Qc n S)=some ([],310)∧X8 (Qc n S)=some ([],310)):=by
 obtain ⟨c,hc,hc2⟩:=Qqm hn h
 obtain ⟨d,hd,hd2⟩:=Qeo (m:=6) hn h
 have e:d=c:=by rw [Bool.eq_iff_iff,hc2,hd2]
 subst e
 cases d with
 | true =>
  left
  obtain ⟨h1,h2⟩:=hc2.1 rfl
  refine ⟨⟨h1.2,h2⟩,hd,hc,?_,?_⟩
  ·unfold Yj
   rw [hc,Option.bind_some,if_neg (by simp),Kp h1.2 h2,Option.bind_some]
   show (Zi ⟨(n:Int),Qi (mI (nrN n S))⟩).bind _=_
   rw [Qtl h1.2]; rfl
  ·unfold X8
   rw [hc,Option.bind_some,if_neg (by simp),Qaa h1.2 h2]; rfl
 | false =>
  right
  refine ⟨hd,hc,?_,?_⟩
  ·unfold Yj
   rw [hc]; rfl
  ·unfold X8
   rw [hc]; rfl
theorem Qsf {d:Qd} (h:Vn d):Qmd d:=by
 obtain ⟨h0,⟨h1,h2,h3,h4,h5,h6⟩,_⟩:=h
 exact ⟨wf8 h0,wf8 h1,wf8 h2,wf8 h3,wf8 h4,wf8 h5,wf8 h6⟩
end Go.Ab
namespace Go.Ab
open Go
set_option maxRecDepth 100000
set_option maxHeartbeats 1000000
def eqv (n m:Nat) (S T:Nat → Nat):Bool:=decide (n=m∧prs n (near S)=prs m (near T)∧cls n S=cls m T)
theorem near_symm {S:Nat → Nat} {u w:Nat}:near S u w=near S w u:=by unfold near; exact Bool.or_comm _ _
theorem Qeq {n:Nat} {S:Nat → Nat} (h:Gd n S) {u:Nat} (hu:u < n):near S u u=false:=by
 have:(S u).testBit u=false:=Bool.eq_false_iff.2 fun e=>h.acyc u hu (Vo n u e)
 unfold near; rw [this]; rfl
theorem Qjs {n:Nat} {S T:Nat → Nat} (hS:Gd n S) (hT:Gd n T):prs n (near S)=prs n (near T)↔∀u w,u < n→w < n→near S u w=near T u w:=by
 constructor
 ·intro h
  have key:∀u w,u < w→w < n→near S u w=near T u w:=fun u w h1 h2=>by
   have e:∀N,((u:Int),(w:Int))∈prs n N↔N u w=true:=fun N=>by
    rw [Qvj]
    constructor
    ·rintro ⟨i,j,_,_,h5,h6⟩
     have e1:u=i:=by have:=congrArg Prod.fst h6; exact Int.ofNat_inj.1 this
     have e2:w=j:=by have:=congrArg Prod.snd h6; exact Int.ofNat_inj.1 this
     rw [e1,e2]; exact h5
    ·intro h5; exact ⟨u,w,h1,h2,h5,rfl⟩
   rw [Bool.eq_iff_iff,←e (near S),←e (near T),h]
  intro u w hu hw
  rcases Nat.lt_trichotomy u w with h1 | h1 | h1
  ·exact key u w h1 hw
  ·subst h1; rw [Qeq hS hu,Qeq hT hu]
  ·rw [near_symm,near_symm (S:=T)]; exact key w u h1 hu
 ·intro h
  unfold prs
  exact Q1 n fun i _ hi=>Q1 _ fun j h1 h2=>by rw [h i j (by omega) (by omega)]
theorem Qph {n:Nat} {S:Nat → Nat} (h:Gd n S) {u w:Nat} (hn:¬ (u < n∧w < n)):nrN n S u w=false:=by
 unfold nrN
 have key:∀a b,¬ (a < n∧b < n)→(decide (a < n) && (S a).testBit b)=false:=fun a b hab=>by
  by_cases ha:a < n
  ·have:(S a).testBit b=false:=Bool.eq_false_iff.2 fun e=>hab ⟨ha,h.inn a ha b e⟩
   rw [this]; simp
  ·simp [ha]
 rw [key u w hn,key w u (fun e=>hn ⟨e.2,e.1⟩)]; rfl
theorem Qsz {n:Nat} {S T:Nat → Nat} (hn:n≤6) (hS:Gd n S) (hT:Gd n T):Qi (mI (nrN n S))=Qi (mI (nrN n T))↔prs n (near S)=prs n (near T):=by
 rw [Qjs hS hT]
 constructor
 ·intro h u w hu hw
  have key:∀i,i < 6→mI (nrN n S) i=mI (nrN n T) i:=fun i hi=>by
   unfold Qi at h
   simp only [Prod.mk.injEq] at h
   have hi':i=0∨i=1∨i=2∨i=3∨i=4∨i=5:=by omega
   rcases hi' with rfl | rfl | rfl | rfl | rfl | rfl
   ·exact h.1
   ·exact h.2.1
   ·exact h.2.2.1
   ·exact h.2.2.2.1
   ·exact h.2.2.2.2.1
   ·exact h.2.2.2.2.2
  have h1:=key u (by omega)
  unfold mI at h1
  have h2:=Q3q (Int.ofNat_inj.1 h1) w (by omega)
  rwa [Kf hu hw,Kf hu hw] at h2
 ·intro h
  refine Qni fun u w _ _=>?_
  by_cases hb:u < n∧w < n
  ·rw [Kf hb.1 hb.2,Kf hb.1 hb.2]; exact h u w hb.1 hb.2
  ·rw [Qph hS hb,Qph hT hb]
theorem Q3z {n m:Int} {X Y:Nat → Int} :
  ((n==m) && (((Qi X).1==(Qi Y).1) && (((Qi X).2.1==(Qi Y).2.1) && (((Qi X).2.2.1==(Qi Y).2.2.1) && (((Qi X).2.2.2.1==(Qi Y).2.2.2.1) && (((Qi X).2.2.2.2.1==(Qi Y).2.2.2.2.1) && (((Qi X).2.2.2.2.2==(Qi Y).2.2.2.2.2) && true)))))))=decide (n=m∧Qi X=Qi Y):=by
 rw [Bool.eq_iff_iff]
 simp only [Bool.and_eq_true,beq_iff_eq,decide_eq_true_eq,Bool.and_true]
 unfold Qi
 simp only [Prod.mk.injEq]
theorem Qxz {n m:Nat} {S T:Nat → Nat} (hn:n≤6) (hS:Gd n S) (hm:m≤6) (hT:Gd m T) (c1:Qt (Qc n S)=some 0) (c2:Qt (Qc m T)=some 0):J2 (Qc n S) (Qc m T)=some (eqv n m S T,0):=by
 unfold J2
 rw [c1,Option.bind_some,if_neg (by simp),c2,Option.bind_some,if_neg (by simp),Kp hn hS,Option.bind_some,Kp hm hT,Option.bind_some]
 dsimp only
 rw [Q3z]
 by_cases e:n=m
 ·subst e
  by_cases h:prs n (near S)=prs n (near T)
  ·rw [if_pos (decide_eq_true ⟨rfl,(Qsz hn hS hT).2 h⟩),Qaa hn hS,Option.bind_some,Qaa hm hT,Option.bind_some,Qol (by have:=Qmo (S:=S) (show n≤7 by omega); omega),Option.bind_some]
   unfold eqv
   simp [h]
  ·rw [if_neg (by simp only [decide_eq_true_eq,not_and]; exact fun _ e=>h ((Qsz hn hS hT).1 e))]
   unfold eqv
   simp [h]
 ·rw [if_neg (by simp only [decide_eq_true_eq,not_and]; exact fun h=>absurd (Int.ofNat_inj.1 h) e)]
  unfold eqv
  simp [e]
end Go.Ab
namespace Go.Ab
open Go
set_option maxRecDepth 100000
set_option maxHeartbeats 1000000
theorem Xc {n:Nat} {S:Nat → Nat} (h:Gd n S):∃r:Nat → Nat,∀v,v < n→∀j,(S v).testBit j=true→r j < r v:=by
 have e:=Qo2.2 h
 obtain ⟨h1,r,M,h2,h3⟩:=Qpd (n:=n) (S:=S) n
 have hall:=(Qns h1).1 e
 exact ⟨r,fun v hv j hj=>(h3 v (hall v hv) j hj).2⟩
def Z2 (S:Nat → Nat) (a b c:Nat):Bool:=(S b).testBit a && (S b).testBit c && !near S a c
theorem Qid {n:Nat} {S:Nat → Nat} {p:Int × Int × Int}:p∈cls n S↔∃a b c:Nat,a < c∧c < n∧b < n∧Z2 S a b c=true∧p=((a:Int),(b:Int),(c:Int)):=by
 unfold cls
 rw [Zw]
 constructor
 ·rintro ⟨a,_,ha,h⟩
  obtain ⟨b,_,hb,h⟩:=(Zw _).1 h
  obtain ⟨c,hc,hc2,h⟩:=(Zw _).1 h
  split at h
  ·rename_i hN
   exact ⟨a,b,c,by omega,by omega,by omega,hN,List.mem_singleton.1 h⟩
  ·cases h
 ·rintro ⟨a,b,c,h1,h2,h3,h4,rfl⟩
  refine ⟨a,by omega,by omega,(Zw _).2 ⟨b,by omega,by omega,(Zw _).2 ⟨c,by omega,by omega,?_⟩⟩⟩
  unfold Z2 at h4
  rw [if_pos h4]; simp
theorem Qds {n:Nat} {S T:Nat → Nat}:cls n S=cls n T↔∀a b c,a < c→c < n→b < n→Z2 S a b c=Z2 T a b c:=by
 constructor
 ·intro h a b c h1 h2 h3
  have e:∀U,((a:Int),(b:Int),(c:Int))∈cls n U↔Z2 U a b c=true:=fun U=>by
   rw [Qid]
   constructor
   ·rintro ⟨a',b',c',_,_,_,h5,h6⟩
    simp only [Prod.mk.injEq,Int.ofNat_inj] at h6
    obtain ⟨rfl,rfl,rfl⟩:=h6
    exact h5
   ·intro h5; exact ⟨a,b,c,h1,h2,h3,h5,rfl⟩
  rw [Bool.eq_iff_iff,←e S,←e T,h]
 ·intro h
  unfold cls
  refine Q1 n fun a _ ha=>Q1 n fun b _ hb=>Q1 _ fun c h1 h2=>?_
  have:=h a b c (by omega) (by omega) (by omega)
  unfold Z2 at this
  rw [this]
theorem colB_symm {S:Nat → Nat} {a b c:Nat}:Z2 S a b c=Z2 S c b a:=by
 unfold Z2; rw [near_symm,Bool.and_comm ((S b).testBit a)]
theorem Qmx {n:Nat} {S T:Nat → Nat} (h:cls n S=cls n T) (hS:Gd n S) (hT:Gd n T) {a b c:Nat} (hac:a≠c) (ha:a < n) (hc:c < n) (hb:b < n):Z2 S a b c=Z2 T a b c:=by
 rcases Nat.lt_or_gt_of_ne hac with h1 | h1
 ·exact Qds.1 h a b c h1 hc hb
 ·rw [colB_symm,colB_symm (S:=T)]; exact Qds.1 h c b a h1 ha hb
section
variable {n i j:Nat} {S:Nat → Nat} (hn:n≤7) (h:Gd n S) (hi:i < n) (hj:j < n) (hij:i≠j) (he:(S j).testBit i=true)
include hn h hi hj hij he
theorem X9 (u x:Nat) (hu:u < n):(turn S i j u).testBit x=if u=i then (S i).testBit x || decide (j=x) else if u=j then (S j).testBit x && !decide (i=x) else (S u).testBit x:=by
 have h64:=Qho (show n≤8 by omega) h
 unfold turn
 by_cases e:u=i
 ·simp only [e,if_true]; rw [Nat.testBit_or,Qm]
 ·by_cases e2:u=j
  ·simp only [e2,if_true]
   rw [if_neg (fun h=>hij h.symm),if_neg (fun h=>hij h.symm),Qzy (h64 j hj)]
  ·rw [if_neg e,if_neg e2,if_neg e,if_neg e2]
theorem Qqt {u w:Nat} (hu:u < n) (hw:w < n):near (turn S i j) u w=near S u w:=by
 have hji:(S i).testBit j=false:=by
  obtain ⟨r,hr⟩:=Xc h
  rw [Bool.eq_false_iff]
  intro e
  have:=hr i hi j e
  have:=hr j hj i he
  omega
 have hji':¬ j=i:=fun e=>hij e.symm
 unfold near
 rw [X9 hn h hi hj hij he u w hu,X9 hn h hi hj hij he w u hw]
 by_cases e1:u=i
 ·subst e1
  by_cases e2:w=u
  ·subst e2; simp [hji']
  ·by_cases e3:w=j
   ·subst e3; simp [hji,he,hji']
   ·have:¬ j=w:=fun e=>e3 e.symm
    simp [e2,e3,this]
 ·by_cases e2:u=j
  ·subst e2
   by_cases e3:w=i
   ·subst e3; simp [he,hij]
   ·have:¬ i=w:=fun e=>e3 e.symm
    by_cases e4:w=u
    ·subst e4; simp [e1,this]
    ·simp [e1,e3,e4,this]
  ·by_cases e3:w=i
   ·subst e3
    have:¬ j=u:=fun e=>e2 e.symm
    simp [e1,e2,this]
   ·by_cases e4:w=j
    ·subst e4
     have:¬ i=u:=fun e=>e1 e.symm
     simp [e1,e2,e3,this]
    ·simp [e1,e2,e3,e4]
def Qhi (S:Nat → Nat) (i j:Nat):Prop:=S j=S i ||| 2^i
omit hn h hi hj hij he in
theorem Qf0 (hc:Qhi S i j) (x:Nat):(S j).testBit x=((S i).testBit x || decide (i=x)):=by
 unfold Qhi at hc
 rw [hc,Nat.testBit_or,Qm]
theorem Qfz (hc:Qhi S i j):Gd n (turn S i j):=by
 obtain ⟨r,hr⟩:=Xc h
 have hrij:=hr j hj i he
 refine Qdg (fun x=>if x=j then 2*r i+1 else 2*r x+2) fun v hv x hx=>?_
 rw [X9 hn h hi hj hij he v x hv] at hx
 have hii:¬ (S i).testBit i=true:=fun e=>by have:=hr i hi i e; omega
 by_cases e1:v=i
 ·subst e1
  rw [if_pos rfl] at hx
  by_cases e2:x=j
  ·subst e2
   refine ⟨hj,?_⟩
   rw [if_pos rfl,if_neg hij]; omega
  ·have hx:(S v).testBit x=true:=by
    rw [Bool.or_eq_true] at hx
    exact hx.resolve_right fun e=>e2 (of_decide_eq_true e).symm
   refine ⟨h.inn v hv x hx,?_⟩
   rw [if_neg e2,if_neg hij]
   have:=hr v hv x hx; omega
 ·rw [if_neg e1] at hx
  by_cases e2:v=j
  ·subst e2
   rw [if_pos rfl,Bool.and_eq_true] at hx
   have hxi:¬ i=x:=fun e=>by simp [e] at hx
   have hx2:=hx.1
   rw [Qf0 hc] at hx2
   have hx2:(S i).testBit x=true:=by simpa [hxi] using hx2
   refine ⟨h.inn i hi x hx2,?_⟩
   have h3:=hr i hi x hx2
   have:¬ x=v:=fun e=>by rw [e] at h3; omega
   rw [if_neg this,if_pos rfl]; omega
  ·rw [if_neg e2] at hx
   refine ⟨h.inn v hv x hx,?_⟩
   have h3:=hr v hv x hx
   rw [if_neg e2]
   split
   ·rename_i e3; subst e3; omega
   ·omega
theorem Q0q (hc:Qhi S i j):cls n S=cls n (turn S i j):=by
 have nr:∀p q,p < n→q < n→near (turn S i j) p q=near S p q:=fun p q hp hq=>Qqt hn h hi hj hij he hp hq
 have fwd:∀p b q,p≠q→p < n→q < n→b < n→Z2 S p b q=true→(turn S i j b).testBit p=true:=fun p b q hpq hp hq hb hcol=>by
  unfold Z2 at hcol
  simp only [Bool.and_eq_true,Bool.not_eq_true'] at hcol
  obtain ⟨⟨k1,k2⟩,k3⟩:=hcol
  rw [X9 hn h hi hj hij he b p hb]
  by_cases e1:b=i
  ·rw [if_pos e1,←e1,k1]; rfl
  ·rw [if_neg e1]
   by_cases e2:b=j
   ·subst e2
    rw [if_pos rfl,k1]
    have:¬ i=p:=fun e=>by
     subst e
     rw [Qf0 hc] at k2
     have:(S i).testBit q=true:=by simpa [hpq] using k2
     unfold near at k3
     rw [this] at k3; cases k3
    simp [this]
   ·rw [if_neg e2,k1]
 have bwd:∀p b q,p≠q→p < n→q < n→b < n→Z2 (turn S i j) p b q=true→(S b).testBit p=true:=fun p b q hpq hp hq hb hcol=>by
  unfold Z2 at hcol
  rw [nr p q hp hq] at hcol
  simp only [Bool.and_eq_true,Bool.not_eq_true'] at hcol
  obtain ⟨⟨k1,k2⟩,k3⟩:=hcol
  rw [X9 hn h hi hj hij he b p hb] at k1
  rw [X9 hn h hi hj hij he b q hb] at k2
  by_cases e1:b=i
  ·rw [if_pos e1] at k1 k2
   subst e1
   by_cases e2:j=p
   ·subst e2
    have:(S b).testBit q=true:=by simpa [hpq] using k2
    have:(S j).testBit q=true:=by rw [Qf0 hc,this]; rfl
    unfold near at k3
    rw [this] at k3; cases k3
   ·simpa [e2] using k1
  ·rw [if_neg e1] at k1
   by_cases e2:b=j
   ·rw [if_pos e2,Bool.and_eq_true] at k1
    rw [e2]; exact k1.1
   ·rw [if_neg e2] at k1; exact k1
 refine Qds.2 fun a b c h1 h2 h3=>?_
 have ha:a < n:=by omega
 rw [Bool.eq_iff_iff]
 constructor
 ·intro hcol
  have f1:=fwd a b c (by omega) ha h2 h3 hcol
  have f2:=fwd c b a (by omega) h2 ha h3 (by rw [colB_symm]; exact hcol)
  unfold Z2 at hcol ⊢
  rw [nr a c ha h2,f1,f2]
  simp only [Bool.and_eq_true] at hcol ⊢
  exact ⟨⟨trivial,trivial⟩,hcol.2⟩
 ·intro hcol
  have f1:=bwd a b c (by omega) ha h2 h3 hcol
  have f2:=bwd c b a (by omega) h2 ha h3 (by rw [colB_symm]; exact hcol)
  unfold Z2 at hcol ⊢
  rw [nr a c ha h2] at hcol
  rw [f1,f2]
  simp only [Bool.and_eq_true] at hcol ⊢
  exact ⟨⟨trivial,trivial⟩,hcol.2⟩
end
theorem Qzr {n:Nat} {S T:Nat → Nat} (h:Qc n S=Qc n T) {v:Nat} (hv:v < n):S v=T v:=by
 have h1:=Qy (n:=n) (w:=S) hv
 rw [h,Qy hv] at h1
 exact (Int.ofNat_inj.1 (Option.some.inj h1)).symm
end Go.Ab
namespace Go.Ab
open Go
set_option maxRecDepth 100000
set_option maxHeartbeats 1000000
inductive Rch (S:Nat → Nat) (z anz x:Nat):Nat → Bool→Prop
 | start:Rch S z anz x x false
 | up {v p:Nat}:Rch S z anz x v false→z.testBit v=false→(S v).testBit p=true→Rch S z anz x p false
 | dn {v c:Nat} {d:Bool}:Rch S z anz x v d→z.testBit v=false→(S c).testBit v=true→Rch S z anz x c true
 | turn {v p:Nat}:Rch S z anz x v true→anz.testBit v=true→(S v).testBit p=true→Rch S z anz x p false
inductive Tow (S:Nat → Nat) (z anz y:Nat):Nat → Bool→Prop
 | here (d:Bool):Tow S z anz y y d
 | up {v p:Nat}:Tow S z anz y p false→z.testBit v=false→(S v).testBit p=true→Tow S z anz y v false
 | dn {v c:Nat} {d:Bool}:Tow S z anz y c true→z.testBit v=false→(S c).testBit v=true→Tow S z anz y v d
 | turn {v p:Nat}:Tow S z anz y p false→anz.testBit v=true→(S v).testBit p=true→Tow S z anz y v true
theorem Qpx (n:Nat) (P:Nat → Prop):∃T:Nat,(∀v,T.testBit v=true↔v < n∧P v):=by
 classical
 refine ⟨msk n fun v=>decide (P v),fun v=>?_⟩
 rw [Qv]
 simp
theorem Qgf {n:Nat} {S:Nat → Nat} (hS:∀v,v < n→∀j,(S v).testBit j=true→j < n) {s:Nat} (hs:∀j,s.testBit j=true→j < n) {j:Nat} (hj:(ups n S n s).testBit j=true):j < n:=by
 have:=Vx (Qcj n hS) (s:=s) (fun i hi=>by rw [Nat.testBit_two_pow_sub_one]; simpa using hs i hi) n j hj
 rw [Nat.testBit_two_pow_sub_one] at this; simpa using this
theorem Qa4 {n:Nat} {S:Nat → Nat} (hS:Gd n S) {s:Nat} (hs:∀j,s.testBit j=true→j < n) (P:Nat → Prop) (h0:∀j,s.testBit j=true→P j) (h1:∀v p,v < n→P v→(S v).testBit p=true→P p) {v:Nat} (hv:(ups n S n s).testBit v=true):P v:=by
 obtain ⟨T,hT⟩:=Qpx n P
 have hc:Clo n S T:=fun u hu hb j hj=>(hT j).2 ⟨hS.inn u hu j hj,h1 u j hu ((hT u).1 hb).2 hj⟩
 exact ((hT v).1 (Vx hc (fun j hj=>(hT j).2 ⟨hs j hj,h0 j hj⟩) n v hv)).2
def jo (n:Nat) (S:Nat → Nat) (an z a:Nat):Nat := msk n fun b=>an.testBit b && !z.testBit b && (List.range n).any fun k=>an.testBit k && ((S k).testBit a || decide (k=a)) && ((S k).testBit b || decide (k=b))
theorem Qud {n:Nat} {S:Nat → Nat} {an z a b:Nat} (hb:b < n):(jo n S an z a).testBit b=true↔an.testBit b=true∧z.testBit b=false∧∃k,k < n∧an.testBit k=true∧((S k).testBit a=true∨k=a)∧((S k).testBit b=true∨k=b):=by
 unfold jo
 rw [Qv]
 simp only [hb,decide_true,Bool.true_and,Bool.and_eq_true,Bool.not_eq_true',List.any_eq_true,Bool.or_eq_true,decide_eq_true_eq,List.mem_range]
 constructor
 ·rintro ⟨⟨h1,h2⟩,k,h3,⟨h4,h5⟩,h6⟩; exact ⟨h1,h2,k,h3,h4,h5,h6⟩
 ·rintro ⟨h1,h2,k,h3,h4,h5,h6⟩; exact ⟨⟨h1,h2⟩,k,h3,⟨h4,h5⟩,h6⟩
section
variable {n:Nat} {S:Nat → Nat} (hS:Gd n S) {z x y:Nat} (hz:∀j,z.testBit j=true→j < n) (hx:x < n) (hy:y < n) (hxz:z.testBit x=false) (hyz:z.testBit y=false)
def anS (n:Nat) (S:Nat → Nat) (x y z:Nat):Nat := ups n S n (2^x ||| 2^y ||| z)
def anZ (n:Nat) (S:Nat → Nat) (z:Nat):Nat := ups n S n z
def Qax (n:Nat) (S:Nat → Nat) (x y z:Nat):Nat := ups n (jo n S (anS n S x y z) z) n (2^x)
include hS hz hx hy hxz hyz
theorem Qwu {j:Nat} (h:(2^x ||| 2^y ||| z).testBit j=true):j < n:=by
 rw [Nat.testBit_or,Nat.testBit_or,Qm,Qm,Bool.or_eq_true,Bool.or_eq_true] at h
 rcases h with (h | h) | h
 ·have:=of_decide_eq_true h; omega
 ·have:=of_decide_eq_true h; omega
 ·exact hz j h
theorem Qh1:Clo n S (anS n S x y z):=Qcq hS.inn (fun j hj=>Qwu hS hz hx hy hxz hyz hj)
theorem Qij:Clo n S (anZ n S z):=Qcq hS.inn hz
theorem Qrp {j:Nat} (h:(anS n S x y z).testBit j=true):j < n:=Qgf hS.inn (fun j hj=>Qwu hS hz hx hy hxz hyz hj) h
theorem Q4p {j:Nat} (h:(anZ n S z).testBit j=true):j < n:=Qgf hS.inn hz h
theorem Qt6 {j:Nat} (h:(anZ n S z).testBit j=true):(anS n S x y z).testBit j=true :=
 Vx (Qh1 hS hz hx hy hxz hyz) (fun i hi=>Vo n i (by rw [Nat.testBit_or,hi]; simp)) n j h
theorem Q6q:(anS n S x y z).testBit x=true:=Vo n x (by rw [Nat.testBit_or,Nat.testBit_or,Qm]; simp)
theorem Q67:(anS n S x y z).testBit y=true:=Vo n y (by rw [Nat.testBit_or,Nat.testBit_or,Qm,Qm]; simp)
theorem Q07 {v:Nat} (h:(anS n S x y z).testBit v=true):(anZ n S z).testBit v=true∨(ups n S n (2^y)).testBit v=true∨(ups n S n (2^x)).testBit v=true:=by
 have px:∀j,(2^x).testBit j=true→j < n:=fun j hj=>by rw [Qm] at hj; have:=of_decide_eq_true hj; omega
 have py:∀j,(2^y).testBit j=true→j < n:=fun j hj=>by rw [Qm] at hj; have:=of_decide_eq_true hj; omega
 refine Qa4 hS (fun j hj=>Qwu hS hz hx hy hxz hyz hj) (fun v=>(anZ n S z).testBit v=true∨(ups n S n (2^y)).testBit v=true∨(ups n S n (2^x)).testBit v=true) (fun j hj=>?_) (fun v p hv hP hp=>?_) h
 ·rw [Nat.testBit_or,Nat.testBit_or,Bool.or_eq_true,Bool.or_eq_true] at hj
  rcases hj with (hj | hj) | hj
  ·exact .inr (.inr (Vo n j hj))
  ·exact .inr (.inl (Vo n j hj))
  ·exact .inl (Vo n j hj)
 ·rcases hP with h | h | h
  ·exact .inl (Qij hS hz hx hy hxz hyz v hv h p hp)
  ·exact .inr (.inl (Qcq hS.inn py v hv h p hp))
  ·exact .inr (.inr (Qcq hS.inn px v hv h p hp))
theorem Qwf {v:Nat} (h:(anZ n S z).testBit v=false):z.testBit v=false:=by
 rw [Bool.eq_false_iff] at h ⊢
 exact fun e=>h (Vo n v e)
theorem Q21 {v:Nat} (h:(ups n S n (2^x)).testBit v=true):(anZ n S z).testBit v=true∨Rch S z (anZ n S z) x v false:=by
 refine Qa4 hS (s:=2^x) (fun j hj=>by rw [Qm] at hj; have:=of_decide_eq_true hj; omega) (fun v=>(anZ n S z).testBit v=true∨Rch S z (anZ n S z) x v false) (fun j hj=>?_) (fun v p hv hP hp=>?_) h
 ·rw [Qm] at hj
  have:=of_decide_eq_true hj
  subst this
  exact .inr .start
 ·rcases hP with h | h
  ·exact .inl (Qij hS hz hx hy hxz hyz v hv h p hp)
  ·cases hz2:(anZ n S z).testBit v with
   | true=>exact .inl (Qij hS hz hx hy hxz hyz v hv hz2 p hp)
   | false=>exact .inr (.up h (Qwf hS hz hx hy hxz hyz hz2) hp)
theorem Q3f {v:Nat} (h:(ups n S n (2^y)).testBit v=true):(anZ n S z).testBit v=true∨∀d,Rch S z (anZ n S z) x v d→∃d,Rch S z (anZ n S z) x y d:=by
 refine Qa4 hS (s:=2^y) (fun j hj=>by rw [Qm] at hj; have:=of_decide_eq_true hj; omega) (fun v=>(anZ n S z).testBit v=true∨∀d,Rch S z (anZ n S z) x v d→∃d,Rch S z (anZ n S z) x y d) (fun j hj=>?_) (fun v p hv hP hp=>?_) h
 ·rw [Qm] at hj
  have:=of_decide_eq_true hj
  subst this
  exact .inr fun d hd=>⟨d,hd⟩
 ·rcases hP with h | h
  ·exact .inl (Qij hS hz hx hy hxz hyz v hv h p hp)
  ·cases hz2:(anZ n S z).testBit p with
   | true=>exact .inl rfl
   | false=>exact .inr fun d hd=>h true (.dn hd (Qwf hS hz hx hy hxz hyz hz2) hp)
theorem Q0l (hno:¬ ∃d,Rch S z (anZ n S z) x y d) {a:Nat} (h:(Qax n S x y z).testBit a=true):z.testBit a=false∧∃d,Rch S z (anZ n S z) x a d:=by
 obtain ⟨T,hT⟩:=Qpx n fun a=>z.testBit a=false∧∃d,Rch S z (anZ n S z) x a d
 have hc:Clo n (jo n S (anS n S x y z) z) T:=fun a ha hb b hbb=>by
  obtain ⟨_,haz,d,hd⟩:=(hT a).1 hb
  have hbn:b < n:=by
   unfold jo at hbb; rw [Qv] at hbb
   simp only [Bool.and_eq_true,decide_eq_true_eq] at hbb; exact hbb.1
  obtain ⟨h1,h2,k,hk,h3,h4,h5⟩:=(Qud hbn).1 hbb
  refine (hT b).2 ⟨hbn,h2,?_⟩
  have on:∀p,(∀d,Rch S z (anZ n S z) x k d→True)→Rch S z (anZ n S z) x k true→(S k).testBit p=true→∃d,Rch S z (anZ n S z) x p d:=fun p _ hkr hp=>by
   cases hkz:(anZ n S z).testBit k with
   | true=>exact ⟨_,.turn hkr hkz hp⟩
   | false =>
    rcases Q07 hS hz hx hy hxz hyz h3 with e | e | e
    ·rw [hkz] at e; cases e
    ·rcases Q3f hS hz hx hy hxz hyz e with e | e
     ·rw [hkz] at e; cases e
     ·exact absurd (e _ hkr) hno
    ·rcases Q21 hS hz hx hy hxz hyz e with e | e
     ·rw [hkz] at e; cases e
     ·exact ⟨_,.up e (Qwf hS hz hx hy hxz hyz hkz) hp⟩
  rcases h4 with h4 | rfl
  ·have hkr:Rch S z (anZ n S z) x k true:=.dn hd haz h4
   rcases h5 with h5 | rfl
   ·exact on b (fun _ _=>trivial) hkr h5
   ·exact ⟨_,hkr⟩
  ·rcases h5 with h5 | rfl
   ·cases d with
    | false=>exact ⟨_,.up hd haz h5⟩
    | true=>exact on b (fun _ _=>trivial) hd h5
   ·exact ⟨_,hd⟩
 have hs:Zo (2^x) T:=fun j hj=>by
  rw [Qm] at hj
  have:=of_decide_eq_true hj
  subst this
  exact (hT _).2 ⟨hx,hxz,_,.start⟩
 exact ((hT a).1 (Vx hc hs n a h)).2
theorem Q18 {a j:Nat} (h:(jo n S (anS n S x y z) z a).testBit j=true):j < n:=by
 unfold jo at h; rw [Qv] at h
 simp only [Bool.and_eq_true,decide_eq_true_eq] at h; exact h.1
theorem Qzw:Clo n (jo n S (anS n S x y z) z) (Qax n S x y z):=Qcq (fun v _ j hj=>Q18 hS hz hx hy hxz hyz hj) fun j hj=>by
 rw [Qm] at hj; have:=of_decide_eq_true hj; omega
theorem Q20 {j:Nat} (h:(Qax n S x y z).testBit j=true):j < n:=Qgf (fun v _ j hj=>Q18 hS hz hx hy hxz hyz hj) (fun j hj=>by
 rw [Qm] at hj; have:=of_decide_eq_true hj; omega) h
theorem Qgm {a b k:Nat} (ha:(Qax n S x y z).testBit a=true) (hb:b < n) (hban:(anS n S x y z).testBit b=true) (hbz:z.testBit b=false) (hk:(anS n S x y z).testBit k=true) (h1:(S k).testBit a=true∨k=a) (h2:(S k).testBit b=true∨k=b):(Qax n S x y z).testBit b=true :=
 Qzw hS hz hx hy hxz hyz a (Q20 hS hz hx hy hxz hyz ha) ha b ((Qud hb).2 ⟨hban,hbz,k,Qrp hS hz hx hy hxz hyz hk,hk,h1,h2⟩)
theorem Q6d {v:Nat} {d:Bool} (h:Rch S z (anZ n S z) x v d) (hd:d=false):(anS n S x y z).testBit v=true:=by
 induction h with
 | start=>exact Q6q hS hz hx hy hxz hyz
 | up _ _ hp ih=>exact Qh1 hS hz hx hy hxz hyz _ (Qrp hS hz hx hy hxz hyz (ih rfl)) (ih rfl) _ hp
 | dn=>cases hd
 | @turn v p _ hv hp ih=>exact Qt6 hS hz hx hy hxz hyz (Qij hS hz hx hy hxz hyz v (Q4p hS hz hx hy hxz hyz hv) hv p hp)
theorem Q6i {v:Nat} {d:Bool} (h:Tow S z (anZ n S z) y v d) (hd:d=true):(anS n S x y z).testBit v=true:=by
 induction h with
 | here=>exact Q67 hS hz hx hy hxz hyz
 | up=>cases hd
 | @dn v c d _ hv hc ih=>exact Qh1 hS hz hx hy hxz hyz c (Qrp hS hz hx hy hxz hyz (ih rfl)) (ih rfl) v hc
 | turn _ hv _ _=>exact Qt6 hS hz hx hy hxz hyz hv
theorem Qz7 {v:Nat} {d:Bool} (h:Rch S z (anZ n S z) x v d):Tow S z (anZ n S z) y v d→(z.testBit v=false→(Qax n S x y z).testBit v=true)∧(z.testBit v=true→d=true→∃p,(S v).testBit p=true∧(Qax n S x y z).testBit p=true):=by
 have lt:=fun {j:Nat} h=>Qrp hS hz hx hy hxz hyz (j:=j) h
 induction h with
 | start=>exact fun _=>⟨fun _=>Vo n x (by rw [Qm]; simp),fun e=>by rw [hxz] at e; cases e⟩
 | @up v p hr hv hp ih =>
  intro k
  have i1:=(ih (.up k hv hp)).1 hv
  have va:=Q6d hS hz hx hy hxz hyz hr rfl
  have pa:=Qh1 hS hz hx hy hxz hyz v (lt va) va p hp
  exact ⟨fun hpz=>Qgm hS hz hx hy hxz hyz i1 (lt pa) pa hpz va (.inr rfl) (.inl hp),fun _ e=>by cases e⟩
 | @dn v c d hr hv hc ih =>
  intro k
  have i1:=(ih (.dn k hv hc)).1 hv
  have ca:=Q6i hS hz hx hy hxz hyz k rfl
  exact ⟨fun hcz=>Qgm hS hz hx hy hxz hyz i1 (lt ca) ca hcz ca (.inl hc) (.inr rfl),fun _ _=>⟨v,hc,i1⟩⟩
 | @turn v p hr hv hp ih =>
  intro k
  have i:=ih (.turn k hv hp)
  have va:=Qt6 hS hz hx hy hxz hyz hv
  have pa:=Qh1 hS hz hx hy hxz hyz v (lt va) va p hp
  refine ⟨fun hpz=>?_,fun _ e=>by cases e⟩
  cases hvz:z.testBit v with
  | false=>exact Qgm hS hz hx hy hxz hyz (i.1 hvz) (lt pa) pa hpz va (.inr rfl) (.inl hp)
  | true =>
   obtain ⟨q,hq1,hq2⟩:=i.2 hvz rfl
   exact Qgm hS hz hx hy hxz hyz hq2 (lt pa) pa hpz va (.inl hq1) (.inl hp)
theorem Qpl:(Qax n S x y z).testBit y=true↔∃d,Rch S z (anZ n S z) x y d:=by
 constructor
 ·intro h
  apply Classical.byContradiction
  intro hno
  exact hno (Q0l hS hz hx hy hxz hyz hno h).2
 ·rintro ⟨d,h⟩
  exact (Qz7 hS hz hx hy hxz hyz h (.here d)).1 hyz
end
end Go.Ab
namespace Go.Ab
open Go
set_option maxRecDepth 100000
set_option maxHeartbeats 1000000
theorem Q1b {τ ρ σ:Type} {n:Nat} (hn:n≤10) (mkS:Int→τ→σ) {body:σ→Option (Qg σ ρ)} (I:Nat → τ→Prop) (Q:ρ→Prop) (p:Nat → Bool)
  (step:∀(x:Nat) (t:τ) (R R':Int),x < n→p x=true→I x t→(R != 0)=true→Qs R=some (x:Int) →
   zv (zb R &&& zb (zv (R - 1))).toNat = R' →
   (∃t',body (mkS R t)=some (.next (mkS R' t'))∧I (x+1) t')∨(∃r,body (mkS R t)=some (.done r)∧Q r))
  (skip:∀(x:Nat) (t:τ),x < n→p x=false→I x t→I (x+1) t)
  (done:∀t,I n t→∃r,body (mkS 0 t)=some (.done r)∧Q r) (t0:τ) (h0:I 0 t0) :
  ∃r,Qb fuel body (mkS ((msk n p:Nat):Int) t0)=some r∧Q r:=by
 have key:∀(j N k:Nat) (t:τ),k+j=n→j < N→I k t→∃r,Qb N body (mkS ((msk n fun i=>p i && decide (k≤i):Nat):Int) t)=some r∧Q r:=by
  intro j
  induction j using Nat.strongRecOn with
  | _ j ih =>
   intro N k t hk hN hI
   by_cases hx:∃i,k≤i∧i < n∧p i=true
   ·obtain ⟨x,x1,x2,x3,x4⟩:∃x,k≤x∧x < n∧p x=true∧∀i,k≤i→i < x→p i=false:=by
     have hs:=Qnm n (fun i=>p i && decide (k≤i)) (by obtain ⟨i,a,b,c⟩:=hx; exact ⟨i,b,by simp [a,c]⟩)
     refine ⟨_,?_,hs.1,?_,fun i a b=>?_⟩
     ·have:=hs.2.1; simp at this; exact this.2
     ·have:=hs.2.1; simp at this; exact this.1
     ·have:=hs.2.2 i b; simpa [a] using this
    have hIx:I x t:=by
     have:∀d,k+d≤x→I (k+d) t:=by
      intro d
      induction d with
      | zero=>intro _; exact hI
      | succ d ihd=>intro h; exact skip (k+d) t (by omega) (x4 _ (by omega) (by omega)) (ihd (by omega))
     have h:=this (x - k) (by omega)
     rwa [show k+(x - k)=x by omega] at h
    obtain ⟨N,rfl⟩:∃M,N=M+1:=⟨N - 1,by omega⟩
    obtain ⟨a1,a2,a3⟩:=Q0v (n:=n) (v:=x) (p:=fun i=>p i && decide (k≤i)) hn x2 (by simp [x1,x3]) (fun i hi=>by
     by_cases h:k≤i
     ·rw [x4 i h hi]; rfl
     ·simp [h])
    have e:msk n (fun i=>(p i && decide (k≤i)) && !decide (x=i))=msk n fun i=>p i && decide (x+1≤i):=Z5 fun i hi=>by
     by_cases h:x+1≤i
     ·have h2:¬ x=i:=by omega
      have h3:k≤i:=by omega
      simp [h,h2,h3]
     ·by_cases h2:x=i
      ·subst h2; simp
      ·by_cases h3:k≤i
       ·rw [x4 i h3 (by omega)]; simp
       ·simp [h,h3]
    rw [e] at a3
    rcases step x t _ _ x2 x3 hIx a1 a2 a3 with ⟨t',b1,b2⟩ | ⟨r,b1,b2⟩
    ·simp only [Qb,b1]
     exact ih (n - (x+1)) (by omega) N (x+1) t' (by omega) (by omega) b2
    ·simp only [Qb,b1]
     exact ⟨r,rfl,b2⟩
   ·have hno:∀i,k≤i→i < n→p i=false:=fun i a b=>by
     rw [Bool.eq_false_iff]; exact fun h=>hx ⟨i,a,b,h⟩
    have e:msk n (fun i=>p i && decide (k≤i))=0:=by
     have:msk n (fun _=>false)=0:=(Qc2 (by have:=Nat.two_pow_pos n; omega) fun i _=>by simp).symm
     rw [←this]
     exact Z5 fun i hi=>by
      by_cases h:k≤i
      ·rw [hno i h hi]; rfl
      ·simp [h]
    have hIn:I n t:=by
     have:∀d,k+d≤n→I (k+d) t:=by
      intro d
      induction d with
      | zero=>intro _; exact hI
      | succ d ihd=>intro h; exact skip (k+d) t (by omega) (hno _ (by omega) (by omega)) (ihd (by omega))
     have h:=this (n - k) (by omega)
     rwa [show k+(n - k)=n by omega] at h
    obtain ⟨N,rfl⟩:∃M,N=M+1:=⟨N - 1,by omega⟩
    rw [e]
    obtain ⟨r,b1,b2⟩:=done t hIn
    refine ⟨r,?_,b2⟩
    show Qb (N+1) body (mkS 0 t)=_
    simp only [Qb,b1]
 have h:=key n fuel 0 t0 (by omega) (by show n < 1152921504606846976; omega) h0
 have e:msk n (fun i=>p i && decide (0≤i))=msk n p:=Z5 fun i _=>by simp
 rwa [e] at h
abbrev Stp:=List (Tseparate_step × Bool)
def vis (m:Stp) (v:Nat) (d:Bool):Bool:=(Q5 qTseparate_step m ⟨(v:Int),d⟩).getD false
theorem Qst (a b:Tseparate_step):qTseparate_step a b=decide (a=b):=by
 obtain ⟨a1,a2⟩:=a; obtain ⟨b1,b2⟩:=b
 rw [Bool.eq_iff_iff]
 simp [qTseparate_step]
theorem Qzz {m:Stp} {k k':Tseparate_step} {v:Bool}:Q5 qTseparate_step (kput qTseparate_step m k v) k'=if k'=k then some v else Q5 qTseparate_step m k':=by
 induction m with
 | nil=>simp only [kput,Q5,Qst,decide_eq_true_eq]
 | cons p r ih =>
  simp only [kput]
  by_cases h:k=p.1
  ·rw [if_pos (by rw [Qst]; exact decide_eq_true h)]
   simp only [Q5,Qst,decide_eq_true_eq]
   by_cases h2:k'=k
   ·rw [if_pos h2,if_pos h2]
   ·rw [if_neg h2,if_neg h2,if_neg (by rw [←h]; exact h2)]
  ·rw [if_neg (by rw [Qst]; simpa using h)]
   simp only [Q5,Qst,decide_eq_true_eq]
   by_cases h2:k'=p.1
   ·rw [if_pos h2,if_neg (by rw [h2]; exact fun e=>h e.symm),if_pos h2]
   ·rw [if_neg h2,ih,if_neg h2]
theorem Q3a {m:Stp} {v u:Nat} {d e:Bool}:vis (kput qTseparate_step m ⟨(v:Int),d⟩ true) u e=(vis m u e || (decide (u=v) && decide (e=d))):=by
 unfold vis
 rw [Qzz]
 by_cases h:(⟨(u:Int),e⟩:Tseparate_step)=⟨(v:Int),d⟩
 ·rw [if_pos h]
  simp only [Tseparate_step.mk.injEq,Int.ofNat_inj] at h
  simp [h.1,h.2]
 ·rw [if_neg h]
  simp only [Tseparate_step.mk.injEq,Int.ofNat_inj,not_and] at h
  by_cases h1:u=v
  ·simp [h1,h h1]
  ·simp [h1]
section
variable (n:Nat) (S:Nat → Nat) (z az x:Nat)
def Suc (m:Stp) (u:Nat) (e:Bool):Prop :=
 (z.testBit u=false→∀c,c < n→(S c).testBit u=true→vis m c true=true)∧(e=false→z.testBit u=false→∀p,p < n→(S u).testBit p=true→vis m p false=true)∧(e=true→az.testBit u=true→∀p,p < n→(S u).testBit p=true→vis m p false=true)
structure DI (m:Stp) (r:Nat):Prop where
 rr:∀u,r.testBit u=true↔(u < n∧z.testBit u=false∧(vis m u true=true∨vis m u false=true))
 sd:∀u e,vis m u e=true→Rch S z az x u e
structure DE (m m':Stp):Prop where
 le:∀u e,vis m u e=true→vis m' u e=true
 new:∀u e,vis m' u e=true→vis m u e=false→Suc n S z az m' u e
def unv (m:Stp):Nat := cnt (2*n) fun k=>!vis m (k / 2) (k % 2==1)
variable {n S z az x}
theorem Suc.mono {m m':Stp} (h:∀u e,vis m u e=true→vis m' u e=true) {u:Nat} {e:Bool} (k:Suc n S z az m u e):Suc n S z az m' u e :=
 ⟨fun a c b d=>h _ _ (k.1 a c b d),fun a b p c d=>h _ _ (k.2.1 a b p c d),fun a b p c d=>h _ _ (k.2.2 a b p c d)⟩
theorem DE.refl {m:Stp}:DE n S z az m m:=⟨fun _ _ h=>h,fun u e h k=>by rw [h] at k; cases k⟩
theorem DE.trans {m m1 m2:Stp} (h:DE n S z az m m1) (k:DE n S z az m1 m2):DE n S z az m m2:=⟨fun u e a=>k.le u e (h.le u e a),fun u e a b=>by
 cases hv:vis m1 u e with
 | true=>exact (h.new u e hv b).mono k.le
 | false=>exact k.new u e a hv⟩
theorem Qta {m m':Stp} (h:∀u e,vis m u e=true→vis m' u e=true):unv n m'≤unv n m:=Qdt fun k _ hk=>by
 cases hv:vis m (k / 2) (k % 2==1) with
 | true=>rw [h _ _ hv] at hk; cases hk
 | false=>rfl
theorem Q41 {m m':Stp} (h:∀u e,vis m u e=true→vis m' u e=true) {v:Nat} {d:Bool} (hv:v < n) (h0:vis m v d=false) (h1:vis m' v d=true):unv n m' < unv n m:=by
 have hk:2*v+d.toNat < 2*n:=by cases d <;> simp <;> omega
 have e1:(2*v+d.toNat) / 2=v:=by cases d <;> simp <;> omega
 have e2:((2*v+d.toNat) % 2==1)=d:=by cases d <;> simp <;> omega
 have e:=Qfu (n:=2*n) (v:=2*v+d.toNat) (p:=fun k=>!vis m (k / 2) (k % 2==1)) hk (by rw [e1,e2,h0]; rfl)
 have:unv n m'≤cnt (2*n) (fun i=>!vis m (i / 2) (i % 2==1) && !decide (2*v+d.toNat = i)):=Qdt fun k _ hk=>by
  have hne:¬ 2*v+d.toNat = k:=fun e3=>by subst e3; rw [e1,e2,h1] at hk; cases hk
  cases hv2:vis m (k / 2) (k % 2==1) with
  | true=>rw [h _ _ hv2] at hk; cases hk
  | false=>simp [hne]
 unfold unv at *
 omega
def Qpe (s:Int × Bool × Int × Stp) (y:Int × Stp):Prop:=∃v r':Nat,s.1=(v:Int)∧y.1=(r':Int)∧DI n S z az x y.2 r'∧DE n S z az s.2.2.2 y.2∧vis y.2 v s.2.1=true
def Qtq (s:Int × Bool × Int × Stp):Prop:=∃v r:Nat,s.1=(v:Int)∧v < n∧s.2.2.1=(r:Int)∧DI n S z az x s.2.2.2 r∧Rch S z az x v s.2.1
theorem Qf8 {D:Bool} {p:Nat → Bool} (hn:n≤8) {M:Nat} {d:Int × Bool × Int × Stp→Option (Int × Stp)} (hd:∀s',Qtq (n:=n) (S:=S) (z:=z) (az:=az) (x:=x) s'→unv n s'.2.2.2 < M→∃y,d s'=some y∧Qpe (n:=n) (S:=S) (z:=z) (az:=az) (x:=x) s' y)
  {body:Int × Int × Stp→Option (Qg (Int × Int × Stp) (Int × Stp))}
  (hb:∀s,body s=if (s.1 != 0)=true then (Qs s.1).bind fun i=>(d (i,D,s.2.1,s.2.2)).bind fun y=>some (.next (zv (zb s.1 &&& zb (zv (s.1 - 1))).toNat,y.1,y.2)) else some (.done (s.2.1,s.2.2)))
  (hr:∀i,i < n→p i=true→Rch S z az x i D) {m0:Stp} {r0:Nat} (h0:DI n S z az x m0 r0) (hM:unv n m0 < M) :
  ∃y,Qb fuel body (((msk n p:Nat):Int),(r0:Int),m0)=some y∧∃r':Nat,y.1=(r':Int)∧DI n S z az x y.2 r'∧DE n S z az m0 y.2∧∀i,i < n→p i=true→vis y.2 i D=true:=by
 have h:=Q1b (n:=n) (by omega) (fun R (t:Int × Stp)=>(R,t.1,t.2)) (body:=body)
  (fun k t=>∃r:Nat,t.1=(r:Int)∧DI n S z az x t.2 r∧DE n S z az m0 t.2∧∀i,i < k→i < n→p i=true→vis t.2 i D=true)
  (fun y=>∃r':Nat,y.1=(r':Int)∧DI n S z az x y.2 r'∧DE n S z az m0 y.2∧∀i,i < n→p i=true→vis y.2 i D=true) p
  (fun i t R R' hi hp hI hR htz hrest=>by
   left
   obtain ⟨r,h1,h2,h3,h4⟩:=hI
   obtain ⟨y,g1,v,r',g2,g3,g4,g5,g6⟩:=hd ((i:Int),D,t.1,t.2) ⟨i,r,rfl,hi,h1,h2,hr i hi hp⟩ (Nat.lt_of_le_of_lt (Qta h3.le) hM)
   have hv:i=v:=Int.ofNat_inj.1 g2
   subst hv
   refine ⟨y,?_,r',g3,g4,h3.trans g5,fun j hj hjn hpj=>?_⟩
   ·rw [hb]
    dsimp only
    rw [if_pos hR,htz,Option.bind_some,g1,Option.bind_some,hrest]
   ·by_cases e:j=i
    ·subst e; exact g6
    ·exact g5.le _ _ (h4 j (by omega) hjn hpj))
  (fun i t hi hp hI=>by
   obtain ⟨r,h1,h2,h3,h4⟩:=hI
   refine ⟨r,h1,h2,h3,fun j hj hjn hpj=>?_⟩
   by_cases e:j=i
   ·subst e; rw [hp] at hpj; cases hpj
   ·exact h4 j (by omega) hjn hpj)
  (fun t hI=>by
   obtain ⟨r,h1,h2,h3,h4⟩:=hI
   refine ⟨t,?_,r,h1,h2,h3,fun i hi hp=>h4 i hi hi hp⟩
   rw [hb]
   dsimp only
   rw [if_neg (by decide)]) ((r0:Int),m0) ⟨r0,rfl,h0,.refl,fun i hi=>by omega⟩
 exact h
end
end Go.Ab
namespace Go.Ab
open Go
set_option maxRecDepth 100000
set_option maxHeartbeats 1000000
section
variable {n:Nat} {S:Nat → Nat} {z x:Nat} (hn:n≤8) (hS:Gd n S) (hz:∀j,z.testBit j=true→j < n) (hx:x < n)
def chN (n:Nat) (S:Nat → Nat) (v:Nat):Nat := msk n fun c=>(S c).testBit v
abbrev grS (n:Nat) (S:Nat → Nat):Qu:=⟨⟨Qc n S⟩,Qc n (chN n S)⟩
include hn hS hz hx
theorem Qjj {a:Nat} (h:∀j,a.testBit j=true→j < n):a < 18446744073709551616:=by
 have:=Jb h
 have:(2:Nat)^n≤256:=Nat.pow_le_pow_right (n:=2) (by omega) hn
 omega
theorem Qp6 {v:Nat} (hv:v < n):(S v:Int)=((msk n (S v).testBit:Nat):Int):=by
 rw [←Qc2 (Jb (hS.inn v hv)) fun i _=>rfl]
theorem Q11 {j:Nat} (h:(anZ n S z).testBit j=true):j < n:=Qgf hS.inn hz h
theorem Q53 {d:Int × Bool × Int × Stp→Option (Int × Stp)} {s:Int × Bool × Int × Stp} (hI:Qtq (n:=n) (S:=S) (z:=z) (az:=anZ n S z) (x:=x) s)
  (hd:∀s',Qtq (n:=n) (S:=S) (z:=z) (az:=anZ n S z) (x:=x) s'→unv n s'.2.2.2 < unv n s.2.2.2→∃y,d s'=some y∧Qpe (n:=n) (S:=S) (z:=z) (az:=anZ n S z) (x:=x) s' y) :
  ∃y,Zv (z:Int) (grS n S) ((anZ n S z:Nat):Int) d s=some y∧Qpe (n:=n) (S:=S) (z:=z) (az:=anZ n S z) (x:=x) s y:=by
 obtain ⟨sv,D,sr,m⟩:=s
 obtain ⟨v,r,h1,hv,h2,hDI,hR⟩:=hI
 dsimp only at h1 h2 hDI hR hd
 subst h1; subst h2
 have z64:=Qjj hn hS hz hx hz
 have az64:=Qjj hn hS hz hx (fun j hj=>Q11 hn hS hz hx hj)
 have hch:(chN n S v:Int)=((msk n fun c=>(S c).testBit v:Nat):Int):=rfl
 have bitz:∀{a k:Nat},a < 18446744073709551616→k < 64→((zv (zb (Int.fdiv (a:Int) (2^min (Int.toNat (k:Int)) zk)) &&& zb 1).toNat)==0)=!a.testBit k:=fun {a k} ha hk=>by
  rw [Qay ha hk]; cases a.testBit k <;> rfl
 have bito:∀{a k:Nat},a < 18446744073709551616→k < 64→((zv (zb (Int.fdiv (a:Int) (2^min (Int.toNat (k:Int)) zk)) &&& zb 1).toNat)==1)=a.testBit k:=fun {a k} ha hk=>by
  rw [Qay ha hk]; cases a.testBit k <;> rfl
 unfold Zv
 dsimp only
 cases hvis:vis m v D with
 | true =>
  refine ⟨((r:Int),m),?_,v,r,rfl,rfl,hDI,.refl,hvis⟩
  have:(Q5 qTseparate_step m ⟨(v:Int),D⟩).getD false=true:=hvis
  rw [if_pos this]
 | false =>
  have hnk:¬ (Q5 qTseparate_step m ⟨(v:Int),D⟩).getD false=true:=by
   have:(Q5 qTseparate_step m ⟨(v:Int),D⟩).getD false=false:=hvis
   rw [this]; decide
  rw [if_neg hnk,if_pos (Qo v),bitz z64 (show v < 64 by omega)]
  generalize hm1:kput qTseparate_step m ⟨(v:Int),D⟩ true=m1
  have hv1:∀u e,vis m1 u e=(vis m u e || (decide (u=v) && decide (e=D))):=fun u e=>by rw [←hm1]; exact Q3a
  have le1:∀u e,vis m u e=true→vis m1 u e=true:=fun u e h=>by rw [hv1,h]; rfl
  have hself:vis m1 v D=true:=by rw [hv1]; simp
  have hunv:unv n m1 < unv n m:=Q41 le1 hv hvis hself
  have sd1:∀u e,vis m1 u e=true→Rch S z (anZ n S z) x u e:=fun u e h=>by
   rw [hv1,Bool.or_eq_true,Bool.and_eq_true] at h
   rcases h with h | ⟨h3,h4⟩
   ·exact hDI.sd u e h
   ·rw [of_decide_eq_true h3,of_decide_eq_true h4]; exact hR
  have fin:∀{m2:Stp} {r2:Nat},DI n S z (anZ n S z) x m2 r2→DE n S z (anZ n S z) m1 m2→Suc n S z (anZ n S z) m2 v D→Qpe (n:=n) (S:=S) (z:=z) (az:=anZ n S z) (x:=x) ((v:Int),D,(r:Int),m) ((r2:Int),m2):=fun {m2 r2} g1 g2 g3=>by
   refine ⟨v,r2,rfl,rfl,g1,⟨fun u e h=>g2.le u e (le1 u e h),fun u e h k=>?_⟩,g2.le _ _ hself⟩
   cases hu:vis m1 u e with
   | true =>
    rw [hv1,k,Bool.false_or,Bool.and_eq_true] at hu
    rw [of_decide_eq_true hu.1,of_decide_eq_true hu.2]
    exact g3
   | false=>exact g2.new u e h hu
  cases hvz:z.testBit v with
  | false =>
   rw [if_pos (by decide),if_pos (Qo v),Qy hv,Option.bind_some,hch]
   have hr64:r < 18446744073709551616:=Qjj hn hS hz hx fun j hj=>((hDI.rr j).1 hj).1
   rw [Qa5 (show v < 64 by omega),Kj hr64 (Kl (by omega))]
   have hDI1:DI n S z (anZ n S z) x m1 (r ||| 2^v):=⟨fun u=>by
    rw [Nat.testBit_or,Qm,Bool.or_eq_true,hDI.rr u,hv1,hv1]
    constructor
    ·rintro (⟨g1,g2,g3⟩ | g)
     ·refine ⟨g1,g2,?_⟩
      rcases g3 with g3 | g3
      ·left; rw [g3]; rfl
      ·right; rw [g3]; rfl
     ·have:=of_decide_eq_true g
      subst this
      refine ⟨hv,hvz,?_⟩
      cases D with
      | true=>left; simp
      | false=>right; simp
    ·rintro ⟨g1,g2,g3⟩
     by_cases e:v=u
     ·right; simp [e]
     ·have e':¬ u=v:=fun h=>e h.symm
      left
      refine ⟨g1,g2,?_⟩
      simp only [e',decide_false,Bool.false_and,Bool.or_false] at g3
      exact g3,sd1⟩
   obtain ⟨y1,w1,r1,e1,g1,g2,g3⟩:=Qf8 (D:=true) (p:=fun c=>(S c).testBit v) hn (M:=unv n m) hd (body:=Qaw d) (fun s=>rfl) (fun i _ hp=>.dn hR hvz hp) hDI1 hunv
   rw [w1,Option.bind_some]
   have hs1:z.testBit v=false→∀c,c < n→(S c).testBit v=true→vis y1.2 c true=true:=fun _ c hc hb=>g3 c hc hb
   cases hD:D with
   | true =>
    rw [if_pos rfl,if_pos (Qo v),bitz az64 (show v < 64 by omega)]
    cases haz:(anZ n S z).testBit v with
    | false =>
     rw [if_pos (by decide)]
     refine ⟨_,rfl,?_⟩
     have:=fin g1 g2 ⟨hs1,fun e=>(by rw [hD] at e; cases e),fun _ e=>(by rw [haz] at e; cases e)⟩
     rw [hD] at this
     rw [e1]; exact this
    | true =>
     rw [if_neg (by decide),Qy hv,Option.bind_some,Qp6 hn hS hz hx hv,e1]
     obtain ⟨y2,w2,r2,e2,k1,k2,k3⟩:=Qf8 (D:=false) (p:=(S v).testBit) hn (M:=unv n m) hd (body:=Qav d) (fun s=>rfl) (fun i _ hp=>.turn (by rw [←hD]; exact hR) haz hp) g1 (Nat.lt_of_le_of_lt (Qta g2.le) hunv)
     rw [w2,Option.bind_some]
     refine ⟨_,rfl,?_⟩
     have:=fin k1 (g2.trans k2) ⟨fun a c hc hb=>k2.le _ _ (hs1 a c hc hb),fun e=>(by rw [hD] at e; cases e),fun _ _ p hp hb=>k3 p hp hb⟩
     rw [hD] at this
     rw [e2]; exact this
   | false =>
    rw [if_neg (by decide),if_pos (Qo v),bito z64 (show v < 64 by omega),hvz,if_neg (by decide),Qy hv,Option.bind_some,Qp6 hn hS hz hx hv,e1]
    obtain ⟨y2,w2,r2,e2,k1,k2,k3⟩:=Qf8 (D:=false) (p:=(S v).testBit) hn (M:=unv n m) hd (body:=Qas d) (fun s=>rfl) (fun i _ hp=>.up (by rw [←hD]; exact hR) hvz hp) g1 (Nat.lt_of_le_of_lt (Qta g2.le) hunv)
    rw [w2,Option.bind_some]
    refine ⟨_,rfl,?_⟩
    have:=fin k1 (g2.trans k2) ⟨fun a c hc hb=>k2.le _ _ (hs1 a c hc hb),fun _ _ p hp hb=>k3 p hp hb,fun e=>(by rw [hD] at e; cases e)⟩
    rw [hD] at this
    rw [e2]; exact this
  | true =>
   rw [if_neg (by decide)]
   have hDI1:DI n S z (anZ n S z) x m1 r:=⟨fun u=>by
    rw [hDI.rr u,hv1,hv1]
    constructor
    ·rintro ⟨g1,g2,g3⟩
     refine ⟨g1,g2,?_⟩
     rcases g3 with g3 | g3
     ·left; rw [g3]; rfl
     ·right; rw [g3]; rfl
    ·rintro ⟨g1,g2,g3⟩
     have e':¬ u=v:=fun h=>by subst h; rw [hvz] at g2; cases g2
     refine ⟨g1,g2,?_⟩
     simp only [e',decide_false,Bool.false_and,Bool.or_false] at g3
     exact g3,sd1⟩
   have hs1:z.testBit v=false→False:=fun e=>by rw [hvz] at e; cases e
   cases hD:D with
   | true =>
    rw [if_pos rfl,if_pos (Qo v),bitz az64 (show v < 64 by omega)]
    have haz:(anZ n S z).testBit v=true:=Vo n v hvz
    rw [haz,if_neg (by decide),Qy hv,Option.bind_some,Qp6 hn hS hz hx hv]
    obtain ⟨y2,w2,r2,e2,k1,k2,k3⟩:=Qf8 (D:=false) (p:=(S v).testBit) hn (M:=unv n m) hd (body:=Qar d) (fun s=>rfl) (fun i _ hp=>.turn (by rw [←hD]; exact hR) haz hp) hDI1 hunv
    rw [w2,Option.bind_some]
    refine ⟨_,rfl,?_⟩
    have:=fin k1 k2 ⟨fun a=>(hs1 a).elim,fun e=>(by rw [hD] at e; cases e),fun _ _ p hp hb=>k3 p hp hb⟩
    rw [hD] at this
    rw [e2]; exact this
   | false =>
    rw [if_neg (by decide),if_pos (Qo v),bito z64 (show v < 64 by omega),hvz,if_pos rfl]
    refine ⟨_,rfl,?_⟩
    have:=fin hDI1 .refl ⟨fun a=>(hs1 a).elim,fun _ a=>(hs1 a).elim,fun e=>(by rw [hD] at e; cases e)⟩
    rw [hD] at this
    exact this
theorem Q0d:Qb fuel (Xi (grS n S)) (0,(z:Int))=some ((anZ n S z:Nat):Int):=by
 have hlen:(Qc n S).length=n:=Zd
 have hfull:=Qcj n hS.inn
 have hs0:Zo z (2^n - 1):=fun j hj=>by rw [Nat.testBit_two_pow_sub_one]; simpa using hz j hj
 have hlt:∀{t:Nat},Zo t (2^n - 1)→t < 18446744073709551616:=fun h=>Qjj hn hS hz hx fun j hj=>by have:=h j hj; rw [Nat.testBit_two_pow_sub_one] at this; simpa using this
 have inner:∀t,Zo t (2^n - 1)→Qb fuel (Xh (grS n S)) ((0:Int),(t:Int))=some ((upR n S t:Nat):Int):=fun t ht=>by
  have h:=Xr (n:=n) (k0:=0) (by omega) (by omega) (fun i (x:Int)=>(i,x)) (body:=Xh (grS n S)) (fun k=>(((List.range k).foldl (upV S) t:Nat):Int)) ((upR n S t:Nat):Int)
   (fun k _ hk=>by
    have hsub:=Qme (S:=S) (T:=2^n - 1) (List.range k) t (fun v hv=>hfull v (by have:=List.mem_range.1 hv; omega)) ht
    unfold Xh
    dsimp only
    rw [hlen,if_pos (dlt hk),Qy hk,Option.bind_some,if_pos (Qo k),Qay (hlt hsub) (by omega),List.range_succ,List.foldl_append]
    simp only [List.foldl_cons,List.foldl_nil]
    generalize (List.range k).foldl (upV S) t=q at *
    unfold upV
    cases c:q.testBit k with
    | true =>
     rw [if_pos (by rfl),if_pos rfl,Kj (hlt hsub) (Qjj hn hS hz hx (hS.inn k hk))]
    | false=>rw [if_neg (by decide),if_neg (by decide)])
   (by unfold Xh; dsimp only; rw [hlen,if_neg (nlt n)]; rfl)
  rw [show ((0:Nat):Int)=0 from rfl] at h
  exact h
 have h:=Xr (n:=n) (k0:=0) (by omega) (by omega) (fun i (x:Int)=>(i,x)) (body:=Xi (grS n S)) (fun k=>((ups n S k z:Nat):Int)) ((ups n S n z:Nat):Int)
  (fun k _ hk=>by
   unfold Xi
   dsimp only
   rw [hlen,if_pos (dlt hk),inner _ (Vx hfull hs0 k)]; rfl)
  (by unfold Xi; dsimp only; rw [hlen,if_neg (nlt n)])
 rw [show ((0:Nat):Int)=0 from rfl] at h
 exact h
theorem Qyp:∃r:Nat,Vk (grS n S) ((2^x:Nat):Int) (z:Int)=some (r:Int)∧∀u,r.testBit u=true↔(u < n∧z.testBit u=false∧∃d,Rch S z (anZ n S z) x u d):=by
 have hzero:DI n S z (anZ n S z) x ([]:Stp) 0:=⟨fun u=>by simp [vis,Q5],fun u e h=>by simp [vis,Q5] at h⟩
 have hpx:((2^x:Nat):Int)=((msk n fun i=>decide (x=i):Nat):Int):=by
  congr 1
  exact Qc2 (Nat.pow_lt_pow_right (by omega) hx) fun i _=>Qm x i
 have hrec:∀s,Qtq (n:=n) (S:=S) (z:=z) (az:=anZ n S z) (x:=x) s→∃y,Qj4 (Zv (z:Int) (grS n S) ((anZ n S z:Nat):Int)) fuel s=some y∧Qpe (n:=n) (S:=S) (z:=z) (az:=anZ n S z) (x:=x) s y:=fun s hs =>
  Qqv (F:=Zv (z:Int) (grS n S) ((anZ n S z:Nat):Int)) (Qtq (n:=n) (S:=S) (z:=z) (az:=anZ n S z) (x:=x)) (fun s=>unv n s.2.2.2) (Qpe (n:=n) (S:=S) (z:=z) (az:=anZ n S z) (x:=x))
   (fun d s hs hd=>Q53 hn hS hz hx hs hd) fuel s hs (by
    have:unv n s.2.2.2≤2*n:=Qn1 _ _
    show unv n s.2.2.2 < fuel
    unfold fuel; omega)
 obtain ⟨y,w,r,e1,g1,g2,g3⟩:=Qf8 (S:=S) (z:=z) (az:=anZ n S z) (x:=x) (D:=false) (p:=fun i=>decide (x=i)) hn (M:=unv n ([]:Stp)+1) (d:=Qj4 (Zv (z:Int) (grS n S) ((anZ n S z:Nat):Int)) fuel) (fun s' hs' _=>hrec s' hs')
  (body:=Qat (z:Int) (grS n S) ((anZ n S z:Nat):Int)) (fun s=>rfl) (fun i _ hp=>by have:=of_decide_eq_true hp; subst this; exact .start) hzero (by omega)
 refine ⟨r,?_,fun u=>?_⟩
 ·unfold Vk
  rw [Q0d hn hS hz hx,Option.bind_some,hpx]
  rw [show ((0:Nat):Int)=0 from rfl] at w
  rw [w,Option.bind_some,e1]
 ·rw [g1.rr u]
  constructor
  ·rintro ⟨h1,h2,h3⟩
   refine ⟨h1,h2,?_⟩
   rcases h3 with h3 | h3
   ·exact ⟨_,g1.sd u true h3⟩
   ·exact ⟨_,g1.sd u false h3⟩
  ·rintro ⟨h1,h2,d,h3⟩
   refine ⟨h1,h2,?_⟩
   have hall:∀u e,Rch S z (anZ n S z) x u e→u < n→vis y.2 u e=true:=fun u e h=>by
    have hsuc:∀u e,vis y.2 u e=true→Suc n S z (anZ n S z) y.2 u e:=fun u e h=>g2.new u e h (by simp [vis,Q5])
    have key:(vis y.2 u e=true∧u < n)∨(n≤u∧e=true):=by
     induction h with
     | start=>exact .inl ⟨g3 x hx (decide_eq_true rfl),hx⟩
     | @up v p hr hv hp ih =>
      rcases ih with ⟨ih,hvn⟩ | ⟨_,ih⟩
      ·have hpn:=hS.inn v hvn p hp
       exact .inl ⟨(hsuc v false ih).2.1 rfl hv p hpn hp,hpn⟩
      ·cases ih
     | @dn v c d hr hv hc ih =>
      by_cases hcn:c < n
      ·have hvn:=hS.inn c hcn v hc
       rcases ih with ⟨ih,_⟩ | ⟨ih,_⟩
       ·exact .inl ⟨(hsuc v d ih).1 hv c hcn hc,hcn⟩
       ·omega
      ·exact .inr ⟨by omega,rfl⟩
     | @turn v p hr hv hp ih =>
      have hvn:=Q11 hn hS hz hx hv
      rcases ih with ⟨ih,_⟩ | ⟨ih,_⟩
      ·have hpn:=hS.inn v hvn p hp
       exact .inl ⟨(hsuc v true ih).2.2 rfl hv p hpn hp,hpn⟩
      ·omega
    intro hu
    rcases key with h | h
    ·exact h.1
    ·omega
   cases d with
   | true=>exact .inl (hall u true h3 h1)
   | false=>exact .inr (hall u false h3 h1)
end
end Go.Ab
namespace Go.Ab
open Go
set_option maxRecDepth 100000
set_option maxHeartbeats 1000000
section
variable {n:Nat} {S:Nat → Nat} (hn1:1≤n) (hn:n≤8) (hS:Gd n S)
theorem Q4n {b:Bool} {i:Nat} (hi:i < 64):zv ((b.toNat : Int)*2^min (Int.toNat (i:Int)) zk)=(((if b=true then 2^i else 0:Nat)):Int):=by
 cases b with
 | true=>exact Qa5 hi
 | false=>simp; rfl
def chP (n:Nat) (S:Nat → Nat) (i p u:Nat):Nat := msk n fun c=>(decide (c < i) || (decide (c=i) && decide (u < p))) && (S c).testBit u
include hn hS
theorem Q52 {i p u:Nat}:chP n S i p u < 18446744073709551616:=by
 have:=msk_lt n fun c=>(decide (c < i) || (decide (c=i) && decide (u < p))) && (S c).testBit u
 have:(2:Nat)^n≤256:=Nat.pow_le_pow_right (n:=2) (by omega) hn
 unfold chP; omega
theorem Qzu {i p:Nat} (hi:i < n) (u:Nat):(if u=p then chP n S i p p ||| (if (S i).testBit p=true then 2^i else 0) else chP n S i p u)=chP n S i (p+1) u:=by
 by_cases e:u=p
 ·subst e
  rw [if_pos rfl]
  apply Nat.eq_of_testBit_eq
  intro c
  unfold chP
  rw [Nat.testBit_or,Qv,Qv]
  by_cases h:c=i
  ·subst h
   cases hb:(S c).testBit u <;> simp [hi,hb,Qm]
  ·have h':¬ i=c:=fun e=>h e.symm
   cases hb:(S i).testBit u <;> simp [h,h',Qm]
 ·rw [if_neg e]
  unfold chP
  refine Z5 fun c _=>?_
  have:decide (u < p+1)=decide (u < p):=by rw [Bool.eq_iff_iff]; simp; omega
  rw [this]
theorem Qyz:Qb fuel (Vs (Qc n S)) (0,List.replicate n (0:Int))=some (.inr (Qc n (chN n S))):=by
 have hlen:(Qc n S).length=n:=Zd
 have h64:=Qho hn hS
 have inner:∀i,i < n→∀s:Int × List Int,s.1=(i:Int)→Qb fuel (Vt (Qc n S) s (S i:Int)) (0,Qc n (chP n S i 0))=some (Qc n (chP n S i n)):=fun i hi s hs=>by
  have h:=Xr (n:=n) (k0:=0) (by omega) (by omega) (fun i (x:List Int)=>(i,x)) (body:=Vt (Qc n S) s (S i:Int)) (fun p=>Qc n (chP n S i p)) (Qc n (chP n S i n))
   (fun p _ hp=>by
    unfold Vt
    dsimp only
    rw [hlen,if_pos (dlt hp),Qy hp,Option.bind_some,if_pos (Qo p),hs,if_pos (Qo i),Qay (h64 i hi) (by omega),Q4n (by omega),Kj (Q52 hn hS) (by
     split
     ·exact Kl (by omega)
     ·omega),Int.toNat_natCast,Qbb]
    refine congrArg (fun F=>some (Qg.next (zw ((p:Int)+1),Qc n F))) ?_
    funext u
    exact Qzu hn hS hi u)
   (by unfold Vt; dsimp only; rw [hlen,if_neg (nlt n)])
  rw [show ((0:Nat):Int)=0 from rfl] at h
  exact h
 have hz:List.replicate n (0:Int)=Qc n (chP n S 0 0):=by
  have e:∀u,chP n S 0 0 u=0:=fun u=>by
   unfold chP
   have:(msk n fun c=>(decide (c < 0) || (decide (c=0) && decide (u < 0))) && (S c).testBit u)=msk n fun _=>false:=Z5 fun c _=>by simp
   rw [this]
   have:∀m,msk m (fun _=>false)=0:=fun m=>by
    induction m with
    | zero=>rfl
    | succ m ih=>simp [msk,ih]
   exact this n
  apply List.ext_getElem
  ·simp [Qc,Qc8]
  ·intro k h1 h2
   simp [Qc,Qc8,e]
 have h:=Xr (n:=n) (k0:=0) (by omega) (by omega) (fun i (x:List Int)=>(i,x)) (body:=Vs (Qc n S)) (fun k=>Qc n (chP n S k 0)) (.inr (Qc n (chN n S)))
  (fun i _ hi=>by
   unfold Vs
   dsimp only
   rw [hlen,if_pos (dlt hi),Qy hi,Option.bind_some,if_pos (Qo n),Qbd (by omega),if_neg (by
    have:=Jb (hS.inn i hi)
    simpa using this),inner i hi _ rfl,Option.bind_some]
   refine congrArg (fun F=>some (Qg.next (zw ((i:Int)+1),Qc n F))) ?_
   funext u
   unfold chP
   refine Z5 fun c _=>?_
   by_cases hc:c < i
   ·have:c < i+1:=by omega
    simp [hc,this]
   ·by_cases hc2:c=i
    ·subst hc2
     cases hb:(S c).testBit u with
     | true=>have:=hS.inn c hi u hb; simp [this]
     | false=>simp
    ·have:¬ c < i+1:=by omega
     simp [hc,hc2,this])
  (by
   unfold Vs
   dsimp only
   rw [hlen,if_neg (nlt n)]
   refine congrArg (fun F=>some (Qg.done (Sum.inr (Qc n F)))) ?_
   funext u
   unfold chP chN
   refine Z5 fun c hc=>?_
   simp [hc])
 rw [show ((0:Nat):Int)=0 from rfl,←hz] at h
 exact h
theorem Qwo:Qb fuel (Vw (Qc n S)) (0,0)=some (.inr ()):=by
 have hlen:(Qc n S).length=n:=Zd
 have h64:=Qho hn hS
 obtain ⟨r,hr⟩:=Xc hS
 have p64:∀{P:Nat},(∀j,P.testBit j=true→j < n)→P < 18446744073709551616:=fun h=>by
  have:=Jb h
  have:(2:Nat)^n≤256:=Nat.pow_le_pow_right (n:=2) (by omega) hn
  omega
 have h:=Yt (n:=n) (k0:=0) (by omega) (by omega) (fun i (x:Int)=>(x,i)) (body:=Vw (Qc n S)) (fun k x=>∃P:Nat,x=(P:Int)∧(∀j,P.testBit j=true→j < n)∧cnt n P.testBit=k) (fun r=>r=.inr ())
  (fun k x _ hk hI=>by
   left
   obtain ⟨P,rfl,hP,hc⟩:=hI
   have hex:∃v,v < n∧P.testBit v=false∧Zo (S v) P:=by
    have hun:∃v,v < n∧P.testBit v=false:=by
     apply Classical.byContradiction
     intro hno
     have:cnt n P.testBit=cnt n (fun _=>true):=Qlo fun i hi=>by
      cases hb:P.testBit i with
      | true=>rfl
      | false=>exact absurd ⟨i,hi,hb⟩ hno
     have hall:∀m,cnt m (fun _=>true)=m:=fun m=>by
      induction m with
      | zero=>rfl
      | succ m ih=>simp [cnt,ih]
     rw [hall] at this; omega
    have key:∀c v,v < n→P.testBit v=false→r v=c→∃v,v < n∧P.testBit v=false∧Zo (S v) P:=by
     intro c
     induction c using Nat.strongRecOn with
     | _ c ih =>
      intro v hv hb hc
      by_cases hs:Zo (S v) P
      ·exact ⟨v,hv,hb,hs⟩
      ·obtain ⟨j,hj,hjp⟩:∃j,(S v).testBit j=true∧P.testBit j=false:=by
        apply Classical.byContradiction
        intro hno
        refine hs fun j hj=>?_
        cases hb2:P.testBit j with
        | true=>rfl
        | false=>exact absurd ⟨j,hj,hb2⟩ hno
       have:=hr v hv j hj
       exact ih (r j) (by omega) j (hS.inn v hv j hj) hjp rfl
    obtain ⟨v,hv,hb⟩:=hun
    exact key _ v hv hb rfl
   have hl:=Yt (n:=n) (k0:=0) (by omega) (by omega) (fun i (_:Unit)=>i) (body:=Ka (Qc n S) ((P:Int),(k:Int))) (fun k _=>∀v,v < k→¬ (P.testBit v=false∧Zo (S v) P)) (fun r=>∃v,v < n∧P.testBit v=false∧r=.inl ((P ||| 2^v:Nat):Int))
    (fun v _ _ hv hI=>by
     have e:Ka (Qc n S) ((P:Int),(k:Int)) (v:Int)=if P.testBit v=false∧Qll (S v) P=true then some (.done (.inl ((P ||| 2^v:Nat):Int))) else some (.next (zw ((v:Int)+1))):=by
      unfold Ka
      dsimp only
      rw [hlen,if_pos (dlt hv),Qy hv,Option.bind_some,if_pos (Qo v),Qay (p64 hP) (by omega),Q12 (h64 v hv) (p64 hP)]
      cases hb:P.testBit v with
      | true=>simp
      | false =>
       rw [if_pos (by rfl)]
       cases hsb:Qll (S v) P with
       | true =>
        rw [if_pos rfl,if_pos (Qo v),Qa5 (by omega),Kj (p64 hP) (Kl (by omega)),if_pos ⟨rfl,rfl⟩]
       | false=>simp
     by_cases hg:P.testBit v=false∧Qll (S v) P=true
     ·right
      exact ⟨_,by rw [e,if_pos hg],v,hv,hg.1,rfl⟩
     ·left
      refine ⟨(),by rw [e,if_neg hg],fun w hw hg2=>?_⟩
      by_cases e2:w=v
      ·subst e2; exact hg ⟨hg2.1,Qjy.2 hg2.2⟩
      ·exact hI w (by omega) hg2)
    (fun _ hI=>by
     obtain ⟨v,h1,h2,h3⟩:=hex
     exact absurd ⟨h2,h3⟩ (hI v h1)) () (fun v hv=>by omega)
   obtain ⟨y,h1,v,hv,hb,rfl⟩:=hl
   rw [show ((0:Nat):Int)=0 from rfl] at h1
   refine ⟨((P ||| 2^v:Nat):Int),?_,P ||| 2^v,rfl,fun j hj=>?_,?_⟩
   ·unfold Vw
    dsimp only
    rw [hlen,if_pos (dlt hk),h1]; rfl
   ·rw [Nat.testBit_or,Qm,Bool.or_eq_true] at hj
    rcases hj with hj | hj
    ·exact hP j hj
    ·have:=of_decide_eq_true hj; omega
   ·have e:=Qfu (n:=n) (v:=v) (p:=(P ||| 2^v).testBit) hv (by rw [Nat.testBit_or,Qm]; simp)
    rw [←e]
    congr 1
    rw [←hc]
    refine Qlo fun i _=>?_
    rw [Nat.testBit_or,Qm]
    by_cases e2:v=i
    ·subst e2; simp [hb]
    ·simp [e2])
  (fun x _=>⟨_,by unfold Vw; dsimp only; rw [hlen,if_neg (nlt n)],rfl⟩) 0 ⟨0,rfl,fun j hj=>by simp at hj,by
   have:∀m,cnt m (0:Nat).testBit=0:=fun m=>Q0j fun i _=>Nat.zero_testBit i
   exact this n⟩
 obtain ⟨y,h1,rfl⟩:=h
 exact h1
include hn1
theorem Q0c:Qap (Qc n S)=some (grS n S,0):=by
 have hlen:(Qc n S).length=n:=Zd
 unfold Qap
 rw [hlen,if_neg (by simp; omega),if_neg (by simp; omega),if_pos (by omega),Int.toNat_natCast,Qyz hn hS,Option.bind_some]
 dsimp only
 rw [Qwo hn hS,Option.bind_some]
theorem Qsk {a b:Nat} (ha:a < 18446744073709551616) (hb:b < 18446744073709551616):((zv (zb (a:Int) &&& zb (b:Int)).toNat)==0)=(a &&& b==0):=by
 rw [BitVec.toNat_and,Qc1 ha,Qc1 hb,Qcz (Nat.lt_of_le_of_lt Nat.and_le_left ha)]
 rw [Bool.eq_iff_iff,beq_iff_eq,beq_iff_eq]
 exact ⟨fun h=>by exact_mod_cast h,fun h=>by rw [h]; rfl⟩
theorem Qvg {a b:Nat}:(a &&& b==0)=true↔∀j,¬ (a.testBit j=true∧b.testBit j=true):=by
 rw [beq_iff_eq]
 constructor
 ·intro h j ⟨h1,h2⟩
  have:(a &&& b).testBit j=false:=by rw [h]; exact Nat.zero_testBit j
  rw [Nat.testBit_and,h1,h2] at this; cases this
 ·intro h
  apply Nat.eq_of_testBit_eq
  intro j
  rw [Nat.testBit_and,Nat.zero_testBit,Bool.eq_false_iff]
  intro hb
  rw [Bool.and_eq_true] at hb
  exact h j hb
variable {x y z:Nat} (hx:x < n) (hy:y < n) (hxy:x≠y) (hz:∀j,z.testBit j=true→j < n) (hxz:z.testBit x=false) (hyz:z.testBit y=false)
include hx hy hxy hz hxz hyz
theorem Qsx:Yo (grS n S) [((2^x:Nat):Int),((2^y:Nat):Int),(z:Int)]=some true:=by
 have hlen:(Qc n S).length=n:=Zd
 have z64:=Qjj hn hS hz hx hz
 have px:∀j,(2^x).testBit j=true→j=x:=fun j hj=>by rw [Qm] at hj; exact (of_decide_eq_true hj).symm
 have py:∀j,(2^y).testBit j=true→j=y:=fun j hj=>by rw [Qm] at hj; exact (of_decide_eq_true hj).symm
 have x64:=Kl (show x < 64 by omega)
 have y64:=Kl (show y < 64 by omega)
 have ltx:2^x < 2^n:=Nat.pow_lt_pow_right (by omega) hx
 have lty:2^y < 2^n:=Nat.pow_lt_pow_right (by omega) hy
 have ltz:z < 2^n:=Jb hz
 have h:=Xr (n:=3) (k0:=0) (by omega) (by omega) (fun i (t:Int)=>(t,i)) (body:=Z0 [((2^x:Nat):Int),((2^y:Nat):Int),(z:Int)] (grS n S))
  (fun k=>((match k with | 0=>0 | 1=>2^x | 2=>2^x ||| 2^y | _=>2^x ||| 2^y ||| z:Nat):Int)) (Sum.inr ())
  (fun k _ hk=>by
   unfold Z0
   dsimp only
   rw [if_pos (decide_eq_true (by simp; omega))]
   have hnz:∀{a b:Nat},a < 18446744073709551616→b < 18446744073709551616→(∀j,¬ (a.testBit j=true∧b.testBit j=true))→¬ ((zv (zb (a:Int) &&& zb (b:Int)).toNat) != 0)=true:=fun {a b} ha hb h=>by
    have:=Qsk hn1 hn hS ha hb
    rw [(Qvg hn1 hn hS).2 h] at this
    rw [bne,this]; decide
   match k,hk with
   | 0,_ =>
    rw [Q6 (by simp),Option.bind_some]
    simp only [List.getElem_cons_zero,List.getElem_cons_succ]
    rw [hlen,if_pos (Qo n),Qbd (by omega),if_neg (by simpa using ltx)]
    rw [if_neg (hnz x64 (show 0 < 18446744073709551616 by omega) (fun j h=>by simp at h)),Kj (show 0 < 18446744073709551616 by omega) x64,Nat.zero_or]
   | 1,_ =>
    rw [Q6 (by simp),Option.bind_some]
    simp only [List.getElem_cons_zero,List.getElem_cons_succ]
    rw [hlen,if_pos (Qo n),Qbd (by omega),if_neg (by simpa using lty)]
    rw [if_neg (hnz y64 x64 (fun j h=>hxy ((px j h.2).symm.trans (py j h.1)))),Kj x64 y64]
   | 2,_ =>
    rw [Q6 (by simp),Option.bind_some]
    simp only [List.getElem_cons_zero,List.getElem_cons_succ]
    rw [hlen,if_pos (Qo n),Qbd (by omega),if_neg (by simpa using ltz)]
    rw [if_neg (hnz z64 (Nat.or_lt_two_pow (n:=64) x64 y64) (fun j h=>by
     rw [Nat.testBit_or,Bool.or_eq_true] at h
     rcases h.2 with e | e
     ·rw [px j e,hxz] at h; cases h.1
     ·rw [py j e,hyz] at h; cases h.1)),Kj (Nat.or_lt_two_pow (n:=64) x64 y64) z64])
  (by unfold Z0; dsimp only; rw [if_neg (by simp)])
 rw [show ((0:Nat):Int)=0 from rfl] at h
 unfold Yo
 have h':Qb fuel (Z0 [((2^x:Nat):Int),((2^y:Nat):Int),(z:Int)] (grS n S)) (0,0)=some (Sum.inr ()):=h
 rw [h']; rfl
theorem Qxy:K7 (Qc n S) ((2^x:Nat):Int) ((2^y:Nat):Int) (z:Int)=some (!(Qax n S x y z).testBit y,0):=by
 obtain ⟨r,h1,h2⟩:=Qyp (x:=x) (z:=z) hn hS hz hx
 unfold K7
 rw [Q0c hn1 hn hS,Option.bind_some]
 dsimp only
 rw [if_neg (by decide)]
 rw [Qsx hn1 hn hS hx hy hxy hz hxz hyz,Option.bind_some,if_neg (by decide),h1,Option.bind_some]
 have r64:r < 18446744073709551616:=Qjj hn hS hz hx fun j hj=>((h2 j).1 hj).1
 rw [Qsk hn1 hn hS r64 (Kl (by omega))]
 congr 2
 rw [Bool.eq_iff_iff,Qvg hn1 hn hS]
 have hs:=Qpl (x:=x) (y:=y) hS hz hx hy hxz hyz
 rw [Bool.not_eq_true',←Bool.not_eq_true,hs]
 constructor
 ·intro h hd
  exact h y ⟨(h2 y).2 ⟨hy,hyz,hd⟩,by rw [Qm]; simp⟩
 ·rintro h j ⟨g1,g2⟩
  rw [Qm] at g2
  have:=of_decide_eq_true g2
  subst this
  exact h ((h2 _).1 g1).2.2
end
end Go.Ab
namespace Go.Ab
open Go
set_option maxRecDepth 100000
set_option maxHeartbeats 1000000
section
variable {n:Nat} {S:Nat → Nat}
def apB (n:Nat) (S:Nat → Nat) (x y z:Nat):Bool:=!z.testBit x && !z.testBit y && !(Qax n S x y z).testBit y
def fct (x y z:Nat):Tapi_Fact:=⟨(x:Int),(y:Int),(z:Int)⟩
def fZ (n:Nat) (S:Nat → Nat) (x y:Nat):List Tapi_Fact:=apL (fun z=>if apB n S x y z=true then [fct x y z] else []) 0 (2^n)
def Xn (n:Nat) (S:Nat → Nat):List Tapi_Fact:=apL (fun x=>apL (fun y=>fZ n S x y) (x+1) (n - (x+1))) 0 n
theorem Qx2 (hn:n≤6) {x y:Nat}:(fZ n S x y).length≤64:=by
 have:=Ze (L:=fun z=>if apB n S x y z=true then [fct x y z] else []) (k0:=0) (m:=1) (fun _=>Vq) (2^n)
 have h:2^n≤64:=Nat.pow_le_pow_right (n:=2) (by omega) hn
 unfold fZ; omega
theorem Q4w {k:Nat} (h:k < 1000000):zv ((k:Int)+1)=((k+1:Nat):Int):=by
 rw [show (k:Int)+1=((k+1:Nat):Int) by omega,Qcz (by omega)]
theorem Qyw {α σ ρ:Type} {n c:Nat} (hn:n < 1000000) (mkS:Int→List α→σ) {body:σ→Option (Qg σ ρ)} (L:Nat → List α) (fin:List α→ρ) (hL:∀k,(L k).length≤1) {out:List α} (hout:out.length≤c)
  (step:∀k o,k < n→o.length≤c+n→body (mkS (k:Int) o)=some (.next (mkS (zv ((k:Int)+1)) (o++L k))))
  (done:∀o,body (mkS (n:Int) o)=some (.done (fin o))):Qb fuel body (mkS 0 out)=some (fin (out++apL L 0 n)):=by
 have key:∀(j N k:Nat),k+j=n→j < N→Qb N body (mkS (k:Int) (out++apL L 0 k))=some (fin (out++apL L 0 n)):=by
  intro j
  induction j with
  | zero =>
   intro N k hk hN
   obtain ⟨N,rfl⟩:∃M,N=M+1:=⟨N - 1,by omega⟩
   have:k=n:=by omega
   subst this
   simp only [Qb,done]
  | succ j ih =>
   intro N k hk hN
   obtain ⟨N,rfl⟩:∃M,N=M+1:=⟨N - 1,by omega⟩
   have hb:=Ze (k0:=0) hL k
   have e:=step k (out++apL L 0 k) (by omega) (by rw [List.length_append]; omega)
   simp only [Qb,e]
   rw [Q4w (by omega)]
   have:=ih N (k+1) (by omega) (by omega)
   simp only [apL,Nat.zero_add] at this
   rw [←List.append_assoc] at this
   exact this
 have h:=key n fuel 0 (by omega) (by unfold fuel; omega)
 simpa [apL] using h
section
variable (hn1:1≤n) (hn:n≤6) (hS:Gd n S)
include hn1 hn hS
theorem Q64 {z:Nat} (h:z < 2^n):∀j,z.testBit j=true→j < n:=Jh.1 h
theorem Qyk {x y:Nat} (hx:x < n) (hy:y < n) (hxy:x≠y) {o:List Tapi_Fact} (ho:o.length≤10000) {s1 s4:Int × List Tapi_Fact} (h1:s1.1=(x:Int)) (h4:s4.1=(y:Int)) :
  Qb fuel (Vy (Qc n S) s1 s4) (0,o)=some (.inr (o++fZ n S x y)):=by
 have hlen:(Qc n S).length=n:=Zd
 have hp:2^n≤64:=Nat.pow_le_pow_right (n:=2) (by omega) hn
 refine Qyw (n:=2^n) (c:=10000) (by omega) (fun k (x:List Tapi_Fact)=>(k,x)) (body:=Vy (Qc n S) s1 s4) (fun z=>if apB n S x y z=true then [fct x y z] else []) Sum.inr (fun _=>Vq) ho (fun z o hz ho=>?_) (fun o=>?_)
 ·have z64:z < 18446744073709551616:=by omega
  unfold Vy
  dsimp only
  rw [hlen,Qa5 (by omega),if_pos (dlt hz),h1,h4,if_pos (Qo x),if_pos (Qo y)]
  have eor:((zv (zb (zv (zb (Int.fdiv (z:Int) (2^min (Int.toNat (x:Int)) zk)) ||| zb (Int.fdiv (z:Int) (2^min (Int.toNat (y:Int)) zk))).toNat) &&& zb 1).toNat)==1)=(z.testBit x || z.testBit y):=by
   have hb:zk=64:=rfl
   have e0:∀k:Nat,k < 64→min (Int.toNat (k:Int)) zk=k:=fun k hk=>by rw [hb,Int.toNat_natCast]; omega
   rw [e0 x (by omega),e0 y (by omega),K1,K1]
   have l1:z / 2^x < 18446744073709551616:=Nat.lt_of_le_of_lt (Nat.div_le_self _ _) z64
   have l2:z / 2^y < 18446744073709551616:=Nat.lt_of_le_of_lt (Nat.div_le_self _ _) z64
   rw [Kj l1 l2]
   have l3:z / 2^x ||| z / 2^y < 18446744073709551616:=Nat.or_lt_two_pow (n:=64) l1 l2
   have h:=Qay (k:=0) l3 (by omega)
   have e1:Int.fdiv ((z / 2^x ||| z / 2^y:Nat):Int) (2^min (Int.toNat ((0:Nat):Int)) zk)=((z / 2^x ||| z / 2^y:Nat):Int):=by
    rw [e0 0 (by omega),K1]; simp
   rw [e1] at h
   rw [h,Nat.testBit_or]
   have e2:∀k,(z / 2^k).testBit 0=z.testBit k:=fun k=>by rw [Nat.testBit_div_two_pow]; simp
   rw [e2,e2]
   cases z.testBit x <;> cases z.testBit y <;> rfl
  rw [eor]
  unfold apB
  cases zx:z.testBit x with
  | true=>simp
  | false =>
   cases zy:z.testBit y with
   | true=>simp
   | false =>
    rw [if_neg (by decide),if_pos (Qo x),if_pos (Qo y),Qa5 (show x < 64 by omega),Qa5 (show y < 64 by omega),Qxy hn1 (by omega) hS hx hy hxy (Q64 hn1 hn hS hz) zx zy,Option.bind_some]
    dsimp only
    rw [if_neg (by decide)]
    cases (Qax n S x y z).testBit y with
    | true=>simp
    | false =>
     rw [if_pos (by decide),if_pos (by rw [List.length_append,List.length_singleton]; omega)]
     rfl
 ·unfold Vy
  dsimp only
  rw [hlen,Qa5 (by omega),if_neg (nlt _)]
theorem Qq3 {x:Nat}:(apL (fun y=>if y < n then fZ n S x y else []) (x+1) (n - (x+1))).length≤384:=by
 have:=Ze (L:=fun y=>if y < n then fZ n S x y else []) (k0:=x+1) (m:=64) (fun y=>by
  split
  ·exact Qx2 hn
  ·simp) (n - (x+1))
 have:(n - (x+1))*64≤6*64:=Nat.mul_le_mul_right _ (by omega)
 omega
theorem Qvm:apL (fun x=>apL (fun y=>if y < n then fZ n S x y else []) (x+1) (n - (x+1))) 0 n=Xn n S :=
 Q1 n fun x _ hx=>Q1 _ fun y h1 h2=>by rw [if_pos (by omega)]
theorem Qm7:J9 (Qc n S)=some (Xn n S,0):=by
 have hlen:(Qc n S).length=n:=Zd
 have mid:∀x,x < n→∀(o:List Tapi_Fact) (s1:Int × List Tapi_Fact),s1.1=(x:Int)→o.length≤5000→Qb fuel (V1 (Qc n S) s1) (((x+1:Nat):Int),o)=some (Sum.inr (o++apL (fun y=>if y < n then fZ n S x y else []) (x+1) (n - (x+1)))):=fun x hx o s1 h1 ho =>
  Ya (n:=n) (m:=64) (c:=5000) (by omega) (by omega) (fun k (x:List Tapi_Fact)=>(k,x)) (body:=V1 (Qc n S) s1) _ Sum.inr (fun y=>by
    split
    ·exact Qx2 hn
    ·simp) ho
   (fun y o h2 h3 ho=>by
    unfold V1
    dsimp only
    rw [hlen,if_pos (dlt h3),if_pos (Qo n),Qyk hn1 hn hS hx h3 (by omega) (by omega) h1 rfl,Option.bind_some,if_pos h3])
   (fun o=>by unfold V1; dsimp only; rw [hlen,if_neg (nlt n)])
 have h:=Ya (n:=n) (k0:=0) (m:=384) (c:=0) (by omega) (by omega) (fun k (x:List Tapi_Fact)=>(k,x)) (body:=J4 (Qc n S)) (fun x=>apL (fun y=>if y < n then fZ n S x y else []) (x+1) (n - (x+1))) Sum.inr (fun x=>Qq3 hn1 hn hS) (out:=[]) (by simp)
  (fun x o _ hx ho=>by
   unfold J4
   dsimp only
   rw [hlen,if_pos (dlt hx),Qfy (by omega),mid x hx o _ rfl (by omega),Option.bind_some])
  (fun o=>by unfold J4; dsimp only; rw [hlen,if_neg (nlt n)])
 rw [show ((0:Nat):Int)=0 from rfl] at h
 unfold J9
 rw [h,Option.bind_some,List.nil_append,Nat.sub_zero,Qvm hn1 hn hS]
theorem Qnt:(Xn n S).length≤2304:=by
 rw [←Qvm hn1 hn hS]
 have:=Ze (L:=fun x=>apL (fun y=>if y < n then fZ n S x y else []) (x+1) (n - (x+1))) (k0:=0) (m:=384) (fun x=>Qq3 hn1 hn hS) n
 omega
end
theorem neF (x y:Tapi_Fact):(!((x.X==y.X) && ((x.Y==y.Y) && ((x.Z==y.Z) && true))))=!decide (x=y):=by
 obtain ⟨a,b,e⟩:=x; obtain ⟨c,d,f⟩:=y
 congr 1; rw [Bool.eq_iff_iff]; simp
theorem Qwb {a b:List Tapi_Fact} (ha:a.length < 1000000):Q8 a b=some (decide (a=b)):=by
 unfold Q8
 by_cases hl:a.length=b.length
 ·rw [if_neg (fun h=>Qek.1 h hl),Qgu hl ha (body:=V3 a b) _ neF (fun s=>rfl),Option.bind_some]
  by_cases e:a=b
  ·simp [e]
  ·simp [e]
 ·rw [if_pos (Qek.2 hl)]
  have:¬ a=b:=fun e=>hl (by rw [e])
  simp [this]
end
theorem Q26 {n:Nat} {S:Nat → Nat} (hn:n≤7) (hS:L64 n S) (h1:Qt (Qc n S)=some 0):1≤n:=by
 obtain ⟨c,hc,hc2⟩:=Qqm hn hS
 rw [h1] at hc
 cases c with
 | true=>exact (hc2.1 rfl).1.1
 | false=>cases hc
theorem Qqy {n:Nat} {S:Nat → Nat} (hn:n≤7) (hS:L64 n S) :
  (((1≤n∧n≤5)∧Gd n S)∧Y8 (Qc n S) 6=some true∧Zr (Qc n S)=some (Xn n S,0))∨(n=6∧Y8 (Qc n S) 6=some true∧Zr (Qc n S)=some ([],6))∨(Y8 (Qc n S) 6=some false∧Zr (Qc n S)=some ([],310)):=by
 have hlen:(Qc n S).length=n:=Zd
 rcases Qz4 hn hS with ⟨⟨h6,hg⟩,h1,h2,_,_⟩ | ⟨h1,h2,_,_⟩
 ·have hn1:=Q26 hn hS h2
  by_cases h5:n≤5
  ·refine .inl ⟨⟨⟨hn1,h5⟩,hg⟩,h1,?_⟩
   unfold Zr
   rw [h2,Option.bind_some,if_neg (by simp),hlen,if_neg (by simp; omega),Qm7 hn1 h6 hg,Option.bind_some]
  ·refine .inr (.inl ⟨by omega,h1,?_⟩)
   unfold Zr
   rw [h2,Option.bind_some,if_neg (by simp),hlen,if_pos (by simp; omega)]
 ·refine .inr (.inr ⟨h1,?_⟩)
  unfold Zr
  rw [h2]; rfl
end Go.Ab
namespace Go.Ab
open Go
set_option maxRecDepth 100000
set_option maxHeartbeats 1000000
section
variable {n i j:Nat} {S:Nat → Nat} (hn:n≤7) (h:Gd n S) (hi:i < n) (hj:j < n) (hij:i≠j) (he:(S j).testBit i=true) (hc:Qhi S i j)
include hn h hi hj hij he hc
theorem Qn8 {x:Nat}:(turn S i j i).testBit x=((S i).testBit x || decide (j=x)):=by rw [X9 hn h hi hj hij he i x hi,if_pos rfl]
theorem Qov {x:Nat}:(turn S i j j).testBit x=(S i).testBit x:=by
 have hii:(S i).testBit i=false:=Bool.eq_false_iff.2 fun e=>by obtain ⟨r,hr⟩:=Xc h; have:=hr i hi i e; omega
 rw [X9 hn h hi hj hij he j x hj,if_neg (fun e=>hij e.symm),if_pos rfl,Qf0 hc]
 by_cases e:i=x
 ·subst e; rw [hii]; simp
 ·simp [e]
theorem Qym {v x:Nat} (hv:v < n) (h1:v≠i) (h2:v≠j):(turn S i j v).testBit x=(S v).testBit x:=by rw [X9 hn h hi hj hij he v x hv,if_neg h1,if_neg h2]
variable {z:Nat} (hz:∀k,z.testBit k=true→k < n)
include hz
theorem Qzt {v:Nat} (hv:(anZ n S z).testBit v=true):(v≠i→(anZ n (turn S i j) z).testBit v=true)∧(v=i→(anZ n (turn S i j) z).testBit i=true∨(anZ n (turn S i j) z).testBit j=true):=by
 have hT:=Qfz hn h hi hj hij he hc
 have clo:Clo n (turn S i j) (anZ n (turn S i j) z):=Qcq hT.inn hz
 refine Qa4 h hz (fun v=>(v≠i→(anZ n (turn S i j) z).testBit v=true)∧(v=i→(anZ n (turn S i j) z).testBit i=true∨(anZ n (turn S i j) z).testBit j=true)) (fun k hk=>?_) (fun v p hv hP hp=>?_) hv
 ·have:(anZ n (turn S i j) z).testBit k=true:=Vo n k hk
  exact ⟨fun _=>this,fun e=>by subst e; exact .inl this⟩
 ·by_cases e1:v=j
  ·subst e1
   have hja:=hP.1 (fun e=>hij e.symm)
   refine ⟨fun hpi=>?_,fun _=>.inr hja⟩
   have:(turn S i v v).testBit p=true:=by
    rw [Qov hn h hi hj hij he hc]
    rw [Qf0 hc] at hp
    have:¬ i=p:=fun e=>hpi e.symm
    simpa [this] using hp
   exact clo v hj hja p this
  ·by_cases e2:v=i
   ·subst e2
    have hpi:p≠v:=fun e=>by subst e; obtain ⟨r,hr⟩:=Xc h; have:=hr p hv p hp; omega
    refine ⟨fun _=>?_,fun e=>absurd e hpi⟩
    rcases hP.2 rfl with g | g
    ·exact clo v hi g p (by rw [Qn8 hn h hi hj hij he hc,hp]; rfl)
    ·exact clo j hj g p (by rw [Qov hn h hi hj hij he hc]; exact hp)
   ·have hva:=hP.1 e2
    have:=clo v hv hva p (by rw [Qym hn h hi hj hij he hc hv e2 e1]; exact hp)
    exact ⟨fun _=>this,fun e=>by subst e; exact .inl this⟩
variable {x:Nat} (hx:x < n)
def Smu (n i j:Nat) (S:Nat → Nat) (z x:Nat) (v:Nat) (d:Bool):Prop :=
 (v≠i→v≠j→v < n→Rch (turn S i j) z (anZ n (turn S i j) z) x v d) ∧
 (v=i→d=false→Rch (turn S i j) z (anZ n (turn S i j) z) x i false∨(Rch (turn S i j) z (anZ n (turn S i j) z) x i true∧(∀p,(S i).testBit p=true→Rch (turn S i j) z (anZ n (turn S i j) z) x p false)∧∃e,Rch (turn S i j) z (anZ n (turn S i j) z) x j e)) ∧
 (v=i→d=true→Rch (turn S i j) z (anZ n (turn S i j) z) x i true∧Rch (turn S i j) z (anZ n (turn S i j) z) x j true) ∧
 (v=j→d=false→Rch (turn S i j) z (anZ n (turn S i j) z) x j false) ∧
 (v=j→d=true→(Rch (turn S i j) z (anZ n (turn S i j) z) x i true∧Rch (turn S i j) z (anZ n (turn S i j) z) x j true)∨((∀p,(S i).testBit p=true→Rch (turn S i j) z (anZ n (turn S i j) z) x p false)∧(∃e,Rch (turn S i j) z (anZ n (turn S i j) z) x j e)∧∃e,Rch (turn S i j) z (anZ n (turn S i j) z) x i e))
include hx
theorem Qz1 {v:Nat} {d:Bool} (hr:Rch S z (anZ n S z) x v d):(v < n→Smu n i j S z x v d)∧(n≤v→d=true):=by
 have hT:=Qfz hn h hi hj hij he hc
 obtain ⟨r,hrk⟩:=Xc h
 have hii:∀p,(S i).testBit p=true→p≠i∧p≠j:=fun p hp=>by
  have h1:=hrk i hi p hp
  have h2:=hrk j hj i he
  exact ⟨fun e=>by subst e; omega,fun e=>by subst e; omega⟩
 have hji:j≠i:=fun e=>hij e.symm
 have pi:∀p,(S i).testBit p=true→(turn S i j i).testBit p=true:=fun p hp=>by rw [Qn8 hn h hi hj hij he hc,hp]; rfl
 have pj:∀p,(S i).testBit p=true→(turn S i j j).testBit p=true:=fun p hp=>by rw [Qov hn h hi hj hij he hc]; exact hp
 have pji:(turn S i j i).testBit j=true:=by rw [Qn8 hn h hi hj hij he hc]; simp
 have po:∀v p,v < n→v≠i→v≠j→(S v).testBit p=true→(turn S i j v).testBit p=true:=fun v p hv h1 h2 hp=>by rw [Qym hn h hi hj hij he hc hv h1 h2]; exact hp
 have sj:∀p,(S j).testBit p=true→p=i∨(S i).testBit p=true:=fun p hp=>by
  rw [Qf0 hc,Bool.or_eq_true] at hp
  rcases hp with hp | hp
  ·exact .inr hp
  ·exact .inl (of_decide_eq_true hp).symm
 have up_i:z.testBit i=false→Rch (turn S i j) z (anZ n (turn S i j) z) x i false→∀p,(S i).testBit p=true→Rch (turn S i j) z (anZ n (turn S i j) z) x p false:=fun hzi k p hp=>.up k hzi (pi p hp)
 have mkSim:∀v d,v≠i→v≠j→Rch (turn S i j) z (anZ n (turn S i j) z) x v d→Smu n i j S z x v d:=fun v d h1 h2 k=>⟨fun _ _ _=>k,fun e=>absurd e h1,fun e=>absurd e h1,fun e=>absurd e h2,fun e=>absurd e h2⟩
 have simIf:(Rch (turn S i j) z (anZ n (turn S i j) z) x i false∨(Rch (turn S i j) z (anZ n (turn S i j) z) x i true∧(∀p,(S i).testBit p=true→Rch (turn S i j) z (anZ n (turn S i j) z) x p false)∧∃e,Rch (turn S i j) z (anZ n (turn S i j) z) x j e))→Smu n i j S z x i false:=fun k=>⟨fun e=>absurd rfl e,fun _ _=>k,fun _ e=>(by cases e),fun e=>absurd e hij,fun e=>absurd e hij⟩
 have simIt:(Rch (turn S i j) z (anZ n (turn S i j) z) x i true∧Rch (turn S i j) z (anZ n (turn S i j) z) x j true)→Smu n i j S z x i true:=fun k=>⟨fun e=>absurd rfl e,fun _ e=>(by cases e),fun _ _=>k,fun e=>absurd e hij,fun e=>absurd e hij⟩
 have simJf:Rch (turn S i j) z (anZ n (turn S i j) z) x j false→Smu n i j S z x j false:=fun k=>⟨fun _ e=>absurd rfl e,fun e=>absurd e hji,fun e=>absurd e hji,fun _ _=>k,fun _ e=>(by cases e)⟩
 have simJt:((Rch (turn S i j) z (anZ n (turn S i j) z) x i true∧Rch (turn S i j) z (anZ n (turn S i j) z) x j true)∨((∀p,(S i).testBit p=true→Rch (turn S i j) z (anZ n (turn S i j) z) x p false)∧(∃e,Rch (turn S i j) z (anZ n (turn S i j) z) x j e)∧∃e,Rch (turn S i j) z (anZ n (turn S i j) z) x i e))→Smu n i j S z x j true:=fun k=>⟨fun _ e=>absurd rfl e,fun e=>absurd e hji,fun e=>absurd e hji,fun _ e=>(by cases e),fun _ _=>k⟩
 have upto:∀p,Rch (turn S i j) z (anZ n (turn S i j) z) x p false→Smu n i j S z x p false:=fun p k=>by
  by_cases e1:p=i
  ·subst e1; exact simIf (.inl k)
  ·by_cases e2:p=j
   ·subst e2; exact simJf k
   ·exact mkSim p false e1 e2 k
 induction hr with
 | start=>exact ⟨fun _=>upto x .start,fun e=>by omega⟩
 | @up v p hr hv hp ih =>
  obtain ⟨ih,ihn⟩:=ih
  have hvn:v < n:=Nat.lt_of_not_le fun e=>by cases ihn e
  have hpn:=h.inn v hvn p hp
  refine ⟨fun _=>?_,fun e=>by omega⟩
  obtain ⟨a1,a2,a3,a4,a5⟩:=ih hvn
  by_cases e1:v=i
  ·subst e1
   obtain ⟨q1,q2⟩:=hii p hp
   rcases a2 rfl rfl with k | ⟨k1,k2,k3⟩
   ·exact upto p (.up k hv (pi p hp))
   ·exact upto p (k2 p hp)
  ·by_cases e2:v=j
   ·subst e2
    have k:=a4 rfl rfl
    rcases sj p hp with rfl | hp
    ·exact simIf (.inr ⟨.dn k hv pji,fun p hp=>.up k hv (pj p hp),_,k⟩)
    ·exact upto p (.up k hv (pj p hp))
   ·exact upto p (.up (a1 e1 e2 hvn) hv (po v p hvn e1 e2 hp))
 | @dn v c d hr hv hcv ih =>
  obtain ⟨ih,ihn⟩:=ih
  refine ⟨fun hcn=>?_,fun _=>rfl⟩
  have hvn:=h.inn c hcn v hcv
  obtain ⟨a1,a2,a3,a4,a5⟩:=ih hvn
  by_cases e1:v=i
  ·subst e1
   have ai:∃e,Rch (turn S v j) z (anZ n (turn S v j) z) x v e:=by
    cases d with
    | false=>rcases a2 rfl rfl with k | ⟨k,_⟩ <;> exact ⟨_,k⟩
    | true=>exact ⟨_,(a3 rfl rfl).1⟩
   by_cases ec:c=j
   ·subst ec
    refine simJt ?_
    cases d with
    | false =>
     rcases a2 rfl rfl with k | ⟨k1,k2,k3⟩
     ·exact .inr ⟨up_i hv k,⟨_,.up k hv pji⟩,_,k⟩
     ·exact .inr ⟨k2,k3,_,k1⟩
    | true=>exact .inl (a3 rfl rfl)
   ·have hci:c≠v:=fun e=>by subst e; have:=hrk c hcn c hcv; omega
    obtain ⟨e,k⟩:=ai
    exact mkSim c true hci ec (.dn k hv (po c v hcn hci ec hcv))
  ·by_cases e2:v=j
   ·subst e2
    have aj:∃e,Rch (turn S i v) z (anZ n (turn S i v) z) x v e:=by
     cases d with
     | false=>exact ⟨_,a4 rfl rfl⟩
     | true =>
      rcases a5 rfl rfl with ⟨_,k⟩ | ⟨_,k,_⟩
      ·exact ⟨_,k⟩
      ·exact k
    have hci:c≠i:=fun e=>by subst e; have:=hrk c hcn v hcv; have:=hrk v hj c he; omega
    have hcj:c≠v:=fun e=>by subst e; have:=hrk c hcn c hcv; omega
    obtain ⟨e,k⟩:=aj
    exact mkSim c true hci hcj (.dn k hv (po c v hcn hci hcj hcv))
   ·have k:=a1 e1 e2 hvn
    by_cases ec:c=i
    ·subst ec
     exact simIt ⟨.dn k hv (pi v hcv),.dn k hv (pj v hcv)⟩
    ·by_cases ec2:c=j
     ·subst ec2
      rcases sj v hcv with e | hcv
      ·exact absurd e e1
      ·exact simJt (.inl ⟨.dn k hv (pi v hcv),.dn k hv (pj v hcv)⟩)
     ·exact mkSim c true ec ec2 (.dn k hv (po c v hcn ec ec2 hcv))
 | @turn v p hr hv hp ih =>
  obtain ⟨ih,ihn⟩:=ih
  have hvn:v < n:=Qgf h.inn hz hv
  have hpn:=h.inn v hvn p hp
  refine ⟨fun _=>?_,fun e=>by omega⟩
  obtain ⟨a1,a2,a3,a4,a5⟩:=ih hvn
  obtain ⟨z1,z2⟩:=Qzt hn h hi hj hij he hc hz hv
  by_cases e1:v=i
  ·subst e1
   obtain ⟨k1,k2⟩:=a3 rfl rfl
   rcases z2 rfl with g | g
   ·exact upto p (.turn k1 g (pi p hp))
   ·exact upto p (.turn k2 g (pj p hp))
  ·by_cases e2:v=j
   ·subst e2
    have g:=z1 hji
    rcases a5 rfl rfl with ⟨k1,k2⟩ | ⟨k1,k2,k3⟩
    ·have hup:∀p,(S i).testBit p=true→Rch (turn S i v) z (anZ n (turn S i v) z) x p false:=fun p hp=>.turn k2 g (pj p hp)
     rcases sj p hp with rfl | hp
     ·exact simIf (.inr ⟨k1,hup,_,k2⟩)
     ·exact upto p (hup p hp)
    ·rcases sj p hp with rfl | hp
     ·obtain ⟨e,k3⟩:=k3
      cases e with
      | false=>exact simIf (.inl k3)
      | true=>exact simIf (.inr ⟨k3,k1,k2⟩)
     ·exact upto p (k1 p hp)
   ·exact upto p (.turn (a1 e1 e2 hvn) (z1 e1) (po v p hvn e1 e2 hp))
theorem Qt3 {y:Nat} (hy:y < n) (hr:∃d,Rch S z (anZ n S z) x y d):∃d,Rch (turn S i j) z (anZ n (turn S i j) z) x y d:=by
 obtain ⟨d,hr⟩:=hr
 obtain ⟨a1,a2,a3,a4,a5⟩:=(Qz1 hn h hi hj hij he hc hz hx hr).1 hy
 by_cases e1:y=i
 ·subst e1
  cases d with
  | false=>rcases a2 rfl rfl with k | ⟨k,_⟩ <;> exact ⟨_,k⟩
  | true=>exact ⟨_,(a3 rfl rfl).1⟩
 ·by_cases e2:y=j
  ·subst e2
   cases d with
   | false=>exact ⟨_,a4 rfl rfl⟩
   | true =>
    rcases a5 rfl rfl with ⟨_,k⟩ | ⟨_,k,_⟩
    ·exact ⟨_,k⟩
    ·exact k
  ·exact ⟨_,a1 e1 e2 hy⟩
end
section
variable {n i j:Nat} {S:Nat → Nat} (hn:n≤7) (h:Gd n S) (hi:i < n) (hj:j < n) (hij:i≠j) (he:(S j).testBit i=true) (hc:Qhi S i j)
theorem Qli {S T:Nat → Nat} (h:∀v,v < n→S v=T v) {s:Nat}:∀k,ups n S k s=ups n T k s
 | 0=>rfl
 | k+1=>by
  show upR n S (ups n S k s)=upR n T (ups n T k s)
  rw [Qli h k]
  unfold upR
  have:∀(l:List Nat) (t:Nat),(∀v∈l,v < n)→l.foldl (upV S) t=l.foldl (upV T) t:=fun l=>by
   induction l with
   | nil=>intros; rfl
   | cons v l ih =>
    intro t hl
    simp only [List.foldl_cons]
    have e:upV S t v=upV T t v:=by unfold upV; rw [h v (hl v (by simp))]
    rw [e]
    exact ih _ fun u hu=>hl u (List.mem_cons_of_mem _ hu)
  exact this _ _ fun v hv=>List.mem_range.1 hv
theorem Qkk {S T:Nat → Nat} (h:∀v,v < n→S v=T v) {x y z:Nat}:apB n S x y z=apB n T x y z:=by
 have e1:anS n S x y z=anS n T x y z:=Qli h n
 have e2:∀a,jo n S (anS n S x y z) z a=jo n T (anS n T x y z) z a:=fun a=>by
  rw [e1]
  unfold jo
  refine Z5 fun b _=>?_
  congr 1
  rw [Bool.eq_iff_iff,List.any_eq_true,List.any_eq_true]
  constructor
  ·rintro ⟨k,hk,g⟩; exact ⟨k,hk,by rw [←h k (List.mem_range.1 hk)]; exact g⟩
  ·rintro ⟨k,hk,g⟩; exact ⟨k,hk,by rw [h k (List.mem_range.1 hk)]; exact g⟩
 unfold apB Qax
 rw [Qli (fun v _=>e2 v) n]
theorem Qd5 (hS:Gd n S) {x y z:Nat} (hz:∀k,z.testBit k=true→k < n) (hx:x < n) (hy:y < n):apB n S x y z=true↔z.testBit x=false∧z.testBit y=false∧¬ ∃d,Rch S z (anZ n S z) x y d:=by
 unfold apB
 simp only [Bool.and_eq_true,Bool.not_eq_true']
 constructor
 ·rintro ⟨⟨h1,h2⟩,h3⟩
  refine ⟨h1,h2,fun hd=>?_⟩
  rw [(Qpl hS hz hx hy h1 h2).2 hd] at h3; cases h3
 ·rintro ⟨h1,h2,h3⟩
  refine ⟨⟨h1,h2⟩,?_⟩
  rw [Bool.eq_false_iff]
  exact fun e=>h3 ((Qpl hS hz hx hy h1 h2).1 e)
include hn h hi hj hij he hc
theorem Qyr {v:Nat} (hv:v < n):turn (turn S i j) j i v=S v:=by
 have hT:=Qfz hn h hi hj hij he hc
 have hji:j≠i:=fun e=>hij e.symm
 have het:(turn S i j i).testBit j=true:=by rw [X9 hn h hi hj hij he i j hi,if_pos rfl]; simp
 apply Nat.eq_of_testBit_eq
 intro x
 rw [X9 hn hT hj hi hji het v x hv]
 by_cases e1:v=j
 ·subst e1
  rw [if_pos rfl,X9 hn h hi hj hij he v x hv,if_neg hji,if_pos rfl]
  by_cases e:i=x
  ·subst e; rw [he]; simp
  ·simp [e]
 ·rw [if_neg e1]
  by_cases e2:v=i
  ·subst e2
   rw [if_pos rfl,X9 hn h hi hj hij he v x hv,if_pos rfl]
   by_cases e:j=x
   ·subst e
    have:(S v).testBit j=false:=Bool.eq_false_iff.2 fun e=>by obtain ⟨r,hr⟩:=Xc h; have:=hr v hi j e; have:=hr j hj v he; omega
    rw [this]; simp
   ·simp [e]
  ·rw [if_neg e2,X9 hn h hi hj hij he v x hv,if_neg e2,if_neg e1]
theorem Q05:Qhi (turn S i j) j i:=by
 unfold Qhi
 apply Nat.eq_of_testBit_eq
 intro x
 rw [Nat.testBit_or,Qm,Qn8 hn h hi hj hij he hc,Qov hn h hi hj hij he hc]
theorem Q3t {x y z:Nat} (hz:∀k,z.testBit k=true→k < n) (hx:x < n) (hy:y < n):apB n (turn S i j) x y z=apB n S x y z:=by
 have hT:=Qfz hn h hi hj hij he hc
 have hji:j≠i:=fun e=>hij e.symm
 have het:(turn S i j i).testBit j=true:=by rw [X9 hn h hi hj hij he i j hi,if_pos rfl]; simp
 have hct:=Q05 hn h hi hj hij he hc
 have hTT:=Qfz hn hT hj hi hji het hct
 rw [Bool.eq_iff_iff,Qd5 hT hz hx hy,Qd5 h hz hx hy]
 constructor
 ·rintro ⟨h1,h2,h3⟩
  exact ⟨h1,h2,fun hd=>h3 (Qt3 hn h hi hj hij he hc hz hx hy hd)⟩
 ·rintro ⟨h1,h2,h3⟩
  refine ⟨h1,h2,fun hd=>?_⟩
  have k:=Qt3 hn hT hj hi hji het hct hz hx hy hd
  have a:apB n (turn (turn S i j) j i) x y z=apB n S x y z:=Qkk fun v hv=>Qyr hn h hi hj hij he hc hv
  have b:=(Qd5 h hz hx hy).2 ⟨h1,h2,h3⟩
  rw [←a] at b
  exact ((Qd5 hTT hz hx hy).1 b).2.2 k
end
end Go.Ab
namespace Go.Ab
open Go
set_option maxRecDepth 100000
set_option maxHeartbeats 1000000
theorem Q3h {n k b:Nat} (hk:k < n) (hb:b < n):k*n+b < n*n:=by
 have h1:(k+1)*n≤n*n:=Nat.mul_le_mul_right _ hk
 rw [Nat.succ_mul] at h1
 omega
theorem Q2s {n k b:Nat} (hb:b < n):(k*n+b) / n=k∧(k*n+b) % n=b:=by
 have h0:0 < n:=by omega
 constructor
 ·rw [Nat.add_comm,Nat.add_mul_div_right _ _ h0,Nat.div_eq_of_lt hb,Nat.zero_add]
 ·rw [Nat.add_comm,Nat.add_mul_mod_self_right,Nat.mod_eq_of_lt hb]
theorem Qy5 (P:Nat → Prop) (m:Nat → Nat) (h:∃v,P v):∃v,P v∧∀w,P w→m v≤m w:=by
 have key:∀c v,P v→m v=c→∃v,P v∧∀w,P w→m v≤m w:=by
  intro c
  induction c using Nat.strongRecOn with
  | _ c ih =>
   intro v hv hc
   by_cases hb:∃w,P w∧m w < c
   ·obtain ⟨w,hw,hlt⟩:=hb
    exact ih (m w) hlt w hw rfl
   ·exact ⟨v,hv,fun w hw=>Nat.le_of_not_lt fun hlt=>hb ⟨w,hw,by omega⟩⟩
 obtain ⟨v,hv⟩:=h
 exact key _ v hv rfl
section
variable {n:Nat} {S T:Nat → Nat} (hn:n≤7) (hS:Gd n S) (hT:Gd n T)
def dfN (n:Nat) (S T:Nat → Nat):Nat := cnt (n*n) fun k=>(S (k % n)).testBit (k / n) && (T (k / n)).testBit (k % n)
include hn hS hT
theorem Qxs (hnr:∀u w,u < n→w < n→near T u w=near S u w) (hcl:cls n T=cls n S) (hd:∃u v,u < n∧v < n∧(S v).testBit u=true∧(T u).testBit v=true):∃u v,u < n∧v < n∧(S v).testBit u=true∧(T u).testBit v=true∧Qhi S u v:=by
 obtain ⟨r,hr⟩:=Xc hS
 obtain ⟨t,ht⟩:=Xc hT
 obtain ⟨v,⟨hv,u0,hu0,h1,h2⟩,hmin⟩:=Qy5 (fun v=>v < n∧∃u,u < n∧(S v).testBit u=true∧(T u).testBit v=true) r (by
  obtain ⟨u,v,a,b,c,d⟩:=hd
  exact ⟨v,b,u,a,c,d⟩)
 obtain ⟨u,⟨hu,h3,h4⟩,hmax⟩:=Qy5 (fun u=>u < n∧(S v).testBit u=true∧(T u).testBit v=true) (fun u=>r v - r u) ⟨u0,hu0,h1,h2⟩
 have huv:=hr v hv u h3
 have htuv:=ht u hu v h4
 have huv':u≠v:=fun e=>by subst e; omega
 have col:∀a b c,a≠c→a < n→b < n→c < n→Z2 T a b c=Z2 S a b c:=fun a b c h ha hb hc=>Qmx hcl hT hS h ha hc hb
 refine ⟨u,v,hu,hv,h3,h4,?_⟩
 unfold Qhi
 apply Nat.eq_of_testBit_eq
 intro w
 rw [Nat.testBit_or,Qm]
 by_cases hwu:u=w
 ·subst hwu; simp [h3]
 ·have hwu':w≠u:=fun e=>hwu e.symm
  simp only [hwu,decide_false,Bool.or_false]
  rw [Bool.eq_iff_iff]
  constructor
  ·intro hw
   have hwn:=hS.inn v hv w hw
   have hwv:=hr v hv w hw
   have hne:w≠v:=fun e=>by subst e; omega
   cases hnear:near S w u with
   | false =>
    exfalso
    have hc:Z2 S w v u=true:=by unfold Z2; rw [hw,h3,hnear]; rfl
    rw [←col w v u hwu' hwn hv hu] at hc
    unfold Z2 at hc
    simp only [Bool.and_eq_true] at hc
    have:=ht v hv u hc.1.2
    omega
   | true =>
    have hn2:=hnear
    unfold near at hn2
    rw [Bool.or_eq_true] at hn2
    rcases hn2 with e | e
    ·
     exfalso
     have hruw:=hr w hwn u e
     have hnT:near T w v=true:=by
      rw [hnr w v hwn hv]; unfold near; rw [hw]; simp
     unfold near at hnT
     rw [Bool.or_eq_true] at hnT
     rcases hnT with e2 | e2
     ·have:=hmax w ⟨hwn,hw,e2⟩
      omega
     ·have hnT2:near T w u=true:=by rw [hnr w u hwn hu]; exact hnear
      unfold near at hnT2
      rw [Bool.or_eq_true] at hnT2
      rcases hnT2 with e3 | e3
      ·have g1:=ht v hv w e2
       have g2:=ht w hwn u e3
       omega
      ·have:=hmin w ⟨hwn,u,hu,e,e3⟩
       omega
    ·exact e
  ·intro hw
   have hwn:=hS.inn u hu w hw
   have hrw:=hr u hu w hw
   have hTw:(T u).testBit w=true:=by
    have hnT:near T w u=true:=by rw [hnr w u hwn hu]; unfold near; rw [hw]; simp
    unfold near at hnT
    rw [Bool.or_eq_true] at hnT
    rcases hnT with e | e
    ·have:=hmin u ⟨hu,w,hwn,hw,e⟩
     omega
    ·exact e
   have hne:w≠v:=fun e=>by subst e; omega
   cases hnear:near S w v with
   | false =>
    exfalso
    have hc:Z2 T w u v=true:=by
     unfold Z2
     rw [hTw,h4,hnr w v hwn hv,hnear]; rfl
    rw [col w u v hne hwn hu hv] at hc
    unfold Z2 at hc
    simp only [Bool.and_eq_true] at hc
    have:=hr u hu v hc.1.2
    omega
   | true =>
    unfold near at hnear
    rw [Bool.or_eq_true] at hnear
    rcases hnear with e | e
    ·have:=hr w hwn v e
     omega
    ·exact e
omit hn in
theorem Qvr (hnr:∀u w,u < n→w < n→near T u w=near S u w) (hd:¬ ∃u v,u < n∧v < n∧(S v).testBit u=true∧(T u).testBit v=true):∀v,v < n→S v=T v:=fun v hv=>by
 obtain ⟨t,ht⟩:=Xc hT
 obtain ⟨r,hr⟩:=Xc hS
 apply Nat.eq_of_testBit_eq
 intro u
 rw [Bool.eq_iff_iff]
 constructor
 ·intro h
  have hu:=hS.inn v hv u h
  have hn2:near T v u=true:=by rw [hnr v u hv hu]; unfold near; rw [h]; rfl
  unfold near at hn2
  rw [Bool.or_eq_true] at hn2
  rcases hn2 with e | e
  ·exact e
  ·exact absurd ⟨u,v,hu,hv,h,e⟩ hd
 ·intro h
  have hu:=hT.inn v hv u h
  have hn2:near S v u=true:=by rw [←hnr v u hv hu]; unfold near; rw [h]; rfl
  unfold near at hn2
  rw [Bool.or_eq_true] at hn2
  rcases hn2 with e | e
  ·exact e
  ·exact absurd ⟨v,u,hv,hu,e,h⟩ hd
end
theorem Q2a {n:Nat} {S T:Nat → Nat} (hn:n≤7) (hS:Gd n S) (hT:Gd n T) {i j:Nat} (hi:i < n) (hj:j < n) (he:(S j).testBit i=true) (he2:(T i).testBit j=true):dfN n (turn S i j) T < dfN n S T:=by
 have hij:i≠j:=fun e=>by subst e; obtain ⟨r,hr⟩:=Xc hS; have:=hr i hi i he; omega
 have hk:=Q3h hi hj
 obtain ⟨d1,d2⟩:=Q2s (k:=i) hj
 have e:=Qfu (n:=n*n) (v:=i*n+j) (p:=fun k=>(S (k % n)).testBit (k / n) && (T (k / n)).testBit (k % n)) hk (by rw [d1,d2,he,he2]; rfl)
 have hTj:(T j).testBit i=false:=Bool.eq_false_iff.2 fun e=>by obtain ⟨t,ht⟩:=Xc hT; have:=ht j hj i e; have:=ht i hi j he2; omega
 have hle:dfN n (turn S i j) T≤cnt (n*n) (fun k=>((S (k % n)).testBit (k / n) && (T (k / n)).testBit (k % n)) && !decide (i*n+j=k)):=Qdt fun k hk hb=>by
  have hn0:0 < n:=by omega
  have hv:k % n < n:=Nat.mod_lt _ hn0
  rw [Bool.and_eq_true] at hb
  obtain ⟨hb1,hb2⟩:=hb
  rw [X9 hn hS hi hj hij he (k % n) (k / n) hv] at hb1
  have hsp:(S (k % n)).testBit (k / n)=true∧¬ i*n+j=k:=by
   by_cases e1:k % n=i
   ·rw [if_pos e1,Bool.or_eq_true] at hb1
    rcases hb1 with hb1 | hb1
    ·rw [e1]
     refine ⟨hb1,fun e2=>?_⟩
     rw [←e2,d2] at e1; exact hij e1.symm
    ·have e3:=of_decide_eq_true hb1
     rw [←e3,e1,hTj] at hb2; cases hb2
   ·rw [if_neg e1] at hb1
    by_cases e2:k % n=j
    ·rw [if_pos e2,Bool.and_eq_true] at hb1
     rw [e2]
     refine ⟨hb1.1,fun e3=>?_⟩
     have:k / n=i:=by rw [←e3]; exact d1
     rw [this] at hb1; simp at hb1
    ·rw [if_neg e2] at hb1
     exact ⟨hb1,fun e3=>e2 (by rw [←e3]; exact d2)⟩
  rw [hsp.1,hb2]
  simp [hsp.2]
 unfold dfN at *
 omega
theorem Q3s {n:Nat} (hn:n≤7) {T:Nat → Nat} (hT:Gd n T):∀(k:Nat) (S:Nat → Nat),dfN n S T≤k→Gd n S→(∀u w,u < n→w < n→near T u w=near S u w)→cls n T=cls n S →
  ∀{x y z:Nat},(∀k,z.testBit k=true→k < n)→x < n→y < n→apB n S x y z=apB n T x y z:=by
 intro k
 induction k with
 | zero =>
  intro S hk hS hnr hcl x y z hz hx hy
  by_cases hd:∃u v,u < n∧v < n∧(S v).testBit u=true∧(T u).testBit v=true
  ·obtain ⟨u,v,hu,hv,h1,h2,h3⟩:=Qxs hn hS hT hnr hcl hd
   have:=Q2a hn hS hT hu hv h1 h2
   omega
  ·exact Qkk (Qvr hS hT hnr hd)
 | succ k ih =>
  intro S hk hS hnr hcl x y z hz hx hy
  by_cases hd:∃u v,u < n∧v < n∧(S v).testBit u=true∧(T u).testBit v=true
  ·obtain ⟨u,v,hu,hv,h1,h2,h3⟩:=Qxs hn hS hT hnr hcl hd
   have hlt:=Q2a hn hS hT hu hv h1 h2
   have huv:u≠v:=fun e=>by subst e; obtain ⟨r,hr⟩:=Xc hS; have:=hr u hu u h1; omega
   rw [←Q3t hn hS hu hv huv h1 h3 hz hx hy]
   refine ih _ (by omega) (Qfz hn hS hu hv huv h1 h3) (fun a b ha hb=>?_) ?_ hz hx hy
   ·rw [Qqt hn hS hu hv huv h1 ha hb]; exact hnr a b ha hb
   ·rw [hcl]; exact Q0q hn hS hu hv huv h1 h3
  ·exact Qkk (Qvr hS hT hnr hd)
section
variable {n:Nat} {S:Nat → Nat} (hS:Gd n S)
include hS
theorem Qhy {x y z:Nat} (hz:∀k,z.testBit k=true→k < n) (hx:x < n) (hy:y < n) (h:near S x y=true):apB n S x y z=false:=by
 rw [Bool.eq_false_iff]
 intro hb
 obtain ⟨h1,h2,h3⟩:=(Qd5 hS hz hx hy).1 hb
 refine h3 ?_
 unfold near at h
 rw [Bool.or_eq_true] at h
 rcases h with e | e
 ·exact ⟨_,.up .start h1 e⟩
 ·exact ⟨_,.dn .start h1 e⟩
theorem Qy1 {x y:Nat} {r:Nat → Nat} (hr:∀v,v < n→∀j,(S v).testBit j=true→r j < r v) (hx:x < n) (hy:y < n) (hxy:x≠y) (h:near S x y=false) (hle:r x≤r y):apB n S x y (S y)=true:=by
 unfold near at h
 rw [Bool.or_eq_false_iff] at h
 have hz:=hS.inn y hy
 rw [Qd5 hS hz hx hy]
 refine ⟨h.2,Bool.eq_false_iff.2 fun e=>by have:=hr y hy y e; omega,?_⟩
 have anzlt:∀v,(anZ n S (S y)).testBit v=true→r v < r y:=fun v hv=>Qa4 hS hz (fun v=>r v < r y) (fun j hj=>hr y hy j hj) (fun v p hv hP hp=>by have:=hr v hv p hp; omega) hv
 have key:∀v d,Rch S (S y) (anZ n S (S y)) x v d→v < n→(ups n S n (2^v)).testBit y=true→d=true∧v≠y:=by
  have py:∀{v},v < n→∀k,(2^v).testBit k=true→k < n:=fun hv k hk=>by rw [Qm] at hk; have:=of_decide_eq_true hk; omega
  have stepd:∀{v},v < n→(ups n S n (2^v)).testBit y=true→r y≤r v:=fun {v} hv hb=>Qa4 hS (py hv) (fun k=>r k≤r v) (fun k hk=>by rw [Qm] at hk; have:=of_decide_eq_true hk; subst this; exact Nat.le_refl _) (fun a p ha hP hp=>by have:=hr a ha p hp; omega) hb
  have down:∀{v c},v < n→c < n→(S c).testBit v=true→(ups n S n (2^v)).testBit y=true→(ups n S n (2^c)).testBit y=true:=fun {v c} hv hc hvc hb=>by
   have clo:Clo n S (ups n S n (2^c)):=Qcq hS.inn (py hc)
   have hcc:(ups n S n (2^c)).testBit c=true:=Vo n c (by rw [Qm]; simp)
   exact Vx clo (fun k hk=>by rw [Qm] at hk; have:=of_decide_eq_true hk; subst this; exact clo c hc hcc _ hvc) n y hb
  intro v d hr2
  induction hr2 with
  | start =>
   intro _ hb
   exfalso
   have:=stepd hx hb
   have hlt:r x=r y:=by omega
   have:y=x∨r y < r x:=Qa4 hS (py hx) (fun k=>k=x∨r k < r x) (fun k hk=>by rw [Qm] at hk; exact .inl (of_decide_eq_true hk).symm) (fun a p ha hP hp=>by
    have h7:=hr a ha p hp
    rcases hP with rfl | hP
    ·exact .inr h7
    ·exact .inr (by omega)) hb
   rcases this with e | e
   ·exact hxy e.symm
   ·omega
  | @up v p _ hv hp ih =>
   intro hpn hb
   exfalso
   by_cases hvn:v < n
   ·have:=ih hvn (down hpn hvn hp hb)
    cases this.1
   ·
    rename_i hrv
    have:∀v d,Rch S (S y) (anZ n S (S y)) x v d→d=false→v < n:=fun v d h=>by
     induction h with
     | start=>exact fun _=>hx
     | @up v p _ _ hp ih=>exact fun _=>hS.inn v (ih rfl) p hp
     | dn=>exact fun e=>by cases e
     | @turn v p _ hv hp _=>exact fun _=>hS.inn v (Qgf hS.inn hz hv) p hp
    exact hvn (this v false hrv rfl)
  | @dn v c d _ hv hc ih =>
   intro hcn hb
   have hvn:=hS.inn c hcn v hc
   refine ⟨rfl,fun e=>?_⟩
   subst e
   rw [hc] at hv; cases hv
  | @turn v p _ hv hp ih =>
   intro hpn hb
   exfalso
   have hvn:=Qgf hS.inn hz hv
   have h1:=stepd hvn (down hpn hvn hp hb)
   have h2:=anzlt v hv
   omega
 rintro ⟨d,hd⟩
 exact (key y d hd hy (Vo n y (by rw [Qm]; simp))).2 rfl
theorem Qr2 {x y:Nat} (hx:x < n) (hy:y < n) (hxy:x≠y) (h:near S x y=false):∃z,z < 2^n∧(apB n S x y z=true∨apB n S y x z=true):=by
 obtain ⟨r,hr⟩:=Xc hS
 rcases Nat.le_total (r x) (r y) with hle | hle
 ·exact ⟨S y,Jb (hS.inn y hy),.inl (Qy1 hS hr hx hy hxy h hle)⟩
 ·exact ⟨S x,Jb (hS.inn x hx),.inr (Qy1 hS hr hy hx (fun e=>hxy e.symm) (by rw [near_symm]; exact h) hle)⟩
theorem Qjz {a b c z:Nat} (hz:∀k,z.testBit k=true→k < n) (ha:a < n) (hb:b < n) (hc:c < n) (h:apB n S a c z=true) (h1:near S a b=true) (h2:near S b c=true):z.testBit b=!((S b).testBit a && (S b).testBit c):=by
 obtain ⟨g1,g2,g3⟩:=(Qd5 hS hz ha hc).1 h
 unfold near at h1 h2
 rw [Bool.or_eq_true] at h1 h2
 cases hzb:z.testBit b with
 | true =>
  cases e1:(S b).testBit a with
  | false=>rfl
  | true =>
   cases e2:(S b).testBit c with
   | false=>rfl
   | true =>
    exfalso
    exact g3 ⟨_,.turn (.dn .start g1 e1) (Vo n b hzb) e2⟩
 | false =>
  cases e1:(S b).testBit a with
  | false =>
   exfalso
   have e3:(S a).testBit b=true:=by rw [e1] at h1; simpa using h1
   have k:Rch S z (anZ n S z) a b false:=.up .start g1 e3
   rcases h2 with e | e
   ·exact g3 ⟨_,.up k hzb e⟩
   ·exact g3 ⟨_,.dn k hzb e⟩
  | true =>
   cases e2:(S b).testBit c with
   | true=>rfl
   | false =>
    exfalso
    rw [e2] at h2
    have e4:(S c).testBit b=true:=by simpa using h2
    exact g3 ⟨_,.dn (.dn .start g1 e1) hzb e4⟩
end
theorem Qmf {n:Nat} {S:Nat → Nat} (hS:Gd n S) {x y z:Nat} (hz:∀k,z.testBit k=true→k < n) (hx:x < n) (hy:y < n):apB n S x y z=apB n S y x z:=by
 have an:anS n S x y z=anS n S y x z:=by unfold anS; rw [Nat.or_comm (2^x)]
 have key:∀x y,x < n→y < n→anS n S x y z=anS n S y x z→apB n S x y z=true→apB n S y x z=true:=fun x y hx hy an h=>by
  unfold apB at h ⊢
  simp only [Bool.and_eq_true,Bool.not_eq_true'] at h ⊢
  obtain ⟨⟨h1,h2⟩,h3⟩:=h
  refine ⟨⟨h2,h1⟩,?_⟩
  rw [Bool.eq_false_iff] at h3 ⊢
  intro hs
  refine h3 ?_
  obtain ⟨T,hT⟩:=Qpx n fun a=>z.testBit a=false∧((Qax n S x y z).testBit a=true→(Qax n S x y z).testBit y=true)
  have hc:Clo n (jo n S (anS n S y x z) z) T:=fun a ha hb b hbb=>by
   obtain ⟨_,haz,hP⟩:=(hT a).1 hb
   have hbn:b < n:=by
    unfold jo at hbb; rw [Qv] at hbb
    simp only [Bool.and_eq_true,decide_eq_true_eq] at hbb; exact hbb.1
   obtain ⟨k1,k2,k,hk,k3,k4,k5⟩:=(Qud hbn).1 hbb
   refine (hT b).2 ⟨hbn,k2,fun hsb=>hP ?_⟩
   have han:(anS n S x y z).testBit a=true:=by
    rw [an]
    rcases k4 with e | e
    ·exact Qh1 hS hz hy hx h2 h1 k hk k3 a e
    ·rw [←e]; exact k3
   exact Qgm hS hz hx hy h1 h2 hsb ha han haz (by rw [an]; exact k3) k5 k4
  have hs0:Zo (2^y) T:=fun j hj=>by
   rw [Qm] at hj
   have:=of_decide_eq_true hj
   subst this
   exact (hT _).2 ⟨hy,h2,fun e=>e⟩
  have:=((hT x).1 (Vx hc hs0 n x hs)).2.2
  exact this (Vo n x (by rw [Qm]; simp))
 rw [Bool.eq_iff_iff]
 exact ⟨key x y hx hy an,key y x hy hx an.symm⟩
theorem vp {n:Nat} {S T:Nat → Nat} (hn:n≤7) (hS:Gd n S) (hT:Gd n T):(∀x y z,x < y→y < n→z < 2^n→apB n S x y z=apB n T x y z)↔(prs n (near S)=prs n (near T)∧cls n S=cls n T):=by
 constructor
 ·intro h
  have hall:∀x y z,x≠y→x < n→y < n→z < 2^n→apB n S x y z=apB n T x y z:=fun x y z hne hx hy hz=>by
   rcases Nat.lt_or_gt_of_ne hne with e | e
   ·exact h x y z e hy hz
   ·rw [Qmf hS (Jh.1 hz) hx hy,Qmf hT (Jh.1 hz) hx hy]; exact h y x z e hx hz
  have one:∀{S T:Nat → Nat},Gd n S→Gd n T→(∀x y z,x≠y→x < n→y < n→z < 2^n→apB n S x y z=apB n T x y z)→∀u w,u < n→w < n→near S u w=true→near T u w=true:=fun {S T} hS hT hall u w hu hw hb=>by
   have hne:u≠w:=fun e=>by subst e; rw [Qeq hS hu] at hb; cases hb
   cases hb2:near T u w with
   | true=>rfl
   | false =>
    obtain ⟨z,hz,e | e⟩:=Qr2 hT hu hw hne hb2
    ·rw [←hall u w z hne hu hw hz,Qhy hS (Jh.1 hz) hu hw hb] at e; cases e
    ·rw [←hall w u z (fun e=>hne e.symm) hw hu hz,Qhy hS (Jh.1 hz) hw hu (by rw [near_symm]; exact hb)] at e; cases e
  have hnear:∀u w,u < n→w < n→near S u w=near T u w:=fun u w hu hw=>by
   rw [Bool.eq_iff_iff]
   exact ⟨one hS hT hall u w hu hw,one hT hS (fun x y z a b c d=>(hall x y z a b c d).symm) u w hu hw⟩
  refine ⟨(Qjs hS hT).2 hnear,Qds.2 fun a b c h1 h2 h3=>?_⟩
  have ha:a < n:=by omega
  have hne:a≠c:=by omega
  have two:∀{S T:Nat → Nat},Gd n S→Gd n T→(∀x y z,x≠y→x < n→y < n→z < 2^n→apB n S x y z=apB n T x y z)→(∀u w,u < n→w < n→near S u w=near T u w)→Z2 S a b c=true→Z2 T a b c=true:=fun {S T} hS hT hall hnear hb=>by
   unfold Z2 at hb ⊢
   simp only [Bool.and_eq_true,Bool.not_eq_true'] at hb
   obtain ⟨⟨g1,g2⟩,g3⟩:=hb
   have n1:near S a b=true:=by unfold near; rw [g1]; simp
   have n2:near S b c=true:=by unfold near; rw [g2]; rfl
   obtain ⟨z,hz,e⟩:∃z,z < 2^n∧apB n S a c z=true:=by
    obtain ⟨z,hz,e | e⟩:=Qr2 hS ha h2 hne g3
    ·exact ⟨z,hz,e⟩
    ·exact ⟨z,hz,by rw [Qmf hS (Jh.1 hz) ha h2]; exact e⟩
   have k1:=Qjz hS (Jh.1 hz) ha h3 h2 e n1 n2
   rw [g1,g2] at k1
   rw [hall a c z hne ha h2 hz] at e
   have k2:=Qjz hT (Jh.1 hz) ha h3 h2 e (by rw [←hnear a b ha h3]; exact n1) (by rw [←hnear b c h3 h2]; exact n2)
   rw [k1] at k2
   rw [←hnear a c ha h2,g3]
   have:((T b).testBit a && (T b).testBit c)=true:=by
    cases hx:((T b).testBit a && (T b).testBit c) with
    | true=>rfl
    | false=>rw [hx] at k2; cases k2
   rw [this]; rfl
  rw [Bool.eq_iff_iff]
  exact ⟨two hS hT hall hnear,two hT hS (fun x y z a b c d=>(hall x y z a b c d).symm) fun u w hu hw=>(hnear u w hu hw).symm⟩
 ·rintro ⟨h1,h2⟩ x y z hxy hy hz
  exact Q3s hn hT _ S (Nat.le_refl _) hS (fun u w hu hw=>((Qjs hS hT).1 h1 u w hu hw).symm) h2.symm (Jh.1 hz) (by omega) hy
end Go.Ab
