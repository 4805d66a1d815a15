/- What functions compute. No conditions. -/
import Derived.Test.YtojklbpplceiiaaDoorW15
import Derived.Test.YtojklbpplceiiaaDoorEng7
import Derived.Test.YtojklbpplceiiaaDoorW11
import Derived.Test.YtojklbpplceiiaaDoorW12
import Derived.KernelRfl
set_option linter.all false
namespace Go.Ab
open Go
set_option maxRecDepth 100000
set_option maxHeartbeats 1000000
theorem Qd1 {n:Nat} {S:Nat → Nat} (r:Nat → Nat) (h:∀v,v < n→∀j,(S v).testBit j=true→j < n∧r j < r v):Gd n S:=by
 refine ⟨fun v hv j hj=>(h v hv j hj).1,fun v hv hb=>?_⟩
 have hT:Clo n S (msk n fun j=>decide (r j < r v)):=fun w hw hb j hj=>by
  rw [Zs] at hb ⊢
  simp only [Bool.and_eq_true,decide_eq_true_eq] at hb ⊢
  have:=h w hw j hj
  exact ⟨this.1,by omega⟩
 have hs:Xi (S v) (msk n fun j=>decide (r j < r v)):=fun j hj=>by
  rw [Zs]
  simp only [Bool.and_eq_true,decide_eq_true_eq]
  exact h v hv j hj
 have:=K7 hT hs n v hb
 rw [Zs] at this
 simp at this
theorem Qch {α:Type} {d:α} {body:Int × List α→Option (Qf (Int × List α) (List α))} {A i:Nat} {aI:Int} (hA:A≤i) (hi:i < 100000) (ha:aI=(A:Int)) {l:List α} (hl:l.length=i)
  (hb:∀s,body s=if (decide (s.1 > aI))=true then (lkI s.2 (zw (s.1 - 1))).bind fun a=>(lkI s.2 s.1).bind fun _=>some (.next (zw (s.1 - 1),s.2.set (Int.toNat s.1) a)) else some (.done s.2)) :
  Qb fuel body ((i:Int),l++[d])=some ((l++[d]).take (A+1)++l.drop A):=by
 subst ha
 have key:∀(j N k:Nat),k=A+j→k≤i→j < N→Qb N body ((k:Int),(l++[d]).take (k+1)++l.drop k)=some ((l++[d]).take (A+1)++l.drop A):=by
  intro j
  induction j with
  | zero =>
   intro N k hk hki hN
   obtain ⟨N,rfl⟩:∃M,N=M+1:=⟨N - 1,by omega⟩
   have:k=A:=by omega
   subst this
   unfold Qb
   rw [hb]
   dsimp only
   rw [if_neg (by simp)]
  | succ j ih =>
   intro N k hk hki hN
   obtain ⟨N,rfl⟩:∃M,N=M+1:=⟨N - 1,by omega⟩
   obtain ⟨k,rfl⟩:∃m,k=m+1:=⟨k - 1,by omega⟩
   have hkl:k < l.length:=by omega
   have hlen:((l++[d]).take (k+1+1)++l.drop (k+1)).length=i+1:=by simp; omega
   have hg:lkI ((l++[d]).take (k+1+1)++l.drop (k+1)) (k:Int)=some l[k]:=by
    rw [Z1 (by omega)]
    congr 1
    rw [List.getElem_append_left (by simp; omega),List.getElem_take,List.getElem_append_left hkl]
   have hg2:∃x,lkI ((l++[d]).take (k+1+1)++l.drop (k+1)) ((k+1:Nat):Int)=some x:=⟨_,Z1 (by omega)⟩
   obtain ⟨x,hx⟩:=hg2
   have e1:zw (((k+1:Nat):Int) - 1)=(k:Int):=by rw [w64 (by omega)]; omega
   have hset:((l++[d]).take (k+1+1)++l.drop (k+1)).set (k+1) l[k]=(l++[d]).take (k+1)++l.drop k:=by
    apply List.ext_getElem
    ·simp; omega
    ·intro q h1 h2
     rw [List.getElem_set]
     by_cases e:k+1=q
     ·subst e
      rw [if_pos rfl,List.getElem_append_right (by simp; omega)]
      simp only [List.length_take,List.length_append,List.length_singleton,List.getElem_drop]
      congr 1; omega
     ·rw [if_neg e]
      by_cases h3:q < k+1
      ·rw [List.getElem_append_left (by simp; omega),List.getElem_append_left (by simp; omega),List.getElem_take,List.getElem_take]
      ·have hq:q < i+1:=by simpa [hl] using (by rw [List.length_set] at h1; omega:q < i+1)
       rw [List.getElem_append_right (by simp; omega),List.getElem_append_right (by simp; omega)]
       simp only [List.length_take,List.length_append,List.length_singleton,List.getElem_drop]
       congr 1; omega
   unfold Qb
   rw [hb]
   dsimp only
   rw [if_pos (by simp; omega),e1,hg,Option.bind_some,hx,Option.bind_some]
   dsimp only
   rw [Int.toNat_natCast,hset]
   exact ih N k (by omega) (by omega) (by omega)
 have h:=key (i - A) fuel i (by omega) (Nat.le_refl _) (by unfold fuel; omega)
 rw [←h]
 congr 2
 rw [List.take_of_length_le (by simp; omega),List.drop_eq_nil_of_le (by omega),List.append_nil]
def Qfj {α:Type} (A:Nat) (x:α) (l:List α):List α:=l.take A++x::l.drop A
theorem Qd9 {α:Type} {d:α} {A i:Nat} (hA:A≤i) {l:List α} (hl:l.length=i) (x:α):((l++[d]).take (A+1)++l.drop A).set A x=Qfj A x l:=by
 unfold Qfj
 have e:(l++[d]).take (A+1)=l.take A++[(l++[d])[A]'(by simp; omega)]:=by
  rw [List.take_succ_eq_append_getElem (by simp; omega),List.take_append_of_le_length (by omega)]
 rw [e,List.append_assoc,List.set_append,if_neg (by simp; omega)]
 simp only [List.length_take]
 rw [show A - min A l.length=0 by omega]
 rfl
theorem Qei {α:Type} {d:α} {A i:Nat} (hA:A≤i) {l:List α} (hl:l.length=i):∃x,lkI ((l++[d]).take (A+1)++l.drop A) (A:Int)=some x:=⟨_,Z1 (by simp; omega)⟩
theorem Qb5 {o:Int} {k:Nat} (h:0≤o∧o < 256) (hk:0 < k):Int.tmod (zw o) (k:Int)=((o.toNat % k:Nat):Int):=by
 rw [w64 (by omega),Qyv h.1]
 obtain ⟨m,rfl⟩:∃m:Nat,o=(m:Int):=⟨o.toNat,by omega⟩
 simp
structure Qk8 (d:Qd):Prop where
 n:0≤d.N∧d.N < 256
 o0:0≤d.Order.1∧d.Order.1 < 256
 o1:0≤d.Order.2.1∧d.Order.2.1 < 256
 o2:0≤d.Order.2.2.1∧d.Order.2.2.1 < 256
 o3:0≤d.Order.2.2.2.1∧d.Order.2.2.2.1 < 256
 o4:0≤d.Order.2.2.2.2.1∧d.Order.2.2.2.2.1 < 256
 o5:0≤d.Order.2.2.2.2.2∧d.Order.2.2.2.2.2 < 256
structure Qd6 (i:Nat) (l:List Int):Prop where
 len:l.length=i
 inn:∀x∈l,∃a:Nat,a < i∧x=(a:Int)
 nod:l.Nodup
theorem Qb6 {i A:Nat} {l:List Int} (h:Qd6 i l) (hA:A≤i):Qd6 (i+1) (Qfj A (i:Int) l):=by
 have hp:(Qfj A (i:Int) l).Perm ((i:Int)::l):=by
  unfold Qfj
  refine List.perm_middle.trans ?_
  rw [List.take_append_drop]
 refine ⟨by rw [hp.length_eq]; simp [h.len],fun x hx=>?_,?_⟩
 ·rcases List.mem_cons.1 (hp.mem_iff.1 hx) with rfl | hx
  ·exact ⟨i,by omega,rfl⟩
  ·obtain ⟨a,h1,h2⟩:=h.inn x hx
   exact ⟨a,by omega,h2⟩
 ·rw [hp.nodup_iff,List.nodup_cons]
  refine ⟨fun hx=>?_,h.nod⟩
  obtain ⟨a,h1,h2⟩:=h.inn _ hx
  omega
theorem Qvu {d:Qd} (hd:Qk8 d) {m N:Int} (hN:zw (1+(Int.tmod (zw (d.N)) m))=N) {i:Nat} (hi:i < 6) (hiN:(i:Int) < N) {l:List Int} (h:Qd6 i l) :
  ∃l',Xc d m ((i:Int),l)=some (.next (zw ((i:Int)+1),l'))∧Qd6 (i+1) l':=by
 have hll:(l++([0]:List Int)).length*8≤140737488355328:=by rw [List.length_append,h.len]; simp; omega
 have hi':i=0∨i=1∨i=2∨i=3∨i=4∨i=5:=by omega
 unfold Xc
 dsimp only
 rw [hN,if_pos (decide_eq_true hiN)]
 rcases hi' with rfl | rfl | rfl | rfl | rfl | rfl
 ·have hm:=Qb5 hd.o0 (k:=1) (by omega)
  have hA:(d.Order.1).toNat % 1≤0:=by omega
  have hw:Qb fuel (Qal d) ((0:Int),l++([0]:List Int))=some ((l++[0]).take ((d.Order.1).toNat % 1+1)++l.drop ((d.Order.1).toNat % 1)):=Qch (i:=0) hA (by omega) hm h.len (fun s=>rfl)
  obtain ⟨x,hx⟩:=Qei hA h.len
  have hm':Int.tmod (zw (d.Order.1)) 1=(((d.Order.1).toNat % 1:Nat):Int):=hm
  refine ⟨Qfj ((d.Order.1).toNat % 1) 0 l,?_,Qb6 h hA⟩
  rw [if_pos (by decide),if_pos hll,hw,Option.bind_some,hm',hx,Option.bind_some,Option.bind_some,Int.toNat_natCast,Qd9 hA h.len]
  rfl
 ·have hm:=Qb5 hd.o1 (k:=2) (by omega)
  have hA:(d.Order.2.1).toNat % 2≤1:=by omega
  have hw:Qb fuel (Qab d) ((1:Int),l++([0]:List Int))=some ((l++[0]).take ((d.Order.2.1).toNat % 2+1)++l.drop ((d.Order.2.1).toNat % 2)):=Qch (i:=1) hA (by omega) hm h.len (fun s=>rfl)
  obtain ⟨x,hx⟩:=Qei hA h.len
  have hm':Int.tmod (zw (d.Order.2.1)) 2=(((d.Order.2.1).toNat % 2:Nat):Int):=hm
  refine ⟨Qfj ((d.Order.2.1).toNat % 2) 1 l,?_,Qb6 h hA⟩
  rw [if_neg (by decide),if_pos (by decide),if_pos hll,hw,Option.bind_some,hm',hx,Option.bind_some,Option.bind_some,Int.toNat_natCast,Qd9 hA h.len]
  rfl
 ·have hm:=Qb5 hd.o2 (k:=3) (by omega)
  have hA:(d.Order.2.2.1).toNat % 3≤2:=by omega
  have hw:Qb fuel (K5 d) ((2:Int),l++([0]:List Int))=some ((l++[0]).take ((d.Order.2.2.1).toNat % 3+1)++l.drop ((d.Order.2.2.1).toNat % 3)):=Qch (i:=2) hA (by omega) hm h.len (fun s=>rfl)
  obtain ⟨x,hx⟩:=Qei hA h.len
  have hm':Int.tmod (zw (d.Order.2.2.1)) 3=(((d.Order.2.2.1).toNat % 3:Nat):Int):=hm
  refine ⟨Qfj ((d.Order.2.2.1).toNat % 3) 2 l,?_,Qb6 h hA⟩
  rw [if_neg (by decide),if_neg (by decide),if_pos (by decide),if_pos hll,hw,Option.bind_some,hm',hx,Option.bind_some,Option.bind_some,Int.toNat_natCast,Qd9 hA h.len]
  rfl
 ·have hm:=Qb5 hd.o3 (k:=4) (by omega)
  have hA:(d.Order.2.2.2.1).toNat % 4≤3:=by omega
  have hw:Qb fuel (Qai d) ((3:Int),l++([0]:List Int))=some ((l++[0]).take ((d.Order.2.2.2.1).toNat % 4+1)++l.drop ((d.Order.2.2.2.1).toNat % 4)):=Qch (i:=3) hA (by omega) hm h.len (fun s=>rfl)
  obtain ⟨x,hx⟩:=Qei hA h.len
  have hm':Int.tmod (zw (d.Order.2.2.2.1)) 4=(((d.Order.2.2.2.1).toNat % 4:Nat):Int):=hm
  refine ⟨Qfj ((d.Order.2.2.2.1).toNat % 4) 3 l,?_,Qb6 h hA⟩
  rw [if_neg (by decide),if_neg (by decide),if_neg (by decide),if_pos (by decide),if_pos hll,hw,Option.bind_some,hm',hx,Option.bind_some,Option.bind_some,Int.toNat_natCast,Qd9 hA h.len]
  rfl
 ·have hm:=Qb5 hd.o4 (k:=5) (by omega)
  have hA:(d.Order.2.2.2.2.1).toNat % 5≤4:=by omega
  have hw:Qb fuel (Qag d) ((4:Int),l++([0]:List Int))=some ((l++[0]).take ((d.Order.2.2.2.2.1).toNat % 5+1)++l.drop ((d.Order.2.2.2.2.1).toNat % 5)):=Qch (i:=4) hA (by omega) hm h.len (fun s=>rfl)
  obtain ⟨x,hx⟩:=Qei hA h.len
  have hm':Int.tmod (zw (d.Order.2.2.2.2.1)) 5=(((d.Order.2.2.2.2.1).toNat % 5:Nat):Int):=hm
  refine ⟨Qfj ((d.Order.2.2.2.2.1).toNat % 5) 4 l,?_,Qb6 h hA⟩
  rw [if_neg (by decide),if_neg (by decide),if_neg (by decide),if_neg (by decide),if_pos (by decide),if_pos hll,hw,Option.bind_some,hm',hx,Option.bind_some,Option.bind_some,Int.toNat_natCast,Qd9 hA h.len]
  rfl
 ·have hm:=Qb5 hd.o5 (k:=6) (by omega)
  have hA:(d.Order.2.2.2.2.2).toNat % 6≤5:=by omega
  have hw:Qb fuel (Qae d) ((5:Int),l++([0]:List Int))=some ((l++[0]).take ((d.Order.2.2.2.2.2).toNat % 6+1)++l.drop ((d.Order.2.2.2.2.2).toNat % 6)):=Qch (i:=5) hA (by omega) hm h.len (fun s=>rfl)
  obtain ⟨x,hx⟩:=Qei hA h.len
  have hm':Int.tmod (zw (d.Order.2.2.2.2.2)) 6=(((d.Order.2.2.2.2.2).toNat % 6:Nat):Int):=hm
  refine ⟨Qfj ((d.Order.2.2.2.2.2).toNat % 6) 5 l,?_,Qb6 h hA⟩
  rw [if_neg (by decide),if_neg (by decide),if_neg (by decide),if_neg (by decide),if_neg (by decide),if_pos (by decide),if_pos hll,hw,Option.bind_some,hm',hx,Option.bind_some,Option.bind_some,Int.toNat_natCast,Qd9 hA h.len]
  rfl
theorem Qwb {d:Qd} (hd:Qk8 d) {m:Int} {n:Nat} (hn:n≤6) (hN:zw (1+(Int.tmod (zw (d.N)) m))=(n:Int)):∃l,Qb fuel (Xc d m) (0,([]:List Int))=some l∧Qd6 n l:=by
 have h:=Ks (n:=n) (k0:=0) (by omega) (by omega) (fun i (x:List Int)=>(i,x)) (body:=Xc d m) Qd6 (Qd6 n)
  (fun k t _ hk hI=>by
   obtain ⟨l',h1,h2⟩:=Qvu hd hN (by omega) (by omega) hI
   exact .inl ⟨l',h1,h2⟩)
  (fun t ht=>by
   refine ⟨t,?_,ht⟩
   unfold Xc
   dsimp only
   rw [hN,if_neg (nlt n)]) [] ⟨rfl,fun x hx=>by simp at hx,List.nodup_nil⟩
 exact h
def Qf4 (n:Nat) (l:List Int) (S:Nat → Nat):Prop:=∀v,v < n→∀x,(S v).testBit x=true→∃a b:Nat,a < b∧b < n∧l[a]?=some (x:Int)∧l[b]?=some (v:Int)
theorem Qsx {n:Nat} {l:List Int} {S:Nat → Nat} (hp:Qd6 n l) (h:Qf4 n l S):Gd n S:=by
 have inj:∀a b:Nat,∀x:Int,l[a]?=some x→l[b]?=some x→a=b:=fun a b x h1 h2=>by
  have ha:=(List.getElem?_eq_some_iff.1 h1)
  have hb:=(List.getElem?_eq_some_iff.1 h2)
  obtain ⟨ha,ha2⟩:=ha
  obtain ⟨hb,hb2⟩:=hb
  have:=List.pairwise_iff_getElem.1 hp.nod
  rcases Nat.lt_trichotomy a b with h | h | h
  ·exact absurd (ha2.trans hb2.symm) (this a b ha hb h)
  ·exact h
  ·exact absurd (hb2.trans ha2.symm) (this b a hb ha h)
 have hr:∃r:Nat → Nat,∀a x:Nat,l[a]?=some (x:Int)→r x=a:=by
  classical
  refine ⟨fun x=>if h:∃a,l[a]?=some (x:Int) then Classical.choose h else 0,fun a x h=>?_⟩
  have:∃a,l[a]?=some (x:Int):=⟨a,h⟩
  simp only [dif_pos this]
  exact inj _ _ _ (Classical.choose_spec this) h
 obtain ⟨r,hr⟩:=hr
 refine Qd1 r fun v hv j hj=>?_
 obtain ⟨a,b,h1,h2,h3,h4⟩:=h v hv j hj
 rw [hr a j h3,hr b v h4]
 obtain ⟨c,h5,h6⟩:=hp.inn (j:Int) (List.mem_of_getElem? h3)
 exact ⟨by omega,h1⟩
theorem Qit {n v:Nat} {S:Nat → Nat} {y:Nat}:(rowI n S).set v (y:Int)=rowI n fun u=>if u=v then y else S u:=by
 apply List.ext_getElem
 ·simp [rowI,Kl]
 ·intro k h1 h2
  rw [List.getElem_set]
  simp only [rowI,Kl,List.getElem_map,List.getElem_range]
  by_cases e:v=k
  ·subst e; simp
  ·have:¬ k=v:=fun h=>e h.symm
   simp [e,this]
theorem Qw5 {d:Qd} {m:Int} {n:Nat} (hn:n≤6) (hN:zw (1+(Int.tmod (zw (d.N)) m))=(n:Int)) {l:List Int} (hp:Qd6 n l) (hn1:1≤n) :
  ∃S,Qb fuel (X4 d m l) (0,1,List.replicate n (0:Int))=some (rowI n S)∧Qf4 n l S:=by
 have hlen:∀S,(rowI n S).length=n:=fun S=>Zy
 have inner:∀(j B:Nat) (S:Nat → Nat) (s:Int × List Int),j < n→B≤100→Qf4 n l S→∃r:Int × List Int,Qb fuel (X5 (s.1,(j:Int),s.2) d l) ((B:Int),((0:Nat):Int),rowI n S)=some r∧∃(B':Nat) (S':Nat → Nat),r=((B':Int),rowI n S')∧B'≤B+j∧Qf4 n l S':=fun j B S s hj hB hS =>
  Ks (n:=j) (k0:=0) (by omega) (by omega) (fun i (x:Int × List Int)=>(x.1,i,x.2)) (body:=X5 (s.1,(j:Int),s.2) d l)
   (fun k t=>∃(B':Nat) (S':Nat → Nat),t=((B':Int),rowI n S')∧B'≤B+k∧Qf4 n l S') (fun r=>∃(B':Nat) (S':Nat → Nat),r=((B':Int),rowI n S')∧B'≤B+j∧Qf4 n l S')
   (fun k t _ hk hI=>by
    left
    obtain ⟨B',S',rfl,hB',hS'⟩:=hI
    unfold X5
    try dsimp only
    rw [if_pos (dlt hk),if_pos (Yj B'),Qqy (by omega:B' < 9223372036854775807)]
    split
    ·have hjl:j < l.length:=by rw [hp.len]; exact hj
     have hkl:k < l.length:=by omega
     obtain ⟨v,hv,hv2⟩:=hp.inn l[j] (List.getElem_mem hjl)
     obtain ⟨x,hx,hx2⟩:=hp.inn l[k] (List.getElem_mem hkl)
     rw [Z1 hjl,Option.bind_some,hv2,Xn hv,Option.bind_some,Z1 hkl,Option.bind_some,hx2,if_pos (Yj x),Int.toNat_natCast]
     have hg:=Qsx hp hS'
     have h64:=Qvd (by omega) hg
     rw [Qol (by omega),Qnd (h64 v hv) (Qmz (by omega)),Qit]
     refine ⟨_,rfl,B'+1,_,rfl,by omega,fun u hu y hy=>?_⟩
     try dsimp only at hy
     by_cases e:u=v
     ·subst e
      rw [if_pos rfl,Nat.testBit_or,Qce,Bool.or_eq_true] at hy
      rcases hy with hy | hy
      ·exact hS' u hu y hy
      ·have:=of_decide_eq_true hy
       subst this
       exact ⟨k,j,hk,hj,by rw [List.getElem?_eq_getElem hkl,hx2],by rw [List.getElem?_eq_getElem hjl,hv2]⟩
     ·rw [if_neg e] at hy
      exact hS' u hu y hy
    ·exact ⟨_,rfl,B'+1,S',rfl,by omega,hS'⟩)
   (fun t ht=>by
    obtain ⟨B',S',rfl,hB',hS'⟩:=ht
    unfold X5
    dsimp only
    rw [if_neg (nlt j)]
    exact ⟨_,rfl,B',S',rfl,hB',hS'⟩) ((B:Int),rowI n S) ⟨B,S,rfl,by omega,hS⟩
 have h:=Ks (n:=n) (k0:=1) hn1 (by omega) (fun i (x:Int × List Int)=>(x.1,i,x.2)) (body:=X4 d m l)
  (fun k t=>∃(B':Nat) (S':Nat → Nat),t=((B':Int),rowI n S')∧B'≤6*k∧Qf4 n l S') (fun r=>∃S,r=rowI n S∧Qf4 n l S)
  (fun k t h1 hk hI=>by
   left
   obtain ⟨B',S',rfl,hB',hS'⟩:=hI
   obtain ⟨r,h2,B2,S2,rfl,hB2,hS2⟩:=inner k B' S' ((B':Int),rowI n S') hk (by omega) hS'
   unfold X4
   dsimp only
   try dsimp only at h2
   rw [show ((0:Nat):Int)=0 from rfl] at h2
   rw [hN,if_pos (dlt hk),h2,Option.bind_some]
   exact ⟨_,rfl,B2,S2,rfl,by omega,hS2⟩)
  (fun t ht=>by
   obtain ⟨B',S',rfl,hB',hS'⟩:=ht
   unfold X4
   dsimp only
   rw [hN,if_neg (nlt n)]
   exact ⟨_,rfl,S',rfl,hS'⟩) (0,List.replicate n (0:Int)) ⟨0,fun _=>0,by
    have:List.replicate n (0:Int)=rowI n fun _=>0:=by
     apply List.ext_getElem
     ·simp [rowI,Kl]
     ·intro k h1 h2; simp [rowI,Kl]
    rw [this]; rfl,by omega,fun v _ x hx=>by simp at hx⟩
 obtain ⟨r,h1,S,rfl,h2⟩:=h
 exact ⟨S,h1,h2⟩
theorem Qxo {d:Qd} (hd:Qk8 d) {m:Nat} (hm:1≤m∧m≤6):∃S,Ys d (m:Int)=some (rowI (1+d.N.toNat % m) S)∧Gd (1+d.N.toNat % m) S∧1+d.N.toNat % m≤m:=by
 have hlt:d.N.toNat % m < m:=Nat.mod_lt _ (by omega)
 generalize hn:1+d.N.toNat % m=n at *
 have hN:zw (1+(Int.tmod (zw (d.N)) (m:Int)))=(n:Int):=by
  rw [Qb5 hd.n (by omega),w64 (by omega)]; omega
 obtain ⟨l,h1,h2⟩:=Qwb hd (by omega) hN
 obtain ⟨S,h3,h4⟩:=Qw5 (by omega) hN h2 (by omega)
 refine ⟨S,?_,Qsx h2 h4,by omega⟩
 unfold Ys
 rw [if_pos (by omega),h1,Option.bind_some,hN,if_pos (by omega),Int.toNat_natCast,h3]
 rfl
end Go.Ab
namespace Go.Ab
open Go
theorem Ql6 {cs:List AV} (h:WT (.int .u8) cs):∃a:Int,cs=[(AV.int .u8) a]∧(Lit.int .u8 a).wf=true:=by
 obtain ⟨n,rfl,w⟩:=h
 exact ⟨n,rfl,w⟩
theorem Q4i {cs:List AV} (h:WT (.cat (.int .u8) (.cat (.int .u8) (.cat (.int .u8) (.cat (.int .u8) (.cat (.int .u8) (.cat (.int .u8) .unit)))))) cs):∃x:(Int × Int × Int × Int × Int × Int),AV.agg cs=(fun x:(Int × Int × Int × Int × Int × Int)=>AV.agg [.int .u8 x.1,.int .u8 x.2.1,.int .u8 x.2.2.1,.int .u8 x.2.2.2.1,.int .u8 x.2.2.2.2.1,.int .u8 x.2.2.2.2.2]) x∧((Lit.int .u8 x.1).wf=true∧(Lit.int .u8 x.2.1).wf=true∧(Lit.int .u8 x.2.2.1).wf=true∧(Lit.int .u8 x.2.2.2.1).wf=true∧(Lit.int .u8 x.2.2.2.2.1).wf=true∧(Lit.int .u8 x.2.2.2.2.2).wf=true):=by
 obtain ⟨_,_,rfl,a0,r0⟩:=h
 obtain ⟨v0,e0,w0⟩:=Ql6 a0
 cases e0
 obtain ⟨_,_,rfl,a1,r1⟩:=r0
 obtain ⟨v1,e1,w1⟩:=Ql6 a1
 cases e1
 obtain ⟨_,_,rfl,a2,r2⟩:=r1
 obtain ⟨v2,e2,w2⟩:=Ql6 a2
 cases e2
 obtain ⟨_,_,rfl,a3,r3⟩:=r2
 obtain ⟨v3,e3,w3⟩:=Ql6 a3
 cases e3
 obtain ⟨_,_,rfl,a4,r4⟩:=r3
 obtain ⟨v4,e4,w4⟩:=Ql6 a4
 cases e4
 obtain ⟨_,_,rfl,a5,r5⟩:=r4
 obtain ⟨v5,e5,w5⟩:=Ql6 a5
 cases e5
 cases r5
 exact ⟨(v0,v1,v2,v3,v4,v5),rfl,⟨w0,w1,w2,w3,w4,w5⟩⟩
theorem Q4c {cs:List AV} (h:WT (.int .u16) cs):∃a:Int,cs=[(AV.int .u16) a]∧(Lit.int .u16 a).wf=true:=by
 obtain ⟨n,rfl,w⟩:=h
 exact ⟨n,rfl,w⟩
def V9 (x:Qd):Prop:=((Lit.int .u8 x.N).wf=true)∧(((Lit.int .u8 x.Order.1).wf=true∧(Lit.int .u8 x.Order.2.1).wf=true∧(Lit.int .u8 x.Order.2.2.1).wf=true∧(Lit.int .u8 x.Order.2.2.2.1).wf=true∧(Lit.int .u8 x.Order.2.2.2.2.1).wf=true∧(Lit.int .u8 x.Order.2.2.2.2.2).wf=true))∧((Lit.int .u16 x.Edges).wf=true)
theorem rdTharuspexref31_Draft {cs:List AV} (h:WT (.cat (.int .u8) (.cat (.cat (.int .u8) (.cat (.int .u8) (.cat (.int .u8) (.cat (.int .u8) (.cat (.int .u8) (.cat (.int .u8) .unit)))))) (.cat (.int .u16) .unit))) cs):∃x:Qd,AV.agg cs=eTharuspexref31_Draft x∧V9 x:=by
 obtain ⟨_,_,rfl,a0,r0⟩:=h
 obtain ⟨v0,e0,w0⟩:=Ql6 a0
 cases e0
 obtain ⟨_,_,rfl,a1,r1⟩:=r0
 obtain ⟨v1,e1,w1⟩:=Q4i a1
 cases e1
 obtain ⟨_,_,rfl,a2,r2⟩:=r1
 obtain ⟨v2,e2,w2⟩:=Q4c a2
 cases e2
 cases r2
 exact ⟨⟨v0,v1,v2⟩,rfl,⟨w0,w1,w2⟩⟩
end Go.Ab
namespace Go.Ab
open Go
set_option maxRecDepth 100000
set_option maxHeartbeats 1000000
theorem Q4n {n:Int} (h:(Lit.int .u8 n).wf=true):0≤n∧n≤255:=by
 simpa [Lit.wf,IntKind.min,IntKind.max,IntKind.bits,IntKind.signed] using h
theorem wf8 {n:Int} (h:(Lit.int .u8 n).wf=true):0≤n∧n < 256:=by have:=Q4n h; omega
theorem Qys:Qde=some true:=by kernel_rfl
theorem Q1t {n:Nat} {N:Nat → Nat → Bool} {p:Int × Int}:p∈prs n N↔∃i j:Nat,i < j∧j < n∧N i j=true∧p=((i:Int),(j:Int)):=by
 unfold prs
 rw [X1]
 constructor
 ·rintro ⟨i,_,h2,h3⟩
  obtain ⟨j,h4,h5,h6⟩:=(X1 _).1 h3
  split at h6
  ·rename_i hN
   exact ⟨i,j,by omega,by omega,hN,List.mem_singleton.1 h6⟩
  ·cases h6
 ·rintro ⟨i,j,h1,h2,h3,rfl⟩
  refine ⟨i,by omega,by omega,(X1 _).2 ⟨j,by omega,by omega,?_⟩⟩
  rw [if_pos h3]; simp
theorem Q2i {n:Nat} {S:Nat → Nat} (hn:n≤7) (h:L64 n S) :
  ((n≤6∧Gd n S)∧Qao (rowI n S) 6=some true∧Qs (rowI n S)=some 0∧Z4 (rowI n S)=some (prs n (near S),0)∧Xx (rowI n S)=some (cls n S,0)) ∨
  (Qao (rowI n S) 6=some false∧Qs (rowI n S)=some 310∧Z4 (rowI n S)=some ([],310)∧Xx (rowI n S)=some ([],310)):=by
 obtain ⟨c,hc,hc2⟩:=Qxf hn h
 obtain ⟨d,hd,hd2⟩:=Qkj (m:=6) hn h
 have e:d=c:=by rw [Bool.eq_iff_iff,hc2,hd2]
 subst e
 cases d with
 | true =>
  left
  obtain ⟨h1,h2⟩:=hc2.1 rfl
  refine ⟨⟨h1.2,h2⟩,hd,hc,?_,?_⟩
  ·unfold Z4
   rw [hc,Option.bind_some,if_neg (by simp),Vj h1.2 h2,Option.bind_some]
   show (Q9 ⟨(n:Int),Qh (mI (nrN n S))⟩).bind _=_
   rw [Qsy h1.2]; rfl
  ·unfold Xx
   rw [hc,Option.bind_some,if_neg (by simp),V0 h1.2 h2]; rfl
 | false =>
  right
  refine ⟨hd,hc,?_,?_⟩
  ·unfold Z4
   rw [hc]; rfl
  ·unfold Xx
   rw [hc]; rfl
theorem Qyd {d:Qd} (h:V9 d):Qk8 d:=by
 obtain ⟨h0,⟨h1,h2,h3,h4,h5,h6⟩,_⟩:=h
 exact ⟨wf8 h0,wf8 h1,wf8 h2,wf8 h3,wf8 h4,wf8 h5,wf8 h6⟩
end Go.Ab
namespace Go.Ab
open Go
set_option maxRecDepth 100000
set_option maxHeartbeats 1000000
def eqv (n m:Nat) (S T:Nat → Nat):Bool:=decide (n=m∧prs n (near S)=prs m (near T)∧cls n S=cls m T)
theorem near_symm {S:Nat → Nat} {u w:Nat}:near S u w=near S w u:=by unfold near; exact Bool.or_comm _ _
theorem Qj7 {n:Nat} {S:Nat → Nat} (h:Gd n S) {u:Nat} (hu:u < n):near S u u=false:=by
 have:(S u).testBit u=false:=Bool.eq_false_iff.2 fun e=>h.acyc u hu (Qr5 n u e)
 unfold near; rw [this]; rfl
theorem Qsz {n:Nat} {S T:Nat → Nat} (hS:Gd n S) (hT:Gd n T):prs n (near S)=prs n (near T)↔∀u w,u < n→w < n→near S u w=near T u w:=by
 constructor
 ·intro h
  have key:∀u w,u < w→w < n→near S u w=near T u w:=fun u w h1 h2=>by
   have e:∀N,((u:Int),(w:Int))∈prs n N↔N u w=true:=fun N=>by
    rw [Q1t]
    constructor
    ·rintro ⟨i,j,_,_,h5,h6⟩
     have e1:u=i:=by have:=congrArg Prod.fst h6; exact Int.ofNat_inj.1 this
     have e2:w=j:=by have:=congrArg Prod.snd h6; exact Int.ofNat_inj.1 this
     rw [e1,e2]; exact h5
    ·intro h5; exact ⟨u,w,h1,h2,h5,rfl⟩
   rw [Bool.eq_iff_iff,←e (near S),←e (near T),h]
  intro u w hu hw
  rcases Nat.lt_trichotomy u w with h1 | h1 | h1
  ·exact key u w h1 hw
  ·subst h1; rw [Qj7 hS hu,Qj7 hT hu]
  ·rw [near_symm,near_symm (S:=T)]; exact key w u h1 hu
 ·intro h
  unfold prs
  exact Zh n fun i _ hi=>Zh _ fun j h1 h2=>by rw [h i j (by omega) (by omega)]
theorem Qt3 {n:Nat} {S:Nat → Nat} (h:Gd n S) {u w:Nat} (hn:¬ (u < n∧w < n)):nrN n S u w=false:=by
 unfold nrN
 have key:∀a b,¬ (a < n∧b < n)→(decide (a < n) && (S a).testBit b)=false:=fun a b hab=>by
  by_cases ha:a < n
  ·have:(S a).testBit b=false:=Bool.eq_false_iff.2 fun e=>hab ⟨ha,h.inn a ha b e⟩
   rw [this]; simp
  ·simp [ha]
 rw [key u w hn,key w u (fun e=>hn ⟨e.2,e.1⟩)]; rfl
theorem Qsw {n:Nat} {S T:Nat → Nat} (hn:n≤6) (hS:Gd n S) (hT:Gd n T):Qh (mI (nrN n S))=Qh (mI (nrN n T))↔prs n (near S)=prs n (near T):=by
 rw [Qsz hS hT]
 constructor
 ·intro h u w hu hw
  have key:∀i,i < 6→mI (nrN n S) i=mI (nrN n T) i:=fun i hi=>by
   unfold Qh at h
   simp only [Prod.mk.injEq] at h
   have hi':i=0∨i=1∨i=2∨i=3∨i=4∨i=5:=by omega
   rcases hi' with rfl | rfl | rfl | rfl | rfl | rfl
   ·exact h.1
   ·exact h.2.1
   ·exact h.2.2.1
   ·exact h.2.2.2.1
   ·exact h.2.2.2.2.1
   ·exact h.2.2.2.2.2
  have h1:=key u (by omega)
  unfold mI at h1
  have h2:=Qz7 (Int.ofNat_inj.1 h1) w (by omega)
  rwa [Qas hu hw,Qas hu hw] at h2
 ·intro h
  refine Qmp fun u w _ _=>?_
  by_cases hb:u < n∧w < n
  ·rw [Qas hb.1 hb.2,Qas hb.1 hb.2]; exact h u w hb.1 hb.2
  ·rw [Qt3 hS hb,Qt3 hT hb]
theorem Q1x {n m:Int} {X Y:Nat → Int} :
  ((n==m) && (((Qh X).1==(Qh Y).1) && (((Qh X).2.1==(Qh Y).2.1) && (((Qh X).2.2.1==(Qh Y).2.2.1) && (((Qh X).2.2.2.1==(Qh Y).2.2.2.1) && (((Qh X).2.2.2.2.1==(Qh Y).2.2.2.2.1) && (((Qh X).2.2.2.2.2==(Qh Y).2.2.2.2.2) && true)))))))=decide (n=m∧Qh X=Qh Y):=by
 rw [Bool.eq_iff_iff]
 simp only [Bool.and_eq_true,beq_iff_eq,decide_eq_true_eq,Bool.and_true]
 unfold Qh
 simp only [Prod.mk.injEq]
theorem Qwz {n m:Nat} {S T:Nat → Nat} (hn:n≤6) (hS:Gd n S) (hm:m≤6) (hT:Gd m T) (c1:Qs (rowI n S)=some 0) (c2:Qs (rowI m T)=some 0):Va (rowI n S) (rowI m T)=some (eqv n m S T,0):=by
 unfold Va
 rw [c1,Option.bind_some,if_neg (by simp),c2,Option.bind_some,if_neg (by simp),Vj hn hS,Option.bind_some,Vj hm hT,Option.bind_some]
 dsimp only
 rw [Q1x]
 by_cases e:n=m
 ·subst e
  by_cases h:prs n (near S)=prs n (near T)
  ·rw [if_pos (decide_eq_true ⟨rfl,(Qsw hn hS hT).2 h⟩),V0 hn hS,Option.bind_some,V0 hm hT,Option.bind_some,Qm3 (by have:=Qoy (S:=S) (show n≤7 by omega); omega),Option.bind_some]
   unfold eqv
   simp [h]
  ·rw [if_neg (by simp only [decide_eq_true_eq,not_and]; exact fun _ e=>h ((Qsw hn hS hT).1 e))]
   unfold eqv
   simp [h]
 ·rw [if_neg (by simp only [decide_eq_true_eq,not_and]; exact fun h=>absurd (Int.ofNat_inj.1 h) e)]
  unfold eqv
  simp [e]
end Go.Ab
namespace Go.Ab
open Go
set_option maxRecDepth 100000
set_option maxHeartbeats 1000000
theorem Qa2 {n:Nat} {S:Nat → Nat} (h:Gd n S):∃r:Nat → Nat,∀v,v < n→∀j,(S v).testBit j=true→r j < r v:=by
 have e:=Qm8.2 h
 obtain ⟨h1,r,M,h2,h3⟩:=Qnu (n:=n) (S:=S) n
 have hall:=(Ql7 h1).1 e
 exact ⟨r,fun v hv j hj=>(h3 v (hall v hv) j hj).2⟩
def Vf (S:Nat → Nat) (a b c:Nat):Bool:=(S b).testBit a && (S b).testBit c && !near S a c
theorem Qha {n:Nat} {S:Nat → Nat} {p:Int × Int × Int}:p∈cls n S↔∃a b c:Nat,a < c∧c < n∧b < n∧Vf S a b c=true∧p=((a:Int),(b:Int),(c:Int)):=by
 unfold cls
 rw [X1]
 constructor
 ·rintro ⟨a,_,ha,h⟩
  obtain ⟨b,_,hb,h⟩:=(X1 _).1 h
  obtain ⟨c,hc,hc2,h⟩:=(X1 _).1 h
  split at h
  ·rename_i hN
   exact ⟨a,b,c,by omega,by omega,by omega,hN,List.mem_singleton.1 h⟩
  ·cases h
 ·rintro ⟨a,b,c,h1,h2,h3,h4,rfl⟩
  refine ⟨a,by omega,by omega,(X1 _).2 ⟨b,by omega,by omega,(X1 _).2 ⟨c,by omega,by omega,?_⟩⟩⟩
  unfold Vf at h4
  rw [if_pos h4]; simp
theorem Qg2 {n:Nat} {S T:Nat → Nat}:cls n S=cls n T↔∀a b c,a < c→c < n→b < n→Vf S a b c=Vf T a b c:=by
 constructor
 ·intro h a b c h1 h2 h3
  have e:∀U,((a:Int),(b:Int),(c:Int))∈cls n U↔Vf U a b c=true:=fun U=>by
   rw [Qha]
   constructor
   ·rintro ⟨a',b',c',_,_,_,h5,h6⟩
    simp only [Prod.mk.injEq,Int.ofNat_inj] at h6
    obtain ⟨rfl,rfl,rfl⟩:=h6
    exact h5
   ·intro h5; exact ⟨a,b,c,h1,h2,h3,h5,rfl⟩
  rw [Bool.eq_iff_iff,←e S,←e T,h]
 ·intro h
  unfold cls
  refine Zh n fun a _ ha=>Zh n fun b _ hb=>Zh _ fun c h1 h2=>?_
  have:=h a b c (by omega) (by omega) (by omega)
  unfold Vf at this
  rw [this]
theorem colB_symm {S:Nat → Nat} {a b c:Nat}:Vf S a b c=Vf S c b a:=by
 unfold Vf; rw [near_symm,Bool.and_comm ((S b).testBit a)]
theorem Qom {n:Nat} {S T:Nat → Nat} (h:cls n S=cls n T) (hS:Gd n S) (hT:Gd n T) {a b c:Nat} (hac:a≠c) (ha:a < n) (hc:c < n) (hb:b < n):Vf S a b c=Vf T a b c:=by
 rcases Nat.lt_or_gt_of_ne hac with h1 | h1
 ·exact Qg2.1 h a b c h1 hc hb
 ·rw [colB_symm,colB_symm (S:=T)]; exact Qg2.1 h c b a h1 ha hb
section
variable {n i j:Nat} {S:Nat → Nat} (hn:n≤7) (h:Gd n S) (hi:i < n) (hj:j < n) (hij:i≠j) (he:(S j).testBit i=true)
include hn h hi hj hij he
end
theorem Qr8 {n:Nat} {S T:Nat → Nat} (h:rowI n S=rowI n T) {v:Nat} (hv:v < n):S v=T v:=by
 have h1:=Xn (n:=n) (w:=S) hv
 rw [h,Xn hv] at h1
 exact (Int.ofNat_inj.1 (Option.some.inj h1)).symm
end Go.Ab
namespace Go.Ab
open Go
set_option maxRecDepth 100000
set_option maxHeartbeats 1000000
def Xe (n:Nat) (N:Nat → Nat → Bool):List (Nat × Nat):=apL (fun i=>apL (fun j=>if N i j=true then [(i,j)] else []) (i+1) (n - (i+1))) 0 n
def pI (p:Nat × Nat):Int × Int:=((p.1:Int),(p.2:Int))
theorem Qor {α β:Type} (f:α→β) {L:Nat → List α} {k0:Nat}:∀j,(apL L k0 j).map f=apL (fun i=>(L i).map f) k0 j
 | 0=>rfl
 | j+1=>by simp only [apL,List.map_append,Qor f j]
theorem Qua {n:Nat} {N:Nat → Nat → Bool}:prs n N=(Xe n N).map pI:=by
 unfold prs Xe
 rw [Qor]
 refine Zh n fun i _ _=>?_
 rw [Qor]
 refine Zh _ fun j _ _=>?_
 split <;> rfl
theorem Vp {n:Nat} {N:Nat → Nat → Bool} {p:Nat × Nat}:p∈Xe n N↔p.1 < p.2∧p.2 < n∧N p.1 p.2=true:=by
 unfold Xe
 rw [X1]
 constructor
 ·rintro ⟨i,_,h2,h3⟩
  obtain ⟨j,h4,h5,h6⟩:=(X1 _).1 h3
  split at h6
  ·rename_i hN
   rw [List.mem_singleton.1 h6]
   exact ⟨by omega,by omega,hN⟩
  ·cases h6
 ·rintro ⟨h1,h2,h3⟩
  refine ⟨p.1,by omega,by omega,(X1 _).2 ⟨p.2,by omega,by omega,?_⟩⟩
  rw [if_pos h3]; simp
theorem Qj5 {α:Type} {L:Nat → List α} {k0:Nat} (h:∀i,(L i).Nodup) (hd:∀i i',i≠i'→∀x,x∈L i→x ∉ L i'):∀j,(apL L k0 j).Nodup
 | 0=>List.nodup_nil
 | j+1=>by
  simp only [apL]
  rw [List.nodup_append]
  refine ⟨Qj5 h hd j,h _,fun a ha b hb e=>?_⟩
  subst e
  obtain ⟨i,h1,h2,h3⟩:=(X1 _).1 ha
  exact hd i (k0+j) (by omega) a h3 hb
theorem Qve {n:Nat} {N:Nat → Nat → Bool}:(Xe n N).Nodup:=by
 refine Qj5 (fun i=>Qj5 (fun j=>by split <;> simp) (fun j j' hj x h1 h2=>?_) _) (fun i i' hi x h1 h2=>?_) n
 ·split at h1 <;> split at h2 <;> simp at h1 h2
  rw [h1] at h2; simp at h2; exact hj h2
 ·obtain ⟨j,_,_,h3⟩:=(X1 _).1 h1
  obtain ⟨j',_,_,h4⟩:=(X1 _).1 h2
  split at h3 <;> split at h4 <;> simp at h3 h4
  rw [h3] at h4; simp at h4; exact hi h4.1
theorem Qr3 {n:Nat} {N:Nat → Nat → Bool} (hn:n≤5):(Xe n N).length≤10:=by
 have hb:∀i,i < n→(apL (fun j=>if N i j=true then [(i,j)] else []) (i+1) (n - (i+1))).length≤4 - i:=fun i hi=>by
  have:=Yb (L:=fun j=>if N i j=true then [(i,j)] else []) (k0:=i+1) (m:=1) (fun _=>Qbl) (n - (i+1)); omega
 have key:∀j,j≤n→(apL (fun i=>apL (fun j=>if N i j=true then [(i,j)] else []) (i+1) (n - (i+1))) 0 j).length*2≤j*(9 - j):=by
  intro j
  induction j with
  | zero=>intro _; simp [apL]
  | succ j ih =>
   intro hj
   have h1:=ih (by omega)
   have h2:=hb j (by omega)
   simp only [apL,List.length_append,Nat.zero_add]
   have hj':j=0∨j=1∨j=2∨j=3∨j=4:=by omega
   rcases hj' with rfl | rfl | rfl | rfl | rfl <;> omega
 have:=key n (Nat.le_refl _)
 unfold Xe
 have hn':n=0∨n=1∨n=2∨n=3∨n=4∨n=5:=by omega
 rcases hn' with rfl | rfl | rfl | rfl | rfl | rfl <;> omega
def orR (P:List (Nat × Nat)) (t:Nat):Nat → Nat → Nat → Bool
 | 0,_,_=>false
 | k+1,u,w=>orR P t k u w || (match P[k]? with | some p=>if t.testBit k=true then decide (u=p.1) && decide (p.2=w) else decide (u=p.2) && decide (p.1=w) | none=>false)
theorem Qoz {P:List (Nat × Nat)} {t:Nat}:∀{k u w:Nat},orR P t k u w=true↔∃i,i < k∧((P[i]?=some (u,w)∧t.testBit i=true)∨(P[i]?=some (w,u)∧t.testBit i=false))
 | 0,u,w=>by simp [orR]
 | k+1,u,w=>by
  simp only [orR,Bool.or_eq_true]
  rw [Qoz (k:=k)]
  constructor
  ·rintro (⟨i,h1,h2⟩ | h)
   ·exact ⟨i,by omega,h2⟩
   ·refine ⟨k,by omega,?_⟩
    cases hp:P[k]? with
    | none=>rw [hp] at h; cases h
    | some p =>
     rw [hp] at h
     obtain ⟨a,b⟩:=p
     dsimp only at h
     split at h
     ·rename_i hb
      simp only [Bool.and_eq_true,decide_eq_true_eq] at h
      exact .inl ⟨by rw [h.1,h.2],hb⟩
     ·rename_i hb
      simp only [Bool.and_eq_true,decide_eq_true_eq] at h
      exact .inr ⟨by rw [h.1,h.2],Bool.eq_false_iff.2 hb⟩
  ·rintro ⟨i,h1,h2⟩
   by_cases e:i=k
   ·subst e
    right
    rcases h2 with ⟨h3,h4⟩ | ⟨h3,h4⟩ <;> rw [h3] <;> simp [h4]
   ·exact .inl ⟨i,by omega,h2⟩
def oG (n:Nat) (P:List (Nat × Nat)) (t k:Nat):Nat → Nat := fun u=>msk n (orR P t k u)
theorem Q2c {n:Nat} {P:List (Nat × Nat)} {t k u w:Nat} (hP:∀p∈P,p.1 < n∧p.2 < n):(oG n P t k u).testBit w=orR P t k u w:=by
 unfold oG
 rw [Zs]
 by_cases h:w < n
 ·simp [h]
 ·have:orR P t k u w=false:=by
   rw [Bool.eq_false_iff]
   intro hc
   revert hc
   rw [Qoz]
   rintro ⟨i,_,⟨h1,_⟩ | ⟨h1,_⟩⟩
   ·exact h (hP _ (List.mem_of_getElem? h1)).2
   ·exact h (hP _ (List.mem_of_getElem? h1)).1
  simp [h,this]
theorem Qxp {n:Nat} {P:List (Nat × Nat)} {t k:Nat} (hn:n≤10):L64 n (oG n P t k):=fun v _=>Q20 hn (msk_lt n _)
theorem Q1k {n:Nat} {P:List (Nat × Nat)} {t k a b:Nat} (hp:P[k]?=some (a,b)) (ha:a < n) (hb:b < n) (hab:a≠b) :
  oG n P t (k+1)=if t.testBit k=true then (fun u=>if u=a then oG n P t k u ||| 2^b else oG n P t k u) else (fun u=>if u=b then oG n P t k u ||| 2^a else oG n P t k u):=by
 have key:∀u c,c < n→msk n (fun w=>orR P t k u w || decide (c=w))=oG n P t k u ||| 2^c:=fun u c hc=>by
  symm
  refine Qj4 (Nat.or_lt_two_pow (msk_lt n _) (Nat.pow_lt_pow_right (by omega) hc)) fun i hi=>?_
  unfold oG
  rw [Nat.testBit_or,Zs,Qce]
  simp [hi]
 split
 ·rename_i hb2
  funext u
  split
  ·rename_i e
   rw [←key u b hb]
   unfold oG
   refine Ko fun w _=>?_
   simp only [orR,hp,hb2,if_true,e,decide_true,Bool.true_and]
  ·rename_i e
   unfold oG
   refine Ko fun w _=>?_
   simp only [orR,hp,hb2,if_true,e,decide_false,Bool.false_and,Bool.or_false]
 ·rename_i hb2
  funext u
  split
  ·rename_i e
   rw [←key u a ha]
   unfold oG
   refine Ko fun w _=>?_
   simp [orR,hp,hb2,e]
  ·rename_i e
   unfold oG
   refine Ko fun w _=>?_
   simp [orR,hp,hb2,e]
theorem Q4d {a k:Nat} (ha:a < 1000000) (hk:k < 64) :
  zw (BitVec.ofInt (IntKind.bits .i64) (Int.fdiv (a:Int) (2^min (Int.toNat (k:Int)) (IntKind.bits .i64))) &&& BitVec.ofInt (IntKind.bits .i64) 1).toNat = ((a.testBit k).toNat : Int):=by
 have hb:IntKind.bits .i64=64:=rfl
 have e0:min (Int.toNat (k:Int)) (IntKind.bits .i64)=k:=by rw [hb,Int.toNat_natCast]; omega
 rw [e0,Ql4]
 have h1:a / 2^k < 1000000:=Nat.lt_of_le_of_lt (Nat.div_le_self _ _) ha
 have hbv:(BitVec.ofInt (IntKind.bits .i64) ((a / 2^k:Nat):Int)).toNat = a / 2^k:=by
  show (BitVec.ofInt 64 ((a / 2^k:Nat):Int)).toNat = a / 2^k
  rw [BitVec.ofInt_natCast,BitVec.toNat_ofNat]
  exact Nat.mod_eq_of_lt (by omega)
 have e1:(BitVec.ofInt (IntKind.bits .i64) ((a / 2^k:Nat):Int) &&& BitVec.ofInt (IntKind.bits .i64) 1).toNat = (a / 2^k) % 2:=by
  rw [BitVec.toNat_and,hbv,show (BitVec.ofInt (IntKind.bits .i64) 1).toNat = 1 from rfl,Nat.and_one_is_mod]
 rw [e1,w64 (by omega)]
 have e2:a.testBit k=((a / 2^k) % 2==1):=by rw [Nat.testBit_eq_decide_div_mod_eq]; rfl
 rw [e2]
 rcases Nat.mod_two_eq_zero_or_one (a / 2^k) with h | h <;> rw [h] <;> rfl
theorem Q19 {k:Nat} (hk:k≤15):zw (1*2^min (Int.toNat (k:Int)) (IntKind.bits .i64))=((2^k:Nat):Int):=by
 have hb:IntKind.bits .i64=64:=rfl
 have e0:min (Int.toNat (k:Int)) (IntKind.bits .i64)=k:=by rw [hb,Int.toNat_natCast]; omega
 have:(2:Nat)^k≤2^15:=Nat.pow_le_pow_right (by omega) hk
 have e2:(1:Int)*2^k=((2^k:Nat):Int):=by simp
 rw [e0,e2]
 generalize (2:Nat)^k=m at *
 rw [w64 (by omega)]
theorem Qy3 {n k:Nat} {P:List (Nat × Nat)} {t:Nat}:List.replicate n (0:Int)=rowI n (oG n P t 0):=by
 apply List.ext_getElem
 ·simp [rowI,Kl]
 ·intro k h1 h2
  have e:∀u,oG n P t 0 u=0:=fun u=>by
   unfold oG
   rw [show orR P t 0 u=fun _=>false from rfl]
   have:∀m,msk m (fun _=>false)=0:=fun m=>by
    induction m with
    | zero=>rfl
    | succ m ih=>simp [msk,ih]
   exact this n
  simp [rowI,Kl,e]
theorem Qtg {n t:Nat} {P:List (Nat × Nat)} (hn:n≤10) (hl:P.length≤15) (ht:t < 1000000) (hP:∀p∈P,p.1 < p.2∧p.2 < n) {body:Int × List Int→Option (Qf (Int × List Int) (List Int))}
  (hb:∀s:Int × List Int,body s=if (decide (s.1 < ((P.map pI).length:Int)))=true then (lkI (P.map pI) s.1).bind fun a7 =>
   if 0≤s.1 then
    if ((zw (BitVec.ofInt (IntKind.bits .i64) (Int.fdiv (t:Int) (2^min (Int.toNat s.1) (IntKind.bits .i64))) &&& BitVec.ofInt (IntKind.bits .i64) 1).toNat)==1)=true then
     (lkI s.2 a7.1).bind fun a11=>if 0≤a7.2 then some (.next (zw (s.1+1),(List.set s.2 (Int.toNat a7.1) (zv (zb a11 ||| zb (zv (1*2^min (Int.toNat a7.2) (IntKind.bits .u64)))).toNat)))) else none
    else (lkI s.2 a7.2).bind fun a14=>if 0≤a7.1 then some (.next (zw (s.1+1),(List.set s.2 (Int.toNat a7.2) (zv (zb a14 ||| zb (zv (1*2^min (Int.toNat a7.1) (IntKind.bits .u64)))).toNat)))) else none
   else none
   else some (.done s.2)):Qb fuel body (0,List.replicate n (0:Int))=some (rowI n (oG n P t P.length)):=by
 have hlen:(P.map pI).length=P.length:=List.length_map _
 have h:=Yt (n:=P.length) (k0:=0) (by omega) (by omega) (fun i (x:List Int)=>(i,x)) (body:=body) (fun k=>rowI n (oG n P t k)) (rowI n (oG n P t P.length))
  (fun k _ hk=>by
   have h64:L64 n (oG n P t k):=Qxp hn
   obtain ⟨h1,h2⟩:=hP P[k] (List.getElem_mem hk)
   have hp:P[k]?=some (P[k].1,P[k].2):=List.getElem?_eq_getElem hk
   rw [hb]
   dsimp only
   rw [hlen,if_pos (dlt hk),Z1 (by rw [hlen]; exact hk),Option.bind_some,if_pos (Yj k),Q4d ht (by omega),List.getElem_map]
   rw [Q1k hp (by omega) h2 (by omega)]
   unfold pI
   dsimp only
   by_cases hb2:t.testBit k=true
   ·rw [if_pos (by rw [hb2]; rfl),Xn (by omega),Option.bind_some,if_pos (Yj _),Qol (by omega),Qnd (h64 _ (by omega)) (Qmz (by omega)),Int.toNat_natCast,Qit,if_pos hb2]
    congr 5
    funext u
    split
    ·rename_i e; rw [e]
    ·rfl
   ·rw [if_neg (by rw [Bool.eq_false_iff.2 hb2]; decide),Xn h2,Option.bind_some,if_pos (Yj _),Qol (by omega),Qnd (h64 _ h2) (Qmz (by omega)),Int.toNat_natCast,Qit,if_neg hb2]
    congr 5
    funext u
    split
    ·rename_i e; rw [e]
    ·rfl)
  (by rw [hb]; dsimp only; rw [hlen,if_neg (nlt _)])
 rw [show ((0:Nat):Int)=0 from rfl,←Qy3 (k:=0)] at h
 exact h
end Go.Ab
namespace Go.Ab
open Go
set_option maxRecDepth 100000
set_option maxHeartbeats 1000000
section
variable {n:Nat} {S:Nat → Nat}
def mG (n:Nat) (S:Nat → Nat) (t:Nat):Nat → Nat := oG n (Xe n (near S)) t (Xe n (near S)).length
def gdB (n:Nat) (T:Nat → Nat):Bool:=pls n T n==2^n - 1
theorem Qoi {T:Nat → Nat}:gdB n T=true↔Gd n T:=by unfold gdB; rw [beq_iff_eq]; exact Qm8
theorem Q1v {p:Nat × Nat} (h:p∈Xe n (near S)):p.1 < n∧p.2 < n:=by
 have:=Vp.1 h
 omega
theorem Qgy {t u w:Nat}:(mG n S t u).testBit w=true↔∃i,((Xe n (near S))[i]?=some (u,w)∧t.testBit i=true)∨((Xe n (near S))[i]?=some (w,u)∧t.testBit i=false):=by
 unfold mG
 rw [Q2c fun p hp=>Q1v hp,Qoz]
 constructor
 ·rintro ⟨i,_,h⟩; exact ⟨i,h⟩
 ·rintro ⟨i,h⟩
  refine ⟨i,?_,h⟩
  rcases h with ⟨h,_⟩ | ⟨h,_⟩ <;> exact (List.getElem?_eq_some_iff.1 h).1
theorem Q1d {t u w:Nat} (hS:Gd n S) (hu:u < n) (hw:w < n):near (mG n S t) u w=near S u w:=by
 have key:∀u w,u < w→w < n→near (mG n S t) u w=near S u w:=fun u w h1 h2=>by
  rw [Bool.eq_iff_iff]
  constructor
  ·intro h
   have hmem:∀a b:Nat,(mG n S t a).testBit b=true→near S a b=true:=fun a b hb=>by
    obtain ⟨i,⟨h,_⟩ | ⟨h,_⟩⟩:=Qgy.1 hb
    ·exact (Vp.1 (List.mem_of_getElem? h)).2.2
    ·rw [near_symm]; exact (Vp.1 (List.mem_of_getElem? h)).2.2
   unfold near at h
   rw [Bool.or_eq_true] at h
   rcases h with h | h
   ·exact hmem u w h
   ·rw [near_symm]; exact hmem w u h
  ·intro h
   obtain ⟨i,hi⟩:=List.mem_iff_getElem?.1 ((Vp (p:=(u,w))).2 ⟨h1,h2,h⟩)
   unfold near
   rw [Bool.or_eq_true]
   cases hb:t.testBit i with
   | true=>exact .inl (Qgy.2 ⟨i,.inl ⟨hi,hb⟩⟩)
   | false=>exact .inr (Qgy.2 ⟨i,.inr ⟨hi,hb⟩⟩)
 rcases Nat.lt_trichotomy u w with h | h | h
 ·exact key u w h hw
 ·subst h
  rw [Qj7 hS hu]
  rw [Bool.eq_false_iff]
  intro hb
  unfold near at hb
  rw [Bool.or_self] at hb
  obtain ⟨i,⟨h,_⟩ | ⟨h,_⟩⟩:=Qgy.1 hb <;> have:=(Vp.1 (List.mem_of_getElem? h)).1 <;> simp at this
 ·rw [near_symm,near_symm (S:=S)]; exact key w u h hu
theorem Q3v {T:Nat → Nat} (hS:Gd n S) (hT:Gd n T) (h:∀u w,u < n→w < n→near T u w=near S u w):∃t,t < 2^(Xe n (near S)).length∧rowI n (mG n S t)=rowI n T:=by
 refine ⟨msk (Xe n (near S)).length fun k=>match (Xe n (near S))[k]? with | some p=>(T p.1).testBit p.2 | none=>false,msk_lt _ _,?_⟩
 have hbit:∀i p,(Xe n (near S))[i]?=some p→(msk (Xe n (near S)).length fun k=>match (Xe n (near S))[k]? with | some p=>(T p.1).testBit p.2 | none=>false).testBit i=(T p.1).testBit p.2:=fun i p hp=>by
  rw [Zs,hp]
  have:=(List.getElem?_eq_some_iff.1 hp).1
  simp [this]
 generalize (msk (Xe n (near S)).length fun k=>match (Xe n (near S))[k]? with | some p=>(T p.1).testBit p.2 | none=>false)=t at *
 obtain ⟨r,hr⟩:=Qa2 hT
 unfold rowI Kl
 refine List.map_congr_left fun u hu=>?_
 have hu:=List.mem_range.1 hu
 congr 1
 apply Nat.eq_of_testBit_eq
 intro w
 rw [Bool.eq_iff_iff,Qgy]
 constructor
 ·rintro ⟨i,⟨h1,h2⟩ | ⟨h1,h2⟩⟩
  ·rw [hbit i _ h1] at h2; exact h2
  ·rw [hbit i _ h1] at h2
   obtain ⟨h3,h4,h5⟩:=Vp.1 (List.mem_of_getElem? h1)
   dsimp only at h2 h3 h4 h5
   rw [←h w u (by omega) hu] at h5
   unfold near at h5
   rw [h2] at h5
   simpa using h5
 ·intro hb
  have hw:=hT.inn u hu w hb
  have hn:near S u w=true:=by rw [←h u w hu hw]; unfold near; rw [hb]; rfl
  have hne:u≠w:=fun e=>by subst e; have:=hr u hu u hb; omega
  rcases Nat.lt_or_gt_of_ne hne with h1 | h1
  ·obtain ⟨i,hi⟩:=List.mem_iff_getElem?.1 ((Vp (p:=(u,w))).2 ⟨h1,hw,hn⟩)
   exact ⟨i,.inl ⟨hi,by rw [hbit i _ hi]; exact hb⟩⟩
  ·obtain ⟨i,hi⟩:=List.mem_iff_getElem?.1 ((Vp (p:=(w,u)) (N:=near S)).2 ⟨h1,hu,by rw [near_symm]; exact hn⟩)
   refine ⟨i,.inr ⟨hi,?_⟩⟩
   rw [hbit i _ hi]
   dsimp only
   rw [Bool.eq_false_iff]
   intro hc
   have:=hr u hu w hb
   have:=hr w hw u hc
   omega
theorem Q2x {t t':Nat} (ht:t < 2^(Xe n (near S)).length) (ht':t' < 2^(Xe n (near S)).length) (h:rowI n (mG n S t)=rowI n (mG n S t')):t=t':=by
 apply Nat.eq_of_testBit_eq
 intro i
 by_cases hi:i < (Xe n (near S)).length
 ·have hp:(Xe n (near S))[i]?=some ((Xe n (near S))[i].1,(Xe n (near S))[i].2):=List.getElem?_eq_getElem hi
  have hm:=Vp.1 (List.getElem_mem hi)
  have key:∀t,(mG n S t (Xe n (near S))[i].1).testBit (Xe n (near S))[i].2=t.testBit i:=fun t=>by
   rw [Bool.eq_iff_iff,Qgy]
   constructor
   ·rintro ⟨j,⟨h1,h2⟩ | ⟨h1,h2⟩⟩
    ·have hj:=(List.getElem?_eq_some_iff.1 h1).1
     have:j=i:=by
      have hnd:=List.pairwise_iff_getElem.1 (Qve (n:=n) (N:=near S))
      have e:(Xe n (near S))[j]=(Xe n (near S))[i]:=Option.some.inj ((List.getElem?_eq_getElem hj).symm.trans h1)
      rcases Nat.lt_trichotomy i j with h | h | h
      ·exact absurd e.symm (hnd i j hi hj h)
      ·exact h.symm
      ·exact absurd e (hnd j i hj hi h)
     rw [←this]; exact h2
    ·have:=Vp.1 (List.mem_of_getElem? h1)
     dsimp only at this
     omega
   ·intro hb; exact ⟨i,.inl ⟨hp,hb⟩⟩
  have e:=Qr8 h (show (Xe n (near S))[i].1 < n by omega)
  rw [←key t,←key t',e]
 ·rw [Nat.testBit_lt_two_pow (Nat.lt_of_lt_of_le ht (Nat.pow_le_pow_right (by omega) (by omega))),Nat.testBit_lt_two_pow (Nat.lt_of_lt_of_le ht' (Nat.pow_le_pow_right (by omega) (by omega)))]
end
end Go.Ab
namespace Go.Ab
open Go
set_option maxRecDepth 100000
set_option maxHeartbeats 1000000
section
variable {n:Nat} {S:Nat → Nat}
def okG (n:Nat) (S:Nat → Nat) (t:Nat):Bool:=gdB n (mG n S t) && decide (cls n (mG n S t)=cls n S)
def Qbz (n:Nat) (S:Nat → Nat):List (List Int):=((List.range (2^(Xe n (near S)).length)).filter (okG n S)).map fun t=>rowI n (mG n S t)
def memS (n:Nat) (S:Nat → Nat):List (List Int):=isort leL (Qbz n S)
theorem Qm1 {α:Type} {c:Nat → Bool} {f:Nat → α}:∀j,apL (fun t=>if c t=true then [f t] else []) 0 j=((List.range j).filter c).map f
 | 0=>rfl
 | j+1=>by
  simp only [apL,Qm1 j,Nat.zero_add,List.range_succ,List.filter_append,List.map_append]
  congr 1
  by_cases h:c j=true
  ·simp [h]
  ·simp [h]
theorem Qse {x:List Int} (hS:Gd n S):x∈Qbz n S↔∃T,x=rowI n T∧Gd n T∧(∀u w,u < n→w < n→near T u w=near S u w)∧cls n T=cls n S:=by
 unfold Qbz
 rw [List.mem_map]
 constructor
 ·rintro ⟨t,h1,rfl⟩
  have:=(List.mem_filter.1 h1).2
  unfold okG at this
  rw [Bool.and_eq_true,Qoi,decide_eq_true_eq] at this
  exact ⟨_,rfl,this.1,fun u w hu hw=>Q1d hS hu hw,this.2⟩
 ·rintro ⟨T,rfl,h1,h2,h3⟩
  obtain ⟨t,ht,e⟩:=Q3v hS h1 h2
  refine ⟨t,List.mem_filter.2 ⟨List.mem_range.2 ht,?_⟩,e⟩
  have eb:∀v,v < n→mG n S t v=T v:=fun v hv=>Qr8 e hv
  unfold okG
  rw [Bool.and_eq_true,Qoi,decide_eq_true_eq]
  refine ⟨?_,?_⟩
  ·obtain ⟨r,hr⟩:=Qa2 h1
   refine Qd1 r fun v hv j hj=>?_
   rw [eb v hv] at hj
   exact ⟨h1.inn v hv j hj,hr v hv j hj⟩
  ·rw [←h3]
   refine Qg2.2 fun a b c h4 h5 h6=>?_
   unfold Vf near
   rw [eb b h6,eb a (by omega),eb c h5]
theorem Qv2:(Qbz n S).Nodup:=by
 unfold Qbz
 have h0:((List.range (2^(Xe n (near S)).length)).filter (okG n S)).Nodup:=List.nodup_range.sublist List.filter_sublist
 unfold List.Nodup at h0 ⊢
 rw [List.pairwise_map]
 refine h0.imp_of_mem fun {a b} ha hb hab e=>hab (Q2x (List.mem_range.1 (List.mem_filter.1 ha).1) (List.mem_range.1 (List.mem_filter.1 hb).1) e)
theorem Qro (hn:n≤5):(Qbz n S).length≤1024:=by
 unfold Qbz
 rw [List.length_map]
 refine Nat.le_trans (List.length_filter_le _ _) ?_
 rw [List.length_range]
 exact Nat.pow_le_pow_right (n:=2) (by omega) (Qr3 hn)
end
end Go.Ab
namespace Go.Ab
open Go
set_option maxRecDepth 100000
set_option maxHeartbeats 1000000
section
variable {n:Nat} {S:Nat → Nat}
theorem Q3p {N:Nat → Nat → Bool} (hn:n≤5):(prs n N).length≤10∧(prs n N).length=(Xe n N).length:=by
 rw [Qua,List.length_map]
 exact ⟨Qr3 hn,rfl⟩
theorem Qyx {k:Nat} (h:k≤10):2^k≤1024:=Nat.pow_le_pow_right (n:=2) (by omega) h
theorem Qtv (hn1:1≤n) (hn:n≤5) (hS:Gd n S) (hc:Qs (rowI n S)=some 0):V2 (rowI n S)=some (memS n S,0):=by
 have hlen:(rowI n S).length=n:=Zy
 obtain ⟨hp,hpl⟩:=Q3p (n:=n) (N:=near S) hn
 have hpow:=Qyx hp
 unfold V2
 rw [hc,Option.bind_some,if_neg (by simp),hlen,if_neg (by simp; omega),Vj (by omega) hS,Option.bind_some,V0 (by omega) hS,Option.bind_some]
 have hsk:(Q9 ⟨(n:Int),Qh (mI (nrN n S))⟩)=some (prs n (near S)):=Qsy (by omega)
 have h:=Qci (n:=2^(prs n (near S)).length) (k0:=0) (m:=1) (c:=0) (Nat.zero_le _) (by omega) (fun k (x:List (List Int))=>(k,x)) (body:=Y0 (prs n (near S)) ⟨(n:Int),Qh (mI (nrN n S))⟩ (cls n S))
  (fun t=>if okG n S t=true then [rowI n (mG n S t)] else []) id (fun t=>Qbl) (out:=[]) (by simp)
  (fun t o _ ht ho=>by
   unfold Y0
   dsimp only
   rw [Q19 (by omega),if_pos (dlt ht),if_pos (by omega)]
   have e:=Qtg (n:=n) (t:=t) (P:=Xe n (near S)) (by omega) (by omega) (by omega) (fun p hp=>by have:=Vp.1 hp; omega) (body:=Kq (prs n (near S)) ((t:Int),o)) (fun s=>by
    unfold Kq; rw [Qua])
   rw [Int.toNat_natCast,e,Option.bind_some]
   have e2:oG n (Xe n (near S)) t (Xe n (near S)).length=mG n S t:=rfl
   rw [e2,Ql0 (S:=mG n S t) (by omega) (Qxp (by omega)),Option.bind_some]
   have e3:(pls n (mG n S t) n==2^n - 1)=gdB n (mG n S t):=rfl
   rw [e3]
   unfold okG
   by_cases hg:gdB n (mG n S t)=true
   ·have hG:=Qoi.1 hg
    rw [if_pos hg,V0 (by omega) hG,Option.bind_some,Qm3 (by have:=Qoy (S:=mG n S t) (show n≤7 by omega); omega),Option.bind_some,hg]
    by_cases hcl:cls n (mG n S t)=cls n S
    ·rw [if_pos (by simp [hcl]),if_pos (by rw [List.length_append]; simp; omega),if_pos (by simp [hcl])]
    ·rw [if_neg (by simp [hcl]),if_neg (by simp [hcl]),List.append_nil]
   ·rw [if_neg hg,Bool.eq_false_iff.2 hg,if_neg (by simp),List.append_nil])
  (fun o=>by
   unfold Y0
   dsimp only
   rw [Q19 (by omega),if_neg (nlt _)]; rfl)
 rw [show ((0:Nat):Int)=0 from rfl] at h
 show (Q9 ⟨(n:Int),Qh (mI (nrN n S))⟩).bind _=_
 rw [hsk,Option.bind_some,if_pos (Yj _)]
 show (Qb fuel (Y0 (prs n (near S)) ⟨(n:Int),Qh (mI (nrN n S))⟩ (cls n S)) (0,[])).bind _=_
 rw [h,Option.bind_some,List.nil_append,Nat.sub_zero,Qm1,hpl]
 have hgood:((Qbz n S).all Qd4 && Nat.blt (Qbz n S).length 4611686018427387904)=true:=by
  rw [Bool.and_eq_true]
  refine ⟨List.all_eq_true.2 fun x hx=>?_,?_⟩
  ·obtain ⟨T,rfl,_⟩:=(Qse hS).1 hx
   unfold Qd4
   rw [Zy]
   exact Nat.ble_eq_true_of_le (by omega)
  ·have:=Qro (n:=n) (S:=S) hn
   exact Nat.ble_eq_true_of_le (by omega)
 show (Qln Qd4 leL (Qbz n S)).bind _=_
 unfold Qln
 rw [if_pos hgood]
 rfl
theorem Qy2 {x:List Int} (hS:Gd n S):x∈memS n S↔∃T,x=rowI n T∧Gd n T∧(∀u w,u < n→w < n→near T u w=near S u w)∧cls n T=cls n S:=by
 unfold memS
 rw [(Vh leL (Qbz n S)).mem_iff,Qse hS]
theorem Qsb (hn:n≤5):(memS n S).length≤1024:=by
 unfold memS
 rw [(Vh leL (Qbz n S)).length_eq]
 exact Qro hn
end
end Go.Ab
namespace Go.Ab
open Go
set_option maxRecDepth 100000
set_option maxHeartbeats 1000000
theorem Qh2 {n:Nat} (hn:n < 1000000) {body:Int→Option (Qf Int (Unit ⊕ Unit))} (p:Nat → Bool) (hb:∀k,k < n→body (k:Int)=if p k=true then some (.done (Sum.inl ())) else some (.next (zw ((k:Int)+1))))
  (hd:body (n:Int)=some (.done (Sum.inr ()))):Qb fuel body 0=some (if (List.range n).any p=true then Sum.inl () else Sum.inr ()):=by
 rcases Qfv (n:=n) (by omega) (fun k=>¬ p k=true) (fun i (_:Unit)=>i) (body:=body) (fun _=>()) (.inr ()) (.inl ())
  (fun k hk _ hg=>by rw [hb k hk,if_neg hg])
  (fun k hk _ hg=>by rw [hb k hk,if_pos (Classical.not_not.1 hg)])
  (fun _=>hd) with ⟨hg,h⟩ | ⟨hg,h⟩
 ·rw [show ((0:Nat):Int)=0 from rfl] at h
  rw [h,if_neg]
  rw [List.any_eq_true]
  rintro ⟨k,hk,hp⟩
  exact hg k (List.mem_range.1 hk) hp
 ·rw [show ((0:Nat):Int)=0 from rfl] at h
  rw [h,if_pos]
  rw [List.any_eq_true]
  apply Classical.byContradiction
  intro hno
  exact hg fun k hk hp=>hno ⟨k,List.mem_range.2 hk,hp⟩
def lnB (N O:Nat → Nat → Bool) (a b:Nat):Bool:=N a b && !O a b && !O b a
def onB (n:Nat) (N O:Nat → Nat → Bool) (a b:Nat):Bool:=(List.range n).any fun c=>!decide (c=b) && O c a && !N c b
def arB (n:Nat) (O:Nat → Nat → Bool) (a b:Nat):Bool:=(List.range n).any fun c=>O a c && O c b
def beB (n:Nat) (N O:Nat → Nat → Bool) (a b:Nat):Bool:=(List.range n).any fun c=>(List.range c).any fun d=>lnB N O a c && lnB N O a d && O c b && O d b && !N c d
def ruB (n:Nat) (N O:Nat → Nat → Bool) (a b:Nat):Bool:=onB n N O a b || arB n O a b || beB n N O a b
def Yv (O:Nat → Nat → Bool) (a b:Nat):Nat → Nat → Bool:=fun u w=>O u w || (decide (u=a) && decide (b=w))
section
variable {n:Nat} {S:Nat → Nat} (hn:n≤6)
abbrev skK (n:Nat) (S:Nat → Nat):Tequal_skeleton:=⟨(n:Int),Qh (mI (nrN n S))⟩
abbrev mxK (n:Nat) (S:Nat → Nat) (O:Nat → Nat → Bool):Qc:=⟨skK n S,Qh (mI O)⟩
include hn
theorem Qov {a c:Nat} (ha:a < n) (hc:c < n):Qj (skK n S) (a:Int) (c:Int)=some (near S a c):=by
 rw [Qdt (by omega) (by omega),Zs,Qas ha hc]
 have:c < 6:=by omega
 simp [this]
theorem Qc2 {O:Nat → Nat → Bool} {a c:Nat} (ha:a < n) (hc:c < n):Ql (mxK n S O) (a:Int) (c:Int)=some (O a c):=by
 have h:=Qdt (m:=0) (N:=O) (a:=a) (c:=c) (by omega) (by omega)
 rw [Zs] at h
 have h6:c < 6:=by omega
 simp only [h6,decide_true,Bool.true_and] at h
 exact h
theorem Qqj {O:Nat → Nat → Bool} {a c:Nat} (ha:a < n) (hc:c < n):Qu (mxK n S O) (a:Int) (c:Int)=some (lnB (near S) O a c):=by
 unfold Qu
 show (Qj (skK n S) (a:Int) (c:Int)).bind _=_
 rw [Qov hn ha hc,Option.bind_some]
 unfold lnB
 cases near S a c with
 | false=>rfl
 | true =>
  rw [if_pos rfl]
  show (Ql (mxK n S O) (a:Int) (c:Int)).bind _=_
  rw [Qc2 hn ha hc,Option.bind_some]
  cases O a c with
  | true=>rfl
  | false =>
   rw [if_pos (by rfl)]
   show (Ql (mxK n S O) (c:Int) (a:Int)).bind _=_
   rw [Qc2 hn hc ha,Option.bind_some]
   cases O c a <;> rfl
theorem Q1z {O:Nat → Nat → Bool} {a b:Nat} (ha:a < n) (hb:b < n):Xu (mxK n S O) (a:Int) (b:Int)=some (onB n (near S) O a b):=by
 unfold Xu
 rw [Qh2 (n:=n) (by omega) (fun c=>!decide (c=b) && O c a && !near S c b) (fun c hc=>by
   unfold Vz
   rw [if_pos (dlt hc)]
   by_cases e:c=b
   ·rw [if_neg (by simp [e]),if_neg (by simp [e])]
   ·rw [if_pos (by simp; omega)]
    show (Ql (mxK n S O) (c:Int) (a:Int)).bind _=_
    rw [Qc2 hn hc ha,Option.bind_some]
    cases hO:O c a with
    | false=>simp
    | true =>
     rw [if_pos rfl]
     show (Qj (skK n S) (c:Int) (b:Int)).bind _=_
     rw [Qov hn hc hb,Option.bind_some]
     cases near S c b <;> simp [e])
  (by unfold Vz; rw [if_neg (nlt n)]),Option.bind_some]
 unfold onB
 cases (List.range n).any fun c=>!decide (c=b) && O c a && !near S c b <;> rfl
theorem Q0o {O:Nat → Nat → Bool} {a b:Nat} (ha:a < n) (hb:b < n):Xp (mxK n S O) (a:Int) (b:Int)=some (arB n O a b):=by
 unfold Xp
 rw [Qh2 (n:=n) (by omega) (fun c=>O a c && O c b) (fun c hc=>by
   unfold Vy
   rw [if_pos (dlt hc)]
   show (Ql (mxK n S O) (a:Int) (c:Int)).bind _=_
   rw [Qc2 hn ha hc,Option.bind_some]
   cases hO:O a c with
   | false=>simp
   | true =>
    rw [if_pos rfl]
    show (Ql (mxK n S O) (c:Int) (b:Int)).bind _=_
    rw [Qc2 hn hc hb,Option.bind_some]
    cases O c b <;> simp)
  (by unfold Vy; rw [if_neg (nlt n)]),Option.bind_some]
 unfold arB
 cases (List.range n).any fun c=>O a c && O c b <;> rfl
theorem Qza {O:Nat → Nat → Bool} {a b:Nat} (ha:a < n) (hb:b < n):Xj (mxK n S O) (a:Int) (b:Int)=some (beB n (near S) O a b):=by
 have inner:∀c,c < n→Qb fuel (Yh (c:Int) (mxK n S O) (a:Int) (b:Int)) 0=some (if (List.range c).any (fun d=>lnB (near S) O a c && lnB (near S) O a d && O c b && O d b && !near S c d)=true then Sum.inl () else Sum.inr ()):=fun c hc =>
  Qh2 (n:=c) (by omega) _ (fun d hd=>by
   have hdn:d < n:=by omega
   unfold Yh
   rw [if_pos (dlt hd)]
   show (Qu (mxK n S O) (a:Int) (c:Int)).bind _=_
   rw [Qqj hn ha hc,Option.bind_some]
   cases lnB (near S) O a c with
   | false=>simp
   | true =>
    rw [if_pos rfl]
    show (Qu (mxK n S O) (a:Int) (d:Int)).bind _=_
    rw [Qqj hn ha hdn,Option.bind_some]
    cases lnB (near S) O a d with
    | false=>simp
    | true =>
     rw [if_pos rfl]
     show (Ql (mxK n S O) (c:Int) (b:Int)).bind _=_
     rw [Qc2 hn hc hb,Option.bind_some]
     cases O c b with
     | false=>simp
     | true =>
      rw [if_pos rfl]
      show (Ql (mxK n S O) (d:Int) (b:Int)).bind _=_
      rw [Qc2 hn hdn hb,Option.bind_some]
      cases O d b with
      | false=>simp
      | true =>
       rw [if_pos rfl]
       show (Qj (skK n S) (c:Int) (d:Int)).bind _=_
       rw [Qov hn hc hdn,Option.bind_some]
       cases near S c d <;> simp)
   (by unfold Yh; rw [if_neg (nlt c)])
 unfold Xj
 rw [Qh2 (n:=n) (by omega) (fun c=>(List.range c).any fun d=>lnB (near S) O a c && lnB (near S) O a d && O c b && O d b && !near S c d) (fun c hc=>by
   unfold Vv
   rw [if_pos (dlt hc),inner c hc,Option.bind_some]
   cases (List.range c).any fun d=>lnB (near S) O a c && lnB (near S) O a d && O c b && O d b && !near S c d <;> rfl)
  (by unfold Vv; rw [if_neg (nlt n)]),Option.bind_some]
 unfold beB
 cases (List.range n).any fun c=>(List.range c).any fun d=>lnB (near S) O a c && lnB (near S) O a d && O c b && O d b && !near S c d <;> rfl
omit hn in
theorem Q21 {O:Nat → Nat → Bool} {a b:Nat} (ha:a < 6) (hb:b < 6):Qh (sx (mI O) a (Jg (mI O a) b))=Qh (mI (Yv O a b)):=by
 refine congrArg Qh ?_
 funext i
 unfold sx
 by_cases e:i=a
 ·subst e
  rw [if_pos rfl]
  unfold mI
  rw [Qea hb]
  congr 2
  funext w
  unfold Yv; simp
 ·rw [if_neg e]
  unfold mI
  congr 2
  funext w
  unfold Yv; simp [e]
omit hn in
theorem Qrm {x1:Tequal_skeleton} {X:Nat → Int} {a b:Nat} {r:Int} (hr:r=0∨r=1∨r=2) (ha:a < 6) {v0 v1 v2:Bool}
  (h0:Xu ⟨x1,Qh X⟩ (a:Int) (b:Int)=some v0) (h1:Xp ⟨x1,Qh X⟩ (a:Int) (b:Int)=some v1) (h2:Xj ⟨x1,Qh X⟩ (a:Int) (b:Int)=some v2) :
  Zc x1 (Qh X) (a:Int) (b:Int) r=if (if r=0 then v0 else if r=1 then v1 else v2)=true then some (.done (Sum.inl (Qh (sx X a (Jg (X a) b))))) else some (.next (zw (r+1))):=by
 have hnb:=Yj b
 have ha':a=0∨a=1∨a=2∨a=3∨a=4∨a=5:=by omega
 unfold Zc
 rcases hr with rfl | rfl | rfl
 ·rw [if_pos (by decide),if_pos rfl]
  show (Xu ⟨x1,Qh X⟩ (a:Int) (b:Int)).bind _=(if v0=true then some (Qf.done (Sum.inl (Qh (sx X a (Jg (X a) b))))) else some (Qf.next (zw (0+1))):Option (Qf Int ((Int × Int × Int × Int × Int × Int) ⊕ Unit)))
  rw [h0,Option.bind_some]
  cases v0 with
  | false=>rfl
  | true =>
   rw [if_pos rfl,if_pos rfl]
   simp only [if_pos hnb]
   rcases ha' with rfl | rfl | rfl | rfl | rfl | rfl <;> rfl
 ·rw [if_pos (by decide),if_neg (by decide),if_pos rfl]
  show (Xp ⟨x1,Qh X⟩ (a:Int) (b:Int)).bind _=(if v1=true then some (Qf.done (Sum.inl (Qh (sx X a (Jg (X a) b))))) else some (Qf.next (zw (1+1))):Option (Qf Int ((Int × Int × Int × Int × Int × Int) ⊕ Unit)))
  rw [h1,Option.bind_some]
  cases v1 with
  | false=>rfl
  | true =>
   rw [if_pos rfl,if_pos rfl]
   simp only [if_pos hnb]
   rcases ha' with rfl | rfl | rfl | rfl | rfl | rfl <;> rfl
 ·rw [if_pos (by decide),if_neg (by decide),if_neg (by decide),if_pos rfl]
  show (Xj ⟨x1,Qh X⟩ (a:Int) (b:Int)).bind _=(if v2=true then some (Qf.done (Sum.inl (Qh (sx X a (Jg (X a) b))))) else some (Qf.next (zw (2+1))):Option (Qf Int ((Int × Int × Int × Int × Int × Int) ⊕ Unit)))
  rw [h2,Option.bind_some]
  cases v2 with
  | false=>rfl
  | true =>
   rw [if_pos rfl,if_pos rfl]
   simp only [if_pos hnb]
   rcases ha' with rfl | rfl | rfl | rfl | rfl | rfl <;> rfl
end
end Go.Ab
namespace Go.Ab
open Go
set_option maxRecDepth 100000
set_option maxHeartbeats 1000000
structure Cls (n:Nat) (S T:Nat → Nat):Prop where
 gd:Gd n T
 nr:∀u w,u < n→w < n→near T u w=near S u w
 cl:cls n T=cls n S
structure Ju (n:Nat) (S:Nat → Nat) (O:Nat → Nat → Bool):Prop where
 inn:∀a b,O a b=true→a < n∧b < n
 snd:∀T,Cls n S T→∀a b,O a b=true→(T b).testBit a=true
 col:∀a b c,a≠c→a < n→b < n→c < n→Vf S a b c=true→O a b=true
def Ji (n:Nat) (S:Nat → Nat) (O:Nat → Nat → Bool):Prop:=∀a b,a < n→b < n→lnB (near S) O a b=true→ruB n (near S) O a b=false
theorem Qhr {n:Nat} {N O:Nat → Nat → Bool} {a b:Nat}:onB n N O a b=true↔∃c,c < n∧c≠b∧O c a=true∧N c b=false:=by
 unfold onB
 rw [List.any_eq_true]
 constructor
 ·rintro ⟨c,h1,h2⟩
  simp only [Bool.and_eq_true,Bool.not_eq_true',decide_eq_false_iff_not] at h2
  exact ⟨c,List.mem_range.1 h1,h2.1.1,h2.1.2,h2.2⟩
 ·rintro ⟨c,h1,h2,h3,h4⟩
  refine ⟨c,List.mem_range.2 h1,?_⟩
  simp [h2,h3,h4]
theorem Qhh {n:Nat} {O:Nat → Nat → Bool} {a b:Nat}:arB n O a b=true↔∃c,c < n∧O a c=true∧O c b=true:=by
 unfold arB
 rw [List.any_eq_true]
 constructor
 ·rintro ⟨c,h1,h2⟩
  rw [Bool.and_eq_true] at h2
  exact ⟨c,List.mem_range.1 h1,h2.1,h2.2⟩
 ·rintro ⟨c,h1,h2,h3⟩
  exact ⟨c,List.mem_range.2 h1,by rw [h2,h3]; rfl⟩
theorem Qht {n:Nat} {N O:Nat → Nat → Bool} {a b:Nat}:beB n N O a b=true↔∃c d,c < n∧d < c∧lnB N O a c=true∧lnB N O a d=true∧O c b=true∧O d b=true∧N c d=false:=by
 unfold beB
 rw [List.any_eq_true]
 constructor
 ·rintro ⟨c,h1,h2⟩
  rw [List.any_eq_true] at h2
  obtain ⟨d,h3,h4⟩:=h2
  simp only [Bool.and_eq_true,Bool.not_eq_true'] at h4
  exact ⟨c,d,List.mem_range.1 h1,List.mem_range.1 h3,h4.1.1.1.1,h4.1.1.1.2,h4.1.1.2,h4.1.2,h4.2⟩
 ·rintro ⟨c,d,h1,h2,h3,h4,h5,h6,h7⟩
  refine ⟨c,List.mem_range.2 h1,?_⟩
  rw [List.any_eq_true]
  exact ⟨d,List.mem_range.2 h2,by rw [h3,h4,h5,h6,h7]; rfl⟩
theorem Kz {N O:Nat → Nat → Bool} {a b:Nat}:lnB N O a b=true↔N a b=true∧O a b=false∧O b a=false:=by
 unfold lnB
 simp only [Bool.and_eq_true,Bool.not_eq_true']
 exact and_assoc
theorem Qv8 {n:Nat} {S T:Nat → Nat} {O:Nat → Nat → Bool} (hS:Gd n S) (h:Ju n S O) {a b:Nat} (ha:a < n) (hb:b < n) (hl:lnB (near S) O a b=true) (hr:ruB n (near S) O a b=true) (hT:Cls n S T):(T b).testBit a=true:=by
 obtain ⟨l1,l2,l3⟩:=Kz.1 hl
 obtain ⟨r,hrk⟩:=Qa2 hT.gd
 have hn:near T a b=true:=by rw [hT.nr a b ha hb]; exact l1
 unfold near at hn
 rw [Bool.or_eq_true] at hn
 rcases hn with hn | hn
 ·exfalso
  have col:∀p q,p≠q→p < n→q < n→(T a).testBit p=true→(T a).testBit q=true→near S p q=false→O p a=true:=fun p q hpq hp hq e1 e2 e3=>by
   refine h.col p a q hpq hp ha hq ?_
   rw [←Qom hT.cl hT.gd hS hpq hp hq ha]
   unfold Vf
   rw [e1,e2,hT.nr p q hp hq,e3]; rfl
  unfold ruB at hr
  rw [Bool.or_eq_true,Bool.or_eq_true] at hr
  rcases hr with (hr | hr) | hr
  ·obtain ⟨c,h1,h2,h3,h4⟩:=Qhr.1 hr
   have:=col b c (fun e=>h2 e.symm) hb h1 hn (h.snd T hT c a h3) (by rw [near_symm]; exact h4)
   rw [l3] at this; cases this
  ·obtain ⟨c,h1,h2,h3⟩:=Qhh.1 hr
   have g1:=hrk c h1 a (h.snd T hT a c h2)
   have g2:=hrk b hb c (h.snd T hT c b h3)
   have g3:=hrk a ha b hn
   omega
  ·obtain ⟨c,d,h1,h2,h3,h4,h5,h6,h7⟩:=Qht.1 hr
   have key:∀c,c < n→lnB (near S) O a c=true→O c b=true→(T a).testBit c=true:=fun c hc hl hcb=>by
    have e1:near T a c=true:=by rw [hT.nr a c ha hc]; exact (Kz.1 hl).1
    unfold near at e1
    rw [Bool.or_eq_true] at e1
    rcases e1 with e1 | e1
    ·exact e1
    ·have g1:=hrk c hc a e1
     have g2:=hrk b hb c (h.snd T hT c b hcb)
     have g3:=hrk a ha b hn
     omega
   have hd:d < n:=by omega
   have:=col c d (by omega) h1 hd (key c h1 h3 h5) (key d hd h4 h6) h7
   rw [(Kz.1 h3).2.2] at this; cases this
 ·exact hn
theorem Q05 {n:Nat} {S:Nat → Nat} {O:Nat → Nat → Bool} (hS:Gd n S) (h:Ju n S O) {a b:Nat} (ha:a < n) (hb:b < n) (hl:lnB (near S) O a b=true) (hr:ruB n (near S) O a b=true):Ju n S (Yv O a b):=by
 have key:∀u w,Yv O a b u w=true→O u w=true∨(u=a∧w=b):=fun u w e=>by
  unfold Yv at e
  rw [Bool.or_eq_true,Bool.and_eq_true] at e
  rcases e with e | ⟨e1,e2⟩
  ·exact .inl e
  ·exact .inr ⟨of_decide_eq_true e1,(of_decide_eq_true e2).symm⟩
 refine ⟨fun u w e=>?_,fun T hT u w e=>?_,fun u v w h1 h2 h3 h4 h5=>?_⟩
 ·rcases key u w e with e | ⟨rfl,rfl⟩
  ·exact h.inn u w e
  ·exact ⟨ha,hb⟩
 ·rcases key u w e with e | ⟨rfl,rfl⟩
  ·exact h.snd T hT u w e
  ·exact Qv8 hS h ha hb hl hr hT
 ·unfold Yv; rw [h.col u v w h1 h2 h3 h4 h5]; rfl
section
variable {n:Nat} {S:Nat → Nat} (hn:n≤6)
include hn
theorem Qvg {O:Nat → Nat → Bool} {a b:Nat} (ha:a < n) (hb:b < n) :
  Qb fuel (Zc (skK n S) (Qh (mI O)) (a:Int) (b:Int)) 0=some (if ruB n (near S) O a b=true then Sum.inl (Qh (mI (Yv O a b))) else Sum.inr ()):=by
 have h0:=Q1z (S:=S) (O:=O) hn ha hb
 have h1:=Q0o (S:=S) (O:=O) hn ha hb
 have h2:=Qza (S:=S) (O:=O) hn ha hb
 have e:=Q21 (O:=O) (a:=a) (b:=b) (by omega) (by omega)
 have r0:=Qrm (x1:=skK n S) (X:=mI O) (a:=a) (b:=b) (r:=0) (.inl rfl) (by omega) h0 h1 h2
 have r1:=Qrm (x1:=skK n S) (X:=mI O) (a:=a) (b:=b) (r:=1) (.inr (.inl rfl)) (by omega) h0 h1 h2
 have r2:=Qrm (x1:=skK n S) (X:=mI O) (a:=a) (b:=b) (r:=2) (.inr (.inr rfl)) (by omega) h0 h1 h2
 rw [e] at r0 r1 r2
 have r3:Zc (skK n S) (Qh (mI O)) (a:Int) (b:Int) 3=some (.done (Sum.inr ())):=by
  unfold Zc; rw [if_neg (by decide)]
 replace r0:Zc (skK n S) (Qh (mI O)) (a:Int) (b:Int) 0=(if onB n (near S) O a b=true then some (Qf.done (Sum.inl (Qh (mI (Yv O a b))))) else some (Qf.next (zw ((0:Int)+1))):Option (Qf Int ((Int × Int × Int × Int × Int × Int) ⊕ Unit))):=r0
 replace r1:Zc (skK n S) (Qh (mI O)) (a:Int) (b:Int) 1=(if arB n O a b=true then some (Qf.done (Sum.inl (Qh (mI (Yv O a b))))) else some (Qf.next (zw ((1:Int)+1))):Option (Qf Int ((Int × Int × Int × Int × Int × Int) ⊕ Unit))):=r1
 replace r2:Zc (skK n S) (Qh (mI O)) (a:Int) (b:Int) 2=(if beB n (near S) O a b=true then some (Qf.done (Sum.inl (Qh (mI (Yv O a b))))) else some (Qf.next (zw ((2:Int)+1))):Option (Qf Int ((Int × Int × Int × Int × Int × Int) ⊕ Unit))):=r2
 unfold ruB
 have hf:fuel=(fuel - 4)+1+1+1+1:=by unfold fuel; rfl
 rw [hf]
 simp only [Qb,r0]
 cases hb0:onB n (near S) O a b with
 | true=>simp
 | false =>
  simp only [Bool.false_eq_true,if_false,Bool.false_or]
  rw [show zw ((0:Int)+1)=1 from rfl,r1]
  cases hb1:arB n O a b with
  | true=>simp
  | false =>
   simp only [Bool.false_eq_true,if_false,Bool.false_or]
   rw [show zw ((1:Int)+1)=2 from rfl,r2]
   cases hb2:beB n (near S) O a b with
   | true=>simp
   | false =>
    simp only [Bool.false_eq_true,if_false]
    rw [show zw ((2:Int)+1)=3 from rfl,r3]
def Qzq (n:Nat) (S:Nat → Nat) (O:Nat → Nat → Bool) (a:Nat) (r:(Int × Int × Int × Int × Int × Int) ⊕ Unit):Prop :=
 (∃b,b < n∧lnB (near S) O a b=true∧ruB n (near S) O a b=true∧r=Sum.inl (Qh (mI (Yv O a b))))∨((∀b,b < n→lnB (near S) O a b=true→ruB n (near S) O a b=false)∧r=Sum.inr ())
theorem Qy8 {O:Nat → Nat → Bool} {a:Nat} (ha:a < n):∃r,Qb fuel (Xs (skK n S) (Qh (mI O)) (a:Int)) 0=some r∧Qzq n S O a r:=by
 have h:=Ks (n:=n) (k0:=0) (by omega) (by omega) (fun i (_:Unit)=>i) (body:=Xs (skK n S) (Qh (mI O)) (a:Int)) (fun k _=>∀b,b < k→lnB (near S) O a b=true→ruB n (near S) O a b=false) (Qzq n S O a)
  (fun b t _ hb hI=>by
   have e:Xs (skK n S) (Qh (mI O)) (a:Int) (b:Int)=if lnB (near S) O a b=true∧ruB n (near S) O a b=true then some (.done (Sum.inl (Qh (mI (Yv O a b))))) else some (.next (zw ((b:Int)+1))):=by
    unfold Xs
    rw [if_pos (dlt hb)]
    show (Qu (mxK n S O) (a:Int) (b:Int)).bind _=_
    rw [Qqj hn ha hb,Option.bind_some]
    cases hl:lnB (near S) O a b with
    | false=>simp
    | true =>
     rw [if_neg (by simp),Qvg hn ha hb,Option.bind_some]
     cases hr:ruB n (near S) O a b with
     | true=>simp
     | false=>simp
   by_cases hc:lnB (near S) O a b=true∧ruB n (near S) O a b=true
   ·right
    exact ⟨_,by rw [e,if_pos hc],.inl ⟨b,hb,hc.1,hc.2,rfl⟩⟩
   ·left
    refine ⟨(),by rw [e,if_neg hc],fun b' hb' hl=>?_⟩
    by_cases e2:b'=b
    ·subst e2; exact Bool.eq_false_iff.2 fun hr=>hc ⟨hl,hr⟩
    ·exact hI b' (by omega) hl)
  (fun t hI=>⟨_,by unfold Xs; rw [if_neg (nlt n)],.inr ⟨hI,rfl⟩⟩) () (fun b hb=>by omega)
 exact h
theorem Qxe {O:Nat → Nat → Bool}:∃r,Qb fuel (Xr (skK n S) (Qh (mI O))) 0=some r∧((∃a,a < n∧∃b,b < n∧lnB (near S) O a b=true∧ruB n (near S) O a b=true∧r=Sum.inl (Qh (mI (Yv O a b))))∨(Ji n S O∧r=Sum.inr ())):=by
 have h:=Ks (n:=n) (k0:=0) (by omega) (by omega) (fun i (_:Unit)=>i) (body:=Xr (skK n S) (Qh (mI O))) (fun k _=>∀a,a < k→∀b,b < n→lnB (near S) O a b=true→ruB n (near S) O a b=false)
  (fun r=>(∃a,a < n∧∃b,b < n∧lnB (near S) O a b=true∧ruB n (near S) O a b=true∧r=Sum.inl (Qh (mI (Yv O a b))))∨(Ji n S O∧r=Sum.inr ()))
  (fun a t _ ha hI=>by
   obtain ⟨r,h1,h2⟩:=Qy8 (S:=S) (O:=O) hn ha
   rcases h2 with ⟨b,hb,hl,hr,rfl⟩ | ⟨h2,rfl⟩
   ·right
    refine ⟨_,?_,.inl ⟨a,ha,b,hb,hl,hr,rfl⟩⟩
    unfold Xr
    rw [if_pos (dlt ha),h1]; rfl
   ·left
    refine ⟨(),?_,fun a' ha'=>?_⟩
    ·unfold Xr
     rw [if_pos (dlt ha),h1]; rfl
    ·by_cases e:a'=a
     ·subst e; exact h2
     ·exact hI a' (by omega))
  (fun t hI=>⟨_,by unfold Xr; rw [if_neg (nlt n)],.inr ⟨fun a b ha hb hl=>hI a ha b hb hl,rfl⟩⟩) () (fun a ha=>by omega)
 exact h
end
end Go.Ab
namespace Go.Ab
open Go
set_option maxRecDepth 100000
set_option maxHeartbeats 1000000
theorem Quv {O:Nat → Nat → Bool} {a b:Nat} (hb:b < 6):sx (mI O) a (Jg (mI O a) b)=mI (Yv O a b):=by
 funext i
 unfold sx
 by_cases e:i=a
 ·subst e
  rw [if_pos rfl]
  unfold mI
  rw [Qea hb]
  congr 2
  funext w
  unfold Yv; simp
 ·rw [if_neg e]
  unfold mI
  congr 2
  funext w
  unfold Yv; simp [e]
theorem Q12 {x3:List (Int × Int × Int)} {X:Nat → Int} {k a b c:Nat} (hk:decide ((k:Int) < (x3.length:Int))=true) (hl:lkI x3 (k:Int)=some ((a:Int),(b:Int),(c:Int))) (ha:a < 6) (hc:c < 6) :
  Xt x3 ((k:Int),Qh X)=some (.next (zw ((k:Int)+1),Qh (sx (sx X a (Jg (X a) b)) c (Jg (sx X a (Jg (X a) b) c) b)))):=by
 have hnb:=Yj b
 unfold Xt
 dsimp only
 rw [if_pos hk,hl,Option.bind_some]
 dsimp only
 have ha':a=0∨a=1∨a=2∨a=3∨a=4∨a=5:=by omega
 have hc':c=0∨c=1∨c=2∨c=3∨c=4∨c=5:=by omega
 simp only [if_pos hnb]
 clear hk hl
 rcases ha' with rfl | rfl | rfl | rfl | rfl | rfl <;> rcases hc' with rfl | rfl | rfl | rfl | rfl | rfl <;> rfl
def Q3e (L:List (Int × Int × Int)) (k:Nat) (O:Nat → Nat → Bool):Prop:=∀u w,O u w=true↔∃i,i < k∧∃a b c:Nat,L[i]?=some ((a:Int),(b:Int),(c:Int))∧w=b∧(u=a∨u=c)
section
variable {n:Nat} {S:Nat → Nat} (hn:n≤6) (hS:Gd n S)
include hn hS
theorem Qwk:∃O,Qb fuel (Xt (cls n S)) (0,0,0,0,0,0,0)=some (Qh (mI O))∧Ju n S O:=by
 have hcl:=Qoy (n:=n) (S:=S) (by omega)
 have h:=Ks (n:=(cls n S).length) (k0:=0) (by omega) (by omega) (fun i (x:Int × Int × Int × Int × Int × Int)=>(i,x)) (body:=Xt (cls n S))
  (fun k x=>∃O,x=Qh (mI O)∧Q3e (cls n S) k O) (fun r=>∃O,r=Qh (mI O)∧Q3e (cls n S) (cls n S).length O)
  (fun k x _ hk hI=>by
   left
   obtain ⟨O,rfl,hO⟩:=hI
   obtain ⟨a,b,c,h1,h2,h3,h4,h5⟩:=Qha.1 (List.getElem_mem hk)
   rw [Q12 (a:=a) (b:=b) (c:=c) (dlt hk) (by rw [Z1 hk,h5]) (by omega) (by omega),Quv (by omega),Quv (by omega)]
   refine ⟨_,rfl,_,rfl,fun u w=>?_⟩
   have e:Yv (Yv O a b) c b u w=true↔O u w=true∨(w=b∧(u=a∨u=c)):=by
    unfold Yv
    simp only [Bool.or_eq_true,Bool.and_eq_true,decide_eq_true_eq]
    constructor
    ·rintro ((h | ⟨rfl,rfl⟩) | ⟨rfl,rfl⟩)
     ·exact .inl h
     ·exact .inr ⟨rfl,.inl rfl⟩
     ·exact .inr ⟨rfl,.inr rfl⟩
    ·rintro (h | ⟨rfl,rfl | rfl⟩)
     ·exact .inl (.inl h)
     ·exact .inl (.inr ⟨rfl,rfl⟩)
     ·exact .inr ⟨rfl,rfl⟩
   rw [e,hO u w]
   constructor
   ·rintro (⟨i,hi,h⟩ | h)
    ·exact ⟨i,by omega,h⟩
    ·exact ⟨k,by omega,a,b,c,by rw [List.getElem?_eq_getElem hk,h5],h⟩
   ·rintro ⟨i,hi,a',b',c',h6,h7⟩
    by_cases e:i=k
    ·subst e
     right
     rw [List.getElem?_eq_getElem hk,h5] at h6
     simp only [Option.some.injEq,Prod.mk.injEq,Int.ofNat_inj] at h6
     obtain ⟨rfl,rfl,rfl⟩:=h6
     exact h7
    ·exact .inl ⟨i,by omega,a',b',c',h6,h7⟩)
  (fun x hI=>by
   obtain ⟨O,rfl,hO⟩:=hI
   refine ⟨Qh (mI O),?_,O,rfl,hO⟩
   unfold Xt
   dsimp only
   rw [if_neg (nlt _)]) (0,0,0,0,0,0) ⟨fun _ _=>false,(by
    have:∀m,msk m (fun _=>false)=0:=fun m=>by
     induction m with
     | zero=>rfl
     | succ m ih=>simp [msk,ih]
    unfold Qh mI
    rw [this 6]; rfl),fun u w=>⟨fun h=>(by cases h),fun ⟨i,hi,_⟩=>(by omega)⟩⟩
 obtain ⟨r,h1,O,rfl,hO⟩:=h
 rw [show ((0:Nat):Int)=0 from rfl] at h1
 refine ⟨O,h1,?_⟩
 have key:∀u w,O u w=true↔∃c,u≠c∧u < n∧w < n∧c < n∧Vf S u w c=true:=fun u w=>by
  rw [hO u w]
  constructor
  ·rintro ⟨i,hi,a,b,c,h2,rfl,h3⟩
   obtain ⟨a',b',c',h4,h5,h6,h7,h8⟩:=Qha.1 (List.mem_of_getElem? h2)
   simp only [Prod.mk.injEq,Int.ofNat_inj] at h8
   obtain ⟨rfl,rfl,rfl⟩:=h8
   rcases h3 with rfl | rfl
   ·exact ⟨c,by omega,by omega,h6,h5,h7⟩
   ·exact ⟨a,by omega,h5,h6,by omega,by rw [colB_symm]; exact h7⟩
  ·rintro ⟨c,h2,h3,h4,h5,h6⟩
   rcases Nat.lt_or_gt_of_ne h2 with h7 | h7
   ·obtain ⟨i,hi⟩:=List.mem_iff_getElem?.1 ((Qha (n:=n) (S:=S) (p:=((u:Int),(w:Int),(c:Int)))).2 ⟨u,w,c,h7,h5,h4,h6,rfl⟩)
    exact ⟨i,(List.getElem?_eq_some_iff.1 hi).1,u,w,c,hi,rfl,.inl rfl⟩
   ·obtain ⟨i,hi⟩:=List.mem_iff_getElem?.1 ((Qha (n:=n) (S:=S) (p:=((c:Int),(w:Int),(u:Int)))).2 ⟨c,w,u,h7,h3,h4,by rw [colB_symm]; exact h6,rfl⟩)
    exact ⟨i,(List.getElem?_eq_some_iff.1 hi).1,c,w,u,hi,rfl,.inr rfl⟩
 refine ⟨fun a b e=>?_,fun T hT a b e=>?_,fun a b c h1 h2 h3 h4 h5=>(key a b).2 ⟨c,h1,h2,h3,h4,h5⟩⟩
 ·obtain ⟨c,_,h2,h3,_⟩:=(key a b).1 e
  exact ⟨h2,h3⟩
 ·obtain ⟨c,h1,h2,h3,h4,h5⟩:=(key a b).1 e
  rw [←Qom hT.cl hT.gd hS h1 h2 h4 h3] at h5
  unfold Vf at h5
  simp only [Bool.and_eq_true] at h5
  exact h5.1.1
def eL2 (n:Nat) (p:Nat → Nat → Bool):List (Int × Int):=apL (fun a=>apL (fun b=>if p a b=true then [((a:Int),(b:Int))] else []) 0 n) 0 n
omit hn hS in
theorem Qxm {α β σ ρ:Type} {n m:Nat} (hn:n≤6) (mkS:Int→List α→List β→σ) {body:σ→Option (Qf σ ρ)} (L:Nat → List α) (M:Nat → List β) (fin:List α→List β→ρ) (hL:∀k,(L k).length≤6) (hM:∀k,(M k).length≤6) {out:List α} {out2:List β} (hout:out.length≤100) (hout2:out2.length≤100)
  (step:∀k o o2,k < n→o.length≤200→o2.length≤200→body (mkS (k:Int) o o2)=some (.next (mkS (zw ((k:Int)+1)) (o++L k) (o2++M k))))
  (done:∀o o2,body (mkS (n:Int) o o2)=some (.done (fin o o2))):Qb fuel body (mkS 0 out out2)=some (fin (out++apL L 0 n) (out2++apL M 0 n)):=by
 have h:=Yt (n:=n) (k0:=0) (by omega) (by omega) (fun i (x:List α × List β)=>mkS i x.1 x.2) (body:=body) (fun k=>(out++apL L 0 k,out2++apL M 0 k)) (fin (out++apL L 0 n) (out2++apL M 0 n))
  (fun k _ h2=>by
   have hb:=Yb (k0:=0) hL k
   have hb2:=Yb (k0:=0) hM k
   dsimp only
   rw [step k _ _ h2 (by rw [List.length_append]; omega) (by rw [List.length_append]; omega)]
   simp only [apL,Nat.zero_add,List.append_assoc])
  (by exact done _ _)
 rw [show ((0:Nat):Int)=0 from rfl] at h
 simpa [apL] using h
omit hS in
theorem Qvj {O:Nat → Nat → Bool}:Qb fuel (Yf (skK n S) (Qh (mI O))) (0,([]:List (Int × Int)),([]:List (Int × Int)))=some (eL2 n O,eL2 n fun a b=>decide (a < b) && lnB (near S) O a b):=by
 have hif:∀(c:Bool) (x:Int × Int),(if c=true then [x] else []).length≤6:=fun c x=>by cases c <;> simp
 have inner:∀a,a < n→∀(o o2:List (Int × Int)) (s:Int × List (Int × Int) × List (Int × Int)),s.1=(a:Int)→o.length≤100→o2.length≤100→Qb fuel (Yi (skK n S) (Qh (mI O)) s) (0,o,o2)=some (o++apL (fun b=>if O a b=true then [((a:Int),(b:Int))] else []) 0 n,o2++apL (fun b=>if (decide (a < b) && lnB (near S) O a b)=true then [((a:Int),(b:Int))] else []) 0 n):=fun a ha o o2 s hs ho ho2 =>
  Qxm (m:=0) hn (fun i x y=>(i,x,y)) (body:=Yi (skK n S) (Qh (mI O)) s) _ _ (fun x y=>(x,y)) (fun k=>hif _ _) (fun k=>hif _ _) ho ho2
   (fun b o o2 hb ho ho2=>by
    unfold Yi
    dsimp only
    rw [if_pos (dlt hb),hs]
    show (Ql (mxK n S O) (a:Int) (b:Int)).bind _=_
    rw [Qc2 hn ha hb,Option.bind_some]
    have hline:Qu (mxK n S O) (a:Int) (b:Int)=some (lnB (near S) O a b):=Qqj hn ha hb
    have hlt:(decide ((a:Int) < (b:Int)))=decide (a < b):=by rw [Bool.eq_iff_iff]; simp
    rw [hlt]
    have l1:(o++([((a:Int),(b:Int))]:List (Int × Int))).length*16≤140737488355328:=by rw [List.length_append,List.length_singleton]; omega
    have l2:(o2++([((a:Int),(b:Int))]:List (Int × Int))).length*16≤140737488355328:=by rw [List.length_append,List.length_singleton]; omega
    cases hO:O a b with
    | true =>
     rw [if_pos rfl,if_pos l1]
     cases hd:decide (a < b) with
     | true =>
      rw [if_pos rfl]
      show (Qu (mxK n S O) (a:Int) (b:Int)).bind _=_
      rw [hline,Option.bind_some]
      cases hl:lnB (near S) O a b with
      | true=>rw [if_pos rfl,if_pos l2]; simp
      | false=>simp
     | false=>simp
    | false =>
     rw [if_neg (by decide)]
     cases hd:decide (a < b) with
     | true =>
      rw [if_pos rfl]
      show (Qu (mxK n S O) (a:Int) (b:Int)).bind _=_
      rw [hline,Option.bind_some]
      cases hl:lnB (near S) O a b with
      | true=>rw [if_pos rfl,if_pos l2]; simp
      | false=>simp
     | false=>simp)
   (fun o o2=>by unfold Yi; dsimp only; rw [if_neg (nlt n)])
 have hlen:∀(p:Nat → Nat → Bool) a,(apL (fun b=>if p a b=true then [((a:Int),(b:Int))] else []) 0 n).length≤6:=fun p a=>by
  have:=Yb (L:=fun b=>if p a b=true then [((a:Int),(b:Int))] else []) (k0:=0) (m:=1) (fun _=>Qbl) n
  omega
 have h:=Yt (n:=n) (k0:=0) (by omega) (by omega) (fun i (x:List (Int × Int) × List (Int × Int))=>(i,x.1,x.2)) (body:=Yf (skK n S) (Qh (mI O)))
  (fun k=>(apL (fun a=>apL (fun b=>if O a b=true then [((a:Int),(b:Int))] else []) 0 n) 0 k,apL (fun a=>apL (fun b=>if (decide (a < b) && lnB (near S) O a b)=true then [((a:Int),(b:Int))] else []) 0 n) 0 k))
  (eL2 n O,eL2 n fun a b=>decide (a < b) && lnB (near S) O a b)
  (fun k _ hk=>by
   have l1:=Yb (k0:=0) (hlen O) k
   have l2:=Yb (k0:=0) (hlen fun a b=>decide (a < b) && lnB (near S) O a b) k
   unfold Yf
   dsimp only
   rw [if_pos (dlt hk),inner k hk _ _ _ rfl (by omega) (by omega),Option.bind_some]
   simp only [apL,Nat.zero_add])
  (by unfold Yf; dsimp only; rw [if_neg (nlt n)]; rfl)
 rw [show ((0:Nat):Int)=0 from rfl] at h
 exact h
def Qsl (O:Nat → Nat → Bool):Nat := cnt 36 fun k=>O (k / 6) (k % 6)
omit hn hS in
theorem Qyo {O:Nat → Nat → Bool} {a b:Nat} (ha:a < 6) (hb:b < 6) (h:O a b=false):Qsl O+1≤Qsl (Yv O a b):=by
 unfold Qsl
 have hk:a*6+b < 36:=by omega
 have hd:(a*6+b) / 6=a:=by omega
 have hm:(a*6+b) % 6=b:=by omega
 have e:=Qo9 (n:=36) (v:=a*6+b) (p:=fun k=>Yv O a b (k / 6) (k % 6)) hk (by rw [hd,hm]; unfold Yv; simp)
 rw [←e]
 refine Nat.add_le_add_right (Qma fun i hi hO=>?_) 1
 have hne:¬ a*6+b=i:=fun e2=>by
  subst e2
  rw [hd,hm,h] at hO; cases hO
 unfold Yv
 rw [hO]; simp [hne]
theorem Qsf:∀(j N:Nat) (O:Nat → Nat → Bool),36 - Qsl O≤j→j < N→Ju n S O →
  ∃O',Qb N (Z7 (skK n S)) (Qh (mI O))=some (eL2 n O',eL2 n fun a b=>decide (a < b) && lnB (near S) O' a b)∧Ju n S O'∧Ji n S O'
 | j,0,O,_,h2,_=>by omega
 | j,N+1,O,h1,h2,hO=>by
  obtain ⟨r,h3,h4⟩:=Qxe (S:=S) (O:=O) hn
  unfold Qb
  rcases h4 with ⟨a,ha,b,hb,hl,hr,rfl⟩ | ⟨hc,rfl⟩
  ·have e:Z7 (skK n S) (Qh (mI O))=some (.next (Qh (mI (Yv O a b)))):=by
    unfold Z7; rw [h3]; rfl
   rw [e]
   have hc:=Qyo (O:=O) (a:=a) (b:=b) (by omega) (by omega) (Kz.1 hl).2.1
   have hle:Qsl (Yv O a b)≤36:=Qr2 36 _
   match j,h1,h2 with
   | 0,h1,h2=>omega
   | j+1,h1,h2=>exact Qsf j N _ (by omega) (by omega) (Q05 hS hO ha hb hl hr)
  ·refine ⟨O,?_,hO,hc⟩
   have e:Z7 (skK n S) (Qh (mI O))=some (.done (eL2 n O,eL2 n fun a b=>decide (a < b) && lnB (near S) O a b)):=by
    unfold Z7
    rw [h3,Option.bind_some]
    dsimp only
    rw [Qvj hn]; rfl
   rw [e]
theorem Qp7:∃O,Yp (rowI n S)=some ⟨(n:Int),eL2 n O,eL2 n fun a b=>decide (a < b) && lnB (near S) O a b⟩∧Ju n S O∧Ji n S O:=by
 obtain ⟨O,h1,h2⟩:=Qwk (S:=S) hn hS
 obtain ⟨O',h3,h4,h5⟩:=Qsf (S:=S) hn hS 36 fuel O (by omega) (by unfold fuel; omega) h2
 refine ⟨O',?_,h4,h5⟩
 unfold Yp
 rw [Vj hn hS,Option.bind_some,V0 hn hS,Option.bind_some,h1,Option.bind_some]
 show (Qb fuel (Z7 (skK n S)) (Qh (mI O))).bind _=_
 rw [h3]; rfl
end
end Go.Ab
namespace Go.Ab
open Go
set_option maxRecDepth 100000
set_option maxHeartbeats 1000000
def tbB (m k:Nat):Bool:=Nat.beq (Nat.land (Nat.shiftRight m k) 1) 1
theorem Qxg {m k:Nat}:tbB m k=m.testBit k:=by
 rw [Nat.testBit_eq_decide_div_mod_eq]
 show Nat.beq (m >>> k &&& 1) 1=_
 rw [Nat.and_one_is_mod,Nat.shiftRight_eq_div_pow]
 rcases Nat.mod_two_eq_zero_or_one (m / 2^k) with h | h <;> rw [h] <;> rfl
def egI (i j:Nat):Nat := j*(j - 1) / 2+i
def eB (c i j:Nat):Bool:=tbB c (egI i j)
def ajB (c u w:Nat):Bool:=cond (Nat.blt u w) (eB c u w) (cond (Nat.blt w u) (eB c w u) false)
def paB (c f u v:Nat):Bool:=cond (Nat.blt u v) (eB c u v && !eB f u v) (cond (Nat.blt v u) (eB c v u && eB f v u) false)
def r5:List Nat := [0,1,2,3,4]
def icB (c a b:Nat):Bool:=paB c 0 a b && r5.any fun x=>!Nat.beq x a && paB c 0 x b && !ajB c a x
def knB (c:Nat) (G:List Nat) (a b:Nat):Bool:=icB c a b || G.any fun x=>Nat.beq x (5*a+b)
def stB (c:Nat) (G:List Nat) (a b:Nat):Bool :=
 (r5.any fun u=>!Nat.beq u b && knB c G u a && !ajB c u b) || (r5.any fun u=>knB c G a u && knB c G u b) ||
 (r5.any fun u=>r5.any fun w=>Nat.blt w u && ajB c a u && ajB c a w && knB c G u b && knB c G w b && !ajB c u w && !(paB c 0 u a && paB c 0 w a))
def drB (c:Nat):List Nat → List Nat → Bool
 | _,[]=>true
 | G,x::l=>paB c 0 (x / 5) (x % 5) && stB c G (x / 5) (x % 5) && drB c (x::G) l
def tM (c f v:Nat):Nat := msk 5 fun u=>paB c f u v
def clB (c f a b d:Nat):Bool:=paB c f a b && paB c f d b && !ajB c a d
def wtB (c f:Nat):Bool:=Nat.beq (pls 5 (tM c f) 5) 31 && r5.all fun b=>r5.all fun a=>r5.all fun d=>!Nat.blt a d || (clB c f a b d==clB c 0 a b d)
def cvB (c:Nat) (D W:List Nat):Bool:=r5.all fun a=>r5.all fun b=>!paB c 0 a b || icB c a b || (D.any fun x=>Nat.beq x (5*a+b)) || W.any fun f=>eB f a b
def chB (c:Nat) (D W:List Nat):Bool:=drB c [] D && W.all (wtB c) && cvB c D W
def chL:Nat → List (List Nat × List Nat)→Bool
 | _,[]=>true
 | c,x::l=>chB c x.1 x.2 && chL (c+1) l
theorem Y1 : ∀(l:List (List Nat × List Nat)) (c:Nat),chL c l=true→∀i,i < l.length→∃D W,chB (c+i) D W=true
 | [],_,_,i,hi=>by simp at hi
 | x::l,c,h,i,hi=>by
  simp only [chL,Bool.and_eq_true] at h
  cases i with
  | zero=>exact ⟨_,_,h.1⟩
  | succ i =>
   have:=Y1 l (c+1) h.2 i (by simpa using hi)
   rwa [show c+1+i=c+(i+1) by omega] at this
def tW0:List (List Nat × List Nat):=[([],[]),([],[1]),([],[2]),([],[1,2]),([],[4]),([],[5]),([],[]),([],[7]),([],[8]),([],[1,8]),([],[2,8]),([],[1,2,8]),([],[12]),([],[5,8]),([],[8]),([],[7,8]),([],[16]),([],[17]),([],[18]),([],[17,2]),([],[4,16]),([],[5,17]),([],[16]),([],[7,17]),([],[]),([],[25]),([],[2]),([],[25,2]),([],[4]),([],[13,16]),([],[]),([],[7,24]),([],[32]),([],[33]),([],[34]),([],[34,1]),([],[36]),([],[37]),([13],[]),([],[39]),([],[]),([],[1]),([],[42]),([],[42,1]),([],[4]),([],[5]),([13,3],[]),([],[46,1]),([],[]),([],[1]),([],[2]),([],[1,2]),([],[52]),([],[53]),([13,8],[]),([],[55]),([],[]),([],[1]),([],[2]),([3],[1,2]),([],[4]),([8],[5]),([],[32]),([],[63])]
def tW1:List (List Nat × List Nat):=[([],[64]),([],[1,64]),([],[2,64]),([],[1,2,64]),([],[68]),([],[5,64]),([],[64]),([],[7,64]),([],[8,64]),([],[1,8,64]),([],[2,8,64]),([],[1,2,8,64]),([],[68,8]),([],[5,64,8]),([],[8,64]),([],[7,64,8]),([],[80]),([],[17,64]),([],[18,64]),([],[17,2,64]),([],[68,16]),([],[5,17,64]),([],[80]),([],[7,64,17]),([],[64]),([],[25,64]),([],[2,64]),([],[25,64,2]),([],[68]),([],[13,80]),([],[64]),([],[7,80,9]),([],[96]),([],[33,64]),([],[34,64]),([],[34,1,64]),([],[100]),([],[37,64]),([13],[64]),([],[39,64]),([],[64]),([],[1,64]),([],[42,64]),([],[42,1,64]),([],[68]),([],[5,64]),([13,3],[64]),([],[46,1,64]),([],[64]),([],[1,64]),([],[2,64]),([],[1,2,64]),([],[116]),([],[53,64]),([13,8],[64]),([],[55,64]),([],[64]),([],[1,64]),([],[2,64]),([3],[1,2,64]),([],[68]),([8],[5,64]),([],[96]),([],[63,64])]
def tW2:List (List Nat × List Nat):=[([],[128]),([],[129]),([],[130]),([],[129,2]),([],[4,128]),([],[5,129]),([],[128]),([],[7,129]),([],[136]),([],[129,8]),([],[130,8]),([],[129,2,8]),([],[12,128]),([],[5,129,8]),([],[136]),([],[7,8,129]),([],[16,128]),([],[17,129]),([],[18,128]),([],[17,2,129]),([],[4,16,128]),([],[5,17,129]),([],[16,128]),([],[7,129,17]),([],[128]),([],[25,129]),([],[130]),([],[137,18]),([],[4,128]),([],[13,129,16]),([],[128]),([],[137,6,16]),([],[160]),([],[161]),([],[162]),([],[34,129]),([],[36,128]),([],[37,129]),([13],[128]),([],[39,129]),([],[128]),([],[129]),([],[170]),([],[161,10]),([],[4,128]),([],[5,129]),([13,3],[128]),([],[46,129]),([],[128]),([],[129]),([],[130]),([],[129,2]),([],[52,128]),([],[53,129]),([13,8],[128]),([],[55,129]),([],[128]),([],[129]),([],[130]),([3],[129,2]),([],[4,128]),([8],[5,129]),([],[160]),([],[63,129])]
def tW3:List (List Nat × List Nat):=[([],[]),([],[193]),([],[2]),([],[193,2]),([],[4]),([],[69,128]),([],[]),([],[193,6]),([],[8]),([],[193,8]),([],[2,8]),([],[193,8,2]),([],[12]),([],[69,136]),([],[8]),([],[193,12,3]),([],[16]),([],[81,128]),([],[18]),([],[193,2,17]),([],[4,16]),([],[69,128,17]),([],[16]),([],[193,6,17]),([],[]),([],[193,24]),([],[2]),([],[193,24,2]),([],[4]),([],[69,24,128]),([],[]),([],[193,6,24]),([],[32]),([],[225]),([],[34]),([],[193,34]),([],[36]),([],[101,128]),([13],[]),([],[39,192]),([],[]),([],[193]),([],[42]),([],[225,10]),([],[4]),([],[69,128]),([13,3],[]),([],[46,193]),([],[]),([],[193]),([],[2]),([],[193,2]),([],[52]),([],[117,128]),([13,8],[]),([],[55,192]),([],[]),([],[193]),([],[2]),([3],[193,2]),([],[4]),([8],[69,128]),([],[32]),([],[63,192])]
def tW4:List (List Nat × List Nat):=[([],[256]),([],[257]),([],[258]),([],[258,1]),([],[260]),([],[261]),([14],[]),([],[263]),([],[264]),([],[257,8]),([],[258,8]),([],[258,1,8]),([],[268]),([],[261,8]),([14],[8]),([],[263,8]),([],[272]),([],[273]),([],[274]),([],[17,258]),([],[260,16]),([],[261,17]),([14],[16]),([],[263,17]),([],[256]),([],[281]),([],[258]),([],[25,258]),([],[260]),([],[269,16]),([14],[]),([],[263,24]),([],[32,256]),([],[257,32]),([],[34,258]),([],[34,1,258]),([],[36,260]),([],[261,37]),([13,14],[]),([],[263,38]),([],[256]),([],[257]),([],[42,258]),([],[266,33]),([],[260]),([],[261]),([13,14,3],[]),([],[263,44]),([],[256]),([],[257]),([],[258]),([],[258,1]),([],[52,260]),([],[277,32]),([13,14,8],[]),([],[279,35]),([],[256]),([],[257]),([],[258]),([3],[258,1]),([],[260]),([8],[261]),([14],[32]),([],[287,32])]
def tW5:List (List Nat × List Nat):=[([],[]),([],[1]),([],[322]),([],[322,1]),([],[4]),([],[5]),([14,4],[]),([],[326,1]),([],[8]),([],[1,8]),([],[322,8]),([],[322,1,8]),([],[12]),([],[5,8]),([14,4],[8]),([],[326,1,8]),([],[16]),([],[17]),([],[338]),([],[322,17]),([],[4,16]),([],[5,17]),([14,4],[16]),([],[326,17]),([],[]),([],[25]),([],[322]),([],[281,66]),([],[4]),([],[13,16]),([14,4],[]),([],[326,25]),([],[32]),([],[33]),([],[98,256]),([],[322,1,34]),([],[36]),([],[37]),([13,14,4],[]),([],[326,39]),([],[]),([],[1]),([],[322,40]),([],[322,33,40]),([],[4]),([],[5]),([13,14,3,4],[]),([],[326,44,1]),([],[]),([],[1]),([],[322]),([],[322,1]),([],[52]),([],[53]),([13,14,8,4],[]),([],[55,324]),([],[]),([],[1]),([],[322]),([3],[322,1]),([],[4]),([8],[5]),([14,4],[32]),([],[63,324])]
def tW6:List (List Nat × List Nat):=[([],[]),([],[1]),([],[2]),([],[1,2]),([],[388]),([],[389]),([14,9],[]),([],[391]),([],[8]),([],[1,8]),([],[2,8]),([],[1,2,8]),([],[396]),([],[389,8]),([14,9],[8]),([],[391,8]),([],[16]),([],[17]),([],[18]),([],[17,2]),([],[388,16]),([],[389,17]),([14,9],[16]),([],[391,17]),([],[]),([],[25]),([],[2]),([],[25,2]),([],[388]),([],[397,16]),([14,9],[]),([],[391,24]),([],[32]),([],[33]),([],[34]),([],[34,1]),([],[164,256]),([],[389,37]),([13,14,9],[]),([],[391,38]),([],[]),([],[1]),([],[42]),([],[42,1]),([],[388]),([],[389]),([13,14,3,9],[]),([],[391,44]),([],[]),([],[1]),([],[2]),([],[1,2]),([],[388,48]),([],[389,49]),([13,14,8,9],[]),([],[391,51]),([],[]),([],[1]),([],[2]),([3],[1,2]),([],[388]),([8],[389]),([14,9],[32]),([],[399,48])]
def tW7:List (List Nat × List Nat):=[([],[]),([],[1]),([],[2]),([4],[1,2]),([],[4]),([9],[5]),([],[256]),([],[455]),([],[8]),([],[1,8]),([],[2,8]),([4],[1,2,8]),([],[12]),([9],[5,8]),([],[264]),([],[455,8]),([],[16]),([],[17]),([],[18]),([4],[17,2]),([],[4,16]),([9],[5,17]),([],[272]),([],[455,17]),([],[]),([],[25]),([],[2]),([4],[25,2]),([],[4]),([9],[13,16]),([],[256]),([],[455,24]),([],[32]),([],[33]),([],[34]),([4],[34,1]),([],[36]),([9],[37]),([13],[256]),([],[455,38]),([],[]),([],[1]),([],[42]),([4],[42,1]),([],[4]),([9],[5]),([13,3],[256]),([],[455,44]),([],[]),([],[1]),([],[2]),([4],[1,2]),([],[52]),([9],[53]),([13,8],[256]),([],[455,51]),([],[]),([],[1]),([],[2]),([3,4],[1,2]),([],[4]),([8,9],[5]),([],[32,256]),([],[455,56])]
def tW8:List (List Nat × List Nat):=[([],[512]),([],[513]),([],[514]),([],[513,2]),([],[516]),([],[517]),([],[512]),([],[519]),([],[520]),([],[520,1]),([],[520,2]),([],[520,1,2]),([],[524]),([],[5,520]),([],[520]),([],[524,3]),([],[528]),([],[529]),([],[530]),([],[529,2]),([],[528,4]),([],[529,5]),([],[528]),([],[531,4]),([19],[]),([],[537]),([19],[2]),([],[537,2]),([19],[4]),([],[537,5]),([19],[]),([],[537,6]),([],[544]),([],[545]),([],[546]),([],[546,1]),([],[548]),([],[549]),([13,19],[]),([],[551]),([19],[]),([19],[1]),([],[554]),([],[554,1]),([19],[4]),([19],[5]),([13,19,3],[]),([],[558,1]),([19],[]),([19],[1]),([19],[2]),([19],[1,2]),([],[564]),([],[565]),([13,19,8],[]),([],[567]),([19],[]),([19],[1]),([19],[2]),([3,19],[1,2]),([19],[4]),([8,19],[5]),([19],[32]),([],[575])]
def tW9:List (List Nat × List Nat):=[([],[]),([],[1]),([],[2]),([],[1,2]),([],[4]),([],[5]),([],[]),([],[7]),([],[584]),([],[584,1]),([],[584,2]),([],[584,1,2]),([],[588]),([],[517,72]),([],[584]),([],[588,3]),([],[16]),([],[17]),([],[18]),([],[17,2]),([],[4,16]),([],[5,17]),([],[16]),([],[7,17]),([19,4],[]),([],[600,1]),([19,4],[2]),([],[600,1,2]),([19,4],[4]),([],[600,5]),([19,4],[]),([],[600,7]),([],[32]),([],[33]),([],[34]),([],[34,1]),([],[36]),([],[37]),([13],[]),([],[39]),([19,4],[]),([19,4],[1]),([],[616,2]),([],[616,1,2]),([19,4],[4]),([19,4],[5]),([13,19,3,4],[]),([],[620,3]),([],[]),([],[1]),([],[2]),([],[1,2]),([],[52]),([],[53]),([13,8],[]),([],[55]),([19,4],[]),([19,4],[1]),([19,4],[2]),([3,19,4],[1,2]),([19,4],[4]),([8,19,4],[5]),([19,4],[32]),([],[636,3])]
def Q2e:List (List Nat × List Nat):=[([],[]),([],[1]),([],[2]),([],[1,2]),([],[4]),([],[5]),([],[]),([],[7]),([],[8]),([],[1,8]),([],[2,8]),([],[1,2,8]),([],[12]),([],[5,8]),([],[8]),([],[7,8]),([],[656]),([],[657]),([],[658]),([],[657,2]),([],[656,4]),([],[657,5]),([],[656]),([],[659,4]),([19,9],[]),([],[665]),([19,9],[2]),([],[665,2]),([19,9],[4]),([],[665,5]),([19,9],[]),([],[665,6]),([],[32]),([],[33]),([],[34]),([],[34,1]),([],[36]),([],[37]),([13],[]),([],[39]),([],[]),([],[1]),([],[42]),([],[42,1]),([],[4]),([],[5]),([13,3],[]),([],[46,1]),([19,9],[]),([19,9],[1]),([19,9],[2]),([19,9],[1,2]),([],[688,4]),([],[689,5]),([13,19,8,9],[]),([],[691,4]),([19,9],[]),([19,9],[1]),([19,9],[2]),([3,19,9],[1,2]),([19,9],[4]),([8,19,9],[5]),([19,9],[32]),([],[699,4])]
def Q3f:List (List Nat × List Nat):=[([],[]),([],[1]),([],[2]),([],[1,2]),([],[4]),([],[5]),([],[]),([],[7]),([],[8]),([4],[1,8]),([],[2,8]),([4],[1,2,8]),([],[12]),([4],[5,8]),([],[8]),([4],[7,8]),([],[16]),([9],[17]),([],[18]),([9],[17,2]),([],[4,16]),([9],[5,17]),([],[16]),([9],[7,17]),([],[512]),([],[729]),([],[514]),([],[729,2]),([],[516]),([],[729,5]),([],[512]),([],[729,6]),([],[32]),([],[33]),([],[34]),([],[34,1]),([],[36]),([],[37]),([13],[]),([],[39]),([],[]),([4],[1]),([],[42]),([4],[42,1]),([],[4]),([4],[5]),([13,3],[]),([4],[46,1]),([],[]),([9],[1]),([],[2]),([9],[1,2]),([],[52]),([9],[53]),([13,8],[]),([9],[55]),([19],[]),([19,4,9],[1]),([19],[2]),([3,19,4,9],[1,2]),([19],[4]),([8,19,4,9],[5]),([],[544]),([],[761,6])]
def Q34:List (List Nat × List Nat):=[([],[]),([],[1]),([],[2]),([],[1,2]),([],[4]),([],[5]),([],[]),([],[7]),([],[8]),([],[1,8]),([],[2,8]),([],[1,2,8]),([],[12]),([],[5,8]),([],[8]),([],[7,8]),([],[16]),([],[17]),([],[18]),([],[17,2]),([],[4,16]),([],[5,17]),([],[16]),([],[7,17]),([],[]),([],[25]),([],[2]),([],[25,2]),([],[4]),([],[13,16]),([],[]),([],[7,24]),([],[800]),([],[801]),([],[802]),([],[802,1]),([],[804]),([],[805]),([13,14],[512]),([],[807]),([19,14],[]),([19,14],[1]),([],[810]),([],[810,1]),([19,14],[4]),([19,14],[5]),([13,14,3,19],[]),([],[814,1]),([19,14],[]),([19,14],[1]),([19,14],[2]),([19,14],[1,2]),([],[820]),([],[821]),([13,14,8,19],[]),([],[823]),([19,14],[]),([19,14],[1]),([19,14],[2]),([3,19,14],[1,2]),([19,14],[4]),([8,19,14],[5]),([14,19],[32]),([],[831])]
def Q3z:List (List Nat × List Nat):=[([],[]),([],[1]),([],[2]),([],[1,2]),([],[4]),([],[5]),([],[]),([],[7]),([],[8]),([],[1,8]),([4],[2,8]),([4],[1,2,8]),([],[12]),([],[5,8]),([4],[8]),([4],[7,8]),([],[16]),([],[17]),([],[18]),([],[17,2]),([],[4,16]),([],[5,17]),([],[16]),([],[7,17]),([],[]),([],[25]),([4],[2]),([4],[25,2]),([],[4]),([],[13,16]),([4],[]),([4],[7,24]),([],[32]),([],[33]),([14],[34]),([14],[34,1]),([],[36]),([],[37]),([13,14],[]),([14],[39]),([],[512]),([],[513]),([],[874]),([],[874,1]),([],[516]),([],[517]),([13,14,3,4],[512]),([],[878,1]),([],[]),([],[1]),([14],[2]),([14],[1,2]),([],[52]),([],[53]),([13,14,8],[]),([14],[55]),([19],[]),([19],[1]),([19,4,14],[2]),([3,19,4,14],[1,2]),([19],[4]),([8,19],[5]),([14,19,4],[32]),([],[894,1])]
def Q3t:List (List Nat × List Nat):=[([],[]),([],[1]),([],[2]),([],[1,2]),([],[4]),([],[5]),([],[]),([],[7]),([],[8]),([],[1,8]),([],[2,8]),([],[1,2,8]),([],[12]),([],[5,8]),([],[8]),([],[7,8]),([],[16]),([],[17]),([],[18]),([],[17,2]),([9],[4,16]),([9],[5,17]),([9],[16]),([9],[7,17]),([],[]),([],[25]),([],[2]),([],[25,2]),([9],[4]),([9],[13,16]),([9],[]),([9],[7,24]),([],[32]),([],[33]),([],[34]),([],[34,1]),([14],[36]),([14],[37]),([13,14],[]),([14],[39]),([],[]),([],[1]),([],[42]),([],[42,1]),([14],[4]),([14],[5]),([13,14,3],[]),([14],[46,1]),([],[512]),([],[513]),([],[514]),([],[513,2]),([],[948]),([],[949]),([13,14,8,9],[512]),([],[951]),([19],[]),([19],[1]),([19],[2]),([3,19],[1,2]),([19,9,14],[4]),([8,19,9,14],[5]),([14,19,9],[32]),([],[959])]
def Q3a:List (List Nat × List Nat):=[([],[]),([],[1]),([],[2]),([],[1,2]),([],[4]),([],[5]),([],[]),([],[7]),([],[8]),([],[1,8]),([],[2,8]),([4],[1,2,8]),([],[12]),([],[5,8]),([],[8]),([4],[7,8]),([],[16]),([],[17]),([],[18]),([],[17,2]),([],[4,16]),([9],[5,17]),([],[16]),([9],[7,17]),([],[]),([],[25]),([],[2]),([4],[25,2]),([],[4]),([9],[13,16]),([],[]),([4,9],[7,24]),([],[32]),([],[33]),([],[34]),([],[34,1]),([],[36]),([],[37]),([13,14],[]),([14],[39]),([],[]),([],[1]),([],[42]),([4],[42,1]),([],[4]),([],[5]),([13,14,3],[]),([4,14],[46,1]),([],[]),([],[1]),([],[2]),([],[1,2]),([],[52]),([9],[53]),([13,14,8],[]),([9,14],[55]),([],[512]),([],[513]),([],[514]),([3,4],[513,2]),([],[516]),([8,9],[517]),([],[800]),([],[1023])]
theorem Q3w:chL 0 tW0=true:=by kernel_rfl
theorem Q39:chL 64 tW1=true:=by kernel_rfl
theorem Q3d:chL 128 tW2=true:=by kernel_rfl
theorem Q2d:chL 192 tW3=true:=by kernel_rfl
theorem Q2o:chL 256 tW4=true:=by kernel_rfl
theorem Q3n:chL 320 tW5=true:=by kernel_rfl
theorem Q2t:chL 384 tW6=true:=by kernel_rfl
theorem Q18:chL 448 tW7=true:=by kernel_rfl
theorem Q36:chL 512 tW8=true:=by kernel_rfl
theorem Q3u:chL 576 tW9=true:=by kernel_rfl
theorem Q13:chL 640 Q2e=true:=by kernel_rfl
theorem Q0f:chL 704 Q3f=true:=by kernel_rfl
theorem Q0q:chL 768 Q34=true:=by kernel_rfl
theorem Q0n:chL 832 Q3z=true:=by kernel_rfl
theorem Q1i:chL 896 Q3t=true:=by kernel_rfl
theorem Q01:chL 960 Q3a=true:=by kernel_rfl
theorem Q3b {c:Nat} (h:c < 1024):∃D W,chB c D W=true:=by
 have hk:(0≤c∧c < 64)∨(64≤c∧c < 128)∨(128≤c∧c < 192)∨(192≤c∧c < 256)∨(256≤c∧c < 320)∨(320≤c∧c < 384)∨(384≤c∧c < 448)∨(448≤c∧c < 512)∨(512≤c∧c < 576)∨(576≤c∧c < 640)∨(640≤c∧c < 704)∨(704≤c∧c < 768)∨(768≤c∧c < 832)∨(832≤c∧c < 896)∨(896≤c∧c < 960)∨(960≤c∧c < 1024):=by omega
 rcases hk with h | h | h | h | h | h | h | h | h | h | h | h | h | h | h | h
 ·have:=Y1 tW0 0 Q3w (c - 0) (by show c - 0 < 64; omega)
  rwa [show 0+(c - 0)=c by omega] at this
 ·have:=Y1 tW1 64 Q39 (c - 64) (by show c - 64 < 64; omega)
  rwa [show 64+(c - 64)=c by omega] at this
 ·have:=Y1 tW2 128 Q3d (c - 128) (by show c - 128 < 64; omega)
  rwa [show 128+(c - 128)=c by omega] at this
 ·have:=Y1 tW3 192 Q2d (c - 192) (by show c - 192 < 64; omega)
  rwa [show 192+(c - 192)=c by omega] at this
 ·have:=Y1 tW4 256 Q2o (c - 256) (by show c - 256 < 64; omega)
  rwa [show 256+(c - 256)=c by omega] at this
 ·have:=Y1 tW5 320 Q3n (c - 320) (by show c - 320 < 64; omega)
  rwa [show 320+(c - 320)=c by omega] at this
 ·have:=Y1 tW6 384 Q2t (c - 384) (by show c - 384 < 64; omega)
  rwa [show 384+(c - 384)=c by omega] at this
 ·have:=Y1 tW7 448 Q18 (c - 448) (by show c - 448 < 64; omega)
  rwa [show 448+(c - 448)=c by omega] at this
 ·have:=Y1 tW8 512 Q36 (c - 512) (by show c - 512 < 64; omega)
  rwa [show 512+(c - 512)=c by omega] at this
 ·have:=Y1 tW9 576 Q3u (c - 576) (by show c - 576 < 64; omega)
  rwa [show 576+(c - 576)=c by omega] at this
 ·have:=Y1 Q2e 640 Q13 (c - 640) (by show c - 640 < 64; omega)
  rwa [show 640+(c - 640)=c by omega] at this
 ·have:=Y1 Q3f 704 Q0f (c - 704) (by show c - 704 < 64; omega)
  rwa [show 704+(c - 704)=c by omega] at this
 ·have:=Y1 Q34 768 Q0q (c - 768) (by show c - 768 < 64; omega)
  rwa [show 768+(c - 768)=c by omega] at this
 ·have:=Y1 Q3z 832 Q0n (c - 832) (by show c - 832 < 64; omega)
  rwa [show 832+(c - 832)=c by omega] at this
 ·have:=Y1 Q3t 896 Q1i (c - 896) (by show c - 896 < 64; omega)
  rwa [show 896+(c - 896)=c by omega] at this
 ·have:=Y1 Q3a 960 Q01 (c - 960) (by show c - 960 < 64; omega)
  rwa [show 960+(c - 960)=c by omega] at this
end Go.Ab
namespace Go.Ab
open Go
set_option maxRecDepth 100000
set_option maxHeartbeats 1000000
theorem Qmw {x:Nat}:x∈r5↔x < 5:=by unfold r5; simp; omega
theorem Qkv {p:Nat → Bool}:r5.any p=true↔∃x,x < 5∧p x=true:=by
 rw [List.any_eq_true]
 constructor
 ·rintro ⟨x,h1,h2⟩; exact ⟨x,Qmw.1 h1,h2⟩
 ·rintro ⟨x,h1,h2⟩; exact ⟨x,Qmw.2 h1,h2⟩
theorem Qje {p:Nat → Bool}:r5.all p=true↔∀x,x < 5→p x=true:=by
 rw [List.all_eq_true]
 exact ⟨fun h x hx=>h x (Qmw.2 hx),fun h x hx=>h x (Qmw.1 hx)⟩
theorem J9 {a b:Nat}:Nat.blt a b=true↔a < b:=by unfold Nat.blt; rw [Nat.ble_eq]; exact Iff.rfl
theorem Qk9 {c f u v:Nat}:paB c f u v=true↔(u < v∧eB c u v=true∧eB f u v=false)∨(v < u∧eB c v u=true∧eB f v u=true):=by
 unfold paB
 cases h1:Nat.blt u v with
 | true =>
  have:=J9.1 h1
  simp only [cond_true,Bool.and_eq_true,Bool.not_eq_true']
  constructor
  ·intro h; exact .inl ⟨this,h⟩
  ·rintro (h | h)
   ·exact h.2
   ·omega
 | false =>
  have hn:¬ u < v:=fun h=>by rw [J9.2 h] at h1; cases h1
  simp only [cond_false]
  cases h2:Nat.blt v u with
  | true =>
   have:=J9.1 h2
   simp only [cond_true,Bool.and_eq_true]
   constructor
   ·intro h; exact .inr ⟨this,h⟩
   ·rintro (h | h)
    ·omega
    ·exact h.2
  | false =>
   have hn2:¬ v < u:=fun h=>by rw [J9.2 h] at h2; cases h2
   simp only [cond_false,Bool.false_eq_true,false_iff]
   rintro (h | h) <;> omega
theorem Qlq {c u v:Nat}:ajB c u v=true↔(u < v∧eB c u v=true)∨(v < u∧eB c v u=true):=by
 unfold ajB
 cases h1:Nat.blt u v with
 | true =>
  have:=J9.1 h1
  simp only [cond_true]
  constructor
  ·intro h; exact .inl ⟨this,h⟩
  ·rintro (h | h)
   ·exact h.2
   ·omega
 | false =>
  have hn:¬ u < v:=fun h=>by rw [J9.2 h] at h1; cases h1
  simp only [cond_false]
  cases h2:Nat.blt v u with
  | true =>
   have:=J9.1 h2
   simp only [cond_true]
   constructor
   ·intro h; exact .inr ⟨this,h⟩
   ·rintro (h | h)
    ·omega
    ·exact h.2
  | false =>
   have hn2:¬ v < u:=fun h=>by rw [J9.2 h] at h2; cases h2
   simp only [cond_false,Bool.false_eq_true,false_iff]
   rintro (h | h) <;> omega
theorem Qay {c u v:Nat}:paB c 0 u v=true↔u < v∧eB c u v=true:=by
 have h0:∀i j,eB 0 i j=false:=fun i j=>by unfold eB; rw [Qxg]; exact Nat.zero_testBit _
 rw [Qk9]
 constructor
 ·rintro (h | h)
  ·exact ⟨h.1,h.2.1⟩
  ·rw [h0] at h; cases h.2.2
 ·intro h; exact .inl ⟨h.1,h.2,h0 _ _⟩
theorem Qcw {c f v u:Nat} (hu:u < 5):(tM c f v).testBit u=paB c f u v:=by
 unfold tM; rw [Zs]; simp [hu]
theorem Qlf {c f u w:Nat} (hu:u < 5) (hw:w < 5):near (tM c f) u w=ajB c u w:=by
 unfold near
 rw [Qcw hw,Qcw hu,Bool.eq_iff_iff,Bool.or_eq_true,Qk9,Qk9,Qlq]
 constructor
 ·rintro ((h | h) | (h | h))
  ·exact .inr ⟨h.1,h.2.1⟩
  ·exact .inl ⟨h.1,h.2.1⟩
  ·exact .inl ⟨h.1,h.2.1⟩
  ·exact .inr ⟨h.1,h.2.1⟩
 ·rintro (⟨h1,h2⟩ | ⟨h1,h2⟩)
  ·cases hf:eB f u w with
   | true=>exact .inl (.inr ⟨h1,h2,rfl⟩)
   | false=>exact .inr (.inl ⟨h1,h2,rfl⟩)
  ·cases hf:eB f w u with
   | true=>exact .inr (.inr ⟨h1,h2,rfl⟩)
   | false=>exact .inl (.inl ⟨h1,h2,rfl⟩)
theorem Qss {c f a b d:Nat} (ha:a < 5) (hd:d < 5):Vf (tM c f) a b d=clB c f a b d:=by
 unfold Vf clB
 rw [Qcw ha,Qcw hd,Qlf ha hd]
theorem Q1e {c f:Nat} (h:wtB c f=true):Cls 5 (tM c 0) (tM c f):=by
 unfold wtB at h
 rw [Bool.and_eq_true] at h
 refine ⟨Qm8.1 (Nat.eq_of_beq_eq_true h.1),fun u w hu hw=>by rw [Qlf hu hw,Qlf hu hw],Qg2.2 fun a b d h1 h2 h3=>?_⟩
 have ha:a < 5:=by omega
 have:=Qje.1 (Qje.1 (Qje.1 h.2 b h3) a ha) d h2
 rw [J9.2 h1] at this
 rw [Qss ha h2,Qss ha h2]
 simpa using this
section
variable {c:Nat} {O:Nat → Nat → Bool} (hU:Gd 5 (tM c 0)) (hA:Ju 5 (tM c 0) O) (hC:Ji 5 (tM c 0) O)
include hU hA hC
theorem Qyy:Cls 5 (tM c 0) (tM c 0):=⟨hU,fun _ _ _ _=>rfl,rfl⟩
theorem Qyk {a b:Nat} (h:O a b=true):paB c 0 a b=true:=by
 have:=hA.snd _ (Qyy hU hA hC) a b h
 rwa [Qcw (hA.inn a b h).1] at this
theorem Q2g {a b:Nat} (ha:a < 5) (hb:b < 5) (h:icB c a b=true):O a b=true:=by
 unfold icB at h
 rw [Bool.and_eq_true] at h
 obtain ⟨x,hx,h2⟩:=Qkv.1 h.2
 simp only [Bool.and_eq_true,Bool.not_eq_true'] at h2
 refine hA.col a b x (fun e=>?_) ha hb hx ?_
 ·subst e
  have:=h2.1.1
  rw [show Nat.beq a a=true from Nat.beq_refl a] at this; cases this
 ·rw [Qss ha hx]
  unfold clB
  rw [h.1,h2.1.2,h2.2]; rfl
theorem Qrv {G:List Nat} (hG:∀x∈G,O (x / 5) (x % 5)=true) {a b:Nat} (ha:a < 5) (hb:b < 5) (h:knB c G a b=true):O a b=true:=by
 unfold knB at h
 rw [Bool.or_eq_true] at h
 rcases h with h | h
 ·exact Q2g hU hA hC ha hb h
 ·obtain ⟨x,hx,h2⟩:=List.any_eq_true.1 h
  have e:=Nat.eq_of_beq_eq_true h2
  have:=hG x hx
  rw [e,show (5*a+b) / 5=a by omega,show (5*a+b) % 5=b by omega] at this
  exact this
theorem Q44 {G:List Nat} (hG:∀x∈G,O (x / 5) (x % 5)=true) {a b:Nat} (ha:a < 5) (hb:b < 5) (he:paB c 0 a b=true) (h:stB c G a b=true):O a b=true:=by
 have hlt:=(Qay.1 he).1
 have nn:∀u w,u < 5→w < 5→near (tM c 0) u w=ajB c u w:=fun u w hu hw=>Qlf hu hw
 have aj_ne:∀{u w},O u w=true→u < w:=fun h=>(Qay.1 (Qyk hU hA hC h)).1
 apply Classical.byContradiction
 intro hO
 have hO:=Bool.eq_false_iff.2 hO
 have hO2:O b a=false:=Bool.eq_false_iff.2 fun h=>by have:=aj_ne h; omega
 have hab:ajB c a b=true:=Qlq.2 (.inl ⟨hlt,(Qay.1 he).2⟩)
 have hl:lnB (near (tM c 0)) O a b=true:=Kz.2 ⟨by rw [nn a b ha hb]; exact hab,hO,hO2⟩
 have hr:=hC a b ha hb hl
 unfold ruB at hr
 rw [Bool.or_eq_false_iff,Bool.or_eq_false_iff] at hr
 obtain ⟨⟨hr1,hr2⟩,hr3⟩:=hr
 unfold stB at h
 rw [Bool.or_eq_true,Bool.or_eq_true] at h
 rcases h with (h | h) | h
 ·obtain ⟨u,hu,h2⟩:=Qkv.1 h
  simp only [Bool.and_eq_true,Bool.not_eq_true'] at h2
  have hub:u≠b:=fun e=>by
   have h3:=h2.1.1
   rw [e,show Nat.beq b b=true from Nat.beq_refl b] at h3; cases h3
  have:onB 5 (near (tM c 0)) O a b=true:=Qhr.2 ⟨u,hu,hub,Qrv hU hA hC hG hu ha h2.1.2,by rw [nn u b hu hb]; exact h2.2⟩
  rw [this] at hr1
  cases hr1
 ·obtain ⟨u,hu,h2⟩:=Qkv.1 h
  rw [Bool.and_eq_true] at h2
  rw [Qhh.2 ⟨u,hu,Qrv hU hA hC hG ha hu h2.1,Qrv hU hA hC hG hu hb h2.2⟩] at hr2
  cases hr2
 ·obtain ⟨u,hu,h2⟩:=Qkv.1 h
  obtain ⟨w,hw,h2⟩:=Qkv.1 h2
  simp only [Bool.and_eq_true,Bool.not_eq_true'] at h2
  obtain ⟨⟨⟨⟨⟨⟨g1,g2⟩,g3⟩,g4⟩,g5⟩,g6⟩,g7⟩:=h2
  have g1:=J9.1 g1
  have k4:=Qrv hU hA hC hG hu hb g4
  have k5:=Qrv hU hA hC hG hw hb g5
  have noA:∀x,x < 5→O x b=true→O a x=false:=fun x hx hxb=>Bool.eq_false_iff.2 fun e=>by
   rw [Qhh.2 ⟨x,hx,e,hxb⟩] at hr2; cases hr2
  have a1:=noA u hu k4
  have a2:=noA w hw k5
  have mk:∀x,x < 5→ajB c a x=true→O a x=false→O x a=false→lnB (near (tM c 0)) O a x=true:=fun x hx h1 h2 h3=>Kz.2 ⟨by rw [nn a x ha hx]; exact h1,h2,h3⟩
  have fire:∀x y,x < 5→y < 5→O x a=true→ajB c a y=true→O a y=false→O y a=false→x≠y→ajB c x y=false→False:=fun x y hx hy h1 h2 h3 h4 h5 h6=>by
   have hl2:=mk y hy h2 h3 h4
   have hr':=hC a y ha hy hl2
   unfold ruB at hr'
   rw [Qhr.2 ⟨x,hx,h5,h1,by rw [nn x y hx hy]; exact h6⟩] at hr'
   cases hr'
  have g6':ajB c w u=false:=by
   rw [Bool.eq_false_iff] at g6 ⊢
   intro e; exact g6 (Qlq.2 (by have:=Qlq.1 e; exact this.symm))
  cases hua:O u a with
  | true =>
   cases hwa:O w a with
   | true =>
    rw [Qyk hU hA hC hua,Qyk hU hA hC hwa] at g7; cases g7
   | false=>exact fire u w hu hw hua g3 a2 hwa (by omega) g6
  | false =>
   cases hwa:O w a with
   | true=>exact fire w u hw hu hwa g2 a1 hua (by omega) g6'
   | false =>
    rw [Qht.2 ⟨u,w,hu,g1,mk u hu g2 a1 hua,mk w hw g3 a2 hwa,k4,k5,by rw [nn u w hu hw]; exact g6⟩] at hr3
    cases hr3
theorem Q23:∀(l G:List Nat),(∀x∈G,O (x / 5) (x % 5)=true)→drB c G l=true→(∀x∈l,O (x / 5) (x % 5)=true)
 | [],G,hG,_=>fun x hx=>by cases hx
 | x::l,G,hG,h=>by
  simp only [drB,Bool.and_eq_true] at h
  have hlt:=(Qay.1 h.1.1).1
  have hx:O (x / 5) (x % 5)=true:=Q44 hU hA hC hG (by omega) (by omega) h.1.1 h.1.2
  have:=Q23 l (x::G) (fun y hy=>by
   rcases List.mem_cons.1 hy with rfl | hy
   ·exact hx
   ·exact hG y hy) h.2
  intro y hy
  rcases List.mem_cons.1 hy with rfl | hy
  ·exact hx
  ·exact this y hy
theorem Q1r (hc:c < 1024) {a b:Nat} (ha:a < 5) (hb:b < 5) (h:paB c 0 a b=true):O a b=true∨∃T,Cls 5 (tM c 0) T∧(T a).testBit b=true:=by
 obtain ⟨D,W,hch⟩:=Q3b hc
 unfold chB at hch
 rw [Bool.and_eq_true,Bool.and_eq_true] at hch
 obtain ⟨⟨h1,h2⟩,h3⟩:=hch
 have hD:=Q23 hU hA hC D [] (fun x hx=>by cases hx) h1
 have:=Qje.1 (Qje.1 h3 a ha) b hb
 rw [h] at this
 simp only [Bool.not_true,Bool.false_or,Bool.or_eq_true] at this
 rcases this with (e | e) | e
 ·exact .inl (Q2g hU hA hC ha hb e)
 ·obtain ⟨x,hx,h4⟩:=List.any_eq_true.1 e
  have e2:=Nat.eq_of_beq_eq_true h4
  have:=hD x hx
  rw [e2,show (5*a+b) / 5=a by omega,show (5*a+b) % 5=b by omega] at this
  exact .inl this
 ·obtain ⟨f,hf,h4⟩:=List.any_eq_true.1 e
  refine .inr ⟨tM c f,Q1e (List.all_eq_true.1 h2 f hf),?_⟩
  rw [Qcw hb,Qk9]
  have:=Qay.1 h
  exact .inr ⟨this.1,this.2,h4⟩
end
end Go.Ab
namespace Go.Ab
open Go
set_option maxRecDepth 100000
set_option maxHeartbeats 1000000
structure Plc (n:Nat) (q p:Nat → Nat):Prop where
 qn:∀i,i < n→q i < n
 pn:∀v,v < n→p v < n
 qp:∀v,v < n→q (p v)=v
 pq:∀i,i < n→p (q i)=i
theorem Q29 {n:Nat} {S:Nat → Nat} (hS:Gd n S):∃q p,Plc n q p∧∀i k,i < n→k < n→(S (q k)).testBit (q i)=true→i < k:=by
 obtain ⟨r,hr⟩:=Qa2 hS
 have hperm:=Vh (fun u v=>decide (r u≤r v)) (List.range n)
 have hsort:=Qb1 (le:=fun u v=>decide (r u≤r v)) (fun x y z h1 h2=>by simp only [decide_eq_true_eq] at *; omega) (fun x y=>by simp only [Bool.or_eq_true,decide_eq_true_eq]; omega) (List.range n)
 generalize isort (fun u v=>decide (r u≤r v)) (List.range n)=l at *
 have hlen:l.length=n:=by rw [hperm.length_eq,List.length_range]
 have hnod:l.Nodup:=hperm.nodup_iff.2 List.nodup_range
 have hq:∀i,(h:i < n)→(l[i]?).getD 0=l[i]'(by omega):=fun i h=>by rw [List.getElem?_eq_getElem (by omega)]; rfl
 have hqn:∀i,i < n→(l[i]?).getD 0 < n:=fun i h=>by
  rw [hq i h]
  exact List.mem_range.1 (hperm.mem_iff.1 (List.getElem_mem _))
 have hinj:∀i k,i < n→k < n→(l[i]?).getD 0=(l[k]?).getD 0→i=k:=fun i k hi hk e=>by
  rw [hq i hi,hq k hk] at e
  have:=List.pairwise_iff_getElem.1 hnod
  rcases Nat.lt_trichotomy i k with h | h | h
  ·exact absurd e (this i k (by omega) (by omega) h)
  ·exact h
  ·exact absurd e.symm (this k i (by omega) (by omega) h)
 have hsur:∀v,v < n→∃i,i < n∧(l[i]?).getD 0=v:=fun v hv=>by
  obtain ⟨i,hi,e⟩:=List.mem_iff_getElem.1 (hperm.mem_iff.2 (List.mem_range.2 hv))
  exact ⟨i,by omega,by rw [hq i (by omega)]; exact e⟩
 classical
 refine ⟨fun i=>(l[i]?).getD 0,fun v=>if h:∃i,i < n∧(l[i]?).getD 0=v then Classical.choose h else 0,⟨hqn,fun v hv=>?_,fun v hv=>?_,fun i hi=>?_⟩,fun i k hi hk hb=>?_⟩
 ·simp only [dif_pos (hsur v hv)]
  exact (Classical.choose_spec (hsur v hv)).1
 ·simp only [dif_pos (hsur v hv)]
  exact (Classical.choose_spec (hsur v hv)).2
 ·have hs:=hsur _ (hqn i hi)
  simp only [dif_pos hs]
  exact hinj _ _ (Classical.choose_spec hs).1 hi (Classical.choose_spec hs).2
 ·have h1:=hr _ (hqn k hk) _ hb
  apply Classical.byContradiction
  intro hno
  rcases Nat.lt_or_ge k i with h | h
  ·have:=List.pairwise_iff_getElem.1 hsort k i (by omega) (by omega) h
   rw [←hq k hk,←hq i hi,decide_eq_true_eq] at this
   dsimp only at h1
   omega
  ·have:i=k:=by omega
   subst this; exact absurd h1 (Nat.lt_irrefl _)
def dcE:List (Nat × Nat):=[(0,1),(0,2),(1,2),(0,3),(1,3),(2,3),(0,4),(1,4),(2,4),(3,4)]
theorem Q4p {i k:Nat} (h:i < k) (hk:k < 5):egI i k < 10∧(dcE[egI i k]?).getD (0,0)=(i,k):=by
 have hk':k=1∨k=2∨k=3∨k=4:=by omega
 have hi':i=0∨i=1∨i=2∨i=3:=by omega
 rcases hk' with rfl | rfl | rfl | rfl <;> rcases hi' with rfl | rfl | rfl | rfl <;> first | omega | decide
section
variable {n:Nat} {S:Nat → Nat} {q p:Nat → Nat} (hn:n≤5) (hS:Gd n S) (hP:Plc n q p) (hU:∀i k,i < n→k < n→(S (q k)).testBit (q i)=true→i < k)
def bB (n:Nat) (S q:Nat → Nat) (i k:Nat):Bool:=decide (i < n) && decide (k < n) && (S (q k)).testBit (q i)
def cdU (n:Nat) (S q:Nat → Nat):Nat := msk 10 fun e=>bB n S q ((dcE[e]?).getD (0,0)).1 ((dcE[e]?).getD (0,0)).2
def bkT (n:Nat) (p:Nat → Nat) (T:Nat → Nat):Nat → Nat := fun v=>msk n fun x=>(T (p v)).testBit (p x)
theorem Qm0 {i k:Nat}:bB n S q i k=true↔i < n∧k < n∧(S (q k)).testBit (q i)=true:=by
 unfold bB
 simp only [Bool.and_eq_true,decide_eq_true_eq,and_assoc]
theorem Kx {T:Nat → Nat} {v x:Nat} (hx:x < n):(bkT n p T v).testBit x=(T (p v)).testBit (p x):=by
 unfold bkT; rw [Zs]; simp [hx]
include hn hS hP hU
theorem Qzs {i k:Nat} (hi:i < 5) (hk:k < 5):paB (cdU n S q) 0 i k=bB n S q i k:=by
 rw [Bool.eq_iff_iff,Qay]
 have key:i < k→eB (cdU n S q) i k=bB n S q i k:=fun h=>by
  obtain ⟨h1,h2⟩:=Q4p h hk
  unfold eB
  rw [Qxg]
  unfold cdU
  rw [Zs,h2]
  simp [h1]
 constructor
 ·rintro ⟨h1,h2⟩; rw [←key h1]; exact h2
 ·intro h
  obtain ⟨h1,h2,h3⟩:=Qm0.1 h
  have:=hU i k h1 h2 h3
  exact ⟨this,by rw [key this]; exact h⟩
theorem Qoo {i k:Nat} (hi:i < 5) (hk:k < 5):(tM (cdU n S q) 0 k).testBit i=bB n S q i k:=by rw [Qcw hi,Qzs hn hS hP hU hi hk]
theorem Qka {u w:Nat} (hu:u < 5) (hw:w < 5):near (tM (cdU n S q) 0) u w=(decide (u < n) && decide (w < n) && near S (q u) (q w)):=by
 unfold near
 rw [Qoo hn hS hP hU hw hu,Qoo hn hS hP hU hu hw]
 unfold bB
 cases decide (u < n) <;> cases decide (w < n) <;> simp
theorem Q3o:Gd 5 (tM (cdU n S q) 0):=Qd1 id fun v hv j hj=>by
 have hj5:j < 5:=by
  unfold tM at hj; rw [Zs] at hj
  simp only [Bool.and_eq_true,decide_eq_true_eq] at hj; exact hj.1
 rw [Qcw hj5] at hj
 exact ⟨hj5,(Qay.1 hj).1⟩
theorem Q4a {a b d:Nat} (ha:a < n) (hb:b < n) (hd:d < n):Vf (tM (cdU n S q) 0) (p a) (p b) (p d)=Vf S a b d:=by
 have pa:=hP.pn a ha
 have pb:=hP.pn b hb
 have pd:=hP.pn d hd
 unfold Vf
 rw [Qoo hn hS hP hU (by omega) (by omega),Qoo hn hS hP hU (by omega) (by omega),Qka hn hS hP hU (by omega) (by omega)]
 unfold bB
 rw [hP.qp a ha,hP.qp b hb,hP.qp d hd]
 simp [pa,pb,pd]
theorem Qxi {T:Nat → Nat} (hT:Cls 5 (tM (cdU n S q) 0) T):Cls n S (bkT n p T):=by
 obtain ⟨t,ht⟩:=Qa2 hT.gd
 have hnear:∀u w,u < n→w < n→near (bkT n p T) u w=near S u w:=fun u w hu hw=>by
  have e:near (bkT n p T) u w=near T (p u) (p w):=by unfold near; rw [Kx hw,Kx hu]
  have pu:=hP.pn u hu
  have pw:=hP.pn w hw
  rw [e,hT.nr _ _ (by omega) (by omega),Qka hn hS hP hU (by omega) (by omega),hP.qp u hu,hP.qp w hw]
  simp [pu,pw]
 refine ⟨Qd1 (fun v=>t (p v)) fun v hv j hj=>?_,hnear,Qg2.2 fun a b d h1 h2 h3=>?_⟩
 ·have hjn:j < n:=by
   unfold bkT at hj; rw [Zs] at hj
   simp only [Bool.and_eq_true,decide_eq_true_eq] at hj; exact hj.1
  rw [Kx hjn] at hj
  have:=hP.pn v hv
  exact ⟨hjn,ht (p v) (by omega) (p j) hj⟩
 ·have ha:a < n:=by omega
  have pa:=hP.pn a ha
  have pb:=hP.pn b h3
  have pd:=hP.pn d h2
  have hne:p a≠p d:=fun e=>by
   have:=congrArg q e
   rw [hP.qp a ha,hP.qp d h2] at this; omega
  rw [←Q4a hn hS hP hU ha h3 h2,←Qom hT.cl hT.gd (Q3o hn hS hP hU) hne (by omega) (by omega) (by omega)]
  unfold Vf
  rw [Kx ha,Kx h2]
  have e:near (bkT n p T) a d=near T (p a) (p d):=by unfold near; rw [Kx h2,Kx ha]
  rw [e]
variable {O:Nat → Nat → Bool} (hA:Ju n S O) (hC:Ji n S O)
def oU (n:Nat) (q:Nat → Nat) (O:Nat → Nat → Bool) (i k:Nat):Bool:=decide (i < n) && decide (k < n) && O (q i) (q k)
omit hn hS hP hU in
theorem Qbg {i k:Nat}:oU n q O i k=true↔i < n∧k < n∧O (q i) (q k)=true:=by
 unfold oU
 simp only [Bool.and_eq_true,decide_eq_true_eq,and_assoc]
theorem Q2b (hA:Ju n S O):Ju 5 (tM (cdU n S q) 0) (oU n q O):=by
 refine ⟨fun a b h=>?_,fun T hT a b h=>?_,fun a b d hne ha hb hd h=>?_⟩
 ·have:=Qbg.1 h; omega
 ·obtain ⟨h1,h2,h3⟩:=Qbg.1 h
  have:=hA.snd _ (Qxi hn hS hP hU hT) _ _ h3
  rw [Kx (hP.qn a h1),hP.pq a h1,hP.pq b h2] at this
  exact this
 ·have hb2:=h
  unfold Vf at hb2
  simp only [Bool.and_eq_true,Bool.not_eq_true'] at hb2
  obtain ⟨⟨g1,g2⟩,g3⟩:=hb2
  rw [Qoo hn hS hP hU ha hb] at g1
  rw [Qoo hn hS hP hU hd hb] at g2
  obtain ⟨a1,b1,c1⟩:=Qm0.1 g1
  obtain ⟨d1,_,c2⟩:=Qm0.1 g2
  rw [Qka hn hS hP hU ha hd] at g3
  refine Qbg.2 ⟨a1,b1,hA.col (q a) (q b) (q d) (fun e=>hne ?_) (hP.qn a a1) (hP.qn b b1) (hP.qn d d1) ?_⟩
  ·have:=congrArg p e
   rwa [hP.pq a a1,hP.pq d d1] at this
  ·unfold Vf
   rw [c1,c2]
   simp only [a1,d1,decide_true,Bool.true_and] at g3
   rw [g3]; rfl
theorem Qwi (hC:Ji n S O):Ji 5 (tM (cdU n S q) 0) (oU n q O):=by
 have ln:∀a b,a < 5→b < 5→lnB (near (tM (cdU n S q) 0)) (oU n q O) a b=true→a < n∧b < n∧lnB (near S) O (q a) (q b)=true:=fun a b ha hb h=>by
  obtain ⟨h1,h2,h3⟩:=Kz.1 h
  rw [Qka hn hS hP hU ha hb] at h1
  simp only [Bool.and_eq_true,decide_eq_true_eq] at h1
  obtain ⟨⟨a1,b1⟩,c1⟩:=h1
  unfold oU at h2 h3
  simp only [a1,b1,decide_true,Bool.true_and] at h2 h3
  exact ⟨a1,b1,Kz.2 ⟨c1,h2,h3⟩⟩
 intro a b ha hb h
 obtain ⟨a1,b1,hl⟩:=ln a b ha hb h
 have hr:=hC _ _ (hP.qn a a1) (hP.qn b b1) hl
 rw [Bool.eq_false_iff] at hr ⊢
 intro hu
 refine hr ?_
 unfold ruB at hu ⊢
 rw [Bool.or_eq_true,Bool.or_eq_true] at hu ⊢
 have nf:∀c d,c < n→d < n→near (tM (cdU n S q) 0) c d=false→near S (q c) (q d)=false:=fun c d hc hd e=>by
  rw [Qka hn hS hP hU (by omega) (by omega)] at e
  simpa [hc,hd] using e
 rcases hu with (hu | hu) | hu
 ·obtain ⟨c,h1,h2,h3,h4⟩:=Qhr.1 hu
  obtain ⟨c1,_,c2⟩:=Qbg.1 h3
  refine .inl (.inl (Qhr.2 ⟨q c,hP.qn c c1,fun e=>h2 ?_,c2,nf c b c1 b1 h4⟩))
  have:=congrArg p e
  rwa [hP.pq c c1,hP.pq b b1] at this
 ·obtain ⟨c,h1,h2,h3⟩:=Qhh.1 hu
  obtain ⟨_,c1,c2⟩:=Qbg.1 h2
  obtain ⟨_,_,c3⟩:=Qbg.1 h3
  exact .inl (.inr (Qhh.2 ⟨q c,hP.qn c c1,c2,c3⟩))
 ·obtain ⟨c,d,h1,h2,h3,h4,h5,h6,h7⟩:=Qht.1 hu
  have hd5:d < 5:=by omega
  obtain ⟨_,c1,l1⟩:=ln a c ha h1 h3
  obtain ⟨_,d1,l2⟩:=ln a d ha hd5 h4
  obtain ⟨_,_,o1⟩:=Qbg.1 h5
  obtain ⟨_,_,o2⟩:=Qbg.1 h6
  have hnr:=nf c d c1 d1 h7
  have hne:q c≠q d:=fun e=>by
   have:=congrArg p e
   rw [hP.pq c c1,hP.pq d d1] at this; omega
  rcases Nat.lt_or_gt_of_ne hne with h | h
  ·exact .inr (Qht.2 ⟨q d,q c,hP.qn d d1,h,l2,l1,o2,o1,by rw [near_symm]; exact hnr⟩)
  ·exact .inr (Qht.2 ⟨q c,q d,hP.qn c c1,h,l1,l2,o1,o2,hnr⟩)
end
theorem Q47 {n:Nat} {S:Nat → Nat} (hn:n≤5) (hS:Gd n S) {O:Nat → Nat → Bool} (hA:Ju n S O) (hC:Ji n S O) {a b:Nat} (hb:b < n) (h:(S b).testBit a=true):O a b=true∨∃T,Cls n S T∧(T a).testBit b=true:=by
 have ha:=hS.inn b hb a h
 obtain ⟨q,p,hP,hU⟩:=Q29 hS
 have pa:=hP.pn a ha
 have pb:=hP.pn b hb
 have hc:cdU n S q < 1024:=msk_lt 10 _
 have he:paB (cdU n S q) 0 (p a) (p b)=true:=by
  rw [Qzs hn hS hP hU (by omega) (by omega),Qm0,hP.qp a ha,hP.qp b hb]
  exact ⟨pa,pb,h⟩
 rcases Q1r (Q3o hn hS hP hU) (Q2b hn hS hP hU hA) (Qwi hn hS hP hU hC) hc (a:=p a) (b:=p b) (by omega) (by omega) he with h1 | ⟨T,h1,h2⟩
 ·obtain ⟨_,_,h3⟩:=Qbg.1 h1
  rw [hP.qp a ha,hP.qp b hb] at h3
  exact .inl h3
 ·refine .inr ⟨_,Qxi hn hS hP hU h1,?_⟩
  rw [Kx hb]; exact h2
end Go.Ab
namespace Go.Ab
open Go
set_option maxRecDepth 100000
set_option maxHeartbeats 1000000
section
variable {n:Nat} {S:Nat → Nat}
theorem Qgq (hS:Gd n S):Cls n S S:=⟨hS,fun _ _ _ _=>rfl,rfl⟩
theorem Kc (hS:Gd n S) {x:List Int}:x∈memS n S↔∃T,x=rowI n T∧Cls n S T:=by
 rw [Qy2 hS]
 constructor
 ·rintro ⟨T,h1,h2,h3,h4⟩; exact ⟨T,h1,h2,h3,h4⟩
 ·rintro ⟨T,h1,h2⟩; exact ⟨T,h1,h2.gd,h2.nr,h2.cl⟩
def Qsp (n:Nat) (S:Nat → Nat) (a b:Nat):Bool:=(memS n S).all fun x=>((x[b]?).getD 0).toNat.testBit a
theorem Qju {T:Nat → Nat} {b:Nat} (hb:b < n):((rowI n T)[b]?).getD 0=(T b:Int):=by
 have h:=Xn (n:=n) (w:=T) hb
 rw [Z1 (by rw [Zy]; exact hb)] at h
 rw [List.getElem?_eq_getElem (by rw [Zy]; exact hb),Option.getD_some]
 exact Option.some.inj h
theorem Qyq (hS:Gd n S) {a b:Nat} (hb:b < n):Qsp n S a b=true↔∀T,Cls n S T→(T b).testBit a=true:=by
 unfold Qsp
 rw [List.all_eq_true]
 constructor
 ·intro h T hT
  have:=h _ ((Kc hS).2 ⟨T,rfl,hT⟩)
  rw [Qju hb] at this
  simpa using this
 ·intro h x hx
  obtain ⟨T,rfl,hT⟩:=(Kc hS).1 hx
  rw [Qju hb]
  simpa using h T hT
theorem Q1a (hn:n≤5) (hS:Gd n S) {O:Nat → Nat → Bool} (hA:Ju n S O) (hC:Ji n S O) {a b:Nat} (ha:a < n) (hb:b < n):O a b=(near S a b && Qsp n S a b):=by
 rw [Bool.eq_iff_iff,Bool.and_eq_true,Qyq hS hb]
 constructor
 ·intro h
  have:=hA.snd S (Qgq hS) a b h
  exact ⟨by unfold near; rw [this]; simp,fun T hT=>hA.snd T hT a b h⟩
 ·rintro ⟨_,h⟩
  rcases Q47 hn hS hA hC hb (h S (Qgq hS)) with h1 | ⟨T,h1,h2⟩
  ·exact h1
  ·obtain ⟨r,hr⟩:=Qa2 h1.gd
   have g1:=hr b hb a (h T h1)
   have g2:=hr a ha b h2
   omega
theorem Qur {p:Nat → Nat → Bool} (hn:n≤6):(eL2 n p).length≤36:=by
 have hlen2:∀a,(apL (fun b=>if p a b=true then [((a:Int),(b:Int))] else []) 0 n).length≤6:=fun a=>by
  have:=Yb (L:=fun b=>if p a b=true then [((a:Int),(b:Int))] else []) (k0:=0) (m:=1) (fun _=>Qbl) n
  omega
 have:=Yb (k0:=0) hlen2 n
 unfold eL2; omega
end
end Go.Ab
namespace Go.Ab
open Go
set_option maxRecDepth 100000
set_option maxHeartbeats 1000000
theorem Qwo {α:Type} {c:Bool} {x:α}:(if c=true then [x] else []).length=c.toNat := by cases c <;> rfl
theorem Qvt {O p2 N:Nat → Nat → Bool} (h0:∀a,(O a a).toNat = 0) (h1:∀a b,a < b→(O a b).toNat + (O b a).toNat + (p2 a b).toNat = (N a b).toNat) (h2:∀a b,¬ a < b→(p2 a b).toNat = 0):(eL2 6 O).length+(eL2 6 p2).length=(prs 6 N).length:=by
 have a01:=h1 0 1 (by omega); have a02:=h1 0 2 (by omega); have a03:=h1 0 3 (by omega); have a04:=h1 0 4 (by omega); have a05:=h1 0 5 (by omega)
 have a12:=h1 1 2 (by omega); have a13:=h1 1 3 (by omega); have a14:=h1 1 4 (by omega); have a15:=h1 1 5 (by omega)
 have a23:=h1 2 3 (by omega); have a24:=h1 2 4 (by omega); have a25:=h1 2 5 (by omega)
 have a34:=h1 3 4 (by omega); have a35:=h1 3 5 (by omega); have a45:=h1 4 5 (by omega)
 have l:∀(p:Nat → Nat → Bool) (a:Nat),(apL (fun b=>if p a b=true then [((a:Int),(b:Int))] else []) 0 6).length=(p a 0).toNat + (p a 1).toNat + (p a 2).toNat + (p a 3).toNat + (p a 4).toNat + (p a 5).toNat := fun p a=>by
  simp only [apL,List.length_append,List.length_nil,Qwo,Nat.zero_add]
 have L:∀(p:Nat → Nat → Bool),(eL2 6 p).length=(apL (fun b=>if p 0 b=true then [(((0:Nat):Int),(b:Int))] else []) 0 6).length+(apL (fun b=>if p 1 b=true then [(((1:Nat):Int),(b:Int))] else []) 0 6).length+(apL (fun b=>if p 2 b=true then [(((2:Nat):Int),(b:Int))] else []) 0 6).length+(apL (fun b=>if p 3 b=true then [(((3:Nat):Int),(b:Int))] else []) 0 6).length+(apL (fun b=>if p 4 b=true then [(((4:Nat):Int),(b:Int))] else []) 0 6).length+(apL (fun b=>if p 5 b=true then [(((5:Nat):Int),(b:Int))] else []) 0 6).length:=fun p=>by
  unfold eL2
  generalize hF:(fun a:Nat => apL (fun b=>if p a b=true then [((a:Int),(b:Int))] else []) 0 6)=F
  have hF':∀a,apL (fun b=>if p a b=true then [((a:Int),(b:Int))] else []) 0 6=F a:=fun a=>by rw [←hF]
  simp only [hF']
  simp only [apL,List.length_append,List.length_nil,Nat.zero_add]
 have P:(prs 6 (N)).length=(N 0 1).toNat + (N 0 2).toNat + (N 0 3).toNat + (N 0 4).toNat + (N 0 5).toNat + ((N 1 2).toNat + (N 1 3).toNat + (N 1 4).toNat + (N 1 5).toNat)+((N 2 3).toNat + (N 2 4).toNat + (N 2 5).toNat)+((N 3 4).toNat + (N 3 5).toNat)+(N 4 5).toNat := by
  unfold prs
  simp only [apL,List.length_append,List.length_nil,Qwo,Nat.zero_add,Nat.add_zero,Nat.reduceAdd,Nat.reduceSub]
 rw [P,L O,L p2]
 simp only [l,h0,h2 0 0 (by omega),h2 1 0 (by omega),h2 1 1 (by omega),h2 2 0 (by omega),h2 2 1 (by omega),h2 2 2 (by omega),h2 3 0 (by omega),h2 3 1 (by omega),h2 3 2 (by omega),h2 3 3 (by omega),h2 4 0 (by omega),h2 4 1 (by omega),h2 4 2 (by omega),h2 4 3 (by omega),h2 4 4 (by omega),h2 5 0 (by omega),h2 5 1 (by omega),h2 5 2 (by omega),h2 5 3 (by omega),h2 5 4 (by omega),h2 5 5 (by omega)]
 omega
theorem Qez {α:Type} {L:Nat → List α} {k0 j:Nat}:∀m,(∀i,k0+j≤i→L i=[])→apL L k0 (j+m)=apL L k0 j
 | 0,_=>rfl
 | m+1,h=>by
  show apL L k0 (j+m)++L (k0+(j+m))=_
  rw [h _ (by omega),List.append_nil,Qez m h]
theorem Qum {n:Nat} (hn:n≤6) {p:Nat → Nat → Bool}:eL2 n p=eL2 6 fun a b=>decide (a < n) && decide (b < n) && p a b:=by
 unfold eL2
 have e:6=n+(6 - n):=by omega
 have h2:∀a,apL (fun b=>if (decide (a < n) && decide (b < n) && p a b)=true then [((a:Int),(b:Int))] else []) 0 6=apL (fun b=>if (decide (a < n) && p a b)=true then [((a:Int),(b:Int))] else []) 0 n:=fun a=>by
  conv=>lhs; rw [e]
  rw [Qez _ fun i hi=>by
   rw [if_neg]; have:¬ i < n:=by omega
   simp [this]]
  exact Zh n fun b _ hb=>by
   have:b < n:=by omega
   simp [this]
 have h3:apL (fun a=>apL (fun b=>if (decide (a < n) && decide (b < n) && p a b)=true then [((a:Int),(b:Int))] else []) 0 6) 0 6=apL (fun a=>apL (fun b=>if (decide (a < n) && p a b)=true then [((a:Int),(b:Int))] else []) 0 n) 0 6:=Zh 6 fun a _ _=>h2 a
 rw [h3]
 conv=>rhs; rw [e]
 rw [Qez]
 ·exact Zh n fun a _ ha=>Zh n fun b _ _=>by
   have:a < n:=by omega
   simp [this]
 ·intro a ha
  have:¬ a < n:=by omega
  have hz:apL (fun b=>if (decide (a < n) && p a b)=true then [((a:Int),(b:Int))] else []) 0 n=apL (fun _=>[]) 0 n:=Zh n fun b _ _=>by simp [this]
  rw [hz]
  have:∀k,apL (fun _:Nat => ([]:List (Int × Int))) 0 k=[]:=fun k=>by
   induction k with
   | zero=>rfl
   | succ k ih=>simp [apL,ih]
  exact this n
theorem Q1h {n:Nat} (hn:n≤6) {N:Nat → Nat → Bool}:prs n N=prs 6 fun a b=>decide (a < n) && decide (b < n) && N a b:=by
 unfold prs
 have e:6=n+(6 - n):=by omega
 have nil:∀k0 k,apL (fun _:Nat => ([]:List (Int × Int))) k0 k=[]:=fun k0 k=>by
  induction k with
  | zero=>rfl
  | succ k ih=>simp [apL,ih]
 conv=>rhs; rw [show apL (fun i=>apL (fun j=>if (decide (i < n) && decide (j < n) && N i j)=true then [((i:Int),(j:Int))] else []) (i+1) (6 - (i+1))) 0 6=apL (fun i=>apL (fun j=>if (decide (i < n) && decide (j < n) && N i j)=true then [((i:Int),(j:Int))] else []) (i+1) (6 - (i+1))) 0 (n+(6 - n)) from congrArg _ e]
 rw [Qez]
 ·refine Zh n fun i _ hi=>?_
  have hi':i < n:=by omega
  have e2:6 - (i+1)=(n - (i+1))+(6 - n):=by omega
  rw [e2,Qez]
  ·exact Zh _ fun j h1 h2=>by
    have:j < n:=by omega
    simp [hi',this]
  ·intro j hj
   have:¬ j < n:=by omega
   simp [this]
 ·intro i hi
  have:¬ i < n:=by omega
  rw [Zh (L':=fun _=>[]) _ fun j _ _=>by simp [this]]
  exact nil _ _
theorem Q1j {n:Nat} {S:Nat → Nat} (hn:n≤6) (hS:Gd n S) {O:Nat → Nat → Bool} (hA:Ju n S O):(eL2 n O).length+(eL2 n fun a b=>decide (a < b) && lnB (near S) O a b).length=(prs n (near S)).length:=by
 have hup:∀a b,O a b=true→(S b).testBit a=true:=fun a b h=>hA.snd S (Qgq hS) a b h
 obtain ⟨r,hr⟩:=Qa2 hS
 have hrk:∀a b,O a b=true→r a < r b:=fun a b h=>hr b (hA.inn a b h).2 a (hup a b h)
 rw [Qum hn,Qum hn (p:=fun a b=>decide (a < b) && lnB (near S) O a b),Q1h hn]
 refine Qvt (fun a=>?_) (fun a b h=>?_) (fun a b h=>by simp [h])
 ·have:O a a=false:=Bool.eq_false_iff.2 fun h=>by have:=hrk a a h; omega
  simp [this]
 ·cases ha:decide (a < n) with
  | false=>simp [ha]
  | true =>
   cases hb:decide (b < n) with
   | false=>simp [hb]
   | true =>
    simp only [h,decide_true,Bool.true_and]
    unfold lnB
    cases e1:O a b with
    | true =>
     have e2:O b a=false:=Bool.eq_false_iff.2 fun h=>by have:=hrk a b e1; have:=hrk b a h; omega
     have e3:near S a b=true:=by unfold near; rw [hup a b e1]; simp
     rw [e2,e3]; rfl
    | false =>
     cases e2:O b a with
     | true =>
      have e3:near S a b=true:=by unfold near; rw [hup b a e2]; rfl
      rw [e3]; rfl
     | false=>cases near S a b <;> rfl
theorem Qp8 {n:Nat} {S:Nat → Nat} {c:Int} (hc:Qs (rowI n S)=some c):Vc (rowI n S)=if c=0 then (Yp (rowI n S)).bind fun x=>some (x,0) else some (⟨0,[],[]⟩,c):=by
 unfold Vc
 rw [hc,Option.bind_some]
 by_cases e:c=0
 ·rw [if_neg (by simp [e]),if_pos e]
 ·rw [if_pos (by simp [e]),if_neg e]
end Go.Ab
