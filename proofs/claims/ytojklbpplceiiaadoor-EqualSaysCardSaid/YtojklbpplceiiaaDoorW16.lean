/- What functions compute. No conditions. -/
import Derived.Test.YtojklbpplceiiaaDoorW15
import Derived.Test.YtojklbpplceiiaaDoorEng7
import Derived.Test.YtojklbpplceiiaaDoorW11
set_option linter.all false
namespace Go.Ab
open Go
set_option maxRecDepth 100000
set_option maxHeartbeats 1000000
theorem Qdp {n:Nat} {S:Nat → Nat} (r:Nat → Nat) (h:∀v,v < n→∀j,(S v).testBit j=true→j < n∧r j < r v):Gd n S:=by
 refine ⟨fun v hv j hj=>(h v hv j hj).1,fun v hv hb=>?_⟩
 have hT:Clo n S (msk n fun j=>decide (r j < r v)):=fun w hw hb j hj=>by
  rw [Qy] at hb ⊢
  simp only [Bool.and_eq_true,decide_eq_true_eq] at hb ⊢
  have:=h w hw j hj
  exact ⟨this.1,by omega⟩
 have hs:Zw (S v) (msk n fun j=>decide (r j < r v)):=fun j hj=>by
  rw [Qy]
  simp only [Bool.and_eq_true,decide_eq_true_eq]
  exact h v hv j hj
 have:=V5 hT hs n v hb
 rw [Qy] at this
 simp at this
theorem Qck {α:Type} {d:α} {body:Int × List α→Option (Qg (Int × List α) (List α))} {A i:Nat} {aI:Int} (hA:A≤i) (hi:i < 100000) (ha:aI=(A:Int)) {l:List α} (hl:l.length=i)
  (hb:∀s,body s=if (decide (s.1 > aI))=true then (lkI s.2 (zw (s.1 - 1))).bind fun a=>(lkI s.2 s.1).bind fun _=>some (.next (zw (s.1 - 1),s.2.set (Int.toNat s.1) a)) else some (.done s.2)) :
  Qb fuel body ((i:Int),l++[d])=some ((l++[d]).take (A+1)++l.drop A):=by
 subst ha
 have key:∀(j N k:Nat),k=A+j→k≤i→j < N→Qb N body ((k:Int),(l++[d]).take (k+1)++l.drop k)=some ((l++[d]).take (A+1)++l.drop A):=by
  intro j
  induction j with
  | zero =>
   intro N k hk hki hN
   obtain ⟨N,rfl⟩:∃M,N=M+1:=⟨N - 1,by omega⟩
   have:k=A:=by omega
   subst this
   unfold Qb
   rw [hb]
   dsimp only
   rw [if_neg (by simp)]
  | succ j ih =>
   intro N k hk hki hN
   obtain ⟨N,rfl⟩:∃M,N=M+1:=⟨N - 1,by omega⟩
   obtain ⟨k,rfl⟩:∃m,k=m+1:=⟨k - 1,by omega⟩
   have hkl:k < l.length:=by omega
   have hlen:((l++[d]).take (k+1+1)++l.drop (k+1)).length=i+1:=by simp; omega
   have hg:lkI ((l++[d]).take (k+1+1)++l.drop (k+1)) (k:Int)=some l[k]:=by
    rw [Zb (by omega)]
    congr 1
    rw [List.getElem_append_left (by simp; omega),List.getElem_take,List.getElem_append_left hkl]
   have hg2:∃x,lkI ((l++[d]).take (k+1+1)++l.drop (k+1)) ((k+1:Nat):Int)=some x:=⟨_,Zb (by omega)⟩
   obtain ⟨x,hx⟩:=hg2
   have e1:zw (((k+1:Nat):Int) - 1)=(k:Int):=by rw [w64 (by omega)]; omega
   have hset:((l++[d]).take (k+1+1)++l.drop (k+1)).set (k+1) l[k]=(l++[d]).take (k+1)++l.drop k:=by
    apply List.ext_getElem
    ·simp; omega
    ·intro q h1 h2
     rw [List.getElem_set]
     by_cases e:k+1=q
     ·subst e
      rw [if_pos rfl,List.getElem_append_right (by simp; omega)]
      simp only [List.length_take,List.length_append,List.length_singleton,List.getElem_drop]
      congr 1; omega
     ·rw [if_neg e]
      by_cases h3:q < k+1
      ·rw [List.getElem_append_left (by simp; omega),List.getElem_append_left (by simp; omega),List.getElem_take,List.getElem_take]
      ·have hq:q < i+1:=by simpa [hl] using (by rw [List.length_set] at h1; omega:q < i+1)
       rw [List.getElem_append_right (by simp; omega),List.getElem_append_right (by simp; omega)]
       simp only [List.length_take,List.length_append,List.length_singleton,List.getElem_drop]
       congr 1; omega
   unfold Qb
   rw [hb]
   dsimp only
   rw [if_pos (by simp; omega),e1,hg,Option.bind_some,hx,Option.bind_some]
   dsimp only
   rw [Int.toNat_natCast,hset]
   exact ih N k (by omega) (by omega) (by omega)
 have h:=key (i - A) fuel i (by omega) (Nat.le_refl _) (by unfold fuel; omega)
 rw [←h]
 congr 2
 rw [List.take_of_length_le (by simp; omega),List.drop_eq_nil_of_le (by omega),List.append_nil]
def Qbd {α:Type} (A:Nat) (x:α) (l:List α):List α:=l.take A++x::l.drop A
theorem Qea {α:Type} {d:α} {A i:Nat} (hA:A≤i) {l:List α} (hl:l.length=i) (x:α):((l++[d]).take (A+1)++l.drop A).set A x=Qbd A x l:=by
 unfold Qbd
 have e:(l++[d]).take (A+1)=l.take A++[(l++[d])[A]'(by simp; omega)]:=by
  rw [List.take_succ_eq_append_getElem (by simp; omega),List.take_append_of_le_length (by omega)]
 rw [e,List.append_assoc,List.set_append,if_neg (by simp; omega)]
 simp only [List.length_take]
 rw [show A - min A l.length=0 by omega]
 rfl
theorem Qd4 {α:Type} {d:α} {A i:Nat} (hA:A≤i) {l:List α} (hl:l.length=i):∃x,lkI ((l++[d]).take (A+1)++l.drop A) (A:Int)=some x:=⟨_,Zb (by simp; omega)⟩
theorem Qel {o:Int} {k:Nat} (h:0≤o∧o < 256) (hk:0 < k):Int.tmod (zw o) (k:Int)=((o.toNat % k:Nat):Int):=by
 rw [w64 (by omega),Qvh h.1]
 obtain ⟨m,rfl⟩:∃m:Nat,o=(m:Int):=⟨o.toNat,by omega⟩
 simp
structure Qnw (d:Qd):Prop where
 n:0≤d.N∧d.N < 256
 o0:0≤d.Order.1∧d.Order.1 < 256
 o1:0≤d.Order.2.1∧d.Order.2.1 < 256
 o2:0≤d.Order.2.2.1∧d.Order.2.2.1 < 256
 o3:0≤d.Order.2.2.2.1∧d.Order.2.2.2.1 < 256
 o4:0≤d.Order.2.2.2.2.1∧d.Order.2.2.2.2.1 < 256
 o5:0≤d.Order.2.2.2.2.2∧d.Order.2.2.2.2.2 < 256
structure Qfz (i:Nat) (l:List Int):Prop where
 len:l.length=i
 inn:∀x∈l,∃a:Nat,a < i∧x=(a:Int)
 nod:l.Nodup
theorem Qek {i A:Nat} {l:List Int} (h:Qfz i l) (hA:A≤i):Qfz (i+1) (Qbd A (i:Int) l):=by
 have hp:(Qbd A (i:Int) l).Perm ((i:Int)::l):=by
  unfold Qbd
  refine List.perm_middle.trans ?_
  rw [List.take_append_drop]
 refine ⟨by rw [hp.length_eq]; simp [h.len],fun x hx=>?_,?_⟩
 ·rcases List.mem_cons.1 (hp.mem_iff.1 hx) with rfl | hx
  ·exact ⟨i,by omega,rfl⟩
  ·obtain ⟨a,h1,h2⟩:=h.inn x hx
   exact ⟨a,by omega,h2⟩
 ·rw [hp.nodup_iff,List.nodup_cons]
  refine ⟨fun hx=>?_,h.nod⟩
  obtain ⟨a,h1,h2⟩:=h.inn _ hx
  omega
theorem Qxf {d:Qd} (hd:Qnw d) {m N:Int} (hN:zw (1+(Int.tmod (zw (d.N)) m))=N) {i:Nat} (hi:i < 6) (hiN:(i:Int) < N) {l:List Int} (h:Qfz i l) :
  ∃l',Xk d m ((i:Int),l)=some (.next (zw ((i:Int)+1),l'))∧Qfz (i+1) l':=by
 have hll:(l++([0]:List Int)).length*8≤140737488355328:=by rw [List.length_append,h.len]; simp; omega
 have hi':i=0∨i=1∨i=2∨i=3∨i=4∨i=5:=by omega
 unfold Xk
 dsimp only
 rw [hN,if_pos (decide_eq_true hiN)]
 rcases hi' with rfl | rfl | rfl | rfl | rfl | rfl
 ·have hm:=Qel hd.o0 (k:=1) (by omega)
  have hA:(d.Order.1).toNat % 1≤0:=by omega
  have hw:Qb fuel (Qb9 d) ((0:Int),l++([0]:List Int))=some ((l++[0]).take ((d.Order.1).toNat % 1+1)++l.drop ((d.Order.1).toNat % 1)):=Qck (i:=0) hA (by omega) hm h.len (fun s=>rfl)
  obtain ⟨x,hx⟩:=Qd4 hA h.len
  have hm':Int.tmod (zw (d.Order.1)) 1=(((d.Order.1).toNat % 1:Nat):Int):=hm
  refine ⟨Qbd ((d.Order.1).toNat % 1) 0 l,?_,Qek h hA⟩
  rw [if_pos (by decide),if_pos hll,hw,Option.bind_some,hm',hx,Option.bind_some,Option.bind_some,Int.toNat_natCast,Qea hA h.len]
  rfl
 ·have hm:=Qel hd.o1 (k:=2) (by omega)
  have hA:(d.Order.2.1).toNat % 2≤1:=by omega
  have hw:Qb fuel (Qb7 d) ((1:Int),l++([0]:List Int))=some ((l++[0]).take ((d.Order.2.1).toNat % 2+1)++l.drop ((d.Order.2.1).toNat % 2)):=Qck (i:=1) hA (by omega) hm h.len (fun s=>rfl)
  obtain ⟨x,hx⟩:=Qd4 hA h.len
  have hm':Int.tmod (zw (d.Order.2.1)) 2=(((d.Order.2.1).toNat % 2:Nat):Int):=hm
  refine ⟨Qbd ((d.Order.2.1).toNat % 2) 1 l,?_,Qek h hA⟩
  rw [if_neg (by decide),if_pos (by decide),if_pos hll,hw,Option.bind_some,hm',hx,Option.bind_some,Option.bind_some,Int.toNat_natCast,Qea hA h.len]
  rfl
 ·have hm:=Qel hd.o2 (k:=3) (by omega)
  have hA:(d.Order.2.2.1).toNat % 3≤2:=by omega
  have hw:Qb fuel (Qb1 d) ((2:Int),l++([0]:List Int))=some ((l++[0]).take ((d.Order.2.2.1).toNat % 3+1)++l.drop ((d.Order.2.2.1).toNat % 3)):=Qck (i:=2) hA (by omega) hm h.len (fun s=>rfl)
  obtain ⟨x,hx⟩:=Qd4 hA h.len
  have hm':Int.tmod (zw (d.Order.2.2.1)) 3=(((d.Order.2.2.1).toNat % 3:Nat):Int):=hm
  refine ⟨Qbd ((d.Order.2.2.1).toNat % 3) 2 l,?_,Qek h hA⟩
  rw [if_neg (by decide),if_neg (by decide),if_pos (by decide),if_pos hll,hw,Option.bind_some,hm',hx,Option.bind_some,Option.bind_some,Int.toNat_natCast,Qea hA h.len]
  rfl
 ·have hm:=Qel hd.o3 (k:=4) (by omega)
  have hA:(d.Order.2.2.2.1).toNat % 4≤3:=by omega
  have hw:Qb fuel (Qb6 d) ((3:Int),l++([0]:List Int))=some ((l++[0]).take ((d.Order.2.2.2.1).toNat % 4+1)++l.drop ((d.Order.2.2.2.1).toNat % 4)):=Qck (i:=3) hA (by omega) hm h.len (fun s=>rfl)
  obtain ⟨x,hx⟩:=Qd4 hA h.len
  have hm':Int.tmod (zw (d.Order.2.2.2.1)) 4=(((d.Order.2.2.2.1).toNat % 4:Nat):Int):=hm
  refine ⟨Qbd ((d.Order.2.2.2.1).toNat % 4) 3 l,?_,Qek h hA⟩
  rw [if_neg (by decide),if_neg (by decide),if_neg (by decide),if_pos (by decide),if_pos hll,hw,Option.bind_some,hm',hx,Option.bind_some,Option.bind_some,Int.toNat_natCast,Qea hA h.len]
  rfl
 ·have hm:=Qel hd.o4 (k:=5) (by omega)
  have hA:(d.Order.2.2.2.2.1).toNat % 5≤4:=by omega
  have hw:Qb fuel (Qby d) ((4:Int),l++([0]:List Int))=some ((l++[0]).take ((d.Order.2.2.2.2.1).toNat % 5+1)++l.drop ((d.Order.2.2.2.2.1).toNat % 5)):=Qck (i:=4) hA (by omega) hm h.len (fun s=>rfl)
  obtain ⟨x,hx⟩:=Qd4 hA h.len
  have hm':Int.tmod (zw (d.Order.2.2.2.2.1)) 5=(((d.Order.2.2.2.2.1).toNat % 5:Nat):Int):=hm
  refine ⟨Qbd ((d.Order.2.2.2.2.1).toNat % 5) 4 l,?_,Qek h hA⟩
  rw [if_neg (by decide),if_neg (by decide),if_neg (by decide),if_neg (by decide),if_pos (by decide),if_pos hll,hw,Option.bind_some,hm',hx,Option.bind_some,Option.bind_some,Int.toNat_natCast,Qea hA h.len]
  rfl
 ·have hm:=Qel hd.o5 (k:=6) (by omega)
  have hA:(d.Order.2.2.2.2.2).toNat % 6≤5:=by omega
  have hw:Qb fuel (Qb0 d) ((5:Int),l++([0]:List Int))=some ((l++[0]).take ((d.Order.2.2.2.2.2).toNat % 6+1)++l.drop ((d.Order.2.2.2.2.2).toNat % 6)):=Qck (i:=5) hA (by omega) hm h.len (fun s=>rfl)
  obtain ⟨x,hx⟩:=Qd4 hA h.len
  have hm':Int.tmod (zw (d.Order.2.2.2.2.2)) 6=(((d.Order.2.2.2.2.2).toNat % 6:Nat):Int):=hm
  refine ⟨Qbd ((d.Order.2.2.2.2.2).toNat % 6) 5 l,?_,Qek h hA⟩
  rw [if_neg (by decide),if_neg (by decide),if_neg (by decide),if_neg (by decide),if_neg (by decide),if_pos (by decide),if_pos hll,hw,Option.bind_some,hm',hx,Option.bind_some,Option.bind_some,Int.toNat_natCast,Qea hA h.len]
  rfl
theorem Q0o {d:Qd} (hd:Qnw d) {m:Int} {n:Nat} (hn:n≤6) (hN:zw (1+(Int.tmod (zw (d.N)) m))=(n:Int)):∃l,Qb fuel (Xk d m) (0,([]:List Int))=some l∧Qfz n l:=by
 have h:=Vb (n:=n) (k0:=0) (by omega) (by omega) (fun i (x:List Int)=>(i,x)) (body:=Xk d m) Qfz (Qfz n)
  (fun k t _ hk hI=>by
   obtain ⟨l',h1,h2⟩:=Qxf hd hN (by omega) (by omega) hI
   exact .inl ⟨l',h1,h2⟩)
  (fun t ht=>by
   refine ⟨t,?_,ht⟩
   unfold Xk
   dsimp only
   rw [hN,if_neg (nlt n)]) [] ⟨rfl,fun x hx=>by simp at hx,List.nodup_nil⟩
 exact h
def Qhx (n:Nat) (l:List Int) (S:Nat → Nat):Prop:=∀v,v < n→∀x,(S v).testBit x=true→∃a b:Nat,a < b∧b < n∧l[a]?=some (x:Int)∧l[b]?=some (v:Int)
theorem Qux {n:Nat} {l:List Int} {S:Nat → Nat} (hp:Qfz n l) (h:Qhx n l S):Gd n S:=by
 have inj:∀a b:Nat,∀x:Int,l[a]?=some x→l[b]?=some x→a=b:=fun a b x h1 h2=>by
  have ha:=(List.getElem?_eq_some_iff.1 h1)
  have hb:=(List.getElem?_eq_some_iff.1 h2)
  obtain ⟨ha,ha2⟩:=ha
  obtain ⟨hb,hb2⟩:=hb
  have:=List.pairwise_iff_getElem.1 hp.nod
  rcases Nat.lt_trichotomy a b with h | h | h
  ·exact absurd (ha2.trans hb2.symm) (this a b ha hb h)
  ·exact h
  ·exact absurd (hb2.trans ha2.symm) (this b a hb ha h)
 have hr:∃r:Nat → Nat,∀a x:Nat,l[a]?=some (x:Int)→r x=a:=by
  classical
  refine ⟨fun x=>if h:∃a,l[a]?=some (x:Int) then Classical.choose h else 0,fun a x h=>?_⟩
  have:∃a,l[a]?=some (x:Int):=⟨a,h⟩
  simp only [dif_pos this]
  exact inj _ _ _ (Classical.choose_spec this) h
 obtain ⟨r,hr⟩:=hr
 refine Qdp r fun v hv j hj=>?_
 obtain ⟨a,b,h1,h2,h3,h4⟩:=h v hv j hj
 rw [hr a j h3,hr b v h4]
 obtain ⟨c,h5,h6⟩:=hp.inn (j:Int) (List.mem_of_getElem? h3)
 exact ⟨by omega,h1⟩
theorem Qa9 {n v:Nat} {S:Nat → Nat} {y:Nat}:(Qc n S).set v (y:Int)=Qc n fun u=>if u=v then y else S u:=by
 apply List.ext_getElem
 ·simp [Qc,Qdh]
 ·intro k h1 h2
  rw [List.getElem_set]
  simp only [Qc,Qdh,List.getElem_map,List.getElem_range]
  by_cases e:v=k
  ·subst e; simp
  ·have:¬ k=v:=fun h=>e h.symm
   simp [e,this]
theorem Qzz {d:Qd} {m:Int} {n:Nat} (hn:n≤6) (hN:zw (1+(Int.tmod (zw (d.N)) m))=(n:Int)) {l:List Int} (hp:Qfz n l) (hn1:1≤n) :
  ∃S,Qb fuel (Yo d m l) (0,1,List.replicate n (0:Int))=some (Qc n S)∧Qhx n l S:=by
 have hlen:∀S,(Qc n S).length=n:=fun S=>Zk
 have inner:∀(j B:Nat) (S:Nat → Nat) (s:Int × List Int),j < n→B≤100→Qhx n l S→∃r:Int × List Int,Qb fuel (Yp (s.1,(j:Int),s.2) d l) ((B:Int),((0:Nat):Int),Qc n S)=some r∧∃(B':Nat) (S':Nat → Nat),r=((B':Int),Qc n S')∧B'≤B+j∧Qhx n l S':=fun j B S s hj hB hS =>
  Vb (n:=j) (k0:=0) (by omega) (by omega) (fun i (x:Int × List Int)=>(x.1,i,x.2)) (body:=Yp (s.1,(j:Int),s.2) d l)
   (fun k t=>∃(B':Nat) (S':Nat → Nat),t=((B':Int),Qc n S')∧B'≤B+k∧Qhx n l S') (fun r=>∃(B':Nat) (S':Nat → Nat),r=((B':Int),Qc n S')∧B'≤B+j∧Qhx n l S')
   (fun k t _ hk hI=>by
    left
    obtain ⟨B',S',rfl,hB',hS'⟩:=hI
    unfold Yp
    try dsimp only
    rw [if_pos (dlt hk),if_pos (Qp B'),Qur (by omega:B' < 9223372036854775807)]
    split
    ·have hjl:j < l.length:=by rw [hp.len]; exact hj
     have hkl:k < l.length:=by omega
     obtain ⟨v,hv,hv2⟩:=hp.inn l[j] (List.getElem_mem hjl)
     obtain ⟨x,hx,hx2⟩:=hp.inn l[k] (List.getElem_mem hkl)
     rw [Zb hjl,Option.bind_some,hv2,Q1 hv,Option.bind_some,Zb hkl,Option.bind_some,hx2,if_pos (Qp x),Int.toNat_natCast]
     have hg:=Qux hp hS'
     have h64:=Qh8 (by omega) hg
     rw [Qbk (by omega),Kq (h64 v hv) (Kp (by omega)),Qa9]
     refine ⟨_,rfl,B'+1,_,rfl,by omega,fun u hu y hy=>?_⟩
     try dsimp only at hy
     by_cases e:u=v
     ·subst e
      rw [if_pos rfl,Nat.testBit_or,Qo,Bool.or_eq_true] at hy
      rcases hy with hy | hy
      ·exact hS' u hu y hy
      ·have:=of_decide_eq_true hy
       subst this
       exact ⟨k,j,hk,hj,by rw [List.getElem?_eq_getElem hkl,hx2],by rw [List.getElem?_eq_getElem hjl,hv2]⟩
     ·rw [if_neg e] at hy
      exact hS' u hu y hy
    ·exact ⟨_,rfl,B'+1,S',rfl,by omega,hS'⟩)
   (fun t ht=>by
    obtain ⟨B',S',rfl,hB',hS'⟩:=ht
    unfold Yp
    dsimp only
    rw [if_neg (nlt j)]
    exact ⟨_,rfl,B',S',rfl,hB',hS'⟩) ((B:Int),Qc n S) ⟨B,S,rfl,by omega,hS⟩
 have h:=Vb (n:=n) (k0:=1) hn1 (by omega) (fun i (x:Int × List Int)=>(x.1,i,x.2)) (body:=Yo d m l)
  (fun k t=>∃(B':Nat) (S':Nat → Nat),t=((B':Int),Qc n S')∧B'≤6*k∧Qhx n l S') (fun r=>∃S,r=Qc n S∧Qhx n l S)
  (fun k t h1 hk hI=>by
   left
   obtain ⟨B',S',rfl,hB',hS'⟩:=hI
   obtain ⟨r,h2,B2,S2,rfl,hB2,hS2⟩:=inner k B' S' ((B':Int),Qc n S') hk (by omega) hS'
   unfold Yo
   dsimp only
   try dsimp only at h2
   rw [show ((0:Nat):Int)=0 from rfl] at h2
   rw [hN,if_pos (dlt hk),h2,Option.bind_some]
   exact ⟨_,rfl,B2,S2,rfl,by omega,hS2⟩)
  (fun t ht=>by
   obtain ⟨B',S',rfl,hB',hS'⟩:=ht
   unfold Yo
   dsimp only
   rw [hN,if_neg (nlt n)]
   exact ⟨_,rfl,S',rfl,hS'⟩) (0,List.replicate n (0:Int)) ⟨0,fun _=>0,by
    have:List.replicate n (0:Int)=Qc n fun _=>0:=by
     apply List.ext_getElem
     ·simp [Qc,Qdh]
     ·intro k h1 h2; simp [Qc,Qdh]
    rw [this]; rfl,by omega,fun v _ x hx=>by simp at hx⟩
 obtain ⟨r,h1,S,rfl,h2⟩:=h
 exact ⟨S,h1,h2⟩
theorem Qr9 {d:Qd} (hd:Qnw d) {m:Nat} (hm:1≤m∧m≤6):∃S,Xm d (m:Int)=some (Qc (1+d.N.toNat % m) S)∧Gd (1+d.N.toNat % m) S∧1+d.N.toNat % m≤m:=by
 have hlt:d.N.toNat % m < m:=Nat.mod_lt _ (by omega)
 generalize hn:1+d.N.toNat % m=n at *
 have hN:zw (1+(Int.tmod (zw (d.N)) (m:Int)))=(n:Int):=by
  rw [Qel hd.n (by omega),w64 (by omega)]; omega
 obtain ⟨l,h1,h2⟩:=Q0o hd (by omega) hN
 obtain ⟨S,h3,h4⟩:=Qzz (by omega) hN h2 (by omega)
 refine ⟨S,?_,Qux h2 h4,by omega⟩
 unfold Xm
 rw [if_pos (by omega),h1,Option.bind_some,hN,if_pos (by omega),Int.toNat_natCast,h3]
 rfl
end Go.Ab
namespace Go.Ab
open Go
theorem Qkt {cs:List AV} (h:WT (.int .u8) cs):∃a:Int,cs=[(AV.int .u8) a]∧(Lit.int .u8 a).wf=true:=by
 obtain ⟨n,rfl,w⟩:=h
 exact ⟨n,rfl,w⟩
theorem Q8g {cs:List AV} (h:WT (.cat (.int .u8) (.cat (.int .u8) (.cat (.int .u8) (.cat (.int .u8) (.cat (.int .u8) (.cat (.int .u8) .unit)))))) cs):∃x:(Int × Int × Int × Int × Int × Int),AV.agg cs=(fun x:(Int × Int × Int × Int × Int × Int)=>AV.agg [.int .u8 x.1,.int .u8 x.2.1,.int .u8 x.2.2.1,.int .u8 x.2.2.2.1,.int .u8 x.2.2.2.2.1,.int .u8 x.2.2.2.2.2]) x∧((Lit.int .u8 x.1).wf=true∧(Lit.int .u8 x.2.1).wf=true∧(Lit.int .u8 x.2.2.1).wf=true∧(Lit.int .u8 x.2.2.2.1).wf=true∧(Lit.int .u8 x.2.2.2.2.1).wf=true∧(Lit.int .u8 x.2.2.2.2.2).wf=true):=by
 obtain ⟨_,_,rfl,a0,r0⟩:=h
 obtain ⟨v0,e0,w0⟩:=Qkt a0
 cases e0
 obtain ⟨_,_,rfl,a1,r1⟩:=r0
 obtain ⟨v1,e1,w1⟩:=Qkt a1
 cases e1
 obtain ⟨_,_,rfl,a2,r2⟩:=r1
 obtain ⟨v2,e2,w2⟩:=Qkt a2
 cases e2
 obtain ⟨_,_,rfl,a3,r3⟩:=r2
 obtain ⟨v3,e3,w3⟩:=Qkt a3
 cases e3
 obtain ⟨_,_,rfl,a4,r4⟩:=r3
 obtain ⟨v4,e4,w4⟩:=Qkt a4
 cases e4
 obtain ⟨_,_,rfl,a5,r5⟩:=r4
 obtain ⟨v5,e5,w5⟩:=Qkt a5
 cases e5
 cases r5
 exact ⟨(v0,v1,v2,v3,v4,v5),rfl,⟨w0,w1,w2,w3,w4,w5⟩⟩
theorem Q8f {cs:List AV} (h:WT (.int .u16) cs):∃a:Int,cs=[(AV.int .u16) a]∧(Lit.int .u16 a).wf=true:=by
 obtain ⟨n,rfl,w⟩:=h
 exact ⟨n,rfl,w⟩
def Vt (x:Qd):Prop:=((Lit.int .u8 x.N).wf=true)∧(((Lit.int .u8 x.Order.1).wf=true∧(Lit.int .u8 x.Order.2.1).wf=true∧(Lit.int .u8 x.Order.2.2.1).wf=true∧(Lit.int .u8 x.Order.2.2.2.1).wf=true∧(Lit.int .u8 x.Order.2.2.2.2.1).wf=true∧(Lit.int .u8 x.Order.2.2.2.2.2).wf=true))∧((Lit.int .u16 x.Edges).wf=true)
theorem rdTharuspexref31_Draft {cs:List AV} (h:WT (.cat (.int .u8) (.cat (.cat (.int .u8) (.cat (.int .u8) (.cat (.int .u8) (.cat (.int .u8) (.cat (.int .u8) (.cat (.int .u8) .unit)))))) (.cat (.int .u16) .unit))) cs):∃x:Qd,AV.agg cs=eTharuspexref31_Draft x∧Vt x:=by
 obtain ⟨_,_,rfl,a0,r0⟩:=h
 obtain ⟨v0,e0,w0⟩:=Qkt a0
 cases e0
 obtain ⟨_,_,rfl,a1,r1⟩:=r0
 obtain ⟨v1,e1,w1⟩:=Q8g a1
 cases e1
 obtain ⟨_,_,rfl,a2,r2⟩:=r1
 obtain ⟨v2,e2,w2⟩:=Q8f a2
 cases e2
 cases r2
 exact ⟨⟨v0,v1,v2⟩,rfl,⟨w0,w1,w2⟩⟩
theorem rdA26 {cs:List AV} (h:WT (.cat (.int .u8) (.cat (.int .u8) .unit)) cs):∃x:(Int × Int),AV.agg cs=(fun x:(Int × Int)=>AV.agg [.int .u8 x.1,.int .u8 x.2]) x∧((Lit.int .u8 x.1).wf=true∧(Lit.int .u8 x.2).wf=true):=by
 obtain ⟨_,_,rfl,a0,r0⟩:=h
 obtain ⟨v0,e0,w0⟩:=Qkt a0
 cases e0
 obtain ⟨_,_,rfl,a1,r1⟩:=r0
 obtain ⟨v1,e1,w1⟩:=Qkt a1
 cases e1
 cases r1
 exact ⟨(v0,v1),rfl,⟨w0,w1⟩⟩
end Go.Ab
namespace Go.Ab
open Go
set_option maxRecDepth 100000
set_option maxHeartbeats 1000000
theorem Q71 {n:Int} (h:(Lit.int .u8 n).wf=true):0≤n∧n≤255:=by
 simpa [Lit.wf,IntKind.min,IntKind.max,IntKind.bits,IntKind.signed] using h
theorem wf8 {n:Int} (h:(Lit.int .u8 n).wf=true):0≤n∧n < 256:=by have:=Q71 h; omega
theorem Q03:Qfk=some true:=by kernel_rfl
theorem Qwz {n:Nat} {N:Nat → Nat → Bool} {p:Int × Int}:p∈prs n N↔∃i j:Nat,i < j∧j < n∧N i j=true∧p=((i:Int),(j:Int)):=by
 unfold prs
 rw [Z3]
 constructor
 ·rintro ⟨i,_,h2,h3⟩
  obtain ⟨j,h4,h5,h6⟩:=(Z3 _).1 h3
  split at h6
  ·rename_i hN
   exact ⟨i,j,by omega,by omega,hN,List.mem_singleton.1 h6⟩
  ·cases h6
 ·rintro ⟨i,j,h1,h2,h3,rfl⟩
  refine ⟨i,by omega,by omega,(Z3 _).2 ⟨j,by omega,by omega,?_⟩⟩
  rw [if_pos h3]; simp
def dels (a i:Nat):Nat := msk 64 fun b=>a.testBit b && !decide (i=b)
theorem Q2v {a i:Nat} (ha:a < 18446744073709551616) (b:Nat):(dels a i).testBit b=(a.testBit b && !decide (i=b)):=by
 unfold dels
 rw [Qy]
 by_cases h:b < 64
 ·simp [h]
 ·have:a.testBit b=false:=Nat.testBit_lt_two_pow (Nat.lt_of_lt_of_le (show a < 2^64 from ha) (Nat.pow_le_pow_right (by omega) (by omega)))
  simp [h,this]
def turn (S:Nat → Nat) (i j:Nat):Nat → Nat := fun u=>if u=i then S i ||| 2^j else if u=j then dels (S j) i else S u
theorem Q65 {n i j:Nat} {S:Nat → Nat} (h:L64 n S) (hi:i < n) (hj:j < 64):L64 n (turn S i j):=fun v hv=>by
 unfold turn
 split
 ·exact Nat.or_lt_two_pow (n:=64) (h i hi) (Kp hj)
 ·split
  ·exact msk_lt 64 _
  ·exact h v hv
theorem Qwq {a i:Nat} (ha:a < 18446744073709551616) (hi:i < 64):zv (zb (a:Int) &&& ~~~ zb (zv (1*2^min (Int.toNat (i:Int)) zk))).toNat = ((dels a i:Nat):Int):=by
 rw [Qbk hi]
 exact Qul (n:=64) (by omega) ha (Kp hi) (fun _ _=>rfl) (fun b _=>Qo i b)
theorem Qye {n:Nat} {S:Nat → Nat} {k:Int} (hn:n≤7) (h:L64 n S) (hk:0≤k∧k < 256) :
  (prs n (near S)=[]∧Vq (Qc n S) k=some (Qc n S)) ∨
  (∃i j,i < n∧j < n∧i≠j∧(S j).testBit i=true∧Vq (Qc n S) k=some (Qc n (turn S i j))):=by
 have hlen:(Qc n S).length=n:=Zk
 unfold Vq
 rw [Qm0 hn h,Option.bind_some,hlen,if_pos (by omega)]
 by_cases he:prs n (near S)=[]
 ·left
  rw [he]
  exact ⟨rfl,rfl⟩
 ·right
  have hl:0 < (prs n (near S)).length:=List.length_pos_iff.2 he
  have hl49:=Q4e (N:=near S) hn
  rw [if_neg (by simp; omega),if_pos (by omega)]
  have hm:Int.tmod (zw k) ((prs n (near S)).length:Int)=((k.toNat % (prs n (near S)).length:Nat):Int):=by
   rw [w64 (by omega),Qvh hk.1]
   obtain ⟨m,rfl⟩:∃m:Nat,k=(m:Int):=⟨k.toNat,by omega⟩
   simp
  rw [hm]
  have hb:k.toNat % (prs n (near S)).length < (prs n (near S)).length:=Nat.mod_lt _ hl
  rw [Zb hb,Option.bind_some,if_pos (by omega)]
  obtain ⟨i,j,h1,h2,h3,h4⟩:=Qwz.1 (List.getElem_mem hb)
  rw [h4]
  dsimp only
  rw [Q1 (show i < n by omega),Option.bind_some,Qdq (h i (by omega)) (by omega),Option.bind_some]
  by_cases hb2:(S i).testBit j=true
  ·refine ⟨j,i,h2,by omega,by omega,hb2,?_⟩
   rw [if_pos hb2,if_pos (Qp j),Qwq (h i (by omega)) (by omega),Qbk (show i < 64 by omega),Int.toNat_natCast,Qa9,Q1 h2,Option.bind_some,if_pos (Qp i)]
   rw [if_neg (by omega),Kq (h j h2) (Kp (by omega)),Int.toNat_natCast,Qa9]
   rfl
  ·refine ⟨i,j,by omega,h2,by omega,by unfold near at h3; rw [Bool.eq_false_iff.2 hb2] at h3; simpa using h3,?_⟩
   rw [if_neg hb2,Q1 h2,Option.bind_some,if_pos (Qp i),Qwq (h j h2) (by omega),Qbk (show j < 64 by omega),Int.toNat_natCast,Qa9,Q1 (show i < n by omega),Option.bind_some,if_pos (Qp j)]
   rw [if_neg (by omega),Kq (h i (by omega)) (Kp (by omega)),Int.toNat_natCast,Qa9]
   rfl
theorem Q2s {n:Nat} {S:Nat → Nat} (hn:n≤7) (h:L64 n S) :
  ((n≤6∧Gd n S)∧Vf (Qc n S) 6=some true∧Qv (Qc n S)=some 0∧Yr (Qc n S)=some (prs n (near S),0)∧Yi (Qc n S)=some (cls n S,0)) ∨
  (Vf (Qc n S) 6=some false∧Qv (Qc n S)=some 310∧Yr (Qc n S)=some ([],310)∧Yi (Qc n S)=some ([],310)):=by
 obtain ⟨c,hc,hc2⟩:=Qrq hn h
 obtain ⟨d,hd,hd2⟩:=Qe5 (m:=6) hn h
 have e:d=c:=by rw [Bool.eq_iff_iff,hc2,hd2]
 subst e
 cases d with
 | true =>
  left
  obtain ⟨h1,h2⟩:=hc2.1 rfl
  refine ⟨⟨h1.2,h2⟩,hd,hc,?_,?_⟩
  ·unfold Yr
   rw [hc,Option.bind_some,if_neg (by simp),K1 h1.2 h2,Option.bind_some]
   show (Zo ⟨(n:Int),Qi (mI (nrN n S))⟩).bind _=_
   rw [Qtc h1.2]; rfl
  ·unfold Yi
   rw [hc,Option.bind_some,if_neg (by simp),Qak h1.2 h2]; rfl
 | false =>
  right
  refine ⟨hd,hc,?_,?_⟩
  ·unfold Yr
   rw [hc]; rfl
  ·unfold Yi
   rw [hc]; rfl
theorem Qu4 {d:Qd} (h:Vt d):Qnw d:=by
 obtain ⟨h0,⟨h1,h2,h3,h4,h5,h6⟩,_⟩:=h
 exact ⟨wf8 h0,wf8 h1,wf8 h2,wf8 h3,wf8 h4,wf8 h5,wf8 h6⟩
end Go.Ab
namespace Go.Ab
open Go
set_option maxRecDepth 100000
set_option maxHeartbeats 1000000
def eqv (n m:Nat) (S T:Nat → Nat):Bool:=decide (n=m∧prs n (near S)=prs m (near T)∧cls n S=cls m T)
theorem near_symm {S:Nat → Nat} {u w:Nat}:near S u w=near S w u:=by unfold near; exact Bool.or_comm _ _
theorem Qfb {n:Nat} {S:Nat → Nat} (h:Gd n S) {u:Nat} (hu:u < n):near S u u=false:=by
 have:(S u).testBit u=false:=Bool.eq_false_iff.2 fun e=>h.acyc u hu (V2 n u e)
 unfold near; rw [this]; rfl
theorem Qke {n:Nat} {S T:Nat → Nat} (hS:Gd n S) (hT:Gd n T):prs n (near S)=prs n (near T)↔∀u w,u < n→w < n→near S u w=near T u w:=by
 constructor
 ·intro h
  have key:∀u w,u < w→w < n→near S u w=near T u w:=fun u w h1 h2=>by
   have e:∀N,((u:Int),(w:Int))∈prs n N↔N u w=true:=fun N=>by
    rw [Qwz]
    constructor
    ·rintro ⟨i,j,_,_,h5,h6⟩
     have e1:u=i:=by have:=congrArg Prod.fst h6; exact Int.ofNat_inj.1 this
     have e2:w=j:=by have:=congrArg Prod.snd h6; exact Int.ofNat_inj.1 this
     rw [e1,e2]; exact h5
    ·intro h5; exact ⟨u,w,h1,h2,h5,rfl⟩
   rw [Bool.eq_iff_iff,←e (near S),←e (near T),h]
  intro u w hu hw
  rcases Nat.lt_trichotomy u w with h1 | h1 | h1
  ·exact key u w h1 hw
  ·subst h1; rw [Qfb hS hu,Qfb hT hu]
  ·rw [near_symm,near_symm (S:=T)]; exact key w u h1 hu
 ·intro h
  unfold prs
  exact Q6 n fun i _ hi=>Q6 _ fun j h1 h2=>by rw [h i j (by omega) (by omega)]
theorem Qq1 {n:Nat} {S:Nat → Nat} (h:Gd n S) {u w:Nat} (hn:¬ (u < n∧w < n)):nrN n S u w=false:=by
 unfold nrN
 have key:∀a b,¬ (a < n∧b < n)→(decide (a < n) && (S a).testBit b)=false:=fun a b hab=>by
  by_cases ha:a < n
  ·have:(S a).testBit b=false:=Bool.eq_false_iff.2 fun e=>hab ⟨ha,h.inn a ha b e⟩
   rw [this]; simp
  ·simp [ha]
 rw [key u w hn,key w u (fun e=>hn ⟨e.2,e.1⟩)]; rfl
theorem Qvb {n:Nat} {S T:Nat → Nat} (hn:n≤6) (hS:Gd n S) (hT:Gd n T):Qi (mI (nrN n S))=Qi (mI (nrN n T))↔prs n (near S)=prs n (near T):=by
 rw [Qke hS hT]
 constructor
 ·intro h u w hu hw
  have key:∀i,i < 6→mI (nrN n S) i=mI (nrN n T) i:=fun i hi=>by
   unfold Qi at h
   simp only [Prod.mk.injEq] at h
   have hi':i=0∨i=1∨i=2∨i=3∨i=4∨i=5:=by omega
   rcases hi' with rfl | rfl | rfl | rfl | rfl | rfl
   ·exact h.1
   ·exact h.2.1
   ·exact h.2.2.1
   ·exact h.2.2.2.1
   ·exact h.2.2.2.2.1
   ·exact h.2.2.2.2.2
  have h1:=key u (by omega)
  unfold mI at h1
  have h2:=Q31 (Int.ofNat_inj.1 h1) w (by omega)
  rwa [Kn hu hw,Kn hu hw] at h2
 ·intro h
  refine Qom fun u w _ _=>?_
  by_cases hb:u < n∧w < n
  ·rw [Kn hb.1 hb.2,Kn hb.1 hb.2]; exact h u w hb.1 hb.2
  ·rw [Qq1 hS hb,Qq1 hT hb]
theorem Q36 {n m:Int} {X Y:Nat → Int} :
  ((n==m) && (((Qi X).1==(Qi Y).1) && (((Qi X).2.1==(Qi Y).2.1) && (((Qi X).2.2.1==(Qi Y).2.2.1) && (((Qi X).2.2.2.1==(Qi Y).2.2.2.1) && (((Qi X).2.2.2.2.1==(Qi Y).2.2.2.2.1) && (((Qi X).2.2.2.2.2==(Qi Y).2.2.2.2.2) && true)))))))=decide (n=m∧Qi X=Qi Y):=by
 rw [Bool.eq_iff_iff]
 simp only [Bool.and_eq_true,beq_iff_eq,decide_eq_true_eq,Bool.and_true]
 unfold Qi
 simp only [Prod.mk.injEq]
theorem Qy0 {n m:Nat} {S T:Nat → Nat} (hn:n≤6) (hS:Gd n S) (hm:m≤6) (hT:Gd m T) (c1:Qv (Qc n S)=some 0) (c2:Qv (Qc m T)=some 0):Ka (Qc n S) (Qc m T)=some (eqv n m S T,0):=by
 unfold Ka
 rw [c1,Option.bind_some,if_neg (by simp),c2,Option.bind_some,if_neg (by simp),K1 hn hS,Option.bind_some,K1 hm hT,Option.bind_some]
 dsimp only
 rw [Q36]
 by_cases e:n=m
 ·subst e
  by_cases h:prs n (near S)=prs n (near T)
  ·rw [if_pos (decide_eq_true ⟨rfl,(Qvb hn hS hT).2 h⟩),Qak hn hS,Option.bind_some,Qak hm hT,Option.bind_some,Qqh (by have:=Qne (S:=S) (show n≤7 by omega); omega),Option.bind_some]
   unfold eqv
   simp [h]
  ·rw [if_neg (by simp only [decide_eq_true_eq,not_and]; exact fun _ e=>h ((Qvb hn hS hT).1 e))]
   unfold eqv
   simp [h]
 ·rw [if_neg (by simp only [decide_eq_true_eq,not_and]; exact fun h=>absurd (Int.ofNat_inj.1 h) e)]
  unfold eqv
  simp [e]
end Go.Ab
namespace Go.Ab
open Go
set_option maxRecDepth 100000
set_option maxHeartbeats 1000000
theorem Xj {n:Nat} {S:Nat → Nat} (h:Gd n S):∃r:Nat → Nat,∀v,v < n→∀j,(S v).testBit j=true→r j < r v:=by
 have e:=Qqa.2 h
 obtain ⟨h1,r,M,h2,h3⟩:=Qo4 (n:=n) (S:=S) n
 have hall:=(Qop h1).1 e
 exact ⟨r,fun v hv j hj=>(h3 v (hall v hv) j hj).2⟩
def Xa (S:Nat → Nat) (a b c:Nat):Bool:=(S b).testBit a && (S b).testBit c && !near S a c
theorem Qjk {n:Nat} {S:Nat → Nat} {p:Int × Int × Int}:p∈cls n S↔∃a b c:Nat,a < c∧c < n∧b < n∧Xa S a b c=true∧p=((a:Int),(b:Int),(c:Int)):=by
 unfold cls
 rw [Z3]
 constructor
 ·rintro ⟨a,_,ha,h⟩
  obtain ⟨b,_,hb,h⟩:=(Z3 _).1 h
  obtain ⟨c,hc,hc2,h⟩:=(Z3 _).1 h
  split at h
  ·rename_i hN
   exact ⟨a,b,c,by omega,by omega,by omega,hN,List.mem_singleton.1 h⟩
  ·cases h
 ·rintro ⟨a,b,c,h1,h2,h3,h4,rfl⟩
  refine ⟨a,by omega,by omega,(Z3 _).2 ⟨b,by omega,by omega,(Z3 _).2 ⟨c,by omega,by omega,?_⟩⟩⟩
  unfold Xa at h4
  rw [if_pos h4]; simp
theorem Qen {n:Nat} {S T:Nat → Nat}:cls n S=cls n T↔∀a b c,a < c→c < n→b < n→Xa S a b c=Xa T a b c:=by
 constructor
 ·intro h a b c h1 h2 h3
  have e:∀U,((a:Int),(b:Int),(c:Int))∈cls n U↔Xa U a b c=true:=fun U=>by
   rw [Qjk]
   constructor
   ·rintro ⟨a',b',c',_,_,_,h5,h6⟩
    simp only [Prod.mk.injEq,Int.ofNat_inj] at h6
    obtain ⟨rfl,rfl,rfl⟩:=h6
    exact h5
   ·intro h5; exact ⟨a,b,c,h1,h2,h3,h5,rfl⟩
  rw [Bool.eq_iff_iff,←e S,←e T,h]
 ·intro h
  unfold cls
  refine Q6 n fun a _ ha=>Q6 n fun b _ hb=>Q6 _ fun c h1 h2=>?_
  have:=h a b c (by omega) (by omega) (by omega)
  unfold Xa at this
  rw [this]
theorem colB_symm {S:Nat → Nat} {a b c:Nat}:Xa S a b c=Xa S c b a:=by
 unfold Xa; rw [near_symm,Bool.and_comm ((S b).testBit a)]
theorem Qng {n:Nat} {S T:Nat → Nat} (h:cls n S=cls n T) (hS:Gd n S) (hT:Gd n T) {a b c:Nat} (hac:a≠c) (ha:a < n) (hc:c < n) (hb:b < n):Xa S a b c=Xa T a b c:=by
 rcases Nat.lt_or_gt_of_ne hac with h1 | h1
 ·exact Qen.1 h a b c h1 hc hb
 ·rw [colB_symm,colB_symm (S:=T)]; exact Qen.1 h c b a h1 ha hb
section
variable {n i j:Nat} {S:Nat → Nat} (hn:n≤7) (h:Gd n S) (hi:i < n) (hj:j < n) (hij:i≠j) (he:(S j).testBit i=true)
include hn h hi hj hij he
theorem Ye (u x:Nat) (hu:u < n):(turn S i j u).testBit x=if u=i then (S i).testBit x || decide (j=x) else if u=j then (S j).testBit x && !decide (i=x) else (S u).testBit x:=by
 have h64:=Qh8 (show n≤8 by omega) h
 unfold turn
 by_cases e:u=i
 ·simp only [e,if_true]; rw [Nat.testBit_or,Qo]
 ·by_cases e2:u=j
  ·simp only [e2,if_true]
   rw [if_neg (fun h=>hij h.symm),if_neg (fun h=>hij h.symm),Q2v (h64 j hj)]
  ·rw [if_neg e,if_neg e2,if_neg e,if_neg e2]
theorem Qro {u w:Nat} (hu:u < n) (hw:w < n):near (turn S i j) u w=near S u w:=by
 have hji:(S i).testBit j=false:=by
  obtain ⟨r,hr⟩:=Xj h
  rw [Bool.eq_false_iff]
  intro e
  have:=hr i hi j e
  have:=hr j hj i he
  omega
 have hji':¬ j=i:=fun e=>hij e.symm
 unfold near
 rw [Ye hn h hi hj hij he u w hu,Ye hn h hi hj hij he w u hw]
 by_cases e1:u=i
 ·subst e1
  by_cases e2:w=u
  ·subst e2; simp [hji']
  ·by_cases e3:w=j
   ·subst e3; simp [hji,he,hji']
   ·have:¬ j=w:=fun e=>e3 e.symm
    simp [e2,e3,this]
 ·by_cases e2:u=j
  ·subst e2
   by_cases e3:w=i
   ·subst e3; simp [he,hij]
   ·have:¬ i=w:=fun e=>e3 e.symm
    by_cases e4:w=u
    ·subst e4; simp [e1,this]
    ·simp [e1,e3,e4,this]
  ·by_cases e3:w=i
   ·subst e3
    have:¬ j=u:=fun e=>e2 e.symm
    simp [e1,e2,this]
   ·by_cases e4:w=j
    ·subst e4
     have:¬ i=u:=fun e=>e1 e.symm
     simp [e1,e2,e3,this]
    ·simp [e1,e2,e3,e4]
def Qip (S:Nat → Nat) (i j:Nat):Prop:=S j=S i ||| 2^i
omit hn h hi hj hij he in
theorem Qgb (hc:Qip S i j) (x:Nat):(S j).testBit x=((S i).testBit x || decide (i=x)):=by
 unfold Qip at hc
 rw [hc,Nat.testBit_or,Qo]
theorem Qf7 (hc:Qip S i j):Gd n (turn S i j):=by
 obtain ⟨r,hr⟩:=Xj h
 have hrij:=hr j hj i he
 refine Qdp (fun x=>if x=j then 2*r i+1 else 2*r x+2) fun v hv x hx=>?_
 rw [Ye hn h hi hj hij he v x hv] at hx
 have hii:¬ (S i).testBit i=true:=fun e=>by have:=hr i hi i e; omega
 by_cases e1:v=i
 ·subst e1
  rw [if_pos rfl] at hx
  by_cases e2:x=j
  ·subst e2
   refine ⟨hj,?_⟩
   rw [if_pos rfl,if_neg hij]; omega
  ·have hx:(S v).testBit x=true:=by
    rw [Bool.or_eq_true] at hx
    exact hx.resolve_right fun e=>e2 (of_decide_eq_true e).symm
   refine ⟨h.inn v hv x hx,?_⟩
   rw [if_neg e2,if_neg hij]
   have:=hr v hv x hx; omega
 ·rw [if_neg e1] at hx
  by_cases e2:v=j
  ·subst e2
   rw [if_pos rfl,Bool.and_eq_true] at hx
   have hxi:¬ i=x:=fun e=>by simp [e] at hx
   have hx2:=hx.1
   rw [Qgb hc] at hx2
   have hx2:(S i).testBit x=true:=by simpa [hxi] using hx2
   refine ⟨h.inn i hi x hx2,?_⟩
   have h3:=hr i hi x hx2
   have:¬ x=v:=fun e=>by rw [e] at h3; omega
   rw [if_neg this,if_pos rfl]; omega
  ·rw [if_neg e2] at hx
   refine ⟨h.inn v hv x hx,?_⟩
   have h3:=hr v hv x hx
   rw [if_neg e2]
   split
   ·rename_i e3; subst e3; omega
   ·omega
theorem Q1s (hc:Qip S i j):cls n S=cls n (turn S i j):=by
 have nr:∀p q,p < n→q < n→near (turn S i j) p q=near S p q:=fun p q hp hq=>Qro hn h hi hj hij he hp hq
 have fwd:∀p b q,p≠q→p < n→q < n→b < n→Xa S p b q=true→(turn S i j b).testBit p=true:=fun p b q hpq hp hq hb hcol=>by
  unfold Xa at hcol
  simp only [Bool.and_eq_true,Bool.not_eq_true'] at hcol
  obtain ⟨⟨k1,k2⟩,k3⟩:=hcol
  rw [Ye hn h hi hj hij he b p hb]
  by_cases e1:b=i
  ·rw [if_pos e1,←e1,k1]; rfl
  ·rw [if_neg e1]
   by_cases e2:b=j
   ·subst e2
    rw [if_pos rfl,k1]
    have:¬ i=p:=fun e=>by
     subst e
     rw [Qgb hc] at k2
     have:(S i).testBit q=true:=by simpa [hpq] using k2
     unfold near at k3
     rw [this] at k3; cases k3
    simp [this]
   ·rw [if_neg e2,k1]
 have bwd:∀p b q,p≠q→p < n→q < n→b < n→Xa (turn S i j) p b q=true→(S b).testBit p=true:=fun p b q hpq hp hq hb hcol=>by
  unfold Xa at hcol
  rw [nr p q hp hq] at hcol
  simp only [Bool.and_eq_true,Bool.not_eq_true'] at hcol
  obtain ⟨⟨k1,k2⟩,k3⟩:=hcol
  rw [Ye hn h hi hj hij he b p hb] at k1
  rw [Ye hn h hi hj hij he b q hb] at k2
  by_cases e1:b=i
  ·rw [if_pos e1] at k1 k2
   subst e1
   by_cases e2:j=p
   ·subst e2
    have:(S b).testBit q=true:=by simpa [hpq] using k2
    have:(S j).testBit q=true:=by rw [Qgb hc,this]; rfl
    unfold near at k3
    rw [this] at k3; cases k3
   ·simpa [e2] using k1
  ·rw [if_neg e1] at k1
   by_cases e2:b=j
   ·rw [if_pos e2,Bool.and_eq_true] at k1
    rw [e2]; exact k1.1
   ·rw [if_neg e2] at k1; exact k1
 refine Qen.2 fun a b c h1 h2 h3=>?_
 have ha:a < n:=by omega
 rw [Bool.eq_iff_iff]
 constructor
 ·intro hcol
  have f1:=fwd a b c (by omega) ha h2 h3 hcol
  have f2:=fwd c b a (by omega) h2 ha h3 (by rw [colB_symm]; exact hcol)
  unfold Xa at hcol ⊢
  rw [nr a c ha h2,f1,f2]
  simp only [Bool.and_eq_true] at hcol ⊢
  exact ⟨⟨trivial,trivial⟩,hcol.2⟩
 ·intro hcol
  have f1:=bwd a b c (by omega) ha h2 h3 hcol
  have f2:=bwd c b a (by omega) h2 ha h3 (by rw [colB_symm]; exact hcol)
  unfold Xa at hcol ⊢
  rw [nr a c ha h2] at hcol
  rw [f1,f2]
  simp only [Bool.and_eq_true] at hcol ⊢
  exact ⟨⟨trivial,trivial⟩,hcol.2⟩
end
theorem Q2u {n:Nat} {S T:Nat → Nat} (h:Qc n S=Qc n T) {v:Nat} (hv:v < n):S v=T v:=by
 have h1:=Q1 (n:=n) (w:=S) hv
 rw [h,Q1 hv] at h1
 exact (Int.ofNat_inj.1 (Option.some.inj h1)).symm
end Go.Ab
namespace Go.Ab
open Go
set_option maxRecDepth 100000
set_option maxHeartbeats 1000000
inductive Rch (S:Nat → Nat) (z anz x:Nat):Nat → Bool→Prop
 | start:Rch S z anz x x false
 | up {v p:Nat}:Rch S z anz x v false→z.testBit v=false→(S v).testBit p=true→Rch S z anz x p false
 | dn {v c:Nat} {d:Bool}:Rch S z anz x v d→z.testBit v=false→(S c).testBit v=true→Rch S z anz x c true
 | turn {v p:Nat}:Rch S z anz x v true→anz.testBit v=true→(S v).testBit p=true→Rch S z anz x p false
inductive Tow (S:Nat → Nat) (z anz y:Nat):Nat → Bool→Prop
 | here (d:Bool):Tow S z anz y y d
 | up {v p:Nat}:Tow S z anz y p false→z.testBit v=false→(S v).testBit p=true→Tow S z anz y v false
 | dn {v c:Nat} {d:Bool}:Tow S z anz y c true→z.testBit v=false→(S c).testBit v=true→Tow S z anz y v d
 | turn {v p:Nat}:Tow S z anz y p false→anz.testBit v=true→(S v).testBit p=true→Tow S z anz y v true
theorem Qqz (n:Nat) (P:Nat → Prop):∃T:Nat,(∀v,T.testBit v=true↔v < n∧P v):=by
 classical
 refine ⟨msk n fun v=>decide (P v),fun v=>?_⟩
 rw [Qy]
 simp
theorem Qg8 {n:Nat} {S:Nat → Nat} (hS:∀v,v < n→∀j,(S v).testBit j=true→j < n) {s:Nat} (hs:∀j,s.testBit j=true→j < n) {j:Nat} (hj:(ups n S n s).testBit j=true):j < n:=by
 have:=V5 (Qcf n hS) (s:=s) (fun i hi=>by rw [Nat.testBit_two_pow_sub_one]; simpa using hs i hi) n j hj
 rw [Nat.testBit_two_pow_sub_one] at this; simpa using this
theorem Qbi {n:Nat} {S:Nat → Nat} (hS:Gd n S) {s:Nat} (hs:∀j,s.testBit j=true→j < n) (P:Nat → Prop) (h0:∀j,s.testBit j=true→P j) (h1:∀v p,v < n→P v→(S v).testBit p=true→P p) {v:Nat} (hv:(ups n S n s).testBit v=true):P v:=by
 obtain ⟨T,hT⟩:=Qqz n P
 have hc:Clo n S T:=fun u hu hb j hj=>(hT j).2 ⟨hS.inn u hu j hj,h1 u j hu ((hT u).1 hb).2 hj⟩
 exact ((hT v).1 (V5 hc (fun j hj=>(hT j).2 ⟨hs j hj,h0 j hj⟩) n v hv)).2
def jo (n:Nat) (S:Nat → Nat) (an z a:Nat):Nat := msk n fun b=>an.testBit b && !z.testBit b && (List.range n).any fun k=>an.testBit k && ((S k).testBit a || decide (k=a)) && ((S k).testBit b || decide (k=b))
theorem Qvn {n:Nat} {S:Nat → Nat} {an z a b:Nat} (hb:b < n):(jo n S an z a).testBit b=true↔an.testBit b=true∧z.testBit b=false∧∃k,k < n∧an.testBit k=true∧((S k).testBit a=true∨k=a)∧((S k).testBit b=true∨k=b):=by
 unfold jo
 rw [Qy]
 simp only [hb,decide_true,Bool.true_and,Bool.and_eq_true,Bool.not_eq_true',List.any_eq_true,Bool.or_eq_true,decide_eq_true_eq,List.mem_range]
 constructor
 ·rintro ⟨⟨h1,h2⟩,k,h3,⟨h4,h5⟩,h6⟩; exact ⟨h1,h2,k,h3,h4,h5,h6⟩
 ·rintro ⟨h1,h2,k,h3,h4,h5,h6⟩; exact ⟨⟨h1,h2⟩,k,h3,⟨h4,h5⟩,h6⟩
section
variable {n:Nat} {S:Nat → Nat} (hS:Gd n S) {z x y:Nat} (hz:∀j,z.testBit j=true→j < n) (hx:x < n) (hy:y < n) (hxz:z.testBit x=false) (hyz:z.testBit y=false)
def anS (n:Nat) (S:Nat → Nat) (x y z:Nat):Nat := ups n S n (2^x ||| 2^y ||| z)
def anZ (n:Nat) (S:Nat → Nat) (z:Nat):Nat := ups n S n z
def Qa8 (n:Nat) (S:Nat → Nat) (x y z:Nat):Nat := ups n (jo n S (anS n S x y z) z) n (2^x)
include hS hz hx hy hxz hyz
theorem Qxi {j:Nat} (h:(2^x ||| 2^y ||| z).testBit j=true):j < n:=by
 rw [Nat.testBit_or,Nat.testBit_or,Qo,Qo,Bool.or_eq_true,Bool.or_eq_true] at h
 rcases h with (h | h) | h
 ·have:=of_decide_eq_true h; omega
 ·have:=of_decide_eq_true h; omega
 ·exact hz j h
theorem Qj5:Clo n S (anS n S x y z):=Qc3 hS.inn (fun j hj=>Qxi hS hz hx hy hxz hyz hj)
theorem Qjn:Clo n S (anZ n S z):=Qc3 hS.inn hz
theorem Qsz {j:Nat} (h:(anS n S x y z).testBit j=true):j < n:=Qg8 hS.inn (fun j hj=>Qxi hS hz hx hy hxz hyz hj) h
theorem Q7h {j:Nat} (h:(anZ n S z).testBit j=true):j < n:=Qg8 hS.inn hz h
theorem Qt1 {j:Nat} (h:(anZ n S z).testBit j=true):(anS n S x y z).testBit j=true :=
 V5 (Qj5 hS hz hx hy hxz hyz) (fun i hi=>V2 n i (by rw [Nat.testBit_or,hi]; simp)) n j h
theorem Q8u:(anS n S x y z).testBit x=true:=V2 n x (by rw [Nat.testBit_or,Nat.testBit_or,Qo]; simp)
theorem Q82:(anS n S x y z).testBit y=true:=V2 n y (by rw [Nat.testBit_or,Nat.testBit_or,Qo,Qo]; simp)
theorem Q1r {v:Nat} (h:(anS n S x y z).testBit v=true):(anZ n S z).testBit v=true∨(ups n S n (2^y)).testBit v=true∨(ups n S n (2^x)).testBit v=true:=by
 have px:∀j,(2^x).testBit j=true→j < n:=fun j hj=>by rw [Qo] at hj; have:=of_decide_eq_true hj; omega
 have py:∀j,(2^y).testBit j=true→j < n:=fun j hj=>by rw [Qo] at hj; have:=of_decide_eq_true hj; omega
 refine Qbi hS (fun j hj=>Qxi hS hz hx hy hxz hyz hj) (fun v=>(anZ n S z).testBit v=true∨(ups n S n (2^y)).testBit v=true∨(ups n S n (2^x)).testBit v=true) (fun j hj=>?_) (fun v p hv hP hp=>?_) h
 ·rw [Nat.testBit_or,Nat.testBit_or,Bool.or_eq_true,Bool.or_eq_true] at hj
  rcases hj with (hj | hj) | hj
  ·exact .inr (.inr (V2 n j hj))
  ·exact .inr (.inl (V2 n j hj))
  ·exact .inl (V2 n j hj)
 ·rcases hP with h | h | h
  ·exact .inl (Qjn hS hz hx hy hxz hyz v hv h p hp)
  ·exact .inr (.inl (Qc3 hS.inn py v hv h p hp))
  ·exact .inr (.inr (Qc3 hS.inn px v hv h p hp))
theorem Qyg {v:Nat} (h:(anZ n S z).testBit v=false):z.testBit v=false:=by
 rw [Bool.eq_false_iff] at h ⊢
 exact fun e=>h (V2 n v e)
theorem Q3o {v:Nat} (h:(ups n S n (2^x)).testBit v=true):(anZ n S z).testBit v=true∨Rch S z (anZ n S z) x v false:=by
 refine Qbi hS (s:=2^x) (fun j hj=>by rw [Qo] at hj; have:=of_decide_eq_true hj; omega) (fun v=>(anZ n S z).testBit v=true∨Rch S z (anZ n S z) x v false) (fun j hj=>?_) (fun v p hv hP hp=>?_) h
 ·rw [Qo] at hj
  have:=of_decide_eq_true hj
  subst this
  exact .inr .start
 ·rcases hP with h | h
  ·exact .inl (Qjn hS hz hx hy hxz hyz v hv h p hp)
  ·cases hz2:(anZ n S z).testBit v with
   | true=>exact .inl (Qjn hS hz hx hy hxz hyz v hv hz2 p hp)
   | false=>exact .inr (.up h (Qyg hS hz hx hy hxz hyz hz2) hp)
theorem Q5i {v:Nat} (h:(ups n S n (2^y)).testBit v=true):(anZ n S z).testBit v=true∨∀d,Rch S z (anZ n S z) x v d→∃d,Rch S z (anZ n S z) x y d:=by
 refine Qbi hS (s:=2^y) (fun j hj=>by rw [Qo] at hj; have:=of_decide_eq_true hj; omega) (fun v=>(anZ n S z).testBit v=true∨∀d,Rch S z (anZ n S z) x v d→∃d,Rch S z (anZ n S z) x y d) (fun j hj=>?_) (fun v p hv hP hp=>?_) h
 ·rw [Qo] at hj
  have:=of_decide_eq_true hj
  subst this
  exact .inr fun d hd=>⟨d,hd⟩
 ·rcases hP with h | h
  ·exact .inl (Qjn hS hz hx hy hxz hyz v hv h p hp)
  ·cases hz2:(anZ n S z).testBit p with
   | true=>exact .inl rfl
   | false=>exact .inr fun d hd=>h true (.dn hd (Qyg hS hz hx hy hxz hyz hz2) hp)
theorem Q1i (hno:¬ ∃d,Rch S z (anZ n S z) x y d) {a:Nat} (h:(Qa8 n S x y z).testBit a=true):z.testBit a=false∧∃d,Rch S z (anZ n S z) x a d:=by
 obtain ⟨T,hT⟩:=Qqz n fun a=>z.testBit a=false∧∃d,Rch S z (anZ n S z) x a d
 have hc:Clo n (jo n S (anS n S x y z) z) T:=fun a ha hb b hbb=>by
  obtain ⟨_,haz,d,hd⟩:=(hT a).1 hb
  have hbn:b < n:=by
   unfold jo at hbb; rw [Qy] at hbb
   simp only [Bool.and_eq_true,decide_eq_true_eq] at hbb; exact hbb.1
  obtain ⟨h1,h2,k,hk,h3,h4,h5⟩:=(Qvn hbn).1 hbb
  refine (hT b).2 ⟨hbn,h2,?_⟩
  have on:∀p,(∀d,Rch S z (anZ n S z) x k d→True)→Rch S z (anZ n S z) x k true→(S k).testBit p=true→∃d,Rch S z (anZ n S z) x p d:=fun p _ hkr hp=>by
   cases hkz:(anZ n S z).testBit k with
   | true=>exact ⟨_,.turn hkr hkz hp⟩
   | false =>
    rcases Q1r hS hz hx hy hxz hyz h3 with e | e | e
    ·rw [hkz] at e; cases e
    ·rcases Q5i hS hz hx hy hxz hyz e with e | e
     ·rw [hkz] at e; cases e
     ·exact absurd (e _ hkr) hno
    ·rcases Q3o hS hz hx hy hxz hyz e with e | e
     ·rw [hkz] at e; cases e
     ·exact ⟨_,.up e (Qyg hS hz hx hy hxz hyz hkz) hp⟩
  rcases h4 with h4 | rfl
  ·have hkr:Rch S z (anZ n S z) x k true:=.dn hd haz h4
   rcases h5 with h5 | rfl
   ·exact on b (fun _ _=>trivial) hkr h5
   ·exact ⟨_,hkr⟩
  ·rcases h5 with h5 | rfl
   ·cases d with
    | false=>exact ⟨_,.up hd haz h5⟩
    | true=>exact on b (fun _ _=>trivial) hd h5
   ·exact ⟨_,hd⟩
 have hs:Zw (2^x) T:=fun j hj=>by
  rw [Qo] at hj
  have:=of_decide_eq_true hj
  subst this
  exact (hT _).2 ⟨hx,hxz,_,.start⟩
 exact ((hT a).1 (V5 hc hs n a h)).2
theorem Q20 {a j:Nat} (h:(jo n S (anS n S x y z) z a).testBit j=true):j < n:=by
 unfold jo at h; rw [Qy] at h
 simp only [Bool.and_eq_true,decide_eq_true_eq] at h; exact h.1
theorem Q1t:Clo n (jo n S (anS n S x y z) z) (Qa8 n S x y z):=Qc3 (fun v _ j hj=>Q20 hS hz hx hy hxz hyz hj) fun j hj=>by
 rw [Qo] at hj; have:=of_decide_eq_true hj; omega
theorem Q3r {j:Nat} (h:(Qa8 n S x y z).testBit j=true):j < n:=Qg8 (fun v _ j hj=>Q20 hS hz hx hy hxz hyz hj) (fun j hj=>by
 rw [Qo] at hj; have:=of_decide_eq_true hj; omega) h
theorem Qg0 {a b k:Nat} (ha:(Qa8 n S x y z).testBit a=true) (hb:b < n) (hban:(anS n S x y z).testBit b=true) (hbz:z.testBit b=false) (hk:(anS n S x y z).testBit k=true) (h1:(S k).testBit a=true∨k=a) (h2:(S k).testBit b=true∨k=b):(Qa8 n S x y z).testBit b=true :=
 Q1t hS hz hx hy hxz hyz a (Q3r hS hz hx hy hxz hyz ha) ha b ((Qvn hb).2 ⟨hban,hbz,k,Qsz hS hz hx hy hxz hyz hk,hk,h1,h2⟩)
theorem Q75 {v:Nat} {d:Bool} (h:Rch S z (anZ n S z) x v d) (hd:d=false):(anS n S x y z).testBit v=true:=by
 induction h with
 | start=>exact Q8u hS hz hx hy hxz hyz
 | up _ _ hp ih=>exact Qj5 hS hz hx hy hxz hyz _ (Qsz hS hz hx hy hxz hyz (ih rfl)) (ih rfl) _ hp
 | dn=>cases hd
 | @turn v p _ hv hp ih=>exact Qt1 hS hz hx hy hxz hyz (Qjn hS hz hx hy hxz hyz v (Q7h hS hz hx hy hxz hyz hv) hv p hp)
theorem Q76 {v:Nat} {d:Bool} (h:Tow S z (anZ n S z) y v d) (hd:d=true):(anS n S x y z).testBit v=true:=by
 induction h with
 | here=>exact Q82 hS hz hx hy hxz hyz
 | up=>cases hd
 | @dn v c d _ hv hc ih=>exact Qj5 hS hz hx hy hxz hyz c (Qsz hS hz hx hy hxz hyz (ih rfl)) (ih rfl) v hc
 | turn _ hv _ _=>exact Qt1 hS hz hx hy hxz hyz hv
theorem Q05 {v:Nat} {d:Bool} (h:Rch S z (anZ n S z) x v d):Tow S z (anZ n S z) y v d→(z.testBit v=false→(Qa8 n S x y z).testBit v=true)∧(z.testBit v=true→d=true→∃p,(S v).testBit p=true∧(Qa8 n S x y z).testBit p=true):=by
 have lt:=fun {j:Nat} h=>Qsz hS hz hx hy hxz hyz (j:=j) h
 induction h with
 | start=>exact fun _=>⟨fun _=>V2 n x (by rw [Qo]; simp),fun e=>by rw [hxz] at e; cases e⟩
 | @up v p hr hv hp ih =>
  intro k
  have i1:=(ih (.up k hv hp)).1 hv
  have va:=Q75 hS hz hx hy hxz hyz hr rfl
  have pa:=Qj5 hS hz hx hy hxz hyz v (lt va) va p hp
  exact ⟨fun hpz=>Qg0 hS hz hx hy hxz hyz i1 (lt pa) pa hpz va (.inr rfl) (.inl hp),fun _ e=>by cases e⟩
 | @dn v c d hr hv hc ih =>
  intro k
  have i1:=(ih (.dn k hv hc)).1 hv
  have ca:=Q76 hS hz hx hy hxz hyz k rfl
  exact ⟨fun hcz=>Qg0 hS hz hx hy hxz hyz i1 (lt ca) ca hcz ca (.inl hc) (.inr rfl),fun _ _=>⟨v,hc,i1⟩⟩
 | @turn v p hr hv hp ih =>
  intro k
  have i:=ih (.turn k hv hp)
  have va:=Qt1 hS hz hx hy hxz hyz hv
  have pa:=Qj5 hS hz hx hy hxz hyz v (lt va) va p hp
  refine ⟨fun hpz=>?_,fun _ e=>by cases e⟩
  cases hvz:z.testBit v with
  | false=>exact Qg0 hS hz hx hy hxz hyz (i.1 hvz) (lt pa) pa hpz va (.inr rfl) (.inl hp)
  | true =>
   obtain ⟨q,hq1,hq2⟩:=i.2 hvz rfl
   exact Qg0 hS hz hx hy hxz hyz hq2 (lt pa) pa hpz va (.inl hq1) (.inl hp)
theorem Qqu:(Qa8 n S x y z).testBit y=true↔∃d,Rch S z (anZ n S z) x y d:=by
 constructor
 ·intro h
  apply Classical.byContradiction
  intro hno
  exact hno (Q1i hS hz hx hy hxz hyz hno h).2
 ·rintro ⟨d,h⟩
  exact (Q05 hS hz hx hy hxz hyz h (.here d)).1 hyz
end
end Go.Ab
namespace Go.Ab
open Go
set_option maxRecDepth 100000
set_option maxHeartbeats 1000000
theorem Q1l {τ ρ σ:Type} {n:Nat} (hn:n≤10) (mkS:Int→τ→σ) {body:σ→Option (Qg σ ρ)} (I:Nat → τ→Prop) (Q:ρ→Prop) (p:Nat → Bool)
  (step:∀(x:Nat) (t:τ) (R R':Int),x < n→p x=true→I x t→(R != 0)=true→Qu R=some (x:Int) →
   zv (zb R &&& zb (zv (R - 1))).toNat = R' →
   (∃t',body (mkS R t)=some (.next (mkS R' t'))∧I (x+1) t')∨(∃r,body (mkS R t)=some (.done r)∧Q r))
  (skip:∀(x:Nat) (t:τ),x < n→p x=false→I x t→I (x+1) t)
  (done:∀t,I n t→∃r,body (mkS 0 t)=some (.done r)∧Q r) (t0:τ) (h0:I 0 t0) :
  ∃r,Qb fuel body (mkS ((msk n p:Nat):Int) t0)=some r∧Q r:=by
 have key:∀(j N k:Nat) (t:τ),k+j=n→j < N→I k t→∃r,Qb N body (mkS ((msk n fun i=>p i && decide (k≤i):Nat):Int) t)=some r∧Q r:=by
  intro j
  induction j using Nat.strongRecOn with
  | _ j ih =>
   intro N k t hk hN hI
   by_cases hx:∃i,k≤i∧i < n∧p i=true
   ·obtain ⟨x,x1,x2,x3,x4⟩:∃x,k≤x∧x < n∧p x=true∧∀i,k≤i→i < x→p i=false:=by
     have hs:=Qor n (fun i=>p i && decide (k≤i)) (by obtain ⟨i,a,b,c⟩:=hx; exact ⟨i,b,by simp [a,c]⟩)
     refine ⟨_,?_,hs.1,?_,fun i a b=>?_⟩
     ·have:=hs.2.1; simp at this; exact this.2
     ·have:=hs.2.1; simp at this; exact this.1
     ·have:=hs.2.2 i b; simpa [a] using this
    have hIx:I x t:=by
     have:∀d,k+d≤x→I (k+d) t:=by
      intro d
      induction d with
      | zero=>intro _; exact hI
      | succ d ihd=>intro h; exact skip (k+d) t (by omega) (x4 _ (by omega) (by omega)) (ihd (by omega))
     have h:=this (x - k) (by omega)
     rwa [show k+(x - k)=x by omega] at h
    obtain ⟨N,rfl⟩:∃M,N=M+1:=⟨N - 1,by omega⟩
    obtain ⟨a1,a2,a3⟩:=Q2w (n:=n) (v:=x) (p:=fun i=>p i && decide (k≤i)) hn x2 (by simp [x1,x3]) (fun i hi=>by
     by_cases h:k≤i
     ·rw [x4 i h hi]; rfl
     ·simp [h])
    have e:msk n (fun i=>(p i && decide (k≤i)) && !decide (x=i))=msk n fun i=>p i && decide (x+1≤i):=Xc fun i hi=>by
     by_cases h:x+1≤i
     ·have h2:¬ x=i:=by omega
      have h3:k≤i:=by omega
      simp [h,h2,h3]
     ·by_cases h2:x=i
      ·subst h2; simp
      ·by_cases h3:k≤i
       ·rw [x4 i h3 (by omega)]; simp
       ·simp [h,h3]
    rw [e] at a3
    rcases step x t _ _ x2 x3 hIx a1 a2 a3 with ⟨t',b1,b2⟩ | ⟨r,b1,b2⟩
    ·simp only [Qb,b1]
     exact ih (n - (x+1)) (by omega) N (x+1) t' (by omega) (by omega) b2
    ·simp only [Qb,b1]
     exact ⟨r,rfl,b2⟩
   ·have hno:∀i,k≤i→i < n→p i=false:=fun i a b=>by
     rw [Bool.eq_false_iff]; exact fun h=>hx ⟨i,a,b,h⟩
    have e:msk n (fun i=>p i && decide (k≤i))=0:=by
     have:msk n (fun _=>false)=0:=(Qdg (by have:=Nat.two_pow_pos n; omega) fun i _=>by simp).symm
     rw [←this]
     exact Xc fun i hi=>by
      by_cases h:k≤i
      ·rw [hno i h hi]; rfl
      ·simp [h]
    have hIn:I n t:=by
     have:∀d,k+d≤n→I (k+d) t:=by
      intro d
      induction d with
      | zero=>intro _; exact hI
      | succ d ihd=>intro h; exact skip (k+d) t (by omega) (hno _ (by omega) (by omega)) (ihd (by omega))
     have h:=this (n - k) (by omega)
     rwa [show k+(n - k)=n by omega] at h
    obtain ⟨N,rfl⟩:∃M,N=M+1:=⟨N - 1,by omega⟩
    rw [e]
    obtain ⟨r,b1,b2⟩:=done t hIn
    refine ⟨r,?_,b2⟩
    show Qb (N+1) body (mkS 0 t)=_
    simp only [Qb,b1]
 have h:=key n fuel 0 t0 (by omega) (by show n < 1152921504606846976; omega) h0
 have e:msk n (fun i=>p i && decide (0≤i))=msk n p:=Xc fun i _=>by simp
 rwa [e] at h
abbrev Stp:=List (Tseparate_step × Bool)
def vis (m:Stp) (v:Nat) (d:Bool):Bool:=(Za qTseparate_step m ⟨(v:Int),d⟩).getD false
theorem Qt2 (a b:Tseparate_step):qTseparate_step a b=decide (a=b):=by
 obtain ⟨a1,a2⟩:=a; obtain ⟨b1,b2⟩:=b
 rw [Bool.eq_iff_iff]
 simp [qTseparate_step]
theorem Q19 {m:Stp} {k k':Tseparate_step} {v:Bool}:Za qTseparate_step (kput qTseparate_step m k v) k'=if k'=k then some v else Za qTseparate_step m k':=by
 induction m with
 | nil=>simp only [kput,Za,Qt2,decide_eq_true_eq]
 | cons p r ih =>
  simp only [kput]
  by_cases h:k=p.1
  ·rw [if_pos (by rw [Qt2]; exact decide_eq_true h)]
   simp only [Za,Qt2,decide_eq_true_eq]
   by_cases h2:k'=k
   ·rw [if_pos h2,if_pos h2]
   ·rw [if_neg h2,if_neg h2,if_neg (by rw [←h]; exact h2)]
  ·rw [if_neg (by rw [Qt2]; simpa using h)]
   simp only [Za,Qt2,decide_eq_true_eq]
   by_cases h2:k'=p.1
   ·rw [if_pos h2,if_neg (by rw [h2]; exact fun e=>h e.symm),if_pos h2]
   ·rw [if_neg h2,ih,if_neg h2]
theorem Q3x {m:Stp} {v u:Nat} {d e:Bool}:vis (kput qTseparate_step m ⟨(v:Int),d⟩ true) u e=(vis m u e || (decide (u=v) && decide (e=d))):=by
 unfold vis
 rw [Q19]
 by_cases h:(⟨(u:Int),e⟩:Tseparate_step)=⟨(v:Int),d⟩
 ·rw [if_pos h]
  simp only [Tseparate_step.mk.injEq,Int.ofNat_inj] at h
  simp [h.1,h.2]
 ·rw [if_neg h]
  simp only [Tseparate_step.mk.injEq,Int.ofNat_inj,not_and] at h
  by_cases h1:u=v
  ·simp [h1,h h1]
  ·simp [h1]
section
variable (n:Nat) (S:Nat → Nat) (z az x:Nat)
def Suc (m:Stp) (u:Nat) (e:Bool):Prop :=
 (z.testBit u=false→∀c,c < n→(S c).testBit u=true→vis m c true=true)∧(e=false→z.testBit u=false→∀p,p < n→(S u).testBit p=true→vis m p false=true)∧(e=true→az.testBit u=true→∀p,p < n→(S u).testBit p=true→vis m p false=true)
structure DI (m:Stp) (r:Nat):Prop where
 rr:∀u,r.testBit u=true↔(u < n∧z.testBit u=false∧(vis m u true=true∨vis m u false=true))
 sd:∀u e,vis m u e=true→Rch S z az x u e
structure DE (m m':Stp):Prop where
 le:∀u e,vis m u e=true→vis m' u e=true
 new:∀u e,vis m' u e=true→vis m u e=false→Suc n S z az m' u e
def unv (m:Stp):Nat := cnt (2*n) fun k=>!vis m (k / 2) (k % 2==1)
variable {n S z az x}
theorem Suc.mono {m m':Stp} (h:∀u e,vis m u e=true→vis m' u e=true) {u:Nat} {e:Bool} (k:Suc n S z az m u e):Suc n S z az m' u e :=
 ⟨fun a c b d=>h _ _ (k.1 a c b d),fun a b p c d=>h _ _ (k.2.1 a b p c d),fun a b p c d=>h _ _ (k.2.2 a b p c d)⟩
theorem DE.refl {m:Stp}:DE n S z az m m:=⟨fun _ _ h=>h,fun u e h k=>by rw [h] at k; cases k⟩
theorem DE.trans {m m1 m2:Stp} (h:DE n S z az m m1) (k:DE n S z az m1 m2):DE n S z az m m2:=⟨fun u e a=>k.le u e (h.le u e a),fun u e a b=>by
 cases hv:vis m1 u e with
 | true=>exact (h.new u e hv b).mono k.le
 | false=>exact k.new u e a hv⟩
theorem Quy {m m':Stp} (h:∀u e,vis m u e=true→vis m' u e=true):unv n m'≤unv n m:=Qei fun k _ hk=>by
 cases hv:vis m (k / 2) (k % 2==1) with
 | true=>rw [h _ _ hv] at hk; cases hk
 | false=>rfl
theorem Q6k {m m':Stp} (h:∀u e,vis m u e=true→vis m' u e=true) {v:Nat} {d:Bool} (hv:v < n) (h0:vis m v d=false) (h1:vis m' v d=true):unv n m' < unv n m:=by
 have hk:2*v+d.toNat < 2*n:=by cases d <;> simp <;> omega
 have e1:(2*v+d.toNat) / 2=v:=by cases d <;> simp <;> omega
 have e2:((2*v+d.toNat) % 2==1)=d:=by cases d <;> simp <;> omega
 have e:=Qgh (n:=2*n) (v:=2*v+d.toNat) (p:=fun k=>!vis m (k / 2) (k % 2==1)) hk (by rw [e1,e2,h0]; rfl)
 have:unv n m'≤cnt (2*n) (fun i=>!vis m (i / 2) (i % 2==1) && !decide (2*v+d.toNat = i)):=Qei fun k _ hk=>by
  have hne:¬ 2*v+d.toNat = k:=fun e3=>by subst e3; rw [e1,e2,h1] at hk; cases hk
  cases hv2:vis m (k / 2) (k % 2==1) with
  | true=>rw [h _ _ hv2] at hk; cases hk
  | false=>simp [hne]
 unfold unv at *
 omega
def Qql (s:Int × Bool × Int × Stp) (y:Int × Stp):Prop:=∃v r':Nat,s.1=(v:Int)∧y.1=(r':Int)∧DI n S z az x y.2 r'∧DE n S z az s.2.2.2 y.2∧vis y.2 v s.2.1=true
def Qvg (s:Int × Bool × Int × Stp):Prop:=∃v r:Nat,s.1=(v:Int)∧v < n∧s.2.2.1=(r:Int)∧DI n S z az x s.2.2.2 r∧Rch S z az x v s.2.1
theorem Qg9 {D:Bool} {p:Nat → Bool} (hn:n≤8) {M:Nat} {d:Int × Bool × Int × Stp→Option (Int × Stp)} (hd:∀s',Qvg (n:=n) (S:=S) (z:=z) (az:=az) (x:=x) s'→unv n s'.2.2.2 < M→∃y,d s'=some y∧Qql (n:=n) (S:=S) (z:=z) (az:=az) (x:=x) s' y)
  {body:Int × Int × Stp→Option (Qg (Int × Int × Stp) (Int × Stp))}
  (hb:∀s,body s=if (s.1 != 0)=true then (Qu s.1).bind fun i=>(d (i,D,s.2.1,s.2.2)).bind fun y=>some (.next (zv (zb s.1 &&& zb (zv (s.1 - 1))).toNat,y.1,y.2)) else some (.done (s.2.1,s.2.2)))
  (hr:∀i,i < n→p i=true→Rch S z az x i D) {m0:Stp} {r0:Nat} (h0:DI n S z az x m0 r0) (hM:unv n m0 < M) :
  ∃y,Qb fuel body (((msk n p:Nat):Int),(r0:Int),m0)=some y∧∃r':Nat,y.1=(r':Int)∧DI n S z az x y.2 r'∧DE n S z az m0 y.2∧∀i,i < n→p i=true→vis y.2 i D=true:=by
 have h:=Q1l (n:=n) (by omega) (fun R (t:Int × Stp)=>(R,t.1,t.2)) (body:=body)
  (fun k t=>∃r:Nat,t.1=(r:Int)∧DI n S z az x t.2 r∧DE n S z az m0 t.2∧∀i,i < k→i < n→p i=true→vis t.2 i D=true)
  (fun y=>∃r':Nat,y.1=(r':Int)∧DI n S z az x y.2 r'∧DE n S z az m0 y.2∧∀i,i < n→p i=true→vis y.2 i D=true) p
  (fun i t R R' hi hp hI hR htz hrest=>by
   left
   obtain ⟨r,h1,h2,h3,h4⟩:=hI
   obtain ⟨y,g1,v,r',g2,g3,g4,g5,g6⟩:=hd ((i:Int),D,t.1,t.2) ⟨i,r,rfl,hi,h1,h2,hr i hi hp⟩ (Nat.lt_of_le_of_lt (Quy h3.le) hM)
   have hv:i=v:=Int.ofNat_inj.1 g2
   subst hv
   refine ⟨y,?_,r',g3,g4,h3.trans g5,fun j hj hjn hpj=>?_⟩
   ·rw [hb]
    dsimp only
    rw [if_pos hR,htz,Option.bind_some,g1,Option.bind_some,hrest]
   ·by_cases e:j=i
    ·subst e; exact g6
    ·exact g5.le _ _ (h4 j (by omega) hjn hpj))
  (fun i t hi hp hI=>by
   obtain ⟨r,h1,h2,h3,h4⟩:=hI
   refine ⟨r,h1,h2,h3,fun j hj hjn hpj=>?_⟩
   by_cases e:j=i
   ·subst e; rw [hp] at hpj; cases hpj
   ·exact h4 j (by omega) hjn hpj)
  (fun t hI=>by
   obtain ⟨r,h1,h2,h3,h4⟩:=hI
   refine ⟨t,?_,r,h1,h2,h3,fun i hi hp=>h4 i hi hi hp⟩
   rw [hb]
   dsimp only
   rw [if_neg (by decide)]) ((r0:Int),m0) ⟨r0,rfl,h0,.refl,fun i hi=>by omega⟩
 exact h
end
end Go.Ab
namespace Go.Ab
open Go
set_option maxRecDepth 100000
set_option maxHeartbeats 1000000
section
variable {n:Nat} {S:Nat → Nat} {z x:Nat} (hn:n≤8) (hS:Gd n S) (hz:∀j,z.testBit j=true→j < n) (hx:x < n)
def chN (n:Nat) (S:Nat → Nat) (v:Nat):Nat := msk n fun c=>(S c).testBit v
abbrev grS (n:Nat) (S:Nat → Nat):Qw:=⟨⟨Qc n S⟩,Qc n (chN n S)⟩
include hn hS hz hx
theorem Qkg {a:Nat} (h:∀j,a.testBit j=true→j < n):a < 18446744073709551616:=by
 have:=Jh h
 have:(2:Nat)^n≤256:=Nat.pow_le_pow_right (n:=2) (by omega) hn
 omega
theorem Qrl {v:Nat} (hv:v < n):(S v:Int)=((msk n (S v).testBit:Nat):Int):=by
 rw [←Qdg (Jh (hS.inn v hv)) fun i _=>rfl]
theorem Q3b {j:Nat} (h:(anZ n S z).testBit j=true):j < n:=Qg8 hS.inn hz h
theorem Q74 {d:Int × Bool × Int × Stp→Option (Int × Stp)} {s:Int × Bool × Int × Stp} (hI:Qvg (n:=n) (S:=S) (z:=z) (az:=anZ n S z) (x:=x) s)
  (hd:∀s',Qvg (n:=n) (S:=S) (z:=z) (az:=anZ n S z) (x:=x) s'→unv n s'.2.2.2 < unv n s.2.2.2→∃y,d s'=some y∧Qql (n:=n) (S:=S) (z:=z) (az:=anZ n S z) (x:=x) s' y) :
  ∃y,Z2 (z:Int) (grS n S) ((anZ n S z:Nat):Int) d s=some y∧Qql (n:=n) (S:=S) (z:=z) (az:=anZ n S z) (x:=x) s y:=by
 obtain ⟨sv,D,sr,m⟩:=s
 obtain ⟨v,r,h1,hv,h2,hDI,hR⟩:=hI
 dsimp only at h1 h2 hDI hR hd
 subst h1; subst h2
 have z64:=Qkg hn hS hz hx hz
 have az64:=Qkg hn hS hz hx (fun j hj=>Q3b hn hS hz hx hj)
 have hch:(chN n S v:Int)=((msk n fun c=>(S c).testBit v:Nat):Int):=rfl
 have bitz:∀{a k:Nat},a < 18446744073709551616→k < 64→((zv (zb (Int.fdiv (a:Int) (2^min (Int.toNat (k:Int)) zk)) &&& zb 1).toNat)==0)=!a.testBit k:=fun {a k} ha hk=>by
  rw [Qax ha hk]; cases a.testBit k <;> rfl
 have bito:∀{a k:Nat},a < 18446744073709551616→k < 64→((zv (zb (Int.fdiv (a:Int) (2^min (Int.toNat (k:Int)) zk)) &&& zb 1).toNat)==1)=a.testBit k:=fun {a k} ha hk=>by
  rw [Qax ha hk]; cases a.testBit k <;> rfl
 unfold Z2
 dsimp only
 cases hvis:vis m v D with
 | true =>
  refine ⟨((r:Int),m),?_,v,r,rfl,rfl,hDI,.refl,hvis⟩
  have:(Za qTseparate_step m ⟨(v:Int),D⟩).getD false=true:=hvis
  rw [if_pos this]
 | false =>
  have hnk:¬ (Za qTseparate_step m ⟨(v:Int),D⟩).getD false=true:=by
   have:(Za qTseparate_step m ⟨(v:Int),D⟩).getD false=false:=hvis
   rw [this]; decide
  rw [if_neg hnk,if_pos (Qp v),bitz z64 (show v < 64 by omega)]
  generalize hm1:kput qTseparate_step m ⟨(v:Int),D⟩ true=m1
  have hv1:∀u e,vis m1 u e=(vis m u e || (decide (u=v) && decide (e=D))):=fun u e=>by rw [←hm1]; exact Q3x
  have le1:∀u e,vis m u e=true→vis m1 u e=true:=fun u e h=>by rw [hv1,h]; rfl
  have hself:vis m1 v D=true:=by rw [hv1]; simp
  have hunv:unv n m1 < unv n m:=Q6k le1 hv hvis hself
  have sd1:∀u e,vis m1 u e=true→Rch S z (anZ n S z) x u e:=fun u e h=>by
   rw [hv1,Bool.or_eq_true,Bool.and_eq_true] at h
   rcases h with h | ⟨h3,h4⟩
   ·exact hDI.sd u e h
   ·rw [of_decide_eq_true h3,of_decide_eq_true h4]; exact hR
  have fin:∀{m2:Stp} {r2:Nat},DI n S z (anZ n S z) x m2 r2→DE n S z (anZ n S z) m1 m2→Suc n S z (anZ n S z) m2 v D→Qql (n:=n) (S:=S) (z:=z) (az:=anZ n S z) (x:=x) ((v:Int),D,(r:Int),m) ((r2:Int),m2):=fun {m2 r2} g1 g2 g3=>by
   refine ⟨v,r2,rfl,rfl,g1,⟨fun u e h=>g2.le u e (le1 u e h),fun u e h k=>?_⟩,g2.le _ _ hself⟩
   cases hu:vis m1 u e with
   | true =>
    rw [hv1,k,Bool.false_or,Bool.and_eq_true] at hu
    rw [of_decide_eq_true hu.1,of_decide_eq_true hu.2]
    exact g3
   | false=>exact g2.new u e h hu
  cases hvz:z.testBit v with
  | false =>
   rw [if_pos (by decide),if_pos (Qp v),Q1 hv,Option.bind_some,hch]
   have hr64:r < 18446744073709551616:=Qkg hn hS hz hx fun j hj=>((hDI.rr j).1 hj).1
   rw [Qbk (show v < 64 by omega),Kq hr64 (Kp (by omega))]
   have hDI1:DI n S z (anZ n S z) x m1 (r ||| 2^v):=⟨fun u=>by
    rw [Nat.testBit_or,Qo,Bool.or_eq_true,hDI.rr u,hv1,hv1]
    constructor
    ·rintro (⟨g1,g2,g3⟩ | g)
     ·refine ⟨g1,g2,?_⟩
      rcases g3 with g3 | g3
      ·left; rw [g3]; rfl
      ·right; rw [g3]; rfl
     ·have:=of_decide_eq_true g
      subst this
      refine ⟨hv,hvz,?_⟩
      cases D with
      | true=>left; simp
      | false=>right; simp
    ·rintro ⟨g1,g2,g3⟩
     by_cases e:v=u
     ·right; simp [e]
     ·have e':¬ u=v:=fun h=>e h.symm
      left
      refine ⟨g1,g2,?_⟩
      simp only [e',decide_false,Bool.false_and,Bool.or_false] at g3
      exact g3,sd1⟩
   obtain ⟨y1,w1,r1,e1,g1,g2,g3⟩:=Qg9 (D:=true) (p:=fun c=>(S c).testBit v) hn (M:=unv n m) hd (body:=Qay d) (fun s=>rfl) (fun i _ hp=>.dn hR hvz hp) hDI1 hunv
   rw [w1,Option.bind_some]
   have hs1:z.testBit v=false→∀c,c < n→(S c).testBit v=true→vis y1.2 c true=true:=fun _ c hc hb=>g3 c hc hb
   cases hD:D with
   | true =>
    rw [if_pos rfl,if_pos (Qp v),bitz az64 (show v < 64 by omega)]
    cases haz:(anZ n S z).testBit v with
    | false =>
     rw [if_pos (by decide)]
     refine ⟨_,rfl,?_⟩
     have:=fin g1 g2 ⟨hs1,fun e=>(by rw [hD] at e; cases e),fun _ e=>(by rw [haz] at e; cases e)⟩
     rw [hD] at this
     rw [e1]; exact this
    | true =>
     rw [if_neg (by decide),Q1 hv,Option.bind_some,Qrl hn hS hz hx hv,e1]
     obtain ⟨y2,w2,r2,e2,k1,k2,k3⟩:=Qg9 (D:=false) (p:=(S v).testBit) hn (M:=unv n m) hd (body:=Qa0 d) (fun s=>rfl) (fun i _ hp=>.turn (by rw [←hD]; exact hR) haz hp) g1 (Nat.lt_of_le_of_lt (Quy g2.le) hunv)
     rw [w2,Option.bind_some]
     refine ⟨_,rfl,?_⟩
     have:=fin k1 (g2.trans k2) ⟨fun a c hc hb=>k2.le _ _ (hs1 a c hc hb),fun e=>(by rw [hD] at e; cases e),fun _ _ p hp hb=>k3 p hp hb⟩
     rw [hD] at this
     rw [e2]; exact this
   | false =>
    rw [if_neg (by decide),if_pos (Qp v),bito z64 (show v < 64 by omega),hvz,if_neg (by decide),Q1 hv,Option.bind_some,Qrl hn hS hz hx hv,e1]
    obtain ⟨y2,w2,r2,e2,k1,k2,k3⟩:=Qg9 (D:=false) (p:=(S v).testBit) hn (M:=unv n m) hd (body:=Qa6 d) (fun s=>rfl) (fun i _ hp=>.up (by rw [←hD]; exact hR) hvz hp) g1 (Nat.lt_of_le_of_lt (Quy g2.le) hunv)
    rw [w2,Option.bind_some]
    refine ⟨_,rfl,?_⟩
    have:=fin k1 (g2.trans k2) ⟨fun a c hc hb=>k2.le _ _ (hs1 a c hc hb),fun _ _ p hp hb=>k3 p hp hb,fun e=>(by rw [hD] at e; cases e)⟩
    rw [hD] at this
    rw [e2]; exact this
  | true =>
   rw [if_neg (by decide)]
   have hDI1:DI n S z (anZ n S z) x m1 r:=⟨fun u=>by
    rw [hDI.rr u,hv1,hv1]
    constructor
    ·rintro ⟨g1,g2,g3⟩
     refine ⟨g1,g2,?_⟩
     rcases g3 with g3 | g3
     ·left; rw [g3]; rfl
     ·right; rw [g3]; rfl
    ·rintro ⟨g1,g2,g3⟩
     have e':¬ u=v:=fun h=>by subst h; rw [hvz] at g2; cases g2
     refine ⟨g1,g2,?_⟩
     simp only [e',decide_false,Bool.false_and,Bool.or_false] at g3
     exact g3,sd1⟩
   have hs1:z.testBit v=false→False:=fun e=>by rw [hvz] at e; cases e
   cases hD:D with
   | true =>
    rw [if_pos rfl,if_pos (Qp v),bitz az64 (show v < 64 by omega)]
    have haz:(anZ n S z).testBit v=true:=V2 n v hvz
    rw [haz,if_neg (by decide),Q1 hv,Option.bind_some,Qrl hn hS hz hx hv]
    obtain ⟨y2,w2,r2,e2,k1,k2,k3⟩:=Qg9 (D:=false) (p:=(S v).testBit) hn (M:=unv n m) hd (body:=Qaz d) (fun s=>rfl) (fun i _ hp=>.turn (by rw [←hD]; exact hR) haz hp) hDI1 hunv
    rw [w2,Option.bind_some]
    refine ⟨_,rfl,?_⟩
    have:=fin k1 k2 ⟨fun a=>(hs1 a).elim,fun e=>(by rw [hD] at e; cases e),fun _ _ p hp hb=>k3 p hp hb⟩
    rw [hD] at this
    rw [e2]; exact this
   | false =>
    rw [if_neg (by decide),if_pos (Qp v),bito z64 (show v < 64 by omega),hvz,if_pos rfl]
    refine ⟨_,rfl,?_⟩
    have:=fin hDI1 .refl ⟨fun a=>(hs1 a).elim,fun _ a=>(hs1 a).elim,fun e=>(by rw [hD] at e; cases e)⟩
    rw [hD] at this
    exact this
theorem Q2g:Qb fuel (Xp (grS n S)) (0,(z:Int))=some ((anZ n S z:Nat):Int):=by
 have hlen:(Qc n S).length=n:=Zk
 have hfull:=Qcf n hS.inn
 have hs0:Zw z (2^n - 1):=fun j hj=>by rw [Nat.testBit_two_pow_sub_one]; simpa using hz j hj
 have hlt:∀{t:Nat},Zw t (2^n - 1)→t < 18446744073709551616:=fun h=>Qkg hn hS hz hx fun j hj=>by have:=h j hj; rw [Nat.testBit_two_pow_sub_one] at this; simpa using this
 have inner:∀t,Zw t (2^n - 1)→Qb fuel (Xo (grS n S)) ((0:Int),(t:Int))=some ((upR n S t:Nat):Int):=fun t ht=>by
  have h:=Xw (n:=n) (k0:=0) (by omega) (by omega) (fun i (x:Int)=>(i,x)) (body:=Xo (grS n S)) (fun k=>(((List.range k).foldl (upV S) t:Nat):Int)) ((upR n S t:Nat):Int)
   (fun k _ hk=>by
    have hsub:=Qnj (S:=S) (T:=2^n - 1) (List.range k) t (fun v hv=>hfull v (by have:=List.mem_range.1 hv; omega)) ht
    unfold Xo
    dsimp only
    rw [hlen,if_pos (dlt hk),Q1 hk,Option.bind_some,if_pos (Qp k),Qax (hlt hsub) (by omega),List.range_succ,List.foldl_append]
    simp only [List.foldl_cons,List.foldl_nil]
    generalize (List.range k).foldl (upV S) t=q at *
    unfold upV
    cases c:q.testBit k with
    | true =>
     rw [if_pos (by rfl),if_pos rfl,Kq (hlt hsub) (Qkg hn hS hz hx (hS.inn k hk))]
    | false=>rw [if_neg (by decide),if_neg (by decide)])
   (by unfold Xo; dsimp only; rw [hlen,if_neg (nlt n)]; rfl)
  rw [show ((0:Nat):Int)=0 from rfl] at h
  exact h
 have h:=Xw (n:=n) (k0:=0) (by omega) (by omega) (fun i (x:Int)=>(i,x)) (body:=Xp (grS n S)) (fun k=>((ups n S k z:Nat):Int)) ((ups n S n z:Nat):Int)
  (fun k _ hk=>by
   unfold Xp
   dsimp only
   rw [hlen,if_pos (dlt hk),inner _ (V5 hfull hs0 k)]; rfl)
  (by unfold Xp; dsimp only; rw [hlen,if_neg (nlt n)])
 rw [show ((0:Nat):Int)=0 from rfl] at h
 exact h
theorem Qzy:∃r:Nat,Vu (grS n S) ((2^x:Nat):Int) (z:Int)=some (r:Int)∧∀u,r.testBit u=true↔(u < n∧z.testBit u=false∧∃d,Rch S z (anZ n S z) x u d):=by
 have hzero:DI n S z (anZ n S z) x ([]:Stp) 0:=⟨fun u=>by simp [vis,Za],fun u e h=>by simp [vis,Za] at h⟩
 have hpx:((2^x:Nat):Int)=((msk n fun i=>decide (x=i):Nat):Int):=by
  congr 1
  exact Qdg (Nat.pow_lt_pow_right (by omega) hx) fun i _=>Qo x i
 have hrec:∀s,Qvg (n:=n) (S:=S) (z:=z) (az:=anZ n S z) (x:=x) s→∃y,Qkr (Z2 (z:Int) (grS n S) ((anZ n S z:Nat):Int)) fuel s=some y∧Qql (n:=n) (S:=S) (z:=z) (az:=anZ n S z) (x:=x) s y:=fun s hs =>
  Qr8 (F:=Z2 (z:Int) (grS n S) ((anZ n S z:Nat):Int)) (Qvg (n:=n) (S:=S) (z:=z) (az:=anZ n S z) (x:=x)) (fun s=>unv n s.2.2.2) (Qql (n:=n) (S:=S) (z:=z) (az:=anZ n S z) (x:=x))
   (fun d s hs hd=>Q74 hn hS hz hx hs hd) fuel s hs (by
    have:unv n s.2.2.2≤2*n:=Qpv _ _
    show unv n s.2.2.2 < fuel
    unfold fuel; omega)
 obtain ⟨y,w,r,e1,g1,g2,g3⟩:=Qg9 (S:=S) (z:=z) (az:=anZ n S z) (x:=x) (D:=false) (p:=fun i=>decide (x=i)) hn (M:=unv n ([]:Stp)+1) (d:=Qkr (Z2 (z:Int) (grS n S) ((anZ n S z:Nat):Int)) fuel) (fun s' hs' _=>hrec s' hs')
  (body:=Qa1 (z:Int) (grS n S) ((anZ n S z:Nat):Int)) (fun s=>rfl) (fun i _ hp=>by have:=of_decide_eq_true hp; subst this; exact .start) hzero (by omega)
 refine ⟨r,?_,fun u=>?_⟩
 ·unfold Vu
  rw [Q2g hn hS hz hx,Option.bind_some,hpx]
  rw [show ((0:Nat):Int)=0 from rfl] at w
  rw [w,Option.bind_some,e1]
 ·rw [g1.rr u]
  constructor
  ·rintro ⟨h1,h2,h3⟩
   refine ⟨h1,h2,?_⟩
   rcases h3 with h3 | h3
   ·exact ⟨_,g1.sd u true h3⟩
   ·exact ⟨_,g1.sd u false h3⟩
  ·rintro ⟨h1,h2,d,h3⟩
   refine ⟨h1,h2,?_⟩
   have hall:∀u e,Rch S z (anZ n S z) x u e→u < n→vis y.2 u e=true:=fun u e h=>by
    have hsuc:∀u e,vis y.2 u e=true→Suc n S z (anZ n S z) y.2 u e:=fun u e h=>g2.new u e h (by simp [vis,Za])
    have key:(vis y.2 u e=true∧u < n)∨(n≤u∧e=true):=by
     induction h with
     | start=>exact .inl ⟨g3 x hx (decide_eq_true rfl),hx⟩
     | @up v p hr hv hp ih =>
      rcases ih with ⟨ih,hvn⟩ | ⟨_,ih⟩
      ·have hpn:=hS.inn v hvn p hp
       exact .inl ⟨(hsuc v false ih).2.1 rfl hv p hpn hp,hpn⟩
      ·cases ih
     | @dn v c d hr hv hc ih =>
      by_cases hcn:c < n
      ·have hvn:=hS.inn c hcn v hc
       rcases ih with ⟨ih,_⟩ | ⟨ih,_⟩
       ·exact .inl ⟨(hsuc v d ih).1 hv c hcn hc,hcn⟩
       ·omega
      ·exact .inr ⟨by omega,rfl⟩
     | @turn v p hr hv hp ih =>
      have hvn:=Q3b hn hS hz hx hv
      rcases ih with ⟨ih,_⟩ | ⟨ih,_⟩
      ·have hpn:=hS.inn v hvn p hp
       exact .inl ⟨(hsuc v true ih).2.2 rfl hv p hpn hp,hpn⟩
      ·omega
    intro hu
    rcases key with h | h
    ·exact h.1
    ·omega
   cases d with
   | true=>exact .inl (hall u true h3 h1)
   | false=>exact .inr (hall u false h3 h1)
end
end Go.Ab
namespace Go.Ab
open Go
set_option maxRecDepth 100000
set_option maxHeartbeats 1000000
section
variable {n:Nat} {S:Nat → Nat} (hn1:1≤n) (hn:n≤8) (hS:Gd n S)
theorem Q61 {b:Bool} {i:Nat} (hi:i < 64):zv ((b.toNat : Int)*2^min (Int.toNat (i:Int)) zk)=(((if b=true then 2^i else 0:Nat)):Int):=by
 cases b with
 | true=>exact Qbk hi
 | false=>simp; rfl
def chP (n:Nat) (S:Nat → Nat) (i p u:Nat):Nat := msk n fun c=>(decide (c < i) || (decide (c=i) && decide (u < p))) && (S c).testBit u
include hn hS
theorem Q6z {i p u:Nat}:chP n S i p u < 18446744073709551616:=by
 have:=msk_lt n fun c=>(decide (c < i) || (decide (c=i) && decide (u < p))) && (S c).testBit u
 have:(2:Nat)^n≤256:=Nat.pow_le_pow_right (n:=2) (by omega) hn
 unfold chP; omega
theorem Q2r {i p:Nat} (hi:i < n) (u:Nat):(if u=p then chP n S i p p ||| (if (S i).testBit p=true then 2^i else 0) else chP n S i p u)=chP n S i (p+1) u:=by
 by_cases e:u=p
 ·subst e
  rw [if_pos rfl]
  apply Nat.eq_of_testBit_eq
  intro c
  unfold chP
  rw [Nat.testBit_or,Qy,Qy]
  by_cases h:c=i
  ·subst h
   cases hb:(S c).testBit u <;> simp [hi,hb,Qo]
  ·have h':¬ i=c:=fun e=>h e.symm
   cases hb:(S i).testBit u <;> simp [h,h',Qo]
 ·rw [if_neg e]
  unfold chP
  refine Xc fun c _=>?_
  have:decide (u < p+1)=decide (u < p):=by rw [Bool.eq_iff_iff]; simp; omega
  rw [this]
theorem Qyt:Qb fuel (Vw (Qc n S)) (0,List.replicate n (0:Int))=some (.inr (Qc n (chN n S))):=by
 have hlen:(Qc n S).length=n:=Zk
 have h64:=Qh8 hn hS
 have inner:∀i,i < n→∀s:Int × List Int,s.1=(i:Int)→Qb fuel (V7 (Qc n S) s (S i:Int)) (0,Qc n (chP n S i 0))=some (Qc n (chP n S i n)):=fun i hi s hs=>by
  have h:=Xw (n:=n) (k0:=0) (by omega) (by omega) (fun i (x:List Int)=>(i,x)) (body:=V7 (Qc n S) s (S i:Int)) (fun p=>Qc n (chP n S i p)) (Qc n (chP n S i n))
   (fun p _ hp=>by
    unfold V7
    dsimp only
    rw [hlen,if_pos (dlt hp),Q1 hp,Option.bind_some,if_pos (Qp p),hs,if_pos (Qp i),Qax (h64 i hi) (by omega),Q61 (by omega),Kq (Q6z hn hS) (by
     split
     ·exact Kp (by omega)
     ·omega),Int.toNat_natCast,Qa9]
    refine congrArg (fun F=>some (Qg.next (zw ((p:Int)+1),Qc n F))) ?_
    funext u
    exact Q2r hn hS hi u)
   (by unfold V7; dsimp only; rw [hlen,if_neg (nlt n)])
  rw [show ((0:Nat):Int)=0 from rfl] at h
  exact h
 have hz:List.replicate n (0:Int)=Qc n (chP n S 0 0):=by
  have e:∀u,chP n S 0 0 u=0:=fun u=>by
   unfold chP
   have:(msk n fun c=>(decide (c < 0) || (decide (c=0) && decide (u < 0))) && (S c).testBit u)=msk n fun _=>false:=Xc fun c _=>by simp
   rw [this]
   have:∀m,msk m (fun _=>false)=0:=fun m=>by
    induction m with
    | zero=>rfl
    | succ m ih=>simp [msk,ih]
   exact this n
  apply List.ext_getElem
  ·simp [Qc,Qdh]
  ·intro k h1 h2
   simp [Qc,Qdh,e]
 have h:=Xw (n:=n) (k0:=0) (by omega) (by omega) (fun i (x:List Int)=>(i,x)) (body:=Vw (Qc n S)) (fun k=>Qc n (chP n S k 0)) (.inr (Qc n (chN n S)))
  (fun i _ hi=>by
   unfold Vw
   dsimp only
   rw [hlen,if_pos (dlt hi),Q1 hi,Option.bind_some,if_pos (Qp n),Qbh (by omega),if_neg (by
    have:=Jh (hS.inn i hi)
    simpa using this),inner i hi _ rfl,Option.bind_some]
   refine congrArg (fun F=>some (Qg.next (zw ((i:Int)+1),Qc n F))) ?_
   funext u
   unfold chP
   refine Xc fun c _=>?_
   by_cases hc:c < i
   ·have:c < i+1:=by omega
    simp [hc,this]
   ·by_cases hc2:c=i
    ·subst hc2
     cases hb:(S c).testBit u with
     | true=>have:=hS.inn c hi u hb; simp [this]
     | false=>simp
    ·have:¬ c < i+1:=by omega
     simp [hc,hc2,this])
  (by
   unfold Vw
   dsimp only
   rw [hlen,if_neg (nlt n)]
   refine congrArg (fun F=>some (Qg.done (Sum.inr (Qc n F)))) ?_
   funext u
   unfold chP chN
   refine Xc fun c hc=>?_
   simp [hc])
 rw [show ((0:Nat):Int)=0 from rfl,←hz] at h
 exact h
theorem Qym:Qb fuel (Vv (Qc n S)) (0,0)=some (.inr ()):=by
 have hlen:(Qc n S).length=n:=Zk
 have h64:=Qh8 hn hS
 obtain ⟨r,hr⟩:=Xj hS
 have p64:∀{P:Nat},(∀j,P.testBit j=true→j < n)→P < 18446744073709551616:=fun h=>by
  have:=Jh h
  have:(2:Nat)^n≤256:=Nat.pow_le_pow_right (n:=2) (by omega) hn
  omega
 have h:=Vb (n:=n) (k0:=0) (by omega) (by omega) (fun i (x:Int)=>(x,i)) (body:=Vv (Qc n S)) (fun k x=>∃P:Nat,x=(P:Int)∧(∀j,P.testBit j=true→j < n)∧cnt n P.testBit=k) (fun r=>r=.inr ())
  (fun k x _ hk hI=>by
   left
   obtain ⟨P,rfl,hP,hc⟩:=hI
   have hex:∃v,v < n∧P.testBit v=false∧Zw (S v) P:=by
    have hun:∃v,v < n∧P.testBit v=false:=by
     apply Classical.byContradiction
     intro hno
     have:cnt n P.testBit=cnt n (fun _=>true):=Ql6 fun i hi=>by
      cases hb:P.testBit i with
      | true=>rfl
      | false=>exact absurd ⟨i,hi,hb⟩ hno
     have hall:∀m,cnt m (fun _=>true)=m:=fun m=>by
      induction m with
      | zero=>rfl
      | succ m ih=>simp [cnt,ih]
     rw [hall] at this; omega
    have key:∀c v,v < n→P.testBit v=false→r v=c→∃v,v < n∧P.testBit v=false∧Zw (S v) P:=by
     intro c
     induction c using Nat.strongRecOn with
     | _ c ih =>
      intro v hv hb hc
      by_cases hs:Zw (S v) P
      ·exact ⟨v,hv,hb,hs⟩
      ·obtain ⟨j,hj,hjp⟩:∃j,(S v).testBit j=true∧P.testBit j=false:=by
        apply Classical.byContradiction
        intro hno
        refine hs fun j hj=>?_
        cases hb2:P.testBit j with
        | true=>rfl
        | false=>exact absurd ⟨j,hj,hb2⟩ hno
       have:=hr v hv j hj
       exact ih (r j) (by omega) j (hS.inn v hv j hj) hjp rfl
    obtain ⟨v,hv,hb⟩:=hun
    exact key _ v hv hb rfl
   have hl:=Vb (n:=n) (k0:=0) (by omega) (by omega) (fun i (_:Unit)=>i) (body:=Kc (Qc n S) ((P:Int),(k:Int))) (fun k _=>∀v,v < k→¬ (P.testBit v=false∧Zw (S v) P)) (fun r=>∃v,v < n∧P.testBit v=false∧r=.inl ((P ||| 2^v:Nat):Int))
    (fun v _ _ hv hI=>by
     have e:Kc (Qc n S) ((P:Int),(k:Int)) (v:Int)=if P.testBit v=false∧Qll (S v) P=true then some (.done (.inl ((P ||| 2^v:Nat):Int))) else some (.next (zw ((v:Int)+1))):=by
      unfold Kc
      dsimp only
      rw [hlen,if_pos (dlt hv),Q1 hv,Option.bind_some,if_pos (Qp v),Qax (p64 hP) (by omega),Q29 (h64 v hv) (p64 hP)]
      cases hb:P.testBit v with
      | true=>simp
      | false =>
       rw [if_pos (by rfl)]
       cases hsb:Qll (S v) P with
       | true =>
        rw [if_pos rfl,if_pos (Qp v),Qbk (by omega),Kq (p64 hP) (Kp (by omega)),if_pos ⟨rfl,rfl⟩]
       | false=>simp
     by_cases hg:P.testBit v=false∧Qll (S v) P=true
     ·right
      exact ⟨_,by rw [e,if_pos hg],v,hv,hg.1,rfl⟩
     ·left
      refine ⟨(),by rw [e,if_neg hg],fun w hw hg2=>?_⟩
      by_cases e2:w=v
      ·subst e2; exact hg ⟨hg2.1,Qk7.2 hg2.2⟩
      ·exact hI w (by omega) hg2)
    (fun _ hI=>by
     obtain ⟨v,h1,h2,h3⟩:=hex
     exact absurd ⟨h2,h3⟩ (hI v h1)) () (fun v hv=>by omega)
   obtain ⟨y,h1,v,hv,hb,rfl⟩:=hl
   rw [show ((0:Nat):Int)=0 from rfl] at h1
   refine ⟨((P ||| 2^v:Nat):Int),?_,P ||| 2^v,rfl,fun j hj=>?_,?_⟩
   ·unfold Vv
    dsimp only
    rw [hlen,if_pos (dlt hk),h1]; rfl
   ·rw [Nat.testBit_or,Qo,Bool.or_eq_true] at hj
    rcases hj with hj | hj
    ·exact hP j hj
    ·have:=of_decide_eq_true hj; omega
   ·have e:=Qgh (n:=n) (v:=v) (p:=(P ||| 2^v).testBit) hv (by rw [Nat.testBit_or,Qo]; simp)
    rw [←e]
    congr 1
    rw [←hc]
    refine Ql6 fun i _=>?_
    rw [Nat.testBit_or,Qo]
    by_cases e2:v=i
    ·subst e2; simp [hb]
    ·simp [e2])
  (fun x _=>⟨_,by unfold Vv; dsimp only; rw [hlen,if_neg (nlt n)],rfl⟩) 0 ⟨0,rfl,fun j hj=>by simp at hj,by
   have:∀m,cnt m (0:Nat).testBit=0:=fun m=>Q1u fun i _=>Nat.zero_testBit i
   exact this n⟩
 obtain ⟨y,h1,rfl⟩:=h
 exact h1
include hn1
theorem Q2b:Qa7 (Qc n S)=some (grS n S,0):=by
 have hlen:(Qc n S).length=n:=Zk
 unfold Qa7
 rw [hlen,if_neg (by simp; omega),if_neg (by simp; omega),if_pos (by omega),Int.toNat_natCast,Qyt hn hS,Option.bind_some]
 dsimp only
 rw [Qym hn hS,Option.bind_some]
theorem Qua {a b:Nat} (ha:a < 18446744073709551616) (hb:b < 18446744073709551616):((zv (zb (a:Int) &&& zb (b:Int)).toNat)==0)=(a &&& b==0):=by
 rw [BitVec.toNat_and,Qde ha,Qde hb,Qcv (Nat.lt_of_le_of_lt Nat.and_le_left ha)]
 rw [Bool.eq_iff_iff,beq_iff_eq,beq_iff_eq]
 exact ⟨fun h=>by exact_mod_cast h,fun h=>by rw [h]; rfl⟩
theorem Qw3 {a b:Nat}:(a &&& b==0)=true↔∀j,¬ (a.testBit j=true∧b.testBit j=true):=by
 rw [beq_iff_eq]
 constructor
 ·intro h j ⟨h1,h2⟩
  have:(a &&& b).testBit j=false:=by rw [h]; exact Nat.zero_testBit j
  rw [Nat.testBit_and,h1,h2] at this; cases this
 ·intro h
  apply Nat.eq_of_testBit_eq
  intro j
  rw [Nat.testBit_and,Nat.zero_testBit,Bool.eq_false_iff]
  intro hb
  rw [Bool.and_eq_true] at hb
  exact h j hb
variable {x y z:Nat} (hx:x < n) (hy:y < n) (hxy:x≠y) (hz:∀j,z.testBit j=true→j < n) (hxz:z.testBit x=false) (hyz:z.testBit y=false)
include hx hy hxy hz hxz hyz
theorem Qtr:Yw (grS n S) [((2^x:Nat):Int),((2^y:Nat):Int),(z:Int)]=some true:=by
 have hlen:(Qc n S).length=n:=Zk
 have z64:=Qkg hn hS hz hx hz
 have px:∀j,(2^x).testBit j=true→j=x:=fun j hj=>by rw [Qo] at hj; exact (of_decide_eq_true hj).symm
 have py:∀j,(2^y).testBit j=true→j=y:=fun j hj=>by rw [Qo] at hj; exact (of_decide_eq_true hj).symm
 have x64:=Kp (show x < 64 by omega)
 have y64:=Kp (show y < 64 by omega)
 have ltx:2^x < 2^n:=Nat.pow_lt_pow_right (by omega) hx
 have lty:2^y < 2^n:=Nat.pow_lt_pow_right (by omega) hy
 have ltz:z < 2^n:=Jh hz
 have h:=Xw (n:=3) (k0:=0) (by omega) (by omega) (fun i (t:Int)=>(t,i)) (body:=Z9 [((2^x:Nat):Int),((2^y:Nat):Int),(z:Int)] (grS n S))
  (fun k=>((match k with | 0=>0 | 1=>2^x | 2=>2^x ||| 2^y | _=>2^x ||| 2^y ||| z:Nat):Int)) (Sum.inr ())
  (fun k _ hk=>by
   unfold Z9
   dsimp only
   rw [if_pos (decide_eq_true (by simp; omega))]
   have hnz:∀{a b:Nat},a < 18446744073709551616→b < 18446744073709551616→(∀j,¬ (a.testBit j=true∧b.testBit j=true))→¬ ((zv (zb (a:Int) &&& zb (b:Int)).toNat) != 0)=true:=fun {a b} ha hb h=>by
    have:=Qua hn1 hn hS ha hb
    rw [(Qw3 hn1 hn hS).2 h] at this
    rw [bne,this]; decide
   match k,hk with
   | 0,_ =>
    rw [Zb (by simp),Option.bind_some]
    simp only [List.getElem_cons_zero,List.getElem_cons_succ]
    rw [hlen,if_pos (Qp n),Qbh (by omega),if_neg (by simpa using ltx)]
    rw [if_neg (hnz x64 (show 0 < 18446744073709551616 by omega) (fun j h=>by simp at h)),Kq (show 0 < 18446744073709551616 by omega) x64,Nat.zero_or]
   | 1,_ =>
    rw [Zb (by simp),Option.bind_some]
    simp only [List.getElem_cons_zero,List.getElem_cons_succ]
    rw [hlen,if_pos (Qp n),Qbh (by omega),if_neg (by simpa using lty)]
    rw [if_neg (hnz y64 x64 (fun j h=>hxy ((px j h.2).symm.trans (py j h.1)))),Kq x64 y64]
   | 2,_ =>
    rw [Zb (by simp),Option.bind_some]
    simp only [List.getElem_cons_zero,List.getElem_cons_succ]
    rw [hlen,if_pos (Qp n),Qbh (by omega),if_neg (by simpa using ltz)]
    rw [if_neg (hnz z64 (Nat.or_lt_two_pow (n:=64) x64 y64) (fun j h=>by
     rw [Nat.testBit_or,Bool.or_eq_true] at h
     rcases h.2 with e | e
     ·rw [px j e,hxz] at h; cases h.1
     ·rw [py j e,hyz] at h; cases h.1)),Kq (Nat.or_lt_two_pow (n:=64) x64 y64) z64])
  (by unfold Z9; dsimp only; rw [if_neg (by simp)])
 rw [show ((0:Nat):Int)=0 from rfl] at h
 unfold Yw
 have h':Qb fuel (Z9 [((2^x:Nat):Int),((2^y:Nat):Int),(z:Int)] (grS n S)) (0,0)=some (Sum.inr ()):=h
 rw [h']; rfl
theorem Q0a:Qab (Qc n S) ((2^x:Nat):Int) ((2^y:Nat):Int) (z:Int)=some (!(Qa8 n S x y z).testBit y,0):=by
 obtain ⟨r,h1,h2⟩:=Qzy (x:=x) (z:=z) hn hS hz hx
 unfold Qab
 rw [Q2b hn1 hn hS,Option.bind_some]
 dsimp only
 rw [if_neg (by decide)]
 rw [Qtr hn1 hn hS hx hy hxy hz hxz hyz,Option.bind_some,if_neg (by decide),h1,Option.bind_some]
 have r64:r < 18446744073709551616:=Qkg hn hS hz hx fun j hj=>((h2 j).1 hj).1
 rw [Qua hn1 hn hS r64 (Kp (by omega))]
 congr 2
 rw [Bool.eq_iff_iff,Qw3 hn1 hn hS]
 have hs:=Qqu (x:=x) (y:=y) hS hz hx hy hxz hyz
 rw [Bool.not_eq_true',←Bool.not_eq_true,hs]
 constructor
 ·intro h hd
  exact h y ⟨(h2 y).2 ⟨hy,hyz,hd⟩,by rw [Qo]; simp⟩
 ·rintro h j ⟨g1,g2⟩
  rw [Qo] at g2
  have:=of_decide_eq_true g2
  subst this
  exact h ((h2 _).1 g1).2.2
end
end Go.Ab
namespace Go.Ab
open Go
set_option maxRecDepth 100000
set_option maxHeartbeats 1000000
section
variable {n:Nat} {S:Nat → Nat}
def apB (n:Nat) (S:Nat → Nat) (x y z:Nat):Bool:=!z.testBit x && !z.testBit y && !(Qa8 n S x y z).testBit y
def fct (x y z:Nat):Tapi_Fact:=⟨(x:Int),(y:Int),(z:Int)⟩
def fZ (n:Nat) (S:Nat → Nat) (x y:Nat):List Tapi_Fact:=apL (fun z=>if apB n S x y z=true then [fct x y z] else []) 0 (2^n)
def Xt (n:Nat) (S:Nat → Nat):List Tapi_Fact:=apL (fun x=>apL (fun y=>fZ n S x y) (x+1) (n - (x+1))) 0 n
theorem Q0m (hn:n≤6) {x y:Nat}:(fZ n S x y).length≤64:=by
 have:=Zl (L:=fun z=>if apB n S x y z=true then [fct x y z] else []) (k0:=0) (m:=1) (fun _=>V8) (2^n)
 have h:2^n≤64:=Nat.pow_le_pow_right (n:=2) (by omega) hn
 unfold fZ; omega
theorem Q52 {k:Nat} (h:k < 1000000):zv ((k:Int)+1)=((k+1:Nat):Int):=by
 rw [show (k:Int)+1=((k+1:Nat):Int) by omega,Qcv (by omega)]
theorem Q0h {α σ ρ:Type} {n c:Nat} (hn:n < 1000000) (mkS:Int→List α→σ) {body:σ→Option (Qg σ ρ)} (L:Nat → List α) (fin:List α→ρ) (hL:∀k,(L k).length≤1) {out:List α} (hout:out.length≤c)
  (step:∀k o,k < n→o.length≤c+n→body (mkS (k:Int) o)=some (.next (mkS (zv ((k:Int)+1)) (o++L k))))
  (done:∀o,body (mkS (n:Int) o)=some (.done (fin o))):Qb fuel body (mkS 0 out)=some (fin (out++apL L 0 n)):=by
 have key:∀(j N k:Nat),k+j=n→j < N→Qb N body (mkS (k:Int) (out++apL L 0 k))=some (fin (out++apL L 0 n)):=by
  intro j
  induction j with
  | zero =>
   intro N k hk hN
   obtain ⟨N,rfl⟩:∃M,N=M+1:=⟨N - 1,by omega⟩
   have:k=n:=by omega
   subst this
   simp only [Qb,done]
  | succ j ih =>
   intro N k hk hN
   obtain ⟨N,rfl⟩:∃M,N=M+1:=⟨N - 1,by omega⟩
   have hb:=Zl (k0:=0) hL k
   have e:=step k (out++apL L 0 k) (by omega) (by rw [List.length_append]; omega)
   simp only [Qb,e]
   rw [Q52 (by omega)]
   have:=ih N (k+1) (by omega) (by omega)
   simp only [apL,Nat.zero_add] at this
   rw [←List.append_assoc] at this
   exact this
 have h:=key n fuel 0 (by omega) (by unfold fuel; omega)
 simpa [apL] using h
section
variable (hn1:1≤n) (hn:n≤6) (hS:Gd n S)
include hn1 hn hS
theorem Q8n {z:Nat} (h:z < 2^n):∀j,z.testBit j=true→j < n:=Jo.1 h
theorem Qy9 {x y:Nat} (hx:x < n) (hy:y < n) (hxy:x≠y) {o:List Tapi_Fact} (ho:o.length≤10000) {s1 s4:Int × List Tapi_Fact} (h1:s1.1=(x:Int)) (h4:s4.1=(y:Int)) :
  Qb fuel (Vy (Qc n S) s1 s4) (0,o)=some (.inr (o++fZ n S x y)):=by
 have hlen:(Qc n S).length=n:=Zk
 have hp:2^n≤64:=Nat.pow_le_pow_right (n:=2) (by omega) hn
 refine Q0h (n:=2^n) (c:=10000) (by omega) (fun k (x:List Tapi_Fact)=>(k,x)) (body:=Vy (Qc n S) s1 s4) (fun z=>if apB n S x y z=true then [fct x y z] else []) Sum.inr (fun _=>V8) ho (fun z o hz ho=>?_) (fun o=>?_)
 ·have z64:z < 18446744073709551616:=by omega
  unfold Vy
  dsimp only
  rw [hlen,Qbk (by omega),if_pos (dlt hz),h1,h4,if_pos (Qp x),if_pos (Qp y)]
  have eor:((zv (zb (zv (zb (Int.fdiv (z:Int) (2^min (Int.toNat (x:Int)) zk)) ||| zb (Int.fdiv (z:Int) (2^min (Int.toNat (y:Int)) zk))).toNat) &&& zb 1).toNat)==1)=(z.testBit x || z.testBit y):=by
   have hb:IntKind.bits .u64=64:=rfl
   have e0:∀k:Nat,k < 64→min (Int.toNat (k:Int)) zk=k:=fun k hk=>by rw [hb,Int.toNat_natCast]; omega
   rw [e0 x (by omega),e0 y (by omega),Qaa,Qaa]
   have l1:z / 2^x < 18446744073709551616:=Nat.lt_of_le_of_lt (Nat.div_le_self _ _) z64
   have l2:z / 2^y < 18446744073709551616:=Nat.lt_of_le_of_lt (Nat.div_le_self _ _) z64
   rw [Kq l1 l2]
   have l3:z / 2^x ||| z / 2^y < 18446744073709551616:=Nat.or_lt_two_pow (n:=64) l1 l2
   have h:=Qax (k:=0) l3 (by omega)
   have e1:Int.fdiv ((z / 2^x ||| z / 2^y:Nat):Int) (2^min (Int.toNat ((0:Nat):Int)) zk)=((z / 2^x ||| z / 2^y:Nat):Int):=by
    rw [e0 0 (by omega),Qaa]; simp
   rw [e1] at h
   rw [h,Nat.testBit_or]
   have e2:∀k,(z / 2^k).testBit 0=z.testBit k:=fun k=>by rw [Nat.testBit_div_two_pow]; simp
   rw [e2,e2]
   cases z.testBit x <;> cases z.testBit y <;> rfl
  rw [eor]
  unfold apB
  cases zx:z.testBit x with
  | true=>simp
  | false =>
   cases zy:z.testBit y with
   | true=>simp
   | false =>
    rw [if_neg (by decide),if_pos (Qp x),if_pos (Qp y),Qbk (show x < 64 by omega),Qbk (show y < 64 by omega),Q0a hn1 (by omega) hS hx hy hxy (Q8n hn1 hn hS hz) zx zy,Option.bind_some]
    dsimp only
    rw [if_neg (by decide)]
    cases (Qa8 n S x y z).testBit y with
    | true=>simp
    | false =>
     rw [if_pos (by decide),if_pos (by rw [List.length_append,List.length_singleton]; omega)]
     rfl
 ·unfold Vy
  dsimp only
  rw [hlen,Qbk (by omega),if_neg (nlt _)]
theorem Qrs {x:Nat}:(apL (fun y=>if y < n then fZ n S x y else []) (x+1) (n - (x+1))).length≤384:=by
 have:=Zl (L:=fun y=>if y < n then fZ n S x y else []) (k0:=x+1) (m:=64) (fun y=>by
  split
  ·exact Q0m hn
  ·simp) (n - (x+1))
 have:(n - (x+1))*64≤6*64:=Nat.mul_le_mul_right _ (by omega)
 omega
theorem Qww:apL (fun x=>apL (fun y=>if y < n then fZ n S x y else []) (x+1) (n - (x+1))) 0 n=Xt n S :=
 Q6 n fun x _ hx=>Q6 _ fun y h1 h2=>by rw [if_pos (by omega)]
theorem Qn8:Kh (Qc n S)=some (Xt n S,0):=by
 have hlen:(Qc n S).length=n:=Zk
 have mid:∀x,x < n→∀(o:List Tapi_Fact) (s1:Int × List Tapi_Fact),s1.1=(x:Int)→o.length≤5000→Qb fuel (Vx (Qc n S) s1) (((x+1:Nat):Int),o)=some (Sum.inr (o++apL (fun y=>if y < n then fZ n S x y else []) (x+1) (n - (x+1)))):=fun x hx o s1 h1 ho =>
  Yh (n:=n) (m:=64) (c:=5000) (by omega) (by omega) (fun k (x:List Tapi_Fact)=>(k,x)) (body:=Vx (Qc n S) s1) _ Sum.inr (fun y=>by
    split
    ·exact Q0m hn
    ·simp) ho
   (fun y o h2 h3 ho=>by
    unfold Vx
    dsimp only
    rw [hlen,if_pos (dlt h3),if_pos (Qp n),Qy9 hn1 hn hS hx h3 (by omega) (by omega) h1 rfl,Option.bind_some,if_pos h3])
   (fun o=>by unfold Vx; dsimp only; rw [hlen,if_neg (nlt n)])
 have h:=Yh (n:=n) (k0:=0) (m:=384) (c:=0) (by omega) (by omega) (fun k (x:List Tapi_Fact)=>(k,x)) (body:=Kj (Qc n S)) (fun x=>apL (fun y=>if y < n then fZ n S x y else []) (x+1) (n - (x+1))) Sum.inr (fun x=>Qrs hn1 hn hS) (out:=[]) (by simp)
  (fun x o _ hx ho=>by
   unfold Kj
   dsimp only
   rw [hlen,if_pos (dlt hx),Qgd (by omega),mid x hx o _ rfl (by omega),Option.bind_some])
  (fun o=>by unfold Kj; dsimp only; rw [hlen,if_neg (nlt n)])
 rw [show ((0:Nat):Int)=0 from rfl] at h
 unfold Kh
 rw [h,Option.bind_some,List.nil_append,Nat.sub_zero,Qww hn1 hn hS]
theorem Qoi:(Xt n S).length≤2304:=by
 rw [←Qww hn1 hn hS]
 have:=Zl (L:=fun x=>apL (fun y=>if y < n then fZ n S x y else []) (x+1) (n - (x+1))) (k0:=0) (m:=384) (fun x=>Qrs hn1 hn hS) n
 omega
end
theorem neF (x y:Tapi_Fact):(!((x.X==y.X) && ((x.Y==y.Y) && ((x.Z==y.Z) && true))))=!decide (x=y):=by
 obtain ⟨a,b,e⟩:=x; obtain ⟨c,d,f⟩:=y
 congr 1; rw [Bool.eq_iff_iff]; simp
theorem Qxl {a b:List Tapi_Fact} (ha:a.length < 1000000):Zc a b=some (decide (a=b)):=by
 unfold Zc
 by_cases hl:a.length=b.length
 ·rw [if_neg (fun h=>Qe1.1 h hl),Qh5 hl ha (body:=Jb a b) _ neF (fun s=>rfl),Option.bind_some]
  by_cases e:a=b
  ·simp [e]
  ·simp [e]
 ·rw [if_pos (Qe1.2 hl)]
  have:¬ a=b:=fun e=>hl (by rw [e])
  simp [this]
end
theorem Q33 {n:Nat} {S:Nat → Nat} (hn:n≤7) (hS:L64 n S) (h1:Qv (Qc n S)=some 0):1≤n:=by
 obtain ⟨c,hc,hc2⟩:=Qrq hn hS
 rw [h1] at hc
 cases c with
 | true=>exact (hc2.1 rfl).1.1
 | false=>cases hc
theorem Qrx {n:Nat} {S:Nat → Nat} (hn:n≤7) (hS:L64 n S) :
  (((1≤n∧n≤5)∧Gd n S)∧Vf (Qc n S) 6=some true∧Zy (Qc n S)=some (Xt n S,0))∨(n=6∧Vf (Qc n S) 6=some true∧Zy (Qc n S)=some ([],6))∨(Vf (Qc n S) 6=some false∧Zy (Qc n S)=some ([],310)):=by
 have hlen:(Qc n S).length=n:=Zk
 rcases Q2s hn hS with ⟨⟨h6,hg⟩,h1,h2,_,_⟩ | ⟨h1,h2,_,_⟩
 ·have hn1:=Q33 hn hS h2
  by_cases h5:n≤5
  ·refine .inl ⟨⟨⟨hn1,h5⟩,hg⟩,h1,?_⟩
   unfold Zy
   rw [h2,Option.bind_some,if_neg (by simp),hlen,if_neg (by simp; omega),Qn8 hn1 h6 hg,Option.bind_some]
  ·refine .inr (.inl ⟨by omega,h1,?_⟩)
   unfold Zy
   rw [h2,Option.bind_some,if_neg (by simp),hlen,if_pos (by simp; omega)]
 ·refine .inr (.inr ⟨h1,?_⟩)
  unfold Zy
  rw [h2]; rfl
end Go.Ab
namespace Go.Ab
open Go
set_option maxRecDepth 100000
set_option maxHeartbeats 1000000
section
variable {n i j:Nat} {S:Nat → Nat} (hn:n≤7) (h:Gd n S) (hi:i < n) (hj:j < n) (hij:i≠j) (he:(S j).testBit i=true) (hc:Qip S i j)
include hn h hi hj hij he hc
theorem Qp6 {x:Nat}:(turn S i j i).testBit x=((S i).testBit x || decide (j=x)):=by rw [Ye hn h hi hj hij he i x hi,if_pos rfl]
theorem Qpl {x:Nat}:(turn S i j j).testBit x=(S i).testBit x:=by
 have hii:(S i).testBit i=false:=Bool.eq_false_iff.2 fun e=>by obtain ⟨r,hr⟩:=Xj h; have:=hr i hi i e; omega
 rw [Ye hn h hi hj hij he j x hj,if_neg (fun e=>hij e.symm),if_pos rfl,Qgb hc]
 by_cases e:i=x
 ·subst e; rw [hii]; simp
 ·simp [e]
theorem Q0v {v x:Nat} (hv:v < n) (h1:v≠i) (h2:v≠j):(turn S i j v).testBit x=(S v).testBit x:=by rw [Ye hn h hi hj hij he v x hv,if_neg h1,if_neg h2]
variable {z:Nat} (hz:∀k,z.testBit k=true→k < n)
include hz
theorem Q2h {v:Nat} (hv:(anZ n S z).testBit v=true):(v≠i→(anZ n (turn S i j) z).testBit v=true)∧(v=i→(anZ n (turn S i j) z).testBit i=true∨(anZ n (turn S i j) z).testBit j=true):=by
 have hT:=Qf7 hn h hi hj hij he hc
 have clo:Clo n (turn S i j) (anZ n (turn S i j) z):=Qc3 hT.inn hz
 refine Qbi h hz (fun v=>(v≠i→(anZ n (turn S i j) z).testBit v=true)∧(v=i→(anZ n (turn S i j) z).testBit i=true∨(anZ n (turn S i j) z).testBit j=true)) (fun k hk=>?_) (fun v p hv hP hp=>?_) hv
 ·have:(anZ n (turn S i j) z).testBit k=true:=V2 n k hk
  exact ⟨fun _=>this,fun e=>by subst e; exact .inl this⟩
 ·by_cases e1:v=j
  ·subst e1
   have hja:=hP.1 (fun e=>hij e.symm)
   refine ⟨fun hpi=>?_,fun _=>.inr hja⟩
   have:(turn S i v v).testBit p=true:=by
    rw [Qpl hn h hi hj hij he hc]
    rw [Qgb hc] at hp
    have:¬ i=p:=fun e=>hpi e.symm
    simpa [this] using hp
   exact clo v hj hja p this
  ·by_cases e2:v=i
   ·subst e2
    have hpi:p≠v:=fun e=>by subst e; obtain ⟨r,hr⟩:=Xj h; have:=hr p hv p hp; omega
    refine ⟨fun _=>?_,fun e=>absurd e hpi⟩
    rcases hP.2 rfl with g | g
    ·exact clo v hi g p (by rw [Qp6 hn h hi hj hij he hc,hp]; rfl)
    ·exact clo j hj g p (by rw [Qpl hn h hi hj hij he hc]; exact hp)
   ·have hva:=hP.1 e2
    have:=clo v hv hva p (by rw [Q0v hn h hi hj hij he hc hv e2 e1]; exact hp)
    exact ⟨fun _=>this,fun e=>by subst e; exact .inl this⟩
variable {x:Nat} (hx:x < n)
def Smu (n i j:Nat) (S:Nat → Nat) (z x:Nat) (v:Nat) (d:Bool):Prop :=
 (v≠i→v≠j→v < n→Rch (turn S i j) z (anZ n (turn S i j) z) x v d) ∧
 (v=i→d=false→Rch (turn S i j) z (anZ n (turn S i j) z) x i false∨(Rch (turn S i j) z (anZ n (turn S i j) z) x i true∧(∀p,(S i).testBit p=true→Rch (turn S i j) z (anZ n (turn S i j) z) x p false)∧∃e,Rch (turn S i j) z (anZ n (turn S i j) z) x j e)) ∧
 (v=i→d=true→Rch (turn S i j) z (anZ n (turn S i j) z) x i true∧Rch (turn S i j) z (anZ n (turn S i j) z) x j true) ∧
 (v=j→d=false→Rch (turn S i j) z (anZ n (turn S i j) z) x j false) ∧
 (v=j→d=true→(Rch (turn S i j) z (anZ n (turn S i j) z) x i true∧Rch (turn S i j) z (anZ n (turn S i j) z) x j true)∨((∀p,(S i).testBit p=true→Rch (turn S i j) z (anZ n (turn S i j) z) x p false)∧(∃e,Rch (turn S i j) z (anZ n (turn S i j) z) x j e)∧∃e,Rch (turn S i j) z (anZ n (turn S i j) z) x i e))
include hx
theorem Q1d {v:Nat} {d:Bool} (hr:Rch S z (anZ n S z) x v d):(v < n→Smu n i j S z x v d)∧(n≤v→d=true):=by
 have hT:=Qf7 hn h hi hj hij he hc
 obtain ⟨r,hrk⟩:=Xj h
 have hii:∀p,(S i).testBit p=true→p≠i∧p≠j:=fun p hp=>by
  have h1:=hrk i hi p hp
  have h2:=hrk j hj i he
  exact ⟨fun e=>by subst e; omega,fun e=>by subst e; omega⟩
 have hji:j≠i:=fun e=>hij e.symm
 have pi:∀p,(S i).testBit p=true→(turn S i j i).testBit p=true:=fun p hp=>by rw [Qp6 hn h hi hj hij he hc,hp]; rfl
 have pj:∀p,(S i).testBit p=true→(turn S i j j).testBit p=true:=fun p hp=>by rw [Qpl hn h hi hj hij he hc]; exact hp
 have pji:(turn S i j i).testBit j=true:=by rw [Qp6 hn h hi hj hij he hc]; simp
 have po:∀v p,v < n→v≠i→v≠j→(S v).testBit p=true→(turn S i j v).testBit p=true:=fun v p hv h1 h2 hp=>by rw [Q0v hn h hi hj hij he hc hv h1 h2]; exact hp
 have sj:∀p,(S j).testBit p=true→p=i∨(S i).testBit p=true:=fun p hp=>by
  rw [Qgb hc,Bool.or_eq_true] at hp
  rcases hp with hp | hp
  ·exact .inr hp
  ·exact .inl (of_decide_eq_true hp).symm
 have up_i:z.testBit i=false→Rch (turn S i j) z (anZ n (turn S i j) z) x i false→∀p,(S i).testBit p=true→Rch (turn S i j) z (anZ n (turn S i j) z) x p false:=fun hzi k p hp=>.up k hzi (pi p hp)
 have mkSim:∀v d,v≠i→v≠j→Rch (turn S i j) z (anZ n (turn S i j) z) x v d→Smu n i j S z x v d:=fun v d h1 h2 k=>⟨fun _ _ _=>k,fun e=>absurd e h1,fun e=>absurd e h1,fun e=>absurd e h2,fun e=>absurd e h2⟩
 have simIf:(Rch (turn S i j) z (anZ n (turn S i j) z) x i false∨(Rch (turn S i j) z (anZ n (turn S i j) z) x i true∧(∀p,(S i).testBit p=true→Rch (turn S i j) z (anZ n (turn S i j) z) x p false)∧∃e,Rch (turn S i j) z (anZ n (turn S i j) z) x j e))→Smu n i j S z x i false:=fun k=>⟨fun e=>absurd rfl e,fun _ _=>k,fun _ e=>(by cases e),fun e=>absurd e hij,fun e=>absurd e hij⟩
 have simIt:(Rch (turn S i j) z (anZ n (turn S i j) z) x i true∧Rch (turn S i j) z (anZ n (turn S i j) z) x j true)→Smu n i j S z x i true:=fun k=>⟨fun e=>absurd rfl e,fun _ e=>(by cases e),fun _ _=>k,fun e=>absurd e hij,fun e=>absurd e hij⟩
 have simJf:Rch (turn S i j) z (anZ n (turn S i j) z) x j false→Smu n i j S z x j false:=fun k=>⟨fun _ e=>absurd rfl e,fun e=>absurd e hji,fun e=>absurd e hji,fun _ _=>k,fun _ e=>(by cases e)⟩
 have simJt:((Rch (turn S i j) z (anZ n (turn S i j) z) x i true∧Rch (turn S i j) z (anZ n (turn S i j) z) x j true)∨((∀p,(S i).testBit p=true→Rch (turn S i j) z (anZ n (turn S i j) z) x p false)∧(∃e,Rch (turn S i j) z (anZ n (turn S i j) z) x j e)∧∃e,Rch (turn S i j) z (anZ n (turn S i j) z) x i e))→Smu n i j S z x j true:=fun k=>⟨fun _ e=>absurd rfl e,fun e=>absurd e hji,fun e=>absurd e hji,fun _ e=>(by cases e),fun _ _=>k⟩
 have upto:∀p,Rch (turn S i j) z (anZ n (turn S i j) z) x p false→Smu n i j S z x p false:=fun p k=>by
  by_cases e1:p=i
  ·subst e1; exact simIf (.inl k)
  ·by_cases e2:p=j
   ·subst e2; exact simJf k
   ·exact mkSim p false e1 e2 k
 induction hr with
 | start=>exact ⟨fun _=>upto x .start,fun e=>by omega⟩
 | @up v p hr hv hp ih =>
  obtain ⟨ih,ihn⟩:=ih
  have hvn:v < n:=Nat.lt_of_not_le fun e=>by cases ihn e
  have hpn:=h.inn v hvn p hp
  refine ⟨fun _=>?_,fun e=>by omega⟩
  obtain ⟨a1,a2,a3,a4,a5⟩:=ih hvn
  by_cases e1:v=i
  ·subst e1
   obtain ⟨q1,q2⟩:=hii p hp
   rcases a2 rfl rfl with k | ⟨k1,k2,k3⟩
   ·exact upto p (.up k hv (pi p hp))
   ·exact upto p (k2 p hp)
  ·by_cases e2:v=j
   ·subst e2
    have k:=a4 rfl rfl
    rcases sj p hp with rfl | hp
    ·exact simIf (.inr ⟨.dn k hv pji,fun p hp=>.up k hv (pj p hp),_,k⟩)
    ·exact upto p (.up k hv (pj p hp))
   ·exact upto p (.up (a1 e1 e2 hvn) hv (po v p hvn e1 e2 hp))
 | @dn v c d hr hv hcv ih =>
  obtain ⟨ih,ihn⟩:=ih
  refine ⟨fun hcn=>?_,fun _=>rfl⟩
  have hvn:=h.inn c hcn v hcv
  obtain ⟨a1,a2,a3,a4,a5⟩:=ih hvn
  by_cases e1:v=i
  ·subst e1
   have ai:∃e,Rch (turn S v j) z (anZ n (turn S v j) z) x v e:=by
    cases d with
    | false=>rcases a2 rfl rfl with k | ⟨k,_⟩ <;> exact ⟨_,k⟩
    | true=>exact ⟨_,(a3 rfl rfl).1⟩
   by_cases ec:c=j
   ·subst ec
    refine simJt ?_
    cases d with
    | false =>
     rcases a2 rfl rfl with k | ⟨k1,k2,k3⟩
     ·exact .inr ⟨up_i hv k,⟨_,.up k hv pji⟩,_,k⟩
     ·exact .inr ⟨k2,k3,_,k1⟩
    | true=>exact .inl (a3 rfl rfl)
   ·have hci:c≠v:=fun e=>by subst e; have:=hrk c hcn c hcv; omega
    obtain ⟨e,k⟩:=ai
    exact mkSim c true hci ec (.dn k hv (po c v hcn hci ec hcv))
  ·by_cases e2:v=j
   ·subst e2
    have aj:∃e,Rch (turn S i v) z (anZ n (turn S i v) z) x v e:=by
     cases d with
     | false=>exact ⟨_,a4 rfl rfl⟩
     | true =>
      rcases a5 rfl rfl with ⟨_,k⟩ | ⟨_,k,_⟩
      ·exact ⟨_,k⟩
      ·exact k
    have hci:c≠i:=fun e=>by subst e; have:=hrk c hcn v hcv; have:=hrk v hj c he; omega
    have hcj:c≠v:=fun e=>by subst e; have:=hrk c hcn c hcv; omega
    obtain ⟨e,k⟩:=aj
    exact mkSim c true hci hcj (.dn k hv (po c v hcn hci hcj hcv))
   ·have k:=a1 e1 e2 hvn
    by_cases ec:c=i
    ·subst ec
     exact simIt ⟨.dn k hv (pi v hcv),.dn k hv (pj v hcv)⟩
    ·by_cases ec2:c=j
     ·subst ec2
      rcases sj v hcv with e | hcv
      ·exact absurd e e1
      ·exact simJt (.inl ⟨.dn k hv (pi v hcv),.dn k hv (pj v hcv)⟩)
     ·exact mkSim c true ec ec2 (.dn k hv (po c v hcn ec ec2 hcv))
 | @turn v p hr hv hp ih =>
  obtain ⟨ih,ihn⟩:=ih
  have hvn:v < n:=Qg8 h.inn hz hv
  have hpn:=h.inn v hvn p hp
  refine ⟨fun _=>?_,fun e=>by omega⟩
  obtain ⟨a1,a2,a3,a4,a5⟩:=ih hvn
  obtain ⟨z1,z2⟩:=Q2h hn h hi hj hij he hc hz hv
  by_cases e1:v=i
  ·subst e1
   obtain ⟨k1,k2⟩:=a3 rfl rfl
   rcases z2 rfl with g | g
   ·exact upto p (.turn k1 g (pi p hp))
   ·exact upto p (.turn k2 g (pj p hp))
  ·by_cases e2:v=j
   ·subst e2
    have g:=z1 hji
    rcases a5 rfl rfl with ⟨k1,k2⟩ | ⟨k1,k2,k3⟩
    ·have hup:∀p,(S i).testBit p=true→Rch (turn S i v) z (anZ n (turn S i v) z) x p false:=fun p hp=>.turn k2 g (pj p hp)
     rcases sj p hp with rfl | hp
     ·exact simIf (.inr ⟨k1,hup,_,k2⟩)
     ·exact upto p (hup p hp)
    ·rcases sj p hp with rfl | hp
     ·obtain ⟨e,k3⟩:=k3
      cases e with
      | false=>exact simIf (.inl k3)
      | true=>exact simIf (.inr ⟨k3,k1,k2⟩)
     ·exact upto p (k1 p hp)
   ·exact upto p (.turn (a1 e1 e2 hvn) (z1 e1) (po v p hvn e1 e2 hp))
theorem Quk {y:Nat} (hy:y < n) (hr:∃d,Rch S z (anZ n S z) x y d):∃d,Rch (turn S i j) z (anZ n (turn S i j) z) x y d:=by
 obtain ⟨d,hr⟩:=hr
 obtain ⟨a1,a2,a3,a4,a5⟩:=(Q1d hn h hi hj hij he hc hz hx hr).1 hy
 by_cases e1:y=i
 ·subst e1
  cases d with
  | false=>rcases a2 rfl rfl with k | ⟨k,_⟩ <;> exact ⟨_,k⟩
  | true=>exact ⟨_,(a3 rfl rfl).1⟩
 ·by_cases e2:y=j
  ·subst e2
   cases d with
   | false=>exact ⟨_,a4 rfl rfl⟩
   | true =>
    rcases a5 rfl rfl with ⟨_,k⟩ | ⟨_,k,_⟩
    ·exact ⟨_,k⟩
    ·exact k
  ·exact ⟨_,a1 e1 e2 hy⟩
end
section
variable {n i j:Nat} {S:Nat → Nat} (hn:n≤7) (h:Gd n S) (hi:i < n) (hj:j < n) (hij:i≠j) (he:(S j).testBit i=true) (hc:Qip S i j)
theorem Ql3 {S T:Nat → Nat} (h:∀v,v < n→S v=T v) {s:Nat}:∀k,ups n S k s=ups n T k s
 | 0=>rfl
 | k+1=>by
  show upR n S (ups n S k s)=upR n T (ups n T k s)
  rw [Ql3 h k]
  unfold upR
  have:∀(l:List Nat) (t:Nat),(∀v∈l,v < n)→l.foldl (upV S) t=l.foldl (upV T) t:=fun l=>by
   induction l with
   | nil=>intros; rfl
   | cons v l ih =>
    intro t hl
    simp only [List.foldl_cons]
    have e:upV S t v=upV T t v:=by unfold upV; rw [h v (hl v (by simp))]
    rw [e]
    exact ih _ fun u hu=>hl u (List.mem_cons_of_mem _ hu)
  exact this _ _ fun v hv=>List.mem_range.1 hv
theorem Qmd {S T:Nat → Nat} (h:∀v,v < n→S v=T v) {x y z:Nat}:apB n S x y z=apB n T x y z:=by
 have e1:anS n S x y z=anS n T x y z:=Ql3 h n
 have e2:∀a,jo n S (anS n S x y z) z a=jo n T (anS n T x y z) z a:=fun a=>by
  rw [e1]
  unfold jo
  refine Xc fun b _=>?_
  congr 1
  rw [Bool.eq_iff_iff,List.any_eq_true,List.any_eq_true]
  constructor
  ·rintro ⟨k,hk,g⟩; exact ⟨k,hk,by rw [←h k (List.mem_range.1 hk)]; exact g⟩
  ·rintro ⟨k,hk,g⟩; exact ⟨k,hk,by rw [h k (List.mem_range.1 hk)]; exact g⟩
 unfold apB Qa8
 rw [Ql3 (fun v _=>e2 v) n]
theorem Qd2 (hS:Gd n S) {x y z:Nat} (hz:∀k,z.testBit k=true→k < n) (hx:x < n) (hy:y < n):apB n S x y z=true↔z.testBit x=false∧z.testBit y=false∧¬ ∃d,Rch S z (anZ n S z) x y d:=by
 unfold apB
 simp only [Bool.and_eq_true,Bool.not_eq_true']
 constructor
 ·rintro ⟨⟨h1,h2⟩,h3⟩
  refine ⟨h1,h2,fun hd=>?_⟩
  rw [(Qqu hS hz hx hy h1 h2).2 hd] at h3; cases h3
 ·rintro ⟨h1,h2,h3⟩
  refine ⟨⟨h1,h2⟩,?_⟩
  rw [Bool.eq_false_iff]
  exact fun e=>h3 ((Qqu hS hz hx hy h1 h2).1 e)
include hn h hi hj hij he hc
theorem Qzu {v:Nat} (hv:v < n):turn (turn S i j) j i v=S v:=by
 have hT:=Qf7 hn h hi hj hij he hc
 have hji:j≠i:=fun e=>hij e.symm
 have het:(turn S i j i).testBit j=true:=by rw [Ye hn h hi hj hij he i j hi,if_pos rfl]; simp
 apply Nat.eq_of_testBit_eq
 intro x
 rw [Ye hn hT hj hi hji het v x hv]
 by_cases e1:v=j
 ·subst e1
  rw [if_pos rfl,Ye hn h hi hj hij he v x hv,if_neg hji,if_pos rfl]
  by_cases e:i=x
  ·subst e; rw [he]; simp
  ·simp [e]
 ·rw [if_neg e1]
  by_cases e2:v=i
  ·subst e2
   rw [if_pos rfl,Ye hn h hi hj hij he v x hv,if_pos rfl]
   by_cases e:j=x
   ·subst e
    have:(S v).testBit j=false:=Bool.eq_false_iff.2 fun e=>by obtain ⟨r,hr⟩:=Xj h; have:=hr v hi j e; have:=hr j hj v he; omega
    rw [this]; simp
   ·simp [e]
  ·rw [if_neg e2,Ye hn h hi hj hij he v x hv,if_neg e2,if_neg e1]
theorem Q1a:Qip (turn S i j) j i:=by
 unfold Qip
 apply Nat.eq_of_testBit_eq
 intro x
 rw [Nat.testBit_or,Qo,Qp6 hn h hi hj hij he hc,Qpl hn h hi hj hij he hc]
theorem Q49 {x y z:Nat} (hz:∀k,z.testBit k=true→k < n) (hx:x < n) (hy:y < n):apB n (turn S i j) x y z=apB n S x y z:=by
 have hT:=Qf7 hn h hi hj hij he hc
 have hji:j≠i:=fun e=>hij e.symm
 have het:(turn S i j i).testBit j=true:=by rw [Ye hn h hi hj hij he i j hi,if_pos rfl]; simp
 have hct:=Q1a hn h hi hj hij he hc
 have hTT:=Qf7 hn hT hj hi hji het hct
 rw [Bool.eq_iff_iff,Qd2 hT hz hx hy,Qd2 h hz hx hy]
 constructor
 ·rintro ⟨h1,h2,h3⟩
  exact ⟨h1,h2,fun hd=>h3 (Quk hn h hi hj hij he hc hz hx hy hd)⟩
 ·rintro ⟨h1,h2,h3⟩
  refine ⟨h1,h2,fun hd=>?_⟩
  have k:=Quk hn hT hj hi hji het hct hz hx hy hd
  have a:apB n (turn (turn S i j) j i) x y z=apB n S x y z:=Qmd fun v hv=>Qzu hn h hi hj hij he hc hv
  have b:=(Qd2 h hz hx hy).2 ⟨h1,h2,h3⟩
  rw [←a] at b
  exact ((Qd2 hTT hz hx hy).1 b).2.2 k
end
end Go.Ab
namespace Go.Ab
open Go
set_option maxRecDepth 100000
set_option maxHeartbeats 1000000
theorem Q46 {n k b:Nat} (hk:k < n) (hb:b < n):k*n+b < n*n:=by
 have h1:(k+1)*n≤n*n:=Nat.mul_le_mul_right _ hk
 rw [Nat.succ_mul] at h1
 omega
theorem Q5b {n k b:Nat} (hb:b < n):(k*n+b) / n=k∧(k*n+b) % n=b:=by
 have h0:0 < n:=by omega
 constructor
 ·rw [Nat.add_comm,Nat.add_mul_div_right _ _ h0,Nat.div_eq_of_lt hb,Nat.zero_add]
 ·rw [Nat.add_comm,Nat.add_mul_mod_self_right,Nat.mod_eq_of_lt hb]
theorem Q0r (P:Nat → Prop) (m:Nat → Nat) (h:∃v,P v):∃v,P v∧∀w,P w→m v≤m w:=by
 have key:∀c v,P v→m v=c→∃v,P v∧∀w,P w→m v≤m w:=by
  intro c
  induction c using Nat.strongRecOn with
  | _ c ih =>
   intro v hv hc
   by_cases hb:∃w,P w∧m w < c
   ·obtain ⟨w,hw,hlt⟩:=hb
    exact ih (m w) hlt w hw rfl
   ·exact ⟨v,hv,fun w hw=>Nat.le_of_not_lt fun hlt=>hb ⟨w,hw,by omega⟩⟩
 obtain ⟨v,hv⟩:=h
 exact key _ v hv rfl
section
variable {n:Nat} {S T:Nat → Nat} (hn:n≤7) (hS:Gd n S) (hT:Gd n T)
def dfN (n:Nat) (S T:Nat → Nat):Nat := cnt (n*n) fun k=>(S (k % n)).testBit (k / n) && (T (k / n)).testBit (k % n)
include hn hS hT
theorem Qzc (hnr:∀u w,u < n→w < n→near T u w=near S u w) (hcl:cls n T=cls n S) (hd:∃u v,u < n∧v < n∧(S v).testBit u=true∧(T u).testBit v=true):∃u v,u < n∧v < n∧(S v).testBit u=true∧(T u).testBit v=true∧Qip S u v:=by
 obtain ⟨r,hr⟩:=Xj hS
 obtain ⟨t,ht⟩:=Xj hT
 obtain ⟨v,⟨hv,u0,hu0,h1,h2⟩,hmin⟩:=Q0r (fun v=>v < n∧∃u,u < n∧(S v).testBit u=true∧(T u).testBit v=true) r (by
  obtain ⟨u,v,a,b,c,d⟩:=hd
  exact ⟨v,b,u,a,c,d⟩)
 obtain ⟨u,⟨hu,h3,h4⟩,hmax⟩:=Q0r (fun u=>u < n∧(S v).testBit u=true∧(T u).testBit v=true) (fun u=>r v - r u) ⟨u0,hu0,h1,h2⟩
 have huv:=hr v hv u h3
 have htuv:=ht u hu v h4
 have huv':u≠v:=fun e=>by subst e; omega
 have col:∀a b c,a≠c→a < n→b < n→c < n→Xa T a b c=Xa S a b c:=fun a b c h ha hb hc=>Qng hcl hT hS h ha hc hb
 refine ⟨u,v,hu,hv,h3,h4,?_⟩
 unfold Qip
 apply Nat.eq_of_testBit_eq
 intro w
 rw [Nat.testBit_or,Qo]
 by_cases hwu:u=w
 ·subst hwu; simp [h3]
 ·have hwu':w≠u:=fun e=>hwu e.symm
  simp only [hwu,decide_false,Bool.or_false]
  rw [Bool.eq_iff_iff]
  constructor
  ·intro hw
   have hwn:=hS.inn v hv w hw
   have hwv:=hr v hv w hw
   have hne:w≠v:=fun e=>by subst e; omega
   cases hnear:near S w u with
   | false =>
    exfalso
    have hc:Xa S w v u=true:=by unfold Xa; rw [hw,h3,hnear]; rfl
    rw [←col w v u hwu' hwn hv hu] at hc
    unfold Xa at hc
    simp only [Bool.and_eq_true] at hc
    have:=ht v hv u hc.1.2
    omega
   | true =>
    have hn2:=hnear
    unfold near at hn2
    rw [Bool.or_eq_true] at hn2
    rcases hn2 with e | e
    ·
     exfalso
     have hruw:=hr w hwn u e
     have hnT:near T w v=true:=by
      rw [hnr w v hwn hv]; unfold near; rw [hw]; simp
     unfold near at hnT
     rw [Bool.or_eq_true] at hnT
     rcases hnT with e2 | e2
     ·have:=hmax w ⟨hwn,hw,e2⟩
      omega
     ·have hnT2:near T w u=true:=by rw [hnr w u hwn hu]; exact hnear
      unfold near at hnT2
      rw [Bool.or_eq_true] at hnT2
      rcases hnT2 with e3 | e3
      ·have g1:=ht v hv w e2
       have g2:=ht w hwn u e3
       omega
      ·have:=hmin w ⟨hwn,u,hu,e,e3⟩
       omega
    ·exact e
  ·intro hw
   have hwn:=hS.inn u hu w hw
   have hrw:=hr u hu w hw
   have hTw:(T u).testBit w=true:=by
    have hnT:near T w u=true:=by rw [hnr w u hwn hu]; unfold near; rw [hw]; simp
    unfold near at hnT
    rw [Bool.or_eq_true] at hnT
    rcases hnT with e | e
    ·have:=hmin u ⟨hu,w,hwn,hw,e⟩
     omega
    ·exact e
   have hne:w≠v:=fun e=>by subst e; omega
   cases hnear:near S w v with
   | false =>
    exfalso
    have hc:Xa T w u v=true:=by
     unfold Xa
     rw [hTw,h4,hnr w v hwn hv,hnear]; rfl
    rw [col w u v hne hwn hu hv] at hc
    unfold Xa at hc
    simp only [Bool.and_eq_true] at hc
    have:=hr u hu v hc.1.2
    omega
   | true =>
    unfold near at hnear
    rw [Bool.or_eq_true] at hnear
    rcases hnear with e | e
    ·have:=hr w hwn v e
     omega
    ·exact e
omit hn in
theorem Qwg (hnr:∀u w,u < n→w < n→near T u w=near S u w) (hd:¬ ∃u v,u < n∧v < n∧(S v).testBit u=true∧(T u).testBit v=true):∀v,v < n→S v=T v:=fun v hv=>by
 obtain ⟨t,ht⟩:=Xj hT
 obtain ⟨r,hr⟩:=Xj hS
 apply Nat.eq_of_testBit_eq
 intro u
 rw [Bool.eq_iff_iff]
 constructor
 ·intro h
  have hu:=hS.inn v hv u h
  have hn2:near T v u=true:=by rw [hnr v u hv hu]; unfold near; rw [h]; rfl
  unfold near at hn2
  rw [Bool.or_eq_true] at hn2
  rcases hn2 with e | e
  ·exact e
  ·exact absurd ⟨u,v,hu,hv,h,e⟩ hd
 ·intro h
  have hu:=hT.inn v hv u h
  have hn2:near S v u=true:=by rw [←hnr v u hv hu]; unfold near; rw [h]; rfl
  unfold near at hn2
  rw [Bool.or_eq_true] at hn2
  rcases hn2 with e | e
  ·exact e
  ·exact absurd ⟨v,u,hv,hu,e,h⟩ hd
end
theorem Q3k {n:Nat} {S T:Nat → Nat} (hn:n≤7) (hS:Gd n S) (hT:Gd n T) {i j:Nat} (hi:i < n) (hj:j < n) (he:(S j).testBit i=true) (he2:(T i).testBit j=true):dfN n (turn S i j) T < dfN n S T:=by
 have hij:i≠j:=fun e=>by subst e; obtain ⟨r,hr⟩:=Xj hS; have:=hr i hi i he; omega
 have hk:=Q46 hi hj
 obtain ⟨d1,d2⟩:=Q5b (k:=i) hj
 have e:=Qgh (n:=n*n) (v:=i*n+j) (p:=fun k=>(S (k % n)).testBit (k / n) && (T (k / n)).testBit (k % n)) hk (by rw [d1,d2,he,he2]; rfl)
 have hTj:(T j).testBit i=false:=Bool.eq_false_iff.2 fun e=>by obtain ⟨t,ht⟩:=Xj hT; have:=ht j hj i e; have:=ht i hi j he2; omega
 have hle:dfN n (turn S i j) T≤cnt (n*n) (fun k=>((S (k % n)).testBit (k / n) && (T (k / n)).testBit (k % n)) && !decide (i*n+j=k)):=Qei fun k hk hb=>by
  have hn0:0 < n:=by omega
  have hv:k % n < n:=Nat.mod_lt _ hn0
  rw [Bool.and_eq_true] at hb
  obtain ⟨hb1,hb2⟩:=hb
  rw [Ye hn hS hi hj hij he (k % n) (k / n) hv] at hb1
  have hsp:(S (k % n)).testBit (k / n)=true∧¬ i*n+j=k:=by
   by_cases e1:k % n=i
   ·rw [if_pos e1,Bool.or_eq_true] at hb1
    rcases hb1 with hb1 | hb1
    ·rw [e1]
     refine ⟨hb1,fun e2=>?_⟩
     rw [←e2,d2] at e1; exact hij e1.symm
    ·have e3:=of_decide_eq_true hb1
     rw [←e3,e1,hTj] at hb2; cases hb2
   ·rw [if_neg e1] at hb1
    by_cases e2:k % n=j
    ·rw [if_pos e2,Bool.and_eq_true] at hb1
     rw [e2]
     refine ⟨hb1.1,fun e3=>?_⟩
     have:k / n=i:=by rw [←e3]; exact d1
     rw [this] at hb1; simp at hb1
    ·rw [if_neg e2] at hb1
     exact ⟨hb1,fun e3=>e2 (by rw [←e3]; exact d2)⟩
  rw [hsp.1,hb2]
  simp [hsp.2]
 unfold dfN at *
 omega
theorem Q5q {n:Nat} (hn:n≤7) {T:Nat → Nat} (hT:Gd n T):∀(k:Nat) (S:Nat → Nat),dfN n S T≤k→Gd n S→(∀u w,u < n→w < n→near T u w=near S u w)→cls n T=cls n S →
  ∀{x y z:Nat},(∀k,z.testBit k=true→k < n)→x < n→y < n→apB n S x y z=apB n T x y z:=by
 intro k
 induction k with
 | zero =>
  intro S hk hS hnr hcl x y z hz hx hy
  by_cases hd:∃u v,u < n∧v < n∧(S v).testBit u=true∧(T u).testBit v=true
  ·obtain ⟨u,v,hu,hv,h1,h2,h3⟩:=Qzc hn hS hT hnr hcl hd
   have:=Q3k hn hS hT hu hv h1 h2
   omega
  ·exact Qmd (Qwg hS hT hnr hd)
 | succ k ih =>
  intro S hk hS hnr hcl x y z hz hx hy
  by_cases hd:∃u v,u < n∧v < n∧(S v).testBit u=true∧(T u).testBit v=true
  ·obtain ⟨u,v,hu,hv,h1,h2,h3⟩:=Qzc hn hS hT hnr hcl hd
   have hlt:=Q3k hn hS hT hu hv h1 h2
   have huv:u≠v:=fun e=>by subst e; obtain ⟨r,hr⟩:=Xj hS; have:=hr u hu u h1; omega
   rw [←Q49 hn hS hu hv huv h1 h3 hz hx hy]
   refine ih _ (by omega) (Qf7 hn hS hu hv huv h1 h3) (fun a b ha hb=>?_) ?_ hz hx hy
   ·rw [Qro hn hS hu hv huv h1 ha hb]; exact hnr a b ha hb
   ·rw [hcl]; exact Q1s hn hS hu hv huv h1 h3
  ·exact Qmd (Qwg hS hT hnr hd)
section
variable {n:Nat} {S:Nat → Nat} (hS:Gd n S)
include hS
theorem Qir {x y z:Nat} (hz:∀k,z.testBit k=true→k < n) (hx:x < n) (hy:y < n) (h:near S x y=true):apB n S x y z=false:=by
 rw [Bool.eq_false_iff]
 intro hb
 obtain ⟨h1,h2,h3⟩:=(Qd2 hS hz hx hy).1 hb
 refine h3 ?_
 unfold near at h
 rw [Bool.or_eq_true] at h
 rcases h with e | e
 ·exact ⟨_,.up .start h1 e⟩
 ·exact ⟨_,.dn .start h1 e⟩
theorem Q01 {x y:Nat} {r:Nat → Nat} (hr:∀v,v < n→∀j,(S v).testBit j=true→r j < r v) (hx:x < n) (hy:y < n) (hxy:x≠y) (h:near S x y=false) (hle:r x≤r y):apB n S x y (S y)=true:=by
 unfold near at h
 rw [Bool.or_eq_false_iff] at h
 have hz:=hS.inn y hy
 rw [Qd2 hS hz hx hy]
 refine ⟨h.2,Bool.eq_false_iff.2 fun e=>by have:=hr y hy y e; omega,?_⟩
 have anzlt:∀v,(anZ n S (S y)).testBit v=true→r v < r y:=fun v hv=>Qbi hS hz (fun v=>r v < r y) (fun j hj=>hr y hy j hj) (fun v p hv hP hp=>by have:=hr v hv p hp; omega) hv
 have key:∀v d,Rch S (S y) (anZ n S (S y)) x v d→v < n→(ups n S n (2^v)).testBit y=true→d=true∧v≠y:=by
  have py:∀{v},v < n→∀k,(2^v).testBit k=true→k < n:=fun hv k hk=>by rw [Qo] at hk; have:=of_decide_eq_true hk; omega
  have stepd:∀{v},v < n→(ups n S n (2^v)).testBit y=true→r y≤r v:=fun {v} hv hb=>Qbi hS (py hv) (fun k=>r k≤r v) (fun k hk=>by rw [Qo] at hk; have:=of_decide_eq_true hk; subst this; exact Nat.le_refl _) (fun a p ha hP hp=>by have:=hr a ha p hp; omega) hb
  have down:∀{v c},v < n→c < n→(S c).testBit v=true→(ups n S n (2^v)).testBit y=true→(ups n S n (2^c)).testBit y=true:=fun {v c} hv hc hvc hb=>by
   have clo:Clo n S (ups n S n (2^c)):=Qc3 hS.inn (py hc)
   have hcc:(ups n S n (2^c)).testBit c=true:=V2 n c (by rw [Qo]; simp)
   exact V5 clo (fun k hk=>by rw [Qo] at hk; have:=of_decide_eq_true hk; subst this; exact clo c hc hcc _ hvc) n y hb
  intro v d hr2
  induction hr2 with
  | start =>
   intro _ hb
   exfalso
   have:=stepd hx hb
   have hlt:r x=r y:=by omega
   have:y=x∨r y < r x:=Qbi hS (py hx) (fun k=>k=x∨r k < r x) (fun k hk=>by rw [Qo] at hk; exact .inl (of_decide_eq_true hk).symm) (fun a p ha hP hp=>by
    have h7:=hr a ha p hp
    rcases hP with rfl | hP
    ·exact .inr h7
    ·exact .inr (by omega)) hb
   rcases this with e | e
   ·exact hxy e.symm
   ·omega
  | @up v p _ hv hp ih =>
   intro hpn hb
   exfalso
   by_cases hvn:v < n
   ·have:=ih hvn (down hpn hvn hp hb)
    cases this.1
   ·
    rename_i hrv
    have:∀v d,Rch S (S y) (anZ n S (S y)) x v d→d=false→v < n:=fun v d h=>by
     induction h with
     | start=>exact fun _=>hx
     | @up v p _ _ hp ih=>exact fun _=>hS.inn v (ih rfl) p hp
     | dn=>exact fun e=>by cases e
     | @turn v p _ hv hp _=>exact fun _=>hS.inn v (Qg8 hS.inn hz hv) p hp
    exact hvn (this v false hrv rfl)
  | @dn v c d _ hv hc ih =>
   intro hcn hb
   have hvn:=hS.inn c hcn v hc
   refine ⟨rfl,fun e=>?_⟩
   subst e
   rw [hc] at hv; cases hv
  | @turn v p _ hv hp ih =>
   intro hpn hb
   exfalso
   have hvn:=Qg8 hS.inn hz hv
   have h1:=stepd hvn (down hpn hvn hp hb)
   have h2:=anzlt v hv
   omega
 rintro ⟨d,hd⟩
 exact (key y d hd hy (V2 n y (by rw [Qo]; simp))).2 rfl
theorem Qvd {x y:Nat} (hx:x < n) (hy:y < n) (hxy:x≠y) (h:near S x y=false):∃z,z < 2^n∧(apB n S x y z=true∨apB n S y x z=true):=by
 obtain ⟨r,hr⟩:=Xj hS
 rcases Nat.le_total (r x) (r y) with hle | hle
 ·exact ⟨S y,Jh (hS.inn y hy),.inl (Q01 hS hr hx hy hxy h hle)⟩
 ·exact ⟨S x,Jh (hS.inn x hx),.inr (Q01 hS hr hy hx (fun e=>hxy e.symm) (by rw [near_symm]; exact h) hle)⟩
theorem Qk4 {a b c z:Nat} (hz:∀k,z.testBit k=true→k < n) (ha:a < n) (hb:b < n) (hc:c < n) (h:apB n S a c z=true) (h1:near S a b=true) (h2:near S b c=true):z.testBit b=!((S b).testBit a && (S b).testBit c):=by
 obtain ⟨g1,g2,g3⟩:=(Qd2 hS hz ha hc).1 h
 unfold near at h1 h2
 rw [Bool.or_eq_true] at h1 h2
 cases hzb:z.testBit b with
 | true =>
  cases e1:(S b).testBit a with
  | false=>rfl
  | true =>
   cases e2:(S b).testBit c with
   | false=>rfl
   | true =>
    exfalso
    exact g3 ⟨_,.turn (.dn .start g1 e1) (V2 n b hzb) e2⟩
 | false =>
  cases e1:(S b).testBit a with
  | false =>
   exfalso
   have e3:(S a).testBit b=true:=by rw [e1] at h1; simpa using h1
   have k:Rch S z (anZ n S z) a b false:=.up .start g1 e3
   rcases h2 with e | e
   ·exact g3 ⟨_,.up k hzb e⟩
   ·exact g3 ⟨_,.dn k hzb e⟩
  | true =>
   cases e2:(S b).testBit c with
   | true=>rfl
   | false =>
    exfalso
    rw [e2] at h2
    have e4:(S c).testBit b=true:=by simpa using h2
    exact g3 ⟨_,.dn (.dn .start g1 e1) hzb e4⟩
end
theorem Qnd {n:Nat} {S:Nat → Nat} (hS:Gd n S) {x y z:Nat} (hz:∀k,z.testBit k=true→k < n) (hx:x < n) (hy:y < n):apB n S x y z=apB n S y x z:=by
 have an:anS n S x y z=anS n S y x z:=by unfold anS; rw [Nat.or_comm (2^x)]
 have key:∀x y,x < n→y < n→anS n S x y z=anS n S y x z→apB n S x y z=true→apB n S y x z=true:=fun x y hx hy an h=>by
  unfold apB at h ⊢
  simp only [Bool.and_eq_true,Bool.not_eq_true'] at h ⊢
  obtain ⟨⟨h1,h2⟩,h3⟩:=h
  refine ⟨⟨h2,h1⟩,?_⟩
  rw [Bool.eq_false_iff] at h3 ⊢
  intro hs
  refine h3 ?_
  obtain ⟨T,hT⟩:=Qqz n fun a=>z.testBit a=false∧((Qa8 n S x y z).testBit a=true→(Qa8 n S x y z).testBit y=true)
  have hc:Clo n (jo n S (anS n S y x z) z) T:=fun a ha hb b hbb=>by
   obtain ⟨_,haz,hP⟩:=(hT a).1 hb
   have hbn:b < n:=by
    unfold jo at hbb; rw [Qy] at hbb
    simp only [Bool.and_eq_true,decide_eq_true_eq] at hbb; exact hbb.1
   obtain ⟨k1,k2,k,hk,k3,k4,k5⟩:=(Qvn hbn).1 hbb
   refine (hT b).2 ⟨hbn,k2,fun hsb=>hP ?_⟩
   have han:(anS n S x y z).testBit a=true:=by
    rw [an]
    rcases k4 with e | e
    ·exact Qj5 hS hz hy hx h2 h1 k hk k3 a e
    ·rw [←e]; exact k3
   exact Qg0 hS hz hx hy h1 h2 hsb ha han haz (by rw [an]; exact k3) k5 k4
  have hs0:Zw (2^y) T:=fun j hj=>by
   rw [Qo] at hj
   have:=of_decide_eq_true hj
   subst this
   exact (hT _).2 ⟨hy,h2,fun e=>e⟩
  have:=((hT x).1 (V5 hc hs0 n x hs)).2.2
  exact this (V2 n x (by rw [Qo]; simp))
 rw [Bool.eq_iff_iff]
 exact ⟨key x y hx hy an,key y x hy hx an.symm⟩
theorem vp {n:Nat} {S T:Nat → Nat} (hn:n≤7) (hS:Gd n S) (hT:Gd n T):(∀x y z,x < y→y < n→z < 2^n→apB n S x y z=apB n T x y z)↔(prs n (near S)=prs n (near T)∧cls n S=cls n T):=by
 constructor
 ·intro h
  have hall:∀x y z,x≠y→x < n→y < n→z < 2^n→apB n S x y z=apB n T x y z:=fun x y z hne hx hy hz=>by
   rcases Nat.lt_or_gt_of_ne hne with e | e
   ·exact h x y z e hy hz
   ·rw [Qnd hS (Jo.1 hz) hx hy,Qnd hT (Jo.1 hz) hx hy]; exact h y x z e hx hz
  have one:∀{S T:Nat → Nat},Gd n S→Gd n T→(∀x y z,x≠y→x < n→y < n→z < 2^n→apB n S x y z=apB n T x y z)→∀u w,u < n→w < n→near S u w=true→near T u w=true:=fun {S T} hS hT hall u w hu hw hb=>by
   have hne:u≠w:=fun e=>by subst e; rw [Qfb hS hu] at hb; cases hb
   cases hb2:near T u w with
   | true=>rfl
   | false =>
    obtain ⟨z,hz,e | e⟩:=Qvd hT hu hw hne hb2
    ·rw [←hall u w z hne hu hw hz,Qir hS (Jo.1 hz) hu hw hb] at e; cases e
    ·rw [←hall w u z (fun e=>hne e.symm) hw hu hz,Qir hS (Jo.1 hz) hw hu (by rw [near_symm]; exact hb)] at e; cases e
  have hnear:∀u w,u < n→w < n→near S u w=near T u w:=fun u w hu hw=>by
   rw [Bool.eq_iff_iff]
   exact ⟨one hS hT hall u w hu hw,one hT hS (fun x y z a b c d=>(hall x y z a b c d).symm) u w hu hw⟩
  refine ⟨(Qke hS hT).2 hnear,Qen.2 fun a b c h1 h2 h3=>?_⟩
  have ha:a < n:=by omega
  have hne:a≠c:=by omega
  have two:∀{S T:Nat → Nat},Gd n S→Gd n T→(∀x y z,x≠y→x < n→y < n→z < 2^n→apB n S x y z=apB n T x y z)→(∀u w,u < n→w < n→near S u w=near T u w)→Xa S a b c=true→Xa T a b c=true:=fun {S T} hS hT hall hnear hb=>by
   unfold Xa at hb ⊢
   simp only [Bool.and_eq_true,Bool.not_eq_true'] at hb
   obtain ⟨⟨g1,g2⟩,g3⟩:=hb
   have n1:near S a b=true:=by unfold near; rw [g1]; simp
   have n2:near S b c=true:=by unfold near; rw [g2]; rfl
   obtain ⟨z,hz,e⟩:∃z,z < 2^n∧apB n S a c z=true:=by
    obtain ⟨z,hz,e | e⟩:=Qvd hS ha h2 hne g3
    ·exact ⟨z,hz,e⟩
    ·exact ⟨z,hz,by rw [Qnd hS (Jo.1 hz) ha h2]; exact e⟩
   have k1:=Qk4 hS (Jo.1 hz) ha h3 h2 e n1 n2
   rw [g1,g2] at k1
   rw [hall a c z hne ha h2 hz] at e
   have k2:=Qk4 hT (Jo.1 hz) ha h3 h2 e (by rw [←hnear a b ha h3]; exact n1) (by rw [←hnear b c h3 h2]; exact n2)
   rw [k1] at k2
   rw [←hnear a c ha h2,g3]
   have:((T b).testBit a && (T b).testBit c)=true:=by
    cases hx:((T b).testBit a && (T b).testBit c) with
    | true=>rfl
    | false=>rw [hx] at k2; cases k2
   rw [this]; rfl
  rw [Bool.eq_iff_iff]
  exact ⟨two hS hT hall hnear,two hT hS (fun x y z a b c d=>(hall x y z a b c d).symm) fun u w hu hw=>(hnear u w hu hw).symm⟩
 ·rintro ⟨h1,h2⟩ x y z hxy hy hz
  exact Q5q hn hT _ S (Nat.le_refl _) hS (fun u w hu hw=>((Qke hS hT).1 h1 u w hu hw).symm) h2.symm (Jo.1 hz) (by omega) hy
end Go.Ab
