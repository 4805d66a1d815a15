/- What functions compute. No conditions. -/
import Derived.Test.YtcbhkobklhkiiaaDoorW14
import Derived.Test.YtcbhkobklhkiiaaDoorEng7
import Derived.Test.YtcbhkobklhkiiaaDoorW10
import Derived.Test.YtcbhkobklhkiiaaDoorW13
import Derived.KernelRfl
import Derived.Test.YtcbhkobklhkiiaaDoorRows
import Derived.WalkKit
import Derived.ProofKit
import Derived.LaidMore
import Derived.Lib.LaidTab
import Derived.Stop.LaidErr
import Derived.Stop.Joined
import Derived.OpenShut
set_option linter.all false
namespace Go.Ab
open Go
set_option maxRecDepth 100000
set_option maxHeartbeats 400000
def PG (q:Nat → List Nat):Gr:=fun v i=>decide (i∈q v)
def FG (q:Nat → List Nat):Gr:=fun v i=>decide (v=i) || decide (i∈q v)
def mgk (q:Nat → List Nat) (k:Nat):Gr:=fun u w=>!decide (u=w) && (List.range k).any fun v=>FG q v u && FG q v w
def mg (n:Nat) (q:Nat → List Nat):Gr:=fun u w=>decide (u < n) && decide (w < n) && mgk q n u w
theorem Qpx {n:Nat} {F:Nat → Tapi_Node} (hn:n≤8) (h:∀v,v < n→∀p∈Qj F v,p < n):Zc n (setF F)=gl n (PG (Qj F)):=by
 unfold Zc Qe gl
 refine List.map_congr_left fun v hv=>?_
 have hv:=List.mem_range.1 hv
 have:setF F v=msk n (PG (Qj F) v):=Qgg (Qk3 fun j hj=>h v hv j (by unfold setF at hj; rw [Xu] at hj; simpa using hj)) fun i _=>by
  unfold setF PG; rw [Xu]; simp
 rw [this]
theorem Qu2 {n:Nat} {q:Nat → List Nat}:Qjv n (mg n q):=by
 refine ⟨fun u w=>?_,fun u=>?_,fun u w h=>?_⟩
 ·unfold mg mgk
  rw [Bool.eq_iff_iff]
  simp only [Bool.and_eq_true,Bool.not_eq_true',decide_eq_false_iff_not,List.any_eq_true,decide_eq_true_eq]
  constructor <;> rintro ⟨⟨a,b⟩,c,v,d,e,f⟩ <;> exact ⟨⟨b,a⟩,fun h=>c h.symm,v,d,f,e⟩
 ·unfold mg mgk; simp
 ·unfold mg at h
  simp only [Bool.and_eq_true,decide_eq_true_eq] at h
  exact h.1.1
theorem Q0e {n k:Nat} {q:Nat → List Nat} (hn:n≤10) (hk:k < n):zv (zb ((msk n (PG q k):Nat):Int) ||| zb (zv (1*2^min (Int.toNat (k:Int)) (IntKind.bits .u64)))).toNat = ((msk n (FG q k):Nat):Int):=by
 rw [Qjy hn hk]
 congr 1
 exact Qej fun i _=>by unfold PG FG; rw [Bool.or_comm]
theorem Qiu {n v:Nat} {p:Nat → Bool} (hn:n≤10) (hv:v < n):Yb ((msk n p:Nat):Int) (v:Int)=some (p v):=by
 rw [Qrt (Q4t hn (Qbz n p)) (by omega),Qs8 v hv]
theorem Qso {n:Nat} {L:List Int} (hL:L.length=n) (hn:n≤8):Qa fuel (Jc L) 0=some ():=by
 have h:=Zx (n:=n) (k0:=0) (by omega) (by omega) (fun i (_:Unit)=>i) (body:=Jc L) (fun _=>()) ()
  (fun k _ hk=>by unfold Jc; rw [hL,if_pos (dlt hk)])
  (by unfold Jc; rw [hL,if_neg (nlt n)])
 exact h
theorem Qxs {n:Nat} {q:Nat → List Nat} (h1:1≤n) (hn:n≤8) (hq:∀v,v < n→v ∉ q v):Qcb (gl n (PG q))=some (gl n (mg n q)):=by
 have join:∀a b,a < n→b < n→a≠b→(mg n q a b=true↔PG q a b=true∨PG q b a=true∨∃v,v < n∧PG q v a=true∧PG q v b=true):=fun a b ha hb hne=>by
  unfold mg mgk FG PG
  simp only [ha,hb,Bool.and_eq_true,Bool.not_eq_true',decide_eq_false_iff_not,List.any_eq_true,decide_eq_true_eq,Bool.or_eq_true,List.mem_range,decide_true]
  constructor
  ·rintro ⟨_,_,v,hv,e1,e2⟩
   rcases e1 with e1 | e1 <;> rcases e2 with e2 | e2
   ·omega
   ·subst e1; exact .inl e2
   ·subst e2; exact .inr (.inl e1)
   ·exact .inr (.inr ⟨v,hv,e1,e2⟩)
  ·rintro (h | h | ⟨v,hv,e1,e2⟩)
   ·exact ⟨⟨trivial,trivial⟩,hne,a,ha,.inl rfl,.inr h⟩
   ·exact ⟨⟨trivial,trivial⟩,hne,b,hb,.inr h,.inl rfl⟩
   ·exact ⟨⟨trivial,trivial⟩,hne,v,hv,.inr e1,.inr e2⟩
 have b1:∀(a b:Nat) (X Y:List Int) (x:Bool),a < n→b < n→∃y,Qa fuel (Jg (gl n (PG q)) ((a:Int),X) ((b:Int),Y)) (x,(0:Int))=some y∧(y=true↔x=true∨∃v,v < n∧PG q v a=true∧PG q v b=true):=fun a b X Y x ha hb=>by
  have h:=Qcp (n:=n) (k0:=0) (by omega) (by omega) (fun i (t:Bool)=>(t,i)) (body:=Jg (gl n (PG q)) ((a:Int),X) ((b:Int),Y)) (fun k t=>t=true↔x=true∨∃v,v < k∧PG q v a=true∧PG q v b=true) (fun y=>y=true↔x=true∨∃v,v < n∧PG q v a=true∧PG q v b=true)
   (fun k t _ hk hI=>by
    left
    unfold Jg
    dsimp only
    rw [X2,if_pos (dlt hk)]
    by_cases c:t=true
    ·rw [if_pos c]
     refine ⟨true,rfl,by
      simp only [true_iff]
      rcases hI.1 c with h | ⟨v,hv,h⟩
      ·exact .inl h
      ·exact .inr ⟨v,by omega,h⟩⟩
    ·rw [if_neg c,Qc4 hk,Option.bind_some,Qiu (by omega) ha,Option.bind_some]
     have hno:¬ (x=true∨∃v,v < k∧PG q v a=true∧PG q v b=true):=fun h=>c (hI.2 h)
     have key:(x=true∨∃v,v < k+1∧PG q v a=true∧PG q v b=true)↔PG q k a=true∧PG q k b=true:=by
      constructor
      ·rintro (h | ⟨v,hv,h⟩)
       ·exact absurd (.inl h) hno
       ·by_cases e:v=k
        ·rw [←e]; exact h
        ·exact absurd (.inr ⟨v,by omega,h⟩) hno
      ·intro h; exact .inr ⟨k,by omega,h⟩
     by_cases c2:PG q k a=true
     ·rw [if_pos c2,Qiu (by omega) hb,Option.bind_some]
      exact ⟨_,rfl,by rw [key]; simp [c2]⟩
     ·rw [if_neg c2]
      exact ⟨false,rfl,by rw [key]; simp [c2]⟩)
   (fun t hI=>⟨t,by unfold Jg; dsimp only; rw [X2,if_neg (nlt n)],hI⟩) x (by simp)
  exact h
 have b2:∀a,a < n→Qa fuel (Jb (gl n (PG q)) ((a:Int),gl n fun u w=>decide (u < a) && mg n q u w)) ((0:Int),gl n fun u w=>decide (u < a) && mg n q u w)=some (gl n fun u w=>decide (u < a+1) && mg n q u w):=fun a ha=>by
  have h:=Zx (n:=n) (k0:=0) (by omega) (by omega) (fun i (t:List Int)=>(i,t)) (body:=Jb (gl n (PG q)) ((a:Int),gl n fun u w=>decide (u < a) && mg n q u w)) (fun b=>gl n fun u w=>(decide (u < a) || (decide (u=a) && decide (w < b))) && mg n q u w) (gl n fun u w=>decide (u < a+1) && mg n q u w)
   (fun b _ hb=>by
    have put:mg n q a b=true→gl n (upd (fun u w=>(decide (u < a) || (decide (u=a) && decide (w < b))) && mg n q u w) a fun i=>((decide (a < a) || (decide (a=a) && decide (i < b))) && mg n q a i) || decide (b=i))=gl n fun u w=>(decide (u < a) || (decide (u=a) && decide (w < b+1))) && mg n q u w:=fun hm=>gl_congr fun u w hu hw=>by
     simp only [upd]
     by_cases e:u=a
     ·subst e
      rw [if_pos rfl]
      by_cases e2:b=w
      ·subst e2; simp [hm]
      ·have:(w < b+1)↔w < b:=by omega
       simp [e2,this]
     ·rw [if_neg e]; simp [e]
    have skip:mg n q a b=false→(gl n fun u w=>(decide (u < a) || (decide (u=a) && decide (w < b))) && mg n q u w)=gl n fun u w=>(decide (u < a) || (decide (u=a) && decide (w < b+1))) && mg n q u w:=fun hm=>gl_congr fun u w hu hw=>by
     by_cases e:u=a
     ·subst e
      by_cases e2:b=w
      ·subst e2; simp [hm]
      ·have:(w < b+1)↔w < b:=by omega
       simp [this]
     ·simp [e]
    unfold Jb
    dsimp only
    rw [X2,if_pos (dlt hb),Qc4 ha,Option.bind_some,Qiu (by omega) hb,Option.bind_some]
    have self:mg n q a a=false:=Qu2.irr a
    by_cases c:PG q a b=true
    ·rw [if_pos c,Qso (X2 _ _) hn,Option.bind_some]
     have hne:a≠b:=fun e=>by subst e; unfold PG at c; exact hq a ha (by simpa using c)
     have hm:=(join a b ha hb hne).2 (.inl c)
     rw [if_pos (by simp; omega),Qc4 ha,Option.bind_some,X4 (n:=b) (by omega),if_pos (J1 b),Qjy (by omega) hb,Qn7,put hm]
    ·rw [if_neg c,Qc4 hb,Option.bind_some,Qiu (by omega) ha,Option.bind_some]
     obtain ⟨y,e1,e2⟩:=b1 a b (gl n fun u w=>decide (u < a) && mg n q u w) (gl n fun u w=>(decide (u < a) || (decide (u=a) && decide (w < b))) && mg n q u w) (PG q b a) ha hb
     rw [e1,Option.bind_some]
     by_cases hne:a=b
     ·subst hne
      rw [if_neg (by simp),skip self]
     ·rw [if_pos (by simp; omega)]
      by_cases c2:y=true
      ·have hm:mg n q a b=true:=(join a b ha hb hne).2 (.inr (e2.1 c2))
       rw [if_pos c2,Qc4 ha,Option.bind_some,X4 (n:=b) (by omega),if_pos (J1 b),Qjy (by omega) hb,Qn7,put hm]
      ·have hm:mg n q a b=false:=by
        rw [Bool.eq_false_iff]; intro h
        rcases (join a b ha hb hne).1 h with h | h
        ·exact c h
        ·exact c2 (e2.2 h)
       rw [if_neg c2,skip hm])
   (by
    unfold Jb
    dsimp only
    rw [X2,if_neg (nlt n)]
    congr 2
    refine gl_congr fun u w hu hw=>?_
    have:(u < a+1)↔(u < a∨u=a):=by omega
    simp [hw,this])
  have e0:(gl n fun u w=>(decide (u < a) || (decide (u=a) && decide (w < 0))) && mg n q u w)=gl n fun u w=>decide (u < a) && mg n q u w:=gl_congr fun u w _ _=>by simp
  simp only [e0] at h
  exact h
 have h:=Zx (n:=n) (k0:=0) (by omega) (by omega) (fun i (t:List Int)=>(i,t)) (body:=Kv (gl n (PG q))) (fun a=>gl n fun u w=>decide (u < a) && mg n q u w) (gl n (mg n q))
  (fun a _ ha=>by
   unfold Kv
   dsimp only
   rw [X2,if_pos (dlt ha),b2 a ha]; rfl)
  (by
   unfold Kv
   dsimp only
   rw [X2,if_neg (nlt n)]
   congr 2
   refine gl_congr fun u w hu hw=>?_
   simp [hu])
 have e0:(gl n fun u w=>decide (u < 0) && mg n q u w)=gl n fun _ _=>false:=gl_congr fun u w _ _=>by simp
 simp only [e0] at h
 unfold Qcb
 rw [X2,if_pos (by omega),Int.toNat_natCast,Q1r]
 rw [show ((0:Nat):Int)=0 from rfl] at h
 rw [h]; rfl
end Go.Ab
namespace Go.Ab
open Go
set_option maxRecDepth 100000
set_option maxHeartbeats 400000
def setP (A:Gr) (v:Nat):Nat → Bool:=fun i=>A v i || decide (v=i)
def setL (n:Nat):Gr→List Nat → List Nat
 | _,[]=>[]
 | A,v::o=>msk n (setP A v)::setL n (elim A v) o
def Yy (a b:Nat):Bool:=Nat.beq (a &&& b) a
def Qe4 (acc:List Nat) (s:Nat):List Nat := if acc.any (Yy s) then acc else acc++[s]
def Ji (l:List Nat):List Nat := l.foldl Qe4 []
theorem Ka {a b:Nat}:Yy a b=true↔Xl a b:=by
 unfold Yy Xl
 rw [Nat.beq_eq]
 constructor
 ·intro h j hj
  rw [←h,Nat.testBit_and,Bool.and_eq_true] at hj
  exact hj.2
 ·intro h
  refine Nat.eq_of_testBit_eq fun j=>?_
  rw [Nat.testBit_and]
  cases ha:a.testBit j with
  | true=>rw [h j ha]; rfl
  | false=>rfl
theorem Qq2 {n:Nat}:∀(o:List Nat) (A:Gr) (v:Nat),setL n A (o++[v])=setL n A o++[msk n (setP (seqA A o) v)]
 | [],A,v=>rfl
 | u::o,A,v=>by
  simp only [List.cons_append,setL]
  rw [Qq2 o (elim A u) v]; rfl
theorem Qgf {n:Nat}:∀(o:List Nat) (A:Gr),(setL n A o).length=o.length
 | [],A=>rfl
 | u::o,A=>by simp only [setL,List.length_cons]; rw [Qgf o]
theorem Ql7 {n:Nat}:∀(o:List Nat) (A:Gr),∀s∈setL n A o,s < 2^n
 | [],A,s,h=>by cases h
 | u::o,A,s,h=>by
  simp only [setL,List.mem_cons] at h
  rcases h with h | h
  ·rw [h]; exact Qbz n _
  ·exact Ql7 o _ s h
theorem Qnx {l:List Nat} {s:Nat}:Ji (l++[s])=Qe4 (Ji l) s:=by unfold Ji; rw [List.foldl_append]; rfl
theorem Qlg:∀(l acc:List Nat),(l.foldl Qe4 acc).length≤acc.length+l.length∧∀s∈l.foldl Qe4 acc,s∈acc∨s∈l
 | [],acc=>⟨by simp,fun s h=>.inl h⟩
 | x::l,acc=>by
  obtain ⟨h1,h2⟩:=Qlg l (Qe4 acc x)
  have h3:(Qe4 acc x).length≤acc.length+1∧∀s∈Qe4 acc x,s∈acc∨s=x:=by
   unfold Qe4; split
   ·exact ⟨by omega,fun s h=>.inl h⟩
   ·exact ⟨by simp,fun s h=>by
     rcases List.mem_append.1 h with h | h
     ·exact .inl h
     ·simp at h; exact .inr h⟩
  refine ⟨by simp only [List.foldl_cons,List.length_cons]; omega,fun s hs=>?_⟩
  rcases h2 s hs with h | h
  ·rcases h3.2 s h with h | h
   ·exact .inl h
   ·exact .inr (by simp [h])
  ·exact .inr (List.mem_cons_of_mem _ h)
theorem Qlv {l:List Nat} {s:Nat} (h:s∈Ji l):s∈l:=by
 rcases (Qlg l []).2 s h with h | h
 ·cases h
 ·exact h
theorem Qq5 {l:List Nat}:(Ji l).length≤l.length:=by have:=(Qlg l []).1; unfold Ji; simpa using this
theorem J7 {a b:Nat} (ha:a < 18446744073709551616) (hb:b < 18446744073709551616) :
  ((zv (zb (a:Int) &&& ~~~ zb (b:Int)).toNat == 0)=true)↔Yy a b=true:=by rw [Qoh ha hb,Ka]; rfl
theorem Qxd {n:Nat} {A B N:Gr} {v:Nat} {done:Nat → Prop} (hB:∀u w,u < n→w < n→¬ done u→¬ done w→N u w=B u w):∀u w,u < n→w < n→¬ (done u∨u=v)→¬ (done w∨w=v)→(N u w || (setP B v u && (setP B v w && !decide (u=w))))=elim B v u w:=fun u w hu hw h1 h2=>by
 have e:=hB u w hu hw (fun h=>h1 (.inl h)) (fun h=>h2 (.inl h))
 have e1:¬ u=v:=fun h=>h1 (.inr h)
 have e2:¬ w=v:=fun h=>h2 (.inr h)
 unfold setP elim
 rw [e]
 have e1':¬ v=u:=fun h=>e1 h.symm
 have e2':¬ v=w:=fun h=>e2 h.symm
 simp [e1,e2,e1',e2',Bool.and_assoc]
end Go.Ab
namespace Go.Ab
open Go
set_option maxRecDepth 100000
set_option maxHeartbeats 400000
theorem Qz1 {n:Nat} {A:Gr} {o:List Nat} (h1:1≤n) (hn:n≤8) (hG:Qjv n A) (hl:∀v∈o,v < n) (hnd:o.Nodup):Qa fuel (Vu (nI o)) ((0:Int),(0:Int),gl n A,([]:List Int))=some (nI (setL n A o)):=by
 have hol:=Qa3 o (List.range n) hnd fun v hv=>List.mem_range.2 (hl v hv)
 rw [List.length_range] at hol
 have p8:(2:Nat)^n≤256:=Nat.pow_le_pow_right (n:=2) (by omega) hn
 have step:∀(k:Nat) (N:Gr) (hk:k < o.length),(∀u w,u < n→w < n→u ∉ o.take k→w ∉ o.take k→N u w=seqA A (o.take k) u w) →
   Vu (nI o) (((msk n (fun i=>(o.take k).contains i):Nat):Int),(k:Int),gl n N,nI (setL n A (o.take k))) =
   some (.next (((msk n (fun i=>(o.take (k+1)).contains i):Nat):Int),zw ((k:Int)+1),gl n (fun u w=>N u w || (seqA A (o.take k) o[k] u && (seqA A (o.take k) o[k] w && !decide (u=w)))),nI (setL n A (o.take (k+1))))):=fun k N hk hN=>by
  have hv:=hl _ (List.getElem_mem hk)
  have hnot:=Qje hnd hk
  have har:zv (zb ((msk n (N o[k]):Nat):Int) &&& ~~~ zb ((msk n (fun i=>(o.take k).contains i):Nat):Int)).toNat = ((msk n (seqA A (o.take k) o[k]):Nat):Int):=by
   rw [Q2j (n:=n) (by omega) (Qbz n _) (by have:=Qbz n (fun i=>(o.take k).contains i); omega) Qs8 Qs8]
   congr 1
   refine Qej fun i hi=>?_
   by_cases c:i∈o.take k
   ·have:=Qsw (o:=o.take k) hG (.inl c) o[k]
    rw [(Qqi (o:=o.take k) hG).sym,this]
    simp [c]
   ·rw [hN _ _ hv hi hnot c]
    simp [c]
  have inner:∀(X:List Int) (a:Nat),a < n→Qa fuel (Jz ((a:Int),X) ((msk n (N o[k]):Nat):Int) (((msk n (fun i=>(o.take k).contains i):Nat):Int),(k:Int),gl n N,nI (setL n A (o.take k)))) ((0:Int),gl n fun u w=>N u w || (decide (u < a) && (seqA A (o.take k) o[k] u && (seqA A (o.take k) o[k] w && !decide (u=w))))) =
    some (gl n fun u w=>N u w || (decide (u < a+1) && (seqA A (o.take k) o[k] u && (seqA A (o.take k) o[k] w && !decide (u=w))))):=fun X a ha=>by
   generalize seqA A (o.take k) o[k]=P at har
   have h:=Zx (n:=n) (k0:=0) (by omega) (by omega) (fun i (t:List Int)=>(i,t)) (body:=Jz ((a:Int),X) ((msk n (N o[k]):Nat):Int) (((msk n (fun i=>(o.take k).contains i):Nat):Int),(k:Int),gl n N,nI (setL n A (o.take k))))
    (fun b=>gl n fun u w=>N u w || ((decide (u < a) || (decide (u=a) && decide (w < b))) && (P u && (P w && !decide (u=w))))) (gl n fun u w=>N u w || (decide (u < a+1) && (P u && (P w && !decide (u=w)))))
    (fun b _ hb=>by
     have skip:(P a && (P b && !decide (a=b)))=false→(gl n fun u w=>N u w || ((decide (u < a) || (decide (u=a) && decide (w < b))) && (P u && (P w && !decide (u=w)))))=gl n fun u w=>N u w || ((decide (u < a) || (decide (u=a) && decide (w < b+1))) && (P u && (P w && !decide (u=w)))):=fun hm=>gl_congr fun u w hu hw=>by
      by_cases e:u=a
      ·subst e
       by_cases e2:w=b
       ·subst e2; rw [hm]; simp
       ·have:(w < b+1)↔w < b:=by omega
        simp [this]
      ·simp [e]
     unfold Jz
     dsimp only
     rw [X2,if_pos (dlt hb)]
     by_cases c1:a=b
     ·subst c1
      rw [if_neg (by simp),skip (by simp)]
     ·rw [if_pos (by simp; omega),har,Qiu (by omega) ha,Option.bind_some]
      by_cases c2:P a=true
      ·rw [if_pos c2,Qiu (by omega) hb,Option.bind_some]
       by_cases c3:P b=true
       ·rw [if_pos c3,Qc4 ha,Option.bind_some,X4 (n:=b) (by omega),if_pos (J1 b),Qjy (by omega) hb,Qn7]
        congr 3
        refine gl_congr fun u w hu hw=>?_
        simp only [upd]
        by_cases e:u=a
        ·subst e
         rw [if_pos rfl]
         by_cases e2:b=w
         ·subst e2; simp [c2,c3,c1]
         ·have:(w < b+1)↔w < b:=by omega
          simp [e2,this]
        ·rw [if_neg e]; simp [e]
       ·rw [if_neg c3,skip (by simp [c3])]
      ·rw [if_neg c2,skip (by simp [c2])])
    (by
     unfold Jz
     dsimp only
     rw [X2,if_neg (nlt n)]
     congr 2
     refine gl_congr fun u w hu hw=>?_
     have:(u < a+1)↔(u < a∨u=a):=by omega
     simp [hw,this])
   have e0:(gl n fun u w=>N u w || ((decide (u < a) || (decide (u=a) && decide (w < 0))) && (P u && (P w && !decide (u=w)))))=gl n fun u w=>N u w || (decide (u < a) && (P u && (P w && !decide (u=w)))):=gl_congr fun u w _ _=>by simp
   simp only [e0] at h
   exact h
  have outer:Qa fuel (J3 ((msk n (N o[k]):Nat):Int) (((msk n (fun i=>(o.take k).contains i):Nat):Int),(k:Int),gl n N,nI (setL n A (o.take k)))) ((0:Int),gl n N)=some (gl n fun u w=>N u w || (seqA A (o.take k) o[k] u && (seqA A (o.take k) o[k] w && !decide (u=w)))):=by
   have h:=Zx (n:=n) (k0:=0) (by omega) (by omega) (fun i (t:List Int)=>(i,t)) (body:=J3 ((msk n (N o[k]):Nat):Int) (((msk n (fun i=>(o.take k).contains i):Nat):Int),(k:Int),gl n N,nI (setL n A (o.take k))))
    (fun a=>gl n fun u w=>N u w || (decide (u < a) && (seqA A (o.take k) o[k] u && (seqA A (o.take k) o[k] w && !decide (u=w))))) (gl n fun u w=>N u w || (seqA A (o.take k) o[k] u && (seqA A (o.take k) o[k] w && !decide (u=w))))
    (fun a _ ha=>by
     unfold J3
     dsimp only
     rw [X2,if_pos (dlt ha),inner _ a ha]; rfl)
    (by
     unfold J3
     dsimp only
     rw [X2,if_neg (nlt n)]
     congr 2
     refine gl_congr fun u w hu hw=>?_
     simp [hu])
   have e0:(gl n fun u w=>N u w || (decide (u < 0) && (seqA A (o.take k) o[k] u && (seqA A (o.take k) o[k] w && !decide (u=w)))))=gl n N:=gl_congr fun u w _ _=>by simp
   simp only [e0] at h
   exact h
  unfold Vu
  dsimp only
  rw [Q5,if_pos (dlt hk),Qdm hk,Option.bind_some,Qc4 hv,Option.bind_some,X4 (n:=o[k]) (by omega),if_pos (J1 _),if_pos (by rw [List.length_append,Q5,Qgf,List.length_take]; simp; omega),outer,Option.bind_some,if_pos (J1 _),har,Qjy (by omega) hv,Qjy (by omega) hv]
  congr 2
  refine Prod.ext ?_ (Prod.ext rfl (Prod.ext rfl ?_))
  ·dsimp only
   congr 1
   refine Qej fun i _=>?_
   rw [Q2 hk,List.contains_append]
   by_cases e:i=o[k]
   ·subst e; simp
   ·have e':¬ o[k]=i:=fun h=>e h.symm
    simp [e,e']
  ·dsimp only
   rw [Q2 hk,Qq2]
   unfold nI setP; simp
 have h:=Qcp (n:=o.length) (k0:=0) (by omega) (by omega) (fun i (t:Int × List Int × List Int)=>(t.1,i,t.2.1,t.2.2)) (body:=Vu (nI o))
  (fun k t=>∃N:Gr,t=(((msk n (fun i=>(o.take k).contains i):Nat):Int),gl n N,nI (setL n A (o.take k)))∧∀u w,u < n→w < n→u ∉ o.take k→w ∉ o.take k→N u w=seqA A (o.take k) u w) (fun r=>r=nI (setL n A o))
  (fun k t _ hk hI=>by
   obtain ⟨N,rfl,hN⟩:=hI
   left
   refine ⟨_,step k N hk hN,_,rfl,fun u w hu hw h3 h4=>?_⟩
   rw [Q2 hk,List.mem_append,List.mem_singleton] at h3 h4
   rw [Q2 hk,Qw4]
   rw [←Qxd (A:=A) (done:=fun x=>x∈o.take k) hN u w hu hw h3 h4]
   unfold setP
   have e1:¬ o[k]=u:=fun h=>h3 (.inr h.symm)
   have e2:¬ o[k]=w:=fun h=>h4 (.inr h.symm)
   simp [e1,e2])
  (fun t hI=>by
   obtain ⟨N,rfl,hN⟩:=hI
   refine ⟨_,?_,rfl⟩
   unfold Vu
   dsimp only
   rw [Q5,if_neg (nlt _),List.take_length]) (((msk n (fun i=>(o.take 0).contains i):Nat):Int),gl n A,nI (setL n A (o.take 0))) ⟨A,rfl,fun u w _ _ _ _=>rfl⟩
 obtain ⟨r,e1,rfl⟩:=h
 have e0:((msk n (fun i=>(o.take 0).contains i):Nat):Int)=0:=by
  rw [Qej (q:=fun _=>false) fun i _=>by simp]
  have:msk n (fun _=>false)=0:=(Qgg (by have:=Nat.two_pow_pos n; omega) fun i _=>by simp).symm
  rw [this]; rfl
 simp only [e0] at e1
 rw [show ((0:Nat):Int)=0 from rfl] at e1
 rw [show nI (setL n A (o.take 0))=[] from rfl] at e1
 exact e1
theorem Qoq {a b c:Nat} (h:Yy a b=true) (k:Yy b c=true):Yy a c=true:=Ka.2 ((Ka.1 h).trans (Ka.1 k))
theorem Qx4 {a:Nat}:Yy a a=true:=Ka.2 .refl
theorem Qjg {l:List Nat}:∀k,k≤l.length→∀s∈l.take k,∃e∈Ji (l.take k),Yy s e=true:=by
 intro k
 induction k with
 | zero=>intro _ s h; simp at h
 | succ k ih =>
  intro hk s hs
  rw [Q2 (by omega)] at hs ⊢
  rw [Qnx]
  have up:∀e∈Ji (l.take k),e∈Qe4 (Ji (l.take k)) l[k]:=fun e he=>by
   unfold Qe4; split
   ·exact he
   ·exact List.mem_append_left _ he
  rcases List.mem_append.1 hs with h | h
  ·obtain ⟨e,h1,h2⟩:=ih (by omega) s h
   exact ⟨e,up e h1,h2⟩
  ·simp only [List.mem_singleton] at h
   subst h
   unfold Qe4
   by_cases c:(Ji (l.take k)).any (Yy l[k])=true
   ·rw [if_pos c]
    obtain ⟨e,h1,h2⟩:=List.any_eq_true.1 c
    exact ⟨e,h1,h2⟩
   ·rw [if_neg c]
    exact ⟨l[k],by simp,Qx4⟩
theorem Qzc {l:List Nat} (hl:l.length≤1000) (h:∀s∈l,s < 18446744073709551616):Qa fuel (J0 (nI l)) ((0:Int),([]:List Int))=some (nI (Ji l)):=by
 have inner:∀(i:Nat) (hi:i < l.length) (Y:List Int),Qa fuel (Jx ((i:Int),Y) (nI l)) (false,(0:Int))=some ((Ji (l.take i)).any (Yy l[i])):=fun i hi Y=>by
  have e1:(Ji (l.take i)).any (Yy l[i])=(l.take i).any (Yy l[i]):=by
   rw [Bool.eq_iff_iff,List.any_eq_true,List.any_eq_true]
   constructor
   ·rintro ⟨e,h1,h2⟩; exact ⟨e,Qlv h1,h2⟩
   ·rintro ⟨e,h1,h2⟩
    obtain ⟨f,h3,h4⟩:=Qjg i (by omega) e h1
    exact ⟨f,h3,Qoq h2 h4⟩
  rw [e1]
  have hr:=Zx (n:=i) (k0:=0) (by omega) (by omega) (fun j (t:Bool)=>(t,j)) (body:=Jx ((i:Int),Y) (nI l)) (fun j=>(l.take j).any (Yy l[i])) ((l.take i).any (Yy l[i]))
   (fun j _ hj=>by
    have e2:(l.take (j+1)).any (Yy l[i])=((l.take j).any (Yy l[i]) || Yy l[i] l[j]):=by rw [Q2 (by omega),List.any_append]; simp
    unfold Jx
    dsimp only
    rw [if_pos (dlt hj)]
    by_cases c:(l.take j).any (Yy l[i])=true
    ·rw [if_pos c,e2,c]; rfl
    ·rw [if_neg c,Qdm hi,Option.bind_some,Qdm (by omega),Option.bind_some,e2]
     have hc:(l.take j).any (Yy l[i])=false:=by simpa using c
     rw [hc,Bool.false_or]
     have hw:=J7 (h _ (List.getElem_mem hi)) (h _ (List.getElem_mem (show j < l.length by omega)))
     congr 4
     rw [Bool.eq_iff_iff]
     exact hw)
   (by unfold Jx; dsimp only; rw [if_neg (nlt i)])
  exact hr
 have hr:=Zx (n:=l.length) (k0:=0) (by omega) (by omega) (fun i (t:List Int)=>(i,t)) (body:=J0 (nI l)) (fun k=>nI (Ji (l.take k))) (nI (Ji l))
  (fun k _ hk=>by
   unfold J0
   dsimp only
   rw [Q5,if_pos (dlt hk),inner k hk,Option.bind_some,Q2 hk,Qnx]
   unfold Qe4
   by_cases c:(Ji (l.take k)).any (Yy l[k])=true
   ·rw [if_neg (by rw [c]; decide),if_pos c]
   ·rw [Bool.not_eq_true] at c
    rw [if_pos (by rw [c]; decide),if_neg (by rw [c]; decide),Qdm hk,Option.bind_some,if_pos (by
     have h1:=Qq5 (l:=l.take k)
     rw [List.length_take] at h1
     rw [List.length_append,Q5]; simp; omega)]
    congr 3
    unfold nI; simp)
  (by unfold J0; dsimp only; rw [Q5,if_neg (nlt _),List.take_length])
 exact hr
end Go.Ab
namespace Go.Ab
open Go
set_option maxRecDepth 100000
set_option maxHeartbeats 400000
def pc (n a:Nat):Nat := cnt n a.testBit
theorem Q36 {n a:Nat} (hn:n≤10) (ha:a < 2^n):Zq (a:Int)=some (pc n a:Int):=by
 have:a=msk n a.testBit:=Qgg ha fun _ _=>rfl
 conv=>lhs; rw [this]
 exact Q3o hn _
theorem Qf5 {a b:Nat} (ha:a < 18446744073709551616) (hb:b < 18446744073709551616):zv (zb (a:Int) &&& zb (b:Int)).toNat = ((a &&& b:Nat):Int):=by
 have hl:a &&& b≤a:=Nat.and_le_left
 rw [BitVec.toNat_and,Kf ha,Kf hb,X4 (by omega)]
theorem Q3r {n a b:Nat} (ha:a < 2^n):a &&& b < 2^n:=Nat.lt_of_le_of_lt Nat.and_le_left ha
def com (n:Nat) (cl:List Nat) (s:Nat):Nat := cl.foldl (fun m c=>max m (pc n (c &&& s))) 0
theorem Qd0 {n:Nat} {cl:List Nat} {c s:Nat}:com n (cl++[c]) s=max (com n cl s) (pc n (c &&& s)):=by unfold com; rw [List.foldl_append]; rfl
theorem Q22 {n:Nat} {s:Nat}:∀(cl:List Nat) (k:Nat) (hk:k < cl.length),pc n (cl[k] &&& s)≤com n cl s:=by
 intro cl
 have key:∀j,j≤cl.length→∀k (hk:k < cl.length),k < j→pc n (cl[k] &&& s)≤com n (cl.take j) s:=by
  intro j
  induction j with
  | zero=>intro _ k _ h; omega
  | succ j ih =>
   intro hj k hk hkj
   rw [Q2 (by omega),Qd0]
   by_cases e:k=j
   ·subst e; omega
   ·have:=ih (by omega) k hk (by omega); omega
 intro k hk
 have:=key cl.length (Nat.le_refl _) k hk hk
 rwa [List.take_length] at this
theorem Q3k {n:Nat} {s:Nat} {cl:List Nat} (hc:0 < cl.length):∃k,∃hk:k < cl.length,pc n (cl[k] &&& s)=com n cl s:=by
 have key:∀j,j < cl.length→∃k,∃hk:k < cl.length,k≤j∧pc n (cl[k] &&& s)=com n (cl.take (j+1)) s:=by
  intro j
  induction j with
  | zero =>
   intro hj
   refine ⟨0,hj,Nat.le_refl _,?_⟩
   rw [Q2 hj,Qd0,List.take_zero]
   show _=max 0 _
   omega
  | succ j ih =>
   intro hj
   obtain ⟨k,hk,hkj,e⟩:=ih (by omega)
   rw [Q2 hj,Qd0,←e]
   by_cases c:pc n (cl[k] &&& s)≤pc n (cl[j+1] &&& s)
   ·exact ⟨j+1,hj,Nat.le_refl _,by omega⟩
   ·exact ⟨k,hk,by omega,by omega⟩
 obtain ⟨k,hk,_,e⟩:=key (cl.length - 1) (by omega)
 rw [show cl.length - 1+1=cl.length by omega,List.take_length] at e
 exact ⟨k,hk,e⟩
def Jj (n:Nat) (cl left:List Nat):Nat → Nat × Int
 | 0=>(0,-1)
 | k+1=>if (Jj n cl left k).2≤(com n cl (left.getD k 0):Int) then (k,(com n cl (left.getD k 0):Int)) else Jj n cl left k
def Kz (n:Nat) (cl left:List Nat):Nat := (Jj n cl left left.length).1
theorem Qsi {n:Nat} {cl left:List Nat}:∀k,(Jj n cl left k).1 < k+1∧(0 < k→(Jj n cl left k).1 < k∧(Jj n cl left k).2=(com n cl (left.getD (Jj n cl left k).1 0):Int))
 | 0=>⟨by simp [Jj],fun h=>by omega⟩
 | k+1=>by
  obtain ⟨h1,h2⟩:=Qsi (n:=n) (cl:=cl) (left:=left) k
  simp only [Jj]
  split
  ·exact ⟨by simp only; omega,fun _=>⟨by simp only; omega,rfl⟩⟩
  ·rename_i hc
   refine ⟨by omega,fun _=>⟨by omega,?_⟩⟩
   by_cases e:k=0
   ·subst e
    exfalso
    apply hc
    simp only [Jj]; omega
   ·exact (h2 (by omega)).2
def upI (n:Nat) (cl:List Nat) (s:Nat):Nat := cl.findIdx fun c=>Nat.beq (pc n (c &&& s)) (com n cl s)
def bld (n:Nat):Nat → List Nat → List Nat → List Nat → List Nat × List Nat
 | 0,_,cl,up=>(cl,up)
 | k+1,left,cl,up=>bld n k (left.eraseIdx (Kz n cl left)) (cl++[left.getD (Kz n cl left) 0]) (up++[upI n cl (left.getD (Kz n cl left) 0)])
theorem Qxn {n:Nat} {cl:List Nat} {s:Nat} (hc:0 < cl.length):upI n cl s < cl.length:=by
 obtain ⟨k,hk,e⟩:=Q3k (n:=n) (s:=s) hc
 unfold upI
 rw [List.findIdx_lt_length]
 exact ⟨_,List.getElem_mem hk,by rw [e]; simp⟩
theorem Qxp {a b:List Nat}:nI a++nI b=nI (a++b):=by unfold nI; rw [List.map_append]
end Go.Ab
namespace Go.Ab
open Go
set_option maxRecDepth 100000
set_option maxHeartbeats 400000
theorem Qz5 (p0:Qd):Z1 p0=(Kq p0).bind fun x=>if x.2=0 then (Qa fuel (X7 x.1.sets) (0,x.1.sets)).bind fun y=>some (y,0) else some ([],50):=by
 unfold Z1 Kq
 have e0:@Qb0=@X9:=rfl
 have e2:@Qb1=@Ya:=rfl
 rw [e0,e2]
 have h50:¬ ((50:Int)=0):=by decide
 by_cases c1:decide (p0.Grain < 1)=true
 ·rw [if_pos c1,if_pos c1]; rfl
 rw [if_neg c1,if_neg c1]
 by_cases c2:decide (p0.Grain > 60)=true
 ·rw [if_pos c2,if_pos c2]; rfl
 rw [if_neg c2,if_neg c2]
 by_cases c3:decide ((p0.Nodes.length:Int) < 1)=true
 ·rw [if_pos c3,if_pos c3]; rfl
 rw [if_neg c3,if_neg c3]
 by_cases c4:decide ((p0.Nodes.length:Int) > 8)=true
 ·rw [if_pos c4,if_pos c4]; rfl
 rw [if_neg c4,if_neg c4]
 by_cases c5:0≤(p0.Nodes.length:Int)∧(p0.Nodes.length:Int)≤(p0.Nodes.length:Int)∧(p0.Nodes.length:Int)*8≤140737488355328
 ·rw [if_pos c5,if_pos c5,if_pos c5,if_pos c5]
  cases Qa fuel (X9 p0) (1,0,List.replicate (Int.toNat (p0.Nodes.length:Int)) (0:Int)) with
  | none=>rfl
  | some x =>
   cases x with
   | inl u=>rfl
   | inr x23 =>
    simp only [Option.bind_some]
    by_cases c6:decide (x23.1 > 1024)=true
    ·rw [if_pos c6,if_pos c6]; rfl
    rw [if_neg c6,if_neg c6]
    cases Qa fuel (Ya p0 x23) (0,List.replicate (Int.toNat (p0.Nodes.length:Int)) (0:Int)) with
    | none=>rfl
    | some y =>
     cases y with
     | inl u=>rfl
     | inr x54 =>
      simp only [Option.bind_some]
      cases X8 x54 with
      | none=>rfl
      | some z =>
       simp only [Option.bind_some]
       by_cases c7:(!z.2)=true
       ·rw [if_pos c7,if_pos c7]; rfl
       ·rw [if_neg c7,if_neg c7]; rfl
 ·rw [if_neg c5,if_neg c5]; rfl
theorem Qzs {n:Nat} {g:Int} {F:Nat → Tapi_Node} (hb:NB n F) (hbig:n≤1000000) :
  (V4 n g F∧Z1 ⟨g,Qe n F⟩=some (gl n (FG (Qj F)),0))∨(¬ V4 n g F∧Z1 ⟨g,Qe n F⟩=some ([],50)):=by
 rw [Qz5]
 rcases Qxf (g:=g) hb hbig with ⟨hf,o,e⟩ | ⟨hf,e⟩
 ·left
  refine ⟨hf,?_⟩
  have hn:=hf.n8
  have hpar:=fun v hv=>(Jo (hf.node v hv).1.1).2.2
  rw [e,Option.bind_some]
  dsimp only
  rw [if_pos rfl,Qpx hn hpar]
  have h:=Zx (n:=n) (k0:=0) (by omega) (by omega) (fun i (t:List Int)=>(i,t)) (body:=X7 (gl n (PG (Qj F)))) (fun k=>gl n fun u w=>if u < k then FG (Qj F) u w else PG (Qj F) u w) (gl n (FG (Qj F)))
   (fun k _ hk=>by
    unfold X7
    dsimp only
    rw [X2,if_pos (dlt hk),Qc4 hk,Option.bind_some,if_pos (J1 k),Qjy (by omega) hk,Qn7]
    congr 3
    refine gl_congr fun u w hu hw=>?_
    simp only [upd]
    by_cases c:u=k
    ·subst c
     rw [if_pos rfl,if_neg (by omega),if_pos (by omega)]
     unfold FG PG; rw [Bool.or_comm]
    ·rw [if_neg c]
     by_cases c2:u < k
     ·rw [if_pos c2,if_pos (by omega)]
     ·rw [if_neg c2,if_neg (by omega)])
   (by
    unfold X7
    dsimp only
    rw [X2,if_neg (nlt n)]
    congr 2
    exact gl_congr fun u w hu hw=>by rw [if_pos hu])
  have e0:(gl n fun u w=>if u < 0 then FG (Qj F) u w else PG (Qj F) u w)=gl n (PG (Qj F)):=gl_congr fun u w _ _=>if_neg (by omega)
  simp only [e0] at h
  rw [show ((0:Nat):Int)=0 from rfl] at h
  rw [h]; rfl
 ·right
  refine ⟨hf,?_⟩
  rw [e]; rfl
theorem Qqf {n:Nat}:∀(o:List Nat) (A:Gr) (K:Nat → Bool),(∃i,i < n∧K i=true)→(∀i,K i=true→i∈o)→(∀a b,K a=true→K b=true→a≠b→A a b=true)→∃s∈setL n A o,Yy (msk n K) s=true
 | [],A,K,⟨i,_,hi⟩,ho,_=>by have:=ho i hi; cases this
 | v::o,A,K,hne,ho,hK=>by
  simp only [setL]
  by_cases c:K v=true
  ·refine ⟨_,List.mem_cons_self ..,Ka.2 fun j hj=>?_⟩
   rw [Qfr] at hj ⊢
   simp only [Bool.and_eq_true,decide_eq_true_eq] at hj ⊢
   refine ⟨hj.1,?_⟩
   unfold setP
   by_cases e:v=j
   ·simp [e]
   ·rw [hK v j c hj.2 e]; rfl
  ·obtain ⟨s,h1,h2⟩:=Qqf o (elim A v) K hne (fun i hi=>by
    have:=ho i hi
    rcases List.mem_cons.1 this with e | e
    ·subst e; exact absurd hi c
    ·exact e) fun a b ha hb hne=>by
    have e1:¬ a=v:=fun e=>by subst e; exact c ha
    have e2:¬ b=v:=fun e=>by subst e; exact c hb
    unfold elim
    simp [hK a b ha hb hne,e1,e2]
   exact ⟨s,List.mem_cons_of_mem _ h1,h2⟩
theorem Qu5 {n:Nat}:∀(k:Nat) (left cl up:List Nat),left.length=k→(∀s,(s∈cl∨s∈left)↔s∈(bld n k left cl up).1)∧(bld n k left cl up).1.length=cl.length+k∧(bld n k left cl up).2.length=up.length+k
 | 0,left,cl,up,hk=>by
  have:left=[]:=List.length_eq_zero_iff.1 hk
  subst this
  simp [bld]
 | k+1,left,cl,up,hk=>by
  obtain ⟨_,hp⟩:=Qsi (n:=n) (cl:=cl) (left:=left) left.length
  have hi:Kz n cl left < left.length:=(hp (by omega)).1
  have ei:left.getD (Kz n cl left) 0=left[Kz n cl left]:=by simp [List.getD,hi]
  obtain ⟨h1,h2,h3⟩:=Qu5 k (left.eraseIdx (Kz n cl left)) (cl++[left.getD (Kz n cl left) 0]) (up++[upI n cl (left.getD (Kz n cl left) 0)]) (by rw [List.length_eraseIdx,if_pos hi]; omega)
  simp only [bld]
  refine ⟨fun s=>?_,by rw [h2]; simp; omega,by rw [h3]; simp; omega⟩
  rw [←h1 s,ei,List.mem_append,List.mem_singleton]
  have hm:s∈left↔s=left[Kz n cl left]∨s∈left.eraseIdx (Kz n cl left):=by
   constructor
   ·intro h
    obtain ⟨j,hj,rfl⟩:=List.mem_iff_getElem.1 h
    by_cases e:j=Kz n cl left
    ·subst e; exact .inl rfl
    ·exact .inr (List.mem_eraseIdx_iff_getElem.2 ⟨j,hj,e,rfl⟩)
   ·rintro (h | h)
    ·rw [h]; exact List.getElem_mem hi
    ·exact List.mem_of_mem_eraseIdx h
  rw [hm]
  constructor
  ·rintro (h | h | h)
   ·exact .inl (.inl h)
   ·exact .inl (.inr h)
   ·exact .inr h
  ·rintro ((h | h) | h)
   ·exact .inl h
   ·exact .inr (.inl h)
   ·exact .inr (.inr h)
def mkK (n:Nat) (A:Gr) (o:List Nat):List Nat := Ji (setL n A o)
def mkB (n:Nat) (A:Gr) (o:List Nat):List Nat × List Nat := bld n ((mkK n A o).length - 1) ((mkK n A o).take ((mkK n A o).length - 1)) [(mkK n A o).getD ((mkK n A o).length - 1) 0] []
def homeI (cl:List Nat) (f:Nat):Nat := cl.findIdx (Yy f)
def mkT (n:Nat) (q:Nat → List Nat) (o:List Nat):Qc:=⟨nI (mkB n (mg n q) o).1,-1::nI (mkB n (mg n q) o).2,nI ((List.range n).map fun v=>homeI (mkB n (mg n q) o).1 (msk n (FG q v)))⟩
theorem Qpm {n:Nat} {A:Gr} {o:List Nat} (ho:0 < o.length):0 < (mkK n A o).length:=by
 have h1:0 < (setL n A o).length:=by rw [Qgf]; exact ho
 obtain ⟨e,he,_⟩:=Qjg (l:=setL n A o) _ (Nat.le_refl _) ((setL n A o)[0]) (by rw [List.take_length]; exact List.getElem_mem h1)
 rw [List.take_length] at he
 exact List.length_pos_of_mem he
theorem Q26 {n:Nat} {A:Gr} {o:List Nat}:∀s∈mkK n A o,s < 2^n:=fun s h=>Ql7 _ _ s (Qlv h)
theorem Qxx {n:Nat} {A:Gr} {o:List Nat}:(mkK n A o).length≤o.length:=by have:=Qq5 (l:=setL n A o); rwa [Qgf] at this
theorem Qwc {l:List Nat} (h:0 < l.length):∀s,(s∈[l.getD (l.length - 1) 0]∨s∈l.take (l.length - 1))↔s∈l:=fun s=>by
 have e:l=l.take (l.length - 1)++[l.getD (l.length - 1) 0]:=by
  have h1:l.length - 1 < l.length:=by omega
  have:=Q2 (l:=l) h1
  rw [show l.length - 1+1=l.length by omega,List.take_length] at this
  have e2:l.getD (l.length - 1) 0=l[l.length - 1]:=by simp [List.getD,h1]
  rw [e2]; exact this
 conv=>rhs; rw [e,List.mem_append]
 exact Or.comm
theorem Qmd {n:Nat} {A:Gr} {o:List Nat} (ho:0 < o.length):(∀s,s∈mkK n A o↔s∈(mkB n A o).1)∧(mkB n A o).1.length=(mkK n A o).length∧(mkB n A o).2.length=(mkK n A o).length - 1:=by
 have hp:=Qpm (n:=n) (A:=A) ho
 obtain ⟨h1,h2,h3⟩:=Qu5 (n:=n) ((mkK n A o).length - 1) ((mkK n A o).take ((mkK n A o).length - 1)) [(mkK n A o).getD ((mkK n A o).length - 1) 0] [] (by rw [List.length_take]; omega)
 refine ⟨fun s=>?_,?_,?_⟩
 ·rw [←Qwc hp s]; exact h1 s
 ·unfold mkB; rw [h2]; simp; omega
 ·unfold mkB; rw [h3]; simp
theorem Q2f {n:Nat} {q:Nat → List Nat} {o:List Nat} {v:Nat} (ho:Ord n o) (hv:v < n) (hq:∀p∈q v,p < n):∃c∈(mkB n (mg n q) o).1,Yy (msk n (FG q v)) c=true:=by
 have hall:∀i,i < n→i∈o:=fun i hi=>Qgq ho.nodup ho.lt ho.len i hi
 have hin:∀i,FG q v i=true→i < n:=fun i hi=>by
  unfold FG at hi
  simp only [Bool.or_eq_true,decide_eq_true_eq] at hi
  rcases hi with h | h
  ·omega
  ·exact hq i h
 obtain ⟨s,h1,h2⟩:=Qqf o (mg n q) (FG q v) ⟨v,hv,by unfold FG; simp⟩ (fun i hi=>hall i (hin i hi)) fun a b ha hb hne=>by
  unfold mg mgk
  simp only [hin a ha,hin b hb,decide_true,Bool.true_and,Bool.and_eq_true,Bool.not_eq_true',decide_eq_false_iff_not,List.any_eq_true]
  exact ⟨hne,v,List.mem_range.2 hv,ha,hb⟩
 obtain ⟨e,h3,h4⟩:=Qjg (l:=setL n (mg n q) o) _ (Nat.le_refl _) s (by rw [List.take_length]; exact h1)
 rw [List.take_length] at h3
 exact ⟨e,((Qmd (n:=n) (A:=mg n q) (by rw [ho.len]; omega)).1 e).1 h3,Qoq h2 h4⟩
theorem Q15 {cl:List Nat} {f:Nat} (h:∃c∈cl,Yy f c=true):homeI cl f < cl.length:=by
 unfold homeI; rw [List.findIdx_lt_length]; exact h
end Go.Ab
namespace Go.Ab
open Go
set_option maxRecDepth 100000
set_option maxHeartbeats 400000
def tb (x:Int) (s1:Int × List Int):Option (Qi (Int × List Int) (List Int)) :=
 if (zw ((s1.2.length:Int)+1))≠0 then
  if 0≤(0:Int)∧(0:Int)≤(Int.tmod (zw x) (zw ((s1.2.length:Int)+1)))∧(Int.tmod (zw x) (zw ((s1.2.length:Int)+1)))≤(s1.2.length:Int) then
   if (sub s1.2 0 (Int.tmod (zw x) (zw ((s1.2.length:Int)+1)))).length*8≤140737488355328 then
    if ((sub s1.2 0 (Int.tmod (zw x) (zw ((s1.2.length:Int)+1))))++([s1.1]:(List Int))).length*8≤140737488355328 then
     if 0≤(Int.tmod (zw x) (zw ((s1.2.length:Int)+1)))∧(Int.tmod (zw x) (zw ((s1.2.length:Int)+1)))≤(s1.2.length:Int)∧(s1.2.length:Int)≤(s1.2.length:Int) then
      if (((sub s1.2 0 (Int.tmod (zw x) (zw ((s1.2.length:Int)+1))))++([s1.1]:(List Int)))++(sub s1.2 (Int.tmod (zw x) (zw ((s1.2.length:Int)+1))) (s1.2.length:Int))).length*8≤140737488355328 then
       some (.next (zw (s1.1+1),(((sub s1.2 0 (Int.tmod (zw x) (zw ((s1.2.length:Int)+1))))++([s1.1]:(List Int)))++(sub s1.2 (Int.tmod (zw x) (zw ((s1.2.length:Int)+1))) (s1.2.length:Int)))))
      else none
     else none
    else none
   else none
  else none
 else none
theorem Quf (p0 p1:Int) (p2:Int × Int × Int × Int × Int × Int × Int × Int) (s1:Int × List Int):Qbv p0 p1 p2 s1 =
  if (decide (s1.1 < p0))=true then
   if (s1.1==p1)=true then some (.next (zw (s1.1+1),s1.2)) else
   if Int.tmod s1.1 8=0 then tb p2.1 s1 else if Int.tmod s1.1 8=1 then tb p2.2.1 s1 else if Int.tmod s1.1 8=2 then tb p2.2.2.1 s1 else if Int.tmod s1.1 8=3 then tb p2.2.2.2.1 s1 else
   if Int.tmod s1.1 8=4 then tb p2.2.2.2.2.1 s1 else if Int.tmod s1.1 8=5 then tb p2.2.2.2.2.2.1 s1 else if Int.tmod s1.1 8=6 then tb p2.2.2.2.2.2.2.1 s1 else if Int.tmod s1.1 8=7 then tb p2.2.2.2.2.2.2.2 s1 else none
  else some (.done s1.2):=rfl
theorem Q38 {x:Int} {k:Nat} {o:List Nat} (hx:0≤x∧x≤255) (ho:o.length≤1000) (hk:k≤1000):∃a:Nat,a≤o.length∧tb x ((k:Int),nI o)=some (.next (zw ((k:Int)+1),nI (o.take a++[k]++o.drop a))):=by
 have e1:zw ((o.length:Int)+1)=((o.length+1:Nat):Int):=Qoa (by omega)
 have e2:zw x=x:=w64 (by omega)
 obtain ⟨a,ha,ea⟩:∃a:Nat,a≤o.length∧Int.tmod x ((o.length+1:Nat):Int)=(a:Int):=by
  rw [Kb hx.1]
  have h1:=Int.emod_nonneg x (show ((o.length+1:Nat):Int)≠0 by omega)
  have h2:=Int.emod_lt_of_pos x (show (0:Int) < ((o.length+1:Nat):Int) by omega)
  exact ⟨(x % ((o.length+1:Nat):Int)).toNat,by omega,by omega⟩
 have s1:sub (nI o) 0 (a:Int)=nI (o.take a):=by unfold sub nI; simp [List.map_take]
 have s2:sub (nI o) (a:Int) (o.length:Int)=nI (o.drop a):=by
  unfold sub nI
  rw [Int.toNat_natCast,Int.toNat_natCast,←List.map_drop,List.take_of_length_le (by rw [List.length_map,List.length_drop]; omega)]
 refine ⟨a,ha,?_⟩
 unfold tb
 dsimp only
 rw [Q5,e1,e2,ea,s1,s2,if_pos (by omega),if_pos (by omega)]
 rw [if_pos (by rw [Q5,List.length_take]; omega),if_pos (by rw [List.length_append,Q5,List.length_take]; simp; omega),if_pos (by omega),if_pos (by rw [List.length_append,List.length_append,Q5,Q5,List.length_take,List.length_drop]; simp; omega)]
 congr 3
 unfold nI; simp
def ok8 (l:Int × Int × Int × Int × Int × Int × Int × Int):Prop:=(0≤l.1∧l.1≤255)∧(0≤l.2.1∧l.2.1≤255)∧(0≤l.2.2.1∧l.2.2.1≤255)∧(0≤l.2.2.2.1∧l.2.2.2.1≤255)∧(0≤l.2.2.2.2.1∧l.2.2.2.2.1≤255)∧(0≤l.2.2.2.2.2.1∧l.2.2.2.2.2.1≤255)∧(0≤l.2.2.2.2.2.2.1∧l.2.2.2.2.2.2.1≤255)∧(0≤l.2.2.2.2.2.2.2∧l.2.2.2.2.2.2.2≤255)
theorem Q1n {k a:Nat} {o:List Nat} (h:Ord k o):Ord (k+1) (o.take a++[k]++o.drop a):=by
 obtain ⟨h1,h2⟩:=Qkp (q:=o) (k:=k) (a:=a) h.nodup h.lt
 exact ⟨by have:=h.len; simp; omega,h2,h1⟩
theorem Qw6 {n:Nat} {l:Int × Int × Int × Int × Int × Int × Int × Int} (hn:n≤1000) (hl:ok8 l):∃o,Ord n o∧Qbd (n:Int) (-1) l=some (nI o):=by
 obtain ⟨l0,l1,l2,l3,l4,l5,l6,l7⟩:=hl
 have h:=Qcp (n:=n) (k0:=0) (by omega) (by omega) (fun i (t:List Int)=>(i,t)) (body:=Qbv (n:Int) (-1) l) (fun k t=>∃o,Ord k o∧t=nI o) (fun r=>∃o,Ord n o∧r=nI o)
  (fun k t _ hk hI=>by
   obtain ⟨o,ho,rfl⟩:=hI
   left
   have hol:o.length≤1000:=by rw [ho.len]; omega
   have fin:∀x,0≤x∧x≤255→∃t',tb x ((k:Int),nI o)=some (.next (zw ((k:Int)+1),t'))∧∃o,Ord (k+1) o∧t'=nI o:=fun x hx=>by
    obtain ⟨a,_,e⟩:=Q38 (k:=k) hx hol (by omega)
    exact ⟨_,e,_,Q1n ho,rfl⟩
   rw [Quf]
   dsimp only
   rw [if_pos (dlt hk),if_neg (by simp),Kb (by omega)]
   by_cases c0:(k:Int) % 8=0
   ·rw [if_pos c0]; exact fin _ l0
   rw [if_neg c0]
   by_cases c1:(k:Int) % 8=1
   ·rw [if_pos c1]; exact fin _ l1
   rw [if_neg c1]
   by_cases c2:(k:Int) % 8=2
   ·rw [if_pos c2]; exact fin _ l2
   rw [if_neg c2]
   by_cases c3:(k:Int) % 8=3
   ·rw [if_pos c3]; exact fin _ l3
   rw [if_neg c3]
   by_cases c4:(k:Int) % 8=4
   ·rw [if_pos c4]; exact fin _ l4
   rw [if_neg c4]
   by_cases c5:(k:Int) % 8=5
   ·rw [if_pos c5]; exact fin _ l5
   rw [if_neg c5]
   by_cases c6:(k:Int) % 8=6
   ·rw [if_pos c6]; exact fin _ l6
   rw [if_neg c6,if_pos (by omega)]
   exact fin _ l7)
  (fun t hI=>⟨t,by rw [Quf]; dsimp only; rw [if_neg (nlt n)],hI⟩) [] ⟨[],⟨rfl,by simp,List.nodup_nil⟩,rfl⟩
 obtain ⟨r,e,o,ho,rfl⟩:=h
 refine ⟨o,ho,?_⟩
 rw [show ((0:Nat):Int)=0 from rfl] at e
 unfold Qbd
 rw [e]; rfl
end Go.Ab
namespace Go.Ab
open Go
set_option maxRecDepth 100000
set_option maxHeartbeats 400000
theorem Q2m:((List.range 256).all fun R=>isS (Jf (R:Int)) (cnt 8 R.testBit:Int))=true:=by kernel_rfl
theorem Qug {n a:Nat} (hn:n≤8) (ha:a < 2^n):Jf (a:Int)=some (pc n a:Int):=by
 have p8:(2:Nat)^n≤256:=Nat.pow_le_pow_right (n:=2) (by omega) hn
 have h:=Qxi (Qyb Q2m (show a < 256 by omega))
 rw [h]
 congr 2
 unfold pc
 refine Qun hn fun i h1 h2=>?_
 rw [Bool.eq_false_iff]
 intro hb
 have:=Nat.lt_of_lt_of_le ha (Nat.pow_le_pow_right (n:=2) (by omega) h1)
 rw [Nat.testBit_lt_two_pow this] at hb; cases hb
theorem Qzj {n:Nat} {cl:List Nat} {c s:Nat} (h0:0 < cl.length):upI n (cl++[c]) s=if com n cl s < pc n (c &&& s) then cl.length else upI n cl s:=by
 have hu:=Qxn (n:=n) (s:=s) h0
 by_cases hc:com n cl s < pc n (c &&& s)
 ·rw [if_pos hc]
  have e:com n (cl++[c]) s=pc n (c &&& s):=by rw [Qd0]; omega
  unfold upI
  rw [List.findIdx_append,e]
  have hno:cl.findIdx (fun c'=>Nat.beq (pc n (c' &&& s)) (pc n (c &&& s)))=cl.length:=by
   rw [List.findIdx_eq_length]
   intro x hx
   obtain ⟨k,hk,rfl⟩:=List.mem_iff_getElem.1 hx
   have:=Q22 (n:=n) (s:=s) cl k hk
   rw [Bool.eq_false_iff]
   intro h
   have:=Nat.eq_of_beq_eq_true h; omega
  rw [hno,if_neg (by omega)]
  simp [List.findIdx_cons]
 ·rw [if_neg hc]
  have e:com n (cl++[c]) s=com n cl s:=by rw [Qd0]; omega
  unfold upI
  rw [List.findIdx_append,e]
  unfold upI at hu
  rw [if_pos hu]
theorem Qqo {n:Nat} {cl:List Nat} {s:Nat} (hn:n≤8) (hc:∀c∈cl,c < 2^n) (hs:s < 2^n) (hl:cl.length≤1000) (h0:0 < cl.length):Kj (s:Int) (nI cl)=some ((com n cl s:Int),(upI n cl s:Int)):=by
 have p8:(2:Nat)^n≤256:=Nat.pow_le_pow_right (n:=2) (by omega) hn
 have h:=Zx (n:=cl.length) (k0:=0) (by omega) (by omega) (fun i (t:Int × Int)=>(t.1,t.2,i)) (body:=g_ref10_common_b0 (nI cl) (s:Int)) (fun k=>(if k=0 then -1 else (com n (cl.take k) s:Int),if k=0 then 0 else (upI n (cl.take k) s:Int))) ((com n cl s:Int),(upI n cl s:Int))
  (fun k _ hk=>by
   have h1:=hc _ (List.getElem_mem hk)
   have hsz:Jf (zv (zb (s:Int) &&& zb ((cl[k]:Nat):Int)).toNat)=some (pc n (cl[k] &&& s):Int):=by
    rw [Qf5 (by omega) (by omega),Nat.and_comm,Qug hn (Q3r h1)]
   unfold g_ref10_common_b0
   dsimp only
   rw [Q5,if_pos (dlt hk),Qdm hk,Option.bind_some,hsz,Option.bind_some]
   have hk1:¬ (k+1=0):=by omega
   rw [if_neg hk1,if_neg hk1]
   by_cases c0:k=0
   ·subst c0
    have e1:com n (cl.take (0+1)) s=pc n (cl[0] &&& s):=by
     rw [Q2 hk,List.take_zero,List.nil_append]
     show max 0 (pc n (cl[0] &&& s))=_
     omega
    have e2:upI n (cl.take (0+1)) s=0:=by
     rw [Q2 hk,List.take_zero,List.nil_append]
     have:=Qxn (n:=n) (cl:=[cl[0]]) (s:=s) (by simp)
     simp at this
     exact this
    rw [if_pos rfl,if_pos rfl,if_pos (by rw [decide_eq_true_eq]; omega),Option.bind_some,e1,e2]
   ·have htl:0 < (cl.take k).length:=by rw [List.length_take]; omega
    have hup:=Qzj (n:=n) (c:=cl[k]) (s:=s) htl
    rw [←Q2 hk,List.length_take,Nat.min_eq_left (by omega)] at hup
    have hcs:com n (cl.take (k+1)) s=max (com n (cl.take k) s) (pc n (cl[k] &&& s)):=by rw [Q2 hk,Qd0]
    rw [if_neg c0,if_neg c0,hcs,hup]
    by_cases c:com n (cl.take k) s < pc n (cl[k] &&& s)
    ·rw [if_pos (by rw [decide_eq_true_eq]; omega),Option.bind_some,if_pos c,Nat.max_eq_right (by omega)]
    ·rw [if_neg (by rw [decide_eq_true_eq]; omega),if_neg c,Nat.max_eq_left (by omega)])
  (by
   unfold g_ref10_common_b0
   dsimp only
   have h2:¬ (cl.length=0):=by omega
   rw [Q5,if_neg (nlt _),if_neg h2,if_neg h2,List.take_length])
 rw [show ((0:Nat):Int)=0 from rfl] at h
 simp only [if_true] at h
 unfold Kj
 rw [h]; rfl
def Qdd (n:Nat) (cl kp:List Nat) (f:Nat → Bool):Nat → Nat × Int
 | 0=>(0,-1)
 | i+1=>if f i=false∧(Qdd n cl kp f i).2≤(com n cl (kp.getD i 0):Int) then (i,(com n cl (kp.getD i 0):Int)) else Qdd n cl kp f i
def Xw (f:Nat → Bool) (m:Nat):List Nat := (List.range m).filter fun i=>!f i
def Xb (kp:List Nat) (f:Nat → Bool) (m:Nat):List Nat := (Xw f m).map fun i=>kp.getD i 0
theorem Qql {n:Nat} {cl l m:List Nat}:∀k,k≤l.length→Jj n cl (l++m) k=Jj n cl l k
 | 0,_=>rfl
 | k+1,h=>by
  simp only [Jj]
  rw [Qql k (by omega)]
  have:(l++m).getD k 0=l.getD k 0:=by
   rw [List.getD_eq_getElem?_getD,List.getD_eq_getElem?_getD,List.getElem?_append_left (by omega)]
  rw [this]
theorem Qjt {f:Nat → Bool} {i:Nat}:Xw f (i+1)=if f i=true then Xw f i else Xw f i++[i]:=by
 unfold Xw
 rw [List.range_succ,List.filter_append]
 cases h:f i <;> simp [h]
theorem Quz {n:Nat} {cl kp:List Nat} {f:Nat → Bool}:∀i,(Qdd n cl kp f i).2=(Jj n cl (Xb kp f i) (Xb kp f i).length).2∧(0 < (Xw f i).length→(Xw f i)[(Jj n cl (Xb kp f i) (Xb kp f i).length).1]?=some (Qdd n cl kp f i).1)
 | 0=>⟨rfl,fun h=>by simp [Xw] at h⟩
 | i+1=>by
  obtain ⟨h1,h2⟩:=Quz (n:=n) (cl:=cl) (kp:=kp) (f:=f) i
  by_cases hf:f i=true
  ·have e:Xw f (i+1)=Xw f i:=by rw [Qjt,if_pos hf]
   have e2:Xb kp f (i+1)=Xb kp f i:=by unfold Xb; rw [e]
   rw [e,e2]
   simp only [Qdd]
   rw [if_neg (by simp [hf])]
   exact ⟨h1,h2⟩
  ·have e:Xw f (i+1)=Xw f i++[i]:=by rw [Qjt,if_neg hf]
   have e2:Xb kp f (i+1)=Xb kp f i++[kp.getD i 0]:=by unfold Xb; rw [e]; simp
   have hl:(Xb kp f i).length=(Xw f i).length:=by unfold Xb; simp
   have e3:(Xb kp f i++[kp.getD i 0]).getD (Xb kp f i).length 0=kp.getD i 0:=by
    rw [List.getD_eq_getElem?_getD,List.getElem?_append_right (Nat.le_refl _),Nat.sub_self]; rfl
   rw [e,e2,List.length_append,List.length_singleton]
   simp only [Qdd,Jj]
   rw [Qql _ (Nat.le_refl _),e3,←h1]
   have hf':f i=false:=by simpa using hf
   by_cases c:(Qdd n cl kp f i).2≤(com n cl (kp.getD i 0):Int)
   ·rw [if_pos ⟨hf',c⟩,if_pos c]
    refine ⟨rfl,fun _=>?_⟩
    simp only
    rw [hl,List.getElem?_append_right (Nat.le_refl _),Nat.sub_self]; rfl
   ·rw [if_neg (fun h=>c h.2),if_neg c]
    refine ⟨h1,fun _=>?_⟩
    by_cases c0:0 < (Xw f i).length
    ·have h3:=h2 c0
     have hlt:=(List.getElem?_eq_some_iff.1 h3).1
     rw [List.getElem?_append_left hlt]
     exact h3
    ·exfalso
     apply c
     rw [h1]
     have:(Xb kp f i).length=0:=by omega
     rw [this]
     simp only [Jj]; omega
theorem Qk0:∀(l:List Nat) (p:Nat) (hp:p < l.length),l.Nodup→l.filter (fun i=>!decide (i=l[p]))=l.eraseIdx p
 | [],p,hp,_=>by simp at hp
 | a::l,0,hp,hn=>by
  rw [List.nodup_cons] at hn
  simp only [List.getElem_cons_zero,List.eraseIdx_zero,List.tail_cons]
  rw [List.filter_cons_of_neg (by simp),List.filter_eq_self.2 fun x hx=>by
   have:x≠a:=fun e=>hn.1 (e ▸ hx)
   simp [this]]
 | a::l,p+1,hp,hn=>by
  rw [List.nodup_cons] at hn
  have hp':p < l.length:=by simpa using hp
  simp only [List.getElem_cons_succ,List.eraseIdx_cons_succ]
  have:a≠l[p]:=fun e=>hn.1 (e ▸ List.getElem_mem hp')
  rw [List.filter_cons_of_pos (by simp [this]),Qk0 l p hp' hn.2]
def Ql4 (f:Nat → Bool) (j:Nat):Nat → Bool:=fun i=>f i || decide (i=j)
theorem Qsb {f:Nat → Bool} {m p j:Nat} (h:(Xw f m)[p]?=some j):Xw (Ql4 f j) m=(Xw f m).eraseIdx p:=by
 obtain ⟨hp,e⟩:=List.getElem?_eq_some_iff.1 h
 have hnd:(Xw f m).Nodup:=List.Nodup.sublist List.filter_sublist List.nodup_range
 rw [←Qk0 _ p hp hnd,e]
 unfold Xw
 rw [List.filter_filter]
 refine List.filter_congr fun i _=>?_
 unfold Ql4
 cases f i <;> cases decide (i=j) <;> rfl
theorem Qz9 {kp:List Nat} {f:Nat → Bool} {m p j:Nat} (h:(Xw f m)[p]?=some j):Xb kp (Ql4 f j) m=(Xb kp f m).eraseIdx p:=by
 unfold Xb
 rw [Qsb h,List.eraseIdx_eq_take_drop_succ,List.eraseIdx_eq_take_drop_succ,List.map_append,List.map_take,List.map_drop]
theorem Qq4 {f:Nat → Bool} {m j:Nat}:((List.range m).map f).set j true=(List.range m).map (Ql4 f j):=by
 apply List.ext_getElem?
 intro i
 rw [List.getElem?_set,List.getElem?_map,List.getElem?_map,List.length_map,List.length_range]
 unfold Ql4
 by_cases c:j=i
 ·subst c
  by_cases c2:j < m
  ·rw [if_pos rfl,if_pos c2,List.getElem?_range c2]; simp
  ·rw [if_pos rfl,if_neg c2,List.getElem?_eq_none (by simp; omega)]; rfl
 ·rw [if_neg c]
  have:¬ i=j:=fun e=>c e.symm
  by_cases c2:i < m
  ·rw [List.getElem?_range c2]; simp [this]
  ·rw [List.getElem?_eq_none (by simp; omega)]; rfl
theorem Q0n {n:Nat} {cl kp:List Nat} {f:Nat → Bool} {Y:List Int} (hn:n≤8) (hc:∀c∈cl,c < 2^n) (hk:∀s∈kp,s < 2^n) (hl:cl.length≤1000) (hl2:kp.length≤1000) (h0:0 < cl.length) :
  Qa fuel (J2 (nI kp) ((List.range kp.length).map f,nI cl,Y)) ((0:Int),(-1:Int),(0:Int))=some ((Qdd n cl kp f kp.length).1:Int):=by
 have h:=Zx (n:=kp.length) (k0:=0) (by omega) (by omega) (fun i (t:Int × Int)=>(t.1,t.2,i)) (body:=J2 (nI kp) ((List.range kp.length).map f,nI cl,Y)) (fun k=>(((Qdd n cl kp f k).1:Int),(Qdd n cl kp f k).2)) ((Qdd n cl kp f kp.length).1:Int)
  (fun k _ hk'=>by
   have h1:=hk _ (List.getElem_mem hk')
   have e:kp.getD k 0=kp[k]:=by simp [List.getD,hk']
   have ef:lkI ((List.range kp.length).map f) (k:Int)=some (f k):=by rw [lkI_nat (by simpa using hk')]; simp
   unfold J2
   dsimp only
   rw [Q5,if_pos (dlt hk'),Qdm hk',Option.bind_some,Qqo hn hc h1 hl h0,Option.bind_some,ef,Option.bind_some]
   simp only [Qdd,e]
   by_cases c1:f k=true
   ·rw [if_neg (by simp [c1]),if_neg (by simp [c1])]
   ·have c1':f k=false:=by simpa using c1
    rw [if_pos (by simp [c1'])]
    by_cases c2:(Qdd n cl kp f k).2≤(com n cl kp[k]:Int)
    ·rw [if_pos (by simpa using c2),if_pos ⟨c1',c2⟩]
    ·rw [if_neg (by simpa using c2),if_neg (fun h=>c2 h.2)])
  (by unfold J2; dsimp only; rw [Q5,if_neg (nlt _)])
 exact h
theorem Qqu {n:Nat} {kp:List Nat} (hn:n≤8) (hk:∀s∈kp,s < 2^n) (hl2:kp.length≤500):∀(k N:Nat) (f:Nat → Bool) (cl up:List Nat),(Xw f kp.length).length=k→cl.length+k=kp.length→k < N→(∀c∈cl,c < 2^n)→0 < cl.length→up.length≤cl.length →
  Qa N (Vv (nI kp)) ((List.range kp.length).map f,nI cl,(-1:Int)::nI up)=some (nI (bld n k (Xb kp f kp.length) cl up).1,(-1:Int)::nI (bld n k (Xb kp f kp.length) cl up).2)
 | 0,N,f,cl,up,hf,hm,hN,hc,h0,hu=>by
  obtain ⟨N,rfl⟩:∃M,N=M+1:=⟨N - 1,by omega⟩
  have hb:Vv (nI kp) ((List.range kp.length).map f,nI cl,(-1:Int)::nI up)=some (.done (nI cl,(-1:Int)::nI up)):=by
   unfold Vv
   dsimp only
   rw [Q5,Q5,if_neg (by rw [decide_eq_true_eq]; omega)]
  simp only [Qa,hb,bld]
 | k+1,N,f,cl,up,hf,hm,hN,hc,h0,hu=>by
  obtain ⟨N,rfl⟩:∃M,N=M+1:=⟨N - 1,by omega⟩
  have hll:(Xb kp f kp.length).length=k+1:=by unfold Xb; rw [List.length_map]; exact hf
  obtain ⟨_,h2⟩:=Quz (n:=n) (cl:=cl) (kp:=kp) (f:=f) kp.length
  have h3:=h2 (by omega)
  have hpi:(Jj n cl (Xb kp f kp.length) (Xb kp f kp.length).length).1=Kz n cl (Xb kp f kp.length):=rfl
  rw [hpi] at h3
  generalize hj:(Qdd n cl kp f kp.length).1=j at h3
  obtain ⟨hp,e3⟩:=List.getElem?_eq_some_iff.1 h3
  have hjm:j < kp.length:=by
   have:j∈Xw f kp.length:=List.mem_of_getElem? h3
   unfold Xw at this
   exact List.mem_range.1 (List.mem_filter.1 this).1
  have hset:(Xb kp f kp.length).getD (Kz n cl (Xb kp f kp.length)) 0=kp[j]:=by
   unfold Xb at h3 ⊢
   rw [List.getD_eq_getElem?_getD,List.getElem?_map]
   have h3':(Xw f kp.length)[Kz n cl (List.map (fun i=>kp.getD i 0) (Xw f kp.length))]?=some j:=h3
   rw [h3']
   simp [hjm]
  have hkj:=hk _ (List.getElem_mem hjm)
  have el:lkI ((List.range kp.length).map f) (j:Int)=some (f j):=by rw [lkI_nat (by simpa using hjm)]; simp
  have hb:Vv (nI kp) ((List.range kp.length).map f,nI cl,(-1:Int)::nI up)=some (.next ((List.range kp.length).map (Ql4 f j),nI (cl++[kp[j]]),(-1:Int)::nI (up++[upI n cl kp[j]]))):=by
   unfold Vv
   dsimp only
   rw [Q5,Q5,if_pos (by rw [decide_eq_true_eq]; omega),Q0n hn hc hk (by omega) (by omega) h0,Option.bind_some,hj,Qdm hjm,Option.bind_some,Qqo hn hc hkj (by omega) h0,Option.bind_some]
   dsimp only
   rw [if_pos (by rw [List.length_append,Q5]; simp; omega),if_pos (by rw [List.length_append,List.length_cons,Q5]; simp; omega),el,Option.bind_some,Int.toNat_natCast,Qq4]
   congr 3
   all_goals (unfold nI; simp)
  have ih:=Qqu hn hk hl2 k N (Ql4 f j) (cl++[kp[j]]) (up++[upI n cl kp[j]]) (by rw [Qsb h3,List.length_eraseIdx,if_pos hp]; omega) (by simp; omega) (by omega)
   (fun c h=>by
    rcases List.mem_append.1 h with h | h
    ·exact hc c h
    ·simp only [List.mem_singleton] at h; rw [h]; exact hkj) (by simp) (by simp; omega)
  rw [Qz9 h3] at ih
  simp only [Qa,hb,bld]
  rw [hset]
  exact ih
theorem Qjk {n v:Nat} {g:Int} {F:Nat → Tapi_Node} (hf:V4 n g F) (hv:v < n):Kg ⟨g,Qe n F⟩ (v:Int)=some ((msk n (FG (Qj F) v):Nat):Int):=by
 have hn:=hf.n8
 have hpar:=fun v hv=>(Jo (hf.node v hv).1.1).2.2
 unfold Kg
 rw [Qm3 hn (fun v hv=>(hf.node v hv).1.1),Option.bind_some,Qpx hn hpar,Qc4 hv,Option.bind_some,X4 (n:=v) (by omega),if_pos (J1 v),Q0e (by omega) hv]
theorem Qy1 {n:Nat} {g:Int} {F:Nat → Tapi_Node} {cl:List Nat} {v:Nat} {X Y:List Int} (hf:V4 n g F) (hv:v < n) (hc:∀c∈cl,c < 18446744073709551616) (hl:cl.length≤1000) (h:∃c∈cl,Yy (msk n (FG (Qj F) v)) c=true) :
  Qa fuel (Jy ⟨g,Qe n F⟩ ((v:Int),X) (nI cl,Y)) 0=some (homeI cl (msk n (FG (Qj F) v)):Int):=by
 have hn:=hf.n8
 have p8:(2:Nat)^n≤256:=Nat.pow_le_pow_right (n:=2) (by omega) hn
 have hfl:msk n (FG (Qj F) v) < 18446744073709551616:=by have:=Qbz n (FG (Qj F) v); omega
 have hu:=Q15 h
 have hstep:∀k (hk:k < cl.length),Jy ⟨g,Qe n F⟩ ((v:Int),X) (nI cl,Y) (k:Int)=some (if Yy (msk n (FG (Qj F) v)) cl[k]=true then .done (k:Int) else .next (zw ((k:Int)+1))):=fun k hk=>by
  unfold Jy
  dsimp only
  rw [Qjk hf hv,Option.bind_some,Qdm hk,Option.bind_some]
  have hw:=J7 hfl (hc _ (List.getElem_mem hk))
  by_cases c:Yy (msk n (FG (Qj F) v)) cl[k]=true
  ·have:=hw.2 c
   rw [if_neg (by simp at this ⊢; exact this),if_pos c]
  ·have:¬ _:=fun hh=>c (hw.1 hh)
   rw [if_pos (by simp at this ⊢; exact this),if_neg c]
 generalize msk n (FG (Qj F) v)=fm at *
 have hr:=Qcp (n:=homeI cl fm+1) (k0:=0) (by omega) (by omega) (fun i (_:Unit)=>i) (body:=Jy ⟨g,Qe n F⟩ ((v:Int),X) (nI cl,Y)) (fun k _=>k≤homeI cl fm) (fun r=>r=(homeI cl fm:Int))
  (fun k _ _ hk _=>by
   by_cases e:k=homeI cl fm
   ·right
    refine ⟨(k:Int),?_,by rw [e]⟩
    rw [hstep k (by omega),if_pos (by
     have:=List.findIdx_getElem (w:=hu)
     unfold homeI at e
     subst e; exact this)]
   ·left
    refine ⟨(),?_,by omega⟩
    rw [hstep k (by omega),if_neg (by
     have:=List.not_of_lt_findIdx (show k < cl.findIdx (Yy fm) by unfold homeI at hk e; omega)
     intro h
     rw [h] at this; cases this)])
  (fun _ hI=>by omega) () (by omega)
 obtain ⟨r,e1,rfl⟩:=hr
 exact e1
theorem Qo2 {m:Nat} (h:0 < m):Xw (fun i=>decide (i=m - 1)) m=List.range (m - 1):=by
 obtain ⟨k,rfl⟩:∃k,m=k+1:=⟨m - 1,by omega⟩
 rw [Qjt,if_pos (by simp)]
 unfold Xw
 rw [List.filter_eq_self.2 fun x hx=>by
  have:=List.mem_range.1 hx
  simp; omega]
 simp
theorem Qwl {kp:List Nat} (h:0 < kp.length):Xb kp (fun i=>decide (i=kp.length - 1)) kp.length=kp.take (kp.length - 1):=by
 unfold Xb
 rw [Qo2 h]
 apply List.ext_getElem?
 intro i
 rw [List.getElem?_map,List.getElem?_take]
 by_cases c:i < kp.length - 1
 ·rw [List.getElem?_range c,if_pos c,List.getElem?_eq_getElem (by omega)]
  simp [List.getElem?_eq_getElem (show i < kp.length by omega)]
 ·rw [if_neg c,List.getElem?_eq_none (by simp; omega)]; rfl
theorem Qzd {n:Nat} {g:Int} {F:Nat → Tapi_Node} {o:List Nat} (hf:V4 n g F) (ho:Ord n o):Qds ⟨g,Qe n F⟩ (nI o)=some (mkT n (Qj F) o):=by
 have hn:=hf.n8
 have h1:=hf.n1
 have hpar:=fun v hv=>(Jo (hf.node v hv).1.1).2.2
 have hself:∀v,v < n→v ∉ Qj F v:=fun v hv hm=>by
  obtain ⟨rk,hrk⟩:=hf.rank
  have:=hrk v hv v hm; omega
 have p8:(2:Nat)^n≤256:=Nat.pow_le_pow_right (n:=2) (by omega) hn
 have hop:0 < o.length:=by rw [ho.len]; omega
 have hp:=Qpm (n:=n) (A:=mg n (Qj F)) hop
 have hle:=Qxx (n:=n) (A:=mg n (Qj F)) (o:=o)
 rw [ho.len] at hle
 obtain ⟨m1,m2,m3⟩:=Qmd (n:=n) (A:=mg n (Qj F)) hop
 have hlt:∀s∈mkK n (mg n (Qj F)) o,s < 2^n:=Q26
 have hsets:Qdg ⟨g,Qe n F⟩ (nI o)=some (nI (setL n (mg n (Qj F)) o)):=by
  unfold Qdg
  rw [Qm3 hn (fun v hv=>(hf.node v hv).1.1),Option.bind_some,Qpx hn hpar,Qxs h1 hn hself,Option.bind_some,Qz1 h1 hn Qu2 ho.lt ho.nodup]; rfl
 have hkeep:=Qzc (l:=setL n (mg n (Qj F)) o) (by rw [Qgf,ho.len]; omega) (fun s hs=>by have:=Ql7 _ _ s hs; omega)
 unfold Qds
 rw [hsets,Option.bind_some,hkeep,Option.bind_some]
 rw [show Ji (setL n (mg n (Qj F)) o)=mkK n (mg n (Qj F)) o from rfl,Q5,w64 (n:=((mkK n (mg n (Qj F)) o).length:Int) - 1) (by omega),show ((mkK n (mg n (Qj F)) o).length:Int) - 1=(((mkK n (mg n (Qj F)) o).length - 1:Nat):Int) by omega,Qdm (by omega),Option.bind_some,if_pos (by omega),Int.toNat_natCast,lkI_nat (by rw [List.length_replicate]; omega),Option.bind_some,Option.bind_some,Int.toNat_natCast]
 have eg:(mkK n (mg n (Qj F)) o).getD ((mkK n (mg n (Qj F)) o).length - 1) 0=(mkK n (mg n (Qj F)) o)[(mkK n (mg n (Qj F)) o).length - 1]:=by
  rw [List.getD_eq_getElem?_getD,List.getElem?_eq_getElem (by omega)]; rfl
 have efl:(List.replicate (mkK n (mg n (Qj F)) o).length false).set ((mkK n (mg n (Qj F)) o).length - 1) true=(List.range (mkK n (mg n (Qj F)) o).length).map (fun i=>decide (i=(mkK n (mg n (Qj F)) o).length - 1)):=by
  have e0:List.replicate (mkK n (mg n (Qj F)) o).length false=(List.range (mkK n (mg n (Qj F)) o).length).map fun _=>false:=by
   apply List.ext_getElem?
   intro i
   rw [List.getElem?_replicate,List.getElem?_map]
   by_cases c:i < (mkK n (mg n (Qj F)) o).length
   ·rw [if_pos c,List.getElem?_range c]; rfl
   ·rw [if_neg c,List.getElem?_eq_none (by simp; omega)]; rfl
  rw [e0,Qq4]
  refine List.map_congr_left fun i _=>?_
  unfold Ql4; simp
 have hbl:=Qqu hn hlt (by omega) ((mkK n (mg n (Qj F)) o).length - 1) fuel (fun i=>decide (i=(mkK n (mg n (Qj F)) o).length - 1)) [(mkK n (mg n (Qj F)) o).getD ((mkK n (mg n (Qj F)) o).length - 1) 0] [] (by rw [Qo2 hp,List.length_range]) (by simp; omega) (by show _ < 1152921504606846976; omega)
  (fun c hc=>by simp only [List.mem_singleton] at hc; rw [hc,eg]; exact hlt _ (List.getElem_mem _)) (by simp) (by simp)
 rw [Qwl hp] at hbl
 rw [show nI [(mkK n (mg n (Qj F)) o).getD ((mkK n (mg n (Qj F)) o).length - 1) 0]=[(((mkK n (mg n (Qj F)) o)[(mkK n (mg n (Qj F)) o).length - 1]:Nat):Int)] by unfold nI; rw [eg]; rfl,show nI []=[] from rfl] at hbl
 rw [efl,hbl,Option.bind_some]
 rw [show bld n ((mkK n (mg n (Qj F)) o).length - 1) ((mkK n (mg n (Qj F)) o).take ((mkK n (mg n (Qj F)) o).length - 1)) [(mkK n (mg n (Qj F)) o).getD ((mkK n (mg n (Qj F)) o).length - 1) 0] []=mkB n (mg n (Qj F)) o from rfl]
 have hcl:∀c∈(mkB n (mg n (Qj F)) o).1,c < 18446744073709551616:=fun c hc=>by have:=hlt c ((m1 c).2 hc); omega
 have hlen:(Qe n F).length=n:=Zo
 have h:=Zx (n:=n) (k0:=0) (by omega) (by omega) (fun i (t:List Int)=>(i,t)) (body:=Qal ⟨g,Qe n F⟩ (nI (mkB n (mg n (Qj F)) o).1,(-1:Int)::nI (mkB n (mg n (Qj F)) o).2))
  (fun k=>nI ((List.range k).map fun v=>homeI (mkB n (mg n (Qj F)) o).1 (msk n (FG (Qj F) v)))) (nI ((List.range n).map fun v=>homeI (mkB n (mg n (Qj F)) o).1 (msk n (FG (Qj F) v))))
  (fun k _ hk=>by
   unfold Qal
   dsimp only
   rw [hlen,if_pos (dlt hk),Qy1 hf hk hcl (by omega) (Q2f ho hk (hpar k hk)),Option.bind_some,if_pos (by rw [List.length_append,Q5,List.length_map,List.length_range]; simp; omega)]
   congr 3
   rw [List.range_succ,List.map_append,←Qxp]; rfl)
  (by unfold Qal; dsimp only; rw [hlen,if_neg (nlt n)])
 rw [show ((0:Nat):Int)=0 from rfl] at h
 rw [show nI ((List.range 0).map fun v=>homeI (mkB n (mg n (Qj F)) o).1 (msk n (FG (Qj F) v)))=[] from rfl] at h
 rw [h]; rfl
end Go.Ab
namespace Go.Ab
open Go
theorem Qat {cs:List AV} (h:WT (.int .u8) cs):∃a:Int,cs=[(AV.int .u8) a]∧(Lit.int .u8 a).wf=true:=by
 obtain ⟨n,rfl,w⟩:=h
 exact ⟨n,rfl,w⟩
theorem el5 {x:AV} (h:WT (.int .u8) x.flat ∧ (if false then x=.agg x.flat else x.cell=true)):∃a:Int,x=(AV.int .u8) a∧(Lit.int .u8 a).wf=true:=by
 obtain ⟨a,h1,h2⟩:=Qat h.1
 rw [Qkn h.2] at h1
 exact ⟨a,(List.cons.inj h1).1,h2⟩
theorem Q07 {cs:List AV} (h:WT (.slice true false 1 (.int .u8)) cs):∃a:(List Int),cs=[(eL true (AV.int .u8)) a]∧(a.length≤maxLen∧∀y0∈a,(Lit.int .u8 y0).wf=true):=by
 obtain ⟨xs,rfl,hl,hx⟩:=h
 obtain ⟨l,rfl,hr⟩:=Qj3 (enc:=(AV.int .u8)) (R:=fun a=>(Lit.int .u8 a).wf=true) (fun x hm=>el5 (hx x hm))
 exact ⟨l,rfl,by simpa using hl,hr⟩
def X6 (x:Qu):Prop:=((Lit.int .u8 x.Card).wf=true)∧((Lit.int .u8 x.Parents).wf=true)∧((x.W.length≤maxLen∧∀y0∈x.W,(Lit.int .u8 y0).wf=true))
theorem Qh5 {cs:List AV} (h:WT (.cat (.int .u8) (.cat (.int .u8) (.cat (.slice true false 1 (.int .u8)) .unit))) cs):∃x:Qu,AV.agg cs=eTharuspexref05_Piece x∧X6 x:=by
 obtain ⟨_,_,rfl,a0,r0⟩:=h
 obtain ⟨v0,e0,w0⟩:=Qat a0
 cases e0
 obtain ⟨_,_,rfl,a1,r1⟩:=r0
 obtain ⟨v1,e1,w1⟩:=Qat a1
 cases e1
 obtain ⟨_,_,rfl,a2,r2⟩:=r1
 obtain ⟨v2,e2,w2⟩:=Q07 a2
 cases e2
 cases r2
 exact ⟨⟨v0,v1,v2⟩,rfl,⟨w0,w1,w2⟩⟩
theorem Q4r {x:AV} (h:WT (.cat (.int .u8) (.cat (.int .u8) (.cat (.slice true false 1 (.int .u8)) .unit))) x.flat ∧ (if true then x=.agg x.flat else x.cell=true)):∃a:Qu,x=eTharuspexref05_Piece a∧X6 a:=by
 obtain ⟨a,h1,h2⟩:=Qh5 h.1
 have h3:x=.agg x.flat := h.2
 exact ⟨a,h3.trans h1,h2⟩
theorem Q4a {cs:List AV} (h:WT (.slice false true 3 (.cat (.int .u8) (.cat (.int .u8) (.cat (.slice true false 1 (.int .u8)) .unit)))) cs):∃a:(List Qu),cs=[(eL false eTharuspexref05_Piece) a]∧(a.length≤maxLen∧∀y0∈a,X6 y0):=by
 obtain ⟨xs,rfl,hl,hx⟩:=h
 obtain ⟨l,rfl,hr⟩:=Qj3 (enc:=eTharuspexref05_Piece) (R:=fun a=>X6 a) (fun x hm=>Q4r (hx x hm))
 exact ⟨l,rfl,by simpa using hl,hr⟩
def Vi (x:Qf):Prop:=((Lit.int .u8 x.Grain).wf=true)∧((x.Nodes.length≤maxLen∧∀y0∈x.Nodes,X6 y0))∧((x.Order.length≤maxLen∧∀y0∈x.Order,(Lit.int .u8 y0).wf=true))
theorem rdTharuspexref05_Draft {cs:List AV} (h:WT (.cat (.int .u8) (.cat (.slice false true 3 (.cat (.int .u8) (.cat (.int .u8) (.cat (.slice true false 1 (.int .u8)) .unit)))) (.cat (.slice true false 1 (.int .u8)) .unit))) cs):∃x:Qf,AV.agg cs=eTharuspexref05_Draft x∧Vi x:=by
 obtain ⟨_,_,rfl,a0,r0⟩:=h
 obtain ⟨v0,e0,w0⟩:=Qat a0
 cases e0
 obtain ⟨_,_,rfl,a1,r1⟩:=r0
 obtain ⟨v1,e1,w1⟩:=Q4a a1
 cases e1
 obtain ⟨_,_,rfl,a2,r2⟩:=r1
 obtain ⟨v2,e2,w2⟩:=Q07 a2
 cases e2
 cases r2
 exact ⟨⟨v0,v1,v2⟩,rfl,⟨w0,w1,w2⟩⟩
theorem one3 {cs:List AV} (h:WT (.int .i64) cs):∃a:Int,cs=[eI a]∧(Lit.int .i64 a).wf=true:=by
 obtain ⟨n,rfl,w⟩:=h
 exact ⟨n,rfl,w⟩
theorem el3 {x:AV} (h:WT (.int .i64) x.flat ∧ (if false then x=.agg x.flat else x.cell=true)):∃a:Int,x=eI a∧(Lit.int .i64 a).wf=true:=by
 obtain ⟨a,h1,h2⟩:=one3 h.1
 rw [Qkn h.2] at h1
 exact ⟨a,(List.cons.inj h1).1,h2⟩
def Km (x:Q8):Prop:=((Lit.int .u8 x.What).wf=true)∧((Lit.int .u8 x.At).wf=true)∧((Lit.int .u8 x.Row).wf=true)∧((Lit.int .i64 x.N).wf=true)
theorem rdTharuspexref05_Bend {cs:List AV} (h:WT (.cat (.int .u8) (.cat (.int .u8) (.cat (.int .u8) (.cat (.int .i64) .unit)))) cs):∃x:Q8,AV.agg cs=eTharuspexref05_Bend x∧Km x:=by
 obtain ⟨_,_,rfl,a0,r0⟩:=h
 obtain ⟨v0,e0,w0⟩:=Qat a0
 cases e0
 obtain ⟨_,_,rfl,a1,r1⟩:=r0
 obtain ⟨v1,e1,w1⟩:=Qat a1
 cases e1
 obtain ⟨_,_,rfl,a2,r2⟩:=r1
 obtain ⟨v2,e2,w2⟩:=Qat a2
 cases e2
 obtain ⟨_,_,rfl,a3,r3⟩:=r2
 obtain ⟨v3,e3,w3⟩:=one3 a3
 cases e3
 cases r3
 exact ⟨⟨v0,v1,v2,v3⟩,rfl,⟨w0,w1,w2,w3⟩⟩
theorem rdA28 {cs:List AV} (h:WT (.cat (.int .u8) (.cat (.int .u8) (.cat (.int .u8) (.cat (.int .u8) (.cat (.int .u8) (.cat (.int .u8) (.cat (.int .u8) (.cat (.int .u8) .unit)))))))) cs):∃x:(Int × Int × Int × Int × Int × Int × Int × Int),AV.agg cs=(fun x:(Int × Int × Int × Int × Int × Int × Int × Int)=>AV.agg [.int .u8 x.1,.int .u8 x.2.1,.int .u8 x.2.2.1,.int .u8 x.2.2.2.1,.int .u8 x.2.2.2.2.1,.int .u8 x.2.2.2.2.2.1,.int .u8 x.2.2.2.2.2.2.1,.int .u8 x.2.2.2.2.2.2.2]) x∧((Lit.int .u8 x.1).wf=true∧(Lit.int .u8 x.2.1).wf=true∧(Lit.int .u8 x.2.2.1).wf=true∧(Lit.int .u8 x.2.2.2.1).wf=true∧(Lit.int .u8 x.2.2.2.2.1).wf=true∧(Lit.int .u8 x.2.2.2.2.2.1).wf=true∧(Lit.int .u8 x.2.2.2.2.2.2.1).wf=true∧(Lit.int .u8 x.2.2.2.2.2.2.2).wf=true):=by
 obtain ⟨_,_,rfl,a0,r0⟩:=h
 obtain ⟨v0,e0,w0⟩:=Qat a0
 cases e0
 obtain ⟨_,_,rfl,a1,r1⟩:=r0
 obtain ⟨v1,e1,w1⟩:=Qat a1
 cases e1
 obtain ⟨_,_,rfl,a2,r2⟩:=r1
 obtain ⟨v2,e2,w2⟩:=Qat a2
 cases e2
 obtain ⟨_,_,rfl,a3,r3⟩:=r2
 obtain ⟨v3,e3,w3⟩:=Qat a3
 cases e3
 obtain ⟨_,_,rfl,a4,r4⟩:=r3
 obtain ⟨v4,e4,w4⟩:=Qat a4
 cases e4
 obtain ⟨_,_,rfl,a5,r5⟩:=r4
 obtain ⟨v5,e5,w5⟩:=Qat a5
 cases e5
 obtain ⟨_,_,rfl,a6,r6⟩:=r5
 obtain ⟨v6,e6,w6⟩:=Qat a6
 cases e6
 obtain ⟨_,_,rfl,a7,r7⟩:=r6
 obtain ⟨v7,e7,w7⟩:=Qat a7
 cases e7
 cases r7
 exact ⟨(v0,v1,v2,v3,v4,v5,v6,v7),rfl,⟨w0,w1,w2,w3,w4,w5,w6,w7⟩⟩
theorem Q1a {cs:List AV} (h:WT (.slice true false 1 (.int .i64)) cs):∃a:(List Int),cs=[(eL true eI) a]∧(a.length≤maxLen∧∀y0∈a,(Lit.int .i64 y0).wf=true):=by
 obtain ⟨xs,rfl,hl,hx⟩:=h
 obtain ⟨l,rfl,hr⟩:=Qj3 (enc:=eI) (R:=fun a=>(Lit.int .i64 a).wf=true) (fun x hm=>el3 (hx x hm))
 exact ⟨l,rfl,by simpa using hl,hr⟩
theorem Q0v {cs:List AV} (h:WT (.int .u64) cs):∃a:Int,cs=[(AV.int .u64) a]∧(Lit.int .u64 a).wf=true:=by
 obtain ⟨n,rfl,w⟩:=h
 exact ⟨n,rfl,w⟩
theorem Q4s {x:AV} (h:WT (.int .u64) x.flat ∧ (if false then x=.agg x.flat else x.cell=true)):∃a:Int,x=(AV.int .u64) a∧(Lit.int .u64 a).wf=true:=by
 obtain ⟨a,h1,h2⟩:=Q0v h.1
 rw [Qkn h.2] at h1
 exact ⟨a,(List.cons.inj h1).1,h2⟩
def Xm (x:Tharuspexref10_Bend):Prop:=((Lit.int .u8 x.What).wf=true)∧((Lit.int .u8 x.At).wf=true)∧((Lit.int .i64 x.N).wf=true)∧((Lit.int .u64 x.S).wf=true)
theorem Qcy {cs:List AV} (h:WT (.cat (.int .u8) (.cat (.int .u8) (.cat (.int .i64) (.cat (.int .u64) .unit)))) cs):∃x:Tharuspexref10_Bend,AV.agg cs=Qjo x∧Xm x:=by
 obtain ⟨_,_,rfl,a0,r0⟩:=h
 obtain ⟨v0,e0,w0⟩:=Qat a0
 cases e0
 obtain ⟨_,_,rfl,a1,r1⟩:=r0
 obtain ⟨v1,e1,w1⟩:=Qat a1
 cases e1
 obtain ⟨_,_,rfl,a2,r2⟩:=r1
 obtain ⟨v2,e2,w2⟩:=one3 a2
 cases e2
 obtain ⟨_,_,rfl,a3,r3⟩:=r2
 obtain ⟨v3,e3,w3⟩:=Q0v a3
 cases e3
 cases r3
 exact ⟨⟨v0,v1,v2,v3⟩,rfl,⟨w0,w1,w2,w3⟩⟩
theorem rdA32 {cs:List AV} (h:WT (.cat (.cat (.int .u8) (.cat (.int .u8) (.cat (.int .i64) (.cat (.int .u64) .unit)))) (.cat (.cat (.int .u8) (.cat (.int .u8) (.cat (.int .i64) (.cat (.int .u64) .unit)))) .unit)) cs):∃x:(Tharuspexref10_Bend × Tharuspexref10_Bend),AV.agg cs=(fun x:(Tharuspexref10_Bend × Tharuspexref10_Bend)=>AV.agg [.int .u8 x.1.What,.int .u8 x.1.At,vI x.1.N,.int .u64 x.1.S,.int .u8 x.2.What,.int .u8 x.2.At,vI x.2.N,.int .u64 x.2.S]) x∧(Xm x.1∧Xm x.2):=by
 obtain ⟨_,_,rfl,a0,r0⟩:=h
 obtain ⟨v0,e0,w0⟩:=Qcy a0
 cases e0
 obtain ⟨_,_,rfl,a1,r1⟩:=r0
 obtain ⟨v1,e1,w1⟩:=Qcy a1
 cases e1
 cases r1
 exact ⟨(v0,v1),rfl,⟨w0,w1⟩⟩
theorem Q4j {cs:List AV} (h:WT (.slice true false 1 (.int .u64)) cs):∃a:(List Int),cs=[(eL true (AV.int .u64)) a]∧(a.length≤maxLen∧∀y0∈a,(Lit.int .u64 y0).wf=true):=by
 obtain ⟨xs,rfl,hl,hx⟩:=h
 obtain ⟨l,rfl,hr⟩:=Qj3 (enc:=(AV.int .u64)) (R:=fun a=>(Lit.int .u64 a).wf=true) (fun x hm=>Q4s (hx x hm))
 exact ⟨l,rfl,by simpa using hl,hr⟩
def Qho (x:Qc):Prop:=((x.Cliques.length≤maxLen∧∀y0∈x.Cliques,(Lit.int .u64 y0).wf=true))∧((x.Up.length≤maxLen∧∀y0∈x.Up,(Lit.int .i64 y0).wf=true))∧((x.Home.length≤maxLen∧∀y0∈x.Home,(Lit.int .i64 y0).wf=true))
theorem rdTapi_Tree {cs:List AV} (h:WT (.cat (.slice true false 1 (.int .u64)) (.cat (.slice true false 1 (.int .i64)) (.cat (.slice true false 1 (.int .i64)) .unit))) cs):∃x:Qc,AV.agg cs=eTapi_Tree x∧Qho x:=by
 obtain ⟨_,_,rfl,a0,r0⟩:=h
 obtain ⟨v0,e0,w0⟩:=Q4j a0
 cases e0
 obtain ⟨_,_,rfl,a1,r1⟩:=r0
 obtain ⟨v1,e1,w1⟩:=Q1a a1
 cases e1
 obtain ⟨_,_,rfl,a2,r2⟩:=r1
 obtain ⟨v2,e2,w2⟩:=Q1a a2
 cases e2
 cases r2
 exact ⟨⟨v0,v1,v2⟩,rfl,⟨w0,w1,w2⟩⟩
end Go.Ab
namespace Go.Ab
open Go
set_option maxRecDepth 100000
set_option maxHeartbeats 400000
theorem Kt {n:Int} (h:(Lit.int .u8 n).wf=true):0≤n∧n≤255:=by
 simpa [Lit.wf,IntKind.min,IntKind.max,IntKind.bits,IntKind.signed] using h
theorem Q14 {p0:Qf} (h:Vi p0):Qwf p0:=by
 refine ⟨Kt h.1,fun x hx=>Kt (h.2.2.2 x hx),fun p hp=>Kt (h.2.1.2 p hp).1,fun p hp x hx=>Kt ((h.2.1.2 p hp).2.2.2 x hx),fun p hp=>?_⟩
 have:=(h.2.1.2 p hp).2.2.1
 unfold maxLen at this; omega
theorem Q0h {n:Nat} {f:Nat → Int}:(Qe n f).sum=Q0 n f:=by
 induction n with
 | zero=>rfl
 | succ n ih=>rw [←Qhj,List.sum_append,ih]; simp [Q0]
theorem Qzl {D:NF} (X:VX D):V4 D.n D.g D.node:=by
 have V:=X.vn
 have hc:∀v,v < D.n→Kn (D.node v):=fun v hv=>by
  have:=V.card v hv
  exact ⟨by show (1:Int)≤(D.card v:Int); omega,by show (D.card v:Int)≤4; omega⟩
 have ec:cardN D.node=D.card:=funext fun v=>by unfold cardN NF.node; simp
 have ep:Qj D.node=D.par:=funext fun v=>by
  unfold Qj NF.node
  rw [List.map_map]
  conv=>rhs; rw [←List.map_id (D.par v)]
  exact List.map_congr_left fun x _=>by simp
 refine ⟨by have:=V.g1; omega,by have:=V.g60; omega,V.n1,V.n8,hc,by rw [ec]; exact V.worlds,fun v hv=>⟨⟨⟨D.par v,rfl,X.sorted v hv,V.par v hv⟩,fun hm=>?_⟩,?_,fun r hr=>?_⟩,by rw [ep]; obtain ⟨rk,h⟩:=X.rank; exact ⟨rk,h⟩⟩
 ·have hm:(v:Int)∈nI (D.par v):=hm
  unfold nI at hm
  obtain ⟨p,hp,e⟩:=List.mem_map.1 hm
  have:p=v:=by omega
  subst this
  exact X.self p hv hp
 ·rw [ec,ep]; show (Qe (D.rows v) _).length=_; rw [Zo]; rfl
 ·have hr:r∈Qe (D.rows v) fun r=>Qe (D.card v) fun x=>(D.W v r x:Int):=hr
  unfold Qe at hr
  obtain ⟨i,hi,rfl⟩:=List.mem_map.1 hr
  have hi:=List.mem_range.1 hi
  have e:=X.sum v i hv hi
  have h1:((List.range (D.card v)).map fun x=>(D.W v i x:Int))=Qe (D.card v) fun x=>(D.W v i x:Int):=rfl
  rw [h1]
  refine ⟨by rw [Zo]; rfl,fun w hw=>?_,by rw [Q0h]; exact e⟩
  unfold Qe at hw
  obtain ⟨x,_,rfl⟩:=List.mem_map.1 hw
  omega
theorem Qwk {D:NF} (X:VX D):∀x∈Qe D.n D.node,Ju 65536 x:=fun x hx=>by
 have V:=X.vn
 unfold Qe at hx
 obtain ⟨v,hv,rfl⟩:=List.mem_map.1 hx
 have hv:=List.mem_range.1 hv
 have hc:=V.card v hv
 refine ⟨?_,?_,fun r hr=>?_⟩
 ·have:=V.len v hv
  show (List.map _ (D.par v)).length≤_
  rw [List.length_map]; omega
 ·show (Qe (D.rows v) _).length≤_
  rw [Zo]; exact V.rows_le hv
 ·have hr:r∈Qe (D.rows v) fun r=>Qe (D.card v) fun x=>(D.W v r x:Int):=hr
  unfold Qe at hr
  obtain ⟨i,hi,rfl⟩:=List.mem_map.1 hr
  rw [List.length_map,List.length_range]; omega
theorem Q1z {n:Nat} {F:Nat → Tapi_Node} (h:∀x∈Qe n F,Ju 65536 x):NB n F:=by
 have key:∀v,v < n→Ju 65536 (F v):=fun v hv=>h _ (by unfold Qe; exact List.mem_map.2 ⟨v,List.mem_range.2 hv,rfl⟩)
 exact ⟨fun v hv=>by have:=(key v hv).par; omega,fun v hv=>by have:=(key v hv).rows; omega,fun v hv r hr=>by have:=(key v hv).row r hr; omega⟩
theorem Qzr {p0:Qf} {p1:Q8} (h0:Vi p0) (h1:Km p1) :
  ∃(D:NF) (n:Nat) (g:Int) (F:Nat → Tapi_Node),VX D∧D.n≤5∧NB D.n D.node∧V4 D.n D.g D.node∧NB n F∧n≤6∧V3 p0=some ⟨D.g,Qe D.n D.node⟩∧J5 p1 ⟨D.g,Qe D.n D.node⟩=some ⟨g,Qe n F⟩:=by
 obtain ⟨D,X,hn,_,e⟩:=Qyu (Q14 h0)
 have hs:=Qwk X
 have V:=X.vn
 have hlen:(Qe D.n D.node).length=D.n:=Zo
 obtain ⟨g,l,e2,h2,h3⟩:=Qy3 (b:=p1) (g:=D.g) (l:=Qe D.n D.node) (m:=65536) (by omega) (by rw [hlen]; exact V.n1) (by rw [hlen]; exact V.n8) hs (Kt h1.2.1) (Kt h1.2.2.1)
 rw [hlen] at h2
 refine ⟨D,l.length,g,fun v=>(l[v]?).getD default,X,hn,Q1z hs,Qzl X,Q4e (m:=65536+1) (by omega) h3,by omega,e,?_⟩
 rw [e2,←Q0k]
theorem Quk {n:Nat} {q:Nat → List Nat} {o:List Nat} (ho:Ord n o) (h1:1≤n):(mkT n q o).Cliques.length≤n∧1≤(mkT n q o).Cliques.length∧(mkT n q o).Up.length=(mkT n q o).Cliques.length∧(mkT n q o).Home.length=n:=by
 have hop:0 < o.length:=by rw [ho.len]; omega
 have hp:=Qpm (n:=n) (A:=mg n q) hop
 have hle:=Qxx (n:=n) (A:=mg n q) (o:=o)
 rw [ho.len] at hle
 obtain ⟨_,m2,m3⟩:=Qmd (n:=n) (A:=mg n q) hop
 have c1:(mkT n q o).Cliques.length=(mkK n (mg n q) o).length:=by show (nI _).length=_; rw [Q5,m2]
 have c2:(mkT n q o).Up.length=(mkK n (mg n q) o).length:=by show ((-1:Int)::nI _).length=_; rw [List.length_cons,Q5,m3]; omega
 have c3:(mkT n q o).Home.length=n:=by show (nI _).length=_; rw [Q5,List.length_map,List.length_range]
 exact ⟨by omega,by omega,by omega,c3⟩
theorem Qvz:Qfa=some true:=by kernel_rfl
theorem Q2p {p2:Int × Int × Int × Int × Int × Int × Int × Int} (h:(Lit.int .u8 p2.1).wf=true∧(Lit.int .u8 p2.2.1).wf=true∧(Lit.int .u8 p2.2.2.1).wf=true∧(Lit.int .u8 p2.2.2.2.1).wf=true∧(Lit.int .u8 p2.2.2.2.2.1).wf=true∧(Lit.int .u8 p2.2.2.2.2.2.1).wf=true∧(Lit.int .u8 p2.2.2.2.2.2.2.1).wf=true∧(Lit.int .u8 p2.2.2.2.2.2.2.2).wf=true):ok8 p2 :=
 ⟨Kt h.1,Kt h.2.1,Kt h.2.2.1,Kt h.2.2.2.1,Kt h.2.2.2.2.1,Kt h.2.2.2.2.2.1,Kt h.2.2.2.2.2.2.1,Kt h.2.2.2.2.2.2.2⟩
end Go.Ab
namespace Go.Ab
open Go
set_option maxRecDepth 100000
set_option maxHeartbeats 400000
def X0 (t:Qc):Prop:=(∀c∈t.Cliques,0≤c∧c≤18446744073709551615)∧t.Cliques.length≤100000∧t.Up.length≤100000∧t.Home.length≤100000
def cqN (t:Qc) (i:Nat):Nat := ((t.Cliques[i]?).getD 0).toNat
def upA (t:Qc) (i:Nat):Int:=(t.Up[i]?).getD 0
def hmA (t:Qc) (v:Nat):Int:=(t.Home[v]?).getD 0
def ahead (t:Qc):Nat → Nat
 | 0=>0
 | i+1=>ahead t i ||| cqN t i
def Qmz (n:Nat) (t:Qc) (i:Nat):Prop:=cqN t i≠0∧cqN t i < 2^n∧(i=0→upA t i=-1)∧(0 < i→0≤upA t i∧upA t i < i∧Xl (cqN t i &&& ahead t i) (cqN t (upA t i).toNat))
def Qnk (n:Nat) (q:Nat → List Nat) (t:Qc) (v:Nat):Prop:=0≤hmA t v∧hmA t v < t.Cliques.length∧Yy (msk n (FG q v)) (cqN t (hmA t v).toNat)=true
structure J4 (n:Nat) (q:Nat → List Nat) (t:Qc):Prop where
 c1:1≤t.Cliques.length
 c8:t.Cliques.length≤8
 up:t.Up.length=t.Cliques.length
 home:t.Home.length=n
 cq:∀i,i < t.Cliques.length→Qmz n t i
 hm:∀v,v < n→Qnk n q t v
theorem Y9 {t:Qc} {i:Nat} (h:X0 t) (hi:i < t.Cliques.length):lkI t.Cliques (i:Int)=some ((cqN t i:Nat):Int)∧cqN t i < 18446744073709551616:=by
 have:=h.1 _ (List.getElem_mem hi)
 unfold cqN
 rw [lkI_nat hi,List.getElem?_eq_getElem hi,Option.getD_some]
 exact ⟨by congr 1; omega,by omega⟩
theorem Qm4 {t:Qc} (h:X0 t):∀i,i≤t.Cliques.length→ahead t i < 18446744073709551616
 | 0,_=>by simp [ahead]
 | i+1,hi=>by
  simp only [ahead]
  exact Nat.or_lt_two_pow (n:=64) (Qm4 h i (by omega)) (Y9 h (by omega)).2
theorem Qnb {n c:Nat} (hn:n≤8) (hc:c < 18446744073709551616):((Int.fdiv (c:Int) (2^min (Int.toNat (n:Int)) (IntKind.bits .u64))) != 0)=true↔¬ c < 2^n:=by
 have hb:IntKind.bits .u64=64:=rfl
 have e0:min (Int.toNat (n:Int)) (IntKind.bits .u64)=n:=by rw [hb,Int.toNat_natCast]; omega
 rw [e0,Qsh]
 have hp:=Nat.two_pow_pos n
 have:c / 2^n=0↔c < 2^n:=by
  rw [Nat.div_eq_zero_iff]
  constructor
  ·rintro (h | h)
   ·omega
   ·exact h
  ·exact .inr
 generalize c / 2^n=d at this
 rw [←this]
 simp
theorem Ql6 {x:Int}:(x != 0)=true↔¬ (x==0)=true:=by simp
theorem Qz7 {n:Nat} {t:Qc} {fam:List Int} {w:Int} (hn:n≤8) (hf:fam.length=n) (h:X0 t) (hu:t.Up.length=t.Cliques.length) :
  ((∀i,i < t.Cliques.length→Qmz n t i)∧Qa fuel (Y0 t (fam,w)) (0,0)=some (.inr ()))∨((¬ ∀i,i < t.Cliques.length→Qmz n t i)∧Qa fuel (Y0 t (fam,w)) (0,0)=some (.inl ())):=by
 have hlen:=h.2.1
 have hr:=Xd (n:=t.Cliques.length) (by omega) (Qmz n t) (fun i (e:Int)=>(e,i)) (body:=Y0 t (fam,w)) (fun i=>((ahead t i:Nat):Int)) (.inr ()) (.inl ())
  (fun i hi hI hg=>by
   obtain ⟨e1,e2⟩:=Y9 h hi
   have ha:=Qm4 h i (by omega)
   have eu:lkI t.Up (i:Int)=some (upA t i):=by unfold upA; rw [lkI_nat (by omega),List.getElem?_eq_getElem (by omega)]; rfl
   obtain ⟨g1,g2,g3,g4⟩:=hg
   unfold Y0
   dsimp only
   rw [if_pos (dlt hi),e1,Option.bind_some,if_neg (by simp; exact g1),hf,if_pos (J1 n),if_neg (fun hh=>(Qnb hn e2).1 hh g2),eu,Option.bind_some,Q1e ha e2]
   by_cases c:i=0
   ·rw [if_pos (by simp; exact c),if_neg (by simp; exact g3 c)]
    rfl
   ·obtain ⟨k1,k2,k3⟩:=g4 (by omega)
    obtain ⟨f1,f2⟩:=Y9 h (show (upA t i).toNat < t.Cliques.length by omega)
    rw [show (((upA t i).toNat : Nat):Int)=upA t i by omega] at f1
    rw [if_neg (by simp; exact c),if_neg (by simp; exact k1),if_neg (by simp; exact k2),f1,Option.bind_some,Qf5 e2 ha]
    rw [if_neg (by
     rw [Ql6,J7 (Nat.lt_of_le_of_lt Nat.and_le_left e2) f2,Ka]
     exact fun hh=>hh k3)]
    rfl)
  (fun i hi hI hg=>by
   obtain ⟨e1,e2⟩:=Y9 h hi
   have ha:=Qm4 h i (by omega)
   have eu:lkI t.Up (i:Int)=some (upA t i):=by unfold upA; rw [lkI_nat (by omega),List.getElem?_eq_getElem (by omega)]; rfl
   unfold Y0
   dsimp only
   rw [if_pos (dlt hi),e1,Option.bind_some]
   by_cases c1:cqN t i=0
   ·rw [if_pos (by simp; exact c1)]
   rw [if_neg (by simp; exact c1),hf,if_pos (J1 n)]
   by_cases c2':¬ cqN t i < 2^n
   ·rw [if_pos ((Qnb hn e2).2 c2')]
   have c2:cqN t i < 2^n:=Nat.lt_of_not_le fun hh=>c2' (by omega)
   rw [if_neg (fun hh=>(Qnb hn e2).1 hh c2),eu,Option.bind_some]
   by_cases c:i=0
   ·rw [if_pos (by simp; exact c),if_pos (by
     rw [bne_iff_ne]
     exact fun hh=>hg ⟨c1,c2,fun _=>hh,fun h0=>by omega⟩)]
   ·rw [if_neg (by simp; exact c)]
    by_cases c3:upA t i < 0
    ·rw [if_pos (by simpa using c3)]
    rw [if_neg (by simpa using c3)]
    by_cases c4:upA t i≥(i:Int)
    ·rw [if_pos (by simpa using c4)]
    rw [if_neg (by simpa using c4)]
    obtain ⟨f1,f2⟩:=Y9 h (show (upA t i).toNat < t.Cliques.length by omega)
    rw [show (((upA t i).toNat : Nat):Int)=upA t i by omega] at f1
    rw [f1,Option.bind_some,Qf5 e2 ha,if_pos (by
     rw [Ql6,J7 (Nat.lt_of_le_of_lt Nat.and_le_left e2) f2,Ka]
     exact fun hh=>hg ⟨c1,c2,fun h0=>absurd h0 c,fun _=>⟨by omega,by omega,hh⟩⟩)])
  (fun hI=>by unfold Y0; dsimp only; rw [if_neg (nlt _)])
 exact hr
theorem Q0q {n:Nat} {t:Qc} {q:Nat → List Nat} {w:Int} (hn:n≤8) (h:X0 t) (hh:t.Home.length=n) :
  ((∀v,v < n→Qnk n q t v)∧Qa fuel (Y5 t (gl n (FG q),w)) 0=some (.inr ()))∨((¬ ∀v,v < n→Qnk n q t v)∧Qa fuel (Y5 t (gl n (FG q),w)) 0=some (.inl ())):=by
 have p8:(2:Nat)^n≤256:=Nat.pow_le_pow_right (n:=2) (by omega) hn
 have eh:∀v,v < n→lkI t.Home (v:Int)=some (hmA t v):=fun v hv=>by unfold hmA; rw [lkI_nat (by omega),List.getElem?_eq_getElem (by omega)]; rfl
 have hfl:∀v,msk n (FG q v) < 18446744073709551616:=fun v=>by have:=Qbz n (FG q v); omega
 have hr:=Xd (n:=n) (by omega) (Qnk n q t) (fun i (_:Unit)=>i) (body:=Y5 t (gl n (FG q),w)) (fun _=>()) (.inr ()) (.inl ())
  (fun v hv hI hg=>by
   obtain ⟨g1,g2,g3⟩:=hg
   obtain ⟨f1,f2⟩:=Y9 h (show (hmA t v).toNat < t.Cliques.length by omega)
   rw [show (((hmA t v).toNat : Nat):Int)=hmA t v by omega] at f1
   unfold Y5
   dsimp only
   rw [hh,if_pos (dlt hv),eh v hv,Option.bind_some,if_neg (by simp; exact g1),if_neg (by simp; exact g2),Qc4 hv,Option.bind_some,f1,Option.bind_some,if_neg (by
    rw [Ql6,J7 (hfl v) f2]
    exact fun x=>x g3)])
  (fun v hv hI hg=>by
   unfold Y5
   dsimp only
   rw [hh,if_pos (dlt hv),eh v hv,Option.bind_some]
   by_cases c1:hmA t v < 0
   ·rw [if_pos (by simpa using c1)]
   rw [if_neg (by simpa using c1)]
   by_cases c2:hmA t v≥(t.Cliques.length:Int)
   ·rw [if_pos (by simpa using c2)]
   rw [if_neg (by simpa using c2)]
   obtain ⟨f1,f2⟩:=Y9 h (show (hmA t v).toNat < t.Cliques.length by omega)
   rw [show (((hmA t v).toNat : Nat):Int)=hmA t v by omega] at f1
   rw [Qc4 hv,Option.bind_some,f1,Option.bind_some,if_pos (by
    rw [Ql6,J7 (hfl v) f2]
    exact fun x=>hg ⟨by omega,by omega,x⟩)])
  (fun hI=>by unfold Y5; dsimp only; rw [hh,if_neg (nlt n)])
 exact hr
theorem Qde {n:Nat} {g:Int} {F:Nat → Tapi_Node} {t:Qc} (hb:NB n F) (hbig:n≤1000) (h:X0 t) :
  (¬ V4 n g F∧Z6 ⟨g,Qe n F⟩ t=some 50)∨(V4 n g F∧¬ J4 n (Qj F) t∧Z6 ⟨g,Qe n F⟩ t=some 100)∨(V4 n g F∧J4 n (Qj F) t∧Z6 ⟨g,Qe n F⟩ t=some 0):=by
 unfold Z6
 rcases Qzs (g:=g) hb (by omega) with ⟨hf,e⟩ | ⟨hf,e⟩
 ·right
  have hn:=hf.n8
  rw [e,Option.bind_some,if_neg (by simp)]
  dsimp only
  rw [X2]
  by_cases c1:t.Cliques.length < 1
  ·rw [if_pos (by simp; omega)]; exact .inl ⟨hf,fun x=>by have:=x.c1; omega,rfl⟩
  rw [if_neg (by simp; omega)]
  by_cases c2:t.Cliques.length > 8
  ·rw [if_pos (by simp; omega)]; exact .inl ⟨hf,fun x=>by have:=x.c8; omega,rfl⟩
  rw [if_neg (by simp; omega)]
  by_cases c3:t.Up.length=t.Cliques.length
  ·rw [if_neg (by simp; omega)]
   by_cases c4:t.Home.length=n
   ·rw [if_neg (by simp; omega)]
    rcases Qz7 (n:=n) (fam:=gl n (FG (Qj F))) (w:=0) hn (X2 _ _) h c3 with ⟨k1,e1⟩ | ⟨k1,e1⟩
    ·rw [e1,Option.bind_some]
     dsimp only
     rcases Q0q (q:=Qj F) (w:=0) hn h c4 with ⟨k2,e2⟩ | ⟨k2,e2⟩
     ·rw [e2]; exact .inr ⟨hf,⟨by omega,by omega,c3,c4,k1,k2⟩,rfl⟩
     ·rw [e2]; exact .inl ⟨hf,fun x=>k2 x.hm,rfl⟩
    ·rw [e1]; exact .inl ⟨hf,fun x=>k1 x.cq,rfl⟩
   ·rw [if_pos (by simp; omega)]; exact .inl ⟨hf,fun x=>c4 x.home,rfl⟩
  ·rw [if_pos (by simp; omega)]; exact .inl ⟨hf,fun x=>c3 x.up,rfl⟩
 ·left
  refine ⟨hf,?_⟩
  rw [e,Option.bind_some,if_pos (by decide)]
end Go.Ab
namespace Go.Ab
open Go
set_option maxRecDepth 100000
set_option maxHeartbeats 400000
def maxPc (n:Nat) (t:Qc):Nat → Nat
 | 0=>0
 | i+1=>max (maxPc n t i) (pc n (cqN t i))
theorem Qs1 {n:Nat} {t:Qc}:∀k i,i < k→pc n (cqN t i)≤maxPc n t k
 | 0,i,h=>by omega
 | k+1,i,h=>by
  simp only [maxPc]
  by_cases e:i=k
  ·subst e; omega
  ·have:=Qs1 (n:=n) (t:=t) k i (by omega); omega
theorem Qr1 {n:Nat} {t:Qc}:∀k,maxPc n t k≤n
 | 0=>Nat.zero_le _
 | k+1=>by
  have:=Qr1 (n:=n) (t:=t) k
  have h2:pc n (cqN t k)≤n:=Qsj n _
  simp only [maxPc]; omega
theorem Qvq {n:Nat} {q:Nat → List Nat} {t:Qc} (hn:n≤8) (h:X0 t) (ht:J4 n q t):Qa fuel (J6 t) (0,0)=some (maxPc n t t.Cliques.length:Int):=by
 have hlen:=h.2.1
 have hr:=Zx (n:=t.Cliques.length) (k0:=0) (by omega) (by omega) (fun i (e:Int)=>(e,i)) (body:=J6 t) (fun i=>(maxPc n t i:Int)) (maxPc n t t.Cliques.length:Int)
  (fun i _ hi=>by
   obtain ⟨e1,e2⟩:=Y9 h hi
   have:=(ht.cq i hi).2.1
   unfold J6
   dsimp only
   rw [if_pos (dlt hi),e1,Option.bind_some,Q36 (by omega) this,Option.bind_some,Q3n]
   rfl)
  (by unfold J6; dsimp only; rw [if_neg (nlt _)])
 exact hr
theorem Qi0 {n:Nat} {g:Int} {F:Nat → Tapi_Node} {t:Qc} (hb:NB n F) (hbig:n≤1000) (h:X0 t) :
  (¬ V4 n g F∧Jd ⟨g,Qe n F⟩ t=some (0,50))∨(V4 n g F∧¬ J4 n (Qj F) t∧Jd ⟨g,Qe n F⟩ t=some (0,100))∨(V4 n g F∧J4 n (Qj F) t∧Jd ⟨g,Qe n F⟩ t=some ((maxPc n t t.Cliques.length:Int) - 1,0)):=by
 unfold Jd
 rcases Qde (g:=g) hb hbig h with ⟨hf,e⟩ | ⟨hf,ht,e⟩ | ⟨hf,ht,e⟩
 ·exact .inl ⟨hf,by rw [e,Option.bind_some,if_pos (by decide)]⟩
 ·exact .inr (.inl ⟨hf,ht,by rw [e,Option.bind_some,if_pos (by decide)]⟩)
 ·refine .inr (.inr ⟨hf,ht,?_⟩)
  have:=Qr1 (n:=n) (t:=t) t.Cliques.length
  have hn:=hf.n8
  rw [e,Option.bind_some,if_neg (by decide),Qvq hf.n8 h ht,Option.bind_some,w64 (by omega)]
theorem Qlo {t:Qc} {x:Nat}:∀i,(ahead t i).testBit x=true↔∃j,j < i∧(cqN t j).testBit x=true
 | 0=>by simp [ahead]
 | i+1=>by
  simp only [ahead]
  rw [Nat.testBit_or,Bool.or_eq_true,Qlo i]
  constructor
  ·rintro (⟨j,h1,h2⟩ | h)
   ·exact ⟨j,by omega,h2⟩
   ·exact ⟨i,by omega,h⟩
  ·rintro ⟨j,h1,h2⟩
   by_cases e:j=i
   ·subst e; exact .inr h2
   ·exact .inl ⟨j,by omega,h2⟩
end Go.Ab
namespace Go.Ab
open Go
set_option maxRecDepth 100000
set_option maxHeartbeats 400000
theorem Q3x {n a j:Nat} (ha:a < 2^n) (h:a.testBit j=true):j < n:=by
 apply Nat.lt_of_not_le
 intro hle
 have:=Nat.lt_of_lt_of_le ha (Nat.pow_le_pow_right (n:=2) (by omega) hle)
 rw [Nat.testBit_lt_two_pow this] at h; cases h
end Go.Ab
namespace Go.Ab
open Go
set_option maxRecDepth 100000
set_option maxHeartbeats 400000
section
variable {n:Nat} {q:Nat → List Nat} {o:List Nat}
end
theorem Q3e {n:Nat} {A:Gr} {o:List Nat} (h1:1≤n) (ho:Ord n o):∀s∈(mkB n A o).1,s∈setL n A o∧s < 2^n:=fun s hs=>by
 have hm:=Qlv (((Qmd (n:=n) (A:=A) (o:=o) (by rw [ho.len]; omega)).1 s).2 hs)
 exact ⟨hm,Ql7 o A s hm⟩
theorem Qxo {n:Nat} {q:Nat → List Nat} {o:List Nat} (h1:1≤n) (hn:n≤8) (ho:Ord n o):X0 (mkT n q o):=by
 obtain ⟨l1,l2,l3,l4⟩:=Quk (q:=q) ho h1
 have p8:(2:Nat)^n≤256:=Nat.pow_le_pow_right (n:=2) (by omega) hn
 refine ⟨fun c hc=>?_,by omega,by omega,by omega⟩
 have hc:c∈nI (mkB n (mg n q) o).1:=hc
 unfold nI at hc
 obtain ⟨x,hx,rfl⟩:=List.mem_map.1 hc
 have:=(Q3e h1 ho x hx).2
 omega
end Go.Ab
namespace Go.Ab
open Go
set_option maxRecDepth 100000
set_option maxHeartbeats 400000
section
variable {n:Nat} {q:Nat → List Nat} {t:Qc} {w:Int}
theorem Qh8 (h:X0 t) (ht:J4 n q t) (hn:n≤8) {i:Nat} (hi:i < t.Cliques.length):lkI t.Cliques (i:Int)=some ((cqN t i:Nat):Int)∧cqN t i < 2^n∧cqN t i < 18446744073709551616:=⟨(Y9 h hi).1,(ht.cq i hi).2.1,(Y9 h hi).2⟩
theorem Quv (ht:J4 n q t) {i:Nat} (hi:i < t.Cliques.length):lkI t.Up (i:Int)=some (upA t i):=by
 have:=ht.up
 unfold upA; rw [lkI_nat (by omega),List.getElem?_eq_getElem (by omega)]; rfl
end
end Go.Ab
namespace Go.Ab
open Go
set_option maxRecDepth 100000
set_option maxHeartbeats 400000
theorem Qji {x:Int}:(x != 0)=true↔¬ (x==0)=true:=by simp
theorem Qqy {t:Qc} {a b:Nat}:∀i,Xl (a &&& ahead t i) b↔∀j,j < i→Xl (a &&& cqN t j) b:=fun i=>by
 constructor
 ·intro h j hj x hx
  rw [Nat.testBit_and,Bool.and_eq_true] at hx
  exact h x (by rw [Nat.testBit_and,hx.1,(Qlo i).2 ⟨j,hj,hx.2⟩]; rfl)
 ·intro h x hx
  rw [Nat.testBit_and,Bool.and_eq_true] at hx
  obtain ⟨j,hj,hb⟩:=(Qlo i).1 hx.2
  exact h j hj x (by rw [Nat.testBit_and,hx.1,hb]; rfl)
theorem Qr3 {t:Qc} {i:Nat} (h:X0 t) (hi:i < t.Cliques.length) (h1:0≤upA t i∧upA t i < i) :
  ((∀j,j < i→Xl (cqN t i &&& cqN t j) (cqN t (upA t i).toNat))∧Qa fuel (Yi (i:Int) t (upA t i) ((cqN t i:Nat):Int)) 0=some (.inr ()))∨((¬ ∀j,j < i→Xl (cqN t i &&& cqN t j) (cqN t (upA t i).toNat))∧Qa fuel (Yi (i:Int) t (upA t i) ((cqN t i:Nat):Int)) 0=some (.inl ())):=by
 have hl:=h.2.1
 obtain ⟨f1,f2⟩:=Y9 h (show (upA t i).toNat < t.Cliques.length by omega)
 rw [show (((upA t i).toNat : Nat):Int)=upA t i by omega] at f1
 have e2:=(Y9 h hi).2
 have hr:=Xd (n:=i) (by omega) (fun j=>Xl (cqN t i &&& cqN t j) (cqN t (upA t i).toNat)) (fun i (_:Unit)=>i) (body:=Yi (i:Int) t (upA t i) ((cqN t i:Nat):Int)) (fun _=>()) (.inr ()) (.inl ())
  (fun j hj hI hg=>by
   obtain ⟨g1,g2⟩:=Y9 h (show j < t.Cliques.length by omega)
   unfold Yi
   rw [if_pos (dlt hj),g1,Option.bind_some,f1,Option.bind_some,Qf5 e2 g2,if_neg (by
    rw [Qji,J7 (Nat.lt_of_le_of_lt Nat.and_le_left e2) f2,Ka]
    exact fun hh=>hh hg)])
  (fun j hj hI hg=>by
   obtain ⟨g1,g2⟩:=Y9 h (show j < t.Cliques.length by omega)
   unfold Yi
   rw [if_pos (dlt hj),g1,Option.bind_some,f1,Option.bind_some,Qf5 e2 g2,if_pos (by
    rw [Qji,J7 (Nat.lt_of_le_of_lt Nat.and_le_left e2) f2,Ka]
    exact hg)])
  (fun hI=>by unfold Yi; rw [if_neg (nlt _)])
 exact hr
theorem Qsa {n:Nat} (hn:n≤8):zv (1*2^min (Int.toNat (zv ((n:Nat):Int))) (IntKind.bits .u64))=((2^n:Nat):Int):=by
 rw [X4 (by omega),Q3c (by omega)]
theorem Qzp {n:Nat} {t:Qc} {g:Int} {F:Nat → Tapi_Node} (hn:n≤8) (h:X0 t) (hu:t.Up.length=t.Cliques.length) (h0:upA t 0=-1) :
  ((∀i,i < t.Cliques.length→Qmz n t i)∧Qa fuel (Yf t ⟨g,Qe n F⟩) 0=some (.inr ()))∨((¬ ∀i,i < t.Cliques.length→Qmz n t i)∧Qa fuel (Yf t ⟨g,Qe n F⟩) 0=some (.inl ())):=by
 have hl:=h.2.1
 have hlen:(Qe n F).length=n:=Zo
 have eu:∀i,i < t.Cliques.length→lkI t.Up (i:Int)=some (upA t i):=fun i hi=>by unfold upA; rw [lkI_nat (by omega),List.getElem?_eq_getElem (by omega)]; rfl
 have ew:(0:Int)≤zv ((n:Nat):Int):=by rw [X4 (by omega)]; omega
 have h1r:∀(s a:Int),Qa fuel (Qgb (0:Int) t a) 0=some (.inr ()):=fun s a=>rfl
 have hr:=Xd (n:=t.Cliques.length) (by omega) (Qmz n t) (fun i (_:Unit)=>i) (body:=Yf t ⟨g,Qe n F⟩) (fun _=>()) (.inr ()) (.inl ())
  (fun i hi hI hg=>by
   obtain ⟨e1,e2⟩:=Y9 h hi
   obtain ⟨k1,k2,k3,k4⟩:=hg
   unfold Yf
   dsimp only
   rw [hlen,Qsa hn,if_pos (dlt hi),e1,Option.bind_some,if_neg (by simp; exact k1),if_pos ew,if_neg (by rw [decide_eq_true_eq]; omega)]
   by_cases c:i=0
   ·subst c
    rw [if_neg (by decide)]
    rw [show ((0:Nat):Int)=0 from rfl,h1r 0]; rfl
   ·obtain ⟨u1,u2,u3⟩:=k4 (by omega)
    rw [if_pos (by simp; omega),eu i hi,Option.bind_some,if_neg (by simp; omega),if_neg (by simp; omega)]
    rcases Qr3 h hi ⟨u1,u2⟩ with ⟨_,e⟩ | ⟨no,_⟩
    ·rw [e]; rfl
    ·exact absurd ((Qqy i).1 u3) no)
  (fun i hi hI hg=>by
   obtain ⟨e1,e2⟩:=Y9 h hi
   unfold Yf
   dsimp only
   rw [hlen,Qsa hn,if_pos (dlt hi),e1,Option.bind_some]
   by_cases c1:cqN t i=0
   ·rw [if_pos (by simp; exact c1)]
   rw [if_neg (by simp; exact c1),if_pos ew]
   by_cases c2:cqN t i < 2^n
   ·rw [if_neg (by rw [decide_eq_true_eq]; omega)]
    by_cases c:i=0
    ·subst c
     exact absurd ⟨c1,c2,fun _=>h0,fun h=>by omega⟩ hg
    ·rw [if_pos (by simp; omega),eu i hi,Option.bind_some]
     by_cases c3:upA t i < 0
     ·rw [if_pos (by simpa using c3)]
     rw [if_neg (by simpa using c3)]
     by_cases c4:upA t i≥(i:Int)
     ·rw [if_pos (by simpa using c4)]
     rw [if_neg (by simpa using c4)]
     rcases Qr3 h hi ⟨by omega,by omega⟩ with ⟨hs,_⟩ | ⟨_,e⟩
     ·exact absurd ⟨c1,c2,fun h=>absurd h c,fun _=>⟨by omega,by omega,(Qqy i).2 hs⟩⟩ hg
     ·rw [e]; rfl
   ·rw [if_pos (by rw [decide_eq_true_eq]; omega)])
  (fun hI=>by unfold Yf; dsimp only; rw [if_neg (nlt _)])
 exact hr
theorem Qze {n:Nat} {t:Qc} {g:Int} {F:Nat → Tapi_Node} (hf:V4 n g F) (h:X0 t) (hh:t.Home.length=n) :
  ((∀v,v < n→Qnk n (Qj F) t v)∧Qa fuel (Yg ⟨g,Qe n F⟩ t) 0=some (.inr ()))∨((¬ ∀v,v < n→Qnk n (Qj F) t v)∧Qa fuel (Yg ⟨g,Qe n F⟩ t) 0=some (.inl ())):=by
 have hn:=hf.n8
 have p8:(2:Nat)^n≤256:=Nat.pow_le_pow_right (n:=2) (by omega) hn
 have hlen:(Qe n F).length=n:=Zo
 have eh:∀v,v < n→lkI t.Home (v:Int)=some (hmA t v):=fun v hv=>by unfold hmA; rw [lkI_nat (by omega),List.getElem?_eq_getElem (by omega)]; rfl
 have hfl:∀v,msk n (FG (Qj F) v) < 18446744073709551616:=fun v=>by have:=Qbz n (FG (Qj F) v); omega
 have hr:=Xd (n:=n) (by omega) (Qnk n (Qj F) t) (fun i (_:Unit)=>i) (body:=Yg ⟨g,Qe n F⟩ t) (fun _=>()) (.inr ()) (.inl ())
  (fun v hv hI hg=>by
   obtain ⟨g1,g2,g3⟩:=hg
   obtain ⟨f1,f2⟩:=Y9 h (show (hmA t v).toNat < t.Cliques.length by omega)
   rw [show (((hmA t v).toNat : Nat):Int)=hmA t v by omega] at f1
   unfold Yg
   dsimp only
   rw [hlen,if_pos (dlt hv),eh v hv,Option.bind_some,if_neg (by simp; exact g1),if_neg (by simp; exact g2),Qjk hf hv,Option.bind_some,f1,Option.bind_some,if_neg (by
    rw [Qji,J7 (hfl v) f2]
    exact fun x=>x g3)])
  (fun v hv hI hg=>by
   unfold Yg
   dsimp only
   rw [hlen,if_pos (dlt hv),eh v hv,Option.bind_some]
   by_cases c1:hmA t v < 0
   ·rw [if_pos (by simpa using c1)]
   rw [if_neg (by simpa using c1)]
   by_cases c2:hmA t v≥(t.Cliques.length:Int)
   ·rw [if_pos (by simpa using c2)]
   rw [if_neg (by simpa using c2)]
   obtain ⟨f1,f2⟩:=Y9 h (show (hmA t v).toNat < t.Cliques.length by omega)
   rw [show (((hmA t v).toNat : Nat):Int)=hmA t v by omega] at f1
   rw [Qjk hf hv,Option.bind_some,f1,Option.bind_some,if_pos (by
    rw [Qji,J7 (hfl v) f2]
    exact fun x=>hg ⟨by omega,by omega,x⟩)])
  (fun hI=>by unfold Yg; dsimp only; rw [hlen,if_neg (nlt n)])
 exact hr
theorem Qwp {n:Nat} {g:Int} {F:Nat → Tapi_Node} {t:Qc} (hf:V4 n g F) (h:X0 t) :
  (J4 n (Qj F) t∧K5 ⟨g,Qe n F⟩ t=some true)∨(¬ J4 n (Qj F) t∧K5 ⟨g,Qe n F⟩ t=some false):=by
 have hlen:(Qe n F).length=n:=Zo
 unfold K5
 dsimp only
 rw [hlen]
 by_cases c1:t.Cliques.length < 1
 ·rw [if_pos (by simp; omega)]; exact .inr ⟨fun x=>by have:=x.c1; omega,rfl⟩
 rw [if_neg (by simp; omega)]
 by_cases c2:t.Cliques.length > 8
 ·rw [if_pos (by simp; omega)]; exact .inr ⟨fun x=>by have:=x.c8; omega,rfl⟩
 rw [if_neg (by simp; omega)]
 by_cases c3:t.Up.length=t.Cliques.length
 ·rw [if_neg (by simp; omega)]
  by_cases c4:t.Home.length=n
  ·rw [if_neg (by simp; omega)]
   have e0:lkI t.Up 0=some (upA t 0):=by
    unfold upA
    have:=lkI_nat (l:=t.Up) (k:=0) (by omega)
    rw [show ((0:Nat):Int)=0 from rfl] at this
    rw [this,List.getElem?_eq_getElem (by omega)]; rfl
   rw [e0,Option.bind_some]
   by_cases c5:upA t 0=-1
   ·rw [if_neg (by simp [c5])]
    rcases Qzp (g:=g) (F:=F) hf.n8 h c3 c5 with ⟨k1,e1⟩ | ⟨k1,e1⟩
    ·rw [e1,Option.bind_some]
     dsimp only
     rcases Qze hf h c4 with ⟨k2,e2⟩ | ⟨k2,e2⟩
     ·rw [e2]; exact .inl ⟨⟨by omega,by omega,c3,c4,k1,k2⟩,rfl⟩
     ·rw [e2]; exact .inr ⟨fun x=>k2 x.hm,rfl⟩
    ·rw [e1]; exact .inr ⟨fun x=>k1 x.cq,rfl⟩
   ·rw [if_pos (by simpa using c5)]; exact .inr ⟨fun x=>c5 ((x.cq 0 (by omega)).2.2.1 rfl),rfl⟩
  ·rw [if_pos (by simp; omega)]; exact .inr ⟨fun x=>c4 x.home,rfl⟩
 ·rw [if_pos (by simp; omega)]; exact .inr ⟨fun x=>c3 x.up,rfl⟩
theorem Q2u {n:Nat} {g:Int} {F:Nat → Tapi_Node} {t:Qc} {i:Nat} (hb:NB n F) (hf:V4 n g F) (h:X0 t) (ht:J4 n (Qj F) t) (h0:0 < i) (hi:i < t.Cliques.length) :
  Zg ⟨g,Qe n F⟩ t (i:Int)=some (((cqN t i &&& cqN t (upA t i).toNat : Nat):Int),0):=by
 have ec:Z6 ⟨g,Qe n F⟩ t=some 0:=by
  rcases Qde (g:=g) hb (by have:=hf.n8; omega) h with ⟨hf',_⟩ | ⟨_,ht',_⟩ | ⟨_,_,e⟩
  ·exact absurd hf hf'
  ·exact absurd ht ht'
  ·exact e
 obtain ⟨u1,u2,u3⟩:=(ht.cq i hi).2.2.2 h0
 obtain ⟨e1,_,e2⟩:=Qh8 h ht hf.n8 hi
 obtain ⟨f1,_,f2⟩:=Qh8 h ht hf.n8 (show (upA t i).toNat < t.Cliques.length by omega)
 rw [show (((upA t i).toNat : Nat):Int)=upA t i by omega] at f1
 unfold Zg
 rw [ec,Option.bind_some,if_neg (by decide),if_neg (by simp; omega),if_neg (by simp; omega),e1,Option.bind_some,Quv ht hi,Option.bind_some,f1,Option.bind_some,Qf5 e2 f2]
end Go.Ab
namespace Go.Ab
open Go
set_option maxRecDepth 100000
set_option maxHeartbeats 400000
def TS (m:Nat) (t:Qc):Prop:=(∀c∈t.Cliques,0≤c∧c≤18446744073709551615)∧t.Cliques.length≤m∧t.Up.length≤m∧t.Home.length≤m
theorem Qrm {m:Nat} {t:Qc} (hm:m≤1000) (h:TS m t):X0 t:=⟨h.1,by have:=h.2.1; omega,by have:=h.2.2.1; omega,by have:=h.2.2.2; omega⟩
theorem Q34 {n:Nat} {q:Nat → List Nat} {o:List Nat} (h1:1≤n) (hn:n≤8) (ho:Ord n o):TS 8 (mkT n q o):=by
 obtain ⟨l1,l2,l3,l4⟩:=Quk (q:=q) ho h1
 exact ⟨(Qxo h1 hn ho).1,by omega,by omega,by omega⟩
theorem Qsc (x:Int):0≤zv x∧zv x≤18446744073709551615:=by
 show 0≤IntKind.wrap .u64 x∧IntKind.wrap .u64 x≤_
 rw [IntKind.wrap_u64]; omega
theorem Qw2 {n:Int} (h:(Lit.int .u64 n).wf=true):0≤n∧n≤18446744073709551615:=by
 simpa [Lit.wf,IntKind.min,IntKind.max,IntKind.bits,IntKind.signed] using h
theorem Q32 {a:Int} {k:Nat} (ha:0≤a∧a≤255) (hk:0 < k):0≤Int.tmod (zw a) (k:Int)∧Int.tmod (zw a) (k:Int) < k:=by
 rw [w64 (by omega),Kb ha.1]
 exact ⟨Int.emod_nonneg _ (by omega),Int.emod_lt_of_pos _ (by omega)⟩
theorem Qnt {a:Int} {l:List Int} (ha:0≤a∧a≤255) (hl:0 < l.length):∃x∈l,lkI l (Int.tmod (zw a) (l.length:Int))=some x:=by
 obtain ⟨h1,h2⟩:=Q32 ha hl
 exact ⟨_,List.getElem_mem _,Q2o h1 h2⟩
theorem Qym {m:Nat} {t:Qc} {i:Nat} {x:Int} (h:TS m t) (hx:0≤x∧x≤18446744073709551615):TS (m+1) ⟨t.Cliques.set i x,t.Up,t.Home⟩:=by
 obtain ⟨h1,h2,h3,h4⟩:=h
 refine ⟨fun c hc=>?_,by show (t.Cliques.set i x).length≤_; rw [List.length_set]; omega,by show t.Up.length≤_; omega,by show t.Home.length≤_; omega⟩
 rcases List.mem_or_eq_of_mem_set hc with h | h
 ·exact h1 c h
 ·rw [h]; exact hx
theorem Qbh {C:Prop} [Decidable C] {α:Type} {A B:Option α} {Q:α→Prop} (h1:C→∃t',A=some t'∧Q t') (h2:¬ C→∃t',B=some t'∧Q t'):∃t',(if C then A else B)=some t'∧Q t':=by
 by_cases c:C
 ·rw [if_pos c]; exact h1 c
 ·rw [if_neg c]; exact h2 c
theorem Qqr {b:Tharuspexref10_Bend} {t:Qc} {m:Nat} (hm:m≤1000) (hb:Xm b) (h:TS m t):∃t',Vs b t=some t'∧TS (m+1) t':=by
 have ha:=Kt hb.2.1
 have hS:=Qw2 hb.2.2.2
 have hs:=h
 obtain ⟨h1,h2,h3,h4⟩:=h
 have up:TS (m+1) t:=⟨h1,by omega,by omega,by omega⟩
 unfold Vs
 rw [if_pos (by omega),if_pos (by omega),if_pos (by omega)]
 have pos:∀{l:List Int},decide ((l.length:Int) > 0)=true→0 < l.length:=fun h=>by rw [decide_eq_true_eq] at h; omega
 refine Qbh (fun _=>?_) fun _=>?_
 ·refine Qbh (fun c=>?_) fun _=>?_
  ·skip
   obtain ⟨x,_,e⟩:=Qnt ha (pos c)
   rw [if_pos (by have:=pos c; omega),e,Option.bind_some,Option.bind_some]
   exact ⟨_,rfl,Qym hs hS⟩
  ·exact ⟨_,rfl,up⟩
 refine Qbh (fun _=>?_) fun _=>?_
 ·refine Qbh (fun c=>?_) fun _=>?_
  ·skip
   obtain ⟨x,_,e⟩:=Qnt ha (pos c)
   rw [if_pos (by have:=pos c; omega),if_pos (by have:=pos c; omega),e,Option.bind_some,Option.bind_some]
   exact ⟨_,rfl,Qym hs (Qsc _)⟩
  ·exact ⟨_,rfl,up⟩
 refine Qbh (fun _=>?_) fun _=>?_
 ·refine Qbh (fun c=>?_) fun _=>?_
  ·skip
   obtain ⟨x,_,e⟩:=Qnt ha (pos c)
   rw [if_pos (by have:=pos c; omega),e,Option.bind_some,Option.bind_some]
   exact ⟨_,rfl,h1,by show t.Cliques.length≤_; omega,by show (List.set _ _ _).length≤_; rw [List.length_set]; omega,by show t.Home.length≤_; omega⟩
  ·exact ⟨_,rfl,up⟩
 refine Qbh (fun _=>?_) fun _=>?_
 ·refine Qbh (fun c=>?_) fun _=>?_
  ·skip
   obtain ⟨x,_,e⟩:=Qnt ha (pos c)
   rw [if_pos (by have:=pos c; omega),e,Option.bind_some,Option.bind_some]
   exact ⟨_,rfl,h1,by show t.Cliques.length≤_; omega,by show t.Up.length≤_; omega,by show (List.set _ _ _).length≤_; rw [List.length_set]; omega⟩
  ·exact ⟨_,rfl,up⟩
 refine Qbh (fun _=>?_) fun _=>?_
 ·refine Qbh (fun c=>?_) fun _=>?_
  ·skip
   rw [if_pos (by have:=pos c; omega)]
   refine ⟨_,rfl,fun x hx=>?_,?_,by show t.Up.length≤_; omega,by show t.Home.length≤_; omega⟩
   ·have hx:x∈sub t.Cliques 1 (t.Cliques.length:Int):=hx
    unfold sub at hx
    exact h1 x (List.mem_of_mem_drop (List.mem_of_mem_take hx))
   ·show (sub t.Cliques 1 (t.Cliques.length:Int)).length≤_
    unfold sub
    rw [List.length_take,List.length_drop]; omega
  ·exact ⟨_,rfl,up⟩
 refine Qbh (fun _=>?_) fun _=>?_
 ·rw [if_pos (by rw [List.length_append]; simp; omega),if_pos (by rw [List.length_append]; simp; omega)]
  refine ⟨_,rfl,fun x hx=>?_,by show (_++_:List Int).length≤_; rw [List.length_append]; simp; omega,by show (_++_:List Int).length≤_; rw [List.length_append]; simp; omega,by show t.Home.length≤_; omega⟩
  rcases List.mem_append.1 hx with h | h
  ·exact h1 x h
  ·simp only [List.mem_singleton] at h; rw [h]; exact hS
 refine Qbh (fun _=>?_) fun _=>?_
 ·rw [if_pos (by rw [List.length_append]; simp; omega)]
  exact ⟨_,rfl,h1,by show t.Cliques.length≤_; omega,by show t.Up.length≤_; omega,by show (_++_:List Int).length≤_; rw [List.length_append]; simp; omega⟩
 refine Qbh (fun c=>?_) fun _=>?_
 ·skip
  obtain ⟨x,_,e⟩:=Qnt ha (pos c)
  rw [if_pos (by have:=pos c; omega),if_pos (by rw [List.length_append]; simp; omega),e,Option.bind_some,if_pos (by rw [List.length_append]; simp; omega)]
  refine ⟨_,rfl,fun x hx=>?_,by show (_++_:List Int).length≤_; rw [List.length_append]; simp; omega,by show (_++_:List Int).length≤_; rw [List.length_append]; simp; omega,by show t.Home.length≤_; omega⟩
  rcases List.mem_append.1 hx with h | h
  ·exact h1 x h
  ·simp only [List.mem_singleton] at h; rw [h]; exact Qsc _
 ·exact ⟨_,rfl,up⟩
end Go.Ab
namespace Go.Ab
open Go
set_option maxRecDepth 100000
set_option maxHeartbeats 400000
section
variable {n:Nat} {g:Int} {F:Nat → Tapi_Node} {t:Qc}
theorem Qrf {q:Nat → List Nat} (hn:n≤8) (h:X0 t) (ht:J4 n q t):Qca t=some ((maxPc n t t.Cliques.length:Int) - 1):=by
 have hl:=h.2.1
 have hpos:∀k,k < t.Cliques.length→1≤pc n (cqN t k):=fun k hk=>by
  obtain ⟨a,b,_⟩:=ht.cq k hk
  apply Classical.byContradiction
  intro hno
  have hz:pc n (cqN t k)=0:=by omega
  apply a
  refine Nat.eq_of_testBit_eq fun j=>?_
  rw [Nat.zero_testBit,Bool.eq_false_iff]
  intro hj
  have:=Qut (n:=n) (Q3x b hj) hj
  unfold pc at hz; omega
 have hr:=Zx (n:=t.Cliques.length) (k0:=0) (by omega) (by omega) (fun i (x:Int)=>(x,i)) (body:=Ks t) (fun k=>((maxPc n t k - 1:Nat):Int)) ((maxPc n t t.Cliques.length:Int) - 1)
  (fun k _ hk=>by
   obtain ⟨e1,e2,_⟩:=Qh8 h ht hn hk
   have h1:=hpos k hk
   have h2:pc n (cqN t k)≤n:=Qsj n _
   unfold Ks
   dsimp only
   rw [if_pos (dlt hk),e1,Option.bind_some,Qug hn e2,Option.bind_some,w64 (n:=(pc n (cqN t k):Int) - 1) (by omega),show (pc n (cqN t k):Int) - 1=((pc n (cqN t k) - 1:Nat):Int) by omega,Q3n]
   simp only [maxPc]
   congr 4
   omega)
  (by
   have h1:=ht.c1
   have h2:=hpos 0 (by omega)
   have h3:=Qs1 (n:=n) (t:=t) t.Cliques.length 0 (by omega)
   unfold Ks; dsimp only; rw [if_neg (nlt _)]; congr 2; omega)
 unfold Qca
 rw [show ((0:Nat):Int)=0 from rfl,show ((maxPc n t 0 - 1:Nat):Int)=0 from rfl] at hr
 rw [hr]; rfl
theorem Q0p (hb:NB n F) (h:X0 t):(¬ V4 n g F∧Jp ⟨g,Qe n F⟩ t=some 50)∨(V4 n g F∧¬ J4 n (Qj F) t∧Jp ⟨g,Qe n F⟩ t=some 100)∨(V4 n g F∧J4 n (Qj F) t∧Jp ⟨g,Qe n F⟩ t=some 0):=by
 unfold Jp
 rcases Qv3 (g:=g) hb with ⟨hf,e⟩ | ⟨hf,e⟩
 ·rw [e,Option.bind_some,if_neg (by decide)]
  rcases Qwp hf h with ⟨ht,e⟩ | ⟨ht,e⟩
  ·exact .inr (.inr ⟨hf,ht,by rw [e]; rfl⟩)
  ·exact .inr (.inl ⟨hf,ht,by rw [e]; rfl⟩)
 ·exact .inl ⟨hf,by rw [e]; rfl⟩
theorem Qq6 {p5 x:Int} (hx:x≠0) (ec:Z6 ⟨g,Qe n F⟩ t=some x):Qa fuel (Ys p5 t ⟨g,Qe n F⟩ x) 0=some (.inr ()):=by
 have es:∀k,Zg ⟨g,Qe n F⟩ t k=some (0,x):=fun k=>by unfold Zg; rw [ec,Option.bind_some,if_pos (by simpa using hx)]
 have hr:=Zx (n:=3) (k0:=0) (by omega) (by omega) (fun i (_:Unit)=>i) (body:=Ys p5 t ⟨g,Qe n F⟩ x) (fun _=>()) (.inr ())
  (fun k _ hk=>by
   obtain ⟨a,ea⟩:∃a,lkI ([p5,1,zw ((t.Cliques.length:Int) - 1)]:(List Int)) (k:Int)=some a:=⟨_,lkI_nat (by simpa using hk)⟩
   unfold Ys
   rw [if_pos (by rw [decide_eq_true_eq]; omega),ea,Option.bind_some,es,Option.bind_some]
   rw [if_neg (by simp),if_neg (by simp)])
  (by unfold Ys; rw [if_neg (by decide)])
 rw [show ((0:Nat):Int)=0 from rfl] at hr
 exact hr
theorem Qyo {p5:Int} (hb:NB n F) (hf:V4 n g F) (h:X0 t) (ht:J4 n (Qj F) t) (ec:Z6 ⟨g,Qe n F⟩ t=some 0):Qa fuel (Yq p5 t ⟨g,Qe n F⟩ 0) 0=some (.inr ()):=by
 have hr:=Zx (n:=3) (k0:=0) (by omega) (by omega) (fun i (_:Unit)=>i) (body:=Yq p5 t ⟨g,Qe n F⟩ 0) (fun _=>()) (.inr ())
  (fun k _ hk=>by
   obtain ⟨a,ea⟩:∃a,lkI ([p5,1,zw ((t.Cliques.length:Int) - 1)]:(List Int)) (k:Int)=some a:=⟨_,lkI_nat (by simpa using hk)⟩
   unfold Yq
   rw [if_pos (by rw [decide_eq_true_eq]; omega),ea,Option.bind_some]
   by_cases c1:a < 1
   ·have es:Zg ⟨g,Qe n F⟩ t a=some (0,2):=by unfold Zg; rw [ec,Option.bind_some,if_neg (by decide),if_pos (by simpa using c1)]
    rw [es,Option.bind_some,if_pos (by simpa using c1),if_neg (by simp),if_neg (by simp)]
   ·by_cases c2:a≥(t.Cliques.length:Int)
    ·have es:Zg ⟨g,Qe n F⟩ t a=some (0,2):=by unfold Zg; rw [ec,Option.bind_some,if_neg (by decide),if_neg (by simpa using c1),if_pos (by simpa using c2)]
     rw [es,Option.bind_some,if_neg (by simpa using c1),if_pos (by simpa using c2),if_neg (by simp),if_neg (by simp)]
    ·obtain ⟨i,rfl⟩:∃i:Nat,a=(i:Int):=⟨a.toNat,by omega⟩
     have hi:i < t.Cliques.length:=by omega
     obtain ⟨u1,u2,u3⟩:=(ht.cq i hi).2.2.2 (by omega)
     obtain ⟨e1,_,e2⟩:=Qh8 h ht hf.n8 hi
     obtain ⟨f1,_,f2⟩:=Qh8 h ht hf.n8 (show (upA t i).toNat < t.Cliques.length by omega)
     rw [show (((upA t i).toNat : Nat):Int)=upA t i by omega] at f1
     rw [Q2u hb hf h ht (by omega) hi,Option.bind_some,if_neg (by simpa using c1),if_neg (by simpa using c2),e1,Option.bind_some,Quv ht hi,Option.bind_some,f1,Option.bind_some,Qf5 e2 f2,if_neg (by simp),if_neg (by simp)])
  (by unfold Yq; rw [if_neg (by decide)])
 rw [show ((0:Nat):Int)=0 from rfl] at hr
 exact hr
theorem Qfg {p5:Int} {x9 x18 x22 x24:Qc} (hb:NB n F) (hbig:n≤1000) {k:Nat} (hk:k < 4) (hl:lkI ([x9,x18,x22,x24]:(List Qc)) (k:Int)=some t) (h:X0 t):Yt x9 x18 x22 x24 ⟨g,Qe n F⟩ p5 (k:Int)=some (.next (zw ((k:Int)+1))):=by
 unfold Yt
 rw [if_pos (by rw [decide_eq_true_eq]; omega),hl,Option.bind_some]
 rcases Q0p (g:=g) hb h with ⟨hf,er⟩ | ⟨hf,ht,er⟩ | ⟨hf,ht,er⟩
 ·rcases Qde (g:=g) hb hbig h with ⟨_,ec⟩ | ⟨no,_⟩ | ⟨no,_⟩
  ·rcases Qi0 (g:=g) hb hbig h with ⟨_,ew⟩ | ⟨no,_⟩ | ⟨no,_⟩
   ·rw [er,Option.bind_some,ew,Option.bind_some,ec,Option.bind_some,if_neg (by decide),if_neg (by decide),if_pos (by decide),if_neg (by decide),Qq6 (by decide) ec]; rfl
   ·exact absurd no hf
   ·exact absurd no hf
  ·exact absurd no hf
  ·exact absurd no hf
 ·rcases Qde (g:=g) hb hbig h with ⟨no,_⟩ | ⟨_,_,ec⟩ | ⟨_,no,_⟩
  ·exact absurd hf no
  ·rcases Qi0 (g:=g) hb hbig h with ⟨no,_⟩ | ⟨_,_,ew⟩ | ⟨_,no,_⟩
   ·exact absurd hf no
   ·rw [er,Option.bind_some,ew,Option.bind_some,ec,Option.bind_some,if_neg (by decide),if_neg (by decide),if_pos (by decide),if_neg (by decide),Qq6 (by decide) ec]; rfl
   ·exact absurd no ht
  ·exact absurd no ht
 ·rcases Qde (g:=g) hb hbig h with ⟨no,_⟩ | ⟨_,no,_⟩ | ⟨_,_,ec⟩
  ·exact absurd hf no
  ·exact absurd ht no
  ·rcases Qi0 (g:=g) hb hbig h with ⟨no,_⟩ | ⟨_,no,_⟩ | ⟨_,_,ew⟩
   ·exact absurd hf no
   ·exact absurd ht no
   ·rw [er,Option.bind_some,ew,Option.bind_some,ec,Option.bind_some,if_neg (by decide),if_neg (by simp),if_neg (by decide),Qrf hf.n8 h ht,Option.bind_some,if_neg (by simp),Qyo hb hf h ht ec]; rfl
theorem Qy5 {m:Nat} (h:Qho t):∃t',Qee t=some t'∧TS 10 t':=by
 have key:∀(l:List Int),0≤(if 10 < (l.length:Int) then (10:Int) else (l.length:Int))∧(if 10 < (l.length:Int) then (10:Int) else (l.length:Int))≤(l.length:Int)∧(sub l 0 (if 10 < (l.length:Int) then 10 else (l.length:Int))).length≤10:=fun l=>by
  unfold sub
  rw [List.length_take,List.length_drop]
  split <;> simp <;> omega
 obtain ⟨a1,a2,a3⟩:=key t.Cliques
 obtain ⟨b1,b2,b3⟩:=key t.Up
 obtain ⟨c1,c2,c3⟩:=key t.Home
 unfold Qee
 rw [if_pos ⟨Int.le_refl _,a1,a2⟩,if_pos ⟨Int.le_refl _,b1,b2⟩,if_pos ⟨Int.le_refl _,c1,c2⟩]
 refine ⟨_,rfl,fun x hx=>?_,a3,b3,c3⟩
 have hx:x∈sub t.Cliques 0 (if 10 < (t.Cliques.length:Int) then 10 else (t.Cliques.length:Int)):=hx
 unfold sub at hx
 exact Qw2 (h.1.2 x (List.mem_of_mem_drop (List.mem_of_mem_take hx)))
end
theorem checks_true (p0:Qf) (p1:Q8) (p2:Int × Int × Int × Int × Int × Int × Int × Int) (p3:Tharuspexref10_Bend × Tharuspexref10_Bend) (p4:Qc) (p5:Int) (h0:Vi p0) (h1:Km p1)
  (h2:(Lit.int .u8 p2.1).wf=true∧(Lit.int .u8 p2.2.1).wf=true∧(Lit.int .u8 p2.2.2.1).wf=true∧(Lit.int .u8 p2.2.2.2.1).wf=true∧(Lit.int .u8 p2.2.2.2.2.1).wf=true∧(Lit.int .u8 p2.2.2.2.2.2.1).wf=true∧(Lit.int .u8 p2.2.2.2.2.2.2.1).wf=true∧(Lit.int .u8 p2.2.2.2.2.2.2.2).wf=true)
  (h3:Xm p3.1∧Xm p3.2) (h4:Qho p4) (h5:(Lit.int .i64 p5).wf=true):Qa2 p0 p1 p2 p3 p4 p5=some true:=by
 obtain ⟨D,n,g,F,X,hD5,hDB,hDF,hB,hn6,e1,e2⟩:=Qzr h0 h1
 have hDl:(Qe D.n D.node).length=D.n:=Zo
 obtain ⟨o,ho,eo⟩:=Qw6 (n:=D.n) (by omega) (Q2p h2)
 have n1:=hDF.n1
 have n8:=hDF.n8
 have ts:=Q34 (q:=Qj D.node) n1 n8 ho
 obtain ⟨t1,b1,s1⟩:=Qqr (by omega) h3.1 ts
 obtain ⟨t2,b2,s2⟩:=Qqr (by omega) h3.2 s1
 obtain ⟨t3,b3,s3⟩:=Qy5 (m:=0) h4
 unfold Qa2
 rw [Qvz,Option.bind_some,if_neg (by decide),e1,Option.bind_some]
 dsimp only
 rw [hDl,show (p2.1,p2.2.1,p2.2.2.1,p2.2.2.2.1,p2.2.2.2.2.1,p2.2.2.2.2.2.1,p2.2.2.2.2.2.2.1,p2.2.2.2.2.2.2.2)=p2 from rfl,eo,Option.bind_some,Qzd hDF ho,Option.bind_some,e2,Option.bind_some]
 have hstep:∀(k:Nat) (m:Nat) (gg:Int) (G:Nat → Tapi_Node),k < 2→lkI ([⟨D.g,Qe D.n D.node⟩,⟨g,Qe n F⟩]:(List Qd)) (k:Int)=some ⟨gg,Qe m G⟩→NB m G→m≤1000→Yu ⟨D.g,Qe D.n D.node⟩ ⟨g,Qe n F⟩ p3 (mkT D.n (Qj D.node) o) p4 p5 (k:Int)=some (.next (zw ((k:Int)+1))):=fun k m gg G hk hlk hb hm=>by
  have hr:=Zx (n:=4) (k0:=0) (by omega) (by omega) (fun i (_:Unit)=>i) (body:=Yt (mkT D.n (Qj D.node) o) t1 t2 t3 ⟨gg,Qe m G⟩ p5) (fun _=>()) (.inr ())
   (fun j _ hj=>by
    match j,hj with
    | 0,_=>exact Qfg (t:=mkT D.n (Qj D.node) o) hb hm (by omega) rfl (Qrm (by omega) ts)
    | 1,_=>exact Qfg (t:=t1) hb hm (by omega) rfl (Qrm (by omega) s1)
    | 2,_=>exact Qfg (t:=t2) hb hm (by omega) rfl (Qrm (by omega) s2)
    | 3,_=>exact Qfg (t:=t3) hb hm (by omega) rfl (Qrm (by omega) s3))
   (by unfold Yt; rw [if_neg (by decide)])
  rw [show ((0:Nat):Int)=0 from rfl] at hr
  unfold Yu
  rw [if_pos (by rw [decide_eq_true_eq]; omega),hlk,Option.bind_some,b1,Option.bind_some,Option.bind_some,b2,Option.bind_some,b3,Option.bind_some,hr]; rfl
 have h:=Zx (n:=2) (k0:=0) (by omega) (by omega) (fun i (_:Unit)=>i) (body:=Yu ⟨D.g,Qe D.n D.node⟩ ⟨g,Qe n F⟩ p3 (mkT D.n (Qj D.node) o) p4 p5) (fun _=>()) (.inr ())
  (fun k _ hk=>by
   match k,hk with
   | 0,_=>exact hstep 0 D.n D.g D.node (by omega) rfl hDB (by omega)
   | 1,_=>exact hstep 1 n g F (by omega) rfl hB (by omega))
  (by unfold Yu; rw [if_neg (by decide)])
 rw [show ((0:Nat):Int)=0 from rfl] at h
 rw [h]; rfl
#print axioms checks_true
end Go.Ab
namespace Go.Ab
open Go Go.Proofs Go.Proofs.YtcbhkobklhkiiaaDoor
open Go.ChangeShapes Go.WideShapes Go.ChangeAt Go.RowKit
abbrev dr_laid:List (String × DataW Unit):=[("math/bits.deBruijn32tab",Rows.laid_math_bits_deBruijn32tab),("math/bits.deBruijn64tab",Rows.laid_math_bits_deBruijn64tab)]
theorem dr_own:ownKnob Tryd.prog.godebug=none:=by kernel_rfl
theorem Q0z:Tryd.prog.globalNamed "math/bits.deBruijn32tab" = some 0:=by kernel_rfl
theorem Q09:Tryd.prog.globalNamed "math/bits.deBruijn64tab" = some 1:=by kernel_rfl
theorem dr_met (os:Os) (args:Array Value):laidMetH Tryd.prog dr_laid ((World.doorLaid Tryd.prog 19 os).forCall (fun _ _=>0) ⟨#[],args,[]⟩).memory :=
 laidMetH_of_parts3 (fuel:=8) (laidMet_of_run' 8 (by kernel_rfl) (by kernel_rfl)) (by kernel_rfl) (by kernel_rfl)
theorem dr_glob {W:World} (h:laidMetH Tryd.prog dr_laid W):Go.Ab.GlobIn W:=by
 rw [MakeChecks.laidMetH_plain _ _ _ (by kernel_rfl)] at h
 have h0:=Lib.tabIs_of_head (k:=.u8) (zs:=Go.Ab.tab0) (t:=158) (e:=5) (n:=32) Q0z (by kernel_rfl) (by kernel_rfl) (by kernel_rfl) (by kernel_rfl) (by kernel_rfl) h
 have h1:=Lib.tabIs_of_head (k:=.u8) (zs:=Go.Ab.tab1) (t:=159) (e:=5) (n:=64) Q09 (by kernel_rfl) (by kernel_rfl) (by kernel_rfl) (by kernel_rfl) (by kernel_rfl) h.tail
 intro g xs hg i v hv
 match g,hg with
 | 0,hg =>
  cases hg
  have hi:i < Go.Ab.tab0.length:=by have:=(List.getElem?_eq_some_iff.1 hv).1; simpa using this
  have:=h0.cell Q0z i hi
  rw [this]
  rw [List.getElem?_map] at hv
  simpa [List.getD,hi] using hv
 | 1,hg =>
  cases hg
  have hi:i < Go.Ab.tab1.length:=by have:=(List.getElem?_eq_some_iff.1 hv).1; simpa using this
  have:=h1.cell Q09 i hi
  rw [this]
  rw [List.getElem?_map] at hv
  simpa [List.getD,hi] using hv
 | n+2,hg=>cases hg
end Go.Ab
