/- What functions compute. No conditions. -/
import Derived.Test.YtojklbpplceiiaaDoorW15
import Derived.Test.YtojklbpplceiiaaDoorEng7
import Derived.Test.YtojklbpplceiiaaDoorW11
import Derived.Test.YtojklbpplceiiaaDoorW12
import Derived.KernelRfl
set_option linter.all false
namespace Go.Ab
open Go
set_option maxRecDepth 100000
set_option maxHeartbeats 1000000
theorem Qqh {n:Nat} {S:Nat → Nat} (hn:n≤8) (h:Gd n S):L64 n S:=fun v hv=>by
 have:=Qco (h.inn v hv)
 have:(2:Nat)^n≤256:=Nat.pow_le_pow_right (n:=2) (by omega) hn
 omega
def Qag (n:Nat) (S:Nat → Nat) (a b:Nat):List (Int × Int × Int):=apL (fun c=>if ((S b).testBit a && (S b).testBit c && !near S a c)=true then [((a:Int),(b:Int),(c:Int))] else []) (a+1) (n - (a+1))
theorem Qgm {n:Nat} {S:Nat → Nat} {a b:Nat}:(Qag n S a b).length≤n:=by
 have:=Z6 (L:=fun c=>if ((S b).testBit a && (S b).testBit c && !near S a c)=true then [((a:Int),(b:Int),(c:Int))] else []) (k0:=a+1) (m:=1) (fun _=>Js) (n - (a+1))
 unfold Qag; omega
theorem Qt1 {n:Nat} {S:Nat → Nat}:cls n S=apL (fun a=>apL (fun b=>Qag n S a b) 0 n) 0 n:=rfl
theorem Qbj {n:Nat} {S:Nat → Nat} (hn:n≤6) (h:Gd n S):Zq (Qg n S)=some (cls n S):=by
 have hlen:(Qg n S).length=n:=Z3
 have h64:=Qqh (by omega) h
 generalize hK:(⟨(n:Int),Qo (mI (nrN n S))⟩:Tequal_skeleton)=K
 have hj:∀a c,a < n→c < n→Qj K (a:Int) (c:Int)=some (near S a c):=fun a c ha hc=>by
  rw [←hK,Qe1 (by omega) (by omega),Z7,Qnm ha hc]
  have:c < 6:=by omega
  simp [this]
 have inner:∀a b (o o1 o2:List (Int × Int × Int)),a < n→b < n→o.length≤1000→Qb fuel (Y7 (Qg n S) ((a:Int),o1) (S b:Int) K ((b:Int),o2)) (((a+1:Nat):Int),o)=some (o++Qag n S a b):=fun a b o o1 o2 ha hb ho =>
  Vu (m:=1) (c:=1000) (by omega) (by omega) (fun k (x:List (Int × Int × Int))=>(k,x)) (body:=Y7 (Qg n S) ((a:Int),o1) (S b:Int) K ((b:Int),o2)) _ id (fun _=>Js) ho
   (fun k x h1 h2 hx=>by
    unfold Y7
    dsimp only
    rw [hlen,if_pos (dlt h2),if_pos (Yo a),Qmd (h64 b hb) (by omega)]
    by_cases c1:(S b).testBit a=true
    ·rw [if_pos (by rw [c1]; rfl),if_pos (Yo k),Qmd (h64 b hb) (by omega)]
     by_cases c2:(S b).testBit k=true
     ·rw [if_pos (by rw [c2]; rfl)]
      rw [hj a k ha h2,Option.bind_some]
      by_cases c3:near S a k=true
      ·rw [c3]; simp
      ·rw [Bool.eq_false_iff.2 c3,if_pos (by rfl),if_pos (by rw [List.length_append]; simp; omega),c1,c2]; simp
     ·rw [Bool.eq_false_iff.2 c2]; simp
    ·rw [Bool.eq_false_iff.2 c1]; simp)
   (fun x=>by unfold Y7; dsimp only; rw [hlen,if_neg (nlt n)]; rfl)
 have mid:∀a (o o1:List (Int × Int × Int)),a < n→o.length≤500→Qb fuel (Y6 (Qg n S) ((a:Int),o1) K) (((0:Nat):Int),o)=some (o++apL (fun b=>if b < n then Qag n S a b else []) 0 n):=fun a o o1 ha ho=>by
  have:=Vu (n:=n) (k0:=0) (m:=6) (c:=500) (by omega) (by omega) (fun k (x:List (Int × Int × Int))=>(k,x)) (body:=Y6 (Qg n S) ((a:Int),o1) K) (fun b=>if b < n then Qag n S a b else []) id (fun b=>by
    split
    ·have:=Qgm (n:=n) (S:=S) (a:=a) (b:=b); omega
    ·simp) ho
   (fun k x _ h2 hx=>by
    unfold Y6
    dsimp only
    rw [hlen,if_pos (dlt h2),Z4 h2,Option.bind_some,Qmm (by omega),inner a k x o1 x ha h2 (by omega),Option.bind_some,if_pos h2])
   (fun x=>by unfold Y6; dsimp only; rw [hlen,if_neg (nlt n)]; rfl)
  exact this
 have midl:∀a,(apL (fun b=>if b < n then Qag n S a b else []) 0 n).length≤36:=fun a=>by
  have:=Z6 (L:=fun b=>if b < n then Qag n S a b else []) (k0:=0) (m:=6) (fun b=>by
   split
   ·have:=Qgm (n:=n) (S:=S) (a:=a) (b:=b); omega
   ·simp) n
  omega
 have outer:=Vu (n:=n) (k0:=0) (m:=36) (c:=0) (by omega) (by omega) (fun k (x:List (Int × Int × Int))=>(k,x)) (body:=V0 (Qg n S) K)
  (fun a=>apL (fun b=>if b < n then Qag n S a b else []) 0 n) id midl (out:=[]) (by simp)
  (fun k o _ hk ho=>by
   unfold V0
   dsimp only
   have:=mid k o o hk (by omega)
   rw [show ((0:Nat):Int)=0 from rfl] at this
   rw [hlen,if_pos (dlt hk),this,Option.bind_some])
  (fun o=>by unfold V0; dsimp only; rw [hlen,if_neg (nlt n)]; rfl)
 unfold Zq
 rw [Qas hn h,Option.bind_some,hK]
 rw [show ((0:Nat):Int)=0 from rfl] at outer
 rw [outer,Option.bind_some,List.nil_append,Nat.sub_zero,Qt1]
 show some (apL _ 0 n)=_
 congr 1
 exact Zf n fun a _ ha=>Zf n fun b _ hb=>by rw [if_pos (by omega)]
theorem Qnz {n:Nat} {S:Nat → Nat} (hn:n≤7) (h64:L64 n S) {i j:Nat} (hi:i < n) (hj:j < n):Kd (Qg n S) (i:Int) (j:Int)=some (near S i j):=by
 unfold Kd near
 rw [Z4 hi,Option.bind_some,Qdk (h64 i hi) (by omega),Option.bind_some]
 cases (S i).testBit j with
 | true=>rfl
 | false=>simp only [Bool.false_eq_true,if_false,Bool.false_or]; rw [Z4 hj,Option.bind_some,Qdk (h64 j hj) (by omega),Option.bind_some]
theorem Ql2 {n:Nat} {S:Nat → Nat} (hn:n≤7) (h64:L64 n S):Jj (Qg n S)=some (prs n (near S)):=by
 have hlen:(Qg n S).length=n:=Z3
 have inner:∀i o o1,i < n→o.length≤100→Qb fuel (Vc (Qg n S) ((i:Int),o1)) (((i+1:Nat):Int),o)=some (o++apL (fun j=>if near S i j=true then [((i:Int),(j:Int))] else []) (i+1) (n - (i+1))):=fun i o o1 hi ho =>
  Vu (m:=1) (c:=100) (by omega) (by omega) (fun k (x:List (Int × Int))=>(k,x)) (body:=Vc (Qg n S) ((i:Int),o1)) _ id (fun _=>Js) ho
   (fun k x h1 h2 hx=>by
    unfold Vc
    dsimp only
    rw [hlen,if_pos (dlt h2),Qnz hn h64 hi h2,Option.bind_some]
    by_cases hb:near S i k=true
    ·rw [if_pos hb,if_pos hb,if_pos (by rw [List.length_append]; simp; omega)]
    ·rw [if_neg hb,if_neg hb,List.append_nil])
   (fun x=>by unfold Vc; dsimp only; rw [hlen,if_neg (nlt n)]; rfl)
 have outer:=Vu (n:=n) (k0:=0) (m:=7) (c:=0) (by omega) (by omega) (fun k (x:List (Int × Int))=>(k,x)) (body:=Jl (Qg n S))
  (fun i=>if i < n then apL (fun j=>if near S i j=true then [((i:Int),(j:Int))] else []) (i+1) (n - (i+1)) else []) id (fun i=>by
   split
   ·have:=Z6 (L:=fun j=>if near S i j=true then [((i:Int),(j:Int))] else []) (k0:=i+1) (m:=1) (fun _=>Js) (n - (i+1)); omega
   ·simp) (out:=[]) (by simp)
  (fun k o _ hk ho=>by
   unfold Jl
   dsimp only
   rw [hlen,if_pos (dlt hk),Qmm (by omega),inner k o o hk (by omega),Option.bind_some,if_pos hk])
  (fun o=>by unfold Jl; dsimp only; rw [hlen,if_neg (nlt n)]; rfl)
 unfold Jj
 rw [show ((0:Nat):Int)=0 from rfl] at outer
 rw [outer,Option.bind_some,List.nil_append,Nat.sub_zero]
 show some (apL _ 0 n)=_
 rw [Zf n (L':=fun i=>apL (fun j=>if near S i j=true then [((i:Int),(j:Int))] else []) (i+1) (n - (i+1))) fun i _ h=>by rw [if_pos (by omega)]]
 rfl
theorem Qek {n:Nat} {S:Nat → Nat} (hn:n≤6) (h64:L64 n S):Vy (Qg n S)=some (cls n S):=by
 have hlen:(Qg n S).length=n:=Z3
 have inner:∀a b (o o1 o2:List (Int × Int × Int)),a < n→b < n→o.length≤1000→Qb fuel (Yz (Qg n S) ((b:Int),o2) ((a:Int),o1)) (((a+1:Nat):Int),o)=some (o++Qag n S a b):=fun a b o o1 o2 ha hb ho =>
  Vu (m:=1) (c:=1000) (by omega) (by omega) (fun k (x:List (Int × Int × Int))=>(k,x)) (body:=Yz (Qg n S) ((b:Int),o2) ((a:Int),o1)) _ id (fun _=>Js) ho
   (fun k x h1 h2 hx=>by
    unfold Yz
    dsimp only
    rw [hlen,if_pos (dlt h2),Z4 hb,Option.bind_some,Qdk (h64 b hb) (by omega),Option.bind_some]
    by_cases c1:(S b).testBit a=true
    ·rw [if_pos c1,Qdk (h64 b hb) (by omega),Option.bind_some]
     by_cases c2:(S b).testBit k=true
     ·rw [if_pos c2,Qnz (by omega) h64 ha h2,Option.bind_some]
      by_cases c3:near S a k=true
      ·rw [c3]; simp
      ·rw [Bool.eq_false_iff.2 c3,if_pos (by rfl),if_pos (by rw [List.length_append]; simp; omega),c1,c2]; simp
     ·rw [Bool.eq_false_iff.2 c2]; simp
    ·rw [Bool.eq_false_iff.2 c1]; simp)
   (fun x=>by unfold Yz; dsimp only; rw [hlen,if_neg (nlt n)]; rfl)
 have mid:∀a (o o1:List (Int × Int × Int)),a < n→o.length≤500→Qb fuel (Yy (Qg n S) ((a:Int),o1)) (((0:Nat):Int),o)=some (o++apL (fun b=>if b < n then Qag n S a b else []) 0 n):=fun a o o1 ha ho=>by
  have:=Vu (n:=n) (k0:=0) (m:=6) (c:=500) (by omega) (by omega) (fun k (x:List (Int × Int × Int))=>(k,x)) (body:=Yy (Qg n S) ((a:Int),o1)) (fun b=>if b < n then Qag n S a b else []) id (fun b=>by
    split
    ·have:=Qgm (n:=n) (S:=S) (a:=a) (b:=b); omega
    ·simp) ho
   (fun k x _ h2 hx=>by
    unfold Yy
    dsimp only
    rw [hlen,if_pos (dlt h2),Qmm (by omega),inner a k x o1 x ha h2 (by omega),Option.bind_some,if_pos h2])
   (fun x=>by unfold Yy; dsimp only; rw [hlen,if_neg (nlt n)]; rfl)
  exact this
 have midl:∀a,(apL (fun b=>if b < n then Qag n S a b else []) 0 n).length≤36:=fun a=>by
  have:=Z6 (L:=fun b=>if b < n then Qag n S a b else []) (k0:=0) (m:=6) (fun b=>by
   split
   ·have:=Qgm (n:=n) (S:=S) (a:=a) (b:=b); omega
   ·simp) n
  omega
 have outer:=Vu (n:=n) (k0:=0) (m:=36) (c:=0) (by omega) (by omega) (fun k (x:List (Int × Int × Int))=>(k,x)) (body:=V2 (Qg n S))
  (fun a=>apL (fun b=>if b < n then Qag n S a b else []) 0 n) id midl (out:=[]) (by simp)
  (fun k o _ hk ho=>by
   unfold V2
   dsimp only
   have:=mid k o o hk (by omega)
   rw [show ((0:Nat):Int)=0 from rfl] at this
   rw [hlen,if_pos (dlt hk),this,Option.bind_some])
  (fun o=>by unfold V2; dsimp only; rw [hlen,if_neg (nlt n)]; rfl)
 unfold Vy
 rw [show ((0:Nat):Int)=0 from rfl] at outer
 rw [outer,Option.bind_some,List.nil_append,Nat.sub_zero,Qt1]
 show some (apL _ 0 n)=_
 congr 1
 exact Zf n fun a _ ha=>Zf n fun b _ hb=>by rw [if_pos (by omega)]
theorem Qgz {α:Type} [DecidableEq α] {a b:List α} (hl:a.length=b.length) (ha:a.length < 1000000) {body:Int→Option (Qf Int (Unit ⊕ Unit))} (ne:α→α→Bool) (hne:∀x y,ne x y=!decide (x=y))
  (hb:∀s,body s=if (decide (s < (a.length:Int)))=true then (lkI a s).bind fun x=>(lkI b s).bind fun y=>if ne x y=true then some (.done (Sum.inl ())) else some (.next (zw (s+1))) else some (.done (Sum.inr ()))) :
  Qb fuel body 0=some (if a=b then .inr () else .inl ()):=by
 rcases Qgy (n:=a.length) (by omega) (fun k=>a[k]?=b[k]?) (fun i (_:Unit)=>i) (body:=body) (fun _=>()) (.inr ()) (.inl ())
  (fun k hk _ hg=>by
   have h2:k < b.length:=by omega
   rw [hb,if_pos (dlt hk),Zo hk,Option.bind_some,Zo h2,Option.bind_some,if_neg (by
    rw [hne]
    rw [List.getElem?_eq_getElem hk,List.getElem?_eq_getElem h2] at hg
    simpa using hg)])
  (fun k hk _ hg=>by
   have h2:k < b.length:=by omega
   rw [hb,if_pos (dlt hk),Zo hk,Option.bind_some,Zo h2,Option.bind_some,if_pos (by
    rw [hne]
    rw [List.getElem?_eq_getElem hk,List.getElem?_eq_getElem h2] at hg
    simpa using hg)])
  (fun _=>by rw [hb,if_neg (nlt _)]) with ⟨hg,h⟩ | ⟨hg,h⟩
 ·rw [show ((0:Nat):Int)=0 from rfl] at h
  rw [h]
  have:a=b:=List.ext_getElem? fun k=>by
   by_cases hk:k < a.length
   ·exact hg k hk
   ·rw [List.getElem?_eq_none (by omega),List.getElem?_eq_none (by omega)]
  rw [if_pos this]
 ·rw [show ((0:Nat):Int)=0 from rfl] at h
  rw [h,if_neg (fun e=>hg fun k _=>by rw [e])]
theorem ne2 (x y:Int × Int):(!((x.1==y.1) && ((x.2==y.2) && true)))=!decide (x=y):=by
 obtain ⟨a,b⟩:=x; obtain ⟨c,d⟩:=y
 congr 1; rw [Bool.eq_iff_iff]; simp
theorem ne3 (x y:Int × Int × Int):(!((x.1==y.1) && ((x.2.1==y.2.1) && ((x.2.2==y.2.2) && true))))=!decide (x=y):=by
 obtain ⟨a,b,e⟩:=x; obtain ⟨c,d,f⟩:=y
 congr 1; rw [Bool.eq_iff_iff]; simp
theorem Qdv {α:Type} {a b:List α}:(((a.length:Int) != (b.length:Int))=true)↔¬ a.length=b.length:=by
 rw [bne_iff_ne]; exact not_congr ⟨fun h=>by exact_mod_cast h,fun h=>by rw [h]⟩
theorem Qkf {a b:List (Int × Int)} (ha:a.length < 1000000):X7 a b=some (decide (a=b)):=by
 unfold X7
 by_cases hl:a.length=b.length
 ·rw [if_neg (fun h=>Qdv.1 h hl),Qgz hl ha (body:=Qcm a b) _ ne2 (fun s=>rfl),Option.bind_some]
  by_cases e:a=b
  ·simp [e]
  ·simp [e]
 ·rw [if_pos (Qdv.2 hl)]
  have:¬ a=b:=fun e=>hl (by rw [e])
  simp [this]
theorem Qg0 {a b:List (Int × Int × Int)} (ha:a.length < 1000000):Va a b=some (decide (a=b)):=by
 unfold Va
 by_cases hl:a.length=b.length
 ·rw [if_neg (fun h=>Qdv.1 h hl),Qgz hl ha (body:=Qa7 a b) _ ne3 (fun s=>rfl),Option.bind_some]
  by_cases e:a=b
  ·simp [e]
  ·simp [e]
 ·rw [if_pos (Qdv.2 hl)]
  have:¬ a=b:=fun e=>hl (by rw [e])
  simp [this]
theorem Qwb {a b:List (Int × Int × Int)} (ha:a.length < 1000000):Zs a b=some (decide (a=b)):=by
 unfold Zs
 by_cases hl:a.length=b.length
 ·rw [if_neg (fun h=>Qdv.1 h hl),Qgz hl ha (body:=J4 a b) _ ne3 (fun s=>rfl),Option.bind_some]
  by_cases e:a=b
  ·simp [e]
  ·simp [e]
 ·rw [if_pos (Qdv.2 hl)]
  have:¬ a=b:=fun e=>hl (by rw [e])
  simp [this]
theorem Qvz {a b:List Int} (ha:a.length < 1000000):Xq a b=some (decide (a=b)):=by
 unfold Xq
 by_cases hl:a.length=b.length
 ·rw [if_neg (fun h=>Qdv.1 h hl),Qgz hl ha (body:=Ki a b) (fun x y=>x != y) (fun x y=>by rw [Bool.eq_iff_iff]; simp) (fun s=>rfl),Option.bind_some]
  by_cases e:a=b
  ·simp [e]
  ·simp [e]
 ·rw [if_pos (Qdv.2 hl)]
  have:¬ a=b:=fun e=>hl (by rw [e])
  simp [this]
theorem Q1g {n:Nat} {N:Nat → Nat → Bool} (hn:n≤7):(prs n N).length≤49:=by
 unfold prs
 rw [Zf n (L':=fun i=>if i < n then apL (fun j=>if N i j=true then [((i:Int),(j:Int))] else []) (i+1) (n - (i+1)) else []) fun i _ h=>by rw [if_pos (by omega)]]
 have:=Z6 (L:=fun i=>if i < n then apL (fun j=>if N i j=true then [((i:Int),(j:Int))] else []) (i+1) (n - (i+1)) else []) (k0:=0) (m:=7) (fun i=>by
   split
   ·have:=Z6 (L:=fun j=>if N i j=true then [((i:Int),(j:Int))] else []) (k0:=i+1) (m:=1) (fun _=>Js) (n - (i+1)); omega
   ·simp) n
 omega
theorem Qpv {n:Nat} {S:Nat → Nat} (hn:n≤7):(cls n S).length≤343:=by
 rw [Qt1]
 have h1:∀a,(apL (fun b=>Qag n S a b) 0 n).length≤49:=fun a=>by
  have:=Z6 (L:=fun b=>Qag n S a b) (k0:=0) (m:=7) (fun b=>by have:=Qgm (n:=n) (S:=S) (a:=a) (b:=b); omega) n
  omega
 have:=Z6 (k0:=0) h1 n
 omega
end Go.Ab
namespace Go.Ab
open Go
set_option maxRecDepth 100000
set_option maxHeartbeats 1000000
def U64 (l:List Int):Prop:=∀x∈l,0≤x∧x < 18446744073709551616
theorem Q43 {l:List Int} (h:U64 l):∃S,l=Qg l.length S∧L64 l.length S:=by
 refine ⟨fun v=>((l[v]?).getD 0).toNat,?_,fun v hv=>?_⟩
 ·apply List.ext_getElem?
  intro k
  by_cases hk:k < l.length
  ·have:=h l[k] (List.getElem_mem hk)
   simp only [Qg,Qc9,List.getElem?_map,List.getElem?_range hk,Option.map_some,List.getElem?_eq_getElem hk,Option.getD_some]
   congr 1; omega
  ·rw [List.getElem?_eq_none (by omega),List.getElem?_eq_none (by rw [Z3]; omega)]
 ·have hv':v < l.length:=hv
  have:=h l[v] (List.getElem_mem hv')
  show ((l[v]?).getD 0).toNat < _
  rw [List.getElem?_eq_getElem hv',Option.getD_some]
  omega
theorem Qe3 {n:Nat} {S:Nat → Nat} (r:Nat → Nat) (h:∀v,v < n→∀j,(S v).testBit j=true→j < n∧r j < r v):Gd n S:=by
 refine ⟨fun v hv j hj=>(h v hv j hj).1,fun v hv hb=>?_⟩
 have hT:Clo n S (msk n fun j=>decide (r j < r v)):=fun w hw hb j hj=>by
  rw [Z7] at hb ⊢
  simp only [Bool.and_eq_true,decide_eq_true_eq] at hb ⊢
  have:=h w hw j hj
  exact ⟨this.1,by omega⟩
 have hs:Xm (S v) (msk n fun j=>decide (r j < r v)):=fun j hj=>by
  rw [Z7]
  simp only [Bool.and_eq_true,decide_eq_true_eq]
  exact h v hv j hj
 have:=Qa0 hT hs n v hb
 rw [Z7] at this
 simp at this
theorem Qbt {α:Type} {d:α} {body:Int × List α→Option (Qf (Int × List α) (List α))} {A i:Nat} {aI:Int} (hA:A≤i) (hi:i < 100000) (ha:aI=(A:Int)) {l:List α} (hl:l.length=i)
  (hb:∀s,body s=if (decide (s.1 > aI))=true then (lkI s.2 (zw (s.1 - 1))).bind fun a=>(lkI s.2 s.1).bind fun _=>some (.next (zw (s.1 - 1),s.2.set (Int.toNat s.1) a)) else some (.done s.2)) :
  Qb fuel body ((i:Int),l++[d])=some ((l++[d]).take (A+1)++l.drop A):=by
 subst ha
 have key:∀(j N k:Nat),k=A+j→k≤i→j < N→Qb N body ((k:Int),(l++[d]).take (k+1)++l.drop k)=some ((l++[d]).take (A+1)++l.drop A):=by
  intro j
  induction j with
  | zero =>
   intro N k hk hki hN
   obtain ⟨N,rfl⟩:∃M,N=M+1:=⟨N - 1,by omega⟩
   have:k=A:=by omega
   subst this
   unfold Qb
   rw [hb]
   dsimp only
   rw [if_neg (by simp)]
  | succ j ih =>
   intro N k hk hki hN
   obtain ⟨N,rfl⟩:∃M,N=M+1:=⟨N - 1,by omega⟩
   obtain ⟨k,rfl⟩:∃m,k=m+1:=⟨k - 1,by omega⟩
   have hkl:k < l.length:=by omega
   have hlen:((l++[d]).take (k+1+1)++l.drop (k+1)).length=i+1:=by simp; omega
   have hg:lkI ((l++[d]).take (k+1+1)++l.drop (k+1)) (k:Int)=some l[k]:=by
    rw [Zo (by omega)]
    congr 1
    rw [List.getElem_append_left (by simp; omega),List.getElem_take,List.getElem_append_left hkl]
   have hg2:∃x,lkI ((l++[d]).take (k+1+1)++l.drop (k+1)) ((k+1:Nat):Int)=some x:=⟨_,Zo (by omega)⟩
   obtain ⟨x,hx⟩:=hg2
   have e1:zw (((k+1:Nat):Int) - 1)=(k:Int):=by rw [w64 (by omega)]; omega
   have hset:((l++[d]).take (k+1+1)++l.drop (k+1)).set (k+1) l[k]=(l++[d]).take (k+1)++l.drop k:=by
    apply List.ext_getElem
    ·simp; omega
    ·intro q h1 h2
     rw [List.getElem_set]
     by_cases e:k+1=q
     ·subst e
      rw [if_pos rfl,List.getElem_append_right (by simp; omega)]
      simp only [List.length_take,List.length_append,List.length_singleton,List.getElem_drop]
      congr 1; omega
     ·rw [if_neg e]
      by_cases h3:q < k+1
      ·rw [List.getElem_append_left (by simp; omega),List.getElem_append_left (by simp; omega),List.getElem_take,List.getElem_take]
      ·have hq:q < i+1:=by simpa [hl] using (by rw [List.length_set] at h1; omega:q < i+1)
       rw [List.getElem_append_right (by simp; omega),List.getElem_append_right (by simp; omega)]
       simp only [List.length_take,List.length_append,List.length_singleton,List.getElem_drop]
       congr 1; omega
   unfold Qb
   rw [hb]
   dsimp only
   rw [if_pos (by simp; omega),e1,hg,Option.bind_some,hx,Option.bind_some]
   dsimp only
   rw [Int.toNat_natCast,hset]
   exact ih N k (by omega) (by omega) (by omega)
 have h:=key (i - A) fuel i (by omega) (Nat.le_refl _) (by unfold fuel; omega)
 rw [←h]
 congr 2
 rw [List.take_of_length_le (by simp; omega),List.drop_eq_nil_of_le (by omega),List.append_nil]
def Qai {α:Type} (A:Nat) (x:α) (l:List α):List α:=l.take A++x::l.drop A
theorem Qcw {α:Type} {d:α} {A i:Nat} (hA:A≤i) {l:List α} (hl:l.length=i) (x:α):((l++[d]).take (A+1)++l.drop A).set A x=Qai A x l:=by
 unfold Qai
 have e:(l++[d]).take (A+1)=l.take A++[(l++[d])[A]'(by simp; omega)]:=by
  rw [List.take_succ_eq_append_getElem (by simp; omega),List.take_append_of_le_length (by omega)]
 rw [e,List.append_assoc,List.set_append,if_neg (by simp; omega)]
 simp only [List.length_take]
 rw [show A - min A l.length=0 by omega]
 rfl
theorem Qdg {α:Type} {d:α} {A i:Nat} (hA:A≤i) {l:List α} (hl:l.length=i):∃x,lkI ((l++[d]).take (A+1)++l.drop A) (A:Int)=some x:=⟨_,Zo (by simp; omega)⟩
theorem Qc5 {o:Int} {k:Nat} (h:0≤o∧o < 256) (hk:0 < k):Int.tmod (zw o) (k:Int)=((o.toNat % k:Nat):Int):=by
 rw [w64 (by omega),Q0d h.1]
 obtain ⟨m,rfl⟩:∃m:Nat,o=(m:Int):=⟨o.toNat,by omega⟩
 simp
structure Qmw (d:Qc):Prop where
 n:0≤d.N∧d.N < 256
 o0:0≤d.Order.1∧d.Order.1 < 256
 o1:0≤d.Order.2.1∧d.Order.2.1 < 256
 o2:0≤d.Order.2.2.1∧d.Order.2.2.1 < 256
 o3:0≤d.Order.2.2.2.1∧d.Order.2.2.2.1 < 256
 o4:0≤d.Order.2.2.2.2.1∧d.Order.2.2.2.2.1 < 256
 o5:0≤d.Order.2.2.2.2.2∧d.Order.2.2.2.2.2 < 256
structure Qer (i:Nat) (l:List Int):Prop where
 len:l.length=i
 inn:∀x∈l,∃a:Nat,a < i∧x=(a:Int)
 nod:l.Nodup
theorem Qdf {i A:Nat} {l:List Int} (h:Qer i l) (hA:A≤i):Qer (i+1) (Qai A (i:Int) l):=by
 have hp:(Qai A (i:Int) l).Perm ((i:Int)::l):=by
  unfold Qai
  refine List.perm_middle.trans ?_
  rw [List.take_append_drop]
 refine ⟨by rw [hp.length_eq]; simp [h.len],fun x hx=>?_,?_⟩
 ·rcases List.mem_cons.1 (hp.mem_iff.1 hx) with rfl | hx
  ·exact ⟨i,by omega,rfl⟩
  ·obtain ⟨a,h1,h2⟩:=h.inn x hx
   exact ⟨a,by omega,h2⟩
 ·rw [hp.nodup_iff,List.nodup_cons]
  refine ⟨fun hx=>?_,h.nod⟩
  obtain ⟨a,h1,h2⟩:=h.inn _ hx
  omega
theorem Qwc {d:Qc} (hd:Qmw d) {m N:Int} (hN:zw (1+(Int.tmod (zw (d.N)) m))=N) {i:Nat} (hi:i < 6) (hiN:(i:Int) < N) {l:List Int} (h:Qer i l) :
  ∃l',Xg d m ((i:Int),l)=some (.next (zw ((i:Int)+1),l'))∧Qer (i+1) l':=by
 have hll:(l++([0]:List Int)).length*8≤140737488355328:=by rw [List.length_append,h.len]; simp; omega
 have hi':i=0∨i=1∨i=2∨i=3∨i=4∨i=5:=by omega
 unfold Xg
 dsimp only
 rw [hN,if_pos (decide_eq_true hiN)]
 rcases hi' with rfl | rfl | rfl | rfl | rfl | rfl
 ·have hm:=Qc5 hd.o0 (k:=1) (by omega)
  have hA:(d.Order.1).toNat % 1≤0:=by omega
  have hw:Qb fuel (Qaz d) ((0:Int),l++([0]:List Int))=some ((l++[0]).take ((d.Order.1).toNat % 1+1)++l.drop ((d.Order.1).toNat % 1)):=Qbt (i:=0) hA (by omega) hm h.len (fun s=>rfl)
  obtain ⟨x,hx⟩:=Qdg hA h.len
  have hm':Int.tmod (zw (d.Order.1)) 1=(((d.Order.1).toNat % 1:Nat):Int):=hm
  refine ⟨Qai ((d.Order.1).toNat % 1) 0 l,?_,Qdf h hA⟩
  rw [if_pos (by decide),if_pos hll,hw,Option.bind_some,hm',hx,Option.bind_some,Option.bind_some,Int.toNat_natCast,Qcw hA h.len]
  rfl
 ·have hm:=Qc5 hd.o1 (k:=2) (by omega)
  have hA:(d.Order.2.1).toNat % 2≤1:=by omega
  have hw:Qb fuel (Qa6 d) ((1:Int),l++([0]:List Int))=some ((l++[0]).take ((d.Order.2.1).toNat % 2+1)++l.drop ((d.Order.2.1).toNat % 2)):=Qbt (i:=1) hA (by omega) hm h.len (fun s=>rfl)
  obtain ⟨x,hx⟩:=Qdg hA h.len
  have hm':Int.tmod (zw (d.Order.2.1)) 2=(((d.Order.2.1).toNat % 2:Nat):Int):=hm
  refine ⟨Qai ((d.Order.2.1).toNat % 2) 1 l,?_,Qdf h hA⟩
  rw [if_neg (by decide),if_pos (by decide),if_pos hll,hw,Option.bind_some,hm',hx,Option.bind_some,Option.bind_some,Int.toNat_natCast,Qcw hA h.len]
  rfl
 ·have hm:=Qc5 hd.o2 (k:=3) (by omega)
  have hA:(d.Order.2.2.1).toNat % 3≤2:=by omega
  have hw:Qb fuel (Qa5 d) ((2:Int),l++([0]:List Int))=some ((l++[0]).take ((d.Order.2.2.1).toNat % 3+1)++l.drop ((d.Order.2.2.1).toNat % 3)):=Qbt (i:=2) hA (by omega) hm h.len (fun s=>rfl)
  obtain ⟨x,hx⟩:=Qdg hA h.len
  have hm':Int.tmod (zw (d.Order.2.2.1)) 3=(((d.Order.2.2.1).toNat % 3:Nat):Int):=hm
  refine ⟨Qai ((d.Order.2.2.1).toNat % 3) 2 l,?_,Qdf h hA⟩
  rw [if_neg (by decide),if_neg (by decide),if_pos (by decide),if_pos hll,hw,Option.bind_some,hm',hx,Option.bind_some,Option.bind_some,Int.toNat_natCast,Qcw hA h.len]
  rfl
 ·have hm:=Qc5 hd.o3 (k:=4) (by omega)
  have hA:(d.Order.2.2.2.1).toNat % 4≤3:=by omega
  have hw:Qb fuel (Qbc d) ((3:Int),l++([0]:List Int))=some ((l++[0]).take ((d.Order.2.2.2.1).toNat % 4+1)++l.drop ((d.Order.2.2.2.1).toNat % 4)):=Qbt (i:=3) hA (by omega) hm h.len (fun s=>rfl)
  obtain ⟨x,hx⟩:=Qdg hA h.len
  have hm':Int.tmod (zw (d.Order.2.2.2.1)) 4=(((d.Order.2.2.2.1).toNat % 4:Nat):Int):=hm
  refine ⟨Qai ((d.Order.2.2.2.1).toNat % 4) 3 l,?_,Qdf h hA⟩
  rw [if_neg (by decide),if_neg (by decide),if_neg (by decide),if_pos (by decide),if_pos hll,hw,Option.bind_some,hm',hx,Option.bind_some,Option.bind_some,Int.toNat_natCast,Qcw hA h.len]
  rfl
 ·have hm:=Qc5 hd.o4 (k:=5) (by omega)
  have hA:(d.Order.2.2.2.2.1).toNat % 5≤4:=by omega
  have hw:Qb fuel (Qa8 d) ((4:Int),l++([0]:List Int))=some ((l++[0]).take ((d.Order.2.2.2.2.1).toNat % 5+1)++l.drop ((d.Order.2.2.2.2.1).toNat % 5)):=Qbt (i:=4) hA (by omega) hm h.len (fun s=>rfl)
  obtain ⟨x,hx⟩:=Qdg hA h.len
  have hm':Int.tmod (zw (d.Order.2.2.2.2.1)) 5=(((d.Order.2.2.2.2.1).toNat % 5:Nat):Int):=hm
  refine ⟨Qai ((d.Order.2.2.2.2.1).toNat % 5) 4 l,?_,Qdf h hA⟩
  rw [if_neg (by decide),if_neg (by decide),if_neg (by decide),if_neg (by decide),if_pos (by decide),if_pos hll,hw,Option.bind_some,hm',hx,Option.bind_some,Option.bind_some,Int.toNat_natCast,Qcw hA h.len]
  rfl
 ·have hm:=Qc5 hd.o5 (k:=6) (by omega)
  have hA:(d.Order.2.2.2.2.2).toNat % 6≤5:=by omega
  have hw:Qb fuel (Qa1 d) ((5:Int),l++([0]:List Int))=some ((l++[0]).take ((d.Order.2.2.2.2.2).toNat % 6+1)++l.drop ((d.Order.2.2.2.2.2).toNat % 6)):=Qbt (i:=5) hA (by omega) hm h.len (fun s=>rfl)
  obtain ⟨x,hx⟩:=Qdg hA h.len
  have hm':Int.tmod (zw (d.Order.2.2.2.2.2)) 6=(((d.Order.2.2.2.2.2).toNat % 6:Nat):Int):=hm
  refine ⟨Qai ((d.Order.2.2.2.2.2).toNat % 6) 5 l,?_,Qdf h hA⟩
  rw [if_neg (by decide),if_neg (by decide),if_neg (by decide),if_neg (by decide),if_neg (by decide),if_pos (by decide),if_pos hll,hw,Option.bind_some,hm',hx,Option.bind_some,Option.bind_some,Int.toNat_natCast,Qcw hA h.len]
  rfl
theorem Qx4 {d:Qc} (hd:Qmw d) {m:Int} {n:Nat} (hn:n≤6) (hN:zw (1+(Int.tmod (zw (d.N)) m))=(n:Int)):∃l,Qb fuel (Xg d m) (0,([]:List Int))=some l∧Qer n l:=by
 have h:=Kl (n:=n) (k0:=0) (by omega) (by omega) (fun i (x:List Int)=>(i,x)) (body:=Xg d m) Qer (Qer n)
  (fun k t _ hk hI=>by
   obtain ⟨l',h1,h2⟩:=Qwc hd hN (by omega) (by omega) hI
   exact .inl ⟨l',h1,h2⟩)
  (fun t ht=>by
   refine ⟨t,?_,ht⟩
   unfold Xg
   dsimp only
   rw [hN,if_neg (nlt n)]) [] ⟨rfl,fun x hx=>by simp at hx,List.nodup_nil⟩
 exact h
def Qgs (n:Nat) (l:List Int) (S:Nat → Nat):Prop:=∀v,v < n→∀x,(S v).testBit x=true→∃a b:Nat,a < b∧b < n∧l[a]?=some (x:Int)∧l[b]?=some (v:Int)
theorem Qt3 {n:Nat} {l:List Int} {S:Nat → Nat} (hp:Qer n l) (h:Qgs n l S):Gd n S:=by
 have inj:∀a b:Nat,∀x:Int,l[a]?=some x→l[b]?=some x→a=b:=fun a b x h1 h2=>by
  have ha:=(List.getElem?_eq_some_iff.1 h1)
  have hb:=(List.getElem?_eq_some_iff.1 h2)
  obtain ⟨ha,ha2⟩:=ha
  obtain ⟨hb,hb2⟩:=hb
  have:=List.pairwise_iff_getElem.1 hp.nod
  rcases Nat.lt_trichotomy a b with h | h | h
  ·exact absurd (ha2.trans hb2.symm) (this a b ha hb h)
  ·exact h
  ·exact absurd (hb2.trans ha2.symm) (this b a hb ha h)
 have hr:∃r:Nat → Nat,∀a x:Nat,l[a]?=some (x:Int)→r x=a:=by
  classical
  refine ⟨fun x=>if h:∃a,l[a]?=some (x:Int) then Classical.choose h else 0,fun a x h=>?_⟩
  have:∃a,l[a]?=some (x:Int):=⟨a,h⟩
  simp only [dif_pos this]
  exact inj _ _ _ (Classical.choose_spec this) h
 obtain ⟨r,hr⟩:=hr
 refine Qe3 r fun v hv j hj=>?_
 obtain ⟨a,b,h1,h2,h3,h4⟩:=h v hv j hj
 rw [hr a j h3,hr b v h4]
 obtain ⟨c,h5,h6⟩:=hp.inn (j:Int) (List.mem_of_getElem? h3)
 exact ⟨by omega,h1⟩
theorem Qnr {n v:Nat} {S:Nat → Nat} {y:Nat}:(Qg n S).set v (y:Int)=Qg n fun u=>if u=v then y else S u:=by
 apply List.ext_getElem
 ·simp [Qg,Qc9]
 ·intro k h1 h2
  rw [List.getElem_set]
  simp only [Qg,Qc9,List.getElem_map,List.getElem_range]
  by_cases e:v=k
  ·subst e; simp
  ·have:¬ k=v:=fun h=>e h.symm
   simp [e,this]
theorem Qx9 {d:Qc} {m:Int} {n:Nat} (hn:n≤6) (hN:zw (1+(Int.tmod (zw (d.N)) m))=(n:Int)) {l:List Int} (hp:Qer n l) (hn1:1≤n) :
  ∃S,Qb fuel (Yd d m l) (0,1,List.replicate n (0:Int))=some (Qg n S)∧Qgs n l S:=by
 have hlen:∀S,(Qg n S).length=n:=fun S=>Z3
 have inner:∀(j B:Nat) (S:Nat → Nat) (s:Int × List Int),j < n→B≤100→Qgs n l S→∃r:Int × List Int,Qb fuel (Ye (s.1,(j:Int),s.2) d l) ((B:Int),((0:Nat):Int),Qg n S)=some r∧∃(B':Nat) (S':Nat → Nat),r=((B':Int),Qg n S')∧B'≤B+j∧Qgs n l S':=fun j B S s hj hB hS =>
  Kl (n:=j) (k0:=0) (by omega) (by omega) (fun i (x:Int × List Int)=>(x.1,i,x.2)) (body:=Ye (s.1,(j:Int),s.2) d l)
   (fun k t=>∃(B':Nat) (S':Nat → Nat),t=((B':Int),Qg n S')∧B'≤B+k∧Qgs n l S') (fun r=>∃(B':Nat) (S':Nat → Nat),r=((B':Int),Qg n S')∧B'≤B+j∧Qgs n l S')
   (fun k t _ hk hI=>by
    left
    obtain ⟨B',S',rfl,hB',hS'⟩:=hI
    unfold Ye
    try dsimp only
    rw [if_pos (dlt hk),if_pos (Yo B'),Qso (by omega:B' < 9223372036854775807)]
    split
    ·have hjl:j < l.length:=by rw [hp.len]; exact hj
     have hkl:k < l.length:=by omega
     obtain ⟨v,hv,hv2⟩:=hp.inn l[j] (List.getElem_mem hjl)
     obtain ⟨x,hx,hx2⟩:=hp.inn l[k] (List.getElem_mem hkl)
     rw [Zo hjl,Option.bind_some,hv2,Z4 hv,Option.bind_some,Zo hkl,Option.bind_some,hx2,if_pos (Yo x),Int.toNat_natCast]
     have hg:=Qt3 hp hS'
     have h64:=Qqh (by omega) hg
     rw [Qp7 (by omega),Qoh (h64 v hv) (Qn7 (by omega)),Qnr]
     refine ⟨_,rfl,B'+1,_,rfl,by omega,fun u hu y hy=>?_⟩
     try dsimp only at hy
     by_cases e:u=v
     ·subst e
      rw [if_pos rfl,Nat.testBit_or,Qc1,Bool.or_eq_true] at hy
      rcases hy with hy | hy
      ·exact hS' u hu y hy
      ·have:=of_decide_eq_true hy
       subst this
       exact ⟨k,j,hk,hj,by rw [List.getElem?_eq_getElem hkl,hx2],by rw [List.getElem?_eq_getElem hjl,hv2]⟩
     ·rw [if_neg e] at hy
      exact hS' u hu y hy
    ·exact ⟨_,rfl,B'+1,S',rfl,by omega,hS'⟩)
   (fun t ht=>by
    obtain ⟨B',S',rfl,hB',hS'⟩:=ht
    unfold Ye
    dsimp only
    rw [if_neg (nlt j)]
    exact ⟨_,rfl,B',S',rfl,hB',hS'⟩) ((B:Int),Qg n S) ⟨B,S,rfl,by omega,hS⟩
 have h:=Kl (n:=n) (k0:=1) hn1 (by omega) (fun i (x:Int × List Int)=>(x.1,i,x.2)) (body:=Yd d m l)
  (fun k t=>∃(B':Nat) (S':Nat → Nat),t=((B':Int),Qg n S')∧B'≤6*k∧Qgs n l S') (fun r=>∃S,r=Qg n S∧Qgs n l S)
  (fun k t h1 hk hI=>by
   left
   obtain ⟨B',S',rfl,hB',hS'⟩:=hI
   obtain ⟨r,h2,B2,S2,rfl,hB2,hS2⟩:=inner k B' S' ((B':Int),Qg n S') hk (by omega) hS'
   unfold Yd
   dsimp only
   try dsimp only at h2
   rw [show ((0:Nat):Int)=0 from rfl] at h2
   rw [hN,if_pos (dlt hk),h2,Option.bind_some]
   exact ⟨_,rfl,B2,S2,rfl,by omega,hS2⟩)
  (fun t ht=>by
   obtain ⟨B',S',rfl,hB',hS'⟩:=ht
   unfold Yd
   dsimp only
   rw [hN,if_neg (nlt n)]
   exact ⟨_,rfl,S',rfl,hS'⟩) (0,List.replicate n (0:Int)) ⟨0,fun _=>0,by
    have:List.replicate n (0:Int)=Qg n fun _=>0:=by
     apply List.ext_getElem
     ·simp [Qg,Qc9]
     ·intro k h1 h2; simp [Qg,Qc9]
    rw [this]; rfl,by omega,fun v _ x hx=>by simp at hx⟩
 obtain ⟨r,h1,S,rfl,h2⟩:=h
 exact ⟨S,h1,h2⟩
theorem Qx1 {d:Qc} (hd:Qmw d) {m:Nat} (hm:1≤m∧m≤6):∃S,Zy d (m:Int)=some (Qg (1+d.N.toNat % m) S)∧Gd (1+d.N.toNat % m) S∧1+d.N.toNat % m≤m:=by
 have hlt:d.N.toNat % m < m:=Nat.mod_lt _ (by omega)
 generalize hn:1+d.N.toNat % m=n at *
 have hN:zw (1+(Int.tmod (zw (d.N)) (m:Int)))=(n:Int):=by
  rw [Qc5 hd.n (by omega),w64 (by omega)]; omega
 obtain ⟨l,h1,h2⟩:=Qx4 hd (by omega) hN
 obtain ⟨S,h3,h4⟩:=Qx9 (by omega) hN h2 (by omega)
 refine ⟨S,?_,Qt3 h2 h4,by omega⟩
 unfold Zy
 rw [if_pos (by omega),h1,Option.bind_some,hN,if_pos (by omega),Int.toNat_natCast,h3]
 rfl
end Go.Ab
namespace Go.Ab
open Go
theorem Qn4 {cs:List AV} (h:WT (.int .u8) cs):∃a:Int,cs=[(AV.int .u8) a]∧(Lit.int .u8 a).wf=true:=by
 obtain ⟨n,rfl,w⟩:=h
 exact ⟨n,rfl,w⟩
theorem Q5n {cs:List AV} (h:WT (.cat (.int .u8) (.cat (.int .u8) (.cat (.int .u8) (.cat (.int .u8) (.cat (.int .u8) (.cat (.int .u8) .unit)))))) cs):∃x:(Int × Int × Int × Int × Int × Int),AV.agg cs=(fun x:(Int × Int × Int × Int × Int × Int)=>AV.agg [.int .u8 x.1,.int .u8 x.2.1,.int .u8 x.2.2.1,.int .u8 x.2.2.2.1,.int .u8 x.2.2.2.2.1,.int .u8 x.2.2.2.2.2]) x∧((Lit.int .u8 x.1).wf=true∧(Lit.int .u8 x.2.1).wf=true∧(Lit.int .u8 x.2.2.1).wf=true∧(Lit.int .u8 x.2.2.2.1).wf=true∧(Lit.int .u8 x.2.2.2.2.1).wf=true∧(Lit.int .u8 x.2.2.2.2.2).wf=true):=by
 obtain ⟨_,_,rfl,a0,r0⟩:=h
 obtain ⟨v0,e0,w0⟩:=Qn4 a0
 cases e0
 obtain ⟨_,_,rfl,a1,r1⟩:=r0
 obtain ⟨v1,e1,w1⟩:=Qn4 a1
 cases e1
 obtain ⟨_,_,rfl,a2,r2⟩:=r1
 obtain ⟨v2,e2,w2⟩:=Qn4 a2
 cases e2
 obtain ⟨_,_,rfl,a3,r3⟩:=r2
 obtain ⟨v3,e3,w3⟩:=Qn4 a3
 cases e3
 obtain ⟨_,_,rfl,a4,r4⟩:=r3
 obtain ⟨v4,e4,w4⟩:=Qn4 a4
 cases e4
 obtain ⟨_,_,rfl,a5,r5⟩:=r4
 obtain ⟨v5,e5,w5⟩:=Qn4 a5
 cases e5
 cases r5
 exact ⟨(v0,v1,v2,v3,v4,v5),rfl,⟨w0,w1,w2,w3,w4,w5⟩⟩
theorem Q47 {cs:List AV} (h:WT (.int .u16) cs):∃a:Int,cs=[(AV.int .u16) a]∧(Lit.int .u16 a).wf=true:=by
 obtain ⟨n,rfl,w⟩:=h
 exact ⟨n,rfl,w⟩
def J0 (x:Qc):Prop:=((Lit.int .u8 x.N).wf=true)∧(((Lit.int .u8 x.Order.1).wf=true∧(Lit.int .u8 x.Order.2.1).wf=true∧(Lit.int .u8 x.Order.2.2.1).wf=true∧(Lit.int .u8 x.Order.2.2.2.1).wf=true∧(Lit.int .u8 x.Order.2.2.2.2.1).wf=true∧(Lit.int .u8 x.Order.2.2.2.2.2).wf=true))∧((Lit.int .u16 x.Edges).wf=true)
theorem rdTharuspexref31_Draft {cs:List AV} (h:WT (.cat (.int .u8) (.cat (.cat (.int .u8) (.cat (.int .u8) (.cat (.int .u8) (.cat (.int .u8) (.cat (.int .u8) (.cat (.int .u8) .unit)))))) (.cat (.int .u16) .unit))) cs):∃x:Qc,AV.agg cs=eTharuspexref31_Draft x∧J0 x:=by
 obtain ⟨_,_,rfl,a0,r0⟩:=h
 obtain ⟨v0,e0,w0⟩:=Qn4 a0
 cases e0
 obtain ⟨_,_,rfl,a1,r1⟩:=r0
 obtain ⟨v1,e1,w1⟩:=Q5n a1
 cases e1
 obtain ⟨_,_,rfl,a2,r2⟩:=r1
 obtain ⟨v2,e2,w2⟩:=Q47 a2
 cases e2
 cases r2
 exact ⟨⟨v0,v1,v2⟩,rfl,⟨w0,w1,w2⟩⟩
theorem Q5k {cs:List AV} (h:WT (.int .u64) cs):∃a:Int,cs=[(AV.int .u64) a]∧(Lit.int .u64 a).wf=true:=by
 obtain ⟨n,rfl,w⟩:=h
 exact ⟨n,rfl,w⟩
theorem Q56 {x:AV} (h:WT (.int .u64) x.flat ∧ (if false then x=.agg x.flat else x.cell=true)):∃a:Int,x=(AV.int .u64) a∧(Lit.int .u64 a).wf=true:=by
 obtain ⟨a,h1,h2⟩:=Q5k h.1
 rw [Qy2 h.2] at h1
 exact ⟨a,(List.cons.inj h1).1,h2⟩
theorem one28 {cs:List AV} (h:WT (.slice true false 1 (.int .u64)) cs):∃a:(List Int),cs=[(eL true (AV.int .u64)) a]∧(a.length≤maxLen∧∀y0∈a,(Lit.int .u64 y0).wf=true):=by
 obtain ⟨xs,rfl,hl,hx⟩:=h
 obtain ⟨l,rfl,hr⟩:=Qzx (enc:=(AV.int .u64)) (R:=fun a=>(Lit.int .u64 a).wf=true) (fun x hm=>Q56 (hx x hm))
 exact ⟨l,rfl,by simpa using hl,hr⟩
end Go.Ab
namespace Go.Ab
open Go
set_option maxRecDepth 100000
set_option maxHeartbeats 1000000
theorem Q5e {n:Int} (h:(Lit.int .u8 n).wf=true):0≤n∧n≤255:=by
 simpa [Lit.wf,IntKind.min,IntKind.max,IntKind.bits,IntKind.signed] using h
theorem Q4f {n:Int} (h:(Lit.int .u64 n).wf=true):0≤n∧n≤18446744073709551615:=by
 simpa [Lit.wf,IntKind.min,IntKind.max,IntKind.bits,IntKind.signed] using h
theorem wf8 {n:Int} (h:(Lit.int .u8 n).wf=true):0≤n∧n < 256:=by have:=Q5e h; omega
theorem Q54 {n:Int} (h:(Lit.int .u64 n).wf=true):0≤n∧n < 18446744073709551616:=by have:=Q4f h; omega
theorem Q0j:Qef=some true:=by kernel_rfl
def Few (y:List Int):Prop:=∃n S,y=Qg n S∧n≤7∧L64 n S
theorem Qxh {l:List Int} (h:l.length≤1000):Ze l=some l:=by
 unfold Ze
 cases l with
 | nil=>rfl
 | cons c d=>simp only [Vq]; rw [if_pos (by omega)]
theorem Q2b {l:List Int} (h:U64 l):∃z,Qdr l=some z∧Few z:=by
 unfold Qdr
 have hm:(if 7 < (l.length:Int) then 7 else (l.length:Int))=((min l.length 7:Nat):Int):=by split <;> omega
 rw [hm,if_pos (by omega)]
 have hs:sub l 0 ((min l.length 7:Nat):Int)=l.take (min l.length 7):=by
  unfold sub
  simp
 rw [hs,Qxh (by simp; omega),Option.bind_some]
 refine ⟨_,rfl,?_⟩
 have hu:U64 (l.take (min l.length 7)):=fun x hx=>h x (List.mem_of_mem_take hx)
 obtain ⟨S,h1,h2⟩:=Q43 hu
 exact ⟨_,S,h1,by simp; omega,h2⟩
theorem Q5w {n:Nat} {S:Nat → Nat} (hn:n≤7) (h:L64 n S) :
  ((n≤6∧Gd n S)∧Vr (Qg n S) 6=some true∧Q5 (Qg n S)=some 0∧Yg (Qg n S)=some (prs n (near S),0)∧X8 (Qg n S)=some (cls n S,0)) ∨
  (Vr (Qg n S) 6=some false∧Q5 (Qg n S)=some 310∧Yg (Qg n S)=some ([],310)∧X8 (Qg n S)=some ([],310)):=by
 obtain ⟨c,hc,hc2⟩:=Qrb hn h
 obtain ⟨d,hd,hd2⟩:=Qqr (m:=6) hn h
 have e:d=c:=by rw [Bool.eq_iff_iff,hc2,hd2]
 subst e
 cases d with
 | true =>
  left
  obtain ⟨h1,h2⟩:=hc2.1 rfl
  refine ⟨⟨h1.2,h2⟩,hd,hc,?_,?_⟩
  ·unfold Yg
   rw [hc,Option.bind_some,if_neg (by simp),Qas h1.2 h2,Option.bind_some]
   show (Zc ⟨(n:Int),Qo (mI (nrN n S))⟩).bind _=_
   rw [Qtk h1.2]; rfl
  ·unfold X8
   rw [hc,Option.bind_some,if_neg (by simp),Qbj h1.2 h2]; rfl
 | false =>
  right
  refine ⟨hd,hc,?_,?_⟩
  ·unfold Yg
   rw [hc]; rfl
  ·unfold X8
   rw [hc]; rfl
theorem Qzo {d:Qc} (h:J0 d):Qmw d:=by
 obtain ⟨h0,⟨h1,h2,h3,h4,h5,h6⟩,_⟩:=h
 exact ⟨wf8 h0,wf8 h1,wf8 h2,wf8 h3,wf8 h4,wf8 h5,wf8 h6⟩
end Go.Ab
namespace Go.Ab
open Go
set_option maxRecDepth 100000
set_option maxHeartbeats 1000000
theorem near_symm {S:Nat → Nat} {u w:Nat}:near S u w=near S w u:=by unfold near; exact Bool.or_comm _ _
theorem Qyi {n:Nat} {S:Nat → Nat} (h:Gd n S) {u:Nat} (hu:u < n):near S u u=false:=by
 have:(S u).testBit u=false:=Bool.eq_false_iff.2 fun e=>h.acyc u hu (Qs0 n u e)
 unfold near; rw [this]; rfl
end Go.Ab
namespace Go.Ab
open Go
set_option maxRecDepth 100000
set_option maxHeartbeats 1000000
theorem Qde {n:Nat} {S:Nat → Nat} (h:Gd n S):∃r:Nat → Nat,∀v,v < n→∀j,(S v).testBit j=true→r j < r v:=by
 have e:=Qop.2 h
 obtain ⟨h1,r,M,h2,h3⟩:=Qog (n:=n) (S:=S) n
 have hall:=(Qnq h1).1 e
 exact ⟨r,fun v hv j hj=>(h3 v (hall v hv) j hj).2⟩
def V5 (S:Nat → Nat) (a b c:Nat):Bool:=(S b).testBit a && (S b).testBit c && !near S a c
theorem Qhw {n:Nat} {S:Nat → Nat} {p:Int × Int × Int}:p∈cls n S↔∃a b c:Nat,a < c∧c < n∧b < n∧V5 S a b c=true∧p=((a:Int),(b:Int),(c:Int)):=by
 unfold cls
 rw [Qaq]
 constructor
 ·rintro ⟨a,_,ha,h⟩
  obtain ⟨b,_,hb,h⟩:=(Qaq _).1 h
  obtain ⟨c,hc,hc2,h⟩:=(Qaq _).1 h
  split at h
  ·rename_i hN
   exact ⟨a,b,c,by omega,by omega,by omega,hN,List.mem_singleton.1 h⟩
  ·cases h
 ·rintro ⟨a,b,c,h1,h2,h3,h4,rfl⟩
  refine ⟨a,by omega,by omega,(Qaq _).2 ⟨b,by omega,by omega,(Qaq _).2 ⟨c,by omega,by omega,?_⟩⟩⟩
  unfold V5 at h4
  rw [if_pos h4]; simp
theorem Qip {n:Nat} {S T:Nat → Nat}:cls n S=cls n T↔∀a b c,a < c→c < n→b < n→V5 S a b c=V5 T a b c:=by
 constructor
 ·intro h a b c h1 h2 h3
  have e:∀U,((a:Int),(b:Int),(c:Int))∈cls n U↔V5 U a b c=true:=fun U=>by
   rw [Qhw]
   constructor
   ·rintro ⟨a',b',c',_,_,_,h5,h6⟩
    simp only [Prod.mk.injEq,Int.ofNat_inj] at h6
    obtain ⟨rfl,rfl,rfl⟩:=h6
    exact h5
   ·intro h5; exact ⟨a,b,c,h1,h2,h3,h5,rfl⟩
  rw [Bool.eq_iff_iff,←e S,←e T,h]
 ·intro h
  unfold cls
  refine Zf n fun a _ ha=>Zf n fun b _ hb=>Zf _ fun c h1 h2=>?_
  have:=h a b c (by omega) (by omega) (by omega)
  unfold V5 at this
  rw [this]
theorem colB_symm {S:Nat → Nat} {a b c:Nat}:V5 S a b c=V5 S c b a:=by
 unfold V5; rw [near_symm,Bool.and_comm ((S b).testBit a)]
theorem Qpn {n:Nat} {S T:Nat → Nat} (h:cls n S=cls n T) (hS:Gd n S) (hT:Gd n T) {a b c:Nat} (hac:a≠c) (ha:a < n) (hc:c < n) (hb:b < n):V5 S a b c=V5 T a b c:=by
 rcases Nat.lt_or_gt_of_ne hac with h1 | h1
 ·exact Qip.1 h a b c h1 hc hb
 ·rw [colB_symm,colB_symm (S:=T)]; exact Qip.1 h c b a h1 ha hb
section
variable {n i j:Nat} {S:Nat → Nat} (hn:n≤7) (h:Gd n S) (hi:i < n) (hj:j < n) (hij:i≠j) (he:(S j).testBit i=true)
include hn h hi hj hij he
end
theorem Qy5 {n:Nat} {S T:Nat → Nat} (h:Qg n S=Qg n T) {v:Nat} (hv:v < n):S v=T v:=by
 have h1:=Z4 (n:=n) (w:=S) hv
 rw [h,Z4 hv] at h1
 exact (Int.ofNat_inj.1 (Option.some.inj h1)).symm
end Go.Ab
namespace Go.Ab
open Go
set_option maxRecDepth 100000
set_option maxHeartbeats 1000000
def Yi (n:Nat) (N:Nat → Nat → Bool):List (Nat × Nat):=apL (fun i=>apL (fun j=>if N i j=true then [(i,j)] else []) (i+1) (n - (i+1))) 0 n
def pI (p:Nat × Nat):Int × Int:=((p.1:Int),(p.2:Int))
theorem Qp0 {α β:Type} (f:α→β) {L:Nat → List α} {k0:Nat}:∀j,(apL L k0 j).map f=apL (fun i=>(L i).map f) k0 j
 | 0=>rfl
 | j+1=>by simp only [apL,List.map_append,Qp0 f j]
theorem Qqn {n:Nat} {N:Nat → Nat → Bool}:prs n N=(Yi n N).map pI:=by
 unfold prs Yi
 rw [Qp0]
 refine Zf n fun i _ _=>?_
 rw [Qp0]
 refine Zf _ fun j _ _=>?_
 split <;> rfl
theorem J1 {n:Nat} {N:Nat → Nat → Bool} {p:Nat × Nat}:p∈Yi n N↔p.1 < p.2∧p.2 < n∧N p.1 p.2=true:=by
 unfold Yi
 rw [Qaq]
 constructor
 ·rintro ⟨i,_,h2,h3⟩
  obtain ⟨j,h4,h5,h6⟩:=(Qaq _).1 h3
  split at h6
  ·rename_i hN
   rw [List.mem_singleton.1 h6]
   exact ⟨by omega,by omega,hN⟩
  ·cases h6
 ·rintro ⟨h1,h2,h3⟩
  refine ⟨p.1,by omega,by omega,(Qaq _).2 ⟨p.2,by omega,by omega,?_⟩⟩
  rw [if_pos h3]; simp
theorem Qto {n:Nat} {N:Nat → Nat → Bool} (hn:n≤5):(Yi n N).length≤10:=by
 have hb:∀i,i < n→(apL (fun j=>if N i j=true then [(i,j)] else []) (i+1) (n - (i+1))).length≤4 - i:=fun i hi=>by
  have:=Z6 (L:=fun j=>if N i j=true then [(i,j)] else []) (k0:=i+1) (m:=1) (fun _=>Js) (n - (i+1)); omega
 have key:∀j,j≤n→(apL (fun i=>apL (fun j=>if N i j=true then [(i,j)] else []) (i+1) (n - (i+1))) 0 j).length*2≤j*(9 - j):=by
  intro j
  induction j with
  | zero=>intro _; simp [apL]
  | succ j ih =>
   intro hj
   have h1:=ih (by omega)
   have h2:=hb j (by omega)
   simp only [apL,List.length_append,Nat.zero_add]
   have hj':j=0∨j=1∨j=2∨j=3∨j=4:=by omega
   rcases hj' with rfl | rfl | rfl | rfl | rfl <;> omega
 have:=key n (Nat.le_refl _)
 unfold Yi
 have hn':n=0∨n=1∨n=2∨n=3∨n=4∨n=5:=by omega
 rcases hn' with rfl | rfl | rfl | rfl | rfl | rfl <;> omega
def orR (P:List (Nat × Nat)) (t:Nat):Nat → Nat → Nat → Bool
 | 0,_,_=>false
 | k+1,u,w=>orR P t k u w || (match P[k]? with | some p=>if t.testBit k=true then decide (u=p.1) && decide (p.2=w) else decide (u=p.2) && decide (p.1=w) | none=>false)
theorem Qqo {P:List (Nat × Nat)} {t:Nat}:∀{k u w:Nat},orR P t k u w=true↔∃i,i < k∧((P[i]?=some (u,w)∧t.testBit i=true)∨(P[i]?=some (w,u)∧t.testBit i=false))
 | 0,u,w=>by simp [orR]
 | k+1,u,w=>by
  simp only [orR,Bool.or_eq_true]
  rw [Qqo (k:=k)]
  constructor
  ·rintro (⟨i,h1,h2⟩ | h)
   ·exact ⟨i,by omega,h2⟩
   ·refine ⟨k,by omega,?_⟩
    cases hp:P[k]? with
    | none=>rw [hp] at h; cases h
    | some p =>
     rw [hp] at h
     obtain ⟨a,b⟩:=p
     dsimp only at h
     split at h
     ·rename_i hb
      simp only [Bool.and_eq_true,decide_eq_true_eq] at h
      exact .inl ⟨by rw [h.1,h.2],hb⟩
     ·rename_i hb
      simp only [Bool.and_eq_true,decide_eq_true_eq] at h
      exact .inr ⟨by rw [h.1,h.2],Bool.eq_false_iff.2 hb⟩
  ·rintro ⟨i,h1,h2⟩
   by_cases e:i=k
   ·subst e
    right
    rcases h2 with ⟨h3,h4⟩ | ⟨h3,h4⟩ <;> rw [h3] <;> simp [h4]
   ·exact .inl ⟨i,by omega,h2⟩
def oG (n:Nat) (P:List (Nat × Nat)) (t k:Nat):Nat → Nat := fun u=>msk n (orR P t k u)
theorem Q3s {n:Nat} {P:List (Nat × Nat)} {t k u w:Nat} (hP:∀p∈P,p.1 < n∧p.2 < n):(oG n P t k u).testBit w=orR P t k u w:=by
 unfold oG
 rw [Z7]
 by_cases h:w < n
 ·simp [h]
 ·have:orR P t k u w=false:=by
   rw [Bool.eq_false_iff]
   intro hc
   revert hc
   rw [Qqo]
   rintro ⟨i,_,⟨h1,_⟩ | ⟨h1,_⟩⟩
   ·exact h (hP _ (List.mem_of_getElem? h1)).2
   ·exact h (hP _ (List.mem_of_getElem? h1)).1
  simp [h,this]
theorem Qo6 {n:Nat} {P:List (Nat × Nat)} {t k:Nat} (hn:n≤10):L64 n (oG n P t k):=fun v _=>Q29 hn (msk_lt n _)
theorem Q1v {n:Nat} {P:List (Nat × Nat)} {t k a b:Nat} (hp:P[k]?=some (a,b)) (ha:a < n) (hb:b < n) (hab:a≠b) :
  oG n P t (k+1)=if t.testBit k=true then (fun u=>if u=a then oG n P t k u ||| 2^b else oG n P t k u) else (fun u=>if u=b then oG n P t k u ||| 2^a else oG n P t k u):=by
 have key:∀u c,c < n→msk n (fun w=>orR P t k u w || decide (c=w))=oG n P t k u ||| 2^c:=fun u c hc=>by
  symm
  refine Qkq (Nat.or_lt_two_pow (msk_lt n _) (Nat.pow_lt_pow_right (by omega) hc)) fun i hi=>?_
  unfold oG
  rw [Nat.testBit_or,Z7,Qc1]
  simp [hi]
 split
 ·rename_i hb2
  funext u
  split
  ·rename_i e
   rw [←key u b hb]
   unfold oG
   refine Qak fun w _=>?_
   simp only [orR,hp,hb2,if_true,e,decide_true,Bool.true_and]
  ·rename_i e
   unfold oG
   refine Qak fun w _=>?_
   simp only [orR,hp,hb2,if_true,e,decide_false,Bool.false_and,Bool.or_false]
 ·rename_i hb2
  funext u
  split
  ·rename_i e
   rw [←key u a ha]
   unfold oG
   refine Qak fun w _=>?_
   simp [orR,hp,hb2,e]
  ·rename_i e
   unfold oG
   refine Qak fun w _=>?_
   simp [orR,hp,hb2,e]
theorem Q5j {a k:Nat} (ha:a < 1000000) (hk:k < 64) :
  zw (BitVec.ofInt (IntKind.bits .i64) (Int.fdiv (a:Int) (2^min (Int.toNat (k:Int)) (IntKind.bits .i64))) &&& BitVec.ofInt (IntKind.bits .i64) 1).toNat = ((a.testBit k).toNat : Int):=by
 have hb:IntKind.bits .i64=64:=rfl
 have e0:min (Int.toNat (k:Int)) (IntKind.bits .i64)=k:=by rw [hb,Int.toNat_natCast]; omega
 rw [e0,Qnp]
 have h1:a / 2^k < 1000000:=Nat.lt_of_le_of_lt (Nat.div_le_self _ _) ha
 have hbv:(BitVec.ofInt (IntKind.bits .i64) ((a / 2^k:Nat):Int)).toNat = a / 2^k:=by
  show (BitVec.ofInt 64 ((a / 2^k:Nat):Int)).toNat = a / 2^k
  rw [BitVec.ofInt_natCast,BitVec.toNat_ofNat]
  exact Nat.mod_eq_of_lt (by omega)
 have e1:(BitVec.ofInt (IntKind.bits .i64) ((a / 2^k:Nat):Int) &&& BitVec.ofInt (IntKind.bits .i64) 1).toNat = (a / 2^k) % 2:=by
  rw [BitVec.toNat_and,hbv,show (BitVec.ofInt (IntKind.bits .i64) 1).toNat = 1 from rfl,Nat.and_one_is_mod]
 rw [e1,w64 (by omega)]
 have e2:a.testBit k=((a / 2^k) % 2==1):=by rw [Nat.testBit_eq_decide_div_mod_eq]; rfl
 rw [e2]
 rcases Nat.mod_two_eq_zero_or_one (a / 2^k) with h | h <;> rw [h] <;> rfl
theorem Qv4 {k:Nat} (hk:k≤15):zw (1*2^min (Int.toNat (k:Int)) (IntKind.bits .i64))=((2^k:Nat):Int):=by
 have hb:IntKind.bits .i64=64:=rfl
 have e0:min (Int.toNat (k:Int)) (IntKind.bits .i64)=k:=by rw [hb,Int.toNat_natCast]; omega
 have:(2:Nat)^k≤2^15:=Nat.pow_le_pow_right (by omega) hk
 have e2:(1:Int)*2^k=((2^k:Nat):Int):=by simp
 rw [e0,e2]
 generalize (2:Nat)^k=m at *
 rw [w64 (by omega)]
theorem Qzf {n k:Nat} {P:List (Nat × Nat)} {t:Nat}:List.replicate n (0:Int)=Qg n (oG n P t 0):=by
 apply List.ext_getElem
 ·simp [Qg,Qc9]
 ·intro k h1 h2
  have e:∀u,oG n P t 0 u=0:=fun u=>by
   unfold oG
   rw [show orR P t 0 u=fun _=>false from rfl]
   have:∀m,msk m (fun _=>false)=0:=fun m=>by
    induction m with
    | zero=>rfl
    | succ m ih=>simp [msk,ih]
   exact this n
  simp [Qg,Qc9,e]
theorem Qnc {n t:Nat} {P:List (Nat × Nat)} (hn:n≤10) (hl:P.length≤15) (ht:t < 1000000) (hP:∀p∈P,p.1 < p.2∧p.2 < n) {body:Int × List Int→Option (Qf (Int × List Int) (List Int))}
  (hb:∀s:Int × List Int,body s=if (decide (s.1 < ((P.map pI).length:Int)))=true then (lkI (P.map pI) s.1).bind fun a7 =>
   if 0≤s.1 then
    if ((zw (BitVec.ofInt (IntKind.bits .i64) (Int.fdiv (t:Int) (2^min (Int.toNat s.1) (IntKind.bits .i64))) &&& BitVec.ofInt (IntKind.bits .i64) 1).toNat)==1)=true then
     (lkI s.2 a7.1).bind fun a11=>if 0≤a7.2 then some (.next (zw (s.1+1),(List.set s.2 (Int.toNat a7.1) (zv (zb a11 ||| zb (zv (1*2^min (Int.toNat a7.2) (IntKind.bits .u64)))).toNat)))) else none
    else (lkI s.2 a7.2).bind fun a14=>if 0≤a7.1 then some (.next (zw (s.1+1),(List.set s.2 (Int.toNat a7.2) (zv (zb a14 ||| zb (zv (1*2^min (Int.toNat a7.1) (IntKind.bits .u64)))).toNat)))) else none
   else none
   else some (.done s.2)):Qb fuel body (0,List.replicate n (0:Int))=some (Qg n (oG n P t P.length)):=by
 have hlen:(P.map pI).length=P.length:=List.length_map _
 have h:=Vn (n:=P.length) (k0:=0) (by omega) (by omega) (fun i (x:List Int)=>(i,x)) (body:=body) (fun k=>Qg n (oG n P t k)) (Qg n (oG n P t P.length))
  (fun k _ hk=>by
   have h64:L64 n (oG n P t k):=Qo6 hn
   obtain ⟨h1,h2⟩:=hP P[k] (List.getElem_mem hk)
   have hp:P[k]?=some (P[k].1,P[k].2):=List.getElem?_eq_getElem hk
   rw [hb]
   dsimp only
   rw [hlen,if_pos (dlt hk),Zo (by rw [hlen]; exact hk),Option.bind_some,if_pos (Yo k),Q5j ht (by omega),List.getElem_map]
   rw [Q1v hp (by omega) h2 (by omega)]
   unfold pI
   dsimp only
   by_cases hb2:t.testBit k=true
   ·rw [if_pos (by rw [hb2]; rfl),Z4 (by omega),Option.bind_some,if_pos (Yo _),Qp7 (by omega),Qoh (h64 _ (by omega)) (Qn7 (by omega)),Int.toNat_natCast,Qnr,if_pos hb2]
    congr 5
    funext u
    split
    ·rename_i e; rw [e]
    ·rfl
   ·rw [if_neg (by rw [Bool.eq_false_iff.2 hb2]; decide),Z4 h2,Option.bind_some,if_pos (Yo _),Qp7 (by omega),Qoh (h64 _ h2) (Qn7 (by omega)),Int.toNat_natCast,Qnr,if_neg hb2]
    congr 5
    funext u
    split
    ·rename_i e; rw [e]
    ·rfl)
  (by rw [hb]; dsimp only; rw [hlen,if_neg (nlt _)])
 rw [show ((0:Nat):Int)=0 from rfl,←Qzf (k:=0)] at h
 exact h
end Go.Ab
namespace Go.Ab
open Go
set_option maxRecDepth 100000
set_option maxHeartbeats 1000000
section
variable {n:Nat} {S:Nat → Nat}
def mG (n:Nat) (S:Nat → Nat) (t:Nat):Nat → Nat := oG n (Yi n (near S)) t (Yi n (near S)).length
def gdB (n:Nat) (T:Nat → Nat):Bool:=pls n T n==2^n - 1
theorem Qmn {T:Nat → Nat}:gdB n T=true↔Gd n T:=by unfold gdB; rw [beq_iff_eq]; exact Qop
theorem Q16 {p:Nat × Nat} (h:p∈Yi n (near S)):p.1 < n∧p.2 < n:=by
 have:=J1.1 h
 omega
theorem Qlc {t u w:Nat}:(mG n S t u).testBit w=true↔∃i,((Yi n (near S))[i]?=some (u,w)∧t.testBit i=true)∨((Yi n (near S))[i]?=some (w,u)∧t.testBit i=false):=by
 unfold mG
 rw [Q3s fun p hp=>Q16 hp,Qqo]
 constructor
 ·rintro ⟨i,_,h⟩; exact ⟨i,h⟩
 ·rintro ⟨i,h⟩
  refine ⟨i,?_,h⟩
  rcases h with ⟨h,_⟩ | ⟨h,_⟩ <;> exact (List.getElem?_eq_some_iff.1 h).1
theorem Q2v {t u w:Nat} (hS:Gd n S) (hu:u < n) (hw:w < n):near (mG n S t) u w=near S u w:=by
 have key:∀u w,u < w→w < n→near (mG n S t) u w=near S u w:=fun u w h1 h2=>by
  rw [Bool.eq_iff_iff]
  constructor
  ·intro h
   have hmem:∀a b:Nat,(mG n S t a).testBit b=true→near S a b=true:=fun a b hb=>by
    obtain ⟨i,⟨h,_⟩ | ⟨h,_⟩⟩:=Qlc.1 hb
    ·exact (J1.1 (List.mem_of_getElem? h)).2.2
    ·rw [near_symm]; exact (J1.1 (List.mem_of_getElem? h)).2.2
   unfold near at h
   rw [Bool.or_eq_true] at h
   rcases h with h | h
   ·exact hmem u w h
   ·rw [near_symm]; exact hmem w u h
  ·intro h
   obtain ⟨i,hi⟩:=List.mem_iff_getElem?.1 ((J1 (p:=(u,w))).2 ⟨h1,h2,h⟩)
   unfold near
   rw [Bool.or_eq_true]
   cases hb:t.testBit i with
   | true=>exact .inl (Qlc.2 ⟨i,.inl ⟨hi,hb⟩⟩)
   | false=>exact .inr (Qlc.2 ⟨i,.inr ⟨hi,hb⟩⟩)
 rcases Nat.lt_trichotomy u w with h | h | h
 ·exact key u w h hw
 ·subst h
  rw [Qyi hS hu]
  rw [Bool.eq_false_iff]
  intro hb
  unfold near at hb
  rw [Bool.or_self] at hb
  obtain ⟨i,⟨h,_⟩ | ⟨h,_⟩⟩:=Qlc.1 hb <;> have:=(J1.1 (List.mem_of_getElem? h)).1 <;> simp at this
 ·rw [near_symm,near_symm (S:=S)]; exact key w u h hu
theorem Q23 {T:Nat → Nat} (hS:Gd n S) (hT:Gd n T) (h:∀u w,u < n→w < n→near T u w=near S u w):∃t,t < 2^(Yi n (near S)).length∧Qg n (mG n S t)=Qg n T:=by
 refine ⟨msk (Yi n (near S)).length fun k=>match (Yi n (near S))[k]? with | some p=>(T p.1).testBit p.2 | none=>false,msk_lt _ _,?_⟩
 have hbit:∀i p,(Yi n (near S))[i]?=some p→(msk (Yi n (near S)).length fun k=>match (Yi n (near S))[k]? with | some p=>(T p.1).testBit p.2 | none=>false).testBit i=(T p.1).testBit p.2:=fun i p hp=>by
  rw [Z7,hp]
  have:=(List.getElem?_eq_some_iff.1 hp).1
  simp [this]
 generalize (msk (Yi n (near S)).length fun k=>match (Yi n (near S))[k]? with | some p=>(T p.1).testBit p.2 | none=>false)=t at *
 obtain ⟨r,hr⟩:=Qde hT
 unfold Qg Qc9
 refine List.map_congr_left fun u hu=>?_
 have hu:=List.mem_range.1 hu
 congr 1
 apply Nat.eq_of_testBit_eq
 intro w
 rw [Bool.eq_iff_iff,Qlc]
 constructor
 ·rintro ⟨i,⟨h1,h2⟩ | ⟨h1,h2⟩⟩
  ·rw [hbit i _ h1] at h2; exact h2
  ·rw [hbit i _ h1] at h2
   obtain ⟨h3,h4,h5⟩:=J1.1 (List.mem_of_getElem? h1)
   dsimp only at h2 h3 h4 h5
   rw [←h w u (by omega) hu] at h5
   unfold near at h5
   rw [h2] at h5
   simpa using h5
 ·intro hb
  have hw:=hT.inn u hu w hb
  have hn:near S u w=true:=by rw [←h u w hu hw]; unfold near; rw [hb]; rfl
  have hne:u≠w:=fun e=>by subst e; have:=hr u hu u hb; omega
  rcases Nat.lt_or_gt_of_ne hne with h1 | h1
  ·obtain ⟨i,hi⟩:=List.mem_iff_getElem?.1 ((J1 (p:=(u,w))).2 ⟨h1,hw,hn⟩)
   exact ⟨i,.inl ⟨hi,by rw [hbit i _ hi]; exact hb⟩⟩
  ·obtain ⟨i,hi⟩:=List.mem_iff_getElem?.1 ((J1 (p:=(w,u)) (N:=near S)).2 ⟨h1,hu,by rw [near_symm]; exact hn⟩)
   refine ⟨i,.inr ⟨hi,?_⟩⟩
   rw [hbit i _ hi]
   dsimp only
   rw [Bool.eq_false_iff]
   intro hc
   have:=hr u hu w hb
   have:=hr w hw u hc
   omega
end
end Go.Ab
namespace Go.Ab
open Go
set_option maxRecDepth 100000
set_option maxHeartbeats 1000000
theorem Q4z {x y:List Int} (h:leL y x=false):leL x y=true:=by have:=Qgw x y; rw [h] at this; simpa using this
theorem Qof {x y:List Int} (hl:x.length=y.length) (hx:x.length < 1000):Qaw x y=some (!(leL y x)):=by
 have key:∀(j N k:Nat),k+j=x.length→j < N →
   ∃r,Qb N (J7 x y) (k:Int)=some r∧(match r with | .inl b=>b | .inr _=>false)=!(leL (y.drop k) (x.drop k)):=by
  intro j
  induction j with
  | zero =>
   intro N k hk hN
   obtain ⟨N,rfl⟩:∃M,N=M+1:=⟨N - 1,by omega⟩
   refine ⟨.inr (),?_,?_⟩
   ·unfold Qb J7
    rw [if_neg (by simp; omega)]
   ·rw [List.drop_eq_nil_of_le (by omega:y.length≤k)]
    rfl
  | succ j ih =>
   intro N k hk hN
   obtain ⟨N,rfl⟩:∃M,N=M+1:=⟨N - 1,by omega⟩
   have h1:k < x.length:=by omega
   have h2:k < y.length:=by omega
   rw [List.drop_eq_getElem_cons h1,List.drop_eq_getElem_cons h2]
   unfold Qb J7
   rw [if_pos (by simp; omega),Zo h1,Option.bind_some,Zo h2,Option.bind_some]
   by_cases e:x[k]=y[k]
   ·obtain ⟨r,h3,h4⟩:=ih N (k+1) (by omega) (by omega)
    refine ⟨r,?_,?_⟩
    ·rw [if_neg (by simp [e]),w64 (by omega)]
     exact h3
    ·rw [h4]; simp [leL,e]
   ·refine ⟨.inl (decide (x[k] < y[k])),?_,?_⟩
    ·rw [if_pos (by simp [e])]
    ·simp only [leL]
     rw [Bool.eq_iff_iff]
     have e':¬ y[k]=x[k]:=fun h=>e h.symm
     simp [e',e]; omega
 obtain ⟨r,h1,h2⟩:=key x.length fuel 0 (by omega) (by unfold fuel; omega)
 unfold Qaw
 rw [show (0:Int)=((0:Nat):Int) from rfl,h1,Option.bind_some]
 rw [List.drop_zero,List.drop_zero] at h2
 rw [←h2]
 cases r <;> rfl
theorem Qys {n:Nat} {a:List Int} {out:List (List Int)} {s:Int × List (List Int)} (hs:s.2=out) (ha:a.length=n) (hn:n < 1000) (ho:∀x∈out,x.length=n) (hl:out.length < 100000) :
  ∃A:Nat,A≤out.length∧Qb fuel (Xs s a) (out.length:Int)=some (A:Int)∧(∀j,A≤j→∀x,out[j]?=some x→leL x a=false)∧(A=0∨∃x,out[A - 1]?=some x∧leL x a=true):=by
 subst hs
 have key:∀(k N:Nat),k≤s.2.length→k < N→(∀j,k≤j→∀x,s.2[j]?=some x→leL x a=false) →
   ∃A:Nat,A≤s.2.length∧Qb N (Xs s a) (k:Int)=some (A:Int)∧(∀j,A≤j→∀x,s.2[j]?=some x→leL x a=false)∧(A=0∨∃x,s.2[A - 1]?=some x∧leL x a=true):=by
  intro k
  induction k with
  | zero =>
   intro N hk hN hj
   obtain ⟨N,rfl⟩:∃M,N=M+1:=⟨N - 1,by omega⟩
   refine ⟨0,by omega,?_,hj,.inl rfl⟩
   unfold Qb Xs
   rw [if_neg (by decide)]
  | succ k ih =>
   intro N hk hN hj
   obtain ⟨N,rfl⟩:∃M,N=M+1:=⟨N - 1,by omega⟩
   have hkl:k < s.2.length:=by omega
   have e1:zw (((k+1:Nat):Int) - 1)=(k:Int):=by rw [w64 (by omega)]; omega
   by_cases hb:leL s.2[k] a=true
   ·refine ⟨k+1,hk,?_,hj,.inr ⟨s.2[k],List.getElem?_eq_getElem hkl,hb⟩⟩
    unfold Qb Xs
    rw [if_pos (by simp),e1,Zo hkl,Option.bind_some,Qof (by rw [ha,ho _ (List.getElem_mem hkl)]) (by omega),Option.bind_some,hb,if_neg (by decide)]
   ·obtain ⟨A,h1,h2,h3⟩:=ih N (by omega) (by omega) (fun j hjk x hx=>by
     by_cases e:j=k
     ·subst e; rw [List.getElem?_eq_getElem hkl] at hx; cases hx; exact Bool.eq_false_iff.2 hb
     ·exact hj j (by omega) x hx)
    refine ⟨A,h1,?_,h3⟩
    unfold Qb
    have e2:Xs s a ((k+1:Nat):Int)=some (.next (k:Int)):=by
     unfold Xs
     rw [if_pos (by simp),e1,Zo hkl,Option.bind_some,Qof (by rw [ha,ho _ (List.getElem_mem hkl)]) (by omega),Option.bind_some,Bool.eq_false_iff.2 hb,if_pos (by decide)]
    rw [e2]
    exact h2
 exact key s.2.length fuel (Nat.le_refl _) (by unfold fuel; omega) (fun j hj x hx=>by rw [List.getElem?_eq_none hj] at hx; cases hx)
theorem Quf {A:Nat} {a:List Int} {out:List (List Int)} (hA:A≤out.length) (h1:∀j,A≤j→∀x,out[j]?=some x→leL x a=false) (h2:A=0∨∃x,out[A - 1]?=some x∧leL x a=true)
  (hs:out.Pairwise fun x y=>leL x y=true):(Qai A a out).Pairwise fun x y=>leL x y=true:=by
 unfold Qai
 have hb:∀x∈out.drop A,leL a x=true:=fun x hx=>by
  obtain ⟨j,hj⟩:=List.mem_iff_getElem?.1 hx
  rw [List.getElem?_drop] at hj
  exact Q4z (h1 (A+j) (by omega) x hj)
 have ht:∀x∈out.take A,leL x a=true:=fun x hx=>by
  rcases h2 with rfl | ⟨y,hy,hya⟩
  ·simp at hx
  ·obtain ⟨j,hj⟩:=List.mem_iff_getElem?.1 hx
   have hjA:j < A:=by have:=(List.getElem?_eq_some_iff.1 hj).1; simp at this; omega
   rw [List.getElem?_take_of_lt hjA] at hj
   by_cases e:j=A - 1
   ·subst e; rw [hy] at hj; cases hj; exact hya
   ·have p:=List.pairwise_iff_getElem.1 hs
    obtain ⟨g1,g2⟩:=List.getElem?_eq_some_iff.1 hj
    obtain ⟨g3,g4⟩:=List.getElem?_eq_some_iff.1 hy
    have:=p j (A - 1) g1 g3 (by omega)
    rw [g2,g4] at this
    exact Qdx _ _ _ this hya
 rw [List.pairwise_append]
 refine ⟨hs.sublist (List.take_sublist _ _),?_,fun x hx y hy=>?_⟩
 ·rw [List.pairwise_cons]
  exact ⟨hb,hs.sublist (List.drop_sublist _ _)⟩
 ·rcases List.mem_cons.1 hy with rfl | hy
  ·exact ht x hx
  ·exact Qdx _ _ _ (ht x hx) (hb y hy)
theorem Qx6 {α:Type} {A:Nat} {a:α} {out:List α}:(Qai A a out).Perm (a::out):=by
 unfold Qai
 refine List.perm_middle.trans ?_
 rw [List.take_append_drop]
section
variable {n:Nat} {S:Nat → Nat}
def okG (n:Nat) (S:Nat → Nat) (t:Nat):Bool:=gdB n (mG n S t) && decide (cls n (mG n S t)=cls n S)
def Qgc (n:Nat) (S:Nat → Nat):List (List Int):=((List.range (2^(Yi n (near S)).length)).filter (okG n S)).map fun t=>Qg n (mG n S t)
def Yr (n:Nat) (S:Nat → Nat):List (List Int):=isort leL (Qgc n S)
theorem Qjz {α:Type} {c:Nat → Bool} {f:Nat → α}:∀j,apL (fun t=>if c t=true then [f t] else []) 0 j=((List.range j).filter c).map f
 | 0=>rfl
 | j+1=>by
  simp only [apL,Qjz j,Nat.zero_add,List.range_succ,List.filter_append,List.map_append]
  congr 1
  by_cases h:c j=true
  ·simp [h]
  ·simp [h]
theorem Qsx {x:List Int} (hS:Gd n S):x∈Qgc n S↔∃T,x=Qg n T∧Gd n T∧(∀u w,u < n→w < n→near T u w=near S u w)∧cls n T=cls n S:=by
 unfold Qgc
 rw [List.mem_map]
 constructor
 ·rintro ⟨t,h1,rfl⟩
  have:=(List.mem_filter.1 h1).2
  unfold okG at this
  rw [Bool.and_eq_true,Qmn,decide_eq_true_eq] at this
  exact ⟨_,rfl,this.1,fun u w hu hw=>Q2v hS hu hw,this.2⟩
 ·rintro ⟨T,rfl,h1,h2,h3⟩
  obtain ⟨t,ht,e⟩:=Q23 hS h1 h2
  refine ⟨t,List.mem_filter.2 ⟨List.mem_range.2 ht,?_⟩,e⟩
  have eb:∀v,v < n→mG n S t v=T v:=fun v hv=>Qy5 e hv
  unfold okG
  rw [Bool.and_eq_true,Qmn,decide_eq_true_eq]
  refine ⟨?_,?_⟩
  ·obtain ⟨r,hr⟩:=Qde h1
   refine Qe3 r fun v hv j hj=>?_
   rw [eb v hv] at hj
   exact ⟨h1.inn v hv j hj,hr v hv j hj⟩
  ·rw [←h3]
   refine Qip.2 fun a b c h4 h5 h6=>?_
   unfold V5 near
   rw [eb b h6,eb a (by omega),eb c h5]
theorem Qsq (hn:n≤5):(Qgc n S).length≤1024:=by
 unfold Qgc
 rw [List.length_map]
 refine Nat.le_trans (List.length_filter_le _ _) ?_
 rw [List.length_range]
 exact Nat.pow_le_pow_right (n:=2) (by omega) (Qto hn)
end
end Go.Ab
namespace Go.Ab
open Go
set_option maxRecDepth 100000
set_option maxHeartbeats 1000000
section
variable {n:Nat} {S:Nat → Nat}
theorem Qsd {N:Nat → Nat → Bool} (hn:n≤5):(prs n N).length≤10∧(prs n N).length=(Yi n N).length:=by
 rw [Qqn,List.length_map]
 exact ⟨Qto hn,rfl⟩
theorem Qn0 {k:Nat} (h:k≤10):2^k≤1024:=Nat.pow_le_pow_right (n:=2) (by omega) h
theorem Qu2 (hn1:1≤n) (hn:n≤5) (hS:Gd n S) (hc:Q5 (Qg n S)=some 0):Xi (Qg n S)=some (Yr n S,0):=by
 have hlen:(Qg n S).length=n:=Z3
 obtain ⟨hp,hpl⟩:=Qsd (n:=n) (N:=near S) hn
 have hpow:=Qn0 hp
 unfold Xi
 rw [hc,Option.bind_some,if_neg (by simp),hlen,if_neg (by simp; omega),Qas (by omega) hS,Option.bind_some,Qbj (by omega) hS,Option.bind_some]
 have hsk:(Zc ⟨(n:Int),Qo (mI (nrN n S))⟩)=some (prs n (near S)):=Qtk (by omega)
 have h:=Vu (n:=2^(prs n (near S)).length) (k0:=0) (m:=1) (c:=0) (Nat.zero_le _) (by omega) (fun k (x:List (List Int))=>(k,x)) (body:=Vl (prs n (near S)) ⟨(n:Int),Qo (mI (nrN n S))⟩ (cls n S))
  (fun t=>if okG n S t=true then [Qg n (mG n S t)] else []) id (fun t=>Js) (out:=[]) (by simp)
  (fun t o _ ht ho=>by
   unfold Vl
   dsimp only
   rw [Qv4 (by omega),if_pos (dlt ht),if_pos (by omega)]
   have e:=Qnc (n:=n) (t:=t) (P:=Yi n (near S)) (by omega) (by omega) (by omega) (fun p hp=>by have:=J1.1 hp; omega) (body:=Qah (prs n (near S)) ((t:Int),o)) (fun s=>by
    unfold Qah; rw [Qqn])
   rw [Int.toNat_natCast,e,Option.bind_some]
   have e2:oG n (Yi n (near S)) t (Yi n (near S)).length=mG n S t:=rfl
   rw [e2,Qm4 (S:=mG n S t) (by omega) (Qo6 (by omega)),Option.bind_some]
   have e3:(pls n (mG n S t) n==2^n - 1)=gdB n (mG n S t):=rfl
   rw [e3]
   unfold okG
   by_cases hg:gdB n (mG n S t)=true
   ·have hG:=Qmn.1 hg
    rw [if_pos hg,Qbj (by omega) hG,Option.bind_some,Qwb (by have:=Qpv (S:=mG n S t) (show n≤7 by omega); omega),Option.bind_some,hg]
    by_cases hcl:cls n (mG n S t)=cls n S
    ·rw [if_pos (by simp [hcl]),if_pos (by rw [List.length_append]; simp; omega),if_pos (by simp [hcl])]
    ·rw [if_neg (by simp [hcl]),if_neg (by simp [hcl]),List.append_nil]
   ·rw [if_neg hg,Bool.eq_false_iff.2 hg,if_neg (by simp),List.append_nil])
  (fun o=>by
   unfold Vl
   dsimp only
   rw [Qv4 (by omega),if_neg (nlt _)]; rfl)
 rw [show ((0:Nat):Int)=0 from rfl] at h
 show (Zc ⟨(n:Int),Qo (mI (nrN n S))⟩).bind _=_
 rw [hsk,Option.bind_some,if_pos (Yo _)]
 show (Qb fuel (Vl (prs n (near S)) ⟨(n:Int),Qo (mI (nrN n S))⟩ (cls n S)) (0,[])).bind _=_
 rw [h,Option.bind_some,List.nil_append,Nat.sub_zero,Qjz,hpl]
 have hgood:((Qgc n S).all Qjg && Nat.blt (Qgc n S).length 4611686018427387904)=true:=by
  rw [Bool.and_eq_true]
  refine ⟨List.all_eq_true.2 fun x hx=>?_,?_⟩
  ·obtain ⟨T,rfl,_⟩:=(Qsx hS).1 hx
   unfold Qjg
   rw [Z3]
   exact Nat.ble_eq_true_of_le (by omega)
  ·have:=Qsq (n:=n) (S:=S) hn
   exact Nat.ble_eq_true_of_le (by omega)
 show (Qms Qjg leL (Qgc n S)).bind _=_
 unfold Qms
 rw [if_pos hgood]
 rfl
theorem Qta (hn1:1≤n) (hn:n≤5):Kq (n:Int) (prs n (near S))=some (((List.range (2^(Yi n (near S)).length)).filter fun t=>gdB n (mG n S t)).map fun t=>Qg n (mG n S t)):=by
 obtain ⟨hp,hpl⟩:=Qsd (n:=n) (N:=near S) hn
 have hpow:=Qn0 hp
 have h:=Vu (n:=2^(prs n (near S)).length) (k0:=0) (m:=1) (c:=0) (Nat.zero_le _) (by omega) (fun k (x:List (List Int))=>(k,x)) (body:=Jk (prs n (near S)) (n:Int))
  (fun t=>if gdB n (mG n S t)=true then [Qg n (mG n S t)] else []) id (fun t=>Js) (out:=[]) (by simp)
  (fun t o _ ht ho=>by
   unfold Jk
   dsimp only
   rw [if_pos (Yo _),Qv4 (by omega),if_pos (dlt ht),if_pos (by omega)]
   have e:=Qnc (n:=n) (t:=t) (P:=Yi n (near S)) (by omega) (by omega) (by omega) (fun p hp=>by have:=J1.1 hp; omega) (body:=K9 (prs n (near S)) ((t:Int),o)) (fun s=>by
    unfold K9; rw [Qqn])
   rw [Int.toNat_natCast,e,Option.bind_some]
   have e2:oG n (Yi n (near S)) t (Yi n (near S)).length=mG n S t:=rfl
   obtain ⟨c,hc1,hc2⟩:=Qqr (m:=n) (show n≤7 by omega) (Qo6 (n:=n) (P:=Yi n (near S)) (t:=t) (k:=(Yi n (near S)).length) (by omega))
   rw [e2] at hc1 hc2 ⊢
   rw [hc1,Option.bind_some]
   have hcg:c=gdB n (mG n S t):=by
    rw [Bool.eq_iff_iff,hc2,Qmn]
    exact ⟨fun h=>h.2,fun h=>⟨by omega,h⟩⟩
   rw [hcg]
   by_cases hg:gdB n (mG n S t)=true
   ·rw [if_pos hg,if_pos (by rw [List.length_append]; simp; omega),if_pos hg]
   ·rw [if_neg hg,if_neg hg,List.append_nil])
  (fun o=>by
   unfold Jk
   dsimp only
   rw [if_pos (Yo _),Qv4 (by omega),if_neg (nlt _)]; rfl)
 rw [show ((0:Nat):Int)=0 from rfl] at h
 unfold Kq
 rw [h,Option.bind_some,List.nil_append,Nat.sub_zero,Qjz,hpl]
 rfl
def Q55 (a:List Int) (out out':List (List Int)):Prop:=∃A,A≤out.length∧(∀j,A≤j→∀x,out[j]?=some x→leL x a=false)∧(A=0∨∃x,out[A - 1]?=some x∧leL x a=true)∧out'=Qai A a out
theorem Qtp {D:List (List Int)} {k:Nat} {T:Nat → Nat} {out:List (List Int)} (hn:n≤5) (h64:L64 n T) (hk:D[k]?=some (Qg n T)) (ho:∀x∈out,x.length=n) (hl:out.length < 10000) (hD:D.length≤10000) :
  (¬ cls n T=cls n S→Xr D (cls n S) ((k:Int),out)=some (.next (zw ((k:Int)+1),out))) ∧
  (cls n T=cls n S→∃out',Q55 (Qg n T) out out'∧Xr D (cls n S) ((k:Int),out)=some (.next (zw ((k:Int)+1),out'))):=by
 obtain ⟨hkl,hk2⟩:=List.getElem?_eq_some_iff.1 hk
 have hcl:=Qpv (S:=T) (show n≤7 by omega)
 constructor
 ·intro hne
  unfold Xr
  dsimp only
  rw [if_pos (dlt hkl),Zo hkl,Option.bind_some,hk2,Qek (by omega) h64,Option.bind_some,Qg0 (by omega),Option.bind_some,if_pos (by simp [hne])]
 ·intro he
  obtain ⟨A,h1,h2,h3,h4⟩:=Qys (n:=n) (a:=Qg n T) (out:=out) (s:=((k:Int),out)) rfl Z3 (by omega) ho (by omega)
  refine ⟨Qai A (Qg n T) out,⟨A,h1,h3,h4,rfl⟩,?_⟩
  have e1:zw ((((out++([[]]:List (List Int))).length):Int) - 1)=(out.length:Int):=by
   rw [List.length_append,List.length_singleton,w64 (by omega)]; omega
  have hw:Qb fuel (Qd2 (A:Int)) ((out.length:Int),out++([[]]:List (List Int)))=some ((out++[[]]).take (A+1)++out.drop A):=Qbt (l:=out) (i:=out.length) (aI:=(A:Int)) h1 (by omega) rfl rfl (fun s=>rfl)
  obtain ⟨x,hx⟩:=Qdg (d:=([]:List Int)) h1 (l:=out) rfl
  unfold Xr
  dsimp only
  rw [if_pos (dlt hkl),Zo hkl,Option.bind_some,hk2,Qek (by omega) h64,Option.bind_some,Qg0 (by omega),Option.bind_some,if_neg (by simp [he]),h2,Option.bind_some,if_pos (by rw [List.length_append,List.length_singleton]; omega),e1,hw,Option.bind_some,hx,Option.bind_some,Int.toNat_natCast,Qcw h1 rfl]
theorem Qhb (hn1:1≤n) (hn:n≤5) (hS:Gd n S):Jx (Qg n S)=some (Yr n S):=by
 have h64:=Qqh (show n≤8 by omega) hS
 obtain ⟨hp,hpl⟩:=Qsd (n:=n) (N:=near S) hn
 have hpow:=Qn0 hp
 unfold Jx
 rw [Qek (by omega) h64,Option.bind_some,Ql2 (by omega) h64,Option.bind_some,Z3,Qta hn1 hn,Option.bind_some]
 generalize hts:(List.range (2^(Yi n (near S)).length)).filter (fun t=>gdB n (mG n S t))=ts
 have htl:ts.length≤1024:=by
  rw [←hts]
  refine Nat.le_trans (List.length_filter_le _ _) ?_
  rw [List.length_range,←hpl]; exact hpow
 have hDl:(ts.map fun t=>Qg n (mG n S t)).length=ts.length:=List.length_map _
 have h:=Kl (n:=ts.length) (k0:=0) (by omega) (by omega) (fun i (x:List (List Int))=>(i,x)) (body:=Xr (ts.map fun t=>Qg n (mG n S t)) (cls n S))
  (fun k out=>out.Perm (((ts.take k).filter fun t=>decide (cls n (mG n S t)=cls n S)).map fun t=>Qg n (mG n S t))∧out.Pairwise fun x y=>leL x y=true) (fun r=>r=Yr n S)
  (fun k out _ hk hI=>by
   left
   obtain ⟨hI1,hI2⟩:=hI
   have hol:out.length≤1024:=by
    rw [hI1.length_eq,List.length_map]
    refine Nat.le_trans (List.length_filter_le _ _) ?_
    rw [List.length_take]; omega
   have hoe:∀x∈out,x.length=n:=fun x hx=>by
    obtain ⟨t,_,rfl⟩:=List.mem_map.1 (hI1.mem_iff.1 hx)
    exact Z3
   have hDk:(ts.map fun t=>Qg n (mG n S t))[k]?=some (Qg n (mG n S ts[k])):=by
    rw [List.getElem?_map,List.getElem?_eq_getElem hk]; rfl
   obtain ⟨r1,r2⟩:=Qtp (S:=S) (T:=mG n S ts[k]) hn (Qo6 (by omega)) hDk hoe (by omega) (by omega)
   have htk:ts.take (k+1)=ts.take k++[ts[k]]:=List.take_succ_eq_append_getElem hk
   by_cases hcl:cls n (mG n S ts[k])=cls n S
   ·obtain ⟨out',⟨A,a1,a2,a3,rfl⟩,e⟩:=r2 hcl
    refine ⟨_,e,?_,Quf a1 a2 a3 hI2⟩
    rw [htk,List.filter_append,List.map_append]
    refine Qx6.trans ?_
    have:([ts[k]].filter fun t=>decide (cls n (mG n S t)=cls n S)).map (fun t=>Qg n (mG n S t))=[Qg n (mG n S ts[k])]:=by simp [hcl]
    rw [this]
    exact (hI1.cons _).trans (List.perm_append_singleton _ _).symm
   ·refine ⟨_,r1 hcl,?_,hI2⟩
    rw [htk,List.filter_append,List.map_append]
    have:([ts[k]].filter fun t=>decide (cls n (mG n S t)=cls n S)).map (fun t=>Qg n (mG n S t))=[]:=by simp [hcl]
    rw [this,List.append_nil]
    exact hI1)
  (fun out hI=>by
   obtain ⟨hI1,hI2⟩:=hI
   refine ⟨out,?_,?_⟩
   ·unfold Xr
    dsimp only
    rw [hDl,if_neg (nlt _)]
   ·refine Qjd Qnf ?_ hI2 (Qcf Qdx Qgw _)
    refine hI1.trans ?_
    rw [List.take_length,←hts,List.filter_filter]
    have:(fun a=>decide (cls n (mG n S a)=cls n S) && gdB n (mG n S a))=okG n S:=by
     funext t; unfold okG; rw [Bool.and_comm]
    rw [this]
    exact (V3 leL (Qgc n S)).symm) [] ⟨by simp,List.Pairwise.nil⟩
 obtain ⟨r,h1,rfl⟩:=h
 rw [show ((0:Nat):Int)=0 from rfl] at h1
 rw [h1]; rfl
theorem Qy8 {x:List Int} (hS:Gd n S):x∈Yr n S↔∃T,x=Qg n T∧Gd n T∧(∀u w,u < n→w < n→near T u w=near S u w)∧cls n T=cls n S:=by
 unfold Yr
 rw [(V3 leL (Qgc n S)).mem_iff,Qsx hS]
theorem Qsz (hn:n≤5):(Yr n S).length≤1024:=by
 unfold Yr
 rw [(V3 leL (Qgc n S)).length_eq]
 exact Qsq hn
end
end Go.Ab
namespace Go.Ab
open Go
set_option maxRecDepth 100000
set_option maxHeartbeats 1000000
theorem Qjt {n:Nat} (hn:n < 1000000) {body:Int→Option (Qf Int (Unit ⊕ Unit))} (p:Nat → Bool) (hb:∀k,k < n→body (k:Int)=if p k=true then some (.done (Sum.inl ())) else some (.next (zw ((k:Int)+1))))
  (hd:body (n:Int)=some (.done (Sum.inr ()))):Qb fuel body 0=some (if (List.range n).any p=true then Sum.inl () else Sum.inr ()):=by
 rcases Qgy (n:=n) (by omega) (fun k=>¬ p k=true) (fun i (_:Unit)=>i) (body:=body) (fun _=>()) (.inr ()) (.inl ())
  (fun k hk _ hg=>by rw [hb k hk,if_neg hg])
  (fun k hk _ hg=>by rw [hb k hk,if_pos (Classical.not_not.1 hg)])
  (fun _=>hd) with ⟨hg,h⟩ | ⟨hg,h⟩
 ·rw [show ((0:Nat):Int)=0 from rfl] at h
  rw [h,if_neg]
  rw [List.any_eq_true]
  rintro ⟨k,hk,hp⟩
  exact hg k (List.mem_range.1 hk) hp
 ·rw [show ((0:Nat):Int)=0 from rfl] at h
  rw [h,if_pos]
  rw [List.any_eq_true]
  apply Classical.byContradiction
  intro hno
  exact hg fun k hk hp=>hno ⟨k,List.mem_range.2 hk,hp⟩
def lnB (N O:Nat → Nat → Bool) (a b:Nat):Bool:=N a b && !O a b && !O b a
def onB (n:Nat) (N O:Nat → Nat → Bool) (a b:Nat):Bool:=(List.range n).any fun c=>!decide (c=b) && O c a && !N c b
def arB (n:Nat) (O:Nat → Nat → Bool) (a b:Nat):Bool:=(List.range n).any fun c=>O a c && O c b
def beB (n:Nat) (N O:Nat → Nat → Bool) (a b:Nat):Bool:=(List.range n).any fun c=>(List.range c).any fun d=>lnB N O a c && lnB N O a d && O c b && O d b && !N c d
def ruB (n:Nat) (N O:Nat → Nat → Bool) (a b:Nat):Bool:=onB n N O a b || arB n O a b || beB n N O a b
def Ve (O:Nat → Nat → Bool) (a b:Nat):Nat → Nat → Bool:=fun u w=>O u w || (decide (u=a) && decide (b=w))
section
variable {n:Nat} {S:Nat → Nat} (hn:n≤6)
abbrev skK (n:Nat) (S:Nat → Nat):Tequal_skeleton:=⟨(n:Int),Qo (mI (nrN n S))⟩
abbrev mxK (n:Nat) (S:Nat → Nat) (O:Nat → Nat → Bool):Qd:=⟨skK n S,Qo (mI O)⟩
include hn
theorem Qpw {a c:Nat} (ha:a < n) (hc:c < n):Qj (skK n S) (a:Int) (c:Int)=some (near S a c):=by
 rw [Qe1 (by omega) (by omega),Z7,Qnm ha hc]
 have:c < 6:=by omega
 simp [this]
theorem Qd9 {O:Nat → Nat → Bool} {a c:Nat} (ha:a < n) (hc:c < n):Qm (mxK n S O) (a:Int) (c:Int)=some (O a c):=by
 have h:=Qe1 (m:=0) (N:=O) (a:=a) (c:=c) (by omega) (by omega)
 rw [Z7] at h
 have h6:c < 6:=by omega
 simp only [h6,decide_true,Bool.true_and] at h
 exact h
theorem Qru {O:Nat → Nat → Bool} {a c:Nat} (ha:a < n) (hc:c < n):Qx (mxK n S O) (a:Int) (c:Int)=some (lnB (near S) O a c):=by
 unfold Qx
 show (Qj (skK n S) (a:Int) (c:Int)).bind _=_
 rw [Qpw hn ha hc,Option.bind_some]
 unfold lnB
 cases near S a c with
 | false=>rfl
 | true =>
  rw [if_pos rfl]
  show (Qm (mxK n S O) (a:Int) (c:Int)).bind _=_
  rw [Qd9 hn ha hc,Option.bind_some]
  cases O a c with
  | true=>rfl
  | false =>
   rw [if_pos (by rfl)]
   show (Qm (mxK n S O) (c:Int) (a:Int)).bind _=_
   rw [Qd9 hn hc ha,Option.bind_some]
   cases O c a <;> rfl
theorem Q2m {O:Nat → Nat → Bool} {a b:Nat} (ha:a < n) (hb:b < n):Xx (mxK n S O) (a:Int) (b:Int)=some (onB n (near S) O a b):=by
 unfold Xx
 rw [Qjt (n:=n) (by omega) (fun c=>!decide (c=b) && O c a && !near S c b) (fun c hc=>by
   unfold Jn
   rw [if_pos (dlt hc)]
   by_cases e:c=b
   ·rw [if_neg (by simp [e]),if_neg (by simp [e])]
   ·rw [if_pos (by simp; omega)]
    show (Qm (mxK n S O) (c:Int) (a:Int)).bind _=_
    rw [Qd9 hn hc ha,Option.bind_some]
    cases hO:O c a with
    | false=>simp
    | true =>
     rw [if_pos rfl]
     show (Qj (skK n S) (c:Int) (b:Int)).bind _=_
     rw [Qpw hn hc hb,Option.bind_some]
     cases near S c b <;> simp [e])
  (by unfold Jn; rw [if_neg (nlt n)]),Option.bind_some]
 unfold onB
 cases (List.range n).any fun c=>!decide (c=b) && O c a && !near S c b <;> rfl
theorem Q2p {O:Nat → Nat → Bool} {a b:Nat} (ha:a < n) (hb:b < n):X2 (mxK n S O) (a:Int) (b:Int)=some (arB n O a b):=by
 unfold X2
 rw [Qjt (n:=n) (by omega) (fun c=>O a c && O c b) (fun c hc=>by
   unfold Jm
   rw [if_pos (dlt hc)]
   show (Qm (mxK n S O) (a:Int) (c:Int)).bind _=_
   rw [Qd9 hn ha hc,Option.bind_some]
   cases hO:O a c with
   | false=>simp
   | true =>
    rw [if_pos rfl]
    show (Qm (mxK n S O) (c:Int) (b:Int)).bind _=_
    rw [Qd9 hn hc hb,Option.bind_some]
    cases O c b <;> simp)
  (by unfold Jm; rw [if_neg (nlt n)]),Option.bind_some]
 unfold arB
 cases (List.range n).any fun c=>O a c && O c b <;> rfl
theorem Qz1 {O:Nat → Nat → Bool} {a b:Nat} (ha:a < n) (hb:b < n):Xo (mxK n S O) (a:Int) (b:Int)=some (beB n (near S) O a b):=by
 have inner:∀c,c < n→Qb fuel (Y0 (c:Int) (mxK n S O) (a:Int) (b:Int)) 0=some (if (List.range c).any (fun d=>lnB (near S) O a c && lnB (near S) O a d && O c b && O d b && !near S c d)=true then Sum.inl () else Sum.inr ()):=fun c hc =>
  Qjt (n:=c) (by omega) _ (fun d hd=>by
   have hdn:d < n:=by omega
   unfold Y0
   rw [if_pos (dlt hd)]
   show (Qx (mxK n S O) (a:Int) (c:Int)).bind _=_
   rw [Qru hn ha hc,Option.bind_some]
   cases lnB (near S) O a c with
   | false=>simp
   | true =>
    rw [if_pos rfl]
    show (Qx (mxK n S O) (a:Int) (d:Int)).bind _=_
    rw [Qru hn ha hdn,Option.bind_some]
    cases lnB (near S) O a d with
    | false=>simp
    | true =>
     rw [if_pos rfl]
     show (Qm (mxK n S O) (c:Int) (b:Int)).bind _=_
     rw [Qd9 hn hc hb,Option.bind_some]
     cases O c b with
     | false=>simp
     | true =>
      rw [if_pos rfl]
      show (Qm (mxK n S O) (d:Int) (b:Int)).bind _=_
      rw [Qd9 hn hdn hb,Option.bind_some]
      cases O d b with
      | false=>simp
      | true =>
       rw [if_pos rfl]
       show (Qj (skK n S) (c:Int) (d:Int)).bind _=_
       rw [Qpw hn hc hdn,Option.bind_some]
       cases near S c d <;> simp)
   (by unfold Y0; rw [if_neg (nlt c)])
 unfold Xo
 rw [Qjt (n:=n) (by omega) (fun c=>(List.range c).any fun d=>lnB (near S) O a c && lnB (near S) O a d && O c b && O d b && !near S c d) (fun c hc=>by
   unfold Ja
   rw [if_pos (dlt hc),inner c hc,Option.bind_some]
   cases (List.range c).any fun d=>lnB (near S) O a c && lnB (near S) O a d && O c b && O d b && !near S c d <;> rfl)
  (by unfold Ja; rw [if_neg (nlt n)]),Option.bind_some]
 unfold beB
 cases (List.range n).any fun c=>(List.range c).any fun d=>lnB (near S) O a c && lnB (near S) O a d && O c b && O d b && !near S c d <;> rfl
omit hn in
theorem Q4g {O:Nat → Nat → Bool} {a b:Nat} (ha:a < 6) (hb:b < 6):Qo (sx (mI O) a (J5 (mI O a) b))=Qo (mI (Ve O a b)):=by
 refine congrArg Qo ?_
 funext i
 unfold sx
 by_cases e:i=a
 ·subst e
  rw [if_pos rfl]
  unfold mI
  rw [Qfc hb]
  congr 2
  funext w
  unfold Ve; simp
 ·rw [if_neg e]
  unfold mI
  congr 2
  funext w
  unfold Ve; simp [e]
omit hn in
theorem Qse {x1:Tequal_skeleton} {X:Nat → Int} {a b:Nat} {r:Int} (hr:r=0∨r=1∨r=2) (ha:a < 6) {v0 v1 v2:Bool}
  (h0:Xx ⟨x1,Qo X⟩ (a:Int) (b:Int)=some v0) (h1:X2 ⟨x1,Qo X⟩ (a:Int) (b:Int)=some v1) (h2:Xo ⟨x1,Qo X⟩ (a:Int) (b:Int)=some v2) :
  Zi x1 (Qo X) (a:Int) (b:Int) r=if (if r=0 then v0 else if r=1 then v1 else v2)=true then some (.done (Sum.inl (Qo (sx X a (J5 (X a) b))))) else some (.next (zw (r+1))):=by
 have hnb:=Yo b
 have ha':a=0∨a=1∨a=2∨a=3∨a=4∨a=5:=by omega
 unfold Zi
 rcases hr with rfl | rfl | rfl
 ·rw [if_pos (by decide),if_pos rfl]
  show (Xx ⟨x1,Qo X⟩ (a:Int) (b:Int)).bind _=(if v0=true then some (Qf.done (Sum.inl (Qo (sx X a (J5 (X a) b))))) else some (Qf.next (zw (0+1))):Option (Qf Int ((Int × Int × Int × Int × Int × Int) ⊕ Unit)))
  rw [h0,Option.bind_some]
  cases v0 with
  | false=>rfl
  | true =>
   rw [if_pos rfl,if_pos rfl]
   simp only [if_pos hnb]
   rcases ha' with rfl | rfl | rfl | rfl | rfl | rfl <;> rfl
 ·rw [if_pos (by decide),if_neg (by decide),if_pos rfl]
  show (X2 ⟨x1,Qo X⟩ (a:Int) (b:Int)).bind _=(if v1=true then some (Qf.done (Sum.inl (Qo (sx X a (J5 (X a) b))))) else some (Qf.next (zw (1+1))):Option (Qf Int ((Int × Int × Int × Int × Int × Int) ⊕ Unit)))
  rw [h1,Option.bind_some]
  cases v1 with
  | false=>rfl
  | true =>
   rw [if_pos rfl,if_pos rfl]
   simp only [if_pos hnb]
   rcases ha' with rfl | rfl | rfl | rfl | rfl | rfl <;> rfl
 ·rw [if_pos (by decide),if_neg (by decide),if_neg (by decide),if_pos rfl]
  show (Xo ⟨x1,Qo X⟩ (a:Int) (b:Int)).bind _=(if v2=true then some (Qf.done (Sum.inl (Qo (sx X a (J5 (X a) b))))) else some (Qf.next (zw (2+1))):Option (Qf Int ((Int × Int × Int × Int × Int × Int) ⊕ Unit)))
  rw [h2,Option.bind_some]
  cases v2 with
  | false=>rfl
  | true =>
   rw [if_pos rfl,if_pos rfl]
   simp only [if_pos hnb]
   rcases ha' with rfl | rfl | rfl | rfl | rfl | rfl <;> rfl
end
end Go.Ab
namespace Go.Ab
open Go
set_option maxRecDepth 100000
set_option maxHeartbeats 1000000
structure Cls (n:Nat) (S T:Nat → Nat):Prop where
 gd:Gd n T
 nr:∀u w,u < n→w < n→near T u w=near S u w
 cl:cls n T=cls n S
structure Qac (n:Nat) (S:Nat → Nat) (O:Nat → Nat → Bool):Prop where
 inn:∀a b,O a b=true→a < n∧b < n
 snd:∀T,Cls n S T→∀a b,O a b=true→(T b).testBit a=true
 col:∀a b c,a≠c→a < n→b < n→c < n→V5 S a b c=true→O a b=true
def K7 (n:Nat) (S:Nat → Nat) (O:Nat → Nat → Bool):Prop:=∀a b,a < n→b < n→lnB (near S) O a b=true→ruB n (near S) O a b=false
theorem Qhz {n:Nat} {N O:Nat → Nat → Bool} {a b:Nat}:onB n N O a b=true↔∃c,c < n∧c≠b∧O c a=true∧N c b=false:=by
 unfold onB
 rw [List.any_eq_true]
 constructor
 ·rintro ⟨c,h1,h2⟩
  simp only [Bool.and_eq_true,Bool.not_eq_true',decide_eq_false_iff_not] at h2
  exact ⟨c,List.mem_range.1 h1,h2.1.1,h2.1.2,h2.2⟩
 ·rintro ⟨c,h1,h2,h3,h4⟩
  refine ⟨c,List.mem_range.2 h1,?_⟩
  simp [h2,h3,h4]
theorem Qhu {n:Nat} {O:Nat → Nat → Bool} {a b:Nat}:arB n O a b=true↔∃c,c < n∧O a c=true∧O c b=true:=by
 unfold arB
 rw [List.any_eq_true]
 constructor
 ·rintro ⟨c,h1,h2⟩
  rw [Bool.and_eq_true] at h2
  exact ⟨c,List.mem_range.1 h1,h2.1,h2.2⟩
 ·rintro ⟨c,h1,h2,h3⟩
  exact ⟨c,List.mem_range.2 h1,by rw [h2,h3]; rfl⟩
theorem Qhx {n:Nat} {N O:Nat → Nat → Bool} {a b:Nat}:beB n N O a b=true↔∃c d,c < n∧d < c∧lnB N O a c=true∧lnB N O a d=true∧O c b=true∧O d b=true∧N c d=false:=by
 unfold beB
 rw [List.any_eq_true]
 constructor
 ·rintro ⟨c,h1,h2⟩
  rw [List.any_eq_true] at h2
  obtain ⟨d,h3,h4⟩:=h2
  simp only [Bool.and_eq_true,Bool.not_eq_true'] at h4
  exact ⟨c,d,List.mem_range.1 h1,List.mem_range.1 h3,h4.1.1.1.1,h4.1.1.1.2,h4.1.1.2,h4.1.2,h4.2⟩
 ·rintro ⟨c,d,h1,h2,h3,h4,h5,h6,h7⟩
  refine ⟨c,List.mem_range.2 h1,?_⟩
  rw [List.any_eq_true]
  exact ⟨d,List.mem_range.2 h2,by rw [h3,h4,h5,h6,h7]; rfl⟩
theorem Qb5 {N O:Nat → Nat → Bool} {a b:Nat}:lnB N O a b=true↔N a b=true∧O a b=false∧O b a=false:=by
 unfold lnB
 simp only [Bool.and_eq_true,Bool.not_eq_true']
 exact and_assoc
theorem Qw3 {n:Nat} {S T:Nat → Nat} {O:Nat → Nat → Bool} (hS:Gd n S) (h:Qac n S O) {a b:Nat} (ha:a < n) (hb:b < n) (hl:lnB (near S) O a b=true) (hr:ruB n (near S) O a b=true) (hT:Cls n S T):(T b).testBit a=true:=by
 obtain ⟨l1,l2,l3⟩:=Qb5.1 hl
 obtain ⟨r,hrk⟩:=Qde hT.gd
 have hn:near T a b=true:=by rw [hT.nr a b ha hb]; exact l1
 unfold near at hn
 rw [Bool.or_eq_true] at hn
 rcases hn with hn | hn
 ·exfalso
  have col:∀p q,p≠q→p < n→q < n→(T a).testBit p=true→(T a).testBit q=true→near S p q=false→O p a=true:=fun p q hpq hp hq e1 e2 e3=>by
   refine h.col p a q hpq hp ha hq ?_
   rw [←Qpn hT.cl hT.gd hS hpq hp hq ha]
   unfold V5
   rw [e1,e2,hT.nr p q hp hq,e3]; rfl
  unfold ruB at hr
  rw [Bool.or_eq_true,Bool.or_eq_true] at hr
  rcases hr with (hr | hr) | hr
  ·obtain ⟨c,h1,h2,h3,h4⟩:=Qhz.1 hr
   have:=col b c (fun e=>h2 e.symm) hb h1 hn (h.snd T hT c a h3) (by rw [near_symm]; exact h4)
   rw [l3] at this; cases this
  ·obtain ⟨c,h1,h2,h3⟩:=Qhu.1 hr
   have g1:=hrk c h1 a (h.snd T hT a c h2)
   have g2:=hrk b hb c (h.snd T hT c b h3)
   have g3:=hrk a ha b hn
   omega
  ·obtain ⟨c,d,h1,h2,h3,h4,h5,h6,h7⟩:=Qhx.1 hr
   have key:∀c,c < n→lnB (near S) O a c=true→O c b=true→(T a).testBit c=true:=fun c hc hl hcb=>by
    have e1:near T a c=true:=by rw [hT.nr a c ha hc]; exact (Qb5.1 hl).1
    unfold near at e1
    rw [Bool.or_eq_true] at e1
    rcases e1 with e1 | e1
    ·exact e1
    ·have g1:=hrk c hc a e1
     have g2:=hrk b hb c (h.snd T hT c b hcb)
     have g3:=hrk a ha b hn
     omega
   have hd:d < n:=by omega
   have:=col c d (by omega) h1 hd (key c h1 h3 h5) (key d hd h4 h6) h7
   rw [(Qb5.1 h3).2.2] at this; cases this
 ·exact hn
theorem Q1i {n:Nat} {S:Nat → Nat} {O:Nat → Nat → Bool} (hS:Gd n S) (h:Qac n S O) {a b:Nat} (ha:a < n) (hb:b < n) (hl:lnB (near S) O a b=true) (hr:ruB n (near S) O a b=true):Qac n S (Ve O a b):=by
 have key:∀u w,Ve O a b u w=true→O u w=true∨(u=a∧w=b):=fun u w e=>by
  unfold Ve at e
  rw [Bool.or_eq_true,Bool.and_eq_true] at e
  rcases e with e | ⟨e1,e2⟩
  ·exact .inl e
  ·exact .inr ⟨of_decide_eq_true e1,(of_decide_eq_true e2).symm⟩
 refine ⟨fun u w e=>?_,fun T hT u w e=>?_,fun u v w h1 h2 h3 h4 h5=>?_⟩
 ·rcases key u w e with e | ⟨rfl,rfl⟩
  ·exact h.inn u w e
  ·exact ⟨ha,hb⟩
 ·rcases key u w e with e | ⟨rfl,rfl⟩
  ·exact h.snd T hT u w e
  ·exact Qw3 hS h ha hb hl hr hT
 ·unfold Ve; rw [h.col u v w h1 h2 h3 h4 h5]; rfl
section
variable {n:Nat} {S:Nat → Nat} (hn:n≤6)
include hn
theorem Qw0 {O:Nat → Nat → Bool} {a b:Nat} (ha:a < n) (hb:b < n) :
  Qb fuel (Zi (skK n S) (Qo (mI O)) (a:Int) (b:Int)) 0=some (if ruB n (near S) O a b=true then Sum.inl (Qo (mI (Ve O a b))) else Sum.inr ()):=by
 have h0:=Q2m (S:=S) (O:=O) hn ha hb
 have h1:=Q2p (S:=S) (O:=O) hn ha hb
 have h2:=Qz1 (S:=S) (O:=O) hn ha hb
 have e:=Q4g (O:=O) (a:=a) (b:=b) (by omega) (by omega)
 have r0:=Qse (x1:=skK n S) (X:=mI O) (a:=a) (b:=b) (r:=0) (.inl rfl) (by omega) h0 h1 h2
 have r1:=Qse (x1:=skK n S) (X:=mI O) (a:=a) (b:=b) (r:=1) (.inr (.inl rfl)) (by omega) h0 h1 h2
 have r2:=Qse (x1:=skK n S) (X:=mI O) (a:=a) (b:=b) (r:=2) (.inr (.inr rfl)) (by omega) h0 h1 h2
 rw [e] at r0 r1 r2
 have r3:Zi (skK n S) (Qo (mI O)) (a:Int) (b:Int) 3=some (.done (Sum.inr ())):=by
  unfold Zi; rw [if_neg (by decide)]
 replace r0:Zi (skK n S) (Qo (mI O)) (a:Int) (b:Int) 0=(if onB n (near S) O a b=true then some (Qf.done (Sum.inl (Qo (mI (Ve O a b))))) else some (Qf.next (zw ((0:Int)+1))):Option (Qf Int ((Int × Int × Int × Int × Int × Int) ⊕ Unit))):=r0
 replace r1:Zi (skK n S) (Qo (mI O)) (a:Int) (b:Int) 1=(if arB n O a b=true then some (Qf.done (Sum.inl (Qo (mI (Ve O a b))))) else some (Qf.next (zw ((1:Int)+1))):Option (Qf Int ((Int × Int × Int × Int × Int × Int) ⊕ Unit))):=r1
 replace r2:Zi (skK n S) (Qo (mI O)) (a:Int) (b:Int) 2=(if beB n (near S) O a b=true then some (Qf.done (Sum.inl (Qo (mI (Ve O a b))))) else some (Qf.next (zw ((2:Int)+1))):Option (Qf Int ((Int × Int × Int × Int × Int × Int) ⊕ Unit))):=r2
 unfold ruB
 have hf:fuel=(fuel - 4)+1+1+1+1:=by unfold fuel; rfl
 rw [hf]
 simp only [Qb,r0]
 cases hb0:onB n (near S) O a b with
 | true=>simp
 | false =>
  simp only [Bool.false_eq_true,if_false,Bool.false_or]
  rw [show zw ((0:Int)+1)=1 from rfl,r1]
  cases hb1:arB n O a b with
  | true=>simp
  | false =>
   simp only [Bool.false_eq_true,if_false,Bool.false_or]
   rw [show zw ((1:Int)+1)=2 from rfl,r2]
   cases hb2:beB n (near S) O a b with
   | true=>simp
   | false =>
    simp only [Bool.false_eq_true,if_false]
    rw [show zw ((2:Int)+1)=3 from rfl,r3]
def Q01 (n:Nat) (S:Nat → Nat) (O:Nat → Nat → Bool) (a:Nat) (r:(Int × Int × Int × Int × Int × Int) ⊕ Unit):Prop :=
 (∃b,b < n∧lnB (near S) O a b=true∧ruB n (near S) O a b=true∧r=Sum.inl (Qo (mI (Ve O a b))))∨((∀b,b < n→lnB (near S) O a b=true→ruB n (near S) O a b=false)∧r=Sum.inr ())
theorem Qy4 {O:Nat → Nat → Bool} {a:Nat} (ha:a < n):∃r,Qb fuel (X0 (skK n S) (Qo (mI O)) (a:Int)) 0=some r∧Q01 n S O a r:=by
 have h:=Kl (n:=n) (k0:=0) (by omega) (by omega) (fun i (_:Unit)=>i) (body:=X0 (skK n S) (Qo (mI O)) (a:Int)) (fun k _=>∀b,b < k→lnB (near S) O a b=true→ruB n (near S) O a b=false) (Q01 n S O a)
  (fun b t _ hb hI=>by
   have e:X0 (skK n S) (Qo (mI O)) (a:Int) (b:Int)=if lnB (near S) O a b=true∧ruB n (near S) O a b=true then some (.done (Sum.inl (Qo (mI (Ve O a b))))) else some (.next (zw ((b:Int)+1))):=by
    unfold X0
    rw [if_pos (dlt hb)]
    show (Qx (mxK n S O) (a:Int) (b:Int)).bind _=_
    rw [Qru hn ha hb,Option.bind_some]
    cases hl:lnB (near S) O a b with
    | false=>simp
    | true =>
     rw [if_neg (by simp),Qw0 hn ha hb,Option.bind_some]
     cases hr:ruB n (near S) O a b with
     | true=>simp
     | false=>simp
   by_cases hc:lnB (near S) O a b=true∧ruB n (near S) O a b=true
   ·right
    exact ⟨_,by rw [e,if_pos hc],.inl ⟨b,hb,hc.1,hc.2,rfl⟩⟩
   ·left
    refine ⟨(),by rw [e,if_neg hc],fun b' hb' hl=>?_⟩
    by_cases e2:b'=b
    ·subst e2; exact Bool.eq_false_iff.2 fun hr=>hc ⟨hl,hr⟩
    ·exact hI b' (by omega) hl)
  (fun t hI=>⟨_,by unfold X0; rw [if_neg (nlt n)],.inr ⟨hI,rfl⟩⟩) () (fun b hb=>by omega)
 exact h
theorem Qx3 {O:Nat → Nat → Bool}:∃r,Qb fuel (Xz (skK n S) (Qo (mI O))) 0=some r∧((∃a,a < n∧∃b,b < n∧lnB (near S) O a b=true∧ruB n (near S) O a b=true∧r=Sum.inl (Qo (mI (Ve O a b))))∨(K7 n S O∧r=Sum.inr ())):=by
 have h:=Kl (n:=n) (k0:=0) (by omega) (by omega) (fun i (_:Unit)=>i) (body:=Xz (skK n S) (Qo (mI O))) (fun k _=>∀a,a < k→∀b,b < n→lnB (near S) O a b=true→ruB n (near S) O a b=false)
  (fun r=>(∃a,a < n∧∃b,b < n∧lnB (near S) O a b=true∧ruB n (near S) O a b=true∧r=Sum.inl (Qo (mI (Ve O a b))))∨(K7 n S O∧r=Sum.inr ()))
  (fun a t _ ha hI=>by
   obtain ⟨r,h1,h2⟩:=Qy4 (S:=S) (O:=O) hn ha
   rcases h2 with ⟨b,hb,hl,hr,rfl⟩ | ⟨h2,rfl⟩
   ·right
    refine ⟨_,?_,.inl ⟨a,ha,b,hb,hl,hr,rfl⟩⟩
    unfold Xz
    rw [if_pos (dlt ha),h1]; rfl
   ·left
    refine ⟨(),?_,fun a' ha'=>?_⟩
    ·unfold Xz
     rw [if_pos (dlt ha),h1]; rfl
    ·by_cases e:a'=a
     ·subst e; exact h2
     ·exact hI a' (by omega))
  (fun t hI=>⟨_,by unfold Xz; rw [if_neg (nlt n)],.inr ⟨fun a b ha hb hl=>hI a ha b hb hl,rfl⟩⟩) () (fun a ha=>by omega)
 exact h
end
end Go.Ab
namespace Go.Ab
open Go
set_option maxRecDepth 100000
set_option maxHeartbeats 1000000
theorem Qvw {O:Nat → Nat → Bool} {a b:Nat} (hb:b < 6):sx (mI O) a (J5 (mI O a) b)=mI (Ve O a b):=by
 funext i
 unfold sx
 by_cases e:i=a
 ·subst e
  rw [if_pos rfl]
  unfold mI
  rw [Qfc hb]
  congr 2
  funext w
  unfold Ve; simp
 ·rw [if_neg e]
  unfold mI
  congr 2
  funext w
  unfold Ve; simp [e]
theorem Q2z {x3:List (Int × Int × Int)} {X:Nat → Int} {k a b c:Nat} (hk:decide ((k:Int) < (x3.length:Int))=true) (hl:lkI x3 (k:Int)=some ((a:Int),(b:Int),(c:Int))) (ha:a < 6) (hc:c < 6) :
  Xw x3 ((k:Int),Qo X)=some (.next (zw ((k:Int)+1),Qo (sx (sx X a (J5 (X a) b)) c (J5 (sx X a (J5 (X a) b) c) b)))):=by
 have hnb:=Yo b
 unfold Xw
 dsimp only
 rw [if_pos hk,hl,Option.bind_some]
 dsimp only
 have ha':a=0∨a=1∨a=2∨a=3∨a=4∨a=5:=by omega
 have hc':c=0∨c=1∨c=2∨c=3∨c=4∨c=5:=by omega
 simp only [if_pos hnb]
 clear hk hl
 rcases ha' with rfl | rfl | rfl | rfl | rfl | rfl <;> rcases hc' with rfl | rfl | rfl | rfl | rfl | rfl <;> rfl
def Q4d (L:List (Int × Int × Int)) (k:Nat) (O:Nat → Nat → Bool):Prop:=∀u w,O u w=true↔∃i,i < k∧∃a b c:Nat,L[i]?=some ((a:Int),(b:Int),(c:Int))∧w=b∧(u=a∨u=c)
section
variable {n:Nat} {S:Nat → Nat} (hn:n≤6) (hS:Gd n S)
include hn hS
theorem Qy1:∃O,Qb fuel (Xw (cls n S)) (0,0,0,0,0,0,0)=some (Qo (mI O))∧Qac n S O:=by
 have hcl:=Qpv (n:=n) (S:=S) (by omega)
 have h:=Kl (n:=(cls n S).length) (k0:=0) (by omega) (by omega) (fun i (x:Int × Int × Int × Int × Int × Int)=>(i,x)) (body:=Xw (cls n S))
  (fun k x=>∃O,x=Qo (mI O)∧Q4d (cls n S) k O) (fun r=>∃O,r=Qo (mI O)∧Q4d (cls n S) (cls n S).length O)
  (fun k x _ hk hI=>by
   left
   obtain ⟨O,rfl,hO⟩:=hI
   obtain ⟨a,b,c,h1,h2,h3,h4,h5⟩:=Qhw.1 (List.getElem_mem hk)
   rw [Q2z (a:=a) (b:=b) (c:=c) (dlt hk) (by rw [Zo hk,h5]) (by omega) (by omega),Qvw (by omega),Qvw (by omega)]
   refine ⟨_,rfl,_,rfl,fun u w=>?_⟩
   have e:Ve (Ve O a b) c b u w=true↔O u w=true∨(w=b∧(u=a∨u=c)):=by
    unfold Ve
    simp only [Bool.or_eq_true,Bool.and_eq_true,decide_eq_true_eq]
    constructor
    ·rintro ((h | ⟨rfl,rfl⟩) | ⟨rfl,rfl⟩)
     ·exact .inl h
     ·exact .inr ⟨rfl,.inl rfl⟩
     ·exact .inr ⟨rfl,.inr rfl⟩
    ·rintro (h | ⟨rfl,rfl | rfl⟩)
     ·exact .inl (.inl h)
     ·exact .inl (.inr ⟨rfl,rfl⟩)
     ·exact .inr ⟨rfl,rfl⟩
   rw [e,hO u w]
   constructor
   ·rintro (⟨i,hi,h⟩ | h)
    ·exact ⟨i,by omega,h⟩
    ·exact ⟨k,by omega,a,b,c,by rw [List.getElem?_eq_getElem hk,h5],h⟩
   ·rintro ⟨i,hi,a',b',c',h6,h7⟩
    by_cases e:i=k
    ·subst e
     right
     rw [List.getElem?_eq_getElem hk,h5] at h6
     simp only [Option.some.injEq,Prod.mk.injEq,Int.ofNat_inj] at h6
     obtain ⟨rfl,rfl,rfl⟩:=h6
     exact h7
    ·exact .inl ⟨i,by omega,a',b',c',h6,h7⟩)
  (fun x hI=>by
   obtain ⟨O,rfl,hO⟩:=hI
   refine ⟨Qo (mI O),?_,O,rfl,hO⟩
   unfold Xw
   dsimp only
   rw [if_neg (nlt _)]) (0,0,0,0,0,0) ⟨fun _ _=>false,(by
    have:∀m,msk m (fun _=>false)=0:=fun m=>by
     induction m with
     | zero=>rfl
     | succ m ih=>simp [msk,ih]
    unfold Qo mI
    rw [this 6]; rfl),fun u w=>⟨fun h=>(by cases h),fun ⟨i,hi,_⟩=>(by omega)⟩⟩
 obtain ⟨r,h1,O,rfl,hO⟩:=h
 rw [show ((0:Nat):Int)=0 from rfl] at h1
 refine ⟨O,h1,?_⟩
 have key:∀u w,O u w=true↔∃c,u≠c∧u < n∧w < n∧c < n∧V5 S u w c=true:=fun u w=>by
  rw [hO u w]
  constructor
  ·rintro ⟨i,hi,a,b,c,h2,rfl,h3⟩
   obtain ⟨a',b',c',h4,h5,h6,h7,h8⟩:=Qhw.1 (List.mem_of_getElem? h2)
   simp only [Prod.mk.injEq,Int.ofNat_inj] at h8
   obtain ⟨rfl,rfl,rfl⟩:=h8
   rcases h3 with rfl | rfl
   ·exact ⟨c,by omega,by omega,h6,h5,h7⟩
   ·exact ⟨a,by omega,h5,h6,by omega,by rw [colB_symm]; exact h7⟩
  ·rintro ⟨c,h2,h3,h4,h5,h6⟩
   rcases Nat.lt_or_gt_of_ne h2 with h7 | h7
   ·obtain ⟨i,hi⟩:=List.mem_iff_getElem?.1 ((Qhw (n:=n) (S:=S) (p:=((u:Int),(w:Int),(c:Int)))).2 ⟨u,w,c,h7,h5,h4,h6,rfl⟩)
    exact ⟨i,(List.getElem?_eq_some_iff.1 hi).1,u,w,c,hi,rfl,.inl rfl⟩
   ·obtain ⟨i,hi⟩:=List.mem_iff_getElem?.1 ((Qhw (n:=n) (S:=S) (p:=((c:Int),(w:Int),(u:Int)))).2 ⟨c,w,u,h7,h3,h4,by rw [colB_symm]; exact h6,rfl⟩)
    exact ⟨i,(List.getElem?_eq_some_iff.1 hi).1,c,w,u,hi,rfl,.inr rfl⟩
 refine ⟨fun a b e=>?_,fun T hT a b e=>?_,fun a b c h1 h2 h3 h4 h5=>(key a b).2 ⟨c,h1,h2,h3,h4,h5⟩⟩
 ·obtain ⟨c,_,h2,h3,_⟩:=(key a b).1 e
  exact ⟨h2,h3⟩
 ·obtain ⟨c,h1,h2,h3,h4,h5⟩:=(key a b).1 e
  rw [←Qpn hT.cl hT.gd hS h1 h2 h4 h3] at h5
  unfold V5 at h5
  simp only [Bool.and_eq_true] at h5
  exact h5.1.1
def eL2 (n:Nat) (p:Nat → Nat → Bool):List (Int × Int):=apL (fun a=>apL (fun b=>if p a b=true then [((a:Int),(b:Int))] else []) 0 n) 0 n
omit hn hS in
theorem Qq2 {α β σ ρ:Type} {n m:Nat} (hn:n≤6) (mkS:Int→List α→List β→σ) {body:σ→Option (Qf σ ρ)} (L:Nat → List α) (M:Nat → List β) (fin:List α→List β→ρ) (hL:∀k,(L k).length≤6) (hM:∀k,(M k).length≤6) {out:List α} {out2:List β} (hout:out.length≤100) (hout2:out2.length≤100)
  (step:∀k o o2,k < n→o.length≤200→o2.length≤200→body (mkS (k:Int) o o2)=some (.next (mkS (zw ((k:Int)+1)) (o++L k) (o2++M k))))
  (done:∀o o2,body (mkS (n:Int) o o2)=some (.done (fin o o2))):Qb fuel body (mkS 0 out out2)=some (fin (out++apL L 0 n) (out2++apL M 0 n)):=by
 have h:=Vn (n:=n) (k0:=0) (by omega) (by omega) (fun i (x:List α × List β)=>mkS i x.1 x.2) (body:=body) (fun k=>(out++apL L 0 k,out2++apL M 0 k)) (fin (out++apL L 0 n) (out2++apL M 0 n))
  (fun k _ h2=>by
   have hb:=Z6 (k0:=0) hL k
   have hb2:=Z6 (k0:=0) hM k
   dsimp only
   rw [step k _ _ h2 (by rw [List.length_append]; omega) (by rw [List.length_append]; omega)]
   simp only [apL,Nat.zero_add,List.append_assoc])
  (by exact done _ _)
 rw [show ((0:Nat):Int)=0 from rfl] at h
 simpa [apL] using h
omit hS in
theorem Qww {O:Nat → Nat → Bool}:Qb fuel (Y5 (skK n S) (Qo (mI O))) (0,([]:List (Int × Int)),([]:List (Int × Int)))=some (eL2 n O,eL2 n fun a b=>decide (a < b) && lnB (near S) O a b):=by
 have hif:∀(c:Bool) (x:Int × Int),(if c=true then [x] else []).length≤6:=fun c x=>by cases c <;> simp
 have inner:∀a,a < n→∀(o o2:List (Int × Int)) (s:Int × List (Int × Int) × List (Int × Int)),s.1=(a:Int)→o.length≤100→o2.length≤100→Qb fuel (Y4 (skK n S) (Qo (mI O)) s) (0,o,o2)=some (o++apL (fun b=>if O a b=true then [((a:Int),(b:Int))] else []) 0 n,o2++apL (fun b=>if (decide (a < b) && lnB (near S) O a b)=true then [((a:Int),(b:Int))] else []) 0 n):=fun a ha o o2 s hs ho ho2 =>
  Qq2 (m:=0) hn (fun i x y=>(i,x,y)) (body:=Y4 (skK n S) (Qo (mI O)) s) _ _ (fun x y=>(x,y)) (fun k=>hif _ _) (fun k=>hif _ _) ho ho2
   (fun b o o2 hb ho ho2=>by
    unfold Y4
    dsimp only
    rw [if_pos (dlt hb),hs]
    show (Qm (mxK n S O) (a:Int) (b:Int)).bind _=_
    rw [Qd9 hn ha hb,Option.bind_some]
    have hline:Qx (mxK n S O) (a:Int) (b:Int)=some (lnB (near S) O a b):=Qru hn ha hb
    have hlt:(decide ((a:Int) < (b:Int)))=decide (a < b):=by rw [Bool.eq_iff_iff]; simp
    rw [hlt]
    have l1:(o++([((a:Int),(b:Int))]:List (Int × Int))).length*16≤140737488355328:=by rw [List.length_append,List.length_singleton]; omega
    have l2:(o2++([((a:Int),(b:Int))]:List (Int × Int))).length*16≤140737488355328:=by rw [List.length_append,List.length_singleton]; omega
    cases hO:O a b with
    | true =>
     rw [if_pos rfl,if_pos l1]
     cases hd:decide (a < b) with
     | true =>
      rw [if_pos rfl]
      show (Qx (mxK n S O) (a:Int) (b:Int)).bind _=_
      rw [hline,Option.bind_some]
      cases hl:lnB (near S) O a b with
      | true=>rw [if_pos rfl,if_pos l2]; simp
      | false=>simp
     | false=>simp
    | false =>
     rw [if_neg (by decide)]
     cases hd:decide (a < b) with
     | true =>
      rw [if_pos rfl]
      show (Qx (mxK n S O) (a:Int) (b:Int)).bind _=_
      rw [hline,Option.bind_some]
      cases hl:lnB (near S) O a b with
      | true=>rw [if_pos rfl,if_pos l2]; simp
      | false=>simp
     | false=>simp)
   (fun o o2=>by unfold Y4; dsimp only; rw [if_neg (nlt n)])
 have hlen:∀(p:Nat → Nat → Bool) a,(apL (fun b=>if p a b=true then [((a:Int),(b:Int))] else []) 0 n).length≤6:=fun p a=>by
  have:=Z6 (L:=fun b=>if p a b=true then [((a:Int),(b:Int))] else []) (k0:=0) (m:=1) (fun _=>Js) n
  omega
 have h:=Vn (n:=n) (k0:=0) (by omega) (by omega) (fun i (x:List (Int × Int) × List (Int × Int))=>(i,x.1,x.2)) (body:=Y5 (skK n S) (Qo (mI O)))
  (fun k=>(apL (fun a=>apL (fun b=>if O a b=true then [((a:Int),(b:Int))] else []) 0 n) 0 k,apL (fun a=>apL (fun b=>if (decide (a < b) && lnB (near S) O a b)=true then [((a:Int),(b:Int))] else []) 0 n) 0 k))
  (eL2 n O,eL2 n fun a b=>decide (a < b) && lnB (near S) O a b)
  (fun k _ hk=>by
   have l1:=Z6 (k0:=0) (hlen O) k
   have l2:=Z6 (k0:=0) (hlen fun a b=>decide (a < b) && lnB (near S) O a b) k
   unfold Y5
   dsimp only
   rw [if_pos (dlt hk),inner k hk _ _ _ rfl (by omega) (by omega),Option.bind_some]
   simp only [apL,Nat.zero_add])
  (by unfold Y5; dsimp only; rw [if_neg (nlt n)]; rfl)
 rw [show ((0:Nat):Int)=0 from rfl] at h
 exact h
def Qsn (O:Nat → Nat → Bool):Nat := cnt 36 fun k=>O (k / 6) (k % 6)
omit hn hS in
theorem Qzm {O:Nat → Nat → Bool} {a b:Nat} (ha:a < 6) (hb:b < 6) (h:O a b=false):Qsn O+1≤Qsn (Ve O a b):=by
 unfold Qsn
 have hk:a*6+b < 36:=by omega
 have hd:(a*6+b) / 6=a:=by omega
 have hm:(a*6+b) % 6=b:=by omega
 have e:=Qqp (n:=36) (v:=a*6+b) (p:=fun k=>Ve O a b (k / 6) (k % 6)) hk (by rw [hd,hm]; unfold Ve; simp)
 rw [←e]
 refine Nat.add_le_add_right (Qnu fun i hi hO=>?_) 1
 have hne:¬ a*6+b=i:=fun e2=>by
  subst e2
  rw [hd,hm,h] at hO; cases hO
 unfold Ve
 rw [hO]; simp [hne]
theorem Qt4:∀(j N:Nat) (O:Nat → Nat → Bool),36 - Qsn O≤j→j < N→Qac n S O →
  ∃O',Qb N (Xa (skK n S)) (Qo (mI O))=some (eL2 n O',eL2 n fun a b=>decide (a < b) && lnB (near S) O' a b)∧Qac n S O'∧K7 n S O'
 | j,0,O,_,h2,_=>by omega
 | j,N+1,O,h1,h2,hO=>by
  obtain ⟨r,h3,h4⟩:=Qx3 (S:=S) (O:=O) hn
  unfold Qb
  rcases h4 with ⟨a,ha,b,hb,hl,hr,rfl⟩ | ⟨hc,rfl⟩
  ·have e:Xa (skK n S) (Qo (mI O))=some (.next (Qo (mI (Ve O a b)))):=by
    unfold Xa; rw [h3]; rfl
   rw [e]
   have hc:=Qzm (O:=O) (a:=a) (b:=b) (by omega) (by omega) (Qb5.1 hl).2.1
   have hle:Qsn (Ve O a b)≤36:=Qr7 36 _
   match j,h1,h2 with
   | 0,h1,h2=>omega
   | j+1,h1,h2=>exact Qt4 j N _ (by omega) (by omega) (Q1i hS hO ha hb hl hr)
  ·refine ⟨O,?_,hO,hc⟩
   have e:Xa (skK n S) (Qo (mI O))=some (.done (eL2 n O,eL2 n fun a b=>decide (a < b) && lnB (near S) O a b)):=by
    unfold Xa
    rw [h3,Option.bind_some]
    dsimp only
    rw [Qww hn]; rfl
   rw [e]
theorem Qke:∃O,X5 (Qg n S)=some ⟨(n:Int),eL2 n O,eL2 n fun a b=>decide (a < b) && lnB (near S) O a b⟩∧Qac n S O∧K7 n S O:=by
 obtain ⟨O,h1,h2⟩:=Qy1 (S:=S) hn hS
 obtain ⟨O',h3,h4,h5⟩:=Qt4 (S:=S) hn hS 36 fuel O (by omega) (by unfold fuel; omega) h2
 refine ⟨O',?_,h4,h5⟩
 unfold X5
 rw [Qas hn hS,Option.bind_some,Qbj hn hS,Option.bind_some,h1,Option.bind_some]
 show (Qb fuel (Xa (skK n S)) (Qo (mI O))).bind _=_
 rw [h3]; rfl
end
end Go.Ab
namespace Go.Ab
open Go
set_option maxRecDepth 100000
set_option maxHeartbeats 1000000
def tbB (m k:Nat):Bool:=Nat.beq (Nat.land (Nat.shiftRight m k) 1) 1
theorem Qxf {m k:Nat}:tbB m k=m.testBit k:=by
 rw [Nat.testBit_eq_decide_div_mod_eq]
 show Nat.beq (m >>> k &&& 1) 1=_
 rw [Nat.and_one_is_mod,Nat.shiftRight_eq_div_pow]
 rcases Nat.mod_two_eq_zero_or_one (m / 2^k) with h | h <;> rw [h] <;> rfl
def egI (i j:Nat):Nat := j*(j - 1) / 2+i
def eB (c i j:Nat):Bool:=tbB c (egI i j)
def ajB (c u w:Nat):Bool:=cond (Nat.blt u w) (eB c u w) (cond (Nat.blt w u) (eB c w u) false)
def paB (c f u v:Nat):Bool:=cond (Nat.blt u v) (eB c u v && !eB f u v) (cond (Nat.blt v u) (eB c v u && eB f v u) false)
def r5:List Nat := [0,1,2,3,4]
def icB (c a b:Nat):Bool:=paB c 0 a b && r5.any fun x=>!Nat.beq x a && paB c 0 x b && !ajB c a x
def knB (c:Nat) (G:List Nat) (a b:Nat):Bool:=icB c a b || G.any fun x=>Nat.beq x (5*a+b)
def stB (c:Nat) (G:List Nat) (a b:Nat):Bool :=
 (r5.any fun u=>!Nat.beq u b && knB c G u a && !ajB c u b) || (r5.any fun u=>knB c G a u && knB c G u b) ||
 (r5.any fun u=>r5.any fun w=>Nat.blt w u && ajB c a u && ajB c a w && knB c G u b && knB c G w b && !ajB c u w && !(paB c 0 u a && paB c 0 w a))
def drB (c:Nat):List Nat → List Nat → Bool
 | _,[]=>true
 | G,x::l=>paB c 0 (x / 5) (x % 5) && stB c G (x / 5) (x % 5) && drB c (x::G) l
def tM (c f v:Nat):Nat := msk 5 fun u=>paB c f u v
def clB (c f a b d:Nat):Bool:=paB c f a b && paB c f d b && !ajB c a d
def wtB (c f:Nat):Bool:=Nat.beq (pls 5 (tM c f) 5) 31 && r5.all fun b=>r5.all fun a=>r5.all fun d=>!Nat.blt a d || (clB c f a b d==clB c 0 a b d)
def cvB (c:Nat) (D W:List Nat):Bool:=r5.all fun a=>r5.all fun b=>!paB c 0 a b || icB c a b || (D.any fun x=>Nat.beq x (5*a+b)) || W.any fun f=>eB f a b
def chB (c:Nat) (D W:List Nat):Bool:=drB c [] D && W.all (wtB c) && cvB c D W
def chL:Nat → List (List Nat × List Nat)→Bool
 | _,[]=>true
 | c,x::l=>chB c x.1 x.2 && chL (c+1) l
theorem Vj : ∀(l:List (List Nat × List Nat)) (c:Nat),chL c l=true→∀i,i < l.length→∃D W,chB (c+i) D W=true
 | [],_,_,i,hi=>by simp at hi
 | x::l,c,h,i,hi=>by
  simp only [chL,Bool.and_eq_true] at h
  cases i with
  | zero=>exact ⟨_,_,h.1⟩
  | succ i =>
   have:=Vj l (c+1) h.2 i (by simpa using hi)
   rwa [show c+1+i=c+(i+1) by omega] at this
def tW0:List (List Nat × List Nat):=[([],[]),([],[1]),([],[2]),([],[1,2]),([],[4]),([],[5]),([],[]),([],[7]),([],[8]),([],[1,8]),([],[2,8]),([],[1,2,8]),([],[12]),([],[5,8]),([],[8]),([],[7,8]),([],[16]),([],[17]),([],[18]),([],[17,2]),([],[4,16]),([],[5,17]),([],[16]),([],[7,17]),([],[]),([],[25]),([],[2]),([],[25,2]),([],[4]),([],[13,16]),([],[]),([],[7,24]),([],[32]),([],[33]),([],[34]),([],[34,1]),([],[36]),([],[37]),([13],[]),([],[39]),([],[]),([],[1]),([],[42]),([],[42,1]),([],[4]),([],[5]),([13,3],[]),([],[46,1]),([],[]),([],[1]),([],[2]),([],[1,2]),([],[52]),([],[53]),([13,8],[]),([],[55]),([],[]),([],[1]),([],[2]),([3],[1,2]),([],[4]),([8],[5]),([],[32]),([],[63])]
def tW1:List (List Nat × List Nat):=[([],[64]),([],[1,64]),([],[2,64]),([],[1,2,64]),([],[68]),([],[5,64]),([],[64]),([],[7,64]),([],[8,64]),([],[1,8,64]),([],[2,8,64]),([],[1,2,8,64]),([],[68,8]),([],[5,64,8]),([],[8,64]),([],[7,64,8]),([],[80]),([],[17,64]),([],[18,64]),([],[17,2,64]),([],[68,16]),([],[5,17,64]),([],[80]),([],[7,64,17]),([],[64]),([],[25,64]),([],[2,64]),([],[25,64,2]),([],[68]),([],[13,80]),([],[64]),([],[7,80,9]),([],[96]),([],[33,64]),([],[34,64]),([],[34,1,64]),([],[100]),([],[37,64]),([13],[64]),([],[39,64]),([],[64]),([],[1,64]),([],[42,64]),([],[42,1,64]),([],[68]),([],[5,64]),([13,3],[64]),([],[46,1,64]),([],[64]),([],[1,64]),([],[2,64]),([],[1,2,64]),([],[116]),([],[53,64]),([13,8],[64]),([],[55,64]),([],[64]),([],[1,64]),([],[2,64]),([3],[1,2,64]),([],[68]),([8],[5,64]),([],[96]),([],[63,64])]
def tW2:List (List Nat × List Nat):=[([],[128]),([],[129]),([],[130]),([],[129,2]),([],[4,128]),([],[5,129]),([],[128]),([],[7,129]),([],[136]),([],[129,8]),([],[130,8]),([],[129,2,8]),([],[12,128]),([],[5,129,8]),([],[136]),([],[7,8,129]),([],[16,128]),([],[17,129]),([],[18,128]),([],[17,2,129]),([],[4,16,128]),([],[5,17,129]),([],[16,128]),([],[7,129,17]),([],[128]),([],[25,129]),([],[130]),([],[137,18]),([],[4,128]),([],[13,129,16]),([],[128]),([],[137,6,16]),([],[160]),([],[161]),([],[162]),([],[34,129]),([],[36,128]),([],[37,129]),([13],[128]),([],[39,129]),([],[128]),([],[129]),([],[170]),([],[161,10]),([],[4,128]),([],[5,129]),([13,3],[128]),([],[46,129]),([],[128]),([],[129]),([],[130]),([],[129,2]),([],[52,128]),([],[53,129]),([13,8],[128]),([],[55,129]),([],[128]),([],[129]),([],[130]),([3],[129,2]),([],[4,128]),([8],[5,129]),([],[160]),([],[63,129])]
def tW3:List (List Nat × List Nat):=[([],[]),([],[193]),([],[2]),([],[193,2]),([],[4]),([],[69,128]),([],[]),([],[193,6]),([],[8]),([],[193,8]),([],[2,8]),([],[193,8,2]),([],[12]),([],[69,136]),([],[8]),([],[193,12,3]),([],[16]),([],[81,128]),([],[18]),([],[193,2,17]),([],[4,16]),([],[69,128,17]),([],[16]),([],[193,6,17]),([],[]),([],[193,24]),([],[2]),([],[193,24,2]),([],[4]),([],[69,24,128]),([],[]),([],[193,6,24]),([],[32]),([],[225]),([],[34]),([],[193,34]),([],[36]),([],[101,128]),([13],[]),([],[39,192]),([],[]),([],[193]),([],[42]),([],[225,10]),([],[4]),([],[69,128]),([13,3],[]),([],[46,193]),([],[]),([],[193]),([],[2]),([],[193,2]),([],[52]),([],[117,128]),([13,8],[]),([],[55,192]),([],[]),([],[193]),([],[2]),([3],[193,2]),([],[4]),([8],[69,128]),([],[32]),([],[63,192])]
def tW4:List (List Nat × List Nat):=[([],[256]),([],[257]),([],[258]),([],[258,1]),([],[260]),([],[261]),([14],[]),([],[263]),([],[264]),([],[257,8]),([],[258,8]),([],[258,1,8]),([],[268]),([],[261,8]),([14],[8]),([],[263,8]),([],[272]),([],[273]),([],[274]),([],[17,258]),([],[260,16]),([],[261,17]),([14],[16]),([],[263,17]),([],[256]),([],[281]),([],[258]),([],[25,258]),([],[260]),([],[269,16]),([14],[]),([],[263,24]),([],[32,256]),([],[257,32]),([],[34,258]),([],[34,1,258]),([],[36,260]),([],[261,37]),([13,14],[]),([],[263,38]),([],[256]),([],[257]),([],[42,258]),([],[266,33]),([],[260]),([],[261]),([13,14,3],[]),([],[263,44]),([],[256]),([],[257]),([],[258]),([],[258,1]),([],[52,260]),([],[277,32]),([13,14,8],[]),([],[279,35]),([],[256]),([],[257]),([],[258]),([3],[258,1]),([],[260]),([8],[261]),([14],[32]),([],[287,32])]
def tW5:List (List Nat × List Nat):=[([],[]),([],[1]),([],[322]),([],[322,1]),([],[4]),([],[5]),([14,4],[]),([],[326,1]),([],[8]),([],[1,8]),([],[322,8]),([],[322,1,8]),([],[12]),([],[5,8]),([14,4],[8]),([],[326,1,8]),([],[16]),([],[17]),([],[338]),([],[322,17]),([],[4,16]),([],[5,17]),([14,4],[16]),([],[326,17]),([],[]),([],[25]),([],[322]),([],[281,66]),([],[4]),([],[13,16]),([14,4],[]),([],[326,25]),([],[32]),([],[33]),([],[98,256]),([],[322,1,34]),([],[36]),([],[37]),([13,14,4],[]),([],[326,39]),([],[]),([],[1]),([],[322,40]),([],[322,33,40]),([],[4]),([],[5]),([13,14,3,4],[]),([],[326,44,1]),([],[]),([],[1]),([],[322]),([],[322,1]),([],[52]),([],[53]),([13,14,8,4],[]),([],[55,324]),([],[]),([],[1]),([],[322]),([3],[322,1]),([],[4]),([8],[5]),([14,4],[32]),([],[63,324])]
def tW6:List (List Nat × List Nat):=[([],[]),([],[1]),([],[2]),([],[1,2]),([],[388]),([],[389]),([14,9],[]),([],[391]),([],[8]),([],[1,8]),([],[2,8]),([],[1,2,8]),([],[396]),([],[389,8]),([14,9],[8]),([],[391,8]),([],[16]),([],[17]),([],[18]),([],[17,2]),([],[388,16]),([],[389,17]),([14,9],[16]),([],[391,17]),([],[]),([],[25]),([],[2]),([],[25,2]),([],[388]),([],[397,16]),([14,9],[]),([],[391,24]),([],[32]),([],[33]),([],[34]),([],[34,1]),([],[164,256]),([],[389,37]),([13,14,9],[]),([],[391,38]),([],[]),([],[1]),([],[42]),([],[42,1]),([],[388]),([],[389]),([13,14,3,9],[]),([],[391,44]),([],[]),([],[1]),([],[2]),([],[1,2]),([],[388,48]),([],[389,49]),([13,14,8,9],[]),([],[391,51]),([],[]),([],[1]),([],[2]),([3],[1,2]),([],[388]),([8],[389]),([14,9],[32]),([],[399,48])]
def tW7:List (List Nat × List Nat):=[([],[]),([],[1]),([],[2]),([4],[1,2]),([],[4]),([9],[5]),([],[256]),([],[455]),([],[8]),([],[1,8]),([],[2,8]),([4],[1,2,8]),([],[12]),([9],[5,8]),([],[264]),([],[455,8]),([],[16]),([],[17]),([],[18]),([4],[17,2]),([],[4,16]),([9],[5,17]),([],[272]),([],[455,17]),([],[]),([],[25]),([],[2]),([4],[25,2]),([],[4]),([9],[13,16]),([],[256]),([],[455,24]),([],[32]),([],[33]),([],[34]),([4],[34,1]),([],[36]),([9],[37]),([13],[256]),([],[455,38]),([],[]),([],[1]),([],[42]),([4],[42,1]),([],[4]),([9],[5]),([13,3],[256]),([],[455,44]),([],[]),([],[1]),([],[2]),([4],[1,2]),([],[52]),([9],[53]),([13,8],[256]),([],[455,51]),([],[]),([],[1]),([],[2]),([3,4],[1,2]),([],[4]),([8,9],[5]),([],[32,256]),([],[455,56])]
def tW8:List (List Nat × List Nat):=[([],[512]),([],[513]),([],[514]),([],[513,2]),([],[516]),([],[517]),([],[512]),([],[519]),([],[520]),([],[520,1]),([],[520,2]),([],[520,1,2]),([],[524]),([],[5,520]),([],[520]),([],[524,3]),([],[528]),([],[529]),([],[530]),([],[529,2]),([],[528,4]),([],[529,5]),([],[528]),([],[531,4]),([19],[]),([],[537]),([19],[2]),([],[537,2]),([19],[4]),([],[537,5]),([19],[]),([],[537,6]),([],[544]),([],[545]),([],[546]),([],[546,1]),([],[548]),([],[549]),([13,19],[]),([],[551]),([19],[]),([19],[1]),([],[554]),([],[554,1]),([19],[4]),([19],[5]),([13,19,3],[]),([],[558,1]),([19],[]),([19],[1]),([19],[2]),([19],[1,2]),([],[564]),([],[565]),([13,19,8],[]),([],[567]),([19],[]),([19],[1]),([19],[2]),([3,19],[1,2]),([19],[4]),([8,19],[5]),([19],[32]),([],[575])]
def tW9:List (List Nat × List Nat):=[([],[]),([],[1]),([],[2]),([],[1,2]),([],[4]),([],[5]),([],[]),([],[7]),([],[584]),([],[584,1]),([],[584,2]),([],[584,1,2]),([],[588]),([],[517,72]),([],[584]),([],[588,3]),([],[16]),([],[17]),([],[18]),([],[17,2]),([],[4,16]),([],[5,17]),([],[16]),([],[7,17]),([19,4],[]),([],[600,1]),([19,4],[2]),([],[600,1,2]),([19,4],[4]),([],[600,5]),([19,4],[]),([],[600,7]),([],[32]),([],[33]),([],[34]),([],[34,1]),([],[36]),([],[37]),([13],[]),([],[39]),([19,4],[]),([19,4],[1]),([],[616,2]),([],[616,1,2]),([19,4],[4]),([19,4],[5]),([13,19,3,4],[]),([],[620,3]),([],[]),([],[1]),([],[2]),([],[1,2]),([],[52]),([],[53]),([13,8],[]),([],[55]),([19,4],[]),([19,4],[1]),([19,4],[2]),([3,19,4],[1,2]),([19,4],[4]),([8,19,4],[5]),([19,4],[32]),([],[636,3])]
def Q4m:List (List Nat × List Nat):=[([],[]),([],[1]),([],[2]),([],[1,2]),([],[4]),([],[5]),([],[]),([],[7]),([],[8]),([],[1,8]),([],[2,8]),([],[1,2,8]),([],[12]),([],[5,8]),([],[8]),([],[7,8]),([],[656]),([],[657]),([],[658]),([],[657,2]),([],[656,4]),([],[657,5]),([],[656]),([],[659,4]),([19,9],[]),([],[665]),([19,9],[2]),([],[665,2]),([19,9],[4]),([],[665,5]),([19,9],[]),([],[665,6]),([],[32]),([],[33]),([],[34]),([],[34,1]),([],[36]),([],[37]),([13],[]),([],[39]),([],[]),([],[1]),([],[42]),([],[42,1]),([],[4]),([],[5]),([13,3],[]),([],[46,1]),([19,9],[]),([19,9],[1]),([19,9],[2]),([19,9],[1,2]),([],[688,4]),([],[689,5]),([13,19,8,9],[]),([],[691,4]),([19,9],[]),([19,9],[1]),([19,9],[2]),([3,19,9],[1,2]),([19,9],[4]),([8,19,9],[5]),([19,9],[32]),([],[699,4])]
def Q26:List (List Nat × List Nat):=[([],[]),([],[1]),([],[2]),([],[1,2]),([],[4]),([],[5]),([],[]),([],[7]),([],[8]),([4],[1,8]),([],[2,8]),([4],[1,2,8]),([],[12]),([4],[5,8]),([],[8]),([4],[7,8]),([],[16]),([9],[17]),([],[18]),([9],[17,2]),([],[4,16]),([9],[5,17]),([],[16]),([9],[7,17]),([],[512]),([],[729]),([],[514]),([],[729,2]),([],[516]),([],[729,5]),([],[512]),([],[729,6]),([],[32]),([],[33]),([],[34]),([],[34,1]),([],[36]),([],[37]),([13],[]),([],[39]),([],[]),([4],[1]),([],[42]),([4],[42,1]),([],[4]),([4],[5]),([13,3],[]),([4],[46,1]),([],[]),([9],[1]),([],[2]),([9],[1,2]),([],[52]),([9],[53]),([13,8],[]),([9],[55]),([19],[]),([19,4,9],[1]),([19],[2]),([3,19,4,9],[1,2]),([19],[4]),([8,19,4,9],[5]),([],[544]),([],[761,6])]
def Q35:List (List Nat × List Nat):=[([],[]),([],[1]),([],[2]),([],[1,2]),([],[4]),([],[5]),([],[]),([],[7]),([],[8]),([],[1,8]),([],[2,8]),([],[1,2,8]),([],[12]),([],[5,8]),([],[8]),([],[7,8]),([],[16]),([],[17]),([],[18]),([],[17,2]),([],[4,16]),([],[5,17]),([],[16]),([],[7,17]),([],[]),([],[25]),([],[2]),([],[25,2]),([],[4]),([],[13,16]),([],[]),([],[7,24]),([],[800]),([],[801]),([],[802]),([],[802,1]),([],[804]),([],[805]),([13,14],[512]),([],[807]),([19,14],[]),([19,14],[1]),([],[810]),([],[810,1]),([19,14],[4]),([19,14],[5]),([13,14,3,19],[]),([],[814,1]),([19,14],[]),([19,14],[1]),([19,14],[2]),([19,14],[1,2]),([],[820]),([],[821]),([13,14,8,19],[]),([],[823]),([19,14],[]),([19,14],[1]),([19,14],[2]),([3,19,14],[1,2]),([19,14],[4]),([8,19,14],[5]),([14,19],[32]),([],[831])]
def Q31:List (List Nat × List Nat):=[([],[]),([],[1]),([],[2]),([],[1,2]),([],[4]),([],[5]),([],[]),([],[7]),([],[8]),([],[1,8]),([4],[2,8]),([4],[1,2,8]),([],[12]),([],[5,8]),([4],[8]),([4],[7,8]),([],[16]),([],[17]),([],[18]),([],[17,2]),([],[4,16]),([],[5,17]),([],[16]),([],[7,17]),([],[]),([],[25]),([4],[2]),([4],[25,2]),([],[4]),([],[13,16]),([4],[]),([4],[7,24]),([],[32]),([],[33]),([14],[34]),([14],[34,1]),([],[36]),([],[37]),([13,14],[]),([14],[39]),([],[512]),([],[513]),([],[874]),([],[874,1]),([],[516]),([],[517]),([13,14,3,4],[512]),([],[878,1]),([],[]),([],[1]),([14],[2]),([14],[1,2]),([],[52]),([],[53]),([13,14,8],[]),([14],[55]),([19],[]),([19],[1]),([19,4,14],[2]),([3,19,4,14],[1,2]),([19],[4]),([8,19],[5]),([14,19,4],[32]),([],[894,1])]
def Q30:List (List Nat × List Nat):=[([],[]),([],[1]),([],[2]),([],[1,2]),([],[4]),([],[5]),([],[]),([],[7]),([],[8]),([],[1,8]),([],[2,8]),([],[1,2,8]),([],[12]),([],[5,8]),([],[8]),([],[7,8]),([],[16]),([],[17]),([],[18]),([],[17,2]),([9],[4,16]),([9],[5,17]),([9],[16]),([9],[7,17]),([],[]),([],[25]),([],[2]),([],[25,2]),([9],[4]),([9],[13,16]),([9],[]),([9],[7,24]),([],[32]),([],[33]),([],[34]),([],[34,1]),([14],[36]),([14],[37]),([13,14],[]),([14],[39]),([],[]),([],[1]),([],[42]),([],[42,1]),([14],[4]),([14],[5]),([13,14,3],[]),([14],[46,1]),([],[512]),([],[513]),([],[514]),([],[513,2]),([],[948]),([],[949]),([13,14,8,9],[512]),([],[951]),([19],[]),([19],[1]),([19],[2]),([3,19],[1,2]),([19,9,14],[4]),([8,19,9,14],[5]),([14,19,9],[32]),([],[959])]
def Q34:List (List Nat × List Nat):=[([],[]),([],[1]),([],[2]),([],[1,2]),([],[4]),([],[5]),([],[]),([],[7]),([],[8]),([],[1,8]),([],[2,8]),([4],[1,2,8]),([],[12]),([],[5,8]),([],[8]),([4],[7,8]),([],[16]),([],[17]),([],[18]),([],[17,2]),([],[4,16]),([9],[5,17]),([],[16]),([9],[7,17]),([],[]),([],[25]),([],[2]),([4],[25,2]),([],[4]),([9],[13,16]),([],[]),([4,9],[7,24]),([],[32]),([],[33]),([],[34]),([],[34,1]),([],[36]),([],[37]),([13,14],[]),([14],[39]),([],[]),([],[1]),([],[42]),([4],[42,1]),([],[4]),([],[5]),([13,14,3],[]),([4,14],[46,1]),([],[]),([],[1]),([],[2]),([],[1,2]),([],[52]),([9],[53]),([13,14,8],[]),([9,14],[55]),([],[512]),([],[513]),([],[514]),([3,4],[513,2]),([],[516]),([8,9],[517]),([],[800]),([],[1023])]
theorem Q3p:chL 0 tW0=true:=by kernel_rfl
theorem Q4s:chL 64 tW1=true:=by kernel_rfl
theorem Q33:chL 128 tW2=true:=by kernel_rfl
theorem Q3d:chL 192 tW3=true:=by kernel_rfl
theorem Q22:chL 256 tW4=true:=by kernel_rfl
theorem Q4i:chL 320 tW5=true:=by kernel_rfl
theorem Q3g:chL 384 tW6=true:=by kernel_rfl
theorem Q3v:chL 448 tW7=true:=by kernel_rfl
theorem Q37:chL 512 tW8=true:=by kernel_rfl
theorem Q4l:chL 576 tW9=true:=by kernel_rfl
theorem Q1o:chL 640 Q4m=true:=by kernel_rfl
theorem Q2f:chL 704 Q26=true:=by kernel_rfl
theorem Q21:chL 768 Q35=true:=by kernel_rfl
theorem Q1j:chL 832 Q31=true:=by kernel_rfl
theorem Q18:chL 896 Q30=true:=by kernel_rfl
theorem Q1b:chL 960 Q34=true:=by kernel_rfl
theorem Q3e {c:Nat} (h:c < 1024):∃D W,chB c D W=true:=by
 have hk:(0≤c∧c < 64)∨(64≤c∧c < 128)∨(128≤c∧c < 192)∨(192≤c∧c < 256)∨(256≤c∧c < 320)∨(320≤c∧c < 384)∨(384≤c∧c < 448)∨(448≤c∧c < 512)∨(512≤c∧c < 576)∨(576≤c∧c < 640)∨(640≤c∧c < 704)∨(704≤c∧c < 768)∨(768≤c∧c < 832)∨(832≤c∧c < 896)∨(896≤c∧c < 960)∨(960≤c∧c < 1024):=by omega
 rcases hk with h | h | h | h | h | h | h | h | h | h | h | h | h | h | h | h
 ·have:=Vj tW0 0 Q3p (c - 0) (by show c - 0 < 64; omega)
  rwa [show 0+(c - 0)=c by omega] at this
 ·have:=Vj tW1 64 Q4s (c - 64) (by show c - 64 < 64; omega)
  rwa [show 64+(c - 64)=c by omega] at this
 ·have:=Vj tW2 128 Q33 (c - 128) (by show c - 128 < 64; omega)
  rwa [show 128+(c - 128)=c by omega] at this
 ·have:=Vj tW3 192 Q3d (c - 192) (by show c - 192 < 64; omega)
  rwa [show 192+(c - 192)=c by omega] at this
 ·have:=Vj tW4 256 Q22 (c - 256) (by show c - 256 < 64; omega)
  rwa [show 256+(c - 256)=c by omega] at this
 ·have:=Vj tW5 320 Q4i (c - 320) (by show c - 320 < 64; omega)
  rwa [show 320+(c - 320)=c by omega] at this
 ·have:=Vj tW6 384 Q3g (c - 384) (by show c - 384 < 64; omega)
  rwa [show 384+(c - 384)=c by omega] at this
 ·have:=Vj tW7 448 Q3v (c - 448) (by show c - 448 < 64; omega)
  rwa [show 448+(c - 448)=c by omega] at this
 ·have:=Vj tW8 512 Q37 (c - 512) (by show c - 512 < 64; omega)
  rwa [show 512+(c - 512)=c by omega] at this
 ·have:=Vj tW9 576 Q4l (c - 576) (by show c - 576 < 64; omega)
  rwa [show 576+(c - 576)=c by omega] at this
 ·have:=Vj Q4m 640 Q1o (c - 640) (by show c - 640 < 64; omega)
  rwa [show 640+(c - 640)=c by omega] at this
 ·have:=Vj Q26 704 Q2f (c - 704) (by show c - 704 < 64; omega)
  rwa [show 704+(c - 704)=c by omega] at this
 ·have:=Vj Q35 768 Q21 (c - 768) (by show c - 768 < 64; omega)
  rwa [show 768+(c - 768)=c by omega] at this
 ·have:=Vj Q31 832 Q1j (c - 832) (by show c - 832 < 64; omega)
  rwa [show 832+(c - 832)=c by omega] at this
 ·have:=Vj Q30 896 Q18 (c - 896) (by show c - 896 < 64; omega)
  rwa [show 896+(c - 896)=c by omega] at this
 ·have:=Vj Q34 960 Q1b (c - 960) (by show c - 960 < 64; omega)
  rwa [show 960+(c - 960)=c by omega] at this
end Go.Ab
namespace Go.Ab
open Go
set_option maxRecDepth 100000
set_option maxHeartbeats 1000000
theorem Qov {x:Nat}:x∈r5↔x < 5:=by unfold r5; simp; omega
theorem Ql7 {p:Nat → Bool}:r5.any p=true↔∃x,x < 5∧p x=true:=by
 rw [List.any_eq_true]
 constructor
 ·rintro ⟨x,h1,h2⟩; exact ⟨x,Qov.1 h1,h2⟩
 ·rintro ⟨x,h1,h2⟩; exact ⟨x,Qov.2 h1,h2⟩
theorem Ql0 {p:Nat → Bool}:r5.all p=true↔∀x,x < 5→p x=true:=by
 rw [List.all_eq_true]
 exact ⟨fun h x hx=>h x (Qov.2 hx),fun h x hx=>h x (Qov.1 hx)⟩
theorem K0 {a b:Nat}:Nat.blt a b=true↔a < b:=by unfold Nat.blt; rw [Nat.ble_eq]; exact Iff.rfl
theorem Qmx {c f u v:Nat}:paB c f u v=true↔(u < v∧eB c u v=true∧eB f u v=false)∨(v < u∧eB c v u=true∧eB f v u=true):=by
 unfold paB
 cases h1:Nat.blt u v with
 | true =>
  have:=K0.1 h1
  simp only [cond_true,Bool.and_eq_true,Bool.not_eq_true']
  constructor
  ·intro h; exact .inl ⟨this,h⟩
  ·rintro (h | h)
   ·exact h.2
   ·omega
 | false =>
  have hn:¬ u < v:=fun h=>by rw [K0.2 h] at h1; cases h1
  simp only [cond_false]
  cases h2:Nat.blt v u with
  | true =>
   have:=K0.1 h2
   simp only [cond_true,Bool.and_eq_true]
   constructor
   ·intro h; exact .inr ⟨this,h⟩
   ·rintro (h | h)
    ·omega
    ·exact h.2
  | false =>
   have hn2:¬ v < u:=fun h=>by rw [K0.2 h] at h2; cases h2
   simp only [cond_false,Bool.false_eq_true,false_iff]
   rintro (h | h) <;> omega
theorem Qmu {c u v:Nat}:ajB c u v=true↔(u < v∧eB c u v=true)∨(v < u∧eB c v u=true):=by
 unfold ajB
 cases h1:Nat.blt u v with
 | true =>
  have:=K0.1 h1
  simp only [cond_true]
  constructor
  ·intro h; exact .inl ⟨this,h⟩
  ·rintro (h | h)
   ·exact h.2
   ·omega
 | false =>
  have hn:¬ u < v:=fun h=>by rw [K0.2 h] at h1; cases h1
  simp only [cond_false]
  cases h2:Nat.blt v u with
  | true =>
   have:=K0.1 h2
   simp only [cond_true]
   constructor
   ·intro h; exact .inr ⟨this,h⟩
   ·rintro (h | h)
    ·omega
    ·exact h.2
  | false =>
   have hn2:¬ v < u:=fun h=>by rw [K0.2 h] at h2; cases h2
   simp only [cond_false,Bool.false_eq_true,false_iff]
   rintro (h | h) <;> omega
theorem Qbq {c u v:Nat}:paB c 0 u v=true↔u < v∧eB c u v=true:=by
 have h0:∀i j,eB 0 i j=false:=fun i j=>by unfold eB; rw [Qxf]; exact Nat.zero_testBit _
 rw [Qmx]
 constructor
 ·rintro (h | h)
  ·exact ⟨h.1,h.2.1⟩
  ·rw [h0] at h; cases h.2.2
 ·intro h; exact .inl ⟨h.1,h.2,h0 _ _⟩
theorem Qd6 {c f v u:Nat} (hu:u < 5):(tM c f v).testBit u=paB c f u v:=by
 unfold tM; rw [Z7]; simp [hu]
theorem Qmo {c f u w:Nat} (hu:u < 5) (hw:w < 5):near (tM c f) u w=ajB c u w:=by
 unfold near
 rw [Qd6 hw,Qd6 hu,Bool.eq_iff_iff,Bool.or_eq_true,Qmx,Qmx,Qmu]
 constructor
 ·rintro ((h | h) | (h | h))
  ·exact .inr ⟨h.1,h.2.1⟩
  ·exact .inl ⟨h.1,h.2.1⟩
  ·exact .inl ⟨h.1,h.2.1⟩
  ·exact .inr ⟨h.1,h.2.1⟩
 ·rintro (⟨h1,h2⟩ | ⟨h1,h2⟩)
  ·cases hf:eB f u w with
   | true=>exact .inl (.inr ⟨h1,h2,rfl⟩)
   | false=>exact .inr (.inl ⟨h1,h2,rfl⟩)
  ·cases hf:eB f w u with
   | true=>exact .inr (.inr ⟨h1,h2,rfl⟩)
   | false=>exact .inl (.inl ⟨h1,h2,rfl⟩)
theorem Qs6 {c f a b d:Nat} (ha:a < 5) (hd:d < 5):V5 (tM c f) a b d=clB c f a b d:=by
 unfold V5 clB
 rw [Qd6 ha,Qd6 hd,Qmo ha hd]
theorem Q1s {c f:Nat} (h:wtB c f=true):Cls 5 (tM c 0) (tM c f):=by
 unfold wtB at h
 rw [Bool.and_eq_true] at h
 refine ⟨Qop.1 (Nat.eq_of_beq_eq_true h.1),fun u w hu hw=>by rw [Qmo hu hw,Qmo hu hw],Qip.2 fun a b d h1 h2 h3=>?_⟩
 have ha:a < 5:=by omega
 have:=Ql0.1 (Ql0.1 (Ql0.1 h.2 b h3) a ha) d h2
 rw [K0.2 h1] at this
 rw [Qs6 ha h2,Qs6 ha h2]
 simpa using this
section
variable {c:Nat} {O:Nat → Nat → Bool} (hU:Gd 5 (tM c 0)) (hA:Qac 5 (tM c 0) O) (hC:K7 5 (tM c 0) O)
include hU hA hC
theorem Qzc:Cls 5 (tM c 0) (tM c 0):=⟨hU,fun _ _ _ _=>rfl,rfl⟩
theorem Qz9 {a b:Nat} (h:O a b=true):paB c 0 a b=true:=by
 have:=hA.snd _ (Qzc hU hA hC) a b h
 rwa [Qd6 (hA.inn a b h).1] at this
theorem Q27 {a b:Nat} (ha:a < 5) (hb:b < 5) (h:icB c a b=true):O a b=true:=by
 unfold icB at h
 rw [Bool.and_eq_true] at h
 obtain ⟨x,hx,h2⟩:=Ql7.1 h.2
 simp only [Bool.and_eq_true,Bool.not_eq_true'] at h2
 refine hA.col a b x (fun e=>?_) ha hb hx ?_
 ·subst e
  have:=h2.1.1
  rw [show Nat.beq a a=true from Nat.beq_refl a] at this; cases this
 ·rw [Qs6 ha hx]
  unfold clB
  rw [h.1,h2.1.2,h2.2]; rfl
theorem Qsr {G:List Nat} (hG:∀x∈G,O (x / 5) (x % 5)=true) {a b:Nat} (ha:a < 5) (hb:b < 5) (h:knB c G a b=true):O a b=true:=by
 unfold knB at h
 rw [Bool.or_eq_true] at h
 rcases h with h | h
 ·exact Q27 hU hA hC ha hb h
 ·obtain ⟨x,hx,h2⟩:=List.any_eq_true.1 h
  have e:=Nat.eq_of_beq_eq_true h2
  have:=hG x hx
  rw [e,show (5*a+b) / 5=a by omega,show (5*a+b) % 5=b by omega] at this
  exact this
theorem Q58 {G:List Nat} (hG:∀x∈G,O (x / 5) (x % 5)=true) {a b:Nat} (ha:a < 5) (hb:b < 5) (he:paB c 0 a b=true) (h:stB c G a b=true):O a b=true:=by
 have hlt:=(Qbq.1 he).1
 have nn:∀u w,u < 5→w < 5→near (tM c 0) u w=ajB c u w:=fun u w hu hw=>Qmo hu hw
 have aj_ne:∀{u w},O u w=true→u < w:=fun h=>(Qbq.1 (Qz9 hU hA hC h)).1
 apply Classical.byContradiction
 intro hO
 have hO:=Bool.eq_false_iff.2 hO
 have hO2:O b a=false:=Bool.eq_false_iff.2 fun h=>by have:=aj_ne h; omega
 have hab:ajB c a b=true:=Qmu.2 (.inl ⟨hlt,(Qbq.1 he).2⟩)
 have hl:lnB (near (tM c 0)) O a b=true:=Qb5.2 ⟨by rw [nn a b ha hb]; exact hab,hO,hO2⟩
 have hr:=hC a b ha hb hl
 unfold ruB at hr
 rw [Bool.or_eq_false_iff,Bool.or_eq_false_iff] at hr
 obtain ⟨⟨hr1,hr2⟩,hr3⟩:=hr
 unfold stB at h
 rw [Bool.or_eq_true,Bool.or_eq_true] at h
 rcases h with (h | h) | h
 ·obtain ⟨u,hu,h2⟩:=Ql7.1 h
  simp only [Bool.and_eq_true,Bool.not_eq_true'] at h2
  have hub:u≠b:=fun e=>by
   have h3:=h2.1.1
   rw [e,show Nat.beq b b=true from Nat.beq_refl b] at h3; cases h3
  have:onB 5 (near (tM c 0)) O a b=true:=Qhz.2 ⟨u,hu,hub,Qsr hU hA hC hG hu ha h2.1.2,by rw [nn u b hu hb]; exact h2.2⟩
  rw [this] at hr1
  cases hr1
 ·obtain ⟨u,hu,h2⟩:=Ql7.1 h
  rw [Bool.and_eq_true] at h2
  rw [Qhu.2 ⟨u,hu,Qsr hU hA hC hG ha hu h2.1,Qsr hU hA hC hG hu hb h2.2⟩] at hr2
  cases hr2
 ·obtain ⟨u,hu,h2⟩:=Ql7.1 h
  obtain ⟨w,hw,h2⟩:=Ql7.1 h2
  simp only [Bool.and_eq_true,Bool.not_eq_true'] at h2
  obtain ⟨⟨⟨⟨⟨⟨g1,g2⟩,g3⟩,g4⟩,g5⟩,g6⟩,g7⟩:=h2
  have g1:=K0.1 g1
  have k4:=Qsr hU hA hC hG hu hb g4
  have k5:=Qsr hU hA hC hG hw hb g5
  have noA:∀x,x < 5→O x b=true→O a x=false:=fun x hx hxb=>Bool.eq_false_iff.2 fun e=>by
   rw [Qhu.2 ⟨x,hx,e,hxb⟩] at hr2; cases hr2
  have a1:=noA u hu k4
  have a2:=noA w hw k5
  have mk:∀x,x < 5→ajB c a x=true→O a x=false→O x a=false→lnB (near (tM c 0)) O a x=true:=fun x hx h1 h2 h3=>Qb5.2 ⟨by rw [nn a x ha hx]; exact h1,h2,h3⟩
  have fire:∀x y,x < 5→y < 5→O x a=true→ajB c a y=true→O a y=false→O y a=false→x≠y→ajB c x y=false→False:=fun x y hx hy h1 h2 h3 h4 h5 h6=>by
   have hl2:=mk y hy h2 h3 h4
   have hr':=hC a y ha hy hl2
   unfold ruB at hr'
   rw [Qhz.2 ⟨x,hx,h5,h1,by rw [nn x y hx hy]; exact h6⟩] at hr'
   cases hr'
  have g6':ajB c w u=false:=by
   rw [Bool.eq_false_iff] at g6 ⊢
   intro e; exact g6 (Qmu.2 (by have:=Qmu.1 e; exact this.symm))
  cases hua:O u a with
  | true =>
   cases hwa:O w a with
   | true =>
    rw [Qz9 hU hA hC hua,Qz9 hU hA hC hwa] at g7; cases g7
   | false=>exact fire u w hu hw hua g3 a2 hwa (by omega) g6
  | false =>
   cases hwa:O w a with
   | true=>exact fire w u hw hu hwa g2 a1 hua (by omega) g6'
   | false =>
    rw [Qhx.2 ⟨u,w,hu,g1,mk u hu g2 a1 hua,mk w hw g3 a2 hwa,k4,k5,by rw [nn u w hu hw]; exact g6⟩] at hr3
    cases hr3
theorem Q4j:∀(l G:List Nat),(∀x∈G,O (x / 5) (x % 5)=true)→drB c G l=true→(∀x∈l,O (x / 5) (x % 5)=true)
 | [],G,hG,_=>fun x hx=>by cases hx
 | x::l,G,hG,h=>by
  simp only [drB,Bool.and_eq_true] at h
  have hlt:=(Qbq.1 h.1.1).1
  have hx:O (x / 5) (x % 5)=true:=Q58 hU hA hC hG (by omega) (by omega) h.1.1 h.1.2
  have:=Q4j l (x::G) (fun y hy=>by
   rcases List.mem_cons.1 hy with rfl | hy
   ·exact hx
   ·exact hG y hy) h.2
  intro y hy
  rcases List.mem_cons.1 hy with rfl | hy
  ·exact hx
  ·exact this y hy
theorem Q2r (hc:c < 1024) {a b:Nat} (ha:a < 5) (hb:b < 5) (h:paB c 0 a b=true):O a b=true∨∃T,Cls 5 (tM c 0) T∧(T a).testBit b=true:=by
 obtain ⟨D,W,hch⟩:=Q3e hc
 unfold chB at hch
 rw [Bool.and_eq_true,Bool.and_eq_true] at hch
 obtain ⟨⟨h1,h2⟩,h3⟩:=hch
 have hD:=Q4j hU hA hC D [] (fun x hx=>by cases hx) h1
 have:=Ql0.1 (Ql0.1 h3 a ha) b hb
 rw [h] at this
 simp only [Bool.not_true,Bool.false_or,Bool.or_eq_true] at this
 rcases this with (e | e) | e
 ·exact .inl (Q27 hU hA hC ha hb e)
 ·obtain ⟨x,hx,h4⟩:=List.any_eq_true.1 e
  have e2:=Nat.eq_of_beq_eq_true h4
  have:=hD x hx
  rw [e2,show (5*a+b) / 5=a by omega,show (5*a+b) % 5=b by omega] at this
  exact .inl this
 ·obtain ⟨f,hf,h4⟩:=List.any_eq_true.1 e
  refine .inr ⟨tM c f,Q1s (List.all_eq_true.1 h2 f hf),?_⟩
  rw [Qd6 hb,Qmx]
  have:=Qbq.1 h
  exact .inr ⟨this.1,this.2,h4⟩
end
end Go.Ab
