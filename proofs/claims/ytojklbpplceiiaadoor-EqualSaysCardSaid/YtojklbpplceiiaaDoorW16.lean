/- What functions compute. No conditions. -/
import Derived.Test.YtojklbpplceiiaaDoorW15
import Derived.Test.YtojklbpplceiiaaDoorW12
import Derived.KernelRfl
set_option linter.all false
namespace Go.Ab
open Go
set_option maxRecDepth 100000
set_option maxHeartbeats 1000000
def Qfg (x p:Int):Int:=zv (zb x &&& ~~~ zb (zv (1*2^min (Int.toNat p) zk))).toNat
def Qhr (a b:Int × Int):Bool:=(a.1==b.1) && ((a.2==b.2) && true)
theorem Qiv (a b:Int × Int):Qhr a b=decide (a=b):=by
 obtain ⟨a1,a2⟩:=a; obtain ⟨b1,b2⟩:=b
 rw [Bool.eq_iff_iff]; simp [Qhr]
theorem Qxr {m:List ((Int × Int) × Int)} {k k':Int × Int} {v:Int}:Q5 Qhr (kput Qhr m k v) k'=if k'=k then some v else Q5 Qhr m k':=by
 induction m with
 | nil=>simp only [kput,Q5,Qiv,decide_eq_true_eq]
 | cons p r ih =>
  simp only [kput]
  by_cases h:k=p.1
  ·rw [if_pos (by rw [Qiv]; exact decide_eq_true h)]
   simp only [Q5,Qiv,decide_eq_true_eq]
   by_cases h2:k'=k
   ·rw [if_pos h2,if_pos h2]
   ·rw [if_neg h2,if_neg h2,if_neg (by rw [←h]; exact h2)]
  ·rw [if_neg (by rw [Qiv]; simpa using h)]
   simp only [Q5,Qiv,decide_eq_true_eq]
   by_cases h2:k'=p.1
   ·rw [if_pos h2,if_neg (by rw [h2]; exact fun e=>h e.symm),if_pos h2]
   ·rw [if_neg h2,ih,if_neg h2]
theorem Qpv {f:Nat → Bool} {p:Nat} (hp:p < 6):Qfg ((msk 6 f:Nat):Int) (p:Int)=((msk 6 (fun i=>f i && !decide (p=i)):Nat):Int):=Q6h (by omega) (by omega)
theorem Qx3 {n v:Nat} {X:Nat → Int} (hn:n≤6) (hv:v < n):V2 (n:Int) ((v:Int),Qi X)=some (.next (zw ((v:Int)+1),Qi (sx X v (Qfg (zv ((zv (1*2^min (Int.toNat (n:Int)) zk)) - 1)) (v:Int))))):=by
 have hnv:=Qo v
 have hnn:=Qo n
 have hlt:=dlt hv
 have hv':v=0∨v=1∨v=2∨v=3∨v=4∨v=5:=by omega
 unfold V2
 dsimp only
 rw [if_pos hlt]
 simp only [if_pos hnv,if_pos hnn]
 clear hlt hnv hv
 rcases hv' with rfl | rfl | rfl | rfl | rfl | rfl <;> rfl
theorem Qyf {l:List Tapi_Fact} {k x y:Nat} {z:Int} {X:Nat → Int} {m:List ((Int × Int) × Int)} (hk:k < l.length) (hl:l[k]=⟨(x:Int),(y:Int),z⟩) (hx:x < 6) (hy:y < 6) :
  Y3 l ((k:Int),X 0,X 1,X 2,X 3,X 4,X 5,m)=some (.next (zw ((k:Int)+1),(fun W:Nat → Int=>(W 0,W 1,W 2,W 3,W 4,W 5,kput Qhr m ((x:Int),(y:Int)) z)) (sx (sx X x (Qfg (X x) y)) y (Qfg (sx X x (Qfg (X x) y) y) x)))):=by
 have hnx:=Qo x
 have hny:=Qo y
 have hx':x=0∨x=1∨x=2∨x=3∨x=4∨x=5:=by omega
 have hy':y=0∨y=1∨y=2∨y=3∨y=4∨y=5:=by omega
 unfold Y3
 dsimp only
 rw [if_pos (dlt hk),Q6 hk,Option.bind_some,hl]
 dsimp only
 simp only [if_pos hnx,if_pos hny]
 clear hl hnx hny hx hy
 rcases hx' with rfl | rfl | rfl | rfl | rfl | rfl <;> rcases hy' with rfl | rfl | rfl | rfl | rfl | rfl <;> rfl
section
variable {n:Nat}
def FOk (n:Nat) (l:List Tapi_Fact):Prop:=∀f∈l,∃x y z:Nat,x < y∧y < n∧z < 2^n∧z.testBit x=false∧z.testBit y=false∧f=fct x y z
def Qjk (l:List Tapi_Fact) (u w:Nat):Bool:=l.any fun f=>(f.X==(u:Int) && f.Y==(w:Int)) || (f.X==(w:Int) && f.Y==(u:Int))
def nT (n:Nat) (l:List Tapi_Fact) (u w:Nat):Bool:=decide (u < n) && decide (w < n) && !decide (u=w) && !Qjk l u w
def V6:List Tapi_Fact→Int→Int→Option Int
 | [],_,_=>none
 | f::l,x,y=>match V6 l x y with | some z=>some z | none=>if f.X=x∧f.Y=y then some f.Z else none
theorem Qys {l:List Tapi_Fact} {f:Tapi_Fact} {x y:Int}:V6 (l++[f]) x y=if f.X=x∧f.Y=y then some f.Z else V6 l x y:=by
 induction l with
 | nil=>simp [V6]
 | cons g l ih =>
  simp only [List.cons_append,V6,ih]
  by_cases h:f.X=x∧f.Y=y
  ·simp [h]
  ·simp [h]
theorem Qon {l:List Tapi_Fact} {x y z:Int} (h:V6 l x y=some z):⟨x,y,z⟩∈l:=by
 induction l with
 | nil=>cases h
 | cons g l ih =>
  simp only [V6] at h
  cases hz:V6 l x y with
  | some z' =>
   rw [hz] at h
   cases h
   exact List.mem_cons_of_mem _ (ih hz)
  | none =>
   rw [hz] at h
   dsimp only at h
   split at h
   ·rename_i hg
    cases h
    rw [←hg.1,←hg.2]
    simp
   ·cases h
theorem Qwr {l:List Tapi_Fact} {x y:Int} (h:V6 l x y=none):∀f∈l,¬ (f.X=x∧f.Y=y):=by
 induction l with
 | nil=>intro f hf; cases hf
 | cons g l ih =>
  simp only [V6] at h
  cases hz:V6 l x y with
  | some z'=>rw [hz] at h; cases h
  | none =>
   rw [hz] at h
   intro f hf
   rcases List.mem_cons.1 hf with rfl | hf
   ·intro hg; rw [if_pos hg] at h; cases h
   ·exact ih hz f hf
variable (hn:n≤6)
include hn
theorem Qzf:Qb fuel (V2 (n:Int)) (0,0,0,0,0,0,0)=some (Qi (mI fun u w=>decide (u < n) && decide (w < n) && !decide (u=w))):=by
 have hval:∀v,v < n→Qfg (zv ((zv (1*2^min (Int.toNat (n:Int)) zk)) - 1)) (v:Int)=((msk 6 (fun w=>decide (w < n) && !decide (v=w)):Nat):Int):=fun v hv=>by
  rw [Q2b (by omega)]
  have:(msk n fun _=>true)=msk 6 fun w=>decide (w < n):=Qc2 (Nat.lt_of_lt_of_le (msk_lt n _) (Nat.pow_le_pow_right (by omega) hn)) fun i hi=>by rw [Qv]; simp
  rw [this]
  exact Qpv (by omega)
 have h:=Xr (n:=n) (k0:=0) (by omega) (by omega) (fun i (x:Int × Int × Int × Int × Int × Int)=>(i,x)) (body:=V2 (n:Int)) (fun k=>Qi (mI fun u w=>decide (u < k) && decide (w < n) && !decide (u=w))) (Qi (mI fun u w=>decide (u < n) && decide (w < n) && !decide (u=w)))
  (fun v _ hv=>by
   rw [Qx3 hn hv,hval v hv]
   refine congrArg (fun F=>some (Qg.next (zw ((v:Int)+1),Qi F))) ?_
   funext i
   unfold sx mI
   by_cases e:i=v
   ·subst e
    rw [if_pos rfl]
    congr 2
    funext w
    simp
   ·rw [if_neg e]
    congr 2
    funext w
    have:decide (i < v+1)=decide (i < v):=by rw [Bool.eq_iff_iff]; simp; omega
    simp only [this])
  (by
   unfold V2
   dsimp only
   rw [if_neg (nlt n)])
 have e0:Qi (mI fun u w=>decide (u < 0) && decide (w < n) && !decide (u=w))=(0,0,0,0,0,0):=by
  have:mI (fun u w=>decide (u < 0) && decide (w < n) && !decide (u=w))=fun _=>0:=by
   funext i
   unfold mI
   rw [Z5 (q:=fun _=>false) fun w _=>by simp]
   rfl
  rw [this]; rfl
 rw [show ((0:Nat):Int)=0 from rfl,e0] at h
 exact h
theorem Qyj {l:List Tapi_Fact} (hl:FOk n l) (hlen:l.length < 1000000):∃m,Qb fuel (Y3 l) ((fun W:Nat → Int=>(0,W 0,W 1,W 2,W 3,W 4,W 5,([]:List ((Int × Int) × Int)))) (mI fun u w=>decide (u < n) && decide (w < n) && !decide (u=w)))=some ((fun W:Nat → Int=>(W 0,W 1,W 2,W 3,W 4,W 5,m)) (mI (nT n l)))∧∀x y,Q5 Qhr m (x,y)=V6 l x y:=by
 have h:=Yt (n:=l.length) (k0:=0) (by omega) (by omega) (fun i (x:(Nat → Int) × List ((Int × Int) × Int))=>(i,x.1 0,x.1 1,x.1 2,x.1 3,x.1 4,x.1 5,x.2)) (body:=Y3 l)
  (fun k t=>t.1=mI (nT n (l.take k))∧∀x y,Q5 Qhr t.2 (x,y)=V6 (l.take k) x y) (fun r=>∃m,r=(fun W:Nat → Int=>(W 0,W 1,W 2,W 3,W 4,W 5,m)) (mI (nT n l))∧∀x y,Q5 Qhr m (x,y)=V6 l x y)
  (fun k t _ hk hI=>by
   left
   obtain ⟨X,m⟩:=t
   obtain ⟨hI1,hI2⟩:=hI
   dsimp only at hI1 hI2
   subst hI1
   obtain ⟨x,y,z,h1,h2,h3,_,_,h4⟩:=hl _ (List.getElem_mem hk)
   have htk:l.take (k+1)=l.take k++[l[k]]:=List.take_succ_eq_append_getElem hk
   refine ⟨(mI (nT n (l.take (k+1))),kput Qhr m ((x:Int),(y:Int)) (z:Int)),?_,rfl,fun a b=>?_⟩
   ·dsimp only
    rw [Qyf (x:=x) (y:=y) (z:=(z:Int)) hk h4 (by omega) (by omega)]
    have e:sx (sx (mI (nT n (l.take k))) x (Qfg (mI (nT n (l.take k)) x) y)) y (Qfg (sx (mI (nT n (l.take k))) x (Qfg (mI (nT n (l.take k)) x) y) y) x)=mI (nT n (l.take (k+1))):=by
     have hxy:¬ y=x:=by omega
     have hp:∀u w,Qjk (l.take (k+1)) u w=(Qjk (l.take k) u w || ((decide (x=u) && decide (y=w)) || (decide (x=w) && decide (y=u)))):=fun u w=>by
      unfold Qjk
      rw [htk,List.any_append,h4]
      simp only [List.any_cons,List.any_nil,Bool.or_false,fct]
      congr 1
      rw [Bool.eq_iff_iff]
      simp only [Bool.or_eq_true,Bool.and_eq_true,beq_iff_eq,decide_eq_true_eq,Int.ofNat_inj]
     funext i
     unfold sx
     by_cases e1:i=y
     ·subst e1
      rw [if_pos rfl,if_neg hxy]
      unfold mI
      rw [Qpv (by omega)]
      congr 2
      funext w
      unfold nT
      rw [hp]
      have:¬ x=i:=fun e=>hxy e.symm
      simp [this]
      cases decide (i < n) <;> cases decide (w < n) <;> cases decide (i=w) <;> cases Qjk (l.take k) i w <;> cases decide (x=w) <;> simp
     ·rw [if_neg e1]
      by_cases e2:i=x
      ·subst e2
       rw [if_pos rfl]
       unfold mI
       rw [Qpv (by omega)]
       congr 2
       funext w
       unfold nT
       rw [hp]
       have:¬ y=i:=hxy
       simp [this]
       cases decide (i < n) <;> cases decide (w < n) <;> cases decide (i=w) <;> cases Qjk (l.take k) i w <;> cases decide (y=w) <;> simp
      ·rw [if_neg e2]
       unfold mI
       congr 2
       funext w
       unfold nT
       rw [hp]
       have h5:¬ x=i:=fun e=>e2 e.symm
       have h6:¬ y=i:=fun e=>e1 e.symm
       simp [h5,h6]
    rw [e]
   ·dsimp only
    have hX:l[k].X=(x:Int):=by rw [h4]; rfl
    have hY:l[k].Y=(y:Int):=by rw [h4]; rfl
    have hZ:l[k].Z=(z:Int):=by rw [h4]; rfl
    rw [Qxr,hI2,htk,Qys,hX,hY,hZ]
    by_cases e:a=(x:Int)∧b=(y:Int)
    ·rw [if_pos (by rw [e.1,e.2]),if_pos ⟨e.1.symm,e.2.symm⟩]
    ·rw [if_neg (fun h=>e (by simpa using h)),if_neg (fun h=>e ⟨h.1.symm,h.2.symm⟩)])
  (fun t hI=>by
   obtain ⟨X,m⟩:=t
   obtain ⟨hI1,hI2⟩:=hI
   dsimp only at hI1 hI2
   subst hI1
   refine ⟨_,?_,m,rfl,fun x y=>by rw [hI2,List.take_length]⟩
   unfold Y3
   dsimp only
   rw [if_neg (nlt _),List.take_length]) (mI fun u w=>decide (u < n) && decide (w < n) && !decide (u=w),[]) ⟨by
    refine congrArg mI ?_
    funext u w
    simp [nT,Qjk],fun x y=>by simp [Q5,V6]⟩
 obtain ⟨r,h1,m,rfl,h2⟩:=h
 exact ⟨m,h1,h2⟩
def tcB (n:Nat) (l:List Tapi_Fact) (a b c:Nat):Bool:=(V6 l (a:Int) (c:Int)).isSome && nT n l a b && nT n l b c && !((V6 l (a:Int) (c:Int)).getD 0).toNat.testBit b
def tcL (n:Nat) (l:List Tapi_Fact):List (Int × Int × Int):=apL (fun a=>apL (fun b=>apL (fun c=>if tcB n l a b c=true then [((a:Int),(b:Int),(c:Int))] else []) (a+1) (n - (a+1))) 0 n) 0 n
theorem Qz9 {l:List Tapi_Fact} (hl:FOk n l) (hlen:l.length < 1000000):Qa7 (n:Int) l=some (⟨(n:Int),Qi (mI (nT n l))⟩,tcL n l):=by
 obtain ⟨m,h1,h2⟩:=Qyj hn hl hlen
 unfold Qa7
 rw [Qzf hn,Option.bind_some]
 show (Qb fuel (Y3 l) ((fun W:Nat → Int=>(0,W 0,W 1,W 2,W 3,W 4,W 5,([]:List ((Int × Int) × Int)))) (mI fun u w=>decide (u < n) && decide (w < n) && !decide (u=w)))).bind _=_
 rw [h1,Option.bind_some]
 dsimp only
 generalize hK:((mI (nT n l) 0,mI (nT n l) 1,mI (nT n l) 2,mI (nT n l) 3,mI (nT n l) 4,mI (nT n l) 5,m):Int × Int × Int × Int × Int × Int × List ((Int × Int) × Int))=K
 have hj:∀a c,a < n→c < n→Qj ⟨(n:Int),(K.1,K.2.1,K.2.2.1,K.2.2.2.1,K.2.2.2.2.1,K.2.2.2.2.2.1)⟩ (a:Int) (c:Int)=some (nT n l a c):=fun a c ha hc=>by
  rw [←hK]
  have:=Qdk (m:=(n:Int)) (N:=nT n l) (a:=a) (c:=c) (by omega) (by omega)
  rw [Qv] at this
  have h6:c < 6:=by omega
  simp only [h6,decide_true,Bool.true_and] at this
  exact this
 have hk2:K.2.2.2.2.2.2=m:=by rw [←hK]
 have hget:∀a c:Nat,Q5 zq K.2.2.2.2.2.2 ((a:Int),(c:Int))=V6 l (a:Int) (c:Int):=fun a c=>by rw [hk2]; exact h2 _ _
 have clen:∀a b,(apL (fun c=>if tcB n l a b c=true then [((a:Int),(b:Int),(c:Int))] else []) (a+1) (n - (a+1))).length≤n:=fun a b=>by
  have:=Ze (L:=fun c=>if tcB n l a b c=true then [((a:Int),(b:Int),(c:Int))] else []) (k0:=a+1) (m:=1) (fun _=>Vq) (n - (a+1))
  omega
 have inner:∀a b (o:List (Int × Int × Int)) (s1 s2:Int × List (Int × Int × Int)),a < n→b < n→s1.1=(a:Int)→s2.1=(b:Int)→o.length≤1000→Qb fuel (J7 (n:Int) K s1 s2) (((a+1:Nat):Int),o)=some (o++apL (fun c=>if tcB n l a b c=true then [((a:Int),(b:Int),(c:Int))] else []) (a+1) (n - (a+1))):=fun a b o s1 s2 ha hb e1 e2 ho =>
  Ya (m:=1) (c:=1000) (by omega) (by omega) (fun k (x:List (Int × Int × Int))=>(k,x)) (body:=J7 (n:Int) K s1 s2) _ id (fun _=>Vq) ho
   (fun c x h3 h4 hx=>by
    unfold J7
    dsimp only
    rw [if_pos (dlt h4),e1,e2,hget a c,hj a b ha hb,Option.bind_some,hj b c hb h4,Option.bind_some]
    unfold tcB
    cases hz:V6 l (a:Int) (c:Int) with
    | none=>simp
    | some z =>
     obtain ⟨x',y',z',_,_,q3,_,_,q4⟩:=hl _ (Qon hz)
     have hzz:z=(z':Int):=by have:=congrArg Tapi_Fact.Z q4; exact this
     have z64:z' < 18446744073709551616:=by
      have:(2:Nat)^n≤64:=Nat.pow_le_pow_right (n:=2) (by omega) hn
      omega
     subst hzz
     rw [if_pos (show (some (z':Int)).isSome=true from rfl)]
     cases nT n l a b with
     | false=>simp
     | true =>
      rw [if_pos rfl]
      cases nT n l b c with
      | false=>simp
      | true =>
       rw [if_pos rfl,if_pos (Qo b),Option.getD_some,Qay z64 (by omega),Int.toNat_natCast]
       cases z'.testBit b with
       | true=>simp
       | false =>
        rw [if_pos (by rfl),if_pos (by rw [List.length_append,List.length_singleton]; omega)]
        simp)
   (fun x=>by unfold J7; dsimp only; rw [if_neg (nlt n)]; rfl)
 have mid:∀a (o:List (Int × Int × Int)) (s1:Int × List (Int × Int × Int)),a < n→s1.1=(a:Int)→o.length≤500→Qb fuel (Kb (n:Int) K s1) (((0:Nat):Int),o)=some (o++apL (fun b=>if b < n then apL (fun c=>if tcB n l a b c=true then [((a:Int),(b:Int),(c:Int))] else []) (a+1) (n - (a+1)) else []) 0 n):=fun a o s1 ha e1 ho=>by
  have:=Ya (n:=n) (k0:=0) (m:=6) (c:=500) (by omega) (by omega) (fun k (x:List (Int × Int × Int))=>(k,x)) (body:=Kb (n:Int) K s1) (fun b=>if b < n then apL (fun c=>if tcB n l a b c=true then [((a:Int),(b:Int),(c:Int))] else []) (a+1) (n - (a+1)) else []) id (fun b=>by
    split
    ·have:=clen a b; omega
    ·simp) ho
   (fun b x _ h4 hx=>by
    unfold Kb
    dsimp only
    rw [if_pos (dlt h4),e1,Qfy (by omega),inner a b x _ _ ha h4 e1 rfl (by omega),Option.bind_some,if_pos h4])
   (fun x=>by unfold Kb; dsimp only; rw [if_neg (nlt n)]; rfl)
  exact this
 have midl:∀a,(apL (fun b=>if b < n then apL (fun c=>if tcB n l a b c=true then [((a:Int),(b:Int),(c:Int))] else []) (a+1) (n - (a+1)) else []) 0 n).length≤36:=fun a=>by
  have:=Ze (L:=fun b=>if b < n then apL (fun c=>if tcB n l a b c=true then [((a:Int),(b:Int),(c:Int))] else []) (a+1) (n - (a+1)) else []) (k0:=0) (m:=6) (fun b=>by
   split
   ·have:=clen a b; omega
   ·simp) n
  omega
 have outer:=Ya (n:=n) (k0:=0) (m:=36) (c:=0) (by omega) (by omega) (fun k (x:List (Int × Int × Int))=>(k,x)) (body:=Qau (n:Int) K)
  (fun a=>apL (fun b=>if b < n then apL (fun c=>if tcB n l a b c=true then [((a:Int),(b:Int),(c:Int))] else []) (a+1) (n - (a+1)) else []) 0 n) id midl (out:=[]) (by simp)
  (fun a o _ ha ho=>by
   unfold Qau
   dsimp only
   have:=mid a o ((a:Int),o) ha rfl (by omega)
   rw [show ((0:Nat):Int)=0 from rfl] at this
   rw [if_pos (dlt ha),this,Option.bind_some])
  (fun o=>by unfold Qau; dsimp only; rw [if_neg (nlt n)]; rfl)
 rw [show ((0:Nat):Int)=0 from rfl] at outer
 rw [outer,Option.bind_some,List.nil_append,Nat.sub_zero]
 have e3:id (apL (fun a=>apL (fun b=>if b < n then apL (fun c=>if tcB n l a b c=true then [((a:Int),(b:Int),(c:Int))] else []) (a+1) (n - (a+1)) else []) 0 n) 0 n)=tcL n l:=Q1 n fun a _ ha=>Q1 n fun b _ hb=>by rw [if_pos (by omega)]
 rw [e3]
 rfl
end
end Go.Ab
namespace Go.Ab
open Go
set_option maxRecDepth 100000
set_option maxHeartbeats 1000000
def Yi (n:Nat) (N:Nat → Nat → Bool):List (Nat × Nat):=apL (fun i=>apL (fun j=>if N i j=true then [(i,j)] else []) (i+1) (n - (i+1))) 0 n
def pI (p:Nat × Nat):Int × Int:=((p.1:Int),(p.2:Int))
theorem Qpp {α β:Type} (f:α→β) {L:Nat → List α} {k0:Nat}:∀j,(apL L k0 j).map f=apL (fun i=>(L i).map f) k0 j
 | 0=>rfl
 | j+1=>by simp only [apL,List.map_append,Qpp f j]
theorem Qpz {n:Nat} {N:Nat → Nat → Bool}:prs n N=(Yi n N).map pI:=by
 unfold prs Yi
 rw [Qpp]
 refine Q1 n fun i _ _=>?_
 rw [Qpp]
 refine Q1 _ fun j _ _=>?_
 split <;> rfl
theorem Kg {n:Nat} {N:Nat → Nat → Bool} {p:Nat × Nat}:p∈Yi n N↔p.1 < p.2∧p.2 < n∧N p.1 p.2=true:=by
 unfold Yi
 rw [Zw]
 constructor
 ·rintro ⟨i,_,h2,h3⟩
  obtain ⟨j,h4,h5,h6⟩:=(Zw _).1 h3
  split at h6
  ·rename_i hN
   rw [List.mem_singleton.1 h6]
   exact ⟨by omega,by omega,hN⟩
  ·cases h6
 ·rintro ⟨h1,h2,h3⟩
  refine ⟨p.1,by omega,by omega,(Zw _).2 ⟨p.2,by omega,by omega,?_⟩⟩
  rw [if_pos h3]; simp
theorem Qgq {α:Type} {L:Nat → List α} {k0:Nat} (h:∀i,(L i).Nodup) (hd:∀i i',i≠i'→∀x,x∈L i→x ∉ L i'):∀j,(apL L k0 j).Nodup
 | 0=>List.nodup_nil
 | j+1=>by
  simp only [apL]
  rw [List.nodup_append]
  refine ⟨Qgq h hd j,h _,fun a ha b hb e=>?_⟩
  subst e
  obtain ⟨i,h1,h2,h3⟩:=(Zw _).1 ha
  exact hd i (k0+j) (by omega) a h3 hb
theorem Qr9 {n:Nat} {N:Nat → Nat → Bool} (hn:n≤5):(Yi n N).length≤10:=by
 have hb:∀i,i < n→(apL (fun j=>if N i j=true then [(i,j)] else []) (i+1) (n - (i+1))).length≤4 - i:=fun i hi=>by
  have:=Ze (L:=fun j=>if N i j=true then [(i,j)] else []) (k0:=i+1) (m:=1) (fun _=>Vq) (n - (i+1)); omega
 have key:∀j,j≤n→(apL (fun i=>apL (fun j=>if N i j=true then [(i,j)] else []) (i+1) (n - (i+1))) 0 j).length*2≤j*(9 - j):=by
  intro j
  induction j with
  | zero=>intro _; simp [apL]
  | succ j ih =>
   intro hj
   have h1:=ih (by omega)
   have h2:=hb j (by omega)
   simp only [apL,List.length_append,Nat.zero_add]
   have hj':j=0∨j=1∨j=2∨j=3∨j=4:=by omega
   rcases hj' with rfl | rfl | rfl | rfl | rfl <;> omega
 have:=key n (Nat.le_refl _)
 unfold Yi
 have hn':n=0∨n=1∨n=2∨n=3∨n=4∨n=5:=by omega
 rcases hn' with rfl | rfl | rfl | rfl | rfl | rfl <;> omega
def orR (P:List (Nat × Nat)) (t:Nat):Nat → Nat → Nat → Bool
 | 0,_,_=>false
 | k+1,u,w=>orR P t k u w || (match P[k]? with | some p=>if t.testBit k=true then decide (u=p.1) && decide (p.2=w) else decide (u=p.2) && decide (p.1=w) | none=>false)
theorem Qpn {P:List (Nat × Nat)} {t:Nat}:∀{k u w:Nat},orR P t k u w=true↔∃i,i < k∧((P[i]?=some (u,w)∧t.testBit i=true)∨(P[i]?=some (w,u)∧t.testBit i=false))
 | 0,u,w=>by simp [orR]
 | k+1,u,w=>by
  simp only [orR,Bool.or_eq_true]
  rw [Qpn (k:=k)]
  constructor
  ·rintro (⟨i,h1,h2⟩ | h)
   ·exact ⟨i,by omega,h2⟩
   ·refine ⟨k,by omega,?_⟩
    cases hp:P[k]? with
    | none=>rw [hp] at h; cases h
    | some p =>
     rw [hp] at h
     obtain ⟨a,b⟩:=p
     dsimp only at h
     split at h
     ·rename_i hb
      simp only [Bool.and_eq_true,decide_eq_true_eq] at h
      exact .inl ⟨by rw [h.1,h.2],hb⟩
     ·rename_i hb
      simp only [Bool.and_eq_true,decide_eq_true_eq] at h
      exact .inr ⟨by rw [h.1,h.2],Bool.eq_false_iff.2 hb⟩
  ·rintro ⟨i,h1,h2⟩
   by_cases e:i=k
   ·subst e
    right
    rcases h2 with ⟨h3,h4⟩ | ⟨h3,h4⟩ <;> rw [h3] <;> simp [h4]
   ·exact .inl ⟨i,by omega,h2⟩
def oG (n:Nat) (P:List (Nat × Nat)) (t k:Nat):Nat → Nat := fun u=>msk n (orR P t k u)
theorem Q49 {n:Nat} {P:List (Nat × Nat)} {t k u w:Nat} (hP:∀p∈P,p.1 < n∧p.2 < n):(oG n P t k u).testBit w=orR P t k u w:=by
 unfold oG
 rw [Qv]
 by_cases h:w < n
 ·simp [h]
 ·have:orR P t k u w=false:=by
   rw [Bool.eq_false_iff]
   intro hc
   revert hc
   rw [Qpn]
   rintro ⟨i,_,⟨h1,_⟩ | ⟨h1,_⟩⟩
   ·exact h (hP _ (List.mem_of_getElem? h1)).2
   ·exact h (hP _ (List.mem_of_getElem? h1)).1
  simp [h,this]
theorem Qn5 {n:Nat} {P:List (Nat × Nat)} {t k:Nat} (hn:n≤10):L64 n (oG n P t k):=fun v _=>Q4i hn (msk_lt n _)
theorem Q3i {n:Nat} {P:List (Nat × Nat)} {t k a b:Nat} (hp:P[k]?=some (a,b)) (ha:a < n) (hb:b < n) (hab:a≠b) :
  oG n P t (k+1)=if t.testBit k=true then (fun u=>if u=a then oG n P t k u ||| 2^b else oG n P t k u) else (fun u=>if u=b then oG n P t k u ||| 2^a else oG n P t k u):=by
 have key:∀u c,c < n→msk n (fun w=>orR P t k u w || decide (c=w))=oG n P t k u ||| 2^c:=fun u c hc=>by
  symm
  refine Qc2 (Nat.or_lt_two_pow (msk_lt n _) (Nat.pow_lt_pow_right (by omega) hc)) fun i hi=>?_
  unfold oG
  rw [Nat.testBit_or,Qv,Qm]
  simp [hi]
 split
 ·rename_i hb2
  funext u
  split
  ·rename_i e
   rw [←key u b hb]
   unfold oG
   refine Z5 fun w _=>?_
   simp only [orR,hp,hb2,if_true,e,decide_true,Bool.true_and]
  ·rename_i e
   unfold oG
   refine Z5 fun w _=>?_
   simp only [orR,hp,hb2,if_true,e,decide_false,Bool.false_and,Bool.or_false]
 ·rename_i hb2
  funext u
  split
  ·rename_i e
   rw [←key u a ha]
   unfold oG
   refine Z5 fun w _=>?_
   simp [orR,hp,hb2,e]
  ·rename_i e
   unfold oG
   refine Z5 fun w _=>?_
   simp [orR,hp,hb2,e]
theorem Q6l {a k:Nat} (ha:a < 1000000) (hk:k < 64) :
  zw (BitVec.ofInt (IntKind.bits .i64) (Int.fdiv (a:Int) (2^min (Int.toNat (k:Int)) (IntKind.bits .i64))) &&& BitVec.ofInt (IntKind.bits .i64) 1).toNat = ((a.testBit k).toNat : Int):=by
 have hb:IntKind.bits .i64=64:=rfl
 have e0:min (Int.toNat (k:Int)) (IntKind.bits .i64)=k:=by rw [hb,Int.toNat_natCast]; omega
 rw [e0,K1]
 have h1:a / 2^k < 1000000:=Nat.lt_of_le_of_lt (Nat.div_le_self _ _) ha
 have hbv:(BitVec.ofInt (IntKind.bits .i64) ((a / 2^k:Nat):Int)).toNat = a / 2^k:=by
  show (BitVec.ofInt 64 ((a / 2^k:Nat):Int)).toNat = a / 2^k
  rw [BitVec.ofInt_natCast,BitVec.toNat_ofNat]
  exact Nat.mod_eq_of_lt (by omega)
 have e1:(BitVec.ofInt (IntKind.bits .i64) ((a / 2^k:Nat):Int) &&& BitVec.ofInt (IntKind.bits .i64) 1).toNat = (a / 2^k) % 2:=by
  rw [BitVec.toNat_and,hbv,show (BitVec.ofInt (IntKind.bits .i64) 1).toNat = 1 from rfl,Nat.and_one_is_mod]
 rw [e1,w64 (by omega)]
 have e2:a.testBit k=((a / 2^k) % 2==1):=by rw [Nat.testBit_eq_decide_div_mod_eq]; rfl
 rw [e2]
 rcases Nat.mod_two_eq_zero_or_one (a / 2^k) with h | h <;> rw [h] <;> rfl
theorem Q0n {k:Nat} (hk:k≤15):zw (1*2^min (Int.toNat (k:Int)) (IntKind.bits .i64))=((2^k:Nat):Int):=by
 have hb:IntKind.bits .i64=64:=rfl
 have e0:min (Int.toNat (k:Int)) (IntKind.bits .i64)=k:=by rw [hb,Int.toNat_natCast]; omega
 have:(2:Nat)^k≤2^15:=Nat.pow_le_pow_right (by omega) hk
 have e2:(1:Int)*2^k=((2^k:Nat):Int):=by simp
 rw [e0,e2]
 generalize (2:Nat)^k=m at *
 rw [w64 (by omega)]
theorem Qz3 {n k:Nat} {P:List (Nat × Nat)} {t:Nat}:List.replicate n (0:Int)=Qc n (oG n P t 0):=by
 apply List.ext_getElem
 ·simp [Qc,Qc8]
 ·intro k h1 h2
  have e:∀u,oG n P t 0 u=0:=fun u=>by
   unfold oG
   rw [show orR P t 0 u=fun _=>false from rfl]
   have:∀m,msk m (fun _=>false)=0:=fun m=>by
    induction m with
    | zero=>rfl
    | succ m ih=>simp [msk,ih]
   exact this n
  simp [Qc,Qc8,e]
theorem Qm8 {n t:Nat} {P:List (Nat × Nat)} (hn:n≤10) (hl:P.length≤15) (ht:t < 1000000) (hP:∀p∈P,p.1 < p.2∧p.2 < n) {body:Int × List Int→Option (Qg (Int × List Int) (List Int))}
  (hb:∀s:Int × List Int,body s=if (decide (s.1 < ((P.map pI).length:Int)))=true then (lkI (P.map pI) s.1).bind fun a7 =>
   if 0≤s.1 then
    if ((zw (BitVec.ofInt (IntKind.bits .i64) (Int.fdiv (t:Int) (2^min (Int.toNat s.1) (IntKind.bits .i64))) &&& BitVec.ofInt (IntKind.bits .i64) 1).toNat)==1)=true then
     (lkI s.2 a7.1).bind fun a11=>if 0≤a7.2 then some (.next (zw (s.1+1),(List.set s.2 (Int.toNat a7.1) (zv (zb a11 ||| zb (zv (1*2^min (Int.toNat a7.2) zk))).toNat)))) else none
    else (lkI s.2 a7.2).bind fun a14=>if 0≤a7.1 then some (.next (zw (s.1+1),(List.set s.2 (Int.toNat a7.2) (zv (zb a14 ||| zb (zv (1*2^min (Int.toNat a7.1) zk))).toNat)))) else none
   else none
   else some (.done s.2)):Qb fuel body (0,List.replicate n (0:Int))=some (Qc n (oG n P t P.length)):=by
 have hlen:(P.map pI).length=P.length:=List.length_map _
 have h:=Xr (n:=P.length) (k0:=0) (by omega) (by omega) (fun i (x:List Int)=>(i,x)) (body:=body) (fun k=>Qc n (oG n P t k)) (Qc n (oG n P t P.length))
  (fun k _ hk=>by
   have h64:L64 n (oG n P t k):=Qn5 hn
   obtain ⟨h1,h2⟩:=hP P[k] (List.getElem_mem hk)
   have hp:P[k]?=some (P[k].1,P[k].2):=List.getElem?_eq_getElem hk
   rw [hb]
   dsimp only
   rw [hlen,if_pos (dlt hk),Q6 (by rw [hlen]; exact hk),Option.bind_some,if_pos (Qo k),Q6l ht (by omega),List.getElem_map]
   rw [Q3i hp (by omega) h2 (by omega)]
   unfold pI
   dsimp only
   by_cases hb2:t.testBit k=true
   ·rw [if_pos (by rw [hb2]; rfl),Qy (by omega),Option.bind_some,if_pos (Qo _),Qa5 (by omega),Kj (h64 _ (by omega)) (Kl (by omega)),Int.toNat_natCast,Qbb,if_pos hb2]
    congr 5
    funext u
    split
    ·rename_i e; rw [e]
    ·rfl
   ·rw [if_neg (by rw [Bool.eq_false_iff.2 hb2]; decide),Qy h2,Option.bind_some,if_pos (Qo _),Qa5 (by omega),Kj (h64 _ h2) (Kl (by omega)),Int.toNat_natCast,Qbb,if_neg hb2]
    congr 5
    funext u
    split
    ·rename_i e; rw [e]
    ·rfl)
  (by rw [hb]; dsimp only; rw [hlen,if_neg (nlt _)])
 rw [show ((0:Nat):Int)=0 from rfl,←Qz3 (k:=0)] at h
 exact h
end Go.Ab
namespace Go.Ab
open Go
set_option maxRecDepth 100000
set_option maxHeartbeats 1000000
section
variable {n:Nat} {S:Nat → Nat}
def mG (n:Nat) (S:Nat → Nat) (t:Nat):Nat → Nat := oG n (Yi n (near S)) t (Yi n (near S)).length
def gdB (n:Nat) (T:Nat → Nat):Bool:=pls n T n==2^n - 1
theorem Qml {T:Nat → Nat}:gdB n T=true↔Gd n T:=by unfold gdB; rw [beq_iff_eq]; exact Qo2
theorem Q25 {p:Nat × Nat} (h:p∈Yi n (near S)):p.1 < n∧p.2 < n:=by
 have:=Kg.1 h
 omega
theorem Qk1 {t u w:Nat}:(mG n S t u).testBit w=true↔∃i,((Yi n (near S))[i]?=some (u,w)∧t.testBit i=true)∨((Yi n (near S))[i]?=some (w,u)∧t.testBit i=false):=by
 unfold mG
 rw [Q49 fun p hp=>Q25 hp,Qpn]
 constructor
 ·rintro ⟨i,_,h⟩; exact ⟨i,h⟩
 ·rintro ⟨i,h⟩
  refine ⟨i,?_,h⟩
  rcases h with ⟨h,_⟩ | ⟨h,_⟩ <;> exact (List.getElem?_eq_some_iff.1 h).1
theorem Qvy {t u w:Nat} (hS:Gd n S) (hu:u < n) (hw:w < n):near (mG n S t) u w=near S u w:=by
 have key:∀u w,u < w→w < n→near (mG n S t) u w=near S u w:=fun u w h1 h2=>by
  rw [Bool.eq_iff_iff]
  constructor
  ·intro h
   have hmem:∀a b:Nat,(mG n S t a).testBit b=true→near S a b=true:=fun a b hb=>by
    obtain ⟨i,⟨h,_⟩ | ⟨h,_⟩⟩:=Qk1.1 hb
    ·exact (Kg.1 (List.mem_of_getElem? h)).2.2
    ·rw [near_symm]; exact (Kg.1 (List.mem_of_getElem? h)).2.2
   unfold near at h
   rw [Bool.or_eq_true] at h
   rcases h with h | h
   ·exact hmem u w h
   ·rw [near_symm]; exact hmem w u h
  ·intro h
   obtain ⟨i,hi⟩:=List.mem_iff_getElem?.1 ((Kg (p:=(u,w))).2 ⟨h1,h2,h⟩)
   unfold near
   rw [Bool.or_eq_true]
   cases hb:t.testBit i with
   | true=>exact .inl (Qk1.2 ⟨i,.inl ⟨hi,hb⟩⟩)
   | false=>exact .inr (Qk1.2 ⟨i,.inr ⟨hi,hb⟩⟩)
 rcases Nat.lt_trichotomy u w with h | h | h
 ·exact key u w h hw
 ·subst h
  rw [Qeq hS hu]
  rw [Bool.eq_false_iff]
  intro hb
  unfold near at hb
  rw [Bool.or_self] at hb
  obtain ⟨i,⟨h,_⟩ | ⟨h,_⟩⟩:=Qk1.1 hb <;> have:=(Kg.1 (List.mem_of_getElem? h)).1 <;> simp at this
 ·rw [near_symm,near_symm (S:=S)]; exact key w u h hu
theorem Qzd {T:Nat → Nat} (hS:Gd n S) (hT:Gd n T) (h:∀u w,u < n→w < n→near T u w=near S u w):∃t,t < 2^(Yi n (near S)).length∧Qc n (mG n S t)=Qc n T:=by
 refine ⟨msk (Yi n (near S)).length fun k=>match (Yi n (near S))[k]? with | some p=>(T p.1).testBit p.2 | none=>false,msk_lt _ _,?_⟩
 have hbit:∀i p,(Yi n (near S))[i]?=some p→(msk (Yi n (near S)).length fun k=>match (Yi n (near S))[k]? with | some p=>(T p.1).testBit p.2 | none=>false).testBit i=(T p.1).testBit p.2:=fun i p hp=>by
  rw [Qv,hp]
  have:=(List.getElem?_eq_some_iff.1 hp).1
  simp [this]
 generalize (msk (Yi n (near S)).length fun k=>match (Yi n (near S))[k]? with | some p=>(T p.1).testBit p.2 | none=>false)=t at *
 obtain ⟨r,hr⟩:=Xc hT
 unfold Qc Qc8
 refine List.map_congr_left fun u hu=>?_
 have hu:=List.mem_range.1 hu
 congr 1
 apply Nat.eq_of_testBit_eq
 intro w
 rw [Bool.eq_iff_iff,Qk1]
 constructor
 ·rintro ⟨i,⟨h1,h2⟩ | ⟨h1,h2⟩⟩
  ·rw [hbit i _ h1] at h2; exact h2
  ·rw [hbit i _ h1] at h2
   obtain ⟨h3,h4,h5⟩:=Kg.1 (List.mem_of_getElem? h1)
   dsimp only at h2 h3 h4 h5
   rw [←h w u (by omega) hu] at h5
   unfold near at h5
   rw [h2] at h5
   simpa using h5
 ·intro hb
  have hw:=hT.inn u hu w hb
  have hn:near S u w=true:=by rw [←h u w hu hw]; unfold near; rw [hb]; rfl
  have hne:u≠w:=fun e=>by subst e; have:=hr u hu u hb; omega
  rcases Nat.lt_or_gt_of_ne hne with h1 | h1
  ·obtain ⟨i,hi⟩:=List.mem_iff_getElem?.1 ((Kg (p:=(u,w))).2 ⟨h1,hw,hn⟩)
   exact ⟨i,.inl ⟨hi,by rw [hbit i _ hi]; exact hb⟩⟩
  ·obtain ⟨i,hi⟩:=List.mem_iff_getElem?.1 ((Kg (p:=(w,u)) (N:=near S)).2 ⟨h1,hu,by rw [near_symm]; exact hn⟩)
   refine ⟨i,.inr ⟨hi,?_⟩⟩
   rw [hbit i _ hi]
   dsimp only
   rw [Bool.eq_false_iff]
   intro hc
   have:=hr u hu w hb
   have:=hr w hw u hc
   omega
end
end Go.Ab
namespace Go.Ab
open Go
set_option maxRecDepth 100000
set_option maxHeartbeats 1000000
theorem Q37 {x y:List Int} (h:leL y x=false):leL x y=true:=by have:=Qhd x y; rw [h] at this; simpa using this
theorem Qow {x y:List Int} (hl:x.length=y.length) (hx:x.length < 1000):Qdv x y=some (!(leL y x)):=by
 have key:∀(j N k:Nat),k+j=x.length→j < N →
   ∃r,Qb N (Ko x y) (k:Int)=some r∧(match r with | .inl b=>b | .inr _=>false)=!(leL (y.drop k) (x.drop k)):=by
  intro j
  induction j with
  | zero =>
   intro N k hk hN
   obtain ⟨N,rfl⟩:∃M,N=M+1:=⟨N - 1,by omega⟩
   refine ⟨.inr (),?_,?_⟩
   ·unfold Qb Ko
    rw [if_neg (by simp; omega)]
   ·rw [List.drop_eq_nil_of_le (by omega:y.length≤k)]
    rfl
  | succ j ih =>
   intro N k hk hN
   obtain ⟨N,rfl⟩:∃M,N=M+1:=⟨N - 1,by omega⟩
   have h1:k < x.length:=by omega
   have h2:k < y.length:=by omega
   rw [List.drop_eq_getElem_cons h1,List.drop_eq_getElem_cons h2]
   unfold Qb Ko
   rw [if_pos (by simp; omega),Q6 h1,Option.bind_some,Q6 h2,Option.bind_some]
   by_cases e:x[k]=y[k]
   ·obtain ⟨r,h3,h4⟩:=ih N (k+1) (by omega) (by omega)
    refine ⟨r,?_,?_⟩
    ·rw [if_neg (by simp [e]),w64 (by omega)]
     exact h3
    ·rw [h4]; simp [leL,e]
   ·refine ⟨.inl (decide (x[k] < y[k])),?_,?_⟩
    ·rw [if_pos (by simp [e])]
    ·simp only [leL]
     rw [Bool.eq_iff_iff]
     have e':¬ y[k]=x[k]:=fun h=>e h.symm
     simp [e',e]; omega
 obtain ⟨r,h1,h2⟩:=key x.length fuel 0 (by omega) (by unfold fuel; omega)
 unfold Qdv
 rw [show (0:Int)=((0:Nat):Int) from rfl,h1,Option.bind_some]
 rw [List.drop_zero,List.drop_zero] at h2
 rw [←h2]
 cases r <;> rfl
theorem Qzn {n:Nat} {a:List Int} {out:List (List Int)} {s:Int × List (List Int)} (hs:s.2=out) (ha:a.length=n) (hn:n < 1000) (ho:∀x∈out,x.length=n) (hl:out.length < 100000) :
  ∃A:Nat,A≤out.length∧Qb fuel (Xu s a) (out.length:Int)=some (A:Int)∧(∀j,A≤j→∀x,out[j]?=some x→leL x a=false)∧(A=0∨∃x,out[A - 1]?=some x∧leL x a=true):=by
 subst hs
 have key:∀(k N:Nat),k≤s.2.length→k < N→(∀j,k≤j→∀x,s.2[j]?=some x→leL x a=false) →
   ∃A:Nat,A≤s.2.length∧Qb N (Xu s a) (k:Int)=some (A:Int)∧(∀j,A≤j→∀x,s.2[j]?=some x→leL x a=false)∧(A=0∨∃x,s.2[A - 1]?=some x∧leL x a=true):=by
  intro k
  induction k with
  | zero =>
   intro N hk hN hj
   obtain ⟨N,rfl⟩:∃M,N=M+1:=⟨N - 1,by omega⟩
   refine ⟨0,by omega,?_,hj,.inl rfl⟩
   unfold Qb Xu
   rw [if_neg (by decide)]
  | succ k ih =>
   intro N hk hN hj
   obtain ⟨N,rfl⟩:∃M,N=M+1:=⟨N - 1,by omega⟩
   have hkl:k < s.2.length:=by omega
   have e1:zw (((k+1:Nat):Int) - 1)=(k:Int):=by rw [w64 (by omega)]; omega
   by_cases hb:leL s.2[k] a=true
   ·refine ⟨k+1,hk,?_,hj,.inr ⟨s.2[k],List.getElem?_eq_getElem hkl,hb⟩⟩
    unfold Qb Xu
    rw [if_pos (by simp),e1,Q6 hkl,Option.bind_some,Qow (by rw [ha,ho _ (List.getElem_mem hkl)]) (by omega),Option.bind_some,hb,if_neg (by decide)]
   ·obtain ⟨A,h1,h2,h3⟩:=ih N (by omega) (by omega) (fun j hjk x hx=>by
     by_cases e:j=k
     ·subst e; rw [List.getElem?_eq_getElem hkl] at hx; cases hx; exact Bool.eq_false_iff.2 hb
     ·exact hj j (by omega) x hx)
    refine ⟨A,h1,?_,h3⟩
    unfold Qb
    have e2:Xu s a ((k+1:Nat):Int)=some (.next (k:Int)):=by
     unfold Xu
     rw [if_pos (by simp),e1,Q6 hkl,Option.bind_some,Qow (by rw [ha,ho _ (List.getElem_mem hkl)]) (by omega),Option.bind_some,Bool.eq_false_iff.2 hb,if_pos (by decide)]
    rw [e2]
    exact h2
 exact key s.2.length fuel (Nat.le_refl _) (by unfold fuel; omega) (fun j hj x hx=>by rw [List.getElem?_eq_none hj] at hx; cases hx)
theorem Qum {A:Nat} {a:List Int} {out:List (List Int)} (hA:A≤out.length) (h1:∀j,A≤j→∀x,out[j]?=some x→leL x a=false) (h2:A=0∨∃x,out[A - 1]?=some x∧leL x a=true)
  (hs:out.Pairwise fun x y=>leL x y=true):(Qa8 A a out).Pairwise fun x y=>leL x y=true:=by
 unfold Qa8
 have hb:∀x∈out.drop A,leL a x=true:=fun x hx=>by
  obtain ⟨j,hj⟩:=List.mem_iff_getElem?.1 hx
  rw [List.getElem?_drop] at hj
  exact Q37 (h1 (A+j) (by omega) x hj)
 have ht:∀x∈out.take A,leL x a=true:=fun x hx=>by
  rcases h2 with rfl | ⟨y,hy,hya⟩
  ·simp at hx
  ·obtain ⟨j,hj⟩:=List.mem_iff_getElem?.1 hx
   have hjA:j < A:=by have:=(List.getElem?_eq_some_iff.1 hj).1; simp at this; omega
   rw [List.getElem?_take_of_lt hjA] at hj
   by_cases e:j=A - 1
   ·subst e; rw [hy] at hj; cases hj; exact hya
   ·have p:=List.pairwise_iff_getElem.1 hs
    obtain ⟨g1,g2⟩:=List.getElem?_eq_some_iff.1 hj
    obtain ⟨g3,g4⟩:=List.getElem?_eq_some_iff.1 hy
    have:=p j (A - 1) g1 g3 (by omega)
    rw [g2,g4] at this
    exact Qel _ _ _ this hya
 rw [List.pairwise_append]
 refine ⟨hs.sublist (List.take_sublist _ _),?_,fun x hx y hy=>?_⟩
 ·rw [List.pairwise_cons]
  exact ⟨hb,hs.sublist (List.drop_sublist _ _)⟩
 ·rcases List.mem_cons.1 hy with rfl | hy
  ·exact ht x hx
  ·exact Qel _ _ _ (ht x hx) (hb y hy)
theorem Qy2 {α:Type} {A:Nat} {a:α} {out:List α}:(Qa8 A a out).Perm (a::out):=by
 unfold Qa8
 refine List.perm_middle.trans ?_
 rw [List.take_append_drop]
section
variable {n:Nat} {S:Nat → Nat}
def okG (n:Nat) (S:Nat → Nat) (t:Nat):Bool:=gdB n (mG n S t) && decide (cls n (mG n S t)=cls n S)
def Qjc (n:Nat) (S:Nat → Nat):List (List Int):=((List.range (2^(Yi n (near S)).length)).filter (okG n S)).map fun t=>Qc n (mG n S t)
def Vc (n:Nat) (S:Nat → Nat):List (List Int):=isort leL (Qjc n S)
theorem Qo5 {α:Type} {c:Nat → Bool} {f:Nat → α}:∀j,apL (fun t=>if c t=true then [f t] else []) 0 j=((List.range j).filter c).map f
 | 0=>rfl
 | j+1=>by
  simp only [apL,Qo5 j,Nat.zero_add,List.range_succ,List.filter_append,List.map_append]
  congr 1
  by_cases h:c j=true
  ·simp [h]
  ·simp [h]
theorem Qtn {x:List Int} (hS:Gd n S):x∈Qjc n S↔∃T,x=Qc n T∧Gd n T∧(∀u w,u < n→w < n→near T u w=near S u w)∧cls n T=cls n S:=by
 unfold Qjc
 rw [List.mem_map]
 constructor
 ·rintro ⟨t,h1,rfl⟩
  have:=(List.mem_filter.1 h1).2
  unfold okG at this
  rw [Bool.and_eq_true,Qml,decide_eq_true_eq] at this
  exact ⟨_,rfl,this.1,fun u w hu hw=>Qvy hS hu hw,this.2⟩
 ·rintro ⟨T,rfl,h1,h2,h3⟩
  obtain ⟨t,ht,e⟩:=Qzd hS h1 h2
  refine ⟨t,List.mem_filter.2 ⟨List.mem_range.2 ht,?_⟩,e⟩
  have eb:∀v,v < n→mG n S t v=T v:=fun v hv=>Qzr e hv
  unfold okG
  rw [Bool.and_eq_true,Qml,decide_eq_true_eq]
  refine ⟨?_,?_⟩
  ·obtain ⟨r,hr⟩:=Xc h1
   refine Qdg r fun v hv j hj=>?_
   rw [eb v hv] at hj
   exact ⟨h1.inn v hv j hj,hr v hv j hj⟩
  ·rw [←h3]
   refine Qds.2 fun a b c h4 h5 h6=>?_
   unfold Z2 near
   rw [eb b h6,eb a (by omega),eb c h5]
theorem Q0r (hn:n≤5):(Qjc n S).length≤1024:=by
 unfold Qjc
 rw [List.length_map]
 refine Nat.le_trans (List.length_filter_le _ _) ?_
 rw [List.length_range]
 exact Nat.pow_le_pow_right (n:=2) (by omega) (Qr9 hn)
end
end Go.Ab
namespace Go.Ab
open Go
set_option maxRecDepth 100000
set_option maxHeartbeats 1000000
section
variable {n:Nat} {S:Nat → Nat}
theorem Qts {N:Nat → Nat → Bool} (hn:n≤5):(prs n N).length≤10∧(prs n N).length=(Yi n N).length:=by
 rw [Qpz,List.length_map]
 exact ⟨Qr9 hn,rfl⟩
theorem Qno {k:Nat} (h:k≤10):2^k≤1024:=Nat.pow_le_pow_right (n:=2) (by omega) h
theorem Qui (hn1:1≤n) (hn:n≤5):Qce (n:Int) (prs n (near S))=some (((List.range (2^(Yi n (near S)).length)).filter fun t=>gdB n (mG n S t)).map fun t=>Qc n (mG n S t)):=by
 obtain ⟨hp,hpl⟩:=Qts (n:=n) (N:=near S) hn
 have hpow:=Qno hp
 have h:=Ya (n:=2^(prs n (near S)).length) (k0:=0) (m:=1) (c:=0) (Nat.zero_le _) (by omega) (fun k (x:List (List Int))=>(k,x)) (body:=Jy (prs n (near S)) (n:Int))
  (fun t=>if gdB n (mG n S t)=true then [Qc n (mG n S t)] else []) id (fun t=>Vq) (out:=[]) (by simp)
  (fun t o _ ht ho=>by
   unfold Jy
   dsimp only
   rw [if_pos (Qo _),Q0n (by omega),if_pos (dlt ht),if_pos (by omega)]
   have e:=Qm8 (n:=n) (t:=t) (P:=Yi n (near S)) (by omega) (by omega) (by omega) (fun p hp=>by have:=Kg.1 hp; omega) (body:=Qam (prs n (near S)) ((t:Int),o)) (fun s=>by
    unfold Qam; rw [Qpz])
   rw [Int.toNat_natCast,e,Option.bind_some]
   have e2:oG n (Yi n (near S)) t (Yi n (near S)).length=mG n S t:=rfl
   obtain ⟨c,hc1,hc2⟩:=Qeo (m:=n) (show n≤7 by omega) (Qn5 (n:=n) (P:=Yi n (near S)) (t:=t) (k:=(Yi n (near S)).length) (by omega))
   rw [e2] at hc1 hc2 ⊢
   rw [hc1,Option.bind_some]
   have hcg:c=gdB n (mG n S t):=by
    rw [Bool.eq_iff_iff,hc2,Qml]
    exact ⟨fun h=>h.2,fun h=>⟨by omega,h⟩⟩
   rw [hcg]
   by_cases hg:gdB n (mG n S t)=true
   ·rw [if_pos hg,if_pos (by rw [List.length_append]; simp; omega),if_pos hg]
   ·rw [if_neg hg,if_neg hg,List.append_nil])
  (fun o=>by
   unfold Jy
   dsimp only
   rw [if_pos (Qo _),Q0n (by omega),if_neg (nlt _)]; rfl)
 rw [show ((0:Nat):Int)=0 from rfl] at h
 unfold Qce
 rw [h,Option.bind_some,List.nil_append,Nat.sub_zero,Qo5,hpl]
 rfl
def Q63 (a:List Int) (out out':List (List Int)):Prop:=∃A,A≤out.length∧(∀j,A≤j→∀x,out[j]?=some x→leL x a=false)∧(A=0∨∃x,out[A - 1]?=some x∧leL x a=true)∧out'=Qa8 A a out
theorem Qs4 {D:List (List Int)} {k:Nat} {T:Nat → Nat} {out:List (List Int)} (hn:n≤5) (h64:L64 n T) (hk:D[k]?=some (Qc n T)) (ho:∀x∈out,x.length=n) (hl:out.length < 10000) (hD:D.length≤10000) :
  (¬ cls n T=cls n S→Xy D (cls n S) ((k:Int),out)=some (.next (zw ((k:Int)+1),out))) ∧
  (cls n T=cls n S→∃out',Q63 (Qc n T) out out'∧Xy D (cls n S) ((k:Int),out)=some (.next (zw ((k:Int)+1),out'))):=by
 obtain ⟨hkl,hk2⟩:=List.getElem?_eq_some_iff.1 hk
 have hcl:=Qmo (S:=T) (show n≤7 by omega)
 constructor
 ·intro hne
  unfold Xy
  dsimp only
  rw [if_pos (dlt hkl),Q6 hkl,Option.bind_some,hk2,Qe9 (by omega) h64,Option.bind_some,Qg8 (by omega),Option.bind_some,if_pos (by simp [hne])]
 ·intro he
  obtain ⟨A,h1,h2,h3,h4⟩:=Qzn (n:=n) (a:=Qc n T) (out:=out) (s:=((k:Int),out)) rfl Zd (by omega) ho (by omega)
  refine ⟨Qa8 A (Qc n T) out,⟨A,h1,h3,h4,rfl⟩,?_⟩
  have e1:zw ((((out++([[]]:List (List Int))).length):Int) - 1)=(out.length:Int):=by
   rw [List.length_append,List.length_singleton,w64 (by omega)]; omega
  have hw:Qb fuel (Qez (A:Int)) ((out.length:Int),out++([[]]:List (List Int)))=some ((out++[[]]).take (A+1)++out.drop A):=Qca (l:=out) (i:=out.length) (aI:=(A:Int)) h1 (by omega) rfl rfl (fun s=>rfl)
  obtain ⟨x,hx⟩:=Qd9 (d:=([]:List Int)) h1 (l:=out) rfl
  unfold Xy
  dsimp only
  rw [if_pos (dlt hkl),Q6 hkl,Option.bind_some,hk2,Qe9 (by omega) h64,Option.bind_some,Qg8 (by omega),Option.bind_some,if_neg (by simp [he]),h2,Option.bind_some,if_pos (by rw [List.length_append,List.length_singleton]; omega),e1,hw,Option.bind_some,hx,Option.bind_some,Int.toNat_natCast,Qd3 h1 rfl]
theorem Qo7 (hn1:1≤n) (hn:n≤5) (hS:Gd n S):Qdp (Qc n S)=some (Vc n S):=by
 have h64:=Qho (show n≤8 by omega) hS
 obtain ⟨hp,hpl⟩:=Qts (n:=n) (N:=near S) hn
 have hpow:=Qno hp
 unfold Qdp
 rw [Qe9 (by omega) h64,Option.bind_some,Qlf (by omega) h64,Option.bind_some,Zd,Qui hn1 hn,Option.bind_some]
 generalize hts:(List.range (2^(Yi n (near S)).length)).filter (fun t=>gdB n (mG n S t))=ts
 have htl:ts.length≤1024:=by
  rw [←hts]
  refine Nat.le_trans (List.length_filter_le _ _) ?_
  rw [List.length_range,←hpl]; exact hpow
 have hDl:(ts.map fun t=>Qc n (mG n S t)).length=ts.length:=List.length_map _
 have h:=Yt (n:=ts.length) (k0:=0) (by omega) (by omega) (fun i (x:List (List Int))=>(i,x)) (body:=Xy (ts.map fun t=>Qc n (mG n S t)) (cls n S))
  (fun k out=>out.Perm (((ts.take k).filter fun t=>decide (cls n (mG n S t)=cls n S)).map fun t=>Qc n (mG n S t))∧out.Pairwise fun x y=>leL x y=true) (fun r=>r=Vc n S)
  (fun k out _ hk hI=>by
   left
   obtain ⟨hI1,hI2⟩:=hI
   have hol:out.length≤1024:=by
    rw [hI1.length_eq,List.length_map]
    refine Nat.le_trans (List.length_filter_le _ _) ?_
    rw [List.length_take]; omega
   have hoe:∀x∈out,x.length=n:=fun x hx=>by
    obtain ⟨t,_,rfl⟩:=List.mem_map.1 (hI1.mem_iff.1 hx)
    exact Zd
   have hDk:(ts.map fun t=>Qc n (mG n S t))[k]?=some (Qc n (mG n S ts[k])):=by
    rw [List.getElem?_map,List.getElem?_eq_getElem hk]; rfl
   obtain ⟨r1,r2⟩:=Qs4 (S:=S) (T:=mG n S ts[k]) hn (Qn5 (by omega)) hDk hoe (by omega) (by omega)
   have htk:ts.take (k+1)=ts.take k++[ts[k]]:=List.take_succ_eq_append_getElem hk
   by_cases hcl:cls n (mG n S ts[k])=cls n S
   ·obtain ⟨out',⟨A,a1,a2,a3,rfl⟩,e⟩:=r2 hcl
    refine ⟨_,e,?_,Qum a1 a2 a3 hI2⟩
    rw [htk,List.filter_append,List.map_append]
    refine Qy2.trans ?_
    have:([ts[k]].filter fun t=>decide (cls n (mG n S t)=cls n S)).map (fun t=>Qc n (mG n S t))=[Qc n (mG n S ts[k])]:=by simp [hcl]
    rw [this]
    exact (hI1.cons _).trans (List.perm_append_singleton _ _).symm
   ·refine ⟨_,r1 hcl,?_,hI2⟩
    rw [htk,List.filter_append,List.map_append]
    have:([ts[k]].filter fun t=>decide (cls n (mG n S t)=cls n S)).map (fun t=>Qc n (mG n S t))=[]:=by simp [hcl]
    rw [this,List.append_nil]
    exact hI1)
  (fun out hI=>by
   obtain ⟨hI1,hI2⟩:=hI
   refine ⟨out,?_,?_⟩
   ·unfold Xy
    dsimp only
    rw [hDl,if_neg (nlt _)]
   ·refine Qjt Qnd ?_ hI2 (Qda Qel Qhd _)
    refine hI1.trans ?_
    rw [List.take_length,←hts,List.filter_filter]
    have:(fun a=>decide (cls n (mG n S a)=cls n S) && gdB n (mG n S a))=okG n S:=by
     funext t; unfold okG; rw [Bool.and_comm]
    rw [this]
    exact (Jd leL (Qjc n S)).symm) [] ⟨by simp,List.Pairwise.nil⟩
 obtain ⟨r,h1,rfl⟩:=h
 rw [show ((0:Nat):Int)=0 from rfl] at h1
 rw [h1]; rfl
theorem Q02 {x:List Int} (hS:Gd n S):x∈Vc n S↔∃T,x=Qc n T∧Gd n T∧(∀u w,u < n→w < n→near T u w=near S u w)∧cls n T=cls n S:=by
 unfold Vc
 rw [(Jd leL (Qjc n S)).mem_iff,Qtn hS]
theorem Q1j (hn:n≤5):(Vc n S).length≤1024:=by
 unfold Vc
 rw [(Jd leL (Qjc n S)).length_eq]
 exact Q0r hn
end
end Go.Ab
namespace Go.Ab
open Go
set_option maxRecDepth 100000
set_option maxHeartbeats 1000000
theorem Qjx {n:Nat} (hn:n < 1000000) {body:Int→Option (Qg Int (Unit ⊕ Unit))} (p:Nat → Bool) (hb:∀k,k < n→body (k:Int)=if p k=true then some (.done (Sum.inl ())) else some (.next (zw ((k:Int)+1))))
  (hd:body (n:Int)=some (.done (Sum.inr ()))):Qb fuel body 0=some (if (List.range n).any p=true then Sum.inl () else Sum.inr ()):=by
 rcases Qgz (n:=n) (by omega) (fun k=>¬ p k=true) (fun i (_:Unit)=>i) (body:=body) (fun _=>()) (.inr ()) (.inl ())
  (fun k hk _ hg=>by rw [hb k hk,if_neg hg])
  (fun k hk _ hg=>by rw [hb k hk,if_pos (Classical.not_not.1 hg)])
  (fun _=>hd) with ⟨hg,h⟩ | ⟨hg,h⟩
 ·rw [show ((0:Nat):Int)=0 from rfl] at h
  rw [h,if_neg]
  rw [List.any_eq_true]
  rintro ⟨k,hk,hp⟩
  exact hg k (List.mem_range.1 hk) hp
 ·rw [show ((0:Nat):Int)=0 from rfl] at h
  rw [h,if_pos]
  rw [List.any_eq_true]
  apply Classical.byContradiction
  intro hno
  exact hg fun k hk hp=>hno ⟨k,List.mem_range.2 hk,hp⟩
def lnB (N O:Nat → Nat → Bool) (a b:Nat):Bool:=N a b && !O a b && !O b a
def onB (n:Nat) (N O:Nat → Nat → Bool) (a b:Nat):Bool:=(List.range n).any fun c=>!decide (c=b) && O c a && !N c b
def arB (n:Nat) (O:Nat → Nat → Bool) (a b:Nat):Bool:=(List.range n).any fun c=>O a c && O c b
def beB (n:Nat) (N O:Nat → Nat → Bool) (a b:Nat):Bool:=(List.range n).any fun c=>(List.range c).any fun d=>lnB N O a c && lnB N O a d && O c b && O d b && !N c d
def ruB (n:Nat) (N O:Nat → Nat → Bool) (a b:Nat):Bool:=onB n N O a b || arB n O a b || beB n N O a b
def Vh (O:Nat → Nat → Bool) (a b:Nat):Nat → Nat → Bool:=fun u w=>O u w || (decide (u=a) && decide (b=w))
section
variable {n:Nat} {S:Nat → Nat} (hn:n≤6)
abbrev skK (n:Nat) (S:Nat → Nat):Tequal_skeleton:=⟨(n:Int),Qi (mI (nrN n S))⟩
abbrev mxK (n:Nat) (S:Nat → Nat) (O:Nat → Nat → Bool):Qe:=⟨skK n S,Qi (mI O)⟩
include hn
theorem Qpy {a c:Nat} (ha:a < n) (hc:c < n):Qj (skK n S) (a:Int) (c:Int)=some (near S a c):=by
 rw [Qdk (by omega) (by omega),Qv,Kf ha hc]
 have:c < 6:=by omega
 simp [this]
theorem Qem {O:Nat → Nat → Bool} {a c:Nat} (ha:a < n) (hc:c < n):Ql (mxK n S O) (a:Int) (c:Int)=some (O a c):=by
 have h:=Qdk (m:=0) (N:=O) (a:=a) (c:=c) (by omega) (by omega)
 rw [Qv] at h
 have h6:c < 6:=by omega
 simp only [h6,decide_true,Bool.true_and] at h
 exact h
theorem Qri {O:Nat → Nat → Bool} {a c:Nat} (ha:a < n) (hc:c < n):Qw (mxK n S O) (a:Int) (c:Int)=some (lnB (near S) O a c):=by
 unfold Qw
 show (Qj (skK n S) (a:Int) (c:Int)).bind _=_
 rw [Qpy hn ha hc,Option.bind_some]
 unfold lnB
 cases near S a c with
 | false=>rfl
 | true =>
  rw [if_pos rfl]
  show (Ql (mxK n S O) (a:Int) (c:Int)).bind _=_
  rw [Qem hn ha hc,Option.bind_some]
  cases O a c with
  | true=>rfl
  | false =>
   rw [if_pos (by rfl)]
   show (Ql (mxK n S O) (c:Int) (a:Int)).bind _=_
   rw [Qem hn hc ha,Option.bind_some]
   cases O c a <;> rfl
theorem Q3y {O:Nat → Nat → Bool} {a b:Nat} (ha:a < n) (hb:b < n):X3 (mxK n S O) (a:Int) (b:Int)=some (onB n (near S) O a b):=by
 unfold X3
 rw [Qjx (n:=n) (by omega) (fun c=>!decide (c=b) && O c a && !near S c b) (fun c hc=>by
   unfold J1
   rw [if_pos (dlt hc)]
   by_cases e:c=b
   ·rw [if_neg (by simp [e]),if_neg (by simp [e])]
   ·rw [if_pos (by simp; omega)]
    show (Ql (mxK n S O) (c:Int) (a:Int)).bind _=_
    rw [Qem hn hc ha,Option.bind_some]
    cases hO:O c a with
    | false=>simp
    | true =>
     rw [if_pos rfl]
     show (Qj (skK n S) (c:Int) (b:Int)).bind _=_
     rw [Qpy hn hc hb,Option.bind_some]
     cases near S c b <;> simp [e])
  (by unfold J1; rw [if_neg (nlt n)]),Option.bind_some]
 unfold onB
 cases (List.range n).any fun c=>!decide (c=b) && O c a && !near S c b <;> rfl
theorem Q3u {O:Nat → Nat → Bool} {a b:Nat} (ha:a < n) (hb:b < n):X4 (mxK n S O) (a:Int) (b:Int)=some (arB n O a b):=by
 unfold X4
 rw [Qjx (n:=n) (by omega) (fun c=>O a c && O c b) (fun c hc=>by
   unfold J0
   rw [if_pos (dlt hc)]
   show (Ql (mxK n S O) (a:Int) (c:Int)).bind _=_
   rw [Qem hn ha hc,Option.bind_some]
   cases hO:O a c with
   | false=>simp
   | true =>
    rw [if_pos rfl]
    show (Ql (mxK n S O) (c:Int) (b:Int)).bind _=_
    rw [Qem hn hc hb,Option.bind_some]
    cases O c b <;> simp)
  (by unfold J0; rw [if_neg (nlt n)]),Option.bind_some]
 unfold arB
 cases (List.range n).any fun c=>O a c && O c b <;> rfl
theorem Q0m {O:Nat → Nat → Bool} {a b:Nat} (ha:a < n) (hb:b < n):Xq (mxK n S O) (a:Int) (b:Int)=some (beB n (near S) O a b):=by
 have inner:∀c,c < n→Qb fuel (Yy (c:Int) (mxK n S O) (a:Int) (b:Int)) 0=some (if (List.range c).any (fun d=>lnB (near S) O a c && lnB (near S) O a d && O c b && O d b && !near S c d)=true then Sum.inl () else Sum.inr ()):=fun c hc =>
  Qjx (n:=c) (by omega) _ (fun d hd=>by
   have hdn:d < n:=by omega
   unfold Yy
   rw [if_pos (dlt hd)]
   show (Qw (mxK n S O) (a:Int) (c:Int)).bind _=_
   rw [Qri hn ha hc,Option.bind_some]
   cases lnB (near S) O a c with
   | false=>simp
   | true =>
    rw [if_pos rfl]
    show (Qw (mxK n S O) (a:Int) (d:Int)).bind _=_
    rw [Qri hn ha hdn,Option.bind_some]
    cases lnB (near S) O a d with
    | false=>simp
    | true =>
     rw [if_pos rfl]
     show (Ql (mxK n S O) (c:Int) (b:Int)).bind _=_
     rw [Qem hn hc hb,Option.bind_some]
     cases O c b with
     | false=>simp
     | true =>
      rw [if_pos rfl]
      show (Ql (mxK n S O) (d:Int) (b:Int)).bind _=_
      rw [Qem hn hdn hb,Option.bind_some]
      cases O d b with
      | false=>simp
      | true =>
       rw [if_pos rfl]
       show (Qj (skK n S) (c:Int) (d:Int)).bind _=_
       rw [Qpy hn hc hdn,Option.bind_some]
       cases near S c d <;> simp)
   (by unfold Yy; rw [if_neg (nlt c)])
 unfold Xq
 rw [Qjx (n:=n) (by omega) (fun c=>(List.range c).any fun d=>lnB (near S) O a c && lnB (near S) O a d && O c b && O d b && !near S c d) (fun c hc=>by
   unfold Ju
   rw [if_pos (dlt hc),inner c hc,Option.bind_some]
   cases (List.range c).any fun d=>lnB (near S) O a c && lnB (near S) O a d && O c b && O d b && !near S c d <;> rfl)
  (by unfold Ju; rw [if_neg (nlt n)]),Option.bind_some]
 unfold beB
 cases (List.range n).any fun c=>(List.range c).any fun d=>lnB (near S) O a c && lnB (near S) O a d && O c b && O d b && !near S c d <;> rfl
omit hn in
theorem Q42 {O:Nat → Nat → Bool} {a b:Nat} (ha:a < 6) (hb:b < 6):Qi (sx (mI O) a (Km (mI O a) b))=Qi (mI (Vh O a b)):=by
 refine congrArg Qi ?_
 funext i
 unfold sx
 by_cases e:i=a
 ·subst e
  rw [if_pos rfl]
  unfold mI
  rw [Qft hb]
  congr 2
  funext w
  unfold Vh; simp
 ·rw [if_neg e]
  unfold mI
  congr 2
  funext w
  unfold Vh; simp [e]
omit hn in
theorem Qub {x1:Tequal_skeleton} {X:Nat → Int} {a b:Nat} {r:Int} (hr:r=0∨r=1∨r=2) (ha:a < 6) {v0 v1 v2:Bool}
  (h0:X3 ⟨x1,Qi X⟩ (a:Int) (b:Int)=some v0) (h1:X4 ⟨x1,Qi X⟩ (a:Int) (b:Int)=some v1) (h2:Xq ⟨x1,Qi X⟩ (a:Int) (b:Int)=some v2) :
  Zf x1 (Qi X) (a:Int) (b:Int) r=if (if r=0 then v0 else if r=1 then v1 else v2)=true then some (.done (Sum.inl (Qi (sx X a (Km (X a) b))))) else some (.next (zw (r+1))):=by
 have hnb:=Qo b
 have ha':a=0∨a=1∨a=2∨a=3∨a=4∨a=5:=by omega
 unfold Zf
 rcases hr with rfl | rfl | rfl
 ·rw [if_pos (by decide),if_pos rfl]
  show (X3 ⟨x1,Qi X⟩ (a:Int) (b:Int)).bind _=(if v0=true then some (Qg.done (Sum.inl (Qi (sx X a (Km (X a) b))))) else some (Qg.next (zw (0+1))):Option (Qg Int ((Int × Int × Int × Int × Int × Int) ⊕ Unit)))
  rw [h0,Option.bind_some]
  cases v0 with
  | false=>rfl
  | true =>
   rw [if_pos rfl,if_pos rfl]
   simp only [if_pos hnb]
   rcases ha' with rfl | rfl | rfl | rfl | rfl | rfl <;> rfl
 ·rw [if_pos (by decide),if_neg (by decide),if_pos rfl]
  show (X4 ⟨x1,Qi X⟩ (a:Int) (b:Int)).bind _=(if v1=true then some (Qg.done (Sum.inl (Qi (sx X a (Km (X a) b))))) else some (Qg.next (zw (1+1))):Option (Qg Int ((Int × Int × Int × Int × Int × Int) ⊕ Unit)))
  rw [h1,Option.bind_some]
  cases v1 with
  | false=>rfl
  | true =>
   rw [if_pos rfl,if_pos rfl]
   simp only [if_pos hnb]
   rcases ha' with rfl | rfl | rfl | rfl | rfl | rfl <;> rfl
 ·rw [if_pos (by decide),if_neg (by decide),if_neg (by decide),if_pos rfl]
  show (Xq ⟨x1,Qi X⟩ (a:Int) (b:Int)).bind _=(if v2=true then some (Qg.done (Sum.inl (Qi (sx X a (Km (X a) b))))) else some (Qg.next (zw (2+1))):Option (Qg Int ((Int × Int × Int × Int × Int × Int) ⊕ Unit)))
  rw [h2,Option.bind_some]
  cases v2 with
  | false=>rfl
  | true =>
   rw [if_pos rfl,if_pos rfl]
   simp only [if_pos hnb]
   rcases ha' with rfl | rfl | rfl | rfl | rfl | rfl <;> rfl
end
end Go.Ab
namespace Go.Ab
open Go
set_option maxRecDepth 100000
set_option maxHeartbeats 1000000
structure Cls (n:Nat) (S T:Nat → Nat):Prop where
 gd:Gd n T
 nr:∀u w,u < n→w < n→near T u w=near S u w
 cl:cls n T=cls n S
structure Qbi (n:Nat) (S:Nat → Nat) (O:Nat → Nat → Bool):Prop where
 inn:∀a b,O a b=true→a < n∧b < n
 snd:∀T,Cls n S T→∀a b,O a b=true→(T b).testBit a=true
 col:∀a b c,a≠c→a < n→b < n→c < n→Z2 S a b c=true→O a b=true
def Qak (n:Nat) (S:Nat → Nat) (O:Nat → Nat → Bool):Prop:=∀a b,a < n→b < n→lnB (near S) O a b=true→ruB n (near S) O a b=false
theorem Qh8 {n:Nat} {N O:Nat → Nat → Bool} {a b:Nat}:onB n N O a b=true↔∃c,c < n∧c≠b∧O c a=true∧N c b=false:=by
 unfold onB
 rw [List.any_eq_true]
 constructor
 ·rintro ⟨c,h1,h2⟩
  simp only [Bool.and_eq_true,Bool.not_eq_true',decide_eq_false_iff_not] at h2
  exact ⟨c,List.mem_range.1 h1,h2.1.1,h2.1.2,h2.2⟩
 ·rintro ⟨c,h1,h2,h3,h4⟩
  refine ⟨c,List.mem_range.2 h1,?_⟩
  simp [h2,h3,h4]
theorem Qit {n:Nat} {O:Nat → Nat → Bool} {a b:Nat}:arB n O a b=true↔∃c,c < n∧O a c=true∧O c b=true:=by
 unfold arB
 rw [List.any_eq_true]
 constructor
 ·rintro ⟨c,h1,h2⟩
  rw [Bool.and_eq_true] at h2
  exact ⟨c,List.mem_range.1 h1,h2.1,h2.2⟩
 ·rintro ⟨c,h1,h2,h3⟩
  exact ⟨c,List.mem_range.2 h1,by rw [h2,h3]; rfl⟩
theorem Qib {n:Nat} {N O:Nat → Nat → Bool} {a b:Nat}:beB n N O a b=true↔∃c d,c < n∧d < c∧lnB N O a c=true∧lnB N O a d=true∧O c b=true∧O d b=true∧N c d=false:=by
 unfold beB
 rw [List.any_eq_true]
 constructor
 ·rintro ⟨c,h1,h2⟩
  rw [List.any_eq_true] at h2
  obtain ⟨d,h3,h4⟩:=h2
  simp only [Bool.and_eq_true,Bool.not_eq_true'] at h4
  exact ⟨c,d,List.mem_range.1 h1,List.mem_range.1 h3,h4.1.1.1.1,h4.1.1.1.2,h4.1.1.2,h4.1.2,h4.2⟩
 ·rintro ⟨c,d,h1,h2,h3,h4,h5,h6,h7⟩
  refine ⟨c,List.mem_range.2 h1,?_⟩
  rw [List.any_eq_true]
  exact ⟨d,List.mem_range.2 h2,by rw [h3,h4,h5,h6,h7]; rfl⟩
theorem Qcv {N O:Nat → Nat → Bool} {a b:Nat}:lnB N O a b=true↔N a b=true∧O a b=false∧O b a=false:=by
 unfold lnB
 simp only [Bool.and_eq_true,Bool.not_eq_true']
 exact and_assoc
theorem Qwe {n:Nat} {S T:Nat → Nat} {O:Nat → Nat → Bool} (hS:Gd n S) (h:Qbi n S O) {a b:Nat} (ha:a < n) (hb:b < n) (hl:lnB (near S) O a b=true) (hr:ruB n (near S) O a b=true) (hT:Cls n S T):(T b).testBit a=true:=by
 obtain ⟨l1,l2,l3⟩:=Qcv.1 hl
 obtain ⟨r,hrk⟩:=Xc hT.gd
 have hn:near T a b=true:=by rw [hT.nr a b ha hb]; exact l1
 unfold near at hn
 rw [Bool.or_eq_true] at hn
 rcases hn with hn | hn
 ·exfalso
  have col:∀p q,p≠q→p < n→q < n→(T a).testBit p=true→(T a).testBit q=true→near S p q=false→O p a=true:=fun p q hpq hp hq e1 e2 e3=>by
   refine h.col p a q hpq hp ha hq ?_
   rw [←Qmx hT.cl hT.gd hS hpq hp hq ha]
   unfold Z2
   rw [e1,e2,hT.nr p q hp hq,e3]; rfl
  unfold ruB at hr
  rw [Bool.or_eq_true,Bool.or_eq_true] at hr
  rcases hr with (hr | hr) | hr
  ·obtain ⟨c,h1,h2,h3,h4⟩:=Qh8.1 hr
   have:=col b c (fun e=>h2 e.symm) hb h1 hn (h.snd T hT c a h3) (by rw [near_symm]; exact h4)
   rw [l3] at this; cases this
  ·obtain ⟨c,h1,h2,h3⟩:=Qit.1 hr
   have g1:=hrk c h1 a (h.snd T hT a c h2)
   have g2:=hrk b hb c (h.snd T hT c b h3)
   have g3:=hrk a ha b hn
   omega
  ·obtain ⟨c,d,h1,h2,h3,h4,h5,h6,h7⟩:=Qib.1 hr
   have key:∀c,c < n→lnB (near S) O a c=true→O c b=true→(T a).testBit c=true:=fun c hc hl hcb=>by
    have e1:near T a c=true:=by rw [hT.nr a c ha hc]; exact (Qcv.1 hl).1
    unfold near at e1
    rw [Bool.or_eq_true] at e1
    rcases e1 with e1 | e1
    ·exact e1
    ·have g1:=hrk c hc a e1
     have g2:=hrk b hb c (h.snd T hT c b hcb)
     have g3:=hrk a ha b hn
     omega
   have hd:d < n:=by omega
   have:=col c d (by omega) h1 hd (key c h1 h3 h5) (key d hd h4 h6) h7
   rw [(Qcv.1 h3).2.2] at this; cases this
 ·exact hn
theorem Q2q {n:Nat} {S:Nat → Nat} {O:Nat → Nat → Bool} (hS:Gd n S) (h:Qbi n S O) {a b:Nat} (ha:a < n) (hb:b < n) (hl:lnB (near S) O a b=true) (hr:ruB n (near S) O a b=true):Qbi n S (Vh O a b):=by
 have key:∀u w,Vh O a b u w=true→O u w=true∨(u=a∧w=b):=fun u w e=>by
  unfold Vh at e
  rw [Bool.or_eq_true,Bool.and_eq_true] at e
  rcases e with e | ⟨e1,e2⟩
  ·exact .inl e
  ·exact .inr ⟨of_decide_eq_true e1,(of_decide_eq_true e2).symm⟩
 refine ⟨fun u w e=>?_,fun T hT u w e=>?_,fun u v w h1 h2 h3 h4 h5=>?_⟩
 ·rcases key u w e with e | ⟨rfl,rfl⟩
  ·exact h.inn u w e
  ·exact ⟨ha,hb⟩
 ·rcases key u w e with e | ⟨rfl,rfl⟩
  ·exact h.snd T hT u w e
  ·exact Qwe hS h ha hb hl hr hT
 ·unfold Vh; rw [h.col u v w h1 h2 h3 h4 h5]; rfl
section
variable {n:Nat} {S:Nat → Nat} (hn:n≤6)
include hn
theorem Qwm {O:Nat → Nat → Bool} {a b:Nat} (ha:a < n) (hb:b < n) :
  Qb fuel (Zf (skK n S) (Qi (mI O)) (a:Int) (b:Int)) 0=some (if ruB n (near S) O a b=true then Sum.inl (Qi (mI (Vh O a b))) else Sum.inr ()):=by
 have h0:=Q3y (S:=S) (O:=O) hn ha hb
 have h1:=Q3u (S:=S) (O:=O) hn ha hb
 have h2:=Q0m (S:=S) (O:=O) hn ha hb
 have e:=Q42 (O:=O) (a:=a) (b:=b) (by omega) (by omega)
 have r0:=Qub (x1:=skK n S) (X:=mI O) (a:=a) (b:=b) (r:=0) (.inl rfl) (by omega) h0 h1 h2
 have r1:=Qub (x1:=skK n S) (X:=mI O) (a:=a) (b:=b) (r:=1) (.inr (.inl rfl)) (by omega) h0 h1 h2
 have r2:=Qub (x1:=skK n S) (X:=mI O) (a:=a) (b:=b) (r:=2) (.inr (.inr rfl)) (by omega) h0 h1 h2
 rw [e] at r0 r1 r2
 have r3:Zf (skK n S) (Qi (mI O)) (a:Int) (b:Int) 3=some (.done (Sum.inr ())):=by
  unfold Zf; rw [if_neg (by decide)]
 replace r0:Zf (skK n S) (Qi (mI O)) (a:Int) (b:Int) 0=(if onB n (near S) O a b=true then some (Qg.done (Sum.inl (Qi (mI (Vh O a b))))) else some (Qg.next (zw ((0:Int)+1))):Option (Qg Int ((Int × Int × Int × Int × Int × Int) ⊕ Unit))):=r0
 replace r1:Zf (skK n S) (Qi (mI O)) (a:Int) (b:Int) 1=(if arB n O a b=true then some (Qg.done (Sum.inl (Qi (mI (Vh O a b))))) else some (Qg.next (zw ((1:Int)+1))):Option (Qg Int ((Int × Int × Int × Int × Int × Int) ⊕ Unit))):=r1
 replace r2:Zf (skK n S) (Qi (mI O)) (a:Int) (b:Int) 2=(if beB n (near S) O a b=true then some (Qg.done (Sum.inl (Qi (mI (Vh O a b))))) else some (Qg.next (zw ((2:Int)+1))):Option (Qg Int ((Int × Int × Int × Int × Int × Int) ⊕ Unit))):=r2
 unfold ruB
 have hf:fuel=(fuel - 4)+1+1+1+1:=by unfold fuel; rfl
 rw [hf]
 simp only [Qb,r0]
 cases hb0:onB n (near S) O a b with
 | true=>simp
 | false =>
  simp only [Bool.false_eq_true,if_false,Bool.false_or]
  rw [show zw ((0:Int)+1)=1 from rfl,r1]
  cases hb1:arB n O a b with
  | true=>simp
  | false =>
   simp only [Bool.false_eq_true,if_false,Bool.false_or]
   rw [show zw ((1:Int)+1)=2 from rfl,r2]
   cases hb2:beB n (near S) O a b with
   | true=>simp
   | false =>
    simp only [Bool.false_eq_true,if_false]
    rw [show zw ((2:Int)+1)=3 from rfl,r3]
def Q1y (n:Nat) (S:Nat → Nat) (O:Nat → Nat → Bool) (a:Nat) (r:(Int × Int × Int × Int × Int × Int) ⊕ Unit):Prop :=
 (∃b,b < n∧lnB (near S) O a b=true∧ruB n (near S) O a b=true∧r=Sum.inl (Qi (mI (Vh O a b))))∨((∀b,b < n→lnB (near S) O a b=true→ruB n (near S) O a b=false)∧r=Sum.inr ())
theorem Qzx {O:Nat → Nat → Bool} {a:Nat} (ha:a < n):∃r,Qb fuel (X6 (skK n S) (Qi (mI O)) (a:Int)) 0=some r∧Q1y n S O a r:=by
 have h:=Yt (n:=n) (k0:=0) (by omega) (by omega) (fun i (_:Unit)=>i) (body:=X6 (skK n S) (Qi (mI O)) (a:Int)) (fun k _=>∀b,b < k→lnB (near S) O a b=true→ruB n (near S) O a b=false) (Q1y n S O a)
  (fun b t _ hb hI=>by
   have e:X6 (skK n S) (Qi (mI O)) (a:Int) (b:Int)=if lnB (near S) O a b=true∧ruB n (near S) O a b=true then some (.done (Sum.inl (Qi (mI (Vh O a b))))) else some (.next (zw ((b:Int)+1))):=by
    unfold X6
    rw [if_pos (dlt hb)]
    show (Qw (mxK n S O) (a:Int) (b:Int)).bind _=_
    rw [Qri hn ha hb,Option.bind_some]
    cases hl:lnB (near S) O a b with
    | false=>simp
    | true =>
     rw [if_neg (by simp),Qwm hn ha hb,Option.bind_some]
     cases hr:ruB n (near S) O a b with
     | true=>simp
     | false=>simp
   by_cases hc:lnB (near S) O a b=true∧ruB n (near S) O a b=true
   ·right
    exact ⟨_,by rw [e,if_pos hc],.inl ⟨b,hb,hc.1,hc.2,rfl⟩⟩
   ·left
    refine ⟨(),by rw [e,if_neg hc],fun b' hb' hl=>?_⟩
    by_cases e2:b'=b
    ·subst e2; exact Bool.eq_false_iff.2 fun hr=>hc ⟨hl,hr⟩
    ·exact hI b' (by omega) hl)
  (fun t hI=>⟨_,by unfold X6; rw [if_neg (nlt n)],.inr ⟨hI,rfl⟩⟩) () (fun b hb=>by omega)
 exact h
theorem Qxv {O:Nat → Nat → Bool}:∃r,Qb fuel (X0 (skK n S) (Qi (mI O))) 0=some r∧((∃a,a < n∧∃b,b < n∧lnB (near S) O a b=true∧ruB n (near S) O a b=true∧r=Sum.inl (Qi (mI (Vh O a b))))∨(Qak n S O∧r=Sum.inr ())):=by
 have h:=Yt (n:=n) (k0:=0) (by omega) (by omega) (fun i (_:Unit)=>i) (body:=X0 (skK n S) (Qi (mI O))) (fun k _=>∀a,a < k→∀b,b < n→lnB (near S) O a b=true→ruB n (near S) O a b=false)
  (fun r=>(∃a,a < n∧∃b,b < n∧lnB (near S) O a b=true∧ruB n (near S) O a b=true∧r=Sum.inl (Qi (mI (Vh O a b))))∨(Qak n S O∧r=Sum.inr ()))
  (fun a t _ ha hI=>by
   obtain ⟨r,h1,h2⟩:=Qzx (S:=S) (O:=O) hn ha
   rcases h2 with ⟨b,hb,hl,hr,rfl⟩ | ⟨h2,rfl⟩
   ·right
    refine ⟨_,?_,.inl ⟨a,ha,b,hb,hl,hr,rfl⟩⟩
    unfold X0
    rw [if_pos (dlt ha),h1]; rfl
   ·left
    refine ⟨(),?_,fun a' ha'=>?_⟩
    ·unfold X0
     rw [if_pos (dlt ha),h1]; rfl
    ·by_cases e:a'=a
     ·subst e; exact h2
     ·exact hI a' (by omega))
  (fun t hI=>⟨_,by unfold X0; rw [if_neg (nlt n)],.inr ⟨fun a b ha hb hl=>hI a ha b hb hl,rfl⟩⟩) () (fun a ha=>by omega)
 exact h
end
end Go.Ab
namespace Go.Ab
open Go
set_option maxRecDepth 100000
set_option maxHeartbeats 1000000
theorem Qvf {O:Nat → Nat → Bool} {a b:Nat} (hb:b < 6):sx (mI O) a (Km (mI O a) b)=mI (Vh O a b):=by
 funext i
 unfold sx
 by_cases e:i=a
 ·subst e
  rw [if_pos rfl]
  unfold mI
  rw [Qft hb]
  congr 2
  funext w
  unfold Vh; simp
 ·rw [if_neg e]
  unfold mI
  congr 2
  funext w
  unfold Vh; simp [e]
theorem Q2e {x3:List (Int × Int × Int)} {X:Nat → Int} {k a b c:Nat} (hk:decide ((k:Int) < (x3.length:Int))=true) (hl:lkI x3 (k:Int)=some ((a:Int),(b:Int),(c:Int))) (ha:a < 6) (hc:c < 6) :
  X1 x3 ((k:Int),Qi X)=some (.next (zw ((k:Int)+1),Qi (sx (sx X a (Km (X a) b)) c (Km (sx X a (Km (X a) b) c) b)))):=by
 have hnb:=Qo b
 unfold X1
 dsimp only
 rw [if_pos hk,hl,Option.bind_some]
 dsimp only
 have ha':a=0∨a=1∨a=2∨a=3∨a=4∨a=5:=by omega
 have hc':c=0∨c=1∨c=2∨c=3∨c=4∨c=5:=by omega
 simp only [if_pos hnb]
 clear hk hl
 rcases ha' with rfl | rfl | rfl | rfl | rfl | rfl <;> rcases hc' with rfl | rfl | rfl | rfl | rfl | rfl <;> rfl
def Q5u (L:List (Int × Int × Int)) (k:Nat) (O:Nat → Nat → Bool):Prop:=∀u w,O u w=true↔∃i,i < k∧∃a b c:Nat,L[i]?=some ((a:Int),(b:Int),(c:Int))∧w=b∧(u=a∨u=c)
section
variable {n:Nat} {S:Nat → Nat} (hn:n≤6) (hS:Gd n S)
include hn hS
theorem Qyv:∃O,Qb fuel (X1 (cls n S)) (0,0,0,0,0,0,0)=some (Qi (mI O))∧Qbi n S O:=by
 have hcl:=Qmo (n:=n) (S:=S) (by omega)
 have h:=Yt (n:=(cls n S).length) (k0:=0) (by omega) (by omega) (fun i (x:Int × Int × Int × Int × Int × Int)=>(i,x)) (body:=X1 (cls n S))
  (fun k x=>∃O,x=Qi (mI O)∧Q5u (cls n S) k O) (fun r=>∃O,r=Qi (mI O)∧Q5u (cls n S) (cls n S).length O)
  (fun k x _ hk hI=>by
   left
   obtain ⟨O,rfl,hO⟩:=hI
   obtain ⟨a,b,c,h1,h2,h3,h4,h5⟩:=Qid.1 (List.getElem_mem hk)
   rw [Q2e (a:=a) (b:=b) (c:=c) (dlt hk) (by rw [Q6 hk,h5]) (by omega) (by omega),Qvf (by omega),Qvf (by omega)]
   refine ⟨_,rfl,_,rfl,fun u w=>?_⟩
   have e:Vh (Vh O a b) c b u w=true↔O u w=true∨(w=b∧(u=a∨u=c)):=by
    unfold Vh
    simp only [Bool.or_eq_true,Bool.and_eq_true,decide_eq_true_eq]
    constructor
    ·rintro ((h | ⟨rfl,rfl⟩) | ⟨rfl,rfl⟩)
     ·exact .inl h
     ·exact .inr ⟨rfl,.inl rfl⟩
     ·exact .inr ⟨rfl,.inr rfl⟩
    ·rintro (h | ⟨rfl,rfl | rfl⟩)
     ·exact .inl (.inl h)
     ·exact .inl (.inr ⟨rfl,rfl⟩)
     ·exact .inr ⟨rfl,rfl⟩
   rw [e,hO u w]
   constructor
   ·rintro (⟨i,hi,h⟩ | h)
    ·exact ⟨i,by omega,h⟩
    ·exact ⟨k,by omega,a,b,c,by rw [List.getElem?_eq_getElem hk,h5],h⟩
   ·rintro ⟨i,hi,a',b',c',h6,h7⟩
    by_cases e:i=k
    ·subst e
     right
     rw [List.getElem?_eq_getElem hk,h5] at h6
     simp only [Option.some.injEq,Prod.mk.injEq,Int.ofNat_inj] at h6
     obtain ⟨rfl,rfl,rfl⟩:=h6
     exact h7
    ·exact .inl ⟨i,by omega,a',b',c',h6,h7⟩)
  (fun x hI=>by
   obtain ⟨O,rfl,hO⟩:=hI
   refine ⟨Qi (mI O),?_,O,rfl,hO⟩
   unfold X1
   dsimp only
   rw [if_neg (nlt _)]) (0,0,0,0,0,0) ⟨fun _ _=>false,(by
    have:∀m,msk m (fun _=>false)=0:=fun m=>by
     induction m with
     | zero=>rfl
     | succ m ih=>simp [msk,ih]
    unfold Qi mI
    rw [this 6]; rfl),fun u w=>⟨fun h=>(by cases h),fun ⟨i,hi,_⟩=>(by omega)⟩⟩
 obtain ⟨r,h1,O,rfl,hO⟩:=h
 rw [show ((0:Nat):Int)=0 from rfl] at h1
 refine ⟨O,h1,?_⟩
 have key:∀u w,O u w=true↔∃c,u≠c∧u < n∧w < n∧c < n∧Z2 S u w c=true:=fun u w=>by
  rw [hO u w]
  constructor
  ·rintro ⟨i,hi,a,b,c,h2,rfl,h3⟩
   obtain ⟨a',b',c',h4,h5,h6,h7,h8⟩:=Qid.1 (List.mem_of_getElem? h2)
   simp only [Prod.mk.injEq,Int.ofNat_inj] at h8
   obtain ⟨rfl,rfl,rfl⟩:=h8
   rcases h3 with rfl | rfl
   ·exact ⟨c,by omega,by omega,h6,h5,h7⟩
   ·exact ⟨a,by omega,h5,h6,by omega,by rw [colB_symm]; exact h7⟩
  ·rintro ⟨c,h2,h3,h4,h5,h6⟩
   rcases Nat.lt_or_gt_of_ne h2 with h7 | h7
   ·obtain ⟨i,hi⟩:=List.mem_iff_getElem?.1 ((Qid (n:=n) (S:=S) (p:=((u:Int),(w:Int),(c:Int)))).2 ⟨u,w,c,h7,h5,h4,h6,rfl⟩)
    exact ⟨i,(List.getElem?_eq_some_iff.1 hi).1,u,w,c,hi,rfl,.inl rfl⟩
   ·obtain ⟨i,hi⟩:=List.mem_iff_getElem?.1 ((Qid (n:=n) (S:=S) (p:=((c:Int),(w:Int),(u:Int)))).2 ⟨c,w,u,h7,h3,h4,by rw [colB_symm]; exact h6,rfl⟩)
    exact ⟨i,(List.getElem?_eq_some_iff.1 hi).1,c,w,u,hi,rfl,.inr rfl⟩
 refine ⟨fun a b e=>?_,fun T hT a b e=>?_,fun a b c h1 h2 h3 h4 h5=>(key a b).2 ⟨c,h1,h2,h3,h4,h5⟩⟩
 ·obtain ⟨c,_,h2,h3,_⟩:=(key a b).1 e
  exact ⟨h2,h3⟩
 ·obtain ⟨c,h1,h2,h3,h4,h5⟩:=(key a b).1 e
  rw [←Qmx hT.cl hT.gd hS h1 h2 h4 h3] at h5
  unfold Z2 at h5
  simp only [Bool.and_eq_true] at h5
  exact h5.1.1
def eL2 (n:Nat) (p:Nat → Nat → Bool):List (Int × Int):=apL (fun a=>apL (fun b=>if p a b=true then [((a:Int),(b:Int))] else []) 0 n) 0 n
omit hn hS in
theorem Qqf {α β σ ρ:Type} {n m:Nat} (hn:n≤6) (mkS:Int→List α→List β→σ) {body:σ→Option (Qg σ ρ)} (L:Nat → List α) (M:Nat → List β) (fin:List α→List β→ρ) (hL:∀k,(L k).length≤6) (hM:∀k,(M k).length≤6) {out:List α} {out2:List β} (hout:out.length≤100) (hout2:out2.length≤100)
  (step:∀k o o2,k < n→o.length≤200→o2.length≤200→body (mkS (k:Int) o o2)=some (.next (mkS (zw ((k:Int)+1)) (o++L k) (o2++M k))))
  (done:∀o o2,body (mkS (n:Int) o o2)=some (.done (fin o o2))):Qb fuel body (mkS 0 out out2)=some (fin (out++apL L 0 n) (out2++apL M 0 n)):=by
 have h:=Xr (n:=n) (k0:=0) (by omega) (by omega) (fun i (x:List α × List β)=>mkS i x.1 x.2) (body:=body) (fun k=>(out++apL L 0 k,out2++apL M 0 k)) (fin (out++apL L 0 n) (out2++apL M 0 n))
  (fun k _ h2=>by
   have hb:=Ze (k0:=0) hL k
   have hb2:=Ze (k0:=0) hM k
   dsimp only
   rw [step k _ _ h2 (by rw [List.length_append]; omega) (by rw [List.length_append]; omega)]
   simp only [apL,Nat.zero_add,List.append_assoc])
  (by exact done _ _)
 rw [show ((0:Nat):Int)=0 from rfl] at h
 simpa [apL] using h
omit hS in
theorem Qwy {O:Nat → Nat → Bool}:Qb fuel (Y5 (skK n S) (Qi (mI O))) (0,([]:List (Int × Int)),([]:List (Int × Int)))=some (eL2 n O,eL2 n fun a b=>decide (a < b) && lnB (near S) O a b):=by
 have hif:∀(c:Bool) (x:Int × Int),(if c=true then [x] else []).length≤6:=fun c x=>by cases c <;> simp
 have inner:∀a,a < n→∀(o o2:List (Int × Int)) (s:Int × List (Int × Int) × List (Int × Int)),s.1=(a:Int)→o.length≤100→o2.length≤100→Qb fuel (Yu (skK n S) (Qi (mI O)) s) (0,o,o2)=some (o++apL (fun b=>if O a b=true then [((a:Int),(b:Int))] else []) 0 n,o2++apL (fun b=>if (decide (a < b) && lnB (near S) O a b)=true then [((a:Int),(b:Int))] else []) 0 n):=fun a ha o o2 s hs ho ho2 =>
  Qqf (m:=0) hn (fun i x y=>(i,x,y)) (body:=Yu (skK n S) (Qi (mI O)) s) _ _ (fun x y=>(x,y)) (fun k=>hif _ _) (fun k=>hif _ _) ho ho2
   (fun b o o2 hb ho ho2=>by
    unfold Yu
    dsimp only
    rw [if_pos (dlt hb),hs]
    show (Ql (mxK n S O) (a:Int) (b:Int)).bind _=_
    rw [Qem hn ha hb,Option.bind_some]
    have hline:Qw (mxK n S O) (a:Int) (b:Int)=some (lnB (near S) O a b):=Qri hn ha hb
    have hlt:(decide ((a:Int) < (b:Int)))=decide (a < b):=by rw [Bool.eq_iff_iff]; simp
    rw [hlt]
    have l1:(o++([((a:Int),(b:Int))]:List (Int × Int))).length*16≤140737488355328:=by rw [List.length_append,List.length_singleton]; omega
    have l2:(o2++([((a:Int),(b:Int))]:List (Int × Int))).length*16≤140737488355328:=by rw [List.length_append,List.length_singleton]; omega
    cases hO:O a b with
    | true =>
     rw [if_pos rfl,if_pos l1]
     cases hd:decide (a < b) with
     | true =>
      rw [if_pos rfl]
      show (Qw (mxK n S O) (a:Int) (b:Int)).bind _=_
      rw [hline,Option.bind_some]
      cases hl:lnB (near S) O a b with
      | true=>rw [if_pos rfl,if_pos l2]; simp
      | false=>simp
     | false=>simp
    | false =>
     rw [if_neg (by decide)]
     cases hd:decide (a < b) with
     | true =>
      rw [if_pos rfl]
      show (Qw (mxK n S O) (a:Int) (b:Int)).bind _=_
      rw [hline,Option.bind_some]
      cases hl:lnB (near S) O a b with
      | true=>rw [if_pos rfl,if_pos l2]; simp
      | false=>simp
     | false=>simp)
   (fun o o2=>by unfold Yu; dsimp only; rw [if_neg (nlt n)])
 have hlen:∀(p:Nat → Nat → Bool) a,(apL (fun b=>if p a b=true then [((a:Int),(b:Int))] else []) 0 n).length≤6:=fun p a=>by
  have:=Ze (L:=fun b=>if p a b=true then [((a:Int),(b:Int))] else []) (k0:=0) (m:=1) (fun _=>Vq) n
  omega
 have h:=Xr (n:=n) (k0:=0) (by omega) (by omega) (fun i (x:List (Int × Int) × List (Int × Int))=>(i,x.1,x.2)) (body:=Y5 (skK n S) (Qi (mI O)))
  (fun k=>(apL (fun a=>apL (fun b=>if O a b=true then [((a:Int),(b:Int))] else []) 0 n) 0 k,apL (fun a=>apL (fun b=>if (decide (a < b) && lnB (near S) O a b)=true then [((a:Int),(b:Int))] else []) 0 n) 0 k))
  (eL2 n O,eL2 n fun a b=>decide (a < b) && lnB (near S) O a b)
  (fun k _ hk=>by
   have l1:=Ze (k0:=0) (hlen O) k
   have l2:=Ze (k0:=0) (hlen fun a b=>decide (a < b) && lnB (near S) O a b) k
   unfold Y5
   dsimp only
   rw [if_pos (dlt hk),inner k hk _ _ _ rfl (by omega) (by omega),Option.bind_some]
   simp only [apL,Nat.zero_add])
  (by unfold Y5; dsimp only; rw [if_neg (nlt n)]; rfl)
 rw [show ((0:Nat):Int)=0 from rfl] at h
 exact h
def Qtd (O:Nat → Nat → Bool):Nat := cnt 36 fun k=>O (k / 6) (k % 6)
omit hn hS in
theorem Qz8 {O:Nat → Nat → Bool} {a b:Nat} (ha:a < 6) (hb:b < 6) (h:O a b=false):Qtd O+1≤Qtd (Vh O a b):=by
 unfold Qtd
 have hk:a*6+b < 36:=by omega
 have hd:(a*6+b) / 6=a:=by omega
 have hm:(a*6+b) % 6=b:=by omega
 have e:=Qfu (n:=36) (v:=a*6+b) (p:=fun k=>Vh O a b (k / 6) (k % 6)) hk (by rw [hd,hm]; unfold Vh; simp)
 rw [←e]
 refine Nat.add_le_add_right (Qdt fun i hi hO=>?_) 1
 have hne:¬ a*6+b=i:=fun e2=>by
  subst e2
  rw [hd,hm,h] at hO; cases hO
 unfold Vh
 rw [hO]; simp [hne]
theorem Qsr:∀(j N:Nat) (O:Nat → Nat → Bool),36 - Qtd O≤j→j < N→Qbi n S O →
  ∃O',Qb N (Z8 (skK n S)) (Qi (mI O))=some (eL2 n O',eL2 n fun a b=>decide (a < b) && lnB (near S) O' a b)∧Qbi n S O'∧Qak n S O'
 | j,0,O,_,h2,_=>by omega
 | j,N+1,O,h1,h2,hO=>by
  obtain ⟨r,h3,h4⟩:=Qxv (S:=S) (O:=O) hn
  unfold Qb
  rcases h4 with ⟨a,ha,b,hb,hl,hr,rfl⟩ | ⟨hc,rfl⟩
  ·have e:Z8 (skK n S) (Qi (mI O))=some (.next (Qi (mI (Vh O a b)))):=by
    unfold Z8; rw [h3]; rfl
   rw [e]
   have hc:=Qz8 (O:=O) (a:=a) (b:=b) (by omega) (by omega) (Qcv.1 hl).2.1
   have hle:Qtd (Vh O a b)≤36:=Qn1 36 _
   match j,h1,h2 with
   | 0,h1,h2=>omega
   | j+1,h1,h2=>exact Qsr j N _ (by omega) (by omega) (Q2q hS hO ha hb hl hr)
  ·refine ⟨O,?_,hO,hc⟩
   have e:Z8 (skK n S) (Qi (mI O))=some (.done (eL2 n O,eL2 n fun a b=>decide (a < b) && lnB (near S) O a b)):=by
    unfold Z8
    rw [h3,Option.bind_some]
    dsimp only
    rw [Qwy hn]; rfl
   rw [e]
theorem Qfa:∃O,Zl (Qc n S)=some ⟨(n:Int),eL2 n O,eL2 n fun a b=>decide (a < b) && lnB (near S) O a b⟩∧Qbi n S O∧Qak n S O:=by
 obtain ⟨O,h1,h2⟩:=Qyv (S:=S) hn hS
 obtain ⟨O',h3,h4,h5⟩:=Qsr (S:=S) hn hS 36 fuel O (by omega) (by unfold fuel; omega) h2
 refine ⟨O',?_,h4,h5⟩
 unfold Zl
 rw [Kp hn hS,Option.bind_some,Qaa hn hS,Option.bind_some,h1,Option.bind_some]
 show (Qb fuel (Z8 (skK n S)) (Qi (mI O))).bind _=_
 rw [h3]; rfl
end
end Go.Ab
namespace Go.Ab
open Go
set_option maxRecDepth 100000
set_option maxHeartbeats 1000000
def tbB (m k:Nat):Bool:=Nat.beq (Nat.land (Nat.shiftRight m k) 1) 1
theorem Qzc {m k:Nat}:tbB m k=m.testBit k:=by
 rw [Nat.testBit_eq_decide_div_mod_eq]
 show Nat.beq (m >>> k &&& 1) 1=_
 rw [Nat.and_one_is_mod,Nat.shiftRight_eq_div_pow]
 rcases Nat.mod_two_eq_zero_or_one (m / 2^k) with h | h <;> rw [h] <;> rfl
def egI (i j:Nat):Nat := j*(j - 1) / 2+i
def eB (c i j:Nat):Bool:=tbB c (egI i j)
def ajB (c u w:Nat):Bool:=cond (Nat.blt u w) (eB c u w) (cond (Nat.blt w u) (eB c w u) false)
def paB (c f u v:Nat):Bool:=cond (Nat.blt u v) (eB c u v && !eB f u v) (cond (Nat.blt v u) (eB c v u && eB f v u) false)
def r5:List Nat := [0,1,2,3,4]
def icB (c a b:Nat):Bool:=paB c 0 a b && r5.any fun x=>!Nat.beq x a && paB c 0 x b && !ajB c a x
def knB (c:Nat) (G:List Nat) (a b:Nat):Bool:=icB c a b || G.any fun x=>Nat.beq x (5*a+b)
def stB (c:Nat) (G:List Nat) (a b:Nat):Bool :=
 (r5.any fun u=>!Nat.beq u b && knB c G u a && !ajB c u b) || (r5.any fun u=>knB c G a u && knB c G u b) ||
 (r5.any fun u=>r5.any fun w=>Nat.blt w u && ajB c a u && ajB c a w && knB c G u b && knB c G w b && !ajB c u w && !(paB c 0 u a && paB c 0 w a))
def drB (c:Nat):List Nat → List Nat → Bool
 | _,[]=>true
 | G,x::l=>paB c 0 (x / 5) (x % 5) && stB c G (x / 5) (x % 5) && drB c (x::G) l
def tM (c f v:Nat):Nat := msk 5 fun u=>paB c f u v
def clB (c f a b d:Nat):Bool:=paB c f a b && paB c f d b && !ajB c a d
def wtB (c f:Nat):Bool:=Nat.beq (pls 5 (tM c f) 5) 31 && r5.all fun b=>r5.all fun a=>r5.all fun d=>!Nat.blt a d || (clB c f a b d==clB c 0 a b d)
def cvB (c:Nat) (D W:List Nat):Bool:=r5.all fun a=>r5.all fun b=>!paB c 0 a b || icB c a b || (D.any fun x=>Nat.beq x (5*a+b)) || W.any fun f=>eB f a b
def chB (c:Nat) (D W:List Nat):Bool:=drB c [] D && W.all (wtB c) && cvB c D W
def chL:Nat → List (List Nat × List Nat)→Bool
 | _,[]=>true
 | c,x::l=>chB c x.1 x.2 && chL (c+1) l
theorem Vv : ∀(l:List (List Nat × List Nat)) (c:Nat),chL c l=true→∀i,i < l.length→∃D W,chB (c+i) D W=true
 | [],_,_,i,hi=>by simp at hi
 | x::l,c,h,i,hi=>by
  simp only [chL,Bool.and_eq_true] at h
  cases i with
  | zero=>exact ⟨_,_,h.1⟩
  | succ i =>
   have:=Vv l (c+1) h.2 i (by simpa using hi)
   rwa [show c+1+i=c+(i+1) by omega] at this
def tW0:List (List Nat × List Nat):=[([],[]),([],[1]),([],[2]),([],[1,2]),([],[4]),([],[5]),([],[]),([],[7]),([],[8]),([],[1,8]),([],[2,8]),([],[1,2,8]),([],[12]),([],[5,8]),([],[8]),([],[7,8]),([],[16]),([],[17]),([],[18]),([],[17,2]),([],[4,16]),([],[5,17]),([],[16]),([],[7,17]),([],[]),([],[25]),([],[2]),([],[25,2]),([],[4]),([],[13,16]),([],[]),([],[7,24]),([],[32]),([],[33]),([],[34]),([],[34,1]),([],[36]),([],[37]),([13],[]),([],[39]),([],[]),([],[1]),([],[42]),([],[42,1]),([],[4]),([],[5]),([13,3],[]),([],[46,1]),([],[]),([],[1]),([],[2]),([],[1,2]),([],[52]),([],[53]),([13,8],[]),([],[55]),([],[]),([],[1]),([],[2]),([3],[1,2]),([],[4]),([8],[5]),([],[32]),([],[63])]
def tW1:List (List Nat × List Nat):=[([],[64]),([],[1,64]),([],[2,64]),([],[1,2,64]),([],[68]),([],[5,64]),([],[64]),([],[7,64]),([],[8,64]),([],[1,8,64]),([],[2,8,64]),([],[1,2,8,64]),([],[68,8]),([],[5,64,8]),([],[8,64]),([],[7,64,8]),([],[80]),([],[17,64]),([],[18,64]),([],[17,2,64]),([],[68,16]),([],[5,17,64]),([],[80]),([],[7,64,17]),([],[64]),([],[25,64]),([],[2,64]),([],[25,64,2]),([],[68]),([],[13,80]),([],[64]),([],[7,80,9]),([],[96]),([],[33,64]),([],[34,64]),([],[34,1,64]),([],[100]),([],[37,64]),([13],[64]),([],[39,64]),([],[64]),([],[1,64]),([],[42,64]),([],[42,1,64]),([],[68]),([],[5,64]),([13,3],[64]),([],[46,1,64]),([],[64]),([],[1,64]),([],[2,64]),([],[1,2,64]),([],[116]),([],[53,64]),([13,8],[64]),([],[55,64]),([],[64]),([],[1,64]),([],[2,64]),([3],[1,2,64]),([],[68]),([8],[5,64]),([],[96]),([],[63,64])]
def tW2:List (List Nat × List Nat):=[([],[128]),([],[129]),([],[130]),([],[129,2]),([],[4,128]),([],[5,129]),([],[128]),([],[7,129]),([],[136]),([],[129,8]),([],[130,8]),([],[129,2,8]),([],[12,128]),([],[5,129,8]),([],[136]),([],[7,8,129]),([],[16,128]),([],[17,129]),([],[18,128]),([],[17,2,129]),([],[4,16,128]),([],[5,17,129]),([],[16,128]),([],[7,129,17]),([],[128]),([],[25,129]),([],[130]),([],[137,18]),([],[4,128]),([],[13,129,16]),([],[128]),([],[137,6,16]),([],[160]),([],[161]),([],[162]),([],[34,129]),([],[36,128]),([],[37,129]),([13],[128]),([],[39,129]),([],[128]),([],[129]),([],[170]),([],[161,10]),([],[4,128]),([],[5,129]),([13,3],[128]),([],[46,129]),([],[128]),([],[129]),([],[130]),([],[129,2]),([],[52,128]),([],[53,129]),([13,8],[128]),([],[55,129]),([],[128]),([],[129]),([],[130]),([3],[129,2]),([],[4,128]),([8],[5,129]),([],[160]),([],[63,129])]
def tW3:List (List Nat × List Nat):=[([],[]),([],[193]),([],[2]),([],[193,2]),([],[4]),([],[69,128]),([],[]),([],[193,6]),([],[8]),([],[193,8]),([],[2,8]),([],[193,8,2]),([],[12]),([],[69,136]),([],[8]),([],[193,12,3]),([],[16]),([],[81,128]),([],[18]),([],[193,2,17]),([],[4,16]),([],[69,128,17]),([],[16]),([],[193,6,17]),([],[]),([],[193,24]),([],[2]),([],[193,24,2]),([],[4]),([],[69,24,128]),([],[]),([],[193,6,24]),([],[32]),([],[225]),([],[34]),([],[193,34]),([],[36]),([],[101,128]),([13],[]),([],[39,192]),([],[]),([],[193]),([],[42]),([],[225,10]),([],[4]),([],[69,128]),([13,3],[]),([],[46,193]),([],[]),([],[193]),([],[2]),([],[193,2]),([],[52]),([],[117,128]),([13,8],[]),([],[55,192]),([],[]),([],[193]),([],[2]),([3],[193,2]),([],[4]),([8],[69,128]),([],[32]),([],[63,192])]
def tW4:List (List Nat × List Nat):=[([],[256]),([],[257]),([],[258]),([],[258,1]),([],[260]),([],[261]),([14],[]),([],[263]),([],[264]),([],[257,8]),([],[258,8]),([],[258,1,8]),([],[268]),([],[261,8]),([14],[8]),([],[263,8]),([],[272]),([],[273]),([],[274]),([],[17,258]),([],[260,16]),([],[261,17]),([14],[16]),([],[263,17]),([],[256]),([],[281]),([],[258]),([],[25,258]),([],[260]),([],[269,16]),([14],[]),([],[263,24]),([],[32,256]),([],[257,32]),([],[34,258]),([],[34,1,258]),([],[36,260]),([],[261,37]),([13,14],[]),([],[263,38]),([],[256]),([],[257]),([],[42,258]),([],[266,33]),([],[260]),([],[261]),([13,14,3],[]),([],[263,44]),([],[256]),([],[257]),([],[258]),([],[258,1]),([],[52,260]),([],[277,32]),([13,14,8],[]),([],[279,35]),([],[256]),([],[257]),([],[258]),([3],[258,1]),([],[260]),([8],[261]),([14],[32]),([],[287,32])]
def tW5:List (List Nat × List Nat):=[([],[]),([],[1]),([],[322]),([],[322,1]),([],[4]),([],[5]),([14,4],[]),([],[326,1]),([],[8]),([],[1,8]),([],[322,8]),([],[322,1,8]),([],[12]),([],[5,8]),([14,4],[8]),([],[326,1,8]),([],[16]),([],[17]),([],[338]),([],[322,17]),([],[4,16]),([],[5,17]),([14,4],[16]),([],[326,17]),([],[]),([],[25]),([],[322]),([],[281,66]),([],[4]),([],[13,16]),([14,4],[]),([],[326,25]),([],[32]),([],[33]),([],[98,256]),([],[322,1,34]),([],[36]),([],[37]),([13,14,4],[]),([],[326,39]),([],[]),([],[1]),([],[322,40]),([],[322,33,40]),([],[4]),([],[5]),([13,14,3,4],[]),([],[326,44,1]),([],[]),([],[1]),([],[322]),([],[322,1]),([],[52]),([],[53]),([13,14,8,4],[]),([],[55,324]),([],[]),([],[1]),([],[322]),([3],[322,1]),([],[4]),([8],[5]),([14,4],[32]),([],[63,324])]
def tW6:List (List Nat × List Nat):=[([],[]),([],[1]),([],[2]),([],[1,2]),([],[388]),([],[389]),([14,9],[]),([],[391]),([],[8]),([],[1,8]),([],[2,8]),([],[1,2,8]),([],[396]),([],[389,8]),([14,9],[8]),([],[391,8]),([],[16]),([],[17]),([],[18]),([],[17,2]),([],[388,16]),([],[389,17]),([14,9],[16]),([],[391,17]),([],[]),([],[25]),([],[2]),([],[25,2]),([],[388]),([],[397,16]),([14,9],[]),([],[391,24]),([],[32]),([],[33]),([],[34]),([],[34,1]),([],[164,256]),([],[389,37]),([13,14,9],[]),([],[391,38]),([],[]),([],[1]),([],[42]),([],[42,1]),([],[388]),([],[389]),([13,14,3,9],[]),([],[391,44]),([],[]),([],[1]),([],[2]),([],[1,2]),([],[388,48]),([],[389,49]),([13,14,8,9],[]),([],[391,51]),([],[]),([],[1]),([],[2]),([3],[1,2]),([],[388]),([8],[389]),([14,9],[32]),([],[399,48])]
def tW7:List (List Nat × List Nat):=[([],[]),([],[1]),([],[2]),([4],[1,2]),([],[4]),([9],[5]),([],[256]),([],[455]),([],[8]),([],[1,8]),([],[2,8]),([4],[1,2,8]),([],[12]),([9],[5,8]),([],[264]),([],[455,8]),([],[16]),([],[17]),([],[18]),([4],[17,2]),([],[4,16]),([9],[5,17]),([],[272]),([],[455,17]),([],[]),([],[25]),([],[2]),([4],[25,2]),([],[4]),([9],[13,16]),([],[256]),([],[455,24]),([],[32]),([],[33]),([],[34]),([4],[34,1]),([],[36]),([9],[37]),([13],[256]),([],[455,38]),([],[]),([],[1]),([],[42]),([4],[42,1]),([],[4]),([9],[5]),([13,3],[256]),([],[455,44]),([],[]),([],[1]),([],[2]),([4],[1,2]),([],[52]),([9],[53]),([13,8],[256]),([],[455,51]),([],[]),([],[1]),([],[2]),([3,4],[1,2]),([],[4]),([8,9],[5]),([],[32,256]),([],[455,56])]
def tW8:List (List Nat × List Nat):=[([],[512]),([],[513]),([],[514]),([],[513,2]),([],[516]),([],[517]),([],[512]),([],[519]),([],[520]),([],[520,1]),([],[520,2]),([],[520,1,2]),([],[524]),([],[5,520]),([],[520]),([],[524,3]),([],[528]),([],[529]),([],[530]),([],[529,2]),([],[528,4]),([],[529,5]),([],[528]),([],[531,4]),([19],[]),([],[537]),([19],[2]),([],[537,2]),([19],[4]),([],[537,5]),([19],[]),([],[537,6]),([],[544]),([],[545]),([],[546]),([],[546,1]),([],[548]),([],[549]),([13,19],[]),([],[551]),([19],[]),([19],[1]),([],[554]),([],[554,1]),([19],[4]),([19],[5]),([13,19,3],[]),([],[558,1]),([19],[]),([19],[1]),([19],[2]),([19],[1,2]),([],[564]),([],[565]),([13,19,8],[]),([],[567]),([19],[]),([19],[1]),([19],[2]),([3,19],[1,2]),([19],[4]),([8,19],[5]),([19],[32]),([],[575])]
def tW9:List (List Nat × List Nat):=[([],[]),([],[1]),([],[2]),([],[1,2]),([],[4]),([],[5]),([],[]),([],[7]),([],[584]),([],[584,1]),([],[584,2]),([],[584,1,2]),([],[588]),([],[517,72]),([],[584]),([],[588,3]),([],[16]),([],[17]),([],[18]),([],[17,2]),([],[4,16]),([],[5,17]),([],[16]),([],[7,17]),([19,4],[]),([],[600,1]),([19,4],[2]),([],[600,1,2]),([19,4],[4]),([],[600,5]),([19,4],[]),([],[600,7]),([],[32]),([],[33]),([],[34]),([],[34,1]),([],[36]),([],[37]),([13],[]),([],[39]),([19,4],[]),([19,4],[1]),([],[616,2]),([],[616,1,2]),([19,4],[4]),([19,4],[5]),([13,19,3,4],[]),([],[620,3]),([],[]),([],[1]),([],[2]),([],[1,2]),([],[52]),([],[53]),([13,8],[]),([],[55]),([19,4],[]),([19,4],[1]),([19,4],[2]),([3,19,4],[1,2]),([19,4],[4]),([8,19,4],[5]),([19,4],[32]),([],[636,3])]
def Q4c:List (List Nat × List Nat):=[([],[]),([],[1]),([],[2]),([],[1,2]),([],[4]),([],[5]),([],[]),([],[7]),([],[8]),([],[1,8]),([],[2,8]),([],[1,2,8]),([],[12]),([],[5,8]),([],[8]),([],[7,8]),([],[656]),([],[657]),([],[658]),([],[657,2]),([],[656,4]),([],[657,5]),([],[656]),([],[659,4]),([19,9],[]),([],[665]),([19,9],[2]),([],[665,2]),([19,9],[4]),([],[665,5]),([19,9],[]),([],[665,6]),([],[32]),([],[33]),([],[34]),([],[34,1]),([],[36]),([],[37]),([13],[]),([],[39]),([],[]),([],[1]),([],[42]),([],[42,1]),([],[4]),([],[5]),([13,3],[]),([],[46,1]),([19,9],[]),([19,9],[1]),([19,9],[2]),([19,9],[1,2]),([],[688,4]),([],[689,5]),([13,19,8,9],[]),([],[691,4]),([19,9],[]),([19,9],[1]),([19,9],[2]),([3,19,9],[1,2]),([19,9],[4]),([8,19,9],[5]),([19,9],[32]),([],[699,4])]
def Q31:List (List Nat × List Nat):=[([],[]),([],[1]),([],[2]),([],[1,2]),([],[4]),([],[5]),([],[]),([],[7]),([],[8]),([4],[1,8]),([],[2,8]),([4],[1,2,8]),([],[12]),([4],[5,8]),([],[8]),([4],[7,8]),([],[16]),([9],[17]),([],[18]),([9],[17,2]),([],[4,16]),([9],[5,17]),([],[16]),([9],[7,17]),([],[512]),([],[729]),([],[514]),([],[729,2]),([],[516]),([],[729,5]),([],[512]),([],[729,6]),([],[32]),([],[33]),([],[34]),([],[34,1]),([],[36]),([],[37]),([13],[]),([],[39]),([],[]),([4],[1]),([],[42]),([4],[42,1]),([],[4]),([4],[5]),([13,3],[]),([4],[46,1]),([],[]),([9],[1]),([],[2]),([9],[1,2]),([],[52]),([9],[53]),([13,8],[]),([9],[55]),([19],[]),([19,4,9],[1]),([19],[2]),([3,19,4,9],[1,2]),([19],[4]),([8,19,4,9],[5]),([],[544]),([],[761,6])]
def Q50:List (List Nat × List Nat):=[([],[]),([],[1]),([],[2]),([],[1,2]),([],[4]),([],[5]),([],[]),([],[7]),([],[8]),([],[1,8]),([],[2,8]),([],[1,2,8]),([],[12]),([],[5,8]),([],[8]),([],[7,8]),([],[16]),([],[17]),([],[18]),([],[17,2]),([],[4,16]),([],[5,17]),([],[16]),([],[7,17]),([],[]),([],[25]),([],[2]),([],[25,2]),([],[4]),([],[13,16]),([],[]),([],[7,24]),([],[800]),([],[801]),([],[802]),([],[802,1]),([],[804]),([],[805]),([13,14],[512]),([],[807]),([19,14],[]),([19,14],[1]),([],[810]),([],[810,1]),([19,14],[4]),([19,14],[5]),([13,14,3,19],[]),([],[814,1]),([19,14],[]),([19,14],[1]),([19,14],[2]),([19,14],[1,2]),([],[820]),([],[821]),([13,14,8,19],[]),([],[823]),([19,14],[]),([19,14],[1]),([19,14],[2]),([3,19,14],[1,2]),([19,14],[4]),([8,19,14],[5]),([14,19],[32]),([],[831])]
def Q36:List (List Nat × List Nat):=[([],[]),([],[1]),([],[2]),([],[1,2]),([],[4]),([],[5]),([],[]),([],[7]),([],[8]),([],[1,8]),([4],[2,8]),([4],[1,2,8]),([],[12]),([],[5,8]),([4],[8]),([4],[7,8]),([],[16]),([],[17]),([],[18]),([],[17,2]),([],[4,16]),([],[5,17]),([],[16]),([],[7,17]),([],[]),([],[25]),([4],[2]),([4],[25,2]),([],[4]),([],[13,16]),([4],[]),([4],[7,24]),([],[32]),([],[33]),([14],[34]),([14],[34,1]),([],[36]),([],[37]),([13,14],[]),([14],[39]),([],[512]),([],[513]),([],[874]),([],[874,1]),([],[516]),([],[517]),([13,14,3,4],[512]),([],[878,1]),([],[]),([],[1]),([14],[2]),([14],[1,2]),([],[52]),([],[53]),([13,14,8],[]),([14],[55]),([19],[]),([19],[1]),([19,4,14],[2]),([3,19,4,14],[1,2]),([19],[4]),([8,19],[5]),([14,19,4],[32]),([],[894,1])]
def Q5x:List (List Nat × List Nat):=[([],[]),([],[1]),([],[2]),([],[1,2]),([],[4]),([],[5]),([],[]),([],[7]),([],[8]),([],[1,8]),([],[2,8]),([],[1,2,8]),([],[12]),([],[5,8]),([],[8]),([],[7,8]),([],[16]),([],[17]),([],[18]),([],[17,2]),([9],[4,16]),([9],[5,17]),([9],[16]),([9],[7,17]),([],[]),([],[25]),([],[2]),([],[25,2]),([9],[4]),([9],[13,16]),([9],[]),([9],[7,24]),([],[32]),([],[33]),([],[34]),([],[34,1]),([14],[36]),([14],[37]),([13,14],[]),([14],[39]),([],[]),([],[1]),([],[42]),([],[42,1]),([14],[4]),([14],[5]),([13,14,3],[]),([14],[46,1]),([],[512]),([],[513]),([],[514]),([],[513,2]),([],[948]),([],[949]),([13,14,8,9],[512]),([],[951]),([19],[]),([19],[1]),([19],[2]),([3,19],[1,2]),([19,9,14],[4]),([8,19,9,14],[5]),([14,19,9],[32]),([],[959])]
def Q4j:List (List Nat × List Nat):=[([],[]),([],[1]),([],[2]),([],[1,2]),([],[4]),([],[5]),([],[]),([],[7]),([],[8]),([],[1,8]),([],[2,8]),([4],[1,2,8]),([],[12]),([],[5,8]),([],[8]),([4],[7,8]),([],[16]),([],[17]),([],[18]),([],[17,2]),([],[4,16]),([9],[5,17]),([],[16]),([9],[7,17]),([],[]),([],[25]),([],[2]),([4],[25,2]),([],[4]),([9],[13,16]),([],[]),([4,9],[7,24]),([],[32]),([],[33]),([],[34]),([],[34,1]),([],[36]),([],[37]),([13,14],[]),([14],[39]),([],[]),([],[1]),([],[42]),([4],[42,1]),([],[4]),([],[5]),([13,14,3],[]),([4,14],[46,1]),([],[]),([],[1]),([],[2]),([],[1,2]),([],[52]),([9],[53]),([13,14,8],[]),([9,14],[55]),([],[512]),([],[513]),([],[514]),([3,4],[513,2]),([],[516]),([8,9],[517]),([],[800]),([],[1023])]
theorem Q4m:chL 0 tW0=true:=by kernel_rfl
theorem Q5n:chL 64 tW1=true:=by kernel_rfl
theorem Q45:chL 128 tW2=true:=by kernel_rfl
theorem Q4v:chL 192 tW3=true:=by kernel_rfl
theorem Q30:chL 256 tW4=true:=by kernel_rfl
theorem Q5c:chL 320 tW5=true:=by kernel_rfl
theorem Q4t:chL 384 tW6=true:=by kernel_rfl
theorem Q39:chL 448 tW7=true:=by kernel_rfl
theorem Q5b:chL 512 tW8=true:=by kernel_rfl
theorem Q5y:chL 576 tW9=true:=by kernel_rfl
theorem Q3p:chL 640 Q4c=true:=by kernel_rfl
theorem Q2n:chL 704 Q31=true:=by kernel_rfl
theorem Q3g:chL 768 Q50=true:=by kernel_rfl
theorem Q3b:chL 832 Q36=true:=by kernel_rfl
theorem Q2l:chL 896 Q5x=true:=by kernel_rfl
theorem Q3w:chL 960 Q4j=true:=by kernel_rfl
theorem Q4z {c:Nat} (h:c < 1024):∃D W,chB c D W=true:=by
 have hk:(0≤c∧c < 64)∨(64≤c∧c < 128)∨(128≤c∧c < 192)∨(192≤c∧c < 256)∨(256≤c∧c < 320)∨(320≤c∧c < 384)∨(384≤c∧c < 448)∨(448≤c∧c < 512)∨(512≤c∧c < 576)∨(576≤c∧c < 640)∨(640≤c∧c < 704)∨(704≤c∧c < 768)∨(768≤c∧c < 832)∨(832≤c∧c < 896)∨(896≤c∧c < 960)∨(960≤c∧c < 1024):=by omega
 rcases hk with h | h | h | h | h | h | h | h | h | h | h | h | h | h | h | h
 ·have:=Vv tW0 0 Q4m (c - 0) (by show c - 0 < 64; omega)
  rwa [show 0+(c - 0)=c by omega] at this
 ·have:=Vv tW1 64 Q5n (c - 64) (by show c - 64 < 64; omega)
  rwa [show 64+(c - 64)=c by omega] at this
 ·have:=Vv tW2 128 Q45 (c - 128) (by show c - 128 < 64; omega)
  rwa [show 128+(c - 128)=c by omega] at this
 ·have:=Vv tW3 192 Q4v (c - 192) (by show c - 192 < 64; omega)
  rwa [show 192+(c - 192)=c by omega] at this
 ·have:=Vv tW4 256 Q30 (c - 256) (by show c - 256 < 64; omega)
  rwa [show 256+(c - 256)=c by omega] at this
 ·have:=Vv tW5 320 Q5c (c - 320) (by show c - 320 < 64; omega)
  rwa [show 320+(c - 320)=c by omega] at this
 ·have:=Vv tW6 384 Q4t (c - 384) (by show c - 384 < 64; omega)
  rwa [show 384+(c - 384)=c by omega] at this
 ·have:=Vv tW7 448 Q39 (c - 448) (by show c - 448 < 64; omega)
  rwa [show 448+(c - 448)=c by omega] at this
 ·have:=Vv tW8 512 Q5b (c - 512) (by show c - 512 < 64; omega)
  rwa [show 512+(c - 512)=c by omega] at this
 ·have:=Vv tW9 576 Q5y (c - 576) (by show c - 576 < 64; omega)
  rwa [show 576+(c - 576)=c by omega] at this
 ·have:=Vv Q4c 640 Q3p (c - 640) (by show c - 640 < 64; omega)
  rwa [show 640+(c - 640)=c by omega] at this
 ·have:=Vv Q31 704 Q2n (c - 704) (by show c - 704 < 64; omega)
  rwa [show 704+(c - 704)=c by omega] at this
 ·have:=Vv Q50 768 Q3g (c - 768) (by show c - 768 < 64; omega)
  rwa [show 768+(c - 768)=c by omega] at this
 ·have:=Vv Q36 832 Q3b (c - 832) (by show c - 832 < 64; omega)
  rwa [show 832+(c - 832)=c by omega] at this
 ·have:=Vv Q5x 896 Q2l (c - 896) (by show c - 896 < 64; omega)
  rwa [show 896+(c - 896)=c by omega] at this
 ·have:=Vv Q4j 960 Q3w (c - 960) (by show c - 960 < 64; omega)
  rwa [show 960+(c - 960)=c by omega] at this
end Go.Ab
namespace Go.Ab
open Go
set_option maxRecDepth 100000
set_option maxHeartbeats 1000000
theorem Qoy {x:Nat}:x∈r5↔x < 5:=by unfold r5; simp; omega
theorem Qlw {p:Nat → Bool}:r5.any p=true↔∃x,x < 5∧p x=true:=by
 rw [List.any_eq_true]
 constructor
 ·rintro ⟨x,h1,h2⟩; exact ⟨x,Qoy.1 h1,h2⟩
 ·rintro ⟨x,h1,h2⟩; exact ⟨x,Qoy.2 h1,h2⟩
theorem Qkl {p:Nat → Bool}:r5.all p=true↔∀x,x < 5→p x=true:=by
 rw [List.all_eq_true]
 exact ⟨fun h x hx=>h x (Qoy.2 hx),fun h x hx=>h x (Qoy.1 hx)⟩
theorem Qai {a b:Nat}:Nat.blt a b=true↔a < b:=by unfold Nat.blt; rw [Nat.ble_eq]; exact Iff.rfl
theorem Qmi {c f u v:Nat}:paB c f u v=true↔(u < v∧eB c u v=true∧eB f u v=false)∨(v < u∧eB c v u=true∧eB f v u=true):=by
 unfold paB
 cases h1:Nat.blt u v with
 | true =>
  have:=Qai.1 h1
  simp only [cond_true,Bool.and_eq_true,Bool.not_eq_true']
  constructor
  ·intro h; exact .inl ⟨this,h⟩
  ·rintro (h | h)
   ·exact h.2
   ·omega
 | false =>
  have hn:¬ u < v:=fun h=>by rw [Qai.2 h] at h1; cases h1
  simp only [cond_false]
  cases h2:Nat.blt v u with
  | true =>
   have:=Qai.1 h2
   simp only [cond_true,Bool.and_eq_true]
   constructor
   ·intro h; exact .inr ⟨this,h⟩
   ·rintro (h | h)
    ·omega
    ·exact h.2
  | false =>
   have hn2:¬ v < u:=fun h=>by rw [Qai.2 h] at h2; cases h2
   simp only [cond_false,Bool.false_eq_true,false_iff]
   rintro (h | h) <;> omega
theorem Qmp {c u v:Nat}:ajB c u v=true↔(u < v∧eB c u v=true)∨(v < u∧eB c v u=true):=by
 unfold ajB
 cases h1:Nat.blt u v with
 | true =>
  have:=Qai.1 h1
  simp only [cond_true]
  constructor
  ·intro h; exact .inl ⟨this,h⟩
  ·rintro (h | h)
   ·exact h.2
   ·omega
 | false =>
  have hn:¬ u < v:=fun h=>by rw [Qai.2 h] at h1; cases h1
  simp only [cond_false]
  cases h2:Nat.blt v u with
  | true =>
   have:=Qai.1 h2
   simp only [cond_true]
   constructor
   ·intro h; exact .inr ⟨this,h⟩
   ·rintro (h | h)
    ·omega
    ·exact h.2
  | false =>
   have hn2:¬ v < u:=fun h=>by rw [Qai.2 h] at h2; cases h2
   simp only [cond_false,Bool.false_eq_true,false_iff]
   rintro (h | h) <;> omega
theorem Qcf {c u v:Nat}:paB c 0 u v=true↔u < v∧eB c u v=true:=by
 have h0:∀i j,eB 0 i j=false:=fun i j=>by unfold eB; rw [Qzc]; exact Nat.zero_testBit _
 rw [Qmi]
 constructor
 ·rintro (h | h)
  ·exact ⟨h.1,h.2.1⟩
  ·rw [h0] at h; cases h.2.2
 ·intro h; exact .inl ⟨h.1,h.2,h0 _ _⟩
theorem Qes {c f v u:Nat} (hu:u < 5):(tM c f v).testBit u=paB c f u v:=by
 unfold tM; rw [Qv]; simp [hu]
theorem Qmr {c f u w:Nat} (hu:u < 5) (hw:w < 5):near (tM c f) u w=ajB c u w:=by
 unfold near
 rw [Qes hw,Qes hu,Bool.eq_iff_iff,Bool.or_eq_true,Qmi,Qmi,Qmp]
 constructor
 ·rintro ((h | h) | (h | h))
  ·exact .inr ⟨h.1,h.2.1⟩
  ·exact .inl ⟨h.1,h.2.1⟩
  ·exact .inl ⟨h.1,h.2.1⟩
  ·exact .inr ⟨h.1,h.2.1⟩
 ·rintro (⟨h1,h2⟩ | ⟨h1,h2⟩)
  ·cases hf:eB f u w with
   | true=>exact .inl (.inr ⟨h1,h2,rfl⟩)
   | false=>exact .inr (.inl ⟨h1,h2,rfl⟩)
  ·cases hf:eB f w u with
   | true=>exact .inr (.inr ⟨h1,h2,rfl⟩)
   | false=>exact .inl (.inl ⟨h1,h2,rfl⟩)
theorem Qr4 {c f a b d:Nat} (ha:a < 5) (hd:d < 5):Z2 (tM c f) a b d=clB c f a b d:=by
 unfold Z2 clB
 rw [Qes ha,Qes hd,Qmr ha hd]
theorem Q2d {c f:Nat} (h:wtB c f=true):Cls 5 (tM c 0) (tM c f):=by
 unfold wtB at h
 rw [Bool.and_eq_true] at h
 refine ⟨Qo2.1 (Nat.eq_of_beq_eq_true h.1),fun u w hu hw=>by rw [Qmr hu hw,Qmr hu hw],Qds.2 fun a b d h1 h2 h3=>?_⟩
 have ha:a < 5:=by omega
 have:=Qkl.1 (Qkl.1 (Qkl.1 h.2 b h3) a ha) d h2
 rw [Qai.2 h1] at this
 rw [Qr4 ha h2,Qr4 ha h2]
 simpa using this
section
variable {c:Nat} {O:Nat → Nat → Bool} (hU:Gd 5 (tM c 0)) (hA:Qbi 5 (tM c 0) O) (hC:Qak 5 (tM c 0) O)
include hU hA hC
theorem Q1h:Cls 5 (tM c 0) (tM c 0):=⟨hU,fun _ _ _ _=>rfl,rfl⟩
theorem Q0t {a b:Nat} (h:O a b=true):paB c 0 a b=true:=by
 have:=hA.snd _ (Q1h hU hA hC) a b h
 rwa [Qes (hA.inn a b h).1] at this
theorem Q46 {a b:Nat} (ha:a < 5) (hb:b < 5) (h:icB c a b=true):O a b=true:=by
 unfold icB at h
 rw [Bool.and_eq_true] at h
 obtain ⟨x,hx,h2⟩:=Qlw.1 h.2
 simp only [Bool.and_eq_true,Bool.not_eq_true'] at h2
 refine hA.col a b x (fun e=>?_) ha hb hx ?_
 ·subst e
  have:=h2.1.1
  rw [show Nat.beq a a=true from Nat.beq_refl a] at this; cases this
 ·rw [Qr4 ha hx]
  unfold clB
  rw [h.1,h2.1.2,h2.2]; rfl
theorem Qso {G:List Nat} (hG:∀x∈G,O (x / 5) (x % 5)=true) {a b:Nat} (ha:a < 5) (hb:b < 5) (h:knB c G a b=true):O a b=true:=by
 unfold knB at h
 rw [Bool.or_eq_true] at h
 rcases h with h | h
 ·exact Q46 hU hA hC ha hb h
 ·obtain ⟨x,hx,h2⟩:=List.any_eq_true.1 h
  have e:=Nat.eq_of_beq_eq_true h2
  have:=hG x hx
  rw [e,show (5*a+b) / 5=a by omega,show (5*a+b) % 5=b by omega] at this
  exact this
theorem Q6t {G:List Nat} (hG:∀x∈G,O (x / 5) (x % 5)=true) {a b:Nat} (ha:a < 5) (hb:b < 5) (he:paB c 0 a b=true) (h:stB c G a b=true):O a b=true:=by
 have hlt:=(Qcf.1 he).1
 have nn:∀u w,u < 5→w < 5→near (tM c 0) u w=ajB c u w:=fun u w hu hw=>Qmr hu hw
 have aj_ne:∀{u w},O u w=true→u < w:=fun h=>(Qcf.1 (Q0t hU hA hC h)).1
 apply Classical.byContradiction
 intro hO
 have hO:=Bool.eq_false_iff.2 hO
 have hO2:O b a=false:=Bool.eq_false_iff.2 fun h=>by have:=aj_ne h; omega
 have hab:ajB c a b=true:=Qmp.2 (.inl ⟨hlt,(Qcf.1 he).2⟩)
 have hl:lnB (near (tM c 0)) O a b=true:=Qcv.2 ⟨by rw [nn a b ha hb]; exact hab,hO,hO2⟩
 have hr:=hC a b ha hb hl
 unfold ruB at hr
 rw [Bool.or_eq_false_iff,Bool.or_eq_false_iff] at hr
 obtain ⟨⟨hr1,hr2⟩,hr3⟩:=hr
 unfold stB at h
 rw [Bool.or_eq_true,Bool.or_eq_true] at h
 rcases h with (h | h) | h
 ·obtain ⟨u,hu,h2⟩:=Qlw.1 h
  simp only [Bool.and_eq_true,Bool.not_eq_true'] at h2
  have hub:u≠b:=fun e=>by
   have h3:=h2.1.1
   rw [e,show Nat.beq b b=true from Nat.beq_refl b] at h3; cases h3
  have:onB 5 (near (tM c 0)) O a b=true:=Qh8.2 ⟨u,hu,hub,Qso hU hA hC hG hu ha h2.1.2,by rw [nn u b hu hb]; exact h2.2⟩
  rw [this] at hr1
  cases hr1
 ·obtain ⟨u,hu,h2⟩:=Qlw.1 h
  rw [Bool.and_eq_true] at h2
  rw [Qit.2 ⟨u,hu,Qso hU hA hC hG ha hu h2.1,Qso hU hA hC hG hu hb h2.2⟩] at hr2
  cases hr2
 ·obtain ⟨u,hu,h2⟩:=Qlw.1 h
  obtain ⟨w,hw,h2⟩:=Qlw.1 h2
  simp only [Bool.and_eq_true,Bool.not_eq_true'] at h2
  obtain ⟨⟨⟨⟨⟨⟨g1,g2⟩,g3⟩,g4⟩,g5⟩,g6⟩,g7⟩:=h2
  have g1:=Qai.1 g1
  have k4:=Qso hU hA hC hG hu hb g4
  have k5:=Qso hU hA hC hG hw hb g5
  have noA:∀x,x < 5→O x b=true→O a x=false:=fun x hx hxb=>Bool.eq_false_iff.2 fun e=>by
   rw [Qit.2 ⟨x,hx,e,hxb⟩] at hr2; cases hr2
  have a1:=noA u hu k4
  have a2:=noA w hw k5
  have mk:∀x,x < 5→ajB c a x=true→O a x=false→O x a=false→lnB (near (tM c 0)) O a x=true:=fun x hx h1 h2 h3=>Qcv.2 ⟨by rw [nn a x ha hx]; exact h1,h2,h3⟩
  have fire:∀x y,x < 5→y < 5→O x a=true→ajB c a y=true→O a y=false→O y a=false→x≠y→ajB c x y=false→False:=fun x y hx hy h1 h2 h3 h4 h5 h6=>by
   have hl2:=mk y hy h2 h3 h4
   have hr':=hC a y ha hy hl2
   unfold ruB at hr'
   rw [Qh8.2 ⟨x,hx,h5,h1,by rw [nn x y hx hy]; exact h6⟩] at hr'
   cases hr'
  have g6':ajB c w u=false:=by
   rw [Bool.eq_false_iff] at g6 ⊢
   intro e; exact g6 (Qmp.2 (by have:=Qmp.1 e; exact this.symm))
  cases hua:O u a with
  | true =>
   cases hwa:O w a with
   | true =>
    rw [Q0t hU hA hC hua,Q0t hU hA hC hwa] at g7; cases g7
   | false=>exact fire u w hu hw hua g3 a2 hwa (by omega) g6
  | false =>
   cases hwa:O w a with
   | true=>exact fire w u hw hu hwa g2 a1 hua (by omega) g6'
   | false =>
    rw [Qib.2 ⟨u,w,hu,g1,mk u hu g2 a1 hua,mk w hw g3 a2 hwa,k4,k5,by rw [nn u w hu hw]; exact g6⟩] at hr3
    cases hr3
theorem Q4q:∀(l G:List Nat),(∀x∈G,O (x / 5) (x % 5)=true)→drB c G l=true→(∀x∈l,O (x / 5) (x % 5)=true)
 | [],G,hG,_=>fun x hx=>by cases hx
 | x::l,G,hG,h=>by
  simp only [drB,Bool.and_eq_true] at h
  have hlt:=(Qcf.1 h.1.1).1
  have hx:O (x / 5) (x % 5)=true:=Q6t hU hA hC hG (by omega) (by omega) h.1.1 h.1.2
  have:=Q4q l (x::G) (fun y hy=>by
   rcases List.mem_cons.1 hy with rfl | hy
   ·exact hx
   ·exact hG y hy) h.2
  intro y hy
  rcases List.mem_cons.1 hy with rfl | hy
  ·exact hx
  ·exact this y hy
theorem Q3l (hc:c < 1024) {a b:Nat} (ha:a < 5) (hb:b < 5) (h:paB c 0 a b=true):O a b=true∨∃T,Cls 5 (tM c 0) T∧(T a).testBit b=true:=by
 obtain ⟨D,W,hch⟩:=Q4z hc
 unfold chB at hch
 rw [Bool.and_eq_true,Bool.and_eq_true] at hch
 obtain ⟨⟨h1,h2⟩,h3⟩:=hch
 have hD:=Q4q hU hA hC D [] (fun x hx=>by cases hx) h1
 have:=Qkl.1 (Qkl.1 h3 a ha) b hb
 rw [h] at this
 simp only [Bool.not_true,Bool.false_or,Bool.or_eq_true] at this
 rcases this with (e | e) | e
 ·exact .inl (Q46 hU hA hC ha hb e)
 ·obtain ⟨x,hx,h4⟩:=List.any_eq_true.1 e
  have e2:=Nat.eq_of_beq_eq_true h4
  have:=hD x hx
  rw [e2,show (5*a+b) / 5=a by omega,show (5*a+b) % 5=b by omega] at this
  exact .inl this
 ·obtain ⟨f,hf,h4⟩:=List.any_eq_true.1 e
  refine .inr ⟨tM c f,Q2d (List.all_eq_true.1 h2 f hf),?_⟩
  rw [Qes hb,Qmi]
  have:=Qcf.1 h
  exact .inr ⟨this.1,this.2,h4⟩
end
end Go.Ab
namespace Go.Ab
open Go
set_option maxRecDepth 100000
set_option maxHeartbeats 1000000
structure Plc (n:Nat) (q p:Nat → Nat):Prop where
 qn:∀i,i < n→q i < n
 pn:∀v,v < n→p v < n
 qp:∀v,v < n→q (p v)=v
 pq:∀i,i < n→p (q i)=i
theorem Q4s {n:Nat} {S:Nat → Nat} (hS:Gd n S):∃q p,Plc n q p∧∀i k,i < n→k < n→(S (q k)).testBit (q i)=true→i < k:=by
 obtain ⟨r,hr⟩:=Xc hS
 have hperm:=Jd (fun u v=>decide (r u≤r v)) (List.range n)
 have hsort:=Qda (le:=fun u v=>decide (r u≤r v)) (fun x y z h1 h2=>by simp only [decide_eq_true_eq] at *; omega) (fun x y=>by simp only [Bool.or_eq_true,decide_eq_true_eq]; omega) (List.range n)
 generalize isort (fun u v=>decide (r u≤r v)) (List.range n)=l at *
 have hlen:l.length=n:=by rw [hperm.length_eq,List.length_range]
 have hnod:l.Nodup:=hperm.nodup_iff.2 List.nodup_range
 have hq:∀i,(h:i < n)→(l[i]?).getD 0=l[i]'(by omega):=fun i h=>by rw [List.getElem?_eq_getElem (by omega)]; rfl
 have hqn:∀i,i < n→(l[i]?).getD 0 < n:=fun i h=>by
  rw [hq i h]
  exact List.mem_range.1 (hperm.mem_iff.1 (List.getElem_mem _))
 have hinj:∀i k,i < n→k < n→(l[i]?).getD 0=(l[k]?).getD 0→i=k:=fun i k hi hk e=>by
  rw [hq i hi,hq k hk] at e
  have:=List.pairwise_iff_getElem.1 hnod
  rcases Nat.lt_trichotomy i k with h | h | h
  ·exact absurd e (this i k (by omega) (by omega) h)
  ·exact h
  ·exact absurd e.symm (this k i (by omega) (by omega) h)
 have hsur:∀v,v < n→∃i,i < n∧(l[i]?).getD 0=v:=fun v hv=>by
  obtain ⟨i,hi,e⟩:=List.mem_iff_getElem.1 (hperm.mem_iff.2 (List.mem_range.2 hv))
  exact ⟨i,by omega,by rw [hq i (by omega)]; exact e⟩
 classical
 refine ⟨fun i=>(l[i]?).getD 0,fun v=>if h:∃i,i < n∧(l[i]?).getD 0=v then Classical.choose h else 0,⟨hqn,fun v hv=>?_,fun v hv=>?_,fun i hi=>?_⟩,fun i k hi hk hb=>?_⟩
 ·simp only [dif_pos (hsur v hv)]
  exact (Classical.choose_spec (hsur v hv)).1
 ·simp only [dif_pos (hsur v hv)]
  exact (Classical.choose_spec (hsur v hv)).2
 ·have hs:=hsur _ (hqn i hi)
  simp only [dif_pos hs]
  exact hinj _ _ (Classical.choose_spec hs).1 hi (Classical.choose_spec hs).2
 ·have h1:=hr _ (hqn k hk) _ hb
  apply Classical.byContradiction
  intro hno
  rcases Nat.lt_or_ge k i with h | h
  ·have:=List.pairwise_iff_getElem.1 hsort k i (by omega) (by omega) h
   rw [←hq k hk,←hq i hi,decide_eq_true_eq] at this
   dsimp only at h1
   omega
  ·have:i=k:=by omega
   subst this; exact absurd h1 (Nat.lt_irrefl _)
def dcE:List (Nat × Nat):=[(0,1),(0,2),(1,2),(0,3),(1,3),(2,3),(0,4),(1,4),(2,4),(3,4)]
theorem Q59 {i k:Nat} (h:i < k) (hk:k < 5):egI i k < 10∧(dcE[egI i k]?).getD (0,0)=(i,k):=by
 have hk':k=1∨k=2∨k=3∨k=4:=by omega
 have hi':i=0∨i=1∨i=2∨i=3:=by omega
 rcases hk' with rfl | rfl | rfl | rfl <;> rcases hi' with rfl | rfl | rfl | rfl <;> first | omega | decide
section
variable {n:Nat} {S:Nat → Nat} {q p:Nat → Nat} (hn:n≤5) (hS:Gd n S) (hP:Plc n q p) (hU:∀i k,i < n→k < n→(S (q k)).testBit (q i)=true→i < k)
def bB (n:Nat) (S q:Nat → Nat) (i k:Nat):Bool:=decide (i < n) && decide (k < n) && (S (q k)).testBit (q i)
def cdU (n:Nat) (S q:Nat → Nat):Nat := msk 10 fun e=>bB n S q ((dcE[e]?).getD (0,0)).1 ((dcE[e]?).getD (0,0)).2
def bkT (n:Nat) (p:Nat → Nat) (T:Nat → Nat):Nat → Nat := fun v=>msk n fun x=>(T (p v)).testBit (p x)
theorem Qpc {i k:Nat}:bB n S q i k=true↔i < n∧k < n∧(S (q k)).testBit (q i)=true:=by
 unfold bB
 simp only [Bool.and_eq_true,decide_eq_true_eq,and_assoc]
theorem Qbj {T:Nat → Nat} {v x:Nat} (hx:x < n):(bkT n p T v).testBit x=(T (p v)).testBit (p x):=by
 unfold bkT; rw [Qv]; simp [hx]
include hn hS hP hU
theorem Q1w {i k:Nat} (hi:i < 5) (hk:k < 5):paB (cdU n S q) 0 i k=bB n S q i k:=by
 rw [Bool.eq_iff_iff,Qcf]
 have key:i < k→eB (cdU n S q) i k=bB n S q i k:=fun h=>by
  obtain ⟨h1,h2⟩:=Q59 h hk
  unfold eB
  rw [Qzc]
  unfold cdU
  rw [Qv,h2]
  simp [h1]
 constructor
 ·rintro ⟨h1,h2⟩; rw [←key h1]; exact h2
 ·intro h
  obtain ⟨h1,h2,h3⟩:=Qpc.1 h
  have:=hU i k h1 h2 h3
  exact ⟨this,by rw [key this]; exact h⟩
theorem Qpf {i k:Nat} (hi:i < 5) (hk:k < 5):(tM (cdU n S q) 0 k).testBit i=bB n S q i k:=by rw [Qes hi,Q1w hn hS hP hU hi hk]
theorem Qk0 {u w:Nat} (hu:u < 5) (hw:w < 5):near (tM (cdU n S q) 0) u w=(decide (u < n) && decide (w < n) && near S (q u) (q w)):=by
 unfold near
 rw [Qpf hn hS hP hU hw hu,Qpf hn hS hP hU hu hw]
 unfold bB
 cases decide (u < n) <;> cases decide (w < n) <;> simp
theorem Q5g:Gd 5 (tM (cdU n S q) 0):=Qdg id fun v hv j hj=>by
 have hj5:j < 5:=by
  unfold tM at hj; rw [Qv] at hj
  simp only [Bool.and_eq_true,decide_eq_true_eq] at hj; exact hj.1
 rw [Qes hj5] at hj
 exact ⟨hj5,(Qcf.1 hj).1⟩
theorem Q55 {a b d:Nat} (ha:a < n) (hb:b < n) (hd:d < n):Z2 (tM (cdU n S q) 0) (p a) (p b) (p d)=Z2 S a b d:=by
 have pa:=hP.pn a ha
 have pb:=hP.pn b hb
 have pd:=hP.pn d hd
 unfold Z2
 rw [Qpf hn hS hP hU (by omega) (by omega),Qpf hn hS hP hU (by omega) (by omega),Qk0 hn hS hP hU (by omega) (by omega)]
 unfold bB
 rw [hP.qp a ha,hP.qp b hb,hP.qp d hd]
 simp [pa,pb,pd]
theorem Qxn {T:Nat → Nat} (hT:Cls 5 (tM (cdU n S q) 0) T):Cls n S (bkT n p T):=by
 obtain ⟨t,ht⟩:=Xc hT.gd
 have hnear:∀u w,u < n→w < n→near (bkT n p T) u w=near S u w:=fun u w hu hw=>by
  have e:near (bkT n p T) u w=near T (p u) (p w):=by unfold near; rw [Qbj hw,Qbj hu]
  have pu:=hP.pn u hu
  have pw:=hP.pn w hw
  rw [e,hT.nr _ _ (by omega) (by omega),Qk0 hn hS hP hU (by omega) (by omega),hP.qp u hu,hP.qp w hw]
  simp [pu,pw]
 refine ⟨Qdg (fun v=>t (p v)) fun v hv j hj=>?_,hnear,Qds.2 fun a b d h1 h2 h3=>?_⟩
 ·have hjn:j < n:=by
   unfold bkT at hj; rw [Qv] at hj
   simp only [Bool.and_eq_true,decide_eq_true_eq] at hj; exact hj.1
  rw [Qbj hjn] at hj
  have:=hP.pn v hv
  exact ⟨hjn,ht (p v) (by omega) (p j) hj⟩
 ·have ha:a < n:=by omega
  have pa:=hP.pn a ha
  have pb:=hP.pn b h3
  have pd:=hP.pn d h2
  have hne:p a≠p d:=fun e=>by
   have:=congrArg q e
   rw [hP.qp a ha,hP.qp d h2] at this; omega
  rw [←Q55 hn hS hP hU ha h3 h2,←Qmx hT.cl hT.gd (Q5g hn hS hP hU) hne (by omega) (by omega) (by omega)]
  unfold Z2
  rw [Qbj ha,Qbj h2]
  have e:near (bkT n p T) a d=near T (p a) (p d):=by unfold near; rw [Qbj h2,Qbj ha]
  rw [e]
variable {O:Nat → Nat → Bool} (hA:Qbi n S O) (hC:Qak n S O)
def oU (n:Nat) (q:Nat → Nat) (O:Nat → Nat → Bool) (i k:Nat):Bool:=decide (i < n) && decide (k < n) && O (q i) (q k)
omit hn hS hP hU in
theorem Qde {i k:Nat}:oU n q O i k=true↔i < n∧k < n∧O (q i) (q k)=true:=by
 unfold oU
 simp only [Bool.and_eq_true,decide_eq_true_eq,and_assoc]
theorem Q5w (hA:Qbi n S O):Qbi 5 (tM (cdU n S q) 0) (oU n q O):=by
 refine ⟨fun a b h=>?_,fun T hT a b h=>?_,fun a b d hne ha hb hd h=>?_⟩
 ·have:=Qde.1 h; omega
 ·obtain ⟨h1,h2,h3⟩:=Qde.1 h
  have:=hA.snd _ (Qxn hn hS hP hU hT) _ _ h3
  rw [Qbj (hP.qn a h1),hP.pq a h1,hP.pq b h2] at this
  exact this
 ·have hb2:=h
  unfold Z2 at hb2
  simp only [Bool.and_eq_true,Bool.not_eq_true'] at hb2
  obtain ⟨⟨g1,g2⟩,g3⟩:=hb2
  rw [Qpf hn hS hP hU ha hb] at g1
  rw [Qpf hn hS hP hU hd hb] at g2
  obtain ⟨a1,b1,c1⟩:=Qpc.1 g1
  obtain ⟨d1,_,c2⟩:=Qpc.1 g2
  rw [Qk0 hn hS hP hU ha hd] at g3
  refine Qde.2 ⟨a1,b1,hA.col (q a) (q b) (q d) (fun e=>hne ?_) (hP.qn a a1) (hP.qn b b1) (hP.qn d d1) ?_⟩
  ·have:=congrArg p e
   rwa [hP.pq a a1,hP.pq d d1] at this
  ·unfold Z2
   rw [c1,c2]
   simp only [a1,d1,decide_true,Bool.true_and] at g3
   rw [g3]; rfl
theorem Qzm (hC:Qak n S O):Qak 5 (tM (cdU n S q) 0) (oU n q O):=by
 have ln:∀a b,a < 5→b < 5→lnB (near (tM (cdU n S q) 0)) (oU n q O) a b=true→a < n∧b < n∧lnB (near S) O (q a) (q b)=true:=fun a b ha hb h=>by
  obtain ⟨h1,h2,h3⟩:=Qcv.1 h
  rw [Qk0 hn hS hP hU ha hb] at h1
  simp only [Bool.and_eq_true,decide_eq_true_eq] at h1
  obtain ⟨⟨a1,b1⟩,c1⟩:=h1
  unfold oU at h2 h3
  simp only [a1,b1,decide_true,Bool.true_and] at h2 h3
  exact ⟨a1,b1,Qcv.2 ⟨c1,h2,h3⟩⟩
 intro a b ha hb h
 obtain ⟨a1,b1,hl⟩:=ln a b ha hb h
 have hr:=hC _ _ (hP.qn a a1) (hP.qn b b1) hl
 rw [Bool.eq_false_iff] at hr ⊢
 intro hu
 refine hr ?_
 unfold ruB at hu ⊢
 rw [Bool.or_eq_true,Bool.or_eq_true] at hu ⊢
 have nf:∀c d,c < n→d < n→near (tM (cdU n S q) 0) c d=false→near S (q c) (q d)=false:=fun c d hc hd e=>by
  rw [Qk0 hn hS hP hU (by omega) (by omega)] at e
  simpa [hc,hd] using e
 rcases hu with (hu | hu) | hu
 ·obtain ⟨c,h1,h2,h3,h4⟩:=Qh8.1 hu
  obtain ⟨c1,_,c2⟩:=Qde.1 h3
  refine .inl (.inl (Qh8.2 ⟨q c,hP.qn c c1,fun e=>h2 ?_,c2,nf c b c1 b1 h4⟩))
  have:=congrArg p e
  rwa [hP.pq c c1,hP.pq b b1] at this
 ·obtain ⟨c,h1,h2,h3⟩:=Qit.1 hu
  obtain ⟨_,c1,c2⟩:=Qde.1 h2
  obtain ⟨_,_,c3⟩:=Qde.1 h3
  exact .inl (.inr (Qit.2 ⟨q c,hP.qn c c1,c2,c3⟩))
 ·obtain ⟨c,d,h1,h2,h3,h4,h5,h6,h7⟩:=Qib.1 hu
  have hd5:d < 5:=by omega
  obtain ⟨_,c1,l1⟩:=ln a c ha h1 h3
  obtain ⟨_,d1,l2⟩:=ln a d ha hd5 h4
  obtain ⟨_,_,o1⟩:=Qde.1 h5
  obtain ⟨_,_,o2⟩:=Qde.1 h6
  have hnr:=nf c d c1 d1 h7
  have hne:q c≠q d:=fun e=>by
   have:=congrArg p e
   rw [hP.pq c c1,hP.pq d d1] at this; omega
  rcases Nat.lt_or_gt_of_ne hne with h | h
  ·exact .inr (Qib.2 ⟨q d,q c,hP.qn d d1,h,l2,l1,o2,o1,by rw [near_symm]; exact hnr⟩)
  ·exact .inr (Qib.2 ⟨q c,q d,hP.qn c c1,h,l1,l2,o1,o2,hnr⟩)
end
theorem Q62 {n:Nat} {S:Nat → Nat} (hn:n≤5) (hS:Gd n S) {O:Nat → Nat → Bool} (hA:Qbi n S O) (hC:Qak n S O) {a b:Nat} (hb:b < n) (h:(S b).testBit a=true):O a b=true∨∃T,Cls n S T∧(T a).testBit b=true:=by
 have ha:=hS.inn b hb a h
 obtain ⟨q,p,hP,hU⟩:=Q4s hS
 have pa:=hP.pn a ha
 have pb:=hP.pn b hb
 have hc:cdU n S q < 1024:=msk_lt 10 _
 have he:paB (cdU n S q) 0 (p a) (p b)=true:=by
  rw [Q1w hn hS hP hU (by omega) (by omega),Qpc,hP.qp a ha,hP.qp b hb]
  exact ⟨pa,pb,h⟩
 rcases Q3l (Q5g hn hS hP hU) (Q5w hn hS hP hU hA) (Qzm hn hS hP hU hC) hc (a:=p a) (b:=p b) (by omega) (by omega) he with h1 | ⟨T,h1,h2⟩
 ·obtain ⟨_,_,h3⟩:=Qde.1 h1
  rw [hP.qp a ha,hP.qp b hb] at h3
  exact .inl h3
 ·refine .inr ⟨_,Qxn hn hS hP hU h1,?_⟩
  rw [Qbj hb]; exact h2
end Go.Ab
namespace Go.Ab
open Go
set_option maxRecDepth 100000
set_option maxHeartbeats 1000000
section
variable {n:Nat} {S:Nat → Nat}
theorem Qvk (hS:Gd n S):Cls n S S:=⟨hS,fun _ _ _ _=>rfl,rfl⟩
theorem Qhn (hS:Gd n S) {x:List Int}:x∈Vc n S↔∃T,x=Qc n T∧Cls n S T:=by
 rw [Q02 hS]
 constructor
 ·rintro ⟨T,h1,h2,h3,h4⟩; exact ⟨T,h1,h2,h3,h4⟩
 ·rintro ⟨T,h1,h2⟩; exact ⟨T,h1,h2.gd,h2.nr,h2.cl⟩
def Y9 (n:Nat) (S:Nat → Nat) (a b:Nat):Bool:=(Vc n S).all fun x=>((x[b]?).getD 0).toNat.testBit a
theorem Quh {T:Nat → Nat} {b:Nat} (hb:b < n):((Qc n T)[b]?).getD 0=(T b:Int):=by
 have h:=Qy (n:=n) (w:=T) hb
 rw [Q6 (by rw [Zd]; exact hb)] at h
 rw [List.getElem?_eq_getElem (by rw [Zd]; exact hb),Option.getD_some]
 exact Option.some.inj h
theorem Qnk (hS:Gd n S) {a b:Nat} (hb:b < n):Y9 n S a b=true↔∀T,Cls n S T→(T b).testBit a=true:=by
 unfold Y9
 rw [List.all_eq_true]
 constructor
 ·intro h T hT
  have:=h _ ((Qhn hS).2 ⟨T,rfl,hT⟩)
  rw [Quh hb] at this
  simpa using this
 ·intro h x hx
  obtain ⟨T,rfl,hT⟩:=(Qhn hS).1 hx
  rw [Quh hb]
  simpa using h T hT
theorem Q3k (hn:n≤5) (hS:Gd n S) {O:Nat → Nat → Bool} (hA:Qbi n S O) (hC:Qak n S O) {a b:Nat} (ha:a < n) (hb:b < n):O a b=(near S a b && Y9 n S a b):=by
 rw [Bool.eq_iff_iff,Bool.and_eq_true,Qnk hS hb]
 constructor
 ·intro h
  have:=hA.snd S (Qvk hS) a b h
  exact ⟨by unfold near; rw [this]; simp,fun T hT=>hA.snd T hT a b h⟩
 ·rintro ⟨_,h⟩
  rcases Q62 hn hS hA hC hb (h S (Qvk hS)) with h1 | ⟨T,h1,h2⟩
  ·exact h1
  ·obtain ⟨r,hr⟩:=Xc h1.gd
   have g1:=hr b hb a (h T h1)
   have g2:=hr a ha b h2
   omega
theorem Qhw (hn1:1≤n) (hn:n≤5) (hS:Gd n S):Qbn (Qc n S)=some ⟨(n:Int),eL2 n fun a b=>near S a b && Y9 n S a b,eL2 n fun a b=>near S a b && !Y9 n S a b && !Y9 n S b a && decide (a < b)⟩:=by
 have h64:=Qho (show n≤8 by omega) hS
 have hlen:(Qc n S).length=n:=Zd
 have hml:=Q1j (n:=n) (S:=S) hn
 have hmem:∀k,(hk:k < (Vc n S).length)→∃T,(Vc n S)[k]=Qc n T∧Cls n S T:=fun k hk=>(Qhn hS).1 (List.getElem_mem hk)
 have inner:∀a b,a < n→b < n→∀(s6 s3:Int × List (Int × Int) × List (Int × Int)),s6.1=(b:Int)→s3.1=(a:Int)→Qb fuel (Yx (Vc n S) s6 s3) (true,true,0)=some (Y9 n S a b,Y9 n S b a):=fun a b ha hb s6 s3 h6 h3=>by
  have h:=Xr (n:=(Vc n S).length) (k0:=0) (by omega) (by omega) (fun i (x:Bool × Bool)=>(x.1,x.2,i)) (body:=Yx (Vc n S) s6 s3)
   (fun k=>(((Vc n S).take k).all fun x=>((x[b]?).getD 0).toNat.testBit a,((Vc n S).take k).all fun x=>((x[a]?).getD 0).toNat.testBit b)) (Y9 n S a b,Y9 n S b a)
   (fun k _ hk=>by
    obtain ⟨T,hT,hT2⟩:=hmem k hk
    have t64:=Qho (show n≤8 by omega) hT2.gd
    have htk:(Vc n S).take (k+1)=(Vc n S).take k++[(Vc n S)[k]]:=List.take_succ_eq_append_getElem hk
    have hIn:∀u v,u < n→v < n→(lkI (Vc n S) (k:Int)).bind (fun x=>(lkI x (v:Int)).bind fun y=>Xl y (u:Int))=some ((T v).testBit u):=fun u v hu hv=>by
     rw [Q6 hk,Option.bind_some,hT,Qy hv,Option.bind_some,Qdq (t64 v hv) (by omega)]
    have e1:∀u v,v < n→((Vc n S).take (k+1)).all (fun x=>((x[v]?).getD 0).toNat.testBit u)=(((Vc n S).take k).all (fun x=>((x[v]?).getD 0).toNat.testBit u) && (T v).testBit u):=fun u v hv=>by
     rw [htk,List.all_append]
     simp only [List.all_cons,List.all_nil,Bool.and_true]
     rw [hT,Quh hv]
     simp
    unfold Yx
    dsimp only
    rw [if_pos (dlt hk),h6,h3,e1 a b hb,e1 b a ha]
    generalize ((Vc n S).take k).all (fun x=>((x[b]?).getD 0).toNat.testBit a)=A
    generalize ((Vc n S).take k).all (fun x=>((x[a]?).getD 0).toNat.testBit b)=B
    rw [Q6 hk,hT]
    simp only [Option.bind_some,Qy hb,Qy ha,Qdq (t64 b hb) (show a < 64 by omega),Qdq (t64 a ha) (show b < 64 by omega)]
    cases A <;> cases B <;> simp)
   (by
    unfold Yx
    dsimp only
    rw [if_neg (nlt _),List.take_length]
    rfl)
  rw [show ((0:Nat):Int)=0 from rfl] at h
  simpa using h
 have hif:∀(c:Bool) (x:Int × Int),(if c=true then [x] else []).length≤6:=fun c x=>by cases c <;> simp
 have mid:∀a,a < n→∀(o o2:List (Int × Int)) (s:Int × List (Int × Int) × List (Int × Int)),s.1=(a:Int)→o.length≤100→o2.length≤100→Qb fuel (Y0 (Qc n S) s (Vc n S)) (0,o,o2)=some (o++apL (fun b=>if (near S a b && Y9 n S a b)=true then [((a:Int),(b:Int))] else []) 0 n,o2++apL (fun b=>if (near S a b && !Y9 n S a b && !Y9 n S b a && decide (a < b))=true then [((a:Int),(b:Int))] else []) 0 n):=fun a ha o o2 s hs ho ho2 =>
  Qqf (m:=0) (show n≤6 by omega) (fun i x y=>(i,x,y)) (body:=Y0 (Qc n S) s (Vc n S)) _ _ (fun x y=>(x,y)) (fun k=>hif _ _) (fun k=>hif _ _) ho ho2
   (fun b o o2 hb ho ho2=>by
    unfold Y0
    dsimp only
    rw [hlen,if_pos (dlt hb),hs,Qnr (by omega) h64 ha hb,Option.bind_some]
    have l1:(o++([((a:Int),(b:Int))]:List (Int × Int))).length*16≤140737488355328:=by rw [List.length_append,List.length_singleton]; omega
    have l2:(o2++([((a:Int),(b:Int))]:List (Int × Int))).length*16≤140737488355328:=by rw [List.length_append,List.length_singleton]; omega
    have hlt:(decide ((a:Int) < (b:Int)))=decide (a < b):=by rw [Bool.eq_iff_iff]; simp
    cases hnr:near S a b with
    | false=>simp
    | true =>
     rw [if_neg (by decide),inner a b ha hb _ _ rfl hs,Option.bind_some]
     dsimp only
     cases h1:Y9 n S a b with
     | true=>rw [if_pos rfl,if_pos l1]; simp
     | false =>
      rw [if_neg (by decide),hlt]
      cases h2:Y9 n S b a with
      | true=>simp
      | false =>
       rw [if_pos (by decide)]
       cases hd:decide (a < b) with
       | true=>rw [if_pos rfl,if_pos l2]; simp
       | false=>simp)
   (fun o o2=>by unfold Y0; dsimp only; rw [hlen,if_neg (nlt n)])
 have hlen2:∀(p:Nat → Nat → Bool) a,(apL (fun b=>if p a b=true then [((a:Int),(b:Int))] else []) 0 n).length≤6:=fun p a=>by
  have:=Ze (L:=fun b=>if p a b=true then [((a:Int),(b:Int))] else []) (k0:=0) (m:=1) (fun _=>Vq) n
  omega
 have h:=Xr (n:=n) (k0:=0) (by omega) (by omega) (fun i (x:List (Int × Int) × List (Int × Int))=>(i,x.1,x.2)) (body:=X5 (Qc n S) (Vc n S))
  (fun k=>(apL (fun a=>apL (fun b=>if (near S a b && Y9 n S a b)=true then [((a:Int),(b:Int))] else []) 0 n) 0 k,apL (fun a=>apL (fun b=>if (near S a b && !Y9 n S a b && !Y9 n S b a && decide (a < b))=true then [((a:Int),(b:Int))] else []) 0 n) 0 k))
  (eL2 n fun a b=>near S a b && Y9 n S a b,eL2 n fun a b=>near S a b && !Y9 n S a b && !Y9 n S b a && decide (a < b))
  (fun k _ hk=>by
   have l1:=Ze (k0:=0) (hlen2 fun a b=>near S a b && Y9 n S a b) k
   have l2:=Ze (k0:=0) (hlen2 fun a b=>near S a b && !Y9 n S a b && !Y9 n S b a && decide (a < b)) k
   unfold X5
   dsimp only
   rw [hlen,if_pos (dlt hk),mid k hk _ _ _ rfl (by omega) (by omega),Option.bind_some]
   simp only [apL,Nat.zero_add])
  (by unfold X5; dsimp only; rw [hlen,if_neg (nlt n)]; rfl)
 rw [show ((0:Nat):Int)=0 from rfl] at h
 unfold Qbn
 rw [Qo7 hn1 hn hS,Option.bind_some]
 show (Qb fuel (X5 (Qc n S) (Vc n S)) (0,[],[])).bind _=_
 have h0:(Qb fuel (X5 (Qc n S) (Vc n S)) (0,[],[]))=_:=h
 rw [h0,Option.bind_some,hlen]
theorem Qg0 {p p':Nat → Nat → Bool} (h:∀a b,a < n→b < n→p a b=p' a b):eL2 n p=eL2 n p':=by
 unfold eL2
 exact Q1 n fun a _ ha=>Q1 n fun b _ hb=>by rw [h a b (by omega) (by omega)]
theorem Qvc {p:Nat → Nat → Bool} (hn:n≤6):(eL2 n p).length≤36:=by
 have hlen2:∀a,(apL (fun b=>if p a b=true then [((a:Int),(b:Int))] else []) 0 n).length≤6:=fun a=>by
  have:=Ze (L:=fun b=>if p a b=true then [((a:Int),(b:Int))] else []) (k0:=0) (m:=1) (fun _=>Vq) n
  omega
 have:=Ze (k0:=0) hlen2 n
 unfold eL2; omega
theorem Qtx (hn1:1≤n) (hn:n≤5) (hS:Gd n S):Zl (Qc n S)=Qbn (Qc n S):=by
 obtain ⟨O,h1,hA,hC⟩:=Qfa (n:=n) (S:=S) (by omega) hS
 rw [h1,Qhw hn1 hn hS]
 have e:=fun a b ha hb=>Q3k hn hS hA hC (a:=a) (b:=b) ha hb
 congr 2
 ·exact Qg0 e
 ·refine Qg0 fun a b ha hb=>?_
  unfold lnB
  rw [e a b ha hb,e b a hb ha,near_symm (u:=b)]
  cases near S a b <;> cases Y9 n S a b <;> cases Y9 n S b a <;> cases decide (a < b) <;> rfl
end
end Go.Ab
namespace Go.Ab
open Go
set_option maxRecDepth 100000
set_option maxHeartbeats 1000000
theorem Qur {a b:Tapi_Essential} (h1:a.Arrows.length < 1000000) (h2:a.Lines.length < 1000000):Xo a b=some (decide (a=b)):=by
 unfold Xo
 obtain ⟨n,x,y⟩:=a; obtain ⟨m,z,w⟩:=b
 dsimp only at *
 by_cases e:n=m
 ·rw [if_pos (by simp [e]),Qke h1,Option.bind_some]
  by_cases e2:x=z
  ·rw [if_pos (by simp [e2]),Qke h2,Option.bind_some]; simp [e,e2]
  ·rw [if_neg (by simp [e2])]; simp [e2]
 ·rw [if_neg (by simp [e])]; simp [e]
theorem Qrf {n:Nat} {S:Nat → Nat} {c:Int} (hc:Qt (Qc n S)=some c):Ja (Qc n S)=if c=0 then (Zl (Qc n S)).bind fun x=>some (x,0) else some (⟨0,[],[]⟩,c):=by
 unfold Ja
 rw [hc,Option.bind_some]
 by_cases e:c=0
 ·rw [if_neg (by simp [e]),if_pos e]
 ·rw [if_pos (by simp [e]),if_neg e]
end Go.Ab
