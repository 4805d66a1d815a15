/- Functions. No conditions. -/
import Derived.Test.YtgogkahhifkocaaDoorW15
import Derived.Test.YtgogkahhifkocaaDoorEng7
import Derived.Test.YtgogkahhifkocaaDoorW11
import Derived.KernelRfl
set_option maxRecDepth 100000
set_option maxHeartbeats 1000000
set_option linter.all false
namespace Go.Ab
open Go
theorem BD.mono {m p:Nat} {a:Int} (h:BD m a) (hp:m<=p):BD p a:=by
 unfold BD KK at *; omega
def at' (v x:Nat) (f:(Nat -> Nat)->Int):(Nat -> Nat)->Int:=fun w=>if w v=x then f w else 0
section
variable {D:NF} (V:VN D) {s:SF} {E:Nat -> Int} {v:Nat}
end
end Go.Ab
namespace Go.Ab
open Go
section
variable {D:NF} {E:Nat -> Int}
def okE (E:Nat -> Int) (j x:Nat):Prop:=E j=-1\/E j=(x:Int)
instance instokE (E:Nat -> Int) (j x:Nat):Decidable (okE E j x):=by unfold okE; infer_instance
end
end Go.Ab
namespace Go.Ab
open Go
theorem Qc4 {cs:List AV} (h:WT (.int .u8) cs):∃a:Int,cs=[(AV.int .u8) a]/\(Lit.int .u8 a).wf=true:=by
 obtain ⟨n,rfl,w⟩:=h
 exact ⟨n,rfl,w⟩
theorem el5 {x:AV} (h:WT (.int .u8) x.flat /\ (if false then x=.agg x.flat else x.cell=true)):∃a:Int,x=(AV.int .u8) a/\(Lit.int .u8 a).wf=true:=by
 obtain ⟨a,h1,h2⟩:=Qc4 h.1
 rw [Qzh h.2] at h1
 exact ⟨a,(List.cons.inj h1).1,h2⟩
theorem Q21 {cs:List AV} (h:WT (.slice true false 1 (.int .u8)) cs):∃a:(List Int),cs=[(eL true (AV.int .u8)) a]/\(a.length<=maxLen/\∀y0∈a,(Lit.int .u8 y0).wf=true):=by
 obtain ⟨xs,rfl,hl,hx⟩:=h
 obtain ⟨l,rfl,hr⟩:=Quu (enc:=(AV.int .u8)) (R:=fun a=>(Lit.int .u8 a).wf=true) (fun x hm=>el5 (hx x hm))
 exact ⟨l,rfl,by simpa using hl,hr⟩
def Yc (x:Qu):Prop:=((Lit.int .u8 x.Card).wf=true)/\((Lit.int .u8 x.Parents).wf=true)/\((x.W.length<=maxLen/\∀y0∈x.W,(Lit.int .u8 y0).wf=true))
theorem Qh3 {cs:List AV} (h:WT (.cat (.int .u8) (.cat (.int .u8) (.cat (.slice true false 1 (.int .u8)) .unit))) cs):∃x:Qu,AV.agg cs=Aj x/\Yc x:=by
 obtain ⟨_,_,rfl,a0,r0⟩:=h
 obtain ⟨v0,e0,w0⟩:=Qc4 a0
 cases e0
 obtain ⟨_,_,rfl,a1,r1⟩:=r0
 obtain ⟨v1,e1,w1⟩:=Qc4 a1
 cases e1
 obtain ⟨_,_,rfl,a2,r2⟩:=r1
 obtain ⟨v2,e2,w2⟩:=Q21 a2
 cases e2
 cases r2
 exact ⟨⟨v0,v1,v2⟩,rfl,⟨w0,w1,w2⟩⟩
theorem Q7h {x:AV} (h:WT (.cat (.int .u8) (.cat (.int .u8) (.cat (.slice true false 1 (.int .u8)) .unit))) x.flat /\ (if true then x=.agg x.flat else x.cell=true)):∃a:Qu,x=Aj a/\Yc a:=by
 obtain ⟨a,h1,h2⟩:=Qh3 h.1
 have h3:x=.agg x.flat := h.2
 exact ⟨a,h3.trans h1,h2⟩
theorem Q7k {cs:List AV} (h:WT (.slice false true 3 (.cat (.int .u8) (.cat (.int .u8) (.cat (.slice true false 1 (.int .u8)) .unit)))) cs):∃a:(List Qu),cs=[(eL false Aj) a]/\(a.length<=maxLen/\∀y0∈a,Yc y0):=by
 obtain ⟨xs,rfl,hl,hx⟩:=h
 obtain ⟨l,rfl,hr⟩:=Quu (enc:=Aj) (R:=fun a=>Yc a) (fun x hm=>Q7h (hx x hm))
 exact ⟨l,rfl,by simpa using hl,hr⟩
def Vo (x:Qd):Prop:=((Lit.int .u8 x.Grain).wf=true)/\((x.Nodes.length<=maxLen/\∀y0∈x.Nodes,Yc y0))/\((x.Order.length<=maxLen/\∀y0∈x.Order,(Lit.int .u8 y0).wf=true))
theorem rdTharuspexref05_Draft {cs:List AV} (h:WT (.cat (.int .u8) (.cat (.slice false true 3 (.cat (.int .u8) (.cat (.int .u8) (.cat (.slice true false 1 (.int .u8)) .unit)))) (.cat (.slice true false 1 (.int .u8)) .unit))) cs):∃x:Qd,AV.agg cs=eTharuspexref05_Draft x/\Vo x:=by
 obtain ⟨_,_,rfl,a0,r0⟩:=h
 obtain ⟨v0,e0,w0⟩:=Qc4 a0
 cases e0
 obtain ⟨_,_,rfl,a1,r1⟩:=r0
 obtain ⟨v1,e1,w1⟩:=Q7k a1
 cases e1
 obtain ⟨_,_,rfl,a2,r2⟩:=r1
 obtain ⟨v2,e2,w2⟩:=Q21 a2
 cases e2
 cases r2
 exact ⟨⟨v0,v1,v2⟩,rfl,⟨w0,w1,w2⟩⟩
theorem one3 {cs:List AV} (h:WT (.int .i64) cs):∃a:Int,cs=[eI a]/\(Lit.int .i64 a).wf=true:=by
 obtain ⟨n,rfl,w⟩:=h
 exact ⟨n,rfl,w⟩
def K2 (x:Q9):Prop:=((Lit.int .u8 x.What).wf=true)/\((Lit.int .u8 x.At).wf=true)/\((Lit.int .u8 x.Row).wf=true)/\((Lit.int .i64 x.N).wf=true)
theorem rdTharuspexref05_Bend {cs:List AV} (h:WT (.cat (.int .u8) (.cat (.int .u8) (.cat (.int .u8) (.cat (.int .i64) .unit)))) cs):∃x:Q9,AV.agg cs=eTharuspexref05_Bend x/\K2 x:=by
 obtain ⟨_,_,rfl,a0,r0⟩:=h
 obtain ⟨v0,e0,w0⟩:=Qc4 a0
 cases e0
 obtain ⟨_,_,rfl,a1,r1⟩:=r0
 obtain ⟨v1,e1,w1⟩:=Qc4 a1
 cases e1
 obtain ⟨_,_,rfl,a2,r2⟩:=r1
 obtain ⟨v2,e2,w2⟩:=Qc4 a2
 cases e2
 obtain ⟨_,_,rfl,a3,r3⟩:=r2
 obtain ⟨v3,e3,w3⟩:=one3 a3
 cases e3
 cases r3
 exact ⟨⟨v0,v1,v2,v3⟩,rfl,⟨w0,w1,w2,w3⟩⟩
theorem rdA26 {cs:List AV} (h:WT (.cat (.int .u8) (.cat (.int .u8) (.cat (.int .u8) (.cat (.int .u8) (.cat (.int .u8) (.cat (.int .u8) (.cat (.int .u8) (.cat (.int .u8) .unit)))))))) cs):∃x:(Int × Int × Int × Int × Int × Int × Int × Int),AV.agg cs=(fun x:(Int × Int × Int × Int × Int × Int × Int × Int)=>AV.agg [.int .u8 x.1,.int .u8 x.2.1,.int .u8 x.2.2.1,.int .u8 x.2.2.2.1,.int .u8 x.2.2.2.2.1,.int .u8 x.2.2.2.2.2.1,.int .u8 x.2.2.2.2.2.2.1,.int .u8 x.2.2.2.2.2.2.2]) x/\((Lit.int .u8 x.1).wf=true/\(Lit.int .u8 x.2.1).wf=true/\(Lit.int .u8 x.2.2.1).wf=true/\(Lit.int .u8 x.2.2.2.1).wf=true/\(Lit.int .u8 x.2.2.2.2.1).wf=true/\(Lit.int .u8 x.2.2.2.2.2.1).wf=true/\(Lit.int .u8 x.2.2.2.2.2.2.1).wf=true/\(Lit.int .u8 x.2.2.2.2.2.2.2).wf=true):=by
 obtain ⟨_,_,rfl,a0,r0⟩:=h
 obtain ⟨v0,e0,w0⟩:=Qc4 a0
 cases e0
 obtain ⟨_,_,rfl,a1,r1⟩:=r0
 obtain ⟨v1,e1,w1⟩:=Qc4 a1
 cases e1
 obtain ⟨_,_,rfl,a2,r2⟩:=r1
 obtain ⟨v2,e2,w2⟩:=Qc4 a2
 cases e2
 obtain ⟨_,_,rfl,a3,r3⟩:=r2
 obtain ⟨v3,e3,w3⟩:=Qc4 a3
 cases e3
 obtain ⟨_,_,rfl,a4,r4⟩:=r3
 obtain ⟨v4,e4,w4⟩:=Qc4 a4
 cases e4
 obtain ⟨_,_,rfl,a5,r5⟩:=r4
 obtain ⟨v5,e5,w5⟩:=Qc4 a5
 cases e5
 obtain ⟨_,_,rfl,a6,r6⟩:=r5
 obtain ⟨v6,e6,w6⟩:=Qc4 a6
 cases e6
 obtain ⟨_,_,rfl,a7,r7⟩:=r6
 obtain ⟨v7,e7,w7⟩:=Qc4 a7
 cases e7
 cases r7
 exact ⟨(v0,v1,v2,v3,v4,v5,v6,v7),rfl,⟨w0,w1,w2,w3,w4,w5,w6,w7⟩⟩
theorem Qst {cs:List AV} (h:WT (.int .u64) cs):∃a:Int,cs=[(AV.int .u64) a]/\(Lit.int .u64 a).wf=true:=by
 obtain ⟨n,rfl,w⟩:=h
 exact ⟨n,rfl,w⟩
theorem rdA73 {cs:List AV} (h:WT (.cat (.int .u64) (.cat (.int .u64) (.cat (.int .u64) (.cat (.int .u64) .unit)))) cs):∃x:(Int × Int × Int × Int),AV.agg cs=(fun x:(Int × Int × Int × Int)=>AV.agg [.int .u64 x.1,.int .u64 x.2.1,.int .u64 x.2.2.1,.int .u64 x.2.2.2]) x/\((Lit.int .u64 x.1).wf=true/\(Lit.int .u64 x.2.1).wf=true/\(Lit.int .u64 x.2.2.1).wf=true/\(Lit.int .u64 x.2.2.2).wf=true):=by
 obtain ⟨_,_,rfl,a0,r0⟩:=h
 obtain ⟨v0,e0,w0⟩:=Qst a0
 cases e0
 obtain ⟨_,_,rfl,a1,r1⟩:=r0
 obtain ⟨v1,e1,w1⟩:=Qst a1
 cases e1
 obtain ⟨_,_,rfl,a2,r2⟩:=r1
 obtain ⟨v2,e2,w2⟩:=Qst a2
 cases e2
 obtain ⟨_,_,rfl,a3,r3⟩:=r2
 obtain ⟨v3,e3,w3⟩:=Qst a3
 cases e3
 cases r3
 exact ⟨(v0,v1,v2,v3),rfl,⟨w0,w1,w2,w3⟩⟩
end Go.Ab
namespace Go.Ab
open Go
theorem Q3x {p0:Qd} (h:Vo p0):Qyk p0:=by
 obtain ⟨h1,⟨h2,h3⟩,h4,h5⟩:=h
 exact ⟨bounds_u8 h1,fun x hx=>bounds_u8 (h5 x hx),fun p hp=>bounds_u8 (h3 p hp).1,fun p hp x hx=>bounds_u8 ((h3 p hp).2.2.2 x hx),fun p hp=>(h3 p hp).2.2.1⟩
structure DX (D:NF):Prop extends VX D where
 n5:D.n<=5
 c23:∀v,v < D.n->2<=D.card v/\D.card v<=3
section
variable {D:NF}
theorem DX.worlds (X:DX D):Za D.n D.card<=243:=by
 have h1:Za D.n D.card<=3^D.n:=Qhs fun v hv=>(X.c23 v hv).2
 have h2:3^D.n<=3^5:=aV (by omega) X.n5
 omega
end
end Go.Ab
namespace Go.Ab
open Go
def Rt (q:Q1):Prop:=1<=q.D/\q.D<=4611686018427387903/\-4611686018427387903<=q.N/\q.N<=4611686018427387903/\Nat.gcd q.N.natAbs q.D.natAbs=1
instance instRt (q:Q1):Decidable (Rt q):=by unfold Rt; infer_instance
def I64 (q:Q1):Prop:=(-9223372036854775808<=q.N/\q.N<=9223372036854775807)/\(-9223372036854775808<=q.D/\q.D<=9223372036854775807)
theorem Rt.i64 {q:Q1} (h:Rt q):I64 q:=by obtain ⟨h1,h2,h3,h4,_⟩:=h; unfold I64; omega
end Go.Ab
namespace Go.Ab
open Go
theorem Qyn:Qfk=some true:=by kernel_rfl
end Go.Ab
namespace Go.Ab
open Go
def NF.fr (D:NF) (m:Nat) (w:Nat -> Nat):Nat -> Nat := fun k=>Za k fun v=>if m.testBit v=true then 1 else D.wt w v
theorem Qi3 {n:Nat} {p:Nat -> Bool}:msk n p < 2^n:=Nat.lt_pow_two_of_testBit _ fun j hj=>by rw [Q6]; simp; omega
theorem Qrd {a k:Nat} (ha:a < 18446744073709551616) (hk:k < 64) :
  ((zv (zb (Int.fdiv (a:Int) (2^min (Int.toNat (k:Int)) zk)) &&& zb 1).toNat)==1)=a.testBit k:=by
 rw [Qf0 ha hk]; cases a.testBit k <;> rfl
section
variable {D:NF} {w:Nat -> Nat} {m:Nat}
variable (V:VN D)
include V
end
end Go.Ab
namespace Go.Ab
open Go
theorem Qkq {n i x:Nat} {w:Nat -> Nat}:(Qf n w).set i (x:Int)=Qf n (Qdt w i x):=by
 unfold Qf; rw [Qah]
 refine Qq fun j _=>?_
 unfold Qdt
 split <;> rfl
theorem Q7g {n:Nat}:List.replicate (Int.toNat (n:Int)) (0:Int)=Qf n fun _=>0:=by rw [aR]; exact Qjn n 0
section
variable {D:NF} {S E:Nat -> Int}
end
end Go.Ab
namespace Go.Ab
open Go
open Classical
theorem Qsx {n:Int} (h:(Lit.int .u8 n).wf=true):0<=n/\n<=255:=by
 simpa [Lit.wf,IntKind.min,IntKind.max,IntKind.bits,IntKind.signed] using h
theorem Qx9 {D:NF} (X:VX D):∀x∈rowG D.n D.node,Qac 65536 x:=fun x hx=>by
 have V:=X.vn
 unfold rowG at hx
 obtain ⟨v,hv,rfl⟩:=cG.1 hx
 have hv:=cR.1 hv
 have hc:=V.card v hv
 refine ⟨?_,?_,fun r hr=>?_⟩
 ·have:=V.len v hv
  show (List.map _ (D.par v)).length<=_
  rw [bZ]; omega
 ·show (rowG (D.rows v) _).length<=_
  rw [Z9]; exact V.rows_le hv
 have hr:r∈rowG (D.rows v) fun r=>rowG (D.card v) fun x=>(D.W v r x:Int):=hr
 unfold rowG at hr
 obtain ⟨i,hi,rfl⟩:=cG.1 hr
 rw [bZ,List.length_range]; omega
theorem Q2m {p0:Qd} {p1:Q9} (h0:Vo p0) (h1:K2 p1) :
  ∃(D:NF) (n:Nat) (g:Int) (F:Nat -> Ad),DX D/\NB n F/\n<=6/\Jl p0=some D.net/\V9 p1 D.net=some ⟨g,rowG n F⟩:=by
 obtain ⟨D,X,hn,hc,e⟩:=Qz7 (Q3x h0)
 have hs:=Qx9 X
 have V:=X.vn
 have hlen:(rowG D.n D.node).length=D.n:=Z9
 obtain ⟨g,l,e2,h2,h3⟩:=Q09 (b:=p1) (g:=D.g) (l:=rowG D.n D.node) (m:=65536) (by omega) (by rw [hlen]; exact V.n1) (by rw [hlen]; exact V.n8) hs (Qsx h1.2.1) (Qsx h1.2.2.1)
 rw [hlen] at h2
 refine ⟨D,l.length,g,fun v=>(l[v]?).getD default,⟨X,hn,hc⟩,Q7f (m:=65536+1) (by omega) h3,by omega,e,?_⟩
 have e2:V9 p1 D.net=some ⟨g,l⟩:=e2
 rw [e2,<-Q13]
section
variable {D:NF} {S E:Nat -> Int}
theorem Qt8 {m:Qc} (h:Vn m=some Qtd) (ls:List (List Int)):Yx m ls=some 50:=by
 unfold Yx Qex
 rw [h]; rfl
end
theorem Q7w {α:Type} {a b:α} {k:Nat} (h:k < 2) {Q:α->Prop} (h1:Q a) (h2:Q b):∃x,lkI ([a,b]:List α) (k:Int)=some x/\Q x:=by
 match k,h with
 | 0,_=>exact ⟨a,rfl,h1⟩
 | 1,_=>exact ⟨b,rfl,h2⟩
end Go.Ab
namespace Go.Ab
open Go
theorem Qin (n:Nat) (p:Nat -> Bool):msk n p < 2^n:=by
 induction n with
 | zero=>simp [msk]
 | succ n ih =>
  unfold msk
  refine dZ (bO ih (aV (by omega) (by omega))) ?_
  split
  ·exact eN (by omega) (by omega)
  exact Nat.two_pow_pos _
theorem Qdu {n:Nat} {p:Nat -> Bool} {a:Nat} (ha:a < 2^n) (h:∀i,i < n->a.testBit i=p i):a=msk n p:=by
 apply dU
 intro i
 rw [Q6]
 by_cases hi:i < n
 ·simp [hi,h i hi]
 rw [Nat.testBit_lt_two_pow (bO ha (aV (by omega) (by omega)))]; simp [hi]
theorem X7 {n:Nat} {p q:Nat -> Bool} (h:∀i,i < n->p i=q i):msk n p=msk n q :=
 Qdu (Qin n p) fun i hi=>by rw [Q6,h i hi]; simp [hi]
theorem Q57 {n a:Nat} (hn:n<=10) (ha:a < 2^n):a < 1024:=bO ha (aV (n:=2) (by omega) hn)
theorem Q0o {a j:Nat} (h:a < 18446744073709551616):(zb (a:Int)).getLsbD j=a.testBit j:=by unfold BitVec.getLsbD; rw [Vv h]
theorem Qri {v:Nat} (hv:v < 64):zv (1*2^min (Int.toNat (v:Int)) zk)=((2^v:Nat):Int):=by
 have hb:zk=64:=rfl
 have e0:min (Int.toNat (v:Int)) zk=v:=by rw [hb,aR]; omega
 have hp:2^v < 18446744073709551616:=eN (n:=64) (by omega) hv
 rw [e0,show (1:Int)*2^v=((2^v:Nat):Int) by simp,Yn hp]
theorem Qpl {v:Nat} (hv:v < 64):2^v < 18446744073709551616:=eN (n:=64) (by omega) hv
theorem Qi6 {n:Nat} {p q:Nat -> Bool} {a b:Nat} (hn:n<=64) (ha:a < 2^n) (hb:b < 18446744073709551616) (hp:∀i,i < n->a.testBit i=p i) (hq:∀i,i < n->b.testBit i=q i) :
  zv (zb (a:Int) &&& ~~~ zb (b:Int)).toNat = ((msk n fun i=>p i && !q i:Nat):Int):=by
 have ha':a < 18446744073709551616:=bO ha (aV (n:=2) (by omega) hn)
 have h1:(zb (a:Int) &&& ~~~ zb (b:Int)).toNat < 18446744073709551616:=BitVec.isLt _
 rw [Yn h1]
 congr 1
 refine Qdu ?_ fun i hi=>?_
 ·refine bX ?_ ha
  rw [BitVec.toNat_and,Vv ha']
  exact Nat.and_le_left
 ·have:i < 64:=by omega
  have e:(zb (a:Int) &&& ~~~ zb (b:Int)).toNat.testBit i=(zb (a:Int) &&& ~~~ zb (b:Int)).getLsbD i:=rfl
  rw [e,BitVec.getLsbD_and,BitVec.getLsbD_not,Q0o ha',Q0o hb,hp i hi,hq i hi]
  have h64:i < zk:=this
  simp [h64]
theorem Q79 {n:Nat} {p q:Nat -> Bool} {a b:Nat} (hn:n<=64) (ha:a < 2^n) (hb:b < 2^n) (hp:∀i,i < n->a.testBit i=p i) (hq:∀i,i < n->b.testBit i=q i) :
  zv (zb (a:Int) ||| zb (b:Int)).toNat = ((msk n fun i=>p i || q i:Nat):Int):=by
 have h64:2^n<=2^64:=aV (n:=2) (by omega) hn
 have ha':a < 18446744073709551616:=bO ha h64
 have hb':b < 18446744073709551616:=bO hb h64
 rw [BitVec.toNat_or,Vv ha',Vv hb',Yn (dZ (n:=64) ha' hb')]
 congr 1
 exact Qdu (dZ ha hb) fun i hi=>by rw [bH,hp i hi,hq i hi]
theorem Q7n {n:Nat} {p q:Nat -> Bool} {a b:Nat} (hn:n<=64) (ha:a < 2^n) (hb:b < 18446744073709551616) (hp:∀i,i < n->a.testBit i=p i) (hq:∀i,i < n->b.testBit i=q i) :
  zv (zb (a:Int) &&& zb (b:Int)).toNat = ((msk n fun i=>p i && q i:Nat):Int):=by
 have h64:2^n<=2^64:=aV (n:=2) (by omega) hn
 have ha':a < 18446744073709551616:=bO ha h64
 have hl:a &&& b<=a:=Nat.and_le_left
 rw [BitVec.toNat_and,Vv ha',Vv hb,Yn (by omega)]
 congr 1
 exact Qdu (by omega) fun i hi=>by rw [Nat.testBit_and,hp i hi,hq i hi]
theorem J8 (v i:Nat):(2^v).testBit i=decide (v=i):=dC
theorem Q2e {n:Nat} {p:Nat -> Bool}:∀i,i < n->(msk n p).testBit i=p i:=fun i hi=>by rw [Q6]; simp [hi]
theorem Q7q {n v:Nat} {p:Nat -> Bool} (hn:n<=10) (hv:v < 64):zv (zb ((msk n p:Nat):Int) &&& ~~~ zb (zv (1*2^min (Int.toNat (v:Int)) zk))).toNat = ((msk n fun i=>p i && !decide (v=i):Nat):Int):=by
 rw [Qri hv]
 exact Qi6 (by omega) (Qin n p) (Qpl hv) Q2e fun i _=>J8 v i
theorem Q29 {n v:Nat} {p:Nat -> Bool} (hn:n<=10) (hv:v < n):zv (zb ((msk n p:Nat):Int) ||| zb (zv (1*2^min (Int.toNat (v:Int)) zk))).toNat = ((msk n fun i=>p i || decide (v=i):Nat):Int):=by
 rw [Qri (by omega)]
 exact Q79 (by omega) (Qin n p) (eN (by omega) hv) Q2e fun i _=>J8 v i
def tzN:Nat -> (Nat -> Bool)->Nat
 | 0,_=>0
 | n+1,p=>if p 0 then 0 else tzN n (fun i=>p (i+1))+1
def isS (x:Option Int) (y:Int):Bool:=match x with | some z=>z==y | none=>false
theorem Q46 {x:Option Int} {y:Int} (h:isS x y=true):x=some y:=by
 cases x with
 | none=>cases h
 | some z=>simp only [isS,dE] at h; rw [h]
theorem Qy5 {p:Nat -> Bool} {n:Nat} (h:(List.range n).all p=true) {k:Nat} (hk:k < n):p k=true:=bQ.1 h k (cR.2 hk)
theorem Q8a:((List.range 1024).all fun R=>Nat.beq R 0 || (isS (Qv (R:Int)) (tzN 10 R.testBit:Int)))=true:=by kernel_rfl
theorem Q5k:((List.range 1024).all fun R=>Nat.beq R 0 || (zv (zb (R:Int) &&& zb (zv ((R:Int) - 1))).toNat == ((msk 10 fun i=>R.testBit i && !Nat.beq (tzN 10 R.testBit) i:Nat):Int)))=true:=by kernel_rfl
theorem Q2d {n:Nat} {p:Nat -> Bool} (h:∀i,i < n->p i=false):cnt n p=0:=by
 induction n with
 | zero=>rfl
 | succ n ih=>simp only [cnt]; rw [ih fun i hi=>h i (by omega),h n (by omega)]; rfl
theorem Qn3:∀(n:Nat) (p:Nat -> Bool),(∃i,i < n/\p i=true)->tzN n p < n/\p (tzN n p)=true/\∀i,i < tzN n p->p i=false
 | 0,p,⟨i,hi,_⟩=>by omega
 | n+1,p,⟨i,hi,h⟩=>by
  unfold tzN
  by_cases h0:p 0=true
  ·rw [aH h0]; exact ⟨by omega,h0,fun i hi=>by omega⟩
  rw [aI h0]
  have hi0:i≠0:=fun e=>h0 (e ▸ h)
  obtain ⟨a,b,c⟩:=Qn3 n (fun i=>p (i+1)) ⟨i - 1,by omega,by rw [show i - 1+1=i by omega]; exact h⟩
  refine ⟨by omega,b,fun j hj=>?_⟩
  cases j with
  | zero=>simpa using h0
  | succ j=>exact c j (by omega)
theorem Q52 {n v:Nat} {p:Nat -> Bool} (hv:v < n) (h:p v=true) (hl:∀i,i < v->p i=false):tzN n p=v:=by
 obtain ⟨a,b,c⟩:=Qn3 n p ⟨v,hv,h⟩
 rcases Nat.lt_trichotomy (tzN n p) v with e | e | e
 ·rw [hl _ e] at b; cases b
 ·exact e
 rw [c v e] at h; cases h
theorem Q0x {n v:Nat} {p:Nat -> Bool} (hn:n<=10) (hv:v < n) (h:p v=true) (hl:∀i,i < v->p i=false) :
  (((msk n p:Nat):Int) != 0)=true/\Qv ((msk n p:Nat):Int)=some (v:Int) /\
  zv (zb ((msk n p:Nat):Int) &&& zb (zv (((msk n p:Nat):Int) - 1))).toNat = ((msk n fun i=>p i && !decide (v=i):Nat):Int):=by
 have hlt:=Qin n p
 have hR:=Q57 hn hlt
 have hb:(msk n p).testBit v=true:=by rw [Q6]; simp [hv,h]
 have h0:msk n p≠0:=fun e=>by rw [e] at hb; simp at hb
 have e0:Nat.beq (msk n p) 0=false:=by
  cases e:msk n p with
  | zero=>exact absurd e h0
  | succ k=>rfl
 have etz:tzN 10 (msk n p).testBit=v:=Q52 (by omega) hb fun i hi=>by rw [Q6,hl i hi]; simp
 have h1:=Qy5 Q8a hR
 have h2:=Qy5 Q5k hR
 simp only [e0,Bool.false_or,etz] at h1 h2
 refine ⟨by simp; omega,Q46 h1,?_⟩
 have h3:zv (zb ((msk n p:Nat):Int) &&& zb (zv (((msk n p:Nat):Int) - 1))).toNat = ((msk 10 fun i=>(msk n p).testBit i && !Nat.beq v i:Nat):Int):=by simpa using h2
 rw [h3]
 congr 1
 apply dU
 intro j
 rw [Q6,Q6,Q6]
 have e:Nat.beq v j=decide (v=j):=by
  by_cases e:v=j
  ·subst e; simp
  rw [decide_eq_false e,bK]; exact fun h=>e (aJ h)
 rw [e]
 by_cases hj:j < n
 ·simp [hj,show j < 10 by omega]
 ·simp [hj]
end Go.Ab
namespace Go.Ab
open Go
def Qnr (a p:Nat):Bool:=(a ||| p)==p
theorem Qkp {a p:Nat}:Qnr a p=true↔Zi a p:=by
 unfold Qnr
 rw [dE]
 constructor
 ·intro h j hj
  have:(a ||| p).testBit j=p.testBit j:=by rw [h]
  rw [bH,hj] at this; simpa using this.symm
 intro h
 exact sub_anti (or_sub h .refl) Qt5
theorem Q4z {a p:Nat} (ha:a < 18446744073709551616) (hp:p < 18446744073709551616) :
  ((zv (zb (a:Int) &&& ~~~ zb (p:Int)).toNat)==0)=Qnr a p:=by
 rw [Qi6 (n:=64) (p:=a.testBit) (q:=p.testBit) (by omega) ha hp (fun _ _=>rfl) (fun _ _=>rfl)]
 rw [aP,dE,Qkp]
 constructor
 ·intro h j hj
  have h0:(msk 64 fun i=>a.testBit i && !p.testBit i)=0:=by exact_mod_cast h
  have hj64:j < 64:=by
   apply Classical.byContradiction
   intro hn
   rw [Nat.testBit_lt_two_pow (bO (show a < 2^64 from ha) (aV (by omega) (by omega)))] at hj; cases hj
  have:=Q6 64 (fun i=>a.testBit i && !p.testBit i) j
  rw [h0] at this
  simp [hj64,hj] at this
  exact this
 ·intro h
  have:(msk 64 fun i=>a.testBit i && !p.testBit i)=msk 64 (fun _=>false):=X7 fun i _=>by
   cases e:a.testBit i with
   | false=>rfl
   | true=>rw [h i e]; rfl
  rw [this]
  rfl
def plV (S:Nat -> Nat) (p v:Nat):Nat := if Qnr (S v) p=true then p ||| 2^v else p
def plR (n:Nat) (S:Nat -> Nat) (p:Nat):Nat := (List.range n).foldl (plV S) p
def pls (n:Nat) (S:Nat -> Nat):Nat -> Nat
 | 0=>0
 | k+1=>plR n S (pls n S k)
theorem Qz5 {S:Nat -> Nat} {p v:Nat}:Zi p (plV S p v):=by
 unfold plV; split
 ·exact Qhi
 exact .refl
theorem Qtl {S:Nat -> Nat}:∀(l:List Nat) (p:Nat),Zi p (l.foldl (plV S) p)
 | [],_=>.refl
 | v::l,p=>Qz5.trans (Qtl l _)
theorem Qwz {S:Nat -> Nat} {v:Nat}:∀(l:List Nat) (p:Nat),v∈l->Zi (S v) p->(l.foldl (plV S) p).testBit v=true
 | [],_,h,_=>by cases h
 | u::l,p,h,hs=>by
  simp only [List.foldl_cons]
  by_cases e:v=u
  ·subst e
   refine Qtl l _ v ?_
   unfold plV; rw [aH (Qkp.2 hs),bH,J8]; simp
  exact Qwz l _ (by simpa [e] using h) (hs.trans Qz5)
def Rk (n:Nat) (S:Nat -> Nat) (p:Nat):Prop:=(∀j,p.testBit j=true->j < n)/\∃(r:Nat -> Nat) (M:Nat),(∀x,r x<=M)/\∀v,p.testBit v=true->∀j,(S v).testBit j=true->p.testBit j=true/\r j < r v
theorem Q3s {n:Nat} {S:Nat -> Nat} {p v:Nat} (hv:v < n) (h:Rk n S p):Rk n S (plV S p v):=by
 unfold plV
 split
 rotate_left
 ·exact h
 rename_i hs
 have hs:=Qkp.1 hs
 obtain ⟨h1,r,M,h2,h3⟩:=h
 by_cases hp:p.testBit v=true
 ·have e:p ||| 2^v=p:=sub_anti (or_sub .refl fun j hj=>by rw [J8] at hj; have:=aQ hj; subst this; exact hp) Qhi
  rw [e]; exact ⟨h1,r,M,h2,h3⟩
 refine ⟨fun j hj=>?_,fun x=>if x=v then M+1 else r x,M+1,fun x=>?_,fun w hw j hj=>?_⟩
 ·rw [bH,J8,aM] at hj
  rcases hj with hj | hj
  ·exact h1 j hj
  have:=aQ hj; omega
 ·show (if x=v then M+1 else r x)<=M+1
  split
  ·omega
  have:=h2 x; omega
 rw [bH,J8,aM] at hw
 by_cases e:w=v
 ·subst e
  have hjp:=hs j hj
  have:¬ j=w:=fun e=>hp (e ▸ hjp)
  refine ⟨Qhi j hjp,?_⟩
  show (if j=w then M+1 else r j) < (if w=w then M+1 else r w)
  rw [aI this,aH rfl]; have:=h2 j; omega
 have hw:p.testBit w=true:=hw.resolve_right fun h=>e (aQ h).symm
 obtain ⟨h4,h5⟩:=h3 w hw j hj
 have:¬ j=v:=fun e=>hp (e ▸ h4)
 refine ⟨Qhi j h4,?_⟩
 show (if j=v then M+1 else r j) < (if w=v then M+1 else r w)
 rw [aI this,aI e]; exact h5
theorem Qwl {n:Nat} {S:Nat -> Nat}:∀(l:List Nat) (p:Nat),(∀v∈l,v < n)->Rk n S p->Rk n S (l.foldl (plV S) p)
 | [],_,_,h=>h
 | v::l,p,hl,h=>Qwl l _ (fun u hu=>hl u (cN _ hu)) (Q3s (hl v (by simp)) h)
theorem Quc {n:Nat} {S:Nat -> Nat}:∀k,Rk n S (pls n S k)
 | 0=>⟨fun j hj=>by simp [pls] at hj,fun _=>0,0,fun _=>bA _,fun v hv=>by simp [pls] at hv⟩
 | k+1=>Qwl _ _ (fun v hv=>cR.1 hv) (Quc k)
structure Gd (n:Nat) (S:Nat -> Nat):Prop where
 inn:∀v,v < n->∀j,(S v).testBit j=true->j < n
 acyc:∀v,v < n->¬ (ups n S n (S v)).testBit v=true
theorem Qnx {n p:Nat} (h:∀j,p.testBit j=true->j < n):p=2^n - 1↔∀j,j < n->p.testBit j=true:=by
 constructor
 ·intro e j hj; rw [e,bD]; simpa using hj
 intro k
 apply dU
 intro j
 rw [bD]
 by_cases hj:j < n
 ·rw [k j hj]; simp [hj]
 have:p.testBit j=false:=by rw [bK]; exact fun e=>hj (h j e)
 rw [this]; simp [hj]
theorem Q6o {n:Nat} {S:Nat -> Nat}:pls n S n=2^n - 1↔Gd n S:=by
 have hrk:=Quc (n:=n) (S:=S)
 constructor
 ·intro h
  obtain ⟨h1,r,M,h2,h3⟩:=hrk n
  have hall:=(Qnx h1).1 h
  refine ⟨fun v hv j hj=>h1 j (h3 v (hall v hv) j hj).1,fun v hv hb=>?_⟩
  have hT:Clo n S (msk n fun j=>decide (r j < r v)):=fun w hw hb j hj=>by
   rw [Q6] at hb ⊢
   simp only [aE,aN] at hb ⊢
   have:=h3 w (hall w hw) j hj
   exact ⟨h1 j this.1,by omega⟩
  have hs:Zi (S v) (msk n fun j=>decide (r j < r v)):=fun j hj=>by
   rw [Q6]
   simp only [aE,aN]
   have:=h3 v (hall v hv) j hj
   exact ⟨h1 j this.1,this.2⟩
  have:=X2 hT hs n v hb
  rw [Q6] at this
  simp at this
 intro h
 have key:∀k,plR n S (pls n S k)=pls n S k\/k<=cnt n (pls n S k).testBit:=by
  intro k
  induction k with
  | zero=>right; exact eE _
  | succ k ih =>
   by_cases hf:plR n S (pls n S k)=pls n S k
   ·left; simp only [pls]; rw [hf,hf]
   right
   rcases ih with h | h
   ·exact absurd h hf
   have:=Qmq (n:=n) (Qtl (S:=S) (List.range n) (pls n S k)) (hrk (k+1)).1 (fun e=>hf e.symm)
   show k+1<=cnt n (plR n S (pls n S k)).testBit
   unfold plR; omega
 refine (Qnx (hrk n).1).2 ?_
 rcases key n with hst | hc
 ·generalize pls n S n=P at *
  have main:∀c v,v < n->¬ P.testBit v=true->cnt n (ups n S n (S v)).testBit=c->False:=by
   intro c
   induction c using Nat.strongRecOn with
   | _ c ih =>
    intro v hv hp hc
    have hns:¬ Zi (S v) P:=fun hs=>hp (by
     have:=Qwz (List.range n) P (cR.2 hv) hs
     unfold plR at hst
     rwa [hst] at this)
    obtain ⟨j,hj,hjp⟩:∃j,(S v).testBit j=true/\¬ P.testBit j=true:=by
     apply Classical.byContradiction
     intro hno
     exact hns fun j hj=>Classical.byContradiction fun hp=>hno ⟨j,hj,hp⟩
    have hjn:=h.inn v hv j hj
    have hclo:=Qar h.inn (s:=S v) (h.inn v hv)
    have hin:(ups n S n (S v)).testBit j=true:=Vy n j hj
    have hsub:Zi (ups n S n (S j)) (ups n S n (S v)):=X2 hclo (hclo j hjn hin) n
    have hb:∀i,(ups n S n (S v)).testBit i=true->i < n:=fun i hi=>by
     have:=X2 (Qcx n h.inn) (s:=S v) (fun i hi=>by rw [bD]; simpa using h.inn v hv i hi) n i hi
     rw [bD] at this; simpa using this
    have:=Qmq (n:=n) hsub hb fun e=>h.acyc j hjn (by rw [e]; exact hin)
    exact ih _ (by omega) j hjn hjp rfl
  exact fun j hj=>Classical.byContradiction fun hp=>main _ j hj hp rfl
 intro j hj
 apply Classical.byContradiction
 intro hp
 have h1:cnt n (pls n S n).testBit < n:=by
  have e:=Qna (n:=n) (p:=fun _=>true) hj rfl
  have:cnt n (pls n S n).testBit<=cnt n (fun i=>true && !decide (j=i)):=Qkf fun i _ hi=>by
   have:j≠i:=fun e=>hp (e ▸ hi)
   simp [this]
  have:=Qpt n (fun _=>true)
  omega
 omega
def L64 (n:Nat) (S:Nat -> Nat):Prop:=∀v,v < n->S v < 18446744073709551616
theorem Qc8 {a n:Nat} (hn:n<=64):((Int.fdiv (a:Int) (2^min (Int.toNat (n:Int)) zk)) != 0)=!decide (a < 2^n):=by
 have hb:zk=64:=rfl
 have e0:min (Int.toNat (n:Int)) zk=n:=by rw [hb,aR]; omega
 rw [e0,Qt2,aP]
 simp only [dD,ne_eq,bI,decide_eq_false_iff_not]
 have:a / 2^n=0↔a < 2^n:=Nat.div_eq_zero_iff_lt (Nat.two_pow_pos n)
 rw [<-this]
 exact not_congr ⟨fun h=>by exact_mod_cast h,fun h=>by rw [h]; rfl⟩
theorem Q6d {n:Nat} {S:Nat -> Nat} (hn:n<=8) (h:Gd n S):L64 n S:=fun v hv=>by
 have:=Yd (h.inn v hv)
 have:(2:Nat)^n<=256:=aV (n:=2) (by omega) hn
 omega
theorem Q3g {n:Nat} {S:Nat -> Nat} (h:Gd n S):∃r:Nat -> Nat,∀v,v < n->∀j,(S v).testBit j=true->r j < r v:=by
 have e:=Q6o.2 h
 obtain ⟨h1,r,M,h2,h3⟩:=Quc (n:=n) (S:=S) n
 have hall:=(Qnx h1).1 e
 exact ⟨r,fun v hv j hj=>(h3 v (hall v hv) j hj).2⟩
theorem Q4a {a n:Nat}:a < 2^n↔∀j,a.testBit j=true->j < n:=by
 constructor
 ·intro h j hj
  apply Classical.byContradiction
  intro hn
  rw [Nat.testBit_lt_two_pow (bO h (aV (by omega) (by omega)))] at hj; cases hj
 exact Yd
end Go.Ab
namespace Go.Ab
open Go
inductive Rch (S:Nat -> Nat) (z anz x:Nat):Nat -> Bool->Prop
 | start {v:Nat}:x.testBit v=true->Rch S z anz x v false
 | up {v p:Nat}:Rch S z anz x v false->z.testBit v=false->(S v).testBit p=true->Rch S z anz x p false
 | dn {v c:Nat} {d:Bool}:Rch S z anz x v d->z.testBit v=false->(S c).testBit v=true->Rch S z anz x c true
 | turn {v p:Nat}:Rch S z anz x v true->anz.testBit v=true->(S v).testBit p=true->Rch S z anz x p false
inductive Tow (S:Nat -> Nat) (z anz y:Nat):Nat -> Bool->Prop
 | here {v:Nat} (d:Bool):y.testBit v=true->Tow S z anz y v d
 | up {v p:Nat}:Tow S z anz y p false->z.testBit v=false->(S v).testBit p=true->Tow S z anz y v false
 | dn {v c:Nat} {d:Bool}:Tow S z anz y c true->z.testBit v=false->(S c).testBit v=true->Tow S z anz y v d
 | turn {v p:Nat}:Tow S z anz y p false->anz.testBit v=true->(S v).testBit p=true->Tow S z anz y v true
theorem Qqw (n:Nat) (P:Nat -> Prop):∃T:Nat,(∀v,T.testBit v=true↔v < n/\P v):=by
 classical
 refine ⟨msk n fun v=>decide (P v),fun v=>?_⟩
 rw [Q6]
 simp
theorem Qlb {n:Nat} {S:Nat -> Nat} (hS:∀v,v < n->∀j,(S v).testBit j=true->j < n) {s:Nat} (hs:∀j,s.testBit j=true->j < n) {j:Nat} (hj:(ups n S n s).testBit j=true):j < n:=by
 have:=X2 (Qcx n hS) (s:=s) (fun i hi=>by rw [bD]; simpa using hs i hi) n j hj
 rw [bD] at this; simpa using this
theorem Qlo {n:Nat} {S:Nat -> Nat} (hS:Gd n S) {s:Nat} (hs:∀j,s.testBit j=true->j < n) (P:Nat -> Prop) (h0:∀j,s.testBit j=true->P j) (h1:∀v p,v < n->P v->(S v).testBit p=true->P p) {v:Nat} (hv:(ups n S n s).testBit v=true):P v:=by
 obtain ⟨T,hT⟩:=Qqw n P
 have hc:Clo n S T:=fun u hu hb j hj=>(hT j).2 ⟨hS.inn u hu j hj,h1 u j hu ((hT u).1 hb).2 hj⟩
 exact ((hT v).1 (X2 hc (fun j hj=>(hT j).2 ⟨hs j hj,h0 j hj⟩) n v hv)).2
def jo (n:Nat) (S:Nat -> Nat) (an z a:Nat):Nat := if z.testBit a=true then 0 else msk n fun b=>an.testBit b && (List.range n).any fun k=>an.testBit k && ((S k).testBit a || decide (k=a)) && ((S k).testBit b || decide (k=b))
theorem Quy {n:Nat} {S:Nat -> Nat} {an z a b:Nat} (hb:b < n):(jo n S an z a).testBit b=true↔z.testBit a=false/\an.testBit b=true/\∃k,k < n/\an.testBit k=true/\((S k).testBit a=true\/k=a)/\((S k).testBit b=true\/k=b):=by
 unfold jo
 by_cases c:z.testBit a=true
 ·rw [aH c]; simp [c]
 rw [aI c,Q6]
 simp only [cP] at c
 simp only [hb,c,true_and,decide_true,dY,aE,bI,bR,aM,aN,cR]
 constructor
 ·rintro ⟨h1,k,h3,⟨h4,h5⟩,h6⟩; exact ⟨h1,k,h3,h4,h5,h6⟩
 rintro ⟨h1,k,h3,h4,h5,h6⟩; exact ⟨h1,k,h3,⟨h4,h5⟩,h6⟩
section
variable {n:Nat} {S:Nat -> Nat} (hS:Gd n S) {z x y:Nat} (hz:∀j,z.testBit j=true->j < n) (hx:∀j,x.testBit j=true->j < n) (hy:∀j,y.testBit j=true->j < n) (hxz:∀j,x.testBit j=true->z.testBit j=false) (hyz:∀j,y.testBit j=true->z.testBit j=false)
def anS (n:Nat) (S:Nat -> Nat) (x y z:Nat):Nat := ups n S n (x ||| y ||| z)
def anZ (n:Nat) (S:Nat -> Nat) (z:Nat):Nat := ups n S n z
def Qbv (n:Nat) (S:Nat -> Nat) (x y z:Nat):Nat := ups n (jo n S (anS n S x y z) z) n x
include hS hz hx hy hxz hyz
theorem Qs5 {j:Nat} (h:(x ||| y ||| z).testBit j=true):j < n:=by
 rw [bH,bH,aM,aM] at h
 rcases h with (h | h) | h
 ·exact hx j h
 ·exact hy j h
 exact hz j h
theorem Qiu:Clo n S (anS n S x y z):=Qar hS.inn (fun j hj=>Qs5 hS hz hx hy hxz hyz hj)
theorem Qjl:Clo n S (anZ n S z):=Qar hS.inn hz
theorem Qkj {j:Nat} (h:(anS n S x y z).testBit j=true):j < n:=Qlb hS.inn (fun j hj=>Qs5 hS hz hx hy hxz hyz hj) h
theorem Q5x {j:Nat} (h:(anZ n S z).testBit j=true):j < n:=Qlb hS.inn hz h
theorem Qug {j:Nat} (h:(anZ n S z).testBit j=true):(anS n S x y z).testBit j=true :=
 X2 (Qiu hS hz hx hy hxz hyz) (fun i hi=>Vy n i (by rw [bH,hi]; simp)) n j h
theorem Q7x {j:Nat} (h:x.testBit j=true):(anS n S x y z).testBit j=true:=Vy n j (by rw [bH,bH,h]; simp)
theorem Q8b {j:Nat} (h:y.testBit j=true):(anS n S x y z).testBit j=true:=Vy n j (by rw [bH,bH,h]; simp)
theorem Q1k {v:Nat} (h:(anS n S x y z).testBit v=true):(anZ n S z).testBit v=true\/(ups n S n y).testBit v=true\/(ups n S n x).testBit v=true:=by
 refine Qlo hS (fun j hj=>Qs5 hS hz hx hy hxz hyz hj) (fun v=>(anZ n S z).testBit v=true\/(ups n S n y).testBit v=true\/(ups n S n x).testBit v=true) (fun j hj=>?_) (fun v p hv hP hp=>?_) h
 ·rw [bH,bH,aM,aM] at hj
  rcases hj with (hj | hj) | hj
  ·exact .inr (.inr (Vy n j hj))
  ·exact .inr (.inl (Vy n j hj))
  exact .inl (Vy n j hj)
 rcases hP with h | h | h
 ·exact .inl (Qjl hS hz hx hy hxz hyz v hv h p hp)
 ·exact .inr (.inl (Qar hS.inn hy v hv h p hp))
 exact .inr (.inr (Qar hS.inn hx v hv h p hp))
theorem Qx5 {v:Nat} (h:(anZ n S z).testBit v=false):z.testBit v=false:=by
 rw [bK] at h ⊢
 exact fun e=>h (Vy n v e)
theorem Q4c {v:Nat} (h:(ups n S n x).testBit v=true):(anZ n S z).testBit v=true\/Rch S z (anZ n S z) x v false:=by
 refine Qlo hS (s:=x) hx (fun v=>(anZ n S z).testBit v=true\/Rch S z (anZ n S z) x v false) (fun j hj=>.inr (.start hj)) (fun v p hv hP hp=>?_) h
 rcases hP with h | h
 ·exact .inl (Qjl hS hz hx hy hxz hyz v hv h p hp)
 cases hz2:(anZ n S z).testBit v with
 | true=>exact .inl (Qjl hS hz hx hy hxz hyz v hv hz2 p hp)
 | false=>exact .inr (.up h (Qx5 hS hz hx hy hxz hyz hz2) hp)
theorem Q4b {v:Nat} (h:(ups n S n y).testBit v=true):(anZ n S z).testBit v=true\/∀d,Rch S z (anZ n S z) x v d->∃u d,y.testBit u=true/\Rch S z (anZ n S z) x u d:=by
 refine Qlo hS (s:=y) hy (fun v=>(anZ n S z).testBit v=true\/∀d,Rch S z (anZ n S z) x v d->∃u d,y.testBit u=true/\Rch S z (anZ n S z) x u d) (fun j hj=>.inr fun d hd=>⟨j,d,hj,hd⟩) (fun v p hv hP hp=>?_) h
 rcases hP with h | h
 ·exact .inl (Qjl hS hz hx hy hxz hyz v hv h p hp)
 cases hz2:(anZ n S z).testBit p with
 | true=>exact .inl rfl
 | false=>exact .inr fun d hd=>h true (.dn hd (Qx5 hS hz hx hy hxz hyz hz2) hp)
theorem Q19 (hno:¬ ∃u d,y.testBit u=true/\Rch S z (anZ n S z) x u d) {a:Nat} (h:(Qbv n S x y z).testBit a=true):z.testBit a=false->∃d,Rch S z (anZ n S z) x a d:=by
 obtain ⟨T,hT⟩:=Qqw n fun a=>z.testBit a=false->∃d,Rch S z (anZ n S z) x a d
 have hc:Clo n (jo n S (anS n S x y z) z) T:=fun a ha hb b hbb=>by
  obtain ⟨_,had⟩:=(hT a).1 hb
  have hbn:b < n:=by
   unfold jo at hbb
   split at hbb
   ·simp at hbb
   rw [Q6] at hbb
   simp only [aE,aN] at hbb; exact hbb.1
  obtain ⟨haz,h1,k,hk,h3,h4,h5⟩:=(Quy hbn).1 hbb
  obtain ⟨d,hd⟩:=had haz
  refine (hT b).2 ⟨hbn,fun h2=>?_⟩
  have on:∀p,Rch S z (anZ n S z) x k true->(S k).testBit p=true->∃d,Rch S z (anZ n S z) x p d:=fun p hkr hp=>by
   cases hkz:(anZ n S z).testBit k with
   | true=>exact ⟨_,.turn hkr hkz hp⟩
   | false =>
    rcases Q1k hS hz hx hy hxz hyz h3 with e | e | e
    ·rw [hkz] at e; cases e
    ·rcases Q4b hS hz hx hy hxz hyz e with e | e
     ·rw [hkz] at e; cases e
     exact absurd (e _ hkr) hno
    rcases Q4c hS hz hx hy hxz hyz e with e | e
    ·rw [hkz] at e; cases e
    exact ⟨_,.up e (Qx5 hS hz hx hy hxz hyz hkz) hp⟩
  rcases h4 with h4 | rfl
  ·have hkr:Rch S z (anZ n S z) x k true:=.dn hd haz h4
   rcases h5 with h5 | rfl
   ·exact on b hkr h5
   exact ⟨_,hkr⟩
  rcases h5 with h5 | rfl
  ·cases d with
   | false=>exact ⟨_,.up hd haz h5⟩
   | true=>exact on b hd h5
  exact ⟨_,hd⟩
 have hs:Zi x T:=fun j hj=>(hT _).2 ⟨hx j hj,fun _=>⟨_,.start hj⟩⟩
 exact ((hT a).1 (X2 hc hs n a h)).2
theorem Qx4 {a j:Nat} (h:(jo n S (anS n S x y z) z a).testBit j=true):j < n:=by
 unfold jo at h
 split at h
 ·simp at h
 rw [Q6] at h
 simp only [aE,aN] at h; exact h.1
theorem Qtx:Clo n (jo n S (anS n S x y z) z) (Qbv n S x y z):=Qar (fun v _ j hj=>Qx4 hS hz hx hy hxz hyz hj) hx
theorem Qwn {j:Nat} (h:(Qbv n S x y z).testBit j=true):j < n:=Qlb (fun v _ j hj=>Qx4 hS hz hx hy hxz hyz hj) hx h
theorem Qku {a b k:Nat} (ha:(Qbv n S x y z).testBit a=true) (haz:z.testBit a=false) (hb:b < n) (hban:(anS n S x y z).testBit b=true) (hk:(anS n S x y z).testBit k=true) (h1:(S k).testBit a=true\/k=a) (h2:(S k).testBit b=true\/k=b):(Qbv n S x y z).testBit b=true :=
 Qtx hS hz hx hy hxz hyz a (Qwn hS hz hx hy hxz hyz ha) ha b ((Quy hb).2 ⟨haz,hban,k,Qkj hS hz hx hy hxz hyz hk,hk,h1,h2⟩)
theorem Q7l {v:Nat} {d:Bool} (h:Rch S z (anZ n S z) x v d) (hd:d=false):(anS n S x y z).testBit v=true:=by
 induction h with
 | start h=>exact Q7x hS hz hx hy hxz hyz h
 | up _ _ hp ih=>exact Qiu hS hz hx hy hxz hyz _ (Qkj hS hz hx hy hxz hyz (ih rfl)) (ih rfl) _ hp
 | dn=>cases hd
 | @turn v p _ hv hp ih=>exact Qug hS hz hx hy hxz hyz (Qjl hS hz hx hy hxz hyz v (Q5x hS hz hx hy hxz hyz hv) hv p hp)
theorem Q7p {v:Nat} {d:Bool} (h:Tow S z (anZ n S z) y v d) (hd:d=true):(anS n S x y z).testBit v=true:=by
 induction h with
 | here _ h=>exact Q8b hS hz hx hy hxz hyz h
 | up=>cases hd
 | @dn v c d _ hv hc ih=>exact Qiu hS hz hx hy hxz hyz c (Qkj hS hz hx hy hxz hyz (ih rfl)) (ih rfl) v hc
 | turn _ hv _ _=>exact Qug hS hz hx hy hxz hyz hv
theorem Q10 {v:Nat} {d:Bool} (h:Rch S z (anZ n S z) x v d):Tow S z (anZ n S z) y v d->(z.testBit v=false->(Qbv n S x y z).testBit v=true)/\(z.testBit v=true->d=true->∃p,(S v).testBit p=true/\z.testBit p=false/\(Qbv n S x y z).testBit p=true):=by
 have lt:=fun {j:Nat} h=>Qkj hS hz hx hy hxz hyz (j:=j) h
 induction h with
 | start h=>exact fun _=>⟨fun _=>Vy n _ h,fun e=>by rw [hxz _ h] at e; cases e⟩
 | @up v p hr hv hp ih =>
  intro k
  have i1:=(ih (.up k hv hp)).1 hv
  have va:=Q7l hS hz hx hy hxz hyz hr rfl
  have pa:=Qiu hS hz hx hy hxz hyz v (lt va) va p hp
  exact ⟨fun hpz=>Qku hS hz hx hy hxz hyz i1 hv (lt pa) pa va (.inr rfl) (.inl hp),fun _ e=>by cases e⟩
 | @dn v c d hr hv hc ih =>
  intro k
  have i1:=(ih (.dn k hv hc)).1 hv
  have ca:=Q7p hS hz hx hy hxz hyz k rfl
  exact ⟨fun hcz=>Qku hS hz hx hy hxz hyz i1 hv (lt ca) ca ca (.inl hc) (.inr rfl),fun _ _=>⟨v,hc,hv,i1⟩⟩
 | @turn v p hr hv hp ih =>
  intro k
  have i:=ih (.turn k hv hp)
  have va:=Qug hS hz hx hy hxz hyz hv
  have pa:=Qiu hS hz hx hy hxz hyz v (lt va) va p hp
  refine ⟨fun hpz=>?_,fun _ e=>by cases e⟩
  cases hvz:z.testBit v with
  | false=>exact Qku hS hz hx hy hxz hyz (i.1 hvz) hvz (lt pa) pa va (.inr rfl) (.inl hp)
  | true =>
   obtain ⟨q,hq1,hq0,hq2⟩:=i.2 hvz rfl
   exact Qku hS hz hx hy hxz hyz hq2 hq0 (lt pa) pa va (.inl hq1) (.inl hp)
theorem Q34:(∃u,y.testBit u=true/\(Qbv n S x y z).testBit u=true)↔∃u d,y.testBit u=true/\Rch S z (anZ n S z) x u d:=by
 constructor
 ·rintro ⟨u,hu,h⟩
  apply Classical.byContradiction
  intro hno
  obtain ⟨d,hd⟩:=Q19 hS hz hx hy hxz hyz hno h (hyz u hu)
  exact hno ⟨u,d,hu,hd⟩
 rintro ⟨u,d,hu,h⟩
 exact ⟨u,hu,(Q10 hS hz hx hy hxz hyz h (.here _ hu)).1 (hyz u hu)⟩
end
end Go.Ab
namespace Go.Ab
open Go
theorem Q00 {τ ρ σ:Type} {n:Nat} (hn:n<=10) (mkS:Int->τ->σ) {body:σ->Option (Qe σ ρ)} (I:Nat -> τ->Prop) (Q:ρ->Prop) (p:Nat -> Bool)
  (step:∀(x:Nat) (t:τ) (R R':Int),x < n->p x=true->I x t->(R != 0)=true->Qv R=some (x:Int) ->
   zv (zb R &&& zb (zv (R - 1))).toNat = R' ->
   (∃t',body (mkS R t)=some (.next (mkS R' t'))/\I (x+1) t')\/(∃r,body (mkS R t)=some (.done r)/\Q r))
  (skip:∀(x:Nat) (t:τ),x < n->p x=false->I x t->I (x+1) t)
  (done:∀t,I n t->∃r,body (mkS 0 t)=some (.done r)/\Q r) (t0:τ) (h0:I 0 t0) :
  ∃r,Qb fuel body (mkS ((msk n p:Nat):Int) t0)=some r/\Q r:=by
 have key:∀(j N k:Nat) (t:τ),k+j=n->j < N->I k t->∃r,Qb N body (mkS ((msk n fun i=>p i && decide (k<=i):Nat):Int) t)=some r/\Q r:=by
  intro j
  induction j using Nat.strongRecOn with
  | _ j ih =>
   intro N k t hk hN hI
   by_cases hx:∃i,k<=i/\i < n/\p i=true
   ·obtain ⟨x,x1,x2,x3,x4⟩:∃x,k<=x/\x < n/\p x=true/\∀i,k<=i->i < x->p i=false:=by
     have hs:=Qn3 n (fun i=>p i && decide (k<=i)) (by obtain ⟨i,a,b,c⟩:=hx; exact ⟨i,b,by simp [a,c]⟩)
     refine ⟨_,?_,hs.1,?_,fun i a b=>?_⟩
     ·have:=hs.2.1; simp at this; exact this.2
     ·have:=hs.2.1; simp at this; exact this.1
     have:=hs.2.2 i b; simpa [a] using this
    have hIx:I x t:=by
     have:∀d,k+d<=x->I (k+d) t:=by
      intro d
      induction d with
      | zero=>intro _; exact hI
      | succ d ihd=>intro h; exact skip (k+d) t (by omega) (x4 _ (by omega) (by omega)) (ihd (by omega))
     have h:=this (x - k) (by omega)
     rwa [show k+(x - k)=x by omega] at h
    obtain ⟨N,rfl⟩:∃M,N=M+1:=⟨N - 1,by omega⟩
    obtain ⟨a1,a2,a3⟩:=Q0x (n:=n) (v:=x) (p:=fun i=>p i && decide (k<=i)) hn x2 (by simp [x1,x3]) (fun i hi=>by
     by_cases h:k<=i
     ·rw [x4 i h hi]; rfl
     simp [h])
    have e:msk n (fun i=>(p i && decide (k<=i)) && !decide (x=i))=msk n fun i=>p i && decide (x+1<=i):=X7 fun i hi=>by
     by_cases h:x+1<=i
     ·have h2:¬ x=i:=by omega
      have h3:k<=i:=by omega
      simp [h,h2,h3]
     by_cases h2:x=i
     ·subst h2; simp
     by_cases h3:k<=i
     ·rw [x4 i h3 (by omega)]; simp
     simp [h,h3]
    rw [e] at a3
    rcases step x t _ _ x2 x3 hIx a1 a2 a3 with ⟨t',b1,b2⟩ | ⟨r,b1,b2⟩
    ·simp only [Qb,b1]
     exact ih (n - (x+1)) (by omega) N (x+1) t' (by omega) (by omega) b2
    simp only [Qb,b1]
    exact ⟨r,rfl,b2⟩
   have hno:∀i,k<=i->i < n->p i=false:=fun i a b=>by
    rw [bK]; exact fun h=>hx ⟨i,a,b,h⟩
   have e:msk n (fun i=>p i && decide (k<=i))=0:=by
    have:msk n (fun _=>false)=0:=(Qdu (by have:=Nat.two_pow_pos n; omega) fun i _=>by simp).symm
    rw [<-this]
    exact X7 fun i hi=>by
     by_cases h:k<=i
     ·rw [hno i h hi]; rfl
     simp [h]
   have hIn:I n t:=by
    have:∀d,k+d<=n->I (k+d) t:=by
     intro d
     induction d with
     | zero=>intro _; exact hI
     | succ d ihd=>intro h; exact skip (k+d) t (by omega) (hno _ (by omega) (by omega)) (ihd (by omega))
    have h:=this (n - k) (by omega)
    rwa [show k+(n - k)=n by omega] at h
   obtain ⟨N,rfl⟩:∃M,N=M+1:=⟨N - 1,by omega⟩
   rw [e]
   obtain ⟨r,b1,b2⟩:=done t hIn
   refine ⟨r,?_,b2⟩
   show Qb (N+1) body (mkS 0 t)=_
   simp only [Qb,b1]
 have h:=key n fuel 0 t0 (by omega) (by show n < 1152921504606846976; omega) h0
 have e:msk n (fun i=>p i && decide (0<=i))=msk n p:=X7 fun i _=>by simp
 rwa [e] at h
abbrev Stp:=List (Af × Bool)
def vis (m:Stp) (v:Nat) (d:Bool):Bool:=(Y9 Am m ⟨(v:Int),d⟩).getD false
theorem Qu8 (a b:Af):Am a b=decide (a=b):=by
 obtain ⟨a1,a2⟩:=a; obtain ⟨b1,b2⟩:=b
 rw [aP]
 simp [Am]
theorem Q12 {m:Stp} {k k':Af} {v:Bool}:Y9 Am (kput Am m k v) k'=if k'=k then some v else Y9 Am m k':=by
 induction m with
 | nil=>simp only [kput,Y9,Qu8,aN]
 | cons p r ih =>
  simp only [kput]
  by_cases h:k=p.1
  ·rw [aH (by rw [Qu8]; exact cV h)]
   simp only [Y9,Qu8,aN]
   by_cases h2:k'=k
   ·rw [aH h2,aH h2]
   rw [aI h2,aI h2,aI (by rw [<-h]; exact h2)]
  rw [aI (by rw [Qu8]; simpa using h)]
  simp only [Y9,Qu8,aN]
  by_cases h2:k'=p.1
  ·rw [aH h2,aI (by rw [h2]; exact fun e=>h e.symm),aH h2]
  rw [aI h2,ih,aI h2]
theorem Q4p {m:Stp} {v u:Nat} {d e:Bool}:vis (kput Am m ⟨(v:Int),d⟩ true) u e=(vis m u e || (decide (u=v) && decide (e=d))):=by
 unfold vis
 rw [Q12]
 by_cases h:(⟨(u:Int),e⟩:Af)=⟨(v:Int),d⟩
 ·rw [aH h]
  simp only [Af.mk.injEq,cX] at h
  simp [h.1,h.2]
 rw [aI h]
 simp only [Af.mk.injEq,cX,not_and] at h
 by_cases h1:u=v
 ·simp [h1,h h1]
 simp [h1]
section
variable (n:Nat) (S:Nat -> Nat) (z az x:Nat)
def Suc (m:Stp) (u:Nat) (e:Bool):Prop :=
 (z.testBit u=false->∀c,c < n->(S c).testBit u=true->vis m c true=true)/\(e=false->z.testBit u=false->∀p,p < n->(S u).testBit p=true->vis m p false=true)/\(e=true->az.testBit u=true->∀p,p < n->(S u).testBit p=true->vis m p false=true)
structure DI (m:Stp) (r:Nat):Prop where
 rr:∀u,r.testBit u=true↔(u < n/\z.testBit u=false/\(vis m u true=true\/vis m u false=true))
 sd:∀u e,vis m u e=true->Rch S z az x u e
structure DE (m m':Stp):Prop where
 le:∀u e,vis m u e=true->vis m' u e=true
 new:∀u e,vis m' u e=true->vis m u e=false->Suc n S z az m' u e
def unv (m:Stp):Nat := cnt (2*n) fun k=>!vis m (k / 2) (k % 2==1)
variable {n S z az x}
theorem Suc.mono {m m':Stp} (h:∀u e,vis m u e=true->vis m' u e=true) {u:Nat} {e:Bool} (k:Suc n S z az m u e):Suc n S z az m' u e :=
 ⟨fun a c b d=>h _ _ (k.1 a c b d),fun a b p c d=>h _ _ (k.2.1 a b p c d),fun a b p c d=>h _ _ (k.2.2 a b p c d)⟩
theorem DE.refl {m:Stp}:DE n S z az m m:=⟨fun _ _ h=>h,fun u e h k=>by rw [h] at k; cases k⟩
theorem DE.trans {m m1 m2:Stp} (h:DE n S z az m m1) (k:DE n S z az m1 m2):DE n S z az m m2:=⟨fun u e a=>k.le u e (h.le u e a),fun u e a b=>by
 cases hv:vis m1 u e with
 | true=>exact (h.new u e hv b).mono k.le
 | false=>exact k.new u e a hv⟩
theorem Qtb {m m':Stp} (h:∀u e,vis m u e=true->vis m' u e=true):unv n m'<=unv n m:=Qkf fun k _ hk=>by
 cases hv:vis m (k / 2) (k % 2==1) with
 | true=>rw [h _ _ hv] at hk; cases hk
 | false=>rfl
theorem Q5u {m m':Stp} (h:∀u e,vis m u e=true->vis m' u e=true) {v:Nat} {d:Bool} (hv:v < n) (h0:vis m v d=false) (h1:vis m' v d=true):unv n m' < unv n m:=by
 have hk:2*v+d.toNat < 2*n:=by cases d <;> simp <;> omega
 have e1:(2*v+d.toNat) / 2=v:=by cases d <;> simp <;> omega
 have e2:((2*v+d.toNat) % 2==1)=d:=by cases d <;> simp <;> omega
 have e:=Qna (n:=2*n) (v:=2*v+d.toNat) (p:=fun k=>!vis m (k / 2) (k % 2==1)) hk (by rw [e1,e2,h0]; rfl)
 have:unv n m'<=cnt (2*n) (fun i=>!vis m (i / 2) (i % 2==1) && !decide (2*v+d.toNat = i)):=Qkf fun k _ hk=>by
  have hne:¬ 2*v+d.toNat = k:=fun e3=>by subst e3; rw [e1,e2,h1] at hk; cases hk
  cases hv2:vis m (k / 2) (k % 2==1) with
  | true=>rw [h _ _ hv2] at hk; cases hk
  | false=>simp [hne]
 unfold unv at *
 omega
def Qre (s:Int × Bool × Int × Stp) (y:Int × Stp):Prop:=∃v r':Nat,s.1=(v:Int)/\y.1=(r':Int)/\DI n S z az x y.2 r'/\DE n S z az s.2.2.2 y.2/\vis y.2 v s.2.1=true
def Qui (s:Int × Bool × Int × Stp):Prop:=∃v r:Nat,s.1=(v:Int)/\v < n/\s.2.2.1=(r:Int)/\DI n S z az x s.2.2.2 r/\Rch S z az x v s.2.1
theorem Qgt {D:Bool} {p:Nat -> Bool} (hn:n<=8) {M:Nat} {d:Int × Bool × Int × Stp->Option (Int × Stp)} (hd:∀s',Qui (n:=n) (S:=S) (z:=z) (az:=az) (x:=x) s'->unv n s'.2.2.2 < M->∃y,d s'=some y/\Qre (n:=n) (S:=S) (z:=z) (az:=az) (x:=x) s' y)
  {body:Int × Int × Stp->Option (Qe (Int × Int × Stp) (Int × Stp))}
  (hb:∀s,body s=if (s.1 != 0)=true then (Qv s.1).bind fun i=>(d (i,D,s.2.1,s.2.2)).bind fun y=>some (.next (zv (zb s.1 &&& zb (zv (s.1 - 1))).toNat,y.1,y.2)) else some (.done (s.2.1,s.2.2)))
  (hr:∀i,i < n->p i=true->Rch S z az x i D) {m0:Stp} {r0:Nat} (h0:DI n S z az x m0 r0) (hM:unv n m0 < M) :
  ∃y,Qb fuel body (((msk n p:Nat):Int),(r0:Int),m0)=some y/\∃r':Nat,y.1=(r':Int)/\DI n S z az x y.2 r'/\DE n S z az m0 y.2/\∀i,i < n->p i=true->vis y.2 i D=true:=by
 have h:=Q00 (n:=n) (by omega) (fun R (t:Int × Stp)=>(R,t.1,t.2)) (body:=body)
  (fun k t=>∃r:Nat,t.1=(r:Int)/\DI n S z az x t.2 r/\DE n S z az m0 t.2/\∀i,i < k->i < n->p i=true->vis t.2 i D=true)
  (fun y=>∃r':Nat,y.1=(r':Int)/\DI n S z az x y.2 r'/\DE n S z az m0 y.2/\∀i,i < n->p i=true->vis y.2 i D=true) p
  (fun i t R R' hi hp hI hR htz hrest=>by
   left
   obtain ⟨r,h1,h2,h3,h4⟩:=hI
   obtain ⟨y,g1,v,r',g2,g3,g4,g5,g6⟩:=hd ((i:Int),D,t.1,t.2) ⟨i,r,rfl,hi,h1,h2,hr i hi hp⟩ (bX (Qtb h3.le) hM)
   have hv:i=v:=cX.1 g2
   subst hv
   refine ⟨y,?_,r',g3,g4,h3.trans g5,fun j hj hjn hpj=>?_⟩
   ·rw [hb]
    dsimp only
    rw [aH hR,htz,aC,g1,aC,hrest]
   by_cases e:j=i
   ·subst e; exact g6
   exact g5.le _ _ (h4 j (by omega) hjn hpj))
  (fun i t hi hp hI=>by
   obtain ⟨r,h1,h2,h3,h4⟩:=hI
   refine ⟨r,h1,h2,h3,fun j hj hjn hpj=>?_⟩
   by_cases e:j=i
   ·subst e; rw [hp] at hpj; cases hpj
   exact h4 j (by omega) hjn hpj)
  (fun t hI=>by
   obtain ⟨r,h1,h2,h3,h4⟩:=hI
   refine ⟨t,?_,r,h1,h2,h3,fun i hi hp=>h4 i hi hi hp⟩
   rw [hb]
   dsimp only
   rw [aI (by decide)]) ((r0:Int),m0) ⟨r0,rfl,h0,.refl,fun i hi=>by omega⟩
 exact h
end
end Go.Ab
namespace Go.Ab
open Go
section
variable {n:Nat} {S:Nat -> Nat} {z x:Nat} (hn:n<=8) (hS:Gd n S) (hz:∀j,z.testBit j=true->j < n) (hx:∀j,x.testBit j=true->j < n)
def chN (n:Nat) (S:Nat -> Nat) (v:Nat):Nat := msk n fun c=>(S c).testBit v
abbrev grS (n:Nat) (S:Nat -> Nat):Qx:=⟨⟨Qf n S⟩,Qf n (chN n S)⟩
include hn hS hz hx
theorem Xe {a:Nat} (h:∀j,a.testBit j=true->j < n):a < 18446744073709551616:=by
 have:=Yd h
 have:(2:Nat)^n<=256:=aV (n:=2) (by omega) hn
 omega
theorem Qqh {v:Nat} (hv:v < n):(S v:Int)=((msk n (S v).testBit:Nat):Int):=by
 rw [<-Qdu (Yd (hS.inn v hv)) fun i _=>rfl]
theorem Q27 {j:Nat} (h:(anZ n S z).testBit j=true):j < n:=Qlb hS.inn hz h
theorem Q7s {d:Int × Bool × Int × Stp->Option (Int × Stp)} {s:Int × Bool × Int × Stp} (hI:Qui (n:=n) (S:=S) (z:=z) (az:=anZ n S z) (x:=x) s)
  (hd:∀s',Qui (n:=n) (S:=S) (z:=z) (az:=anZ n S z) (x:=x) s'->unv n s'.2.2.2 < unv n s.2.2.2->∃y,d s'=some y/\Qre (n:=n) (S:=S) (z:=z) (az:=anZ n S z) (x:=x) s' y) :
  ∃y,Zw (z:Int) (grS n S) ((anZ n S z:Nat):Int) d s=some y/\Qre (n:=n) (S:=S) (z:=z) (az:=anZ n S z) (x:=x) s y:=by
 obtain ⟨sv,D,sr,m⟩:=s
 obtain ⟨v,r,h1,hv,h2,hDI,hR⟩:=hI
 dsimp only at h1 h2 hDI hR hd
 subst h1; subst h2
 have z64:=Xe hn hS hz hx hz
 have az64:=Xe hn hS hz hx (fun j hj=>Q27 hn hS hz hx hj)
 have hch:(chN n S v:Int)=((msk n fun c=>(S c).testBit v:Nat):Int):=rfl
 have bitz:∀{a k:Nat},a < 18446744073709551616->k < 64->((zv (zb (Int.fdiv (a:Int) (2^min (Int.toNat (k:Int)) zk)) &&& zb 1).toNat)==0)=!a.testBit k:=fun {a k} ha hk=>by
  rw [Qf0 ha hk]; cases a.testBit k <;> rfl
 have bito:∀{a k:Nat},a < 18446744073709551616->k < 64->((zv (zb (Int.fdiv (a:Int) (2^min (Int.toNat (k:Int)) zk)) &&& zb 1).toNat)==1)=a.testBit k:=fun {a k} ha hk=>by
  rw [Qf0 ha hk]; cases a.testBit k <;> rfl
 unfold Zw
 dsimp only
 cases hvis:vis m v D with
 | true =>
  refine ⟨((r:Int),m),?_,v,r,rfl,rfl,hDI,.refl,hvis⟩
  have:(Y9 Am m ⟨(v:Int),D⟩).getD false=true:=hvis
  rw [aH this]
 | false =>
  have hnk:¬ (Y9 Am m ⟨(v:Int),D⟩).getD false=true:=by
   have:(Y9 Am m ⟨(v:Int),D⟩).getD false=false:=hvis
   rw [this]; decide
  rw [aI hnk,aH (Z2 v),bitz z64 (show v < 64 by omega)]
  generalize hm1:kput Am m ⟨(v:Int),D⟩ true=m1
  have hv1:∀u e,vis m1 u e=(vis m u e || (decide (u=v) && decide (e=D))):=fun u e=>by rw [<-hm1]; exact Q4p
  have le1:∀u e,vis m u e=true->vis m1 u e=true:=fun u e h=>by rw [hv1,h]; rfl
  have hself:vis m1 v D=true:=by rw [hv1]; simp
  have hunv:unv n m1 < unv n m:=Q5u le1 hv hvis hself
  have sd1:∀u e,vis m1 u e=true->Rch S z (anZ n S z) x u e:=fun u e h=>by
   rw [hv1,aM,aE] at h
   rcases h with h | ⟨h3,h4⟩
   ·exact hDI.sd u e h
   rw [aQ h3,aQ h4]; exact hR
  have fin:∀{m2:Stp} {r2:Nat},DI n S z (anZ n S z) x m2 r2->DE n S z (anZ n S z) m1 m2->Suc n S z (anZ n S z) m2 v D->Qre (n:=n) (S:=S) (z:=z) (az:=anZ n S z) (x:=x) ((v:Int),D,(r:Int),m) ((r2:Int),m2):=fun {m2 r2} g1 g2 g3=>by
   refine ⟨v,r2,rfl,rfl,g1,⟨fun u e h=>g2.le u e (le1 u e h),fun u e h k=>?_⟩,g2.le _ _ hself⟩
   cases hu:vis m1 u e with
   | true =>
    rw [hv1,k,Bool.false_or,aE] at hu
    rw [aQ hu.1,aQ hu.2]
    exact g3
   | false=>exact g2.new u e h hu
  cases hvz:z.testBit v with
  | false =>
   rw [aH (by decide),aH (Z2 v),Zk hv,aC,hch]
   have hr64:r < 18446744073709551616:=Xe hn hS hz hx fun j hj=>((hDI.rr j).1 hj).1
   rw [Qri (show v < 64 by omega),Jc hr64 (Qpl (by omega))]
   have hDI1:DI n S z (anZ n S z) x m1 (r ||| 2^v):=⟨fun u=>by
    rw [bH,J8,aM,hDI.rr u,hv1,hv1]
    constructor
    ·rintro (⟨g1,g2,g3⟩ | g)
     ·refine ⟨g1,g2,?_⟩
      rcases g3 with g3 | g3
      ·left; rw [g3]; rfl
      right; rw [g3]; rfl
     have:=aQ g
     subst this
     refine ⟨hv,hvz,?_⟩
     cases D with
     | true=>left; simp
     | false=>right; simp
    rintro ⟨g1,g2,g3⟩
    by_cases e:v=u
    ·right; simp [e]
    have e':¬ u=v:=fun h=>e h.symm
    left
    refine ⟨g1,g2,?_⟩
    simp only [e',decide_false,Bool.false_and,Bool.or_false] at g3
    exact g3,sd1⟩
   obtain ⟨y1,w1,r1,e1,g1,g2,g3⟩:=Qgt (D:=true) (p:=fun c=>(S c).testBit v) hn (M:=unv n m) hd (body:=Qaz d) (fun s=>rfl) (fun i _ hp=>.dn hR hvz hp) hDI1 hunv
   rw [w1,aC]
   have hs1:z.testBit v=false->∀c,c < n->(S c).testBit v=true->vis y1.2 c true=true:=fun _ c hc hb=>g3 c hc hb
   cases hD:D with
   | true =>
    rw [aH rfl,aH (Z2 v),bitz az64 (show v < 64 by omega)]
    cases haz:(anZ n S z).testBit v with
    | false =>
     rw [aH (by decide)]
     refine ⟨_,rfl,?_⟩
     have:=fin g1 g2 ⟨hs1,fun e=>(by rw [hD] at e; cases e),fun _ e=>(by rw [haz] at e; cases e)⟩
     rw [hD] at this
     rw [e1]; exact this
    | true =>
     rw [aI (by decide),Zk hv,aC,Qqh hn hS hz hx hv,e1]
     obtain ⟨y2,w2,r2,e2,k1,k2,k3⟩:=Qgt (D:=false) (p:=(S v).testBit) hn (M:=unv n m) hd (body:=Qa4 d) (fun s=>rfl) (fun i _ hp=>.turn (by rw [<-hD]; exact hR) haz hp) g1 (bX (Qtb g2.le) hunv)
     rw [w2,aC]
     refine ⟨_,rfl,?_⟩
     have:=fin k1 (g2.trans k2) ⟨fun a c hc hb=>k2.le _ _ (hs1 a c hc hb),fun e=>(by rw [hD] at e; cases e),fun _ _ p hp hb=>k3 p hp hb⟩
     rw [hD] at this
     rw [e2]; exact this
   | false =>
    rw [aI (by decide),aH (Z2 v),bito z64 (show v < 64 by omega),hvz,aI (by decide),Zk hv,aC,Qqh hn hS hz hx hv,e1]
    obtain ⟨y2,w2,r2,e2,k1,k2,k3⟩:=Qgt (D:=false) (p:=(S v).testBit) hn (M:=unv n m) hd (body:=Qa6 d) (fun s=>rfl) (fun i _ hp=>.up (by rw [<-hD]; exact hR) hvz hp) g1 (bX (Qtb g2.le) hunv)
    rw [w2,aC]
    refine ⟨_,rfl,?_⟩
    have:=fin k1 (g2.trans k2) ⟨fun a c hc hb=>k2.le _ _ (hs1 a c hc hb),fun _ _ p hp hb=>k3 p hp hb,fun e=>(by rw [hD] at e; cases e)⟩
    rw [hD] at this
    rw [e2]; exact this
  | true =>
   rw [aI (by decide)]
   have hDI1:DI n S z (anZ n S z) x m1 r:=⟨fun u=>by
    rw [hDI.rr u,hv1,hv1]
    constructor
    ·rintro ⟨g1,g2,g3⟩
     refine ⟨g1,g2,?_⟩
     rcases g3 with g3 | g3
     ·left; rw [g3]; rfl
     right; rw [g3]; rfl
    rintro ⟨g1,g2,g3⟩
    have e':¬ u=v:=fun h=>by subst h; rw [hvz] at g2; cases g2
    refine ⟨g1,g2,?_⟩
    simp only [e',decide_false,Bool.false_and,Bool.or_false] at g3
    exact g3,sd1⟩
   have hs1:z.testBit v=false->False:=fun e=>by rw [hvz] at e; cases e
   cases hD:D with
   | true =>
    rw [aH rfl,aH (Z2 v),bitz az64 (show v < 64 by omega)]
    have haz:(anZ n S z).testBit v=true:=Vy n v hvz
    rw [haz,aI (by decide),Zk hv,aC,Qqh hn hS hz hx hv]
    obtain ⟨y2,w2,r2,e2,k1,k2,k3⟩:=Qgt (D:=false) (p:=(S v).testBit) hn (M:=unv n m) hd (body:=Qa1 d) (fun s=>rfl) (fun i _ hp=>.turn (by rw [<-hD]; exact hR) haz hp) hDI1 hunv
    rw [w2,aC]
    refine ⟨_,rfl,?_⟩
    have:=fin k1 k2 ⟨fun a=>(hs1 a).elim,fun e=>(by rw [hD] at e; cases e),fun _ _ p hp hb=>k3 p hp hb⟩
    rw [hD] at this
    rw [e2]; exact this
   | false =>
    rw [aI (by decide),aH (Z2 v),bito z64 (show v < 64 by omega),hvz,aH rfl]
    refine ⟨_,rfl,?_⟩
    have:=fin hDI1 .refl ⟨fun a=>(hs1 a).elim,fun _ a=>(hs1 a).elim,fun e=>(by rw [hD] at e; cases e)⟩
    rw [hD] at this
    exact this
theorem Q1o:Qb fuel (Xl (grS n S)) (0,(z:Int))=some ((anZ n S z:Nat):Int):=by
 have hlen:(Qf n S).length=n:=Qp
 have hfull:=Qcx n hS.inn
 have hs0:Zi z (2^n - 1):=fun j hj=>by rw [bD]; simpa using hz j hj
 have hlt:∀{t:Nat},Zi t (2^n - 1)->t < 18446744073709551616:=fun h=>Xe hn hS hz hx fun j hj=>by have:=h j hj; rw [bD] at this; simpa using this
 have inner:∀t,Zi t (2^n - 1)->Qb fuel (Xk (grS n S)) ((0:Int),(t:Int))=some ((upR n S t:Nat):Int):=fun t ht=>by
  have h:=Zf (n:=n) (k0:=0) (by omega) (by omega) (fun i (x:Int)=>(i,x)) (body:=Xk (grS n S)) (fun k=>(((List.range k).foldl (upV S) t:Nat):Int)) ((upR n S t:Nat):Int)
   (fun k _ hk=>by
    have hsub:=Qiv (S:=S) (T:=2^n - 1) (List.range k) t (fun v hv=>hfull v (by have:=cR.1 hv; omega)) ht
    unfold Xk
    dsimp only
    rw [hlen,aH (dlt hk),Zk hk,aC,aH (Z2 k),Qf0 (hlt hsub) (by omega),List.range_succ,List.foldl_append]
    simp only [List.foldl_cons,List.foldl_nil]
    generalize (List.range k).foldl (upV S) t=q at *
    unfold upV
    cases c:q.testBit k with
    | true =>
     rw [aH (by rfl),aH rfl,Jc (hlt hsub) (Xe hn hS hz hx (hS.inn k hk))]
    | false=>rw [aI (by decide),aI (by decide)])
   (by unfold Xk; dsimp only; rw [hlen,aI (nlt n)]; rfl)
  rw [show ((0:Nat):Int)=0 from rfl] at h
  exact h
 have h:=Zf (n:=n) (k0:=0) (by omega) (by omega) (fun i (x:Int)=>(i,x)) (body:=Xl (grS n S)) (fun k=>((ups n S k z:Nat):Int)) ((ups n S n z:Nat):Int)
  (fun k _ hk=>by
   unfold Xl
   dsimp only
   rw [hlen,aH (dlt hk),inner _ (X2 hfull hs0 k)]; rfl)
  (by unfold Xl; dsimp only; rw [hlen,aI (nlt n)])
 rw [show ((0:Nat):Int)=0 from rfl] at h
 exact h
theorem Qyt:∃r:Nat,Vm (grS n S) (x:Int) (z:Int)=some (r:Int)/\∀u,r.testBit u=true↔(u < n/\z.testBit u=false/\∃d,Rch S z (anZ n S z) x u d):=by
 have hzero:DI n S z (anZ n S z) x ([]:Stp) 0:=⟨fun u=>by simp [vis,Y9],fun u e h=>by simp [vis,Y9] at h⟩
 have hpx:(x:Int)=((msk n x.testBit:Nat):Int):=by rw [<-Qdu (Yd hx) fun i _=>rfl]
 have hrec:∀s,Qui (n:=n) (S:=S) (z:=z) (az:=anZ n S z) (x:=x) s->∃y,Qfj (Zw (z:Int) (grS n S) ((anZ n S z:Nat):Int)) fuel s=some y/\Qre (n:=n) (S:=S) (z:=z) (az:=anZ n S z) (x:=x) s y:=fun s hs =>
  Qr1 (F:=Zw (z:Int) (grS n S) ((anZ n S z:Nat):Int)) (Qui (n:=n) (S:=S) (z:=z) (az:=anZ n S z) (x:=x)) (fun s=>unv n s.2.2.2) (Qre (n:=n) (S:=S) (z:=z) (az:=anZ n S z) (x:=x))
   (fun d s hs hd=>Q7s hn hS hz hx hs hd) fuel s hs (by
    have:unv n s.2.2.2<=2*n:=Qpt _ _
    show unv n s.2.2.2 < fuel
    unfold fuel; omega)
 obtain ⟨y,w,r,e1,g1,g2,g3⟩:=Qgt (S:=S) (z:=z) (az:=anZ n S z) (x:=x) (D:=false) (p:=x.testBit) hn (M:=unv n ([]:Stp)+1) (d:=Qfj (Zw (z:Int) (grS n S) ((anZ n S z:Nat):Int)) fuel) (fun s' hs' _=>hrec s' hs')
  (body:=Qa3 (z:Int) (grS n S) ((anZ n S z:Nat):Int)) (fun s=>rfl) (fun i _ hp=>.start hp) hzero (by omega)
 refine ⟨r,?_,fun u=>?_⟩
 ·unfold Vm
  rw [Q1o hn hS hz hx,aC,hpx]
  rw [show ((0:Nat):Int)=0 from rfl] at w
  rw [w,aC,e1]
 rw [g1.rr u]
 constructor
 ·rintro ⟨h1,h2,h3⟩
  refine ⟨h1,h2,?_⟩
  rcases h3 with h3 | h3
  ·exact ⟨_,g1.sd u true h3⟩
  exact ⟨_,g1.sd u false h3⟩
 rintro ⟨h1,h2,d,h3⟩
 refine ⟨h1,h2,?_⟩
 have hall:∀u e,Rch S z (anZ n S z) x u e->u < n->vis y.2 u e=true:=fun u e h=>by
  have hsuc:∀u e,vis y.2 u e=true->Suc n S z (anZ n S z) y.2 u e:=fun u e h=>g2.new u e h (by simp [vis,Y9])
  have key:(vis y.2 u e=true/\u < n)\/(n<=u/\e=true):=by
   induction h with
   | start h=>exact .inl ⟨g3 _ (hx _ h) h,hx _ h⟩
   | @up v p hr hv hp ih =>
    rcases ih with ⟨ih,hvn⟩ | ⟨_,ih⟩
    ·have hpn:=hS.inn v hvn p hp
     exact .inl ⟨(hsuc v false ih).2.1 rfl hv p hpn hp,hpn⟩
    cases ih
   | @dn v c d hr hv hc ih =>
    by_cases hcn:c < n
    ·have hvn:=hS.inn c hcn v hc
     rcases ih with ⟨ih,_⟩ | ⟨ih,_⟩
     ·exact .inl ⟨(hsuc v d ih).1 hv c hcn hc,hcn⟩
     omega
    exact .inr ⟨by omega,rfl⟩
   | @turn v p hr hv hp ih =>
    have hvn:=Q27 hn hS hz hx hv
    rcases ih with ⟨ih,_⟩ | ⟨ih,_⟩
    ·have hpn:=hS.inn v hvn p hp
     exact .inl ⟨(hsuc v true ih).2.2 rfl hv p hpn hp,hpn⟩
    omega
  intro hu
  rcases key with h | h
  ·exact h.1
  omega
 cases d with
 | true=>exact .inl (hall u true h3 h1)
 | false=>exact .inr (hall u false h3 h1)
end
end Go.Ab
namespace Go.Ab
open Go
section
variable {n:Nat} {S:Nat -> Nat} (hn1:1<=n) (hn:n<=8) (hS:Gd n S)
theorem Q5r {b:Bool} {i:Nat} (hi:i < 64):zv ((b.toNat : Int)*2^min (Int.toNat (i:Int)) zk)=(((if b=true then 2^i else 0:Nat)):Int):=by
 cases b with
 | true=>exact Qri hi
 | false=>simp; rfl
def chP (n:Nat) (S:Nat -> Nat) (i p u:Nat):Nat := msk n fun c=>(decide (c < i) || (decide (c=i) && decide (u < p))) && (S c).testBit u
include hn hS
theorem Q41 {i p u:Nat}:chP n S i p u < 18446744073709551616:=by
 have:=Qin n fun c=>(decide (c < i) || (decide (c=i) && decide (u < p))) && (S c).testBit u
 have:(2:Nat)^n<=256:=aV (n:=2) (by omega) hn
 unfold chP; omega
theorem Q1c {i p:Nat} (hi:i < n) (u:Nat):(if u=p then chP n S i p p ||| (if (S i).testBit p=true then 2^i else 0) else chP n S i p u)=chP n S i (p+1) u:=by
 by_cases e:u=p
 ·subst e
  rw [aH rfl]
  apply dU
  intro c
  unfold chP
  rw [bH,Q6,Q6]
  by_cases h:c=i
  ·subst h
   cases hb:(S c).testBit u <;> simp [hi,hb,J8]
  have h':¬ i=c:=fun e=>h e.symm
  cases hb:(S i).testBit u <;> simp [h,h',J8]
 rw [aI e]
 unfold chP
 refine X7 fun c _=>?_
 have:decide (u < p+1)=decide (u < p):=by rw [aP]; simp; omega
 rw [this]
theorem Qzc:Qb fuel (Vw (Qf n S)) (0,List.replicate n (0:Int))=some (.inr (Qf n (chN n S))):=by
 have hlen:(Qf n S).length=n:=Qp
 have h64:=Q6d hn hS
 have inner:∀i,i < n->∀s:Int × List Int,s.1=(i:Int)->Qb fuel (V2 (Qf n S) s (S i:Int)) (0,Qf n (chP n S i 0))=some (Qf n (chP n S i n)):=fun i hi s hs=>by
  have h:=Zf (n:=n) (k0:=0) (by omega) (by omega) (fun i (x:List Int)=>(i,x)) (body:=V2 (Qf n S) s (S i:Int)) (fun p=>Qf n (chP n S i p)) (Qf n (chP n S i n))
   (fun p _ hp=>by
    unfold V2
    dsimp only
    rw [hlen,aH (dlt hp),Zk hp,aC,aH (Z2 p),hs,aH (Z2 i),Qf0 (h64 i hi) (by omega),Q5r (by omega),Jc (Q41 hn hS) (by
     split
     ·exact Qpl (by omega)
     omega),aR,Qkq]
    refine congrArg (fun F=>some (Qe.next (zw ((p:Int)+1),Qf n F))) ?_
    funext u
    exact Q1c hn hS hi u)
   (by unfold V2; dsimp only; rw [hlen,aI (nlt n)])
  rw [show ((0:Nat):Int)=0 from rfl] at h
  exact h
 have hz:List.replicate n (0:Int)=Qf n (chP n S 0 0):=by
  have e:∀u,chP n S 0 0 u=0:=fun u=>by
   unfold chP
   have:(msk n fun c=>(decide (c < 0) || (decide (c=0) && decide (u < 0))) && (S c).testBit u)=msk n fun _=>false:=X7 fun c _=>by simp
   rw [this]
   have:∀m,msk m (fun _=>false)=0:=fun m=>by
    induction m with
    | zero=>rfl
    | succ m ih=>simp [msk,ih]
   exact this n
  apply List.ext_getElem
  ·simp [Qf,rowG]
  intro k h1 h2
  simp [Qf,rowG,e]
 have h:=Zf (n:=n) (k0:=0) (by omega) (by omega) (fun i (x:List Int)=>(i,x)) (body:=Vw (Qf n S)) (fun k=>Qf n (chP n S k 0)) (.inr (Qf n (chN n S)))
  (fun i _ hi=>by
   unfold Vw
   dsimp only
   rw [hlen,aH (dlt hi),Zk hi,aC,aH (Z2 n),Qc8 (by omega),aI (by
    have:=Yd (hS.inn i hi)
    simpa using this),inner i hi _ rfl,aC]
   refine congrArg (fun F=>some (Qe.next (zw ((i:Int)+1),Qf n F))) ?_
   funext u
   unfold chP
   refine X7 fun c _=>?_
   by_cases hc:c < i
   ·have:c < i+1:=by omega
    simp [hc,this]
   by_cases hc2:c=i
   ·subst hc2
    cases hb:(S c).testBit u with
    | true=>have:=hS.inn c hi u hb; simp [this]
    | false=>simp
   have:¬ c < i+1:=by omega
   simp [hc,hc2,this])
  (by
   unfold Vw
   dsimp only
   rw [hlen,aI (nlt n)]
   refine congrArg (fun F=>some (Qe.done (Sum.inr (Qf n F)))) ?_
   funext u
   unfold chP chN
   refine X7 fun c hc=>?_
   simp [hc])
 rw [show ((0:Nat):Int)=0 from rfl,<-hz] at h
 exact h
theorem Qw0:Qb fuel (Vx (Qf n S)) (0,0)=some (.inr ()):=by
 have hlen:(Qf n S).length=n:=Qp
 have h64:=Q6d hn hS
 obtain ⟨r,hr⟩:=Q3g hS
 have p64:∀{P:Nat},(∀j,P.testBit j=true->j < n)->P < 18446744073709551616:=fun h=>by
  have:=Yd h
  have:(2:Nat)^n<=256:=aV (n:=2) (by omega) hn
  omega
 have h:=Qee (n:=n) (k0:=0) (by omega) (by omega) (fun i (x:Int)=>(x,i)) (body:=Vx (Qf n S)) (fun k x=>∃P:Nat,x=(P:Int)/\(∀j,P.testBit j=true->j < n)/\cnt n P.testBit=k) (fun r=>r=.inr ())
  (fun k x _ hk hI=>by
   left
   obtain ⟨P,rfl,hP,hc⟩:=hI
   have hex:∃v,v < n/\P.testBit v=false/\Zi (S v) P:=by
    have hun:∃v,v < n/\P.testBit v=false:=by
     apply Classical.byContradiction
     intro hno
     have:cnt n P.testBit=cnt n (fun _=>true):=Qhp fun i hi=>by
      cases hb:P.testBit i with
      | true=>rfl
      | false=>exact absurd ⟨i,hi,hb⟩ hno
     have hall:∀m,cnt m (fun _=>true)=m:=fun m=>by
      induction m with
      | zero=>rfl
      | succ m ih=>simp [cnt,ih]
     rw [hall] at this; omega
    have key:∀c v,v < n->P.testBit v=false->r v=c->∃v,v < n/\P.testBit v=false/\Zi (S v) P:=by
     intro c
     induction c using Nat.strongRecOn with
     | _ c ih =>
      intro v hv hb hc
      by_cases hs:Zi (S v) P
      ·exact ⟨v,hv,hb,hs⟩
      obtain ⟨j,hj,hjp⟩:∃j,(S v).testBit j=true/\P.testBit j=false:=by
       apply Classical.byContradiction
       intro hno
       refine hs fun j hj=>?_
       cases hb2:P.testBit j with
       | true=>rfl
       | false=>exact absurd ⟨j,hj,hb2⟩ hno
      have:=hr v hv j hj
      exact ih (r j) (by omega) j (hS.inn v hv j hj) hjp rfl
    obtain ⟨v,hv,hb⟩:=hun
    exact key _ v hv hb rfl
   have hl:=Qee (n:=n) (k0:=0) (by omega) (by omega) (fun i (_:Unit)=>i) (body:=Kn (Qf n S) ((P:Int),(k:Int))) (fun k _=>∀v,v < k->¬ (P.testBit v=false/\Zi (S v) P)) (fun r=>∃v,v < n/\P.testBit v=false/\r=.inl ((P ||| 2^v:Nat):Int))
    (fun v _ _ hv hI=>by
     have e:Kn (Qf n S) ((P:Int),(k:Int)) (v:Int)=if P.testBit v=false/\Qnr (S v) P=true then some (.done (.inl ((P ||| 2^v:Nat):Int))) else some (.next (zw ((v:Int)+1))):=by
      unfold Kn
      dsimp only
      rw [hlen,aH (dlt hv),Zk hv,aC,aH (Z2 v),Qf0 (p64 hP) (by omega),Q4z (h64 v hv) (p64 hP)]
      cases hb:P.testBit v with
      | true=>simp
      | false =>
       rw [aH (by rfl)]
       cases hsb:Qnr (S v) P with
       | true =>
        rw [aH rfl,aH (Z2 v),Qri (by omega),Jc (p64 hP) (Qpl (by omega)),aH ⟨rfl,rfl⟩]
       | false=>simp
     by_cases hg:P.testBit v=false/\Qnr (S v) P=true
     ·right
      exact ⟨_,by rw [e,aH hg],v,hv,hg.1,rfl⟩
     left
     refine ⟨(),by rw [e,aI hg],fun w hw hg2=>?_⟩
     by_cases e2:w=v
     ·subst e2; exact hg ⟨hg2.1,Qkp.2 hg2.2⟩
     exact hI w (by omega) hg2)
    (fun _ hI=>by
     obtain ⟨v,h1,h2,h3⟩:=hex
     exact absurd ⟨h2,h3⟩ (hI v h1)) () (fun v hv=>by omega)
   obtain ⟨y,h1,v,hv,hb,rfl⟩:=hl
   rw [show ((0:Nat):Int)=0 from rfl] at h1
   refine ⟨((P ||| 2^v:Nat):Int),?_,P ||| 2^v,rfl,fun j hj=>?_,?_⟩
   ·unfold Vx
    dsimp only
    rw [hlen,aH (dlt hk),h1]; rfl
   ·rw [bH,J8,aM] at hj
    rcases hj with hj | hj
    ·exact hP j hj
    have:=aQ hj; omega
   have e:=Qna (n:=n) (v:=v) (p:=(P ||| 2^v).testBit) hv (by rw [bH,J8]; simp)
   rw [<-e]
   congr 1
   rw [<-hc]
   refine Qhp fun i _=>?_
   rw [bH,J8]
   by_cases e2:v=i
   ·subst e2; simp [hb]
   simp [e2])
  (fun x _=>⟨_,by unfold Vx; dsimp only; rw [hlen,aI (nlt n)],rfl⟩) 0 ⟨0,rfl,fun j hj=>by simp at hj,by
   have:∀m,cnt m (0:Nat).testBit=0:=fun m=>Q2d fun i _=>Nat.zero_testBit i
   exact this n⟩
 obtain ⟨y,h1,rfl⟩:=h
 exact h1
include hn1
theorem Q05:Qa0 (Qf n S)=some (grS n S,0):=by
 have hlen:(Qf n S).length=n:=Qp
 unfold Qa0
 rw [hlen,aI (by simp; omega),aI (by simp; omega),aH (by omega),aR,Qzc hn hS,aC]
 dsimp only
 rw [Qw0 hn hS,aC]
theorem Qnu {a b:Nat} (ha:a < 18446744073709551616) (hb:b < 18446744073709551616):((zv (zb (a:Int) &&& zb (b:Int)).toNat)==0)=(a &&& b==0):=by
 rw [BitVec.toNat_and,Vv ha,Vv hb,Yn (bX Nat.and_le_left ha)]
 rw [aP,dE,dE]
 exact ⟨fun h=>by exact_mod_cast h,fun h=>by rw [h]; rfl⟩
theorem Qq7 {a b:Nat}:(a &&& b==0)=true↔∀j,¬ (a.testBit j=true/\b.testBit j=true):=by
 rw [dE]
 constructor
 ·intro h j ⟨h1,h2⟩
  have:(a &&& b).testBit j=false:=by rw [h]; exact Nat.zero_testBit j
  rw [Nat.testBit_and,h1,h2] at this; cases this
 intro h
 apply dU
 intro j
 rw [Nat.testBit_and,Nat.zero_testBit,bK]
 intro hb
 rw [aE] at hb
 exact h j hb
variable {x y z:Nat} (hx:∀j,x.testBit j=true->j < n) (hy:∀j,y.testBit j=true->j < n) (hxy:∀j,¬ (y.testBit j=true/\x.testBit j=true)) (hz:∀j,z.testBit j=true->j < n) (hxz:∀j,x.testBit j=true->z.testBit j=false) (hyz:∀j,y.testBit j=true->z.testBit j=false)
include hx hy hxy hz hxz hyz
theorem Quk:Yu (grS n S) [(x:Int),(y:Int),(z:Int)]=some true:=by
 have hlen:(Qf n S).length=n:=Qp
 have z64:=Xe hn hS hz hx hz
 have x64:=Xe hn hS hz hx hx
 have y64:=Xe hn hS hz hx hy
 have ltx:=Yd hx
 have lty:=Yd hy
 have ltz:z < 2^n:=Yd hz
 have h:=Zf (n:=3) (k0:=0) (by omega) (by omega) (fun i (t:Int)=>(t,i)) (body:=Z4 [(x:Int),(y:Int),(z:Int)] (grS n S))
  (fun k=>((match k with | 0=>0 | 1=>x | 2=>x ||| y | _=>x ||| y ||| z:Nat):Int)) (Sum.inr ())
  (fun k _ hk=>by
   unfold Z4
   dsimp only
   rw [aH (cV (by simp; omega))]
   have hnz:∀{a b:Nat},a < 18446744073709551616->b < 18446744073709551616->(∀j,¬ (a.testBit j=true/\b.testBit j=true))->¬ ((zv (zb (a:Int) &&& zb (b:Int)).toNat) != 0)=true:=fun {a b} ha hb h=>by
    have:=Qnu hn1 hn hS ha hb
    rw [(Qq7 hn1 hn hS).2 h] at this
    rw [bne,this]; decide
   match k,hk with
   | 0,_ =>
    rw [Q0 (by simp),aC]
    simp only [List.getElem_cons_zero,List.getElem_cons_succ]
    rw [hlen,aH (Z2 n),Qc8 (by omega),aI (by simpa using ltx)]
    rw [aI (hnz x64 (show 0 < 18446744073709551616 by omega) (fun j h=>by simp at h)),Jc (show 0 < 18446744073709551616 by omega) x64,Nat.zero_or]
   | 1,_ =>
    rw [Q0 (by simp),aC]
    simp only [List.getElem_cons_zero,List.getElem_cons_succ]
    rw [hlen,aH (Z2 n),Qc8 (by omega),aI (by simpa using lty)]
    rw [aI (hnz y64 x64 hxy),Jc x64 y64]
   | 2,_ =>
    rw [Q0 (by simp),aC]
    simp only [List.getElem_cons_zero,List.getElem_cons_succ]
    rw [hlen,aH (Z2 n),Qc8 (by omega),aI (by simpa using ltz)]
    rw [aI (hnz z64 (dZ (n:=64) x64 y64) (fun j h=>by
     rw [bH,aM] at h
     rcases h.2 with e | e
     ·rw [hxz j e] at h; cases h.1
     rw [hyz j e] at h; cases h.1)),Jc (dZ (n:=64) x64 y64) z64])
  (by unfold Z4; dsimp only; rw [aI (by simp)])
 rw [show ((0:Nat):Int)=0 from rfl] at h
 unfold Yu
 have h':Qb fuel (Z4 [(x:Int),(y:Int),(z:Int)] (grS n S)) (0,0)=some (Sum.inr ()):=h
 rw [h']; rfl
theorem Qyz:∃b,Xs (Qf n S) (x:Int) (y:Int) (z:Int)=some (b,0)/\(b=true↔¬ ∃u,y.testBit u=true/\(Qbv n S x y z).testBit u=true):=by
 obtain ⟨r,h1,h2⟩:=Qyt (x:=x) (z:=z) hn hS hz hx
 unfold Xs
 rw [Q05 hn1 hn hS,aC]
 dsimp only
 rw [aI (by decide)]
 rw [Quk hn1 hn hS hx hy hxy hz hxz hyz,aC,aI (by decide),h1,aC]
 have r64:r < 18446744073709551616:=Xe hn hS hz hx fun j hj=>((h2 j).1 hj).1
 rw [Qnu hn1 hn hS r64 (Xe hn hS hz hx hy)]
 refine ⟨_,rfl,?_⟩
 rw [Qq7 hn1 hn hS,Q34 (x:=x) (y:=y) hS hz hx hy hxz hyz]
 constructor
 ·rintro h ⟨u,d,hu,hd⟩
  exact h u ⟨(h2 u).2 ⟨hy u hu,hyz u hu,d,hd⟩,hu⟩
 rintro h j ⟨g1,g2⟩
 obtain ⟨_,_,d,hd⟩:=(h2 j).1 g1
 exact h ⟨j,d,g2,hd⟩
end
end Go.Ab
namespace Go.Ab
open Go
def mgB (n:Nat) (S:Nat -> Nat) (u w:Nat):Bool:=!decide (u=w) && ((S u).testBit w || (S w).testBit u || (List.range n).any fun v=>(S v).testBit u && (S v).testBit w)
theorem Qj4 {n:Nat} {S:Nat -> Nat} {a b:Nat} (hne:a≠b):mgB n S a b=true↔(S a).testBit b=true\/(S b).testBit a=true\/∃v,v < n/\(S v).testBit a=true/\(S v).testBit b=true:=by
 unfold mgB
 simp only [hne,decide_false,Bool.not_false,dY,aM,bR,cR,aE,or_assoc]
theorem Qu6 {n:Nat} {L:List Int} (hL:L.length=n) (hn:n<=8):Qb fuel (Jw L) 0=some ():=by
 have h:=Zf (n:=n) (k0:=0) (by omega) (by omega) (fun i (_:Unit)=>i) (body:=Jw L) (fun _=>()) ()
  (fun k _ hk=>by unfold Jw; rw [hL,aH (dlt hk)])
  (by unfold Jw; rw [hL,aI (nlt n)])
 exact h
def gr (n:Nat) (A:Nat -> Nat -> Bool):List Int:=Qf n fun u=>msk n (A u)
theorem Qo7 {n:Nat} {A:Nat -> Nat -> Bool}:(gr n A).length=n:=Qp
theorem Qx3 {n a:Nat} {A:Nat -> Nat -> Bool} (h:a < n):lkI (gr n A) (a:Int)=some ((msk n (A a):Nat):Int):=Zk h
theorem Qkt {n:Nat} {A B:Nat -> Nat -> Bool} (h:∀u w,u < n->w < n->A u w=B u w):gr n A=gr n B:=Qq fun u hu=>by
 show ((msk n (A u):Nat):Int)=((msk n (B u):Nat):Int)
 rw [X7 fun w hw=>h u w hu hw]
theorem Q61 {n a:Nat} {A B:Nat -> Nat -> Bool} {q:Nat -> Bool} (h:∀u w,u < n->w < n->(if u=a then q w else A u w)=B u w):(gr n A).set (Int.toNat (a:Int)) ((msk n q:Nat):Int)=gr n B:=by
 unfold gr
 rw [aR,Qkq]
 refine Qq fun u hu=>?_
 unfold Qdt
 show (((if u=a then msk n q else msk n (A u)):Nat):Int)=((msk n (B u):Nat):Int)
 split
 ·rename_i e; exact congrArg Nat.cast (X7 (p:=q) (q:=B u) fun w hw=>by have:=h u w hu hw; rwa [aH e] at this)
 rename_i e; exact congrArg Nat.cast (X7 (p:=A u) (q:=B u) fun w hw=>by have:=h u w hu hw; rwa [aI e] at this)
section
variable {n:Nat} {S:Nat -> Nat} (h1:1<=n) (hn:n<=8) (hS:∀v,v < n->∀j,(S v).testBit j=true->j < n) (hq:∀v,v < n->(S v).testBit v=false)
include h1 hn hS hq
theorem Qoq {v j:Nat} (hv:v < n) (hj:j < n):Xm (S v:Int) (j:Int)=some ((S v).testBit j):=by
 have:=Yd (hS v hv)
 have h2:(2:Nat)^n<=256:=aV (n:=2) (by omega) hn
 exact Qho (by omega) (by omega)
theorem Q1s (a b:Nat) (X Y:List Int) (x:Bool) (ha:a < n) (hb:b < n) :
  ∃y,Qb fuel (Jz (Qf n S) ((a:Int),X) ((b:Int),Y)) (x,(0:Int))=some y/\(y=true↔x=true\/∃v,v < n/\(S v).testBit a=true/\(S v).testBit b=true):=by
 have h:=Qee (n:=n) (k0:=0) (by omega) (by omega) (fun i (t:Bool)=>(t,i)) (body:=Jz (Qf n S) ((a:Int),X) ((b:Int),Y)) (fun k t=>t=true↔x=true\/∃v,v < k/\(S v).testBit a=true/\(S v).testBit b=true) (fun y=>y=true↔x=true\/∃v,v < n/\(S v).testBit a=true/\(S v).testBit b=true)
  (fun k t _ hk hI=>by
   left
   unfold Jz
   dsimp only
   rw [Qp,aH (dlt hk)]
   by_cases c:t=true
   ·rw [aH c]
    refine ⟨true,rfl,by
     simp only [true_iff]
     rcases hI.1 c with h | ⟨v,hv,h⟩
     ·exact .inl h
     exact .inr ⟨v,by omega,h⟩⟩
   rw [aI c,Zk hk,aC,Qoq h1 hn hS hq hk ha,aC]
   have hno:¬ (x=true\/∃v,v < k/\(S v).testBit a=true/\(S v).testBit b=true):=fun h=>c (hI.2 h)
   have key:(x=true\/∃v,v < k+1/\(S v).testBit a=true/\(S v).testBit b=true)↔(S k).testBit a=true/\(S k).testBit b=true:=by
    constructor
    ·rintro (h | ⟨v,hv,h⟩)
     ·exact absurd (.inl h) hno
     by_cases e:v=k
     ·rw [<-e]; exact h
     exact absurd (.inr ⟨v,by omega,h⟩) hno
    intro h; exact .inr ⟨k,by omega,h⟩
   by_cases c2:(S k).testBit a=true
   ·rw [aH c2,Qoq h1 hn hS hq hk hb,aC]
    exact ⟨_,rfl,by rw [key]; simp [c2]⟩
   rw [aI c2]
   exact ⟨false,rfl,by rw [key]; simp [c2]⟩)
  (fun t hI=>⟨t,by unfold Jz; dsimp only; rw [Qp,aI (nlt n)],hI⟩) x (by simp)
 exact h
theorem Q06 (a:Nat) (ha:a < n):Qb fuel (Jv (Qf n S) ((a:Int),gr n fun u w=>decide (u < a) && mgB n S u w)) ((0:Int),gr n fun u w=>decide (u < a) && mgB n S u w)=some (gr n fun u w=>decide (u < a+1) && mgB n S u w):=by
 have h:=Zf (n:=n) (k0:=0) (by omega) (by omega) (fun i (t:List Int)=>(i,t)) (body:=Jv (Qf n S) ((a:Int),gr n fun u w=>decide (u < a) && mgB n S u w)) (fun b=>gr n fun u w=>(decide (u < a) || (decide (u=a) && decide (w < b))) && mgB n S u w) (gr n fun u w=>decide (u < a+1) && mgB n S u w)
  (fun b _ hb=>by
   have put:mgB n S a b=true->(gr n fun u w=>(decide (u < a) || (decide (u=a) && decide (w < b))) && mgB n S u w).set (Int.toNat (a:Int)) ((msk n fun i=>((decide (a < a) || (decide (a=a) && decide (i < b))) && mgB n S a i) || decide (b=i):Nat):Int)=gr n fun u w=>(decide (u < a) || (decide (u=a) && decide (w < b+1))) && mgB n S u w:=fun hm=>Q61 fun u w hu hw=>by
    by_cases e:u=a
    ·subst e
     rw [aH rfl]
     by_cases e2:b=w
     ·subst e2; simp [hm]
     have:(w < b+1)↔w < b:=by omega
     simp [e2,this]
    rw [aI e]; simp [e]
   have skip:mgB n S a b=false->(gr n fun u w=>(decide (u < a) || (decide (u=a) && decide (w < b))) && mgB n S u w)=gr n fun u w=>(decide (u < a) || (decide (u=a) && decide (w < b+1))) && mgB n S u w:=fun hm=>Qkt fun u w hu hw=>by
    by_cases e:u=a
    ·subst e
     by_cases e2:b=w
     ·subst e2; simp [hm]
     have:(w < b+1)↔w < b:=by omega
     simp [this]
    simp [e]
   unfold Jv
   dsimp only
   rw [Qp,aH (dlt hb),Zk ha,aC,Qoq h1 hn hS hq ha hb,aC]
   have self:mgB n S a a=false:=by unfold mgB; simp
   by_cases c:(S a).testBit b=true
   ·rw [aH c,Qu6 Qp hn,aC]
    have hne:a≠b:=fun e=>by subst e; rw [hq a ha] at c; cases c
    have hm:=(Qj4 (n:=n) (S:=S) hne).2 (.inl c)
    rw [aH (by simp; omega),Qx3 ha,aC,Yn (n:=b) (by omega),aH (Z2 b),Q29 (by omega) hb,put hm]
   rw [aI c,Zk hb,aC,Qoq h1 hn hS hq hb ha,aC]
   obtain ⟨y,e1,e2⟩:=Q1s h1 hn hS hq a b (gr n fun u w=>decide (u < a) && mgB n S u w) (gr n fun u w=>(decide (u < a) || (decide (u=a) && decide (w < b))) && mgB n S u w) ((S b).testBit a) ha hb
   rw [e1,aC]
   by_cases hne:a=b
   ·subst hne
    rw [aI (by simp),skip self]
   rw [aH (by simp; omega)]
   by_cases c2:y=true
   ·have hm:mgB n S a b=true:=(Qj4 hne).2 (.inr (e2.1 c2))
    rw [aH c2,Qx3 ha,aC,Yn (n:=b) (by omega),aH (Z2 b),Q29 (by omega) hb,put hm]
   have hm:mgB n S a b=false:=by
    rw [bK]; intro h
    rcases (Qj4 hne).1 h with h | h
    ·exact c h
    exact c2 (e2.2 h)
   rw [aI c2,skip hm])
  (by
   unfold Jv
   dsimp only
   rw [Qp,aI (nlt n)]
   congr 2
   refine Qkt fun u w hu hw=>?_
   have:(u < a+1)↔(u < a\/u=a):=by omega
   simp [hw,this])
 have e0:(gr n fun u w=>(decide (u < a) || (decide (u=a) && decide (w < 0))) && mgB n S u w)=gr n fun u w=>decide (u < a) && mgB n S u w:=Qkt fun u w _ _=>by simp
 simp only [e0] at h
 exact h
theorem Q0g:Qcl (Qf n S)=some (gr n (mgB n S)):=by
 have h:=Zf (n:=n) (k0:=0) (by omega) (by omega) (fun i (t:List Int)=>(i,t)) (body:=K8 (Qf n S)) (fun a=>gr n fun u w=>decide (u < a) && mgB n S u w) (gr n (mgB n S))
  (fun a _ ha=>by
   unfold K8
   dsimp only
   rw [Qp,aH (dlt ha),Q06 h1 hn hS hq a ha]; rfl)
  (by
   unfold K8
   dsimp only
   rw [Qp,aI (nlt n)]
   congr 2
   refine Qkt fun u w hu hw=>?_
   simp [hu])
 have e0:(gr n fun u w=>decide (u < 0) && mgB n S u w)=Qf n fun _=>0:=Qq fun u _=>by
  show ((msk n (fun w=>decide (u < 0) && mgB n S u w):Nat):Int)=((0:Nat):Int)
  congr 1
  exact dU fun j=>by rw [Q6]; simp
 simp only [e0] at h
 unfold Qcl
 rw [Qp,aH (by omega),Q7g]
 rw [show ((0:Nat):Int)=0 from rfl] at h
 rw [h]; rfl
end
end Go.Ab
namespace Go.Ab
open Go
section
variable {n:Nat} {S:Nat -> Nat} (h1:1<=n) (hn:n<=8) (hS:Gd n S) {x y z:Nat} (hx:∀j,x.testBit j=true->j < n) (hy:∀j,y.testBit j=true->j < n) (hz:∀j,z.testBit j=true->j < n)
def inS (S:Nat -> Nat) (an v:Nat):Nat := if an.testBit v=true then S v else 0
def tS (n:Nat) (S:Nat -> Nat) (an z a:Nat):Nat := if z.testBit a=true then 0 else msk n (fun b=>mgB n (inS S an) a b && an.testBit b)
include h1 hn hS
theorem Q3l {v:Nat} (hv:v < n):(S v).testBit v=false:=by
 rw [bK]; intro h
 exact hS.acyc v hv (Vy n v h)
theorem Q6z {an:Nat}:∀v,v < n->∀j,(inS S an v).testBit j=true->j < n:=fun v hv j hj=>by
 unfold inS at hj
 split at hj
 ·exact hS.inn v hv j hj
 simp at hj
theorem Q2q {an:Nat}:∀v,v < n->(inS S an v).testBit v=false:=fun v hv=>by
 unfold inS
 split
 ·exact Q3l h1 hn hS hv
 simp
theorem ref_inner {an:Nat} (ha:∀j,an.testBit j=true->j < n):Qb fuel (Jy (Qf n S) (an:Int)) (0,([]:List Int))=some (Qf n (inS S an)):=by
 have han:=Xe hn hS ha ha ha
 have hr:=Zf (n:=n) (k0:=0) (by omega) (by omega) (fun i (t:List Int)=>(i,t)) (body:=Jy (Qf n S) (an:Int)) (fun k=>Qf k (inS S an)) (Qf n (inS S an))
  (fun v _ hv=>by
   have hs:Qf v (inS S an)++[(inS S an v:Int)]=Qf (v+1) (inS S an):=Qe9
   unfold Jy
   simp only
   rw [Qp,aH (dlt hv),Zk hv,aC,Qho han (by omega),aC]
   by_cases c:an.testBit v=true
   ·have e:inS S an v=S v:=aH c
    rw [aI (by simp [c]),aH (by simp [Qp]; omega),<-e,hs]
   have e:inS S an v=0:=aI c
   rw [aH (by simpa using c),aH (by simp [Qp]; omega),show ([0]:List Int)=[((inS S an v:Nat):Int)] by rw [e]; rfl,hs])
  (by unfold Jy; simp only; rw [Qp,aI (nlt n)])
 exact hr
theorem Q2p {an:Nat} (ha:∀j,an.testBit j=true->j < n) (hx:∀j,x.testBit j=true->j < n) (hz:∀j,z.testBit j=true->j < n) :
  Qb fuel (J1 (gr n (mgB n (inS S an))) (z:Int) (an:Int)) ((x:Int),0)=some ((ups n (tS n S an z) n x:Nat):Int):=by
 have han:=Xe hn hS ha ha ha
 have hz64:=Xe hn hS hz hz hz
 have tin:∀v,v < n->∀j,(tS n S an z v).testBit j=true->j < n:=fun v _ j hj=>by
  unfold tS at hj
  split at hj
  ·simp at hj
  rw [Q6] at hj
  simp only [aE,aN] at hj; exact hj.1
 have hfull:=Qcx n tin
 have hs0:Zi x (2^n - 1):=fun j hj=>by rw [bD]; simpa using hx j hj
 have hin:∀{t:Nat},Zi t (2^n - 1)->∀j,t.testBit j=true->j < n:=fun h j hj=>by have:=h j hj; rw [bD] at this; simpa using this
 have inner:∀t,Zi t (2^n - 1)->Qb fuel (J3 (gr n (mgB n (inS S an))) (z:Int) (an:Int)) ((t:Int),(0:Int))=some ((upR n (tS n S an z) t:Nat):Int):=fun t ht=>by
  have h:=Zf (n:=n) (k0:=0) (by omega) (by omega) (fun i (x:Int)=>(x,i)) (body:=J3 (gr n (mgB n (inS S an))) (z:Int) (an:Int)) (fun k=>(((List.range k).foldl (upV (tS n S an z)) t:Nat):Int)) ((upR n (tS n S an z) t:Nat):Int)
   (fun k _ hk=>by
    have hsub:=Qiv (S:=tS n S an z) (T:=2^n - 1) (List.range k) t (fun v hv=>hfull v (by have:=cR.1 hv; omega)) ht
    have htl:=hin hsub
    have hlt:=Xe hn hS htl htl htl
    unfold J3
    dsimp only
    rw [Qo7,aH (dlt hk),Qho hlt (by omega),aC,List.range_succ,List.foldl_append]
    simp only [List.foldl_cons,List.foldl_nil]
    unfold upV
    by_cases c:((List.range k).foldl (upV (tS n S an z)) t).testBit k=true
    ·have c':=c
     unfold upV at c'
     rw [aH c',aH c',Qho hz64 (by omega),aC]
     by_cases cz:z.testBit k=true
     ·rw [aI (by simp [cz]),show tS n S an z k=0 from aH cz,Nat.or_zero]
     have e2:zv (zb ((msk n (mgB n (inS S an) k):Nat):Int) &&& zb (an:Int)).toNat = ((tS n S an z k:Nat):Int):=by
      rw [Q7n (n:=n) (p:=mgB n (inS S an) k) (q:=an.testBit) (by omega) (Qi3) han Q2e (fun _ _=>rfl)]
      unfold tS; rw [aI cz]
     have h64:tS n S an z k < 18446744073709551616:=Xe hn hS (tin k hk) (tin k hk) (tin k hk)
     unfold upV at hlt
     rw [aH (by simpa using cz),Qx3 hk,aC,e2,Jc hlt h64]
    have c':=c
    unfold upV at c'
    rw [aI c',aI c'])
   (by unfold J3; dsimp only; rw [Qo7,aI (nlt n)]; rfl)
  exact h
 have h:=Zf (n:=n) (k0:=0) (by omega) (by omega) (fun i (x:Int)=>(x,i)) (body:=J1 (gr n (mgB n (inS S an))) (z:Int) (an:Int)) (fun k=>((ups n (tS n S an z) k x:Nat):Int)) ((ups n (tS n S an z) n x:Nat):Int)
  (fun k _ hk=>by
   unfold J1
   dsimp only
   rw [Qo7,aH (dlt hk),inner _ (X2 hfull hs0 k)]; rfl)
  (by unfold J1; dsimp only; rw [Qo7,aI (nlt n)])
 exact h
include hx hy hz
variable (hxz:∀j,x.testBit j=true->z.testBit j=false) (hyz:∀j,y.testBit j=true->z.testBit j=false)
include hxz hyz
theorem Q36:ups n (tS n S (anS n S x y z) z) n x=Qbv n S x y z:=by
 have tin:∀v,v < n->∀j,(tS n S (anS n S x y z) z v).testBit j=true->j < n:=fun v _ j hj=>by
  unfold tS at hj
  split at hj
  ·simp at hj
  rw [Q6] at hj
  simp only [aE,aN] at hj; exact hj.1
 have hclo:=Qiu hS hz hx hy hxz hyz
 have hlt:=fun {j:Nat} h=>Qkj hS hz hx hy hxz hyz (j:=j) h
 have ib:∀a b,(inS S (anS n S x y z) a).testBit b=true↔(anS n S x y z).testBit a=true/\(S a).testBit b=true:=fun a b=>by
  unfold inS
  by_cases c:(anS n S x y z).testBit a=true
  ·rw [aH c]; simp [c]
  rw [aI c]; simp [c]
 have tb:∀a b,a < n->b < n->a≠b->((tS n S (anS n S x y z) z a).testBit b=true↔(jo n S (anS n S x y z) z a).testBit b=true):=fun a b ha hb hne=>by
  rw [Quy hb]
  unfold tS
  by_cases cz:z.testBit a=true
  ·rw [aH cz]; simp [cz]
  rw [aI cz,Q6]
  simp only [hb,decide_true,dY,aE]
  rw [Qj4 hne,ib,ib]
  simp only [ib]
  simp only [cP] at cz
  constructor
  ·rintro ⟨h,hbn⟩
   refine ⟨cz,hbn,?_⟩
   rcases h with ⟨h,k⟩ | ⟨h,k⟩ | ⟨v,hv,⟨h,k⟩,_,m⟩
   ·exact ⟨a,ha,h,.inr rfl,.inl k⟩
   ·exact ⟨b,hb,h,.inl k,.inr rfl⟩
   exact ⟨v,hv,h,.inl k,.inl m⟩
  rintro ⟨_,hbn,k,hk,hka,h4,h5⟩
  refine ⟨?_,hbn⟩
  rcases h4 with h4 | rfl
  ·rcases h5 with h5 | rfl
   ·exact .inr (.inr ⟨k,hk,⟨hka,h4⟩,hka,h5⟩)
   exact .inr (.inl ⟨hka,h4⟩)
  rcases h5 with h5 | rfl
  ·exact .inl ⟨hka,h5⟩
  exact absurd rfl hne
 refine sub_anti (X2 (fun v hv hb j hj=>?_) (Vy n) n) (X2 (fun v hv hb j hj=>?_) (Vy n) n)
 ·have hj':=tin v hv j hj
  by_cases e:v=j
  ·subst e; exact hb
  exact Qtx hS hz hx hy hxz hyz v hv hb j ((tb v j hv hj' e).1 hj)
 have hj':=Qx4 hS hz hx hy hxz hyz hj
 by_cases e:v=j
 ·subst e; exact hb
 exact Qar tin hx v hv hb j ((tb v j hv hj' e).2 hj)
theorem Qss:∃b,Y8 (Qf n S) (x:Int) (y:Int) (z:Int)=some b/\(b=true↔¬ ∃u,y.testBit u=true/\(Qbv n S x y z).testBit u=true):=by
 have hx64:=Xe hn hS hx hx hx
 have hy64:=Xe hn hS hy hy hy
 have hz64:=Xe hn hS hz hz hz
 have hsl:=fun {j:Nat} h=>Qwn hS hz hx hy hxz hyz (j:=j) h
 unfold Y8
 rw [Jc hx64 hy64,Jc (dZ (n:=64) hx64 hy64) hz64,Qov hn hS.inn (fun j hj=>Qs5 hS hz hx hy hxz hyz hj),aC,
  show ups n S n (x ||| y ||| z)=anS n S x y z from rfl,ref_inner h1 hn hS (fun j h=>Qkj hS hz hx hy hxz hyz h),aC,Q0g h1 hn (Q6z h1 hn hS) (Q2q h1 hn hS),aC,
  Q2p h1 hn hS (fun j h=>Qkj hS hz hx hy hxz hyz h) hx hz,aC,Q36 h1 hn hS hx hy hz hxz hyz]
 rw [Qi6 (n:=n) (p:=(Qbv n S x y z).testBit) (q:=z.testBit) (by omega) (Yd fun j hj=>hsl hj) hz64 (fun _ _=>rfl) (fun _ _=>rfl)]
 refine ⟨_,rfl,?_⟩
 have h8:(2:Nat)^n<=256:=aV (n:=2) (by omega) hn
 rw [Qnu h1 hn hS (bO Qi3 (by omega)) hy64,Qq7 h1 hn hS]
 constructor
 ·rintro h ⟨u,hu,hs⟩
  exact h u ⟨by rw [Q6,hs,hyz u hu]; simp [hy u hu],hu⟩
 rintro h j ⟨g1,g2⟩
 rw [Q6] at g1
 simp only [aE] at g1
 exact h ⟨j,g2,g1.2.1⟩
end
end Go.Ab
namespace Go.Ab
open Go
def t8 (f:Nat -> Bool):Bool × Bool × Bool × Bool × Bool × Bool × Bool × Bool:=(f 0,f 1,f 2,f 3,f 4,f 5,f 6,f 7)
theorem t8_congr {f g:Nat -> Bool} (h:∀j,j < 8->f j=g j):t8 f=t8 g:=by
 unfold t8
 rw [h 0 (by omega),h 1 (by omega),h 2 (by omega),h 3 (by omega),h 4 (by omega),h 5 (by omega),h 6 (by omega),h 7 (by omega)]
theorem lk8 {f:Nat -> Bool}:∀{k:Nat},k < 8->lkI ([f 0,f 1,f 2,f 3,f 4,f 5,f 6,f 7]:List Bool) (k:Int)=some (f k)
 | 0,_=>rfl
 | 1,_=>rfl
 | 2,_=>rfl
 | 3,_=>rfl
 | 4,_=>rfl
 | 5,_=>rfl
 | 6,_=>rfl
 | 7,_=>rfl
theorem up8 {k:Nat} {b:Bool} {f:Nat -> Bool}:((if (k:Int)=0 then b else f 0),(if (k:Int)=1 then b else f 1),(if (k:Int)=2 then b else f 2),(if (k:Int)=3 then b else f 3),(if (k:Int)=4 then b else f 4),(if (k:Int)=5 then b else f 5),(if (k:Int)=6 then b else f 6),(if (k:Int)=7 then b else f 7))=t8 fun j=>if j=k then b else f j:=by
 have e:∀(j:Nat) (z:Int),z=(j:Int)->(if (k:Int)=z then b else f j)=if j=k then b else f j:=fun j z hz=>by
  by_cases c:j=k
  ·subst c; rw [aH hz.symm,aH rfl]
  rw [aI (by omega),aI c]
 unfold t8
 rw [e 0 0 rfl,e 1 1 rfl,e 2 2 rfl,e 3 3 rfl,e 4 4 rfl,e 5 5 rfl,e 6 6 rfl,e 7 7 rfl]
theorem eq8 {f g:Nat -> Bool}:((f 0==g 0) && ((f 1==g 1) && ((f 2==g 2) && ((f 3==g 3) && ((f 4==g 4) && ((f 5==g 5) && ((f 6==g 6) && ((f 7==g 7) && true))))))))=true↔∀j,j < 8->f j=g j:=by
 simp only [aE,dE,and_true]
 constructor
 ·rintro ⟨h0,h1,h2,h3,h4,h5,h6,h7⟩ j hj
  match j,hj with
  | 0,_=>exact h0
  | 1,_=>exact h1
  | 2,_=>exact h2
  | 3,_=>exact h3
  | 4,_=>exact h4
  | 5,_=>exact h5
  | 6,_=>exact h6
  | 7,_=>exact h7
 intro h
 exact ⟨h 0 (by omega),h 1 (by omega),h 2 (by omega),h 3 (by omega),h 4 (by omega),h 5 (by omega),h 6 (by omega),h 7 (by omega)⟩
def cutG (n:Nat) (I O:Nat) (S:Nat -> Nat) (v:Nat):Nat := if I.testBit v=true then 0 else msk n fun i=>(S v).testBit i && !O.testBit i
abbrev agr (n:Nat) (S:Nat -> Nat):Aa:=⟨⟨Qf n S⟩⟩
section
variable {n:Nat} {S:Nat -> Nat} (h1:1<=n) (hn:n<=8) (hS:Gd n S)
theorem Qej {I O v j:Nat} (hj:j < n):(cutG n I O S v).testBit j=true↔I.testBit v=false/\(S v).testBit j=true/\O.testBit j=false:=by
 unfold cutG
 by_cases c:I.testBit v=true
 ·rw [aH c]; simp [c]
 rw [aI c,Q6]; simp only [cP] at c; simp [hj,c]
theorem Qip {I O v j:Nat} (h:(cutG n I O S v).testBit j=true):j < n:=by
 unfold cutG at h
 split at h
 ·simp at h
 rw [Q6] at h
 simp only [aE,aN] at h; exact h.1
include hS in
theorem Q60 {S':Nat -> Nat} (h:∀v,v < n->∀j,(S' v).testBit j=true->j < n/\(S v).testBit j=true):Gd n S':=by
 refine ⟨fun v hv j hj=>(h v hv j hj).1,fun v hv hb=>hS.acyc v hv ?_⟩
 have hc:=Qar hS.inn (s:=S v) (hS.inn v hv)
 exact X2 (S:=S') (s:=S' v) (T:=ups n S n (S v)) (fun u hu hb j hj=>hc u hu hb j (h u hu j hj).2) (fun j hj=>Vy n j (h v hv j hj).2) n v hb
include hS in
theorem Qjg {I O:Nat}:Gd n (cutG n I O S):=Q60 hS fun v hv j hj=>⟨Qip hj,((Qej (Qip hj)).1 hj).2.1⟩
include h1 hn hS
theorem Qm8 {x:Nat} (hx:x < 18446744073709551616):Zr (agr n S) (x:Int)=some (agr n (cutG n x 0 S)):=by
 have hr:=Zf (n:=n) (k0:=0) (by omega) (by omega) (fun i (t:List Int)=>(i,t)) (body:=Yf (agr n S) (x:Int)) (fun k=>Qf n fun v=>if v < k then cutG n x 0 S v else S v) (Qf n (cutG n x 0 S))
  (fun v _ hv=>by
   have hset:∀y,y=cutG n x 0 S v->(Qf n fun u=>if u < v then cutG n x 0 S u else S u).set (Int.toNat (v:Int)) (y:Int)=Qf n fun u=>if u < v+1 then cutG n x 0 S u else S u:=fun y hy=>by
    rw [aR,Qkq]
    refine Qq fun u _=>congrArg Nat.cast ?_
    unfold Qdt
    dsimp only
    by_cases e:u=v
    ·subst e; rw [aH rfl,aH (by omega),hy]
    rw [aI e]
    by_cases e2:u < v
    ·rw [aH e2,aH (by omega)]
    rw [aI e2,aI (by omega)]
   unfold Yf
   dsimp only
   rw [Qp,aH (dlt hv),aH (Z2 v),Qrd hx (by omega)]
   by_cases c:x.testBit v=true
   ·rw [aH c,Zk hv,aC,show (0:Int)=((0:Nat):Int) from rfl,hset 0 (by unfold cutG; rw [aH c])]
   rw [aI c]
   have e:cutG n x 0 S v=S v:=by
    unfold cutG
    rw [aI c]
    exact (Qdu (Yd (hS.inn v hv)) fun i _=>by simp).symm
   refine congrArg (fun l=>some (Qe.next (zw ((v:Int)+1),l))) (Qq fun u _=>congrArg Nat.cast ?_)
   dsimp only
   by_cases e1:u=v
   ·subst e1; rw [aI (by omega),aH (by omega),e]
   by_cases e2:u < v
   ·rw [aH e2,aH (by omega)]
   rw [aI e2,aI (by omega)])
  (by
   unfold Yf
   dsimp only
   rw [Qp,aI (nlt n)]
   exact congrArg (fun l=>some (Qe.done l)) (Qq fun u hu=>by simp [hu]))
 have e0:Qf n S=Qf n fun v=>if v < 0 then cutG n x 0 S v else S v:=Qq fun u _=>by simp
 unfold Zr
 dsimp only
 rw [Qp,aH (by omega)]
 refine X5 (a:=Qf n (cutG n x 0 S)) ?_ rfl
 have hr':=hr
 rw [<-e0] at hr'
 exact hr'
theorem Q4s {z:Nat} (hz:z < 18446744073709551616):Vl (agr n S) (z:Int)=some (agr n (cutG n 0 z S)):=by
 have hr:=Zf (n:=n) (k0:=0) (by omega) (by omega) (fun i (t:List Int)=>(i,t)) (body:=Yt (agr n S) (z:Int)) (fun k=>Qf n fun v=>if v < k then cutG n 0 z S v else S v) (Qf n (cutG n 0 z S))
  (fun v _ hv=>by
   have hg:lkI (Qf n fun u=>if u < v then cutG n 0 z S u else S u) (v:Int)=some (S v:Int):=by
    have:lkI (Qf n fun u=>if u < v then cutG n 0 z S u else S u) (v:Int)=some (((if v < v then cutG n 0 z S v else S v:Nat)):Int):=Zk hv
    rw [this,aI (by omega)]
   have e1:zv (zb (S v:Int) &&& ~~~ zb (z:Int)).toNat = ((cutG n 0 z S v:Nat):Int):=by
    rw [Qi6 (n:=n) (p:=(S v).testBit) (q:=z.testBit) (by omega) (Yd (hS.inn v hv)) hz (fun _ _=>rfl) (fun _ _=>rfl)]
    unfold cutG; rw [aI (by simp)]
   have hset:(Qf n fun u=>if u < v then cutG n 0 z S u else S u).set (Int.toNat (v:Int)) (cutG n 0 z S v:Int)=Qf n fun u=>if u < v+1 then cutG n 0 z S u else S u:=by
    rw [aR,Qkq]
    refine Qq fun u _=>congrArg Nat.cast ?_
    unfold Qdt
    dsimp only
    by_cases e:u=v
    ·subst e; rw [aH rfl,aH (by omega)]
    rw [aI e]
    by_cases e2:u < v
    ·rw [aH e2,aH (by omega)]
    rw [aI e2,aI (by omega)]
   unfold Yt
   dsimp only
   rw [Qp,aH (dlt hv),hg,aC,e1,hset])
  (by
   unfold Yt
   dsimp only
   rw [Qp,aI (nlt n)]
   exact congrArg (fun l=>some (Qe.done l)) (Qq fun u hu=>by simp [hu]))
 have e0:Qf n S=Qf n fun v=>if v < 0 then cutG n 0 z S v else S v:=Qq fun u _=>by simp
 unfold Vl
 dsimp only
 rw [Qp,aH (by omega)]
 refine X5 (a:=Qf n (cutG n 0 z S)) ?_ rfl
 have hr':=hr
 rw [<-e0] at hr'
 exact hr'
theorem Qjq {I O:Nat} (hI:I < 18446744073709551616) (hO:O < 18446744073709551616):V8 (Qf n S) (I:Int) (O:Int)=some (Qf n (cutG n I O S)):=by
 have hr:=Zf (n:=n) (k0:=0) (by omega) (by omega) (fun i (t:List Int)=>(i,t)) (body:=Kc (Qf n S) (I:Int) (O:Int)) (fun k=>Qf k (cutG n I O S)) (Qf n (cutG n I O S))
  (fun v _ hv=>by
   have hs:Qf v (cutG n I O S)++[(cutG n I O S v:Int)]=Qf (v+1) (cutG n I O S):=Qe9
   have e1:zv (zb (S v:Int) &&& ~~~ zb (O:Int)).toNat = ((msk n fun i=>(S v).testBit i && !O.testBit i:Nat):Int) :=
    Qi6 (n:=n) (p:=(S v).testBit) (q:=O.testBit) (by omega) (Yd (hS.inn v hv)) hO (fun _ _=>rfl) (fun _ _=>rfl)
   unfold Kc
   dsimp only
   rw [Qp,aH (dlt hv),Zk hv,aC,Qho hI (by omega),aC,e1]
   by_cases c:I.testBit v=true
   ·have e:cutG n I O S v=0:=aH c
    rw [aH c,aH (by simp [Qp]; omega),show ([0]:List Int)=[((cutG n I O S v:Nat):Int)] by rw [e]; rfl,hs]
   have e:cutG n I O S v=msk n fun i=>(S v).testBit i && !O.testBit i:=aI c
   rw [aI c,<-e,aH (by simp [Qp]; omega),hs])
  (by unfold Kc; dsimp only; rw [Qp,aI (nlt n)])
 unfold V8
 exact X5 hr rfl
theorem Q6e {w:Nat} (hw:w < 18446744073709551616):Qb fuel (Xq (agr n S) (w:Int)) (0,false,false,false,false,false,false,false,false)=some (t8 fun j=>decide (j < n) && w.testBit j):=by
 have hr:=Zf (n:=n) (k0:=0) (by omega) (by omega) (fun i (t:Bool × Bool × Bool × Bool × Bool × Bool × Bool × Bool)=>(i,t)) (body:=Xq (agr n S) (w:Int)) (fun k=>t8 fun j=>decide (j < k) && w.testBit j) (t8 fun j=>decide (j < n) && w.testBit j)
  (fun k _ hk=>by
   unfold Xq
   dsimp only [t8]
   rw [Qp,aH (dlt hk),aH (Z2 k),Qrd hw (by omega),lk8 (f:=fun j=>decide (j < k) && w.testBit j) (by omega),aC,
    up8 (b:=w.testBit k) (f:=fun j=>decide (j < k) && w.testBit j)]
   refine congrArg (fun l=>some (Qe.next (zw ((k:Int)+1),l))) (t8_congr (g:=fun j=>decide (j < k+1) && w.testBit j) fun j _=>?_)
   by_cases e:j=k
   ·subst e; simp
   have:(j < k+1)↔j < k:=by omega
   simp [e,this])
  (by unfold Xq; dsimp only [t8]; rw [Qp,aI (nlt n)])
 have e0:(false,false,false,false,false,false,false,false)=t8 fun j=>decide (j < 0) && w.testBit j:=by simp [t8]
 rw [e0]; exact hr
theorem Q6v {v M:Nat} (hv:v < n) {f:Nat -> Bool} {s9:Int × Bool × Bool × Bool × Bool × Bool × Bool × Bool × Bool × Bool} (h9:s9.1=v) (h92:s9.2.1=M.testBit 0) :
  Qb fuel (Xw (agr n S) s9 (t8 M.testBit) (S v:Int)) (0,t8 f)=some (t8 fun j=>f j || (decide (j < n) && (M.testBit v && (S v).testBit j))):=by
 have h64:S v < 18446744073709551616:=Xe hn hS (hS.inn v hv) (hS.inn v hv) (hS.inn v hv)
 have hr:=Zf (n:=n) (k0:=0) (by omega) (by omega) (fun i (t:Bool × Bool × Bool × Bool × Bool × Bool × Bool × Bool)=>(i,t)) (body:=Xw (agr n S) s9 (t8 M.testBit) (S v:Int)) (fun k=>t8 fun j=>f j || (decide (j < k) && (M.testBit v && (S v).testBit j))) (t8 fun j=>f j || (decide (j < n) && (M.testBit v && (S v).testBit j)))
  (fun k _ hk=>by
   have skip:(M.testBit v && (S v).testBit k)=false->(t8 fun j=>f j || (decide (j < k) && (M.testBit v && (S v).testBit j)))=t8 fun j=>f j || (decide (j < k+1) && (M.testBit v && (S v).testBit j)):=fun h=>t8_congr fun j _=>by
    by_cases e:j=k
    ·subst e; simp [h]
    have:(j < k+1)↔j < k:=by omega
    simp [this]
   unfold Xw
   dsimp only [t8]
   rw [Qp,aH (dlt hk),h9,h92,lk8 (f:=M.testBit) (by omega),aC]
   by_cases c:M.testBit v=true
   ·rw [aH c,aH (Z2 k),Qrd h64 (by omega)]
    by_cases c2:(S v).testBit k=true
    ·rw [aH c2,lk8 (f:=fun j=>f j || (decide (j < k) && (M.testBit v && (S v).testBit j))) (by omega),aC,up8 (b:=true) (f:=fun j=>f j || (decide (j < k) && (M.testBit v && (S v).testBit j)))]
     refine congrArg (fun l=>some (Qe.next (zw ((k:Int)+1),l))) (t8_congr (g:=fun j=>f j || (decide (j < k+1) && (M.testBit v && (S v).testBit j))) fun j _=>?_)
     by_cases e:j=k
     ·subst e; simp [c,c2]
     have:(j < k+1)↔j < k:=by omega
     simp [e,this]
    rw [aI c2]
    exact congrArg (fun l=>some (Qe.next (zw ((k:Int)+1),l))) (skip (by simp [c2]))
   rw [aI c]
   exact congrArg (fun l=>some (Qe.next (zw ((k:Int)+1),l))) (skip (by simp [c])))
  (by unfold Xw; dsimp only [t8]; rw [Qp,aI (nlt n)])
 have e0:t8 f=t8 fun j=>f j || (decide (j < 0) && (M.testBit v && (S v).testBit j)):=t8_congr fun j _=>by simp
 rw [e0]; exact hr
def rnd (n:Nat) (S:Nat -> Nat) (M:Nat):Nat := msk n fun j=>M.testBit j || (List.range n).any fun v=>M.testBit v && (S v).testBit j
theorem Q6n {M:Nat} (hM:∀j,M.testBit j=true->j < n):Qb fuel (Xr (agr n S) (t8 M.testBit)) (0,M.testBit 0,t8 M.testBit)=some (M.testBit 0,t8 (rnd n S M).testBit):=by
 have hr:=Zf (n:=n) (k0:=0) (by omega) (by omega) (fun i (t:Bool × Bool × Bool × Bool × Bool × Bool × Bool × Bool)=>(i,M.testBit 0,t)) (body:=Xr (agr n S) (t8 M.testBit)) (fun k=>t8 fun j=>M.testBit j || (List.range k).any fun v=>M.testBit v && (decide (j < n) && (S v).testBit j)) (M.testBit 0,t8 (rnd n S M).testBit)
  (fun k _ hk=>by
   have hb:=Q6v h1 hn hS (v:=k) (M:=M) hk (f:=fun j=>M.testBit j || (List.range k).any fun v=>M.testBit v && (decide (j < n) && (S v).testBit j)) (s9:=((k:Int),M.testBit 0,t8 fun j=>M.testBit j || (List.range k).any fun v=>M.testBit v && (decide (j < n) && (S v).testBit j))) rfl rfl
   unfold Xr
   dsimp only
   rw [Qp,aH (dlt hk),Zk hk,aC]
   refine X5 hb ?_
   refine congrArg (fun l=>some (Qe.next (zw ((k:Int)+1),M.testBit 0,l))) (t8_congr (f:=fun j=>(M.testBit j || (List.range k).any fun v=>M.testBit v && (decide (j < n) && (S v).testBit j)) || (decide (j < n) && (M.testBit k && (S k).testBit j))) (g:=fun j=>M.testBit j || (List.range (k+1)).any fun v=>M.testBit v && (decide (j < n) && (S v).testBit j)) fun j _=>?_)
   rw [List.range_succ,List.any_append]
   simp only [List.any_cons,List.any_nil,Bool.or_false,Bool.or_assoc]
   congr 2
   cases M.testBit k <;> simp)
  (by
   unfold Xr
   dsimp only [t8]
   rw [Qp,aI (nlt n)]
   refine congrArg (fun l=>some (Qe.done (M.testBit 0,l))) (t8_congr (f:=fun j=>M.testBit j || (List.range n).any fun v=>M.testBit v && (decide (j < n) && (S v).testBit j)) (g:=(rnd n S M).testBit) fun j _=>?_)
   unfold rnd
   rw [Q6]
   by_cases hj:j < n
   ·simp [hj]
   have:M.testBit j=false:=by rw [bK]; exact fun h=>hj (hM j h)
   simp [hj,this])
 have e0:t8 M.testBit=t8 fun j=>M.testBit j || (List.range 0).any fun v=>M.testBit v && (decide (j < n) && (S v).testBit j):=t8_congr fun j _=>by simp
 have hr':=hr
 rw [<-e0] at hr'
 exact hr'
theorem Qud {M j:Nat} (h:(rnd n S M).testBit j=true):j < n:=by
 unfold rnd at h; rw [Q6] at h
 simp only [aE,aN] at h; exact h.1
theorem Qz6 {M:Nat} (hM:∀j,M.testBit j=true->j < n):Zi M (rnd n S M):=fun j hj=>by
 unfold rnd; rw [Q6]; simp [hj,hM j hj]
theorem Q45 {M T:Nat} (hT:Clo n S T) (h:Zi M T):Zi (rnd n S M) T:=fun j hj=>by
 unfold rnd at hj; rw [Q6] at hj
 simp only [aE,aN,aM,bR,cR] at hj
 rcases hj.2 with h2 | ⟨v,hv,h2,h3⟩
 ·exact h j h2
 exact hT v hv (h v h2) j h3
theorem Q33 {M:Nat} (h:rnd n S M=M):Clo n S M:=fun v hv hb j hj=>by
 rw [<-h]
 unfold rnd; rw [Q6]
 have:=hS.inn v hv j hj
 simp only [this,decide_true,dY,aM,bR,cR,aE]
 exact .inr ⟨v,hv,hb,hj⟩
theorem Qni {M:Nat} (hM:∀j,M.testBit j=true->j < n):Z1 (agr n S) (t8 M.testBit)=if (((rnd n S M).testBit 0==M.testBit 0) && (((rnd n S M).testBit 1==M.testBit 1) && (((rnd n S M).testBit 2==M.testBit 2) && (((rnd n S M).testBit 3==M.testBit 3) && (((rnd n S M).testBit 4==M.testBit 4) && (((rnd n S M).testBit 5==M.testBit 5) && (((rnd n S M).testBit 6==M.testBit 6) && (((rnd n S M).testBit 7==M.testBit 7) && true))))))))=true then some (.done (t8 M.testBit)) else some (.next (t8 (rnd n S M).testBit)):=by
 have hb:=Q6n h1 hn hS hM
 unfold Z1
 exact X5 hb rfl
theorem Qv6 {M:Nat} (hM:∀j,M.testBit j=true->j < n) (c:∀j,j < 8->(rnd n S M).testBit j=M.testBit j):Z1 (agr n S) (t8 M.testBit)=some (.done (t8 M.testBit)):=by
 rw [Qni h1 hn hS hM]; exact aH (eq8.2 c)
theorem Qvp {M:Nat} (hM:∀j,M.testBit j=true->j < n) (c:¬ ∀j,j < 8->(rnd n S M).testBit j=M.testBit j):Z1 (agr n S) (t8 M.testBit)=some (.next (t8 (rnd n S M).testBit)):=by
 rw [Qni h1 hn hS hM]; exact aI fun h=>c (eq8.1 h)
theorem Q4w {w:Nat} (hw:∀j,w.testBit j=true->j < n):Jb (agr n S) (w:Int)=some (t8 (ups n S n w).testBit):=by
 have hw64:=Xe hn hS hw hw hw
 have e1:(t8 fun j=>decide (j < n) && w.testBit j)=t8 w.testBit:=t8_congr fun j _=>by
  by_cases hj:j < n
  ·simp [hj]
  have:w.testBit j=false:=by rw [bK]; exact fun h=>hj (hw j h)
  simp [hj,this]
 have hs:=Qh7 (body:=Z1 (agr n S)) (fun s=>∃M,(∀j,M.testBit j=true->j < n)/\Zi w M/\Zi M (ups n S n w)/\s=t8 M.testBit) (fun s=>8 - cnt 8 fun j=>(s.1 && decide (j=0)) || (s.2.1 && decide (j=1)) || (s.2.2.1 && decide (j=2)) || (s.2.2.2.1 && decide (j=3)) || (s.2.2.2.2.1 && decide (j=4)) || (s.2.2.2.2.2.1 && decide (j=5)) || (s.2.2.2.2.2.2.1 && decide (j=6)) || (s.2.2.2.2.2.2.2 && decide (j=7)))
  (fun r=>r=t8 (ups n S n w).testBit)
  (fun s hs=>by
   obtain ⟨M,hM,h2,h3,rfl⟩:=hs
   have hc:=Qar hS.inn hw
   have hmeas:∀M:Nat,(fun j=>((t8 M.testBit).1 && decide (j=0)) || ((t8 M.testBit).2.1 && decide (j=1)) || ((t8 M.testBit).2.2.1 && decide (j=2)) || ((t8 M.testBit).2.2.2.1 && decide (j=3)) || ((t8 M.testBit).2.2.2.2.1 && decide (j=4)) || ((t8 M.testBit).2.2.2.2.2.1 && decide (j=5)) || ((t8 M.testBit).2.2.2.2.2.2.1 && decide (j=6)) || ((t8 M.testBit).2.2.2.2.2.2.2 && decide (j=7)))=fun j=>decide (j < 8) && M.testBit j:=fun M=>by
    funext j
    by_cases hj:j < 8
    ·match j,hj with
     | 0,_=>simp [t8]
     | 1,_=>simp [t8]
     | 2,_=>simp [t8]
     | 3,_=>simp [t8]
     | 4,_=>simp [t8]
     | 5,_=>simp [t8]
     | 6,_=>simp [t8]
     | 7,_=>simp [t8]
    have:∀k,k < 8->decide (j=k)=false:=fun k hk=>by simp; omega
    simp [hj,this 0 (by omega),this 1 (by omega),this 2 (by omega),this 3 (by omega),this 4 (by omega),this 5 (by omega),this 6 (by omega),this 7 (by omega)]
   by_cases c:∀j,j < 8->(rnd n S M).testBit j=M.testBit j
   ·right
    refine ⟨_,Qv6 h1 hn hS hM c,?_⟩
    have e:rnd n S M=M:=dU fun j=>by
     by_cases hj:j < 8
     ·exact c j hj
     have q1:M.testBit j=false:=by rw [bK]; exact fun h=>by have:=hM j h; omega
     have q2:(rnd n S M).testBit j=false:=by rw [bK]; exact fun h=>by have:=Qud h1 hn hS h; omega
     rw [q1,q2]
    have e2:M=ups n S n w:=sub_anti h3 (X2 (Q33 h1 hn hS e) h2 n)
    rw [<-e2]
   left
   refine ⟨_,Qvp h1 hn hS hM c,⟨rnd n S M,fun j h=>Qud h1 hn hS h,h2.trans (Qz6 h1 hn hS hM),Q45 h1 hn hS hc h3,rfl⟩,?_⟩
   rw [hmeas M,hmeas (rnd n S M)]
   have hlt:cnt 8 M.testBit < cnt 8 (rnd n S M).testBit:=Qmq (Qz6 h1 hn hS hM) (fun j h=>by have:=Qud h1 hn hS h; omega) fun e=>c fun j _=>by rw [<-e]
   have q:∀M:Nat,cnt 8 (fun j=>decide (j < 8) && M.testBit j)=cnt 8 M.testBit:=fun M=>Qhp fun j hj=>by simp [hj]
   rw [q,q]
   have:=Qpt 8 (rnd n S M).testBit
   omega)
  fuel (t8 w.testBit) ⟨w,hw,.refl,Vy n,rfl⟩ (by unfold fuel; omega)
 obtain ⟨r,hr,rfl⟩:=hs
 unfold Jb
 rw [Q6e h1 hn hS hw64,aC,e1]
 exact X5 hr rfl
theorem Q1a {z M:Nat} (hz:∀j,z.testBit j=true->j < n):Qb fuel (Y4 (t8 M.testBit)) ((z:Int),M.testBit 0,0)=some ((msk n (fun i=>z.testBit i && !M.testBit i):Nat):Int):=by
 have hr:=Zf (n:=8) (k0:=0) (by omega) (by omega) (fun i (t:Int)=>(t,M.testBit 0,i)) (body:=Y4 (t8 M.testBit)) (fun k=>((msk n (fun i=>z.testBit i && !(decide (i < k) && M.testBit i)):Nat):Int)) ((msk n (fun i=>z.testBit i && !M.testBit i):Nat):Int)
  (fun k _ hk=>by
   unfold Y4
   dsimp only [t8]
   rw [aH (by rw [aN]; omega),lk8 (f:=M.testBit) hk,aC]
   by_cases c:M.testBit k=true
   ·rw [aH c,aH (Z2 k),Q7q (by omega) (by omega)]
    refine congrArg (fun l:Nat => some (Qe.next ((l:Int),M.testBit 0,zw ((k:Int)+1)))) (X7 fun i _=>?_)
    by_cases e:i=k
    ·subst e; simp [c]
    have:(i < k+1)↔i < k:=by omega
    have e':¬ k=i:=fun h=>e h.symm
    simp [e',this]
   rw [aI c]
   refine congrArg (fun l:Nat => some (Qe.next ((l:Int),M.testBit 0,zw ((k:Int)+1)))) (X7 fun i _=>?_)
   by_cases e:i=k
   ·subst e; simp [c]
   have:(i < k+1)↔i < k:=by omega
   simp [this])
  (by
   unfold Y4
   dsimp only
   rw [aI (by simp)]
   refine congrArg (fun l:Nat => some (Qe.done (l:Int))) (X7 fun i hi=>?_)
   have:i < 8:=by omega
   simp [this])
 have e0:(z:Int)=((msk n (fun i=>z.testBit i && !(decide (i < 0) && M.testBit i)):Nat):Int):=by
  congr 1
  exact Qdu (Yd hz) fun i _=>by simp
 have hr':=hr
 rw [<-e0] at hr'
 exact hr'
end
end Go.Ab
namespace Go.Ab
open Go
open Classical
section
variable {D:NF} {m:Nat}
end
theorem Qo8 {n:Int} (h:(Lit.int .u64 n).wf=true):∃t:Nat,t < 18446744073709551616/\n=(t:Int):=by
 have h:0<=n/\n<=18446744073709551615:=by simpa [Lit.wf,IntKind.min,IntKind.max,IntKind.bits,IntKind.signed] using h
 exact ⟨n.toNat,by omega,by omega⟩
end Go.Ab
