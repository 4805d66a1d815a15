/- Functions. No conditions. -/
import Derived.Test.YtojklbpplceiiaaDoorW15
import Derived.Test.YtojklbpplceiiaaDoorW12
import Derived.Test.YtojklbpplceiiaaDoorW14
import Derived.KernelRfl
set_option maxRecDepth 100000
set_option maxHeartbeats 1000000
set_option linter.all false
namespace Go.Ab
open Go
section
variable {n:Nat} {S:Nat -> Nat}
def mG (n:Nat) (S:Nat -> Nat) (t:Nat):Nat -> Nat := oG n (Vi n (near S)) t (Vi n (near S)).length
def gdB (n:Nat) (T:Nat -> Nat):Bool:=pls n T n==2^n - 1
theorem Qag {T:Nat -> Nat}:gdB n T=true↔Gd n T:=by unfold gdB; rw [dL]; exact Qui
theorem Q4w {p:Nat × Nat} (h:p∈Vi n (near S)):p.1 < n/\p.2 < n:=by
 have:=Yn.1 h
 omega
theorem Qmc {t u w:Nat}:(mG n S t u).testBit w=true↔∃i,((Vi n (near S))[i]?=some (u,w)/\t.testBit i=true)\/((Vi n (near S))[i]?=some (w,u)/\t.testBit i=false):=by
 unfold mG
 rw [Qzg fun p hp=>Q4w hp,Qnm]
 constructor
 ·rintro ⟨i,_,h⟩; exact ⟨i,h⟩
 rintro ⟨i,h⟩
 refine ⟨i,?_,h⟩
 rcases h with ⟨h,_⟩ | ⟨h,_⟩ <;> exact (aD.1 h).1
theorem Q5u {t u w:Nat} (hS:Gd n S) (hu:u < n) (hw:w < n):near (mG n S t) u w=near S u w:=by
 have key:∀u w,u < w->w < n->near (mG n S t) u w=near S u w:=fun u w h1 h2=>by
  rw [aQ]
  constructor
  ·intro h
   have hmem:∀a b:Nat,(mG n S t a).testBit b=true->near S a b=true:=fun a b hb=>by
    obtain ⟨i,⟨h,_⟩ | ⟨h,_⟩⟩:=Qmc.1 hb
    ·exact (Yn.1 (aF h)).2.2
    rw [near_symm]; exact (Yn.1 (aF h)).2.2
   unfold near at h
   rw [aN] at h
   rcases h with h | h
   ·exact hmem u w h
   rw [near_symm]; exact hmem w u h
  intro h
  obtain ⟨i,hi⟩:=bW.1 ((Yn (p:=(u,w))).2 ⟨h1,h2,h⟩)
  unfold near
  rw [aN]
  cases hb:t.testBit i with
  | true=>exact .inl (Qmc.2 ⟨i,.inl ⟨hi,hb⟩⟩)
  | false=>exact .inr (Qmc.2 ⟨i,.inr ⟨hi,hb⟩⟩)
 rcases Nat.lt_trichotomy u w with h | h | h
 ·exact key u w h hw
 ·subst h
  rw [Qfn hS hu]
  rw [bN]
  intro hb
  unfold near at hb
  rw [Bool.or_self] at hb
  obtain ⟨i,⟨h,_⟩ | ⟨h,_⟩⟩:=Qmc.1 hb <;> have:=(Yn.1 (aF h)).1 <;> simp at this
 rw [near_symm,near_symm (S:=S)]; exact key w u h hu
theorem Q7y {T:Nat -> Nat} (hS:Gd n S) (hT:Gd n T) (h:∀u w,u < n->w < n->near T u w=near S u w):∃t,t < 2^(Vi n (near S)).length/\Qc n (mG n S t)=Qc n T:=by
 refine ⟨msk (Vi n (near S)).length fun k=>match (Vi n (near S))[k]? with | some p=>(T p.1).testBit p.2 | none=>false,msk_lt _ _,?_⟩
 have hbit:∀i p,(Vi n (near S))[i]?=some p->(msk (Vi n (near S)).length fun k=>match (Vi n (near S))[k]? with | some p=>(T p.1).testBit p.2 | none=>false).testBit i=(T p.1).testBit p.2:=fun i p hp=>by
  rw [Qv,hp]
  have:=(aD.1 hp).1
  simp [this]
 generalize (msk (Vi n (near S)).length fun k=>match (Vi n (near S))[k]? with | some p=>(T p.1).testBit p.2 | none=>false)=t at *
 obtain ⟨r,hr⟩:=Xp hT
 unfold Qc Qb4
 refine List.map_congr_left fun u hu=>?_
 have hu:=cX.1 hu
 congr 1
 apply eE
 intro w
 rw [aQ,Qmc]
 constructor
 ·rintro ⟨i,⟨h1,h2⟩ | ⟨h1,h2⟩⟩
  ·rw [hbit i _ h1] at h2; exact h2
  rw [hbit i _ h1] at h2
  obtain ⟨h3,h4,h5⟩:=Yn.1 (aF h1)
  dsimp only at h2 h3 h4 h5
  rw [<-h w u (by omega) hu] at h5
  unfold near at h5
  rw [h2] at h5
  simpa using h5
 intro hb
 have hw:=hT.inn u hu w hb
 have hn:near S u w=true:=by rw [<-h u w hu hw]; unfold near; rw [hb]; rfl
 have hne:u≠w:=fun e=>by subst e; have:=hr u hu u hb; omega
 rcases eW hne with h1 | h1
 ·obtain ⟨i,hi⟩:=bW.1 ((Yn (p:=(u,w))).2 ⟨h1,hw,hn⟩)
  exact ⟨i,.inl ⟨hi,by rw [hbit i _ hi]; exact hb⟩⟩
 obtain ⟨i,hi⟩:=bW.1 ((Yn (p:=(w,u)) (N:=near S)).2 ⟨h1,hu,by rw [near_symm]; exact hn⟩)
 refine ⟨i,.inr ⟨hi,?_⟩⟩
 rw [hbit i _ hi]
 dsimp only
 rw [bN]
 intro hc
 have:=hr u hu w hb
 have:=hr w hw u hc
 omega
end
end Go.Ab
namespace Go.Ab
open Go
theorem Q6b {x y:List Int} (h:leL y x=false):leL x y=true:=by have:=Qhu x y; rw [h] at this; simpa using this
theorem Qo8 {x y:List Int} (hl:x.length=y.length) (hx:x.length < 1000):Qcc x y=some (!(leL y x)):=by
 have key:∀(j N k:Nat),k+j=x.length->j < N ->
   ∃r,Qa N (Qaa x y) (k:Int)=some r/\(match r with | .inl b=>b | .inr _=>false)=!(leL (y.drop k) (x.drop k)):=by
  intro j
  induction j with
  | zero =>
   intro N k hk hN
   obtain ⟨N,rfl⟩:∃M,N=M+1:=⟨N - 1,by omega⟩
   refine ⟨.inr (),?_,?_⟩
   ·unfold Qa Qaa
    rw [aJ (by simp; omega)]
   rw [List.drop_eq_nil_of_le (by omega:y.length<=k)]
   rfl
  | succ j ih =>
   intro N k hk hN
   obtain ⟨N,rfl⟩:∃M,N=M+1:=⟨N - 1,by omega⟩
   have h1:k < x.length:=by omega
   have h2:k < y.length:=by omega
   rw [eR h1,eR h2]
   unfold Qa Qaa
   rw [aH (by simp; omega),Qs h1,aC,Qs h2,aC]
   by_cases e:x[k]=y[k]
   ·obtain ⟨r,h3,h4⟩:=ih N (k+1) (by omega) (by omega)
    refine ⟨r,?_,?_⟩
    ·rw [aJ (by simp [e]),w64 (by omega)]
     exact h3
    rw [h4]; simp [leL,e]
   refine ⟨.inl (decide (x[k] < y[k])),?_,?_⟩
   ·rw [aH (by simp [e])]
   simp only [leL]
   rw [aQ]
   have e':¬ y[k]=x[k]:=fun h=>e h.symm
   simp [e',e]; omega
 obtain ⟨r,h1,h2⟩:=key x.length fuel 0 (by omega) (by unfold fuel; omega)
 unfold Qcc
 rw [show (0:Int)=((0:Nat):Int) from rfl,h1,aC]
 rw [List.drop_zero,List.drop_zero] at h2
 rw [<-h2]
 cases r <;> rfl
theorem Q0c {n:Nat} {a:List Int} {out:List (List Int)} {s:Int × List (List Int)} (hs:s.2=out) (ha:a.length=n) (hn:n < 1000) (ho:∀x∈out,x.length=n) (hl:out.length < 100000) :
  ∃A:Nat,A<=out.length/\Qa fuel (X4 s a) (out.length:Int)=some (A:Int)/\(∀j,A<=j->∀x,out[j]?=some x->leL x a=false)/\(A=0\/∃x,out[A - 1]?=some x/\leL x a=true):=by
 subst hs
 have key:∀(k N:Nat),k<=s.2.length->k < N->(∀j,k<=j->∀x,s.2[j]?=some x->leL x a=false) ->
   ∃A:Nat,A<=s.2.length/\Qa N (X4 s a) (k:Int)=some (A:Int)/\(∀j,A<=j->∀x,s.2[j]?=some x->leL x a=false)/\(A=0\/∃x,s.2[A - 1]?=some x/\leL x a=true):=by
  intro k
  induction k with
  | zero =>
   intro N hk hN hj
   obtain ⟨N,rfl⟩:∃M,N=M+1:=⟨N - 1,by omega⟩
   refine ⟨0,by omega,?_,hj,.inl rfl⟩
   unfold Qa X4
   rw [aJ (by decide)]
  | succ k ih =>
   intro N hk hN hj
   obtain ⟨N,rfl⟩:∃M,N=M+1:=⟨N - 1,by omega⟩
   have hkl:k < s.2.length:=by omega
   have e1:zw (((k+1:Nat):Int) - 1)=(k:Int):=by rw [w64 (by omega)]; omega
   by_cases hb:leL s.2[k] a=true
   ·refine ⟨k+1,hk,?_,hj,.inr ⟨s.2[k],aG hkl,hb⟩⟩
    unfold Qa X4
    rw [aH (by simp),e1,Qs hkl,aC,Qo8 (by rw [ha,ho _ (bO hkl)]) (by omega),aC,hb,aJ (by decide)]
   obtain ⟨A,h1,h2,h3⟩:=ih N (by omega) (by omega) (fun j hjk x hx=>by
    by_cases e:j=k
    ·subst e; rw [aG hkl] at hx; cases hx; exact bN.2 hb
    exact hj j (by omega) x hx)
   refine ⟨A,h1,?_,h3⟩
   unfold Qa
   have e2:X4 s a ((k+1:Nat):Int)=some (.next (k:Int)):=by
    unfold X4
    rw [aH (by simp),e1,Qs hkl,aC,Qo8 (by rw [ha,ho _ (bO hkl)]) (by omega),aC,bN.2 hb,aH (by decide)]
   rw [e2]
   exact h2
 exact key s.2.length fuel (bC _) (by unfold fuel; omega) (fun j hj x hx=>by rw [dU hj] at hx; cases hx)
theorem Qwl {A:Nat} {a:List Int} {out:List (List Int)} (hA:A<=out.length) (h1:∀j,A<=j->∀x,out[j]?=some x->leL x a=false) (h2:A=0\/∃x,out[A - 1]?=some x/\leL x a=true)
  (hs:out.Pairwise fun x y=>leL x y=true):(Qbx A a out).Pairwise fun x y=>leL x y=true:=by
 unfold Qbx
 have hb:∀x∈out.drop A,leL a x=true:=fun x hx=>by
  obtain ⟨j,hj⟩:=bW.1 hx
  rw [bI] at hj
  exact Q6b (h1 (A+j) (by omega) x hj)
 have ht:∀x∈out.take A,leL x a=true:=fun x hx=>by
  rcases h2 with rfl | ⟨y,hy,hya⟩
  ·simp at hx
  obtain ⟨j,hj⟩:=bW.1 hx
  have hjA:j < A:=by have:=(aD.1 hj).1; simp at this; omega
  rw [List.getElem?_take_of_lt hjA] at hj
  by_cases e:j=A - 1
  ·subst e; rw [hy] at hj; cases hj; exact hya
  have p:=List.pairwise_iff_getElem.1 hs
  obtain ⟨g1,g2⟩:=aD.1 hj
  obtain ⟨g3,g4⟩:=aD.1 hy
  have:=p j (A - 1) g1 g3 (by omega)
  rw [g2,g4] at this
  exact Qfr _ _ _ this hya
 rw [List.pairwise_append]
 refine ⟨hs.sublist (List.take_sublist _ _),?_,fun x hx y hy=>?_⟩
 ·rw [List.pairwise_cons]
  exact ⟨hb,hs.sublist (List.drop_sublist _ _)⟩
 ·rcases cI.1 hy with rfl | hy
  ·exact ht x hx
  ·exact Qfr _ _ _ (ht x hx) (hb y hy)
theorem Qz6 {α:Type} {A:Nat} {a:α} {out:List α}:(Qbx A a out).Perm (a::out):=by
 unfold Qbx
 refine List.perm_middle.trans ?_
 rw [List.take_append_drop]
section
variable {n:Nat} {S:Nat -> Nat}
def okG (n:Nat) (S:Nat -> Nat) (t:Nat):Bool:=gdB n (mG n S t) && decide (cls n (mG n S t)=cls n S)
def Qmn (n:Nat) (S:Nat -> Nat):List (List Int):=((List.range (2^(Vi n (near S)).length)).filter (okG n S)).map fun t=>Qc n (mG n S t)
def Vl (n:Nat) (S:Nat -> Nat):List (List Int):=isort leL (Qmn n S)
theorem Qkn {α:Type} {c:Nat -> Bool} {f:Nat -> α}:∀j,apL (fun t=>if c t=true then [f t] else []) 0 j=((List.range j).filter c).map f
 | 0=>rfl
 | j+1=>by
  simp only [apL,Qkn j,eC,List.range_succ,List.filter_append,dF]
  congr 1
  by_cases h:c j=true
  ·simp [h]
  simp [h]
theorem Q2j {x:List Int} (hS:Gd n S):x∈Qmn n S↔∃T,x=Qc n T/\Gd n T/\(∀u w,u < n->w < n->near T u w=near S u w)/\cls n T=cls n S:=by
 unfold Qmn
 rw [cJ]
 constructor
 ·rintro ⟨t,h1,rfl⟩
  have:=(cW.1 h1).2
  unfold okG at this
  rw [aE,Qag,aO] at this
  exact ⟨_,rfl,this.1,fun u w hu hw=>Q5u hS hu hw,this.2⟩
 rintro ⟨T,rfl,h1,h2,h3⟩
 obtain ⟨t,ht,e⟩:=Q7y hS h1 h2
 refine ⟨t,cW.2 ⟨cX.2 ht,?_⟩,e⟩
 have eb:∀v,v < n->mG n S t v=T v:=fun v hv=>Q2d e hv
 unfold okG
 rw [aE,Qag,aO]
 refine ⟨?_,?_⟩
 ·obtain ⟨r,hr⟩:=Xp h1
  refine Qd1 r fun v hv j hj=>?_
  rw [eb v hv] at hj
  exact ⟨h1.inn v hv j hj,hr v hv j hj⟩
 rw [<-h3]
 refine Qez.2 fun a b c h4 h5 h6=>?_
 unfold Xa near
 rw [eb b h6,eb a (by omega),eb c h5]
theorem Q2l (hn:n<=5):(Qmn n S).length<=1024:=by
 unfold Qmn
 rw [cE]
 refine cD (List.length_filter_le _ _) ?_
 rw [List.length_range]
 exact aW (n:=2) (by omega) (Qvu hn)
end
end Go.Ab
namespace Go.Ab
open Go
section
variable {n:Nat} {S:Nat -> Nat}
theorem Qm0 {N:Nat -> Nat -> Bool} (hn:n<=5):(prs n N).length<=10/\(prs n N).length=(Vi n N).length:=by
 rw [Qng,cE]
 exact ⟨Qvu hn,rfl⟩
theorem Qg8 {k:Nat} (h:k<=10):2^k<=1024:=aW (n:=2) (by omega) h
theorem Qtx (hn1:1<=n) (hn:n<=5):Yx (n:Int) (prs n (near S))=some (((List.range (2^(Vi n (near S)).length)).filter fun t=>gdB n (mG n S t)).map fun t=>Qc n (mG n S t)):=by
 obtain ⟨hp,hpl⟩:=Qm0 (n:=n) (N:=near S) hn
 have hpow:=Qg8 hp
 have h:=Z1 (n:=2^(prs n (near S)).length) (k0:=0) (m:=1) (c:=0) (eP _) (by omega) (fun k (x:List (List Int))=>(k,x)) (body:=Xs (prs n (near S)) (n:Int))
  (fun t=>if gdB n (mG n S t)=true then [Qc n (mG n S t)] else []) id (fun t=>Y0) (out:=[]) (by simp)
  (fun t o _ ht ho=>by
   unfold Xs
   dsimp only
   rw [aH (Ql _),Qq4 (by omega),aH (dlt ht),aH (by omega)]
   have e:=Qir (n:=n) (t:=t) (P:=Vi n (near S)) (by omega) (by omega) (by omega) (fun p hp=>by have:=Yn.1 hp; omega) (body:=Vr (prs n (near S)) ((t:Int),o)) (fun s=>by
    unfold Vr; rw [Qng])
   rw [aS,e,aC]
   have e2:oG n (Vi n (near S)) t (Vi n (near S)).length=mG n S t:=rfl
   obtain ⟨c,hc1,hc2⟩:=Qru (m:=n) (show n<=7 by omega) (Ql0 (n:=n) (P:=Vi n (near S)) (t:=t) (k:=(Vi n (near S)).length) (by omega))
   rw [e2] at hc1 hc2 ⊢
   rw [hc1,aC]
   have hcg:c=gdB n (mG n S t):=by
    rw [aQ,hc2,Qag]
    exact ⟨fun h=>h.2,fun h=>⟨by omega,h⟩⟩
   rw [hcg]
   by_cases hg:gdB n (mG n S t)=true
   ·rw [aH hg,aH (by rw [aP]; simp; omega),aH hg]
   rw [aJ hg,aJ hg,dD])
  (fun o=>by
   unfold Xs
   dsimp only
   rw [aH (Ql _),Qq4 (by omega),aJ (nlt _)]; rfl)
 rw [show ((0:Nat):Int)=0 from rfl] at h
 unfold Yx
 rw [h,aC,dC,dI,Qkn,hpl]
 rfl
def Q87 (a:List Int) (out out':List (List Int)):Prop:=∃A,A<=out.length/\(∀j,A<=j->∀x,out[j]?=some x->leL x a=false)/\(A=0\/∃x,out[A - 1]?=some x/\leL x a=true)/\out'=Qbx A a out
theorem Qur {D:List (List Int)} {k:Nat} {T:Nat -> Nat} {out:List (List Int)} (hn:n<=5) (h64:L64 n T) (hk:D[k]?=some (Qc n T)) (ho:∀x∈out,x.length=n) (hl:out.length < 10000) (hD:D.length<=10000) :
  (¬ cls n T=cls n S->X1 D (cls n S) ((k:Int),out)=some (.next (zw ((k:Int)+1),out))) /\
  (cls n T=cls n S->∃out',Q87 (Qc n T) out out'/\X1 D (cls n S) ((k:Int),out)=some (.next (zw ((k:Int)+1),out'))):=by
 obtain ⟨hkl,hk2⟩:=aD.1 hk
 have hcl:=Qra (S:=T) (show n<=7 by omega)
 constructor
 ·intro hne
  unfold X1
  dsimp only
  rw [aH (dlt hkl),Qs hkl,aC,hk2,Qf4 (by omega) h64,aC,Qh0 (by omega),aC,aH (by simp [hne])]
 ·intro he
  obtain ⟨A,h1,h2,h3,h4⟩:=Q0c (n:=n) (a:=Qc n T) (out:=out) (s:=((k:Int),out)) rfl Zf (by omega) ho (by omega)
  refine ⟨Qbx A (Qc n T) out,⟨A,h1,h3,h4,rfl⟩,?_⟩
  have e1:zw ((((out++([[]]:List (List Int))).length):Int) - 1)=(out.length:Int):=by
   rw [aP,eJ,w64 (by omega)]; omega
  have hw:Qa fuel (Qfe (A:Int)) ((out.length:Int),out++([[]]:List (List Int)))=some ((out++[[]]).take (A+1)++out.drop A):=Qc9 (l:=out) (i:=out.length) (aI:=(A:Int)) h1 (by omega) rfl rfl (fun s=>rfl)
  obtain ⟨x,hx⟩:=Qeq (d:=([]:List Int)) h1 (l:=out) rfl
  unfold X1
  dsimp only
  rw [aH (dlt hkl),Qs hkl,aC,hk2,Qf4 (by omega) h64,aC,Qh0 (by omega),aC,aJ (by simp [he]),h2,aC,aH (by rw [aP,eJ]; omega),e1,hw,aC,hx,aC,aS,Qes h1 rfl]
theorem Qph (hn1:1<=n) (hn:n<=5) (hS:Gd n S):Qbf (Qc n S)=some (Vl n S):=by
 have h64:=Qkb (show n<=8 by omega) hS
 obtain ⟨hp,hpl⟩:=Qm0 (n:=n) (N:=near S) hn
 have hpow:=Qg8 hp
 unfold Qbf
 rw [Qf4 (by omega) h64,aC,Quy (by omega) h64,aC,Zf,Qtx hn1 hn,aC]
 generalize hts:(List.range (2^(Vi n (near S)).length)).filter (fun t=>gdB n (mG n S t))=ts
 have htl:ts.length<=1024:=by
  rw [<-hts]
  refine cD (List.length_filter_le _ _) ?_
  rw [List.length_range,<-hpl]; exact hpow
 have hDl:(ts.map fun t=>Qc n (mG n S t)).length=ts.length:=cE _
 have h:=Zq (n:=ts.length) (k0:=0) (by omega) (by omega) (fun i (x:List (List Int))=>(i,x)) (body:=X1 (ts.map fun t=>Qc n (mG n S t)) (cls n S))
  (fun k out=>out.Perm (((ts.take k).filter fun t=>decide (cls n (mG n S t)=cls n S)).map fun t=>Qc n (mG n S t))/\out.Pairwise fun x y=>leL x y=true) (fun r=>r=Vl n S)
  (fun k out _ hk hI=>by
   left
   obtain ⟨hI1,hI2⟩:=hI
   have hol:out.length<=1024:=by
    rw [hI1.length_eq,cE]
    refine cD (List.length_filter_le _ _) ?_
    rw [cZ]; omega
   have hoe:∀x∈out,x.length=n:=fun x hx=>by
    obtain ⟨t,_,rfl⟩:=cJ.1 (hI1.mem_iff.1 hx)
    exact Zf
   have hDk:(ts.map fun t=>Qc n (mG n S t))[k]?=some (Qc n (mG n S ts[k])):=by
    rw [bH,aG hk]; rfl
   obtain ⟨r1,r2⟩:=Qur (S:=S) (T:=mG n S ts[k]) hn (Ql0 (by omega)) hDk hoe (by omega) (by omega)
   have htk:ts.take (k+1)=ts.take k++[ts[k]]:=bL hk
   by_cases hcl:cls n (mG n S ts[k])=cls n S
   ·obtain ⟨out',⟨A,a1,a2,a3,rfl⟩,e⟩:=r2 hcl
    refine ⟨_,e,?_,Qwl a1 a2 a3 hI2⟩
    rw [htk,List.filter_append,dF]
    refine Qz6.trans ?_
    have:([ts[k]].filter fun t=>decide (cls n (mG n S t)=cls n S)).map (fun t=>Qc n (mG n S t))=[Qc n (mG n S ts[k])]:=by simp [hcl]
    rw [this]
    exact (hI1.cons _).trans (List.perm_append_singleton _ _).symm
   refine ⟨_,r1 hcl,?_,hI2⟩
   rw [htk,List.filter_append,dF]
   have:([ts[k]].filter fun t=>decide (cls n (mG n S t)=cls n S)).map (fun t=>Qc n (mG n S t))=[]:=by simp [hcl]
   rw [this,dD]
   exact hI1)
  (fun out hI=>by
   obtain ⟨hI1,hI2⟩:=hI
   refine ⟨out,?_,?_⟩
   ·unfold X1
    dsimp only
    rw [hDl,aJ (nlt _)]
   refine Qjz Qod ?_ hI2 (Qd3 Qfr Qhu _)
   refine hI1.trans ?_
   rw [cT,<-hts,List.filter_filter]
   have:(fun a=>decide (cls n (mG n S a)=cls n S) && gdB n (mG n S a))=okG n S:=by
    funext t; unfold okG; rw [Bool.and_comm]
   rw [this]
   exact (J0 leL (Qmn n S)).symm) [] ⟨by simp,List.Pairwise.nil⟩
 obtain ⟨r,h1,rfl⟩:=h
 rw [show ((0:Nat):Int)=0 from rfl] at h1
 rw [h1]; rfl
theorem Q2w {x:List Int} (hS:Gd n S):x∈Vl n S↔∃T,x=Qc n T/\Gd n T/\(∀u w,u < n->w < n->near T u w=near S u w)/\cls n T=cls n S:=by
 unfold Vl
 rw [(J0 leL (Qmn n S)).mem_iff,Q2j hS]
theorem Q27 (hn:n<=5):(Vl n S).length<=1024:=by
 unfold Vl
 rw [(J0 leL (Qmn n S)).length_eq]
 exact Q2l hn
end
end Go.Ab
namespace Go.Ab
open Go
theorem Qkf {n:Nat} (hn:n < 1000000) {body:Int->Option (Qd Int (Unit ⊕ Unit))} (p:Nat -> Bool) (hb:∀k,k < n->body (k:Int)=if p k=true then some (.done (Sum.inl ())) else some (.next (zw ((k:Int)+1))))
  (hd:body (n:Int)=some (.done (Sum.inr ()))):Qa fuel body 0=some (if (List.range n).any p=true then Sum.inl () else Sum.inr ()):=by
 rcases Qhy (n:=n) (by omega) (fun k=>¬ p k=true) (fun i (_:Unit)=>i) (body:=body) (fun _=>()) (.inr ()) (.inl ())
  (fun k hk _ hg=>by rw [hb k hk,aJ hg])
  (fun k hk _ hg=>by rw [hb k hk,aH (Classical.not_not.1 hg)])
  (fun _=>hd) with ⟨hg,h⟩ | ⟨hg,h⟩
 ·rw [show ((0:Nat):Int)=0 from rfl] at h
  rw [h,aJ]
  rw [bV]
  rintro ⟨k,hk,hp⟩
  exact hg k (cX.1 hk) hp
 ·rw [show ((0:Nat):Int)=0 from rfl] at h
  rw [h,aH]
  rw [bV]
  apply Classical.byContradiction
  intro hno
  exact hg fun k hk hp=>hno ⟨k,cX.2 hk,hp⟩
def lnB (N O:Nat -> Nat -> Bool) (a b:Nat):Bool:=N a b && !O a b && !O b a
def onB (n:Nat) (N O:Nat -> Nat -> Bool) (a b:Nat):Bool:=(List.range n).any fun c=>!decide (c=b) && O c a && !N c b
def arB (n:Nat) (O:Nat -> Nat -> Bool) (a b:Nat):Bool:=(List.range n).any fun c=>O a c && O c b
def beB (n:Nat) (N O:Nat -> Nat -> Bool) (a b:Nat):Bool:=(List.range n).any fun c=>(List.range c).any fun d=>lnB N O a c && lnB N O a d && O c b && O d b && !N c d
def ruB (n:Nat) (N O:Nat -> Nat -> Bool) (a b:Nat):Bool:=onB n N O a b || arB n O a b || beB n N O a b
def Vu (O:Nat -> Nat -> Bool) (a b:Nat):Nat -> Nat -> Bool:=fun u w=>O u w || (decide (u=a) && decide (b=w))
section
variable {n:Nat} {S:Nat -> Nat} (hn:n<=6)
abbrev skK (n:Nat) (S:Nat -> Nat):Ad:=⟨(n:Int),Qj (mI (nrN n S))⟩
abbrev mxK (n:Nat) (S:Nat -> Nat) (O:Nat -> Nat -> Bool):Qf:=⟨skK n S,Qj (mI O)⟩
include hn
theorem Qqg {a c:Nat} (ha:a < n) (hc:c < n):Qi (skK n S) (a:Int) (c:Int)=some (near S a c):=by
 rw [Qd2 (by omega) (by omega),Qv,Qhb ha hc]
 have:c < 6:=by omega
 simp [this]
theorem Qfl {O:Nat -> Nat -> Bool} {a c:Nat} (ha:a < n) (hc:c < n):Qm (mxK n S O) (a:Int) (c:Int)=some (O a c):=by
 have h:=Qd2 (m:=0) (N:=O) (a:=a) (c:=c) (by omega) (by omega)
 rw [Qv] at h
 have h6:c < 6:=by omega
 simp only [h6,decide_true,eK] at h
 exact h
theorem Qsr {O:Nat -> Nat -> Bool} {a c:Nat} (ha:a < n) (hc:c < n):Q1 (mxK n S O) (a:Int) (c:Int)=some (lnB (near S) O a c):=by
 unfold Q1
 show (Qi (skK n S) (a:Int) (c:Int)).bind _=_
 rw [Qqg hn ha hc,aC]
 unfold lnB
 cases near S a c with
 | false=>rfl
 | true =>
  rw [aH rfl]
  show (Qm (mxK n S O) (a:Int) (c:Int)).bind _=_
  rw [Qfl hn ha hc,aC]
  cases O a c with
  | true=>rfl
  | false =>
   rw [aH (by rfl)]
   show (Qm (mxK n S O) (c:Int) (a:Int)).bind _=_
   rw [Qfl hn hc ha,aC]
   cases O c a <;> rfl
theorem Q4c {O:Nat -> Nat -> Bool} {a b:Nat} (ha:a < n) (hb:b < n):Ye (mxK n S O) (a:Int) (b:Int)=some (onB n (near S) O a b):=by
 unfold Ye
 rw [Qkf (n:=n) (by omega) (fun c=>!decide (c=b) && O c a && !near S c b) (fun c hc=>by
   unfold Kq
   rw [aH (dlt hc)]
   by_cases e:c=b
   ·rw [aJ (by simp [e]),aJ (by simp [e])]
   ·rw [aH (by simp; omega)]
    show (Qm (mxK n S O) (c:Int) (a:Int)).bind _=_
    rw [Qfl hn hc ha,aC]
    cases hO:O c a with
    | false=>simp
    | true =>
     rw [aH rfl]
     show (Qi (skK n S) (c:Int) (b:Int)).bind _=_
     rw [Qqg hn hc hb,aC]
     cases near S c b <;> simp [e])
  (by unfold Kq; rw [aJ (nlt n)]),aC]
 unfold onB
 cases (List.range n).any fun c=>!decide (c=b) && O c a && !near S c b <;> rfl
theorem Q4n {O:Nat -> Nat -> Bool} {a b:Nat} (ha:a < n) (hb:b < n):Yd (mxK n S O) (a:Int) (b:Int)=some (arB n O a b):=by
 unfold Yd
 rw [Qkf (n:=n) (by omega) (fun c=>O a c && O c b) (fun c hc=>by
   unfold Kn
   rw [aH (dlt hc)]
   show (Qm (mxK n S O) (a:Int) (c:Int)).bind _=_
   rw [Qfl hn ha hc,aC]
   cases hO:O a c with
   | false=>simp
   | true =>
    rw [aH rfl]
    show (Qm (mxK n S O) (c:Int) (b:Int)).bind _=_
    rw [Qfl hn hc hb,aC]
    cases O c b <;> simp)
  (by unfold Kn; rw [aJ (nlt n)]),aC]
 unfold arB
 cases (List.range n).any fun c=>O a c && O c b <;> rfl
theorem Q10 {O:Nat -> Nat -> Bool} {a b:Nat} (ha:a < n) (hb:b < n):Xy (mxK n S O) (a:Int) (b:Int)=some (beB n (near S) O a b):=by
 have inner:∀c,c < n->Qa fuel (Vh (c:Int) (mxK n S O) (a:Int) (b:Int)) 0=some (if (List.range c).any (fun d=>lnB (near S) O a c && lnB (near S) O a d && O c b && O d b && !near S c d)=true then Sum.inl () else Sum.inr ()):=fun c hc =>
  Qkf (n:=c) (by omega) _ (fun d hd=>by
   have hdn:d < n:=by omega
   unfold Vh
   rw [aH (dlt hd)]
   show (Q1 (mxK n S O) (a:Int) (c:Int)).bind _=_
   rw [Qsr hn ha hc,aC]
   cases lnB (near S) O a c with
   | false=>simp
   | true =>
    rw [aH rfl]
    show (Q1 (mxK n S O) (a:Int) (d:Int)).bind _=_
    rw [Qsr hn ha hdn,aC]
    cases lnB (near S) O a d with
    | false=>simp
    | true =>
     rw [aH rfl]
     show (Qm (mxK n S O) (c:Int) (b:Int)).bind _=_
     rw [Qfl hn hc hb,aC]
     cases O c b with
     | false=>simp
     | true =>
      rw [aH rfl]
      show (Qm (mxK n S O) (d:Int) (b:Int)).bind _=_
      rw [Qfl hn hdn hb,aC]
      cases O d b with
      | false=>simp
      | true =>
       rw [aH rfl]
       show (Qi (skK n S) (c:Int) (d:Int)).bind _=_
       rw [Qqg hn hc hdn,aC]
       cases near S c d <;> simp)
   (by unfold Vh; rw [aJ (nlt c)])
 unfold Xy
 rw [Qkf (n:=n) (by omega) (fun c=>(List.range c).any fun d=>lnB (near S) O a c && lnB (near S) O a d && O c b && O d b && !near S c d) (fun c hc=>by
   unfold J6
   rw [aH (dlt hc),inner c hc,aC]
   cases (List.range c).any fun d=>lnB (near S) O a c && lnB (near S) O a d && O c b && O d b && !near S c d <;> rfl)
  (by unfold J6; rw [aJ (nlt n)]),aC]
 unfold beB
 cases (List.range n).any fun c=>(List.range c).any fun d=>lnB (near S) O a c && lnB (near S) O a d && O c b && O d b && !near S c d <;> rfl
omit hn in
theorem Q7h {O:Nat -> Nat -> Bool} {a b:Nat} (ha:a < 6) (hb:b < 6):Qj (sx (mI O) a (Qab (mI O a) b))=Qj (mI (Vu O a b)):=by
 refine congrArg Qj ?_
 funext i
 unfold sx
 by_cases e:i=a
 ·subst e
  rw [aH rfl]
  unfold mI
  rw [Qgm hb]
  congr 2
  funext w
  unfold Vu; simp
 rw [aJ e]
 unfold mI
 congr 2
 funext w
 unfold Vu; simp [e]
omit hn in
theorem Qvj {x1:Ad} {X:Nat -> Int} {a b:Nat} {r:Int} (hr:r=0\/r=1\/r=2) (ha:a < 6) {v0 v1 v2:Bool}
  (h0:Ye ⟨x1,Qj X⟩ (a:Int) (b:Int)=some v0) (h1:Yd ⟨x1,Qj X⟩ (a:Int) (b:Int)=some v1) (h2:Xy ⟨x1,Qj X⟩ (a:Int) (b:Int)=some v2) :
  Zi x1 (Qj X) (a:Int) (b:Int) r=if (if r=0 then v0 else if r=1 then v1 else v2)=true then some (.done (Sum.inl (Qj (sx X a (Qab (X a) b))))) else some (.next (zw (r+1))):=by
 have hnb:=Ql b
 have ha':a=0\/a=1\/a=2\/a=3\/a=4\/a=5:=by omega
 unfold Zi
 rcases hr with rfl | rfl | rfl
 ·rw [aH (by decide),aH rfl]
  show (Ye ⟨x1,Qj X⟩ (a:Int) (b:Int)).bind _=(if v0=true then some (Qd.done (Sum.inl (Qj (sx X a (Qab (X a) b))))) else some (Qd.next (zw (0+1))):Option (Qd Int ((Int × Int × Int × Int × Int × Int) ⊕ Unit)))
  rw [h0,aC]
  cases v0 with
  | false=>rfl
  | true =>
   rw [aH rfl,aH rfl]
   simp only [aH hnb]
   rcases ha' with rfl | rfl | rfl | rfl | rfl | rfl <;> rfl
 ·rw [aH (by decide),aJ (by decide),aH rfl]
  show (Yd ⟨x1,Qj X⟩ (a:Int) (b:Int)).bind _=(if v1=true then some (Qd.done (Sum.inl (Qj (sx X a (Qab (X a) b))))) else some (Qd.next (zw (1+1))):Option (Qd Int ((Int × Int × Int × Int × Int × Int) ⊕ Unit)))
  rw [h1,aC]
  cases v1 with
  | false=>rfl
  | true =>
   rw [aH rfl,aH rfl]
   simp only [aH hnb]
   rcases ha' with rfl | rfl | rfl | rfl | rfl | rfl <;> rfl
 ·rw [aH (by decide),aJ (by decide),aJ (by decide),aH rfl]
  show (Xy ⟨x1,Qj X⟩ (a:Int) (b:Int)).bind _=(if v2=true then some (Qd.done (Sum.inl (Qj (sx X a (Qab (X a) b))))) else some (Qd.next (zw (2+1))):Option (Qd Int ((Int × Int × Int × Int × Int × Int) ⊕ Unit)))
  rw [h2,aC]
  cases v2 with
  | false=>rfl
  | true =>
   rw [aH rfl,aH rfl]
   simp only [aH hnb]
   rcases ha' with rfl | rfl | rfl | rfl | rfl | rfl <;> rfl
end
end Go.Ab
namespace Go.Ab
open Go
structure Cls (n:Nat) (S T:Nat -> Nat):Prop where
 gd:Gd n T
 nr:∀u w,u < n->w < n->near T u w=near S u w
 cl:cls n T=cls n S
structure Qca (n:Nat) (S:Nat -> Nat) (O:Nat -> Nat -> Bool):Prop where
 inn:∀a b,O a b=true->a < n/\b < n
 snd:∀T,Cls n S T->∀a b,O a b=true->(T b).testBit a=true
 col:∀a b c,a≠c->a < n->b < n->c < n->Xa S a b c=true->O a b=true
def Qa6 (n:Nat) (S:Nat -> Nat) (O:Nat -> Nat -> Bool):Prop:=∀a b,a < n->b < n->lnB (near S) O a b=true->ruB n (near S) O a b=false
theorem Qjm {n:Nat} {N O:Nat -> Nat -> Bool} {a b:Nat}:onB n N O a b=true↔∃c,c < n/\c≠b/\O c a=true/\N c b=false:=by
 unfold onB
 rw [bV]
 constructor
 ·rintro ⟨c,h1,h2⟩
  simp only [aE,bK,decide_eq_false_iff_not] at h2
  exact ⟨c,cX.1 h1,h2.1.1,h2.1.2,h2.2⟩
 rintro ⟨c,h1,h2,h3,h4⟩
 refine ⟨c,cX.2 h1,?_⟩
 simp [h2,h3,h4]
theorem Qjl {n:Nat} {O:Nat -> Nat -> Bool} {a b:Nat}:arB n O a b=true↔∃c,c < n/\O a c=true/\O c b=true:=by
 unfold arB
 rw [bV]
 constructor
 ·rintro ⟨c,h1,h2⟩
  rw [aE] at h2
  exact ⟨c,cX.1 h1,h2.1,h2.2⟩
 rintro ⟨c,h1,h2,h3⟩
 exact ⟨c,cX.2 h1,by rw [h2,h3]; rfl⟩
theorem Qjp {n:Nat} {N O:Nat -> Nat -> Bool} {a b:Nat}:beB n N O a b=true↔∃c d,c < n/\d < c/\lnB N O a c=true/\lnB N O a d=true/\O c b=true/\O d b=true/\N c d=false:=by
 unfold beB
 rw [bV]
 constructor
 ·rintro ⟨c,h1,h2⟩
  rw [bV] at h2
  obtain ⟨d,h3,h4⟩:=h2
  simp only [aE,bK] at h4
  exact ⟨c,d,cX.1 h1,cX.1 h3,h4.1.1.1.1,h4.1.1.1.2,h4.1.1.2,h4.1.2,h4.2⟩
 rintro ⟨c,d,h1,h2,h3,h4,h5,h6,h7⟩
 refine ⟨c,cX.2 h1,?_⟩
 rw [bV]
 exact ⟨d,cX.2 h2,by rw [h3,h4,h5,h6,h7]; rfl⟩
theorem Qdr {N O:Nat -> Nat -> Bool} {a b:Nat}:lnB N O a b=true↔N a b=true/\O a b=false/\O b a=false:=by
 unfold lnB
 simp only [aE,bK]
 exact and_assoc
theorem Qyc {n:Nat} {S T:Nat -> Nat} {O:Nat -> Nat -> Bool} (hS:Gd n S) (h:Qca n S O) {a b:Nat} (ha:a < n) (hb:b < n) (hl:lnB (near S) O a b=true) (hr:ruB n (near S) O a b=true) (hT:Cls n S T):(T b).testBit a=true:=by
 obtain ⟨l1,l2,l3⟩:=Qdr.1 hl
 obtain ⟨r,hrk⟩:=Xp hT.gd
 have hn:near T a b=true:=by rw [hT.nr a b ha hb]; exact l1
 unfold near at hn
 rw [aN] at hn
 rcases hn with hn | hn
 rotate_left
 ·exact hn
 exfalso
 have col:∀p q,p≠q->p < n->q < n->(T a).testBit p=true->(T a).testBit q=true->near S p q=false->O p a=true:=fun p q hpq hp hq e1 e2 e3=>by
  refine h.col p a q hpq hp ha hq ?_
  rw [<-Qnu hT.cl hT.gd hS hpq hp hq ha]
  unfold Xa
  rw [e1,e2,hT.nr p q hp hq,e3]; rfl
 unfold ruB at hr
 rw [aN,aN] at hr
 rcases hr with (hr | hr) | hr
 ·obtain ⟨c,h1,h2,h3,h4⟩:=Qjm.1 hr
  have:=col b c (fun e=>h2 e.symm) hb h1 hn (h.snd T hT c a h3) (by rw [near_symm]; exact h4)
  rw [l3] at this; cases this
 ·obtain ⟨c,h1,h2,h3⟩:=Qjl.1 hr
  have g1:=hrk c h1 a (h.snd T hT a c h2)
  have g2:=hrk b hb c (h.snd T hT c b h3)
  have g3:=hrk a ha b hn
  omega
 obtain ⟨c,d,h1,h2,h3,h4,h5,h6,h7⟩:=Qjp.1 hr
 have key:∀c,c < n->lnB (near S) O a c=true->O c b=true->(T a).testBit c=true:=fun c hc hl hcb=>by
  have e1:near T a c=true:=by rw [hT.nr a c ha hc]; exact (Qdr.1 hl).1
  unfold near at e1
  rw [aN] at e1
  rcases e1 with e1 | e1
  ·exact e1
  have g1:=hrk c hc a e1
  have g2:=hrk b hb c (h.snd T hT c b hcb)
  have g3:=hrk a ha b hn
  omega
 have hd:d < n:=by omega
 have:=col c d (by omega) h1 hd (key c h1 h3 h5) (key d hd h4 h6) h7
 rw [(Qdr.1 h3).2.2] at this; cases this
theorem Q5t {n:Nat} {S:Nat -> Nat} {O:Nat -> Nat -> Bool} (hS:Gd n S) (h:Qca n S O) {a b:Nat} (ha:a < n) (hb:b < n) (hl:lnB (near S) O a b=true) (hr:ruB n (near S) O a b=true):Qca n S (Vu O a b):=by
 have key:∀u w,Vu O a b u w=true->O u w=true\/(u=a/\w=b):=fun u w e=>by
  unfold Vu at e
  rw [aN,aE] at e
  rcases e with e | ⟨e1,e2⟩
  ·exact .inl e
  exact .inr ⟨aR e1,(aR e2).symm⟩
 refine ⟨fun u w e=>?_,fun T hT u w e=>?_,fun u v w h1 h2 h3 h4 h5=>?_⟩
 ·rcases key u w e with e | ⟨rfl,rfl⟩
  ·exact h.inn u w e
  exact ⟨ha,hb⟩
 ·rcases key u w e with e | ⟨rfl,rfl⟩
  ·exact h.snd T hT u w e
  exact Qyc hS h ha hb hl hr hT
 unfold Vu; rw [h.col u v w h1 h2 h3 h4 h5]; rfl
section
variable {n:Nat} {S:Nat -> Nat} (hn:n<=6)
include hn
theorem Qyy {O:Nat -> Nat -> Bool} {a b:Nat} (ha:a < n) (hb:b < n) :
  Qa fuel (Zi (skK n S) (Qj (mI O)) (a:Int) (b:Int)) 0=some (if ruB n (near S) O a b=true then Sum.inl (Qj (mI (Vu O a b))) else Sum.inr ()):=by
 have h0:=Q4c (S:=S) (O:=O) hn ha hb
 have h1:=Q4n (S:=S) (O:=O) hn ha hb
 have h2:=Q10 (S:=S) (O:=O) hn ha hb
 have e:=Q7h (O:=O) (a:=a) (b:=b) (by omega) (by omega)
 have r0:=Qvj (x1:=skK n S) (X:=mI O) (a:=a) (b:=b) (r:=0) (.inl rfl) (by omega) h0 h1 h2
 have r1:=Qvj (x1:=skK n S) (X:=mI O) (a:=a) (b:=b) (r:=1) (.inr (.inl rfl)) (by omega) h0 h1 h2
 have r2:=Qvj (x1:=skK n S) (X:=mI O) (a:=a) (b:=b) (r:=2) (.inr (.inr rfl)) (by omega) h0 h1 h2
 rw [e] at r0 r1 r2
 have r3:Zi (skK n S) (Qj (mI O)) (a:Int) (b:Int) 3=some (.done (Sum.inr ())):=by
  unfold Zi; rw [aJ (by decide)]
 replace r0:Zi (skK n S) (Qj (mI O)) (a:Int) (b:Int) 0=(if onB n (near S) O a b=true then some (Qd.done (Sum.inl (Qj (mI (Vu O a b))))) else some (Qd.next (zw ((0:Int)+1))):Option (Qd Int ((Int × Int × Int × Int × Int × Int) ⊕ Unit))):=r0
 replace r1:Zi (skK n S) (Qj (mI O)) (a:Int) (b:Int) 1=(if arB n O a b=true then some (Qd.done (Sum.inl (Qj (mI (Vu O a b))))) else some (Qd.next (zw ((1:Int)+1))):Option (Qd Int ((Int × Int × Int × Int × Int × Int) ⊕ Unit))):=r1
 replace r2:Zi (skK n S) (Qj (mI O)) (a:Int) (b:Int) 2=(if beB n (near S) O a b=true then some (Qd.done (Sum.inl (Qj (mI (Vu O a b))))) else some (Qd.next (zw ((2:Int)+1))):Option (Qd Int ((Int × Int × Int × Int × Int × Int) ⊕ Unit))):=r2
 unfold ruB
 have hf:fuel=(fuel - 4)+1+1+1+1:=by unfold fuel; rfl
 rw [hf]
 simp only [Qa,r0]
 cases hb0:onB n (near S) O a b with
 | true=>simp
 | false =>
  simp only [aV,eT,Bool.false_or]
  rw [show zw ((0:Int)+1)=1 from rfl,r1]
  cases hb1:arB n O a b with
  | true=>simp
  | false =>
   simp only [aV,eT,Bool.false_or]
   rw [show zw ((1:Int)+1)=2 from rfl,r2]
   cases hb2:beB n (near S) O a b with
   | true=>simp
   | false =>
    simp only [aV,eT]
    rw [show zw ((2:Int)+1)=3 from rfl,r3]
def Q31 (n:Nat) (S:Nat -> Nat) (O:Nat -> Nat -> Bool) (a:Nat) (r:(Int × Int × Int × Int × Int × Int) ⊕ Unit):Prop :=
 (∃b,b < n/\lnB (near S) O a b=true/\ruB n (near S) O a b=true/\r=Sum.inl (Qj (mI (Vu O a b))))\/((∀b,b < n->lnB (near S) O a b=true->ruB n (near S) O a b=false)/\r=Sum.inr ())
theorem Q1j {O:Nat -> Nat -> Bool} {a:Nat} (ha:a < n):∃r,Qa fuel (X9 (skK n S) (Qj (mI O)) (a:Int)) 0=some r/\Q31 n S O a r:=by
 have h:=Zq (n:=n) (k0:=0) (by omega) (by omega) (fun i (_:Unit)=>i) (body:=X9 (skK n S) (Qj (mI O)) (a:Int)) (fun k _=>∀b,b < k->lnB (near S) O a b=true->ruB n (near S) O a b=false) (Q31 n S O a)
  (fun b t _ hb hI=>by
   have e:X9 (skK n S) (Qj (mI O)) (a:Int) (b:Int)=if lnB (near S) O a b=true/\ruB n (near S) O a b=true then some (.done (Sum.inl (Qj (mI (Vu O a b))))) else some (.next (zw ((b:Int)+1))):=by
    unfold X9
    rw [aH (dlt hb)]
    show (Q1 (mxK n S O) (a:Int) (b:Int)).bind _=_
    rw [Qsr hn ha hb,aC]
    cases hl:lnB (near S) O a b with
    | false=>simp
    | true =>
     rw [aJ (by simp),Qyy hn ha hb,aC]
     cases hr:ruB n (near S) O a b with
     | true=>simp
     | false=>simp
   by_cases hc:lnB (near S) O a b=true/\ruB n (near S) O a b=true
   ·right
    exact ⟨_,by rw [e,aH hc],.inl ⟨b,hb,hc.1,hc.2,rfl⟩⟩
   left
   refine ⟨(),by rw [e,aJ hc],fun b' hb' hl=>?_⟩
   by_cases e2:b'=b
   ·subst e2; exact bN.2 fun hr=>hc ⟨hl,hr⟩
   exact hI b' (by omega) hl)
  (fun t hI=>⟨_,by unfold X9; rw [aJ (nlt n)],.inr ⟨hI,rfl⟩⟩) () (fun b hb=>by omega)
 exact h
theorem Qze {O:Nat -> Nat -> Bool}:∃r,Qa fuel (Yb (skK n S) (Qj (mI O))) 0=some r/\((∃a,a < n/\∃b,b < n/\lnB (near S) O a b=true/\ruB n (near S) O a b=true/\r=Sum.inl (Qj (mI (Vu O a b))))\/(Qa6 n S O/\r=Sum.inr ())):=by
 have h:=Zq (n:=n) (k0:=0) (by omega) (by omega) (fun i (_:Unit)=>i) (body:=Yb (skK n S) (Qj (mI O))) (fun k _=>∀a,a < k->∀b,b < n->lnB (near S) O a b=true->ruB n (near S) O a b=false)
  (fun r=>(∃a,a < n/\∃b,b < n/\lnB (near S) O a b=true/\ruB n (near S) O a b=true/\r=Sum.inl (Qj (mI (Vu O a b))))\/(Qa6 n S O/\r=Sum.inr ()))
  (fun a t _ ha hI=>by
   obtain ⟨r,h1,h2⟩:=Q1j (S:=S) (O:=O) hn ha
   rcases h2 with ⟨b,hb,hl,hr,rfl⟩ | ⟨h2,rfl⟩
   ·right
    refine ⟨_,?_,.inl ⟨a,ha,b,hb,hl,hr,rfl⟩⟩
    unfold Yb
    rw [aH (dlt ha),h1]; rfl
   left
   refine ⟨(),?_,fun a' ha'=>?_⟩
   ·unfold Yb
    rw [aH (dlt ha),h1]; rfl
   by_cases e:a'=a
   ·subst e; exact h2
   exact hI a' (by omega))
  (fun t hI=>⟨_,by unfold Yb; rw [aJ (nlt n)],.inr ⟨fun a b ha hb hl=>hI a ha b hb hl,rfl⟩⟩) () (fun a ha=>by omega)
 exact h
end
end Go.Ab
namespace Go.Ab
open Go
theorem Qxj {O:Nat -> Nat -> Bool} {a b:Nat} (hb:b < 6):sx (mI O) a (Qab (mI O a) b)=mI (Vu O a b):=by
 funext i
 unfold sx
 by_cases e:i=a
 ·subst e
  rw [aH rfl]
  unfold mI
  rw [Qgm hb]
  congr 2
  funext w
  unfold Vu; simp
 rw [aJ e]
 unfold mI
 congr 2
 funext w
 unfold Vu; simp [e]
theorem Q5q {x3:List (Int × Int × Int)} {X:Nat -> Int} {k a b c:Nat} (hk:decide ((k:Int) < (x3.length:Int))=true) (hl:lkI x3 (k:Int)=some ((a:Int),(b:Int),(c:Int))) (ha:a < 6) (hc:c < 6) :
  Yc x3 ((k:Int),Qj X)=some (.next (zw ((k:Int)+1),Qj (sx (sx X a (Qab (X a) b)) c (Qab (sx X a (Qab (X a) b) c) b)))):=by
 have hnb:=Ql b
 unfold Yc
 dsimp only
 rw [aH hk,hl,aC]
 dsimp only
 have ha':a=0\/a=1\/a=2\/a=3\/a=4\/a=5:=by omega
 have hc':c=0\/c=1\/c=2\/c=3\/c=4\/c=5:=by omega
 simp only [aH hnb]
 clear hk hl
 rcases ha' with rfl | rfl | rfl | rfl | rfl | rfl <;> rcases hc' with rfl | rfl | rfl | rfl | rfl | rfl <;> rfl
def Q7m (L:List (Int × Int × Int)) (k:Nat) (O:Nat -> Nat -> Bool):Prop:=∀u w,O u w=true↔∃i,i < k/\∃a b c:Nat,L[i]?=some ((a:Int),(b:Int),(c:Int))/\w=b/\(u=a\/u=c)
section
variable {n:Nat} {S:Nat -> Nat} (hn:n<=6) (hS:Gd n S)
include hn hS
theorem Qzm:∃O,Qa fuel (Yc (cls n S)) (0,0,0,0,0,0,0)=some (Qj (mI O))/\Qca n S O:=by
 have hcl:=Qra (n:=n) (S:=S) (by omega)
 have h:=Zq (n:=(cls n S).length) (k0:=0) (by omega) (by omega) (fun i (x:Int × Int × Int × Int × Int × Int)=>(i,x)) (body:=Yc (cls n S))
  (fun k x=>∃O,x=Qj (mI O)/\Q7m (cls n S) k O) (fun r=>∃O,r=Qj (mI O)/\Q7m (cls n S) (cls n S).length O)
  (fun k x _ hk hI=>by
   left
   obtain ⟨O,rfl,hO⟩:=hI
   obtain ⟨a,b,c,h1,h2,h3,h4,h5⟩:=Qjs.1 (bO hk)
   rw [Q5q (a:=a) (b:=b) (c:=c) (dlt hk) (by rw [Qs hk,h5]) (by omega) (by omega),Qxj (by omega),Qxj (by omega)]
   refine ⟨_,rfl,_,rfl,fun u w=>?_⟩
   have e:Vu (Vu O a b) c b u w=true↔O u w=true\/(w=b/\(u=a\/u=c)):=by
    unfold Vu
    simp only [aN,aE,aO]
    constructor
    ·rintro ((h | ⟨rfl,rfl⟩) | ⟨rfl,rfl⟩)
     ·exact .inl h
     ·exact .inr ⟨rfl,.inl rfl⟩
     exact .inr ⟨rfl,.inr rfl⟩
    rintro (h | ⟨rfl,rfl | rfl⟩)
    ·exact .inl (.inl h)
    ·exact .inl (.inr ⟨rfl,rfl⟩)
    exact .inr ⟨rfl,rfl⟩
   rw [e,hO u w]
   constructor
   ·rintro (⟨i,hi,h⟩ | h)
    ·exact ⟨i,by omega,h⟩
    exact ⟨k,by omega,a,b,c,by rw [aG hk,h5],h⟩
   rintro ⟨i,hi,a',b',c',h6,h7⟩
   by_cases e:i=k
   ·subst e
    right
    rw [aG hk,h5] at h6
    simp only [aL,aX,dE] at h6
    obtain ⟨rfl,rfl,rfl⟩:=h6
    exact h7
   exact .inl ⟨i,by omega,a',b',c',h6,h7⟩)
  (fun x hI=>by
   obtain ⟨O,rfl,hO⟩:=hI
   refine ⟨Qj (mI O),?_,O,rfl,hO⟩
   unfold Yc
   dsimp only
   rw [aJ (nlt _)]) (0,0,0,0,0,0) ⟨fun _ _=>false,(by
    have:∀m,msk m (fun _=>false)=0:=fun m=>by
     induction m with
     | zero=>rfl
     | succ m ih=>simp [msk,ih]
    unfold Qj mI
    rw [this 6]; rfl),fun u w=>⟨fun h=>(by cases h),fun ⟨i,hi,_⟩=>(by omega)⟩⟩
 obtain ⟨r,h1,O,rfl,hO⟩:=h
 rw [show ((0:Nat):Int)=0 from rfl] at h1
 refine ⟨O,h1,?_⟩
 have key:∀u w,O u w=true↔∃c,u≠c/\u < n/\w < n/\c < n/\Xa S u w c=true:=fun u w=>by
  rw [hO u w]
  constructor
  ·rintro ⟨i,hi,a,b,c,h2,rfl,h3⟩
   obtain ⟨a',b',c',h4,h5,h6,h7,h8⟩:=Qjs.1 (aF h2)
   simp only [aX,dE] at h8
   obtain ⟨rfl,rfl,rfl⟩:=h8
   rcases h3 with rfl | rfl
   ·exact ⟨c,by omega,by omega,h6,h5,h7⟩
   exact ⟨a,by omega,h5,h6,by omega,by rw [colB_symm]; exact h7⟩
  rintro ⟨c,h2,h3,h4,h5,h6⟩
  rcases eW h2 with h7 | h7
  ·obtain ⟨i,hi⟩:=bW.1 ((Qjs (n:=n) (S:=S) (p:=((u:Int),(w:Int),(c:Int)))).2 ⟨u,w,c,h7,h5,h4,h6,rfl⟩)
   exact ⟨i,(aD.1 hi).1,u,w,c,hi,rfl,.inl rfl⟩
  obtain ⟨i,hi⟩:=bW.1 ((Qjs (n:=n) (S:=S) (p:=((c:Int),(w:Int),(u:Int)))).2 ⟨c,w,u,h7,h3,h4,by rw [colB_symm]; exact h6,rfl⟩)
  exact ⟨i,(aD.1 hi).1,c,w,u,hi,rfl,.inr rfl⟩
 refine ⟨fun a b e=>?_,fun T hT a b e=>?_,fun a b c h1 h2 h3 h4 h5=>(key a b).2 ⟨c,h1,h2,h3,h4,h5⟩⟩
 ·obtain ⟨c,_,h2,h3,_⟩:=(key a b).1 e
  exact ⟨h2,h3⟩
 obtain ⟨c,h1,h2,h3,h4,h5⟩:=(key a b).1 e
 rw [<-Qnu hT.cl hT.gd hS h1 h2 h4 h3] at h5
 unfold Xa at h5
 simp only [aE] at h5
 exact h5.1.1
def eL2 (n:Nat) (p:Nat -> Nat -> Bool):List (Int × Int):=apL (fun a=>apL (fun b=>if p a b=true then [((a:Int),(b:Int))] else []) 0 n) 0 n
omit hn hS in
theorem Qrj {α β σ ρ:Type} {n m:Nat} (hn:n<=6) (mkS:Int->List α->List β->σ) {body:σ->Option (Qd σ ρ)} (L:Nat -> List α) (M:Nat -> List β) (fin:List α->List β->ρ) (hL:∀k,(L k).length<=6) (hM:∀k,(M k).length<=6) {out:List α} {out2:List β} (hout:out.length<=100) (hout2:out2.length<=100)
  (step:∀k o o2,k < n->o.length<=200->o2.length<=200->body (mkS (k:Int) o o2)=some (.next (mkS (zw ((k:Int)+1)) (o++L k) (o2++M k))))
  (done:∀o o2,body (mkS (n:Int) o o2)=some (.done (fin o o2))):Qa fuel body (mkS 0 out out2)=some (fin (out++apL L 0 n) (out2++apL M 0 n)):=by
 have h:=Zt (n:=n) (k0:=0) (by omega) (by omega) (fun i (x:List α × List β)=>mkS i x.1 x.2) (body:=body) (fun k=>(out++apL L 0 k,out2++apL M 0 k)) (fin (out++apL L 0 n) (out2++apL M 0 n))
  (fun k _ h2=>by
   have hb:=Zl (k0:=0) hL k
   have hb2:=Zl (k0:=0) hM k
   dsimp only
   rw [step k _ _ h2 (by rw [aP]; omega) (by rw [aP]; omega)]
   simp only [apL,eC,dT])
  (by exact done _ _)
 rw [show ((0:Nat):Int)=0 from rfl] at h
 simpa [apL] using h
omit hS in
theorem Qyv {O:Nat -> Nat -> Bool}:Qa fuel (Vb (skK n S) (Qj (mI O))) (0,([]:List (Int × Int)),([]:List (Int × Int)))=some (eL2 n O,eL2 n fun a b=>decide (a < b) && lnB (near S) O a b):=by
 have hif:∀(c:Bool) (x:Int × Int),(if c=true then [x] else []).length<=6:=fun c x=>by cases c <;> simp
 have inner:∀a,a < n->∀(o o2:List (Int × Int)) (s:Int × List (Int × Int) × List (Int × Int)),s.1=(a:Int)->o.length<=100->o2.length<=100->Qa fuel (Y9 (skK n S) (Qj (mI O)) s) (0,o,o2)=some (o++apL (fun b=>if O a b=true then [((a:Int),(b:Int))] else []) 0 n,o2++apL (fun b=>if (decide (a < b) && lnB (near S) O a b)=true then [((a:Int),(b:Int))] else []) 0 n):=fun a ha o o2 s hs ho ho2 =>
  Qrj (m:=0) hn (fun i x y=>(i,x,y)) (body:=Y9 (skK n S) (Qj (mI O)) s) _ _ (fun x y=>(x,y)) (fun k=>hif _ _) (fun k=>hif _ _) ho ho2
   (fun b o o2 hb ho ho2=>by
    unfold Y9
    dsimp only
    rw [aH (dlt hb),hs]
    show (Qm (mxK n S O) (a:Int) (b:Int)).bind _=_
    rw [Qfl hn ha hb,aC]
    have hline:Q1 (mxK n S O) (a:Int) (b:Int)=some (lnB (near S) O a b):=Qsr hn ha hb
    have hlt:(decide ((a:Int) < (b:Int)))=decide (a < b):=by rw [aQ]; simp
    rw [hlt]
    have l1:(o++([((a:Int),(b:Int))]:List (Int × Int))).length*16<=140737488355328:=by rw [aP,eJ]; omega
    have l2:(o2++([((a:Int),(b:Int))]:List (Int × Int))).length*16<=140737488355328:=by rw [aP,eJ]; omega
    cases hO:O a b with
    | true =>
     rw [aH rfl,aH l1]
     cases hd:decide (a < b) with
     | true =>
      rw [aH rfl]
      show (Q1 (mxK n S O) (a:Int) (b:Int)).bind _=_
      rw [hline,aC]
      cases hl:lnB (near S) O a b with
      | true=>rw [aH rfl,aH l2]; simp
      | false=>simp
     | false=>simp
    | false =>
     rw [aJ (by decide)]
     cases hd:decide (a < b) with
     | true =>
      rw [aH rfl]
      show (Q1 (mxK n S O) (a:Int) (b:Int)).bind _=_
      rw [hline,aC]
      cases hl:lnB (near S) O a b with
      | true=>rw [aH rfl,aH l2]; simp
      | false=>simp
     | false=>simp)
   (fun o o2=>by unfold Y9; dsimp only; rw [aJ (nlt n)])
 have hlen:∀(p:Nat -> Nat -> Bool) a,(apL (fun b=>if p a b=true then [((a:Int),(b:Int))] else []) 0 n).length<=6:=fun p a=>by
  have:=Zl (L:=fun b=>if p a b=true then [((a:Int),(b:Int))] else []) (k0:=0) (m:=1) (fun _=>Y0) n
  omega
 have h:=Zt (n:=n) (k0:=0) (by omega) (by omega) (fun i (x:List (Int × Int) × List (Int × Int))=>(i,x.1,x.2)) (body:=Vb (skK n S) (Qj (mI O)))
  (fun k=>(apL (fun a=>apL (fun b=>if O a b=true then [((a:Int),(b:Int))] else []) 0 n) 0 k,apL (fun a=>apL (fun b=>if (decide (a < b) && lnB (near S) O a b)=true then [((a:Int),(b:Int))] else []) 0 n) 0 k))
  (eL2 n O,eL2 n fun a b=>decide (a < b) && lnB (near S) O a b)
  (fun k _ hk=>by
   have l1:=Zl (k0:=0) (hlen O) k
   have l2:=Zl (k0:=0) (hlen fun a b=>decide (a < b) && lnB (near S) O a b) k
   unfold Vb
   dsimp only
   rw [aH (dlt hk),inner k hk _ _ _ rfl (by omega) (by omega),aC]
   simp only [apL,eC])
  (by unfold Vb; dsimp only; rw [aJ (nlt n)]; rfl)
 rw [show ((0:Nat):Int)=0 from rfl] at h
 exact h
def Qva (O:Nat -> Nat -> Bool):Nat := cnt 36 fun k=>O (k / 6) (k % 6)
omit hn hS in
theorem Q1u {O:Nat -> Nat -> Bool} {a b:Nat} (ha:a < 6) (hb:b < 6) (h:O a b=false):Qva O+1<=Qva (Vu O a b):=by
 unfold Qva
 have hk:a*6+b < 36:=by omega
 have hd:(a*6+b) / 6=a:=by omega
 have hm:(a*6+b) % 6=b:=by omega
 have e:=Qgq (n:=36) (v:=a*6+b) (p:=fun k=>Vu O a b (k / 6) (k % 6)) hk (by rw [hd,hm]; unfold Vu; simp)
 rw [<-e]
 refine Nat.add_le_add_right (Qeu fun i hi hO=>?_) 1
 have hne:¬ a*6+b=i:=fun e2=>by
  subst e2
  rw [hd,hm,h] at hO; cases hO
 unfold Vu
 rw [hO]; simp [hne]
theorem Quh:∀(j N:Nat) (O:Nat -> Nat -> Bool),36 - Qva O<=j->j < N->Qca n S O ->
  ∃O',Qa N (Xg (skK n S)) (Qj (mI O))=some (eL2 n O',eL2 n fun a b=>decide (a < b) && lnB (near S) O' a b)/\Qca n S O'/\Qa6 n S O'
 | j,0,O,_,h2,_=>by omega
 | j,N+1,O,h1,h2,hO=>by
  obtain ⟨r,h3,h4⟩:=Qze (S:=S) (O:=O) hn
  unfold Qa
  rcases h4 with ⟨a,ha,b,hb,hl,hr,rfl⟩ | ⟨hc,rfl⟩
  ·have e:Xg (skK n S) (Qj (mI O))=some (.next (Qj (mI (Vu O a b)))):=by
    unfold Xg; rw [h3]; rfl
   rw [e]
   have hc:=Q1u (O:=O) (a:=a) (b:=b) (by omega) (by omega) (Qdr.1 hl).2.1
   have hle:Qva (Vu O a b)<=36:=Qo5 36 _
   match j,h1,h2 with
   | 0,h1,h2=>omega
   | j+1,h1,h2=>exact Quh j N _ (by omega) (by omega) (Q5t hS hO ha hb hl hr)
  refine ⟨O,?_,hO,hc⟩
  have e:Xg (skK n S) (Qj (mI O))=some (.done (eL2 n O,eL2 n fun a b=>decide (a < b) && lnB (near S) O a b)):=by
   unfold Xg
   rw [h3,aC]
   dsimp only
   rw [Qyv hn]; rfl
  rw [e]
theorem Qc0:∃O,Q3 (Qc n S)=some ⟨(n:Int),eL2 n O,eL2 n fun a b=>decide (a < b) && lnB (near S) O a b⟩/\Qca n S O/\Qa6 n S O:=by
 obtain ⟨O,h1,h2⟩:=Qzm (S:=S) hn hS
 obtain ⟨O',h3,h4,h5⟩:=Quh (S:=S) hn hS 36 fuel O (by omega) (by unfold fuel; omega) h2
 refine ⟨O',?_,h4,h5⟩
 unfold Q3
 rw [Qjg hn hS,aC,Qk4 hn hS,aC,h1,aC]
 show (Qa fuel (Xg (skK n S)) (Qj (mI O))).bind _=_
 rw [h3]; rfl
end
end Go.Ab
namespace Go.Ab
open Go
def tbB (m k:Nat):Bool:=Nat.beq (Nat.land (Nat.shiftRight m k) 1) 1
theorem Q0q {m k:Nat}:tbB m k=m.testBit k:=by
 rw [Nat.testBit_eq_decide_div_mod_eq]
 show Nat.beq (m >>> k &&& 1) 1=_
 rw [Nat.and_one_is_mod,Nat.shiftRight_eq_div_pow]
 rcases Nat.mod_two_eq_zero_or_one (m / 2^k) with h | h <;> rw [h] <;> rfl
def egI (i j:Nat):Nat := j*(j - 1) / 2+i
def eB (c i j:Nat):Bool:=tbB c (egI i j)
def ajB (c u w:Nat):Bool:=cond (Nat.blt u w) (eB c u w) (cond (Nat.blt w u) (eB c w u) false)
def paB (c f u v:Nat):Bool:=cond (Nat.blt u v) (eB c u v && !eB f u v) (cond (Nat.blt v u) (eB c v u && eB f v u) false)
def r5:List Nat := [0,1,2,3,4]
def icB (c a b:Nat):Bool:=paB c 0 a b && r5.any fun x=>!Nat.beq x a && paB c 0 x b && !ajB c a x
def knB (c:Nat) (G:List Nat) (a b:Nat):Bool:=icB c a b || G.any fun x=>Nat.beq x (5*a+b)
def stB (c:Nat) (G:List Nat) (a b:Nat):Bool :=
 (r5.any fun u=>!Nat.beq u b && knB c G u a && !ajB c u b) || (r5.any fun u=>knB c G a u && knB c G u b) ||
 (r5.any fun u=>r5.any fun w=>Nat.blt w u && ajB c a u && ajB c a w && knB c G u b && knB c G w b && !ajB c u w && !(paB c 0 u a && paB c 0 w a))
def drB (c:Nat):List Nat -> List Nat -> Bool
 | _,[]=>true
 | G,x::l=>paB c 0 (x / 5) (x % 5) && stB c G (x / 5) (x % 5) && drB c (x::G) l
def tM (c f v:Nat):Nat := msk 5 fun u=>paB c f u v
def clB (c f a b d:Nat):Bool:=paB c f a b && paB c f d b && !ajB c a d
def wtB (c f:Nat):Bool:=Nat.beq (pls 5 (tM c f) 5) 31 && r5.all fun b=>r5.all fun a=>r5.all fun d=>!Nat.blt a d || (clB c f a b d==clB c 0 a b d)
def cvB (c:Nat) (D W:List Nat):Bool:=r5.all fun a=>r5.all fun b=>!paB c 0 a b || icB c a b || (D.any fun x=>Nat.beq x (5*a+b)) || W.any fun f=>eB f a b
def chB (c:Nat) (D W:List Nat):Bool:=drB c [] D && W.all (wtB c) && cvB c D W
def chL:Nat -> List (List Nat × List Nat)->Bool
 | _,[]=>true
 | c,x::l=>chB c x.1 x.2 && chL (c+1) l
theorem V6 : ∀(l:List (List Nat × List Nat)) (c:Nat),chL c l=true->∀i,i < l.length->∃D W,chB (c+i) D W=true
 | [],_,_,i,hi=>by simp at hi
 | x::l,c,h,i,hi=>by
  simp only [chL,aE] at h
  cases i with
  | zero=>exact ⟨_,_,h.1⟩
  | succ i =>
   have:=V6 l (c+1) h.2 i (by simpa using hi)
   rwa [show c+1+i=c+(i+1) by omega] at this
def tW0:List (List Nat × List Nat):=[([],[]),([],[1]),([],[2]),([],[1,2]),([],[4]),([],[5]),([],[]),([],[7]),([],[8]),([],[1,8]),([],[2,8]),([],[1,2,8]),([],[12]),([],[5,8]),([],[8]),([],[7,8]),([],[16]),([],[17]),([],[18]),([],[17,2]),([],[4,16]),([],[5,17]),([],[16]),([],[7,17]),([],[]),([],[25]),([],[2]),([],[25,2]),([],[4]),([],[13,16]),([],[]),([],[7,24]),([],[32]),([],[33]),([],[34]),([],[34,1]),([],[36]),([],[37]),([13],[]),([],[39]),([],[]),([],[1]),([],[42]),([],[42,1]),([],[4]),([],[5]),([13,3],[]),([],[46,1]),([],[]),([],[1]),([],[2]),([],[1,2]),([],[52]),([],[53]),([13,8],[]),([],[55]),([],[]),([],[1]),([],[2]),([3],[1,2]),([],[4]),([8],[5]),([],[32]),([],[63])]
def tW1:List (List Nat × List Nat):=[([],[64]),([],[1,64]),([],[2,64]),([],[1,2,64]),([],[68]),([],[5,64]),([],[64]),([],[7,64]),([],[8,64]),([],[1,8,64]),([],[2,8,64]),([],[1,2,8,64]),([],[68,8]),([],[5,64,8]),([],[8,64]),([],[7,64,8]),([],[80]),([],[17,64]),([],[18,64]),([],[17,2,64]),([],[68,16]),([],[5,17,64]),([],[80]),([],[7,64,17]),([],[64]),([],[25,64]),([],[2,64]),([],[25,64,2]),([],[68]),([],[13,80]),([],[64]),([],[7,80,9]),([],[96]),([],[33,64]),([],[34,64]),([],[34,1,64]),([],[100]),([],[37,64]),([13],[64]),([],[39,64]),([],[64]),([],[1,64]),([],[42,64]),([],[42,1,64]),([],[68]),([],[5,64]),([13,3],[64]),([],[46,1,64]),([],[64]),([],[1,64]),([],[2,64]),([],[1,2,64]),([],[116]),([],[53,64]),([13,8],[64]),([],[55,64]),([],[64]),([],[1,64]),([],[2,64]),([3],[1,2,64]),([],[68]),([8],[5,64]),([],[96]),([],[63,64])]
def tW2:List (List Nat × List Nat):=[([],[128]),([],[129]),([],[130]),([],[129,2]),([],[4,128]),([],[5,129]),([],[128]),([],[7,129]),([],[136]),([],[129,8]),([],[130,8]),([],[129,2,8]),([],[12,128]),([],[5,129,8]),([],[136]),([],[7,8,129]),([],[16,128]),([],[17,129]),([],[18,128]),([],[17,2,129]),([],[4,16,128]),([],[5,17,129]),([],[16,128]),([],[7,129,17]),([],[128]),([],[25,129]),([],[130]),([],[137,18]),([],[4,128]),([],[13,129,16]),([],[128]),([],[137,6,16]),([],[160]),([],[161]),([],[162]),([],[34,129]),([],[36,128]),([],[37,129]),([13],[128]),([],[39,129]),([],[128]),([],[129]),([],[170]),([],[161,10]),([],[4,128]),([],[5,129]),([13,3],[128]),([],[46,129]),([],[128]),([],[129]),([],[130]),([],[129,2]),([],[52,128]),([],[53,129]),([13,8],[128]),([],[55,129]),([],[128]),([],[129]),([],[130]),([3],[129,2]),([],[4,128]),([8],[5,129]),([],[160]),([],[63,129])]
def tW3:List (List Nat × List Nat):=[([],[]),([],[193]),([],[2]),([],[193,2]),([],[4]),([],[69,128]),([],[]),([],[193,6]),([],[8]),([],[193,8]),([],[2,8]),([],[193,8,2]),([],[12]),([],[69,136]),([],[8]),([],[193,12,3]),([],[16]),([],[81,128]),([],[18]),([],[193,2,17]),([],[4,16]),([],[69,128,17]),([],[16]),([],[193,6,17]),([],[]),([],[193,24]),([],[2]),([],[193,24,2]),([],[4]),([],[69,24,128]),([],[]),([],[193,6,24]),([],[32]),([],[225]),([],[34]),([],[193,34]),([],[36]),([],[101,128]),([13],[]),([],[39,192]),([],[]),([],[193]),([],[42]),([],[225,10]),([],[4]),([],[69,128]),([13,3],[]),([],[46,193]),([],[]),([],[193]),([],[2]),([],[193,2]),([],[52]),([],[117,128]),([13,8],[]),([],[55,192]),([],[]),([],[193]),([],[2]),([3],[193,2]),([],[4]),([8],[69,128]),([],[32]),([],[63,192])]
def tW4:List (List Nat × List Nat):=[([],[256]),([],[257]),([],[258]),([],[258,1]),([],[260]),([],[261]),([14],[]),([],[263]),([],[264]),([],[257,8]),([],[258,8]),([],[258,1,8]),([],[268]),([],[261,8]),([14],[8]),([],[263,8]),([],[272]),([],[273]),([],[274]),([],[17,258]),([],[260,16]),([],[261,17]),([14],[16]),([],[263,17]),([],[256]),([],[281]),([],[258]),([],[25,258]),([],[260]),([],[269,16]),([14],[]),([],[263,24]),([],[32,256]),([],[257,32]),([],[34,258]),([],[34,1,258]),([],[36,260]),([],[261,37]),([13,14],[]),([],[263,38]),([],[256]),([],[257]),([],[42,258]),([],[266,33]),([],[260]),([],[261]),([13,14,3],[]),([],[263,44]),([],[256]),([],[257]),([],[258]),([],[258,1]),([],[52,260]),([],[277,32]),([13,14,8],[]),([],[279,35]),([],[256]),([],[257]),([],[258]),([3],[258,1]),([],[260]),([8],[261]),([14],[32]),([],[287,32])]
def tW5:List (List Nat × List Nat):=[([],[]),([],[1]),([],[322]),([],[322,1]),([],[4]),([],[5]),([14,4],[]),([],[326,1]),([],[8]),([],[1,8]),([],[322,8]),([],[322,1,8]),([],[12]),([],[5,8]),([14,4],[8]),([],[326,1,8]),([],[16]),([],[17]),([],[338]),([],[322,17]),([],[4,16]),([],[5,17]),([14,4],[16]),([],[326,17]),([],[]),([],[25]),([],[322]),([],[281,66]),([],[4]),([],[13,16]),([14,4],[]),([],[326,25]),([],[32]),([],[33]),([],[98,256]),([],[322,1,34]),([],[36]),([],[37]),([13,14,4],[]),([],[326,39]),([],[]),([],[1]),([],[322,40]),([],[322,33,40]),([],[4]),([],[5]),([13,14,3,4],[]),([],[326,44,1]),([],[]),([],[1]),([],[322]),([],[322,1]),([],[52]),([],[53]),([13,14,8,4],[]),([],[55,324]),([],[]),([],[1]),([],[322]),([3],[322,1]),([],[4]),([8],[5]),([14,4],[32]),([],[63,324])]
def tW6:List (List Nat × List Nat):=[([],[]),([],[1]),([],[2]),([],[1,2]),([],[388]),([],[389]),([14,9],[]),([],[391]),([],[8]),([],[1,8]),([],[2,8]),([],[1,2,8]),([],[396]),([],[389,8]),([14,9],[8]),([],[391,8]),([],[16]),([],[17]),([],[18]),([],[17,2]),([],[388,16]),([],[389,17]),([14,9],[16]),([],[391,17]),([],[]),([],[25]),([],[2]),([],[25,2]),([],[388]),([],[397,16]),([14,9],[]),([],[391,24]),([],[32]),([],[33]),([],[34]),([],[34,1]),([],[164,256]),([],[389,37]),([13,14,9],[]),([],[391,38]),([],[]),([],[1]),([],[42]),([],[42,1]),([],[388]),([],[389]),([13,14,3,9],[]),([],[391,44]),([],[]),([],[1]),([],[2]),([],[1,2]),([],[388,48]),([],[389,49]),([13,14,8,9],[]),([],[391,51]),([],[]),([],[1]),([],[2]),([3],[1,2]),([],[388]),([8],[389]),([14,9],[32]),([],[399,48])]
def tW7:List (List Nat × List Nat):=[([],[]),([],[1]),([],[2]),([4],[1,2]),([],[4]),([9],[5]),([],[256]),([],[455]),([],[8]),([],[1,8]),([],[2,8]),([4],[1,2,8]),([],[12]),([9],[5,8]),([],[264]),([],[455,8]),([],[16]),([],[17]),([],[18]),([4],[17,2]),([],[4,16]),([9],[5,17]),([],[272]),([],[455,17]),([],[]),([],[25]),([],[2]),([4],[25,2]),([],[4]),([9],[13,16]),([],[256]),([],[455,24]),([],[32]),([],[33]),([],[34]),([4],[34,1]),([],[36]),([9],[37]),([13],[256]),([],[455,38]),([],[]),([],[1]),([],[42]),([4],[42,1]),([],[4]),([9],[5]),([13,3],[256]),([],[455,44]),([],[]),([],[1]),([],[2]),([4],[1,2]),([],[52]),([9],[53]),([13,8],[256]),([],[455,51]),([],[]),([],[1]),([],[2]),([3,4],[1,2]),([],[4]),([8,9],[5]),([],[32,256]),([],[455,56])]
def tW8:List (List Nat × List Nat):=[([],[512]),([],[513]),([],[514]),([],[513,2]),([],[516]),([],[517]),([],[512]),([],[519]),([],[520]),([],[520,1]),([],[520,2]),([],[520,1,2]),([],[524]),([],[5,520]),([],[520]),([],[524,3]),([],[528]),([],[529]),([],[530]),([],[529,2]),([],[528,4]),([],[529,5]),([],[528]),([],[531,4]),([19],[]),([],[537]),([19],[2]),([],[537,2]),([19],[4]),([],[537,5]),([19],[]),([],[537,6]),([],[544]),([],[545]),([],[546]),([],[546,1]),([],[548]),([],[549]),([13,19],[]),([],[551]),([19],[]),([19],[1]),([],[554]),([],[554,1]),([19],[4]),([19],[5]),([13,19,3],[]),([],[558,1]),([19],[]),([19],[1]),([19],[2]),([19],[1,2]),([],[564]),([],[565]),([13,19,8],[]),([],[567]),([19],[]),([19],[1]),([19],[2]),([3,19],[1,2]),([19],[4]),([8,19],[5]),([19],[32]),([],[575])]
def tW9:List (List Nat × List Nat):=[([],[]),([],[1]),([],[2]),([],[1,2]),([],[4]),([],[5]),([],[]),([],[7]),([],[584]),([],[584,1]),([],[584,2]),([],[584,1,2]),([],[588]),([],[517,72]),([],[584]),([],[588,3]),([],[16]),([],[17]),([],[18]),([],[17,2]),([],[4,16]),([],[5,17]),([],[16]),([],[7,17]),([19,4],[]),([],[600,1]),([19,4],[2]),([],[600,1,2]),([19,4],[4]),([],[600,5]),([19,4],[]),([],[600,7]),([],[32]),([],[33]),([],[34]),([],[34,1]),([],[36]),([],[37]),([13],[]),([],[39]),([19,4],[]),([19,4],[1]),([],[616,2]),([],[616,1,2]),([19,4],[4]),([19,4],[5]),([13,19,3,4],[]),([],[620,3]),([],[]),([],[1]),([],[2]),([],[1,2]),([],[52]),([],[53]),([13,8],[]),([],[55]),([19,4],[]),([19,4],[1]),([19,4],[2]),([3,19,4],[1,2]),([19,4],[4]),([8,19,4],[5]),([19,4],[32]),([],[636,3])]
def Q54:List (List Nat × List Nat):=[([],[]),([],[1]),([],[2]),([],[1,2]),([],[4]),([],[5]),([],[]),([],[7]),([],[8]),([],[1,8]),([],[2,8]),([],[1,2,8]),([],[12]),([],[5,8]),([],[8]),([],[7,8]),([],[656]),([],[657]),([],[658]),([],[657,2]),([],[656,4]),([],[657,5]),([],[656]),([],[659,4]),([19,9],[]),([],[665]),([19,9],[2]),([],[665,2]),([19,9],[4]),([],[665,5]),([19,9],[]),([],[665,6]),([],[32]),([],[33]),([],[34]),([],[34,1]),([],[36]),([],[37]),([13],[]),([],[39]),([],[]),([],[1]),([],[42]),([],[42,1]),([],[4]),([],[5]),([13,3],[]),([],[46,1]),([19,9],[]),([19,9],[1]),([19,9],[2]),([19,9],[1,2]),([],[688,4]),([],[689,5]),([13,19,8,9],[]),([],[691,4]),([19,9],[]),([19,9],[1]),([19,9],[2]),([3,19,9],[1,2]),([19,9],[4]),([8,19,9],[5]),([19,9],[32]),([],[699,4])]
def Q6s:List (List Nat × List Nat):=[([],[]),([],[1]),([],[2]),([],[1,2]),([],[4]),([],[5]),([],[]),([],[7]),([],[8]),([4],[1,8]),([],[2,8]),([4],[1,2,8]),([],[12]),([4],[5,8]),([],[8]),([4],[7,8]),([],[16]),([9],[17]),([],[18]),([9],[17,2]),([],[4,16]),([9],[5,17]),([],[16]),([9],[7,17]),([],[512]),([],[729]),([],[514]),([],[729,2]),([],[516]),([],[729,5]),([],[512]),([],[729,6]),([],[32]),([],[33]),([],[34]),([],[34,1]),([],[36]),([],[37]),([13],[]),([],[39]),([],[]),([4],[1]),([],[42]),([4],[42,1]),([],[4]),([4],[5]),([13,3],[]),([4],[46,1]),([],[]),([9],[1]),([],[2]),([9],[1,2]),([],[52]),([9],[53]),([13,8],[]),([9],[55]),([19],[]),([19,4,9],[1]),([19],[2]),([3,19,4,9],[1,2]),([19],[4]),([8,19,4,9],[5]),([],[544]),([],[761,6])]
def Q65:List (List Nat × List Nat):=[([],[]),([],[1]),([],[2]),([],[1,2]),([],[4]),([],[5]),([],[]),([],[7]),([],[8]),([],[1,8]),([],[2,8]),([],[1,2,8]),([],[12]),([],[5,8]),([],[8]),([],[7,8]),([],[16]),([],[17]),([],[18]),([],[17,2]),([],[4,16]),([],[5,17]),([],[16]),([],[7,17]),([],[]),([],[25]),([],[2]),([],[25,2]),([],[4]),([],[13,16]),([],[]),([],[7,24]),([],[800]),([],[801]),([],[802]),([],[802,1]),([],[804]),([],[805]),([13,14],[512]),([],[807]),([19,14],[]),([19,14],[1]),([],[810]),([],[810,1]),([19,14],[4]),([19,14],[5]),([13,14,3,19],[]),([],[814,1]),([19,14],[]),([19,14],[1]),([19,14],[2]),([19,14],[1,2]),([],[820]),([],[821]),([13,14,8,19],[]),([],[823]),([19,14],[]),([19,14],[1]),([19,14],[2]),([3,19,14],[1,2]),([19,14],[4]),([8,19,14],[5]),([14,19],[32]),([],[831])]
def Q71:List (List Nat × List Nat):=[([],[]),([],[1]),([],[2]),([],[1,2]),([],[4]),([],[5]),([],[]),([],[7]),([],[8]),([],[1,8]),([4],[2,8]),([4],[1,2,8]),([],[12]),([],[5,8]),([4],[8]),([4],[7,8]),([],[16]),([],[17]),([],[18]),([],[17,2]),([],[4,16]),([],[5,17]),([],[16]),([],[7,17]),([],[]),([],[25]),([4],[2]),([4],[25,2]),([],[4]),([],[13,16]),([4],[]),([4],[7,24]),([],[32]),([],[33]),([14],[34]),([14],[34,1]),([],[36]),([],[37]),([13,14],[]),([14],[39]),([],[512]),([],[513]),([],[874]),([],[874,1]),([],[516]),([],[517]),([13,14,3,4],[512]),([],[878,1]),([],[]),([],[1]),([14],[2]),([14],[1,2]),([],[52]),([],[53]),([13,14,8],[]),([14],[55]),([19],[]),([19],[1]),([19,4,14],[2]),([3,19,4,14],[1,2]),([19],[4]),([8,19],[5]),([14,19,4],[32]),([],[894,1])]
def Q68:List (List Nat × List Nat):=[([],[]),([],[1]),([],[2]),([],[1,2]),([],[4]),([],[5]),([],[]),([],[7]),([],[8]),([],[1,8]),([],[2,8]),([],[1,2,8]),([],[12]),([],[5,8]),([],[8]),([],[7,8]),([],[16]),([],[17]),([],[18]),([],[17,2]),([9],[4,16]),([9],[5,17]),([9],[16]),([9],[7,17]),([],[]),([],[25]),([],[2]),([],[25,2]),([9],[4]),([9],[13,16]),([9],[]),([9],[7,24]),([],[32]),([],[33]),([],[34]),([],[34,1]),([14],[36]),([14],[37]),([13,14],[]),([14],[39]),([],[]),([],[1]),([],[42]),([],[42,1]),([14],[4]),([14],[5]),([13,14,3],[]),([14],[46,1]),([],[512]),([],[513]),([],[514]),([],[513,2]),([],[948]),([],[949]),([13,14,8,9],[512]),([],[951]),([19],[]),([19],[1]),([19],[2]),([3,19],[1,2]),([19,9,14],[4]),([8,19,9,14],[5]),([14,19,9],[32]),([],[959])]
def Q57:List (List Nat × List Nat):=[([],[]),([],[1]),([],[2]),([],[1,2]),([],[4]),([],[5]),([],[]),([],[7]),([],[8]),([],[1,8]),([],[2,8]),([4],[1,2,8]),([],[12]),([],[5,8]),([],[8]),([4],[7,8]),([],[16]),([],[17]),([],[18]),([],[17,2]),([],[4,16]),([9],[5,17]),([],[16]),([9],[7,17]),([],[]),([],[25]),([],[2]),([4],[25,2]),([],[4]),([9],[13,16]),([],[]),([4,9],[7,24]),([],[32]),([],[33]),([],[34]),([],[34,1]),([],[36]),([],[37]),([13,14],[]),([14],[39]),([],[]),([],[1]),([],[42]),([4],[42,1]),([],[4]),([],[5]),([13,14,3],[]),([4,14],[46,1]),([],[]),([],[1]),([],[2]),([],[1,2]),([],[52]),([9],[53]),([13,14,8],[]),([9,14],[55]),([],[512]),([],[513]),([],[514]),([3,4],[513,2]),([],[516]),([8,9],[517]),([],[800]),([],[1023])]
theorem Q6p:chL 0 tW0=true:=by kernel_rfl
theorem Q6c:chL 64 tW1=true:=by kernel_rfl
theorem Q60:chL 128 tW2=true:=by kernel_rfl
theorem Q6u:chL 192 tW3=true:=by kernel_rfl
theorem Q55:chL 256 tW4=true:=by kernel_rfl
theorem Q7e:chL 320 tW5=true:=by kernel_rfl
theorem Q6k:chL 384 tW6=true:=by kernel_rfl
theorem Q7q:chL 448 tW7=true:=by kernel_rfl
theorem Q7f:chL 512 tW8=true:=by kernel_rfl
theorem Q61:chL 576 tW9=true:=by kernel_rfl
theorem Q5w:chL 640 Q54=true:=by kernel_rfl
theorem Q4s:chL 704 Q6s=true:=by kernel_rfl
theorem Q47:chL 768 Q65=true:=by kernel_rfl
theorem Q5h:chL 832 Q71=true:=by kernel_rfl
theorem Q5d:chL 896 Q68=true:=by kernel_rfl
theorem Q4u:chL 960 Q57=true:=by kernel_rfl
theorem Q6d {c:Nat} (h:c < 1024):∃D W,chB c D W=true:=by
 have hk:(0<=c/\c < 64)\/(64<=c/\c < 128)\/(128<=c/\c < 192)\/(192<=c/\c < 256)\/(256<=c/\c < 320)\/(320<=c/\c < 384)\/(384<=c/\c < 448)\/(448<=c/\c < 512)\/(512<=c/\c < 576)\/(576<=c/\c < 640)\/(640<=c/\c < 704)\/(704<=c/\c < 768)\/(768<=c/\c < 832)\/(832<=c/\c < 896)\/(896<=c/\c < 960)\/(960<=c/\c < 1024):=by omega
 rcases hk with h | h | h | h | h | h | h | h | h | h | h | h | h | h | h | h
 ·have:=V6 tW0 0 Q6p (c - 0) (by show c - 0 < 64; omega)
  rwa [show 0+(c - 0)=c by omega] at this
 ·have:=V6 tW1 64 Q6c (c - 64) (by show c - 64 < 64; omega)
  rwa [show 64+(c - 64)=c by omega] at this
 ·have:=V6 tW2 128 Q60 (c - 128) (by show c - 128 < 64; omega)
  rwa [show 128+(c - 128)=c by omega] at this
 ·have:=V6 tW3 192 Q6u (c - 192) (by show c - 192 < 64; omega)
  rwa [show 192+(c - 192)=c by omega] at this
 ·have:=V6 tW4 256 Q55 (c - 256) (by show c - 256 < 64; omega)
  rwa [show 256+(c - 256)=c by omega] at this
 ·have:=V6 tW5 320 Q7e (c - 320) (by show c - 320 < 64; omega)
  rwa [show 320+(c - 320)=c by omega] at this
 ·have:=V6 tW6 384 Q6k (c - 384) (by show c - 384 < 64; omega)
  rwa [show 384+(c - 384)=c by omega] at this
 ·have:=V6 tW7 448 Q7q (c - 448) (by show c - 448 < 64; omega)
  rwa [show 448+(c - 448)=c by omega] at this
 ·have:=V6 tW8 512 Q7f (c - 512) (by show c - 512 < 64; omega)
  rwa [show 512+(c - 512)=c by omega] at this
 ·have:=V6 tW9 576 Q61 (c - 576) (by show c - 576 < 64; omega)
  rwa [show 576+(c - 576)=c by omega] at this
 ·have:=V6 Q54 640 Q5w (c - 640) (by show c - 640 < 64; omega)
  rwa [show 640+(c - 640)=c by omega] at this
 ·have:=V6 Q6s 704 Q4s (c - 704) (by show c - 704 < 64; omega)
  rwa [show 704+(c - 704)=c by omega] at this
 ·have:=V6 Q65 768 Q47 (c - 768) (by show c - 768 < 64; omega)
  rwa [show 768+(c - 768)=c by omega] at this
 ·have:=V6 Q71 832 Q5h (c - 832) (by show c - 832 < 64; omega)
  rwa [show 832+(c - 832)=c by omega] at this
 ·have:=V6 Q68 896 Q5d (c - 896) (by show c - 896 < 64; omega)
  rwa [show 896+(c - 896)=c by omega] at this
 have:=V6 Q57 960 Q4u (c - 960) (by show c - 960 < 64; omega)
 rwa [show 960+(c - 960)=c by omega] at this
end Go.Ab
namespace Go.Ab
open Go
theorem Qpe {x:Nat}:x∈r5↔x < 5:=by unfold r5; simp; omega
theorem Qlz {p:Nat -> Bool}:r5.any p=true↔∃x,x < 5/\p x=true:=by
 rw [bV]
 constructor
 ·rintro ⟨x,h1,h2⟩; exact ⟨x,Qpe.1 h1,h2⟩
 rintro ⟨x,h1,h2⟩; exact ⟨x,Qpe.2 h1,h2⟩
theorem Qmd {p:Nat -> Bool}:r5.all p=true↔∀x,x < 5->p x=true:=by
 rw [bU]
 exact ⟨fun h x hx=>h x (Qpe.2 hx),fun h x hx=>h x (Qpe.1 hx)⟩
theorem Qa3 {a b:Nat}:Nat.blt a b=true↔a < b:=by unfold Nat.blt; rw [Nat.ble_eq]; exact Iff.rfl
theorem Qnf {c f u v:Nat}:paB c f u v=true↔(u < v/\eB c u v=true/\eB f u v=false)\/(v < u/\eB c v u=true/\eB f v u=true):=by
 unfold paB
 cases h1:Nat.blt u v with
 | true =>
  have:=Qa3.1 h1
  simp only [cond_true,aE,bK]
  constructor
  ·intro h; exact .inl ⟨this,h⟩
  rintro (h | h)
  ·exact h.2
  omega
 | false =>
  have hn:¬ u < v:=fun h=>by rw [Qa3.2 h] at h1; cases h1
  simp only [cond_false]
  cases h2:Nat.blt v u with
  | true =>
   have:=Qa3.1 h2
   simp only [cond_true,aE]
   constructor
   ·intro h; exact .inr ⟨this,h⟩
   rintro (h | h)
   ·omega
   exact h.2
  | false =>
   have hn2:¬ v < u:=fun h=>by rw [Qa3.2 h] at h2; cases h2
   simp only [cond_false,aV,false_iff]
   rintro (h | h) <;> omega
theorem Qnr {c u v:Nat}:ajB c u v=true↔(u < v/\eB c u v=true)\/(v < u/\eB c v u=true):=by
 unfold ajB
 cases h1:Nat.blt u v with
 | true =>
  have:=Qa3.1 h1
  simp only [cond_true]
  constructor
  ·intro h; exact .inl ⟨this,h⟩
  rintro (h | h)
  ·exact h.2
  omega
 | false =>
  have hn:¬ u < v:=fun h=>by rw [Qa3.2 h] at h1; cases h1
  simp only [cond_false]
  cases h2:Nat.blt v u with
  | true =>
   have:=Qa3.1 h2
   simp only [cond_true]
   constructor
   ·intro h; exact .inr ⟨this,h⟩
   rintro (h | h)
   ·omega
   exact h.2
  | false =>
   have hn2:¬ v < u:=fun h=>by rw [Qa3.2 h] at h2; cases h2
   simp only [cond_false,aV,false_iff]
   rintro (h | h) <;> omega
theorem Qdh {c u v:Nat}:paB c 0 u v=true↔u < v/\eB c u v=true:=by
 have h0:∀i j,eB 0 i j=false:=fun i j=>by unfold eB; rw [Q0q]; exact Nat.zero_testBit _
 rw [Qnf]
 constructor
 ·rintro (h | h)
  ·exact ⟨h.1,h.2.1⟩
  rw [h0] at h; cases h.2.2
 intro h; exact .inl ⟨h.1,h.2,h0 _ _⟩
theorem Qfk {c f v u:Nat} (hu:u < 5):(tM c f v).testBit u=paB c f u v:=by
 unfold tM; rw [Qv]; simp [hu]
theorem Qnd {c f u w:Nat} (hu:u < 5) (hw:w < 5):near (tM c f) u w=ajB c u w:=by
 unfold near
 rw [Qfk hw,Qfk hu,aQ,aN,Qnf,Qnf,Qnr]
 constructor
 ·rintro ((h | h) | (h | h))
  ·exact .inr ⟨h.1,h.2.1⟩
  ·exact .inl ⟨h.1,h.2.1⟩
  ·exact .inl ⟨h.1,h.2.1⟩
  exact .inr ⟨h.1,h.2.1⟩
 rintro (⟨h1,h2⟩ | ⟨h1,h2⟩)
 ·cases hf:eB f u w with
  | true=>exact .inl (.inr ⟨h1,h2,rfl⟩)
  | false=>exact .inr (.inl ⟨h1,h2,rfl⟩)
 cases hf:eB f w u with
 | true=>exact .inr (.inr ⟨h1,h2,rfl⟩)
 | false=>exact .inl (.inl ⟨h1,h2,rfl⟩)
theorem Qti {c f a b d:Nat} (ha:a < 5) (hd:d < 5):Xa (tM c f) a b d=clB c f a b d:=by
 unfold Xa clB
 rw [Qfk ha,Qfk hd,Qnd ha hd]
theorem Q4t {c f:Nat} (h:wtB c f=true):Cls 5 (tM c 0) (tM c f):=by
 unfold wtB at h
 rw [aE] at h
 refine ⟨Qui.1 (aK h.1),fun u w hu hw=>by rw [Qnd hu hw,Qnd hu hw],Qez.2 fun a b d h1 h2 h3=>?_⟩
 have ha:a < 5:=by omega
 have:=Qmd.1 (Qmd.1 (Qmd.1 h.2 b h3) a ha) d h2
 rw [Qa3.2 h1] at this
 rw [Qti ha h2,Qti ha h2]
 simpa using this
section
variable {c:Nat} {O:Nat -> Nat -> Bool} (hU:Gd 5 (tM c 0)) (hA:Qca 5 (tM c 0) O) (hC:Qa6 5 (tM c 0) O)
include hU hA hC
theorem Q2a:Cls 5 (tM c 0) (tM c 0):=⟨hU,fun _ _ _ _=>rfl,rfl⟩
theorem Q2v {a b:Nat} (h:O a b=true):paB c 0 a b=true:=by
 have:=hA.snd _ (Q2a hU hA hC) a b h
 rwa [Qfk (hA.inn a b h).1] at this
theorem Q74 {a b:Nat} (ha:a < 5) (hb:b < 5) (h:icB c a b=true):O a b=true:=by
 unfold icB at h
 rw [aE] at h
 obtain ⟨x,hx,h2⟩:=Qlz.1 h.2
 simp only [aE,bK] at h2
 refine hA.col a b x (fun e=>?_) ha hb hx ?_
 ·subst e
  have:=h2.1.1
  rw [show Nat.beq a a=true from eO a] at this; cases this
 rw [Qti ha hx]
 unfold clB
 rw [h.1,h2.1.2,h2.2]; rfl
theorem Qvc {G:List Nat} (hG:∀x∈G,O (x / 5) (x % 5)=true) {a b:Nat} (ha:a < 5) (hb:b < 5) (h:knB c G a b=true):O a b=true:=by
 unfold knB at h
 rw [aN] at h
 rcases h with h | h
 ·exact Q74 hU hA hC ha hb h
 obtain ⟨x,hx,h2⟩:=bV.1 h
 have e:=aK h2
 have:=hG x hx
 rw [e,show (5*a+b) / 5=a by omega,show (5*a+b) % 5=b by omega] at this
 exact this
theorem Q84 {G:List Nat} (hG:∀x∈G,O (x / 5) (x % 5)=true) {a b:Nat} (ha:a < 5) (hb:b < 5) (he:paB c 0 a b=true) (h:stB c G a b=true):O a b=true:=by
 have hlt:=(Qdh.1 he).1
 have nn:∀u w,u < 5->w < 5->near (tM c 0) u w=ajB c u w:=fun u w hu hw=>Qnd hu hw
 have aj_ne:∀{u w},O u w=true->u < w:=fun h=>(Qdh.1 (Q2v hU hA hC h)).1
 apply Classical.byContradiction
 intro hO
 have hO:=bN.2 hO
 have hO2:O b a=false:=bN.2 fun h=>by have:=aj_ne h; omega
 have hab:ajB c a b=true:=Qnr.2 (.inl ⟨hlt,(Qdh.1 he).2⟩)
 have hl:lnB (near (tM c 0)) O a b=true:=Qdr.2 ⟨by rw [nn a b ha hb]; exact hab,hO,hO2⟩
 have hr:=hC a b ha hb hl
 unfold ruB at hr
 rw [cV,cV] at hr
 obtain ⟨⟨hr1,hr2⟩,hr3⟩:=hr
 unfold stB at h
 rw [aN,aN] at h
 rcases h with (h | h) | h
 ·obtain ⟨u,hu,h2⟩:=Qlz.1 h
  simp only [aE,bK] at h2
  have hub:u≠b:=fun e=>by
   have h3:=h2.1.1
   rw [e,show Nat.beq b b=true from eO b] at h3; cases h3
  have:onB 5 (near (tM c 0)) O a b=true:=Qjm.2 ⟨u,hu,hub,Qvc hU hA hC hG hu ha h2.1.2,by rw [nn u b hu hb]; exact h2.2⟩
  rw [this] at hr1
  cases hr1
 ·obtain ⟨u,hu,h2⟩:=Qlz.1 h
  rw [aE] at h2
  rw [Qjl.2 ⟨u,hu,Qvc hU hA hC hG ha hu h2.1,Qvc hU hA hC hG hu hb h2.2⟩] at hr2
  cases hr2
 obtain ⟨u,hu,h2⟩:=Qlz.1 h
 obtain ⟨w,hw,h2⟩:=Qlz.1 h2
 simp only [aE,bK] at h2
 obtain ⟨⟨⟨⟨⟨⟨g1,g2⟩,g3⟩,g4⟩,g5⟩,g6⟩,g7⟩:=h2
 have g1:=Qa3.1 g1
 have k4:=Qvc hU hA hC hG hu hb g4
 have k5:=Qvc hU hA hC hG hw hb g5
 have noA:∀x,x < 5->O x b=true->O a x=false:=fun x hx hxb=>bN.2 fun e=>by
  rw [Qjl.2 ⟨x,hx,e,hxb⟩] at hr2; cases hr2
 have a1:=noA u hu k4
 have a2:=noA w hw k5
 have mk:∀x,x < 5->ajB c a x=true->O a x=false->O x a=false->lnB (near (tM c 0)) O a x=true:=fun x hx h1 h2 h3=>Qdr.2 ⟨by rw [nn a x ha hx]; exact h1,h2,h3⟩
 have fire:∀x y,x < 5->y < 5->O x a=true->ajB c a y=true->O a y=false->O y a=false->x≠y->ajB c x y=false->False:=fun x y hx hy h1 h2 h3 h4 h5 h6=>by
  have hl2:=mk y hy h2 h3 h4
  have hr':=hC a y ha hy hl2
  unfold ruB at hr'
  rw [Qjm.2 ⟨x,hx,h5,h1,by rw [nn x y hx hy]; exact h6⟩] at hr'
  cases hr'
 have g6':ajB c w u=false:=by
  rw [bN] at g6 ⊢
  intro e; exact g6 (Qnr.2 (by have:=Qnr.1 e; exact this.symm))
 cases hua:O u a with
 | true =>
  cases hwa:O w a with
  | true =>
   rw [Q2v hU hA hC hua,Q2v hU hA hC hwa] at g7; cases g7
  | false=>exact fire u w hu hw hua g3 a2 hwa (by omega) g6
 | false =>
  cases hwa:O w a with
  | true=>exact fire w u hw hu hwa g2 a1 hua (by omega) g6'
  | false =>
   rw [Qjp.2 ⟨u,w,hu,g1,mk u hu g2 a1 hua,mk w hw g3 a2 hwa,k4,k5,by rw [nn u w hu hw]; exact g6⟩] at hr3
   cases hr3
theorem Q7o:∀(l G:List Nat),(∀x∈G,O (x / 5) (x % 5)=true)->drB c G l=true->(∀x∈l,O (x / 5) (x % 5)=true)
 | [],G,hG,_=>fun x hx=>by cases hx
 | x::l,G,hG,h=>by
  simp only [drB,aE] at h
  have hlt:=(Qdh.1 h.1.1).1
  have hx:O (x / 5) (x % 5)=true:=Q84 hU hA hC hG (by omega) (by omega) h.1.1 h.1.2
  have:=Q7o l (x::G) (fun y hy=>by
   rcases cI.1 hy with rfl | hy
   ·exact hx
   exact hG y hy) h.2
  intro y hy
  rcases cI.1 hy with rfl | hy
  ·exact hx
  exact this y hy
theorem Q44 (hc:c < 1024) {a b:Nat} (ha:a < 5) (hb:b < 5) (h:paB c 0 a b=true):O a b=true\/∃T,Cls 5 (tM c 0) T/\(T a).testBit b=true:=by
 obtain ⟨D,W,hch⟩:=Q6d hc
 unfold chB at hch
 rw [aE,aE] at hch
 obtain ⟨⟨h1,h2⟩,h3⟩:=hch
 have hD:=Q7o hU hA hC D [] (fun x hx=>by cases hx) h1
 have:=Qmd.1 (Qmd.1 h3 a ha) b hb
 rw [h] at this
 simp only [Bool.not_true,Bool.false_or,aN] at this
 rcases this with (e | e) | e
 ·exact .inl (Q74 hU hA hC ha hb e)
 ·obtain ⟨x,hx,h4⟩:=bV.1 e
  have e2:=aK h4
  have:=hD x hx
  rw [e2,show (5*a+b) / 5=a by omega,show (5*a+b) % 5=b by omega] at this
  exact .inl this
 obtain ⟨f,hf,h4⟩:=bV.1 e
 refine .inr ⟨tM c f,Q4t (bU.1 h2 f hf),?_⟩
 rw [Qfk hb,Qnf]
 have:=Qdh.1 h
 exact .inr ⟨this.1,this.2,h4⟩
end
end Go.Ab
namespace Go.Ab
open Go
structure Plc (n:Nat) (q p:Nat -> Nat):Prop where
 qn:∀i,i < n->q i < n
 pn:∀v,v < n->p v < n
 qp:∀v,v < n->q (p v)=v
 pq:∀i,i < n->p (q i)=i
theorem Q51 {n:Nat} {S:Nat -> Nat} (hS:Gd n S):∃q p,Plc n q p/\∀i k,i < n->k < n->(S (q k)).testBit (q i)=true->i < k:=by
 obtain ⟨r,hr⟩:=Xp hS
 have hperm:=J0 (fun u v=>decide (r u<=r v)) (List.range n)
 have hsort:=Qd3 (le:=fun u v=>decide (r u<=r v)) (fun x y z h1 h2=>by simp only [aO] at *; omega) (fun x y=>by simp only [aN,aO]; omega) (List.range n)
 generalize isort (fun u v=>decide (r u<=r v)) (List.range n)=l at *
 have hlen:l.length=n:=by rw [hperm.length_eq,List.length_range]
 have hnod:l.Nodup:=hperm.nodup_iff.2 List.nodup_range
 have hq:∀i,(h:i < n)->(l[i]?).getD 0=l[i]'(by omega):=fun i h=>by rw [aG (by omega)]; rfl
 have hqn:∀i,i < n->(l[i]?).getD 0 < n:=fun i h=>by
  rw [hq i h]
  exact cX.1 (hperm.mem_iff.1 (bO _))
 have hinj:∀i k,i < n->k < n->(l[i]?).getD 0=(l[k]?).getD 0->i=k:=fun i k hi hk e=>by
  rw [hq i hi,hq k hk] at e
  have:=List.pairwise_iff_getElem.1 hnod
  rcases Nat.lt_trichotomy i k with h | h | h
  ·exact absurd e (this i k (by omega) (by omega) h)
  ·exact h
  exact absurd e.symm (this k i (by omega) (by omega) h)
 have hsur:∀v,v < n->∃i,i < n/\(l[i]?).getD 0=v:=fun v hv=>by
  obtain ⟨i,hi,e⟩:=bE.1 (hperm.mem_iff.2 (cX.2 hv))
  exact ⟨i,by omega,by rw [hq i (by omega)]; exact e⟩
 classical
 refine ⟨fun i=>(l[i]?).getD 0,fun v=>if h:∃i,i < n/\(l[i]?).getD 0=v then Classical.choose h else 0,⟨hqn,fun v hv=>?_,fun v hv=>?_,fun i hi=>?_⟩,fun i k hi hk hb=>?_⟩
 ·simp only [dif_pos (hsur v hv)]
  exact (Classical.choose_spec (hsur v hv)).1
 ·simp only [dif_pos (hsur v hv)]
  exact (Classical.choose_spec (hsur v hv)).2
 ·have hs:=hsur _ (hqn i hi)
  simp only [dif_pos hs]
  exact hinj _ _ (Classical.choose_spec hs).1 hi (Classical.choose_spec hs).2
 have h1:=hr _ (hqn k hk) _ hb
 apply Classical.byContradiction
 intro hno
 rcases bD k i with h | h
 ·have:=List.pairwise_iff_getElem.1 hsort k i (by omega) (by omega) h
  rw [<-hq k hk,<-hq i hi,aO] at this
  dsimp only at h1
  omega
 have:i=k:=by omega
 subst this; exact absurd h1 (dM _)
def dcE:List (Nat × Nat):=[(0,1),(0,2),(1,2),(0,3),(1,3),(2,3),(0,4),(1,4),(2,4),(3,4)]
theorem Q8k {i k:Nat} (h:i < k) (hk:k < 5):egI i k < 10/\(dcE[egI i k]?).getD (0,0)=(i,k):=by
 have hk':k=1\/k=2\/k=3\/k=4:=by omega
 have hi':i=0\/i=1\/i=2\/i=3:=by omega
 rcases hk' with rfl | rfl | rfl | rfl <;> rcases hi' with rfl | rfl | rfl | rfl <;> first | omega | decide
section
variable {n:Nat} {S:Nat -> Nat} {q p:Nat -> Nat} (hn:n<=5) (hS:Gd n S) (hP:Plc n q p) (hU:∀i k,i < n->k < n->(S (q k)).testBit (q i)=true->i < k)
def bB (n:Nat) (S q:Nat -> Nat) (i k:Nat):Bool:=decide (i < n) && decide (k < n) && (S (q k)).testBit (q i)
def cdU (n:Nat) (S q:Nat -> Nat):Nat := msk 10 fun e=>bB n S q ((dcE[e]?).getD (0,0)).1 ((dcE[e]?).getD (0,0)).2
def bkT (n:Nat) (p:Nat -> Nat) (T:Nat -> Nat):Nat -> Nat := fun v=>msk n fun x=>(T (p v)).testBit (p x)
theorem Qpp {i k:Nat}:bB n S q i k=true↔i < n/\k < n/\(S (q k)).testBit (q i)=true:=by
 unfold bB
 simp only [aE,aO,and_assoc]
theorem Qb5 {T:Nat -> Nat} {v x:Nat} (hx:x < n):(bkT n p T v).testBit x=(T (p v)).testBit (p x):=by
 unfold bkT; rw [Qv]; simp [hx]
include hn hS hP hU
theorem Q3w {i k:Nat} (hi:i < 5) (hk:k < 5):paB (cdU n S q) 0 i k=bB n S q i k:=by
 rw [aQ,Qdh]
 have key:i < k->eB (cdU n S q) i k=bB n S q i k:=fun h=>by
  obtain ⟨h1,h2⟩:=Q8k h hk
  unfold eB
  rw [Q0q]
  unfold cdU
  rw [Qv,h2]
  simp [h1]
 constructor
 ·rintro ⟨h1,h2⟩; rw [<-key h1]; exact h2
 intro h
 obtain ⟨h1,h2,h3⟩:=Qpp.1 h
 have:=hU i k h1 h2 h3
 exact ⟨this,by rw [key this]; exact h⟩
theorem Qqx {i k:Nat} (hi:i < 5) (hk:k < 5):(tM (cdU n S q) 0 k).testBit i=bB n S q i k:=by rw [Qfk hi,Q3w hn hS hP hU hi hk]
theorem Qmu {u w:Nat} (hu:u < 5) (hw:w < 5):near (tM (cdU n S q) 0) u w=(decide (u < n) && decide (w < n) && near S (q u) (q w)):=by
 unfold near
 rw [Qqx hn hS hP hU hw hu,Qqx hn hS hP hU hu hw]
 unfold bB
 cases decide (u < n) <;> cases decide (w < n) <;> simp
theorem Q7i:Gd 5 (tM (cdU n S q) 0):=Qd1 id fun v hv j hj=>by
 have hj5:j < 5:=by
  unfold tM at hj; rw [Qv] at hj
  simp only [aE,aO] at hj; exact hj.1
 rw [Qfk hj5] at hj
 exact ⟨hj5,(Qdh.1 hj).1⟩
theorem Q8i {a b d:Nat} (ha:a < n) (hb:b < n) (hd:d < n):Xa (tM (cdU n S q) 0) (p a) (p b) (p d)=Xa S a b d:=by
 have pa:=hP.pn a ha
 have pb:=hP.pn b hb
 have pd:=hP.pn d hd
 unfold Xa
 rw [Qqx hn hS hP hU (by omega) (by omega),Qqx hn hS hP hU (by omega) (by omega),Qmu hn hS hP hU (by omega) (by omega)]
 unfold bB
 rw [hP.qp a ha,hP.qp b hb,hP.qp d hd]
 simp [pa,pb,pd]
theorem Qzq {T:Nat -> Nat} (hT:Cls 5 (tM (cdU n S q) 0) T):Cls n S (bkT n p T):=by
 obtain ⟨t,ht⟩:=Xp hT.gd
 have hnear:∀u w,u < n->w < n->near (bkT n p T) u w=near S u w:=fun u w hu hw=>by
  have e:near (bkT n p T) u w=near T (p u) (p w):=by unfold near; rw [Qb5 hw,Qb5 hu]
  have pu:=hP.pn u hu
  have pw:=hP.pn w hw
  rw [e,hT.nr _ _ (by omega) (by omega),Qmu hn hS hP hU (by omega) (by omega),hP.qp u hu,hP.qp w hw]
  simp [pu,pw]
 refine ⟨Qd1 (fun v=>t (p v)) fun v hv j hj=>?_,hnear,Qez.2 fun a b d h1 h2 h3=>?_⟩
 ·have hjn:j < n:=by
   unfold bkT at hj; rw [Qv] at hj
   simp only [aE,aO] at hj; exact hj.1
  rw [Qb5 hjn] at hj
  have:=hP.pn v hv
  exact ⟨hjn,ht (p v) (by omega) (p j) hj⟩
 have ha:a < n:=by omega
 have pa:=hP.pn a ha
 have pb:=hP.pn b h3
 have pd:=hP.pn d h2
 have hne:p a≠p d:=fun e=>by
  have:=congrArg q e
  rw [hP.qp a ha,hP.qp d h2] at this; omega
 rw [<-Q8i hn hS hP hU ha h3 h2,<-Qnu hT.cl hT.gd (Q7i hn hS hP hU) hne (by omega) (by omega) (by omega)]
 unfold Xa
 rw [Qb5 ha,Qb5 h2]
 have e:near (bkT n p T) a d=near T (p a) (p d):=by unfold near; rw [Qb5 h2,Qb5 ha]
 rw [e]
variable {O:Nat -> Nat -> Bool} (hA:Qca n S O) (hC:Qa6 n S O)
def oU (n:Nat) (q:Nat -> Nat) (O:Nat -> Nat -> Bool) (i k:Nat):Bool:=decide (i < n) && decide (k < n) && O (q i) (q k)
omit hn hS hP hU in
theorem Qee {i k:Nat}:oU n q O i k=true↔i < n/\k < n/\O (q i) (q k)=true:=by
 unfold oU
 simp only [aE,aO,and_assoc]
theorem Q6l (hA:Qca n S O):Qca 5 (tM (cdU n S q) 0) (oU n q O):=by
 refine ⟨fun a b h=>?_,fun T hT a b h=>?_,fun a b d hne ha hb hd h=>?_⟩
 ·have:=Qee.1 h; omega
 ·obtain ⟨h1,h2,h3⟩:=Qee.1 h
  have:=hA.snd _ (Qzq hn hS hP hU hT) _ _ h3
  rw [Qb5 (hP.qn a h1),hP.pq a h1,hP.pq b h2] at this
  exact this
 have hb2:=h
 unfold Xa at hb2
 simp only [aE,bK] at hb2
 obtain ⟨⟨g1,g2⟩,g3⟩:=hb2
 rw [Qqx hn hS hP hU ha hb] at g1
 rw [Qqx hn hS hP hU hd hb] at g2
 obtain ⟨a1,b1,c1⟩:=Qpp.1 g1
 obtain ⟨d1,_,c2⟩:=Qpp.1 g2
 rw [Qmu hn hS hP hU ha hd] at g3
 refine Qee.2 ⟨a1,b1,hA.col (q a) (q b) (q d) (fun e=>hne ?_) (hP.qn a a1) (hP.qn b b1) (hP.qn d d1) ?_⟩
 ·have:=congrArg p e
  rwa [hP.pq a a1,hP.pq d d1] at this
 unfold Xa
 rw [c1,c2]
 simp only [a1,d1,decide_true,eK] at g3
 rw [g3]; rfl
theorem Qzj (hC:Qa6 n S O):Qa6 5 (tM (cdU n S q) 0) (oU n q O):=by
 have ln:∀a b,a < 5->b < 5->lnB (near (tM (cdU n S q) 0)) (oU n q O) a b=true->a < n/\b < n/\lnB (near S) O (q a) (q b)=true:=fun a b ha hb h=>by
  obtain ⟨h1,h2,h3⟩:=Qdr.1 h
  rw [Qmu hn hS hP hU ha hb] at h1
  simp only [aE,aO] at h1
  obtain ⟨⟨a1,b1⟩,c1⟩:=h1
  unfold oU at h2 h3
  simp only [a1,b1,decide_true,eK] at h2 h3
  exact ⟨a1,b1,Qdr.2 ⟨c1,h2,h3⟩⟩
 intro a b ha hb h
 obtain ⟨a1,b1,hl⟩:=ln a b ha hb h
 have hr:=hC _ _ (hP.qn a a1) (hP.qn b b1) hl
 rw [bN] at hr ⊢
 intro hu
 refine hr ?_
 unfold ruB at hu ⊢
 rw [aN,aN] at hu ⊢
 have nf:∀c d,c < n->d < n->near (tM (cdU n S q) 0) c d=false->near S (q c) (q d)=false:=fun c d hc hd e=>by
  rw [Qmu hn hS hP hU (by omega) (by omega)] at e
  simpa [hc,hd] using e
 rcases hu with (hu | hu) | hu
 ·obtain ⟨c,h1,h2,h3,h4⟩:=Qjm.1 hu
  obtain ⟨c1,_,c2⟩:=Qee.1 h3
  refine .inl (.inl (Qjm.2 ⟨q c,hP.qn c c1,fun e=>h2 ?_,c2,nf c b c1 b1 h4⟩))
  have:=congrArg p e
  rwa [hP.pq c c1,hP.pq b b1] at this
 ·obtain ⟨c,h1,h2,h3⟩:=Qjl.1 hu
  obtain ⟨_,c1,c2⟩:=Qee.1 h2
  obtain ⟨_,_,c3⟩:=Qee.1 h3
  exact .inl (.inr (Qjl.2 ⟨q c,hP.qn c c1,c2,c3⟩))
 obtain ⟨c,d,h1,h2,h3,h4,h5,h6,h7⟩:=Qjp.1 hu
 have hd5:d < 5:=by omega
 obtain ⟨_,c1,l1⟩:=ln a c ha h1 h3
 obtain ⟨_,d1,l2⟩:=ln a d ha hd5 h4
 obtain ⟨_,_,o1⟩:=Qee.1 h5
 obtain ⟨_,_,o2⟩:=Qee.1 h6
 have hnr:=nf c d c1 d1 h7
 have hne:q c≠q d:=fun e=>by
  have:=congrArg p e
  rw [hP.pq c c1,hP.pq d d1] at this; omega
 rcases eW hne with h | h
 ·exact .inr (Qjp.2 ⟨q d,q c,hP.qn d d1,h,l2,l1,o2,o1,by rw [near_symm]; exact hnr⟩)
 exact .inr (Qjp.2 ⟨q c,q d,hP.qn c c1,h,l1,l2,o1,o2,hnr⟩)
end
theorem Q8r {n:Nat} {S:Nat -> Nat} (hn:n<=5) (hS:Gd n S) {O:Nat -> Nat -> Bool} (hA:Qca n S O) (hC:Qa6 n S O) {a b:Nat} (hb:b < n) (h:(S b).testBit a=true):O a b=true\/∃T,Cls n S T/\(T a).testBit b=true:=by
 have ha:=hS.inn b hb a h
 obtain ⟨q,p,hP,hU⟩:=Q51 hS
 have pa:=hP.pn a ha
 have pb:=hP.pn b hb
 have hc:cdU n S q < 1024:=msk_lt 10 _
 have he:paB (cdU n S q) 0 (p a) (p b)=true:=by
  rw [Q3w hn hS hP hU (by omega) (by omega),Qpp,hP.qp a ha,hP.qp b hb]
  exact ⟨pa,pb,h⟩
 rcases Q44 (Q7i hn hS hP hU) (Q6l hn hS hP hU hA) (Qzj hn hS hP hU hC) hc (a:=p a) (b:=p b) (by omega) (by omega) he with h1 | ⟨T,h1,h2⟩
 ·obtain ⟨_,_,h3⟩:=Qee.1 h1
  rw [hP.qp a ha,hP.qp b hb] at h3
  exact .inl h3
 refine .inr ⟨_,Qzq hn hS hP hU h1,?_⟩
 rw [Qb5 hb]; exact h2
end Go.Ab
namespace Go.Ab
open Go
section
variable {n:Nat} {S:Nat -> Nat}
theorem Qw9 (hS:Gd n S):Cls n S S:=⟨hS,fun _ _ _ _=>rfl,rfl⟩
theorem Qil (hS:Gd n S) {x:List Int}:x∈Vl n S↔∃T,x=Qc n T/\Cls n S T:=by
 rw [Q2w hS]
 constructor
 ·rintro ⟨T,h1,h2,h3,h4⟩; exact ⟨T,h1,h2,h3,h4⟩
 rintro ⟨T,h1,h2⟩; exact ⟨T,h1,h2.gd,h2.nr,h2.cl⟩
def Vn (n:Nat) (S:Nat -> Nat) (a b:Nat):Bool:=(Vl n S).all fun x=>((x[b]?).getD 0).toNat.testBit a
theorem Quq {T:Nat -> Nat} {b:Nat} (hb:b < n):((Qc n T)[b]?).getD 0=(T b:Int):=by
 have h:=Q0 (n:=n) (w:=T) hb
 rw [Qs (by rw [Zf]; exact hb)] at h
 rw [aG (by rw [Zf]; exact hb),cY]
 exact dR h
theorem Qom (hS:Gd n S) {a b:Nat} (hb:b < n):Vn n S a b=true↔∀T,Cls n S T->(T b).testBit a=true:=by
 unfold Vn
 rw [bU]
 constructor
 ·intro h T hT
  have:=h _ ((Qil hS).2 ⟨T,rfl,hT⟩)
  rw [Quq hb] at this
  simpa using this
 intro h x hx
 obtain ⟨T,rfl,hT⟩:=(Qil hS).1 hx
 rw [Quq hb]
 simpa using h T hT
theorem Q46 (hn:n<=5) (hS:Gd n S) {O:Nat -> Nat -> Bool} (hA:Qca n S O) (hC:Qa6 n S O) {a b:Nat} (ha:a < n) (hb:b < n):O a b=(near S a b && Vn n S a b):=by
 rw [aQ,aE,Qom hS hb]
 constructor
 ·intro h
  have:=hA.snd S (Qw9 hS) a b h
  exact ⟨by unfold near; rw [this]; simp,fun T hT=>hA.snd T hT a b h⟩
 rintro ⟨_,h⟩
 rcases Q8r hn hS hA hC hb (h S (Qw9 hS)) with h1 | ⟨T,h1,h2⟩
 ·exact h1
 obtain ⟨r,hr⟩:=Xp h1.gd
 have g1:=hr b hb a (h T h1)
 have g2:=hr a ha b h2
 omega
theorem Qi1 (hn1:1<=n) (hn:n<=5) (hS:Gd n S):Jw (Qc n S)=some ⟨(n:Int),eL2 n fun a b=>near S a b && Vn n S a b,eL2 n fun a b=>near S a b && !Vn n S a b && !Vn n S b a && decide (a < b)⟩:=by
 have h64:=Qkb (show n<=8 by omega) hS
 have hlen:(Qc n S).length=n:=Zf
 have hml:=Q27 (n:=n) (S:=S) hn
 have hmem:∀k,(hk:k < (Vl n S).length)->∃T,(Vl n S)[k]=Qc n T/\Cls n S T:=fun k hk=>(Qil hS).1 (bO hk)
 have inner:∀a b,a < n->b < n->∀(s6 s3:Int × List (Int × Int) × List (Int × Int)),s6.1=(b:Int)->s3.1=(a:Int)->Qa fuel (Y7 (Vl n S) s6 s3) (true,true,0)=some (Vn n S a b,Vn n S b a):=fun a b ha hb s6 s3 h6 h3=>by
  have h:=Zt (n:=(Vl n S).length) (k0:=0) (by omega) (by omega) (fun i (x:Bool × Bool)=>(x.1,x.2,i)) (body:=Y7 (Vl n S) s6 s3)
   (fun k=>(((Vl n S).take k).all fun x=>((x[b]?).getD 0).toNat.testBit a,((Vl n S).take k).all fun x=>((x[a]?).getD 0).toNat.testBit b)) (Vn n S a b,Vn n S b a)
   (fun k _ hk=>by
    obtain ⟨T,hT,hT2⟩:=hmem k hk
    have t64:=Qkb (show n<=8 by omega) hT2.gd
    have htk:(Vl n S).take (k+1)=(Vl n S).take k++[(Vl n S)[k]]:=bL hk
    have hIn:∀u v,u < n->v < n->(lkI (Vl n S) (k:Int)).bind (fun x=>(lkI x (v:Int)).bind fun y=>Q7 y (u:Int))=some ((T v).testBit u):=fun u v hu hv=>by
     rw [Qs hk,aC,hT,Q0 hv,aC,Jz (t64 v hv) (by omega)]
    have e1:∀u v,v < n->((Vl n S).take (k+1)).all (fun x=>((x[v]?).getD 0).toNat.testBit u)=(((Vl n S).take k).all (fun x=>((x[v]?).getD 0).toNat.testBit u) && (T v).testBit u):=fun u v hv=>by
     rw [htk,List.all_append]
     simp only [List.all_cons,List.all_nil,Bool.and_true]
     rw [hT,Quq hv]
     simp
    unfold Y7
    dsimp only
    rw [aH (dlt hk),h6,h3,e1 a b hb,e1 b a ha]
    generalize ((Vl n S).take k).all (fun x=>((x[b]?).getD 0).toNat.testBit a)=A
    generalize ((Vl n S).take k).all (fun x=>((x[a]?).getD 0).toNat.testBit b)=B
    rw [Qs hk,hT]
    simp only [aC,Q0 hb,Q0 ha,Jz (t64 b hb) (show a < 64 by omega),Jz (t64 a ha) (show b < 64 by omega)]
    cases A <;> cases B <;> simp)
   (by
    unfold Y7
    dsimp only
    rw [aJ (nlt _),cT]
    rfl)
  rw [show ((0:Nat):Int)=0 from rfl] at h
  simpa using h
 have hif:∀(c:Bool) (x:Int × Int),(if c=true then [x] else []).length<=6:=fun c x=>by cases c <;> simp
 have mid:∀a,a < n->∀(o o2:List (Int × Int)) (s:Int × List (Int × Int) × List (Int × Int)),s.1=(a:Int)->o.length<=100->o2.length<=100->Qa fuel (Y5 (Qc n S) s (Vl n S)) (0,o,o2)=some (o++apL (fun b=>if (near S a b && Vn n S a b)=true then [((a:Int),(b:Int))] else []) 0 n,o2++apL (fun b=>if (near S a b && !Vn n S a b && !Vn n S b a && decide (a < b))=true then [((a:Int),(b:Int))] else []) 0 n):=fun a ha o o2 s hs ho ho2 =>
  Qrj (m:=0) (show n<=6 by omega) (fun i x y=>(i,x,y)) (body:=Y5 (Qc n S) s (Vl n S)) _ _ (fun x y=>(x,y)) (fun k=>hif _ _) (fun k=>hif _ _) ho ho2
   (fun b o o2 hb ho ho2=>by
    unfold Y5
    dsimp only
    rw [hlen,aH (dlt hb),hs,Qov (by omega) h64 ha hb,aC]
    have l1:(o++([((a:Int),(b:Int))]:List (Int × Int))).length*16<=140737488355328:=by rw [aP,eJ]; omega
    have l2:(o2++([((a:Int),(b:Int))]:List (Int × Int))).length*16<=140737488355328:=by rw [aP,eJ]; omega
    have hlt:(decide ((a:Int) < (b:Int)))=decide (a < b):=by rw [aQ]; simp
    cases hnr:near S a b with
    | false=>simp
    | true =>
     rw [aJ (by decide),inner a b ha hb _ _ rfl hs,aC]
     dsimp only
     cases h1:Vn n S a b with
     | true=>rw [aH rfl,aH l1]; simp
     | false =>
      rw [aJ (by decide),hlt]
      cases h2:Vn n S b a with
      | true=>simp
      | false =>
       rw [aH (by decide)]
       cases hd:decide (a < b) with
       | true=>rw [aH rfl,aH l2]; simp
       | false=>simp)
   (fun o o2=>by unfold Y5; dsimp only; rw [hlen,aJ (nlt n)])
 have hlen2:∀(p:Nat -> Nat -> Bool) a,(apL (fun b=>if p a b=true then [((a:Int),(b:Int))] else []) 0 n).length<=6:=fun p a=>by
  have:=Zl (L:=fun b=>if p a b=true then [((a:Int),(b:Int))] else []) (k0:=0) (m:=1) (fun _=>Y0) n
  omega
 have h:=Zt (n:=n) (k0:=0) (by omega) (by omega) (fun i (x:List (Int × Int) × List (Int × Int))=>(i,x.1,x.2)) (body:=X8 (Qc n S) (Vl n S))
  (fun k=>(apL (fun a=>apL (fun b=>if (near S a b && Vn n S a b)=true then [((a:Int),(b:Int))] else []) 0 n) 0 k,apL (fun a=>apL (fun b=>if (near S a b && !Vn n S a b && !Vn n S b a && decide (a < b))=true then [((a:Int),(b:Int))] else []) 0 n) 0 k))
  (eL2 n fun a b=>near S a b && Vn n S a b,eL2 n fun a b=>near S a b && !Vn n S a b && !Vn n S b a && decide (a < b))
  (fun k _ hk=>by
   have l1:=Zl (k0:=0) (hlen2 fun a b=>near S a b && Vn n S a b) k
   have l2:=Zl (k0:=0) (hlen2 fun a b=>near S a b && !Vn n S a b && !Vn n S b a && decide (a < b)) k
   unfold X8
   dsimp only
   rw [hlen,aH (dlt hk),mid k hk _ _ _ rfl (by omega) (by omega),aC]
   simp only [apL,eC])
  (by unfold X8; dsimp only; rw [hlen,aJ (nlt n)]; rfl)
 rw [show ((0:Nat):Int)=0 from rfl] at h
 unfold Jw
 rw [Qph hn1 hn hS,aC]
 show (Qa fuel (X8 (Qc n S) (Vl n S)) (0,[],[])).bind _=_
 have h0:(Qa fuel (X8 (Qc n S) (Vl n S)) (0,[],[]))=_:=h
 rw [h0,aC,hlen]
theorem Qif {p p':Nat -> Nat -> Bool} (h:∀a b,a < n->b < n->p a b=p' a b):eL2 n p=eL2 n p':=by
 unfold eL2
 exact Q5 n fun a _ ha=>Q5 n fun b _ hb=>by rw [h a b (by omega) (by omega)]
theorem Qxi {p:Nat -> Nat -> Bool} (hn:n<=6):(eL2 n p).length<=36:=by
 have hlen2:∀a,(apL (fun b=>if p a b=true then [((a:Int),(b:Int))] else []) 0 n).length<=6:=fun a=>by
  have:=Zl (L:=fun b=>if p a b=true then [((a:Int),(b:Int))] else []) (k0:=0) (m:=1) (fun _=>Y0) n
  omega
 have:=Zl (k0:=0) hlen2 n
 unfold eL2; omega
theorem Qoq (hn1:1<=n) (hn:n<=5) (hS:Gd n S):Q3 (Qc n S)=Jw (Qc n S):=by
 obtain ⟨O,h1,hA,hC⟩:=Qc0 (n:=n) (S:=S) (by omega) hS
 rw [h1,Qi1 hn1 hn hS]
 have e:=fun a b ha hb=>Q46 hn hS hA hC (a:=a) (b:=b) ha hb
 congr 2
 ·exact Qif e
 refine Qif fun a b ha hb=>?_
 unfold lnB
 rw [e a b ha hb,e b a hb ha,near_symm (u:=b)]
 cases near S a b <;> cases Vn n S a b <;> cases Vn n S b a <;> cases decide (a < b) <;> rfl
end
end Go.Ab
namespace Go.Ab
open Go
theorem Qvy {a b:Aa} (h1:a.Arrows.length < 1000000) (h2:a.Lines.length < 1000000):Qz a b=some (decide (a=b)):=by
 unfold Qz
 obtain ⟨n,x,y⟩:=a; obtain ⟨m,z,w⟩:=b
 dsimp only at *
 by_cases e:n=m
 ·rw [aH (by simp [e]),Qk3 h1,aC]
  by_cases e2:x=z
  ·rw [aH (by simp [e2]),Qk3 h2,aC]; simp [e,e2]
  rw [aJ (by simp [e2])]; simp [e2]
 rw [aJ (by simp [e])]; simp [e]
end Go.Ab
namespace Go.Ab
open Go
section
variable {n:Nat} {S:Nat -> Nat}
theorem Kd {f:Ac}:f∈X6 n S↔∃x y z:Nat,x < y/\y < n/\z < 2^n/\apB n S x y z=true/\f=fct x y z:=by
 unfold X6
 rw [Z3]
 constructor
 ·rintro ⟨x,_,hx,h⟩
  obtain ⟨y,hy,hy2,h⟩:=(Z3 _).1 h
  unfold fZ at h
  obtain ⟨z,_,hz,h⟩:=(Z3 _).1 h
  split at h
  ·rename_i hp
   exact ⟨x,y,z,by omega,by omega,by omega,hp,bZ.1 h⟩
  cases h
 rintro ⟨x,y,z,h1,h2,h3,h4,rfl⟩
 refine ⟨x,by omega,by omega,(Z3 _).2 ⟨y,by omega,by omega,?_⟩⟩
 unfold fZ
 refine (Z3 _).2 ⟨z,by omega,by omega,?_⟩
 rw [aH h4]; simp
theorem Qgy {x y z x' y' z':Nat} (h:fct x y z=fct x' y' z'):x=x'/\y=y'/\z=z':=by
 unfold fct at h
 simp only [Ac.mk.injEq,dE] at h
 exact h
theorem Q2q {T:Nat -> Nat}:X6 n S=X6 n T↔∀x y z,x < y->y < n->z < 2^n->apB n S x y z=apB n T x y z:=by
 constructor
 ·intro h x y z h1 h2 h3
  have e:∀U,fct x y z∈X6 n U↔apB n U x y z=true:=fun U=>by
   rw [Kd]
   constructor
   ·rintro ⟨x',y',z',_,_,_,k,e⟩
    obtain ⟨rfl,rfl,rfl⟩:=Qgy e
    exact k
   intro k; exact ⟨x,y,z,h1,h2,h3,k,rfl⟩
  rw [aQ,<-e S,<-e T,h]
 intro h
 unfold X6
 refine Q5 n fun x _ hx=>Q5 _ fun y h1 h2=>?_
 unfold fZ
 exact Q5 _ fun z _ hz=>by rw [h x y z (by omega) (by omega) (by omega)]
theorem Q3s {x y z:Nat} (h:apB n S x y z=true):z.testBit x=false/\z.testBit y=false:=by
 unfold apB at h
 simp only [aE,bK] at h
 exact ⟨h.1.1,h.1.2⟩
theorem Qp0:(X6 n S).Nodup:=by
 refine Qh5 (fun x=>Qh5 (fun y=>Qh5 (fun z=>by split <;> simp) (fun z z' hz f h1 h2=>?_) _) (fun y y' hy f h1 h2=>?_) _) (fun x x' hx f h1 h2=>?_) n
 ·split at h1 <;> split at h2 <;> simp at h1 h2
  rw [h1] at h2
  exact hz (Qgy h2).2.2
 ·obtain ⟨z,_,_,h3⟩:=(Z3 _).1 h1
  obtain ⟨z',_,_,h4⟩:=(Z3 _).1 h2
  split at h3 <;> split at h4 <;> simp at h3 h4
  rw [h3] at h4
  exact hy (Qgy h4).2.1
 obtain ⟨y,_,_,h3⟩:=(Z3 _).1 h1
 obtain ⟨y',_,_,h4⟩:=(Z3 _).1 h2
 have h3:f∈apL (fun z=>if apB n S x y z=true then [fct x y z] else []) 0 (2^n):=h3
 have h4:f∈apL (fun z=>if apB n S x' y' z=true then [fct x' y' z] else []) 0 (2^n):=h4
 obtain ⟨z,_,_,h5⟩:=(Z3 _).1 h3
 obtain ⟨z',_,_,h6⟩:=(Z3 _).1 h4
 split at h5 <;> split at h6 <;> simp at h5 h6
 rw [h5] at h6
 exact hx (Qgy h6).1
variable (hS:Gd n S)
include hS
theorem Qdu {x y:Nat} (hxy:x < y) (hy:y < n):(∃z,fct x y z∈X6 n S)↔near S x y=false:=by
 have hx:x < n:=by omega
 constructor
 ·rintro ⟨z,hz⟩
  obtain ⟨x',y',z',h1,h2,h3,h4,h5⟩:=Kd.1 hz
  obtain ⟨rfl,rfl,rfl⟩:=Qgy h5
  rw [bN]
  intro h
  rw [Qi0 hS (Jp.1 h3) hx hy h] at h4; cases h4
 intro h
 obtain ⟨z,hz,e | e⟩:=Qua hS hx hy (by omega) h
 ·exact ⟨z,Kd.2 ⟨x,y,z,hxy,hy,hz,e,rfl⟩⟩
 rw [<-Qnq hS (Jp.1 hz) hx hy] at e
 exact ⟨z,Kd.2 ⟨x,y,z,hxy,hy,hz,e,rfl⟩⟩
theorem Q7s {u w:Nat}:nT n (X6 n S) u w=nrN n S u w:=by
 by_cases hb:u < n/\w < n
 ·obtain ⟨hu,hw⟩:=hb
  rw [Qhb hu hw]
  unfold nT
  simp only [hu,hw,decide_true,eK]
  by_cases e:u=w
  ·subst e; rw [Qfn hS hu]; simp
  simp only [e,decide_false,Bool.not_false,eK]
  have key:Qf3 (X6 n S) u w=!near S u w:=by
   rw [aQ,bK]
   unfold Qf3
   rw [bV]
   constructor
   ·rintro ⟨f,hf,h⟩
    obtain ⟨x,y,z,h1,h2,h3,h4,h5⟩:=Kd.1 hf
    subst h5
    simp only [fct,aN,aE,dL,dE] at h
    rcases h with ⟨rfl,rfl⟩ | ⟨rfl,rfl⟩
    ·exact (Qdu hS h1 h2).1 ⟨z,hf⟩
    rw [near_symm]; exact (Qdu hS h1 h2).1 ⟨z,hf⟩
   intro h
   rcases eW e with h1 | h1
   ·obtain ⟨z,hz⟩:=(Qdu hS h1 hw).2 h
    exact ⟨_,hz,by simp [fct]⟩
   obtain ⟨z,hz⟩:=(Qdu hS h1 hu).2 (by rw [near_symm]; exact h)
   exact ⟨_,hz,by simp [fct]⟩
  rw [key]; simp
 rw [Q4m hS hb]
 unfold nT
 by_cases hu:u < n
 ·have:¬ w < n:=fun h=>hb ⟨hu,h⟩
  simp [this]
 simp [hu]
omit hS in
theorem Qmb (a b:Ac):Ah a b=decide (a=b):=by
 obtain ⟨a1,a2,a3⟩:=a; obtain ⟨b1,b2,b3⟩:=b
 rw [aQ]
 simp [Ah]
omit hS in
theorem Qry {m:List (Ac × Bool)} {k k':Ac} {v:Bool}:Q6 Ah (kput Ah m k v) k'=if k'=k then some v else Q6 Ah m k':=by
 induction m with
 | nil=>simp only [kput,Q6,Qmb,aO]
 | cons p r ih =>
  simp only [kput]
  by_cases h:k=p.1
  ·rw [aH (by rw [Qmb]; exact dB h)]
   simp only [Q6,Qmb,aO]
   by_cases h2:k'=k
   ·rw [aH h2,aH h2]
   rw [aJ h2,aJ h2,aJ (by rw [<-h]; exact h2)]
  rw [aJ (by rw [Qmb]; simpa using h)]
  simp only [Q6,Qmb,aO]
  by_cases h2:k'=p.1
  ·rw [aH h2,aJ (by rw [h2]; exact fun e=>h e.symm),aH h2]
  rw [aJ h2,ih,aJ h2]
omit hS in
theorem Qrh {l:List Ac} (hn:n<=6) (hl:FOk n l) (hnd:l.Nodup) (hlen:l.length < 1000000):∃m,Qa fuel (Xe l (n:Int)) (0,[])=some (.inr m)/\∀f,(Q6 Ah m f).getD false=true↔f∈l:=by
 have h:=Zq (n:=l.length) (k0:=0) (by omega) (by omega) (fun i (x:List (Ac × Bool))=>(i,x)) (body:=Xe l (n:Int))
  (fun k m=>∀f,(Q6 Ah m f).getD false=true↔f∈l.take k) (fun r=>∃m,r=.inr m/\∀f,(Q6 Ah m f).getD false=true↔f∈l)
  (fun k m _ hk hI=>by
   left
   obtain ⟨x,y,z,h1,h2,h3,h4,h5,h6⟩:=hl _ (bO hk)
   have hp:2^n<=64:=aW (n:=2) (by omega) hn
   have z64:z < 18446744073709551616:=by omega
   have htk:l.take (k+1)=l.take k++[l[k]]:=bL hk
   have hnew:¬ (Q6 Ah m (fct x y z)).getD false=true:=by
    rw [hI,<-h6]
    intro hm
    obtain ⟨j,hj,e⟩:=bE.1 hm
    rw [cS] at e
    have hjk:j < k:=by simp at hj; omega
    exact List.pairwise_iff_getElem.1 hnd j k (by omega) hk hjk e
   refine ⟨kput Ah m (fct x y z) true,?_,fun f=>?_⟩
   ·unfold Xe
    dsimp only
    rw [aH (dlt hk),Qs hk,aC,h6]
    show (if (decide ((x:Int) < 0))=true then _ else _)=_
    rw [aJ (by simp)]
    show (if (decide ((x:Int)>=(y:Int)))=true then _ else _)=_
    rw [aJ (by simp; omega)]
    show (if (decide ((y:Int)>=(n:Int)))=true then _ else _)=_
    rw [aJ (by simp; omega),aH (Ql n)]
    show (if ((Int.fdiv (z:Int) (2^min (Int.toNat (n:Int)) zk)) != 0)=true then _ else _)=_
    rw [Kz (by omega),aJ (by simpa using h3)]
    show (if 0<=(x:Int) then (if 0<=(y:Int) then _ else _) else _)=_
    rw [aH (Ql x),aH (Ql y)]
    have eor:((zv (zb (zv (zb (Int.fdiv (z:Int) (2^min (Int.toNat (x:Int)) zk)) ||| zb (Int.fdiv (z:Int) (2^min (Int.toNat (y:Int)) zk))).toNat) &&& zb 1).toNat)==1)=(z.testBit x || z.testBit y):=by
     have hb:zk=64:=rfl
     have e0:∀k:Nat,k < 64->min (Int.toNat (k:Int)) zk=k:=fun k hk=>by rw [hb,aS]; omega
     rw [e0 x (by omega),e0 y (by omega),Js,Js]
     have l1:z / 2^x < 18446744073709551616:=cC (Nat.div_le_self _ _) z64
     have l2:z / 2^y < 18446744073709551616:=cC (Nat.div_le_self _ _) z64
     rw [Jo l1 l2]
     have l3:z / 2^x ||| z / 2^y < 18446744073709551616:=eM (n:=64) l1 l2
     have h:=Qas (k:=0) l3 (by omega)
     have e1:Int.fdiv ((z / 2^x ||| z / 2^y:Nat):Int) (2^min (Int.toNat ((0:Nat):Int)) zk)=((z / 2^x ||| z / 2^y:Nat):Int):=by
      rw [e0 0 (by omega),Js]; simp
     rw [e1] at h
     rw [h,bJ]
     have e2:∀k,(z / 2^k).testBit 0=z.testBit k:=fun k=>by rw [Nat.testBit_div_two_pow]; simp
     rw [e2,e2]
     cases z.testBit x <;> cases z.testBit y <;> rfl
    show (if ((zv (zb (zv (zb (Int.fdiv (z:Int) (2^min (Int.toNat (x:Int)) zk)) ||| zb (Int.fdiv (z:Int) (2^min (Int.toNat (y:Int)) zk))).toNat) &&& zb 1).toNat)==1)=true then _ else _)=_
    rw [eor,h4,h5,aJ (by decide),aJ hnew]
   rw [Qry,htk,h6,bY,bZ]
   by_cases e:f=fct x y z
   ·rw [aH e]; simp [e]
   rw [aJ e,hI]; simp [e])
  (fun m hI=>by
   refine ⟨_,?_,m,rfl,fun f=>by rw [hI,cT]⟩
   unfold Xe
   dsimp only
   rw [aJ (nlt _)]) [] (fun f=>by simp [Q6])
 obtain ⟨r,h1,m,rfl,h2⟩:=h
 exact ⟨m,h1,h2⟩
omit hS in
theorem Q4o (hn1:1<=n) (hn:n<=5) (hS:Gd n S) {T:Nat -> Nat} (hT:Cls n S T):Q3 (Qc n T)=Q3 (Qc n S):=by
 rw [Qoq hn1 hn hT.gd,Qoq hn1 hn hS,Qi1 hn1 hn hT.gd,Qi1 hn1 hn hS]
 have sw:∀U,Cls n T U↔Cls n S U:=fun U=>by
  constructor
  ·intro h; exact ⟨h.gd,fun u w hu hw=>(h.nr u w hu hw).trans (hT.nr u w hu hw),h.cl.trans hT.cl⟩
  intro h; exact ⟨h.gd,fun u w hu hw=>(h.nr u w hu hw).trans (hT.nr u w hu hw).symm,h.cl.trans hT.cl.symm⟩
 have ea:∀a b,b < n->Vn n T a b=Vn n S a b:=fun a b hb=>by
  rw [aQ,Qom hT.gd hb,Qom hS hb]
  exact ⟨fun h U hU=>h U ((sw U).2 hU),fun h U hU=>h U ((sw U).1 hU)⟩
 congr 2
 ·exact Qif fun a b ha hb=>by rw [hT.nr a b ha hb,ea a b hb]
 exact Qif fun a b ha hb=>by rw [hT.nr a b ha hb,ea a b hb,ea b a ha]
theorem Qy7 (hn:n<=7) {T:Nat -> Nat} (hT:Cls n S T):X6 n T=X6 n S :=
 Q2q.2 ((vp hn hT.gd hS).2 ⟨(Qn6 hT.gd hS).2 hT.nr,hT.cl⟩)
end
end Go.Ab
namespace Go.Ab
open Go
section
variable {n:Nat} {l:List Ac}
def FU (l:List Ac):Prop:=∀f∈l,∃z:Nat,f.Z=(z:Int)/\z < 18446744073709551616
def okF (n:Nat) (f:Ac):Prop:=∃x y z:Nat,x < y/\y < n/\z < 2^n/\z.testBit x=false/\z.testBit y=false/\f=fct x y z
theorem Qou {k:Nat} (hk:k < l.length):FOk n (l.take (k+1))↔FOk n (l.take k)/\okF n l[k]:=by
 have htk:l.take (k+1)=l.take k++[l[k]]:=bL hk
 unfold FOk
 rw [htk]
 constructor
 ·intro h; exact ⟨fun f hf=>h f (bY.2 (.inl hf)),h _ (bY.2 (.inr (bZ.2 rfl)))⟩
 rintro ⟨h1,h2⟩ f hf
 rw [bY,bZ] at hf
 rcases hf with hf | rfl
 ·exact h1 f hf
 exact h2
theorem Qqc {k:Nat} (hk:k < l.length):(l.take (k+1)).Nodup↔(l.take k).Nodup/\l[k] ∉ l.take k:=by
 have htk:l.take (k+1)=l.take k++[l[k]]:=bL hk
 rw [htk,List.nodup_append]
 constructor
 ·rintro ⟨h1,_,h3⟩; exact ⟨h1,fun hm=>h3 _ hm _ (by simp) rfl⟩
 rintro ⟨h1,h2⟩; exact ⟨h1,by simp,fun a ha b hb=>by rw [bZ.1 hb]; rintro rfl; exact h2 ha⟩
theorem Qr0 (k:Nat) (h:FOk n l/\l.Nodup):FOk n (l.take k)/\(l.take k).Nodup:=⟨fun f hf=>h.1 f (bM hf),h.2.sublist (List.take_sublist _ _)⟩
theorem Qw7 {f:Ac} {z:Nat} (hz:f.Z=(z:Int)):okF n f↔¬ f.X < 0/\f.X < f.Y/\f.Y < (n:Int)/\z < 2^n/\z.testBit f.X.toNat = false/\z.testBit f.Y.toNat = false:=by
 constructor
 ·rintro ⟨x,y,z',h1,h2,h3,h4,h5,rfl⟩
  have:z'=z:=by have:=hz; unfold fct at this; exact dE.1 this
  subst this
  exact ⟨by show ¬ (x:Int) < 0; omega,by show (x:Int) < (y:Int); omega,by show (y:Int) < (n:Int); omega,h3,by show z'.testBit (x:Int).toNat = false; rw [aS]; exact h4,by show z'.testBit (y:Int).toNat = false; rw [aS]; exact h5⟩
 rintro ⟨h1,h2,h3,h4,h5,h6⟩
 refine ⟨f.X.toNat,f.Y.toNat,z,by omega,by omega,h4,h5,h6,?_⟩
 obtain ⟨X,Y,Z⟩:=f
 dsimp only at *
 unfold fct
 rw [hz,Int.toNat_of_nonneg (by omega),Int.toNat_of_nonneg (by omega)]
theorem Q4y {x y z:Nat} (hx:x < 64) (hy:y < 64) (z64:z < 18446744073709551616):((zv (zb (zv (zb (Int.fdiv (z:Int) (2^min (Int.toNat (x:Int)) zk)) ||| zb (Int.fdiv (z:Int) (2^min (Int.toNat (y:Int)) zk))).toNat) &&& zb 1).toNat)==1)=(z.testBit x || z.testBit y):=by
 have hb:zk=64:=rfl
 have e0:∀k:Nat,k < 64->min (Int.toNat (k:Int)) zk=k:=fun k hk=>by rw [hb,aS]; omega
 rw [e0 x (by omega),e0 y (by omega),Js,Js]
 have l1:z / 2^x < 18446744073709551616:=cC (Nat.div_le_self _ _) z64
 have l2:z / 2^y < 18446744073709551616:=cC (Nat.div_le_self _ _) z64
 rw [Jo l1 l2]
 have l3:z / 2^x ||| z / 2^y < 18446744073709551616:=eM (n:=64) l1 l2
 have h:=Qas (k:=0) l3 (by omega)
 have e1:Int.fdiv ((z / 2^x ||| z / 2^y:Nat):Int) (2^min (Int.toNat ((0:Nat):Int)) zk)=((z / 2^x ||| z / 2^y:Nat):Int):=by
  rw [e0 0 (by omega),Js]; simp
 rw [e1] at h
 rw [h,bJ]
 have e2:∀k,(z / 2^k).testBit 0=z.testBit k:=fun k=>by rw [Nat.testBit_div_two_pow]; simp
 rw [e2,e2]
 cases z.testBit x <;> cases z.testBit y <;> rfl
theorem Qza (hn:n<=6) (hw:FU l) (hlen:l.length < 1000000):(¬ (FOk n l/\l.Nodup)/\Qa fuel (Xe l (n:Int)) (0,[])=some (.inl ()))\/((FOk n l/\l.Nodup)/\∃m,Qa fuel (Xe l (n:Int)) (0,[])=some (.inr m)/\∀f,(Q6 Ah m f).getD false=true↔f∈l):=by
 by_cases hg:FOk n l/\l.Nodup
 ·exact .inr ⟨hg,Qrh hn hg.1 hg.2 hlen⟩
 left
 refine ⟨hg,?_⟩
 have h:=Zq (n:=l.length) (k0:=0) (by omega) (by omega) (fun i (x:List (Ac × Bool))=>(i,x)) (body:=Xe l (n:Int))
  (fun k m=>(FOk n (l.take k)/\(l.take k).Nodup)/\∀f,(Q6 Ah m f).getD false=true↔f∈l.take k) (fun r=>r=.inl ())
  (fun k m _ hk hI=>by
   obtain ⟨⟨hI1,hI2⟩,hI3⟩:=hI
   obtain ⟨z,hz,z64⟩:=hw _ (bO hk)
   have hp:2^n<=64:=aW (n:=2) (by omega) hn
   have htk:l.take (k+1)=l.take k++[l[k]]:=bL hk
   have hok:=Qw7 (n:=n) hz
   unfold Xe
   dsimp only
   rw [aH (dlt hk),Qs hk,aC]
   by_cases c1:l[k].X < 0
   ·right; rw [aH (dB c1)]; exact ⟨_,rfl,rfl⟩
   rw [aJ (by simpa using c1)]
   by_cases c2:l[k].X>=l[k].Y
   ·right; rw [aH (dB c2)]; exact ⟨_,rfl,rfl⟩
   rw [aJ (by simpa using c2)]
   by_cases c3:l[k].Y>=(n:Int)
   ·right; rw [aH (dB c3)]; exact ⟨_,rfl,rfl⟩
   rw [aJ (by simpa using c3),aH (Ql n),hz,Kz (by omega)]
   by_cases c4:z < 2^n
   ·rw [aJ (by simpa using c4),aH (by omega),aH (by omega)]
    obtain ⟨x,hx⟩:∃x:Nat,l[k].X=(x:Int):=⟨l[k].X.toNat,by omega⟩
    obtain ⟨y,hy⟩:∃y:Nat,l[k].Y=(y:Int):=⟨l[k].Y.toNat,by omega⟩
    rw [hx,hy] at hok ⊢
    rw [aS,aS] at hok
    rw [Q4y (x:=x) (y:=y) (by omega) (by omega) z64]
    by_cases c5:(z.testBit x || z.testBit y)=true
    ·right; rw [aH c5]; exact ⟨_,rfl,rfl⟩
    rw [aJ c5]
    have c5':z.testBit x=false/\z.testBit y=false:=by
     cases h1:z.testBit x <;> cases h2:z.testBit y <;> simp_all
    by_cases c6:(Q6 Ah m l[k]).getD false=true
    ·right; rw [aH c6]; exact ⟨_,rfl,rfl⟩
    rw [aJ c6]
    left
    have hmem:l[k] ∉ l.take k:=fun h=>c6 ((hI3 _).2 h)
    refine ⟨_,rfl,⟨(Qou hk).2 ⟨hI1,hok.2 ⟨by omega,by omega,by omega,c4,c5'.1,c5'.2⟩⟩,(Qqc hk).2 ⟨hI2,hmem⟩⟩,fun f=>?_⟩
    rw [Qry,htk,bY,bZ]
    by_cases e:f=l[k]
    ·rw [aH e]; simp [e]
    rw [aJ e,hI3]; simp [e]
   right; rw [aH (by simpa using c4)]; exact ⟨_,rfl,rfl⟩)
  (fun m hI=>by
   rw [cT] at hI
   exact absurd hI.1 hg) [] ⟨⟨fun f hf=>by simp at hf,by simp⟩,fun f=>by simp [Q6]⟩
 obtain ⟨r,h1,rfl⟩:=h
 exact h1
theorem Q0f {x z:Nat} (hz:z < 18446744073709551616) (hx:x < 64):Q7 (z:Int) (x:Int)=some (z.testBit x):=Jz hz hx
theorem Qto (hn:n<=6) (hw:FU l) (hlen:l.length < 1000000):(¬ (FOk n l/\l.Nodup)/\Jg (n:Int) l=some false)\/((FOk n l/\l.Nodup)/\Jg (n:Int) l=some true):=by
 have inner:∀k (hk:k < l.length),(l[k]∈l.take k/\Qa fuel (Jj (k:Int) l l[k]) 0=some (.inl ()))\/(l[k] ∉ l.take k/\Qa fuel (Jj (k:Int) l l[k]) 0=some (.inr ())):=fun k hk=>by
  have h:=Zq (n:=k) (k0:=0) (by omega) (by omega) (fun i (_:Unit)=>i) (body:=Jj (k:Int) l l[k])
   (fun j _=>l[k] ∉ l.take j) (fun r=>(l[k]∈l.take k/\r=.inl ())\/(l[k] ∉ l.take k/\r=.inr ()))
   (fun j _ _ hj hI=>by
    have hjl:j < l.length:=by omega
    unfold Jj
    rw [aH (dlt hj),Qs hjl,aC]
    have e:((l[j].X==l[k].X) && ((l[j].Y==l[k].Y) && ((l[j].Z==l[k].Z) && true)))=decide (l[j]=l[k]):=by
     have h:=congrArg not (neF l[j] l[k])
     rwa [dJ,dJ] at h
    rw [e]
    by_cases c:l[j]=l[k]
    ·right
     rw [aH (dB c)]
     exact ⟨_,rfl,.inl ⟨by rw [<-c]; exact bE.2 ⟨j,by simp; omega,by simp⟩,rfl⟩⟩
    left
    rw [aJ (by simpa using c)]
    refine ⟨(),rfl,?_⟩
    rw [bL hjl,bY,bZ]
    exact fun h=>h.elim hI fun h=>c h.symm)
   (fun _ hI=>by
    unfold Jj
    rw [aJ (nlt _)]
    exact ⟨_,rfl,.inr ⟨hI,rfl⟩⟩) () (by simp)
  obtain ⟨r,h1,h2⟩:=h
  rcases h2 with ⟨a,rfl⟩ | ⟨a,rfl⟩
  ·exact .inl ⟨a,h1⟩
  exact .inr ⟨a,h1⟩
 have h:=Zq (n:=l.length) (k0:=0) (by omega) (by omega) (fun i (_:Unit)=>i) (body:=Qbl l (n:Int))
  (fun k _=>FOk n (l.take k)/\(l.take k).Nodup) (fun r=>(¬ (FOk n l/\l.Nodup)/\r=.inl ())\/((FOk n l/\l.Nodup)/\r=.inr ()))
  (fun k _ _ hk hI=>by
   obtain ⟨hI1,hI2⟩:=hI
   obtain ⟨z,hz,z64⟩:=hw _ (bO hk)
   have hp:2^n<=64:=aW (n:=2) (by omega) hn
   have hok:=Qw7 (n:=n) hz
   have bad:¬ okF n l[k]->¬ (FOk n l/\l.Nodup):=fun h hg=>h ((Qou hk).1 (Qr0 (k+1) hg).1).2
   unfold Qbl
   rw [aH (dlt hk),Qs hk,aC]
   by_cases c1:l[k].X < 0
   ·right; rw [aH (dB c1)]; exact ⟨_,rfl,.inl ⟨bad fun h=>(hok.1 h).1 c1,rfl⟩⟩
   rw [aJ (by simpa using c1)]
   by_cases c2:l[k].Y<=l[k].X
   ·right; rw [aH (dB c2)]; exact ⟨_,rfl,.inl ⟨bad fun h=>by have:=(hok.1 h).2.1; omega,rfl⟩⟩
   rw [aJ (by simpa using c2)]
   by_cases c3:l[k].Y>=(n:Int)
   ·right; rw [aH (dB c3)]; exact ⟨_,rfl,.inl ⟨bad fun h=>by have:=(hok.1 h).2.2.1; omega,rfl⟩⟩
   rw [aJ (by simpa using c3),aH (Ql n),hz,Kz (by omega)]
   by_cases c4:z < 2^n
   ·rw [aJ (by simpa using c4)]
    obtain ⟨x,hx⟩:∃x:Nat,l[k].X=(x:Int):=⟨l[k].X.toNat,by omega⟩
    obtain ⟨y,hy⟩:∃y:Nat,l[k].Y=(y:Int):=⟨l[k].Y.toNat,by omega⟩
    rw [hx,hy] at hok ⊢
    rw [aS,aS] at hok
    rw [Q0f z64 (by omega),aC]
    by_cases c5:z.testBit x=true
    ·right; rw [aH c5]; exact ⟨_,rfl,.inl ⟨bad fun h=>absurd (c5.symm.trans (hok.1 h).2.2.2.2.1) (by decide),rfl⟩⟩
    rw [aJ c5,Q0f z64 (by omega),aC]
    by_cases c6:z.testBit y=true
    ·right; rw [aH c6]; exact ⟨_,rfl,.inl ⟨bad fun h=>absurd (c6.symm.trans (hok.1 h).2.2.2.2.2) (by decide),rfl⟩⟩
    rw [aJ c6]
    rcases inner k hk with ⟨hm,e⟩ | ⟨hm,e⟩
    ·right
     rw [e,aC]
     exact ⟨_,rfl,.inl ⟨fun hg=>((Qqc hk).1 (Qr0 (k+1) hg).2).2 hm,rfl⟩⟩
    left
    rw [e,aC]
    exact ⟨(),rfl,(Qou hk).2 ⟨hI1,hok.2 ⟨by omega,by omega,by omega,c4,by simpa using c5,by simpa using c6⟩⟩,(Qqc hk).2 ⟨hI2,hm⟩⟩
   right; rw [aH (by simpa using c4)]; exact ⟨_,rfl,.inl ⟨bad fun h=>c4 (hok.1 h).2.2.2.1,rfl⟩⟩)
  (fun _ hI=>by
   rw [cT] at hI
   unfold Qbl
   rw [aJ (nlt _)]
   exact ⟨_,rfl,.inr ⟨hI,rfl⟩⟩) () ⟨fun f hf=>by simp at hf,by simp⟩
 obtain ⟨r,h1,h2⟩:=h
 rw [show ((0:Nat):Int)=0 from rfl] at h1
 unfold Jg
 rcases h2 with ⟨a,rfl⟩ | ⟨a,rfl⟩
 ·left; refine ⟨a,?_⟩; rw [h1,aC]
 right; refine ⟨a,?_⟩; rw [h1,aC]
theorem Q4b {f:Ac} (hlen:l.length < 1000000):Qe5 l f=some (decide (f∈l)):=by
 have h:=Zq (n:=l.length) (k0:=0) (by omega) (by omega) (fun i (_:Unit)=>i) (body:=Qb9 l f)
  (fun j _=>f ∉ l.take j) (fun r=>(f∈l/\r=.inl ())\/(f ∉ l/\r=.inr ()))
  (fun j _ _ hj hI=>by
   unfold Qb9
   rw [aH (dlt hj),Qs hj,aC]
   have e:((l[j].X==f.X) && ((l[j].Y==f.Y) && ((l[j].Z==f.Z) && true)))=decide (l[j]=f):=by
    have h:=congrArg not (neF l[j] f)
    rwa [dJ,dJ] at h
   rw [e]
   by_cases c:l[j]=f
   ·right
    rw [aH (dB c)]
    exact ⟨_,rfl,.inl ⟨by rw [<-c]; exact bO hj,rfl⟩⟩
   left
   rw [aJ (by simpa using c)]
   refine ⟨(),rfl,?_⟩
   rw [bL hj,bY,bZ]
   exact fun h=>h.elim hI fun h=>c h.symm)
  (fun _ hI=>by
   rw [cT] at hI
   unfold Qb9
   rw [aJ (nlt _)]
   exact ⟨_,rfl,.inr ⟨hI,rfl⟩⟩) () (by simp)
 obtain ⟨r,h1,h2⟩:=h
 rw [show ((0:Nat):Int)=0 from rfl] at h1
 unfold Qe5
 rcases h2 with ⟨a,rfl⟩ | ⟨a,rfl⟩
 ·rw [h1,aC]; simp [a]
 rw [h1,aC]; simp [a]
def Fit (n:Nat) (S:Nat -> Nat) (l:List Ac):Prop:=∀x y z,x < y->y < n->z < 2^n->z.testBit x=false->z.testBit y=false->(apB n S x y z=true↔fct x y z∈l)
theorem Q1s {S:Nat -> Nat} (hn1:1<=n) (hn:n<=6) (hS:Gd n S) (hlen:l.length < 1000000):∃b,Qd8 (Qc n S) l=some b/\(b=true↔Fit n S l):=by
 have hrl:(Qc n S).length=n:=Zf
 have hp:2^n<=64:=aW (n:=2) (by omega) hn
 let F:Nat -> Nat -> Nat -> Prop:=fun x y z=>z.testBit x=false->z.testBit y=false->(apB n S x y z=true↔fct x y z∈l)
 have zl:∀x y,x < n->y < n->x≠y->((∀z,z < 2^n->F x y z)/\Qa fuel (Xc (Qc n S) (x:Int) (y:Int) l) 0=some (.inr ()))\/((¬ ∀z,z < 2^n->F x y z)/\Qa fuel (Xc (Qc n S) (x:Int) (y:Int) l) 0=some (.inl ())):=fun x y hx hy hxy=>by
  have stepz:∀z,z < 2^n->(F x y z/\Xc (Qc n S) (x:Int) (y:Int) l (z:Int)=some (.next (((z+1:Nat)):Int)))\/(¬ F x y z/\Xc (Qc n S) (x:Int) (y:Int) l (z:Int)=some (.done (.inl ()))):=fun z hz=>by
   have z64:z < 18446744073709551616:=by omega
   have hu:zv ((z:Int)+1)=((z+1:Nat):Int):=Q0o (by omega)
   unfold Xc
   rw [hrl,aH (Ql n),K3 (by omega),aH (dlt hz),Jz z64 (by omega),aC]
   cases zx:z.testBit x with
   | true=>left; exact ⟨fun h=>absurd (zx.symm.trans h) (by decide),by rw [aJ (by decide),hu]⟩
   | false =>
    rw [aH (by decide),Jz z64 (by omega),aC]
    cases zy:z.testBit y with
    | true=>left; exact ⟨fun _ h=>absurd (zy.symm.trans h) (by decide),by rw [aJ (by decide),hu]⟩
    | false =>
     rw [aH (by decide),Qk9 hn1 (by omega) hS hx hy hxy (Jp.1 hz) zx zy,aC]
     have hh:=Q4b (l:=l) (f:=fct x y z) hlen
     unfold fct at hh
     rw [hh,aC,hu]
     have ha:(!(seenS n S x y z).testBit y)=apB n S x y z:=by unfold apB; rw [zx,zy]; rfl
     rw [ha]
     by_cases c:apB n S x y z=decide (fct x y z∈l)
     ·left
      refine ⟨fun _ _=>by rw [c,aO],?_⟩
      unfold fct at c
      rw [c,aJ (by simp)]
     right
     refine ⟨fun h=>c ?_,?_⟩
     ·rw [aQ,aO]; exact h zx zy
     unfold fct at c
     rw [aH (by simpa using c)]
  have key:∀(j N k:Nat),k+j=2^n->j < N->(∀z,z < k->F x y z)->((∀z,z < 2^n->F x y z)/\Qa N (Xc (Qc n S) (x:Int) (y:Int) l) (k:Int)=some (.inr ()))\/((¬ ∀z,z < 2^n->F x y z)/\Qa N (Xc (Qc n S) (x:Int) (y:Int) l) (k:Int)=some (.inl ())):=by
   intro j
   induction j with
   | zero =>
    intro N k hk hN hI
    obtain ⟨N,rfl⟩:∃M,N=M+1:=⟨N - 1,by omega⟩
    have e:k=2^n:=by omega
    subst e
    left
    refine ⟨hI,?_⟩
    have:Xc (Qc n S) (x:Int) (y:Int) l ((2^n:Nat):Int)=some (.done (.inr ())):=by
     unfold Xc
     rw [hrl,aH (Ql n),K3 (by omega),aJ (nlt _)]
    simp only [Qa,this]
   | succ j ih =>
    intro N k hk hN hI
    obtain ⟨N,rfl⟩:∃M,N=M+1:=⟨N - 1,by omega⟩
    rcases stepz k (by omega) with ⟨a,b⟩ | ⟨a,b⟩
    ·simp only [Qa,b]
     exact ih N (k+1) (by omega) (by omega) fun z hz=>by
      by_cases e:z=k
      ·rw [e]; exact a
      exact hI z (by omega)
    right
    refine ⟨fun h=>a (h k (by omega)),?_⟩
    simp only [Qa,b]
  exact key (2^n) fuel 0 (by omega) (by unfold fuel; omega) fun z hz=>by omega
 have yl:∀x,x < n->((∀y,x < y->y < n->∀z,z < 2^n->F x y z)/\Qa fuel (Jn (Qc n S) (x:Int) l) (((x+1:Nat)):Int)=some (.inr ()))\/((¬ ∀y,x < y->y < n->∀z,z < 2^n->F x y z)/\Qa fuel (Jn (Qc n S) (x:Int) l) (((x+1:Nat)):Int)=some (.inl ())):=fun x hx=>by
  have h:=Zq (n:=n) (k0:=x+1) (by omega) (by omega) (fun i (_:Unit)=>i) (body:=Jn (Qc n S) (x:Int) l)
   (fun k _=>∀y,x < y->y < k->∀z,z < 2^n->F x y z) (fun r=>((∀y,x < y->y < n->∀z,z < 2^n->F x y z)/\r=.inr ())\/((¬ ∀y,x < y->y < n->∀z,z < 2^n->F x y z)/\r=.inl ()))
   (fun k _ h1 hk hI=>by
    unfold Jn
    rw [hrl,aH (dlt hk)]
    rcases zl x k hx hk (by omega) with ⟨a,b⟩ | ⟨a,b⟩
    ·left
     rw [b,aC]
     exact ⟨(),rfl,fun y h2 h3=>by
      by_cases e:y=k
      ·rw [e]; exact a
      exact hI y h2 (by omega)⟩
    right
    rw [b,aC]
    exact ⟨_,rfl,.inr ⟨fun h=>a (h k (by omega) hk),rfl⟩⟩)
   (fun _ hI=>by
    unfold Jn
    rw [hrl,aJ (nlt _)]
    exact ⟨_,rfl,.inl ⟨hI,rfl⟩⟩) () (fun y h1 h2=>by omega)
  obtain ⟨r,h1,h2⟩:=h
  rcases h2 with ⟨a,rfl⟩ | ⟨a,rfl⟩
  ·exact .inl ⟨a,h1⟩
  exact .inr ⟨a,h1⟩
 have h:=Zq (n:=n) (k0:=0) (by omega) (by omega) (fun i (_:Unit)=>i) (body:=Qbh (Qc n S) l)
  (fun k _=>∀x,x < k->∀y,x < y->y < n->∀z,z < 2^n->F x y z) (fun r=>((∀x,x < n->∀y,x < y->y < n->∀z,z < 2^n->F x y z)/\r=.inr ())\/((¬ ∀x,x < n->∀y,x < y->y < n->∀z,z < 2^n->F x y z)/\r=.inl ()))
  (fun k _ _ hk hI=>by
   unfold Qbh
   rw [hrl,aH (dlt hk),Qmm (by omega)]
   rcases yl k hk with ⟨a,b⟩ | ⟨a,b⟩
   ·left
    rw [b,aC]
    exact ⟨(),rfl,fun x h2=>by
     by_cases e:x=k
     ·rw [e]; exact a
     exact hI x (by omega)⟩
   right
   rw [b,aC]
   exact ⟨_,rfl,.inr ⟨fun h=>a (h k hk),rfl⟩⟩)
  (fun _ hI=>by
   unfold Qbh
   rw [hrl,aJ (nlt _)]
   exact ⟨_,rfl,.inl ⟨hI,rfl⟩⟩) () (fun x h1=>by omega)
 obtain ⟨r,h1,h2⟩:=h
 rw [show ((0:Nat):Int)=0 from rfl] at h1
 unfold Qd8
 rcases h2 with ⟨a,rfl⟩ | ⟨a,rfl⟩
 ·refine ⟨true,by rw [h1,aC],?_⟩
  simp only [true_iff]
  exact fun x y z h1 h2 h3 h4 h5=>a x (by omega) y h1 h2 z h3 h4 h5
 refine ⟨false,by rw [h1,aC],?_⟩
 simp only [aV,false_iff]
 exact fun h=>a fun x hx y h1 h2 z h3 h4 h5=>h x y z h1 h2 h3 h4 h5
end
end Go.Ab
