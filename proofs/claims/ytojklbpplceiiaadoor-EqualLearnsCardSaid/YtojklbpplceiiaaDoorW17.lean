/- Functions. No conditions. -/
import Derived.Test.YtojklbpplceiiaaDoorW16
import Derived.Test.YtojklbpplceiiaaDoorRows
import Derived.Test.YtojklbpplceiiaaDoorEng7
import Derived.WalkKit
import Derived.ProofKit
import Derived.LaidMore
import Derived.Lib.LaidTab
import Derived.Stop.LaidErr
import Derived.Stop.Joined
import Derived.OpenShut
set_option maxRecDepth 100000
set_option maxHeartbeats 1000000
set_option linter.all false
namespace Go.Ab
open Go
theorem Qpn {α:Type}:∀{a b:List α},a.Nodup->(∀x∈a,x∈b)->a.length<=b.length
 | [],_,_,_=>eP _
 | x::a,b,h,hs=>by
  classical
  have hx:x∈b:=hs x (by simp)
  obtain ⟨b1,b2,rfl⟩:=List.append_of_mem hx
  have h2:=Qpn (a:=a) (b:=b1++b2) (List.nodup_cons.1 h).2 (fun y hy=>by
   have hy2:=hs y (cR _ hy)
   rw [bY,cI] at hy2
   rw [bY]
   rcases hy2 with h3 | rfl | h3
   ·exact .inl h3
   ·exact absurd hy (List.nodup_cons.1 h).1
   exact .inr h3)
  simp only [aP,dP] at h2 ⊢
  omega
theorem Q6z {α:Type} {a b:List α} (h:a.Nodup) (hs:∀x∈a,x∈b) (hl:a.length=b.length):∀x∈b,x∈a:=fun x hx=>by
 classical
 by_cases e:x∈a
 ·exact e
 exfalso
 have:=Qpn (a:=x::a) (b:=b) (List.nodup_cons.2 ⟨e,h⟩) (fun y hy=>by
  rcases cI.1 hy with rfl | hy
  ·exact hx
  exact hs y hy)
 simp only [dP] at this
 omega
section
variable {n:Nat} {l:List Ac}
def lP (n:Nat) (l:List Ac):List (Nat × Nat):=Vi n (nT n l)
def lG (n:Nat) (l:List Ac) (t:Nat):Nat -> Nat := oG n (lP n l) t (lP n l).length
theorem Qqz {u w:Nat}:nT n l u w=nT n l w u:=by
 unfold nT Qf3
 have e:(l.any fun f=>(f.X==(u:Int) && f.Y==(w:Int)) || (f.X==(w:Int) && f.Y==(u:Int)))=l.any fun f=>(f.X==(w:Int) && f.Y==(u:Int)) || (f.X==(u:Int) && f.Y==(w:Int)):=by
  congr 1; funext f; exact Bool.or_comm _ _
 have e2:decide (u=w)=decide (w=u):=by rw [aQ]; simp [eq_comm]
 rw [e,e2,Bool.and_comm (decide (u < n))]
theorem Q5v {u:Nat}:nT n l u u=false:=by unfold nT; simp
theorem Q78 {p:Nat × Nat} (h:p∈lP n l):p.1 < n/\p.2 < n:=by have:=Yn.1 h; omega
theorem Qo3 {t u w:Nat}:(lG n l t u).testBit w=true↔∃i,((lP n l)[i]?=some (u,w)/\t.testBit i=true)\/((lP n l)[i]?=some (w,u)/\t.testBit i=false):=by
 unfold lG
 rw [Qzg fun p hp=>Q78 hp,Qnm]
 constructor
 ·rintro ⟨i,_,h⟩; exact ⟨i,h⟩
 rintro ⟨i,h⟩
 refine ⟨i,?_,h⟩
 rcases h with ⟨h,_⟩ | ⟨h,_⟩ <;> exact (aD.1 h).1
theorem Qxa {t u w:Nat} (hu:u < n) (hw:w < n):near (lG n l t) u w=nT n l u w:=by
 have key:∀u w,u < w->w < n->near (lG n l t) u w=nT n l u w:=fun u w h1 h2=>by
  rw [aQ]
  constructor
  ·intro h
   have hmem:∀a b:Nat,(lG n l t a).testBit b=true->nT n l a b=true:=fun a b hb=>by
    obtain ⟨i,⟨h,_⟩ | ⟨h,_⟩⟩:=Qo3.1 hb
    ·exact (Yn.1 (aF h)).2.2
    rw [Qqz]; exact (Yn.1 (aF h)).2.2
   unfold near at h
   rw [aN] at h
   rcases h with h | h
   ·exact hmem u w h
   rw [Qqz]; exact hmem w u h
  intro h
  obtain ⟨i,hi⟩:=bW.1 ((Yn (p:=(u,w))).2 ⟨h1,h2,h⟩)
  unfold near
  rw [aN]
  cases hb:t.testBit i with
  | true=>exact .inl (Qo3.2 ⟨i,.inl ⟨hi,hb⟩⟩)
  | false=>exact .inr (Qo3.2 ⟨i,.inr ⟨hi,hb⟩⟩)
 rcases Nat.lt_trichotomy u w with h | h | h
 ·exact key u w h hw
 ·subst h
  rw [Q5v,bN]
  intro hb
  unfold near at hb
  rw [Bool.or_self] at hb
  obtain ⟨i,⟨h,_⟩ | ⟨h,_⟩⟩:=Qo3.1 hb <;> have:=(Yn.1 (aF h)).1 <;> simp at this
 rw [near_symm,Qqz]; exact key w u h hu
theorem Qgo {S:Nat -> Nat} (hl:FOk n l):Fit n S l↔∀f,f∈l↔f∈X6 n S:=by
 constructor
 ·intro h f
  constructor
  ·intro hf
   obtain ⟨x,y,z,h1,h2,h3,h4,h5,rfl⟩:=hl f hf
   exact Kd.2 ⟨x,y,z,h1,h2,h3,(h x y z h1 h2 h3 h4 h5).2 hf,rfl⟩
  intro hf
  obtain ⟨x,y,z,h1,h2,h3,h4,rfl⟩:=Kd.1 hf
  exact (h x y z h1 h2 h3 (Q3s h4).1 (Q3s h4).2).1 h4
 intro h x y z h1 h2 h3 h4 h5
 rw [h]
 constructor
 ·intro h6; exact Kd.2 ⟨x,y,z,h1,h2,h3,h6,rfl⟩
 intro h6
 obtain ⟨x',y',z',_,_,_,k,e⟩:=Kd.1 h6
 obtain ⟨rfl,rfl,rfl⟩:=Qgy e
 exact k
theorem Q5m {S:Nat -> Nat} (hS:Gd n S) (hm:∀f,f∈l↔f∈X6 n S):tcL n l=cls n S:=by
 have hnT:∀u w,nT n l u w=nrN n S u w:=fun u w=>by
  rw [<-Q7s hS]
  unfold nT
  congr 2
  unfold Qf3
  rw [aQ,bV,bV]
  exact ⟨fun ⟨f,h1,h2⟩=>⟨f,(hm f).1 h1,h2⟩,fun ⟨f,h1,h2⟩=>⟨f,(hm f).2 h1,h2⟩⟩
 unfold tcL cls
 refine Q5 n fun a _ ha=>Q5 n fun b _ hb=>Q5 _ fun c h1 h2=>?_
 have ha:a < n:=by omega
 have hb:b < n:=by omega
 have hc:c < n:=by omega
 have e:tcB n l a b c=((S b).testBit a && (S b).testBit c && !near S a c):=by
  unfold tcB
  rw [hnT,hnT,Qhb ha hb,Qhb hb hc]
  cases hz:Jq l (a:Int) (c:Int) with
  | none =>
   have hnr:near S a c=true:=by
    cases hn:near S a c with
    | true=>rfl
    | false =>
     obtain ⟨z,hz2⟩:=(Qdu hS (by omega) hc).2 hn
     exact absurd ⟨rfl,rfl⟩ (Qyt hz _ ((hm _).2 hz2))
   rw [hnr]; simp
  | some z =>
   have hml:=(hm _).1 (Qpx hz)
   obtain ⟨x,y,z',g1,g2,g3,g4,g5⟩:=Kd.1 hml
   have gx:x=a:=by have:=congrArg Ac.X g5; exact (dE.1 this).symm
   have gy:y=c:=by have:=congrArg Ac.Y g5; exact (dE.1 this).symm
   have gz:z=(z':Int):=by have:=congrArg Ac.Z g5; exact this
   subst gx; subst gy; subst gz
   have hnr:near S x y=false:=(Qdu hS g1 g2).1 ⟨z',by rw [<-g5]; exact hml⟩
   rw [hnr,cY,aS]
   simp only [dQ,eK,Bool.not_false,Bool.and_true]
   cases n1:near S x b with
   | false =>
    have:(S b).testBit x=false:=by unfold near at n1; rw [cV] at n1; exact n1.2
    rw [this]; simp
   | true =>
    cases n2:near S b y with
    | false =>
     have:(S b).testBit y=false:=by unfold near at n2; rw [cV] at n2; exact n2.1
     rw [this]; simp
    | true =>
     rw [Qkx hS (Jp.1 g3) ha hb hc g4 n1 n2]
     simp
 rw [e]
theorem Qvs {t:Nat} (hl:FOk n l) (hg:gdB n (lG n l t)=true) (h:Fit n (lG n l t) l):cls n (lG n l t)=tcL n l:=(Q5m (Qag.1 hg) ((Qgo hl).1 h)).symm
theorem Qxb {t t':Nat} (hn:n<=7) (hl:FOk n l) (hg:gdB n (lG n l t)=true) (h:Fit n (lG n l t) l) (hg':gdB n (lG n l t')=true) (hc:cls n (lG n l t')=tcL n l):Cls n (lG n l t) (lG n l t')/\Fit n (lG n l t') l:=by
 have hC:Cls n (lG n l t) (lG n l t'):=⟨Qag.1 hg',fun u w hu hw=>by rw [Qxa hu hw,Qxa hu hw],by rw [hc,Qvs hl hg h]⟩
 refine ⟨hC,(Qgo hl).2 fun f=>?_⟩
 rw [Qy7 (Qag.1 hg) hn hC]
 exact (Qgo hl).1 h f
def noE:Aa:=Aa.mk 0 ([]:List (Int × Int)) ([]:List (Int × Int))
theorem Qz1 (hn1:1<=n) (hn:n<=5) (hl:FOk n l) (hnd:l.Nodup) (hlen:l.length < 1000000):∃r,Q9 (n:Int) l=some r /\
  ((∃t,t < 2^(lP n l).length/\gdB n (lG n l t)=true/\cls n (lG n l t)=tcL n l/\Fit n (lG n l t) l/\Q3 (Qc n (lG n l t))=some r.1/\r.2=0) \/
  (r=(noE,4)/\((∀t,t < 2^(lP n l).length->gdB n (lG n l t)=true->cls n (lG n l t)≠tcL n l)\/∃t,gdB n (lG n l t)=true/\cls n (lG n l t)=tcL n l/\¬ Fit n (lG n l t) l))):=by
 obtain ⟨hp,hpl⟩:=Qm0 (n:=n) (N:=nT n l) hn
 have hpow:=Qg8 hp
 have hpl2:(prs n (nT n l)).length=(lP n l).length:=hpl
 obtain ⟨m,hm1,hm2⟩:=Qrh (n:=n) (l:=l) (by omega) hl hnd hlen
 have hrow:∀t,X7 (X6 n (lG n l t),0) m=X7 (X6 n (lG n l t),0) m:=fun _=>rfl
 have own:∀S:Nat -> Nat,(X6 n S).length < 1000000->((∀f∈X6 n S,f∈l)/\Qa fuel (X7 (X6 n S,0) m) 0=some (Sum.inr ()))\/((¬ ∀f∈X6 n S,f∈l)/\Qa fuel (X7 (X6 n S,0) m) 0=some (Sum.inl ())):=fun S hS=>by
  have h:=Zq (n:=(X6 n S).length) (k0:=0) (by omega) (by omega) (fun i (_:Unit)=>i) (body:=X7 (X6 n S,0) m) (fun k _=>∀f∈(X6 n S).take k,f∈l)
   (fun r=>((∀f∈X6 n S,f∈l)/\r=Sum.inr ())\/((¬ ∀f∈X6 n S,f∈l)/\r=Sum.inl ()))
   (fun k _ _ hk hI=>by
    unfold X7
    dsimp only
    rw [aH (dlt hk),Qs hk,aC]
    by_cases c:(Q6 Ah m (X6 n S)[k]).getD false=true
    ·left
     rw [aJ (by rw [c]; decide)]
     refine ⟨(),rfl,fun f hf=>?_⟩
     rw [bL hk,bY,bZ] at hf
     rcases hf with hf | rfl
     ·exact hI f hf
     exact (hm2 _).1 c
    right
    rw [aH (by simpa using c)]
    exact ⟨_,rfl,.inr ⟨fun h=>c ((hm2 _).2 (h _ (bO hk))),rfl⟩⟩)
   (fun _ hI=>by
    rw [cT] at hI
    unfold X7; dsimp only; rw [aJ (nlt _)]
    exact ⟨_,rfl,.inl ⟨hI,rfl⟩⟩) () (fun f hf=>by simp at hf)
  obtain ⟨r,h1,h2⟩:=h
  rcases h2 with ⟨a,rfl⟩ | ⟨a,rfl⟩
  ·exact .inl ⟨a,h1⟩
  exact .inr ⟨a,h1⟩
 have hK:∀K:Ad × List (Int × Int × Int),K=(⟨(n:Int),Qj (mI (nT n l))⟩,tcL n l)->∃r,Qa fuel (Kg (prs n (nT n l)) K l m) 0=some r /\
   ((∃t x,t < 2^(lP n l).length/\gdB n (lG n l t)=true/\cls n (lG n l t)=tcL n l/\Fit n (lG n l t) l/\Q3 (Qc n (lG n l t))=some x/\r=Sum.inr (Sum.inr (Sum.inl (x.N,x.Arrows,x.Lines)))) \/
   ((r=Sum.inl 4\/r=Sum.inr (Sum.inl ()))/\∃t,gdB n (lG n l t)=true/\cls n (lG n l t)=tcL n l/\¬ Fit n (lG n l t) l) \/
   (r=Sum.inr (Sum.inr (Sum.inr ()))/\∀t,t < 2^(lP n l).length->gdB n (lG n l t)=true->cls n (lG n l t)≠tcL n l)):=fun K hK=>by
  have h:=Zq (n:=2^(prs n (nT n l)).length) (k0:=0) (eP _) (by omega) (fun i (_:Unit)=>i) (body:=Kg (prs n (nT n l)) K l m)
   (fun k _=>∀t,t < k->gdB n (lG n l t)=true->cls n (lG n l t)≠tcL n l) (fun r=>((∃t x,t < 2^(lP n l).length/\gdB n (lG n l t)=true/\cls n (lG n l t)=tcL n l/\Fit n (lG n l t) l/\Q3 (Qc n (lG n l t))=some x/\r=Sum.inr (Sum.inr (Sum.inl (x.N,x.Arrows,x.Lines)))) \/
   ((r=Sum.inl 4\/r=Sum.inr (Sum.inl ()))/\∃t,gdB n (lG n l t)=true/\cls n (lG n l t)=tcL n l/\¬ Fit n (lG n l t) l) \/
   (r=Sum.inr (Sum.inr (Sum.inr ()))/\∀t,t < 2^(lP n l).length->gdB n (lG n l t)=true->cls n (lG n l t)≠tcL n l)))
   (fun t _ _ ht hI=>by
    have next:∀{X:Prop},¬ (gdB n (lG n l t)=true/\cls n (lG n l t)=tcL n l)->∀t',t' < t+1->gdB n (lG n l t')=true->cls n (lG n l t')≠tcL n l:=fun hne t' ht' hg' hc'=>by
     by_cases e:t'=t
     ·subst e; exact hne ⟨hg',hc'⟩
     exact hI t' (by omega) hg' hc'
    unfold Kg
    rw [hK]
    dsimp only
    rw [Qq4 (by omega),aH (dlt ht),aH (by omega)]
    have e:=Qir (n:=n) (t:=t) (P:=lP n l) (by omega) (by unfold lP; omega) (by omega) (fun p hp=>by have:=Yn.1 hp; omega) (body:=Qc6 (prs n (nT n l)) (t:Int)) (fun s=>by
      unfold Qc6; rw [Qng]; rfl)
    rw [aS,e,aC]
    have e2:oG n (lP n l) t (lP n l).length=lG n l t:=rfl
    rw [e2,Qv6 (S:=lG n l t) (by omega) (Ql0 (by omega)),aC]
    have e3:(pls n (lG n l t) n==2^n - 1)=gdB n (lG n l t):=rfl
    rw [e3]
    by_cases hg:gdB n (lG n l t)=true
    ·have hG:=Qag.1 hg
     rw [aH hg,Qk4 (by omega) hG,aC,Qx9 (by have:=Qra (S:=lG n l t) (show n<=7 by omega); omega),aC]
     by_cases hcl:cls n (lG n l t)=tcL n l
     ·right
      have hfl:=Qtj (S:=lG n l t) hn1 (show n<=6 by omega) hG
      rw [aH (by simp [hcl]),Qwg hn1 (by omega) hG,aC]
      dsimp only
      rw [aJ (by decide)]
      by_cases hlg:(X6 n (lG n l t)).length=l.length
      ·rw [aJ (by rw [hlg]; simp)]
       rcases own (lG n l t) (by omega) with ⟨a,b⟩ | ⟨a,b⟩
       ·rw [b,aC]
        dsimp only
        have hf:Fit n (lG n l t) l:=(Qgo hl).2 fun f=>⟨fun h=>Q6z Qp0 a hlg f h,a f⟩
        obtain ⟨O,o1,_,_⟩:=Qc0 (n:=n) (S:=lG n l t) (by omega) hG
        rw [o1,aC]
        exact ⟨_,rfl,.inl ⟨t,_,by rw [<-hpl2]; exact ht,hg,hcl,hf,o1,rfl⟩⟩
       rw [b,aC]
       exact ⟨_,rfl,.inr (.inl ⟨.inl rfl,t,hg,hcl,fun hf=>a fun f hf2=>((Qgo hl).1 hf f).2 hf2⟩)⟩
      rw [aH (by rw [dK]; exact fun h=>hlg (dE.1 h))]
      refine ⟨_,rfl,.inr (.inl ⟨.inr rfl,t,hg,hcl,fun hf=>hlg ?_⟩)⟩
      have hm:=(Qgo hl).1 hf
      exact Nat.le_antisymm (Qpn Qp0 fun f h=>(hm f).2 h) (Qpn hnd fun f h=>(hm f).1 h)
     left
     rw [aJ (by simp [hcl])]
     exact ⟨(),rfl,next (X:=True) fun h=>hcl h.2⟩
    left
    rw [aJ hg]
    exact ⟨(),rfl,next (X:=True) fun h=>hg h.1⟩)
   (fun _ hI=>by
    rw [hpl] at hI
    unfold Kg
    rw [Qq4 (by omega),aJ (nlt _)]
    exact ⟨_,rfl,.inr (.inr ⟨rfl,hI⟩)⟩) () (fun t ht=>by omega)
  obtain ⟨r,h1,h2⟩:=h
  exact ⟨r,h1,h2⟩
 obtain ⟨r,h1,h2⟩:=hK _ rfl
 unfold Q9
 rw [aJ (by simp; omega),aJ (by simp; omega),hm1,aC]
 dsimp only
 rw [Q2s (by omega) hl hlen,aC]
 show ∃r,(Z0 ⟨(n:Int),Qj (mI (nT n l))⟩).bind _=some r/\_
 rw [Q0m (by omega),aC,aH (Ql _),h1,aC]
 rcases h2 with ⟨t,x,a0,a,b,c,d,rfl⟩ | ⟨rfl | rfl,a⟩ | ⟨rfl,a⟩
 ·exact ⟨_,rfl,.inl ⟨t,a0,a,b,c,d,rfl⟩⟩
 ·exact ⟨_,rfl,.inr ⟨rfl,.inr a⟩⟩
 ·exact ⟨_,rfl,.inr ⟨rfl,.inr a⟩⟩
 ·exact ⟨_,rfl,.inr ⟨rfl,.inl a⟩⟩
end
end Go.Ab
namespace Go.Ab
open Go
section
variable {n:Nat} {l:List Ac}
theorem Qzy (hn:n<=6) (hl:FOk n l) (hlen:l.length < 1000000):Qa fuel (Kb (n:Int) l) (0,([]:List (Int × Int)))=some (prs n (nT n l)):=by
 have sees:∀(x y:Nat) (s9 s12:Int × List (Int × Int)),x < y->y < n->s9.1=(x:Int)->s12.1=(y:Int)->Qa fuel (Kk l s9 s12) (false,0)=some (!nT n l x y):=fun x y s9 s12 hxy hy e9 e12=>by
  have h:=Zt (n:=l.length) (k0:=0) (by omega) (by omega) (fun i (b:Bool)=>(b,i)) (body:=Kk l s9 s12) (fun k=>(l.take k).any fun f=>f.X==(x:Int) && f.Y==(y:Int)) (l.any fun f=>f.X==(x:Int) && f.Y==(y:Int))
   (fun k _ hk=>by
    have htk:l.take (k+1)=l.take k++[l[k]]:=bL hk
    have ha:(l.take (k+1)).any (fun f=>f.X==(x:Int) && f.Y==(y:Int))=((l.take k).any (fun f=>f.X==(x:Int) && f.Y==(y:Int)) || (l[k].X==(x:Int) && l[k].Y==(y:Int))):=by
     rw [htk,List.any_append]; simp only [List.any_cons,List.any_nil,Bool.or_false]
    rw [ha]
    generalize (l.take k).any (fun f=>f.X==(x:Int) && f.Y==(y:Int))=b
    unfold Kk
    dsimp only
    rw [aH (dlt hk),e9,e12]
    cases b with
    | true=>rfl
    | false =>
     rw [aJ (by decide),Qs hk,aC,Bool.false_or]
     cases hX:l[k].X==(x:Int) with
     | true=>rw [aH rfl,eK]
     | false=>rw [aJ (by decide),Bool.false_and])
   (by
    unfold Kk
    dsimp only
    rw [aJ (nlt _),cT])
  simp only [List.take_zero,List.any_nil] at h
  rw [show ((0:Nat):Int)=0 from rfl] at h
  rw [h]
  congr 1
  have hx:x < n:=by omega
  have hne:¬ x=y:=by omega
  unfold nT
  simp only [hx,hy,hne,decide_true,decide_false,Bool.not_false,eK,dJ]
  unfold Qf3
  rw [aQ,bV,bV]
  constructor
  ·rintro ⟨f,hf,h⟩; exact ⟨f,hf,by rw [h]; rfl⟩
  rintro ⟨f,hf,h⟩
  refine ⟨f,hf,?_⟩
  rw [aN] at h
  rcases h with h | h
  ·exact h
  exfalso
  obtain ⟨x',y',z,h1,_,_,_,_,rfl⟩:=hl f hf
  simp only [fct,aE,dL,dE] at h
  omega
 have inner:∀x (o:List (Int × Int)) (s9:Int × List (Int × Int)),x < n->s9.1=(x:Int)->o.length<=100->Qa fuel (Ke (n:Int) l s9) (((x+1:Nat):Int),o)=some (o++apL (fun j=>if nT n l x j=true then [((x:Int),(j:Int))] else []) (x+1) (n - (x+1))):=fun x o s9 hx e9 ho =>
  Z1 (m:=1) (c:=100) (by omega) (by omega) (fun k (x:List (Int × Int))=>(k,x)) (body:=Ke (n:Int) l s9) _ id (fun _=>Y0) ho
   (fun y o h1 h2 hx=>by
    unfold Ke
    dsimp only
    rw [aH (dlt h2),sees x y s9 ((y:Int),o) (by omega) h2 e9 rfl,aC,dJ]
    by_cases hb:nT n l x y=true
    ·rw [aH hb,aH hb,aH (by rw [aP]; simp; omega),e9]
    rw [aJ hb,aJ hb,dD])
   (fun x=>by unfold Ke; dsimp only; rw [aJ (nlt n)]; rfl)
 have outer:=Z1 (n:=n) (k0:=0) (m:=6) (c:=0) (by omega) (by omega) (fun k (x:List (Int × Int))=>(k,x)) (body:=Kb (n:Int) l)
  (fun i=>if i < n then apL (fun j=>if nT n l i j=true then [((i:Int),(j:Int))] else []) (i+1) (n - (i+1)) else []) id (fun i=>by
   split
   ·have:=Zl (L:=fun j=>if nT n l i j=true then [((i:Int),(j:Int))] else []) (k0:=i+1) (m:=1) (fun _=>Y0) (n - (i+1)); omega
   simp) (out:=[]) (by simp)
  (fun k o _ hk ho=>by
   unfold Kb
   dsimp only
   rw [aH (dlt hk),Qdn (by omega),inner k o _ hk rfl (by omega),aC,aH hk])
  (fun o=>by unfold Kb; dsimp only; rw [aJ (nlt n)]; rfl)
 rw [show ((0:Nat):Int)=0 from rfl] at outer
 rw [outer,dC,dI]
 show some (apL _ 0 n)=_
 rw [Q5 n (L':=fun i=>apL (fun j=>if nT n l i j=true then [((i:Int),(j:Int))] else []) (i+1) (n - (i+1))) fun i _ h=>by rw [aH (by omega)]]
 rfl
theorem Qtf (hn1:1<=n) (hn:n<=5):Yx (n:Int) (prs n (nT n l))=some (((List.range (2^(lP n l).length)).filter fun t=>gdB n (lG n l t)).map fun t=>Qc n (lG n l t)):=by
 obtain ⟨hp,hpl⟩:=Qm0 (n:=n) (N:=nT n l) hn
 have hpow:=Qg8 hp
 have h:=Z1 (n:=2^(prs n (nT n l)).length) (k0:=0) (m:=1) (c:=0) (eP _) (by omega) (fun k (x:List (List Int))=>(k,x)) (body:=Xs (prs n (nT n l)) (n:Int))
  (fun t=>if gdB n (lG n l t)=true then [Qc n (lG n l t)] else []) id (fun t=>Y0) (out:=[]) (by simp)
  (fun t o _ ht ho=>by
   unfold Xs
   dsimp only
   rw [aH (Ql _),Qq4 (by omega),aH (dlt ht),aH (by omega)]
   have e:=Qir (n:=n) (t:=t) (P:=lP n l) (by omega) (by unfold lP; omega) (by omega) (fun p hp=>by have:=Yn.1 hp; omega) (body:=Vr (prs n (nT n l)) ((t:Int),o)) (fun s=>by
    unfold Vr; rw [Qng]; rfl)
   rw [aS,e,aC]
   have e2:oG n (lP n l) t (lP n l).length=lG n l t:=rfl
   obtain ⟨c,hc1,hc2⟩:=Qru (m:=n) (show n<=7 by omega) (Ql0 (n:=n) (P:=lP n l) (t:=t) (k:=(lP n l).length) (by omega))
   rw [e2] at hc1 hc2 ⊢
   rw [hc1,aC]
   have hcg:c=gdB n (lG n l t):=by
    rw [aQ,hc2,Qag]
    exact ⟨fun h=>h.2,fun h=>⟨by omega,h⟩⟩
   rw [hcg]
   by_cases hg:gdB n (lG n l t)=true
   ·rw [aH hg,aH (by rw [aP]; simp; omega),aH hg]
   rw [aJ hg,aJ hg,dD])
  (fun o=>by
   unfold Xs
   dsimp only
   rw [aH (Ql _),Qq4 (by omega),aJ (nlt _)]; rfl)
 rw [show ((0:Nat):Int)=0 from rfl] at h
 unfold Yx
 rw [h,aC,dC,dI,Qkn,hpl]
 rfl
theorem Qsd (hn1:1<=n) (hn:n<=5) (hl:FOk n l) (hg:Jg (n:Int) l=some true) (hlen:l.length < 1000000):∃r,Zp (n:Int) l=some r /\
  ((∃t,t < 2^(lP n l).length/\gdB n (lG n l t)=true/\Fit n (lG n l t) l/\Q3 (Qc n (lG n l t))=some r.1/\r.2=0) \/
  (r=(noE,4)/\∀t,t < 2^(lP n l).length->gdB n (lG n l t)=true->¬ Fit n (lG n l t) l)):=by
 obtain ⟨hp,hpl⟩:=Qm0 (n:=n) (N:=nT n l) hn
 have hpow:=Qg8 hp
 have hmem:∀D,D=((List.range (2^(lP n l).length)).filter fun t=>gdB n (lG n l t)).map (fun t=>Qc n (lG n l t))->D.length<=1024/\(∀x∈D,∃t,t < 2^(lP n l).length/\gdB n (lG n l t)=true/\x=Qc n (lG n l t))/\∀t,t < 2^(lP n l).length->gdB n (lG n l t)=true->Qc n (lG n l t)∈D:=fun D hD=>by
  subst hD
  refine ⟨?_,fun x hx=>?_,fun t ht hgt=>?_⟩
  ·rw [cE]
   have:=List.length_filter_le (fun t=>gdB n (lG n l t)) (List.range (2^(lP n l).length))
   rw [List.length_range] at this
   unfold lP at this ⊢
   rw [<-hpl] at this ⊢
   omega
  ·obtain ⟨t,h1,rfl⟩:=cJ.1 hx
   have h2:=cW.1 h1
   exact ⟨t,cX.1 h2.1,h2.2,rfl⟩
  exact cJ.2 ⟨t,cW.2 ⟨cX.2 ht,hgt⟩,rfl⟩
 unfold Zp
 rw [aJ (by simp; omega),aJ (by simp; omega),hg,aC,aJ (by decide),Qzy (by omega) hl hlen,aC,Qtf hn1 hn,aC]
 generalize hD:((List.range (2^(lP n l).length)).filter fun t=>gdB n (lG n l t)).map (fun t=>Qc n (lG n l t))=D
 obtain ⟨d1,d2,d3⟩:=hmem D hD.symm
 have h:=Zq (n:=D.length) (k0:=0) (eP _) (by omega) (fun i (_:Unit)=>i) (body:=Qar D l)
  (fun k _=>∀t,t < 2^(lP n l).length->Qc n (lG n l t)∈D.take k->gdB n (lG n l t)=true->¬ Fit n (lG n l t) l)
  (fun r=>(∃t x,t < 2^(lP n l).length/\gdB n (lG n l t)=true/\Fit n (lG n l t) l/\Q3 (Qc n (lG n l t))=some x/\r=Sum.inl (x.N,x.Arrows,x.Lines))\/(r=Sum.inr ()/\∀t,t < 2^(lP n l).length->gdB n (lG n l t)=true->¬ Fit n (lG n l t) l))
  (fun k _ _ hk hI=>by
   obtain ⟨t,ht,hgt,e⟩:=d2 _ (bO hk)
   have hG:=Qag.1 hgt
   obtain ⟨b,hb1,hb2⟩:=Q1s (l:=l) hn1 (show n<=6 by omega) hG hlen
   unfold Qar
   rw [aH (dlt hk),Qs hk,aC,e,hb1,aC]
   cases b with
   | true =>
    right
    obtain ⟨O,o1,_,_⟩:=Qc0 (n:=n) (S:=lG n l t) (by omega) hG
    have o2:=o1
    rw [Qoq hn1 hn hG] at o2
    rw [aH rfl,o2,aC]
    exact ⟨_,rfl,.inl ⟨t,_,ht,hgt,hb2.1 rfl,o1,rfl⟩⟩
   | false =>
    left
    rw [aJ (by decide)]
    refine ⟨(),rfl,fun t' ht' hm' hg' hf'=>?_⟩
    rw [bL hk,bY,bZ] at hm'
    rcases hm' with hm' | hm'
    ·exact hI t' ht' hm' hg' hf'
    rw [e] at hm'
    have hsame:∀v,v < n->lG n l t' v=lG n l t v:=fun v hv=>by
     have h1:=Q0 (n:=n) (w:=lG n l t') hv
     rw [hm',Q0 hv] at h1
     exact (dE.1 (dR h1)).symm
    have:Fit n (lG n l t) l:=fun x y z h1 h2 h3 h4 h5=>by
     rw [<-hf' x y z h1 h2 h3 h4 h5,Qh4 hsame]
    exact absurd (hb2.2 this) (by decide))
  (fun _ hI=>by
   unfold Qar
   rw [aJ (nlt _)]
   rw [cT] at hI
   exact ⟨_,rfl,.inr ⟨rfl,fun t ht hg=>hI t ht (d3 t ht hg) hg⟩⟩) () (fun t _ h=>by simp at h)
 obtain ⟨r,h1,h2⟩:=h
 rw [show ((0:Nat):Int)=0 from rfl] at h1
 rw [h1,aC]
 rcases h2 with ⟨t,x,a,b,c,d,rfl⟩ | ⟨rfl,a⟩
 ·exact ⟨_,rfl,.inl ⟨t,a,b,c,d,rfl⟩⟩
 ·exact ⟨_,rfl,.inr ⟨rfl,a⟩⟩
def Qtv (x:Aa):Prop:=x.Arrows.length < 1000000/\x.Lines.length < 1000000
theorem Qyn (m:Int) (hw:FU l) (hlen:l.length < 1000000):∃r,Q9 m l=some r/\Zp m l=some r/\Qtv r.1:=by
 have hno:Qtv noE:=⟨by simp [noE],by simp [noE]⟩
 by_cases h1:m < 1
 ·refine ⟨(noE,2),?_,?_,hno⟩
  ·unfold Q9; rw [aH (dB h1)]; rfl
  unfold Zp; rw [aH (dB h1)]; rfl
 by_cases h2:m > 5
 ·refine ⟨(noE,2),?_,?_,hno⟩
  ·unfold Q9; rw [aJ (by simpa using h1),aH (dB h2)]; rfl
  unfold Zp; rw [aJ (by simpa using h1),aH (dB h2)]; rfl
 obtain ⟨n,rfl⟩:∃n:Nat,m=(n:Int):=⟨m.toNat,by omega⟩
 have hn1:1<=n:=by omega
 have hn:n<=5:=by omega
 rcases Qza (n:=n) (by omega) hw hlen with ⟨hbad,e1⟩ | ⟨⟨hl,hnd⟩,_⟩
 ·have e2:Jg (n:Int) l=some false:=by
   rcases Qto (n:=n) (by omega) hw hlen with ⟨_,e⟩ | ⟨h,_⟩
   ·exact e
   exact absurd h hbad
  refine ⟨(noE,311),?_,?_,hno⟩
  ·unfold Q9; rw [aJ (by simpa using h1),aJ (by simpa using h2),e1,aC]; rfl
  unfold Zp; rw [aJ (by simpa using h1),aJ (by simpa using h2),e2,aC,aH (by decide)]; rfl
 have hgood:Jg (n:Int) l=some true:=by
  rcases Qto (n:=n) (by omega) hw hlen with ⟨h,_⟩ | ⟨_,e⟩
  ·exact absurd ⟨hl,hnd⟩ h
  exact e
 obtain ⟨r,p1,p2⟩:=Qz1 hn1 hn hl hnd hlen
 obtain ⟨s,q1,q2⟩:=Qsd hn1 hn hl hgood hlen
 have hshort:∀{t:Nat} {x:Aa},gdB n (lG n l t)=true->Q3 (Qc n (lG n l t))=some x->Qtv x:=fun {t x} hg hx=>by
  obtain ⟨O,o1,_,_⟩:=Qc0 (n:=n) (S:=lG n l t) (by omega) (Qag.1 hg)
  rw [hx] at o1
  cases o1
  have a1:=Qxi (n:=n) (p:=O) (by omega)
  have a2:=Qxi (n:=n) (p:=fun a b=>decide (a < b) && lnB (near (lG n l t)) O a b) (by omega)
  exact ⟨by dsimp only; omega,by dsimp only; omega⟩
 rcases q2 with ⟨t2,ht2,g2,f2,x2,z2⟩ | ⟨rfl,hno2⟩
 ·rcases p2 with ⟨t,t1,g1,c1,f1,x1,z1⟩ | ⟨rfl,hn | ⟨t,g1,c1,f1⟩⟩
  ·have hC:=(Qxb (show n<=7 by omega) hl g2 f2 g1 c1).1
   have he:=Q4o hn1 hn (Qag.1 g2) hC
   rw [x1,x2] at he
   refine ⟨r,p1,?_,hshort g1 x1⟩
   rw [q1]
   congr 1
   exact Prod.ext (dR he).symm (by rw [z1,z2])
  ·exact absurd (Qvs hl g2 f2) (hn t2 ht2 g2)
  exact absurd (Qxb (show n<=7 by omega) hl g2 f2 g1 c1).2 f1
 rcases p2 with ⟨t,t1,g1,c1,f1,x1,z1⟩ | ⟨rfl,_⟩
 ·exact absurd f1 (hno2 t t1 g1)
 exact ⟨_,p1,q1,hno⟩
end
end Go.Ab
namespace Go.Ab
open Go
def Qxt (l:List Ac):Prop:=FU l/\l.length < 1000000
theorem Q7k {n:Nat} {S:Nat -> Nat} (hn:n<=6):FU (X6 n S):=fun f hf=>by
 obtain ⟨x,y,z,_,_,h3,_,rfl⟩:=Kd.1 hf
 have hp:2^n<=64:=aW (n:=2) (by omega) hn
 exact ⟨z,rfl,by omega⟩
theorem Quc {l l':List Ac} (h:FU l) (hs:∀f∈l',f∈l):FU l':=fun f hf=>h f (hs f hf)
theorem Q5o {l:List Ac} (h:l.length<=100000):Qh l=some l:=by
 unfold Qh
 cases l with
 | nil=>rfl
 | cons c d=>simp only [Yh]; rw [aH (by omega)]
theorem Q2n {l:List Ac} (hl:l.length<=100000):∃r,Qa fuel Yt (0,zw ((l.length:Int) - 1),l)=some r/\r.length=l.length/\∀f∈r,f∈l:=by
 have h:=Zq (n:=l.length / 2) (k0:=0) (by omega) (by omega) (fun i (x:Int × List Ac)=>(i,x.1,x.2)) (body:=Yt)
  (fun k x=>x.1=(l.length:Int) - 1 - k/\x.2.length=l.length/\∀f∈x.2,f∈l) (fun r=>r.length=l.length/\∀f∈r,f∈l)
  (fun k x _ hk hI=>by
   obtain ⟨j,y⟩:=x
   obtain ⟨h1,h2,h3⟩:=hI
   dsimp only at h1 h2 h3
   obtain ⟨m,rfl⟩:∃m:Nat,j=(m:Int):=⟨j.toNat,by omega⟩
   have hm:m=l.length - 1 - k:=by omega
   have hk1:k < y.length:=by omega
   have hm1:m < y.length:=by omega
   left
   refine ⟨(zw ((m:Int) - 1),(y.set k y[m]).set m y[k]),?_,?_,?_,?_⟩
   ·unfold Yt
    dsimp only
    rw [aH (dB (by omega)),Qs hm1,aC,Qs hk1,aC,aS,aS,Qs (by rw [cF]; exact hm1),aC]
   ·dsimp only
    rw [w64 (by omega)]; omega
   ·dsimp only
    rw [cF,cF]; exact h2
   intro f hf
   dsimp only at hf
   rcases dW hf with hf | rfl
   ·rcases dW hf with hf | rfl
    ·exact h3 f hf
    exact h3 _ (bO hm1)
   exact h3 _ (bO hk1))
  (fun x hI=>by
   obtain ⟨j,y⟩:=x
   obtain ⟨h1,h2,h3⟩:=hI
   dsimp only at h1 h2 h3
   unfold Yt
   dsimp only
   rw [aJ (by rw [aO]; omega)]
   exact ⟨_,rfl,h2,h3⟩) ((l.length:Int) - 1,l) ⟨by simp,rfl,fun f hf=>hf⟩
 obtain ⟨r,h1,h2,h3⟩:=h
 refine ⟨r,?_,h2,h3⟩
 rw [w64 (by omega)]
 exact h1
def tw (l:List Ac):Nat -> List Ac
 | 0=>[]
 | 1=>l
 | _=>l++l
theorem Q5n {l:List Ac} (hl:l.length<=100000):Xb [l,l]=some (l++l):=by
 have hlen:(([l,l]:List (List Ac)).length:Int)=((2:Nat):Int):=rfl
 have hg:∀k:Nat,k < 2->lkI ([l,l]:List (List Ac)) (k:Int)=some l:=fun k hk=>by
  rw [Qs (by simpa using hk)]
  have:k=0\/k=1:=by omega
  rcases this with rfl | rfl <;> rfl
 have s:=Zt (n:=2) (k0:=0) (by omega) (by omega) (fun i (x:Int)=>(x,i)) (body:=Ze [l,l]) (fun k=>((k*l.length:Nat):Int)) ((2*l.length:Nat):Int)
  (fun k _ hk=>by
   unfold Ze
   dsimp only
   have hk2:k*l.length<=2*l.length:=aU _ (by omega)
   have e:zw (((k*l.length:Nat):Int)+(l.length:Int))=(((k+1)*l.length:Nat):Int):=by
    rw [eD,w64 (by omega)]; omega
   rw [hlen,aH (dlt hk),hg k hk,aC,e,aJ (by rw [aO]; exact Int.not_lt.2 (Int.natCast_nonneg _))])
  (by
   unfold Ze
   dsimp only
   rw [hlen,aJ (nlt _)])
 have T:∀(body:Int × List Ac->Option (Qd (Int × List Ac) (List Ac))),(∀s,body s=if (decide (s.1 < (([l,l]:List (List Ac)).length:Int)))=true then
  (lkI [l,l] s.1).bind fun a18 =>
  if (s.2++a18).length*24<=140737488355328 then
   some (.next (zw (s.1+1),(s.2++a18)))
  else none
 else
 some (.done s.2))->Qa fuel body (0,([]:List Ac))=some (l++l):=fun body hb=>by
  have h:=Zt (n:=2) (k0:=0) (by omega) (by omega) (fun i (x:List Ac)=>(i,x)) (body:=body) (tw l) (l++l)
   (fun k _ hk=>by
    rw [hb]
    dsimp only
    rw [hlen,aH (dlt hk),hg k hk,aC]
    have:k=0\/k=1:=by omega
    rcases this with rfl | rfl
    ·show (if ([]++l).length*24<=140737488355328 then _ else _)=_
     rw [aH (by rw [dC]; omega)]; rfl
    show (if (l++l).length*24<=140737488355328 then _ else _)=_
    rw [aH (by rw [aP]; omega)]; rfl)
   (by
    rw [hb]
    dsimp only
    rw [hlen,aJ (nlt _)]; rfl)
  exact h
 have s':Qa fuel (Ze [l,l]) (0,0)=some ((2*l.length:Nat):Int):=by
  have:=s
  simp only [Nat.zero_mul] at this
  exact this
 unfold Xb
 rw [s',aC,aJ (by rw [aO]; omega),w64 (by omega)]
 by_cases h0:(2*l.length:Nat) > 0
 ·rw [aH (dB (by omega)),aH (by omega),aH ⟨by omega,by omega,by omega⟩,T (Jb [l,l]) (fun s=>rfl),aC]
 rw [aJ (by simp; omega),T (Je [l,l]) (fun s=>rfl),aC]
theorem Qr4 {m:Int} {l:List Ac} (hw:Qxt l) {σ:Type} {A B C:Option σ} :
  ((Q9 m l).bind fun x44=>(Zp m l).bind fun x46=>if (x44.2 != x46.2)=true then A else (Qz x44.1 x46.1).bind fun x50=>if (!x50)=true then B else C)=C:=by
 obtain ⟨r,h1,h2,h3⟩:=Qyn m hw.1 hw.2
 rw [h1,aC,h2,aC,aJ (by simp),Qvy h3.1 h3.2,aC,aJ (by simp)]
theorem Qrl {m m5:Int} {L:List (List Ac)} (h7:L.length=7) (hL:∀y∈L,Qxt y) (body:Int->Option (Qd Int (Unit ⊕ Unit)))
  (hb:∀s,body s=if (decide (s < 7))=true then
  (lkI L s).bind fun a40 =>
  if (s==5)=true then
   (Q9 m5 a40).bind fun x44 =>
   (Zp m5 a40).bind fun x46 =>
   if (x44.2 != x46.2)=true then
    some (.done (Sum.inl ()))
   else
   (Qz x44.1 x46.1).bind fun x50 =>
   if (!x50)=true then
    some (.done (Sum.inl ()))
   else
   some (.next (zw (s+1)))
  else
  (Q9 m a40).bind fun x54 =>
  (Zp m a40).bind fun x56 =>
  if (x54.2 != x56.2)=true then
   some (.done (Sum.inl ()))
  else
  (Qz x54.1 x56.1).bind fun x60 =>
  if (!x60)=true then
   some (.done (Sum.inl ()))
  else
  some (.next (zw (s+1)))
 else
 some (.done (Sum.inr ()))):Qa fuel body 0=some (.inr ()):=by
 have h:=Zt (n:=7) (k0:=0) (by omega) (by omega) (fun i (_:Unit)=>i) (body:=body) (fun _=>()) (Sum.inr ())
  (fun k _ hk=>by
   rw [hb,aH (dB (by omega)),Qs (by omega),aC]
   have hF:=hL _ (bO (show k < L.length by omega))
   split
   ·exact Qr4 hF
   exact Qr4 hF)
  (by rw [hb,aJ (by decide)])
 exact h
theorem Qw8 {α:Type}:∀{m l:List α} {i:Nat} {x:α},x∈ovr l i m->x∈l\/x∈m
 | [],l,i,x,h=>.inl h
 | y::ys,l,i,x,h=>by
  rcases Qw8 (m:=ys) h with h | h
  ·rcases dW h with h | rfl
   ·exact .inl h
   exact .inr (by simp)
  exact .inr (cR _ h)
theorem Qwz {α:Type} {l:List α} {a b:Int} {x:α} (h:x∈sub l a b):x∈l:=bQ (bM h)
theorem Q7p {l:List Ac} {f:Ac} {i:Nat} (h:FU l) (hf:FU [f]):FU (l.set i f):=fun g hg=>by
 rcases dW hg with hg | rfl
 ·exact h g hg
 exact hf _ (by simp)
theorem Q0z {l l':List Ac} (h:FU l) (h':FU l'):FU (l++l'):=fun g hg=>by
 rcases bY.1 hg with hg | hg
 ·exact h g hg
 exact h' g hg
theorem Q0b {l m:List Ac} {i:Nat} (h:FU l) (h':FU m):FU (ovr l i m):=fun g hg=>by
 rcases Qw8 hg with hg | hg
 ·exact h g hg
 exact h' g hg
theorem Q5y {k:Nat}:FU (List.replicate k ((Ac.mk 0 0 0):Ac)):=fun g hg=>by
 rw [dZ hg]; exact ⟨0,rfl,by omega⟩
theorem learns_true (p0:Ae) (p1:Int) (p2:Ac) (p3:Int) (p4:List Ac) (h0:K7 p0) (h1:(Lit.int .u8 p1).wf=true) (h2:Qa7 p2) (h3:(Lit.int .i64 p3).wf=true) (h4:p4.length<=maxLen/\∀y0∈p4,Qa7 y0):Qbd p0 p1 p2 p3 p4=some true:=by
 have d0:=Q1w h0
 obtain ⟨S,hg,hG,h5⟩:=Qz3 d0 (m:=5) (by omega)
 have hg':Vt (Ae.mk p0.N (p0.Order.1,p0.Order.2.1,p0.Order.2.2.1,p0.Order.2.2.2.1,p0.Order.2.2.2.2.1,p0.Order.2.2.2.2.2) p0.Edges) 5=some (Qc (1+p0.N.toNat % 5) S):=hg
 clear hg
 generalize hn:1+p0.N.toNat % 5=n at *
 have hn1:1<=n:=by omega
 have hfl:=Qtj (S:=S) hn1 (show n<=6 by omega) hG
 have hfu:FU (X6 n S):=Q7k (by omega)
 have b1:=wf8 h1
 have f2:FU [p2]:=fun f hf=>by
  rw [bZ.1 hf]
  have:=Q6a h2.2.2
  exact ⟨p2.Z.toNat,by omega,by omega⟩
 have f4:FU (sub p4 0 (if 12 < (p4.length:Int) then 12 else (p4.length:Int))):=fun f hf=>by
  have:=Q6a (h4.2 f (Qwz hf)).2.2
  exact ⟨f.Z.toNat,by omega,by omega⟩
 have l4:(sub p4 0 (if 12 < (p4.length:Int) then 12 else (p4.length:Int))).length < 1000000:=by
  unfold sub
  rw [cZ]
  split <;> omega
 have c4:0<=(0:Int)/\(0:Int)<=(if 12 < (p4.length:Int) then 12 else (p4.length:Int))/\(if 12 < (p4.length:Int) then 12 else (p4.length:Int))<=(p4.length:Int):=by split <;> omega
 unfold Qbd
 rw [hg',aC,Qsj hn1 (by omega) hG,aC]
 generalize hl:X6 n S=l at *
 obtain ⟨x19,t1,t2,t3⟩:=Q2n (l:=l) (by omega)
 have fu19:FU x19:=Quc hfu t3
 rw [Q5o (by omega),aC,t1,aC,aC,aC,Q5n (by omega),aC]
 have capp:(l++([p2]:List Ac)).length*24<=140737488355328:=by rw [aP]; simp; omega
 have fapp:Qxt (l++[p2]):=⟨Q0z hfu f2,by rw [aP]; simp; omega⟩
 have ftw:Qxt (l++l):=⟨Q0z hfu hfu,by rw [aP]; omega⟩
 by_cases hpos:0 < l.length
 ·rw [aH (dB (by omega)),aH (by omega)]
  obtain ⟨a,ha,hal⟩:∃a:Nat,Int.tmod (zw p1) (l.length:Int)=(a:Int)/\a < l.length:=by
   refine ⟨p1.toNat % l.length,?_,cL _ hpos⟩
   rw [w64 (by omega)]
   obtain ⟨q,rfl⟩:∃q:Nat,p1=(q:Int):=⟨p1.toNat,by omega⟩
   rw [aS]
   rfl
  rw [ha]
  have hs1:zw ((a:Int)+1)=((a+1:Nat):Int):=Qmm (by omega)
  rw [hs1,aH (by omega),aJ (by rw [dL]; omega),aH (by omega),aH (by omega)]
  generalize hM:sub l ((a+1:Nat):Int) (l.length:Int)=M
  have hMl:M.length=l.length - (a+1):=by rw [<-hM]; unfold sub; rw [cZ,dA]; simp
  have hMu:FU M:=Quc hfu fun f hf=>by rw [<-hM] at hf; exact Qwz hf
  have z0:Int.toNat (0:Int)=0:=rfl
  simp only [aS,z0,dI]
  generalize hR:ovr l a M=R
  have hRl:R.length=l.length:=by rw [<-hR,<-Qgl]
  have hRu:FU R:=by rw [<-hR]; exact Q0b hfu hMu
  rw [aH (by omega),aH (by omega),aH (by omega),Qs hal,aC,aC,aH c4,aC,aH capp,aH t2.symm]
  have hlk:=Qrl (m:=((Qc n S).length:Int)) (m5:=p3) (L:=[l,x19,List.take (a+M.length) (ovr R (a+M.length) (List.replicate (l.length - (a+M.length)) ((Ac.mk 0 0 0):Ac))),List.set l a p2,l++l,sub p4 0 (if 12 < (p4.length:Int) then 12 else (p4.length:Int)),l++[p2]]) rfl (fun y hy=>by
    simp only [cI,List.not_mem_nil,or_false] at hy
    rcases hy with rfl | rfl | rfl | rfl | rfl | rfl | rfl
    ·exact ⟨hfu,by omega⟩
    ·exact ⟨fu19,by rw [t2]; omega⟩
    ·exact ⟨Quc (Q0b hRu Q5y) fun f hf=>bM hf,cC (List.length_take_le _ _) (by omega)⟩
    ·exact ⟨Q7p hfu f2,by rw [cF]; omega⟩
    ·exact ftw
    ·exact ⟨f4,l4⟩
    ·exact fapp) (K5 l x19 p1 l l p2 (l++l) p4 l p3 (Qc n S)) (fun s=>by
     unfold K5
     rw [ha,hs1,hM]
     simp only [aS,z0,dI]
     rw [hR])
  rw [hlk,aC]
  dsimp only
  rw [Qvg]; rfl
 ·rw [aJ (by rw [aO]; omega),aH c4,aC,aH capp,aH t2.symm]
  have hlk:=Qrl (m:=((Qc n S).length:Int)) (m5:=p3) (L:=[l,x19,l,l,l++l,sub p4 0 (if 12 < (p4.length:Int) then 12 else (p4.length:Int)),l++[p2]]) rfl (fun y hy=>by
    simp only [cI,List.not_mem_nil,or_false] at hy
    rcases hy with rfl | rfl | rfl | rfl | rfl | rfl | rfl
    ·exact ⟨hfu,by omega⟩
    ·exact ⟨fu19,by rw [t2]; omega⟩
    ·exact ⟨hfu,by omega⟩
    ·exact ⟨hfu,by omega⟩
    ·exact ftw
    ·exact ⟨f4,l4⟩
    ·exact fapp) (Qck l x19 l l (l++l) p4 l p2 p3 (Qc n S)) (fun s=>rfl)
  rw [hlk,aC]
  dsimp only
  rw [Qvg]; rfl
#print axioms learns_true
end Go.Ab
namespace Go.Ab
open Go Go.Proofs Go.Proofs.YtojklbpplceiiaaDoor
open Go.ChangeShapes Go.WideShapes Go.ChangeAt Go.RowKit
abbrev dr_laid:List (String × DataW Unit):=[("math/bits.deBruijn32tab",Rows.laid_math_bits_deBruijn32tab),("math/bits.deBruijn64tab",Rows.laid_math_bits_deBruijn64tab)]
theorem dr_own:ownKnob Tryd.prog.godebug=none:=by kernel_rfl
theorem Q3k:Tryd.prog.globalNamed "math/bits.deBruijn32tab" = some 0:=by kernel_rfl
theorem Q3j:Tryd.prog.globalNamed "math/bits.deBruijn64tab" = some 1:=by kernel_rfl
theorem dr_met (os:Os) (args:Array Value):laidMetH Tryd.prog dr_laid ((World.doorLaid Tryd.prog 19 os).forCall (fun _ _=>0) ⟨#[],args,[]⟩).memory :=
 laidMetH_of_parts3 (fuel:=8) (laidMet_of_run' 8 (by kernel_rfl) (by kernel_rfl)) (by kernel_rfl) (by kernel_rfl)
theorem dr_glob {W:World} (h:laidMetH Tryd.prog dr_laid W):Go.Ab.GlobIn W:=by
 rw [MakeChecks.laidMetH_plain _ _ _ (by kernel_rfl)] at h
 have h0:=Lib.tabIs_of_head (k:=.u8) (zs:=Go.Ab.tab0) (t:=164) (e:=5) (n:=32) Q3k (by kernel_rfl) (by kernel_rfl) (by kernel_rfl) (by kernel_rfl) (by kernel_rfl) h
 have h1:=Lib.tabIs_of_head (k:=.u8) (zs:=Go.Ab.tab1) (t:=165) (e:=5) (n:=64) Q3j (by kernel_rfl) (by kernel_rfl) (by kernel_rfl) (by kernel_rfl) (by kernel_rfl) h.tail
 intro g xs hg i v hv
 match g,hg with
 | 0,hg =>
  cases hg
  have hi:i < Go.Ab.tab0.length:=by have:=(aD.1 hv).1; simpa using this
  have:=h0.cell Q3k i hi
  rw [this]
  rw [bH] at hv
  simpa [List.getD,hi] using hv
 | 1,hg =>
  cases hg
  have hi:i < Go.Ab.tab1.length:=by have:=(aD.1 hv).1; simpa using this
  have:=h1.cell Q3j i hi
  rw [this]
  rw [bH] at hv
  simpa [List.getD,hi] using hv
 | n+2,hg=>cases hg
end Go.Ab
