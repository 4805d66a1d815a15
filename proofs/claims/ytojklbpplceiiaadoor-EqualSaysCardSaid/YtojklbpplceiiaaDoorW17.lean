/- What functions compute. No conditions. -/
import Derived.Test.YtojklbpplceiiaaDoorW16
import Derived.Test.YtojklbpplceiiaaDoorRows
import Derived.Test.YtojklbpplceiiaaDoorEng7
import Derived.WalkKit
import Derived.ProofKit
import Derived.LaidMore
import Derived.Lib.LaidTab
import Derived.Stop.LaidErr
import Derived.Stop.Joined
import Derived.OpenShut
set_option linter.all false
namespace Go.Ab
open Go
set_option maxRecDepth 100000
set_option maxHeartbeats 1000000
section
variable {n:Nat} {S:Nat → Nat}
theorem Qci {f:Tapi_Fact}:f∈Xn n S↔∃x y z:Nat,x < y∧y < n∧z < 2^n∧apB n S x y z=true∧f=fct x y z:=by
 unfold Xn
 rw [Zw]
 constructor
 ·rintro ⟨x,_,hx,h⟩
  obtain ⟨y,hy,hy2,h⟩:=(Zw _).1 h
  unfold fZ at h
  obtain ⟨z,_,hz,h⟩:=(Zw _).1 h
  split at h
  ·rename_i hp
   exact ⟨x,y,z,by omega,by omega,by omega,hp,List.mem_singleton.1 h⟩
  ·cases h
 ·rintro ⟨x,y,z,h1,h2,h3,h4,rfl⟩
  refine ⟨x,by omega,by omega,(Zw _).2 ⟨y,by omega,by omega,?_⟩⟩
  unfold fZ
  refine (Zw _).2 ⟨z,by omega,by omega,?_⟩
  rw [if_pos h4]; simp
theorem Qin {x y z x' y' z':Nat} (h:fct x y z=fct x' y' z'):x=x'∧y=y'∧z=z':=by
 unfold fct at h
 simp only [Tapi_Fact.mk.injEq,Int.ofNat_inj] at h
 exact h
theorem Qr3 {T:Nat → Nat}:Xn n S=Xn n T↔∀x y z,x < y→y < n→z < 2^n→apB n S x y z=apB n T x y z:=by
 constructor
 ·intro h x y z h1 h2 h3
  have e:∀U,fct x y z∈Xn n U↔apB n U x y z=true:=fun U=>by
   rw [Qci]
   constructor
   ·rintro ⟨x',y',z',_,_,_,k,e⟩
    obtain ⟨rfl,rfl,rfl⟩:=Qin e
    exact k
   ·intro k; exact ⟨x,y,z,h1,h2,h3,k,rfl⟩
  rw [Bool.eq_iff_iff,←e S,←e T,h]
 ·intro h
  unfold Xn
  refine Q1 n fun x _ hx=>Q1 _ fun y h1 h2=>?_
  unfold fZ
  exact Q1 _ fun z _ hz=>by rw [h x y z (by omega) (by omega) (by omega)]
theorem Q1s {x y z:Nat} (h:apB n S x y z=true):z.testBit x=false∧z.testBit y=false:=by
 unfold apB at h
 simp only [Bool.and_eq_true,Bool.not_eq_true'] at h
 exact ⟨h.1.1,h.1.2⟩
theorem Qve:FOk n (Xn n S):=fun f hf=>by
 obtain ⟨x,y,z,h1,h2,h3,h4,h5⟩:=Qci.1 hf
 exact ⟨x,y,z,h1,h2,h3,(Q1s h4).1,(Q1s h4).2,h5⟩
theorem Qwd:(Xn n S).Nodup:=by
 refine Qgq (fun x=>Qgq (fun y=>Qgq (fun z=>by split <;> simp) (fun z z' hz f h1 h2=>?_) _) (fun y y' hy f h1 h2=>?_) _) (fun x x' hx f h1 h2=>?_) n
 ·split at h1 <;> split at h2 <;> simp at h1 h2
  rw [h1] at h2
  exact hz (Qin h2).2.2
 ·obtain ⟨z,_,_,h3⟩:=(Zw _).1 h1
  obtain ⟨z',_,_,h4⟩:=(Zw _).1 h2
  split at h3 <;> split at h4 <;> simp at h3 h4
  rw [h3] at h4
  exact hy (Qin h4).2.1
 ·obtain ⟨y,_,_,h3⟩:=(Zw _).1 h1
  obtain ⟨y',_,_,h4⟩:=(Zw _).1 h2
  have h3:f∈apL (fun z=>if apB n S x y z=true then [fct x y z] else []) 0 (2^n):=h3
  have h4:f∈apL (fun z=>if apB n S x' y' z=true then [fct x' y' z] else []) 0 (2^n):=h4
  obtain ⟨z,_,_,h5⟩:=(Zw _).1 h3
  obtain ⟨z',_,_,h6⟩:=(Zw _).1 h4
  split at h5 <;> split at h6 <;> simp at h5 h6
  rw [h5] at h6
  exact hx (Qin h6).1
variable (hS:Gd n S)
include hS
theorem Qcs {x y:Nat} (hxy:x < y) (hy:y < n):(∃z,fct x y z∈Xn n S)↔near S x y=false:=by
 have hx:x < n:=by omega
 constructor
 ·rintro ⟨z,hz⟩
  obtain ⟨x',y',z',h1,h2,h3,h4,h5⟩:=Qci.1 hz
  obtain ⟨rfl,rfl,rfl⟩:=Qin h5
  rw [Bool.eq_false_iff]
  intro h
  rw [Qhy hS (Jh.1 h3) hx hy h] at h4; cases h4
 ·intro h
  obtain ⟨z,hz,e | e⟩:=Qr2 hS hx hy (by omega) h
  ·exact ⟨z,Qci.2 ⟨x,y,z,hxy,hy,hz,e,rfl⟩⟩
  ·rw [←Qmf hS (Jh.1 hz) hx hy] at e
   exact ⟨z,Qci.2 ⟨x,y,z,hxy,hy,hz,e,rfl⟩⟩
theorem Qtf {u w:Nat}:nT n (Xn n S) u w=nrN n S u w:=by
 by_cases hb:u < n∧w < n
 ·obtain ⟨hu,hw⟩:=hb
  rw [Kf hu hw]
  unfold nT
  simp only [hu,hw,decide_true,Bool.true_and]
  by_cases e:u=w
  ·subst e; rw [Qeq hS hu]; simp
  ·simp only [e,decide_false,Bool.not_false,Bool.true_and]
   have key:Qjk (Xn n S) u w=!near S u w:=by
    rw [Bool.eq_iff_iff,Bool.not_eq_true']
    unfold Qjk
    rw [List.any_eq_true]
    constructor
    ·rintro ⟨f,hf,h⟩
     obtain ⟨x,y,z,h1,h2,h3,h4,h5⟩:=Qci.1 hf
     subst h5
     simp only [fct,Bool.or_eq_true,Bool.and_eq_true,beq_iff_eq,Int.ofNat_inj] at h
     rcases h with ⟨rfl,rfl⟩ | ⟨rfl,rfl⟩
     ·exact (Qcs hS h1 h2).1 ⟨z,hf⟩
     ·rw [near_symm]; exact (Qcs hS h1 h2).1 ⟨z,hf⟩
    ·intro h
     rcases Nat.lt_or_gt_of_ne e with h1 | h1
     ·obtain ⟨z,hz⟩:=(Qcs hS h1 hw).2 h
      exact ⟨_,hz,by simp [fct]⟩
     ·obtain ⟨z,hz⟩:=(Qcs hS h1 hu).2 (by rw [near_symm]; exact h)
      exact ⟨_,hz,by simp [fct]⟩
   rw [key]; simp
 ·rw [Qph hS hb]
  unfold nT
  by_cases hu:u < n
  ·have:¬ w < n:=fun h=>hb ⟨hu,h⟩
   simp [this]
  ·simp [hu]
theorem Q2f:tcL n (Xn n S)=cls n S:=by
 unfold tcL cls
 refine Q1 n fun a _ ha=>Q1 n fun b _ hb=>Q1 _ fun c h1 h2=>?_
 have ha:a < n:=by omega
 have hb:b < n:=by omega
 have hc:c < n:=by omega
 have e:tcB n (Xn n S) a b c=((S b).testBit a && (S b).testBit c && !near S a c):=by
  unfold tcB
  rw [Qtf hS,Qtf hS,Kf ha hb,Kf hb hc]
  cases hz:V6 (Xn n S) (a:Int) (c:Int) with
  | none =>
   have hnr:near S a c=true:=by
    cases hn:near S a c with
    | true=>rfl
    | false =>
     obtain ⟨z,hz2⟩:=(Qcs hS (by omega) hc).2 hn
     exact absurd ⟨rfl,rfl⟩ (Qwr hz _ hz2)
   rw [hnr]; simp
  | some z =>
   have hm:=Qon hz
   obtain ⟨x,y,z',g1,g2,g3,g4,g5⟩:=Qci.1 hm
   have gx:x=a:=by have:=congrArg Tapi_Fact.X g5; exact (Int.ofNat_inj.1 this).symm
   have gy:y=c:=by have:=congrArg Tapi_Fact.Y g5; exact (Int.ofNat_inj.1 this).symm
   have gz:z=(z':Int):=by have:=congrArg Tapi_Fact.Z g5; exact this
   subst gx; subst gy; subst gz
   have hnr:near S x y=false:=(Qcs hS g1 g2).1 ⟨z',by rw [←g5]; exact hm⟩
   rw [hnr,Option.getD_some,Int.toNat_natCast]
   simp only [Option.isSome_some,Bool.true_and,Bool.not_false,Bool.and_true]
   cases n1:near S x b with
   | false =>
    have:(S b).testBit x=false:=by unfold near at n1; rw [Bool.or_eq_false_iff] at n1; exact n1.2
    rw [this]; simp
   | true =>
    cases n2:near S b y with
    | false =>
     have:(S b).testBit y=false:=by unfold near at n2; rw [Bool.or_eq_false_iff] at n2; exact n2.1
     rw [this]; simp
    | true =>
     rw [Qjz hS (Jh.1 g3) ha hb hc g4 n1 n2]
     simp
 rw [e]
theorem Q1a (hn1:1≤n) (hn:n≤6):Qa7 (n:Int) (Xn n S)=some (skK n S,cls n S):=by
 rw [Qz9 hn Qve (by have:=Qnt (S:=S) hn1 hn hS; omega),Q2f hS]
 have:mI (nT n (Xn n S))=mI (nrN n S):=by
  funext i
  unfold mI
  rw [Z5 fun w _=>Qtf hS]
 rw [this]
omit hS in
theorem Qlb (a b:Tapi_Fact):qTapi_Fact a b=decide (a=b):=by
 obtain ⟨a1,a2,a3⟩:=a; obtain ⟨b1,b2,b3⟩:=b
 rw [Bool.eq_iff_iff]
 simp [qTapi_Fact]
omit hS in
theorem Qy9 {m:List (Tapi_Fact × Bool)} {k k':Tapi_Fact} {v:Bool}:Q5 qTapi_Fact (kput qTapi_Fact m k v) k'=if k'=k then some v else Q5 qTapi_Fact m k':=by
 induction m with
 | nil=>simp only [kput,Q5,Qlb,decide_eq_true_eq]
 | cons p r ih =>
  simp only [kput]
  by_cases h:k=p.1
  ·rw [if_pos (by rw [Qlb]; exact decide_eq_true h)]
   simp only [Q5,Qlb,decide_eq_true_eq]
   by_cases h2:k'=k
   ·rw [if_pos h2,if_pos h2]
   ·rw [if_neg h2,if_neg h2,if_neg (by rw [←h]; exact h2)]
  ·rw [if_neg (by rw [Qlb]; simpa using h)]
   simp only [Q5,Qlb,decide_eq_true_eq]
   by_cases h2:k'=p.1
   ·rw [if_pos h2,if_neg (by rw [h2]; exact fun e=>h e.symm),if_pos h2]
   ·rw [if_neg h2,ih,if_neg h2]
omit hS in
theorem Qzp {l:List Tapi_Fact} (hn:n≤6) (hl:FOk n l) (hnd:l.Nodup) (hlen:l.length < 1000000):∃m,Qb fuel (Jn l (n:Int)) (0,[])=some (.inr m)∧∀f,(Q5 qTapi_Fact m f).getD false=true↔f∈l:=by
 have h:=Yt (n:=l.length) (k0:=0) (by omega) (by omega) (fun i (x:List (Tapi_Fact × Bool))=>(i,x)) (body:=Jn l (n:Int))
  (fun k m=>∀f,(Q5 qTapi_Fact m f).getD false=true↔f∈l.take k) (fun r=>∃m,r=.inr m∧∀f,(Q5 qTapi_Fact m f).getD false=true↔f∈l)
  (fun k m _ hk hI=>by
   left
   obtain ⟨x,y,z,h1,h2,h3,h4,h5,h6⟩:=hl _ (List.getElem_mem hk)
   have hp:2^n≤64:=Nat.pow_le_pow_right (n:=2) (by omega) hn
   have z64:z < 18446744073709551616:=by omega
   have htk:l.take (k+1)=l.take k++[l[k]]:=List.take_succ_eq_append_getElem hk
   have hnew:¬ (Q5 qTapi_Fact m (fct x y z)).getD false=true:=by
    rw [hI,←h6]
    intro hm
    obtain ⟨j,hj,e⟩:=List.mem_iff_getElem.1 hm
    rw [List.getElem_take] at e
    have hjk:j < k:=by simp at hj; omega
    exact List.pairwise_iff_getElem.1 hnd j k (by omega) hk hjk e
   refine ⟨kput qTapi_Fact m (fct x y z) true,?_,fun f=>?_⟩
   ·unfold Jn
    dsimp only
    rw [if_pos (dlt hk),Q6 hk,Option.bind_some,h6]
    show (if (decide ((x:Int) < 0))=true then _ else _)=_
    rw [if_neg (by simp)]
    show (if (decide ((x:Int)≥(y:Int)))=true then _ else _)=_
    rw [if_neg (by simp; omega)]
    show (if (decide ((y:Int)≥(n:Int)))=true then _ else _)=_
    rw [if_neg (by simp; omega),if_pos (Qo n)]
    show (if ((Int.fdiv (z:Int) (2^min (Int.toNat (n:Int)) zk)) != 0)=true then _ else _)=_
    rw [Qbd (by omega),if_neg (by simpa using h3)]
    show (if 0≤(x:Int) then (if 0≤(y:Int) then _ else _) else _)=_
    rw [if_pos (Qo x),if_pos (Qo y)]
    have eor:((zv (zb (zv (zb (Int.fdiv (z:Int) (2^min (Int.toNat (x:Int)) zk)) ||| zb (Int.fdiv (z:Int) (2^min (Int.toNat (y:Int)) zk))).toNat) &&& zb 1).toNat)==1)=(z.testBit x || z.testBit y):=by
     have hb:zk=64:=rfl
     have e0:∀k:Nat,k < 64→min (Int.toNat (k:Int)) zk=k:=fun k hk=>by rw [hb,Int.toNat_natCast]; omega
     rw [e0 x (by omega),e0 y (by omega),K1,K1]
     have l1:z / 2^x < 18446744073709551616:=Nat.lt_of_le_of_lt (Nat.div_le_self _ _) z64
     have l2:z / 2^y < 18446744073709551616:=Nat.lt_of_le_of_lt (Nat.div_le_self _ _) z64
     rw [Kj l1 l2]
     have l3:z / 2^x ||| z / 2^y < 18446744073709551616:=Nat.or_lt_two_pow (n:=64) l1 l2
     have h:=Qay (k:=0) l3 (by omega)
     have e1:Int.fdiv ((z / 2^x ||| z / 2^y:Nat):Int) (2^min (Int.toNat ((0:Nat):Int)) zk)=((z / 2^x ||| z / 2^y:Nat):Int):=by
      rw [e0 0 (by omega),K1]; simp
     rw [e1] at h
     rw [h,Nat.testBit_or]
     have e2:∀k,(z / 2^k).testBit 0=z.testBit k:=fun k=>by rw [Nat.testBit_div_two_pow]; simp
     rw [e2,e2]
     cases z.testBit x <;> cases z.testBit y <;> rfl
    show (if ((zv (zb (zv (zb (Int.fdiv (z:Int) (2^min (Int.toNat (x:Int)) zk)) ||| zb (Int.fdiv (z:Int) (2^min (Int.toNat (y:Int)) zk))).toNat) &&& zb 1).toNat)==1)=true then _ else _)=_
    rw [eor,h4,h5,if_neg (by decide),if_neg hnew]
   ·rw [Qy9,htk,h6,List.mem_append,List.mem_singleton]
    by_cases e:f=fct x y z
    ·rw [if_pos e]; simp [e]
    ·rw [if_neg e,hI]; simp [e])
  (fun m hI=>by
   refine ⟨_,?_,m,rfl,fun f=>by rw [hI,List.take_length]⟩
   unfold Jn
   dsimp only
   rw [if_neg (nlt _)]) [] (fun f=>by simp [Q5])
 obtain ⟨r,h1,m,rfl,h2⟩:=h
 exact ⟨m,h1,h2⟩
omit hS in
theorem Q2k (hn1:1≤n) (hn:n≤5) (hS:Gd n S) {T:Nat → Nat} (hT:Cls n S T):Zl (Qc n T)=Zl (Qc n S):=by
 rw [Qtx hn1 hn hT.gd,Qtx hn1 hn hS,Qhw hn1 hn hT.gd,Qhw hn1 hn hS]
 have sw:∀U,Cls n T U↔Cls n S U:=fun U=>by
  constructor
  ·intro h; exact ⟨h.gd,fun u w hu hw=>(h.nr u w hu hw).trans (hT.nr u w hu hw),h.cl.trans hT.cl⟩
  ·intro h; exact ⟨h.gd,fun u w hu hw=>(h.nr u w hu hw).trans (hT.nr u w hu hw).symm,h.cl.trans hT.cl.symm⟩
 have ea:∀a b,b < n→Y9 n T a b=Y9 n S a b:=fun a b hb=>by
  rw [Bool.eq_iff_iff,Qnk hT.gd hb,Qnk hS hb]
  exact ⟨fun h U hU=>h U ((sw U).2 hU),fun h U hU=>h U ((sw U).1 hU)⟩
 congr 2
 ·exact Qg0 fun a b ha hb=>by rw [hT.nr a b ha hb,ea a b hb]
 ·exact Qg0 fun a b ha hb=>by rw [hT.nr a b ha hb,ea a b hb,ea b a ha]
theorem Qy6 (hn:n≤7) {T:Nat → Nat} (hT:Cls n S T):Xn n T=Xn n S :=
 Qr3.2 ((vp hn hT.gd hS).2 ⟨(Qjs hT.gd hS).2 hT.nr,hT.cl⟩)
theorem Qzg (hn1:1≤n) (hn:n≤5):Y7 (n:Int) (Xn n S)=(Zl (Qc n S)).bind fun x=>some (x,0):=by
 obtain ⟨hp,hpl⟩:=Qts (n:=n) (N:=near S) hn
 have hpow:=Qno hp
 have hfl:=Qnt (S:=S) hn1 (show n≤6 by omega) hS
 obtain ⟨m,hm1,hm2⟩:=Qzp (n:=n) (l:=Xn n S) (by omega) Qve Qwd (by omega)
 obtain ⟨O,o1,_,_⟩:=Qfa (n:=n) (S:=S) (by omega) hS
 unfold Y7
 rw [if_neg (by simp; omega),if_neg (by simp; omega),hm1,Option.bind_some]
 dsimp only
 rw [Q1a hS hn1 (by omega),Option.bind_some]
 show (Zi ⟨(n:Int),Qi (mI (nrN n S))⟩).bind _=_
 rw [Qtl (by omega),Option.bind_some,if_pos (Qo _)]
 have own:∀T,Cls n S T→Qb fuel (Jk (Xn n S,0) m) 0=some (Sum.inr ()):=fun T hT=>by
  have h:=Xr (n:=(Xn n S).length) (k0:=0) (by omega) (by omega) (fun i (_:Unit)=>i) (body:=Jk (Xn n S,0) m) (fun _=>()) (Sum.inr ())
   (fun k _ hk=>by
    unfold Jk
    dsimp only
    rw [if_pos (dlt hk),Q6 hk,Option.bind_some,if_neg]
    have:=(hm2 _).2 (List.getElem_mem hk)
    rw [this]; decide)
   (by unfold Jk; dsimp only; rw [if_neg (nlt _)])
  rw [show ((0:Nat):Int)=0 from rfl] at h
  exact h
 have h:=Yt (n:=2^(prs n (near S)).length) (k0:=0) (Nat.zero_le _) (by omega) (fun i (_:Unit)=>i) (body:=Jo (prs n (near S)) (skK n S,cls n S) (Xn n S) m)
  (fun k _=>∀t,t < k→okG n S t=false) (fun r=>r=Sum.inr (Sum.inr (Sum.inl ((n:Int),eL2 n O,eL2 n fun a b=>decide (a < b) && lnB (near S) O a b))))
  (fun t _ _ ht hI=>by
   have hstep:Jo (prs n (near S)) (skK n S,cls n S) (Xn n S) m (t:Int)=if okG n S t=true then some (.done (Sum.inr (Sum.inr (Sum.inl ((n:Int),eL2 n O,eL2 n fun a b=>decide (a < b) && lnB (near S) O a b))))) else some (.next (zw ((t:Int)+1))):=by
    unfold Jo
    dsimp only
    rw [Q0n (by omega),if_pos (dlt ht),if_pos (by omega)]
    have e:=Qm8 (n:=n) (t:=t) (P:=Yi n (near S)) (by omega) (by omega) (by omega) (fun p hp=>by have:=Kg.1 hp; omega) (body:=Qcb (prs n (near S)) (t:Int)) (fun s=>by
     unfold Qcb; rw [Qpz])
    rw [Int.toNat_natCast,e,Option.bind_some]
    have e2:oG n (Yi n (near S)) t (Yi n (near S)).length=mG n S t:=rfl
    rw [e2,Qmz (S:=mG n S t) (by omega) (Qn5 (by omega)),Option.bind_some]
    have e3:(pls n (mG n S t) n==2^n - 1)=gdB n (mG n S t):=rfl
    rw [e3]
    unfold okG
    by_cases hg:gdB n (mG n S t)=true
    ·have hG:=Qml.1 hg
     rw [if_pos hg,Qaa (by omega) hG,Option.bind_some,Qol (by have:=Qmo (S:=mG n S t) (show n≤7 by omega); omega),Option.bind_some,hg]
     by_cases hcl:cls n (mG n S t)=cls n S
     ·have hT:Cls n S (mG n S t):=⟨hG,fun u w hu hw=>Qvy hS hu hw,hcl⟩
      rw [if_pos (by simp [hcl]),if_pos (by simp [hcl]),Qm7 hn1 (by omega) hG,Option.bind_some,Qy6 hS (by omega) hT]
      rw [if_neg (by simp),if_neg (by simp),own _ hT,Option.bind_some]
      dsimp only
      rw [Q2k hn1 hn hS hT,o1,Option.bind_some]
     ·rw [if_neg (by simp [hcl]),if_neg (by simp [hcl])]
    ·rw [if_neg hg,Bool.eq_false_iff.2 hg,if_neg (by simp)]
   by_cases hok:okG n S t=true
   ·right
    exact ⟨_,by rw [hstep,if_pos hok],rfl⟩
   ·left
    refine ⟨(),by rw [hstep,if_neg hok],fun t' ht'=>?_⟩
    by_cases e:t'=t
    ·subst e; exact Bool.eq_false_iff.2 hok
    ·exact hI t' (by omega))
  (fun _ hI=>by
   exfalso
   obtain ⟨t,ht,e⟩:=Qzd hS hS fun _ _ _ _=>rfl
   rw [←hpl] at ht
   have:=hI t ht
   have hself:=(Qtn (n:=n) hS).2 ⟨S,rfl,hS,fun _ _ _ _=>rfl,rfl⟩
   unfold Qjc at hself
   obtain ⟨t2,h1,_⟩:=List.mem_map.1 hself
   have h2:=List.mem_filter.1 h1
   have h3:=hI t2 (by rw [hpl]; exact List.mem_range.1 h2.1)
   rw [h3] at h2
   cases h2.2) () (fun t ht=>by omega)
 obtain ⟨r,h1,rfl⟩:=h
 rw [show ((0:Nat):Int)=0 from rfl] at h1
 show (Qb fuel (Jo (prs n (near S)) (skK n S,cls n S) (Xn n S) m) 0).bind _=_
 rw [h1,Option.bind_some,o1,Option.bind_some]
end
theorem Qwv {n:Nat} {S:Nat → Nat} (hn1:1≤n) (hn:n≤5) (hS:Gd n S) (hc:Qt (Qc n S)=some 0) {x7 x25 x27:List Int} {k:Nat} (hk:k < 3) (h:∀y∈([x7,x25,x27]:List (List Int)),∃T,y=Qc n T∧L64 n T) :
  Yr x7 x25 x27 (Qc n S) (Xn n S,0) (k:Int)=some (.next (zw ((k:Int)+1))):=by
 unfold Yr
 generalize hL:([x7,x25,x27]:List (List Int))=L at *
 have hl:L.length=3:=by rw [←hL]; rfl
 have hkl:k < L.length:=by omega
 rw [if_pos (decide_eq_true (by omega)),Q6 hkl,Option.bind_some]
 obtain ⟨T,e,hT⟩:=h _ (List.getElem_mem hkl)
 rw [e]
 rcases Qz4 (show n≤7 by omega) hT with ⟨⟨_,hg⟩,_,h2,_,_⟩ | ⟨_,h2,_,_⟩
 ·have hf:Zr (Qc n T)=some (Xn n T,0):=by
   rcases Qqy (show n≤7 by omega) hT with ⟨_,_,hf⟩ | ⟨h6,_,_⟩ | ⟨hr,_⟩
   ·exact hf
   ·omega
   ·obtain ⟨d,hd,hd2⟩:=Qeo (m:=6) (show n≤7 by omega) hT
    have:d=false:=Option.some.inj (hd.symm.trans hr)
    have:=hd2.2 ⟨by omega,hg⟩
    simp_all
  rw [h2,Option.bind_some,if_neg (by decide),hf,Option.bind_some,Qxz (by omega) hS (by omega) hg hc h2,Option.bind_some]
  dsimp only
  rw [if_neg (by decide),if_neg (by decide),Qwb (by have:=Qnt (S:=S) hn1 (by omega) hS; omega),Option.bind_some]
  have:eqv n n S T=decide (Xn n S=Xn n T):=by
   rw [Bool.eq_iff_iff]
   unfold eqv
   rw [decide_eq_true_eq,decide_eq_true_eq,Qr3,vp (by omega) hS hg]
   exact ⟨fun h=>h.2,fun h=>⟨rfl,h⟩⟩
  rw [this,if_neg (by simp)]
 ·rw [h2,Option.bind_some,if_pos (by decide)]
theorem says_true (p0 p1:Qd) (p2:Int × Int) (h0:Vn p0) (h1:Vn p1) (h2:(Lit.int .u8 p2.1).wf=true∧(Lit.int .u8 p2.2).wf=true):Qbm p0 p1 p2=some true:=by
 have d0:=Qsf h0
 have d1:=Qsf h1
 obtain ⟨S,hg,hG,h5⟩:=Qqe d0 (m:=5) (by omega)
 obtain ⟨B,hb,hB,_⟩:=Qqe (d:=⟨p0.N,p1.Order,p1.Edges⟩) ⟨d0.n,d1.o0,d1.o1,d1.o2,d1.o3,d1.o4,d1.o5⟩ (m:=5) (by omega)
 have hb':Xe (Qd.mk p0.N (p1.Order.1,p1.Order.2.1,p1.Order.2.2.1,p1.Order.2.2.2.1,p1.Order.2.2.2.2.1,p1.Order.2.2.2.2.2) p1.Edges) 5=some (Qc (1+p0.N.toNat % 5) B):=hb
 have hB':Gd (1+p0.N.toNat % 5) B:=hB
 clear hb hB
 generalize hn:1+p0.N.toNat % 5=n at *
 have hn1:1≤n:=by omega
 have hS:=Qho (by omega) hG
 have hlen:(Qc n S).length=n:=Zd
 have hg':Xe (Qd.mk p0.N (p0.Order.1,p0.Order.2.1,p0.Order.2.2.1,p0.Order.2.2.2.1,p0.Order.2.2.2.2.1,p0.Order.2.2.2.2.2) p0.Edges) 5=some (Qc n S):=hg
 have hc:Qt (Qc n S)=some 0:=by
  rcases Qz4 (show n≤7 by omega) hS with ⟨_,_,h3,_⟩ | ⟨h2,_⟩
  ·exact h3
  ·obtain ⟨d,hd,hd2⟩:=Qeo (m:=6) (show n≤7 by omega) hS
   have:d=false:=Option.some.inj (hd.symm.trans h2)
   have:=hd2.2 ⟨by omega,hG⟩
   simp_all
 have hf:Zr (Qc n S)=some (Xn n S,0):=by
  rcases Qqy (show n≤7 by omega) hS with ⟨_,_,hf⟩ | ⟨h6,_,_⟩ | ⟨hr,_⟩
  ·exact hf
  ·omega
  ·obtain ⟨d,hd,hd2⟩:=Qeo (m:=6) (show n≤7 by omega) hS
   have:d=false:=Option.some.inj (hd.symm.trans hr)
   have:=hd2.2 ⟨by omega,hG⟩
   simp_all
 have turned:∀{T:Nat → Nat} {k:Int},L64 n T→0≤k∧k < 256→∃T',Vj (Qc n T) k=some (Qc n T')∧L64 n T':=fun {T k} hT hk=>by
  rcases Qw0 (show n≤7 by omega) hT hk with ⟨_,h⟩ | ⟨i,j,hi,hj,_,_,h⟩
  ·exact ⟨_,h,hT⟩
  ·exact ⟨_,h,Q4l hT hi (by omega)⟩
 obtain ⟨T1,t1,l1⟩:=turned hS (wf8 h2.1)
 obtain ⟨T2,t2,l2⟩:=turned l1 (wf8 h2.2)
 obtain ⟨O,o1,_,_⟩:=Qfa (n:=n) (S:=S) (by omega) hG
 unfold Qbm
 rw [Q0u,Option.bind_some,if_neg (by decide),hg',Option.bind_some,t1,Option.bind_some,hf,Option.bind_some,Qrf hc,if_pos rfl,o1,Option.bind_some,Option.bind_some,hlen]
 dsimp only
 rw [Qzg hG hn1 h5,o1,Option.bind_some,Option.bind_some]
 dsimp only
 rw [if_neg (by decide),if_neg (by decide),if_neg (by decide),Qur (by have:=Qvc (n:=n) (p:=O) (by omega); dsimp only; omega) (by have:=Qvc (n:=n) (p:=fun a b=>decide (a < b) && lnB (near S) O a b) (by omega); dsimp only; omega),Option.bind_some,if_neg (by simp),t2,Option.bind_some,hb',Option.bind_some]
 have hall:∀y∈([Qc n T1,Qc n T2,Qc n B]:List (List Int)),∃T,y=Qc n T∧L64 n T:=fun y hy=>by
  simp only [List.mem_cons,List.not_mem_nil,or_false] at hy
  rcases hy with rfl | rfl | rfl
  ·exact ⟨_,rfl,l1⟩
  ·exact ⟨_,rfl,l2⟩
  ·exact ⟨_,rfl,Qho (by omega) hB'⟩
 have h:=Xr (n:=3) (k0:=0) (by omega) (by omega) (fun i (_:Unit)=>i) (body:=Yr (Qc n T1) (Qc n T2) (Qc n B) (Qc n S) (Xn n S,0)) (fun _=>()) (Sum.inr ())
  (fun k _ hk=>Qwv hn1 h5 hG hc hk hall)
  (by unfold Yr; rw [if_neg (by decide)])
 rw [show ((0:Nat):Int)=0 from rfl] at h
 rw [h,Option.bind_some]
#print axioms says_true
end Go.Ab
namespace Go.Ab
open Go Go.Proofs Go.Proofs.YtojklbpplceiiaaDoor
open Go.ChangeShapes Go.WideShapes Go.ChangeAt Go.RowKit
abbrev dr_laid:List (String × DataW Unit):=[("math/bits.deBruijn32tab",Rows.laid_math_bits_deBruijn32tab),("math/bits.deBruijn64tab",Rows.laid_math_bits_deBruijn64tab)]
theorem dr_own:ownKnob Tryd.prog.godebug=none:=by kernel_rfl
theorem Q1o:Tryd.prog.globalNamed "math/bits.deBruijn32tab" = some 0:=by kernel_rfl
theorem Q1u:Tryd.prog.globalNamed "math/bits.deBruijn64tab" = some 1:=by kernel_rfl
theorem dr_met (os:Os) (args:Array Value):laidMetH Tryd.prog dr_laid ((World.doorLaid Tryd.prog 19 os).forCall (fun _ _=>0) ⟨#[],args,[]⟩).memory :=
 laidMetH_of_parts3 (fuel:=8) (laidMet_of_run' 8 (by kernel_rfl) (by kernel_rfl)) (by kernel_rfl) (by kernel_rfl)
theorem dr_glob {W:World} (h:laidMetH Tryd.prog dr_laid W):Go.Ab.GlobIn W:=by
 rw [MakeChecks.laidMetH_plain _ _ _ (by kernel_rfl)] at h
 have h0:=Lib.tabIs_of_head (k:=.u8) (zs:=Go.Ab.tab0) (t:=164) (e:=5) (n:=32) Q1o (by kernel_rfl) (by kernel_rfl) (by kernel_rfl) (by kernel_rfl) (by kernel_rfl) h
 have h1:=Lib.tabIs_of_head (k:=.u8) (zs:=Go.Ab.tab1) (t:=165) (e:=5) (n:=64) Q1u (by kernel_rfl) (by kernel_rfl) (by kernel_rfl) (by kernel_rfl) (by kernel_rfl) h.tail
 intro g xs hg i v hv
 match g,hg with
 | 0,hg =>
  cases hg
  have hi:i < Go.Ab.tab0.length:=by have:=(List.getElem?_eq_some_iff.1 hv).1; simpa using this
  have:=h0.cell Q1o i hi
  rw [this]
  rw [List.getElem?_map] at hv
  simpa [List.getD,hi] using hv
 | 1,hg =>
  cases hg
  have hi:i < Go.Ab.tab1.length:=by have:=(List.getElem?_eq_some_iff.1 hv).1; simpa using this
  have:=h1.cell Q1u i hi
  rw [this]
  rw [List.getElem?_map] at hv
  simpa [List.getD,hi] using hv
 | n+2,hg=>cases hg
end Go.Ab
