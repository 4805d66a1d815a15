/- What functions compute. No conditions. -/
import Derived.Test.YtokcpkcoahlkjaaW15
set_option linter.all false
namespace Go.Ab
open Go
theorem Qjs {n:Int} (h:0≤n∧n < 18446744073709551616):zv n=n:=by
 obtain ⟨m,rfl⟩:=Int.eq_ofNat_of_zero_le h.1
 exact Yu (by omega)
theorem Qxy {n:Int} (h:n < 0∧-18446744073709551616≤n):zv n=n+18446744073709551616:=by
 simp [IntKind.wrap,IntKind.bits,IntKind.signed]; omega
theorem Qsu (a b:Nat) (ha:a < 18446744073709551616) (hb:b < 18446744073709551616):Qav (a:Int) (b:Int)=some ((Nat.gcd a b:Nat):Int):=by
 have l1:(dgs a).length≤5:=Xj (by omega)
 have l2:(dgs b).length≤5:=Xj (by omega)
 have lim:gm a b < 1152921504606846976:=Q1v (by omega) (by omega)
 unfold Qav
 rw [Qbh (fun s=>∃x y:Nat,s.1=(x:Int)∧s.2=(y:Int)∧Nat.gcd x y=Nat.gcd a b) (fun s=>gm s.1.toNat s.2.toNat) ((Nat.gcd a b:Nat):Int) ?_ _ ⟨a,b,rfl,rfl,rfl⟩ (by simpa using lim)]
 ·rfl
 ·rintro ⟨x0,y0⟩ ⟨x,y,h1,h2,h3⟩
  simp only at h1 h2
  subst h1; subst h2
  unfold Qhx
  simp only
  by_cases hy:y=0
  ·right
   subst hy
   rw [if_neg (by simp)]
   rw [Nat.gcd_zero_right] at h3
   rw [h3]
  ·left
   rw [if_pos (by simp; omega),if_pos (by omega),Ya (by omega)]
   refine ⟨_,rfl,⟨y,x % y,rfl,by simp,?_⟩,?_⟩
   ·rw [←h3,Qu9 x y]
   ·simp only [Int.toNat_natCast]
    rw [show ((x:Int) % (y:Int)).toNat = x % y by rw [←Int.natCast_emod,Int.toNat_natCast]]
    exact Qxn (by omega)
theorem Qhk {p:Int} (h:-9223372036854775808≤p∧p≤9223372036854775807):Yz p=some (p.natAbs:Int):=by
 unfold Yz
 by_cases h0:p < 0
 ·rw [if_pos (by simpa using h0)]
  have e:zv p=p+18446744073709551616:=Qxy (by omega)
  rw [e,Qxy (by omega)]
  congr 1; omega
 ·rw [if_neg (by simpa using h0),Qjs (by omega)]
  congr 1; omega
def Rt (q:Tapi_Q):Prop:=1≤q.D∧q.D≤4611686018427387903∧-4611686018427387903≤q.N∧q.N≤4611686018427387903∧Nat.gcd q.N.natAbs q.D.natAbs=1
instance instRt (q:Tapi_Q):Decidable (Rt q):=by unfold Rt; infer_instance
def I64 (q:Tapi_Q):Prop:=(-9223372036854775808≤q.N∧q.N≤9223372036854775807)∧(-9223372036854775808≤q.D∧q.D≤9223372036854775807)
theorem Rt.i64 {q:Tapi_Q} (h:Rt q):I64 q:=by obtain ⟨h1,h2,h3,h4,_⟩:=h; unfold I64; omega
theorem Qt4 (q:Tapi_Q):K3 q=some (if Rt q then 0 else 5):=by
 unfold K3
 by_cases h1:q.D < 1
 ·rw [if_pos (by simpa using h1),if_neg (fun h=>by have:=h.1; omega)]
 rw [if_neg (by simpa using h1)]
 by_cases h2:q.D > 4611686018427387903
 ·rw [if_pos (by simpa using h2),if_neg (fun h=>by have:=h.2.1; omega)]
 rw [if_neg (by simpa using h2)]
 by_cases h3:q.N < -4611686018427387903
 ·rw [if_pos (by simpa using h3),if_neg (fun h=>by have:=h.2.2.1; omega)]
 rw [if_neg (by simpa using h3)]
 by_cases h4:q.N > 4611686018427387903
 ·rw [if_pos (by simpa using h4),if_neg (fun h=>by have:=h.2.2.2.1; omega)]
 rw [if_neg (by simpa using h4),Qhk (by omega)]
 simp only [Option.bind_some]
 have eD:zv q.D=((q.D.natAbs:Nat):Int):=by rw [Qjs (by omega)]; omega
 rw [eD,Qsu _ _ (by omega) (by omega)]
 simp only [Option.bind_some]
 by_cases h5:Nat.gcd q.N.natAbs q.D.natAbs=1
 ·rw [if_neg (by simp [h5]),if_pos ⟨by omega,by omega,by omega,by omega,h5⟩]
 ·rw [if_pos (by simpa using (fun e:((Nat.gcd q.N.natAbs q.D.natAbs:Nat):Int)=1=>h5 (by omega))),if_neg (fun h=>h5 h.2.2.2.2)]
def qI (n d:Int):Tapi_Q:=(mkQ (!((decide (n < 0))==(decide (d < 0)))) n.natAbs d.natAbs).1
theorem Q08 {n d:Int} (hd:d≠0) (hn:n.natAbs≤MX) (hd':d.natAbs≤MX):qI n d=⟨if (!((decide (n < 0))==(decide (d < 0))))=true then -((n.natAbs / Nat.gcd n.natAbs d.natAbs:Nat):Int) else ((n.natAbs / Nat.gcd n.natAbs d.natAbs:Nat):Int),((d.natAbs / Nat.gcd n.natAbs d.natAbs:Nat):Int)⟩:=by
 unfold qI mkQ
 have h1:=Nat.div_le_self n.natAbs (Nat.gcd n.natAbs d.natAbs)
 have h2:=Nat.div_le_self d.natAbs (Nat.gcd n.natAbs d.natAbs)
 rw [if_pos (by omega),if_pos (by omega)]
theorem Q4n {n d:Int} (hn:-9223372036854775808≤n∧n≤9223372036854775807) (hd:-9223372036854775808≤d∧d≤9223372036854775807) (h0:d≠0):Qao n d=some (qI n d):=by
 unfold Qao
 rw [Q42 n d hn hd h0]
 rfl
theorem Q4r {n d:Int} (hn:n.natAbs≤MX) (hd:d.natAbs≤MX) (h0:d≠0):Qay n d=some (qI n d,0):=by
 have hMX:MX=4611686018427387903:=rfl
 unfold Qay
 rw [if_neg (by simpa using h0)]
 unfold Qdl
 rw [Qhk (by omega),Qhk (by omega)]
 simp only [Option.bind_some]
 rw [Qsu _ _ (by omega) (by omega)]
 simp only [Option.bind_some]
 have hg:0 < Nat.gcd n.natAbs d.natAbs:=Nat.gcd_pos_of_pos_right _ (by omega)
 rw [if_pos (by omega),if_pos (by omega)]
 have h1:=Nat.div_le_self n.natAbs (Nat.gcd n.natAbs d.natAbs)
 have h2:=Nat.div_le_self d.natAbs (Nat.gcd n.natAbs d.natAbs)
 have e1:Int.tdiv (n.natAbs:Int) ((Nat.gcd n.natAbs d.natAbs:Nat):Int)=((n.natAbs / Nat.gcd n.natAbs d.natAbs:Nat):Int):=by rw [Jr (by omega)]; simp
 have e2:Int.tdiv (d.natAbs:Int) ((Nat.gcd n.natAbs d.natAbs:Nat):Int)=((d.natAbs / Nat.gcd n.natAbs d.natAbs:Nat):Int):=by rw [Jr (by omega)]; simp
 rw [e1,e2,Q08 h0 hn hd]
 generalize n.natAbs / Nat.gcd n.natAbs d.natAbs=x at *
 generalize d.natAbs / Nat.gcd n.natAbs d.natAbs=y at *
 rw [Qjs (by omega),Qjs (by omega)]
 unfold Qlf
 simp only
 rw [if_neg (by simp),if_neg (by simp; omega),if_neg (by simp),if_neg (by simp; omega)]
 generalize (!((decide (n < 0))==(decide (d < 0))))=b
 cases b
 ·rw [if_neg (by simp),if_neg (by simp),w64 (by omega),w64 (by omega)]; rfl
 ·rw [if_pos rfl,if_pos rfl,w64 (n:=(x:Int)) (by omega),w64 (n:=(y:Int)) (by omega),w64 (by omega)]
  simp
theorem Q5f {n d:Int} (hn:n.natAbs≤MX) (hd:d.natAbs≤MX) (h0:d≠0):Rt (qI n d)∧(qI n d).N*d=n*(qI n d).D:=by
 have hMX:MX=4611686018427387903:=rfl
 rw [Q08 h0 hn hd]
 have hg:0 < Nat.gcd n.natAbs d.natAbs:=Nat.gcd_pos_of_pos_right _ (by omega)
 have hc:Nat.gcd (n.natAbs / Nat.gcd n.natAbs d.natAbs) (d.natAbs / Nat.gcd n.natAbs d.natAbs)=1:=by rw [Nat.gcd_div (Nat.gcd_dvd_left _ _) (Nat.gcd_dvd_right _ _),Nat.div_self hg]
 have hx:n.natAbs=n.natAbs / Nat.gcd n.natAbs d.natAbs*Nat.gcd n.natAbs d.natAbs:=(Nat.div_mul_cancel (Nat.gcd_dvd_left _ _)).symm
 have hy:d.natAbs=d.natAbs / Nat.gcd n.natAbs d.natAbs*Nat.gcd n.natAbs d.natAbs:=(Nat.div_mul_cancel (Nat.gcd_dvd_right _ _)).symm
 have hxl:=Nat.div_le_self n.natAbs (Nat.gcd n.natAbs d.natAbs)
 have hyl:=Nat.div_le_self d.natAbs (Nat.gcd n.natAbs d.natAbs)
 have hyp:0 < d.natAbs / Nat.gcd n.natAbs d.natAbs:=Nat.div_pos (Nat.le_of_dvd (by omega) (Nat.gcd_dvd_right _ _)) hg
 generalize n.natAbs / Nat.gcd n.natAbs d.natAbs=x at *
 generalize d.natAbs / Nat.gcd n.natAbs d.natAbs=y at *
 generalize Nat.gcd n.natAbs d.natAbs=g at *
 have key:(x:Int)*(d.natAbs:Int)=(n.natAbs:Int)*(y:Int):=by
  rw [hx,hy]
  simp only [Int.natCast_mul]
  rw [Int.mul_assoc,Int.mul_comm (g:Int),Int.mul_comm (y:Int)]
 refine ⟨?_,?_⟩
 ·unfold Rt
  simp only
  refine ⟨by omega,by omega,?_,?_,?_⟩
  ·split <;> omega
  ·split <;> omega
  ·split
   ·rw [Int.natAbs_neg]; simpa using hc
   ·simpa using hc
 ·simp only
  by_cases h1:n < 0
  ·by_cases h2:d < 0
   ·rw [if_neg (by simp [h1,h2])]
    rw [show d=-(d.natAbs:Int) by omega,show n=-(n.natAbs:Int) by omega]
    rw [Int.mul_neg,Int.neg_mul,key]
   ·rw [if_pos (by simp [h1,h2])]
    rw [show d=(d.natAbs:Int) by omega,show n=-(n.natAbs:Int) by omega]
    rw [Int.neg_mul,Int.neg_mul,key]
  ·by_cases h2:d < 0
   ·rw [if_pos (by simp [h1,h2])]
    rw [show d=-(d.natAbs:Int) by omega,show n=(n.natAbs:Int) by omega]
    rw [Int.mul_neg,Int.neg_mul,Int.neg_neg,key]
   ·rw [if_neg (by simp [h1,h2])]
    rw [show d=(d.natAbs:Int) by omega,show n=(n.natAbs:Int) by omega]
    exact key
def Qla (a b:Int):Int:=if a < b then -1 else if a=b then 0 else 1
theorem Qvy (x y:Nat) (hx:x < 18446744073709551616) (hy:y < 18446744073709551616):Kz (x:Int) (y:Int)=some (((x*y / 18446744073709551616:Nat):Int),((x*y % 18446744073709551616:Nat):Int)):=by
 have hb:IntKind.bits .u64=64:=rfl
 have hp:(2:Int)^min (Int.toNat 32) (IntKind.bits .u64)=4294967296:=rfl
 have hf:∀z:Nat,Int.fdiv (z:Int) 4294967296=((z / 4294967296:Nat):Int):=fun z=>by rw [Int.fdiv_eq_ediv_of_nonneg _ (by omega)]; simp
 have hm:∀z:Nat,z < 18446744073709551616→zv ((zb (z:Int) &&& zb 4294967295).toNat : Int)=((z % 4294967296:Nat):Int):=fun z hz=>by
  have e1:(zb (z:Int) &&& zb 4294967295).toNat = z % 4294967296:=by
   rw [BitVec.toNat_and,Qd6 hz,show (zb 4294967295).toNat = 2^32 - 1 from Qd6 (a:=4294967295) (by omega),Nat.and_two_pow_sub_one_eq_mod]
  rw [e1,Yu (by omega)]
 unfold Kz
 simp only [hp]
 rw [hf x,hf y,hm x hx,hm y hy]
 obtain ⟨x1,ex1⟩:∃z,z=x / 4294967296:=⟨_,rfl⟩
 obtain ⟨x0,ex0⟩:∃z,z=x % 4294967296:=⟨_,rfl⟩
 obtain ⟨y1,ey1⟩:∃z,z=y / 4294967296:=⟨_,rfl⟩
 obtain ⟨y0,ey0⟩:∃z,z=y % 4294967296:=⟨_,rfl⟩
 rw [←ex1,←ex0,←ey1,←ey0]
 have hX:x=x1*4294967296+x0:=by omega
 have hY:y=y1*4294967296+y0:=by omega
 have hx1:x1≤4294967295:=by omega
 have hy1:y1≤4294967295:=by omega
 have ba:x1*y1≤4294967295*4294967295:=Nat.mul_le_mul hx1 hy1
 have bb:x1*y0≤4294967295*4294967295:=Nat.mul_le_mul hx1 (by omega)
 have bc:x0*y1≤4294967295*4294967295:=Nat.mul_le_mul (by omega) hy1
 have bd:x0*y0≤4294967295*4294967295:=Nat.mul_le_mul (by omega) (by omega)
 have hprod:(x1*4294967296+x0)*(y1*4294967296+y0)=x1*y1*18446744073709551616+(x1*y0+x0*y1)*4294967296+x0*y0:=by
  simp only [Nat.add_mul,Nat.mul_add]
  have e1:x1*4294967296*(y1*4294967296)=x1*y1*18446744073709551616:=by
   rw [Nat.mul_mul_mul_comm]
  have e2:x1*4294967296*y0=x1*y0*4294967296:=Nat.mul_right_comm _ _ _
  have e3:x0*(y1*4294967296)=x0*y1*4294967296:=(Nat.mul_assoc _ _ _).symm
  rw [e1,e2,e3]; omega
 rw [←hX,←hY] at hprod
 have e4:(x:Int)*(y:Int)=((x*y:Nat):Int):=by simp
 rw [e4,hprod]
 simp only [←Int.natCast_mul]
 generalize x1*y1=a at *
 generalize x1*y0=b at *
 generalize x0*y1=c at *
 generalize x0*y0=d at *
 rw [Yu (n:=a) (by omega),Yu (n:=b) (by omega),Yu (n:=c) (by omega),Yu (n:=d) (by omega),hf d]
 have s1:(b:Int)+((d / 4294967296:Nat):Int)=((b+d / 4294967296:Nat):Int):=by simp
 rw [s1,Yu (n:=b+d / 4294967296) (by omega),hm _ (by omega),hf]
 have s2:(((b+d / 4294967296) % 4294967296:Nat):Int)+(c:Int)=(((b+d / 4294967296) % 4294967296+c:Nat):Int):=by simp
 have s3:(a:Int)+(((b+d / 4294967296) / 4294967296:Nat):Int)=((a+(b+d / 4294967296) / 4294967296:Nat):Int):=by simp
 rw [s2,s3,Yu (n:=(b+d / 4294967296) % 4294967296+c) (by omega),hf,Yu (n:=a+(b+d / 4294967296) / 4294967296) (by omega)]
 have s4:((a+(b+d / 4294967296) / 4294967296:Nat):Int)+((((b+d / 4294967296) % 4294967296+c) / 4294967296:Nat):Int)=((a+(b+d / 4294967296) / 4294967296+((b+d / 4294967296) % 4294967296+c) / 4294967296:Nat):Int):=by simp
 rw [s4,Yu (n:=a+(b+d / 4294967296) / 4294967296+((b+d / 4294967296) % 4294967296+c) / 4294967296) (by omega)]
 have s5:zv ((a*18446744073709551616+(b+c)*4294967296+d:Nat):Int)=(((a*18446744073709551616+(b+c)*4294967296+d) % 18446744073709551616:Nat):Int):=by
  simp [IntKind.wrap,IntKind.bits,IntKind.signed]
 rw [s5]
 congr 2
 omega
theorem Q5m {p q:Tapi_Q} (hp:Rt p) (hq:Rt q):Qeh p q=some (Qla (p.N*q.D) (q.N*p.D)):=by
 obtain ⟨p1,p2,p3,p4,_⟩:=hp
 obtain ⟨q1,q2,q3,q4,_⟩:=hq
 unfold Qeh
 rw [Qhk (by omega),Qhk (by omega)]
 simp only [Option.bind_some]
 unfold Qei
 have eD:zv q.D=((q.D.natAbs:Nat):Int):=by rw [Qjs (by omega)]; omega
 have eE:zv p.D=((p.D.natAbs:Nat):Int):=by rw [Qjs (by omega)]; omega
 rw [eD,eE,Qvy _ _ (by omega) (by omega),Qvy _ _ (by omega) (by omega)]
 simp only [Option.bind_some]
 have hx:p.N*q.D=if p.N < 0 then -((p.N.natAbs*q.D.natAbs:Nat):Int) else ((p.N.natAbs*q.D.natAbs:Nat):Int):=by
  split
  ·rw [Int.natCast_mul,←Int.neg_mul]; congr 1 <;> omega
  ·rw [Int.natCast_mul]; congr 1 <;> omega
 have hy:q.N*p.D=if q.N < 0 then -((q.N.natAbs*p.D.natAbs:Nat):Int) else ((q.N.natAbs*p.D.natAbs:Nat):Int):=by
  split
  ·rw [Int.natCast_mul,←Int.neg_mul]; congr 1 <;> omega
  ·rw [Int.natCast_mul]; congr 1 <;> omega
 have hxp:p.N < 0→0 < p.N.natAbs*q.D.natAbs:=fun h=>Nat.mul_pos (by omega) (by omega)
 have hyp:q.N < 0→0 < q.N.natAbs*p.D.natAbs:=fun h=>Nat.mul_pos (by omega) (by omega)
 rw [hx,hy]
 generalize p.N.natAbs*q.D.natAbs=x at *
 generalize q.N.natAbs*p.D.natAbs=y at *
 unfold Qla
 by_cases h1:p.N < 0
 ·by_cases h2:q.N < 0
  ·rw [if_neg (by simp [h1,h2]),if_pos h1,if_pos h2]
   by_cases he:x=y
   ·subst he; rw [if_pos (by simp),if_neg (by omega),if_pos rfl]
   ·rw [if_neg (by simp; omega)]
    unfold Qfi
    simp only
    by_cases hh:x / 18446744073709551616 < y / 18446744073709551616
    ·rw [if_pos (by simp; omega)]
     simp only [Option.bind_some]
     rw [if_neg (by simp [h1]),if_neg (by omega),if_neg (by omega)]
    ·rw [if_neg (by simp; omega)]
     by_cases hh2:x / 18446744073709551616=y / 18446744073709551616
     ·rw [if_pos (by simp [hh2])]
      simp only [Option.bind_some]
      by_cases hl:x < y
      ·rw [decide_eq_true (by omega),if_neg (by simp [h1]),if_neg (by omega),if_neg (by omega)]
      ·rw [decide_eq_false (by omega),if_pos (by simp; omega),if_pos (by omega)]
     ·rw [if_neg (by simp; omega)]
      simp only [Option.bind_some]
      rw [if_pos (by simp; omega),if_pos (by omega)]
  ·rw [if_pos (by simp [h1,h2]),if_pos (by simpa using h1),if_pos h1,if_neg h2,if_pos (by have:=hxp h1; omega)]
 ·by_cases h2:q.N < 0
  ·rw [if_pos (by simp [h1,h2]),if_neg (by simpa using h1),if_neg h1,if_pos h2,if_neg (by have:=hyp h2; omega),if_neg (by have:=hyp h2; omega)]
  ·rw [if_neg (by simp [h1,h2]),if_neg h1,if_neg h2]
   by_cases he:x=y
   ·subst he; rw [if_pos (by simp),if_neg (by omega),if_pos rfl]
   ·rw [if_neg (by simp; omega)]
    unfold Qfi
    simp only
    by_cases hh:x / 18446744073709551616 < y / 18446744073709551616
    ·rw [if_pos (by simp; omega)]
     simp only [Option.bind_some]
     rw [if_pos (by simp; omega),if_pos (by omega)]
    ·rw [if_neg (by simp; omega)]
     by_cases hh2:x / 18446744073709551616=y / 18446744073709551616
     ·rw [if_pos (by simp [hh2])]
      simp only [Option.bind_some]
      by_cases hl:x < y
      ·rw [decide_eq_true (by omega),if_pos (by simp; omega),if_pos (by omega)]
      ·rw [decide_eq_false (by omega),if_neg (by simp; omega),if_neg (by omega),if_neg (by omega)]
     ·rw [if_neg (by simp; omega)]
      simp only [Option.bind_some]
      rw [if_neg (by simp; omega),if_neg (by omega),if_neg (by omega)]
theorem Qxl {p q:Tapi_Q} (hp:Rt p) (hq:Rt q):Yo p q=some (decide (p.N*q.D < q.N*p.D)):=by
 unfold Yo Qk3
 rw [Qt4,if_pos hp]
 simp only [Option.bind_some]
 rw [if_neg (by simp),Qt4,if_pos hq]
 simp only [Option.bind_some]
 rw [if_neg (by simp)]
 unfold Qam
 rw [show (Tapi_Q.mk p.N p.D)=p from rfl,show (Tapi_Q.mk q.N q.D)=q from rfl,Q5m hp hq]
 simp only [Option.bind_some]
 unfold Qla
 congr 1
 split
 ·simp_all
 ·split <;> simp_all
theorem Q0l {p q:Tapi_Q} (hp:I64 p) (hq:I64 q) (hpD:0 < p.D) (hqD:0 < q.D):Kw p q=some (Qla (p.N*q.D) (q.N*p.D)):=by
 obtain ⟨p1,p2⟩:=hp
 obtain ⟨q1,q2⟩:=hq
 unfold Kw
 rw [Qbv _ p1,Qbv _ q2]
 simp only [Option.bind_some]
 have dgb:∀{m:Int},(-9223372036854775808≤m∧m≤9223372036854775807)→(dgs m.natAbs).length≤5:=fun h=>Qy7 h
 have tm:∀(a b:Int),(-9223372036854775808≤a∧a≤9223372036854775807)→(-9223372036854775808≤b∧b≤9223372036854775807)→Ve (dgs a.natAbs) (dgs b.natAbs)=some (dgs (a.natAbs*b.natAbs)):=fun a b ha hb=>by
  have h1:=dgb ha
  have h2:=dgb hb
  have h3:=K7 (Z0 b.natAbs)
  rw [Qo3 _ _ (Z0 _) (fun z hz=>by have:=Z0 _ z hz; omega) (by omega) (by omega) (by omega),Zp,Zp]
 rw [tm _ _ p1 q2,Qbv _ q1,Qbv _ p2]
 simp only [Option.bind_some]
 rw [tm _ _ q1 p2]
 simp only [Option.bind_some]
 have len:∀(a b:Int),(-9223372036854775808≤a∧a≤9223372036854775807)→(-9223372036854775808≤b∧b≤9223372036854775807)→(dgs (a.natAbs*b.natAbs)).length≤10:=fun a b ha hb=>by
  refine Xj ?_
  have h1:a.natAbs≤9223372036854775808:=by omega
  have h2:b.natAbs≤9223372036854775808:=by omega
  have:=Nat.mul_le_mul h1 h2
  omega
 have len1:=len _ _ p1 q2
 have len2:=len _ _ q1 p2
 have hx:p.N*q.D=if p.N < 0 then -((p.N.natAbs*q.D.natAbs:Nat):Int) else ((p.N.natAbs*q.D.natAbs:Nat):Int):=by
  split
  ·rw [Int.natCast_mul,←Int.neg_mul]; congr 1 <;> omega
  ·rw [Int.natCast_mul]; congr 1 <;> omega
 have hy:q.N*p.D=if q.N < 0 then -((q.N.natAbs*p.D.natAbs:Nat):Int) else ((q.N.natAbs*p.D.natAbs:Nat):Int):=by
  split
  ·rw [Int.natCast_mul,←Int.neg_mul]; congr 1 <;> omega
  ·rw [Int.natCast_mul]; congr 1 <;> omega
 have hxp:p.N < 0→0 < p.N.natAbs*q.D.natAbs:=fun h=>Nat.mul_pos (by omega) (by omega)
 have hyp:q.N < 0→0 < q.N.natAbs*p.D.natAbs:=fun h=>Nat.mul_pos (by omega) (by omega)
 rw [hx,hy]
 generalize p.N.natAbs*q.D.natAbs=x at *
 generalize q.N.natAbs*p.D.natAbs=y at *
 unfold Qla
 by_cases h1:p.N < 0
 ·rw [if_pos (by simpa using h1),if_pos h1]
  by_cases h2:q.N < 0
  ·rw [if_pos (by simpa using h2),if_pos h2,Qgf _ _ (by omega) (by omega)]
   simp only [Option.bind_some]
   unfold Qsg
   congr 1
   by_cases a1:y < x
   ·rw [if_pos a1,if_pos (by omega)]
   ·rw [if_neg a1]
    by_cases a2:y=x
    ·rw [if_pos a2,if_neg (by omega),if_pos (by omega)]
    ·rw [if_neg a2,if_neg (by omega),if_neg (by omega)]
  ·rw [if_neg (by simpa using h2),if_neg h2,if_pos (by have:=hxp h1; omega)]
 ·rw [if_neg (by simpa using h1),if_neg h1]
  by_cases h2:q.N < 0
  ·rw [if_pos (by simpa using h2),if_pos h2,if_neg (by have:=hyp h2; omega),if_neg (by have:=hyp h2; omega)]
  ·rw [if_neg (by simpa using h2),if_neg h2,Qgf _ _ (by omega) (by omega)]
   simp only [Option.bind_some]
   unfold Qsg
   congr 1
   by_cases a1:x < y
   ·rw [if_pos a1,if_pos (by omega)]
   ·rw [if_neg a1]
    by_cases a2:x=y
    ·rw [if_pos a2,if_neg (by omega),if_pos (by omega)]
    ·rw [if_neg a2,if_neg (by omega),if_neg (by omega)]
end Go.Ab
namespace Go.Ab
open Go
abbrev LN:=Nat → Int × Int × Int × Int
def bestF (L:LN):Nat → Nat
 | 0=>0
 | k+1=>if (L k).1 > (L (bestF L k)).1 then k else bestF L k
theorem Qhi {L:LN}:∀k,0 < k→bestF L k < k
 | 0,h=>by omega
 | k+1,_=>by
  unfold bestF
  split
  ·omega
  ·by_cases h:k=0
   ·subst h; exact Nat.lt_succ_of_le (Nat.le_refl _)
   ·have:=Qhi (L:=L) k (by omega); omega
def B61 (z:Int):Prop:=-2305843009213693951≤z∧z≤2305843009213693951
def Qk7 (L:LN):Prop:=∀x,B61 (L x).1∧B61 (L x).2.1
def Y1 (L:LN) (b x:Nat):Int:=(L b).1 - (L x).1
def Zt (L:LN) (b x:Nat):Int:=(L b).2.1 - (L x).2.1
def stP (L:LN) (b aT aF:Nat):Nat → Tapi_Q × Tapi_Q
 | 0=>(⟨-(aT:Int),1⟩,⟨(aF:Int),1⟩)
 | k+1 =>
  if 0 < Zt L b k then (if (stP L b aT aF k).1.N*(qI (-(Y1 L b k)) (Zt L b k)).D < (qI (-(Y1 L b k)) (Zt L b k)).N*(stP L b aT aF k).1.D then (qI (-(Y1 L b k)) (Zt L b k),(stP L b aT aF k).2) else stP L b aT aF k)
  else if Zt L b k < 0 then (if (qI (-(Y1 L b k)) (Zt L b k)).N*(stP L b aT aF k).2.D < (stP L b aT aF k).2.N*(qI (-(Y1 L b k)) (Zt L b k)).D then ((stP L b aT aF k).1,qI (-(Y1 L b k)) (Zt L b k)) else stP L b aT aF k)
  else stP L b aT aF k
theorem Qdo {L:LN} {b aT aF k:Nat}:stP L b aT aF (k+1) =
  if 0 < Zt L b k then (if (stP L b aT aF k).1.N*(qI (-(Y1 L b k)) (Zt L b k)).D < (qI (-(Y1 L b k)) (Zt L b k)).N*(stP L b aT aF k).1.D then (qI (-(Y1 L b k)) (Zt L b k),(stP L b aT aF k).2) else stP L b aT aF k)
  else if Zt L b k < 0 then (if (qI (-(Y1 L b k)) (Zt L b k)).N*(stP L b aT aF k).2.D < (stP L b aT aF k).2.N*(qI (-(Y1 L b k)) (Zt L b k)).D then ((stP L b aT aF k).1,qI (-(Y1 L b k)) (Zt L b k)) else stP L b aT aF k)
  else stP L b aT aF k:=rfl
theorem Qzy {z:Int} (h:-1000≤z∧z≤1000):Rt ⟨z,1⟩:=⟨by simp,by simp,by simp only; omega,by simp only; omega,by simp⟩
section
variable {L:LN} {b aT aF:Nat}
theorem Qof (hL:Qk7 L) (x:Nat):(Y1 L b x).natAbs≤MX∧(Zt L b x).natAbs≤MX∧(-(Y1 L b x)).natAbs≤MX:=by
 obtain ⟨h1,h2⟩:=hL b
 obtain ⟨h3,h4⟩:=hL x
 have hMX:MX=4611686018427387903:=rfl
 unfold B61 at *
 unfold Y1 Zt
 omega
theorem Qq5 (hL:Qk7 L) {x:Nat} (h:Zt L b x≠0):Rt (qI (-(Y1 L b x)) (Zt L b x))∧(qI (-(Y1 L b x)) (Zt L b x)).N*Zt L b x=-(Y1 L b x)*(qI (-(Y1 L b x)) (Zt L b x)).D :=
 Q5f (Qof hL x).2.2 (Qof hL x).2.1 h
theorem Qvv (hL:Qk7 L) (hT:aT≤60) (hF:aF≤60):∀k,Rt (stP L b aT aF k).1∧Rt (stP L b aT aF k).2
 | 0=>⟨Qzy (by omega),Qzy (by omega)⟩
 | k+1=>by
  obtain ⟨i1,i2⟩:=Qvv hL hT hF k
  rw [Qdo]
  by_cases h1:0 < Zt L b k
  ·rw [if_pos h1]
   split
   ·exact ⟨(Qq5 hL (by omega)).1,i2⟩
   ·exact ⟨i1,i2⟩
  ·rw [if_neg h1]
   by_cases h2:Zt L b k < 0
   ·rw [if_pos h2]
    split
    ·exact ⟨i1,(Qq5 hL (by omega)).1⟩
    ·exact ⟨i1,i2⟩
   ·rw [if_neg h2]; exact ⟨i1,i2⟩
theorem Q5e {c:Nat} (hc:0 < c) (h8:c≤8):Qd fuel (Jt (Qc c L)) (0,0)=some (bestF L c:Int):=by
 refine Qz (fun k=>((bestF L k:Int),(k:Int))) c _ rfl (fun k hk=>?_) ?_ (by omega)
 ·have hb:bestF L k < c:=by
   by_cases h:k=0
   ·subst h; exact hc
   ·have:=Qhi (L:=L) k (by omega); omega
  have ek:zw ((k:Int)+1)=((k+1:Nat):Int):=by rw [w64 (by omega)]; omega
  unfold Jt
  simp only
  rw [if_pos (by rw [Ql]; simpa using hk),Qk hk]
  simp only [Option.bind_some]
  rw [Qk hb]
  simp only [Option.bind_some]
  rw [ek]
  by_cases h:(L k).1 > (L (bestF L k)).1
  ·rw [if_pos (by simpa using h)]
   simp only [bestF,if_pos h]
  ·rw [if_neg (by simpa using h)]
   simp only [bestF,if_neg h]
 ·unfold Jt
  simp only
  rw [if_neg (by rw [Ql]; simp)]
theorem Q4s (hL:Qk7 L) (hT:aT≤60) (hF:aF≤60) {c:Nat} (hb:b < c) (h8:c≤8):Qd fuel (Jy (Qc c L) (b:Int)) (0,-(aT:Int),1,(aF:Int),1) =
  some ((stP L b aT aF c).1.N,(stP L b aT aF c).1.D,(stP L b aT aF c).2.N,(stP L b aT aF c).2.D):=by
 refine Qz (fun k=>((k:Int),(stP L b aT aF k).1.N,(stP L b aT aF k).1.D,(stP L b aT aF k).2.N,(stP L b aT aF k).2.D)) c _ rfl (fun k hk=>?_) ?_ (by omega)
 ·have ek:zw ((k:Int)+1)=((k+1:Nat):Int):=by rw [w64 (by omega)]; omega
  obtain ⟨r1,r2⟩:=Qvv (b:=b) hL hT hF k
  have hfit:=Qof (b:=b) hL k
  have hMX:MX=4611686018427387903:=rfl
  have eg:zw ((L b).2.1 - (L k).2.1)=Zt L b k:=by unfold Zt at *; exact w64 (by omega)
  have eo:zw (0 - zw ((L b).1 - (L k).1))=-(Y1 L b k):=by
   have w1:zw ((L b).1 - (L k).1)=Y1 L b k:=by unfold Y1 at *; exact w64 (by omega)
   rw [w1,w64 (by omega)]; omega
  unfold Jy
  simp only
  rw [if_pos (by rw [Ql]; simpa using hk),Qk hk]
  simp only [Option.bind_some]
  rw [Qk hb]
  simp only [Option.bind_some]
  rw [eg,eo,ek]
  by_cases h0:Zt L b k=0
  ·rw [if_pos (by simp [h0])]
   rw [Qdo,if_neg (show ¬ 0 < Zt L b k by omega),if_neg (show ¬ Zt L b k < 0 by omega)]
  ·rw [if_neg (by simpa using h0),Q4r hfit.2.2 hfit.2.1 h0]
   simp only [Option.bind_some]
   obtain ⟨q1,q2⟩:=Qq5 hL (b:=b) (x:=k) h0
   rw [if_neg (by simp)]
   by_cases h1:Zt L b k < 0
   ·rw [if_pos (by simpa using h1),show (Tapi_Q.mk (stP L b aT aF k).2.N (stP L b aT aF k).2.D)=(stP L b aT aF k).2 from rfl,Qxl q1 r2]
    simp only [Option.bind_some]
    rw [Qdo,if_neg (show ¬ 0 < Zt L b k by omega),if_pos h1]
    split
    ·rename_i h; rw [if_pos (by simpa using h)]
    ·rename_i h; rw [if_neg (by simpa using h)]
   ·rw [if_neg (by simpa using h1),show (Tapi_Q.mk (stP L b aT aF k).1.N (stP L b aT aF k).1.D)=(stP L b aT aF k).1 from rfl,Qxl r1 q1]
    simp only [Option.bind_some]
    rw [Qdo,if_pos (show 0 < Zt L b k by omega)]
    split
    ·rename_i h; rw [if_pos (by simpa using h)]
    ·rename_i h; rw [if_neg (by simpa using h)]
 ·unfold Jy
  simp only
  rw [if_neg (by rw [Ql]; simp)]
end
section
variable {D:NF}
theorem Qzr (X:VX D) {E:Nat → Int} (hE:Qhm D E) {s:SF} {v:Nat} (hs:s.N < D.n) (hR:s.R < D.rows s.N) (hF:s.F < D.card s.N) (hT:s.T < D.card s.N) (hFT:s.F≠s.T) (hv:v < D.n) :
  Ze D.net (Qc D.n E) (v:Int) s.sh []=some 0:=by
 have hc:=(X.vn.card v hv).1
 have h1:=Q20 X hE hs hR hF hT hFT hv (x:=0) (by omega)
 have hlen:D.net.Nodes.length=D.n:=Ql
 unfold Ze at h1 ⊢
 cases hck:Qa0 D.net with
 | none=>rw [hck] at h1; cases h1
 | some a =>
  rw [hck] at h1
  simp only [Option.bind_some] at h1 ⊢
  by_cases ha:(a != 0)=true
  ·rw [if_pos ha] at h1 ⊢; exact h1
  ·rw [if_neg ha] at h1 ⊢
   cases hce:Zs D.net (Qc D.n E) with
   | none=>rw [hce] at h1; cases h1
   | some e =>
    rw [hce] at h1
    simp only [Option.bind_some] at h1 ⊢
    by_cases he:(e != 0)=true
    ·rw [if_pos he] at h1 ⊢; exact h1
    ·rw [if_neg he] at h1 ⊢
     rw [if_neg (by simp),if_neg (by rw [hlen]; simp; omega)] at h1 ⊢
     have e0:Qd fuel (Zi [((0:Nat):Int)] D.net (v:Int)) 0=some (Sum.inr ()):=by
      refine Qz (fun k=>(k:Int)) 1 _ rfl (fun k hk=>?_) ?_ (by omega)
      ·have:k=0:=by omega
       subst this
       unfold Zi
       rw [if_pos (by simp),show lkI [((0:Nat):Int)] ((0:Nat):Int)=some 0 from rfl]
       simp only [Option.bind_some]
       rw [if_neg (by simp),X.vn.node hv]
       simp only [Option.bind_some]
       rw [if_neg (by simp [NF.node]; omega)]
       rfl
      ·unfold Zi
       rw [if_neg (by simp)]
     have e1:Qd fuel (Zi [] D.net (v:Int)) 0=some (Sum.inr ()):=by
      refine Qz (fun k=>(k:Int)) 0 _ rfl (fun k hk=>by omega) ?_ (by omega)
      unfold Zi
      rw [if_neg (by simp)]
     rw [e0] at h1
     rw [e1]
     exact h1
theorem Q4u (X:VX D) {E:Nat → Int} (hE:Qhm D E) {s:SF} {v:Nat} (hs:s.N < D.n) (hR:s.R < D.rows s.N) (hF:s.F < D.card s.N) (hT:s.T < D.card s.N) (hFT:s.F≠s.T) (hv:v < D.n) (hL:Qk7 (Zn D s E v)) :
  Xd D.net (Qc D.n E) (v:Int) s.sh=some (if SW D E (D.fA s)=0 then (⟨0,0⟩,⟨0,0⟩,7) else
   ((stP (Zn D s E v) (bestF (Zn D s E v) (D.card v)) (D.W s.N s.R s.T) (D.W s.N s.R s.F) (D.card v)).1,(stP (Zn D s E v) (bestF (Zn D s E v) (D.card v)) (D.W s.N s.R s.T) (D.W s.N s.R s.F) (D.card v)).2,0)):=by
 have V:=X.vn
 have hc:=V.card v hv
 have hWT:=V.W s.N s.R s.T hs hR hT
 have hWF:=V.W s.N s.R s.F hs hR hF
 have hg:=V.g60
 unfold Xd
 rw [Qzr X hE hs hR hF hT hFT hv]
 simp only [Option.bind_some]
 rw [if_neg (by simp),Q3p V hs hv hE]
 simp only [Option.bind_some]
 rw [show lkI (Qc (D.card v) (Zn D s E v)) 0=some (Zn D s E v 0) from Qk (k:=0) (by omega)]
 simp only [Option.bind_some]
 have e:(Zn D s E v 0).2.2.1=SW D E (D.fA s):=rfl
 rw [e]
 by_cases h0:SW D E (D.fA s)=0
 ·rw [if_pos (by simp [h0]),if_pos h0]
 ·rw [if_neg (by simpa using h0),if_neg h0,Q5e (by omega) (by omega)]
  simp only [Option.bind_some]
  have hends:Xy D.net s.sh=some (-(D.W s.N s.R s.T:Int),(D.W s.N s.R s.F:Int)):=by
   unfold Xy
   rw [show s.sh.Node=(s.N:Int) from rfl,V.node hs]
   simp only [Option.bind_some]
   rw [show s.sh.Row=(s.R:Int) from rfl,show lkI (D.node s.N).Rows (s.R:Int)=some (Qc (D.card s.N) fun x=>(D.W s.N s.R x:Int)) from Qk hR]
   simp only [Option.bind_some]
   rw [show s.sh.To=(s.T:Int) from rfl,Qk hT]
   simp only [Option.bind_some]
   rw [show s.sh.From=(s.F:Int) from rfl,Qk hF]
   simp only [Option.bind_some]
   rw [w64 (by omega)]
   congr 2
   omega
  rw [hends]
  simp only [Option.bind_some]
  rw [Q4s hL (by omega) (by omega) (Qhi _ (by omega)) (by omega)]
  rfl
end
end Go.Ab
namespace Go.Ab
open Go
structure QX (D:NF) (E:Nat → Int) (v:Nat) (s:SF):Prop where
 X:DX D
 hE:Qhm D E
 hv:v < D.n
 hsN:s.N < D.n
 hsR:s.R < D.rows s.N
 hsF:s.F < D.card s.N
 hsT:s.T < D.card s.N
 hFT:s.F≠s.T
section
variable {D:NF} {E:Nat → Int} {v:Nat} {s:SF}
theorem QX.bd (Q:QX D E v s) (y:Nat):BD 243 (Zn D s E v y).1∧BD 243 (Zn D s E v y).2.1∧BD 243 (Zn D s E v y).2.2.1∧BD 243 (Zn D s E v y).2.2.2:=by
 have V:=Q.X.vn
 have hw:=Q.X.worlds
 exact ⟨Qtr V hw (Qn0 (Qia V Q.hsN)),Qtr V hw (Qn0 (Qif V)),Qtr V hw (Qia V Q.hsN),Qtr V hw (Qif V)⟩
theorem QX.row (Q:QX D E v s):lkI (D.node s.N).Rows s.sh.Row=some (Qc (D.card s.N) fun x=>(D.W s.N s.R x:Int)):=Qk Q.hsR
end
end Go.Ab
namespace Go.Ab
open Go
def SB:Int:=47775744000000
def SBd (z:Int):Prop:=-SB≤z∧z≤SB
theorem Q0q {D:NF} {E:Nat → Int} {f:(Nat → Nat)→Int} {K:Nat} (hf:∀w,D.ok w→-(K:Int)≤f w∧f w≤K):∀(d i:Nat) (w:Nat → Nat),i+d=D.n→D.ok w→-((PC D d i*K:Nat):Int)≤TM D E f d i w∧TM D E f d i w≤((PC D d i*K:Nat):Int)
 | 0,i,w,_,hw=>by
  have:=hf w hw
  show -((1*K:Nat):Int)≤f w∧f w≤((1*K:Nat):Int)
  rw [Nat.one_mul]; exact this
 | d+1,i,w,h,hw=>by
  have key:∀m,m≤D.card i→-((m*(PC D d (i+1)*K):Nat):Int)≤Qn m (fun y=>if E i=-1∨E i=(y:Int) then TM D E f d (i+1) (Xf w i y) else 0)∧Qn m (fun y=>if E i=-1∨E i=(y:Int) then TM D E f d (i+1) (Xf w i y) else 0)≤((m*(PC D d (i+1)*K):Nat):Int):=by
   intro m
   induction m with
   | zero=>intro _; simp [Qn]
   | succ m ih =>
    intro hm
    have i1:=ih (by omega)
    simp only [Qn]
    rw [Nat.succ_mul]
    have i2:-((PC D d (i+1)*K:Nat):Int)≤(if E i=-1∨E i=(m:Int) then TM D E f d (i+1) (Xf w i m) else 0)∧(if E i=-1∨E i=(m:Int) then TM D E f d (i+1) (Xf w i m) else 0)≤((PC D d (i+1)*K:Nat):Int):=by
     split
     ·exact Q0q hf d (i+1) _ (by omega) (Qqq hw hm)
     ·omega
    omega
  have:=key (D.card i) (Nat.le_refl _)
  unfold TM PC
  rw [Nat.mul_assoc]
  exact this
section
variable {D:NF} {E:Nat → Int} {v:Nat} {s:SF}
theorem Q3h (V:VN D) (h6:D.n≤6) {w:Nat → Nat} (hw:D.ok w):D.rest s w D.n≤46656000000:=by
 have h1:D.rest s w D.n≤60^D.n:=Vg fun v hv=>by
  split
  ·omega
  ·exact V.wt_le hw (by omega)
 have h2:(60:Nat)^D.n≤60^6:=Nat.pow_le_pow_right (by omega) h6
 exact Nat.le_trans h1 (Nat.le_trans h2 (by decide))
theorem Qzu (V:VN D) (h6:D.n≤6) (hs:s.N < D.n) {w:Nat → Nat} (hw:D.ok w):-((46656000000:Nat):Int)≤D.fA s w∧D.fA s w≤((46656000000:Nat):Int):=by
 rw [V.fA_eq hs]
 have h1:prodTo D.n (D.wt w)≤60^D.n:=Vg fun v hv=>V.wt_le hw hv
 have h2:(60:Nat)^D.n≤60^6:=Nat.pow_le_pow_right (by omega) h6
 omega
theorem Q0z (V:VN D) (h6:D.n≤6) {w:Nat → Nat} (hw:D.ok w):-((46656000000:Nat):Int)≤D.fB s w∧D.fB s w≤((46656000000:Nat):Int):=by
 have hb:=Q3h (s:=s) V h6 hw
 have hc:D.change s w=-1∨D.change s w=0∨D.change s w=1:=by
  unfold NF.change
  split
  ·split
   ·exact .inl rfl
   ·split
    ·exact .inr (.inr rfl)
    ·exact .inr (.inl rfl)
  ·exact .inr (.inl rfl)
 unfold NF.fB
 rcases hc with h | h | h <;> rw [h] <;> omega
theorem Q0o {f:(Nat → Nat)→Int} {K:Nat} (hf:∀w,D.ok w→-(K:Int)≤f w∧f w≤K) {x:Nat}:∀w,D.ok w→-(K:Int)≤at' v x f w∧at' v x f w≤K:=fun w hw=>by
 unfold at'
 split
 ·exact hf w hw
 ·omega
theorem Qtx (V:VN D) {f:(Nat → Nat)→Int} (hf:∀w,D.ok w→-((46656000000:Nat):Int)≤f w∧f w≤((46656000000:Nat):Int)):SBd (SW D E f):=by
 have h:=Q0q (E:=E) hf D.n 0 (fun _=>0) (by omega) (ok0 V)
 have hp:=Q1f V
 have h2:PC D D.n 0*46656000000≤1024*46656000000:=Nat.mul_le_mul_right _ hp
 unfold SBd SB SW
 omega
def SmL (L:Int × Int × Int × Int):Prop:=SBd L.1∧SBd L.2.1∧SBd L.2.2.1∧SBd L.2.2.2
theorem Qxr (V:VN D) (h6:D.n≤6) (hs:s.N < D.n) (y:Nat):SmL (Zn D s E v y) :=
 ⟨Qtx V (Q0o fun w hw=>Qzu V h6 hs hw),Qtx V (Q0o fun w hw=>Q0z V h6 hw),Qtx V fun w hw=>Qzu V h6 hs hw,Qtx V fun w hw=>Q0z V h6 hw⟩
def Sml (t:Tapi_Q):Prop:=-1000≤t.N∧t.N≤1000∧t.D≤1000
instance instSml (t:Tapi_Q):Decidable (Sml t):=by unfold Sml; infer_instance
def Q6a (aT aF:Nat) (t:Tapi_Q):Prop:=-(aT:Int)*t.D≤t.N∧t.N≤(aF:Int)*t.D
instance instInRg (aT aF:Nat) (t:Tapi_Q):Decidable (Q6a aT aF t):=by unfold Q6a; infer_instance
theorem Q4x (V:VN D) (hs:s.N < D.n) (hR:s.R < D.rows s.N) (hF:s.F < D.card s.N) (hT:s.T < D.card s.N):Xy D.net s.sh=some (-(D.W s.N s.R s.T:Int),(D.W s.N s.R s.F:Int)):=by
 have hWT:=V.W s.N s.R s.T hs hR hT
 have hg:=V.g60
 unfold Xy
 rw [show s.sh.Node=(s.N:Int) from rfl,V.node hs]
 simp only [Option.bind_some]
 rw [show s.sh.Row=(s.R:Int) from rfl,show lkI (D.node s.N).Rows (s.R:Int)=some (Qc (D.card s.N) fun x=>(D.W s.N s.R x:Int)) from Qk hR]
 simp only [Option.bind_some]
 rw [show s.sh.To=(s.T:Int) from rfl,Qk hT]
 simp only [Option.bind_some]
 rw [show s.sh.From=(s.F:Int) from rfl,Qk hF]
 simp only [Option.bind_some]
 rw [w64 (by omega)]
 congr 2
 omega
def Q6e (L:Int × Int × Int × Int) (aT aF:Nat) (t:Tapi_Q):Prop:=¬ (L.2.2.1=0∧L.2.2.2=0)∧(t.D=1∧(t.N=-(aT:Int)∨t.N=(aF:Int))→0 < L.2.2.1+L.2.2.2*t.N)
instance instposF (L:Int × Int × Int × Int) (aT aF:Nat) (t:Tapi_Q):Decidable (Q6e L aT aF t):=by unfold Q6e; infer_instance
end
end Go.Ab
namespace Go.Ab
open Go
set_option maxRecDepth 100000
set_option maxHeartbeats 400000
theorem Qno {α:Type} (l:List α) (d:α):l=Qc l.length fun k=>l.getD k d:=by
 apply List.ext_getElem?
 intro i
 unfold Qc
 rw [List.getElem?_map]
 by_cases c:i < l.length
 ·rw [List.getElem?_range c,List.getElem?_eq_getElem c]; simp [List.getD,c]
 ·rw [List.getElem?_eq_none (by omega),List.getElem?_eq_none (by simp; omega)]; rfl
theorem Qxm {n:Nat} {f:Nat → Int}:(Qc n f).sum=Qn n f:=by
 induction n with
 | zero=>rfl
 | succ n ih=>rw [←Qb8,List.sum_append,ih]; simp [Qn]
theorem Qxk {k:Nat} {f:Nat → Int}:∀{n:Nat},(∀j,j < n→0≤f j)→k < n→f k≤Qn n f
 | n+1,h,hk=>by
  have h0:=Vp (n:=n) (f:=f) fun j hj=>h j (by omega)
  have hn:=h n (by omega)
  simp only [Qn]
  by_cases e:k=n
  ·subst e; omega
  ·have:=Qxk (n:=n) (k:=k) (f:=f) (fun j hj=>h j (by omega)) (by omega); omega
theorem Qxb {D:NF} (X:VX D):Qlo D.n D.g D.node:=by
 have V:=X.vn
 have hc:∀v,v < D.n→K8 (D.node v):=fun v hv=>by
  have:=V.card v hv
  exact ⟨by show (1:Int)≤(D.card v:Int); omega,by show (D.card v:Int)≤4; omega⟩
 have ec:cardN D.node=D.card:=funext fun v=>by unfold cardN NF.node; simp
 have ep:parN D.node=D.par:=funext fun v=>by
  unfold parN NF.node
  rw [List.map_map]
  conv=>rhs; rw [←List.map_id (D.par v)]
  exact List.map_congr_left fun x _=>by simp
 refine ⟨by have:=V.g1; omega,by have:=V.g60; omega,V.n1,V.n8,hc,by rw [ec]; exact V.worlds,fun v hv=>⟨⟨⟨D.par v,rfl,X.sorted v hv,V.par v hv⟩,fun hm=>?_⟩,?_,fun r hr=>?_⟩,by rw [ep]; obtain ⟨rk,h⟩:=X.rank; exact ⟨rk,h⟩⟩
 ·have hm:(v:Int)∈nI (D.par v):=hm
  unfold nI at hm
  obtain ⟨p,hp,e⟩:=List.mem_map.1 hm
  have:p=v:=by omega
  subst this
  exact X.self p hv hp
 ·rw [ec,ep]; show (Qc (D.rows v) _).length=_; rw [Ql]; rfl
 ·have hr:r∈Qc (D.rows v) fun r=>Qc (D.card v) fun x=>(D.W v r x:Int):=hr
  unfold Qc at hr
  obtain ⟨i,hi,rfl⟩:=List.mem_map.1 hr
  have hi:=List.mem_range.1 hi
  have e:=X.sum v i hv hi
  have h1:((List.range (D.card v)).map fun x=>(D.W v i x:Int))=Qc (D.card v) fun x=>(D.W v i x:Int):=rfl
  rw [h1]
  refine ⟨by rw [Ql]; rfl,fun w hw=>?_,by rw [Qxm]; exact e⟩
  unfold Qc at hw
  obtain ⟨x,_,rfl⟩:=List.mem_map.1 hw
  omega
theorem Q5b {n:Nat} {g:Int} {F:Nat → Tapi_Node} (hf:Qlo n g F):∃D:NF,D.n=n∧VX D∧D.net=⟨g,Qc n F⟩:=by
 let D:NF:=⟨n,g.toNat,cardN F,parN F,fun v r x=>(((F v).Rows.getD r []).getD x 0).toNat⟩
 have hg:=hf.g1
 have hg60:=hf.g60
 have hrow:∀v r,v < n→r < D.rows v→∃hr:r < (F v).Rows.length,Qgk g (F v).Card (F v).Rows[r]∧(F v).Rows.getD r []=(F v).Rows[r]:=fun v r hv hr=>by
  obtain ⟨_,h1,h2⟩:=hf.node v hv
  have h1:(F v).Rows.length=D.rows v:=h1
  have hr':r < (F v).Rows.length:=by omega
  exact ⟨hr',h2 _ (List.getElem_mem hr'),by simp [List.getD,hr']⟩
 have hcell:∀v r x,v < n→r < D.rows v→x < D.card v→∃hr:r < (F v).Rows.length,∃hx:x < (F v).Rows[r].length,(D.W v r x:Int)=(F v).Rows[r][x]:=fun v r x hv hr hx=>by
  obtain ⟨hr',⟨e1,e2,_⟩,e3⟩:=hrow v r hv hr
  have hc:=Qe7 (hf.card v hv)
  have hx:x < cardN F v:=hx
  have hx':x < (F v).Rows[r].length:=by omega
  refine ⟨hr',hx',?_⟩
  show ((((F v).Rows.getD r []).getD x 0).toNat : Int)=_
  rw [e3]
  have e4:(F v).Rows[r].getD x 0=(F v).Rows[r][x]:=by simp [List.getD,hx']
  rw [e4]
  have:=e2 _ (List.getElem_mem hx')
  omega
 have hrw:∀v r,v < n→(hr:r < D.rows v)→∃hr':r < (F v).Rows.length,(F v).Rows[r]=Qc (D.card v) fun x=>(D.W v r x:Int):=fun v r hv hr=>by
  obtain ⟨hr',⟨e1,_,_⟩,_⟩:=hrow v r hv hr
  refine ⟨hr',?_⟩
  have hc:=Qe7 (hf.card v hv)
  have el:(F v).Rows[r].length=D.card v:=by show _=cardN F v; omega
  rw [Qno (F v).Rows[r] 0,el]
  refine Qv fun x hx=>?_
  obtain ⟨_,hx',e⟩:=hcell v r x hv hr hx
  rw [e]; simp [List.getD,hx']
 have hnode:∀v,v < n→D.node v=F v:=fun v hv=>by
  obtain ⟨p1,p2,p3⟩:=V7 (hf.node v hv).1.1
  have hc:=Qe7 (hf.card v hv)
  obtain ⟨_,h1,_⟩:=hf.node v hv
  have h1:(F v).Rows.length=D.rows v:=h1
  have e1:((D.card v:Nat):Int)=(F v).Card:=hc
  have e2:(D.par v).map (fun (p:Nat)=>(p:Int))=(F v).Parents:=p1.symm
  have e3:(Qc (D.rows v) fun r=>Qc (D.card v) fun x=>(D.W v r x:Int))=(F v).Rows:=by
   conv=>rhs; rw [Qno (F v).Rows []]
   rw [h1]
   refine Qv fun r hr=>?_
   obtain ⟨hr',e⟩:=hrw v r hv hr
   rw [←e]; simp [List.getD,hr']
  show (⟨((D.card v:Nat):Int),(D.par v).map (fun (p:Nat)=>(p:Int)),Qc (D.rows v) fun r=>Qc (D.card v) fun x=>(D.W v r x:Int)⟩:Tapi_Node)=⟨(F v).Card,(F v).Parents,(F v).Rows⟩
  rw [e1,e2,e3]
 have hsum:∀v r,v < n→r < D.rows v→Qn (D.card v) (fun x=>(D.W v r x:Int))=(D.g:Int):=fun v r hv hr=>by
  obtain ⟨hr',e⟩:=hrw v r hv hr
  obtain ⟨_,⟨_,_,e3⟩,_⟩:=hrow v r hv hr
  rw [e,Qxm] at e3
  rw [e3]; show g=(g.toNat : Int); omega
 have hD:(D.g:Int)=g:=by show (g.toNat : Int)=g; omega
 refine ⟨D,rfl,⟨⟨hf.n1,hf.n8,by omega,by omega,fun v hv=>?_,fun v hv=>(V7 (hf.node v hv).1.1).2.2,fun v hv=>?_,fun v r x hv hr hx=>?_,hf.worlds⟩,fun v hv=>(V7 (hf.node v hv).1.1).2.1,fun v hv hm=>?_,hf.rank,hsum⟩,?_⟩
 ·exact Qaf (hf.card v hv)
 ·obtain ⟨_,p2,p3⟩:=V7 (hf.node v hv).1.1
  have:=Qd0 p2 p3
  have:=hf.n8
  show (parN F v).length≤8; omega
 ·have h1:=hsum v r hv hr
  have h2:=Qxk (k:=x) (f:=fun x=>(D.W v r x:Int)) (n:=D.card v) (fun k _=>by omega) hx
  omega
 ·have hm:v∈parN F v:=hm
  obtain ⟨p1,_,_⟩:=V7 (hf.node v hv).1.1
  exact (hf.node v hv).1.2 (by rw [p1]; unfold nI; exact List.mem_map.2 ⟨v,hm,rfl⟩)
 ·show (⟨(D.g:Int),Qc n D.node⟩:Qb)=_
  rw [hD,Qv hnode]
section
variable {D:NF}
def evJ (D:NF) (e:List Int) (j:Nat):Prop:=-1≤(e[j]?).getD 0∧(e[j]?).getD 0 < D.card j
def evL (D:NF) (e:List Int):Prop:=e.length=D.n∧∀j,j < D.n→evJ D e j
theorem Q5y {e:List Int} (h:evL D e):∃E,e=Qc D.n E∧Qhm D E:=by
 refine ⟨fun k=>e.getD k 0,?_,fun j hj=>?_⟩
 ·have:=Qno e 0
  rw [h.1] at this; exact this
 ·have:=h.2 j hj
  unfold evJ at this
  show -1≤e.getD j 0∧e.getD j 0 < D.card j
  rw [List.getD_eq_getElem?_getD]; exact this
theorem Qto {e:List Int} {j:Nat} (hj:j < e.length):lkI e (j:Int)=some ((e[j]?).getD 0):=by rw [Qs hj,List.getElem?_eq_getElem hj]; rfl
theorem Q4p (X:VX D) (e:List Int):(evL D e∧Zs D.net e=some 0)∨(¬ evL D e∧Zs D.net e=some 2):=by
 have V:=X.vn
 have hn:=V.n8
 have hlen:D.net.Nodes.length=D.n:=Ql
 obtain ⟨order,hr⟩:=Qrk X
 unfold Zs
 rw [hr,Option.bind_some,if_neg (by simp)]
 dsimp only
 rw [hlen]
 by_cases c:e.length=D.n
 ·rw [if_neg (by simp; omega)]
  have h:=Yr (n:=D.n) (by omega) (evJ D e) (fun i (_:Unit)=>i) (body:=Zh e (⟨D.net,Qo D.n D.card,Qo D.n (setN D),order⟩,0)) (fun _=>()) (.inr ()) (.inl ())
   (fun j hj hI hg=>by
    obtain ⟨g1,g2⟩:=hg
    unfold Zh
    dsimp only
    rw [c,if_pos (dlt hj),Qto (by omega),Option.bind_some,if_neg (by simp; exact g1),Zq hj,Option.bind_some,if_neg (by simp; exact g2)])
   (fun j hj hI hg=>by
    unfold Zh
    dsimp only
    rw [c,if_pos (dlt hj),Qto (by omega),Option.bind_some]
    by_cases c1:(e[j]?).getD 0 < -1
    ·rw [if_pos (by simpa using c1)]
    ·rw [if_neg (by simpa using c1),Zq hj,Option.bind_some,if_pos (by
      rw [decide_eq_true_eq]
      exact Int.not_lt.1 fun hh=>hg ⟨by omega,hh⟩)])
   (fun hI=>by unfold Zh; dsimp only; rw [c,if_neg (nlt _)])
  rcases h with ⟨h,e1⟩ | ⟨h,e1⟩
  ·left; refine ⟨⟨c,h⟩,?_⟩
   have e1:Qd fuel (Zh e (⟨D.net,Qo D.n D.card,Qo D.n (setN D),order⟩,0)) 0=some (.inr ()):=e1
   rw [e1]; rfl
  ·right; refine ⟨fun hh=>h hh.2,?_⟩
   have e1:Qd fuel (Zh e (⟨D.net,Qo D.n D.card,Qo D.n (setN D),order⟩,0)) 0=some (.inl ()):=e1
   rw [e1]; rfl
 ·rw [if_pos (by simp; omega)]
  exact .inr ⟨fun hh=>c hh.1,rfl⟩
theorem Q6q (V:VN D) (e:List Int):(evL D e∧Jq D.net e=some true)∨(¬ evL D e∧Jq D.net e=some false):=by
 have hn:=V.n8
 have hlen:D.net.Nodes.length=D.n:=Ql
 unfold Jq
 rw [hlen]
 by_cases c:e.length=D.n
 ·rw [if_neg (by simp; omega)]
  have h:=Yr (n:=D.n) (by omega) (evJ D e) (fun i (_:Unit)=>i) (body:=Xl e D.net) (fun _=>()) (.inr ()) (.inl ())
   (fun j hj hI hg=>by
    obtain ⟨g1,g2⟩:=hg
    unfold Xl
    rw [c,if_pos (dlt hj),Qto (by omega),Option.bind_some,if_neg (by simp; exact g1),V.node hj,Option.bind_some,if_neg (by
     rw [decide_eq_true_eq]; show ¬ (_≥(D.card j:Int)); omega)])
   (fun j hj hI hg=>by
    unfold Xl
    rw [c,if_pos (dlt hj),Qto (by omega),Option.bind_some]
    by_cases c1:(e[j]?).getD 0 < -1
    ·rw [if_pos (by simpa using c1)]
    ·rw [if_neg (by simpa using c1),V.node hj,Option.bind_some,if_pos (by
      rw [decide_eq_true_eq]
      show _≥(D.card j:Int)
      exact Int.not_lt.1 fun hh=>hg ⟨by omega,hh⟩)])
   (fun hI=>by unfold Xl; rw [c,if_neg (nlt _)])
  rcases h with ⟨h,e1⟩ | ⟨h,e1⟩
  ·left; refine ⟨⟨c,h⟩,?_⟩
   have e1:Qd fuel (Xl e D.net) 0=some (.inr ()):=e1
   rw [e1]; rfl
  ·right; refine ⟨fun hh=>h hh.2,?_⟩
   have e1:Qd fuel (Xl e D.net) 0=some (.inl ()):=e1
   rw [e1]; rfl
 ·rw [if_pos (by simp; omega)]
  exact .inr ⟨fun hh=>c hh.1,rfl⟩
structure Qvo (D:NF) (s:SF):Prop where
 N:s.N < D.n
 R:s.R < D.rows s.N
 F:s.F < D.card s.N
 T:s.T < D.card s.N
 FT:s.F≠s.T
def shL (D:NF) (s:Tapi_Shift):Prop:=∃s':SF,s=s'.sh∧Qvo D s'
def chkS (p0:Qb) (p3:Tapi_Shift):Option Int :=
 if (decide (p3.Node < 0))=true then some 2 else
 if (decide (p3.Node≥(p0.Nodes.length:Int)))=true then some 2 else
 (lkI p0.Nodes p3.Node).bind fun a31 =>
 if (decide (p3.Row < 0))=true then some 2 else
 if (decide (p3.Row≥(a31.Rows.length:Int)))=true then some 2 else
 if (decide (p3.From < 0))=true then some 2 else
 if (decide (p3.From≥a31.Card))=true then some 2 else
 if (decide (p3.To < 0))=true then some 2 else
 if (decide (p3.To≥a31.Card))=true then some 2 else
 if (p3.From==p3.To)=true then some 2 else some 0
theorem Qxi (V:VN D) (s:Tapi_Shift):(shL D s∧chkS D.net s=some 0∧Zk D.net s=some true)∨(¬ shL D s∧chkS D.net s=some 2∧Zk D.net s=some false):=by
 have hlen:D.net.Nodes.length=D.n:=Ql
 by_cases c1:s.Node < 0
 ·exact .inr ⟨fun ⟨s',e,h⟩=>by rw [e] at c1; have:(s'.N:Int) < 0:=c1; omega,by unfold chkS; rw [hlen,if_pos (by simpa using c1)],by unfold Zk; rw [hlen,if_pos (by simpa using c1)]⟩
 by_cases c2:s.Node≥(D.n:Int)
 ·exact .inr ⟨fun ⟨s',e,h⟩=>by rw [e] at c2; have:(s'.N:Int)≥D.n:=c2; have:=h.N; omega,by unfold chkS; rw [hlen,if_neg (by simpa using c1),if_pos (by simpa using c2)],by unfold Zk; rw [hlen,if_neg (by simpa using c1),if_pos (by simpa using c2)]⟩
 obtain ⟨N,hN⟩:∃N:Nat,s.Node=(N:Int):=⟨s.Node.toNat,by omega⟩
 have hNl:N < D.n:=by omega
 have en:lkI D.net.Nodes s.Node=some (D.node N):=by rw [hN]; exact V.node hNl
 have er:((D.node N).Rows.length:Int)=D.rows N:=by show ((Qc (D.rows N) _).length:Int)=_; rw [Ql]
 have ec:(D.node N).Card=(D.card N:Int):=rfl
 have bad:∀s':SF,s=s'.sh→s'.N=N:=fun s' e=>by
  have:s.Node=(s'.N:Int):=by rw [e]; rfl
  omega
 by_cases c3:s.Row < 0
 ·exact .inr ⟨fun ⟨s',e,h⟩=>by rw [e] at c3; have:(s'.R:Int) < 0:=c3; omega,by unfold chkS; rw [hlen,if_neg (by simpa using c1),if_neg (by simpa using c2),en,Option.bind_some,er,ec,if_pos (by simpa using c3)],by unfold Zk; rw [hlen,if_neg (by simpa using c1),if_neg (by simpa using c2),if_pos (by simpa using c3)]⟩
 by_cases c4:s.Row≥(D.rows N:Int)
 ·exact .inr ⟨fun ⟨s',e,h⟩=>by
   have hb:=bad s' e
   have h2:=h.R
   rw [hb] at h2
   rw [e] at c4
   have:(s'.R:Int)≥D.rows N:=c4; omega,by unfold chkS; rw [hlen,if_neg (by simpa using c1),if_neg (by simpa using c2),en,Option.bind_some,er,ec,if_neg (by simpa using c3),if_pos (by simpa using c4)],by unfold Zk; rw [hlen,if_neg (by simpa using c1),if_neg (by simpa using c2),if_neg (by simpa using c3),en,Option.bind_some,er,ec,if_pos (by simpa using c4)]⟩
 by_cases c5:s.From < 0
 ·exact .inr ⟨fun ⟨s',e,h⟩=>by rw [e] at c5; have:(s'.F:Int) < 0:=c5; omega,by unfold chkS; rw [hlen,if_neg (by simpa using c1),if_neg (by simpa using c2),en,Option.bind_some,er,ec,if_neg (by simpa using c3),if_neg (by simpa using c4),if_pos (by simpa using c5)],by unfold Zk; rw [hlen,if_neg (by simpa using c1),if_neg (by simpa using c2),if_neg (by simpa using c3),en,Option.bind_some,er,ec,if_neg (by simpa using c4),if_neg (by simp; omega)]⟩
 by_cases c6:s.From≥(D.card N:Int)
 ·exact .inr ⟨fun ⟨s',e,h⟩=>by
   have hb:=bad s' e
   have h2:=h.F
   rw [hb] at h2
   rw [e] at c6
   have:(s'.F:Int)≥D.card N:=c6; omega,by unfold chkS; rw [hlen,if_neg (by simpa using c1),if_neg (by simpa using c2),en,Option.bind_some,er,ec,if_neg (by simpa using c3),if_neg (by simpa using c4),if_neg (by simpa using c5),if_pos (by simpa using c6)],by unfold Zk; rw [hlen,if_neg (by simpa using c1),if_neg (by simpa using c2),if_neg (by simpa using c3),en,Option.bind_some,er,ec,if_neg (by simpa using c4),if_pos (by simp; omega),if_neg (by simp; omega)]⟩
 by_cases c7:s.To < 0
 ·exact .inr ⟨fun ⟨s',e,h⟩=>by rw [e] at c7; have:(s'.T:Int) < 0:=c7; omega,by unfold chkS; rw [hlen,if_neg (by simpa using c1),if_neg (by simpa using c2),en,Option.bind_some,er,ec,if_neg (by simpa using c3),if_neg (by simpa using c4),if_neg (by simpa using c5),if_neg (by simpa using c6),if_pos (by simpa using c7)],by unfold Zk; rw [hlen,if_neg (by simpa using c1),if_neg (by simpa using c2),if_neg (by simpa using c3),en,Option.bind_some,er,ec,if_neg (by simpa using c4),if_pos (by simp; omega),if_pos (by simp; omega),if_neg (by simp; omega)]⟩
 by_cases c8:s.To≥(D.card N:Int)
 ·exact .inr ⟨fun ⟨s',e,h⟩=>by
   have hb:=bad s' e
   have h2:=h.T
   rw [hb] at h2
   rw [e] at c8
   have:(s'.T:Int)≥D.card N:=c8; omega,by unfold chkS; rw [hlen,if_neg (by simpa using c1),if_neg (by simpa using c2),en,Option.bind_some,er,ec,if_neg (by simpa using c3),if_neg (by simpa using c4),if_neg (by simpa using c5),if_neg (by simpa using c6),if_neg (by simpa using c7),if_pos (by simpa using c8)],by unfold Zk; rw [hlen,if_neg (by simpa using c1),if_neg (by simpa using c2),if_neg (by simpa using c3),en,Option.bind_some,er,ec,if_neg (by simpa using c4),if_pos (by simp; omega),if_pos (by simp; omega),if_pos (by simp; omega),if_neg (by simp; omega)]⟩
 by_cases c9:s.From=s.To
 ·exact .inr ⟨fun ⟨s',e,h⟩=>by
   rw [e] at c9
   have:(s'.F:Int)=s'.T:=c9
   exact h.FT (by omega),by unfold chkS; rw [hlen,if_neg (by simpa using c1),if_neg (by simpa using c2),en,Option.bind_some,er,ec,if_neg (by simpa using c3),if_neg (by simpa using c4),if_neg (by simpa using c5),if_neg (by simpa using c6),if_neg (by simpa using c7),if_neg (by simpa using c8),if_pos (by simpa using c9)],by unfold Zk; rw [hlen,if_neg (by simpa using c1),if_neg (by simpa using c2),if_neg (by simpa using c3),en,Option.bind_some,er,ec,if_neg (by simpa using c4),if_pos (by simp; omega),if_pos (by simp; omega),if_pos (by simp; omega),if_pos (by simp; omega)]; simp [c9]⟩
 ·refine .inl ⟨⟨⟨N,s.Row.toNat,s.From.toNat,s.To.toNat⟩,?_,hNl,by show s.Row.toNat < D.rows N; omega,by show s.From.toNat < D.card N; omega,by show s.To.toNat < D.card N; omega,by show s.From.toNat ≠ s.To.toNat; omega⟩,by unfold chkS; rw [hlen,if_neg (by simpa using c1),if_neg (by simpa using c2),en,Option.bind_some,er,ec,if_neg (by simpa using c3),if_neg (by simpa using c4),if_neg (by simpa using c5),if_neg (by simpa using c6),if_neg (by simpa using c7),if_neg (by simpa using c8),if_neg (by simpa using c9)],by unfold Zk; rw [hlen,if_neg (by simpa using c1),if_neg (by simpa using c2),if_neg (by simpa using c3),en,Option.bind_some,er,ec,if_neg (by simpa using c4),if_pos (by simp; omega),if_pos (by simp; omega),if_pos (by simp; omega),if_pos (by simp; omega)]; simp [c9]⟩
  show s=⟨(N:Int),(s.Row.toNat : Int),(s.From.toNat : Int),(s.To.toNat : Int)⟩
  rw [←hN,Int.toNat_of_nonneg (by omega),Int.toNat_of_nonneg (by omega),Int.toNat_of_nonneg (by omega)]
theorem Qyn (X:VX D) {e:List Int} {v:Int} {s:Tapi_Shift} {l:List Int}:Ze D.net e v s l=(Zs D.net e).bind fun x5=>if (x5 != 0)=true then some x5 else if (decide (v < 0))=true then some 2 else if (decide (v≥(D.n:Int)))=true then some 2 else
  (Qd fuel (Zi l D.net v) 0).bind fun x24=>match x24 with | .inl _=>some 2 | .inr _=>chkS D.net s:=by
 have hlen:D.net.Nodes.length=D.n:=Ql
 obtain ⟨order,hr⟩:=Qrk X
 unfold Ze Qa0 chkS
 rw [hr,hlen]
 rfl
theorem Q7n {v:Int}:Qd fuel (Zi [] D.net v) 0=some (.inr ()):=rfl
structure Qyx (D:NF) (E:Nat → Int) (v x:Nat) (s:SF):Prop where
 hE:Qhm D E
 hv:v < D.n
 hx:x < D.card v
 hs:Qvo D s
def Quf (D:NF) (e:List Int) (v x:Int) (s:Tapi_Shift):Prop:=evL D e∧(0≤v∧v < D.n)∧(0≤x∧x < D.card v.toNat)∧shL D s
theorem Q5g {e:List Int} {v x:Int} {s:Tapi_Shift} (h:Quf D e v x s):∃E v' x' s',e=Qc D.n E∧v=(v':Nat)∧x=(x':Nat)∧s=SF.sh s'∧Qyx D E v' x' s':=by
 obtain ⟨h1,h2,h3,s',e3,hs⟩:=h
 obtain ⟨E,hE,hE2⟩:=Q5y h1
 exact ⟨E,v.toNat,x.toNat,s',hE,by omega,by omega,e3,hE2,by omega,by omega,hs⟩
theorem Qzw (X:VX D) (e:List Int) (v:Int) (s:Tapi_Shift):(Quf D e v 0 s∧Ze D.net e v s []=some 0)∨(¬ Quf D e v 0 s∧Ze D.net e v s []=some 2):=by
 have V:=X.vn
 rw [Qyn X]
 rcases Q4p X e with ⟨he,e1⟩ | ⟨he,e1⟩
 ·rw [e1,Option.bind_some,if_neg (by decide)]
  by_cases c1:v < 0
  ·rw [if_pos (by simpa using c1)]; exact .inr ⟨fun h=>by have:=h.2.1; omega,rfl⟩
  rw [if_neg (by simpa using c1)]
  by_cases c2:v≥(D.n:Int)
  ·rw [if_pos (by simpa using c2)]; exact .inr ⟨fun h=>by have:=h.2.1; omega,rfl⟩
  rw [if_neg (by simpa using c2)]
  obtain ⟨v',rfl⟩:∃N:Nat,v=(N:Int):=⟨v.toNat,by omega⟩
  have:=V.card v' (by omega)
  rw [Q7n,Option.bind_some]
  dsimp only
  rcases Qxi V s with ⟨hs,e4,_⟩ | ⟨hs,e4,_⟩
  ·rw [e4]; exact .inl ⟨⟨he,by omega,by rw [Int.toNat_natCast]; omega,hs⟩,rfl⟩
  ·rw [e4]; exact .inr ⟨fun h=>hs h.2.2.2,rfl⟩
 ·rw [e1,Option.bind_some,if_pos (by decide)]; exact .inr ⟨fun h=>he h.1,rfl⟩
theorem Q3r (X:VX D):J4 D.net=some true:=by
 have V:=X.vn
 have hb:NB D.n D.node:=⟨fun v hv=>by
   have:=V.len v hv
   show (List.map _ (D.par v)).length≤_; rw [List.length_map]; omega,fun v hv=>by
   have:=V.rows_le hv
   show (Qc _ _).length≤_; rw [Ql]; omega,fun v hv r hr=>by
   have hr:r∈Qc (D.rows v) fun r=>Qc (D.card v) fun x=>(D.W v r x:Int):=hr
   unfold Qc at hr
   obtain ⟨i,_,rfl⟩:=List.mem_map.1 hr
   have:=(V.card v hv).2
   rw [List.length_map,List.length_range]; omega⟩
 rcases Qqk (g:=D.g) hb with ⟨_,e⟩ | ⟨no,_⟩
 ·exact e
 ·exact absurd (Qxb X) no
theorem Q4v (X:VX D) (e:List Int) (v x:Int) (s:Tapi_Shift):(Quf D e v x s∧Vn D.net e v x s=some 0)∨(¬ Quf D e v x s∧Vn D.net e v x s=some 2):=by
 have V:=X.vn
 have hlen:D.net.Nodes.length=D.n:=Ql
 unfold Vn
 rw [Q3r X,Option.bind_some,if_neg (by decide),hlen]
 rcases Q6q V e with ⟨he,e1⟩ | ⟨he,e1⟩
 ·rw [e1,Option.bind_some,if_neg (by decide)]
  by_cases c1:v < 0
  ·rw [if_pos (by simpa using c1)]; exact .inr ⟨fun h=>by have:=h.2.1; omega,rfl⟩
  rw [if_neg (by simpa using c1)]
  by_cases c2:v≥(D.n:Int)
  ·rw [if_pos (by simpa using c2)]; exact .inr ⟨fun h=>by have:=h.2.1; omega,rfl⟩
  rw [if_neg (by simpa using c2)]
  obtain ⟨v',rfl⟩:∃N:Nat,v=(N:Int):=⟨v.toNat,by omega⟩
  by_cases c3:x < 0
  ·rw [if_pos (by simpa using c3)]; exact .inr ⟨fun h=>by have:=h.2.2.1; omega,rfl⟩
  rw [if_neg (by simpa using c3),V.node (by omega),Option.bind_some]
  by_cases c4:x≥(D.card v':Int)
  ·rw [if_pos (by simpa [NF.node] using c4)]; exact .inr ⟨fun h=>by have:=h.2.2.1; rw [Int.toNat_natCast] at this; omega,rfl⟩
  rw [if_neg (by simpa [NF.node] using c4)]
  rcases Qxi V s with ⟨hs,_,e4⟩ | ⟨hs,_,e4⟩
  ·rw [e4,Option.bind_some,if_neg (by decide)]; exact .inl ⟨⟨he,by omega,by rw [Int.toNat_natCast]; omega,hs⟩,rfl⟩
  ·rw [e4,Option.bind_some,if_pos (by decide)]; exact .inr ⟨fun h=>hs h.2.2.2,rfl⟩
 ·rw [e1,Option.bind_some,if_pos (by decide)]; exact .inr ⟨fun h=>he h.1,rfl⟩
end
end Go.Ab
namespace Go.Ab
open Go
set_option maxRecDepth 100000
set_option maxHeartbeats 400000
section
variable {D:NF} {E:Nat → Int} {v x:Nat} {s:SF}
theorem Q25 {a:Qb} {b:Tapi_Shift} {c:List Int}:Qic a b c=V8 a b c:=rfl
theorem Q12 (V:VN D) {w:Nat → Nat} (hw:D.ok w) (hs:s.N < D.n):Qd fuel (V8 D.net s.sh (Qo D.n w)) (1,0)=some (prodTo D.n (fun u=>if u=s.N then 1 else D.wt w u):Int):=by
 have hn:=V.n8
 have hlen:D.net.Nodes.length=D.n:=Ql
 have hb:∀k,k≤D.n→prodTo k (fun u=>if u=s.N then 1 else D.wt w u)≤167961600000000:=fun k hk=>by
  have h1:prodTo k (fun u=>if u=s.N then 1 else D.wt w u)≤60^k:=Vg fun u hu=>by
   split
   ·omega
   ·exact V.wt_le hw (by omega)
  have h2:(60:Nat)^k≤60^8:=Nat.pow_le_pow_right (by omega) (by omega)
  have h3:(60:Nat)^8=167961600000000:=by decide
  omega
 have hr:=Qa4 (n:=D.n) (k0:=0) (by omega) (by omega) (fun i (t:Int)=>(t,i)) (body:=V8 D.net s.sh (Qo D.n w)) (fun k=>(prodTo k (fun u=>if u=s.N then 1 else D.wt w u):Int)) (prodTo D.n (fun u=>if u=s.N then 1 else D.wt w u):Int)
  (fun k _ hk=>by
   unfold V8
   dsimp only
   rw [hlen,if_pos (dlt hk),show s.sh.Node=(s.N:Int) from rfl]
   by_cases c:k=s.N
   ·rw [if_neg (by simp; omega)]
    congr 3
    simp only [prodTo,c,if_true,Nat.mul_one]
   ·rw [if_pos (by simp; omega),Q0r V hw hk,Option.bind_some,Zq hk,Option.bind_some,Qk (hw k hk),Option.bind_some]
    have h1:=hb (k+1) (by omega)
    have e:(prodTo k (fun u=>if u=s.N then 1 else D.wt w u):Int)*(D.W k (D.idx k w) (w k):Int)=((prodTo (k+1) (fun u=>if u=s.N then 1 else D.wt w u):Nat):Int):=by
     simp only [prodTo,if_neg c]; rw [Int.natCast_mul]; rfl
    rw [e,w64 (n:=((prodTo (k+1) (fun u=>if u=s.N then 1 else D.wt w u):Nat):Int)) (by omega)])
  (by unfold V8; dsimp only; rw [hlen,if_neg (nlt _)])
 exact hr
theorem Q2l {w:Nat → Nat} (h:D.hit s w=true):D.rest s w D.n=prodTo D.n (fun u=>if u=s.N then 1 else D.wt w u):=Qbo fun u _=>by
 by_cases c:u=s.N
 ·rw [if_pos ⟨c,h⟩,if_pos c]
 ·rw [if_neg fun hh=>c hh.1,if_neg c]
theorem Qy8 (V:VN D) (A:Qyx D E v x s) {k:Nat} (hk:k < prodTo D.n D.card) (hm:Yv D.n E 0 (dig D k)) (a b c d:Int) :
  V3 D.net (Qc D.n E) s.sh (v:Int) (x:Int) ((k:Int),a,b,c,d)=some (.next (zw ((k:Int)+1),(if dig D k v=x then zw (a+D.fA s (dig D k)) else a),(if dig D k v=x then zw (b+D.fB s (dig D k)) else b),zw (c+D.fA s (dig D k)),zw (d+D.fB s (dig D k)))):=by
 have hw:=Qvz V k
 have hwo:=V.worlds
 have hW:k < 1125899906842624:=by omega
 have hE:∀j,j < D.n→-1≤E j:=fun j hj=>(A.hE j hj).1
 have hN:=A.hs.N
 have hpar:∀p∈D.par s.N,p < D.n:=V.par _ hN
 have hlen8:=V.len _ hN
 have hidx:∀p∈D.par s.N,D.card p≤4∧dig D k p < D.card p:=fun p hp=>⟨(V.card p (hpar p hp)).2,hw p (hpar p hp)⟩
 have hB:D.fB s (dig D k)=(D.rest s (dig D k) D.n:Int)*D.change s (dig D k):=rfl
 have hbd:=V.fB_bound (s:=s) hw
 unfold V3
 dsimp only
 rw [Qml V,Option.bind_some,if_pos (by simpa using hk),Qnb V hW,Option.bind_some,Quu V.n8 hE hm,Option.bind_some,if_neg (by decide),Q1e V hW,Option.bind_some]
 rw [show s.sh.Node=(s.N:Int) from rfl,show s.sh.Row=(s.R:Int) from rfl,show s.sh.From=(s.F:Int) from rfl,show s.sh.To=(s.T:Int) from rfl]
 rw [Qsj V hN,Option.bind_some,V.node hN,Option.bind_some,show (D.node s.N).Parents=(D.par s.N).map (fun (p:Nat)=>(p:Int)) from rfl,Qp5 hpar hlen8,Option.bind_some,Qui hidx hlen8,Option.bind_some]
 rw [←V.fA_eq (s:=s) (w:=dig D k) hN]
 rw [show horner D.card (dig D k) (D.par s.N)=D.idx s.N (dig D k) from rfl]
 rw [Zq hN,Zq A.hv]
 simp only [Option.bind_some]
 have hq:((dig D k v:Int)==(x:Int))=decide (dig D k v=x):=by rw [Bool.eq_iff_iff]; simp; omega
 rw [hq,Q25,Q12 V hw hN]
 simp only [Option.bind_some]
 by_cases c1:D.idx s.N (dig D k)=s.R
 ·have hh:D.hit s (dig D k)=true:=by unfold NF.hit; simp [c1]
  rw [if_pos (by simp; omega)]
  have hr:=Q2l (s:=s) hh
  by_cases c2:dig D k s.N=s.F
  ·have e:D.fB s (dig D k)=-(prodTo D.n (fun u=>if u=s.N then 1 else D.wt (dig D k) u):Int):=by
    rw [hB,hr]; unfold NF.change; rw [if_pos hh,if_pos c2]; omega
   rw [if_pos (by simp; omega)]
   have e2:zw (0 - (prodTo D.n (fun u=>if u=s.N then 1 else D.wt (dig D k) u):Int))=D.fB s (dig D k):=by rw [e,w64 (by omega)]; omega
   rw [e2]
   by_cases c3:dig D k v=x
   ·rw [if_pos (by simpa using c3),if_pos c3,if_pos c3]
   ·rw [if_neg (by simpa using c3),if_neg c3,if_neg c3]
  ·rw [if_neg (by simp; omega)]
   by_cases c4:dig D k s.N=s.T
   ·have e:D.fB s (dig D k)=(prodTo D.n (fun u=>if u=s.N then 1 else D.wt (dig D k) u):Int):=by
     rw [hB,hr]; unfold NF.change; rw [if_pos hh,if_neg c2,if_pos c4]; omega
    rw [if_pos (by simp; omega),←e]
    by_cases c3:dig D k v=x
    ·rw [if_pos (by simpa using c3),if_pos c3,if_pos c3]
    ·rw [if_neg (by simpa using c3),if_neg c3,if_neg c3]
   ·have e:D.fB s (dig D k)=0:=by
     rw [hB]; unfold NF.change; rw [if_pos hh,if_neg c2,if_neg c4]; omega
    rw [if_neg (by simp; omega),e]
    by_cases c3:dig D k v=x
    ·rw [if_pos (by simpa using c3),if_pos c3,if_pos c3]
    ·rw [if_neg (by simpa using c3),if_neg c3,if_neg c3]
 ·have hh:D.hit s (dig D k)=false:=by unfold NF.hit; simp [c1]
  have e:D.fB s (dig D k)=0:=by
   rw [hB]; unfold NF.change; rw [hh,if_neg (by decide)]; omega
  rw [if_neg (by simp; omega),e]
  by_cases c3:dig D k v=x
  ·rw [if_pos (by simpa using c3),if_pos c3,if_pos c3]
  ·rw [if_neg (by simpa using c3),if_neg c3,if_neg c3]
open Classical in
theorem Qv5 (V:VN D) (A:Qyx D E v x s):Qbz D.net (Qc D.n E) (v:Int) (x:Int) s.sh=some (Zn D s E v x):=by
 have hwo:=V.worlds
 have hE:∀j,j < D.n→-1≤E j:=fun j hj=>(A.hE j hj).1
 have hpc:PC D D.n 0=prodTo D.n D.card:=by have:=Qnz (D:=D) D.n 0; simpa [prodTo] using this
 have hmix:∀W,mix D 0 (fun _=>0) W=dig D W:=fun W=>by funext j; simp [mix]
 have key:∀(f:(Nat → Nat)→Int),Ext D f→SW D E f=Qn (prodTo D.n D.card) (fun W=>if Yv D.n E 0 (dig D W) then f (dig D W) else 0):=fun f hf=>by
  unfold SW
  rw [←Qp9 V hf D.n 0 (fun _=>0) (by omega),hpc]
  exact Kc fun W _=>by rw [hmix]
 have hb:∀(f:(Nat → Nat)→Int),(∀w,D.ok w→BD 1 (f w))→∀k,BD (k*1) (Qn k (fun W=>if Yv D.n E 0 (dig D W) then f (dig D W) else 0)):=fun f hf k=>BD.sum fun W _=>by
  split
  ·exact hf _ (Qvz V W)
  ·exact BD.zero
 have b1:=hb _ (Qn0 (v:=v) (x:=x) (Qia V A.hs.N))
 have b2:=hb _ (Qn0 (v:=v) (x:=x) (Qif (s:=s) V))
 have b3:=hb _ (Qia V A.hs.N)
 have b4:=hb _ (Qif (s:=s) V)
 have hsucc:∀(f:(Nat → Nat)→Int) (k:Nat),Qn (k+1) (fun W=>if Yv D.n E 0 (dig D W) then f (dig D W) else 0)=Qn k (fun W=>if Yv D.n E 0 (dig D W) then f (dig D W) else 0)+(if Yv D.n E 0 (dig D k) then f (dig D k) else 0):=fun f k=>rfl
 have hr:=Qa4 (n:=prodTo D.n D.card) (k0:=0) (by omega) (by omega) (fun i (t:Int × Int × Int × Int)=>(i,t)) (body:=V3 D.net (Qc D.n E) s.sh (v:Int) (x:Int))
  (fun k=>(Qn k (fun W=>if Yv D.n E 0 (dig D W) then at' v x (D.fA s) (dig D W) else 0),Qn k (fun W=>if Yv D.n E 0 (dig D W) then at' v x (D.fB s) (dig D W) else 0),Qn k (fun W=>if Yv D.n E 0 (dig D W) then D.fA s (dig D W) else 0),Qn k (fun W=>if Yv D.n E 0 (dig D W) then D.fB s (dig D W) else 0)))
  (Zn D s E v x)
  (fun k _ hk=>by
   have f1:=(b1 (k+1)).fit (by omega)
   have f2:=(b2 (k+1)).fit (by omega)
   have f3:=(b3 (k+1)).fit (by omega)
   have f4:=(b4 (k+1)).fit (by omega)
   rw [hsucc] at f1 f2 f3 f4
   rw [hsucc,hsucc,hsucc,hsucc]
   by_cases hm:Yv D.n E 0 (dig D k)
   ·rw [Qy8 V A hk hm]
    rw [if_pos hm] at f1 f2 f3 f4 ⊢
    rw [if_pos hm,if_pos hm,if_pos hm,w64 f3,w64 f4]
    unfold at' at f1 f2 ⊢
    by_cases c:dig D k v=x
    ·rw [if_pos c] at f1 f2 ⊢
     rw [if_pos c,if_pos c,if_pos c,w64 f1,w64 f2]
    ·rw [if_neg c,if_neg c,if_neg c,if_neg c,Int.add_zero,Int.add_zero]
   ·rw [if_neg hm,if_neg hm,if_neg hm,if_neg hm,Int.add_zero,Int.add_zero,Int.add_zero,Int.add_zero]
    unfold V3
    dsimp only
    rw [Qml V,Option.bind_some,if_pos (by simpa using hk),Qnb V (by omega),Option.bind_some,Qs9 V.n8 hE hm,Option.bind_some,if_pos (by decide)])
  (by
   unfold V3
   dsimp only
   rw [Qml V,Option.bind_some,if_neg (by simp)]
   unfold Zn
   rw [key _ (Qq7 A.hv (Qqn V A.hs.N)),key _ (Qq7 A.hv (Qrb V A.hs.N)),key _ (Qqn V A.hs.N),key _ (Qrb V A.hs.N)])
 unfold Qbz
 rw [show ((0:Nat):Int)=0 from rfl] at hr
 have h0:∀(f:Nat → Int),Qn 0 f=0:=fun f=>rfl
 rw [h0,h0,h0,h0] at hr
 rw [hr]; rfl
end
end Go.Ab
namespace Go.Ab
open Go
set_option maxRecDepth 100000
set_option maxHeartbeats 400000
theorem Qt1 {a b:Int}:Qla a b > 0↔b < a:=by unfold Qla; split <;> (try split) <;> omega
theorem Qu7 {a b:Int}:Qla a b < 0↔a < b:=by unfold Qla; split <;> (try split) <;> omega
section
variable {L:LN} {b aT aF:Nat}
theorem Q3y (hL:Qk7 L) (hT:aT≤60) (hF:aF≤60) {c:Nat} (hb:b < c) (h8:c≤8):Qd fuel (Qbe ((b:Int),Qc c L)) (0,-(aT:Int),1,(aF:Int),1) =
  some ((stP L b aT aF c).1.N,(stP L b aT aF c).1.D,(stP L b aT aF c).2.N,(stP L b aT aF c).2.D):=by
 refine Qz (fun k=>((k:Int),(stP L b aT aF k).1.N,(stP L b aT aF k).1.D,(stP L b aT aF k).2.N,(stP L b aT aF k).2.D)) c _ rfl (fun k hk=>?_) ?_ (by omega)
 ·have ek:zw ((k:Int)+1)=((k+1:Nat):Int):=by rw [w64 (by omega)]; omega
  obtain ⟨r1,r2⟩:=Qvv (b:=b) hL hT hF k
  have hfit:=Qof (b:=b) hL k
  have hMX:MX=4611686018427387903:=rfl
  have eg:zw ((L b).2.1 - (L k).2.1)=Zt L b k:=by unfold Zt at *; exact w64 (by omega)
  have eo:zw (0 - zw ((L b).1 - (L k).1))=-(Y1 L b k):=by
   have w1:zw ((L b).1 - (L k).1)=Y1 L b k:=by unfold Y1 at *; exact w64 (by omega)
   rw [w1,w64 (by omega)]; omega
  unfold Qbe
  simp only
  rw [if_pos (by rw [Ql]; simpa using hk),Qk hb]
  simp only [Option.bind_some]
  rw [Qk hk]
  simp only [Option.bind_some]
  rw [eg,eo,ek]
  by_cases h1:0 < Zt L b k
  ·have h0:Zt L b k≠0:=by omega
   obtain ⟨q1,q2⟩:=Qq5 hL (b:=b) (x:=k) h0
   rw [if_pos (by simpa using h1),Q4n (by omega) (by omega) h0,Option.bind_some,show (Tapi_Q.mk (stP L b aT aF k).1.N (stP L b aT aF k).1.D)=(stP L b aT aF k).1 from rfl,Q0l q1.i64 r1.i64 (by have:=q1.1; omega) (by have:=r1.1; omega),Option.bind_some,if_neg (show ¬ (decide (Zt L b k < 0))=true by simp; omega)]
   rw [Qdo,if_pos h1]
   by_cases h2:(stP L b aT aF k).1.N*(qI (-(Y1 L b k)) (Zt L b k)).D < (qI (-(Y1 L b k)) (Zt L b k)).N*(stP L b aT aF k).1.D
   ·rw [if_pos (by rw [decide_eq_true_eq]; exact Qt1.2 h2),if_pos h2]
   ·rw [if_neg (by rw [decide_eq_true_eq,Qt1]; exact h2),if_neg h2,if_neg (show ¬ (decide (Zt L b k < 0))=true by simp; omega)]
  ·rw [if_neg (show ¬ (decide (Zt L b k > 0))=true by simp; omega)]
   by_cases h3:Zt L b k < 0
   ·have h0:Zt L b k≠0:=by omega
    obtain ⟨q1,q2⟩:=Qq5 hL (b:=b) (x:=k) h0
    rw [if_pos (by simpa using h3),Q4n (by omega) (by omega) h0,Option.bind_some,show (Tapi_Q.mk (stP L b aT aF k).2.N (stP L b aT aF k).2.D)=(stP L b aT aF k).2 from rfl,Q0l q1.i64 r2.i64 (by have:=q1.1; omega) (by have:=r2.1; omega),Option.bind_some]
    rw [Qdo,if_neg h1,if_pos h3]
    by_cases h2:(qI (-(Y1 L b k)) (Zt L b k)).N*(stP L b aT aF k).2.D < (stP L b aT aF k).2.N*(qI (-(Y1 L b k)) (Zt L b k)).D
    ·rw [if_pos (by rw [decide_eq_true_eq]; exact Qu7.2 h2),if_pos h2]
    ·rw [if_neg (by rw [decide_eq_true_eq,Qu7]; exact h2),if_neg h2]
   ·rw [if_neg (by simpa using h3),Qdo,if_neg h1,if_neg h3]
 ·unfold Qbe
  simp only
  rw [if_neg (by rw [Ql]; simp)]
end
section
variable {D:NF} {E:Nat → Int} {v x:Nat} {s:SF}
theorem Q3o (V:VN D) (hE:Qhm D E) (hv:v < D.n) (hs:Qvo D s):Qd fuel (Qbc D.net (v:Int) (Qc D.n E) s.sh) (0,0,[])=some ((bestF (Zn D s E v) (D.card v):Int),Qc (D.card v) (Zn D s E v)):=by
 have hc:=V.card v hv
 refine Qz (fun k=>((bestF (Zn D s E v) k:Int),(k:Int),Qc k (Zn D s E v))) (D.card v) _ rfl (fun k hk=>?_) ?_ (by omega)
 ·have ek:zw ((k:Int)+1)=((k+1:Nat):Int):=by rw [w64 (by omega)]; omega
  have hb:bestF (Zn D s E v) k < k+1:=by
   by_cases h:k=0
   ·subst h; exact Nat.one_pos
   ·have:=Qhi (L:=Zn D s E v) k (by omega); omega
  unfold Qbc
  simp only
  rw [V.node hv,Option.bind_some,if_pos (by simp [NF.node]; exact hk),Qv5 V ⟨hE,hv,hk,hs⟩,Option.bind_some]
  rw [show ((Zn D s E v k).1,(Zn D s E v k).2.1,(Zn D s E v k).2.2.1,(Zn D s E v k).2.2.2)=Zn D s E v k from rfl,Qb8,if_pos (by rw [Ql]; omega),Qk hb,Option.bind_some,ek]
  by_cases h:(Zn D s E v k).1 > (Zn D s E v (bestF (Zn D s E v) k)).1
  ·rw [if_pos (by simpa using h)]
   simp only [bestF,if_pos h]
  ·rw [if_neg (by simpa using h)]
   simp only [bestF,if_neg h]
 ·unfold Qbc
  simp only
  rw [V.node hv,Option.bind_some,if_neg (by simp [NF.node])]
theorem Q2w (V:VN D) (hs:Qvo D s):Qf6 D.net s.sh=some (-(D.W s.N s.R s.T:Int),(D.W s.N s.R s.F:Int)):=Q4x V hs.N hs.R hs.F hs.T
theorem Q1t {L:LN} (h:∀x,SmL (L x)):Qk7 L:=fun x=>by
 obtain ⟨h1,h2,_⟩:=h x
 unfold SBd SB at h1 h2
 unfold B61; omega
theorem Q17 (V:VN D) (h6:D.n≤6) (hE:Qhm D E) (hv:v < D.n) (hs:Qvo D s):Qel D.net (Qc D.n E) (v:Int) s.sh=some (stP (Zn D s E v) (bestF (Zn D s E v) (D.card v)) (D.W s.N s.R s.T) (D.W s.N s.R s.F) (D.card v)):=by
 have hc:=V.card v hv
 have hWT:=V.W s.N s.R s.T hs.N hs.R hs.T
 have hWF:=V.W s.N s.R s.F hs.N hs.R hs.F
 have hg:=V.g60
 have hL:Qk7 (Zn D s E v):=Q1t fun y=>Qxr V h6 hs.N y
 unfold Qel
 rw [Q3o V hE hv hs,Option.bind_some,Q2w V hs,Option.bind_some]
 dsimp only
 rw [Q3y hL (by omega) (by omega) (Qhi _ (by omega)) (by omega)]
 rfl
end
end Go.Ab
namespace Go.Ab
open Go
set_option maxRecDepth 100000
set_option maxHeartbeats 400000
theorem Q31 {n:Int} (h:(Lit.int .u8 n).wf=true):0≤n∧n≤255:=by
 simpa [Lit.wf,IntKind.min,IntKind.max,IntKind.bits,IntKind.signed] using h
theorem Qzo {D:NF} (X:VX D):∀x∈Qc D.n D.node,Kl 65536 x:=fun x hx=>by
 have V:=X.vn
 unfold Qc at hx
 obtain ⟨v,hv,rfl⟩:=List.mem_map.1 hx
 have hv:=List.mem_range.1 hv
 have hc:=V.card v hv
 refine ⟨?_,?_,fun r hr=>?_⟩
 ·have:=V.len v hv
  show (List.map _ (D.par v)).length≤_
  rw [List.length_map]; omega
 ·show (Qc (D.rows v) _).length≤_
  rw [Ql]; exact V.rows_le hv
 ·have hr:r∈Qc (D.rows v) fun r=>Qc (D.card v) fun x=>(D.W v r x:Int):=hr
  unfold Qc at hr
  obtain ⟨i,hi,rfl⟩:=List.mem_map.1 hr
  rw [List.length_map,List.length_range]; omega
theorem Q5o {n:Nat} {F:Nat → Tapi_Node} (h:∀x∈Qc n F,Kl 65536 x):NB n F:=by
 have key:∀v,v < n→Kl 65536 (F v):=fun v hv=>h _ (by unfold Qc; exact List.mem_map.2 ⟨v,List.mem_range.2 hv,rfl⟩)
 exact ⟨fun v hv=>by have:=(key v hv).par; omega,fun v hv=>by have:=(key v hv).rows; omega,fun v hv r hr=>by have:=(key v hv).row r hr; omega⟩
theorem Q3k {p0:Qf} {p1:Zr} (h0:Vo p0) (h1:Qaa p1) :
  ∃(D:NF) (n:Nat) (g:Int) (F:Nat → Tapi_Node),VX D∧D.n≤5∧NB D.n D.node∧Qlo D.n D.g D.node∧NB n F∧n≤6∧Ja p0=some ⟨D.g,Qc D.n D.node⟩∧Kh p1 ⟨D.g,Qc D.n D.node⟩=some ⟨g,Qc n F⟩:=by
 obtain ⟨D,X,hn,_,e⟩:=Qs0 (Qxz h0)
 have hs:=Qzo X
 have V:=X.vn
 have hlen:(Qc D.n D.node).length=D.n:=Ql
 obtain ⟨g,l,e2,h2,h3⟩:=Q21 (b:=p1) (g:=D.g) (l:=Qc D.n D.node) (m:=65536) (by omega) (by rw [hlen]; exact V.n1) (by rw [hlen]; exact V.n8) hs (Q31 h1.2.1) (Q31 h1.2.2.1)
 rw [hlen] at h2
 refine ⟨D,l.length,g,fun v=>(l[v]?).getD default,X,hn,Q5o hs,Qxb X,Q7p (m:=65536+1) (by omega) h3,by omega,e,?_⟩
 rw [e2,←Q3x]
theorem lk5 {α:Type} {a b c d e:α} {k:Nat} (h:k < 5) {Q:α→Prop} (h1:Q a) (h2:Q b) (h3:Q c) (h4:Q d) (h5:Q e):∃x,lkI ([a,b,c,d,e]:List α) (k:Int)=some x∧Q x:=by
 match k,h with
 | 0,_=>exact ⟨a,rfl,h1⟩
 | 1,_=>exact ⟨b,rfl,h2⟩
 | 2,_=>exact ⟨c,rfl,h3⟩
 | 3,_=>exact ⟨d,rfl,h4⟩
 | 4,_=>exact ⟨e,rfl,h5⟩
def Qps (a:Qi):Prop:=∃n g F,a.n=⟨g,Qc n F⟩∧NB n F∧n≤6
theorem Q5j {p0:Tharuspexlaw24_Story} (h:Kp p0):∃a b c d e,Kd p0=some (a,b,c,d,e)∧Qps a∧Qps b∧Qps c∧Qps d∧Qps e:=by
 obtain ⟨hN,hC,hK,hD,hR,hV,hx,hS⟩:=h
 obtain ⟨D,X0,n5,c23,hnet⟩:=Qs0 (Qxz hN)
 have X:DX D:=⟨X0,n5,c23⟩
 obtain ⟨D',n,g,F,X',hn5,hB',hF',hB,hn6,e1,e2⟩:=Q3k hN hC
 obtain ⟨E,hE,eE⟩:=Q22 X hK
 obtain ⟨v,x,s,hv,hx',hs1,hs2,hs3,hs4,eD⟩:=Q2v X hD
 have hd:D.net=⟨D'.g,Qc D'.n D'.node⟩:=by rw [e1] at hnet; exact (Option.some.inj hnet).symm
 have own:∀e v x s,Qps ⟨D.net,e,v,x,s⟩:=fun e v x s=>⟨D'.n,D'.g,D'.node,hd,hB',by omega⟩
 have hcut:0≤(if 9 < (p0.Raw.length:Int) then (9:Int) else (p0.Raw.length:Int))∧(if 9 < (p0.Raw.length:Int) then (9:Int) else (p0.Raw.length:Int))≤(p0.Raw.length:Int):=by split <;> omega
 unfold Kd
 rw [hnet,Option.bind_some]
 rw [show (Tharuspexref05_Known.mk p0.K.Which (p0.K.V.1,p0.K.V.2.1,p0.K.V.2.2.1,p0.K.V.2.2.2.1,p0.K.V.2.2.2.2.1,p0.K.V.2.2.2.2.2.1,p0.K.V.2.2.2.2.2.2.1,p0.K.V.2.2.2.2.2.2.2))=p0.K from rfl]
 rw [eE,Option.bind_some,eD,Option.bind_some,if_pos ⟨Int.le_refl _,hcut.1,hcut.2⟩,hd,e2,Option.bind_some,←hd]
 exact ⟨_,_,_,_,_,rfl,own _ _ _ _,⟨n,g,F,rfl,hB,hn6⟩,own _ _ _ _,own _ _ _ _,own _ _ _ _⟩
theorem Q0w {n:Nat} {g:Int} {F:Nat → Tapi_Node} (hb:NB n F) (hbig:n≤1000) (hf:¬ Qlo n g F) {e l:List Int} {v x:Int} {s:Tapi_Shift}:Ze ⟨g,Qc n F⟩ e v s l=some 50∧Vn ⟨g,Qc n F⟩ e v x s=some 50:=by
 constructor
 ·rcases Q1q (g:=g) hb (by omega) with ⟨hf',_⟩ | ⟨_,e⟩
  ·exact absurd hf' hf
  ·unfold Ze Qa0
   rw [e]; rfl
 ·rcases Qqk (g:=g) hb with ⟨hf',_⟩ | ⟨_,e⟩
  ·exact absurd hf' hf
  ·unfold Vn
   rw [e]; rfl
theorem Q38 (q:Tapi_Q):((q.N==q.N) && ((q.D==q.D) && true))=true:=by simp
theorem Q1i {x1:Qi × Qi × Qi × Qi × Qi} {k:Nat} {a:Qi} (hk:k < 5) (hl:lkI ([x1.1,x1.2.1,x1.2.2.1,x1.2.2.2.1,x1.2.2.2.2]:(List Qi)) (k:Int)=some a) (ha:Qps a) :
  Xo x1 (k:Int)=some (.next (zw ((k:Int)+1))):=by
 obtain ⟨n,g,F,en,hb,hn6⟩:=ha
 unfold Xo
 rw [if_pos (by rw [decide_eq_true_eq]; omega),hl,Option.bind_some,en]
 by_cases hf:Qlo n g F
 ·obtain ⟨D,hDn,X,hD⟩:=Q5b hf
  have h6:D.n≤6:=by omega
  rw [←hD]
  rcases Q4v X a.e a.v 0 a.s with ⟨hq,er⟩ | ⟨hq,er⟩
  ·obtain ⟨E,v,x,s,ee,ev,ex,es,A⟩:=Q5g hq
   have hx:x=0:=by omega
   subst hx
   have A0:=A.hs
   have hL:Qk7 (Zn D s E v):=Q1t fun y=>Qxr X.vn h6 A0.N y
   have hr:=Qv5 X.vn A
   have hst:=Q4u X A.hE A0.N A0.R A0.F A0.T A0.FT A.hv hL
   rw [er,ee,ev,es,hst,Option.bind_some,Option.bind_some,if_pos (by decide)]
   rw [show ((0:Nat):Int)=0 from rfl] at hr
   rw [hr,Option.bind_some,show (Zn D s E v 0).2.2.1=SW D E (D.fA s) from rfl]
   by_cases c:SW D E (D.fA s)=0
   ·rw [if_pos (by simpa using c),if_pos c]
    rfl
   ·rw [if_neg (by simpa using c),if_neg c,Q17 X.vn h6 A.hE A.hv A0,Option.bind_some]
    dsimp only
    rw [if_neg (by decide),Q38,if_neg (by decide),Q38,if_neg (by decide)]
  ·have est:Xd D.net a.e a.v a.s=some (⟨0,0⟩,⟨0,0⟩,2):=by
    rcases Qzw X a.e a.v a.s with ⟨hq',_⟩ | ⟨_,ep⟩
    ·exact absurd hq' hq
    ·unfold Xd
     rw [ep]; rfl
   rw [est,Option.bind_some,er,Option.bind_some,if_neg (by decide)]
   rfl
 ·obtain ⟨ec,er⟩:=Q0w (e:=a.e) (l:=[]) (v:=a.v) (x:=0) (s:=a.s) hb (by omega) hf
  have est:Xd ⟨g,Qc n F⟩ a.e a.v a.s=some (⟨0,0⟩,⟨0,0⟩,50):=by
   unfold Xd
   rw [ec]; rfl
  rw [est,Option.bind_some,er,Option.bind_some,if_neg (by decide)]
  rfl
theorem stays_true (p0:Tharuspexlaw24_Story) (h:Kp p0):Kx p0=some true:=by
 obtain ⟨a,b,c,d,e,ea,h1,h2,h3,h4,h5⟩:=Q5j h
 have hr:=Qa4 (n:=5) (k0:=0) (by omega) (by omega) (fun i (_:Unit)=>i) (body:=Xo (a,b,c,d,e)) (fun _=>()) (.inr ())
  (fun k _ hk=>by
   obtain ⟨y,hy,hq⟩:=lk5 hk h1 h2 h3 h4 h5
   exact Q1i hk hy hq)
  (by unfold Xo; rw [if_neg (by decide)])
 rw [show ((0:Nat):Int)=0 from rfl] at hr
 unfold Kx
 rw [show (Tharuspexlaw24_Story.mk p0.N p0.C (Tharuspexref05_Known.mk p0.K.Which (p0.K.V.1,p0.K.V.2.1,p0.K.V.2.2.1,p0.K.V.2.2.2.1,p0.K.V.2.2.2.2.1,p0.K.V.2.2.2.2.2.1,p0.K.V.2.2.2.2.2.2.1,p0.K.V.2.2.2.2.2.2.2)) p0.D p0.Raw p0.V p0.Value p0.S)=p0 from rfl,ea,Option.bind_some,hr,Option.bind_some]
 dsimp only
 rw [Qy9]; rfl
#print axioms stays_true
end Go.Ab
