/- What functions compute. No conditions. -/
import Derived.Test.YtokcpkcoahlkjaaW15
set_option linter.all false
namespace Go.Ab
open Go
theorem Qql {n:Int} (h:0≤n∧n < 18446744073709551616):zv n=n:=by
 obtain ⟨m,rfl⟩:=Int.eq_ofNat_of_zero_le h.1
 exact Qdh (by omega)
theorem Qxh {n:Int} (h:n < 0∧-18446744073709551616≤n):zv n=n+18446744073709551616:=by
 simp [IntKind.wrap,IntKind.bits,IntKind.signed]; omega
theorem Qs4 (a b:Nat) (ha:a < 18446744073709551616) (hb:b < 18446744073709551616):Qao (a:Int) (b:Int)=some ((Nat.gcd a b:Nat):Int):=by
 have l1:(dgs a).length≤5:=Z7 (by omega)
 have l2:(dgs b).length≤5:=Z7 (by omega)
 have lim:gm a b < 1152921504606846976:=Qzy (by omega) (by omega)
 unfold Qao
 rw [Qbp (fun s=>∃x y:Nat,s.1=(x:Int)∧s.2=(y:Int)∧Nat.gcd x y=Nat.gcd a b) (fun s=>gm s.1.toNat s.2.toNat) ((Nat.gcd a b:Nat):Int) ?_ _ ⟨a,b,rfl,rfl,rfl⟩ (by simpa using lim)]
 ·rfl
 ·rintro ⟨x0,y0⟩ ⟨x,y,h1,h2,h3⟩
  simp only at h1 h2
  subst h1; subst h2
  unfold Qg2
  simp only
  by_cases hy:y=0
  ·right
   subst hy
   rw [if_neg (by simp)]
   rw [Nat.gcd_zero_right] at h3
   rw [h3]
  ·left
   rw [if_pos (by simp; omega),if_pos (by omega),X1 (by omega)]
   refine ⟨_,rfl,⟨y,x % y,rfl,by simp,?_⟩,?_⟩
   ·rw [←h3,Qu7 x y]
   ·simp only [Int.toNat_natCast]
    rw [show ((x:Int) % (y:Int)).toNat = x % y by rw [←Int.natCast_emod,Int.toNat_natCast]]
    exact Qxd (by omega)
theorem Qov {p:Int} (h:-9223372036854775808≤p∧p≤9223372036854775807):Yy p=some (p.natAbs:Int):=by
 unfold Yy
 by_cases h0:p < 0
 ·rw [if_pos (by simpa using h0)]
  have e:zv p=p+18446744073709551616:=Qxh (by omega)
  rw [e,Qxh (by omega)]
  congr 1; omega
 ·rw [if_neg (by simpa using h0),Qql (by omega)]
  congr 1; omega
def Rt (q:Tapi_Q):Prop:=1≤q.D∧q.D≤4611686018427387903∧-4611686018427387903≤q.N∧q.N≤4611686018427387903∧Nat.gcd q.N.natAbs q.D.natAbs=1
instance instRt (q:Tapi_Q):Decidable (Rt q):=by unfold Rt; infer_instance
def I64 (q:Tapi_Q):Prop:=(-9223372036854775808≤q.N∧q.N≤9223372036854775807)∧(-9223372036854775808≤q.D∧q.D≤9223372036854775807)
theorem Rt.i64 {q:Tapi_Q} (h:Rt q):I64 q:=by obtain ⟨h1,h2,h3,h4,_⟩:=h; unfold I64; omega
theorem Q2a (q:Tapi_Q):K3 q=some (if Rt q then 0 else 5):=by
 unfold K3
 by_cases h1:q.D < 1
 ·rw [if_pos (by simpa using h1),if_neg (fun h=>by have:=h.1; omega)]
 rw [if_neg (by simpa using h1)]
 by_cases h2:q.D > 4611686018427387903
 ·rw [if_pos (by simpa using h2),if_neg (fun h=>by have:=h.2.1; omega)]
 rw [if_neg (by simpa using h2)]
 by_cases h3:q.N < -4611686018427387903
 ·rw [if_pos (by simpa using h3),if_neg (fun h=>by have:=h.2.2.1; omega)]
 rw [if_neg (by simpa using h3)]
 by_cases h4:q.N > 4611686018427387903
 ·rw [if_pos (by simpa using h4),if_neg (fun h=>by have:=h.2.2.2.1; omega)]
 rw [if_neg (by simpa using h4),Qov (by omega)]
 simp only [Option.bind_some]
 have eD:zv q.D=((q.D.natAbs:Nat):Int):=by rw [Qql (by omega)]; omega
 rw [eD,Qs4 _ _ (by omega) (by omega)]
 simp only [Option.bind_some]
 by_cases h5:Nat.gcd q.N.natAbs q.D.natAbs=1
 ·rw [if_neg (by simp [h5]),if_pos ⟨by omega,by omega,by omega,by omega,h5⟩]
 ·rw [if_pos (by simpa using (fun e:((Nat.gcd q.N.natAbs q.D.natAbs:Nat):Int)=1=>h5 (by omega))),if_neg (fun h=>h5 h.2.2.2.2)]
theorem Q2z (q:Tapi_Q):Qcw q=some (decide (Rt q)):=by
 unfold Qcw
 by_cases h1:q.D < 1
 ·rw [if_pos (by simpa using h1),decide_eq_false (fun h=>by have:=h.1; omega)]
 rw [if_neg (by simpa using h1)]
 by_cases h2:q.D > 4611686018427387903
 ·rw [if_pos (by simpa using h2),decide_eq_false (fun h=>by have:=h.2.1; omega)]
 rw [if_neg (by simpa using h2)]
 by_cases h4:q.N > 4611686018427387903
 ·rw [if_pos (by simpa using h4),decide_eq_false (fun h=>by have:=h.2.2.2.1; omega)]
 rw [if_neg (by simpa using h4)]
 by_cases h3:q.N < -4611686018427387903
 ·rw [if_pos (by simpa using h3),decide_eq_false (fun h=>by have:=h.2.2.1; omega)]
 rw [if_neg (by simpa using h3),Kf _ (by omega),Kf _ (by omega)]
 simp only [Option.bind_some]
 have l1:=Qqx (p:=q.N) (by omega)
 have l2:=Qqx (p:=q.D) (by omega)
 rw [Q05 _ _ (by omega) (by omega)]
 simp only [Option.bind_some]
 have l3:(dgs (Nat.gcd q.N.natAbs q.D.natAbs)).length≤5:=Nat.le_trans (Qfi (Nat.le_of_dvd (by omega) (Nat.gcd_dvd_right _ _))) l2
 rw [show ([1]:List Int)=dgs 1 from (Qyf (q:=1) (by omega) (by omega)).symm,Qel _ _ (by omega) (by have:(dgs 1).length≤1:=Z7 (by omega); omega)]
 simp only [Option.bind_some]
 congr 1
 by_cases h5:Nat.gcd q.N.natAbs q.D.natAbs=1
 ·rw [decide_eq_true ⟨by omega,by omega,by omega,by omega,h5⟩,h5]; rfl
 ·rw [decide_eq_false (fun h=>h5 h.2.2.2.2)]
  unfold Qpi
  by_cases hl:Nat.gcd q.N.natAbs q.D.natAbs < 1
  ·rw [if_pos hl]; rfl
  ·rw [if_neg hl,if_neg h5]; rfl
def qI (n d:Int):Tapi_Q:=(mkQ (!((decide (n < 0))==(decide (d < 0)))) n.natAbs d.natAbs).1
theorem Q6e {n d:Int} (hd:d≠0) (hn:n.natAbs≤MX) (hd':d.natAbs≤MX):qI n d=⟨if (!((decide (n < 0))==(decide (d < 0))))=true then -((n.natAbs / Nat.gcd n.natAbs d.natAbs:Nat):Int) else ((n.natAbs / Nat.gcd n.natAbs d.natAbs:Nat):Int),((d.natAbs / Nat.gcd n.natAbs d.natAbs:Nat):Int)⟩:=by
 unfold qI mkQ
 have h1:=Nat.div_le_self n.natAbs (Nat.gcd n.natAbs d.natAbs)
 have h2:=Nat.div_le_self d.natAbs (Nat.gcd n.natAbs d.natAbs)
 rw [if_pos (by omega),if_pos (by omega)]
theorem Q4h {n d:Int} (hn:-9223372036854775808≤n∧n≤9223372036854775807) (hd:-9223372036854775808≤d∧d≤9223372036854775807) (h0:d≠0):Qai n d=some (qI n d):=by
 unfold Qai
 rw [Q48 n d hn hd h0]
 rfl
theorem Q4p {n d:Int} (hn:n.natAbs≤MX) (hd:d.natAbs≤MX) (h0:d≠0):Qas n d=some (qI n d,0):=by
 have hMX:MX=4611686018427387903:=rfl
 unfold Qas
 rw [if_neg (by simpa using h0)]
 unfold Qc1
 rw [Qov (by omega),Qov (by omega)]
 simp only [Option.bind_some]
 rw [Qs4 _ _ (by omega) (by omega)]
 simp only [Option.bind_some]
 have hg:0 < Nat.gcd n.natAbs d.natAbs:=Nat.gcd_pos_of_pos_right _ (by omega)
 rw [if_pos (by omega),if_pos (by omega)]
 have h1:=Nat.div_le_self n.natAbs (Nat.gcd n.natAbs d.natAbs)
 have h2:=Nat.div_le_self d.natAbs (Nat.gcd n.natAbs d.natAbs)
 have e1:Int.tdiv (n.natAbs:Int) ((Nat.gcd n.natAbs d.natAbs:Nat):Int)=((n.natAbs / Nat.gcd n.natAbs d.natAbs:Nat):Int):=by rw [Jq (by omega)]; simp
 have e2:Int.tdiv (d.natAbs:Int) ((Nat.gcd n.natAbs d.natAbs:Nat):Int)=((d.natAbs / Nat.gcd n.natAbs d.natAbs:Nat):Int):=by rw [Jq (by omega)]; simp
 rw [e1,e2,Q6e h0 hn hd]
 generalize n.natAbs / Nat.gcd n.natAbs d.natAbs=x at *
 generalize d.natAbs / Nat.gcd n.natAbs d.natAbs=y at *
 rw [Qql (by omega),Qql (by omega)]
 unfold Qkp
 simp only
 rw [if_neg (by simp),if_neg (by simp; omega),if_neg (by simp),if_neg (by simp; omega)]
 generalize (!((decide (n < 0))==(decide (d < 0))))=b
 cases b
 ·rw [if_neg (by simp),if_neg (by simp),w64 (by omega),w64 (by omega)]; rfl
 ·rw [if_pos rfl,if_pos rfl,w64 (n:=(x:Int)) (by omega),w64 (n:=(y:Int)) (by omega),w64 (by omega)]
  simp
def Qrg (a b:Int):Int:=if a < b then -1 else if a=b then 0 else 1
theorem Q0x {p q:Tapi_Q} (hp:I64 p) (hq:I64 q) (hpD:0 < p.D) (hqD:0 < q.D):Qcn p q=some (Qrg (p.N*q.D) (q.N*p.D)):=by
 obtain ⟨p1,p2⟩:=hp
 obtain ⟨q1,q2⟩:=hq
 unfold Qcn
 rw [Kf _ p1,Kf _ q2]
 simp only [Option.bind_some]
 have dgb:∀{m:Int},(-9223372036854775808≤m∧m≤9223372036854775807)→(dgs m.natAbs).length≤5:=fun h=>Qqx h
 have tm:∀(a b:Int),(-9223372036854775808≤a∧a≤9223372036854775807)→(-9223372036854775808≤b∧b≤9223372036854775807)→Vd (dgs a.natAbs) (dgs b.natAbs)=some (dgs (a.natAbs*b.natAbs)):=fun a b ha hb=>by
  have h1:=dgb ha
  have h2:=dgb hb
  have h3:=K4 (Zz b.natAbs)
  rw [Qpk _ _ (Zz _) (fun z hz=>by have:=Zz _ z hz; omega) (by omega) (by omega) (by omega),Zp,Zp]
 rw [tm _ _ p1 q2,Kf _ q1,Kf _ p2]
 simp only [Option.bind_some]
 rw [tm _ _ q1 p2]
 simp only [Option.bind_some]
 have len:∀(a b:Int),(-9223372036854775808≤a∧a≤9223372036854775807)→(-9223372036854775808≤b∧b≤9223372036854775807)→(dgs (a.natAbs*b.natAbs)).length≤10:=fun a b ha hb=>by
  refine Z7 ?_
  have h1:a.natAbs≤9223372036854775808:=by omega
  have h2:b.natAbs≤9223372036854775808:=by omega
  have:=Nat.mul_le_mul h1 h2
  omega
 have len1:=len _ _ p1 q2
 have len2:=len _ _ q1 p2
 have hx:p.N*q.D=if p.N < 0 then -((p.N.natAbs*q.D.natAbs:Nat):Int) else ((p.N.natAbs*q.D.natAbs:Nat):Int):=by
  split
  ·rw [Int.natCast_mul,←Int.neg_mul]; congr 1 <;> omega
  ·rw [Int.natCast_mul]; congr 1 <;> omega
 have hy:q.N*p.D=if q.N < 0 then -((q.N.natAbs*p.D.natAbs:Nat):Int) else ((q.N.natAbs*p.D.natAbs:Nat):Int):=by
  split
  ·rw [Int.natCast_mul,←Int.neg_mul]; congr 1 <;> omega
  ·rw [Int.natCast_mul]; congr 1 <;> omega
 have hxp:p.N < 0→0 < p.N.natAbs*q.D.natAbs:=fun h=>Nat.mul_pos (by omega) (by omega)
 have hyp:q.N < 0→0 < q.N.natAbs*p.D.natAbs:=fun h=>Nat.mul_pos (by omega) (by omega)
 rw [hx,hy]
 generalize p.N.natAbs*q.D.natAbs=x at *
 generalize q.N.natAbs*p.D.natAbs=y at *
 unfold Qrg
 by_cases h1:p.N < 0
 ·rw [if_pos (by simpa using h1),if_pos h1]
  by_cases h2:q.N < 0
  ·rw [if_pos (by simpa using h2),if_pos h2,Qel _ _ (by omega) (by omega)]
   simp only [Option.bind_some]
   unfold Qpi
   congr 1
   by_cases a1:y < x
   ·rw [if_pos a1,if_pos (by omega)]
   ·rw [if_neg a1]
    by_cases a2:y=x
    ·rw [if_pos a2,if_neg (by omega),if_pos (by omega)]
    ·rw [if_neg a2,if_neg (by omega),if_neg (by omega)]
  ·rw [if_neg (by simpa using h2),if_neg h2,if_pos (by have:=hxp h1; omega)]
 ·rw [if_neg (by simpa using h1),if_neg h1]
  by_cases h2:q.N < 0
  ·rw [if_pos (by simpa using h2),if_pos h2,if_neg (by have:=hyp h2; omega),if_neg (by have:=hyp h2; omega)]
  ·rw [if_neg (by simpa using h2),if_neg h2,Qel _ _ (by omega) (by omega)]
   simp only [Option.bind_some]
   unfold Qpi
   congr 1
   by_cases a1:x < y
   ·rw [if_pos a1,if_pos (by omega)]
   ·rw [if_neg a1]
    by_cases a2:x=y
    ·rw [if_pos a2,if_neg (by omega),if_pos (by omega)]
    ·rw [if_neg a2,if_neg (by omega),if_neg (by omega)]
end Go.Ab
namespace Go.Ab
open Go
abbrev LN:=Nat → Int × Int × Int × Int
theorem Qzo {z:Int} (h:-1000≤z∧z≤1000):Rt ⟨z,1⟩:=⟨by simp,by simp,by simp only; omega,by simp only; omega,by simp⟩
section
variable {L:LN} {b aT aF:Nat}
end
section
variable {D:NF}
end
end Go.Ab
namespace Go.Ab
open Go
structure QX (D:NF) (E:Nat → Int) (v:Nat) (s:SF):Prop where
 X:DX D
 hE:Ql8 D E
 hv:v < D.n
 hsN:s.N < D.n
 hsR:s.R < D.rows s.N
 hsF:s.F < D.card s.N
 hsT:s.T < D.card s.N
 hFT:s.F≠s.T
section
variable {D:NF} {E:Nat → Int} {v:Nat} {s:SF}
theorem QX.bd (Q:QX D E v s) (y:Nat):BD 243 (Vn D s E v y).1∧BD 243 (Vn D s E v y).2.1∧BD 243 (Vn D s E v y).2.2.1∧BD 243 (Vn D s E v y).2.2.2:=by
 have V:=Q.X.vn
 have hw:=Q.X.worlds
 exact ⟨Qto V hw (Qnu (Qhx V Q.hsN)),Qto V hw (Qnu (Qig V)),Qto V hw (Qhx V Q.hsN),Qto V hw (Qig V)⟩
theorem QX.row (Q:QX D E v s):lkI (D.node s.N).Rows s.sh.Row=some (Qc (D.card s.N) fun x=>(D.W s.N s.R x:Int)):=Qv Q.hsR
end
end Go.Ab
namespace Go.Ab
open Go
def SB:Int:=47775744000000
def SBd (z:Int):Prop:=-SB≤z∧z≤SB
theorem Q1f {D:NF} {E:Nat → Int} {f:(Nat → Nat)→Int} {K:Nat} (hf:∀w,D.ok w→-(K:Int)≤f w∧f w≤K):∀(d i:Nat) (w:Nat → Nat),i+d=D.n→D.ok w→-((PC D d i*K:Nat):Int)≤TM D E f d i w∧TM D E f d i w≤((PC D d i*K:Nat):Int)
 | 0,i,w,_,hw=>by
  have:=hf w hw
  show -((1*K:Nat):Int)≤f w∧f w≤((1*K:Nat):Int)
  rw [Nat.one_mul]; exact this
 | d+1,i,w,h,hw=>by
  have key:∀m,m≤D.card i→-((m*(PC D d (i+1)*K):Nat):Int)≤Ql m (fun y=>if E i=-1∨E i=(y:Int) then TM D E f d (i+1) (Xg w i y) else 0)∧Ql m (fun y=>if E i=-1∨E i=(y:Int) then TM D E f d (i+1) (Xg w i y) else 0)≤((m*(PC D d (i+1)*K):Nat):Int):=by
   intro m
   induction m with
   | zero=>intro _; simp [Ql]
   | succ m ih =>
    intro hm
    have i1:=ih (by omega)
    simp only [Ql]
    rw [Nat.succ_mul]
    have i2:-((PC D d (i+1)*K:Nat):Int)≤(if E i=-1∨E i=(m:Int) then TM D E f d (i+1) (Xg w i m) else 0)∧(if E i=-1∨E i=(m:Int) then TM D E f d (i+1) (Xg w i m) else 0)≤((PC D d (i+1)*K:Nat):Int):=by
     split
     ·exact Q1f hf d (i+1) _ (by omega) (Qqs hw hm)
     ·omega
    omega
  have:=key (D.card i) (Nat.le_refl _)
  unfold TM PC
  rw [Nat.mul_assoc]
  exact this
section
variable {D:NF} {E:Nat → Int} {v:Nat} {s:SF}
theorem Q2e (V:VN D) (h6:D.n≤6) {w:Nat → Nat} (hw:D.ok w):D.rest s w D.n≤46656000000:=by
 have h1:D.rest s w D.n≤60^D.n:=Vb fun v hv=>by
  split
  ·omega
  ·exact V.wt_le hw (by omega)
 have h2:(60:Nat)^D.n≤60^6:=Nat.pow_le_pow_right (by omega) h6
 exact Nat.le_trans h1 (Nat.le_trans h2 (by decide))
theorem Q0d (V:VN D) (h6:D.n≤6) (hs:s.N < D.n) {w:Nat → Nat} (hw:D.ok w):-((46656000000:Nat):Int)≤D.fA s w∧D.fA s w≤((46656000000:Nat):Int):=by
 rw [V.fA_eq hs]
 have h1:prodTo D.n (D.wt w)≤60^D.n:=Vb fun v hv=>V.wt_le hw hv
 have h2:(60:Nat)^D.n≤60^6:=Nat.pow_le_pow_right (by omega) h6
 omega
theorem Q0w (V:VN D) (h6:D.n≤6) {w:Nat → Nat} (hw:D.ok w):-((46656000000:Nat):Int)≤D.fB s w∧D.fB s w≤((46656000000:Nat):Int):=by
 have hb:=Q2e (s:=s) V h6 hw
 have hc:D.change s w=-1∨D.change s w=0∨D.change s w=1:=by
  unfold NF.change
  split
  ·split
   ·exact .inl rfl
   ·split
    ·exact .inr (.inr rfl)
    ·exact .inr (.inl rfl)
  ·exact .inr (.inl rfl)
 unfold NF.fB
 rcases hc with h | h | h <;> rw [h] <;> omega
theorem Q03 {f:(Nat → Nat)→Int} {K:Nat} (hf:∀w,D.ok w→-(K:Int)≤f w∧f w≤K) {x:Nat}:∀w,D.ok w→-(K:Int)≤at' v x f w∧at' v x f w≤K:=fun w hw=>by
 unfold at'
 split
 ·exact hf w hw
 ·omega
theorem Qtx (V:VN D) {f:(Nat → Nat)→Int} (hf:∀w,D.ok w→-((46656000000:Nat):Int)≤f w∧f w≤((46656000000:Nat):Int)):SBd (SW D E f):=by
 have h:=Q1f (E:=E) hf D.n 0 (fun _=>0) (by omega) (ok0 V)
 have hp:=Q1b V
 have h2:PC D D.n 0*46656000000≤1024*46656000000:=Nat.mul_le_mul_right _ hp
 unfold SBd SB SW
 omega
def SmL (L:Int × Int × Int × Int):Prop:=SBd L.1∧SBd L.2.1∧SBd L.2.2.1∧SBd L.2.2.2
theorem Q4t (V:VN D) (h6:D.n≤6) (hs:s.N < D.n) (y:Nat):SmL (Vn D s E v y) :=
 ⟨Qtx V (Q03 fun w hw=>Q0d V h6 hs hw),Qtx V (Q03 fun w hw=>Q0w V h6 hw),Qtx V fun w hw=>Q0d V h6 hs hw,Qtx V fun w hw=>Q0w V h6 hw⟩
theorem Qpt {a t:Int} (ha:SBd a) (ht:-1000≤t∧t≤1000):-(47775744000000000:Int)≤a*t∧a*t≤47775744000000000:=by
 unfold SBd SB at ha
 have h1:a.natAbs≤47775744000000:=by omega
 have h2:t.natAbs≤1000:=by omega
 have h3:(a*t).natAbs≤47775744000000*1000:=by rw [Int.natAbs_mul]; exact Nat.mul_le_mul h1 h2
 omega
def Sml (t:Tapi_Q):Prop:=-1000≤t.N∧t.N≤1000∧t.D≤1000
instance instSml (t:Tapi_Q):Decidable (Sml t):=by unfold Sml; infer_instance
theorem Q29 (t:Tapi_Q):Yi t=some (if Rt t then (if Sml t then 0 else 2) else 5):=by
 unfold Yi
 rw [Q2a]
 simp only [Option.bind_some]
 by_cases h:Rt t
 ·rw [if_pos h,if_pos h,if_neg (by simp)]
  by_cases h1:t.N < -1000
  ·rw [if_pos (by simpa using h1),if_neg (fun h=>by have:=h.1; omega)]
  rw [if_neg (by simpa using h1)]
  by_cases h2:t.N > 1000
  ·rw [if_pos (by simpa using h2),if_neg (fun h=>by have:=h.2.1; omega)]
  rw [if_neg (by simpa using h2)]
  by_cases h3:t.D > 1000
  ·rw [if_pos (by simpa using h3),if_neg (fun h=>by have:=h.2.2; omega)]
  rw [if_neg (by simpa using h3),if_pos ⟨by omega,by omega,by omega⟩]
 ·rw [if_neg h,if_neg h,if_pos (by simp)]
def atF (L:Int × Int × Int × Int) (t:Tapi_Q):Tapi_Q × Int :=
 if L.2.2.1*t.D+L.2.2.2*t.N=0 then (⟨0,0⟩,7) else (qI (L.1*t.D+L.2.1*t.N) (L.2.2.1*t.D+L.2.2.2*t.N),0)
theorem Qvo {L:Int × Int × Int × Int} (hL:SmL L) {t:Tapi_Q} (ht:Rt t) (hs:Sml t) :
  zw (zw (L.1*t.D)+zw (L.2.1*t.N))=L.1*t.D+L.2.1*t.N∧zw (zw (L.2.2.1*t.D)+zw (L.2.2.2*t.N))=L.2.2.1*t.D+L.2.2.2*t.N ∧
   (L.1*t.D+L.2.1*t.N).natAbs≤MX∧(L.2.2.1*t.D+L.2.2.2*t.N).natAbs≤MX:=by
 obtain ⟨h1,h2,h3,h4⟩:=hL
 have hD:=ht.1
 obtain ⟨s1,s2,s3⟩:=hs
 have hMX:MX=4611686018427387903:=rfl
 have b1:=Qpt h1 (t:=t.D) (by omega)
 have b2:=Qpt h2 (t:=t.N) (by omega)
 have b3:=Qpt h3 (t:=t.D) (by omega)
 have b4:=Qpt h4 (t:=t.N) (by omega)
 rw [w64 (n:=L.1*t.D) (by omega),w64 (n:=L.2.1*t.N) (by omega),w64 (n:=L.2.2.1*t.D) (by omega),w64 (n:=L.2.2.2*t.N) (by omega),w64 (by omega),w64 (by omega)]
 exact ⟨rfl,rfl,by omega,by omega⟩
def Qo1 (aT aF:Nat) (t:Tapi_Q):Prop:=-(aT:Int)*t.D≤t.N∧t.N≤(aF:Int)*t.D
instance instInRg (aT aF:Nat) (t:Tapi_Q):Decidable (Qo1 aT aF t):=by unfold Qo1; infer_instance
theorem Qxr (V:VN D) (hs:s.N < D.n) (hR:s.R < D.rows s.N) (hF:s.F < D.card s.N) (hT:s.T < D.card s.N):Vl D.net s.sh=some (-(D.W s.N s.R s.T:Int),(D.W s.N s.R s.F:Int)):=by
 have hWT:=V.W s.N s.R s.T hs hR hT
 have hg:=V.g60
 unfold Vl
 rw [show s.sh.Node=(s.N:Int) from rfl,V.node hs]
 simp only [Option.bind_some]
 rw [show s.sh.Row=(s.R:Int) from rfl,show lkI (D.node s.N).Rows (s.R:Int)=some (Qc (D.card s.N) fun x=>(D.W s.N s.R x:Int)) from Qv hR]
 simp only [Option.bind_some]
 rw [show s.sh.To=(s.T:Int) from rfl,Qv hT]
 simp only [Option.bind_some]
 rw [show s.sh.From=(s.F:Int) from rfl,Qv hF]
 simp only [Option.bind_some]
 rw [w64 (by omega)]
 congr 2
 omega
theorem Q5z (V:VN D) (h6:D.n≤6) (hs:s.N < D.n) (hR:s.R < D.rows s.N) (hF:s.F < D.card s.N) (hT:s.T < D.card s.N) {e:List Int} {v x:Nat} {L:Int × Int × Int × Int} (hl:Qz D.net e (v:Int) (x:Int) s.sh=some (L,0)) (hL:SmL L) (t:Tapi_Q) :
  Xb D.net e (v:Int) (x:Int) s.sh t=some (if Rt t then (if Sml t then (if Qo1 (D.W s.N s.R s.T) (D.W s.N s.R s.F) t then atF L t else (⟨0,0⟩,2)) else (⟨0,0⟩,2)) else (⟨0,0⟩,5)):=by
 have hWT:=V.W s.N s.R s.T hs hR hT
 have hWF:=V.W s.N s.R s.F hs hR hF
 have hg:=V.g60
 unfold Xb
 rw [hl]
 simp only [Option.bind_some]
 rw [if_neg (by simp),Q29]
 simp only [Option.bind_some]
 by_cases h1:Rt t
 ·rw [if_pos h1,if_pos h1]
  by_cases h2:Sml t
  ·rw [if_pos h2,if_pos h2,if_neg (by simp),Qxr V hs hR hF hT]
   simp only [Option.bind_some]
   have hD:=h1.1
   have h2':=h2.2.2
   have m1:∀z:Nat,z≤60→0≤(z:Int)*t.D∧(z:Int)*t.D≤60000:=fun z hz=>by
    have a1:(z:Int)*t.D≤(60:Int)*1000:=Int.mul_le_mul (by omega) h2' (by omega) (by omega)
    have a2:0≤(z:Int)*t.D:=Int.mul_nonneg (by omega) (by omega)
    omega
   have m2:=m1 (D.W s.N s.R s.T) (by omega)
   have m3:=m1 (D.W s.N s.R s.F) (by omega)
   have m4:-(D.W s.N s.R s.T:Int)*t.D=-((D.W s.N s.R s.T:Int)*t.D):=Int.neg_mul _ _
   rw [w64 (n:=-(D.W s.N s.R s.T:Int)*t.D) (by omega),w64 (n:=(D.W s.N s.R s.F:Int)*t.D) (by omega)]
   by_cases h3:t.N < -(D.W s.N s.R s.T:Int)*t.D
   ·rw [if_pos (by simpa using h3),if_neg (fun h=>by have:=h.1; omega)]
   rw [if_neg (by simpa using h3)]
   by_cases h4:t.N > (D.W s.N s.R s.F:Int)*t.D
   ·rw [if_pos (by simpa using h4),if_neg (fun h=>by have:=h.2; omega)]
   obtain ⟨w1,w2,w3,w4⟩:=Qvo hL h1 h2
   rw [if_neg (by simpa using h4),if_pos (show Qo1 (D.W s.N s.R s.T) (D.W s.N s.R s.F) t from ⟨by omega,by omega⟩),w1,w2]
   unfold atF
   by_cases h5:L.2.2.1*t.D+L.2.2.2*t.N=0
   ·rw [if_pos (by simpa using h5),if_pos h5]
   ·rw [if_neg (by simpa using h5),if_neg h5,Q4p w3 w4 h5]
    rfl
  ·rw [if_neg h2,if_neg h2,if_pos (by simp)]
 ·rw [if_neg h1,if_neg h1,if_pos (by simp)]
def Q64 (L:Int × Int × Int × Int) (aT aF:Nat) (t:Tapi_Q):Prop:=¬ (L.2.2.1=0∧L.2.2.2=0)∧(t.D=1∧(t.N=-(aT:Int)∨t.N=(aF:Int))→0 < L.2.2.1+L.2.2.2*t.N)
instance instposF (L:Int × Int × Int × Int) (aT aF:Nat) (t:Tapi_Q):Decidable (Q64 L aT aF t):=by unfold Q64; infer_instance
end
end Go.Ab
namespace Go.Ab
open Go
set_option maxRecDepth 100000
set_option maxHeartbeats 400000
theorem Qnd {α:Type} (l:List α) (d:α):l=Qc l.length fun k=>l.getD k d:=by
 apply List.ext_getElem?
 intro i
 unfold Qc
 rw [List.getElem?_map]
 by_cases c:i < l.length
 ·rw [List.getElem?_range c,List.getElem?_eq_getElem c]; simp [List.getD,c]
 ·rw [List.getElem?_eq_none (by omega),List.getElem?_eq_none (by simp; omega)]; rfl
theorem Qxv {n:Nat} {f:Nat → Int}:(Qc n f).sum=Ql n f:=by
 induction n with
 | zero=>rfl
 | succ n ih=>rw [←Qdn,List.sum_append,ih]; simp [Ql]
theorem Qxc {k:Nat} {f:Nat → Int}:∀{n:Nat},(∀j,j < n→0≤f j)→k < n→f k≤Ql n f
 | n+1,h,hk=>by
  have h0:=Vo (n:=n) (f:=f) fun j hj=>h j (by omega)
  have hn:=h n (by omega)
  simp only [Ql]
  by_cases e:k=n
  ·subst e; omega
  ·have:=Qxc (n:=n) (k:=k) (f:=f) (fun j hj=>h j (by omega)) (by omega); omega
theorem Qxu {D:NF} (X:VX D):Qky D.n D.g D.node:=by
 have V:=X.vn
 have hc:∀v,v < D.n→Ky (D.node v):=fun v hv=>by
  have:=V.card v hv
  exact ⟨by show (1:Int)≤(D.card v:Int); omega,by show (D.card v:Int)≤4; omega⟩
 have ec:cardN D.node=D.card:=funext fun v=>by unfold cardN NF.node; simp
 have ep:parN D.node=D.par:=funext fun v=>by
  unfold parN NF.node
  rw [List.map_map]
  conv=>rhs; rw [←List.map_id (D.par v)]
  exact List.map_congr_left fun x _=>by simp
 refine ⟨by have:=V.g1; omega,by have:=V.g60; omega,V.n1,V.n8,hc,by rw [ec]; exact V.worlds,fun v hv=>⟨⟨⟨D.par v,rfl,X.sorted v hv,V.par v hv⟩,fun hm=>?_⟩,?_,fun r hr=>?_⟩,by rw [ep]; obtain ⟨rk,h⟩:=X.rank; exact ⟨rk,h⟩⟩
 ·have hm:(v:Int)∈nI (D.par v):=hm
  unfold nI at hm
  obtain ⟨p,hp,e⟩:=List.mem_map.1 hm
  have:p=v:=by omega
  subst this
  exact X.self p hv hp
 ·rw [ec,ep]; show (Qc (D.rows v) _).length=_; rw [Qs]; rfl
 ·have hr:r∈Qc (D.rows v) fun r=>Qc (D.card v) fun x=>(D.W v r x:Int):=hr
  unfold Qc at hr
  obtain ⟨i,hi,rfl⟩:=List.mem_map.1 hr
  have hi:=List.mem_range.1 hi
  have e:=X.sum v i hv hi
  have h1:((List.range (D.card v)).map fun x=>(D.W v i x:Int))=Qc (D.card v) fun x=>(D.W v i x:Int):=rfl
  rw [h1]
  refine ⟨by rw [Qs]; rfl,fun w hw=>?_,by rw [Qxv]; exact e⟩
  unfold Qc at hw
  obtain ⟨x,_,rfl⟩:=List.mem_map.1 hw
  omega
theorem Q5p {n:Nat} {g:Int} {F:Nat → Tapi_Node} (hf:Qky n g F):∃D:NF,D.n=n∧VX D∧D.net=⟨g,Qc n F⟩:=by
 let D:NF:=⟨n,g.toNat,cardN F,parN F,fun v r x=>(((F v).Rows.getD r []).getD x 0).toNat⟩
 have hg:=hf.g1
 have hg60:=hf.g60
 have hrow:∀v r,v < n→r < D.rows v→∃hr:r < (F v).Rows.length,Qgg g (F v).Card (F v).Rows[r]∧(F v).Rows.getD r []=(F v).Rows[r]:=fun v r hv hr=>by
  obtain ⟨_,h1,h2⟩:=hf.node v hv
  have h1:(F v).Rows.length=D.rows v:=h1
  have hr':r < (F v).Rows.length:=by omega
  exact ⟨hr',h2 _ (List.getElem_mem hr'),by simp [List.getD,hr']⟩
 have hcell:∀v r x,v < n→r < D.rows v→x < D.card v→∃hr:r < (F v).Rows.length,∃hx:x < (F v).Rows[r].length,(D.W v r x:Int)=(F v).Rows[r][x]:=fun v r x hv hr hx=>by
  obtain ⟨hr',⟨e1,e2,_⟩,e3⟩:=hrow v r hv hr
  have hc:=Qet (hf.card v hv)
  have hx:x < cardN F v:=hx
  have hx':x < (F v).Rows[r].length:=by omega
  refine ⟨hr',hx',?_⟩
  show ((((F v).Rows.getD r []).getD x 0).toNat : Int)=_
  rw [e3]
  have e4:(F v).Rows[r].getD x 0=(F v).Rows[r][x]:=by simp [List.getD,hx']
  rw [e4]
  have:=e2 _ (List.getElem_mem hx')
  omega
 have hrw:∀v r,v < n→(hr:r < D.rows v)→∃hr':r < (F v).Rows.length,(F v).Rows[r]=Qc (D.card v) fun x=>(D.W v r x:Int):=fun v r hv hr=>by
  obtain ⟨hr',⟨e1,_,_⟩,_⟩:=hrow v r hv hr
  refine ⟨hr',?_⟩
  have hc:=Qet (hf.card v hv)
  have el:(F v).Rows[r].length=D.card v:=by show _=cardN F v; omega
  rw [Qnd (F v).Rows[r] 0,el]
  refine Qu fun x hx=>?_
  obtain ⟨_,hx',e⟩:=hcell v r x hv hr hx
  rw [e]; simp [List.getD,hx']
 have hnode:∀v,v < n→D.node v=F v:=fun v hv=>by
  obtain ⟨p1,p2,p3⟩:=V5 (hf.node v hv).1.1
  have hc:=Qet (hf.card v hv)
  obtain ⟨_,h1,_⟩:=hf.node v hv
  have h1:(F v).Rows.length=D.rows v:=h1
  have e1:((D.card v:Nat):Int)=(F v).Card:=hc
  have e2:(D.par v).map (fun (p:Nat)=>(p:Int))=(F v).Parents:=p1.symm
  have e3:(Qc (D.rows v) fun r=>Qc (D.card v) fun x=>(D.W v r x:Int))=(F v).Rows:=by
   conv=>rhs; rw [Qnd (F v).Rows []]
   rw [h1]
   refine Qu fun r hr=>?_
   obtain ⟨hr',e⟩:=hrw v r hv hr
   rw [←e]; simp [List.getD,hr']
  show (⟨((D.card v:Nat):Int),(D.par v).map (fun (p:Nat)=>(p:Int)),Qc (D.rows v) fun r=>Qc (D.card v) fun x=>(D.W v r x:Int)⟩:Tapi_Node)=⟨(F v).Card,(F v).Parents,(F v).Rows⟩
  rw [e1,e2,e3]
 have hsum:∀v r,v < n→r < D.rows v→Ql (D.card v) (fun x=>(D.W v r x:Int))=(D.g:Int):=fun v r hv hr=>by
  obtain ⟨hr',e⟩:=hrw v r hv hr
  obtain ⟨_,⟨_,_,e3⟩,_⟩:=hrow v r hv hr
  rw [e,Qxv] at e3
  rw [e3]; show g=(g.toNat : Int); omega
 have hD:(D.g:Int)=g:=by show (g.toNat : Int)=g; omega
 refine ⟨D,rfl,⟨⟨hf.n1,hf.n8,by omega,by omega,fun v hv=>?_,fun v hv=>(V5 (hf.node v hv).1.1).2.2,fun v hv=>?_,fun v r x hv hr hx=>?_,hf.worlds⟩,fun v hv=>(V5 (hf.node v hv).1.1).2.1,fun v hv hm=>?_,hf.rank,hsum⟩,?_⟩
 ·exact K8 (hf.card v hv)
 ·obtain ⟨_,p2,p3⟩:=V5 (hf.node v hv).1.1
  have:=Qdr p2 p3
  have:=hf.n8
  show (parN F v).length≤8; omega
 ·have h1:=hsum v r hv hr
  have h2:=Qxc (k:=x) (f:=fun x=>(D.W v r x:Int)) (n:=D.card v) (fun k _=>by omega) hx
  omega
 ·have hm:v∈parN F v:=hm
  obtain ⟨p1,_,_⟩:=V5 (hf.node v hv).1.1
  exact (hf.node v hv).1.2 (by rw [p1]; unfold nI; exact List.mem_map.2 ⟨v,hm,rfl⟩)
 ·show (⟨(D.g:Int),Qc n D.node⟩:Qb)=_
  rw [hD,Qu hnode]
section
variable {D:NF}
def evJ (D:NF) (e:List Int) (j:Nat):Prop:=-1≤(e[j]?).getD 0∧(e[j]?).getD 0 < D.card j
def evL (D:NF) (e:List Int):Prop:=e.length=D.n∧∀j,j < D.n→evJ D e j
theorem Q5f {e:List Int} (h:evL D e):∃E,e=Qc D.n E∧Ql8 D E:=by
 refine ⟨fun k=>e.getD k 0,?_,fun j hj=>?_⟩
 ·have:=Qnd e 0
  rw [h.1] at this; exact this
 ·have:=h.2 j hj
  unfold evJ at this
  show -1≤e.getD j 0∧e.getD j 0 < D.card j
  rw [List.getD_eq_getElem?_getD]; exact this
theorem Qtn {e:List Int} {j:Nat} (hj:j < e.length):lkI e (j:Int)=some ((e[j]?).getD 0):=by rw [Qn hj,List.getElem?_eq_getElem hj]; rfl
theorem Q5v (X:VX D) (e:List Int):(evL D e∧Z2 D.net e=some 0)∨(¬ evL D e∧Z2 D.net e=some 2):=by
 have V:=X.vn
 have hn:=V.n8
 have hlen:D.net.Nodes.length=D.n:=Qs
 obtain ⟨order,hr⟩:=Qrr X
 unfold Z2
 rw [hr,Option.bind_some,if_neg (by simp)]
 dsimp only
 rw [hlen]
 by_cases c:e.length=D.n
 ·rw [if_neg (by simp; omega)]
  have h:=Ye (n:=D.n) (by omega) (evJ D e) (fun i (_:Unit)=>i) (body:=Zj e (⟨D.net,Qm D.n D.card,Qm D.n (setN D),order⟩,0)) (fun _=>()) (.inr ()) (.inl ())
   (fun j hj hI hg=>by
    obtain ⟨g1,g2⟩:=hg
    unfold Zj
    dsimp only
    rw [c,if_pos (dlt hj),Qtn (by omega),Option.bind_some,if_neg (by simp; exact g1),Zo hj,Option.bind_some,if_neg (by simp; exact g2)])
   (fun j hj hI hg=>by
    unfold Zj
    dsimp only
    rw [c,if_pos (dlt hj),Qtn (by omega),Option.bind_some]
    by_cases c1:(e[j]?).getD 0 < -1
    ·rw [if_pos (by simpa using c1)]
    ·rw [if_neg (by simpa using c1),Zo hj,Option.bind_some,if_pos (by
      rw [decide_eq_true_eq]
      exact Int.not_lt.1 fun hh=>hg ⟨by omega,hh⟩)])
   (fun hI=>by unfold Zj; dsimp only; rw [c,if_neg (nlt _)])
  rcases h with ⟨h,e1⟩ | ⟨h,e1⟩
  ·left; refine ⟨⟨c,h⟩,?_⟩
   have e1:Qd fuel (Zj e (⟨D.net,Qm D.n D.card,Qm D.n (setN D),order⟩,0)) 0=some (.inr ()):=e1
   rw [e1]; rfl
  ·right; refine ⟨fun hh=>h hh.2,?_⟩
   have e1:Qd fuel (Zj e (⟨D.net,Qm D.n D.card,Qm D.n (setN D),order⟩,0)) 0=some (.inl ()):=e1
   rw [e1]; rfl
 ·rw [if_pos (by simp; omega)]
  exact .inr ⟨fun hh=>c hh.1,rfl⟩
theorem Q6t (V:VN D) (e:List Int):(evL D e∧Jp D.net e=some true)∨(¬ evL D e∧Jp D.net e=some false):=by
 have hn:=V.n8
 have hlen:D.net.Nodes.length=D.n:=Qs
 unfold Jp
 rw [hlen]
 by_cases c:e.length=D.n
 ·rw [if_neg (by simp; omega)]
  have h:=Ye (n:=D.n) (by omega) (evJ D e) (fun i (_:Unit)=>i) (body:=Xk e D.net) (fun _=>()) (.inr ()) (.inl ())
   (fun j hj hI hg=>by
    obtain ⟨g1,g2⟩:=hg
    unfold Xk
    rw [c,if_pos (dlt hj),Qtn (by omega),Option.bind_some,if_neg (by simp; exact g1),V.node hj,Option.bind_some,if_neg (by
     rw [decide_eq_true_eq]; show ¬ (_≥(D.card j:Int)); omega)])
   (fun j hj hI hg=>by
    unfold Xk
    rw [c,if_pos (dlt hj),Qtn (by omega),Option.bind_some]
    by_cases c1:(e[j]?).getD 0 < -1
    ·rw [if_pos (by simpa using c1)]
    ·rw [if_neg (by simpa using c1),V.node hj,Option.bind_some,if_pos (by
      rw [decide_eq_true_eq]
      show _≥(D.card j:Int)
      exact Int.not_lt.1 fun hh=>hg ⟨by omega,hh⟩)])
   (fun hI=>by unfold Xk; rw [c,if_neg (nlt _)])
  rcases h with ⟨h,e1⟩ | ⟨h,e1⟩
  ·left; refine ⟨⟨c,h⟩,?_⟩
   have e1:Qd fuel (Xk e D.net) 0=some (.inr ()):=e1
   rw [e1]; rfl
  ·right; refine ⟨fun hh=>h hh.2,?_⟩
   have e1:Qd fuel (Xk e D.net) 0=some (.inl ()):=e1
   rw [e1]; rfl
 ·rw [if_pos (by simp; omega)]
  exact .inr ⟨fun hh=>c hh.1,rfl⟩
structure Qt8 (D:NF) (s:SF):Prop where
 N:s.N < D.n
 R:s.R < D.rows s.N
 F:s.F < D.card s.N
 T:s.T < D.card s.N
 FT:s.F≠s.T
def shL (D:NF) (s:Tapi_Shift):Prop:=∃s':SF,s=s'.sh∧Qt8 D s'
def chkS (p0:Qb) (p3:Tapi_Shift):Option Int :=
 if (decide (p3.Node < 0))=true then some 2 else
 if (decide (p3.Node≥(p0.Nodes.length:Int)))=true then some 2 else
 (lkI p0.Nodes p3.Node).bind fun a31 =>
 if (decide (p3.Row < 0))=true then some 2 else
 if (decide (p3.Row≥(a31.Rows.length:Int)))=true then some 2 else
 if (decide (p3.From < 0))=true then some 2 else
 if (decide (p3.From≥a31.Card))=true then some 2 else
 if (decide (p3.To < 0))=true then some 2 else
 if (decide (p3.To≥a31.Card))=true then some 2 else
 if (p3.From==p3.To)=true then some 2 else some 0
theorem Qxa (V:VN D) (s:Tapi_Shift):(shL D s∧chkS D.net s=some 0∧Zl D.net s=some true)∨(¬ shL D s∧chkS D.net s=some 2∧Zl D.net s=some false):=by
 have hlen:D.net.Nodes.length=D.n:=Qs
 by_cases c1:s.Node < 0
 ·exact .inr ⟨fun ⟨s',e,h⟩=>by rw [e] at c1; have:(s'.N:Int) < 0:=c1; omega,by unfold chkS; rw [hlen,if_pos (by simpa using c1)],by unfold Zl; rw [hlen,if_pos (by simpa using c1)]⟩
 by_cases c2:s.Node≥(D.n:Int)
 ·exact .inr ⟨fun ⟨s',e,h⟩=>by rw [e] at c2; have:(s'.N:Int)≥D.n:=c2; have:=h.N; omega,by unfold chkS; rw [hlen,if_neg (by simpa using c1),if_pos (by simpa using c2)],by unfold Zl; rw [hlen,if_neg (by simpa using c1),if_pos (by simpa using c2)]⟩
 obtain ⟨N,hN⟩:∃N:Nat,s.Node=(N:Int):=⟨s.Node.toNat,by omega⟩
 have hNl:N < D.n:=by omega
 have en:lkI D.net.Nodes s.Node=some (D.node N):=by rw [hN]; exact V.node hNl
 have er:((D.node N).Rows.length:Int)=D.rows N:=by show ((Qc (D.rows N) _).length:Int)=_; rw [Qs]
 have ec:(D.node N).Card=(D.card N:Int):=rfl
 have bad:∀s':SF,s=s'.sh→s'.N=N:=fun s' e=>by
  have:s.Node=(s'.N:Int):=by rw [e]; rfl
  omega
 by_cases c3:s.Row < 0
 ·exact .inr ⟨fun ⟨s',e,h⟩=>by rw [e] at c3; have:(s'.R:Int) < 0:=c3; omega,by unfold chkS; rw [hlen,if_neg (by simpa using c1),if_neg (by simpa using c2),en,Option.bind_some,er,ec,if_pos (by simpa using c3)],by unfold Zl; rw [hlen,if_neg (by simpa using c1),if_neg (by simpa using c2),if_pos (by simpa using c3)]⟩
 by_cases c4:s.Row≥(D.rows N:Int)
 ·exact .inr ⟨fun ⟨s',e,h⟩=>by
   have hb:=bad s' e
   have h2:=h.R
   rw [hb] at h2
   rw [e] at c4
   have:(s'.R:Int)≥D.rows N:=c4; omega,by unfold chkS; rw [hlen,if_neg (by simpa using c1),if_neg (by simpa using c2),en,Option.bind_some,er,ec,if_neg (by simpa using c3),if_pos (by simpa using c4)],by unfold Zl; rw [hlen,if_neg (by simpa using c1),if_neg (by simpa using c2),if_neg (by simpa using c3),en,Option.bind_some,er,ec,if_pos (by simpa using c4)]⟩
 by_cases c5:s.From < 0
 ·exact .inr ⟨fun ⟨s',e,h⟩=>by rw [e] at c5; have:(s'.F:Int) < 0:=c5; omega,by unfold chkS; rw [hlen,if_neg (by simpa using c1),if_neg (by simpa using c2),en,Option.bind_some,er,ec,if_neg (by simpa using c3),if_neg (by simpa using c4),if_pos (by simpa using c5)],by unfold Zl; rw [hlen,if_neg (by simpa using c1),if_neg (by simpa using c2),if_neg (by simpa using c3),en,Option.bind_some,er,ec,if_neg (by simpa using c4),if_neg (by simp; omega)]⟩
 by_cases c6:s.From≥(D.card N:Int)
 ·exact .inr ⟨fun ⟨s',e,h⟩=>by
   have hb:=bad s' e
   have h2:=h.F
   rw [hb] at h2
   rw [e] at c6
   have:(s'.F:Int)≥D.card N:=c6; omega,by unfold chkS; rw [hlen,if_neg (by simpa using c1),if_neg (by simpa using c2),en,Option.bind_some,er,ec,if_neg (by simpa using c3),if_neg (by simpa using c4),if_neg (by simpa using c5),if_pos (by simpa using c6)],by unfold Zl; rw [hlen,if_neg (by simpa using c1),if_neg (by simpa using c2),if_neg (by simpa using c3),en,Option.bind_some,er,ec,if_neg (by simpa using c4),if_pos (by simp; omega),if_neg (by simp; omega)]⟩
 by_cases c7:s.To < 0
 ·exact .inr ⟨fun ⟨s',e,h⟩=>by rw [e] at c7; have:(s'.T:Int) < 0:=c7; omega,by unfold chkS; rw [hlen,if_neg (by simpa using c1),if_neg (by simpa using c2),en,Option.bind_some,er,ec,if_neg (by simpa using c3),if_neg (by simpa using c4),if_neg (by simpa using c5),if_neg (by simpa using c6),if_pos (by simpa using c7)],by unfold Zl; rw [hlen,if_neg (by simpa using c1),if_neg (by simpa using c2),if_neg (by simpa using c3),en,Option.bind_some,er,ec,if_neg (by simpa using c4),if_pos (by simp; omega),if_pos (by simp; omega),if_neg (by simp; omega)]⟩
 by_cases c8:s.To≥(D.card N:Int)
 ·exact .inr ⟨fun ⟨s',e,h⟩=>by
   have hb:=bad s' e
   have h2:=h.T
   rw [hb] at h2
   rw [e] at c8
   have:(s'.T:Int)≥D.card N:=c8; omega,by unfold chkS; rw [hlen,if_neg (by simpa using c1),if_neg (by simpa using c2),en,Option.bind_some,er,ec,if_neg (by simpa using c3),if_neg (by simpa using c4),if_neg (by simpa using c5),if_neg (by simpa using c6),if_neg (by simpa using c7),if_pos (by simpa using c8)],by unfold Zl; rw [hlen,if_neg (by simpa using c1),if_neg (by simpa using c2),if_neg (by simpa using c3),en,Option.bind_some,er,ec,if_neg (by simpa using c4),if_pos (by simp; omega),if_pos (by simp; omega),if_pos (by simp; omega),if_neg (by simp; omega)]⟩
 by_cases c9:s.From=s.To
 ·exact .inr ⟨fun ⟨s',e,h⟩=>by
   rw [e] at c9
   have:(s'.F:Int)=s'.T:=c9
   exact h.FT (by omega),by unfold chkS; rw [hlen,if_neg (by simpa using c1),if_neg (by simpa using c2),en,Option.bind_some,er,ec,if_neg (by simpa using c3),if_neg (by simpa using c4),if_neg (by simpa using c5),if_neg (by simpa using c6),if_neg (by simpa using c7),if_neg (by simpa using c8),if_pos (by simpa using c9)],by unfold Zl; rw [hlen,if_neg (by simpa using c1),if_neg (by simpa using c2),if_neg (by simpa using c3),en,Option.bind_some,er,ec,if_neg (by simpa using c4),if_pos (by simp; omega),if_pos (by simp; omega),if_pos (by simp; omega),if_pos (by simp; omega)]; simp [c9]⟩
 ·refine .inl ⟨⟨⟨N,s.Row.toNat,s.From.toNat,s.To.toNat⟩,?_,hNl,by show s.Row.toNat < D.rows N; omega,by show s.From.toNat < D.card N; omega,by show s.To.toNat < D.card N; omega,by show s.From.toNat ≠ s.To.toNat; omega⟩,by unfold chkS; rw [hlen,if_neg (by simpa using c1),if_neg (by simpa using c2),en,Option.bind_some,er,ec,if_neg (by simpa using c3),if_neg (by simpa using c4),if_neg (by simpa using c5),if_neg (by simpa using c6),if_neg (by simpa using c7),if_neg (by simpa using c8),if_neg (by simpa using c9)],by unfold Zl; rw [hlen,if_neg (by simpa using c1),if_neg (by simpa using c2),if_neg (by simpa using c3),en,Option.bind_some,er,ec,if_neg (by simpa using c4),if_pos (by simp; omega),if_pos (by simp; omega),if_pos (by simp; omega),if_pos (by simp; omega)]; simp [c9]⟩
  show s=⟨(N:Int),(s.Row.toNat : Int),(s.From.toNat : Int),(s.To.toNat : Int)⟩
  rw [←hN,Int.toNat_of_nonneg (by omega),Int.toNat_of_nonneg (by omega),Int.toNat_of_nonneg (by omega)]
theorem Qx4 (X:VX D) {e:List Int} {v:Int} {s:Tapi_Shift} {l:List Int}:Zh D.net e v s l=(Z2 D.net e).bind fun x5=>if (x5 != 0)=true then some x5 else if (decide (v < 0))=true then some 2 else if (decide (v≥(D.n:Int)))=true then some 2 else
  (Qd fuel (Zi l D.net v) 0).bind fun x24=>match x24 with | .inl _=>some 2 | .inr _=>chkS D.net s:=by
 have hlen:D.net.Nodes.length=D.n:=Qs
 obtain ⟨order,hr⟩:=Qrr X
 unfold Zh Qcq chkS
 rw [hr,hlen]
 rfl
theorem Q6c (V:VN D) {v:Nat} (hv:v < D.n) (x:Int):((0≤x∧x < D.card v)∧Qd fuel (Zi [x] D.net (v:Int)) 0=some (.inr ()))∨(¬ (0≤x∧x < D.card v)∧Qd fuel (Zi [x] D.net (v:Int)) 0=some (.inl ())):=by
 have h:=Ye (n:=1) (by omega) (fun _=>0≤x∧x < D.card v) (fun i (_:Unit)=>i) (body:=Zi [x] D.net (v:Int)) (fun _=>()) (.inr ()) (.inl ())
  (fun k hk _ hg=>by
   obtain rfl:k=0:=by omega
   unfold Zi
   rw [if_pos (by simp),show lkI [x] ((0:Nat):Int)=some x from rfl,Option.bind_some,if_neg (by simp; omega),V.node hv,Option.bind_some,if_neg (by simp [NF.node]; omega)])
  (fun k hk _ hg=>by
   obtain rfl:k=0:=by omega
   unfold Zi
   rw [if_pos (by simp),show lkI [x] ((0:Nat):Int)=some x from rfl,Option.bind_some]
   by_cases c1:x < 0
   ·rw [if_pos (by simpa using c1)]
   ·rw [if_neg (by simpa using c1),V.node hv,Option.bind_some,if_pos (by simp [NF.node]; omega)])
  (fun _=>by unfold Zi; rw [if_neg (by simp)])
 rcases h with ⟨h,e⟩ | ⟨h,e⟩
 ·exact .inl ⟨h 0 (by omega),e⟩
 ·exact .inr ⟨fun hh=>h fun _ _=>hh,e⟩
structure Qq6 (D:NF) (E:Nat → Int) (v x:Nat) (s:SF):Prop where
 hE:Ql8 D E
 hv:v < D.n
 hx:x < D.card v
 hs:Qt8 D s
def Qwi (D:NF) (e:List Int) (v x:Int) (s:Tapi_Shift):Prop:=evL D e∧(0≤v∧v < D.n)∧(0≤x∧x < D.card v.toNat)∧shL D s
theorem Q5m {e:List Int} {v x:Int} {s:Tapi_Shift} (h:Qwi D e v x s):∃E v' x' s',e=Qc D.n E∧v=(v':Nat)∧x=(x':Nat)∧s=SF.sh s'∧Qq6 D E v' x' s':=by
 obtain ⟨h1,h2,h3,s',e3,hs⟩:=h
 obtain ⟨E,hE,hE2⟩:=Q5f h1
 exact ⟨E,v.toNat,x.toNat,s',hE,by omega,by omega,e3,hE2,by omega,by omega,hs⟩
theorem Q3j (X:VX D) (e:List Int) (v x:Int) (s:Tapi_Shift):(Qwi D e v x s∧Zh D.net e v s [x]=some 0)∨(¬ Qwi D e v x s∧Zh D.net e v s [x]=some 2):=by
 have V:=X.vn
 rw [Qx4 X]
 rcases Q5v X e with ⟨he,e1⟩ | ⟨he,e1⟩
 ·rw [e1,Option.bind_some,if_neg (by decide)]
  by_cases c1:v < 0
  ·rw [if_pos (by simpa using c1)]; exact .inr ⟨fun h=>by have:=h.2.1; omega,rfl⟩
  rw [if_neg (by simpa using c1)]
  by_cases c2:v≥(D.n:Int)
  ·rw [if_pos (by simpa using c2)]; exact .inr ⟨fun h=>by have:=h.2.1; omega,rfl⟩
  rw [if_neg (by simpa using c2)]
  obtain ⟨v',rfl⟩:∃N:Nat,v=(N:Int):=⟨v.toNat,by omega⟩
  rcases Q6c V (show v' < D.n by omega) x with ⟨c3,e3⟩ | ⟨c3,e3⟩
  ·rw [e3,Option.bind_some]
   dsimp only
   rcases Qxa V s with ⟨hs,e4,_⟩ | ⟨hs,e4,_⟩
   ·rw [e4]; exact .inl ⟨⟨he,by omega,c3,hs⟩,rfl⟩
   ·rw [e4]; exact .inr ⟨fun h=>hs h.2.2.2,rfl⟩
  ·rw [e3]; exact .inr ⟨fun h=>c3 h.2.2.1,rfl⟩
 ·rw [e1,Option.bind_some,if_pos (by decide)]; exact .inr ⟨fun h=>he h.1,rfl⟩
theorem Q2y (X:VX D):J0 D.net=some true:=by
 have V:=X.vn
 have hb:NB D.n D.node:=⟨fun v hv=>by
   have:=V.len v hv
   show (List.map _ (D.par v)).length≤_; rw [List.length_map]; omega,fun v hv=>by
   have:=V.rows_le hv
   show (Qc _ _).length≤_; rw [Qs]; omega,fun v hv r hr=>by
   have hr:r∈Qc (D.rows v) fun r=>Qc (D.card v) fun x=>(D.W v r x:Int):=hr
   unfold Qc at hr
   obtain ⟨i,_,rfl⟩:=List.mem_map.1 hr
   have:=(V.card v hv).2
   rw [List.length_map,List.length_range]; omega⟩
 rcases Qq1 (g:=D.g) hb with ⟨_,e⟩ | ⟨no,_⟩
 ·exact e
 ·exact absurd (Qxu X) no
theorem Q5w (X:VX D) (e:List Int) (v x:Int) (s:Tapi_Shift):(Qwi D e v x s∧Vh D.net e v x s=some 0)∨(¬ Qwi D e v x s∧Vh D.net e v x s=some 2):=by
 have V:=X.vn
 have hlen:D.net.Nodes.length=D.n:=Qs
 unfold Vh
 rw [Q2y X,Option.bind_some,if_neg (by decide),hlen]
 rcases Q6t V e with ⟨he,e1⟩ | ⟨he,e1⟩
 ·rw [e1,Option.bind_some,if_neg (by decide)]
  by_cases c1:v < 0
  ·rw [if_pos (by simpa using c1)]; exact .inr ⟨fun h=>by have:=h.2.1; omega,rfl⟩
  rw [if_neg (by simpa using c1)]
  by_cases c2:v≥(D.n:Int)
  ·rw [if_pos (by simpa using c2)]; exact .inr ⟨fun h=>by have:=h.2.1; omega,rfl⟩
  rw [if_neg (by simpa using c2)]
  obtain ⟨v',rfl⟩:∃N:Nat,v=(N:Int):=⟨v.toNat,by omega⟩
  by_cases c3:x < 0
  ·rw [if_pos (by simpa using c3)]; exact .inr ⟨fun h=>by have:=h.2.2.1; omega,rfl⟩
  rw [if_neg (by simpa using c3),V.node (by omega),Option.bind_some]
  by_cases c4:x≥(D.card v':Int)
  ·rw [if_pos (by simpa [NF.node] using c4)]; exact .inr ⟨fun h=>by have:=h.2.2.1; rw [Int.toNat_natCast] at this; omega,rfl⟩
  rw [if_neg (by simpa [NF.node] using c4)]
  rcases Qxa V s with ⟨hs,_,e4⟩ | ⟨hs,_,e4⟩
  ·rw [e4,Option.bind_some,if_neg (by decide)]; exact .inl ⟨⟨he,by omega,by rw [Int.toNat_natCast]; omega,hs⟩,rfl⟩
  ·rw [e4,Option.bind_some,if_pos (by decide)]; exact .inr ⟨fun h=>hs h.2.2.2,rfl⟩
 ·rw [e1,Option.bind_some,if_pos (by decide)]; exact .inr ⟨fun h=>he h.1,rfl⟩
end
end Go.Ab
namespace Go.Ab
open Go
set_option maxRecDepth 100000
set_option maxHeartbeats 400000
section
variable {D:NF} {E:Nat → Int} {v x:Nat} {s:SF}
theorem Q21 {a:Qb} {b:Tapi_Shift} {c:List Int}:Qh0 a b c=V4 a b c:=rfl
theorem Q0z (V:VN D) {w:Nat → Nat} (hw:D.ok w) (hs:s.N < D.n):Qd fuel (V4 D.net s.sh (Qm D.n w)) (1,0)=some (prodTo D.n (fun u=>if u=s.N then 1 else D.wt w u):Int):=by
 have hn:=V.n8
 have hlen:D.net.Nodes.length=D.n:=Qs
 have hb:∀k,k≤D.n→prodTo k (fun u=>if u=s.N then 1 else D.wt w u)≤167961600000000:=fun k hk=>by
  have h1:prodTo k (fun u=>if u=s.N then 1 else D.wt w u)≤60^k:=Vb fun u hu=>by
   split
   ·omega
   ·exact V.wt_le hw (by omega)
  have h2:(60:Nat)^k≤60^8:=Nat.pow_le_pow_right (by omega) (by omega)
  have h3:(60:Nat)^8=167961600000000:=by decide
  omega
 have hr:=J4 (n:=D.n) (k0:=0) (by omega) (by omega) (fun i (t:Int)=>(t,i)) (body:=V4 D.net s.sh (Qm D.n w)) (fun k=>(prodTo k (fun u=>if u=s.N then 1 else D.wt w u):Int)) (prodTo D.n (fun u=>if u=s.N then 1 else D.wt w u):Int)
  (fun k _ hk=>by
   unfold V4
   dsimp only
   rw [hlen,if_pos (dlt hk),show s.sh.Node=(s.N:Int) from rfl]
   by_cases c:k=s.N
   ·rw [if_neg (by simp; omega)]
    congr 3
    simp only [prodTo,c,if_true,Nat.mul_one]
   ·rw [if_pos (by simp; omega),Q0c V hw hk,Option.bind_some,Zo hk,Option.bind_some,Qv (hw k hk),Option.bind_some]
    have h1:=hb (k+1) (by omega)
    have e:(prodTo k (fun u=>if u=s.N then 1 else D.wt w u):Int)*(D.W k (D.idx k w) (w k):Int)=((prodTo (k+1) (fun u=>if u=s.N then 1 else D.wt w u):Nat):Int):=by
     simp only [prodTo,if_neg c]; rw [Int.natCast_mul]; rfl
    rw [e,w64 (n:=((prodTo (k+1) (fun u=>if u=s.N then 1 else D.wt w u):Nat):Int)) (by omega)])
  (by unfold V4; dsimp only; rw [hlen,if_neg (nlt _)])
 exact hr
theorem Q17 {w:Nat → Nat} (h:D.hit s w=true):D.rest s w D.n=prodTo D.n (fun u=>if u=s.N then 1 else D.wt w u):=Qa8 fun u _=>by
 by_cases c:u=s.N
 ·rw [if_pos ⟨c,h⟩,if_pos c]
 ·rw [if_neg fun hh=>c hh.1,if_neg c]
theorem Qzc (V:VN D) (A:Qq6 D E v x s) {k:Nat} (hk:k < prodTo D.n D.card) (hm:Yu D.n E 0 (dig D k)) (a b c d:Int) :
  V3 D.net (Qc D.n E) s.sh (v:Int) (x:Int) ((k:Int),a,b,c,d)=some (.next (zw ((k:Int)+1),(if dig D k v=x then zw (a+D.fA s (dig D k)) else a),(if dig D k v=x then zw (b+D.fB s (dig D k)) else b),zw (c+D.fA s (dig D k)),zw (d+D.fB s (dig D k)))):=by
 have hw:=Qut V k
 have hwo:=V.worlds
 have hW:k < 1125899906842624:=by omega
 have hE:∀j,j < D.n→-1≤E j:=fun j hj=>(A.hE j hj).1
 have hN:=A.hs.N
 have hpar:∀p∈D.par s.N,p < D.n:=V.par _ hN
 have hlen8:=V.len _ hN
 have hidx:∀p∈D.par s.N,D.card p≤4∧dig D k p < D.card p:=fun p hp=>⟨(V.card p (hpar p hp)).2,hw p (hpar p hp)⟩
 have hB:D.fB s (dig D k)=(D.rest s (dig D k) D.n:Int)*D.change s (dig D k):=rfl
 have hbd:=V.fB_bound (s:=s) hw
 unfold V3
 dsimp only
 rw [Qnl V,Option.bind_some,if_pos (by simpa using hk),Qmh V hW,Option.bind_some,Qvd V.n8 hE hm,Option.bind_some,if_neg (by decide),Qzw V hW,Option.bind_some]
 rw [show s.sh.Node=(s.N:Int) from rfl,show s.sh.Row=(s.R:Int) from rfl,show s.sh.From=(s.F:Int) from rfl,show s.sh.To=(s.T:Int) from rfl]
 rw [Qs3 V hN,Option.bind_some,V.node hN,Option.bind_some,show (D.node s.N).Parents=(D.par s.N).map (fun (p:Nat)=>(p:Int)) from rfl,Qp8 hpar hlen8,Option.bind_some,Qv3 hidx hlen8,Option.bind_some]
 rw [←V.fA_eq (s:=s) (w:=dig D k) hN]
 rw [show horner D.card (dig D k) (D.par s.N)=D.idx s.N (dig D k) from rfl]
 rw [Zo hN,Zo A.hv]
 simp only [Option.bind_some]
 have hq:((dig D k v:Int)==(x:Int))=decide (dig D k v=x):=by rw [Bool.eq_iff_iff]; simp; omega
 rw [hq,Q21,Q0z V hw hN]
 simp only [Option.bind_some]
 by_cases c1:D.idx s.N (dig D k)=s.R
 ·have hh:D.hit s (dig D k)=true:=by unfold NF.hit; simp [c1]
  rw [if_pos (by simp; omega)]
  have hr:=Q17 (s:=s) hh
  by_cases c2:dig D k s.N=s.F
  ·have e:D.fB s (dig D k)=-(prodTo D.n (fun u=>if u=s.N then 1 else D.wt (dig D k) u):Int):=by
    rw [hB,hr]; unfold NF.change; rw [if_pos hh,if_pos c2]; omega
   rw [if_pos (by simp; omega)]
   have e2:zw (0 - (prodTo D.n (fun u=>if u=s.N then 1 else D.wt (dig D k) u):Int))=D.fB s (dig D k):=by rw [e,w64 (by omega)]; omega
   rw [e2]
   by_cases c3:dig D k v=x
   ·rw [if_pos (by simpa using c3),if_pos c3,if_pos c3]
   ·rw [if_neg (by simpa using c3),if_neg c3,if_neg c3]
  ·rw [if_neg (by simp; omega)]
   by_cases c4:dig D k s.N=s.T
   ·have e:D.fB s (dig D k)=(prodTo D.n (fun u=>if u=s.N then 1 else D.wt (dig D k) u):Int):=by
     rw [hB,hr]; unfold NF.change; rw [if_pos hh,if_neg c2,if_pos c4]; omega
    rw [if_pos (by simp; omega),←e]
    by_cases c3:dig D k v=x
    ·rw [if_pos (by simpa using c3),if_pos c3,if_pos c3]
    ·rw [if_neg (by simpa using c3),if_neg c3,if_neg c3]
   ·have e:D.fB s (dig D k)=0:=by
     rw [hB]; unfold NF.change; rw [if_pos hh,if_neg c2,if_neg c4]; omega
    rw [if_neg (by simp; omega),e]
    by_cases c3:dig D k v=x
    ·rw [if_pos (by simpa using c3),if_pos c3,if_pos c3]
    ·rw [if_neg (by simpa using c3),if_neg c3,if_neg c3]
 ·have hh:D.hit s (dig D k)=false:=by unfold NF.hit; simp [c1]
  have e:D.fB s (dig D k)=0:=by
   rw [hB]; unfold NF.change; rw [hh,if_neg (by decide)]; omega
  rw [if_neg (by simp; omega),e]
  by_cases c3:dig D k v=x
  ·rw [if_pos (by simpa using c3),if_pos c3,if_pos c3]
  ·rw [if_neg (by simpa using c3),if_neg c3,if_neg c3]
open Classical in
theorem Q13 (V:VN D) (A:Qq6 D E v x s):Qec D.net (Qc D.n E) (v:Int) (x:Int) s.sh=some (Vn D s E v x):=by
 have hwo:=V.worlds
 have hE:∀j,j < D.n→-1≤E j:=fun j hj=>(A.hE j hj).1
 have hpc:PC D D.n 0=prodTo D.n D.card:=by have:=Qns (D:=D) D.n 0; simpa [prodTo] using this
 have hmix:∀W,mix D 0 (fun _=>0) W=dig D W:=fun W=>by funext j; simp [mix]
 have key:∀(f:(Nat → Nat)→Int),Ext D f→SW D E f=Ql (prodTo D.n D.card) (fun W=>if Yu D.n E 0 (dig D W) then f (dig D W) else 0):=fun f hf=>by
  unfold SW
  rw [←Qrc V hf D.n 0 (fun _=>0) (by omega),hpc]
  exact Kb fun W _=>by rw [hmix]
 have hb:∀(f:(Nat → Nat)→Int),(∀w,D.ok w→BD 1 (f w))→∀k,BD (k*1) (Ql k (fun W=>if Yu D.n E 0 (dig D W) then f (dig D W) else 0)):=fun f hf k=>BD.sum fun W _=>by
  split
  ·exact hf _ (Qut V W)
  ·exact BD.zero
 have b1:=hb _ (Qnu (v:=v) (x:=x) (Qhx V A.hs.N))
 have b2:=hb _ (Qnu (v:=v) (x:=x) (Qig (s:=s) V))
 have b3:=hb _ (Qhx V A.hs.N)
 have b4:=hb _ (Qig (s:=s) V)
 have hsucc:∀(f:(Nat → Nat)→Int) (k:Nat),Ql (k+1) (fun W=>if Yu D.n E 0 (dig D W) then f (dig D W) else 0)=Ql k (fun W=>if Yu D.n E 0 (dig D W) then f (dig D W) else 0)+(if Yu D.n E 0 (dig D k) then f (dig D k) else 0):=fun f k=>rfl
 have hr:=J4 (n:=prodTo D.n D.card) (k0:=0) (by omega) (by omega) (fun i (t:Int × Int × Int × Int)=>(i,t)) (body:=V3 D.net (Qc D.n E) s.sh (v:Int) (x:Int))
  (fun k=>(Ql k (fun W=>if Yu D.n E 0 (dig D W) then at' v x (D.fA s) (dig D W) else 0),Ql k (fun W=>if Yu D.n E 0 (dig D W) then at' v x (D.fB s) (dig D W) else 0),Ql k (fun W=>if Yu D.n E 0 (dig D W) then D.fA s (dig D W) else 0),Ql k (fun W=>if Yu D.n E 0 (dig D W) then D.fB s (dig D W) else 0)))
  (Vn D s E v x)
  (fun k _ hk=>by
   have f1:=(b1 (k+1)).fit (by omega)
   have f2:=(b2 (k+1)).fit (by omega)
   have f3:=(b3 (k+1)).fit (by omega)
   have f4:=(b4 (k+1)).fit (by omega)
   rw [hsucc] at f1 f2 f3 f4
   rw [hsucc,hsucc,hsucc,hsucc]
   by_cases hm:Yu D.n E 0 (dig D k)
   ·rw [Qzc V A hk hm]
    rw [if_pos hm] at f1 f2 f3 f4 ⊢
    rw [if_pos hm,if_pos hm,if_pos hm,w64 f3,w64 f4]
    unfold at' at f1 f2 ⊢
    by_cases c:dig D k v=x
    ·rw [if_pos c] at f1 f2 ⊢
     rw [if_pos c,if_pos c,if_pos c,w64 f1,w64 f2]
    ·rw [if_neg c,if_neg c,if_neg c,if_neg c,Int.add_zero,Int.add_zero]
   ·rw [if_neg hm,if_neg hm,if_neg hm,if_neg hm,Int.add_zero,Int.add_zero,Int.add_zero,Int.add_zero]
    unfold V3
    dsimp only
    rw [Qnl V,Option.bind_some,if_pos (by simpa using hk),Qmh V (by omega),Option.bind_some,Qs8 V.n8 hE hm,Option.bind_some,if_pos (by decide)])
  (by
   unfold V3
   dsimp only
   rw [Qnl V,Option.bind_some,if_neg (by simp)]
   unfold Vn
   rw [key _ (Qpw A.hv (Qqm V A.hs.N)),key _ (Qpw A.hv (Qp2 V A.hs.N)),key _ (Qqm V A.hs.N),key _ (Qp2 V A.hs.N)])
 unfold Qec
 rw [show ((0:Nat):Int)=0 from rfl] at hr
 have h0:∀(f:Nat → Int),Ql 0 f=0:=fun f=>rfl
 rw [h0,h0,h0,h0] at hr
 rw [hr]; rfl
end
end Go.Ab
namespace Go.Ab
open Go
set_option maxRecDepth 100000
set_option maxHeartbeats 400000
section
variable {L:LN} {b aT aF:Nat}
end
section
variable {D:NF} {E:Nat → Int} {v x:Nat} {s:SF}
theorem Q3x (V:VN D) (hs:Qt8 D s):Qf2 D.net s.sh=some (-(D.W s.N s.R s.T:Int),(D.W s.N s.R s.F:Int)):=Qxr V hs.N hs.R hs.F hs.T
end
end Go.Ab
namespace Go.Ab
open Go
set_option maxRecDepth 100000
set_option maxHeartbeats 400000
theorem Q4e {n:Int} (h:(Lit.int .u8 n).wf=true):0≤n∧n≤255:=by
 simpa [Lit.wf,IntKind.min,IntKind.max,IntKind.bits,IntKind.signed] using h
theorem Qy0 {D:NF} (X:VX D):∀x∈Qc D.n D.node,Kj 65536 x:=fun x hx=>by
 have V:=X.vn
 unfold Qc at hx
 obtain ⟨v,hv,rfl⟩:=List.mem_map.1 hx
 have hv:=List.mem_range.1 hv
 have hc:=V.card v hv
 refine ⟨?_,?_,fun r hr=>?_⟩
 ·have:=V.len v hv
  show (List.map _ (D.par v)).length≤_
  rw [List.length_map]; omega
 ·show (Qc (D.rows v) _).length≤_
  rw [Qs]; exact V.rows_le hv
 ·have hr:r∈Qc (D.rows v) fun r=>Qc (D.card v) fun x=>(D.W v r x:Int):=hr
  unfold Qc at hr
  obtain ⟨i,hi,rfl⟩:=List.mem_map.1 hr
  rw [List.length_map,List.length_range]; omega
theorem Q49 {n:Nat} {F:Nat → Tapi_Node} (h:∀x∈Qc n F,Kj 65536 x):NB n F:=by
 have key:∀v,v < n→Kj 65536 (F v):=fun v hv=>h _ (by unfold Qc; exact List.mem_map.2 ⟨v,List.mem_range.2 hv,rfl⟩)
 exact ⟨fun v hv=>by have:=(key v hv).par; omega,fun v hv=>by have:=(key v hv).rows; omega,fun v hv r hr=>by have:=(key v hv).row r hr; omega⟩
theorem Q23 {p0:Qg} {p1:Zq} (h0:Vp p0) (h1:Kz p1) :
  ∃(D:NF) (n:Nat) (g:Int) (F:Nat → Tapi_Node),VX D∧D.n≤5∧NB D.n D.node∧Qky D.n D.g D.node∧NB n F∧n≤6∧Ja p0=some ⟨D.g,Qc D.n D.node⟩∧Kk p1 ⟨D.g,Qc D.n D.node⟩=some ⟨g,Qc n F⟩:=by
 obtain ⟨D,X,hn,_,e⟩:=Qsm (Qxs h0)
 have hs:=Qy0 X
 have V:=X.vn
 have hlen:(Qc D.n D.node).length=D.n:=Qs
 obtain ⟨g,l,e2,h2,h3⟩:=Q2h (b:=p1) (g:=D.g) (l:=Qc D.n D.node) (m:=65536) (by omega) (by rw [hlen]; exact V.n1) (by rw [hlen]; exact V.n8) hs (Q4e h1.2.1) (Q4e h1.2.2.1)
 rw [hlen] at h2
 refine ⟨D,l.length,g,fun v=>(l[v]?).getD default,X,hn,Q49 hs,Qxu X,Q7s (m:=65536+1) (by omega) h3,by omega,e,?_⟩
 rw [e2,←Q20]
theorem lk5 {α:Type} {a b c d e:α} {k:Nat} (h:k < 5) {Q:α→Prop} (h1:Q a) (h2:Q b) (h3:Q c) (h4:Q d) (h5:Q e):∃x,lkI ([a,b,c,d,e]:List α) (k:Int)=some x∧Q x:=by
 match k,h with
 | 0,_=>exact ⟨a,rfl,h1⟩
 | 1,_=>exact ⟨b,rfl,h2⟩
 | 2,_=>exact ⟨c,rfl,h3⟩
 | 3,_=>exact ⟨d,rfl,h4⟩
 | 4,_=>exact ⟨e,rfl,h5⟩
def Qo7 (a:Qe):Prop:=∃n g F,a.n=⟨g,Qc n F⟩∧NB n F∧n≤6
theorem Q5j {p0:Tharuspexlaw24_Story} (h:Kp p0):∃a b c d e,Kd p0=some (a,b,c,d,e)∧Qo7 a∧Qo7 b∧Qo7 c∧Qo7 d∧Qo7 e:=by
 obtain ⟨hN,hC,hK,hD,hR,hV,hx,hS⟩:=h
 obtain ⟨D,X0,n5,c23,hnet⟩:=Qsm (Qxs hN)
 have X:DX D:=⟨X0,n5,c23⟩
 obtain ⟨D',n,g,F,X',hn5,hB',hF',hB,hn6,e1,e2⟩:=Q23 hN hC
 obtain ⟨E,hE,eE⟩:=Q2m X hK
 obtain ⟨v,x,s,hv,hx',hs1,hs2,hs3,hs4,eD⟩:=Q2x X hD
 have hd:D.net=⟨D'.g,Qc D'.n D'.node⟩:=by rw [e1] at hnet; exact (Option.some.inj hnet).symm
 have own:∀e v x s,Qo7 ⟨D.net,e,v,x,s⟩:=fun e v x s=>⟨D'.n,D'.g,D'.node,hd,hB',by omega⟩
 have hcut:0≤(if 9 < (p0.Raw.length:Int) then (9:Int) else (p0.Raw.length:Int))∧(if 9 < (p0.Raw.length:Int) then (9:Int) else (p0.Raw.length:Int))≤(p0.Raw.length:Int):=by split <;> omega
 unfold Kd
 rw [hnet,Option.bind_some]
 rw [show (Tharuspexref05_Known.mk p0.K.Which (p0.K.V.1,p0.K.V.2.1,p0.K.V.2.2.1,p0.K.V.2.2.2.1,p0.K.V.2.2.2.2.1,p0.K.V.2.2.2.2.2.1,p0.K.V.2.2.2.2.2.2.1,p0.K.V.2.2.2.2.2.2.2))=p0.K from rfl]
 rw [eE,Option.bind_some,eD,Option.bind_some,if_pos ⟨Int.le_refl _,hcut.1,hcut.2⟩,hd,e2,Option.bind_some,←hd]
 exact ⟨_,_,_,_,_,rfl,own _ _ _ _,⟨n,g,F,rfl,hB,hn6⟩,own _ _ _ _,own _ _ _ _,own _ _ _ _⟩
theorem Q1c {n:Nat} {g:Int} {F:Nat → Tapi_Node} (hb:NB n F) (hbig:n≤1000) (hf:¬ Qky n g F) {e l:List Int} {v x:Int} {s:Tapi_Shift}:Zh ⟨g,Qc n F⟩ e v s l=some 50∧Vh ⟨g,Qc n F⟩ e v x s=some 50:=by
 constructor
 ·rcases Q0q (g:=g) hb (by omega) with ⟨hf',_⟩ | ⟨_,e⟩
  ·exact absurd hf' hf
  ·unfold Zh Qcq
   rw [e]; rfl
 ·rcases Qq1 (g:=g) hb with ⟨hf',_⟩ | ⟨_,e⟩
  ·exact absurd hf' hf
  ·unfold Vh
   rw [e]; rfl
theorem Q7b (q:Tapi_Q):((q.N==q.N) && ((q.D==q.D) && true))=true:=by simp
end Go.Ab
namespace Go.Ab
open Go
set_option maxRecDepth 100000
set_option maxHeartbeats 400000
theorem Qz9 (t:Tapi_Q):Qcz t=some (if Rt t then (if Sml t then 0 else 2) else 5):=by
 unfold Qcz
 rw [Q2z,Option.bind_some]
 by_cases h:Rt t
 ·rw [if_neg (by simpa using h),if_pos h]
  by_cases h2:Sml t
  ·obtain ⟨a,b,c⟩:=h2
   rw [if_neg (by simp; omega),if_neg (by simp; omega),if_neg (by simp; omega),if_pos ⟨a,b,c⟩]
  ·rw [if_neg h2]
   unfold Sml at h2
   by_cases c1:t.N < -1000
   ·rw [if_pos (by simpa using c1)]
   rw [if_neg (by simpa using c1)]
   by_cases c2:t.N > 1000
   ·rw [if_pos (by simpa using c2)]
   rw [if_neg (by simpa using c2),if_pos (by simp; omega)]
 ·rw [if_pos (by simpa using h),if_neg h]
section
variable {D:NF} {s:SF}
theorem Q7x (V:VN D) (hs:Qt8 D s):D.W s.N s.R s.T≤60∧D.W s.N s.R s.F≤60:=by
 have h1:=V.W s.N s.R s.T hs.N hs.R hs.T
 have h2:=V.W s.N s.R s.F hs.N hs.R hs.F
 have:=V.g60
 omega
theorem Qxl {a b:Int}:Qrg a b≥0↔b≤a:=by unfold Qrg; split <;> (try split) <;> omega
theorem Q40 {a b:Int}:Qrg a b≤0↔a≤b:=by unfold Qrg; split <;> (try split) <;> omega
theorem Qzs (V:VN D) (hs:Qt8 D s) {t:Tapi_Q} (ht:Rt t):Qbz D.net s.sh t=some (decide (Qo1 (D.W s.N s.R s.T) (D.W s.N s.R s.F) t)):=by
 obtain ⟨w1,w2⟩:=Q7x V hs
 have hD:=ht.1
 unfold Qbz
 rw [Q3x V hs,Option.bind_some]
 dsimp only
 rw [Q0x ht.i64 (Qzo (by omega)).i64 (by omega) (by show (0:Int) < 1; decide),Option.bind_some]
 dsimp only
 rw [Int.mul_one]
 by_cases c1:-(D.W s.N s.R s.T:Int)*t.D≤t.N
 ·rw [if_pos (by rw [decide_eq_true_eq]; exact Qxl.2 c1),Q0x ht.i64 (Qzo (by omega)).i64 (by omega) (by show (0:Int) < 1; decide),Option.bind_some]
  dsimp only
  rw [Int.mul_one]
  congr 1
  rw [Bool.eq_iff_iff,decide_eq_true_eq,decide_eq_true_eq,Q40]
  unfold Qo1
  exact ⟨fun h=>⟨c1,h⟩,fun h=>h.2⟩
 ·rw [if_neg (by rw [decide_eq_true_eq,Qxl]; exact c1)]
  congr 1
  symm
  rw [decide_eq_false_iff_not]
  exact fun h=>c1 h.1
theorem Q6p {L:Int × Int × Int × Int} (hL:SmL L) {t:Tapi_Q} (ht:Rt t) (hs:Sml t):Qf8 L t=some (atF L t):=by
 obtain ⟨e1,e2,e3,e4⟩:=Qvo hL ht hs
 have hMX:MX=4611686018427387903:=rfl
 unfold Qf8 atF
 rw [e1,e2]
 by_cases c:L.2.2.1*t.D+L.2.2.2*t.N=0
 ·rw [if_pos (by simpa using c),if_pos c]
 ·rw [if_neg (by simpa using c),if_neg c,Q4h (by omega) (by omega) c]; rfl
end
end Go.Ab
namespace Go.Ab
open Go
set_option maxRecDepth 100000
set_option maxHeartbeats 400000
theorem Q7a (L:Int × Int × Int × Int):((L.1==L.1) && ((L.2.1==L.2.1) && ((L.2.2.1==L.2.2.1) && ((L.2.2.2==L.2.2.2) && true))))=true:=by simp
theorem lk2 {α:Type} {a b:α} {k:Nat} (h:k < 2):∃x,lkI ([a,b]:List α) (k:Int)=some x:=⟨_,Qn (by simpa using h)⟩
section
variable {D:NF} {E:Nat → Int} {v x:Nat} {s:SF}
theorem Qum (X:VX D) (A:Qq6 D E v x s):Qz D.net (Qc D.n E) (v:Int) (x:Int) s.sh=some (Vn D s E v x,0) :=
 Q4u X.vn A.hs.N A.hv A.hE A.hx (Q3p X A.hE A.hs.N A.hs.R A.hs.F A.hs.T A.hs.FT A.hv A.hx)
theorem Q12 (X:VX D) (h6:D.n≤6) (A:Qq6 D E v x s) {a:Qe} (ha:a=⟨D.net,Qc D.n E,(v:Int),(x:Int),s.sh⟩) {p1 x20:Tapi_Q}:Qd fuel (Xp p1 x20 a (Vn D s E v x)) 0=some (.inr ()):=by
 have hL:=Q4t (E:=E) (v:=v) X.vn h6 A.hs.N x
 have hr:=J4 (n:=2) (k0:=0) (by omega) (by omega) (fun i (_:Unit)=>i) (body:=Xp p1 x20 a (Vn D s E v x)) (fun _=>()) (.inr ())
  (fun k _ hk=>by
   obtain ⟨t,et⟩:=lk2 (a:=p1) (b:=x20) hk
   subst ha
   unfold Xp
   rw [if_pos (by rw [decide_eq_true_eq]; omega),et,Option.bind_some]
   dsimp only
   rw [Q5z X.vn h6 A.hs.N A.hs.R A.hs.F A.hs.T (Qum X A) hL t,Option.bind_some,Qz9,Option.bind_some]
   by_cases c1:Rt t
   ·rw [if_pos c1,if_pos c1]
    by_cases c2:Sml t
    ·rw [if_pos c2,if_pos c2,if_pos (by decide),Qzs X.vn A.hs c1,Option.bind_some]
     by_cases c3:Qo1 (D.W s.N s.R s.T) (D.W s.N s.R s.F) t
     ·rw [if_pos c3,if_neg (by simpa using c3),show ((Vn D s E v x).1,(Vn D s E v x).2.1,(Vn D s E v x).2.2.1,(Vn D s E v x).2.2.2)=Vn D s E v x from rfl,Q6p hL c1 c2,Option.bind_some,if_neg (by simp),Q7b,if_neg (by decide)]
     ·rw [if_neg c3,if_pos (by simpa using c3),if_neg (by decide),if_neg (by decide)]
    ·rw [if_neg c2,if_neg c2,if_neg (by decide),if_neg (by decide),if_neg (by decide)]
   ·rw [if_neg c1,if_neg c1,if_neg (by decide),if_neg (by decide),if_neg (by decide)])
  (by unfold Xp; rw [if_neg (by decide)])
 rw [show ((0:Nat):Int)=0 from rfl] at hr
 exact hr
end
theorem Qvj {a:Qe} {p1 x61:Tapi_Q} {no:Int} (hno:no≠0) (h:Qz a.n a.e a.v a.value a.s=some ((0,0,0,0),no)):Qd fuel (Xq p1 x61 a no) 0=some (.inr ()):=by
 have hr:=J4 (n:=2) (k0:=0) (by omega) (by omega) (fun i (_:Unit)=>i) (body:=Xq p1 x61 a no) (fun _=>()) (.inr ())
  (fun k _ hk=>by
   obtain ⟨t,et⟩:=lk2 (a:=p1) (b:=x61) hk
   unfold Xq
   rw [if_pos (by rw [decide_eq_true_eq]; omega),et,Option.bind_some]
   have ea:Xb a.n a.e a.v a.value a.s t=some (⟨0,0⟩,no):=by
    unfold Xb
    rw [h,Option.bind_some,if_pos (by simpa using hno)]
   rw [ea,Option.bind_some,if_neg (by simp),if_neg (by simp)])
  (by unfold Xq; rw [if_neg (by decide)])
 rw [show ((0:Nat):Int)=0 from rfl] at hr
 exact hr
theorem Q7g {n:Int} (h:(Lit.int .i8 n).wf=true):-128≤n∧n≤127:=by
 simpa [Lit.wf,IntKind.min,IntKind.max,IntKind.bits,IntKind.signed] using h
theorem Q6b (x:Int):0≤IntKind.u8.wrap x∧IntKind.u8.wrap x < 256:=by
 simp [IntKind.wrap,IntKind.bits,IntKind.signed]; omega
theorem Q3s {a b:Int} (ha:-1000≤a∧a≤1000) (hb:1≤b∧b≤1000):∃q,Qai a b=some q:=⟨_,Q4h (by omega) (by omega) (by omega)⟩
theorem Q6n {y:Int} (hy:0≤y∧y < 256):1≤zw (1+zw (Int.tmod y 12))∧zw (1+zw (Int.tmod y 12))≤12:=by
 rw [X1 hy.1]
 have h1:=Int.emod_nonneg y (b:=12) (by omega)
 have h2:=Int.emod_lt_of_pos y (b:=12) (by omega)
 rw [w64 (n:=y % 12) (by omega),w64 (by omega)]; omega
theorem Q00 {x1:Qe × Qe × Qe × Qe × Qe} {p2:Int × Int} {p1:Tapi_Q} {k:Nat} {a:Qe} (hp:-128≤p2.1∧p2.1≤127) (hk:k < 5) (hl:lkI ([x1.1,x1.2.1,x1.2.2.1,x1.2.2.2.1,x1.2.2.2.2]:(List Qe)) (k:Int)=some a) (ha:Qo7 a) :
  Xm x1 p2 p1 (k:Int)=some (.next (zw ((k:Int)+1))):=by
 obtain ⟨n,g,F,en,hb,hn6⟩:=ha
 obtain ⟨q,eq⟩:=Q3s (a:=zw p2.1) (b:=zw (1+zw (Int.tmod (IntKind.u8.wrap p2.2) 12))) (by rw [w64 (by omega)]; omega) (by have:=Q6n (Q6b p2.2); omega)
 obtain ⟨an,ae,av,ax,sh⟩:=a
 dsimp only at en
 subst en
 unfold Xm
 rw [if_pos (by rw [decide_eq_true_eq]; omega),hl,Option.bind_some]
 dsimp only
 by_cases hf:Qky n g F
 ·obtain ⟨D,hDn,X,hD⟩:=Q5p hf
  have h6:D.n≤6:=by omega
  rw [←hD] at hl ⊢
  rcases Q5w X ae av ax sh with ⟨hq,er⟩ | ⟨hq,er⟩
  ·obtain ⟨E,v,x,s,rfl,rfl,rfl,rfl,A⟩:=Q5m hq
   rw [Qum X A,Option.bind_some,er,Option.bind_some,if_pos (by decide),Q13 X.vn A,Option.bind_some]
   dsimp only
   rw [if_neg (by decide),Q7a,if_neg (by decide),eq,Option.bind_some,Q12 X h6 A rfl]
   rfl
  ·have est:Qz D.net ae av ax sh=some ((0,0,0,0),2):=by
    rcases Q3j X ae av ax sh with ⟨hq',_⟩ | ⟨_,ep⟩
    ·exact absurd hq' hq
    ·unfold Qz
     rw [ep]; rfl
   rw [est,Option.bind_some,er,Option.bind_some,if_neg (by decide),if_neg (by decide),if_neg (by decide),eq,Option.bind_some,Qvj (by decide) est]
   rfl
 ·obtain ⟨ec,er⟩:=Q1c (e:=ae) (l:=[ax]) (v:=av) (x:=ax) (s:=sh) hb (by omega) hf
  have est:Qz ⟨g,Qc n F⟩ ae av ax sh=some ((0,0,0,0),50):=by
   unfold Qz
   rw [ec]; rfl
  rw [est,Option.bind_some,er,Option.bind_some,if_neg (by decide),if_neg (by decide),if_neg (by decide),eq,Option.bind_some,Qvj (by decide) est]
  rfl
theorem lines_true (p0:Tharuspexlaw24_Story) (p1:Tapi_Q) (p2:Int × Int) (h:Kp p0) (h1:Qt3 p1) (h2:(Lit.int .i8 p2.1).wf=true∧(Lit.int .i8 p2.2).wf=true):Ku p0 p1 p2=some true:=by
 obtain ⟨a,b,c,d,e,ea,q1,q2,q3,q4,q5⟩:=Q5j h
 have hr:=J4 (n:=5) (k0:=0) (by omega) (by omega) (fun i (_:Unit)=>i) (body:=Xm (a,b,c,d,e) p2 p1) (fun _=>()) (.inr ())
  (fun k _ hk=>by
   obtain ⟨y,hy,hq⟩:=lk5 hk q1 q2 q3 q4 q5
   exact Q00 (Q7g h2.1) hk hy hq)
  (by unfold Xm; rw [if_neg (by decide)])
 rw [show ((0:Nat):Int)=0 from rfl] at hr
 unfold Ku
 rw [show (Tharuspexlaw24_Story.mk p0.N p0.C (Tharuspexref05_Known.mk p0.K.Which (p0.K.V.1,p0.K.V.2.1,p0.K.V.2.2.1,p0.K.V.2.2.2.1,p0.K.V.2.2.2.2.1,p0.K.V.2.2.2.2.2.1,p0.K.V.2.2.2.2.2.2.1,p0.K.V.2.2.2.2.2.2.2)) p0.D p0.Raw p0.V p0.Value p0.S)=p0 from rfl,ea,Option.bind_some,hr,Option.bind_some]
 dsimp only
 rw [Qy4]; rfl
#print axioms lines_true
end Go.Ab
