/- What functions compute. No conditions. -/
import Derived.Test.YtokcpkcoahlkjaaW16
set_option linter.all false
namespace Go.Ab
open Go
set_option maxRecDepth 100000
set_option maxHeartbeats 400000
section
variable {D:NF} {E:Nat → Int} {v x:Nat} {s:SF}
theorem Q2q (X:VX D) (h6:D.n≤6) (A:Qof D E v x s) {p1 x24:Tapi_Q} {x20:Tapi_Q × Int} {k:Nat} (hk:k < 3) :
  Q5 p1 x24 x20 ⟨D.net,Qc D.n E,(v:Int),(x:Int),s.sh⟩ (Zf D s E v x) (k:Int)=some (.next (zw ((k:Int)+1))):=by
 have V:=X.vn
 have hL:=Qya (E:=E) (v:=v) V h6 A.hs.N x
 obtain ⟨w1,w2⟩:=Q4g V A.hs
 have r1:=Qqk (E:=E) (v:=v) V A.hs.N A.hs.R A.hs.F A.hs.T A.hs.FT (t:=-(D.W s.N s.R s.T:Int)) (by omega) x
 have r2:=Qqk (E:=E) (v:=v) V A.hs.N A.hs.R A.hs.F A.hs.T A.hs.FT (t:=(D.W s.N s.R s.F:Int)) (by omega) x
 obtain ⟨t,et⟩:=lk3 (a:=p1) (b:=x24) (c:=x20.1) hk
 unfold Q5
 rw [if_pos (by rw [decide_eq_true_eq]; omega),et,Option.bind_some]
 dsimp only
 rw [Q51 V A.hs.N A.hs.R A.hs.F A.hs.T (Q2v X A) hL t,Option.bind_some,Q1g,Option.bind_some]
 by_cases c1:Rt t
 ·rw [if_pos c1,if_pos c1]
  by_cases c2:Sml t
  ·rw [if_pos c2,if_pos c2,if_pos (by decide)]
   by_cases c3:t.N < 0
   ·rw [if_neg (show ¬ (0≤t.N∧t.N≤t.D) by omega),if_pos (show decide (t.N < 0)=true by simpa using c3),if_neg (by decide),if_neg (by decide)]
   ·by_cases c4:t.N > t.D
    ·rw [if_neg (show ¬ (0≤t.N∧t.N≤t.D) by omega),if_neg (show ¬ decide (t.N < 0)=true by simpa using c3),if_pos (show decide (t.N > t.D)=true by simpa using c4),if_neg (by decide),if_neg (by decide)]
    ·rw [if_pos (show 0≤t.N∧t.N≤t.D by omega),if_neg (show ¬ decide (t.N < 0)=true by simpa using c3),if_neg (show ¬ decide (t.N > t.D)=true by simpa using c4),show ((Zf D s E v x).1,(Zf D s E v x).2.1,(Zf D s E v x).2.2.1,(Zf D s E v x).2.2.2)=Zf D s E v x from rfl,Q6e V A.hs hL (by omega) (by omega) c1 c2,Option.bind_some]
     have hv:(Qc0 (Zf D s E v x) (D.W s.N s.R s.T) (D.W s.N s.R s.F) t).2=0∨Qc0 (Zf D s E v x) (D.W s.N s.R s.T) (D.W s.N s.R s.F) t=(⟨0,0⟩,4):=by
      unfold Qc0
      by_cases d1:Z6 (Zf D s E v x) t=0
      ·rw [if_pos d1]
       by_cases d2:Xi (Zf D s E v x) t≠0∨-(D.W s.N s.R s.T:Int)≠(D.W s.N s.R s.F:Int)∨(Zf D s E v x).2.2.1=0
       ·rw [if_pos d2]; exact .inr rfl
       ·rw [if_neg d2]; exact .inl rfl
      ·rw [if_neg d1]
       by_cases d2:Qey (D.W s.N s.R s.T) (D.W s.N s.R s.F) (qI (Xi (Zf D s E v x) t) (Z6 (Zf D s E v x) t))∧Qgi (Zf D s E v x) (D.W s.N s.R s.T) (D.W s.N s.R s.F) (qI (Xi (Zf D s E v x) t) (Z6 (Zf D s E v x) t))
       ·rw [if_pos d2]; exact .inl rfl
       ·rw [if_neg d2]; exact .inr rfl
     generalize Qc0 (Zf D s E v x) (D.W s.N s.R s.T) (D.W s.N s.R s.F) t=r at hv
     rcases hv with h | rfl
     ·rw [if_pos h,if_pos rfl,h,if_neg (by decide),Q71,if_neg (by decide)]
     ·rw [if_neg (by decide),if_neg (by decide),if_neg (by decide)]
  ·rw [if_neg c2,if_neg c2,if_neg (by decide),if_neg (by decide),if_neg (by decide)]
 ·rw [if_neg c1,if_neg c1,if_neg (by decide),if_neg (by decide),if_neg (by decide)]
theorem Qvn (X:VX D) (h6:D.n≤6) (A:Qof D E v x s) {p1 x24:Tapi_Q} {x20:Tapi_Q × Int}:Qd fuel (Q5 p1 x24 x20 ⟨D.net,Qc D.n E,(v:Int),(x:Int),s.sh⟩ (Zf D s E v x)) 0=some (.inr ()):=by
 have hr:=Kd (n:=3) (k0:=0) (by omega) (by omega) (fun i (_:Unit)=>i) (body:=Q5 p1 x24 x20 ⟨D.net,Qc D.n E,(v:Int),(x:Int),s.sh⟩ (Zf D s E v x)) (fun _=>()) (.inr ())
  (fun k _ hk=>Q2q X h6 A hk) (by unfold Q5; rw [if_neg (by decide)])
 rw [show ((0:Nat):Int)=0 from rfl] at hr
 exact hr
end
theorem Q52 {p1 x71:Tapi_Q} {a:Qe} {L:Int × Int × Int × Int}:Ku p1 x71 a L=Q5 p1 x71 (p1,0) a L:=rfl
theorem Q5v {p1 x71:Tapi_Q} {a:Qe} {L:Int × Int × Int × Int}:Kl p1 x71 a L=Q5 p1 x71 (p1,0) a L:=rfl
theorem Qyp {a:Qe} {p1 x61:Tapi_Q} {no:Int} (hno:no≠0) (h:Q1 a.n a.e a.v a.value a.s=some ((0,0,0,0),no)):Qd fuel (Z1 p1 x61 a no) 0=some (.inr ()):=by
 have hr:=Kd (n:=3) (k0:=0) (by omega) (by omega) (fun i (_:Unit)=>i) (body:=Z1 p1 x61 a no) (fun _=>()) (.inr ())
  (fun k _ hk=>by
   obtain ⟨t,et⟩:=lk3 (a:=p1) (b:=x61) (c:=p1) hk
   unfold Z1
   rw [if_pos (by rw [decide_eq_true_eq]; omega),et,Option.bind_some]
   have ea:Zg a.n a.e a.v a.value a.s t=some (⟨0,0⟩,no):=by
    unfold Zg
    rw [h,Option.bind_some,if_pos (by simpa using hno)]
   rw [ea,Option.bind_some,if_neg (by simp),if_neg (by simp)])
  (by unfold Z1; rw [if_neg (by decide)])
 rw [show ((0:Nat):Int)=0 from rfl] at hr
 exact hr
theorem Q8e {y:Int}:-8≤Int.tmod y 9∧Int.tmod y 9≤8:=by
 have h:=Int.natAbs_tmod y 9
 have h2:=Nat.mod_lt y.natAbs (show 0 < (9:Int).natAbs by decide)
 omega
theorem Q32 {x1:Qe × Qe × Qe × Qe × Qe} {p3:Int} {p2:Int × Int} {p1:Tapi_Q} {k:Nat} {a:Qe} (hp:(0≤p2.1∧p2.1≤255)∧(0≤p2.2∧p2.2≤255)) (hk:k < 5) (hl:lkI ([x1.1,x1.2.1,x1.2.2.1,x1.2.2.2.1,x1.2.2.2.2]:(List Qe)) (k:Int)=some a) (ha:Qp0 a) :
  Z3 x1 p3 p2 p1 (k:Int)=some (.next (zw ((k:Int)+1))):=by
 obtain ⟨n,g,F,en,hb,hn6⟩:=ha
 have h13:0≤Int.tmod p2.1 13∧Int.tmod p2.1 13 < 13:=by
  rw [Xr hp.1.1]
  exact ⟨Int.emod_nonneg _ (by omega),Int.emod_lt_of_pos _ (by omega)⟩
 obtain ⟨q,eq⟩:=Q3k (a:=zw (Int.tmod p2.1 13)) (b:=zw (1+zw (Int.tmod p2.2 12))) (by rw [w64 (by omega)]; omega) (by have:=Q7e (y:=p2.2) (by omega); omega)
 have h9:=Q8e (y:=p3)
 have e9:zw (Int.tmod p3 9)=Int.tmod p3 9:=w64 (by omega)
 have hMX:MX=4611686018427387903:=rfl
 have et:Yb (zw (Int.tmod p3 9)) 1=some (qI (Int.tmod p3 9) 1):=by rw [e9]; exact Qrd (by omega) (by omega) (by decide)
 obtain ⟨tr,ts⟩:=Qoo (n:=Int.tmod p3 9) (d:=1) (by omega) (by omega) (by decide)
 have tsm:Sml (qI (Int.tmod p3 9) 1):=by
  obtain ⟨d1,d2⟩:=Qp2 tr (a:=Int.tmod p3 9) (by rw [Int.mul_one] at ts; exact ts)
  unfold Sml; omega
 obtain ⟨an,ae,av,ax,sh⟩:=a
 dsimp only at en
 subst en
 unfold Z3
 rw [if_pos (by rw [decide_eq_true_eq]; omega),hl,Option.bind_some]
 dsimp only
 by_cases hf:Qk0 n g F
 ·obtain ⟨D,hDn,X,hD⟩:=Q50 hf
  have h6:D.n≤6:=by omega
  rw [←hD] at hl ⊢
  rcases Q6k X ae av ax sh with ⟨hq,er⟩ | ⟨hq,er⟩
  ·obtain ⟨E,v,x,s,rfl,rfl,rfl,rfl,A⟩:=Q5k hq
   have hL:=Qya (E:=E) (v:=v) X.vn h6 A.hs.N x
   rw [er,Option.bind_some,if_pos (by decide),Q4o X.vn A,Option.bind_some,et,Option.bind_some,Qnf X.vn A.hs tr,Option.bind_some]
   rw [show ((Zf D s E v x).1,(Zf D s E v x).2.1,(Zf D s E v x).2.2.1,(Zf D s E v x).2.2.2)=Zf D s E v x from rfl,Q7k hL tr tsm,eq]
   simp only [Option.bind_some]
   rw [Q52,Q5v,Qvn X h6 A,Qvn X h6 A]
   by_cases c1:decide (Qey (D.W s.N s.R s.T) (D.W s.N s.R s.F) (qI (Int.tmod p3 9) 1))=true
   ·rw [if_pos c1]
    by_cases c2:((atF (Zf D s E v x) (qI (Int.tmod p3 9) 1)).2==0)=true
    ·rw [if_pos c2]; rfl
    ·rw [if_neg c2]; rfl
   ·rw [if_neg c1]; rfl
  ·have est:Q1 D.net ae av ax sh=some ((0,0,0,0),2):=by
    rcases Q20 X ae av ax sh with ⟨hq',_⟩ | ⟨_,ep⟩
    ·exact absurd hq' hq
    ·unfold Q1
     rw [ep]; rfl
   rw [er,Option.bind_some,if_neg (by decide),eq,Option.bind_some,Qyp (by decide) est]
   rfl
 ·obtain ⟨ec,er⟩:=Q17 (e:=ae) (l:=[ax]) (v:=av) (x:=ax) (s:=sh) hb (by omega) hf
  have est:Q1 ⟨g,Qc n F⟩ ae av ax sh=some ((0,0,0,0),50):=by
   unfold Q1
   rw [ec]; rfl
  rw [er,Option.bind_some,if_neg (by decide),eq,Option.bind_some,Qyp (by decide) est]
  rfl
theorem thrs_true (p0:Tharuspexlaw24_Story) (p1:Tapi_Q) (p2:Int × Int) (p3:Int) (h:Kz p0) (h1:Qu7 p1) (h2:(Lit.int .u8 p2.1).wf=true∧(Lit.int .u8 p2.2).wf=true) (h3:(Lit.int .i8 p3).wf=true):V8 p0 p1 p2 p3=some true:=by
 obtain ⟨a,b,c,d,e,ea,q1,q2,q3,q4,q5⟩:=Q57 h
 have hr:=Kd (n:=5) (k0:=0) (by omega) (by omega) (fun i (_:Unit)=>i) (body:=Z3 (a,b,c,d,e) p3 p2 p1) (fun _=>()) (.inr ())
  (fun k _ hk=>by
   obtain ⟨y,hy,hq⟩:=lk5 hk q1 q2 q3 q4 q5
   exact Q32 ⟨Qua h2.1,Qua h2.2⟩ hk hy hq)
  (by unfold Z3; rw [if_neg (by decide)])
 rw [show ((0:Nat):Int)=0 from rfl] at hr
 unfold V8
 rw [show (Tharuspexlaw24_Story.mk p0.N p0.C (Tharuspexref05_Known.mk p0.K.Which (p0.K.V.1,p0.K.V.2.1,p0.K.V.2.2.1,p0.K.V.2.2.2.1,p0.K.V.2.2.2.2.1,p0.K.V.2.2.2.2.2.1,p0.K.V.2.2.2.2.2.2.1,p0.K.V.2.2.2.2.2.2.2)) p0.D p0.Raw p0.V p0.Value p0.S)=p0 from rfl,ea,Option.bind_some,hr,Option.bind_some]
 dsimp only
 rw [Qyv]; rfl
#print axioms thrs_true
end Go.Ab
