/- Functions. No conditions. -/
import Derived.Test.YtokcpkcoahlkjaaW15
set_option linter.all false
namespace Go.Ab
open Go
structure QX (D:NF) (E:Nat → Int) (v:Nat) (s:SF):Prop where
 X:DX D
 hE:Qgr D E
 hv:v < D.n
 hsN:s.N < D.n
 hsR:s.R < D.rows s.N
 hsF:s.F < D.card s.N
 hsT:s.T < D.card s.N
 hFT:s.F≠s.T
section
variable {D:NF} {E:Nat → Int} {v:Nat} {s:SF}
theorem QX.bd (Q:QX D E v s) (y:Nat):BD 243 (Qbe D s E v y).1∧BD 243 (Qbe D s E v y).2.1∧BD 243 (Qbe D s E v y).2.2.1∧BD 243 (Qbe D s E v y).2.2.2:=by
 have V:=Q.X.vn
 have hw:=Q.X.worlds
 exact ⟨Qkw V hw (Qni (Qkx V Q.hsN)),Qkw V hw (Qni (Qle V)),Qkw V hw (Qkx V Q.hsN),Qkw V hw (Qle V)⟩
theorem QX.W60 (Q:QX D E v s):D.W s.N s.R s.T≤60∧D.W s.N s.R s.F≤60:=by
 have V:=Q.X.vn
 have hWT:=V.W s.N s.R s.T Q.hsN Q.hsR Q.hsT
 have hWF:=V.W s.N s.R s.F Q.hsN Q.hsR Q.hsF
 have hg:=V.g60
 omega
theorem QX.line (Q:QX D E v s) {k:Nat} (hk:k < D.card v):Zf D.net (Qb D.n E) (v:Int) (k:Int) s.sh=some (Qbe D s E v k,0) :=
 Q1h Q.X.vn Q.hsN Q.hv Q.hE hk (Qzv Q.X.toVX Q.hE Q.hsN Q.hsR Q.hsF Q.hsT Q.hFT Q.hv hk)
theorem QX.row (Q:QX D E v s):lkI (D.node s.N).Rows s.sh.Row=some (Qb (D.card s.N) fun x=>(D.W s.N s.R x:Int)):=Qp Q.hsR
theorem QX.rowT (Q:QX D E v s):lkI (Qb (D.card s.N) fun x=>(D.W s.N s.R x:Int)) s.sh.To=some (D.W s.N s.R s.T:Int):=Qp Q.hsT
theorem QX.rowF (Q:QX D E v s):lkI (Qb (D.card s.N) fun x=>(D.W s.N s.R x:Int)) s.sh.From=some (D.W s.N s.R s.F:Int):=Qp Q.hsF
end
end Go.Ab
namespace Go.Ab
open Go
def SB:Int:=47775744000000
def SBd (z:Int):Prop:=-SB≤z∧z≤SB
theorem Qwg {D:NF} {E:Nat → Int} {f:(Nat → Nat)→Int} {K:Nat} (hf:∀w,D.ok w→-(K:Int)≤f w∧f w≤K):∀(d i:Nat) (w:Nat → Nat),i+d=D.n→D.ok w→-((PC D d i*K:Nat):Int)≤TM D E f d i w∧TM D E f d i w≤((PC D d i*K:Nat):Int)
 | 0,i,w,_,hw=>by
  have:=hf w hw
  show -((1*K:Nat):Int)≤f w∧f w≤((1*K:Nat):Int)
  rw [Nat.one_mul]; exact this
 | d+1,i,w,h,hw=>by
  have key:∀m,m≤D.card i→-((m*(PC D d (i+1)*K):Nat):Int)≤Qi m (fun y=>if E i=-1∨E i=(y:Int) then TM D E f d (i+1) (Zd w i y) else 0)∧Qi m (fun y=>if E i=-1∨E i=(y:Int) then TM D E f d (i+1) (Zd w i y) else 0)≤((m*(PC D d (i+1)*K):Nat):Int):=by
   intro m
   induction m with
   | zero=>intro _; simp [Qi]
   | succ m ih =>
    intro hm
    have i1:=ih (by omega)
    simp only [Qi]
    rw [Nat.succ_mul]
    have i2:-((PC D d (i+1)*K:Nat):Int)≤(if E i=-1∨E i=(m:Int) then TM D E f d (i+1) (Zd w i m) else 0)∧(if E i=-1∨E i=(m:Int) then TM D E f d (i+1) (Zd w i m) else 0)≤((PC D d (i+1)*K:Nat):Int):=by
     split
     ·exact Qwg hf d (i+1) _ (by omega) (Qjk hw hm)
     ·omega
    omega
  have:=key (D.card i) (Nat.le_refl _)
  unfold TM PC
  rw [Nat.mul_assoc]
  exact this
section
variable {D:NF} {E:Nat → Int} {v:Nat} {s:SF}
theorem Qzl (V:VN D) (h6:D.n≤6) {w:Nat → Nat} (hw:D.ok w):D.rest s w D.n≤46656000000:=by
 have h1:D.rest s w D.n≤60^D.n:=J7 fun v hv=>by
  split
  ·omega
  ·exact V.wt_le hw (by omega)
 have h2:(60:Nat)^D.n≤60^6:=Nat.pow_le_pow_right (by omega) h6
 exact Nat.le_trans h1 (Nat.le_trans h2 (by decide))
theorem Qxy (V:VN D) (h6:D.n≤6) (hs:s.N < D.n) {w:Nat → Nat} (hw:D.ok w):-((46656000000:Nat):Int)≤D.fA s w∧D.fA s w≤((46656000000:Nat):Int):=by
 rw [V.fA_eq hs]
 have h1:Qk D.n (D.wt w)≤60^D.n:=J7 fun v hv=>V.wt_le hw hv
 have h2:(60:Nat)^D.n≤60^6:=Nat.pow_le_pow_right (by omega) h6
 omega
theorem Qye (V:VN D) (h6:D.n≤6) {w:Nat → Nat} (hw:D.ok w):-((46656000000:Nat):Int)≤D.fB s w∧D.fB s w≤((46656000000:Nat):Int):=by
 have hb:=Qzl (s:=s) V h6 hw
 have hc:D.change s w=-1∨D.change s w=0∨D.change s w=1:=by
  unfold NF.change
  split
  ·split
   ·exact .inl rfl
   ·split
    ·exact .inr (.inr rfl)
    ·exact .inr (.inl rfl)
  ·exact .inr (.inl rfl)
 unfold NF.fB
 rcases hc with h | h | h <;> rw [h] <;> omega
theorem Qxh {f:(Nat → Nat)→Int} {K:Nat} (hf:∀w,D.ok w→-(K:Int)≤f w∧f w≤K) {x:Nat}:∀w,D.ok w→-(K:Int)≤at' v x f w∧at' v x f w≤K:=fun w hw=>by
 unfold at'
 split
 ·exact hf w hw
 ·omega
theorem Qqf (V:VN D) {f:(Nat → Nat)→Int} (hf:∀w,D.ok w→-((46656000000:Nat):Int)≤f w∧f w≤((46656000000:Nat):Int)):SBd (SW D E f):=by
 have h:=Qwg (E:=E) hf D.n 0 (fun _=>0) (by omega) (ok0 V)
 have hp:=Qwd V
 have h2:PC D D.n 0*46656000000≤1024*46656000000:=Nat.mul_le_mul_right _ hp
 unfold SBd SB SW
 omega
def SmL (L:Int × Int × Int × Int):Prop:=SBd L.1∧SBd L.2.1∧SBd L.2.2.1∧SBd L.2.2.2
theorem Q1x (V:VN D) (h6:D.n≤6) (hs:s.N < D.n) (y:Nat):SmL (Qbe D s E v y) :=
 ⟨Qqf V (Qxh fun w hw=>Qxy V h6 hs hw),Qqf V (Qxh fun w hw=>Qye V h6 hw),Qqf V fun w hw=>Qxy V h6 hs hw,Qqf V fun w hw=>Qye V h6 hw⟩
theorem Qnh {a t:Int} (ha:SBd a) (ht:-1000≤t∧t≤1000):-(47775744000000000:Int)≤a*t∧a*t≤47775744000000000:=by
 unfold SBd SB at ha
 have h1:a.natAbs≤47775744000000:=by omega
 have h2:t.natAbs≤1000:=by omega
 have h3:(a*t).natAbs≤47775744000000*1000:=by rw [Int.natAbs_mul]; exact Nat.mul_le_mul h1 h2
 omega
def Sml (t:Tapi_Q):Prop:=-1000≤t.N∧t.N≤1000∧t.D≤1000
instance instSml (t:Tapi_Q):Decidable (Sml t):=by unfold Sml; infer_instance
theorem Qyp (t:Tapi_Q):Xw t=some (if Rt t then (if Sml t then 0 else 2) else 5):=by
 unfold Xw
 rw [Qzg]
 simp only [Option.bind_some]
 by_cases h:Rt t
 ·rw [if_pos h,if_pos h,if_neg (by simp)]
  by_cases h1:t.N < -1000
  ·rw [if_pos (by simpa using h1),if_neg (fun h=>by have:=h.1; omega)]
  rw [if_neg (by simpa using h1)]
  by_cases h2:t.N > 1000
  ·rw [if_pos (by simpa using h2),if_neg (fun h=>by have:=h.2.1; omega)]
  rw [if_neg (by simpa using h2)]
  by_cases h3:t.D > 1000
  ·rw [if_pos (by simpa using h3),if_neg (fun h=>by have:=h.2.2; omega)]
  rw [if_neg (by simpa using h3),if_pos ⟨by omega,by omega,by omega⟩]
 ·rw [if_neg h,if_neg h,if_pos (by simp)]
def atF (L:Int × Int × Int × Int) (t:Tapi_Q):Tapi_Q × Int :=
 if L.2.2.1*t.D+L.2.2.2*t.N=0 then (⟨0,0⟩,7) else (qI (L.1*t.D+L.2.1*t.N) (L.2.2.1*t.D+L.2.2.2*t.N),0)
theorem Qzy {L:Int × Int × Int × Int} (hL:SmL L) {t:Tapi_Q} (ht:Rt t) (hs:Sml t) :
  zw (zw (L.1*t.D)+zw (L.2.1*t.N))=L.1*t.D+L.2.1*t.N∧zw (zw (L.2.2.1*t.D)+zw (L.2.2.2*t.N))=L.2.2.1*t.D+L.2.2.2*t.N ∧
   (L.1*t.D+L.2.1*t.N).natAbs≤MX∧(L.2.2.1*t.D+L.2.2.2*t.N).natAbs≤MX:=by
 obtain ⟨h1,h2,h3,h4⟩:=hL
 have hD:=ht.1
 obtain ⟨s1,s2,s3⟩:=hs
 have hMX:MX=4611686018427387903:=rfl
 have b1:=Qnh h1 (t:=t.D) (by omega)
 have b2:=Qnh h2 (t:=t.N) (by omega)
 have b3:=Qnh h3 (t:=t.D) (by omega)
 have b4:=Qnh h4 (t:=t.N) (by omega)
 rw [w64 (n:=L.1*t.D) (by omega),w64 (n:=L.2.1*t.N) (by omega),w64 (n:=L.2.2.1*t.D) (by omega),w64 (n:=L.2.2.2*t.N) (by omega),w64 (by omega),w64 (by omega)]
 exact ⟨rfl,rfl,by omega,by omega⟩
def Qlz (aT aF:Nat) (t:Tapi_Q):Prop:=-(aT:Int)*t.D≤t.N∧t.N≤(aF:Int)*t.D
instance instInRg (aT aF:Nat) (t:Tapi_Q):Decidable (Qlz aT aF t):=by unfold Qlz; infer_instance
theorem Q16 (V:VN D) (hs:s.N < D.n) (hR:s.R < D.rows s.N) (hF:s.F < D.card s.N) (hT:s.T < D.card s.N):Yy D.net s.sh=some (-(D.W s.N s.R s.T:Int),(D.W s.N s.R s.F:Int)):=by
 have hWT:=V.W s.N s.R s.T hs hR hT
 have hg:=V.g60
 unfold Yy
 rw [show s.sh.Node=(s.N:Int) from rfl,V.node hs]
 simp only [Option.bind_some]
 rw [show s.sh.Row=(s.R:Int) from rfl,show lkI (D.node s.N).Rows (s.R:Int)=some (Qb (D.card s.N) fun x=>(D.W s.N s.R x:Int)) from Qp hR]
 simp only [Option.bind_some]
 rw [show s.sh.To=(s.T:Int) from rfl,Qp hT]
 simp only [Option.bind_some]
 rw [show s.sh.From=(s.F:Int) from rfl,Qp hF]
 simp only [Option.bind_some]
 rw [w64 (by omega)]
 congr 2
 omega
theorem Q2r (V:VN D) (h6:D.n≤6) (hs:s.N < D.n) (hR:s.R < D.rows s.N) (hF:s.F < D.card s.N) (hT:s.T < D.card s.N) {e:List Int} {v x:Nat} {L:Int × Int × Int × Int} (hl:Zf D.net e (v:Int) (x:Int) s.sh=some (L,0)) (hL:SmL L) (t:Tapi_Q) :
  X1 D.net e (v:Int) (x:Int) s.sh t=some (if Rt t then (if Sml t then (if Qlz (D.W s.N s.R s.T) (D.W s.N s.R s.F) t then atF L t else (⟨0,0⟩,2)) else (⟨0,0⟩,2)) else (⟨0,0⟩,5)):=by
 have hWT:=V.W s.N s.R s.T hs hR hT
 have hWF:=V.W s.N s.R s.F hs hR hF
 have hg:=V.g60
 unfold X1
 rw [hl]
 simp only [Option.bind_some]
 rw [if_neg (by simp),Qyp]
 simp only [Option.bind_some]
 by_cases h1:Rt t
 ·rw [if_pos h1,if_pos h1]
  by_cases h2:Sml t
  ·rw [if_pos h2,if_pos h2,if_neg (by simp),Q16 V hs hR hF hT]
   simp only [Option.bind_some]
   have hD:=h1.1
   have h2':=h2.2.2
   have m1:∀z:Nat,z≤60→0≤(z:Int)*t.D∧(z:Int)*t.D≤60000:=fun z hz=>by
    have a1:(z:Int)*t.D≤(60:Int)*1000:=Int.mul_le_mul (by omega) h2' (by omega) (by omega)
    have a2:0≤(z:Int)*t.D:=Int.mul_nonneg (by omega) (by omega)
    omega
   have m2:=m1 (D.W s.N s.R s.T) (by omega)
   have m3:=m1 (D.W s.N s.R s.F) (by omega)
   have m4:-(D.W s.N s.R s.T:Int)*t.D=-((D.W s.N s.R s.T:Int)*t.D):=Int.neg_mul _ _
   rw [w64 (n:=-(D.W s.N s.R s.T:Int)*t.D) (by omega),w64 (n:=(D.W s.N s.R s.F:Int)*t.D) (by omega)]
   by_cases h3:t.N < -(D.W s.N s.R s.T:Int)*t.D
   ·rw [if_pos (by simpa using h3),if_neg (fun h=>by have:=h.1; omega)]
   rw [if_neg (by simpa using h3)]
   by_cases h4:t.N > (D.W s.N s.R s.F:Int)*t.D
   ·rw [if_pos (by simpa using h4),if_neg (fun h=>by have:=h.2; omega)]
   obtain ⟨w1,w2,w3,w4⟩:=Qzy hL h1 h2
   rw [if_neg (by simpa using h4),if_pos (show Qlz (D.W s.N s.R s.T) (D.W s.N s.R s.F) t from ⟨by omega,by omega⟩),w1,w2]
   unfold atF
   by_cases h5:L.2.2.1*t.D+L.2.2.2*t.N=0
   ·rw [if_pos (by simpa using h5),if_pos h5]
   ·rw [if_neg (by simpa using h5),if_neg h5,Qt3 w3 w4 h5]
    rfl
  ·rw [if_neg h2,if_neg h2,if_pos (by simp)]
 ·rw [if_neg h1,if_neg h1,if_pos (by simp)]
def Q24 (L:Int × Int × Int × Int) (aT aF:Nat) (t:Tapi_Q):Prop:=¬ (L.2.2.1=0∧L.2.2.2=0)∧(t.D=1∧(t.N=-(aT:Int)∨t.N=(aF:Int))→0 < L.2.2.1+L.2.2.2*t.N)
instance instposF (L:Int × Int × Int × Int) (aT aF:Nat) (t:Tapi_Q):Decidable (Q24 L aT aF t):=by unfold Q24; infer_instance
end
end Go.Ab
namespace Go.Ab
open Go
set_option maxRecDepth 100000
set_option maxHeartbeats 400000
section
variable {D:NF}
def evJ (D:NF) (e:List Int) (j:Nat):Prop:=-1≤(e[j]?).getD 0∧(e[j]?).getD 0 < D.card j
def evL (D:NF) (e:List Int):Prop:=e.length=D.n∧∀j,j < D.n→evJ D e j
theorem Q05 {e:List Int} {j:Nat} (hj:j < e.length):lkI e (j:Int)=some ((e[j]?).getD 0):=by rw [Yx hj,List.getElem?_eq_getElem hj]; rfl
theorem Q2e (X:VX D) (e:List Int):(evL D e∧Zj D.net e=some 0)∨(¬ evL D e∧Zj D.net e=some 2):=by
 have V:=X.vn
 have hn:=V.n8
 have hlen:D.net.Nodes.length=D.n:=Qj
 obtain ⟨order,hr⟩:=Qoh X
 unfold Zj
 rw [hr,Option.bind_some,if_neg (by simp)]
 dsimp only
 rw [hlen]
 by_cases c:e.length=D.n
 ·rw [if_neg (by simp; omega)]
  have h:=Qpg (n:=D.n) (by omega) (evJ D e) (fun i (_:Unit)=>i) (body:=Zb e (⟨D.net,Qn D.n D.card,Qn D.n (setN D),order⟩,0)) (fun _=>()) (.inr ()) (.inl ())
   (fun j hj hI hg=>by
    obtain ⟨g1,g2⟩:=hg
    unfold Zb
    dsimp only
    rw [c,if_pos (dlt hj),Q05 (by omega),Option.bind_some,if_neg (by simp; exact g1),Zr hj,Option.bind_some,if_neg (by simp; exact g2)])
   (fun j hj hI hg=>by
    unfold Zb
    dsimp only
    rw [c,if_pos (dlt hj),Q05 (by omega),Option.bind_some]
    by_cases c1:(e[j]?).getD 0 < -1
    ·rw [if_pos (by simpa using c1)]
    ·rw [if_neg (by simpa using c1),Zr hj,Option.bind_some,if_pos (by
      rw [decide_eq_true_eq]
      exact Int.not_lt.1 fun hh=>hg ⟨by omega,hh⟩)])
   (fun hI=>by unfold Zb; dsimp only; rw [c,if_neg (nlt _)])
  rcases h with ⟨h,e1⟩ | ⟨h,e1⟩
  ·left; refine ⟨⟨c,h⟩,?_⟩
   have e1:Qd fuel (Zb e (⟨D.net,Qn D.n D.card,Qn D.n (setN D),order⟩,0)) 0=some (.inr ()):=e1
   rw [e1]; rfl
  ·right; refine ⟨fun hh=>h hh.2,?_⟩
   have e1:Qd fuel (Zb e (⟨D.net,Qn D.n D.card,Qn D.n (setN D),order⟩,0)) 0=some (.inl ()):=e1
   rw [e1]; rfl
 ·rw [if_pos (by simp; omega)]
  exact .inr ⟨fun hh=>c hh.1,rfl⟩
end
end Go.Ab
namespace Go.Ab
open Go
set_option maxRecDepth 100000
set_option maxHeartbeats 400000
def NF.fr (D:NF) (m:Nat) (w:Nat → Nat):Nat → Nat := fun k=>Qk k fun v=>if m.testBit v=true then 1 else D.wt w v
def fS (D:NF) (m:Nat) (w:Nat → Nat):Int:=(D.fr m w D.n:Int)
section
variable {D:NF} {w:Nat → Nat} {m:Nat}
variable (V:VN D)
include V
theorem VN.fr_le (hw:D.ok w) {k:Nat} (hk:k≤D.n):D.fr m w k≤167961600000000:=by
 have h1:D.fr m w k≤60^k:=J7 fun v hv=>by
  split
  ·omega
  ·exact V.wt_le hw (by omega)
 exact Nat.le_trans h1 (Nat.le_trans (Nat.pow_le_pow_right (by omega) (Nat.le_trans hk V.n8)) (by decide))
theorem Qwy:Ext D (fS D m):=fun w w' h=>by
 unfold fS NF.fr
 congr 1
 exact Va fun v hv=>by rw [Qrv V h hv]
theorem Q07:∀w,D.ok w→BD 1 (fS D m w):=fun w hw=>by
 have:=V.fr_le (m:=m) hw (Nat.le_refl _)
 unfold fS BD KK; omega
theorem Qph {w:Nat → Nat}:0≤fS D m w:=by unfold fS; omega
end
end Go.Ab
namespace Go.Ab
open Go
set_option maxRecDepth 100000
set_option maxHeartbeats 400000
theorem Q31 {D:NF}:PC D D.n 0=Qk D.n D.card:=by have:=Qk5 (D:=D) D.n 0; simpa [Qk] using this
theorem Qh2 {n i x:Nat} {w:Nat → Nat}:(Qn n w).set i (x:Int)=Qn n (Zd w i x):=by
 unfold Qn; rw [Zs]
 refine Qh fun j _=>?_
 unfold Zd
 split <;> rfl
theorem Q04 {n:Nat}:List.replicate (Int.toNat (n:Int)) (0:Int)=Qn n fun _=>0:=by rw [Int.toNat_natCast]; exact Jr n 0
section
variable {D:NF} {S E:Nat → Int}
theorem Qj5 {f:(Nat → Nat)→Int} {K:Nat → Int} (hf:∀w,0≤f w):∀(d i:Nat) (w:Nat → Nat),0≤TM D K f d i w
 | 0,i,w=>hf w
 | d+1,i,w=>Y0 fun x _=>by
  split
  ·exact Qj5 hf d (i+1) _
  ·exact Int.le_refl _
theorem Qwn (V:VN D) {m:Nat} {K:Nat → Int}:0≤SW D K (fS D m)∧(SW D K (fS D m)).natAbs≤MX:=by
 have h1:0≤SW D K (fS D m):=Qj5 (fun w=>Qph V) _ _ _
 have h2:=Qkw V (m:=1024) (E:=K) V.worlds (Q07 V (m:=m))
 unfold BD KK at h2
 refine ⟨h1,?_⟩
 unfold MX; omega
end
end Go.Ab
namespace Go.Ab
open Go
open Classical
set_option maxRecDepth 100000
set_option maxHeartbeats 400000
section
variable {D:NF} {S E:Nat → Int}
theorem Qwf (V:VN D) {f:(Nat → Nat)→Int} (hf:Ext D f) {K:Nat → Int}:SW D K f=Qi (Qk D.n D.card) (fun W=>if Kn D.n K 0 (dig D W) then f (dig D W) else 0):=by
 have hmix:∀W,mix D 0 (fun _=>0) W=dig D W:=fun W=>by funext j; simp [mix]
 unfold SW
 rw [←Qnw V hf D.n 0 (fun _=>0) (by omega),Q31]
 exact Z9 fun W _=>by rw [hmix]
theorem Qy8 (V:VN D) {m v k:Nat} {K:Nat → Int}:0≤SW D K (at' v k (fS D m))∧(SW D K (at' v k (fS D m))).natAbs≤MX:=by
 have h1:0≤SW D K (at' v k (fS D m)):=Qj5 (fun w=>by unfold at'; split; exact Qph V; exact Int.le_refl _) _ _ _
 have h2:=Qkw V (m:=1024) (E:=K) V.worlds (Qni (v:=v) (x:=k) (Q07 V (m:=m)))
 unfold BD KK at h2
 refine ⟨h1,?_⟩
 unfold MX; omega
end
end Go.Ab
namespace Go.Ab
open Go
open Classical
set_option maxRecDepth 100000
set_option maxHeartbeats 400000
def num (c w:Nat → Nat):Nat → Nat
 | 0=>0
 | n+1=>num c w n*c n+w n
def pd (c:Nat → Nat):Nat → Nat → Nat → Nat
 | 0,_,_=>0
 | n+1,k,j=>if j=n then k % c n else pd c n (k / c n) j
theorem Qpj {c w w':Nat → Nat}:∀{n:Nat},(∀j,j < n→w j=w' j)→num c w n=num c w' n
 | 0,_=>rfl
 | n+1,h=>by unfold num; rw [Qpj fun j hj=>h j (by omega),h n (by omega)]
theorem Qxi {c w:Nat → Nat}:∀{n:Nat},(∀j,j < n→w j < c j)→num c w n < Qk n c
 | 0,_=>by simp [num,Qk]
 | n+1,h=>by
  have h1:=Qxi (n:=n) fun j hj=>h j (by omega)
  have h2:=h n (by omega)
  unfold num Qk
  have:(num c w n+1)*c n≤Qk n c*c n:=Nat.mul_le_mul_right _ h1
  rw [Nat.succ_mul] at this
  omega
theorem Qq7 {c w:Nat → Nat}:∀{n:Nat},(∀j,j < n→w j < c j)→∀j,j < n→pd c n (num c w n) j=w j
 | 0,_,j,hj=>by omega
 | n+1,h,j,hj=>by
  have h2:=h n (by omega)
  unfold pd num
  by_cases e:j=n
  ·subst e; rw [if_pos rfl,Nat.mul_comm,Nat.mul_add_mod,Nat.mod_eq_of_lt h2]
  ·rw [if_neg e,Nat.mul_comm,Nat.mul_add_div (by omega),Nat.div_eq_of_lt h2,Nat.add_zero]
   exact Qq7 (fun j hj=>h j (by omega)) j (by omega)
end Go.Ab
namespace Go.Ab
open Go
set_option maxRecDepth 100000
set_option maxHeartbeats 400000
theorem Qyu (a b:Int):Qai a b=some (decide (a < b)):=by
 unfold Qai K2
 rw [Option.bind_some,if_neg (by simp)]
theorem Q1p {i j:Nat} (h:i+j < 1000):zw (Int.fdiv (zv (zw ((i:Int)+(j:Int)))) (2^min (Int.toNat 1) (IntKind.bits .u64)))=(((i+j) / 2:Nat):Int):=by
 rw [w64 (n:=(i:Int)+j) (by omega),show (i:Int)+j=((i+j:Nat):Int) by omega,Qer (by omega),show min (Int.toNat 1) (IntKind.bits .u64)=1 from rfl,Qsa,w64 (by omega)]
theorem Q4h {l:List Nat} (hs:l.Pairwise (· < ·)) (hl:l.length≤8) {v:Nat} (hv:v ∉ l) :
  ∃pos:Nat,Xb (nI l) (v:Int)=some ((pos:Int),false)∧pos≤l.length∧(∀(k:Nat) (p:Nat),l[k]?=some p→k < pos→p < v)∧(∀(k:Nat) (p:Nat),l[k]?=some p→pos≤k→v < p):=by
 have mono:∀(a b p r:Nat),l[a]?=some p→l[b]?=some r→a < b→p < r:=fun a b p r ha hb hab=>by
  obtain ⟨h1,e1⟩:=List.getElem?_eq_some_iff.1 ha
  obtain ⟨h2,e2⟩:=List.getElem?_eq_some_iff.1 hb
  have:=List.pairwise_iff_getElem.1 hs a b h1 h2 hab
  omega
 have hsp:=Js (body:=Xz (nI l) (v:Int)) (fun s=>∃i j:Nat,i≤j∧j≤l.length∧(∀(k:Nat) (p:Nat),l[k]?=some p→k < i→p < v)∧(∀(k:Nat) (p:Nat),l[k]?=some p→j≤k→v < p)∧s=((i:Int),(j:Int)))
  (fun s=>(s.2 - s.1).toNat) (fun r=>∃pos:Nat,r=((pos:Nat):Int)∧(pos≤l.length:Prop)∧(∀(k:Nat) (p:Nat),l[k]?=some p→k < pos→p < v)∧(∀(k:Nat) (p:Nat),l[k]?=some p→pos≤k→v < p))
  (fun s hs=>by
   obtain ⟨i,j,hij,hj,h1,h2,rfl⟩:=hs
   unfold Xz
   dsimp only
   by_cases c:i < j
   ·left
    have hm:(i+j) / 2 < l.length:=by omega
    rw [if_pos (by rw [decide_eq_true_eq]; omega),Q1p (by omega),Qkv hm,Option.bind_some,Qyu,Option.bind_some]
    have hg:l[(i+j) / 2]?=some l[(i+j) / 2]:=List.getElem?_eq_getElem hm
    by_cases c2:l[(i+j) / 2] < v
    ·rw [if_pos (by rw [decide_eq_true_eq]; omega)]
     refine ⟨_,rfl,⟨(i+j) / 2+1,j,by omega,hj,fun k p hk hlt=>?_,h2,by rw [Qab (by omega)]⟩,by dsimp only; rw [Qab (by omega)]; omega⟩
     rcases Nat.lt_or_ge k ((i+j) / 2) with e | e
     ·have:=mono _ _ _ _ hk hg e; omega
     ·have:k=(i+j) / 2:=by omega
      subst this; rw [hg] at hk; cases hk; exact c2
    ·rw [if_neg (by rw [decide_eq_true_eq]; omega)]
     refine ⟨_,rfl,⟨i,(i+j) / 2,by omega,by omega,h1,fun k p hk hge=>?_,rfl⟩,by dsimp only; omega⟩
     have hne:l[(i+j) / 2]≠v:=fun e=>hv (e ▸ List.getElem_mem hm)
     rcases Nat.lt_or_ge ((i+j) / 2) k with e | e
     ·have:=mono _ _ _ _ hg hk e; omega
     ·have:k=(i+j) / 2:=by omega
      subst this; rw [hg] at hk; cases hk; omega
   ·right
    have:i=j:=by omega
    subst this
    rw [if_neg (by rw [decide_eq_true_eq]; omega)]
    exact ⟨_,rfl,i,rfl,hj,h1,h2⟩)
  fuel ((0:Nat),(l.length:Int)) ⟨0,l.length,by omega,by omega,fun k p _ h=>by omega,fun k p hk h=>by
   have:=(List.getElem?_eq_some_iff.1 hk).1; omega,rfl⟩ (by unfold fuel; simp; omega)
 obtain ⟨r,hr,pos,rfl,p1,p2,p3⟩:=hsp
 refine ⟨pos,?_,by exact_mod_cast p1,fun k p h1 h2=>p2 k p h1 (by exact_mod_cast h2),fun k p h1 h2=>p3 k p h1 (by exact_mod_cast h2)⟩
 unfold Xb
 rw [Qc2]
 refine Z5 hr ?_
 by_cases c:pos < l.length
 ·have hg:l[pos]?=some l[pos]:=List.getElem?_eq_getElem c
  have:=p3 pos _ hg (Nat.le_refl _)
  rw [if_pos (by rw [decide_eq_true_eq]; omega),Qkv c,Option.bind_some,if_neg (by simp; omega)]
  unfold Jl
  rw [Option.bind_some,if_neg (by simp)]
 ·rw [if_neg (by rw [decide_eq_true_eq]; omega)]
theorem Q3j {l:List Nat} (hl:l.length≤8) {v pos:Nat} (hp:pos≤l.length):Qox (nI l) (pos:Int) (v:Int)=some (nI (l.take pos++v::l.drop pos)):=by
 unfold Qox
 rw [Qc2,if_pos ⟨by omega,by omega,by omega⟩,Int.toNat_natCast]
 simp [nI]
end Go.Ab
namespace Go.Ab
open Go
set_option maxRecDepth 100000
set_option maxHeartbeats 400000
def plc (I c r x:Nat):Nat := (r / I*c+x)*I+r % I
def rwO (I c j:Nat):Nat := j / (I*c)*I+j % I
def vlO (I c j:Nat):Nat := j / I % c
section
variable {I c:Nat} (hI:0 < I) (hc:0 < c)
include hI hc
theorem Quc {r x:Nat}:plc I c r x / I=r / I*c+x:=by
 unfold plc
 rw [Nat.mul_comm,Nat.mul_add_div hI,Nat.div_eq_of_lt (Nat.mod_lt _ hI),Nat.add_zero]
theorem Q1u {r x:Nat}:plc I c r x % I=r % I:=by
 unfold plc
 rw [Nat.mul_comm,Nat.mul_add_mod,Nat.mod_mod]
theorem Qyk {r x:Nat} (hx:x < c):vlO I c (plc I c r x)=x:=by
 unfold vlO
 rw [Quc hI hc,Nat.mul_comm,Nat.mul_add_mod,Nat.mod_eq_of_lt hx]
theorem Qxz {r x:Nat} (hx:x < c):rwO I c (plc I c r x)=r:=by
 unfold rwO
 rw [Q1u hI hc,←Nat.div_div_eq_div_mul,Quc hI hc,Nat.mul_comm (r / I) c,Nat.mul_add_div hc,Nat.div_eq_of_lt hx,Nat.add_zero,Nat.mul_comm]
 exact Nat.div_add_mod r I
theorem Q2w {j:Nat}:plc I c (rwO I c j) (vlO I c j)=j:=by
 have h1:rwO I c j / I=j / (I*c):=by
  unfold rwO
  rw [Nat.mul_comm,Nat.mul_add_div hI,Nat.div_eq_of_lt (Nat.mod_lt _ hI),Nat.add_zero]
 have h2:rwO I c j % I=j % I:=by
  unfold rwO
  rw [Nat.mul_comm,Nat.mul_add_mod,Nat.mod_mod]
 unfold plc
 rw [h1,h2,←Nat.div_div_eq_div_mul]
 unfold vlO
 rw [Nat.mul_comm (j / I / c) c,Nat.div_add_mod,Nat.mul_comm]
 exact Nat.div_add_mod j I
theorem Q4z {H j:Nat} (hj:j < H*I*c):rwO I c j < H*I:=by
 have h1:j / (I*c) < H:=(Nat.div_lt_iff_lt_mul (Nat.mul_pos hI hc)).2 (by rw [←Nat.mul_assoc]; exact hj)
 have h2:=Nat.mod_lt j hI
 unfold rwO
 have:(j / (I*c)+1)*I≤H*I:=Nat.mul_le_mul_right _ h1
 rw [Nat.succ_mul] at this
 omega
theorem Q3r {H r x:Nat} (hr:r < H*I) (hx:x < c):plc I c r x < H*I*c:=by
 have h1:r / I < H:=(Nat.div_lt_iff_lt_mul hI).2 hr
 have h2:=Nat.mod_lt r hI
 unfold plc
 have h3:(r / I+1)*c≤H*c:=Nat.mul_le_mul_right _ h1
 rw [Nat.succ_mul] at h3
 have h4:(r / I*c+x+1)*I≤H*c*I:=Nat.mul_le_mul_right _ (by omega)
 rw [Nat.succ_mul] at h4
 have h5:H*c*I=H*I*c:=Nat.mul_right_comm _ _ _
 omega
end
theorem Q11 {f:Nat → Nat} {l:List Nat}:lprod f l=ix.lprodR f l:=by
 have:∀(l:List Nat) (r:Nat),l.foldl (fun r p=>r*f p) r=r*ix.lprodR f l:=fun l=>by
  induction l with
  | nil=>intro r; simp [ix.lprodR]
  | cons p l ih=>intro r; simp only [List.foldl_cons,ih,ix.lprodR,Nat.mul_assoc]
 unfold lprod
 rw [this,Nat.one_mul]
theorem Ja {f:Nat → Nat}:∀{a b:List Nat},ix.lprodR f (a++b)=ix.lprodR f a*ix.lprodR f b
 | [],b=>by simp [ix.lprodR]
 | p::a,b=>by simp only [List.cons_append,ix.lprodR,Ja (a:=a),Nat.mul_assoc]
theorem Qij {f:Nat → Nat}:∀{l:List Nat},(∀p∈l,1≤f p)→1≤ix.lprodR f l
 | [],_=>Nat.le_refl _
 | p::l,h=>Nat.mul_pos (h p (by simp)) (Qij fun q hq=>h q (by simp [hq]))
theorem Qjv {c w:Nat → Nat}:∀{a b:List Nat},ix c w (a++b)=ix c w a*ix.lprodR c b+ix c w b
 | [],b=>by simp [ix]
 | p::a,b=>by
  simp only [List.cons_append,ix,Qjv (a:=a),Ja]
  rw [Nat.add_mul,Nat.mul_assoc,Nat.add_assoc]
theorem Qqj {c w:Nat → Nat}:∀{l:List Nat},(∀p∈l,w p < c p)→ix c w l < ix.lprodR c l
 | [],_=>by simp [ix,ix.lprodR]
 | p::l,h=>by
  have h1:=h p (by simp)
  have h2:=Qqj (l:=l) fun q hq=>h q (by simp [hq])
  simp only [ix,ix.lprodR]
  have:(w p+1)*ix.lprodR c l≤c p*ix.lprodR c l:=Nat.mul_le_mul_right _ h1
  rw [Nat.succ_mul] at this
  omega
theorem Q2p {c w:Nat → Nat} {hi lo:List Nat} {v:Nat} (hlo:∀p∈lo,w p < c p) (hpos:∀p∈lo,1≤c p) (hv:w v < c v) :
  rwO (ix.lprodR c lo) (c v) (ix c w (hi++v::lo))=ix c w (hi++lo)∧vlO (ix.lprodR c lo) (c v) (ix c w (hi++v::lo))=w v:=by
 have hI:=Qij hpos
 have hc:0 < c v:=by omega
 have h1:=Qqj hlo
 have e:ix c w (hi++v::lo)=plc (ix.lprodR c lo) (c v) (ix c w (hi++lo)) (w v):=by
  unfold plc
  rw [Qjv,Qjv]
  have d1:(ix c w hi*ix.lprodR c lo+ix c w lo) / ix.lprodR c lo=ix c w hi:=by rw [Nat.mul_comm,Nat.mul_add_div hI,Nat.div_eq_of_lt h1,Nat.add_zero]
  have d2:(ix c w hi*ix.lprodR c lo+ix c w lo) % ix.lprodR c lo=ix c w lo:=by rw [Nat.mul_comm,Nat.mul_add_mod,Nat.mod_eq_of_lt h1]
  rw [d1,d2]
  simp only [ix,ix.lprodR]
  rw [Nat.add_mul,Nat.mul_assoc,Nat.add_assoc]
 rw [e]
 exact ⟨Qxz hI hc hv,Qyk hI hc hv⟩
end Go.Ab
namespace Go.Ab
open Go
set_option maxRecDepth 100000
set_option maxHeartbeats 400000
theorem Qy1 {l:List Int} (h:l.length≤1000):Zq l=some l:=by
 cases l with
 | nil=>rfl
 | cons c d =>
  show Yg c d=_
  unfold Yg
  rw [if_pos (by simp at h ⊢; omega)]
theorem Qdi {f:Nat → Nat} {l:List Nat} (h:∀p∈l,f p≤4) (hl:l.length≤9):ix.lprodR f l≤262144:=by
 refine Nat.le_trans (Qxk h) ?_
 exact Nat.le_trans (Nat.pow_le_pow_right (by omega) hl) (by decide)
section
variable {D:NF}
theorem Q32 (V:VN D) {vars:List Nat} (hvars:∀p∈vars,p < D.n) (hl:vars.length≤9) {pos:Nat} {sets o:List Int} {b:Bool} :
  Qd fuel (Xj (nI vars) ⟨D.net,Qn D.n D.card,sets,o⟩ ((pos:Int),b)) (0,1,[])=some ((ix.lprodR D.card (vars.drop (pos+1)):Int),nI (vars.map D.card)):=by
 have hr:=Ku (n:=vars.length) (k0:=0) (by omega) (by omega) (fun i (t:Int × List Int)=>(i,t.1,t.2)) (body:=Xj (nI vars) ⟨D.net,Qn D.n D.card,sets,o⟩ ((pos:Int),b))
  (fun k=>((ix.lprodR D.card ((vars.take k).drop (pos+1)):Int),nI ((vars.take k).map D.card))) ((ix.lprodR D.card (vars.drop (pos+1)):Int),nI (vars.map D.card))
  (fun k _ hk=>by
   have hp:=hvars _ (List.getElem_mem hk)
   have hc:=V.card _ hp
   have htk:vars.take (k+1)=vars.take k++[vars[k]]:=(List.take_append_getElem hk).symm
   have hcards:nI ((vars.take k).map D.card)++[(D.card vars[k]:Int)]=nI ((vars.take (k+1)).map D.card):=by
    rw [htk,List.map_append]; unfold nI; rw [List.map_append]; rfl
   have hb:ix.lprodR D.card ((vars.take (k+1)).drop (pos+1))≤262144:=Qdi (fun p hp=>(V.card p (hvars p (List.mem_of_mem_take (List.mem_of_mem_drop hp)))).2) (by simp; omega)
   unfold Xj
   dsimp only
   rw [Qc2,if_pos (dlt hk),Qkv hk,Option.bind_some,Zr hp,Option.bind_some,if_pos (by simp [nI]; omega),hcards]
   by_cases c:k > pos
   ·have e:ix.lprodR D.card ((vars.take (k+1)).drop (pos+1))=ix.lprodR D.card ((vars.take k).drop (pos+1))*D.card vars[k]:=by
     rw [htk,List.drop_append_of_le_length (by simp; omega),Ja]
     simp [ix.lprodR]
    rw [if_pos (by rw [decide_eq_true_eq]; omega),←Int.natCast_mul,←e,w64 (n:=((ix.lprodR D.card ((vars.take (k+1)).drop (pos+1)):Nat):Int)) (by omega)]
   ·have e:(vars.take (k+1)).drop (pos+1)=(vars.take k).drop (pos+1):=by
     rw [List.drop_of_length_le (by simp; omega),List.drop_of_length_le (by simp; omega)]
    rw [if_neg (by rw [decide_eq_true_eq]; omega),e])
  (by unfold Xj; dsimp only; rw [Qc2,if_neg (nlt _),List.take_length])
 rw [List.take_zero,List.drop_nil] at hr
 exact hr
def Qf9 (D:NF) (v I:Nat) (j:Nat):Int:=(D.W v (rwO I (D.card v) j) (vlO I (D.card v) j):Int)
def Qb7 (D:NF) (v I r x:Nat) (j:Nat):Int:=if rwO I (D.card v) j < r∨(rwO I (D.card v) j=r∧vlO I (D.card v) j < x) then Qf9 D v I j else 0
theorem Q2v (V:VN D) {v I H r:Nat} {cs:List Int} {W0:List Int} (hv:v < D.n) (hI:0 < I) (hr:r < H*I) (hb:H*I≤262144) :
  Qd fuel (Xn (Qb (D.card v) fun x=>(D.W v r x:Int)) ((I:Int),cs) ((r:Int),W0) (D.node v)) (0,Qb (H*I*D.card v) (Qb7 D v I r 0))=some (Qb (H*I*D.card v) (Qb7 D v I (r+1) 0)):=by
 have hc:=V.card v hv
 have hc0:0 < D.card v:=by omega
 have hbc:H*I*D.card v≤262144*4:=Nat.mul_le_mul hb hc.2
 have hrn:=Ku (n:=D.card v) (k0:=0) (by omega) (by omega) (fun i (t:List Int)=>(i,t)) (body:=Xn (Qb (D.card v) fun x=>(D.W v r x:Int)) ((I:Int),cs) ((r:Int),W0) (D.node v)) (fun x=>Qb (H*I*D.card v) (Qb7 D v I r x)) (Qb (H*I*D.card v) (Qb7 D v I (r+1) 0))
  (fun x _ hx=>by
   have hpl:=Q3r hI hc0 hr hx
   have hle:=Nat.div_le_self r I
   have e1:zw ((zw ((zw ((zw ((zw (Int.tdiv (r:Int) (I:Int)))*(D.node v).Card))+(x:Int)))*(I:Int)))+(Int.tmod (r:Int) (I:Int)))=((plc I (D.card v) r x:Nat):Int):=by
    have d1:Int.tdiv (r:Int) (I:Int)=((r / I:Nat):Int):=by rw [Int.tdiv_eq_ediv_of_nonneg (by omega),←Int.natCast_ediv]
    have d2:Int.tmod (r:Int) (I:Int)=((r % I:Nat):Int):=by rw [Jx (by omega),←Int.natCast_emod]
    have m1:r / I*D.card v≤262144*4:=Nat.mul_le_mul (by omega) hc.2
    have m2:(r / I*D.card v+x)*I≤262144*4:=by unfold plc at hpl; omega
    rw [d1,d2,show (D.node v).Card=(D.card v:Int) from rfl,w64 (n:=((r / I:Nat):Int)) (by generalize r / I=q at *; omega),←Int.natCast_mul,w64 (n:=((r / I*D.card v:Nat):Int)) (by generalize r / I*D.card v=q at *; omega),←Int.natCast_add,
     w64 (n:=((r / I*D.card v+x:Nat):Int)) (by generalize r / I*D.card v=q at *; omega),←Int.natCast_mul,w64 (n:=(((r / I*D.card v+x)*I:Nat):Int)) (by generalize (r / I*D.card v+x)*I=q at *; omega),←Int.natCast_add]
    rw [show (r / I*D.card v+x)*I+r % I=plc I (D.card v) r x from rfl]
    exact w64 (by omega)
   have hset:(Qb (H*I*D.card v) (Qb7 D v I r x)).set (plc I (D.card v) r x) (D.W v r x:Int)=Qb (H*I*D.card v) (Qb7 D v I r (x+1)):=by
    rw [Zs]
    refine Qh fun j hj=>?_
    by_cases e:j=plc I (D.card v) r x
    ·subst e
     rw [if_pos rfl]
     unfold Qb7 Qf9
     rw [Qxz hI hc0 hx,Qyk hI hc0 hx,if_pos (.inr ⟨rfl,by omega⟩)]
    ·rw [if_neg e]
     have hne:¬ (rwO I (D.card v) j=r∧vlO I (D.card v) j=x):=fun h=>e (by rw [←Q2w hI hc0 (j:=j),h.1,h.2])
     unfold Qb7
     by_cases c:rwO I (D.card v) j < r∨(rwO I (D.card v) j=r∧vlO I (D.card v) j < x)
     ·rw [if_pos c,if_pos (c.imp id fun h=>⟨h.1,by omega⟩)]
     ·rw [if_neg c,if_neg (fun h=>c (h.imp id fun h=>⟨h.1,by
       have:vlO I (D.card v) j≠x:=fun hx=>hne ⟨h.1,hx⟩
       omega⟩))]
   unfold Xn
   dsimp only
   rw [Qj,if_pos (dlt hx),show lkI (Qb (D.card v) fun x=>(D.W v r x:Int)) (x:Int)=some (D.W v r x:Int) from Qp hx,Option.bind_some,if_pos (by omega),if_pos (by omega),e1,
    show lkI (Qb (H*I*D.card v) (Qb7 D v I r x)) ((plc I (D.card v) r x:Nat):Int)=some _ from Qp hpl,Option.bind_some,Option.bind_some,Int.toNat_natCast,hset])
  (by
   unfold Xn
   dsimp only
   rw [Qj,if_neg (nlt _)]
   refine congrArg (fun l=>some (Qm.done l)) (Qh fun j hj=>?_)
   have hvl:vlO I (D.card v) j < D.card v:=Nat.mod_lt _ hc0
   unfold Qb7
   by_cases c:rwO I (D.card v) j < r+1
   ·rw [if_pos (by omega),if_pos (.inl c)]
   ·rw [if_neg (by omega),if_neg (by omega)])
 exact hrn
theorem Q3z (V:VN D) {v I H:Nat} {cs:List Int} (hv:v < D.n) (hI:0 < I) (hrow:D.rows v=H*I) (hb:H*I≤262144) :
  Qd fuel (Xk (D.node v) ((I:Int),cs)) (0,Qb (H*I*D.card v) fun _=>0)=some (Qb (H*I*D.card v) (Qf9 D v I)):=by
 have hc:=V.card v hv
 have hrows:(D.node v).Rows=Qb (D.rows v) fun r=>Qb (D.card v) fun x=>(D.W v r x:Int):=rfl
 have hrn:=Ku (n:=D.rows v) (k0:=0) (by omega) (by omega) (fun i (t:List Int)=>(i,t)) (body:=Xk (D.node v) ((I:Int),cs)) (fun r=>Qb (H*I*D.card v) (Qb7 D v I r 0)) (Qb (H*I*D.card v) (Qf9 D v I))
  (fun r _ hr=>by
   unfold Xk
   dsimp only
   rw [hrows,Qj,if_pos (dlt hr),show lkI (Qb (D.rows v) fun r=>Qb (D.card v) fun x=>(D.W v r x:Int)) (r:Int)=some (Qb (D.card v) fun x=>(D.W v r x:Int)) from Qp hr,Option.bind_some]
   exact Z5 (Q2v V hv hI (by omega) hb) rfl)
  (by
   unfold Xk
   dsimp only
   rw [hrows,Qj,if_neg (nlt _)]
   refine congrArg (fun l=>some (Qm.done l)) (Qh fun j hj=>?_)
   have:=Q4z hI (show 0 < D.card v by omega) hj
   unfold Qb7
   rw [if_pos (.inl (by omega))])
 have e0:(Qb (H*I*D.card v) fun _=>(0:Int))=Qb (H*I*D.card v) (Qb7 D v I 0 0):=Qh fun j _=>by
  unfold Qb7; rw [if_neg (by omega)]
 rw [e0]; exact hrn
theorem Qw0 (X:VX D) {v:Nat} (hv:v < D.n) {sets o:List Int}:∃hi lo:List Nat,D.par v=hi++lo ∧
  Yc ⟨D.net,Qn D.n D.card,sets,o⟩ (v:Int)=some ⟨nI (hi++v::lo),nI ((hi++v::lo).map D.card),Qb (ix.lprodR D.card hi*ix.lprodR D.card lo*D.card v) (Qf9 D v (ix.lprodR D.card lo))⟩:=by
 have V:=X.vn
 have hc:=V.card v hv
 have hlen:(D.par v).length≤8:=V.len v hv
 obtain ⟨pos,hbs,hp,_,_⟩:=Q4h (X.sorted v hv) hlen (X.self v hv)
 have hsplit:D.par v=(D.par v).take pos++(D.par v).drop pos:=(List.take_append_drop pos _).symm
 refine ⟨(D.par v).take pos,(D.par v).drop pos,hsplit,?_⟩
 have hmem:∀p∈(D.par v).take pos++v::(D.par v).drop pos,p < D.n:=fun p hp=>by
  simp only [List.mem_append,List.mem_cons] at hp
  rcases hp with h | rfl | h
  ·exact V.par v hv p (List.mem_of_mem_take h)
  ·exact hv
  ·exact V.par v hv p (List.mem_of_mem_drop h)
 have hvl:((D.par v).take pos++v::(D.par v).drop pos).length≤9:=by simp; omega
 have hdrop:((D.par v).take pos++v::(D.par v).drop pos).drop (pos+1)=(D.par v).drop pos:=by
  rw [List.drop_append,List.drop_of_length_le (by simp; omega)]
  simp [List.length_take,Nat.min_eq_left hp]
 have hI:0 < ix.lprodR D.card ((D.par v).drop pos):=Qij fun p hp=>(V.card p (V.par v hv p (List.mem_of_mem_drop hp))).1
 have hrow:D.rows v=ix.lprodR D.card ((D.par v).take pos)*ix.lprodR D.card ((D.par v).drop pos):=by
  unfold NF.rows
  rw [Q11,←Ja,←hsplit]
 have hb:ix.lprodR D.card ((D.par v).take pos)*ix.lprodR D.card ((D.par v).drop pos)≤262144:=by
  rw [←Ja,←hsplit]
  exact Qdi (fun p hp=>(V.card p (V.par v hv p hp)).2) (by omega)
 have hbc:ix.lprodR D.card ((D.par v).take pos)*ix.lprodR D.card ((D.par v).drop pos)*D.card v≤262144*4:=Nat.mul_le_mul hb hc.2
 have hpar:(D.node v).Parents=nI (D.par v):=rfl
 have hrl:((D.node v).Rows.length:Int)=((ix.lprodR D.card ((D.par v).take pos)*ix.lprodR D.card ((D.par v).drop pos):Nat):Int):=by
  rw [←hrow]
  show ((Qb (D.rows v) fun r=>Qb (D.card v) fun x=>(D.W v r x:Int)).length:Int)=_
  rw [Qj]
 have hsz:zw (((D.node v).Rows.length:Int)*(D.node v).Card)=((ix.lprodR D.card ((D.par v).take pos)*ix.lprodR D.card ((D.par v).drop pos)*D.card v:Nat):Int):=by
  rw [hrl,show (D.node v).Card=(D.card v:Int) from rfl,←Int.natCast_mul]
  exact w64 (by omega)
 unfold Yc
 rw [V.node hv,Option.bind_some,hpar,hbs,Option.bind_some,Qy1 (by rw [Qc2]; omega),Option.bind_some]
 dsimp only
 rw [Q3j hlen hp,Option.bind_some,Q32 V hmem hvl,Option.bind_some,hdrop,hsz,if_pos (by omega),Int.toNat_natCast,show List.replicate (ix.lprodR D.card ((D.par v).take pos)*ix.lprodR D.card ((D.par v).drop pos)*D.card v) (0:Int)=Qb (ix.lprodR D.card ((D.par v).take pos)*ix.lprodR D.card ((D.par v).drop pos)*D.card v) fun _=>0 from Jr _ _]
 exact Z5 (Q3z V hv hI hrow hb) rfl
end
end Go.Ab
namespace Go.Ab
open Go
set_option maxRecDepth 100000
set_option maxHeartbeats 400000
section
variable {D:NF}
structure Vs (D:NF) (hi lo:Nat → List Nat):Prop where
 par:∀v,v < D.n→D.par v=hi v++lo v
def vsF (hi lo:Nat → List Nat) (v:Nat):List Nat := hi v++v::lo v
def fct (D:NF) (hi lo:Nat → List Nat) (v:Nat):Qt:=⟨nI (vsF hi lo v),nI ((vsF hi lo v).map D.card),Qb (ix.lprodR D.card (hi v)*ix.lprodR D.card (lo v)*D.card v) (Qf9 D v (ix.lprodR D.card (lo v)))⟩
theorem Qut (X:VX D):∃hi lo:Nat → List Nat,Vs D hi lo∧Qbd D.net=some (Qb D.n (fct D hi lo),0):=by
 have V:=X.vn
 have hn8:=V.n8
 have hlen:D.net.Nodes.length=D.n:=Qj
 obtain ⟨o,hr⟩:=Qoh X
 have hch:∀v,∃q:List Nat × List Nat,v < D.n→D.par v=q.1++q.2∧Yc ⟨D.net,Qn D.n D.card,Qn D.n (setN D),o⟩ (v:Int)=some ⟨nI (q.1++v::q.2),nI ((q.1++v::q.2).map D.card),Qb (ix.lprodR D.card q.1*ix.lprodR D.card q.2*D.card v) (Qf9 D v (ix.lprodR D.card q.2))⟩:=fun v=>by
  by_cases hv:v < D.n
  ·obtain ⟨hi,lo,h1,h2⟩:=Qw0 X hv (sets:=Qn D.n (setN D)) (o:=o)
   exact ⟨(hi,lo),fun _=>⟨h1,h2⟩⟩
  ·exact ⟨([],[]),fun h=>absurd h hv⟩
 refine ⟨fun v=>(Classical.choose (hch v)).1,fun v=>(Classical.choose (hch v)).2,⟨fun v hv=>(Classical.choose_spec (hch v) hv).1⟩,?_⟩
 have hz:List.replicate (Int.toNat (D.n:Int)) ((Qt.mk [] [] []):Qt)=Qb D.n fun _=>Qt.mk [] [] []:=by rw [Int.toNat_natCast]; exact Jr _ _
 have hrn:=Ku (n:=D.n) (k0:=0) (by omega) (by omega) (fun i (t:List Qt)=>(i,t)) (body:=Kl (⟨D.net,Qn D.n D.card,Qn D.n (setN D),o⟩,0))
  (fun k=>Qb D.n fun v=>if v < k then fct D (fun v=>(Classical.choose (hch v)).1) (fun v=>(Classical.choose (hch v)).2) v else Qt.mk [] [] []) (Qb D.n (fct D (fun v=>(Classical.choose (hch v)).1) (fun v=>(Classical.choose (hch v)).2)))
  (fun k _ hk=>by
   unfold Kl
   dsimp only
   rw [hlen,hz,Qj,if_pos (dlt hk),(Classical.choose_spec (hch k) hk).2,Option.bind_some,Qp hk,Option.bind_some,Int.toNat_natCast,Zs]
   refine congrArg (fun l=>some (Qm.next (zw ((k:Int)+1),l))) (Qh fun j _=>?_)
   by_cases e:j=k
   ·subst e; rw [if_pos rfl,if_pos (by omega)]; rfl
   ·rw [if_neg e]
    by_cases e2:j < k
    ·rw [if_pos e2,if_pos (by omega)]
    ·rw [if_neg e2,if_neg (by omega)])
  (by
   unfold Kl
   dsimp only
   rw [hlen,hz,Qj,if_neg (nlt _)]
   exact congrArg (fun l=>some (Qm.done l)) (Qh fun j hj=>by rw [if_pos hj]))
 have e0:(Qb D.n fun _=>Qt.mk [] [] [])=Qb D.n fun v=>if v < 0 then fct D (fun v=>(Classical.choose (hch v)).1) (fun v=>(Classical.choose (hch v)).2) v else Qt.mk [] [] []:=Qh fun j _=>by rw [if_neg (by omega)]
 unfold Qbd
 rw [hr,Option.bind_some]
 dsimp only
 rw [if_neg (by decide),hlen,if_pos (by omega),hz,e0]
 exact Z5 hrn rfl
def spn (c:Nat → Nat):List Nat → Nat → Nat
 | [],_=>0
 | q::l,p=>if q=p then ix.lprodR c l else spn c l p
def stL (D:NF) (hi lo:Nat → List Nat) (f k:Nat):List (List Int):=Qb D.n fun g=>if g < f then Qn D.n (spn D.card (vsF hi lo g)) else if g=f then Qn D.n (spn D.card ((vsF hi lo f).drop k)) else []
theorem Qhn (V:VN D) {hi lo:Nat → List Nat} (S:Vs D hi lo) {v p:Nat} (hv:v < D.n) (hp:p∈vsF hi lo v):p < D.n:=by
 unfold vsF at hp
 simp only [List.mem_append,List.mem_cons] at hp
 have h:=S.par v hv
 rcases hp with h1 | rfl | h1
 ·exact V.par v hv p (by rw [h]; simp [h1])
 ·exact hv
 ·exact V.par v hv p (by rw [h]; simp [h1])
theorem Qrq (V:VN D) {hi lo:Nat → List Nat} (S:Vs D hi lo) {v:Nat} (hv:v < D.n):(vsF hi lo v).length≤9:=by
 have h:=V.len v hv
 rw [S.par v hv,List.length_append] at h
 unfold vsF
 simp only [List.length_append,List.length_cons]
 omega
theorem Q3x (V:VN D) {hi lo:Nat → List Nat} (S:Vs D hi lo) {f:Nat} (hf:f < D.n) {L0:List (List Int)} :
  Qd fuel (Qam ((f:Int),L0) (fct D hi lo f)) (1,((vsF hi lo f).length:Int) - 1,stL D hi lo f (vsF hi lo f).length)=some (stL D hi lo f 0):=by
 have hl9:=Qrq V S hf
 have hsp:=Js (body:=Qam ((f:Int),L0) (fct D hi lo f)) (fun s=>∃k,k≤(vsF hi lo f).length∧s=((ix.lprodR D.card ((vsF hi lo f).drop k):Int),(k:Int) - 1,stL D hi lo f k))
  (fun s=>(s.2.1+1).toNat) (fun r=>r=stL D hi lo f 0)
  (fun s hs=>by
   obtain ⟨k,hk,rfl⟩:=hs
   unfold Qam
   dsimp only
   cases k with
   | zero=>right; rw [if_neg (by simp)]; exact ⟨_,rfl,rfl⟩
   | succ k =>
    left
    have hp:=Qhn V S hf (List.getElem_mem (l:=vsF hi lo f) (n:=k) (by omega))
    have hc:=V.card _ hp
    have hdr:(vsF hi lo f).drop k=(vsF hi lo f)[k]::(vsF hi lo f).drop (k+1):=(List.drop_eq_getElem_cons (by omega))
    have hb:ix.lprodR D.card ((vsF hi lo f).drop k)≤262144:=Qdi (fun p hp=>(V.card p (Qhn V S hf (List.mem_of_mem_drop hp))).2) (by simp; omega)
    have hg:lkI (stL D hi lo f (k+1)) (f:Int)=some (Qn D.n (spn D.card ((vsF hi lo f).drop (k+1)))):=by
     have:lkI (stL D hi lo f (k+1)) (f:Int)=some _:=Qp hf
     rw [this,if_neg (by omega),if_pos rfl]
    have hcard:lkI (fct D hi lo f).Cards (k:Int)=some (D.card (vsF hi lo f)[k]:Int):=by
     show lkI (nI ((vsF hi lo f).map D.card)) (k:Int)=_
     rw [Qkv (by simp; omega)]; simp
    have hset:(stL D hi lo f (k+1)).set f ((Qn D.n (spn D.card ((vsF hi lo f).drop (k+1)))).set (vsF hi lo f)[k] (ix.lprodR D.card ((vsF hi lo f).drop (k+1)):Int))=stL D hi lo f k:=by
     unfold stL
     rw [Qh2,Zs]
     refine Qh fun g _=>?_
     by_cases e:g=f
     ·subst e
      rw [if_pos rfl,if_neg (by omega),if_pos rfl,hdr]
      refine Qh fun p _=>congrArg Nat.cast ?_
      unfold Zd
      simp only [spn]
      by_cases e2:p=(vsF hi lo g)[k]
      ·rw [if_pos e2,if_pos e2.symm]
      ·rw [if_neg e2,if_neg (fun h=>e2 h.symm)]
     ·rw [if_neg e]
      by_cases e2:g < f
      ·rw [if_pos e2,if_pos e2]
      ·rw [if_neg e2,if_neg e2,if_neg e,if_neg e]
    rw [show ((k+1:Nat):Int) - 1=(k:Int) by omega,if_pos (by simp),hg,Option.bind_some,show (fct D hi lo f).Vars=nI (vsF hi lo f) from rfl,Qkv (by omega),Option.bind_some,Zr hp,Option.bind_some,hcard,Option.bind_some,Int.toNat_natCast,Int.toNat_natCast,hset]
    refine ⟨_,rfl,⟨k,by omega,?_⟩,?_⟩
    ·have e:ix.lprodR D.card ((vsF hi lo f).drop (k+1))*D.card (vsF hi lo f)[k]=ix.lprodR D.card ((vsF hi lo f).drop k):=by rw [hdr]; simp only [ix.lprodR]; exact Nat.mul_comm _ _
     rw [←Int.natCast_mul,e,w64 (n:=((ix.lprodR D.card ((vsF hi lo f).drop k):Nat):Int)) (by omega),w64 (n:=(k:Int) - 1) (by omega)]
    ·dsimp only; rw [w64 (n:=(k:Int) - 1) (by omega)]; omega)
  fuel (1,((vsF hi lo f).length:Int) - 1,stL D hi lo f (vsF hi lo f).length) ⟨_,Nat.le_refl _,by rw [List.drop_length]; rfl⟩ (by unfold fuel; simp; omega)
 obtain ⟨r,h1,rfl⟩:=hsp
 exact h1
end
end Go.Ab
namespace Go.Ab
open Go
set_option maxRecDepth 100000
set_option maxHeartbeats 400000
section
variable {D:NF}
def stF (D:NF) (hi lo:Nat → List Nat):List (List Int):=Qb D.n fun g=>Qn D.n (spn D.card (vsF hi lo g))
def qst (D:NF) (hi lo:Nat → List Nat):Q3:=⟨D.net,Qb D.n (fct D hi lo),stF D hi lo⟩
theorem Q3q (V:VN D) {hi lo:Nat → List Nat} (S:Vs D hi lo) {e:Int}:Qd fuel (J3 (Qb D.n (fct D hi lo),e) D.net) (0,List.replicate (Int.toNat (D.n:Int)) ([]:List Int))=some (stF D hi lo):=by
 have hn8:=V.n8
 have hlen:D.net.Nodes.length=D.n:=Qj
 have hrn:=Ku (n:=D.n) (k0:=0) (by omega) (by omega) (fun i (t:List (List Int))=>(i,t)) (body:=J3 (Qb D.n (fct D hi lo),e) D.net) (fun f=>Qb D.n fun g=>if g < f then Qn D.n (spn D.card (vsF hi lo g)) else []) (stF D hi lo)
  (fun f _ hf=>by
   have hl9:=Qrq V S hf
   have hset:(Qb D.n fun g=>if g < f then Qn D.n (spn D.card (vsF hi lo g)) else []).set f (Qn D.n fun _=>0)=stL D hi lo f (vsF hi lo f).length:=by
    unfold stL
    rw [Zs]
    refine Qh fun g _=>?_
    by_cases e:g=f
    ·subst e; rw [if_pos rfl,if_neg (by omega),if_pos rfl,List.drop_length]; rfl
    ·rw [if_neg e]
     by_cases e2:g < f
     ·rw [if_pos e2,if_pos e2]
     ·rw [if_neg e2,if_neg e2,if_neg e]
   have hend:stL D hi lo f 0=Qb D.n fun g=>if g < f+1 then Qn D.n (spn D.card (vsF hi lo g)) else []:=Qh fun g _=>by
    by_cases e2:g < f
    ·rw [if_pos e2,if_pos (by omega)]
    ·rw [if_neg e2]
     by_cases e:g=f
     ·subst e; rw [if_pos rfl,if_pos (by omega),List.drop_zero]
     ·rw [if_neg e,if_neg (by omega)]
   have hv:(fct D hi lo f).Vars=nI (vsF hi lo f):=rfl
   unfold J3
   dsimp only
   rw [Qj,if_pos (dlt hf),Qp hf,Option.bind_some,hlen,if_pos (by omega),Qp hf,Option.bind_some,hv,Qc2,w64 (n:=((vsF hi lo f).length:Int) - 1) (by omega),Int.toNat_natCast,Q04,hset]
   refine Z5 (Q3x V S hf) ?_
   rw [hend])
  (by
   unfold J3
   dsimp only
   rw [Qj,if_neg (nlt _)]
   exact congrArg (fun l=>some (Qm.done l)) (Qh fun j hj=>by rw [if_pos hj]))
 have e0:List.replicate (Int.toNat (D.n:Int)) ([]:List Int)=Qb D.n fun g=>if g < 0 then Qn D.n (spn D.card (vsF hi lo g)) else []:=by
  rw [Int.toNat_natCast,Jr]; exact Qh fun g _=>by rw [if_neg (by omega)]
 rw [e0]; exact hrn
def pix (D:NF) (hi lo:Nat → List Nat) (v:Nat) (w:Nat → Nat):Nat := ix D.card w (vsF hi lo v)
theorem Qw7 {c:Nat → Nat}:∀{l:List Nat} {k:Nat} (h:k < l.length),l.Nodup→spn c l l[k]=ix.lprodR c (l.drop (k+1))
 | q::l,0,_,_=>by simp [spn]
 | q::l,k+1,h,hn=>by
  have hn':=List.nodup_cons.1 hn
  have hk:k < l.length:=by simpa using h
  simp only [List.getElem_cons_succ,spn,List.drop_succ_cons]
  rw [if_neg (show ¬ q=l[k] from fun e=>hn'.1 (by rw [e]; exact List.getElem_mem hk))]
  exact Qw7 hk hn'.2
theorem Qtr {c w:Nat → Nat} {l:List Nat} {k:Nat} (h:k < l.length):ix c w (l.drop k)=w l[k]*ix.lprodR c (l.drop (k+1))+ix c w (l.drop (k+1)):=by
 rw [List.drop_eq_getElem_cons h]; rfl
theorem Q38 (V:VN D) {hi lo:Nat → List Nat} (S:Vs D hi lo) (hnd:∀v,v < D.n→(vsF hi lo v).Nodup) {w:Nat → Nat} (hw:D.ok w) {f:Nat} (hf:f < D.n) {t:Int} :
  Qd fuel (Z2 (fct D hi lo f) (Qn D.n w) (qst D hi lo) (t,(f:Int))) (0,0)=some (pix D hi lo f w:Int):=by
 have hl9:=Qrq V S hf
 have hix:∀k,ix D.card w ((vsF hi lo f).drop k)≤262144:=fun k=>by
  have h1:=Qqj (c:=D.card) (w:=w) (l:=(vsF hi lo f).drop k) fun p hp=>hw p (Qhn V S hf (List.mem_of_mem_drop hp))
  have h2:ix.lprodR D.card ((vsF hi lo f).drop k)≤262144:=Qdi (fun p hp=>(V.card p (Qhn V S hf (List.mem_of_mem_drop hp))).2) (by simp; omega)
  omega
 have h0:=hix 0
 rw [List.drop_zero] at h0
 have hmon:∀k,k≤(vsF hi lo f).length→ix D.card w ((vsF hi lo f).drop k)≤ix D.card w (vsF hi lo f):=fun k=>by
  induction k with
  | zero=>intro _; rw [List.drop_zero]; exact Nat.le_refl _
  | succ k ih =>
   intro hk
   have:=Qtr (c:=D.card) (w:=w) (l:=vsF hi lo f) (k:=k) (by omega)
   have:=ih (by omega)
   omega
 have hrn:=Ku (n:=(vsF hi lo f).length) (k0:=0) (by omega) (by omega) (fun i (t:Int)=>(t,i)) (body:=Z2 (fct D hi lo f) (Qn D.n w) (qst D hi lo) (t,(f:Int))) (fun k=>((ix D.card w (vsF hi lo f) - ix D.card w ((vsF hi lo f).drop k):Nat):Int)) (pix D hi lo f w:Int)
  (fun k _ hk=>by
   have hp:=Qhn V S hf (List.getElem_mem (l:=vsF hi lo f) (n:=k) hk)
   have hst:lkI (qst D hi lo).steps (f:Int)=some (Qn D.n (spn D.card (vsF hi lo f))):=Qp hf
   have hd:=Qtr (c:=D.card) (w:=w) (l:=vsF hi lo f) (k:=k) hk
   have m1:=hmon k (by omega)
   have m2:=hmon (k+1) (by omega)
   have m3:=hix k
   have m4:=hix (k+1)
   unfold Z2
   dsimp only
   rw [show (fct D hi lo f).Vars=nI (vsF hi lo f) from rfl,Qc2,if_pos (dlt hk),Qkv hk,Option.bind_some,Zr hp,Option.bind_some,hst,Option.bind_some,Zr hp,Option.bind_some,Qw7 hk (hnd f hf),←Int.natCast_mul]
   generalize w (vsF hi lo f)[k]*ix.lprodR D.card ((vsF hi lo f).drop (k+1))=z at *
   rw [w64 (n:=(z:Int)) (by omega),w64 (n:=((ix D.card w (vsF hi lo f) - ix D.card w ((vsF hi lo f).drop k):Nat):Int)+(z:Int)) (by omega)]
   refine congrArg (fun y:Int=>some (Qm.next (y,zw ((k:Int)+1)))) ?_
   omega)
  (by
   unfold Z2
   dsimp only
   rw [show (fct D hi lo f).Vars=nI (vsF hi lo f) from rfl,Qc2,if_neg (nlt _),List.drop_length]
   rfl)
 rw [List.drop_zero,Nat.sub_self] at hrn
 exact hrn
theorem Qy3 (X:VX D) {hi lo:Nat → List Nat} (S:Vs D hi lo) {v:Nat} (hv:v < D.n):(vsF hi lo v).Nodup:=by
 have h1:(hi v++lo v).Nodup:=by
  rw [←S.par v hv]
  exact (X.sorted v hv).imp fun h=>Nat.ne_of_lt h
 have h2:v ∉ hi v++lo v:=by rw [←S.par v hv]; exact X.self v hv
 unfold vsF
 rw [List.nodup_append] at h1 ⊢
 obtain ⟨a,b,c⟩:=h1
 simp only [List.mem_append,not_or] at h2
 refine ⟨a,List.nodup_cons.2 ⟨h2.2,b⟩,fun x hx y hy=>?_⟩
 rcases List.mem_cons.1 hy with rfl | hy
 ·exact fun e=>h2.1 (e ▸ hx)
 ·exact c x hx y hy
theorem Qyx (X:VX D) {hi lo:Nat → List Nat} (S:Vs D hi lo) {w:Nat → Nat} (hw:D.ok w) {v:Nat} (hv:v < D.n):Qf9 D v (ix.lprodR D.card (lo v)) (pix D hi lo v w)=(D.wt w v:Int):=by
 have V:=X.vn
 have hlo:∀p∈lo v,p < D.n:=fun p hp=>V.par v hv p (by rw [S.par v hv]; simp [hp])
 obtain ⟨e1,e2⟩:=Q2p (c:=D.card) (w:=w) (hi:=hi v) (lo:=lo v) (v:=v) (fun p hp=>hw p (hlo p hp)) (fun p hp=>(V.card p (hlo p hp)).1) (hw v hv)
 unfold Qf9 pix vsF
 rw [e1,e2]
 unfold NF.wt NF.idx
 rw [S.par v hv,Qwj]
theorem Q2o (X:VX D) {hi lo:Nat → List Nat} (S:Vs D hi lo) {w:Nat → Nat} (hw:D.ok w) {v:Nat} (hv:v < D.n):pix D hi lo v w < ix.lprodR D.card (hi v)*ix.lprodR D.card (lo v)*D.card v:=by
 have V:=X.vn
 have h:=Qqj (c:=D.card) (w:=w) (l:=vsF hi lo v) fun p hp=>hw p (Qhn V S hv hp)
 have e:ix.lprodR D.card (vsF hi lo v)=ix.lprodR D.card (hi v)*ix.lprodR D.card (lo v)*D.card v:=by
  unfold vsF
  rw [Ja]
  simp only [ix.lprodR]
  rw [Nat.mul_comm (D.card v),←Nat.mul_assoc]
 rw [←e]; exact h
theorem Qyd (X:VX D) {hi lo:Nat → List Nat} (S:Vs D hi lo) {w:Nat → Nat} (hw:D.ok w):Yp (qst D hi lo) (Qn D.n w)=some (fS D 0 w):=by
 have V:=X.vn
 have hn8:=V.n8
 have hrn:=Ku (n:=D.n) (k0:=0) (by omega) (by omega) (fun i (t:Int)=>(t,i)) (body:=Xy (qst D hi lo) (Qn D.n w)) (fun k=>(D.fr 0 w k:Int)) (fS D 0 w)
  (fun k _ hk=>by
   have hb:=V.fr_le (m:=0) hw (k:=k+1) (by omega)
   have hs:D.fr 0 w (k+1)=D.fr 0 w k*D.wt w k:=by
    show Qk k _*(if (0:Nat).testBit k=true then 1 else D.wt w k)=_
    rw [if_neg (by simp)]; rfl
   have hfac:lkI (qst D hi lo).factors (k:Int)=some (fct D hi lo k):=Qp hk
   have hW:lkI (fct D hi lo k).W (pix D hi lo k w:Int)=some (D.wt w k:Int):=by
    have:lkI (fct D hi lo k).W (pix D hi lo k w:Int)=some (Qf9 D k (ix.lprodR D.card (lo k)) (pix D hi lo k w)):=Qp (Q2o X S hw hk)
    rw [this,Qyx X S hw hk]
   unfold Xy
   dsimp only
   rw [show (qst D hi lo).factors=Qb D.n (fct D hi lo) from rfl,Qj,if_pos (dlt hk),Qp hk,Option.bind_some,Q38 V S (fun v hv=>Qy3 X S hv) hw hk,Option.bind_some,hW,Option.bind_some,←Int.natCast_mul,←hs,w64 (n:=((D.fr 0 w (k+1):Nat):Int)) (by omega)])
  (by
   unfold Xy
   dsimp only
   rw [show (qst D hi lo).factors=Qb D.n (fct D hi lo) from rfl,Qj,if_neg (nlt _)]; rfl)
 unfold Yp
 exact Z5 hrn rfl
theorem Q3f (X:VX D):∃hi lo:Nat → List Nat,Vs D hi lo∧∀E,Qgr D E→Qdl D.net [Qb D.n E]=some (qst D hi lo,0):=by
 have V:=X.vn
 have hn8:=V.n8
 have hlen:D.net.Nodes.length=D.n:=Qj
 obtain ⟨hi,lo,S,hf⟩:=Qut X
 refine ⟨hi,lo,S,fun E hE=>?_⟩
 have hc:Zj D.net (Qb D.n E)=some 0:=by
  rcases Q2e X (Qb D.n E) with ⟨_,c⟩ | ⟨c,_⟩
  ·exact c
  ·refine absurd ⟨Qj,fun j hj=>?_⟩ c
   unfold evJ
   have e:((Qb D.n E)[j]?).getD 0=E j:=by unfold Qb; rw [List.getElem?_map,List.getElem?_range hj]; rfl
   rw [e]; exact hE j hj
 have hr:=Ku (n:=1) (k0:=0) (by omega) (by omega) (fun i (_:Unit)=>i) (body:=Qal [Qb D.n E] D.net) (fun _=>()) (.inr ())
  (fun k _ hk=>by
   have:k=0:=by omega
   subst this
   unfold Qal
   rw [if_pos (by simp),show lkI [Qb D.n E] ((0:Nat):Int)=some (Qb D.n E) from rfl,Option.bind_some,hc,Option.bind_some,if_neg (by decide)])
  (by unfold Qal; rw [if_neg (by simp)])
 unfold Qdl
 rw [hf,Option.bind_some]
 dsimp only
 rw [if_neg (by decide)]
 refine Z5 hr ?_
 dsimp only
 rw [Qj,if_pos (by omega),Q3q V S,Option.bind_some]; rfl
end
end Go.Ab
namespace Go.Ab
open Go
open Classical
set_option maxRecDepth 100000
set_option maxHeartbeats 400000
section
variable {D:NF}
theorem Qs7 {n:Nat} {w:Nat → Nat} {E:Nat → Int} (hn:n≤8) (hE:∀j,j < n→-1≤E j):Jk (Qn n w) (Qb n E)=some (decide (Kn n E 0 w)):=by
 by_cases h:Kn n E 0 w
 ·have hr:=Ku (n:=n) (k0:=0) (by omega) (by omega) (fun i (_:Unit)=>i) (body:=Zz (Qb n E) (Qn n w)) (fun _=>()) true
   (fun k _ hk=>by
    unfold Zz
    rw [Qj,if_pos (dlt hk),Qp hk,Option.bind_some]
    rcases h k (Nat.zero_le _) hk with e | e
    ·rw [if_pos (by simp [e])]
    ·rw [if_neg (by rw [e]; simp),Zr hk,Option.bind_some,if_pos (by simp [e])])
   (by unfold Zz; rw [Qj,if_neg (nlt n)])
  unfold Jk
  rw [decide_eq_true h]
  exact Z5 hr rfl
 ·have hs:=Qpg (n:=n) (by omega) (fun j=>okE E j (w j)) (fun i (_:Unit)=>i) (body:=Zz (Qb n E) (Qn n w)) (fun _=>()) true false
   (fun k hk _ hg=>by
    unfold Zz
    rw [Qj,if_pos (dlt hk),Qp hk,Option.bind_some]
    rcases hg with e | e
    ·rw [if_pos (by simp [e])]
    ·rw [if_neg (by rw [e]; simp),Zr hk,Option.bind_some,if_pos (by simp [e])])
   (fun k hk _ hg=>by
    unfold okE at hg
    unfold Zz
    rw [Qj,if_pos (dlt hk),Qp hk,Option.bind_some,if_neg (by simp; omega),Zr hk,Option.bind_some,if_neg (by simp; omega)])
   (fun _=>by unfold Zz; rw [Qj,if_neg (nlt n)])
  rcases hs with ⟨hall,_⟩ | ⟨_,hr⟩
  ·exact absurd (fun j _ hj=>hall j hj) h
  ·unfold Jk
   rw [decide_eq_false h]
   exact Z5 hr rfl
def zF (w:Nat → Nat) (i:Nat) (j:Nat):Nat := if j < i then w j else 0
theorem Q0i (V:VN D) {w:Nat → Nat} (hw:D.ok w) (body:Int × List Int→Option (Qm (Int × List Int) (Int × List Int)))
  (hb:∀s,body s=if (decide (s.1≥0))=true then (lkI s.2 s.1).bind fun a=>(lkI D.net.Nodes s.1).bind fun b=>if (a==(zw (b.Card - 1)))=true then some (.next (zw (s.1 - 1),List.set s.2 (Int.toNat s.1) 0)) else some (.done (s.1,s.2)) else some (.done (s.1,s.2))) :
  ∃i:Nat,i≤D.n∧Qd fuel body (zw (((Qn D.n w).length:Int) - 1),Qn D.n w)=some ((i:Int) - 1,Qn D.n (zF w i))∧(∀j,i≤j→j < D.n→w j+1=D.card j)∧(∀k,i=k+1→w k+1 < D.card k):=by
 have hn8:=V.n8
 have hs:=Js (body:=body) (fun s=>∃i:Nat,i≤D.n∧(∀j,i≤j→j < D.n→w j+1=D.card j)∧s=((i:Int) - 1,Qn D.n (zF w i))) (fun s=>(s.1+1).toNat)
  (fun r=>∃i:Nat,i≤D.n∧r=((i:Int) - 1,Qn D.n (zF w i))∧(∀j,i≤j→j < D.n→w j+1=D.card j)∧(∀k,i=k+1→w k+1 < D.card k))
  (fun s hs=>by
   obtain ⟨i,hi,hf,rfl⟩:=hs
   rw [hb]
   dsimp only
   cases i with
   | zero=>right; rw [if_neg (by simp)]; exact ⟨_,rfl,0,hi,rfl,hf,fun k hk=>by omega⟩
   | succ i =>
    have hc:=V.card i (by omega)
    have hwi:=hw i (by omega)
    have hg:lkI (Qn D.n (zF w (i+1))) (i:Int)=some (w i:Int):=by
     rw [Zr (by omega)]; unfold zF; rw [if_pos (by omega)]
    rw [show ((i+1:Nat):Int) - 1=(i:Int) by omega,if_pos (by simp),hg,Option.bind_some,V.node (by omega),Option.bind_some,show (D.node i).Card=(D.card i:Int) from rfl,w64 (n:=(D.card i:Int) - 1) (by omega)]
    by_cases c:w i+1=D.card i
    ·left
     rw [if_pos (by rw [beq_iff_eq]; omega),Int.toNat_natCast,w64 (n:=(i:Int) - 1) (by omega)]
     refine ⟨_,rfl,⟨i,by omega,fun j h1 h2=>?_,?_⟩,by dsimp only; omega⟩
     ·by_cases e:j=i
      ·subst e; exact c
      ·exact hf j (by omega) h2
     ·have e:(Qn D.n (zF w (i+1))).set i 0=Qn D.n (zF w i):=by
       rw [show (0:Int)=((0:Nat):Int) from rfl,Qh2]
       refine Qh fun j _=>congrArg Nat.cast ?_
       unfold Zd zF
       by_cases e:j=i
       ·subst e; rw [if_pos rfl,if_neg (by omega)]
       ·rw [if_neg e]
        by_cases e2:j < i
        ·rw [if_pos (by omega),if_pos e2]
        ·rw [if_neg (by omega),if_neg e2]
      rw [e]
    ·right
     rw [if_neg (by rw [beq_iff_eq]; omega)]
     exact ⟨_,rfl,i+1,hi,by rw [show ((i+1:Nat):Int) - 1=(i:Int) by omega],hf,fun k hk=>by
      have:k=i:=by omega
      subst this; omega⟩)
  fuel ((D.n:Int) - 1,Qn D.n (zF w D.n)) ⟨D.n,Nat.le_refl _,fun j h1 h2=>by omega,rfl⟩ (by unfold fuel; dsimp only; omega)
 have e0:Qn D.n w=Qn D.n (zF w D.n):=Qh fun j hj=>by
  show (w j:Int)=((zF w D.n j:Nat):Int)
  unfold zF; rw [if_pos hj]
 obtain ⟨r,h1,i,hi,rfl,h2,h3⟩:=hs
 refine ⟨i,hi,?_,h2,h3⟩
 rw [Qbh,w64 (n:=(D.n:Int) - 1) (by omega),e0]
 exact h1
def tpr (c:Nat → Nat) (i:Nat):Nat → Nat
 | 0=>1
 | d+1=>tpr c i d*c (i+d)
theorem Qq2 {c:Nat → Nat}:∀{n:Nat},tpr c 0 n=Qk n c
 | 0=>rfl
 | n+1=>by unfold tpr Qk; rw [Qq2,Nat.zero_add]
theorem Qmf {c w:Nat → Nat} {i:Nat}:∀{d:Nat},(∀j,i≤j→j < i+d→w j+1=c j)→num c w (i+d)+1=(num c w i+1)*tpr c i d
 | 0,_=>by simp [tpr]
 | d+1,h=>by
  have h1:=Qmf (d:=d) fun j h1 h2=>h j h1 (by omega)
  have h2:=h (i+d) (by omega) (by omega)
  show num c w (i+d)*c (i+d)+w (i+d)+1=(num c w i+1)*(tpr c i d*c (i+d))
  rw [←Nat.mul_assoc,←h1,Nat.succ_mul]; omega
theorem Qsd {c w:Nat → Nat} {i:Nat}:∀{d:Nat},(∀j,i≤j→j < i+d→w j=0)→num c w (i+d)=num c w i*tpr c i d
 | 0,_=>by simp [tpr]
 | d+1,h=>by
  have h1:=Qsd (c:=c) (d:=d) fun j h1 h2=>h j h1 (by omega)
  have h2:=h (i+d) (by omega) (by omega)
  show num c w (i+d)*c (i+d)+w (i+d)=num c w i*(tpr c i d*c (i+d))
  rw [h1,h2,←Nat.mul_assoc,Nat.add_zero]
theorem Qyv {c w:Nat → Nat} {n:Nat} (h:∀j,j < n→w j+1=c j):num c w n+1=Qk n c:=by
 have:=Qmf (c:=c) (w:=w) (i:=0) (d:=n) fun j _ h2=>h j (by omega)
 rw [Nat.zero_add,Qq2] at this
 rw [this]; simp [num]
theorem Qy2 {c w:Nat → Nat} {n k:Nat} (hk:k < n) (h:∀j,k+1≤j→j < n→w j+1=c j):num c (Zd (zF w (k+1)) k (w k+1)) n=num c w n+1:=by
 obtain ⟨d,rfl⟩:=Nat.exists_eq_add_of_le hk
 have h1:=Qmf (c:=c) (w:=w) (i:=k+1) (d:=d) fun j h1 h2=>h j h1 h2
 have h2:=Qsd (c:=c) (w:=Zd (zF w (k+1)) k (w k+1)) (i:=k+1) (d:=d) fun j h1 h2=>by
  unfold Zd zF; rw [if_neg (by omega),if_neg (by omega)]
 have h3:num c (Zd (zF w (k+1)) k (w k+1)) (k+1)=num c w (k+1)+1:=by
  have:num c (Zd (zF w (k+1)) k (w k+1)) k=num c w k:=Qpj fun j hj=>by
   unfold Zd zF; rw [if_neg (by omega),if_pos (by omega)]
  show num c _ k*c k+Zd (zF w (k+1)) k (w k+1) k=num c w k*c k+w k+1
  rw [this,Xc]; omega
 rw [show k.succ+d=k+1+d from rfl,h1,h2,h3]
theorem Q2h {w:Nat → Nat} (hw:D.ok w) {k:Nat} (hk:w k+1 < D.card k):D.ok (Zd (zF w (k+1)) k (w k+1)):=fun j hj=>by
 unfold Zd zF
 split
 ·rename_i e; subst e; exact hk
 ·split
  ·exact hw j hj
  ·have:=hw j hj; omega
end
end Go.Ab
namespace Go.Ab
open Go
open Classical
set_option maxRecDepth 100000
set_option maxHeartbeats 400000
section
variable {D:NF}
theorem Qn8 (V:VN D) {W:Nat} (hW:W < Qk D.n D.card):∀k,k≤D.n→num D.card (dig D W) k=W / PS D k
 | 0,_=>by
  have h0:PS D 0=Qk D.n D.card:=by
   have:=Q31 (D:=D)
   unfold PS; rw [Nat.sub_zero]; exact this
  rw [h0,Nat.div_eq_of_lt hW]; rfl
 | k+1,hk=>by
  have h1:=Qn8 V hW k (by omega)
  have h2:=Qoe (D:=D) (k:=k) (by omega)
  show num D.card (dig D W) k*D.card k+dig D W k=W / PS D (k+1)
  rw [h1,h2,Nat.mul_comm (D.card k),←Nat.div_div_eq_div_mul]
  unfold dig
  rw [Nat.mul_comm]
  exact Nat.div_add_mod _ _
theorem Q3c (V:VN D) {W:Nat} (hW:W < Qk D.n D.card):∀j,j < D.n→pd D.card D.n W j=dig D W j:=fun j hj=>by
 have h:=Qn8 V hW D.n (Nat.le_refl _)
 rw [Qyh,Nat.div_one] at h
 have:=Qq7 (c:=D.card) (w:=dig D W) (n:=D.n) (Qrr V W) j hj
 rwa [h] at this
noncomputable def shF (D:NF) (E:Nat → Int) (W:Nat):Int:=if Kn D.n E 0 (dig D W) then fS D 0 (dig D W) else 0
theorem Qoj (V:VN D) {E:Nat → Int} {W:Nat}:0≤shF D E W∧shF D E W≤167961600000000:=by
 unfold shF
 split
 ·have h1:=V.fr_le (m:=0) (Qrr V W) (Nat.le_refl _)
  unfold fS; omega
 ·omega
theorem Qtx (V:VN D) {E:Nat → Int}:∀W,0≤Qi W (shF D E)∧Qi W (shF D E)≤(W:Int)*167961600000000
 | 0=>by simp [Qi]
 | W+1=>by
  have h1:=Qtx V (E:=E) W
  have h2:=Qoj V (E:=E) (W:=W)
  simp only [Qi]
  omega
end
end Go.Ab
namespace Go.Ab
open Go
open Classical
set_option maxRecDepth 100000
set_option maxHeartbeats 400000
section
variable {D:NF}
theorem Q2g (V:VN D) {E:Nat → Int}:Qi (Qk D.n D.card) (shF D E)=SW D E (fS D 0):=by
 rw [Qwf V (Qwy V)]; rfl
end
end Go.Ab
namespace Go.Ab
open Go
open Classical
set_option maxRecDepth 100000
set_option maxHeartbeats 400000
theorem Qql (a b:Tjoint_place):qTjoint_place a b=decide (a=b):=by
 obtain ⟨a1,a2⟩:=a; obtain ⟨b1,b2⟩:=b
 rw [Bool.eq_iff_iff]
 simp [qTjoint_place]
abbrev Pm:=List (Tjoint_place × Int)
theorem Q0o {k k':Tjoint_place} {v:Int}:∀(m:Pm),kget qTjoint_place (kput qTjoint_place m k v) k'=if k'=k then some v else kget qTjoint_place m k'
 | []=>by
  simp only [kput,kget,Qql]
  by_cases h:k'=k
  ·simp [h]
  ·simp [h]
 | p::r=>by
  unfold kput
  simp only [Qql]
  by_cases c:k=p.1
  ·subst c
   simp only [decide_true,if_true,kget,Qql]
   by_cases h:k'=p.1
   ·simp [h]
   ·simp [h]
  ·simp only [c,decide_false,Bool.false_eq_true,if_false,kget,Qql,Q0o r]
   by_cases h:k'=p.1
   ·subst h
    have:¬ p.1=k:=fun e=>c e.symm
    simp [this]
   ·simp [h]
def mv (m:Pm) (v x:Nat):Int:=(kget qTjoint_place m ⟨(v:Int),(x:Int)⟩).getD 0
theorem Q13 {n:Nat} {w:Nat → Nat} {x14:Int} {s9:Int × Int × Pm × List Int} (h9:s9.2.2.2=Qn n w) (hn:n≤8) {m:Pm} (hb:∀v x,0≤mv m v x∧mv m v x≤1000000000000000000) (hx:0≤x14∧x14≤1000000000000000000) :
  ∃m',Qd fuel (Yh s9 x14) (0,m)=some m'∧∀v x,mv m' v x=mv m v x+if v < n∧x=w v then x14 else 0:=by
 obtain ⟨r,h1,h2⟩:=Ql2 (n:=n) (k0:=0) (by omega) (by omega) (fun i (t:Pm)=>(i,t)) (body:=Yh s9 x14) (fun k t=>∀v x,mv t v x=mv m v x+if v < k∧x=w v then x14 else 0) (fun r=>∀v x,mv r v x=mv m v x+if v < n∧x=w v then x14 else 0)
  (fun k t _ hk hI=>by
   left
   unfold Yh
   dsimp only
   rw [h9,Qbh,if_pos (dlt hk),Zr hk,Option.bind_some]
   refine ⟨_,rfl,fun v x=>?_⟩
   have hkk:=hI k (w k)
   rw [if_neg (by omega),Int.add_zero] at hkk
   have hbk:=hb k (w k)
   have e:zw ((kget qTjoint_place t ⟨(k:Int),(w k:Int)⟩).getD 0+x14)=mv m k (w k)+x14:=by
    show zw (mv t k (w k)+x14)=_
    rw [hkk,w64 (by omega)]
   rw [e]
   have hi:=hI v x
   unfold mv at hi ⊢
   rw [Q0o]
   by_cases c:v=k∧x=w k
   ·obtain ⟨rfl,rfl⟩:=c
    rw [if_pos rfl,if_pos ⟨by omega,rfl⟩]; rfl
   ·rw [if_neg (fun h=>c (by
     injection h with h1 h2
     exact ⟨by omega,by omega⟩)),hi]
    congr 1
    by_cases c2:v < k∧x=w v
    ·rw [if_pos c2,if_pos ⟨by omega,c2.2⟩]
    ·rw [if_neg c2,if_neg (fun h=>by
      by_cases e2:v=k
      ·subst e2; exact c ⟨rfl,h.2⟩
      ·exact c2 ⟨by omega,h.2⟩)])
  (fun t hI=>⟨t,by unfold Yh; dsimp only; rw [h9,Qbh,if_neg (nlt n)],hI⟩) m (fun v x=>by rw [if_neg (by omega),Int.add_zero])
 exact ⟨r,h1,h2⟩
end Go.Ab
namespace Go.Ab
open Go
open Classical
set_option maxRecDepth 100000
set_option maxHeartbeats 400000
section
variable {D:NF}
noncomputable def pS (D:NF) (E:Nat → Int) (v x W:Nat):Int:=Qi W fun W'=>if dig D W' v=x then shF D E W' else 0
theorem Qw4 (V:VN D) {E:Nat → Int} {v x:Nat}:∀W,0≤pS D E v x W∧pS D E v x W≤(W:Int)*167961600000000
 | 0=>by simp [pS,Qi]
 | W+1=>by
  have h1:=Qw4 V (E:=E) (v:=v) (x:=x) W
  have h2:=Qoj V (E:=E) (W:=W)
  have h3:pS D E v x (W+1)=pS D E v x W+if dig D W v=x then shF D E W else 0:=rfl
  rw [h3]
  split <;> omega
theorem Qwl (X:VX D) {hi lo:Nat → List Nat} (S:Vs D hi lo) {E:Nat → Int} (hE:Qgr D E) {e0:Int}:∃m,Qd fuel (Vk (Qb D.n E) (qst D hi lo,e0)) (0,0,[],Qn D.n fun _=>0)=some (Qi (Qk D.n D.card) (shF D E),m)∧∀v x,v < D.n→mv m v x=pS D E v x (Qk D.n D.card):=by
 have V:=X.vn
 have hn8:=V.n8
 have hN:=V.worlds
 have hN1:1≤Qk D.n D.card:=Qu2 fun j hj=>(V.card j hj).1
 have hsp:=Js (body:=Vk (Qb D.n E) (qst D hi lo,e0)) (fun s=>∃W m,W < Qk D.n D.card∧(∀v x,mv m v x=if v < D.n then pS D E v x W else 0)∧s=((W:Int),Qi W (shF D E),m,Qn D.n (dig D W))) (fun s=>(2000 - s.1).toNat)
  (fun r=>∃m,r=(Qi (Qk D.n D.card) (shF D E),m)∧∀v x,v < D.n→mv m v x=pS D E v x (Qk D.n D.card))
  (fun s hs=>by
   obtain ⟨W,m,hW,hm,rfl⟩:=hs
   have hok:=Qrr V W
   have r1:=Qtx V (E:=E) W
   have r2:=Qoj V (E:=E) (W:=W)
   have hnum:num D.card (dig D W) D.n=W:=by
    have h:=Qn8 V hW D.n (Nat.le_refl _)
    rwa [Qyh,Nat.div_one] at h
   obtain ⟨i,hi',c0,cf,cn⟩:=Q0i V hok (Qcm (qst D hi lo,e0)) (fun s=>rfl)
   obtain ⟨i2,hi2,d0,df,dn⟩:=Q0i V hok (Qcf (qst D hi lo,e0)) (fun s=>rfl)
   have nxt:∀k,k < D.n→(∀j,k+1≤j→j < D.n→dig D W j+1=D.card j)→dig D W k+1 < D.card k→W+1 < Qk D.n D.card∧Qn D.n (Zd (zF (dig D W) (k+1)) k (dig D W k+1))=Qn D.n (dig D (W+1)):=fun k hk hfull hlt=>by
    have e:=Qy2 (c:=D.card) hk hfull
    rw [hnum] at e
    have hok2:=Q2h hok hlt
    have hl:W+1 < Qk D.n D.card:=by rw [←e]; exact Qxi hok2
    refine ⟨hl,Qh fun j hj=>congrArg Nat.cast ?_⟩
    rw [←Q3c V hl j hj,←e]
    exact (Qq7 hok2 j hj).symm
   have lst:(∀j,j < D.n→dig D W j+1=D.card j)→W+1=Qk D.n D.card:=fun h=>by
    have:=Qyv (c:=D.card) h
    rwa [hnum] at this
   have e1:zw (Qi W (shF D E)+shF D E W)=Qi (W+1) (shF D E):=by
    rw [w64 (by omega)]; rfl
   have eW:zw ((W:Int)+1)=((W+1:Nat):Int):=Qab (by omega)
   have hps:∀v x,pS D E v x (W+1)=pS D E v x W+if dig D W v=x then shF D E W else 0:=fun v x=>rfl
   unfold Vk
   dsimp only
   rw [Qs7 hn8 (fun j hj=>(hE j hj).1),Option.bind_some]
   by_cases cm:Kn D.n E 0 (dig D W)
   ·have es:shF D E W=fS D 0 (dig D W):=if_pos cm
    obtain ⟨m',hm1,hm2⟩:=Q13 (n:=D.n) (w:=dig D W) (x14:=shF D E W) (s9:=((W:Int),Qi W (shF D E),m,Qn D.n (dig D W))) rfl hn8 (m:=m) (fun v x=>by
     have:=Qw4 V (E:=E) (v:=v) (x:=x) W
     rw [hm]; split <;> omega) (by omega)
    have hm':∀v x,mv m' v x=if v < D.n then pS D E v x (W+1) else 0:=fun v x=>by
     rw [hm2,hm,hps]
     by_cases c:v < D.n
     ·rw [if_pos c,if_pos c]
      by_cases c2:dig D W v=x
      ·rw [if_pos ⟨c,c2.symm⟩,if_pos c2]
      ·rw [if_neg (fun h=>c2 h.2.symm),if_neg c2]
     ·rw [if_neg c,if_neg c,if_neg (fun h=>c h.1)]; rfl
    rw [if_pos (decide_eq_true cm),Qyd X S hok,Option.bind_some,←es,hm1,Option.bind_some,c0,Option.bind_some]
    dsimp only
    rw [e1]
    cases i with
    | zero =>
     right
     rw [if_pos (by simp)]
     have hl:=lst fun j hj=>cf j (Nat.zero_le _) hj
     exact ⟨_,rfl,m',by rw [hl],fun v x hv=>by rw [hm',if_pos hv,hl]⟩
    | succ k =>
     left
     obtain ⟨n1,n2⟩:=nxt k (by omega) cf (cn k rfl)
     have hg:lkI (Qn D.n (zF (dig D W) (k+1))) (k:Int)=some (dig D W k:Int):=by
      rw [Zr (by omega)]; unfold zF; rw [if_pos (by omega)]
     have hd:=hok k (by omega)
     have hc:=V.card k (by omega)
     rw [show ((k+1:Nat):Int) - 1=(k:Int) by omega,if_neg (by simp),hg,Option.bind_some,eW,Int.toNat_natCast,Qab (by omega),Qh2,n2]
     exact ⟨_,rfl,⟨W+1,m',n1,hm',rfl⟩,by dsimp only; omega⟩
   ·have es:shF D E W=0:=if_neg cm
    have e2:Qi W (shF D E)=Qi (W+1) (shF D E):=by show _=Qi W (shF D E)+shF D E W; rw [es,Int.add_zero]
    have hm':∀v x,mv m v x=if v < D.n then pS D E v x (W+1) else 0:=fun v x=>by
     rw [hm,hps,es]
     simp
    rw [if_neg (by simpa using cm),d0,Option.bind_some]
    dsimp only
    rw [e2]
    cases i2 with
    | zero =>
     right
     rw [if_pos (by simp)]
     have hl:=lst fun j hj=>df j (Nat.zero_le _) hj
     exact ⟨_,rfl,m,by rw [hl],fun v x hv=>by rw [hm',if_pos hv,hl]⟩
    | succ k =>
     left
     obtain ⟨n1,n2⟩:=nxt k (by omega) df (dn k rfl)
     have hg:lkI (Qn D.n (zF (dig D W) (k+1))) (k:Int)=some (dig D W k:Int):=by
      rw [Zr (by omega)]; unfold zF; rw [if_pos (by omega)]
     have hd:=hok k (by omega)
     have hc:=V.card k (by omega)
     rw [show ((k+1:Nat):Int) - 1=(k:Int) by omega,if_neg (by simp),hg,Option.bind_some,eW,Int.toNat_natCast,Qab (by omega),Qh2,n2]
     exact ⟨_,rfl,⟨W+1,m,n1,hm',rfl⟩,by dsimp only; omega⟩)
  fuel (0,0,[],Qn D.n fun _=>0) ⟨0,[],by omega,fun v x=>by simp [mv,kget,pS,Qi],by
   refine Prod.ext rfl (Prod.ext rfl (Prod.ext rfl (Qh fun j hj=>congrArg Nat.cast ?_)))
   show 0=dig D 0 j
   unfold dig; rw [Nat.zero_div,Nat.zero_mod]⟩ (by unfold fuel; dsimp only; omega)
 obtain ⟨r,h1,m,rfl,h2⟩:=hsp
 exact ⟨m,h1,h2⟩
end
end Go.Ab
namespace Go.Ab
open Go
open Classical
set_option maxRecDepth 100000
set_option maxHeartbeats 400000
section
variable {D:NF}
theorem Q4r (V:VN D) {E:Nat → Int} {v x:Nat} (hv:v < D.n):pS D E v x (Qk D.n D.card)=SW D E (at' v x (fS D 0)):=by
 rw [Qwf V (Qsu hv (Qwy V))]
 refine Z9 fun W _=>?_
 unfold shF at'
 by_cases c:dig D W v=x
 ·rw [if_pos c,if_pos c]
 ·rw [if_neg c,if_neg c]
  split <;> rfl
theorem Qrp (X:VX D) {E:Nat → Int} (hE:Qgr D E) {v:Nat} (hv:v < D.n):Vh D.net (Qb D.n E) (v:Int) =
  some (if SW D E (fS D 0)=0 then ([],7) else (Qb (D.card v) fun k=>qI (SW D E (at' v k (fS D 0))) (SW D E (fS D 0)),0)):=by
 have V:=X.vn
 have hn8:=V.n8
 have hc:=V.card v hv
 have hlen:D.net.Nodes.length=D.n:=Qj
 obtain ⟨hi,lo,S,ha⟩:=Q3f X
 obtain ⟨m,hl,hm⟩:=Qwl X S hE (e0:=0)
 unfold Vh
 rw [ha E hE,Option.bind_some]
 dsimp only
 rw [if_neg (by decide),if_neg (by simp),show (qst D hi lo).Net=D.net from rfl,hlen,if_neg (by simp; omega),if_pos (by omega),Q04,hl,Option.bind_some,Q2g V]
 dsimp only
 by_cases c:SW D E (fS D 0)=0
 ·rw [if_pos (by simp [c]),if_pos c]
 ·rw [if_neg (by simpa using c),if_neg c,V.node hv,Option.bind_some,show (D.node v).Card=(D.card v:Int) from rfl,if_pos (by omega)]
  have hz:List.replicate (Int.toNat (D.card v:Int)) ((Tapi_Q.mk 0 0):Tapi_Q)=Qb (D.card v) fun _=>Tapi_Q.mk 0 0:=by rw [Int.toNat_natCast]; exact Jr _ _
  have hr:=Ku (n:=D.card v) (k0:=0) (by omega) (by omega) (fun i (t:List Tapi_Q)=>(i,t)) (body:=Vl (D.node v) (SW D E (fS D 0),m) (v:Int))
   (fun k=>Qb (D.card v) fun j=>if j < k then qI (SW D E (at' v j (fS D 0))) (SW D E (fS D 0)) else Tapi_Q.mk 0 0) (Sum.inr (Qb (D.card v) fun k=>qI (SW D E (at' v k (fS D 0))) (SW D E (fS D 0))))
   (fun k _ hk=>by
    have hkk:(kget qTjoint_place m ⟨(v:Int),(k:Int)⟩).getD 0=SW D E (at' v k (fS D 0)):=by
     have:=hm v k hv
     rw [Q4r V hv] at this; exact this
    unfold Vl
    dsimp only
    rw [show (D.node v).Card=(D.card v:Int) from rfl,hz,Qj,if_pos (dlt hk),hkk,Qt3 (Qy8 V).2 (Qwn V).2 c,Option.bind_some]
    dsimp only
    rw [if_neg (by decide),Qp hk,Option.bind_some,Int.toNat_natCast,Zs]
    refine congrArg (fun l=>some (Qm.next (zw ((k:Int)+1),l))) (Qh fun j _=>?_)
    by_cases e:j=k
    ·subst e; rw [if_pos rfl,if_pos (by omega)]
    ·rw [if_neg e]
     by_cases e2:j < k
     ·rw [if_pos e2,if_pos (by omega)]
     ·rw [if_neg e2,if_neg (by omega)])
   (by
    unfold Vl
    dsimp only
    rw [show (D.node v).Card=(D.card v:Int) from rfl,hz,Qj,if_neg (nlt _)]
    exact congrArg (fun l=>some (Qm.done (Sum.inr l))) (Qh fun j hj=>by rw [if_pos hj]))
  have e0:(Qb (D.card v) fun _=>Tapi_Q.mk 0 0)=Qb (D.card v) fun j=>if j < 0 then qI (SW D E (at' v j (fS D 0))) (SW D E (fS D 0)) else Tapi_Q.mk 0 0:=Qh fun j _=>by rw [if_neg (by omega)]
  rw [hz,e0]
  exact Z5 hr rfl
end
end Go.Ab
namespace Go.Ab
open Go
set_option maxRecDepth 100000
set_option maxHeartbeats 400000
def mvW (D:NF) (s:SF) (t:Int) (v r x:Nat):Nat := if v=s.N∧r=s.R then (if x=s.F then ((D.W v r x:Int) - t).toNat else if x=s.T then ((D.W v r x:Int)+t).toNat else D.W v r x) else D.W v r x
def mvD (D:NF) (s:SF) (t:Int):NF:=⟨D.n,D.g,D.card,D.par,mvW D s t⟩
section
variable {D:NF} {s:SF} {t:Int} (hFT:s.F≠s.T) (ht:-(D.W s.N s.R s.T:Int)≤t∧t≤D.W s.N s.R s.F)
theorem Qnd {v r x:Nat} (h:¬ (v=s.N∧r=s.R)):mvW D s t v r x=D.W v r x:=if_neg h
include hFT ht
theorem Qov {x:Nat}:(mvW D s t s.N s.R x:Int)=D.W s.N s.R x+(if s.T=x then t else 0)+(if s.F=x then -t else 0):=by
 unfold mvW
 rw [if_pos ⟨rfl,rfl⟩]
 by_cases h1:x=s.F
 ·subst h1
  rw [if_pos rfl,if_neg (fun h=>hFT h.symm),if_pos rfl]; omega
 ·rw [if_neg h1]
  by_cases h2:x=s.T
  ·subst h2; rw [if_pos rfl,if_pos rfl,if_neg hFT]; omega
  ·rw [if_neg h2,if_neg (fun h=>h2 h.symm),if_neg (fun h=>h1 h.symm)]; omega
theorem Qw9 (X:VX D) (hF:s.F < D.card s.N) (hT:s.T < D.card s.N) {v r:Nat} (hv:v < D.n) (hr:r < D.rows v):Qi (D.card v) (fun x=>(mvW D s t v r x:Int))=D.g:=by
 by_cases c:v=s.N∧r=s.R
 ·obtain ⟨rfl,rfl⟩:=c
  rw [Z9 fun x _=>Qov hFT ht,Qh7,Qh7,X.sum _ _ hv hr,Qie hT,Qie hF]; omega
 ·rw [Z9 fun x _=>by rw [Qnd c],X.sum _ _ hv hr]
theorem Q4v (X:VX D) (hF:s.F < D.card s.N) (hT:s.T < D.card s.N):VX (mvD D s t) where
 vn:={ X.vn with
  W:=fun v r x hv hr hx=>by
   have h:=Qw9 hFT ht X hF hT hv hr
   have h2:Qi (D.card v) (fun y=>if x=y then (mvW D s t v r x:Int) else 0)≤Qi (D.card v) (fun y=>(mvW D s t v r y:Int)):=Qug fun y _=>by
    by_cases e:x=y
    ·subst e; rw [if_pos rfl]; exact Int.le_refl _
    ·rw [if_neg e]; exact Int.natCast_nonneg _
   rw [Qie (show x < D.card v from hx),h] at h2
   show mvW D s t v r x≤D.g
   omega }
 sorted:=X.sorted
 self:=X.self
 rank:=X.rank
 sum:=fun v r hv hr=>Qw9 hFT ht X hF hT hv hr
theorem Q09 (V:VN D) {w:Nat → Nat} {v:Nat}:((mvD D s t).wt w v:Int)=D.wt w v+(if v=s.N then D.change s w*t else 0):=by
 show (mvW D s t v (D.idx v w) (w v):Int)=D.W v (D.idx v w) (w v)+_
 by_cases c:v=s.N∧D.idx v w=s.R
 ·obtain ⟨rfl,h⟩:=c
  have hh:D.hit s w=true:=by unfold NF.hit; simpa using h
  rw [h,Qov hFT ht,if_pos rfl]
  unfold NF.change
  rw [if_pos hh]
  generalize w s.N=x
  by_cases h1:x=s.F
  ·subst h1; rw [if_pos rfl,if_pos rfl,if_neg (fun h=>hFT h.symm)]; omega
  ·rw [if_neg h1]
   by_cases h2:x=s.T
   ·subst h2; rw [if_pos rfl,if_pos rfl,if_neg hFT]; omega
   ·rw [if_neg h2,if_neg (fun h=>h2 h.symm),if_neg (fun h=>h1 h.symm)]; omega
 ·rw [Qnd c]
  by_cases e:v=s.N
  ·subst e
   have hh:¬ D.hit s w=true:=by
    unfold NF.hit
    intro h
    exact c ⟨rfl,by simpa using h⟩
   unfold NF.change
   rw [if_pos rfl,if_neg hh]; omega
  ·rw [if_neg e]; omega
theorem Q02 (V:VN D) (hs:s.N < D.n) (w:Nat → Nat):fS (mvD D s t) 0 w=D.fA s w+D.fB s w*t:=by
 have e0:fS (mvD D s t) 0 w=((Qk D.n fun v=>(mvD D s t).wt w v:Nat):Int):=by
  unfold fS NF.fr
  exact congrArg Nat.cast (Va fun v _=>if_neg (by simp))
 have ne:∀v,v≠s.N→(mvD D s t).wt w v=D.wt w v:=fun v h=>by
  have:=Q09 hFT ht V (w:=w) (v:=v)
  rw [if_neg h] at this; omega
 rw [e0,←Qfi hs,Va (g:=fun v=>if v=s.N then 1 else D.wt w v) fun v _=>by
  by_cases e:v=s.N
  ·rw [if_pos e,if_pos e]
  ·rw [if_neg e,if_neg e,ne v e],Int.natCast_mul,Q09 hFT ht V,if_pos rfl,Int.mul_add,←Int.natCast_mul,Qfi hs,V.fA_eq hs]
 congr 1
 unfold NF.fB NF.rest NF.change
 by_cases hh:D.hit s w=true
 ·rw [if_pos hh,←Int.mul_assoc]
  congr 3
  exact Va fun v _=>by simp [hh]
 ·rw [if_neg hh]; simp
omit hFT ht in
theorem Qvq {E:Nat → Int} {f:(Nat → Nat)→Int}:∀(d i:Nat) (w:Nat → Nat),TM (mvD D s t) E f d i w=TM D E f d i w
 | 0,_,_=>rfl
 | d+1,i,w=>by
  unfold TM
  exact Z9 fun x _=>by rw [Qvq d (i+1)]
theorem Q4y (V:VN D) (hs:s.N < D.n) {E:Nat → Int}:SW (mvD D s t) E (fS (mvD D s t) 0)=SW D E (D.fA s)+SW D E (D.fB s)*t:=by
 show TM (mvD D s t) E _ D.n 0 _=_
 rw [Qvq]
 unfold SW
 rw [←Qsf,←Qq0]
 exact Q0w (fun w _=>Q02 hFT ht V hs w) (by omega) (ok0 V)
theorem Q41 (V:VN D) (hs:s.N < D.n) {E:Nat → Int} {v x:Nat}:SW (mvD D s t) E (at' v x (fS (mvD D s t) 0))=SW D E (at' v x (D.fA s))+SW D E (at' v x (D.fB s))*t:=by
 show TM (mvD D s t) E _ D.n 0 _=_
 rw [Qvq]
 unfold SW
 rw [←Qsf,←Qq0]
 refine Q0w (fun w _=>?_) (by omega) (ok0 V)
 unfold at'
 by_cases c:w v=x
 ·rw [if_pos c,if_pos c,if_pos c,Q02 hFT ht V hs w]
 ·rw [if_neg c,if_neg c,if_neg c]; omega
theorem Q1k (X:VX D) (hs:s.N < D.n) (hF:s.F < D.card s.N) (hT:s.T < D.card s.N) {E:Nat → Int} (hE:Qgr D E) {v:Nat} (hv:v < D.n):Vh (mvD D s t).net (Qb D.n E) (v:Int) =
  some (if SW D E (D.fA s)+SW D E (D.fB s)*t=0 then ([],7) else (Qb (D.card v) fun k=>qI (SW D E (at' v k (D.fA s))+SW D E (at' v k (D.fB s))*t) (SW D E (D.fA s)+SW D E (D.fB s)*t),0)):=by
 have h:=Qrp (Q4v hFT ht X hF hT) (E:=E) hE (v:=v) hv
 have e:(Qb (D.card v) fun k=>qI (SW (mvD D s t) E (at' v k (fS (mvD D s t) 0))) (SW D E (D.fA s)+SW D E (D.fB s)*t))=Qb (D.card v) fun k=>qI (SW D E (at' v k (D.fA s))+SW D E (at' v k (D.fB s))*t) (SW D E (D.fA s)+SW D E (D.fB s)*t):=Qh fun k _=>by rw [Q41 hFT ht X.vn hs]
 rw [show (mvD D s t).n=D.n from rfl,Q4y hFT ht X.vn hs,show (mvD D s t).card v=D.card v from rfl,e] at h
 exact h
theorem Qyt (V:VN D) (hs:s.N < D.n) (hF:s.F < D.card s.N) (hT:s.T < D.card s.N):Qd fuel (Kh (D.node s.N) s.sh t) (0,[])=some (Qb (D.rows s.N) fun r=>Qb (D.card s.N) fun x=>(mvW D s t s.N r x:Int)):=by
 have hrows:=V.rows_le hs
 have hc4:=(V.card s.N hs).2
 refine Ze (fun k=>((k:Int),Qb k fun r=>Qb (D.card s.N) fun x=>(mvW D s t s.N r x:Int))) (D.rows s.N) _ rfl (fun k hk=>?_) ?_ (by omega)
 ·have hl:(D.node s.N).Rows.length=D.rows s.N:=Qj
  have hg:lkI (D.node s.N).Rows (k:Int)=some (Qb (D.card s.N) fun x=>(D.W s.N k x:Int)):=Qp hk
  unfold Kh
  dsimp only
  rw [hl,if_pos (dlt hk),hg,Option.bind_some,Qj,if_pos (by omega),show s.sh.Row=(s.R:Int) from rfl,show s.sh.From=(s.F:Int) from rfl,show s.sh.To=(s.T:Int) from rfl]
  by_cases e:k=s.R
  ·subst e
   have hWF:=V.W s.N s.R s.F hs hk hF
   have hWT:=V.W s.N s.R s.T hs hk hT
   have hg60:=V.g60
   rw [if_pos (by simp),Qp hF,Option.bind_some,Int.toNat_natCast,Zs,Qp hT,if_neg (fun h=>hFT h.symm),Option.bind_some,Int.toNat_natCast,Zs,w64 (n:=(D.W s.N s.R s.F:Int) - t) (by omega),w64 (n:=(D.W s.N s.R s.T:Int)+t) (by omega)]
   have er:(Qb (D.card s.N) fun x=>if x=s.T then (D.W s.N s.R s.T:Int)+t else if x=s.F then (D.W s.N s.R s.F:Int) - t else (D.W s.N s.R x:Int))=Qb (D.card s.N) fun x=>(mvW D s t s.N s.R x:Int):=Qh fun x _=>by
    rw [Qov hFT ht]
    by_cases h1:x=s.T
    ·subst h1; rw [if_pos rfl,if_pos rfl,if_neg hFT]; omega
    ·rw [if_neg h1]
     by_cases h2:x=s.F
     ·subst h2; rw [if_pos rfl,if_pos rfl,if_neg (fun h=>hFT h.symm)]; omega
     ·rw [if_neg h2,if_neg (fun h=>h1 h.symm),if_neg (fun h=>h2 h.symm)]; omega
   rw [er,K9 (F:=fun r=>Qb (D.card s.N) fun x=>(mvW D s t s.N r x:Int)),Qj,if_pos (by omega),Qab (by omega)]
  ·have er:(Qb (D.card s.N) fun x=>(D.W s.N k x:Int))=(fun r=>Qb (D.card s.N) fun x=>(mvW D s t s.N r x:Int)) k:=Qh fun x _=>by rw [Qnd fun h=>e h.2]
   rw [if_neg (by simp; omega),er,K9 (F:=fun r=>Qb (D.card s.N) fun x=>(mvW D s t s.N r x:Int)),Qj,if_pos (by omega),Qab (by omega)]
 ·unfold Kh
  dsimp only
  rw [show (D.node s.N).Rows.length=D.rows s.N from Qj,if_neg (nlt _)]
theorem Qze (V:VN D) (hs:s.N < D.n) (hF:s.F < D.card s.N) (hT:s.T < D.card s.N):Qa7 D.net s.sh t=some (mvD D s t).net:=by
 have hn8:=V.n8
 have hlen:D.net.Nodes.length=D.n:=Qj
 have h:Qd fuel (Kc D.net s.sh t) (0,[])=some (Qb D.n (mvD D s t).node):=by
  refine Ze (fun k=>((k:Int),Qb k (mvD D s t).node)) D.n _ rfl (fun k hk=>?_) ?_ (by omega)
  ·unfold Kc
   dsimp only
   rw [hlen,if_pos (dlt hk),V.node hk,Option.bind_some,show s.sh.Node=(s.N:Int) from rfl]
   by_cases e:k=s.N
   ·subst e
    rw [if_pos (by simp),Qyt hFT ht V hs hF hT,Option.bind_some,
     show (Tapi_Node.mk (D.node s.N).Card (D.node s.N).Parents (Qb (D.rows s.N) fun r=>Qb (D.card s.N) fun x=>(mvW D s t s.N r x:Int)))=(mvD D s t).node s.N from rfl,K9,Qj,if_pos (by omega),Qab (by omega)]
   ·have en:D.node k=(mvD D s t).node k:=by
     have:(Qb (D.rows k) fun r=>Qb (D.card k) fun x=>(D.W k r x:Int))=Qb (D.rows k) fun r=>Qb (D.card k) fun x=>(mvW D s t k r x:Int):=Qh fun r _=>Qh fun x _=>by rw [Qnd fun h=>e h.1]
     show Tapi_Node.mk _ _ (Qb (D.rows k) fun r=>Qb (D.card k) fun x=>(D.W k r x:Int))=_
     rw [this]; rfl
    rw [if_neg (by simp; omega),en,K9,Qj,if_pos (by omega),Qab (by omega)]
  ·unfold Kc
   dsimp only
   rw [hlen,if_neg (nlt _)]
 unfold Qa7
 rw [h]; rfl
end
end Go.Ab
namespace Go.Ab
open Go
set_option maxRecDepth 100000
set_option maxHeartbeats 400000
theorem Q4c {n:Int} (h:(Lit.int .i8 n).wf=true):-128≤n∧n≤127:=by
 simpa [Lit.wf,IntKind.min,IntKind.max,IntKind.bits,IntKind.signed] using h
section
variable {D:NF} {E:Nat → Int} {v:Nat} {s:SF}
theorem Qvm (Q:QX D E v s) {x:Nat} (hx:x < D.card v) {p1:Int} {k t:Int} (hk:k < 4) (ht:-60≤t∧t≤60)
  (hl:lkI ([0,zw (0 - (D.W s.N s.R s.T:Int)),(D.W s.N s.R s.F:Int),Int.tmod (zw p1) 61]:List Int) k=some t) :
  Xa (D.W s.N s.R s.T:Int) (D.W s.N s.R s.F:Int) p1 D.net (Qb D.n E) ((v:Int),(x:Int),s.sh) k=some (.next (zw (k+1))):=by
 have X:=Q.X.toVX
 have V:=X.vn
 have hn:=Q.X.n5
 obtain ⟨b1,b2⟩:=Q.W60
 have hat := Q2r V (by omega) Q.hsN Q.hsR Q.hsF Q.hsT (Q.line hx) (Q1x V (by omega) Q.hsN x) ⟨t,1⟩
 rw [if_pos (Q3o (by omega)),if_pos (show Sml ⟨t,1⟩ from ⟨by show -1000≤t; omega,by show t≤1000; omega,by show (1:Int)≤1000; omega⟩)] at hat
 have hw:zw (0 - (D.W s.N s.R s.T:Int))=-(D.W s.N s.R s.T:Int):=by rw [w64 (by omega)]; omega
 unfold Xa
 rw [if_pos (by simpa using hk),hl,Option.bind_some]
 dsimp only
 rw [hat,Option.bind_some,hw]
 by_cases c1:t < -(D.W s.N s.R s.T:Int)
 ·rw [if_pos (by simpa using c1),if_neg (show ¬ Qlz _ _ _ from fun h=>by have:=h.1; simp only at this; omega),if_neg (by simp)]
 rw [if_neg (by simpa using c1)]
 by_cases c2:t > (D.W s.N s.R s.F:Int)
 ·rw [if_pos (by simpa using c2),if_neg (show ¬ Qlz _ _ _ from fun h=>by have:=h.2; simp only at this; omega),if_neg (by simp)]
 rw [if_neg (by simpa using c2),if_pos (show Qlz _ _ _ from ⟨by show -(D.W s.N s.R s.T:Int)*1≤t; omega,by show t≤(D.W s.N s.R s.F:Int)*1; omega⟩)]
 have ht2:-(D.W s.N s.R s.T:Int)≤t∧t≤D.W s.N s.R s.F:=by omega
 rw [Qze Q.hFT ht2 V Q.hsN Q.hsF Q.hsT,Option.bind_some,Q1k Q.hFT ht2 X Q.hsN Q.hsF Q.hsT Q.hE Q.hv,Option.bind_some]
 unfold atF Qbe
 dsimp only
 rw [Int.mul_one,Int.mul_one]
 by_cases c:SW D E (D.fA s)+SW D E (D.fB s)*t=0
 ·rw [if_pos c,if_pos c,if_neg (by simp),if_pos (by simp),if_neg (by simp)]
 ·rw [if_neg c,if_neg c,if_neg (by simp),if_neg (by simp),V.node Q.hv,Option.bind_some]
  dsimp only
  rw [Qj,show (D.node v).Card=(D.card v:Int) from rfl,if_neg (by simp),Qp hx,Option.bind_some,if_neg (by simp)]
theorem moves_true (p0:Xi) (p1:Int) (h:Qav p0) (h1:(Lit.int .i8 p1).wf=true):Jw p0 p1=some true:=by
 obtain ⟨hN,hC,hK,hD,_⟩:=h
 obtain ⟨D,X0,n5,c23,hnet⟩:=Qxo (Q1v hN)
 have X:DX D:=⟨X0,n5,c23⟩
 have V:=X.vn
 obtain ⟨E,hE,hev⟩:=Qzw X hK
 obtain ⟨v,x,s,hv,hx,hsN,hsR,hsF,hsT,hdr⟩:=Qzm X hD
 have hp1:-128≤p1∧p1≤127:=Q4c h1
 unfold Jw
 rw [Qvi,Option.bind_some,if_neg (by decide),hnet,Option.bind_some,
  show (Tharuspexref05_Known.mk p0.K.Which (p0.K.V.1,p0.K.V.2.1,p0.K.V.2.2.1,p0.K.V.2.2.2.1,p0.K.V.2.2.2.2.1,p0.K.V.2.2.2.2.2.1,p0.K.V.2.2.2.2.2.2.1,p0.K.V.2.2.2.2.2.2.2))=p0.K from rfl,hev,Option.bind_some,hdr,Option.bind_some]
 dsimp only
 by_cases hFT:s.F=s.T
 ·rw [if_pos (by simp [SF.sh,hFT])]
 ·have Q:QX D E v s:=⟨X,hE,hv,hsN,hsR,hsF,hsT,hFT⟩
  obtain ⟨b1,b2⟩:=Q.W60
  rw [if_neg (by simp [SF.sh]; omega),show s.sh.Node=(s.N:Int) from rfl,V.node hsN,Option.bind_some,Q.row,Option.bind_some,Q.rowT,Option.bind_some,Q.rowF,Option.bind_some]
  have hloop:Qd fuel (Xa (D.W s.N s.R s.T:Int) (D.W s.N s.R s.F:Int) p1 D.net (Qb D.n E) ((v:Int),(x:Int),s.sh)) 0=some (Sum.inr ()):=by
   refine Ze (fun k=>(k:Int)) 4 _ rfl (fun k hk=>?_) (by unfold Xa; rfl) (by omega)
   have hlk:lkI ([0,zw (0 - (D.W s.N s.R s.T:Int)),(D.W s.N s.R s.F:Int),Int.tmod (zw p1) 61]:List Int) (k:Int)=some (([0,zw (0 - (D.W s.N s.R s.T:Int)),(D.W s.N s.R s.F:Int),Int.tmod (zw p1) 61]:List Int)[k]'(by simpa using hk)):=Yx (by simpa using hk)
   have hm:=List.getElem_mem (l:=([0,zw (0 - (D.W s.N s.R s.T:Int)),(D.W s.N s.R s.F:Int),Int.tmod (zw p1) 61]:List Int)) (n:=k) (by simpa using hk)
   generalize ([0,zw (0 - (D.W s.N s.R s.T:Int)),(D.W s.N s.R s.F:Int),Int.tmod (zw p1) 61]:List Int)[k]'(by simpa using hk)=t at hlk hm
   rw [Qvm Q hx (by omega) (t:=t) (by
    have e1:zw (0 - (D.W s.N s.R s.T:Int))=-(D.W s.N s.R s.T:Int):=by rw [w64 (by omega)]; omega
    have e2:zw p1=p1:=w64 (by omega)
    rw [e1,e2] at hm
    simp only [List.mem_cons,List.not_mem_nil,or_false] at hm
    rcases hm with h | h | h | h
    ·omega
    ·omega
    ·omega
    ·have:=Int.tmod_lt_of_pos p1 (b:=61) (by omega)
     have h3:=Int.lt_tmod_of_pos p1 (b:=61) (by omega)
     omega) hlk,Qab (by omega)]
  rw [hloop]; rfl
end
end Go.Ab
