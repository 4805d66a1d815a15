/- Functions. No conditions. -/
import Derived.Test.YtgogkahhifkocaaDoorW16
import Derived.KernelRfl
import Derived.Test.YtgogkahhifkocaaDoorRows
import Derived.Test.YtgogkahhifkocaaDoorEng7
import Derived.WalkKit
import Derived.ProofKit
import Derived.LaidMore
import Derived.Lib.LaidTab
import Derived.Stop.LaidErr
import Derived.Stop.Joined
import Derived.OpenShut
set_option maxRecDepth 100000
set_option maxHeartbeats 1000000
set_option linter.all false
namespace Go.Ab
open Go
theorem Q3u (a b:Int):Qax a b=some (decide (a < b)):=by
 unfold Qax Qaa
 rw [aC,aI (by simp)]
theorem Q4h {i j:Nat} (h:i+j < 1000):zw (Int.fdiv (zv (zw ((i:Int)+(j:Int)))) (2^min (Int.toNat 1) zk))=(((i+j) / 2:Nat):Int):=by
 rw [w64 (n:=(i:Int)+j) (by omega),show (i:Int)+j=((i+j:Nat):Int) by omega,Qco (by omega),show min (Int.toNat 1) zk=1 from rfl,Qn2,w64 (by omega)]
theorem Q8g {l:List Nat} (hs:l.Pairwise (· < ·)) (hl:l.length<=8) {v:Nat} (hv:v ∉ l) :
  ∃pos:Nat,Xq (nI l) (v:Int)=some ((pos:Int),false)/\pos<=l.length/\(∀(k:Nat) (p:Nat),l[k]?=some p->k < pos->p < v)/\(∀(k:Nat) (p:Nat),l[k]?=some p->pos<=k->v < p):=by
 have mono:∀(a b p r:Nat),l[a]?=some p->l[b]?=some r->a < b->p < r:=fun a b p r ha hb hab=>by
  obtain ⟨h1,e1⟩:=aD.1 ha
  obtain ⟨h2,e2⟩:=aD.1 hb
  have:=List.pairwise_iff_getElem.1 hs a b h1 h2 hab
  omega
 have hsp:=J5 (body:=Yg (nI l) (v:Int)) (fun s=>∃i j:Nat,i<=j/\j<=l.length/\(∀(k:Nat) (p:Nat),l[k]?=some p->k < i->p < v)/\(∀(k:Nat) (p:Nat),l[k]?=some p->j<=k->v < p)/\s=((i:Int),(j:Int)))
  (fun s=>(s.2 - s.1).toNat) (fun r=>∃pos:Nat,r=((pos:Nat):Int)/\(pos<=l.length:Prop)/\(∀(k:Nat) (p:Nat),l[k]?=some p->k < pos->p < v)/\(∀(k:Nat) (p:Nat),l[k]?=some p->pos<=k->v < p))
  (fun s hs=>by
   obtain ⟨i,j,hij,hj,h1,h2,rfl⟩:=hs
   unfold Yg
   dsimp only
   by_cases c:i < j
   ·left
    have hm:(i+j) / 2 < l.length:=by omega
    rw [aH (by rw [aN]; omega),Q4h (by omega),Qmk hm,aC,Q3u,aC]
    have hg:l[(i+j) / 2]?=some l[(i+j) / 2]:=aG hm
    by_cases c2:l[(i+j) / 2] < v
    ·rw [aH (by rw [aN]; omega)]
     refine ⟨_,rfl,⟨(i+j) / 2+1,j,by omega,hj,fun k p hk hlt=>?_,h2,by rw [Qcr (by omega)]⟩,by dsimp only; rw [Qcr (by omega)]; omega⟩
     rcases bA k ((i+j) / 2) with e | e
     ·have:=mono _ _ _ _ hk hg e; omega
     have:k=(i+j) / 2:=by omega
     subst this; rw [hg] at hk; cases hk; exact c2
    rw [aI (by rw [aN]; omega)]
    refine ⟨_,rfl,⟨i,(i+j) / 2,by omega,by omega,h1,fun k p hk hge=>?_,rfl⟩,by dsimp only; omega⟩
    have hne:l[(i+j) / 2]≠v:=fun e=>hv (e ▸ bJ hm)
    rcases bA ((i+j) / 2) k with e | e
    ·have:=mono _ _ _ _ hg hk e; omega
    have:k=(i+j) / 2:=by omega
    subst this; rw [hg] at hk; cases hk; omega
   right
   have:i=j:=by omega
   subst this
   rw [aI (by rw [aN]; omega)]
   exact ⟨_,rfl,i,rfl,hj,h1,h2⟩)
  fuel ((0:Nat),(l.length:Int)) ⟨0,l.length,by omega,by omega,fun k p _ h=>by omega,fun k p hk h=>by
   have:=(aD.1 hk).1; omega,rfl⟩ (by unfold fuel; simp; omega)
 obtain ⟨r,hr,pos,rfl,p1,p2,p3⟩:=hsp
 refine ⟨pos,?_,by exact_mod_cast p1,fun k p h1 h2=>p2 k p h1 (by exact_mod_cast h2),fun k p h1 h2=>p3 k p h1 (by exact_mod_cast h2)⟩
 unfold Xq
 rw [Qdl]
 refine Xb hr ?_
 by_cases c:pos < l.length
 ·have hg:l[pos]?=some l[pos]:=aG c
  have:=p3 pos _ hg (aZ _)
  rw [aH (by rw [aN]; omega),Qmk c,aC,aI (by simp; omega)]
  unfold Ju
  rw [aC,aI (by simp)]
 ·rw [aI (by rw [aN]; omega)]
theorem Q5f {l:List Nat} (hl:l.length<=8) {v pos:Nat} (hp:pos<=l.length):Qqk (nI l) (pos:Int) (v:Int)=some (nI (l.take pos++v::l.drop pos)):=by
 unfold Qqk
 rw [Qdl,aH ⟨by omega,by omega,by omega⟩,aQ]
 simp [nI]
end Go.Ab
namespace Go.Ab
open Go
def plc (I c r x:Nat):Nat := (r / I*c+x)*I+r % I
def rwO (I c j:Nat):Nat := j / (I*c)*I+j % I
def vlO (I c j:Nat):Nat := j / I % c
section
variable {I c:Nat} (hI:0 < I) (hc:0 < c)
include hI hc
theorem Qwg {r x:Nat}:plc I c r x / I=r / I*c+x:=by
 unfold plc
 rw [cJ,Nat.mul_add_div hI,Nat.div_eq_of_lt (cF _ hI),eH]
theorem Q4l {r x:Nat}:plc I c r x % I=r % I:=by
 unfold plc
 rw [cJ,Nat.mul_add_mod,Nat.mod_mod]
theorem Qzg {r x:Nat} (hx:x < c):vlO I c (plc I c r x)=x:=by
 unfold vlO
 rw [Qwg hI hc,cJ,Nat.mul_add_mod,Nat.mod_eq_of_lt hx]
theorem Qzn {r x:Nat} (hx:x < c):rwO I c (plc I c r x)=r:=by
 unfold rwO
 rw [Q4l hI hc,<-Nat.div_div_eq_div_mul,Qwg hI hc,cJ (r / I) c,Nat.mul_add_div hc,Nat.div_eq_of_lt hx,eH,cJ]
 exact dM r I
theorem Q5l {j:Nat}:plc I c (rwO I c j) (vlO I c j)=j:=by
 have h1:rwO I c j / I=j / (I*c):=by
  unfold rwO
  rw [cJ,Nat.mul_add_div hI,Nat.div_eq_of_lt (cF _ hI),eH]
 have h2:rwO I c j % I=j % I:=by
  unfold rwO
  rw [cJ,Nat.mul_add_mod,Nat.mod_mod]
 unfold plc
 rw [h1,h2,<-Nat.div_div_eq_div_mul]
 unfold vlO
 rw [cJ (j / I / c) c,dM,cJ]
 exact dM j I
theorem Q74 {H j:Nat} (hj:j < H*I*c):rwO I c j < H*I:=by
 have h1:j / (I*c) < H:=(cG (Nat.mul_pos hI hc)).2 (by rw [<-Nat.mul_assoc]; exact hj)
 have h2:=cF j hI
 unfold rwO
 have:(j / (I*c)+1)*I<=H*I:=aS _ h1
 rw [dS] at this
 omega
theorem Q7f {H r x:Nat} (hr:r < H*I) (hx:x < c):plc I c r x < H*I*c:=by
 have h1:r / I < H:=(cG hI).2 hr
 have h2:=cF r hI
 unfold plc
 have h3:(r / I+1)*c<=H*c:=aS _ h1
 rw [dS] at h3
 have h4:(r / I*c+x+1)*I<=H*c*I:=aS _ (by omega)
 rw [dS] at h4
 have h5:H*c*I=H*I*c:=Nat.mul_right_comm _ _ _
 omega
end
theorem Q4x {f:Nat -> Nat} {l:List Nat}:lprod f l=ix.lprodR f l:=by
 have:∀(l:List Nat) (r:Nat),l.foldl (fun r p=>r*f p) r=r*ix.lprodR f l:=fun l=>by
  induction l with
  | nil=>intro r; simp [ix.lprodR]
  | cons p l ih=>intro r; simp only [List.foldl_cons,ih,ix.lprodR,Nat.mul_assoc]
 unfold lprod
 rw [this,Nat.one_mul]
theorem Jj {f:Nat -> Nat}:∀{a b:List Nat},ix.lprodR f (a++b)=ix.lprodR f a*ix.lprodR f b
 | [],b=>by simp [ix.lprodR]
 | p::a,b=>by simp only [dJ,ix.lprodR,Jj (a:=a),Nat.mul_assoc]
theorem Qjn {f:Nat -> Nat}:∀{l:List Nat},(∀p∈l,1<=f p)->1<=ix.lprodR f l
 | [],_=>aZ _
 | p::l,h=>Nat.mul_pos (h p (by simp)) (Qjn fun q hq=>h q (by simp [hq]))
theorem Qkv {c w:Nat -> Nat}:∀{a b:List Nat},ix c w (a++b)=ix c w a*ix.lprodR c b+ix c w b
 | [],b=>by simp [ix]
 | p::a,b=>by
  simp only [dJ,ix,Qkv (a:=a),Jj]
  rw [dU,Nat.mul_assoc,cH]
theorem Qsf {c w:Nat -> Nat}:∀{l:List Nat},(∀p∈l,w p < c p)->ix c w l < ix.lprodR c l
 | [],_=>by simp [ix,ix.lprodR]
 | p::l,h=>by
  have h1:=h p (by simp)
  have h2:=Qsf (l:=l) fun q hq=>h q (by simp [hq])
  simp only [ix,ix.lprodR]
  have:(w p+1)*ix.lprodR c l<=c p*ix.lprodR c l:=aS _ h1
  rw [dS] at this
  omega
theorem Q6e {c w:Nat -> Nat} {hi lo:List Nat} {v:Nat} (hlo:∀p∈lo,w p < c p) (hpos:∀p∈lo,1<=c p) (hv:w v < c v) :
  rwO (ix.lprodR c lo) (c v) (ix c w (hi++v::lo))=ix c w (hi++lo)/\vlO (ix.lprodR c lo) (c v) (ix c w (hi++v::lo))=w v:=by
 have hI:=Qjn hpos
 have hc:0 < c v:=by omega
 have h1:=Qsf hlo
 have e:ix c w (hi++v::lo)=plc (ix.lprodR c lo) (c v) (ix c w (hi++lo)) (w v):=by
  unfold plc
  rw [Qkv,Qkv]
  have d1:(ix c w hi*ix.lprodR c lo+ix c w lo) / ix.lprodR c lo=ix c w hi:=by rw [cJ,Nat.mul_add_div hI,Nat.div_eq_of_lt h1,eH]
  have d2:(ix c w hi*ix.lprodR c lo+ix c w lo) % ix.lprodR c lo=ix c w lo:=by rw [cJ,Nat.mul_add_mod,Nat.mod_eq_of_lt h1]
  rw [d1,d2]
  simp only [ix,ix.lprodR]
  rw [dU,Nat.mul_assoc,cH]
 rw [e]
 exact ⟨Qzn hI hc hv,Qzg hI hc hv⟩
end Go.Ab
namespace Go.Ab
open Go
theorem Q1o {l:List Int} (h:l.length<=1000):Zv l=some l:=by
 cases l with
 | nil=>rfl
 | cons c d =>
  show Ys c d=_
  unfold Ys
  rw [aH (by simp at h ⊢; omega)]
theorem Qd6 {f:Nat -> Nat} {l:List Nat} (h:∀p∈l,f p<=4) (hl:l.length<=9):ix.lprodR f l<=262144:=by
 refine bV (Qzj h) ?_
 exact bV (aU (by omega) hl) (by decide)
section
variable {D:NF}
theorem Q5v (V:VN D) {vars:List Nat} (hvars:∀p∈vars,p < D.n) (hl:vars.length<=9) {pos:Nat} {sets o:List Int} {b:Bool} :
  Qc fuel (X3 (nI vars) ⟨D.net,Qk D.n D.card,sets,o⟩ ((pos:Int),b)) (0,1,[])=some ((ix.lprodR D.card (vars.drop (pos+1)):Int),nI (vars.map D.card)):=by
 have hr:=Xy (n:=vars.length) (k0:=0) (by omega) (by omega) (fun i (t:Int × List Int)=>(i,t.1,t.2)) (body:=X3 (nI vars) ⟨D.net,Qk D.n D.card,sets,o⟩ ((pos:Int),b))
  (fun k=>((ix.lprodR D.card ((vars.take k).drop (pos+1)):Int),nI ((vars.take k).map D.card))) ((ix.lprodR D.card (vars.drop (pos+1)):Int),nI (vars.map D.card))
  (fun k _ hk=>by
   have hp:=hvars _ (bJ hk)
   have hc:=V.card _ hp
   have htk:vars.take (k+1)=vars.take k++[vars[k]]:=(List.take_append_getElem hk).symm
   have hcards:nI ((vars.take k).map D.card)++[(D.card vars[k]:Int)]=nI ((vars.take (k+1)).map D.card):=by
    rw [htk,cV]; unfold nI; rw [cV]; rfl
   have hb:ix.lprodR D.card ((vars.take (k+1)).drop (pos+1))<=262144:=Qd6 (fun p hp=>(V.card p (hvars p (bH (bL hp)))).2) (by simp; omega)
   unfold X3
   dsimp only
   rw [Qdl,aH (dlt hk),Qmk hk,aC,Zp hp,aC,aH (by simp [nI]; omega),hcards]
   by_cases c:k > pos
   ·have e:ix.lprodR D.card ((vars.take (k+1)).drop (pos+1))=ix.lprodR D.card ((vars.take k).drop (pos+1))*D.card vars[k]:=by
     rw [htk,List.drop_append_of_le_length (by simp; omega),Jj]
     simp [ix.lprodR]
    rw [aH (by rw [aN]; omega),<-Int.natCast_mul,<-e,w64 (n:=((ix.lprodR D.card ((vars.take (k+1)).drop (pos+1)):Nat):Int)) (by omega)]
   have e:(vars.take (k+1)).drop (pos+1)=(vars.take k).drop (pos+1):=by
    rw [List.drop_of_length_le (by simp; omega),List.drop_of_length_le (by simp; omega)]
   rw [aI (by rw [aN]; omega),e])
  (by unfold X3; dsimp only; rw [Qdl,aI (nlt _),List.take_length])
 rw [List.take_zero,List.drop_nil] at hr
 exact hr
def Qhv (D:NF) (v I:Nat) (j:Nat):Int:=(D.W v (rwO I (D.card v) j) (vlO I (D.card v) j):Int)
def Qde (D:NF) (v I r x:Nat) (j:Nat):Int:=if rwO I (D.card v) j < r\/(rwO I (D.card v) j=r/\vlO I (D.card v) j < x) then Qhv D v I j else 0
theorem Q6p (V:VN D) {v I H r:Nat} {cs:List Int} {W0:List Int} (hv:v < D.n) (hI:0 < I) (hr:r < H*I) (hb:H*I<=262144) :
  Qc fuel (X1 (Qb (D.card v) fun x=>(D.W v r x:Int)) ((I:Int),cs) ((r:Int),W0) (D.node v)) (0,Qb (H*I*D.card v) (Qde D v I r 0))=some (Qb (H*I*D.card v) (Qde D v I (r+1) 0)):=by
 have hc:=V.card v hv
 have hc0:0 < D.card v:=by omega
 have hbc:H*I*D.card v<=262144*4:=Nat.mul_le_mul hb hc.2
 have hrn:=Xy (n:=D.card v) (k0:=0) (by omega) (by omega) (fun i (t:List Int)=>(i,t)) (body:=X1 (Qb (D.card v) fun x=>(D.W v r x:Int)) ((I:Int),cs) ((r:Int),W0) (D.node v)) (fun x=>Qb (H*I*D.card v) (Qde D v I r x)) (Qb (H*I*D.card v) (Qde D v I (r+1) 0))
  (fun x _ hx=>by
   have hpl:=Q7f hI hc0 hr hx
   have hle:=Nat.div_le_self r I
   have e1:zw ((zw ((zw ((zw ((zw (Int.tdiv (r:Int) (I:Int)))*(D.node v).Card))+(x:Int)))*(I:Int)))+(Int.tmod (r:Int) (I:Int)))=((plc I (D.card v) r x:Nat):Int):=by
    have d1:Int.tdiv (r:Int) (I:Int)=((r / I:Nat):Int):=by rw [Int.tdiv_eq_ediv_of_nonneg (by omega),<-Int.natCast_ediv]
    have d2:Int.tmod (r:Int) (I:Int)=((r % I:Nat):Int):=by rw [Kn (by omega),<-Int.natCast_emod]
    have m1:r / I*D.card v<=262144*4:=Nat.mul_le_mul (by omega) hc.2
    have m2:(r / I*D.card v+x)*I<=262144*4:=by unfold plc at hpl; omega
    rw [d1,d2,show (D.node v).Card=(D.card v:Int) from rfl,w64 (n:=((r / I:Nat):Int)) (by generalize r / I=q at *; omega),<-Int.natCast_mul,w64 (n:=((r / I*D.card v:Nat):Int)) (by generalize r / I*D.card v=q at *; omega),<-Int.natCast_add,
     w64 (n:=((r / I*D.card v+x:Nat):Int)) (by generalize r / I*D.card v=q at *; omega),<-Int.natCast_mul,w64 (n:=(((r / I*D.card v+x)*I:Nat):Int)) (by generalize (r / I*D.card v+x)*I=q at *; omega),<-Int.natCast_add]
    rw [show (r / I*D.card v+x)*I+r % I=plc I (D.card v) r x from rfl]
    exact w64 (by omega)
   have hset:(Qb (H*I*D.card v) (Qde D v I r x)).set (plc I (D.card v) r x) (D.W v r x:Int)=Qb (H*I*D.card v) (Qde D v I r (x+1)):=by
    rw [Z9]
    refine Qf fun j hj=>?_
    by_cases e:j=plc I (D.card v) r x
    ·subst e
     rw [aH rfl]
     unfold Qde Qhv
     rw [Qzn hI hc0 hx,Qzg hI hc0 hx,aH (.inr ⟨rfl,by omega⟩)]
    rw [aI e]
    have hne:¬ (rwO I (D.card v) j=r/\vlO I (D.card v) j=x):=fun h=>e (by rw [<-Q5l hI hc0 (j:=j),h.1,h.2])
    unfold Qde
    by_cases c:rwO I (D.card v) j < r\/(rwO I (D.card v) j=r/\vlO I (D.card v) j < x)
    ·rw [aH c,aH (c.imp id fun h=>⟨h.1,by omega⟩)]
    rw [aI c,aI (fun h=>c (h.imp id fun h=>⟨h.1,by
     have:vlO I (D.card v) j≠x:=fun hx=>hne ⟨h.1,hx⟩
     omega⟩))]
   unfold X1
   dsimp only
   rw [Qn,aH (dlt hx),show lkI (Qb (D.card v) fun x=>(D.W v r x:Int)) (x:Int)=some (D.W v r x:Int) from Qv hx,aC,aH (by omega),aH (by omega),e1,
    show lkI (Qb (H*I*D.card v) (Qde D v I r x)) ((plc I (D.card v) r x:Nat):Int)=some _ from Qv hpl,aC,aC,aQ,hset])
  (by
   unfold X1
   dsimp only
   rw [Qn,aI (nlt _)]
   refine congrArg (fun l=>some (Qh.done l)) (Qf fun j hj=>?_)
   have hvl:vlO I (D.card v) j < D.card v:=cF _ hc0
   unfold Qde
   by_cases c:rwO I (D.card v) j < r+1
   ·rw [aH (by omega),aH (.inl c)]
   rw [aI (by omega),aI (by omega)])
 exact hrn
theorem Q58 (V:VN D) {v I H:Nat} {cs:List Int} (hv:v < D.n) (hI:0 < I) (hrow:D.rows v=H*I) (hb:H*I<=262144) :
  Qc fuel (X2 (D.node v) ((I:Int),cs)) (0,Qb (H*I*D.card v) fun _=>0)=some (Qb (H*I*D.card v) (Qhv D v I)):=by
 have hc:=V.card v hv
 have hrows:(D.node v).Rows=Qb (D.rows v) fun r=>Qb (D.card v) fun x=>(D.W v r x:Int):=rfl
 have hrn:=Xy (n:=D.rows v) (k0:=0) (by omega) (by omega) (fun i (t:List Int)=>(i,t)) (body:=X2 (D.node v) ((I:Int),cs)) (fun r=>Qb (H*I*D.card v) (Qde D v I r 0)) (Qb (H*I*D.card v) (Qhv D v I))
  (fun r _ hr=>by
   unfold X2
   dsimp only
   rw [hrows,Qn,aH (dlt hr),show lkI (Qb (D.rows v) fun r=>Qb (D.card v) fun x=>(D.W v r x:Int)) (r:Int)=some (Qb (D.card v) fun x=>(D.W v r x:Int)) from Qv hr,aC]
   exact Xb (Q6p V hv hI (by omega) hb) rfl)
  (by
   unfold X2
   dsimp only
   rw [hrows,Qn,aI (nlt _)]
   refine congrArg (fun l=>some (Qh.done l)) (Qf fun j hj=>?_)
   have:=Q74 hI (show 0 < D.card v by omega) hj
   unfold Qde
   rw [aH (.inl (by omega))])
 have e0:(Qb (H*I*D.card v) fun _=>(0:Int))=Qb (H*I*D.card v) (Qde D v I 0 0):=Qf fun j _=>by
  unfold Qde; rw [aI (by omega)]
 rw [e0]; exact hrn
theorem Q0i (X:VX D) {v:Nat} (hv:v < D.n) {sets o:List Int}:∃hi lo:List Nat,D.par v=hi++lo /\
  Yz ⟨D.net,Qk D.n D.card,sets,o⟩ (v:Int)=some ⟨nI (hi++v::lo),nI ((hi++v::lo).map D.card),Qb (ix.lprodR D.card hi*ix.lprodR D.card lo*D.card v) (Qhv D v (ix.lprodR D.card lo))⟩:=by
 have V:=X.vn
 have hc:=V.card v hv
 have hlen:(D.par v).length<=8:=V.len v hv
 obtain ⟨pos,hbs,hp,_,_⟩:=Q8g (X.sorted v hv) hlen (X.self v hv)
 have hsplit:D.par v=(D.par v).take pos++(D.par v).drop pos:=(List.take_append_drop pos _).symm
 refine ⟨(D.par v).take pos,(D.par v).drop pos,hsplit,?_⟩
 have hmem:∀p∈(D.par v).take pos++v::(D.par v).drop pos,p < D.n:=fun p hp=>by
  simp only [bT,cC] at hp
  rcases hp with h | rfl | h
  ·exact V.par v hv p (bH h)
  ·exact hv
  exact V.par v hv p (bL h)
 have hvl:((D.par v).take pos++v::(D.par v).drop pos).length<=9:=by simp; omega
 have hdrop:((D.par v).take pos++v::(D.par v).drop pos).drop (pos+1)=(D.par v).drop pos:=by
  rw [List.drop_append,List.drop_of_length_le (by simp; omega)]
  simp [cR,Nat.min_eq_left hp]
 have hI:0 < ix.lprodR D.card ((D.par v).drop pos):=Qjn fun p hp=>(V.card p (V.par v hv p (bL hp))).1
 have hrow:D.rows v=ix.lprodR D.card ((D.par v).take pos)*ix.lprodR D.card ((D.par v).drop pos):=by
  unfold NF.rows
  rw [Q4x,<-Jj,<-hsplit]
 have hb:ix.lprodR D.card ((D.par v).take pos)*ix.lprodR D.card ((D.par v).drop pos)<=262144:=by
  rw [<-Jj,<-hsplit]
  exact Qd6 (fun p hp=>(V.card p (V.par v hv p hp)).2) (by omega)
 have hbc:ix.lprodR D.card ((D.par v).take pos)*ix.lprodR D.card ((D.par v).drop pos)*D.card v<=262144*4:=Nat.mul_le_mul hb hc.2
 have hpar:(D.node v).Parents=nI (D.par v):=rfl
 have hrl:((D.node v).Rows.length:Int)=((ix.lprodR D.card ((D.par v).take pos)*ix.lprodR D.card ((D.par v).drop pos):Nat):Int):=by
  rw [<-hrow]
  show ((Qb (D.rows v) fun r=>Qb (D.card v) fun x=>(D.W v r x:Int)).length:Int)=_
  rw [Qn]
 have hsz:zw (((D.node v).Rows.length:Int)*(D.node v).Card)=((ix.lprodR D.card ((D.par v).take pos)*ix.lprodR D.card ((D.par v).drop pos)*D.card v:Nat):Int):=by
  rw [hrl,show (D.node v).Card=(D.card v:Int) from rfl,<-Int.natCast_mul]
  exact w64 (by omega)
 unfold Yz
 rw [V.node hv,aC,hpar,hbs,aC,Q1o (by rw [Qdl]; omega),aC]
 dsimp only
 rw [Q5f hlen hp,aC,Q5v V hmem hvl,aC,hdrop,hsz,aH (by omega),aQ,show List.replicate (ix.lprodR D.card ((D.par v).take pos)*ix.lprodR D.card ((D.par v).drop pos)*D.card v) (0:Int)=Qb (ix.lprodR D.card ((D.par v).take pos)*ix.lprodR D.card ((D.par v).drop pos)*D.card v) fun _=>0 from J4 _ _]
 exact Xb (Q58 V hv hI hrow hb) rfl
end
end Go.Ab
namespace Go.Ab
open Go
section
variable {D:NF}
structure Vs (D:NF) (hi lo:Nat -> List Nat):Prop where
 par:∀v,v < D.n->D.par v=hi v++lo v
def vsF (hi lo:Nat -> List Nat) (v:Nat):List Nat := hi v++v::lo v
def fct (D:NF) (hi lo:Nat -> List Nat) (v:Nat):Qw:=⟨nI (vsF hi lo v),nI ((vsF hi lo v).map D.card),Qb (ix.lprodR D.card (hi v)*ix.lprodR D.card (lo v)*D.card v) (Qhv D v (ix.lprodR D.card (lo v)))⟩
theorem Qx1 (X:VX D):∃hi lo:Nat -> List Nat,Vs D hi lo/\Qbn D.net=some (Qb D.n (fct D hi lo),0):=by
 have V:=X.vn
 have hn8:=V.n8
 have hlen:D.net.Nodes.length=D.n:=Qn
 obtain ⟨o,hr⟩:=Qmv X
 have hch:∀v,∃q:List Nat × List Nat,v < D.n->D.par v=q.1++q.2/\Yz ⟨D.net,Qk D.n D.card,Qk D.n (setN D),o⟩ (v:Int)=some ⟨nI (q.1++v::q.2),nI ((q.1++v::q.2).map D.card),Qb (ix.lprodR D.card q.1*ix.lprodR D.card q.2*D.card v) (Qhv D v (ix.lprodR D.card q.2))⟩:=fun v=>by
  by_cases hv:v < D.n
  ·obtain ⟨hi,lo,h1,h2⟩:=Q0i X hv (sets:=Qk D.n (setN D)) (o:=o)
   exact ⟨(hi,lo),fun _=>⟨h1,h2⟩⟩
  exact ⟨([],[]),fun h=>absurd h hv⟩
 refine ⟨fun v=>(Classical.choose (hch v)).1,fun v=>(Classical.choose (hch v)).2,⟨fun v hv=>(Classical.choose_spec (hch v) hv).1⟩,?_⟩
 have hz:List.replicate (Int.toNat (D.n:Int)) ((Qw.mk [] [] []):Qw)=Qb D.n fun _=>Qw.mk [] [] []:=by rw [aQ]; exact J4 _ _
 have hrn:=Xy (n:=D.n) (k0:=0) (by omega) (by omega) (fun i (t:List Qw)=>(i,t)) (body:=Km (⟨D.net,Qk D.n D.card,Qk D.n (setN D),o⟩,0))
  (fun k=>Qb D.n fun v=>if v < k then fct D (fun v=>(Classical.choose (hch v)).1) (fun v=>(Classical.choose (hch v)).2) v else Qw.mk [] [] []) (Qb D.n (fct D (fun v=>(Classical.choose (hch v)).1) (fun v=>(Classical.choose (hch v)).2)))
  (fun k _ hk=>by
   unfold Km
   dsimp only
   rw [hlen,hz,Qn,aH (dlt hk),(Classical.choose_spec (hch k) hk).2,aC,Qv hk,aC,aQ,Z9]
   refine congrArg (fun l=>some (Qh.next (zw ((k:Int)+1),l))) (Qf fun j _=>?_)
   by_cases e:j=k
   ·subst e; rw [aH rfl,aH (by omega)]; rfl
   rw [aI e]
   by_cases e2:j < k
   ·rw [aH e2,aH (by omega)]
   rw [aI e2,aI (by omega)])
  (by
   unfold Km
   dsimp only
   rw [hlen,hz,Qn,aI (nlt _)]
   exact congrArg (fun l=>some (Qh.done l)) (Qf fun j hj=>by rw [aH hj]))
 have e0:(Qb D.n fun _=>Qw.mk [] [] [])=Qb D.n fun v=>if v < 0 then fct D (fun v=>(Classical.choose (hch v)).1) (fun v=>(Classical.choose (hch v)).2) v else Qw.mk [] [] []:=Qf fun j _=>by rw [aI (by omega)]
 unfold Qbn
 rw [hr,aC]
 dsimp only
 rw [aI (by decide),hlen,aH (by omega),hz,e0]
 exact Xb hrn rfl
def spn (c:Nat -> Nat):List Nat -> Nat -> Nat
 | [],_=>0
 | q::l,p=>if q=p then ix.lprodR c l else spn c l p
def stL (D:NF) (hi lo:Nat -> List Nat) (f k:Nat):List (List Int):=Qb D.n fun g=>if g < f then Qk D.n (spn D.card (vsF hi lo g)) else if g=f then Qk D.n (spn D.card ((vsF hi lo f).drop k)) else []
theorem Qiu (V:VN D) {hi lo:Nat -> List Nat} (S:Vs D hi lo) {v p:Nat} (hv:v < D.n) (hp:p∈vsF hi lo v):p < D.n:=by
 unfold vsF at hp
 simp only [bT,cC] at hp
 have h:=S.par v hv
 rcases hp with h1 | rfl | h1
 ·exact V.par v hv p (by rw [h]; simp [h1])
 ·exact hv
 exact V.par v hv p (by rw [h]; simp [h1])
theorem Qst (V:VN D) {hi lo:Nat -> List Nat} (S:Vs D hi lo) {v:Nat} (hv:v < D.n):(vsF hi lo v).length<=9:=by
 have h:=V.len v hv
 rw [S.par v hv,aO] at h
 unfold vsF
 simp only [aO,dG]
 omega
theorem Q5j (V:VN D) {hi lo:Nat -> List Nat} (S:Vs D hi lo) {f:Nat} (hf:f < D.n) {L0:List (List Int)} :
  Qc fuel (Qa0 ((f:Int),L0) (fct D hi lo f)) (1,((vsF hi lo f).length:Int) - 1,stL D hi lo f (vsF hi lo f).length)=some (stL D hi lo f 0):=by
 have hl9:=Qst V S hf
 have hsp:=J5 (body:=Qa0 ((f:Int),L0) (fct D hi lo f)) (fun s=>∃k,k<=(vsF hi lo f).length/\s=((ix.lprodR D.card ((vsF hi lo f).drop k):Int),(k:Int) - 1,stL D hi lo f k))
  (fun s=>(s.2.1+1).toNat) (fun r=>r=stL D hi lo f 0)
  (fun s hs=>by
   obtain ⟨k,hk,rfl⟩:=hs
   unfold Qa0
   dsimp only
   cases k with
   | zero=>right; rw [aI (by simp)]; exact ⟨_,rfl,rfl⟩
   | succ k =>
    left
    have hp:=Qiu V S hf (bJ (l:=vsF hi lo f) (n:=k) (by omega))
    have hc:=V.card _ hp
    have hdr:(vsF hi lo f).drop k=(vsF hi lo f)[k]::(vsF hi lo f).drop (k+1):=(eG (by omega))
    have hb:ix.lprodR D.card ((vsF hi lo f).drop k)<=262144:=Qd6 (fun p hp=>(V.card p (Qiu V S hf (bL hp))).2) (by simp; omega)
    have hg:lkI (stL D hi lo f (k+1)) (f:Int)=some (Qk D.n (spn D.card ((vsF hi lo f).drop (k+1)))):=by
     have:lkI (stL D hi lo f (k+1)) (f:Int)=some _:=Qv hf
     rw [this,aI (by omega),aH rfl]
    have hcard:lkI (fct D hi lo f).Cards (k:Int)=some (D.card (vsF hi lo f)[k]:Int):=by
     show lkI (nI ((vsF hi lo f).map D.card)) (k:Int)=_
     rw [Qmk (by simp; omega)]; simp
    have hset:(stL D hi lo f (k+1)).set f ((Qk D.n (spn D.card ((vsF hi lo f).drop (k+1)))).set (vsF hi lo f)[k] (ix.lprodR D.card ((vsF hi lo f).drop (k+1)):Int))=stL D hi lo f k:=by
     unfold stL
     rw [Qg0,Z9]
     refine Qf fun g _=>?_
     by_cases e:g=f
     ·subst e
      rw [aH rfl,aI (by omega),aH rfl,hdr]
      refine Qf fun p _=>congrArg Nat.cast ?_
      unfold updF
      simp only [spn]
      by_cases e2:p=(vsF hi lo g)[k]
      ·rw [aH e2,aH e2.symm]
      rw [aI e2,aI (fun h=>e2 h.symm)]
     rw [aI e]
     by_cases e2:g < f
     ·rw [aH e2,aH e2]
     rw [aI e2,aI e2,aI e,aI e]
    rw [show ((k+1:Nat):Int) - 1=(k:Int) by omega,aH (by simp),hg,aC,show (fct D hi lo f).Vars=nI (vsF hi lo f) from rfl,Qmk (by omega),aC,Zp hp,aC,hcard,aC,aQ,aQ,hset]
    refine ⟨_,rfl,⟨k,by omega,?_⟩,?_⟩
    ·have e:ix.lprodR D.card ((vsF hi lo f).drop (k+1))*D.card (vsF hi lo f)[k]=ix.lprodR D.card ((vsF hi lo f).drop k):=by rw [hdr]; simp only [ix.lprodR]; exact cJ _ _
     rw [<-Int.natCast_mul,e,w64 (n:=((ix.lprodR D.card ((vsF hi lo f).drop k):Nat):Int)) (by omega),w64 (n:=(k:Int) - 1) (by omega)]
    dsimp only; rw [w64 (n:=(k:Int) - 1) (by omega)]; omega)
  fuel (1,((vsF hi lo f).length:Int) - 1,stL D hi lo f (vsF hi lo f).length) ⟨_,aZ _,by rw [List.drop_length]; rfl⟩ (by unfold fuel; simp; omega)
 obtain ⟨r,h1,rfl⟩:=hsp
 exact h1
end
end Go.Ab
namespace Go.Ab
open Go
section
variable {D:NF}
def stF (D:NF) (hi lo:Nat -> List Nat):List (List Int):=Qb D.n fun g=>Qk D.n (spn D.card (vsF hi lo g))
def qst (D:NF) (hi lo:Nat -> List Nat):Q5:=⟨D.net,Qb D.n (fct D hi lo),stF D hi lo⟩
theorem Q6t (V:VN D) {hi lo:Nat -> List Nat} (S:Vs D hi lo) {e:Int}:Qc fuel (Kf (Qb D.n (fct D hi lo),e) D.net) (0,List.replicate (Int.toNat (D.n:Int)) ([]:List Int))=some (stF D hi lo):=by
 have hn8:=V.n8
 have hlen:D.net.Nodes.length=D.n:=Qn
 have hrn:=Xy (n:=D.n) (k0:=0) (by omega) (by omega) (fun i (t:List (List Int))=>(i,t)) (body:=Kf (Qb D.n (fct D hi lo),e) D.net) (fun f=>Qb D.n fun g=>if g < f then Qk D.n (spn D.card (vsF hi lo g)) else []) (stF D hi lo)
  (fun f _ hf=>by
   have hl9:=Qst V S hf
   have hset:(Qb D.n fun g=>if g < f then Qk D.n (spn D.card (vsF hi lo g)) else []).set f (Qk D.n fun _=>0)=stL D hi lo f (vsF hi lo f).length:=by
    unfold stL
    rw [Z9]
    refine Qf fun g _=>?_
    by_cases e:g=f
    ·subst e; rw [aH rfl,aI (by omega),aH rfl,List.drop_length]; rfl
    rw [aI e]
    by_cases e2:g < f
    ·rw [aH e2,aH e2]
    rw [aI e2,aI e2,aI e]
   have hend:stL D hi lo f 0=Qb D.n fun g=>if g < f+1 then Qk D.n (spn D.card (vsF hi lo g)) else []:=Qf fun g _=>by
    by_cases e2:g < f
    ·rw [aH e2,aH (by omega)]
    rw [aI e2]
    by_cases e:g=f
    ·subst e; rw [aH rfl,aH (by omega),List.drop_zero]
    rw [aI e,aI (by omega)]
   have hv:(fct D hi lo f).Vars=nI (vsF hi lo f):=rfl
   unfold Kf
   dsimp only
   rw [Qn,aH (dlt hf),Qv hf,aC,hlen,aH (by omega),Qv hf,aC,hv,Qdl,w64 (n:=((vsF hi lo f).length:Int) - 1) (by omega),aQ,Qoy,hset]
   refine Xb (Q5j V S hf) ?_
   rw [hend])
  (by
   unfold Kf
   dsimp only
   rw [Qn,aI (nlt _)]
   exact congrArg (fun l=>some (Qh.done l)) (Qf fun j hj=>by rw [aH hj]))
 have e0:List.replicate (Int.toNat (D.n:Int)) ([]:List Int)=Qb D.n fun g=>if g < 0 then Qk D.n (spn D.card (vsF hi lo g)) else []:=by
  rw [aQ,J4]; exact Qf fun g _=>by rw [aI (by omega)]
 rw [e0]; exact hrn
def pix (D:NF) (hi lo:Nat -> List Nat) (v:Nat) (w:Nat -> Nat):Nat := ix D.card w (vsF hi lo v)
theorem Qz6 {c:Nat -> Nat}:∀{l:List Nat} {k:Nat} (h:k < l.length),l.Nodup->spn c l l[k]=ix.lprodR c (l.drop (k+1))
 | q::l,0,_,_=>by simp [spn]
 | q::l,k+1,h,hn=>by
  have hn':=List.nodup_cons.1 hn
  have hk:k < l.length:=by simpa using h
  simp only [List.getElem_cons_succ,spn,List.drop_succ_cons]
  rw [aI (show ¬ q=l[k] from fun e=>hn'.1 (by rw [e]; exact bJ hk))]
  exact Qz6 hk hn'.2
theorem Qwr {c w:Nat -> Nat} {l:List Nat} {k:Nat} (h:k < l.length):ix c w (l.drop k)=w l[k]*ix.lprodR c (l.drop (k+1))+ix c w (l.drop (k+1)):=by
 rw [eG h]; rfl
theorem Q7g (V:VN D) {hi lo:Nat -> List Nat} (S:Vs D hi lo) (hnd:∀v,v < D.n->(vsF hi lo v).Nodup) {w:Nat -> Nat} (hw:D.ok w) {f:Nat} (hf:f < D.n) {t:Int} :
  Qc fuel (Xe (fct D hi lo f) (Qk D.n w) (qst D hi lo) (t,(f:Int))) (0,0)=some (pix D hi lo f w:Int):=by
 have hl9:=Qst V S hf
 have hix:∀k,ix D.card w ((vsF hi lo f).drop k)<=262144:=fun k=>by
  have h1:=Qsf (c:=D.card) (w:=w) (l:=(vsF hi lo f).drop k) fun p hp=>hw p (Qiu V S hf (bL hp))
  have h2:ix.lprodR D.card ((vsF hi lo f).drop k)<=262144:=Qd6 (fun p hp=>(V.card p (Qiu V S hf (bL hp))).2) (by simp; omega)
  omega
 have h0:=hix 0
 rw [List.drop_zero] at h0
 have hmon:∀k,k<=(vsF hi lo f).length->ix D.card w ((vsF hi lo f).drop k)<=ix D.card w (vsF hi lo f):=fun k=>by
  induction k with
  | zero=>intro _; rw [List.drop_zero]; exact aZ _
  | succ k ih =>
   intro hk
   have:=Qwr (c:=D.card) (w:=w) (l:=vsF hi lo f) (k:=k) (by omega)
   have:=ih (by omega)
   omega
 have hrn:=Xy (n:=(vsF hi lo f).length) (k0:=0) (by omega) (by omega) (fun i (t:Int)=>(t,i)) (body:=Xe (fct D hi lo f) (Qk D.n w) (qst D hi lo) (t,(f:Int))) (fun k=>((ix D.card w (vsF hi lo f) - ix D.card w ((vsF hi lo f).drop k):Nat):Int)) (pix D hi lo f w:Int)
  (fun k _ hk=>by
   have hp:=Qiu V S hf (bJ (l:=vsF hi lo f) (n:=k) hk)
   have hst:lkI (qst D hi lo).steps (f:Int)=some (Qk D.n (spn D.card (vsF hi lo f))):=Qv hf
   have hd:=Qwr (c:=D.card) (w:=w) (l:=vsF hi lo f) (k:=k) hk
   have m1:=hmon k (by omega)
   have m2:=hmon (k+1) (by omega)
   have m3:=hix k
   have m4:=hix (k+1)
   unfold Xe
   dsimp only
   rw [show (fct D hi lo f).Vars=nI (vsF hi lo f) from rfl,Qdl,aH (dlt hk),Qmk hk,aC,Zp hp,aC,hst,aC,Zp hp,aC,Qz6 hk (hnd f hf),<-Int.natCast_mul]
   generalize w (vsF hi lo f)[k]*ix.lprodR D.card ((vsF hi lo f).drop (k+1))=z at *
   rw [w64 (n:=(z:Int)) (by omega),w64 (n:=((ix D.card w (vsF hi lo f) - ix D.card w ((vsF hi lo f).drop k):Nat):Int)+(z:Int)) (by omega)]
   refine congrArg (fun y:Int=>some (Qh.next (y,zw ((k:Int)+1)))) ?_
   omega)
  (by
   unfold Xe
   dsimp only
   rw [show (fct D hi lo f).Vars=nI (vsF hi lo f) from rfl,Qdl,aI (nlt _),List.drop_length]
   rfl)
 rw [List.drop_zero,Nat.sub_self] at hrn
 exact hrn
theorem Q1d (X:VX D) {hi lo:Nat -> List Nat} (S:Vs D hi lo) {v:Nat} (hv:v < D.n):(vsF hi lo v).Nodup:=by
 have h1:(hi v++lo v).Nodup:=by
  rw [<-S.par v hv]
  exact (X.sorted v hv).imp fun h=>Nat.ne_of_lt h
 have h2:v ∉ hi v++lo v:=by rw [<-S.par v hv]; exact X.self v hv
 unfold vsF
 rw [List.nodup_append] at h1 ⊢
 obtain ⟨a,b,c⟩:=h1
 simp only [bT,not_or] at h2
 refine ⟨a,List.nodup_cons.2 ⟨h2.2,b⟩,fun x hx y hy=>?_⟩
 rcases cC.1 hy with rfl | hy
 ·exact fun e=>h2.1 (e ▸ hx)
 exact c x hx y hy
theorem Q05 (X:VX D) {hi lo:Nat -> List Nat} (S:Vs D hi lo) {w:Nat -> Nat} (hw:D.ok w) {v:Nat} (hv:v < D.n):Qhv D v (ix.lprodR D.card (lo v)) (pix D hi lo v w)=(D.wt w v:Int):=by
 have V:=X.vn
 have hlo:∀p∈lo v,p < D.n:=fun p hp=>V.par v hv p (by rw [S.par v hv]; simp [hp])
 obtain ⟨e1,e2⟩:=Q6e (c:=D.card) (w:=w) (hi:=hi v) (lo:=lo v) (v:=v) (fun p hp=>hw p (hlo p hp)) (fun p hp=>(V.card p (hlo p hp)).1) (hw v hv)
 unfold Qhv pix vsF
 rw [e1,e2]
 unfold NF.wt NF.idx
 rw [S.par v hv,Qzc]
theorem Q5s (X:VX D) {hi lo:Nat -> List Nat} (S:Vs D hi lo) {w:Nat -> Nat} (hw:D.ok w) {v:Nat} (hv:v < D.n):pix D hi lo v w < ix.lprodR D.card (hi v)*ix.lprodR D.card (lo v)*D.card v:=by
 have V:=X.vn
 have h:=Qsf (c:=D.card) (w:=w) (l:=vsF hi lo v) fun p hp=>hw p (Qiu V S hv hp)
 have e:ix.lprodR D.card (vsF hi lo v)=ix.lprodR D.card (hi v)*ix.lprodR D.card (lo v)*D.card v:=by
  unfold vsF
  rw [Jj]
  simp only [ix.lprodR]
  rw [cJ (D.card v),<-Nat.mul_assoc]
 rw [<-e]; exact h
theorem Qyu (X:VX D) {hi lo:Nat -> List Nat} (S:Vs D hi lo) {w:Nat -> Nat} (hw:D.ok w):Y6 (qst D hi lo) (Qk D.n w)=some (fS D 0 w):=by
 have V:=X.vn
 have hn8:=V.n8
 have hrn:=Xy (n:=D.n) (k0:=0) (by omega) (by omega) (fun i (t:Int)=>(t,i)) (body:=Yf (qst D hi lo) (Qk D.n w)) (fun k=>(D.fr 0 w k:Int)) (fS D 0 w)
  (fun k _ hk=>by
   have hb:=V.fr_le (m:=0) hw (k:=k+1) (by omega)
   have hs:D.fr 0 w (k+1)=D.fr 0 w k*D.wt w k:=by
    show Qp k _*(if (0:Nat).testBit k=true then 1 else D.wt w k)=_
    rw [aI (by simp)]; rfl
   have hfac:lkI (qst D hi lo).factors (k:Int)=some (fct D hi lo k):=Qv hk
   have hW:lkI (fct D hi lo k).W (pix D hi lo k w:Int)=some (D.wt w k:Int):=by
    have:lkI (fct D hi lo k).W (pix D hi lo k w:Int)=some (Qhv D k (ix.lprodR D.card (lo k)) (pix D hi lo k w)):=Qv (Q5s X S hw hk)
    rw [this,Q05 X S hw hk]
   unfold Yf
   dsimp only
   rw [show (qst D hi lo).factors=Qb D.n (fct D hi lo) from rfl,Qn,aH (dlt hk),Qv hk,aC,Q7g V S (fun v hv=>Q1d X S hv) hw hk,aC,hW,aC,<-Int.natCast_mul,<-hs,w64 (n:=((D.fr 0 w (k+1):Nat):Int)) (by omega)])
  (by
   unfold Yf
   dsimp only
   rw [show (qst D hi lo).factors=Qb D.n (fct D hi lo) from rfl,Qn,aI (nlt _)]; rfl)
 unfold Y6
 exact Xb hrn rfl
theorem Q5m (X:VX D):∃hi lo:Nat -> List Nat,Vs D hi lo/\∀E,Jg D E->Qd8 D.net [Qb D.n E]=some (qst D hi lo,0):=by
 have V:=X.vn
 have hn8:=V.n8
 have hlen:D.net.Nodes.length=D.n:=Qn
 obtain ⟨hi,lo,S,hf⟩:=Qx1 X
 refine ⟨hi,lo,S,fun E hE=>?_⟩
 have hc:Z1 D.net (Qb D.n E)=some 0:=by
  rcases Qv4 X (Qb D.n E) with ⟨_,c⟩ | ⟨c,_⟩
  ·exact c
  refine absurd ⟨Qn,fun j hj=>?_⟩ c
  unfold evJ
  have e:((Qb D.n E)[j]?).getD 0=E j:=by unfold Qb; rw [bD,List.getElem?_range hj]; rfl
  rw [e]; exact hE j hj
 have hr:=Xy (n:=1) (k0:=0) (by omega) (by omega) (fun i (_:Unit)=>i) (body:=Qar [Qb D.n E] D.net) (fun _=>()) (.inr ())
  (fun k _ hk=>by
   have:k=0:=by omega
   subst this
   unfold Qar
   rw [aH (by simp),show lkI [Qb D.n E] ((0:Nat):Int)=some (Qb D.n E) from rfl,aC,hc,aC,aI (by decide)])
  (by unfold Qar; rw [aI (by simp)])
 unfold Qd8
 rw [hf,aC]
 dsimp only
 rw [aI (by decide)]
 refine Xb hr ?_
 dsimp only
 rw [Qn,aH (by omega),Q6t V S,aC]; rfl
end
end Go.Ab
namespace Go.Ab
open Go
open Classical
def num (c w:Nat -> Nat):Nat -> Nat
 | 0=>0
 | n+1=>num c w n*c n+w n
def pd (c:Nat -> Nat):Nat -> Nat -> Nat -> Nat
 | 0,_,_=>0
 | n+1,k,j=>if j=n then k % c n else pd c n (k / c n) j
theorem Qrk {c w w':Nat -> Nat}:∀{n:Nat},(∀j,j < n->w j=w' j)->num c w n=num c w' n
 | 0,_=>rfl
 | n+1,h=>by unfold num; rw [Qrk fun j hj=>h j (by omega),h n (by omega)]
theorem Qzh {c w:Nat -> Nat}:∀{n:Nat},(∀j,j < n->w j < c j)->num c w n < Qp n c
 | 0,_=>by simp [num,Qp]
 | n+1,h=>by
  have h1:=Qzh (n:=n) fun j hj=>h j (by omega)
  have h2:=h n (by omega)
  unfold num Qp
  have:(num c w n+1)*c n<=Qp n c*c n:=aS _ h1
  rw [dS] at this
  omega
theorem Qud {c w:Nat -> Nat}:∀{n:Nat},(∀j,j < n->w j < c j)->∀j,j < n->pd c n (num c w n) j=w j
 | 0,_,j,hj=>by omega
 | n+1,h,j,hj=>by
  have h2:=h n (by omega)
  unfold pd num
  by_cases e:j=n
  ·subst e; rw [aH rfl,cJ,Nat.mul_add_mod,Nat.mod_eq_of_lt h2]
  rw [aI e,cJ,Nat.mul_add_div (by omega),Nat.div_eq_of_lt h2,eH]
  exact Qud (fun j hj=>h j (by omega)) j (by omega)
section
variable {D:NF} {m:Nat}
end
end Go.Ab
namespace Go.Ab
open Go
open Classical
section
variable {D:NF}
theorem Qvh {n:Nat} {w:Nat -> Nat} {E:Nat -> Int} (hn:n<=8) (hE:∀j,j < n->-1<=E j):Jx (Qk n w) (Qb n E)=some (decide (Zu n E 0 w)):=by
 by_cases h:Zu n E 0 w
 ·have hr:=Xy (n:=n) (k0:=0) (by omega) (by omega) (fun i (_:Unit)=>i) (body:=Z7 (Qb n E) (Qk n w)) (fun _=>()) true
   (fun k _ hk=>by
    unfold Z7
    rw [Qn,aH (dlt hk),Qv hk,aC]
    rcases h k (eC _) hk with e | e
    ·rw [aH (by simp [e])]
    rw [aI (by rw [e]; simp),Zp hk,aC,aH (by simp [e])])
   (by unfold Z7; rw [Qn,aI (nlt n)])
  unfold Jx
  rw [cT h]
  exact Xb hr rfl
 have hs:=Qqx (n:=n) (by omega) (fun j=>okE E j (w j)) (fun i (_:Unit)=>i) (body:=Z7 (Qb n E) (Qk n w)) (fun _=>()) true false
  (fun k hk _ hg=>by
   unfold Z7
   rw [Qn,aH (dlt hk),Qv hk,aC]
   rcases hg with e | e
   ·rw [aH (by simp [e])]
   rw [aI (by rw [e]; simp),Zp hk,aC,aH (by simp [e])])
  (fun k hk _ hg=>by
   unfold okE at hg
   unfold Z7
   rw [Qn,aH (dlt hk),Qv hk,aC,aI (by simp; omega),Zp hk,aC,aI (by simp; omega)])
  (fun _=>by unfold Z7; rw [Qn,aI (nlt n)])
 rcases hs with ⟨hall,_⟩ | ⟨_,hr⟩
 ·exact absurd (fun j _ hj=>hall j hj) h
 unfold Jx
 rw [decide_eq_false h]
 exact Xb hr rfl
def zF (w:Nat -> Nat) (i:Nat) (j:Nat):Nat := if j < i then w j else 0
theorem Q3a (V:VN D) {w:Nat -> Nat} (hw:D.ok w) (body:Int × List Int->Option (Qh (Int × List Int) (Int × List Int)))
  (hb:∀s,body s=if (decide (s.1>=0))=true then (lkI s.2 s.1).bind fun a=>(lkI D.net.Nodes s.1).bind fun b=>if (a==(zw (b.Card - 1)))=true then some (.next (zw (s.1 - 1),List.set s.2 (Int.toNat s.1) 0)) else some (.done (s.1,s.2)) else some (.done (s.1,s.2))) :
  ∃i:Nat,i<=D.n/\Qc fuel body (zw (((Qk D.n w).length:Int) - 1),Qk D.n w)=some ((i:Int) - 1,Qk D.n (zF w i))/\(∀j,i<=j->j < D.n->w j+1=D.card j)/\(∀k,i=k+1->w k+1 < D.card k):=by
 have hn8:=V.n8
 have hs:=J5 (body:=body) (fun s=>∃i:Nat,i<=D.n/\(∀j,i<=j->j < D.n->w j+1=D.card j)/\s=((i:Int) - 1,Qk D.n (zF w i))) (fun s=>(s.1+1).toNat)
  (fun r=>∃i:Nat,i<=D.n/\r=((i:Int) - 1,Qk D.n (zF w i))/\(∀j,i<=j->j < D.n->w j+1=D.card j)/\(∀k,i=k+1->w k+1 < D.card k))
  (fun s hs=>by
   obtain ⟨i,hi,hf,rfl⟩:=hs
   rw [hb]
   dsimp only
   cases i with
   | zero=>right; rw [aI (by simp)]; exact ⟨_,rfl,0,hi,rfl,hf,fun k hk=>by omega⟩
   | succ i =>
    have hc:=V.card i (by omega)
    have hwi:=hw i (by omega)
    have hg:lkI (Qk D.n (zF w (i+1))) (i:Int)=some (w i:Int):=by
     rw [Zp (by omega)]; unfold zF; rw [aH (by omega)]
    rw [show ((i+1:Nat):Int) - 1=(i:Int) by omega,aH (by simp),hg,aC,V.node (by omega),aC,show (D.node i).Card=(D.card i:Int) from rfl,w64 (n:=(D.card i:Int) - 1) (by omega)]
    by_cases c:w i+1=D.card i
    ·left
     rw [aH (by rw [dC]; omega),aQ,w64 (n:=(i:Int) - 1) (by omega)]
     refine ⟨_,rfl,⟨i,by omega,fun j h1 h2=>?_,?_⟩,by dsimp only; omega⟩
     ·by_cases e:j=i
      ·subst e; exact c
      exact hf j (by omega) h2
     have e:(Qk D.n (zF w (i+1))).set i 0=Qk D.n (zF w i):=by
      rw [show (0:Int)=((0:Nat):Int) from rfl,Qg0]
      refine Qf fun j _=>congrArg Nat.cast ?_
      unfold updF zF
      by_cases e:j=i
      ·subst e; rw [aH rfl,aI (by omega)]
      rw [aI e]
      by_cases e2:j < i
      ·rw [aH (by omega),aH e2]
      rw [aI (by omega),aI e2]
     rw [e]
    right
    rw [aI (by rw [dC]; omega)]
    exact ⟨_,rfl,i+1,hi,by rw [show ((i+1:Nat):Int) - 1=(i:Int) by omega],hf,fun k hk=>by
     have:k=i:=by omega
     subst this; omega⟩)
  fuel ((D.n:Int) - 1,Qk D.n (zF w D.n)) ⟨D.n,aZ _,fun j h1 h2=>by omega,rfl⟩ (by unfold fuel; dsimp only; omega)
 have e0:Qk D.n w=Qk D.n (zF w D.n):=Qf fun j hj=>by
  show (w j:Int)=((zF w D.n j:Nat):Int)
  unfold zF; rw [aH hj]
 obtain ⟨r,h1,i,hi,rfl,h2,h3⟩:=hs
 refine ⟨i,hi,?_,h2,h3⟩
 rw [Yt,w64 (n:=(D.n:Int) - 1) (by omega),e0]
 exact h1
def tpr (c:Nat -> Nat) (i:Nat):Nat -> Nat
 | 0=>1
 | d+1=>tpr c i d*c (i+d)
theorem Qtd {c:Nat -> Nat}:∀{n:Nat},tpr c 0 n=Qp n c
 | 0=>rfl
 | n+1=>by unfold tpr Qp; rw [Qtd,dR]
theorem Qn0 {c w:Nat -> Nat} {i:Nat}:∀{d:Nat},(∀j,i<=j->j < i+d->w j+1=c j)->num c w (i+d)+1=(num c w i+1)*tpr c i d
 | 0,_=>by simp [tpr]
 | d+1,h=>by
  have h1:=Qn0 (d:=d) fun j h1 h2=>h j h1 (by omega)
  have h2:=h (i+d) (by omega) (by omega)
  show num c w (i+d)*c (i+d)+w (i+d)+1=(num c w i+1)*(tpr c i d*c (i+d))
  rw [<-Nat.mul_assoc,<-h1,dS]; omega
theorem Qt1 {c w:Nat -> Nat} {i:Nat}:∀{d:Nat},(∀j,i<=j->j < i+d->w j=0)->num c w (i+d)=num c w i*tpr c i d
 | 0,_=>by simp [tpr]
 | d+1,h=>by
  have h1:=Qt1 (c:=c) (d:=d) fun j h1 h2=>h j h1 (by omega)
  have h2:=h (i+d) (by omega) (by omega)
  show num c w (i+d)*c (i+d)+w (i+d)=num c w i*(tpr c i d*c (i+d))
  rw [h1,h2,<-Nat.mul_assoc,eH]
theorem Q1x {c w:Nat -> Nat} {n:Nat} (h:∀j,j < n->w j+1=c j):num c w n+1=Qp n c:=by
 have:=Qn0 (c:=c) (w:=w) (i:=0) (d:=n) fun j _ h2=>h j (by omega)
 rw [dR,Qtd] at this
 rw [this]; simp [num]
theorem Q1w {c w:Nat -> Nat} {n k:Nat} (hk:k < n) (h:∀j,k+1<=j->j < n->w j+1=c j):num c (updF (zF w (k+1)) k (w k+1)) n=num c w n+1:=by
 obtain ⟨d,rfl⟩:=Nat.exists_eq_add_of_le hk
 have h1:=Qn0 (c:=c) (w:=w) (i:=k+1) (d:=d) fun j h1 h2=>h j h1 h2
 have h2:=Qt1 (c:=c) (w:=updF (zF w (k+1)) k (w k+1)) (i:=k+1) (d:=d) fun j h1 h2=>by
  unfold updF zF; rw [aI (by omega),aI (by omega)]
 have h3:num c (updF (zF w (k+1)) k (w k+1)) (k+1)=num c w (k+1)+1:=by
  have:num c (updF (zF w (k+1)) k (w k+1)) k=num c w k:=Qrk fun j hj=>by
   unfold updF zF; rw [aI (by omega),aH (by omega)]
  show num c _ k*c k+updF (zF w (k+1)) k (w k+1) k=num c w k*c k+w k+1
  rw [this,Q9]; omega
 rw [show k.succ+d=k+1+d from rfl,h1,h2,h3]
theorem Q4i {w:Nat -> Nat} (hw:D.ok w) {k:Nat} (hk:w k+1 < D.card k):D.ok (updF (zF w (k+1)) k (w k+1)):=fun j hj=>by
 unfold updF zF
 split
 ·rename_i e; subst e; exact hk
 split
 ·exact hw j hj
 have:=hw j hj; omega
end
end Go.Ab
namespace Go.Ab
open Go
open Classical
section
variable {D:NF}
theorem Qp2 (V:VN D) {W:Nat} (hW:W < Qp D.n D.card):∀k,k<=D.n->num D.card (dig D W) k=W / PS D k
 | 0,_=>by
  have h0:PS D 0=Qp D.n D.card:=by
   have:=Q18 (D:=D)
   unfold PS; rw [cZ]; exact this
  rw [h0,Nat.div_eq_of_lt hW]; rfl
 | k+1,hk=>by
  have h1:=Qp2 V hW k (by omega)
  have h2:=Qp8 (D:=D) (k:=k) (by omega)
  show num D.card (dig D W) k*D.card k+dig D W k=W / PS D (k+1)
  rw [h1,h2,cJ (D.card k),<-Nat.div_div_eq_div_mul]
  unfold dig
  rw [cJ]
  exact dM _ _
theorem Q6u (V:VN D) {W:Nat} (hW:W < Qp D.n D.card):∀j,j < D.n->pd D.card D.n W j=dig D W j:=fun j hj=>by
 have h:=Qp2 V hW D.n (aZ _)
 rw [Qzu,Nat.div_one] at h
 have:=Qud (c:=D.card) (w:=dig D W) (n:=D.n) (Qo8 V W) j hj
 rwa [h] at this
noncomputable def shF (D:NF) (E:Nat -> Int) (W:Nat):Int:=if Zu D.n E 0 (dig D W) then fS D 0 (dig D W) else 0
theorem Qqb (V:VN D) {E:Nat -> Int} {W:Nat}:0<=shF D E W/\shF D E W<=167961600000000:=by
 unfold shF
 split
 ·have h1:=V.fr_le (m:=0) (Qo8 V W) (aZ _)
  unfold fS; omega
 omega
theorem Qvx (V:VN D) {E:Nat -> Int}:∀W,0<=Qi W (shF D E)/\Qi W (shF D E)<=(W:Int)*167961600000000
 | 0=>by simp [Qi]
 | W+1=>by
  have h1:=Qvx V (E:=E) W
  have h2:=Qqb V (E:=E) (W:=W)
  simp only [Qi]
  omega
end
end Go.Ab
namespace Go.Ab
open Go
open Classical
section
variable {D:NF}
theorem Q35 (V:VN D) {E:Nat -> Int}:Qi (Qp D.n D.card) (shF D E)=SW D E (fS D 0):=by
 rw [Qeo V (Qad V)]; rfl
end
end Go.Ab
namespace Go.Ab
open Go
open Classical
theorem Qsa (a b:Ag):Ap a b=decide (a=b):=by
 obtain ⟨a1,a2⟩:=a; obtain ⟨b1,b2⟩:=b
 rw [Bool.eq_iff_iff]
 simp [Ap]
abbrev Pm:=List (Ag × Int)
theorem Q25 {k k':Ag} {v:Int}:∀(m:Pm),kget Ap (kput Ap m k v) k'=if k'=k then some v else kget Ap m k'
 | []=>by
  simp only [kput,kget,Qsa]
  by_cases h:k'=k
  ·simp [h]
  simp [h]
 | p::r=>by
  unfold kput
  simp only [Qsa]
  by_cases c:k=p.1
  ·subst c
   simp only [decide_true,eK,kget,Qsa]
   by_cases h:k'=p.1
   ·simp [h]
   simp [h]
  simp only [c,decide_false,aT,eJ,kget,Qsa,Q25 r]
  by_cases h:k'=p.1
  ·subst h
   have:¬ p.1=k:=fun e=>c e.symm
   simp [this]
  simp [h]
def mv (m:Pm) (v x:Nat):Int:=(kget Ap m ⟨(v:Int),(x:Int)⟩).getD 0
theorem Q42 {n:Nat} {w:Nat -> Nat} {x14:Int} {s9:Int × Int × Pm × List Int} (h9:s9.2.2.2=Qk n w) (hn:n<=8) {m:Pm} (hb:∀v x,0<=mv m v x/\mv m v x<=1000000000000000000) (hx:0<=x14/\x14<=1000000000000000000) :
  ∃m',Qc fuel (Y3 s9 x14) (0,m)=some m'/\∀v x,mv m' v x=mv m v x+if v < n/\x=w v then x14 else 0:=by
 obtain ⟨r,h1,h2⟩:=Qjh (n:=n) (k0:=0) (by omega) (by omega) (fun i (t:Pm)=>(i,t)) (body:=Y3 s9 x14) (fun k t=>∀v x,mv t v x=mv m v x+if v < k/\x=w v then x14 else 0) (fun r=>∀v x,mv r v x=mv m v x+if v < n/\x=w v then x14 else 0)
  (fun k t _ hk hI=>by
   left
   unfold Y3
   dsimp only
   rw [h9,Yt,aH (dlt hk),Zp hk,aC]
   refine ⟨_,rfl,fun v x=>?_⟩
   have hkk:=hI k (w k)
   rw [aI (by omega),Int.add_zero] at hkk
   have hbk:=hb k (w k)
   have e:zw ((kget Ap t ⟨(k:Int),(w k:Int)⟩).getD 0+x14)=mv m k (w k)+x14:=by
    show zw (mv t k (w k)+x14)=_
    rw [hkk,w64 (by omega)]
   rw [e]
   have hi:=hI v x
   unfold mv at hi ⊢
   rw [Q25]
   by_cases c:v=k/\x=w k
   ·obtain ⟨rfl,rfl⟩:=c
    rw [aH rfl,aH ⟨by omega,rfl⟩]; rfl
   rw [aI (fun h=>c (by
    injection h with h1 h2
    exact ⟨by omega,by omega⟩)),hi]
   congr 1
   by_cases c2:v < k/\x=w v
   ·rw [aH c2,aH ⟨by omega,c2.2⟩]
   rw [aI c2,aI (fun h=>by
    by_cases e2:v=k
    ·subst e2; exact c ⟨rfl,h.2⟩
    exact c2 ⟨by omega,h.2⟩)])
  (fun t hI=>⟨t,by unfold Y3; dsimp only; rw [h9,Yt,aI (nlt n)],hI⟩) m (fun v x=>by rw [aI (by omega),Int.add_zero])
 exact ⟨r,h1,h2⟩
end Go.Ab
namespace Go.Ab
open Go
open Classical
section
variable {D:NF}
noncomputable def pS (D:NF) (E:Nat -> Int) (v x W:Nat):Int:=Qi W fun W'=>if dig D W' v=x then shF D E W' else 0
theorem Qzi (V:VN D) {E:Nat -> Int} {v x:Nat}:∀W,0<=pS D E v x W/\pS D E v x W<=(W:Int)*167961600000000
 | 0=>by simp [pS,Qi]
 | W+1=>by
  have h1:=Qzi V (E:=E) (v:=v) (x:=x) W
  have h2:=Qqb V (E:=E) (W:=W)
  have h3:pS D E v x (W+1)=pS D E v x W+if dig D W v=x then shF D E W else 0:=rfl
  rw [h3]
  split <;> omega
theorem Qy9 (X:VX D) {hi lo:Nat -> List Nat} (S:Vs D hi lo) {E:Nat -> Int} (hE:Jg D E) {e0:Int}:∃m,Qc fuel (Vx (Qb D.n E) (qst D hi lo,e0)) (0,0,[],Qk D.n fun _=>0)=some (Qi (Qp D.n D.card) (shF D E),m)/\∀v x,v < D.n->mv m v x=pS D E v x (Qp D.n D.card):=by
 have V:=X.vn
 have hn8:=V.n8
 have hN:=V.worlds
 have hN1:1<=Qp D.n D.card:=Qxs fun j hj=>(V.card j hj).1
 have hsp:=J5 (body:=Vx (Qb D.n E) (qst D hi lo,e0)) (fun s=>∃W m,W < Qp D.n D.card/\(∀v x,mv m v x=if v < D.n then pS D E v x W else 0)/\s=((W:Int),Qi W (shF D E),m,Qk D.n (dig D W))) (fun s=>(2000 - s.1).toNat)
  (fun r=>∃m,r=(Qi (Qp D.n D.card) (shF D E),m)/\∀v x,v < D.n->mv m v x=pS D E v x (Qp D.n D.card))
  (fun s hs=>by
   obtain ⟨W,m,hW,hm,rfl⟩:=hs
   have hok:=Qo8 V W
   have r1:=Qvx V (E:=E) W
   have r2:=Qqb V (E:=E) (W:=W)
   have hnum:num D.card (dig D W) D.n=W:=by
    have h:=Qp2 V hW D.n (aZ _)
    rwa [Qzu,Nat.div_one] at h
   obtain ⟨i,hi',c0,cf,cn⟩:=Q3a V hok (Qcw (qst D hi lo,e0)) (fun s=>rfl)
   obtain ⟨i2,hi2,d0,df,dn⟩:=Q3a V hok (Qc0 (qst D hi lo,e0)) (fun s=>rfl)
   have nxt:∀k,k < D.n->(∀j,k+1<=j->j < D.n->dig D W j+1=D.card j)->dig D W k+1 < D.card k->W+1 < Qp D.n D.card/\Qk D.n (updF (zF (dig D W) (k+1)) k (dig D W k+1))=Qk D.n (dig D (W+1)):=fun k hk hfull hlt=>by
    have e:=Q1w (c:=D.card) hk hfull
    rw [hnum] at e
    have hok2:=Q4i hok hlt
    have hl:W+1 < Qp D.n D.card:=by rw [<-e]; exact Qzh hok2
    refine ⟨hl,Qf fun j hj=>congrArg Nat.cast ?_⟩
    rw [<-Q6u V hl j hj,<-e]
    exact (Qud hok2 j hj).symm
   have lst:(∀j,j < D.n->dig D W j+1=D.card j)->W+1=Qp D.n D.card:=fun h=>by
    have:=Q1x (c:=D.card) h
    rwa [hnum] at this
   have e1:zw (Qi W (shF D E)+shF D E W)=Qi (W+1) (shF D E):=by
    rw [w64 (by omega)]; rfl
   have eW:zw ((W:Int)+1)=((W+1:Nat):Int):=Qcr (by omega)
   have hps:∀v x,pS D E v x (W+1)=pS D E v x W+if dig D W v=x then shF D E W else 0:=fun v x=>rfl
   unfold Vx
   dsimp only
   rw [Qvh hn8 (fun j hj=>(hE j hj).1),aC]
   by_cases cm:Zu D.n E 0 (dig D W)
   ·have es:shF D E W=fS D 0 (dig D W):=aH cm
    obtain ⟨m',hm1,hm2⟩:=Q42 (n:=D.n) (w:=dig D W) (x14:=shF D E W) (s9:=((W:Int),Qi W (shF D E),m,Qk D.n (dig D W))) rfl hn8 (m:=m) (fun v x=>by
     have:=Qzi V (E:=E) (v:=v) (x:=x) W
     rw [hm]; split <;> omega) (by omega)
    have hm':∀v x,mv m' v x=if v < D.n then pS D E v x (W+1) else 0:=fun v x=>by
     rw [hm2,hm,hps]
     by_cases c:v < D.n
     ·rw [aH c,aH c]
      by_cases c2:dig D W v=x
      ·rw [aH ⟨c,c2.symm⟩,aH c2]
      rw [aI (fun h=>c2 h.2.symm),aI c2]
     rw [aI c,aI c,aI (fun h=>c h.1)]; rfl
    rw [aH (cT cm),Qyu X S hok,aC,<-es,hm1,aC,c0,aC]
    dsimp only
    rw [e1]
    cases i with
    | zero =>
     right
     rw [aH (by simp)]
     have hl:=lst fun j hj=>cf j (eC _) hj
     exact ⟨_,rfl,m',by rw [hl],fun v x hv=>by rw [hm',aH hv,hl]⟩
    | succ k =>
     left
     obtain ⟨n1,n2⟩:=nxt k (by omega) cf (cn k rfl)
     have hg:lkI (Qk D.n (zF (dig D W) (k+1))) (k:Int)=some (dig D W k:Int):=by
      rw [Zp (by omega)]; unfold zF; rw [aH (by omega)]
     have hd:=hok k (by omega)
     have hc:=V.card k (by omega)
     rw [show ((k+1:Nat):Int) - 1=(k:Int) by omega,aI (by simp),hg,aC,eW,aQ,Qcr (by omega),Qg0,n2]
     exact ⟨_,rfl,⟨W+1,m',n1,hm',rfl⟩,by dsimp only; omega⟩
   have es:shF D E W=0:=aI cm
   have e2:Qi W (shF D E)=Qi (W+1) (shF D E):=by show _=Qi W (shF D E)+shF D E W; rw [es,Int.add_zero]
   have hm':∀v x,mv m v x=if v < D.n then pS D E v x (W+1) else 0:=fun v x=>by
    rw [hm,hps,es]
    simp
   rw [aI (by simpa using cm),d0,aC]
   dsimp only
   rw [e2]
   cases i2 with
   | zero =>
    right
    rw [aH (by simp)]
    have hl:=lst fun j hj=>df j (eC _) hj
    exact ⟨_,rfl,m,by rw [hl],fun v x hv=>by rw [hm',aH hv,hl]⟩
   | succ k =>
    left
    obtain ⟨n1,n2⟩:=nxt k (by omega) df (dn k rfl)
    have hg:lkI (Qk D.n (zF (dig D W) (k+1))) (k:Int)=some (dig D W k:Int):=by
     rw [Zp (by omega)]; unfold zF; rw [aH (by omega)]
    have hd:=hok k (by omega)
    have hc:=V.card k (by omega)
    rw [show ((k+1:Nat):Int) - 1=(k:Int) by omega,aI (by simp),hg,aC,eW,aQ,Qcr (by omega),Qg0,n2]
    exact ⟨_,rfl,⟨W+1,m,n1,hm',rfl⟩,by dsimp only; omega⟩)
  fuel (0,0,[],Qk D.n fun _=>0) ⟨0,[],by omega,fun v x=>by simp [mv,kget,pS,Qi],by
   refine Prod.ext rfl (Prod.ext rfl (Prod.ext rfl (Qf fun j hj=>congrArg Nat.cast ?_)))
   show 0=dig D 0 j
   unfold dig; rw [Nat.zero_div,Nat.zero_mod]⟩ (by unfold fuel; dsimp only; omega)
 obtain ⟨r,h1,m,rfl,h2⟩:=hsp
 exact ⟨m,h1,h2⟩
end
end Go.Ab
namespace Go.Ab
open Go
open Classical
section
variable {D:NF}
theorem Q8e (V:VN D) {E:Nat -> Int} {v x:Nat} (hv:v < D.n):pS D E v x (Qp D.n D.card)=SW D E (at' v x (fS D 0)):=by
 rw [Qeo V (Qlp hv (Qad V))]
 refine Q7 fun W _=>?_
 unfold shF at'
 by_cases c:dig D W v=x
 ·rw [aH c,aH c]
 rw [aI c,aI c]
 split <;> rfl
theorem Qtg (X:VX D) {E:Nat -> Int} (hE:Jg D E) {v:Nat} (hv:v < D.n):X4 D.net (Qb D.n E) (v:Int) =
  some (if SW D E (fS D 0)=0 then ([],7) else (Qb (D.card v) fun k=>qI (SW D E (at' v k (fS D 0))) (SW D E (fS D 0)),0)):=by
 have V:=X.vn
 have hn8:=V.n8
 have hc:=V.card v hv
 have hlen:D.net.Nodes.length=D.n:=Qn
 obtain ⟨hi,lo,S,ha⟩:=Q5m X
 obtain ⟨m,hl,hm⟩:=Qy9 X S hE (e0:=0)
 unfold X4
 rw [ha E hE,aC]
 dsimp only
 rw [aI (by decide),aI (by simp),show (qst D hi lo).Net=D.net from rfl,hlen,aI (by simp; omega),aH (by omega),Qoy,hl,aC,Q35 V]
 dsimp only
 by_cases c:SW D E (fS D 0)=0
 ·rw [aH (by simp [c]),aH c]
 ·rw [aI (by simpa using c),aI c,V.node hv,aC,show (D.node v).Card=(D.card v:Int) from rfl,aH (by omega)]
  have hz:List.replicate (Int.toNat (D.card v:Int)) ((Qm.mk 0 0):Qm)=Qb (D.card v) fun _=>Qm.mk 0 0:=by rw [aQ]; exact J4 _ _
  have hr:=Xy (n:=D.card v) (k0:=0) (by omega) (by omega) (fun i (t:List Qm)=>(i,t)) (body:=V1 (D.node v) (SW D E (fS D 0),m) (v:Int))
   (fun k=>Qb (D.card v) fun j=>if j < k then qI (SW D E (at' v j (fS D 0))) (SW D E (fS D 0)) else Qm.mk 0 0) (Sum.inr (Qb (D.card v) fun k=>qI (SW D E (at' v k (fS D 0))) (SW D E (fS D 0))))
   (fun k _ hk=>by
    have hkk:(kget Ap m ⟨(v:Int),(k:Int)⟩).getD 0=SW D E (at' v k (fS D 0)):=by
     have:=hm v k hv
     rw [Q8e V hv] at this; exact this
    unfold V1
    dsimp only
    rw [show (D.node v).Card=(D.card v:Int) from rfl,hz,Qn,aH (dlt hk),hkk,Qwf (Qbw V).2 (Qcd V).2 c,aC]
    dsimp only
    rw [aI (by decide),Qv hk,aC,aQ,Z9]
    refine congrArg (fun l=>some (Qh.next (zw ((k:Int)+1),l))) (Qf fun j _=>?_)
    by_cases e:j=k
    ·subst e; rw [aH rfl,aH (by omega)]
    rw [aI e]
    by_cases e2:j < k
    ·rw [aH e2,aH (by omega)]
    rw [aI e2,aI (by omega)])
   (by
    unfold V1
    dsimp only
    rw [show (D.node v).Card=(D.card v:Int) from rfl,hz,Qn,aI (nlt _)]
    exact congrArg (fun l=>some (Qh.done (Sum.inr l))) (Qf fun j hj=>by rw [aH hj]))
  have e0:(Qb (D.card v) fun _=>Qm.mk 0 0)=Qb (D.card v) fun j=>if j < 0 then qI (SW D E (at' v j (fS D 0))) (SW D E (fS D 0)) else Qm.mk 0 0:=Qf fun j _=>by rw [aI (by omega)]
  rw [hz,e0]
  exact Xb hr rfl
end
end Go.Ab
namespace Go.Ab
open Go
theorem Q5y {n:Nat} {p:Nat -> Bool} {a:Nat} (ha:a < 2^n) (h:∀i,i < n->a.testBit i=p i):a=msk n p:=by
 apply Nat.eq_of_testBit_eq
 intro i
 rw [Qge]
 by_cases hi:i < n
 ·simp [hi,h i hi]
 rw [Nat.testBit_lt_two_pow (bM ha (aU (by omega) (by omega)))]; simp [hi]
theorem Qyz {a j:Nat} (h:a < 18446744073709551616):(zb (a:Int)).getLsbD j=a.testBit j:=by unfold BitVec.getLsbD; rw [Qda h]
theorem Q5n {n:Nat} {p q:Nat -> Bool} {a b:Nat} (hn:n<=64) (ha:a < 2^n) (hb:b < 18446744073709551616) (hp:∀i,i < n->a.testBit i=p i) (hq:∀i,i < n->b.testBit i=q i) :
  zv (zb (a:Int) &&& ~~~ zb (b:Int)).toNat = ((msk n fun i=>p i && !q i:Nat):Int):=by
 have ha':a < 18446744073709551616:=bM ha (aU (n:=2) (by omega) hn)
 have h1:(zb (a:Int) &&& ~~~ zb (b:Int)).toNat < 18446744073709551616:=BitVec.isLt _
 rw [Qco h1]
 congr 1
 refine Q5y ?_ fun i hi=>?_
 ·refine Nat.lt_of_le_of_lt ?_ ha
  rw [BitVec.toNat_and,Qda ha']
  exact Nat.and_le_left
 ·have:i < 64:=by omega
  have e:(zb (a:Int) &&& ~~~ zb (b:Int)).toNat.testBit i=(zb (a:Int) &&& ~~~ zb (b:Int)).getLsbD i:=rfl
  rw [e,BitVec.getLsbD_and,BitVec.getLsbD_not,Qyz ha',Qyz hb,hp i hi,hq i hi]
  have h64:i < zk:=this
  simp [h64]
theorem Qgb (v i:Nat):(2^v).testBit i=decide (v=i):=dA
theorem Q2e {n:Nat} {p:Nat -> Bool} (h:∀i,i < n->p i=false):cnt n p=0:=by
 induction n with
 | zero=>rfl
 | succ n ih=>simp only [cnt]; rw [ih fun i hi=>h i (by omega),h n (by omega)]; rfl
end Go.Ab
namespace Go.Ab
open Go
structure Gd (n:Nat) (S:Nat -> Nat):Prop where
 inn:∀v,v < n->∀j,(S v).testBit j=true->j < n
 acyc:∀v,v < n->¬ (ups n S n (S v)).testBit v=true
end Go.Ab
namespace Go.Ab
open Go
abbrev Stp:=List (Ah × Bool)
def vis (m:Stp) (v:Nat) (d:Bool):Bool:=(kget Aq m ⟨(v:Int),d⟩).getD false
section
variable (n:Nat) (S:Nat -> Nat) (z az x:Nat)
def Suc (m:Stp) (u:Nat) (e:Bool):Prop :=
 (z.testBit u=false->∀c,c < n->(S c).testBit u=true->vis m c true=true)/\(e=false->z.testBit u=false->∀p,p < n->(S u).testBit p=true->vis m p false=true)/\(e=true->az.testBit u=true->∀p,p < n->(S u).testBit p=true->vis m p false=true)
structure DE (m m':Stp):Prop where
 le:∀u e,vis m u e=true->vis m' u e=true
 new:∀u e,vis m' u e=true->vis m u e=false->Suc n S z az m' u e
variable {n S z az x}
theorem Suc.mono {m m':Stp} (h:∀u e,vis m u e=true->vis m' u e=true) {u:Nat} {e:Bool} (k:Suc n S z az m u e):Suc n S z az m' u e :=
 ⟨fun a c b d=>h _ _ (k.1 a c b d),fun a b p c d=>h _ _ (k.2.1 a b p c d),fun a b p c d=>h _ _ (k.2.2 a b p c d)⟩
theorem DE.trans {m m1 m2:Stp} (h:DE n S z az m m1) (k:DE n S z az m1 m2):DE n S z az m m2:=⟨fun u e a=>k.le u e (h.le u e a),fun u e a b=>by
 cases hv:vis m1 u e with
 | true=>exact (h.new u e hv b).mono k.le
 | false=>exact k.new u e a hv⟩
end
end Go.Ab
namespace Go.Ab
open Go
def DjB (n y z x w:Nat):Bool:=decide (y ||| z ||| x ||| w < 2^n) && (y &&& z==0) && (y &&& x==0) && (z &&& x==0) && (y &&& w==0) && (z &&& w==0) && (x &&& w==0)
section
variable {n:Nat} {S:Nat -> Nat} (h1:1<=n) (hn:n<=8) (hS:Gd n S) {y z x w:Nat}
end
section
variable {n:Nat} {g:Int} {F:Nat -> Ad}
end
end Go.Ab
namespace Go.Ab
open Go
open Classical
def NS (c:Nat -> Nat) (f:(Nat -> Nat)->Int):Nat -> Nat -> (Nat -> Nat)->Int
 | 0,_,w=>f w
 | d+1,i,w=>Qi (c i) fun x=>NS c f d (i+1) (updF w i x)
def okW (c:Nat -> Nat) (n:Nat) (w:Nat -> Nat):Prop:=∀v,v < n->w v < c v
theorem okW.upd {c:Nat -> Nat} {n i x:Nat} {w:Nat -> Nat} (h:okW c n w) (hx:x < c i):okW c n (updF w i x):=fun v hv=>by
 unfold updF
 split
 ·rename_i e; subst e; exact hx
 exact h v hv
theorem Qnu {c:Nat -> Nat} {n:Nat} {f g:(Nat -> Nat)->Int} (h:∀w,okW c n w->f w=g w):∀(d i:Nat) (w:Nat -> Nat),okW c n w->NS c f d i w=NS c g d i w
 | 0,_,w,hw=>h w hw
 | d+1,i,w,hw=>Q7 fun x hx=>Qnu h d (i+1) _ (hw.upd hx)
theorem Q06 {w:Nat -> Nat} {i j x y:Nat} (h:i≠j):updF (updF w i x) j y=updF (updF w j y) i x:=by
 funext v
 unfold updF
 by_cases e:v=j
 ·subst e
  rw [aH rfl,aI (fun e=>h e.symm),aH rfl]
 rw [aI e]
 by_cases e2:v=i
 ·rw [aH e2,aH e2]
 rw [aI e2,aI e2,aI e]
theorem Qun {c:Nat -> Nat} {n b:Nat} {h1 h2:(Nat -> Nat)->Int} {g:Int} (h:∀w,okW c n w->Qi (c b) (fun x=>h1 (updF w b x))=g*Qi (c b) fun x=>h2 (updF w b x)) :
  ∀(d j:Nat) (w:Nat -> Nat),b < j->okW c n w->(Qi (c b) fun x=>NS c h1 d j (updF w b x))=g*Qi (c b) fun x=>NS c h2 d j (updF w b x)
 | 0,_,w,_,hw=>h w hw
 | d+1,j,w,hj,hw=>by
  have sw:∀h:(Nat -> Nat)->Int,(Qi (c b) fun x=>NS c h (d+1) j (updF w b x))=Qi (c j) fun y=>Qi (c b) fun x=>NS c h d (j+1) (updF (updF w j y) b x):=fun h=>by
   show (Qi (c b) fun x=>Qi (c j) fun y=>NS c h d (j+1) (updF (updF w b x) j y))=_
   rw [Qzm]
   exact Q7 fun y _=>Q7 fun x _=>by rw [Q06 (by omega)]
  rw [sw,sw,Int.mul_comm,<-Qjg]
  exact Q7 fun y hy=>by rw [Qun h d (j+1) _ (by omega) (hw.upd hy),Int.mul_comm]
theorem Qus {c:Nat -> Nat} {n b:Nat} {h1 h2:(Nat -> Nat)->Int} {g:Int} (h:∀w,okW c n w->Qi (c b) (fun x=>h1 (updF w b x))=g*Qi (c b) fun x=>h2 (updF w b x)) :
  ∀(d i:Nat) (w:Nat -> Nat),i<=b->b < i+d->okW c n w->NS c h1 d i w=g*NS c h2 d i w
 | 0,i,w,h3,h4,_=>by omega
 | d+1,i,w,h3,h4,hw=>by
  by_cases e:i=b
  ·subst e
   exact Qun h d (i+1) w (by omega) hw
  unfold NS
  rw [Int.mul_comm,<-Qjg]
  exact Q7 fun x hx=>by rw [Qus h d (i+1) _ (by omega) (by omega) (hw.upd hx),Int.mul_comm]
theorem Q21 {D:NF} {f:(Nat -> Nat)->Int}:∀(d i:Nat) (w:Nat -> Nat),TM D (fun _=>-1) f d i w=NS D.card f d i w
 | 0,_,_=>rfl
 | d+1,i,w=>Q7 fun x _=>by rw [aH (.inl rfl),Q21 d (i+1)]
section
variable {D:NF} {u:Nat -> Nat} {m M:Nat}
def hT (D:NF) (u:Nat -> Nat) (m M:Nat) (w:Nat -> Nat):Int:=if ∀v,v < D.n->M.testBit v=true->w v=u v then fS D m w else 0
def TT (D:NF) (u:Nat -> Nat) (m M:Nat):Int:=NS D.card (hT D u m M) D.n 0 fun _=>0
theorem Qqp (V:VN D):okW D.card D.n fun _=>0:=fun v hv=>(V.card v hv).1
theorem Qnp {m m':Nat} {w w':Nat -> Nat} (h:∀v,v < D.n->(if m.testBit v=true then 1 else D.wt w v)=if m'.testBit v=true then 1 else D.wt w' v):fS D m w=fS D m' w':=by
 unfold fS NF.fr
 rw [Kd h]
theorem Qg6 {m' M':Nat} (V:VN D) (h1:∀v,v < D.n->m.testBit v=m'.testBit v) (h2:∀v,v < D.n->M.testBit v=M'.testBit v):TT D u m M=TT D u m' M':=by
 refine Qnu (n:=D.n) (fun w _=>?_) D.n 0 _ (Qqp V)
 unfold hT
 rw [Qnp (m':=m') (w':=w) fun v hv=>by rw [h1 v hv]]
 have e:(∀v,v < D.n->M.testBit v=true->w v=u v)↔∀v,v < D.n->M'.testBit v=true->w v=u v:=⟨fun h v hv hb=>h v hv (by rw [h2 v hv]; exact hb),fun h v hv hb=>h v hv (by rw [<-h2 v hv]; exact hb)⟩
 by_cases c:∀v,v < D.n->M.testBit v=true->w v=u v
 ·rw [aH c,aH (e.1 c)]
 rw [aI c,aI fun h=>c (e.2 h)]
theorem Q5w {w w':Nat -> Nat} {v:Nat} (h0:w v=w' v) (h:∀p∈D.par v,w p=w' p):D.wt w v=D.wt w' v:=by
 have:D.idx v w=D.idx v w':=by
  unfold NF.idx Yu
  have:∀(l:List Nat) (r:Nat),(∀p∈l,w p=w' p)->l.foldl (fun r p=>r*D.card p+w p) r=l.foldl (fun r p=>r*D.card p+w' p) r:=fun l=>by
   induction l with
   | nil=>intro r _; rfl
   | cons p l ih =>
    intro r h
    simp only [List.foldl_cons]
    rw [h p (by simp)]
    exact ih _ fun p hp=>h p (cL _ hp)
  exact this _ _ h
 unfold NF.wt
 rw [this,h0]
theorem Qxg {n:Nat} {f g:Nat -> Nat}:Qp n f*Qp n g=Qp n fun v=>f v*g v:=by
 induction n with
 | zero=>rfl
 | succ n ih =>
  unfold Qp
  rw [<-ih,Nat.mul_mul_mul_comm]
theorem Qoa {n k:Nat} {R:Int} (hk:k < n):Qi n (fun x=>if x=k then R else 0)=R:=by
 induction n with
 | zero=>omega
 | succ n ih =>
  simp only [Qi]
  by_cases e:n=k
  ·subst e
   rw [aH rfl,Q7 (g:=fun _=>0) fun x hx=>aI (by omega),Ki]; omega
  rw [aI e,ih (by omega)]; omega
theorem Qvk {n b:Nat} {f:Nat -> Nat} (hb:b < n):Qp n f=Qp n (fun v=>if v=b then 1 else f v)*f b:=by
 induction n with
 | zero=>omega
 | succ n ih =>
  unfold Qp
  dsimp only
  by_cases e:n=b
  ·subst e
   rw [aH rfl,Nat.mul_one,Kd (g:=fun v=>if v=n then 1 else f v) fun v hv=>(aI (by omega)).symm]
  rw [aI e,ih (by omega),Nat.mul_right_comm]
theorem Qz9 (X:VX D) {b:Nat} (hb:b < D.n) (hbM:M.testBit b=false) (hbm:m.testBit b=false) (hch:∀v,v < D.n->m.testBit v=false->v≠b->b ∉ D.par v) (hu:u b < D.card b) :
  TT D u m M=D.g*TT D u (m ||| 2^b) (M ||| 2^b):=by
 have V:=X.vn
 have bb:∀(s v:Nat),(s ||| 2^b).testBit v=(s.testBit v || decide (b=v)):=fun s v=>by rw [bF,Qgb]
 refine Qus (n:=D.n) (b:=b) (fun w hw=>?_) D.n 0 _ (eC _) (by omega) (Qqp V)
 have hR:∀x,fS D (m ||| 2^b) (updF w b x)=fS D (m ||| 2^b) w:=fun x=>Qnp fun v hv=>by
  rw [bb]
  by_cases e:b=v
  ·simp [e]
  by_cases c:m.testBit v=true
  ·simp [c]
  simp only [cM] at c
  simp only [c,e,decide_false,Bool.or_false,aT,eJ]
  exact Q5w (Zz fun h=>e h.symm) fun p hp=>Zz fun h=>hch v hv c (fun h=>e h.symm) (h ▸ hp)
 have hF:∀x,fS D m (updF w b x)=fS D (m ||| 2^b) w*(D.W b (D.idx b w) x:Int):=fun x=>by
  rw [<-hR x]
  unfold fS NF.fr
  rw [Qvk hb,hbm,<-Int.natCast_mul]
  have e1:D.wt (updF w b x) b=D.W b (D.idx b w) x:=by
   have:D.idx b (updF w b x)=D.idx b w:=by
    unfold NF.idx Yu
    have:∀(l:List Nat) (r:Nat),(∀p∈l,p≠b)->l.foldl (fun r p=>r*D.card p+updF w b x p) r=l.foldl (fun r p=>r*D.card p+w p) r:=fun l=>by
     induction l with
     | nil=>intro r _; rfl
     | cons p l ih =>
      intro r h
      simp only [List.foldl_cons]
      rw [Zz (h p (by simp))]
      exact ih _ fun p hp=>h p (cL _ hp)
    exact this _ _ fun p hp e=>X.self b hb (e ▸ hp)
   unfold NF.wt
   rw [this,Q9]
  congr 1
  rw [aI (by simp),e1]
  congr 1
  exact Kd fun v hv=>by
   rw [bb]
   by_cases e:v=b
   ·subst e; simp
   have:¬ b=v:=fun h=>e h.symm
   simp [e,this]
 have hm1:∀x,(∀v,v < D.n->M.testBit v=true->updF w b x v=u v)↔∀v,v < D.n->M.testBit v=true->w v=u v:=fun x=>by
  have:∀v,M.testBit v=true->updF w b x v=w v:=fun v hv=>Zz fun h=>by rw [h,hbM] at hv; cases hv
  exact ⟨fun h v hv hb=>by rw [<-this v hb]; exact h v hv hb,fun h v hv hb=>by rw [this v hb]; exact h v hv hb⟩
 have hm2:∀x,(∀v,v < D.n->(M ||| 2^b).testBit v=true->updF w b x v=u v)↔(∀v,v < D.n->M.testBit v=true->w v=u v)/\x=u b:=fun x=>by
  constructor
  ·intro h
   refine ⟨(hm1 x).1 fun v hv hb=>h v hv (by rw [bb,hb]; rfl),?_⟩
   have:=h b hb (by rw [bb]; simp)
   rwa [Q9] at this
  rintro ⟨h,rfl⟩ v hv hbv
  by_cases e:v=b
  ·subst e; rw [Q9]
  rw [bb] at hbv
  have:¬ b=v:=fun h=>e h.symm
  simp [this] at hbv
  rw [Zz e]; exact h v hv hbv
 unfold hT
 by_cases c:∀v,v < D.n->M.testBit v=true->w v=u v
 ·have l1:(Qi (D.card b) fun x=>if ∀v,v < D.n->M.testBit v=true->updF w b x v=u v then fS D m (updF w b x) else 0)=fS D (m ||| 2^b) w*D.g:=by
   rw [Q7 (g:=fun x=>(D.W b (D.idx b w) x:Int)*fS D (m ||| 2^b) w) fun x _=>by rw [aH ((hm1 x).2 c),hF,Int.mul_comm],Qjg,X.sum b _ hb (V.idx_lt hw hb),Int.mul_comm]
  have l2:(Qi (D.card b) fun x=>if ∀v,v < D.n->(M ||| 2^b).testBit v=true->updF w b x v=u v then fS D (m ||| 2^b) (updF w b x) else 0)=fS D (m ||| 2^b) w:=by
   rw [Q7 (g:=fun x=>if x=u b then fS D (m ||| 2^b) w else 0) fun x _=>by
    rw [hR]
    by_cases e:x=u b
    ·rw [aH ((hm2 x).2 ⟨c,e⟩),aH e]
    ·rw [aI (fun h=>e ((hm2 x).1 h).2),aI e],Qoa hu]
  rw [l1,l2,Int.mul_comm]
 ·have l1:(Qi (D.card b) fun x=>if ∀v,v < D.n->M.testBit v=true->updF w b x v=u v then fS D m (updF w b x) else 0)=0:=by
   rw [Q7 (g:=fun _=>0) fun x _=>aI fun h=>c ((hm1 x).1 h),Ki]
  have l2:(Qi (D.card b) fun x=>if ∀v,v < D.n->(M ||| 2^b).testBit v=true->updF w b x v=u v then fS D (m ||| 2^b) (updF w b x) else 0)=0:=by
   rw [Q7 (g:=fun _=>0) fun x _=>aI fun h=>c ((hm2 x).1 h).1,Ki]
  rw [l1,l2,Int.mul_zero]
theorem Q6o (rk:Nat -> Nat) {n:Nat} {P:Nat -> Prop}:(∃v,v < n/\P v)->∃b,b < n/\P b/\∀v,v < n->P v->rk v<=rk b:=by
 induction n with
 | zero=>rintro ⟨v,hv,_⟩; omega
 | succ n ih =>
  rintro ⟨v,hv,hP⟩
  by_cases h:∃v,v < n/\P v
  ·obtain ⟨b,hb,hPb,hm⟩:=ih h
   by_cases c:P n/\rk b < rk n
   ·refine ⟨n,by omega,c.1,fun v hv hPv=>?_⟩
    by_cases e:v=n
    ·subst e; exact aZ _
    have:=hm v (by omega) hPv; omega
   refine ⟨b,by omega,hPb,fun v hv hPv=>?_⟩
   by_cases e:v=n
   ·subst e; exact Nat.le_of_not_lt fun h=>c ⟨hPv,h⟩
   exact hm v (by omega) hPv
  have:v=n:=by
   by_cases e:v=n
   ·exact e
   exact absurd ⟨v,by omega,hP⟩ h
  subst this
  refine ⟨v,by omega,hP,fun w hw hPw=>?_⟩
  by_cases e:w=v
  ·subst e; exact aZ _
  exact absurd ⟨w,by omega,hPw⟩ h
theorem Qnl (X:VX D) {A N:Nat} (hN:∀v,v < D.n->N.testBit v=!A.testBit v) (hu:∀v,v < D.n->u v < D.card v):∀(k:Nat) (m M:Nat),cnt D.n (fun v=>!A.testBit v && !m.testBit v)=k ->
  (∀v,m.testBit v=true->M.testBit v=true)->(∀v,v < D.n->A.testBit v=true->m.testBit v=false->∀p∈D.par v,A.testBit p=true\/m.testBit p=true)->(∀v,v < D.n->M.testBit v=true->A.testBit v=true\/m.testBit v=true) ->
  TT D u m M=(D.g:Int)^k*TT D u (m ||| N) (M ||| N)
 | 0,m,M,hk,hmM,hA,hM=>by
  rw [Int.pow_zero,Int.one_mul]
  have h0:∀v,v < D.n->A.testBit v=false->m.testBit v=true:=fun v hv ha=>by
   cases hm:m.testBit v with
   | true=>rfl
   | false=>have:=Q3z (p:=fun v=>!A.testBit v && !m.testBit v) hv (by simp [ha,hm]); omega
  refine Qg6 X.vn (fun v hv=>?_) fun v hv=>?_
  ·rw [bF,hN v hv]
   cases ha:A.testBit v with
   | true=>simp
   | false=>simp [h0 v hv ha]
  rw [bF,hN v hv]
  cases ha:A.testBit v with
  | true=>simp
  | false=>simp [hmM v (h0 v hv ha)]
 | k+1,m,M,hk,hmM,hA,hM=>by
  obtain ⟨rk,hrk⟩:=X.rank
  have hex:∃v,v < D.n/\(A.testBit v=false/\m.testBit v=false):=by
   refine Classical.byContradiction fun h=>?_
   have:cnt D.n (fun v=>!A.testBit v && !m.testBit v)=0:=Q2e fun v hv=>by
    rw [bI]
    intro hc
    simp only [aE,bG] at hc
    exact h ⟨v,hv,hc⟩
   omega
  obtain ⟨b,hb,⟨hbA,hbm⟩,hmax⟩:=Q6o rk hex
  have hbM:M.testBit b=false:=by
   rw [bI]; intro h
   rcases hM b hb h with e | e
   ·rw [hbA] at e; cases e
   rw [hbm] at e; cases e
  have bb:∀(s v:Nat),(s ||| 2^b).testBit v=(s.testBit v || decide (b=v)):=fun s v=>by rw [bF,Qgb]
  rw [Qz9 X hb hbM hbm (fun v hv hmv hne hp=>by
   cases ha:A.testBit v with
   | true =>
    rcases hA v hv ha hmv b hp with e | e
    ·rw [hbA] at e; cases e
    rw [hbm] at e; cases e
   | false =>
    have h1:=hmax v hv ⟨ha,hmv⟩
    have h2:=hrk v hv b hp
    omega) (hu b hb)]
  have hcnt:cnt D.n (fun v=>!A.testBit v && !(m ||| 2^b).testBit v)=k:=by
   have:=Qvy (n:=D.n) (v:=b) (p:=fun v=>!A.testBit v && !m.testBit v) hb (by simp [hbA,hbm])
   rw [Qmf (q:=fun i=>(!A.testBit i && !m.testBit i) && !decide (b=i)) fun i hi=>by rw [bb]; cases A.testBit i <;> cases m.testBit i <;> simp]
   omega
  rw [Qnl X hN hu k (m ||| 2^b) (M ||| 2^b) hcnt (fun v hv=>by
    rw [bb,aM] at hv ⊢
    exact hv.imp (hmM v) id) (fun v hv ha hmv p hp=>by
    rw [bb,Bool.or_eq_false_iff] at hmv
    refine (hA v hv ha hmv.1 p hp).imp id fun h=>by rw [bb,h]; rfl) (fun v hv hMv=>by
    rw [bb,aM] at hMv
    rcases hMv with h | h
    ·exact (hM v hv h).imp id fun h=>by rw [bb,h]; rfl
    right; rw [bb,h]; simp)]
  rw [Int.pow_succ,<-Int.mul_assoc,Int.mul_comm (D.g:Int)]
  congr 1
  refine Qg6 X.vn (fun v hv=>?_) fun v hv=>?_
  ·rw [bF,bb,bF,hN v hv]
   by_cases e:b=v
   ·subst e; simp [hbA]
   simp [e]
  rw [bF,bb,bF,hN v hv]
  by_cases e:b=v
  ·subst e; simp [hbA]
  simp [e]
end
end Go.Ab
namespace Go.Ab
open Go
theorem Q37 {k a d:Nat} (hk:0 < k) (hd:0 < d) (ha:k*a<=MX) (hdm:k*d<=MX):qI ((k*a:Nat):Int) ((k*d:Nat):Int)=qI (a:Int) (d:Int):=by
 have h1:a<=k*a:=Nat.le_mul_of_pos_left _ hk
 have h2:d<=k*d:=Nat.le_mul_of_pos_left _ hk
 have h3:0 < k*d:=Nat.mul_pos hk hd
 rw [Qt0 (by omega) (by rw [Int.natAbs_natCast]; exact ha) (by rw [Int.natAbs_natCast]; exact hdm),Qt0 (by omega) (by rw [Int.natAbs_natCast]; omega) (by rw [Int.natAbs_natCast]; omega)]
 simp only [Int.natAbs_natCast]
 rw [Nat.gcd_mul_left,Nat.mul_div_mul_left _ _ hk,Nat.mul_div_mul_left _ _ hk]
 have b1:decide (((k*a:Nat):Int) < 0)=false:=decide_eq_false (by omega)
 have b2:decide (((k*d:Nat):Int) < 0)=false:=decide_eq_false (by omega)
 have b3:decide ((a:Int) < 0)=false:=decide_eq_false (by omega)
 have b4:decide ((d:Int) < 0)=false:=decide_eq_false (by omega)
 rw [b1,b2,b3,b4]
end Go.Ab
namespace Go.Ab
open Go
open Classical
section
variable {D:NF} (X:VX D) {u:Nat -> Nat} (hu:∀v,v < D.n->u v < D.card v)
section
variable {n:Nat} {S:Nat -> Nat} (hS:Gd n S) {z x y:Nat} (hz:∀j,z.testBit j=true->j < n) (hx:∀j,x.testBit j=true->j < n) (hy:∀j,y.testBit j=true->j < n) (hxz:∀j,x.testBit j=true->z.testBit j=false) (hyz:∀j,y.testBit j=true->z.testBit j=false)
end
theorem tor {a b v:Nat}:(a ||| b).testBit v=(a.testBit v || b.testBit v):=bF ..
def coS (n A:Nat):Nat := msk n fun v=>!A.testBit v
theorem Qis {n A v:Nat} (h:v < n):(coS n A).testBit v=!A.testBit v:=by unfold coS; rw [Qge]; simp [h]
variable {y z x w:Nat} (hd:DjB D.n y z x w=true)
include X hu hd
end
end Go.Ab
namespace Go.Ab
open Go
open Classical
section
variable {D:NF} {u:Nat -> Nat}
def vF (u:Nat -> Nat) (M v:Nat):Int:=if M.testBit v=true then (u v:Int) else -1
theorem Q75 (hu:∀v,v < D.n->u v < D.card v) {M:Nat}:Jg D (vF u M):=fun v hv=>by
 have:=hu v hv
 unfold vF
 split <;> omega
theorem Q6m (V:VN D) {K:Nat -> Int} {f:(Nat -> Nat)->Int} (hf:Ext D f):SW D K f=NS D.card (fun w=>if Zu D.n K 0 w then f w else 0) D.n 0 fun _=>0:=by
 rw [<-Q21]
 show _=SW D (fun _=>-1) _
 have hext:Ext D (fun w=>if Zu D.n K 0 w then f w else 0):=fun w w' h=>by
  have e:Zu D.n K 0 w↔Zu D.n K 0 w':=⟨fun k j h1 h2=>by rw [<-h j h2]; exact k j h1 h2,fun k j h1 h2=>by rw [h j h2]; exact k j h1 h2⟩
  dsimp only
  by_cases c:Zu D.n K 0 w
  ·rw [aH c,aH (e.1 c),hf w w' h]
  rw [aI c,aI fun h=>c (e.2 h)]
 rw [Qeo V hf,Qeo V hext]
 exact Q7 fun W _=>by rw [aH (show Zu D.n (fun _=>-1) 0 (dig D W) from fun j _ _=>.inl rfl)]
theorem Qzx (V:VN D) (hu:∀v,v < D.n->u v < D.card v) {s e:Nat}:Yd D (vF u s) (vF u e)=TT D u s (s ||| e):=by
 unfold Yd
 have hb:∀v,v < D.n->(actS D.n (vF u s)).testBit v=s.testBit v:=fun v hv=>by
  rw [Qj0]
  unfold vF
  by_cases c:s.testBit v=true
  ·rw [aH c,c]; simp [hv]
  rw [aI c]; simp only [cM] at c; rw [c]; simp
 rw [Q6m V (Qad V),Qg6 V (m':=actS D.n (vF u s)) (M':=s ||| e) (fun v hv=>(hb v hv).symm) fun _ _=>rfl]
 refine Qnu (n:=D.n) (fun w hw=>?_) D.n 0 _ (Qqp V)
 unfold hT
 have h100:∀j,j < D.n->w j < 100:=fun j hj=>by have:=hw j hj; have:=(V.card j hj).2; omega
 have e1:Zu D.n (Xn (vF u s) (vF u e)) 0 w↔∀v,v < D.n->(s ||| e).testBit v=true->w v=u v:=by
  rw [Qfq h100]
  constructor
  ·rintro ⟨k1,k2⟩ v hv hb
   rw [tor,aM] at hb
   rcases hb with h | h
   ·have:=k1 v (eC _) hv
    unfold okE vF at this; rw [aH h] at this; omega
   have:=k2 v (eC _) hv
   unfold okE vF at this; rw [aH h] at this; omega
  intro k
  constructor
  ·intro v _ hv
   unfold okE vF
   by_cases c:s.testBit v=true
   ·rw [aH c,k v hv (by rw [tor,c]; rfl)]; exact .inr rfl
   rw [aI c]; exact .inl rfl
  intro v _ hv
  unfold okE vF
  by_cases c:e.testBit v=true
  ·rw [aH c,k v hv (by rw [tor,c]; simp)]; exact .inr rfl
  rw [aI c]; exact .inl rfl
 by_cases c:∀v,v < D.n->(s ||| e).testBit v=true->w v=u v
 ·rw [aH (e1.2 c),aH c]
 rw [aI fun h=>c (e1.1 h),aI c]
end
end Go.Ab
namespace Go.Ab
open Go
open Classical
section
variable {D:NF} {R K:Nat -> Int}
def rS (D:NF) (R:Nat -> Int):Nat := Qp D.n fun v=>if (actS D.n R).testBit v=true then D.W v 0 (R v).toNat else 1
theorem Qwc (hr:∀v,v < D.n->0<=R v->D.par v=[]) {w:Nat -> Nat} (hm:Zu D.n R 0 w):fS D 0 w=(rS D R:Int)*fS D (actS D.n R) w:=by
 unfold rS fS NF.fr
 rw [<-Int.natCast_mul,Qxg]
 refine congrArg Nat.cast (Kd fun v hv=>?_)
 rw [aI (by simp)]
 by_cases c:(actS D.n R).testBit v=true
 ·have hs:0<=R v:=by
   rw [Qj0,aE] at c
   exact aP c.2
  rw [aH c,aH c,Nat.mul_one]
  have h:=hm v (eC _) hv
  unfold okE at h
  have e:w v=(R v).toNat := by omega
  unfold NF.wt NF.idx
  rw [hr v hv hs,<-e]; rfl
 rw [aI c,aI c,Nat.one_mul]
theorem Qwp (V:VN D) (hS:Jg D R) {c:Int} {f f':(Nat -> Nat)->Int} (hf:Ext D f) (hf':Ext D f') (he:∀w,Zu D.n R 0 w->f' w=c*f w) (hK:∀v,v < D.n->0<=R v->K v=R v):SW D K f'=c*SW D (Xn R K) f:=by
 rw [Qeo V hf,Qeo V hf',Int.mul_comm,<-Qjg]
 refine Q7 fun W _=>?_
 have hmb:=Qfq (D:=D) (S:=R) (E:=K) (Qut V (W:=W))
 by_cases c1:Zu D.n K 0 (dig D W)
 ·have c2:Zu D.n R 0 (dig D W):=fun v h0 hv=>by
   unfold okE
   by_cases h:0<=R v
   ·have:=c1 v h0 hv
    unfold okE at this
    rw [hK v hv h] at this
    exact this
   have:=hS v hv; left; omega
  rw [aH c1,aH (hmb.2 ⟨c2,c1⟩),he _ c2,Int.mul_comm]
 rw [aI c1,aI (fun h=>c1 (hmb.1 h).2),Int.zero_mul]
theorem Q2j (V:VN D) (hS:Jg D R) (hr:∀v,v < D.n->0<=R v->D.par v=[]) (hK:∀v,v < D.n->0<=R v->K v=R v):SW D K (fS D 0)=(rS D R:Int)*Yd D R K :=
 Qwp V hS (Qad V) (Qad V) (fun w hm=>Qwc hr hm) hK
theorem Q4z (V:VN D) (hS:Jg D R) (hr:∀v,v < D.n->0<=R v->D.par v=[]) (hK:∀v,v < D.n->0<=R v->K v=R v) {v k:Nat} (hv:v < D.n):SW D K (at' v k (fS D 0))=(rS D R:Int)*Qa3 D R K v k :=
 Qwp V hS (Qlp hv (Qad V)) (Qlp hv (Qad V)) (fun w hm=>by
  unfold at'
  by_cases c:w v=k
  ·rw [aH c,aH c,Qwc hr hm]
  rw [aI c,aI c,Int.mul_zero]) hK
theorem Qnk {c a d:Int} (hc:0 < c) (ha:0<=a) (hd:0 < d) (h1:(c*a).natAbs<=MX) (h2:(c*d).natAbs<=MX):qI (c*a) (c*d)=qI a d:=by
 obtain ⟨c',rfl⟩:∃n:Nat,c=n:=⟨c.toNat,by omega⟩
 obtain ⟨a',rfl⟩:∃n:Nat,a=n:=⟨a.toNat,by omega⟩
 obtain ⟨d',rfl⟩:∃n:Nat,d=n:=⟨d.toNat,by omega⟩
 rw [<-Int.natCast_mul,Int.natAbs_natCast] at h1 h2
 rw [<-Int.natCast_mul,<-Int.natCast_mul]
 exact Q37 (by omega) (by omega) h1 h2
theorem Q0q (V:VN D) (hS:Jg D R) (hr:∀v,v < D.n->0<=R v->D.par v=[]) (hK:∀v,v < D.n->0<=R v->K v=R v) {v:Nat} (hv:v < D.n) (hn:SW D K (fS D 0)≠0) :
  Vp D R K v=(Qb (D.card v) fun k=>qI (SW D K (at' v k (fS D 0))) (SW D K (fS D 0)),0):=by
 have e0:=Q2j V hS hr hK
 have r0:=Qcd V (m:=0) (K:=K)
 have hs:=Qcd V (m:=actS D.n R) (K:=Xn R K)
 have hc:0 < (rS D R:Int):=by
  have:(rS D R:Int)≠0:=fun h=>hn (by rw [e0,h,Int.zero_mul])
  omega
 have h0:Yd D R K≠0:=fun h=>hn (by rw [e0,h,Int.mul_zero])
 unfold Vp
 rw [aI h0]
 refine congrArg (fun l=>(l,(0:Int))) (Qf fun k _=>?_)
 have r2:=Qbw V (m:=0) (v:=v) (k:=k) (K:=K)
 have he:=Qbw V (m:=actS D.n R) (v:=v) (k:=k) (K:=Xn R K)
 have ea:=Q4z V hS hr hK hv (k:=k)
 have q:=Qnk (c:=(rS D R:Int)) (a:=Qa3 D R K v k) (d:=Yd D R K) hc he.1 (by have:=hs.1; unfold Yd at *; omega) (by rw [<-ea]; exact r2.2) (by rw [<-e0]; exact r0.2)
 rw [ea,e0,q]
end
section
variable {D:NF} {u:Nat -> Nat}
def noE:Nat -> Int:=fun _=>-1
theorem Qwz:vF u 0=noE:=by funext v; unfold vF noE; rw [aI (by simp)]
theorem Qwt {K:Nat -> Int}:Xn noE K=K:=by funext v; unfold Xn noE; rw [aH rfl]
theorem Q26 {w:Nat -> Nat}:fS D (actS D.n noE) w=fS D 0 w:=Qnp fun v hv=>by
 rw [Qj0]
 rw [aI (by unfold noE; simp),aI (by simp)]
theorem Qt6 {K:Nat -> Int} (V:VN D):Yd D noE K=SW D K (fS D 0):=by
 unfold Yd
 rw [Qwt,show fS D (actS D.n noE)=fS D 0 from funext fun w=>Q26]
theorem Q2w {K:Nat -> Int} (V:VN D) {v k:Nat}:Qa3 D noE K v k=SW D K (at' v k (fS D 0)):=by
 unfold Qa3
 rw [Qwt,show fS D (actS D.n noE)=fS D 0 from funext fun w=>Q26]
theorem Qvo (X:VX D) {E:Nat -> Int} (hE:Jg D E) {v:Nat} (hv:v < D.n):X4 D.net (Qb D.n E) (v:Int)=some (Vp D noE E v):=by
 rw [Qtg X hE hv]
 unfold Vp
 rw [Qt6 X.vn]
 by_cases c:SW D E (fS D 0)=0
 ·rw [aH c,aH c]
 rw [aI c,aI c]
 refine congrArg (fun l=>some (l,(0:Int))) (Qf fun k _=>?_)
 rw [Q2w X.vn]
theorem Qyv {s v k:Nat} (hs:s.testBit v=false):vF (updF u v k) s=vF u s:=by
 funext j
 unfold vF
 by_cases c:s.testBit j=true
 ·rw [aH c,aH c,Zz fun h=>by rw [h,hs] at c; cases c]
 rw [aI c,aI c]
theorem Qs3 (V:VN D) (hu:∀v,v < D.n->u v < D.card v) {s v k:Nat} (hv:v < D.n) (hk:k < D.card v) (hs:s.testBit v=false) :
  Qa3 D (vF u s) noE v k=TT D (updF u v k) s (s ||| 2^v)/\Yd D (vF u s) noE=TT D (updF u v k) s s:=by
 have hu':∀j,j < D.n->updF u v k j < D.card j:=fun j hj=>by
  by_cases e:j=v
  ·subst e; rw [Q9]; exact hk
  rw [Zz e]; exact hu j hj
 constructor
 ·rw [<-Qzx V hu',Qyv hs]
  unfold Qa3 Yd
  rw [Qeo V (Qlp hv (Qad V)),Qeo V (Qad V)]
  refine Q7 fun W _=>?_
  have m1:=Qfq (D:=D) (S:=vF u s) (E:=noE) (Qut V (W:=W))
  have m2:=Qfq (D:=D) (S:=vF u s) (E:=vF (updF u v k) (2^v)) (Qut V (W:=W))
  have hno:Zu D.n noE 0 (dig D W):=fun j _ _=>.inl rfl
  have hat : Zu D.n (vF (updF u v k) (2^v)) 0 (dig D W)↔dig D W v=k:=by
   constructor
   ·intro h
    have:=h v (eC _) hv
    unfold okE vF at this
    rw [aH (by rw [Qgb]; simp),Q9] at this
    omega
   intro h j _ hj
   unfold okE vF
   rw [Qgb]
   by_cases e:v=j
   ·subst e; rw [aH (by simp),Q9]; omega
   rw [aI (by simp [e])]; exact .inl rfl
  by_cases c1:Zu D.n (vF u s) 0 (dig D W)
  ·rw [aH (m1.2 ⟨c1,hno⟩)]
   unfold at'
   by_cases c2:dig D W v=k
   ·rw [aH c2,aH (m2.2 ⟨c1,hat.2 c2⟩)]
   ·rw [aI c2,aI fun h=>c2 (hat.1 (m2.1 h).2)]
  ·rw [aI fun h=>c1 (m1.1 h).1,aI fun h=>c1 (m2.1 h).1]
 ·have h:=Qzx V hu' (s:=s) (e:=0)
  rw [Qyv hs,Qwz,Nat.or_zero] at h
  exact h
theorem Qzy {c:Nat -> Nat} {n:Nat} {f:(Nat -> Nat)->Int} (hu:∀v,v < n->u v < c v) (hf:∀w,f w=if ∀v,v < n->w v=u v then 1 else 0):∀(d i:Nat) (w:Nat -> Nat),i+d=n->NS c f d i w=if ∀v,v < i->w v=u v then 1 else 0
 | 0,i,w,h=>by
  have:i=n:=by omega
  subst this
  exact hf w
 | d+1,i,w,h=>by
  unfold NS
  have e:∀x,NS c f d (i+1) (updF w i x)=if x=u i then (if ∀v,v < i->w v=u v then 1 else 0) else 0:=fun x=>by
   rw [Qzy hu hf d (i+1) _ (by omega)]
   by_cases c1:x=u i
   ·rw [aH c1]
    by_cases c2:∀v,v < i->w v=u v
    ·rw [aH c2,aH fun v hv=>by
      by_cases e:v=i
      ·subst e; rw [Q9,c1]
      rw [Zz e]; exact c2 v (by omega)]
    rw [aI c2,aI fun h2=>c2 fun v hv=>by have:=h2 v (by omega); rwa [Zz (by omega)] at this]
   rw [aI c1,aI fun h2=>c1 (by have:=h2 i (by omega); rwa [Q9] at this)]
  rw [Q7 fun x _=>e x,Qoa (hu i (by omega))]
theorem Q65 (V:VN D) (hu:∀v,v < D.n->u v < D.card v) {N:Nat} (hN:∀v,v < D.n->N.testBit v=true):TT D u N N=1:=by
 unfold TT
 rw [Qzy (u:=u) (n:=D.n) hu (fun w=>?_) D.n 0 _ (by omega),aH fun v hv=>by omega]
 unfold hT
 have e1:fS D N w=1:=by
  unfold fS NF.fr
  rw [Kd (g:=fun _=>1) fun v hv=>aH (hN v hv)]
  have:∀n,Qp n (fun _=>1)=1:=fun n=>by
   induction n with
   | zero=>rfl
   | succ n ih=>show Qp n (fun _=>1)*1=1; rw [ih]
  rw [this]; rfl
 rw [e1]
 by_cases c:∀v,v < D.n->w v=u v
 ·rw [aH c,aH fun v hv _=>c v hv]
 rw [aI c,aI fun h=>c fun v hv=>h v hv (hN v hv)]
theorem Q3q (X:VX D) (hu:∀v,v < D.n->u v < D.card v):0 < TT D u 0 0:=by
 have h:=Qnl X (u:=u) (A:=0) (N:=coS D.n 0) (fun v hv=>Qis hv) hu _ 0 0 rfl (fun v h=>h) (fun v hv h=>by simp at h) (fun v hv h=>by simp at h)
 rw [h,Nat.zero_or,Q65 X.vn hu (fun v hv=>by rw [Qis hv]; simp),Int.mul_one]
 exact Int.pow_pos (by have:=X.vn.g1; omega)
theorem Qz2 (X:VX D) (hu:∀v,v < D.n->u v < D.card v) {s A v:Nat} (hA:∀j,j < D.n->A.testBit j=true->s.testBit j=false/\∀p∈D.par j,A.testBit p=true) (hv:v < D.n) (hvA:A.testBit v=true) :
  Vp D (vF u s) noE v=Vp D noE noE v/\(Vp D noE noE v).2=0:=by
 have V:=X.vn
 have hs:s.testBit v=false:=(hA v hv hvA).1
 have hcv:=(V.card v hv).1
 obtain ⟨N,hN⟩:∃N,N=coS D.n A:=⟨_,rfl⟩
 have nb:∀j,j < D.n->N.testBit j=!A.testBit j:=fun j hj=>by rw [hN]; exact Qis hj
 have hg:∀k:Nat,0 < (D.g:Int)^k:=fun k=>Int.pow_pos (by have:=V.g1; omega)
 have key:∀k,k < D.card v->∃c1 c2 a d:Int,0 < c1/\0 < c2/\0<=a/\0 < d/\Qa3 D (vF u s) noE v k=c1*a/\Yd D (vF u s) noE=c1*d/\Qa3 D noE noE v k=c2*a/\Yd D noE noE=c2*d:=fun k hk=>by
  have hu':∀j,j < D.n->updF u v k j < D.card j:=fun j hj=>by
   by_cases e:j=v
   ·subst e; rw [Q9]; exact hk
   rw [Zz e]; exact hu j hj
  obtain ⟨a1,a2⟩:=Qs3 V hu hv hk hs
  obtain ⟨b1,b2⟩:=Qs3 V hu (s:=0) hv hk (by simp)
  rw [Qwz] at b1 b2
  have vb:∀j,(2^v).testBit j=true->A.testBit j=true:=fun j h=>by
   rw [Qgb] at h
   have:=aP h
   subst this; exact hvA
  have pr:∀m M,(∀j,m.testBit j=true->M.testBit j=true)->(∀j,M.testBit j=true->A.testBit j=true\/m.testBit j=true)->TT D (updF u v k) m M=(D.g:Int)^cnt D.n (fun v=>!A.testBit v && !m.testBit v)*TT D (updF u v k) (m ||| N) (M ||| N):=fun m M h1 h2 =>
   Qnl X (A:=A) (N:=N) nb hu' _ m M rfl h1 (fun j hj ha _ p hp=>.inl ((hA j hj ha).2 p hp)) (fun j _ h=>h2 j h)
  have sN:∀j,j < D.n->(s ||| N).testBit j=(0 ||| N).testBit j:=fun j hj=>by
   rw [tor,Nat.zero_or,nb j hj]
   cases ha:A.testBit j with
   | false=>simp
   | true=>rw [(hA j hj ha).1]; rfl
  rw [pr s (s ||| 2^v) (fun j h=>by rw [tor,h]; rfl) (fun j h=>by rw [tor,aM] at h; exact h.elim .inr fun h=>.inl (vb j h))] at a1
  rw [pr s s (fun j h=>h) (fun j h=>.inr h)] at a2
  rw [pr 0 (0 ||| 2^v) (fun j h=>by simp at h) (fun j h=>by rw [Nat.zero_or] at h; exact .inl (vb j h))] at b1
  rw [pr 0 0 (fun j h=>h) (fun j h=>.inr h)] at b2
  rw [Qg6 V (m':=0 ||| N) (M':=0 ||| 2^v ||| N) sN fun j hj=>by
   have h:=sN j hj
   rw [tor,Nat.zero_or] at h
   rw [tor,tor,tor,Nat.zero_or]
   generalize s.testBit j=x at h ⊢
   generalize (2^v).testBit j=y at h ⊢
   generalize N.testBit j=z at h ⊢
   revert h
   cases x <;> cases y <;> cases z <;> decide] at a1
  rw [Qg6 V (m':=0 ||| N) (M':=0 ||| N) sN sN] at a2
  have hpos:0 < Yd D noE noE:=by
   have h:=(Qs3 V hu (s:=0) hv hk (by simp)).2
   rw [Qwz] at h
   rw [h]; exact Q3q X hu'
  have hd:0 < TT D (updF u v k) (0 ||| N) (0 ||| N):=by
   rw [b2] at hpos
   exact Int.pos_of_mul_pos_right hpos (hg _)
  refine ⟨_,_,_,_,hg _,hg _,?_,hd,a1,a2,b1,b2⟩
  have h2:=(Qbw V (m:=actS D.n noE) (v:=v) (k:=k) (K:=Xn noE noE)).1
  have h3:0<=Qa3 D noE noE v k:=h2
  rw [b1] at h3
  exact Int.nonneg_of_mul_nonneg_right h3 (hg _)
 have h0:Yd D noE noE≠0:=by
  obtain ⟨c1,c2,a,d,h1,h2,h3,h4,e1,e2,e3,e4⟩:=key 0 hcv
  rw [e4]; exact Int.ne_of_gt (Int.mul_pos h2 h4)
 have h1:Yd D (vF u s) noE≠0:=by
  obtain ⟨c1,c2,a,d,h1,h2,h3,h4,e1,e2,e3,e4⟩:=key 0 hcv
  rw [e2]; exact Int.ne_of_gt (Int.mul_pos h1 h4)
 unfold Vp
 rw [aI h0,aI h1]
 refine ⟨congrArg (fun l=>(l,(0:Int))) (Qf fun k hk=>?_),rfl⟩
 obtain ⟨c1,c2,a,d,g1,g2,h3,h4,e1,e2,e3,e4⟩:=key k hk
 have r1:(Qa3 D (vF u s) noE v k).natAbs<=MX:=(Qbw V (m:=actS D.n (vF u s)) (v:=v) (k:=k) (K:=Xn (vF u s) noE)).2
 have r2:(Qa3 D noE noE v k).natAbs<=MX:=(Qbw V (m:=actS D.n noE) (v:=v) (k:=k) (K:=Xn noE noE)).2
 have r3:(Yd D (vF u s) noE).natAbs<=MX:=(Qcd V (m:=actS D.n (vF u s)) (K:=Xn (vF u s) noE)).2
 have r4:(Yd D noE noE).natAbs<=MX:=(Qcd V (m:=actS D.n noE) (K:=Xn noE noE)).2
 rw [e1] at r1; rw [e3] at r2; rw [e2] at r3; rw [e4] at r4
 rw [e1,e2,e3,e4,Qnk g1 h3 h4 r1 r3,Qnk g2 h3 h4 r2 r4]
end
end Go.Ab
namespace Go.Ab
open Go
open Classical
theorem Q3v {a b k:Nat} (ha:a < 18446744073709551616) (hb:b < 18446744073709551616) (hk:k < 64) :
  ((zv (zb (Int.fdiv (zv (zb (a:Int) &&& ~~~ zb (b:Int)).toNat) (2^min (Int.toNat (k:Int)) zk)) &&& zb 1).toNat)==1)=(a.testBit k && !b.testBit k):=by
 rw [Q5n (n:=64) (p:=a.testBit) (q:=b.testBit) (by omega) ha hb (fun _ _=>rfl) (fun _ _=>rfl),Qqi (bM Qo1 (by decide)) hk,Qge]
 simp [hk]
def ClQ (C:Nat -> Nat) (n a r r':Nat):Prop:=r' < 18446744073709551616/\(∀v,r.testBit v=true->r'.testBit v=true)/\(∀v,v < n->a.testBit v=true->r'.testBit v=true) /\
 ∀v,v < n->r'.testBit v=true->r.testBit v=false->∀u,u < n->(C v).testBit u=true->r'.testBit u=true
theorem Qu1 {n:Nat} (hn:n<=8) {C:Nat -> Nat} (hC:∀v,v < n->C v < 18446744073709551616) {a:Nat} (ha:a < 18446744073709551616):∃r':Nat,Qbq (Qk n C) (a:Int)=some (r':Int)/\ClQ C n a 0 r':=by
 have key:=Qra (F:=Qb1 (Qk n C)) (fun s=>∃a r:Nat,s=((a:Int),(r:Int))/\a < 18446744073709551616/\r < 18446744073709551616) (fun s=>cnt n fun v=>!(s.2.toNat).testBit v) (fun s y=>∃r':Nat,y=(r':Int)/\ClQ C n s.1.toNat s.2.toNat r')
  (fun d s hI hd=>by
   obtain ⟨a,r,rfl,ha,hr⟩:=hI
   simp only [aQ] at hd ⊢
   unfold Qb1
   obtain ⟨y,h1,r',h2,h3⟩:=Qjh (n:=n) (k0:=0) (by omega) (by omega) (fun i (t:Nat)=>(i,(t:Int))) (body:=Ko (Qk n C) ((a:Int),(r:Int)) d)
    (fun k t=>t < 18446744073709551616/\(∀v,r.testBit v=true->t.testBit v=true)/\(∀v,v < k->a.testBit v=true->t.testBit v=true)/\∀v,v < n->t.testBit v=true->r.testBit v=false->∀u,u < n->(C v).testBit u=true->t.testBit u=true)
    (fun y=>∃r':Nat,y=(r':Int)/\ClQ C n a r r')
    (fun k t _ hk ⟨i1,i2,i3,i4⟩=>by
     left
     unfold Ko
     dsimp only
     rw [Yt,aH (dlt hk),aH (by omega),Q3v ha i1 (by omega)]
     by_cases c:a.testBit k=true/\t.testBit k=false
     ·rw [aH (by rw [c.1,c.2]; rfl),aH (by omega),Zp hk,aC,Qmr i1 (by omega)]
      have bb:∀v,(t ||| 2^k).testBit v=(t.testBit v || decide (k=v)):=fun v=>by rw [bF,Qgb]
      have h64:t ||| 2^k < 18446744073709551616:=or_lt i1 (by omega)
      obtain ⟨x,e1,r',e2,q1,q2,q3,q4⟩:=hd ((C k:Int),((t ||| 2^k:Nat):Int)) ⟨C k,t ||| 2^k,rfl,hC k hk,h64⟩ (by
       simp only [aQ]
       have h1:=Qvy (n:=n) (v:=k) (p:=fun v=>!t.testBit v) hk (by simp [c.2])
       have h2:cnt n (fun v=>!t.testBit v)<=cnt n (fun v=>!r.testBit v):=Q1j fun v _ h=>by
        cases hr':r.testBit v with
        | false=>rfl
        | true=>rw [i2 v hr'] at h; cases h
       have h3:cnt n (fun v=>!(t ||| 2^k).testBit v)=cnt n (fun i=>!t.testBit i && !decide (k=i)):=Qmf fun v _=>by rw [bb]; simp
       omega)
      subst e2
      simp only [aQ] at q2 q3 q4
      rw [e1,aC]
      refine ⟨r',rfl,q1,fun v h=>q2 v (by rw [bb,i2 v h]; rfl),fun v hv h=>?_,fun v hv h1 h2 u hu h3=>?_⟩
      ·by_cases e:v=k
       ·subst e; exact q2 v (by rw [bb]; simp)
       exact q2 v (by rw [bb,i3 v (by omega) h]; rfl)
      by_cases ct:t.testBit v=true
      ·exact q2 u (by rw [bb,i4 v hv ct h2 u hu h3]; rfl)
      by_cases e:v=k
      ·subst e; exact q3 u hu h3
      exact q4 v hv h1 (by rw [bb]; simp only [cM] at ct; simp [ct]; omega) u hu h3
     rw [aI (by
      intro h
      simp only [aE,bG] at h
      exact c h)]
     refine ⟨t,rfl,i1,i2,fun v hv h=>?_,i4⟩
     by_cases e:v=k
     ·subst e
      cases ht:t.testBit v with
      | true=>rfl
      | false=>exact absurd ⟨h,ht⟩ c
     exact i3 v (by omega) h)
    (fun t ⟨i1,i2,i3,i4⟩=>by
     unfold Ko
     dsimp only
     rw [Yt,aI (nlt n)]
     exact ⟨_,rfl,t,rfl,i1,i2,i3,i4⟩)
    r ⟨hr,fun _ h=>h,fun v hv _=>by omega,fun v _ h1 h2=>by rw [h1] at h2; cases h2⟩
   exact ⟨y,Xb h1 rfl,r',h2,h3⟩) fuel ((a:Int),(0:Int)) ⟨a,0,rfl,ha,by omega⟩ (by
    have:=Q48 n fun v=>!(((a:Int),(0:Int)).2.toNat).testBit v
    show _ < 1152921504606846976
    omega)
 obtain ⟨x,e1,r',e2,h⟩:=key
 refine ⟨r',?_,?_⟩
 ·unfold Qbq
  rw [e1,e2]; rfl
 simp only [aQ] at h
 exact h
section
variable {D:NF}
def chM (D:NF) (k p:Nat):Nat := msk k fun u=>decide (p∈D.par u)
theorem Qug {k p:Nat} (hk:k<=8):chM D k p < 18446744073709551616:=bM Qo1 (bV (aU (by omega) hk) (by decide))
theorem Q34 (V:VN D) {v:Nat} (hv:v < D.n) {L:List Int}:Qc fuel (Y2 ((v:Int),Qk D.n (chM D v)) (setN D v:Int)) (0,Qk D.n (chM D v))=some (Qk D.n (chM D (v+1))):=by
 have hn8:=V.n8
 have hr:=Xy (n:=D.n) (k0:=0) (by omega) (by omega) (fun i (t:List Int)=>(i,t)) (body:=Y2 ((v:Int),Qk D.n (chM D v)) (setN D v:Int)) (fun k=>Qk D.n fun p=>if p < k then chM D (v+1) p else chM D v p) (Qk D.n (chM D (v+1)))
  (fun k _ hk=>by
   unfold Y2
   dsimp only
   have hg:lkI (Qk D.n fun p=>if p < k then chM D (v+1) p else chM D v p) (k:Int)=some (chM D v k:Int):=by rw [Zp hk,aI (by omega)]
   rw [Yt,aH (dlt hk),hg,aC,aH (by omega),aH (by omega),Qxt (Qp9 V hv) (by omega),Qnz]
   have hs:chM D (v+1) k=chM D v k ||| (if decide (k∈D.par v)=true then 2^v else 0):=rfl
   have e:zv (zb ((chM D v k:Nat):Int) ||| zb (zv (((decide (k∈D.par v)).toNat : Int)*2^min (Int.toNat (v:Int)) zk))).toNat = (chM D (v+1) k:Int):=by
    by_cases c:k∈D.par v
    ·rw [hs,cT c,aH rfl]
     exact Qmr (Qug (by omega)) (by omega)
    rw [hs,decide_eq_false c,aI (by simp)]
    have:zv (((false.toNat : Nat):Int)*2^min (Int.toNat (v:Int)) zk)=((0:Nat):Int):=by
     rw [show ((false.toNat : Nat):Int)=0 from rfl,Int.zero_mul]; rfl
    rw [this]
    exact Q8a (Qug (by omega)) (by omega)
   rw [e,aQ]
   refine congrArg (fun l=>some (Qh.next (zw ((k:Int)+1),l))) ?_
   unfold Qk
   rw [Z9]
   refine Qf fun j _=>?_
   dsimp only
   by_cases e:j=k
   ·subst e; rw [aH rfl,aH (by omega)]
   rw [aI e]
   by_cases e2:j < k
   ·rw [aH e2,aH (by omega)]
   rw [aI e2,aI (by omega)])
  (by
   unfold Y2
   dsimp only
   rw [Yt,aI (nlt _)]
   exact congrArg (fun l=>some (Qh.done l)) (Qf fun j hj=>by dsimp only; rw [aH hj]))
 have e0:Qk D.n (chM D v)=Qk D.n fun p=>if p < 0 then chM D (v+1) p else chM D v p:=Qf fun j _=>by dsimp only; rw [aI (by omega)]
 have:=hr
 rw [<-e0] at this
 exact this
theorem Q40 (X:VX D) {o:List Int} {e:Int}:Qc fuel (Yy (⟨D.net,Qk D.n D.card,Qk D.n (setN D),o⟩,e)) (0,Qk D.n (chM D 0))=some (Qk D.n (chM D D.n)):=by
 have V:=X.vn
 have hn8:=V.n8
 exact Xy (n:=D.n) (k0:=0) (by omega) (by omega) (fun i (t:List Int)=>(i,t)) (body:=Yy (⟨D.net,Qk D.n D.card,Qk D.n (setN D),o⟩,e)) (fun k=>Qk D.n (chM D k)) (Qk D.n (chM D D.n))
  (fun k _ hk=>by
   unfold Yy
   dsimp only
   rw [Yt,aH (dlt hk),Zp hk,aC,Q34 V hk (L:=[]),aC])
  (by
   unfold Yy
   dsimp only
   rw [Yt,aI (nlt _)])
theorem Q1y (X:VX D) {s:Nat} (hs:s < 2^D.n):∃B:Nat,Vt D.net (s:Int)=some ((B:Int),0)/\B < 18446744073709551616/\(∀v,s.testBit v=true->B.testBit v=true)/\∀v p,v < D.n->p∈D.par v->B.testBit p=true->B.testBit v=true:=by
 have V:=X.vn
 have hn8:=V.n8
 obtain ⟨o,hr⟩:=Qmv X
 have hs64:s < 18446744073709551616:=bM hs (bV (aU (by omega) hn8) (by decide))
 obtain ⟨B,hB,h1,h2,h3,h4⟩:=Qu1 hn8 (C:=chM D D.n) (fun v hv=>Qug hn8) hs64
 refine ⟨B,?_,h1,fun v hv=>h3 v ?_ hv,fun v p hv hp hb=>h4 p (V.par v hv p hp) hb (by simp) v hv (by unfold chM; rw [Qge]; simp [hv,hp])⟩
 ·have e0:List.replicate (Int.toNat (D.n:Int)) (0:Int)=Qk D.n (chM D 0):=Qoy
  have e1:Int.fdiv (s:Int) (2^min (Int.toNat (D.n:Int)) zk)=0:=by
   rw [show min (Int.toNat (D.n:Int)) zk=D.n by rw [aQ]; show min D.n 64=D.n; omega,Qn2,Nat.div_eq_of_lt hs]; rfl
  unfold Vt
  rw [hr,aC]
  dsimp only
  rw [aI (by decide),show D.net.Nodes.length=D.n from Qn,aH (by omega),e1,aI (by decide),Yt,aH (by omega),e0,Q40 X,aC,hB]; rfl
 refine Classical.byContradiction fun h=>?_
 have:=Nat.testBit_lt_two_pow (bM hs (aU (n:=2) (by omega) (Nat.le_of_not_lt h)))
 rw [hv] at this; cases this
end
end Go.Ab
namespace Go.Ab
open Go
open Classical
section
variable {D:NF}
theorem Q2p (V:VN D) {S R:Nat -> Int} (hR:∀j,R j=if D.par j=[] then S j else -1) :
  Qc fuel (Y9 (Qb D.n S) D.net) (0,0,List.replicate (Int.toNat (D.n:Int)) (0:Int),List.replicate (Int.toNat (D.n:Int)) (0:Int))=some ((actS D.n S:Int),Qb D.n noE,Qb D.n R):=by
 have hn8:=V.n8
 have hr:=Xy (n:=D.n) (k0:=0) (by omega) (by omega) (fun i (t:Int × List Int × List Int)=>(t.1,i,t.2.1,t.2.2)) (body:=Y9 (Qb D.n S) D.net)
  (fun k=>((actS k S:Int),Qb D.n (fun j=>if j < k then noE j else 0),Qb D.n fun j=>if j < k then R j else 0)) ((actS D.n S:Int),Qb D.n noE,Qb D.n R)
  (fun k _ hk=>by
   have st:∀(F:Nat -> Int),((Qb D.n fun j=>if j < k then F j else 0).set k (F k))=Qb D.n fun j=>if j < k+1 then F j else 0:=fun F=>by
    rw [Z9]
    refine Qf fun j _=>?_
    by_cases e:j=k
    ·subst e; rw [aH rfl,aH (by omega)]
    rw [aI e]
    by_cases e2:j < k
    ·rw [aH e2,aH (by omega)]
    rw [aI e2,aI (by omega)]
   have hl:((D.node k).Parents.length:Int)=((D.par k).length:Int):=by simp [NF.node]
   have hs:actS (k+1) S=actS k S ||| (if decide (0<=S k)=true then 2^k else 0):=rfl
   have st1:((Qb D.n fun j=>if j < k then noE j else 0).set k (-1))=Qb D.n fun j=>if j < k+1 then noE j else 0:=st noE
   have eo:=Qmr (a:=actS k S) (k:=k) (Qqc (by omega)) (by omega)
   rw [aQ] at eo
   unfold Y9
   dsimp only
   rw [Qn,aH (dlt hk),Qv hk,aC,Qv hk,aC,Qv hk,aC,V.node hk,aC,hl,aQ,st1,List.set_set]
   by_cases c:D.par k=[]
   ·have st2:((Qb D.n fun j=>if j < k then R j else 0).set k (S k))=Qb D.n fun j=>if j < k+1 then R j else 0:=by
     have:=st R
     rw [hR k,aH c] at this
     exact this
    rw [aH (by rw [c]; rfl),st2]
    by_cases c2:0<=S k
    ·rw [aH (by simpa using c2),aH (by omega),eo,hs,aH (by simpa using c2)]
    rw [aI (by simpa using c2),hs,aI (by simpa using c2),Nat.or_zero]
   have st2:((Qb D.n fun j=>if j < k then R j else 0).set k (-1))=Qb D.n fun j=>if j < k+1 then R j else 0:=by
    have:=st R
    rw [hR k,aI c] at this
    exact this
   rw [aI (by
    intro h
    have:(D.par k).length=0:=by simpa using h
    exact c (List.length_eq_zero_iff.1 this)),st2]
   by_cases c2:0<=S k
   ·rw [aH (by simpa using c2),aH (by omega),eo,hs,aH (by simpa using c2)]
   rw [aI (by simpa using c2),hs,aI (by simpa using c2),Nat.or_zero])
  (by
   unfold Y9
   dsimp only
   rw [Qn,aI (nlt _)]
   exact congrArg some (congrArg Qh.done (congrArg (Prod.mk (actS D.n S:Int)) (congr (congrArg Prod.mk (Qf fun j hj=>aH hj)) (Qf fun j hj=>aH hj)))))
 have e0:List.replicate (Int.toNat (D.n:Int)) (0:Int)=Qb D.n fun j=>if j < 0 then noE j else 0:=by
  rw [aQ,J4]; exact Qf fun j _=>(aI (by omega)).symm
 have e1:(Qb D.n fun j=>if j < 0 then noE j else 0)=Qb D.n fun j=>if j < 0 then R j else 0:=Qf fun j _=>by rw [aI (by omega),aI (by omega)]
 rw [e0]
 conv at hr=>lhs; rw [<-e1]
 exact hr
theorem Q07 (V:VN D) {R E K:Nat -> Int} {a:Int} {l:List Int} (hK:∀j,K j=if 0<=R j then R j else E j) :
  Qc fuel (Y7 (Qb D.n E) (a,l,Qb D.n R)) (0,Qb D.n E)=some (Qb D.n K):=by
 have hn8:=V.n8
 have hr:=Xy (n:=D.n) (k0:=0) (by omega) (by omega) (fun i (t:List Int)=>(i,t)) (body:=Y7 (Qb D.n E) (a,l,Qb D.n R)) (fun k=>Qb D.n fun j=>if j < k then K j else E j) (Qb D.n K)
  (fun k _ hk=>by
   unfold Y7
   dsimp only
   rw [Qn,aH (dlt hk),Qv hk,aC]
   have st:∀y,y=K k->((Qb D.n fun j=>if j < k then K j else E j).set k y)=Qb D.n fun j=>if j < k+1 then K j else E j:=fun y hy=>by
    rw [Z9]
    refine Qf fun j _=>?_
    by_cases e:j=k
    ·subst e; rw [aH rfl,aH (by omega),hy]
    rw [aI e]
    by_cases e2:j < k
    ·rw [aH e2,aH (by omega)]
    rw [aI e2,aI (by omega)]
   by_cases c:0<=R k
   ·rw [aH (by simpa using c),Qv hk,aC,aQ,st _ (by rw [hK,aH c])]
   rw [aI (by simpa using c)]
   refine congrArg (fun l=>some (Qh.next (zw ((k:Int)+1),l))) (Qf fun j _=>?_)
   by_cases e:j=k
   ·subst e; rw [aI (by omega),aH (by omega),hK,aI c]
   by_cases e2:j < k
   ·rw [aH e2,aH (by omega)]
   rw [aI e2,aI (by omega)])
  (by
   unfold Y7
   dsimp only
   rw [Qn,aI (nlt _)]
   exact congrArg (fun l=>some (Qh.done l)) (Qf fun j hj=>by rw [aH hj]))
 have e0:Qb D.n E=Qb D.n fun j=>if j < 0 then K j else E j:=Qf fun j _=>(aI (by omega)).symm
 have:=hr
 rw [<-e0] at this
 exact this
theorem Q2n (V:VN D) {R K:Nat -> Int} (hS:Jg D R) (hr:∀v,v < D.n->0<=R v->D.par v=[]) (hK:∀v,v < D.n->0<=R v->K v=R v) {v:Nat} (hv:v < D.n) :
  ((Vp D noE K v).2=0/\Vp D R K v=Vp D noE K v)\/(Vp D noE K v).2=7:=by
 by_cases c:SW D K (fS D 0)=0
 ·right
  unfold Vp
  rw [Qt6 V,aH c]
 ·left
  have h:=Q0q V hS hr hK hv c
  have e:Vp D noE K v=(Qb (D.card v) fun k=>qI (SW D K (at' v k (fS D 0))) (SW D K (fS D 0)),0):=by
   unfold Vp
   rw [Qt6 V,aI c]
   exact congrArg (fun l=>(l,(0:Int))) (Qf fun k _=>by rw [Q2w V])
  rw [h,e]
  exact ⟨rfl,rfl⟩
theorem Q38 (V:VN D) {S E:Nat -> Int} {v:Nat} (hv:v < D.n):(Vp D S E v).1.length<=1000000:=by
 have:=(V.card v hv).2
 unfold Vp; split
 ·simp
 rw [Qn]; omega
theorem roots_true (p0:Qe) (p1 p2:Af) (p3:Int) (h0:Kb p0) (h1:Vi p1) (h2:Vi p2) (h3:(Lit.int .u8 p3).wf=true) :
  Qb5 p0 p1 p2 p3=some true:=by
 obtain ⟨D,X0,hn,hcd,e1⟩:=Q0j (Q4e h0)
 have X:DX D:=⟨X0,hn,hcd⟩
 have V:=X.vn
 have hn8:=V.n8
 have hn1:=V.n1
 have hlen:D.net.Nodes.length=D.n:=Qn
 obtain ⟨S,hS,eS⟩:=Qtw X h1
 obtain ⟨E,hE,eE⟩:=Qtw X h2
 obtain ⟨v,hv⟩:∃v:Nat,v=p3.toNat % D.n:=⟨_,rfl⟩
 have hvn:v < D.n:=by rw [hv]; exact cF _ (by omega)
 have ev:Int.tmod (zw p3) (D.n:Int)=(v:Int):=by
  have:=Q78 h3
  rw [w64 (by omega),Kn (by omega),hv,Int.natCast_emod,Int.toNat_of_nonneg (by omega)]
 obtain ⟨R,hR⟩:∃R:Nat -> Int,∀j,R j=if D.par j=[] then S j else -1:=⟨_,fun _=>rfl⟩
 obtain ⟨K,hK⟩:∃K:Nat -> Int,∀j,K j=if 0<=R j then R j else E j:=⟨_,fun _=>rfl⟩
 have hRok:Jg D R:=fun j hj=>by
  have:=hS j hj
  have:=(V.card j hj).1
  rw [hR]; split <;> omega
 have hKok:Jg D K:=fun j hj=>by
  have:=hRok j hj
  have:=hE j hj
  rw [hK]; split <;> omega
 have hno:Jg D noE:=fun j hj=>by
  have:=(V.card j hj).1
  unfold noE; omega
 have hrp:∀v,v < D.n->0<=R v->D.par v=[]:=fun v _ h=>by
  rw [hR] at h
  by_cases c:D.par v=[]
  ·exact c
  rw [aI c] at h; omega
 have hroot:=Q2n V hRok hrp (fun v _ h=>by rw [hK,aH h]) hvn (K:=K)
 obtain ⟨B,hB,b1,b2,b3⟩:=Q1y X.toVX (s:=actS D.n S) Qo1
 have hapart:B.testBit v=false->Yb D.net (Qb D.n S) (Qb D.n noE) (v:Int)=some (Vp D noE noE v)/\(Vp D noE noE v).2=0:=fun hb=>by
  obtain ⟨u,hu⟩:∃u:Nat -> Nat,u=fun j=>if (actS D.n S).testBit j=true then (S j).toNat else 0:=⟨_,rfl⟩
  have hbit:∀j,j < D.n->((actS D.n S).testBit j=true↔0<=S j):=fun j hj=>by rw [Qj0]; simp [hj]
  have huok:∀j,j < D.n->u j < D.card j:=fun j hj=>by
   have:=hS j hj
   have:=(V.card j hj).1
   rw [hu]; dsimp only
   split <;> omega
  have eq:Qb D.n S=Qb D.n (vF u (actS D.n S)):=Qf fun j hj=>by
   have:=hS j hj
   unfold vF
   rw [hu]
   by_cases c:(actS D.n S).testBit j=true
   ·have:=(hbit j hj).1 c
    rw [aH c]; dsimp only; rw [aH c]; omega
   have h5:¬ 0<=S j:=fun h=>c ((hbit j hj).2 h)
   rw [aI c]; omega
  have ha:=Qz2 X.toVX huok (s:=actS D.n S) (A:=coS D.n B) (v:=v) (fun j hj hA=>by
   rw [Qis hj] at hA
   simp only [bG] at hA
   refine ⟨?_,fun p hp=>?_⟩
   ·rw [bI]; intro h
    rw [b2 j h] at hA; cases hA
   rw [Qis (V.par j hj p hp)]
   cases hbp:B.testBit p with
   | false=>rfl
   | true=>rw [b3 j p hj hp hbp] at hA; cases hA) hvn (by rw [Qis hvn,hb]; rfl)
  rw [eq,Qq0 X.toVX (Q75 huok) hno hvn,ha.1]
  exact ⟨rfl,ha.2⟩
 have hsq:∀E',Ye (Vp D noE E' v).1 (Vp D noE E' v).1=some true:=fun E'=>Qx6 (Q38 V hvn)
 unfold Qb5
 rw [Qyb,aC,aI (by decide),e1,aC,
  show (Af.mk p1.Which (p1.V.1,p1.V.2.1,p1.V.2.2.1,p1.V.2.2.2.1,p1.V.2.2.2.2.1,p1.V.2.2.2.2.2.1,p1.V.2.2.2.2.2.2.1,p1.V.2.2.2.2.2.2.2))=p1 from rfl,show (Af.mk p2.Which (p2.V.1,p2.V.2.1,p2.V.2.2.1,p2.V.2.2.2.1,p2.V.2.2.2.2.1,p2.V.2.2.2.2.2.1,p2.V.2.2.2.2.2.2.1,p2.V.2.2.2.2.2.2.2))=p2 from rfl,
  hlen,aH (by omega),aH (by omega),aH (by omega),eS,aC,Q2p V hR,aC,eE,aC]
 dsimp only
 rw [Q07 V hK,aC,ev,Qq0 X.toVX hRok hKok hvn,aC,Qvo X.toVX hKok hvn,aC,hB,Qvo X.toVX hno hvn]
 simp only [aC]
 have hend:∀(o:Option Bool),(if 0<=(v:Int) then if ((zv (zb (Int.fdiv (B:Int) (2^min (Int.toNat (v:Int)) zk)) &&& zb 1).toNat)==1)=true then some true else
   (Yb D.net (Qb D.n S) (Qb D.n noE) (v:Int)).bind fun x66=>if (x66.2==0)=true then (if ((Vp D noE noE v).2==0)=true then (Ye x66.1 (Vp D noE noE v).1).bind fun x74=>some x74 else some false) else some false else o)=some true:=fun o=>by
  rw [aH (by omega),Qqi b1 (by omega)]
  cases hb:B.testBit v with
  | true=>rfl
  | false =>
   obtain ⟨k1,k2⟩:=hapart hb
   rw [aI (by decide),k1,aC,k2,aH (by rfl),aH (by rfl),hsq]; rfl
 rcases hroot with ⟨k1,k2⟩ | k1
 ·rw [k1,k2,k1,aH (by rfl),aI (by decide),hsq,aC,aI (by decide),aI (by decide)]
  exact hend none
 ·rw [k1,aI (by decide),aI (by decide),aI (by decide)]
  exact hend none
end
end Go.Ab
namespace Go.Ab
open Go Go.Proofs Go.Proofs.YtgogkahhifkocaaDoor
open Go.ChangeShapes Go.WideShapes Go.ChangeAt Go.RowKit
abbrev dr_laid:List (String × DataW Unit):=[("math/bits.deBruijn32tab",Rows.laid_math_bits_deBruijn32tab),("math/bits.deBruijn64tab",Rows.laid_math_bits_deBruijn64tab)]
theorem dr_own:ownKnob Tryd.prog.godebug=none:=by kernel_rfl
theorem Q3n:Tryd.prog.globalNamed "math/bits.deBruijn32tab" = some 0:=by kernel_rfl
theorem Q2y:Tryd.prog.globalNamed "math/bits.deBruijn64tab" = some 1:=by kernel_rfl
theorem dr_met (os:Os) (args:Array Value):laidMetH Tryd.prog dr_laid ((World.doorLaid Tryd.prog 19 os).forCall (fun _ _=>0) ⟨#[],args,[]⟩).memory :=
 laidMetH_of_parts3 (fuel:=8) (laidMet_of_run' 8 (by kernel_rfl) (by kernel_rfl)) (by kernel_rfl) (by kernel_rfl)
theorem dr_glob {W:World} (h:laidMetH Tryd.prog dr_laid W):Go.Ab.GlobIn W:=by
 rw [MakeChecks.laidMetH_plain _ _ _ (by kernel_rfl)] at h
 have h0:=Lib.tabIs_of_head (k:=.u8) (zs:=Go.Ab.tab0) (t:=251) (e:=5) (n:=32) Q3n (by kernel_rfl) (by kernel_rfl) (by kernel_rfl) (by kernel_rfl) (by kernel_rfl) h
 have h1:=Lib.tabIs_of_head (k:=.u8) (zs:=Go.Ab.tab1) (t:=252) (e:=5) (n:=64) Q2y (by kernel_rfl) (by kernel_rfl) (by kernel_rfl) (by kernel_rfl) (by kernel_rfl) h.tail
 intro g xs hg i v hv
 match g,hg with
 | 0,hg =>
  cases hg
  have hi:i < Go.Ab.tab0.length:=by have:=(aD.1 hv).1; simpa using this
  have:=h0.cell Q3n i hi
  rw [this]
  rw [bD] at hv
  simpa [List.getD,hi] using hv
 | 1,hg =>
  cases hg
  have hi:i < Go.Ab.tab1.length:=by have:=(aD.1 hv).1; simpa using this
  have:=h1.cell Q2y i hi
  rw [this]
  rw [bD] at hv
  simpa [List.getD,hi] using hv
 | n+2,hg=>cases hg
end Go.Ab
