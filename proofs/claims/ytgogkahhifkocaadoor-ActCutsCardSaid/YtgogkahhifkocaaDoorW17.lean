/- Functions. No conditions. -/
import Derived.Test.YtgogkahhifkocaaDoorW16
import Derived.Test.YtgogkahhifkocaaDoorRows
import Derived.Test.YtgogkahhifkocaaDoorEng7
import Derived.WalkKit
import Derived.ProofKit
import Derived.LaidMore
import Derived.Lib.LaidTab
import Derived.Stop.LaidErr
import Derived.Stop.Joined
import Derived.OpenShut
set_option maxRecDepth 100000
set_option maxHeartbeats 1000000
set_option linter.all false
namespace Go.Ab
open Go
open Classical
section
variable {D:NF} {S E:Nat -> Int}
theorem Qoy (V:VN D) {f:(Nat -> Nat)->Int} (hf:Ext D f) {K:Nat -> Int}:SW D K f=Qj (Qn D.n D.card) (fun W=>if X1 D.n K 0 (dig D W) then f (dig D W) else 0):=by
 have hmix:∀W,mix D 0 (fun _=>0) W=dig D W:=fun W=>by funext j; simp [mix]
 unfold SW
 rw [<-Qpd V hf D.n 0 (fun _=>0) (by omega),Qxs]
 exact Xw fun W _=>by rw [hmix]
theorem Qyc {w:Nat -> Nat} (hw:∀j,j < D.n->w j < 100):X1 D.n (Xm S E) 0 w↔X1 D.n S 0 w/\X1 D.n E 0 w:=by
 constructor
 ·intro h
  exact ⟨fun j h1 h2=>((Qd5 (hw j h2)).1 (h j h1 h2)).1,fun j h1 h2=>((Qd5 (hw j h2)).1 (h j h1 h2)).2⟩
 rintro ⟨h1,h2⟩ j h3 h4
 exact (Qd5 (hw j h4)).2 ⟨h1 j h3 h4,h2 j h3 h4⟩
theorem Q6n (V:VN D) {W:Nat}:∀j,j < D.n->dig D W j < 100:=fun j hj=>by
 have h1:=Qi2 V W j hj
 have h2:=(V.card j hj).2
 omega
def effA (D:NF) (S E:Nat -> Int) (v k:Nat):Int:=SW D (Xm S E) (at' v k (fS D (actS D.n S)))
def acL (f:(Nat -> Nat)->Int) (v:Nat) (t:Int × (Nat -> Int)) (w:Nat -> Nat):Int × (Nat -> Int):=(t.1+f w,fun x=>t.2 x+at' v x f w)
theorem Qlx (hS:Yf D S) (hE:Yf D E) {i x:Nat} (hi:i < D.n) (hx:x < 100) {s t:Int × Int × List Int × List Int} (hs:s.1=i) (ht:t.1=x) :
  Qc fuel (Qdu (Qb D.n S) (Qb D.n E) s t) 0=some (if KE (Xm S E) i x=true then Sum.inr () else Sum.inl ()):=by
 have hl:∀F:Nat -> Int,lkI (Qb D.n F) s.1=some (F i):=fun F=>by rw [hs]; exact Qx hi
 rw [Qo7 (a:=S i) (b:=E i) (x:=t.1) (hS i hi).1 (hE i hi).1]
 ·congr 1
  rw [ht]
  by_cases c:okE (Xm S E) i x
  ·rw [aH (show (S i=-1\/S i=(x:Int))/\(E i=-1\/E i=(x:Int)) from (Qd5 hx).1 c),aH (by unfold KE; simpa using c)]
  ·rw [aI (fun h:(S i=-1\/S i=(x:Int))/\(E i=-1\/E i=(x:Int))=>c ((Qd5 hx).2 h)),aI (by unfold KE; simpa using c)]
 all_goals (unfold Qdu; simp only [dC,List.length_nil])
 ·rw [aH (by simp),show lkI ([Qb D.n S,Qb D.n E]:List (List Int)) 0=some (Qb D.n S) from rfl,aC,hl,aC]; rfl
 ·rw [aH (by simp),show lkI ([Qb D.n S,Qb D.n E]:List (List Int)) 1=some (Qb D.n E) from rfl,aC,hl,aC]; rfl
 ·rfl
theorem Qxx (V:VN D) {m v:Nat} (hm:m < 18446744073709551616) (hv:v < D.n) (hS:Yf D S) (hE:Yf D E) :
  ∃w',Qdj (J3 D.net (m:Int) (v:Int) (Qb D.n S) (Qb D.n E)) fuel (0,0,Qo (D.card v) (fun _=>0),Qo D.n fun _=>0) =
   some (SW D (Xm S E) (fS D m),Qb (D.card v) (fun k=>SW D (Xm S E) (at' v k (fS D m))),Qo D.n w'):=by
 have hw:=V.worlds
 have hn8:=V.n8
 obtain ⟨w',_,_,h⟩:=Qnu V (K:=KE (Xm S E)) (leaf:=acL (fS D m) v) (fun t w w' h=>by unfold acL; rw [Qdm V w w' h]; congr 1; funext x; rw [Qo9 hv (Qdm V) w w' h])
  (I:=fun m t=>BD m t.1/\∀x,BD m (t.2 x)) (fun _ _ _ h hp=>⟨h.1.mono hp,fun x=>(h.2 x).mono hp⟩) (fun _ _ w h hw=>⟨h.1.add (Qht V w hw),fun x=>(h.2 x).add (Q2n (Qht V) w hw)⟩)
  (fun i t l=>((i,t.1,Qb (D.card v) t.2,l):Int × Int × List Int × List Int)) (fun t l=>((t.1,Qb (D.card v) t.2,l):Int × List Int × List Int))
  (F:=J3 D.net (m:Int) (v:Int) (Qb D.n S) (Qb D.n E)) (B:=fun r i t w=>Jx (D.node i) (Qb D.n S) (Qb D.n E) ((i:Int),t.1,Qb (D.card v) t.2,Qo D.n w) r)
  (fun r p t w hw hI hp=>by
   have hwv:=hw v hv
   unfold J3
   simp only
   rw [aH (by rw [Kp]; simp),V.aweigh hm hw,aC,w64 ((hI.1.add (Qht V w hw)).fit hp),Zn hv,aC,show lkI (Qb (D.card v) t.2) (w v:Int)=some (t.2 (w v)) from Qx hwv,aC,
    w64 (((hI.2 (w v)).add (Qht V w hw)).fit hp),aP,Xg]
   have e:(Qb (D.card v) fun s=>if s=w v then t.2 (w v)+fS D m w else t.2 s)=Qb (D.card v) (acL (fS D m) v t w).2:=Qh fun x _=>by
    show _=t.2 x+at' v x (fS D m) w
    unfold at'
    by_cases c:x=w v
    ·subst c; rw [aH rfl,aH rfl]
    rw [aI c,aI (Ne.symm c),Int.add_zero]
   rw [e]; rfl)
  (fun r i t w z hi hw hz=>by
   unfold J3
   simp only
   rw [aI (by rw [Kp]; simp; omega),V.node hi,aC,hz,aC])
  (fun r i t0 w0 x t w z w' hi hw hx hk hr=>by
   have hc:=(V.card i hi).2
   unfold Jx
   simp only
   rw [aH (by simp [NF.node]; omega),Qlx hS hE hi (by omega) rfl rfl,aH hk,aC]
   simp only
   rw [Zn hi,aC,aP,Qap,V4 (by omega),hr,aC,V4 (by omega)])
  (fun r i t0 w0 x t w hi hw hx hk=>by
   have hc:=(V.card i hi).2
   unfold Jx
   simp only
   rw [aH (by simp [NF.node]; omega),Qlx hS hE hi (by omega) rfl rfl,aI (by simp [hk]),aC]
   simp only
   rw [V4 (by omega)])
  (fun r i t0 w0 t w hi hw=>by
   unfold Jx
   simp only
   rw [aI (by simp [NF.node])])
  D.n fuel (by unfold fuel; omega) 0 0 (fun _=>0) (0,fun _=>0) (by omega) (fun v hv=>(V.card v hv).1) ⟨BD.zero,fun _=>BD.zero⟩ (by rw [Qxs]; omega)
 have hr1:=Qjl (D:=D) (E:=Xm S E) (leaf:=acL (fS D m) v) (p:=fun t=>t.1) (f:=fS D m) (fun _ _=>rfl) D.n 0 (fun _=>0) (0,fun _=>0)
 have hr2:∀x,_:=fun x=>Qjl (D:=D) (E:=Xm S E) (leaf:=acL (fS D m) v) (p:=fun t=>t.2 x) (f:=at' v x (fS D m)) (fun _ _=>rfl) D.n 0 (fun _=>0) (0,fun _=>0)
 simp only [Int.zero_add] at hr1 hr2
 refine ⟨w',?_⟩
 have h':=h
 simp only at h'
 rw [hr1,Qh (fun x _=>hr2 x)] at h'
 exact h'
theorem Qkk (V:VN D) {m v k:Nat} {K:Nat -> Int}:0<=SW D K (at' v k (fS D m))/\(SW D K (at' v k (fS D m))).natAbs<=MX:=by
 have h1:0<=SW D K (at' v k (fS D m)):=Qlo (fun w=>by unfold at'; split; exact Qqz V; exact Int.le_refl _) _ _ _
 have h2:=Q23 V (m:=1024) (E:=K) V.worlds (Q2n (v:=v) (x:=k) (Qht V (m:=m)))
 unfold BD KK at h2
 refine ⟨h1,?_⟩
 unfold MX; omega
def Qff (D:NF) (S E:Nat -> Int) (v:Nat):List Ql × Int:=if sumSE D S E=0 then ([],7) else (Qb (D.card v) (fun k=>qI (effA D S E v k) (sumSE D S E)),0)
theorem Qz2 (X:VX D) (hS:Yf D S) (hE:Yf D E) {v:Nat} (hv:v < D.n):Kh D.net (Qb D.n S) (Qb D.n E) (v:Int)=some (Qff D S E v):=by
 have V:=X.vn
 have hn8:=V.n8
 have hc4:=V.card v hv
 have hm:=Qp0 (S:=S) hn8
 obtain ⟨w',hr⟩:=Qxx V hm hv hS hE
 have hlen:D.net.Nodes.length=D.n:=Qm
 have hc:=Qtz X [S,E] (by simp) (by simp [hS,hE])
 obtain ⟨h1,h2⟩:=Jo V (m:=actS D.n S) (K:=Xm S E)
 unfold Kh
 rw [show ([Qb D.n S,Qb D.n E]:List (List Int))=[S,E].map (Qb D.n) from rfl,hc,aC,aI (by decide),aI (by simp),aI (by rw [hlen]; simp; omega),V.node hv,aC]
 rw [show (D.node v).Card=(D.card v:Int) from rfl,aH (by omega),Qtn hn8,aC,hlen,aH (by omega),Qm9,Qm9,hr]
 simp only [aC]
 unfold Qff
 by_cases c:SW D (Xm S E) (fS D (actS D.n S))=0
 ·rw [aH (by simpa using c),aH (show sumSE D S E=0 from c)]
 rw [aI (by simpa using c),aI (show ¬ sumSE D S E=0 from c),Qm,aH (by omega),aP]
 have hl:=Z7 (n:=D.card v) (k0:=0) (by omega) (by omega) (fun i (t:List Ql)=>(i,t)) (body:=Qaf (SW D (Xm S E) (fS D (actS D.n S)),Qb (D.card v) (fun k=>SW D (Xm S E) (at' v k (fS D (actS D.n S)))),Qo D.n w'))
  (fun k=>Qb (D.card v) fun j=>if j < k then qI (effA D S E v j) (sumSE D S E) else ⟨0,0⟩) (.inr (Qb (D.card v) (fun k=>qI (effA D S E v k) (sumSE D S E))))
  (fun k _ hk=>by
   unfold Qaf
   simp only
   rw [aH (by rw [Qm]; exact dlt hk),show lkI (Qb (D.card v) fun k=>SW D (Xm S E) (at' v k (fS D (actS D.n S)))) (k:Int)=some (SW D (Xm S E) (at' v k (fS D (actS D.n S)))) from Qx hk,aC,
    Qm1 (Qkk V).2 h2 c,aC]
   simp only
   rw [aI (by decide),show lkI (Qb (D.card v) fun j=>if j < k then qI (effA D S E v j) (sumSE D S E) else ⟨0,0⟩) (k:Int)=some _ from Qx hk,aC,aP,Xg]
   refine congrArg (fun l=>some (Qg.next (zw ((k:Int)+1),l))) (Qh fun j _=>?_)
   by_cases e:j=k
   ·subst e; rw [aH rfl,aH (by omega)]; rfl
   rw [aI e]
   by_cases e2:j < k
   ·rw [aH e2,aH (by omega)]
   rw [aI e2,aI (by omega)])
  (by
   unfold Qaf
   simp only
   rw [aI (by rw [Qm]; exact nlt _)]
   congr 3
   exact Qh fun j hj=>by rw [aH hj])
 have e0:List.replicate (D.card v) (Ql.mk 0 0)=Qb (D.card v) fun j=>if j < 0 then qI (effA D S E v j) (sumSE D S E) else ⟨0,0⟩:=by
  rw [V8]; exact Qh fun j _=>by rw [aI (by omega)]
 rw [e0]
 exact Zk hl rfl
end
end Go.Ab
namespace Go.Ab
open Go
open Classical
theorem Q7u {n:Int} (h:(Lit.int .u8 n).wf=true):0<=n/\n<=255:=by
 simpa [Lit.wf,IntKind.min,IntKind.max,IntKind.bits,IntKind.signed] using h
theorem Qxi {D:NF} (X:VX D):∀x∈Qb D.n D.node,Qj1 65536 x:=fun x hx=>by
 have V:=X.vn
 unfold Qb at hx
 obtain ⟨v,hv,rfl⟩:=bZ.1 hx
 have hv:=cL.1 hv
 have hc:=V.card v hv
 refine ⟨?_,?_,fun r hr=>?_⟩
 ·have:=V.len v hv
  show (List.map _ (D.par v)).length<=_
  rw [bU]; omega
 ·show (Qb (D.rows v) _).length<=_
  rw [Qm]; exact V.rows_le hv
 have hr:r∈Qb (D.rows v) fun r=>Qb (D.card v) fun x=>(D.W v r x:Int):=hr
 unfold Qb at hr
 obtain ⟨i,hi,rfl⟩:=bZ.1 hr
 rw [bU,List.length_range]; omega
theorem Qrp {l:List Int} (h:l.length<=1000000):V5 l l=some true:=by
 unfold V5
 rw [aI (by simp)]
 have hr:=Z7 (n:=l.length) (k0:=0) (by omega) (by omega) (fun i (_:Unit)=>i) (body:=Qah l l) (fun _=>()) (.inr ())
  (fun k _ hk=>by
   unfold Qah
   rw [aH (dlt hk),Xo hk,aC,aC,aI (by simp)])
  (by unfold Qah; rw [aI (nlt _)])
 exact Zk hr rfl
theorem Qxg {l:List Ql} (h:l.length<=1000000):Jk l l=some true:=by
 unfold Jk
 rw [aI (by simp)]
 have hr:=Z7 (n:=l.length) (k0:=0) (by omega) (by omega) (fun i (_:Unit)=>i) (body:=Ks l l) (fun _=>()) (.inr ())
  (fun k _ hk=>by
   unfold Ks
   rw [aH (dlt hk),Xo hk,aC,aC,aI (by simp)])
  (by unfold Ks; rw [aI (nlt _)])
 exact Zk hr rfl
theorem Qt6 {g:Int} {l:List Ad} (hl:l.length<=1000000) (h:∀x∈l,Qj1 1000000 x):Yt ⟨g,l⟩ ⟨g,l⟩=some true:=by
 unfold Yt
 rw [aI (by simp),aI (by simp)]
 have hr:=Z7 (n:=l.length) (k0:=0) (by omega) (by omega) (fun i (_:Unit)=>i) (body:=Jy ⟨g,l⟩ ⟨g,l⟩) (fun _=>()) (.inr ())
  (fun k _ hk=>by
   have hx:=h _ (bH hk)
   unfold Jy
   simp only
   rw [aH (dlt hk),Xo hk,aC,aC,aI (by simp),Qrp hx.par,aC,aI (by simp),aI (by simp)]
   have hr2:=Z7 (n:=l[k].Rows.length) (k0:=0) (by omega) (by have:=hx.rows; omega) (fun i (_:Unit)=>i) (body:=J4 l[k] l[k]) (fun _=>()) (.inr ())
    (fun j _ hj=>by
     unfold J4
     rw [aH (dlt hj),Xo hj,aC,aC,Qrp (hx.row _ (bH hj)),aC,aI (by simp)])
    (by unfold J4; rw [aI (nlt _)])
   exact Zk hr2 rfl)
  (by unfold Jy; rw [aI (nlt _)])
 exact Zk hr rfl
def doD (D:NF) (S:Nat -> Int):NF:=⟨D.n,D.g,D.card,fun v=>if 0<=S v then [] else D.par v,fun v r x=>if 0<=S v then (if (x:Int)=S v then D.g else 0) else D.W v r x⟩
theorem Qoc {D:NF} {S:Nat -> Int} {v:Nat} (h:¬ 0<=S v):(doD D S).node v=D.node v:=by
 unfold NF.node NF.rows doD
 simp only [aI h]
theorem Qna {D:NF} {S:Nat -> Int} {v:Nat} (h:0<=S v):(doD D S).node v=⟨D.card v,[],[(List.replicate (D.card v) (0:Int)).set (S v).toNat D.g]⟩:=by
 unfold NF.node NF.rows doD
 simp only [aH h]
 rw [V8,Xg]
 congr 1
 show [Qb _ _]=_
 congr 1
 refine Qh fun x _=>?_
 by_cases c:(x:Int)=S v
 ·rw [aH c,aH (by omega)]
 rw [aI c,aI (by omega)]; rfl
section
variable {D:NF} {S E:Nat -> Int}
theorem Qz7 {m:Nat} {x:Ad} (hm:m<=1000000) (h:Qj1 m x):Qc fuel (Qnn x) (0,([]:List (List Int)))=some x.Rows:=Q0c hm h
theorem Qzf (X:VX D) {v:Nat} (hv:v < D.n):Qj1 65536 (D.node v):=Qxi X _ (by unfold Qb; exact bZ.2 ⟨v,cL.2 hv,rfl⟩)
theorem Q3j (X:VX D) (hS:Yf D S) {v:Nat} (hv:v < D.n):Qj1 65536 ((doD D S).node v):=by
 have hc:=X.vn.card v hv
 by_cases c:0<=S v
 ·rw [Qna c]
  refine ⟨by simp,by simp,fun r hr=>?_⟩
  simp at hr; subst hr; simp; omega
 rw [Qoc c]; exact Qzf X hv
theorem Q01 (X:VX D) (hS:Yf D S):∀x∈Qb D.n (doD D S).node,Qj1 1000000 x:=fun x hx=>by
 unfold Qb at hx
 obtain ⟨v,hv,rfl⟩:=bZ.1 hx
 have h:=Q3j X hS (cL.1 hv)
 exact ⟨by have:=h.par; omega,by have:=h.rows; omega,fun r hr=>by have:=h.row r hr; omega⟩
theorem Qzo {n k:Nat} {F:Nat -> Ad} {z y:Ad} (h:y=F k):(Qb n fun j=>if j < k then F j else z).set k y=Qb n fun j=>if j < k+1 then F j else z:=by
 rw [Xg]
 refine Qh fun j _=>?_
 by_cases e:j=k
 ·subst e; rw [aH rfl,aH (by omega),h]
 rw [aI e]
 by_cases e2:j < k
 ·rw [aH e2,aH (by omega)]
 rw [aI e2,aI (by omega)]
theorem Q2k (X:VX D) (hS:Yf D S):Qan D.net (Qb D.n S)=some ((doD D S).net,0):=by
 have V:=X.vn
 have hn8:=V.n8
 have hlen:D.net.Nodes.length=D.n:=Qm
 have hc:=Qtz X [S] (by simp) (by simp [hS])
 unfold Qan
 rw [show ([Qb D.n S]:List (List Int))=[S].map (Qb D.n) from rfl,hc,aC,aI (by decide),hlen,aH (by omega),aP]
 have hl:=Z7 (n:=D.n) (k0:=0) (by omega) (by omega) (fun i (t:List Ad)=>(i,t)) (body:=Qee D.net (Qb D.n S))
  (fun k=>Qb D.n fun j=>if j < k then (doD D S).node j else ⟨0,[],[]⟩) (Qb D.n (doD D S).node)
  (fun k _ hk=>by
   have hcd:=V.card k hk
   have hSk:=hS k hk
   unfold Qee
   simp only
   rw [hlen,aH (dlt hk),V.node hk,aC,show lkI (Qb D.n S) (k:Int)=some (S k) from Qx hk,aC]
   have hg:lkI (Qb D.n fun j=>if j < k then (doD D S).node j else ⟨0,[],[]⟩) (k:Int)=some _:=Qx hk
   by_cases c:0<=S k
   ·rw [aH (by simpa using c),show (D.node k).Card=(D.card k:Int) from rfl,aH (by omega),Q6v c (by simp; omega),aC,hg,aC,aP,aP,
     Qzo (F:=(doD D S).node) (by rw [Qna c]; rfl)]
   have hs:=Qzf X hk
   rw [aI (by simpa using c),aH (by have:=hs.par; omega),Qz7 (m:=65536) (by omega) hs,aC,hg,aC,aP,
    Qzo (F:=(doD D S).node) (by rw [Qoc c])])
  (by
   unfold Qee
   simp only
   rw [hlen,aI (nlt _)]
   congr 2
   exact Qh fun j hj=>by rw [aH hj])
 have e0:List.replicate D.n (Ad.mk 0 [] [])=Qb D.n fun j=>if j < 0 then (doD D S).node j else ⟨0,[],[]⟩:=by
  rw [V8]; exact Qh fun j _=>by rw [aI (by omega)]
 rw [e0]
 exact Zk hl rfl
end
end Go.Ab
namespace Go.Ab
open Go
theorem Q3z (a b:Int):Qaw a b=some (decide (a < b)):=by
 unfold Qaw Qac
 rw [aC,aI (by simp)]
theorem Q3n {i j:Nat} (h:i+j < 1000):zw (Int.fdiv (zv (zw ((i:Int)+(j:Int)))) (2^min (Int.toNat 1) zk))=(((i+j) / 2:Nat):Int):=by
 rw [w64 (n:=(i:Int)+j) (by omega),show (i:Int)+j=((i+j:Nat):Int) by omega,Qgo (by omega),show min (Int.toNat 1) zk=1 from rfl,Qub,w64 (by omega)]
theorem Q7x {l:List Nat} (hs:l.Pairwise (· < ·)) (hl:l.length<=8) {v:Nat} (hv:v ∉ l) :
  ∃pos:Nat,Xp (nI l) (v:Int)=some ((pos:Int),false)/\pos<=l.length/\(∀(k:Nat) (p:Nat),l[k]?=some p->k < pos->p < v)/\(∀(k:Nat) (p:Nat),l[k]?=some p->pos<=k->v < p):=by
 have mono:∀(a b p r:Nat),l[a]?=some p->l[b]?=some r->a < b->p < r:=fun a b p r ha hb hab=>by
  obtain ⟨h1,e1⟩:=aD.1 ha
  obtain ⟨h2,e2⟩:=aD.1 hb
  have:=List.pairwise_iff_getElem.1 hs a b h1 h2 hab
  omega
 have hsp:=Vx (body:=Yd (nI l) (v:Int)) (fun s=>∃i j:Nat,i<=j/\j<=l.length/\(∀(k:Nat) (p:Nat),l[k]?=some p->k < i->p < v)/\(∀(k:Nat) (p:Nat),l[k]?=some p->j<=k->v < p)/\s=((i:Int),(j:Int)))
  (fun s=>(s.2 - s.1).toNat) (fun r=>∃pos:Nat,r=((pos:Nat):Int)/\(pos<=l.length:Prop)/\(∀(k:Nat) (p:Nat),l[k]?=some p->k < pos->p < v)/\(∀(k:Nat) (p:Nat),l[k]?=some p->pos<=k->v < p))
  (fun s hs=>by
   obtain ⟨i,j,hij,hj,h1,h2,rfl⟩:=hs
   unfold Yd
   dsimp only
   by_cases c:i < j
   ·left
    have hm:(i+j) / 2 < l.length:=by omega
    rw [aH (by rw [aN]; omega),Q3n (by omega),Qm8 hm,aC,Q3z,aC]
    have hg:l[(i+j) / 2]?=some l[(i+j) / 2]:=aG hm
    by_cases c2:l[(i+j) / 2] < v
    ·rw [aH (by rw [aN]; omega)]
     refine ⟨_,rfl,⟨(i+j) / 2+1,j,by omega,hj,fun k p hk hlt=>?_,h2,by rw [V4 (by omega)]⟩,by dsimp only; rw [V4 (by omega)]; omega⟩
     rcases aZ k ((i+j) / 2) with e | e
     ·have:=mono _ _ _ _ hk hg e; omega
     have:k=(i+j) / 2:=by omega
     subst this; rw [hg] at hk; cases hk; exact c2
    rw [aI (by rw [aN]; omega)]
    refine ⟨_,rfl,⟨i,(i+j) / 2,by omega,by omega,h1,fun k p hk hge=>?_,rfl⟩,by dsimp only; omega⟩
    have hne:l[(i+j) / 2]≠v:=fun e=>hv (e ▸ bH hm)
    rcases aZ ((i+j) / 2) k with e | e
    ·have:=mono _ _ _ _ hg hk e; omega
    have:k=(i+j) / 2:=by omega
    subst this; rw [hg] at hk; cases hk; omega
   right
   have:i=j:=by omega
   subst this
   rw [aI (by rw [aN]; omega)]
   exact ⟨_,rfl,i,rfl,hj,h1,h2⟩)
  fuel ((0:Nat),(l.length:Int)) ⟨0,l.length,by omega,by omega,fun k p _ h=>by omega,fun k p hk h=>by
   have:=(aD.1 hk).1; omega,rfl⟩ (by unfold fuel; simp; omega)
 obtain ⟨r,hr,pos,rfl,p1,p2,p3⟩:=hsp
 refine ⟨pos,?_,by exact_mod_cast p1,fun k p h1 h2=>p2 k p h1 (by exact_mod_cast h2),fun k p h1 h2=>p3 k p h1 (by exact_mod_cast h2)⟩
 unfold Xp
 rw [Qcw]
 refine Zk hr ?_
 by_cases c:pos < l.length
 ·have hg:l[pos]?=some l[pos]:=aG c
  have:=p3 pos _ hg (aY _)
  rw [aH (by rw [aN]; omega),Qm8 c,aC,aI (by simp; omega)]
  unfold Js
  rw [aC,aI (by simp)]
 ·rw [aI (by rw [aN]; omega)]
theorem Q5w {l:List Nat} (hl:l.length<=8) {v pos:Nat} (hp:pos<=l.length):Qpz (nI l) (pos:Int) (v:Int)=some (nI (l.take pos++v::l.drop pos)):=by
 unfold Qpz
 rw [Qcw,aH ⟨by omega,by omega,by omega⟩,aP]
 simp [nI]
end Go.Ab
namespace Go.Ab
open Go
def plc (I c r x:Nat):Nat := (r / I*c+x)*I+r % I
def rwO (I c j:Nat):Nat := j / (I*c)*I+j % I
def vlO (I c j:Nat):Nat := j / I % c
section
variable {I c:Nat} (hI:0 < I) (hc:0 < c)
include hI hc
theorem Qwf {r x:Nat}:plc I c r x / I=r / I*c+x:=by
 unfold plc
 rw [cH,Nat.mul_add_div hI,Nat.div_eq_of_lt (cD _ hI),dY]
theorem Q3q {r x:Nat}:plc I c r x % I=r % I:=by
 unfold plc
 rw [cH,Nat.mul_add_mod,Nat.mod_mod]
theorem Qzd {r x:Nat} (hx:x < c):vlO I c (plc I c r x)=x:=by
 unfold vlO
 rw [Qwf hI hc,cH,Nat.mul_add_mod,Nat.mod_eq_of_lt hx]
theorem Qyt {r x:Nat} (hx:x < c):rwO I c (plc I c r x)=r:=by
 unfold rwO
 rw [Q3q hI hc,<-Nat.div_div_eq_div_mul,Qwf hI hc,cH (r / I) c,Nat.mul_add_div hc,Nat.div_eq_of_lt hx,dY,cH]
 exact dI r I
theorem Q5i {j:Nat}:plc I c (rwO I c j) (vlO I c j)=j:=by
 have h1:rwO I c j / I=j / (I*c):=by
  unfold rwO
  rw [cH,Nat.mul_add_div hI,Nat.div_eq_of_lt (cD _ hI),dY]
 have h2:rwO I c j % I=j % I:=by
  unfold rwO
  rw [cH,Nat.mul_add_mod,Nat.mod_mod]
 unfold plc
 rw [h1,h2,<-Nat.div_div_eq_div_mul]
 unfold vlO
 rw [cH (j / I / c) c,dI,cH]
 exact dI j I
theorem Q7g {H j:Nat} (hj:j < H*I*c):rwO I c j < H*I:=by
 have h1:j / (I*c) < H:=(cE (Nat.mul_pos hI hc)).2 (by rw [<-Nat.mul_assoc]; exact hj)
 have h2:=cD j hI
 unfold rwO
 have:(j / (I*c)+1)*I<=H*I:=aR _ h1
 rw [dO] at this
 omega
theorem Q40 {H r x:Nat} (hr:r < H*I) (hx:x < c):plc I c r x < H*I*c:=by
 have h1:r / I < H:=(cE hI).2 hr
 have h2:=cD r hI
 unfold plc
 have h3:(r / I+1)*c<=H*c:=aR _ h1
 rw [dO] at h3
 have h4:(r / I*c+x+1)*I<=H*c*I:=aR _ (by omega)
 rw [dO] at h4
 have h5:H*c*I=H*I*c:=Nat.mul_right_comm _ _ _
 omega
end
theorem Q4q {f:Nat -> Nat} {l:List Nat}:lprod f l=ix.lprodR f l:=by
 have:∀(l:List Nat) (r:Nat),l.foldl (fun r p=>r*f p) r=r*ix.lprodR f l:=fun l=>by
  induction l with
  | nil=>intro r; simp [ix.lprodR]
  | cons p l ih=>intro r; simp only [List.foldl_cons,ih,ix.lprodR,Nat.mul_assoc]
 unfold lprod
 rw [this,Nat.one_mul]
theorem Ji {f:Nat -> Nat}:∀{a b:List Nat},ix.lprodR f (a++b)=ix.lprodR f a*ix.lprodR f b
 | [],b=>by simp [ix.lprodR]
 | p::a,b=>by simp only [dF,ix.lprodR,Ji (a:=a),Nat.mul_assoc]
theorem Qjj {f:Nat -> Nat}:∀{l:List Nat},(∀p∈l,1<=f p)->1<=ix.lprodR f l
 | [],_=>aY _
 | p::l,h=>Nat.mul_pos (h p (by simp)) (Qjj fun q hq=>h q (by simp [hq]))
theorem Qlh {c w:Nat -> Nat}:∀{a b:List Nat},ix c w (a++b)=ix c w a*ix.lprodR c b+ix c w b
 | [],b=>by simp [ix]
 | p::a,b=>by
  simp only [dF,ix,Qlh (a:=a),Ji]
  rw [dQ,Nat.mul_assoc,cF]
theorem Qsn {c w:Nat -> Nat}:∀{l:List Nat},(∀p∈l,w p < c p)->ix c w l < ix.lprodR c l
 | [],_=>by simp [ix,ix.lprodR]
 | p::l,h=>by
  have h1:=h p (by simp)
  have h2:=Qsn (l:=l) fun q hq=>h q (by simp [hq])
  simp only [ix,ix.lprodR]
  have:(w p+1)*ix.lprodR c l<=c p*ix.lprodR c l:=aR _ h1
  rw [dO] at this
  omega
theorem Q4z {c w:Nat -> Nat} {hi lo:List Nat} {v:Nat} (hlo:∀p∈lo,w p < c p) (hpos:∀p∈lo,1<=c p) (hv:w v < c v) :
  rwO (ix.lprodR c lo) (c v) (ix c w (hi++v::lo))=ix c w (hi++lo)/\vlO (ix.lprodR c lo) (c v) (ix c w (hi++v::lo))=w v:=by
 have hI:=Qjj hpos
 have hc:0 < c v:=by omega
 have h1:=Qsn hlo
 have e:ix c w (hi++v::lo)=plc (ix.lprodR c lo) (c v) (ix c w (hi++lo)) (w v):=by
  unfold plc
  rw [Qlh,Qlh]
  have d1:(ix c w hi*ix.lprodR c lo+ix c w lo) / ix.lprodR c lo=ix c w hi:=by rw [cH,Nat.mul_add_div hI,Nat.div_eq_of_lt h1,dY]
  have d2:(ix c w hi*ix.lprodR c lo+ix c w lo) % ix.lprodR c lo=ix c w lo:=by rw [cH,Nat.mul_add_mod,Nat.mod_eq_of_lt h1]
  rw [d1,d2]
  simp only [ix,ix.lprodR]
  rw [dQ,Nat.mul_assoc,cF]
 rw [e]
 exact ⟨Qyt hI hc hv,Qzd hI hc hv⟩
end Go.Ab
namespace Go.Ab
open Go
theorem Q13 {l:List Int} (h:l.length<=1000):Zv l=some l:=by
 cases l with
 | nil=>rfl
 | cons c d =>
  show Yu c d=_
  unfold Yu
  rw [aH (by simp at h ⊢; omega)]
theorem Qej {f:Nat -> Nat} {l:List Nat} (h:∀p∈l,f p<=4) (hl:l.length<=9):ix.lprodR f l<=262144:=by
 refine bT (Qyj h) ?_
 exact bT (aT (by omega) hl) (by decide)
section
variable {D:NF}
theorem Q5z (V:VN D) {vars:List Nat} (hvars:∀p∈vars,p < D.n) (hl:vars.length<=9) {pos:Nat} {sets o:List Int} {b:Bool} :
  Qc fuel (Xy (nI vars) ⟨D.net,Qo D.n D.card,sets,o⟩ ((pos:Int),b)) (0,1,[])=some ((ix.lprodR D.card (vars.drop (pos+1)):Int),nI (vars.map D.card)):=by
 have hr:=Z7 (n:=vars.length) (k0:=0) (by omega) (by omega) (fun i (t:Int × List Int)=>(i,t.1,t.2)) (body:=Xy (nI vars) ⟨D.net,Qo D.n D.card,sets,o⟩ ((pos:Int),b))
  (fun k=>((ix.lprodR D.card ((vars.take k).drop (pos+1)):Int),nI ((vars.take k).map D.card))) ((ix.lprodR D.card (vars.drop (pos+1)):Int),nI (vars.map D.card))
  (fun k _ hk=>by
   have hp:=hvars _ (bH hk)
   have hc:=V.card _ hp
   have htk:vars.take (k+1)=vars.take k++[vars[k]]:=(List.take_append_getElem hk).symm
   have hcards:nI ((vars.take k).map D.card)++[(D.card vars[k]:Int)]=nI ((vars.take (k+1)).map D.card):=by
    rw [htk,cS]; unfold nI; rw [cS]; rfl
   have hb:ix.lprodR D.card ((vars.take (k+1)).drop (pos+1))<=262144:=Qej (fun p hp=>(V.card p (hvars p (bF (bJ hp)))).2) (by simp; omega)
   unfold Xy
   dsimp only
   rw [Qcw,aH (dlt hk),Qm8 hk,aC,Zn hp,aC,aH (by simp [nI]; omega),hcards]
   by_cases c:k > pos
   ·have e:ix.lprodR D.card ((vars.take (k+1)).drop (pos+1))=ix.lprodR D.card ((vars.take k).drop (pos+1))*D.card vars[k]:=by
     rw [htk,List.drop_append_of_le_length (by simp; omega),Ji]
     simp [ix.lprodR]
    rw [aH (by rw [aN]; omega),<-Int.natCast_mul,<-e,w64 (n:=((ix.lprodR D.card ((vars.take (k+1)).drop (pos+1)):Nat):Int)) (by omega)]
   have e:(vars.take (k+1)).drop (pos+1)=(vars.take k).drop (pos+1):=by
    rw [List.drop_of_length_le (by simp; omega),List.drop_of_length_le (by simp; omega)]
   rw [aI (by rw [aN]; omega),e])
  (by unfold Xy; dsimp only; rw [Qcw,aI (nlt _),List.take_length])
 rw [List.take_zero,List.drop_nil] at hr
 exact hr
def Qh2 (D:NF) (v I:Nat) (j:Nat):Int:=(D.W v (rwO I (D.card v) j) (vlO I (D.card v) j):Int)
def Qde (D:NF) (v I r x:Nat) (j:Nat):Int:=if rwO I (D.card v) j < r\/(rwO I (D.card v) j=r/\vlO I (D.card v) j < x) then Qh2 D v I j else 0
theorem Q6s (V:VN D) {v I H r:Nat} {cs:List Int} {W0:List Int} (hv:v < D.n) (hI:0 < I) (hr:r < H*I) (hb:H*I<=262144) :
  Qc fuel (X3 (Qb (D.card v) fun x=>(D.W v r x:Int)) ((I:Int),cs) ((r:Int),W0) (D.node v)) (0,Qb (H*I*D.card v) (Qde D v I r 0))=some (Qb (H*I*D.card v) (Qde D v I (r+1) 0)):=by
 have hc:=V.card v hv
 have hc0:0 < D.card v:=by omega
 have hbc:H*I*D.card v<=262144*4:=Nat.mul_le_mul hb hc.2
 have hrn:=Z7 (n:=D.card v) (k0:=0) (by omega) (by omega) (fun i (t:List Int)=>(i,t)) (body:=X3 (Qb (D.card v) fun x=>(D.W v r x:Int)) ((I:Int),cs) ((r:Int),W0) (D.node v)) (fun x=>Qb (H*I*D.card v) (Qde D v I r x)) (Qb (H*I*D.card v) (Qde D v I (r+1) 0))
  (fun x _ hx=>by
   have hpl:=Q40 hI hc0 hr hx
   have hle:=Nat.div_le_self r I
   have e1:zw ((zw ((zw ((zw ((zw (Int.tdiv (r:Int) (I:Int)))*(D.node v).Card))+(x:Int)))*(I:Int)))+(Int.tmod (r:Int) (I:Int)))=((plc I (D.card v) r x:Nat):Int):=by
    have d1:Int.tdiv (r:Int) (I:Int)=((r / I:Nat):Int):=by rw [Int.tdiv_eq_ediv_of_nonneg (by omega),<-Int.natCast_ediv]
    have d2:Int.tmod (r:Int) (I:Int)=((r % I:Nat):Int):=by rw [Kw (by omega),<-Int.natCast_emod]
    have m1:r / I*D.card v<=262144*4:=Nat.mul_le_mul (by omega) hc.2
    have m2:(r / I*D.card v+x)*I<=262144*4:=by unfold plc at hpl; omega
    rw [d1,d2,show (D.node v).Card=(D.card v:Int) from rfl,w64 (n:=((r / I:Nat):Int)) (by generalize r / I=q at *; omega),<-Int.natCast_mul,w64 (n:=((r / I*D.card v:Nat):Int)) (by generalize r / I*D.card v=q at *; omega),<-Int.natCast_add,
     w64 (n:=((r / I*D.card v+x:Nat):Int)) (by generalize r / I*D.card v=q at *; omega),<-Int.natCast_mul,w64 (n:=(((r / I*D.card v+x)*I:Nat):Int)) (by generalize (r / I*D.card v+x)*I=q at *; omega),<-Int.natCast_add]
    rw [show (r / I*D.card v+x)*I+r % I=plc I (D.card v) r x from rfl]
    exact w64 (by omega)
   have hset:(Qb (H*I*D.card v) (Qde D v I r x)).set (plc I (D.card v) r x) (D.W v r x:Int)=Qb (H*I*D.card v) (Qde D v I r (x+1)):=by
    rw [Xg]
    refine Qh fun j hj=>?_
    by_cases e:j=plc I (D.card v) r x
    ·subst e
     rw [aH rfl]
     unfold Qde Qh2
     rw [Qyt hI hc0 hx,Qzd hI hc0 hx,aH (.inr ⟨rfl,by omega⟩)]
    rw [aI e]
    have hne:¬ (rwO I (D.card v) j=r/\vlO I (D.card v) j=x):=fun h=>e (by rw [<-Q5i hI hc0 (j:=j),h.1,h.2])
    unfold Qde
    by_cases c:rwO I (D.card v) j < r\/(rwO I (D.card v) j=r/\vlO I (D.card v) j < x)
    ·rw [aH c,aH (c.imp id fun h=>⟨h.1,by omega⟩)]
    rw [aI c,aI (fun h=>c (h.imp id fun h=>⟨h.1,by
     have:vlO I (D.card v) j≠x:=fun hx=>hne ⟨h.1,hx⟩
     omega⟩))]
   unfold X3
   dsimp only
   rw [Qm,aH (dlt hx),show lkI (Qb (D.card v) fun x=>(D.W v r x:Int)) (x:Int)=some (D.W v r x:Int) from Qx hx,aC,aH (by omega),aH (by omega),e1,
    show lkI (Qb (H*I*D.card v) (Qde D v I r x)) ((plc I (D.card v) r x:Nat):Int)=some _ from Qx hpl,aC,aC,aP,hset])
  (by
   unfold X3
   dsimp only
   rw [Qm,aI (nlt _)]
   refine congrArg (fun l=>some (Qg.done l)) (Qh fun j hj=>?_)
   have hvl:vlO I (D.card v) j < D.card v:=cD _ hc0
   unfold Qde
   by_cases c:rwO I (D.card v) j < r+1
   ·rw [aH (by omega),aH (.inl c)]
   rw [aI (by omega),aI (by omega)])
 exact hrn
theorem Q63 (V:VN D) {v I H:Nat} {cs:List Int} (hv:v < D.n) (hI:0 < I) (hrow:D.rows v=H*I) (hb:H*I<=262144) :
  Qc fuel (X2 (D.node v) ((I:Int),cs)) (0,Qb (H*I*D.card v) fun _=>0)=some (Qb (H*I*D.card v) (Qh2 D v I)):=by
 have hc:=V.card v hv
 have hrows:(D.node v).Rows=Qb (D.rows v) fun r=>Qb (D.card v) fun x=>(D.W v r x:Int):=rfl
 have hrn:=Z7 (n:=D.rows v) (k0:=0) (by omega) (by omega) (fun i (t:List Int)=>(i,t)) (body:=X2 (D.node v) ((I:Int),cs)) (fun r=>Qb (H*I*D.card v) (Qde D v I r 0)) (Qb (H*I*D.card v) (Qh2 D v I))
  (fun r _ hr=>by
   unfold X2
   dsimp only
   rw [hrows,Qm,aH (dlt hr),show lkI (Qb (D.rows v) fun r=>Qb (D.card v) fun x=>(D.W v r x:Int)) (r:Int)=some (Qb (D.card v) fun x=>(D.W v r x:Int)) from Qx hr,aC]
   exact Zk (Q6s V hv hI (by omega) hb) rfl)
  (by
   unfold X2
   dsimp only
   rw [hrows,Qm,aI (nlt _)]
   refine congrArg (fun l=>some (Qg.done l)) (Qh fun j hj=>?_)
   have:=Q7g hI (show 0 < D.card v by omega) hj
   unfold Qde
   rw [aH (.inl (by omega))])
 have e0:(Qb (H*I*D.card v) fun _=>(0:Int))=Qb (H*I*D.card v) (Qde D v I 0 0):=Qh fun j _=>by
  unfold Qde; rw [aI (by omega)]
 rw [e0]; exact hrn
theorem Q0g (X:VX D) {v:Nat} (hv:v < D.n) {sets o:List Int}:∃hi lo:List Nat,D.par v=hi++lo /\
  Yo ⟨D.net,Qo D.n D.card,sets,o⟩ (v:Int)=some ⟨nI (hi++v::lo),nI ((hi++v::lo).map D.card),Qb (ix.lprodR D.card hi*ix.lprodR D.card lo*D.card v) (Qh2 D v (ix.lprodR D.card lo))⟩:=by
 have V:=X.vn
 have hc:=V.card v hv
 have hlen:(D.par v).length<=8:=V.len v hv
 obtain ⟨pos,hbs,hp,_,_⟩:=Q7x (X.sorted v hv) hlen (X.self v hv)
 have hsplit:D.par v=(D.par v).take pos++(D.par v).drop pos:=(List.take_append_drop pos _).symm
 refine ⟨(D.par v).take pos,(D.par v).drop pos,hsplit,?_⟩
 have hmem:∀p∈(D.par v).take pos++v::(D.par v).drop pos,p < D.n:=fun p hp=>by
  simp only [bQ,bY] at hp
  rcases hp with h | rfl | h
  ·exact V.par v hv p (bF h)
  ·exact hv
  exact V.par v hv p (bJ h)
 have hvl:((D.par v).take pos++v::(D.par v).drop pos).length<=9:=by simp; omega
 have hdrop:((D.par v).take pos++v::(D.par v).drop pos).drop (pos+1)=(D.par v).drop pos:=by
  rw [List.drop_append,List.drop_of_length_le (by simp; omega)]
  simp [cO,Nat.min_eq_left hp]
 have hI:0 < ix.lprodR D.card ((D.par v).drop pos):=Qjj fun p hp=>(V.card p (V.par v hv p (bJ hp))).1
 have hrow:D.rows v=ix.lprodR D.card ((D.par v).take pos)*ix.lprodR D.card ((D.par v).drop pos):=by
  unfold NF.rows
  rw [Q4q,<-Ji,<-hsplit]
 have hb:ix.lprodR D.card ((D.par v).take pos)*ix.lprodR D.card ((D.par v).drop pos)<=262144:=by
  rw [<-Ji,<-hsplit]
  exact Qej (fun p hp=>(V.card p (V.par v hv p hp)).2) (by omega)
 have hbc:ix.lprodR D.card ((D.par v).take pos)*ix.lprodR D.card ((D.par v).drop pos)*D.card v<=262144*4:=Nat.mul_le_mul hb hc.2
 have hpar:(D.node v).Parents=nI (D.par v):=rfl
 have hrl:((D.node v).Rows.length:Int)=((ix.lprodR D.card ((D.par v).take pos)*ix.lprodR D.card ((D.par v).drop pos):Nat):Int):=by
  rw [<-hrow]
  show ((Qb (D.rows v) fun r=>Qb (D.card v) fun x=>(D.W v r x:Int)).length:Int)=_
  rw [Qm]
 have hsz:zw (((D.node v).Rows.length:Int)*(D.node v).Card)=((ix.lprodR D.card ((D.par v).take pos)*ix.lprodR D.card ((D.par v).drop pos)*D.card v:Nat):Int):=by
  rw [hrl,show (D.node v).Card=(D.card v:Int) from rfl,<-Int.natCast_mul]
  exact w64 (by omega)
 unfold Yo
 rw [V.node hv,aC,hpar,hbs,aC,Q13 (by rw [Qcw]; omega),aC]
 dsimp only
 rw [Q5w hlen hp,aC,Q5z V hmem hvl,aC,hdrop,hsz,aH (by omega),aP,show List.replicate (ix.lprodR D.card ((D.par v).take pos)*ix.lprodR D.card ((D.par v).drop pos)*D.card v) (0:Int)=Qb (ix.lprodR D.card ((D.par v).take pos)*ix.lprodR D.card ((D.par v).drop pos)*D.card v) fun _=>0 from V8 _ _]
 exact Zk (Q63 V hv hI hrow hb) rfl
end
end Go.Ab
namespace Go.Ab
open Go
section
variable {D:NF}
structure Vs (D:NF) (hi lo:Nat -> List Nat):Prop where
 par:∀v,v < D.n->D.par v=hi v++lo v
def vsF (hi lo:Nat -> List Nat) (v:Nat):List Nat := hi v++v::lo v
def fct (D:NF) (hi lo:Nat -> List Nat) (v:Nat):Qw:=⟨nI (vsF hi lo v),nI ((vsF hi lo v).map D.card),Qb (ix.lprodR D.card (hi v)*ix.lprodR D.card (lo v)*D.card v) (Qh2 D v (ix.lprodR D.card (lo v)))⟩
theorem Qx7 (X:VX D):∃hi lo:Nat -> List Nat,Vs D hi lo/\Qbx D.net=some (Qb D.n (fct D hi lo),0):=by
 have V:=X.vn
 have hn8:=V.n8
 have hlen:D.net.Nodes.length=D.n:=Qm
 obtain ⟨o,hr⟩:=Qi0 X
 have hch:∀v,∃q:List Nat × List Nat,v < D.n->D.par v=q.1++q.2/\Yo ⟨D.net,Qo D.n D.card,Qo D.n (setN D),o⟩ (v:Int)=some ⟨nI (q.1++v::q.2),nI ((q.1++v::q.2).map D.card),Qb (ix.lprodR D.card q.1*ix.lprodR D.card q.2*D.card v) (Qh2 D v (ix.lprodR D.card q.2))⟩:=fun v=>by
  by_cases hv:v < D.n
  ·obtain ⟨hi,lo,h1,h2⟩:=Q0g X hv (sets:=Qo D.n (setN D)) (o:=o)
   exact ⟨(hi,lo),fun _=>⟨h1,h2⟩⟩
  exact ⟨([],[]),fun h=>absurd h hv⟩
 refine ⟨fun v=>(Classical.choose (hch v)).1,fun v=>(Classical.choose (hch v)).2,⟨fun v hv=>(Classical.choose_spec (hch v) hv).1⟩,?_⟩
 have hz:List.replicate (Int.toNat (D.n:Int)) ((Qw.mk [] [] []):Qw)=Qb D.n fun _=>Qw.mk [] [] []:=by rw [aP]; exact V8 _ _
 have hrn:=Z7 (n:=D.n) (k0:=0) (by omega) (by omega) (fun i (t:List Qw)=>(i,t)) (body:=Kt (⟨D.net,Qo D.n D.card,Qo D.n (setN D),o⟩,0))
  (fun k=>Qb D.n fun v=>if v < k then fct D (fun v=>(Classical.choose (hch v)).1) (fun v=>(Classical.choose (hch v)).2) v else Qw.mk [] [] []) (Qb D.n (fct D (fun v=>(Classical.choose (hch v)).1) (fun v=>(Classical.choose (hch v)).2)))
  (fun k _ hk=>by
   unfold Kt
   dsimp only
   rw [hlen,hz,Qm,aH (dlt hk),(Classical.choose_spec (hch k) hk).2,aC,Qx hk,aC,aP,Xg]
   refine congrArg (fun l=>some (Qg.next (zw ((k:Int)+1),l))) (Qh fun j _=>?_)
   by_cases e:j=k
   ·subst e; rw [aH rfl,aH (by omega)]; rfl
   rw [aI e]
   by_cases e2:j < k
   ·rw [aH e2,aH (by omega)]
   rw [aI e2,aI (by omega)])
  (by
   unfold Kt
   dsimp only
   rw [hlen,hz,Qm,aI (nlt _)]
   exact congrArg (fun l=>some (Qg.done l)) (Qh fun j hj=>by rw [aH hj]))
 have e0:(Qb D.n fun _=>Qw.mk [] [] [])=Qb D.n fun v=>if v < 0 then fct D (fun v=>(Classical.choose (hch v)).1) (fun v=>(Classical.choose (hch v)).2) v else Qw.mk [] [] []:=Qh fun j _=>by rw [aI (by omega)]
 unfold Qbx
 rw [hr,aC]
 dsimp only
 rw [aI (by decide),hlen,aH (by omega),hz,e0]
 exact Zk hrn rfl
def spn (c:Nat -> Nat):List Nat -> Nat -> Nat
 | [],_=>0
 | q::l,p=>if q=p then ix.lprodR c l else spn c l p
def stL (D:NF) (hi lo:Nat -> List Nat) (f k:Nat):List (List Int):=Qb D.n fun g=>if g < f then Qo D.n (spn D.card (vsF hi lo g)) else if g=f then Qo D.n (spn D.card ((vsF hi lo f).drop k)) else []
theorem Qin (V:VN D) {hi lo:Nat -> List Nat} (S:Vs D hi lo) {v p:Nat} (hv:v < D.n) (hp:p∈vsF hi lo v):p < D.n:=by
 unfold vsF at hp
 simp only [bQ,bY] at hp
 have h:=S.par v hv
 rcases hp with h1 | rfl | h1
 ·exact V.par v hv p (by rw [h]; simp [h1])
 ·exact hv
 exact V.par v hv p (by rw [h]; simp [h1])
theorem Qui (V:VN D) {hi lo:Nat -> List Nat} (S:Vs D hi lo) {v:Nat} (hv:v < D.n):(vsF hi lo v).length<=9:=by
 have h:=V.len v hv
 rw [S.par v hv,aO] at h
 unfold vsF
 simp only [aO,dC]
 omega
theorem Q60 (V:VN D) {hi lo:Nat -> List Nat} (S:Vs D hi lo) {f:Nat} (hf:f < D.n) {L0:List (List Int)} :
  Qc fuel (Qa7 ((f:Int),L0) (fct D hi lo f)) (1,((vsF hi lo f).length:Int) - 1,stL D hi lo f (vsF hi lo f).length)=some (stL D hi lo f 0):=by
 have hl9:=Qui V S hf
 have hsp:=Vx (body:=Qa7 ((f:Int),L0) (fct D hi lo f)) (fun s=>∃k,k<=(vsF hi lo f).length/\s=((ix.lprodR D.card ((vsF hi lo f).drop k):Int),(k:Int) - 1,stL D hi lo f k))
  (fun s=>(s.2.1+1).toNat) (fun r=>r=stL D hi lo f 0)
  (fun s hs=>by
   obtain ⟨k,hk,rfl⟩:=hs
   unfold Qa7
   dsimp only
   cases k with
   | zero=>right; rw [aI (by simp)]; exact ⟨_,rfl,rfl⟩
   | succ k =>
    left
    have hp:=Qin V S hf (bH (l:=vsF hi lo f) (n:=k) (by omega))
    have hc:=V.card _ hp
    have hdr:(vsF hi lo f).drop k=(vsF hi lo f)[k]::(vsF hi lo f).drop (k+1):=(dX (by omega))
    have hb:ix.lprodR D.card ((vsF hi lo f).drop k)<=262144:=Qej (fun p hp=>(V.card p (Qin V S hf (bJ hp))).2) (by simp; omega)
    have hg:lkI (stL D hi lo f (k+1)) (f:Int)=some (Qo D.n (spn D.card ((vsF hi lo f).drop (k+1)))):=by
     have:lkI (stL D hi lo f (k+1)) (f:Int)=some _:=Qx hf
     rw [this,aI (by omega),aH rfl]
    have hcard:lkI (fct D hi lo f).Cards (k:Int)=some (D.card (vsF hi lo f)[k]:Int):=by
     show lkI (nI ((vsF hi lo f).map D.card)) (k:Int)=_
     rw [Qm8 (by simp; omega)]; simp
    have hset:(stL D hi lo f (k+1)).set f ((Qo D.n (spn D.card ((vsF hi lo f).drop (k+1)))).set (vsF hi lo f)[k] (ix.lprodR D.card ((vsF hi lo f).drop (k+1)):Int))=stL D hi lo f k:=by
     unfold stL
     rw [Qap,Xg]
     refine Qh fun g _=>?_
     by_cases e:g=f
     ·subst e
      rw [aH rfl,aI (by omega),aH rfl,hdr]
      refine Qh fun p _=>congrArg Nat.cast ?_
      unfold Zs
      simp only [spn]
      by_cases e2:p=(vsF hi lo g)[k]
      ·rw [aH e2,aH e2.symm]
      rw [aI e2,aI (fun h=>e2 h.symm)]
     rw [aI e]
     by_cases e2:g < f
     ·rw [aH e2,aH e2]
     rw [aI e2,aI e2,aI e,aI e]
    rw [show ((k+1:Nat):Int) - 1=(k:Int) by omega,aH (by simp),hg,aC,show (fct D hi lo f).Vars=nI (vsF hi lo f) from rfl,Qm8 (by omega),aC,Zn hp,aC,hcard,aC,aP,aP,hset]
    refine ⟨_,rfl,⟨k,by omega,?_⟩,?_⟩
    ·have e:ix.lprodR D.card ((vsF hi lo f).drop (k+1))*D.card (vsF hi lo f)[k]=ix.lprodR D.card ((vsF hi lo f).drop k):=by rw [hdr]; simp only [ix.lprodR]; exact cH _ _
     rw [<-Int.natCast_mul,e,w64 (n:=((ix.lprodR D.card ((vsF hi lo f).drop k):Nat):Int)) (by omega),w64 (n:=(k:Int) - 1) (by omega)]
    dsimp only; rw [w64 (n:=(k:Int) - 1) (by omega)]; omega)
  fuel (1,((vsF hi lo f).length:Int) - 1,stL D hi lo f (vsF hi lo f).length) ⟨_,aY _,by rw [List.drop_length]; rfl⟩ (by unfold fuel; simp; omega)
 obtain ⟨r,h1,rfl⟩:=hsp
 exact h1
end
end Go.Ab
namespace Go.Ab
open Go
section
variable {D:NF}
def stF (D:NF) (hi lo:Nat -> List Nat):List (List Int):=Qb D.n fun g=>Qo D.n (spn D.card (vsF hi lo g))
def qst (D:NF) (hi lo:Nat -> List Nat):Qv:=⟨D.net,Qb D.n (fct D hi lo),stF D hi lo⟩
theorem Q6d (V:VN D) {hi lo:Nat -> List Nat} (S:Vs D hi lo) {e:Int}:Qc fuel (Kg (Qb D.n (fct D hi lo),e) D.net) (0,List.replicate (Int.toNat (D.n:Int)) ([]:List Int))=some (stF D hi lo):=by
 have hn8:=V.n8
 have hlen:D.net.Nodes.length=D.n:=Qm
 have hrn:=Z7 (n:=D.n) (k0:=0) (by omega) (by omega) (fun i (t:List (List Int))=>(i,t)) (body:=Kg (Qb D.n (fct D hi lo),e) D.net) (fun f=>Qb D.n fun g=>if g < f then Qo D.n (spn D.card (vsF hi lo g)) else []) (stF D hi lo)
  (fun f _ hf=>by
   have hl9:=Qui V S hf
   have hset:(Qb D.n fun g=>if g < f then Qo D.n (spn D.card (vsF hi lo g)) else []).set f (Qo D.n fun _=>0)=stL D hi lo f (vsF hi lo f).length:=by
    unfold stL
    rw [Xg]
    refine Qh fun g _=>?_
    by_cases e:g=f
    ·subst e; rw [aH rfl,aI (by omega),aH rfl,List.drop_length]; rfl
    rw [aI e]
    by_cases e2:g < f
    ·rw [aH e2,aH e2]
    rw [aI e2,aI e2,aI e]
   have hend:stL D hi lo f 0=Qb D.n fun g=>if g < f+1 then Qo D.n (spn D.card (vsF hi lo g)) else []:=Qh fun g _=>by
    by_cases e2:g < f
    ·rw [aH e2,aH (by omega)]
    rw [aI e2]
    by_cases e:g=f
    ·subst e; rw [aH rfl,aH (by omega),List.drop_zero]
    rw [aI e,aI (by omega)]
   have hv:(fct D hi lo f).Vars=nI (vsF hi lo f):=rfl
   unfold Kg
   dsimp only
   rw [Qm,aH (dlt hf),Qx hf,aC,hlen,aH (by omega),Qx hf,aC,hv,Qcw,w64 (n:=((vsF hi lo f).length:Int) - 1) (by omega),aP,Qm9,hset]
   refine Zk (Q60 V S hf) ?_
   rw [hend])
  (by
   unfold Kg
   dsimp only
   rw [Qm,aI (nlt _)]
   exact congrArg (fun l=>some (Qg.done l)) (Qh fun j hj=>by rw [aH hj]))
 have e0:List.replicate (Int.toNat (D.n:Int)) ([]:List Int)=Qb D.n fun g=>if g < 0 then Qo D.n (spn D.card (vsF hi lo g)) else []:=by
  rw [aP,V8]; exact Qh fun g _=>by rw [aI (by omega)]
 rw [e0]; exact hrn
def pix (D:NF) (hi lo:Nat -> List Nat) (v:Nat) (w:Nat -> Nat):Nat := ix D.card w (vsF hi lo v)
theorem Q0p {c:Nat -> Nat}:∀{l:List Nat} {k:Nat} (h:k < l.length),l.Nodup->spn c l l[k]=ix.lprodR c (l.drop (k+1))
 | q::l,0,_,_=>by simp [spn]
 | q::l,k+1,h,hn=>by
  have hn':=List.nodup_cons.1 hn
  have hk:k < l.length:=by simpa using h
  simp only [List.getElem_cons_succ,spn,List.drop_succ_cons]
  rw [aI (show ¬ q=l[k] from fun e=>hn'.1 (by rw [e]; exact bH hk))]
  exact Q0p hk hn'.2
theorem Qvq {c w:Nat -> Nat} {l:List Nat} {k:Nat} (h:k < l.length):ix c w (l.drop k)=w l[k]*ix.lprodR c (l.drop (k+1))+ix c w (l.drop (k+1)):=by
 rw [dX h]; rfl
theorem Q5f (V:VN D) {hi lo:Nat -> List Nat} (S:Vs D hi lo) (hnd:∀v,v < D.n->(vsF hi lo v).Nodup) {w:Nat -> Nat} (hw:D.ok w) {f:Nat} (hf:f < D.n) {t:Int} :
  Qc fuel (Xd (fct D hi lo f) (Qo D.n w) (qst D hi lo) (t,(f:Int))) (0,0)=some (pix D hi lo f w:Int):=by
 have hl9:=Qui V S hf
 have hix:∀k,ix D.card w ((vsF hi lo f).drop k)<=262144:=fun k=>by
  have h1:=Qsn (c:=D.card) (w:=w) (l:=(vsF hi lo f).drop k) fun p hp=>hw p (Qin V S hf (bJ hp))
  have h2:ix.lprodR D.card ((vsF hi lo f).drop k)<=262144:=Qej (fun p hp=>(V.card p (Qin V S hf (bJ hp))).2) (by simp; omega)
  omega
 have h0:=hix 0
 rw [List.drop_zero] at h0
 have hmon:∀k,k<=(vsF hi lo f).length->ix D.card w ((vsF hi lo f).drop k)<=ix D.card w (vsF hi lo f):=fun k=>by
  induction k with
  | zero=>intro _; rw [List.drop_zero]; exact aY _
  | succ k ih =>
   intro hk
   have:=Qvq (c:=D.card) (w:=w) (l:=vsF hi lo f) (k:=k) (by omega)
   have:=ih (by omega)
   omega
 have hrn:=Z7 (n:=(vsF hi lo f).length) (k0:=0) (by omega) (by omega) (fun i (t:Int)=>(t,i)) (body:=Xd (fct D hi lo f) (Qo D.n w) (qst D hi lo) (t,(f:Int))) (fun k=>((ix D.card w (vsF hi lo f) - ix D.card w ((vsF hi lo f).drop k):Nat):Int)) (pix D hi lo f w:Int)
  (fun k _ hk=>by
   have hp:=Qin V S hf (bH (l:=vsF hi lo f) (n:=k) hk)
   have hst:lkI (qst D hi lo).steps (f:Int)=some (Qo D.n (spn D.card (vsF hi lo f))):=Qx hf
   have hd:=Qvq (c:=D.card) (w:=w) (l:=vsF hi lo f) (k:=k) hk
   have m1:=hmon k (by omega)
   have m2:=hmon (k+1) (by omega)
   have m3:=hix k
   have m4:=hix (k+1)
   unfold Xd
   dsimp only
   rw [show (fct D hi lo f).Vars=nI (vsF hi lo f) from rfl,Qcw,aH (dlt hk),Qm8 hk,aC,Zn hp,aC,hst,aC,Zn hp,aC,Q0p hk (hnd f hf),<-Int.natCast_mul]
   generalize w (vsF hi lo f)[k]*ix.lprodR D.card ((vsF hi lo f).drop (k+1))=z at *
   rw [w64 (n:=(z:Int)) (by omega),w64 (n:=((ix D.card w (vsF hi lo f) - ix D.card w ((vsF hi lo f).drop k):Nat):Int)+(z:Int)) (by omega)]
   refine congrArg (fun y:Int=>some (Qg.next (y,zw ((k:Int)+1)))) ?_
   omega)
  (by
   unfold Xd
   dsimp only
   rw [show (fct D hi lo f).Vars=nI (vsF hi lo f) from rfl,Qcw,aI (nlt _),List.drop_length]
   rfl)
 rw [List.drop_zero,Nat.sub_self] at hrn
 exact hrn
theorem Q2f (X:VX D) {hi lo:Nat -> List Nat} (S:Vs D hi lo) {v:Nat} (hv:v < D.n):(vsF hi lo v).Nodup:=by
 have h1:(hi v++lo v).Nodup:=by
  rw [<-S.par v hv]
  exact (X.sorted v hv).imp fun h=>Nat.ne_of_lt h
 have h2:v ∉ hi v++lo v:=by rw [<-S.par v hv]; exact X.self v hv
 unfold vsF
 rw [List.nodup_append] at h1 ⊢
 obtain ⟨a,b,c⟩:=h1
 simp only [bQ,not_or] at h2
 refine ⟨a,List.nodup_cons.2 ⟨h2.2,b⟩,fun x hx y hy=>?_⟩
 rcases bY.1 hy with rfl | hy
 ·exact fun e=>h2.1 (e ▸ hx)
 exact c x hx y hy
theorem Q1n (X:VX D) {hi lo:Nat -> List Nat} (S:Vs D hi lo) {w:Nat -> Nat} (hw:D.ok w) {v:Nat} (hv:v < D.n):Qh2 D v (ix.lprodR D.card (lo v)) (pix D hi lo v w)=(D.wt w v:Int):=by
 have V:=X.vn
 have hlo:∀p∈lo v,p < D.n:=fun p hp=>V.par v hv p (by rw [S.par v hv]; simp [hp])
 obtain ⟨e1,e2⟩:=Q4z (c:=D.card) (w:=w) (hi:=hi v) (lo:=lo v) (v:=v) (fun p hp=>hw p (hlo p hp)) (fun p hp=>(V.card p (hlo p hp)).1) (hw v hv)
 unfold Qh2 pix vsF
 rw [e1,e2]
 unfold NF.wt NF.idx
 rw [S.par v hv,Qyh]
theorem Q6q (X:VX D) {hi lo:Nat -> List Nat} (S:Vs D hi lo) {w:Nat -> Nat} (hw:D.ok w) {v:Nat} (hv:v < D.n):pix D hi lo v w < ix.lprodR D.card (hi v)*ix.lprodR D.card (lo v)*D.card v:=by
 have V:=X.vn
 have h:=Qsn (c:=D.card) (w:=w) (l:=vsF hi lo v) fun p hp=>hw p (Qin V S hv hp)
 have e:ix.lprodR D.card (vsF hi lo v)=ix.lprodR D.card (hi v)*ix.lprodR D.card (lo v)*D.card v:=by
  unfold vsF
  rw [Ji]
  simp only [ix.lprodR]
  rw [cH (D.card v),<-Nat.mul_assoc]
 rw [<-e]; exact h
theorem Qq6 (X:VX D) {hi lo:Nat -> List Nat} (S:Vs D hi lo) {w:Nat -> Nat} (hw:D.ok w):Xz (qst D hi lo) (Qo D.n w)=some (fS D 0 w):=by
 have V:=X.vn
 have hn8:=V.n8
 have hrn:=Z7 (n:=D.n) (k0:=0) (by omega) (by omega) (fun i (t:Int)=>(t,i)) (body:=Yc (qst D hi lo) (Qo D.n w)) (fun k=>(D.fr 0 w k:Int)) (fS D 0 w)
  (fun k _ hk=>by
   have hb:=V.fr_le (m:=0) hw (k:=k+1) (by omega)
   have hs:D.fr 0 w (k+1)=D.fr 0 w k*D.wt w k:=by
    show Qn k _*(if (0:Nat).testBit k=true then 1 else D.wt w k)=_
    rw [aI (by simp)]; rfl
   have hfac:lkI (qst D hi lo).factors (k:Int)=some (fct D hi lo k):=Qx hk
   have hW:lkI (fct D hi lo k).W (pix D hi lo k w:Int)=some (D.wt w k:Int):=by
    have:lkI (fct D hi lo k).W (pix D hi lo k w:Int)=some (Qh2 D k (ix.lprodR D.card (lo k)) (pix D hi lo k w)):=Qx (Q6q X S hw hk)
    rw [this,Q1n X S hw hk]
   unfold Yc
   dsimp only
   rw [show (qst D hi lo).factors=Qb D.n (fct D hi lo) from rfl,Qm,aH (dlt hk),Qx hk,aC,Q5f V S (fun v hv=>Q2f X S hv) hw hk,aC,hW,aC,<-Int.natCast_mul,<-hs,w64 (n:=((D.fr 0 w (k+1):Nat):Int)) (by omega)])
  (by
   unfold Yc
   dsimp only
   rw [show (qst D hi lo).factors=Qb D.n (fct D hi lo) from rfl,Qm,aI (nlt _)]; rfl)
 unfold Xz
 exact Zk hrn rfl
theorem Qy3 (X:VX D):∃hi lo:Nat -> List Nat,Vs D hi lo/\∀E,Yf D E->Qbf D.net [Qb D.n E]=some (qst D hi lo,0):=by
 have V:=X.vn
 have hn8:=V.n8
 have hlen:D.net.Nodes.length=D.n:=Qm
 obtain ⟨hi,lo,S,hf⟩:=Qx7 X
 refine ⟨hi,lo,S,fun E hE=>?_⟩
 have hc:Z0 D.net (Qb D.n E)=some 0:=by
  rcases Qvv X (Qb D.n E) with ⟨_,c⟩ | ⟨c,_⟩
  ·exact c
  refine absurd ⟨Qm,fun j hj=>?_⟩ c
  unfold evJ
  have e:((Qb D.n E)[j]?).getD 0=E j:=by unfold Qb; rw [bC,List.getElem?_range hj]; rfl
  rw [e]; exact hE j hj
 have hr:=Z7 (n:=1) (k0:=0) (by omega) (by omega) (fun i (_:Unit)=>i) (body:=Qa3 [Qb D.n E] D.net) (fun _=>()) (.inr ())
  (fun k _ hk=>by
   have:k=0:=by omega
   subst this
   unfold Qa3
   rw [aH (by simp),show lkI [Qb D.n E] ((0:Nat):Int)=some (Qb D.n E) from rfl,aC,hc,aC,aI (by decide)])
  (by unfold Qa3; rw [aI (by simp)])
 unfold Qbf
 rw [hf,aC]
 dsimp only
 rw [aI (by decide)]
 refine Zk hr ?_
 dsimp only
 rw [Qm,aH (by omega),Q6d V S,aC]; rfl
end
end Go.Ab
namespace Go.Ab
open Go
open Classical
def num (c w:Nat -> Nat):Nat -> Nat
 | 0=>0
 | n+1=>num c w n*c n+w n
def pd (c:Nat -> Nat):Nat -> Nat -> Nat -> Nat
 | 0,_,_=>0
 | n+1,k,j=>if j=n then k % c n else pd c n (k / c n) j
theorem Qrk {c w w':Nat -> Nat}:∀{n:Nat},(∀j,j < n->w j=w' j)->num c w n=num c w' n
 | 0,_=>rfl
 | n+1,h=>by unfold num; rw [Qrk fun j hj=>h j (by omega),h n (by omega)]
theorem Qte {c w:Nat -> Nat}:∀{n:Nat},(∀j,j < n->w j < c j)->num c w n < Qn n c
 | 0,_=>by simp [num,Qn]
 | n+1,h=>by
  have h1:=Qte (n:=n) fun j hj=>h j (by omega)
  have h2:=h n (by omega)
  unfold num Qn
  have:(num c w n+1)*c n<=Qn n c*c n:=aR _ h1
  rw [dO] at this
  omega
theorem Qps {c w:Nat -> Nat}:∀{n:Nat},(∀j,j < n->w j < c j)->∀j,j < n->pd c n (num c w n) j=w j
 | 0,_,j,hj=>by omega
 | n+1,h,j,hj=>by
  have h2:=h n (by omega)
  unfold pd num
  by_cases e:j=n
  ·subst e; rw [aH rfl,cH,Nat.mul_add_mod,Nat.mod_eq_of_lt h2]
  rw [aI e,cH,Nat.mul_add_div (by omega),Nat.div_eq_of_lt h2,dY]
  exact Qps (fun j hj=>h j (by omega)) j (by omega)
section
variable {D:NF} {m:Nat}
end
end Go.Ab
namespace Go.Ab
open Go
open Classical
section
variable {D:NF}
theorem Qnl {n:Nat} {w:Nat -> Nat} {E:Nat -> Int} (hn:n<=8) (hE:∀j,j < n->-1<=E j):Vg (Qo n w) (Qb n E)=some (decide (X1 n E 0 w)):=by
 by_cases h:X1 n E 0 w
 ·have hr:=Z7 (n:=n) (k0:=0) (by omega) (by omega) (fun i (_:Unit)=>i) (body:=Z6 (Qb n E) (Qo n w)) (fun _=>()) true
   (fun k _ hk=>by
    unfold Z6
    rw [Qm,aH (dlt hk),Qx hk,aC]
    rcases h k (dV _) hk with e | e
    ·rw [aH (by simp [e])]
    rw [aI (by rw [e]; simp),Zn hk,aC,aH (by simp [e])])
   (by unfold Z6; rw [Qm,aI (nlt n)])
  unfold Vg
  rw [cQ h]
  exact Zk hr rfl
 have hs:=Qq4 (n:=n) (by omega) (fun j=>okE E j (w j)) (fun i (_:Unit)=>i) (body:=Z6 (Qb n E) (Qo n w)) (fun _=>()) true false
  (fun k hk _ hg=>by
   unfold Z6
   rw [Qm,aH (dlt hk),Qx hk,aC]
   rcases hg with e | e
   ·rw [aH (by simp [e])]
   rw [aI (by rw [e]; simp),Zn hk,aC,aH (by simp [e])])
  (fun k hk _ hg=>by
   unfold okE at hg
   unfold Z6
   rw [Qm,aH (dlt hk),Qx hk,aC,aI (by simp; omega),Zn hk,aC,aI (by simp; omega)])
  (fun _=>by unfold Z6; rw [Qm,aI (nlt n)])
 rcases hs with ⟨hall,_⟩ | ⟨_,hr⟩
 ·exact absurd (fun j _ hj=>hall j hj) h
 unfold Vg
 rw [decide_eq_false h]
 exact Zk hr rfl
def zF (w:Nat -> Nat) (i:Nat) (j:Nat):Nat := if j < i then w j else 0
theorem Qsk (V:VN D) {w:Nat -> Nat} (hw:D.ok w) (body:Int × List Int->Option (Qg (Int × List Int) (Int × List Int)))
  (hb:∀s,body s=if (decide (s.1>=0))=true then (lkI s.2 s.1).bind fun a=>(lkI D.net.Nodes s.1).bind fun b=>if (a==(zw (b.Card - 1)))=true then some (.next (zw (s.1 - 1),List.set s.2 (Int.toNat s.1) 0)) else some (.done (s.1,s.2)) else some (.done (s.1,s.2))) :
  ∃i:Nat,i<=D.n/\Qc fuel body (zw (((Qo D.n w).length:Int) - 1),Qo D.n w)=some ((i:Int) - 1,Qo D.n (zF w i))/\(∀j,i<=j->j < D.n->w j+1=D.card j)/\(∀k,i=k+1->w k+1 < D.card k):=by
 have hn8:=V.n8
 have hs:=Vx (body:=body) (fun s=>∃i:Nat,i<=D.n/\(∀j,i<=j->j < D.n->w j+1=D.card j)/\s=((i:Int) - 1,Qo D.n (zF w i))) (fun s=>(s.1+1).toNat)
  (fun r=>∃i:Nat,i<=D.n/\r=((i:Int) - 1,Qo D.n (zF w i))/\(∀j,i<=j->j < D.n->w j+1=D.card j)/\(∀k,i=k+1->w k+1 < D.card k))
  (fun s hs=>by
   obtain ⟨i,hi,hf,rfl⟩:=hs
   rw [hb]
   dsimp only
   cases i with
   | zero=>right; rw [aI (by simp)]; exact ⟨_,rfl,0,hi,rfl,hf,fun k hk=>by omega⟩
   | succ i =>
    have hc:=V.card i (by omega)
    have hwi:=hw i (by omega)
    have hg:lkI (Qo D.n (zF w (i+1))) (i:Int)=some (w i:Int):=by
     rw [Zn (by omega)]; unfold zF; rw [aH (by omega)]
    rw [show ((i+1:Nat):Int) - 1=(i:Int) by omega,aH (by simp),hg,aC,V.node (by omega),aC,show (D.node i).Card=(D.card i:Int) from rfl,w64 (n:=(D.card i:Int) - 1) (by omega)]
    by_cases c:w i+1=D.card i
    ·left
     rw [aH (by rw [cY]; omega),aP,w64 (n:=(i:Int) - 1) (by omega)]
     refine ⟨_,rfl,⟨i,by omega,fun j h1 h2=>?_,?_⟩,by dsimp only; omega⟩
     ·by_cases e:j=i
      ·subst e; exact c
      exact hf j (by omega) h2
     have e:(Qo D.n (zF w (i+1))).set i 0=Qo D.n (zF w i):=by
      rw [show (0:Int)=((0:Nat):Int) from rfl,Qap]
      refine Qh fun j _=>congrArg Nat.cast ?_
      unfold Zs zF
      by_cases e:j=i
      ·subst e; rw [aH rfl,aI (by omega)]
      rw [aI e]
      by_cases e2:j < i
      ·rw [aH (by omega),aH e2]
      rw [aI (by omega),aI e2]
     rw [e]
    right
    rw [aI (by rw [cY]; omega)]
    exact ⟨_,rfl,i+1,hi,by rw [show ((i+1:Nat):Int) - 1=(i:Int) by omega],hf,fun k hk=>by
     have:k=i:=by omega
     subst this; omega⟩)
  fuel ((D.n:Int) - 1,Qo D.n (zF w D.n)) ⟨D.n,aY _,fun j h1 h2=>by omega,rfl⟩ (by unfold fuel; dsimp only; omega)
 have e0:Qo D.n w=Qo D.n (zF w D.n):=Qh fun j hj=>by
  show (w j:Int)=((zF w D.n j:Nat):Int)
  unfold zF; rw [aH hj]
 obtain ⟨r,h1,i,hi,rfl,h2,h3⟩:=hs
 refine ⟨i,hi,?_,h2,h3⟩
 rw [Kp,w64 (n:=(D.n:Int) - 1) (by omega),e0]
 exact h1
def tpr (c:Nat -> Nat) (i:Nat):Nat -> Nat
 | 0=>1
 | d+1=>tpr c i d*c (i+d)
theorem Qtd {c:Nat -> Nat}:∀{n:Nat},tpr c 0 n=Qn n c
 | 0=>rfl
 | n+1=>by unfold tpr Qn; rw [Qtd,dN]
theorem Qny {c w:Nat -> Nat} {i:Nat}:∀{d:Nat},(∀j,i<=j->j < i+d->w j+1=c j)->num c w (i+d)+1=(num c w i+1)*tpr c i d
 | 0,_=>by simp [tpr]
 | d+1,h=>by
  have h1:=Qny (d:=d) fun j h1 h2=>h j h1 (by omega)
  have h2:=h (i+d) (by omega) (by omega)
  show num c w (i+d)*c (i+d)+w (i+d)+1=(num c w i+1)*(tpr c i d*c (i+d))
  rw [<-Nat.mul_assoc,<-h1,dO]; omega
theorem Quj {c w:Nat -> Nat} {i:Nat}:∀{d:Nat},(∀j,i<=j->j < i+d->w j=0)->num c w (i+d)=num c w i*tpr c i d
 | 0,_=>by simp [tpr]
 | d+1,h=>by
  have h1:=Quj (c:=c) (d:=d) fun j h1 h2=>h j h1 (by omega)
  have h2:=h (i+d) (by omega) (by omega)
  show num c w (i+d)*c (i+d)+w (i+d)=num c w i*(tpr c i d*c (i+d))
  rw [h1,h2,<-Nat.mul_assoc,dY]
theorem Qus {c w:Nat -> Nat} {n:Nat} (h:∀j,j < n->w j+1=c j):num c w n+1=Qn n c:=by
 have:=Qny (c:=c) (w:=w) (i:=0) (d:=n) fun j _ h2=>h j (by omega)
 rw [dN,Qtd] at this
 rw [this]; simp [num]
theorem Quy {c w:Nat -> Nat} {n k:Nat} (hk:k < n) (h:∀j,k+1<=j->j < n->w j+1=c j):num c (Zs (zF w (k+1)) k (w k+1)) n=num c w n+1:=by
 obtain ⟨d,rfl⟩:=Nat.exists_eq_add_of_le hk
 have h1:=Qny (c:=c) (w:=w) (i:=k+1) (d:=d) fun j h1 h2=>h j h1 h2
 have h2:=Quj (c:=c) (w:=Zs (zF w (k+1)) k (w k+1)) (i:=k+1) (d:=d) fun j h1 h2=>by
  unfold Zs zF; rw [aI (by omega),aI (by omega)]
 have h3:num c (Zs (zF w (k+1)) k (w k+1)) (k+1)=num c w (k+1)+1:=by
  have:num c (Zs (zF w (k+1)) k (w k+1)) k=num c w k:=Qrk fun j hj=>by
   unfold Zs zF; rw [aI (by omega),aH (by omega)]
  show num c _ k*c k+Zs (zF w (k+1)) k (w k+1) k=num c w k*c k+w k+1
  rw [this,Z5]; omega
 rw [show k.succ+d=k+1+d from rfl,h1,h2,h3]
theorem Qvw {w:Nat -> Nat} (hw:D.ok w) {k:Nat} (hk:w k+1 < D.card k):D.ok (Zs (zF w (k+1)) k (w k+1)):=fun j hj=>by
 unfold Zs zF
 split
 ·rename_i e; subst e; exact hk
 split
 ·exact hw j hj
 have:=hw j hj; omega
end
end Go.Ab
namespace Go.Ab
open Go
open Classical
section
variable {D:NF}
theorem Qmu (V:VN D) {W:Nat} (hW:W < Qn D.n D.card):∀k,k<=D.n->num D.card (dig D W) k=W / PS D k
 | 0,_=>by
  have h0:PS D 0=Qn D.n D.card:=by
   have:=Qxs (D:=D)
   unfold PS; rw [cW]; exact this
  rw [h0,Nat.div_eq_of_lt hW]; rfl
 | k+1,hk=>by
  have h1:=Qmu V hW k (by omega)
  have h2:=Qp2 (D:=D) (k:=k) (by omega)
  show num D.card (dig D W) k*D.card k+dig D W k=W / PS D (k+1)
  rw [h1,h2,cH (D.card k),<-Nat.div_div_eq_div_mul]
  unfold dig
  rw [cH]
  exact dI _ _
theorem Qy0 (V:VN D) {W:Nat} (hW:W < Qn D.n D.card):∀j,j < D.n->pd D.card D.n W j=dig D W j:=fun j hj=>by
 have h:=Qmu V hW D.n (aY _)
 rw [Qt7,Nat.div_one] at h
 have:=Qps (c:=D.card) (w:=dig D W) (n:=D.n) (Qi2 V W) j hj
 rwa [h] at this
noncomputable def shF (D:NF) (E:Nat -> Int) (W:Nat):Int:=if X1 D.n E 0 (dig D W) then fS D 0 (dig D W) else 0
theorem Qmr (V:VN D) {E:Nat -> Int} {W:Nat}:0<=shF D E W/\shF D E W<=167961600000000:=by
 unfold shF
 split
 ·have h1:=V.fr_le (m:=0) (Qi2 V W) (aY _)
  unfold fS; omega
 omega
theorem Qqb (V:VN D) {E:Nat -> Int}:∀W,0<=Qj W (shF D E)/\Qj W (shF D E)<=(W:Int)*167961600000000
 | 0=>by simp [Qj]
 | W+1=>by
  have h1:=Qqb V (E:=E) W
  have h2:=Qmr V (E:=E) (W:=W)
  simp only [Qj]
  omega
theorem Q4o (X:VX D) {hi lo:Nat -> List Nat} (S:Vs D hi lo) {E:Nat -> Int} (hE:Yf D E):Vi (qst D hi lo) (Qb D.n E)=some (Qj (Qn D.n D.card) (shF D E)):=by
 have V:=X.vn
 have hn8:=V.n8
 have hlen:D.net.Nodes.length=D.n:=Qm
 have hN:=V.worlds
 have hN1:1<=Qn D.n D.card:=Qfs fun j hj=>(V.card j hj).1
 have hsp:=Vx (body:=V7 (Qb D.n E) (qst D hi lo)) (fun s=>∃W,W < Qn D.n D.card/\s=((W:Int),Qj W (shF D E),Qo D.n (dig D W))) (fun s=>(2000 - s.1).toNat)
  (fun r=>r=Qj (Qn D.n D.card) (shF D E))
  (fun s hs=>by
   obtain ⟨W,hW,rfl⟩:=hs
   have hok:=Qi2 V W
   have r1:=Qqb V (E:=E) W
   have r2:=Qmr V (E:=E) (W:=W)
   have hnum:num D.card (dig D W) D.n=W:=by
    have h:=Qmu V hW D.n (aY _)
    rwa [Qt7,Nat.div_one] at h
   obtain ⟨i,hi',c0,cf,cn⟩:=Qsk V hok (Qaq (qst D hi lo)) (fun s=>rfl)
   obtain ⟨i2,hi2,d0,df,dn⟩:=Qsk V hok (Qau (qst D hi lo)) (fun s=>rfl)
   have nxt:∀k,k < D.n->(∀j,k+1<=j->j < D.n->dig D W j+1=D.card j)->dig D W k+1 < D.card k->W+1 < Qn D.n D.card/\Qo D.n (Zs (zF (dig D W) (k+1)) k (dig D W k+1))=Qo D.n (dig D (W+1)):=fun k hk hfull hlt=>by
    have e:=Quy (c:=D.card) hk hfull
    rw [hnum] at e
    have hok2:=Qvw hok hlt
    have hl:W+1 < Qn D.n D.card:=by rw [<-e]; exact Qte hok2
    refine ⟨hl,Qh fun j hj=>congrArg Nat.cast ?_⟩
    rw [<-Qy0 V hl j hj,<-e]
    exact (Qps hok2 j hj).symm
   have lst:(∀j,j < D.n->dig D W j+1=D.card j)->W+1=Qn D.n D.card:=fun h=>by
    have:=Qus (c:=D.card) h
    rwa [hnum] at this
   have e1:zw (Qj W (shF D E)+shF D E W)=Qj (W+1) (shF D E):=by
    rw [w64 (by omega)]; rfl
   have eW:zw ((W:Int)+1)=((W+1:Nat):Int):=V4 (by omega)
   unfold V7
   dsimp only
   rw [Qnl hn8 (fun j hj=>(hE j hj).1),aC]
   by_cases cm:X1 D.n E 0 (dig D W)
   ·have es:shF D E W=fS D 0 (dig D W):=aH cm
    rw [aH (cQ cm),Qq6 X S hok,aC,c0,aC]
    dsimp only
    rw [<-es,e1]
    cases i with
    | zero =>
     right
     rw [aH (by simp)]
     exact ⟨_,rfl,by rw [lst fun j hj=>cf j (dV _) hj]⟩
    | succ k =>
     left
     obtain ⟨n1,n2⟩:=nxt k (by omega) cf (cn k rfl)
     have hg:lkI (Qo D.n (zF (dig D W) (k+1))) (k:Int)=some (dig D W k:Int):=by
      rw [Zn (by omega)]; unfold zF; rw [aH (by omega)]
     have hd:=hok k (by omega)
     have hc:=V.card k (by omega)
     rw [show ((k+1:Nat):Int) - 1=(k:Int) by omega,aI (by simp),hg,aC,eW,aP,V4 (by omega),Qap,n2]
     exact ⟨_,rfl,⟨W+1,n1,rfl⟩,by dsimp only; omega⟩
   have es:shF D E W=0:=aI cm
   have e2:Qj W (shF D E)=Qj (W+1) (shF D E):=by show _=Qj W (shF D E)+shF D E W; rw [es,Int.add_zero]
   rw [aI (by simpa using cm),d0,aC]
   dsimp only
   rw [e2]
   cases i2 with
   | zero =>
    right
    rw [aH (by simp)]
    exact ⟨_,rfl,by rw [lst fun j hj=>df j (dV _) hj]⟩
   | succ k =>
    left
    obtain ⟨n1,n2⟩:=nxt k (by omega) df (dn k rfl)
    have hg:lkI (Qo D.n (zF (dig D W) (k+1))) (k:Int)=some (dig D W k:Int):=by
     rw [Zn (by omega)]; unfold zF; rw [aH (by omega)]
    have hd:=hok k (by omega)
    have hc:=V.card k (by omega)
    rw [show ((k+1:Nat):Int) - 1=(k:Int) by omega,aI (by simp),hg,aC,eW,aP,V4 (by omega),Qap,n2]
    exact ⟨_,rfl,⟨W+1,n1,rfl⟩,by dsimp only; omega⟩)
  fuel (0,0,Qo D.n fun _=>0) ⟨0,by omega,by
   refine Prod.ext rfl (Prod.ext rfl (Qh fun j hj=>congrArg Nat.cast ?_))
   show 0=dig D 0 j
   unfold dig; rw [Nat.zero_div,Nat.zero_mod]⟩ (by unfold fuel; dsimp only; omega)
 obtain ⟨r,h1,rfl⟩:=hsp
 unfold Vi
 rw [show (qst D hi lo).Net=D.net from rfl,hlen,aH (by omega),Qm9]
 exact Zk h1 rfl
end
end Go.Ab
namespace Go.Ab
open Go
open Classical
section
variable {D:NF}
theorem Qvr (V:VN D) {E:Nat -> Int}:Qj (Qn D.n D.card) (shF D E)=SW D E (fS D 0):=by
 rw [Qoy V (Qdm V)]; rfl
theorem Qz4 (X:VX D):Qec D.net=some ((D.wh 0 D.n:Int),0):=by
 have V:=X.vn
 have hn8:=V.n8
 have hlen:D.net.Nodes.length=D.n:=Qm
 obtain ⟨o,hr⟩:=Qi0 X
 have hrn:=Z7 (n:=D.n) (k0:=0) (by omega) (by omega) (fun i (t:Int)=>(t,i)) (body:=Qa0 (⟨D.net,Qo D.n D.card,Qo D.n (setN D),o⟩,0)) (fun k=>(D.wh 0 k:Int)) (D.wh 0 D.n:Int)
  (fun k _ hk=>by
   have hb:=V.wh_le (m:=0) (k:=k+1) (by omega)
   have hs:D.wh 0 (k+1)=D.wh 0 k*D.g:=by
    show Qn k _*(if (0:Nat).testBit k=true then 1 else D.g)=_
    rw [aI (by simp)]; rfl
   unfold Qa0
   dsimp only
   rw [hlen,aH (dlt hk),show D.net.Grain=(D.g:Int) from rfl,<-Int.natCast_mul,<-hs,w64 (n:=((D.wh 0 (k+1):Nat):Int)) (by omega)])
  (by unfold Qa0; dsimp only; rw [hlen,aI (nlt _)])
 unfold Qec
 rw [hr,aC]
 dsimp only
 rw [aI (by decide)]
 exact Zk hrn rfl
theorem Q3i (X:VX D) {E:Nat -> Int} (hE:Yf D E):Qal D.net (Qb D.n E)=some (qI (SW D E (fS D 0)) (D.wh 0 D.n:Int),0):=by
 have V:=X.vn
 obtain ⟨hi,lo,S,ha⟩:=Qy3 X
 obtain ⟨h3,h4⟩:=Qpl V (m:=0)
 unfold Qal
 rw [ha E hE,aC]
 dsimp only
 rw [aI (by decide),Qz4 X,aC]
 dsimp only
 rw [aI (by decide),Q4o X S hE,aC,Qvr V,Qm1 (Jo V).2 h4 h3]; rfl
end
end Go.Ab
namespace Go.Ab
open Go
open Classical
theorem Qsl (a b:Ag):Ap a b=decide (a=b):=by
 obtain ⟨a1,a2⟩:=a; obtain ⟨b1,b2⟩:=b
 rw [Bool.eq_iff_iff]
 simp [Ap]
abbrev Pm:=List (Ag × Int)
theorem Q2t {k k':Ag} {v:Int}:∀(m:Pm),kget Ap (kput Ap m k v) k'=if k'=k then some v else kget Ap m k'
 | []=>by
  simp only [kput,kget,Qsl]
  by_cases h:k'=k
  ·simp [h]
  simp [h]
 | p::r=>by
  unfold kput
  simp only [Qsl]
  by_cases c:k=p.1
  ·subst c
   simp only [decide_true,eC,kget,Qsl]
   by_cases h:k'=p.1
   ·simp [h]
   simp [h]
  simp only [c,decide_false,aS,dZ,kget,Qsl,Q2t r]
  by_cases h:k'=p.1
  ·subst h
   have:¬ p.1=k:=fun e=>c e.symm
   simp [this]
  simp [h]
def mv (m:Pm) (v x:Nat):Int:=(kget Ap m ⟨(v:Int),(x:Int)⟩).getD 0
theorem Q3r {n:Nat} {w:Nat -> Nat} {x14:Int} {s9:Int × Int × Pm × List Int} (h9:s9.2.2.2=Qo n w) (hn:n<=8) {m:Pm} (hb:∀v x,0<=mv m v x/\mv m v x<=1000000000000000000) (hx:0<=x14/\x14<=1000000000000000000) :
  ∃m',Qc fuel (Yq s9 x14) (0,m)=some m'/\∀v x,mv m' v x=mv m v x+if v < n/\x=w v then x14 else 0:=by
 obtain ⟨r,h1,h2⟩:=Qnp (n:=n) (k0:=0) (by omega) (by omega) (fun i (t:Pm)=>(i,t)) (body:=Yq s9 x14) (fun k t=>∀v x,mv t v x=mv m v x+if v < k/\x=w v then x14 else 0) (fun r=>∀v x,mv r v x=mv m v x+if v < n/\x=w v then x14 else 0)
  (fun k t _ hk hI=>by
   left
   unfold Yq
   dsimp only
   rw [h9,Kp,aH (dlt hk),Zn hk,aC]
   refine ⟨_,rfl,fun v x=>?_⟩
   have hkk:=hI k (w k)
   rw [aI (by omega),Int.add_zero] at hkk
   have hbk:=hb k (w k)
   have e:zw ((kget Ap t ⟨(k:Int),(w k:Int)⟩).getD 0+x14)=mv m k (w k)+x14:=by
    show zw (mv t k (w k)+x14)=_
    rw [hkk,w64 (by omega)]
   rw [e]
   have hi:=hI v x
   unfold mv at hi ⊢
   rw [Q2t]
   by_cases c:v=k/\x=w k
   ·obtain ⟨rfl,rfl⟩:=c
    rw [aH rfl,aH ⟨by omega,rfl⟩]; rfl
   rw [aI (fun h=>c (by
    injection h with h1 h2
    exact ⟨by omega,by omega⟩)),hi]
   congr 1
   by_cases c2:v < k/\x=w v
   ·rw [aH c2,aH ⟨by omega,c2.2⟩]
   rw [aI c2,aI (fun h=>by
    by_cases e2:v=k
    ·subst e2; exact c ⟨rfl,h.2⟩
    exact c2 ⟨by omega,h.2⟩)])
  (fun t hI=>⟨t,by unfold Yq; dsimp only; rw [h9,Kp,aI (nlt n)],hI⟩) m (fun v x=>by rw [aI (by omega),Int.add_zero])
 exact ⟨r,h1,h2⟩
end Go.Ab
namespace Go.Ab
open Go
open Classical
section
variable {D:NF}
noncomputable def pS (D:NF) (E:Nat -> Int) (v x W:Nat):Int:=Qj W fun W'=>if dig D W' v=x then shF D E W' else 0
theorem Q0q (V:VN D) {E:Nat -> Int} {v x:Nat}:∀W,0<=pS D E v x W/\pS D E v x W<=(W:Int)*167961600000000
 | 0=>by simp [pS,Qj]
 | W+1=>by
  have h1:=Q0q V (E:=E) (v:=v) (x:=x) W
  have h2:=Qmr V (E:=E) (W:=W)
  have h3:pS D E v x (W+1)=pS D E v x W+if dig D W v=x then shF D E W else 0:=rfl
  rw [h3]
  split <;> omega
theorem Q0l (X:VX D) {hi lo:Nat -> List Nat} (S:Vs D hi lo) {E:Nat -> Int} (hE:Yf D E) {e0:Int}:∃m,Qc fuel (Vv (Qb D.n E) (qst D hi lo,e0)) (0,0,[],Qo D.n fun _=>0)=some (Qj (Qn D.n D.card) (shF D E),m)/\∀v x,v < D.n->mv m v x=pS D E v x (Qn D.n D.card):=by
 have V:=X.vn
 have hn8:=V.n8
 have hN:=V.worlds
 have hN1:1<=Qn D.n D.card:=Qfs fun j hj=>(V.card j hj).1
 have hsp:=Vx (body:=Vv (Qb D.n E) (qst D hi lo,e0)) (fun s=>∃W m,W < Qn D.n D.card/\(∀v x,mv m v x=if v < D.n then pS D E v x W else 0)/\s=((W:Int),Qj W (shF D E),m,Qo D.n (dig D W))) (fun s=>(2000 - s.1).toNat)
  (fun r=>∃m,r=(Qj (Qn D.n D.card) (shF D E),m)/\∀v x,v < D.n->mv m v x=pS D E v x (Qn D.n D.card))
  (fun s hs=>by
   obtain ⟨W,m,hW,hm,rfl⟩:=hs
   have hok:=Qi2 V W
   have r1:=Qqb V (E:=E) W
   have r2:=Qmr V (E:=E) (W:=W)
   have hnum:num D.card (dig D W) D.n=W:=by
    have h:=Qmu V hW D.n (aY _)
    rwa [Qt7,Nat.div_one] at h
   obtain ⟨i,hi',c0,cf,cn⟩:=Qsk V hok (Qc7 (qst D hi lo,e0)) (fun s=>rfl)
   obtain ⟨i2,hi2,d0,df,dn⟩:=Qsk V hok (Qc9 (qst D hi lo,e0)) (fun s=>rfl)
   have nxt:∀k,k < D.n->(∀j,k+1<=j->j < D.n->dig D W j+1=D.card j)->dig D W k+1 < D.card k->W+1 < Qn D.n D.card/\Qo D.n (Zs (zF (dig D W) (k+1)) k (dig D W k+1))=Qo D.n (dig D (W+1)):=fun k hk hfull hlt=>by
    have e:=Quy (c:=D.card) hk hfull
    rw [hnum] at e
    have hok2:=Qvw hok hlt
    have hl:W+1 < Qn D.n D.card:=by rw [<-e]; exact Qte hok2
    refine ⟨hl,Qh fun j hj=>congrArg Nat.cast ?_⟩
    rw [<-Qy0 V hl j hj,<-e]
    exact (Qps hok2 j hj).symm
   have lst:(∀j,j < D.n->dig D W j+1=D.card j)->W+1=Qn D.n D.card:=fun h=>by
    have:=Qus (c:=D.card) h
    rwa [hnum] at this
   have e1:zw (Qj W (shF D E)+shF D E W)=Qj (W+1) (shF D E):=by
    rw [w64 (by omega)]; rfl
   have eW:zw ((W:Int)+1)=((W+1:Nat):Int):=V4 (by omega)
   have hps:∀v x,pS D E v x (W+1)=pS D E v x W+if dig D W v=x then shF D E W else 0:=fun v x=>rfl
   unfold Vv
   dsimp only
   rw [Qnl hn8 (fun j hj=>(hE j hj).1),aC]
   by_cases cm:X1 D.n E 0 (dig D W)
   ·have es:shF D E W=fS D 0 (dig D W):=aH cm
    obtain ⟨m',hm1,hm2⟩:=Q3r (n:=D.n) (w:=dig D W) (x14:=shF D E W) (s9:=((W:Int),Qj W (shF D E),m,Qo D.n (dig D W))) rfl hn8 (m:=m) (fun v x=>by
     have:=Q0q V (E:=E) (v:=v) (x:=x) W
     rw [hm]; split <;> omega) (by omega)
    have hm':∀v x,mv m' v x=if v < D.n then pS D E v x (W+1) else 0:=fun v x=>by
     rw [hm2,hm,hps]
     by_cases c:v < D.n
     ·rw [aH c,aH c]
      by_cases c2:dig D W v=x
      ·rw [aH ⟨c,c2.symm⟩,aH c2]
      rw [aI (fun h=>c2 h.2.symm),aI c2]
     rw [aI c,aI c,aI (fun h=>c h.1)]; rfl
    rw [aH (cQ cm),Qq6 X S hok,aC,<-es,hm1,aC,c0,aC]
    dsimp only
    rw [e1]
    cases i with
    | zero =>
     right
     rw [aH (by simp)]
     have hl:=lst fun j hj=>cf j (dV _) hj
     exact ⟨_,rfl,m',by rw [hl],fun v x hv=>by rw [hm',aH hv,hl]⟩
    | succ k =>
     left
     obtain ⟨n1,n2⟩:=nxt k (by omega) cf (cn k rfl)
     have hg:lkI (Qo D.n (zF (dig D W) (k+1))) (k:Int)=some (dig D W k:Int):=by
      rw [Zn (by omega)]; unfold zF; rw [aH (by omega)]
     have hd:=hok k (by omega)
     have hc:=V.card k (by omega)
     rw [show ((k+1:Nat):Int) - 1=(k:Int) by omega,aI (by simp),hg,aC,eW,aP,V4 (by omega),Qap,n2]
     exact ⟨_,rfl,⟨W+1,m',n1,hm',rfl⟩,by dsimp only; omega⟩
   have es:shF D E W=0:=aI cm
   have e2:Qj W (shF D E)=Qj (W+1) (shF D E):=by show _=Qj W (shF D E)+shF D E W; rw [es,Int.add_zero]
   have hm':∀v x,mv m v x=if v < D.n then pS D E v x (W+1) else 0:=fun v x=>by
    rw [hm,hps,es]
    simp
   rw [aI (by simpa using cm),d0,aC]
   dsimp only
   rw [e2]
   cases i2 with
   | zero =>
    right
    rw [aH (by simp)]
    have hl:=lst fun j hj=>df j (dV _) hj
    exact ⟨_,rfl,m,by rw [hl],fun v x hv=>by rw [hm',aH hv,hl]⟩
   | succ k =>
    left
    obtain ⟨n1,n2⟩:=nxt k (by omega) df (dn k rfl)
    have hg:lkI (Qo D.n (zF (dig D W) (k+1))) (k:Int)=some (dig D W k:Int):=by
     rw [Zn (by omega)]; unfold zF; rw [aH (by omega)]
    have hd:=hok k (by omega)
    have hc:=V.card k (by omega)
    rw [show ((k+1:Nat):Int) - 1=(k:Int) by omega,aI (by simp),hg,aC,eW,aP,V4 (by omega),Qap,n2]
    exact ⟨_,rfl,⟨W+1,m,n1,hm',rfl⟩,by dsimp only; omega⟩)
  fuel (0,0,[],Qo D.n fun _=>0) ⟨0,[],by omega,fun v x=>by simp [mv,kget,pS,Qj],by
   refine Prod.ext rfl (Prod.ext rfl (Prod.ext rfl (Qh fun j hj=>congrArg Nat.cast ?_)))
   show 0=dig D 0 j
   unfold dig; rw [Nat.zero_div,Nat.zero_mod]⟩ (by unfold fuel; dsimp only; omega)
 obtain ⟨r,h1,m,rfl,h2⟩:=hsp
 exact ⟨m,h1,h2⟩
end
end Go.Ab
namespace Go.Ab
open Go
open Classical
section
variable {D:NF}
theorem Q7b (V:VN D) {E:Nat -> Int} {v x:Nat} (hv:v < D.n):pS D E v x (Qn D.n D.card)=SW D E (at' v x (fS D 0)):=by
 rw [Qoy V (Qo9 hv (Qdm V))]
 refine Xw fun W _=>?_
 unfold shF at'
 by_cases c:dig D W v=x
 ·rw [aH c,aH c]
 rw [aI c,aI c]
 split <;> rfl
theorem Qtt (X:VX D) {E:Nat -> Int} (hE:Yf D E) {v:Nat} (hv:v < D.n):Vn D.net (Qb D.n E) (v:Int) =
  some (if SW D E (fS D 0)=0 then ([],7) else (Qb (D.card v) fun k=>qI (SW D E (at' v k (fS D 0))) (SW D E (fS D 0)),0)):=by
 have V:=X.vn
 have hn8:=V.n8
 have hc:=V.card v hv
 have hlen:D.net.Nodes.length=D.n:=Qm
 obtain ⟨hi,lo,S,ha⟩:=Qy3 X
 obtain ⟨m,hl,hm⟩:=Q0l X S hE (e0:=0)
 unfold Vn
 rw [ha E hE,aC]
 dsimp only
 rw [aI (by decide),aI (by simp),show (qst D hi lo).Net=D.net from rfl,hlen,aI (by simp; omega),aH (by omega),Qm9,hl,aC,Qvr V]
 dsimp only
 by_cases c:SW D E (fS D 0)=0
 ·rw [aH (by simp [c]),aH c]
 ·rw [aI (by simpa using c),aI c,V.node hv,aC,show (D.node v).Card=(D.card v:Int) from rfl,aH (by omega)]
  have hz:List.replicate (Int.toNat (D.card v:Int)) ((Ql.mk 0 0):Ql)=Qb (D.card v) fun _=>Ql.mk 0 0:=by rw [aP]; exact V8 _ _
  have hr:=Z7 (n:=D.card v) (k0:=0) (by omega) (by omega) (fun i (t:List Ql)=>(i,t)) (body:=Vq (D.node v) (SW D E (fS D 0),m) (v:Int))
   (fun k=>Qb (D.card v) fun j=>if j < k then qI (SW D E (at' v j (fS D 0))) (SW D E (fS D 0)) else Ql.mk 0 0) (Sum.inr (Qb (D.card v) fun k=>qI (SW D E (at' v k (fS D 0))) (SW D E (fS D 0))))
   (fun k _ hk=>by
    have hkk:(kget Ap m ⟨(v:Int),(k:Int)⟩).getD 0=SW D E (at' v k (fS D 0)):=by
     have:=hm v k hv
     rw [Q7b V hv] at this; exact this
    unfold Vq
    dsimp only
    rw [show (D.node v).Card=(D.card v:Int) from rfl,hz,Qm,aH (dlt hk),hkk,Qm1 (Qkk V).2 (Jo V).2 c,aC]
    dsimp only
    rw [aI (by decide),Qx hk,aC,aP,Xg]
    refine congrArg (fun l=>some (Qg.next (zw ((k:Int)+1),l))) (Qh fun j _=>?_)
    by_cases e:j=k
    ·subst e; rw [aH rfl,aH (by omega)]
    rw [aI e]
    by_cases e2:j < k
    ·rw [aH e2,aH (by omega)]
    rw [aI e2,aI (by omega)])
   (by
    unfold Vq
    dsimp only
    rw [show (D.node v).Card=(D.card v:Int) from rfl,hz,Qm,aI (nlt _)]
    exact congrArg (fun l=>some (Qg.done (Sum.inr l))) (Qh fun j hj=>by rw [aH hj]))
  have e0:(Qb (D.card v) fun _=>Ql.mk 0 0)=Qb (D.card v) fun j=>if j < 0 then qI (SW D E (at' v j (fS D 0))) (SW D E (fS D 0)) else Ql.mk 0 0:=Qh fun j _=>by rw [aI (by omega)]
  rw [hz,e0]
  exact Zk hr rfl
end
end Go.Ab
namespace Go.Ab
open Go
open Classical
section
variable {D:NF} {S:Nat -> Int}
theorem Kc {v:Nat} (h:¬ 0<=S v):(doD D S).par v=D.par v:=aI h
theorem Qcx {v:Nat} (h:0<=S v):(doD D S).par v=[]:=aH h
theorem Qlc {v:Nat} (h:¬ 0<=S v):(doD D S).rows v=D.rows v:=by unfold NF.rows; rw [Kc h]; rfl
theorem Q36 {n k:Nat} {R:Int} (hk:k < n):Qj n (fun x=>if x=k then R else 0)=R:=by
 induction n with
 | zero=>omega
 | succ n ih =>
  simp only [Qj]
  by_cases e:n=k
  ·subst e
   rw [aH rfl,Xw (g:=fun _=>0) fun x hx=>aI (by omega),Qex]; omega
  rw [aI e,ih (by omega)]; omega
theorem Ql7 {v r x:Nat} (h:¬ 0<=S v):(doD D S).W v r x=D.W v r x:=aI h
theorem Qnx {v r x:Nat} (h:0<=S v):(doD D S).W v r x=if (x:Int)=S v then D.g else 0:=aH h
theorem Qfn (X:VX D) (hS:Yf D S):VX (doD D S):=by
 have V:=X.vn
 refine ⟨⟨V.n1,V.n8,V.g1,V.g60,V.card,fun v hv p hp=>?_,fun v hv=>?_,fun v r x hv hr hx=>?_,V.worlds⟩,fun v hv=>?_,fun v hv hp=>?_,?_,fun v r hv hr=>?_⟩
 ·by_cases c:0<=S v
  ·rw [Qcx c] at hp; cases hp
  rw [Kc c] at hp; exact V.par v hv p hp
 ·by_cases c:0<=S v
  ·rw [Qcx c]; simp
  rw [Kc c]; exact V.len v hv
 ·by_cases c:0<=S v
  ·rw [Qnx c]
   show (if (x:Int)=S v then D.g else 0)<=D.g
   split <;> omega
  rw [Ql7 c]
  rw [Qlc c] at hr
  exact V.W v r x hv hr hx
 ·by_cases c:0<=S v
  ·rw [Qcx c]; exact List.Pairwise.nil
  rw [Kc c]; exact X.sorted v hv
 ·by_cases c:0<=S v
  ·rw [Qcx c] at hp; cases hp
  rw [Kc c] at hp; exact X.self v hv hp
 ·obtain ⟨rk,hrk⟩:=X.rank
  refine ⟨rk,fun v hv p hp=>?_⟩
  by_cases c:0<=S v
  ·rw [Qcx c] at hp; cases hp
  rw [Kc c] at hp; exact hrk v hv p hp
 by_cases c:0<=S v
 ·have hs:=hS v hv
  show Qj (D.card v) (fun x=>((doD D S).W v r x:Int))=(D.g:Int)
  rw [Xw (g:=fun x=>if x=(S v).toNat then (D.g:Int) else 0) fun x _=>by
   rw [Qnx c]
   by_cases e:(x:Int)=S v
   ·rw [aH e,aH (by omega)]
   rw [aI e,aI (by omega)]; rfl]
  exact Q36 (by omega)
 rw [Qlc c] at hr
 show Qj (D.card v) (fun x=>((doD D S).W v r x:Int))=(D.g:Int)
 rw [Xw (g:=fun x=>(D.W v r x:Int)) fun x _=>by rw [Ql7 c]]
 exact X.sum v r hv hr
end
end Go.Ab
namespace Go.Ab
open Go
structure Gd (n:Nat) (S:Nat -> Nat):Prop where
 inn:∀v,v < n->∀j,(S v).testBit j=true->j < n
 acyc:∀v,v < n->¬ (ups n S n (S v)).testBit v=true
end Go.Ab
namespace Go.Ab
open Go
abbrev Stp:=List (Ah × Bool)
def vis (m:Stp) (v:Nat) (d:Bool):Bool:=(kget Aq m ⟨(v:Int),d⟩).getD false
section
variable (n:Nat) (S:Nat -> Nat) (z az x:Nat)
def Suc (m:Stp) (u:Nat) (e:Bool):Prop :=
 (z.testBit u=false->∀c,c < n->(S c).testBit u=true->vis m c true=true)/\(e=false->z.testBit u=false->∀p,p < n->(S u).testBit p=true->vis m p false=true)/\(e=true->az.testBit u=true->∀p,p < n->(S u).testBit p=true->vis m p false=true)
structure DE (m m':Stp):Prop where
 le:∀u e,vis m u e=true->vis m' u e=true
 new:∀u e,vis m' u e=true->vis m u e=false->Suc n S z az m' u e
variable {n S z az x}
theorem Suc.mono {m m':Stp} (h:∀u e,vis m u e=true->vis m' u e=true) {u:Nat} {e:Bool} (k:Suc n S z az m u e):Suc n S z az m' u e :=
 ⟨fun a c b d=>h _ _ (k.1 a c b d),fun a b p c d=>h _ _ (k.2.1 a b p c d),fun a b p c d=>h _ _ (k.2.2 a b p c d)⟩
theorem DE.trans {m m1 m2:Stp} (h:DE n S z az m m1) (k:DE n S z az m1 m2):DE n S z az m m2:=⟨fun u e a=>k.le u e (h.le u e a),fun u e a b=>by
 cases hv:vis m1 u e with
 | true=>exact (h.new u e hv b).mono k.le
 | false=>exact k.new u e a hv⟩
end
end Go.Ab
namespace Go.Ab
open Go
open Classical
section
variable {D:NF} {u:Nat -> Nat} {m M:Nat}
def hT (D:NF) (u:Nat -> Nat) (m M:Nat) (w:Nat -> Nat):Int:=if ∀v,v < D.n->M.testBit v=true->w v=u v then fS D m w else 0
theorem Qof {n:Nat} {f g:Nat -> Nat}:Qn n f*Qn n g=Qn n fun v=>f v*g v:=by
 induction n with
 | zero=>rfl
 | succ n ih =>
  unfold Qn
  rw [<-ih,Nat.mul_mul_mul_comm]
end
end Go.Ab
namespace Go.Ab
open Go
open Classical
section
variable {D:NF} {S:Nat -> Int}
theorem Qye {w:Nat -> Nat} {v:Nat} (h:¬ 0<=S v):(doD D S).wt w v=D.wt w v:=by
 unfold NF.wt NF.idx
 rw [Kc h,Ql7 h]; rfl
theorem Qrm {w:Nat -> Nat} {v:Nat} (h:0<=S v):(doD D S).wt w v=if (w v:Int)=S v then D.g else 0:=by
 unfold NF.wt
 rw [Qnx h]
theorem Qpw {f:Nat -> Nat} {k:Nat} (hf:f k=0):∀{n:Nat},k < n->Qn n f=0
 | n+1,h=>by
  unfold Qn
  by_cases e:k=n
  ·subst e; rw [hf,Nat.mul_zero]
  rw [Qpw hf (by omega),Nat.zero_mul]
def gS (D:NF) (S:Nat -> Int):Nat := Qn D.n fun v=>if (actS D.n S).testBit v=true then D.g else 1
theorem Q24 (hS:Yf D S) (w:Nat -> Nat):fS (doD D S) 0 w=if X1 D.n S 0 w then (gS D S:Int)*fS D (actS D.n S) w else 0:=by
 have hb:∀v,v < D.n->((actS D.n S).testBit v=true↔0<=S v):=fun v hv=>by rw [Q1c]; simp [hv]
 have e0:fS (doD D S) 0 w=((Qn D.n fun v=>(doD D S).wt w v:Nat):Int):=by
  unfold fS NF.fr
  exact congrArg Nat.cast (Qc6 fun v _=>aI (by simp))
 rw [e0]
 by_cases c:X1 D.n S 0 w
 ·rw [aH c]
  unfold gS fS NF.fr
  rw [<-Int.natCast_mul,Qof]
  refine congrArg Nat.cast (Qc6 fun v hv=>?_)
  by_cases cs:0<=S v
  ·have hm:=c v (dV _) hv
   unfold okE at hm
   rw [Qrm cs,aH (by omega),aH ((hb v hv).2 cs),aH ((hb v hv).2 cs),Nat.mul_one]
  rw [Qye cs,aI (fun h=>cs ((hb v hv).1 h)),aI (fun h=>cs ((hb v hv).1 h)),Nat.one_mul]
 rw [aI c]
 have:∃v,v < D.n/\¬ okE S v (w v):=Classical.byContradiction fun h=>c fun j _ hj=>Classical.byContradiction fun hn=>h ⟨j,hj,hn⟩
 obtain ⟨v,hv,hn⟩:=this
 unfold okE at hn
 have hs:=hS v hv
 rw [Qpw (k:=v) (by rw [Qrm (by omega),aI (by omega)]) hv]; rfl
theorem Q2v:∀(d i:Nat),PC (doD D S) d i=PC D d i
 | 0,_=>rfl
 | d+1,i=>by
  unfold PC
  rw [Q2v d]; rfl
theorem Q5k {W:Nat}:dig (doD D S) W=dig D W:=by
 funext k
 unfold dig PS
 rw [Q2v]; rfl
theorem Q3c (X:VX D) (hS:Yf D S) {E:Nat -> Int} {f:(Nat -> Nat)->Int} {f':(Nat -> Nat)->Int} (hf:Ext D f) (hf':Ext D f') (he:∀w,D.ok w->f' w=if X1 D.n S 0 w then (gS D S:Int)*f w else 0):SW (doD D S) E f'=(gS D S:Int)*SW D (Xm S E) f:=by
 have V:=X.vn
 have e1:SW (doD D S) E f'=Qj (Qn D.n D.card) (fun W=>if X1 D.n E 0 (dig D W) then f' (dig D W) else 0):=by
  have h:=Qoy (D:=doD D S) (Qfn X hS).vn (f:=f') hf' (K:=E)
  simp only [Q5k] at h
  exact h
 rw [e1,Qoy V hf,Int.mul_comm,<-Q1r]
 refine Xw fun W _=>?_
 rw [he _ (Qi2 V W)]
 have hmb:=Qyc (D:=D) (S:=S) (E:=E) (Q6n V (W:=W))
 by_cases c1:X1 D.n S 0 (dig D W)
 ·by_cases c2:X1 D.n E 0 (dig D W)
  ·rw [aH c2,aH c1,aH (hmb.2 ⟨c1,c2⟩),Int.mul_comm]
  rw [aI c2,aI (fun h=>c2 (hmb.1 h).2),Int.zero_mul]
 rw [aI c1,aI (fun h=>c1 (hmb.1 h).1),Int.zero_mul]
 split <;> rfl
end
end Go.Ab
namespace Go.Ab
open Go
theorem Qwq {k a d:Nat} (hk:0 < k) (hd:0 < d) (ha:k*a<=MX) (hdm:k*d<=MX):qI ((k*a:Nat):Int) ((k*d:Nat):Int)=qI (a:Int) (d:Int):=by
 have h1:a<=k*a:=Nat.le_mul_of_pos_left _ hk
 have h2:d<=k*d:=Nat.le_mul_of_pos_left _ hk
 have h3:0 < k*d:=Nat.mul_pos hk hd
 rw [Qo5 (by omega) (by rw [Int.natAbs_natCast]; exact ha) (by rw [Int.natAbs_natCast]; exact hdm),Qo5 (by omega) (by rw [Int.natAbs_natCast]; omega) (by rw [Int.natAbs_natCast]; omega)]
 simp only [Int.natAbs_natCast]
 rw [Nat.gcd_mul_left,Nat.mul_div_mul_left _ _ hk,Nat.mul_div_mul_left _ _ hk]
 have b1:decide (((k*a:Nat):Int) < 0)=false:=decide_eq_false (by omega)
 have b2:decide (((k*d:Nat):Int) < 0)=false:=decide_eq_false (by omega)
 have b3:decide ((a:Int) < 0)=false:=decide_eq_false (by omega)
 have b4:decide ((d:Int) < 0)=false:=decide_eq_false (by omega)
 rw [b1,b2,b3,b4]
end Go.Ab
namespace Go.Ab
open Go
open Classical
section
variable {D:NF} {S:Nat -> Int}
theorem Q25 (V:VN D):(doD D S).wh 0 D.n=gS D S*D.wh (actS D.n S) D.n:=by
 unfold NF.wh gS
 rw [Qof]
 refine Qc6 fun v _=>?_
 rw [aI (by simp)]
 show D.g=_
 split <;> simp
theorem Qzm (V:VN D):0 < gS D S:=Qfs fun v _=>by
 split
 ·exact V.g1
 omega
theorem Qio (X:VX D) (hS:Yf D S) {E:Nat -> Int}:SW (doD D S) E (fS (doD D S) 0)=(gS D S:Int)*sumSE D S E :=
 Q3c X hS (Qdm X.vn) (Qdm (D:=doD D S) (Qfn X hS).vn) fun w _=>Q24 hS w
theorem Q3o (X:VX D) (hS:Yf D S) {E:Nat -> Int}:qI (SW (doD D S) E (fS (doD D S) 0)) ((doD D S).wh 0 D.n:Int)=qI (sumSE D S E) (D.wh (actS D.n S) D.n:Int):=by
 have V:=X.vn
 have hk:=Qzm V (S:=S)
 obtain ⟨a,ha⟩:∃a:Nat,sumSE D S E=a:=⟨(sumSE D S E).toNat,by have:=(Jo V (m:=actS D.n S) (K:=Xm S E)).1; unfold sumSE at *; omega⟩
 have r1:=(Jo (D:=doD D S) (Qfn X hS).vn (m:=0) (K:=E)).2
 have r2:=(Qpl (D:=doD D S) (Qfn X hS).vn (m:=0)).2
 rw [Qio X hS,ha] at r1
 have r2:((((doD D S).wh 0 D.n:Nat):Int)).natAbs<=MX:=r2
 rw [Q25 V] at r2
 rw [Qio X hS,Q25 V,ha,<-Int.natCast_mul]
 rw [<-Int.natCast_mul] at r1
 rw [Int.natAbs_natCast] at r1 r2
 exact Qwq hk (V.wh_pos (aY _)) r1 r2
end
end Go.Ab
namespace Go.Ab
open Go
open Classical
section
variable {D:NF} {S:Nat -> Int}
theorem Q20 (X:VX D) (hS:Yf D S) {E:Nat -> Int} {v k:Nat} (hv:v < D.n):SW (doD D S) E (at' v k (fS (doD D S) 0))=(gS D S:Int)*effA D S E v k :=
 Q3c X hS (Qo9 hv (Qdm X.vn)) (Qo9 (D:=doD D S) hv (Qdm (D:=doD D S) (Qfn X hS).vn)) fun w _=>by
  unfold at'
  by_cases c:w v=k
  ·rw [aH c,aH c,Q24 hS]
  rw [aI c,aI c]; split <;> simp
theorem Q3s (X:VX D) (hS:Yf D S) {E:Nat -> Int} (hE:Yf D E) {v:Nat} (hv:v < D.n):Vn (doD D S).net (Qb D.n E) (v:Int)=some (Qff D S E v):=by
 have V:=X.vn
 have hk:=Qzm V (S:=S)
 have h:=Qtt (Qfn X hS) (E:=E) hE (v:=v) hv
 have hd:(doD D S).card v=D.card v:=rfl
 rw [show (doD D S).n=D.n from rfl] at h
 rw [h]
 unfold Qff
 have hs:=Jo V (m:=actS D.n S) (K:=Xm S E)
 by_cases c:sumSE D S E=0
 ·rw [aH c,aH (by rw [Qio X hS,c,Int.mul_zero])]
 have c':¬ SW (doD D S) E (fS (doD D S) 0)=0:=by
  rw [Qio X hS]
  intro e
  rcases Int.mul_eq_zero.1 e with e | e
  ·omega
  exact c e
 rw [aI c,aI c',hd]
 refine congrArg (fun l=>some (l,(0:Int))) (Qh fun k _=>?_)
 obtain ⟨a,ha⟩:∃a:Nat,sumSE D S E=a:=⟨(sumSE D S E).toNat,by have:=hs.1; unfold sumSE at *; omega⟩
 have he:=Qkk V (m:=actS D.n S) (v:=v) (k:=k) (K:=Xm S E)
 obtain ⟨b,hb⟩:∃b:Nat,effA D S E v k=b:=⟨(effA D S E v k).toNat,by have:=he.1; unfold effA at *; omega⟩
 have r1:=(Jo (D:=doD D S) (Qfn X hS).vn (m:=0) (K:=E)).2
 have r2:=(Qkk (D:=doD D S) (Qfn X hS).vn (m:=0) (v:=v) (k:=k) (K:=E)).2
 rw [Qio X hS,ha,<-Int.natCast_mul,Int.natAbs_natCast] at r1
 rw [Q20 X hS hv,hb,<-Int.natCast_mul,Int.natAbs_natCast] at r2
 rw [Qio X hS,Q20 X hS hv,ha,hb,<-Int.natCast_mul,<-Int.natCast_mul]
 exact Qwq hk (by rw [ha] at c; omega) r2 r1
end
end Go.Ab
namespace Go.Ab
open Go
open Classical
section
variable {D:NF} {S:Nat -> Int}
theorem Q1p {v:Nat}:(doD (doD D S) S).node v=(doD D S).node v:=by
 by_cases c:0<=S v
 ·rw [Qna c,Qna c]; rfl
 rw [Qoc c]
theorem cuts_true (p0:Qe) (p1 p2:Af) (p3:Int) (h0:J9 p0) (h1:Y6 p1) (h2:Y6 p2) (h3:(Lit.int .u8 p3).wf=true) :
  Qdr p0 p1 p2 p3=some true:=by
 obtain ⟨D,X0,hn,hcd,e1⟩:=Qyw (Q31 h0)
 have X:DX D:=⟨X0,hn,hcd⟩
 have V:=X.vn
 have hn8:=V.n8
 have hn1:=V.n1
 have hlen:D.net.Nodes.length=D.n:=Qm
 obtain ⟨S,hS,eS⟩:=Que X h1
 obtain ⟨E,hE,eE⟩:=Que X h2
 have T:=Qfn X.toVX hS
 have hlen2:(doD D S).net.Nodes.length=D.n:=Qm
 obtain ⟨o,hr⟩:=Qi0 T
 obtain ⟨v,hv⟩:∃v:Nat,v=p3.toNat % D.n:=⟨_,rfl⟩
 have hvn:v < D.n:=by rw [hv]; exact cD _ (by omega)
 have ev:Int.tmod (zw p3) (D.n:Int)=(v:Int):=by
  have:=Q7u h3
  rw [w64 (by omega),Kw (by omega),hv,Int.natCast_emod,Int.toNat_of_nonneg (by omega)]
 have hchk:K6 (doD D S).net=some 0:=by unfold K6; rw [hr]; rfl
 have hprob:Qal (doD D S).net (Qb D.n E)=some (qI (sumSE D S E) (D.wh (actS D.n S) D.n:Int),0):=by
  have h:=Q3i T (E:=E) hE
  rw [show (doD D S).n=D.n from rfl] at h
  rw [h,Q3o X.toVX hS]
 have hagain:Qan (doD D S).net (Qb D.n S)=some ((doD D S).net,0):=by
  have h:=Q2k T (S:=S) hS
  rw [show (doD D S).n=D.n from rfl] at h
  rw [h]
  have:(doD (doD D S) S).net=(doD D S).net:=by
   show (⟨(D.g:Int),Qb D.n (doD (doD D S) S).node⟩:Qd)=⟨(D.g:Int),Qb D.n (doD D S).node⟩
   rw [Qh fun v _=>Q1p (D:=D) (S:=S)]
  rw [this]
 have hsame:Yt (doD D S).net (doD D S).net=some true:=Qt6 (by rw [Qm]; show D.n<=_; omega) (Q01 X.toVX hS)
 have hq:Jk (Qff D S E v).1 (Qff D S E v).1=some true:=Qxg (by
  have:=(V.card v hvn).2
  unfold Qff; split
  ·simp
  rw [Qm]; omega)
 have hpos:((Qff D S E v).2==0)=decide ((qI (sumSE D S E) (D.wh (actS D.n S) D.n:Int)).N > 0):=by
  obtain ⟨h5,h6⟩:=Qpl V (m:=actS D.n S)
  have hs:=Jo V (m:=actS D.n S) (K:=Xm S E)
  obtain ⟨r,e⟩:=Q3p (n:=sumSE D S E) (d:=(D.wh (actS D.n S) D.n:Int)) hs.2 h6 h5
  have hr1:=r.1
  have hW:0 < (D.wh (actS D.n S) D.n:Int):=by omega
  unfold Qff
  by_cases c:sumSE D S E=0
  ·rw [aH c]
   rw [c,Int.zero_mul] at e
   have:(qI (sumSE D S E) (D.wh (actS D.n S) D.n:Int)).N=0:=by
    rw [c]
    rcases Int.mul_eq_zero.1 e with h | h
    ·exact h
    omega
   rw [this]; rfl
  rw [aI c]
  have hp:0 < sumSE D S E:=by have:=hs.1; unfold sumSE at *; omega
  have:0 < (qI (sumSE D S E) (D.wh (actS D.n S) D.n:Int)).N:=Int.not_le.1 fun h=>by
   have a1:=Int.mul_nonpos_of_nonpos_of_nonneg h (show 0<=(D.wh (actS D.n S) D.n:Int) by omega)
   have a2:=Int.mul_pos hp (show 0 < (qI (sumSE D S E) (D.wh (actS D.n S) D.n:Int)).D by omega)
   omega
  rw [cQ this]; rfl
 have h27:(Qff D S E v).2=0\/(Qff D S E v).2=7:=by unfold Qff; split <;> simp
 unfold Qdr
 rw [Qwt,aC,aI (by decide),e1,aC,
  show (Af.mk p1.Which (p1.V.1,p1.V.2.1,p1.V.2.2.1,p1.V.2.2.2.1,p1.V.2.2.2.2.1,p1.V.2.2.2.2.2.1,p1.V.2.2.2.2.2.2.1,p1.V.2.2.2.2.2.2.2))=p1 from rfl,show (Af.mk p2.Which (p2.V.1,p2.V.2.1,p2.V.2.2.1,p2.V.2.2.2.1,p2.V.2.2.2.2.1,p2.V.2.2.2.2.2.1,p2.V.2.2.2.2.2.2.1,p2.V.2.2.2.2.2.2.2))=p2 from rfl,
  eS,aC,eE,aC,Q2k X.toVX hS,aC]
 dsimp only
 rw [aI (by decide),hchk,aC,aI (by decide),hlen,hlen2,aI (by simp),Qz6 X.toVX hS hE,aC,hprob,aC,aH (by omega),ev,Qz2 X.toVX hS hE hvn,aC,Q3s X.toVX hS hE hvn,aC]
 dsimp only
 rw [aI (by decide),aI (by decide),aI (by simp),aI (by simp),hq,aC,aI (by decide),hpos,aI (by simp),hagain,aC]
 dsimp only
 rw [hsame,aC]
 rcases h27 with h | h
 ·rw [h]; rfl
 ·rw [h]; rfl
end
end Go.Ab
namespace Go.Ab
open Go Go.Proofs Go.Proofs.YtgogkahhifkocaaDoor
open Go.ChangeShapes Go.WideShapes Go.ChangeAt Go.RowKit
abbrev dr_laid:List (String × DataW Unit):=[("math/bits.deBruijn32tab",Rows.laid_math_bits_deBruijn32tab),("math/bits.deBruijn64tab",Rows.laid_math_bits_deBruijn64tab)]
theorem dr_own:ownKnob Tryd.prog.godebug=none:=by kernel_rfl
theorem Q27:Tryd.prog.globalNamed "math/bits.deBruijn32tab" = some 0:=by kernel_rfl
theorem Q2u:Tryd.prog.globalNamed "math/bits.deBruijn64tab" = some 1:=by kernel_rfl
theorem dr_met (os:Os) (args:Array Value):laidMetH Tryd.prog dr_laid ((World.doorLaid Tryd.prog 19 os).forCall (fun _ _=>0) ⟨#[],args,[]⟩).memory :=
 laidMetH_of_parts3 (fuel:=8) (laidMet_of_run' 8 (by kernel_rfl) (by kernel_rfl)) (by kernel_rfl) (by kernel_rfl)
theorem dr_glob {W:World} (h:laidMetH Tryd.prog dr_laid W):Go.Ab.GlobIn W:=by
 rw [MakeChecks.laidMetH_plain _ _ _ (by kernel_rfl)] at h
 have h0:=Lib.tabIs_of_head (k:=.u8) (zs:=Go.Ab.tab0) (t:=251) (e:=5) (n:=32) Q27 (by kernel_rfl) (by kernel_rfl) (by kernel_rfl) (by kernel_rfl) (by kernel_rfl) h
 have h1:=Lib.tabIs_of_head (k:=.u8) (zs:=Go.Ab.tab1) (t:=252) (e:=5) (n:=64) Q2u (by kernel_rfl) (by kernel_rfl) (by kernel_rfl) (by kernel_rfl) (by kernel_rfl) h.tail
 intro g xs hg i v hv
 match g,hg with
 | 0,hg =>
  cases hg
  have hi:i < Go.Ab.tab0.length:=by have:=(aD.1 hv).1; simpa using this
  have:=h0.cell Q27 i hi
  rw [this]
  rw [bC] at hv
  simpa [List.getD,hi] using hv
 | 1,hg =>
  cases hg
  have hi:i < Go.Ab.tab1.length:=by have:=(aD.1 hv).1; simpa using this
  have:=h1.cell Q2u i hi
  rw [this]
  rw [bC] at hv
  simpa [List.getD,hi] using hv
 | n+2,hg=>cases hg
end Go.Ab
