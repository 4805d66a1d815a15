/- What functions compute. No conditions. -/
import Derived.Test.YtojklbpplceiiaaDoorW16
import Derived.Test.YtojklbpplceiiaaDoorRows
import Derived.Test.YtojklbpplceiiaaDoorEng7
import Derived.WalkKit
import Derived.ProofKit
import Derived.LaidMore
import Derived.Lib.LaidTab
import Derived.Stop.LaidErr
import Derived.Stop.Joined
import Derived.OpenShut
set_option linter.all false
namespace Go.Ab
open Go
set_option maxRecDepth 100000
set_option maxHeartbeats 1000000
theorem Qw6 {n k b:Nat} (hn:n≤6) (hk:k < n) (hb:b < n):zw ((zw ((k:Int)*(n:Int)))+(b:Int))=((k*n+b:Nat):Int):=by
 have h1:k*n≤36:=Nat.le_trans (Nat.mul_le_mul (show k≤6 by omega) hn) (by omega)
 have e:(k:Int)*(n:Int)=((k*n:Nat):Int):=by simp
 rw [e]
 generalize k*n=m at *
 have e1:zw (m:Int)=m:=w64 (by omega)
 rw [e1,w64 (by omega)]
 omega
theorem Qwx {n k b:Nat} (hk:k < n) (hb:b < n):k*n+b < n*n:=by
 have h1:(k+1)*n≤n*n:=Nat.mul_le_mul_right _ hk
 rw [Nat.succ_mul] at h1
 omega
theorem Qwn {n k b:Nat} (hb:b < n):(k*n+b) / n=k∧(k*n+b) % n=b:=by
 have h0:0 < n:=by omega
 constructor
 ·rw [Nat.add_comm,Nat.add_mul_div_right _ _ h0,Nat.div_eq_of_lt hb,Nat.zero_add]
 ·rw [Nat.add_comm,Nat.add_mul_mod_self_right,Nat.mod_eq_of_lt hb]
def Qcp (T:Nat → Nat) (b a:Nat):Nat := ((T b).testBit a).toNat
theorem Quc {T:Nat → Nat} {b a:Nat}:Qcp T b a≤1:=by unfold Qcp; cases (T b).testBit a <;> simp
theorem Qxt {n b:Nat} {T C:Nat → Nat} (hn:n≤6) (hT:L64 n T) (hb:b < n) (hC:∀i,i < n*n→C i≤100000) {body:Int × List Int→Option (Qf (Int × List Int) (List Int))}
  (hbd:∀s,body s=if (decide (s.1 < ((rowI n T).length:Int)))=true then
   (lkI s.2 (zw ((zw (s.1*(n:Int)))+(b:Int)))).bind fun a52=>(lkI (rowI n T) (b:Int)).bind fun a54 =>
    if 0≤s.1 then (lkI s.2 (zw ((zw (s.1*(n:Int)))+(b:Int)))).bind fun a56 =>
     some (.next (zw (s.1+1),(List.set s.2 (Int.toNat (zw ((zw (s.1*(n:Int)))+(b:Int)))) (zw (a52+(zw (zv (zb (Int.fdiv a54 (2^min (Int.toNat s.1) (IntKind.bits .u64))) &&& zb 1).toNat)))))))
    else none
   else some (.done s.2)) :
  Qb fuel body (0,rowI (n*n) C)=some (rowI (n*n) fun i=>C i+if i % n=b then Qcp T b (i / n) else 0):=by
 have h:=Yt (n:=n) (k0:=0) (by omega) (by omega) (fun i (x:List Int)=>(i,x)) (body:=body) (fun k=>rowI (n*n) fun i=>C i+if i % n=b∧i / n < k then Qcp T b (i / n) else 0) (rowI (n*n) fun i=>C i+if i % n=b then Qcp T b (i / n) else 0)
  (fun k _ hk=>by
   obtain ⟨d1,d2⟩:=Qwn (k:=k) hb
   have hlt:=Qwx hk hb
   rw [hbd]
   dsimp only
   rw [Zy,if_pos (dlt hk),Qw6 hn hk hb,Xn hlt,Option.bind_some,Xn hb,Option.bind_some,if_pos (Yj k),Option.bind_some,Qh4 (hT b hb) (by omega),Int.toNat_natCast]
   have hc:=hC _ hlt
   have hz:(if (k*n+b) % n=b∧(k*n+b) / n < k then Qcp T b ((k*n+b) / n) else 0)=0:=if_neg (by omega)
   rw [hz,Nat.add_zero]
   have e:zw (((C (k*n+b):Nat):Int)+zw (((T b).testBit k).toNat : Int))=((C (k*n+b)+Qcp T b k:Nat):Int):=by
    have:=Quc (T:=T) (b:=b) (a:=k)
    unfold Qcp at *
    have e1:zw (((T b).testBit k).toNat : Int)=(((T b).testBit k).toNat : Int):=w64 (by omega)
    rw [e1,w64 (by omega)]; omega
   rw [e,Qit]
   refine congrArg (fun F=>some (Qf.next (zw ((k:Int)+1),rowI (n*n) F))) ?_
   funext i
   by_cases e1:i=k*n+b
   ·subst e1
    rw [if_pos rfl,if_pos (by omega),d1]
   ·rw [if_neg e1]
    congr 1
    have:(i % n=b∧i / n < k)↔(i % n=b∧i / n < k+1):=by
     constructor
     ·rintro ⟨a,b⟩; exact ⟨a,by omega⟩
     ·rintro ⟨a,b2⟩
      refine ⟨a,?_⟩
      apply Classical.byContradiction
      intro hno
      have e2:i / n=k:=by omega
      have:=Nat.div_add_mod i n
      rw [e2,a,Nat.mul_comm] at this
      exact e1 this.symm
    simp only [this])
  (by
   rw [hbd]
   dsimp only
   rw [Zy,if_neg (nlt n)]
   refine congrArg (fun F=>some (Qf.done F)) ?_
   unfold rowI Kl
   refine List.map_congr_left fun i hi=>?_
   have hi:=List.mem_range.1 hi
   have:i / n < n:=by
    by_cases h0:n=0
    ·subst h0; simp at hi
    ·exact (Nat.div_lt_iff_lt_mul (by omega)).2 hi
   congr 2
   simp [this])
 rw [show ((0:Nat):Int)=0 from rfl] at h
 rw [←h]
 congr 2
 refine congrArg (rowI (n*n)) ?_
 funext i
 simp
theorem Qwg {n:Nat} {T C:Nat → Nat} (hn:n≤6) (hT:L64 n T) (hC:∀i,i < n*n→C i≤10000) {inner:Int × List Int→Int × List Int→Option (Qf (Int × List Int) (List Int))} {body:Int × List Int→Option (Qf (Int × List Int) (List Int))}
  (hin:∀(b:Nat) (t s:Int × List Int),t.1=(b:Int)→inner t s=if (decide (s.1 < ((rowI n T).length:Int)))=true then
   (lkI s.2 (zw ((zw (s.1*(n:Int)))+(b:Int)))).bind fun a52=>(lkI (rowI n T) (b:Int)).bind fun a54 =>
    if 0≤s.1 then (lkI s.2 (zw ((zw (s.1*(n:Int)))+(b:Int)))).bind fun a56 =>
     some (.next (zw (s.1+1),(List.set s.2 (Int.toNat (zw ((zw (s.1*(n:Int)))+(b:Int)))) (zw (a52+(zw (zv (zb (Int.fdiv a54 (2^min (Int.toNat s.1) (IntKind.bits .u64))) &&& zb 1).toNat)))))))
    else none
   else some (.done s.2))
  (hbd:∀s,body s=if (decide (s.1 < ((rowI n T).length:Int)))=true then (Qb fuel (inner s) (0,s.2)).bind fun x=>some (.next (zw (s.1+1),x)) else some (.done s.2)) :
  Qb fuel body (0,rowI (n*n) C)=some (rowI (n*n) fun i=>C i+Qcp T (i % n) (i / n)):=by
 have h:=Yt (n:=n) (k0:=0) (by omega) (by omega) (fun i (x:List Int)=>(i,x)) (body:=body) (fun k=>rowI (n*n) fun i=>C i+if i % n < k then Qcp T (i % n) (i / n) else 0) (rowI (n*n) fun i=>C i+Qcp T (i % n) (i / n))
  (fun b _ hb=>by
   rw [hbd]
   dsimp only
   rw [Zy,if_pos (dlt hb),Qxt (b:=b) hn hT hb (fun i hi=>by
    have:=hC i hi
    have:=Quc (T:=T) (b:=i % n) (a:=i / n)
    split <;> omega) (fun s=>hin b _ s rfl),Option.bind_some]
   refine congrArg (fun F=>some (Qf.next (zw ((b:Int)+1),rowI (n*n) F))) ?_
   funext i
   by_cases e1:i % n=b
   ·subst e1
    rw [if_neg (by omega),if_pos rfl,if_pos (by omega),Nat.add_zero]
   ·rw [if_neg e1,Nat.add_zero]
    have:i % n < b↔i % n < b+1:=by omega
    simp only [this])
  (by
   rw [hbd]
   dsimp only
   rw [Zy,if_neg (nlt n)]
   refine congrArg (fun F=>some (Qf.done F)) ?_
   unfold rowI Kl
   refine List.map_congr_left fun i hi=>?_
   have hi:=List.mem_range.1 hi
   have:i % n < n:=by
    by_cases h0:n=0
    ·subst h0; simp at hi
    ·exact Nat.mod_lt _ (by omega)
   congr 2
   simp [this])
 rw [show ((0:Nat):Int)=0 from rfl] at h
 rw [←h]
 congr 2
end Go.Ab
namespace Go.Ab
open Go
set_option maxRecDepth 100000
set_option maxHeartbeats 1000000
section
variable {n:Nat} {S:Nat → Nat}
def nM (n:Nat) (S:Nat → Nat) (k a b:Nat):Nat := ((memS n S).take k).countP fun x=>((x[b]?).getD 0).toNat.testBit a
theorem Qvs {k a b:Nat}:nM n S k a b≤(memS n S).length:=by
 unfold nM
 refine Nat.le_trans List.countP_le_length ?_
 rw [List.length_take]; omega
theorem Q0s {k:Nat} {T:Nat → Nat} (hk:k < (memS n S).length) (hT:(memS n S)[k]=rowI n T) {a b:Nat} (hb:b < n):nM n S (k+1) a b=nM n S k a b+Qcp T b a:=by
 unfold nM
 rw [List.take_succ_eq_append_getElem hk,List.countP_append,hT]
 congr 1
 rw [List.countP_cons,List.countP_nil,Qju hb]
 unfold Qcp
 cases h:(T b).testBit a <;> simp [h]
theorem Qu1:(memS n S).Nodup:=by
 unfold memS
 exact (Vh leL (Qbz n S)).nodup_iff.2 Qv2
theorem Qts {k:Nat} (hk:k+1 < (memS n S).length):leL ((memS n S)[k+1]) ((memS n S)[k]'(by omega))=false:=by
 have h1:=List.pairwise_iff_getElem.1 (Qb1 Qjz Qkt (Qbz n S)) k (k+1) (by unfold memS at hk; omega) (by unfold memS at hk; exact hk) (by omega)
 rw [Bool.eq_false_iff]
 intro h2
 have e:=Ql9 _ _ h1 h2
 exact List.pairwise_iff_getElem.1 (Qu1 (n:=n) (S:=S)) k (k+1) (by omega) hk (by omega) e
theorem Qsv {C:Nat → Nat} {a b:Nat} (hn:n≤6) (ha:a < n) (hb:b < n):lkI (rowI (n*n) C) (zw ((zw ((a:Int)*(n:Int)))+(b:Int)))=some ((C (a*n+b):Nat):Int):=by
 rw [Qw6 hn ha hb,Xn (Qwx ha hb)]
def cM (n:Nat) (S:Nat → Nat) (k i:Nat):Nat := nM n S k (i / n) (i % n)
theorem Qtc (hn1:1≤n) (hn:n≤5) (hS:Gd n S) (hc:Qs (rowI n S)=some 0) :
  Qb fuel (X6 (memS n S,0) (rowI n S)) (false,0,List.replicate (n*n) (0:Int))=some (Sum.inr (decide (rowI n S∈memS n S),rowI (n*n) (cM n S (memS n S).length))):=by
 have hml:=Qsb (n:=n) (S:=S) hn
 have hlen:(rowI n S).length=n:=Zy
 have hmem:∀k,(hk:k < (memS n S).length)→∃T,(memS n S)[k]=rowI n T∧Cls n S T:=fun k hk=>(Kc hS).1 (List.getElem_mem hk)
 have h:=Yt (n:=(memS n S).length) (k0:=0) (by omega) (by omega) (fun i (x:Bool × List Int)=>(x.1,i,x.2)) (body:=X6 (memS n S,0) (rowI n S))
  (fun k=>(decide (rowI n S∈(memS n S).take k),rowI (n*n) (cM n S k))) (Sum.inr (decide (rowI n S∈memS n S),rowI (n*n) (cM n S (memS n S).length)))
  (fun k _ hk=>by
   obtain ⟨T,hT,hT2⟩:=hmem k hk
   have t64:=Qvd (show n≤8 by omega) hT2.gd
   have hct:Qs (rowI n T)=some 0:=by
    rcases Q2i (show n≤7 by omega) t64 with ⟨_,_,h3,_⟩ | ⟨h2,_⟩
    ·exact h3
    ·obtain ⟨d,hd,hd2⟩:=Qkj (m:=6) (show n≤7 by omega) t64
     have:d=false:=Option.some.inj (hd.symm.trans h2)
     have:=hd2.2 ⟨by omega,hT2.gd⟩
     simp_all
   have heq:Va (rowI n S) (rowI n T)=some (true,0):=by
    rw [Qwz (by omega) hS (by omega) hT2.gd hc hct]
    have:eqv n n S T=true:=by
     unfold eqv
     refine decide_eq_true ⟨rfl,?_,hT2.cl.symm⟩
     exact (Qsz hS hT2.gd).2 fun u w hu hw=>(hT2.nr u w hu hw).symm
    rw [this]
   have hco:∀{inner:Int × List Int→Int × List Int→Option (Qf (Int × List Int) (List Int))} {body:Int × List Int→Option (Qf (Int × List Int) (List Int))} (hin) (hbd),Qb fuel body (0,rowI (n*n) (cM n S k))=some (rowI (n*n) (cM n S (k+1))):=fun {inner} {body} hin hbd=>by
    rw [Qwg (inner:=inner) (body:=body) (T:=T) (C:=cM n S k) (by omega) t64 (fun i hi=>by
     have:=Qvs (n:=n) (S:=S) (k:=k) (a:=i / n) (b:=i % n)
     unfold cM; omega) hin hbd]
    refine congrArg (fun F=>some F) ?_
    unfold rowI Kl
    refine List.map_congr_left fun i hi=>?_
    have hmod:i % n < n:=Nat.mod_lt _ (by omega)
    congr 1
    unfold cM
    rw [Q0s hk hT hmod]
   have hfound:∀x:Bool,x=decide (rowI n S∈(memS n S).take k)→(x || decide (rowI n T=rowI n S))=decide (rowI n S∈(memS n S).take (k+1)):=fun x hx=>by
    subst hx
    rw [List.take_succ_eq_append_getElem hk,hT,Bool.eq_iff_iff]
    simp only [Bool.or_eq_true,decide_eq_true_eq,List.mem_append,List.mem_singleton]
    constructor
    ·rintro (h | h)
     ·exact .inl h
     ·exact .inr h.symm
    ·rintro (h | h)
     ·exact .inl h
     ·exact .inr h.symm
   have hlt:(rowI n T).length=n:=Zy
   have hf:=hfound _ rfl
   unfold X6
   dsimp only
   rw [if_pos (dlt hk),Z1 hk,Option.bind_some,hT,heq,Option.bind_some,if_neg (by decide),if_neg (by decide),hlt,hlen,if_neg (by simp)]
   have hcmp:k > 0→(lkI (memS n S) (zw ((k:Int) - 1))).bind (fun a38=>Zl a38 (rowI n T))=some (cmpL ((memS n S)[k - 1]'(by omega)) (rowI n T))∧cmpL ((memS n S)[k - 1]'(by omega)) (rowI n T) < 0:=fun h0=>by
    obtain ⟨k',rfl⟩:∃m,k=m+1:=⟨k - 1,by omega⟩
    have e1:zw (((k'+1:Nat):Int) - 1)=(k':Int):=by rw [w64 (by omega)]; omega
    obtain ⟨T',hT',_⟩:=hmem k' (by omega)
    have hg:Qd4 ((memS n S)[k']'(by omega))=true:=by
     rw [hT']; unfold Qd4; rw [Zy]; exact Nat.ble_eq_true_of_le (by omega)
    rw [e1,Z1 (show k' < (memS n S).length by omega),Option.bind_some]
    refine ⟨Qr9 _ _ hg,(Qpa _ _).2 ?_⟩
    have:=Qts (n:=n) (S:=S) hk
    rw [hT] at this
    exact this
   by_cases h0:(k:Int) > 0
   ·obtain ⟨c1,c2⟩:=hcmp (by omega)
    rw [if_pos (decide_eq_true h0)]
    have hk1:k - 1 < (memS n S).length:=by omega
    have e1:zw ((k:Int) - 1)=((k - 1:Nat):Int):=by rw [w64 (by omega)]; omega
    rw [e1,Z1 hk1,Option.bind_some] at c1
    rw [e1,Z1 hk1,Option.bind_some,c1,Option.bind_some,if_neg (by simp; omega)]
    cases hd:decide (rowI n S∈(memS n S).take k) with
    | true =>
     rw [hd,Bool.true_or] at hf
     rw [if_pos rfl,hco (inner:=Jc (rowI n T) (rowI n S)) (body:=Qad (rowI n T) (rowI n S)) (fun b t s ht=>by unfold Jc; rw [ht,hlen]) (fun s=>rfl),Option.bind_some,←hf]
    | false =>
     rw [hd,Bool.false_or] at hf
     rw [if_neg (by decide),Qmu (by rw [hlt]; omega),Option.bind_some,hco (inner:=Ja (rowI n T) (rowI n S)) (body:=K9 (rowI n T) (rowI n S)) (fun b t s ht=>by unfold Ja; rw [ht,hlen]) (fun s=>rfl),Option.bind_some,hf]
   ·rw [if_neg (by simpa using h0)]
    cases hd:decide (rowI n S∈(memS n S).take k) with
    | true =>
     rw [hd,Bool.true_or] at hf
     rw [if_pos rfl,hco (inner:=V8 (rowI n T) (rowI n S)) (body:=Qah (rowI n T) (rowI n S)) (fun b t s ht=>by unfold V8; rw [ht,hlen]) (fun s=>rfl),Option.bind_some,←hf]
    | false =>
     rw [hd,Bool.false_or] at hf
     rw [if_neg (by decide),Qmu (by rw [hlt]; omega),Option.bind_some,hco (inner:=V7 (rowI n T) (rowI n S)) (body:=Qak (rowI n T) (rowI n S)) (fun b t s ht=>by unfold V7; rw [ht,hlen]) (fun s=>rfl),Option.bind_some,hf])
  (by
   unfold X6
   dsimp only
   rw [if_neg (nlt _),List.take_length])
 have hz:List.replicate (n*n) (0:Int)=rowI (n*n) (cM n S 0):=by
  apply List.ext_getElem
  ·simp [rowI,Kl]
  ·intro k h1 h2
   simp [rowI,Kl,cM,nM]
 rw [show ((0:Nat):Int)=0 from rfl,←hz] at h
 simpa using h
theorem Qul {p:Nat → Nat → Bool} {x:Int × Int}:x∈eL2 n p↔∃a b:Nat,a < n∧b < n∧p a b=true∧x=((a:Int),(b:Int)):=by
 unfold eL2
 rw [X1]
 constructor
 ·rintro ⟨a,_,ha,h⟩
  obtain ⟨b,_,hb,h⟩:=(X1 _).1 h
  split at h
  ·rename_i hp
   exact ⟨a,b,by omega,by omega,hp,List.mem_singleton.1 h⟩
  ·cases h
 ·rintro ⟨a,b,h1,h2,h3,rfl⟩
  refine ⟨a,by omega,by omega,(X1 _).2 ⟨b,by omega,by omega,?_⟩⟩
  rw [if_pos h3]; simp
theorem Qj3 (hn:n≤5) (hS:Gd n S) {a b:Nat} (hb:b < n):Qsp n S a b=true↔nM n S (memS n S).length a b=(memS n S).length:=by
 unfold nM Qsp
 rw [List.take_length,List.countP_eq_length,List.all_eq_true]
theorem Qxl (hn:n≤5) (hS:Gd n S) {a b:Nat} (ha:a < n) (hb:b < n) (h:near S a b=true):nM n S (memS n S).length a b+nM n S (memS n S).length b a=(memS n S).length:=by
 unfold nM
 rw [List.take_length]
 have e:(memS n S).countP (fun x=>((x[a]?).getD 0).toNat.testBit b)=(memS n S).countP (fun x=>!((x[b]?).getD 0).toNat.testBit a):=by
  refine List.countP_congr fun x hx=>?_
  obtain ⟨T,rfl,hT⟩:=(Kc hS).1 hx
  rw [Qju ha,Qju hb,Int.toNat_natCast,Int.toNat_natCast]
  obtain ⟨r,hr⟩:=Qa2 hT.gd
  have hn:=hT.nr a b ha hb
  rw [h] at hn
  unfold near at hn
  constructor
  ·intro h1
   rw [Bool.not_eq_true',Bool.eq_false_iff]
   intro h2
   have:=hr a ha b h1
   have:=hr b hb a h2
   omega
  ·intro h1
   rw [Bool.not_eq_true'] at h1
   rw [h1,Bool.or_false] at hn
   exact hn
 rw [e]
 have:=List.length_eq_countP_add_countP (l:=memS n S) (fun x=>((x[b]?).getD 0).toNat.testBit a)
 simp only [Bool.not_eq_true] at this
 rw [this]
 congr 1
 refine List.countP_congr fun x _=>?_
 cases ((x[b]?).getD 0).toNat.testBit a <;> simp
theorem Qrb (hn1:1≤n) (hn:n≤5) (hS:Gd n S) {O:Nat → Nat → Bool} (hA:Ju n S O) (hC:Ji n S O) {f:Bool} {N:Int} {e:Int} :
  Qb fuel (Xv (⟨N,eL2 n O,eL2 n fun a b=>decide (a < b) && lnB (near S) O a b⟩,e) (rowI n S) (f,rowI (n*n) (cM n S (memS n S).length)) (memS n S,0)) 0=some (Sum.inr ()):=by
 have hlen:(rowI n S).length=n:=Zy
 have hml:=Qsb (n:=n) (S:=S) hn
 have hself:rowI n S∈memS n S:=(Kc hS).2 ⟨S,rfl,Qgq hS⟩
 have hmpos:0 < (memS n S).length:=List.length_pos_of_mem hself
 have cm:∀a b,a < n→b < n→cM n S (memS n S).length (a*n+b)=nM n S (memS n S).length a b:=fun a b ha hb=>by
  obtain ⟨d1,d2⟩:=Qwn (k:=a) hb
  unfold cM; rw [d1,d2]
 have earr:=fun a b ha hb=>Q1a hn hS hA hC (a:=a) (b:=b) ha hb
 have inner:∀(l:List (Int × Int)) (i:Int),l.length≤36→(∀x∈l,∃a b:Nat,a < n∧b < n∧x=((a:Int),(b:Int))∧(i=0→nM n S (memS n S).length a b=(memS n S).length) ∧
   (i=1→nM n S (memS n S).length a b≠0∧nM n S (memS n S).length b a≠0∧nM n S (memS n S).length a b+nM n S (memS n S).length b a=(memS n S).length)) →
   Qb fuel (Zq l (rowI n S) (f,rowI (n*n) (cM n S (memS n S).length)) i (memS n S,0)) 0=some (Sum.inr ()):=fun l i hl36 hl=>by
  have h:=Yt (n:=l.length) (k0:=0) (by omega) (by omega) (fun i (_:Unit)=>i) (body:=Zq l (rowI n S) (f,rowI (n*n) (cM n S (memS n S).length)) i (memS n S,0)) (fun _=>()) (Sum.inr ())
   (fun k _ hk=>by
    obtain ⟨a,b,ha,hb,hx,h0,h1⟩:=hl _ (List.getElem_mem hk)
    have l1:=Qvs (n:=n) (S:=S) (k:=(memS n S).length) (a:=a) (b:=b)
    have l2:=Qvs (n:=n) (S:=S) (k:=(memS n S).length) (a:=b) (b:=a)
    unfold Zq
    rw [if_pos (dlt hk),Z1 hk,Option.bind_some,hx]
    dsimp only
    rw [if_neg (by simp),if_neg (by simp),hlen,if_neg (by simp; omega),if_neg (by simp; omega),Qsv (by omega) ha hb,Option.bind_some,Qsv (by omega) hb ha,Option.bind_some,cm a b ha hb,cm b a hb ha]
    have key1:i=1→(if (((nM n S (memS n S).length a b:Nat):Int)==0)=true then (some (.done (Sum.inl ())):Option (Qf Int (Unit ⊕ Unit))) else if (((nM n S (memS n S).length b a:Nat):Int)==0)=true then some (.done (Sum.inl ())) else if ((zw (((nM n S (memS n S).length a b:Nat):Int)+((nM n S (memS n S).length b a:Nat):Int))) != ((memS n S).length:Int))=true then some (.done (Sum.inl ())) else some (.next (zw ((k:Int)+1))))=some (.next (zw ((k:Int)+1))):=fun e=>by
     obtain ⟨g1,g2,g3⟩:=h1 e
     rw [if_neg (by simp; omega),if_neg (by simp; omega),w64 (by omega),if_neg]
     rw [bne_iff_ne]
     intro hne; exact hne (by omega)
    by_cases e0:i=0
    ·have g:=h0 e0
     have e1:¬ i=1:=by omega
     rw [if_pos (by simp [e0]),if_neg (by rw [bne_iff_ne]; intro hne; exact hne (by omega)),if_neg (by simp [e1])]
    ·rw [if_neg (by simp [e0])]
     by_cases e1:i=1
     ·rw [if_pos (by simp [e1])]
      exact key1 e1
     ·rw [if_neg (by simp [e1])])
   (by unfold Zq; rw [if_neg (nlt _)])
  rw [show ((0:Nat):Int)=0 from rfl] at h
  exact h
 have hl0:=inner (eL2 n O) 0 (Qur (by omega)) (fun x hx=>by
  obtain ⟨a,b,ha,hb,hp,rfl⟩:=Qul.1 hx
  refine ⟨a,b,ha,hb,rfl,fun _=>?_,fun h=>(by cases h)⟩
  rw [earr a b ha hb,Bool.and_eq_true] at hp
  exact (Qj3 hn hS hb).1 hp.2)
 have hl1:=inner (eL2 n fun a b=>decide (a < b) && lnB (near S) O a b) 1 (Qur (by omega)) (fun x hx=>by
  obtain ⟨a,b,ha,hb,hp,rfl⟩:=Qul.1 hx
  refine ⟨a,b,ha,hb,rfl,fun h=>(by cases h),fun _=>?_⟩
  rw [Bool.and_eq_true] at hp
  obtain ⟨g1,g2,g3⟩:=Kz.1 hp.2
  rw [earr a b ha hb,g1,Bool.true_and] at g2
  rw [earr b a hb ha,near_symm,g1,Bool.true_and] at g3
  have t:=Qxl hn hS ha hb g1
  have n1:¬ nM n S (memS n S).length a b=(memS n S).length:=fun h=>by rw [(Qj3 hn hS hb).2 h] at g2; cases g2
  have n2:¬ nM n S (memS n S).length b a=(memS n S).length:=fun h=>by rw [(Qj3 hn hS ha).2 h] at g3; cases g3
  omega)
 have h:=Yt (n:=2) (k0:=0) (by omega) (by omega) (fun i (_:Unit)=>i) (body:=Xv (⟨N,eL2 n O,eL2 n fun a b=>decide (a < b) && lnB (near S) O a b⟩,e) (rowI n S) (f,rowI (n*n) (cM n S (memS n S).length)) (memS n S,0)) (fun _=>()) (Sum.inr ())
  (fun k _ hk=>by
   unfold Xv
   rw [if_pos (decide_eq_true (by omega))]
   match k,hk with
   | 0,_ =>
    rw [Z1 (by simp),Option.bind_some]
    show (Qb fuel (Zq (eL2 n O) (rowI n S) (f,rowI (n*n) (cM n S (memS n S).length)) 0 (memS n S,0)) 0).bind _=_
    rw [hl0]; rfl
   | 1,_ =>
    rw [Z1 (by simp),Option.bind_some]
    show (Qb fuel (Zq (eL2 n fun a b=>decide (a < b) && lnB (near S) O a b) (rowI n S) (f,rowI (n*n) (cM n S (memS n S).length)) 1 (memS n S,0)) 0).bind _=_
    rw [hl1]; rfl)
  (by unfold Xv; rw [if_neg (by decide)])
 rw [show ((0:Nat):Int)=0 from rfl] at h
 exact h
end
theorem shares_true (p0:Qd) (h0:V9 p0):Kf p0=some true:=by
 obtain ⟨S,hg,hG,h5⟩:=Qxo (Qyd h0) (m:=5) (by omega)
 generalize hn:1+p0.N.toNat % 5=n at *
 have hn1:1≤n:=by omega
 have hS:=Qvd (by omega) hG
 have hlen:(rowI n S).length=n:=Zy
 have hg':Ys (Qd.mk p0.N (p0.Order.1,p0.Order.2.1,p0.Order.2.2.1,p0.Order.2.2.2.1,p0.Order.2.2.2.2.1,p0.Order.2.2.2.2.2) p0.Edges) 5=some (rowI n S):=hg
 have sg:Qs (rowI n S)=some 0∧Z4 (rowI n S)=some (prs n (near S),0):=by
  rcases Q2i (show n≤7 by omega) hS with ⟨_,_,h3,h4,_⟩ | ⟨h2,_⟩
  ·exact ⟨h3,h4⟩
  ·obtain ⟨d,hd,hd2⟩:=Qkj (m:=6) (show n≤7 by omega) hS
   have:d=false:=Option.some.inj (hd.symm.trans h2)
   have:=hd2.2 ⟨by omega,hG⟩
   simp_all
 obtain ⟨O,o1,hA,hC⟩:=Qp7 (n:=n) (S:=S) (by omega) hG
 have hcnt:=Q1j (by omega) hG hA
 have hp:=Q1n (n:=n) (N:=near S) (by omega)
 have hm:=Qtv hn1 h5 hG sg.1
 have hnn:(n:Int)*(n:Int)=((n*n:Nat):Int):=by simp
 have hn36:n*n≤36:=Nat.le_trans (Nat.mul_le_mul (show n≤6 by omega) (show n≤6 by omega)) (by omega)
 unfold Kf
 rw [Qys,Option.bind_some,if_neg (by decide),hg',Option.bind_some,hm,Option.bind_some,Qp8 sg.1,if_pos rfl,o1,Option.bind_some,Option.bind_some,sg.2,Option.bind_some]
 dsimp only
 rw [if_neg (by simp),if_neg (by simp),if_neg (by simp),hlen,if_neg (by simp)]
 rw [if_neg (by rw [w64 (by omega),bne_iff_ne]; intro hne; exact hne (by omega)),hnn]
 generalize hq:n*n=q at *
 have e1:zw (q:Int)=(q:Int):=w64 (by omega)
 rw [e1,if_pos (by omega),Int.toNat_natCast,←hq,Qtc hn1 h5 hG sg.1,Option.bind_some]
 dsimp only
 rw [Qrb hn1 h5 hG hA hC,Option.bind_some]
 dsimp only
 have hself:rowI n S∈memS n S:=(Kc hG).2 ⟨S,rfl,Qgq hG⟩
 rw [decide_eq_true hself]
#print axioms shares_true
end Go.Ab
namespace Go.Ab
open Go Go.Proofs Go.Proofs.YtojklbpplceiiaaDoor
open Go.ChangeShapes Go.WideShapes Go.ChangeAt Go.RowKit
abbrev dr_laid:List (String × DataW Unit):=[("math/bits.deBruijn32tab",Rows.laid_math_bits_deBruijn32tab),("math/bits.deBruijn64tab",Rows.laid_math_bits_deBruijn64tab)]
theorem dr_own:ownKnob Tryd.prog.godebug=none:=by kernel_rfl
theorem Qzn:Tryd.prog.globalNamed "math/bits.deBruijn32tab" = some 0:=by kernel_rfl
theorem Qzl:Tryd.prog.globalNamed "math/bits.deBruijn64tab" = some 1:=by kernel_rfl
theorem dr_met (os:Os) (args:Array Value):laidMetH Tryd.prog dr_laid ((World.doorLaid Tryd.prog 19 os).forCall (fun _ _=>0) ⟨#[],args,[]⟩).memory :=
 laidMetH_of_parts3 (fuel:=8) (laidMet_of_run' 8 (by kernel_rfl) (by kernel_rfl)) (by kernel_rfl) (by kernel_rfl)
theorem dr_glob {W:World} (h:laidMetH Tryd.prog dr_laid W):Go.Ab.GlobIn W:=by
 rw [MakeChecks.laidMetH_plain _ _ _ (by kernel_rfl)] at h
 have h0:=Lib.tabIs_of_head (k:=.u8) (zs:=Go.Ab.tab0) (t:=164) (e:=5) (n:=32) Qzn (by kernel_rfl) (by kernel_rfl) (by kernel_rfl) (by kernel_rfl) (by kernel_rfl) h
 have h1:=Lib.tabIs_of_head (k:=.u8) (zs:=Go.Ab.tab1) (t:=165) (e:=5) (n:=64) Qzl (by kernel_rfl) (by kernel_rfl) (by kernel_rfl) (by kernel_rfl) (by kernel_rfl) h.tail
 intro g xs hg i v hv
 match g,hg with
 | 0,hg =>
  cases hg
  have hi:i < Go.Ab.tab0.length:=by have:=(List.getElem?_eq_some_iff.1 hv).1; simpa using this
  have:=h0.cell Qzn i hi
  rw [this]
  rw [List.getElem?_map] at hv
  simpa [List.getD,hi] using hv
 | 1,hg =>
  cases hg
  have hi:i < Go.Ab.tab1.length:=by have:=(List.getElem?_eq_some_iff.1 hv).1; simpa using this
  have:=h1.cell Qzl i hi
  rw [this]
  rw [List.getElem?_map] at hv
  simpa [List.getD,hi] using hv
 | n+2,hg=>cases hg
end Go.Ab
