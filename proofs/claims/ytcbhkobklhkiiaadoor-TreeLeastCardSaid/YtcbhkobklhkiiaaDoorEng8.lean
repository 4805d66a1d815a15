/- Rules on plain values. No conditions. -/
import Derived.Test.YtcbhkobklhkiiaaDoorEng7
import Derived.Test.YtcbhkobklhkiiaaDoorEng5
import Derived.KernelRfl
import Derived.Test.YtcbhkobklhkiiaaDoorEng6
set_option linter.all false
namespace Go.Ab
section
variable {P:Program} {rd:Option Nat} {base:Nat} {ops:Array Oper} {st S:St} {Φ:AOut→Prop} {d:Option (List Sk)} {i:Nat} {c y:Code}
theorem sgz (k j:Nat) {S:St} (hk:RW P rd base ops none j S Φ) (h:Qc3 P false ops k i st=some S:=by kernel_rfl) (hj:i+k=j:=by rfl):RW P rd base ops none i st Φ:=sg false k j h hj hk
theorem sgy (k j:Nat) {S:St} (hk:RW P rd base ops (Qw d (Qow P false ops k i st)) j S Φ) (h:Qc3 P false ops k i st=some S:=by kernel_rfl) (hj:i+k=j:=by rfl):RW P rd base ops d i st Φ:=sg false k j h hj hk
theorem rgN {id:Nat} {S:St} (hk:Φ (.go .normal S)) (h:Qc3 P false ops ops.size 0 st=some S:=by kernel_rfl):WP P rd base (.region id ops false) st Φ :=
 Jk (sg false ops.size ops.size h (Nat.zero_add _) (Xp rfl hk))
theorem sqN {id:Nat} {S:St} (hk:WP P rd base y S Φ) (h:Qc3 P false ops ops.size 0 st=some S:=by kernel_rfl):WP P rd base (.seq (.region id ops false) y) st Φ :=
 Q1 (rgN hk h)
theorem wgc (live keep:List Nat) (S:St) (hk:WP P rd base c S Φ) (h:Qco base live keep st=some S:=by kernel_rfl):WP P rd base c st Φ:=Q10 (wk_gc h) hk
theorem rga {id:Nat} (hm:P.follows .mixedOrders=true) (h:RW P rd base ops (some []) 0 st Φ) (hB:Qwq ops=true:=by kernel_rfl):WP P rd base (.region id ops true) st Φ:=Q25 (by simp [hm]) (Q2n hB) h
def gt (o:Option St) (d:St):St:=match o with | some S=>S | none=>d
noncomputable def nx (P:Program) (ops:Array Oper) (k i:Nat) (st:St):St:=gt (Qc3 P false ops k i st) st
noncomputable def gx (base:Nat) (live keep:List Nat) (st:St):St:=gt (Qco base live keep st) st
noncomputable def lx (P:Program) (ops:Array Oper) (i:Nat) (st:St) (hv he:List LK) (b:Bool):St:=gt (Qwm P false ops i st hv he b) st
theorem Qfl {o:Option St} {d:St} (h:o.isSome=true):o=some (gt o d):=by
 cases o with
 | none=>cases h
 | some S=>rfl
theorem sz (k j:Nat) (hk:RW P rd base ops none j (nx P ops k i st) Φ) (h:(Qc3 P false ops k i st).isSome=true:=by kernel_rfl) (hj:i+k=j:=by rfl):RW P rd base ops none i st Φ:=sg false k j (Qfl h) hj hk
theorem sy (k j:Nat) (hk:RW P rd base ops (Qw d (Qow P false ops k i st)) j (nx P ops k i st) Φ) (h:(Qc3 P false ops k i st).isSome=true:=by kernel_rfl) (hj:i+k=j:=by rfl):RW P rd base ops d i st Φ:=sg false k j (Qfl h) hj hk
theorem rn {id:Nat} (hk:Φ (.go .normal (nx P ops ops.size 0 st))) (h:(Qc3 P false ops ops.size 0 st).isSome=true:=by kernel_rfl):WP P rd base (.region id ops false) st Φ:=rgN hk (Qfl h)
theorem sq {id:Nat} (hk:WP P rd base y (nx P ops ops.size 0 st) Φ) (h:(Qc3 P false ops ops.size 0 st).isSome=true:=by kernel_rfl):WP P rd base (.seq (.region id ops false) y) st Φ:=sqN hk (Qfl h)
theorem wg (live keep:List Nat) (hk:WP P rd base c (gx base live keep st) Φ) (h:(Qco base live keep st).isSome=true:=by kernel_rfl):WP P rd base c st Φ:=wgc live keep _ hk (Qfl h)
theorem sl (nf:Bool) (hv he:List LK) (b:Bool) (hn:nf=false) (hk:RW P rd base ops (Qw d [Qtw P nf ops i st]) (i+1) (lx P ops i st hv he b) Φ) (h:(Qwm P false ops i st hv he b).isSome=true:=by kernel_rfl):RW P rd base ops d i st Φ:=by
 subst hn; exact sgL false hv he b (Qfl h) hk
theorem wwh {σ ρ R:Type} {n:Nat} {body:σ→Option (Qh σ ρ)} {K:ρ→Option R} {r:R} {s0:σ} (h:(Qa n body s0).bind K=some r) (I:σ→St) (Ex:ρ→AOut→Prop) (hw:Wk P base st (I s0))
  (round:∀s o,body s=some o→WP P rd base c (I s) (Qe1 P base I Ex o)) (k:∀x,K x=some r→∀out,Ex x out→Φ out):WP P rd base (.loop c) st Φ:=Qt1 s0 hw h round k
theorem wbz {R:Type} {b:Bool} {A B:Option R} {r:R} {x:Code} {op:Operand} (h:(if b=true then A else B)=some r) (h1:b=true→A=some r→WP P rd base x st Φ) (h2:b=false→B=some r→WP P rd base y st Φ)
  (he:evo (lk st.slots) op=some (.bool b):=by kernel_rfl):WP P rd base (.cond op x y) st Φ:=Qqh he (fun hb=>h1 hb (by rw [hb] at h; simpa using h)) (fun hb=>h2 hb (by rw [hb] at h; simpa using h))
theorem rwg (live keep:List Nat) (hk:RW P rd base ops none i (gx base live keep st) Φ) (h:(Qco base live keep st).isSome=true:=by kernel_rfl):RW P rd base ops none i st Φ:=Q18 (wk_gc (Qfl h)) hk
theorem ez {o:Option St} {Q:St→Prop} (hk:Q (gt o ⟨[],[],0⟩)) (h:o.isSome=true:=by kernel_rfl):∃S,o=some S∧Q S:=⟨_,Qfl h,hk⟩
theorem wcT {x:Code} {op:Operand} (h:WP P rd base x st Φ) (he:evo (lk st.slots) op=some (.bool true):=by kernel_rfl):WP P rd base (.cond op x y) st Φ:=Qty he h
theorem wcF {x:Code} {op:Operand} (h:WP P rd base y st Φ) (he:evo (lk st.slots) op=some (.bool false):=by kernel_rfl):WP P rd base (.cond op x y) st Φ:=Qto he h
theorem rgd {acc:List Sk} (h:Φ (.go .normal st)) (hi:i=ops.size:=by rfl) (hc:Qgo ops.toList acc=true:=by kernel_rfl):RW P rd base ops (some acc) i st Φ:=Qud hi hc h
theorem kr {α:Sort _} {a b:α} (h:a=b:=by kernel_rfl):a=b:=h
def gt0 (o:Option St):St:=match o with | some S=>S | none=>⟨[],[],0⟩
theorem gE {o:Option St} (h:o.isSome=true:=by kernel_rfl):o=some (gt0 o):=by
 cases o with
 | none=>cases h
 | some S=>rfl
theorem gF {α:Type} {o:α→Option St} (h:∀x,(o x).isSome=true:=by (intro _; kernel_rfl)):∀x,o x=some (gt0 (o x)):=fun x=>gE (h x)
def Q14 (b:Bool):List Nat → List (Nat × AV)→List (Nat × AV)
 | [],s=>s
 | t::ts,s=>Q14 b ts (setS s t (.bool b))
def pB (ts:List Nat) (b:Bool) (st:St):St:=⟨Q14 b ts st.slots,st.objs,st.nt⟩
def setLen (n:Nat):AV→AV
 | .ref o i _=>.ref o i n
 | .lin o i _=>.lin o i n
 | x=>x
def Q17 (n:Nat):List Nat → List (Nat × AV)→List (Nat × AV)
 | [],s=>s
 | t::ts,s=>Q17 n ts (match lk s t with | some x=>setS s t (setLen n x) | none=>s)
def pL (ts:List Nat) (n:Nat) (st:St):St:=⟨Q17 n ts st.slots,st.objs,st.nt⟩
theorem wb (ts:List Nat) {R:Type} {b:Bool} {A B:Option R} {r:R} (h:(if b=true then A else B)=some r) (h1:b=true→A=some r→WP P rd base c (pB ts true st) Φ) (h2:b=false→B=some r→WP P rd base c (pB ts false st) Φ) (hS:st=pB ts b st:=by kernel_rfl):WP P rd base c st Φ:=by
 rw [hS]; exact Q43 (S:=fun b=>pB ts b st) h h1 h2
theorem rb (ts:List Nat) {R:Type} {b:Bool} {A B:Option R} {r:R} (h:(if b=true then A else B)=some r) (h1:b=true→A=some r→RW P rd base ops d i (pB ts true st) Φ) (h2:b=false→B=some r→RW P rd base ops d i (pB ts false st) Φ) (hS:st=pB ts b st:=by kernel_rfl):RW P rd base ops d i st Φ:=by
 rw [hS]; exact Q45 (S:=fun b=>pB ts b st) h h1 h2
theorem rk (ts:List Nat) {b c':Bool} (hb:b=c') (h:RW P rd base ops d i (pB ts c' st) Φ) (hS:st=pB ts b st:=by kernel_rfl):RW P rd base ops d i st Φ:=by rw [hS,hb]; exact h
theorem Qw1 {α R:Type} {G:Option α} {K:α→Option R} {f:FuncId} {us:List AV} {rv:α→AV} {ro:α→List AObj} {r:R} (hb:Qcj P f=true)
  (hc:∀x,G=some x→Qx P f us (.ret (rv x) (ro x))) (h:G.bind K=some r)
  (k:∀x,G=some x→K x=some r→RW P rd base ops (Qw d [Qhp st [] (rv x) (ro x)]) (i+1) (gt0 (Qbl ops i st [] (rv x) (ro x))) Φ)
  (hi:Zs ops i st=some (f,us):=by kernel_rfl) (hsn:Qu (Qs st.sto Qm) us=some (us,[]):=by kernel_rfl)
  (hS:∀x,(Qbl ops i st [] (rv x) (ro x)).isSome=true:=by (intro _; kernel_rfl)):RW P rd base ops d i st Φ :=
 Qr9 hi hb hsn hc (gF hS) h k
end
abbrev z1:List Int→AV:=eL true eI
abbrev z2:List (List Int)→AV:=eL false z1
abbrev zw:Int→Int:=IntKind.i64.wrap
abbrev zv:Int→Int:=IntKind.u64.wrap
abbrev zb:Int → BitVec (IntKind.bits .u64):=BitVec.ofInt (IntKind.bits .u64)
abbrev zt:Int→Nat := Int.toNat
abbrev zn {α:Type} (l:List α):Int:=(l.length:Int)
end Go.Ab
namespace Go.Ab
def Ve {σ ρ:Type} (F:(σ→Option ρ)→σ→Option ρ):Nat → σ→Option ρ
 | 0,_=>none
 | n+1,s=>F (Ve F n) s
def Qe4 (P:Program) (N:Nat) (c:Code) {σ ρ:Type} (I:σ→St) (E:ρ→St) (d:σ→Option ρ):Prop :=
 ∀s x,d s=some x→WP P none N c (I s) (fun o=>o=.go .ret (E x)∨o=.go .normal (E x))
theorem Qt7 {P:Program} {N:Nat} {c:Code} {σ ρ:Type} {I:σ→St} {E:ρ→St} {F:(σ→Option ρ)→σ→Option ρ}
  (step:∀d,Qe4 P N c I E d→∀s x,F d s=some x→WP P none N c (I s) (fun o=>o=.go .ret (E x)∨o=.go .normal (E x))):∀n,Qe4 P N c I E (Ve F n)
 | 0=>fun s x h=>by cases h
 | n+1=>fun s x h=>step _ (Qt7 step n) s x h
section
variable {P:Program} {rd:Option Nat} {base:Nat} {ops:Array Oper} {st:St} {Φ:AOut→Prop} {i:Nat}
theorem Q5k {σ ρ R:Type} {N:Nat} {c:Code} {I:σ→St} {E:ρ→St} {d:σ→Option ρ} {K:ρ→Option R} {r:R} {f:FuncId} {fn:Func} {as0:List AV} (s0:σ)
  (hi:Zs ops i st=some (f,as0)) (hf:P.funcs[f]?=some fn) (hb:fn.body=some c) (hn:(fn.name == "runtime.NumGoroutine")=false) (hle:Nat.ble as0.length fn.ntmps=true)
  (h0:(⟨Vu 0 as0,st.objs,fn.ntmps⟩:St)=I s0) (hN:st.objs.length=N) (IH:Qe4 P N c I E d) (h:(d s0).bind K=some r)
  (k:∀x,K x=some r→∃S,Qiw P fn ops i st (.go .ret (E x))=some S∧RW P rd base ops none (i+1) S Φ):RW P rd base ops none i st Φ:=by
 cases hx:d s0 with
 | none=>rw [hx] at h; cases h
 | some x =>
  rw [hx] at h
  refine Q3u hi hf hb hn hle ?_
  rw [h0,hN]
  obtain ⟨out,h1,h2⟩:=IH s0 x hx
  refine ⟨out,h1,?_⟩
  rcases h2 with rfl | rfl
  ·exact k x h
  ·obtain ⟨S,k1,k2⟩:=k x h
   exact ⟨S,by rw [←k1]; rfl,k2⟩
end
section
variable {P:Program} {rd:Option Nat} {base:Nat} {ops:Array Oper} {st:St} {Φ:AOut→Prop} {i:Nat}
theorem Q5r {σ ρ R:Type} {N:Nat} {c:Code} {I:σ→St} {E:ρ→St} {F:(σ→Option ρ)→σ→Option ρ} {K:ρ→Option R} {r:R} {f:FuncId} {fn:Func} {as0:List AV} (s0:σ)
  (hi:Zs ops i st=some (f,as0)) (hf:P.funcs[f]?=some fn) (hb:fn.body=some c) (hn:(fn.name == "runtime.NumGoroutine")=false) (hle:Nat.ble as0.length fn.ntmps=true)
  (h0:(⟨Vu 0 as0,st.objs,fn.ntmps⟩:St)=I s0) (hN:st.objs.length=N) (h:(Ve F fuel s0).bind K=some r)
  (step:∀d,Qe4 P N c I E d→∀s x,F d s=some x→WP P none N c (I s) (fun o=>o=.go .ret (E x)∨o=.go .normal (E x)))
  (k:∀x,K x=some r→∃S,Qiw P fn ops i st (.go .ret (E x))=some S∧RW P rd base ops none (i+1) S Φ):RW P rd base ops none i st Φ :=
 Q5k s0 hi hf hb hn hle h0 hN (Qt7 step fuel) h k
end
end Go.Ab
namespace Go.Ab
open Go.RowKit
section
variable {P:Program} {ops:Array Oper} {G:Array Bool→Nat → Foot} {Q:Slots→Sto→Prop} {s:Slots} {σ:Sto}
end
section
variable {P:Program} {ops:Array Oper} {G:Array Bool→Nat → Foot} {s s':Slots} {σ:Sto} {B:Nat} {W0 W:World} {D:List Nat} {M:CM} {ι:Inj} {a:Act} {Q:Exit→Act→World→Prop} {QA:Slots→Sto→Prop}
end
section
variable {P:Program} {rd:Option Nat} {base:Nat} {ops ops0:Array Oper} {st st1 st2 st3:St}
theorem Qbz.symm {F G:Foot} (h:Qbz F G):Qbz G F:=⟨h.b,h.a,fun e he e' he'=>Ne.symm (h.c e' he' e he)⟩
end
section
variable {P:Program} {rd:Option Nat} {base:Nat} {ops:Array Oper} {st st1 Sa Sb S3 S:St} {Φ:AOut→Prop} {i:Nat}
end
end Go.Ab
namespace Go.Ab
open Go.RowKit
def Qd5 {α β:Type} (l:List α) (r:Option β) (f:α→List α→Option β):Option β:=match l with
 | []=>r
 | a::t=>f a t
section
variable {P:Program} {rd:Option Nat} {base:Nat} {ops:Array Oper} {Φ:AOut→Prop} {c:Code}
end
end Go.Ab
namespace Go.Ab
open Go.RowKit
def hole {α:Type} (enc:α→AV) (L:List α) (n:Int) (A:AV):List AV:=(L.map enc).set n.toNat A
theorem Qte {α:Type} {enc:α→AV} {L:List α} {n:Int} {A:AV}:(hole enc L n A).length=L.length:=by simp [hole]
theorem Qm0 {α:Type} {enc:α→AV} {L:List α} {n:Int} {A:AV} {a:α} (ha:lkI L n=some a):(hole enc L n A)[n.toNat]?=some A:=by
 obtain ⟨h1,h2,h3⟩:=Xe ha
 unfold hole
 rw [List.getElem?_set_self (by simpa using h2)]
theorem Qnr {α:Type} {enc:α→AV} {L:List α} {n:Int} {A B:AV}:(hole enc L n A).set n.toNat B=hole enc L n B:=by simp [hole,List.set_set]
theorem Qzi {α:Type} {enc:α→AV} {L:List α} {n:Int} {a:α} (ha:lkI L n=some a):hole enc L n (enc a)=L.map enc:=by
 obtain ⟨h1,h2,h3⟩:=Xe ha
 unfold hole
 apply List.ext_getElem?
 intro i
 by_cases e:n.toNat = i
 ·subst e; rw [List.getElem?_set_self (by simpa using h2)]; simp [h3]
 ·rw [List.getElem?_set_ne e]
theorem Q03 {α:Type} {enc:α→AV} {L:List α} {n:Int} {b:α}:hole enc L n (enc b)=(L.set n.toNat b).map enc:=by
 unfold hole; rw [List.map_set]
section
variable {P:Program} {base:Nat} {st st':St}
theorem Qvf (o:Nat) {α:Type} {enc:α→AV} {L:List α} {n:Int} {a:α} {A:AV} {bx ro nr fl:Bool} {w:Nat} (ha:lkI L n=some a) (hA:enc a=A) (ho:st.objs[o]?=some (.row bx ro nr fl w (L.map enc)))
  (hS:(⟨st.slots,st.objs.set o (.row bx ro nr fl w (hole enc L n A)),st.nt⟩:St)=st'):Wk P base st st':=by
 subst hA
 rw [Qzi ha] at hS
 refine Q5a ?_
 rw [←hS]
 have:st.objs.set o (.row bx ro nr fl w (L.map enc))=st.objs:=by
  obtain ⟨h1,h2⟩:=List.getElem?_eq_some_iff.1 ho
  apply List.ext_getElem?
  intro i
  by_cases e:o=i
  ·subst e; rw [List.getElem?_set_self h1,ho]
  ·rw [List.getElem?_set_ne e]
 rw [this]
theorem Qji (o c w:Nat) (nr fl:Bool) {α:Type} {enc:α→AV} {L:List α} {n:Int} {a:α} {A A' y:AV} {bx nr0 fl0:Bool} {w0:Nat} (ha:lkI L n=some a) (ho:st.objs[o]?=some (.row bx false nr0 fl0 w0 (hole enc L n A)))
  (hy:A.flat[c]?=some y) (hn:(Qkn y && Nat.blt 0 w && Nat.blt st.objs.length BIG)=true) (hput:Qce A c (.ref st.objs.length 0 0)=some A')
  (hS:(⟨st.slots,st.objs.set o (.row bx false false false w0 (hole enc L n A'))++[.row false false nr fl w []],st.nt⟩:St)=st'):Wk P base st st':=by
 refine Q6 o n.toNat c w nr fl ?_
 unfold Qsm
 simp only [ho,Qm0 ha,hy,hn,if_true,hput,Qnr,hS]
theorem Q1i (o:Nat) {α:Type} {enc:α→AV} {L:List α} {n:Int} {a:α} {A y:AV} {ids:List Nat} {bx ro nr fl:Bool} {w:Nat} (ha:lkI L n=some a) (ho:st.sto o=some (.row bx ro nr fl w (hole enc L n A))) (hno:Qdb ids o=false)
  (hsn:Qs st.sto Qm A=some (y,ids)) (h:Qjf o n.toNat y ids st=some st'):Wk P base st st' :=
 Qtm o n.toNat ho (Qm0 ha) hno hsn h
theorem Qv1 {α:Type} {enc:α→AV} (h:∀a,(enc a).nr=true):∀(L:List α),AV.nrL (L.map enc)=true
 | []=>rfl
 | a::L=>by simp [AV.nrL,h a,Qv1 h L]
theorem wk_rowT (o:Nat) {α:Type} {enc:α→AV} {L:List α} {bx ro nr fl:Bool} {w:Nat} (hnr:∀a,(enc a).nr=true) (ho:st.objs[o]?=some (.row bx ro nr fl w (L.map enc)))
  (hS:(⟨st.slots,st.objs.set o (.row bx ro true false w (L.map enc)),st.nt⟩:St)=st'):Wk P base st st':=by
 subst hS
 intro B W0 D0 dl M ι a W hsim
 have hlt:=(List.getElem?_eq_some_iff.1 ho).1
 have hob:=hsim.lt ho
 have hos:=Qfs hob ho rfl
 obtain ⟨p,hp,hrow⟩:=hsim.rel.row o bx ro nr fl w _ hos
 refine ⟨M,ι,.refl _ _,.refl _ _,⟨?_,hsim.slots,hsim.nt,hsim.df,fun k hk=>hsim.new k (by simpa using hk),by simpa using hsim.big⟩⟩
 show Rel P B W0 (dl++D0) M ι (sto (st.objs.set o _)) W
 rw [Qcc ho rfl rfl hob]
 refine hsim.rel.lessRow (nr:=nr) (fl:=fl) (xs:=L.map enc) hos rfl (fun i x x' hi hi'=>⟨[],?_⟩) (fun _=>Qv1 hnr L) (fun hf=>by cases hf)
 rw [hi] at hi'; cases hi'
 cases x <;> simp [Qz,Qe3]
end
theorem Qnh {α:Type} {f:AV→Option (AV × List Nat)} {enc:α→AV} (hE:∀a,f (enc a)=some (enc a,[])) {A A':AV} {ids:List Nat} (hA:f A=some (A',ids)):∀(L:List α) (k:Nat),k < L.length→Qu f ((L.map enc).set k A)=some ((L.map enc).set k A',ids)
 | [],k,h=>by simp at h
 | a::L,0,h=>by
  have hr:∀L:List α,Qu f (L.map enc)=some (L.map enc,[]):=by
   intro L
   induction L with
   | nil=>rfl
   | cons a L ih=>simp [Qu,hE,ih]
  simp [Qu,hA,hr]
 | a::L,k+1,h=>by
  simp only [List.map_cons,List.set_cons_succ,Qu,hE,Qnh hE hA L k (by simpa using h),List.nil_append]
theorem Qq6 {σ:Sto} {α:Type} {enc:α→AV} {L:List α} {N:Int} {a:α} {ob w n:Nat} {bx ro fl:Bool} {A A':AV} {ids:List Nat} (hrow:σ ob=some (.row bx ro false fl w (hole enc L N A))) (ha:lkI L N=some a)
  (hE:∀a,Qs σ n (enc a)=some (enc a,[])) (hA:Qs σ n A=some (A',ids)):Qs σ (n+1) (.ref ob 0 L.length)=some (.lst false (hole enc L N A'),ob::ids):=by
 obtain ⟨h1,h2,h3⟩:=Xe ha
 have hm:Qu (Qs σ n) (hole enc L N A)=some (hole enc L N A',ids):=Qnh hE hA L _ h2
 have hl:(hole enc L N A').take L.length=hole enc L N A':=List.take_of_length_le (by simp [hole])
 simp [Qs,hrow,hm,Qte,hl]
theorem Qxc {M:CM} {ι:Inj} {v:Value} {fl:Bool} {xs:List AV} (hs:List LK) (h:Qb M ι v (.lst fl xs)):Qb M ι v (.lst false (xs.map (Qz hs))):=by
 cases h with
 | lst0=>exact .lst0 _ _
 | lst b off cap w _ _ f hcap hfl hc hM hr =>
  have key:∀(i j:Nat) (x y:AV),(xs.map (Qz hs))[i]?=some x→x.flat[j]?=some y→∃x0 y0 h,xs[i]?=some x0∧x0.flat[j]?=some y0∧y=LK.ap h y0:=fun i j x y hi hj=>by
   rw [List.getElem?_map,Option.map_eq_some_iff] at hi
   obtain ⟨x0,e1,rfl⟩:=hi
   have hsh:=hc x0 (List.mem_of_getElem? e1)
   obtain ⟨hs',e2,_⟩:=Qd3 hs (x:=x0) hsh.form
   rw [e2] at hj
   obtain ⟨h,y0,e3,e4⟩:=Qi2 hs' _ j y hj
   exact ⟨x0,y0,h,e1,e3,e4⟩
  have:=Qb.lst (M:=M) (ι:=ι) b off cap w false (xs.map (Qz hs)) f (by simpa using hcap) (fun h=>by cases h) (fun x hx=>by
   simp only [List.mem_map] at hx
   obtain ⟨z,hz,rfl⟩:=hx
   exact Qi1 hs (hc z hz)) (fun i j x y hi hj=>by
   obtain ⟨x0,y0,h,e1,e2,_⟩:=key i j x y hi hj
   exact hM i j x0 y0 e1 e2) (fun i j x y hi hj=>by
   obtain ⟨x0,y0,h,e1,e2,rfl⟩:=key i j x y hi hj
   exact LK.ap_rep h (hr i j x0 y0 e1 e2))
  simpa using this
def Qcr (x y:AV):Prop:=∀(M:CM) (v:Value),Qb M noInj v x→Qb M noInj v y
theorem Qcr.refl {x:AV}:Qcr x x:=fun _ _ h=>h
theorem Qcr.lst {fl:Bool} {xs ys:List AV} (hs:List LK) (h:xs.map (Qz hs)=ys):Qcr (.lst fl xs) (.lst false ys):=fun M v hr=>by subst h; exact Qxc hs hr
inductive Jp:List AV→List AV→Prop
 | nil:Jp [] []
 | cons {x y:AV} {xs ys:List AV} (h:Qcr x y) (hc:y.cell=x.cell) (k:Jp xs ys):Jp (x::xs) (y::ys)
theorem Jp.at {xs ys:List AV} (h:Jp xs ys):xs.length=ys.length∧∀(j:Nat) (y:AV),ys[j]?=some y→∃x,xs[j]?=some x∧Qcr x y∧y.cell=x.cell:=by
 induction h with
 | nil=>exact ⟨rfl,fun j y h=>by simp at h⟩
 | cons h hc k ih =>
  refine ⟨by simp [ih.1],fun j y hj=>?_⟩
  cases j with
  | zero=>simp at hj; subst hj; exact ⟨_,rfl,h,hc⟩
  | succ j=>exact ih.2 j y (by simpa using hj)
theorem Qcr.agg {xs ys:List AV} (h:Jp xs ys):Qcr (.agg xs) (.agg ys):=fun M v hr=>by
 cases hr with
 | agg cs' _ hsz hc hrr =>
  obtain ⟨hl,hat⟩:=h.at
  refine .agg cs' _ (by rw [←hl]; exact hsz) (fun y hy=>?_) (fun j v y hv hy=>?_)
  ·obtain ⟨j,hj,rfl⟩:=List.mem_iff_getElem.1 hy
   obtain ⟨x,e1,_,e3⟩:=hat j _ (List.getElem?_eq_getElem hj)
   rw [e3]; exact hc x (List.mem_of_getElem? e1)
  ·obtain ⟨x,e1,e2,_⟩:=hat j y hy
   exact e2 M v (hrr j v x hv e1)
theorem Qx.argsE {P:Program} {f:FuncId} {us ws:List AV} {co:Xj} (hw:Jp us ws) (h:Qx P f ws co):Qx P f us co:=by
 intro W M vs h1 h2 h3
 obtain ⟨hl,hat⟩:=hw.at
 refine h W M vs h1 (by rw [←hl]; exact h2) (fun j v y hv hy=>?_)
 obtain ⟨x,e1,e2,_⟩:=hat j y hy
 exact e2 M v (h3 j v x hv e1)
section
variable {P:Program} {rd:Option Nat} {base:Nat} {ops:Array Oper} {st S:St} {Φ:AOut→Prop} {d:Option (List Sk)} {i:Nat}
theorem Qdm {α:Type} {enc:α→AV} {L:List α} {n:Int} {a:α} {A:AV} {ob w:Nat} {ro nr fl:Bool} (hi:Qb6 P ops i st=some (.ref ob 0 L.length,n,w)) (hrow:st.sto ob=some (.row false ro nr fl w (hole enc L n A))) (ha:lkI L n=some a)
  (hS:Zk ops i st (some (.ptr ob n.toNat 0)) []=some S) (k:RW P rd base ops (Qw d [([],[ob])]) (i+1) S Φ):RW P rd base ops d i st Φ:=by
 obtain ⟨h1,h2,_⟩:=Xe ha
 exact Qxn hi hrow h1 h2 (.inl rfl) hS k
theorem Xr {α:Type} {enc:α→AV} {L:List α} {n:Int} {a:α} {A:AV} {ob c w:Nat} {ro nr fl:Bool} (hp:Qag ops i st=some (ob,n.toNat,c)) (hrow:st.sto ob=some (.row false ro nr fl w (hole enc L n A))) (ha:lkI L n=some a)
  (hS:Qfn P ops i st c A=some S) (k:RW P rd base ops (Qw d [([],[ob])]) (i+1) S Φ):RW P rd base ops d i st Φ :=
 Qse hp hrow (Qm0 ha) (.inl rfl) hS k
theorem Qei {α:Type} {enc:α→AV} {L:List α} {n:Int} {a:α} {A A' v:AV} {ob c w:Nat} (hp:Qag ops i st=some (ob,n.toNat,c)) (hrow:st.sto ob=some (.row false false false false w (hole enc L n A))) (ha:lkI L n=some a)
  (hv:Qg1 P ops i st=some v) (hput:Qce A c v=some A') (hS:Zk ops i st none [(ob,.row false false false false w (hole enc L n A'))]=some S) (hl:Nat.beq S.objs.length st.objs.length=true)
  (k:RW P rd base ops (Qw d [([ob],[ob])]) (i+1) S Φ):RW P rd base ops d i st Φ:=by
 obtain ⟨o,t,x0,y,T,ho,hop,hT,hx,hy,hc⟩:=Qct hp hv
 refine Y5 (nf:=true) (fr:=st.objs.length) (rds:=[ob]) ho ?_ hS (Nat.eq_of_beq_eq_true hl) k
 unfold Zq
 rw [hop]
 simp only [Xa,Bool.false_eq_true,if_false]
 unfold evalOp
 rw [hop]
 simp only [hT,hx,hy,hrow,Qm0 ha,hc,if_true,Bool.or_true,Bool.true_or,hput,frz,Qcq,List.contains_nil,Bool.false_eq_true,if_false,List.nil_append,Z3,Bool.false_and,Qnr]
end
theorem Qdj {α:Type} {enc:α→AV} {L:List α} {n:Int} {A:AV} {b:α}:(hole enc L n A).set n.toNat (enc b)=(L.set n.toNat b).map enc:=by rw [Qnr,Q03]
theorem Qne {α β:Type} {enc:α→AV} {enc2:β→AV} {conv:α→β} {L:List α} {n:Int} {A:AV} {b:β} (hs:List LK) (h:∀a,Qz hs (enc a)=enc2 (conv a)) (hA:Qz hs A=enc2 b) :
  (hole enc L n A).map (Qz hs)=((L.map conv).set n.toNat b).map enc2:=by
 have e:Qz hs ∘ enc=enc2 ∘ conv:=funext h
 unfold hole
 rw [List.map_set,List.map_set,List.map_map,List.map_map,hA,e]
def Q4s {α β:Type}:α ⊕ β→Option α
 | .inl a=>some a
 | .inr _=>none
theorem Qx3 {α β:Type} {x:α ⊕ β} {a:α} (h:Q4s x=some a):x=.inl a:=by cases x <;> cases h; rfl
def lkL {α β:Type} (l:List (α ⊕ β)) (n:Int):Option α:=(lkI l n).bind Q4s
theorem Qp {α β:Type} {l:List (α ⊕ β)} {n:Int} {a:α} (h:lkL l n=some a):lkI l n=some (.inl a):=by
 unfold lkL at h
 cases e:lkI l n with
 | none=>rw [e] at h; cases h
 | some x=>rw [e] at h; rw [Qx3 h]
def alr {α β:Type}:List (α ⊕ β)→Option (List β)
 | []=>some []
 | .inr b::l=>(alr l).map (b::·)
 | .inl _::_=>none
theorem Qnw {α β:Type}:∀{l:List (α ⊕ β)} {m:List β},alr l=some m→l=m.map .inr
 | [],m,h=>by cases h; rfl
 | .inl _::_,m,h=>by cases h
 | .inr b::l,m,h=>by
  unfold alr at h
  cases e:alr l with
  | none=>rw [e] at h; cases h
  | some m'=>rw [e] at h; cases h; rw [Qnw e]; rfl
theorem Q3e {α β:Type} {l:List (α ⊕ β)} {m:List β} {enc:α ⊕ β→AV} {enc2:β→AV} (h:alr l=some m) (he:∀b,enc (.inr b)=enc2 b):l.map enc=m.map enc2:=by
 rw [Qnw h,List.map_map]
 exact congrArg (fun f=>m.map f) (funext he)
theorem Q3h {α β:Type} {l:List (α ⊕ β)} {m:List β} (h:alr l=some m):l.length=m.length:=by rw [Qnw h,List.length_map]
theorem Qq8 {α:Type} {enc:α→AV} {f:Nat → Option Nat} (hE:∀a,(enc a).ren f=some (enc a)) {A A':AV} (hA:A.ren f=some A'):∀(L:List α) (k:Nat),AV.renL f ((L.map enc).set k A)=some ((L.map enc).set k A')
 | [],k=>by simp [AV.renL]
 | a::L,0=>by
  have hr:∀L:List α,AV.renL f (L.map enc)=some (L.map enc):=by
   intro L
   induction L with
   | nil=>rfl
   | cons a L ih=>simp [AV.renL,hE,ih]
  simp [AV.renL,hA,hr]
 | a::L,k+1=>by simp only [List.map_cons,List.set_cons_succ,AV.renL,hE,Qq8 hE hA L k]
def fillH (o:Nat) (h:AV→List AV):List Nat → List AObj→List AObj
 | k::ks,x::xs=>(if Nat.beq k o then (match x with | .row bx ro nr fl w [A]=>.row bx ro nr fl w (h A) | x=>x) else x)::fillH o h ks xs
 | _,_=>[]
theorem Qin {α:Type} {enc:α→AV} {f:Nat → Option Nat} (hE:∀a,(enc a).ren f=some (enc a)) {L:List α} {n:Int} {A:AV} {objs:List AObj} {o w:Nat} {bx ro fl:Bool} (ho:o < objs.length) :
  ∀(ks:List Nat) (os:List AObj),Yp f (objs.set o (.row bx ro false fl w [A])) ks=some os→Yp f (objs.set o (.row bx ro false fl w (hole enc L n A))) ks=some (fillH o (hole enc L n) ks os)
 | [],os,h=>by simp [Yp] at h; subst h; rfl
 | k::ks,os,h=>by
  unfold Yp at h ⊢
  by_cases e:o=k
  ·subst e
   rw [List.getElem?_set_self ho] at h ⊢
   simp only [AObj.ren,AV.renL] at h ⊢
   cases hA:A.ren f with
   | none=>rw [hA] at h; simp at h
   | some A' =>
    rw [hA] at h
    simp only at h
    cases hr:Yp f (objs.set o (.row bx ro false fl w [A])) ks with
    | none=>rw [hr] at h; simp at h
    | some os' =>
     rw [hr] at h
     have ih:=Qin hE (L:=L) (n:=n) ho ks os' hr
     have h2:AV.renL f (hole enc L n A)=some (hole enc L n A'):=Qq8 hE hA L _
     simp at h
     subst h
     simp [h2,ih,fillH]
  ·rw [List.getElem?_set_ne e] at h ⊢
   cases hk:objs[k]? with
   | none=>rw [hk] at h; cases h
   | some x =>
    rw [hk] at h
    simp only at h ⊢
    cases hx:x.ren f with
    | none=>rw [hx] at h; cases h
    | some y =>
     rw [hx] at h
     cases hr:Yp f (objs.set o (.row bx ro false fl w [A])) ks with
     | none=>rw [hr] at h; cases h
     | some os' =>
      rw [hr] at h
      have ih:=Qin hE (L:=L) (n:=n) ho ks os' hr
      cases h
      rw [ih]
      have:Nat.beq k o=false:=by
       cases e2:Nat.beq k o with
       | false=>rfl
       | true=>exact absurd (Nat.eq_of_beq_eq_true e2).symm e
      simp [fillH,this]
def Q19 (base:Nat) (live keep:List Nat) (o w:Nat) (h:AV→List AV) (A:AV) (st:St):Option St :=
 match Qco base live keep ⟨st.slots,st.objs.set o (.row false false false false w [A]),st.nt⟩ with
 | some s=>some ⟨s.slots,fillH o h (List.range base++keep) s.objs,s.nt⟩
 | none=>none
theorem wk_gcH {P:Program} {base:Nat} {st st':St} {live keep:List Nat} (o:Nat) {α:Type} (enc:α→AV) (L:List α) (n:Int) (A:AV) (w:Nat) (hE:∀f a,(enc a).ren f=some (enc a)) (ho:st.objs[o]?=some (.row false false false false w (hole enc L n A)))
  (h:Q19 base live keep o w (hole enc L n) A st=some st'):Wk P base st st':=by
 refine wk_gc (live:=live) (keep:=keep) ?_
 unfold Q19 at h
 have hself:st.objs.set o (.row false false false false w (hole enc L n A))=st.objs:=by
  obtain ⟨h1,h2⟩:=List.getElem?_eq_some_iff.1 ho
  apply List.ext_getElem?
  intro i
  by_cases e:o=i
  ·subst e; rw [List.getElem?_set_self h1,ho]
  ·rw [List.getElem?_set_ne e]
 cases hg:Qco base live keep ⟨st.slots,st.objs.set o (.row false false false false w [A]),st.nt⟩ with
 | none=>rw [hg] at h; cases h
 | some s =>
  rw [hg] at h
  cases h
  unfold Qco at hg ⊢
  simp only at hg ⊢
  split at hg
  ·rename_i hc
   rw [if_pos hc]
   split at hg
   ·rename_i os hos
    cases hg
    have:=Qin (fun a=>hE _ a) (L:=L) (n:=n) (List.getElem?_eq_some_iff.1 ho).1 _ _ hos
    rw [hself] at this
    rw [this]
   ·cases hg
  ·cases hg
end Go.Ab
namespace Go.Ab
open Go.RowKit
theorem Qzn {α:Type} {enc:α→AV} {L:List α} {d:α} {A:AV}:L.map enc++[A]=hole enc (L++[d]) (L.length:Int) A:=by
 unfold hole
 rw [List.map_append,Int.toNat_natCast]
 rw [List.set_append_right _ _ (by simp)]
 simp
theorem Q0k {α:Type} {enc:α→AV} {L m:List α} {n:Int} {a:α} {A:AV} (ha:lkI L n=some a):hole enc L n A++m.map enc=hole enc (L++m) n A:=by
 obtain ⟨h1,h2,h3⟩:=Xe ha
 unfold hole
 rw [List.map_append,List.set_append_left _ _ (by simpa using h2)]
section
variable {P:Program} {rd:Option Nat} {base:Nat} {ops:Array Oper} {st S:St} {Φ:AOut→Prop} {d:Option (List Sk)} {i:Nat} {c:Code}
theorem Qsv {σ ρ1 ρ2:Type} {body:σ→Option (Qh σ (ρ1 ⊕ ρ2))} {I:σ→St} {H:ρ1→St} {Ex:ρ2→AOut→Prop}
  (stop:∀s y,body s=some (.done (.inl y))→H y=I s)
  (round:∀s o,body s=some o→(∃y,o=.done (.inl y))∨WP P rd base c (I s) (fun out=>match o with
   | .next s'=>∃st1,out=.go .normal st1∧Wk P base st1 (I s')
   | .done (.inl _)=>False
   | .done (.inr x)=>Ex x out∧out.normal=false)) :
  ∀(n:Nat) (s:σ) (x:ρ1 ⊕ ρ2),Qa n body s=some x→(∀y,x=.inl y→LWP P rd base c (H y) Φ)→(∀z,x=.inr z→∀out,Ex z out→Φ out)→LWP P rd base c (I s) Φ
 | 0,s,x,h,_,_=>by cases h
 | n+1,s,x,h,h1,h2=>by
  simp only [Qa] at h
  split at h
  ·rename_i s' hb
   rcases round s _ hb with ⟨y,e⟩ | hr
   ·cases e
   ·refine Qhb (hr.mono fun out ho=>?_)
    obtain ⟨st1,rfl,hw⟩:=ho
    exact Qjh hw (Qsv stop round n s' x h h1 h2)
  ·rename_i x' hb
   cases h
   cases x with
   | inl y =>
    have:=h1 y rfl
    rw [stop s y hb] at this
    exact this
   | inr z =>
    rcases round s _ hb with ⟨y,e⟩ | hr
    ·cases e
    ·refine Qhb (hr.mono fun out ho=>?_)
     obtain ⟨g1,g2⟩:=ho
     have g3:=h2 z rfl out g1
     cases out with
     | pan v=>exact g3
     | go e st1=>cases e <;> first | exact g3 | simp [AOut.normal] at g2
  ·cases h
def Q11 {σ ρ:Type}:Qh σ ρ→Qh σ (σ ⊕ ρ)
 | .next s=>.next s
 | .done x=>.done (.inr x)
def Qbt {σ ρ:Type} (cnd:σ→Bool) (body:σ→Option (Qh σ ρ)) (s:σ):Option (Qh σ (σ ⊕ ρ)):=if cnd s=true then some (.done (.inl s)) else (body s).map Q11
theorem Qzs {σ ρ R:Type} {n:Nat} {cnd:σ→Bool} {body:σ→Option (Qh σ ρ)} {I:σ→St} {Ex:ρ→AOut→Prop} {K:σ ⊕ ρ→Option R} {r:R} (s0:σ) (hw:Wk P base st (I s0)) (h:(Qa n (Qbt cnd body) s0).bind K=some r)
  (round:∀s o,body s=some o→WP P rd base c (I s) (Qe1 P base I Ex o))
  (k1:∀y,K (.inl y)=some r→LWP P rd base c (I y) Φ) (k2:∀z,K (.inr z)=some r→∀out,Ex z out→Φ out):WP P rd base (.loop c) st Φ:=by
 cases hx:Qa n (Qbt cnd body) s0 with
 | none=>rw [hx] at h; cases h
 | some x =>
  rw [hx] at h
  have hb:∀s o,Qbt cnd body s=some o→(o=.done (.inl s))∨∃o',body s=some o'∧o=Q11 o':=fun s o ho=>by
   unfold Qbt at ho
   split at ho
   ·cases ho; exact .inl rfl
   ·simp only [Option.map_eq_some_iff] at ho
    obtain ⟨o',e1,e2⟩:=ho
    exact .inr ⟨o',e1,e2.symm⟩
  refine Qv4 (Qjh hw (Qsv (H:=I) (Ex:=Ex) (fun s y e=>?_) (fun s o e=>?_) n s0 x hx (fun y e=>?_) (fun z e=>?_)))
  ·rcases hb s _ e with e1 | ⟨o',_,e1⟩
   ·cases e1; rfl
   ·cases o' <;> cases e1
  ·rcases hb s _ e with e1 | ⟨o',e1,e2⟩
   ·exact .inl ⟨s,e1⟩
   ·subst e2
    refine .inr ((round s o' e1).mono fun out ho=>?_)
    cases o' with
    | next s'=>exact ho
    | done x=>exact ho
  ·subst e; exact k1 y h
  ·subst e; exact k2 z h
theorem Qxs {σ ρ R:Type} {n:Nat} {body:σ→Option (Qh σ ρ)} {I:σ→St} {Ex:ρ→AOut→Prop} {K:ρ→Option R} {r:R} (s0:σ) (hw:Wk P base st (I s0)) (h:(Qa n body s0).bind K=some r)
  (round:∀s o,body s=some o→WP P rd base c (I s) (Qe1 P base I Ex o)) (k:∀x,K x=some r→∀out,Ex x out→Φ out):LWP P rd base c st Φ:=by
 cases hx:Qa n body s0 with
 | none=>rw [hx] at h; cases h
 | some x =>
  rw [hx] at h
  obtain ⟨out,h1,h2⟩:=Qjh hw (Qly round n s0 x hx)
  exact ⟨out,h1,k x h out h2⟩
theorem Q5h {α R:Type} {enc:α→AV} {L:List α} {e:α} {w bytes ob tm:Nat} {nr fl nr' fl':Bool} {A0:AV} {A:Option R} {r:R} (hi:Qcf P ops i st=some (.ref ob 0 L.length,.ref tm 0 1,w,bytes)) (hrow:st.sto ob=some (.row false false nr fl w (L.map enc)))
  (htm:st.sto tm=some (.row false false nr' fl' w [A0])) (hS:Zk ops i st (some (.ref st.objs.length 0 (L++[e]).length)) [(ob,.dead),(st.objs.length,.row false false (nr && nr') (fl && fl') w (hole enc (L++[e]) (L.length:Int) A0))]=some S) (hl:Nat.beq S.objs.length (st.objs.length+1)=true)
  (h:(if (L++[e]).length*bytes≤140737488355328 then A else none)=some r) (k:A=some r→RW P rd base ops (Qw d [([ob,st.objs.length],[tm]++[ob])]) (i+1) S Φ):RW P rd base ops d i st Φ:=by
 rw [←Qzn (d:=e)] at hS
 exact Q1p (cells:=L.map enc) (ys:=[A0]) (nr:=nr) (fl:=fl) (nr':=nr') (fl':=fl') (z:=(L++[e]).length) true hi hrow (by simp) (by simp) (by simp [Xo,htm]) (by simp) hS hl h k
theorem Q3r {α R:Type} {enc:α→AV} {L m:List α} {n:Int} {a:α} {A0 b:AV} {w bytes ob:Nat} {fl nr' fl':Bool} {rds:List Nat} {A:Option R} {r:R} (hi:Qcf P ops i st=some (.ref ob 0 L.length,b,w,bytes)) (hrow:st.sto ob=some (.row false false false fl w (hole enc L n A0)))
  (ha:lkI L n=some a) (hel:Xo st.sto w b=some (m.map enc,nr',fl',rds)) (hS:Zk ops i st (some (.ref st.objs.length 0 (L++m).length)) [(ob,.dead),(st.objs.length,.row false false (false && nr') (fl && fl') w (hole enc (L++m) n A0))]=some S) (hl:Nat.beq S.objs.length (st.objs.length+1)=true)
  (h:(if (L++m).length*bytes≤140737488355328 then A else none)=some r) (k:A=some r→RW P rd base ops (Qw d [([ob,st.objs.length],rds++[ob])]) (i+1) S Φ):RW P rd base ops d i st Φ:=by
 rw [←Q0k ha] at hS
 exact Q1p (cells:=hole enc L n A0) (ys:=m.map enc) (nr:=false) (fl:=fl) (nr':=nr') (fl':=fl') (z:=(L++m).length) true hi hrow (by simp [Qte]) (by simp) hel (by simp) hS hl h k
end
theorem Qri {α:Type} {enc:α→AV} (hE:∀a,(enc a).ids=[]) {A:AV}:∀(L:List α) (k x:Nat),x∈AV.idsL ((L.map enc).set k A)→x∈A.ids
 | [],k,x,h=>by simp [AV.idsL] at h
 | a::L,0,x,h=>by
  have hr:∀L:List α,AV.idsL (L.map enc)=[]:=by
   intro L
   induction L with
   | nil=>rfl
   | cons a L ih=>simp [AV.idsL,hE,ih]
  simp only [List.map_cons,List.set_cons_zero,AV.idsL,hr,List.append_nil] at h
  exact h
 | a::L,k+1,x,h=>by
  simp only [List.map_cons,List.set_cons_succ,AV.idsL,hE,List.nil_append] at h
  exact Qri hE L k x h
theorem Qpu {m j o:Nat}:∀{k:Nat} {xs:List AObj},(∀(i:Nat) (x:AObj),xs[i]?=some x→k+i≠o→x.safe m j=true)→J9 m j o k xs=true
 | _,[],_=>rfl
 | k,y::ys,h=>by
  simp only [J9,Bool.and_eq_true,Bool.or_eq_true]
  refine ⟨?_,Qpu fun i x hi hne=>h (i+1) x (by simpa using hi) (by omega)⟩
  by_cases e:k=o
  ·subst e; exact .inl (Nat.beq_refl k)
  ·exact .inr (h 0 y rfl (by simpa using e))
theorem safeAll_hole {m j o:Nat} {objs:List AObj} (ob w:Nat) {α:Type} (enc:α→AV) (L:List α) (n:Int) (A:AV) (hE:∀a,(enc a).ids=[]) (ho:objs[ob]?=some (.row false false false false w (hole enc L n A)))
  (h:J9 m j o 0 (objs.set ob (.row false false false false w [A]))=true):J9 m j o 0 objs=true:=by
 refine Qpu fun i x hi hne=>?_
 by_cases e:ob=i
 ·subst e
  rw [ho] at hi; cases hi
  have:=Qdx h ob _ (List.getElem?_set_self (List.getElem?_eq_some_iff.1 ho).1) hne
  simp only [AObj.safe,Bool.false_or] at this ⊢
  have hA:=Qgb this
  simp only [Qcb,List.all_eq_true]
  intro k hk
  obtain ⟨h1,h2⟩:=hA k (by simpa [AV.idsL] using Qri hE L _ k hk)
  simp only [Bool.and_eq_true,Bool.not_eq_true']
  exact ⟨blt_true h1,Qpp h2⟩
 ·exact Qdx h i x (by rw [List.getElem?_set_ne e]; exact hi) hne
theorem and2 {s a b:Bool} (h:s=true) (h':(a && b)=true):(s && a && b)=true:=by cases s <;> simp_all
theorem Q5i {s a b c d:Bool} (h:s=true) (h':(a && b && c && d)=true):(s && a && b && c && d)=true:=by cases s <;> simp_all
end Go.Ab
namespace Go.Ab
open Go.RowKit
def Qoe:AObj→Bool
 | .row _ _ _ _ _ _=>true
 | .loop _ _ _ _ _ _ _=>true
 | .dead=>true
 | _=>false
def Qmy:AObj→Bool
 | .row _ _ _ _ _ _=>true
 | .loop _ _ _ _ _ _ _=>true
 | _=>false
def Qan (N:Nat):AObj→Prop
 | .row _ _ nr _ _ xs=>nr=true∨∀x∈xs,∀y∈x.flat,∀o∈y.ids,o < N
 | .loop _ sl _ _ _ _ _=>∀p∈sl,∀o∈p.2.ids,o < N
 | .dead=>True
 | _=>False
def Qsb (N:Nat):AObj→Bool
 | .row _ _ nr _ _ xs=>nr || xs.all fun x=>x.flat.all fun y=>y.ids.all fun o=>Nat.blt o N
 | .loop _ sl _ _ _ _ _=>sl.all fun p=>p.2.ids.all fun o=>Nat.blt o N
 | .dead=>true
 | _=>false
theorem Q2m {N:Nat} {x:AObj} (h:Qsb N x=true):Qan N x:=by
 cases x with
 | row bx ro nr fl w xs =>
  simp only [Qsb,Bool.or_eq_true,List.all_eq_true] at h
  exact h.imp id fun h x hx y hy o ho=>Xn (h x hx y hy o ho)
 | loop nt sl ps as bd st pe =>
  simp only [Qsb,List.all_eq_true] at h
  exact fun p hp o ho=>Xn (h p hp o ho)
 | dead=>trivial
 | fam=>cases h
 | refs=>cases h
theorem Qmg {N:Nat} {x:AObj} (h:Qan N x):Qoe x=true:=by cases x <;> first | rfl | exact h.elim
theorem Qxw {objs:List AObj} (h:∀x∈objs,Qoe x=true) (id:Nat):Qb8 objs id=none:=by
 unfold Qb8
 rw [dif_neg]
 rintro ⟨y,k,i,w,fl,xs,l,_,hk,_⟩
 have:=h _ (List.mem_of_getElem? hk)
 cases this
theorem Qpn {x:AObj} (h:Qoe x=true):x.plain=x:=by cases x <;> first | rfl | cases h
theorem Qtq {objs:List AObj} (h:∀x∈objs,Qoe x=true) (hb:objs.length≤BIG) (id:Nat):sto objs id=objs[id]?:=by
 by_cases hi:id < BIG
 ·rw [Zb hi]
  cases e:objs[id]? with
  | none=>rfl
  | some x=>simp [Qpn (h x (List.mem_of_getElem? e))]
 ·rw [Qn2 (by omega),Qxw h,List.getElem?_eq_none (by omega)]
theorem Quc:∀{l:List (Nat × AV)} {t:Nat} {x:AV},lk l t=some x→∃p∈l,p.2=x
 | [],t,x,h=>by cases h
 | (k,y)::r,t,x,h=>by
  unfold lk at h
  split at h
  ·cases h; exact ⟨(k,y),by simp,rfl⟩
  ·obtain ⟨p,hp,e⟩:=Quc h
   exact ⟨p,List.mem_cons_of_mem _ hp,e⟩
section
variable {P:Program} {B N:Nat} {W0 W:World} {D:List Nat} {M:CM} {ι:Inj} {σ:Sto}
def Qij (N:Nat) (ι:Inj) (σ:Sto) (b:Nat):Prop:=∃k p fn sl ps as bd st pe,¬ k < N∧σ k=some (.loop fn sl ps as bd st pe)∧ι k=some p∧p.blk=b
def Qdk (N:Nat) (ι:Inj) (σ:Sto) (b o:Nat):Prop:=∃k p bx nr fl w xs j,¬ k < N∧σ k=some (.row bx false nr fl w xs)∧ι k=some p∧p.blk=b∧o=p.base+j∧j < p.cap*w
open Classical in
noncomputable def Ql3 (N:Nat) (ι:Inj) (σ:Sto) (W:World) (M:CM):CM :=
 ⟨M.f,M.ok,fun b=>if Qij N ι σ b then W.heap[b]? else M.blk b,fun b o=>if Qdk N ι σ b o then W.cell? ⟨b,o,none⟩ else M.kc b o⟩
theorem Qlr (h:Rel P B W0 D M ι σ W) {b:Nat} (hb:Qij N ι σ b):M.blk b=none∧∃l,W.heap[b]?=some (Qdg l):=by
 obtain ⟨k,p,fn,sl,ps,as,bd,st,pe,_,hk,hp',rfl⟩:=hb
 obtain ⟨q,nt1,hq,hb1,_,tmps,_,hrec,_⟩:=h.loop k _ _ _ _ _ _ _ hk
 rw [hp'] at hq; cases hq
 exact ⟨hb1,_,hrec⟩
theorem Qfm (h:Rel P B W0 D M ι σ W) {b o:Nat} (hb:Qdk N ι σ b o):M.kc b o=none∧M b o=none∧(∃v,W.cell? ⟨b,o,none⟩=some v)∧W.frozen? ⟨b,o,none⟩=false:=by
 obtain ⟨k,p,bx,nr,fl,w,xs,j,_,hk,hp',rfl,rfl,hj⟩:=hb
 obtain ⟨q,hq,hr⟩:=h.row k _ _ _ _ _ _ hk
 rw [hp'] at hq; cases hq
 have c:=h.cool k bx nr fl w xs p j hk hp' hj
 obtain ⟨o1,o2⟩:=(hr.own rfl).2 j hj
 exact ⟨c.2,o2,Option.isSome_iff_exists.1 o1,c.1⟩
open Classical in
theorem Rel.hide (h:Rel P B W0 D M ι σ W) (hA:∀k x,k < N→σ k=some x→Qan N x) :
  Rel P B W0 D (Ql3 N ι σ W M) (fun k=>if k < N then ι k else none) (fun k=>if k < N then σ k else none) W:=by
 have hM1:M.le (Ql3 N ι σ W M):=fun _ _ _ h=>h
 have blk1:∀b,(Ql3 N ι σ W M).blk b=if Qij N ι σ b then W.heap[b]? else M.blk b:=fun b=>rfl
 have kc1:∀b o,(Ql3 N ι σ W M).kc b o=if Qdk N ι σ b o then W.cell? ⟨b,o,none⟩ else M.kc b o:=fun b o=>rfl
 have low:∀{k:Nat} {x:AObj},(if k < N then σ k else none)=some x→k < N∧σ k=some x:=fun {k x} hk=>by
  by_cases e:k < N
  ·rw [if_pos e] at hk; exact ⟨e,hk⟩
  ·rw [if_neg e] at hk; cases hk
 have lowi:∀{k:Nat} {p:Place},k < N→(if k < N then ι k else none)=some p→ι k=some p:=fun e hk=>by rw [if_pos e] at hk; exact hk
 have rep1:∀{v:Value} {y:AV},(∀o∈y.ids,o < N)→Qb M ι v y→Qb (Ql3 N ι σ W M) (fun k=>if k < N then ι k else none) v y:=fun hi h=>(h.congr fun o ho=>if_pos (hi o ho)).mono hM1 (Inj.le_refl _)
 refine ⟨h.size,h.below,h.defs,⟨h.agree.cell,fun b x hb=>?_,fun b o v hb=>?_⟩,fun o bx nr fl w xs p k ho hp' hk=>?_,fun o bx ro nr fl w xs ho=>?_,fun o fn sl ps as bd st pe ho=>?_,fun o o' bx nr fl w xs bx' nr' fl' w' xs' p p' hne h1 h2 h3 h4=>?_,fun o o' fn sl ps as bd st pe fn' sl' ps' as' bd' st' pe' p p' hne h1 h2 h3 h4=>?_,fun o ho=>?_⟩
 ·rw [blk1] at hb
  by_cases hd:Qij N ι σ b
  ·rw [if_pos hd] at hb
   obtain ⟨_,l,hl⟩:=Qlr h hd
   rw [hl] at hb; cases hb
   exact ⟨hl,fun c e f=>Qkx c e f,fun d he=>Qid (x:=d) (by rw [he])⟩
  ·rw [if_neg hd] at hb; exact h.agree.keep b x hb
 ·rw [kc1] at hb
  by_cases hd:Qdk N ι σ b o
  ·rw [if_pos hd] at hb
   exact ⟨hb,(Qfm h hd).2.2.2⟩
  ·rw [if_neg hd] at hb; exact h.agree.keepC b o v hb
 ·obtain ⟨l1,ho⟩:=low ho
  have hp':=lowi l1 hp'
  have c:=h.cool o bx nr fl w xs p k ho hp' hk
  refine ⟨c.1,?_⟩
  rw [kc1,if_neg]
  ·exact c.2
  ·rintro ⟨k2,p2,bx2,nr2,fl2,w2,xs2,j2,n2,hk2,hp2,hb2,ho2,hj2⟩
   obtain ⟨q,hq,hr⟩:=h.row o _ _ _ _ _ _ ho
   rw [hp'] at hq; cases hq
   obtain ⟨q,hq,hr2⟩:=h.row k2 _ _ _ _ _ _ hk2
   rw [hp2] at hq; cases hq
   have hpw:=hr.pw
   have hpw2:=hr2.pw
   rcases h.apart o k2 _ _ _ _ _ _ _ _ _ _ _ _ (fun e=>n2 (e ▸ l1)) ho hk2 hp' hp2 with a | a | a
   ·exact a hb2.symm
   ·rw [hpw] at a; omega
   ·rw [hpw2] at a; omega
 ·obtain ⟨l1,ho⟩:=low ho
  obtain ⟨p,hp',hrow⟩:=h.row o bx ro nr fl w xs ho
  refine ⟨p,by rw [if_pos l1]; exact hp',hrow.pw,hrow.pos,hrow.cpos,hrow.len,hrow.shaped,hrow.nr,hrow.fl,fun i j x y hi hj=>?_,hrow.own,fun hro i j x y hi hj=>?_⟩
  ·obtain ⟨v,hv,hrep⟩:=hrow.cells i j x y hi hj
   refine ⟨v,hv,?_⟩
   rcases hA o _ l1 ho with hn | hn
   ·exact (hrep.of_nr (AV.nr_flat (Q0.1 (hrow.nr hn) x (List.mem_of_getElem? hi)) y (List.mem_of_getElem? hj))).mono hM1 (Inj.le_refl _)
   ·exact rep1 (hn x (List.mem_of_getElem? hi) y (List.mem_of_getElem? hj)) hrep
  ·obtain ⟨v,hv,hrep⟩:=hrow.imm hro i j x y hi hj
   exact ⟨v,hv,hrep.mono hM1 (Inj.le_refl _)⟩
 ·obtain ⟨l1,ho⟩:=low ho
  obtain ⟨p,nt1,hp',hb1,hB1,tmps,hsz,hrec,hsl1⟩:=h.loop o fn sl ps as bd st pe ho
  refine ⟨p,nt1,by rw [if_pos l1]; exact hp',?_,hB1,tmps,hsz,hrec,fun t x hx=>?_⟩
  ·rw [blk1,if_neg]
   ·exact hb1
   ·rintro ⟨k,q,fn',sl',ps',as',bd',st',pe',hk,hk',hq,hqb⟩
    exact h.loops o k _ _ _ _ _ _ _ _ _ _ _ _ _ _ _ _ (fun e=>hk (e ▸ l1)) ho hk' hp' hq hqb.symm
  ·obtain ⟨q,hq,rfl⟩:=Quc hx
   exact rep1 (hA o _ l1 ho q hq) (hsl1 t _ hx)
 ·obtain ⟨l1,h1⟩:=low h1
  obtain ⟨l2,h2⟩:=low h2
  exact h.apart o o' bx nr fl w xs bx' nr' fl' w' xs' p p' hne h1 h2 (lowi l1 h3) (lowi l2 h4)
 ·obtain ⟨l1,h1⟩:=low h1
  obtain ⟨l2,h2⟩:=low h2
  exact h.loops o o' fn sl ps as bd st pe fn' sl' ps' as' bd' st' pe' p p' hne h1 h2 (lowi l1 h3) (lowi l2 h4)
 ·by_cases l1:o < N
  ·rw [if_pos l1] at ho ⊢; exact h.used o ho
  ·exact .inl (if_neg l1)
open Classical in
theorem Rel.unhide {W':World} {M':CM} {ι':Inj} {σ':Sto} (h:Rel P B W0 D M ι σ W) (h':Rel P B W0 D M' ι' (fun k=>if k < N then σ' k else none) W') (hG:CM.Grow B (Ql3 N ι σ W M) M') (hι:∀k,k < N→ι' k=ι k)
  (hA:∀k x,k < N→σ' k=some x→Qan N x) :
  ∃M2:CM,CM.Grow B M M2∧M'.le M2∧Rel P B W0 D M2 ι (fun k=>if k < N then σ' k else σ k) W':=by
 let M2:CM:=⟨M'.f,M'.ok,M.blk,M.kc⟩
 have hM2:M'.le M2:=fun _ _ _ h=>h
 have hMM2:M.le M2:=fun b o v h=>hG.le b o v h
 have blk':∀b,M'.blk b=if Qij N ι σ b then W.heap[b]? else M.blk b:=fun b=>by rw [hG.keep]; rfl
 have kc':∀b o,M'.kc b o=if Qdk N ι σ b o then W.cell? ⟨b,o,none⟩ else M.kc b o:=fun b o=>by rw [hG.keepC]; rfl
 have notB:∀b,M'.blk b=none→¬ Qij N ι σ b∧M.blk b=none:=fun b hb=>by
  rw [blk'] at hb
  by_cases hd:Qij N ι σ b
  ·rw [if_pos hd] at hb
   obtain ⟨_,l,hl⟩:=Qlr h hd
   rw [hl] at hb; cases hb
  ·rw [if_neg hd] at hb; exact ⟨hd,hb⟩
 have notC:∀b o,M'.kc b o=none→¬ Qdk N ι σ b o∧M.kc b o=none:=fun b o hb=>by
  rw [kc'] at hb
  by_cases hd:Qdk N ι σ b o
  ·rw [if_pos hd] at hb
   obtain ⟨_,_,⟨v,hv⟩,_⟩:=Qfm h hd
   rw [hv] at hb; cases hb
  ·rw [if_neg hd] at hb; exact ⟨hd,hb⟩
 have low:∀{k:Nat} {x:AObj},k < N→(if k < N then σ' k else σ k)=some x→(if k < N then σ' k else none)=some x∧σ' k=some x:=fun e hk=>by
  rw [if_pos e] at hk ⊢; exact ⟨hk,hk⟩
 have high:∀{k:Nat} {x:AObj},¬ k < N→(if k < N then σ' k else σ k)=some x→σ k=some x:=fun e hk=>by rw [if_neg e] at hk; exact hk
 have repl:∀{v:Value} {y:AV},(∀o∈y.ids,o < N)→Qb M' ι' v y→Qb M2 ι v y:=fun hi h=>(h.congr fun o ho=>(hι o (hi o ho)).symm).mono hM2 (Inj.le_refl _)
 refine ⟨M2,⟨hMM2,hG.old,rfl,rfl,fun b o v hv=>?_⟩,hM2,h'.size,h'.below,h'.defs,⟨h'.agree.cell,fun b x hb=>?_,fun b o v hb=>?_⟩,fun o bx nr fl w xs p k ho hp' hk=>?_,fun o bx ro nr fl w xs ho=>?_,fun o fn sl ps as bd st pe ho=>?_,fun o o' bx nr fl w xs bx' nr' fl' w' xs' p p' hne h1 h2 h3 h4=>?_,fun o o' fn sl ps as bd st pe fn' sl' ps' as' bd' st' pe' p p' hne h1 h2 h3 h4=>?_,fun o ho=>?_⟩
 ·by_cases hd:Qdk N ι σ b o
  ·rw [(Qfm h hd).1] at hv; cases hv
  ·exact hG.keepF b o v (by show (if Qdk N ι σ b o then _ else _)=_; rw [if_neg hd]; exact hv)
 ·have hb':M.blk b=some x:=hb
  refine h'.agree.keep b x ?_
  rw [blk']
  by_cases hd:Qij N ι σ b
  ·rw [(Qlr h hd).1] at hb'; cases hb'
  ·rw [if_neg hd]; exact hb'
 ·have hb':M.kc b o=some v:=hb
  refine h'.agree.keepC b o v ?_
  rw [kc']
  by_cases hd:Qdk N ι σ b o
  ·rw [(Qfm h hd).1] at hb'; cases hb'
  ·rw [if_neg hd]; exact hb'
 ·by_cases hl:o < N
  ·obtain ⟨ho1,ho2⟩:=low hl ho
   have c:=h'.cool o bx nr fl w xs p k ho1 (by rw [hι o hl]; exact hp') hk
   exact ⟨c.1,(notC _ _ c.2).2⟩
  ·have ho:=high hl ho
   have hd:Qdk N ι σ p.blk (p.base+k):=⟨o,p,bx,nr,fl,w,xs,k,hl,ho,hp',rfl,rfl,hk⟩
   obtain ⟨s1,s2,⟨v,hv⟩,s4⟩:=Qfm h hd
   exact ⟨(h'.agree.keepC _ _ v (by rw [kc',if_pos hd]; exact hv)).2,s1⟩
 ·by_cases hl:o < N
  ·obtain ⟨ho1,ho2⟩:=low hl ho
   obtain ⟨p,hp',hrow⟩:=h'.row o bx ro nr fl w xs ho1
   refine ⟨p,by rw [←hι o hl]; exact hp',hrow.pw,hrow.pos,hrow.cpos,hrow.len,hrow.shaped,hrow.nr,hrow.fl,fun i j x y hi hj=>?_,hrow.own,fun hro i j x y hi hj=>?_⟩
   ·obtain ⟨v,hv,hrep⟩:=hrow.cells i j x y hi hj
    refine ⟨v,hv,?_⟩
    rcases hA o _ hl ho2 with hn | hn
    ·exact (hrep.of_nr (AV.nr_flat (Q0.1 (hrow.nr hn) x (List.mem_of_getElem? hi)) y (List.mem_of_getElem? hj))).mono hM2 (Inj.le_refl _)
    ·exact repl (hn x (List.mem_of_getElem? hi) y (List.mem_of_getElem? hj)) hrep
   ·obtain ⟨v,hv,hrep⟩:=hrow.imm hro i j x y hi hj
    exact ⟨v,hv,hrep.mono hM2 (Inj.le_refl _)⟩
  ·have ho:=high hl ho
   obtain ⟨p,hp',hrow⟩:=h.row o bx ro nr fl w xs ho
   cases ro with
   | true =>
    have himm:∀(i j:Nat) (x y:AV),xs[i]?=some x→x.flat[j]?=some y→∃v,M2 p.blk (p.base+i*w+j)=some v∧Qb M2 noInj v y:=fun i j x y hi hj=>by
     obtain ⟨v,hv,hrep⟩:=hrow.imm rfl i j x y hi hj
     exact ⟨v,hMM2 _ _ _ hv,hrep.mono hMM2 (Inj.le_refl _)⟩
    refine ⟨p,hp',hrow.pw,hrow.pos,hrow.cpos,hrow.len,hrow.shaped,hrow.nr,hrow.fl,fun i j x y hi hj=>?_,fun h=>(by cases h),fun _=>himm⟩
    obtain ⟨v,hv,hrep⟩:=himm i j x y hi hj
    exact ⟨v,h'.agree.cell _ _ _ hv,hrep.mono (CM.le_refl _) (Inj.noInj_le _)⟩
   | false =>
    have kept:∀k,k < p.cap*w→∀v,W.cell? ⟨p.blk,p.base+k,none⟩=some v→W'.cell? ⟨p.blk,p.base+k,none⟩=some v:=fun k hk v hv =>
     (h'.agree.keepC _ _ v (by rw [kc',if_pos ⟨o,p,bx,nr,fl,w,xs,k,hl,ho,hp',rfl,rfl,hk⟩]; exact hv)).1
    refine ⟨p,hp',hrow.pw,hrow.pos,hrow.cpos,hrow.len,hrow.shaped,hrow.nr,hrow.fl,fun i j x y hi hj=>?_,fun _=>⟨(hrow.own rfl).1,fun k hk=>?_⟩,fun h=>(by cases h)⟩
    ·obtain ⟨v,hv,hrep⟩:=hrow.cells i j x y hi hj
     have hi':=(List.getElem?_eq_some_iff.1 hi).1
     have hj':=(List.getElem?_eq_some_iff.1 hj).1
     rw [(hrow.shaped x (List.mem_of_getElem? hi)).len] at hj'
     have hlt:i*w+j < p.cap*w:=by
      have h1:(i+1)*w≤p.cap*w:=Nat.mul_le_mul_right _ (by have:=hrow.len; omega)
      rw [Nat.succ_mul] at h1; omega
     have:=kept (i*w+j) hlt v (by rw [←Nat.add_assoc]; exact hv)
     exact ⟨v,by rw [Nat.add_assoc]; exact this,hrep.mono hMM2 (Inj.le_refl _)⟩
    ·obtain ⟨o1,o2⟩:=(hrow.own rfl).2 k hk
     obtain ⟨v,hv⟩:=Option.isSome_iff_exists.1 o1
     refine ⟨by rw [kept k hk v hv]; rfl,?_⟩
     have hd:Qdk N ι σ p.blk (p.base+k):=⟨o,p,bx,nr,fl,w,xs,k,hl,ho,hp',rfl,rfl,hk⟩
     have:=hG.keepF p.blk (p.base+k) v (by show (if Qdk N ι σ p.blk (p.base+k) then _ else _)=_; rw [if_pos hd]; exact hv)
     exact this.trans o2
 ·by_cases hl:o < N
  ·obtain ⟨ho1,ho2⟩:=low hl ho
   obtain ⟨p,nt1,hp',hb1,hB1,tmps,hsz,hrec,hsl1⟩:=h'.loop o fn sl ps as bd st pe ho1
   refine ⟨p,nt1,by rw [←hι o hl]; exact hp',(notB _ hb1).2,hB1,tmps,hsz,hrec,fun t x hx=>?_⟩
   obtain ⟨q,hq,rfl⟩:=Quc hx
   exact repl (hA o _ hl ho2 q hq) (hsl1 t _ hx)
  ·have ho:=high hl ho
   obtain ⟨p,nt1,hp',hb1,hB1,tmps,hsz,hrec,hsl1⟩:=h.loop o fn sl ps as bd st pe ho
   refine ⟨p,nt1,hp',hb1,hB1,tmps,hsz,?_,fun t x hx=>(hsl1 t x hx).mono hMM2 (Inj.le_refl _)⟩
   exact (h'.agree.keep p.blk _ (by rw [blk',if_pos ⟨o,p,fn,sl,ps,as,bd,st,pe,hl,ho,hp',rfl⟩]; exact hrec)).1
 ·have cellOf:∀{k bx nr fl w xs q},¬ k < N→σ k=some (.row bx false nr fl w xs)→ι k=some q→∀j,j < q.cap*q.w→Qdk N ι σ q.blk (q.base+j):=fun {k bx nr fl w xs q} hk h1 hq j hj=>by
   obtain ⟨q',hq',hr⟩:=h.row k _ _ _ _ _ _ h1
   rw [hq] at hq'; cases hq'
   exact ⟨k,q,bx,nr,fl,w,xs,j,hk,h1,hq,rfl,rfl,by rw [←hr.pw]; exact hj⟩
  have free:∀{k bx nr fl w xs q},k < N→(if k < N then σ' k else σ k)=some (.row bx false nr fl w xs)→ι k=some q→∀j,j < q.cap*q.w→¬ Qdk N ι σ q.blk (q.base+j):=fun {k bx nr fl w xs q} hk h1 hq j hj=>by
   obtain ⟨h1,_⟩:=low hk h1
   obtain ⟨q',hq',hr⟩:=h'.row k _ _ _ _ _ _ h1
   rw [hι k hk,hq] at hq'; cases hq'
   exact (notC _ _ (h'.cool k bx nr fl w xs q j h1 (by rw [hι k hk]; exact hq) (by rw [←hr.pw]; exact hj)).2).1
  have mixed:∀{k bx nr fl w xs q k2 bx2 nr2 fl2 w2 xs2 q2},k < N→¬ k2 < N→(if k < N then σ' k else σ k)=some (.row bx false nr fl w xs)→(if k2 < N then σ' k2 else σ k2)=some (.row bx2 false nr2 fl2 w2 xs2)→ι k=some q→ι k2=some q2 →
    q.blk≠q2.blk∨q.base+q.cap*q.w≤q2.base∨q2.base+q2.cap*q2.w≤q.base:=fun {k bx nr fl w xs q k2 bx2 nr2 fl2 w2 xs2 q2} l1 l2 h1 h2 h3 h4=>by
   apply Classical.byContradiction
   intro hno
   have hblk:q.blk=q2.blk:=Classical.byContradiction fun e=>hno (.inl e)
   have a1:¬ q.base+q.cap*q.w≤q2.base:=fun e=>hno (.inr (.inl e))
   have a2:¬ q2.base+q2.cap*q2.w≤q.base:=fun e=>hno (.inr (.inr e))
   have n1:0 < q.cap*q.w:=by
    obtain ⟨q',hq',hr⟩:=h'.row k _ _ _ _ _ _ (low l1 h1).1
    rw [hι k l1,h3] at hq'; cases hq'
    rcases hr.cpos with e | e
    ·exact Nat.mul_pos e (by rw [hr.pw]; exact hr.pos)
    ·rcases Nat.eq_zero_or_pos (q.cap*q.w) with z | z
     ·omega
     ·exact z
   have n2:0 < q2.cap*q2.w:=by
    obtain ⟨q',hq',hr⟩:=h.row k2 _ _ _ _ _ _ (high l2 h2)
    rw [h4] at hq'; cases hq'
    rcases hr.cpos with e | e
    ·exact Nat.mul_pos e (by rw [hr.pw]; exact hr.pos)
    ·rcases Nat.eq_zero_or_pos (q2.cap*q2.w) with z | z
     ·omega
     ·exact z
   have c1:=cellOf l2 (high l2 h2) h4
   have c2:=free l1 h1 h3
   rcases Nat.le_total q.base q2.base with e | e
   ·have:=c2 (q2.base - q.base) (by omega)
    rw [show q.base+(q2.base - q.base)=q2.base+0 by omega,hblk] at this
    exact this (c1 0 (by omega))
   ·have:=c2 0 (by omega)
    rw [hblk,show q.base+0=q2.base+(q.base - q2.base) by omega] at this
    exact this (c1 (q.base - q2.base) (by omega))
  by_cases l1:o < N
  ·by_cases l2:o' < N
   ·exact h'.apart o o' bx nr fl w xs bx' nr' fl' w' xs' p p' hne (low l1 h1).1 (low l2 h2).1 (by rw [hι o l1]; exact h3) (by rw [hι o' l2]; exact h4)
   ·exact mixed l1 l2 h1 h2 h3 h4
  ·by_cases l2:o' < N
   ·rcases mixed l2 l1 h2 h1 h4 h3 with a | a | a
    ·exact .inl (Ne.symm a)
    ·exact .inr (.inr a)
    ·exact .inr (.inl a)
   ·exact h.apart o o' bx nr fl w xs bx' nr' fl' w' xs' p p' hne (high l1 h1) (high l2 h2) h3 h4
 ·have free:∀{k fn sl ps as bd st pe q},k < N→(if k < N then σ' k else σ k)=some (.loop fn sl ps as bd st pe)→ι k=some q→¬ Qij N ι σ q.blk:=fun {k fn sl ps as bd st pe q} hk h1 hq=>by
   obtain ⟨h1,_⟩:=low hk h1
   obtain ⟨p,nt1,hp',hb1,_⟩:=h'.loop _ _ _ _ _ _ _ _ h1
   rw [hι k hk,hq] at hp'; cases hp'
   exact (notB _ hb1).1
  have one:∀{k fn sl ps as bd st pe q},¬ k < N→(if k < N then σ' k else σ k)=some (.loop fn sl ps as bd st pe)→ι k=some q→Qij N ι σ q.blk:=fun hk h1 hq=>⟨_,_,_,_,_,_,_,_,_,hk,high hk h1,hq,rfl⟩
  by_cases l1:o < N
  ·by_cases l2:o' < N
   ·exact h'.loops o o' fn sl ps as bd st pe fn' sl' ps' as' bd' st' pe' p p' hne (low l1 h1).1 (low l2 h2).1 (by rw [hι o l1]; exact h3) (by rw [hι o' l2]; exact h4)
   ·exact fun e=>free l1 h1 h3 (e ▸ one l2 h2 h4)
  ·by_cases l2:o' < N
   ·exact fun e=>free l2 h2 h4 (e ▸ one l1 h1 h3)
   ·exact h.loops o o' fn sl ps as bd st pe fn' sl' ps' as' bd' st' pe' p p' hne (high l1 h1) (high l2 h2) h3 h4
 ·by_cases hl:o < N
  ·rw [if_pos hl]
   have:=h'.used o (by rw [hι o hl]; exact ho)
   rw [if_pos hl] at this
   exact this
  ·rw [if_neg hl]; exact h.used o ho
end
end Go.Ab
namespace Go.Ab
open Go.RowKit
theorem Qvy:∀D:List Nat,∃D':List Nat,D'.Nodup∧∀r,r∈D'↔r∈D
 | []=>⟨[],List.nodup_nil,fun r=>Iff.rfl⟩
 | x::D=>by
  obtain ⟨D',h1,h2⟩:=Qvy D
  by_cases hx:x∈D'
  ·exact ⟨D',h1,fun r=>by rw [h2,List.mem_cons]; exact ⟨.inr,fun h=>h.elim (fun e=>by subst e; exact (h2 _).1 hx) id⟩⟩
  ·exact ⟨x::D',List.nodup_cons.2 ⟨hx,h1⟩,fun r=>by rw [List.mem_cons,List.mem_cons,h2]⟩
theorem Qma:∀{es:List (Nat × AObj)} {objs objs':List AObj},Zz objs es=some objs'→(∀y∈es,y.1 < objs.length)→objs'.length=objs.length
 | [],objs,objs',h,_=>by cases h; rfl
 | (o,x)::es,objs,objs',h,hl=>by
  simp only [Zz] at h
  split at h
  ·split at h
   ·split at h
    ·cases h
    ·rw [Qma h (fun y hy=>by rw [List.length_set]; exact hl y (List.mem_cons_of_mem _ hy)),List.length_set]
   ·rename_i hn
    have:=hl (o,x) (by simp)
    rw [List.getElem?_eq_getElem this] at hn; cases hn
  ·cases h
section
variable {P:Program} {ops:Array Oper} {o:Oper}
theorem Q26 {g:Operand} {args:Array Operand} {ts:Array TypeId} {f:FuncId} {fn:Func} {c:Code} {first caps as:List AV} {e:Xq} {x:AV} {s:Slots} {σ:Sto} {N n:Nat} {A A':List AObj} {sl':List (Nat × AV)} {nt':Nat} {eff:List (Nat × AObj)}
  (hw:X0 ops s o=some true) (ho:o.op=.call { callee:=.value g,args,argTypes:=ts }) (hg:evo s g=some (.fn (.func f) first caps)) (has:K8 s args.toList=some as)
  (hf:P.funcs[f]?=some fn) (hb:fn.body=some c) (hn:(fn.name == "runtime.NumGoroutine")=false) (hle:(first++as++caps).length≤fn.ntmps)
  (hσ:∀k,k < N→σ k=A[k]?) (hN:A.length=N) (hN':A'.length=N) (hbig:N≤BIG) (hlive:∀y∈A,Qmy y=true) (hA:∀y∈A,Qan N y) (hA':∀y∈A',Qan N y)
  (hids:∀a∈first++as++caps,∀k∈a.ids,k < N)
  (h:Xs P none N c ⟨Vu 0 (first++as++caps),A,fn.ntmps⟩ (.go e ⟨sl',A',nt'⟩)) (hend:e.ends=true) (hr:resultA P fn ⟨sl',A',nt'⟩=some x) (hx:x.nr=true)
  (heff:∀k,k < N→Sto.puts (fun k=>A[k]?) eff k=A'[k]?) (heff2:∀y∈eff,y.1 < N) :
  YlL P ops o ⟨some x,eff,n,n,List.range N⟩ s σ:=by
 intro s' σ' hs' hσ'
 have hl:=Ql2 (ops:=ops) hs'
 rw [ho] at hl
 have hg':evo s' g=some (.fn (.func f) first caps):=by rw [hl g (by simp [Op.operands,Call.operands])]; exact hg
 have has':K8 s' args.toList=some as:=by rw [evos_congr (fun y hy=>hl y (by simp [Op.operands,Call.operands]; exact .inr (by simpa using hy)))]; exact has
 refine .inl ⟨by rw [Qap hs']; exact hw,?_⟩
 intro B W0 D M ι a W nn Q r next hrel hsl hfree hpost
 simp only at hfree hpost
 have hσN:∀k,k < N→σ' k=A[k]?:=fun k hk=>by rw [hσ' k (List.mem_range.2 hk)]; exact hσ k hk
 have hgv:=Qf hsl hg'
 generalize hgu:a.eval g=gu at hgv
 cases hgv with
 | fn _ first' caps' _ _ hy hm h1 h2 hr1 hr2 =>
 obtain ⟨l1,e1⟩:=Kq hsl has'
 refine ⟨fun _ _=>trivial,?_⟩
 rw [Oper.semAt_eq _ _ _ (by rw [ho]; simp)]
 have hrun:(execOp a.eval o).run P W=.ok (.enter f (first'++args.map a.eval++caps')) W:=by
  simp only [execOp,ho,resolve,hgu,Deferred.ofValue,Sem.run_bind,Sem.run_pure,Result.andThen_ok,invoke]
  exact Qc4 hf (by rw [hb]; rfl) hn _ W
 rw [hrun,Oper.uponIn_enter]
 have hrep:∀(j:Nat) (v:Value) (y:AV),(first'++args.map a.eval++caps')[j]?=some v→(first++as++caps)[j]?=some y→Qb M ι v y :=
  Qnp h1 (by simpa using l1.symm) h2 hr1 (fun j v y hv hy=>by
   simp only [Array.getElem?_map,Option.map_eq_some_iff] at hv
   obtain ⟨w,hw,rfl⟩:=hv
   exact (e1 j w y (by simpa using hw) hy).2) hr2
 have hsz:(first'++args.map a.eval++caps').size=(first++as++caps).length:=by simp [h1,h2,l1]
 have hOk:∀k x,k < N→σ' k=some x→Qan N x:=fun k x hk hx=>by
  rw [hσN k hk] at hx; exact hA x (List.mem_of_getElem? hx)
 have hhide:=hrel.hide (N:=N) hOk
 have hsA:sto A=fun k=>if k < N then σ' k else none:=funext fun k=>by
  rw [Qtq (fun y hy=>Qmg (hA y hy)) (by omega)]
  by_cases hk:k < N
  ·rw [if_pos hk,hσN k hk]
  ·rw [if_neg hk,List.getElem?_eq_none (by omega)]
 rw [←hsA] at hhide
 obtain ⟨D0,hnd,hmem⟩:=Qvy D
 have hhide0:=hhide.mem (D':=D0) (fun r hr=>(hmem r).1 hr)
 have hM1:M.le (Ql3 N ι σ' W M):=fun _ _ _ h=>h
 refine ⟨fun hd=>by simp [FW,Fence.wide] at hd,Qjs ?_⟩
 refine callsIn_wide.1 (callsIn_of_wp_marks (F:=FW none) (n:=0) hf hb trivial ?_)
 refine h B W0 D0 [] (Ql3 N ι σ' W M) (fun k=>if k < N then ι k else none) _ W 0 _ none ⟨hhide0,Qfc fn.ntmps (fun j v y hv hy=>?_) hsz,by rw [Array.size_append,Array.size_replicate]; show _=fn.ntmps; omega,⟨rfl,fun r hr=>by simp at hr,by simpa using hnd⟩,fun k hk=>?_,by show A.length≤BIG; omega⟩ rfl ⟨?_,fun v hv=>by cases hv⟩
 ·have hi:=hids y (List.mem_of_getElem? hy)
  exact ((hrep j v y hv hy).congr fun o ho=>if_pos (hi o ho)).mono hM1 (Inj.le_refl _)
 ·exact if_neg (fun hlt=>hk (.inl (by show k < A.length; omega)))
 intro e' st'' he dl' M' ι' a' W' g1 g2 g3 g4
 cases he
 have hex:e.exit'=.normal∨e.exit'=.ret:=by cases e <;> simp_all [Xq.ends,Xq.exit']
 have cut:∀R,LeavesInM (FW none) 0 P fn a'.tmps R a'.defers .returning W'→bodyPostM (FW none) 0 P fn R e.exit' a' W':=fun R hR=>by
  rcases hex with e1 | e1 <;> rw [e1] <;> exact hR
 apply cut
 rw [g4.df.defs]
 refine Qgp (by simp) dl' W' g4.rel g4.df.nd g4.df.old (fun W2 h2=>?_)
 obtain ⟨v,k1,k2⟩:=Qf0 h2 g4.slots hr
 refine ⟨v,k1,?_⟩
 have hι:∀k,k < N→ι' k=ι k:=fun k hk=>by
  have hlv:∃p,ι k=some p:=by
   have hAk:A[k]?=some (A[k]'(by omega)):=List.getElem?_eq_getElem (by omega)
   have hk':=hσN k hk
   rw [hAk] at hk'
   have hlv:=hlive _ (List.mem_of_getElem? hAk)
   cases hy:A[k]'(by omega) with
   | row bx ro nr fl w xs=>rw [hy] at hk'; obtain ⟨p,hp,_⟩:=hrel.row k _ _ _ _ _ _ hk'; exact ⟨p,hp⟩
   | loop nt sl ps as bd st pe=>rw [hy] at hk'; obtain ⟨p,_,hp,_⟩:=hrel.loop k _ _ _ _ _ _ _ hk'; exact ⟨p,hp⟩
   | _=>rw [hy] at hlv; cases hlv
  obtain ⟨p,hp⟩:=hlv
  rw [hp]
  exact g2 k p (.inl hk) (by show (if k < N then ι k else none)=_; rw [if_pos hk]; exact hp)
 have h2':=h2.mem (D':=D) (fun r hr=>(hmem r).2 hr)
 have hsA':sto A'=fun k=>if k < N then (fun k=>A'[k]?) k else none:=funext fun k=>by
  rw [Qtq (fun y hy=>Qmg (hA' y hy)) (by omega)]
  by_cases hk:k < N
  ·rw [if_pos hk]
  ·rw [if_neg hk,List.getElem?_eq_none (by omega)]
 rw [show (⟨sl',A',nt'⟩:St).objs=A' from rfl,hsA'] at h2'
 obtain ⟨M2,q1,q2,q3⟩:=hrel.unhide h2' g1 hι (fun k y hk hy=>hA' y (List.mem_of_getElem? hy))
 refine hpost v W2 M2 ι q1 (Inj.le_refl _) (fun _ _=>rfl) ?_ (fun y hy=>?_)
 ·have:(fun k=>if k < N then (fun k=>A'[k]?) k else σ' k)=σ'.puts eff:=funext fun k=>by
   by_cases hk:k < N
   ·rw [if_pos hk]
    show A'[k]?=_
    rw [←heff k hk]
    exact Qgc eff k (.inl (hσN k hk).symm)
   ·rw [if_neg hk]
    exact (Qey (fun y hy e=>hk (by rw [←e]; exact heff2 y hy))).symm
  rw [←this]; exact q3
 ·cases hy
  exact (k2.of_nr hx).mono q2 (Inj.noInj_le _)
end
section
variable {P:Program} {rd:Option Nat} {base:Nat} {ops:Array Oper} {d:Option (List Sk)} {st S:St} {Φ:AOut→Prop} {i:Nat}
noncomputable def Qfx (P:Program) (fn:Func) (ops:Array Oper) (i:Nat) (st:St) (eff:List (Nat × AObj)) (st':St):Option St :=
 match resultA P fn st',ops[i]? with
 | some x,some o=>match J4 st.slots st.nt o.dst (some x),Zz st.objs eff with
  | some slots,some objs=>if x.nr then some ⟨slots,objs,st.nt⟩ else none
  | _,_=>none
 | _,_=>none
theorem Q5q {σ ρ R:Type} {N:Nat} {c:Code} {I:σ→St} {E:ρ→St} {F:σ→Option ρ} {K:ρ→Option R} {r:R} {f:FuncId} {fn:Func} {as0:List AV} (s0:σ) (A H:List AObj) (eff:ρ→List (Nat × AObj)) (S:ρ→St)
  (hi:Zs ops i st=some (f,as0)) (hf:P.funcs[f]?=some fn) (hb:fn.body=some c) (hn:(fn.name == "runtime.NumGoroutine")=false) (hle:Nat.ble as0.length fn.ntmps=true)
  (hsp:st.objs=A++H) (h0:(⟨Vu 0 as0,A,fn.ntmps⟩:St)=I s0) (hN:A.length=N) (hbig:Nat.ble N BIG=true) (hlive:A.all Qmy=true) (hA:∀y∈A,Qan N y) (hE:∀x,(E x).objs.length=N) (hA':∀x,∀y∈(E x).objs,Qan N y)
  (hsl:(as0.all fun a=>a.ids.all fun o=>Nat.blt o N)=true)
  (heff:∀x,∀k,k < N→Sto.puts (fun k=>A[k]?) (eff x) k=(E x).objs[k]?) (hefl:∀x,∀y∈eff x,y.1 < N) (w:List Nat) (hw:∀x,(eff x).map (·.1)=w) (hlow:Nat.ble st.objs.length BIG=true)
  (IH:Qe4 P N c I E F) (h:(F s0).bind K=some r) (hS:∀x,Qfx P fn ops i st (eff x) (E x)=some (S x))
  (k:∀x,K x=some r→RW P rd base ops (Qw d [(w,List.range N)]) (i+1) (S x) Φ):RW P rd base ops d i st Φ:=by
 obtain ⟨o,g,args,ts,first,caps,as1,ho,hop,hg,has,rfl⟩:=Qf5 hi
 obtain ⟨h1,h2⟩:=Yo ho
 cases hx:F s0 with
 | none=>rw [hx] at h; cases h
 | some x =>
  rw [hx] at h
  obtain ⟨out,hex,hout⟩:=IH s0 x hx
  rw [←h0] at hex
  have hsx:=hS x
  unfold Qfx at hsx
  split at hsx
  ·rename_i y o' hr ho'
   rw [h1] at ho'; cases ho'
   split at hsx
   ·rename_i slots objs hp ha
    split at hsx
    ·rename_i hy
     have hsS:S x=⟨slots,objs,st.nt⟩:=(Option.some.inj hsx).symm
     have hks:=k x h
     rw [hsS] at hks
     obtain ⟨p1,p2,p3⟩:=Jf _ _ _ ha
     have hNl:N≤st.objs.length:=by rw [hsp,List.length_append]; omega
     have hbig':N≤BIG:=Nat.le_of_ble_eq_true hbig
     have hAsimp:∀z∈A,Qoe z=true:=fun z hz=>Qmg (hA z hz)
     have hσ:∀k,k < N→sto st.objs k=A[k]?:=fun k hk=>by
      have hkb:k < BIG:=by omega
      rw [Zb hkb,hsp,List.getElem?_append_left (by omega)]
      cases e:A[k]? with
      | none=>rfl
      | some z=>simp [Qpn (hAsimp z (List.mem_of_getElem? e))]
     have hids:∀a∈first++as1++caps,∀k∈a.ids,k < N:=fun a ha k hk=>Xn (List.all_eq_true.1 (List.all_eq_true.1 hsl a ha) k hk)
     have hout':∃e,out=.go e (E x)∧e.ends=true:=by
      rcases hout with he | he
      ·exact ⟨_,he,rfl⟩
      ·exact ⟨_,he,rfl⟩
     obtain ⟨e,rfl,hend⟩:=hout'
     have hlen:objs.length=st.objs.length:=Qma ha (fun y hy=>by have:=hefl x y hy; omega)
     refine Qb1 (s:=(w,List.range N)) ⟨o,⟨some y,eff x,st.objs.length,st.objs.length,List.range N⟩,h1,?_,Que (by simp [Foot.sk,hw x])⟩ hks
     refine Qnn (Q26 (e:=e) (sl':=(E x).slots) (nt':=(E x).nt) (A:=A) (A':=(E x).objs) h2 hop hg has hf hb hn (Nat.le_of_ble_eq_true hle) hσ hN (hE x) hbig' (fun z hz=>List.all_eq_true.1 hlive z hz) hA (hA' x) hids hex hend hr hy (heff x) (hefl x)) rfl ?_ ha hp rfl
     show st.objs.length=objs.length
     exact hlen.symm
    ·cases hsx
   ·cases hsx
  ·cases hsx
end
end Go.Ab
namespace Go.Ab
open Go.RowKit
def J6 {α:Type} (kk:IntKind) (enc:α→AV) (p:Int × α):AV × AV:=(.int kk p.1,enc p.2)
def mapI {α:Type} (kk:IntKind) (enc:α→AV) (l:List (Int × α)):AObj:=mapO (l.map (J6 kk enc))
def Xu {α:Type}:List (Int × α)→Int→Option α
 | [],_=>none
 | p::r,n=>if n==p.1 then some p.2 else Xu r n
def mput {α:Type}:List (Int × α)→Int→α→List (Int × α)
 | [],n,v=>[(n,v)]
 | p::r,n,v=>if n==p.1 then (n,v)::r else p::mput r n v
theorem Qm9:∀(es:List (AV × AV)) (i:Nat),Qev i (Xd i es)=some es
 | [],i=>rfl
 | (k,v)::r,i=>by
  simp only [Xd,Qev]
  rw [show Nat.beq i i=true from Nat.beq_refl i,show Nat.beq (i+1) (i+1)=true from Nat.beq_refl _]
  simp [Qm9 r (i+2)]
theorem Qra (es:List (AV × AV)):Qh3 (mapO es)=some es:=by
 simp [Qh3,mapO,Qm9]
section
variable {P:Program} {α:Type} {enc:α→AV} {kk:IntKind} {kt:TypeId}
theorem Qha (hk:Qa0 P kt=some .int) (n m:Int):Qc1 P kt (.int kk n) (.int kk m)=some (n==m):=by
 unfold Qc1; rw [hk]; simp [Qqm]
theorem Ql4 (hk:Qa0 P kt=some .int) {n:Int}:∀(l:List (Int × α)) (i:Nat),Xu l n=none→Qe6 (Qc1 P kt) (.int kk n) (l.map (J6 kk enc)) i=some none
 | [],i,_=>rfl
 | p::r,i,h=>by
  unfold Xu at h
  split at h
  ·cases h
  ·rename_i hc
   simp only [List.map_cons,J6,Qe6,Qha hk]
   rw [show (n==p.1)=false by simpa using hc]
   exact Ql4 hk r (i+1) h
theorem Ql0 (hk:Qa0 P kt=some .int) {n:Int} {v:α}:∀(l:List (Int × α)) (i:Nat),Xu l n=some v→∃j,Qe6 (Qc1 P kt) (.int kk n) (l.map (J6 kk enc)) i=some (some (i+j,enc v))∧∀w,(l.map (J6 kk enc)).set j (J6 kk enc (n,w))=(mput l n w).map (J6 kk enc)
 | [],i,h=>by cases h
 | p::r,i,h=>by
  unfold Xu at h
  split at h
  ·rename_i hc
   cases h
   refine ⟨0,?_,fun w=>?_⟩
   ·simp only [List.map_cons,J6,Qe6,Qha hk,hc,Nat.add_zero]
   ·simp only [mput,hc,if_true,List.map_cons,List.set_cons_zero]
  ·rename_i hc
   have hc':(n==p.1)=false:=by simpa using hc
   obtain ⟨j,h1,h2⟩:=Ql0 hk r (i+1) h
   refine ⟨j+1,?_,fun w=>?_⟩
   ·simp only [List.map_cons,J6,Qe6,Qha hk,hc']
    rw [show i+(j+1)=i+1+j by omega]
    exact h1
   ·simp only [mput,hc',List.map_cons,List.set_cons_succ,h2 w]
    simp
theorem Qt9 {n:Int} {w:α}:∀(l:List (Int × α)),Xu l n=none→l.map (J6 kk enc)++[J6 kk enc (n,w)]=(mput l n w).map (J6 kk enc)
 | [],_=>rfl
 | p::r,h=>by
  unfold Xu at h
  split at h
  ·cases h
  ·rename_i hc
   have hc':(n==p.1)=false:=by simpa using hc
   simp only [mput,hc',List.map_cons,List.cons_append,Qt9 r h]
   simp
end
section
variable {P:Program} {rd:Option Nat} {base:Nat} {ops:Array Oper} {d:Option (List Sk)} {st S:St} {Φ:AOut→Prop} {i:Nat}
theorem Qjx {P:Program} {nf:Bool} {C:FuncId→List AV→Option Xj} {σ:Sto} {fr:Nat} {s:Slots} {o:Oper} {r:Res}:(Zq P nf C σ fr s o=some (.val r))=(evalOp P nf C σ fr s o=some (.val r)):=by
 apply propext
 unfold Zq
 split
 ·exact Iff.rfl
 ·cases evalOp P nf C σ fr s o with
  | none=>exact Iff.rfl
  | some y=>cases y <;> simp [Z3]
noncomputable def Qvb (P:Program) (ops:Array Oper) (i:Nat) (st:St):Option (Nat × AV × Bool × AV) :=
 match Z9 ops i st with
 | some o=>match o.op with
  | .lookup t x ix c=>match ti P t,evo (lk st.slots) x,evo (lk st.slots) ix with
   | some T,some (.mp ob),some k=>match T.kind with
    | .map kt et=>match Qa0 P kt,(ti P et).bind (·.zero) with
     | some .int,some z=>some (ob,k,c,z)
     | _,_=>none
    | _=>none
   | _,_,_=>none
  | _=>none
 | none=>none
noncomputable def Qve (P:Program) (ops:Array Oper) (i:Nat) (st:St):Option (Nat × AV × AV) :=
 match Z9 ops i st with
 | some o=>match o.op with
  | .mapUpdate t m x y | .insert t m x y=>match ti P t,evo (lk st.slots) m,evo (lk st.slots) x,evo (lk st.slots) y with
   | some T,some (.mp ob),some k,some v=>match T.kind with
    | .map kt _=>match Qa0 P kt with
     | some .int=>some (ob,k,v)
     | _=>none
    | _=>none
   | _,_,_,_=>none
  | _=>none
 | none=>none
theorem Q1x {α:Type} {enc:α→AV} {kk:IntKind} {l:List (Int × α)} {n:Int} {z:α} {ob:Nat} {c:Bool} (hi:Qvb P ops i st=some (ob,.int kk n,c,enc z)) (hrow:st.sto ob=some (mapI kk enc l)) (hok:∀v,(enc v).okv=true)
  (hS:Zk ops i st (some (if c then .tup [enc ((Xu l n).getD z),.bool (Xu l n).isSome] else enc ((Xu l n).getD z))) []=some S) (k:RW P rd base ops (Qw d [([],[ob])]) (i+1) S Φ):RW P rd base ops d i st Φ:=by
 unfold Qvb at hi
 split at hi
 ·rename_i o ho
  split at hi
  ·rename_i t x ix c' hop
   split at hi
   ·rename_i T ob' k' hT hx hix
    split at hi
    ·rename_i kt et hkind
     split at hi
     ·rename_i z' hsk hz
      cases hi
      refine Y5 (nf:=false) (v:=some (if c then .tup [enc ((Xu l n).getD z),.bool (Xu l n).isSome] else enc ((Xu l n).getD z))) (eff:=[]) (fr:=st.objs.length) (rds:=[ob]) ho ?_ hS (Xh hS) k
      rw [Qjx]
      simp only [evalOp,hop]
      unfold Qhi
      have hes:(st.sto ob).bind Qh3=some (l.map (J6 kk enc)):=by rw [hrow]; exact Qra _
      simp only [hT,hx,hix,hkind,hes,Qha hsk,hz]
      cases hg:Xu l n with
      | none =>
       rw [Ql4 hsk l 0 hg]
       simp only [hok,if_true,Option.getD_none,Option.isSome_none]
      | some v =>
       obtain ⟨j,h1,_⟩:=Ql0 (enc:=enc) (kk:=kk) hsk l 0 hg
       rw [h1]
       simp only [hok,if_true,Option.getD_some,Option.isSome_some]
     ·cases hi
    ·cases hi
   ·cases hi
  ·cases hi
 ·cases hi
theorem Q0a {α:Type} {enc:α→AV} {kk:IntKind} {l:List (Int × α)} {n:Int} {v:α} {ob:Nat} (hi:Qve P ops i st=some (ob,.int kk n,enc v)) (hrow:st.sto ob=some (mapI kk enc l))
  (hS:Zk ops i st none [(ob,mapI kk enc (mput l n v))]=some S) (hl:Nat.beq S.objs.length st.objs.length=true) (k:RW P rd base ops (Qw d [([ob],[ob])]) (i+1) S Φ):RW P rd base ops d i st Φ:=by
 have main:∃o,Z9 ops i st=some o∧Zq P false noC st.sto st.objs.length (lk st.slots) o=some (.val ⟨none,[(ob,mapI kk enc (mput l n v))],st.objs.length,[ob]⟩):=by
  unfold Qve at hi
  split at hi
  ·rename_i o ho
   have step:∀(t:TypeId) (m x y:Operand),(o.op=.mapUpdate t m x y∨o.op=.insert t m x y)→(match ti P t,evo (lk st.slots) m,evo (lk st.slots) x,evo (lk st.slots) y with
     | some T,some (.mp ob),some k,some v=>match T.kind with
      | .map kt _=>match Qa0 P kt with
       | some .int=>some (ob,k,v)
       | _=>none
      | _=>none
     | _,_,_,_=>none)=some (ob,AV.int kk n,enc v)→Zq P false noC st.sto st.objs.length (lk st.slots) o=some (.val ⟨none,[(ob,mapI kk enc (mput l n v))],st.objs.length,[ob]⟩):=fun t m x y hop hi=>by
    split at hi
    ·rename_i T ob' k' v' hT hm hx hy
     split at hi
     ·rename_i kt et hkind
      split at hi
      ·rename_i hsk
       cases hi
       rw [Qjx]
       have hev:evalOp P false noC st.sto st.objs.length (lk st.slots) o=Qe5 P st.sto st.objs.length (lk st.slots) t m x y:=by
        rcases hop with hop | hop <;> simp only [evalOp,hop]
       rw [hev]
       unfold Qe5
       have hes:(st.sto ob).bind Qh3=some (l.map (J6 kk enc)):=by rw [hrow]; exact Qra _
       simp only [hT,hm,hx,hy,hkind,hes,Qha hsk]
       cases hg:Xu l n with
       | none =>
        rw [Ql4 hsk l 0 hg]
        simp only
        rw [show (AV.int kk n,enc v)=J6 kk enc (n,v) from rfl,Qt9 l hg]
        rfl
       | some u =>
        obtain ⟨j,h1,h2⟩:=Ql0 (enc:=enc) (kk:=kk) hsk l 0 hg
        rw [h1]
        simp only [Nat.zero_add]
        rw [show (AV.int kk n,enc v)=J6 kk enc (n,v) from rfl,h2]
        rfl
      ·cases hi
     ·cases hi
    ·cases hi
   refine ⟨o,ho,?_⟩
   split at hi
   ·rename_i t m x y hop; exact step t m x y (.inl hop) hi
   ·rename_i t m x y hop; exact step t m x y (.inr hop) hi
   ·cases hi
  ·cases hi
 obtain ⟨o,ho,he⟩:=main
 exact Y5 ho he hS (Nat.eq_of_beq_eq_true hl) k
end
end Go.Ab
namespace Go.Ab
open Go.RowKit
section
variable {P:Program}
theorem Qzo {N:Nat} {α:Type} {kk:IntKind} {enc:α→AV} {l:List (Int × α)} (he:∀v,(enc v).ids=[]):Qan N (mapI kk enc l):=by
 show ∀p∈Xd 0 (l.map (J6 kk enc)),∀o∈p.2.ids,o < N
 have:∀(l:List (Int × α)) (i:Nat),∀p∈Xd i (l.map (J6 kk enc)),p.2.ids=[]:=by
  intro l
  induction l with
  | nil=>intro i p hp; cases hp
  | cons x l ih =>
   intro i p hp
   simp only [List.map_cons,J6,Xd,List.mem_cons] at hp
   rcases hp with rfl | rfl | hp
   ·rfl
   ·exact he _
   ·exact ih (i+2) p hp
 intro p hp o ho
 rw [this l 0 p hp] at ho
 cases ho
end
end Go.Ab
namespace Go.Ab
open Go.RowKit
section
variable {P:Program} {rd:Option Nat} {base:Nat} {ops:Array Oper} {d:Option (List Sk)} {st S1 S:St} {Φ:AOut→Prop} {i:Nat}
noncomputable def Qvw (P:Program) (ops:Array Oper) (i:Nat) (st:St):Option (List AV × Int × Nat) :=
 match Z9 ops i st with
 | some o=>match o.op with
  | .indexAddr t x ix=>match ti P t,evo (lk st.slots) x,evo (lk st.slots) ix with
   | some T,some (.fz cs),some (.int _ n)=>match T.kind with
    | .array len e=>match ti P e with
     | some E=>if Nat.beq E.size 1 then some (cs,n,len) else none
     | none=>none
    | _=>none
   | _,_,_=>none
  | _=>none
 | none=>none
noncomputable def Qv6 (P:Program) (ops:Array Oper) (i:Nat) (st:St):Option (List AV) :=
 match Z9 ops i st with
 | some o=>match o.op with
  | .load t x=>match ti P t,evo (lk st.slots) x with
   | some T,some (.fz cs)=>if T.agg then none else some cs
   | _,_=>none
  | _=>none
 | none=>none
theorem Q5g {l:List Int} {n a:Int} {kk:IntKind} {len:Nat} {cells:List AV} (hi:Qvw P ops i st=some (cells,n,len)) (hc:cells=l.map (AV.int kk)) (hlen:l.length=len) (ha:lkI l n=some a)
  (h1:Zk ops i st (some (.fz ((l.map (AV.int kk)).drop n.toNat))) []=some S1) (hl:Qv6 P ops (i+1) S1=some ((l.map (AV.int kk)).drop n.toNat)) (hS:Zk ops (i+1) S1 (some (.int kk a)) []=some S)
  (k:RW P rd base ops (Qw (Qw d [([],[])]) [([],[])]) (i+1+1) S Φ):RW P rd base ops d i st Φ:=by
 obtain ⟨g1,g2,g3⟩:=Xe ha
 subst hc
 have s1:∃o,Z9 ops i st=some o∧Zq P false noC st.sto st.objs.length (lk st.slots) o=some (.val ⟨some (.fz ((l.map (AV.int kk)).drop n.toNat)),[],st.objs.length,[]⟩):=by
  unfold Qvw at hi
  split at hi
  ·rename_i o ho
   split at hi
   ·rename_i t x ix hop
    split at hi
    ·rename_i T cs' k' n' hT hx hix
     split at hi
     ·rename_i len' e hk
      split at hi
      ·rename_i E hE
       split at hi
       ·rename_i hsz
        have hsz:=Nat.eq_of_beq_eq_true hsz
        cases hi
        refine ⟨o,ho,?_⟩
        rw [Qjx]
        have hneg:¬ n < 0:=by omega
        simp only [evalOp,hop,hT,hx,hix,hk,hE,asN,hneg,if_false]
        rw [if_pos (Ql7 (by omega)),hsz,Nat.mul_one]
        rfl
       ·cases hi
      ·cases hi
     ·cases hi
    ·cases hi
   ·cases hi
  ·cases hi
 obtain ⟨o,ho,he⟩:=s1
 refine Y5 ho he h1 (Xh h1) ?_
 have s2:∃o,Z9 ops (i+1) S1=some o∧Zq P false noC S1.sto S1.objs.length (lk S1.slots) o=some (.val ⟨some (.int kk a),[],S1.objs.length,[]⟩):=by
  unfold Qv6 at hl
  split at hl
  ·rename_i o ho
   split at hl
   ·rename_i t x hop
    split at hl
    ·rename_i T cs hT hx
     split at hl
     ·cases hl
     ·rename_i hag
      have hcs:=Option.some.inj hl
      refine ⟨o,ho,?_⟩
      rw [Qjx]
      have hag':T.agg=false:=by simpa using hag
      have hd:(l.map (AV.int kk)).drop n.toNat = AV.int kk a::(l.map (AV.int kk)).drop (n.toNat + 1):=by
       rw [List.drop_eq_getElem_cons (by simpa using g2)]
       congr 1
       rw [List.getElem_map]
       congr 1
       have:=List.getElem?_eq_some_iff.1 g3
       exact this.2
      simp only [evalOp,hop,hT,hx,hcs,hd]
      simp [Qa2,hag',Z4]
    ·cases hl
   ·cases hl
  ·cases hl
 obtain ⟨o2,ho2,he2⟩:=s2
 exact Y5 ho2 he2 hS (Xh hS) k
end
end Go.Ab
namespace Go.Ab
open Go.RowKit
theorem Qsk {α:Type} {enc:α→AV} {kk:IntKind} {f:Nat → Option Nat} (he:∀v,(enc v).ren f=some (enc v)):∀(l:List (Int × α)) (i:Nat),Qn1 f (Xd i (l.map (J6 kk enc)))=some (Xd i (l.map (J6 kk enc)))
 | [],i=>rfl
 | x::l,i=>by
  simp only [List.map_cons,J6,Xd,Qn1,he]
  have h1:(AV.int kk x.1).ren f=some (.int kk x.1):=rfl
  have h2:=Qsk (kk:=kk) he l (i+2)
  rw [h1]
  simp only [h2]
theorem Qz7 {α:Type} {enc:α→AV} {kk:IntKind} {f:Nat → Option Nat} (he:∀v,(enc v).ren f=some (enc v)) (l:List (Int × α)):(mapI kk enc l).ren f=some (mapI kk enc l):=by
 show AObj.ren f (.loop _ _ _ _ _ _ _)=_
 simp only [AObj.ren,Qsk he l 0]
 rfl
def Qo1 (o:Nat) (m:AObj):List Nat → List AObj→List AObj
 | k::ks,y::ys=>(if Nat.beq k o then m else y)::Qo1 o m ks ys
 | _,ys=>ys
theorem Qj4 {f:Nat → Option Nat} {objs:List AObj} {o:Nat} {e m:AObj} (hm:m.ren f=some m) (ho:o < objs.length):∀(ks:List Nat) (os:List AObj),Yp f (objs.set o e) ks=some os→Yp f (objs.set o m) ks=some (Qo1 o m ks os)
 | [],os,h=>by simp [Yp] at h; subst h; rfl
 | k::ks,os,h=>by
  simp only [Yp] at h ⊢
  by_cases c:o=k
  ·subst c
   rw [List.getElem?_set_self ho] at h ⊢
   simp only at h ⊢
   cases hx:e.ren f with
   | none=>rw [hx] at h; cases h
   | some y =>
    rw [hx] at h
    cases hr:Yp f (objs.set o e) ks with
    | none=>rw [hr] at h; cases h
    | some os' =>
     rw [hr] at h
     have ih:=Qj4 hm ho ks os' hr
     cases h
     rw [ih,hm]
     simp [Qo1]
  ·rw [List.getElem?_set_ne c] at h ⊢
   cases hk:objs[k]? with
   | none=>rw [hk] at h; cases h
   | some x =>
    rw [hk] at h
    simp only at h ⊢
    cases hx:x.ren f with
    | none=>rw [hx] at h; cases h
    | some y =>
     rw [hx] at h
     cases hr:Yp f (objs.set o e) ks with
     | none=>rw [hr] at h; cases h
     | some os' =>
      rw [hr] at h
      have ih:=Qj4 hm ho ks os' hr
      cases h
      rw [ih]
      have:Nat.beq k o=false:=by
       cases e2:Nat.beq k o with
       | false=>rfl
       | true=>exact absurd (Nat.eq_of_beq_eq_true e2).symm c
      simp [Qo1,this]
def Q1w (base:Nat) (live keep:List Nat) (o:Nat) (m:AObj) (st:St):Option St :=
 match Qco base live keep ⟨st.slots,st.objs.set o (mapO []),st.nt⟩ with
 | some s=>some ⟨s.slots,Qo1 o m (List.range base++keep) s.objs,s.nt⟩
 | none=>none
theorem wk_gcM {P:Program} {base:Nat} {st st':St} {live keep:List Nat} (o:Nat) {α:Type} (kk:IntKind) (enc:α→AV) (L:List (Int × α)) (hE:∀f a,(enc a).ren f=some (enc a)) (ho:st.objs[o]?=some (mapI kk enc L))
  (h:Q1w base live keep o (mapI kk enc L) st=some st'):Wk P base st st':=by
 refine wk_gc (live:=live) (keep:=keep) ?_
 unfold Q1w at h
 have hself:st.objs.set o (mapI kk enc L)=st.objs:=by
  obtain ⟨h1,h2⟩:=List.getElem?_eq_some_iff.1 ho
  apply List.ext_getElem?
  intro i
  by_cases e:o=i
  ·subst e; rw [List.getElem?_set_self h1,ho]
  ·rw [List.getElem?_set_ne e]
 cases hg:Qco base live keep ⟨st.slots,st.objs.set o (mapO []),st.nt⟩ with
 | none=>rw [hg] at h; cases h
 | some s =>
  rw [hg] at h
  cases h
  unfold Qco at hg ⊢
  simp only at hg ⊢
  split at hg
  ·rename_i hc
   rw [if_pos hc]
   split at hg
   ·rename_i os hos
    cases hg
    have:=Qj4 (Qz7 (kk:=kk) (fun a=>hE _ a) L) (List.getElem?_eq_some_iff.1 ho).1 _ _ hos
    rw [hself] at this
    rw [this]
   ·cases hg
  ·cases hg
end Go.Ab
namespace Go.Ab
open Go.RowKit
theorem Qst:∀(es:List (Nat × AObj)) (A A':List AObj),Zz A es=some A'→(∀y∈es,y.1 < A.length)→∀k,Sto.puts (fun k=>A[k]?) es k=A'[k]?
 | [],A,A',h,_,k=>by cases h; rfl
 | (o,x)::es,A,A',h,hl,k=>by
  simp only [Zz] at h
  split at h
  ·have ho:=hl (o,x) (by simp)
   rw [List.getElem?_eq_getElem ho] at h
   simp only at h
   split at h
   ·cases h
   ·have ih:=Qst es _ A' h (fun y hy=>by rw [List.length_set]; exact hl y (List.mem_cons_of_mem _ hy)) k
    rw [←ih]
    show Sto.puts _ es k=_
    congr 1
    funext j
    by_cases e:j=o
    ·subst e; simp [Sto.put,List.getElem?_set_self ho]
    ·simp [Sto.put,e,List.getElem?_set_ne (fun h=>e h.symm)]
  ·cases h
theorem Qjl {N:Nat} {A:List AObj} (k:Nat) {α:Type} (kk:IntKind) (enc:α→AV) (l:List (Int × α)) (hk:A[k]?=some (mapI kk enc l)) (he:∀v,(enc v).ids=[]) (h:(A.set k .dead).all (Qsb N)=true):∀y∈A,Qan N y:=fun y hy=>by
 obtain ⟨j,hj⟩:=List.mem_iff_getElem?.1 hy
 by_cases e:k=j
 ·subst e
  rw [hk] at hj
  cases hj
  exact Qzo he
 ·exact Q2m (List.all_eq_true.1 h y (List.mem_of_getElem? (by rw [List.getElem?_set_ne e]; exact hj)))
section
variable {P:Program} {rd:Option Nat} {base:Nat} {ops:Array Oper} {d:Option (List Sk)} {st:St} {Φ:AOut→Prop} {i:Nat}
theorem Q4h {σ ρ R:Type} {N:Nat} {c:Code} {I:σ→St} {E:ρ→St} {F:σ→Option ρ} {K:ρ→Option R} {r:R} {f:FuncId} {fn:Func} {as0:List AV} (s0:σ) (eff:ρ→List (Nat × AObj)) (S:ρ→St) (w:List Nat)
  (hi:Zs ops i st=some (f,as0)) (hf:P.funcs[f]?=some fn) (hb:fn.body=some c) (hn:(fn.name == "runtime.NumGoroutine")=false) (hle:Nat.ble as0.length fn.ntmps=true)
  (h0:(⟨Vu 0 as0,st.objs.take N,fn.ntmps⟩:St)=I s0) (hN:Nat.ble N st.objs.length=true) (hbig:Nat.ble st.objs.length BIG=true) (hlive:(st.objs.take N).all Qmy=true) (hA:∀y∈st.objs.take N,Qan N y) (hE:∀x,Nat.beq (E x).objs.length N=true) (hA':∀x,∀y∈(E x).objs,Qan N y)
  (hsl:(as0.all fun a=>a.ids.all fun o=>Nat.blt o N)=true)
  (heff:∀x,Zz (st.objs.take N) (eff x)=some (E x).objs) (hw:∀x,(eff x).map (·.1)=w) (hwl:(w.all fun o=>Nat.blt o N)=true)
  (IH:Qe4 P N c I E F) (h:(F s0).bind K=some r) (hS:∀x,Qfx P fn ops i st (eff x) (E x)=some (S x))
  (k:∀x,K x=some r→RW P rd base ops (Qw d [(w,List.range N)]) (i+1) (S x) Φ):RW P rd base ops d i st Φ:=by
 have hNl:N≤st.objs.length:=Nat.le_of_ble_eq_true hN
 have hlA:(st.objs.take N).length=N:=by rw [List.length_take]; omega
 have hel:∀x,∀y∈eff x,y.1 < N:=fun x y hy=>by
  have:y.1∈(eff x).map (·.1):=List.mem_map_of_mem hy
  rw [hw x] at this
  exact Xn (List.all_eq_true.1 hwl _ this)
 refine Q5q s0 (st.objs.take N) (st.objs.drop N) eff S hi hf hb hn hle (List.take_append_drop N st.objs).symm h0 hlA ?_ hlive hA (fun x=>Nat.eq_of_beq_eq_true (hE x)) hA' hsl (fun x k _=>Qst _ _ _ (heff x) (fun y hy=>by rw [hlA]; exact hel x y hy) k) hel w hw hbig IH h hS k
 have:=Nat.le_of_ble_eq_true hbig
 exact Nat.ble_eq_true_of_le (by omega)
theorem Q4w {σ ρ R:Type} {N:Nat} {c:Code} {I:σ→St} {E:ρ→St} {F:(σ→Option ρ)→σ→Option ρ} {K:ρ→Option R} {r:R} {f:FuncId} {fn:Func} {as0:List AV} (s0:σ) (eff:ρ→List (Nat × AObj)) (S:ρ→St) (w:List Nat)
  (hi:Zs ops i st=some (f,as0)) (hf:P.funcs[f]?=some fn) (hb:fn.body=some c) (hn:(fn.name == "runtime.NumGoroutine")=false) (hle:Nat.ble as0.length fn.ntmps=true)
  (h0:(⟨Vu 0 as0,st.objs.take N,fn.ntmps⟩:St)=I s0) (hN:Nat.ble N st.objs.length=true) (hbig:Nat.ble st.objs.length BIG=true) (hlive:(st.objs.take N).all Qmy=true) (hA:∀y∈st.objs.take N,Qan N y) (hE:∀x,Nat.beq (E x).objs.length N=true) (hA':∀x,∀y∈(E x).objs,Qan N y)
  (hsl:(as0.all fun a=>a.ids.all fun o=>Nat.blt o N)=true)
  (heff:∀x,Zz (st.objs.take N) (eff x)=some (E x).objs) (hw:∀x,(eff x).map (·.1)=w) (hwl:(w.all fun o=>Nat.blt o N)=true)
  (h:(Ve F fuel s0).bind K=some r) (hS:∀x,Qfx P fn ops i st (eff x) (E x)=some (S x))
  (step:∀d,Qe4 P N c I E d→∀s x,F d s=some x→WP P none N c (I s) (fun o=>o=.go .ret (E x)∨o=.go .normal (E x)))
  (k:∀x,K x=some r→RW P rd base ops (Qw d [(w,List.range N)]) (i+1) (S x) Φ):RW P rd base ops d i st Φ :=
 Q4h s0 eff S w hi hf hb hn hle h0 hN hbig hlive hA hE hA' hsl heff hw hwl (Qt7 step fuel) h hS k
end
end Go.Ab
