/- What functions compute. No conditions. -/
import Derived.Test.YtcbhkobklhkiiaaDoorW13
import Derived.Test.YtcbhkobklhkiiaaDoorRows
import Derived.Test.YtcbhkobklhkiiaaDoorEng6
import Derived.WalkKit
import Derived.ProofKit
import Derived.LaidMore
import Derived.Lib.LaidTab
import Derived.Stop.LaidErr
import Derived.Stop.Joined
import Derived.OpenShut
set_option linter.all false
namespace Go.Ab
open Go
set_option maxRecDepth 100000
set_option maxHeartbeats 400000
noncomputable def Qat (n:Nat) (q:Nat → List Nat):List Nat := Kq n (mg n q) (wid n (mg n q) n fun _=>true) n fun _=>true
theorem Qq5 {n:Nat} {q:Nat → List Nat} (h1:1≤n):Ord n (Qat n q):=by
 have hG:=Qcc (n:=n) (q:=q)
 obtain ⟨h,hl⟩:=Qli (A:=mg n q) (Ql9 hG h1 n (fun _=>true) (Ky n)) n (fun _=>true) (Ky n) (Nat.le_refl _)
 exact ⟨hl,fun v hv=>((h.mem v).1 hv).1,h.nodup⟩
theorem Qyz {n:Nat} {q:Nat → List Nat} (h1:1≤n):Qde n (mg n q) (Qat n q)≤wid n (mg n q) n fun _=>true:=by
 have hG:=Qcc (n:=n) (q:=q)
 have:=Qqg hG (Ql9 hG h1 n (fun _=>true) (Ky n)) n (fun _=>true) (Ky n) (Nat.le_refl _)
 rwa [Qq3 hG fun _ _ _=>rfl] at this
theorem Qt3 {n:Nat} {g:Int} {F:Nat → Tapi_Node} (hb:NB n F) (hbig:n≤1000) :
  (¬ Jo n g F∧Vr ⟨g,Qd n F⟩=some (Qqc,50))∨(Jo n g F∧Vr ⟨g,Qd n F⟩=some (mkT n (Qf F) (Qat n (Qf F)),0)):=by
 unfold Vr
 rcases Qkx (g:=g) hb (by omega) with ⟨hf,e⟩ | ⟨hf,e⟩
 ·right
  refine ⟨hf,?_⟩
  have hB:=Qwr hf.n1 (by have:=hf.n8; omega) (Qcc (n:=n) (q:=Qf F))
  rw [e,Option.bind_some,if_neg (by simp),Qmn hb hf,Option.bind_some,if_neg (by simp)]
  dsimp only
  rw [hB,Option.bind_some]
  dsimp only
  rw [if_neg (by simp),show Kq n (mg n (Qf F)) (wid n (mg n (Qf F)) n fun _=>true) n (fun _=>true)=Qat n (Qf F) from rfl,Qqs hb hf (Qq5 hf.n1)]
  rfl
 ·left
  refine ⟨hf,?_⟩
  rw [e,Option.bind_some,if_pos (by decide)]; rfl
def TS (m:Nat) (t:Tapi_Tree):Prop:=(∀c∈t.Cliques,0≤c∧c≤18446744073709551615)∧t.Cliques.length≤m∧t.Up.length≤m∧t.Home.length≤m
theorem Qzq {m:Nat} {t:Tapi_Tree} (hm:m≤1000) (h:TS m t):Jp t:=⟨h.1,by have:=h.2.1; omega,by have:=h.2.2.1; omega,by have:=h.2.2.2; omega⟩
theorem Q2x {n:Nat} {q:Nat → List Nat} {o:List Nat} (h1:1≤n) (hn:n≤8) (ho:Ord n o):TS 8 (mkT n q o):=by
 obtain ⟨l1,l2,l3,l4⟩:=Qnt (q:=q) ho h1
 exact ⟨(Qjt h1 hn ho).1,by omega,by omega,by omega⟩
theorem Qqb (x:Int):0≤zv x∧zv x≤18446744073709551615:=by
 show 0≤IntKind.wrap .u64 x∧IntKind.wrap .u64 x≤_
 rw [IntKind.wrap_u64]; omega
theorem Q1o {n:Int} (h:(Lit.int .u64 n).wf=true):0≤n∧n≤18446744073709551615:=by
 simpa [Lit.wf,IntKind.min,IntKind.max,IntKind.bits,IntKind.signed] using h
theorem Q2k {a:Int} {k:Nat} (ha:0≤a∧a≤255) (hk:0 < k):0≤Int.tmod (zw a) (k:Int)∧Int.tmod (zw a) (k:Int) < k:=by
 rw [w64 (by omega),Ks ha.1]
 exact ⟨Int.emod_nonneg _ (by omega),Int.emod_lt_of_pos _ (by omega)⟩
theorem Ql0 {a:Int} {l:List Int} (ha:0≤a∧a≤255) (hl:0 < l.length):∃x∈l,lkI l (Int.tmod (zw a) (l.length:Int))=some x:=by
 obtain ⟨h1,h2⟩:=Q2k ha hl
 exact ⟨_,List.getElem_mem _,Q05 h1 h2⟩
theorem Qwe {m:Nat} {t:Tapi_Tree} {i:Nat} {x:Int} (h:TS m t) (hx:0≤x∧x≤18446744073709551615):TS (m+1) ⟨t.Cliques.set i x,t.Up,t.Home⟩:=by
 obtain ⟨h1,h2,h3,h4⟩:=h
 refine ⟨fun c hc=>?_,by show (t.Cliques.set i x).length≤_; rw [List.length_set]; omega,by show t.Up.length≤_; omega,by show t.Home.length≤_; omega⟩
 rcases List.mem_or_eq_of_mem_set hc with h | h
 ·exact h1 c h
 ·rw [h]; exact hx
theorem K5 {C:Prop} [Decidable C] {α:Type} {A B:Option α} {Q:α→Prop} (h1:C→∃t',A=some t'∧Q t') (h2:¬ C→∃t',B=some t'∧Q t'):∃t',(if C then A else B)=some t'∧Q t':=by
 by_cases c:C
 ·rw [if_pos c]; exact h1 c
 ·rw [if_neg c]; exact h2 c
theorem Qoc {b:Tharuspexref10_Bend} {t:Tapi_Tree} {m:Nat} (hm:m≤1000) (hb:Xa b) (h:TS m t):∃t',Vb b t=some t'∧TS (m+1) t':=by
 have ha:=Kz hb.2.1
 have hS:=Q1o hb.2.2.2
 have hs:=h
 obtain ⟨h1,h2,h3,h4⟩:=h
 have up:TS (m+1) t:=⟨h1,by omega,by omega,by omega⟩
 unfold Vb
 rw [if_pos (by omega),if_pos (by omega),if_pos (by omega)]
 have pos:∀{l:List Int},decide ((l.length:Int) > 0)=true→0 < l.length:=fun h=>by rw [decide_eq_true_eq] at h; omega
 refine K5 (fun _=>?_) fun _=>?_
 ·refine K5 (fun c=>?_) fun _=>?_
  ·skip
   obtain ⟨x,_,e⟩:=Ql0 ha (pos c)
   rw [if_pos (by have:=pos c; omega),e,Option.bind_some,Option.bind_some]
   exact ⟨_,rfl,Qwe hs hS⟩
  ·exact ⟨_,rfl,up⟩
 refine K5 (fun _=>?_) fun _=>?_
 ·refine K5 (fun c=>?_) fun _=>?_
  ·skip
   obtain ⟨x,_,e⟩:=Ql0 ha (pos c)
   rw [if_pos (by have:=pos c; omega),if_pos (by have:=pos c; omega),e,Option.bind_some,Option.bind_some]
   exact ⟨_,rfl,Qwe hs (Qqb _)⟩
  ·exact ⟨_,rfl,up⟩
 refine K5 (fun _=>?_) fun _=>?_
 ·refine K5 (fun c=>?_) fun _=>?_
  ·skip
   obtain ⟨x,_,e⟩:=Ql0 ha (pos c)
   rw [if_pos (by have:=pos c; omega),e,Option.bind_some,Option.bind_some]
   exact ⟨_,rfl,h1,by show t.Cliques.length≤_; omega,by show (List.set _ _ _).length≤_; rw [List.length_set]; omega,by show t.Home.length≤_; omega⟩
  ·exact ⟨_,rfl,up⟩
 refine K5 (fun _=>?_) fun _=>?_
 ·refine K5 (fun c=>?_) fun _=>?_
  ·skip
   obtain ⟨x,_,e⟩:=Ql0 ha (pos c)
   rw [if_pos (by have:=pos c; omega),e,Option.bind_some,Option.bind_some]
   exact ⟨_,rfl,h1,by show t.Cliques.length≤_; omega,by show t.Up.length≤_; omega,by show (List.set _ _ _).length≤_; rw [List.length_set]; omega⟩
  ·exact ⟨_,rfl,up⟩
 refine K5 (fun _=>?_) fun _=>?_
 ·refine K5 (fun c=>?_) fun _=>?_
  ·skip
   rw [if_pos (by have:=pos c; omega)]
   refine ⟨_,rfl,fun x hx=>?_,?_,by show t.Up.length≤_; omega,by show t.Home.length≤_; omega⟩
   ·have hx:x∈sub t.Cliques 1 (t.Cliques.length:Int):=hx
    unfold sub at hx
    exact h1 x (List.mem_of_mem_drop (List.mem_of_mem_take hx))
   ·show (sub t.Cliques 1 (t.Cliques.length:Int)).length≤_
    unfold sub
    rw [List.length_take,List.length_drop]; omega
  ·exact ⟨_,rfl,up⟩
 refine K5 (fun _=>?_) fun _=>?_
 ·rw [if_pos (by rw [List.length_append]; simp; omega),if_pos (by rw [List.length_append]; simp; omega)]
  refine ⟨_,rfl,fun x hx=>?_,by show (_++_:List Int).length≤_; rw [List.length_append]; simp; omega,by show (_++_:List Int).length≤_; rw [List.length_append]; simp; omega,by show t.Home.length≤_; omega⟩
  rcases List.mem_append.1 hx with h | h
  ·exact h1 x h
  ·simp only [List.mem_singleton] at h; rw [h]; exact hS
 refine K5 (fun _=>?_) fun _=>?_
 ·rw [if_pos (by rw [List.length_append]; simp; omega)]
  exact ⟨_,rfl,h1,by show t.Cliques.length≤_; omega,by show t.Up.length≤_; omega,by show (_++_:List Int).length≤_; rw [List.length_append]; simp; omega⟩
 refine K5 (fun c=>?_) fun _=>?_
 ·skip
  obtain ⟨x,_,e⟩:=Ql0 ha (pos c)
  rw [if_pos (by have:=pos c; omega),if_pos (by rw [List.length_append]; simp; omega),e,Option.bind_some,if_pos (by rw [List.length_append]; simp; omega)]
  refine ⟨_,rfl,fun x hx=>?_,by show (_++_:List Int).length≤_; rw [List.length_append]; simp; omega,by show (_++_:List Int).length≤_; rw [List.length_append]; simp; omega,by show t.Home.length≤_; omega⟩
  rcases List.mem_append.1 hx with h | h
  ·exact h1 x h
  ·simp only [List.mem_singleton] at h; rw [h]; exact Qqb _
 ·exact ⟨_,rfl,up⟩
end Go.Ab
namespace Go.Ab
open Go
set_option maxRecDepth 100000
set_option maxHeartbeats 400000
theorem Qlx {n:Nat}:∀(l:List Nat),l.Nodup→(∀p∈l,p < n)→l.length≤cnt n fun i=>decide (i∈l)
 | [],_,_=>Nat.zero_le _
 | p::l,hn,hl=>by
  have hp:=hl p (by simp)
  have hno:=(List.nodup_cons.1 hn).1
  have ih:=Qlx l (List.nodup_cons.1 hn).2 fun x hx=>hl x (List.mem_cons_of_mem _ hx)
  have h:=Qcb (n:=n) (v:=p) (p:=fun i=>decide (i∈p::l)) hp (by simp)
  have e:cnt n (fun i=>decide (i∈p::l) && !decide (p=i))=cnt n (fun i=>decide (i∈l)):=Y4 fun i _=>by
   by_cases c:p=i
   ·subst c; simp [hno]
   ·have:¬ i=p:=fun e=>c e.symm
    simp [c,this]
  rw [e] at h
  simp only [List.length_cons]; omega
theorem Q0u {n v:Nat} {q:Nat → List Nat} (hv:v < n) (hs:(q v).Pairwise (· < ·)) (hl:∀p∈q v,p < n) (hno:v ∉ q v):(q v).length+1≤cnt n (FG q v):=by
 have h:=Qcb (n:=n) (v:=v) (p:=FG q v) hv (by unfold FG; simp)
 have e:cnt n (fun i=>FG q v i && !decide (v=i))=cnt n (fun i=>decide (i∈q v)):=Y4 fun i _=>by
  unfold FG
  by_cases c:v=i
  ·subst c; simp [hno]
  ·simp [c]
 have hn:(q v).Nodup:=hs.imp fun h=>by omega
 have:=Qlx (q v) hn hl
 rw [e] at h; omega
theorem Qxc {n v:Nat} {q:Nat → List Nat} {t:Tapi_Tree} (ht:Kw n q t) (hv:v < n):cnt n (FG q v)≤maxPc n t t.Cliques.length:=by
 obtain ⟨h1,h2,h3⟩:=ht.hm v hv
 have:=Qew (n:=n) (t:=t) t.Cliques.length (hmA t v).toNat (by omega)
 refine Nat.le_trans (Qd7 fun i hi hf=>?_) this
 exact X1.1 h3 i (by rw [Q8]; simp [hi,hf])
theorem Qw6 {n:Nat} {g w:Int} {F:Nat → Tapi_Node} {t:Tapi_Tree} (hf:Jo n g F) (ht:Kw n (Qf F) t):Qb fuel (X6 ⟨g,Qd n F⟩ ((maxPc n t t.Cliques.length:Int) - 1,w)) 0=some (.inr ()):=by
 have hlen:(Qd n F).length=n:=X2
 have hn:=hf.n8
 have hr:=Jq (n:=n) (k0:=0) (by omega) (by omega) (fun i (_:Unit)=>i) (body:=X6 ⟨g,Qd n F⟩ ((maxPc n t t.Cliques.length:Int) - 1,w)) (fun _=>()) (.inr ())
  (fun v _ hv=>by
   obtain ⟨p1,p2,p3⟩:=K7 (hf.node v hv).1.1
   have hno:v ∉ Qf F v:=fun hm=>(hf.node v hv).1.2 (by rw [p1]; unfold nI; exact List.mem_map.2 ⟨v,hm,rfl⟩)
   have h1:=Q0u hv p2 p3 hno
   have h2:=Qxc ht hv
   have h3:(F v).Parents.length=(Qf F v).length:=by unfold Qf; rw [List.length_map]
   unfold X6
   dsimp only
   rw [hlen,if_pos (dlt hv),Xc hv,Option.bind_some,if_neg (by simp; omega)])
  (by unfold X6; dsimp only; rw [hlen,if_neg (nlt _)])
 rw [show ((0:Nat):Int)=0 from rfl] at hr
 exact hr
theorem widths_true (p0:Qc) (p1:Int × Int × Int × Int × Int × Int × Int × Int) (p2:Tharuspexref10_Bend × Tharuspexref10_Bend) (h0:Yz p0)
  (h1:(Lit.int .u8 p1.1).wf=true∧(Lit.int .u8 p1.2.1).wf=true∧(Lit.int .u8 p1.2.2.1).wf=true∧(Lit.int .u8 p1.2.2.2.1).wf=true∧(Lit.int .u8 p1.2.2.2.2.1).wf=true∧(Lit.int .u8 p1.2.2.2.2.2.1).wf=true∧(Lit.int .u8 p1.2.2.2.2.2.2.1).wf=true∧(Lit.int .u8 p1.2.2.2.2.2.2.2).wf=true)
  (h2:Xa p2.1∧Xa p2.2):Kl p0 p1 p2=some true:=by
 obtain ⟨D,o,X,n1,n5,hb,hf,ho,e1,e2,e3,ht,hs⟩:=Quk h0 h1
 have hlen:(Qd D.n D.node).length=D.n:=X2
 have hq:=fun v hv=>(K7 (hf.node v hv).1.1).2.2
 have hob:=Qq5 (q:=Qf D.node) n1
 have hto:=Qw0 n1 n5 hq hob
 have hso:=Qjt (q:=Qf D.node) n1 hf.n8 hob
 have hw:=Qyz (q:=Qf D.node) n1
 have el:Vr ⟨D.g,Qd D.n D.node⟩=some (mkT D.n (Qf D.node) (Qat D.n (Qf D.node)),0):=by
  rcases Qt3 (g:=D.g) hb (by omega) with ⟨hf',_⟩ | ⟨_,e⟩
  ·exact absurd hf hf'
  ·exact e
 have ew:X9 ⟨D.g,Qd D.n D.node⟩ (mkT D.n (Qf D.node) (Qat D.n (Qf D.node)))=some ((maxPc D.n (mkT D.n (Qf D.node) (Qat D.n (Qf D.node))) (mkT D.n (Qf D.node) (Qat D.n (Qf D.node))).Cliques.length:Int) - 1,0):=by
  rcases Qmw (g:=D.g) hb (by omega) hso with ⟨hf',_⟩ | ⟨_,ht',_⟩ | ⟨_,_,e⟩
  ·exact absurd hf hf'
  ·exact absurd hto ht'
  ·exact e
 have hmw:=Q0n (q:=Qf D.node) n1 hob
 have ts:=Q2x (q:=Qf D.node) n1 hf.n8 ho
 obtain ⟨t1,b1,s1⟩:=Qoc (by omega) h2.1 ts
 obtain ⟨t2,b2,s2⟩:=Qoc (by omega) h2.2 s1
 have hstep:∀(k:Nat) (t:Tapi_Tree),k < 3→lkI ([mkT D.n (Qf D.node) o,t1,t2]:(List Tapi_Tree)) (k:Int)=some t→Jp t→X5 (mkT D.n (Qf D.node) o,0) t1 t2 ⟨D.g,Qd D.n D.node⟩ ((maxPc D.n (mkT D.n (Qf D.node) (Qat D.n (Qf D.node))) (mkT D.n (Qf D.node) (Qat D.n (Qf D.node))).Cliques.length:Int) - 1,0) (k:Int)=some (.next (zw ((k:Int)+1))):=fun k t hk hl hst=>by
  unfold X5
  dsimp only
  rw [if_pos (by rw [decide_eq_true_eq]; omega),hl,Option.bind_some]
  rcases Qmw (g:=D.g) hb (by omega) hst with ⟨hf',_⟩ | ⟨_,_,e⟩ | ⟨_,htt,e⟩
  ·exact absurd hf hf'
  ·rw [e,Option.bind_some,if_neg (by decide),if_neg (by decide)]
  ·have:=Qwp htt
   rw [e,Option.bind_some,if_pos (by simp),if_neg (by simp; omega)]
 have h:=Jq (n:=3) (k0:=0) (by omega) (by omega) (fun i (_:Unit)=>i) (body:=X5 (mkT D.n (Qf D.node) o,0) t1 t2 ⟨D.g,Qd D.n D.node⟩ ((maxPc D.n (mkT D.n (Qf D.node) (Qat D.n (Qf D.node))) (mkT D.n (Qf D.node) (Qat D.n (Qf D.node))).Cliques.length:Int) - 1,0)) (fun _=>()) (.inr ())
  (fun k _ hk=>by
   match k,hk with
   | 0,_=>exact hstep 0 _ (by omega) rfl hs
   | 1,_=>exact hstep 1 _ (by omega) rfl (Qzq (by omega) s1)
   | 2,_=>exact hstep 2 _ (by omega) rfl (Qzq (by omega) s2))
  (by unfold X5; rw [if_neg (by decide)])
 rw [show ((0:Nat):Int)=0 from rfl] at h
 unfold Kl
 rw [Qua,Option.bind_some,if_neg (by decide),e1,Option.bind_some]
 dsimp only
 rw [hlen,show (p1.1,p1.2.1,p1.2.2.1,p1.2.2.2.1,p1.2.2.2.2.1,p1.2.2.2.2.2.1,p1.2.2.2.2.2.2.1,p1.2.2.2.2.2.2.2)=p1 from rfl,e2,Option.bind_some,e3,Option.bind_some,el,Option.bind_some]
 dsimp only
 rw [ew,Option.bind_some]
 dsimp only
 rw [if_neg (by decide),if_neg (by decide),if_neg (by decide),Qw6 hf hto,Option.bind_some]
 dsimp only
 rw [b1,Option.bind_some,Option.bind_some,b2,Option.bind_some,h]
 rfl
#print axioms widths_true
end Go.Ab
namespace Go.Ab
open Go Go.Proofs Go.Proofs.YtcbhkobklhkiiaaDoor
open Go.ChangeShapes Go.WideShapes Go.ChangeAt Go.RowKit
abbrev dr_laid:List (String × DataW Unit):=[("math/bits.deBruijn32tab",Rows.laid_math_bits_deBruijn32tab),("math/bits.deBruijn64tab",Rows.laid_math_bits_deBruijn64tab)]
theorem dr_own:ownKnob Tryd.prog.godebug=none:=by kernel_rfl
theorem Qzf:Tryd.prog.globalNamed "math/bits.deBruijn32tab" = some 0:=by kernel_rfl
theorem Qzm:Tryd.prog.globalNamed "math/bits.deBruijn64tab" = some 1:=by kernel_rfl
theorem dr_met (os:Os) (args:Array Value):laidMetH Tryd.prog dr_laid ((World.doorLaid Tryd.prog 19 os).forCall (fun _ _=>0) ⟨#[],args,[]⟩).memory :=
 laidMetH_of_parts3 (fuel:=8) (laidMet_of_run' 8 (by kernel_rfl) (by kernel_rfl)) (by kernel_rfl) (by kernel_rfl)
theorem dr_glob {W:World} (h:laidMetH Tryd.prog dr_laid W):Go.Ab.GlobIn W:=by
 rw [MakeChecks.laidMetH_plain _ _ _ (by kernel_rfl)] at h
 have h0:=Lib.tabIs_of_head (k:=.u8) (zs:=Go.Ab.tab0) (t:=158) (e:=5) (n:=32) Qzf (by kernel_rfl) (by kernel_rfl) (by kernel_rfl) (by kernel_rfl) (by kernel_rfl) h
 have h1:=Lib.tabIs_of_head (k:=.u8) (zs:=Go.Ab.tab1) (t:=159) (e:=5) (n:=64) Qzm (by kernel_rfl) (by kernel_rfl) (by kernel_rfl) (by kernel_rfl) (by kernel_rfl) h.tail
 intro g xs hg i v hv
 match g,hg with
 | 0,hg =>
  cases hg
  have hi:i < Go.Ab.tab0.length:=by have:=(List.getElem?_eq_some_iff.1 hv).1; simpa using this
  have:=h0.cell Qzf i hi
  rw [this]
  rw [List.getElem?_map] at hv
  simpa [List.getD,hi] using hv
 | 1,hg =>
  cases hg
  have hi:i < Go.Ab.tab1.length:=by have:=(List.getElem?_eq_some_iff.1 hv).1; simpa using this
  have:=h1.cell Qzm i hi
  rw [this]
  rw [List.getElem?_map] at hv
  simpa [List.getD,hi] using hv
 | n+2,hg=>cases hg
end Go.Ab
