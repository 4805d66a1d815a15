/- What functions compute. No conditions. -/
import Derived.Test.YtjhfdojgaoapcaaDoorW15
import Derived.Test.YtjhfdojgaoapcaaDoorRows
import Derived.Test.YtjhfdojgaoapcaaDoorEng6
import Derived.WalkKit
import Derived.ProofKit
import Derived.LaidMore
import Derived.Lib.LaidTab
import Derived.Stop.LaidErr
import Derived.Stop.Joined
import Derived.OpenShut
set_option linter.all false
namespace Go.Ab
open Go
set_option maxRecDepth 100000
set_option maxHeartbeats 400000
def mu (fill:Bool) (n:Nat):Gr→Nat → Nat := if fill then lackN n else degN n
theorem ref_pick {n:Nat} {A:Gr} {L:Nat → Bool} {fill:Bool} {o:List Int} (hn:n≤10):whileN fuel (g_ref08_greedy_b0 (gl n A,fill,((msk n fun i=>!L i:Nat):Int),o)) (fill,-1,0,0)=some (fill,(amE (mu fill n A) (amin L (mu fill n A) n)).1):=by
 have h:=rng_run (n:=n) (k0:=0) (by omega) (by omega) (fun i (t:Int × Int)=>(fill,t.1,t.2,i)) (body:=g_ref08_greedy_b0 (gl n A,fill,((msk n fun i=>!L i:Nat):Int),o)) (fun k=>amE (mu fill n A) (amin L (mu fill n A) k)) (fill,(amE (mu fill n A) (amin L (mu fill n A) n)).1)
  (fun k _ h2=>by
   cases hL:L k with
   | false =>
    rw [amin_skip hL]
    unfold g_ref08_greedy_b0
    dsimp only
    rw [gl_len,if_pos (dlt h2),in_gl hn h2,Option.bind_some,hL]
    rfl
   | true =>
    simp only [amin]
    cases amin L (mu fill n A) k with
    | none =>
     simp only [amE]
     unfold g_ref08_greedy_b0
     dsimp only
     rw [gl_len,if_pos (dlt h2),in_gl hn h2,Option.bind_some,hL,if_neg (by decide),refDegree hn h2,Option.bind_some]
     cases fill with
     | true=>rw [refMissing hn h2,Option.bind_some,List.length_map]; simp [mu,lackN]
     | false=>simp [mu,degN]
    | some b =>
     simp only [amE]
     unfold g_ref08_greedy_b0
     dsimp only
     rw [gl_len,if_pos (dlt h2),in_gl hn h2,Option.bind_some,hL,if_neg (by decide),refDegree hn h2,Option.bind_some]
     have hb:¬ decide ((b:Int) < 0)=true:=by simp
     cases fill with
     | true =>
      rw [refMissing hn h2,Option.bind_some,List.length_map,if_neg hb]
      by_cases c:lackN n A k < lackN n A b
      ·have e:decide (((miss n A k).length:Int) < ((mu true n A b:Nat):Int))=true:=by unfold lackN at c; simp [mu,lackN]; omega
       rw [if_pos rfl,if_pos e,show (mu true n A k).blt (mu true n A b)=true from blt_of c]; simp [mu,lackN]
      ·have e:¬ decide (((miss n A k).length:Int) < ((mu true n A b:Nat):Int))=true:=by unfold lackN at c; simp [mu,lackN]; omega
       rw [if_pos rfl,if_neg e,show (mu true n A k).blt (mu true n A b)=false from blt_false (by simp [mu]; omega)]; simp [mu,lackN]
     | false =>
      rw [if_neg hb,if_neg (by decide)]
      by_cases c:degN n A k < degN n A b
      ·have e:decide ((cnt n (A k):Int) < ((mu false n A b:Nat):Int))=true:=by unfold degN at c; simp [mu,degN]; omega
       rw [if_pos e,show (mu false n A k).blt (mu false n A b)=true from blt_of c]; simp [mu,degN]
      ·have e:¬ decide ((cnt n (A k):Int) < ((mu false n A b:Nat):Int))=true:=by unfold degN at c; simp [mu,degN]; omega
       rw [if_neg e,show (mu false n A k).blt (mu false n A b)=false from blt_false (by simp [mu]; omega)]; simp [mu,degN])
  (by
   unfold g_ref08_greedy_b0
   dsimp only
   rw [gl_len,if_neg (nlt n)])
 exact h
theorem msk_add {n b:Nat} {L:Nat → Bool} (hn:n≤10) (hb:b < n):IntKind.u64.wrap (BitVec.ofInt (IntKind.bits .u64) ((msk n fun i=>!L i:Nat):Int) ||| BitVec.ofInt (IntKind.bits .u64) (IntKind.u64.wrap (1*2^min (Int.toNat (IntKind.u64.wrap (b:Int))) (IntKind.bits .u64)))).toNat = ((msk n fun i=>!(L i && !decide (b=i)):Nat):Int):=by
 rw [u64_nat (show b < 18446744073709551616 by omega),u_ins hn hb]
 congr 1
 exact msk_congr fun i _=>by simp
theorem ref_greedy_loop {n:Nat} {fill:Bool} (hn:n≤10):∀(k N:Nat) (A:Gr) (L:Nat → Bool) (o:List Nat),k < N→cnt n L=k→Good n A→o.length+k=n →
  whileN N g_ref08_greedy_b1 (gl n A,fill,((msk n fun i=>!L i:Nat):Int),nI o)=some (nI (o++grd n (mu fill n) k A L))
 | 0,N,A,L,o,hN,hc,hG,hl=>by
  obtain ⟨N,rfl⟩:∃M,N=M+1:=⟨N - 1,by omega⟩
  have:o.length=n:=by omega
  simp only [whileN]
  unfold g_ref08_greedy_b1
  dsimp only
  rw [nI_len,gl_len,this,if_neg (nlt n)]
  simp [grd]
 | k+1,N,A,L,o,hN,hc,hG,hl=>by
  obtain ⟨N,rfl⟩:∃M,N=M+1:=⟨N - 1,by omega⟩
  rcases amin_spec (L:=L) (m:=mu fill n A) n with ⟨h1,h2⟩ | ⟨b,h1,h2,h3,_⟩
  ·have:=cnt_zero h2; omega
  ·have hlen:(nI o++([(b:Int)]:List Int)).length*8≤140737488355328:=by rw [List.length_append,nI_len]; simp; omega
   have hb:g_ref08_greedy_b1 (gl n A,fill,((msk n fun i=>!L i:Nat):Int),nI o)=some (.next (gl n (elim A b),fill,((msk n fun i=>!(L i && !decide (b=i)):Nat):Int),nI (o++[b]))):=by
    unfold g_ref08_greedy_b1
    dsimp only
    rw [nI_len,gl_len,if_pos (by simp; omega),ref_pick hn,Option.bind_some]
    simp only [h1,amE,if_pos hlen,refEliminate hn hG h2,Option.bind_some,msk_add hn h2]
    rw [u64_nat (show b < 18446744073709551616 by omega),if_pos (nat_ge b)]
    simp [nI]
   simp only [whileN,hb]
   rw [ref_greedy_loop hn k N (elim A b) (fun i=>L i && !decide (b=i)) (o++[b]) (by omega) (by have:=cnt_del (n:=n) h2 h3; omega) (elim_good hG b) (by simp; omega)]
   simp [grd,h1]
theorem msk_none (n:Nat):((msk n fun i=>!(fun _:Nat => true) i:Nat):Int)=0:=by
 have:(msk n fun i=>!(fun _:Nat => true) i)=0:=(msk_eq (by have:=Nat.two_pow_pos n; omega) fun i _=>by simp).symm
 rw [this]; rfl
theorem refGreedy {n:Nat} {A:Gr} {fill:Bool} (hn:n≤10) (hG:Good n A):g_ref08_greedy (gl n A) fill=some (nI (grd n (mu fill n) n A fun _=>true)):=by
 unfold g_ref08_greedy
 have h:=ref_greedy_loop (fill:=fill) hn n fuel A (fun _=>true) [] (by show n < 1152921504606846976; omega) (cnt_all n) hG (by simp)
 rw [msk_none,show nI []=[] from rfl] at h
 rw [h]; rfl
theorem same_self (l:List Int) (h:l.length≤1000):g_ref02_Same l l=some true:=by
 unfold g_ref02_Same
 rw [if_neg (by simp)]
 have:=rng_run (n:=l.length) (k0:=0) (by omega) (by omega) (fun i (_:Unit)=>i) (body:=g_ref02_Same_b0 l l) (fun _=>()) (Sum.inr ())
  (fun k _ h2=>by
   unfold g_ref02_Same_b0
   rw [if_pos (dlt h2),lkI_nat h2,Option.bind_some,Option.bind_some,if_neg (by simp)])
  (by unfold g_ref02_Same_b0; rw [if_neg (nlt _)])
 rw [show ((0:Nat):Int)=0 from rfl] at this
 rw [this]; rfl
theorem ref_chord_pick {n:Nat} {A:Gr} {L:Nat → Bool} {c:Int} (hn:n≤10) (h1:1≤n) :
  ∃r,whileN fuel (g_ref08_Chordal_b0 (gl n A,((msk n fun i=>!L i:Nat):Int),c)) (-1,((n:Int) - 1))=some r∧((r=-1∧∀i,i < n→L i=true→miss n A i≠[])∨∃b:Nat,r=(b:Int)∧b < n∧L b=true∧miss n A b=[]∧∀i,i < b→L i=true→miss n A i≠[]):=by
 obtain ⟨r,e,hr⟩:=whileN_ex (body:=g_ref08_Chordal_b0 (gl n A,((msk n fun i=>!L i:Nat):Int),c))
  (fun s=>∃k:Nat,k≤n∧s.2=(k:Int) - 1∧((s.1=-1∧∀i,k≤i→i < n→L i=true→miss n A i≠[])∨∃b:Nat,s.1=(b:Int)∧k≤b∧b < n∧L b=true∧miss n A b=[]∧∀i,k≤i→i < b→L i=true→miss n A i≠[]))
  (fun s=>(s.2+1).toNat) (fun r=>(r=-1∧∀i,i < n→L i=true→miss n A i≠[])∨∃b:Nat,r=(b:Int)∧b < n∧L b=true∧miss n A b=[]∧∀i,i < b→L i=true→miss n A i≠[])
  (fun s ⟨k,hk,e2,hI⟩=>by
   obtain ⟨s1,s2⟩:=s
   simp only at e2 hI
   subst e2
   cases k with
   | zero =>
    right
    refine ⟨s1,by unfold g_ref08_Chordal_b0; dsimp only; rw [if_neg (by simp)],?_⟩
    rcases hI with ⟨a,b⟩ | ⟨b,a1,a2,a3,a4,a5,a6⟩
    ·exact .inl ⟨a,fun i hi=>b i (by omega) hi⟩
    ·exact .inr ⟨b,a1,a3,a4,a5,fun i hi=>a6 i (by omega) hi⟩
   | succ k =>
    left
    have ek:((k+1:Nat):Int) - 1=(k:Int):=by omega
    rw [ek]
    have hk':k < n:=by omega
    have body:g_ref08_Chordal_b0 (gl n A,((msk n fun i=>!L i:Nat):Int),c) (s1,(k:Int))=some (.next (if L k=true∧miss n A k=[] then (k:Int) else s1,(k:Int) - 1)):=by
     unfold g_ref08_Chordal_b0
     dsimp only
     rw [if_pos (by simp),in_gl hn hk',Option.bind_some,w64 (by omega)]
     cases hL:L k with
     | false=>simp
     | true =>
      rw [if_pos (by decide),refMissing hn hk',Option.bind_some,List.length_map]
      cases hm:miss n A k with
      | nil=>simp
      | cons x l=>rw [if_neg (by simp; omega)]; simp
    refine ⟨_,body,⟨k,by omega,rfl,?_⟩,by simp⟩
    by_cases cc:L k=true∧miss n A k=[]
    ·rw [if_pos cc]
     exact .inr ⟨k,rfl,Nat.le_refl _,hk',cc.1,cc.2,fun i h1 h2=>by omega⟩
    ·rw [if_neg cc]
     have here:L k=true→miss n A k≠[]:=fun h h2=>cc ⟨h,h2⟩
     rcases hI with ⟨a,b⟩ | ⟨b,a1,a2,a3,a4,a5,a6⟩
     ·refine .inl ⟨a,fun i h1 h2=>?_⟩
      by_cases e:i=k
      ·subst e; exact here
      ·exact b i (by omega) h2
     ·refine .inr ⟨b,a1,by omega,a3,a4,a5,fun i h1 h2=>?_⟩
      by_cases e:i=k
      ·subst e; exact here
      ·exact a6 i (by omega) h2)
  (-1,((n:Int) - 1)) ⟨n,Nat.le_refl _,rfl,.inl ⟨rfl,fun i h1 h2=>by omega⟩⟩ (by simp; omega)
 exact ⟨r,e,hr⟩
theorem lack_zero {n:Nat} {A:Gr} {v:Nat}:lackN n A v=0↔miss n A v=[]:=by unfold lackN; exact List.length_eq_zero_iff
theorem ref_chord_loop {n:Nat} (hn:n≤10) (hn1:1≤n):∀(k N:Nat) (A:Gr) (L:Nat → Bool),k < N→cnt n L=k→Good n A→k≤n →
  ∃r,whileN N g_ref08_Chordal_b1 (gl n A,((msk n fun i=>!L i:Nat):Int),((n - k:Nat):Int))=some r∧((∃u,r=Sum.inl u∧fillL n A (grd n (lackN n) k A L)≠[])∨(∃u,r=Sum.inr u∧fillL n A (grd n (lackN n) k A L)=[]))
 | 0,N,A,L,hN,hc,hG,hk=>by
  obtain ⟨N,rfl⟩:∃M,N=M+1:=⟨N - 1,by omega⟩
  refine ⟨Sum.inr (),?_,.inr ⟨(),rfl,by simp [grd,fillL]⟩⟩
  simp only [whileN]
  unfold g_ref08_Chordal_b1
  dsimp only
  rw [gl_len,Nat.sub_zero,if_neg (nlt n)]
 | k+1,N,A,L,hN,hc,hG,hk=>by
  obtain ⟨N,rfl⟩:∃M,N=M+1:=⟨N - 1,by omega⟩
  rcases amin_spec (L:=L) (m:=lackN n A) n with ⟨h1,h2⟩ | ⟨b,h1,h2,h3,h4,h5⟩
  ·have:=cnt_zero h2; omega
  ·obtain ⟨r,e,hr⟩:=ref_chord_pick (n:=n) (A:=A) (L:=L) (c:=((n - (k+1):Nat):Int)) hn hn1
   have bd:g_ref08_Chordal_b1 (gl n A,((msk n fun i=>!L i:Nat):Int),((n - (k+1):Nat):Int))=if (decide (r < 0))=true then some (.done (Sum.inl ())) else if 0≤(IntKind.u64.wrap (r)) then (g_ref08_Eliminate (gl n A) r).bind fun x19=>some (.next (x19,IntKind.u64.wrap (BitVec.ofInt (IntKind.bits .u64) ((msk n fun i=>!L i:Nat):Int) ||| BitVec.ofInt (IntKind.bits .u64) (IntKind.u64.wrap (1*2^min (Int.toNat (IntKind.u64.wrap r)) (IntKind.bits .u64)))).toNat,IntKind.i64.wrap (((n - (k+1):Nat):Int)+1))) else none:=by
    unfold g_ref08_Chordal_b1
    dsimp only
    rw [gl_len,if_pos (by simp; omega),w64 (by omega),e,Option.bind_some]
   rcases hr with ⟨rfl,hno⟩ | ⟨v,rfl,v1,v2,v3,v4⟩
   ·refine ⟨Sum.inl (),?_,.inl ⟨(),rfl,?_⟩⟩
    ·simp only [whileN,bd,if_pos (show decide ((-1:Int) < 0)=true by decide)]
    ·simp only [grd,h1,fillL]
     intro h
     exact hno b h2 h3 (List.append_eq_nil_iff.1 h).1
   ·
    have hb0:lackN n A b=0:=by have:=h4 v v1 v2; rw [lack_zero.2 v3] at this; omega
    have hbv:b=v:=by
     rcases Nat.lt_trichotomy b v with h | h | h
     ·exact absurd (lack_zero.1 hb0) (v4 b h h3)
     ·exact h
     ·have:=h5 v h v2; rw [lack_zero.2 v3] at this; omega
    subst hbv
    rw [u64_nat (show b < 18446744073709551616 by omega),if_neg (by simp),if_pos (nat_ge b),refEliminate hn hG v1,Option.bind_some] at bd
    have ma:=msk_add (L:=L) hn v1
    rw [u64_nat (show b < 18446744073709551616 by omega)] at ma
    rw [ma,i_succ (by omega),show n - (k+1)+1=n - k by omega] at bd
    simp only [whileN,bd]
    obtain ⟨r,e1,e2⟩:=ref_chord_loop hn hn1 k N (elim A b) (fun i=>L i && !decide (b=i)) (by omega) (by have:=cnt_del (n:=n) h2 h3; omega) (elim_good hG b) (by omega)
    refine ⟨r,e1,?_⟩
    simp only [grd,h1,fillL,v3,List.nil_append]
    exact e2
theorem refChordal {n:Nat} {A:Gr} (hn:n≤10) (h1:1≤n) (hG:Good n A):g_ref08_Chordal (gl n A)=some (fillL n A (grd n (lackN n) n A fun _=>true)).isEmpty:=by
 unfold g_ref08_Chordal
 obtain ⟨r,e,hr⟩:=ref_chord_loop hn h1 n fuel A (fun _=>true) (by show n < 1152921504606846976; omega) (cnt_all n) hG (Nat.le_refl _)
 rw [msk_none,Nat.sub_self,show ((0:Nat):Int)=0 from rfl] at e
 rw [e,Option.bind_some]
 rcases hr with ⟨u,rfl,h⟩ | ⟨u,rfl,h⟩
 ·cases hf:fillL n A (grd n (lackN n) n A fun _=>true) with
  | nil=>exact absurd hf h
  | cons x l=>rfl
 ·rw [h]; rfl
end Go.Ab
namespace Go.Ab
open Go
set_option maxRecDepth 100000
set_option maxHeartbeats 400000
def ctr (A:Gr) (v w:Nat):Gr:=fun x y=>A x y || (!decide (x=y) && ((decide (y=w) && A v x) || (decide (x=w) && A v y)))
def del (A:Gr) (v:Nat):Gr:=fun x y=>A x y && !decide (x=v) && !decide (y=v)
def nextA (n:Nat) (A:Gr) (v:Nat):Gr:=del (match amin (A v) (degN n A) n with | none=>A | some w=>ctr A v w) v
def lowB (n:Nat):Nat → Gr→(Nat → Bool)→Nat → Nat
 | 0,_,_,b=>b
 | k+1,A,L,b=>match amin L (degN n A) n with
  | none=>b
  | some v=>lowB n k (nextA n A v) (fun i=>L i && !decide (v=i)) (max b (degN n A v))
theorem ctr_good {n:Nat} {A:Gr} {v w:Nat} (hG:Good n A) (hw:w < n):Good n (ctr A v w):=by
 refine ⟨fun x y=>?_,fun x=>?_,fun x y h=>?_⟩
 ·unfold ctr; rw [hG.sym x y]; grind
 ·unfold ctr; rw [hG.irr]; simp
 ·unfold ctr at h
  simp only [Bool.or_eq_true,Bool.and_eq_true,decide_eq_true_eq] at h
  rcases h with h | ⟨_,h | h⟩
  ·exact hG.lt x y h
  ·exact hG.lt x v (by rw [hG.sym]; exact h.2)
  ·omega
theorem del_good {n:Nat} {A:Gr} {v:Nat} (hG:Good n A):Good n (del A v):=by
 refine ⟨fun x y=>?_,fun x=>?_,fun x y h=>?_⟩
 ·unfold del; rw [hG.sym x y]; grind
 ·unfold del; rw [hG.irr]; simp
 ·unfold del at h
  simp only [Bool.and_eq_true] at h
  exact hG.lt x y h.1.1
theorem next_good {n:Nat} {A:Gr} {v:Nat} (hG:Good n A):Good n (nextA n A v):=by
 unfold nextA
 refine del_good ?_
 rcases amin_spec (L:=A v) (m:=degN n A) n with ⟨h1,_⟩ | ⟨w,h1,h2,_⟩
 ·rw [h1]; exact hG
 ·rw [h1]; exact ctr_good hG h2
theorem contract_spec {n:Nat} {A:Gr} {v w:Nat} {l:Int} (hn:n≤10) (hG:Good n A) (hv:v < n) (hw:w < n) (hvw:A v w=true) :
  g_order_graph_contract_m0 (v:Int) (w:Int) l (gl n A)=some (l,gl n (ctr A v w)):=by
 unfold g_order_graph_contract_m0
 rw [gl_at hv,Option.bind_some,if_pos (nat_ge w),u_del hn (by omega)]
 obtain ⟨r,h1,h2⟩:=mem_loop hn (fun R (t:List Int)=>(R,t)) (body:=g_order_graph_contract_m0_b0 (w:Int)) (fun k t=>t=gl n fun x y=>A x y || (!decide (x=y) && ((decide (y=w) && A v x && decide (x < k)) || (decide (x=w) && A v y && decide (y < k))))) (fun r=>r=gl n (ctr A v w)) (fun i=>A v i && !decide (w=i))
  (fun x t R R' hx hp hI c1 c2 c3=>.inl (by
   subst hI
   refine ⟨_,?_,rfl⟩
   simp only [Bool.and_eq_true,Bool.not_eq_true',decide_eq_false_iff_not] at hp
   have hxw:¬ w=x:=hp.2
   unfold g_order_graph_contract_m0_b0
   dsimp only
   rw [if_pos c1,c2,Option.bind_some,gl_at hx,Option.bind_some,if_pos (nat_ge w),u_ins hn hw,gl_set,gl_at hw,Option.bind_some,if_pos (nat_ge x),c3,upd_ne hxw,u_ins hn hx,gl_set]
   congr 3
   refine gl_congr fun a b ha hb=>?_
   simp only [upd]
   clear c1 c2 c3
   grind (splits:=20)))
  (fun x t hx hp hI=>by
   rw [hI]
   refine gl_congr fun a b ha hb=>?_
   grind (splits:=20))
  (fun t hI=>⟨t,by unfold g_order_graph_contract_m0_b0; simp,hI.trans (gl_congr fun a b ha hb=>by simp [ctr,ha,hb])⟩)
  (gl n A) (gl_congr fun a b _ _=>by simp)
 rw [h1,h2]; rfl
theorem msk_nz {n:Nat} {p:Nat → Bool}:(((msk n p:Nat):Int) != 0)=true↔∃i,i < n∧p i=true:=by
 constructor
 ·intro h
  apply Classical.byContradiction
  intro hno
  have:msk n p=0:=msk_zero (cnt_zero fun i hi=>by rw [Bool.eq_false_iff]; exact fun hh=>hno ⟨i,hi,hh⟩)
  rw [this] at h; simp at h
 ·rintro ⟨i,hi,hp⟩
  have:=cnt_pos hi hp
  obtain ⟨k,hk⟩:∃k,cnt n p=k+1:=⟨cnt n p - 1,by omega⟩
  exact msk_ne hk
theorem supp_next {n:Nat} {A:Gr} {L:Nat → Bool} {v:Nat} (hG:Good n A) (h:∀u w,A u w=true→L u=true):∀u w,nextA n A v u w=true→(L u && !decide (v=u))=true:=fun u w hh=>by
 unfold nextA del at hh
 simp only [Bool.and_eq_true,Bool.not_eq_true',decide_eq_false_iff_not] at hh
 have h2:L u=true:=by
  rcases amin_spec (L:=A v) (m:=degN n A) n with ⟨h1,_⟩ | ⟨w',h1,h2,h3,_⟩
  ·rw [h1] at hh; exact h u w hh.1.1
  ·rw [h1] at hh
   have h4:=hh.1.1
   unfold ctr at h4
   simp only [Bool.or_eq_true,Bool.and_eq_true,decide_eq_true_eq] at h4
   rcases h4 with h4 | ⟨_,h4 | h4⟩
   ·exact h u w h4
   ·exact h u v (by rw [hG.sym]; exact h4.2)
   ·rw [h4.1]; exact h w' v (by rw [hG.sym]; exact h3)
 have h3:¬ v=u:=fun e=>hh.1.2 e.symm
 simp [h2,h3]
theorem low_loop {n:Nat} (hn:n≤10):∀(k N:Nat) (A:Gr) (L:Nat → Bool) (b:Nat),k < N→cnt n L=k→Good n A→(∀u w,A u w=true→L u=true) →
  whileN N g_order_Low_b0 ((b:Int),((msk n L:Nat):Int),gl n A)=some (lowB n k A L b:Int)
 | 0,N,A,L,b,hN,hc,hG,hs=>by
  obtain ⟨N,rfl⟩:∃M,N=M+1:=⟨N - 1,by omega⟩
  rw [msk_zero hc]
  simp [whileN,g_order_Low_b0,lowB]
 | k+1,N,A,L,b,hN,hc,hG,hs=>by
  obtain ⟨N,rfl⟩:∃M,N=M+1:=⟨N - 1,by omega⟩
  rcases amin_spec (L:=L) (m:=degN n A) n with ⟨h1,h2⟩ | ⟨v,h1,h2,h3,_⟩
  ·have:=cnt_zero h2; omega
  ·have hd:∀l:Int,g_order_graph_degree (Torder_graph.mk (Torder_neighbours.mk (gl n A)) l) (v:Int)=some (degN n A v:Int):=fun l=>degree_spec hn h2
   have hb:g_order_Low_b0 ((b:Int),((msk n L:Nat):Int),gl n A)=some (.next (((max b (degN n A v):Nat):Int),((msk n fun i=>L i && !decide (v=i):Nat):Int),gl n (nextA n A v))):=by
    unfold g_order_Low_b0
    dsimp only
    rw [if_pos (msk_ne hc),least_deg hn,Option.bind_some,h1]
    simp only [amE,hd,Option.bind_some,gl_at h2,imax]
    rcases amin_spec (L:=A v) (m:=degN n A) n with ⟨w1,w2⟩ | ⟨w,w1,w2,w3,_⟩
    ·rw [if_neg (by rw [msk_nz]; rintro ⟨i,hi,hh⟩; rw [w2 i hi] at hh; cases hh),remove_spec hn h2 (fun u w _=>hs u w) (fun u _=>hs u v),Option.bind_some]
     simp only [nextA,w1]; rfl
    ·rw [if_pos (msk_nz.2 ⟨w,w2,w3⟩),least_deg hn,Option.bind_some,w1]
     simp only [amE]
     have hsc:∀u y,ctr A v w u y=true→L u=true:=fun u y h4=>by
      unfold ctr at h4
      simp only [Bool.or_eq_true,Bool.and_eq_true,decide_eq_true_eq] at h4
      rcases h4 with h4 | ⟨_,h4 | h4⟩
      ·exact hs u y h4
      ·exact hs u v (by rw [hG.sym]; exact h4.2)
      ·rw [h4.1]; exact hs w v (by rw [hG.sym]; exact w3)
     rw [contract_spec hn hG h2 w2 w3,Option.bind_some,remove_spec hn h2 (fun u w _=>hsc u w) (fun u _=>hsc u v),Option.bind_some]
     simp only [nextA,w1]; rfl
   simp only [whileN,hb]
   rw [low_loop hn k N (nextA n A v) (fun i=>L i && !decide (v=i)) (max b (degN n A v)) (by omega) (by have:=cnt_del (n:=n) h2 h3; omega) (next_good hG) (supp_next hG hs)]
   simp [lowB,h1]
theorem Low_spec {n:Nat} {A:Gr} (h1:1≤n) (hn:n≤10) (hG:Good n A):g_order_Low (gl n A)=some ((lowB n n A (fun _=>true) 0:Int),0):=by
 unfold g_order_Low
 rw [check_gl h1 hn hG,Option.bind_some,if_neg (by decide),clone_u (by rw [gl_len]; omega),Option.bind_some,gl_len,if_pos (nat_ge n),u_all hn]
 have h:=low_loop hn n fuel A (fun _=>true) 0 (by show n < 1152921504606846976; omega) (cnt_all n) hG (fun _ _ _=>rfl)
 rw [show ((0:Nat):Int)=0 from rfl] at h
 rw [h]; rfl
theorem ref_least {n:Nat} {A:Gr} {L:Nat → Bool} (hn:n≤10):g_ref08_least (gl n A) ((msk n L:Nat):Int)=some (amE (degN n A) (amin L (degN n A) n)).1:=by
 unfold g_ref08_least
 have h:=rng_run (n:=n) (k0:=0) (by omega) (by omega) (fun i (t:Int)=>(t,i)) (body:=g_ref08_least_b0 (gl n A) ((msk n L:Nat):Int)) (fun k=>(amE (degN n A) (amin L (degN n A) k)).1) (amE (degN n A) (amin L (degN n A) n)).1
  (fun k _ h2=>by
   cases hL:L k with
   | false =>
    rw [amin_skip hL]
    unfold g_ref08_least_b0
    dsimp only
    rw [gl_len,if_pos (dlt h2),in_gl hn h2,Option.bind_some,hL]
    rfl
   | true =>
    simp only [amin]
    rcases amin_spec (L:=L) (m:=degN n A) k with ⟨h1,_⟩ | ⟨b,h1,hbk,_⟩
    ·rw [h1]
     simp only [amE]
     unfold g_ref08_least_b0
     dsimp only
     rw [gl_len,if_pos (dlt h2),in_gl hn h2,Option.bind_some,hL,if_pos rfl]
     simp
    ·rw [h1]
     simp only [amE]
     unfold g_ref08_least_b0
     dsimp only
     rw [gl_len,if_pos (dlt h2),in_gl hn h2,Option.bind_some,hL,if_pos rfl,if_neg (show ¬ decide ((b:Int) < 0)=true by simp),refDegree hn h2,Option.bind_some,refDegree hn (by omega),Option.bind_some]
     by_cases c:degN n A k < degN n A b
     ·rw [if_pos (by unfold degN at c; simpa using c),blt_of c]; simp
     ·rw [if_neg (by unfold degN at c; simpa using c),blt_false (by omega)]; simp)
  (by
   unfold g_ref08_least_b0
   dsimp only
   rw [gl_len,if_neg (nlt n)])
 rw [show ((0:Nat):Int)=0 from rfl] at h
 rw [show (amE (degN n A) (amin L (degN n A) 0)).1=-1 from rfl] at h
 rw [h]; rfl
def ctrL (n:Nat) (A:Gr) (v w k:Nat):List (Nat × Nat):=((List.range k).filter fun u=>A v u && !decide (u=w)).map fun u=>(u,w)
theorem ctrL_succ (n:Nat) (A:Gr) (v w k:Nat):ctrL n A v w (k+1)=ctrL n A v w k++if A v k && !decide (k=w) then [(k,w)] else []:=by
 unfold ctrL
 rw [range_filter_succ,List.map_append]
 congr 1
 split <;> simp
theorem ref_pairs {n:Nat} {A:Gr} {v w:Nat} {x y:Int} (hn:n≤10):whileN fuel (g_ref08_Low_b0 (gl n A,x,y) (w:Int) ((msk n (A v):Nat):Int)) (0,[])=some ((ctrL n A v w n).map pI):=by
 have h:=rng_run (n:=n) (k0:=0) (by omega) (by omega) (fun i (t:List (Int × Int))=>(i,t)) (body:=g_ref08_Low_b0 (gl n A,x,y) (w:Int) ((msk n (A v):Nat):Int)) (fun k=>(ctrL n A v w k).map pI) ((ctrL n A v w n).map pI)
  (fun k _ h2=>by
   have hl:((ctrL n A v w k).map pI++([((k:Int),(w:Int))]:List (Int × Int))).length*16≤140737488355328:=by
    have:(ctrL n A v w k).length≤k:=by unfold ctrL; rw [List.length_map]; exact filter_len k _
    simp only [List.length_append,List.length_map,List.length_cons,List.length_nil]
    omega
   unfold g_ref08_Low_b0
   dsimp only
   rw [gl_len,if_pos (dlt h2),if_pos (by simp),in_gl hn h2,Option.bind_some,ctrL_succ,List.map_append,if_pos hl]
   cases A v k with
   | false=>simp
   | true =>
    by_cases e:k=w
    ·subst e; simp
    ·rw [if_pos rfl,if_pos (by simp; omega)]; simp [e,pI])
  (by
   unfold g_ref08_Low_b0
   dsimp only
   rw [gl_len,if_neg (nlt n)])
 exact h
theorem ref_nopairs {n:Nat} {A:Gr} {x y a:Int} (h1:1≤n):whileN fuel (g_ref08_Low_b0 (gl n A,x,y) (-1) a) (0,[])=some []:=by
 refine whileN_eq (fun s=>s=(0,[])) (fun _=>0) _ (fun s hs=>.inr ?_) _ rfl (by omega)
 subst hs
 unfold g_ref08_Low_b0
 dsimp only
 rw [gl_len,if_pos (by simp; omega),if_neg (by decide)]
theorem ref_low_loop {n:Nat} (hn:n≤10) (hn1:1≤n):∀(k N:Nat) (A:Gr) (L:Nat → Bool) (b:Nat),k < N→cnt n L=k→Good n A →
  whileN N g_ref08_Low_b1 (gl n A,(b:Int),((msk n L:Nat):Int))=some (lowB n k A L b:Int)
 | 0,N,A,L,b,hN,hc,hG=>by
  obtain ⟨N,rfl⟩:∃M,N=M+1:=⟨N - 1,by omega⟩
  rw [msk_zero hc]
  simp [whileN,g_ref08_Low_b1,lowB]
 | k+1,N,A,L,b,hN,hc,hG=>by
  obtain ⟨N,rfl⟩:∃M,N=M+1:=⟨N - 1,by omega⟩
  rcases amin_spec (L:=L) (m:=degN n A) n with ⟨h1,h2⟩ | ⟨v,h1,h2,h3,_⟩
  ·have:=cnt_zero h2; omega
  ·have hd:g_ref08_Degree (gl n A) (v:Int)=some (degN n A v:Int):=refDegree hn h2
   have hb:g_ref08_Low_b1 (gl n A,(b:Int),((msk n L:Nat):Int))=some (.next (gl n (nextA n A v),((max b (degN n A v):Nat):Int),((msk n fun i=>L i && !decide (v=i):Nat):Int))):=by
    unfold g_ref08_Low_b1
    dsimp only
    rw [if_pos (msk_ne hc),ref_least hn,Option.bind_some,h1]
    simp only [amE,hd,Option.bind_some,gl_at h2,imax,ref_least hn]
    rw [u64_nat (show v < 18446744073709551616 by omega),u_del hn (by omega)]
    rcases amin_spec (L:=A v) (m:=degN n A) n with ⟨w1,w2⟩ | ⟨w,w1,w2,w3,_⟩
    ·rw [w1]
     simp only [amE]
     rw [ref_nopairs hn1,Option.bind_some]
     have hj:=refJoin (n:=n) (A:=A) (l:=[]) hn (by simp) (by simp)
     rw [List.map_nil] at hj
     rw [hj,Option.bind_some,show joinL A []=A from rfl,refRemove hn h2,Option.bind_some,if_pos (nat_ge v)]
     simp only [nextA,w1]; rfl
    ·rw [w1]
     simp only [amE]
     rw [ref_pairs hn,Option.bind_some]
     have hl:(ctrL n A v w n).length≤n:=by unfold ctrL; rw [List.length_map]; exact filter_len n _
     rw [refJoin hn (fun p hp=>by
      unfold ctrL at hp
      simp only [List.mem_map,List.mem_filter,List.mem_range,Bool.and_eq_true,Bool.not_eq_true',decide_eq_false_iff_not] at hp
      obtain ⟨u,⟨hu,_,hne⟩,rfl⟩:=hp
      exact ⟨hu,w2,hne⟩) (by omega),Option.bind_some,refRemove hn h2,Option.bind_some,if_pos (nat_ge v)]
     simp only [nextA,w1]
     congr 3
     refine gl_congr fun x y hx hy=>?_
     have key:=joinL_iff A (ctrL n A v w n) x y
     have m1:∀a c,(a,c)∈ctrL n A v w n↔a < n∧A v a=true∧¬ a=w∧c=w:=fun a c=>by
      unfold ctrL
      simp only [List.mem_map,List.mem_filter,List.mem_range,Bool.and_eq_true,Bool.not_eq_true',decide_eq_false_iff_not,Prod.mk.injEq]
      grind
     rw [m1,m1] at key
     have:joinL A (ctrL n A v w n) x y=ctr A v w x y:=by
      rw [Bool.eq_iff_iff,key]
      simp only [ctr,Bool.or_eq_true,Bool.and_eq_true,Bool.not_eq_true',decide_eq_true_eq,decide_eq_false_iff_not]
      grind
     rw [this]; rfl
   simp only [whileN,hb]
   rw [ref_low_loop hn hn1 k N (nextA n A v) (fun i=>L i && !decide (v=i)) (max b (degN n A v)) (by omega) (by have:=cnt_del (n:=n) h2 h3; omega) (next_good hG)]
   simp [lowB,h1]
theorem refLow {n:Nat} {A:Gr} (h1:1≤n) (hn:n≤10) (hG:Good n A):g_ref08_Low (gl n A)=some (lowB n n A (fun _=>true) 0:Int):=by
 unfold g_ref08_Low
 rw [gl_len,u64_nat (show n < 18446744073709551616 by omega),if_pos (nat_ge n),u_all hn]
 have h:=ref_low_loop hn h1 n fuel A (fun _=>true) 0 (by show n < 1152921504606846976; omega) (cnt_all n) hG
 rw [show ((0:Nat):Int)=0 from rfl] at h
 rw [h]; rfl
theorem LeastFill_err {g:List Int} (h:g_order_Check g=some 80):g_order_LeastFill g=some ([],80):=by unfold g_order_LeastFill; rw [h,Option.bind_some,if_pos (by decide)]
theorem LeastDegree_err {g:List Int} (h:g_order_Check g=some 80):g_order_LeastDegree g=some ([],80):=by unfold g_order_LeastDegree; rw [h,Option.bind_some,if_pos (by decide)]
theorem Low_err {g:List Int} (h:g_order_Check g=some 80):g_order_Low g=some (0,80):=by unfold g_order_Low; rw [h,Option.bind_some,if_pos (by decide)]
theorem Chordal_err {g:List Int} (h:g_order_Check g=some 80):g_order_Chordal g=some (false,80):=by unfold g_order_Chordal; rw [h,Option.bind_some,if_pos (by decide)]
theorem three_graphs {x y:List Int} {n:Nat} {A:Gr} (hn:n≤10) (hx:rngU x) (hy:rngU y) (hxl:x.length≤11) (hyl:y.length≤11):∀k:Nat,k < 3→∃a,lkI ([x,y,gl n A]:List (List Int)) (k:Int)=some (nI a)∧u64s a∧a.length≤11:=fun k hk=>by
 match k,hk with
 | 0,_ =>
  obtain ⟨a,rfl,ha,hl⟩:=nI_of hx
  exact ⟨a,rfl,ha,by omega⟩
 | 1,_ =>
  obtain ⟨a,rfl,ha,hl⟩:=nI_of hy
  exact ⟨a,rfl,ha,by omega⟩
 | 2,_=>exact ⟨_,by rw [←gl_nI]; rfl,gl_u64s (by omega) A,by simp; omega⟩
theorem greedy_true (p0:List Int) (p1:Tharuspexref08_Draft) (h0:p0.length≤maxLen∧∀y0∈p0,(Lit.int .u64 y0).wf=true) (h1:okTharuspexref08_Draft p1) :
  g_law08_OrderGreedy p0 p1=some true:=by
 obtain ⟨x,y,A,e1,hx,hy,hxl,hyl,hG,_⟩:=graphs_spec (raw:=p0) (d:=p1) (fun v hv=>by have:=wf_u64 (h0.2 v hv); omega) h1
 obtain ⟨_,d1,d7⟩:=dN_eq h1
 unfold g_law08_OrderGreedy
 rw [works_true,Option.bind_some,if_neg (by decide),e1,Option.bind_some]
 have hgs:=three_graphs (n:=dN p1) (A:=A) (by omega) hx hy hxl hyl
 obtain ⟨r,e2,u,rfl⟩:=rng_loop (n:=3) (k0:=0) (by omega) (by omega) (fun i (_:Unit)=>i) (body:=g_law08_OrderGreedy_b0 (x,y,gl (dN p1) A)) (fun _ _=>True) (fun r=>∃u,r=Sum.inr u)
  (fun k t _ h2 _=>.inl ⟨(),by
   obtain ⟨a,ek,ha,hl⟩:=hgs k h2
   unfold g_law08_OrderGreedy_b0
   dsimp only
   rw [if_pos (by simp; omega),ek,Option.bind_some]
   rcases right_spec ha with ⟨r1,r2⟩ | ⟨r1,r2⟩
   ·obtain ⟨B,hB,eB⟩:=okG_gl r2
    rw [eB] at r1 ⊢
    have b1:=r2.1
    have b2:=r2.2.1
    have hm1:g_ref08_LeastFill (gl a.length B)=some (nI (grd a.length (lackN a.length) a.length B fun _=>true)):=by unfold g_ref08_LeastFill; rw [refGreedy b2 hB]; rfl
    have hm2:g_ref08_LeastDegree (gl a.length B)=some (nI (grd a.length (degN a.length) a.length B fun _=>true)):=by unfold g_ref08_LeastDegree; rw [refGreedy b2 hB]; rfl
    have o1:=grd_ord (n:=a.length) (μ:=lackN a.length) (A:=B)
    have o2:=grd_ord (n:=a.length) (μ:=degN a.length) (A:=B)
    simp only [LeastFill_spec b1 b2 hB,LeastDegree_spec b1 b2 hB,Low_spec b1 b2 hB,Chordal_spec b1 b2 hB,r1,Option.bind_some,hm1,hm2,refLow b1 b2 hB,refChordal b2 b1 hB,same_self (nI (grd a.length (lackN a.length) a.length B fun _=>true)) (by rw [nI_len,o1.len]; omega),same_self (nI (grd a.length (degN a.length) a.length B fun _=>true)) (by rw [nI_len,o2.len]; omega)]
    simp
   ·rcases check_spec ha with ⟨_,c2⟩ | ⟨c1,_⟩
    ·exact absurd c2 r2
    ·simp only [LeastFill_err c1,LeastDegree_err c1,Low_err c1,Chordal_err c1,r1,Option.bind_some]
     rfl,trivial⟩)
  (fun t _=>⟨_,by unfold g_law08_OrderGreedy_b0; rw [if_neg (by decide)],(),rfl⟩) () trivial
 rw [show ((0:Nat):Int)=0 from rfl] at e2
 rw [e2]; rfl
#print axioms greedy_true
end Go.Ab
namespace Go.Ab
open Go Go.Proofs Go.Proofs.YtjhfdojgaoapcaaDoor
open Go.ChangeShapes Go.WideShapes Go.ChangeAt Go.RowKit
abbrev dr_laid:List (String × DataW Unit):=[("math/bits.deBruijn32tab",Rows.laid_math_bits_deBruijn32tab),("math/bits.deBruijn64tab",Rows.laid_math_bits_deBruijn64tab)]
theorem dr_own:ownKnob Tryd.prog.godebug=none:=by kernel_rfl
theorem dr_g0:Tryd.prog.globalNamed "math/bits.deBruijn32tab" = some 0:=by kernel_rfl
theorem dr_g1:Tryd.prog.globalNamed "math/bits.deBruijn64tab" = some 1:=by kernel_rfl
theorem dr_met (os:Os) (args:Array Value):laidMetH Tryd.prog dr_laid ((World.doorLaid Tryd.prog 19 os).forCall (fun _ _=>0) ⟨#[],args,[]⟩).memory :=
 laidMetH_of_parts3 (fuel:=8) (laidMet_of_run' 8 (by kernel_rfl) (by kernel_rfl)) (by kernel_rfl) (by kernel_rfl)
theorem dr_glob {W:World} (h:laidMetH Tryd.prog dr_laid W):Go.Ab.GlobIn W:=by
 rw [MakeChecks.laidMetH_plain _ _ _ (by kernel_rfl)] at h
 have h0:=Lib.tabIs_of_head (k:=.u8) (zs:=Go.Ab.tab0) (t:=135) (e:=5) (n:=32) dr_g0 (by kernel_rfl) (by kernel_rfl) (by kernel_rfl) (by kernel_rfl) (by kernel_rfl) h
 have h1:=Lib.tabIs_of_head (k:=.u8) (zs:=Go.Ab.tab1) (t:=136) (e:=5) (n:=64) dr_g1 (by kernel_rfl) (by kernel_rfl) (by kernel_rfl) (by kernel_rfl) (by kernel_rfl) h.tail
 intro g xs hg i v hv
 match g,hg with
 | 0,hg =>
  cases hg
  have hi:i < Go.Ab.tab0.length:=by have:=(List.getElem?_eq_some_iff.1 hv).1; simpa using this
  have:=h0.cell dr_g0 i hi
  rw [this]
  rw [List.getElem?_map] at hv
  simpa [List.getD,hi] using hv
 | 1,hg =>
  cases hg
  have hi:i < Go.Ab.tab1.length:=by have:=(List.getElem?_eq_some_iff.1 hv).1; simpa using this
  have:=h1.cell dr_g1 i hi
  rw [this]
  rw [List.getElem?_map] at hv
  simpa [List.getD,hi] using hv
 | n+2,hg=>cases hg
end Go.Ab
