/- What functions compute. No conditions. -/
import Derived.Test.YtcbhkobklhkiiaaDoorW12
import Derived.Test.YtcbhkobklhkiiaaDoorEng6
import Derived.Test.YtcbhkobklhkiiaaDoorW9
import Derived.Test.YtcbhkobklhkiiaaDoorW11
import Derived.KernelRfl
import Derived.Test.YtcbhkobklhkiiaaDoorRows
import Derived.WalkKit
import Derived.ProofKit
import Derived.LaidMore
import Derived.Lib.LaidTab
import Derived.Stop.LaidErr
import Derived.Stop.Joined
import Derived.OpenShut
set_option linter.all false
namespace Go.Ab
open Go
set_option maxRecDepth 100000
set_option maxHeartbeats 400000
theorem Qvt (p0:Qf):Zr p0=(Jp p0).bind fun x=>if x.2=0 then (Qb fuel (Xr x.1.sets) (0,x.1.sets)).bind fun y=>some (y,0) else some ([],50):=by
 unfold Zr Jp
 have e0:@Qaa=@Xv:=rfl
 have e2:@K7=@Xw:=rfl
 rw [e0,e2]
 have h50:¬ ((50:Int)=0):=by decide
 by_cases c1:decide (p0.Grain < 1)=true
 ·rw [if_pos c1,if_pos c1]; rfl
 rw [if_neg c1,if_neg c1]
 by_cases c2:decide (p0.Grain > 60)=true
 ·rw [if_pos c2,if_pos c2]; rfl
 rw [if_neg c2,if_neg c2]
 by_cases c3:decide ((p0.Nodes.length:Int) < 1)=true
 ·rw [if_pos c3,if_pos c3]; rfl
 rw [if_neg c3,if_neg c3]
 by_cases c4:decide ((p0.Nodes.length:Int) > 8)=true
 ·rw [if_pos c4,if_pos c4]; rfl
 rw [if_neg c4,if_neg c4]
 by_cases c5:0≤(p0.Nodes.length:Int)∧(p0.Nodes.length:Int)≤(p0.Nodes.length:Int)∧(p0.Nodes.length:Int)*8≤140737488355328
 ·rw [if_pos c5,if_pos c5,if_pos c5,if_pos c5]
  cases Qb fuel (Xv p0) (1,0,List.replicate (Int.toNat (p0.Nodes.length:Int)) (0:Int)) with
  | none=>rfl
  | some x =>
   cases x with
   | inl u=>rfl
   | inr x23 =>
    simp only [Option.bind_some]
    by_cases c6:decide (x23.1 > 1024)=true
    ·rw [if_pos c6,if_pos c6]; rfl
    rw [if_neg c6,if_neg c6]
    cases Qb fuel (Xw p0 x23) (0,List.replicate (Int.toNat (p0.Nodes.length:Int)) (0:Int)) with
    | none=>rfl
    | some y =>
     cases y with
     | inl u=>rfl
     | inr x54 =>
      simp only [Option.bind_some]
      cases Xu x54 with
      | none=>rfl
      | some z =>
       simp only [Option.bind_some]
       by_cases c7:(!z.2)=true
       ·rw [if_pos c7,if_pos c7]; rfl
       ·rw [if_neg c7,if_neg c7]; rfl
 ·rw [if_neg c5,if_neg c5]; rfl
theorem Qo4 {n:Nat} {g:Int} {F:Nat → Tapi_Node} (hb:NB n F) (hbig:n≤1000000) :
  (Jv n g F∧Zr ⟨g,Qd n F⟩=some (gl n (FG (Qi F)),0))∨(¬ Jv n g F∧Zr ⟨g,Qd n F⟩=some ([],50)):=by
 rw [Qvt]
 rcases Qnk (g:=g) hb hbig with ⟨hf,o,e⟩ | ⟨hf,e⟩
 ·left
  refine ⟨hf,?_⟩
  have hn:=hf.n8
  have hpar:=fun v hv=>(Ko (hf.node v hv).1.1).2.2
  rw [e,Option.bind_some]
  dsimp only
  rw [if_pos rfl,Qm2 hn hpar]
  have h:=Vs (n:=n) (k0:=0) (by omega) (by omega) (fun i (t:List Int)=>(i,t)) (body:=Xr (gl n (PG (Qi F)))) (fun k=>gl n fun u w=>if u < k then FG (Qi F) u w else PG (Qi F) u w) (gl n (FG (Qi F)))
   (fun k _ hk=>by
    unfold Xr
    dsimp only
    rw [Zz,if_pos (dlt hk),Qcd hk,Option.bind_some,if_pos (X3 k),Qoj (by omega) hk,Qqc]
    congr 3
    refine gl_congr fun u w hu hw=>?_
    simp only [upd]
    by_cases c:u=k
    ·subst c
     rw [if_pos rfl,if_neg (by omega),if_pos (by omega)]
     unfold FG PG; rw [Bool.or_comm]
    ·rw [if_neg c]
     by_cases c2:u < k
     ·rw [if_pos c2,if_pos (by omega)]
     ·rw [if_neg c2,if_neg (by omega)])
   (by
    unfold Xr
    dsimp only
    rw [Zz,if_neg (nlt n)]
    congr 2
    exact gl_congr fun u w hu hw=>by rw [if_pos hu])
  have e0:(gl n fun u w=>if u < 0 then FG (Qi F) u w else PG (Qi F) u w)=gl n (PG (Qi F)):=gl_congr fun u w _ _=>if_neg (by omega)
  simp only [e0] at h
  rw [show ((0:Nat):Int)=0 from rfl] at h
  rw [h]; rfl
 ·right
  refine ⟨hf,?_⟩
  rw [e]; rfl
theorem Qme {n:Nat} {g:Int} {F:Nat → Tapi_Node} (hb:NB n F) (hf:Jv n g F):J4 ⟨g,Qd n F⟩=some (gl n (mg n (Qi F)),0):=by
 have hn:=hf.n8
 have hpar:=fun v hv=>(Ko (hf.node v hv).1.1).2.2
 rcases Qnk (g:=g) hb (by omega) with ⟨_,o,e⟩ | ⟨no,_⟩
 ·unfold J4
  rw [e,Option.bind_some,if_neg (by simp)]
  dsimp only
  rw [Qm2 hn hpar,Qvz hf.n1 hn]; rfl
 ·exact absurd hf no
theorem Qns {n:Nat}:∀(o:List Nat) (A:Gr) (K:Nat → Bool),(∃i,i < n∧K i=true)→(∀i,K i=true→i∈o)→(∀a b,K a=true→K b=true→a≠b→A a b=true)→∃s∈Q5 n A o,subB (msk n K) s=true
 | [],A,K,⟨i,_,hi⟩,ho,_=>by have:=ho i hi; cases this
 | v::o,A,K,hne,ho,hK=>by
  simp only [Q5]
  by_cases c:K v=true
  ·refine ⟨_,List.mem_cons_self ..,Xg.2 fun j hj=>?_⟩
   rw [Zm] at hj ⊢
   simp only [Bool.and_eq_true,decide_eq_true_eq] at hj ⊢
   refine ⟨hj.1,?_⟩
   unfold setP
   by_cases e:v=j
   ·simp [e]
   ·rw [hK v j c hj.2 e]; rfl
  ·obtain ⟨s,h1,h2⟩:=Qns o (elim A v) K hne (fun i hi=>by
    have:=ho i hi
    rcases List.mem_cons.1 this with e | e
    ·subst e; exact absurd hi c
    ·exact e) fun a b ha hb hne=>by
    have e1:¬ a=v:=fun e=>by subst e; exact c ha
    have e2:¬ b=v:=fun e=>by subst e; exact c hb
    unfold elim
    simp [hK a b ha hb hne,e1,e2]
   exact ⟨s,List.mem_cons_of_mem _ h1,h2⟩
theorem Qro {n:Nat}:∀(k:Nat) (left cl up:List Nat),left.length=k→(∀s,(s∈cl∨s∈left)↔s∈(bld n k left cl up).1)∧(bld n k left cl up).1.length=cl.length+k∧(bld n k left cl up).2.length=up.length+k
 | 0,left,cl,up,hk=>by
  have:left=[]:=List.length_eq_zero_iff.1 hk
  subst this
  simp [bld]
 | k+1,left,cl,up,hk=>by
  obtain ⟨_,hp⟩:=Qku (n:=n) (cl:=cl) (left:=left) left.length
  have hi:pickI n cl left < left.length:=(hp (by omega)).1
  have ei:left.getD (pickI n cl left) 0=left[pickI n cl left]:=by simp [List.getD,hi]
  obtain ⟨h1,h2,h3⟩:=Qro k (left.eraseIdx (pickI n cl left)) (cl++[left.getD (pickI n cl left) 0]) (up++[upI n cl (left.getD (pickI n cl left) 0)]) (by rw [List.length_eraseIdx,if_pos hi]; omega)
  simp only [bld]
  refine ⟨fun s=>?_,by rw [h2]; simp; omega,by rw [h3]; simp; omega⟩
  rw [←h1 s,ei,List.mem_append,List.mem_singleton]
  have hm:s∈left↔s=left[pickI n cl left]∨s∈left.eraseIdx (pickI n cl left):=by
   constructor
   ·intro h
    obtain ⟨j,hj,rfl⟩:=List.mem_iff_getElem.1 h
    by_cases e:j=pickI n cl left
    ·subst e; exact .inl rfl
    ·exact .inr (List.mem_eraseIdx_iff_getElem.2 ⟨j,hj,e,rfl⟩)
   ·rintro (h | h)
    ·rw [h]; exact List.getElem_mem hi
    ·exact List.mem_of_mem_eraseIdx h
  rw [hm]
  constructor
  ·rintro (h | h | h)
   ·exact .inl (.inl h)
   ·exact .inl (.inr h)
   ·exact .inr h
  ·rintro ((h | h) | h)
   ·exact .inl h
   ·exact .inr (.inl h)
   ·exact .inr (.inr h)
def mkK (n:Nat) (A:Gr) (o:List Nat):List Nat := Zs (Q5 n A o)
def mkB (n:Nat) (A:Gr) (o:List Nat):List Nat × List Nat := bld n ((mkK n A o).length - 1) ((mkK n A o).take ((mkK n A o).length - 1)) [(mkK n A o).getD ((mkK n A o).length - 1) 0] []
def homeI (cl:List Nat) (f:Nat):Nat := cl.findIdx (subB f)
def mkT (n:Nat) (q:Nat → List Nat) (o:List Nat):Qc:=⟨nI (mkB n (mg n q) o).1,-1::nI (mkB n (mg n q) o).2,nI ((List.range n).map fun v=>homeI (mkB n (mg n q) o).1 (msk n (FG q v)))⟩
theorem Qmn {n:Nat} {A:Gr} {o:List Nat} (ho:0 < o.length):0 < (mkK n A o).length:=by
 have h1:0 < (Q5 n A o).length:=by rw [Qd9]; exact ho
 obtain ⟨e,he,_⟩:=Qlm (l:=Q5 n A o) _ (Nat.le_refl _) ((Q5 n A o)[0]) (by rw [List.take_length]; exact List.getElem_mem h1)
 rw [List.take_length] at he
 exact List.length_pos_of_mem he
theorem Qzq {n:Nat} {A:Gr} {o:List Nat}:∀s∈mkK n A o,s < 2^n:=fun s h=>Qdj _ _ s (Qeq h)
theorem Qum {n:Nat} {A:Gr} {o:List Nat}:(mkK n A o).length≤o.length:=by have:=Qnc (l:=Q5 n A o); rwa [Qd9] at this
theorem Qsj {l:List Nat} (h:0 < l.length):∀s,(s∈[l.getD (l.length - 1) 0]∨s∈l.take (l.length - 1))↔s∈l:=fun s=>by
 have e:l=l.take (l.length - 1)++[l.getD (l.length - 1) 0]:=by
  have h1:l.length - 1 < l.length:=by omega
  have:=Q8 (l:=l) h1
  rw [show l.length - 1+1=l.length by omega,List.take_length] at this
  have e2:l.getD (l.length - 1) 0=l[l.length - 1]:=by simp [List.getD,h1]
  rw [e2]; exact this
 conv=>rhs; rw [e,List.mem_append]
 exact Or.comm
theorem Qfv {n:Nat} {A:Gr} {o:List Nat} (ho:0 < o.length):(∀s,s∈mkK n A o↔s∈(mkB n A o).1)∧(mkB n A o).1.length=(mkK n A o).length∧(mkB n A o).2.length=(mkK n A o).length - 1:=by
 have hp:=Qmn (n:=n) (A:=A) ho
 obtain ⟨h1,h2,h3⟩:=Qro (n:=n) ((mkK n A o).length - 1) ((mkK n A o).take ((mkK n A o).length - 1)) [(mkK n A o).getD ((mkK n A o).length - 1) 0] [] (by rw [List.length_take]; omega)
 refine ⟨fun s=>?_,?_,?_⟩
 ·rw [←Qsj hp s]; exact h1 s
 ·unfold mkB; rw [h2]; simp; omega
 ·unfold mkB; rw [h3]; simp
theorem Qvl {n:Nat} {q:Nat → List Nat} {o:List Nat} {v:Nat} (ho:Ord n o) (hv:v < n) (hq:∀p∈q v,p < n):∃c∈(mkB n (mg n q) o).1,subB (msk n (FG q v)) c=true:=by
 have hall:∀i,i < n→i∈o:=fun i hi=>Qam ho.nodup ho.lt ho.len i hi
 have hin:∀i,FG q v i=true→i < n:=fun i hi=>by
  unfold FG at hi
  simp only [Bool.or_eq_true,decide_eq_true_eq] at hi
  rcases hi with h | h
  ·omega
  ·exact hq i h
 obtain ⟨s,h1,h2⟩:=Qns o (mg n q) (FG q v) ⟨v,hv,by unfold FG; simp⟩ (fun i hi=>hall i (hin i hi)) fun a b ha hb hne=>by
  unfold mg mgk
  simp only [hin a ha,hin b hb,decide_true,Bool.true_and,Bool.and_eq_true,Bool.not_eq_true',decide_eq_false_iff_not,List.any_eq_true]
  exact ⟨hne,v,List.mem_range.2 hv,ha,hb⟩
 obtain ⟨e,h3,h4⟩:=Qlm (l:=Q5 n (mg n q) o) _ (Nat.le_refl _) s (by rw [List.take_length]; exact h1)
 rw [List.take_length] at h3
 exact ⟨e,((Qfv (n:=n) (A:=mg n q) (by rw [ho.len]; omega)).1 e).1 h3,Qsr h2 h4⟩
theorem Qq9 {cl:List Nat} {f:Nat} (h:∃c∈cl,subB f c=true):homeI cl f < cl.length:=by
 unfold homeI; rw [List.findIdx_lt_length]; exact h
theorem Qwt {cl:List Nat} {f:Nat} (hc:∀c∈cl,c < 18446744073709551616) (hf:f < 18446744073709551616) (hl:cl.length≤1000) (h:∃c∈cl,subB f c=true):Vo (nI cl) (f:Int)=some (homeI cl f:Int):=by
 have hu:=Qq9 h
 have hstep:∀k (hk:k < cl.length),Ym (nI cl) (f:Int) (k:Int)=some (if subB f cl[k]=true then .done (.inl (k:Int)) else .next (zw ((k:Int)+1))):=fun k hk=>by
  unfold Ym
  rw [Qv,if_pos (dlt hk),Qbm hk,Option.bind_some]
  have hw:=Ve hf (hc _ (List.getElem_mem hk))
  by_cases c:subB f cl[k]=true
  ·rw [if_pos (hw.2 c),if_pos c]
  ·rw [if_neg fun hh=>c (hw.1 hh),if_neg c]
 have hr:=Qao (n:=homeI cl f+1) (k0:=0) (by omega) (by omega) (fun i (_:Unit)=>i) (body:=Ym (nI cl) (f:Int)) (fun k _=>k≤homeI cl f) (fun r=>r=.inl (homeI cl f:Int))
  (fun k _ _ hk _=>by
   by_cases e:k=homeI cl f
   ·right
    refine ⟨.inl (k:Int),?_,by rw [e]⟩
    rw [hstep k (by omega),if_pos (by
     have:=List.findIdx_getElem (w:=hu)
     unfold homeI at e
     subst e; exact this)]
   ·left
    refine ⟨(),?_,by omega⟩
    rw [hstep k (by omega),if_neg (by
     have:=List.not_of_lt_findIdx (show k < cl.findIdx (subB f) by unfold homeI at hk e; omega)
     intro h
     rw [h] at this; cases this)])
  (fun _ hI=>by omega) () (by omega)
 obtain ⟨r,e1,rfl⟩:=hr
 rw [show ((0:Nat):Int)=0 from rfl] at e1
 unfold Vo
 rw [e1]; rfl
theorem Qvs {n:Nat} {g:Int} {F:Nat → Tapi_Node} {o:List Nat} (hb:NB n F) (hf:Jv n g F) (ho:Ord n o):Kh ⟨g,Qd n F⟩ (gl n (FG (Qi F))) (nI o)=some (mkT n (Qi F) o,0):=by
 have hn:=hf.n8
 have h1:=hf.n1
 have hpar:=fun v hv=>(Ko (hf.node v hv).1.1).2.2
 have p8:(2:Nat)^n≤256:=Nat.pow_le_pow_right (n:=2) (by omega) hn
 have hop:0 < o.length:=by rw [ho.len]; omega
 have hp:=Qmn (n:=n) (A:=mg n (Qi F)) hop
 have hle:=Qum (n:=n) (A:=mg n (Qi F)) (o:=o)
 rw [ho.len] at hle
 obtain ⟨m1,m2,m3⟩:=Qfv (n:=n) (A:=mg n (Qi F)) hop
 unfold Kh
 rw [Qme hb hf,Option.bind_some,if_neg (by simp),Qtl h1 hn Qq6 ho.lt ho.nodup,Option.bind_some]
 rw [show Zs (Q5 n (mg n (Qi F)) o)=mkK n (mg n (Qi F)) o from rfl,Qv,w64 (n:=((mkK n (mg n (Qi F)) o).length:Int) - 1) (by omega),show ((mkK n (mg n (Qi F)) o).length:Int) - 1=(((mkK n (mg n (Qi F)) o).length - 1:Nat):Int) by omega,Qbm (by omega),Option.bind_some,if_pos (by omega),Int.toNat_natCast]
 have hlt:∀s∈mkK n (mg n (Qi F)) o,s < 2^n:=Qzq
 have eg:(mkK n (mg n (Qi F)) o).getD ((mkK n (mg n (Qi F)) o).length - 1) 0=(mkK n (mg n (Qi F)) o)[(mkK n (mg n (Qi F)) o).length - 1]:=by
  rw [List.getD_eq_getElem?_getD,List.getElem?_eq_getElem (by omega)]; rfl
 have hbl:=Qlv hn ((mkK n (mg n (Qi F)) o).length - 1) fuel ((mkK n (mg n (Qi F)) o).take ((mkK n (mg n (Qi F)) o).length - 1)) [(mkK n (mg n (Qi F)) o).getD ((mkK n (mg n (Qi F)) o).length - 1) 0] [] (by rw [List.length_take]; omega) (by show _ < 1152921504606846976; omega)
  (fun c hc=>by simp only [List.mem_singleton] at hc; rw [hc,eg]; exact hlt _ (List.getElem_mem _)) (fun s hs=>hlt s (List.mem_of_mem_take hs)) (by simp) (by simp; omega) (by simp)
 have et:List.take ((mkK n (mg n (Qi F)) o).length - 1) (nI (mkK n (mg n (Qi F)) o))=nI ((mkK n (mg n (Qi F)) o).take ((mkK n (mg n (Qi F)) o).length - 1)):=by unfold nI; rw [List.map_take]
 rw [show nI [(mkK n (mg n (Qi F)) o).getD ((mkK n (mg n (Qi F)) o).length - 1) 0]=[(((mkK n (mg n (Qi F)) o)[(mkK n (mg n (Qi F)) o).length - 1]:Nat):Int)] by unfold nI; rw [eg]; rfl,show nI []=[] from rfl] at hbl
 rw [et,hbl,Option.bind_some]
 rw [show bld n ((mkK n (mg n (Qi F)) o).length - 1) ((mkK n (mg n (Qi F)) o).take ((mkK n (mg n (Qi F)) o).length - 1)) [(mkK n (mg n (Qi F)) o).getD ((mkK n (mg n (Qi F)) o).length - 1) 0] []=mkB n (mg n (Qi F)) o from rfl]
 have hcl:∀c∈(mkB n (mg n (Qi F)) o).1,c < 18446744073709551616:=fun c hc=>by have:=hlt c ((m1 c).2 hc); omega
 have hfam:∀v,v < n→∃c∈(mkB n (mg n (Qi F)) o).1,subB (msk n (FG (Qi F) v)) c=true:=fun v hv=>Qvl ho hv (hpar v hv)
 have h:=Vs (n:=n) (k0:=0) (by omega) (by omega) (fun i (t:List Int)=>(i,t)) (body:=Ka (gl n (FG (Qi F))) (nI (mkB n (mg n (Qi F)) o).1,(-1:Int)::nI (mkB n (mg n (Qi F)) o).2))
  (fun k=>nI ((List.range k).map fun v=>homeI (mkB n (mg n (Qi F)) o).1 (msk n (FG (Qi F) v)))) (nI ((List.range n).map fun v=>homeI (mkB n (mg n (Qi F)) o).1 (msk n (FG (Qi F) v))))
  (fun k _ hk=>by
   unfold Ka
   dsimp only
   rw [Zz,if_pos (dlt hk),Qcd hk,Option.bind_some,Qwt hcl (by have:=Xo n (FG (Qi F) k); omega) (by omega) (hfam k hk),Option.bind_some,if_pos (by rw [List.length_append,Qv,List.length_map,List.length_range]; simp; omega)]
   congr 3
   rw [List.range_succ,List.map_append,←Quu]; rfl)
  (by unfold Ka; dsimp only; rw [Zz,if_neg (nlt n)])
 rw [show ((0:Nat):Int)=0 from rfl] at h
 rw [show nI ((List.range 0).map fun v=>homeI (mkB n (mg n (Qi F)) o).1 (msk n (FG (Qi F) v)))=[] from rfl] at h
 rw [h]; rfl
end Go.Ab
namespace Go.Ab
open Go
set_option maxRecDepth 100000
set_option maxHeartbeats 400000
def tb (x:Int) (s1:Int × List Int):Option (Ql (Int × List Int) (List Int)) :=
 if (zw ((s1.2.length:Int)+1))≠0 then
  if 0≤(0:Int)∧(0:Int)≤(Int.tmod (zw x) (zw ((s1.2.length:Int)+1)))∧(Int.tmod (zw x) (zw ((s1.2.length:Int)+1)))≤(s1.2.length:Int) then
   if (sub s1.2 0 (Int.tmod (zw x) (zw ((s1.2.length:Int)+1)))).length*8≤140737488355328 then
    if ((sub s1.2 0 (Int.tmod (zw x) (zw ((s1.2.length:Int)+1))))++([s1.1]:(List Int))).length*8≤140737488355328 then
     if 0≤(Int.tmod (zw x) (zw ((s1.2.length:Int)+1)))∧(Int.tmod (zw x) (zw ((s1.2.length:Int)+1)))≤(s1.2.length:Int)∧(s1.2.length:Int)≤(s1.2.length:Int) then
      if (((sub s1.2 0 (Int.tmod (zw x) (zw ((s1.2.length:Int)+1))))++([s1.1]:(List Int)))++(sub s1.2 (Int.tmod (zw x) (zw ((s1.2.length:Int)+1))) (s1.2.length:Int))).length*8≤140737488355328 then
       some (.next (zw (s1.1+1),(((sub s1.2 0 (Int.tmod (zw x) (zw ((s1.2.length:Int)+1))))++([s1.1]:(List Int)))++(sub s1.2 (Int.tmod (zw x) (zw ((s1.2.length:Int)+1))) (s1.2.length:Int)))))
      else none
     else none
    else none
   else none
  else none
 else none
theorem Qrw (p0 p1:Int) (p2:Int × Int × Int × Int × Int × Int × Int × Int) (s1:Int × List Int):K2 p0 p1 p2 s1 =
  if (decide (s1.1 < p0))=true then
   if (s1.1==p1)=true then some (.next (zw (s1.1+1),s1.2)) else
   if Int.tmod s1.1 8=0 then tb p2.1 s1 else if Int.tmod s1.1 8=1 then tb p2.2.1 s1 else if Int.tmod s1.1 8=2 then tb p2.2.2.1 s1 else if Int.tmod s1.1 8=3 then tb p2.2.2.2.1 s1 else
   if Int.tmod s1.1 8=4 then tb p2.2.2.2.2.1 s1 else if Int.tmod s1.1 8=5 then tb p2.2.2.2.2.2.1 s1 else if Int.tmod s1.1 8=6 then tb p2.2.2.2.2.2.2.1 s1 else if Int.tmod s1.1 8=7 then tb p2.2.2.2.2.2.2.2 s1 else none
  else some (.done s1.2):=rfl
theorem Q0v {x:Int} {k:Nat} {o:List Nat} (hx:0≤x∧x≤255) (ho:o.length≤1000) (hk:k≤1000):∃a:Nat,a≤o.length∧tb x ((k:Int),nI o)=some (.next (zw ((k:Int)+1),nI (o.take a++[k]++o.drop a))):=by
 have e1:zw ((o.length:Int)+1)=((o.length+1:Nat):Int):=Qpl (by omega)
 have e2:zw x=x:=w64 (by omega)
 obtain ⟨a,ha,ea⟩:∃a:Nat,a≤o.length∧Int.tmod x ((o.length+1:Nat):Int)=(a:Int):=by
  rw [Qar hx.1]
  have h1:=Int.emod_nonneg x (show ((o.length+1:Nat):Int)≠0 by omega)
  have h2:=Int.emod_lt_of_pos x (show (0:Int) < ((o.length+1:Nat):Int) by omega)
  exact ⟨(x % ((o.length+1:Nat):Int)).toNat,by omega,by omega⟩
 have s1:sub (nI o) 0 (a:Int)=nI (o.take a):=by unfold sub nI; simp [List.map_take]
 have s2:sub (nI o) (a:Int) (o.length:Int)=nI (o.drop a):=by
  unfold sub nI
  rw [Int.toNat_natCast,Int.toNat_natCast,←List.map_drop,List.take_of_length_le (by rw [List.length_map,List.length_drop]; omega)]
 refine ⟨a,ha,?_⟩
 unfold tb
 dsimp only
 rw [Qv,e1,e2,ea,s1,s2,if_pos (by omega),if_pos (by omega)]
 rw [if_pos (by rw [Qv,List.length_take]; omega),if_pos (by rw [List.length_append,Qv,List.length_take]; simp; omega),if_pos (by omega),if_pos (by rw [List.length_append,List.length_append,Qv,Qv,List.length_take,List.length_drop]; simp; omega)]
 congr 3
 unfold nI; simp
def ok8 (l:Int × Int × Int × Int × Int × Int × Int × Int):Prop:=(0≤l.1∧l.1≤255)∧(0≤l.2.1∧l.2.1≤255)∧(0≤l.2.2.1∧l.2.2.1≤255)∧(0≤l.2.2.2.1∧l.2.2.2.1≤255)∧(0≤l.2.2.2.2.1∧l.2.2.2.2.1≤255)∧(0≤l.2.2.2.2.2.1∧l.2.2.2.2.2.1≤255)∧(0≤l.2.2.2.2.2.2.1∧l.2.2.2.2.2.2.1≤255)∧(0≤l.2.2.2.2.2.2.2∧l.2.2.2.2.2.2.2≤255)
theorem Qyy {k a:Nat} {o:List Nat} (h:Ord k o):Ord (k+1) (o.take a++[k]++o.drop a):=by
 obtain ⟨h1,h2⟩:=Qiq (q:=o) (k:=k) (a:=a) h.nodup h.lt
 exact ⟨by have:=h.len; simp; omega,h2,h1⟩
theorem Qul {n:Nat} {l:Int × Int × Int × Int × Int × Int × Int × Int} (hn:n≤1000) (hl:ok8 l):∃o,Ord n o∧Jl (n:Int) (-1) l=some (nI o):=by
 obtain ⟨l0,l1,l2,l3,l4,l5,l6,l7⟩:=hl
 have h:=Qao (n:=n) (k0:=0) (by omega) (by omega) (fun i (t:List Int)=>(i,t)) (body:=K2 (n:Int) (-1) l) (fun k t=>∃o,Ord k o∧t=nI o) (fun r=>∃o,Ord n o∧r=nI o)
  (fun k t _ hk hI=>by
   obtain ⟨o,ho,rfl⟩:=hI
   left
   have hol:o.length≤1000:=by rw [ho.len]; omega
   have fin:∀x,0≤x∧x≤255→∃t',tb x ((k:Int),nI o)=some (.next (zw ((k:Int)+1),t'))∧∃o,Ord (k+1) o∧t'=nI o:=fun x hx=>by
    obtain ⟨a,_,e⟩:=Q0v (k:=k) hx hol (by omega)
    exact ⟨_,e,_,Qyy ho,rfl⟩
   rw [Qrw]
   dsimp only
   rw [if_pos (dlt hk),if_neg (by simp),Qar (by omega)]
   by_cases c0:(k:Int) % 8=0
   ·rw [if_pos c0]; exact fin _ l0
   rw [if_neg c0]
   by_cases c1:(k:Int) % 8=1
   ·rw [if_pos c1]; exact fin _ l1
   rw [if_neg c1]
   by_cases c2:(k:Int) % 8=2
   ·rw [if_pos c2]; exact fin _ l2
   rw [if_neg c2]
   by_cases c3:(k:Int) % 8=3
   ·rw [if_pos c3]; exact fin _ l3
   rw [if_neg c3]
   by_cases c4:(k:Int) % 8=4
   ·rw [if_pos c4]; exact fin _ l4
   rw [if_neg c4]
   by_cases c5:(k:Int) % 8=5
   ·rw [if_pos c5]; exact fin _ l5
   rw [if_neg c5]
   by_cases c6:(k:Int) % 8=6
   ·rw [if_pos c6]; exact fin _ l6
   rw [if_neg c6,if_pos (by omega)]
   exact fin _ l7)
  (fun t hI=>⟨t,by rw [Qrw]; dsimp only; rw [if_neg (nlt n)],hI⟩) [] ⟨[],⟨rfl,by simp,List.nodup_nil⟩,rfl⟩
 obtain ⟨r,e,o,ho,rfl⟩:=h
 refine ⟨o,ho,?_⟩
 rw [show ((0:Nat):Int)=0 from rfl] at e
 unfold Jl
 rw [e]; rfl
def Qob (n:Nat) (l:List Int) (k:Nat):Prop:=0≤(l[k]?).getD 0∧(l[k]?).getD 0 < n∧(l[k]?).getD 0 ∉ l.take k
theorem Qvc {n:Nat} {l:List Int}:(∀k,k < l.length→Qob n l k)↔okL n l:=by
 unfold okL Qob
 constructor
 ·intro h
  refine ⟨fun x hx=>?_,?_⟩
  ·obtain ⟨k,hk,rfl⟩:=List.mem_iff_getElem.1 hx
   have:=h k hk
   rw [List.getElem?_eq_getElem hk] at this
   exact ⟨this.1,this.2.1⟩
  ·rw [List.nodup_iff_pairwise_ne,List.pairwise_iff_getElem]
   intro i j hi hj hij e
   have:=(h j hj).2.2
   rw [List.getElem?_eq_getElem hj] at this
   refine this (List.mem_iff_getElem.2 ⟨i,by rw [List.length_take]; omega,?_⟩)
   rw [List.getElem_take]; exact e
 ·rintro ⟨h1,h2⟩ k hk
  rw [List.getElem?_eq_getElem hk]
  obtain ⟨a,b⟩:=h1 _ (List.getElem_mem hk)
  refine ⟨a,b,fun hm=>?_⟩
  obtain ⟨i,hi,e⟩:=List.mem_iff_getElem.1 hm
  rw [List.length_take] at hi
  rw [List.getElem_take] at e
  rw [List.nodup_iff_pairwise_ne,List.pairwise_iff_getElem] at h2
  exact h2 i k (by omega) hk (by omega) e
theorem Qwd {n:Nat} {l:List Int} {k a:Nat} (hn:n≤8) (hk:k < l.length) (ha:a < n) (e:l[k]=(a:Int)):zv (zb ((msk n (fun i=>(l.take k).contains (i:Int)):Nat):Int) ||| zb (zv (1*2^min (Int.toNat (a:Int)) (IntKind.bits .u64)))).toNat = ((msk n (fun i=>(l.take (k+1)).contains (i:Int)):Nat):Int):=by
 rw [Qoj (by omega) ha]
 congr 1
 refine Qa4 fun i _=>?_
 rw [Q8 hk,List.contains_append,e]
 by_cases c:a=i
 ·subst c; simp
 ·have c2:¬ (i:Int)=(a:Int):=by omega
  simp [c,c2]
theorem Qvm {n:Nat} {l fam:List Int} {w:Int} (hn:n≤8) (hf:fam.length=n) (hl:l.length≤1000) :
  (okL n l∧Qb fuel (Yw l (fam,w)) (0,0)=some (.inr ()))∨(¬ okL n l∧Qb fuel (Yw l (fam,w)) (0,0)=some (.inl ())):=by
 have p8:(2:Nat)^n≤256:=Nat.pow_le_pow_right (n:=2) (by omega) hn
 have hz:msk n (fun i=>(l.take 0).contains (i:Int))=0:=(Qbg (by have:=Nat.two_pow_pos n; omega) fun i _=>by simp).symm
 have h:=Yk (n:=l.length) (by omega) (Qob n l) (fun i (t:Int)=>(t,i)) (body:=Yw l (fam,w)) (fun k=>((msk n (fun i=>(l.take k).contains (i:Int)):Nat):Int)) (.inr ()) (.inl ())
  (fun k hk hI hg=>by
   have ek:=Zb hk
   obtain ⟨h1,h2,h3⟩:=hg
   rw [List.getElem?_eq_getElem hk] at h1 h2 h3
   simp only [Option.getD_some] at h1 h2 h3
   generalize ev:l[k]=v at *
   obtain ⟨a,rfl⟩:∃a:Nat,v=(a:Int):=⟨v.toNat,by omega⟩
   have ha:a < n:=by omega
   unfold Yw
   dsimp only
   rw [if_pos (dlt hk),ek,Option.bind_some,if_neg (by simp),hf,if_neg (by simp; omega),if_pos (X3 a),Qgk (Qwq (by omega) (Xo n _)) (by omega),Qb2 a ha]
   have hc:(l.take k).contains (a:Int)=false:=by rw [Bool.eq_false_iff]; intro h; exact h3 (by simpa using h)
   rw [hc,if_neg (by decide),if_pos (X3 a),Qwd hn hk ha ev])
  (fun k hk hI hg=>by
   have ek:=Zb hk
   have hg':¬ (0≤l[k]∧l[k] < n∧l[k] ∉ l.take k):=by
    unfold Qob at hg
    rw [List.getElem?_eq_getElem hk] at hg
    exact hg
   generalize l[k]=v at *
   unfold Yw
   dsimp only
   rw [if_pos (dlt hk),ek,Option.bind_some]
   by_cases c1:v < 0
   ·rw [if_pos (by simpa using c1)]
   ·rw [if_neg (by simpa using c1),hf]
    by_cases c2:v≥(n:Int)
    ·rw [if_pos (by simpa using c2)]
    ·rw [if_neg (by simpa using c2)]
     obtain ⟨a,rfl⟩:∃a:Nat,v=(a:Int):=⟨v.toNat,by omega⟩
     have ha:a < n:=by omega
     have hc:(l.take k).contains (a:Int)=true:=by
      rw [List.contains_iff_mem]
      apply Classical.byContradiction
      intro h; exact hg' ⟨by omega,by omega,h⟩
     rw [if_pos (X3 a),Qgk (Qwq (by omega) (Xo n _)) (by omega),Qb2 a ha,hc,if_pos (by decide)])
  (fun hI=>by unfold Yw; dsimp only; rw [if_neg (nlt _)])
 simp only [hz,Qvc] at h
 exact h
def Quo:Qc:=⟨[],[],[]⟩
theorem Quk {n:Nat} {g:Int} {F:Nat → Tapi_Node} {l:List Int} (hb:NB n F) (hbig:n≤1000) (hl:l.length≤1000) :
  (¬ Jv n g F∧Vp ⟨g,Qd n F⟩ l=some (Quo,50))∨(Jv n g F∧¬ (okL n l∧l.length=n)∧Vp ⟨g,Qd n F⟩ l=some (Quo,2)) ∨
  (Jv n g F∧∃o,l=nI o∧Ord n o∧Vp ⟨g,Qd n F⟩ l=some (mkT n (Qi F) o,0)):=by
 unfold Vp
 rcases Qo4 (g:=g) hb (by omega) with ⟨hf,e⟩ | ⟨hf,e⟩
 ·right
  rw [e,Option.bind_some,if_neg (by simp)]
  dsimp only
  rw [Zz]
  by_cases c:l.length=n
  ·rw [if_neg (by simp; omega)]
   rcases Qvm (n:=n) (l:=l) (fam:=gl n (FG (Qi F))) (w:=0) hf.n8 (Zz _ _) hl with ⟨hp,e2⟩ | ⟨hp,e2⟩
   ·right
    obtain ⟨o,rfl,ho⟩:=Qzi hp c
    refine ⟨hf,o,rfl,ho,?_⟩
    rw [e2,Option.bind_some]
    dsimp only
    rw [Qvs hb hf ho]; rfl
   ·left
    refine ⟨hf,fun h=>hp h.1,?_⟩
    rw [e2]; rfl
  ·left
   refine ⟨hf,fun h=>c h.2,?_⟩
   rw [if_pos (by simp; omega)]; rfl
 ·left
  refine ⟨hf,?_⟩
  rw [e,Option.bind_some,if_pos (by decide)]; rfl
end Go.Ab
namespace Go.Ab
open Go
set_option maxRecDepth 100000
set_option maxHeartbeats 400000
theorem Ql7 {n v:Nat} {g:Int} {F:Nat → Tapi_Node} (hf:Jv n g F) (hv:v < n):Kn ⟨g,Qd n F⟩ (v:Int)=some ((msk n (FG (Qi F) v):Nat):Int):=by
 have hn:=hf.n8
 have hpar:=fun v hv=>(Ko (hf.node v hv).1.1).2.2
 unfold Kn
 rw [Qxg hn (fun v hv=>(hf.node v hv).1.1),Option.bind_some,Qm2 hn hpar,Qcd hv,Option.bind_some,Y6 (n:=v) (by omega),if_pos (X3 v),Qp7 (by omega) hv]
end Go.Ab
namespace Go.Ab
open Go
theorem Qc3 {cs:List AV} (h:WT (.int .u8) cs):∃a:Int,cs=[(AV.int .u8) a]∧(Lit.int .u8 a).wf=true:=by
 obtain ⟨n,rfl,w⟩:=h
 exact ⟨n,rfl,w⟩
theorem el5 {x:AV} (h:WT (.int .u8) x.flat ∧ (if false then x=.agg x.flat else x.cell=true)):∃a:Int,x=(AV.int .u8) a∧(Lit.int .u8 a).wf=true:=by
 obtain ⟨a,h1,h2⟩:=Qc3 h.1
 rw [Qux h.2] at h1
 exact ⟨a,(List.cons.inj h1).1,h2⟩
theorem Qxp {cs:List AV} (h:WT (.slice true false 1 (.int .u8)) cs):∃a:(List Int),cs=[(eL true (AV.int .u8)) a]∧(a.length≤maxLen∧∀y0∈a,(Lit.int .u8 y0).wf=true):=by
 obtain ⟨xs,rfl,hl,hx⟩:=h
 obtain ⟨l,rfl,hr⟩:=Qpm (enc:=(AV.int .u8)) (R:=fun a=>(Lit.int .u8 a).wf=true) (fun x hm=>el5 (hx x hm))
 exact ⟨l,rfl,by simpa using hl,hr⟩
def Xt (x:Qr):Prop:=((Lit.int .u8 x.Card).wf=true)∧((Lit.int .u8 x.Parents).wf=true)∧((x.W.length≤maxLen∧∀y0∈x.W,(Lit.int .u8 y0).wf=true))
theorem Qff {cs:List AV} (h:WT (.cat (.int .u8) (.cat (.int .u8) (.cat (.slice true false 1 (.int .u8)) .unit))) cs):∃x:Qr,AV.agg cs=eTharuspexref05_Piece x∧Xt x:=by
 obtain ⟨_,_,rfl,a0,r0⟩:=h
 obtain ⟨v0,e0,w0⟩:=Qc3 a0
 cases e0
 obtain ⟨_,_,rfl,a1,r1⟩:=r0
 obtain ⟨v1,e1,w1⟩:=Qc3 a1
 cases e1
 obtain ⟨_,_,rfl,a2,r2⟩:=r1
 obtain ⟨v2,e2,w2⟩:=Qxp a2
 cases e2
 cases r2
 exact ⟨⟨v0,v1,v2⟩,rfl,⟨w0,w1,w2⟩⟩
theorem Q1e {x:AV} (h:WT (.cat (.int .u8) (.cat (.int .u8) (.cat (.slice true false 1 (.int .u8)) .unit))) x.flat ∧ (if true then x=.agg x.flat else x.cell=true)):∃a:Qr,x=eTharuspexref05_Piece a∧Xt a:=by
 obtain ⟨a,h1,h2⟩:=Qff h.1
 have h3:x=.agg x.flat := h.2
 exact ⟨a,h3.trans h1,h2⟩
theorem Q01 {cs:List AV} (h:WT (.slice false true 3 (.cat (.int .u8) (.cat (.int .u8) (.cat (.slice true false 1 (.int .u8)) .unit)))) cs):∃a:(List Qr),cs=[(eL false eTharuspexref05_Piece) a]∧(a.length≤maxLen∧∀y0∈a,Xt y0):=by
 obtain ⟨xs,rfl,hl,hx⟩:=h
 obtain ⟨l,rfl,hr⟩:=Qpm (enc:=eTharuspexref05_Piece) (R:=fun a=>Xt a) (fun x hm=>Q1e (hx x hm))
 exact ⟨l,rfl,by simpa using hl,hr⟩
def Yy (x:Qe):Prop:=((Lit.int .u8 x.Grain).wf=true)∧((x.Nodes.length≤maxLen∧∀y0∈x.Nodes,Xt y0))∧((x.Order.length≤maxLen∧∀y0∈x.Order,(Lit.int .u8 y0).wf=true))
theorem rdTharuspexref05_Draft {cs:List AV} (h:WT (.cat (.int .u8) (.cat (.slice false true 3 (.cat (.int .u8) (.cat (.int .u8) (.cat (.slice true false 1 (.int .u8)) .unit)))) (.cat (.slice true false 1 (.int .u8)) .unit))) cs):∃x:Qe,AV.agg cs=eTharuspexref05_Draft x∧Yy x:=by
 obtain ⟨_,_,rfl,a0,r0⟩:=h
 obtain ⟨v0,e0,w0⟩:=Qc3 a0
 cases e0
 obtain ⟨_,_,rfl,a1,r1⟩:=r0
 obtain ⟨v1,e1,w1⟩:=Q01 a1
 cases e1
 obtain ⟨_,_,rfl,a2,r2⟩:=r1
 obtain ⟨v2,e2,w2⟩:=Qxp a2
 cases e2
 cases r2
 exact ⟨⟨v0,v1,v2⟩,rfl,⟨w0,w1,w2⟩⟩
theorem rdA28 {cs:List AV} (h:WT (.cat (.int .u8) (.cat (.int .u8) (.cat (.int .u8) (.cat (.int .u8) (.cat (.int .u8) (.cat (.int .u8) (.cat (.int .u8) (.cat (.int .u8) .unit)))))))) cs):∃x:(Int × Int × Int × Int × Int × Int × Int × Int),AV.agg cs=(fun x:(Int × Int × Int × Int × Int × Int × Int × Int)=>AV.agg [.int .u8 x.1,.int .u8 x.2.1,.int .u8 x.2.2.1,.int .u8 x.2.2.2.1,.int .u8 x.2.2.2.2.1,.int .u8 x.2.2.2.2.2.1,.int .u8 x.2.2.2.2.2.2.1,.int .u8 x.2.2.2.2.2.2.2]) x∧((Lit.int .u8 x.1).wf=true∧(Lit.int .u8 x.2.1).wf=true∧(Lit.int .u8 x.2.2.1).wf=true∧(Lit.int .u8 x.2.2.2.1).wf=true∧(Lit.int .u8 x.2.2.2.2.1).wf=true∧(Lit.int .u8 x.2.2.2.2.2.1).wf=true∧(Lit.int .u8 x.2.2.2.2.2.2.1).wf=true∧(Lit.int .u8 x.2.2.2.2.2.2.2).wf=true):=by
 obtain ⟨_,_,rfl,a0,r0⟩:=h
 obtain ⟨v0,e0,w0⟩:=Qc3 a0
 cases e0
 obtain ⟨_,_,rfl,a1,r1⟩:=r0
 obtain ⟨v1,e1,w1⟩:=Qc3 a1
 cases e1
 obtain ⟨_,_,rfl,a2,r2⟩:=r1
 obtain ⟨v2,e2,w2⟩:=Qc3 a2
 cases e2
 obtain ⟨_,_,rfl,a3,r3⟩:=r2
 obtain ⟨v3,e3,w3⟩:=Qc3 a3
 cases e3
 obtain ⟨_,_,rfl,a4,r4⟩:=r3
 obtain ⟨v4,e4,w4⟩:=Qc3 a4
 cases e4
 obtain ⟨_,_,rfl,a5,r5⟩:=r4
 obtain ⟨v5,e5,w5⟩:=Qc3 a5
 cases e5
 obtain ⟨_,_,rfl,a6,r6⟩:=r5
 obtain ⟨v6,e6,w6⟩:=Qc3 a6
 cases e6
 obtain ⟨_,_,rfl,a7,r7⟩:=r6
 obtain ⟨v7,e7,w7⟩:=Qc3 a7
 cases e7
 cases r7
 exact ⟨(v0,v1,v2,v3,v4,v5,v6,v7),rfl,⟨w0,w1,w2,w3,w4,w5,w6,w7⟩⟩
end Go.Ab
namespace Go.Ab
open Go
set_option maxRecDepth 100000
set_option maxHeartbeats 400000
theorem Qae {n:Int} (h:(Lit.int .u8 n).wf=true):0≤n∧n≤255:=by
 simpa [Lit.wf,IntKind.min,IntKind.max,IntKind.bits,IntKind.signed] using h
theorem Qyl {p0:Qe} (h:Yy p0):Qsd p0:=by
 refine ⟨Qae h.1,fun x hx=>Qae (h.2.2.2 x hx),fun p hp=>Qae (h.2.1.2 p hp).1,fun p hp x hx=>Qae ((h.2.1.2 p hp).2.2.2 x hx),fun p hp=>?_⟩
 have:=(h.2.1.2 p hp).2.2.1
 unfold maxLen at this; omega
theorem Qww {n:Nat} {f:Nat → Int}:(Qd n f).sum=Qy n f:=by
 induction n with
 | zero=>rfl
 | succ n ih=>rw [←Qer,List.sum_append,ih]; simp [Qy]
theorem Qvq {D:NF} (X:VX D):Jv D.n D.g D.node:=by
 have V:=X.vn
 have hc:∀v,v < D.n→Qbp (D.node v):=fun v hv=>by
  have:=V.card v hv
  exact ⟨by show (1:Int)≤(D.card v:Int); omega,by show (D.card v:Int)≤4; omega⟩
 have ec:cardN D.node=D.card:=funext fun v=>by unfold cardN NF.node; simp
 have ep:Qi D.node=D.par:=funext fun v=>by
  unfold Qi NF.node
  rw [List.map_map]
  conv=>rhs; rw [←List.map_id (D.par v)]
  exact List.map_congr_left fun x _=>by simp
 refine ⟨by have:=V.g1; omega,by have:=V.g60; omega,V.n1,V.n8,hc,by rw [ec]; exact V.worlds,fun v hv=>⟨⟨⟨D.par v,rfl,X.sorted v hv,V.par v hv⟩,fun hm=>?_⟩,?_,fun r hr=>?_⟩,by rw [ep]; obtain ⟨rk,h⟩:=X.rank; exact ⟨rk,h⟩⟩
 ·have hm:(v:Int)∈nI (D.par v):=hm
  unfold nI at hm
  obtain ⟨p,hp,e⟩:=List.mem_map.1 hm
  have:p=v:=by omega
  subst this
  exact X.self p hv hp
 ·rw [ec,ep]; show (Qd (D.rows v) _).length=_; rw [Z4]; rfl
 ·have hr:r∈Qd (D.rows v) fun r=>Qd (D.card v) fun x=>(D.W v r x:Int):=hr
  unfold Qd at hr
  obtain ⟨i,hi,rfl⟩:=List.mem_map.1 hr
  have hi:=List.mem_range.1 hi
  have e:=X.sum v i hv hi
  have h1:((List.range (D.card v)).map fun x=>(D.W v i x:Int))=Qd (D.card v) fun x=>(D.W v i x:Int):=rfl
  rw [h1]
  refine ⟨by rw [Z4]; rfl,fun w hw=>?_,by rw [Qww]; exact e⟩
  unfold Qd at hw
  obtain ⟨x,_,rfl⟩:=List.mem_map.1 hw
  omega
theorem Qsg {D:NF} (X:VX D):∀x∈Qd D.n D.node,Qsi 65536 x:=fun x hx=>by
 have V:=X.vn
 unfold Qd at hx
 obtain ⟨v,hv,rfl⟩:=List.mem_map.1 hx
 have hv:=List.mem_range.1 hv
 have hc:=V.card v hv
 refine ⟨?_,?_,fun r hr=>?_⟩
 ·have:=V.len v hv
  show (List.map _ (D.par v)).length≤_
  rw [List.length_map]; omega
 ·show (Qd (D.rows v) _).length≤_
  rw [Z4]; exact V.rows_le hv
 ·have hr:r∈Qd (D.rows v) fun r=>Qd (D.card v) fun x=>(D.W v r x:Int):=hr
  unfold Qd at hr
  obtain ⟨i,hi,rfl⟩:=List.mem_map.1 hr
  rw [List.length_map,List.length_range]; omega
theorem Qyp {n:Nat} {F:Nat → Tapi_Node} (h:∀x∈Qd n F,Qsi 65536 x):NB n F:=by
 have key:∀v,v < n→Qsi 65536 (F v):=fun v hv=>h _ (by unfold Qd; exact List.mem_map.2 ⟨v,List.mem_range.2 hv,rfl⟩)
 exact ⟨fun v hv=>by have:=(key v hv).par; omega,fun v hv=>by have:=(key v hv).rows; omega,fun v hv r hr=>by have:=(key v hv).row r hr; omega⟩
theorem Qrq {n:Nat} {q:Nat → List Nat} {o:List Nat} (ho:Ord n o) (h1:1≤n):(mkT n q o).Cliques.length≤n∧1≤(mkT n q o).Cliques.length∧(mkT n q o).Up.length=(mkT n q o).Cliques.length∧(mkT n q o).Home.length=n:=by
 have hop:0 < o.length:=by rw [ho.len]; omega
 have hp:=Qmn (n:=n) (A:=mg n q) hop
 have hle:=Qum (n:=n) (A:=mg n q) (o:=o)
 rw [ho.len] at hle
 obtain ⟨_,m2,m3⟩:=Qfv (n:=n) (A:=mg n q) hop
 have c1:(mkT n q o).Cliques.length=(mkK n (mg n q) o).length:=by show (nI _).length=_; rw [Qv,m2]
 have c2:(mkT n q o).Up.length=(mkK n (mg n q) o).length:=by show ((-1:Int)::nI _).length=_; rw [List.length_cons,Qv,m3]; omega
 have c3:(mkT n q o).Home.length=n:=by show (nI _).length=_; rw [Qv,List.length_map,List.length_range]
 exact ⟨by omega,by omega,by omega,c3⟩
theorem Qsp:Qc1=some true:=by kernel_rfl
theorem Q0c {p2:Int × Int × Int × Int × Int × Int × Int × Int} (h:(Lit.int .u8 p2.1).wf=true∧(Lit.int .u8 p2.2.1).wf=true∧(Lit.int .u8 p2.2.2.1).wf=true∧(Lit.int .u8 p2.2.2.2.1).wf=true∧(Lit.int .u8 p2.2.2.2.2.1).wf=true∧(Lit.int .u8 p2.2.2.2.2.2.1).wf=true∧(Lit.int .u8 p2.2.2.2.2.2.2.1).wf=true∧(Lit.int .u8 p2.2.2.2.2.2.2.2).wf=true):ok8 p2 :=
 ⟨Qae h.1,Qae h.2.1,Qae h.2.2.1,Qae h.2.2.2.1,Qae h.2.2.2.2.1,Qae h.2.2.2.2.2.1,Qae h.2.2.2.2.2.2.1,Qae h.2.2.2.2.2.2.2⟩
end Go.Ab
namespace Go.Ab
open Go
set_option maxRecDepth 100000
set_option maxHeartbeats 400000
def Yh (t:Qc):Prop:=(∀c∈t.Cliques,0≤c∧c≤18446744073709551615)∧t.Cliques.length≤100000∧t.Up.length≤100000∧t.Home.length≤100000
def cqN (t:Qc) (i:Nat):Nat := ((t.Cliques[i]?).getD 0).toNat
def upA (t:Qc) (i:Nat):Int:=(t.Up[i]?).getD 0
def hmA (t:Qc) (v:Nat):Int:=(t.Home[v]?).getD 0
def ahead (t:Qc):Nat → Nat
 | 0=>0
 | i+1=>ahead t i ||| cqN t i
def Qko (n:Nat) (t:Qc) (i:Nat):Prop:=cqN t i≠0∧cqN t i < 2^n∧(i=0→upA t i=-1)∧(0 < i→0≤upA t i∧upA t i < i∧Qas (cqN t i &&& ahead t i) (cqN t (upA t i).toNat))
def Qj7 (n:Nat) (q:Nat → List Nat) (t:Qc) (v:Nat):Prop:=0≤hmA t v∧hmA t v < t.Cliques.length∧subB (msk n (FG q v)) (cqN t (hmA t v).toNat)=true
structure V6 (n:Nat) (q:Nat → List Nat) (t:Qc):Prop where
 c1:1≤t.Cliques.length
 c8:t.Cliques.length≤8
 up:t.Up.length=t.Cliques.length
 home:t.Home.length=n
 cq:∀i,i < t.Cliques.length→Qko n t i
 hm:∀v,v < n→Qj7 n q t v
theorem Y2 {t:Qc} {i:Nat} (h:Yh t) (hi:i < t.Cliques.length):lkI t.Cliques (i:Int)=some ((cqN t i:Nat):Int)∧cqN t i < 18446744073709551616:=by
 have:=h.1 _ (List.getElem_mem hi)
 unfold cqN
 rw [Zb hi,List.getElem?_eq_getElem hi,Option.getD_some]
 exact ⟨by congr 1; omega,by omega⟩
theorem Qkr {t:Qc} (h:Yh t):∀i,i≤t.Cliques.length→ahead t i < 18446744073709551616
 | 0,_=>by simp [ahead]
 | i+1,hi=>by
  simp only [ahead]
  exact Nat.or_lt_two_pow (n:=64) (Qkr h i (by omega)) (Y2 h (by omega)).2
theorem Qkm {n c:Nat} (hn:n≤8) (hc:c < 18446744073709551616):((Int.fdiv (c:Int) (2^min (Int.toNat (n:Int)) (IntKind.bits .u64))) != 0)=true↔¬ c < 2^n:=by
 have hb:IntKind.bits .u64=64:=rfl
 have e0:min (Int.toNat (n:Int)) (IntKind.bits .u64)=n:=by rw [hb,Int.toNat_natCast]; omega
 rw [e0,Qp6]
 have hp:=Nat.two_pow_pos n
 have:c / 2^n=0↔c < 2^n:=by
  rw [Nat.div_eq_zero_iff]
  constructor
  ·rintro (h | h)
   ·omega
   ·exact h
  ·exact .inr
 generalize c / 2^n=d at this
 rw [←this]
 simp
theorem Qjh {x:Int}:(x != 0)=true↔¬ (x==0)=true:=by simp
theorem Qwp {n:Nat} {t:Qc} {fam:List Int} {w:Int} (hn:n≤8) (hf:fam.length=n) (h:Yh t) (hu:t.Up.length=t.Cliques.length) :
  ((∀i,i < t.Cliques.length→Qko n t i)∧Qb fuel (Yg t (fam,w)) (0,0)=some (.inr ()))∨((¬ ∀i,i < t.Cliques.length→Qko n t i)∧Qb fuel (Yg t (fam,w)) (0,0)=some (.inl ())):=by
 have hlen:=h.2.1
 have hr:=Yk (n:=t.Cliques.length) (by omega) (Qko n t) (fun i (e:Int)=>(e,i)) (body:=Yg t (fam,w)) (fun i=>((ahead t i:Nat):Int)) (.inr ()) (.inl ())
  (fun i hi hI hg=>by
   obtain ⟨e1,e2⟩:=Y2 h hi
   have ha:=Qkr h i (by omega)
   have eu:lkI t.Up (i:Int)=some (upA t i):=by unfold upA; rw [Zb (by omega),List.getElem?_eq_getElem (by omega)]; rfl
   obtain ⟨g1,g2,g3,g4⟩:=hg
   unfold Yg
   dsimp only
   rw [if_pos (dlt hi),e1,Option.bind_some,if_neg (by simp; exact g1),hf,if_pos (X3 n),if_neg (fun hh=>(Qkm hn e2).1 hh g2),eu,Option.bind_some,Qlw ha e2]
   by_cases c:i=0
   ·rw [if_pos (by simp; exact c),if_neg (by simp; exact g3 c)]
    rfl
   ·obtain ⟨k1,k2,k3⟩:=g4 (by omega)
    obtain ⟨f1,f2⟩:=Y2 h (show (upA t i).toNat < t.Cliques.length by omega)
    rw [show (((upA t i).toNat : Nat):Int)=upA t i by omega] at f1
    rw [if_neg (by simp; exact c),if_neg (by simp; exact k1),if_neg (by simp; exact k2),f1,Option.bind_some,K4 e2 ha]
    rw [if_neg (by
     rw [Qjh,Ve (Nat.lt_of_le_of_lt Nat.and_le_left e2) f2,Xg]
     exact fun hh=>hh k3)]
    rfl)
  (fun i hi hI hg=>by
   obtain ⟨e1,e2⟩:=Y2 h hi
   have ha:=Qkr h i (by omega)
   have eu:lkI t.Up (i:Int)=some (upA t i):=by unfold upA; rw [Zb (by omega),List.getElem?_eq_getElem (by omega)]; rfl
   unfold Yg
   dsimp only
   rw [if_pos (dlt hi),e1,Option.bind_some]
   by_cases c1:cqN t i=0
   ·rw [if_pos (by simp; exact c1)]
   rw [if_neg (by simp; exact c1),hf,if_pos (X3 n)]
   by_cases c2':¬ cqN t i < 2^n
   ·rw [if_pos ((Qkm hn e2).2 c2')]
   have c2:cqN t i < 2^n:=Nat.lt_of_not_le fun hh=>c2' (by omega)
   rw [if_neg (fun hh=>(Qkm hn e2).1 hh c2),eu,Option.bind_some]
   by_cases c:i=0
   ·rw [if_pos (by simp; exact c),if_pos (by
     rw [bne_iff_ne]
     exact fun hh=>hg ⟨c1,c2,fun _=>hh,fun h0=>by omega⟩)]
   ·rw [if_neg (by simp; exact c)]
    by_cases c3:upA t i < 0
    ·rw [if_pos (by simpa using c3)]
    rw [if_neg (by simpa using c3)]
    by_cases c4:upA t i≥(i:Int)
    ·rw [if_pos (by simpa using c4)]
    rw [if_neg (by simpa using c4)]
    obtain ⟨f1,f2⟩:=Y2 h (show (upA t i).toNat < t.Cliques.length by omega)
    rw [show (((upA t i).toNat : Nat):Int)=upA t i by omega] at f1
    rw [f1,Option.bind_some,K4 e2 ha,if_pos (by
     rw [Qjh,Ve (Nat.lt_of_le_of_lt Nat.and_le_left e2) f2,Xg]
     exact fun hh=>hg ⟨c1,c2,fun h0=>absurd h0 c,fun _=>⟨by omega,by omega,hh⟩⟩)])
  (fun hI=>by unfold Yg; dsimp only; rw [if_neg (nlt _)])
 exact hr
theorem Qwl {n:Nat} {t:Qc} {q:Nat → List Nat} {w:Int} (hn:n≤8) (h:Yh t) (hh:t.Home.length=n) :
  ((∀v,v < n→Qj7 n q t v)∧Qb fuel (Ye t (gl n (FG q),w)) 0=some (.inr ()))∨((¬ ∀v,v < n→Qj7 n q t v)∧Qb fuel (Ye t (gl n (FG q),w)) 0=some (.inl ())):=by
 have p8:(2:Nat)^n≤256:=Nat.pow_le_pow_right (n:=2) (by omega) hn
 have eh:∀v,v < n→lkI t.Home (v:Int)=some (hmA t v):=fun v hv=>by unfold hmA; rw [Zb (by omega),List.getElem?_eq_getElem (by omega)]; rfl
 have hfl:∀v,msk n (FG q v) < 18446744073709551616:=fun v=>by have:=Xo n (FG q v); omega
 have hr:=Yk (n:=n) (by omega) (Qj7 n q t) (fun i (_:Unit)=>i) (body:=Ye t (gl n (FG q),w)) (fun _=>()) (.inr ()) (.inl ())
  (fun v hv hI hg=>by
   obtain ⟨g1,g2,g3⟩:=hg
   obtain ⟨f1,f2⟩:=Y2 h (show (hmA t v).toNat < t.Cliques.length by omega)
   rw [show (((hmA t v).toNat : Nat):Int)=hmA t v by omega] at f1
   unfold Ye
   dsimp only
   rw [hh,if_pos (dlt hv),eh v hv,Option.bind_some,if_neg (by simp; exact g1),if_neg (by simp; exact g2),Qcd hv,Option.bind_some,f1,Option.bind_some,if_neg (by
    rw [Qjh,Ve (hfl v) f2]
    exact fun x=>x g3)])
  (fun v hv hI hg=>by
   unfold Ye
   dsimp only
   rw [hh,if_pos (dlt hv),eh v hv,Option.bind_some]
   by_cases c1:hmA t v < 0
   ·rw [if_pos (by simpa using c1)]
   rw [if_neg (by simpa using c1)]
   by_cases c2:hmA t v≥(t.Cliques.length:Int)
   ·rw [if_pos (by simpa using c2)]
   rw [if_neg (by simpa using c2)]
   obtain ⟨f1,f2⟩:=Y2 h (show (hmA t v).toNat < t.Cliques.length by omega)
   rw [show (((hmA t v).toNat : Nat):Int)=hmA t v by omega] at f1
   rw [Qcd hv,Option.bind_some,f1,Option.bind_some,if_pos (by
    rw [Qjh,Ve (hfl v) f2]
    exact fun x=>hg ⟨by omega,by omega,x⟩)])
  (fun hI=>by unfold Ye; dsimp only; rw [hh,if_neg (nlt n)])
 exact hr
theorem Qmc {n:Nat} {g:Int} {F:Nat → Tapi_Node} {t:Qc} (hb:NB n F) (hbig:n≤1000) (h:Yh t) :
  (¬ Jv n g F∧Zx ⟨g,Qd n F⟩ t=some 50)∨(Jv n g F∧¬ V6 n (Qi F) t∧Zx ⟨g,Qd n F⟩ t=some 100)∨(Jv n g F∧V6 n (Qi F) t∧Zx ⟨g,Qd n F⟩ t=some 0):=by
 unfold Zx
 rcases Qo4 (g:=g) hb (by omega) with ⟨hf,e⟩ | ⟨hf,e⟩
 ·right
  have hn:=hf.n8
  rw [e,Option.bind_some,if_neg (by simp)]
  dsimp only
  rw [Zz]
  by_cases c1:t.Cliques.length < 1
  ·rw [if_pos (by simp; omega)]; exact .inl ⟨hf,fun x=>by have:=x.c1; omega,rfl⟩
  rw [if_neg (by simp; omega)]
  by_cases c2:t.Cliques.length > 8
  ·rw [if_pos (by simp; omega)]; exact .inl ⟨hf,fun x=>by have:=x.c8; omega,rfl⟩
  rw [if_neg (by simp; omega)]
  by_cases c3:t.Up.length=t.Cliques.length
  ·rw [if_neg (by simp; omega)]
   by_cases c4:t.Home.length=n
   ·rw [if_neg (by simp; omega)]
    rcases Qwp (n:=n) (fam:=gl n (FG (Qi F))) (w:=0) hn (Zz _ _) h c3 with ⟨k1,e1⟩ | ⟨k1,e1⟩
    ·rw [e1,Option.bind_some]
     dsimp only
     rcases Qwl (q:=Qi F) (w:=0) hn h c4 with ⟨k2,e2⟩ | ⟨k2,e2⟩
     ·rw [e2]; exact .inr ⟨hf,⟨by omega,by omega,c3,c4,k1,k2⟩,rfl⟩
     ·rw [e2]; exact .inl ⟨hf,fun x=>k2 x.hm,rfl⟩
    ·rw [e1]; exact .inl ⟨hf,fun x=>k1 x.cq,rfl⟩
   ·rw [if_pos (by simp; omega)]; exact .inl ⟨hf,fun x=>c4 x.home,rfl⟩
  ·rw [if_pos (by simp; omega)]; exact .inl ⟨hf,fun x=>c3 x.up,rfl⟩
 ·left
  refine ⟨hf,?_⟩
  rw [e,Option.bind_some,if_pos (by decide)]
end Go.Ab
namespace Go.Ab
open Go
set_option maxRecDepth 100000
set_option maxHeartbeats 400000
theorem Qcm {t:Qc} {x:Nat}:∀i,(ahead t i).testBit x=true↔∃j,j < i∧(cqN t j).testBit x=true
 | 0=>by simp [ahead]
 | i+1=>by
  simp only [ahead]
  rw [Nat.testBit_or,Bool.or_eq_true,Qcm i]
  constructor
  ·rintro (⟨j,h1,h2⟩ | h)
   ·exact ⟨j,by omega,h2⟩
   ·exact ⟨i,by omega,h⟩
  ·rintro ⟨j,h1,h2⟩
   by_cases e:j=i
   ·subst e; exact .inr h2
   ·exact .inl ⟨j,by omega,h2⟩
end Go.Ab
namespace Go.Ab
open Go
set_option maxRecDepth 100000
set_option maxHeartbeats 400000
def plc (n:Nat) (o:List Nat) (m:Nat):Nat := msk n fun i=>m.testBit (o.getD i n)
theorem Qp4 {n m:Nat} {o:List Nat}:plc n o m < 2^n:=Xo n _
theorem Qbw {n i m:Nat} {o:List Nat} (hi:i < n):(plc n o m).testBit i=m.testBit (o.getD i n):=by unfold plc; rw [Zm]; simp [hi]
theorem Qm6 {n a b:Nat} {o:List Nat}:plc n o (a &&& b)=plc n o a &&& plc n o b:=Nat.eq_of_testBit_eq fun j=>by
 unfold plc; rw [Nat.testBit_and,Zm,Zm,Zm,Nat.testBit_and]; cases decide (j < n) <;> simp
theorem Qzf {n a b:Nat} {o:List Nat}:plc n o (a ||| b)=plc n o a ||| plc n o b:=Nat.eq_of_testBit_eq fun j=>by
 unfold plc; rw [Nat.testBit_or,Zm,Zm,Zm,Nat.testBit_or]; cases decide (j < n) <;> simp
theorem Qo5 {n:Nat} {o:List Nat}:plc n o 0=0:=Nat.eq_of_testBit_eq fun j=>by unfold plc; rw [Zm]; simp
theorem Qss (n:Nat) (p:Nat → Bool):cnt n p=(List.range n).countP p:=by
 induction n with
 | zero=>rfl
 | succ n ih =>
  rw [List.range_succ,List.countP_append,←ih]
  simp only [cnt,List.countP_cons,List.countP_nil]
  cases p n <;> rfl
theorem Qoz {n:Nat} {o:List Nat} (p:Nat → Bool):∀k,k≤o.length→cnt k (fun i=>p (o.getD i n))=(o.take k).countP p
 | 0,_=>rfl
 | k+1,hk=>by
  rw [Q8 (by omega),List.countP_append,←Qoz (n:=n) p k (by omega)]
  have e:o.getD k n=o[k]:=by simp [List.getD,show k < o.length by omega]
  simp only [cnt,e,List.countP_cons,List.countP_nil]
  cases p o[k] <;> rfl
theorem Qwe {n:Nat} {o:List Nat} (ho:Ord n o):o.Perm (List.range n):=(List.perm_ext_iff_of_nodup ho.nodup List.nodup_range).2 fun a=>⟨fun h=>List.mem_range.2 (ho.lt a h),fun h=>Qam ho.nodup ho.lt ho.len a (List.mem_range.1 h)⟩
theorem Qyj {n:Nat} {o:List Nat} (ho:Ord n o) (p:Nat → Bool):cnt n (fun i=>p (o.getD i n))=cnt n p:=by
 have:=Qoz (n:=n) (o:=o) p n (by rw [ho.len]; omega)
 rw [this,List.take_of_length_le (by rw [ho.len]; omega),Qss,(Qwe ho).countP_eq]
theorem Qud {n a:Nat} {o:List Nat} (ho:Ord n o):pc n (plc n o a)=pc n a:=by
 unfold pc
 rw [←Qyj ho a.testBit]
 exact Qny fun i hi=>Qbw hi
theorem Qzj {n j:Nat} {o:List Nat} (ho:Ord n o) (hj:j < n):∃i,i < n∧o.getD i n=j:=by
 obtain ⟨i,hi,e⟩:=List.mem_iff_getElem.1 (Qam ho.nodup ho.lt ho.len j hj)
 have:=ho.len
 exact ⟨i,by omega,by simp [List.getD,hi,e]⟩
theorem Qpi {n a j:Nat} (ha:a < 2^n) (h:a.testBit j=true):j < n:=by
 apply Nat.lt_of_not_le
 intro hle
 have:=Nat.lt_of_lt_of_le ha (Nat.pow_le_pow_right (n:=2) (by omega) hle)
 rw [Nat.testBit_lt_two_pow this] at h; cases h
theorem Qm5 {n a b:Nat} {o:List Nat} (ho:Ord n o) (ha:a < 2^n):subB (plc n o a) (plc n o b)=subB a b:=by
 rw [Bool.eq_iff_iff,Xg,Xg]
 constructor
 ·intro h j hj
  obtain ⟨i,hi,rfl⟩:=Qzj ho (Qpi ha hj)
  rw [←Qbw (o:=o) hi] at hj ⊢
  exact h i hj
 ·intro h i hi
  have hin:=Qpi Qp4 hi
  rw [Qbw hin] at hi ⊢
  exact h _ hi
theorem Qb4 {n:Nat} {o l:List Nat} {k:Nat}:(l.map (plc n o)).getD k 0=plc n o (l.getD k 0):=by
 simp only [List.getD,List.getElem?_map]
 cases l[k]? with
 | none=>simp [Qo5]
 | some x=>rfl
theorem Qwz {n s:Nat} {o acc:List Nat} (ho:Ord n o) (hs:s < 2^n):J7 (acc.map (plc n o)) (plc n o s)=(J7 acc s).map (plc n o):=by
 unfold J7
 have:(acc.map (plc n o)).any (subB (plc n o s))=acc.any (subB s):=by
  rw [List.any_map]
  congr 1
  exact funext fun x=>Qm5 ho hs
 rw [this]
 split
 ·rfl
 ·rw [List.map_append]; rfl
theorem Qp5 {n:Nat} {o:List Nat} (ho:Ord n o):∀(l acc:List Nat),(∀s∈l,s < 2^n)→(l.map (plc n o)).foldl J7 (acc.map (plc n o))=(l.foldl J7 acc).map (plc n o)
 | [],acc,_=>rfl
 | s::l,acc,h=>by
  simp only [List.map_cons,List.foldl_cons]
  rw [Qwz ho (h s (by simp)),Qp5 ho l _ fun x hx=>h x (List.mem_cons_of_mem _ hx)]
theorem Qv9 {n:Nat} {o l:List Nat} (ho:Ord n o) (h:∀s∈l,s < 2^n):Zs (l.map (plc n o))=(Zs l).map (plc n o):=Qp5 ho l [] h
theorem Qrl {n s:Nat} {o cl:List Nat} (ho:Ord n o):com n (cl.map (plc n o)) (plc n o s)=com n cl s:=by
 unfold com
 rw [List.foldl_map]
 congr 1
 exact funext fun m=>funext fun c=>by rw [←Qm6,Qud ho]
theorem Qnv {n:Nat} {o cl left:List Nat} (ho:Ord n o):∀k,Vk n (cl.map (plc n o)) (left.map (plc n o)) k=Vk n cl left k
 | 0=>rfl
 | k+1=>by simp only [Vk,Qnv ho k,Qb4,Qrl ho]
theorem Qyx {n s:Nat} {o cl:List Nat} (ho:Ord n o):upI n (cl.map (plc n o)) (plc n o s)=upI n cl s:=by
 unfold upI
 rw [List.findIdx_map]
 congr 1
 exact funext fun c=>by simp only [Function.comp,Qrl ho,←Qm6,Qud ho]
theorem Quh {α β:Type} (f:α→β) (l:List α) (i:Nat):(l.map f).eraseIdx i=(l.eraseIdx i).map f:=by
 rw [List.eraseIdx_eq_take_drop_succ,List.eraseIdx_eq_take_drop_succ,List.map_append,List.map_take,List.map_drop]
theorem Qri {n:Nat} {o:List Nat} (ho:Ord n o):∀(k:Nat) (left cl up:List Nat),bld n k (left.map (plc n o)) (cl.map (plc n o)) up=((bld n k left cl up).1.map (plc n o),(bld n k left cl up).2)
 | 0,_,_,_=>rfl
 | k+1,left,cl,up=>by
  have hp:pickI n (cl.map (plc n o)) (left.map (plc n o))=pickI n cl left:=by unfold pickI; rw [List.length_map,Qnv ho]
  simp only [bld]
  rw [hp,Qb4,Qyx ho,Quh,show cl.map (plc n o)++[plc n o (left.getD (pickI n cl left) 0)]=(cl++[left.getD (pickI n cl left) 0]).map (plc n o) by simp,Qri ho k]
def trL (n:Nat) (l:List Nat):List Nat × List Nat := bld n ((Zs l).length - 1) ((Zs l).take ((Zs l).length - 1)) [(Zs l).getD ((Zs l).length - 1) 0] []
theorem Qyb {n:Nat} {A:Gr} {o:List Nat}:mkB n A o=trL n (Q5 n A o):=rfl
theorem Qx7 {n:Nat} {o l:List Nat} (ho:Ord n o) (h:∀s∈l,s < 2^n):trL n (l.map (plc n o))=((trL n l).1.map (plc n o),(trL n l).2):=by
 unfold trL
 rw [Qv9 ho h,List.length_map,←List.map_take,Qb4]
 exact Qri ho _ _ [_] []
def orU (l:List Nat) (i:Nat):Nat := (l.take i).foldl (fun a b=>a ||| b) 0
def okB (x:List Nat × List Nat):Bool:=(List.range x.1.length).all fun i=>(Nat.beq i 0 || (Nat.blt (x.2.getD (i - 1) 0) i && subB (x.1.getD i 0 &&& orU x.1 i) (x.1.getD (x.2.getD (i - 1) 0) 0))) && (List.range x.1.length).all fun j=>Nat.beq i j || !subB (x.1.getD i 0) (x.1.getD j 0)
theorem Qry {n:Nat} {o:List Nat}:∀(l:List Nat) (a:Nat),(l.map (plc n o)).foldl (fun a b=>a ||| b) (plc n o a)=plc n o (l.foldl (fun a b=>a ||| b) a)
 | [],a=>rfl
 | x::l,a=>by simp only [List.map_cons,List.foldl_cons]; rw [←Qzf,Qry l]
theorem Qx3 {n i:Nat} {o l:List Nat}:orU (l.map (plc n o)) i=plc n o (orU l i):=by
 unfold orU
 rw [←List.map_take,←Qry,Qo5]
theorem Qrv {n:Nat} {l:List Nat} (h:∀s∈l,s < 2^n) (i:Nat):l.getD i 0 < 2^n:=by
 have:=Nat.two_pow_pos n
 by_cases c:i < l.length
 ·have e:l.getD i 0=l[i]:=by simp [List.getD,c]
  rw [e]; exact h _ (List.getElem_mem c)
 ·have e:l.getD i 0=0:=by simp [List.getD,List.getElem?_eq_none (show l.length≤i by omega)]
  rw [e]; exact this
theorem Qx9 {n:Nat} {o:List Nat} {x:List Nat × List Nat} (ho:Ord n o) (h:∀s∈x.1,s < 2^n):okB (x.1.map (plc n o),x.2)=okB x:=by
 unfold okB
 simp only [List.length_map,Qb4,Qx3,←Qm6]
 congr 1
 funext i
 rw [Qm5 ho (Nat.lt_of_le_of_lt Nat.and_le_left (Qrv h i))]
 congr 1
 congr 1
 funext j
 rw [Qm5 ho (Qrv h i)]
def Qoe (n i x:Nat) (L:List Nat):Bool:=(List.range n).all fun j=>if Nat.blt j i then !x.testBit j else if Nat.beq j i then x.testBit i else !x.testBit j || subB ((x >>> j) <<< j) (L.getD (j - i - 1) 0)
def gen (n:Nat):Nat → List (List Nat)
 | 0=>[[]]
 | k+1=>(gen n k).flatMap fun L=>((List.range (2^n)).filter fun x=>Qoe n (n - (k+1)) x L).map (·::L)
theorem Qq5 {n:Nat} {T:List Nat} (hT:T.length=n) (hlt:∀s∈T,s < 2^n) (hs:∀i,i < n→Qoe n i (T.getD i 0) (T.drop (i+1))=true):∀k,k≤n→T.drop (n - k)∈gen n k
 | 0,_=>by
  rw [List.drop_of_length_le (by omega)]; simp [gen]
 | k+1,hk=>by
  have ih:=Qq5 hT hlt hs k (by omega)
  have hi:n - (k+1) < T.length:=by omega
  have e:T.drop (n - (k+1))=T[n - (k+1)]::T.drop (n - k):=by
   rw [List.drop_eq_getElem_cons hi,show n - (k+1)+1=n - k by omega]
  have e2:T.getD (n - (k+1)) 0=T[n - (k+1)]:=by simp [List.getD,hi]
  have h:=hs (n - (k+1)) (by omega)
  rw [e2,show n - (k+1)+1=n - k by omega] at h
  simp only [gen,List.mem_flatMap,List.mem_map,List.mem_filter,List.mem_range]
  exact ⟨_,ih,_,⟨hlt _ (List.getElem_mem hi),h⟩,e.symm⟩
theorem Q1b:((gen 1 1).all fun T=>okB (trL 1 T))=true:=by kernel_rfl
theorem Q03:((gen 2 2).all fun T=>okB (trL 2 T))=true:=by kernel_rfl
theorem Q1g:((gen 3 3).all fun T=>okB (trL 3 T))=true:=by kernel_rfl
theorem Q06:((gen 4 4).all fun T=>okB (trL 4 T))=true:=by kernel_rfl
theorem Q09:((gen 5 5).all fun T=>okB (trL 5 T))=true:=by kernel_rfl
theorem Qjb {n:Nat}:∀(o:List Nat) (A:Gr) (i:Nat) (hi:i < o.length),(Q5 n A o).getD i 0=msk n (setP (seqA A (o.take i)) o[i])
 | v::o,A,0,hi=>rfl
 | v::o,A,i+1,hi=>by
  simp only [Q5,List.getD_cons_succ,List.take_succ_cons,List.getElem_cons_succ]
  rw [Qjb o (elim A v) i (by simpa using hi)]; rfl
theorem Qvx {A:Gr} {v u w:Nat} (h:A u w=true) (h1:¬ u=v) (h2:¬ w=v):elim A v u w=true:=by unfold elim; simp [h,h1,h2]
theorem Qo1 {n:Nat}:∀(o:List Nat) (A:Gr) (j k:Nat) (hj:j < o.length) (hk:k < o.length),o.Nodup→(∀v∈o,v < n)→j < k→A o[j] o[k]=true→((Q5 n A o).getD j 0).testBit o[k]=true
 | v::o,A,0,k+1,hj,hk,hn,hl,hjk,h=>by
  simp only [Q5,List.getD_cons_zero]
  rw [Zm,decide_eq_true (hl _ (List.getElem_mem hk))]
  unfold setP
  have h:A v (o[k]'(by simpa using hk))=true:=h
  simp [h]
 | v::o,A,j+1,k+1,hj,hk,hn,hl,hjk,h=>by
  simp only [Q5,List.getD_cons_succ,List.getElem_cons_succ] at h ⊢
  have hno:=(List.nodup_cons.1 hn).1
  refine Qo1 o _ j k (by simpa using hj) (by simpa using hk) (List.nodup_cons.1 hn).2 (fun x hx=>hl x (List.mem_cons_of_mem _ hx)) (by omega) (Qvx h (fun e=>?_) fun e=>?_)
  ·exact hno (by rw [←e]; exact List.getElem_mem _)
  ·exact hno (by rw [←e]; exact List.getElem_mem _)
theorem Qpo {o:List Nat} (h:o.Nodup) {i j:Nat} (hi:i < o.length) (hj:j < o.length) (hij:i≠j):¬ o[i]=o[j]:=by
 rcases Nat.lt_or_gt_of_ne hij with c | c
 ·exact (List.pairwise_iff_getElem.1 h) i j hi hj c
 ·exact fun e=>(List.pairwise_iff_getElem.1 h) j i hj hi c e.symm
theorem Ql6 {n:Nat}:∀(o:List Nat) (A:Gr) (i j k:Nat) (hj:j < o.length) (hk:k < o.length),o.Nodup→(∀v∈o,v < n)→i < j→j < k→((Q5 n A o).getD i 0).testBit o[j]=true→((Q5 n A o).getD i 0).testBit o[k]=true→((Q5 n A o).getD j 0).testBit o[k]=true
 | v::o,A,0,j+1,k+1,hj,hk,hn,hl,hij,hjk,h1,h2=>by
  simp only [Q5,List.getD_cons_zero,List.getD_cons_succ,List.getElem_cons_succ] at h1 h2 ⊢
  have hno:=(List.nodup_cons.1 hn).1
  have hj':j < o.length:=by simpa using hj
  have hk':k < o.length:=by simpa using hk
  have n1:¬ v=o[j]:=fun e=>hno (by rw [e]; exact List.getElem_mem _)
  have n2:¬ v=o[k]:=fun e=>hno (by rw [e]; exact List.getElem_mem _)
  have n3:=Qpo (List.nodup_cons.1 hn).2 hj' hk' (by omega)
  rw [Zm] at h1 h2
  unfold setP at h1 h2
  simp only [n1,n2,decide_false,Bool.or_false,Bool.and_eq_true] at h1 h2
  refine Qo1 o _ j k hj' hk' (List.nodup_cons.1 hn).2 (fun x hx=>hl x (List.mem_cons_of_mem _ hx)) (by omega) ?_
  unfold elim
  simp [h1.2,h2.2,n3,show ¬ o[j]=v from fun e=>n1 (Eq.symm e),show ¬ o[k]=v from fun e=>n2 (Eq.symm e)]
 | v::o,A,i+1,j+1,k+1,hj,hk,hn,hl,hij,hjk,h1,h2=>by
  simp only [Q5,List.getD_cons_succ,List.getElem_cons_succ] at h1 h2 ⊢
  exact Ql6 o _ i j k (by simpa using hj) (by simpa using hk) (List.nodup_cons.1 hn).2 (fun x hx=>hl x (List.mem_cons_of_mem _ hx)) (by omega) (by omega) h1 h2
theorem Qwm {n:Nat} {A:Gr} {o:List Nat} (hG:Qb5 n A) (ho:Ord n o) {i:Nat} (hi:i < n):Qoe n i (((Q5 n A o).map (plc n o)).getD i 0) (((Q5 n A o).map (plc n o)).drop (i+1))=true:=by
 have hlen:=ho.len
 have hoi:∀j (hj:j < n),o.getD j n=o[j]'(by omega):=fun j hj=>by simp [List.getD,show j < o.length by omega]
 unfold Qoe
 rw [List.all_eq_true]
 intro j hj
 have hj:=List.mem_range.1 hj
 rw [Qb4]
 by_cases c:j < i
 ·rw [if_pos (by simpa using c),Qbw hj,hoi j hj,Qjb o A i (by omega),Zm]
  unfold setP
  have h1:=Qkf (o:=o.take i) (x:=o[j]'(by omega)) hG (.inl (List.mem_take_iff_getElem.2 ⟨j,by omega,rfl⟩)) (o[i]'(by omega))
  rw [(Qhv (o:=o.take i) hG).sym,h1]
  have:=Qpo ho.nodup (show i < o.length by omega) (show j < o.length by omega) (by omega)
  simp [this]
 ·rw [if_neg (by simpa using c)]
  by_cases e:j=i
  ·subst e
   rw [if_pos (by simp),Qbw hj,hoi j hj,Qjb o A j (by omega),Zm,decide_eq_true (ho.lt _ (List.getElem_mem _))]
   unfold setP; simp
  ·rw [if_neg (by simpa using e)]
   cases hb:(plc n o ((Q5 n A o).getD i 0)).testBit j with
   | false=>rfl
   | true =>
    simp only [Bool.not_true,Bool.false_or]
    rw [Xg]
    intro k hk
    have ed:(((Q5 n A o).map (plc n o)).drop (i+1)).getD (j - i - 1) 0=plc n o ((Q5 n A o).getD j 0):=by
     rw [←Qb4]
     simp only [List.getD,List.getElem?_drop]
     rw [show i+1+(j - i - 1)=j by omega]
    rw [ed]
    rw [Nat.testBit_shiftLeft,Bool.and_eq_true,Nat.testBit_shiftRight] at hk
    obtain ⟨h1,h2⟩:=hk
    have h1:j≤k:=by simpa using h1
    rw [show j+(k - j)=k by omega] at h2
    have hk:=Qpi Qp4 h2
    rw [Qbw hj,hoi j hj] at hb
    rw [Qbw hk,hoi k hk] at h2 ⊢
    by_cases e2:j=k
    ·subst e2
     rw [Qjb o A j (by omega),Zm,decide_eq_true (ho.lt _ (List.getElem_mem _))]
     unfold setP; simp
    ·exact Ql6 o A i j k (by omega) (by omega) ho.nodup ho.lt (by omega) (by omega) hb h2
theorem Q0i {n:Nat} {A:Gr} {o:List Nat} (h1:1≤n) (h5:n≤5) (hG:Qb5 n A) (ho:Ord n o):okB (mkB n A o)=true:=by
 have hlt:∀s∈(mkB n A o).1,s < 2^n:=fun s hs=>Qdj o A s (Qeq (((Qfv (n:=n) (A:=A) (o:=o) (by rw [ho.len]; omega)).1 s).2 hs))
 have hg:(Q5 n A o).map (plc n o)∈gen n n:=by
  have:=Qq5 (n:=n) (T:=(Q5 n A o).map (plc n o)) (by rw [List.length_map,Qd9,ho.len]) (fun s hs=>by
   obtain ⟨x,_,rfl⟩:=List.mem_map.1 hs
   exact Qp4) (fun i hi=>Qwm hG ho hi) n (Nat.le_refl _)
  rwa [Nat.sub_self,List.drop_zero] at this
 have hall:okB (trL n ((Q5 n A o).map (plc n o)))=true:=by
  have:n=1∨n=2∨n=3∨n=4∨n=5:=by omega
  rcases this with e | e | e | e | e <;> subst e
  ·exact List.all_eq_true.1 Q1b _ hg
  ·exact List.all_eq_true.1 Q03 _ hg
  ·exact List.all_eq_true.1 Q1g _ hg
  ·exact List.all_eq_true.1 Q06 _ hg
  ·exact List.all_eq_true.1 Q09 _ hg
 rw [Qx7 ho (Qdj o A),←Qyb,Qx9 ho hlt] at hall
 exact hall
end Go.Ab
namespace Go.Ab
open Go
set_option maxRecDepth 100000
set_option maxHeartbeats 400000
section
variable {n:Nat} {q:Nat → List Nat} {o:List Nat}
theorem Qfp (i:Nat):cqN (mkT n q o) i=(mkB n (mg n q) o).1.getD i 0:=by
 show (((nI (mkB n (mg n q) o).1)[i]?).getD 0).toNat = _
 unfold nI
 rw [List.getElem?_map,List.getD_eq_getElem?_getD]
 cases (mkB n (mg n q) o).1[i]? <;> simp
theorem Qwo:upA (mkT n q o) 0=-1:=rfl
theorem Q0d (i:Nat):upA (mkT n q o) (i+1)=((mkB n (mg n q) o).2.getD i 0:Int):=by
 show ((nI (mkB n (mg n q) o).2)[i]?).getD 0=_
 unfold nI
 rw [List.getElem?_map,List.getD_eq_getElem?_getD]
 cases (mkB n (mg n q) o).2[i]? <;> simp
theorem Qoo {v:Nat} (hv:v < n):hmA (mkT n q o) v=(homeI (mkB n (mg n q) o).1 (msk n (FG q v)):Int):=by
 show ((nI ((List.range n).map fun v=>homeI (mkB n (mg n q) o).1 (msk n (FG q v))))[v]?).getD 0=_
 unfold nI
 rw [List.getElem?_map,List.getElem?_map,List.getElem?_range hv]
 rfl
theorem Qos:∀i,i≤(mkB n (mg n q) o).1.length→ahead (mkT n q o) i=orU (mkB n (mg n q) o).1 i
 | 0,_=>rfl
 | i+1,h=>by
  simp only [ahead]
  rw [Qos i (by omega),Qfp]
  unfold orU
  rw [Q8 (by omega),List.foldl_append]
  have e:(mkB n (mg n q) o).1.getD i 0=(mkB n (mg n q) o).1[i]:=by simp [List.getD,show i < (mkB n (mg n q) o).1.length by omega]
  rw [e]; rfl
theorem Qzh:(mkT n q o).Cliques.length=(mkB n (mg n q) o).1.length:=Qv _
end
theorem Qqd {n:Nat}:∀(o:List Nat) (A:Gr),(∀v∈o,v < n)→∀s∈Q5 n A o,s≠0
 | v::o,A,hl,s,hs=>by
  simp only [Q5,List.mem_cons] at hs
  rcases hs with rfl | hs
  ·intro h
   have hb:(msk n (setP A v)).testBit v=true:=by rw [Zm,decide_eq_true (hl v (by simp))]; unfold setP; simp
   rw [h,Nat.zero_testBit] at hb; cases hb
  ·exact Qqd o _ (fun x hx=>hl x (List.mem_cons_of_mem _ hx)) s hs
structure Q1h (n:Nat) (A:Gr) (o:List Nat):Prop where
 up:∀i,0 < i→i < (mkB n A o).1.length→(mkB n A o).2.getD (i - 1) 0 < i∧Qas ((mkB n A o).1.getD i 0 &&& orU (mkB n A o).1 i) ((mkB n A o).1.getD ((mkB n A o).2.getD (i - 1) 0) 0)
 anti:∀i j,i < (mkB n A o).1.length→j < (mkB n A o).1.length→i≠j→subB ((mkB n A o).1.getD i 0) ((mkB n A o).1.getD j 0)=false
theorem Q0t {n:Nat} {A:Gr} {o:List Nat} (h1:1≤n) (h5:n≤5) (hG:Qb5 n A) (ho:Ord n o):Q1h n A o:=by
 have h:=Q0i h1 h5 hG ho
 unfold okB at h
 rw [List.all_eq_true] at h
 constructor
 ·intro i h0 hi
  have:=h i (List.mem_range.2 hi)
  rw [Bool.and_eq_true,Bool.or_eq_true,Bool.and_eq_true] at this
  rcases this.1 with e | ⟨a,b⟩
  ·have:=Nat.eq_of_beq_eq_true e; omega
  ·exact ⟨by simpa [Nat.blt_eq] using a,Xg.1 b⟩
 ·intro i j hi hj hne
  have:=h i (List.mem_range.2 hi)
  rw [Bool.and_eq_true,List.all_eq_true] at this
  have:=this.2 j (List.mem_range.2 hj)
  rw [Bool.or_eq_true] at this
  rcases this with e | e
  ·exact absurd (Nat.eq_of_beq_eq_true e) hne
  ·simpa using e
theorem Qvi {n:Nat} {A:Gr} {o:List Nat} (h1:1≤n) (ho:Ord n o):∀s∈(mkB n A o).1,s∈Q5 n A o∧s < 2^n:=fun s hs=>by
 have hm:=Qeq (((Qfv (n:=n) (A:=A) (o:=o) (by rw [ho.len]; omega)).1 s).2 hs)
 exact ⟨hm,Qdj o A s hm⟩
theorem Qxf {l:List Nat} {i:Nat} (hi:i < l.length):l.getD i 0∈l:=by
 have e:l.getD i 0=l[i]:=by simp [List.getD,hi]
 rw [e]; exact List.getElem_mem hi
theorem Qt1 {n:Nat} {q:Nat → List Nat} {o:List Nat} (h1:1≤n) (hn:n≤8) (ho:Ord n o):Yh (mkT n q o):=by
 obtain ⟨l1,l2,l3,l4⟩:=Qrq (q:=q) ho h1
 have p8:(2:Nat)^n≤256:=Nat.pow_le_pow_right (n:=2) (by omega) hn
 refine ⟨fun c hc=>?_,by omega,by omega,by omega⟩
 have hc:c∈nI (mkB n (mg n q) o).1:=hc
 unfold nI at hc
 obtain ⟨x,hx,rfl⟩:=List.mem_map.1 hc
 have:=(Qvi h1 ho x hx).2
 omega
theorem Qzl {n:Nat} {q:Nat → List Nat} {o:List Nat} (h1:1≤n) (h5:n≤5) (hq:∀v,v < n→∀p∈q v,p < n) (ho:Ord n o):V6 n q (mkT n q o):=by
 obtain ⟨l1,l2,l3,l4⟩:=Qrq (q:=q) ho h1
 have M:=Q0t h1 h5 (Qq6 (n:=n) (q:=q)) ho
 have hlen:(mkT n q o).Cliques.length=(mkB n (mg n q) o).1.length:=Qzh
 refine ⟨l2,by omega,l3,l4,fun i hi=>?_,fun v hv=>?_⟩
 ·rw [hlen] at hi
  obtain ⟨m1,m2⟩:=Qvi h1 ho _ (Qxf hi)
  refine ⟨?_,?_,fun e=>by subst e; exact Qwo,fun h0=>?_⟩
  ·rw [Qfp]; exact Qqd o _ ho.lt _ m1
  ·rw [Qfp]; exact m2
  ·obtain ⟨i,rfl⟩:∃j,i=j+1:=⟨i - 1,by omega⟩
   obtain ⟨a,b⟩:=M.up (i+1) h0 hi
   rw [Nat.add_sub_cancel] at a b
   rw [Q0d]
   refine ⟨by omega,by omega,?_⟩
   rw [Int.toNat_natCast,Qfp,Qfp,Qos _ (by omega)]
   exact b
 ·have hf:=Qvl ho hv (hq v hv)
  have h3:=Qq9 hf
  refine ⟨by rw [Qoo hv]; omega,by rw [Qoo hv,hlen]; omega,?_⟩
  rw [Qoo hv,Int.toNat_natCast,Qfp]
  have:=List.findIdx_getElem (w:=h3)
  have e:(mkB n (mg n q) o).1.getD (homeI (mkB n (mg n q) o).1 (msk n (FG q v))) 0=(mkB n (mg n q) o).1[homeI (mkB n (mg n q) o).1 (msk n (FG q v))]:=by simp [List.getD,h3]
  rw [e]; exact this
end Go.Ab
namespace Go.Ab
open Go
set_option maxRecDepth 100000
set_option maxHeartbeats 400000
section
variable {n:Nat} {q:Nat → List Nat} {t:Qc} {w:Int}
theorem Qfu (h:Yh t) (ht:V6 n q t) (hn:n≤8) {i:Nat} (hi:i < t.Cliques.length):lkI t.Cliques (i:Int)=some ((cqN t i:Nat):Int)∧cqN t i < 2^n∧cqN t i < 18446744073709551616:=⟨(Y2 h hi).1,(ht.cq i hi).2.1,(Y2 h hi).2⟩
theorem Qmq (ht:V6 n q t) {i:Nat} (hi:i < t.Cliques.length):lkI t.Up (i:Int)=some (upA t i):=by
 have:=ht.up
 unfold upA; rw [Zb (by omega),List.getElem?_eq_getElem (by omega)]; rfl
end
theorem Qs7 {p0:Qe} {p2:Int × Int × Int × Int × Int × Int × Int × Int} (h0:Yy p0)
  (h2:(Lit.int .u8 p2.1).wf=true∧(Lit.int .u8 p2.2.1).wf=true∧(Lit.int .u8 p2.2.2.1).wf=true∧(Lit.int .u8 p2.2.2.2.1).wf=true∧(Lit.int .u8 p2.2.2.2.2.1).wf=true∧(Lit.int .u8 p2.2.2.2.2.2.1).wf=true∧(Lit.int .u8 p2.2.2.2.2.2.2.1).wf=true∧(Lit.int .u8 p2.2.2.2.2.2.2.2).wf=true) :
  ∃(D:NF) (o:List Nat),VX D∧1≤D.n∧D.n≤5∧NB D.n D.node∧Jv D.n D.g D.node∧Ord D.n o∧Vi p0=some ⟨D.g,Qd D.n D.node⟩∧Jl (D.n:Int) (-1) p2=some (nI o)∧Vp ⟨D.g,Qd D.n D.node⟩ (nI o)=some (mkT D.n (Qi D.node) o,0)∧V6 D.n (Qi D.node) (mkT D.n (Qi D.node) o)∧Yh (mkT D.n (Qi D.node) o):=by
 obtain ⟨D,X,hn,_,e⟩:=Qu0 (Qyl h0)
 have hf:=Qvq X
 have hb:=Qyp (Qsg X)
 obtain ⟨o,ho,eo⟩:=Qul (n:=D.n) (by omega) (Q0c h2)
 refine ⟨D,o,X,hf.n1,hn,hb,hf,ho,e,eo,?_,Qzl hf.n1 hn (fun v hv=>(Ko (hf.node v hv).1.1).2.2) ho,Qt1 hf.n1 hf.n8 ho⟩
 rcases Quk (g:=D.g) (l:=nI o) hb (by omega) (by rw [Qv,ho.len]; omega) with ⟨hf',_⟩ | ⟨_,hp,_⟩ | ⟨_,o',e1,ho',e2⟩
 ·exact absurd hf hf'
 ·exact absurd (Qyz ho) (fun h=>hp ⟨h,by rw [Qv]; exact ho.len⟩)
 ·have:o=o':=by
   unfold nI at e1
   exact (List.map_inj_right (fun a b h=>by omega)).1 e1
  subst this; exact e2
end Go.Ab
namespace Go.Ab
open Go
set_option maxRecDepth 100000
set_option maxHeartbeats 400000
theorem Qeh {x:Int}:(x != 0)=true↔¬ (x==0)=true:=by simp
theorem Qnj {t:Qc} {a b:Nat}:∀i,Qas (a &&& ahead t i) b↔∀j,j < i→Qas (a &&& cqN t j) b:=fun i=>by
 constructor
 ·intro h j hj x hx
  rw [Nat.testBit_and,Bool.and_eq_true] at hx
  exact h x (by rw [Nat.testBit_and,hx.1,(Qcm i).2 ⟨j,hj,hx.2⟩]; rfl)
 ·intro h x hx
  rw [Nat.testBit_and,Bool.and_eq_true] at hx
  obtain ⟨j,hj,hb⟩:=(Qcm i).1 hx.2
  exact h j hj x (by rw [Nat.testBit_and,hx.1,hb]; rfl)
theorem Qpk {t:Qc} {i:Nat} (h:Yh t) (hi:i < t.Cliques.length) (h1:0≤upA t i∧upA t i < i) :
  ((∀j,j < i→Qas (cqN t i &&& cqN t j) (cqN t (upA t i).toNat))∧Qb fuel (Xz (i:Int) t (upA t i) ((cqN t i:Nat):Int)) 0=some (.inr ()))∨((¬ ∀j,j < i→Qas (cqN t i &&& cqN t j) (cqN t (upA t i).toNat))∧Qb fuel (Xz (i:Int) t (upA t i) ((cqN t i:Nat):Int)) 0=some (.inl ())):=by
 have hl:=h.2.1
 obtain ⟨f1,f2⟩:=Y2 h (show (upA t i).toNat < t.Cliques.length by omega)
 rw [show (((upA t i).toNat : Nat):Int)=upA t i by omega] at f1
 have e2:=(Y2 h hi).2
 have hr:=Yk (n:=i) (by omega) (fun j=>Qas (cqN t i &&& cqN t j) (cqN t (upA t i).toNat)) (fun i (_:Unit)=>i) (body:=Xz (i:Int) t (upA t i) ((cqN t i:Nat):Int)) (fun _=>()) (.inr ()) (.inl ())
  (fun j hj hI hg=>by
   obtain ⟨g1,g2⟩:=Y2 h (show j < t.Cliques.length by omega)
   unfold Xz
   rw [if_pos (dlt hj),g1,Option.bind_some,f1,Option.bind_some,K4 e2 g2,if_neg (by
    rw [Qeh,Ve (Nat.lt_of_le_of_lt Nat.and_le_left e2) f2,Xg]
    exact fun hh=>hh hg)])
  (fun j hj hI hg=>by
   obtain ⟨g1,g2⟩:=Y2 h (show j < t.Cliques.length by omega)
   unfold Xz
   rw [if_pos (dlt hj),g1,Option.bind_some,f1,Option.bind_some,K4 e2 g2,if_pos (by
    rw [Qeh,Ve (Nat.lt_of_le_of_lt Nat.and_le_left e2) f2,Xg]
    exact hg)])
  (fun hI=>by unfold Xz; rw [if_neg (nlt _)])
 exact hr
theorem Qo3 {n:Nat} (hn:n≤8):zv (1*2^min (Int.toNat (zv ((n:Nat):Int))) (IntKind.bits .u64))=((2^n:Nat):Int):=by
 rw [Y6 (by omega),Qsw (by omega)]
theorem Qv6 {n:Nat} {t:Qc} {g:Int} {F:Nat → Tapi_Node} (hn:n≤8) (h:Yh t) (hu:t.Up.length=t.Cliques.length) (h0:upA t 0=-1) :
  ((∀i,i < t.Cliques.length→Qko n t i)∧Qb fuel (X0 t ⟨g,Qd n F⟩) 0=some (.inr ()))∨((¬ ∀i,i < t.Cliques.length→Qko n t i)∧Qb fuel (X0 t ⟨g,Qd n F⟩) 0=some (.inl ())):=by
 have hl:=h.2.1
 have hlen:(Qd n F).length=n:=Z4
 have eu:∀i,i < t.Cliques.length→lkI t.Up (i:Int)=some (upA t i):=fun i hi=>by unfold upA; rw [Zb (by omega),List.getElem?_eq_getElem (by omega)]; rfl
 have ew:(0:Int)≤zv ((n:Nat):Int):=by rw [Y6 (by omega)]; omega
 have h1r:∀(s a:Int),Qb fuel (Qdu (0:Int) t a) 0=some (.inr ()):=fun s a=>rfl
 have hr:=Yk (n:=t.Cliques.length) (by omega) (Qko n t) (fun i (_:Unit)=>i) (body:=X0 t ⟨g,Qd n F⟩) (fun _=>()) (.inr ()) (.inl ())
  (fun i hi hI hg=>by
   obtain ⟨e1,e2⟩:=Y2 h hi
   obtain ⟨k1,k2,k3,k4⟩:=hg
   unfold X0
   dsimp only
   rw [hlen,Qo3 hn,if_pos (dlt hi),e1,Option.bind_some,if_neg (by simp; exact k1),if_pos ew,if_neg (by rw [decide_eq_true_eq]; omega)]
   by_cases c:i=0
   ·subst c
    rw [if_neg (by decide)]
    rw [show ((0:Nat):Int)=0 from rfl,h1r 0]; rfl
   ·obtain ⟨u1,u2,u3⟩:=k4 (by omega)
    rw [if_pos (by simp; omega),eu i hi,Option.bind_some,if_neg (by simp; omega),if_neg (by simp; omega)]
    rcases Qpk h hi ⟨u1,u2⟩ with ⟨_,e⟩ | ⟨no,_⟩
    ·rw [e]; rfl
    ·exact absurd ((Qnj i).1 u3) no)
  (fun i hi hI hg=>by
   obtain ⟨e1,e2⟩:=Y2 h hi
   unfold X0
   dsimp only
   rw [hlen,Qo3 hn,if_pos (dlt hi),e1,Option.bind_some]
   by_cases c1:cqN t i=0
   ·rw [if_pos (by simp; exact c1)]
   rw [if_neg (by simp; exact c1),if_pos ew]
   by_cases c2:cqN t i < 2^n
   ·rw [if_neg (by rw [decide_eq_true_eq]; omega)]
    by_cases c:i=0
    ·subst c
     exact absurd ⟨c1,c2,fun _=>h0,fun h=>by omega⟩ hg
    ·rw [if_pos (by simp; omega),eu i hi,Option.bind_some]
     by_cases c3:upA t i < 0
     ·rw [if_pos (by simpa using c3)]
     rw [if_neg (by simpa using c3)]
     by_cases c4:upA t i≥(i:Int)
     ·rw [if_pos (by simpa using c4)]
     rw [if_neg (by simpa using c4)]
     rcases Qpk h hi ⟨by omega,by omega⟩ with ⟨hs,_⟩ | ⟨_,e⟩
     ·exact absurd ⟨c1,c2,fun h=>absurd h c,fun _=>⟨by omega,by omega,(Qnj i).2 hs⟩⟩ hg
     ·rw [e]; rfl
   ·rw [if_pos (by rw [decide_eq_true_eq]; omega)])
  (fun hI=>by unfold X0; dsimp only; rw [if_neg (nlt _)])
 exact hr
theorem Qwr {n:Nat} {t:Qc} {g:Int} {F:Nat → Tapi_Node} (hf:Jv n g F) (h:Yh t) (hh:t.Home.length=n) :
  ((∀v,v < n→Qj7 n (Qi F) t v)∧Qb fuel (X1 ⟨g,Qd n F⟩ t) 0=some (.inr ()))∨((¬ ∀v,v < n→Qj7 n (Qi F) t v)∧Qb fuel (X1 ⟨g,Qd n F⟩ t) 0=some (.inl ())):=by
 have hn:=hf.n8
 have p8:(2:Nat)^n≤256:=Nat.pow_le_pow_right (n:=2) (by omega) hn
 have hlen:(Qd n F).length=n:=Z4
 have eh:∀v,v < n→lkI t.Home (v:Int)=some (hmA t v):=fun v hv=>by unfold hmA; rw [Zb (by omega),List.getElem?_eq_getElem (by omega)]; rfl
 have hfl:∀v,msk n (FG (Qi F) v) < 18446744073709551616:=fun v=>by have:=Xo n (FG (Qi F) v); omega
 have hr:=Yk (n:=n) (by omega) (Qj7 n (Qi F) t) (fun i (_:Unit)=>i) (body:=X1 ⟨g,Qd n F⟩ t) (fun _=>()) (.inr ()) (.inl ())
  (fun v hv hI hg=>by
   obtain ⟨g1,g2,g3⟩:=hg
   obtain ⟨f1,f2⟩:=Y2 h (show (hmA t v).toNat < t.Cliques.length by omega)
   rw [show (((hmA t v).toNat : Nat):Int)=hmA t v by omega] at f1
   unfold X1
   dsimp only
   rw [hlen,if_pos (dlt hv),eh v hv,Option.bind_some,if_neg (by simp; exact g1),if_neg (by simp; exact g2),Ql7 hf hv,Option.bind_some,f1,Option.bind_some,if_neg (by
    rw [Qeh,Ve (hfl v) f2]
    exact fun x=>x g3)])
  (fun v hv hI hg=>by
   unfold X1
   dsimp only
   rw [hlen,if_pos (dlt hv),eh v hv,Option.bind_some]
   by_cases c1:hmA t v < 0
   ·rw [if_pos (by simpa using c1)]
   rw [if_neg (by simpa using c1)]
   by_cases c2:hmA t v≥(t.Cliques.length:Int)
   ·rw [if_pos (by simpa using c2)]
   rw [if_neg (by simpa using c2)]
   obtain ⟨f1,f2⟩:=Y2 h (show (hmA t v).toNat < t.Cliques.length by omega)
   rw [show (((hmA t v).toNat : Nat):Int)=hmA t v by omega] at f1
   rw [Ql7 hf hv,Option.bind_some,f1,Option.bind_some,if_pos (by
    rw [Qeh,Ve (hfl v) f2]
    exact fun x=>hg ⟨by omega,by omega,x⟩)])
  (fun hI=>by unfold X1; dsimp only; rw [hlen,if_neg (nlt n)])
 exact hr
theorem Qs3 {n:Nat} {g:Int} {F:Nat → Tapi_Node} {t:Qc} (hf:Jv n g F) (h:Yh t) :
  (V6 n (Qi F) t∧V3 ⟨g,Qd n F⟩ t=some true)∨(¬ V6 n (Qi F) t∧V3 ⟨g,Qd n F⟩ t=some false):=by
 have hlen:(Qd n F).length=n:=Z4
 unfold V3
 dsimp only
 rw [hlen]
 by_cases c1:t.Cliques.length < 1
 ·rw [if_pos (by simp; omega)]; exact .inr ⟨fun x=>by have:=x.c1; omega,rfl⟩
 rw [if_neg (by simp; omega)]
 by_cases c2:t.Cliques.length > 8
 ·rw [if_pos (by simp; omega)]; exact .inr ⟨fun x=>by have:=x.c8; omega,rfl⟩
 rw [if_neg (by simp; omega)]
 by_cases c3:t.Up.length=t.Cliques.length
 ·rw [if_neg (by simp; omega)]
  by_cases c4:t.Home.length=n
  ·rw [if_neg (by simp; omega)]
   have e0:lkI t.Up 0=some (upA t 0):=by
    unfold upA
    have:=Zb (l:=t.Up) (k:=0) (by omega)
    rw [show ((0:Nat):Int)=0 from rfl] at this
    rw [this,List.getElem?_eq_getElem (by omega)]; rfl
   rw [e0,Option.bind_some]
   by_cases c5:upA t 0=-1
   ·rw [if_neg (by simp [c5])]
    rcases Qv6 (g:=g) (F:=F) hf.n8 h c3 c5 with ⟨k1,e1⟩ | ⟨k1,e1⟩
    ·rw [e1,Option.bind_some]
     dsimp only
     rcases Qwr hf h c4 with ⟨k2,e2⟩ | ⟨k2,e2⟩
     ·rw [e2]; exact .inl ⟨⟨by omega,by omega,c3,c4,k1,k2⟩,rfl⟩
     ·rw [e2]; exact .inr ⟨fun x=>k2 x.hm,rfl⟩
    ·rw [e1]; exact .inr ⟨fun x=>k1 x.cq,rfl⟩
   ·rw [if_pos (by simpa using c5)]; exact .inr ⟨fun x=>c5 ((x.cq 0 (by omega)).2.2.1 rfl),rfl⟩
  ·rw [if_pos (by simp; omega)]; exact .inr ⟨fun x=>c4 x.home,rfl⟩
 ·rw [if_pos (by simp; omega)]; exact .inr ⟨fun x=>c3 x.up,rfl⟩
theorem Qz5 {n:Nat} {g:Int} {F:Nat → Tapi_Node} {t:Qc} {i:Nat} (hb:NB n F) (hf:Jv n g F) (h:Yh t) (ht:V6 n (Qi F) t) (h0:0 < i) (hi:i < t.Cliques.length) :
  Vu ⟨g,Qd n F⟩ t (i:Int)=some (((cqN t i &&& cqN t (upA t i).toNat : Nat):Int),0):=by
 have ec:Zx ⟨g,Qd n F⟩ t=some 0:=by
  rcases Qmc (g:=g) hb (by have:=hf.n8; omega) h with ⟨hf',_⟩ | ⟨_,ht',_⟩ | ⟨_,_,e⟩
  ·exact absurd hf hf'
  ·exact absurd ht ht'
  ·exact e
 obtain ⟨u1,u2,u3⟩:=(ht.cq i hi).2.2.2 h0
 obtain ⟨e1,_,e2⟩:=Qfu h ht hf.n8 hi
 obtain ⟨f1,_,f2⟩:=Qfu h ht hf.n8 (show (upA t i).toNat < t.Cliques.length by omega)
 rw [show (((upA t i).toNat : Nat):Int)=upA t i by omega] at f1
 unfold Vu
 rw [ec,Option.bind_some,if_neg (by decide),if_neg (by simp; omega),if_neg (by simp; omega),e1,Option.bind_some,Qmq ht hi,Option.bind_some,f1,Option.bind_some,K4 e2 f2]
end Go.Ab
namespace Go.Ab
open Go
set_option maxRecDepth 100000
set_option maxHeartbeats 400000
def blw (t:Qc) (i:Nat):Nat → Nat → Bool
 | 0=>fun _=>false
 | k+1=>fun j=>if j=k then decide (k=i) || (decide (i < k) && blw t i k (upA t k).toNat) else blw t i k j
theorem Qbc {t:Qc} {i j:Nat}:∀k,j < k→blw t i k j=blw t i (j+1) j
 | k+1,h=>by
  by_cases e:j=k
  ·subst e; rfl
  ·rw [←Qbc k (by omega)]
   simp only [blw,if_neg e]
def hereN (t:Qc) (i:Nat) (b:Bool):Nat → Nat
 | 0=>0
 | k+1=>if blw t i (k+1) k=b then hereN t i b k ||| cqN t k else hereN t i b k
theorem Qje {t:Qc} {i n:Nat} {b:Bool}:∀k,(∀j,j < k→cqN t j < 2^n)→hereN t i b k < 2^n
 | 0,_=>Nat.two_pow_pos n
 | k+1,h=>by
  have ih:=Qje (t:=t) (i:=i) (b:=b) k fun j hj=>h j (by omega)
  simp only [hereN]
  split
  ·exact Nat.or_lt_two_pow ih (h k (by omega))
  ·exact ih
theorem Qed {t:Qc} {i x:Nat} {b:Bool}:∀k,(hereN t i b k).testBit x=true↔∃j,j < k∧blw t i k j=b∧(cqN t j).testBit x=true
 | 0=>by simp [hereN]
 | k+1=>by
  have ih:=Qed (t:=t) (i:=i) (x:=x) (b:=b) k
  have hk:∀j,j < k→blw t i (k+1) j=blw t i k j:=fun j hj=>by rw [Qbc (k+1) (by omega),Qbc k hj]
  have key:(hereN t i b (k+1)).testBit x=true↔(hereN t i b k).testBit x=true∨(blw t i (k+1) k=b∧(cqN t k).testBit x=true):=by
   simp only [hereN]
   split
   ·rename_i c; rw [Nat.testBit_or,Bool.or_eq_true]; simp [c]
   ·rename_i c; simp [c]
  rw [key,ih]
  constructor
  ·rintro (⟨j,h1,h2,h3⟩ | ⟨h1,h2⟩)
   ·exact ⟨j,by omega,by rw [hk j h1]; exact h2,h3⟩
   ·exact ⟨k,by omega,h1,h2⟩
  ·rintro ⟨j,h1,h2,h3⟩
   by_cases e:j=k
   ·subst e; exact .inr ⟨h2,h3⟩
   ·exact .inl ⟨j,by omega,by rw [←hk j (by omega)]; exact h2,h3⟩
section
variable {n:Nat} {q:Nat → List Nat} {t:Qc} {w:Int}
theorem Qsq (ht:V6 n q t) {i x:Nat} (h0:0 < i) (hi:i < t.Cliques.length):∀(m a b:Nat),a+b≤m→a < t.Cliques.length→b < t.Cliques.length→blw t i t.Cliques.length a=true→blw t i t.Cliques.length b=false→(cqN t a).testBit x=true→(cqN t b).testBit x=true→(cqN t i).testBit x=true∧(cqN t (upA t i).toNat).testBit x=true:=by
 have hB:∀k,k < t.Cliques.length→0 < k→blw t i t.Cliques.length k=(decide (k=i) || (decide (i < k) && blw t i t.Cliques.length (upA t k).toNat)):=fun k hk h1=>by
  obtain ⟨u1,u2,_⟩:=(ht.cq k hk).2.2.2 h1
  rw [Qbc _ hk,Qbc (j:=(upA t k).toNat) t.Cliques.length (by omega),←Qbc (j:=(upA t k).toNat) k (by omega)]
  exact if_pos rfl
 have hB0:blw t i t.Cliques.length 0=false:=by
  rw [Qbc _ (by omega)]
  simp [blw]; omega
 intro m
 induction m with
 | zero =>
  intro a b hm ha hb ga gb xa xb
  have:a=b:=by omega
  subst this
  rw [ga] at gb; cases gb
 | succ m ih =>
  intro a b hm ha hb ga gb xa xb
  have ha0:0 < a:=Nat.pos_of_ne_zero fun e=>by subst e; rw [hB0] at ga; cases ga
  have hne:a≠b:=fun e=>by subst e; rw [ga] at gb; cases gb
  have ga':=ga
  rw [hB a ha ha0] at ga'
  by_cases c:b < a
  ·obtain ⟨u1,u2,u3⟩:=(ht.cq a ha).2.2.2 ha0
   have hu:=u3 x (by rw [Nat.testBit_and,xa,(Qcm a).2 ⟨b,c,xb⟩]; rfl)
   by_cases e:a=i
   ·subst e; exact ⟨xa,hu⟩
   ·simp only [e,decide_false,Bool.false_or,Bool.and_eq_true,decide_eq_true_eq] at ga'
    exact ih _ b (by omega) (by omega) hb ga'.2 gb hu xb
  ·have hb0:0 < b:=by omega
   have hai:i≤a:=by
    simp only [Bool.or_eq_true,decide_eq_true_eq,Bool.and_eq_true] at ga'
    rcases ga' with h | h <;> omega
   obtain ⟨u1,u2,u3⟩:=(ht.cq b hb).2.2.2 hb0
   have hu:=u3 x (by rw [Nat.testBit_and,xb,(Qcm b).2 ⟨a,by omega,xa⟩]; rfl)
   have gb':=gb
   rw [hB b hb hb0] at gb'
   have gu:blw t i t.Cliques.length (upA t b).toNat = false:=by
    have:i < b:=by omega
    simp only [this,decide_true,Bool.true_and,Bool.or_eq_false_iff] at gb'
    exact gb'.2
   exact ih a _ (by omega) ha (by omega) ga gu xa hu
theorem Qxx (ht:V6 n q t) {i:Nat} (h0:0 < i) (hi:i < t.Cliques.length):hereN t i true t.Cliques.length &&& hereN t i false t.Cliques.length=cqN t i &&& cqN t (upA t i).toNat := Nat.eq_of_testBit_eq fun x=>by
 obtain ⟨u1,u2,_⟩:=(ht.cq i hi).2.2.2 h0
 rw [Bool.eq_iff_iff,Nat.testBit_and,Nat.testBit_and,Bool.and_eq_true,Bool.and_eq_true,Qed,Qed]
 constructor
 ·rintro ⟨⟨a,ha,ga,xa⟩,⟨b,hb,gb,xb⟩⟩
  exact Qsq ht h0 hi _ a b (Nat.le_refl _) ha hb ga gb xa xb
 ·rintro ⟨h1,h2⟩
  refine ⟨⟨i,hi,?_,h1⟩,⟨(upA t i).toNat,by omega,?_,h2⟩⟩
  ·rw [Qbc _ hi]; simp [blw]
  ·rw [Qbc _ (by omega)]
   have e1:¬ (upA t i).toNat = i:=by omega
   have e2:¬ i < (upA t i).toNat := by omega
   simp only [blw,if_true,e1,e2,decide_false,Bool.false_and,Bool.or_self]
theorem Qx2 {m j:Nat} {f g:Nat → Bool} {b:Bool} (hj:g j=b) (h:∀i,i < m→i≠j→g i=f i):((List.range m).map f).set j b=(List.range m).map g:=by
 apply List.ext_getElem?
 intro i
 rw [List.getElem?_set,List.getElem?_map,List.getElem?_map,List.length_map,List.length_range]
 by_cases e:j=i
 ·subst e
  by_cases c:j < m
  ·rw [if_pos rfl,if_pos c,List.getElem?_range c]; simp [hj]
  ·rw [if_pos rfl,if_neg c,List.getElem?_eq_none (by simp; omega)]; rfl
 ·rw [if_neg e]
  by_cases c:i < m
  ·rw [List.getElem?_range c]; simp [h i c (fun x=>e x.symm)]
  ·rw [List.getElem?_eq_none (by simp; omega)]; rfl
theorem Qu1 (h:Yh t) (ht:V6 n q t) (hn:n≤8) {i:Nat} (h0:0 < i) (hi:i < t.Cliques.length) :
  Qb fuel (X5 (t,w) true (i:Int) false) (0,0,0,(List.replicate (Int.toNat (t.Cliques.length:Int)) (false:Bool)))=some ((hereN t i true t.Cliques.length:Int),(hereN t i false t.Cliques.length:Int)):=by
 have hl:=h.2.1
 have hw:∀b k,k≤t.Cliques.length→hereN t i b k < 18446744073709551616:=fun b k hk=>by
  have h1:=Qje (t:=t) (i:=i) (n:=n) (b:=b) k fun j hj=>(ht.cq j (by omega)).2.1
  have p8:(2:Nat)^n≤256:=Nat.pow_le_pow_right (n:=2) (by omega) hn
  omega
 have hr:=Vs (n:=t.Cliques.length) (k0:=0) (by omega) (by omega) (fun j (x:(Int × Int) × List Bool)=>(x.1.1,x.1.2,j,x.2)) (body:=X5 (t,w) true (i:Int) false) (fun k=>(((hereN t i true k:Int),(hereN t i false k:Int)),(List.range t.Cliques.length).map (blw t i k))) ((hereN t i true t.Cliques.length:Int),(hereN t i false t.Cliques.length:Int))
  (fun k _ hk=>by
   obtain ⟨e1,_,e2⟩:=Qfu h ht hn hk
   have lkb:∀j,j < t.Cliques.length→lkI ((List.range t.Cliques.length).map (blw t i k)) (j:Int)=some (blw t i k j):=fun j hj=>by
    rw [Zb (by rw [List.length_map,List.length_range]; exact hj)]
    simp
   have set_b:((List.range t.Cliques.length).map (blw t i k)).set (Int.toNat (k:Int)) (blw t i (k+1) k)=(List.range t.Cliques.length).map (blw t i (k+1)):=by
    rw [Int.toNat_natCast]
    exact Qx2 rfl fun j _ hne=>by simp only [blw,if_neg hne]
   unfold X5
   dsimp only
   rw [if_pos (dlt hk),e1,Option.bind_some]
   by_cases c:k=i
   ·subst c
    have hb:blw t k (k+1) k=true:=by simp [blw]
    rw [hb] at set_b
    rw [if_pos (by simp),lkb k hk,Option.bind_some,Qlw (hw true k (by omega)) e2,set_b]
    simp only [hereN,hb,if_true]
    rfl
   ·rw [if_neg (by simp; omega)]
    by_cases c2:i < k
    ·obtain ⟨u1,u2,_⟩:=(ht.cq k hk).2.2.2 (by omega)
     have hb:blw t i (k+1) k=blw t i k (upA t k).toNat := by simp [blw,c,c2]
     have lku:=lkb (upA t k).toNat (by omega)
     rw [show (((upA t k).toNat : Nat):Int)=upA t k by omega] at lku
     rw [if_pos (by simp; omega),Qmq ht hk,Option.bind_some,lku,Option.bind_some,lkb k hk,Option.bind_some,←hb]
     cases hv:blw t i (k+1) k with
     | true =>
      rw [hv] at set_b
      rw [if_pos rfl,Qlw (hw true k (by omega)) e2,set_b]
      simp only [hereN,hv,if_true]
      rfl
     | false =>
      rw [hv] at set_b
      rw [if_neg (by simp),Qlw (hw false k (by omega)) e2,set_b]
      simp only [hereN,hv,if_true]
      rfl
    ·have hb:blw t i (k+1) k=false:=by simp [blw,c,c2]
     rw [hb] at set_b
     rw [if_neg (by simp; omega),lkb k hk,Option.bind_some,Qlw (hw false k (by omega)) e2,set_b]
     simp only [hereN,hb,if_true]
     rfl)
  (by unfold X5; dsimp only; rw [if_neg (nlt _)])
 have e0:(List.range t.Cliques.length).map (blw t i 0)=List.replicate (Int.toNat (t.Cliques.length:Int)) (false:Bool):=by
  rw [Int.toNat_natCast]
  apply List.ext_getElem?
  intro j
  rw [List.getElem?_map,List.getElem?_replicate]
  by_cases c:j < t.Cliques.length
  ·rw [List.getElem?_range c,if_pos c]; rfl
  ·rw [List.getElem?_eq_none (by simp; omega),if_neg c]; rfl
 rw [e0] at hr
 exact hr
theorem Qt5 (h:Yh t) (ht:V6 n q t) (hn:n≤8) {i:Nat} (h0:0 < i) (hi:i < t.Cliques.length) {e:Int} :
  Qb fuel (X6 (gl n (mg n q),w) true ((hereN t i true t.Cliques.length:Int),(hereN t i false t.Cliques.length:Int)) (((cqN t i &&& cqN t (upA t i).toNat : Nat):Int),e)) 0=some (.inr ()):=by
 have p8:(2:Nat)^n≤256:=Nat.pow_le_pow_right (n:=2) (by omega) hn
 have hH:∀b,hereN t i b t.Cliques.length < 2^n:=fun b=>Qje (t:=t) (i:=i) (n:=n) (b:=b) _ fun j hj=>(ht.cq j (by omega)).2.1
 have hs:=Qxx ht h0 hi
 have hsl:cqN t i &&& cqN t (upA t i).toNat < 18446744073709551616:=by
  have:=(ht.cq i hi).2.1
  have:=Nat.and_le_left (n:=cqN t i) (m:=cqN t (upA t i).toNat); omega
 have hr:=Vs (n:=n) (k0:=0) (by omega) (by omega) (fun i (_:Unit)=>i) (body:=X6 (gl n (mg n q),w) true ((hereN t i true t.Cliques.length:Int),(hereN t i false t.Cliques.length:Int)) (((cqN t i &&& cqN t (upA t i).toNat : Nat):Int),e)) (fun _=>()) (.inr ())
  (fun v _ hv=>by
   have hml:=Xo n (mg n q v)
   have hh:=hH true
   have hf:=hH false
   unfold X6
   dsimp only
   rw [Zz,if_pos (dlt hv),Qcd hv,Option.bind_some,if_pos (X3 v)]
   rw [Qou (n:=n) (by omega) hh hsl (fun _ _=>rfl) (fun _ _=>rfl),Qgk (by have:=Xo n (fun i_1=>(hereN t i true t.Cliques.length).testBit i_1 && !(cqN t i &&& cqN t (upA t i).toNat).testBit i_1); omega) (by omega),Zm]
   by_cases c:((hereN t i true t.Cliques.length).testBit v && !(cqN t i &&& cqN t (upA t i).toNat).testBit v)=true
   ·rw [c,if_pos (by simp [hv]),K4 (by omega) (by omega),if_neg (by
     rw [Qeh,Ve (by have:=Nat.and_le_left (n:=msk n (mg n q v)) (m:=hereN t i false t.Cliques.length); omega) hsl,Xg]
     refine fun no=>no fun y hy=>?_
     rw [Nat.testBit_and,Bool.and_eq_true,Zm,Bool.and_eq_true] at hy
     rw [Bool.and_eq_true,Bool.not_eq_true'] at c
     obtain ⟨⟨hyn,hm⟩,hyt⟩:=hy
     unfold mg mgk at hm
     simp only [Bool.and_eq_true,List.any_eq_true] at hm
     obtain ⟨_,_,f,hfr,fv,fy⟩:=hm
     have hfr:=List.mem_range.1 hfr
     have hyn:y < n:=by simpa using hyn
     obtain ⟨k1,k2,k3⟩:=ht.hm f hfr
     have hv':=Xg.1 k3 v (by rw [Zm]; simp [hv,fv])
     have hy':=Xg.1 k3 y (by rw [Zm]; simp [hyn,fy])
     cases hb:blw t i t.Cliques.length (hmA t f).toNat with
     | true =>
      rw [←hs,Nat.testBit_and,hyt,(Qed _).2 ⟨_,by omega,hb,hy'⟩]; rfl
     | false =>
      have:(cqN t i &&& cqN t (upA t i).toNat).testBit v=true:=by
       rw [←hs,Nat.testBit_and,c.1,(Qed _).2 ⟨_,by omega,hb,hv'⟩]; rfl
      rw [this] at c; cases c.2)]
   ·simp only [Bool.not_eq_true] at c
    rw [c,if_neg (by simp)])
  (by unfold X6; dsimp only; rw [Zz,if_neg (nlt _)])
 rw [show ((0:Nat):Int)=0 from rfl] at hr
 exact hr
end
theorem Qvf {n:Nat} {t:Qc} {w w' g:Int} {F:Nat → Tapi_Node} (hb:NB n F) (hf:Jv n g F) (h:Yh t) (ht:V6 n (Qi F) t) :
  Qb fuel (X2 (t,w) true ⟨g,Qd n F⟩ false (gl n (mg n (Qi F)),w')) 1=some (.inr ()):=by
 have hl:=h.2.1
 have hr:=Vs (n:=t.Cliques.length) (k0:=1) (by have:=ht.c1; omega) (by omega) (fun i (_:Unit)=>i) (body:=X2 (t,w) true ⟨g,Qd n F⟩ false (gl n (mg n (Qi F)),w')) (fun _=>()) (.inr ())
  (fun i h1 hi=>by
   obtain ⟨u1,u2,u3⟩:=(ht.cq i hi).2.2.2 h1
   obtain ⟨e1,_,e2⟩:=Qfu h ht hf.n8 hi
   obtain ⟨f1,_,f2⟩:=Qfu h ht hf.n8 (show (upA t i).toNat < t.Cliques.length by omega)
   rw [show (((upA t i).toNat : Nat):Int)=upA t i by omega] at f1
   have p8:(2:Nat)^n≤256:=Nat.pow_le_pow_right (n:=2) (by omega) hf.n8
   have hH:∀b,hereN t i b t.Cliques.length < 18446744073709551616:=fun b=>by
    have:=Qje (t:=t) (i:=i) (n:=n) (b:=b) _ fun j hj=>(ht.cq j (show j < t.Cliques.length by omega)).2.1
    omega
   unfold X2
   dsimp only
   rw [if_pos (dlt hi),Qz5 hb hf h ht h1 hi,Option.bind_some,if_neg (by simp),e1,Option.bind_some,Qmq ht hi,Option.bind_some,f1,Option.bind_some,K4 e2 f2,if_neg (by simp),if_pos (by omega),Qu1 h ht hf.n8 h1 hi,Option.bind_some]
   dsimp only
   rw [K4 (hH true) (hH false),Qxx ht h1 hi,if_neg (by simp),Qt5 h ht hf.n8 h1 hi]
   rfl)
  (by unfold X2; dsimp only; rw [if_neg (nlt _)])
 rw [show ((1:Nat):Int)=1 from rfl] at hr
 exact hr
theorem splits_true (p0:Qe) (p1:Int × Int × Int × Int × Int × Int × Int × Int) (h0:Yy p0)
  (h1:(Lit.int .u8 p1.1).wf=true∧(Lit.int .u8 p1.2.1).wf=true∧(Lit.int .u8 p1.2.2.1).wf=true∧(Lit.int .u8 p1.2.2.2.1).wf=true∧(Lit.int .u8 p1.2.2.2.2.1).wf=true∧(Lit.int .u8 p1.2.2.2.2.2.1).wf=true∧(Lit.int .u8 p1.2.2.2.2.2.2.1).wf=true∧(Lit.int .u8 p1.2.2.2.2.2.2.2).wf=true):Kd p0 p1=some true:=by
 obtain ⟨D,o,X,n1,n5,hb,hf,ho,e1,e2,e3,ht,hs⟩:=Qs7 h0 h1
 have hlen:(Qd D.n D.node).length=D.n:=Z4
 have ec:Zx ⟨D.g,Qd D.n D.node⟩ (mkT D.n (Qi D.node) o)=some 0:=by
  rcases Qmc (g:=D.g) hb (by omega) hs with ⟨hf',_⟩ | ⟨_,ht',_⟩ | ⟨_,_,e⟩
  ·exact absurd hf hf'
  ·exact absurd ht ht'
  ·exact e
 have er:V3 ⟨D.g,Qd D.n D.node⟩ (mkT D.n (Qi D.node) o)=some true:=by
  rcases Qs3 hf hs with ⟨_,e⟩ | ⟨no,_⟩
  ·exact e
  ·exact absurd ht no
 unfold Kd
 rw [Qsp,Option.bind_some,if_neg (by decide),e1,Option.bind_some]
 dsimp only
 rw [hlen,show (p1.1,p1.2.1,p1.2.2.1,p1.2.2.2.1,p1.2.2.2.2.1,p1.2.2.2.2.2.1,p1.2.2.2.2.2.2.1,p1.2.2.2.2.2.2.2)=p1 from rfl,e2,Option.bind_some,e3,Option.bind_some,Qme hb hf,Option.bind_some]
 dsimp only
 rw [if_neg (by decide),if_neg (by decide),ec,Option.bind_some,if_neg (by decide),er,Option.bind_some,if_neg (by decide),Zz,if_neg (by simp),Qvf hb hf hs ht]
 rfl
#print axioms splits_true
end Go.Ab
namespace Go.Ab
open Go Go.Proofs Go.Proofs.YtcbhkobklhkiiaaDoor
open Go.ChangeShapes Go.WideShapes Go.ChangeAt Go.RowKit
abbrev dr_laid:List (String × DataW Unit):=[("math/bits.deBruijn32tab",Rows.laid_math_bits_deBruijn32tab),("math/bits.deBruijn64tab",Rows.laid_math_bits_deBruijn64tab)]
theorem dr_own:ownKnob Tryd.prog.godebug=none:=by kernel_rfl
theorem Qxj:Tryd.prog.globalNamed "math/bits.deBruijn32tab" = some 0:=by kernel_rfl
theorem Qxr:Tryd.prog.globalNamed "math/bits.deBruijn64tab" = some 1:=by kernel_rfl
theorem dr_met (os:Os) (args:Array Value):laidMetH Tryd.prog dr_laid ((World.doorLaid Tryd.prog 19 os).forCall (fun _ _=>0) ⟨#[],args,[]⟩).memory :=
 laidMetH_of_parts3 (fuel:=8) (laidMet_of_run' 8 (by kernel_rfl) (by kernel_rfl)) (by kernel_rfl) (by kernel_rfl)
theorem dr_glob {W:World} (h:laidMetH Tryd.prog dr_laid W):Go.Ab.GlobIn W:=by
 rw [MakeChecks.laidMetH_plain _ _ _ (by kernel_rfl)] at h
 have h0:=Lib.tabIs_of_head (k:=.u8) (zs:=Go.Ab.tab0) (t:=158) (e:=5) (n:=32) Qxj (by kernel_rfl) (by kernel_rfl) (by kernel_rfl) (by kernel_rfl) (by kernel_rfl) h
 have h1:=Lib.tabIs_of_head (k:=.u8) (zs:=Go.Ab.tab1) (t:=159) (e:=5) (n:=64) Qxr (by kernel_rfl) (by kernel_rfl) (by kernel_rfl) (by kernel_rfl) (by kernel_rfl) h.tail
 intro g xs hg i v hv
 match g,hg with
 | 0,hg =>
  cases hg
  have hi:i < Go.Ab.tab0.length:=by have:=(List.getElem?_eq_some_iff.1 hv).1; simpa using this
  have:=h0.cell Qxj i hi
  rw [this]
  rw [List.getElem?_map] at hv
  simpa [List.getD,hi] using hv
 | 1,hg =>
  cases hg
  have hi:i < Go.Ab.tab1.length:=by have:=(List.getElem?_eq_some_iff.1 hv).1; simpa using this
  have:=h1.cell Qxr i hi
  rw [this]
  rw [List.getElem?_map] at hv
  simpa [List.getD,hi] using hv
 | n+2,hg=>cases hg
end Go.Ab
