/- What functions compute. No conditions. -/
import Derived.Test.YtcbhkobklhkiiaaDoorW13
import Derived.Test.YtcbhkobklhkiiaaDoorEng7
import Derived.Test.YtcbhkobklhkiiaaDoorW9
import Derived.Test.YtcbhkobklhkiiaaDoorW12
import Derived.KernelRfl
import Derived.Test.YtcbhkobklhkiiaaDoorRows
import Derived.Test.YtcbhkobklhkiiaaDoorEng6
import Derived.WalkKit
import Derived.ProofKit
import Derived.LaidMore
import Derived.Lib.LaidTab
import Derived.Stop.LaidErr
import Derived.Stop.Joined
import Derived.OpenShut
set_option linter.all false
namespace Go.Ab
open Go
set_option maxRecDepth 100000
set_option maxHeartbeats 400000
theorem Qzb (p0:Qg):Zw p0=(Ka p0).bind fun x=>if x.2=0 then (Qb fuel (X0 x.1.sets) (0,x.1.sets)).bind fun y=>some (y,0) else some ([],50):=by
 unfold Zw Ka
 have e0:@Qa4=@X8:=rfl
 have e2:@Qay=@X5:=rfl
 rw [e0,e2]
 have h50:¬ ((50:Int)=0):=by decide
 by_cases c1:decide (p0.Grain < 1)=true
 ·rw [if_pos c1,if_pos c1]; rfl
 rw [if_neg c1,if_neg c1]
 by_cases c2:decide (p0.Grain > 60)=true
 ·rw [if_pos c2,if_pos c2]; rfl
 rw [if_neg c2,if_neg c2]
 by_cases c3:decide ((p0.Nodes.length:Int) < 1)=true
 ·rw [if_pos c3,if_pos c3]; rfl
 rw [if_neg c3,if_neg c3]
 by_cases c4:decide ((p0.Nodes.length:Int) > 8)=true
 ·rw [if_pos c4,if_pos c4]; rfl
 rw [if_neg c4,if_neg c4]
 by_cases c5:0≤(p0.Nodes.length:Int)∧(p0.Nodes.length:Int)≤(p0.Nodes.length:Int)∧(p0.Nodes.length:Int)*8≤140737488355328
 ·rw [if_pos c5,if_pos c5,if_pos c5,if_pos c5]
  cases Qb fuel (X8 p0) (1,0,List.replicate (Int.toNat (p0.Nodes.length:Int)) (0:Int)) with
  | none=>rfl
  | some x =>
   cases x with
   | inl u=>rfl
   | inr x23 =>
    simp only [Option.bind_some]
    by_cases c6:decide (x23.1 > 1024)=true
    ·rw [if_pos c6,if_pos c6]; rfl
    rw [if_neg c6,if_neg c6]
    cases Qb fuel (X5 p0 x23) (0,List.replicate (Int.toNat (p0.Nodes.length:Int)) (0:Int)) with
    | none=>rfl
    | some y =>
     cases y with
     | inl u=>rfl
     | inr x54 =>
      simp only [Option.bind_some]
      cases X3 x54 with
      | none=>rfl
      | some z =>
       simp only [Option.bind_some]
       by_cases c7:(!z.2)=true
       ·rw [if_pos c7,if_pos c7]; rfl
       ·rw [if_neg c7,if_neg c7]; rfl
 ·rw [if_neg c5,if_neg c5]; rfl
theorem Qrd {n:Nat} {g:Int} {F:Nat → Tapi_Node} (hb:NB n F) (hbig:n≤1000000) :
  (K4 n g F∧Zw ⟨g,Qd n F⟩=some (gl n (FG (Qi F)),0))∨(¬ K4 n g F∧Zw ⟨g,Qd n F⟩=some ([],50)):=by
 rw [Qzb]
 rcases Qpo (g:=g) hb hbig with ⟨hf,o,e⟩ | ⟨hf,e⟩
 ·left
  refine ⟨hf,?_⟩
  have hn:=hf.n8
  have hpar:=fun v hv=>(Qbu (hf.node v hv).1.1).2.2
  rw [e,Option.bind_some]
  dsimp only
  rw [if_pos rfl,Qt8 hn hpar]
  have h:=Vh (n:=n) (k0:=0) (by omega) (by omega) (fun i (t:List Int)=>(i,t)) (body:=X0 (gl n (PG (Qi F)))) (fun k=>gl n fun u w=>if u < k then FG (Qi F) u w else PG (Qi F) u w) (gl n (FG (Qi F)))
   (fun k _ hk=>by
    unfold X0
    dsimp only
    rw [Z1,if_pos (dlt hk),J8 hk,Option.bind_some,if_pos (Zi k),Qhu (by omega) hk,Qer]
    congr 3
    refine gl_congr fun u w hu hw=>?_
    simp only [upd]
    by_cases c:u=k
    ·subst c
     rw [if_pos rfl,if_neg (by omega),if_pos (by omega)]
     unfold FG PG; rw [Bool.or_comm]
    ·rw [if_neg c]
     by_cases c2:u < k
     ·rw [if_pos c2,if_pos (by omega)]
     ·rw [if_neg c2,if_neg (by omega)])
   (by
    unfold X0
    dsimp only
    rw [Z1,if_neg (nlt n)]
    congr 2
    exact gl_congr fun u w hu hw=>by rw [if_pos hu])
  have e0:(gl n fun u w=>if u < 0 then FG (Qi F) u w else PG (Qi F) u w)=gl n (PG (Qi F)):=gl_congr fun u w _ _=>if_neg (by omega)
  simp only [e0] at h
  rw [show ((0:Nat):Int)=0 from rfl] at h
  rw [h]; rfl
 ·right
  refine ⟨hf,?_⟩
  rw [e]; rfl
theorem Qnw {n:Nat} {g:Int} {F:Nat → Tapi_Node} (hb:NB n F) (hf:K4 n g F):Kk ⟨g,Qd n F⟩=some (gl n (mg n (Qi F)),0):=by
 have hn:=hf.n8
 have hpar:=fun v hv=>(Qbu (hf.node v hv).1.1).2.2
 rcases Qpo (g:=g) hb (by omega) with ⟨_,o,e⟩ | ⟨no,_⟩
 ·unfold Kk
  rw [e,Option.bind_some,if_neg (by simp)]
  dsimp only
  rw [Qt8 hn hpar,Qzx hf.n1 hn]; rfl
 ·exact absurd hf no
theorem Qpr {n:Nat}:∀(o:List Nat) (A:Gr) (K:Nat → Bool),(∃i,i < n∧K i=true)→(∀i,K i=true→i∈o)→(∀a b,K a=true→K b=true→a≠b→A a b=true)→∃s∈Q0 n A o,subB (msk n K) s=true
 | [],A,K,⟨i,_,hi⟩,ho,_=>by have:=ho i hi; cases this
 | v::o,A,K,hne,ho,hK=>by
  simp only [Q0]
  by_cases c:K v=true
  ·refine ⟨_,List.mem_cons_self ..,Yr.2 fun j hj=>?_⟩
   rw [Zl] at hj ⊢
   simp only [Bool.and_eq_true,decide_eq_true_eq] at hj ⊢
   refine ⟨hj.1,?_⟩
   unfold setP
   by_cases e:v=j
   ·simp [e]
   ·rw [hK v j c hj.2 e]; rfl
  ·obtain ⟨s,h1,h2⟩:=Qpr o (elim A v) K hne (fun i hi=>by
    have:=ho i hi
    rcases List.mem_cons.1 this with e | e
    ·subst e; exact absurd hi c
    ·exact e) fun a b ha hb hne=>by
    have e1:¬ a=v:=fun e=>by subst e; exact c ha
    have e2:¬ b=v:=fun e=>by subst e; exact c hb
    unfold elim
    simp [hK a b ha hb hne,e1,e2]
   exact ⟨s,List.mem_cons_of_mem _ h1,h2⟩
theorem Qt5 {n:Nat}:∀(k:Nat) (left cl up:List Nat),left.length=k→(∀s,(s∈cl∨s∈left)↔s∈(bld n k left cl up).1)∧(bld n k left cl up).1.length=cl.length+k∧(bld n k left cl up).2.length=up.length+k
 | 0,left,cl,up,hk=>by
  have:left=[]:=List.length_eq_zero_iff.1 hk
  subst this
  simp [bld]
 | k+1,left,cl,up,hk=>by
  obtain ⟨_,hp⟩:=Qlr (n:=n) (cl:=cl) (left:=left) left.length
  have hi:pickI n cl left < left.length:=(hp (by omega)).1
  have ei:left.getD (pickI n cl left) 0=left[pickI n cl left]:=by simp [List.getD,hi]
  obtain ⟨h1,h2,h3⟩:=Qt5 k (left.eraseIdx (pickI n cl left)) (cl++[left.getD (pickI n cl left) 0]) (up++[upI n cl (left.getD (pickI n cl left) 0)]) (by rw [List.length_eraseIdx,if_pos hi]; omega)
  simp only [bld]
  refine ⟨fun s=>?_,by rw [h2]; simp; omega,by rw [h3]; simp; omega⟩
  rw [←h1 s,ei,List.mem_append,List.mem_singleton]
  have hm:s∈left↔s=left[pickI n cl left]∨s∈left.eraseIdx (pickI n cl left):=by
   constructor
   ·intro h
    obtain ⟨j,hj,rfl⟩:=List.mem_iff_getElem.1 h
    by_cases e:j=pickI n cl left
    ·subst e; exact .inl rfl
    ·exact .inr (List.mem_eraseIdx_iff_getElem.2 ⟨j,hj,e,rfl⟩)
   ·rintro (h | h)
    ·rw [h]; exact List.getElem_mem hi
    ·exact List.mem_of_mem_eraseIdx h
  rw [hm]
  constructor
  ·rintro (h | h | h)
   ·exact .inl (.inl h)
   ·exact .inl (.inr h)
   ·exact .inr h
  ·rintro ((h | h) | h)
   ·exact .inl h
   ·exact .inr (.inl h)
   ·exact .inr (.inr h)
def mkK (n:Nat) (A:Gr) (o:List Nat):List Nat := Zx (Q0 n A o)
def mkB (n:Nat) (A:Gr) (o:List Nat):List Nat × List Nat := bld n ((mkK n A o).length - 1) ((mkK n A o).take ((mkK n A o).length - 1)) [(mkK n A o).getD ((mkK n A o).length - 1) 0] []
def homeI (cl:List Nat) (f:Nat):Nat := cl.findIdx (subB f)
def mkT (n:Nat) (q:Nat → List Nat) (o:List Nat):Qe:=⟨nI (mkB n (mg n q) o).1,-1::nI (mkB n (mg n q) o).2,nI ((List.range n).map fun v=>homeI (mkB n (mg n q) o).1 (msk n (FG q v)))⟩
theorem Qn2 {n:Nat} {A:Gr} {o:List Nat} (ho:0 < o.length):0 < (mkK n A o).length:=by
 have h1:0 < (Q0 n A o).length:=by rw [Qfe]; exact ho
 obtain ⟨e,he,_⟩:=Qh7 (l:=Q0 n A o) _ (Nat.le_refl _) ((Q0 n A o)[0]) (by rw [List.take_length]; exact List.getElem_mem h1)
 rw [List.take_length] at he
 exact List.length_pos_of_mem he
theorem Q18 {n:Nat} {A:Gr} {o:List Nat}:∀s∈mkK n A o,s < 2^n:=fun s h=>Qeg _ _ s (Qft h)
theorem Qx2 {n:Nat} {A:Gr} {o:List Nat}:(mkK n A o).length≤o.length:=by have:=Qpf (l:=Q0 n A o); rwa [Qfe] at this
theorem Qvg {l:List Nat} (h:0 < l.length):∀s,(s∈[l.getD (l.length - 1) 0]∨s∈l.take (l.length - 1))↔s∈l:=fun s=>by
 have e:l=l.take (l.length - 1)++[l.getD (l.length - 1) 0]:=by
  have h1:l.length - 1 < l.length:=by omega
  have:=Zg (l:=l) h1
  rw [show l.length - 1+1=l.length by omega,List.take_length] at this
  have e2:l.getD (l.length - 1) 0=l[l.length - 1]:=by simp [List.getD,h1]
  rw [e2]; exact this
 conv=>rhs; rw [e,List.mem_append]
 exact Or.comm
theorem Qej {n:Nat} {A:Gr} {o:List Nat} (ho:0 < o.length):(∀s,s∈mkK n A o↔s∈(mkB n A o).1)∧(mkB n A o).1.length=(mkK n A o).length∧(mkB n A o).2.length=(mkK n A o).length - 1:=by
 have hp:=Qn2 (n:=n) (A:=A) ho
 obtain ⟨h1,h2,h3⟩:=Qt5 (n:=n) ((mkK n A o).length - 1) ((mkK n A o).take ((mkK n A o).length - 1)) [(mkK n A o).getD ((mkK n A o).length - 1) 0] [] (by rw [List.length_take]; omega)
 refine ⟨fun s=>?_,?_,?_⟩
 ·rw [←Qvg hp s]; exact h1 s
 ·unfold mkB; rw [h2]; simp; omega
 ·unfold mkB; rw [h3]; simp
theorem Qyb {n:Nat} {q:Nat → List Nat} {o:List Nat} {v:Nat} (ho:Ord n o) (hv:v < n) (hq:∀p∈q v,p < n):∃c∈(mkB n (mg n q) o).1,subB (msk n (FG q v)) c=true:=by
 have hall:∀i,i < n→i∈o:=fun i hi=>Qbh ho.nodup ho.lt ho.len i hi
 have hin:∀i,FG q v i=true→i < n:=fun i hi=>by
  unfold FG at hi
  simp only [Bool.or_eq_true,decide_eq_true_eq] at hi
  rcases hi with h | h
  ·omega
  ·exact hq i h
 obtain ⟨s,h1,h2⟩:=Qpr o (mg n q) (FG q v) ⟨v,hv,by unfold FG; simp⟩ (fun i hi=>hall i (hin i hi)) fun a b ha hb hne=>by
  unfold mg mgk
  simp only [hin a ha,hin b hb,decide_true,Bool.true_and,Bool.and_eq_true,Bool.not_eq_true',decide_eq_false_iff_not,List.any_eq_true]
  exact ⟨hne,v,List.mem_range.2 hv,ha,hb⟩
 obtain ⟨e,h3,h4⟩:=Qh7 (l:=Q0 n (mg n q) o) _ (Nat.le_refl _) s (by rw [List.take_length]; exact h1)
 rw [List.take_length] at h3
 exact ⟨e,((Qej (n:=n) (A:=mg n q) (by rw [ho.len]; omega)).1 e).1 h3,Quk h2 h4⟩
theorem Qtx {cl:List Nat} {f:Nat} (h:∃c∈cl,subB f c=true):homeI cl f < cl.length:=by
 unfold homeI; rw [List.findIdx_lt_length]; exact h
theorem Qyq {cl:List Nat} {f:Nat} (hc:∀c∈cl,c < 18446744073709551616) (hf:f < 18446744073709551616) (hl:cl.length≤1000) (h:∃c∈cl,subB f c=true):Vy (nI cl) (f:Int)=some (homeI cl f:Int):=by
 have hu:=Qtx h
 have hstep:∀k (hk:k < cl.length),Yv (nI cl) (f:Int) (k:Int)=some (if subB f cl[k]=true then .done (.inl (k:Int)) else .next (zw ((k:Int)+1))):=fun k hk=>by
  unfold Yv
  rw [Qo,if_pos (dlt hk),Qbb hk,Option.bind_some]
  have hw:=Kw hf (hc _ (List.getElem_mem hk))
  by_cases c:subB f cl[k]=true
  ·rw [if_pos (hw.2 c),if_pos c]
  ·rw [if_neg fun hh=>c (hw.1 hh),if_neg c]
 have hr:=Jq (n:=homeI cl f+1) (k0:=0) (by omega) (by omega) (fun i (_:Unit)=>i) (body:=Yv (nI cl) (f:Int)) (fun k _=>k≤homeI cl f) (fun r=>r=.inl (homeI cl f:Int))
  (fun k _ _ hk _=>by
   by_cases e:k=homeI cl f
   ·right
    refine ⟨.inl (k:Int),?_,by rw [e]⟩
    rw [hstep k (by omega),if_pos (by
     have:=List.findIdx_getElem (w:=hu)
     unfold homeI at e
     subst e; exact this)]
   ·left
    refine ⟨(),?_,by omega⟩
    rw [hstep k (by omega),if_neg (by
     have:=List.not_of_lt_findIdx (show k < cl.findIdx (subB f) by unfold homeI at hk e; omega)
     intro h
     rw [h] at this; cases this)])
  (fun _ hI=>by omega) () (by omega)
 obtain ⟨r,e1,rfl⟩:=hr
 rw [show ((0:Nat):Int)=0 from rfl] at e1
 unfold Vy
 rw [e1]; rfl
theorem Qy8 {n:Nat} {g:Int} {F:Nat → Tapi_Node} {o:List Nat} (hb:NB n F) (hf:K4 n g F) (ho:Ord n o):Kx ⟨g,Qd n F⟩ (gl n (FG (Qi F))) (nI o)=some (mkT n (Qi F) o,0):=by
 have hn:=hf.n8
 have h1:=hf.n1
 have hpar:=fun v hv=>(Qbu (hf.node v hv).1.1).2.2
 have p8:(2:Nat)^n≤256:=Nat.pow_le_pow_right (n:=2) (by omega) hn
 have hop:0 < o.length:=by rw [ho.len]; omega
 have hp:=Qn2 (n:=n) (A:=mg n (Qi F)) hop
 have hle:=Qx2 (n:=n) (A:=mg n (Qi F)) (o:=o)
 rw [ho.len] at hle
 obtain ⟨m1,m2,m3⟩:=Qej (n:=n) (A:=mg n (Qi F)) hop
 unfold Kx
 rw [Qnw hb hf,Option.bind_some,if_neg (by simp),Qvt h1 hn Qhf ho.lt ho.nodup,Option.bind_some]
 rw [show Zx (Q0 n (mg n (Qi F)) o)=mkK n (mg n (Qi F)) o from rfl,Qo,w64 (n:=((mkK n (mg n (Qi F)) o).length:Int) - 1) (by omega),show ((mkK n (mg n (Qi F)) o).length:Int) - 1=(((mkK n (mg n (Qi F)) o).length - 1:Nat):Int) by omega,Qbb (by omega),Option.bind_some,if_pos (by omega),Int.toNat_natCast]
 have hlt:∀s∈mkK n (mg n (Qi F)) o,s < 2^n:=Q18
 have eg:(mkK n (mg n (Qi F)) o).getD ((mkK n (mg n (Qi F)) o).length - 1) 0=(mkK n (mg n (Qi F)) o)[(mkK n (mg n (Qi F)) o).length - 1]:=by
  rw [List.getD_eq_getElem?_getD,List.getElem?_eq_getElem (by omega)]; rfl
 have hbl:=Qm6 hn ((mkK n (mg n (Qi F)) o).length - 1) fuel ((mkK n (mg n (Qi F)) o).take ((mkK n (mg n (Qi F)) o).length - 1)) [(mkK n (mg n (Qi F)) o).getD ((mkK n (mg n (Qi F)) o).length - 1) 0] [] (by rw [List.length_take]; omega) (by show _ < 1152921504606846976; omega)
  (fun c hc=>by simp only [List.mem_singleton] at hc; rw [hc,eg]; exact hlt _ (List.getElem_mem _)) (fun s hs=>hlt s (List.mem_of_mem_take hs)) (by simp) (by simp; omega) (by simp)
 have et:List.take ((mkK n (mg n (Qi F)) o).length - 1) (nI (mkK n (mg n (Qi F)) o))=nI ((mkK n (mg n (Qi F)) o).take ((mkK n (mg n (Qi F)) o).length - 1)):=by unfold nI; rw [List.map_take]
 rw [show nI [(mkK n (mg n (Qi F)) o).getD ((mkK n (mg n (Qi F)) o).length - 1) 0]=[(((mkK n (mg n (Qi F)) o)[(mkK n (mg n (Qi F)) o).length - 1]:Nat):Int)] by unfold nI; rw [eg]; rfl,show nI []=[] from rfl] at hbl
 rw [et,hbl,Option.bind_some]
 rw [show bld n ((mkK n (mg n (Qi F)) o).length - 1) ((mkK n (mg n (Qi F)) o).take ((mkK n (mg n (Qi F)) o).length - 1)) [(mkK n (mg n (Qi F)) o).getD ((mkK n (mg n (Qi F)) o).length - 1) 0] []=mkB n (mg n (Qi F)) o from rfl]
 have hcl:∀c∈(mkB n (mg n (Qi F)) o).1,c < 18446744073709551616:=fun c hc=>by have:=hlt c ((m1 c).2 hc); omega
 have hfam:∀v,v < n→∃c∈(mkB n (mg n (Qi F)) o).1,subB (msk n (FG (Qi F) v)) c=true:=fun v hv=>Qyb ho hv (hpar v hv)
 have h:=Vh (n:=n) (k0:=0) (by omega) (by omega) (fun i (t:List Int)=>(i,t)) (body:=Ks (gl n (FG (Qi F))) (nI (mkB n (mg n (Qi F)) o).1,(-1:Int)::nI (mkB n (mg n (Qi F)) o).2))
  (fun k=>nI ((List.range k).map fun v=>homeI (mkB n (mg n (Qi F)) o).1 (msk n (FG (Qi F) v)))) (nI ((List.range n).map fun v=>homeI (mkB n (mg n (Qi F)) o).1 (msk n (FG (Qi F) v))))
  (fun k _ hk=>by
   unfold Ks
   dsimp only
   rw [Z1,if_pos (dlt hk),J8 hk,Option.bind_some,Qyq hcl (by have:=Z2 n (FG (Qi F) k); omega) (by omega) (hfam k hk),Option.bind_some,if_pos (by rw [List.length_append,Qo,List.length_map,List.length_range]; simp; omega)]
   congr 3
   rw [List.range_succ,List.map_append,←Qxi]; rfl)
  (by unfold Ks; dsimp only; rw [Z1,if_neg (nlt n)])
 rw [show ((0:Nat):Int)=0 from rfl] at h
 rw [show nI ((List.range 0).map fun v=>homeI (mkB n (mg n (Qi F)) o).1 (msk n (FG (Qi F) v)))=[] from rfl] at h
 rw [h]; rfl
end Go.Ab
namespace Go.Ab
open Go
set_option maxRecDepth 100000
set_option maxHeartbeats 400000
def tb (x:Int) (s1:Int × List Int):Option (Ql (Int × List Int) (List Int)) :=
 if (zw ((s1.2.length:Int)+1))≠0 then
  if 0≤(0:Int)∧(0:Int)≤(Int.tmod (zw x) (zw ((s1.2.length:Int)+1)))∧(Int.tmod (zw x) (zw ((s1.2.length:Int)+1)))≤(s1.2.length:Int) then
   if (sub s1.2 0 (Int.tmod (zw x) (zw ((s1.2.length:Int)+1)))).length*8≤140737488355328 then
    if ((sub s1.2 0 (Int.tmod (zw x) (zw ((s1.2.length:Int)+1))))++([s1.1]:(List Int))).length*8≤140737488355328 then
     if 0≤(Int.tmod (zw x) (zw ((s1.2.length:Int)+1)))∧(Int.tmod (zw x) (zw ((s1.2.length:Int)+1)))≤(s1.2.length:Int)∧(s1.2.length:Int)≤(s1.2.length:Int) then
      if (((sub s1.2 0 (Int.tmod (zw x) (zw ((s1.2.length:Int)+1))))++([s1.1]:(List Int)))++(sub s1.2 (Int.tmod (zw x) (zw ((s1.2.length:Int)+1))) (s1.2.length:Int))).length*8≤140737488355328 then
       some (.next (zw (s1.1+1),(((sub s1.2 0 (Int.tmod (zw x) (zw ((s1.2.length:Int)+1))))++([s1.1]:(List Int)))++(sub s1.2 (Int.tmod (zw x) (zw ((s1.2.length:Int)+1))) (s1.2.length:Int)))))
      else none
     else none
    else none
   else none
  else none
 else none
theorem Qto (p0 p1:Int) (p2:Int × Int × Int × Int × Int × Int × Int × Int) (s1:Int × List Int):Qap p0 p1 p2 s1 =
  if (decide (s1.1 < p0))=true then
   if (s1.1==p1)=true then some (.next (zw (s1.1+1),s1.2)) else
   if Int.tmod s1.1 8=0 then tb p2.1 s1 else if Int.tmod s1.1 8=1 then tb p2.2.1 s1 else if Int.tmod s1.1 8=2 then tb p2.2.2.1 s1 else if Int.tmod s1.1 8=3 then tb p2.2.2.2.1 s1 else
   if Int.tmod s1.1 8=4 then tb p2.2.2.2.2.1 s1 else if Int.tmod s1.1 8=5 then tb p2.2.2.2.2.2.1 s1 else if Int.tmod s1.1 8=6 then tb p2.2.2.2.2.2.2.1 s1 else if Int.tmod s1.1 8=7 then tb p2.2.2.2.2.2.2.2 s1 else none
  else some (.done s1.2):=rfl
theorem Q3h {x:Int} {k:Nat} {o:List Nat} (hx:0≤x∧x≤255) (ho:o.length≤1000) (hk:k≤1000):∃a:Nat,a≤o.length∧tb x ((k:Int),nI o)=some (.next (zw ((k:Int)+1),nI (o.take a++[k]++o.drop a))):=by
 have e1:zw ((o.length:Int)+1)=((o.length+1:Nat):Int):=Qqw (by omega)
 have e2:zw x=x:=w64 (by omega)
 obtain ⟨a,ha,ea⟩:∃a:Nat,a≤o.length∧Int.tmod x ((o.length+1:Nat):Int)=(a:Int):=by
  rw [Qbe hx.1]
  have h1:=Int.emod_nonneg x (show ((o.length+1:Nat):Int)≠0 by omega)
  have h2:=Int.emod_lt_of_pos x (show (0:Int) < ((o.length+1:Nat):Int) by omega)
  exact ⟨(x % ((o.length+1:Nat):Int)).toNat,by omega,by omega⟩
 have s1:sub (nI o) 0 (a:Int)=nI (o.take a):=by unfold sub nI; simp [List.map_take]
 have s2:sub (nI o) (a:Int) (o.length:Int)=nI (o.drop a):=by
  unfold sub nI
  rw [Int.toNat_natCast,Int.toNat_natCast,←List.map_drop,List.take_of_length_le (by rw [List.length_map,List.length_drop]; omega)]
 refine ⟨a,ha,?_⟩
 unfold tb
 dsimp only
 rw [Qo,e1,e2,ea,s1,s2,if_pos (by omega),if_pos (by omega)]
 rw [if_pos (by rw [Qo,List.length_take]; omega),if_pos (by rw [List.length_append,Qo,List.length_take]; simp; omega),if_pos (by omega),if_pos (by rw [List.length_append,List.length_append,Qo,Qo,List.length_take,List.length_drop]; simp; omega)]
 congr 3
 unfold nI; simp
def ok8 (l:Int × Int × Int × Int × Int × Int × Int × Int):Prop:=(0≤l.1∧l.1≤255)∧(0≤l.2.1∧l.2.1≤255)∧(0≤l.2.2.1∧l.2.2.1≤255)∧(0≤l.2.2.2.1∧l.2.2.2.1≤255)∧(0≤l.2.2.2.2.1∧l.2.2.2.2.1≤255)∧(0≤l.2.2.2.2.2.1∧l.2.2.2.2.2.1≤255)∧(0≤l.2.2.2.2.2.2.1∧l.2.2.2.2.2.2.1≤255)∧(0≤l.2.2.2.2.2.2.2∧l.2.2.2.2.2.2.2≤255)
theorem Q08 {k a:Nat} {o:List Nat} (h:Ord k o):Ord (k+1) (o.take a++[k]++o.drop a):=by
 obtain ⟨h1,h2⟩:=Qj3 (q:=o) (k:=k) (a:=a) h.nodup h.lt
 exact ⟨by have:=h.len; simp; omega,h2,h1⟩
theorem Qw5 {n:Nat} {l:Int × Int × Int × Int × Int × Int × Int × Int} (hn:n≤1000) (hl:ok8 l):∃o,Ord n o∧Jx (n:Int) (-1) l=some (nI o):=by
 obtain ⟨l0,l1,l2,l3,l4,l5,l6,l7⟩:=hl
 have h:=Jq (n:=n) (k0:=0) (by omega) (by omega) (fun i (t:List Int)=>(i,t)) (body:=Qap (n:Int) (-1) l) (fun k t=>∃o,Ord k o∧t=nI o) (fun r=>∃o,Ord n o∧r=nI o)
  (fun k t _ hk hI=>by
   obtain ⟨o,ho,rfl⟩:=hI
   left
   have hol:o.length≤1000:=by rw [ho.len]; omega
   have fin:∀x,0≤x∧x≤255→∃t',tb x ((k:Int),nI o)=some (.next (zw ((k:Int)+1),t'))∧∃o,Ord (k+1) o∧t'=nI o:=fun x hx=>by
    obtain ⟨a,_,e⟩:=Q3h (k:=k) hx hol (by omega)
    exact ⟨_,e,_,Q08 ho,rfl⟩
   rw [Qto]
   dsimp only
   rw [if_pos (dlt hk),if_neg (by simp),Qbe (by omega)]
   by_cases c0:(k:Int) % 8=0
   ·rw [if_pos c0]; exact fin _ l0
   rw [if_neg c0]
   by_cases c1:(k:Int) % 8=1
   ·rw [if_pos c1]; exact fin _ l1
   rw [if_neg c1]
   by_cases c2:(k:Int) % 8=2
   ·rw [if_pos c2]; exact fin _ l2
   rw [if_neg c2]
   by_cases c3:(k:Int) % 8=3
   ·rw [if_pos c3]; exact fin _ l3
   rw [if_neg c3]
   by_cases c4:(k:Int) % 8=4
   ·rw [if_pos c4]; exact fin _ l4
   rw [if_neg c4]
   by_cases c5:(k:Int) % 8=5
   ·rw [if_pos c5]; exact fin _ l5
   rw [if_neg c5]
   by_cases c6:(k:Int) % 8=6
   ·rw [if_pos c6]; exact fin _ l6
   rw [if_neg c6,if_pos (by omega)]
   exact fin _ l7)
  (fun t hI=>⟨t,by rw [Qto]; dsimp only; rw [if_neg (nlt n)],hI⟩) [] ⟨[],⟨rfl,by simp,List.nodup_nil⟩,rfl⟩
 obtain ⟨r,e,o,ho,rfl⟩:=h
 refine ⟨o,ho,?_⟩
 rw [show ((0:Nat):Int)=0 from rfl] at e
 unfold Jx
 rw [e]; rfl
def Qp4 (n:Nat) (l:List Int) (k:Nat):Prop:=0≤(l[k]?).getD 0∧(l[k]?).getD 0 < n∧(l[k]?).getD 0 ∉ l.take k
theorem Qw6 {n:Nat} {l:List Int}:(∀k,k < l.length→Qp4 n l k)↔okL n l:=by
 unfold okL Qp4
 constructor
 ·intro h
  refine ⟨fun x hx=>?_,?_⟩
  ·obtain ⟨k,hk,rfl⟩:=List.mem_iff_getElem.1 hx
   have:=h k hk
   rw [List.getElem?_eq_getElem hk] at this
   exact ⟨this.1,this.2.1⟩
  ·rw [List.nodup_iff_pairwise_ne,List.pairwise_iff_getElem]
   intro i j hi hj hij e
   have:=(h j hj).2.2
   rw [List.getElem?_eq_getElem hj] at this
   refine this (List.mem_iff_getElem.2 ⟨i,by rw [List.length_take]; omega,?_⟩)
   rw [List.getElem_take]; exact e
 ·rintro ⟨h1,h2⟩ k hk
  rw [List.getElem?_eq_getElem hk]
  obtain ⟨a,b⟩:=h1 _ (List.getElem_mem hk)
  refine ⟨a,b,fun hm=>?_⟩
  obtain ⟨i,hi,e⟩:=List.mem_iff_getElem.1 hm
  rw [List.length_take] at hi
  rw [List.getElem_take] at e
  rw [List.nodup_iff_pairwise_ne,List.pairwise_iff_getElem] at h2
  exact h2 i k (by omega) hk (by omega) e
theorem Qzz {n:Nat} {l:List Int} {k a:Nat} (hn:n≤8) (hk:k < l.length) (ha:a < n) (e:l[k]=(a:Int)):zv (zb ((msk n (fun i=>(l.take k).contains (i:Int)):Nat):Int) ||| zb (zv (1*2^min (Int.toNat (a:Int)) (IntKind.bits .u64)))).toNat = ((msk n (fun i=>(l.take (k+1)).contains (i:Int)):Nat):Int):=by
 rw [Qhu (by omega) ha]
 congr 1
 refine Yu fun i _=>?_
 rw [Zg hk,List.contains_append,e]
 by_cases c:a=i
 ·subst c; simp
 ·have c2:¬ (i:Int)=(a:Int):=by omega
  simp [c,c2]
theorem Qxv {n:Nat} {l fam:List Int} {w:Int} (hn:n≤8) (hf:fam.length=n) (hl:l.length≤1000) :
  (okL n l∧Qb fuel (Y3 l (fam,w)) (0,0)=some (.inr ()))∨(¬ okL n l∧Qb fuel (Y3 l (fam,w)) (0,0)=some (.inl ())):=by
 have p8:(2:Nat)^n≤256:=Nat.pow_le_pow_right (n:=2) (by omega) hn
 have hz:msk n (fun i=>(l.take 0).contains (i:Int))=0:=(Kf (by have:=Nat.two_pow_pos n; omega) fun i _=>by simp).symm
 have h:=Jo (n:=l.length) (by omega) (Qp4 n l) (fun i (t:Int)=>(t,i)) (body:=Y3 l (fam,w)) (fun k=>((msk n (fun i=>(l.take k).contains (i:Int)):Nat):Int)) (.inr ()) (.inl ())
  (fun k hk hI hg=>by
   have ek:=Zm hk
   obtain ⟨h1,h2,h3⟩:=hg
   rw [List.getElem?_eq_getElem hk] at h1 h2 h3
   simp only [Option.getD_some] at h1 h2 h3
   generalize ev:l[k]=v at *
   obtain ⟨a,rfl⟩:∃a:Nat,v=(a:Int):=⟨v.toNat,by omega⟩
   have ha:a < n:=by omega
   unfold Y3
   dsimp only
   rw [if_pos (dlt hk),ek,Option.bind_some,if_neg (by simp),hf,if_neg (by simp; omega),if_pos (Zi a),Qb8 (Qoa (by omega) (Z2 n _)) (by omega),Jr a ha]
   have hc:(l.take k).contains (a:Int)=false:=by rw [Bool.eq_false_iff]; intro h; exact h3 (by simpa using h)
   rw [hc,if_neg (by decide),if_pos (Zi a),Qzz hn hk ha ev])
  (fun k hk hI hg=>by
   have ek:=Zm hk
   have hg':¬ (0≤l[k]∧l[k] < n∧l[k] ∉ l.take k):=by
    unfold Qp4 at hg
    rw [List.getElem?_eq_getElem hk] at hg
    exact hg
   generalize l[k]=v at *
   unfold Y3
   dsimp only
   rw [if_pos (dlt hk),ek,Option.bind_some]
   by_cases c1:v < 0
   ·rw [if_pos (by simpa using c1)]
   ·rw [if_neg (by simpa using c1),hf]
    by_cases c2:v≥(n:Int)
    ·rw [if_pos (by simpa using c2)]
    ·rw [if_neg (by simpa using c2)]
     obtain ⟨a,rfl⟩:∃a:Nat,v=(a:Int):=⟨v.toNat,by omega⟩
     have ha:a < n:=by omega
     have hc:(l.take k).contains (a:Int)=true:=by
      rw [List.contains_iff_mem]
      apply Classical.byContradiction
      intro h; exact hg' ⟨by omega,by omega,h⟩
     rw [if_pos (Zi a),Qb8 (Qoa (by omega) (Z2 n _)) (by omega),Jr a ha,hc,if_pos (by decide)])
  (fun hI=>by unfold Y3; dsimp only; rw [if_neg (nlt _)])
 simp only [hz,Qw6] at h
 exact h
def Qwh:Qe:=⟨[],[],[]⟩
theorem Qya {n:Nat} {g:Int} {F:Nat → Tapi_Node} {l:List Int} (hb:NB n F) (hbig:n≤1000) (hl:l.length≤1000) :
  (¬ K4 n g F∧V0 ⟨g,Qd n F⟩ l=some (Qwh,50))∨(K4 n g F∧¬ (okL n l∧l.length=n)∧V0 ⟨g,Qd n F⟩ l=some (Qwh,2)) ∨
  (K4 n g F∧∃o,l=nI o∧Ord n o∧V0 ⟨g,Qd n F⟩ l=some (mkT n (Qi F) o,0)):=by
 unfold V0
 rcases Qrd (g:=g) hb (by omega) with ⟨hf,e⟩ | ⟨hf,e⟩
 ·right
  rw [e,Option.bind_some,if_neg (by simp)]
  dsimp only
  rw [Z1]
  by_cases c:l.length=n
  ·rw [if_neg (by simp; omega)]
   rcases Qxv (n:=n) (l:=l) (fam:=gl n (FG (Qi F))) (w:=0) hf.n8 (Z1 _ _) hl with ⟨hp,e2⟩ | ⟨hp,e2⟩
   ·right
    obtain ⟨o,rfl,ho⟩:=Q2s hp c
    refine ⟨hf,o,rfl,ho,?_⟩
    rw [e2,Option.bind_some]
    dsimp only
    rw [Qy8 hb hf ho]; rfl
   ·left
    refine ⟨hf,fun h=>hp h.1,?_⟩
    rw [e2]; rfl
  ·left
   refine ⟨hf,fun h=>c h.2,?_⟩
   rw [if_pos (by simp; omega)]; rfl
 ·left
  refine ⟨hf,?_⟩
  rw [e,Option.bind_some,if_pos (by decide)]; rfl
end Go.Ab
namespace Go.Ab
open Go
theorem Qdv {cs:List AV} (h:WT (.int .u8) cs):∃a:Int,cs=[(AV.int .u8) a]∧(Lit.int .u8 a).wf=true:=by
 obtain ⟨n,rfl,w⟩:=h
 exact ⟨n,rfl,w⟩
theorem el5 {x:AV} (h:WT (.int .u8) x.flat ∧ (if false then x=.agg x.flat else x.cell=true)):∃a:Int,x=(AV.int .u8) a∧(Lit.int .u8 a).wf=true:=by
 obtain ⟨a,h1,h2⟩:=Qdv h.1
 rw [Qwv h.2] at h1
 exact ⟨a,(List.cons.inj h1).1,h2⟩
theorem Q0m {cs:List AV} (h:WT (.slice true false 1 (.int .u8)) cs):∃a:(List Int),cs=[(eL true (AV.int .u8)) a]∧(a.length≤maxLen∧∀y0∈a,(Lit.int .u8 y0).wf=true):=by
 obtain ⟨xs,rfl,hl,hx⟩:=h
 obtain ⟨l,rfl,hr⟩:=Qrg (enc:=(AV.int .u8)) (R:=fun a=>(Lit.int .u8 a).wf=true) (fun x hm=>el5 (hx x hm))
 exact ⟨l,rfl,by simpa using hl,hr⟩
def X2 (x:Qs):Prop:=((Lit.int .u8 x.Card).wf=true)∧((Lit.int .u8 x.Parents).wf=true)∧((x.W.length≤maxLen∧∀y0∈x.W,(Lit.int .u8 y0).wf=true))
theorem Qgj {cs:List AV} (h:WT (.cat (.int .u8) (.cat (.int .u8) (.cat (.slice true false 1 (.int .u8)) .unit))) cs):∃x:Qs,AV.agg cs=eTharuspexref05_Piece x∧X2 x:=by
 obtain ⟨_,_,rfl,a0,r0⟩:=h
 obtain ⟨v0,e0,w0⟩:=Qdv a0
 cases e0
 obtain ⟨_,_,rfl,a1,r1⟩:=r0
 obtain ⟨v1,e1,w1⟩:=Qdv a1
 cases e1
 obtain ⟨_,_,rfl,a2,r2⟩:=r1
 obtain ⟨v2,e2,w2⟩:=Q0m a2
 cases e2
 cases r2
 exact ⟨⟨v0,v1,v2⟩,rfl,⟨w0,w1,w2⟩⟩
theorem Q36 {x:AV} (h:WT (.cat (.int .u8) (.cat (.int .u8) (.cat (.slice true false 1 (.int .u8)) .unit))) x.flat ∧ (if true then x=.agg x.flat else x.cell=true)):∃a:Qs,x=eTharuspexref05_Piece a∧X2 a:=by
 obtain ⟨a,h1,h2⟩:=Qgj h.1
 have h3:x=.agg x.flat := h.2
 exact ⟨a,h3.trans h1,h2⟩
theorem Q3c {cs:List AV} (h:WT (.slice false true 3 (.cat (.int .u8) (.cat (.int .u8) (.cat (.slice true false 1 (.int .u8)) .unit)))) cs):∃a:(List Qs),cs=[(eL false eTharuspexref05_Piece) a]∧(a.length≤maxLen∧∀y0∈a,X2 y0):=by
 obtain ⟨xs,rfl,hl,hx⟩:=h
 obtain ⟨l,rfl,hr⟩:=Qrg (enc:=eTharuspexref05_Piece) (R:=fun a=>X2 a) (fun x hm=>Q36 (hx x hm))
 exact ⟨l,rfl,by simpa using hl,hr⟩
def Y8 (x:Qc):Prop:=((Lit.int .u8 x.Grain).wf=true)∧((x.Nodes.length≤maxLen∧∀y0∈x.Nodes,X2 y0))∧((x.Order.length≤maxLen∧∀y0∈x.Order,(Lit.int .u8 y0).wf=true))
theorem rdTharuspexref05_Draft {cs:List AV} (h:WT (.cat (.int .u8) (.cat (.slice false true 3 (.cat (.int .u8) (.cat (.int .u8) (.cat (.slice true false 1 (.int .u8)) .unit)))) (.cat (.slice true false 1 (.int .u8)) .unit))) cs):∃x:Qc,AV.agg cs=eTharuspexref05_Draft x∧Y8 x:=by
 obtain ⟨_,_,rfl,a0,r0⟩:=h
 obtain ⟨v0,e0,w0⟩:=Qdv a0
 cases e0
 obtain ⟨_,_,rfl,a1,r1⟩:=r0
 obtain ⟨v1,e1,w1⟩:=Q3c a1
 cases e1
 obtain ⟨_,_,rfl,a2,r2⟩:=r1
 obtain ⟨v2,e2,w2⟩:=Q0m a2
 cases e2
 cases r2
 exact ⟨⟨v0,v1,v2⟩,rfl,⟨w0,w1,w2⟩⟩
theorem rdA28 {cs:List AV} (h:WT (.cat (.int .u8) (.cat (.int .u8) (.cat (.int .u8) (.cat (.int .u8) (.cat (.int .u8) (.cat (.int .u8) (.cat (.int .u8) (.cat (.int .u8) .unit)))))))) cs):∃x:(Int × Int × Int × Int × Int × Int × Int × Int),AV.agg cs=(fun x:(Int × Int × Int × Int × Int × Int × Int × Int)=>AV.agg [.int .u8 x.1,.int .u8 x.2.1,.int .u8 x.2.2.1,.int .u8 x.2.2.2.1,.int .u8 x.2.2.2.2.1,.int .u8 x.2.2.2.2.2.1,.int .u8 x.2.2.2.2.2.2.1,.int .u8 x.2.2.2.2.2.2.2]) x∧((Lit.int .u8 x.1).wf=true∧(Lit.int .u8 x.2.1).wf=true∧(Lit.int .u8 x.2.2.1).wf=true∧(Lit.int .u8 x.2.2.2.1).wf=true∧(Lit.int .u8 x.2.2.2.2.1).wf=true∧(Lit.int .u8 x.2.2.2.2.2.1).wf=true∧(Lit.int .u8 x.2.2.2.2.2.2.1).wf=true∧(Lit.int .u8 x.2.2.2.2.2.2.2).wf=true):=by
 obtain ⟨_,_,rfl,a0,r0⟩:=h
 obtain ⟨v0,e0,w0⟩:=Qdv a0
 cases e0
 obtain ⟨_,_,rfl,a1,r1⟩:=r0
 obtain ⟨v1,e1,w1⟩:=Qdv a1
 cases e1
 obtain ⟨_,_,rfl,a2,r2⟩:=r1
 obtain ⟨v2,e2,w2⟩:=Qdv a2
 cases e2
 obtain ⟨_,_,rfl,a3,r3⟩:=r2
 obtain ⟨v3,e3,w3⟩:=Qdv a3
 cases e3
 obtain ⟨_,_,rfl,a4,r4⟩:=r3
 obtain ⟨v4,e4,w4⟩:=Qdv a4
 cases e4
 obtain ⟨_,_,rfl,a5,r5⟩:=r4
 obtain ⟨v5,e5,w5⟩:=Qdv a5
 cases e5
 obtain ⟨_,_,rfl,a6,r6⟩:=r5
 obtain ⟨v6,e6,w6⟩:=Qdv a6
 cases e6
 obtain ⟨_,_,rfl,a7,r7⟩:=r6
 obtain ⟨v7,e7,w7⟩:=Qdv a7
 cases e7
 cases r7
 exact ⟨(v0,v1,v2,v3,v4,v5,v6,v7),rfl,⟨w0,w1,w2,w3,w4,w5,w6,w7⟩⟩
end Go.Ab
namespace Go.Ab
open Go
set_option maxRecDepth 100000
set_option maxHeartbeats 400000
theorem Qa5 {n:Int} (h:(Lit.int .u8 n).wf=true):0≤n∧n≤255:=by
 simpa [Lit.wf,IntKind.min,IntKind.max,IntKind.bits,IntKind.signed] using h
theorem Q1r {p0:Qc} (h:Y8 p0):Qu0 p0:=by
 refine ⟨Qa5 h.1,fun x hx=>Qa5 (h.2.2.2 x hx),fun p hp=>Qa5 (h.2.1.2 p hp).1,fun p hp x hx=>Qa5 ((h.2.1.2 p hp).2.2.2 x hx),fun p hp=>?_⟩
 have:=(h.2.1.2 p hp).2.2.1
 unfold maxLen at this; omega
theorem Qy4 {n:Nat} {f:Nat → Int}:(Qd n f).sum=Qx n f:=by
 induction n with
 | zero=>rfl
 | succ n ih=>rw [←Qj4,List.sum_append,ih]; simp [Qx]
theorem Qy7 {D:NF} (X:VX D):K4 D.n D.g D.node:=by
 have V:=X.vn
 have hc:∀v,v < D.n→Qcc (D.node v):=fun v hv=>by
  have:=V.card v hv
  exact ⟨by show (1:Int)≤(D.card v:Int); omega,by show (D.card v:Int)≤4; omega⟩
 have ec:cardN D.node=D.card:=funext fun v=>by unfold cardN NF.node; simp
 have ep:Qi D.node=D.par:=funext fun v=>by
  unfold Qi NF.node
  rw [List.map_map]
  conv=>rhs; rw [←List.map_id (D.par v)]
  exact List.map_congr_left fun x _=>by simp
 refine ⟨by have:=V.g1; omega,by have:=V.g60; omega,V.n1,V.n8,hc,by rw [ec]; exact V.worlds,fun v hv=>⟨⟨⟨D.par v,rfl,X.sorted v hv,V.par v hv⟩,fun hm=>?_⟩,?_,fun r hr=>?_⟩,by rw [ep]; obtain ⟨rk,h⟩:=X.rank; exact ⟨rk,h⟩⟩
 ·have hm:(v:Int)∈nI (D.par v):=hm
  unfold nI at hm
  obtain ⟨p,hp,e⟩:=List.mem_map.1 hm
  have:p=v:=by omega
  subst this
  exact X.self p hv hp
 ·rw [ec,ep]; show (Qd (D.rows v) _).length=_; rw [Ya]; rfl
 ·have hr:r∈Qd (D.rows v) fun r=>Qd (D.card v) fun x=>(D.W v r x:Int):=hr
  unfold Qd at hr
  obtain ⟨i,hi,rfl⟩:=List.mem_map.1 hr
  have hi:=List.mem_range.1 hi
  have e:=X.sum v i hv hi
  have h1:((List.range (D.card v)).map fun x=>(D.W v i x:Int))=Qd (D.card v) fun x=>(D.W v i x:Int):=rfl
  rw [h1]
  refine ⟨by rw [Ya]; rfl,fun w hw=>?_,by rw [Qy4]; exact e⟩
  unfold Qd at hw
  obtain ⟨x,_,rfl⟩:=List.mem_map.1 hw
  omega
theorem Qu9 {D:NF} (X:VX D):∀x∈Qd D.n D.node,Qvu 65536 x:=fun x hx=>by
 have V:=X.vn
 unfold Qd at hx
 obtain ⟨v,hv,rfl⟩:=List.mem_map.1 hx
 have hv:=List.mem_range.1 hv
 have hc:=V.card v hv
 refine ⟨?_,?_,fun r hr=>?_⟩
 ·have:=V.len v hv
  show (List.map _ (D.par v)).length≤_
  rw [List.length_map]; omega
 ·show (Qd (D.rows v) _).length≤_
  rw [Ya]; exact V.rows_le hv
 ·have hr:r∈Qd (D.rows v) fun r=>Qd (D.card v) fun x=>(D.W v r x:Int):=hr
  unfold Qd at hr
  obtain ⟨i,hi,rfl⟩:=List.mem_map.1 hr
  rw [List.length_map,List.length_range]; omega
theorem Q1g {n:Nat} {F:Nat → Tapi_Node} (h:∀x∈Qd n F,Qvu 65536 x):NB n F:=by
 have key:∀v,v < n→Qvu 65536 (F v):=fun v hv=>h _ (by unfold Qd; exact List.mem_map.2 ⟨v,List.mem_range.2 hv,rfl⟩)
 exact ⟨fun v hv=>by have:=(key v hv).par; omega,fun v hv=>by have:=(key v hv).rows; omega,fun v hv r hr=>by have:=(key v hv).row r hr; omega⟩
theorem Qoc {n:Nat} {q:Nat → List Nat} {o:List Nat} (ho:Ord n o) (h1:1≤n):(mkT n q o).Cliques.length≤n∧1≤(mkT n q o).Cliques.length∧(mkT n q o).Up.length=(mkT n q o).Cliques.length∧(mkT n q o).Home.length=n:=by
 have hop:0 < o.length:=by rw [ho.len]; omega
 have hp:=Qn2 (n:=n) (A:=mg n q) hop
 have hle:=Qx2 (n:=n) (A:=mg n q) (o:=o)
 rw [ho.len] at hle
 obtain ⟨_,m2,m3⟩:=Qej (n:=n) (A:=mg n q) hop
 have c1:(mkT n q o).Cliques.length=(mkK n (mg n q) o).length:=by show (nI _).length=_; rw [Qo,m2]
 have c2:(mkT n q o).Up.length=(mkK n (mg n q) o).length:=by show ((-1:Int)::nI _).length=_; rw [List.length_cons,Qo,m3]; omega
 have c3:(mkT n q o).Home.length=n:=by show (nI _).length=_; rw [Qo,List.length_map,List.length_range]
 exact ⟨by omega,by omega,by omega,c3⟩
theorem Qur:Qdy=some true:=by kernel_rfl
theorem Q16 {p2:Int × Int × Int × Int × Int × Int × Int × Int} (h:(Lit.int .u8 p2.1).wf=true∧(Lit.int .u8 p2.2.1).wf=true∧(Lit.int .u8 p2.2.2.1).wf=true∧(Lit.int .u8 p2.2.2.2.1).wf=true∧(Lit.int .u8 p2.2.2.2.2.1).wf=true∧(Lit.int .u8 p2.2.2.2.2.2.1).wf=true∧(Lit.int .u8 p2.2.2.2.2.2.2.1).wf=true∧(Lit.int .u8 p2.2.2.2.2.2.2.2).wf=true):ok8 p2 :=
 ⟨Qa5 h.1,Qa5 h.2.1,Qa5 h.2.2.1,Qa5 h.2.2.2.1,Qa5 h.2.2.2.2.1,Qa5 h.2.2.2.2.2.1,Qa5 h.2.2.2.2.2.2.1,Qa5 h.2.2.2.2.2.2.2⟩
end Go.Ab
namespace Go.Ab
open Go
set_option maxRecDepth 100000
set_option maxHeartbeats 400000
def Vi (t:Qe):Prop:=(∀c∈t.Cliques,0≤c∧c≤18446744073709551615)∧t.Cliques.length≤100000∧t.Up.length≤100000∧t.Home.length≤100000
def cqN (t:Qe) (i:Nat):Nat := ((t.Cliques[i]?).getD 0).toNat
def upA (t:Qe) (i:Nat):Int:=(t.Up[i]?).getD 0
def hmA (t:Qe) (v:Nat):Int:=(t.Home[v]?).getD 0
def ahead (t:Qe):Nat → Nat
 | 0=>0
 | i+1=>ahead t i ||| cqN t i
def Qv7 (n:Nat) (t:Qe) (i:Nat):Prop:=cqN t i≠0∧cqN t i < 2^n∧(i=0→upA t i=-1)∧(0 < i→0≤upA t i∧upA t i < i∧Qga (cqN t i &&& ahead t i) (cqN t (upA t i).toNat))
def Quj (n:Nat) (q:Nat → List Nat) (t:Qe) (v:Nat):Prop:=0≤hmA t v∧hmA t v < t.Cliques.length∧subB (msk n (FG q v)) (cqN t (hmA t v).toNat)=true
structure Jj (n:Nat) (q:Nat → List Nat) (t:Qe):Prop where
 c1:1≤t.Cliques.length
 c8:t.Cliques.length≤8
 up:t.Up.length=t.Cliques.length
 home:t.Home.length=n
 cq:∀i,i < t.Cliques.length→Qv7 n t i
 hm:∀v,v < n→Quj n q t v
theorem Qa3 {t:Qe} {i:Nat} (h:Vi t) (hi:i < t.Cliques.length):lkI t.Cliques (i:Int)=some ((cqN t i:Nat):Int)∧cqN t i < 18446744073709551616:=by
 have:=h.1 _ (List.getElem_mem hi)
 unfold cqN
 rw [Zm hi,List.getElem?_eq_getElem hi,Option.getD_some]
 exact ⟨by congr 1; omega,by omega⟩
theorem Qlm {t:Qe} (h:Vi t):∀i,i≤t.Cliques.length→ahead t i < 18446744073709551616
 | 0,_=>by simp [ahead]
 | i+1,hi=>by
  simp only [ahead]
  exact Nat.or_lt_two_pow (n:=64) (Qlm h i (by omega)) (Qa3 h (by omega)).2
theorem Qly {n c:Nat} (hn:n≤8) (hc:c < 18446744073709551616):((Int.fdiv (c:Int) (2^min (Int.toNat (n:Int)) (IntKind.bits .u64))) != 0)=true↔¬ c < 2^n:=by
 have hb:IntKind.bits .u64=64:=rfl
 have e0:min (Int.toNat (n:Int)) (IntKind.bits .u64)=n:=by rw [hb,Int.toNat_natCast]; omega
 rw [e0,Qll]
 have hp:=Nat.two_pow_pos n
 have:c / 2^n=0↔c < 2^n:=by
  rw [Nat.div_eq_zero_iff]
  constructor
  ·rintro (h | h)
   ·omega
   ·exact h
  ·exact .inr
 generalize c / 2^n=d at this
 rw [←this]
 simp
theorem Qkr {x:Int}:(x != 0)=true↔¬ (x==0)=true:=by simp
theorem Qz6 {n:Nat} {t:Qe} {fam:List Int} {w:Int} (hn:n≤8) (hf:fam.length=n) (h:Vi t) (hu:t.Up.length=t.Cliques.length) :
  ((∀i,i < t.Cliques.length→Qv7 n t i)∧Qb fuel (Yj t (fam,w)) (0,0)=some (.inr ()))∨((¬ ∀i,i < t.Cliques.length→Qv7 n t i)∧Qb fuel (Yj t (fam,w)) (0,0)=some (.inl ())):=by
 have hlen:=h.2.1
 have hr:=Jo (n:=t.Cliques.length) (by omega) (Qv7 n t) (fun i (e:Int)=>(e,i)) (body:=Yj t (fam,w)) (fun i=>((ahead t i:Nat):Int)) (.inr ()) (.inl ())
  (fun i hi hI hg=>by
   obtain ⟨e1,e2⟩:=Qa3 h hi
   have ha:=Qlm h i (by omega)
   have eu:lkI t.Up (i:Int)=some (upA t i):=by unfold upA; rw [Zm (by omega),List.getElem?_eq_getElem (by omega)]; rfl
   obtain ⟨g1,g2,g3,g4⟩:=hg
   unfold Yj
   dsimp only
   rw [if_pos (dlt hi),e1,Option.bind_some,if_neg (by simp; exact g1),hf,if_pos (Zi n),if_neg (fun hh=>(Qly hn e2).1 hh g2),eu,Option.bind_some,Q3b ha e2]
   by_cases c:i=0
   ·rw [if_pos (by simp; exact c),if_neg (by simp; exact g3 c)]
    rfl
   ·obtain ⟨k1,k2,k3⟩:=g4 (by omega)
    obtain ⟨f1,f2⟩:=Qa3 h (show (upA t i).toNat < t.Cliques.length by omega)
    rw [show (((upA t i).toNat : Nat):Int)=upA t i by omega] at f1
    rw [if_neg (by simp; exact c),if_neg (by simp; exact k1),if_neg (by simp; exact k2),f1,Option.bind_some,Qm4 e2 ha]
    rw [if_neg (by
     rw [Qkr,Kw (Nat.lt_of_le_of_lt Nat.and_le_left e2) f2,Yr]
     exact fun hh=>hh k3)]
    rfl)
  (fun i hi hI hg=>by
   obtain ⟨e1,e2⟩:=Qa3 h hi
   have ha:=Qlm h i (by omega)
   have eu:lkI t.Up (i:Int)=some (upA t i):=by unfold upA; rw [Zm (by omega),List.getElem?_eq_getElem (by omega)]; rfl
   unfold Yj
   dsimp only
   rw [if_pos (dlt hi),e1,Option.bind_some]
   by_cases c1:cqN t i=0
   ·rw [if_pos (by simp; exact c1)]
   rw [if_neg (by simp; exact c1),hf,if_pos (Zi n)]
   by_cases c2':¬ cqN t i < 2^n
   ·rw [if_pos ((Qly hn e2).2 c2')]
   have c2:cqN t i < 2^n:=Nat.lt_of_not_le fun hh=>c2' (by omega)
   rw [if_neg (fun hh=>(Qly hn e2).1 hh c2),eu,Option.bind_some]
   by_cases c:i=0
   ·rw [if_pos (by simp; exact c),if_pos (by
     rw [bne_iff_ne]
     exact fun hh=>hg ⟨c1,c2,fun _=>hh,fun h0=>by omega⟩)]
   ·rw [if_neg (by simp; exact c)]
    by_cases c3:upA t i < 0
    ·rw [if_pos (by simpa using c3)]
    rw [if_neg (by simpa using c3)]
    by_cases c4:upA t i≥(i:Int)
    ·rw [if_pos (by simpa using c4)]
    rw [if_neg (by simpa using c4)]
    obtain ⟨f1,f2⟩:=Qa3 h (show (upA t i).toNat < t.Cliques.length by omega)
    rw [show (((upA t i).toNat : Nat):Int)=upA t i by omega] at f1
    rw [f1,Option.bind_some,Qm4 e2 ha,if_pos (by
     rw [Qkr,Kw (Nat.lt_of_le_of_lt Nat.and_le_left e2) f2,Yr]
     exact fun hh=>hg ⟨c1,c2,fun h0=>absurd h0 c,fun _=>⟨by omega,by omega,hh⟩⟩)])
  (fun hI=>by unfold Yj; dsimp only; rw [if_neg (nlt _)])
 exact hr
theorem Qyy {n:Nat} {t:Qe} {q:Nat → List Nat} {w:Int} (hn:n≤8) (h:Vi t) (hh:t.Home.length=n) :
  ((∀v,v < n→Quj n q t v)∧Qb fuel (Yn t (gl n (FG q),w)) 0=some (.inr ()))∨((¬ ∀v,v < n→Quj n q t v)∧Qb fuel (Yn t (gl n (FG q),w)) 0=some (.inl ())):=by
 have p8:(2:Nat)^n≤256:=Nat.pow_le_pow_right (n:=2) (by omega) hn
 have eh:∀v,v < n→lkI t.Home (v:Int)=some (hmA t v):=fun v hv=>by unfold hmA; rw [Zm (by omega),List.getElem?_eq_getElem (by omega)]; rfl
 have hfl:∀v,msk n (FG q v) < 18446744073709551616:=fun v=>by have:=Z2 n (FG q v); omega
 have hr:=Jo (n:=n) (by omega) (Quj n q t) (fun i (_:Unit)=>i) (body:=Yn t (gl n (FG q),w)) (fun _=>()) (.inr ()) (.inl ())
  (fun v hv hI hg=>by
   obtain ⟨g1,g2,g3⟩:=hg
   obtain ⟨f1,f2⟩:=Qa3 h (show (hmA t v).toNat < t.Cliques.length by omega)
   rw [show (((hmA t v).toNat : Nat):Int)=hmA t v by omega] at f1
   unfold Yn
   dsimp only
   rw [hh,if_pos (dlt hv),eh v hv,Option.bind_some,if_neg (by simp; exact g1),if_neg (by simp; exact g2),J8 hv,Option.bind_some,f1,Option.bind_some,if_neg (by
    rw [Qkr,Kw (hfl v) f2]
    exact fun x=>x g3)])
  (fun v hv hI hg=>by
   unfold Yn
   dsimp only
   rw [hh,if_pos (dlt hv),eh v hv,Option.bind_some]
   by_cases c1:hmA t v < 0
   ·rw [if_pos (by simpa using c1)]
   rw [if_neg (by simpa using c1)]
   by_cases c2:hmA t v≥(t.Cliques.length:Int)
   ·rw [if_pos (by simpa using c2)]
   rw [if_neg (by simpa using c2)]
   obtain ⟨f1,f2⟩:=Qa3 h (show (hmA t v).toNat < t.Cliques.length by omega)
   rw [show (((hmA t v).toNat : Nat):Int)=hmA t v by omega] at f1
   rw [J8 hv,Option.bind_some,f1,Option.bind_some,if_pos (by
    rw [Qkr,Kw (hfl v) f2]
    exact fun x=>hg ⟨by omega,by omega,x⟩)])
  (fun hI=>by unfold Yn; dsimp only; rw [hh,if_neg (nlt n)])
 exact hr
theorem Qmp {n:Nat} {g:Int} {F:Nat → Tapi_Node} {t:Qe} (hb:NB n F) (hbig:n≤1000) (h:Vi t) :
  (¬ K4 n g F∧Xp ⟨g,Qd n F⟩ t=some 50)∨(K4 n g F∧¬ Jj n (Qi F) t∧Xp ⟨g,Qd n F⟩ t=some 100)∨(K4 n g F∧Jj n (Qi F) t∧Xp ⟨g,Qd n F⟩ t=some 0):=by
 unfold Xp
 rcases Qrd (g:=g) hb (by omega) with ⟨hf,e⟩ | ⟨hf,e⟩
 ·right
  have hn:=hf.n8
  rw [e,Option.bind_some,if_neg (by simp)]
  dsimp only
  rw [Z1]
  by_cases c1:t.Cliques.length < 1
  ·rw [if_pos (by simp; omega)]; exact .inl ⟨hf,fun x=>by have:=x.c1; omega,rfl⟩
  rw [if_neg (by simp; omega)]
  by_cases c2:t.Cliques.length > 8
  ·rw [if_pos (by simp; omega)]; exact .inl ⟨hf,fun x=>by have:=x.c8; omega,rfl⟩
  rw [if_neg (by simp; omega)]
  by_cases c3:t.Up.length=t.Cliques.length
  ·rw [if_neg (by simp; omega)]
   by_cases c4:t.Home.length=n
   ·rw [if_neg (by simp; omega)]
    rcases Qz6 (n:=n) (fam:=gl n (FG (Qi F))) (w:=0) hn (Z1 _ _) h c3 with ⟨k1,e1⟩ | ⟨k1,e1⟩
    ·rw [e1,Option.bind_some]
     dsimp only
     rcases Qyy (q:=Qi F) (w:=0) hn h c4 with ⟨k2,e2⟩ | ⟨k2,e2⟩
     ·rw [e2]; exact .inr ⟨hf,⟨by omega,by omega,c3,c4,k1,k2⟩,rfl⟩
     ·rw [e2]; exact .inl ⟨hf,fun x=>k2 x.hm,rfl⟩
    ·rw [e1]; exact .inl ⟨hf,fun x=>k1 x.cq,rfl⟩
   ·rw [if_pos (by simp; omega)]; exact .inl ⟨hf,fun x=>c4 x.home,rfl⟩
  ·rw [if_pos (by simp; omega)]; exact .inl ⟨hf,fun x=>c3 x.up,rfl⟩
 ·left
  refine ⟨hf,?_⟩
  rw [e,Option.bind_some,if_pos (by decide)]
end Go.Ab
namespace Go.Ab
open Go
set_option maxRecDepth 100000
set_option maxHeartbeats 400000
def maxPc (n:Nat) (t:Qe):Nat → Nat
 | 0=>0
 | i+1=>max (maxPc n t i) (pc n (cqN t i))
theorem Qqv {n:Nat} {t:Qe}:∀k i,i < k→pc n (cqN t i)≤maxPc n t k
 | 0,i,h=>by omega
 | k+1,i,h=>by
  simp only [maxPc]
  by_cases e:i=k
  ·subst e; omega
  ·have:=Qqv (n:=n) (t:=t) k i (by omega); omega
theorem Qq3 {n:Nat} {t:Qe}:∀k,maxPc n t k≤n
 | 0=>Nat.zero_le _
 | k+1=>by
  have:=Qq3 (n:=n) (t:=t) k
  have h2:pc n (cqN t k)≤n:=Q2q n _
  simp only [maxPc]; omega
theorem Qv0 {n:Nat} {q:Nat → List Nat} {t:Qe} (hn:n≤8) (h:Vi t) (ht:Jj n q t):Qb fuel (Jk t) (0,0)=some (maxPc n t t.Cliques.length:Int):=by
 have hlen:=h.2.1
 have hr:=Vh (n:=t.Cliques.length) (k0:=0) (by omega) (by omega) (fun i (e:Int)=>(e,i)) (body:=Jk t) (fun i=>(maxPc n t i:Int)) (maxPc n t t.Cliques.length:Int)
  (fun i _ hi=>by
   obtain ⟨e1,e2⟩:=Qa3 h hi
   have:=(ht.cq i hi).2.1
   unfold Jk
   dsimp only
   rw [if_pos (dlt hi),e1,Option.bind_some,Qv3 (by omega) this,Option.bind_some,Qyr]
   rfl)
  (by unfold Jk; dsimp only; rw [if_neg (nlt _)])
 exact hr
theorem Qui {n:Nat} {g:Int} {F:Nat → Tapi_Node} {t:Qe} (hb:NB n F) (hbig:n≤1000) (h:Vi t) :
  (¬ K4 n g F∧Vd ⟨g,Qd n F⟩ t=some (0,50))∨(K4 n g F∧¬ Jj n (Qi F) t∧Vd ⟨g,Qd n F⟩ t=some (0,100))∨(K4 n g F∧Jj n (Qi F) t∧Vd ⟨g,Qd n F⟩ t=some ((maxPc n t t.Cliques.length:Int) - 1,0)):=by
 unfold Vd
 rcases Qmp (g:=g) hb hbig h with ⟨hf,e⟩ | ⟨hf,ht,e⟩ | ⟨hf,ht,e⟩
 ·exact .inl ⟨hf,by rw [e,Option.bind_some,if_pos (by decide)]⟩
 ·exact .inr (.inl ⟨hf,ht,by rw [e,Option.bind_some,if_pos (by decide)]⟩)
 ·refine .inr (.inr ⟨hf,ht,?_⟩)
  have:=Qq3 (n:=n) (t:=t) t.Cliques.length
  have hn:=hf.n8
  rw [e,Option.bind_some,if_neg (by decide),Qv0 hf.n8 h ht,Option.bind_some,w64 (by omega)]
theorem Qpj {t:Qe} {x:Nat}:∀i,(ahead t i).testBit x=true↔∃j,j < i∧(cqN t j).testBit x=true
 | 0=>by simp [ahead]
 | i+1=>by
  simp only [ahead]
  rw [Nat.testBit_or,Bool.or_eq_true,Qpj i]
  constructor
  ·rintro (⟨j,h1,h2⟩ | h)
   ·exact ⟨j,by omega,h2⟩
   ·exact ⟨i,by omega,h⟩
  ·rintro ⟨j,h1,h2⟩
   by_cases e:j=i
   ·subst e; exact .inr h2
   ·exact .inl ⟨j,by omega,h2⟩
end Go.Ab
namespace Go.Ab
open Go
set_option maxRecDepth 100000
set_option maxHeartbeats 400000
def plc (n:Nat) (o:List Nat) (m:Nat):Nat := msk n fun i=>m.testBit (o.getD i n)
theorem Qqg {n m:Nat} {o:List Nat}:plc n o m < 2^n:=Z2 n _
theorem Qct {n i m:Nat} {o:List Nat} (hi:i < n):(plc n o m).testBit i=m.testBit (o.getD i n):=by unfold plc; rw [Zl]; simp [hi]
theorem Qn1 {n a b:Nat} {o:List Nat}:plc n o (a &&& b)=plc n o a &&& plc n o b:=Nat.eq_of_testBit_eq fun j=>by
 unfold plc; rw [Nat.testBit_and,Zl,Zl,Zl,Nat.testBit_and]; cases decide (j < n) <;> simp
theorem Q2i {n a b:Nat} {o:List Nat}:plc n o (a ||| b)=plc n o a ||| plc n o b:=Nat.eq_of_testBit_eq fun j=>by
 unfold plc; rw [Nat.testBit_or,Zl,Zl,Zl,Nat.testBit_or]; cases decide (j < n) <;> simp
theorem Qr4 {n:Nat} {o:List Nat}:plc n o 0=0:=Nat.eq_of_testBit_eq fun j=>by unfold plc; rw [Zl]; simp
theorem Qvb (n:Nat) (p:Nat → Bool):cnt n p=(List.range n).countP p:=by
 induction n with
 | zero=>rfl
 | succ n ih =>
  rw [List.range_succ,List.countP_append,←ih]
  simp only [cnt,List.countP_cons,List.countP_nil]
  cases p n <;> rfl
theorem Qqo {n:Nat} {o:List Nat} (p:Nat → Bool):∀k,k≤o.length→cnt k (fun i=>p (o.getD i n))=(o.take k).countP p
 | 0,_=>rfl
 | k+1,hk=>by
  rw [Zg (by omega),List.countP_append,←Qqo (n:=n) p k (by omega)]
  have e:o.getD k n=o[k]:=by simp [List.getD,show k < o.length by omega]
  simp only [cnt,e,List.countP_cons,List.countP_nil]
  cases p o[k] <;> rfl
theorem Qzs {n:Nat} {o:List Nat} (ho:Ord n o):o.Perm (List.range n):=(List.perm_ext_iff_of_nodup ho.nodup List.nodup_range).2 fun a=>⟨fun h=>List.mem_range.2 (ho.lt a h),fun h=>Qbh ho.nodup ho.lt ho.len a (List.mem_range.1 h)⟩
theorem Q0z {n:Nat} {o:List Nat} (ho:Ord n o) (p:Nat → Bool):cnt n (fun i=>p (o.getD i n))=cnt n p:=by
 have:=Qqo (n:=n) (o:=o) p n (by rw [ho.len]; omega)
 rw [this,List.take_of_length_le (by rw [ho.len]; omega),Qvb,(Qzs ho).countP_eq]
theorem Qyk {n a:Nat} {o:List Nat} (ho:Ord n o):pc n (plc n o a)=pc n a:=by
 unfold pc
 rw [←Q0z ho a.testBit]
 exact Qdl fun i hi=>Qct hi
theorem Q2f {n j:Nat} {o:List Nat} (ho:Ord n o) (hj:j < n):∃i,i < n∧o.getD i n=j:=by
 obtain ⟨i,hi,e⟩:=List.mem_iff_getElem.1 (Qbh ho.nodup ho.lt ho.len j hj)
 have:=ho.len
 exact ⟨i,by omega,by simp [List.getD,hi,e]⟩
theorem Qrs {n a j:Nat} (ha:a < 2^n) (h:a.testBit j=true):j < n:=by
 apply Nat.lt_of_not_le
 intro hle
 have:=Nat.lt_of_lt_of_le ha (Nat.pow_le_pow_right (n:=2) (by omega) hle)
 rw [Nat.testBit_lt_two_pow this] at h; cases h
theorem Qol {n a b:Nat} {o:List Nat} (ho:Ord n o) (ha:a < 2^n):subB (plc n o a) (plc n o b)=subB a b:=by
 rw [Bool.eq_iff_iff,Yr,Yr]
 constructor
 ·intro h j hj
  obtain ⟨i,hi,rfl⟩:=Q2f ho (Qrs ha hj)
  rw [←Qct (o:=o) hi] at hj ⊢
  exact h i hj
 ·intro h i hi
  have hin:=Qrs Qqg hi
  rw [Qct hin] at hi ⊢
  exact h _ hi
theorem Qcy {n:Nat} {o l:List Nat} {k:Nat}:(l.map (plc n o)).getD k 0=plc n o (l.getD k 0):=by
 simp only [List.getD,List.getElem?_map]
 cases l[k]? with
 | none=>simp [Qr4]
 | some x=>rfl
theorem Qzf {n s:Nat} {o acc:List Nat} (ho:Ord n o) (hs:s < 2^n):Kn (acc.map (plc n o)) (plc n o s)=(Kn acc s).map (plc n o):=by
 unfold Kn
 have:(acc.map (plc n o)).any (subB (plc n o s))=acc.any (subB s):=by
  rw [List.any_map]
  congr 1
  exact funext fun x=>Qol ho hs
 rw [this]
 split
 ·rfl
 ·rw [List.map_append]; rfl
theorem Qso {n:Nat} {o:List Nat} (ho:Ord n o):∀(l acc:List Nat),(∀s∈l,s < 2^n)→(l.map (plc n o)).foldl Kn (acc.map (plc n o))=(l.foldl Kn acc).map (plc n o)
 | [],acc,_=>rfl
 | s::l,acc,h=>by
  simp only [List.map_cons,List.foldl_cons]
  rw [Qzf ho (h s (by simp)),Qso ho l _ fun x hx=>h x (List.mem_cons_of_mem _ hx)]
theorem Qze {n:Nat} {o l:List Nat} (ho:Ord n o) (h:∀s∈l,s < 2^n):Zx (l.map (plc n o))=(Zx l).map (plc n o):=Qso ho l [] h
theorem Qub {n s:Nat} {o cl:List Nat} (ho:Ord n o):com n (cl.map (plc n o)) (plc n o s)=com n cl s:=by
 unfold com
 rw [List.foldl_map]
 congr 1
 exact funext fun m=>funext fun c=>by rw [←Qn1,Qyk ho]
theorem Qpq {n:Nat} {o cl left:List Nat} (ho:Ord n o):∀k,Vs n (cl.map (plc n o)) (left.map (plc n o)) k=Vs n cl left k
 | 0=>rfl
 | k+1=>by simp only [Vs,Qpq ho k,Qcy,Qub ho]
theorem Q03 {n s:Nat} {o cl:List Nat} (ho:Ord n o):upI n (cl.map (plc n o)) (plc n o s)=upI n cl s:=by
 unfold upI
 rw [List.findIdx_map]
 congr 1
 exact funext fun c=>by simp only [Function.comp,Qub ho,←Qn1,Qyk ho]
theorem Qye {α β:Type} (f:α→β) (l:List α) (i:Nat):(l.map f).eraseIdx i=(l.eraseIdx i).map f:=by
 rw [List.eraseIdx_eq_take_drop_succ,List.eraseIdx_eq_take_drop_succ,List.map_append,List.map_take,List.map_drop]
theorem Qtg {n:Nat} {o:List Nat} (ho:Ord n o):∀(k:Nat) (left cl up:List Nat),bld n k (left.map (plc n o)) (cl.map (plc n o)) up=((bld n k left cl up).1.map (plc n o),(bld n k left cl up).2)
 | 0,_,_,_=>rfl
 | k+1,left,cl,up=>by
  have hp:pickI n (cl.map (plc n o)) (left.map (plc n o))=pickI n cl left:=by unfold pickI; rw [List.length_map,Qpq ho]
  simp only [bld]
  rw [hp,Qcy,Q03 ho,Qye,show cl.map (plc n o)++[plc n o (left.getD (pickI n cl left) 0)]=(cl++[left.getD (pickI n cl left) 0]).map (plc n o) by simp,Qtg ho k]
def trL (n:Nat) (l:List Nat):List Nat × List Nat := bld n ((Zx l).length - 1) ((Zx l).take ((Zx l).length - 1)) [(Zx l).getD ((Zx l).length - 1) 0] []
theorem Q1v {n:Nat} {A:Gr} {o:List Nat}:mkB n A o=trL n (Q0 n A o):=rfl
theorem Q1j {n:Nat} {o l:List Nat} (ho:Ord n o) (h:∀s∈l,s < 2^n):trL n (l.map (plc n o))=((trL n l).1.map (plc n o),(trL n l).2):=by
 unfold trL
 rw [Qze ho h,List.length_map,←List.map_take,Qcy]
 exact Qtg ho _ _ [_] []
def orU (l:List Nat) (i:Nat):Nat := (l.take i).foldl (fun a b=>a ||| b) 0
def okB (x:List Nat × List Nat):Bool:=(List.range x.1.length).all fun i=>(Nat.beq i 0 || (Nat.blt (x.2.getD (i - 1) 0) i && subB (x.1.getD i 0 &&& orU x.1 i) (x.1.getD (x.2.getD (i - 1) 0) 0))) && (List.range x.1.length).all fun j=>Nat.beq i j || !subB (x.1.getD i 0) (x.1.getD j 0)
theorem Qte {n:Nat} {o:List Nat}:∀(l:List Nat) (a:Nat),(l.map (plc n o)).foldl (fun a b=>a ||| b) (plc n o a)=plc n o (l.foldl (fun a b=>a ||| b) a)
 | [],a=>rfl
 | x::l,a=>by simp only [List.map_cons,List.foldl_cons]; rw [←Q2i,Qte l]
theorem Q0x {n i:Nat} {o l:List Nat}:orU (l.map (plc n o)) i=plc n o (orU l i):=by
 unfold orU
 rw [←List.map_take,←Qte,Qr4]
theorem Qtm {n:Nat} {l:List Nat} (h:∀s∈l,s < 2^n) (i:Nat):l.getD i 0 < 2^n:=by
 have:=Nat.two_pow_pos n
 by_cases c:i < l.length
 ·have e:l.getD i 0=l[i]:=by simp [List.getD,c]
  rw [e]; exact h _ (List.getElem_mem c)
 ·have e:l.getD i 0=0:=by simp [List.getD,List.getElem?_eq_none (show l.length≤i by omega)]
  rw [e]; exact this
theorem Q1t {n:Nat} {o:List Nat} {x:List Nat × List Nat} (ho:Ord n o) (h:∀s∈x.1,s < 2^n):okB (x.1.map (plc n o),x.2)=okB x:=by
 unfold okB
 simp only [List.length_map,Qcy,Q0x,←Qn1]
 congr 1
 funext i
 rw [Qol ho (Nat.lt_of_le_of_lt Nat.and_le_left (Qtm h i))]
 congr 1
 congr 1
 funext j
 rw [Qol ho (Qtm h i)]
def Qqd (n i x:Nat) (L:List Nat):Bool:=(List.range n).all fun j=>if Nat.blt j i then !x.testBit j else if Nat.beq j i then x.testBit i else !x.testBit j || subB ((x >>> j) <<< j) (L.getD (j - i - 1) 0)
def gen (n:Nat):Nat → List (List Nat)
 | 0=>[[]]
 | k+1=>(gen n k).flatMap fun L=>((List.range (2^n)).filter fun x=>Qqd n (n - (k+1)) x L).map (·::L)
theorem Qtz {n:Nat} {T:List Nat} (hT:T.length=n) (hlt:∀s∈T,s < 2^n) (hs:∀i,i < n→Qqd n i (T.getD i 0) (T.drop (i+1))=true):∀k,k≤n→T.drop (n - k)∈gen n k
 | 0,_=>by
  rw [List.drop_of_length_le (by omega)]; simp [gen]
 | k+1,hk=>by
  have ih:=Qtz hT hlt hs k (by omega)
  have hi:n - (k+1) < T.length:=by omega
  have e:T.drop (n - (k+1))=T[n - (k+1)]::T.drop (n - k):=by
   rw [List.drop_eq_getElem_cons hi,show n - (k+1)+1=n - k by omega]
  have e2:T.getD (n - (k+1)) 0=T[n - (k+1)]:=by simp [List.getD,hi]
  have h:=hs (n - (k+1)) (by omega)
  rw [e2,show n - (k+1)+1=n - k by omega] at h
  simp only [gen,List.mem_flatMap,List.mem_map,List.mem_filter,List.mem_range]
  exact ⟨_,ih,_,⟨hlt _ (List.getElem_mem hi),h⟩,e.symm⟩
theorem Q34:((gen 1 1).all fun T=>okB (trL 1 T))=true:=by kernel_rfl
theorem Q4b:((gen 2 2).all fun T=>okB (trL 2 T))=true:=by kernel_rfl
theorem Q37:((gen 3 3).all fun T=>okB (trL 3 T))=true:=by kernel_rfl
theorem Q32:((gen 4 4).all fun T=>okB (trL 4 T))=true:=by kernel_rfl
theorem Q3z:((gen 5 5).all fun T=>okB (trL 5 T))=true:=by kernel_rfl
theorem Qkq {n:Nat}:∀(o:List Nat) (A:Gr) (i:Nat) (hi:i < o.length),(Q0 n A o).getD i 0=msk n (setP (seqA A (o.take i)) o[i])
 | v::o,A,0,hi=>rfl
 | v::o,A,i+1,hi=>by
  simp only [Q0,List.getD_cons_succ,List.take_succ_cons,List.getElem_cons_succ]
  rw [Qkq o (elim A v) i (by simpa using hi)]; rfl
theorem Q0a {A:Gr} {v u w:Nat} (h:A u w=true) (h1:¬ u=v) (h2:¬ w=v):elim A v u w=true:=by unfold elim; simp [h,h1,h2]
theorem Qrn {n:Nat}:∀(o:List Nat) (A:Gr) (j k:Nat) (hj:j < o.length) (hk:k < o.length),o.Nodup→(∀v∈o,v < n)→j < k→A o[j] o[k]=true→((Q0 n A o).getD j 0).testBit o[k]=true
 | v::o,A,0,k+1,hj,hk,hn,hl,hjk,h=>by
  simp only [Q0,List.getD_cons_zero]
  rw [Zl,decide_eq_true (hl _ (List.getElem_mem hk))]
  unfold setP
  have h:A v (o[k]'(by simpa using hk))=true:=h
  simp [h]
 | v::o,A,j+1,k+1,hj,hk,hn,hl,hjk,h=>by
  simp only [Q0,List.getD_cons_succ,List.getElem_cons_succ] at h ⊢
  have hno:=(List.nodup_cons.1 hn).1
  refine Qrn o _ j k (by simpa using hj) (by simpa using hk) (List.nodup_cons.1 hn).2 (fun x hx=>hl x (List.mem_cons_of_mem _ hx)) (by omega) (Q0a h (fun e=>?_) fun e=>?_)
  ·exact hno (by rw [←e]; exact List.getElem_mem _)
  ·exact hno (by rw [←e]; exact List.getElem_mem _)
theorem Qry {o:List Nat} (h:o.Nodup) {i j:Nat} (hi:i < o.length) (hj:j < o.length) (hij:i≠j):¬ o[i]=o[j]:=by
 rcases Nat.lt_or_gt_of_ne hij with c | c
 ·exact (List.pairwise_iff_getElem.1 h) i j hi hj c
 ·exact fun e=>(List.pairwise_iff_getElem.1 h) j i hj hi c e.symm
theorem Qnr {n:Nat}:∀(o:List Nat) (A:Gr) (i j k:Nat) (hj:j < o.length) (hk:k < o.length),o.Nodup→(∀v∈o,v < n)→i < j→j < k→((Q0 n A o).getD i 0).testBit o[j]=true→((Q0 n A o).getD i 0).testBit o[k]=true→((Q0 n A o).getD j 0).testBit o[k]=true
 | v::o,A,0,j+1,k+1,hj,hk,hn,hl,hij,hjk,h1,h2=>by
  simp only [Q0,List.getD_cons_zero,List.getD_cons_succ,List.getElem_cons_succ] at h1 h2 ⊢
  have hno:=(List.nodup_cons.1 hn).1
  have hj':j < o.length:=by simpa using hj
  have hk':k < o.length:=by simpa using hk
  have n1:¬ v=o[j]:=fun e=>hno (by rw [e]; exact List.getElem_mem _)
  have n2:¬ v=o[k]:=fun e=>hno (by rw [e]; exact List.getElem_mem _)
  have n3:=Qry (List.nodup_cons.1 hn).2 hj' hk' (by omega)
  rw [Zl] at h1 h2
  unfold setP at h1 h2
  simp only [n1,n2,decide_false,Bool.or_false,Bool.and_eq_true] at h1 h2
  refine Qrn o _ j k hj' hk' (List.nodup_cons.1 hn).2 (fun x hx=>hl x (List.mem_cons_of_mem _ hx)) (by omega) ?_
  unfold elim
  simp [h1.2,h2.2,n3,show ¬ o[j]=v from fun e=>n1 (Eq.symm e),show ¬ o[k]=v from fun e=>n2 (Eq.symm e)]
 | v::o,A,i+1,j+1,k+1,hj,hk,hn,hl,hij,hjk,h1,h2=>by
  simp only [Q0,List.getD_cons_succ,List.getElem_cons_succ] at h1 h2 ⊢
  exact Qnr o _ i j k (by simpa using hj) (by simpa using hk) (List.nodup_cons.1 hn).2 (fun x hx=>hl x (List.mem_cons_of_mem _ hx)) (by omega) (by omega) h1 h2
theorem Qy6 {n:Nat} {A:Gr} {o:List Nat} (hG:Vx n A) (ho:Ord n o) {i:Nat} (hi:i < n):Qqd n i (((Q0 n A o).map (plc n o)).getD i 0) (((Q0 n A o).map (plc n o)).drop (i+1))=true:=by
 have hlen:=ho.len
 have hoi:∀j (hj:j < n),o.getD j n=o[j]'(by omega):=fun j hj=>by simp [List.getD,show j < o.length by omega]
 unfold Qqd
 rw [List.all_eq_true]
 intro j hj
 have hj:=List.mem_range.1 hj
 rw [Qcy]
 by_cases c:j < i
 ·rw [if_pos (by simpa using c),Qct hj,hoi j hj,Qkq o A i (by omega),Zl]
  unfold setP
  have h1:=Qh3 (o:=o.take i) (x:=o[j]'(by omega)) hG (.inl (List.mem_take_iff_getElem.2 ⟨j,by omega,rfl⟩)) (o[i]'(by omega))
  rw [(Qf3 (o:=o.take i) hG).sym,h1]
  have:=Qry ho.nodup (show i < o.length by omega) (show j < o.length by omega) (by omega)
  simp [this]
 ·rw [if_neg (by simpa using c)]
  by_cases e:j=i
  ·subst e
   rw [if_pos (by simp),Qct hj,hoi j hj,Qkq o A j (by omega),Zl,decide_eq_true (ho.lt _ (List.getElem_mem _))]
   unfold setP; simp
  ·rw [if_neg (by simpa using e)]
   cases hb:(plc n o ((Q0 n A o).getD i 0)).testBit j with
   | false=>rfl
   | true =>
    simp only [Bool.not_true,Bool.false_or]
    rw [Yr]
    intro k hk
    have ed:(((Q0 n A o).map (plc n o)).drop (i+1)).getD (j - i - 1) 0=plc n o ((Q0 n A o).getD j 0):=by
     rw [←Qcy]
     simp only [List.getD,List.getElem?_drop]
     rw [show i+1+(j - i - 1)=j by omega]
    rw [ed]
    rw [Nat.testBit_shiftLeft,Bool.and_eq_true,Nat.testBit_shiftRight] at hk
    obtain ⟨h1,h2⟩:=hk
    have h1:j≤k:=by simpa using h1
    rw [show j+(k - j)=k by omega] at h2
    have hk:=Qrs Qqg h2
    rw [Qct hj,hoi j hj] at hb
    rw [Qct hk,hoi k hk] at h2 ⊢
    by_cases e2:j=k
    ·subst e2
     rw [Qkq o A j (by omega),Zl,decide_eq_true (ho.lt _ (List.getElem_mem _))]
     unfold setP; simp
    ·exact Qnr o A i j k (by omega) (by omega) ho.nodup ho.lt (by omega) (by omega) hb h2
theorem Q2z {n:Nat} {A:Gr} {o:List Nat} (h1:1≤n) (h5:n≤5) (hG:Vx n A) (ho:Ord n o):okB (mkB n A o)=true:=by
 have hlt:∀s∈(mkB n A o).1,s < 2^n:=fun s hs=>Qeg o A s (Qft (((Qej (n:=n) (A:=A) (o:=o) (by rw [ho.len]; omega)).1 s).2 hs))
 have hg:(Q0 n A o).map (plc n o)∈gen n n:=by
  have:=Qtz (n:=n) (T:=(Q0 n A o).map (plc n o)) (by rw [List.length_map,Qfe,ho.len]) (fun s hs=>by
   obtain ⟨x,_,rfl⟩:=List.mem_map.1 hs
   exact Qqg) (fun i hi=>Qy6 hG ho hi) n (Nat.le_refl _)
  rwa [Nat.sub_self,List.drop_zero] at this
 have hall:okB (trL n ((Q0 n A o).map (plc n o)))=true:=by
  have:n=1∨n=2∨n=3∨n=4∨n=5:=by omega
  rcases this with e | e | e | e | e <;> subst e
  ·exact List.all_eq_true.1 Q34 _ hg
  ·exact List.all_eq_true.1 Q4b _ hg
  ·exact List.all_eq_true.1 Q37 _ hg
  ·exact List.all_eq_true.1 Q32 _ hg
  ·exact List.all_eq_true.1 Q3z _ hg
 rw [Q1j ho (Qeg o A),←Q1v,Q1t ho hlt] at hall
 exact hall
end Go.Ab
namespace Go.Ab
open Go
set_option maxRecDepth 100000
set_option maxHeartbeats 400000
section
variable {n:Nat} {q:Nat → List Nat} {o:List Nat}
theorem Qau (i:Nat):cqN (mkT n q o) i=(mkB n (mg n q) o).1.getD i 0:=by
 show (((nI (mkB n (mg n q) o).1)[i]?).getD 0).toNat = _
 unfold nI
 rw [List.getElem?_map,List.getD_eq_getElem?_getD]
 cases (mkB n (mg n q) o).1[i]? <;> simp
theorem Qz7:upA (mkT n q o) 0=-1:=rfl
theorem Q2g (i:Nat):upA (mkT n q o) (i+1)=((mkB n (mg n q) o).2.getD i 0:Int):=by
 show ((nI (mkB n (mg n q) o).2)[i]?).getD 0=_
 unfold nI
 rw [List.getElem?_map,List.getD_eq_getElem?_getD]
 cases (mkB n (mg n q) o).2[i]? <;> simp
theorem Qsc {v:Nat} (hv:v < n):hmA (mkT n q o) v=(homeI (mkB n (mg n q) o).1 (msk n (FG q v)):Int):=by
 show ((nI ((List.range n).map fun v=>homeI (mkB n (mg n q) o).1 (msk n (FG q v))))[v]?).getD 0=_
 unfold nI
 rw [List.getElem?_map,List.getElem?_map,List.getElem?_range hv]
 rfl
theorem Qr5:∀i,i≤(mkB n (mg n q) o).1.length→ahead (mkT n q o) i=orU (mkB n (mg n q) o).1 i
 | 0,_=>rfl
 | i+1,h=>by
  simp only [ahead]
  rw [Qr5 i (by omega),Qau]
  unfold orU
  rw [Zg (by omega),List.foldl_append]
  have e:(mkB n (mg n q) o).1.getD i 0=(mkB n (mg n q) o).1[i]:=by simp [List.getD,show i < (mkB n (mg n q) o).1.length by omega]
  rw [e]; rfl
theorem Qsg:(mkT n q o).Cliques.length=(mkB n (mg n q) o).1.length:=Qo _
end
theorem Qse {n:Nat}:∀(o:List Nat) (A:Gr),(∀v∈o,v < n)→∀s∈Q0 n A o,s≠0
 | v::o,A,hl,s,hs=>by
  simp only [Q0,List.mem_cons] at hs
  rcases hs with rfl | hs
  ·intro h
   have hb:(msk n (setP A v)).testBit v=true:=by rw [Zl,decide_eq_true (hl v (by simp))]; unfold setP; simp
   rw [h,Nat.zero_testBit] at hb; cases hb
  ·exact Qse o _ (fun x hx=>hl x (List.mem_cons_of_mem _ hx)) s hs
structure Q38 (n:Nat) (A:Gr) (o:List Nat):Prop where
 up:∀i,0 < i→i < (mkB n A o).1.length→(mkB n A o).2.getD (i - 1) 0 < i∧Qga ((mkB n A o).1.getD i 0 &&& orU (mkB n A o).1 i) ((mkB n A o).1.getD ((mkB n A o).2.getD (i - 1) 0) 0)
 anti:∀i j,i < (mkB n A o).1.length→j < (mkB n A o).1.length→i≠j→subB ((mkB n A o).1.getD i 0) ((mkB n A o).1.getD j 0)=false
theorem Q0f {n:Nat} {A:Gr} {o:List Nat} (h1:1≤n) (h5:n≤5) (hG:Vx n A) (ho:Ord n o):Q38 n A o:=by
 have h:=Q2z h1 h5 hG ho
 unfold okB at h
 rw [List.all_eq_true] at h
 constructor
 ·intro i h0 hi
  have:=h i (List.mem_range.2 hi)
  rw [Bool.and_eq_true,Bool.or_eq_true,Bool.and_eq_true] at this
  rcases this.1 with e | ⟨a,b⟩
  ·have:=Nat.eq_of_beq_eq_true e; omega
  ·exact ⟨by simpa [Nat.blt_eq] using a,Yr.1 b⟩
 ·intro i j hi hj hne
  have:=h i (List.mem_range.2 hi)
  rw [Bool.and_eq_true,List.all_eq_true] at this
  have:=this.2 j (List.mem_range.2 hj)
  rw [Bool.or_eq_true] at this
  rcases this with e | e
  ·exact absurd (Nat.eq_of_beq_eq_true e) hne
  ·simpa using e
theorem Qr0 {n:Nat} {A:Gr} {o:List Nat} (h1:1≤n) (ho:Ord n o):∀s∈(mkB n A o).1,s∈Q0 n A o∧s < 2^n:=fun s hs=>by
 have hm:=Qft (((Qej (n:=n) (A:=A) (o:=o) (by rw [ho.len]; omega)).1 s).2 hs)
 exact ⟨hm,Qeg o A s hm⟩
theorem Qq0 {l:List Nat} {i:Nat} (hi:i < l.length):l.getD i 0∈l:=by
 have e:l.getD i 0=l[i]:=by simp [List.getD,hi]
 rw [e]; exact List.getElem_mem hi
theorem Qxg {n:Nat} {q:Nat → List Nat} {o:List Nat} (h1:1≤n) (hn:n≤8) (ho:Ord n o):Vi (mkT n q o):=by
 obtain ⟨l1,l2,l3,l4⟩:=Qoc (q:=q) ho h1
 have p8:(2:Nat)^n≤256:=Nat.pow_le_pow_right (n:=2) (by omega) hn
 refine ⟨fun c hc=>?_,by omega,by omega,by omega⟩
 have hc:c∈nI (mkB n (mg n q) o).1:=hc
 unfold nI at hc
 obtain ⟨x,hx,rfl⟩:=List.mem_map.1 hc
 have:=(Qr0 h1 ho x hx).2
 omega
theorem Q21 {n:Nat} {q:Nat → List Nat} {o:List Nat} (h1:1≤n) (h5:n≤5) (hq:∀v,v < n→∀p∈q v,p < n) (ho:Ord n o):Jj n q (mkT n q o):=by
 obtain ⟨l1,l2,l3,l4⟩:=Qoc (q:=q) ho h1
 have M:=Q0f h1 h5 (Qhf (n:=n) (q:=q)) ho
 have hlen:(mkT n q o).Cliques.length=(mkB n (mg n q) o).1.length:=Qsg
 refine ⟨l2,by omega,l3,l4,fun i hi=>?_,fun v hv=>?_⟩
 ·rw [hlen] at hi
  obtain ⟨m1,m2⟩:=Qr0 h1 ho _ (Qq0 hi)
  refine ⟨?_,?_,fun e=>by subst e; exact Qz7,fun h0=>?_⟩
  ·rw [Qau]; exact Qse o _ ho.lt _ m1
  ·rw [Qau]; exact m2
  ·obtain ⟨i,rfl⟩:∃j,i=j+1:=⟨i - 1,by omega⟩
   obtain ⟨a,b⟩:=M.up (i+1) h0 hi
   rw [Nat.add_sub_cancel] at a b
   rw [Q2g]
   refine ⟨by omega,by omega,?_⟩
   rw [Int.toNat_natCast,Qau,Qau,Qr5 _ (by omega)]
   exact b
 ·have hf:=Qyb ho hv (hq v hv)
  have h3:=Qtx hf
  refine ⟨by rw [Qsc hv]; omega,by rw [Qsc hv,hlen]; omega,?_⟩
  rw [Qsc hv,Int.toNat_natCast,Qau]
  have:=List.findIdx_getElem (w:=h3)
  have e:(mkB n (mg n q) o).1.getD (homeI (mkB n (mg n q) o).1 (msk n (FG q v))) 0=(mkB n (mg n q) o).1[homeI (mkB n (mg n q) o).1 (msk n (FG q v))]:=by simp [List.getD,h3]
  rw [e]; exact this
theorem Qxr {n v:Nat} {A:Gr} (hG:Vx n A) (hv:v < n):pc n (msk n (setP A v))=cnt n (A v)+1:=by
 unfold pc
 have h:=Q05 (n:=n) (v:=v) (p:=setP A v) hv (by unfold setP; simp)
 have e:cnt n (fun i=>setP A v i && !decide (v=i))=cnt n (A v):=Qdl fun i _=>by
  unfold setP
  by_cases c:v=i
  ·subst c; simp [hG.irr]
  ·simp [c]
 rw [e] at h
 rw [show cnt n (msk n (setP A v)).testBit=cnt n (setP A v) from Qdl fun i hi=>Jr i hi]
 omega
theorem Qrq {n:Nat}:∀(o:List Nat) (A:Gr),Vx n A→(∀v∈o,v < n)→∀s∈Q0 n A o,pc n s≤widL n A o+1
 | v::o,A,hG,hl,s,hs=>by
  simp only [Q0,List.mem_cons] at hs
  simp only [widL]
  rcases hs with rfl | hs
  ·rw [Qxr hG (hl v (by simp))]; omega
  ·have:=Qrq o _ (Qfy hG v) (fun x hx=>hl x (List.mem_cons_of_mem _ hx)) s hs; omega
theorem Qsa {n:Nat}:∀(o:List Nat) (A:Gr),Vx n A→(∀v∈o,v < n)→o≠[]→∃s∈Q0 n A o,widL n A o+1≤pc n s
 | v::o,A,hG,hl,_=>by
  simp only [Q0,widL]
  by_cases c:widL n (elim A v) o≤cnt n (A v)
  ·exact ⟨_,List.mem_cons_self ..,by rw [Qxr hG (hl v (by simp))]; omega⟩
  ·have hne:o≠[]:=fun e=>by subst e; simp [widL] at c
   obtain ⟨s,h1,h2⟩:=Qsa o _ (Qfy hG v) (fun x hx=>hl x (List.mem_cons_of_mem _ hx)) hne
   exact ⟨s,List.mem_cons_of_mem _ h1,by omega⟩
theorem Qps {n b:Nat} {t:Qe}:∀k,(∀i,i < k→pc n (cqN t i)≤b)→maxPc n t k≤b
 | 0,_=>Nat.zero_le _
 | k+1,h=>by
  have:=Qps (n:=n) (t:=t) k fun i hi=>h i (by omega)
  have:=h k (by omega)
  simp only [maxPc]; omega
theorem Q1a {n:Nat} {q:Nat → List Nat} {o:List Nat} (h1:1≤n) (ho:Ord n o):maxPc n (mkT n q o) (mkT n q o).Cliques.length=widL n (mg n q) o+1:=by
 have hlen:(mkT n q o).Cliques.length=(mkB n (mg n q) o).1.length:=Qsg
 have hG:=Qhf (n:=n) (q:=q)
 have hop:0 < o.length:=by rw [ho.len]; omega
 apply Nat.le_antisymm
 ·refine Qps _ fun i hi=>?_
  rw [hlen] at hi
  rw [Qau]
  exact Qrq o _ hG ho.lt _ (Qr0 h1 ho _ (Qq0 hi)).1
 ·obtain ⟨s,hs,hw⟩:=Qsa o _ hG ho.lt (List.ne_nil_of_length_pos hop)
  obtain ⟨e,h3,h4⟩:=Qh7 (l:=Q0 n (mg n q) o) _ (Nat.le_refl _) s (by rw [List.take_length]; exact hs)
  rw [List.take_length] at h3
  have h5:=((Qej (n:=n) (A:=mg n q) hop).1 e).1 h3
  obtain ⟨i,hi,rfl⟩:=List.mem_iff_getElem.1 h5
  have e1:(mkB n (mg n q) o).1.getD i 0=(mkB n (mg n q) o).1[i]:=by simp [List.getD,hi]
  have h6:=Qqv (n:=n) (t:=mkT n q o) (mkT n q o).Cliques.length i (by omega)
  rw [Qau,e1] at h6
  have h7:pc n s≤pc n (mkB n (mg n q) o).1[i]:=Qz4 fun j _ hj=>Yr.1 h4 j hj
  omega
end Go.Ab
namespace Go.Ab
open Go
set_option maxRecDepth 100000
set_option maxHeartbeats 400000
theorem Qsd {a k:Nat} (ha:a < 18446744073709551616) (hk:k < 64) :
  ((zv (zb (Int.fdiv (a:Int) (2^min (Int.toNat (k:Int)) (IntKind.bits .u64))) &&& zb 1).toNat)==0)=!a.testBit k:=by
 rw [Qb8 ha hk]
 cases a.testBit k <;> rfl
section
variable {n:Nat} {q:Nat → List Nat} {t:Qe} {w:Int}
theorem Qei (h:Vi t) (ht:Jj n q t) (hn:n≤8) {i:Nat} (hi:i < t.Cliques.length):lkI t.Cliques (i:Int)=some ((cqN t i:Nat):Int)∧cqN t i < 2^n∧cqN t i < 18446744073709551616:=⟨(Qa3 h hi).1,(ht.cq i hi).2.1,(Qa3 h hi).2⟩
theorem Q1l (ht:Jj n q t) {i:Nat} (hi:i < t.Cliques.length):lkI t.Up (i:Int)=some (upA t i):=by
 have:=ht.up
 unfold upA; rw [Zm (by omega),List.getElem?_eq_getElem (by omega)]; rfl
theorem Qwz (ht:Jj n q t) {v:Nat} (hv:v < n):lkI t.Home (v:Int)=some (hmA t v):=by
 have:=ht.home
 unfold hmA; rw [Zm (by omega),List.getElem?_eq_getElem (by omega)]; rfl
theorem Qw7 (h:Vi t) (ht:Jj n q t) (hn:n≤8) (ha:∀i j,i < t.Cliques.length→j < t.Cliques.length→i≠j→subB (cqN t i) (cqN t j)=false) {i:Nat} (hi:i < t.Cliques.length) :
  Qb fuel (Yf (t,w) (i:Int) ((cqN t i:Nat):Int)) 0=some (.inr ()):=by
 have hl:=h.2.1
 have hr:=Vh (n:=t.Cliques.length) (k0:=0) (by omega) (by omega) (fun i (_:Unit)=>i) (body:=Yf (t,w) (i:Int) ((cqN t i:Nat):Int)) (fun _=>()) (.inr ())
  (fun k _ hk=>by
   obtain ⟨e1,_,e2⟩:=Qei h ht hn hk
   obtain ⟨_,_,e3⟩:=Qei h ht hn hi
   unfold Yf
   dsimp only
   rw [if_pos (dlt hk),e1,Option.bind_some]
   by_cases c:i=k
   ·subst c; rw [if_neg (by simp)]
   ·rw [if_pos (by simp; omega),if_neg (by rw [Kw e3 e2,ha i k hi hk c]; simp)])
  (by unfold Yf; dsimp only; rw [if_neg (nlt _)])
 rw [show ((0:Nat):Int)=0 from rfl] at hr
 exact hr
theorem Qxo (h:Vi t) (ht:Jj n q t) (hn:n≤8) (ha:∀i j,i < t.Cliques.length→j < t.Cliques.length→i≠j→subB (cqN t i) (cqN t j)=false) :
  Qb fuel (Yg (t,w)) 0=some (.inr ()):=by
 have hl:=h.2.1
 have hr:=Vh (n:=t.Cliques.length) (k0:=0) (by omega) (by omega) (fun i (_:Unit)=>i) (body:=Yg (t,w)) (fun _=>()) (.inr ())
  (fun k _ hk=>by
   obtain ⟨e1,_,e2⟩:=Qei h ht hn hk
   unfold Yg
   dsimp only
   rw [if_pos (dlt hk),e1,Option.bind_some,Qw7 h ht hn ha hk]; rfl)
  (by unfold Yg; dsimp only; rw [if_neg (nlt _)])
 rw [show ((0:Nat):Int)=0 from rfl] at hr
 exact hr
def cwN (t:Qe) (v:Nat):Nat → Nat
 | 0=>0
 | k+1=>cwN t v k+((cqN t k).testBit v).toNat
theorem Qyd {v:Nat}:∀k,cwN t v k≤k
 | 0=>Nat.le_refl _
 | k+1=>by
  have:=Qyd (v:=v) k
  simp only [cwN]
  cases (cqN t k).testBit v <;> simp <;> omega
theorem Qh4 {v:Nat}:∀k,0 < cwN t v k↔∃j,j < k∧(cqN t j).testBit v=true
 | 0=>by simp [cwN]
 | k+1=>by
  simp only [cwN]
  constructor
  ·intro h
   by_cases c:(cqN t k).testBit v=true
   ·exact ⟨k,by omega,c⟩
   ·simp only [c,Bool.toNat_false] at h
    obtain ⟨j,h1,h2⟩:=(Qh4 k).1 (by simpa using h)
    exact ⟨j,by omega,h2⟩
  ·rintro ⟨j,h1,h2⟩
   by_cases e:j=k
   ·subst e; rw [h2]; simp
   ·have:=(Qh4 k).2 ⟨j,by omega,h2⟩; omega
theorem Qyl (h:Vi t) (ht:Jj n q t) (hn:n≤8) {v:Nat} (hv:v < n) :
  Qb fuel (Yd (t,w) (v:Int)) (0,0)=some (.inr (cwN t v t.Cliques.length:Int)):=by
 have hl:=h.2.1
 have hr:=Vh (n:=t.Cliques.length) (k0:=0) (by omega) (by omega) (fun i (x:Int)=>(x,i)) (body:=Yd (t,w) (v:Int)) (fun k=>(cwN t v k:Int)) (.inr (cwN t v t.Cliques.length:Int))
  (fun k _ hk=>by
   obtain ⟨e1,_,e2⟩:=Qei h ht hn hk
   have hc:=Qyd (t:=t) (v:=v) k
   unfold Yd
   dsimp only
   rw [if_pos (dlt hk),e1,Option.bind_some,if_pos (Zi v),Qsd e2 (by omega)]
   simp only [cwN]
   by_cases c:(cqN t k).testBit v=true
   ·rw [if_neg (by simp [c]),Q1l ht hk,Option.bind_some,c]
    have ew:zw ((cwN t v k:Int)+1)=((cwN t v k+true.toNat : Nat):Int):=by rw [w64 (by omega)]; simp
    by_cases c2:0 < cwN t v k
    ·obtain ⟨j,h1,h2⟩:=(Qh4 k).1 c2
     obtain ⟨u1,u2,u3⟩:=(ht.cq k hk).2.2.2 (by omega)
     obtain ⟨f1,_,f2⟩:=Qei h ht hn (show (upA t k).toNat < t.Cliques.length by omega)
     rw [show (((upA t k).toNat : Nat):Int)=upA t k by omega] at f1
     have hb:=u3 v (by rw [Nat.testBit_and,c,(Qpj k).2 ⟨j,h1,h2⟩]; rfl)
     rw [if_pos (by simpa using c2),if_neg (by simp; omega),if_neg (by simp; omega),f1,Option.bind_some,if_pos (Zi v),Qsd f2 (by omega),hb,if_neg (by simp),ew]
    ·rw [if_neg (by simpa using c2),ew]
   ·rw [if_pos (by simpa using c)]
    simp only [Bool.not_eq_true] at c
    rw [c]; rfl)
  (by unfold Yd; dsimp only; rw [if_neg (nlt _)])
 rw [show ((0:Nat):Int)=0 from rfl] at hr
 exact hr
theorem Qwy (h:Vi t) (ht:Jj n q t) (hn:n≤8) {g:Int} {F:Nat → Tapi_Node} :
  Qb fuel (Ye ⟨g,Qd n F⟩ (t,w)) 0=some (.inr ()):=by
 have hl:=h.2.1
 have hlen:(Qd n F).length=n:=Ya
 have hr:=Vh (n:=n) (k0:=0) (by omega) (by omega) (fun i (_:Unit)=>i) (body:=Ye ⟨g,Qd n F⟩ (t,w)) (fun _=>()) (.inr ())
  (fun v _ hv=>by
   obtain ⟨g1,g2,g3⟩:=ht.hm v hv
   have hi:(hmA t v).toNat < t.Cliques.length:=by omega
   obtain ⟨f1,_,f2⟩:=Qei h ht hn hi
   rw [show (((hmA t v).toNat : Nat):Int)=hmA t v by omega] at f1
   have hb:=Yr.1 g3 v (by rw [Zl]; unfold FG; simp [hv])
   have hp:=(Qh4 (t:=t) (v:=v) t.Cliques.length).2 ⟨_,hi,hb⟩
   unfold Ye
   dsimp only
   rw [hlen,if_pos (dlt hv),Qyl h ht hn hv,Option.bind_some]
   dsimp only
   rw [if_neg (by simp; omega),Qwz ht hv,Option.bind_some,if_neg (by simp; omega),if_neg (by simp; omega),f1,Option.bind_some,if_pos (Zi v),Qsd f2 (by omega),hb,if_neg (by simp)])
  (by unfold Ye; dsimp only; rw [hlen,if_neg (nlt _)])
 rw [show ((0:Nat):Int)=0 from rfl] at hr
 exact hr
end
theorem Qu2 {p0:Qc} {p2:Int × Int × Int × Int × Int × Int × Int × Int} (h0:Y8 p0)
  (h2:(Lit.int .u8 p2.1).wf=true∧(Lit.int .u8 p2.2.1).wf=true∧(Lit.int .u8 p2.2.2.1).wf=true∧(Lit.int .u8 p2.2.2.2.1).wf=true∧(Lit.int .u8 p2.2.2.2.2.1).wf=true∧(Lit.int .u8 p2.2.2.2.2.2.1).wf=true∧(Lit.int .u8 p2.2.2.2.2.2.2.1).wf=true∧(Lit.int .u8 p2.2.2.2.2.2.2.2).wf=true) :
  ∃(D:NF) (o:List Nat),VX D∧1≤D.n∧D.n≤5∧NB D.n D.node∧K4 D.n D.g D.node∧Ord D.n o∧Vr p0=some ⟨D.g,Qd D.n D.node⟩∧Jx (D.n:Int) (-1) p2=some (nI o)∧V0 ⟨D.g,Qd D.n D.node⟩ (nI o)=some (mkT D.n (Qi D.node) o,0)∧Jj D.n (Qi D.node) (mkT D.n (Qi D.node) o)∧Vi (mkT D.n (Qi D.node) o):=by
 obtain ⟨D,X,hn,_,e⟩:=Qwt (Q1r h0)
 have hf:=Qy7 X
 have hb:=Q1g (Qu9 X)
 obtain ⟨o,ho,eo⟩:=Qw5 (n:=D.n) (by omega) (Q16 h2)
 refine ⟨D,o,X,hf.n1,hn,hb,hf,ho,e,eo,?_,Q21 hf.n1 hn (fun v hv=>(Qbu (hf.node v hv).1.1).2.2) ho,Qxg hf.n1 hf.n8 ho⟩
 rcases Qya (g:=D.g) (l:=nI o) hb (by omega) (by rw [Qo,ho.len]; omega) with ⟨hf',_⟩ | ⟨_,hp,_⟩ | ⟨_,o',e1,ho',e2⟩
 ·exact absurd hf hf'
 ·exact absurd (Qtp ho) (fun h=>hp ⟨h,by rw [Qo]; exact ho.len⟩)
 ·have:o=o':=by
   unfold nI at e1
   exact (List.map_inj_right (fun a b h=>by omega)).1 e1
  subst this; exact e2
theorem stands_true (p0:Qc) (p1:Int × Int × Int × Int × Int × Int × Int × Int) (h0:Y8 p0)
  (h1:(Lit.int .u8 p1.1).wf=true∧(Lit.int .u8 p1.2.1).wf=true∧(Lit.int .u8 p1.2.2.1).wf=true∧(Lit.int .u8 p1.2.2.2.1).wf=true∧(Lit.int .u8 p1.2.2.2.2.1).wf=true∧(Lit.int .u8 p1.2.2.2.2.2.1).wf=true∧(Lit.int .u8 p1.2.2.2.2.2.2.1).wf=true∧(Lit.int .u8 p1.2.2.2.2.2.2.2).wf=true):Ku p0 p1=some true:=by
 obtain ⟨D,o,X,n1,n5,hb,hf,ho,e1,e2,e3,ht,hs⟩:=Qu2 h0 h1
 have hlen:(Qd D.n D.node).length=D.n:=Ya
 have hq:=fun v hv=>(Qbu (hf.node v hv).1.1).2.2
 obtain ⟨l1,l2,l3,l4⟩:=Qoc (q:=Qi D.node) ho n1
 have M:=Q0f n1 n5 (Qhf (n:=D.n) (q:=Qi D.node)) ho
 have ha:∀i j,i < (mkT D.n (Qi D.node) o).Cliques.length→j < (mkT D.n (Qi D.node) o).Cliques.length→i≠j→subB (cqN (mkT D.n (Qi D.node) o) i) (cqN (mkT D.n (Qi D.node) o) j)=false:=fun i j hi hj hne=>by
  rw [Qsg] at hi hj
  rw [Qau,Qau]; exact M.anti i j hi hj hne
 have ew:Vd ⟨D.g,Qd D.n D.node⟩ (mkT D.n (Qi D.node) o)=some ((widL D.n (mg D.n (Qi D.node)) o:Int),0):=by
  rcases Qui (g:=D.g) hb (by omega) hs with ⟨hf',_⟩ | ⟨_,ht',_⟩ | ⟨_,_,e⟩
  ·exact absurd hf hf'
  ·exact absurd ht ht'
  ·rw [e,Q1a n1 ho]; congr 2; omega
 have ec:Xp ⟨D.g,Qd D.n D.node⟩ (mkT D.n (Qi D.node) o)=some 0:=by
  rcases Qmp (g:=D.g) hb (by omega) hs with ⟨hf',_⟩ | ⟨_,ht',_⟩ | ⟨_,_,e⟩
  ·exact absurd hf hf'
  ·exact absurd ht ht'
  ·exact e
 unfold Ku
 rw [Qur,Option.bind_some,if_neg (by decide),e1,Option.bind_some]
 dsimp only
 rw [hlen,show (p1.1,p1.2.1,p1.2.2.1,p1.2.2.2.1,p1.2.2.2.2.1,p1.2.2.2.2.2.1,p1.2.2.2.2.2.2.1,p1.2.2.2.2.2.2.2)=p1 from rfl,e2,Option.bind_some,e3,Option.bind_some,Qnw hb hf,Option.bind_some]
 dsimp only
 rw [Qyf n1 (by omega) Qhf ho,Option.bind_some,ew,Option.bind_some]
 dsimp only
 rw [if_neg (by decide),if_neg (by decide),if_neg (by decide),if_neg (by decide),if_neg (by simp),ec,Option.bind_some,if_neg (by decide),if_neg (by simp; omega),if_neg (by simp; omega),if_neg (by simp; omega),if_neg (by simp; omega)]
 rw [Qxo hs ht (by omega) ha,Option.bind_some]
 dsimp only
 rw [Qwy hs ht (by omega)]
 rfl
#print axioms stands_true
end Go.Ab
namespace Go.Ab
open Go Go.Proofs Go.Proofs.YtcbhkobklhkiiaaDoor
open Go.ChangeShapes Go.WideShapes Go.ChangeAt Go.RowKit
abbrev dr_laid:List (String × DataW Unit):=[("math/bits.deBruijn32tab",Rows.laid_math_bits_deBruijn32tab),("math/bits.deBruijn64tab",Rows.laid_math_bits_deBruijn64tab)]
theorem dr_own:ownKnob Tryd.prog.godebug=none:=by kernel_rfl
theorem Q0p:Tryd.prog.globalNamed "math/bits.deBruijn32tab" = some 0:=by kernel_rfl
theorem Q0t:Tryd.prog.globalNamed "math/bits.deBruijn64tab" = some 1:=by kernel_rfl
theorem dr_met (os:Os) (args:Array Value):laidMetH Tryd.prog dr_laid ((World.doorLaid Tryd.prog 19 os).forCall (fun _ _=>0) ⟨#[],args,[]⟩).memory :=
 laidMetH_of_parts3 (fuel:=8) (laidMet_of_run' 8 (by kernel_rfl) (by kernel_rfl)) (by kernel_rfl) (by kernel_rfl)
theorem dr_glob {W:World} (h:laidMetH Tryd.prog dr_laid W):Go.Ab.GlobIn W:=by
 rw [MakeChecks.laidMetH_plain _ _ _ (by kernel_rfl)] at h
 have h0:=Lib.tabIs_of_head (k:=.u8) (zs:=Go.Ab.tab0) (t:=158) (e:=5) (n:=32) Q0p (by kernel_rfl) (by kernel_rfl) (by kernel_rfl) (by kernel_rfl) (by kernel_rfl) h
 have h1:=Lib.tabIs_of_head (k:=.u8) (zs:=Go.Ab.tab1) (t:=159) (e:=5) (n:=64) Q0t (by kernel_rfl) (by kernel_rfl) (by kernel_rfl) (by kernel_rfl) (by kernel_rfl) h.tail
 intro g xs hg i v hv
 match g,hg with
 | 0,hg =>
  cases hg
  have hi:i < Go.Ab.tab0.length:=by have:=(List.getElem?_eq_some_iff.1 hv).1; simpa using this
  have:=h0.cell Q0p i hi
  rw [this]
  rw [List.getElem?_map] at hv
  simpa [List.getD,hi] using hv
 | 1,hg =>
  cases hg
  have hi:i < Go.Ab.tab1.length:=by have:=(List.getElem?_eq_some_iff.1 hv).1; simpa using this
  have:=h1.cell Q0t i hi
  rw [this]
  rw [List.getElem?_map] at hv
  simpa [List.getD,hi] using hv
 | n+2,hg=>cases hg
end Go.Ab
