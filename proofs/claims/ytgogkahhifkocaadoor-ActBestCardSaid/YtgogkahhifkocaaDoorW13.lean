/- Functions. No conditions. -/
import Derived.Test.YtgogkahhifkocaaDoorProg
import Derived.Test.YtgogkahhifkocaaDoorW10
import Derived.KernelRfl
import Derived.Test.YtgogkahhifkocaaDoorW11
import Derived.Test.YtgogkahhifkocaaDoorW12
import Derived.Test.YtgogkahhifkocaaDoorEng7
import Derived.IntWalk
set_option maxRecDepth 100000
set_option maxHeartbeats 4000000
set_option linter.all false
namespace Go.Ab
open Go Go.Proofs
section
attribute [local irreducible] RW WP
noncomputable abbrev i63_87 (x5:Qc):Int:=(zv ((zv (1*2^min (zt (zn x5.Nodes)) zk)) - 1))
theorem g_law32_ActBest_ok (p0:Qe) (p1:Qv) (p2:Int) (p3:Int) (p4:Int):Ct Tryd.prog 9 [.agg [.int .u8 p0.Grain,eL false Ak p0.Nodes,eL true (AV.int .u8) p0.Order],.agg [.int .u8 p1.Which,.int .u8 p1.V.1,.int .u8 p1.V.2.1,.int .u8 p1.V.2.2.1,.int .u8 p1.V.2.2.2.1,.int .u8 p1.V.2.2.2.2.1,.int .u8 p1.V.2.2.2.2.2.1,.int .u8 p1.V.2.2.2.2.2.2.1,.int .u8 p1.V.2.2.2.2.2.2.2],.int .u8 p2,.int .u8 p3,.int .u8 p4] (Qbg p0 p1 p2 p3 p4) (fun x=>vB x) (fun x=>[]):=by
 refine hfn [] Tryd.func9 <| hop 0 (fun _=>sgL false [] [] false gE) <| hcl 2 [] (g_law32_works_ok ) fun x1 _=>hbr 1 [29] (hrt 3) <| ?_
 refine hcl 2 [] (Qhl p0) fun x5 _=>hop 0 (fun _=>sgL false [] [] false gE) <| hoh 6 (fun _ _ h k=>Qgd (k:=.u64) (k':=.i64) (a:=1) (b:=(zn x5.Nodes)) kr gE h k) <| hoh 8 (fun _ _ h k=>Qbc (k:=.i64) (a:=zw (p3)) (b:=(zn x5.Nodes)) kr gE h k) <| hbd fun a7 q8=>hop 6 (fun _=>Qq (enc:=Ai) (l:=x5.Nodes) (n:=Int.tmod (zw (p3)) (zn x5.Nodes)) (w:=3) (ob:=2) (ro:=false) (nr:=true) (fl:=false) (a:=a7) kr kr gE q8) <| hop 1 (fun _=>Zb (enc:=Ai) (l:=x5.Nodes) (n:=Int.tmod (zw (p3)) (zn x5.Nodes)) (w:=3) (ob:=2) (c:=0) (bx:=false) (ro:=false) (nr:=true) (fl:=false) (a:=a7) kr kr q8 gE) <| hoh 0 (fun _ _ h k=>Qbc (k:=.i64) (a:=zw (p4)) (b:=a7.Card) kr gE h k) <| hcl 5 [F Ai x5.Nodes] (g_act_Best_ok x5 (zv (zb (zv (p2)) &&& zb (i63_87 x5)).toNat) (Int.tmod (zw (p3)) (zn x5.Nodes)) (Int.tmod (zw (p4)) a7.Card)) fun x9 _=>?_
 refine hbr 11 [65,66] (hrt 10) <| ?_
 refine hbr 7 [72,73] (hrt 3) <| ?_
 refine hcl 4 [F Ai x5.Nodes] (Qiu (Qv.mk p1.Which (p1.V.1,p1.V.2.1,p1.V.2.2.1,p1.V.2.2.2.1,p1.V.2.2.2.2.1,p1.V.2.2.2.2.2.1,p1.V.2.2.2.2.2.2.1,p1.V.2.2.2.2.2.2.2)) x5) fun x15 _=>hoh 3 (fun _ _ h k=>mkL (enc:=eI) (z:=(0:Int)) (z0:=vI 0) (n:=(zn x5.Nodes)) (m:=(zn x5.Nodes)) (w:=1) (bytes:=8) [] true kr kr gE kr h k) <| hlp 5 (fun s17=>⟨[(11,.ptr 0 0 0),(12,.int .u64 (zv (zb (zv (p2)) &&& zb (i63_87 x5)).toNat)),(13,vI (Int.tmod (zw (p3)) (zn x5.Nodes))),(14,vI (Int.tmod (zw (p4)) a7.Card)),(15,.ref 1 0 x9.1.length),(16,.ptr 2 0 0),(18,.ref 3 0 s17.2.1.length),(19,.ref 4 0 s17.2.2.length),(82,vI (((List.replicate (zt (zn x5.Nodes)) (0:Int)).length):Int)),(83,vI s17.1)],[oX false false 2 (.agg [vI x5.Grain,.ref 5 0 x5.Nodes.length]),oR true 1 eI x9.1,oX true true 2 (.agg [vI x9.2.1.N,vI x9.2.1.D]),oR true 1 eI s17.2.1,oR true 1 eI s17.2.2,oR false 3 Ai x5.Nodes],184⟩) (fun x=>match x with | .inl v=>(.ret,⟨[(10,vB false)],[],184⟩) | .inr v=>(.exit 0,⟨[(11,.ptr 0 0 0),(13,vI (Int.tmod (zw (p3)) (zn x5.Nodes))),(14,vI (Int.tmod (zw (p4)) a7.Card)),(15,.ref 1 0 x9.1.length),(16,.ptr 2 0 0),(18,.ref 3 0 v.1.length),(19,.ref 4 0 v.2.length)],[oX false false 2 (.agg [vI x5.Grain,.ref 5 0 x5.Nodes.length]),oR true 1 eI x9.1,oX true true 2 (.agg [vI x9.2.1.N,vI x9.2.1.D]),oR true 1 eI v.1,oR true 1 eI v.2,oR false 3 Ai x5.Nodes],184⟩)) (wz [3,4,5,6,7,2]) (fun s17=>?_) (hsm (fun x46=>?_) (fun x47=>?_))
 ·refine hbr 1 [84] (?_) ?_
  ·refine hbd fun a20 q21=>hop 5 (fun _=>Qq (enc:=eI) (l:=s17.2.2) (n:=s17.1) (w:=1) (ob:=4) (ro:=false) (nr:=true) (fl:=true) (a:=a20) kr kr gE q21) <| hop 0 (fun _=>Zy (enc:=eI) (l:=s17.2.2) (n:=s17.1) (ob:=4) (w:=1) (bx:=false) (nr:=true) (fl:=true) (c:=0) (a:=a20) (a':=-1) (v:=vI (-1)) false kr kr q21 kr kr kr gE kr) <| hkl 0 [19,86] (ls s17.2.2 (zt s17.1) (-1)) <| hoh 2 (fun _ _ h k=>Xt (k:=.u64) (k':=.i64) (a:=zv (zb (zv (p2)) &&& zb (i63_87 x5)).toNat) (b:=s17.1) kr gE h k) <| hbr 2 [93] (?_) ?_
   ·refine hbd fun a24 q25=>hop 3 (fun _=>Qq (enc:=eI) (l:=s17.2.1) (n:=s17.1) (w:=1) (ob:=3) (ro:=false) (nr:=true) (fl:=true) (a:=a24) kr kr gE q25) <| hop 0 (fun _=>Zy (enc:=eI) (l:=s17.2.1) (n:=s17.1) (ob:=3) (w:=1) (bx:=false) (nr:=true) (fl:=true) (c:=0) (a:=a24) (a':=-1) (v:=vI (-1)) false kr kr q25 kr kr kr gE kr) <| hkl 0 [18,94] (ls s17.2.1 (zt s17.1) (-1)) <| hbd fun a26 q27=>hop 3 (fun _=>Qq (enc:=eI) (l:=x9.1) (n:=s17.1) (w:=1) (ob:=1) (ro:=false) (nr:=true) (fl:=true) (a:=a26) kr kr gE q27) <| hop 0 (fun _=>Zb (enc:=eI) (l:=x9.1) (n:=s17.1) (w:=1) (ob:=1) (c:=0) (bx:=false) (ro:=false) (nr:=true) (fl:=true) (a:=a26) kr kr q27 gE) <| hoh 3 (fun _ _ h k=>Xt (k:=.u64) (k':=.i64) (a:=zv (zb (zv (p2)) &&& zb (i63_87 x5)).toNat) (b:=s17.1) kr gE h k) <| hbr 3 [115] (hdx 2 (wz [])) <| ?_
    refine hnx 3 (wz [0,1,2,3,4,5])
   refine hbd fun a31 q32=>hop 3 (fun _=>Qq (enc:=eI) (l:=s17.2.1) (n:=s17.1) (w:=1) (ob:=3) (ro:=false) (nr:=true) (fl:=true) (a:=a31) kr kr gE q32) <| hop 0 (fun _=>Zb (enc:=eI) (l:=s17.2.1) (n:=s17.1) (w:=1) (ob:=3) (c:=0) (bx:=false) (ro:=false) (nr:=true) (fl:=true) (a:=a31) kr kr q32 gE) <| hbr 1 [101] (?_) ?_
   ·refine hop 3 (fun _=>Qq (enc:=eI) (l:=s17.2.1) (n:=s17.1) (w:=1) (ob:=3) (ro:=false) (nr:=true) (fl:=true) (a:=a31) kr kr gE q32) <| hop 0 (fun _=>Zy (enc:=eI) (l:=s17.2.1) (n:=s17.1) (ob:=3) (w:=1) (bx:=false) (nr:=true) (fl:=true) (c:=0) (a:=a31) (a':=0) (v:=vI 0) false kr kr q32 kr kr kr gE kr) <| hkl 0 [18,97,102] (ls s17.2.1 (zt s17.1) 0) <| hbd fun a35 q36=>hop 3 (fun _=>Qq (enc:=eI) (l:=x9.1) (n:=s17.1) (w:=1) (ob:=1) (ro:=false) (nr:=true) (fl:=true) (a:=a35) kr kr gE q36) <| hop 0 (fun _=>Zb (enc:=eI) (l:=x9.1) (n:=s17.1) (w:=1) (ob:=1) (c:=0) (bx:=false) (ro:=false) (nr:=true) (fl:=true) (a:=a35) kr kr q36 gE) <| hoh 3 (fun _ _ h k=>Xt (k:=.u64) (k':=.i64) (a:=zv (zb (zv (p2)) &&& zb (i63_87 x5)).toNat) (b:=s17.1) kr gE h k) <| hbr 3 [115] (hdx 2 (wz [])) <| ?_
    refine hnx 3 (wz [0,1,2,3,4,5])
   refine hbd fun a40 q41=>hop 4 (fun _=>Qq (enc:=eI) (l:=x9.1) (n:=s17.1) (w:=1) (ob:=1) (ro:=false) (nr:=true) (fl:=true) (a:=a40) kr kr gE q41) <| hop 0 (fun _=>Zb (enc:=eI) (l:=x9.1) (n:=s17.1) (w:=1) (ob:=1) (c:=0) (bx:=false) (ro:=false) (nr:=true) (fl:=true) (a:=a40) kr kr q41 gE) <| hoh 3 (fun _ _ h k=>Xt (k:=.u64) (k':=.i64) (a:=zv (zb (zv (p2)) &&& zb (i63_87 x5)).toNat) (b:=s17.1) kr gE h k) <| hbr 3 [115] (hdx 2 (wz [])) <| ?_
   refine hnx 3 (wz [0,1,2,3,4,5])
  refine hdx 1 (wz [0,1,2,3,4,5])
 ·refine hrt 0
 refine hbd fun a48 q49=>hop 3 (fun _=>Qq (enc:=eI) (l:=x47.2) (n:=Int.tmod (zw (p3)) (zn x5.Nodes)) (w:=1) (ob:=4) (ro:=false) (nr:=true) (fl:=true) (a:=a48) kr kr gE q49) <| hbd fun a50 q51=>hop 0 (fun _=>Zy (enc:=eI) (l:=x47.2) (n:=(Int.tmod (zw (p3)) (zn x5.Nodes))) (ob:=4) (w:=1) (bx:=false) (nr:=true) (fl:=true) (c:=0) (a:=a50) (a':=Int.tmod (zw (p4)) a7.Card) (v:=vI (Int.tmod (zw (p4)) a7.Card)) false kr kr q51 kr kr kr gE kr) <| hkl 0 [19,117] (ls x47.2 (zt (Int.tmod (zw (p3)) (zn x5.Nodes))) (Int.tmod (zw (p4)) a7.Card)) <| hcl 3 [F Ai x5.Nodes,F eI x9.1,F eI (List.set x47.2 (zt (Int.tmod (zw (p3)) (zn x5.Nodes))) (Int.tmod (zw (p4)) a7.Card))] (g_act_Chance_ok x5 x9.1 (List.set x47.2 (zt (Int.tmod (zw (p3)) (zn x5.Nodes))) (Int.tmod (zw (p4)) a7.Card))) fun x52 _=>hcl 9 [F Ai x5.Nodes,F eI x47.1,F eI (List.set x47.2 (zt (Int.tmod (zw (p3)) (zn x5.Nodes))) (Int.tmod (zw (p4)) a7.Card))] (g_act_Chance_ok x5 x47.1 (List.set x47.2 (zt (Int.tmod (zw (p3)) (zn x5.Nodes))) (Int.tmod (zw (p4)) a7.Card))) fun x54 _=>hbr 9 [136,137] (hrt 11) <| ?_
 refine hbr 4 [139,140,141] (hrt 7) <| ?_
 refine hbr 4 [144,145] (hrt 3) <| ?_
 refine hcl 3 [] (Qpf x54.1 x9.2.1) fun x62 _=>hbr 8 [153,154] (hrt 6) <| ?_
 refine hbr 3 [156,157] (hrt 3) <| ?_
 refine hbr 3 [159] (hrt 3) <| ?_
 refine hlp 4 (fun s70=>⟨[(15,.ref 0 0 x9.1.length),(18,.ref 1 0 x47.1.length),(161,vI (zn x9.1)),(162,vI s70)],[oR true 1 eI x9.1,oR true 1 eI x47.1],184⟩) (fun x=>match x with | .inl v=>(.ret,⟨[(10,vB v)],[],184⟩) | .inr v=>(.exit 2,⟨[],[],184⟩)) (wz [1,3]) (fun s70=>?_) (hsm (fun x80=>?_) (fun x81=>?_))
 ·refine hbr 1 [163] (?_) ?_
  ·refine hbd fun a73 q74=>hop 6 (fun _=>Qq (enc:=eI) (l:=x9.1) (n:=s70) (w:=1) (ob:=0) (ro:=false) (nr:=true) (fl:=true) (a:=a73) kr kr gE q74) <| hop 0 (fun _=>Zb (enc:=eI) (l:=x9.1) (n:=s70) (w:=1) (ob:=0) (c:=0) (bx:=false) (ro:=false) (nr:=true) (fl:=true) (a:=a73) kr kr q74 gE) <| hbd fun a75 q76=>hop 2 (fun _=>Qq (enc:=eI) (l:=x47.1) (n:=s70) (w:=1) (ob:=1) (ro:=false) (nr:=true) (fl:=true) (a:=a75) kr kr gE q76) <| hop 0 (fun _=>Zb (enc:=eI) (l:=x47.1) (n:=s70) (w:=1) (ob:=1) (c:=0) (bx:=false) (ro:=false) (nr:=true) (fl:=true) (a:=a75) kr kr q76 gE) <| hbr 1 [173] (?_) ?_
   ·refine hop 4 (fun _=>Qq (enc:=eI) (l:=x9.1) (n:=s70) (w:=1) (ob:=0) (ro:=false) (nr:=true) (fl:=true) (a:=a73) kr kr gE q74) <| hop 0 (fun _=>Zb (enc:=eI) (l:=x9.1) (n:=s70) (w:=1) (ob:=0) (c:=0) (bx:=false) (ro:=false) (nr:=true) (fl:=true) (a:=a73) kr kr q74 gE) <| hop 2 (fun _=>Qq (enc:=eI) (l:=x47.1) (n:=s70) (w:=1) (ob:=1) (ro:=false) (nr:=true) (fl:=true) (a:=a75) kr kr gE q76) <| hop 0 (fun _=>Zb (enc:=eI) (l:=x47.1) (n:=s70) (w:=1) (ob:=1) (c:=0) (bx:=false) (ro:=false) (nr:=true) (fl:=true) (a:=a75) kr kr q76 gE) <| hdx 2 (wz [])
   refine hnx 3 (wz [0,1])
  refine hdx 1 (wz [])
 ·refine hrt 0
 refine hrt 2
end
end Go.Ab
namespace Go.Ab
open Go
theorem K5 {σ ρ:Type} {body:σ->Option (Qi σ ρ)} (I:σ->Prop) (m:σ->Nat) (Q:ρ->Prop)
  (step:∀s,I s->(∃s',body s=some (.next s')/\I s'/\m s' < m s)\/(∃r,body s=some (.done r)/\Q r)) :
  ∀(n:Nat) (s:σ),I s->m s < n->∃r,Qb n body s=some r/\Q r
 | 0,s,_,h=>by omega
 | n+1,s,hI,h=>by
  unfold Qb
  rcases step s hI with ⟨s',h1,h2,h3⟩ | ⟨r,h1,h2⟩
  ·rw [h1]
   exact K5 I m Q step n s' h2 (by omega)
  rw [h1]
  exact ⟨r,rfl,h2⟩
theorem Qoj {σ ρ:Type} {body:σ->Option (Qi σ ρ)} (I:σ->Prop) (m:σ->Nat) (r:ρ)
  (step:∀s,I s->(∃s',body s=some (.next s')/\I s'/\m s' < m s)\/body s=some (.done r)) (s:σ) (hI:I s) (hm:m s < 1152921504606846976):Qb fuel body s=some r:=by
 obtain ⟨r',h1,h2⟩:=K5 I m (fun x=>x=r) (fun s hs=>(step s hs).imp id fun h=>⟨r,h,rfl⟩) fuel s hI hm
 rw [h1,h2]
theorem Yv {σ ρ:Type} {body:σ->Option (Qi σ ρ)} (I:σ->Prop) (m:σ->Nat) (Q:ρ->Prop)
  (step:∀s,I s->(∃s',body s=some (.next s')/\I s'/\m s' < m s)\/(∃r,body s=some (.done r)/\Q r)) (s:σ) (hI:I s) (hm:m s < 1152921504606846976):∃r,Qb fuel body s=some r/\Q r :=
 K5 I m Q step fuel s hI hm
theorem Qj9 {σ ρ:Type} {body:σ->Option (Qi σ ρ)} (f:Nat -> σ) (n:Nat) (r:ρ) (step:∀k,k < n->body (f k)=some (.next (f (k+1)))) (done:body (f n)=some (.done r)) (hn:n < 1152921504606846976) :
  Qb fuel body (f 0)=some r:=by
 have key:∀(j N k:Nat),k+j=n->j < N->Qb N body (f k)=some r:=by
  intro j
  induction j with
  | zero =>
   intro N k hk hN
   obtain ⟨N,rfl⟩:∃M,N=M+1:=⟨N - 1,by omega⟩
   have:k=n:=by omega
   subst this
   simp [Qb,done]
  | succ j ih =>
   intro N k hk hN
   obtain ⟨N,rfl⟩:∃M,N=M+1:=⟨N - 1,by omega⟩
   simp only [Qb,step k (by omega)]
   exact ih N (k+1) (by omega) (by omega)
 exact key n fuel 0 (by omega) hn
theorem Xb {σ ρ:Type} {body:σ->Option (Qi σ ρ)} {s0:σ} (f:Nat -> σ) (n:Nat) (r:ρ) (h0:f 0=s0) (step:∀k,k < n->body (f k)=some (.next (f (k+1)))) (done:body (f n)=some (.done r)) (hn:n < 1152921504606846976) :
  Qb fuel body s0=some r:=by rw [<-h0]; exact Qj9 f n r step done hn
theorem w64 {n:Int} (h:-9223372036854775808<=n/\n<=9223372036854775807):zw n=n:=by show IntKind.wrap .i64 n=n; rw [IntKind.wrap_i64]; omega
theorem Yj {α:Type} {l:List α} {k:Nat} (h:k < l.length):lkI l (k:Int)=some l[k]:=by
 unfold lkI
 rw [aI (by omega),aP,aG h]
theorem Qh2 {a b:Int} (h:0<=a):Int.tdiv a b=a / b:=Int.tdiv_eq_ediv_of_nonneg h
theorem Vu {a b:Int} (h:0<=a):Int.tmod a b=a % b:=Int.tmod_eq_emod_of_nonneg h
def dgs (n:Nat):List Int:=if h:n=0 then [] else ((n % 10000:Nat):Int)::dgs (n / 10000)
termination_by n
decreasing_by omega
def Qn3:List Int->Nat
 | []=>0
 | x::l=>x.toNat + 10000*Qn3 l
def Qq8 (l:List Int):Prop:=∀x∈l,0<=x/\x < 10000
theorem Qii:dgs 0=[]:=by rw [dgs]; simp
theorem Qoh {n:Nat} (h:n≠0):dgs n=((n % 10000:Nat):Int)::dgs (n / 10000):=by rw [dgs]; simp [h]
theorem Qyo (n:Nat):Qn3 (dgs n)=n:=by
 induction n using Nat.strongRecOn with
 | _ n ih =>
  by_cases h:n=0
  ·subst h; rw [Qii]; rfl
  rw [Qoh h]
  simp only [Qn3]
  rw [ih (n / 10000) (by omega)]
  omega
theorem Qxv (n:Nat):Qq8 (dgs n):=by
 induction n using Nat.strongRecOn with
 | _ n ih =>
  by_cases h:n=0
  ·subst h; rw [Qii]; intro x hx; cases hx
  rw [Qoh h]
  intro x hx
  rcases bY.1 hx with rfl | hx
  ·omega
  exact ih (n / 10000) (by omega) x hx
theorem Qv5 {x:Int} {l:List Int}:Qq8 (x::l)↔(0<=x/\x < 10000)/\Qq8 l:=by simp [Qq8]
theorem Qzt {l:List Int} (h:Qq8 l):Qn3 l < 10000^l.length:=by
 induction l with
 | nil=>simp [Qn3]
 | cons x l ih =>
  rw [Qv5] at h
  have:=ih h.2
  simp only [Qn3,dA,Nat.pow_succ]
  omega
theorem Qdg {n K:Nat} (h:n < 10000^K):(dgs n).length<=K:=by
 induction K generalizing n with
 | zero=>simp at h; subst h; rw [Qii]; simp
 | succ K ih =>
  by_cases h0:n=0
  ·subst h0; rw [Qii]; simp
  rw [Qoh h0]
  simp only [dA]
  have:=ih (n:=n / 10000) (by rw [Nat.pow_succ] at h; omega)
  omega
theorem Qqr (n:Nat):n < 10000^(dgs n).length:=by
 have:=Qzt (Qxv n)
 rwa [Qyo] at this
end Go.Ab
namespace Go.Ab
open Go
def msk:Nat -> (Nat -> Bool)->Nat
 | 0,_=>0
 | n+1,p=>msk n p ||| (if p n then 2^n else 0)
theorem Qs3 (n:Nat) (p:Nat -> Bool) (i:Nat):(msk n p).testBit i=(decide (i < n) && p i):=by
 induction n with
 | zero=>simp [msk]
 | succ n ih =>
  unfold msk
  rw [Nat.testBit_or,ih]
  by_cases h:i=n
  ·subst h
   cases hp:p i <;> simp [hp]
  have e:decide (i < n+1)=decide (i < n):=by by_cases h2:i < n <;> simp [h2] <;> omega
  rw [e]
  cases hp:p n
  ·simp
  simp only [dY,Nat.testBit_two_pow]
  have e2:¬ n=i:=fun e=>h e.symm
  simp [e2]
theorem Xh {n:Nat} (h:n < 18446744073709551616):zv (n:Int)=(n:Int):=by
 simp [IntKind.wrap,IntKind.bits,IntKind.signed]; omega
theorem Qbp {a:Nat} (h:a < 18446744073709551616):(zb (a:Int)).toNat = a:=by
 show (BitVec.ofInt IntKind.u64.bits (a:Int)).toNat = a
 rw [BitVec.ofInt_natCast,BitVec.toNat_ofNat]
 exact Nat.mod_eq_of_lt h
theorem Qre {a k:Nat}:Int.fdiv (a:Int) ((2:Int)^k)=((a / 2^k:Nat):Int):=by
 rw [Int.fdiv_eq_ediv_of_nonneg _ (by exact_mod_cast dT (2^k))]
 simp
theorem Qu8 {a k:Nat} (ha:a < 18446744073709551616) (hk:k < 64) :
  zv (zb (Int.fdiv (a:Int) (2^min (Int.toNat (k:Int)) zk)) &&& zb 1).toNat = ((a.testBit k).toNat : Int):=by
 have hb:zk=64:=rfl
 have e0:min (Int.toNat (k:Int)) zk=k:=by rw [hb,aP]; omega
 rw [e0,Qre]
 have h1:a / 2^k < 18446744073709551616:=Nat.lt_of_le_of_lt (Nat.div_le_self _ _) ha
 have e1:(zb ((a / 2^k:Nat):Int) &&& zb 1).toNat = (a / 2^k) % 2:=by
  rw [BitVec.toNat_and,Qbp h1,show (zb 1).toNat = 1 from rfl,Nat.and_one_is_mod]
 rw [e1,Xh (by omega)]
 have e2:a.testBit k=((a / 2^k) % 2==1):=by rw [Nat.testBit_eq_decide_div_mod_eq]; rfl
 rw [e2]
 rcases Nat.mod_two_eq_zero_or_one (a / 2^k) with h | h <;> rw [h] <;> rfl
theorem Qg4 {k:Nat} (h:k < 9223372036854775807):zw ((k:Int)+1)=((k+1:Nat):Int):=by rw [w64 (by omega)]; omega
theorem Qrf {τ ρ σ:Type} {n k0:Nat} (hk:k0<=n) (hn:n < 1152921504606846976) (mkS:Int->τ->σ) {body:σ->Option (Qi σ ρ)} (I:Nat -> τ->Prop) (Q:ρ->Prop)
  (step:∀(k:Nat) (t:τ),k0<=k->k < n->I k t->(∃t',body (mkS (k:Int) t)=some (.next (mkS (zw ((k:Int)+1)) t'))/\I (k+1) t')\/(∃r,body (mkS (k:Int) t)=some (.done r)/\Q r))
  (done:∀t,I n t->∃r,body (mkS (n:Int) t)=some (.done r)/\Q r) (t0:τ) (h0:I k0 t0):∃r,Qb fuel body (mkS (k0:Int) t0)=some r/\Q r:=by
 have key:∀(j N k:Nat) (t:τ),k+j=n->k0<=k->j < N->I k t->∃r,Qb N body (mkS (k:Int) t)=some r/\Q r:=by
  intro j
  induction j with
  | zero =>
   intro N k t e hk hN hI
   obtain ⟨N,rfl⟩:∃M,N=M+1:=⟨N - 1,by omega⟩
   have:k=n:=by omega
   subst this
   obtain ⟨r,b1,b2⟩:=done t hI
   simp only [Qb,b1]
   exact ⟨r,rfl,b2⟩
  | succ j ih =>
   intro N k t e hk hN hI
   obtain ⟨N,rfl⟩:∃M,N=M+1:=⟨N - 1,by omega⟩
   rcases step k t hk (by omega) hI with ⟨t',b1,b2⟩ | ⟨r,b1,b2⟩
   ·rw [Qg4 (by omega)] at b1
    simp only [Qb,b1]
    exact ih N (k+1) t' (by omega) (by omega) (by omega) b2
   simp only [Qb,b1]
   exact ⟨r,rfl,b2⟩
 exact key (n - k0) fuel k0 t0 (by omega) (aY _) (by show n - k0 < 1152921504606846976; omega) h0
theorem Qa3 {τ ρ σ:Type} {n k0:Nat} (hk:k0<=n) (hn:n < 1152921504606846976) (mkS:Int->τ->σ) {body:σ->Option (Qi σ ρ)} (T:Nat -> τ) (r:ρ)
  (step:∀(k:Nat),k0<=k->k < n->body (mkS (k:Int) (T k))=some (.next (mkS (zw ((k:Int)+1)) (T (k+1)))))
  (done:body (mkS (n:Int) (T n))=some (.done r)):Qb fuel body (mkS (k0:Int) (T k0))=some r:=by
 obtain ⟨r',h1,h2⟩:=Qrf hk hn mkS (body:=body) (fun k t=>t=T k) (fun x=>x=r) (fun k t a b c=>.inl ⟨T (k+1),by rw [c]; exact step k a b,rfl⟩) (fun t h=>⟨r,by rw [h]; exact done,rfl⟩) (T k0) rfl
 rw [h1,h2]
theorem dlt {k n:Nat} (h:k < n):decide ((k:Int) < (n:Int))=true:=cO (by omega)
theorem nlt (n:Nat):¬ (decide ((n:Int) < (n:Int))=true):=by simp
end Go.Ab
namespace Go.Ab
open Go
def Qd {α:Type} (n:Nat) (F:Nat -> α):List α:=(List.range n).map F
theorem Q2 {α:Type} {n:Nat} {F:Nat -> α}:(Qd n F).length=n:=by simp [Qd]
theorem Q3 {α:Type} {n:Nat} {F:Nat -> α} {k:Nat} (h:k < n):lkI (Qd n F) (k:Int)=some (F k):=by
 rw [Yj (by rw [Q2]; exact h)]; simp [Qd]
theorem Qp {α:Type} {n:Nat} {F G:Nat -> α} (h:∀k,k < n->F k=G k):Qd n F=Qd n G:=by
 unfold Qd
 apply List.map_congr_left
 intro t ht
 exact h t (by simpa using ht)
theorem Xz {α:Type} {n:Nat} {F:Nat -> α} {k:Nat} {x:α}:(Qd n F).set k x=Qd n (fun s=>if s=k then x else F s):=by
 apply List.ext_getElem?
 intro s
 rw [List.getElem?_set]
 simp only [Qd,bC,bU,List.length_range]
 by_cases e:k=s
 ·subst e
  rw [aH rfl]
  by_cases hk:k < n
  ·rw [aH hk,List.getElem?_range hk]; simp
  rw [aI hk,dF (by simpa using hk)]; rfl
 rw [aI e]
 by_cases hs:s < n
 ·rw [List.getElem?_range hs]; simp only [bI]; rw [aI (Ne.symm e)]
 rw [dF (by simpa using hs)]; rfl
theorem Qe4 {α:Type} (n:Nat) (x:α):List.replicate n x=Qd n (fun _=>x):=by
 apply List.ext_getElem?
 intro s
 rw [cH]
 by_cases hs:s < n
 ·rw [aH hs]; simp [Qd,List.getElem?_range hs]
 rw [aI hs,dF (by rw [Q2]; omega)]
theorem Qjm {α:Type} {n:Nat} {F:Nat -> α}:Qd n F++[F n]=Qd (n+1) F:=by
 unfold Qd; rw [List.range_succ]; simp
def Zs {α:Type} (w:Nat -> α) (i:Nat) (x:α):Nat -> α:=fun s=>if s=i then x else w s
theorem Zz {α:Type} {w:Nat -> α} {i:Nat} {x:α}:Zs w i x i=x:=by simp [Zs]
theorem Yk {α:Type} {w:Nat -> α} {i j:Nat} {x:α} (h:j≠i):Zs w i x j=w j:=by simp [Zs,h]
def Qn:Nat -> (Nat -> Int)->Int
 | 0,_=>0
 | n+1,f=>Qn n f+f n
theorem Yu {n:Nat} {f g:Nat -> Int} (h:∀k,k < n->f k=g k):Qn n f=Qn n g:=by
 induction n with
 | zero=>rfl
 | succ n ih=>simp only [Qn]; rw [ih (fun k hk=>h k (by omega)),h n (by omega)]
theorem Qyi {n:Nat} {f g:Nat -> Int}:Qn n (fun k=>f k+g k)=Qn n f+Qn n g:=by
 induction n with
 | zero=>rfl
 | succ n ih=>simp only [Qn,ih]; omega
theorem Qfn {n:Nat}:Qn n (fun _=>0)=0:=by
 induction n with
 | zero=>rfl
 | succ n ih=>simp only [Qn,ih]; rfl
theorem Yd {n:Nat} {f:Nat -> Int} (h:∀k,k < n->0<=f k):0<=Qn n f:=by
 induction n with
 | zero=>exact Int.le_refl 0
 | succ n ih=>simp only [Qn]; have:=ih (fun k hk=>h k (by omega)); have:=h n (by omega); omega
theorem Qyr {n k:Nat} {c:Int} (h:k < n):Qn n (fun x=>if k=x then c else 0)=c:=by
 induction n with
 | zero=>omega
 | succ n ih =>
  simp only [Qn]
  by_cases e:k=n
  ·subst e
   rw [aH rfl,Yu (g:=fun _=>0) (fun x hx=>aI (by omega)),Qfn]; omega
  rw [aI e,ih (by omega)]; omega
theorem Qh1 {a b:Nat} {f:Nat -> Int}:Qn (a+b) f=Qn a f+Qn b (fun k=>f (a+k)):=by
 induction b with
 | zero=>simp [Qn]
 | succ b ih=>rw [<-cE]; simp only [Qn,ih]; omega
def Qh:Nat -> (Nat -> Nat)->Nat
 | 0,_=>1
 | n+1,f=>Qh n f*f n
theorem Qfq {n K:Nat} {f:Nat -> Nat} (h:∀k,k < n->f k<=K):Qh n f<=K^n:=by
 induction n with
 | zero=>simp [Qh]
 | succ n ih=>simp only [Qh,Nat.pow_succ]; exact Nat.mul_le_mul (ih fun k hk=>h k (by omega)) (h n (by omega))
structure NF where
 n:Nat
 g:Nat
 card:Nat -> Nat
 par:Nat -> List Nat
 W:Nat -> Nat -> Nat -> Nat
def lprod (f:Nat -> Nat) (l:List Nat):Nat := l.foldl (fun r p=>r*f p) 1
def NF.rows (D:NF) (v:Nat):Nat := lprod D.card (D.par v)
def NF.node (D:NF) (v:Nat):Ad:=⟨D.card v,(D.par v).map (fun (p:Nat)=>(p:Int)),Qd (D.rows v) fun r=>Qd (D.card v) fun x=>(D.W v r x:Int)⟩
def NF.net (D:NF):Qc:=⟨D.g,Qd D.n D.node⟩
def Q6 (n:Nat) (w:Nat -> Nat):List Int:=Qd n fun j=>(w j:Int)
theorem Yz {n k:Nat} {w:Nat -> Nat} (h:k < n):lkI (Q6 n w) (k:Int)=some (w k:Int):=Q3 h
theorem Kd {n:Nat} {w:Nat -> Nat}:(Q6 n w).length=n:=Q2
structure VN (D:NF):Prop where
 n1:1<=D.n
 n8:D.n<=8
 g1:1<=D.g
 g60:D.g<=60
 card:∀v,v < D.n->1<=D.card v/\D.card v<=4
 par:∀v,v < D.n->∀p∈D.par v,p < D.n
 len:∀v,v < D.n->(D.par v).length<=8
 W:∀v r x,v < D.n->r < D.rows v->x < D.card v->D.W v r x<=D.g
 worlds:Qh D.n D.card<=1024
theorem Qba {f:Nat -> Nat} {l:List Nat} {p:Nat}:lprod f (l++[p])=lprod f l*f p:=by simp [lprod]
theorem Qfh {f:Nat -> Nat} {l:List Nat} (h:∀p∈l,f p<=4):lprod f l<=4^l.length:=by
 have key:∀(l:List Nat) (R K:Nat),R<=K->(∀p∈l,f p<=4)->l.foldl (fun r p=>r*f p) R<=K*4^l.length:=by
  intro l
  induction l with
  | nil=>intro R K h _; simpa using h
  | cons p l ih =>
   intro R K hr hp
   simp only [List.foldl_cons,dA,Nat.pow_succ]
   have:=ih (R*f p) (K*4) (Nat.mul_le_mul hr (hp p (by simp))) (fun q hq=>hp q (cI _ hq))
   rwa [Nat.mul_assoc,cG 4] at this
 have:=key l 1 1 (by omega) h
 simpa [lprod] using this
section
variable {D:NF} (V:VN D) {w:Nat -> Nat}
include V
theorem VN.rows_le {v:Nat} (hv:v < D.n):D.rows v<=65536:=by
 refine bT (Qfh fun p hp=>(V.card p (V.par v hv p hp)).2) ?_
 exact aT (by omega) (V.len v hv)
omit V in
theorem Vj {α:Type} {l:List α} {k:Nat} (h:k < l.length):l.take (k+1)=l.take k++[l[k]]:=by rw [List.take_add_one,aG h]; rfl
theorem VN.node {v:Nat} (hv:v < D.n):lkI D.net.Nodes (v:Int)=some (D.node v):=Q3 hv
end
theorem Qu4 {a k:Nat} (ha:a < 18446744073709551616) (hk:k < 64) :
  zv (zb (a:Int) ||| zb (zv (1*2^min (Int.toNat (k:Int)) zk))).toNat = ((a ||| 2^k:Nat):Int):=by
 have hb:zk=64:=rfl
 have e0:min (Int.toNat (k:Int)) zk=k:=by rw [hb,aP]; omega
 have hp:2^k < 18446744073709551616:=by
  have:2^k < 2^64:=dZ (by omega) hk
  exact this
 rw [e0,show (1:Int)*2^k=((2^k:Nat):Int) by simp,Xh hp]
 have e1:(zb (a:Int) ||| zb ((2^k:Nat):Int)).toNat = a ||| 2^k:=by
  rw [BitVec.toNat_or,Qbp ha,Qbp hp]
 rw [e1,Xh]
 exact Nat.or_lt_two_pow (n:=64) ha hp
theorem or_lt {a k:Nat} (ha:a < 18446744073709551616) (hk:k < 64):a ||| 2^k < 18446744073709551616 :=
 Nat.or_lt_two_pow (n:=64) ha (dZ (by omega) hk)
theorem Q0y {a k j:Nat}:(a ||| 2^k).testBit j=(a.testBit j || decide (k=j)):=by
 rw [Nat.testBit_or,Nat.testBit_two_pow]
theorem Qy9 {a b:Nat} (ha:a < 18446744073709551616) (hb:b < 18446744073709551616) :
  (zv (zb (a:Int) &&& ~~~ zb (b:Int)).toNat == 0)=true↔∀j,a.testBit j=true->b.testBit j=true:=by
 have h1:(zb (a:Int) &&& ~~~ zb (b:Int)).toNat < 18446744073709551616:=BitVec.isLt _
 rw [Xh h1]
 generalize hx:zb (a:Int) &&& ~~~ zb (b:Int)=x
 have hbit:∀j,j < 64->x.getLsbD j=(a.testBit j && !(b.testBit j)):=fun j hj=>by
  rw [<-hx,BitVec.getLsbD_and,BitVec.getLsbD_not]
  have:zk=64:=rfl
  have e1:(zb (a:Int)).getLsbD j=a.testBit j:=by unfold BitVec.getLsbD; rw [Qbp ha]
  have e2:(zb (b:Int)).getLsbD j=b.testBit j:=by unfold BitVec.getLsbD; rw [Qbp hb]
  rw [e1,e2]
  simp [this,hj]
 constructor
 ·intro h j hj
  have hx0:x.toNat = 0:=by simpa using h
  have h64:j < 64:=by
   rcases aZ j 64 with h' | h'
   ·exact h'
   have:=Nat.testBit_lt_two_pow (i:=j) (x:=a) (bK ha (aT (n:=2) (by omega) h'))
   rw [this] at hj; cases hj
  have h2:=hbit j h64
  have h3:x.getLsbD j=false:=by unfold BitVec.getLsbD; rw [hx0]; simp
  rw [h3,hj] at h2
  simpa using h2
 ·intro h
  have:x=0#_:=by
   apply BitVec.eq_of_getLsbD_eq
   intro j hj
   have hj':j < 64:=hj
   rw [hbit j hj']
   cases ha':a.testBit j with
   | false=>simp
   | true=>rw [h j ha']; simp
  rw [this]; rfl
def KK:Int:=167961600000000
def BD (m:Nat) (z:Int):Prop:=-((m:Int)*KK)<=z/\z<=(m:Int)*KK
theorem BD.add {m p:Nat} {a b:Int} (h:BD m a) (k:BD p b):BD (m+p) (a+b):=by
 unfold BD at *
 rw [Int.natCast_add,Int.add_mul]; omega
theorem BD.zero {m:Nat}:BD m 0:=by unfold BD KK; omega
theorem BD.sum {n p:Nat} {f:Nat -> Int} (h:∀k,k < n->BD p (f k)):BD (n*p) (Qn n f):=by
 induction n with
 | zero=>exact BD.zero
 | succ n ih=>simp only [Qn]; rw [dM]; exact (ih fun k hk=>h k (by omega)).add (h n (by omega))
section
variable {D:NF} {E:Nat -> Int}
theorem Vy {α β:Type} {o:Option α} {a:α} {k:α->Option β} {r:Option β} (h:o=some a) (h2:k a=r):o.bind k=r:=by rw [h]; exact h2
theorem Q2n {n:Nat} {f:Nat -> Nat} {l:List Nat} (hl:∀p∈l,p < n) (h8:l.length<=8):Qd2 (Q6 n f) (l.map fun (p:Nat)=>(p:Int))=some (l.map fun p=>(f p:Int)):=by
 unfold Qd2
 refine Vy (Xb (s0:=((0:Int),([]:List Int))) (r:=l.map fun p=>(f p:Int)) (fun k=>((k:Int),(l.take k).map fun p=>(f p:Int))) l.length (by simp) (fun k hk=>?_) ?_ (by omega)) rfl
 ·unfold Qda
  simp only
  rw [aH (by simpa using hk),Yj (by simpa using hk)]
  simp only [aC,List.getElem_map]
  rw [Yz (hl _ (bH hk))]
  simp only [aC]
  rw [aH (by simp [cM]; omega),w64 (by omega),Vj hk]
  simp only [cQ,cY,cZ]
  rfl
 unfold Qda
 simp only
 rw [aI (by simp),List.take_of_length_le (aY _)]
end
structure VX (D:NF):Prop where
 vn:VN D
 sorted:∀v,v < D.n->(D.par v).Pairwise (· < ·)
 self:∀v,v < D.n->v ∉ D.par v
 rank:∃rk:Nat -> Nat,∀v,v < D.n->∀p∈D.par v,rk p < rk v
 sum:∀v r,v < D.n->r < D.rows v->Qn (D.card v) (fun x=>(D.W v r x:Int))=D.g
theorem Qf1:∀(a b:List Nat),a.Nodup->a ⊆ b->a.length<=b.length
 | [],_,_,_=>by simp
 | x::a,b,hn,hs=>by
  have hx:x∈b:=hs (by simp)
  rw [List.nodup_cons] at hn
  have h1:a ⊆ b.erase x:=fun y hy=>by
   have hne:y≠x:=fun e=>hn.1 (e ▸ hy)
   exact (List.mem_erase_of_ne hne).2 (hs (cI _ hy))
  have h2:=Qf1 a (b.erase x) hn.2 h1
  have h3:=List.length_erase_of_mem hx
  have h4:0 < b.length:=List.length_pos_of_mem hx
  simp only [dA]
  omega
def bitsOf (l:List Nat) (a:Nat):Nat := l.foldl (fun a p=>a ||| 2^p) a
theorem Qbl {j:Nat}:∀(l:List Nat) (a:Nat),(bitsOf l a).testBit j=(a.testBit j || decide (j∈l))
 | [],a=>by simp [bitsOf]
 | p::l,a=>by
  have:=Qbl (j:=j) l (a ||| 2^p)
  unfold bitsOf at this ⊢
  simp only [List.foldl_cons]
  rw [this,Q0y]
  by_cases h:p=j
  ·subst h; simp
  have:j≠p:=Ne.symm h
  simp [h,this]
theorem Qf7:∀(l:List Nat) (a:Nat),a < 18446744073709551616->(∀p∈l,p < 64)->bitsOf l a < 18446744073709551616
 | [],a,h,_=>h
 | p::l,a,h,hl=>Qf7 l (a ||| 2^p) (or_lt h (hl p (by simp))) fun q hq=>hl q (cI _ hq)
theorem Qik {l:List Nat} {p a:Nat}:bitsOf (l++[p]) a=bitsOf l a ||| 2^p:=by simp [bitsOf]
section
variable {D:NF}
theorem Qye (X:VX D) {v r k:Nat} (hv:v < D.n) (hr:r < D.rows v) (hk:k < D.card v):Qn k (fun x=>(D.W v r x:Int))+D.W v r k<=D.g:=by
 have h1:=X.sum v r hv hr
 have h2:Qn (D.card v) (fun x=>(D.W v r x:Int))=Qn (k+1) (fun x=>(D.W v r x:Int))+Qn (D.card v - (k+1)) (fun x=>(D.W v r (k+1+x):Int)):=by
  rw [<-Qh1,show k+1+(D.card v - (k+1))=D.card v by omega]
 have h3:0<=Qn (D.card v - (k+1)) (fun x=>(D.W v r (k+1+x):Int)):=Yd fun x _=>cU _
 simp only [Qn] at h2
 omega
theorem Qwv (X:VX D) {v:Nat} (hv:v < D.n) {sets order:List Int}:Yt ⟨D.net,Q6 D.n D.card,sets,order⟩ (D.node v)=some true:=by
 have V:=X.vn
 have hl:(D.node v).Parents.length=(D.par v).length:=by simp [NF.node]
 have hlen:=V.len v hv
 have hrl:(D.node v).Rows.length=D.rows v:=by simp [NF.node,Q2]
 have hrows:=V.rows_le hv
 have hcv:=V.card v hv
 unfold Yt
 refine Vy (Xb (s0:=((1:Int),(0:Int))) (r:=(D.rows v:Int)) (fun k=>((lprod D.card ((D.par v).take k):Int),(k:Int))) (D.par v).length (by simp [lprod]) (fun k hk=>?_) ?_ (by omega)) ?_
 ·have hp:=V.par v hv (D.par v)[k] (bH hk)
  have b1:lprod D.card ((D.par v).take k)<=4^8:=bT (Qfh fun p hp=>(V.card p (V.par v hv p (bF hp))).2) (aT (by omega) (by rw [cM]; omega))
  have b2:lprod D.card ((D.par v).take k)*D.card (D.par v)[k]<=65536*4:=Nat.mul_le_mul (by omega) (V.card _ hp).2
  unfold Vb
  simp only
  rw [aH (by rw [hl]; simpa using hk),Yj (by rw [hl]; exact hk)]
  have e0:(D.node v).Parents[k]'(by rw [hl]; exact hk)=(((D.par v)[k]:Nat):Int):=by simp [NF.node]
  simp only [aC,e0]
  rw [Yz hp]
  simp only [aC]
  have e1:(lprod D.card ((D.par v).take k):Int)*(D.card (D.par v)[k]:Int)=((lprod D.card ((D.par v).take (k+1)):Nat):Int):=by rw [Vj hk,Qba]; simp
  have e2:lprod D.card ((D.par v).take (k+1))<=65536*4:=by rw [Vj hk,Qba]; exact b2
  rw [e1,w64 (by omega),w64 (by omega)]
  rfl
 ·unfold Vb
  simp only
  rw [aI (by rw [hl]; simp),List.take_of_length_le (aY _)]
  rfl
 rw [aI (by rw [hrl]; simp)]
 refine Vy (Xb (s0:=(0:Int)) (r:=Sum.inr ()) (fun r=>(r:Int)) (D.rows v) rfl (fun r hr=>?_) ?_ (by omega)) rfl
 ·unfold Y9
  simp only
  rw [aH (by rw [hrl]; simpa using hr),show lkI (D.node v).Rows (r:Int)=some (Qd (D.card v) fun x=>(D.W v r x:Int)) from Q3 hr]
  simp only [aC]
  have hin:Qb fuel (X3 (Qd (D.card v) fun x=>(D.W v r x:Int))) ((D.g:Int),(0:Int))=some (Sum.inr 0):=by
   refine Xb (fun k=>((D.g:Int) - Qn k (fun x=>(D.W v r x:Int)),(k:Int))) (D.card v) _ (by simp [Qn]) (fun k hk=>?_) ?_ (by omega)
   ·have h1:=Qye X hv hr hk
    have h2:0<=Qn k (fun x=>(D.W v r x:Int)):=Yd fun x _=>cU _
    have hg:=V.g60
    unfold X3
    simp only
    rw [aH (by rw [Q2]; simpa using hk),Q3 hk]
    simp only [aC]
    rw [aI (by simp),aI (by simp; omega),w64 (by omega),w64 (by omega)]
    simp only [Qn]
    congr 3
    omega
   unfold X3
   simp only
   rw [aI (by rw [Q2]; simp),X.sum v r hv hr,Int.sub_self]
  rw [show (D.net.Grain:Int)=(D.g:Int) from rfl,hin]
  simp only [aC]
  rw [aI (by rw [Q2]; simp [NF.node]),aI (by simp),w64 (by omega)]
  rfl
 unfold Y9
 simp only
 rw [aI (by rw [hrl]; simp)]
def setN (D:NF) (v:Nat):Nat := bitsOf (D.par v) 0
theorem Qs0 (V:VN D) {v:Nat} (hv:v < D.n):setN D v < 18446744073709551616:=Qf7 _ _ (by omega) fun p hp=>by have:=V.par v hv p hp; have:=V.n8; omega
theorem Qrd {v j:Nat}:(setN D v).testBit j=decide (j∈D.par v):=by unfold setN; rw [Qbl]; simp
theorem Qvx (X:VX D):∃order,Qb0 (Q6 D.n (setN D))=some (order,true):=by
 have V:=X.vn
 have hn:=V.n8
 obtain ⟨rk,hrk⟩:=X.rank
 have hlen:(Q6 D.n (setN D)).length=D.n:=Kd
 let I:Int × List Int->Prop:=fun s=>∃(l:List Nat),l.Nodup/\(∀p∈l,p < D.n)/\s=((bitsOf l 0:Int),l.map fun (p:Nat)=>(p:Int))
 have hw:=Yv (body:=Jy (Q6 D.n (setN D))) I (fun s=>D.n - s.2.length) (fun r=>∃o,r=Sum.inr o) (fun s hs=>?_) ((0:Int),List.replicate (Int.toNat 0) (0:Int)) ⟨[],List.nodup_nil,fun p hp=>by simp at hp,rfl⟩ (by simp; omega)
 ·obtain ⟨r,h1,o,rfl⟩:=hw
  refine ⟨o,?_⟩
  unfold Qb0
  rw [aH (by rw [hlen]; omega),h1]
  rfl
 obtain ⟨l,hnd,hl,rfl⟩:=hs
 have hll:l.length<=D.n:=by
  have h1:l ⊆ List.range D.n:=fun p hp=>cK.2 (hl p hp)
  have:=Qf1 l (List.range D.n) hnd h1
  simpa using this
 have hdl:bitsOf l 0 < 18446744073709551616:=Qf7 _ _ (by omega) fun p hp=>by have:=hl p hp; omega
 by_cases hc:l.length < D.n
 ·
  have hex:∃v,v < D.n/\v ∉ l:=by
   apply Classical.byContradiction
   intro hno
   have h1:List.range D.n ⊆ l:=fun p hp=>by
    apply Classical.byContradiction
    intro hp'
    exact hno ⟨p,cK.1 hp,hp'⟩
   have:=Qf1 (List.range D.n) l List.nodup_range h1
   simp at this
   omega
  have hmin:∃v,v < D.n/\v ∉ l/\∀u,u < D.n->u ∉ l->rk v<=rk u:=by
   obtain ⟨v0,h1,h2⟩:=hex
   have:∀(k:Nat) (v:Nat),rk v<=k->v < D.n->v ∉ l->∃v,v < D.n/\v ∉ l/\∀u,u < D.n->u ∉ l->rk v<=rk u:=by
    intro k
    induction k with
    | zero=>intro v hk h1 h2; exact ⟨v,h1,h2,fun u _ _=>by omega⟩
    | succ k ih =>
     intro v hk h1 h2
     by_cases hall:∀u,u < D.n->u ∉ l->rk v<=rk u
     ·exact ⟨v,h1,h2,hall⟩
     ·have:∃u,u < D.n/\u ∉ l/\rk u < rk v:=by
       apply Classical.byContradiction
       intro hno
       exact hall fun u hu hul=>by
        apply Classical.byContradiction
        intro hlt
        exact hno ⟨u,hu,hul,by omega⟩
      obtain ⟨u,hu,hul,hlt⟩:=this
      exact ih u (by omega) hu hul
   exact this (rk v0) v0 (aY _) h1 h2
  obtain ⟨v1,hv1,hv1l,hv1m⟩:=hmin
  have hready:∀p∈D.par v1,p∈l:=fun p hp=>by
   apply Classical.byContradiction
   intro hpl
   have h1:=hv1m p (V.par v1 hv1 p hp) hpl
   have h2:=hrk v1 hv1 p hp
   omega
  left
  have hs2:=Yv (body:=Qb1 (Q6 D.n (setN D)) ((bitsOf l 0:Int),l.map fun (p:Nat)=>(p:Int))) (fun s=>∃k:Nat,k<=v1/\s=(k:Int)) (fun s=>D.n - s.toNat)
   (fun r=>∃v,v < D.n/\v ∉ l/\r=Sum.inl (((bitsOf l 0 ||| 2^v:Nat):Int),(l.map fun (p:Nat)=>(p:Int))++[(v:Int)])) (fun s hs=>?_) (0:Int) ⟨0,by omega,rfl⟩ (by simp; omega)
  ·obtain ⟨r,h1,v,hv,hvl,rfl⟩:=hs2
   refine ⟨(((bitsOf l 0 ||| 2^v:Nat):Int),(l.map fun (p:Nat)=>(p:Int))++[(v:Int)]),?_,⟨l++[v],?_,?_,?_⟩,by simp; omega⟩
   ·unfold Jy
    simp only
    rw [aH (by rw [hlen]; simp; omega),h1]
    rfl
   ·rw [List.nodup_append]
    exact ⟨hnd,by simp,fun a ha b hb=>by simp at hb; subst hb; exact fun e=>hvl (e ▸ ha)⟩
   ·intro p hp
    rcases bQ.1 hp with h | h
    ·exact hl p h
    ·simp at h; subst h; exact hv
   ·rw [Qik]; simp
  ·obtain ⟨k,hk,rfl⟩:=hs
   have hkn:k < D.n:=by omega
   have ek:zw ((k:Int)+1)=((k+1:Nat):Int):=by rw [w64 (by omega)]; omega
   have hbk:(bitsOf l 0).testBit k=decide (k∈l):=by rw [Qbl]; simp
   unfold Qb1
   simp only
   rw [aH (by rw [hlen]; simpa using hkn),Yz hkn]
   simp only [aC]
   rw [aH (by omega),Qu8 hdl (by omega),hbk]
   by_cases hkl:k∈l
   ·left
    rw [aI (by simp [hkl]),ek]
    have hne:k≠v1:=fun e=>hv1l (e ▸ hkl)
    exact ⟨_,rfl,⟨k+1,by omega,rfl⟩,by simp; omega⟩
   ·rw [aH (by simp [hkl])]
    by_cases hsub:∀p∈D.par k,p∈l
    ·right
     rw [aH ((Qy9 (Qs0 V hkn) hdl).2 fun j hj=>by
      rw [Qrd] at hj
      rw [Qbl]
      simp at hj ⊢
      exact hsub j hj),aH (by simp; omega),aH (by omega),Qu4 hdl (by omega)]
     exact ⟨_,rfl,k,hkn,hkl,rfl⟩
    ·left
     have hne:k≠v1:=fun e=>by subst e; exact hsub hready
     rw [aI (fun hc'=>hsub fun p hp=>by
      have:=(Qy9 (Qs0 V hkn) hdl).1 hc' p (by rw [Qrd]; simpa using hp)
      rw [Qbl] at this
      simpa using this),ek]
     exact ⟨_,rfl,⟨k+1,by omega,rfl⟩,by simp; omega⟩
 right
 refine ⟨Sum.inr (l.map fun (p:Nat)=>(p:Int)),?_,_,rfl⟩
 unfold Jy
 simp only
 rw [aI (by rw [hlen]; simp; omega)]
theorem Qtd (X:VX D):∃order,Ko D.net=some (⟨D.net,Q6 D.n D.card,Q6 D.n (setN D),order⟩,0):=by
 have V:=X.vn
 have hn:=V.n8
 have hn1:=V.n1
 have hg:=V.g60
 have hg1:=V.g1
 have hlen:D.net.Nodes.length=D.n:=Q2
 have hG:D.net.Grain=(D.g:Int):=rfl
 obtain ⟨order,hord⟩:=Qvx X
 refine ⟨order,?_⟩
 unfold Ko
 rw [hlen,hG,aI (by simp; omega),aI (by simp; omega),aI (by simp; omega),aI (by simp; omega),aH (by omega),aH (by omega),aP,Qe4]
 have h0:Qb fuel (Qac D.net) ((1:Int),(0:Int),Qd D.n fun _=>(0:Int))=some (Sum.inr ((Qh D.n D.card:Int),Q6 D.n D.card)):=by
  refine Xb (fun k=>((Qh k D.card:Int),(k:Int),Qd D.n fun j=>if j < k then (D.card j:Int) else 0)) D.n _ (by simp [Qh]) (fun k hk=>?_) ?_ (by omega)
  ·have b1:Qh k D.card<=4^k:=Qfq fun j hj=>(V.card j (by omega)).2
   have b2:(4:Nat)^k<=4^8:=aT (by omega) (by omega)
   have b3:Qh k D.card*D.card k<=65536*4:=Nat.mul_le_mul (by omega) (V.card k hk).2
   have hc:=V.card k hk
   have e1:(Qh k D.card:Int)*(D.node k).Card=((Qh (k+1) D.card:Nat):Int):=by simp [Qh,NF.node]
   unfold Qac
   simp only
   rw [aH (by rw [hlen]; simpa using hk),V.node hk]
   simp only [aC]
   have hc1:¬ (decide ((D.node k).Card < 1)=true):=by rw [aN]; show ¬ ((D.card k:Int) < 1); omega
   have hc2:¬ (decide ((D.node k).Card > 4)=true):=by rw [aN]; show ¬ ((D.card k:Int) > 4); omega
   rw [aI hc1,aI hc2,Q3 hk]
   simp only [aC]
   have w1:zw ((Qh (k+1) D.card:Nat):Int)=((Qh (k+1) D.card:Nat):Int):=w64 (by simp only [Qh]; omega)
   rw [e1,w1,w64 (by omega),aP,Xz]
   congr 4
   refine Qp fun j hj=>?_
   by_cases e:j=k
   ·subst e; simp [NF.node]
   rw [aI e]
   by_cases e2:j < k
   ·rw [aH e2,aH (by omega)]
   rw [aI e2,aI (by omega)]
  unfold Qac
  simp only
  rw [aI (by rw [hlen]; simp)]
  congr 4
  exact Qp fun j hj=>aH hj
 rw [h0]
 simp only [aC]
 have hwd:=V.worlds
 rw [aI (by simp; omega)]
 have h2:Qb fuel (Qab D.net ((Qh D.n D.card:Int),Q6 D.n D.card)) ((0:Int),Qd D.n fun _=>(0:Int))=some (Sum.inr (Q6 D.n (setN D))):=by
  refine Xb (fun v=>((v:Int),Qd D.n fun j=>if j < v then (setN D j:Int) else 0)) D.n _ (by simp) (fun v hv=>?_) ?_ (by omega)
  ·have hl:(D.node v).Parents.length=(D.par v).length:=by simp [NF.node]
   have hplen:=V.len v hv
   have h1:Qb fuel (Qaa (D.node v) D.net ((v:Int),Qd D.n fun j=>if j < v then (setN D j:Int) else 0)) ((-1:Int),(0:Int),Qd D.n fun j=>if j < v then (setN D j:Int) else 0) =
     some (Sum.inr (Qd D.n fun j=>if j < v+1 then (setN D j:Int) else 0)):=by
    refine Xb (fun k=>((if k=0 then (-1:Int) else (((D.par v).getD (k - 1) 0:Nat):Int)),(k:Int),Qd D.n fun j=>if j < v then (setN D j:Int) else if j=v then (bitsOf ((D.par v).take k) 0:Int) else 0)) (D.par v).length _ ?_ (fun k hk=>?_) ?_ (by omega)
    ·simp only [dY,List.take_zero]
     congr 2
     refine Qp fun j _=>?_
     by_cases e:j < v
     ·rw [aH e,aH e]
     ·rw [aI e,aI e]; simp [bitsOf]
    ·have hp:=V.par v hv (D.par v)[k] (bH hk)
     have hgt:(if k=0 then (-1:Int) else (((D.par v).getD (k - 1) 0:Nat):Int)) < (((D.par v)[k]:Nat):Int):=by
      by_cases h0:k=0
      ·rw [aH h0]; omega
      rw [aI h0]
      have hk1:k - 1 < (D.par v).length:=by omega
      have:=List.pairwise_iff_getElem.1 (X.sorted v hv) (k - 1) k hk1 hk (by omega)
      have e:(D.par v).getD (k - 1) 0=(D.par v)[k - 1]:=by simp [List.getD,hk1]
      rw [e]; omega
     have hself:(D.par v)[k]≠v:=fun e=>X.self v hv (by have:=bH hk; rwa [e] at this)
     have hbl:bitsOf ((D.par v).take k) 0 < 18446744073709551616:=Qf7 _ _ (by omega) fun p hp=>by have:=V.par v hv p (bF hp); omega
     unfold Qaa
     simp only
     rw [aH (by rw [hl]; simpa using hk),Yj (by rw [hl]; exact hk)]
     have e0:(D.node v).Parents[k]'(by rw [hl]; exact hk)=(((D.par v)[k]:Nat):Int):=by simp [NF.node]
     simp only [aC,e0]
     rw [aI (by rw [aN]; exact Int.not_le.2 hgt),aI (by rw [hlen]; simp; omega),aI (by simp; omega),Q3 hv]
     simp only [aC,cX,dX,dY]
     rw [aH (by omega),Qu4 hbl (by omega),w64 (by omega),aP,Xz,Vj hk,Qik]
     have e2:(D.par v).getD (k+1 - 1) 0=(D.par v)[k]:=by simp [List.getD,hk]
     rw [aI (by omega),e2]
     congr 4
     refine Qp fun j _=>?_
     by_cases e:j=v
     ·subst e; simp
     ·rw [aI e,aI e,aI e]
    ·unfold Qaa
     simp only
     rw [aI (by rw [hl]; simp),List.take_of_length_le (aY _)]
     congr 3
     refine Qp fun j _=>?_
     by_cases e:j < v
     ·rw [aH e,aH (by omega)]
     ·rw [aI e]
      by_cases e2:j=v
      ·subst e2; rw [aH rfl,aH (by omega)]; rfl
      ·rw [aI e2,aI (by omega)]
   unfold Qab
   simp only
   rw [aH (by rw [hlen]; simpa using hv),V.node hv]
   simp only [aC]
   rw [h1]
   simp only [aC]
   rw [Qwv X hv]
   simp only [aC]
   rw [aI (by simp),w64 (by omega)]
   rfl
  unfold Qab
  simp only
  rw [aI (by rw [hlen]; simp)]
  congr 3
  exact Qp fun j hj=>aH hj
 rw [h2]
 simp only [aC]
 rw [hord]
 rfl
end
theorem Qw6 {n:Nat} {f:Nat -> Nat}:∃s:Nat,Qn n (fun x=>(f x:Int))=(s:Int):=by
 obtain ⟨s,hs⟩:=Int.eq_ofNat_of_zero_le (Yd (n:=n) (f:=fun x=>(f x:Int)) fun _ _=>cU _)
 exact ⟨s,hs⟩
theorem Qcm {n k:Nat} {f:Nat -> Int} (h:∀j,j < n->0<=f j) (hk:k<=n):Qn k f<=Qn n f:=by
 obtain ⟨m,rfl⟩:=Nat.exists_eq_add_of_le hk
 rw [Qh1]
 have:=Yd (n:=m) (f:=fun x=>f (k+x)) fun j hj=>h _ (by omega)
 omega
theorem Qmz {g S:Nat} (hS:0 < S):∀(n:Nat) (o:Nat -> Nat),Qn n (fun x=>((g*o x / S:Nat):Int))*S<=g*Qn n (fun x=>(o x:Int))
 | 0,_=>by simp [Qn]
 | n+1,o=>by
  have ih:=Qmz (g:=g) hS n o
  have h1:g*o n / S*S<=g*o n:=Nat.div_mul_le_self _ _
  have h2:(((g*o n / S:Nat):Int))*(S:Int)<=(g:Int)*(o n:Int):=by exact_mod_cast h1
  simp only [Qn]
  rw [Int.add_mul,Int.mul_add]
  exact Int.add_le_add ih h2
theorem Qym {g c:Nat} {l:List Int} {fr:Nat} (hg:g<=60) (hc:1<=c) (hc4:c<=4) (hl:∀x∈l,0<=x/\x<=255) (hll:l.length<=9223372036854775807) (hfr:fr<=100000) :
  ∃f:Nat -> Nat,K6 (g:Int) (c:Int) l (fr:Int)=some (Qd c fun x=>(f x:Int))/\Qn c (fun x=>(f x:Int))=g:=by
 have hb0:∃o:Nat -> Nat,(∀j,o j < 8)/\Qb fuel (Yy (c:Int) l (fr:Int)) ((0:Int),(0:Int),Qd c fun _=>(0:Int))=some (Qn c (fun x=>(o x:Int)),Qd c fun x=>(o x:Int)):=by
  by_cases h0:l.length=0
  ·refine ⟨fun _=>0,fun _=>Nat.zero_lt_succ _,?_⟩
   have hz:∀k,Qn k (fun _=>((0:Nat):Int))=0:=fun k=>Qfn
   refine Xb (fun k=>((0:Int),(k:Int),Qd c fun _=>(0:Int))) c _ rfl (fun k hk=>?_) ?_ (by omega)
   ·unfold Yy
    simp only
    rw [aH (by simpa using hk),aI (by simp [h0]),Q3 hk]
    simp only [aC]
    rw [w64 (by omega),w64 (by omega)]
    rfl
   unfold Yy
   simp only
   rw [aI (by simp),hz]
   rfl
  have hpos:0 < l.length:=by omega
  let o:Nat -> Nat := fun k=>((l[(fr+k) % l.length]'(cD _ hpos)).toNat) % 8
  refine ⟨o,fun j=>cD _ (by omega),?_⟩
  refine Xb (fun k=>(Qn k (fun x=>(o x:Int)),(k:Int),Qd c fun j=>if j < k then (o j:Int) else 0)) c _ (by simp [Qn]) (fun k hk=>?_) ?_ (by omega)
  ·have hx:=hl _ (bH (cD (fr+k) hpos))
   have ho:o k=((l[(fr+k) % l.length]'(cD _ hpos)).toNat) % 8:=rfl
   have hs:Qn k (fun x=>(o x:Int))<=8*k:=by
    have:∀k,Qn k (fun x=>(o x:Int))<=8*k:=by
     intro k
     induction k with
     | zero=>simp [Qn]
     | succ k ih=>simp only [Qn]; have:o k < 8:=cD _ (by omega); omega
    exact this k
   have hs0:0<=Qn k (fun x=>(o x:Int)):=Yd fun _ _=>cU _
   have e1:Int.tmod (zw ((fr:Int)+(k:Int))) (l.length:Int)=(((fr+k) % l.length:Nat):Int):=by
    rw [w64 (by omega),Vu (by omega)]; simp
   unfold Yy
   simp only
   rw [aH (by simpa using hk),aH (by simp; omega),aH (by omega),e1,Yj (cD _ hpos)]
   simp only [aC]
   rw [Q3 hk]
   simp only [aC]
   have e2:Int.tmod (l[(fr+k) % l.length]'(cD _ hpos)) 8=(o k:Int):=by rw [Vu hx.1,ho]; omega
   have ho8:o k < 8:=cD _ (by omega)
   rw [e2]
   have w1:zw (o k:Int)=(o k:Int):=w64 (by omega)
   rw [w1,w64 (by omega),w64 (by omega),aP,Xz]
   simp only [Qn]
   congr 4
   refine Qp fun j hj=>?_
   by_cases e:j=k
   ·subst e; simp
   rw [aI e]
   by_cases e2:j < k
   ·rw [aH e2,aH (by omega)]
   rw [aI e2,aI (by omega)]
  unfold Yy
  simp only
  rw [aI (by simp)]
  congr 3
  exact Qp fun j hj=>aH hj
 obtain ⟨o,ho,h0⟩:=hb0
 obtain ⟨S,hS⟩:=Qw6 (n:=c) (f:=o)
 let q:Nat -> Nat := fun x=>g*o x / S
 have hq:∀x,o x=0->q x=0:=fun x h=>by show g*o x / S=0; rw [h]; simp
 have hSb:S<=32:=by
  have:∀k,Qn k (fun x=>(o x:Int))<=8*k:=by
   intro k
   induction k with
   | zero=>simp [Qn]
   | succ k ih=>simp only [Qn]; have:=ho k; omega
  have:=this c
  omega
 have hpart:∀k,k<=c->0<=Qn k (fun x=>(q x:Int))/\Qn k (fun x=>(q x:Int))<=g:=fun k hk=>by
  refine ⟨Yd fun _ _=>cU _,Int.le_trans (Qcm (fun _ _=>cU _) hk) ?_⟩
  by_cases h:S=0
  ·have:∀x,q x=0:=fun x=>by show g*o x / S=0; rw [h]; simp
   rw [Yu (g:=fun _=>0) (fun x _=>by rw [this]; rfl),Qfn]; omega
  have h1:=Qmz (g:=g) (S:=S) (by omega) c o
  rw [hS] at h1
  have h2:Qn c (fun x=>(q x:Int))*(S:Int)<=(g:Int)*(S:Int):=h1
  exact Int.le_of_mul_le_mul_right h2 (by omega)
 have hb1:=Yv (body:=Qcc (c:Int) (Qn c (fun x=>(o x:Int)),Qd c fun x=>(o x:Int)) (g:Int))
  (fun s=>∃k last:Nat,k<=c/\last < c/\s=((g:Int) - Qn k (fun x=>(q x:Int)),(last:Int),(k:Int),Qd c fun j=>if j < k then (q j:Int) else (o j:Int)))
  (fun s=>c - s.2.2.1.toNat)
  (fun r=>∃last:Nat,last < c/\r=((g:Int) - Qn c (fun x=>(q x:Int)),(last:Int),Qd c fun j=>(q j:Int)))
  (fun s hs=>?_) ((g:Int),(0:Int),(0:Int),Qd c fun x=>(o x:Int)) ⟨0,0,by omega,by omega,by simp [Qn]⟩ (by simp; omega)
 ·obtain ⟨r,h1,last,hlast,rfl⟩:=hb1
  have hp:=hpart c (aY _)
  obtain ⟨left,hleft⟩:=Int.eq_ofNat_of_zero_le (show 0<=(g:Int) - Qn c (fun x=>(q x:Int)) by omega)
  refine ⟨fun x=>q x+if last=x then left else 0,?_,?_⟩
  ·unfold K6
   rw [aH (by omega),aP,Qe4,h0]
   simp only [aC]
   rw [h1]
   simp only [aC]
   rw [Q3 hlast]
   simp only [aC]
   have hql:(q last:Int)<=g:=by
    have e:=Qcm (n:=c) (k:=last+1) (f:=fun x=>(q x:Int)) (fun _ _=>cU _) (by omega)
    have e2:=(hpart last (by omega)).1
    simp only [Qn] at e
    omega
   rw [hleft,w64 (by omega),aP,Xz]
   congr 1
   refine Qp fun x hx=>?_
   by_cases e:x=last
   ·subst e; simp
   ·rw [aI e,aI (Ne.symm e)]; simp
  ·have e:(fun x=>((q x+if last=x then left else 0:Nat):Int))=fun x=>(q x:Int)+if last=x then (left:Int) else 0:=by
    funext x; split <;> simp
   rw [e,Qyi,Qyr hlast]
   have:(left:Int)=(g:Int) - Qn c (fun x=>(q x:Int)):=hleft.symm
   omega
 ·obtain ⟨k,last,hk,hlast,rfl⟩:=hs
  unfold Qcc
  simp only
  by_cases hkc:k < c
  ·left
   have hp1:=hpart k hk
   have hp2:=hpart (k+1) hkc
   have e1:Qn (k+1) (fun x=>(q x:Int))=Qn k (fun x=>(q x:Int))+(q k:Int):=rfl
   rw [aH (by simpa using hkc),Q3 hkc]
   simp only [aC,cX,dX]
   have ek:zw ((k:Int)+1)=((k+1:Nat):Int):=by rw [w64 (by omega)]; omega
   by_cases ho0:o k=0
   ·rw [aI (by simp [ho0]),ek,ho0,w64 (by omega)]
    refine ⟨_,rfl,⟨k+1,last,hkc,hlast,?_⟩,by simp; omega⟩
    rw [e1,hq k ho0]
    congr 1
    ·simp
    ·congr 2
     refine Qp fun j hj=>?_
     by_cases e:j=k
     ·subst e; simp [ho0,hq]
     ·by_cases e2:j < k
      ·rw [aH e2,aH (by omega)]
      ·rw [aI e2,aI (by omega)]
   ·have hSpos:S≠0:=by
     intro h
     have:=Qcm (n:=c) (k:=k+1) (f:=fun x=>(o x:Int)) (fun _ _=>cU _) hkc
     have h2:0<=Qn k (fun x=>(o x:Int)):=Yd fun _ _=>cU _
     simp only [Qn] at this
     omega
    have hok:=ho k
    have hm:g*o k<=60*8:=Nat.mul_le_mul hg (by omega)
    have e2:zw (Int.tdiv (zw ((g:Int)*(o k:Int))) (Qn c (fun x=>(o x:Int))))=(q k:Int):=by
     have e3:(g:Int)*(o k:Int)=((g*o k:Nat):Int):=by simp
     have hd:g*o k / S<=g*o k:=Nat.div_le_self _ _
     have w1:zw ((g*o k:Nat):Int)=((g*o k:Nat):Int):=w64 (by omega)
     rw [e3,w1,hS,Qh2 (cU _),show ((g*o k:Nat):Int) / (S:Int)=((g*o k / S:Nat):Int) by simp]
     show zw ((g*o k / S:Nat):Int)=((g*o k / S:Nat):Int)
     obtain ⟨z,hz⟩:∃z,g*o k / S=z:=⟨_,rfl⟩
     rw [hz] at hd ⊢
     exact w64 (by omega)
    rw [aH (by simp; omega),aH (by rw [hS]; omega),e2,ek,aP,Xz,w64 (by omega)]
    refine ⟨_,rfl,⟨k+1,k,hkc,hkc,?_⟩,by simp; omega⟩
    rw [e1]
    congr 1
    ·omega
    ·congr 2
     refine Qp fun j hj=>?_
     by_cases e:j=k
     ·subst e; simp
     ·rw [aI e]
      by_cases e2:j < k
      ·rw [aH e2,aH (by omega)]
      ·rw [aI e2,aI (by omega)]
  ·right
   have:k=c:=by omega
   subst this
   rw [aI (by simp)]
   refine ⟨_,rfl,last,hlast,?_⟩
   congr 2
   exact Qp fun j hj=>aH hj
theorem Qzw {n:Nat} (hn:n<=5) {w:Int} {o:List Int}:Y7 ⟨List.replicate n (0:Int),w,o⟩=some (List.replicate n 1):=by
 unfold Y7
 refine Vy (Xb (s0:=((0:Int),([]:List Int))) (r:=List.replicate n 1) (fun k=>((k:Int),List.replicate k (1:Int))) n rfl (fun k hk=>?_) ?_ (by omega)) rfl
 ·unfold Vw
  simp only
  rw [aH (by simp; omega),aH (by simp; omega),Yj (by simpa using hk)]
  simp only [aC,List.getElem_replicate]
  have e:zw (1+zw (Int.tmod 0 4))=1:=by decide
  rw [e,aH (by simp; omega),w64 (by omega),<-List.replicate_succ']
  rfl
 unfold Vw
 simp only
 rw [aI (by simp)]
theorem Qrk {q:List Nat} {k a:Nat} (h:q.Nodup) (hk:∀x∈q,x < k):(q.take a++[k]++q.drop a).Nodup/\∀x∈q.take a++[k]++q.drop a,x < k+1:=by
 have hperm:(q.take a++[k]++q.drop a).Perm (k::q):=by
  have h1:(q.take a++[k]++q.drop a).Perm ([k]++q.take a++q.drop a):=List.Perm.append_right _ List.perm_append_comm
  have h2:[k]++q.take a++q.drop a=k::q:=by simp
  rw [h2] at h1
  exact h1
 refine ⟨?_,fun x hx=>?_⟩
 ·rw [hperm.nodup_iff,List.nodup_cons]
  exact ⟨fun hm=>cX _ (hk k hm),h⟩
 have:=hperm.mem_iff.1 hx
 rcases bY.1 this with e | e
 ·omega
 have:=hk x e; omega
theorem Qt7 {n:Nat} (hn:n<=5) {o:List Int} (ho:∀x∈o,0<=x/\x<=255) :
  ∃q:List Nat,q.Nodup/\(∀x∈q,x < n)/\q.length=n/\Xr ⟨List.replicate n (0:Int),0,o⟩=some (q.map fun (x:Nat)=>(x:Int)):=by
 have hw:=Yv (body:=X8 ⟨List.replicate n (0:Int),0,o⟩) (fun s=>∃q:List Nat,q.Nodup/\(∀x∈q,x < q.length)/\q.length<=n/\s=((q.length:Int),q.map fun (x:Nat)=>(x:Int)))
  (fun s=>n - s.1.toNat) (fun r=>∃q:List Nat,q.Nodup/\(∀x∈q,x < n)/\q.length=n/\r=q.map fun (x:Nat)=>(x:Int)) (fun s hs=>?_) ((0:Int),([]:List Int)) ⟨[],List.nodup_nil,fun x hx=>by simp at hx,by simp,rfl⟩ (by simp; omega)
 ·obtain ⟨r,h1,q,h2,h3,h4,rfl⟩:=hw
  refine ⟨q,h2,h3,h4,?_⟩
  unfold Xr
  rw [h1]; rfl
 ·obtain ⟨q,hnd,hx,hl,rfl⟩:=hs
  unfold X8
  rw [Qzw hn]
  simp only [aC,cC,bU]
  by_cases hc:q.length < n
  ·left
   rw [aH (by simpa using hc)]
   have ek:zw ((q.length:Int)+1)=((q.length+1:Nat):Int):=by rw [w64 (by omega)]; omega
   have ins:∀a:Nat,a<=q.length->∃s',s'=((((q.take a++[q.length]++q.drop a).length:Nat):Int),(q.take a++[q.length]++q.drop a).map fun (x:Nat)=>(x:Int)) /\
     (∃q:List Nat,q.Nodup/\(∀x∈q,x < q.length)/\q.length<=n/\s'=((q.length:Int),q.map fun (x:Nat)=>(x:Int)))/\n - s'.1.toNat < n - ((q.length:Int)).toNat := fun a ha=>by
    obtain ⟨i1,i2⟩:=Qrk (a:=a) hnd hx
    have hlen:(q.take a++[q.length]++q.drop a).length=q.length+1:=by simp; omega
    exact ⟨_,rfl,⟨_,i1,fun x hx=>by rw [hlen]; exact i2 x hx,by rw [hlen]; omega,rfl⟩,by simp only [hlen]; simp; omega⟩
   have hsub:∀a:Nat,a<=q.length->sub (q.map fun (x:Nat)=>(x:Int)) 0 (a:Int)=(q.take a).map (fun (x:Nat)=>(x:Int))/\sub (q.map fun (x:Nat)=>(x:Int)) (a:Int) (q.length:Int)=(q.drop a).map (fun (x:Nat)=>(x:Int)):=fun a ha=>by
    unfold sub
    refine ⟨by simp,?_⟩
    simp only [aP]
    rw [List.take_of_length_le (by simp),List.map_drop]
   by_cases ho':q.length < o.length
   ·rw [aH (by simpa using ho'),Yj ho']
    simp only [aC]
    have hv:=ho _ (bH ho')
    obtain ⟨a,ha,hae⟩:∃a:Nat,a<=q.length/\Int.tmod (zw o[q.length]) ((q.length+1:Nat):Int)=(a:Int):=by
     refine ⟨(o[q.length]).toNat % (q.length+1),by have:=cD (o[q.length]).toNat (show 0 < q.length+1 by omega); omega,?_⟩
     rw [w64 (by omega),Vu hv.1]
     rw [Int.natCast_emod,Int.toNat_of_nonneg hv.1]
    obtain ⟨s',hs',h1,h2⟩:=ins a ha
    refine ⟨s',?_,h1,by simpa using h2⟩
    rw [ek,aH (by omega),hae,aH (by omega),(hsub a ha).1,aH (by simp; omega),aH (by simp; omega),aH (by omega),(hsub a ha).2,aH (by simp; omega),hs']
    simp
    omega
   ·rw [aI (by simpa using ho')]
    obtain ⟨s',hs',h1,h2⟩:=ins 0 (by omega)
    refine ⟨s',?_,h1,by simpa using h2⟩
    have hz:=hsub 0 (by omega)
    rw [ek,aH (by omega),show sub (q.map fun (x:Nat)=>(x:Int)) 0 0=(q.take 0).map (fun (x:Nat)=>(x:Int)) from hz.1,aH (by simp),aH (by simp),aH (by omega),show sub (q.map fun (x:Nat)=>(x:Int)) 0 (q.length:Int)=(q.drop 0).map (fun (x:Nat)=>(x:Int)) from hz.2,aH (by simp; omega),hs']
    simp
  ·right
   rw [aI (by simpa using hc)]
   exact ⟨_,rfl,q,hnd,fun x hm=>by have:=hx x hm; omega,by omega,rfl⟩
theorem Qd5 {x:Int}:0<=zv x:=by simp only [IntKind.wrap,IntKind.bits,IntKind.signed]; simp; omega
theorem Qlm {n:Nat} {q:List Nat} (hn:q.Nodup) (hl:∀x∈q,x < n) (hlen:q.length=n):∀v,v < n->v∈q:=fun v hv=>by
 apply Classical.byContradiction
 intro hno
 have h1:(v::q).Nodup:=List.nodup_cons.2 ⟨hno,hn⟩
 have h2:(v::q) ⊆ List.range n:=fun p hp=>by
  rcases bY.1 hp with e | e
  ·subst e; exact cK.2 hv
  exact cK.2 (hl p e)
 have:=Qf1 _ _ h1 h2
 simp at this
 omega
theorem Qb4 {q:List Nat} {i:Nat} (hi:i < q.length) {v:Nat}:v∈q.take (i+1)↔v∈q.take i\/v=q[i]:=by
 rw [Vj hi,bQ,bR]
theorem Qlk {q:List Nat} (hn:q.Nodup) {i:Nat} (hi:i < q.length):q[i] ∉ q.take i:=fun h=>by
 obtain ⟨k,hk,e⟩:=bA.1 h
 rw [cM] at hk
 rw [List.getElem_take] at e
 have:=List.pairwise_iff_getElem.1 hn k i (by omega) hi (by omega)
 exact this e
theorem Qqy:∀{q:List Nat} {p j:Nat},p∈q.take j->q.idxOf p < j
 | [],p,j,h=>by simp at h
 | x::q,p,0,h=>by simp at h
 | x::q,p,j+1,h=>by
  rw [List.idxOf_cons]
  by_cases e:x=p
  ·subst e; simp
  have:p∈q.take j:=by
   rcases bY.1 h with e' | e'
   ·exact absurd e'.symm e
   exact e'
  have:=Qqy this
  rw [show (x==p)=false by simpa using e]
  simp; omega
theorem Qya {q:List Nat} (hn:q.Nodup) {j:Nat} (hj:j < q.length):j<=q.idxOf q[j]:=by
 apply Classical.byContradiction
 intro h
 have hk:q.idxOf q[j] < q.length:=by omega
 have e:q[q.idxOf q[j]]=q[j]:=List.getElem_idxOf hk
 have:=List.pairwise_iff_getElem.1 hn (q.idxOf q[j]) j hk hj (by omega)
 exact this e
def dcnt (p0:Qe):Nat := min (max p0.Nodes.length 1) 5
theorem Qem {p0:Qe}:(if 5 < (if 1 > (p0.Nodes.length:Int) then 1 else (p0.Nodes.length:Int)) then 5 else (if 1 > (p0.Nodes.length:Int) then 1 else (p0.Nodes.length:Int)))=(dcnt p0:Int):=by
 unfold dcnt
 split <;> split at * <;> omega
theorem Qg7 {p0:Qe}:1<=dcnt p0/\dcnt p0<=5:=by unfold dcnt; omega
structure Qu3 (p0:Qe):Prop where
 grain:0<=p0.Grain/\p0.Grain<=255
 order:∀x∈p0.Order,0<=x/\x<=255
 card:∀p∈p0.Nodes,0<=p.Card/\p.Card<=255
 W:∀p∈p0.Nodes,∀x∈p.W,0<=x/\x<=255
 Wl:∀p∈p0.Nodes,p.W.length<=9223372036854775807
section
variable {p0:Qe} {q:List Nat}
theorem Ql0 {i:Nat} (hi:i < q.length):lkI (q.map fun (x:Nat)=>(x:Int)) (i:Int)=some ((q[i]:Nat):Int):=by rw [Yj (by simpa using hi)]; simp
theorem Q11 (h:Qu3 p0) (hn:q.Nodup) (hl:∀x∈q,x < dcnt p0) (hlen:q.length=dcnt p0) :
  ∃C:Nat -> Nat,(∀v,v < dcnt p0->2<=C v/\C v<=3) /\
   Qb fuel (Xw p0 (q.map fun (x:Nat)=>(x:Int))) (1,0,List.replicate (dcnt p0) (Sum.inl 0))=some (Qd (dcnt p0) fun v=>Sum.inl (C v:Int)):=by
 have hcn:=Qg7 (p0:=p0)
 have hw:=Yv (body:=Xw p0 (q.map fun (x:Nat)=>(x:Int)))
  (fun s=>∃(w:Int) (i:Nat) (C:Nat -> Nat),i<=dcnt p0/\(∀v,v∈q.take i->2<=C v/\C v<=3)/\s=(w,(i:Int),Qd (dcnt p0) fun v=>Sum.inl (C v:Int)))
  (fun s=>dcnt p0 - s.2.1.toNat)
  (fun r=>∃C:Nat -> Nat,(∀v,v < dcnt p0->2<=C v/\C v<=3)/\r=Qd (dcnt p0) fun v=>Sum.inl (C v:Int))
  (fun s hs=>?_) (1,0,List.replicate (dcnt p0) (Sum.inl 0)) ⟨1,0,fun _=>0,by omega,fun v hv=>by simp at hv,by rw [Qe4]; rfl⟩ (by simp; omega)
 ·obtain ⟨r,h1,C,h2,rfl⟩:=hw
  exact ⟨C,h2,h1⟩
 ·obtain ⟨w,i,C,hi,hC,rfl⟩:=hs
  by_cases hic:i < dcnt p0
  ·left
   have hiq:i < q.length:=by omega
   have hv:=hl _ (bH hiq)
   have ek:zw ((i:Int)+1)=((i+1:Nat):Int):=by rw [w64 (by omega)]; omega
   have leaf:∀(w':Int) (c:Nat),2<=c->c<=3->(∃s',some (Qi.next (w',zw ((i:Int)+1),List.set (Qd (dcnt p0) fun v=>(Sum.inl (C v:Int):Int ⊕ Ad)) (Int.toNat ((q[i]:Nat):Int)) (Sum.inl (c:Int))))=some (Qi.next (ρ:=List (Int ⊕ Ad)) s') /\
     (∃(w:Int) (i:Nat) (C:Nat -> Nat),i<=dcnt p0/\(∀v,v∈q.take i->2<=C v/\C v<=3)/\s'=(w,(i:Int),Qd (dcnt p0) fun v=>Sum.inl (C v:Int)))/\dcnt p0 - s'.2.1.toNat < dcnt p0 - (i:Int).toNat):=fun w' c c1 c2=>by
    rw [ek]
    refine ⟨_,rfl,⟨w',i+1,Zs C q[i] c,hic,fun v hv=>?_,?_⟩,by simp; omega⟩
    ·rcases (Qb4 hiq).1 hv with e | e
     ·by_cases e2:v=q[i]
      ·subst e2; rw [Zz]; exact ⟨c1,c2⟩
      ·rw [Yk e2]; exact hC v e
     ·subst e; rw [Zz]; exact ⟨c1,c2⟩
    ·rw [aP,Xz]
     congr 2
     refine Qp fun k hk=>?_
     by_cases e:k=q[i]
     ·rw [aH e,e,Zz]
     ·rw [aI e,Yk e]
   have hk:lkL (Qd (dcnt p0) fun v=>(Sum.inl (C v:Int):Int ⊕ Ad)) ((q[i]:Nat):Int)=some (C q[i]:Int):=by unfold lkL; rw [Q3 hv]; rfl
   unfold Xw
   simp only [Qem]
   rw [aH (by simpa using hic)]
   by_cases hin:i < p0.Nodes.length
   ·have hp:=h.card _ (bH hin)
    have ec:zw (2+zw (Int.tmod (p0.Nodes[i]).Card 2))=((2+(p0.Nodes[i]).Card.toNat % 2:Nat):Int):=by
     have w1:zw ((p0.Nodes[i]).Card % 2)=(p0.Nodes[i]).Card % 2:=w64 (by omega)
     rw [Vu hp.1,w1,w64 (by omega)]; omega
    rw [aH (by simpa using hin),Yj hin]
    simp only [aC]
    rw [aH Qd5]
    split
    ·rw [Ql0 hiq]
     simp only [aC]
     rw [hk]
     exact leaf _ 2 (by omega) (by omega)
    ·rw [Ql0 hiq]
     simp only [aC]
     rw [hk]
     simp only [aC]
     rw [ec]
     exact leaf _ _ (by omega) (by omega)
   ·rw [aI (by simpa using hin),aH Qd5]
    split
    ·rw [Ql0 hiq]
     simp only [aC]
     rw [hk]
     exact leaf _ 2 (by omega) (by omega)
    ·rw [Ql0 hiq]
     simp only [aC]
     rw [hk]
     simp only [aC]
     exact leaf _ 2 (by omega) (by omega)
  ·right
   have:i=dcnt p0:=by omega
   subst this
   unfold Xw
   simp only [Qem]
   rw [aI (by simp)]
   refine ⟨_,rfl,C,fun v hv=>hC v ?_,rfl⟩
   rw [List.take_of_length_le (by omega)]
   exact Qlm hn hl hlen v hv
theorem Q1v (hn:q.Nodup) {L:List (Int ⊕ Ad)} {i u:Nat} {P:List Nat} {pc:Qu} (hi:i < q.length) (hq:q.length<=5) :
  ∃P':List Nat,(P'=P\/(P'=P++[u]/\u∈q.take i/\P.length < 3)) /\
   Qb fuel (X1 ((i:Int),L) (q.map fun (x:Nat)=>(x:Int)) ((u:Int),P.map fun (x:Nat)=>(x:Int)) pc) (0,P.map fun (x:Nat)=>(x:Int))=some (P'.map fun (x:Nat)=>(x:Int)):=by
 have hw:=Yv (body:=X1 ((i:Int),L) (q.map fun (x:Nat)=>(x:Int)) ((u:Int),P.map fun (x:Nat)=>(x:Int)) pc)
  (fun s=>∃(k:Nat) (P':List Nat),k<=i/\(P'=P\/(P'=P++[u]/\u∈q.take k/\P.length < 3))/\s=((k:Int),P'.map fun (x:Nat)=>(x:Int)))
  (fun s=>i - s.1.toNat) (fun r=>∃P':List Nat,(P'=P\/(P'=P++[u]/\u∈q.take i/\P.length < 3))/\r=P'.map fun (x:Nat)=>(x:Int))
  (fun s hs=>?_) ((0:Int),P.map fun (x:Nat)=>(x:Int)) ⟨0,P,by omega,.inl rfl,rfl⟩ (by simp; omega)
 ·obtain ⟨r,h1,P',h2,rfl⟩:=hw
  exact ⟨P',h2,h1⟩
 ·obtain ⟨k,P',hk,hP,rfl⟩:=hs
  by_cases hki:k < i
  ·left
   have hkq:k < q.length:=by omega
   have ek:zw ((k:Int)+1)=((k+1:Nat):Int):=by rw [w64 (by omega)]; omega
   have same:∃s',some (Qi.next (zw ((k:Int)+1),P'.map fun (x:Nat)=>(x:Int)))=some (Qi.next (ρ:=List Int) s') /\
     (∃(k:Nat) (P':List Nat),k<=i/\(P'=P\/(P'=P++[u]/\u∈q.take k/\P.length < 3))/\s'=((k:Int),P'.map fun (x:Nat)=>(x:Int)))/\i - s'.1.toNat < i - (k:Int).toNat := by
    rw [ek]
    exact ⟨_,rfl,⟨k+1,P',hki,hP.imp id fun h=>⟨h.1,(Qb4 hkq).2 (.inl h.2.1),h.2.2⟩,rfl⟩,by simp; omega⟩
   unfold X1
   simp only
   rw [aH (by simpa using hki),Ql0 hkq]
   simp only [aC]
   by_cases hqu:q[k]=u
   ·rw [aH (by simp [hqu]),aH Qd5]
    have hPP:P'=P:=by
     rcases hP with e | ⟨_,e,_⟩
     ·exact e
     exact absurd (hqu ▸ e) (Qlk hn hkq)
    subst hPP
    split
    ·split
     ·rename_i h3
      have h3':P'.length < 3:=by simp at h3; omega
      rw [aH (by simp; omega),ek]
      exact ⟨_,rfl,⟨k+1,P'++[u],hki,.inr ⟨rfl,(Qb4 hkq).2 (.inr hqu.symm),h3'⟩,by simp⟩,by simp; omega⟩
     ·exact same
    ·exact same
   ·rw [aI (by simpa using (fun e:((q[k]:Nat):Int)=(u:Int)=>hqu (by omega)))]
    exact same
  ·right
   have:k=i:=by omega
   subst this
   unfold X1
   simp only
   rw [aI (by simp)]
   exact ⟨_,rfl,P',hP,rfl⟩
theorem Q08 (hn:q.Nodup) (hlen:q.length=dcnt p0) {L:List (Int ⊕ Ad)} {i:Nat} {pc:Qu} (hi:i < q.length) :
  ∃P:List Nat,P.Pairwise (· < ·)/\(∀p∈P,p∈q.take i)/\P.length<=3 /\
   Qb fuel (Z9 p0 ((i:Int),L) (q.map fun (x:Nat)=>(x:Int)) pc) (0,[])=some (P.map fun (x:Nat)=>(x:Int)):=by
 have hcn:=Qg7 (p0:=p0)
 have hw:=Yv (body:=Z9 p0 ((i:Int),L) (q.map fun (x:Nat)=>(x:Int)) pc)
  (fun s=>∃(u:Nat) (P:List Nat),u<=dcnt p0/\P.Pairwise (· < ·)/\(∀p∈P,p < u/\p∈q.take i)/\P.length<=3/\s=((u:Int),P.map fun (x:Nat)=>(x:Int)))
  (fun s=>dcnt p0 - s.1.toNat) (fun r=>∃P:List Nat,P.Pairwise (· < ·)/\(∀p∈P,p∈q.take i)/\P.length<=3/\r=P.map fun (x:Nat)=>(x:Int))
  (fun s hs=>?_) ((0:Int),([]:List Int)) ⟨0,[],by omega,List.Pairwise.nil,fun p hp=>by simp at hp,by simp,rfl⟩ (by simp; omega)
 ·obtain ⟨r,h1,P,h2,h3,h4,rfl⟩:=hw
  exact ⟨P,h2,h3,h4,h1⟩
 ·obtain ⟨u,P,hu,h2,h3,h4,rfl⟩:=hs
  unfold Z9
  simp only [Qem]
  by_cases huc:u < dcnt p0
  ·left
   obtain ⟨P',hP',hb⟩:=Q1v hn (L:=L) (u:=u) (P:=P) (pc:=pc) hi (by omega)
   have ek:zw ((u:Int)+1)=((u+1:Nat):Int):=by rw [w64 (by omega)]; omega
   rw [aH (by simpa using huc),hb]
   simp only [aC]
   rw [ek]
   refine ⟨_,rfl,⟨u+1,P',huc,?_,?_,?_,rfl⟩,by simp; omega⟩
   ·rcases hP' with rfl | ⟨rfl,_,_⟩
    ·exact h2
    ·rw [List.pairwise_append]
     exact ⟨h2,List.pairwise_singleton _ _,fun a ha b hb=>by simp at hb; subst hb; exact (h3 a ha).1⟩
   ·rcases hP' with rfl | ⟨rfl,hm,_⟩
    ·exact fun p hp=>⟨by have:=(h3 p hp).1; omega,(h3 p hp).2⟩
    ·intro p hp
     rcases bQ.1 hp with e | e
     ·exact ⟨by have:=(h3 p e).1; omega,(h3 p e).2⟩
     ·simp at e; subst e; exact ⟨by omega,hm⟩
   ·rcases hP' with rfl | ⟨rfl,_,hlt⟩
    ·exact h4
    ·simp; omega
  ·right
   rw [aI (by simpa using huc)]
   exact ⟨_,rfl,P,h2,fun p hp=>(h3 p hp).2,h4,rfl⟩
theorem Qvf {n:Nat} {g:Int} {F:Nat -> Ad} {C:Nat -> Nat} (hF:∀v,v < n->(F v).Card=(C v:Int)) (hn:n<=8):Qaf ⟨g,Qd n F⟩=some (Q6 n C):=by
 unfold Qaf
 refine Vy (Xb (s0:=((0:Int),([]:List Int))) (r:=Q6 n C) (fun k=>((k:Int),Q6 k C)) n rfl (fun k hk=>?_) ?_ (by omega)) rfl
 ·unfold Qao
  simp only
  rw [aH (by rw [Q2]; simpa using hk),Q3 hk]
  simp only [aC]
  rw [hF k hk,show Q6 k C++[(C k:Int)]=Q6 (k+1) C from Qjm,aH (by rw [Kd]; omega),w64 (by omega)]
  rfl
 unfold Qao
 simp only
 rw [aI (by rw [Q2]; simp)]
theorem Qvt {f:Nat -> Nat} {l:List Nat} (hf:∀p∈l,f p<=4) (hl:l.length<=8):J7 (l.map fun p=>(f p:Int))=some (lprod f l:Int):=by
 unfold J7
 refine Vy (Xb (s0:=((1:Int),(0:Int))) (r:=(lprod f l:Int)) (fun k=>((lprod f (l.take k):Int),(k:Int))) l.length (by simp [lprod]) (fun k hk=>?_) ?_ (by omega)) rfl
 ·have h1:lprod f (l.take k)<=4^8:=bT (Qfh fun p hp=>hf p (bF hp)) (aT (by omega) (by rw [cM]; omega))
  have h2:=hf _ (bH hk)
  have h3:lprod f (l.take k)*f l[k]<=65536*4:=Nat.mul_le_mul (by omega) h2
  have e:(lprod f (l.take k):Int)*(f l[k]:Int)=((lprod f (l.take (k+1)):Nat):Int):=by rw [Vj hk,Qba]; simp
  have e2:lprod f (l.take (k+1))<=65536*4:=by rw [Vj hk,Qba]; exact h3
  unfold Qbq
  simp only
  rw [aH (by simpa using hk),Yj (by simpa using hk)]
  simp only [aC,List.getElem_map]
  rw [e,w64 (by omega),w64 (by omega)]
  rfl
 unfold Qbq
 simp only
 rw [aI (by simp),List.take_of_length_le (aY _)]
theorem Q13 {n v:Nat} {N:Nat -> Int ⊕ Ad} {x:Ad}:List.set (List.map Ah (Qd n N)) (Int.toNat (v:Int)) x=Qd n fun k=>if k=v then x else Ah (N k):=by
 rw [show List.map Ah (Qd n N)=Qd n (fun k=>Ah (N k)) by simp [Qd],aP,Xz]
theorem Qu7 {n v:Nat} {g:Int} {N:Nat -> Int ⊕ Ad} {C:Nat -> Nat} {P:List Nat} {R:List (List Int)} (hN:∀k,k < n->(Ah (N k)).Card=(C k:Int)) (hn:n<=8) (hv:v < n) (hP:∀p∈P,p < n) (hl:P.length<=8) :
  Z3 ⟨g,List.set (List.map Ah (Qd n N)) (Int.toNat (v:Int)) ⟨(C v:Int),P.map (fun (x:Nat)=>(x:Int)),R⟩⟩ (v:Int)=some (P.map fun p=>(C p:Int)):=by
 unfold Z3
 rw [Q13,Qvf (C:=C) (fun k hk=>?_) hn]
 ·simp only [aC]
  rw [Q3 hv]
  simp only [aC,dY]
  rw [Q2n hP hl]
  rfl
 ·by_cases e:k=v
  ·subst e; rw [aH rfl]
  ·rw [aI e]; exact hN k hk
theorem Q1g {g c v i:Nat} {N:Nat -> Int ⊕ Ad} {C:Nat -> Nat} {P:List Nat} {pc:Qu} (hg:zw (1+(zw (Int.tmod p0.Grain 60)))=(g:Int)) (hg60:g<=60)
  (hC:∀k,k < dcnt p0->2<=C k/\C k<=3) (hN:∀k,k < dcnt p0->(Ah (N k)).Card=(C k:Int)) (hv:v < dcnt p0) (hP:∀p∈P,p < dcnt p0) (hl:P.length<=3)
  (hW:∀x∈pc.W,0<=x/\x<=255) (hWl:pc.W.length<=9223372036854775807) :
  ∃W:Nat -> Nat -> Nat,(∀r,r < lprod C P->Qn (C v) (fun x=>(W r x:Int))=g) /\
   Qb fuel (Xy p0 ((i:Int),Qd (dcnt p0) N) (v:Int) (C v:Int) (P.map fun (x:Nat)=>(x:Int)) pc) (0,[])=some (Qd (lprod C P) fun r=>Qd (C v) fun x=>(W r x:Int)):=by
 have hcn:=Qg7 (p0:=p0)
 have hcv:=hC v hv
 have hsz:=Qvt (f:=C) (l:=P) (fun p hp=>by have:=hC p (hP p hp); omega) (by omega)
 have hb:lprod C P<=64:=bT (Qfh fun p hp=>by have:=hC p (hP p hp); omega) (aT (by omega) hl:4^P.length<=4^3)
 have hw:=Yv (body:=Xy p0 ((i:Int),Qd (dcnt p0) N) (v:Int) (C v:Int) (P.map fun (x:Nat)=>(x:Int)) pc)
  (fun s=>∃(r:Nat) (W:Nat -> Nat -> Nat),r<=lprod C P/\(∀r',r' < r->Qn (C v) (fun x=>(W r' x:Int))=g)/\s=((r:Int),Qd r fun r=>Qd (C v) fun x=>(W r x:Int)))
  (fun s=>lprod C P - s.1.toNat) (fun o=>∃W:Nat -> Nat -> Nat,(∀r,r < lprod C P->Qn (C v) (fun x=>(W r x:Int))=g)/\o=Qd (lprod C P) fun r=>Qd (C v) fun x=>(W r x:Int))
  (fun s hs=>?_) ((0:Int),([]:List (List Int))) ⟨0,fun _ _=>0,by omega,fun r hr=>by omega,rfl⟩ (by simp; omega)
 ·obtain ⟨o,h1,W,h2,rfl⟩:=hw
  exact ⟨W,h2,h1⟩
 ·obtain ⟨r,W,hr,hS,rfl⟩:=hs
  unfold Xy
  simp only
  rw [Qu7 hN (by omega) hv hP (by omega)]
  simp only [aC]
  rw [hsz]
  simp only [aC]
  by_cases hrs:r < lprod C P
  ·left
   have hm:r*(C v+1)<=64*4:=Nat.mul_le_mul (by omega) (by omega)
   have ef:zw ((r:Int)*zw ((C v:Int)+1))=((r*(C v+1):Nat):Int):=by
    have w1:zw ((C v:Int)+1)=((C v+1:Nat):Int):=by rw [w64 (by omega)]; omega
    have e3:(r:Int)*((C v+1:Nat):Int)=((r*(C v+1):Nat):Int):=by simp
    rw [w1,e3]
    exact w64 (by omega)
   obtain ⟨f,hf,hfs⟩:=Qym (g:=g) (c:=C v) (l:=pc.W) (fr:=r*(C v+1)) hg60 (by omega) (by omega) hW hWl (by omega)
   have ek:zw ((r:Int)+1)=((r+1:Nat):Int):=by rw [w64 (by omega)]; omega
   rw [aH (by simpa using hrs),hg,ef,hf]
   simp only [aC]
   rw [aH (by simp [Q2]; omega),ek]
   have e:(Qd r fun r=>Qd (C v) fun x=>(W r x:Int))++[Qd (C v) fun x=>(f x:Int)]=Qd (r+1) fun r'=>Qd (C v) fun x=>((Zs W r f) r' x:Int):=by
    rw [<-Qjm,Zz]
    congr 1
    exact Qp fun k hk=>by rw [Yk (by omega)]
   refine ⟨_,rfl,⟨r+1,Zs W r f,hrs,fun r' hr'=>?_,by rw [e]⟩,by simp; omega⟩
   by_cases e2:r'=r
   ·subst e2; rw [Zz]; exact hfs
   ·rw [Yk e2]; exact hS r' (by omega)
  ·right
   have:r=lprod C P:=by omega
   subst this
   rw [aI (by simp)]
   exact ⟨_,rfl,W,hS,rfl⟩
theorem Q2w {s:Int × List (Int ⊕ Ad)} {x1:List Int}:Qbu p0 s x1=Z9 p0 s x1 ⟨0,0,[]⟩:=rfl
theorem Qzl {n:Nat} {F:Nat -> Ad}:alr (Qd n fun v=>(Sum.inr (F v):Int ⊕ Ad))=some (Qd n F):=by
 have:∀l:List Nat,alr (l.map fun v=>(Sum.inr (F v):Int ⊕ Ad))=some (l.map F):=by
  intro l
  induction l with
  | nil=>rfl
  | cons x l ih=>simp only [cY,alr,ih,bI]
 exact this _
def GdF (D:NF) (q:List Nat) (j:Nat) (v:Nat):Prop:=(D.par v).Pairwise (· < ·)/\(∀p∈D.par v,p∈q.take j)/\(D.par v).length<=3/\∀r,r < D.rows v->Qn (D.card v) (fun x=>(D.W v r x:Int))=D.g
theorem Q1j (h:Qu3 p0) (hn:q.Nodup) (hl:∀x∈q,x < dcnt p0) (hlen:q.length=dcnt p0) {g:Nat} (hg:zw (1+(zw (Int.tmod p0.Grain 60)))=(g:Int)) (hg60:g<=60)
  {C:Nat -> Nat} (hC:∀k,k < dcnt p0->2<=C k/\C k<=3) :
  ∃(P:Nat -> List Nat) (W:Nat -> Nat -> Nat -> Nat),(∀j (hj:j < q.length),GdF ⟨dcnt p0,g,C,P,W⟩ q j q[j]) /\
   Qb fuel (Xv p0 (q.map fun (x:Nat)=>(x:Int))) (0,Qd (dcnt p0) fun v=>Sum.inl (C v:Int))=some (Qd (dcnt p0) fun v=>Sum.inr ((NF.mk (dcnt p0) g C P W).node v)):=by
 have hcn:=Qg7 (p0:=p0)
 let N:Nat -> (Nat -> List Nat)->(Nat -> Nat -> Nat -> Nat)->Nat -> Int ⊕ Ad:=fun i P W v=>if v∈q.take i then Sum.inr ((NF.mk (dcnt p0) g C P W).node v) else Sum.inl (C v:Int)
 have hNco:∀i P W k,(Ah (N i P W k)).Card=(C k:Int):=fun i P W k=>by
  show (Ah (if k∈q.take i then Sum.inr ((NF.mk (dcnt p0) g C P W).node k) else Sum.inl (C k:Int))).Card=_
  split <;> rfl
 have hw:=Yv (body:=Xv p0 (q.map fun (x:Nat)=>(x:Int)))
  (fun s=>∃(i:Nat) (P:Nat -> List Nat) (W:Nat -> Nat -> Nat -> Nat),i<=dcnt p0/\(∀j (hj:j < q.length),j < i->GdF ⟨dcnt p0,g,C,P,W⟩ q j q[j])/\s=((i:Int),Qd (dcnt p0) (N i P W)))
  (fun s=>dcnt p0 - s.1.toNat)
  (fun o=>∃(P:Nat -> List Nat) (W:Nat -> Nat -> Nat -> Nat),(∀j (hj:j < q.length),GdF ⟨dcnt p0,g,C,P,W⟩ q j q[j])/\o=Qd (dcnt p0) fun v=>Sum.inr ((NF.mk (dcnt p0) g C P W).node v))
  (fun s hs=>?_) ((0:Int),Qd (dcnt p0) fun v=>Sum.inl (C v:Int)) ⟨0,fun _=>[],fun _ _ _=>0,by omega,fun j _ hj=>by omega,by congr 1⟩ (by simp; omega)
 ·obtain ⟨o,h1,P,W,h2,rfl⟩:=hw
  exact ⟨P,W,h2,h1⟩
 ·obtain ⟨i,P,W,hi,hG,rfl⟩:=hs
  by_cases hic:i < dcnt p0
  ·left
   have hiq:i < q.length:=by omega
   have hv:=hl _ (bH hiq)
   have hnot:=Qlk hn hiq
   have ek:zw ((i:Int)+1)=((i+1:Nat):Int):=by rw [w64 (by omega)]; omega
   have hk:lkL (Qd (dcnt p0) (N i P W)) ((q[i]:Nat):Int)=some (C q[i]:Int):=by
    unfold lkL
    rw [Q3 hv]
    show Option.bind (some (if q[i]∈q.take i then _ else _)) _=_
    rw [aI hnot]; rfl
   have leaf:∀pc:Qu,(∀x∈pc.W,0<=x/\x<=255)->pc.W.length<=9223372036854775807 ->
     ∃s',((Qb fuel (Z9 p0 ((i:Int),Qd (dcnt p0) (N i P W)) (q.map fun (x:Nat)=>(x:Int)) pc) (0,([]:List Int))).bind fun x72 =>
      (Qb fuel (Xy p0 ((i:Int),Qd (dcnt p0) (N i P W)) ((q[i]:Nat):Int) (C q[i]:Int) x72 pc) (0,([]:List (List Int)))).bind fun x83 =>
      some (Qi.next (ρ:=List (Int ⊕ Ad)) (zw ((i:Int)+1),(List.set (Qd (dcnt p0) (N i P W)) (Int.toNat ((q[i]:Nat):Int)) (Sum.inr (Ad.mk (C q[i]:Int) x72 x83))))))=some (Qi.next s') /\
      (∃(i:Nat) (P:Nat -> List Nat) (W:Nat -> Nat -> Nat -> Nat),i<=dcnt p0/\(∀j (hj:j < q.length),j < i->GdF ⟨dcnt p0,g,C,P,W⟩ q j q[j])/\s'=((i:Int),Qd (dcnt p0) (N i P W)))/\dcnt p0 - s'.1.toNat < dcnt p0 - (i:Int).toNat := fun pc hpW hpl=>by
    obtain ⟨Pv,p1,p2,p3,hb2⟩:=Q08 (p0:=p0) hn hlen (L:=Qd (dcnt p0) (N i P W)) (pc:=pc) hiq
    have hPv:∀p∈Pv,p < dcnt p0:=fun p hp=>hl p (bF (p2 p hp))
    obtain ⟨Wv,w1,hb3⟩:=Q1g (p0:=p0) (i:=i) (c:=0) (pc:=pc) hg hg60 hC (fun k _=>hNco i P W k) hv hPv p3 hpW hpl
    rw [hb2]
    simp only [aC]
    rw [hb3]
    simp only [aC]
    rw [ek,aP,Xz]
    refine ⟨_,rfl,⟨i+1,Zs P q[i] Pv,Zs W q[i] Wv,hic,fun j hj hji=>?_,?_⟩,by simp; omega⟩
    ·by_cases e:j=i
     ·subst e
      unfold GdF NF.rows
      simp only [Zz]
      exact ⟨p1,p2,p3,w1⟩
     ·have hne:q[j]≠q[i]:=fun e2=>e (by
       rcases aZ j i with h' | h'
       ·exact absurd e2 (List.pairwise_iff_getElem.1 hn j i hj hiq h')
       ·omega)
      have:=hG j hj (by omega)
      unfold GdF NF.rows at this ⊢
      simp only [Yk hne]
      exact this
    ·congr 1
     refine Qp fun k hk=>?_
     by_cases e:k=q[i]
     ·rw [aH e]
      show _=if k∈q.take (i+1) then _ else _
      rw [aH ((Qb4 hiq).2 (.inr e)),e]
      unfold NF.node NF.rows
      simp only [Zz]
     ·rw [aI e]
      show (if k∈q.take i then _ else _)=if k∈q.take (i+1) then _ else _
      by_cases hm:k∈q.take i
      ·rw [aH hm,aH ((Qb4 hiq).2 (.inl hm))]
       unfold NF.node NF.rows
       simp only [Yk e]
      ·rw [aI hm,aI (fun h'=>((Qb4 hiq).1 h').elim hm e)]
   unfold Xv
   simp only [Qem]
   rw [aH (by simpa using hic)]
   by_cases hin:i < p0.Nodes.length
   ·rw [aH (by simpa using hin),Yj hin]
    simp only [aC]
    rw [Ql0 hiq]
    simp only [aC]
    rw [hk]
    simp only [aC]
    exact leaf _ (h.W _ (bH hin)) (h.Wl _ (bH hin))
   ·rw [aI (by simpa using hin),Ql0 hiq]
    simp only [aC]
    rw [hk]
    simp only [aC]
    rw [Q2w]
    exact leaf ⟨0,0,[]⟩ (fun x hx=>by simp at hx) (by simp)
  ·right
   have:i=dcnt p0:=by omega
   subst this
   unfold Xv
   simp only [Qem]
   rw [aI (by simp)]
   refine ⟨_,rfl,P,W,fun j hj=>hG j hj (by omega),?_⟩
   refine Qp fun k hk=>?_
   show (if k∈q.take (dcnt p0) then _ else _)=_
   rw [aH (by rw [List.take_of_length_le (by omega)]; exact Qlm hn hl hlen k hk)]
theorem Qxb (h:Qu3 p0):∃D:NF,VX D/\D.n<=5/\(∀v,v < D.n->2<=D.card v/\D.card v<=3)/\V2 p0=some D.net:=by
 have hcn:=Qg7 (p0:=p0)
 have hgr:=h.grain
 obtain ⟨q,hn,hl,hlen,hq⟩:=Qt7 (n:=dcnt p0) hcn.2 h.order
 obtain ⟨C,hC,h0⟩:=Q11 h hn hl hlen
 have hg:zw (1+(zw (Int.tmod p0.Grain 60)))=((1+p0.Grain.toNat % 60:Nat):Int):=by
  have w1:zw (p0.Grain % 60)=p0.Grain % 60:=w64 (by omega)
  rw [Vu hgr.1,w1,w64 (by omega)]; omega
 have hg60:1+p0.Grain.toNat % 60<=60:=by omega
 obtain ⟨P,W,hG,h7⟩:=Q1j h hn hl hlen hg hg60 hC
 refine ⟨⟨dcnt p0,1+p0.Grain.toNat % 60,C,P,W⟩,?_,hcn.2,hC,?_⟩
 ·have hall:∀v,v < dcnt p0->∃j,∃hj:j < q.length,q[j]=v:=fun v hv=>bA.1 (Qlm hn hl hlen v hv)
  have hsum:∀v r,v < dcnt p0->r < (NF.mk (dcnt p0) (1+p0.Grain.toNat % 60) C P W).rows v->Qn (C v) (fun x=>(W v r x:Int))=((1+p0.Grain.toNat % 60:Nat):Int):=fun v r hv hr=>by
   obtain ⟨j,hj,rfl⟩:=hall v hv
   exact (hG j hj).2.2.2 r hr
  refine ⟨⟨by show 1<=dcnt p0; omega,by show dcnt p0<=8; omega,by show 1<=1+p0.Grain.toNat % 60; omega,hg60,fun v hv=>by have:=hC v hv; show 1<=C v/\C v<=4; omega,fun v hv p hp=>?_,fun v hv=>?_,fun v r x hv hr hx=>?_,?_⟩,fun v hv=>?_,fun v hv hp=>?_,⟨fun v=>q.idxOf v,fun v hv p hp=>?_⟩,hsum⟩
  ·obtain ⟨j,hj,rfl⟩:=hall v hv
   exact hl p (bF ((hG j hj).2.1 p hp))
  ·obtain ⟨j,hj,rfl⟩:=hall v hv
   have:=(hG j hj).2.2.1
   omega
  ·have h1:=hsum v r hv hr
   have h2:=Qcm (n:=C v) (k:=x+1) (f:=fun x=>(W v r x:Int)) (fun _ _=>cU _) hx
   have h3:0<=Qn x (fun x=>(W v r x:Int)):=Yd fun _ _=>cU _
   simp only [Qn] at h2
   show W v r x<=1+p0.Grain.toNat % 60
   omega
  ·have h1:Qh (dcnt p0) C<=3^dcnt p0:=Qfq fun v hv=>(hC v hv).2
   have h2:3^dcnt p0<=3^5:=aT (by omega) hcn.2
   show Qh (dcnt p0) C<=1024
   omega
  ·obtain ⟨j,hj,rfl⟩:=hall v hv
   exact (hG j hj).1
  ·obtain ⟨j,hj,rfl⟩:=hall v hv
   exact Qlk hn hj ((hG j hj).2.1 _ hp)
  obtain ⟨j,hj,rfl⟩:=hall v hv
  have h1:=Qqy ((hG j hj).2.1 p hp)
  have h2:=Qya hn hj
  show q.idxOf p < q.idxOf q[j]
  omega
 unfold V2
 simp only [Qem]
 rw [aH (by omega),aH (by omega),aP,hq]
 simp only [aC]
 rw [h0]
 simp only [aC]
 rw [h7]
 simp only [aC]
 rw [Qzl,hg]
 rfl
end
end Go.Ab
namespace Go.Ab
open Go
theorem Qxh {τ ρ σ:Type} {n:Nat} (hn:n < 1152921504606846976) (good:Nat -> Prop) (mkS:Int->τ->σ) {body:σ->Option (Qi σ ρ)} (T:Nat -> τ) (r rb:ρ)
  (step:∀k,k < n->(∀j,j < k->good j)->good k->body (mkS (k:Int) (T k))=some (.next (mkS (zw ((k:Int)+1)) (T (k+1)))))
  (bad:∀k,k < n->(∀j,j < k->good j)->¬ good k->body (mkS (k:Int) (T k))=some (.done rb))
  (done:(∀j,j < n->good j)->body (mkS (n:Int) (T n))=some (.done r)) :
  ((∀j,j < n->good j)/\Qb fuel body (mkS ((0:Nat):Int) (T 0))=some r)\/((¬ ∀j,j < n->good j)/\Qb fuel body (mkS ((0:Nat):Int) (T 0))=some rb):=by
 have h:=Qrf (n:=n) (k0:=0) (by omega) hn mkS (body:=body) (fun k t=>t=T k/\∀j,j < k->good j) (fun x=>((∀j,j < n->good j)/\x=r)\/((¬ ∀j,j < n->good j)/\x=rb))
  (fun k t _ hk hI=>by
   obtain ⟨rfl,hI⟩:=hI
   by_cases hg:good k
   ·left
    exact ⟨_,step k hk hI hg,rfl,fun j hj=>by
     by_cases e:j=k
     ·rw [e]; exact hg
     exact hI j (by omega)⟩
   exact .inr ⟨_,bad k hk hI hg,.inr ⟨fun h=>hg (h k hk),rfl⟩⟩)
  (fun t hI=>by
   obtain ⟨rfl,hI⟩:=hI
   exact ⟨_,done hI,.inl ⟨hI,rfl⟩⟩) (T 0) ⟨rfl,fun j hj=>by omega⟩
 obtain ⟨x,h1,h2⟩:=h
 rcases h2 with ⟨a,rfl⟩ | ⟨a,rfl⟩
 ·exact .inl ⟨a,h1⟩
 ·exact .inr ⟨a,h1⟩
end Go.Ab
namespace Go.Ab
open Go
def Qum (a b:Nat):Prop:=∀j,a.testBit j=true->b.testBit j=true
theorem Qum.trans {a b c:Nat} (h:Qum a b) (k:Qum b c):Qum a c:=fun j hj=>k j (h j hj)
end Go.Ab
namespace Go.Ab
open Go
theorem Quc {a b:Nat} {f:Nat -> Int}:Qn (a*b) f=Qn a (fun x=>Qn b (fun y=>f (x*b+y))):=by
 induction a with
 | zero=>simp [Qn]
 | succ a ih=>rw [dM,Qh1,ih]; simp only [Qn]
theorem Qrx {n:Nat} {f g:Nat -> Nat} (h:∀k,k < n->f k=g k):Qh n f=Qh n g:=by
 induction n with
 | zero=>rfl
 | succ n ih=>simp only [Qh]; rw [ih (fun k hk=>h k (by omega)),h n (by omega)]
theorem Qm3 {n:Nat} {f:Nat -> Nat} (h:∀k,k < n->1<=f k):1<=Qh n f:=by
 induction n with
 | zero=>simp [Qh]
 | succ n ih=>simp only [Qh]; exact bT (by simp) (Nat.mul_le_mul (ih fun k hk=>h k (by omega)) (h n (by omega)))
end Go.Ab
namespace Go.Ab
open Go
def Y2 (c w:Nat -> Nat) (l:List Nat):Nat := l.foldl (fun r p=>r*c p+w p) 0
theorem Qpd {c w:Nat -> Nat} {l:List Nat} {p:Nat}:Y2 c w (l++[p])=Y2 c w l*c p+w p:=by simp [Y2]
theorem Qo4 {c w:Nat -> Nat} {l:List Nat} (h:∀p∈l,w p < c p):Y2 c w l < lprod c l:=by
 have key:∀(l:List Nat) (r R:Nat),r < R->(∀p∈l,w p < c p)->l.foldl (fun r p=>r*c p+w p) r < l.foldl (fun r p=>r*c p) R:=by
  intro l
  induction l with
  | nil=>intro r R h _; exact h
  | cons p l ih =>
   intro r R hr hp
   simp only [List.foldl_cons]
   refine ih _ _ ?_ (fun q hq=>hp q (cI _ hq))
   have h1:=hp p (by simp)
   have h2:(r+1)*c p<=R*c p:=aR _ hr
   rw [dM] at h2
   omega
 exact key l 0 1 (by omega) h
def NF.idx (D:NF) (v:Nat) (w:Nat -> Nat):Nat := Y2 D.card w (D.par v)
def NF.wt (D:NF) (w:Nat -> Nat) (v:Nat):Nat := D.W v (D.idx v w) (w v)
def NF.ok (D:NF) (w:Nat -> Nat):Prop:=∀v,v < D.n->w v < D.card v
section
variable {D:NF} (V:VN D) {w:Nat -> Nat}
include V
theorem VN.idx_lt (hw:D.ok w) {v:Nat} (hv:v < D.n):D.idx v w < D.rows v:=Qo4 fun p hp=>hw p (V.par v hv p hp)
theorem VN.wt_le (hw:D.ok w) {v:Nat} (hv:v < D.n):D.wt w v<=60:=bT (V.W v _ _ hv (V.idx_lt hw hv) (hw v hv)) V.g60
end
structure SF where
 N:Nat
 R:Nat
 F:Nat
 T:Nat
def NF.hit (D:NF) (s:SF) (w:Nat -> Nat):Bool:=D.idx s.N w==s.R
def NF.rest (D:NF) (s:SF) (w:Nat -> Nat):Nat -> Nat := fun k=>Qh k fun v=>if v=s.N/\D.hit s w=true then 1 else D.wt w v
def NF.own (D:NF) (s:SF) (w:Nat -> Nat):Nat := if D.hit s w=true then D.wt w s.N else 1
section
variable {D:NF} (V:VN D) {w:Nat -> Nat} {s:SF}
include V
end
end Go.Ab
namespace Go.Ab
open Go
def TM (D:NF) (E:Nat -> Int) (f:(Nat -> Nat)->Int):Nat -> Nat -> (Nat -> Nat)->Int
 | 0,_,w=>f w
 | d+1,i,w=>Qn (D.card i) fun x=>if E i=-1\/E i=(x:Int) then TM D E f d (i+1) (Zs w i x) else 0
def PC (D:NF):Nat -> Nat -> Nat
 | 0,_=>1
 | d+1,i=>D.card i*PC D d (i+1)
theorem Qwn {D:NF} (V:VN D):∀(d i:Nat),i+d=D.n->1<=PC D d i
 | 0,_,_=>aY 1
 | d+1,i,h=>by
  have:=Qwn V d (i+1) (by omega)
  have h2:=(V.card i (by omega)).1
  exact bT (by simp) (Nat.mul_le_mul h2 this)
theorem Qn8 {D:NF}:∀(d i:Nat),Qh i D.card*PC D d i=Qh (i+d) D.card
 | 0,i=>by simp [PC]
 | d+1,i=>by
  have:=Qn8 (D:=D) d (i+1)
  simp only [PC]
  rw [<-Nat.mul_assoc]
  rw [show i+(d+1)=i+1+d by omega,<-this]; rfl
def Ext (D:NF) (f:(Nat -> Nat)->Int):Prop:=∀w w',(∀j,j < D.n->w j=w' j)->f w=f w'
theorem BD.mono {m p:Nat} {a:Int} (h:BD m a) (hp:m<=p):BD p a:=by
 unfold BD KK at *; omega
theorem BD.fit {m:Nat} {a:Int} (h:BD m a) (hm:m<=1024):-9223372036854775808<=a/\a<=9223372036854775807:=by unfold BD KK at h; omega
theorem Qmm {D:NF} {w:Nat -> Nat} {i x:Nat} (h:D.ok w) (hx:x < D.card i):D.ok (Zs w i x):=fun v hv=>by
 unfold Zs
 by_cases e:v=i
 ·rw [aH e,e]; exact hx
 rw [aI e]; exact h v hv
theorem Qq7 {D:NF} {E:Nat -> Int} {f:(Nat -> Nat)->Int} (hf:∀w,D.ok w->BD 1 (f w)):∀(d i:Nat) (w:Nat -> Nat),i+d=D.n->D.ok w->BD (PC D d i) (TM D E f d i w)
 | 0,i,w,_,hw=>hf w hw
 | d+1,i,w,h,hw=>by
  unfold TM PC
  refine BD.sum fun x hx=>?_
  split
  ·exact Qq7 hf d (i+1) _ (by omega) (Qmm hw hx)
  exact BD.zero
def at' (v x:Nat) (f:(Nat -> Nat)->Int):(Nat -> Nat)->Int:=fun w=>if w v=x then f w else 0
section
variable {D:NF} (V:VN D) {s:SF} {E:Nat -> Int} {v:Nat}
theorem Qz2 (V:VN D) {w w':Nat -> Nat} (h:∀j,j < D.n->w j=w' j) {u:Nat} (hu:u < D.n):D.idx u w=D.idx u w':=by
 unfold NF.idx Y2
 have:∀(l:List Nat) (r:Nat),(∀p∈l,p < D.n)->l.foldl (fun r p=>r*D.card p+w p) r=l.foldl (fun r p=>r*D.card p+w' p) r:=by
  intro l
  induction l with
  | nil=>intros; rfl
  | cons p l ih =>
   intro r hp
   simp only [List.foldl_cons]
   rw [h p (hp p (by simp)),ih _ (fun q hq=>hp q (cI _ hq))]
 exact this _ 0 (V.par u hu)
theorem Q0o (V:VN D) {w w':Nat -> Nat} (h:∀j,j < D.n->w j=w' j) {u:Nat} (hu:u < D.n):D.wt w u=D.wt w' u:=by
 unfold NF.wt; rw [Qz2 V h hu,h u hu]
end
end Go.Ab
namespace Go.Ab
open Go
def SW (D:NF) (E:Nat -> Int) (f:(Nat -> Nat)->Int):Int:=TM D E f D.n 0 (fun _=>0)
def Qbv (D:NF) (E:Nat -> Int):Prop:=∀j,j < D.n->-1<=E j/\E j < D.card j
section
variable {D:NF} {s:SF} {E:Nat -> Int} {v:Nat}
theorem ok0 (V:VN D):D.ok (fun _=>0):=fun u hu=>(V.card u hu).1
end
end Go.Ab
namespace Go.Ab
open Go
section
variable {D:NF} {E:Nat -> Int}
def PS (D:NF) (k:Nat):Nat := PC D (D.n - k) k
theorem Qsz {k:Nat} (h:k < D.n):PS D k=D.card k*PS D (k+1):=by
 unfold PS
 rw [show D.n - k=(D.n - (k+1))+1 by omega]; rfl
theorem Qv3 (V:VN D) {k:Nat} (h:k<=D.n):1<=PS D k:=Qwn V _ _ (by omega)
def dig (D:NF) (W k:Nat):Nat := W / PS D (k+1) % D.card k
theorem Qw8 (V:VN D) (W:Nat):D.ok (dig D W):=fun v hv=>cD _ (V.card v hv).1
def okE (E:Nat -> Int) (j x:Nat):Prop:=E j=-1\/E j=(x:Int)
instance instokE (E:Nat -> Int) (j x:Nat):Decidable (okE E j x):=by unfold okE; infer_instance
def Y0 (n:Nat) (E:Nat -> Int) (i:Nat) (w:Nat -> Nat):Prop:=∀j,i<=j->j < n->okE E j (w j)
def mix (D:NF) (i:Nat) (w:Nat -> Nat) (W:Nat):Nat -> Nat := fun j=>if j < i then w j else dig D W j
theorem Q1s (V:VN D) {i j:Nat} (hij:i<=j) (hj:j < D.n):∃M,PS D i=M*(D.card j*PS D (j+1)):=by
 obtain ⟨k,rfl⟩:=Nat.exists_eq_add_of_le hij
 induction k generalizing i with
 | zero=>exact ⟨1,by rw [dW,Nat.one_mul,Qsz (by omega)]⟩
 | succ k ih =>
  obtain ⟨M,hM⟩:=ih (i:=i+1) (by omega) (by omega)
  refine ⟨D.card i*M,?_⟩
  rw [Qsz (by omega),hM]
  rw [show i+1+k=i+(k+1) by omega,Nat.mul_assoc]
open Classical in
theorem Qne (V:VN D) {f:(Nat -> Nat)->Int} (hf:Ext D f):∀(d i:Nat) (w:Nat -> Nat),i+d=D.n ->
  Qn (PC D d i) (fun W=>if Y0 D.n E i (mix D i w W) then f (mix D i w W) else 0)=TM D E f d i w
 | 0,i,w,h=>by
  simp only [PC,Qn,TM,Int.zero_add]
  rw [aH (show Y0 D.n E i (mix D i w 0) from fun j h1 h2=>by omega)]
  exact hf _ _ fun j hj=>by unfold mix; rw [aH (by omega)]
 | d+1,i,w,h=>by
  have hi:i < D.n:=by omega
  simp only [PC,TM]
  rw [Quc]
  refine Yu fun x hx=>?_
  have hP:PC D d (i+1)=PS D (i+1):=by unfold PS; rw [show D.n - (i+1)=d by omega]
  have hpos:=Qv3 V (k:=i+1) (by omega)
  have hag:∀y,y < PC D d (i+1)->∀j,j < D.n->mix D i w (x*PC D d (i+1)+y) j=mix D (i+1) (Zs w i x) y j:=fun y hy j hj=>by
   unfold mix
   by_cases h1:j < i
   ·rw [aH h1,aH (by omega),Yk (by omega)]
   rw [aI h1]
   by_cases h2:j=i
   ·subst h2
    rw [aH (by omega),Zz]
    unfold dig
    rw [hP] at hy ⊢
    rw [cG,Nat.mul_add_div (by omega),Nat.div_eq_of_lt hy,dW,Nat.mod_eq_of_lt hx]
   rw [aI (by omega)]
   unfold dig
   rw [hP]
   obtain ⟨M,hM⟩:=Q1s V (i:=i+1) (j:=j) (by omega) hj
   have hpj:=Qv3 V (k:=j+1) (by omega)
   rw [hM,show x*(M*(D.card j*PS D (j+1)))+y=PS D (j+1)*(D.card j*(x*M))+y by
    rw [cG (D.card j),<-Nat.mul_assoc,<-Nat.mul_assoc,cG (PS D (j+1)),cG (D.card j),Nat.mul_right_comm (x*M)]]
   rw [Nat.mul_add_div (by omega),Nat.mul_add_mod]
  rw [Yu (g:=fun y=>if okE E i x then (if Y0 D.n E (i+1) (mix D (i+1) (Zs w i x) y) then f (mix D (i+1) (Zs w i x) y) else 0) else 0) (fun y hy=>?_)]
  ·by_cases hok:okE E i x
   ·rw [Yu (g:=fun y=>if Y0 D.n E (i+1) (mix D (i+1) (Zs w i x) y) then f (mix D (i+1) (Zs w i x) y) else 0) (fun y _=>aH hok),Qne V hf d (i+1) _ (by omega),aH (show E i=-1\/E i=(x:Int) from hok)]
   rw [Yu (g:=fun _=>0) (fun y _=>aI hok),Qfn,aI (show ¬ (E i=-1\/E i=(x:Int)) from hok)]
  have e:=hag y hy
  have hiff:Y0 D.n E i (mix D i w (x*PC D d (i+1)+y))↔okE E i x/\Y0 D.n E (i+1) (mix D (i+1) (Zs w i x) y):=by
   constructor
   ·intro hm
    refine ⟨?_,fun j h1 h2=>?_⟩
    ·have:=hm i (by omega) hi
     rw [e i hi] at this
     unfold mix at this
     rwa [aH (by omega),Zz] at this
    have:=hm j (by omega) h2
    rwa [e j h2] at this
   rintro ⟨h1,h2⟩ j h3 h4
   rw [e j h4]
   by_cases h5:j=i
   ·subst h5; unfold mix; rwa [aH (by omega),Zz]
   exact h2 j (by omega) h4
  by_cases hok:okE E i x
  ·rw [aH hok]
   by_cases hm:Y0 D.n E (i+1) (mix D (i+1) (Zs w i x) y)
   ·rw [aH (hiff.2 ⟨hok,hm⟩),aH hm,hf _ _ e]
   rw [aI (fun c=>hm (hiff.1 c).2),aI hm]
  rw [aI (fun c=>hok (hiff.1 c).1),aI hok]
end
end Go.Ab
namespace Go.Ab
open Go
theorem one5 {cs:List AV} (h:WT (.int .u8) cs):∃a:Int,cs=[(AV.int .u8) a]/\(Lit.int .u8 a).wf=true:=by
 obtain ⟨n,rfl,w⟩:=h
 exact ⟨n,rfl,w⟩
theorem el5 {x:AV} (h:WT (.int .u8) x.flat /\ (if false then x=.agg x.flat else x.cell=true)):∃a:Int,x=(AV.int .u8) a/\(Lit.int .u8 a).wf=true:=by
 obtain ⟨a,h1,h2⟩:=one5 h.1
 rw [Qw5 h.2] at h1
 exact ⟨a,(List.cons.inj h1).1,h2⟩
theorem Qy5 {cs:List AV} (h:WT (.slice true false 1 (.int .u8)) cs):∃a:(List Int),cs=[(eL true (AV.int .u8)) a]/\(a.length<=maxLen/\∀y0∈a,(Lit.int .u8 y0).wf=true):=by
 obtain ⟨xs,rfl,hl,hx⟩:=h
 obtain ⟨l,rfl,hr⟩:=Qru (enc:=(AV.int .u8)) (R:=fun a=>(Lit.int .u8 a).wf=true) (fun x hm=>el5 (hx x hm))
 exact ⟨l,rfl,by simpa using hl,hr⟩
def Xl (x:Qu):Prop:=((Lit.int .u8 x.Card).wf=true)/\((Lit.int .u8 x.Parents).wf=true)/\((x.W.length<=maxLen/\∀y0∈x.W,(Lit.int .u8 y0).wf=true))
theorem Qge {cs:List AV} (h:WT (.cat (.int .u8) (.cat (.int .u8) (.cat (.slice true false 1 (.int .u8)) .unit))) cs):∃x:Qu,AV.agg cs=Ak x/\Xl x:=by
 obtain ⟨_,_,rfl,a0,r0⟩:=h
 obtain ⟨v0,e0,w0⟩:=one5 a0
 cases e0
 obtain ⟨_,_,rfl,a1,r1⟩:=r0
 obtain ⟨v1,e1,w1⟩:=one5 a1
 cases e1
 obtain ⟨_,_,rfl,a2,r2⟩:=r1
 obtain ⟨v2,e2,w2⟩:=Qy5 a2
 cases e2
 cases r2
 exact ⟨⟨v0,v1,v2⟩,rfl,⟨w0,w1,w2⟩⟩
theorem Q2m {x:AV} (h:WT (.cat (.int .u8) (.cat (.int .u8) (.cat (.slice true false 1 (.int .u8)) .unit))) x.flat /\ (if true then x=.agg x.flat else x.cell=true)):∃a:Qu,x=Ak a/\Xl a:=by
 obtain ⟨a,h1,h2⟩:=Qge h.1
 have h3:x=.agg x.flat := h.2
 exact ⟨a,h3.trans h1,h2⟩
theorem Q2h {cs:List AV} (h:WT (.slice false true 3 (.cat (.int .u8) (.cat (.int .u8) (.cat (.slice true false 1 (.int .u8)) .unit)))) cs):∃a:(List Qu),cs=[(eL false Ak) a]/\(a.length<=maxLen/\∀y0∈a,Xl y0):=by
 obtain ⟨xs,rfl,hl,hx⟩:=h
 obtain ⟨l,rfl,hr⟩:=Qru (enc:=Ak) (R:=fun a=>Xl a) (fun x hm=>Q2m (hx x hm))
 exact ⟨l,rfl,by simpa using hl,hr⟩
def Vx (x:Qe):Prop:=((Lit.int .u8 x.Grain).wf=true)/\((x.Nodes.length<=maxLen/\∀y0∈x.Nodes,Xl y0))/\((x.Order.length<=maxLen/\∀y0∈x.Order,(Lit.int .u8 y0).wf=true))
theorem rdTharuspexref05_Draft {cs:List AV} (h:WT (.cat (.int .u8) (.cat (.slice false true 3 (.cat (.int .u8) (.cat (.int .u8) (.cat (.slice true false 1 (.int .u8)) .unit)))) (.cat (.slice true false 1 (.int .u8)) .unit))) cs):∃x:Qe,AV.agg cs=eTharuspexref05_Draft x/\Vx x:=by
 obtain ⟨_,_,rfl,a0,r0⟩:=h
 obtain ⟨v0,e0,w0⟩:=one5 a0
 cases e0
 obtain ⟨_,_,rfl,a1,r1⟩:=r0
 obtain ⟨v1,e1,w1⟩:=Q2h a1
 cases e1
 obtain ⟨_,_,rfl,a2,r2⟩:=r1
 obtain ⟨v2,e2,w2⟩:=Qy5 a2
 cases e2
 cases r2
 exact ⟨⟨v0,v1,v2⟩,rfl,⟨w0,w1,w2⟩⟩
theorem Q2p {cs:List AV} (h:WT (.cat (.int .u8) (.cat (.int .u8) (.cat (.int .u8) (.cat (.int .u8) (.cat (.int .u8) (.cat (.int .u8) (.cat (.int .u8) (.cat (.int .u8) .unit)))))))) cs):∃x:(Int × Int × Int × Int × Int × Int × Int × Int),AV.agg cs=(fun x:(Int × Int × Int × Int × Int × Int × Int × Int)=>AV.agg [.int .u8 x.1,.int .u8 x.2.1,.int .u8 x.2.2.1,.int .u8 x.2.2.2.1,.int .u8 x.2.2.2.2.1,.int .u8 x.2.2.2.2.2.1,.int .u8 x.2.2.2.2.2.2.1,.int .u8 x.2.2.2.2.2.2.2]) x/\((Lit.int .u8 x.1).wf=true/\(Lit.int .u8 x.2.1).wf=true/\(Lit.int .u8 x.2.2.1).wf=true/\(Lit.int .u8 x.2.2.2.1).wf=true/\(Lit.int .u8 x.2.2.2.2.1).wf=true/\(Lit.int .u8 x.2.2.2.2.2.1).wf=true/\(Lit.int .u8 x.2.2.2.2.2.2.1).wf=true/\(Lit.int .u8 x.2.2.2.2.2.2.2).wf=true):=by
 obtain ⟨_,_,rfl,a0,r0⟩:=h
 obtain ⟨v0,e0,w0⟩:=one5 a0
 cases e0
 obtain ⟨_,_,rfl,a1,r1⟩:=r0
 obtain ⟨v1,e1,w1⟩:=one5 a1
 cases e1
 obtain ⟨_,_,rfl,a2,r2⟩:=r1
 obtain ⟨v2,e2,w2⟩:=one5 a2
 cases e2
 obtain ⟨_,_,rfl,a3,r3⟩:=r2
 obtain ⟨v3,e3,w3⟩:=one5 a3
 cases e3
 obtain ⟨_,_,rfl,a4,r4⟩:=r3
 obtain ⟨v4,e4,w4⟩:=one5 a4
 cases e4
 obtain ⟨_,_,rfl,a5,r5⟩:=r4
 obtain ⟨v5,e5,w5⟩:=one5 a5
 cases e5
 obtain ⟨_,_,rfl,a6,r6⟩:=r5
 obtain ⟨v6,e6,w6⟩:=one5 a6
 cases e6
 obtain ⟨_,_,rfl,a7,r7⟩:=r6
 obtain ⟨v7,e7,w7⟩:=one5 a7
 cases e7
 cases r7
 exact ⟨(v0,v1,v2,v3,v4,v5,v6,v7),rfl,⟨w0,w1,w2,w3,w4,w5,w6,w7⟩⟩
def Vt (x:Qv):Prop:=((Lit.int .u8 x.Which).wf=true)/\(((Lit.int .u8 x.V.1).wf=true/\(Lit.int .u8 x.V.2.1).wf=true/\(Lit.int .u8 x.V.2.2.1).wf=true/\(Lit.int .u8 x.V.2.2.2.1).wf=true/\(Lit.int .u8 x.V.2.2.2.2.1).wf=true/\(Lit.int .u8 x.V.2.2.2.2.2.1).wf=true/\(Lit.int .u8 x.V.2.2.2.2.2.2.1).wf=true/\(Lit.int .u8 x.V.2.2.2.2.2.2.2).wf=true))
theorem rdTharuspexref05_Known {cs:List AV} (h:WT (.cat (.int .u8) (.cat (.cat (.int .u8) (.cat (.int .u8) (.cat (.int .u8) (.cat (.int .u8) (.cat (.int .u8) (.cat (.int .u8) (.cat (.int .u8) (.cat (.int .u8) .unit)))))))) .unit)) cs):∃x:Qv,AV.agg cs=eTharuspexref05_Known x/\Vt x:=by
 obtain ⟨_,_,rfl,a0,r0⟩:=h
 obtain ⟨v0,e0,w0⟩:=one5 a0
 cases e0
 obtain ⟨_,_,rfl,a1,r1⟩:=r0
 obtain ⟨v1,e1,w1⟩:=Q2p a1
 cases e1
 cases r1
 exact ⟨⟨v0,v1⟩,rfl,⟨w0,w1⟩⟩
end Go.Ab
namespace Go.Ab
open Go
theorem Qz9 {p0:Qe} (h:Vx p0):Qu3 p0:=by
 obtain ⟨h1,⟨h2,h3⟩,h4,h5⟩:=h
 exact ⟨bounds_u8 h1,fun x hx=>bounds_u8 (h5 x hx),fun p hp=>bounds_u8 (h3 p hp).1,fun p hp x hx=>bounds_u8 ((h3 p hp).2.2.2 x hx),fun p hp=>(h3 p hp).2.2.1⟩
structure DX (D:NF):Prop extends VX D where
 n5:D.n<=5
 c23:∀v,v < D.n->2<=D.card v/\D.card v<=3
section
variable {D:NF}
theorem Qxo (X:DX D) {k:Qv} (hk:Vt k):∃E,Qbv D E/\Ja k D.net=some (Qd D.n E):=by
 have V:=X.vn
 have hn:=X.n5
 have hlen:D.net.Nodes.length=D.n:=Q2
 obtain ⟨_,k0,k1,k2,k3,k4,_⟩:=hk
 have hw:=Yv (body:=Y6 D.net k) (fun s=>∃(i:Nat) (E:Nat -> Int),i<=D.n/\(∀j,j < i->-1<=E j/\E j < D.card j)/\s=((i:Int),Qd i E))
  (fun s=>D.n - s.1.toNat) (fun r=>∃E,Qbv D E/\r=Qd D.n E) (fun s hs=>?_) ((0:Int),([]:List Int)) ⟨0,fun _=>0,by omega,fun j hj=>by omega,rfl⟩ (by simp; omega)
 ·obtain ⟨r,h1,E,h2,rfl⟩:=hw
  refine ⟨E,h2,?_⟩
  unfold Ja
  rw [h1]; rfl
 obtain ⟨i,E,hi,hE,rfl⟩:=hs
 by_cases hin:i < D.n
 ·left
  have hc:=V.card i hin
  have hnode:lkI D.net.Nodes (i:Int)=some (D.node i):=V.node hin
  have add:∀y:Int,-1<=y->y < D.card i->(∃s',some (Qi.next (((i+1:Nat):Int),Qd i E++[y]))=some (Qi.next (ρ:=List Int) s') /\
    (∃(i:Nat) (E:Nat -> Int),i<=D.n/\(∀j,j < i->-1<=E j/\E j < D.card j)/\s'=((i:Int),Qd i E))/\D.n - s'.1.toNat < D.n - (i:Int).toNat):=fun y h1 h2=>by
   refine ⟨_,rfl,⟨i+1,Zs E i y,hin,fun j hj=>?_,?_⟩,by simp; omega⟩
   ·by_cases e:j=i
    ·subst e; rw [Zz]; exact ⟨h1,h2⟩
    ·rw [Yk e]; exact hE j (by omega)
   ·rw [<-Qjm,Zz]
    congr 2
    exact Qp fun j hj=>by rw [Yk (by omega)]
  have one:∀y:Int,(Lit.int .u8 y).wf=true->-1<=Int.tmod (zw y) (D.node i).Card/\Int.tmod (zw y) (D.node i).Card < D.card i:=fun y hy=>by
   have hb:=bounds_u8 hy
   have hp:(0:Int) < (D.card i:Int):=by omega
   rw [show (D.node i).Card=(D.card i:Int) from rfl,w64 (by omega),Vu hb.1]
   have h1:=Int.emod_nonneg y (show (D.card i:Int)≠0 by omega)
   have h2:=Int.emod_lt_of_pos y hp
   omega
  have hcard:(D.node i).Card≠0:=by show (D.card i:Int)≠0; omega
  have hll:∀y:Int,(Qd i E++[y]).length*8<=140737488355328:=fun y=>by simp [Q2]; omega
  have ek:zw ((i:Int)+1)=((i+1:Nat):Int):=by rw [w64 (by omega)]; omega
  unfold Y6
  simp only
  rw [aH (by rw [hlen]; simpa using hin),aH Qd5]
  by_cases hb:((IntKind.u8.wrap (BitVec.ofInt (IntKind.bits .u8) (Int.fdiv k.Which (2^min (Int.toNat (zv (i:Int))) (IntKind.bits .u8))) &&& BitVec.ofInt (IntKind.bits .u8) 1).toNat)==1)=true
  ·rw [aH hb]
   have hcases:i=0\/i=1\/i=2\/i=3\/i=4:=by omega
   rcases hcases with rfl | rfl | rfl | rfl | rfl
   ·rw [aH (show ((0:Nat):Int)=0 from rfl),show lkI D.net.Nodes 0=some (D.node 0) from hnode]
    simp only [aC]
    rw [aH hcard,aH (hll _)]
    exact add _ (one _ k0).1 (one _ k0).2
   ·rw [aI (by decide),aH (show ((1:Nat):Int)=1 from rfl),show lkI D.net.Nodes 1=some (D.node 1) from hnode]
    simp only [aC]
    rw [aH hcard,aH (hll _)]
    exact add _ (one _ k1).1 (one _ k1).2
   ·rw [aI (by decide),aI (by decide),aH (show ((2:Nat):Int)=2 from rfl),show lkI D.net.Nodes 2=some (D.node 2) from hnode]
    simp only [aC]
    rw [aH hcard,aH (hll _)]
    exact add _ (one _ k2).1 (one _ k2).2
   ·rw [aI (by decide),aI (by decide),aI (by decide),aH (show ((3:Nat):Int)=3 from rfl),show lkI D.net.Nodes 3=some (D.node 3) from hnode]
    simp only [aC]
    rw [aH hcard,aH (hll _)]
    exact add _ (one _ k3).1 (one _ k3).2
   rw [aI (by decide),aI (by decide),aI (by decide),aI (by decide),aH (show ((4:Nat):Int)=4 from rfl),show lkI D.net.Nodes 4=some (D.node 4) from hnode]
   simp only [aC]
   rw [aH hcard,aH (hll _)]
   exact add _ (one _ k4).1 (one _ k4).2
  rw [aI hb,aH (hll _),ek]
  exact add (-1) (by omega) (by omega)
 right
 have:i=D.n:=by omega
 subst this
 unfold Y6
 rw [aI (by rw [hlen]; simp)]
 exact ⟨_,rfl,E,hE,rfl⟩
theorem Qy3 {E:Nat -> Int} {f:(Nat -> Nat)->Int} (V:VN D) {m:Nat} (hm:Qh D.n D.card<=m) (hf:∀w,D.ok w->BD 1 (f w)):BD m (SW D E f):=by
 have h1:PC D D.n 0=Qh D.n D.card:=by have:=Qn8 (D:=D) D.n 0; simpa [Qh] using this
 exact (Qq7 hf D.n 0 _ (by omega) (ok0 V)).mono (by rw [h1]; exact hm)
end
end Go.Ab
namespace Go.Ab
open Go
theorem Q0n {i j:Nat} (h:i<=j):10000^i<=10000^j:=aT (by omega) h
end Go.Ab
namespace Go.Ab
open Go
theorem Qv1 {p q:Nat} (h:2*(p+1)<=q+1):Nat.log2 (p+1) < Nat.log2 (q+1):=by
 have h1:2^Nat.log2 (p+1)<=p+1:=(Nat.le_log2 (by omega)).1 (aY _)
 have h2:Nat.log2 (p+1)+1<=Nat.log2 (q+1):=(Nat.le_log2 (by omega)).2 (by rw [Nat.pow_succ]; omega)
 omega
theorem Qxp {x K:Nat} (h:(dgs x).length<=K):Nat.log2 (x+1)<=14*K+1:=by
 have h1:=Qqr x
 have h2:=Q0n (i:=(dgs x).length) (j:=K) h
 have h3:(10000:Nat)^K<=(2^14)^K:=Nat.pow_le_pow_left (by omega) K
 rw [<-Nat.pow_mul] at h3
 have h4:x+1 < 2^(14*K+1):=by rw [Nat.pow_succ]; omega
 have:=(Nat.log2_lt (by omega)).2 h4
 omega
def gm (x y:Nat):Nat := if y<=x then Nat.log2 (x*y+1) else Nat.log2 (x*y+1)+1
theorem Q0i {x y:Nat} (hy:0 < y):gm y (x % y) < gm x y:=by
 have hr:=cD x hy
 unfold gm
 rw [aH (by omega)]
 by_cases h:y<=x
 ·rw [aH h]
  refine Qv1 ?_
  have h1:y+x % y<=x:=by
   have:=dG x y
   have h2:1<=x / y:=(Nat.one_le_div_iff hy).2 h
   have h3:y*1<=y*(x / y):=Nat.mul_le_mul_left _ h2
   omega
  have h4:(2*(x % y)+1)*y<=x*y:=aR _ (by omega)
  rw [dO,Nat.mul_assoc,cG (x % y) y] at h4
  omega
 rw [aI h,Nat.mod_eq_of_lt (by omega),cG]
 omega
theorem Qyq (x y:Nat):Nat.gcd x y=Nat.gcd y (x % y):=by
 rw [Nat.gcd_comm,Nat.gcd_rec,Nat.gcd_comm]
theorem Q1p {x y:Nat} (hx:(dgs x).length<=8000) (hy:(dgs y).length<=8000):gm x y < 1152921504606846976:=by
 have h1:=Qqr x
 have h2:=Qqr y
 have h3:(dgs (x*y)).length<=16000:=by
  have:(dgs (x*y)).length<=(dgs x).length+(dgs y).length:=Qdg (by rw [Nat.pow_add]; exact Nat.mul_lt_mul'' h1 h2)
  omega
 have:=Qxp h3
 unfold gm
 split <;> omega
def MX:Nat := 4611686018427387903
def mkQ (neg:Bool) (n d:Nat):Ae × Bool :=
 if n / Nat.gcd n d<=MX then (if d / Nat.gcd n d<=MX then (⟨if neg then -((n / Nat.gcd n d:Nat):Int) else ((n / Nat.gcd n d:Nat):Int),((d / Nat.gcd n d:Nat):Int)⟩,true) else (⟨0,0⟩,false)) else (⟨0,0⟩,false)
end Go.Ab
namespace Go.Ab
open Go
theorem Qg3 {n:Int} (h:0<=n/\n < 18446744073709551616):zv n=n:=by
 obtain ⟨m,rfl⟩:=Int.eq_ofNat_of_zero_le h.1
 exact Xh (by omega)
theorem Qs5 {n:Int} (h:n < 0/\-18446744073709551616<=n):zv n=n+18446744073709551616:=by
 simp [IntKind.wrap,IntKind.bits,IntKind.signed]; omega
theorem Qot (a b:Nat) (ha:a < 18446744073709551616) (hb:b < 18446744073709551616):Jn (a:Int) (b:Int)=some ((Nat.gcd a b:Nat):Int):=by
 have l1:(dgs a).length<=5:=Qdg (by omega)
 have l2:(dgs b).length<=5:=Qdg (by omega)
 have lim:gm a b < 1152921504606846976:=Q1p (by omega) (by omega)
 unfold Jn
 rw [Qoj (fun s=>∃x y:Nat,s.1=(x:Int)/\s.2=(y:Int)/\Nat.gcd x y=Nat.gcd a b) (fun s=>gm s.1.toNat s.2.toNat) ((Nat.gcd a b:Nat):Int) ?_ _ ⟨a,b,rfl,rfl,rfl⟩ (by simpa using lim)]
 ·rfl
 rintro ⟨x0,y0⟩ ⟨x,y,h1,h2,h3⟩
 simp only at h1 h2
 subst h1; subst h2
 unfold Qfc
 simp only
 by_cases hy:y=0
 ·right
  subst hy
  rw [aI (by simp)]
  rw [Nat.gcd_zero_right] at h3
  rw [h3]
 left
 rw [aH (by simp; omega),aH (by omega),Vu (by omega)]
 refine ⟨_,rfl,⟨y,x % y,rfl,by simp,?_⟩,?_⟩
 ·rw [<-h3,Qyq x y]
 simp only [aP]
 rw [show ((x:Int) % (y:Int)).toNat = x % y by rw [<-Int.natCast_emod,aP]]
 exact Q0i (by omega)
theorem Qez {p:Int} (h:-9223372036854775808<=p/\p<=9223372036854775807):Xu p=some (p.natAbs:Int):=by
 unfold Xu
 by_cases h0:p < 0
 ·rw [aH (by simpa using h0)]
  have e:zv p=p+18446744073709551616:=Qs5 (by omega)
  rw [e,Qs5 (by omega)]
  congr 1; omega
 rw [aI (by simpa using h0),Qg3 (by omega)]
 congr 1; omega
def Rt (q:Ae):Prop:=1<=q.D/\q.D<=4611686018427387903/\-4611686018427387903<=q.N/\q.N<=4611686018427387903/\Nat.gcd q.N.natAbs q.D.natAbs=1
instance instRt (q:Ae):Decidable (Rt q):=by unfold Rt; infer_instance
def I64 (q:Ae):Prop:=(-9223372036854775808<=q.N/\q.N<=9223372036854775807)/\(-9223372036854775808<=q.D/\q.D<=9223372036854775807)
theorem Rt.i64 {q:Ae} (h:Rt q):I64 q:=by obtain ⟨h1,h2,h3,h4,_⟩:=h; unfold I64; omega
theorem Qqk (q:Ae):Ka q=some (if Rt q then 0 else 5):=by
 unfold Ka
 by_cases h1:q.D < 1
 ·rw [aH (by simpa using h1),aI (fun h=>by have:=h.1; omega)]
 rw [aI (by simpa using h1)]
 by_cases h2:q.D > 4611686018427387903
 ·rw [aH (by simpa using h2),aI (fun h=>by have:=h.2.1; omega)]
 rw [aI (by simpa using h2)]
 by_cases h3:q.N < -4611686018427387903
 ·rw [aH (by simpa using h3),aI (fun h=>by have:=h.2.2.1; omega)]
 rw [aI (by simpa using h3)]
 by_cases h4:q.N > 4611686018427387903
 ·rw [aH (by simpa using h4),aI (fun h=>by have:=h.2.2.2.1; omega)]
 rw [aI (by simpa using h4),Qez (by omega)]
 simp only [aC]
 have eD:zv q.D=((q.D.natAbs:Nat):Int):=by rw [Qg3 (by omega)]; omega
 rw [eD,Qot _ _ (by omega) (by omega)]
 simp only [aC]
 by_cases h5:Nat.gcd q.N.natAbs q.D.natAbs=1
 ·rw [aI (by simp [h5]),aH ⟨by omega,by omega,by omega,by omega,h5⟩]
 rw [aH (by simpa using (fun e:((Nat.gcd q.N.natAbs q.D.natAbs:Nat):Int)=1=>h5 (by omega))),aI (fun h=>h5 h.2.2.2.2)]
def qI (n d:Int):Ae:=(mkQ (!((decide (n < 0))==(decide (d < 0)))) n.natAbs d.natAbs).1
theorem Qvi {n d:Int} (hd:d≠0) (hn:n.natAbs<=MX) (hd':d.natAbs<=MX):qI n d=⟨if (!((decide (n < 0))==(decide (d < 0))))=true then -((n.natAbs / Nat.gcd n.natAbs d.natAbs:Nat):Int) else ((n.natAbs / Nat.gcd n.natAbs d.natAbs:Nat):Int),((d.natAbs / Nat.gcd n.natAbs d.natAbs:Nat):Int)⟩:=by
 unfold qI mkQ
 have h1:=Nat.div_le_self n.natAbs (Nat.gcd n.natAbs d.natAbs)
 have h2:=Nat.div_le_self d.natAbs (Nat.gcd n.natAbs d.natAbs)
 rw [aH (by omega),aH (by omega)]
theorem Qtl {n d:Int} (hn:n.natAbs<=MX) (hd:d.natAbs<=MX) (h0:d≠0):Jq n d=some (qI n d,0):=by
 have hMX:MX=4611686018427387903:=rfl
 unfold Jq
 rw [aI (by simpa using h0)]
 unfold Qas
 rw [Qez (by omega),Qez (by omega)]
 simp only [aC]
 rw [Qot _ _ (by omega) (by omega)]
 simp only [aC]
 have hg:0 < Nat.gcd n.natAbs d.natAbs:=Nat.gcd_pos_of_pos_right _ (by omega)
 rw [aH (by omega),aH (by omega)]
 have h1:=Nat.div_le_self n.natAbs (Nat.gcd n.natAbs d.natAbs)
 have h2:=Nat.div_le_self d.natAbs (Nat.gcd n.natAbs d.natAbs)
 have e1:Int.tdiv (n.natAbs:Int) ((Nat.gcd n.natAbs d.natAbs:Nat):Int)=((n.natAbs / Nat.gcd n.natAbs d.natAbs:Nat):Int):=by rw [Qh2 (by omega)]; simp
 have e2:Int.tdiv (d.natAbs:Int) ((Nat.gcd n.natAbs d.natAbs:Nat):Int)=((d.natAbs / Nat.gcd n.natAbs d.natAbs:Nat):Int):=by rw [Qh2 (by omega)]; simp
 rw [e1,e2,Qvi h0 hn hd]
 generalize n.natAbs / Nat.gcd n.natAbs d.natAbs=x at *
 generalize d.natAbs / Nat.gcd n.natAbs d.natAbs=y at *
 rw [Qg3 (by omega),Qg3 (by omega)]
 unfold Qhj
 simp only
 rw [aI (by simp),aI (by simp; omega),aI (by simp),aI (by simp; omega)]
 generalize (!((decide (n < 0))==(decide (d < 0))))=b
 cases b
 ·rw [aI (by simp),aI (by simp),w64 (by omega),w64 (by omega)]; rfl
 rw [aH rfl,aH rfl,w64 (n:=(x:Int)) (by omega),w64 (n:=(y:Int)) (by omega),w64 (by omega)]
 simp
theorem Qtm {n d:Int} (hn:n.natAbs<=MX) (hd:d.natAbs<=MX) (h0:d≠0):Rt (qI n d)/\(qI n d).N*d=n*(qI n d).D:=by
 have hMX:MX=4611686018427387903:=rfl
 rw [Qvi h0 hn hd]
 have hg:0 < Nat.gcd n.natAbs d.natAbs:=Nat.gcd_pos_of_pos_right _ (by omega)
 have hc:Nat.gcd (n.natAbs / Nat.gcd n.natAbs d.natAbs) (d.natAbs / Nat.gcd n.natAbs d.natAbs)=1:=by rw [Nat.gcd_div (Nat.gcd_dvd_left _ _) (Nat.gcd_dvd_right _ _),Nat.div_self hg]
 have hx:n.natAbs=n.natAbs / Nat.gcd n.natAbs d.natAbs*Nat.gcd n.natAbs d.natAbs:=(Nat.div_mul_cancel (Nat.gcd_dvd_left _ _)).symm
 have hy:d.natAbs=d.natAbs / Nat.gcd n.natAbs d.natAbs*Nat.gcd n.natAbs d.natAbs:=(Nat.div_mul_cancel (Nat.gcd_dvd_right _ _)).symm
 have hxl:=Nat.div_le_self n.natAbs (Nat.gcd n.natAbs d.natAbs)
 have hyl:=Nat.div_le_self d.natAbs (Nat.gcd n.natAbs d.natAbs)
 have hyp:0 < d.natAbs / Nat.gcd n.natAbs d.natAbs:=Nat.div_pos (Nat.le_of_dvd (by omega) (Nat.gcd_dvd_right _ _)) hg
 generalize n.natAbs / Nat.gcd n.natAbs d.natAbs=x at *
 generalize d.natAbs / Nat.gcd n.natAbs d.natAbs=y at *
 generalize Nat.gcd n.natAbs d.natAbs=g at *
 have key:(x:Int)*(d.natAbs:Int)=(n.natAbs:Int)*(y:Int):=by
  rw [hx,hy]
  simp only [Int.natCast_mul]
  rw [Int.mul_assoc,Int.mul_comm (g:Int),Int.mul_comm (y:Int)]
 refine ⟨?_,?_⟩
 ·unfold Rt
  simp only
  refine ⟨by omega,by omega,?_,?_,?_⟩
  ·split <;> omega
  ·split <;> omega
  split
  ·rw [Int.natAbs_neg]; simpa using hc
  simpa using hc
 simp only
 by_cases h1:n < 0
 ·by_cases h2:d < 0
  ·rw [aI (by simp [h1,h2])]
   rw [show d=-(d.natAbs:Int) by omega,show n=-(n.natAbs:Int) by omega]
   rw [Int.mul_neg,Int.neg_mul,key]
  rw [aH (by simp [h1,h2])]
  rw [show d=(d.natAbs:Int) by omega,show n=-(n.natAbs:Int) by omega]
  rw [Int.neg_mul,Int.neg_mul,key]
 by_cases h2:d < 0
 ·rw [aH (by simp [h1,h2])]
  rw [show d=-(d.natAbs:Int) by omega,show n=(n.natAbs:Int) by omega]
  rw [Int.mul_neg,Int.neg_mul,Int.neg_neg,key]
 rw [aI (by simp [h1,h2])]
 rw [show d=(d.natAbs:Int) by omega,show n=(n.natAbs:Int) by omega]
 exact key
def Qdb (a b:Int):Int:=if a < b then -1 else if a=b then 0 else 1
theorem Qqj (x y:Nat) (hx:x < 18446744073709551616) (hy:y < 18446744073709551616):V0 (x:Int) (y:Int)=some (((x*y / 18446744073709551616:Nat):Int),((x*y % 18446744073709551616:Nat):Int)):=by
 have hb:zk=64:=rfl
 have hp:(2:Int)^min (Int.toNat 32) zk=4294967296:=rfl
 have hf:∀z:Nat,Int.fdiv (z:Int) 4294967296=((z / 4294967296:Nat):Int):=fun z=>by rw [Int.fdiv_eq_ediv_of_nonneg _ (by omega)]; simp
 have hm:∀z:Nat,z < 18446744073709551616->zv ((zb (z:Int) &&& zb 4294967295).toNat : Int)=((z % 4294967296:Nat):Int):=fun z hz=>by
  have e1:(zb (z:Int) &&& zb 4294967295).toNat = z % 4294967296:=by
   rw [BitVec.toNat_and,Qbp hz,show (zb 4294967295).toNat = 2^32 - 1 from Qbp (a:=4294967295) (by omega),Nat.and_two_pow_sub_one_eq_mod]
  rw [e1,Xh (by omega)]
 unfold V0
 simp only [hp]
 rw [hf x,hf y,hm x hx,hm y hy]
 obtain ⟨x1,ex1⟩:∃z,z=x / 4294967296:=⟨_,rfl⟩
 obtain ⟨x0,ex0⟩:∃z,z=x % 4294967296:=⟨_,rfl⟩
 obtain ⟨y1,ey1⟩:∃z,z=y / 4294967296:=⟨_,rfl⟩
 obtain ⟨y0,ey0⟩:∃z,z=y % 4294967296:=⟨_,rfl⟩
 rw [<-ex1,<-ex0,<-ey1,<-ey0]
 have hX:x=x1*4294967296+x0:=by omega
 have hY:y=y1*4294967296+y0:=by omega
 have hx1:x1<=4294967295:=by omega
 have hy1:y1<=4294967295:=by omega
 have ba:x1*y1<=4294967295*4294967295:=Nat.mul_le_mul hx1 hy1
 have bb:x1*y0<=4294967295*4294967295:=Nat.mul_le_mul hx1 (by omega)
 have bc:x0*y1<=4294967295*4294967295:=Nat.mul_le_mul (by omega) hy1
 have bd:x0*y0<=4294967295*4294967295:=Nat.mul_le_mul (by omega) (by omega)
 have hprod:(x1*4294967296+x0)*(y1*4294967296+y0)=x1*y1*18446744073709551616+(x1*y0+x0*y1)*4294967296+x0*y0:=by
  simp only [dO,Nat.mul_add]
  have e1:x1*4294967296*(y1*4294967296)=x1*y1*18446744073709551616:=by
   rw [Nat.mul_mul_mul_comm]
  have e2:x1*4294967296*y0=x1*y0*4294967296:=Nat.mul_right_comm _ _ _
  have e3:x0*(y1*4294967296)=x0*y1*4294967296:=(Nat.mul_assoc _ _ _).symm
  rw [e1,e2,e3]; omega
 rw [<-hX,<-hY] at hprod
 have e4:(x:Int)*(y:Int)=((x*y:Nat):Int):=by simp
 rw [e4,hprod]
 simp only [<-Int.natCast_mul]
 generalize x1*y1=a at *
 generalize x1*y0=b at *
 generalize x0*y1=c at *
 generalize x0*y0=d at *
 rw [Xh (n:=a) (by omega),Xh (n:=b) (by omega),Xh (n:=c) (by omega),Xh (n:=d) (by omega),hf d]
 have s1:(b:Int)+((d / 4294967296:Nat):Int)=((b+d / 4294967296:Nat):Int):=by simp
 rw [s1,Xh (n:=b+d / 4294967296) (by omega),hm _ (by omega),hf]
 have s2:(((b+d / 4294967296) % 4294967296:Nat):Int)+(c:Int)=(((b+d / 4294967296) % 4294967296+c:Nat):Int):=by simp
 have s3:(a:Int)+(((b+d / 4294967296) / 4294967296:Nat):Int)=((a+(b+d / 4294967296) / 4294967296:Nat):Int):=by simp
 rw [s2,s3,Xh (n:=(b+d / 4294967296) % 4294967296+c) (by omega),hf,Xh (n:=a+(b+d / 4294967296) / 4294967296) (by omega)]
 have s4:((a+(b+d / 4294967296) / 4294967296:Nat):Int)+((((b+d / 4294967296) % 4294967296+c) / 4294967296:Nat):Int)=((a+(b+d / 4294967296) / 4294967296+((b+d / 4294967296) % 4294967296+c) / 4294967296:Nat):Int):=by simp
 rw [s4,Xh (n:=a+(b+d / 4294967296) / 4294967296+((b+d / 4294967296) % 4294967296+c) / 4294967296) (by omega)]
 have s5:zv ((a*18446744073709551616+(b+c)*4294967296+d:Nat):Int)=(((a*18446744073709551616+(b+c)*4294967296+d) % 18446744073709551616:Nat):Int):=by
  simp [IntKind.wrap,IntKind.bits,IntKind.signed]
 rw [s5]
 congr 2
 omega
theorem Q0g {p q:Ae} (hp:Rt p) (hq:Rt q):Qbz p q=some (Qdb (p.N*q.D) (q.N*p.D)):=by
 obtain ⟨p1,p2,p3,p4,_⟩:=hp
 obtain ⟨q1,q2,q3,q4,_⟩:=hq
 unfold Qbz
 rw [Qez (by omega),Qez (by omega)]
 simp only [aC]
 unfold Qbf
 have eD:zv q.D=((q.D.natAbs:Nat):Int):=by rw [Qg3 (by omega)]; omega
 have eE:zv p.D=((p.D.natAbs:Nat):Int):=by rw [Qg3 (by omega)]; omega
 rw [eD,eE,Qqj _ _ (by omega) (by omega),Qqj _ _ (by omega) (by omega)]
 simp only [aC]
 have hx:p.N*q.D=if p.N < 0 then -((p.N.natAbs*q.D.natAbs:Nat):Int) else ((p.N.natAbs*q.D.natAbs:Nat):Int):=by
  split
  ·rw [Int.natCast_mul,<-Int.neg_mul]; congr 1 <;> omega
  rw [Int.natCast_mul]; congr 1 <;> omega
 have hy:q.N*p.D=if q.N < 0 then -((q.N.natAbs*p.D.natAbs:Nat):Int) else ((q.N.natAbs*p.D.natAbs:Nat):Int):=by
  split
  ·rw [Int.natCast_mul,<-Int.neg_mul]; congr 1 <;> omega
  rw [Int.natCast_mul]; congr 1 <;> omega
 have hxp:p.N < 0->0 < p.N.natAbs*q.D.natAbs:=fun h=>Nat.mul_pos (by omega) (by omega)
 have hyp:q.N < 0->0 < q.N.natAbs*p.D.natAbs:=fun h=>Nat.mul_pos (by omega) (by omega)
 rw [hx,hy]
 generalize p.N.natAbs*q.D.natAbs=x at *
 generalize q.N.natAbs*p.D.natAbs=y at *
 unfold Qdb
 by_cases h1:p.N < 0
 ·by_cases h2:q.N < 0
  rotate_left
  ·rw [aH (by simp [h1,h2]),aH (by simpa using h1),aH h1,aI h2,aH (by have:=hxp h1; omega)]
  rw [aI (by simp [h1,h2]),aH h1,aH h2]
  by_cases he:x=y
  ·subst he; rw [aH (by simp),aI (by omega),aH rfl]
  rw [aI (by simp; omega)]
  unfold Qcr
  simp only
  by_cases hh:x / 18446744073709551616 < y / 18446744073709551616
  ·rw [aH (by simp; omega)]
   simp only [aC]
   rw [aI (by simp [h1]),aI (by omega),aI (by omega)]
  rw [aI (by simp; omega)]
  by_cases hh2:x / 18446744073709551616=y / 18446744073709551616
  ·rw [aH (by simp [hh2])]
   simp only [aC]
   by_cases hl:x < y
   ·rw [cO (by omega),aI (by simp [h1]),aI (by omega),aI (by omega)]
   rw [decide_eq_false (by omega),aH (by simp; omega),aH (by omega)]
  rw [aI (by simp; omega)]
  simp only [aC]
  rw [aH (by simp; omega),aH (by omega)]
 by_cases h2:q.N < 0
 ·rw [aH (by simp [h1,h2]),aI (by simpa using h1),aI h1,aH h2,aI (by have:=hyp h2; omega),aI (by have:=hyp h2; omega)]
 rw [aI (by simp [h1,h2]),aI h1,aI h2]
 by_cases he:x=y
 ·subst he; rw [aH (by simp),aI (by omega),aH rfl]
 rw [aI (by simp; omega)]
 unfold Qcr
 simp only
 by_cases hh:x / 18446744073709551616 < y / 18446744073709551616
 ·rw [aH (by simp; omega)]
  simp only [aC]
  rw [aH (by simp; omega),aH (by omega)]
 rw [aI (by simp; omega)]
 by_cases hh2:x / 18446744073709551616=y / 18446744073709551616
 ·rw [aH (by simp [hh2])]
  simp only [aC]
  by_cases hl:x < y
  ·rw [cO (by omega),aH (by simp; omega),aH (by omega)]
  rw [decide_eq_false (by omega),aI (by simp; omega),aI (by omega),aI (by omega)]
 rw [aI (by simp; omega)]
 simp only [aC]
 rw [aI (by simp; omega),aI (by omega),aI (by omega)]
end Go.Ab
namespace Go.Ab
open Go
section
variable {D:NF}
def evJ (D:NF) (e:List Int) (j:Nat):Prop:=-1<=(e[j]?).getD 0/\(e[j]?).getD 0 < D.card j
def evL (D:NF) (e:List Int):Prop:=e.length=D.n/\∀j,j < D.n->evJ D e j
theorem Qzf {e:List Int} {j:Nat} (hj:j < e.length):lkI e (j:Int)=some ((e[j]?).getD 0):=by rw [Yj hj,aG hj]; rfl
theorem Q0h (X:VX D) (e:List Int):(evL D e/\Xi D.net e=some 0)\/(¬ evL D e/\Xi D.net e=some 2):=by
 have V:=X.vn
 have hn:=V.n8
 have hlen:D.net.Nodes.length=D.n:=Q2
 obtain ⟨order,hr⟩:=Qtd X
 unfold Xi
 rw [hr,aC,aI (by simp)]
 dsimp only
 rw [hlen]
 by_cases c:e.length=D.n
 ·rw [aI (by simp; omega)]
  have h:=Qxh (n:=D.n) (by omega) (evJ D e) (fun i (_:Unit)=>i) (body:=Zj e (⟨D.net,Q6 D.n D.card,Q6 D.n (setN D),order⟩,0)) (fun _=>()) (.inr ()) (.inl ())
   (fun j hj hI hg=>by
    obtain ⟨g1,g2⟩:=hg
    unfold Zj
    dsimp only
    rw [c,aH (dlt hj),Qzf (by omega),aC,aI (by simp; exact g1),Yz hj,aC,aI (by simp; exact g2)])
   (fun j hj hI hg=>by
    unfold Zj
    dsimp only
    rw [c,aH (dlt hj),Qzf (by omega),aC]
    by_cases c1:(e[j]?).getD 0 < -1
    ·rw [aH (by simpa using c1)]
    rw [aI (by simpa using c1),Yz hj,aC,aH (by
     rw [aN]
     exact Int.not_lt.1 fun hh=>hg ⟨by omega,hh⟩)])
   (fun hI=>by unfold Zj; dsimp only; rw [c,aI (nlt _)])
  rcases h with ⟨h,e1⟩ | ⟨h,e1⟩
  ·left; refine ⟨⟨c,h⟩,?_⟩
   have e1:Qb fuel (Zj e (⟨D.net,Q6 D.n D.card,Q6 D.n (setN D),order⟩,0)) 0=some (.inr ()):=e1
   rw [e1]; rfl
  right; refine ⟨fun hh=>h hh.2,?_⟩
  have e1:Qb fuel (Zj e (⟨D.net,Q6 D.n D.card,Q6 D.n (setN D),order⟩,0)) 0=some (.inl ()):=e1
  rw [e1]; rfl
 rw [aH (by simp; omega)]
 exact .inr ⟨fun hh=>c hh.1,rfl⟩
end
end Go.Ab
namespace Go.Ab
open Go
theorem Qtv:Qdi=some true:=by kernel_rfl
end Go.Ab
