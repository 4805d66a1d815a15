/- What functions compute. No conditions. -/
import Derived.Test.YtokcpkcoahlkjaaW12
import Derived.Test.YtokcpkcoahlkjaaEng6
import Derived.Test.YtokcpkcoahlkjaaW8
import Derived.KernelRfl
set_option linter.all false
namespace Go.Ab
open Go
def TM (D:NF) (E:Nat → Int) (f:(Nat → Nat)→Int):Nat → Nat → (Nat → Nat)→Int
 | 0,_,w=>f w
 | d+1,i,w=>sumI (D.card i) fun x=>if E i=-1∨E i=(x:Int) then TM D E f d (i+1) (upd w i x) else 0
def PC (D:NF):Nat → Nat → Nat
 | 0,_=>1
 | d+1,i=>D.card i*PC D d (i+1)
theorem pc_prod {D:NF}:∀(d i:Nat),prodTo i D.card*PC D d i=prodTo (i+d) D.card
 | 0,i=>by simp [PC]
 | d+1,i=>by
  have:=pc_prod (D:=D) d (i+1)
  simp only [PC]
  rw [←Nat.mul_assoc]
  rw [show i+(d+1)=i+1+d by omega,←this]; rfl
def Ext (D:NF) (f:(Nat → Nat)→Int):Prop:=∀w w',(∀j,j < D.n→w j=w' j)→f w=f w'
theorem tm_congr {D:NF} {E:Nat → Int} {f:(Nat → Nat)→Int} (hf:Ext D f):∀(d i:Nat) (w w':Nat → Nat),i+d=D.n→(∀j,j < i→w j=w' j)→TM D E f d i w=TM D E f d i w'
 | 0,i,w,w',h,hw=>hf w w' fun j hj=>hw j (by omega)
 | d+1,i,w,w',h,hw=>by
  unfold TM
  refine sumI_congr fun x _=>?_
  rw [tm_congr hf d (i+1) (upd w i x) (upd w' i x) (by omega) (fun j hj=>?_)]
  unfold upd
  by_cases e:j=i
  ·rw [if_pos e,if_pos e]
  ·rw [if_neg e,if_neg e]; exact hw j (by omega)
def KK:Int:=167961600000000
def BD (m:Nat) (z:Int):Prop:=-((m:Int)*KK)≤z∧z≤(m:Int)*KK
theorem BD.add {m p:Nat} {a b:Int} (h:BD m a) (k:BD p b):BD (m+p) (a+b):=by
 unfold BD at *
 rw [Int.natCast_add,Int.add_mul]; omega
theorem BD.zero {m:Nat}:BD m 0:=by unfold BD KK; omega
theorem BD.mono {m p:Nat} {a:Int} (h:BD m a) (hp:m≤p):BD p a:=by
 unfold BD KK at *; omega
theorem BD.fit {m:Nat} {a:Int} (h:BD m a) (hm:m≤1024):-9223372036854775808≤a∧a≤9223372036854775807:=by unfold BD KK at h; omega
theorem BD.sum {n p:Nat} {f:Nat → Int} (h:∀k,k < n→BD p (f k)):BD (n*p) (sumI n f):=by
 induction n with
 | zero=>exact BD.zero
 | succ n ih=>simp only [sumI]; rw [Nat.succ_mul]; exact (ih fun k hk=>h k (by omega)).add (h n (by omega))
theorem ok_upd {D:NF} {w:Nat → Nat} {i x:Nat} (h:D.ok w) (hx:x < D.card i):D.ok (upd w i x):=fun v hv=>by
 unfold upd
 by_cases e:v=i
 ·rw [if_pos e,e]; exact hx
 ·rw [if_neg e]; exact h v hv
theorem tm_bound {D:NF} {E:Nat → Int} {f:(Nat → Nat)→Int} (hf:∀w,D.ok w→BD 1 (f w)):∀(d i:Nat) (w:Nat → Nat),i+d=D.n→D.ok w→BD (PC D d i) (TM D E f d i w)
 | 0,i,w,_,hw=>hf w hw
 | d+1,i,w,h,hw=>by
  unfold TM PC
  refine BD.sum fun x hx=>?_
  split
  ·exact tm_bound hf d (i+1) _ (by omega) (ok_upd hw hx)
  ·exact BD.zero
def quad (A B:Nat → Int):Nat → Int × Int × Int × Int:=fun x=>(A x,B x,0,0)
def at' (v x:Nat) (f:(Nat → Nat)→Int):(Nat → Nat)→Int:=fun w=>if w v=x then f w else 0
section
variable {D:NF} (V:VN D) {s:SF} {E:Nat → Int} {v:Nat}
theorem idx_ext (V:VN D) {w w':Nat → Nat} (h:∀j,j < D.n→w j=w' j) {u:Nat} (hu:u < D.n):D.idx u w=D.idx u w':=by
 unfold NF.idx horner
 have:∀(l:List Nat) (r:Nat),(∀p∈l,p < D.n)→l.foldl (fun r p=>r*D.card p+w p) r=l.foldl (fun r p=>r*D.card p+w' p) r:=by
  intro l
  induction l with
  | nil=>intros; rfl
  | cons p l ih =>
   intro r hp
   simp only [List.foldl_cons]
   rw [h p (hp p (by simp)),ih _ (fun q hq=>hp q (List.mem_cons_of_mem _ hq))]
 exact this _ 0 (V.par u hu)
theorem wt_ext (V:VN D) {w w':Nat → Nat} (h:∀j,j < D.n→w j=w' j) {u:Nat} (hu:u < D.n):D.wt w u=D.wt w' u:=by
 unfold NF.wt; rw [idx_ext V h hu,h u hu]
theorem hit_ext (V:VN D) (hs:s.N < D.n) {w w':Nat → Nat} (h:∀j,j < D.n→w j=w' j):D.hit s w=D.hit s w':=by unfold NF.hit; rw [idx_ext V h hs]
theorem rest_ext (V:VN D) (hs:s.N < D.n) {w w':Nat → Nat} (h:∀j,j < D.n→w j=w' j):D.rest s w D.n=D.rest s w' D.n:=by
 unfold NF.rest
 exact prodTo_congr fun u hu=>by rw [hit_ext V hs h,wt_ext V h hu]
theorem fA_ext (V:VN D) (hs:s.N < D.n):Ext D (D.fA s):=fun w w' h=>by
 unfold NF.fA NF.own; rw [rest_ext V hs h,hit_ext V hs h,wt_ext V h hs]
theorem fB_ext (V:VN D) (hs:s.N < D.n):Ext D (D.fB s):=fun w w' h=>by
 unfold NF.fB NF.change; rw [rest_ext V hs h,hit_ext V hs h,h s.N hs]
theorem at_ext {f:(Nat → Nat)→Int} (hv:v < D.n) (hf:Ext D f) {x:Nat}:Ext D (at' v x f):=fun w w' h=>by
 unfold at'; rw [h v hv,hf w w' h]
theorem fA_bd (V:VN D) (hs:s.N < D.n):∀w,D.ok w→BD 1 (D.fA s w):=fun w hw=>by
 rw [V.fA_eq hs]
 have h1:prodTo D.n (D.wt w)≤60^D.n:=prodTo_le fun u hu=>V.wt_le hw hu
 have h2:(60:Nat)^D.n≤60^8:=Nat.pow_le_pow_right (by omega) V.n8
 have h3:(60:Nat)^8=167961600000000:=by decide
 unfold BD KK; omega
theorem fB_bd (V:VN D):∀w,D.ok w→BD 1 (D.fB s w):=fun w hw=>by
 have:=V.fB_bound (s:=s) hw
 unfold BD KK; omega
theorem at_bd {f:(Nat → Nat)→Int} (hf:∀w,D.ok w→BD 1 (f w)) {x:Nat}:∀w,D.ok w→BD 1 (at' v x f w):=fun w hw=>by
 unfold at'
 split
 ·exact hf w hw
 ·exact BD.zero
def SM (D:NF) (E:Nat → Int) (f:(Nat → Nat)→Int) (d i:Nat) (w:Nat → Nat) (x:Nat):Int:=sumI x fun y=>if E i=-1∨E i=(y:Int) then TM D E f d (i+1) (upd w i y) else 0
theorem sm_bd {f:(Nat → Nat)→Int} (hf:∀w,D.ok w→BD 1 (f w)) {d i x:Nat} {w:Nat → Nat} (hi:i+1+d=D.n) (hw:D.ok w) (hx:x≤D.card i):BD (x*PC D d (i+1)) (SM D E f d i w x):=by
 refine BD.sum fun y hy=>?_
 split
 ·exact tm_bound hf d (i+1) _ hi (ok_upd hw (by omega))
 ·exact BD.zero
def RS (D:NF) (s:SF) (E:Nat → Int) (v m d i:Nat) (w:Nat → Nat) (A B:Nat → Int) (C Dd:Int):Prop :=
 D.ok w∧(∀x,BD m (A x)∧BD m (B x))∧BD m C∧BD m Dd∧m+PC D d i≤1024∧i+d=D.n
theorem lines_rec (V:VN D) (hs:s.N < D.n) (hv:v < D.n) (hE:∀j,j < D.n→-1≤E j∧E j < D.card j):∀(d N:Nat),d < N→∀(i m:Nat) (w:Nat → Nat) (A B:Nat → Int) (C Dd:Int),RS D s E v m d i w A B C Dd →
  ∃w',D.ok w'∧(∀j,j < i→w' j=w j)∧recN (g_sensitive_lines_r1 D.net s.sh (v:Int) (rowG D.n E)) N ((i:Int),rowG (D.card v) (quad A B),C,Dd,rowI D.n w) =
   some (rowG (D.card v) (quad (fun x=>A x+TM D E (at' v x (D.fA s)) d i w) (fun x=>B x+TM D E (at' v x (D.fB s)) d i w)),C+TM D E (D.fA s) d i w,Dd+TM D E (D.fB s) d i w,rowI D.n w')
 | d,0,h,_,_,_,_,_,_,_,_=>by omega
 | 0,N+1,_,i,m,w,A,B,C,Dd,⟨hw,hAB,hC,hD,hm,hi⟩=>by
  have hm':m+1≤1024:=hm
  refine ⟨w,hw,fun _ _=>rfl,?_⟩
  show g_sensitive_lines_r1 _ _ _ _ _ _=_
  unfold g_sensitive_lines_r1
  simp only
  rw [if_pos (by rw [rowI_len]; simp; omega),V.weigh_eq hw hs]
  simp only [Option.bind_some]
  rw [rowI_get hv]
  simp only [Option.bind_some]
  rw [show lkI (rowG (D.card v) (quad A B)) (w v:Int)=some (quad A B (w v)) from rowG_get (hw v hv)]
  simp only [Option.bind_some,quad,Int.toNat_natCast]
  have f1:=((hAB (w v)).1.add (fA_bd V hs w hw)).fit hm'
  have f2:=((hAB (w v)).2.add (fB_bd V (s:=s) w hw)).fit hm'
  have f3:=(hC.add (fA_bd V hs w hw)).fit hm'
  have f4:=(hD.add (fB_bd V (s:=s) w hw)).fit hm'
  rw [w64 f1,w64 f2,w64 f3,w64 f4]
  simp only [TM]
  rw [rowG_set,rowG_set]
  congr 2
  refine rowG_congr fun x hx=>?_
  simp only [quad,at']
  by_cases e:x=w v
  ·subst e; simp
  ·rw [if_neg e,if_neg e,if_neg (Ne.symm e),if_neg (Ne.symm e)]; simp
 | d+1,N+1,hN,i,m,w,A,B,C,Dd,⟨hw,hAB,hC,hD,hm,hi⟩=>by
  have hin:i < D.n:=by omega
  have hc:=V.card i hin
  have hPC:PC D (d+1) i=D.card i*PC D d (i+1):=rfl
  have hEi:=hE i hin
  have hloop:=whileN_ex (body:=g_sensitive_lines_b0 (D.node i) (rowG D.n E) ((i:Int),rowG (D.card v) (quad A B),C,Dd,rowI D.n w) (recN (g_sensitive_lines_r1 D.net s.sh (v:Int) (rowG D.n E)) N))
   (fun st=>∃(x:Nat) (w':Nat → Nat),x≤D.card i∧D.ok w'∧(∀j,j < i→w' j=w j)∧st=((x:Int),rowG (D.card v) (quad (fun y=>A y+SM D E (at' v y (D.fA s)) d i w x) (fun y=>B y+SM D E (at' v y (D.fB s)) d i w x)),C+SM D E (D.fA s) d i w x,Dd+SM D E (D.fB s) d i w x,rowI D.n w'))
   (fun st=>D.card i - st.1.toNat)
   (fun r=>∃(w':Nat → Nat),D.ok w'∧(∀j,j < i→w' j=w j)∧r=(rowG (D.card v) (quad (fun y=>A y+TM D E (at' v y (D.fA s)) (d+1) i w) (fun y=>B y+TM D E (at' v y (D.fB s)) (d+1) i w)),C+TM D E (D.fA s) (d+1) i w,Dd+TM D E (D.fB s) (d+1) i w,rowI D.n w'))
   (fun st hst=>?_) ((0:Int),rowG (D.card v) (quad A B),C,Dd,rowI D.n w) ⟨0,w,by omega,hw,fun _ _=>rfl,by simp [SM,sumI]⟩ (by simp; omega)
  ·obtain ⟨r,h1,w',h2,h3,rfl⟩:=hloop
   refine ⟨w',h2,h3,?_⟩
   show g_sensitive_lines_r1 _ _ _ _ (recN (g_sensitive_lines_r1 D.net s.sh (v:Int) (rowG D.n E)) N) _=_
   rw [g_sensitive_lines_r1]
   simp only
   rw [if_neg (by rw [rowI_len]; simp; omega),V.node hin]
   simp only [Option.bind_some]
   rw [h1]
   rfl
  ·obtain ⟨x,w',hx,hw',hag,rfl⟩:=hst
   have ew:IntKind.i64.wrap ((x:Int)+1)=((x+1:Nat):Int):=by rw [w64 (by omega)]; omega
   have ei:IntKind.i64.wrap ((i:Int)+1)=((i+1:Nat):Int):=by have:=V.n8; rw [w64 (by omega)]; omega
   unfold g_sensitive_lines_b0
   simp only
   by_cases hlt:x < D.card i
   ·left
    rw [if_pos (by simp [NF.node]; omega),show lkI (rowG D.n E) (i:Int)=some (E i) from rowG_get hin]
    simp only [Option.bind_some]
    have hsm:∀f,SM D E f d i w (x+1)=SM D E f d i w x+(if E i=-1∨E i=(x:Int) then TM D E f d (i+1) (upd w i x) else 0):=fun f=>rfl
    by_cases hok:E i=-1∨E i=(x:Int)
    ·
     have hxm:m+x*PC D d (i+1)+PC D d (i+1)≤1024:=by
      have:(x+1)*PC D d (i+1)≤D.card i*PC D d (i+1):=Nat.mul_le_mul_right _ hlt
      rw [Nat.succ_mul] at this
      omega
     have okw:D.ok (upd w' i x):=ok_upd hw' hlt
     obtain ⟨w2,k1,k2,k3⟩:=lines_rec V hs hv hE d N (by omega) (i+1) (m+x*PC D d (i+1)) (upd w' i x)
      (fun y=>A y+SM D E (at' v y (D.fA s)) d i w x) (fun y=>B y+SM D E (at' v y (D.fB s)) d i w x) (C+SM D E (D.fA s) d i w x) (Dd+SM D E (D.fB s) d i w x)
      ⟨okw,fun y=>⟨(hAB y).1.add (sm_bd (at_bd (fA_bd V hs)) (by omega) hw (by omega)),(hAB y).2.add (sm_bd (at_bd (fB_bd V)) (by omega) hw (by omega))⟩,hC.add (sm_bd (fA_bd V hs) (by omega) hw (by omega)),hD.add (sm_bd (fB_bd V) (by omega) hw (by omega)),hxm,by omega⟩
     have hcg:∀f,Ext D f→TM D E f d (i+1) (upd w' i x)=TM D E f d (i+1) (upd w i x):=fun f hf=>tm_congr hf d (i+1) _ _ (by omega) fun j hj=>by
      by_cases e:j=i
      ·subst e; rw [upd_same,upd_same]
      ·rw [upd_ne e,upd_ne e]; exact hag j (by omega)
     have hset:(rowI D.n w').set i (x:Int)=rowI D.n (upd w' i x):=by
      unfold rowI; rw [rowG_set]
      refine rowG_congr fun j _=>?_
      unfold upd
      split <;> rfl
     have fin:((if (E i==-1)=true then (lkI (rowI D.n w') (i:Int)).bind fun _=>(recN (g_sensitive_lines_r1 D.net s.sh (v:Int) (rowG D.n E)) N (IntKind.i64.wrap ((i:Int)+1),rowG (D.card v) (quad (fun y=>A y+SM D E (at' v y (D.fA s)) d i w x) (fun y=>B y+SM D E (at' v y (D.fB s)) d i w x)),C+SM D E (D.fA s) d i w x,Dd+SM D E (D.fB s) d i w x,List.set (rowI D.n w') (Int.toNat (i:Int)) (x:Int))).bind fun x27=>some (Step.next (IntKind.i64.wrap ((x:Int)+1),x27.1,x27.2.1,x27.2.2.1,x27.2.2.2))
       else if (E i==(x:Int))=true then (lkI (rowI D.n w') (i:Int)).bind fun _=>(recN (g_sensitive_lines_r1 D.net s.sh (v:Int) (rowG D.n E)) N (IntKind.i64.wrap ((i:Int)+1),rowG (D.card v) (quad (fun y=>A y+SM D E (at' v y (D.fA s)) d i w x) (fun y=>B y+SM D E (at' v y (D.fB s)) d i w x)),C+SM D E (D.fA s) d i w x,Dd+SM D E (D.fB s) d i w x,List.set (rowI D.n w') (Int.toNat (i:Int)) (x:Int))).bind fun x27=>some (Step.next (IntKind.i64.wrap ((x:Int)+1),x27.1,x27.2.1,x27.2.2.1,x27.2.2.2))
       else some (Step.next (IntKind.i64.wrap ((x:Int)+1),rowG (D.card v) (quad (fun y=>A y+SM D E (at' v y (D.fA s)) d i w x) (fun y=>B y+SM D E (at' v y (D.fB s)) d i w x)),C+SM D E (D.fA s) d i w x,Dd+SM D E (D.fB s) d i w x,rowI D.n w'))):Option (Step (Int × (List (Int × Int × Int × Int)) × Int × Int × (List Int)) ((List (Int × Int × Int × Int)) × Int × Int × (List Int)))) =
       some (Step.next (((x+1:Nat):Int),rowG (D.card v) (quad (fun y=>A y+SM D E (at' v y (D.fA s)) d i w (x+1)) (fun y=>B y+SM D E (at' v y (D.fB s)) d i w (x+1))),C+SM D E (D.fA s) d i w (x+1),Dd+SM D E (D.fB s) d i w (x+1),rowI D.n w2)):=by
      rw [ew,ei,Int.toNat_natCast,hset,rowI_get hin]
      simp only [Option.bind_some]
      rw [k3]
      simp only [Option.bind_some]
      rw [hcg _ (fA_ext V hs),hcg _ (fB_ext V hs)]
      have e2:∀y,TM D E (at' v y (D.fA s)) d (i+1) (upd w' i x)=TM D E (at' v y (D.fA s)) d (i+1) (upd w i x):=fun y=>hcg _ (at_ext hv (fA_ext V hs))
      have e3:∀y,TM D E (at' v y (D.fB s)) d (i+1) (upd w' i x)=TM D E (at' v y (D.fB s)) d (i+1) (upd w i x):=fun y=>hcg _ (at_ext hv (fB_ext V hs))
      simp only [hsm,if_pos hok,e2,e3,←Int.add_assoc]
      rcases hok with h | h
      ·rw [if_pos (by simp [h])]
      ·by_cases h':E i=-1
       ·rw [if_pos (by simp [h'])]
       ·rw [if_neg (by simp [h']),if_pos (by simp [h])]
     refine ⟨_,fin,⟨x+1,w2,by omega,k1,fun j hj=>by rw [k2 j (by omega),upd_ne (by omega),hag j hj],rfl⟩,by simp; omega⟩
    ·rw [if_neg (by simp; exact fun h=>hok (.inl h)),if_neg (by simp; exact fun h=>hok (.inr h)),ew]
     refine ⟨_,rfl,⟨x+1,w',by omega,hw',hag,?_⟩,by simp; omega⟩
     simp only [hsm,if_neg hok,Int.add_zero]
   ·right
    have:x=D.card i:=by omega
    subst this
    rw [if_neg (by simp [NF.node])]
    exact ⟨_,rfl,w',hw',hag,rfl⟩
end
end Go.Ab
namespace Go.Ab
open Go
def SW (D:NF) (E:Nat → Int) (f:(Nat → Nat)→Int):Int:=TM D E f D.n 0 (fun _=>0)
def EvOk (D:NF) (E:Nat → Int):Prop:=∀j,j < D.n→-1≤E j∧E j < D.card j
def lineF (D:NF) (s:SF) (E:Nat → Int) (v:Nat) (x:Nat):Int × Int × Int × Int:=(SW D E (at' v x (D.fA s)),SW D E (at' v x (D.fB s)),SW D E (D.fA s),SW D E (D.fB s))
section
variable {D:NF} {s:SF} {E:Nat → Int} {v:Nat}
theorem pc_all (V:VN D):PC D D.n 0≤1024:=by
 have:=pc_prod (D:=D) D.n 0
 simp only [prodTo,Nat.one_mul,Nat.zero_add] at this
 rw [this]; exact V.worlds
theorem lines_eq (V:VN D) (hs:s.N < D.n) (hv:v < D.n) (hE:EvOk D E):g_sensitive_lines D.net (rowG D.n E) (v:Int) s.sh=some (rowG (D.card v) (lineF D s E v)):=by
 have hn8:=V.n8
 have hcv:=V.card v hv
 have hlen:D.net.Nodes.length=D.n:=rowG_len
 obtain ⟨w',h1,h2,h3⟩:=lines_rec V hs hv hE D.n fuel (by show D.n < 1152921504606846976; omega) 0 0 (fun _=>0) (fun _=>0) (fun _=>0) 0 0
  ⟨fun u hu=>(V.card u hu).1,fun _=>⟨BD.zero,BD.zero⟩,BD.zero,BD.zero,by have:=pc_all V; omega,by omega⟩
 unfold g_sensitive_lines
 rw [V.node hv]
 simp only [Option.bind_some]
 have hcard:(D.node v).Card=(D.card v:Int):=rfl
 rw [if_pos (by rw [hcard]; omega),if_pos (by rw [hlen]; omega)]
 rw [hcard,hlen,Int.toNat_natCast,Int.toNat_natCast,rowG_rep,rowG_rep]
 have e0:(rowG (D.card v) fun _=>((0:Int),(0:Int),(0:Int),(0:Int)))=rowG (D.card v) (quad (fun _=>0) (fun _=>0)):=rfl
 have e1:(rowG D.n fun _=>(0:Int))=rowI D.n (fun _=>0):=rfl
 rw [e0,e1,show ((0:Int),rowG (D.card v) (quad (fun _=>0) (fun _=>0)),(0:Int),(0:Int),rowI D.n (fun _=>0))=(((0:Nat):Int),rowG (D.card v) (quad (fun _=>0) (fun _=>0)),(0:Int),(0:Int),rowI D.n (fun _=>0)) from rfl,h3]
 simp only [Option.bind_some,Int.zero_add]
 have hrun:whileN fuel (g_sensitive_lines_b2 (rowG (D.card v) (quad (fun x=>TM D E (at' v x (D.fA s)) D.n 0 fun _=>0) (fun x=>TM D E (at' v x (D.fB s)) D.n 0 fun _=>0)),TM D E (D.fA s) D.n 0 (fun _=>0),TM D E (D.fB s) D.n 0 (fun _=>0),rowI D.n w'))
   (0,rowG (D.card v) (quad (fun x=>TM D E (at' v x (D.fA s)) D.n 0 fun _=>0) (fun x=>TM D E (at' v x (D.fB s)) D.n 0 fun _=>0)))=some (rowG (D.card v) (lineF D s E v)):=by
  refine whileN_run (fun k=>((k:Int),rowG (D.card v) fun x=>if x < k then lineF D s E v x else quad (fun x=>TM D E (at' v x (D.fA s)) D.n 0 fun _=>0) (fun x=>TM D E (at' v x (D.fB s)) D.n 0 fun _=>0) x)) (D.card v) _ (by simp) (fun k hk=>?_) ?_ (by omega)
  ·unfold g_sensitive_lines_b2
   simp only
   rw [if_pos (by rw [rowG_len]; simpa using hk),rowG_get hk]
   simp only [Option.bind_some,Nat.lt_irrefl,if_false,quad,Int.toNat_natCast]
   rw [rowG_set,rowG_set,w64 (by omega)]
   congr 3
   refine rowG_congr fun x hx=>?_
   by_cases e:x=k
   ·subst e; simp [lineF,SW]
   ·rw [if_neg e,if_neg e]
    by_cases e2:x < k
    ·rw [if_pos e2,if_pos (by omega)]
    ·rw [if_neg e2,if_neg (by omega)]
  ·unfold g_sensitive_lines_b2
   simp only
   rw [if_neg (by rw [rowG_len]; simp)]
   congr 2
   refine rowG_congr fun x hx=>?_
   rw [if_pos hx]
 rw [hrun]
 rfl
theorem line_eq (V:VN D) (hs:s.N < D.n) (hv:v < D.n) (hE:EvOk D E) {x:Nat} (hx:x < D.card v) (hc:g_sensitive_check D.net (rowG D.n E) (v:Int) s.sh [(x:Int)]=some 0) :
  g_sensitive_Line D.net (rowG D.n E) (v:Int) (x:Int) s.sh=some (lineF D s E v x,0):=by
 unfold g_sensitive_Line
 rw [hc]
 simp only [Option.bind_some]
 rw [if_neg (by simp),lines_eq V hs hv hE]
 simp only [Option.bind_some]
 rw [rowG_get hx]
 rfl
theorem tm_add {f g:(Nat → Nat)→Int}:∀(d i:Nat) (w:Nat → Nat),TM D E (fun w=>f w+g w) d i w=TM D E f d i w+TM D E g d i w
 | 0,_,_=>rfl
 | d+1,i,w=>by
  unfold TM
  rw [←sumI_add]
  refine sumI_congr fun x _=>?_
  split
  ·exact tm_add d (i+1) _
  ·rfl
theorem tm_mul {f:(Nat → Nat)→Int} {c:Int}:∀(d i:Nat) (w:Nat → Nat),TM D E (fun w=>f w*c) d i w=TM D E f d i w*c
 | 0,_,_=>rfl
 | d+1,i,w=>by
  unfold TM
  rw [←sumI_mul]
  refine sumI_congr fun x _=>?_
  split
  ·exact tm_mul d (i+1) _
  ·exact (Int.zero_mul c).symm
theorem tm_le {f g:(Nat → Nat)→Int} (h:∀w,D.ok w→f w≤g w):∀(d i:Nat) (w:Nat → Nat),i+d=D.n→D.ok w→TM D E f d i w≤TM D E g d i w
 | 0,_,w,_,hw=>h w hw
 | d+1,i,w,hi,hw=>by
  unfold TM
  refine sumI_le fun x hx=>?_
  split
  ·exact tm_le h d (i+1) _ (by omega) (ok_upd hw hx)
  ·exact Int.le_refl 0
theorem tm_zero:∀(d i:Nat) (w:Nat → Nat),TM D E (fun _=>0) d i w=0
 | 0,_,_=>rfl
 | d+1,i,w=>by
  unfold TM
  rw [sumI_congr (g:=fun _=>0) (fun x _=>by simp [tm_zero d]),sumI_zero]
theorem ok0 (V:VN D):D.ok (fun _=>0):=fun u hu=>(V.card u hu).1
theorem line_range (V:VN D) (hs:s.N < D.n) (hR:s.R < D.rows s.N) (hF:s.F < D.card s.N) (hT:s.T < D.card s.N) (hFT:s.F≠s.T) {t:Int}
  (ht:-(D.W s.N s.R s.T:Int)≤t∧t≤D.W s.N s.R s.F) (x:Nat):0≤(lineF D s E v x).1+(lineF D s E v x).2.1*t∧(lineF D s E v x).1+(lineF D s E v x).2.1*t≤(lineF D s E v x).2.2.1+(lineF D s E v x).2.2.2*t:=by
 have hpos:∀w,D.ok w→0≤D.fA s w+D.fB s w*t:=fun w hw=>by
  have e:D.fA s w+D.fB s w*t=(D.rest s w D.n:Int)*(D.own s w+D.change s w*t):=by
   unfold NF.fA NF.fB; rw [Int.mul_add,Int.mul_assoc]
  rw [e]
  refine Int.mul_nonneg (Int.natCast_nonneg _) ?_
  unfold NF.own NF.change
  by_cases hh:D.hit s w=true
  ·have hi:D.idx s.N w=s.R:=by simpa [NF.hit] using hh
   rw [if_pos hh,if_pos hh]
   have hw1:D.wt w s.N=D.W s.N s.R (w s.N):=by unfold NF.wt; rw [hi]
   by_cases h1:w s.N=s.F
   ·rw [if_pos h1,hw1,h1]; omega
   ·rw [if_neg h1]
    by_cases h2:w s.N=s.T
    ·rw [if_pos h2,hw1,h2]; omega
    ·rw [if_neg h2]; omega
  ·rw [if_neg hh,if_neg hh]; omega
 unfold lineF SW
 simp only
 rw [←tm_mul,←tm_mul,←tm_add,←tm_add]
 constructor
 ·rw [←tm_zero (D:=D) (E:=E) D.n 0 (fun _=>0)]
  refine tm_le (fun w hw=>?_) _ _ _ (by omega) (ok0 V)
  unfold at'
  split
  ·exact hpos w hw
  ·simp
 ·refine tm_le (fun w hw=>?_) _ _ _ (by omega) (ok0 V)
  unfold at'
  split
  ·exact Int.le_refl _
  ·have:=hpos w hw; simpa using this
end
end Go.Ab
namespace Go.Ab
open Go
section
variable {D:NF} {E:Nat → Int}
theorem bind_run {α β:Type} {o:Option α} {a:α} {k:α→Option β} {r:Option β} (h:o=some a) (h2:k a=r):o.bind k=r:=by rw [h]; exact h2
def okE (E:Nat → Int) (j x:Nat):Prop:=E j=-1∨E j=(x:Int)
instance instokE (E:Nat → Int) (j x:Nat):Decidable (okE E j x):=by unfold okE; infer_instance
theorem at_eq {n:Nat} {f:Nat → Nat} {l:List Nat} (hl:∀p∈l,p < n) (h8:l.length≤8):g_ref02_At (rowI n f) (l.map fun (p:Nat)=>(p:Int))=some (l.map fun p=>(f p:Int)):=by
 unfold g_ref02_At
 refine bind_run (whileN_run (s0:=((0:Int),([]:List Int))) (r:=l.map fun p=>(f p:Int)) (fun k=>((k:Int),(l.take k).map fun p=>(f p:Int))) l.length (by simp) (fun k hk=>?_) ?_ (by omega)) rfl
 ·unfold g_ref02_At_b0
  simp only
  rw [if_pos (by simpa using hk),lkI_nat (by simpa using hk)]
  simp only [Option.bind_some,List.getElem_map]
  rw [rowI_get (hl _ (List.getElem_mem hk))]
  simp only [Option.bind_some]
  rw [if_pos (by simp [List.length_take]; omega),w64 (by omega),take_succ' hk]
  simp only [List.map_append,List.map_cons,List.map_nil]
  rfl
 ·unfold g_ref02_At_b0
  simp only
  rw [if_neg (by simp),List.take_of_length_le (Nat.le_refl _)]
def ix (c w:Nat → Nat):List Nat → Nat
 | []=>0
 | p::l=>w p*lprodR c l+ix c w l
where lprodR (c:Nat → Nat):List Nat → Nat
 | []=>1
 | p::l=>c p*lprodR c l
open Classical in
end
end Go.Ab
namespace Go.Ab
open Go
theorem u64_nat {n:Nat} (h:n < 18446744073709551616):IntKind.u64.wrap (n:Int)=(n:Int):=by
 simp [IntKind.wrap,IntKind.bits,IntKind.signed]; omega
theorem bv_nat {a:Nat} (h:a < 18446744073709551616):(BitVec.ofInt (IntKind.bits .u64) (a:Int)).toNat = a:=by
 rw [BitVec.ofInt_natCast,BitVec.toNat_ofNat]
 exact Nat.mod_eq_of_lt h
theorem fdiv_pow {a k:Nat}:Int.fdiv (a:Int) ((2:Int)^k)=((a / 2^k:Nat):Int):=by
 rw [Int.fdiv_eq_ediv_of_nonneg _ (by exact_mod_cast Nat.zero_le (2^k))]
 simp
theorem u_bit {a k:Nat} (ha:a < 18446744073709551616) (hk:k < 64) :
  (IntKind.u64.wrap (BitVec.ofInt (IntKind.bits .u64) (Int.fdiv (a:Int) (2^min (Int.toNat (k:Int)) (IntKind.bits .u64))) &&& BitVec.ofInt (IntKind.bits .u64) 1).toNat == 0)=!(a.testBit k):=by
 have hb:IntKind.bits .u64=64:=rfl
 have e0:min (Int.toNat (k:Int)) (IntKind.bits .u64)=k:=by rw [hb,Int.toNat_natCast]; omega
 rw [e0,fdiv_pow]
 have h1:a / 2^k < 18446744073709551616:=Nat.lt_of_le_of_lt (Nat.div_le_self _ _) ha
 have e1:(BitVec.ofInt (IntKind.bits .u64) ((a / 2^k:Nat):Int) &&& BitVec.ofInt (IntKind.bits .u64) 1).toNat = (a / 2^k) % 2:=by
  rw [BitVec.toNat_and,bv_nat h1,show (BitVec.ofInt (IntKind.bits .u64) 1).toNat = 1 from rfl,Nat.and_one_is_mod]
 rw [e1,u64_nat (by omega)]
 have e2:a.testBit k=((a / 2^k) % 2==1):=by rw [Nat.testBit_eq_decide_div_mod_eq]; rfl
 rw [e2]
 rcases Nat.mod_two_eq_zero_or_one (a / 2^k) with h | h <;> rw [h] <;> rfl
theorem u_or {a k:Nat} (ha:a < 18446744073709551616) (hk:k < 64) :
  IntKind.u64.wrap (BitVec.ofInt (IntKind.bits .u64) (a:Int) ||| BitVec.ofInt (IntKind.bits .u64) (IntKind.u64.wrap (1*2^min (Int.toNat (k:Int)) (IntKind.bits .u64)))).toNat = ((a ||| 2^k:Nat):Int):=by
 have hb:IntKind.bits .u64=64:=rfl
 have e0:min (Int.toNat (k:Int)) (IntKind.bits .u64)=k:=by rw [hb,Int.toNat_natCast]; omega
 have hp:2^k < 18446744073709551616:=by
  have:2^k < 2^64:=Nat.pow_lt_pow_right (by omega) hk
  exact this
 rw [e0,show (1:Int)*2^k=((2^k:Nat):Int) by simp,u64_nat hp]
 have e1:(BitVec.ofInt (IntKind.bits .u64) (a:Int) ||| BitVec.ofInt (IntKind.bits .u64) ((2^k:Nat):Int)).toNat = a ||| 2^k:=by
  rw [BitVec.toNat_or,bv_nat ha,bv_nat hp]
 rw [e1,u64_nat]
 exact Nat.or_lt_two_pow (n:=64) ha hp
theorem or_lt {a k:Nat} (ha:a < 18446744073709551616) (hk:k < 64):a ||| 2^k < 18446744073709551616 :=
 Nat.or_lt_two_pow (n:=64) ha (Nat.pow_lt_pow_right (by omega) hk)
theorem or_bit {a k j:Nat}:(a ||| 2^k).testBit j=(a.testBit j || decide (k=j)):=by
 rw [Nat.testBit_or,Nat.testBit_two_pow]
theorem u_sub {a b:Nat} (ha:a < 18446744073709551616) (hb:b < 18446744073709551616) :
  (IntKind.u64.wrap (BitVec.ofInt (IntKind.bits .u64) (a:Int) &&& ~~~ BitVec.ofInt (IntKind.bits .u64) (b:Int)).toNat == 0)=true↔∀j,a.testBit j=true→b.testBit j=true:=by
 have h1:(BitVec.ofInt (IntKind.bits .u64) (a:Int) &&& ~~~ BitVec.ofInt (IntKind.bits .u64) (b:Int)).toNat < 18446744073709551616:=BitVec.isLt _
 rw [u64_nat h1]
 generalize hx:BitVec.ofInt (IntKind.bits .u64) (a:Int) &&& ~~~ BitVec.ofInt (IntKind.bits .u64) (b:Int)=x
 have hbit:∀j,j < 64→x.getLsbD j=(a.testBit j && !(b.testBit j)):=fun j hj=>by
  rw [←hx,BitVec.getLsbD_and,BitVec.getLsbD_not]
  have:(IntKind.bits .u64)=64:=rfl
  have e1:(BitVec.ofInt (IntKind.bits .u64) (a:Int)).getLsbD j=a.testBit j:=by unfold BitVec.getLsbD; rw [bv_nat ha]
  have e2:(BitVec.ofInt (IntKind.bits .u64) (b:Int)).getLsbD j=b.testBit j:=by unfold BitVec.getLsbD; rw [bv_nat hb]
  rw [e1,e2]
  simp [this,hj]
 constructor
 ·intro h j hj
  have hx0:x.toNat = 0:=by simpa using h
  have h64:j < 64:=by
   rcases Nat.lt_or_ge j 64 with h' | h'
   ·exact h'
   ·have:=Nat.testBit_lt_two_pow (i:=j) (x:=a) (Nat.lt_of_lt_of_le ha (Nat.pow_le_pow_right (n:=2) (by omega) h'))
    rw [this] at hj; cases hj
  have h2:=hbit j h64
  have h3:x.getLsbD j=false:=by unfold BitVec.getLsbD; rw [hx0]; simp
  rw [h3,hj] at h2
  simpa using h2
 ·intro h
  have:x=0#_:=by
   apply BitVec.eq_of_getLsbD_eq
   intro j hj
   have hj':j < 64:=hj
   rw [hbit j hj']
   cases ha':a.testBit j with
   | false=>simp
   | true=>rw [h j ha']; simp
  rw [this]; rfl
end Go.Ab
namespace Go.Ab
open Go
structure VX (D:NF):Prop where
 vn:VN D
 sorted:∀v,v < D.n→(D.par v).Pairwise (· < ·)
 self:∀v,v < D.n→v ∉ D.par v
 rank:∃rk:Nat → Nat,∀v,v < D.n→∀p∈D.par v,rk p < rk v
 sum:∀v r,v < D.n→r < D.rows v→sumI (D.card v) (fun x=>(D.W v r x:Int))=D.g
theorem nodup_len:∀(a b:List Nat),a.Nodup→a ⊆ b→a.length≤b.length
 | [],_,_,_=>by simp
 | x::a,b,hn,hs=>by
  have hx:x∈b:=hs (by simp)
  rw [List.nodup_cons] at hn
  have h1:a ⊆ b.erase x:=fun y hy=>by
   have hne:y≠x:=fun e=>hn.1 (e ▸ hy)
   exact (List.mem_erase_of_ne hne).2 (hs (List.mem_cons_of_mem _ hy))
  have h2:=nodup_len a (b.erase x) hn.2 h1
  have h3:=List.length_erase_of_mem hx
  have h4:0 < b.length:=List.length_pos_of_mem hx
  simp only [List.length_cons]
  omega
def bitsOf (l:List Nat) (a:Nat):Nat := l.foldl (fun a p=>a ||| 2^p) a
theorem bitsOf_bit {j:Nat}:∀(l:List Nat) (a:Nat),(bitsOf l a).testBit j=(a.testBit j || decide (j∈l))
 | [],a=>by simp [bitsOf]
 | p::l,a=>by
  have:=bitsOf_bit (j:=j) l (a ||| 2^p)
  unfold bitsOf at this ⊢
  simp only [List.foldl_cons]
  rw [this,or_bit]
  by_cases h:p=j
  ·subst h; simp
  ·have:j≠p:=Ne.symm h
   simp [h,this]
theorem bitsOf_lt:∀(l:List Nat) (a:Nat),a < 18446744073709551616→(∀p∈l,p < 64)→bitsOf l a < 18446744073709551616
 | [],a,h,_=>h
 | p::l,a,h,hl=>bitsOf_lt l (a ||| 2^p) (or_lt h (hl p (by simp))) fun q hq=>hl q (List.mem_cons_of_mem _ hq)
theorem bitsOf_append {l:List Nat} {p a:Nat}:bitsOf (l++[p]) a=bitsOf l a ||| 2^p:=by simp [bitsOf]
section
variable {D:NF}
theorem sum_le_g (X:VX D) {v r k:Nat} (hv:v < D.n) (hr:r < D.rows v) (hk:k < D.card v):sumI k (fun x=>(D.W v r x:Int))+D.W v r k≤D.g:=by
 have h1:=X.sum v r hv hr
 have h2:sumI (D.card v) (fun x=>(D.W v r x:Int))=sumI (k+1) (fun x=>(D.W v r x:Int))+sumI (D.card v - (k+1)) (fun x=>(D.W v r (k+1+x):Int)):=by
  rw [←sumI_split,show k+1+(D.card v - (k+1))=D.card v by omega]
 have h3:0≤sumI (D.card v - (k+1)) (fun x=>(D.W v r (k+1+x):Int)):=sumI_nonneg fun x _=>Int.natCast_nonneg _
 simp only [sumI] at h2
 omega
theorem filled_eq (X:VX D) {v:Nat} (hv:v < D.n) {sets order:List Int}:g_net_network_filled ⟨D.net,rowI D.n D.card,sets,order⟩ (D.node v)=some true:=by
 have V:=X.vn
 have hl:(D.node v).Parents.length=(D.par v).length:=by simp [NF.node]
 have hlen:=V.len v hv
 have hrl:(D.node v).Rows.length=D.rows v:=by simp [NF.node,rowG_len]
 have hrows:=V.rows_le hv
 have hcv:=V.card v hv
 unfold g_net_network_filled
 refine bind_run (whileN_run (s0:=((1:Int),(0:Int))) (r:=(D.rows v:Int)) (fun k=>((lprod D.card ((D.par v).take k):Int),(k:Int))) (D.par v).length (by simp [lprod]) (fun k hk=>?_) ?_ (by omega)) ?_
 ·have hp:=V.par v hv (D.par v)[k] (List.getElem_mem hk)
  have b1:lprod D.card ((D.par v).take k)≤4^8:=Nat.le_trans (lprod_le fun p hp=>(V.card p (V.par v hv p (List.mem_of_mem_take hp))).2) (Nat.pow_le_pow_right (by omega) (by rw [List.length_take]; omega))
  have b2:lprod D.card ((D.par v).take k)*D.card (D.par v)[k]≤65536*4:=Nat.mul_le_mul (by omega) (V.card _ hp).2
  unfold g_net_network_filled_b0
  simp only
  rw [if_pos (by rw [hl]; simpa using hk),lkI_nat (by rw [hl]; exact hk)]
  have e0:(D.node v).Parents[k]'(by rw [hl]; exact hk)=(((D.par v)[k]:Nat):Int):=by simp [NF.node]
  simp only [Option.bind_some,e0]
  rw [rowI_get hp]
  simp only [Option.bind_some]
  have e1:(lprod D.card ((D.par v).take k):Int)*(D.card (D.par v)[k]:Int)=((lprod D.card ((D.par v).take (k+1)):Nat):Int):=by rw [take_succ' hk,lprod_append]; simp
  have e2:lprod D.card ((D.par v).take (k+1))≤65536*4:=by rw [take_succ' hk,lprod_append]; exact b2
  rw [e1,w64 (by omega),w64 (by omega)]
  rfl
 ·unfold g_net_network_filled_b0
  simp only
  rw [if_neg (by rw [hl]; simp),List.take_of_length_le (Nat.le_refl _)]
  rfl
 ·rw [if_neg (by rw [hrl]; simp)]
  refine bind_run (whileN_run (s0:=(0:Int)) (r:=Sum.inr ()) (fun r=>(r:Int)) (D.rows v) rfl (fun r hr=>?_) ?_ (by omega)) rfl
  ·unfold g_net_network_filled_b2
   simp only
   rw [if_pos (by rw [hrl]; simpa using hr),show lkI (D.node v).Rows (r:Int)=some (rowG (D.card v) fun x=>(D.W v r x:Int)) from rowG_get hr]
   simp only [Option.bind_some]
   have hin:whileN fuel (g_net_network_filled_b1 (rowG (D.card v) fun x=>(D.W v r x:Int))) ((D.g:Int),(0:Int))=some (Sum.inr 0):=by
    refine whileN_run (fun k=>((D.g:Int) - sumI k (fun x=>(D.W v r x:Int)),(k:Int))) (D.card v) _ (by simp [sumI]) (fun k hk=>?_) ?_ (by omega)
    ·have h1:=sum_le_g X hv hr hk
     have h2:0≤sumI k (fun x=>(D.W v r x:Int)):=sumI_nonneg fun x _=>Int.natCast_nonneg _
     have hg:=V.g60
     unfold g_net_network_filled_b1
     simp only
     rw [if_pos (by rw [rowG_len]; simpa using hk),rowG_get hk]
     simp only [Option.bind_some]
     rw [if_neg (by simp),if_neg (by simp; omega),w64 (by omega),w64 (by omega)]
     simp only [sumI]
     congr 3
     omega
    ·unfold g_net_network_filled_b1
     simp only
     rw [if_neg (by rw [rowG_len]; simp),X.sum v r hv hr,Int.sub_self]
   rw [show (D.net.Grain:Int)=(D.g:Int) from rfl,hin]
   simp only [Option.bind_some]
   rw [if_neg (by rw [rowG_len]; simp [NF.node]),if_neg (by simp),w64 (by omega)]
   rfl
  ·unfold g_net_network_filled_b2
   simp only
   rw [if_neg (by rw [hrl]; simp)]
def setN (D:NF) (v:Nat):Nat := bitsOf (D.par v) 0
theorem setN_lt (V:VN D) {v:Nat} (hv:v < D.n):setN D v < 18446744073709551616:=bitsOf_lt _ _ (by omega) fun p hp=>by have:=V.par v hv p hp; have:=V.n8; omega
theorem setN_bit {v j:Nat}:(setN D v).testBit j=decide (j∈D.par v):=by unfold setN; rw [bitsOf_bit]; simp
theorem sorted_eq (X:VX D):∃order,g_net_sorted (rowI D.n (setN D))=some (order,true):=by
 have V:=X.vn
 have hn:=V.n8
 obtain ⟨rk,hrk⟩:=X.rank
 have hlen:(rowI D.n (setN D)).length=D.n:=rowI_len
 let I:Int × List Int→Prop:=fun s=>∃(l:List Nat),l.Nodup∧(∀p∈l,p < D.n)∧s=((bitsOf l 0:Int),l.map fun (p:Nat)=>(p:Int))
 have hw:=whileN_ex (body:=g_net_sorted_b1 (rowI D.n (setN D))) I (fun s=>D.n - s.2.length) (fun r=>∃o,r=Sum.inr o) (fun s hs=>?_) ((0:Int),List.replicate (Int.toNat 0) (0:Int)) ⟨[],List.nodup_nil,fun p hp=>by simp at hp,rfl⟩ (by simp; omega)
 ·obtain ⟨r,h1,o,rfl⟩:=hw
  refine ⟨o,?_⟩
  unfold g_net_sorted
  rw [if_pos (by rw [hlen]; omega),h1]
  rfl
 ·obtain ⟨l,hnd,hl,rfl⟩:=hs
  have hll:l.length≤D.n:=by
   have h1:l ⊆ List.range D.n:=fun p hp=>List.mem_range.2 (hl p hp)
   have:=nodup_len l (List.range D.n) hnd h1
   simpa using this
  have hdl:bitsOf l 0 < 18446744073709551616:=bitsOf_lt _ _ (by omega) fun p hp=>by have:=hl p hp; omega
  by_cases hc:l.length < D.n
  ·
   have hex:∃v,v < D.n∧v ∉ l:=by
    apply Classical.byContradiction
    intro hno
    have h1:List.range D.n ⊆ l:=fun p hp=>by
     apply Classical.byContradiction
     intro hp'
     exact hno ⟨p,List.mem_range.1 hp,hp'⟩
    have:=nodup_len (List.range D.n) l List.nodup_range h1
    simp at this
    omega
   have hmin:∃v,v < D.n∧v ∉ l∧∀u,u < D.n→u ∉ l→rk v≤rk u:=by
    obtain ⟨v0,h1,h2⟩:=hex
    have:∀(k:Nat) (v:Nat),rk v≤k→v < D.n→v ∉ l→∃v,v < D.n∧v ∉ l∧∀u,u < D.n→u ∉ l→rk v≤rk u:=by
     intro k
     induction k with
     | zero=>intro v hk h1 h2; exact ⟨v,h1,h2,fun u _ _=>by omega⟩
     | succ k ih =>
      intro v hk h1 h2
      by_cases hall:∀u,u < D.n→u ∉ l→rk v≤rk u
      ·exact ⟨v,h1,h2,hall⟩
      ·have:∃u,u < D.n∧u ∉ l∧rk u < rk v:=by
        apply Classical.byContradiction
        intro hno
        exact hall fun u hu hul=>by
         apply Classical.byContradiction
         intro hlt
         exact hno ⟨u,hu,hul,by omega⟩
       obtain ⟨u,hu,hul,hlt⟩:=this
       exact ih u (by omega) hu hul
    exact this (rk v0) v0 (Nat.le_refl _) h1 h2
   obtain ⟨v1,hv1,hv1l,hv1m⟩:=hmin
   have hready:∀p∈D.par v1,p∈l:=fun p hp=>by
    apply Classical.byContradiction
    intro hpl
    have h1:=hv1m p (V.par v1 hv1 p hp) hpl
    have h2:=hrk v1 hv1 p hp
    omega
   left
   have hs2:=whileN_ex (body:=g_net_sorted_b0 (rowI D.n (setN D)) ((bitsOf l 0:Int),l.map fun (p:Nat)=>(p:Int))) (fun s=>∃k:Nat,k≤v1∧s=(k:Int)) (fun s=>D.n - s.toNat)
    (fun r=>∃v,v < D.n∧v ∉ l∧r=Sum.inl (((bitsOf l 0 ||| 2^v:Nat):Int),(l.map fun (p:Nat)=>(p:Int))++[(v:Int)])) (fun s hs=>?_) (0:Int) ⟨0,by omega,rfl⟩ (by simp; omega)
   ·obtain ⟨r,h1,v,hv,hvl,rfl⟩:=hs2
    refine ⟨(((bitsOf l 0 ||| 2^v:Nat):Int),(l.map fun (p:Nat)=>(p:Int))++[(v:Int)]),?_,⟨l++[v],?_,?_,?_⟩,by simp; omega⟩
    ·unfold g_net_sorted_b1
     simp only
     rw [if_pos (by rw [hlen]; simp; omega),h1]
     rfl
    ·rw [List.nodup_append]
     exact ⟨hnd,by simp,fun a ha b hb=>by simp at hb; subst hb; exact fun e=>hvl (e ▸ ha)⟩
    ·intro p hp
     rcases List.mem_append.1 hp with h | h
     ·exact hl p h
     ·simp at h; subst h; exact hv
    ·rw [bitsOf_append]; simp
   ·obtain ⟨k,hk,rfl⟩:=hs
    have hkn:k < D.n:=by omega
    have ek:IntKind.i64.wrap ((k:Int)+1)=((k+1:Nat):Int):=by rw [w64 (by omega)]; omega
    have hbk:(bitsOf l 0).testBit k=decide (k∈l):=by rw [bitsOf_bit]; simp
    unfold g_net_sorted_b0
    simp only
    rw [if_pos (by rw [hlen]; simpa using hkn),rowI_get hkn]
    simp only [Option.bind_some]
    rw [if_pos (by omega),u_bit hdl (by omega),hbk]
    by_cases hkl:k∈l
    ·left
     rw [if_neg (by simp [hkl]),ek]
     have hne:k≠v1:=fun e=>hv1l (e ▸ hkl)
     exact ⟨_,rfl,⟨k+1,by omega,rfl⟩,by simp; omega⟩
    ·rw [if_pos (by simp [hkl])]
     by_cases hsub:∀p∈D.par k,p∈l
     ·right
      rw [if_pos ((u_sub (setN_lt V hkn) hdl).2 fun j hj=>by
       rw [setN_bit] at hj
       rw [bitsOf_bit]
       simp at hj ⊢
       exact hsub j hj),if_pos (by simp; omega),if_pos (by omega),u_or hdl (by omega)]
      exact ⟨_,rfl,k,hkn,hkl,rfl⟩
     ·left
      have hne:k≠v1:=fun e=>by subst e; exact hsub hready
      rw [if_neg (fun hc'=>hsub fun p hp=>by
       have:=(u_sub (setN_lt V hkn) hdl).1 hc' p (by rw [setN_bit]; simpa using hp)
       rw [bitsOf_bit] at this
       simpa using this),ek]
      exact ⟨_,rfl,⟨k+1,by omega,rfl⟩,by simp; omega⟩
  ·right
   refine ⟨Sum.inr (l.map fun (p:Nat)=>(p:Int)),?_,_,rfl⟩
   unfold g_net_sorted_b1
   simp only
   rw [if_neg (by rw [hlen]; simp; omega)]
theorem read_eq (X:VX D):∃order,g_net_read D.net=some (⟨D.net,rowI D.n D.card,rowI D.n (setN D),order⟩,0):=by
 have V:=X.vn
 have hn:=V.n8
 have hn1:=V.n1
 have hg:=V.g60
 have hg1:=V.g1
 have hlen:D.net.Nodes.length=D.n:=rowG_len
 have hG:D.net.Grain=(D.g:Int):=rfl
 obtain ⟨order,hord⟩:=sorted_eq X
 refine ⟨order,?_⟩
 unfold g_net_read
 rw [hlen,hG,if_neg (by simp; omega),if_neg (by simp; omega),if_neg (by simp; omega),if_neg (by simp; omega),if_pos (by omega),if_pos (by omega),Int.toNat_natCast,rowG_rep]
 have h0:whileN fuel (g_net_read_b0 D.net) ((1:Int),(0:Int),rowG D.n fun _=>(0:Int))=some (Sum.inr ((prodTo D.n D.card:Int),rowI D.n D.card)):=by
  refine whileN_run (fun k=>((prodTo k D.card:Int),(k:Int),rowG D.n fun j=>if j < k then (D.card j:Int) else 0)) D.n _ (by simp [prodTo]) (fun k hk=>?_) ?_ (by omega)
  ·have b1:prodTo k D.card≤4^k:=prodTo_le fun j hj=>(V.card j (by omega)).2
   have b2:(4:Nat)^k≤4^8:=Nat.pow_le_pow_right (by omega) (by omega)
   have b3:prodTo k D.card*D.card k≤65536*4:=Nat.mul_le_mul (by omega) (V.card k hk).2
   have hc:=V.card k hk
   have e1:(prodTo k D.card:Int)*(D.node k).Card=((prodTo (k+1) D.card:Nat):Int):=by simp [prodTo,NF.node]
   unfold g_net_read_b0
   simp only
   rw [if_pos (by rw [hlen]; simpa using hk),V.node hk]
   simp only [Option.bind_some]
   have hc1:¬ (decide ((D.node k).Card < 1)=true):=by rw [decide_eq_true_eq]; show ¬ ((D.card k:Int) < 1); omega
   have hc2:¬ (decide ((D.node k).Card > 4)=true):=by rw [decide_eq_true_eq]; show ¬ ((D.card k:Int) > 4); omega
   rw [if_neg hc1,if_neg hc2,rowG_get hk]
   simp only [Option.bind_some]
   have w1:IntKind.i64.wrap ((prodTo (k+1) D.card:Nat):Int)=((prodTo (k+1) D.card:Nat):Int):=w64 (by simp only [prodTo]; omega)
   rw [e1,w1,w64 (by omega),Int.toNat_natCast,rowG_set]
   congr 4
   refine rowG_congr fun j hj=>?_
   by_cases e:j=k
   ·subst e; simp [NF.node]
   ·rw [if_neg e]
    by_cases e2:j < k
    ·rw [if_pos e2,if_pos (by omega)]
    ·rw [if_neg e2,if_neg (by omega)]
  ·unfold g_net_read_b0
   simp only
   rw [if_neg (by rw [hlen]; simp)]
   congr 4
   exact rowG_congr fun j hj=>if_pos hj
 rw [h0]
 simp only [Option.bind_some]
 have hwd:=V.worlds
 rw [if_neg (by simp; omega)]
 have h2:whileN fuel (g_net_read_b2 D.net ((prodTo D.n D.card:Int),rowI D.n D.card)) ((0:Int),rowG D.n fun _=>(0:Int))=some (Sum.inr (rowI D.n (setN D))):=by
  refine whileN_run (fun v=>((v:Int),rowG D.n fun j=>if j < v then (setN D j:Int) else 0)) D.n _ (by simp) (fun v hv=>?_) ?_ (by omega)
  ·have hl:(D.node v).Parents.length=(D.par v).length:=by simp [NF.node]
   have hplen:=V.len v hv
   have h1:whileN fuel (g_net_read_b1 (D.node v) D.net ((v:Int),rowG D.n fun j=>if j < v then (setN D j:Int) else 0)) ((-1:Int),(0:Int),rowG D.n fun j=>if j < v then (setN D j:Int) else 0) =
     some (Sum.inr (rowG D.n fun j=>if j < v+1 then (setN D j:Int) else 0)):=by
    refine whileN_run (fun k=>((if k=0 then (-1:Int) else (((D.par v).getD (k - 1) 0:Nat):Int)),(k:Int),rowG D.n fun j=>if j < v then (setN D j:Int) else if j=v then (bitsOf ((D.par v).take k) 0:Int) else 0)) (D.par v).length _ ?_ (fun k hk=>?_) ?_ (by omega)
    ·simp only [if_true,List.take_zero]
     congr 2
     refine rowG_congr fun j _=>?_
     by_cases e:j < v
     ·rw [if_pos e,if_pos e]
     ·rw [if_neg e,if_neg e]; simp [bitsOf]
    ·have hp:=V.par v hv (D.par v)[k] (List.getElem_mem hk)
     have hgt:(if k=0 then (-1:Int) else (((D.par v).getD (k - 1) 0:Nat):Int)) < (((D.par v)[k]:Nat):Int):=by
      by_cases h0:k=0
      ·rw [if_pos h0]; omega
      ·rw [if_neg h0]
       have hk1:k - 1 < (D.par v).length:=by omega
       have:=List.pairwise_iff_getElem.1 (X.sorted v hv) (k - 1) k hk1 hk (by omega)
       have e:(D.par v).getD (k - 1) 0=(D.par v)[k - 1]:=by simp [List.getD,hk1]
       rw [e]; omega
     have hself:(D.par v)[k]≠v:=fun e=>X.self v hv (by have:=List.getElem_mem hk; rwa [e] at this)
     have hbl:bitsOf ((D.par v).take k) 0 < 18446744073709551616:=bitsOf_lt _ _ (by omega) fun p hp=>by have:=V.par v hv p (List.mem_of_mem_take hp); omega
     unfold g_net_read_b1
     simp only
     rw [if_pos (by rw [hl]; simpa using hk),lkI_nat (by rw [hl]; exact hk)]
     have e0:(D.node v).Parents[k]'(by rw [hl]; exact hk)=(((D.par v)[k]:Nat):Int):=by simp [NF.node]
     simp only [Option.bind_some,e0]
     rw [if_neg (by rw [decide_eq_true_eq]; exact Int.not_le.2 hgt),if_neg (by rw [hlen]; simp; omega),if_neg (by simp; omega),rowG_get hv]
     simp only [Option.bind_some,Nat.lt_irrefl,if_false,if_true]
     rw [if_pos (by omega),u_or hbl (by omega),w64 (by omega),Int.toNat_natCast,rowG_set,take_succ' hk,bitsOf_append]
     have e2:(D.par v).getD (k+1 - 1) 0=(D.par v)[k]:=by simp [List.getD,hk]
     rw [if_neg (by omega),e2]
     congr 4
     refine rowG_congr fun j _=>?_
     by_cases e:j=v
     ·subst e; simp
     ·rw [if_neg e,if_neg e,if_neg e]
    ·unfold g_net_read_b1
     simp only
     rw [if_neg (by rw [hl]; simp),List.take_of_length_le (Nat.le_refl _)]
     congr 3
     refine rowG_congr fun j _=>?_
     by_cases e:j < v
     ·rw [if_pos e,if_pos (by omega)]
     ·rw [if_neg e]
      by_cases e2:j=v
      ·subst e2; rw [if_pos rfl,if_pos (by omega)]; rfl
      ·rw [if_neg e2,if_neg (by omega)]
   unfold g_net_read_b2
   simp only
   rw [if_pos (by rw [hlen]; simpa using hv),V.node hv]
   simp only [Option.bind_some]
   rw [h1]
   simp only [Option.bind_some]
   rw [filled_eq X hv]
   simp only [Option.bind_some]
   rw [if_neg (by simp),w64 (by omega)]
   rfl
  ·unfold g_net_read_b2
   simp only
   rw [if_neg (by rw [hlen]; simp)]
   congr 3
   exact rowG_congr fun j hj=>if_pos hj
 rw [h2]
 simp only [Option.bind_some]
 rw [hord]
 rfl
theorem check_ok (X:VX D) {E:Nat → Int} (hE:EvOk D E) {s:SF} {v x:Nat} (hs:s.N < D.n) (hR:s.R < D.rows s.N) (hF:s.F < D.card s.N) (hT:s.T < D.card s.N) (hFT:s.F≠s.T) (hv:v < D.n) (hx:x < D.card v) :
  g_sensitive_check D.net (rowG D.n E) (v:Int) s.sh [(x:Int)]=some 0:=by
 have V:=X.vn
 have hn:=V.n8
 have hlen:D.net.Nodes.length=D.n:=rowG_len
 obtain ⟨order,hr⟩:=read_eq X
 have hce:g_net_CheckEvidence D.net (rowG D.n E)=some 0:=by
  unfold g_net_CheckEvidence
  rw [hr]
  simp only [Option.bind_some]
  rw [if_neg (by simp),if_neg (by rw [rowG_len,hlen]; simp)]
  refine bind_run (whileN_run (s0:=(0:Int)) (r:=Sum.inr ()) (fun k=>(k:Int)) D.n rfl (fun k hk=>?_) ?_ (by omega)) rfl
  ·have:=hE k hk
   unfold g_net_CheckEvidence_b0
   rw [if_pos (by rw [rowG_len]; simpa using hk),rowG_get hk]
   simp only [Option.bind_some]
   rw [if_neg (by simp; omega),rowI_get hk]
   simp only [Option.bind_some]
   rw [if_neg (by simp; omega),w64 (by omega)]
   rfl
  ·unfold g_net_CheckEvidence_b0
   rw [if_neg (by rw [rowG_len]; simp)]
 unfold g_sensitive_check g_net_Check
 rw [hr]
 simp only [Option.bind_some]
 rw [if_neg (by simp),hce]
 simp only [Option.bind_some]
 rw [if_neg (by simp),if_neg (by simp),if_neg (by rw [hlen]; simp; omega)]
 refine bind_run (whileN_run (s0:=(0:Int)) (r:=Sum.inr ()) (fun k=>(k:Int)) 1 rfl (fun k hk=>?_) ?_ (by omega)) ?_
 ·have:k=0:=by omega
  subst this
  unfold g_sensitive_check_b0
  rw [if_pos (by simp),show lkI [(x:Int)] ((0:Nat):Int)=some (x:Int) from rfl]
  simp only [Option.bind_some]
  rw [if_neg (by simp),V.node hv]
  simp only [Option.bind_some]
  rw [if_neg (by simp [NF.node]; omega)]
  rfl
 ·unfold g_sensitive_check_b0
  rw [if_neg (by simp)]
 ·simp only
  rw [show s.sh.Node=(s.N:Int) from rfl,show s.sh.Row=(s.R:Int) from rfl,show s.sh.From=(s.F:Int) from rfl,show s.sh.To=(s.T:Int) from rfl]
  rw [if_neg (by simp),if_neg (by rw [hlen]; simp; omega),V.node hs]
  simp only [Option.bind_some]
  rw [if_neg (by simp),if_neg (by simp [NF.node,rowG_len]; omega),if_neg (by simp),if_neg (by simp [NF.node]; omega),if_neg (by simp),if_neg (by simp [NF.node]; omega),if_neg (by simp; omega)]
end
end Go.Ab
namespace Go.Ab
open Go
theorem sumN_cast {n:Nat} {f:Nat → Nat}:∃s:Nat,sumI n (fun x=>(f x:Int))=(s:Int):=by
 obtain ⟨s,hs⟩:=Int.eq_ofNat_of_zero_le (sumI_nonneg (n:=n) (f:=fun x=>(f x:Int)) fun _ _=>Int.natCast_nonneg _)
 exact ⟨s,hs⟩
theorem sum_part_le {n k:Nat} {f:Nat → Int} (h:∀j,j < n→0≤f j) (hk:k≤n):sumI k f≤sumI n f:=by
 obtain ⟨m,rfl⟩:=Nat.exists_eq_add_of_le hk
 rw [sumI_split]
 have:=sumI_nonneg (n:=m) (f:=fun x=>f (k+x)) fun j hj=>h _ (by omega)
 omega
theorem sum_div_le {g S:Nat} (hS:0 < S):∀(n:Nat) (o:Nat → Nat),sumI n (fun x=>((g*o x / S:Nat):Int))*S≤g*sumI n (fun x=>(o x:Int))
 | 0,_=>by simp [sumI]
 | n+1,o=>by
  have ih:=sum_div_le (g:=g) hS n o
  have h1:g*o n / S*S≤g*o n:=Nat.div_mul_le_self _ _
  have h2:(((g*o n / S:Nat):Int))*(S:Int)≤(g:Int)*(o n:Int):=by exact_mod_cast h1
  simp only [sumI]
  rw [Int.add_mul,Int.mul_add]
  exact Int.add_le_add ih h2
theorem row_spec {g c:Nat} {l:List Int} {fr:Nat} (hg:g≤60) (hc:1≤c) (hc4:c≤4) (hl:∀x∈l,0≤x∧x≤255) (hll:l.length≤9223372036854775807) (hfr:fr≤100000) :
  ∃f:Nat → Nat,g_ref05_row (g:Int) (c:Int) l (fr:Int)=some (rowG c fun x=>(f x:Int))∧sumI c (fun x=>(f x:Int))=g:=by
 have hb0:∃o:Nat → Nat,(∀j,o j < 8)∧whileN fuel (g_ref05_row_b0 (c:Int) l (fr:Int)) ((0:Int),(0:Int),rowG c fun _=>(0:Int))=some (sumI c (fun x=>(o x:Int)),rowG c fun x=>(o x:Int)):=by
  by_cases h0:l.length=0
  ·refine ⟨fun _=>0,fun _=>Nat.zero_lt_succ _,?_⟩
   have hz:∀k,sumI k (fun _=>((0:Nat):Int))=0:=fun k=>sumI_zero
   refine whileN_run (fun k=>((0:Int),(k:Int),rowG c fun _=>(0:Int))) c _ rfl (fun k hk=>?_) ?_ (by omega)
   ·unfold g_ref05_row_b0
    simp only
    rw [if_pos (by simpa using hk),if_neg (by simp [h0]),rowG_get hk]
    simp only [Option.bind_some]
    rw [w64 (by omega),w64 (by omega)]
    rfl
   ·unfold g_ref05_row_b0
    simp only
    rw [if_neg (by simp),hz]
    rfl
  ·have hpos:0 < l.length:=by omega
   let o:Nat → Nat := fun k=>((l[(fr+k) % l.length]'(Nat.mod_lt _ hpos)).toNat) % 8
   refine ⟨o,fun j=>Nat.mod_lt _ (by omega),?_⟩
   refine whileN_run (fun k=>(sumI k (fun x=>(o x:Int)),(k:Int),rowG c fun j=>if j < k then (o j:Int) else 0)) c _ (by simp [sumI]) (fun k hk=>?_) ?_ (by omega)
   ·have hx:=hl _ (List.getElem_mem (Nat.mod_lt (fr+k) hpos))
    have ho:o k=((l[(fr+k) % l.length]'(Nat.mod_lt _ hpos)).toNat) % 8:=rfl
    have hs:sumI k (fun x=>(o x:Int))≤8*k:=by
     have:∀k,sumI k (fun x=>(o x:Int))≤8*k:=by
      intro k
      induction k with
      | zero=>simp [sumI]
      | succ k ih=>simp only [sumI]; have:o k < 8:=Nat.mod_lt _ (by omega); omega
     exact this k
    have hs0:0≤sumI k (fun x=>(o x:Int)):=sumI_nonneg fun _ _=>Int.natCast_nonneg _
    have e1:Int.tmod (IntKind.i64.wrap ((fr:Int)+(k:Int))) (l.length:Int)=(((fr+k) % l.length:Nat):Int):=by
     rw [w64 (by omega),tmod_pos (by omega)]; simp
    unfold g_ref05_row_b0
    simp only
    rw [if_pos (by simpa using hk),if_pos (by simp; omega),if_pos (by omega),e1,lkI_nat (Nat.mod_lt _ hpos)]
    simp only [Option.bind_some]
    rw [rowG_get hk]
    simp only [Option.bind_some]
    have e2:Int.tmod (l[(fr+k) % l.length]'(Nat.mod_lt _ hpos)) 8=(o k:Int):=by rw [tmod_pos hx.1,ho]; omega
    have ho8:o k < 8:=Nat.mod_lt _ (by omega)
    rw [e2]
    have w1:IntKind.i64.wrap (o k:Int)=(o k:Int):=w64 (by omega)
    rw [w1,w64 (by omega),w64 (by omega),Int.toNat_natCast,rowG_set]
    simp only [sumI]
    congr 4
    refine rowG_congr fun j hj=>?_
    by_cases e:j=k
    ·subst e; simp
    ·rw [if_neg e]
     by_cases e2:j < k
     ·rw [if_pos e2,if_pos (by omega)]
     ·rw [if_neg e2,if_neg (by omega)]
   ·unfold g_ref05_row_b0
    simp only
    rw [if_neg (by simp)]
    congr 3
    exact rowG_congr fun j hj=>if_pos hj
 obtain ⟨o,ho,h0⟩:=hb0
 obtain ⟨S,hS⟩:=sumN_cast (n:=c) (f:=o)
 let q:Nat → Nat := fun x=>g*o x / S
 have hq:∀x,o x=0→q x=0:=fun x h=>by show g*o x / S=0; rw [h]; simp
 have hSb:S≤32:=by
  have:∀k,sumI k (fun x=>(o x:Int))≤8*k:=by
   intro k
   induction k with
   | zero=>simp [sumI]
   | succ k ih=>simp only [sumI]; have:=ho k; omega
  have:=this c
  omega
 have hpart:∀k,k≤c→0≤sumI k (fun x=>(q x:Int))∧sumI k (fun x=>(q x:Int))≤g:=fun k hk=>by
  refine ⟨sumI_nonneg fun _ _=>Int.natCast_nonneg _,Int.le_trans (sum_part_le (fun _ _=>Int.natCast_nonneg _) hk) ?_⟩
  by_cases h:S=0
  ·have:∀x,q x=0:=fun x=>by show g*o x / S=0; rw [h]; simp
   rw [sumI_congr (g:=fun _=>0) (fun x _=>by rw [this]; rfl),sumI_zero]; omega
  ·have h1:=sum_div_le (g:=g) (S:=S) (by omega) c o
   rw [hS] at h1
   have h2:sumI c (fun x=>(q x:Int))*(S:Int)≤(g:Int)*(S:Int):=h1
   exact Int.le_of_mul_le_mul_right h2 (by omega)
 have hb1:=whileN_ex (body:=g_ref05_row_b1 (c:Int) (sumI c (fun x=>(o x:Int)),rowG c fun x=>(o x:Int)) (g:Int))
  (fun s=>∃k last:Nat,k≤c∧last < c∧s=((g:Int) - sumI k (fun x=>(q x:Int)),(last:Int),(k:Int),rowG c fun j=>if j < k then (q j:Int) else (o j:Int)))
  (fun s=>c - s.2.2.1.toNat)
  (fun r=>∃last:Nat,last < c∧r=((g:Int) - sumI c (fun x=>(q x:Int)),(last:Int),rowG c fun j=>(q j:Int)))
  (fun s hs=>?_) ((g:Int),(0:Int),(0:Int),rowG c fun x=>(o x:Int)) ⟨0,0,by omega,by omega,by simp [sumI]⟩ (by simp; omega)
 ·obtain ⟨r,h1,last,hlast,rfl⟩:=hb1
  have hp:=hpart c (Nat.le_refl _)
  obtain ⟨left,hleft⟩:=Int.eq_ofNat_of_zero_le (show 0≤(g:Int) - sumI c (fun x=>(q x:Int)) by omega)
  refine ⟨fun x=>q x+if last=x then left else 0,?_,?_⟩
  ·unfold g_ref05_row
   rw [if_pos (by omega),Int.toNat_natCast,rowG_rep,h0]
   simp only [Option.bind_some]
   rw [h1]
   simp only [Option.bind_some]
   rw [rowG_get hlast]
   simp only [Option.bind_some]
   have hql:(q last:Int)≤g:=by
    have e:=sum_part_le (n:=c) (k:=last+1) (f:=fun x=>(q x:Int)) (fun _ _=>Int.natCast_nonneg _) (by omega)
    have e2:=(hpart last (by omega)).1
    simp only [sumI] at e
    omega
   rw [hleft,w64 (by omega),Int.toNat_natCast,rowG_set]
   congr 1
   refine rowG_congr fun x hx=>?_
   by_cases e:x=last
   ·subst e; simp
   ·rw [if_neg e,if_neg (Ne.symm e)]; simp
  ·have e:(fun x=>((q x+if last=x then left else 0:Nat):Int))=fun x=>(q x:Int)+if last=x then (left:Int) else 0:=by
    funext x; split <;> simp
   rw [e,sumI_add,sumI_one hlast]
   have:(left:Int)=(g:Int) - sumI c (fun x=>(q x:Int)):=hleft.symm
   omega
 ·obtain ⟨k,last,hk,hlast,rfl⟩:=hs
  unfold g_ref05_row_b1
  simp only
  by_cases hkc:k < c
  ·left
   have hp1:=hpart k hk
   have hp2:=hpart (k+1) hkc
   have e1:sumI (k+1) (fun x=>(q x:Int))=sumI k (fun x=>(q x:Int))+(q k:Int):=rfl
   rw [if_pos (by simpa using hkc),rowG_get hkc]
   simp only [Option.bind_some,Nat.lt_irrefl,if_false]
   have ek:IntKind.i64.wrap ((k:Int)+1)=((k+1:Nat):Int):=by rw [w64 (by omega)]; omega
   by_cases ho0:o k=0
   ·rw [if_neg (by simp [ho0]),ek,ho0,w64 (by omega)]
    refine ⟨_,rfl,⟨k+1,last,hkc,hlast,?_⟩,by simp; omega⟩
    rw [e1,hq k ho0]
    congr 1
    ·simp
    ·congr 2
     refine rowG_congr fun j hj=>?_
     by_cases e:j=k
     ·subst e; simp [ho0,hq]
     ·by_cases e2:j < k
      ·rw [if_pos e2,if_pos (by omega)]
      ·rw [if_neg e2,if_neg (by omega)]
   ·have hSpos:S≠0:=by
     intro h
     have:=sum_part_le (n:=c) (k:=k+1) (f:=fun x=>(o x:Int)) (fun _ _=>Int.natCast_nonneg _) hkc
     have h2:0≤sumI k (fun x=>(o x:Int)):=sumI_nonneg fun _ _=>Int.natCast_nonneg _
     simp only [sumI] at this
     omega
    have hok:=ho k
    have hm:g*o k≤60*8:=Nat.mul_le_mul hg (by omega)
    have e2:IntKind.i64.wrap (Int.tdiv (IntKind.i64.wrap ((g:Int)*(o k:Int))) (sumI c (fun x=>(o x:Int))))=(q k:Int):=by
     have e3:(g:Int)*(o k:Int)=((g*o k:Nat):Int):=by simp
     have hd:g*o k / S≤g*o k:=Nat.div_le_self _ _
     have w1:IntKind.i64.wrap ((g*o k:Nat):Int)=((g*o k:Nat):Int):=w64 (by omega)
     rw [e3,w1,hS,tdiv_pos (Int.natCast_nonneg _),show ((g*o k:Nat):Int) / (S:Int)=((g*o k / S:Nat):Int) by simp]
     show IntKind.i64.wrap ((g*o k / S:Nat):Int)=((g*o k / S:Nat):Int)
     obtain ⟨z,hz⟩:∃z,g*o k / S=z:=⟨_,rfl⟩
     rw [hz] at hd ⊢
     exact w64 (by omega)
    rw [if_pos (by simp; omega),if_pos (by rw [hS]; omega),e2,ek,Int.toNat_natCast,rowG_set,w64 (by omega)]
    refine ⟨_,rfl,⟨k+1,k,hkc,hkc,?_⟩,by simp; omega⟩
    rw [e1]
    congr 1
    ·omega
    ·congr 2
     refine rowG_congr fun j hj=>?_
     by_cases e:j=k
     ·subst e; simp
     ·rw [if_neg e]
      by_cases e2:j < k
      ·rw [if_pos e2,if_pos (by omega)]
      ·rw [if_neg e2,if_neg (by omega)]
  ·right
   have:k=c:=by omega
   subst this
   rw [if_neg (by simp)]
   refine ⟨_,rfl,last,hlast,?_⟩
   congr 2
   exact rowG_congr fun j hj=>if_pos hj
theorem pcards2 {n:Nat} (hn:n≤5) {w:Int} {o:List Int}:g_ref02_Draft_Cards ⟨List.replicate n (0:Int),w,o⟩=some (List.replicate n 1):=by
 unfold g_ref02_Draft_Cards
 refine bind_run (whileN_run (s0:=((0:Int),([]:List Int))) (r:=List.replicate n 1) (fun k=>((k:Int),List.replicate k (1:Int))) n rfl (fun k hk=>?_) ?_ (by omega)) rfl
 ·unfold g_ref02_Draft_Cards_b0
  simp only
  rw [if_pos (by simp; omega),if_pos (by simp; omega),lkI_nat (by simpa using hk)]
  simp only [Option.bind_some,List.getElem_replicate]
  have e:IntKind.i64.wrap (1+IntKind.i64.wrap (Int.tmod 0 4))=1:=by decide
  rw [e,if_pos (by simp; omega),w64 (by omega),←List.replicate_succ']
  rfl
 ·unfold g_ref02_Draft_Cards_b0
  simp only
  rw [if_neg (by simp)]
theorem insert_nodup {q:List Nat} {k a:Nat} (h:q.Nodup) (hk:∀x∈q,x < k):(q.take a++[k]++q.drop a).Nodup∧∀x∈q.take a++[k]++q.drop a,x < k+1:=by
 have hperm:(q.take a++[k]++q.drop a).Perm (k::q):=by
  have h1:(q.take a++[k]++q.drop a).Perm ([k]++q.take a++q.drop a):=List.Perm.append_right _ List.perm_append_comm
  have h2:[k]++q.take a++q.drop a=k::q:=by simp
  rw [h2] at h1
  exact h1
 refine ⟨?_,fun x hx=>?_⟩
 ·rw [hperm.nodup_iff,List.nodup_cons]
  exact ⟨fun hm=>Nat.lt_irrefl _ (hk k hm),h⟩
 ·have:=hperm.mem_iff.1 hx
  rcases List.mem_cons.1 this with e | e
  ·omega
  ·have:=hk x e; omega
theorem perm_spec {n:Nat} (hn:n≤5) {o:List Int} (ho:∀x∈o,0≤x∧x≤255) :
  ∃q:List Nat,q.Nodup∧(∀x∈q,x < n)∧q.length=n∧g_ref02_Draft_Permutation ⟨List.replicate n (0:Int),0,o⟩=some (q.map fun (x:Nat)=>(x:Int)):=by
 have hw:=whileN_ex (body:=g_ref02_Draft_Permutation_b0 ⟨List.replicate n (0:Int),0,o⟩) (fun s=>∃q:List Nat,q.Nodup∧(∀x∈q,x < q.length)∧q.length≤n∧s=((q.length:Int),q.map fun (x:Nat)=>(x:Int)))
  (fun s=>n - s.1.toNat) (fun r=>∃q:List Nat,q.Nodup∧(∀x∈q,x < n)∧q.length=n∧r=q.map fun (x:Nat)=>(x:Int)) (fun s hs=>?_) ((0:Int),([]:List Int)) ⟨[],List.nodup_nil,fun x hx=>by simp at hx,by simp,rfl⟩ (by simp; omega)
 ·obtain ⟨r,h1,q,h2,h3,h4,rfl⟩:=hw
  refine ⟨q,h2,h3,h4,?_⟩
  unfold g_ref02_Draft_Permutation
  rw [h1]; rfl
 ·obtain ⟨q,hnd,hx,hl,rfl⟩:=hs
  unfold g_ref02_Draft_Permutation_b0
  rw [pcards2 hn]
  simp only [Option.bind_some,List.length_replicate,List.length_map]
  by_cases hc:q.length < n
  ·left
   rw [if_pos (by simpa using hc)]
   have ek:IntKind.i64.wrap ((q.length:Int)+1)=((q.length+1:Nat):Int):=by rw [w64 (by omega)]; omega
   have ins:∀a:Nat,a≤q.length→∃s',s'=((((q.take a++[q.length]++q.drop a).length:Nat):Int),(q.take a++[q.length]++q.drop a).map fun (x:Nat)=>(x:Int)) ∧
     (∃q:List Nat,q.Nodup∧(∀x∈q,x < q.length)∧q.length≤n∧s'=((q.length:Int),q.map fun (x:Nat)=>(x:Int)))∧n - s'.1.toNat < n - ((q.length:Int)).toNat := fun a ha=>by
    obtain ⟨i1,i2⟩:=insert_nodup (a:=a) hnd hx
    have hlen:(q.take a++[q.length]++q.drop a).length=q.length+1:=by simp; omega
    exact ⟨_,rfl,⟨_,i1,fun x hx=>by rw [hlen]; exact i2 x hx,by rw [hlen]; omega,rfl⟩,by simp only [hlen]; simp; omega⟩
   have hsub:∀a:Nat,a≤q.length→sub (q.map fun (x:Nat)=>(x:Int)) 0 (a:Int)=(q.take a).map (fun (x:Nat)=>(x:Int))∧sub (q.map fun (x:Nat)=>(x:Int)) (a:Int) (q.length:Int)=(q.drop a).map (fun (x:Nat)=>(x:Int)):=fun a ha=>by
    unfold sub
    refine ⟨by simp,?_⟩
    simp only [Int.toNat_natCast]
    rw [List.take_of_length_le (by simp),List.map_drop]
   by_cases ho':q.length < o.length
   ·rw [if_pos (by simpa using ho'),lkI_nat ho']
    simp only [Option.bind_some]
    have hv:=ho _ (List.getElem_mem ho')
    obtain ⟨a,ha,hae⟩:∃a:Nat,a≤q.length∧Int.tmod (IntKind.i64.wrap o[q.length]) ((q.length+1:Nat):Int)=(a:Int):=by
     refine ⟨(o[q.length]).toNat % (q.length+1),by have:=Nat.mod_lt (o[q.length]).toNat (show 0 < q.length+1 by omega); omega,?_⟩
     rw [w64 (by omega),tmod_pos hv.1]
     rw [Int.natCast_emod,Int.toNat_of_nonneg hv.1]
    obtain ⟨s',hs',h1,h2⟩:=ins a ha
    refine ⟨s',?_,h1,by simpa using h2⟩
    rw [ek,if_pos (by omega),hae,if_pos (by omega),(hsub a ha).1,if_pos (by simp; omega),if_pos (by simp; omega),if_pos (by omega),(hsub a ha).2,if_pos (by simp; omega),hs']
    simp
    omega
   ·rw [if_neg (by simpa using ho')]
    obtain ⟨s',hs',h1,h2⟩:=ins 0 (by omega)
    refine ⟨s',?_,h1,by simpa using h2⟩
    have hz:=hsub 0 (by omega)
    rw [ek,if_pos (by omega),show sub (q.map fun (x:Nat)=>(x:Int)) 0 0=(q.take 0).map (fun (x:Nat)=>(x:Int)) from hz.1,if_pos (by simp),if_pos (by simp),if_pos (by omega),show sub (q.map fun (x:Nat)=>(x:Int)) 0 (q.length:Int)=(q.drop 0).map (fun (x:Nat)=>(x:Int)) from hz.2,if_pos (by simp; omega),hs']
    simp
  ·right
   rw [if_neg (by simpa using hc)]
   exact ⟨_,rfl,q,hnd,fun x hm=>by have:=hx x hm; omega,by omega,rfl⟩
end Go.Ab
namespace Go.Ab
open Go
theorem u64_nonneg {x:Int}:0≤IntKind.u64.wrap x:=by simp only [IntKind.wrap,IntKind.bits,IntKind.signed]; simp; omega
theorem perm_all {n:Nat} {q:List Nat} (hn:q.Nodup) (hl:∀x∈q,x < n) (hlen:q.length=n):∀v,v < n→v∈q:=fun v hv=>by
 apply Classical.byContradiction
 intro hno
 have h1:(v::q).Nodup:=List.nodup_cons.2 ⟨hno,hn⟩
 have h2:(v::q) ⊆ List.range n:=fun p hp=>by
  rcases List.mem_cons.1 hp with e | e
  ·subst e; exact List.mem_range.2 hv
  ·exact List.mem_range.2 (hl p e)
 have:=nodup_len _ _ h1 h2
 simp at this
 omega
theorem take_mem {q:List Nat} {i:Nat} (hi:i < q.length) {v:Nat}:v∈q.take (i+1)↔v∈q.take i∨v=q[i]:=by
 rw [take_succ' hi,List.mem_append,List.mem_singleton]
theorem take_not {q:List Nat} (hn:q.Nodup) {i:Nat} (hi:i < q.length):q[i] ∉ q.take i:=fun h=>by
 obtain ⟨k,hk,e⟩:=List.mem_iff_getElem.1 h
 rw [List.length_take] at hk
 rw [List.getElem_take] at e
 have:=List.pairwise_iff_getElem.1 hn k i (by omega) hi (by omega)
 exact this e
theorem idx_take:∀{q:List Nat} {p j:Nat},p∈q.take j→q.idxOf p < j
 | [],p,j,h=>by simp at h
 | x::q,p,0,h=>by simp at h
 | x::q,p,j+1,h=>by
  rw [List.idxOf_cons]
  by_cases e:x=p
  ·subst e; simp
  ·have:p∈q.take j:=by
    rcases List.mem_cons.1 h with e' | e'
    ·exact absurd e'.symm e
    ·exact e'
   have:=idx_take this
   rw [show (x==p)=false by simpa using e]
   simp; omega
theorem idxOf_le {q:List Nat} (hn:q.Nodup) {j:Nat} (hj:j < q.length):j≤q.idxOf q[j]:=by
 apply Classical.byContradiction
 intro h
 have hk:q.idxOf q[j] < q.length:=by omega
 have e:q[q.idxOf q[j]]=q[j]:=List.getElem_idxOf hk
 have:=List.pairwise_iff_getElem.1 hn (q.idxOf q[j]) j hk hj (by omega)
 exact this e
def cnt (p0:Tharuspexref05_Draft):Nat := min (max p0.Nodes.length 1) 5
theorem cnt_eq {p0:Tharuspexref05_Draft}:(if 5 < (if 1 > (p0.Nodes.length:Int) then 1 else (p0.Nodes.length:Int)) then 5 else (if 1 > (p0.Nodes.length:Int) then 1 else (p0.Nodes.length:Int)))=(cnt p0:Int):=by
 unfold cnt
 split <;> split at * <;> omega
theorem cnt_le {p0:Tharuspexref05_Draft}:1≤cnt p0∧cnt p0≤5:=by unfold cnt; omega
structure DrOk (p0:Tharuspexref05_Draft):Prop where
 grain:0≤p0.Grain∧p0.Grain≤255
 order:∀x∈p0.Order,0≤x∧x≤255
 card:∀p∈p0.Nodes,0≤p.Card∧p.Card≤255
 W:∀p∈p0.Nodes,∀x∈p.W,0≤x∧x≤255
 Wl:∀p∈p0.Nodes,p.W.length≤9223372036854775807
section
variable {p0:Tharuspexref05_Draft} {q:List Nat}
theorem qget {i:Nat} (hi:i < q.length):lkI (q.map fun (x:Nat)=>(x:Int)) (i:Int)=some ((q[i]:Nat):Int):=by rw [lkI_nat (by simpa using hi)]; simp
theorem net_b0 (h:DrOk p0) (hn:q.Nodup) (hl:∀x∈q,x < cnt p0) (hlen:q.length=cnt p0) :
  ∃C:Nat → Nat,(∀v,v < cnt p0→2≤C v∧C v≤3) ∧
   whileN fuel (g_ref05_Draft_Net_b0 p0 (q.map fun (x:Nat)=>(x:Int))) (1,0,List.replicate (cnt p0) (Sum.inl 0))=some (rowG (cnt p0) fun v=>Sum.inl (C v:Int)):=by
 have hcn:=cnt_le (p0:=p0)
 have hw:=whileN_ex (body:=g_ref05_Draft_Net_b0 p0 (q.map fun (x:Nat)=>(x:Int)))
  (fun s=>∃(w:Int) (i:Nat) (C:Nat → Nat),i≤cnt p0∧(∀v,v∈q.take i→2≤C v∧C v≤3)∧s=(w,(i:Int),rowG (cnt p0) fun v=>Sum.inl (C v:Int)))
  (fun s=>cnt p0 - s.2.1.toNat)
  (fun r=>∃C:Nat → Nat,(∀v,v < cnt p0→2≤C v∧C v≤3)∧r=rowG (cnt p0) fun v=>Sum.inl (C v:Int))
  (fun s hs=>?_) (1,0,List.replicate (cnt p0) (Sum.inl 0)) ⟨1,0,fun _=>0,by omega,fun v hv=>by simp at hv,by rw [rowG_rep]; rfl⟩ (by simp; omega)
 ·obtain ⟨r,h1,C,h2,rfl⟩:=hw
  exact ⟨C,h2,h1⟩
 ·obtain ⟨w,i,C,hi,hC,rfl⟩:=hs
  by_cases hic:i < cnt p0
  ·left
   have hiq:i < q.length:=by omega
   have hv:=hl _ (List.getElem_mem hiq)
   have ek:IntKind.i64.wrap ((i:Int)+1)=((i+1:Nat):Int):=by rw [w64 (by omega)]; omega
   have leaf:∀(w':Int) (c:Nat),2≤c→c≤3→(∃s',some (Step.next (w',IntKind.i64.wrap ((i:Int)+1),List.set (rowG (cnt p0) fun v=>(Sum.inl (C v:Int):Int ⊕ Tapi_Node)) (Int.toNat ((q[i]:Nat):Int)) (Sum.inl (c:Int))))=some (Step.next (ρ:=List (Int ⊕ Tapi_Node)) s') ∧
     (∃(w:Int) (i:Nat) (C:Nat → Nat),i≤cnt p0∧(∀v,v∈q.take i→2≤C v∧C v≤3)∧s'=(w,(i:Int),rowG (cnt p0) fun v=>Sum.inl (C v:Int)))∧cnt p0 - s'.2.1.toNat < cnt p0 - (i:Int).toNat):=fun w' c c1 c2=>by
    rw [ek]
    refine ⟨_,rfl,⟨w',i+1,upd C q[i] c,hic,fun v hv=>?_,?_⟩,by simp; omega⟩
    ·rcases (take_mem hiq).1 hv with e | e
     ·by_cases e2:v=q[i]
      ·subst e2; rw [upd_same]; exact ⟨c1,c2⟩
      ·rw [upd_ne e2]; exact hC v e
     ·subst e; rw [upd_same]; exact ⟨c1,c2⟩
    ·rw [Int.toNat_natCast,rowG_set]
     congr 2
     refine rowG_congr fun k hk=>?_
     by_cases e:k=q[i]
     ·rw [if_pos e,e,upd_same]
     ·rw [if_neg e,upd_ne e]
   have hk:lkL (rowG (cnt p0) fun v=>(Sum.inl (C v:Int):Int ⊕ Tapi_Node)) ((q[i]:Nat):Int)=some (C q[i]:Int):=by unfold lkL; rw [rowG_get hv]; rfl
   unfold g_ref05_Draft_Net_b0
   simp only [cnt_eq]
   rw [if_pos (by simpa using hic)]
   by_cases hin:i < p0.Nodes.length
   ·have hp:=h.card _ (List.getElem_mem hin)
    have ec:IntKind.i64.wrap (2+IntKind.i64.wrap (Int.tmod (p0.Nodes[i]).Card 2))=((2+(p0.Nodes[i]).Card.toNat % 2:Nat):Int):=by
     have w1:IntKind.i64.wrap ((p0.Nodes[i]).Card % 2)=(p0.Nodes[i]).Card % 2:=w64 (by omega)
     rw [tmod_pos hp.1,w1,w64 (by omega)]; omega
    rw [if_pos (by simpa using hin),lkI_nat hin]
    simp only [Option.bind_some]
    rw [if_pos u64_nonneg]
    split
    ·rw [qget hiq]
     simp only [Option.bind_some]
     rw [hk]
     exact leaf _ 2 (by omega) (by omega)
    ·rw [qget hiq]
     simp only [Option.bind_some]
     rw [hk]
     simp only [Option.bind_some]
     rw [ec]
     exact leaf _ _ (by omega) (by omega)
   ·rw [if_neg (by simpa using hin),if_pos u64_nonneg]
    split
    ·rw [qget hiq]
     simp only [Option.bind_some]
     rw [hk]
     exact leaf _ 2 (by omega) (by omega)
    ·rw [qget hiq]
     simp only [Option.bind_some]
     rw [hk]
     simp only [Option.bind_some]
     exact leaf _ 2 (by omega) (by omega)
  ·right
   have:i=cnt p0:=by omega
   subst this
   unfold g_ref05_Draft_Net_b0
   simp only [cnt_eq]
   rw [if_neg (by simp)]
   refine ⟨_,rfl,C,fun v hv=>hC v ?_,rfl⟩
   rw [List.take_of_length_le (by omega)]
   exact perm_all hn hl hlen v hv
theorem net_b1 (hn:q.Nodup) {L:List (Int ⊕ Tapi_Node)} {i u:Nat} {P:List Nat} {pc:Tharuspexref05_Piece} (hi:i < q.length) (hq:q.length≤5) :
  ∃P':List Nat,(P'=P∨(P'=P++[u]∧u∈q.take i∧P.length < 3)) ∧
   whileN fuel (g_ref05_Draft_Net_b1 ((i:Int),L) (q.map fun (x:Nat)=>(x:Int)) ((u:Int),P.map fun (x:Nat)=>(x:Int)) pc) (0,P.map fun (x:Nat)=>(x:Int))=some (P'.map fun (x:Nat)=>(x:Int)):=by
 have hw:=whileN_ex (body:=g_ref05_Draft_Net_b1 ((i:Int),L) (q.map fun (x:Nat)=>(x:Int)) ((u:Int),P.map fun (x:Nat)=>(x:Int)) pc)
  (fun s=>∃(k:Nat) (P':List Nat),k≤i∧(P'=P∨(P'=P++[u]∧u∈q.take k∧P.length < 3))∧s=((k:Int),P'.map fun (x:Nat)=>(x:Int)))
  (fun s=>i - s.1.toNat) (fun r=>∃P':List Nat,(P'=P∨(P'=P++[u]∧u∈q.take i∧P.length < 3))∧r=P'.map fun (x:Nat)=>(x:Int))
  (fun s hs=>?_) ((0:Int),P.map fun (x:Nat)=>(x:Int)) ⟨0,P,by omega,.inl rfl,rfl⟩ (by simp; omega)
 ·obtain ⟨r,h1,P',h2,rfl⟩:=hw
  exact ⟨P',h2,h1⟩
 ·obtain ⟨k,P',hk,hP,rfl⟩:=hs
  by_cases hki:k < i
  ·left
   have hkq:k < q.length:=by omega
   have ek:IntKind.i64.wrap ((k:Int)+1)=((k+1:Nat):Int):=by rw [w64 (by omega)]; omega
   have same:∃s',some (Step.next (IntKind.i64.wrap ((k:Int)+1),P'.map fun (x:Nat)=>(x:Int)))=some (Step.next (ρ:=List Int) s') ∧
     (∃(k:Nat) (P':List Nat),k≤i∧(P'=P∨(P'=P++[u]∧u∈q.take k∧P.length < 3))∧s'=((k:Int),P'.map fun (x:Nat)=>(x:Int)))∧i - s'.1.toNat < i - (k:Int).toNat := by
    rw [ek]
    exact ⟨_,rfl,⟨k+1,P',hki,hP.imp id fun h=>⟨h.1,(take_mem hkq).2 (.inl h.2.1),h.2.2⟩,rfl⟩,by simp; omega⟩
   unfold g_ref05_Draft_Net_b1
   simp only
   rw [if_pos (by simpa using hki),qget hkq]
   simp only [Option.bind_some]
   by_cases hqu:q[k]=u
   ·rw [if_pos (by simp [hqu]),if_pos u64_nonneg]
    have hPP:P'=P:=by
     rcases hP with e | ⟨_,e,_⟩
     ·exact e
     ·exact absurd (hqu ▸ e) (take_not hn hkq)
    subst hPP
    split
    ·split
     ·rename_i h3
      have h3':P'.length < 3:=by simp at h3; omega
      rw [if_pos (by simp; omega),ek]
      exact ⟨_,rfl,⟨k+1,P'++[u],hki,.inr ⟨rfl,(take_mem hkq).2 (.inr hqu.symm),h3'⟩,by simp⟩,by simp; omega⟩
     ·exact same
    ·exact same
   ·rw [if_neg (by simpa using (fun e:((q[k]:Nat):Int)=(u:Int)=>hqu (by omega)))]
    exact same
  ·right
   have:k=i:=by omega
   subst this
   unfold g_ref05_Draft_Net_b1
   simp only
   rw [if_neg (by simp)]
   exact ⟨_,rfl,P',hP,rfl⟩
theorem net_b2 (hn:q.Nodup) (hlen:q.length=cnt p0) {L:List (Int ⊕ Tapi_Node)} {i:Nat} {pc:Tharuspexref05_Piece} (hi:i < q.length) :
  ∃P:List Nat,P.Pairwise (· < ·)∧(∀p∈P,p∈q.take i)∧P.length≤3 ∧
   whileN fuel (g_ref05_Draft_Net_b2 p0 ((i:Int),L) (q.map fun (x:Nat)=>(x:Int)) pc) (0,[])=some (P.map fun (x:Nat)=>(x:Int)):=by
 have hcn:=cnt_le (p0:=p0)
 have hw:=whileN_ex (body:=g_ref05_Draft_Net_b2 p0 ((i:Int),L) (q.map fun (x:Nat)=>(x:Int)) pc)
  (fun s=>∃(u:Nat) (P:List Nat),u≤cnt p0∧P.Pairwise (· < ·)∧(∀p∈P,p < u∧p∈q.take i)∧P.length≤3∧s=((u:Int),P.map fun (x:Nat)=>(x:Int)))
  (fun s=>cnt p0 - s.1.toNat) (fun r=>∃P:List Nat,P.Pairwise (· < ·)∧(∀p∈P,p∈q.take i)∧P.length≤3∧r=P.map fun (x:Nat)=>(x:Int))
  (fun s hs=>?_) ((0:Int),([]:List Int)) ⟨0,[],by omega,List.Pairwise.nil,fun p hp=>by simp at hp,by simp,rfl⟩ (by simp; omega)
 ·obtain ⟨r,h1,P,h2,h3,h4,rfl⟩:=hw
  exact ⟨P,h2,h3,h4,h1⟩
 ·obtain ⟨u,P,hu,h2,h3,h4,rfl⟩:=hs
  unfold g_ref05_Draft_Net_b2
  simp only [cnt_eq]
  by_cases huc:u < cnt p0
  ·left
   obtain ⟨P',hP',hb⟩:=net_b1 hn (L:=L) (u:=u) (P:=P) (pc:=pc) hi (by omega)
   have ek:IntKind.i64.wrap ((u:Int)+1)=((u+1:Nat):Int):=by rw [w64 (by omega)]; omega
   rw [if_pos (by simpa using huc),hb]
   simp only [Option.bind_some]
   rw [ek]
   refine ⟨_,rfl,⟨u+1,P',huc,?_,?_,?_,rfl⟩,by simp; omega⟩
   ·rcases hP' with rfl | ⟨rfl,_,_⟩
    ·exact h2
    ·rw [List.pairwise_append]
     exact ⟨h2,List.pairwise_singleton _ _,fun a ha b hb=>by simp at hb; subst hb; exact (h3 a ha).1⟩
   ·rcases hP' with rfl | ⟨rfl,hm,_⟩
    ·exact fun p hp=>⟨by have:=(h3 p hp).1; omega,(h3 p hp).2⟩
    ·intro p hp
     rcases List.mem_append.1 hp with e | e
     ·exact ⟨by have:=(h3 p e).1; omega,(h3 p e).2⟩
     ·simp at e; subst e; exact ⟨by omega,hm⟩
   ·rcases hP' with rfl | ⟨rfl,_,hlt⟩
    ·exact h4
    ·simp; omega
  ·right
   rw [if_neg (by simpa using huc)]
   exact ⟨_,rfl,P,h2,fun p hp=>(h3 p hp).2,h4,rfl⟩
theorem cards_gen {n:Nat} {g:Int} {F:Nat → Tapi_Node} {C:Nat → Nat} (hF:∀v,v < n→(F v).Card=(C v:Int)) (hn:n≤8):g_ref05_Cards ⟨g,rowG n F⟩=some (rowI n C):=by
 unfold g_ref05_Cards
 refine bind_run (whileN_run (s0:=((0:Int),([]:List Int))) (r:=rowI n C) (fun k=>((k:Int),rowI k C)) n rfl (fun k hk=>?_) ?_ (by omega)) rfl
 ·unfold g_ref05_Cards_b0
  simp only
  rw [if_pos (by rw [rowG_len]; simpa using hk),rowG_get hk]
  simp only [Option.bind_some]
  rw [hF k hk,show rowI k C++[(C k:Int)]=rowI (k+1) C from rowG_succ,if_pos (by rw [rowI_len]; omega),w64 (by omega)]
  rfl
 ·unfold g_ref05_Cards_b0
  simp only
  rw [if_neg (by rw [rowG_len]; simp)]
theorem size_list {f:Nat → Nat} {l:List Nat} (hf:∀p∈l,f p≤4) (hl:l.length≤8):g_ref02_Size (l.map fun p=>(f p:Int))=some (lprod f l:Int):=by
 unfold g_ref02_Size
 refine bind_run (whileN_run (s0:=((1:Int),(0:Int))) (r:=(lprod f l:Int)) (fun k=>((lprod f (l.take k):Int),(k:Int))) l.length (by simp [lprod]) (fun k hk=>?_) ?_ (by omega)) rfl
 ·have h1:lprod f (l.take k)≤4^8:=Nat.le_trans (lprod_le fun p hp=>hf p (List.mem_of_mem_take hp)) (Nat.pow_le_pow_right (by omega) (by rw [List.length_take]; omega))
  have h2:=hf _ (List.getElem_mem hk)
  have h3:lprod f (l.take k)*f l[k]≤65536*4:=Nat.mul_le_mul (by omega) h2
  have e:(lprod f (l.take k):Int)*(f l[k]:Int)=((lprod f (l.take (k+1)):Nat):Int):=by rw [take_succ' hk,lprod_append]; simp
  have e2:lprod f (l.take (k+1))≤65536*4:=by rw [take_succ' hk,lprod_append]; exact h3
  unfold g_ref02_Size_b0
  simp only
  rw [if_pos (by simpa using hk),lkI_nat (by simpa using hk)]
  simp only [Option.bind_some,List.getElem_map]
  rw [e,w64 (by omega),w64 (by omega)]
  rfl
 ·unfold g_ref02_Size_b0
  simp only
  rw [if_neg (by simp),List.take_of_length_le (Nat.le_refl _)]
theorem co_set {n v:Nat} {N:Nat → Int ⊕ Tapi_Node} {x:Tapi_Node}:List.set (List.map coTapi_Node (rowG n N)) (Int.toNat (v:Int)) x=rowG n fun k=>if k=v then x else coTapi_Node (N k):=by
 rw [show List.map coTapi_Node (rowG n N)=rowG n (fun k=>coTapi_Node (N k)) by simp [rowG],Int.toNat_natCast,rowG_set]
theorem pcards_gen {n v:Nat} {g:Int} {N:Nat → Int ⊕ Tapi_Node} {C:Nat → Nat} {P:List Nat} {R:List (List Int)} (hN:∀k,k < n→(coTapi_Node (N k)).Card=(C k:Int)) (hn:n≤8) (hv:v < n) (hP:∀p∈P,p < n) (hl:P.length≤8) :
  g_ref05_ParentCards ⟨g,List.set (List.map coTapi_Node (rowG n N)) (Int.toNat (v:Int)) ⟨(C v:Int),P.map (fun (x:Nat)=>(x:Int)),R⟩⟩ (v:Int)=some (P.map fun p=>(C p:Int)):=by
 unfold g_ref05_ParentCards
 rw [co_set,cards_gen (C:=C) (fun k hk=>?_) hn]
 ·simp only [Option.bind_some]
  rw [rowG_get hv]
  simp only [Option.bind_some,if_true]
  rw [at_eq hP hl]
  rfl
 ·by_cases e:k=v
  ·subst e; rw [if_pos rfl]
  ·rw [if_neg e]; exact hN k hk
theorem net_b3 {g c v i:Nat} {N:Nat → Int ⊕ Tapi_Node} {C:Nat → Nat} {P:List Nat} {pc:Tharuspexref05_Piece} (hg:IntKind.i64.wrap (1+(IntKind.i64.wrap (Int.tmod p0.Grain 60)))=(g:Int)) (hg60:g≤60)
  (hC:∀k,k < cnt p0→2≤C k∧C k≤3) (hN:∀k,k < cnt p0→(coTapi_Node (N k)).Card=(C k:Int)) (hv:v < cnt p0) (hP:∀p∈P,p < cnt p0) (hl:P.length≤3)
  (hW:∀x∈pc.W,0≤x∧x≤255) (hWl:pc.W.length≤9223372036854775807) :
  ∃W:Nat → Nat → Nat,(∀r,r < lprod C P→sumI (C v) (fun x=>(W r x:Int))=g) ∧
   whileN fuel (g_ref05_Draft_Net_b3 p0 ((i:Int),rowG (cnt p0) N) (v:Int) (C v:Int) (P.map fun (x:Nat)=>(x:Int)) pc) (0,[])=some (rowG (lprod C P) fun r=>rowG (C v) fun x=>(W r x:Int)):=by
 have hcn:=cnt_le (p0:=p0)
 have hcv:=hC v hv
 have hsz:=size_list (f:=C) (l:=P) (fun p hp=>by have:=hC p (hP p hp); omega) (by omega)
 have hb:lprod C P≤64:=Nat.le_trans (lprod_le fun p hp=>by have:=hC p (hP p hp); omega) (Nat.pow_le_pow_right (by omega) hl:4^P.length≤4^3)
 have hw:=whileN_ex (body:=g_ref05_Draft_Net_b3 p0 ((i:Int),rowG (cnt p0) N) (v:Int) (C v:Int) (P.map fun (x:Nat)=>(x:Int)) pc)
  (fun s=>∃(r:Nat) (W:Nat → Nat → Nat),r≤lprod C P∧(∀r',r' < r→sumI (C v) (fun x=>(W r' x:Int))=g)∧s=((r:Int),rowG r fun r=>rowG (C v) fun x=>(W r x:Int)))
  (fun s=>lprod C P - s.1.toNat) (fun o=>∃W:Nat → Nat → Nat,(∀r,r < lprod C P→sumI (C v) (fun x=>(W r x:Int))=g)∧o=rowG (lprod C P) fun r=>rowG (C v) fun x=>(W r x:Int))
  (fun s hs=>?_) ((0:Int),([]:List (List Int))) ⟨0,fun _ _=>0,by omega,fun r hr=>by omega,rfl⟩ (by simp; omega)
 ·obtain ⟨o,h1,W,h2,rfl⟩:=hw
  exact ⟨W,h2,h1⟩
 ·obtain ⟨r,W,hr,hS,rfl⟩:=hs
  unfold g_ref05_Draft_Net_b3
  simp only
  rw [pcards_gen hN (by omega) hv hP (by omega)]
  simp only [Option.bind_some]
  rw [hsz]
  simp only [Option.bind_some]
  by_cases hrs:r < lprod C P
  ·left
   have hm:r*(C v+1)≤64*4:=Nat.mul_le_mul (by omega) (by omega)
   have ef:IntKind.i64.wrap ((r:Int)*IntKind.i64.wrap ((C v:Int)+1))=((r*(C v+1):Nat):Int):=by
    have w1:IntKind.i64.wrap ((C v:Int)+1)=((C v+1:Nat):Int):=by rw [w64 (by omega)]; omega
    have e3:(r:Int)*((C v+1:Nat):Int)=((r*(C v+1):Nat):Int):=by simp
    rw [w1,e3]
    exact w64 (by omega)
   obtain ⟨f,hf,hfs⟩:=row_spec (g:=g) (c:=C v) (l:=pc.W) (fr:=r*(C v+1)) hg60 (by omega) (by omega) hW hWl (by omega)
   have ek:IntKind.i64.wrap ((r:Int)+1)=((r+1:Nat):Int):=by rw [w64 (by omega)]; omega
   rw [if_pos (by simpa using hrs),hg,ef,hf]
   simp only [Option.bind_some]
   rw [if_pos (by simp [rowG_len]; omega),ek]
   have e:(rowG r fun r=>rowG (C v) fun x=>(W r x:Int))++[rowG (C v) fun x=>(f x:Int)]=rowG (r+1) fun r'=>rowG (C v) fun x=>((upd W r f) r' x:Int):=by
    rw [←rowG_succ,upd_same]
    congr 1
    exact rowG_congr fun k hk=>by rw [upd_ne (by omega)]
   refine ⟨_,rfl,⟨r+1,upd W r f,hrs,fun r' hr'=>?_,by rw [e]⟩,by simp; omega⟩
   by_cases e2:r'=r
   ·subst e2; rw [upd_same]; exact hfs
   ·rw [upd_ne e2]; exact hS r' (by omega)
  ·right
   have:r=lprod C P:=by omega
   subst this
   rw [if_neg (by simp)]
   exact ⟨_,rfl,W,hS,rfl⟩
theorem b5_b2 {s:Int × List (Int ⊕ Tapi_Node)} {x1:List Int}:g_ref05_Draft_Net_b5 p0 s x1=g_ref05_Draft_Net_b2 p0 s x1 ⟨0,0,[]⟩:=rfl
theorem alr_row {n:Nat} {F:Nat → Tapi_Node}:alr (rowG n fun v=>(Sum.inr (F v):Int ⊕ Tapi_Node))=some (rowG n F):=by
 have:∀l:List Nat,alr (l.map fun v=>(Sum.inr (F v):Int ⊕ Tapi_Node))=some (l.map F):=by
  intro l
  induction l with
  | nil=>rfl
  | cons x l ih=>simp only [List.map_cons,alr,ih,Option.map_some]
 exact this _
def GdF (D:NF) (q:List Nat) (j:Nat) (v:Nat):Prop:=(D.par v).Pairwise (· < ·)∧(∀p∈D.par v,p∈q.take j)∧(D.par v).length≤3∧∀r,r < D.rows v→sumI (D.card v) (fun x=>(D.W v r x:Int))=D.g
theorem net_b7 (h:DrOk p0) (hn:q.Nodup) (hl:∀x∈q,x < cnt p0) (hlen:q.length=cnt p0) {g:Nat} (hg:IntKind.i64.wrap (1+(IntKind.i64.wrap (Int.tmod p0.Grain 60)))=(g:Int)) (hg60:g≤60)
  {C:Nat → Nat} (hC:∀k,k < cnt p0→2≤C k∧C k≤3) :
  ∃(P:Nat → List Nat) (W:Nat → Nat → Nat → Nat),(∀j (hj:j < q.length),GdF ⟨cnt p0,g,C,P,W⟩ q j q[j]) ∧
   whileN fuel (g_ref05_Draft_Net_b7 p0 (q.map fun (x:Nat)=>(x:Int))) (0,rowG (cnt p0) fun v=>Sum.inl (C v:Int))=some (rowG (cnt p0) fun v=>Sum.inr ((NF.mk (cnt p0) g C P W).node v)):=by
 have hcn:=cnt_le (p0:=p0)
 let N:Nat → (Nat → List Nat)→(Nat → Nat → Nat → Nat)→Nat → Int ⊕ Tapi_Node:=fun i P W v=>if v∈q.take i then Sum.inr ((NF.mk (cnt p0) g C P W).node v) else Sum.inl (C v:Int)
 have hNco:∀i P W k,(coTapi_Node (N i P W k)).Card=(C k:Int):=fun i P W k=>by
  show (coTapi_Node (if k∈q.take i then Sum.inr ((NF.mk (cnt p0) g C P W).node k) else Sum.inl (C k:Int))).Card=_
  split <;> rfl
 have hw:=whileN_ex (body:=g_ref05_Draft_Net_b7 p0 (q.map fun (x:Nat)=>(x:Int)))
  (fun s=>∃(i:Nat) (P:Nat → List Nat) (W:Nat → Nat → Nat → Nat),i≤cnt p0∧(∀j (hj:j < q.length),j < i→GdF ⟨cnt p0,g,C,P,W⟩ q j q[j])∧s=((i:Int),rowG (cnt p0) (N i P W)))
  (fun s=>cnt p0 - s.1.toNat)
  (fun o=>∃(P:Nat → List Nat) (W:Nat → Nat → Nat → Nat),(∀j (hj:j < q.length),GdF ⟨cnt p0,g,C,P,W⟩ q j q[j])∧o=rowG (cnt p0) fun v=>Sum.inr ((NF.mk (cnt p0) g C P W).node v))
  (fun s hs=>?_) ((0:Int),rowG (cnt p0) fun v=>Sum.inl (C v:Int)) ⟨0,fun _=>[],fun _ _ _=>0,by omega,fun j _ hj=>by omega,by congr 1⟩ (by simp; omega)
 ·obtain ⟨o,h1,P,W,h2,rfl⟩:=hw
  exact ⟨P,W,h2,h1⟩
 ·obtain ⟨i,P,W,hi,hG,rfl⟩:=hs
  by_cases hic:i < cnt p0
  ·left
   have hiq:i < q.length:=by omega
   have hv:=hl _ (List.getElem_mem hiq)
   have hnot:=take_not hn hiq
   have ek:IntKind.i64.wrap ((i:Int)+1)=((i+1:Nat):Int):=by rw [w64 (by omega)]; omega
   have hk:lkL (rowG (cnt p0) (N i P W)) ((q[i]:Nat):Int)=some (C q[i]:Int):=by
    unfold lkL
    rw [rowG_get hv]
    show Option.bind (some (if q[i]∈q.take i then _ else _)) _=_
    rw [if_neg hnot]; rfl
   have leaf:∀pc:Tharuspexref05_Piece,(∀x∈pc.W,0≤x∧x≤255)→pc.W.length≤9223372036854775807 →
     ∃s',((whileN fuel (g_ref05_Draft_Net_b2 p0 ((i:Int),rowG (cnt p0) (N i P W)) (q.map fun (x:Nat)=>(x:Int)) pc) (0,([]:List Int))).bind fun x72 =>
      (whileN fuel (g_ref05_Draft_Net_b3 p0 ((i:Int),rowG (cnt p0) (N i P W)) ((q[i]:Nat):Int) (C q[i]:Int) x72 pc) (0,([]:List (List Int)))).bind fun x83 =>
      some (Step.next (ρ:=List (Int ⊕ Tapi_Node)) (IntKind.i64.wrap ((i:Int)+1),(List.set (rowG (cnt p0) (N i P W)) (Int.toNat ((q[i]:Nat):Int)) (Sum.inr (Tapi_Node.mk (C q[i]:Int) x72 x83))))))=some (Step.next s') ∧
      (∃(i:Nat) (P:Nat → List Nat) (W:Nat → Nat → Nat → Nat),i≤cnt p0∧(∀j (hj:j < q.length),j < i→GdF ⟨cnt p0,g,C,P,W⟩ q j q[j])∧s'=((i:Int),rowG (cnt p0) (N i P W)))∧cnt p0 - s'.1.toNat < cnt p0 - (i:Int).toNat := fun pc hpW hpl=>by
    obtain ⟨Pv,p1,p2,p3,hb2⟩:=net_b2 (p0:=p0) hn hlen (L:=rowG (cnt p0) (N i P W)) (pc:=pc) hiq
    have hPv:∀p∈Pv,p < cnt p0:=fun p hp=>hl p (List.mem_of_mem_take (p2 p hp))
    obtain ⟨Wv,w1,hb3⟩:=net_b3 (p0:=p0) (i:=i) (c:=0) (pc:=pc) hg hg60 hC (fun k _=>hNco i P W k) hv hPv p3 hpW hpl
    rw [hb2]
    simp only [Option.bind_some]
    rw [hb3]
    simp only [Option.bind_some]
    rw [ek,Int.toNat_natCast,rowG_set]
    refine ⟨_,rfl,⟨i+1,upd P q[i] Pv,upd W q[i] Wv,hic,fun j hj hji=>?_,?_⟩,by simp; omega⟩
    ·by_cases e:j=i
     ·subst e
      unfold GdF NF.rows
      simp only [upd_same]
      exact ⟨p1,p2,p3,w1⟩
     ·have hne:q[j]≠q[i]:=fun e2=>e (by
       rcases Nat.lt_or_ge j i with h' | h'
       ·exact absurd e2 (List.pairwise_iff_getElem.1 hn j i hj hiq h')
       ·omega)
      have:=hG j hj (by omega)
      unfold GdF NF.rows at this ⊢
      simp only [upd_ne hne]
      exact this
    ·congr 1
     refine rowG_congr fun k hk=>?_
     by_cases e:k=q[i]
     ·rw [if_pos e]
      show _=if k∈q.take (i+1) then _ else _
      rw [if_pos ((take_mem hiq).2 (.inr e)),e]
      unfold NF.node NF.rows
      simp only [upd_same]
     ·rw [if_neg e]
      show (if k∈q.take i then _ else _)=if k∈q.take (i+1) then _ else _
      by_cases hm:k∈q.take i
      ·rw [if_pos hm,if_pos ((take_mem hiq).2 (.inl hm))]
       unfold NF.node NF.rows
       simp only [upd_ne e]
      ·rw [if_neg hm,if_neg (fun h'=>((take_mem hiq).1 h').elim hm e)]
   unfold g_ref05_Draft_Net_b7
   simp only [cnt_eq]
   rw [if_pos (by simpa using hic)]
   by_cases hin:i < p0.Nodes.length
   ·rw [if_pos (by simpa using hin),lkI_nat hin]
    simp only [Option.bind_some]
    rw [qget hiq]
    simp only [Option.bind_some]
    rw [hk]
    simp only [Option.bind_some]
    exact leaf _ (h.W _ (List.getElem_mem hin)) (h.Wl _ (List.getElem_mem hin))
   ·rw [if_neg (by simpa using hin),qget hiq]
    simp only [Option.bind_some]
    rw [hk]
    simp only [Option.bind_some]
    rw [b5_b2]
    exact leaf ⟨0,0,[]⟩ (fun x hx=>by simp at hx) (by simp)
  ·right
   have:i=cnt p0:=by omega
   subst this
   unfold g_ref05_Draft_Net_b7
   simp only [cnt_eq]
   rw [if_neg (by simp)]
   refine ⟨_,rfl,P,W,fun j hj=>hG j hj (by omega),?_⟩
   refine rowG_congr fun k hk=>?_
   show (if k∈q.take (cnt p0) then _ else _)=_
   rw [if_pos (by rw [List.take_of_length_le (by omega)]; exact perm_all hn hl hlen k hk)]
theorem net_draft (h:DrOk p0):∃D:NF,VX D∧D.n≤5∧(∀v,v < D.n→2≤D.card v∧D.card v≤3)∧g_ref05_Draft_Net p0=some D.net:=by
 have hcn:=cnt_le (p0:=p0)
 have hgr:=h.grain
 obtain ⟨q,hn,hl,hlen,hq⟩:=perm_spec (n:=cnt p0) hcn.2 h.order
 obtain ⟨C,hC,h0⟩:=net_b0 h hn hl hlen
 have hg:IntKind.i64.wrap (1+(IntKind.i64.wrap (Int.tmod p0.Grain 60)))=((1+p0.Grain.toNat % 60:Nat):Int):=by
  have w1:IntKind.i64.wrap (p0.Grain % 60)=p0.Grain % 60:=w64 (by omega)
  rw [tmod_pos hgr.1,w1,w64 (by omega)]; omega
 have hg60:1+p0.Grain.toNat % 60≤60:=by omega
 obtain ⟨P,W,hG,h7⟩:=net_b7 h hn hl hlen hg hg60 hC
 refine ⟨⟨cnt p0,1+p0.Grain.toNat % 60,C,P,W⟩,?_,hcn.2,hC,?_⟩
 ·have hall:∀v,v < cnt p0→∃j,∃hj:j < q.length,q[j]=v:=fun v hv=>List.mem_iff_getElem.1 (perm_all hn hl hlen v hv)
  have hsum:∀v r,v < cnt p0→r < (NF.mk (cnt p0) (1+p0.Grain.toNat % 60) C P W).rows v→sumI (C v) (fun x=>(W v r x:Int))=((1+p0.Grain.toNat % 60:Nat):Int):=fun v r hv hr=>by
   obtain ⟨j,hj,rfl⟩:=hall v hv
   exact (hG j hj).2.2.2 r hr
  refine ⟨⟨by show 1≤cnt p0; omega,by show cnt p0≤8; omega,by show 1≤1+p0.Grain.toNat % 60; omega,hg60,fun v hv=>by have:=hC v hv; show 1≤C v∧C v≤4; omega,fun v hv p hp=>?_,fun v hv=>?_,fun v r x hv hr hx=>?_,?_⟩,fun v hv=>?_,fun v hv hp=>?_,⟨fun v=>q.idxOf v,fun v hv p hp=>?_⟩,hsum⟩
  ·obtain ⟨j,hj,rfl⟩:=hall v hv
   exact hl p (List.mem_of_mem_take ((hG j hj).2.1 p hp))
  ·obtain ⟨j,hj,rfl⟩:=hall v hv
   have:=(hG j hj).2.2.1
   omega
  ·have h1:=hsum v r hv hr
   have h2:=sum_part_le (n:=C v) (k:=x+1) (f:=fun x=>(W v r x:Int)) (fun _ _=>Int.natCast_nonneg _) hx
   have h3:0≤sumI x (fun x=>(W v r x:Int)):=sumI_nonneg fun _ _=>Int.natCast_nonneg _
   simp only [sumI] at h2
   show W v r x≤1+p0.Grain.toNat % 60
   omega
  ·have h1:prodTo (cnt p0) C≤3^cnt p0:=prodTo_le fun v hv=>(hC v hv).2
   have h2:3^cnt p0≤3^5:=Nat.pow_le_pow_right (by omega) hcn.2
   show prodTo (cnt p0) C≤1024
   omega
  ·obtain ⟨j,hj,rfl⟩:=hall v hv
   exact (hG j hj).1
  ·obtain ⟨j,hj,rfl⟩:=hall v hv
   exact take_not hn hj ((hG j hj).2.1 _ hp)
  ·obtain ⟨j,hj,rfl⟩:=hall v hv
   have h1:=idx_take ((hG j hj).2.1 p hp)
   have h2:=idxOf_le hn hj
   show q.idxOf p < q.idxOf q[j]
   omega
 ·unfold g_ref05_Draft_Net
  simp only [cnt_eq]
  rw [if_pos (by omega),if_pos (by omega),Int.toNat_natCast,hq]
  simp only [Option.bind_some]
  rw [h0]
  simp only [Option.bind_some]
  rw [h7]
  simp only [Option.bind_some]
  rw [alr_row,hg]
  rfl
end
end Go.Ab
namespace Go.Ab
open Go
theorem one5 {cs:List AV} (h:WT (.int .u8) cs):∃a:Int,cs=[(AV.int .u8) a]∧(Lit.int .u8 a).wf=true:=by
 obtain ⟨n,rfl,w⟩:=h
 exact ⟨n,rfl,w⟩
theorem el5 {x:AV} (h:WT (.int .u8) x.flat ∧ (if false then x=.agg x.flat else x.cell=true)):∃a:Int,x=(AV.int .u8) a∧(Lit.int .u8 a).wf=true:=by
 obtain ⟨a,h1,h2⟩:=one5 h.1
 rw [flat_cell h.2] at h1
 exact ⟨a,(List.cons.inj h1).1,h2⟩
theorem one23 {cs:List AV} (h:WT (.slice true false 1 (.int .u8)) cs):∃a:(List Int),cs=[(eL true (AV.int .u8)) a]∧(a.length≤maxLen∧∀y0∈a,(Lit.int .u8 y0).wf=true):=by
 obtain ⟨xs,rfl,hl,hx⟩:=h
 obtain ⟨l,rfl,hr⟩:=lists_of (enc:=(AV.int .u8)) (R:=fun a=>(Lit.int .u8 a).wf=true) (fun x hm=>el5 (hx x hm))
 exact ⟨l,rfl,by simpa using hl,hr⟩
def okTharuspexref05_Piece (x:Tharuspexref05_Piece):Prop:=((Lit.int .u8 x.Card).wf=true)∧((Lit.int .u8 x.Parents).wf=true)∧((x.W.length≤maxLen∧∀y0∈x.W,(Lit.int .u8 y0).wf=true))
theorem rdTharuspexref05_Piece {cs:List AV} (h:WT (.cat (.int .u8) (.cat (.int .u8) (.cat (.slice true false 1 (.int .u8)) .unit))) cs):∃x:Tharuspexref05_Piece,AV.agg cs=eTharuspexref05_Piece x∧okTharuspexref05_Piece x:=by
 obtain ⟨_,_,rfl,a0,r0⟩:=h
 obtain ⟨v0,e0,w0⟩:=one5 a0
 cases e0
 obtain ⟨_,_,rfl,a1,r1⟩:=r0
 obtain ⟨v1,e1,w1⟩:=one5 a1
 cases e1
 obtain ⟨_,_,rfl,a2,r2⟩:=r1
 obtain ⟨v2,e2,w2⟩:=one23 a2
 cases e2
 cases r2
 exact ⟨⟨v0,v1,v2⟩,rfl,⟨w0,w1,w2⟩⟩
theorem el124 {x:AV} (h:WT (.cat (.int .u8) (.cat (.int .u8) (.cat (.slice true false 1 (.int .u8)) .unit))) x.flat ∧ (if true then x=.agg x.flat else x.cell=true)):∃a:Tharuspexref05_Piece,x=eTharuspexref05_Piece a∧okTharuspexref05_Piece a:=by
 obtain ⟨a,h1,h2⟩:=rdTharuspexref05_Piece h.1
 have h3:x=.agg x.flat := h.2
 exact ⟨a,h3.trans h1,h2⟩
theorem one22 {cs:List AV} (h:WT (.slice false true 3 (.cat (.int .u8) (.cat (.int .u8) (.cat (.slice true false 1 (.int .u8)) .unit)))) cs):∃a:(List Tharuspexref05_Piece),cs=[(eL false eTharuspexref05_Piece) a]∧(a.length≤maxLen∧∀y0∈a,okTharuspexref05_Piece y0):=by
 obtain ⟨xs,rfl,hl,hx⟩:=h
 obtain ⟨l,rfl,hr⟩:=lists_of (enc:=eTharuspexref05_Piece) (R:=fun a=>okTharuspexref05_Piece a) (fun x hm=>el124 (hx x hm))
 exact ⟨l,rfl,by simpa using hl,hr⟩
def okTharuspexref05_Draft (x:Tharuspexref05_Draft):Prop:=((Lit.int .u8 x.Grain).wf=true)∧((x.Nodes.length≤maxLen∧∀y0∈x.Nodes,okTharuspexref05_Piece y0))∧((x.Order.length≤maxLen∧∀y0∈x.Order,(Lit.int .u8 y0).wf=true))
theorem rdTharuspexref05_Draft {cs:List AV} (h:WT (.cat (.int .u8) (.cat (.slice false true 3 (.cat (.int .u8) (.cat (.int .u8) (.cat (.slice true false 1 (.int .u8)) .unit)))) (.cat (.slice true false 1 (.int .u8)) .unit))) cs):∃x:Tharuspexref05_Draft,AV.agg cs=eTharuspexref05_Draft x∧okTharuspexref05_Draft x:=by
 obtain ⟨_,_,rfl,a0,r0⟩:=h
 obtain ⟨v0,e0,w0⟩:=one5 a0
 cases e0
 obtain ⟨_,_,rfl,a1,r1⟩:=r0
 obtain ⟨v1,e1,w1⟩:=one22 a1
 cases e1
 obtain ⟨_,_,rfl,a2,r2⟩:=r1
 obtain ⟨v2,e2,w2⟩:=one23 a2
 cases e2
 cases r2
 exact ⟨⟨v0,v1,v2⟩,rfl,⟨w0,w1,w2⟩⟩
theorem one3 {cs:List AV} (h:WT (.int .i64) cs):∃a:Int,cs=[eI a]∧(Lit.int .i64 a).wf=true:=by
 obtain ⟨n,rfl,w⟩:=h
 exact ⟨n,rfl,w⟩
theorem el3 {x:AV} (h:WT (.int .i64) x.flat ∧ (if false then x=.agg x.flat else x.cell=true)):∃a:Int,x=eI a∧(Lit.int .i64 a).wf=true:=by
 obtain ⟨a,h1,h2⟩:=one3 h.1
 rw [flat_cell h.2] at h1
 exact ⟨a,(List.cons.inj h1).1,h2⟩
def okTharuspexref05_Bend (x:Tharuspexref05_Bend):Prop:=((Lit.int .u8 x.What).wf=true)∧((Lit.int .u8 x.At).wf=true)∧((Lit.int .u8 x.Row).wf=true)∧((Lit.int .i64 x.N).wf=true)
theorem rdTharuspexref05_Bend {cs:List AV} (h:WT (.cat (.int .u8) (.cat (.int .u8) (.cat (.int .u8) (.cat (.int .i64) .unit)))) cs):∃x:Tharuspexref05_Bend,AV.agg cs=eTharuspexref05_Bend x∧okTharuspexref05_Bend x:=by
 obtain ⟨_,_,rfl,a0,r0⟩:=h
 obtain ⟨v0,e0,w0⟩:=one5 a0
 cases e0
 obtain ⟨_,_,rfl,a1,r1⟩:=r0
 obtain ⟨v1,e1,w1⟩:=one5 a1
 cases e1
 obtain ⟨_,_,rfl,a2,r2⟩:=r1
 obtain ⟨v2,e2,w2⟩:=one5 a2
 cases e2
 obtain ⟨_,_,rfl,a3,r3⟩:=r2
 obtain ⟨v3,e3,w3⟩:=one3 a3
 cases e3
 cases r3
 exact ⟨⟨v0,v1,v2,v3⟩,rfl,⟨w0,w1,w2,w3⟩⟩
theorem rdA28 {cs:List AV} (h:WT (.cat (.int .u8) (.cat (.int .u8) (.cat (.int .u8) (.cat (.int .u8) (.cat (.int .u8) (.cat (.int .u8) (.cat (.int .u8) (.cat (.int .u8) .unit)))))))) cs):∃x:(Int × Int × Int × Int × Int × Int × Int × Int),AV.agg cs=(fun x=>AV.agg [.int .u8 x.1,.int .u8 x.2.1,.int .u8 x.2.2.1,.int .u8 x.2.2.2.1,.int .u8 x.2.2.2.2.1,.int .u8 x.2.2.2.2.2.1,.int .u8 x.2.2.2.2.2.2.1,.int .u8 x.2.2.2.2.2.2.2]) x∧((Lit.int .u8 x.1).wf=true∧(Lit.int .u8 x.2.1).wf=true∧(Lit.int .u8 x.2.2.1).wf=true∧(Lit.int .u8 x.2.2.2.1).wf=true∧(Lit.int .u8 x.2.2.2.2.1).wf=true∧(Lit.int .u8 x.2.2.2.2.2.1).wf=true∧(Lit.int .u8 x.2.2.2.2.2.2.1).wf=true∧(Lit.int .u8 x.2.2.2.2.2.2.2).wf=true):=by
 obtain ⟨_,_,rfl,a0,r0⟩:=h
 obtain ⟨v0,e0,w0⟩:=one5 a0
 cases e0
 obtain ⟨_,_,rfl,a1,r1⟩:=r0
 obtain ⟨v1,e1,w1⟩:=one5 a1
 cases e1
 obtain ⟨_,_,rfl,a2,r2⟩:=r1
 obtain ⟨v2,e2,w2⟩:=one5 a2
 cases e2
 obtain ⟨_,_,rfl,a3,r3⟩:=r2
 obtain ⟨v3,e3,w3⟩:=one5 a3
 cases e3
 obtain ⟨_,_,rfl,a4,r4⟩:=r3
 obtain ⟨v4,e4,w4⟩:=one5 a4
 cases e4
 obtain ⟨_,_,rfl,a5,r5⟩:=r4
 obtain ⟨v5,e5,w5⟩:=one5 a5
 cases e5
 obtain ⟨_,_,rfl,a6,r6⟩:=r5
 obtain ⟨v6,e6,w6⟩:=one5 a6
 cases e6
 obtain ⟨_,_,rfl,a7,r7⟩:=r6
 obtain ⟨v7,e7,w7⟩:=one5 a7
 cases e7
 cases r7
 exact ⟨(v0,v1,v2,v3,v4,v5,v6,v7),rfl,⟨w0,w1,w2,w3,w4,w5,w6,w7⟩⟩
def okTharuspexref05_Known (x:Tharuspexref05_Known):Prop:=((Lit.int .u8 x.Which).wf=true)∧(((Lit.int .u8 x.V.1).wf=true∧(Lit.int .u8 x.V.2.1).wf=true∧(Lit.int .u8 x.V.2.2.1).wf=true∧(Lit.int .u8 x.V.2.2.2.1).wf=true∧(Lit.int .u8 x.V.2.2.2.2.1).wf=true∧(Lit.int .u8 x.V.2.2.2.2.2.1).wf=true∧(Lit.int .u8 x.V.2.2.2.2.2.2.1).wf=true∧(Lit.int .u8 x.V.2.2.2.2.2.2.2).wf=true))
theorem rdTharuspexref05_Known {cs:List AV} (h:WT (.cat (.int .u8) (.cat (.cat (.int .u8) (.cat (.int .u8) (.cat (.int .u8) (.cat (.int .u8) (.cat (.int .u8) (.cat (.int .u8) (.cat (.int .u8) (.cat (.int .u8) .unit)))))))) .unit)) cs):∃x:Tharuspexref05_Known,AV.agg cs=eTharuspexref05_Known x∧okTharuspexref05_Known x:=by
 obtain ⟨_,_,rfl,a0,r0⟩:=h
 obtain ⟨v0,e0,w0⟩:=one5 a0
 cases e0
 obtain ⟨_,_,rfl,a1,r1⟩:=r0
 obtain ⟨v1,e1,w1⟩:=rdA28 a1
 cases e1
 cases r1
 exact ⟨⟨v0,v1⟩,rfl,⟨w0,w1⟩⟩
def okTharuspexref24_Draft (x:Tharuspexref24_Draft):Prop:=((Lit.int .u8 x.V).wf=true)∧((Lit.int .u8 x.Value).wf=true)∧((Lit.int .u8 x.Node).wf=true)∧((Lit.int .u8 x.Row).wf=true)∧((Lit.int .u8 x.From).wf=true)∧((Lit.int .u8 x.To).wf=true)
theorem rdTharuspexref24_Draft {cs:List AV} (h:WT (.cat (.int .u8) (.cat (.int .u8) (.cat (.int .u8) (.cat (.int .u8) (.cat (.int .u8) (.cat (.int .u8) .unit)))))) cs):∃x:Tharuspexref24_Draft,AV.agg cs=eTharuspexref24_Draft x∧okTharuspexref24_Draft x:=by
 obtain ⟨_,_,rfl,a0,r0⟩:=h
 obtain ⟨v0,e0,w0⟩:=one5 a0
 cases e0
 obtain ⟨_,_,rfl,a1,r1⟩:=r0
 obtain ⟨v1,e1,w1⟩:=one5 a1
 cases e1
 obtain ⟨_,_,rfl,a2,r2⟩:=r1
 obtain ⟨v2,e2,w2⟩:=one5 a2
 cases e2
 obtain ⟨_,_,rfl,a3,r3⟩:=r2
 obtain ⟨v3,e3,w3⟩:=one5 a3
 cases e3
 obtain ⟨_,_,rfl,a4,r4⟩:=r3
 obtain ⟨v4,e4,w4⟩:=one5 a4
 cases e4
 obtain ⟨_,_,rfl,a5,r5⟩:=r4
 obtain ⟨v5,e5,w5⟩:=one5 a5
 cases e5
 cases r5
 exact ⟨⟨v0,v1,v2,v3,v4,v5⟩,rfl,⟨w0,w1,w2,w3,w4,w5⟩⟩
theorem one33 {cs:List AV} (h:WT (.slice true false 1 (.int .i64)) cs):∃a:(List Int),cs=[(eL true eI) a]∧(a.length≤maxLen∧∀y0∈a,(Lit.int .i64 y0).wf=true):=by
 obtain ⟨xs,rfl,hl,hx⟩:=h
 obtain ⟨l,rfl,hr⟩:=lists_of (enc:=eI) (R:=fun a=>(Lit.int .i64 a).wf=true) (fun x hm=>el3 (hx x hm))
 exact ⟨l,rfl,by simpa using hl,hr⟩
def okTapi_Shift (x:Tapi_Shift):Prop:=((Lit.int .i64 x.Node).wf=true)∧((Lit.int .i64 x.Row).wf=true)∧((Lit.int .i64 x.From).wf=true)∧((Lit.int .i64 x.To).wf=true)
theorem rdTapi_Shift {cs:List AV} (h:WT (.cat (.int .i64) (.cat (.int .i64) (.cat (.int .i64) (.cat (.int .i64) .unit)))) cs):∃x:Tapi_Shift,AV.agg cs=eTapi_Shift x∧okTapi_Shift x:=by
 obtain ⟨_,_,rfl,a0,r0⟩:=h
 obtain ⟨v0,e0,w0⟩:=one3 a0
 cases e0
 obtain ⟨_,_,rfl,a1,r1⟩:=r0
 obtain ⟨v1,e1,w1⟩:=one3 a1
 cases e1
 obtain ⟨_,_,rfl,a2,r2⟩:=r1
 obtain ⟨v2,e2,w2⟩:=one3 a2
 cases e2
 obtain ⟨_,_,rfl,a3,r3⟩:=r2
 obtain ⟨v3,e3,w3⟩:=one3 a3
 cases e3
 cases r3
 exact ⟨⟨v0,v1,v2,v3⟩,rfl,⟨w0,w1,w2,w3⟩⟩
def okTharuspexlaw24_Story (x:Tharuspexlaw24_Story):Prop:=(okTharuspexref05_Draft x.N)∧(okTharuspexref05_Bend x.C)∧(okTharuspexref05_Known x.K)∧(okTharuspexref24_Draft x.D)∧((x.Raw.length≤maxLen∧∀y0∈x.Raw,(Lit.int .i64 y0).wf=true))∧((Lit.int .i64 x.V).wf=true)∧((Lit.int .i64 x.Value).wf=true)∧(okTapi_Shift x.S)
theorem rdTharuspexlaw24_Story {cs:List AV} (h:WT (.cat (.cat (.int .u8) (.cat (.slice false true 3 (.cat (.int .u8) (.cat (.int .u8) (.cat (.slice true false 1 (.int .u8)) .unit)))) (.cat (.slice true false 1 (.int .u8)) .unit))) (.cat (.cat (.int .u8) (.cat (.int .u8) (.cat (.int .u8) (.cat (.int .i64) .unit)))) (.cat (.cat (.int .u8) (.cat (.cat (.int .u8) (.cat (.int .u8) (.cat (.int .u8) (.cat (.int .u8) (.cat (.int .u8) (.cat (.int .u8) (.cat (.int .u8) (.cat (.int .u8) .unit)))))))) .unit)) (.cat (.cat (.int .u8) (.cat (.int .u8) (.cat (.int .u8) (.cat (.int .u8) (.cat (.int .u8) (.cat (.int .u8) .unit)))))) (.cat (.slice true false 1 (.int .i64)) (.cat (.int .i64) (.cat (.int .i64) (.cat (.cat (.int .i64) (.cat (.int .i64) (.cat (.int .i64) (.cat (.int .i64) .unit)))) .unit)))))))) cs):∃x:Tharuspexlaw24_Story,AV.agg cs=eTharuspexlaw24_Story x∧okTharuspexlaw24_Story x:=by
 obtain ⟨_,_,rfl,a0,r0⟩:=h
 obtain ⟨v0,e0,w0⟩:=rdTharuspexref05_Draft a0
 cases e0
 obtain ⟨_,_,rfl,a1,r1⟩:=r0
 obtain ⟨v1,e1,w1⟩:=rdTharuspexref05_Bend a1
 cases e1
 obtain ⟨_,_,rfl,a2,r2⟩:=r1
 obtain ⟨v2,e2,w2⟩:=rdTharuspexref05_Known a2
 cases e2
 obtain ⟨_,_,rfl,a3,r3⟩:=r2
 obtain ⟨v3,e3,w3⟩:=rdTharuspexref24_Draft a3
 cases e3
 obtain ⟨_,_,rfl,a4,r4⟩:=r3
 obtain ⟨v4,e4,w4⟩:=one33 a4
 cases e4
 obtain ⟨_,_,rfl,a5,r5⟩:=r4
 obtain ⟨v5,e5,w5⟩:=one3 a5
 cases e5
 obtain ⟨_,_,rfl,a6,r6⟩:=r5
 obtain ⟨v6,e6,w6⟩:=one3 a6
 cases e6
 obtain ⟨_,_,rfl,a7,r7⟩:=r6
 obtain ⟨v7,e7,w7⟩:=rdTapi_Shift a7
 cases e7
 cases r7
 exact ⟨⟨v0,v1,v2,v3,v4,v5,v6,v7⟩,rfl,⟨w0,w1,w2,w3,w4,w5,w6,w7⟩⟩
theorem rdA64 {cs:List AV} (h:WT (.cat (.int .u8) (.cat (.int .u8) .unit)) cs):∃x:(Int × Int),AV.agg cs=(fun x=>AV.agg [.int .u8 x.1,.int .u8 x.2]) x∧((Lit.int .u8 x.1).wf=true∧(Lit.int .u8 x.2).wf=true):=by
 obtain ⟨_,_,rfl,a0,r0⟩:=h
 obtain ⟨v0,e0,w0⟩:=one5 a0
 cases e0
 obtain ⟨_,_,rfl,a1,r1⟩:=r0
 obtain ⟨v1,e1,w1⟩:=one5 a1
 cases e1
 cases r1
 exact ⟨(v0,v1),rfl,⟨w0,w1⟩⟩
end Go.Ab
namespace Go.Ab
open Go
theorem drOk_of {p0:Tharuspexref05_Draft} (h:okTharuspexref05_Draft p0):DrOk p0:=by
 obtain ⟨h1,⟨h2,h3⟩,h4,h5⟩:=h
 exact ⟨bounds_u8 h1,fun x hx=>bounds_u8 (h5 x hx),fun p hp=>bounds_u8 (h3 p hp).1,fun p hp x hx=>bounds_u8 ((h3 p hp).2.2.2 x hx),fun p hp=>(h3 p hp).2.2.1⟩
structure DX (D:NF):Prop extends VX D where
 n5:D.n≤5
 c23:∀v,v < D.n→2≤D.card v∧D.card v≤3
section
variable {D:NF}
theorem DX.worlds (X:DX D):prodTo D.n D.card≤243:=by
 have h1:prodTo D.n D.card≤3^D.n:=prodTo_le fun v hv=>(X.c23 v hv).2
 have h2:3^D.n≤3^5:=Nat.pow_le_pow_right (by omega) X.n5
 omega
theorem known_of (X:DX D) {k:Tharuspexref05_Known} (hk:okTharuspexref05_Known k):∃E,EvOk D E∧g_ref05_Known_Of k D.net=some (rowG D.n E):=by
 have V:=X.vn
 have hn:=X.n5
 have hlen:D.net.Nodes.length=D.n:=rowG_len
 obtain ⟨_,k0,k1,k2,k3,k4,_⟩:=hk
 have hw:=whileN_ex (body:=g_ref05_Known_Of_b0 D.net k) (fun s=>∃(i:Nat) (E:Nat → Int),i≤D.n∧(∀j,j < i→-1≤E j∧E j < D.card j)∧s=((i:Int),rowG i E))
  (fun s=>D.n - s.1.toNat) (fun r=>∃E,EvOk D E∧r=rowG D.n E) (fun s hs=>?_) ((0:Int),([]:List Int)) ⟨0,fun _=>0,by omega,fun j hj=>by omega,rfl⟩ (by simp; omega)
 ·obtain ⟨r,h1,E,h2,rfl⟩:=hw
  refine ⟨E,h2,?_⟩
  unfold g_ref05_Known_Of
  rw [h1]; rfl
 ·obtain ⟨i,E,hi,hE,rfl⟩:=hs
  by_cases hin:i < D.n
  ·left
   have hc:=V.card i hin
   have hnode:lkI D.net.Nodes (i:Int)=some (D.node i):=V.node hin
   have add:∀y:Int,-1≤y→y < D.card i→(∃s',some (Step.next (((i+1:Nat):Int),rowG i E++[y]))=some (Step.next (ρ:=List Int) s') ∧
     (∃(i:Nat) (E:Nat → Int),i≤D.n∧(∀j,j < i→-1≤E j∧E j < D.card j)∧s'=((i:Int),rowG i E))∧D.n - s'.1.toNat < D.n - (i:Int).toNat):=fun y h1 h2=>by
    refine ⟨_,rfl,⟨i+1,upd E i y,hin,fun j hj=>?_,?_⟩,by simp; omega⟩
    ·by_cases e:j=i
     ·subst e; rw [upd_same]; exact ⟨h1,h2⟩
     ·rw [upd_ne e]; exact hE j (by omega)
    ·rw [←rowG_succ,upd_same]
     congr 2
     exact rowG_congr fun j hj=>by rw [upd_ne (by omega)]
   have one:∀y:Int,(Lit.int .u8 y).wf=true→-1≤Int.tmod (IntKind.i64.wrap y) (D.node i).Card∧Int.tmod (IntKind.i64.wrap y) (D.node i).Card < D.card i:=fun y hy=>by
    have hb:=bounds_u8 hy
    have hp:(0:Int) < (D.card i:Int):=by omega
    rw [show (D.node i).Card=(D.card i:Int) from rfl,w64 (by omega),tmod_pos hb.1]
    have h1:=Int.emod_nonneg y (show (D.card i:Int)≠0 by omega)
    have h2:=Int.emod_lt_of_pos y hp
    omega
   have hcard:(D.node i).Card≠0:=by show (D.card i:Int)≠0; omega
   have hll:∀y:Int,(rowG i E++[y]).length*8≤140737488355328:=fun y=>by simp [rowG_len]; omega
   have ek:IntKind.i64.wrap ((i:Int)+1)=((i+1:Nat):Int):=by rw [w64 (by omega)]; omega
   unfold g_ref05_Known_Of_b0
   simp only
   rw [if_pos (by rw [hlen]; simpa using hin),if_pos u64_nonneg]
   by_cases hb:((IntKind.u8.wrap (BitVec.ofInt (IntKind.bits .u8) (Int.fdiv k.Which (2^min (Int.toNat (IntKind.u64.wrap (i:Int))) (IntKind.bits .u8))) &&& BitVec.ofInt (IntKind.bits .u8) 1).toNat)==1)=true
   ·rw [if_pos hb]
    have hcases:i=0∨i=1∨i=2∨i=3∨i=4:=by omega
    rcases hcases with rfl | rfl | rfl | rfl | rfl
    ·rw [if_pos (show ((0:Nat):Int)=0 from rfl),show lkI D.net.Nodes 0=some (D.node 0) from hnode]
     simp only [Option.bind_some]
     rw [if_pos hcard,if_pos (hll _)]
     exact add _ (one _ k0).1 (one _ k0).2
    ·rw [if_neg (by decide),if_pos (show ((1:Nat):Int)=1 from rfl),show lkI D.net.Nodes 1=some (D.node 1) from hnode]
     simp only [Option.bind_some]
     rw [if_pos hcard,if_pos (hll _)]
     exact add _ (one _ k1).1 (one _ k1).2
    ·rw [if_neg (by decide),if_neg (by decide),if_pos (show ((2:Nat):Int)=2 from rfl),show lkI D.net.Nodes 2=some (D.node 2) from hnode]
     simp only [Option.bind_some]
     rw [if_pos hcard,if_pos (hll _)]
     exact add _ (one _ k2).1 (one _ k2).2
    ·rw [if_neg (by decide),if_neg (by decide),if_neg (by decide),if_pos (show ((3:Nat):Int)=3 from rfl),show lkI D.net.Nodes 3=some (D.node 3) from hnode]
     simp only [Option.bind_some]
     rw [if_pos hcard,if_pos (hll _)]
     exact add _ (one _ k3).1 (one _ k3).2
    ·rw [if_neg (by decide),if_neg (by decide),if_neg (by decide),if_neg (by decide),if_pos (show ((4:Nat):Int)=4 from rfl),show lkI D.net.Nodes 4=some (D.node 4) from hnode]
     simp only [Option.bind_some]
     rw [if_pos hcard,if_pos (hll _)]
     exact add _ (one _ k4).1 (one _ k4).2
   ·rw [if_neg hb,if_pos (hll _),ek]
    exact add (-1) (by omega) (by omega)
  ·right
   have:i=D.n:=by omega
   subst this
   unfold g_ref05_Known_Of_b0
   rw [if_neg (by rw [hlen]; simp)]
   exact ⟨_,rfl,E,hE,rfl⟩
theorem lprod_pos {f:Nat → Nat} {l:List Nat} (h:∀p∈l,1≤f p):1≤lprod f l:=by
 have key:∀(l:List Nat) (R:Nat),1≤R→(∀p∈l,1≤f p)→1≤l.foldl (fun r p=>r*f p) R:=by
  intro l
  induction l with
  | nil=>intro R h _; exact h
  | cons p l ih=>intro R h hp; exact ih _ (Nat.mul_le_mul h (hp p (by simp))) fun q hq=>hp q (List.mem_cons_of_mem _ hq)
 exact key l 1 (Nat.le_refl 1) h
theorem modN {y:Int} {c:Nat} (hy:(Lit.int .u8 y).wf=true) (hc:1≤c):∃r:Nat,r < c∧Int.tmod (IntKind.i64.wrap y) (c:Int)=(r:Int):=by
 have hb:=bounds_u8 hy
 refine ⟨y.toNat % c,Nat.mod_lt _ (by omega),?_⟩
 rw [w64 (by omega),tmod_pos hb.1,Int.natCast_emod,Int.toNat_of_nonneg hb.1]
theorem draft_of (X:DX D) {d:Tharuspexref24_Draft} (hd:okTharuspexref24_Draft d):∃(v x:Nat) (s:SF),v < D.n∧x < D.card v∧s.N < D.n∧s.R < D.rows s.N∧s.F < D.card s.N∧s.T < D.card s.N∧g_ref24_Draft_Of d D.net=some ((v:Int),(x:Int),s.sh):=by
 have V:=X.vn
 have hn:=V.n1
 have hn5:=X.n5
 have hlen:D.net.Nodes.length=D.n:=rowG_len
 obtain ⟨d1,d2,d3,d4,d5,d6⟩:=hd
 obtain ⟨v,hv,ev⟩:=modN d1 hn
 obtain ⟨N,hN,eN⟩:=modN d3 hn
 have hcv:=X.c23 v hv
 have hcN:=X.c23 N hN
 have hrows:1≤D.rows N:=lprod_pos fun p hp=>(V.card p (V.par N hN p hp)).1
 have hrl:(D.node N).Rows.length=D.rows N:=by simp [NF.node,rowG_len]
 obtain ⟨x,hx,ex⟩:=modN d2 (show 1≤D.card v by omega)
 obtain ⟨R,hR,eR⟩:=modN d4 hrows
 obtain ⟨F,hF,eF⟩:=modN d5 (show 1≤D.card N by omega)
 obtain ⟨t,ht,et⟩:=modN d6 (show 1≤D.card N - 1 by omega)
 have em:(if (IntKind.i64.wrap ((D.card N:Int) - 1)) > 1 then (IntKind.i64.wrap ((D.card N:Int) - 1)) else 1)=((D.card N - 1:Nat):Int):=by
  rw [w64 (by omega)]
  split <;> omega
 have eT:Int.tmod (IntKind.i64.wrap ((IntKind.i64.wrap ((F:Int)+1))+(t:Int))) (D.card N:Int)=(((F+1+t) % D.card N:Nat):Int):=by
  have w1:IntKind.i64.wrap ((F:Int)+1)=(F:Int)+1:=w64 (by omega)
  rw [w1,w64 (by omega),tmod_pos (by omega)]
  simp
 refine ⟨v,x,⟨N,R,F,(F+1+t) % D.card N⟩,hv,hx,hN,hR,hF,Nat.mod_lt _ (by omega),?_⟩
 unfold g_ref24_Draft_Of
 rw [hlen,if_pos (by omega),if_pos (by omega),eN,V.node hN]
 simp only [Option.bind_some]
 rw [hrl,show (D.node N).Card=(D.card N:Int) from rfl,if_pos (by omega),if_pos (by omega),em,if_pos (by omega),if_pos (by omega),ev,V.node hv]
 simp only [Option.bind_some]
 rw [show (D.node v).Card=(D.card v:Int) from rfl,if_pos (by omega),ex,eR,eF,et,eT]
 rfl
theorem sw_bd {E:Nat → Int} {f:(Nat → Nat)→Int} (V:VN D) {m:Nat} (hm:prodTo D.n D.card≤m) (hf:∀w,D.ok w→BD 1 (f w)):BD m (SW D E f):=by
 have h1:PC D D.n 0=prodTo D.n D.card:=by have:=pc_prod (D:=D) D.n 0; simpa [prodTo] using this
 exact (tm_bound hf D.n 0 _ (by omega) (ok0 V)).mono (by rw [h1]; exact hm)
end
set_option maxRecDepth 100000 in
theorem works_true:g_law24_works=some true:=by kernel_rfl
end Go.Ab
namespace Go.Ab
open Go
set_option maxRecDepth 100000
theorem dval_split {l:List Int} {k:Nat} (hk:k≤l.length):dval l=dval (l.take k)+10000^k*dval (l.drop k):=by
 conv=>lhs; rw [←List.take_append_drop k l,dval_append]
 rw [List.length_take,Nat.min_eq_left hk]
theorem natAbs_cases (m:Int):m=(m.natAbs:Int)∨m=-(m.natAbs:Int):=by omega
theorem absmod (m:Int) (h:-9223372036854775808≤m∧m≤9223372036854775807):(if IntKind.i64.wrap (0 - Int.tmod m 10000) > Int.tmod m 10000 then IntKind.i64.wrap (0 - Int.tmod m 10000) else Int.tmod m 10000)=((m.natAbs % 10000:Nat):Int):=by
 rcases natAbs_cases m with hm | hm
 ·have e:Int.tmod m 10000=((m.natAbs % 10000:Nat):Int):=by rw [tmod_pos (by omega)]; omega
  rw [e,w64 (by omega),if_neg (by omega)]
 ·have e:Int.tmod m 10000=-((m.natAbs % 10000:Nat):Int):=by
   conv=>lhs; rw [hm,Int.neg_tmod,tmod_pos (by omega)]
   omega
  rw [e,w64 (by omega)]
  split <;> omega
theorem absdiv (m:Int) (h:-9223372036854775808≤m∧m≤9223372036854775807):IntKind.i64.wrap (Int.tdiv m 10000)=Int.tdiv m 10000∧(Int.tdiv m 10000).natAbs=m.natAbs / 10000:=by
 rcases natAbs_cases m with hm | hm
 ·have e:Int.tdiv m 10000=((m.natAbs / 10000:Nat):Int):=by rw [tdiv_pos (by omega)]; omega
  rw [e,w64 (by omega)]; omega
 ·have e:Int.tdiv m 10000=-((m.natAbs / 10000:Nat):Int):=by
   conv=>lhs; rw [hm,Int.neg_tdiv,tdiv_pos (by omega)]
   omega
  rw [e,w64 (by omega)]; omega
theorem digits_eq (p:Int) (h:-9223372036854775808≤p∧p≤9223372036854775807):g_ref01_digits p=some (dgs p.natAbs):=by
 unfold g_ref01_digits
 have hlen:(dgs p.natAbs).length≤5:=dgs_length_le (by omega)
 rw [whileN_eq (fun s=>s.2++dgs s.1.natAbs=dgs p.natAbs∧-9223372036854775808≤s.1∧s.1≤9223372036854775807) (fun s=>(dgs s.1.natAbs).length) (dgs p.natAbs) ?_ (p,[]) ⟨by simp,h⟩ (by simp only []; omega)]
 ·rfl
 ·rintro ⟨m,out⟩ ⟨h1,h2,h3⟩
  simp only at h1 h2 h3
  by_cases hm:m=0
  ·subst hm
   rw [Int.natAbs_zero,dgs_zero,List.append_nil] at h1
   exact .inr (by simp [g_ref01_digits_b0,h1])
  ·refine .inl ⟨(Int.tdiv m 10000,out++[((m.natAbs % 10000:Nat):Int)]),?_,?_,?_⟩
   ·unfold g_ref01_digits_b0
    simp only
    rw [if_pos (by simpa using hm),absmod m ⟨h2,h3⟩,(absdiv m ⟨h2,h3⟩).1,if_pos]
    have:=congrArg List.length h1
    simp only [List.length_append,List.length_cons,List.length_nil] at this ⊢
    omega
   ·simp only
    refine ⟨?_,?_⟩
    ·rw [(absdiv m ⟨h2,h3⟩).2,List.append_assoc,←h1,dgs_pos (n:=m.natAbs) (by omega)]; rfl
    ·have:=(absdiv m ⟨h2,h3⟩).2; omega
   ·simp only
    rw [(absdiv m ⟨h2,h3⟩).2,dgs_pos (n:=m.natAbs) (by omega)]; simp
theorem pow_pos' (k:Nat):0 < 10000^k:=Nat.pow_pos (by omega)
theorem pow_le {i j:Nat} (h:i≤j):10000^i≤10000^j:=Nat.pow_le_pow_right (by omega) h
theorem dval_lt_of {x y:List Int} {j:Nat} (hx:isdg x) (hy:isdg y) (hl:x.length=y.length) (hj:j < x.length) (hd:x.drop (j+1)=y.drop (j+1)) (hlt:x[j] < y[j]'(by omega)):dval x < dval y:=by
 rw [dval_split (l:=x) (k:=j) (by omega),dval_split (l:=y) (k:=j) (by omega),dval_drop hj,dval_drop (l:=y) (k:=j) (by omega),hd]
 have h1:=dval_lt (isdg_take hx j)
 rw [List.length_take,Nat.min_eq_left (by omega)] at h1
 have h2:=isdg_get hx hj
 have h3:=isdg_get hy (k:=j) (by omega)
 have h4:x[j].toNat + 1≤(y[j]'(by omega)).toNat := by omega
 have h5:10000^j*(x[j].toNat + 10000*dval (y.drop (j+1))+1)≤10000^j*((y[j]'(by omega)).toNat + 10000*dval (y.drop (j+1))):=Nat.mul_le_mul_left _ (by omega)
 rw [Nat.mul_add (10000^j) _ 1] at h5
 omega
def cmpN (a b:Nat):Int:=if a < b then -1 else if a=b then 0 else 1
theorem dgs_inj {a b:Nat} (h:dgs a=dgs b):a=b:=by
 have:=congrArg dval h
 rwa [dval_dgs,dval_dgs] at this
theorem len_lt {a b:Nat} (h:(dgs a).length < (dgs b).length):a < b:=by
 have h1:=lt_dgs a
 have h2:=dgs_le (n:=b) (by intro h0; rw [h0,dgs_zero] at h; simp at h)
 have:=pow_le (i:=(dgs a).length) (j:=(dgs b).length - 1) (by omega)
 omega
theorem compare_eq (a b:Nat) (ha:(dgs a).length≤1000000) (hb:(dgs b).length≤1000000):g_ref01_compare (dgs a) (dgs b)=some (cmpN a b):=by
 unfold g_ref01_compare cmpN
 by_cases hl:(dgs a).length=(dgs b).length
 ·rw [if_neg (by simp [hl])]
  have key:=whileN_ex (body:=g_ref01_compare_b0 (dgs a) (dgs b)) (fun s=>∃k:Nat,s=(k:Int) - 1∧k≤(dgs a).length∧(dgs a).drop k=(dgs b).drop k) (fun s=>(s+1).toNat)
   (fun r=>(match r with | .inl x=>some x | .inr _=>some (0:Int))=some (if a < b then (-1:Int) else if a=b then 0 else 1)) ?_
   (IntKind.i64.wrap (((dgs a).length:Int) - 1)) ⟨(dgs a).length,by rw [w64 (by omega)],Nat.le_refl _,by rw [List.drop_length,hl,List.drop_length]⟩ (by rw [w64 (by omega)]; omega)
  ·obtain ⟨r,h1,h2⟩:=key
   rw [h1]
   exact h2
  ·rintro s ⟨k,rfl,hk,hd⟩
   cases k with
   | zero =>
    right
    refine ⟨.inr (),by simp [g_ref01_compare_b0],?_⟩
    simp only [List.drop_zero] at hd
    have:=dgs_inj hd
    subst this
    simp
   | succ k =>
    have e:((k+1:Nat):Int) - 1=(k:Int):=by omega
    rw [e]
    have hka:k < (dgs a).length:=by omega
    have hkb:k < (dgs b).length:=by omega
    unfold g_ref01_compare_b0
    rw [if_pos (by simp),lkI_nat hka,lkI_nat hkb]
    simp only [Option.bind_some]
    by_cases hne:(dgs a)[k]=(dgs b)[k]
    ·left
     refine ⟨(k:Int) - 1,?_,⟨k,rfl,by omega,?_⟩,by omega⟩
     ·rw [if_neg (by simp [hne]),w64 (by omega)]
     ·rw [List.drop_eq_getElem_cons hka,List.drop_eq_getElem_cons hkb,hne,hd]
    ·right
     rw [if_pos (by simp [hne])]
     by_cases hlt:(dgs a)[k] < (dgs b)[k]
     ·refine ⟨.inl (-1),by simp [hlt],?_⟩
      have:=dval_lt_of (isdg_dgs a) (isdg_dgs b) hl hka hd hlt
      rw [dval_dgs,dval_dgs] at this
      simp [this]
     ·refine ⟨.inl 1,by simp [hlt],?_⟩
      have:=dval_lt_of (isdg_dgs b) (isdg_dgs a) hl.symm hkb hd.symm (by omega)
      rw [dval_dgs,dval_dgs] at this
      simp only [Option.some.injEq]
      rw [if_neg (by omega),if_neg (by omega)]
 ·rw [if_pos (by simp; omega)]
  by_cases hlt:(dgs a).length < (dgs b).length
  ·have:=len_lt hlt
   simp [hlt,this]
  ·have:=len_lt (a:=b) (b:=a) (by omega)
   rw [if_neg (by simp; omega),if_neg (by omega),if_neg (by omega)]
theorem sub_take {l:List Int} {k:Nat}:sub l 0 (k:Int)=l.take k:=by simp [sub]
theorem cut_eq (l:List Int) (h:isdg l) (hl:l.length≤1000000):g_ref01_cut l=some (dgs (dval l)):=by
 unfold g_ref01_cut
 rw [whileN_eq (fun s=>isdg s∧dval s=dval l∧s.length≤1000000) (fun s=>s.length) (dgs (dval l)) ?_ l ⟨h,rfl,hl⟩ (by omega)]
 ·rfl
 ·rintro s ⟨h1,h2,h3⟩
  unfold g_ref01_cut_b0
  by_cases hs:s.length=0
  ·right
   rw [if_neg (by simp [hs])]
   have:s=[]:=List.length_eq_zero_iff.1 hs
   subst this
   rw [←h2]; simp [dval,dgs_zero]
  ·obtain ⟨k,hk⟩:∃k,s.length=k+1:=⟨s.length - 1,by omega⟩
   rw [if_pos (by simp; omega),w64 (by omega),show (s.length:Int) - 1=(k:Int) by omega,lkI_nat (by omega)]
   simp only [Option.bind_some]
   by_cases h0:s[k]=0
   ·left
    refine ⟨s.take k,?_,⟨isdg_take h1 k,?_,by simp; omega⟩,by simp; omega⟩
    ·rw [if_pos (by simp [h0]),if_pos (by omega),sub_take]
    ·rw [←h2,dval_split (l:=s) (k:=k) (by omega),dval_drop (by omega),h0,List.drop_of_length_le (by omega)]; simp [dval]
   ·right
    rw [if_neg (by simp [h0])]
    have hn:nolz s:=by
     unfold nolz
     rw [List.getLast?_eq_getElem?,hk,Nat.add_sub_cancel,List.getElem?_eq_getElem (by omega)]
     simpa using h0
    rw [←h2,dgs_of h1 hn]
theorem dval_drop_pos {l:List Int} (h:isdg l) (hn:nolz l) {k:Nat} (hk:k < l.length):0 < dval (l.drop k):=by
 have h1:nolz (l.drop k):=by
  unfold nolz at *
  rwa [List.getLast?_drop,if_neg (by omega)]
 have h2:=dgs_of (isdg_drop h k) h1
 rcases Nat.eq_zero_or_pos (dval (l.drop k)) with h0 | h0
 ·rw [h0,dgs_zero] at h2
  have:=congrArg List.length h2
  simp at this; omega
 ·exact h0
theorem dval_drop_ge {l:List Int} {k:Nat} (hk:l.length≤k):dval (l.drop k)=0:=by rw [List.drop_of_length_le hk]; rfl
def dat (l:List Int) (k:Nat):Int:=l.getD k 0
theorem dat_lt {l:List Int} {k:Nat} (h:k < l.length):dat l k=l[k]:=by simp [dat,h]
theorem dat_ge {l:List Int} {k:Nat} (h:l.length≤k):dat l k=0:=by simp [dat,h]
theorem dat_dg {l:List Int} (h:isdg l) (k:Nat):0≤dat l k∧dat l k < 10000:=by
 rcases Nat.lt_or_ge k l.length with hk | hk
 ·rw [dat_lt hk]; exact isdg_get h hk
 ·rw [dat_ge hk]; omega
theorem dval_dat (l:List Int) (k:Nat):dval (l.drop k)=(dat l k).toNat + 10000*dval (l.drop (k+1)):=by
 rcases Nat.lt_or_ge k l.length with hk | hk
 ·rw [dat_lt hk]; exact dval_drop hk
 ·rw [dval_drop_ge hk,dval_drop_ge (by omega),dat_ge hk]; rfl
theorem dval_snoc (l:List Int) (x:Int):dval (l++[x])=dval l+10000^l.length*x.toNat := by rw [dval_append]; simp [dval]
theorem minus_eq (a b:Nat) (hab:b≤a) (ha:(dgs a).length≤1000000):g_ref01_minus (dgs a) (dgs b)=some (dgs (a - b)):=by
 unfold g_ref01_minus
 have hlb:(dgs b).length≤(dgs a).length:=by
  rcases Nat.lt_or_ge (dgs a).length (dgs b).length with h | h
  ·have:=len_lt h; omega
  ·exact h
 obtain ⟨M,hM⟩:∃M:Nat,M=2000005:=⟨_,rfl⟩
 obtain ⟨out,h1,h2,h3,h4⟩:∃out,whileN fuel (g_ref01_minus_b0 (dgs a) (dgs b)) (0,0,[])=some out∧isdg out∧out.length≤1000000∧dval out=a - b:=by
  refine whileN_ex (fun s=>∃i c:Nat,s.2.1=(i:Int)∧s.1=(c:Int)∧c≤1∧i≤(dgs a).length∧s.2.2.length=i∧isdg s.2.2∧dval s.2.2+dval ((dgs b).take i)=dval ((dgs a).take i)+10000^i*c) (fun s=>M - s.2.1.toNat) _ ?_ (0,0,[])
   ⟨0,0,rfl,rfl,by omega,by omega,rfl,isdg_nil,by simp [dval]⟩ (by simp only; omega)
  rintro ⟨c0,i0,out⟩ ⟨i,c,h1,h2,hc,hi,ho,hd,hv⟩
  simp only at h1 h2 ho hd hv
  subst h1; subst h2
  unfold g_ref01_minus_b0
  simp only
  by_cases h1:i < (dgs a).length
  ·left
   have xa:=isdg_get (isdg_dgs a) h1
   have xb:=dat_dg (isdg_dgs b) i
   have tb:dval ((dgs b).take (i+1))=dval ((dgs b).take i)+10000^i*(dat (dgs b) i).toNat := by
    rcases Nat.lt_or_ge i (dgs b).length with h | h
    ·rw [dval_take_succ h,dat_lt h]
    ·rw [dat_ge h,List.take_of_length_le (by omega),List.take_of_length_le (by omega)]; simp
   have round:∀d:Int,∀c':Nat,d=(dgs a)[i] - c - dat (dgs b) i+10000*c'→0≤d→d < 10000→c'≤1→∃j e:Nat,((i:Int)+1)=(j:Int)∧(c':Int)=(e:Int)∧e≤1∧j≤(dgs a).length∧(out++[d]).length=j∧isdg (out++[d]) ∧
     dval (out++[d])+dval ((dgs b).take j)=dval ((dgs a).take j)+10000^j*e:=by
    intro d c' hd' h0 h9 hc'
    refine ⟨i+1,c',by omega,rfl,hc',h1,by simp [ho],?_,?_⟩
    ·rw [isdg_append]; exact ⟨hd,isdg_cons.2 ⟨⟨h0,h9⟩,isdg_nil⟩⟩
    ·rw [dval_snoc,ho,tb,dval_take_succ h1,Nat.pow_succ]
     have e1:d.toNat + (dat (dgs b) i).toNat + c=(dgs a)[i].toNat + 10000*c':=by omega
     have e2:10000^i*(d.toNat + (dat (dgs b) i).toNat + c)=10000^i*((dgs a)[i].toNat + 10000*c'):=by rw [e1]
     rw [Nat.mul_add,Nat.mul_add,Nat.mul_add,←Nat.mul_assoc] at e2
     omega
   rw [if_pos (by simp [h1]),lkI_nat h1]
   simp only [Option.bind_some]
   by_cases h2:i < (dgs b).length
   ·rw [if_pos (by simp [h2]),lkI_nat h2]
    simp only [Option.bind_some]
    rw [dat_lt h2] at xb round
    have hw:IntKind.i64.wrap (IntKind.i64.wrap ((dgs a)[i] - (c:Int)) - (dgs b)[i])=(dgs a)[i] - c - (dgs b)[i]:=by rw [w64 (n:=(dgs a)[i] - (c:Int)) (by omega),w64 (by omega)]
    rw [hw,w64 (n:=(i:Int)+1) (by omega)]
    by_cases h3:(dgs a)[i] - c - (dgs b)[i] < 0
    ·rw [if_pos (by simp [h3]),w64 (by omega),if_pos (by simp; omega)]
     exact ⟨_,rfl,round _ 1 (by omega) (by omega) (by omega) (by omega),by simp only; omega⟩
    ·rw [if_neg (by simpa using h3),if_pos (by simp; omega)]
     exact ⟨_,rfl,round _ 0 (by omega) (by omega) (by omega) (by omega),by simp only; omega⟩
   ·rw [if_neg (by simp; omega)]
    rw [dat_ge (by omega)] at xb round
    rw [w64 (n:=(dgs a)[i] - (c:Int)) (by omega),w64 (n:=(i:Int)+1) (by omega)]
    by_cases h3:(dgs a)[i] - (c:Int) < 0
    ·rw [if_pos (by simp [h3]),w64 (by omega),if_pos (by simp; omega)]
     exact ⟨_,rfl,round _ 1 (by omega) (by omega) (by omega) (by omega),by simp only; omega⟩
    ·rw [if_neg (by simpa using h3),if_pos (by simp; omega)]
     exact ⟨_,rfl,round _ 0 (by omega) (by omega) (by omega) (by omega),by simp only; omega⟩
  ·right
   rw [if_neg (by simp; omega)]
   have:i=(dgs a).length:=by omega
   subst this
   rw [List.take_length,List.take_of_length_le hlb,dval_dgs,dval_dgs] at hv
   have h5:=dval_lt hd
   rw [ho] at h5
   refine ⟨out,rfl,hd,by omega,?_⟩
   rcases Nat.eq_zero_or_pos c with h | h
   ·subst h; omega
   ·have:c=1:=by omega
    subst this
    omega
 rw [h1]
 simp only [Option.bind_some]
 rw [cut_eq out h2 h3,h4]
 rfl
theorem dval_set {l:List Int} {k:Nat} (hk:k < l.length) {x:Int} (hx:0≤x) (h0:0≤l[k]):dval (l.set k x)+10000^k*l[k].toNat = dval l+10000^k*x.toNat := by
 induction l generalizing k with
 | nil=>simp at hk
 | cons y l ih =>
  cases k with
  | zero=>simp only [List.set_cons_zero,dval,List.getElem_cons_zero,Nat.pow_zero]; omega
  | succ k =>
   simp only [List.set_cons_succ,dval,List.getElem_cons_succ,Nat.pow_succ] at *
   have:=ih (by simpa using hk) h0
   have e:∀z,10000^k*10000*z=10000*(10000^k*z):=fun z=>by rw [Nat.mul_comm (10000^k),Nat.mul_assoc]
   rw [e,e]
   omega
theorem isdg_set {l:List Int} (h:isdg l) {k:Nat} {x:Int} (hx:0≤x∧x < 10000):isdg (l.set k x):=by
 intro y hy
 rcases List.mem_or_eq_of_mem_set hy with h1 | h1
 ·exact h y h1
 ·subst h1; exact hx
theorem isdg_replicate (n:Nat):isdg (List.replicate n (0:Int)):=fun x hx=>by
 rw [List.mem_replicate] at hx
 omega
theorem dval_replicate (n:Nat):dval (List.replicate n (0:Int))=0:=by
 induction n with
 | zero=>rfl
 | succ n ih=>simp [List.replicate_succ,dval,ih]
theorem times_eq (x y:List Int) (hx:isdg x) (hy:∀z∈y,0≤z∧z≤10000) (hyv:dval y≤10000^y.length) (lx:x.length≤10000) (ly:y.length≤10000):g_ref01_times x y=some (dgs (dval x*dval y)):=by
 unfold g_ref01_times
 obtain ⟨M,hM⟩:∃M:Nat,M=2000005:=⟨_,rfl⟩
 have hw:IntKind.i64.wrap ((x.length:Int)+(y.length:Int))=((x.length+y.length:Nat):Int):=by rw [w64 (by omega)]; omega
 rw [hw,if_pos (by omega),Int.toNat_natCast]
 obtain ⟨out,h1,h2,h3,h4⟩:∃out,whileN fuel (g_ref01_times_b1 x y) (0,List.replicate (x.length+y.length) 0)=some out∧isdg out∧out.length=x.length+y.length∧dval out=dval x*dval y:=by
  refine whileN_ex (fun s=>∃i:Nat,s.1=(i:Int)∧i≤x.length∧s.2.length=x.length+y.length∧isdg s.2∧dval s.2=dval (x.take i)*dval y) (fun s=>M - s.1.toNat) _ ?_ (0,List.replicate (x.length+y.length) 0)
   ⟨0,rfl,by omega,by simp,isdg_replicate _,by simp [dval,dval_replicate]⟩ (by simp only; omega)
  rintro ⟨i0,o⟩ ⟨i,h1,hi,ho,hd,hv⟩
  simp only at h1 ho hd hv
  subst h1
  unfold g_ref01_times_b1
  simp only
  by_cases h1:i < x.length
  ·left
   rw [if_pos (by simp [h1])]
   have xi:=isdg_get hx h1
   have tot:dval (x.take (i+1))*dval y < 10000^(i+1+y.length):=by
    have a1:=dval_lt (isdg_take hx (i+1))
    rw [List.length_take,Nat.min_eq_left (by omega)] at a1
    have a2:(dval (x.take (i+1))+1)*dval y≤10000^(i+1)*10000^y.length:=Nat.mul_le_mul a1 hyv
    rw [←Nat.pow_add,Nat.add_mul] at a2
    rcases Nat.eq_zero_or_pos (dval y) with h | h
    ·rw [h,Nat.mul_zero]; exact Nat.pow_pos (by omega)
    ·omega
   obtain ⟨o',e1,e2,e3,e4⟩:∃o',whileN fuel (g_ref01_times_b0 y ((i:Int),o) x) (0,0,o)=some o'∧isdg o'∧o'.length=x.length+y.length∧dval o'=dval (x.take (i+1))*dval y:=by
    refine whileN_ex (fun s=>∃k c:Nat,s.2.1=(k:Int)∧s.1=(c:Int)∧c≤10000∧i+k≤x.length+y.length∧s.2.2.length=x.length+y.length∧isdg s.2.2∧dval s.2.2+10000^(i+k)*c=dval o+10000^i*(x[i].toNat * dval (y.take k))) (fun s=>M - s.2.1.toNat) _ ?_ (0,0,o)
     ⟨0,0,rfl,rfl,by omega,by omega,ho,hd,by simp [dval]⟩ (by simp only; omega)
    rintro ⟨c0,k0,o2⟩ ⟨k,c,g1,g2,gc,gk,go,gd,gv⟩
    simp only at g1 g2 go gd gv
    subst g1; subst g2
    have full:y.length≤k→dval o+10000^i*(x[i].toNat * dval (y.take k))=dval (x.take (i+1))*dval y:=fun h=>by
     rw [List.take_of_length_le h,hv,dval_take_succ h1,Nat.add_mul,Nat.mul_assoc]
    unfold g_ref01_times_b0
    simp only
    have hik:IntKind.i64.wrap ((i:Int)+(k:Int))=((i+k:Nat):Int):=by rw [w64 (by omega)]; omega
    rw [hik]
    by_cases hk:k < y.length
    ·left
     have hj:i+k < o2.length:=by omega
     have yk:=hy _ (List.getElem_mem hk)
     have oj:=isdg_get gd hj
     rw [if_pos (by simp [hk]),lkI_nat hj]
     simp only [Option.bind_some]
     rw [lkI_nat h1]
     simp only [Option.bind_some]
     rw [lkI_nat hk]
     simp only [Option.bind_some]
     have p1:0≤x[i]*y[k]:=Int.mul_nonneg xi.1 yk.1
     have p2:x[i]*y[k]≤9999*10000:=Int.mul_le_mul (by omega) yk.2 yk.1 (by omega)
     have hc:IntKind.i64.wrap (IntKind.i64.wrap ((c:Int)+o2[i+k])+IntKind.i64.wrap (x[i]*y[k]))=c+o2[i+k]+x[i]*y[k]:=by
      rw [w64 (n:=(c:Int)+o2[i+k]) (by omega),w64 (n:=x[i]*y[k]) (by omega),w64 (by omega)]
     rw [hc,tdiv_pos (by omega),tmod_pos (by omega),w64 (n:=_ / 10000) (by omega),w64 (n:=(k:Int)+1) (by omega),Int.toNat_natCast]
     generalize ht:c+o2[i+k]+x[i]*y[k]=t at *
     refine ⟨_,rfl,⟨k+1,(t / 10000).toNat,by simp only; omega,by simp only; omega,by omega,by omega,by simp [go],isdg_set gd (by omega),?_⟩,by simp only; omega⟩
     simp only
     have s1:=dval_set (l:=o2) (k:=i+k) hj (x:=t % 10000) (by omega) oj.1
     have pt:(x[i]*y[k]).toNat = x[i].toNat * y[k].toNat := Int.toNat_mul xi.1 yk.1
     have e1:(t % 10000).toNat + 10000*(t / 10000).toNat = c+o2[i+k].toNat + x[i].toNat * y[k].toNat := by omega
     have e2:10000^(i+k)*((t % 10000).toNat + 10000*(t / 10000).toNat)=10000^(i+k)*(c+o2[i+k].toNat + x[i].toNat * y[k].toNat):=by rw [e1]
     rw [Nat.mul_add,Nat.mul_add,Nat.mul_add,←Nat.mul_assoc] at e2
     rw [dval_take_succ hk,Nat.mul_add,Nat.mul_add,show i+(k+1)=(i+k)+1 by omega,Nat.pow_succ]
     have e3:10000^i*(x[i].toNat * (10000^k*y[k].toNat))=10000^(i+k)*(x[i].toNat * y[k].toNat):=by
      rw [Nat.pow_add,Nat.mul_assoc,Nat.mul_left_comm (10000^k)]
     rw [e3]
     omega
    ·rw [if_neg (by simp; omega)]
     by_cases hc:0 < c
     ·left
      have hj:i+k < o2.length:=by
       rw [full (by omega)] at gv
       have:10000^(i+k)*1≤10000^(i+k)*c:=Nat.mul_le_mul_left _ hc
       have h5:10000^(i+k) < 10000^(i+1+y.length):=by omega
       have:=(Nat.pow_lt_pow_iff_right (by omega)).1 h5
       omega
      have oj:=isdg_get gd hj
      rw [if_pos (by simp [hc]),lkI_nat hj]
      simp only [Option.bind_some]
      rw [w64 (n:=(c:Int)+o2[i+k]) (by omega),tdiv_pos (by omega),tmod_pos (by omega),w64 (n:=_ / 10000) (by omega),w64 (n:=(k:Int)+1) (by omega),Int.toNat_natCast]
      generalize ht:(c:Int)+o2[i+k]=t at *
      refine ⟨_,rfl,⟨k+1,(t / 10000).toNat,by simp only; omega,by simp only; omega,by omega,by omega,by simp [go],isdg_set gd (by omega),?_⟩,by simp only; omega⟩
      simp only
      have s1:=dval_set (l:=o2) (k:=i+k) hj (x:=t % 10000) (by omega) oj.1
      have e1:(t % 10000).toNat + 10000*(t / 10000).toNat = c+o2[i+k].toNat := by omega
      have e2:10000^(i+k)*((t % 10000).toNat + 10000*(t / 10000).toNat)=10000^(i+k)*(c+o2[i+k].toNat):=by rw [e1]
      rw [Nat.mul_add,Nat.mul_add,←Nat.mul_assoc] at e2
      rw [List.take_of_length_le (by omega)] at gv ⊢
      rw [show i+(k+1)=(i+k)+1 by omega,Nat.pow_succ]
      omega
     ·right
      rw [if_neg (by simp; omega)]
      have:c=0:=by omega
      subst this
      rw [full (by omega)] at gv
      exact ⟨o2,rfl,gd,go,by simpa using gv⟩
   rw [e1]
   simp only [Option.bind_some]
   rw [w64 (n:=(i:Int)+1) (by omega)]
   exact ⟨_,rfl,⟨i+1,by simp only; omega,by omega,e3,e2,e4⟩,by simp only; omega⟩
  ·right
   rw [if_neg (by simp; omega)]
   rw [List.take_of_length_le (by omega)] at hv
   exact ⟨o,rfl,hd,ho,hv⟩
 rw [h1]
 simp only [Option.bind_some]
 rw [cut_eq out h2 (by omega),h4]
 rfl
end Go.Ab
