/- Functions. No conditions. -/
import Derived.Test.YtiadakgfblkelaaW16
set_option linter.all false
namespace Go.Ab
open Go
set_option maxRecDepth 100000
def Q1r (h:Qb) (n:Nat) (seen:List Int):List (List Qe) × Int :=
 if sumTo n (fw h n seen (seen.length - 1))=0 then ([],7) else (Qf seen.length fun t=>shL n fun s=>fw h n seen t s*bw h n seen seen.length t s,0)
theorem Qx7:@Jt=fun x=>Zh x.1:=by
 have e1:@Qak=fun a s t x=>Zs a s t x.1:=rfl
 have e2:@Jq=fun x=>Zi x.1:=by
  funext x s t
  unfold Jq Zi
  rw [e1]
 funext x s
 unfold Jt Zh
 rw [e2]
theorem Qzh:@Qal=fun x=>Z9 x.1:=rfl
section
variable {h:Qb} {seen:List Int} {g n k:Nat} (a:Xw h seen g n k)
include a
theorem Xw.back:(Qd fuel (Z9 ⟨h,seen⟩) (0,List.replicate (Int.toNat (seen.length:Int)) ([]:List Int))).bind (fun x=>Qd fuel (Zh ⟨h,seen⟩) (zw ((seen.length:Int) - 1),x))=some (Xo seen.length n (bw h n seen seen.length)):=by
 have h1:=a.v.backward_eq a.w ⟨a.t1,a.t8⟩
 have h8:=a.t8
 unfold Z3 at h1
 rw [if_pos (by simp only []; omega)] at h1
 simpa using h1
theorem Xw.fb_mx {t s:Nat} (ht:t < seen.length) (hs:s < n):fw h n seen t s*bw h n seen seen.length t s≤MX∧sumTo n (fun s=>fw h n seen t s*bw h n seen seen.length t s)=sumTo n (fw h n seen (seen.length - 1)):=by
 have hT:1≤seen.length∧seen.length≤8:=⟨a.t1,a.t8⟩
 have e:=Qm3 h n seen (seen.length - 1 - t) t (T:=seen.length) (by omega)
 refine ⟨?_,e⟩
 have:=Qaj (f:=fun s=>fw h n seen t s*bw h n seen seen.length t s) hs
 rw [e] at this
 exact Nat.le_trans this (a.v.fw_mx a.w hT (by omega))
theorem Xw.smooth:Vh h seen=some (Q1r h n seen):=by
 have hT:1≤seen.length∧seen.length≤8:=⟨a.t1,a.t8⟩
 have hn4:=a.v.n4
 have hMX:=Qjd
 unfold Vh Q1r
 rw [a.watch]
 simp only [Option.bind_some]
 rw [if_neg (by simp),a.v.possible_eq a.w hT]
 simp only [Option.bind_some]
 by_cases e:sumTo n (fw h n seen (seen.length - 1))=0
 ·rw [if_pos e,if_pos e,if_pos (by simp)]
 rw [if_neg e,if_neg e,if_neg (by simp),Qzh,Qx7]
 simp only []
 rw [if_pos (by omega)]
 obtain ⟨x,hx1,hx2⟩:=Option.bind_eq_some_iff.1 a.back
 rw [hx1]
 simp only [Option.bind_some]
 rw [hx2]
 simp only [Option.bind_some]
 rw [Q9 (s0:=((0:Int),([]:List (List Qe)),Xo seen.length n (bw h n seen seen.length)))
  (fun j=>((j:Int),(Qf j fun t=>shL n fun s=>fw h n seen t s*bw h n seen seen.length t s),Xo seen.length n fun t s=>if t < j then fw h n seen t s*bw h n seen seen.length t s else bw h n seen seen.length t s)) seen.length
  (Qf seen.length fun t=>shL n fun s=>fw h n seen t s*bw h n seen seen.length t s) ?_ ?_ ?_ (by omega)]
 ·rfl
 ·refine Prod.ext rfl (Prod.ext rfl (Zz fun t _ s _=>by simp))
 ·intro j hj
  unfold Jn
  simp only [Qbw]
  rw [if_pos (by rw [decide_eq_true_eq]; omega),Ja hj]
  simp only [Option.bind_some]
  rw [Q9 (s0:=((0:Int),Xo seen.length n fun t s=>if t < j then fw h n seen t s*bw h n seen seen.length t s else bw h n seen seen.length t s))
   (fun i=>((i:Int),Xo seen.length n fun t s=>if t < j∨t=j∧s < i then fw h n seen t s*bw h n seen seen.length t s else bw h n seen seen.length t s)) n
   (Xo seen.length n fun t s=>if t < j+1 then fw h n seen t s*bw h n seen seen.length t s else bw h n seen seen.length t s) ?_ ?_ ?_ (by omega)]
  ·simp only [Option.bind_some]
   rw [Ja hj]
   simp only [Option.bind_some]
   have hr:(Xn n fun s=>if j < j+1 then fw h n seen j s*bw h n seen seen.length j s else bw h n seen seen.length j s)=Xn n fun s=>fw h n seen j s*bw h n seen seen.length j s:=Kk fun s _=>by rw [if_pos (by omega)]
   obtain ⟨_,hs⟩:=a.fb_mx hj (s:=0) (by have:=a.v.n1; omega)
   rw [if_pos (by rw [Yk,Yk]),hr,Qn7 (by omega) (by rw [hs]; omega) (by rw [hs]; exact a.v.fw_mx a.w hT (by omega))]
   simp only [Option.bind_some]
   rw [Qcl (F:=fun t=>shL n fun s=>fw h n seen t s*bw h n seen seen.length t s),if_pos (by rw [Qq]; omega),w64 (by omega)]
   rfl
  ·refine Prod.ext rfl (Zz fun t _ s _=>by simp)
  ·intro i hi
   unfold Jr
   simp only [Yk]
   rw [if_pos (by rw [decide_eq_true_eq]; omega),Ja hj]
   simp only [Option.bind_some]
   rw [Vr hi]
   simp only [Option.bind_some]
   rw [if_pos (by omega),Ja hj]
   simp only [Option.bind_some]
   rw [Vr hi]
   simp only [Option.bind_some]
   obtain ⟨hm,_⟩:=a.fb_mx hj hi
   rw [if_pos (by omega)]
   simp only [Nat.lt_irrefl,and_false,or_self,if_false,true_and,false_or]
   rw [←Int.natCast_mul,Nat.mul_comm (bw h n seen seen.length j i),w64 (by omega),w64 (by omega),Qas,Qas,Qky,Qmw]
   congr 2
   refine Prod.ext (by simp only []; omega) (Zz fun t _ s _=>?_)
   by_cases e1:t=j
   ·subst e1
    rw [if_pos rfl]
    by_cases e2:s=i
    ·subst e2; rw [if_pos rfl,if_pos (by omega)]
    ·rw [if_neg e2]
     by_cases e3:s < i
     ·rw [if_pos e3,if_pos (Or.inr ⟨rfl,by omega⟩)]
     ·rw [if_neg e3,if_neg (by omega)]
   ·rw [if_neg e1]
    by_cases e3:t < j
    ·rw [if_pos (by omega),if_pos (by omega)]
    ·rw [if_neg (by omega),if_neg (by omega)]
  ·unfold Jr
   simp only [Yk]
   rw [if_neg (by simp)]
   congr 2
   refine Zz fun t _ s hs=>?_
   by_cases e3:t < j+1
   ·rw [if_pos (by omega),if_pos e3]
   ·rw [if_neg (by omega),if_neg e3]
 ·unfold Jn
  simp only [Qbw]
  rw [if_neg (by simp)]
end
theorem Qte (h:Qb) (n:Nat) {s1 s2:List Int}:∀(t s:Nat),(∀u,u≤t→s1.getD u 0=s2.getD u 0)→fw h n s1 t s=fw h n s2 t s
 | 0,s,e=>by simp only [fw]; rw [e 0 (by omega)]
 | t+1,s,e=>by
  simp only [fw]
  rw [e (t+1) (by omega),Zl fun r _=>by rw [Qte h n t r fun u hu=>e u (by omega)]]
end Go.Ab
namespace Go.Ab
open Go
set_option maxRecDepth 100000
theorem Qwx (l:List Qe) (hl:l.length≤100000):Qbp l l=some true:=by
 unfold Qbp
 rw [if_neg (by simp)]
 rw [Q9 (s0:=(0:Int)) (fun i=>(i:Int)) l.length (Sum.inr ()) rfl (fun i hi=>by
  unfold Qb2
  rw [if_pos (by rw [decide_eq_true_eq]; omega),Xh hi]
  simp only [Option.bind_some]
  rw [if_neg (by simp),w64 (by omega)]; rfl) (by
  unfold Qb2
  rw [if_neg (by simp)]) (by omega)]
 rfl
theorem Qu0 (l:List Qe) (hl:l.length≤100000):Zo l l=some true:=Qwx l hl
end Go.Ab
namespace Go.Ab
open Go
set_option maxRecDepth 100000
theorem VH.head {h:Qb} {g n k:Nat} (v:VH h g n k):(h.Show.headD []).length=k:=by
 have h1:=v.showL; have h2:=v.n1
 cases hs:h.Show with
 | nil=>rw [hs] at h1; simp at h1; omega
 | cons x L=>exact (v.shows x (by rw [hs]; simp)).1
theorem VH.right {h:Qb} {g n k:Nat} (v:VH h g n k):Qej h=true:=by
 have h0:=v.head
 have h1:=v.firstL; have h2:=v.stepL; have h3:=v.showL; have h4:=v.grain; have h5:=v.g1; have h6:=v.g12; have h7:=v.n1; have h8:=v.n4; have h9:=v.k1; have h10:=v.k4
 unfold Qej
 simp only [Bool.and_eq_true,decide_eq_true_eq,beq_iff_eq,List.all_eq_true,Qtb]
 refine ⟨by omega,by omega,by omega,by omega,by omega,by omega,by omega,by rw [h4]; exact v.first,⟨by omega,fun l hl=>?_⟩,by omega,fun l hl=>?_⟩
 ·obtain ⟨a,b⟩:=v.step l hl; exact ⟨by omega,by rw [h4]; exact b⟩
 ·obtain ⟨a,b⟩:=v.shows l hl; exact ⟨by omega,by rw [h4]; exact b⟩
theorem VH.valid {h:Qb} {g n k:Nat} (v:VH h g n k) {seen:List Int} (w:VS k seen seen.length) (t1:1≤seen.length) (t8:seen.length≤8):Xw h seen g n k:=by
 refine ⟨v,w,t1,t8,v.few.ok,?_⟩
 unfold Qsd
 rw [if_pos v.right,if_pos]
 unfold Qgt seesB
 rw [Bool.and_eq_true,Bool.and_eq_true,decide_eq_true_eq,decide_eq_true_eq,List.all_eq_true]
 refine ⟨fun x hx=>?_,by omega,by omega⟩
 rw [Bool.and_eq_true,decide_eq_true_eq,decide_eq_true_eq,v.head]
 exact w.all x hx
theorem Qut (p0:Qn) (h0:Xj p0):∃h seen g n k,Yr p0=some h∧Ve p0=some seen∧Xw h seen g n k:=by
 obtain ⟨h,g,n,k,e,v,hk⟩:=Q0a p0 h0
 obtain ⟨seen,ex,x1,x8,xs⟩:=Q3d p0 h0 hk
 exact ⟨h,seen,g,n,k,e,ex,v.valid xs x1 x8⟩
theorem Qq1 (l:List Int) (hl:l.length≤1000):Qy l=some l:=by
 unfold Qy
 cases l with
 | nil=>rfl
 | cons x l =>
  simp only []
  unfold Xr
  rw [if_pos (by omega)]
end Go.Ab
namespace Go.Ab
open Go
set_option maxRecDepth 100000
theorem Qkr (L:List (List Int)) (hL:L.length≤1000) (hl:∀l∈L,l.length≤1000):X7 L=some L:=by
 unfold X7
 rw [Q9 (s0:=((0:Int),([]:List (List Int)))) (fun j=>((j:Int),L.take j)) L.length L (by simp) ?_ ?_ (by omega)]
 ·rfl
 ·intro j hj
  unfold K9
  simp only []
  rw [if_pos (by rw [decide_eq_true_eq]; omega),Xh hj]; simp only [Option.bind_some]
  rw [Qq1 _ (hl _ (List.getElem_mem hj))]; simp only [Option.bind_some]
  rw [←List.take_succ_eq_append_getElem hj,if_pos (by rw [List.length_take]; omega),w64 (by omega)]
  rfl
 ·unfold K9
  simp only []
  rw [if_neg (by simp),List.take_length]
def Vj (h:Qb) (n k:Nat):Nat → List Qm
 | 0=>[]
 | t+1=>Vj h n k t++[⟨(n:Int),if t=0 then [] else [2*(t:Int) - 2],if t=0 then [h.First] else h.Step⟩,⟨(k:Int),[2*(t:Int)],h.Show⟩]
theorem Qns (h:Qb) (n k t:Nat):(Vj h n k t).length=2*t:=by
 induction t with
 | zero=>rfl
 | succ t ih=>simp only [Vj,List.length_append,ih,List.length_cons,List.length_nil]; omega
end Go.Ab
namespace Go.Ab
open Go
set_option maxRecDepth 100000
set_option maxHeartbeats 400000
theorem Qfb {n:Nat} {f:Nat → Nat}:Q0 n (fun x=>(f x:Int))=(sumTo n f:Int):=by
 induction n with
 | zero=>rfl
 | succ n ih=>simp only [Q0,sumTo]; rw [ih]; omega
theorem Qmr {f:Nat → Nat} {k:Nat} (hf:f k=0):∀{n:Nat},k < n→Qh n f=0
 | n+1,h=>by
  unfold Qh
  by_cases e:k=n
  ·subst e; rw [hf,Nat.mul_zero]
  ·rw [Qmr hf (by omega),Nat.zero_mul]
theorem Qd6 {c:Nat}:∀n,Qh n (fun _=>c)=c^n
 | 0=>rfl
 | n+1=>by unfold Qh; rw [Qd6 n,Nat.pow_succ]
def chW (h:Qb) (j r x:Nat):Nat := if j % 2=1 then nat2 h.Show r x else if j=0 then nat1 h.First x else nat2 h.Step r x
def chP (j:Nat):List Nat := if j % 2=1 then [j - 1] else if j=0 then [] else [j - 2]
def chC (n k j:Nat):Nat := if j % 2=1 then k else n
def chD (h:Qb) (g n k T:Nat):NF:=⟨2*T,g,chC n k,chP,chW h⟩
section
variable {h:Qb} {g n k T t:Nat}
theorem Jx:chC n k (2*t)=n:=if_neg (by omega)
theorem Qdr:chC n k (2*t+1)=k:=if_pos (by omega)
theorem Qpy:chP (2*t+1)=[2*t]:=if_pos (by omega)
theorem Qnp:chP (2*(t+1))=[2*t]:=by
 unfold chP
 rw [if_neg (by omega),if_neg (by omega)]; rfl
theorem Qpe {r x:Nat}:chW h (2*t+1) r x=nat2 h.Show r x:=if_pos (by omega)
theorem Qno {r x:Nat}:chW h (2*(t+1)) r x=nat2 h.Step r x:=by
 unfold chW
 rw [if_neg (by omega),if_neg (by omega)]
theorem Qtp {p j:Nat} (hp:p∈chP j):p < j:=by
 unfold chP at hp
 by_cases c:j % 2=1
 ·rw [if_pos c] at hp
  have:p=j - 1:=by simpa using hp
  omega
 ·rw [if_neg c] at hp
  by_cases c2:j=0
  ·rw [if_pos c2] at hp; cases hp
  ·rw [if_neg c2] at hp
   have:p=j - 2:=by simpa using hp
   omega
theorem Qmh:(chD h g n k T).rows (2*t+1)=n:=by
 show Jb (chC n k) (chP (2*t+1))=n
 rw [Qpy]
 show 1*chC n k (2*t)=n
 rw [Jx,Nat.one_mul]
theorem Qjz:(chD h g n k T).rows (2*(t+1))=n:=by
 show Jb (chC n k) (chP (2*(t+1)))=n
 rw [Qnp]
 show 1*chC n k (2*t)=n
 rw [Jx,Nat.one_mul]
theorem Qgw {w:Nat → Nat}:(chD h g n k T).wt w (2*t+1)=nat2 h.Show (w (2*t)) (w (2*t+1)):=by
 show chW h (2*t+1) (Qgd (chC n k) w (chP (2*t+1))) (w (2*t+1))=_
 rw [Qpy,Qpe]
 show nat2 h.Show (0*_+w (2*t)) _=_
 rw [Nat.zero_mul,Nat.zero_add]
theorem Qi7 {w:Nat → Nat}:(chD h g n k T).wt w (2*(t+1))=nat2 h.Step (w (2*t)) (w (2*(t+1))):=by
 show chW h (2*(t+1)) (Qgd (chC n k) w (chP (2*(t+1)))) (w (2*(t+1)))=_
 rw [Qnp,Qno]
 show nat2 h.Step (0*_+w (2*t)) _=_
 rw [Nat.zero_mul,Nat.zero_add]
theorem Qig {w:Nat → Nat}:(chD h g n k T).wt w 0=nat1 h.First (w 0):=rfl
theorem Qu1 {w w':Nat → Nat} {j:Nat} (hw:∀i,i≤j→w i=w' i):(chD h g n k T).wt w j=(chD h g n k T).wt w' j:=by
 obtain ⟨t,rfl | rfl⟩:∃t,j=2*t∨j=2*t+1:=⟨j / 2,by omega⟩
 ·cases t with
  | zero=>rw [Qig,Qig,hw 0 (by omega)]
  | succ t=>rw [Qi7,Qi7,hw _ (by omega),hw _ (by omega)]
 ·rw [Qgw,Qgw,hw _ (by omega),hw _ (by omega)]
section
variable (v:VH h g n k)
include v
theorem VH.show_sum {s:Nat} (hs:s < n):sumTo k (nat2 h.Show s)=g:=by
 obtain ⟨l,h1,h2,h3,h4⟩:=v.show_row hs
 have e:=Qji h3.1
 rw [h3.2,h2] at e
 have:nat2 h.Show s=nat1 l:=by funext x; unfold nat2; rw [h4]
 rw [this]; omega
theorem Qyf {j r:Nat} (hr:r < (chD h g n k T).rows j):sumTo (chC n k j) (chW h j r)=g:=by
 obtain ⟨t,rfl | rfl⟩:∃t,j=2*t∨j=2*t+1:=⟨j / 2,by omega⟩
 ·cases t with
  | zero=>exact v.first_sum
  | succ t =>
   rw [Qjz] at hr
   rw [Jx,Zl fun x _=>Qno]
   exact v.step_sum hr
 ·rw [Qmh] at hr
  rw [Qdr,Zl fun x _=>Qpe]
  exact v.show_sum hr
omit v in
theorem Qv0:∀T,Qh (2*T) (chC n k)=(n*k)^T
 | 0=>rfl
 | T+1=>by
  show Qh (2*T) (chC n k)*chC n k (2*T)*chC n k (2*T+1)=_
  rw [Qv0 T,Jx,Qdr,Nat.mul_assoc,Nat.pow_succ]
theorem Qty (t1:1≤T) (t4:T≤4) (hw:(n*k)^T≤1024):VX (chD h g n k T) where
 vn:={
  n1:=by show 1≤2*T; omega
  n8:=by show 2*T≤8; omega
  g1:=v.g1
  g60:=by have:=v.g12; show g≤60; omega
  card:=fun j _=>by
   have:=v.n1; have:=v.n4; have:=v.k1; have:=v.k4
   show 1≤chC n k j∧chC n k j≤4
   unfold chC; split <;> omega
  par:=fun j hj p hp=>Nat.lt_trans (Qtp hp) hj
  len:=fun j _=>by
   show (chP j).length≤8
   unfold chP; split
   ·simp
   ·split <;> simp
  W:=fun j r x _ hr hx=>by
   have e:=Qyf v hr
   show chW h j r x≤g
   rw [←e]; exact Qaj hx
  worlds:=by show Qh (2*T) (chC n k)≤1024; rw [Qv0]; exact hw }
 sorted:=fun j _=>by
  show (chP j).Pairwise (· < ·)
  unfold chP; split
  ·simp
  ·split <;> simp
 self:=fun j _ hp=>by have:=Qtp hp; omega
 rank:=⟨id,fun j _ p hp=>Qtp hp⟩
 sum:=fun j r _ hr=>by
  show Q0 (chC n k j) (fun x=>(chW h j r x:Int))=(g:Int)
  rw [Qfb,Qyf v hr]
end
theorem Qvv {l:List Int} (hl:∀x∈l,0≤x):(Qf l.length fun x=>(nat1 l x:Int))=l:=by
 apply List.ext_getElem (by rw [Qq])
 intro i h1 h2
 have e:(Qf l.length fun x=>(nat1 l x:Int))[i]=(nat1 l i:Int):=by simp [Qf]
 rw [e]; exact (Qhv hl h2).symm
theorem Qvc {L:List (List Int)} {m:Nat} (hL:∀l∈L,l.length=m∧∀x∈l,0≤x):(Qf L.length fun r=>Qf m fun x=>(nat2 L r x:Int))=L:=by
 apply List.ext_getElem (by rw [Qq])
 intro i h1 h2
 obtain ⟨e1,e2⟩:=hL _ (List.getElem_mem h2)
 have e:(Qf L.length fun r=>Qf m fun x=>(nat2 L r x:Int))[i]=Qf m fun x=>(nat2 L i x:Int):=by simp [Qf]
 have e3:nat2 L i=nat1 L[i]:=by funext x; unfold nat2; simp [List.getD_eq_getElem?_getD,List.getElem?_eq_getElem h2]
 rw [e,e3,←e1]; exact Qvv e2
theorem Qtu (v:VH h g n k):∀m,Qf (2*m) (chD h g n k T).node=Vj h n k m
 | 0=>rfl
 | m+1=>by
  have eS:(Qf n fun r=>Qf k fun x=>(nat2 h.Show r x:Int))=h.Show:=by
   have:=Qvc (L:=h.Show) (m:=k) fun l hl=>⟨(v.shows l hl).1,(v.shows l hl).2.1⟩
   rwa [v.showL] at this
  have e1:(chD h g n k T).node (2*m+1)=⟨(k:Int),[2*(m:Int)],h.Show⟩:=by
   unfold NF.node
   rw [Qmh]
   show Qm.mk (chC n k (2*m+1):Int) ((chP (2*m+1)).map fun (p:Nat)=>(p:Int)) (Qf n fun r=>Qf (chC n k (2*m+1)) fun x=>(chW h (2*m+1) r x:Int))=_
   have:(Qf n fun r=>Qf (chC n k (2*m+1)) fun x=>(chW h (2*m+1) r x:Int))=h.Show:=by
    rw [←eS,Qdr]
    conv=>lhs; arg 2; ext r; arg 2; ext x; rw [Qpe]
   rw [this,Qdr,Qpy]; simp
  have e2:(chD h g n k T).node (2*m)=⟨(n:Int),if m=0 then [] else [2*(m:Int) - 2],if m=0 then [h.First] else h.Step⟩:=by
   cases m with
   | zero =>
    show Qm.mk (n:Int) [] (Qf 1 fun r=>Qf n fun x=>(nat1 h.First x:Int))=_
    have:(Qf n fun x=>(nat1 h.First x:Int))=h.First:=by
     have:=Qvv v.first.1
     rwa [v.firstL] at this
    rw [this]; rfl
   | succ m =>
    have eT:(Qf n fun r=>Qf n fun x=>(nat2 h.Step r x:Int))=h.Step:=by
     have:=Qvc (L:=h.Step) (m:=n) fun l hl=>⟨(v.step l hl).1,(v.step l hl).2.1⟩
     rwa [v.stepL] at this
    unfold NF.node
    rw [Qjz]
    show Qm.mk (chC n k (2*(m+1)):Int) ((chP (2*(m+1))).map fun (p:Nat)=>(p:Int)) (Qf n fun r=>Qf (chC n k (2*(m+1))) fun x=>(chW h (2*(m+1)) r x:Int))=_
    have:(Qf n fun r=>Qf (chC n k (2*(m+1))) fun x=>(chW h (2*(m+1)) r x:Int))=h.Step:=by
     rw [←eT,Jx]
     conv=>lhs; arg 2; ext r; arg 2; ext x; rw [Qno]
    rw [this,Jx,Qnp,if_neg (by omega),if_neg (by omega)]
    simp; omega
  rw [show 2*(m+1)=2*m+1+1 by omega,←Qcl,←Qcl,Qtu v m,e1,e2]
  simp only [Vj,List.append_assoc]
  rfl
theorem Qy4 (v:VH h g n k):(chD h g n k T).net=⟨(g:Int),Vj h n k T⟩:=by
 show Qp.mk (g:Int) (Qf (2*T) (chD h g n k T).node)=_
 rw [Qtu v]
theorem Q46:(chD h g n k T).wh 0 (chD h g n k T).n=g^(2*T):=by
 show Qh (2*T) (fun v=>if (0:Nat).testBit v=true then 1 else g)=_
 rw [V7 (g:=fun _=>g) fun v _=>if_neg (by simp),Qd6]
def chE (seen:List Int) (j:Nat):Int:=if j % 2=1 then seen.getD (j / 2) 0 else -1
theorem Qgk {seen:List Int}:chE seen (2*t)=-1:=if_neg (by omega)
theorem Qh7 {seen:List Int}:chE seen (2*t+1)=seen.getD t 0:=by
 unfold chE
 rw [if_pos (by omega),show (2*t+1) / 2=t by omega]
theorem Qvt (v:VH h g n k) {s:Nat} (hs:s < n) {x:Int} (hx:-1≤x∧x < k) (c:Int):Q0 k (fun y=>if x=-1∨x=(y:Int) then (nat2 h.Show s y:Int)*c else 0)=(shN h x s:Int)*c:=by
 unfold shN
 by_cases e:x=-1
 ·rw [if_pos (by omega),v.grain,Int.toNat_natCast,Xm (g:=fun y=>(nat2 h.Show s y:Int)*c) fun y _=>if_pos (.inl e),Qtc,Qfb,v.show_sum hs]
 ·rw [if_neg (by omega),Xm (g:=fun y=>if x.toNat = y then (nat2 h.Show s x.toNat : Int)*c else 0) fun y _=>by
   by_cases e2:x.toNat = y
   ·subst e2; rw [if_pos rfl,if_pos (by omega)]
   ·rw [if_neg e2,if_neg (by omega)],Q0f (by omega)]
def bud (h:Qb) (n:Nat) (seen:List Int) (u:Nat → Nat → Nat) (T:Nat):Nat → Nat → Nat
 | 0,s=>u (T - 1) s
 | d+1,s=>u (T - 1 - (d+1)) s*sumTo n fun r=>nat2 h.Step s r*shN h (seen.getD (T - 1 - d) 0) r*bud h n seen u T d r
def bu (h:Qb) (n:Nat) (seen:List Int) (u:Nat → Nat → Nat) (T t s:Nat):Nat := bud h n seen u T (T - 1 - t) s
variable {seen:List Int} {u:Nat → Nat → Nat}
theorem Qp2 {s:Nat}:bu h n seen u T (T - 1) s=u (T - 1) s:=by unfold bu; rw [Nat.sub_self]; rfl
theorem Qp9 {s:Nat} (ht:t+1 < T):bu h n seen u T t s=u t s*sumTo n fun r=>nat2 h.Step s r*shN h (seen.getD (t+1) 0) r*bu h n seen u T (t+1) r:=by
 unfold bu
 obtain ⟨d,hd⟩:∃d,T - 1 - t=d+1:=⟨T - 1 - t - 1,by omega⟩
 rw [hd,show T - 1 - (t+1)=d by omega,bud,show T - 1 - d=t+1 by omega,show T - 1 - (d+1)=t by omega]
def fU (h:Qb) (g n k T:Nat) (u:Nat → Nat → Nat) (w:Nat → Nat):Int:=((Qh (2*T) ((chD h g n k T).wt w)*Qh T (fun t=>u t (w (2*t))):Nat):Int)
theorem Qv3 {w:Nat → Nat} {i x y:Nat}:(Zg (Zg w i x) (i+1) y) i=x∧(Zg (Zg w i x) (i+1) y) (i+1)=y∧∀j,j < i→(Zg (Zg w i x) (i+1) y) j=w j :=
 ⟨by rw [Qlv (by omega),Qcj],Qcj,fun j hj=>by rw [Qlv (by omega),Qlv (by omega)]⟩
theorem Q11 (v:VH h g n k) (hs:∀t,t < T→-1≤seen.getD t 0∧seen.getD t 0 < k):∀(d m:Nat) (w:Nat → Nat),m+1+d=T →
  TM (chD h g n k T) (chE seen) (fU h g n k T u) (2*d) (2*(m+1)) w=((Qh (2*(m+1)) ((chD h g n k T).wt w)*Qh m (fun i=>u i (w (2*i)))*bu h n seen u T m (w (2*m)):Nat):Int)
 | 0,m,w,hT=>by
  have e:T=m+1:=by omega
  have eb:bu h n seen u T m (w (2*m))=u m (w (2*m)):=by
   have:=Qp2 (h:=h) (n:=n) (seen:=seen) (u:=u) (T:=T) (s:=w (2*m))
   rwa [show T - 1=m by omega] at this
  rw [eb]
  show ((Qh (2*T) _*Qh T _:Nat):Int)=_
  rw [Nat.mul_assoc]
  subst e
  rfl
 | d+1,m,w,hT=>by
  have hd1:2*(d+1)=2*d+1+1:=by omega
  have hb:=Qp9 (h:=h) (n:=n) (seen:=seen) (u:=u) (t:=m) (T:=T) (s:=w (2*m)) (by omega)
  have hsm:=hs (m+1) (by omega)
  rw [hd1]
  unfold TM
  rw [Xm (g:=fun x=>((Qh (2*(m+1)) ((chD h g n k T).wt w)*Qh m (fun i=>u i (w (2*i)))*u m (w (2*m)):Nat):Int)*((nat2 h.Step (w (2*m)) x*shN h (seen.getD (m+1) 0) x*bu h n seen u T (m+1) x:Nat):Int)) fun x hx=>by
   have hxn:x < n:=by
    have:x < chC n k (2*(m+1)):=hx
    rwa [Jx] at this
   rw [if_pos (.inl Qgk)]
   unfold TM
   show Q0 (chC n k (2*(m+1)+1)) _=_
   rw [Qdr,Qh7,Xm (g:=fun y=>if seen.getD (m+1) 0=-1∨seen.getD (m+1) 0=(y:Int) then (nat2 h.Show x y:Int)*((Qh (2*(m+1)) ((chD h g n k T).wt w)*Qh m (fun i=>u i (w (2*i)))*u m (w (2*m))*(nat2 h.Step (w (2*m)) x*bu h n seen u T (m+1) x):Nat):Int) else 0) fun y _=>by
    by_cases c:seen.getD (m+1) 0=-1∨seen.getD (m+1) 0=(y:Int)
    ·rw [if_pos c,if_pos c]
     obtain ⟨u1,u2,u3⟩:=Qv3 (w:=w) (i:=2*(m+1)) (x:=x) (y:=y)
     have ih:=Q11 v hs d (m+1) (Zg (Zg w (2*(m+1)) x) (2*(m+1)+1) y) (by omega)
     rw [show 2*(m+1+1)=2*(m+1)+1+1 by omega] at ih
     rw [ih]
     have p1:Qh (2*(m+1)+1+1) ((chD h g n k T).wt (Zg (Zg w (2*(m+1)) x) (2*(m+1)+1) y))=Qh (2*(m+1)) ((chD h g n k T).wt w)*nat2 h.Step (w (2*m)) x*nat2 h.Show x y:=by
      show Qh (2*(m+1)) _*(chD h g n k T).wt _ (2*(m+1))*(chD h g n k T).wt _ (2*(m+1)+1)=_
      rw [Qi7,Qgw,u1,u2,u3 _ (by omega),V7 fun j hj=>Qu1 fun i hi=>u3 i (by omega)]
     have p2:Qh (m+1) (fun i=>u i ((Zg (Zg w (2*(m+1)) x) (2*(m+1)+1) y) (2*i)))=Qh m (fun i=>u i (w (2*i)))*u m (w (2*m)):=by
      show Qh m _*u m _=_
      rw [u3 _ (by omega),V7 fun i hi=>by rw [u3 _ (by omega)]]
     rw [p1,p2,u1,←Int.natCast_mul]
     congr 1
     grind
    ·rw [if_neg c,if_neg c],Qvt v hxn hsm,←Int.natCast_mul,←Int.natCast_mul]
   congr 1
   grind]
  show Q0 (chC n k (2*(m+1))) _=_
  rw [Jx,hb]
  rw [Xm (g:=fun x=>((nat2 h.Step (w (2*m)) x*shN h (seen.getD (m+1) 0) x*bu h n seen u T (m+1) x:Nat):Int)*((Qh (2*(m+1)) ((chD h g n k T).wt w)*Qh m (fun i=>u i (w (2*i)))*u m (w (2*m)):Nat):Int)) fun x _=>Int.mul_comm _ _,Qtc,Qfb,←Int.natCast_mul]
  congr 1
  grind
theorem Q2c (v:VH h g n k) (hT:1≤T) (hs:∀t,t < T→-1≤seen.getD t 0∧seen.getD t 0 < k):SW (chD h g n k T) (chE seen) (fU h g n k T u)=(sumTo n (fun s=>fw h n seen 0 s*bu h n seen u T 0 s):Int):=by
 obtain ⟨d,rfl⟩:∃d,T=d+1:=⟨T - 1,by omega⟩
 have hs0:=hs 0 (by omega)
 show TM _ _ _ (2*d+1+1) 0 _=_
 unfold TM
 rw [Xm (g:=fun x=>((fw h n seen 0 x*bu h n seen u (d+1) 0 x:Nat):Int)) fun x hx=>by
  have hxn:x < n:=hx
  rw [if_pos (.inl rfl)]
  unfold TM
  show Q0 (chC n k (2*0+1)) _=_
  rw [Qdr,show chE seen (0+1)=seen.getD 0 0 from rfl,Xm (g:=fun y=>if seen.getD 0 0=-1∨seen.getD 0 0=(y:Int) then (nat2 h.Show x y:Int)*((nat1 h.First x*bu h n seen u (d+1) 0 x:Nat):Int) else 0) fun y _=>by
   by_cases c:seen.getD 0 0=-1∨seen.getD 0 0=(y:Int)
   ·rw [if_pos c,if_pos c]
    obtain ⟨u1,u2,u3⟩:=Qv3 (w:=fun _=>0) (i:=0) (x:=x) (y:=y)
    have ih:=Q11 (u:=u) v hs d 0 (Zg (Zg (fun _=>0) 0 x) (0+1) y) (by omega)
    have ih2:TM (chD h g n k (d+1)) (chE seen) (fU h g n k (d+1) u) (2*d) (0+1+1) (Zg (Zg (fun _=>0) 0 x) (0+1) y)=_:=ih
    rw [ih2]
    have p1:Qh (2*(0+1)) ((chD h g n k (d+1)).wt (Zg (Zg (fun _=>0) 0 x) (0+1) y))=nat1 h.First x*nat2 h.Show x y:=by
     show 1*(chD h g n k (d+1)).wt _ 0*(chD h g n k (d+1)).wt _ (2*0+1)=_
     rw [Qig,Qgw,Nat.one_mul]
     show nat1 h.First ((Zg (Zg (fun _=>0) 0 x) (0+1) y) 0)*nat2 h.Show ((Zg (Zg (fun _=>0) 0 x) (0+1) y) 0) ((Zg (Zg (fun _=>0) 0 x) (0+1) y) (0+1))=_
     rw [u1,u2]
    rw [p1,show Qh 0 (fun i=>u i ((Zg (Zg (fun _=>0) 0 x) (0+1) y) (2*i)))=1 from rfl,show (Zg (Zg (fun _=>0) 0 x) (0+1) y) (2*0)=x from u1,←Int.natCast_mul]
    congr 1
    grind
   ·rw [if_neg c,if_neg c],Qvt v hxn hs0,←Int.natCast_mul]
  congr 1
  show shN h (seen.getD 0 0) x*_=nat1 h.First x*shN h (seen.getD 0 0) x*_
  grind]
 show Q0 n _=_
 rw [Qfb]
theorem Qm9:∀t,t < T→(∀i,i < t→∀s,u i s=1)→sumTo n (fun s=>fw h n seen 0 s*bu h n seen u T 0 s)=sumTo n (fun s=>fw h n seen t s*bu h n seen u T t s)
 | 0,_,_=>rfl
 | t+1,ht,h1=>by
  rw [Qm9 t (by omega) fun i hi=>h1 i (by omega)]
  have e:∀s,s < n→fw h n seen t s*bu h n seen u T t s=sumTo n fun r=>fw h n seen t s*nat2 h.Step s r*(shN h (seen.getD (t+1) 0) r*bu h n seen u T (t+1) r):=fun s _=>by
   rw [Qp9 ht,h1 t (by omega),Nat.one_mul,←Qkv]
   exact Zl fun r _=>by grind
  rw [Zl e,Qjl]
  refine Zl fun r _=>?_
  rw [Y9]
  show _=sumTo n (fun r'=>fw h n seen t r'*nat2 h.Step r' r)*shN h (seen.getD (t+1) 0) r*_
  rw [Nat.mul_assoc]
theorem Qvp:∀(d s:Nat),(∀i,T - 1 - d≤i→∀s,u i s=1)→bud h n seen u T d s=bwd h n seen T d s
 | 0,s,h1=>h1 _ (by omega) _
 | d+1,s,h1=>by
  unfold bud bwd
  rw [h1 _ (by omega),Nat.one_mul]
  exact Zl fun r _=>by rw [Qvp d r fun i hi=>h1 i (by omega)]
theorem Q4s {s:Nat} (ht:t < T) (h1:∀i,t < i→∀s,u i s=1):bu h n seen u T t s=u t s*bw h n seen T t s:=by
 by_cases c:t+1 < T
 ·rw [Qp9 c,Qpw h n seen c]
  congr 1
  refine Zl fun r _=>?_
  rw [show bu h n seen u T (t+1) r=bw h n seen T (t+1) r from Qvp _ _ fun i hi=>h1 i (by omega)]
 ·have:t=T - 1:=by omega
  subst this
  rw [Qp2,Qpn,Nat.mul_one]
end
end Go.Ab
namespace Go.Ab
open Go
set_option maxRecDepth 100000
set_option maxHeartbeats 400000
theorem Q12 {a d:Nat} (h0:0 < d) (ha:a≤MX) (hd:d≤MX):qI (a:Int) (d:Int)=qN a d:=by
 rw [Qx1 (by omega) (by rw [Int.natAbs_natCast]; exact ha) (by rw [Int.natAbs_natCast]; exact hd)]
 simp only [Int.natAbs_natCast]
 have b1:decide ((a:Int) < 0)=false:=decide_eq_false (by omega)
 have b2:decide ((d:Int) < 0)=false:=decide_eq_false (by omega)
 rw [b1,b2]; rfl
theorem Q26 {a d c:Nat} (hc:0 < c):qN (a*c) (d*c)=qN a d:=by
 unfold qN
 rw [Nat.gcd_mul_right,Nat.mul_div_mul_right _ _ hc,Nat.mul_div_mul_right _ _ hc]
section
variable {h:Qb} {seen:List Int} {g n k:Nat} (a:Xw h seen g n k)
def allF (h:Qb) (n:Nat) (seen:List Int):Nat := sumTo n (fw h n seen (seen.length - 1))
include a
theorem Xw.seen_ok:∀t,t < seen.length→-1≤seen.getD t 0∧seen.getD t 0 < k:=fun t ht=>by
 have:=a.w.all _ (List.getElem_mem ht)
 simpa [List.getD_eq_getElem?_getD,List.getElem?_eq_getElem ht] using this
theorem Xw.ev {g':Nat}:Qqf (chD h g' n k seen.length) (chE seen):=fun j hj=>by
 have n1:=a.v.n1
 show -1≤chE seen j∧chE seen j < (chC n k j:Int)
 obtain ⟨t,rfl | rfl⟩:∃t,j=2*t∨j=2*t+1:=⟨j / 2,by omega⟩
 ·rw [Qgk,Jx]; omega
 ·have hj:2*t+1 < 2*seen.length:=hj
  rw [Qh7,Qdr]; exact a.seen_ok t (by omega)
theorem Xw.sw_all:SW (chD h g n k seen.length) (chE seen) (fS (chD h g n k seen.length) 0)=(allF h n seen:Int):=by
 have t1:=a.t1
 have e:fS (chD h g n k seen.length) 0=fU h g n k seen.length fun _ _=>1:=by
  funext w
  unfold fS NF.fr fU
  rw [Qd6 seen.length,Nat.one_pow,Nat.mul_one]
  exact congrArg Nat.cast (V7 fun v _=>if_neg (by simp))
 rw [e,Q2c a.v t1 a.seen_ok,Qm9 (seen.length - 1) (by omega) fun _ _ _=>rfl]
 refine congrArg Nat.cast (Zl fun s _=>?_)
 rw [Qp2,Nat.mul_one]
theorem Xw.sw_at {t x:Nat} (ht:t < seen.length) (hx:x < n):SW (chD h g n k seen.length) (chE seen) (at' (2*t) x (fS (chD h g n k seen.length) 0))=((fw h n seen t x*bw h n seen seen.length t x:Nat):Int):=by
 have t1:=a.t1
 obtain ⟨u,hu⟩:∃u:Nat → Nat → Nat,∀i s,u i s=if i=t then (if s=x then 1 else 0) else 1:=⟨_,fun _ _=>rfl⟩
 have e:at' (2*t) x (fS (chD h g n k seen.length) 0)=fU h g n k seen.length u:=by
  funext w
  have e0:fS (chD h g n k seen.length) 0 w=((Qh (2*seen.length) ((chD h g n k seen.length).wt w):Nat):Int):=by
   unfold fS NF.fr
   exact congrArg Nat.cast (V7 fun v _=>if_neg (by simp))
  unfold at' fU
  by_cases c:w (2*t)=x
  ·rw [if_pos c,e0,V7 (f:=fun i=>u i (w (2*i))) (g:=fun _=>1) fun i _=>by
    rw [hu]
    by_cases c2:i=t
    ·subst c2; rw [if_pos rfl,if_pos c]
    ·rw [if_neg c2],Qd6 seen.length,Nat.one_pow,Nat.mul_one]
  ·rw [if_neg c,Qmr (f:=fun i=>u i (w (2*i))) (k:=t) (by rw [hu,if_pos rfl,if_neg c]) ht,Nat.mul_zero]; rfl
 rw [e,Q2c a.v t1 a.seen_ok,Qm9 t ht fun i hi s=>by rw [hu,if_neg (by omega)]]
 rw [Zl (g:=fun s=>if s=x then fw h n seen t s*bw h n seen seen.length t s else 0) fun s _=>by
  rw [Q4s ht fun i hi s=>by rw [hu,if_neg (by omega)],hu,if_pos rfl]
  by_cases c:s=x
  ·rw [if_pos c,if_pos c,Nat.one_mul]
  ·rw [if_neg c,if_neg c,Nat.zero_mul,Nat.mul_zero],Qzz hx]
variable (h4:seen.length≤4) (hw:(n*k)^seen.length≤1024)
theorem Xw.all_mx:allF h n seen≤MX:=a.v.fw_mx a.w ⟨a.t1,a.t8⟩ (by have:=a.t1; omega)
theorem Xw.all_at {t:Nat} (ht:t < seen.length):sumTo n (fun s=>fw h n seen t s*bw h n seen seen.length t s)=allF h n seen:=Qm3 h n seen (seen.length - 1 - t) t (by omega)
include h4 hw
theorem Xw.jprob:Qah ⟨(g:Int),Vj h n k seen.length⟩ (Qf (2*seen.length) (chE seen))=some (qN (allF h n seen) (g^(2*seen.length)),0):=by
 have X:=Qty a.v a.t1 h4 hw
 obtain ⟨m1,m2⟩:=a.v.g_mx a.w ⟨a.t1,a.t8⟩
 have e:=Q2l X (E:=chE seen) a.ev
 rw [Qy4 a.v,a.sw_all,Q46,show (chD h g n k seen.length).n=2*seen.length from rfl] at e
 rw [e,Q12 m2 a.all_mx m1]
theorem Xw.jpost {t:Nat} (ht:t < seen.length):Z6 ⟨(g:Int),Vj h n k seen.length⟩ (Qf (2*seen.length) (chE seen)) ((2*t:Nat):Int) =
  some (if allF h n seen=0 then ([],7) else (shL n fun s=>fw h n seen t s*bw h n seen seen.length t s,0)):=by
 have X:=Qty a.v a.t1 h4 hw
 have e:=Qub X (E:=chE seen) a.ev (v:=2*t) (show 2*t < 2*seen.length by omega)
 rw [Qy4 a.v,a.sw_all,show (chD h g n k seen.length).n=2*seen.length from rfl] at e
 rw [e]
 by_cases c:allF h n seen=0
 ·rw [if_pos c,if_pos (by omega)]
 ·rw [if_neg c,if_neg (by omega)]
  unfold shL
  rw [a.all_at ht,show (chD h g n k seen.length).card (2*t)=n from Jx]
  refine congrArg (fun l=>some (l,(0:Int))) (Qo fun s hs=>?_)
  rw [a.sw_at ht hs,Q12 (by omega) (a.fb_mx ht hs).1 a.all_mx]
end
def Qac (seen:List Int) (t:Nat):List Int:=(List.range seen.length).map fun i=>if i≤t then seen.getD i 0 else -1
theorem Jg {seen:List Int} {t:Nat}:(Qac seen t).length=seen.length:=by simp [Qac]
theorem Qpj {seen:List Int} {t i:Nat} (hi:i < seen.length):(Qac seen t).getD i 0=if i≤t then seen.getD i 0 else -1:=by
 simp [Qac,List.getD_eq_getElem?_getD,hi]
section
variable {h:Qb} {seen:List Int} {g n k:Nat} (a:Xw h seen g n k) {t:Nat} (ht:t < seen.length)
include a
theorem Xw.cut:Xw h (Qac seen t) g n k:=by
 refine a.v.valid ⟨rfl,fun x hx=>?_⟩ (by rw [Jg]; exact a.t1) (by rw [Jg]; exact a.t8)
 obtain ⟨i,hi,rfl⟩:=List.mem_map.1 hx
 have hi:=List.mem_range.1 hi
 have:=a.seen_ok i hi
 have:=a.v.k1
 split <;> omega
include ht
theorem Xw.cut_fw {s:Nat}:fw h n (Qac seen t) t s=fw h n seen t s:=Qte h n t s fun u hu=>by rw [Qpj (by omega),if_pos hu]
theorem Xw.cut_bw:∀(d s:Nat),t+d < seen.length→s < n→bwd h n (Qac seen t) seen.length d s=g^(2*d)∨seen.length - 1 - d < t
 | 0,s,_,_=>by left; simp [bwd]
 | d+1,s,hd,hs=>by
  by_cases c:seen.length - 1 - (d+1) < t
  ·exact .inr c
  ·left
   unfold bwd
   rw [Zl (g:=fun r=>nat2 h.Step s r*(g*g^(2*d))) fun r hr=>by
    rcases Xw.cut_bw d r (by omega) hr with e | e
    ·rw [e,Qpj (by omega),if_neg (by omega)]
     unfold shN
     rw [if_pos (by omega),a.v.grain,Int.toNat_natCast,Nat.mul_assoc]
    ·omega,Y9,a.v.step_sum hs]
   rw [show 2*(d+1)=2*d+1+1 by omega,Nat.pow_succ,Nat.pow_succ]
   grind
theorem Xw.jcut (h4:seen.length≤4) (hw:(n*k)^seen.length≤1024) (h0:0 < sumTo n (fw h n seen t)) :
  Z6 ⟨(g:Int),Vj h n k seen.length⟩ (Qf (2*seen.length) (chE (Qac seen t))) ((2*t:Nat):Int)=some (shL n (fw h n seen t),0):=by
 have b:=a.cut (t:=t)
 have e:=b.jpost (by rw [Jg]; exact h4) (by rw [Jg]; exact hw) (t:=t) (by rw [Jg]; exact ht)
 rw [Jg] at e
 rw [e]
 obtain ⟨G,hG⟩:∃G,G=g^(2*(seen.length - 1 - t)):=⟨_,rfl⟩
 have hG0:0 < G:=by rw [hG]; exact Nat.pow_pos a.v.g1
 have ef:∀s,s < n→fw h n (Qac seen t) t s*bw h n (Qac seen t) seen.length t s=fw h n seen t s*G:=fun s hs=>by
  have:bw h n (Qac seen t) seen.length t s=G:=by
   unfold bw
   rcases a.cut_bw ht (seen.length - 1 - t) s (by omega) hs with e | e
   ·rw [e,hG]
   ·omega
  rw [a.cut_fw ht,this]
 have ea:allF h n (Qac seen t)=sumTo n (fw h n seen t)*G:=by
  rw [←b.all_at (t:=t) (by rw [Jg]; exact ht),Jg,Zl ef,Y9]
 rw [if_neg (by rw [ea]; exact Nat.pos_iff_ne_zero.1 (Nat.mul_pos h0 hG0))]
 refine congrArg (fun l=>some (l,(0:Int))) ?_
 unfold shL
 refine Qo fun s hs=>?_
 rw [Zl ef,Y9]
 show qN (fw h n (Qac seen t) t s*bw h n (Qac seen t) seen.length t s) _=_
 rw [ef s hs,Q26 hG0]
end
end Go.Ab
namespace Go.Ab
open Go
set_option maxRecDepth 100000
set_option maxHeartbeats 400000
section
variable {h:Qb} {g n k:Nat}
theorem Q0m (v:VH h g n k) {T:Nat} (t1:1≤T) (t4:T≤4):Qct h (T:Int)=some (if 1024 < (n*k)^T then (⟨0,[]⟩,6) else (⟨(g:Int),Vj h n k T⟩,0)):=by
 have n1:=v.n1; have n4:=v.n4; have k1:=v.k1; have k4:=v.k4; have sl:=v.showL
 have ok:=v.few.ok
 have hk:=v.head
 unfold Qct
 rw [Qr1 h ok,if_pos v.right]
 simp only [Option.bind_some]
 rw [if_neg (by simp),if_neg (by rw [decide_eq_true_eq]; omega),Qnd (d:=[]) (by omega)]
 simp only [Option.bind_some]
 rw [hk,v.firstL,if_neg (by rw [decide_eq_true_eq]; omega)]
 have hnk:n*k≤16:=Nat.mul_le_mul n4 k4
 have hnk1:1≤n*k:=Nat.mul_pos n1 k1
 have hpw:∀j,j≤4→(n*k)^j≤65536:=fun j hj=>by
  calc (n*k)^j≤16^j:=Nat.pow_le_pow_left hnk j
    _≤16^4:=Nat.pow_le_pow_right (by omega) hj
    _=65536:=by decide
 have hMX:=Qjd
 rw [←Int.natCast_mul,w64 (by omega),Qsv (n*k) T (by omega) (by have:=hpw T (by omega); omega)]
 simp only [Option.bind_some]
 have pl:Qd fuel (K6 (T:Int) h (h.Show.headD [])) (0,([]:List Qm))=some (Vj h n k T):=by
  refine Q9 (fun j=>((j:Int),Vj h n k j)) T _ rfl ?_ ?_ (by omega)
  ·intro j hj
   unfold K6
   simp only []
   have hl:=Qns h n k j
   rw [if_pos (by rw [decide_eq_true_eq]; omega),Qkr [h.First] (by simp) (fun l hl=>by simp at hl; subst hl; rw [v.firstL]; omega)]; simp only [Option.bind_some]
   have cs:X7 h.Show=some h.Show:=Qkr _ (by omega) (fun l hl=>by have:=(v.shows l hl).1; omega)
   by_cases j0:j=0
   ·subst j0
    rw [if_neg (by simp),cs]; simp only [Option.bind_some]
    rw [if_pos (by simp [Vj]),v.firstL,hk]
    rw [w64 (n:=((0:Nat):Int)+1) (by omega),w64 (by omega)]
    simp only [Vj,if_true]
    rfl
   ·rw [if_pos (by rw [decide_eq_true_eq]; omega),Qkr h.Step (by rw [v.stepL]; omega) (fun l hl=>by have:=(v.step l hl).1; omega)]; simp only [Option.bind_some]
    rw [cs]; simp only [Option.bind_some]
    rw [if_pos (by simp [hl]; omega),v.firstL,hk]
    rw [w64 (n:=(j:Int)+1) (by omega),w64 (n:=2*(j:Int)) (by omega),w64 (n:=2*(j:Int) - 2) (by omega)]
    simp only [Vj,if_neg j0]
    rfl
  ·unfold K6
   simp only []
   rw [if_neg (by simp)]
 by_cases c:1024 < (n*k)^T
 ·rw [if_pos (by rw [decide_eq_true_eq]; omega),if_pos c]
 ·rw [if_neg (by rw [decide_eq_true_eq]; omega),if_neg c,pl,v.grain]; rfl
end
theorem Q1c (x7:List Int) {T:Nat} (hT:(if 4 < (x7.length:Int) then 4 else (x7.length:Int))=(T:Int)) (t4:T≤4) (hl:T≤x7.length):Qd fuel (Vb x7) (0,[])=some (Qf (2*T) (chE (x7.take T))):=by
 have hlen:(x7.take T).length=T:=by rw [List.length_take]; omega
 refine Q9 (fun i=>((i:Int),Qf (2*i) (chE (x7.take T)))) T _ rfl (fun i hi=>?_) ?_ (by omega)
 ·unfold Vb
  simp only [hT,Int.toNat_natCast]
  have hg:lkI (x7.take T) (i:Int)=some ((x7.take T)[i]'(by omega)):=Xh (by omega)
  have he:(x7.take T)[i]'(by omega)=chE (x7.take T) (2*i+1):=by
   rw [Qh7,List.getD_eq_getElem?_getD,List.getElem?_eq_getElem (by omega)]; rfl
  have ea:Qf (2*i) (chE (x7.take T))++[-1,(x7.take T)[i]'(by omega)]=Qf (2*(i+1)) (chE (x7.take T)):=by
   rw [show 2*(i+1)=2*i+1+1 by omega,←Qcl,←Qcl,he,Qgk,List.append_assoc]; rfl
  rw [if_pos (by rw [decide_eq_true_eq]; show (i:Int) < ((T - Int.toNat 0:Nat):Int); omega),hg,Option.bind_some,ea,Qq,if_pos (by omega),w64 (by omega)]; rfl
 ·unfold Vb
  simp only [hT,Int.toNat_natCast]
  rw [if_neg (by rw [decide_eq_true_eq]; show ¬ (T:Int) < ((T - Int.toNat 0:Nat):Int); omega)]
theorem Q1n {seen:List Int} {t:Nat} (ht:t < seen.length) (h8:seen.length≤8):Qd fuel Xi (((2*t+2:Nat):Int),Qf (2*seen.length) (chE seen))=some (Qf (2*seen.length) (chE (Qac seen t))):=by
 have h:=Jf (n:=2*seen.length) (k0:=2*t+2) (by omega) (by omega) (fun i (l:List Int)=>(i,l)) (body:=Xi) (fun i=>Qf (2*seen.length) fun j=>if 2*t+2≤j∧j < i then -1 else chE seen j) (Qf (2*seen.length) (chE (Qac seen t)))
  (fun i h1 hi=>by
   unfold Xi
   simp only []
   rw [Qq,if_pos (dlt hi),Zp hi,Option.bind_some,Int.toNat_natCast,Jz]
   refine congrArg (fun l=>some (Step.next (zw ((i:Int)+1),l))) (Qo fun j _=>?_)
   by_cases e:j=i
   ·subst e; rw [if_pos rfl,if_pos ⟨h1,by omega⟩]
   ·rw [if_neg e]
    by_cases c:2*t+2≤j∧j < i
    ·rw [if_pos c,if_pos ⟨c.1,by omega⟩]
    ·rw [if_neg c,if_neg fun h=>c ⟨h.1,by omega⟩])
  (by
   unfold Xi
   simp only []
   rw [Qq,if_neg (nlt _)]
   refine congrArg (fun l=>some (Step.done l)) (Qo fun j hj=>?_)
   obtain ⟨i,rfl | rfl⟩:∃i,j=2*i∨j=2*i+1:=⟨j / 2,by omega⟩
   ·rw [Qgk,Qgk]; split <;> rfl
   ·rw [Qh7,Qh7,Qpj (by omega)]
    by_cases c:i≤t
    ·rw [if_neg fun h=>by omega,if_pos c]
    ·rw [if_pos (by omega),if_neg c])
 have e0:(Qf (2*seen.length) fun j=>if 2*t+2≤j∧j < 2*t+2 then -1 else chE seen j)=Qf (2*seen.length) (chE seen):=Qo fun j _=>if_neg (by omega)
 rw [e0] at h
 exact h
theorem Q1g:Qa9=Xi:=rfl
theorem joint_true (p0:Qn) (p1:Int) (h0:Xj p0) (h1:(Lit.int .u8 p1).wf=true):K0 p0 p1=some true:=by
 obtain ⟨h,x7,g,n,k,e1,e2,a0⟩:=Qut p0 h0
 have s1:=a0.t1
 have s8:=a0.t8
 obtain ⟨T,hT0⟩:∃T,T=min 4 x7.length:=⟨_,rfl⟩
 have hT:(if 4 < (x7.length:Int) then 4 else (x7.length:Int))=(T:Int):=by
  split <;> omega
 have t1:1≤T:=by omega
 have t4:T≤4:=by omega
 have tl:T≤x7.length:=by omega
 have hlen:(x7.take T).length=T:=by rw [List.length_take]; omega
 have v:=a0.v
 have a:Xw h (x7.take T) g n k:=v.valid ⟨rfl,fun x hx=>a0.w.all x (List.mem_of_mem_take hx)⟩ (by omega) (by omega)
 have hn4:=v.n4
 obtain ⟨t,ht0⟩:∃t:Nat,t=p1.toNat % T:=⟨_,rfl⟩
 have ht:t < T:=by rw [ht0]; exact Nat.mod_lt _ (by omega)
 have et:Int.tmod (zw p1) (T:Int)=(t:Int):=by
  have:=Qi5 h1
  rw [w64 (by omega),V3 (by omega),ht0,Int.natCast_emod,Int.toNat_of_nonneg (by omega)]
 have hb0:=Q1c x7 hT t4 tl
 unfold K0
 rw [Qxl,Option.bind_some,if_neg (by decide),e1,Option.bind_some,e2,Option.bind_some]
 simp only [hT,Int.toNat_natCast,hlen,et]
 have eT:(((T - Int.toNat (0:Int)):Nat):Int)=(T:Int):=by show ((T - 0:Nat):Int)=_; omega
 rw [if_pos (by omega),eT,Q0m v t1 t4,Option.bind_some]
 by_cases c:1024 < (n*k)^T
 ·rw [if_pos c,if_pos (by decide)]; rfl
 rw [if_neg c]
 have hw:(n*k)^(x7.take T).length≤1024:=by rw [hlen]; omega
 have hj:=a.jprob (by omega) hw
 have hp:=a.jpost (by omega) hw (t:=t) (by omega)
 have hb1:=Q1n (seen:=x7.take T) (t:=t) (by omega) (by omega)
 rw [hlen] at hj hp hb1
 have hclone:Qy (Qf (2*T) (chE (x7.take T)))=some (Qf (2*T) (chE (x7.take T))):=Qq1 _ (by rw [Qq]; omega)
 have w2:zw (2*(t:Int))=((2*t:Nat):Int):=by rw [w64 (by omega)]; omega
 have w3:zw (((2*t:Nat):Int)+2)=((2*t+2:Nat):Int):=by rw [w64 (by omega)]; omega
 have hall:sumTo n (fw h n (x7.take T) (T - 1))=allF h n (x7.take T):=by unfold allF; rw [hlen]
 have hprob:=a.prob
 rw [hlen,hall] at hprob
 have hsm:=a.smooth
 unfold Q1r at hsm
 rw [hlen,hall] at hsm
 have hfi:=a.filter
 unfold Q05 at hfi
 rw [hlen,hall] at hfi
 have eqs:∀f:Nat → Nat,Zo (shL n f) (shL n f)=some true:=fun f=>Qu0 _ (by unfold shL; rw [Qq]; omega)
 dsimp only
 rw [if_neg (by decide),Qns,if_neg (by rw [w64 (by omega)]; simp),hb0,Option.bind_some,hprob,Option.bind_some,hj,Option.bind_some]
 dsimp only
 rw [if_neg (by decide),if_neg (by decide),if_neg (by simp),if_pos (by omega),w2,w3,hsm,Option.bind_some,hp,Option.bind_some,hclone]
 simp only [Option.bind_some]
 rw [Q1g,hb1]
 simp only [Option.bind_some]
 rw [hfi]
 simp only [Option.bind_some]
 by_cases c0:allF h n (x7.take T)=0
 ·rw [if_pos c0,if_pos c0,if_pos c0]
  dsimp only
  rw [if_neg (by decide),if_pos (by decide),if_neg (by decide)]
  obtain ⟨y,hy⟩:∃y,Z6 ⟨(g:Int),Vj h n k T⟩ (Qf (2*T) (chE (Qac (x7.take T) t))) ((2*t:Nat):Int)=some y:=by
   have b:=a.cut (t:=t)
   have e:=b.jpost (by rw [Jg]; omega) (by rw [Jg]; exact hw) (t:=t) (by rw [Jg]; omega)
   rw [Jg,hlen] at e
   exact ⟨_,e⟩
  rw [hy,Option.bind_some,if_pos (by decide),if_pos (by decide)]
 ·rw [if_neg c0,if_neg c0,if_neg c0]
  have hf0:0 < sumTo n (fw h n (x7.take T) t):=Quk h n (x7.take T) (T - 1 - t) t (by rw [show t+(T - 1 - t)=T - 1 by omega,hall]; omega)
  have hcut:=a.jcut (t:=t) (by omega) (by omega) hw hf0
  rw [hlen] at hcut
  dsimp only
  rw [if_neg (by decide),if_neg (by decide),Qq,if_neg (by simp),Zp ht,Option.bind_some,eqs,Option.bind_some,if_neg (by decide),hcut,Option.bind_some]
  dsimp only
  rw [if_pos (by decide),if_neg (by decide),if_pos (by decide),Qq,if_pos (by simp),Zp ht,Option.bind_some,eqs]; rfl
end Go.Ab
