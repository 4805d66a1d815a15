/- Rules. No conditions. -/
import Derived.Test.YtgogkahhifkocaaDoorEng7
set_option linter.all false
namespace Go.Ab
open Go.RowKit
def Zd {α:Type} (enc:α->AV) (L:List α) (n:Int) (A:AV):List AV:=(L.map enc).set n.toNat A
theorem Q2i {α:Type} {enc:α->AV} {L:List α} {n:Int} {A:AV}:(Zd enc L n A).length=L.length:=by simp [Zd]
theorem Qmt {α:Type} {enc:α->AV} {L:List α} {n:Int} {A:AV} {a:α} (ha:lkI L n=some a):(Zd enc L n A)[n.toNat]?=some A:=by
 obtain ⟨h1,h2,h3⟩:=Xm ha
 unfold Zd
 rw [bY (by simpa using h2)]
theorem Qnc {α:Type} {enc:α->AV} {L:List α} {n:Int} {A B:AV}:(Zd enc L n A).set n.toNat B=Zd enc L n B:=by simp [Zd,List.set_set]
theorem Q0w {α:Type} {enc:α->AV} {L:List α} {n:Int} {a:α} (ha:lkI L n=some a):Zd enc L n (enc a)=L.map enc:=by
 obtain ⟨h1,h2,h3⟩:=Xm ha
 unfold Zd
 apply List.ext_getElem?
 intro i
 by_cases e:n.toNat = i
 ·subst e; rw [bY (by simpa using h2)]; simp [h3]
 rw [bZ e]
theorem Q2o {α:Type} {enc:α->AV} {L:List α} {n:Int} {b:α}:Zd enc L n (enc b)=(L.set n.toNat b).map enc:=by
 unfold Zd; rw [List.map_set]
section
variable {P:Program} {base:Nat} {st st':St}
theorem Qwa (o:Nat) {α:Type} {enc:α->AV} {L:List α} {n:Int} {a:α} {A:AV} {bx ro nr fl:Bool} {w:Nat} (ha:lkI L n=some a) (hA:enc a=A) (ho:st.objs[o]?=some (.row bx ro nr fl w (L.map enc)))
  (hS:(⟨st.slots,st.objs.set o (.row bx ro nr fl w (Zd enc L n A)),st.nt⟩:St)=st'):Wk P base st st':=by
 subst hA
 rw [Q0w ha] at hS
 refine Q73 ?_
 rw [<-hS]
 have:st.objs.set o (.row bx ro nr fl w (L.map enc))=st.objs:=by
  obtain ⟨h1,h2⟩:=aD.1 ho
  apply List.ext_getElem?
  intro i
  by_cases e:o=i
  ·subst e; rw [bY h1,ho]
  rw [bZ e]
 rw [this]
theorem Qmo (o c w:Nat) (nr fl:Bool) {α:Type} {enc:α->AV} {L:List α} {n:Int} {a:α} {A A' y:AV} {bx nr0 fl0:Bool} {w0:Nat} (ha:lkI L n=some a) (ho:st.objs[o]?=some (.row bx false nr0 fl0 w0 (Zd enc L n A)))
  (hy:A.flat[c]?=some y) (hn:(Qhp y && Nat.blt 0 w && Nat.blt st.objs.length BIG)=true) (hput:K8 A c (.ref st.objs.length 0 0)=some A')
  (hS:(⟨st.slots,st.objs.set o (.row bx false false false w0 (Zd enc L n A'))++[.row false false nr fl w []],st.nt⟩:St)=st'):Wk P base st st':=by
 refine Qmm o n.toNat c w nr fl ?_
 unfold Qsl
 simp only [ho,Qmt ha,hy,hn,eK,hput,Qnc,hS]
theorem Q1m (o:Nat) {α:Type} {enc:α->AV} {L:List α} {n:Int} {a:α} {A y:AV} {ids:List Nat} {bx ro nr fl:Bool} {w:Nat} (ha:lkI L n=some a) (ho:st.sto o=some (.row bx ro nr fl w (Zd enc L n A))) (hno:Qb3 ids o=false)
  (hsn:Qt st.sto Qo A=some (y,ids)) (h:Qi5 o n.toNat y ids st=some st'):Wk P base st st' :=
 Qt5 o n.toNat ho (Qmt ha) hno hsn h
theorem Qv1 {α:Type} {enc:α->AV} (h:∀a,(enc a).nr=true):∀(L:List α),AV.nrL (L.map enc)=true
 | []=>rfl
 | a::L=>by simp [AV.nrL,h a,Qv1 h L]
theorem Qv3 (o:Nat) {α:Type} {enc:α->AV} {L:List α} {bx ro nr fl:Bool} {w:Nat} (hnr:∀a,(enc a).nr=true) (ho:st.objs[o]?=some (.row bx ro nr fl w (L.map enc)))
  (hS:(⟨st.slots,st.objs.set o (.row bx ro true false w (L.map enc)),st.nt⟩:St)=st'):Wk P base st st':=by
 subst hS
 intro B W0 D0 dl M ι a W hsim
 have hlt:=(aD.1 ho).1
 have hob:=hsim.lt ho
 have hos:=Qc8 hob ho rfl
 obtain ⟨p,hp,hrow⟩:=hsim.rel.row o bx ro nr fl w _ hos
 refine ⟨M,ι,.refl _ _,.refl _ _,⟨?_,hsim.slots,hsim.nt,hsim.df,fun k hk=>hsim.new k (by simpa using hk),by simpa using hsim.big⟩⟩
 show Rel P B W0 (dl++D0) M ι (sto (st.objs.set o _)) W
 rw [Qcg ho rfl rfl hob]
 refine hsim.rel.lessRow (nr:=nr) (fl:=fl) (xs:=L.map enc) hos rfl (fun i x x' hi hi'=>⟨[],?_⟩) (fun _=>Qv1 hnr L) (fun hf=>by cases hf)
 rw [hi] at hi'; cases hi'
 cases x <;> simp [Qy,Qd0]
end
theorem Qm2 {α:Type} {f:AV->Option (AV × List Nat)} {enc:α->AV} (hE:∀a,f (enc a)=some (enc a,[])) {A A':AV} {ids:List Nat} (hA:f A=some (A',ids)):∀(L:List α) (k:Nat),k < L.length->Qx f ((L.map enc).set k A)=some ((L.map enc).set k A',ids)
 | [],k,h=>by simp at h
 | a::L,0,h=>by
  have hr:∀L:List α,Qx f (L.map enc)=some (L.map enc,[]):=by
   intro L
   induction L with
   | nil=>rfl
   | cons a L ih=>simp [Qx,hE,ih]
  simp [Qx,hA,hr]
 | a::L,k+1,h=>by
  simp only [dE,List.set_cons_succ,Qx,hE,Qm2 hE hA L k (by simpa using h),cU]
theorem Qqw {σ:Sto} {α:Type} {enc:α->AV} {L:List α} {N:Int} {a:α} {ob w n:Nat} {bx ro fl:Bool} {A A':AV} {ids:List Nat} (hrow:σ ob=some (.row bx ro false fl w (Zd enc L N A))) (ha:lkI L N=some a)
  (hE:∀a,Qt σ n (enc a)=some (enc a,[])) (hA:Qt σ n A=some (A',ids)):Qt σ (n+1) (.ref ob 0 L.length)=some (.lst false (Zd enc L N A'),ob::ids):=by
 obtain ⟨h1,h2,h3⟩:=Xm ha
 have hm:Qx (Qt σ n) (Zd enc L N A)=some (Zd enc L N A',ids):=Qm2 hE hA L _ h2
 have hl:(Zd enc L N A').take L.length=Zd enc L N A':=List.take_of_length_le (by simp [Zd])
 simp [Qt,hrow,hm,Q2i,hl]
theorem Qx7 {M:CM} {ι:Inj} {v:Value} {fl:Bool} {xs:List AV} (hs:List LK) (h:Qa M ι v (.lst fl xs)):Qa M ι v (.lst false (xs.map (Qy hs))):=by
 cases h with
 | lst0=>exact .lst0 _ _
 | lst b off cap w _ _ f hcap hfl hc hM hr =>
  have key:∀(i j:Nat) (x y:AV),(xs.map (Qy hs))[i]?=some x->x.flat[j]?=some y->∃x0 y0 h,xs[i]?=some x0/\x0.flat[j]?=some y0/\y=LK.ap h y0:=fun i j x y hi hj=>by
   rw [bD,aR] at hi
   obtain ⟨x0,e1,rfl⟩:=hi
   have hsh:=hc x0 (aF e1)
   obtain ⟨hs',e2,_⟩:=Qc1 hs (x:=x0) hsh.form
   rw [e2] at hj
   obtain ⟨h,y0,e3,e4⟩:=Qi0 hs' _ j y hj
   exact ⟨x0,y0,h,e1,e3,e4⟩
  have:=Qa.lst (M:=M) (ι:=ι) b off cap w false (xs.map (Qy hs)) f (by simpa using hcap) (fun h=>by cases h) (fun x hx=>by
   simp only [cD] at hx
   obtain ⟨z,hz,rfl⟩:=hx
   exact Qic hs (hc z hz)) (fun i j x y hi hj=>by
   obtain ⟨x0,y0,h,e1,e2,_⟩:=key i j x y hi hj
   exact hM i j x0 y0 e1 e2) (fun i j x y hi hj=>by
   obtain ⟨x0,y0,h,e1,e2,rfl⟩:=key i j x y hi hj
   exact LK.ap_rep h (hr i j x0 y0 e1 e2))
  simpa using this
def Qa6 (x y:AV):Prop:=∀(M:CM) (v:Value),Qa M noInj v x->Qa M noInj v y
theorem Qa6.refl {x:AV}:Qa6 x x:=fun _ _ h=>h
theorem Qa6.lst {fl:Bool} {xs ys:List AV} (hs:List LK) (h:xs.map (Qy hs)=ys):Qa6 (.lst fl xs) (.lst false ys):=fun M v hr=>by subst h; exact Qx7 hs hr
inductive Vw:List AV->List AV->Prop
 | nil:Vw [] []
 | cons {x y:AV} {xs ys:List AV} (h:Qa6 x y) (hc:y.cell=x.cell) (k:Vw xs ys):Vw (x::xs) (y::ys)
theorem Vw.at {xs ys:List AV} (h:Vw xs ys):xs.length=ys.length/\∀(j:Nat) (y:AV),ys[j]?=some y->∃x,xs[j]?=some x/\Qa6 x y/\y.cell=x.cell:=by
 induction h with
 | nil=>exact ⟨rfl,fun j y h=>by simp at h⟩
 | cons h hc k ih =>
  refine ⟨by simp [ih.1],fun j y hj=>?_⟩
  cases j with
  | zero=>simp at hj; subst hj; exact ⟨_,rfl,h,hc⟩
  | succ j=>exact ih.2 j y (by simpa using hj)
theorem Qa6.agg {xs ys:List AV} (h:Vw xs ys):Qa6 (.agg xs) (.agg ys):=fun M v hr=>by
 cases hr with
 | agg cs' _ hsz hc hrr =>
  obtain ⟨hl,hat⟩:=h.at
  refine .agg cs' _ (by rw [<-hl]; exact hsz) (fun y hy=>?_) (fun j v y hv hy=>?_)
  ·obtain ⟨j,hj,rfl⟩:=bB.1 hy
   obtain ⟨x,e1,_,e3⟩:=hat j _ (aG hj)
   rw [e3]; exact hc x (aF e1)
  obtain ⟨x,e1,e2,_⟩:=hat j y hy
  exact e2 M v (hrr j v x hv e1)
theorem Q3.argsE {P:Program} {f:FuncId} {us ws:List AV} {co:Xk} (hw:Vw us ws) (h:Q3 P f ws co):Q3 P f us co:=by
 intro W M vs h1 h2 h3
 obtain ⟨hl,hat⟩:=hw.at
 refine h W M vs h1 (by rw [<-hl]; exact h2) (fun j v y hv hy=>?_)
 obtain ⟨x,e1,e2,_⟩:=hat j y hy
 exact e2 M v (h3 j v x hv e1)
section
variable {P:Program} {rd:Option Nat} {base:Nat} {ops:Array Oper} {st S:St} {Φ:AOut->Prop} {d:Option (List Sk)} {i:Nat}
theorem Qcz {α:Type} {enc:α->AV} {L:List α} {n:Int} {a:α} {A:AV} {ob w:Nat} {ro nr fl:Bool} (hi:Qcj P ops i st=some (.ref ob 0 L.length,n,w)) (hrow:st.sto ob=some (.row false ro nr fl w (Zd enc L n A))) (ha:lkI L n=some a)
  (hS:Zl ops i st (some (.ptr ob n.toNat 0)) []=some S) (k:RW P rd base ops (Q1 d [([],[ob])]) (i+1) S Φ):RW P rd base ops d i st Φ:=by
 obtain ⟨h1,h2,_⟩:=Xm ha
 exact Q14 hi hrow h1 h2 (.inl rfl) hS k
theorem Qd9 {α:Type} {enc:α->AV} {L:List α} {n:Int} {a:α} {A:AV} {ob c w:Nat} {ro nr fl:Bool} (hp:Jr ops i st=some (ob,n.toNat,c)) (hrow:st.sto ob=some (.row false ro nr fl w (Zd enc L n A))) (ha:lkI L n=some a)
  (hS:Qie P ops i st c A=some S) (k:RW P rd base ops (Q1 d [([],[ob])]) (i+1) S Φ):RW P rd base ops d i st Φ :=
 Q3c hp hrow (Qmt ha) (.inl rfl) hS k
theorem Qo3 {α:Type} {enc:α->AV} {L:List α} {n:Int} {a:α} {A A' v:AV} {ob c w:Nat} (hp:Jr ops i st=some (ob,n.toNat,c)) (hrow:st.sto ob=some (.row false false false false w (Zd enc L n A))) (ha:lkI L n=some a)
  (hv:Qct P ops i st=some v) (hput:K8 A c v=some A') (hS:Zl ops i st none [(ob,.row false false false false w (Zd enc L n A'))]=some S) (hl:Nat.beq S.objs.length st.objs.length=true)
  (k:RW P rd base ops (Q1 d [([ob],[ob])]) (i+1) S Φ):RW P rd base ops d i st Φ:=by
 obtain ⟨o,t,x0,y,T,ho,hop,hT,hx,hy,hc⟩:=J6 hp hv
 refine X6 (nf:=true) (fr:=st.objs.length) (rds:=[ob]) ho ?_ hS (aJ hl) k
 unfold Ze
 rw [hop]
 simp only [Zq,aT,eJ]
 unfold evalOp
 rw [hop]
 simp only [hT,hx,hy,hrow,Qmt ha,hc,eK,Bool.or_true,Bool.true_or,hput,frz,Qae,List.contains_nil,aT,eJ,cU,Zi,Bool.false_and,Qnc]
end
theorem Qta {α:Type} {enc:α->AV} {L:List α} {n:Int} {A:AV} {b:α}:(Zd enc L n A).set n.toNat (enc b)=(L.set n.toNat b).map enc:=by rw [Qnc,Q2o]
theorem Qm3 {α β:Type} {enc:α->AV} {enc2:β->AV} {conv:α->β} {L:List α} {n:Int} {A:AV} {b:β} (hs:List LK) (h:∀a,Qy hs (enc a)=enc2 (conv a)) (hA:Qy hs A=enc2 b) :
  (Zd enc L n A).map (Qy hs)=((L.map conv).set n.toNat b).map enc2:=by
 have e:Qy hs ∘ enc=enc2 ∘ conv:=funext h
 unfold Zd
 rw [List.map_set,List.map_set,List.map_map,List.map_map,hA,e]
def Q45 {α β:Type}:α ⊕ β->Option α
 | .inl a=>some a
 | .inr _=>none
theorem Qyw {α β:Type} {x:α ⊕ β} {a:α} (h:Q45 x=some a):x=.inl a:=by cases x <;> cases h; rfl
def lkL {α β:Type} (l:List (α ⊕ β)) (n:Int):Option α:=(lkI l n).bind Q45
theorem Qs {α β:Type} {l:List (α ⊕ β)} {n:Int} {a:α} (h:lkL l n=some a):lkI l n=some (.inl a):=by
 unfold lkL at h
 cases e:lkI l n with
 | none=>rw [e] at h; cases h
 | some x=>rw [e] at h; rw [Qyw h]
def alr {α β:Type}:List (α ⊕ β)->Option (List β)
 | []=>some []
 | .inr b::l=>(alr l).map (b::·)
 | .inl _::_=>none
theorem Qnw {α β:Type}:∀{l:List (α ⊕ β)} {m:List β},alr l=some m->l=m.map .inr
 | [],m,h=>by cases h; rfl
 | .inl _::_,m,h=>by cases h
 | .inr b::l,m,h=>by
  unfold alr at h
  cases e:alr l with
  | none=>rw [e] at h; cases h
  | some m'=>rw [e] at h; cases h; rw [Qnw e]; rfl
theorem Q43 {α β:Type} {l:List (α ⊕ β)} {m:List β} {enc:α ⊕ β->AV} {enc2:β->AV} (h:alr l=some m) (he:∀b,enc (.inr b)=enc2 b):l.map enc=m.map enc2:=by
 rw [Qnw h,List.map_map]
 exact congrArg (fun f=>m.map f) (funext he)
theorem Q4c {α β:Type} {l:List (α ⊕ β)} {m:List β} (h:alr l=some m):l.length=m.length:=by rw [Qnw h,bW]
theorem Qq3 {α:Type} {enc:α->AV} {f:Nat -> Option Nat} (hE:∀a,(enc a).ren f=some (enc a)) {A A':AV} (hA:A.ren f=some A'):∀(L:List α) (k:Nat),AV.renL f ((L.map enc).set k A)=some ((L.map enc).set k A')
 | [],k=>by simp [AV.renL]
 | a::L,0=>by
  have hr:∀L:List α,AV.renL f (L.map enc)=some (L.map enc):=by
   intro L
   induction L with
   | nil=>rfl
   | cons a L ih=>simp [AV.renL,hE,ih]
  simp [AV.renL,hA,hr]
 | a::L,k+1=>by simp only [dE,List.set_cons_succ,AV.renL,hE,Qq3 hE hA L k]
def fillH (o:Nat) (h:AV->List AV):List Nat -> List AObj->List AObj
 | k::ks,x::xs=>(if Nat.beq k o then (match x with | .row bx ro nr fl w [A]=>.row bx ro nr fl w (h A) | x=>x) else x)::fillH o h ks xs
 | _,_=>[]
theorem Qh2 {α:Type} {enc:α->AV} {f:Nat -> Option Nat} (hE:∀a,(enc a).ren f=some (enc a)) {L:List α} {n:Int} {A:AV} {objs:List AObj} {o w:Nat} {bx ro fl:Bool} (ho:o < objs.length) :
  ∀(ks:List Nat) (os:List AObj),Yn f (objs.set o (.row bx ro false fl w [A])) ks=some os->Yn f (objs.set o (.row bx ro false fl w (Zd enc L n A))) ks=some (fillH o (Zd enc L n) ks os)
 | [],os,h=>by simp [Yn] at h; subst h; rfl
 | k::ks,os,h=>by
  unfold Yn at h ⊢
  by_cases e:o=k
  ·subst e
   rw [bY ho] at h ⊢
   simp only [AObj.ren,AV.renL] at h ⊢
   cases hA:A.ren f with
   | none=>rw [hA] at h; simp at h
   | some A' =>
    rw [hA] at h
    simp only at h
    cases hr:Yn f (objs.set o (.row bx ro false fl w [A])) ks with
    | none=>rw [hr] at h; simp at h
    | some os' =>
     rw [hr] at h
     have ih:=Qh2 hE (L:=L) (n:=n) ho ks os' hr
     have h2:AV.renL f (Zd enc L n A)=some (Zd enc L n A'):=Qq3 hE hA L _
     simp at h
     subst h
     simp [h2,ih,fillH]
  rw [bZ e] at h ⊢
  cases hk:objs[k]? with
  | none=>rw [hk] at h; cases h
  | some x =>
   rw [hk] at h
   simp only at h ⊢
   cases hx:x.ren f with
   | none=>rw [hx] at h; cases h
   | some y =>
    rw [hx] at h
    cases hr:Yn f (objs.set o (.row bx ro false fl w [A])) ks with
    | none=>rw [hr] at h; cases h
    | some os' =>
     rw [hr] at h
     have ih:=Qh2 hE (L:=L) (n:=n) ho ks os' hr
     cases h
     rw [ih]
     have:Nat.beq k o=false:=by
      cases e2:Nat.beq k o with
      | false=>rfl
      | true=>exact absurd (aJ e2).symm e
     simp [fillH,this]
def Q2x (base:Nat) (live keep:List Nat) (o w:Nat) (h:AV->List AV) (A:AV) (st:St):Option St :=
 match Qe1 base live keep ⟨st.slots,st.objs.set o (.row false false false false w [A]),st.nt⟩ with
 | some s=>some ⟨s.slots,fillH o h (List.range base++keep) s.objs,s.nt⟩
 | none=>none
theorem wk_gcH {P:Program} {base:Nat} {st st':St} {live keep:List Nat} (o:Nat) {α:Type} (enc:α->AV) (L:List α) (n:Int) (A:AV) (w:Nat) (hE:∀f a,(enc a).ren f=some (enc a)) (ho:st.objs[o]?=some (.row false false false false w (Zd enc L n A)))
  (h:Q2x base live keep o w (Zd enc L n) A st=some st'):Wk P base st st':=by
 refine Vo (live:=live) (keep:=keep) ?_
 unfold Q2x at h
 have hself:st.objs.set o (.row false false false false w (Zd enc L n A))=st.objs:=by
  obtain ⟨h1,h2⟩:=aD.1 ho
  apply List.ext_getElem?
  intro i
  by_cases e:o=i
  ·subst e; rw [bY h1,ho]
  rw [bZ e]
 cases hg:Qe1 base live keep ⟨st.slots,st.objs.set o (.row false false false false w [A]),st.nt⟩ with
 | none=>rw [hg] at h; cases h
 | some s =>
  rw [hg] at h
  cases h
  unfold Qe1 at hg ⊢
  simp only at hg ⊢
  split at hg
  ·rename_i hc
   rw [aH hc]
   split at hg
   ·rename_i os hos
    cases hg
    have:=Qh2 (fun a=>hE _ a) (L:=L) (n:=n) (aD.1 ho).1 _ _ hos
    rw [hself] at this
    rw [this]
   cases hg
  cases hg
end Go.Ab
namespace Go.Ab
open Go.RowKit
section
variable {P:Program} {rd:Option Nat} {base:Nat} {ops:Array Oper} {st S:St} {Φ:AOut->Prop} {d:Option (List Sk)} {i:Nat} {c:Code}
theorem Qt4 {σ ρ1 ρ2:Type} {body:σ->Option (Qh σ (ρ1 ⊕ ρ2))} {I:σ->St} {H:ρ1->St} {Ex:ρ2->AOut->Prop}
  (stop:∀s y,body s=some (.done (.inl y))->H y=I s)
  (round:∀s o,body s=some o->(∃y,o=.done (.inl y))\/WP P rd base c (I s) (fun out=>match o with
   | .next s'=>∃st1,out=.go .normal st1/\Wk P base st1 (I s')
   | .done (.inl _)=>False
   | .done (.inr x)=>Ex x out/\out.normal=false)) :
  ∀(n:Nat) (s:σ) (x:ρ1 ⊕ ρ2),Qc n body s=some x->(∀y,x=.inl y->LWP P rd base c (H y) Φ)->(∀z,x=.inr z->∀out,Ex z out->Φ out)->LWP P rd base c (I s) Φ
 | 0,s,x,h,_,_=>by cases h
 | n+1,s,x,h,h1,h2=>by
  simp only [Qc] at h
  split at h
  ·rename_i s' hb
   rcases round s _ hb with ⟨y,e⟩ | hr
   ·cases e
   refine Qg2 (hr.mono fun out ho=>?_)
   obtain ⟨st1,rfl,hw⟩:=ho
   exact Qly hw (Qt4 stop round n s' x h h1 h2)
  ·rename_i x' hb
   cases h
   cases x with
   | inl y =>
    have:=h1 y rfl
    rw [stop s y hb] at this
    exact this
   | inr z =>
    rcases round s _ hb with ⟨y,e⟩ | hr
    ·cases e
    refine Qg2 (hr.mono fun out ho=>?_)
    obtain ⟨g1,g2⟩:=ho
    have g3:=h2 z rfl out g1
    cases out with
    | pan v=>exact g3
    | go e st1=>cases e <;> first | exact g3 | simp [AOut.normal] at g2
  cases h
def Q3i {σ ρ:Type}:Qh σ ρ->Qh σ (σ ⊕ ρ)
 | .next s=>.next s
 | .done x=>.done (.inr x)
def Qlg {σ ρ:Type} (cnd:σ->Bool) (body:σ->Option (Qh σ ρ)) (s:σ):Option (Qh σ (σ ⊕ ρ)):=if cnd s=true then some (.done (.inl s)) else (body s).map Q3i
theorem Qy0 {σ ρ R:Type} {n:Nat} {cnd:σ->Bool} {body:σ->Option (Qh σ ρ)} {I:σ->St} {Ex:ρ->AOut->Prop} {K:σ ⊕ ρ->Option R} {r:R} (s0:σ) (hw:Wk P base st (I s0)) (h:(Qc n (Qlg cnd body) s0).bind K=some r)
  (round:∀s o,body s=some o->WP P rd base c (I s) (Qjx P base I Ex o))
  (k1:∀y,K (.inl y)=some r->LWP P rd base c (I y) Φ) (k2:∀z,K (.inr z)=some r->∀out,Ex z out->Φ out):WP P rd base (.loop c) st Φ:=by
 cases hx:Qc n (Qlg cnd body) s0 with
 | none=>rw [hx] at h; cases h
 | some x =>
  rw [hx] at h
  have hb:∀s o,Qlg cnd body s=some o->(o=.done (.inl s))\/∃o',body s=some o'/\o=Q3i o':=fun s o ho=>by
   unfold Qlg at ho
   split at ho
   ·cases ho; exact .inl rfl
   simp only [aR] at ho
   obtain ⟨o',e1,e2⟩:=ho
   exact .inr ⟨o',e1,e2.symm⟩
  refine Qvt (Qly hw (Qt4 (H:=I) (Ex:=Ex) (fun s y e=>?_) (fun s o e=>?_) n s0 x hx (fun y e=>?_) (fun z e=>?_)))
  ·rcases hb s _ e with e1 | ⟨o',_,e1⟩
   ·cases e1; rfl
   cases o' <;> cases e1
  ·rcases hb s _ e with e1 | ⟨o',e1,e2⟩
   ·exact .inl ⟨s,e1⟩
   subst e2
   refine .inr ((round s o' e1).mono fun out ho=>?_)
   cases o' with
   | next s'=>exact ho
   | done x=>exact ho
  ·subst e; exact k1 y h
  subst e; exact k2 z h
end
end Go.Ab
namespace Go.Ab
open Go.RowKit
def Qpa:AObj->Bool
 | .row _ _ _ _ _ _=>true
 | .loop _ _ _ _ _ _ _=>true
 | .dead=>true
 | _=>false
def Qsh:AObj->Bool
 | .row _ _ _ _ _ _=>true
 | .loop _ _ _ _ _ _ _=>true
 | _=>false
def Qa1 (N:Nat):AObj->Prop
 | .row _ _ nr _ _ xs=>nr=true\/∀x∈xs,∀y∈x.flat,∀o∈y.ids,o < N
 | .loop _ sl _ _ _ _ _=>∀p∈sl,∀o∈p.2.ids,o < N
 | .dead=>True
 | _=>False
def Qom (N:Nat):AObj->Bool
 | .row _ _ nr _ _ xs=>nr || xs.all fun x=>x.flat.all fun y=>y.ids.all fun o=>Nat.blt o N
 | .loop _ sl _ _ _ _ _=>sl.all fun p=>p.2.ids.all fun o=>Nat.blt o N
 | .dead=>true
 | _=>false
theorem Qvz {N:Nat} {x:AObj} (h:Qom N x=true):Qa1 N x:=by
 cases x with
 | row bx ro nr fl w xs =>
  simp only [Qom,aM,bO] at h
  exact h.imp id fun h x hx y hy o ho=>Xr (h x hx y hy o ho)
 | loop nt sl ps as bd st pe =>
  simp only [Qom,bO] at h
  exact fun p hp o ho=>Xr (h p hp o ho)
 | dead=>trivial
 | fam=>cases h
 | refs=>cases h
theorem Ql4 {N:Nat} {x:AObj} (h:Qa1 N x):Qpa x=true:=by cases x <;> first | rfl | exact h.elim
theorem Qw9 {objs:List AObj} (h:∀x∈objs,Qpa x=true) (id:Nat):Qaw objs id=none:=by
 unfold Qaw
 rw [dif_neg]
 rintro ⟨y,k,i,w,fl,xs,l,_,hk,_⟩
 have:=h _ (aF hk)
 cases this
theorem Qo2 {x:AObj} (h:Qpa x=true):x.plain=x:=by cases x <;> first | rfl | cases h
theorem Qul {objs:List AObj} (h:∀x∈objs,Qpa x=true) (hb:objs.length<=BIG) (id:Nat):sto objs id=objs[id]?:=by
 by_cases hi:id < BIG
 ·rw [Zo hi]
  cases e:objs[id]? with
  | none=>rfl
  | some x=>simp [Qo2 (h x (aF e))]
 rw [Qnd (by omega),Qw9 h,dL (by omega)]
theorem Qui:∀{l:List (Nat × AV)} {t:Nat} {x:AV},lk l t=some x->∃p∈l,p.2=x
 | [],t,x,h=>by cases h
 | (k,y)::r,t,x,h=>by
  unfold lk at h
  split at h
  ·cases h; exact ⟨(k,y),by simp,rfl⟩
  obtain ⟨p,hp,e⟩:=Qui h
  exact ⟨p,cL _ hp,e⟩
section
variable {P:Program} {B N:Nat} {W0 W:World} {D:List Nat} {M:CM} {ι:Inj} {σ:Sto}
def Qhw (N:Nat) (ι:Inj) (σ:Sto) (b:Nat):Prop:=∃k p fn sl ps as bd st pe,¬ k < N/\σ k=some (.loop fn sl ps as bd st pe)/\ι k=some p/\p.blk=b
def Qb0 (N:Nat) (ι:Inj) (σ:Sto) (b o:Nat):Prop:=∃k p bx nr fl w xs j,¬ k < N/\σ k=some (.row bx false nr fl w xs)/\ι k=some p/\p.blk=b/\o=p.base+j/\j < p.cap*w
open Classical in
noncomputable def Qkp (N:Nat) (ι:Inj) (σ:Sto) (W:World) (M:CM):CM :=
 ⟨M.f,M.ok,fun b=>if Qhw N ι σ b then W.heap[b]? else M.blk b,fun b o=>if Qb0 N ι σ b o then W.cell? ⟨b,o,none⟩ else M.kc b o⟩
theorem Qk4 (h:Rel P B W0 D M ι σ W) {b:Nat} (hb:Qhw N ι σ b):M.blk b=none/\∃l,W.heap[b]?=some (Qa4 l):=by
 obtain ⟨k,p,fn,sl,ps,as,bd,st,pe,_,hk,hp',rfl⟩:=hb
 obtain ⟨q,nt1,hq,hb1,_,tmps,_,hrec,_⟩:=h.loop k _ _ _ _ _ _ _ hk
 rw [hp'] at hq; cases hq
 exact ⟨hb1,_,hrec⟩
theorem Qen (h:Rel P B W0 D M ι σ W) {b o:Nat} (hb:Qb0 N ι σ b o):M.kc b o=none/\M b o=none/\(∃v,W.cell? ⟨b,o,none⟩=some v)/\∀j,W.frozen? ⟨b,j,none⟩=false:=by
 obtain ⟨k,p,bx,nr,fl,w,xs,j,_,hk,hp',rfl,rfl,hj⟩:=hb
 obtain ⟨q,hq,hr⟩:=h.row k _ _ _ _ _ _ hk
 rw [hp'] at hq; cases hq
 have c:=h.cool k bx nr fl w xs p j hk hp' hj
 obtain ⟨o1,o2⟩:=(hr.own rfl).2 j hj
 exact ⟨c.2,o2,dP.1 o1,c.1⟩
open Classical in
theorem Rel.hide (h:Rel P B W0 D M ι σ W) (hA:∀k x,k < N->σ k=some x->Qa1 N x) :
  Rel P B W0 D (Qkp N ι σ W M) (fun k=>if k < N then ι k else none) (fun k=>if k < N then σ k else none) W:=by
 have hM1:M.le (Qkp N ι σ W M):=fun _ _ _ h=>h
 have blk1:∀b,(Qkp N ι σ W M).blk b=if Qhw N ι σ b then W.heap[b]? else M.blk b:=fun b=>rfl
 have kc1:∀b o,(Qkp N ι σ W M).kc b o=if Qb0 N ι σ b o then W.cell? ⟨b,o,none⟩ else M.kc b o:=fun b o=>rfl
 have low:∀{k:Nat} {x:AObj},(if k < N then σ k else none)=some x->k < N/\σ k=some x:=fun {k x} hk=>by
  by_cases e:k < N
  ·rw [aH e] at hk; exact ⟨e,hk⟩
  rw [aI e] at hk; cases hk
 have lowi:∀{k:Nat} {p:Place},k < N->(if k < N then ι k else none)=some p->ι k=some p:=fun e hk=>by rw [aH e] at hk; exact hk
 have rep1:∀{v:Value} {y:AV},(∀o∈y.ids,o < N)->Qa M ι v y->Qa (Qkp N ι σ W M) (fun k=>if k < N then ι k else none) v y:=fun hi h=>(h.congr fun o ho=>aH (hi o ho)).mono hM1 (Inj.le_refl _)
 refine ⟨h.size,h.below,h.defs,⟨h.agree.cell,fun b x hb=>?_,fun b o v hb=>?_⟩,fun o bx nr fl w xs p k ho hp' hk=>?_,fun o bx ro nr fl w xs ho=>?_,fun o fn sl ps as bd st pe ho=>?_,fun o o' bx nr fl w xs bx' nr' fl' w' xs' p p' hne h1 h2 h3 h4=>?_,fun o o' fn sl ps as bd st pe fn' sl' ps' as' bd' st' pe' p p' hne h1 h2 h3 h4=>?_,fun o ho=>?_⟩
 ·rw [blk1] at hb
  by_cases hd:Qhw N ι σ b
  ·rw [aH hd] at hb
   obtain ⟨_,l,hl⟩:=Qk4 h hd
   rw [hl] at hb; cases hb
   exact ⟨hl,fun c e f=>Qki c e f,fun d he=>Qh8 (x:=d) (by rw [he])⟩
  ·rw [aI hd] at hb; exact h.agree.keep b x hb
 ·rw [kc1] at hb
  by_cases hd:Qb0 N ι σ b o
  ·rw [aH hd] at hb
   exact ⟨hb,(Qen h hd).2.2.2⟩
  ·rw [aI hd] at hb; exact h.agree.keepC b o v hb
 ·obtain ⟨l1,ho⟩:=low ho
  have hp':=lowi l1 hp'
  have c:=h.cool o bx nr fl w xs p k ho hp' hk
  refine ⟨c.1,?_⟩
  rw [kc1,aI]
  ·exact c.2
  ·rintro ⟨k2,p2,bx2,nr2,fl2,w2,xs2,j2,n2,hk2,hp2,hb2,ho2,hj2⟩
   obtain ⟨q,hq,hr⟩:=h.row o _ _ _ _ _ _ ho
   rw [hp'] at hq; cases hq
   obtain ⟨q,hq,hr2⟩:=h.row k2 _ _ _ _ _ _ hk2
   rw [hp2] at hq; cases hq
   have hpw:=hr.pw
   have hpw2:=hr2.pw
   rcases h.apart o k2 _ _ _ _ _ _ _ _ _ _ _ _ (fun e=>n2 (e ▸ l1)) ho hk2 hp' hp2 with a | a | a
   ·exact a hb2.symm
   ·rw [hpw] at a; omega
   ·rw [hpw2] at a; omega
 ·obtain ⟨l1,ho⟩:=low ho
  obtain ⟨p,hp',hrow⟩:=h.row o bx ro nr fl w xs ho
  refine ⟨p,by rw [aH l1]; exact hp',hrow.pw,hrow.pos,hrow.cpos,hrow.len,hrow.shaped,hrow.nr,hrow.fl,fun i j x y hi hj=>?_,hrow.own,fun hro i j x y hi hj=>?_⟩
  ·obtain ⟨v,hv,hrep⟩:=hrow.cells i j x y hi hj
   refine ⟨v,hv,?_⟩
   rcases hA o _ l1 ho with hn | hn
   ·exact (hrep.of_nr (AV.nr_flat (Q2.1 (hrow.nr hn) x (aF hi)) y (aF hj))).mono hM1 (Inj.le_refl _)
   ·exact rep1 (hn x (aF hi) y (aF hj)) hrep
  ·obtain ⟨v,hv,hrep⟩:=hrow.imm hro i j x y hi hj
   exact ⟨v,hv,hrep.mono hM1 (Inj.le_refl _)⟩
 ·obtain ⟨l1,ho⟩:=low ho
  obtain ⟨p,nt1,hp',hb1,hB1,tmps,hsz,hrec,hsl1⟩:=h.loop o fn sl ps as bd st pe ho
  refine ⟨p,nt1,by rw [aH l1]; exact hp',?_,hB1,tmps,hsz,hrec,fun t x hx=>?_⟩
  ·rw [blk1,aI]
   ·exact hb1
   ·rintro ⟨k,q,fn',sl',ps',as',bd',st',pe',hk,hk',hq,hqb⟩
    exact h.loops o k _ _ _ _ _ _ _ _ _ _ _ _ _ _ _ _ (fun e=>hk (e ▸ l1)) ho hk' hp' hq hqb.symm
  ·obtain ⟨q,hq,rfl⟩:=Qui hx
   exact rep1 (hA o _ l1 ho q hq) (hsl1 t _ hx)
 ·obtain ⟨l1,h1⟩:=low h1
  obtain ⟨l2,h2⟩:=low h2
  exact h.apart o o' bx nr fl w xs bx' nr' fl' w' xs' p p' hne h1 h2 (lowi l1 h3) (lowi l2 h4)
 ·obtain ⟨l1,h1⟩:=low h1
  obtain ⟨l2,h2⟩:=low h2
  exact h.loops o o' fn sl ps as bd st pe fn' sl' ps' as' bd' st' pe' p p' hne h1 h2 (lowi l1 h3) (lowi l2 h4)
 ·by_cases l1:o < N
  ·rw [aH l1] at ho ⊢; exact h.used o ho
  ·exact .inl (aI l1)
open Classical in
theorem Rel.unhide {W':World} {M':CM} {ι':Inj} {σ':Sto} (h:Rel P B W0 D M ι σ W) (h':Rel P B W0 D M' ι' (fun k=>if k < N then σ' k else none) W') (hG:CM.Grow B (Qkp N ι σ W M) M') (hι:∀k,k < N->ι' k=ι k)
  (hA:∀k x,k < N->σ' k=some x->Qa1 N x) :
  ∃M2:CM,CM.Grow B M M2/\M'.le M2/\Rel P B W0 D M2 ι (fun k=>if k < N then σ' k else σ k) W':=by
 let M2:CM:=⟨M'.f,M'.ok,M.blk,M.kc⟩
 have hM2:M'.le M2:=fun _ _ _ h=>h
 have hMM2:M.le M2:=fun b o v h=>hG.le b o v h
 have blk':∀b,M'.blk b=if Qhw N ι σ b then W.heap[b]? else M.blk b:=fun b=>by rw [hG.keep]; rfl
 have kc':∀b o,M'.kc b o=if Qb0 N ι σ b o then W.cell? ⟨b,o,none⟩ else M.kc b o:=fun b o=>by rw [hG.keepC]; rfl
 have notB:∀b,M'.blk b=none->¬ Qhw N ι σ b/\M.blk b=none:=fun b hb=>by
  rw [blk'] at hb
  by_cases hd:Qhw N ι σ b
  ·rw [aH hd] at hb
   obtain ⟨_,l,hl⟩:=Qk4 h hd
   rw [hl] at hb; cases hb
  rw [aI hd] at hb; exact ⟨hd,hb⟩
 have notC:∀b o,M'.kc b o=none->¬ Qb0 N ι σ b o/\M.kc b o=none:=fun b o hb=>by
  rw [kc'] at hb
  by_cases hd:Qb0 N ι σ b o
  ·rw [aH hd] at hb
   obtain ⟨_,_,⟨v,hv⟩,_⟩:=Qen h hd
   rw [hv] at hb; cases hb
  rw [aI hd] at hb; exact ⟨hd,hb⟩
 have low:∀{k:Nat} {x:AObj},k < N->(if k < N then σ' k else σ k)=some x->(if k < N then σ' k else none)=some x/\σ' k=some x:=fun e hk=>by
  rw [aH e] at hk ⊢; exact ⟨hk,hk⟩
 have high:∀{k:Nat} {x:AObj},¬ k < N->(if k < N then σ' k else σ k)=some x->σ k=some x:=fun e hk=>by rw [aI e] at hk; exact hk
 have repl:∀{v:Value} {y:AV},(∀o∈y.ids,o < N)->Qa M' ι' v y->Qa M2 ι v y:=fun hi h=>(h.congr fun o ho=>(hι o (hi o ho)).symm).mono hM2 (Inj.le_refl _)
 refine ⟨M2,⟨hMM2,hG.old,rfl,rfl,fun b o v hv=>?_⟩,hM2,h'.size,h'.below,h'.defs,⟨h'.agree.cell,fun b x hb=>?_,fun b o v hb=>?_⟩,fun o bx nr fl w xs p k ho hp' hk=>?_,fun o bx ro nr fl w xs ho=>?_,fun o fn sl ps as bd st pe ho=>?_,fun o o' bx nr fl w xs bx' nr' fl' w' xs' p p' hne h1 h2 h3 h4=>?_,fun o o' fn sl ps as bd st pe fn' sl' ps' as' bd' st' pe' p p' hne h1 h2 h3 h4=>?_,fun o ho=>?_⟩
 ·by_cases hd:Qb0 N ι σ b o
  ·rw [(Qen h hd).1] at hv; cases hv
  ·exact hG.keepF b o v (by show (if Qb0 N ι σ b o then _ else _)=_; rw [aI hd]; exact hv)
 ·have hb':M.blk b=some x:=hb
  refine h'.agree.keep b x ?_
  rw [blk']
  by_cases hd:Qhw N ι σ b
  ·rw [(Qk4 h hd).1] at hb'; cases hb'
  ·rw [aI hd]; exact hb'
 ·have hb':M.kc b o=some v:=hb
  refine h'.agree.keepC b o v ?_
  rw [kc']
  by_cases hd:Qb0 N ι σ b o
  ·rw [(Qen h hd).1] at hb'; cases hb'
  ·rw [aI hd]; exact hb'
 ·by_cases hl:o < N
  ·obtain ⟨ho1,ho2⟩:=low hl ho
   have c:=h'.cool o bx nr fl w xs p k ho1 (by rw [hι o hl]; exact hp') hk
   exact ⟨c.1,(notC _ _ c.2).2⟩
  ·have ho:=high hl ho
   have hd:Qb0 N ι σ p.blk (p.base+k):=⟨o,p,bx,nr,fl,w,xs,k,hl,ho,hp',rfl,rfl,hk⟩
   obtain ⟨s1,s2,⟨v,hv⟩,s4⟩:=Qen h hd
   exact ⟨(h'.agree.keepC _ _ v (by rw [kc',aH hd]; exact hv)).2,s1⟩
 ·by_cases hl:o < N
  ·obtain ⟨ho1,ho2⟩:=low hl ho
   obtain ⟨p,hp',hrow⟩:=h'.row o bx ro nr fl w xs ho1
   refine ⟨p,by rw [<-hι o hl]; exact hp',hrow.pw,hrow.pos,hrow.cpos,hrow.len,hrow.shaped,hrow.nr,hrow.fl,fun i j x y hi hj=>?_,hrow.own,fun hro i j x y hi hj=>?_⟩
   ·obtain ⟨v,hv,hrep⟩:=hrow.cells i j x y hi hj
    refine ⟨v,hv,?_⟩
    rcases hA o _ hl ho2 with hn | hn
    ·exact (hrep.of_nr (AV.nr_flat (Q2.1 (hrow.nr hn) x (aF hi)) y (aF hj))).mono hM2 (Inj.le_refl _)
    ·exact repl (hn x (aF hi) y (aF hj)) hrep
   ·obtain ⟨v,hv,hrep⟩:=hrow.imm hro i j x y hi hj
    exact ⟨v,hv,hrep.mono hM2 (Inj.le_refl _)⟩
  ·have ho:=high hl ho
   obtain ⟨p,hp',hrow⟩:=h.row o bx ro nr fl w xs ho
   cases ro with
   | true =>
    have himm:∀(i j:Nat) (x y:AV),xs[i]?=some x->x.flat[j]?=some y->∃v,M2 p.blk (p.base+i*w+j)=some v/\Qa M2 noInj v y:=fun i j x y hi hj=>by
     obtain ⟨v,hv,hrep⟩:=hrow.imm rfl i j x y hi hj
     exact ⟨v,hMM2 _ _ _ hv,hrep.mono hMM2 (Inj.le_refl _)⟩
    refine ⟨p,hp',hrow.pw,hrow.pos,hrow.cpos,hrow.len,hrow.shaped,hrow.nr,hrow.fl,fun i j x y hi hj=>?_,fun h=>(by cases h),fun _=>himm⟩
    obtain ⟨v,hv,hrep⟩:=himm i j x y hi hj
    exact ⟨v,h'.agree.cell _ _ _ hv,hrep.mono (CM.le_refl _) (Inj.noInj_le _)⟩
   | false =>
    have kept:∀k,k < p.cap*w->∀v,W.cell? ⟨p.blk,p.base+k,none⟩=some v->W'.cell? ⟨p.blk,p.base+k,none⟩=some v:=fun k hk v hv =>
     (h'.agree.keepC _ _ v (by rw [kc',aH ⟨o,p,bx,nr,fl,w,xs,k,hl,ho,hp',rfl,rfl,hk⟩]; exact hv)).1
    refine ⟨p,hp',hrow.pw,hrow.pos,hrow.cpos,hrow.len,hrow.shaped,hrow.nr,hrow.fl,fun i j x y hi hj=>?_,fun _=>⟨(hrow.own rfl).1,fun k hk=>?_⟩,fun h=>(by cases h)⟩
    ·obtain ⟨v,hv,hrep⟩:=hrow.cells i j x y hi hj
     have hi':=(aD.1 hi).1
     have hj':=(aD.1 hj).1
     rw [(hrow.shaped x (aF hi)).len] at hj'
     have hlt:i*w+j < p.cap*w:=by
      have h1:(i+1)*w<=p.cap*w:=aS _ (by have:=hrow.len; omega)
      rw [dS] at h1; omega
     have:=kept (i*w+j) hlt v (by rw [<-cH]; exact hv)
     exact ⟨v,by rw [cH]; exact this,hrep.mono hMM2 (Inj.le_refl _)⟩
    obtain ⟨o1,o2⟩:=(hrow.own rfl).2 k hk
    obtain ⟨v,hv⟩:=dP.1 o1
    refine ⟨by rw [kept k hk v hv]; rfl,?_⟩
    have hd:Qb0 N ι σ p.blk (p.base+k):=⟨o,p,bx,nr,fl,w,xs,k,hl,ho,hp',rfl,rfl,hk⟩
    have:=hG.keepF p.blk (p.base+k) v (by show (if Qb0 N ι σ p.blk (p.base+k) then _ else _)=_; rw [aH hd]; exact hv)
    exact this.trans o2
 ·by_cases hl:o < N
  ·obtain ⟨ho1,ho2⟩:=low hl ho
   obtain ⟨p,nt1,hp',hb1,hB1,tmps,hsz,hrec,hsl1⟩:=h'.loop o fn sl ps as bd st pe ho1
   refine ⟨p,nt1,by rw [<-hι o hl]; exact hp',(notB _ hb1).2,hB1,tmps,hsz,hrec,fun t x hx=>?_⟩
   obtain ⟨q,hq,rfl⟩:=Qui hx
   exact repl (hA o _ hl ho2 q hq) (hsl1 t _ hx)
  ·have ho:=high hl ho
   obtain ⟨p,nt1,hp',hb1,hB1,tmps,hsz,hrec,hsl1⟩:=h.loop o fn sl ps as bd st pe ho
   refine ⟨p,nt1,hp',hb1,hB1,tmps,hsz,?_,fun t x hx=>(hsl1 t x hx).mono hMM2 (Inj.le_refl _)⟩
   exact (h'.agree.keep p.blk _ (by rw [blk',aH ⟨o,p,fn,sl,ps,as,bd,st,pe,hl,ho,hp',rfl⟩]; exact hrec)).1
 ·have cellOf:∀{k bx nr fl w xs q},¬ k < N->σ k=some (.row bx false nr fl w xs)->ι k=some q->∀j,j < q.cap*q.w->Qb0 N ι σ q.blk (q.base+j):=fun {k bx nr fl w xs q} hk h1 hq j hj=>by
   obtain ⟨q',hq',hr⟩:=h.row k _ _ _ _ _ _ h1
   rw [hq] at hq'; cases hq'
   exact ⟨k,q,bx,nr,fl,w,xs,j,hk,h1,hq,rfl,rfl,by rw [<-hr.pw]; exact hj⟩
  have free:∀{k bx nr fl w xs q},k < N->(if k < N then σ' k else σ k)=some (.row bx false nr fl w xs)->ι k=some q->∀j,j < q.cap*q.w->¬ Qb0 N ι σ q.blk (q.base+j):=fun {k bx nr fl w xs q} hk h1 hq j hj=>by
   obtain ⟨h1,_⟩:=low hk h1
   obtain ⟨q',hq',hr⟩:=h'.row k _ _ _ _ _ _ h1
   rw [hι k hk,hq] at hq'; cases hq'
   exact (notC _ _ (h'.cool k bx nr fl w xs q j h1 (by rw [hι k hk]; exact hq) (by rw [<-hr.pw]; exact hj)).2).1
  have mixed:∀{k bx nr fl w xs q k2 bx2 nr2 fl2 w2 xs2 q2},k < N->¬ k2 < N->(if k < N then σ' k else σ k)=some (.row bx false nr fl w xs)->(if k2 < N then σ' k2 else σ k2)=some (.row bx2 false nr2 fl2 w2 xs2)->ι k=some q->ι k2=some q2 ->
    q.blk≠q2.blk\/q.base+q.cap*q.w<=q2.base\/q2.base+q2.cap*q2.w<=q.base:=fun {k bx nr fl w xs q k2 bx2 nr2 fl2 w2 xs2 q2} l1 l2 h1 h2 h3 h4=>by
   apply Classical.byContradiction
   intro hno
   have hblk:q.blk=q2.blk:=Classical.byContradiction fun e=>hno (.inl e)
   have a1:¬ q.base+q.cap*q.w<=q2.base:=fun e=>hno (.inr (.inl e))
   have a2:¬ q2.base+q2.cap*q2.w<=q.base:=fun e=>hno (.inr (.inr e))
   have n1:0 < q.cap*q.w:=by
    obtain ⟨q',hq',hr⟩:=h'.row k _ _ _ _ _ _ (low l1 h1).1
    rw [hι k l1,h3] at hq'; cases hq'
    rcases hr.cpos with e | e
    ·exact Nat.mul_pos e (by rw [hr.pw]; exact hr.pos)
    ·rcases dY (q.cap*q.w) with z | z
     ·omega
     ·exact z
   have n2:0 < q2.cap*q2.w:=by
    obtain ⟨q',hq',hr⟩:=h.row k2 _ _ _ _ _ _ (high l2 h2)
    rw [h4] at hq'; cases hq'
    rcases hr.cpos with e | e
    ·exact Nat.mul_pos e (by rw [hr.pw]; exact hr.pos)
    ·rcases dY (q2.cap*q2.w) with z | z
     ·omega
     ·exact z
   have c1:=cellOf l2 (high l2 h2) h4
   have c2:=free l1 h1 h3
   rcases Nat.le_total q.base q2.base with e | e
   ·have:=c2 (q2.base - q.base) (by omega)
    rw [show q.base+(q2.base - q.base)=q2.base+0 by omega,hblk] at this
    exact this (c1 0 (by omega))
   ·have:=c2 0 (by omega)
    rw [hblk,show q.base+0=q2.base+(q.base - q2.base) by omega] at this
    exact this (c1 (q.base - q2.base) (by omega))
  by_cases l1:o < N
  ·by_cases l2:o' < N
   ·exact h'.apart o o' bx nr fl w xs bx' nr' fl' w' xs' p p' hne (low l1 h1).1 (low l2 h2).1 (by rw [hι o l1]; exact h3) (by rw [hι o' l2]; exact h4)
   ·exact mixed l1 l2 h1 h2 h3 h4
  ·by_cases l2:o' < N
   ·rcases mixed l2 l1 h2 h1 h4 h3 with a | a | a
    ·exact .inl (Ne.symm a)
    ·exact .inr (.inr a)
    ·exact .inr (.inl a)
   ·exact h.apart o o' bx nr fl w xs bx' nr' fl' w' xs' p p' hne (high l1 h1) (high l2 h2) h3 h4
 ·have free:∀{k fn sl ps as bd st pe q},k < N->(if k < N then σ' k else σ k)=some (.loop fn sl ps as bd st pe)->ι k=some q->¬ Qhw N ι σ q.blk:=fun {k fn sl ps as bd st pe q} hk h1 hq=>by
   obtain ⟨h1,_⟩:=low hk h1
   obtain ⟨p,nt1,hp',hb1,_⟩:=h'.loop _ _ _ _ _ _ _ _ h1
   rw [hι k hk,hq] at hp'; cases hp'
   exact (notB _ hb1).1
  have one:∀{k fn sl ps as bd st pe q},¬ k < N->(if k < N then σ' k else σ k)=some (.loop fn sl ps as bd st pe)->ι k=some q->Qhw N ι σ q.blk:=fun hk h1 hq=>⟨_,_,_,_,_,_,_,_,_,hk,high hk h1,hq,rfl⟩
  by_cases l1:o < N
  ·by_cases l2:o' < N
   ·exact h'.loops o o' fn sl ps as bd st pe fn' sl' ps' as' bd' st' pe' p p' hne (low l1 h1).1 (low l2 h2).1 (by rw [hι o l1]; exact h3) (by rw [hι o' l2]; exact h4)
   ·exact fun e=>free l1 h1 h3 (e ▸ one l2 h2 h4)
  ·by_cases l2:o' < N
   ·exact fun e=>free l2 h2 h4 (e ▸ one l1 h1 h3)
   ·exact h.loops o o' fn sl ps as bd st pe fn' sl' ps' as' bd' st' pe' p p' hne (high l1 h1) (high l2 h2) h3 h4
 ·by_cases hl:o < N
  ·rw [aH hl]
   have:=h'.used o (by rw [hι o hl]; exact ho)
   rw [aH hl] at this
   exact this
  ·rw [aI hl]; exact h.used o ho
end
end Go.Ab
namespace Go.Ab
open Go.RowKit
theorem Qwu:∀D:List Nat,∃D':List Nat,D'.Nodup/\∀r,r∈D'↔r∈D
 | []=>⟨[],List.nodup_nil,fun r=>Iff.rfl⟩
 | x::D=>by
  obtain ⟨D',h1,h2⟩:=Qwu D
  by_cases hx:x∈D'
  ·exact ⟨D',h1,fun r=>by rw [h2,cC]; exact ⟨.inr,fun h=>h.elim (fun e=>by subst e; exact (h2 _).1 hx) id⟩⟩
  exact ⟨x::D',List.nodup_cons.2 ⟨hx,h1⟩,fun r=>by rw [cC,cC,h2]⟩
theorem Ql9:∀{es:List (Nat × AObj)} {objs objs':List AObj},Z5 objs es=some objs'->(∀y∈es,y.1 < objs.length)->objs'.length=objs.length
 | [],objs,objs',h,_=>by cases h; rfl
 | (o,x)::es,objs,objs',h,hl=>by
  simp only [Z5] at h
  split at h
  ·split at h
   ·split at h
    ·cases h
    rw [Ql9 h (fun y hy=>by rw [bX]; exact hl y (cL _ hy)),bX]
   rename_i hn
   have:=hl (o,x) (by simp)
   rw [aG this] at hn; cases hn
  cases h
section
variable {P:Program} {ops:Array Oper} {o:Oper}
theorem Q4t {g:Operand} {args:Array Operand} {ts:Array TypeId} {f:FuncId} {fn:Func} {c:Code} {first caps as:List AV} {e:Xo} {x:AV} {s:Slots} {σ:Sto} {N n:Nat} {A A':List AObj} {sl':List (Nat × AV)} {nt':Nat} {eff:List (Nat × AObj)}
  (hw:Ym ops s o=some true) (ho:o.op=.call { callee:=.value g,args,argTypes:=ts }) (hg:evo s g=some (.fn (.func f) first caps)) (has:J3 s args.toList=some as)
  (hf:P.funcs[f]?=some fn) (hb:fn.body=some c) (hn:(fn.name == "runtime.NumGoroutine")=false) (hle:(first++as++caps).length<=fn.ntmps)
  (hσ:∀k,k < N->σ k=A[k]?) (hN:A.length=N) (hN':A'.length=N) (hbig:N<=BIG) (hlive:∀y∈A,Qsh y=true) (hA:∀y∈A,Qa1 N y) (hA':∀y∈A',Qa1 N y)
  (hids:∀a∈first++as++caps,∀k∈a.ids,k < N)
  (h:Xi P none N c ⟨Vm 0 (first++as++caps),A,fn.ntmps⟩ (.go e ⟨sl',A',nt'⟩)) (hend:e.ends=true) (hr:resultA P fn ⟨sl',A',nt'⟩=some x) (hx:x.nr=true)
  (heff:∀k,k < N->Sto.puts (fun k=>A[k]?) eff k=A'[k]?) (heff2:∀y∈eff,y.1 < N) :
  YlL P ops o ⟨some x,eff,n,n,List.range N⟩ s σ:=by
 intro s' σ' hs' hσ'
 have hl:=Qro (ops:=ops) hs'
 rw [ho] at hl
 have hg':evo s' g=some (.fn (.func f) first caps):=by rw [hl g (by simp [Op.operands,Call.operands])]; exact hg
 have has':J3 s' args.toList=some as:=by rw [evos_congr (fun y hy=>hl y (by simp [Op.operands,Call.operands]; exact .inr (by simpa using hy)))]; exact has
 refine .inl ⟨by rw [Qex hs']; exact hw,?_⟩
 intro B W0 D M ι a W nn Q r next hrel hsl hfree hpost
 simp only at hfree hpost
 have hσN:∀k,k < N->σ' k=A[k]?:=fun k hk=>by rw [hσ' k (cO.2 hk)]; exact hσ k hk
 have hgv:=Qg hsl hg'
 generalize hgu:a.eval g=gu at hgv
 cases hgv with
 | fn _ first' caps' _ _ hy hm h1 h2 hr1 hr2 =>
 obtain ⟨l1,e1⟩:=V0 hsl has'
 refine ⟨fun _ _=>trivial,?_⟩
 rw [Oper.semAt_eq _ _ _ (by rw [ho]; simp)]
 have hrun:(execOp a.eval o).run P W=.ok (.enter f (first'++args.map a.eval++caps')) W:=by
  simp only [execOp,ho,resolve,hgu,Deferred.ofValue,Sem.run_bind,Sem.run_pure,Result.andThen_ok,invoke]
  exact Ji hf (by rw [hb]; rfl) hn _ W
 rw [hrun,Oper.uponIn_enter]
 have hrep:∀(j:Nat) (v:Value) (y:AV),(first'++args.map a.eval++caps')[j]?=some v->(first++as++caps)[j]?=some y->Qa M ι v y :=
  Qjb h1 (by simpa using l1.symm) h2 hr1 (fun j v y hv hy=>by
   simp only [Array.getElem?_map,aR] at hv
   obtain ⟨w,hw,rfl⟩:=hv
   exact (e1 j w y (by simpa using hw) hy).2) hr2
 have hsz:(first'++args.map a.eval++caps').size=(first++as++caps).length:=by simp [h1,h2,l1]
 have hOk:∀k x,k < N->σ' k=some x->Qa1 N x:=fun k x hk hx=>by
  rw [hσN k hk] at hx; exact hA x (aF hx)
 have hhide:=hrel.hide (N:=N) hOk
 have hsA:sto A=fun k=>if k < N then σ' k else none:=funext fun k=>by
  rw [Qul (fun y hy=>Ql4 (hA y hy)) (by omega)]
  by_cases hk:k < N
  ·rw [aH hk,hσN k hk]
  rw [aI hk,dL (by omega)]
 rw [<-hsA] at hhide
 obtain ⟨D0,hnd,hmem⟩:=Qwu D
 have hhide0:=hhide.mem (D':=D0) (fun r hr=>(hmem r).1 hr)
 have hM1:M.le (Qkp N ι σ' W M):=fun _ _ _ h=>h
 refine ⟨fun hd=>by simp [FW,Fence.wide] at hd,Qfk ?_⟩
 refine callsIn_wide.1 (callsIn_of_wp_marks (F:=FW none) (n:=0) hf hb trivial ?_)
 refine h B W0 D0 [] (Qkp N ι σ' W M) (fun k=>if k < N then ι k else none) _ W 0 _ none ⟨hhide0,Qd3 fn.ntmps (fun j v y hv hy=>?_) hsz,by rw [Array.size_append,Array.size_replicate]; show _=fn.ntmps; omega,⟨rfl,fun r hr=>by simp at hr,by simpa using hnd⟩,fun k hk=>?_,by show A.length<=BIG; omega⟩ rfl ⟨?_,fun v hv=>by cases hv⟩
 ·have hi:=hids y (aF hy)
  exact ((hrep j v y hv hy).congr fun o ho=>aH (hi o ho)).mono hM1 (Inj.le_refl _)
 ·exact aI (fun hlt=>hk (.inl (by show k < A.length; omega)))
 intro e' st'' he dl' M' ι' a' W' g1 g2 g3 g4
 cases he
 have hex:e.exit'=.normal\/e.exit'=.ret:=by cases e <;> simp_all [Xo.ends,Xo.exit']
 have cut:∀R,LeavesInM (FW none) 0 P fn a'.tmps R a'.defers .returning W'->bodyPostM (FW none) 0 P fn R e.exit' a' W':=fun R hR=>by
  rcases hex with e1 | e1 <;> rw [e1] <;> exact hR
 apply cut
 rw [g4.df.defs]
 refine Qf8 (by simp) dl' W' g4.rel g4.df.nd g4.df.old (fun W2 h2=>?_)
 obtain ⟨v,k1,k2⟩:=Qey h2 g4.slots hr
 refine ⟨v,k1,?_⟩
 have hι:∀k,k < N->ι' k=ι k:=fun k hk=>by
  have hlv:∃p,ι k=some p:=by
   have hAk:A[k]?=some (A[k]'(by omega)):=aG (by omega)
   have hk':=hσN k hk
   rw [hAk] at hk'
   have hlv:=hlive _ (aF hAk)
   cases hy:A[k]'(by omega) with
   | row bx ro nr fl w xs=>rw [hy] at hk'; obtain ⟨p,hp,_⟩:=hrel.row k _ _ _ _ _ _ hk'; exact ⟨p,hp⟩
   | loop nt sl ps as bd st pe=>rw [hy] at hk'; obtain ⟨p,_,hp,_⟩:=hrel.loop k _ _ _ _ _ _ _ hk'; exact ⟨p,hp⟩
   | _=>rw [hy] at hlv; cases hlv
  obtain ⟨p,hp⟩:=hlv
  rw [hp]
  exact g2 k p (.inl hk) (by show (if k < N then ι k else none)=_; rw [aH hk]; exact hp)
 have h2':=h2.mem (D':=D) (fun r hr=>(hmem r).2 hr)
 have hsA':sto A'=fun k=>if k < N then (fun k=>A'[k]?) k else none:=funext fun k=>by
  rw [Qul (fun y hy=>Ql4 (hA' y hy)) (by omega)]
  by_cases hk:k < N
  ·rw [aH hk]
  rw [aI hk,dL (by omega)]
 rw [show (⟨sl',A',nt'⟩:St).objs=A' from rfl,hsA'] at h2'
 obtain ⟨M2,q1,q2,q3⟩:=hrel.unhide h2' g1 hι (fun k y hk hy=>hA' y (aF hy))
 refine hpost v W2 M2 ι q1 (Inj.le_refl _) (fun _ _=>rfl) ?_ (fun y hy=>?_)
 ·have:(fun k=>if k < N then (fun k=>A'[k]?) k else σ' k)=σ'.puts eff:=funext fun k=>by
   by_cases hk:k < N
   ·rw [aH hk]
    show A'[k]?=_
    rw [<-heff k hk]
    exact Qfl eff k (.inl (hσN k hk).symm)
   ·rw [aI hk]
    exact (Qdv (fun y hy e=>hk (by rw [<-e]; exact heff2 y hy))).symm
  rw [<-this]; exact q3
 ·cases hy
  exact (k2.of_nr hx).mono q2 (Inj.noInj_le _)
end
section
variable {P:Program} {rd:Option Nat} {base:Nat} {ops:Array Oper} {d:Option (List Sk)} {st S:St} {Φ:AOut->Prop} {i:Nat}
noncomputable def Ql0 (P:Program) (fn:Func) (ops:Array Oper) (i:Nat) (st:St) (eff:List (Nat × AObj)) (st':St):Option St :=
 match resultA P fn st',ops[i]? with
 | some x,some o=>match Vv st.slots st.nt o.dst (some x),Z5 st.objs eff with
  | some slots,some objs=>if x.nr then some ⟨slots,objs,st.nt⟩ else none
  | _,_=>none
 | _,_=>none
theorem Q8i {σ ρ R:Type} {N:Nat} {c:Code} {I:σ->St} {E:ρ->St} {F:σ->Option ρ} {K:ρ->Option R} {r:R} {f:FuncId} {fn:Func} {as0:List AV} (s0:σ) (A H:List AObj) (eff:ρ->List (Nat × AObj)) (S:ρ->St)
  (hi:Zk ops i st=some (f,as0)) (hf:P.funcs[f]?=some fn) (hb:fn.body=some c) (hn:(fn.name == "runtime.NumGoroutine")=false) (hle:Nat.ble as0.length fn.ntmps=true)
  (hsp:st.objs=A++H) (h0:(⟨Vm 0 as0,A,fn.ntmps⟩:St)=I s0) (hN:A.length=N) (hbig:Nat.ble N BIG=true) (hlive:A.all Qsh=true) (hA:∀y∈A,Qa1 N y) (hE:∀x,(E x).objs.length=N) (hA':∀x,∀y∈(E x).objs,Qa1 N y)
  (hsl:(as0.all fun a=>a.ids.all fun o=>Nat.blt o N)=true)
  (heff:∀x,∀k,k < N->Sto.puts (fun k=>A[k]?) (eff x) k=(E x).objs[k]?) (hefl:∀x,∀y∈eff x,y.1 < N) (w:List Nat) (hw:∀x,(eff x).map (·.1)=w) (hlow:Nat.ble st.objs.length BIG=true)
  (IH:Qf2 P N c I E F) (h:(F s0).bind K=some r) (hS:∀x,Ql0 P fn ops i st (eff x) (E x)=some (S x))
  (k:∀x,K x=some r->RW P rd base ops (Q1 d [(w,List.range N)]) (i+1) (S x) Φ):RW P rd base ops d i st Φ:=by
 obtain ⟨o,g,args,ts,first,caps,as1,ho,hop,hg,has,rfl⟩:=Qbr hi
 obtain ⟨h1,h2⟩:=Js ho
 cases hx:F s0 with
 | none=>rw [hx] at h; cases h
 | some x =>
  rw [hx] at h
  obtain ⟨out,hex,hout⟩:=IH s0 x hx
  rw [<-h0] at hex
  have hsx:=hS x
  unfold Ql0 at hsx
  split at hsx
  rotate_left
  ·cases hsx
  rename_i y o' hr ho'
  rw [h1] at ho'; cases ho'
  split at hsx
  rotate_left
  ·cases hsx
  rename_i slots objs hp ha
  split at hsx
  rotate_left
  ·cases hsx
  rename_i hy
  have hsS:S x=⟨slots,objs,st.nt⟩:=(dI hsx).symm
  have hks:=k x h
  rw [hsS] at hks
  obtain ⟨p1,p2,p3⟩:=Vr _ _ _ ha
  have hNl:N<=st.objs.length:=by rw [hsp,aO]; omega
  have hbig':N<=BIG:=bN hbig
  have hAsimp:∀z∈A,Qpa z=true:=fun z hz=>Ql4 (hA z hz)
  have hσ:∀k,k < N->sto st.objs k=A[k]?:=fun k hk=>by
   have hkb:k < BIG:=by omega
   rw [Zo hkb,hsp,aW (by omega)]
   cases e:A[k]? with
   | none=>rfl
   | some z=>simp [Qo2 (hAsimp z (aF e))]
  have hids:∀a∈first++as1++caps,∀k∈a.ids,k < N:=fun a ha k hk=>Xr (bO.1 (bO.1 hsl a ha) k hk)
  have hout':∃e,out=.go e (E x)/\e.ends=true:=by
   rcases hout with he | he
   ·exact ⟨_,he,rfl⟩
   exact ⟨_,he,rfl⟩
  obtain ⟨e,rfl,hend⟩:=hout'
  have hlen:objs.length=st.objs.length:=Ql9 ha (fun y hy=>by have:=hefl x y hy; omega)
  refine Qck (s:=(w,List.range N)) ⟨o,⟨some y,eff x,st.objs.length,st.objs.length,List.range N⟩,h1,?_,Qzo (by simp [Foot.sk,hw x])⟩ hks
  refine Qtu (Q4t (e:=e) (sl':=(E x).slots) (nt':=(E x).nt) (A:=A) (A':=(E x).objs) h2 hop hg has hf hb hn (bN hle) hσ hN (hE x) hbig' (fun z hz=>bO.1 hlive z hz) hA (hA' x) hids hex hend hr hy (heff x) (hefl x)) rfl ?_ ha hp rfl
  show st.objs.length=objs.length
  exact hlen.symm
end
end Go.Ab
namespace Go.Ab
open Go.RowKit
def Qh1 {α:Type} (kk:IntKind) (enc:α->AV) (p:Int × α):AV × AV:=(.int kk p.1,enc p.2)
def Q6r {α:Type} (kk:IntKind) (enc:α->AV) (l:List (Int × α)):AObj:=mapO (l.map (Qh1 kk enc))
def Qa2 {α:Type}:List (Int × α)->Int->Option α
 | [],_=>none
 | p::r,n=>if n==p.1 then some p.2 else Qa2 r n
def Qw7 {α:Type}:List (Int × α)->Int->α->List (Int × α)
 | [],n,v=>[(n,v)]
 | p::r,n,v=>if n==p.1 then (n,v)::r else p::Qw7 r n v
theorem Qm5:∀(es:List (AV × AV)) (i:Nat),Qdq i (Xa i es)=some es
 | [],i=>rfl
 | (k,v)::r,i=>by
  simp only [Xa,Qdq]
  rw [show Nat.beq i i=true from dZ i,show Nat.beq (i+1) (i+1)=true from dZ _]
  simp [Qm5 r (i+2)]
theorem Qee (es:List (AV × AV)):Qao (mapO es)=some es:=by
 simp [Qao,mapO,Qm5]
section
variable {P:Program} {α:Type} {enc:α->AV} {kk:IntKind} {kt:TypeId}
theorem Qjt (hk:Ja P kt=some .int) (n m:Int):Z8 P kt (.int kk n) (.int kk m)=some (n==m):=by
 unfold Z8; rw [hk]; simp [Qkz]
theorem Qqz (hk:Ja P kt=some .int) {n:Int}:∀(l:List (Int × α)) (i:Nat),Qa2 l n=none->Yp (Z8 P kt) (.int kk n) (l.map (Qh1 kk enc)) i=some none
 | [],i,_=>rfl
 | p::r,i,h=>by
  unfold Qa2 at h
  split at h
  ·cases h
  rename_i hc
  simp only [dE,Qh1,Yp,Qjt hk]
  rw [show (n==p.1)=false by simpa using hc]
  exact Qqz hk r (i+1) h
theorem Qqv (hk:Ja P kt=some .int) {n:Int} {v:α}:∀(l:List (Int × α)) (i:Nat),Qa2 l n=some v->∃j,Yp (Z8 P kt) (.int kk n) (l.map (Qh1 kk enc)) i=some (some (i+j,enc v))/\∀w,(l.map (Qh1 kk enc)).set j (Qh1 kk enc (n,w))=(Qw7 l n w).map (Qh1 kk enc)
 | [],i,h=>by cases h
 | p::r,i,h=>by
  unfold Qa2 at h
  split at h
  ·rename_i hc
   cases h
   refine ⟨0,?_,fun w=>?_⟩
   ·simp only [dE,Qh1,Yp,Qjt hk,hc,eH]
   simp only [Qw7,hc,eK,dE,List.set_cons_zero]
  rename_i hc
  have hc':(n==p.1)=false:=by simpa using hc
  obtain ⟨j,h1,h2⟩:=Qqv hk r (i+1) h
  refine ⟨j+1,?_,fun w=>?_⟩
  ·simp only [dE,Qh1,Yp,Qjt hk,hc']
   rw [show i+(j+1)=i+1+j by omega]
   exact h1
  simp only [Qw7,hc',dE,List.set_cons_succ,h2 w]
  simp
end
section
variable {P:Program} {rd:Option Nat} {base:Nat} {ops:Array Oper} {d:Option (List Sk)} {st S:St} {Φ:AOut->Prop} {i:Nat}
theorem Qb7 {P:Program} {nf:Bool} {C:FuncId->List AV->Option Xk} {σ:Sto} {fr:Nat} {s:Slots} {o:Oper} {r:Res}:(Ze P nf C σ fr s o=some (.val r))=(evalOp P nf C σ fr s o=some (.val r)):=by
 apply propext
 unfold Ze
 split
 ·exact Iff.rfl
 cases evalOp P nf C σ fr s o with
 | none=>exact Iff.rfl
 | some y=>cases y <;> simp [Zi]
noncomputable def Qpu (P:Program) (ops:Array Oper) (i:Nat) (st:St):Option (Nat × AV × Bool × AV) :=
 match Z0 ops i st with
 | some o=>match o.op with
  | .lookup t x ix c=>match ti P t,evo (lk st.slots) x,evo (lk st.slots) ix with
   | some T,some (.mp ob),some k=>match T.kind with
    | .map kt et=>match Ja P kt,(ti P et).bind (·.zero) with
     | some .int,some z=>some (ob,k,c,z)
     | _,_=>none
    | _=>none
   | _,_,_=>none
  | _=>none
 | none=>none
theorem Q77 {α:Type} {enc:α->AV} {kk:IntKind} {l:List (Int × α)} {n:Int} {z:α} {ob:Nat} {c:Bool} (hi:Qpu P ops i st=some (ob,.int kk n,c,enc z)) (hrow:st.sto ob=some (Q6r kk enc l)) (hok:∀v,(enc v).okv=true)
  (hS:Zl ops i st (some (if c then .tup [enc ((Qa2 l n).getD z),.bool (Qa2 l n).isSome] else enc ((Qa2 l n).getD z))) []=some S) (k:RW P rd base ops (Q1 d [([],[ob])]) (i+1) S Φ):RW P rd base ops d i st Φ:=by
 unfold Qpu at hi
 split at hi
 ·rename_i o ho
  split at hi
  ·rename_i t x ix c' hop
   split at hi
   ·rename_i T ob' k' hT hx hix
    split at hi
    ·rename_i kt et hkind
     split at hi
     ·rename_i z' hsk hz
      cases hi
      refine X6 (nf:=false) (v:=some (if c then .tup [enc ((Qa2 l n).getD z),.bool (Qa2 l n).isSome] else enc ((Qa2 l n).getD z))) (eff:=[]) (fr:=st.objs.length) (rds:=[ob]) ho ?_ hS (Z6 hS) k
      rw [Qb7]
      simp only [evalOp,hop]
      unfold Qds
      have hes:(st.sto ob).bind Qao=some (l.map (Qh1 kk enc)):=by rw [hrow]; exact Qee _
      simp only [hT,hx,hix,hkind,hes,Qjt hsk,hz]
      cases hg:Qa2 l n with
      | none =>
       rw [Qqz hsk l 0 hg]
       simp only [hok,eK,cQ,Option.isSome_none]
      | some v =>
       obtain ⟨j,h1,_⟩:=Qqv (enc:=enc) (kk:=kk) hsk l 0 hg
       rw [h1]
       simp only [hok,eK,cP,dH]
     ·cases hi
    ·cases hi
   ·cases hi
  ·cases hi
 ·cases hi
end
end Go.Ab
namespace Go.Ab
open Go.RowKit
section
variable {P:Program} {rd:Option Nat} {base:Nat} {ops:Array Oper} {d:Option (List Sk)} {st S1 S:St} {Φ:AOut->Prop} {i:Nat}
noncomputable def Qwj (P:Program) (ops:Array Oper) (i:Nat) (st:St):Option (List AV × Int × Nat) :=
 match Z0 ops i st with
 | some o=>match o.op with
  | .indexAddr t x ix=>match ti P t,evo (lk st.slots) x,evo (lk st.slots) ix with
   | some T,some (.fz cs),some (.int _ n)=>match T.kind with
    | .array len e=>match ti P e with
     | some E=>if Nat.beq E.size 1 then some (cs,n,len) else none
     | none=>none
    | _=>none
   | _,_,_=>none
  | _=>none
 | none=>none
noncomputable def Qwq (P:Program) (ops:Array Oper) (i:Nat) (st:St):Option (List AV) :=
 match Z0 ops i st with
 | some o=>match o.op with
  | .load t x=>match ti P t,evo (lk st.slots) x with
   | some T,some (.fz cs)=>if T.agg then none else some cs
   | _,_=>none
  | _=>none
 | none=>none
theorem Q8j {l:List Int} {n a:Int} {kk:IntKind} {len:Nat} {cells:List AV} (hi:Qwj P ops i st=some (cells,n,len)) (hc:cells=l.map (AV.int kk)) (hlen:l.length=len) (ha:lkI l n=some a)
  (h1:Zl ops i st (some (.fz ((l.map (AV.int kk)).drop n.toNat))) []=some S1) (hl:Qwq P ops (i+1) S1=some ((l.map (AV.int kk)).drop n.toNat)) (hS:Zl ops (i+1) S1 (some (.int kk a)) []=some S)
  (k:RW P rd base ops (Q1 (Q1 d [([],[])]) [([],[])]) (i+1+1) S Φ):RW P rd base ops d i st Φ:=by
 obtain ⟨g1,g2,g3⟩:=Xm ha
 subst hc
 have s1:∃o,Z0 ops i st=some o/\Ze P false noC st.sto st.objs.length (lk st.slots) o=some (.val ⟨some (.fz ((l.map (AV.int kk)).drop n.toNat)),[],st.objs.length,[]⟩):=by
  unfold Qwj at hi
  split at hi
  rotate_left
  ·cases hi
  rename_i o ho
  split at hi
  rotate_left
  ·cases hi
  rename_i t x ix hop
  split at hi
  rotate_left
  ·cases hi
  rename_i T cs' k' n' hT hx hix
  split at hi
  rotate_left
  ·cases hi
  rename_i len' e hk
  split at hi
  ·rename_i E hE
   split at hi
   ·rename_i hsz
    have hsz:=aJ hsz
    cases hi
    refine ⟨o,ho,?_⟩
    rw [Qb7]
    have hneg:¬ n < 0:=by omega
    simp only [evalOp,hop,hT,hx,hix,hk,hE,asN,hneg,eJ]
    rw [aH (Qk3 (by omega)),hsz,Nat.mul_one]
    rfl
   cases hi
  cases hi
 obtain ⟨o,ho,he⟩:=s1
 refine X6 ho he h1 (Z6 h1) ?_
 have s2:∃o,Z0 ops (i+1) S1=some o/\Ze P false noC S1.sto S1.objs.length (lk S1.slots) o=some (.val ⟨some (.int kk a),[],S1.objs.length,[]⟩):=by
  unfold Qwq at hl
  split at hl
  rotate_left
  ·cases hl
  rename_i o ho
  split at hl
  rotate_left
  ·cases hl
  rename_i t x hop
  split at hl
  rotate_left
  ·cases hl
  rename_i T cs hT hx
  split at hl
  ·cases hl
  rename_i hag
  have hcs:=dI hl
  refine ⟨o,ho,?_⟩
  rw [Qb7]
  have hag':T.agg=false:=by simpa using hag
  have hd:(l.map (AV.int kk)).drop n.toNat = AV.int kk a::(l.map (AV.int kk)).drop (n.toNat + 1):=by
   rw [eG (by simpa using g2)]
   congr 1
   rw [List.getElem_map]
   congr 1
   have:=aD.1 g3
   exact this.2
  simp only [evalOp,hop,hT,hx,hcs,hd]
  simp [Kq,hag',Zx]
 obtain ⟨o2,ho2,he2⟩:=s2
 exact X6 ho2 he2 hS (Z6 hS) k
end
end Go.Ab
namespace Go.Ab
open Go.RowKit
def Qoz (o:Nat) (m:AObj):List Nat -> List AObj->List AObj
 | k::ks,y::ys=>(if Nat.beq k o then m else y)::Qoz o m ks ys
 | _,ys=>ys
theorem Qi8 {f:Nat -> Option Nat} {objs:List AObj} {o:Nat} {e m:AObj} (hm:m.ren f=some m) (ho:o < objs.length):∀(ks:List Nat) (os:List AObj),Yn f (objs.set o e) ks=some os->Yn f (objs.set o m) ks=some (Qoz o m ks os)
 | [],os,h=>by simp [Yn] at h; subst h; rfl
 | k::ks,os,h=>by
  simp only [Yn] at h ⊢
  by_cases c:o=k
  ·subst c
   rw [bY ho] at h ⊢
   simp only at h ⊢
   cases hx:e.ren f with
   | none=>rw [hx] at h; cases h
   | some y =>
    rw [hx] at h
    cases hr:Yn f (objs.set o e) ks with
    | none=>rw [hr] at h; cases h
    | some os' =>
     rw [hr] at h
     have ih:=Qi8 hm ho ks os' hr
     cases h
     rw [ih,hm]
     simp [Qoz]
  rw [bZ c] at h ⊢
  cases hk:objs[k]? with
  | none=>rw [hk] at h; cases h
  | some x =>
   rw [hk] at h
   simp only at h ⊢
   cases hx:x.ren f with
   | none=>rw [hx] at h; cases h
   | some y =>
    rw [hx] at h
    cases hr:Yn f (objs.set o e) ks with
    | none=>rw [hr] at h; cases h
    | some os' =>
     rw [hr] at h
     have ih:=Qi8 hm ho ks os' hr
     cases h
     rw [ih]
     have:Nat.beq k o=false:=by
      cases e2:Nat.beq k o with
      | false=>rfl
      | true=>exact absurd (aJ e2).symm c
     simp [Qoz,this]
def Q23 (base:Nat) (live keep:List Nat) (o:Nat) (m:AObj) (st:St):Option St :=
 match Qe1 base live keep ⟨st.slots,st.objs.set o (mapO []),st.nt⟩ with
 | some s=>some ⟨s.slots,Qoz o m (List.range base++keep) s.objs,s.nt⟩
 | none=>none
end Go.Ab
namespace Go.Ab
open Go.RowKit
def Xp {κ α:Type} (ke:κ->AV) (enc:α->AV) (p:κ × α):AV × AV:=(ke p.1,enc p.2)
def Zh {κ α:Type} (ke:κ->AV) (enc:α->AV) (l:List (κ × α)):AObj:=mapO (l.map (Xp ke enc))
def kget {κ α:Type} (e:κ->κ->Bool):List (κ × α)->κ->Option α
 | [],_=>none
 | p::r,n=>if e n p.1 then some p.2 else kget e r n
def kput {κ α:Type} (e:κ->κ->Bool):List (κ × α)->κ->α->List (κ × α)
 | [],n,v=>[(n,v)]
 | p::r,n,v=>if e n p.1 then (n,v)::r else p::kput e r n v
section
variable {P:Program} {κ α:Type} {ke:κ->AV} {enc:α->AV} {e:κ->κ->Bool} {kt:TypeId}
theorem Qfo (hk:∀a b,Z8 P kt (ke a) (ke b)=some (e a b)) {n:κ}:∀(l:List (κ × α)) (i:Nat),kget e l n=none->Yp (Z8 P kt) (ke n) (l.map (Xp ke enc)) i=some none
 | [],i,_=>rfl
 | p::r,i,h=>by
  unfold kget at h
  split at h
  ·cases h
  rename_i hc
  simp only [dE,Xp,Yp,hk]
  rw [show e n p.1=false by simpa using hc]
  exact Qfo hk r (i+1) h
theorem Qj4 (hk:∀a b,Z8 P kt (ke a) (ke b)=some (e a b)) {n:κ} {v:α}:∀(l:List (κ × α)) (i:Nat),kget e l n=some v->∃j,Yp (Z8 P kt) (ke n) (l.map (Xp ke enc)) i=some (some (i+j,enc v))/\∀w,(l.map (Xp ke enc)).set j (Xp ke enc (n,w))=(kput e l n w).map (Xp ke enc)
 | [],i,h=>by cases h
 | p::r,i,h=>by
  unfold kget at h
  split at h
  ·rename_i hc
   cases h
   refine ⟨0,?_,fun w=>?_⟩
   ·simp only [dE,Xp,Yp,hk,hc,eH]
   simp only [kput,hc,eK,dE,List.set_cons_zero]
  rename_i hc
  have hc':e n p.1=false:=by simpa using hc
  obtain ⟨j,h1,h2⟩:=Qj4 hk r (i+1) h
  refine ⟨j+1,?_,fun w=>?_⟩
  ·simp only [dE,Xp,Yp,hk,hc']
   rw [show i+(j+1)=i+1+j by omega]
   exact h1
  simp only [kput,hc',dE,List.set_cons_succ,h2 w]
  simp
theorem Qls {n:κ} {w:α}:∀(l:List (κ × α)),kget e l n=none->l.map (Xp ke enc)++[Xp ke enc (n,w)]=(kput e l n w).map (Xp ke enc)
 | [],_=>rfl
 | p::r,h=>by
  unfold kget at h
  split at h
  ·cases h
  rename_i hc
  have hc':e n p.1=false:=by simpa using hc
  simp only [kput,hc',dE,dJ,Qls r h]
  simp
end
section
variable {P:Program} {rd:Option Nat} {base:Nat} {ops:Array Oper} {d:Option (List Sk)} {st S:St} {Φ:AOut->Prop} {i:Nat}
noncomputable def Qqh (P:Program) (ops:Array Oper) (i:Nat) (st:St):Option (Nat × TypeId × AV × Bool × AV) :=
 match Z0 ops i st with
 | some o=>match o.op with
  | .lookup t x ix c=>match ti P t,evo (lk st.slots) x,evo (lk st.slots) ix with
   | some T,some (.mp ob),some k=>match T.kind with
    | .map kt et=>match (ti P et).bind (·.zero) with
     | some z=>some (ob,kt,k,c,z)
     | _=>none
    | _=>none
   | _,_,_=>none
  | _=>none
 | none=>none
noncomputable def Qvn (P:Program) (ops:Array Oper) (i:Nat) (st:St):Option (Nat × TypeId × AV × AV) :=
 match Z0 ops i st with
 | some o=>match o.op with
  | .mapUpdate t m x y | .insert t m x y=>match ti P t,evo (lk st.slots) m,evo (lk st.slots) x,evo (lk st.slots) y with
   | some T,some (.mp ob),some k,some v=>match T.kind with
    | .map kt _=>some (ob,kt,k,v)
    | _=>none
   | _,_,_,_=>none
  | _=>none
 | none=>none
theorem Qse {κ α:Type} {ke:κ->AV} {enc:α->AV} {e:κ->κ->Bool} {l:List (κ × α)} {n:κ} {z:α} {ob:Nat} {kt:TypeId} {c:Bool} (hi:Qqh P ops i st=some (ob,kt,ke n,c,enc z)) (hk:∀a b,Z8 P kt (ke a) (ke b)=some (e a b)) (hrow:st.sto ob=some (Zh ke enc l)) (hok:∀v,(enc v).okv=true)
  (hS:Zl ops i st (some (if c then .tup [enc ((kget e l n).getD z),.bool (kget e l n).isSome] else enc ((kget e l n).getD z))) []=some S) (k:RW P rd base ops (Q1 d [([],[ob])]) (i+1) S Φ):RW P rd base ops d i st Φ:=by
 unfold Qqh at hi
 split at hi
 ·rename_i o ho
  split at hi
  ·rename_i t x ix c' hop
   split at hi
   ·rename_i T ob' k' hT hx hix
    split at hi
    ·rename_i kt et hkind
     split at hi
     ·rename_i z' hz
      cases hi
      refine X6 (nf:=false) (v:=some (if c then .tup [enc ((kget e l n).getD z),.bool (kget e l n).isSome] else enc ((kget e l n).getD z))) (eff:=[]) (fr:=st.objs.length) (rds:=[ob]) ho ?_ hS (Z6 hS) k
      rw [Qb7]
      simp only [evalOp,hop]
      unfold Qds
      have hes:(st.sto ob).bind Qao=some (l.map (Xp ke enc)):=by rw [hrow]; exact Qee _
      simp only [hT,hx,hix,hkind,hes,hk,hz]
      cases hg:kget e l n with
      | none =>
       rw [Qfo hk l 0 hg]
       simp only [hok,eK,cQ,Option.isSome_none]
      | some v =>
       obtain ⟨j,h1,_⟩:=Qj4 (enc:=enc) hk l 0 hg
       rw [h1]
       simp only [hok,eK,cP,dH]
     ·cases hi
    ·cases hi
   ·cases hi
  ·cases hi
 ·cases hi
theorem Q8r {κ α:Type} {ke:κ->AV} {enc:α->AV} {e:κ->κ->Bool} {l:List (κ × α)} {n:κ} {v:α} {ob:Nat} {kt:TypeId} (hi:Qvn P ops i st=some (ob,kt,ke n,enc v)) (hk:∀a b,Z8 P kt (ke a) (ke b)=some (e a b)) (hrow:st.sto ob=some (Zh ke enc l))
  (hS:Zl ops i st none [(ob,Zh ke enc (kput e l n v))]=some S) (hl:Nat.beq S.objs.length st.objs.length=true) (k:RW P rd base ops (Q1 d [([ob],[ob])]) (i+1) S Φ):RW P rd base ops d i st Φ:=by
 have main:∃o,Z0 ops i st=some o/\Ze P false noC st.sto st.objs.length (lk st.slots) o=some (.val ⟨none,[(ob,Zh ke enc (kput e l n v))],st.objs.length,[ob]⟩):=by
  unfold Qvn at hi
  split at hi
  rotate_left
  ·cases hi
  rename_i o ho
  have step:∀(t:TypeId) (m x y:Operand),(o.op=.mapUpdate t m x y\/o.op=.insert t m x y)->(match ti P t,evo (lk st.slots) m,evo (lk st.slots) x,evo (lk st.slots) y with
    | some T,some (.mp ob),some k,some v=>match T.kind with
     | .map kt _=>some (ob,kt,k,v)
     | _=>none
    | _,_,_,_=>none)=some (ob,kt,ke n,enc v)->Ze P false noC st.sto st.objs.length (lk st.slots) o=some (.val ⟨none,[(ob,Zh ke enc (kput e l n v))],st.objs.length,[ob]⟩):=fun t m x y hop hi=>by
   split at hi
   ·rename_i T ob' k' v' hT hm hx hy
    split at hi
    ·rename_i kt et hkind
     cases hi
     rw [Qb7]
     have hev:evalOp P false noC st.sto st.objs.length (lk st.slots) o=Qd4 P st.sto st.objs.length (lk st.slots) t m x y:=by
      rcases hop with hop | hop <;> simp only [evalOp,hop]
     rw [hev]
     unfold Qd4
     have hes:(st.sto ob).bind Qao=some (l.map (Xp ke enc)):=by rw [hrow]; exact Qee _
     simp only [hT,hm,hx,hy,hkind,hes,hk]
     cases hg:kget e l n with
     | none =>
      rw [Qfo hk l 0 hg]
      simp only
      rw [show (ke n,enc v)=Xp ke enc (n,v) from rfl,Qls l hg]
      rfl
     | some u =>
      obtain ⟨j,h1,h2⟩:=Qj4 (enc:=enc) hk l 0 hg
      rw [h1]
      simp only [dR]
      rw [show (ke n,enc v)=Xp ke enc (n,v) from rfl,h2]
      rfl
    ·cases hi
   ·cases hi
  refine ⟨o,ho,?_⟩
  split at hi
  ·rename_i t m x y hop; exact step t m x y (.inl hop) hi
  ·rename_i t m x y hop; exact step t m x y (.inr hop) hi
  cases hi
 obtain ⟨o,ho,he⟩:=main
 exact X6 ho he hS (aJ hl) k
end
def kpos {κ α:Type} (e:κ->κ->Bool):List (κ × α)->κ->Nat
 | [],_=>0
 | p::r,n=>if e n p.1 then 0 else kpos e r n+1
section
variable {P:Program} {κ α:Type} {ke:κ->AV} {enc:α->AV} {e:κ->κ->Bool} {kt:TypeId}
theorem Qrf (hk:∀a b,Z8 P kt (ke a) (ke b)=some (e a b)) {n:κ} {v:α}:∀(l:List (κ × α)) (i:Nat),kget e l n=some v->Yp (Z8 P kt) (ke n) (l.map (Xp ke enc)) i=some (some (i+kpos e l n,enc v))/\∀w,(l.map (Xp ke enc)).set (kpos e l n) (Xp ke enc (n,w))=(kput e l n w).map (Xp ke enc)
 | [],i,h=>by cases h
 | p::r,i,h=>by
  unfold kget at h
  split at h
  ·rename_i hc
   cases h
   refine ⟨?_,fun w=>?_⟩
   ·simp only [dE,Xp,Yp,hk,hc,kpos,eK,eH]
   simp only [kput,kpos,hc,eK,dE,List.set_cons_zero]
  rename_i hc
  have hc':e n p.1=false:=by simpa using hc
  obtain ⟨h1,h2⟩:=Qrf hk r (i+1) h
  refine ⟨?_,fun w=>?_⟩
  ·simp only [dE,Xp,Yp,hk,hc',kpos]
   rw [h1]
   simp only [aT,eJ]
   rw [show i+(kpos e r n+1)=i+1+kpos e r n by omega]
  simp only [kput,kpos,hc',dE,aT,eJ,List.set_cons_succ,h2 w]
theorem Qq1 {n:κ}:∀(l:List (κ × α)),kget e l n=none->kpos e l n=l.length
 | [],_=>rfl
 | p::r,h=>by
  unfold kget at h
  split at h
  ·cases h
  rename_i hc
  have hc':e n p.1=false:=by simpa using hc
  simp only [kpos,hc',aT,eJ,dG,Qq1 r h]
theorem Quw {n:κ} {v w:α}:∀(l:List (κ × α)),((kput e l n w).map (Xp ke enc))[kpos e l n]?=some (ke n,enc w)/\((kput e l n w).map (Xp ke enc)).set (kpos e l n) (ke n,enc v)=(kput e l n v).map (Xp ke enc)
 | []=>⟨rfl,rfl⟩
 | p::r=>by
  obtain ⟨h1,h2⟩:=Quw (n:=n) (v:=v) (w:=w) r
  by_cases hc:e n p.1=true
  ·simp [kput,kpos,hc,Xp]
  have hc':e n p.1=false:=by simpa using hc
  simp only [kput,kpos,hc',aT,eJ,dE,List.getElem?_cons_succ,List.set_cons_succ,h1,h2]
  exact ⟨trivial,trivial⟩
end
section
variable {P:Program} {rd:Option Nat} {base:Nat} {ops:Array Oper} {d:Option (List Sk)} {st S:St} {Φ:AOut->Prop} {i:Nat}
noncomputable def Qvq (P:Program) (ops:Array Oper) (i:Nat) (st:St):Option (Nat × TypeId × AV × AV) :=
 match Z0 ops i st with
 | some o=>match o.op with
  | .mapEntry t x ix=>match ti P t,evo (lk st.slots) x,evo (lk st.slots) ix with
   | some T,some (.mp ob),some k=>match T.kind with
    | .map kt et=>match (ti P et).bind (·.zero) with
     | some z=>some (ob,kt,k,z)
     | _=>none
    | _=>none
   | _,_,_=>none
  | _=>none
 | none=>none
noncomputable def Qwd (ops:Array Oper) (i:Nat) (st:St):Option (Nat × AV × AV) :=
 match Z0 ops i st with
 | some o=>match o.op with
  | .entryStore _ m x y=>match evo (lk st.slots) m,evo (lk st.slots) x,evo (lk st.slots) y with
   | some (.mp ob),some k,some v=>some (ob,k,v)
   | _,_,_=>none
  | _=>none
 | none=>none
theorem Q69 {κ α:Type} {ke:κ->AV} {enc:α->AV} {e:κ->κ->Bool} {l:List (κ × α)} {n:κ} {z:α} {ob:Nat} {kt:TypeId} (hi:Qvq P ops i st=some (ob,kt,ke n,enc z)) (hk:∀a b,Z8 P kt (ke a) (ke b)=some (e a b)) (hrow:st.sto ob=some (Zh ke enc l)) (hok:∀v,(enc v).okv=true)
  (hS:Zl ops i st (some (.tup [enc ((kget e l n).getD z),.int .i64 (kpos e l n:Int)])) [(ob,Zh ke enc (kput e l n ((kget e l n).getD z)))]=some S) (hl:Nat.beq S.objs.length st.objs.length=true) (k:RW P rd base ops (Q1 d [([ob],[ob])]) (i+1) S Φ):RW P rd base ops d i st Φ:=by
 unfold Qvq at hi
 split at hi
 ·rename_i o ho
  split at hi
  ·rename_i t x ix hop
   split at hi
   ·rename_i T ob' k' hT hx hix
    split at hi
    ·rename_i kt et hkind
     split at hi
     ·rename_i z' hz
      cases hi
      refine X6 (nf:=false) (v:=some (.tup [enc ((kget e l n).getD z),.int .i64 (kpos e l n:Int)])) (eff:=[(ob,Zh ke enc (kput e l n ((kget e l n).getD z)))]) (fr:=st.objs.length) (rds:=[ob]) ho ?_ hS (aJ hl) k
      rw [Qb7]
      simp only [evalOp,hop]
      unfold Qin
      have hes:(st.sto ob).bind Qao=some (l.map (Xp ke enc)):=by rw [hrow]; exact Qee _
      simp only [hT,hx,hix,hkind,hes,hk,hz]
      cases hg:kget e l n with
      | none =>
       rw [Qfo hk l 0 hg]
       simp only [hok,eK,cQ]
       rw [show (ke n,enc z)=Xp ke enc (n,z) from rfl,Qls l hg,Qq1 l hg,bW]
       rfl
      | some v =>
       obtain ⟨h1,h2⟩:=Qrf (enc:=enc) hk l 0 hg
       rw [h1]
       simp only [hok,eK,cP,dR]
       rw [show (ke n,enc v)=Xp ke enc (n,v) from rfl,h2]
       rfl
     ·cases hi
    ·cases hi
   ·cases hi
  ·cases hi
 ·cases hi
theorem Q63 {κ α:Type} {ke:κ->AV} {enc:α->AV} {e:κ->κ->Bool} {l:List (κ × α)} {n:κ} {v w:α} {ob:Nat} (hi:Qwd ops i st=some (ob,.int .i64 (kpos e l n:Int),enc v)) (hrow:st.sto ob=some (Zh ke enc (kput e l n w)))
  (hS:Zl ops i st none [(ob,Zh ke enc (kput e l n v))]=some S) (hl:Nat.beq S.objs.length st.objs.length=true) (k:RW P rd base ops (Q1 d [([ob],[ob])]) (i+1) S Φ):RW P rd base ops d i st Φ:=by
 unfold Qwd at hi
 split at hi
 ·rename_i o ho
  split at hi
  ·rename_i t m x y hop
   split at hi
   ·rename_i ob' k' v' hm hx hy
    cases hi
    refine X6 (nf:=false) (v:=none) (eff:=[(ob,Zh ke enc (kput e l n v))]) (fr:=st.objs.length) (rds:=[ob]) ho ?_ hS (aJ hl) k
    rw [Qb7]
    simp only [evalOp,hop]
    unfold Qgu
    have hes:(st.sto ob).bind Qao=some ((kput e l n w).map (Xp ke enc)):=by rw [hrow]; exact Qee _
    obtain ⟨h1,h2⟩:=Quw (ke:=ke) (enc:=enc) (e:=e) (n:=n) (v:=v) (w:=w) l
    have hx':evo (lk st.slots) x=some (.int .i64 (.ofNat (kpos e l n))):=hx
    simp only [hm,hx',hy,hes,h1,h2]
    rfl
   ·cases hi
  ·cases hi
 ·cases hi
end
theorem Qqu {κ α:Type} {ke:κ->AV} {enc:α->AV} {f:Nat -> Option Nat} (hk:∀v,(ke v).ren f=some (ke v)) (he:∀v,(enc v).ren f=some (enc v)):∀(l:List (κ × α)) (i:Nat),Qny f (Xa i (l.map (Xp ke enc)))=some (Xa i (l.map (Xp ke enc)))
 | [],i=>rfl
 | x::l,i=>by
  simp only [dE,Xp,Xa,Qny,he]
  have h2:=Qqu hk he l (i+2)
  rw [hk]
  simp only [h2]
theorem Q10 {κ α:Type} {ke:κ->AV} {enc:α->AV} {f:Nat -> Option Nat} (hk:∀v,(ke v).ren f=some (ke v)) (he:∀v,(enc v).ren f=some (enc v)) (l:List (κ × α)):(Zh ke enc l).ren f=some (Zh ke enc l):=by
 show AObj.ren f (.loop _ _ _ _ _ _ _)=_
 simp only [AObj.ren,Qqu hk he l 0]
 rfl
theorem wk_gcK {P:Program} {base:Nat} {st st':St} {live keep:List Nat} (o:Nat) {κ α:Type} (ke:κ->AV) (enc:α->AV) (L:List (κ × α)) (hK:∀f a,(ke a).ren f=some (ke a)) (hE:∀f a,(enc a).ren f=some (enc a)) (ho:st.objs[o]?=some (Zh ke enc L))
  (h:Q23 base live keep o (Zh ke enc L) st=some st'):Wk P base st st':=by
 refine Vo (live:=live) (keep:=keep) ?_
 unfold Q23 at h
 have hself:st.objs.set o (Zh ke enc L)=st.objs:=by
  obtain ⟨h1,h2⟩:=aD.1 ho
  apply List.ext_getElem?
  intro i
  by_cases e:o=i
  ·subst e; rw [bY h1,ho]
  rw [bZ e]
 cases hg:Qe1 base live keep ⟨st.slots,st.objs.set o (mapO []),st.nt⟩ with
 | none=>rw [hg] at h; cases h
 | some s =>
  rw [hg] at h
  cases h
  unfold Qe1 at hg ⊢
  simp only at hg ⊢
  split at hg
  ·rename_i hc
   rw [aH hc]
   split at hg
   ·rename_i os hos
    cases hg
    have:=Qi8 (Q10 (ke:=ke) (fun a=>hK _ a) (fun a=>hE _ a) L) (aD.1 ho).1 _ _ hos
    rw [hself] at this
    rw [this]
   cases hg
  cases hg
theorem Qyt {N:Nat} {κ α:Type} {ke:κ->AV} {enc:α->AV} {l:List (κ × α)} (hk:∀v,(ke v).ids=[]) (he:∀v,(enc v).ids=[]):Qa1 N (Zh ke enc l):=by
 show ∀p∈Xa 0 (l.map (Xp ke enc)),∀o∈p.2.ids,o < N
 have:∀(l:List (κ × α)) (i:Nat),∀p∈Xa i (l.map (Xp ke enc)),p.2.ids=[]:=by
  intro l
  induction l with
  | nil=>intro i p hp; cases hp
  | cons x l ih =>
   intro i p hp
   simp only [dE,Xp,Xa,cC] at hp
   rcases hp with rfl | rfl | hp
   ·exact hk _
   ·exact he _
   exact ih (i+2) p hp
 intro p hp o ho
 rw [this l 0 p hp] at ho
 cases ho
theorem Kz {N:Nat} {A:List AObj} (k:Nat) {κ α:Type} (ke:κ->AV) (enc:α->AV) (l:List (κ × α)) (hA:A[k]?=some (Zh ke enc l)) (hk:∀v,(ke v).ids=[]) (he:∀v,(enc v).ids=[]) (h:(A.set k .dead).all (Qom N)=true):∀y∈A,Qa1 N y:=fun y hy=>by
 obtain ⟨j,hj⟩:=bQ.1 hy
 by_cases e:k=j
 ·subst e
  rw [hA] at hj
  cases hj
  exact Qyt hk he
 exact Qvz (bO.1 h y (aF (by rw [bZ e]; exact hj)))
end Go.Ab
namespace Go.Ab
open Go.RowKit
theorem Qsp:∀(es:List (Nat × AObj)) (A A':List AObj),Z5 A es=some A'->(∀y∈es,y.1 < A.length)->∀k,Sto.puts (fun k=>A[k]?) es k=A'[k]?
 | [],A,A',h,_,k=>by cases h; rfl
 | (o,x)::es,A,A',h,hl,k=>by
  simp only [Z5] at h
  split at h
  rotate_left
  ·cases h
  have ho:=hl (o,x) (by simp)
  rw [aG ho] at h
  simp only at h
  split at h
  ·cases h
  have ih:=Qsp es _ A' h (fun y hy=>by rw [bX]; exact hl y (cL _ hy)) k
  rw [<-ih]
  show Sto.puts _ es k=_
  congr 1
  funext j
  by_cases e:j=o
  ·subst e; simp [Sto.put,bY ho]
  simp [Sto.put,e,bZ (fun h=>e h.symm)]
theorem Qz4 {N:Nat} {A:List AObj} (h:A.all (Qom N)=true):∀y∈A,Qa1 N y:=fun y hy=>Qvz (bO.1 h y hy)
section
variable {P:Program} {rd:Option Nat} {base:Nat} {ops:Array Oper} {d:Option (List Sk)} {st:St} {Φ:AOut->Prop} {i:Nat}
theorem Q8l {σ ρ R:Type} {N:Nat} {c:Code} {I:σ->St} {E:ρ->St} {F:σ->Option ρ} {K:ρ->Option R} {r:R} {f:FuncId} {fn:Func} {as0:List AV} (s0:σ) (eff:ρ->List (Nat × AObj)) (S:ρ->St) (w:List Nat)
  (hi:Zk ops i st=some (f,as0)) (hf:P.funcs[f]?=some fn) (hb:fn.body=some c) (hn:(fn.name == "runtime.NumGoroutine")=false) (hle:Nat.ble as0.length fn.ntmps=true)
  (h0:(⟨Vm 0 as0,st.objs.take N,fn.ntmps⟩:St)=I s0) (hN:Nat.ble N st.objs.length=true) (hbig:Nat.ble st.objs.length BIG=true) (hlive:(st.objs.take N).all Qsh=true) (hA:∀y∈st.objs.take N,Qa1 N y) (hE:∀x,Nat.beq (E x).objs.length N=true) (hA':∀x,∀y∈(E x).objs,Qa1 N y)
  (hsl:(as0.all fun a=>a.ids.all fun o=>Nat.blt o N)=true)
  (heff:∀x,Z5 (st.objs.take N) (eff x)=some (E x).objs) (hw:∀x,(eff x).map (·.1)=w) (hwl:(w.all fun o=>Nat.blt o N)=true)
  (IH:Qf2 P N c I E F) (h:(F s0).bind K=some r) (hS:∀x,Ql0 P fn ops i st (eff x) (E x)=some (S x))
  (k:∀x,K x=some r->RW P rd base ops (Q1 d [(w,List.range N)]) (i+1) (S x) Φ):RW P rd base ops d i st Φ:=by
 have hNl:N<=st.objs.length:=bN hN
 have hlA:(st.objs.take N).length=N:=by rw [cR]; omega
 have hel:∀x,∀y∈eff x,y.1 < N:=fun x y hy=>by
  have:y.1∈(eff x).map (·.1):=List.mem_map_of_mem hy
  rw [hw x] at this
  exact Xr (bO.1 hwl _ this)
 refine Q8i s0 (st.objs.take N) (st.objs.drop N) eff S hi hf hb hn hle (List.take_append_drop N st.objs).symm h0 hlA ?_ hlive hA (fun x=>aJ (hE x)) hA' hsl (fun x k _=>Qsp _ _ _ (heff x) (fun y hy=>by rw [hlA]; exact hel x y hy) k) hel w hw hbig IH h hS k
 have:=bN hbig
 exact Nat.ble_eq_true_of_le (by omega)
end
end Go.Ab
namespace Go.Ab
open Go.RowKit
section
variable {P:Program} {ops:Array Oper} {o:Oper}
end
section
variable {P:Program} {rd:Option Nat} {base:Nat} {ops:Array Oper} {d:Option (List Sk)} {st S:St} {Φ:AOut->Prop} {i:Nat}
theorem Qrs (v:Value) (n:Nat):(Builtin.zeroCells #[v] n).toList=List.replicate n v:=by
 apply List.ext_getElem
 ·simp [Builtin.zeroCells]
 intro j h1 h2
 simp [Builtin.zeroCells,Nat.mod_one]
end
end Go.Ab
namespace Go.Ab
open Go.RowKit
@[reducible] def nlE {α:Type} (fl:Bool) (enc:α->AV):List α->AV
 | []=>.nils
 | a::l=>.lst fl ((a::l).map enc)
section
variable {P:Program} {rd:Option Nat} {base:Nat} {ops:Array Oper} {d:Option (List Sk)} {Φ:AOut->Prop} {i:Nat}
variable {st:St} {ops:Array Oper}
theorem Q7b {α R:Type} {G:Option (List α)} {A:Option R} {B:α->List α->Option R} {f:FuncId} {as0 us:List AV} {ids:List Nat} {fl:Bool} {enc:α->AV} {S0:St} {S1:α->List α->St} {r:R} (hi:Zk ops i st=some (f,as0)) (hb:Qhj P f=true)
  (hsn:Qx (Qt st.sto Qo) as0=some (us,ids)) (hc:∀x,G=some x->Q3 P f us (.ret (nlE fl enc x) [])) (h0:Qdj ops i st ids .nils []=some S0) (h1:∀a t,Qdj ops i st ids (.lst fl ((a::t).map enc)) []=some (S1 a t))
  (h:(G.bind fun x=>Q3b x A B)=some r) (k0:A=some r->RW P rd base ops (Q1 d [Qir st ids .nils []]) (i+1) S0 Φ)
  (k1:∀a t,B a t=some r->RW P rd base ops (Q1 d [Qir st ids (.lst fl ((a::t).map enc)) []]) (i+1) (S1 a t) Φ):RW P rd base ops d i st Φ:=by
 cases hg:G with
 | none=>rw [hg] at h; cases h
 | some x =>
  rw [hg] at h
  cases x with
  | nil=>exact Qpx hi hb hsn (hc [] hg) h0 (k0 h)
  | cons a t=>exact Qpx hi hb hsn (hc (a::t) hg) (h1 a t) (k1 a t h)
end
end Go.Ab
