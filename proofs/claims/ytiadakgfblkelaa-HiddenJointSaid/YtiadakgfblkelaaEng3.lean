/- Rules. No conditions. -/
import Derived.Test.YtiadakgfblkelaaEng2
import Derived.RangeFuncNested
import Derived.MapKept
import Derived.WideKeyRuns
set_option linter.all false
namespace Go.Ab
open Go.RowKit
section
variable {P:Program} {nf:Bool} {C:FuncId→List AV→Option Xp} {B:Nat} {W0 W W':World} {D:List Nat} {M:CM} {ι:Inj} {σ:Sto} {s:Slots} {a:Act} {fr:Nat} {o:Oper} {res:Res}
theorem Qpx (xs:List AV):∀(ys:List AV) (i:Nat),(Vv xs i ys).length=xs.length:=by
 intro ys
 induction ys generalizing xs with
 | nil=>intro i; rfl
 | cons y ys ih=>intro i; simp [Vv,ih]
theorem Qfh : ∀(ys xs:List AV) (i:Nat),i+ys.length≤xs.length→∀k,(Vv xs i ys)[k]?=if i≤k∧k < i+ys.length then ys[k - i]? else xs[k]?
 | [],xs,i,_,k=>by simp [Vv]; intro h1 h2; omega
 | y::ys,xs,i,h,k=>by
  simp only [List.length_cons] at h
  rw [Vv,Qfh ys (xs.set i y) (i+1) (by simp; omega) k]
  by_cases e:k=i
  ·subst e
   rw [if_neg (by omega),if_pos (by simp),List.getElem?_set_self (by omega)]
   simp
  ·rw [List.getElem?_set_ne (Ne.symm e)]
   by_cases hlt:i≤k∧k < i+(ys.length+1)
   ·rw [if_pos (by omega),if_pos (by simpa using hlt)]
    rw [show k - i=(k - (i+1))+1 by omega]; simp
   ·rw [if_neg (by omega),if_neg (by simpa using hlt)]
theorem Qg5 {xs ys:List AV} {i:Nat} (h:i+ys.length≤xs.length):∀z∈Vv xs i ys,z∈ys∨z∈xs:=by
 intro z hz
 obtain ⟨k,hk,rfl⟩:=List.mem_iff_getElem.1 hz
 have:=Qfh ys xs i h k
 rw [List.getElem?_eq_getElem hk] at this
 split at this
 ·exact .inl (List.mem_of_getElem? this.symm)
 ·exact .inr (List.mem_of_getElem? this.symm)
theorem Rel.overwrite (h:Rel P B W0 D M ι σ W) {o:Nat} {p:Place} {bx nr fl nr' fl':Bool} {w:Nat} {xs ys:List AV} {vs:List Value}
  (hσ:σ o=some (.row bx false nr fl w xs)) (hι:ι o=some p) (i:Nat) (hi:i+ys.length≤xs.length) (hys:Ya M ι w ys vs) (hnr:nr'=true→AV.nrL ys=true) (hfl:fl'=true→∀x∈ys,AV.scs x=true) :
  Rel P B W0 D M ι (σ.put o (.row bx false (nr && nr') (fl && fl') w (Vv xs i ys))) (W.setCells p.blk (p.base+i*w) vs):=by
 obtain ⟨q,hq,hrow⟩:=h.row _ _ _ _ _ _ _ hσ
 have hpq:p=q:=by rw [hι] at hq; exact Option.some.inj hq
 subst hpq
 have hvl:=hys.size
 have hfit:i*w+ys.length*w≤p.cap*w:=by rw [←Nat.add_mul]; exact Nat.mul_le_mul_right _ (by have:=hrow.len; omega)
 refine h.write hσ hι (i*w) vs (by omega) (by rw [Qpx]; exact hrow.len) (fun z hz=>?_) (fun hn=>?_) (fun hf z hz=>?_) (fun k j z q hk hj hlo hhi=>?_) (fun k j z q hk hj hout=>?_)
 ·rcases Qg5 hi z hz with e | e
  ·exact hys.shaped z e
  ·exact hrow.shaped z e
 ·simp only [Bool.and_eq_true] at hn
  rw [Qx]
  intro z hz
  rcases Qg5 hi z hz with e | e
  ·exact Qx.1 (hnr hn.2) z e
  ·exact Qx.1 (hrow.nr hn.1) z e
 ·simp only [Bool.and_eq_true] at hf
  rcases Qg5 hi z hz with e | e
  ·exact hfl hf.2 z e
  ·exact hrow.fl hf.1 z e
 ·rw [Qfh ys xs i hi k] at hk
  split at hk
  ·rename_i hr
   obtain ⟨v,hv,h1,_⟩:=hys.rep (k - i) j z q hk hj
   refine ⟨v,?_,h1⟩
   rw [←hv]; congr 1
   have:k*w=(k - i)*w+i*w:=by rw [←Nat.add_mul]; congr 1; omega
   omega
  ·rename_i hr
   exfalso
   have hjw:j < w:=by rw [←(hrow.shaped z (List.mem_of_getElem? hk)).len]; exact (List.getElem?_eq_some_iff.1 hj).1
   rcases Nat.lt_or_ge k i with hlt | hge
   ·have:(k+1)*w≤i*w:=Nat.mul_le_mul_right _ (by omega)
    rw [Nat.succ_mul] at this; omega
   ·have:(i+ys.length)*w≤k*w:=Nat.mul_le_mul_right _ (by omega)
    rw [Nat.add_mul] at this; omega
 ·rw [Qfh ys xs i hi k] at hk
  split at hk
  ·rename_i hr
   exfalso
   have hjw:j < w:=by rw [←(hys.shaped z (List.mem_of_getElem? hk)).len]; exact (List.getElem?_eq_some_iff.1 hj).1
   have h1:i*w≤k*w:=Nat.mul_le_mul_right _ hr.1
   have h2:(k+1)*w≤(i+ys.length)*w:=Nat.mul_le_mul_right _ (by omega)
   rw [Nat.succ_mul,Nat.add_mul] at h2; omega
  ·obtain ⟨u,hu,hr⟩:=hrow.cells k j z q hk hj
   exact ⟨u,by rw [←Nat.add_assoc]; exact hu,hr⟩
theorem Rel.extend (h:Rel P B W0 D M ι σ W) {o:Nat} {p:Place} {bx nr fl nr' fl':Bool} {w:Nat} {xs ys:List AV} {vs:List Value}
  (hσ:σ o=some (.row bx false nr fl w xs)) (hι:ι o=some p) (n:Nat) (hn:n≤xs.length) (hcap:n+ys.length≤p.cap) (hys:Ya M ι w ys vs) (hnr:nr'=true→AV.nrL ys=true) (hfl:fl'=true→∀x∈ys,AV.scs x=true) :
  Rel P B W0 D M ι (σ.put o (.row bx false (nr && nr') (fl && fl') w (xs.take n++ys))) (W.setCells p.blk (p.base+n*w) vs):=by
 obtain ⟨q,hq,hrow⟩:=h.row _ _ _ _ _ _ _ hσ
 have hpq:p=q:=by rw [hι] at hq; exact Option.some.inj hq
 subst hpq
 have hvl:=hys.size
 have hfit:n*w+ys.length*w≤p.cap*w:=by rw [←Nat.add_mul]; exact Nat.mul_le_mul_right _ (by omega)
 have htl:(xs.take n).length=n:=by simp; omega
 refine h.write hσ hι (n*w) vs (by omega) (by rw [List.length_append,htl]; exact hcap) (fun z hz=>?_) (fun hn'=>?_) (fun hf z hz=>?_) (fun k j z q hk hj hlo hhi=>?_) (fun k j z q hk hj hout=>?_)
 ·rcases List.mem_append.1 hz with e | e
  ·exact hrow.shaped z (List.mem_of_mem_take e)
  ·exact hys.shaped z e
 ·simp only [Bool.and_eq_true] at hn'
  rw [Qx]
  intro z hz
  rcases List.mem_append.1 hz with e | e
  ·exact Qx.1 (hrow.nr hn'.1) z (List.mem_of_mem_take e)
  ·exact Qx.1 (hnr hn'.2) z e
 ·simp only [Bool.and_eq_true] at hf
  rcases List.mem_append.1 hz with e | e
  ·exact hrow.fl hf.1 z (List.mem_of_mem_take e)
  ·exact hfl hf.2 z e
 ·rcases Nat.lt_or_ge k n with hlt | hge
  ·exfalso
   rw [List.getElem?_append_left (by omega),List.getElem?_take,if_pos hlt] at hk
   have hjw:j < w:=by rw [←(hrow.shaped z (List.mem_of_getElem? hk)).len]; exact (List.getElem?_eq_some_iff.1 hj).1
   have:(k+1)*w≤n*w:=Nat.mul_le_mul_right _ (by omega)
   rw [Nat.succ_mul] at this; omega
  ·rw [List.getElem?_append_right (by omega),htl] at hk
   obtain ⟨v,hv,h1,_⟩:=hys.rep (k - n) j z q hk hj
   refine ⟨v,?_,h1⟩
   rw [←hv]; congr 1
   have:k*w=(k - n)*w+n*w:=by rw [←Nat.add_mul]; congr 1; omega
   omega
 ·rcases Nat.lt_or_ge k n with hlt | hge
  ·rw [List.getElem?_append_left (by omega),List.getElem?_take,if_pos hlt] at hk
   obtain ⟨u,hu,hr⟩:=hrow.cells k j z q hk hj
   exact ⟨u,by rw [←Nat.add_assoc]; exact hu,hr⟩
  ·exfalso
   rw [List.getElem?_append_right (by omega),htl] at hk
   have hkl:=(List.getElem?_eq_some_iff.1 hk).1
   have hjw:j < w:=by rw [←(hys.shaped z (List.mem_of_getElem? hk)).len]; exact (List.getElem?_eq_some_iff.1 hj).1
   have h1:n*w≤k*w:=Nat.mul_le_mul_right _ hge
   have h2:(k+1)*w≤(n+ys.length)*w:=Nat.mul_le_mul_right _ (by omega)
   rw [Nat.succ_mul,Nat.add_mul] at h2; omega
theorem Ya.append {w:Nat} {xs ys:List AV} {cs ds:List Value} (h:Ya M ι w xs cs) (k:Ya M ι w ys ds):Ya M ι w (xs++ys) (cs++ds):=by
 have hs:=h.size
 refine ⟨by simp only [List.length_append,h.size,k.size,Nat.add_mul],fun z hz=>?_,fun i j x y hi hj=>?_⟩
 ·rcases List.mem_append.1 hz with e | e
  ·exact h.shaped z e
  ·exact k.shaped z e
 ·rcases Nat.lt_or_ge i xs.length with hlt | hge
  ·rw [List.getElem?_append_left hlt] at hi
   obtain ⟨v,hv,r⟩:=h.rep i j x y hi hj
   exact ⟨v,by rw [List.getElem?_append_left (List.getElem?_eq_some_iff.1 hv).1]; exact hv,r⟩
  ·rw [List.getElem?_append_right hge] at hi
   obtain ⟨v,hv,r⟩:=k.rep (i - xs.length) j x y hi hj
   have e:i*w=(i - xs.length)*w+xs.length*w:=by rw [←Nat.add_mul]; congr 1; omega
   refine ⟨v,?_,r⟩
   rw [List.getElem?_append_right (by omega),hs,show i*w+j - xs.length*w=(i - xs.length)*w+j by omega]; exact hv
theorem K1 (size:Nat) (ad:Option Addr) (n c:Nat) (W:World):(Builtin.firstCells size 0 (.slice ad n c)).run P W=.ok #[] W:=by
 cases ad <;> simp [Builtin.firstCells,loadCells,loadCellsFrom]
theorem K4 {t e ty:TypeId} {i:TypeInfo} (ht:P.underlying t=some (.slice e)) (hi:P.info? e=some i) (base:Option Addr) (sLen sCap:Nat) (hle:sLen≤sCap) (ad:Option Addr) (c:Nat) (W:World) :
  (Builtin.append_ #[t,t] ty #[.slice base sLen sCap,.slice ad 0 c]).run P W=.ok (.slice base sLen sCap) W:=by
 simp [Builtin.append_,run_underlying ht,sizeOf,typeInfo,hi,Builtin.lenOf,hle,K1]
 cases base <;> simp [storeCells]
theorem Qrb {t e ty:TypeId} {i:TypeInfo} (ht:P.underlying t=some (.slice e)) (hi:P.info? e=some i) (b off sLen sCap:Nat) (ad:Addr) (m c:Nat) (news:List Value) (hl:news.length=m*i.size)
  (hnews:∀j u,news[j]?=some u→W.cell? (ad.add j)=some u) (h1:∀u∈news,u.oneCell'=true) (hroom:sLen+m≤sCap)
  (hc:∀j,j < news.length→(W.cell? ⟨b,off+sLen*i.size+j,none⟩).isSome=true) (hf:∀j,j < news.length→W.frozen? ⟨b,off+sLen*i.size+j,none⟩=false) :
  (Builtin.append_ #[t,t] ty #[.slice (some ⟨b,off,none⟩) sLen sCap,.slice (some ad) m c]).run P W=.ok (.slice (some ⟨b,off,none⟩) (sLen+m) sCap) (W.setCells b (off+sLen*i.size) news):=by
 have hfc:=run_firstCells_some (P:=P) W i.size m ad m c news hl hnews
 have hst:=run_storeCells_cells (P:=P) b (off+sLen*i.size) news 0 W (by simpa using hc) (by simpa using hf) h1
 rw [Nat.add_zero] at hst
 simp [Builtin.append_,run_underlying ht,sizeOf,typeInfo,hi,Builtin.lenOf,hroom,hfc,Qbu,hst]
theorem Qy0 {t:TypeId} {T:TI} (ht:ti P t=some T) (hz:T.zok=true):∃i zv,P.info? t=some i∧i.zero=some zv∧T.size=i.size∧T.bytes=i.bytes∧zv.cells.size=T.size:=by
 unfold TI.zok at hz
 split at hz
 ·rename_i z hz0
  obtain ⟨i,zv,h1,h2,h3,_,h4⟩:=Qa1 ht hz0
  obtain ⟨_,i',_,h1',_,_,h5,_⟩:=Zy ht
  rw [h1] at h1'; cases h1'
  exact ⟨i,zv,h1,h2,h3,h5,by rw [←h4.len,Vd hz]⟩
 ·cases hz
theorem Qv4 {bytes n:Nat} (h:Yu bytes n=true):n*bytes≤140737488355328∧n≤140737488355328:=by
 simp only [Yu,Bool.and_eq_true] at h
 have h1:=Yd h.1; have h2:=Xu h.2
 exact ⟨h2,Nat.le_trans (Nat.le_mul_of_pos_right n h1) h2⟩
def Qfv (P:Program) (B:Nat) (W0:World) (D:List Nat) (M:CM) (ι:Inj) (σ:Sto) (fr:Nat) (W:World) (t ty:TypeId) (u v:Value) (r:Res):Prop :=
 ∃v' W' ι',(Builtin.append_ #[t,t] ty #[u,v]).run P W=.ok v' W'∧ι.le ι'∧(∀k,k < fr∨r.fr≤k→ι' k=ι k)∧Rel P B W0 D M ι' (σ.puts r.eff) W'∧∀x,r.v=some x→Qa M ι' v' x
set_option maxHeartbeats 2000000 in
theorem Qda (h:Rel P B W0 D M ι σ W) {t e ty:TypeId} {E:TI} (ht:P.underlying t=some (.slice e)) (hE:ti P e=some E) {x:AV} {ys:List AV} {nr fl:Bool} {r:Res}
  (he:absAppend σ fr E x ys nr fl=some r) (hfr:∀k,fr≤k→k < r.fr→ι k=none) {u v:Value} (hu:Qa M ι u x) (hv:Qim M ι W E.size v ys nr fl):Qfv P B W0 D M ι σ fr W t ty u v r:=by
 obtain ⟨_,i,_,hi,_,hsz,hby,_⟩:=Zy hE
 obtain ⟨ad,c,hvf,hvc⟩:=hv.form
 have none_case:∀(x:AV) (base:Option Addr) (l cap:Nat) (rd:List Nat),ys.isEmpty=true→u=.slice base l cap→l≤cap→Qa M ι u x→Qfv P B W0 D M ι σ fr W t ty u v ⟨some x,[],fr,rd⟩:=by
  intro x base l cap rd hy hub hle hux
  have hy0:ys=[]:=by simpa using hy
  rw [hy0] at hvf
  subst hub
  refine ⟨_,W,ι,by rw [hvf]; exact K4 ht hi base l cap hle ad c W,Inj.le_refl _,fun _ _=>rfl,h,fun z hz=>by cases hz; exact hux⟩
 have grow_case:∀(σ':Sto) (base:Option Addr) (n cap:Nat) (xs:List AV) (olds:List Value) (nr' fl':Bool) (eff:List (Nat × AObj)) (rd:List Nat),Rel P B W0 D M ι σ' W →
   u=.slice base n cap→(base=none→n=0∧cap=0)→(∀b,base=some b→∀j q,olds[j]?=some q→W.cell? (b.add j)=some q)→Ya M ι E.size xs olds→xs.length=n→ys≠[]→cap < n+ys.length→E.zok=true→Yu E.bytes (n+ys.length)=true →
   (nr'=true→AV.nrL xs=true)→(fl'=true→∀x∈xs,AV.scs x=true)→ι fr=none→0 < E.size→σ.puts eff=σ' →
   Qfv P B W0 D M ι σ fr W t ty u v ⟨some (.ref fr 0 (n+ys.length)),eff++[(fr,.row false false (nr' && nr) (fl' && fl) E.size (xs++ys))],fr+1,rd⟩:=by
  intro σ' base n cap xs olds nr' fl' eff rd hrel hub hbn hbc hxs hxl hne hlt hzok hroom hnr' hfl' hfr0 hpos hσ'
  obtain ⟨b,off,had,_⟩:=hvc hne
  subst had
  obtain ⟨vs,k1,k2,k3,k4⟩:=hv.cells hvf hne
  obtain ⟨i',zv,z1,z2,z3,z4,z5⟩:=Qy0 hE hzok
  rw [hi] at z1; cases z1
  obtain ⟨r1,r2⟩:=Qv4 hroom
  have hylen:0 < ys.length:=by cases ys <;> simp_all
  have hall:=hxs.append k3
  have hrun:∃cap' rest,n+ys.length≤cap'∧(Builtin.append_ #[t,t] ty #[u,v]).run P W=.ok (.slice (some ⟨W.heap.size,0,none⟩) (n+ys.length) cap') (W.drew.alloc (.cells ((olds++vs).toArray++rest) e))∧((olds++vs).toArray++rest).size=cap'*E.size:=by
   have hszc:∀cap',n+ys.length≤cap'→((olds++vs).toArray++Builtin.zeroCells zv.cells (cap' - (n+ys.length))).size=cap'*E.size:=by
    intro cap' hc'
    simp only [Array.size_append,List.size_toArray,size_zeroCells,z5,hall.size,List.length_append,hxl]
    rw [←Nat.add_mul]; congr 1; omega
   cases base with
   | none =>
    obtain ⟨rfl,rfl⟩:=hbn rfl
    have hxe:xs=[]:=List.eq_nil_of_length_eq_zero hxl
    subst hxe
    have hoe:olds=[]:=List.eq_nil_of_length_eq_zero (by rw [hxs.size]; simp)
    subst hoe
    have hr:=run_append_nil (P:=P) W t ty e i zv ht hi z2 ⟨b,off,none⟩ ys.length c vs (by rw [k1,z3]) k2 hylen (by omega) (by rw [←hby]; rw [Nat.zero_add] at r1; omega)
    refine ⟨grownCap W ys.length 0 e,_,by rw [Nat.zero_add]; exact grownCap_ge _ _ _ _,?_,hszc _ (by rw [Nat.zero_add]; exact grownCap_ge _ _ _ _)⟩
    rw [hub,hvf,hr]
    simp
   | some bb =>
    have hr:=run_append_grow (P:=P) W t ty e i zv ht hi z2 bb n cap olds (by rw [hxs.size,hxl,z3]) (hbc bb rfl) ⟨b,off,none⟩ ys.length c vs (by rw [k1,z3]) k2 hlt (by omega) (growslice_fits hlt (by rw [←hby]; exact r1))
    refine ⟨grownCap W (n+ys.length) cap e,_,grownCap_ge _ _ _ _,?_,hszc _ (grownCap_ge _ _ _ _)⟩
    rw [hub,hvf,hr]
    simp
  obtain ⟨cap',rest,hc1,hrun,hsize⟩:=hrun
  have key:=hrel.drew.allocRow (bx:=false) (nr:=nr' && nr) (fl:=fl' && fl) hfr0 ((olds++vs).toArray++rest) e hpos (by omega:0 < cap') hsize (by rw [List.length_append,hxl]; exact hc1) hall.shaped
   (fun hn=>by simp only [Bool.and_eq_true] at hn; rw [Qxb,hnr' hn.1,hv.nr hn.2]; rfl)
   (fun hf z hz=>by
    simp only [Bool.and_eq_true] at hf
    rcases List.mem_append.1 hz with q | q
    ·exact hfl' hf.1 z q
    ·exact hv.fl hf.2 z q)
   (fun k j z q hk hj=>by
    obtain ⟨w,hw,hr,_⟩:=hall.rep k j z q hk hj
    refine ⟨w,?_,hr⟩
    have hlt':=(List.getElem?_eq_some_iff.1 hw).1
    rw [Array.getElem?_append_left (by simpa using hlt')]
    simpa using hw)
  refine ⟨_,_,ι.put fr ⟨W.heap.size,0,E.size,cap'⟩,hrun,Inj.le_put _ hfr0,fun k hk=>Inj.put_ne _ _ (by simp at hk; omega),?_,fun z hz=>?_⟩
  ·rw [Sto.puts_append,hσ']; exact key
  ·cases hz
   exact .ref fr 0 _ ⟨W.heap.size,0,E.size,cap'⟩ 0 cap' (Inj.put_same _ _ _) (by simpa using hc1) (by simp) (.inl (by simp))
 have nil_case:∀(base:Option Addr),u=.slice base 0 0→E.zok=true→Yu E.bytes ys.length=true→0 < E.size→ι fr=none →
   Qfv P B W0 D M ι σ fr W t ty u v ⟨some (.ref fr 0 ys.length),[(fr,.row false false nr fl E.size ys)],fr+1,[]⟩:=by
  intro base hub c1 c2 c3 hfr0
  by_cases hne:ys=[]
  ·rw [hne] at hvf ⊢
   subst hub
   rw [hvf]
   exact ⟨_,W,ι.put fr ⟨B,0,E.size,0⟩,K4 ht hi base 0 0 (Nat.le_refl _) _ c W,Inj.le_put _ hfr0,fun k hk=>Inj.put_ne _ _ (by simp at hk; omega),h.virt hfr0 c3,fun z hz'=>by cases hz'; exact .ref0 _ _ _ (Inj.put_same _ _ _) rfl⟩
  ·have:=grow_case σ base 0 0 [] [] true true [] [] h hub (fun _=>⟨rfl,rfl⟩) (by simp) ⟨by simp,by simp,by simp⟩ rfl hne (by cases ys <;> simp_all) c1 (by rw [Nat.zero_add]; exact c2) (by simp [AV.nrL]) (by simp) hfr0 c3 rfl
   simpa using this
 unfold absAppend at he
 split at he
 ·split at he
  ·rename_i hc
   simp only [Bool.and_eq_true] at hc
   obtain ⟨⟨c1,c2⟩,c3⟩:=hc
   cases he
   exact nil_case none hu.nils_inv c1 c2 (Yd c3) (hfr fr (Nat.le_refl _) (by simp))
  ·cases he
 ·split at he
  ·rename_i hc
   simp only [Bool.and_eq_true] at hc
   obtain ⟨⟨c1,c2⟩,c3⟩:=hc
   cases he
   obtain ⟨ad0,hu0⟩:=hu.emp_inv
   exact nil_case ad0 hu0 c1 c2 (Yd c3) (hfr fr (Nat.le_refl _) (by simp))
  ·cases he
 ·split at he
  ·rename_i hy
   cases he
   cases hu with
   | lst0=>exact none_case _ _ 0 0 _ hy rfl (Nat.le_refl _) (.lst0 _ _)
   | lst b off cap w f xs g hcap hfl hc hM hr =>
   exact none_case _ _ _ _ _ hy rfl hcap (.lst b off cap w _ _ g hcap hfl hc hM hr)
  ·cases he
 ·rename_i ob ii n
  split at he
  ·rename_i nr' fl' w xs hσ
   split at he
   ·rename_i hc
    simp only [Bool.and_eq_true] at hc
    obtain ⟨c1,c2⟩:=hc
    have c1:=Vd c1; have c2:=Xu c2
    subst c1
    obtain ⟨p,hp,hrow⟩:=h.row _ _ _ _ _ _ _ hσ
    have hlen:=hrow.len
    cases hu with
    | ref0 ad _ q hq hz =>
     have hpq:p=q:=by rw [hp] at hq; exact Option.some.inj hq
     subst hpq
     have hx0:xs=[]:=List.eq_nil_of_length_eq_zero (by omega)
     subst hx0
     rw [if_pos (by rfl)] at he
     split at he
     ·rename_i hroom
      simp only [Bool.and_eq_true] at hroom
      cases he
      have hfr0:ι fr=none:=hfr fr (Nat.le_refl _) (by simp)
      by_cases hne:ys=[]
      ·subst hne
       rw [hvf]
       refine ⟨_,W,ι.put fr ⟨B,0,E.size,0⟩,K4 ht hi ad 0 0 (Nat.le_refl _) _ c W,Inj.le_put _ hfr0,fun k hk=>Inj.put_ne _ _ (by simp at hk; omega),?_,fun z hz'=>by cases hz'; exact .ref0 _ _ _ (Inj.put_same _ _ _) rfl⟩
       exact (h.kill ob).virt hfr0 hrow.pos
      ·have:=grow_case (σ.put ob .dead) ad 0 0 [] [] nr' fl' [(ob,.dead)] [ob] (h.kill ob) rfl (fun _=>⟨rfl,rfl⟩) (by simp) ⟨by simp,by simp,by simp⟩ rfl hne (by cases ys <;> simp_all) hroom.1 hroom.2 (by simp [AV.nrL]) (by simp) hfr0 hrow.pos rfl
       simpa using this
     ·cases he
    | ref _ _ _ q off cap hq hi' hcap hoff =>
    have hpq:p=q:=by rw [hp] at hq; exact Option.some.inj hq
    subst hpq
    have hux:Qa M ι (.slice (some ⟨p.blk,off,none⟩) n cap) (.ref ob ii n):=.ref ob ii n p off cap hp hi' hcap hoff
    have hputput:∀(σ:Sto) (x y:AObj),(σ.put fr x).put fr y=σ.put fr y:=fun σ x y=>by
     funext k; by_cases e:k=fr <;> simp [Sto.put,e]
    have in_run:∀(b off':Nat) (vs:List Value),v=.slice (some ⟨b,off',none⟩) ys.length c→vs.length=ys.length*E.size→(∀j u,vs[j]?=some u→W.cell? ((⟨b,off',none⟩:Addr).add j)=some u)→(∀u∈vs,u.oneCell'=true)→n+ys.length≤cap→off=p.base+ii*E.size →
      (Builtin.append_ #[t,t] ty #[.slice (some ⟨p.blk,off,none⟩) n cap,v]).run P W=.ok (.slice (some ⟨p.blk,off,none⟩) (n+ys.length) cap) (W.setCells p.blk (off+n*i.size) vs):=by
     intro b off' vs hvf k1 k2 k4 hle ho
     have hown:=(hrow.own rfl).2
     rw [hvf]
     have hfit:(ii+n+ys.length)*E.size≤p.cap*E.size:=Nat.mul_le_mul_right _ (by omega)
     rw [Nat.add_mul,Nat.add_mul] at hfit
     exact Qrb ht hi p.blk off n cap ⟨b,off',none⟩ ys.length c vs (by rw [k1,hsz]) k2 k4 hle (fun j hj=>by
      have:=(hown (ii*E.size+n*E.size+j) (by omega)).1
      rw [ho,←hsz,show p.base+ii*E.size+n*E.size+j=p.base+(ii*E.size+n*E.size+j) by omega]; exact this) (fun j hj=>by
      have:=(h.cool _ _ _ _ _ _ _ (ii*E.size+n*E.size+j) (by assumption) hp (by omega)).1 (p.base+(ii*E.size+n*E.size+j))
      rw [ho,←hsz,show p.base+ii*E.size+n*E.size+j=p.base+(ii*E.size+n*E.size+j) by omega]; exact this)
    have move_case:ys≠[]→E.zok=true→Yu E.bytes (n+ys.length)=true→ι fr=none →
      Qfv P B W0 D M ι σ fr W t ty (.slice (some ⟨p.blk,off,none⟩) n cap) v ⟨some (.ref fr 0 (n+ys.length)),[(ob,.dead),(fr,.row false false (nr' && nr) (fl' && fl) E.size ((xs.drop ii).take n++ys))],fr+1,[ob]⟩:=by
     intro hne hr1 hr2 hfr0
     have hylen:0 < ys.length:=by cases ys <;> simp_all
     obtain ⟨b,off',had,_⟩:=hvc hne
     subst had
     obtain ⟨vs,k1,k2,k3,k4⟩:=hv.cells hvf hne
     by_cases hle:n+ys.length≤cap
     ·have hoff':off=p.base+ii*E.size:=by
       rcases hoff with q | q
       ·rw [q,hrow.pw]
       ·omega
      have hmv:=h.move hσ hp hfr0 ii (by omega)
      have k3':=k3.mono (CM.le_refl M) (Inj.le_put ⟨p.blk,p.base+ii*E.size,E.size,p.cap - ii⟩ hfr0)
      have hext:=hmv.extend (Sto.put_same _ _ _) (Inj.put_same _ _ _) n (by rw [List.length_drop]; omega) (by show n+ys.length≤p.cap - ii; omega) k3' hv.nr hv.fl
      refine ⟨_,_,ι.put fr ⟨p.blk,p.base+ii*E.size,E.size,p.cap - ii⟩,in_run b off' vs hvf k1 k2 k4 hle hoff',Inj.le_put _ hfr0,fun k hk=>Inj.put_ne _ _ (by simp at hk; omega),?_,fun z hz=>?_⟩
      ·simp only [Sto.puts]
       rw [hoff',←hsz]
       rw [hputput] at hext
       exact hext
      ·cases hz
       exact .ref fr 0 _ ⟨p.blk,p.base+ii*E.size,E.size,p.cap - ii⟩ off cap (Inj.put_same _ _ _) (by show 0+(n+ys.length)≤p.cap - ii; omega) (by show cap=p.cap - ii - 0; omega) (.inl (by show off=p.base+ii*E.size+0*E.size; omega))
     ·have hsl:Qim M ι W E.size (.slice (some ⟨p.blk,off,none⟩) n cap) ((xs.drop ii).take n) nr' fl':=by
       have:=Qe0 (rd:=[ob]) (w:=E.size) (x:=.ref ob ii n) (ys:=(xs.drop ii).take n) (nr:=nr') (fl:=fl') h (by
        unfold Yh
        simp only [hσ]
        rw [if_pos (by simp; omega)]) hux
       exact this
      have hsn:((xs.drop ii).take n).length=n:=by rw [List.length_take,List.length_drop]; omega
      have holds:∃olds:List Value,Ya M ι E.size ((xs.drop ii).take n) olds∧∀j q,olds[j]?=some q→W.cell? ((⟨p.blk,off,none⟩:Addr).add j)=some q:=by
       by_cases hn0:(xs.drop ii).take n=[]
       ·exact ⟨[],⟨by rw [hn0]; simp,by rw [hn0]; simp,by rw [hn0]; simp⟩,by simp⟩
       ·obtain ⟨olds,a1,a2,a3,_⟩:=hsl.cells rfl hn0
        exact ⟨olds,a3,a2⟩
      obtain ⟨olds,a3,a2⟩:=holds
      have:=grow_case (σ.put ob .dead) (some ⟨p.blk,off,none⟩) n cap ((xs.drop ii).take n) olds nr' fl' [(ob,.dead)] [ob] (h.kill ob) rfl (by simp) (fun bb hbb=>by cases hbb; exact a2) a3 hsn hne (by omega) hr1 hr2 hsl.nr hsl.fl hfr0 hrow.pos rfl
      simpa using this
    split at he
    ·rename_i hfull
     have hfull:=Vd hfull
     have htk:(xs.drop ii).take n=xs.drop ii:=List.take_of_length_le (by rw [List.length_drop]; omega)
     split at he
     ·rename_i hroom
      simp only [Bool.and_eq_true] at hroom
      cases he
      have hfr0:ι fr=none:=hfr fr (Nat.le_refl _) (by simp)
      by_cases hne:ys=[]
      ·subst hne
       rw [hvf]
       have hrun:=K4 (P:=P) (ty:=ty) ht hi (some ⟨p.blk,off,none⟩) n cap (by omega) ad c W
       by_cases hii:ii < p.cap
       ·have hoff':off=p.base+ii*E.size:=by
         rcases hoff with q | q
         ·rw [q,hrow.pw]
         ·omega
        have hmv:=h.move hσ hp hfr0 ii hii
        have hext:=hmv.extend (ys:=[]) (vs:=[]) (nr':=nr) (fl':=fl) (Sto.put_same _ _ _) (Inj.put_same _ _ _) n (by rw [List.length_drop]; omega) (by show n+0≤p.cap - ii; omega) ⟨by simp,by simp,by simp⟩ (by simp [AV.nrL]) (by simp)
        refine ⟨_,W,ι.put fr ⟨p.blk,p.base+ii*E.size,E.size,p.cap - ii⟩,hrun,Inj.le_put _ hfr0,fun k hk=>Inj.put_ne _ _ (by simp at hk; omega),?_,fun z hz=>?_⟩
        ·simp only [Sto.puts]
         rw [hputput,htk] at hext
         exact hext
        ·cases hz
         exact .ref fr 0 _ ⟨p.blk,p.base+ii*E.size,E.size,p.cap - ii⟩ off cap (Inj.put_same _ _ _) (by show 0+(n+0)≤p.cap - ii; omega) (by show cap=p.cap - ii - 0; omega) (.inl (by show off=p.base+ii*E.size+0*E.size; omega))
       ·have hn0:n=0:=by omega
        have hc0:cap=0:=by omega
        subst hn0 hc0
        have hx0:xs.drop ii++[]=[]:=by simp; omega
        refine ⟨_,W,ι.put fr ⟨B,0,E.size,0⟩,hrun,Inj.le_put _ hfr0,fun k hk=>Inj.put_ne _ _ (by simp at hk; omega),?_,fun z hz'=>by cases hz'; exact .ref0 _ _ _ (Inj.put_same _ _ _) rfl⟩
        rw [hx0]
        exact (h.kill ob).virt hfr0 hrow.pos
      ·have:=move_case hne hroom.1 hroom.2 hfr0
       rw [htk] at this
       exact this
     ·cases he
    ·split at he
     ·rename_i hy
      cases he
      exact none_case _ _ _ _ _ hy rfl (by omega) hux
     ·rename_i hy
      have hne:ys≠[]:=by intro hh; apply hy; rw [hh]; rfl
      have hylen:0 < ys.length:=by cases ys <;> simp_all
      obtain ⟨b,off',had,_⟩:=hvc hne
      subst had
      obtain ⟨vs,k1,k2,k3,k4⟩:=hv.cells hvf hne
      split at he
      ·rename_i hin
       have hin:=Xu hin
       cases he
       have hoff':off=p.base+ii*E.size:=by
        rcases hoff with q | q
        ·rw [q,hrow.pw]
        ·omega
       refine ⟨_,_,ι,in_run b off' vs hvf k1 k2 k4 (by omega) hoff',Inj.le_refl _,fun _ _=>rfl,?_,fun z hz=>?_⟩
       ·have:=h.overwrite hσ hp (ii+n) (by omega) k3 hv.nr hv.fl
        rw [hoff',←hsz,show p.base+ii*E.size+n*E.size=p.base+(ii+n)*E.size by rw [Nat.add_mul]; omega]
        exact this
       ·cases hz
        exact .ref ob ii _ p off cap hp (by omega) hcap hoff
      ·split at he
       ·rename_i hroom
        simp only [Bool.and_eq_true] at hroom
        cases he
        exact move_case hne hroom.1 hroom.2 (hfr fr (Nat.le_refl _) (by simp))
       ·cases he
   ·cases he
  ·cases he
 ·cases he
end
end Go.Ab
namespace Go.Ab
open Go.RowKit
section
variable {P:Program} {nf:Bool} {C:FuncId→List AV→Option Xp} {B:Nat} {W0 W W':World} {D:List Nat} {M:CM} {ι:Inj} {σ:Sto} {s:Slots} {a:Act} {fr:Nat} {o:Oper} {res:Res}
theorem Q47 {ts:Array TypeId} {t u:TypeId} {r:List TypeId} (h:ts.toList=t::u::r) (W:World) (ty:TypeId) (args:Array Value) (he:t=u) :
  (Builtin.append_ ts ty args).run P W=(Builtin.append_ #[t,t] ty args).run P W:=by
 subst he
 have h0:ts[0]?=some t:=by cases ts; simp_all
 have h1:ts[1]?=some t:=by cases ts; simp_all
 unfold Builtin.append_
 simp [h0,h1]
theorem Qiq {σ σ':Sto}:∀(es:List (Nat × AObj)) (k:Nat),(σ k=σ' k∨∃e∈es,e.1=k)→σ.puts es k=σ'.puts es k
 | [],k,h=>by
  rcases h with h | ⟨e,he,_⟩
  ·exact h
  ·simp at he
 | (o,x)::es,k,h=>by
  simp only [Sto.puts]
  refine Qiq es k ?_
  by_cases e:k=o
  ·subst e; exact .inl (by rw [Sto.put_same,Sto.put_same])
  ·rcases h with h | ⟨e',he',hk⟩
   ·exact .inl (by rw [Sto.put_ne _ _ e,Sto.put_ne _ _ e]; exact h)
   ·rcases List.mem_cons.1 he' with rfl | he'
    ·exact absurd hk.symm e
    ·exact .inr ⟨e',he',hk⟩
theorem Quq (h:Rel P B W0 D M ι σ W) (hs:Qi M ι s a.tmps) (hfr:∀k,fr≤k→k < res.fr→ι k=none) {args:Array Operand} {ts:Array TypeId} (ho:o.op=.call { callee:=.builtin .append,args,argTypes:=ts }) (he:evalOp P nf C σ fr s o=some (.val res)):Zc P B W0 D M ι σ fr a o W res:=by
 unfold evalOp at he
 rw [ho] at he
 simp only at he
 obtain ⟨cs,hrun⟩:=Y6 (P:=P) (W:=W) (a:=a) ho
 unfold Qbz at he
 split at he <;> first | (cases he; done) | skip
 rename_i x y t u tr hargs hts
 have hargs':=Q02 hargs
 subst hargs'
 split at he
 ·rename_i T U p q hT hU hx hy
  split at he
  ·cases he
  ·rename_i htu
   have htu:t=u:=by
    have:=htu
    simp only [Bool.not_eq_true,Bool.not_eq_false'] at this
    exact Vd this
   obtain ⟨d,i,g1,g2,g3,_⟩:=Zy hT
   have fin:∀{M':CM} {σ':Sto} {r:Res} {es:List (Nat × AObj)} {rd:List Nat},CM.Grow B M M'→Qfv P B W0 D M' ι σ' fr W t o.type (a.eval x) (a.eval y) r→σ.puts es=σ' →
     Zc P B W0 D M ι σ fr a o W { r with eff:=es++r.eff,rd:=rd }:=by
    intro M' σ' r es rd hM hd hσ
    obtain ⟨v',W1,ι',k1,k2,k3,k4,k5⟩:=hd
    refine ⟨v',W1,M',ι',.inl ?_,hM,k2,k3,by rw [Sto.puts_append,hσ]; exact k4,k5⟩
    rw [hrun]
    simp only [builtin,List.map_toArray,List.map_cons,List.map_nil,Sem.run_bind,Q47 hts W o.type _ htu,k1,Result.andThen_ok,Sem.run_pure]
   split at he
   ·rename_i e hk
    rw [g3] at hk; rw [Zt hk] at g1
    split at he
    ·rename_i E hE
     split at he
     ·rename_i ys nr fl rd hel
      have hsrc:=Qe0 h hel (Qg hs hy)
      split at he
      ·cases hr:absAppend σ fr E p ys nr fl with
       | none=>simp [hr] at he
       | some r =>
        simp [hr] at he
        subst he
        have:=Qda (ty:=o.type) h g1 hE hr hfr (Qg hs hx) hsrc
        exact fin (es:=[]) (.refl _ _) this rfl
      ·split at he
       ·rename_i ys' ids hm
        split at he
        ·rename_i es r hfz hr
         split at he
         ·cases he
         ·rename_i hdis
          cases he
          have h':=Qad h hfz
          have hle:=addM_le M W (inC σ ι ids)
          obtain ⟨hl,hat⟩:=Jm hm
          have hsrc':Qim (Zw M W (inC σ ι ids)) ι W E.size (a.eval y) ys' true false:=by
           obtain ⟨ad,c,hvf,hvc⟩:=hsrc.form
           have hsh:∀z∈ys',AV.shaped z E.size:=fun z hz=>by
            obtain ⟨i,hi,rfl⟩:=List.mem_iff_getElem.1 hz
            obtain ⟨x0,is',e1,e2,e3⟩:=Xs hm (List.getElem?_eq_getElem hi)
            exact (Kh e2 (hsrc.shaped x0 (List.mem_of_getElem? e1))).1
           have hcell:∀b off,ad=some ⟨b,off,none⟩→ys≠[]→∀(i j:Nat) (x y:AV),ys'[i]?=some x→x.flat[j]?=some y→∃u,W.cell? ⟨b,off+i*E.size+j,none⟩=some u∧Qa (Zw M W (inC σ ι ids)) noInj u y:=by
            intro b off had hne i j x1 y1 hi hj
            obtain ⟨b',off',had',hcell⟩:=hvc hne
            rw [had] at had'; cases had'
            obtain ⟨x0,is',e1,e2,e3⟩:=Xs hm hi
            obtain ⟨c1,d',is2,f1,f2,f3,f4⟩:=(Kh e2 (hsrc.shaped x0 (List.mem_of_getElem? e1))).2 j y1 hj
            obtain ⟨u,hu,hr⟩:=hcell i j x0 c1 e1 f1
            exact ⟨u,hu,Ys h ids d' c1 y1 is2 u f3 (fun k hk=>e3 k (f4 k hk)) hr⟩
           refine ⟨⟨ad,c,by rw [hl]; exact hvf,fun hne=>?_⟩,hsh,fun _=>Qx.2 fun z hz=>?_,by simp⟩
           ·have hne':ys≠[]:=by intro e; rw [e] at hl; exact hne (List.eq_nil_of_length_eq_zero hl)
            obtain ⟨b,off,had,_⟩:=hvc hne'
            refine ⟨b,off,had,fun i j x1 y1 hi hj=>?_⟩
            obtain ⟨u,hu,hr⟩:=hcell b off had hne' i j x1 y1 hi hj
            exact ⟨u,hu,hr.mono (CM.le_refl _) (Inj.noInj_le _)⟩
           ·refine Qjk (hsh z hz) fun y1 hy1=>?_
            obtain ⟨i,hi,rfl⟩:=List.mem_iff_getElem.1 hz
            obtain ⟨j,hj,rfl⟩:=List.mem_iff_getElem.1 hy1
            have hne':ys≠[]:=by intro e; rw [e] at hl; simp at hl; rw [hl] at hi; simp at hi
            obtain ⟨b,off,had,_⟩:=hvc hne'
            obtain ⟨u,_,hr⟩:=hcell b off had hne' i j _ _ (List.getElem?_eq_getElem hi) (List.getElem?_eq_getElem hj)
            exact hr.nr_of_noInj
          have hdis':∀k∈ids,∀e∈r.eff,e.1≠k:=by
           intro k hk e' he' e
           apply hdis
           rw [List.any_eq_true]
           refine ⟨k,hk,?_⟩
           rw [List.any_eq_true]
           exact ⟨e',he',by rw [e]; exact Nat.beq_refl k⟩
          by_cases hys:ys'=[]
          ·
           subst hys
           have hr':absAppend (σ.puts es) fr E p [] true false=some r:=by
            cases p with
            | ref o1 i1 n1 =>
             unfold absAppend at hr ⊢
             simp only at hr ⊢
             split at hr
             ·rename_i nr2 fl2 w2 xs2 hσ2
              have hn:o1 ∉ ids:=by
               have:Q6 (Qu σ Qs) ys=some ([],ids):=hm
               have hy0:ys=[]:=List.eq_nil_of_length_eq_zero (by simpa using hl.symm)
               rw [hy0] at this
               simp [Q6] at this
               rw [this]; simp
              rw [K8 hfz hn,hσ2]
              exact hr
             ·cases hr
            | _=>simpa [absAppend] using hr
           have:=Qda (ty:=o.type) h' g1 hE hr' hfr ((Qg hs hx).mono hle (Inj.le_refl _)) hsrc'
           exact fin (h.growC ids) this rfl
          ·have hr':absAppend (σ.puts es) fr E p ys' true false=some r:=by
            cases p with
            | ref o1 i1 n1 =>
             have hn:o1 ∉ ids:=by
              intro hk
              have hmem:∃e∈r.eff,e.1=o1:=by
               unfold absAppend at hr
               simp only at hr
               split at hr
               ·split at hr
                ·split at hr
                 ·split at hr
                  ·cases hr; exact ⟨_,List.mem_cons_self,rfl⟩
                  ·cases hr
                 ·split at hr
                  ·rename_i hemp
                   exact absurd (by simpa using hemp) hys
                  ·split at hr
                   ·cases hr; exact ⟨_,List.mem_cons_self,rfl⟩
                   ·split at hr
                    ·cases hr; exact ⟨_,List.mem_cons_self,rfl⟩
                    ·cases hr
                ·cases hr
               ·cases hr
              obtain ⟨e',he',e⟩:=hmem
              exact hdis' o1 hk e' he' e
             unfold absAppend at hr ⊢
             simp only at hr ⊢
             rw [K8 hfz hn]
             exact hr
            | _=>simpa [absAppend] using hr
           have:=Qda (ty:=o.type) h' g1 hE hr' hfr ((Qg hs hx).mono hle (Inj.le_refl _)) hsrc'
           exact fin (h.growC ids) this rfl
        ·cases he
       ·cases he
     ·cases he
    ·cases he
   ·cases he
 ·cases he
theorem Qyq (h:Rel P B W0 D M ι σ W) (hs:Qi M ι s a.tmps) {args:Array Operand} {ts:Array TypeId} (ho:o.op=.call { callee:=.builtin .copy,args,argTypes:=ts }) (he:evalOp P nf C σ fr s o=some (.val res)):Zc P B W0 D M ι σ fr a o W res:=by
 unfold evalOp at he
 rw [ho] at he
 simp only at he
 obtain ⟨cs,hrun⟩:=Y6 (P:=P) (W:=W) (a:=a) ho
 unfold Qf0 at he
 split at he <;> first | (cases he; done) | skip
 rename_i x y t tr hargs hts
 have hargs':=Q02 hargs
 subst hargs'
 split at he
 ·rename_i T p q hT hx hy
  obtain ⟨d,i,g1,g2,g3,_⟩:=Zy hT
  have ht0:ts[0]?=some t:=by cases ts; simp_all
  have fin:∀{n:Int} {W1:World},(Builtin.copy_ ts o.type #[a.eval x,a.eval y]).run P W=.ok (.int .i64 n) W1→(execOp a.eval o).run P W=.ok (.value (.int .i64 n)) W1:=by
   intro n W1 hn
   rw [hrun]
   simp only [builtin,List.map_toArray,List.map_cons,List.map_nil,Sem.run_bind,hn,Result.andThen_ok,Sem.run_pure]
  split at he
  ·rename_i e hk
   rw [g3] at hk; rw [Zt hk] at g1
   split at he
   ·rename_i E hE
    obtain ⟨_,i1,_,hi1,_,hsz,_⟩:=Zy hE
    split at he
    ·rename_i ys nr fl rd hel
     have hsrc:=Qe0 h hel (Qg hs hy)
     obtain ⟨ad,c,hvf,hvc⟩:=hsrc.form
     have zero:∀(base:Option Addr) (l cap:Nat),a.eval x=.slice base 0 cap→(Builtin.copy_ ts o.type #[a.eval x,a.eval y]).run P W=.ok (.int .i64 0) W:=by
      intro base l cap hb
      rw [hb,hvf]
      simp only [Builtin.copy_,ht0]
      simp [run_underlying g1,Builtin.lenOf,sizeOf,typeInfo,hi1,K1,goInt]
      cases base <;> simp [storeCells]
     split at he
     ·cases he
      have hv:=(Qg hs hx).nils_inv
      exact Qr h (fin (zero _ 0 0 hv)) (.int _ _)
     ·cases he
      obtain ⟨ad',hv⟩:=(Qg hs hx).emp_inv
      exact Qr h (fin (zero _ 0 0 hv)) (.int _ _)
     ·rename_i ob ii n
      split at he
      ·rename_i nr' fl' w xs hσ
       split at he
       ·rename_i hc
        simp only [Bool.and_eq_true] at hc
        obtain ⟨⟨c1,c2⟩,c3⟩:=hc
        have c1:=Vd c1; have c2:=Xu c2
        subst c1
        cases he
        obtain ⟨p,hp,hrow⟩:=h.row _ _ _ _ _ _ _ hσ
        have hlen:=hrow.len
        have hv:=Qg hs hx
        generalize hu:a.eval x=u at hv
        cases hv with
        | ref0 ad0 _ q hq hz =>
         have hrun0:=zero ad0 0 0 hu
         refine ⟨_,W,M,ι,.inl (fin hrun0),.refl _ _,Inj.le_refl _,fun _ _=>rfl,?_,fun z hz=>by cases hz; simp only [Nat.min_zero]; exact .int _ _⟩
         have:=h.overwrite hσ hp (ys:=[]) (vs:=[]) (nr':=nr) (fl':=fl) 0 (by simp) ⟨by simp,by simp,by simp⟩ (by simp [AV.nrL]) (by simp)
         simp only [List.take_zero]
         exact this
        | ref _ _ _ q off cap hq hi' hcap hoff =>
        have hpq:p=q:=by rw [hp] at hq; exact Option.some.inj hq
        subst hpq
        by_cases hm0:min ys.length n=0
        ·
         have htk:ys.take n=[]:=by
          rcases Nat.eq_zero_or_pos n with e | e
          ·subst e; simp
          ·have:ys.length=0:=by omega
           have:=List.eq_nil_of_length_eq_zero this
           rw [this]; simp
         have hrun0:(Builtin.copy_ ts o.type #[a.eval x,a.eval y]).run P W=.ok (.int .i64 (min ys.length n:Nat)) W:=by
          rw [hu,hvf]
          simp only [Builtin.copy_,ht0]
          have:Nat.min ys.length n=0:=hm0
          simp [run_underlying g1,Builtin.lenOf,sizeOf,typeInfo,hi1,this,K1,goInt,storeCells,hm0]
         refine ⟨_,W,M,ι,.inl (fin hrun0),.refl _ _,Inj.le_refl _,fun _ _=>rfl,?_,fun z hz=>by cases hz; exact .int _ _⟩
         have:=h.overwrite hσ hp (ys:=[]) (vs:=[]) (nr':=nr) (fl':=fl) ii (by simp; omega) ⟨by simp,by simp,by simp⟩ (by simp [AV.nrL]) (by simp)
         rw [htk]
         exact this
        ·have hne:ys.take n≠[]:=by
          intro e
          have h0:(ys.take n).length=min n ys.length:=List.length_take
          rw [e,List.length_nil] at h0
          omega
         have hne0:ys≠[]:=by intro e; rw [e] at hne; simp at hne
         obtain ⟨b,off',had,hcell⟩:=hvc hne0
         subst had
         have hsrc':Qim M ι W E.size (.slice (some ⟨b,off',none⟩) (ys.take n).length c) (ys.take n) nr fl:=by
          refine ⟨⟨_,c,rfl,fun _=>⟨b,off',rfl,fun i j x y hi hj=>?_⟩⟩,fun z hz=>hsrc.shaped z (List.mem_of_mem_take hz),fun hn=>Qx.2 fun z hz=>Qx.1 (hsrc.nr hn) z (List.mem_of_mem_take hz),fun hf z hz=>hsrc.fl hf z (List.mem_of_mem_take hz)⟩
          have hin:i < n:=by have:=(List.getElem?_eq_some_iff.1 hi).1; simp at this; omega
          rw [List.getElem?_take,if_pos hin] at hi
          exact hcell i j x y hi hj
         obtain ⟨vs,k1,k2,k3,k4⟩:=hsrc'.cells rfl hne
         have htl:(ys.take n).length=min ys.length n:=by simp [Nat.min_comm]
         have hoff':off=p.base+ii*E.size:=by
          rcases hoff with q | q
          ·rw [q,hrow.pw]
          ·omega
         have hown:=(hrow.own rfl).2
         have hfit:(ii+min ys.length n)*E.size≤p.cap*E.size:=Nat.mul_le_mul_right _ (by omega)
         rw [Nat.add_mul] at hfit
         have hst:=run_storeCells_cells (P:=P) p.blk off vs 0 W (fun j hj=>by
           have:=(hown (ii*E.size+j) (by rw [k1,htl] at hj; omega)).1
           rw [Nat.add_zero,hoff',show p.base+ii*E.size+j=p.base+(ii*E.size+j) by omega]; exact this) (fun j hj=>by
           have:=(h.cool _ _ _ _ _ _ _ (ii*E.size+j) (by assumption) hp (by rw [k1,htl] at hj; omega)).1 (p.base+(ii*E.size+j))
           rw [Nat.add_zero,hoff',show p.base+ii*E.size+j=p.base+(ii*E.size+j) by omega]; exact this) k4
         rw [Nat.add_zero] at hst
         have hfc:=run_firstCells_some (P:=P) W i1.size (min ys.length n) ⟨b,off',none⟩ ys.length c vs (by rw [k1,htl,hsz]) k2
         have hrun0:(Builtin.copy_ ts o.type #[a.eval x,a.eval y]).run P W=.ok (.int .i64 (min ys.length n:Nat)) (W.setCells p.blk off vs):=by
          rw [hu,hvf]
          simp only [Builtin.copy_,ht0]
          have:Nat.min ys.length n=min ys.length n:=rfl
          simp [run_underlying g1,Builtin.lenOf,sizeOf,typeInfo,hi1,this,hfc,goInt,hst]
         refine ⟨_,_,M,ι,.inl (fin hrun0),.refl _ _,Inj.le_refl _,fun _ _=>rfl,?_,fun z hz=>by cases hz; exact .int _ _⟩
         have:=h.overwrite hσ hp ii (by rw [htl]; omega) k3 hsrc'.nr hsrc'.fl
         rw [hoff']
         exact this
       ·cases he
      ·cases he
     ·cases he
    ·cases he
   ·cases he
  ·cases he
 ·cases he
end
end Go.Ab
namespace Go.Ab
open Go.RowKit
section
variable {P:Program} {B:Nat} {W0 W:World} {D:List Nat} {M:CM} {ι:Inj} {σ:Sto}
theorem Qc3 {l:Loop}:(Qb4 l).isCells=false:=by unfold Qb4; split <;> rfl
theorem Qmp {l:Nat} {o o':Obj} (hl:W.heap[l]?=some o) (h1:o.isCells=false) (h2:o'.isCells=false) (p:Addr):(W.putObj l o').cell? p=W.cell? p:=by
 unfold World.cell?
 by_cases e:p.block=l
 ·rw [e,World.putObj_heap_same (Array.getElem?_eq_some_iff.1 hl).1,hl]
  cases o <;> cases o' <;> simp_all [Obj.isCells]
 ·rw [World.putObj_heap_other e]
theorem Qjw {l:Nat} {o o':Obj} (hl:W.heap[l]?=some o) (h1:o.isCells=false) (h2:o'.isCells=false) (p:Addr):(W.putObj l o').frozen? p=W.frozen? p:=by
 unfold World.frozen?
 by_cases e:p.block=l
 ·rw [e,World.putObj_heap_same (Array.getElem?_eq_some_iff.1 hl).1,hl]
  cases o <;> cases o' <;> simp_all [Obj.isCells]
 ·rw [World.putObj_heap_other e]
theorem Qku {l:Nat} (o':Obj) (h:Ze B W0 W) (hl:B≤l):Ze B W0 (W.putObj l o') :=
 h.trans ⟨⟨rfl,rfl,rfl,by simp,fun k hk=>World.putObj_heap_other (by omega)⟩,Nat.le_refl _⟩
theorem Qgq.world {W':World} {ro nr fl:Bool} {w:Nat} {xs:List AV} {p:Place} (h:Qgq B M ι W ro nr fl w xs p) (hc:∀q,W'.cell? q=W.cell? q):Qgq B M ι W' ro nr fl w xs p :=
 ⟨h.pw,h.pos,h.cpos,h.len,h.shaped,h.nr,h.fl,fun i j x y hi hj=>by rw [hc]; exact h.cells i j x y hi hj,fun hro=>⟨(h.own hro).1,fun k hk=>by rw [hc]; exact (h.own hro).2 k hk⟩,h.imm⟩
theorem Rel.allocObj (h:Rel P B W0 D M ι σ W) (x:Obj) (hx:x.isCells=false):Rel P B W0 D M ι σ (W.alloc x):=by
 exact h.old ((Ze.refl _ W).alloc (Nat.le_refl _) _)
theorem Rel.allocRec (h:Rel P B W0 D M ι σ W) {o:Nat} (ho:ι o=none) {fn:FuncId} {nt:Nat} {tmps:Array Value} (hsz:tmps.size=nt) {sl:List (Nat × AV)} (hsl:Qi M ι (lk sl) tmps) (ps:Array Tmp) (as bd:Code) (d:Nat) (st:LoopState) (pe:Option Code) :
  Rel P B W0 D M (ι.put o ⟨W.heap.size,d,0,0⟩) (σ.put o (.loop nt sl ps.toList as bd st pe)) (W.alloc (Qb4 { state:=st,pending:=pe,fn,tmps,params:=ps,assign:=as,body:=bd,defers:=d })):=by
 have h':=h.allocObj (Qb4 { state:=st,pending:=pe,fn,tmps,params:=ps,assign:=as,body:=bd,defers:=d }) Qc3
 have hle:=Inj.le_put ⟨W.heap.size,d,0,0⟩ ho
 refine ⟨h'.size,h'.below,h'.defs,h'.agree,fun k bx1 nr1 fl1 w1 xs1 q j hk hq hj=>?_,?_,?_,?_,?_,?_⟩
 ·have e:k≠o:=fun e=>by subst e; rw [Sto.put_same] at hk; cases hk
  rw [Sto.put_ne _ _ e] at hk; rw [Inj.put_ne _ _ e] at hq
  exact h'.cool _ _ _ _ _ _ _ _ hk hq hj
 ·intro k bx ro nr fl w xs hk
  have e:k≠o:=fun e=>by subst e; rw [Sto.put_same] at hk; cases hk
  rw [Sto.put_ne _ _ e] at hk
  obtain ⟨q,hq,hr⟩:=h'.row k bx ro nr fl w xs hk
  refine ⟨q,by rw [Inj.put_ne _ _ e]; exact hq,⟨hr.pw,hr.pos,hr.cpos,hr.len,hr.shaped,hr.nr,hr.fl,fun i j x y hi hj=>?_,hr.own,hr.imm⟩⟩
  obtain ⟨v,hv,hrep⟩:=hr.cells i j x y hi hj
  exact ⟨v,hv,hrep.mono (CM.le_refl _) hle⟩
 ·intro k fn' sl' ps' as' bd' st' pe' hk
  by_cases e:k=o
  ·subst e
   rw [Sto.put_same] at hk
   cases hk
   refine ⟨_,fn,Inj.put_same _ _ _,h.fresh,h.size,tmps,hsz,World.alloc_heap_new W _,fun t a ha=>(hsl t a ha).mono (CM.le_refl _) hle⟩
  ·rw [Sto.put_ne _ _ e] at hk
   obtain ⟨q,nt,hq,hnt,hb,tm,hs,hrec,hsl'⟩:=h'.loop k fn' sl' ps' as' bd' st' pe' hk
   exact ⟨q,nt,by rw [Inj.put_ne _ _ e]; exact hq,hnt,hb,tm,hs,hrec,fun t a ha=>(hsl' t a ha).mono (CM.le_refl _) hle⟩
 ·intro k k' bx1 nr1 fl1 w1 xs1 bx2 nr2 fl2 w2 xs2 q q' hkk h1 h2 hq hq'
  have e:k≠o:=fun e=>by subst e; rw [Sto.put_same] at h1; cases h1
  have e':k'≠o:=fun e=>by subst e; rw [Sto.put_same] at h2; cases h2
  rw [Sto.put_ne _ _ e] at h1; rw [Sto.put_ne _ _ e'] at h2; rw [Inj.put_ne _ _ e] at hq; rw [Inj.put_ne _ _ e'] at hq'
  exact h.apart _ _ _ _ _ _ _ _ _ _ _ _ _ _ hkk h1 h2 hq hq'
 ·intro k k' fn1 sl1 ps1 as1 bd1 st1 pe1 fn2 sl2 ps2 as2 bd2 st2 pe2 q q' hkk h1 h2 hq hq'
  have lt:∀k fn1 sl1 ps1 as1 bd1 st1 pe1 q,σ k=some (.loop fn1 sl1 ps1 as1 bd1 st1 pe1)→ι k=some q→q.blk < W.heap.size:=fun k _ _ _ _ _ _ _ q hk hq=>by
   obtain ⟨q',_,hq',_,hb,tm,hs,hrec,_⟩:=h.loop k _ _ _ _ _ _ _ hk
   rw [hq] at hq'; cases hq'
   exact (Array.getElem?_eq_some_iff.1 hrec).1
  by_cases e:k=o
  ·subst e
   rw [Inj.put_same] at hq; cases hq
   rw [Sto.put_ne _ _ (Ne.symm hkk)] at h2; rw [Inj.put_ne _ _ (Ne.symm hkk)] at hq'
   have:=lt _ _ _ _ _ _ _ _ _ h2 hq'
   show W.heap.size≠q'.blk
   omega
  ·rw [Sto.put_ne _ _ e] at h1; rw [Inj.put_ne _ _ e] at hq
   by_cases e':k'=o
   ·subst e'
    rw [Inj.put_same] at hq'; cases hq'
    have:=lt _ _ _ _ _ _ _ _ _ h1 hq
    show q.blk≠W.heap.size
    omega
   ·rw [Sto.put_ne _ _ e'] at h2; rw [Inj.put_ne _ _ e'] at hq'
    exact h.loops _ _ _ _ _ _ _ _ _ _ _ _ _ _ _ _ _ _ hkk h1 h2 hq hq'
 ·intro k hk
  have e:k≠o:=fun e=>by subst e; rw [Inj.put_same] at hk; cases hk
  rw [Inj.put_ne _ _ e] at hk; rw [Sto.put_ne _ _ e]; exact h.used k hk
theorem Rel.setRec (h:Rel P B W0 D M ι σ W) {o:Nat} {nt:Nat} {sl:List (Nat × AV)} {ps:List Tmp} {as bd:Code} {st:LoopState} {pe:Option Code} {p:Place}
  (hσ:σ o=some (.loop nt sl ps as bd st pe)) (hp:ι o=some p) {x:AObj} {ob:Obj} (hcl:ob.isCells=false)
  (hx:x=.dead∨∃(nt':Nat) (sl':List (Nat × AV)) (ps':List Tmp) (as' bd':Code) (st':LoopState) (pe':Option Code) (fn':FuncId) (tmps':Array Value),
   x=.loop nt' sl' ps' as' bd' st' pe'∧ob=Qb4 { state:=st',pending:=pe',fn:=fn',tmps:=tmps',params:=ps'.toArray,assign:=as',body:=bd',defers:=p.base }∧tmps'.size=nt'∧Qi M ι (lk sl') tmps') :
  Rel P B W0 D M ι (σ.put o x) (W.putObj p.blk ob):=by
 obtain ⟨q,fn,hq,hnt,hB,tmps,hsz,hrec,hsl⟩:=h.loop o nt sl ps as bd st pe hσ
 rw [hp] at hq; cases hq
 have hnr:∀bx ro nr fl w xs,x≠.row bx ro nr fl w xs:=by
  intro bx ro nr fl w xs e
  rcases hx with rfl | ⟨_,_,_,_,_,_,_,_,_,rfl,_⟩ <;> cases e
 have hc:=fun q=>Qmp (o':=ob) hrec Qc3 hcl q
 have hf:=fun q=>Qjw (o':=ob) hrec Qc3 hcl q
 refine ⟨by simpa using h.size,Qku _ h.below hB,fun d hd=>?_,⟨fun b o v hv=>by rw [hc]; exact h.agree b o v hv,fun b x hm=>by
  obtain ⟨k1,k2,k3⟩:=h.agree.keep b x hm
  refine ⟨?_,k2,k3⟩
  rw [World.putObj_heap_other (fun e=>by subst e; rw [hnt] at hm; cases hm)]; exact k1,fun b o v hm=>by simp only [hc,hf]; exact h.agree.keepC b o v hm⟩,fun k bx1 nr1 fl1 w1 xs1 q j hk hq hj=>?_,?_,?_,?_,?_,?_⟩
 ·rw [World.putObj_heap_other (fun e=>by have:=h.defs d hd; rw [e,hrec] at this; exact Qmf this)]; exact h.defs d hd
 ·simp only [hf]
  have e:k≠o:=fun e=>by subst e; rw [Sto.put_same] at hk; cases hk; exact absurd rfl (hnr _ _ _ _ _ _)
  rw [Sto.put_ne _ _ e] at hk; exact h.cool _ _ _ _ _ _ _ _ hk hq hj
 ·intro k bx ro nr fl w xs hk
  have e:k≠o:=fun e=>by subst e; rw [Sto.put_same] at hk; cases hk; exact absurd rfl (hnr _ _ _ _ _ _)
  rw [Sto.put_ne _ _ e] at hk
  obtain ⟨q,hq,hr⟩:=h.row k bx ro nr fl w xs hk
  exact ⟨q,hq,hr.world hc⟩
 ·intro k fn1 sl1 ps1 as1 bd1 st1 pe1 hk
  by_cases e:k=o
  ·subst e
   rw [Sto.put_same] at hk
   rcases hx with rfl | ⟨nt',sl',ps',as',bd',st',pe',fn',tmps',rfl,rfl,hsz',hsl'⟩
   ·cases hk
   ·cases hk
    exact ⟨p,fn',hp,hnt,hB,tmps',hsz',World.putObj_heap_same (Array.getElem?_eq_some_iff.1 hrec).1,hsl'⟩
  ·rw [Sto.put_ne _ _ e] at hk
   obtain ⟨q,nt1,hq,hnt1,hB1,tm1,hsz1,hrec1,hsl1⟩:=h.loop k _ _ _ _ _ _ _ hk
   refine ⟨q,nt1,hq,hnt1,hB1,tm1,hsz1,?_,hsl1⟩
   rw [World.putObj_heap_other (h.loops _ _ _ _ _ _ _ _ _ _ _ _ _ _ _ _ _ _ e hk hσ hq hp)]; exact hrec1
 ·intro k k' bx1 nr1 fl1 w1 xs1 bx2 nr2 fl2 w2 xs2 q q' hkk h1 h2 hq hq'
  have e:k≠o:=fun e=>by subst e; rw [Sto.put_same] at h1; cases h1; exact absurd rfl (hnr _ _ _ _ _ _)
  have e':k'≠o:=fun e=>by subst e; rw [Sto.put_same] at h2; cases h2; exact absurd rfl (hnr _ _ _ _ _ _)
  rw [Sto.put_ne _ _ e] at h1; rw [Sto.put_ne _ _ e'] at h2
  exact h.apart _ _ _ _ _ _ _ _ _ _ _ _ _ _ hkk h1 h2 hq hq'
 ·intro k k' fn1 sl1 ps1 as1 bd1 st1 pe1 fn2 sl2 ps2 as2 bd2 st2 pe2 q q' hkk h1 h2 hq hq'
  have g:∀k fn1 sl1 ps1 as1 bd1 st1 pe1,σ.put o x k=some (.loop fn1 sl1 ps1 as1 bd1 st1 pe1)→∃a b c d e f g,σ k=some (.loop a b c d e f g):=fun k _ _ _ _ _ _ _ hk=>by
   by_cases e:k=o
   ·subst e; exact ⟨_,_,_,_,_,_,_,hσ⟩
   ·rw [Sto.put_ne _ _ e] at hk; exact ⟨_,_,_,_,_,_,_,hk⟩
  obtain ⟨_,_,_,_,_,_,_,g1⟩:=g _ _ _ _ _ _ _ _ h1
  obtain ⟨_,_,_,_,_,_,_,g2⟩:=g _ _ _ _ _ _ _ _ h2
  exact h.loops _ _ _ _ _ _ _ _ _ _ _ _ _ _ _ _ _ _ hkk g1 g2 hq hq'
 ·intro k hk
  have e:k≠o:=fun e=>by subst e; rw [hp] at hk; cases hk
  rw [Sto.put_ne _ _ e]; exact h.used k hk
end
end Go.Ab
namespace Go.Ab
open Go.RowKit
section
variable {P:Program} {M:CM} {ι:Inj}
theorem Qbc {kt:TypeId} {x y:AV} {r:Bool} (h:X8 P kt x y=some r):(∃q k n m,P.underlying kt=some (.int q)∧x=.int k n∧y=.int k m∧r=(n==m))∨(∃ks as bs,eqT P kt=some ks∧ks.all SK.key=true∧x=.agg as∧y=.agg bs∧scEqL ks as bs=some r):=by
 unfold X8 at h
 split at h
 ·rename_i hs
  left
  unfold Ki at hs
  split at hs <;> first | (cases hs; done) | skip
  rename_i q hq
  cases x <;> cases y <;> simp [Qm2] at h
  rename_i k n k' m
  obtain ⟨rfl,rfl⟩:=h
  exact ⟨q,k,n,m,hq,rfl,rfl,rfl⟩
 ·cases h
 ·right
  split at h
  ·rename_i as bs
   split at h
   ·rename_i ks hks
    unfold Q14 at hks
    split at hks
    ·rename_i ks' he
     split at hks
     ·rename_i hall; cases hks; exact ⟨ks,as,bs,he,hall,rfl,rfl,h⟩
     ·cases hks
    ·cases hks
   ·cases h
  ·cases h
theorem Q1a {k:SK} (hk:k.key=true) {x y:AV} {r:Bool} (h:Qm2 k x y=some r) {u v:Value} (hu:Qa M ι u x) (hv:Qa M ι v y):(r=true→u=v)∧Instr.sameBits 9999 u u=true:=by
 unfold Qm2 at h
 split at h
 ·rw [hu.int_inv,hv.int_inv]
  split at h
  ·rename_i hkk; subst hkk; cases h
   refine ⟨fun e=>?_,by simp [Instr.sameBits]⟩
   have:=of_decide_eq_true e
   rw [this]
  ·cases h
 ·rw [hu.bool_inv,hv.bool_inv]
  cases h
  refine ⟨fun e=>?_,by simp [Instr.sameBits]⟩
  have:=eq_of_beq e
  rw [this]
 ·cases hk
 ·cases h
theorem Qlb:∀{ks:List SK},ks.all SK.key=true→∀{as bs:List AV} {r:Bool},scEqL ks as bs=some r→∀{cs cs':List Value},cs.length=as.length→cs'.length=bs.length→(∀(j:Nat) (v:Value) (y:AV),cs[j]?=some v→as[j]?=some y→Qa M ι v y)→(∀(j:Nat) (v:Value) (y:AV),cs'[j]?=some v→bs[j]?=some y→Qa M ι v y) →
  (r=true→cs=cs')∧(∀v∈cs,Instr.sameBits 9999 v v=true)
 | [],_,[],[],r,h,cs,cs',h1,h2,_,_=>by
  have:=List.length_eq_zero_iff.1 h1
  have:=List.length_eq_zero_iff.1 h2
  subst_vars
  exact ⟨fun _=>rfl,fun v hv=>by cases hv⟩
 | k::ks,hk,a::as,b::bs,r,h,cs,cs',h1,h2,g1,g2=>by
  simp only [scEqL] at h
  rw [List.all_cons,Bool.and_eq_true] at hk
  split at h
  ·rename_i p q e1 e2
   cases h
   obtain ⟨c,cs,rfl⟩:∃c l,cs=c::l:=by
    cases cs with
    | nil=>simp at h1
    | cons c l=>exact ⟨c,l,rfl⟩
   obtain ⟨c',cs',rfl⟩:∃c l,cs'=c::l:=by
    cases cs' with
    | nil=>simp at h2
    | cons c l=>exact ⟨c,l,rfl⟩
   obtain ⟨v1,v2⟩:=Q1a hk.1 e1 (g1 0 c a rfl rfl) (g2 0 c' b rfl rfl)
   obtain ⟨w1,w2⟩:=Qlb hk.2 e2 (cs:=cs) (cs':=cs') (by simpa using h1) (by simpa using h2) (fun j v y hv hy=>g1 (j+1) v y (by simpa using hv) (by simpa using hy)) (fun j v y hv hy=>g2 (j+1) v y (by simpa using hv) (by simpa using hy))
   refine ⟨fun e=>?_,fun v hv=>?_⟩
   ·rw [Bool.and_eq_true] at e
    rw [v1 e.1,w1 e.2]
   ·rcases List.mem_cons.1 hv with rfl | hv
    ·exact v2
    ·exact w2 v hv
  ·cases h
 | [],_,_::_,_,_,h,_,_,_,_,_,_=>by cases ‹List AV› <;> simp [scEqL] at h
 | [],_,[],_::_,_,h,_,_,_,_,_,_=>by simp [scEqL] at h
 | _::_,_,[],_,_,h,_,_,_,_,_,_=>by simp [scEqL] at h
 | _::_,_,_::_,[],_,h,_,_,_,_,_,_=>by simp [scEqL] at h
theorem Qqn {kt:TypeId} {k:AV} {r:Bool} (h0:X8 P kt k k=some r) {kv:Value} (hk:Qa M ι kv k) (W:World):(Instr.keyThatStays kv kv).run P W=.ok kv W:=by
 have hs:Instr.sameBits 10000 kv kv=true:=by
  rcases Qbc h0 with ⟨q,kk,n,m,_,rfl,_,_⟩ | ⟨ks,as,bs,_,hall,rfl,e,hsc⟩
  ·cases hk; simp [Instr.sameBits]
  ·cases e
   cases hk with
   | agg cs _ h1 hc1 r1 =>
   obtain ⟨_,hall2⟩:=Qlb hall hsc (cs:=cs.toList) (cs':=cs.toList) (by simpa using h1) (by simpa using h1) (fun j v y hv hy=>r1 j v y (by simpa using hv) hy) (fun j v y hv hy=>r1 j v y (by simpa using hv) hy)
   rw [show (10000:Nat)=9999+1 from rfl]
   simp only [Instr.sameBits,beq_self_eq_true,Bool.true_and,List.all_eq_true]
   intro p hp
   have:p.1=p.2∧p.1∈cs.toList:=by
    obtain ⟨j,hj⟩:=List.mem_iff_getElem?.1 hp
    rw [List.getElem?_zip_eq_some] at hj
    have e:=hj.1.symm.trans hj.2
    cases e2:p with
    | mk a b=>rw [e2] at hj e; simp at e; exact ⟨by simpa using e,List.mem_of_getElem? hj.1⟩
   rw [←this.1]
   exact hall2 _ this.2
 simp [Instr.keyThatStays,hs]
theorem Qyx {kt:TypeId} {k k0:AV} {r:Bool} (h:X8 P kt k k0=some r) {kv kv0:Value} (hk:Qa M ι kv k) (hk0:Qa M ι kv0 k0) (W:World):(Op.equal kt kv kv0).run P W=.ok r W∧(r=true→kv=kv0):=by
 rcases Qbc h with ⟨q,kk,n,m,hq,rfl,rfl,rfl⟩ | ⟨ks,as,bs,he,hall,rfl,rfl,hsc⟩
 ·cases hk; cases hk0
  refine ⟨?_,fun e=>by rw [of_decide_eq_true e]⟩
  rw [Qod]
  exact run_equalIn_int W 9999 kt _ _ _ _ hq
 ·obtain ⟨e1,_⟩:=Qmq he hsc hk hk0 9998 W
  refine ⟨by rw [Qod]; exact e1,?_⟩
  cases hk with
  | agg cs _ h1 hc1 r1 =>
  cases hk0 with
  | agg cs' _ h2 hc2 r2 =>
  obtain ⟨g,_⟩:=Qlb hall hsc (cs:=cs.toList) (cs':=cs'.toList) (by simpa using h1) (by simpa using h2) (fun j v y hv hy=>r1 j v y (by simpa using hv) hy) (fun j v y hv hy=>r2 j v y (by simpa using hv) hy)
  intro e
  rw [Array.toList_inj.1 (g e)]
theorem Qhe {t:TypeId} {k:SK} (hk:Ki P t=some k) (e:Bool) (d:Nat) (v:Value) (W:World):(Instr.checkKey e (d+1) t v).run P W=.ok () W:=by
 unfold Ki at hk
 split at hk <;> first | (cases hk; done) | skip
 all_goals (rename_i hd; cases v <;> simp [Instr.checkKey,run_underlying hd])
theorem Qmd {W:World} {b:Field→PUnit→Sem (ForInStep PUnit)} (N:Nat) (hb:∀f k,f.name ≠ "_" → Ki P f.type=some k→f.offset < N→(b f PUnit.unit).run P W=.ok (.yield PUnit.unit) W):∀(fs:List Field) (i:Nat) (ks:List SK),Qaa P i fs=some ks→i+ks.length=N →
  (forIn fs PUnit.unit b).run P W=.ok PUnit.unit W
 | [],i,ks,_,_=>by simp
 | f::fs,i,ks,h,hl=>by
  simp only [Qaa] at h
  split at h
  ·rename_i hf
   simp only [Bool.and_eq_true,bne_iff_ne,ne_eq,beq_iff_eq] at hf
   split at h
   ·rename_i k ks' h1 h2
    cases h
    simp only [List.length_cons] at hl
    have ih:=Qmd N hb fs (i+1) ks' h2 (by omega)
    simp only [List.forIn_cons,Sem.run_bind,hb f k hf.1 h1 (by omega),Result.andThen_ok]
    exact ih
   ·cases h
  ·cases h
theorem Qqi:∀{ks:List SK} {as bs:List AV} {r:Bool},scEqL ks as bs=some r→as.length=ks.length
 | [],[],[],_,_=>rfl
 | k::ks,a::as,b::bs,r,h=>by
  simp only [scEqL] at h
  split at h
  ·rename_i e2; simp [Qqi e2]
  ·cases h
 | [],_::_,_,_,h=>by cases ‹List AV› <;> simp [scEqL] at h
 | [],[],_::_,_,h=>by simp [scEqL] at h
 | _::_,[],_,_,h=>by simp [scEqL] at h
 | _::_,_::_,[],_,h=>by simp [scEqL] at h
theorem Qcg {kt:TypeId} {k k0:AV} {r:Bool} (h:X8 P kt k k0=some r) {kv:Value} (hk:Qa M ι kv k) (e:Bool) (W:World):(Instr.checkKey e 10000 kt kv).run P W=.ok () W:=by
 rcases Qbc h with ⟨q,kk,n,m,hq,rfl,rfl,rfl⟩ | ⟨ks,as,bs,he,hall,rfl,rfl,hsc⟩
 ·exact Qhe (k:=.int) (by simp [Ki,hq]) e 9999 kv W
 ·have hal:=Qqi hsc
  cases hk with
  | agg cs _ h1 hc1 r1 =>
  unfold eqT at he
  split at he
  ·cases he
  split at he
  ·rename_i fs hd
   split at he
   ·cases he
   ·rw [show (10000:Nat)=9998+1+1 from rfl,Instr.checkKey]
    simp only [Sem.run_bind,run_underlying hd,Result.andThen_ok]
    rw [←Array.forIn_toList]
    rw [Qmd cs.size (fun f k hf hk ho=>?_) fs.toList 0 ks he (by omega)]
    ·rfl
    ·have hp:=Kf hk (Array.getElem?_eq_getElem ho) W
     simp [hf,hp,Qhe hk]
  ·rename_i n el hd
   split at he
   ·rename_i hce
    cases hks:Ki P el with
    | none=>simp [hks] at he
    | some k =>
    simp [hks] at he
    subst he
    have hce':P.cellsOf el=1:=by simpa using hce
    cases hi:P.info? el with
    | none=>simp [Program.cellsOf,hi] at hce'
    | some i =>
    have hsz:i.size=1:=by simpa [Program.cellsOf,hi] using hce'
    have hn:cs.size=n:=by rw [h1,hal]; simp
    rw [show (10000:Nat)=9998+1+1 from rfl,Instr.checkKey]
    simp only [Sem.run_bind,run_underlying hd,Result.andThen_ok]
    simp only [Std.Legacy.Range.forIn_eq_forIn_range',Std.Legacy.Range.size,Nat.sub_zero,Nat.add_one_sub_one,Nat.div_one]
    have each:∀j∈List.range' 0 n,j < cs.size:=fun j hj=>by rw [List.mem_range'_1] at hj; omega
    generalize List.range' 0 n=is at each
    induction is with
    | nil=>simp
    | cons j is ih =>
     have hp:=Kf hks (Array.getElem?_eq_getElem (each j (by simp))) W
     simp only [List.forIn_cons,Sem.run_bind,run_sizeOf W hi,Result.andThen_ok,hsz,hce',Nat.mul_one,hp,Qhe hks,Sem.run_pure]
     exact ih (fun y hy=>each y (by simp [hy]))
   ·cases he
  ·cases he
end
end Go.Ab
namespace Go.Ab
open Go.RowKit
def Yn (M:CM) (ι:Inj):List Value→List (AV × AV)→Prop
 | [],[]=>True
 | a::b::l,(k,v)::r=>Qa M ι a k∧Qa M ι b v∧Yn M ι l r
 | _,_=>False
section
variable {P:Program} {nf:Bool} {C:FuncId→List AV→Option Xp} {B:Nat} {W0 W W':World} {D:List Nat} {M:CM} {ι:Inj} {σ:Sto} {s:Slots} {a:Act} {fr:Nat} {o:Oper} {res:Res}
theorem Qhf:∀{es:List (AV × AV)} {i t:Nat} {x:AV},lk (X1 i es) t=some x→i≤t
 | [],i,t,x,h=>by cases h
 | (k,v)::r,i,t,x,h=>by
  simp only [X1,lk] at h
  split at h
  ·rename_i e; exact Nat.le_of_eq (Nat.eq_of_beq_eq_true e)
  ·split at h
   ·rename_i e; have:=Nat.eq_of_beq_eq_true e; omega
   ·have:=Qhf h; omega
theorem Qsb {a b:Nat} (h:a≠b):Nat.beq a b=false:=by
 cases e:Nat.beq a b with
 | false=>rfl
 | true=>exact absurd (Nat.eq_of_beq_eq_true e) h
theorem Qvj:∀(es:List (AV × AV)) (l:List Value) (i:Nat),l.length=2*es.length→(∀t x,lk (X1 i es) t=some x→Qa M ι ((l[t - i]?).getD undef) x)→Yn M ι l es
 | [],[],_,_,_=>trivial
 | [],_::_,_,h,_=>by simp at h
 | (k,v)::r,[],_,h,_=>by simp at h
 | (k,v)::r,[_],_,h,_=>by simp at h; omega
 | (k,v)::r,a::b::l,i,h,H=>by
  refine ⟨?_,?_,Qvj r l (i+2) (by simp at h; omega) fun t x hx=>?_⟩
  ·have:=H i k (by simp [X1,lk])
   simpa using this
  ·have:=H (i+1) v (by simp [X1,lk,Qsb (show i≠i+1 by omega)])
   simpa using this
  ·have hge:=Qhf hx
   have:=H t x (by simp only [X1,lk,Qsb (show i≠t by omega),Qsb (show i+1≠t by omega)]; simpa using hx)
   have e:t - i=(t - (i+2))+2:=by omega
   rw [e] at this
   simpa using this
theorem Qbm:∀(es:List (AV × AV)) (l:List Value) (i:Nat),Yn M ι l es→∀t x,lk (X1 i es) t=some x→Qa M ι ((l[t - i]?).getD undef) x
 | [],_,_,_,t,x,hx=>by cases hx
 | (k,v)::r,[],_,h,_,_,_=>h.elim
 | (k,v)::r,[_],_,h,_,_,_=>h.elim
 | (k,v)::r,a::b::l,i,h,t,x,hx=>by
  simp only [X1,lk] at hx
  split at hx
  ·rename_i e; have:=Nat.eq_of_beq_eq_true e; subst this; cases hx; simpa using h.1
  ·split at hx
   ·rename_i e; have:=Nat.eq_of_beq_eq_true e; subst this; cases hx
    have e1:i+1 - i=1:=by omega
    rw [e1]; simpa using h.2.1
   ·have hge:=Qhf hx
    have:=Qbm r l (i+2) h.2.2 t x hx
    have e:t - i=(t - (i+2))+2:=by omega
    rw [e]; simpa using this
theorem Qtn {kv vv:Value} {k v:AV} (hk:Qa M ι kv k) (hv:Qa M ι vv v):∀{l:List Value} {es:List (AV × AV)} (j:Nat),Yn M ι l es→Yn M ι ((l.set (2*j) kv).set (2*j+1) vv) (es.set j (k,v))
 | [],[],j,_=>by simp [Yn]
 | a::b::l,(k0,v0)::r,0,h=>by simpa [Yn] using ⟨hk,hv,h.2.2⟩
 | a::b::l,(k0,v0)::r,j+1,h=>by
  have:=Qtn hk hv j h.2.2
  have e:2*(j+1)=2*j+1+1:=by omega
  simp only [e,List.set_cons_succ,Yn]
  exact ⟨h.1,h.2.1,this⟩
 | [],_::_,_,h=>h.elim
 | [_],_,_,h=>by cases ‹List (AV × AV)› <;> exact h.elim
 | _::_::_,[],_,h=>h.elim
theorem Qkz {kv vv:Value} {k v:AV} (hk:Qa M ι kv k) (hv:Qa M ι vv v):∀{l:List Value} {es:List (AV × AV)},Yn M ι l es→Yn M ι (l++[kv,vv]) (es++[(k,v)])
 | [],[],_=>⟨hk,hv,trivial⟩
 | a::b::l,(k0,v0)::r,h=>⟨h.1,h.2.1,Qkz hk hv h.2.2⟩
 | [],_::_,h=>h.elim
 | [_],_,h=>by cases ‹List (AV × AV)› <;> exact h.elim
 | _::_::_,[],h=>h.elim
theorem Qqx {kv vv:Value}:∀{l:List Value} {es:List (AV × AV)} (j b:Nat),Yn M ι l es→pairsOf ((l.set (2*j) kv).set (2*j+1) vv) b=(pairsOf l b).modify j fun e=>{ e with key:=kv,val:=vv }
 | [],[],j,b,_=>by simp [pairsOf]
 | x::y::l,(k0,v0)::r,0,b,h=>by simp [pairsOf]
 | x::y::l,(k0,v0)::r,j+1,b,h=>by
  have:=Qqx (kv:=kv) (vv:=vv) j (b+1) h.2.2
  have e:2*(j+1)=2*j+1+1:=by omega
  simp only [e,List.set_cons_succ,pairsOf,this,List.modify_succ_cons]
 | [],_::_,_,_,h=>h.elim
 | [_],_,_,_,h=>by cases ‹List (AV × AV)› <;> exact h.elim
 | _::_::_,[],_,_,h=>h.elim
theorem Qi8 {kv vv:Value}:∀{l:List Value} {es:List (AV × AV)} (b:Nat),Yn M ι l es→pairsOf (l++[kv,vv]) b=pairsOf l b++[{ key:=kv,val:=vv,born:=b+es.length }]
 | [],[],b,_=>by simp [pairsOf]
 | x::y::l,(k0,v0)::r,b,h=>by
  have:=Qi8 (kv:=kv) (vv:=vv) (b+1) h.2.2
  simp only [List.cons_append,pairsOf,this,List.length_cons]
  congr 4; omega
 | [],_::_,_,h=>h.elim
 | [_],_,_,h=>by cases ‹List (AV × AV)› <;> exact h.elim
 | _::_::_,[],_,h=>h.elim
theorem Qt3 {kt:TypeId} {q:IntKind} (hq:P.underlying kt=some (.int q)) {kv:Value} {k:AV} (hk:Qa M ι kv k):∀(es:List (AV × AV)) (l:List Value) (b i:Nat) (r:Option (Nat × AV)),Yn M ι l es→Vm (X8 P kt) k es i=some r →
  (r=none∧Instr.findNow (.int q) kv (pairsOf l b) i=some none)∨∃j v w,r=some (i+j,v)∧Instr.findNow (.int q) kv (pairsOf l b) i=some (some (i+j,w))∧Qa M ι w v∧((pairsOf l b)[j]?).map (·.key)=some kv
 | [],[],b,i,r,_,h=>by cases h; exact .inl ⟨rfl,rfl⟩
 | (k0,v0)::es,x::y::l,b,i,r,hp,h=>by
  unfold Vm at h
  cases hc:X8 P kt k k0 with
  | none=>rw [hc] at h; cases h
  | some c =>
   rw [hc] at h
   rcases Qbc hc with ⟨q',kk,n,m,hq',rfl,rfl,rfl⟩ | ⟨ks,as,bs,he,_⟩
   rotate_left
   ·exact absurd he (by simp [eqT,hq])
   have h0:=hp.1
   cases hk with
   | int =>
   cases h0 with
   | int =>
   by_cases e:n=m
   ·subst e
    simp only [beq_self_eq_true] at h
    cases h
    exact .inr ⟨0,v0,y,rfl,by simp [pairsOf,Instr.findNow,Instr.sameNow],hp.2.1,by simp [pairsOf]⟩
   ·have e':(n==m)=false:=by simpa using e
    rw [e'] at h
    simp only at h
    rcases Qt3 hq (.int kk n) es l (b+1) (i+1) r hp.2.2 h with ⟨h1,h2⟩ | ⟨j,v,w,h1,h2,h3,h4⟩
    ·exact .inl ⟨h1,by simp [pairsOf,Instr.findNow,Instr.sameNow,e',h2]⟩
    ·refine .inr ⟨j+1,v,w,by rw [h1]; congr 2; omega,?_,h3,by simpa [pairsOf] using h4⟩
     simp only [pairsOf,Instr.findNow,Instr.sameNow,if_true,e',h2]
     congr 3; omega
 | [],_::_,_,_,_,hp,_=>by cases ‹List Value› <;> exact hp.elim
 | _::_,[],_,_,_,hp,_=>hp.elim
 | _::_,[_],_,_,_,hp,_=>hp.elim
theorem Qsi {kt:TypeId} {kv:Value} {k:AV} (hk:Qa M ι kv k) (W:World):∀(es:List (AV × AV)) (l:List Value) (b i:Nat) (r:Option (Nat × AV)),Yn M ι l es→Vm (X8 P kt) k es i=some r →
  (r=none∧(Instr.findAsking kt kv (pairsOf l b) i).run P W=.ok none W)∨∃j v w,r=some (i+j,v)∧(Instr.findAsking kt kv (pairsOf l b) i).run P W=.ok (some (i+j,w)) W∧Qa M ι w v∧((pairsOf l b)[j]?).map (·.key)=some kv
 | [],[],b,i,r,_,h=>by cases h; exact .inl ⟨rfl,by simp [pairsOf,Instr.findAsking]⟩
 | (k0,v0)::es,x::y::l,b,i,r,hp,h=>by
  unfold Vm at h
  cases hc:X8 P kt k k0 with
  | none=>rw [hc] at h; cases h
  | some c =>
   rw [hc] at h
   obtain ⟨e1,e2⟩:=Qyx hc hk hp.1 W
   cases c with
   | true =>
    simp only at h
    cases h
    refine .inr ⟨0,v0,y,rfl,by simp [pairsOf,Instr.findAsking,e1],hp.2.1,by simp [pairsOf,e2 rfl]⟩
   | false =>
    simp only at h
    rcases Qsi hk W es l (b+1) (i+1) r hp.2.2 h with ⟨h1,h2⟩ | ⟨j,v,w,h1,h2,h3,h4⟩
    ·exact .inl ⟨h1,by simp [pairsOf,Instr.findAsking,e1,h2]⟩
    ·refine .inr ⟨j+1,v,w,by rw [h1]; congr 2; omega,?_,h3,by simpa [pairsOf] using h4⟩
     simp only [pairsOf,Instr.findAsking,Sem.run_bind,e1,Result.andThen_ok]
     simp only [Bool.false_eq_true,if_false,h2]
     congr 3; omega
 | [],_::_,_,_,_,hp,_=>by cases ‹List Value› <;> exact hp.elim
 | _::_,[],_,_,_,hp,_=>hp.elim
 | _::_,[_],_,_,_,hp,_=>hp.elim
theorem Qdw {kt:TypeId} {kv:Value} {k:AV} {r0:Bool} (h0:X8 P kt k k=some r0) (hk:Qa M ι kv k) (W:World) {es:List (AV × AV)} {l:List Value} {r:Option (Nat × AV)} (hp:Yn M ι l es) (h:Vm (X8 P kt) k es 0=some r) :
  (r=none∧(Instr.findKey kt kv (pairsOf l 0)).run P W=.ok none W)∨∃j v w,r=some (j,v)∧(Instr.findKey kt kv (pairsOf l 0)).run P W=.ok (some (j,w)) W∧Qa M ι w v∧((pairsOf l 0)[j]?).map (·.key)=some kv:=by
 rcases Qbc h0 with ⟨q,kk,n,m,hq,rfl,_,_⟩ | ⟨ks,as,bs,he,_,_,_,_⟩
 ·rcases Qt3 hq hk es l 0 0 r hp h with ⟨h1,h2⟩ | ⟨j,v,w,h1,h2,h3,h4⟩
  ·exact .inl ⟨h1,by simp [Instr.findKey,run_underlying hq,h2]⟩
  ·rw [Nat.zero_add] at h1 h2
   exact .inr ⟨j,v,w,h1,by simp [Instr.findKey,run_underlying hq,h2],h3,h4⟩
 ·have hw:(match P.underlying kt with | some (.array _ _) | some (.struct _)=>true | _=>false)=true:=by
   unfold eqT at he
   split at he
   ·cases he
   split at he
   ·rename_i hd; rw [hd]
   ·rename_i hd; rw [hd]
   ·cases he
  rcases Qsi hk W es l 0 0 r hp h with ⟨h1,h2⟩ | ⟨j,v,w,h1,h2,h3,h4⟩
  ·exact .inl ⟨h1,by rw [run_findKey_eq W hw]; exact h2⟩
  ·rw [Nat.zero_add] at h1 h2
   exact .inr ⟨j,v,w,h1,by rw [run_findKey_eq W hw]; exact h2,h3,h4⟩
theorem Qkl:∀{sl:List (Nat × AV)} {i:Nat} {es:List (AV × AV)},Qds i sl=some es→sl=X1 i es
 | [],i,es,h=>by cases h; rfl
 | [_],i,es,h=>by cases h
 | (a,k)::(b,v)::r,i,es,h=>by
  unfold Qds at h
  split at h
  ·rename_i hc
   simp only [Bool.and_eq_true] at hc
   have h1:=Nat.eq_of_beq_eq_true hc.1
   have h2:=Nat.eq_of_beq_eq_true hc.2
   subst h1; subst h2
   cases hr:Qds (a+2) r with
   | none=>rw [hr] at h; cases h
   | some es'=>rw [hr] at h; cases h; rw [Qkl hr]; rfl
  ·cases h
theorem Qfl {x:AObj} {es:List (AV × AV)} (h:Qcn x=some es):x=mapO es:=by
 unfold Qcn at h
 split at h
 ·rename_i nt sl
  split at h
  ·rename_i es' hes
   split at h
   ·rename_i hc
    cases h
    rw [Qkl hes,Nat.eq_of_beq_eq_true hc]
    rfl
   ·cases h
  ·cases h
 ·cases h
theorem Rel.map (h:Rel P B W0 D M ι σ W) {o:Nat} {es:List (AV × AV)} (ho:σ o=some (mapO es)):∃p fn tmps,ι o=some p∧B≤p.blk∧tmps.size=2*es.length ∧
  W.heap[p.blk]?=some (.map (pairsOf tmps.toList 0).toArray (tmps.size / 2))∧Yn M ι tmps.toList es ∧
  W.heap[p.blk]?=some (Qb4 { state:=.exhausted,pending:=none,fn,tmps,params:=#[],assign:=.skip,body:=.skip,defers:=p.base }):=by
 obtain ⟨p,fn,hp,_,hB,tmps,hsz,hrec,hsl⟩:=h.loop o _ _ _ _ _ _ _ ho
 refine ⟨p,fn,tmps,hp,hB,hsz,hrec,?_,hrec⟩
 refine Qvj es tmps.toList 0 (by simpa using hsz) fun t x hx=>?_
 have:=hsl t x hx
 simpa [Array.getD_eq_getD_getElem?] using this
theorem Qua (h:Rel P B W0 D M ι σ W) (hfr:∀k,fr≤k→k < res.fr→ι k=none) {t:TypeId} {r:Option Operand} (ho:o.op=.makeMap t r) (he:evalOp P nf C σ fr s o=some (.val res)):Zc P B W0 D M ι σ fr a o W res:=by
 unfold evalOp at he
 rw [ho] at he
 cases r with
 | some r=>cases he
 | none =>
  cases he
  have hn:=hfr fr (Nat.le_refl _) (by simp)
  have hrel:=h.allocRec hn (fn:=0) (nt:=0) (tmps:=#[]) rfl (sl:=[]) (fun t x hx=>by cases hx) #[] .skip .skip 0 .exhausted none
  refine ⟨.map (some W.heap.size),W.alloc (.map #[] 0),M,ι.put fr ⟨W.heap.size,0,0,0⟩,.inl ?_,.refl _ _,Inj.le_put _ hn,fun k hk=>?_,hrel,fun x hx=>?_⟩
  ·simp [execOp,ho,Instr.makeMap]
  ·exact Inj.put_ne _ _ (by simp at hk; omega)
  ·cases hx
   exact Qa.mp fr _ (Inj.put_same _ _ _)
theorem Qp3 {t:TypeId} {T:TI} {kt et:TypeId} (ht:ti P t=some T) (hk:T.kind=.map kt et):P.underlying t=some (.map kt et):=by
 obtain ⟨d,i,h1,h2,h3,_⟩:=Zy ht
 rw [h3] at hk
 rw [h1]
 cases d <;> simp [Yz] at hk
 obtain ⟨rfl,rfl⟩:=hk
 rfl
theorem Vp {r:Nat} {es:Array MapEntry} {clock:Nat} (hb:W.heap[r]?=some (.map es clock)):(getObj r).run P W=.ok (.map es clock) W:=by
 simp [getObj,Sem.run,hb]
theorem Qco {r:Nat} {es:Array MapEntry} {clock:Nat} (x:Obj) (hb:W.heap[r]?=some (.map es clock)):(setObj r x).run P W=.ok () (W.putObj r x):=by
 simp [setObj,Sem.run,hb,World.putObj]
theorem Quu (h:Rel P B W0 D M ι σ W) (hs:Qi M ι s a.tmps) {t:TypeId} {x ix:Operand} {c:Bool} (ho:o.op=.lookup t x ix c) (he:evalOp P nf C σ fr s o=some (.val res)):Zc P B W0 D M ι σ fr a o W res:=by
 unfold evalOp at he
 rw [ho] at he
 simp only at he
 unfold Qgf at he
 split at he <;> first | (cases he; done) | skip
 rename_i T ob k hT hx hix
 split at he <;> first | (cases he; done) | skip
 rename_i kt et es hkind hes
 have hu:=Qp3 hT hkind
 cases hσ:σ ob with
 | none=>rw [hσ] at hes; cases hes
 | some y =>
 rw [hσ] at hes
 have hy:=Qfl hes
 subst hy
 obtain ⟨p,fn,tmps,hp,hB,hsz,hblk,hprep,_⟩:=h.map hσ
 have vx:=Qg hs hx
 have vk:=Qg hs hix
 generalize hxe:a.eval x=xv at vx
 generalize hke:a.eval ix=kv at vk
 cases vx with
 | mp _ p' hp' =>
 rw [hp] at hp'; cases hp'
 split at he <;> first | (cases he; done) | skip
 ·rename_i r0 i0 v hk0 hf
  split at he <;> first | (cases he; done) | skip
  cases he
  rcases Qdw hk0 vk W hprep hf with ⟨h1,_⟩ | ⟨j,v',w,h1,hfk,h3,_⟩
  ·cases h1
  ·cases h1
   have hck:=fun e=>Qcg hk0 vk e W
   cases c with
   | false =>
    refine Qr h (v:=w) ?_ h3
    simp [execOp,ho,hxe,hke,Instr.lookup,run_underlying hu,Vp hblk,hck,hfk]
   | true =>
    refine Qr h (v:=.tuple #[w,.bool true]) ?_ (.tup _ _ (by simp) fun j x y hx hy=>?_)
    ·simp [execOp,ho,hxe,hke,Instr.lookup,run_underlying hu,Vp hblk,hck,hfk]
    ·match j with
     | 0=>cases hx; cases hy; exact h3
     | 1=>cases hx; cases hy; exact .bool true
     | j+2=>simp at hx
 ·rename_i r0 z hk0 hf hz
  split at he <;> first | (cases he; done) | skip
  cases he
  rcases Qdw hk0 vk W hprep hf with ⟨_,hfk⟩ | ⟨j,v',w,h1,_⟩
  ·have hck:=fun e=>Qcg hk0 vk e W
   cases hE:ti P et with
   | none=>rw [hE] at hz; cases hz
   | some E =>
    rw [hE] at hz
    obtain ⟨i,zv,g1,g2,g3,grep,gsh⟩:=Qa1 hE hz
    have hzr:=Vw (W:=W) g1 g2
    cases c with
    | false =>
     refine Qr h (v:=zv) ?_ (grep M ι)
     simp [execOp,ho,hxe,hke,Instr.lookup,run_underlying hu,Vp hblk,hck,hfk,hzr]
    | true =>
     refine Qr h (v:=.tuple #[zv,.bool false]) ?_ (.tup _ _ (by simp) fun j x y hx hy=>?_)
     ·simp [execOp,ho,hxe,hke,Instr.lookup,run_underlying hu,Vp hblk,hck,hfk,hzr]
     ·match j with
      | 0=>cases hx; cases hy; exact grep M ι
      | 1=>cases hx; cases hy; exact .bool false
      | j+2=>simp at hx
  ·cases h1
theorem Qhu (h:Rel P B W0 D M ι σ W) (hs:Qi M ι s a.tmps) {t:TypeId} {m x y:Operand} (ho:o.op=.mapUpdate t m x y∨o.op=.insert t m x y) (he:evalOp P nf C σ fr s o=some (.val res)):Zc P B W0 D M ι σ fr a o W res:=by
 have he:Qg4 P σ fr s t m x y=some (.val res):=by rcases ho with ho | ho <;> (unfold evalOp at he; rw [ho] at he; exact he)
 have hex:execOp a.eval o=execOp a.eval { o with op:=.mapUpdate t m x y }:=by rcases ho with ho | ho <;> simp [execOp,ho]
 unfold Qg4 at he
 split at he <;> first | (cases he; done) | skip
 rename_i T ob k v hT hm hx hy
 split at he <;> first | (cases he; done) | skip
 rename_i kt et es hkind hes
 have hu:=Qp3 hT hkind
 cases hσ:σ ob with
 | none=>rw [hσ] at hes; cases hes
 | some z =>
 rw [hσ] at hes
 have hz:=Qfl hes
 subst hz
 obtain ⟨p,fn,tmps,hp,hB,hsz,hblk,hprep,hrec⟩:=h.map hσ
 have vm:=Qg hs hm
 have vk:=Qg hs hx
 have vv:=Qg hs hy
 generalize hme:a.eval m=mv at vm
 generalize hke:a.eval x=kv at vk
 generalize hve:a.eval y=vv' at vv
 cases vm with
 | mp _ p' hp' =>
 rw [hp] at hp'; cases hp'
 have fin:∀(tm:Array Value) (es':List (AV × AV)),tm.size=2*es'.length→Yn M ι tm.toList es'→(Instr.mapUpdate t (.map (some p.blk)) kv vv').run P W=.ok () (W.putObj p.blk (.map (pairsOf tm.toList 0).toArray (tm.size / 2))) →
   Zc P B W0 D M ι σ fr a o W ⟨none,[(ob,mapO es')],fr,[ob]⟩:=fun tm es' hs1 hp1 hr=>by
  refine ⟨undef,W.putObj p.blk (.map (pairsOf tm.toList 0).toArray (tm.size / 2)),M,ι,.inr ⟨?_,rfl⟩,.refl _ _,Inj.le_refl _,fun _ _=>rfl,?_,fun x hx=>by cases hx⟩
  ·rw [hex]; simp [execOp,hme,hke,hve,hr]
  ·refine h.setRec hσ hp (x:=mapO es') (ob:=.map (pairsOf tm.toList 0).toArray (tm.size / 2)) rfl (.inr ⟨_,_,_,_,_,_,_,fn,tm,rfl,rfl,hs1,fun t x hx=>?_⟩)
   have:=Qbm es' tm.toList 0 hp1 t x hx
   simpa [Array.getD_eq_getD_getElem?] using this
 split at he <;> first | (cases he; done) | skip
 ·rename_i r0 i0 v0 hk0 hf
  cases he
  rcases Qdw hk0 vk W hprep hf with ⟨h1,_⟩ | ⟨j,v',w,h1,hfk,h3,h4⟩
  ·cases h1
  ·cases h1
   cases hkk:(pairsOf tmps.toList 0)[i0]? with
   | none=>rw [hkk] at h4; cases h4
   | some e0 =>
    rw [hkk] at h4
    have h4:e0.key=kv:=by simpa using h4
    refine fin ⟨(tmps.toList.set (2*i0) kv).set (2*i0+1) vv'⟩ _ (by simp [hsz]) (Qtn vk vv i0 hprep) ?_
    have hps:=Qqx (kv:=kv) (vv:=vv') i0 0 hprep
    have hck:=fun e=>Qcg hk0 vk e W
    have hky:=Qqn hk0 vk W
    simp [Instr.mapUpdate,run_underlying hu,Vp hblk,hck,hfk,hkk,h4,hky,Qco _ hblk,World.putObj,hps]
 ·rename_i r0 hk0 hf
  cases he
  rcases Qdw hk0 vk W hprep hf with ⟨_,hfk⟩ | ⟨j,v',w,h1,_⟩
  ·refine fin ⟨tmps.toList++[kv,vv']⟩ _ (by simp [hsz]; omega) (Qkz vk vv hprep) ?_
   have hps:=Qi8 (kv:=kv) (vv:=vv') 0 hprep
   have hck:=fun e=>Qcg hk0 vk e W
   have hc1:tmps.size / 2=es.length:=by omega
   have hc2:(tmps.size+2) / 2=es.length+1:=by omega
   simp [Instr.mapUpdate,run_underlying hu,Vp hblk,hck,hfk,Qco _ hblk,World.putObj,hps,hc1,hc2]
  ·cases h1
theorem Qsn : ∀{l:List Value} {es:List (AV × AV)} (j b:Nat) {k v:AV},Yn M ι l es→es[j]?=some (k,v)→∃kv vv,pairsOf l b=pairsOf l b∧(pairsOf l b)[j]?=some { key:=kv,val:=vv,born:=b+j }∧Qa M ι kv k∧Qa M ι vv v
 | [],[],j,b,k,v,_,h=>by simp at h
 | x::y::l,(k0,v0)::r,0,b,k,v,h,hj=>by
  simp at hj; obtain ⟨rfl,rfl⟩:=hj
  exact ⟨x,y,rfl,by simp [pairsOf],h.1,h.2.1⟩
 | x::y::l,(k0,v0)::r,j+1,b,k,v,h,hj=>by
  obtain ⟨kv,vv,_,h1,h2,h3⟩:=Qsn j (b+1) h.2.2 (by simpa using hj)
  exact ⟨kv,vv,rfl,by simp only [pairsOf,List.getElem?_cons_succ,h1]; congr 2; omega,h2,h3⟩
 | [],_::_,_,_,_,_,h,_=>h.elim
 | [_],_,_,_,_,_,h,_=>by cases ‹List (AV × AV)› <;> exact h.elim
 | _::_::_,[],_,_,_,_,h,_=>h.elim
theorem Qoz:∀{l:List Value} {es:List (AV × AV)} (j b:Nat),Yn M ι l es→j < es.length→(pairsOf l b).findIdx? (fun e=>(e.born:Int)==((b+j:Nat):Int))=some j
 | [],[],j,b,_,h=>by simp at h
 | x::y::l,(k0,v0)::r,0,b,h,hj=>by simp [pairsOf,List.findIdx?_cons]
 | x::y::l,(k0,v0)::r,j+1,b,h,hj=>by
  have ih:=Qoz j (b+1) h.2.2 (by simpa using hj)
  rw [show b+1+j=b+(j+1) by omega] at ih
  simp only [pairsOf,List.findIdx?_cons,ih]
  rw [show ((b:Int)==((b+(j+1):Nat):Int))=false by simp; omega]
  simp
 | [],_::_,_,_,h,_=>h.elim
 | [_],_,_,_,h,_=>by cases ‹List (AV × AV)› <;> exact h.elim
 | _::_::_,[],_,_,h,_=>h.elim
theorem Qqy:∀{l:List Value} {es:List (AV × AV)} (j b:Nat) {vv:Value},Yn M ι l es→pairsOf (l.set (2*j+1) vv) b=(pairsOf l b).modify j fun e=>{ e with val:=vv }
 | [],[],j,b,_,_=>by simp [pairsOf]
 | x::y::l,(k0,v0)::r,0,b,_,h=>by simp [pairsOf]
 | x::y::l,(k0,v0)::r,j+1,b,vv,h=>by
  have:=Qqy (vv:=vv) j (b+1) h.2.2
  have e:2*(j+1)=2*j+1+1:=by omega
  simp only [e,List.set_cons_succ,pairsOf,this,List.modify_succ_cons]
 | [],_::_,_,_,_,h=>h.elim
 | [_],_,_,_,_,h=>by cases ‹List (AV × AV)› <;> exact h.elim
 | _::_::_,[],_,_,_,h=>h.elim
theorem Qq5:∀{l:List Value} {es:List (AV × AV)} (j b:Nat) {kv:Value},Yn M ι l es→pairsOf (l.set (2*j) kv) b=(pairsOf l b).modify j fun e=>{ e with key:=kv }
 | [],[],j,b,_,_=>by simp [pairsOf]
 | x::y::l,(k0,v0)::r,0,b,_,h=>by simp [pairsOf]
 | x::y::l,(k0,v0)::r,j+1,b,kv,h=>by
  have:=Qq5 (kv:=kv) j (b+1) h.2.2
  have e:2*(j+1)=2*j+1+1:=by omega
  simp only [e,List.set_cons_succ,pairsOf,this,List.modify_succ_cons]
 | [],_::_,_,_,_,h=>h.elim
 | [_],_,_,_,_,h=>by cases ‹List (AV × AV)› <;> exact h.elim
 | _::_::_,[],_,_,_,h=>h.elim
theorem Quc {kv:Value} {k v:AV} (hk:Qa M ι kv k):∀{l:List Value} {es:List (AV × AV)} (j:Nat) {k0:AV},Yn M ι l es→es[j]?=some (k0,v)→Yn M ι (l.set (2*j) kv) (es.set j (k,v))
 | [],[],j,_,_,h=>by simp at h
 | a::b::l,(k0,v0)::r,0,_,h,hj=>by simp at hj; obtain ⟨_,rfl⟩:=hj; simpa [Yn] using ⟨hk,h.2.1,h.2.2⟩
 | a::b::l,(k0,v0)::r,j+1,_,h,hj=>by
  have:=Quc hk j h.2.2 (by simpa using hj)
  have e:2*(j+1)=2*j+1+1:=by omega
  simp only [e,List.set_cons_succ,Yn]
  exact ⟨h.1,h.2.1,this⟩
 | [],_::_,_,_,h,_=>h.elim
 | [_],_,_,_,h,_=>by cases ‹List (AV × AV)› <;> exact h.elim
 | _::_::_,[],_,_,h,_=>h.elim
theorem Qsl {vv:Value} {k v:AV} (hv:Qa M ι vv v):∀{l:List Value} {es:List (AV × AV)} (j:Nat) {v0:AV},Yn M ι l es→es[j]?=some (k,v0)→Yn M ι (l.set (2*j+1) vv) (es.set j (k,v))
 | [],[],j,_,_,h=>by simp at h
 | a::b::l,(k0,v0)::r,0,_,h,hj=>by simp at hj; obtain ⟨rfl,_⟩:=hj; simpa [Yn] using ⟨h.1,hv,h.2.2⟩
 | a::b::l,(k0,v0)::r,j+1,_,h,hj=>by
  have:=Qsl hv j h.2.2 (by simpa using hj)
  have e:2*(j+1)=2*j+1+1:=by omega
  simp only [e,List.set_cons_succ,Yn]
  exact ⟨h.1,h.2.1,this⟩
 | [],_::_,_,_,h,_=>h.elim
 | [_],_,_,_,h,_=>by cases ‹List (AV × AV)› <;> exact h.elim
 | _::_::_,[],_,_,h,_=>h.elim
theorem Qqq {eq:AV→AV→Option Bool} {k:AV}:∀{es:List (AV × AV)} {i j:Nat} {v:AV},Vm eq k es i=some (some (j,v))→∃q k0,j=i+q∧es[q]?=some (k0,v)
 | [],_,_,_,h=>by cases h
 | (a,x)::r,i,j,v,h=>by
  unfold Vm at h
  split at h
  ·cases h; exact ⟨0,a,rfl,rfl⟩
  ·obtain ⟨q,k0,h1,h2⟩:=Qqq h
   exact ⟨q+1,k0,by omega,by simpa using h2⟩
  ·cases h
theorem Qrg (h:Rel P B W0 D M ι σ W) (hs:Qi M ι s a.tmps) {t:TypeId} {m x:Operand} (ho:o.op=.mapEntry t m x) (he:evalOp P nf C σ fr s o=some (.val res)):Zc P B W0 D M ι σ fr a o W res:=by
 unfold evalOp at he
 rw [ho] at he
 simp only at he
 unfold Qhm at he
 split at he <;> first | (cases he; done) | skip
 rename_i T ob k hT hm hx
 split at he <;> first | (cases he; done) | skip
 rename_i kt et es hkind hes
 have hu:=Qp3 hT hkind
 cases hσ:σ ob with
 | none=>rw [hσ] at hes; cases hes
 | some z =>
 rw [hσ] at hes
 have hz:=Qfl hes
 subst hz
 obtain ⟨p,fn,tmps,hp,hB,hsz,hblk,hprep,hrec⟩:=h.map hσ
 have vm:=Qg hs hm
 have vk:=Qg hs hx
 generalize hme:a.eval m=mv at vm
 generalize hke:a.eval x=kv at vk
 cases vm with
 | mp _ p' hp' =>
 rw [hp] at hp'; cases hp'
 have fin:∀(tm:Array Value) (es':List (AV × AV)) (u:AV) (w:Value) (i:Nat),tm.size=2*es'.length→Yn M ι tm.toList es'→Qa M ι w u→(Instr.mapEntry t (.map (some p.blk)) kv).run P W=.ok (.tuple #[w,goInt (i:Int)]) (W.putObj p.blk (.map (pairsOf tm.toList 0).toArray (tm.size / 2))) →
   Zc P B W0 D M ι σ fr a o W ⟨some (.tup [u,.int .i64 (i:Int)]),[(ob,mapO es')],fr,[ob]⟩:=fun tm es' u w i hs1 hp1 hw hr=>by
  refine ⟨.tuple #[w,goInt (i:Int)],W.putObj p.blk (.map (pairsOf tm.toList 0).toArray (tm.size / 2)),M,ι,.inl ?_,.refl _ _,Inj.le_refl _,fun _ _=>rfl,?_,fun x hx=>?_⟩
  ·simp [execOp,ho,hme,hke,hr]
  ·refine h.setRec hσ hp (x:=mapO es') (ob:=.map (pairsOf tm.toList 0).toArray (tm.size / 2)) rfl (.inr ⟨_,_,_,_,_,_,_,fn,tm,rfl,rfl,hs1,fun t x hx=>?_⟩)
   have:=Qbm es' tm.toList 0 hp1 t x hx
   simpa [Array.getD_eq_getD_getElem?] using this
  ·cases hx
   refine .tup _ _ (by simp) fun j x y hx hy=>?_
   match j with
   | 0=>cases hx; cases hy; exact hw
   | 1=>cases hx; cases hy; exact .int .i64 _
   | j+2=>simp at hx
 split at he <;> first | (cases he; done) | skip
 ·rename_i r0 i0 v0 hk0 hf
  split at he <;> first | (cases he; done) | skip
  cases he
  obtain ⟨q,k1,hq,hget⟩:=Qqq hf
  simp only [Nat.zero_add] at hq
  subst hq
  rcases Qdw hk0 vk W hprep hf with ⟨h1,_⟩ | ⟨j,v',w,h1,hfk,h3,h4⟩
  ·cases h1
  ·cases h1
   obtain ⟨kv1,vv1,_,hat,_,_⟩:=Qsn i0 0 hprep hget
   rw [hat] at h4
   have h4:kv1=kv:=by simpa using h4
   subst h4
   refine fin ⟨tmps.toList.set (2*i0) kv1⟩ _ _ w i0 (by simp [hsz]) (Quc vk i0 hprep hget) h3 ?_
   have hps:=Qq5 (kv:=kv1) i0 0 hprep
   have hck:=fun e=>Qcg hk0 vk e W
   have hky:=Qqn hk0 vk W
   simp [Instr.mapEntry,run_underlying hu,Vp hblk,hck,hfk,hat,hky,Qco _ hblk,World.putObj,hps]
 ·rename_i r0 z hk0 hf hz
  split at he <;> first | (cases he; done) | skip
  cases he
  rcases Qdw hk0 vk W hprep hf with ⟨_,hfk⟩ | ⟨j,v',w,h1,_⟩
  ·cases hE:ti P et with
   | none=>rw [hE] at hz; cases hz
   | some E =>
    rw [hE] at hz
    obtain ⟨i,zv,g1,g2,g3,grep,gsh⟩:=Qa1 hE hz
    have hzr:=Vw (W:=W) g1 g2
    refine fin ⟨tmps.toList++[kv,zv]⟩ _ _ zv es.length (by simp [hsz]; omega) (Qkz vk (grep M ι) hprep) (grep M ι) ?_
    have hps:=Qi8 (kv:=kv) (vv:=zv) 0 hprep
    have hck:=fun e=>Qcg hk0 vk e W
    have hc1:tmps.size / 2=es.length:=by omega
    have hc2:(tmps.size+2) / 2=es.length+1:=by omega
    simp [Instr.mapEntry,run_underlying hu,Vp hblk,hck,hfk,hzr,Qco _ hblk,World.putObj,hps,hc1,hc2]
  ·cases h1
theorem Qoj (h:Rel P B W0 D M ι σ W) (hs:Qi M ι s a.tmps) {t:TypeId} {m x y:Operand} (ho:o.op=.entryStore t m x y) (he:evalOp P nf C σ fr s o=some (.val res)):Zc P B W0 D M ι σ fr a o W res:=by
 unfold evalOp at he
 rw [ho] at he
 simp only at he
 unfold Qf9 at he
 split at he <;> first | (cases he; done) | skip
 rename_i ob i v hm hx hy
 split at he <;> first | (cases he; done) | skip
 rename_i es hes
 split at he <;> first | (cases he; done) | skip
 rename_i k v0 hget
 cases he
 cases hσ:σ ob with
 | none=>rw [hσ] at hes; cases hes
 | some z =>
 rw [hσ] at hes
 have hz:=Qfl hes
 subst hz
 obtain ⟨p,fn,tmps,hp,hB,hsz,hblk,hprep,hrec⟩:=h.map hσ
 have vm:=Qg hs hm
 have vk:=Qg hs hx
 have vv:=Qg hs hy
 generalize hme:a.eval m=mv at vm
 generalize hke:a.eval x=kv at vk
 generalize hve:a.eval y=vv' at vv
 cases vm with
 | mp _ p' hp' =>
 cases vk with
 | int =>
 rw [hp] at hp'; cases hp'
 have hlt:i < es.length:=(List.getElem?_eq_some_iff.1 hget).1
 have hfi:=Qoz i 0 hprep hlt
 rw [Nat.zero_add] at hfi
 have hps:=Qqy (vv:=vv') i 0 hprep
 refine ⟨undef,W.putObj p.blk (.map (pairsOf (tmps.toList.set (2*i+1) vv') 0).toArray (tmps.size / 2)),M,ι,.inr ⟨?_,rfl⟩,.refl _ _,Inj.le_refl _,fun _ _=>rfl,?_,fun x hx=>by cases hx⟩
 ·simp [execOp,ho,hme,hke,hve,Instr.entryStore,Vp hblk,asInt,asIntOf,hfi,Qco _ hblk,World.putObj,hps]
 ·refine h.setRec hσ hp (x:=mapO (es.set i (k,v))) (ob:=.map (pairsOf (tmps.toList.set (2*i+1) vv') 0).toArray (tmps.size / 2)) rfl (.inr ⟨_,_,_,_,_,_,_,fn,⟨tmps.toList.set (2*i+1) vv'⟩,rfl,?_,by simp [hsz],fun t x hx=>?_⟩)
  ·simp [Qb4]
  ·have:=Qbm _ _ 0 (Qsl vv i hprep hget) t x hx
   simpa [Array.getD_eq_getD_getElem?] using this
end
end Go.Ab
