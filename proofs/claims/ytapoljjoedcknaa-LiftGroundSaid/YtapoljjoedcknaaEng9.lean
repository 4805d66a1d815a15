/- Rules. No conditions. -/
import Derived.Test.YtapoljjoedcknaaEng7
import Derived.Shelf.Spec.SlicesInsertGrow
import Derived.Test.YtapoljjoedcknaaEng8
set_option linter.all false
namespace Go.Ab
open Go.RowKit Go.Shelf Go.Lib Go.Proofs
section
variable {P:Program} {ρ:Ren}
theorem Qj2 (w:World) (tS tR e:TypeId) (ht:P.underlying tS=some (.slice e)) (hz:∀w,(Go.sizeOf e).run P w=.ok 1 w)
  (a b:Addr) (la ca lb cb:Nat) (hd:a.block≠b.block∨a.off+la≤b.off∨b.off+lb≤a.off) (hva:∀j,w.frozen? ⟨a.block,j,none⟩=false) (hb:∃j v,w.cell? ⟨b.block,j,none⟩=some v) (ha:∃j v,w.cell? ⟨a.block,j,none⟩=some v) (has:a.spot=none:=by rfl) :
  (Extern.SlicesOverlaps.overlaps #[tS,tS] #[tR] #[.slice (some a) la ca,.slice (some b) lb cb]).run P w=.ok (.bool false) w:=by
 have shp:∀{r j v},w.cell? ⟨r,j,none⟩=some v→∃t k,w.shape? r=some (t,k)∧k≠0:=fun {r j v} h=>by
  obtain ⟨c,e,f,h1⟩:=Qfk h
  refine ⟨e,c.size,by unfold World.shape?; rw [h1],fun h0=>?_⟩
  unfold World.cell? at h
  rw [h1] at h
  have:=Array.eq_empty_of_size_eq_zero h0
  subst this
  simp at h
 obtain ⟨_,_,ha⟩:=ha
 obtain ⟨_,_,hb⟩:=hb
 obtain ⟨tA,kA,hsa,_⟩:=shp ha
 obtain ⟨tB,kB,hsb,hkB⟩:=shp hb
 by_cases e0:a.block=b.block
 ·have hnb:(a.block != b.block)=false:=by simpa using e0
  have hd':(decide (a.off < b.off+lb) && decide (b.off < a.off+la))=false:=by
   rw [Bool.eq_false_iff]; intro h; simp at h; omega
  change Sem.run P (α:=Value) (do
   let some t:=(#[tS,tS]:Array TypeId)[0]? | stuck "slices.overlaps: no parameter types"
   let .slice elem ←underlying t | stuck "slices.overlaps: slice type expected"
   let size ←sizeOf elem
   match (some a:Option Addr),(some b:Option Addr) with
   | some a,some b =>
    if la=0∨lb=0∨size=0 then pure (Value.bool false)
    else if a.block != b.block && (←frozen a) && (←frozen b) then unsupported .addressObserved
    else do
     if a.block != b.block then do
      noView a; noView b
      if ←mayBeOne a b then return Value.bool ((←choose (.extern "sameAddr.stringBytes" 2))==1)
     pure (Value.bool (a.block==b.block && a.off < b.off+lb*size && b.off < a.off+la*size))
   | _,_=>pure (Value.bool false)) w=_
  by_cases h0:la=0∨lb=0
  ·simp [run_underlying ht,hz,h0]
  ·have h0':¬ (la=0∨lb=0∨(1:Nat)=0):=by omega
   simp [run_underlying ht,hz,h0',hnb,e0,h0]
   simpa using hd'
 ·refine Lib.run_overlaps_apart w tS tR e ht 1 hz a b la ca lb cb e0 tA tB kA kB hsa hsb hkB ?_ (hva _)
  have:=hva a.off
  obtain ⟨x,y,z⟩:=a
  cases has
  exact this
set_option maxHeartbeats 4000000 in
set_option maxRecDepth 100000 in
theorem Qt3 (L:Lays2.n21 P ρ) (b off n c i vb voff m vc:Nat) (cs vs:List Value) (w:World) (hi:i < n) (hm:0 < m) (hroom:n+m≤c) (hc63:n+m≤9223372036854775807) (hvb:vb≠b∨voff+m≤off∨off+c≤voff)
  (hcl:cs.length=n) (hvl:vs.length=m)
  (hcs:∀j v,cs[j]?=some v→w.cell? ⟨b,off+j,none⟩=some v) (hsp:∀j,j < n+m→(w.cell? ⟨b,off+j,none⟩).isSome=true) (hfz:∀j,j < n+m→w.frozen? ⟨b,off+j,none⟩=false)
  (hvs:∀j v,vs[j]?=some v→w.cell? ⟨vb,voff+j,none⟩=some v) (h1c:∀v∈cs,v.oneCell'=true) (h1v:∀v∈vs,v.oneCell'=true)
  (hva:∀j,w.frozen? ⟨vb,j,none⟩=false) :
  Calls P (ρ.f 21) #[.slice (some ⟨b,off,none⟩) n c,.int .i64 i,.slice (some ⟨vb,voff,none⟩) m vc] w fun e w' =>
   e=.returned (.slice (some ⟨b,off,none⟩) (n+m) c)∧w'=(w.drew.setCells b (off+(i+m)) (cs.drop i)).setCells b (off+i) vs:=by
 have t0:=L.t0; have a0:=L.a0; have z0:=L.z0; have v0:=L.v0; have t3:=L.t3; have a3:=L.a3; have z3:=L.z3; have v3:=L.v3; have t4:=L.t4; have a4:=L.a4; have z4:=L.z4; have v4:=L.v4; have t22:=L.t22; have a22:=L.a22; have z22:=L.z22; have v22:=L.v22
 have u0:=run_underlying L.t0; have u3:=run_underlying L.t3; have u4:=run_underlying L.t4; have u22:=run_underlying L.t22
 have hz1:¬ ((m:Int)=0):=by omega
 have hz2:¬ ((i:Int)=(n:Int)):=by omega
 have hsz:(P.info? (ρ.t 3)).map (·.size)=some 1:=by
  obtain ⟨i0,hi0,h0,h1,h2⟩:=info_parts L.i3
  rw [hi0]; simp [h1]
 have hov:∀cb,(callFunc (ρ.f 27) #[.slice (some ⟨vb,voff,none⟩) m vc,.slice (some ⟨b,off+(i+m),none⟩) (n+m - (i+m)) cb]).run P w=.ok (.value (.bool false)) w:=fun cb=>by
  rw [run_callFunc_extern L.f27 (by kernel_rfl) (by kernel_rfl) (by kernel_rfl) (e:=Extern.SlicesOverlaps.overlaps #[(ρ.t 22),(ρ.t 22)] #[(ρ.t 4)]) (by kernel_rfl),
   Qj2 w (ρ.t 22) (ρ.t 4) (ρ.t 3) L.t22 L.z3 ⟨vb,voff,none⟩ ⟨b,off+(i+m),none⟩ m vc (n+m - (i+m)) cb (by rcases hvb with h | h | h <;> simp only <;> omega) hva
    (by have:=hsp 0 (by omega); rw [Option.isSome_iff_exists] at this; obtain ⟨v,hv⟩:=this; exact ⟨_,_,hv⟩) (by obtain ⟨v,hv⟩:∃v,vs[0]?=some v:=⟨_,List.getElem?_eq_getElem (by omega)⟩; exact ⟨_,_,hvs 0 v hv⟩)]
  rfl
 have hdl:(cs.drop i).length=n - i:=by rw [List.length_drop,hcl]
 have mixed:=L.mixed
 have hw1:IntKind.i64.wrap ((i:Int)+(m:Int))=(i:Int)+(m:Int):=by rw [IntKind.wrap_i64]; omega
 have hb1:(0:Int)≤(i:Int)+(m:Int):=by omega
 have hin:i≤n:=by omega
 have htn:((i:Int)+(m:Int)).toNat = i+m:=by omega
 have hb2:¬ (c=i+m):=by omega
 have hb3:(i:Int)≤(n:Int)+(m:Int):=by omega
 have hb4:¬ (c=i):=by omega
 have hcp1:∀ty dc sc,(Builtin.copy_ #[(ρ.t 22),(ρ.t 22)] ty #[.slice (some ⟨b,off+(i+m),none⟩) (n+m - (i+m)) dc,.slice (some ⟨b,off+i,none⟩) (n+m - i) sc]).run P w.drew=.ok (goInt (cs.drop i).length) (w.drew.setCells b (off+(i+m)) (cs.drop i)):=fun ty dc sc =>
  run_copy_cells w.drew _ _ ty (ρ.t 3) b (off+(i+m)) (n+m - (i+m)) dc ⟨b,off+i,none⟩ (n+m - i) sc (cs.drop i) L.t22 hsz (by rw [hdl]; simp only [Nat.min_def]; split <;> omega)
   (fun j v hj=>by rw [Addr.add_lit,Nat.add_assoc]; exact hcs (i+j) v (by rwa [List.getElem?_drop] at hj))
   (fun j hj=>by rw [Nat.add_assoc]; exact hsp _ (by omega)) (fun j hj=>by rw [Nat.add_assoc]; exact hfz _ (by omega)) (fun v hv=>h1c v (List.mem_of_mem_drop hv))
 obtain ⟨W1,hW1⟩:∃W1,W1=w.drew.setCells b (off+(i+m)) (cs.drop i):=⟨_,rfl⟩
 have hsp1:∀k,k < n+m→(W1.cell? ⟨b,off+k,none⟩).isSome=true:=fun k hk=>by
  rw [hW1]
  exact isSome_setCells b _ _ _ (fun j hj=>by rw [Nat.add_assoc]; exact hsp _ (by omega)) _ (hsp k hk)
 have hcp2:∀(W:World),(∀x,W.cell? x=W1.cell? x)→(∀x,W.frozen? x=W1.frozen? x)→∀ty dc,(Builtin.copy_ #[(ρ.t 22),(ρ.t 22)] ty #[.slice (some ⟨b,off+i,none⟩) (n+m - i) dc,.slice (some ⟨vb,voff,none⟩) m vc]).run P W=.ok (goInt vs.length) (W.setCells b (off+i) vs):=fun W hWc hWf ty dc =>
  run_copy_cells W _ _ ty (ρ.t 3) b (off+i) (n+m - i) dc ⟨vb,voff,none⟩ m vc vs L.t22 hsz (by rw [hvl]; simp only [Nat.min_def]; split <;> omega)
   (fun j v hj=>by
    rw [Addr.add_lit,hWc,hW1,World.cell?_setCells_out b _ _ _ _ (fun h _=>by have h:vb=b:=h; have:=(List.getElem?_eq_some_iff.1 hj).1; rw [hdl]; show voff+j < _∨_≤voff+j; omega)]
    exact hvs j v hj)
   (fun j hj=>by rw [hWc,Nat.add_assoc]; exact hsp1 _ (by omega)) (fun j hj=>by rw [hWf,hW1,World.frozen?_setCells,Nat.add_assoc]; exact hfz _ (by omega)) h1v
 rw [←hW1] at hcp1
 go_enter L.f21,Body2.n21_ntmps ρ
 go_wp2_with (simp only [hov])
 go_region_law_o (refine step_copy_runI rfl _ _ (ρ.t 22) (ρ.t 22) rfl _ _ (by simp [Act.eval,Act.put]) (by simp [Act.eval,Act.put]) (hcp1 _ _ _) ?_)
 go_wp2_with (at_builtin; refine wpList_copy_runI _ rfl _ _ (ρ.t 22) (ρ.t 22) rfl _ _ rfl rfl (hcp2 _ (fun _=>rfl) (fun _=>rfl) _ _) ?_)
 go_ret
 first | exact ⟨rfl,rfl⟩ | exact ⟨rfl,by rw [hW1]⟩
set_option maxHeartbeats 4000000 in
set_option maxRecDepth 100000 in
theorem Qwl (L:Lays2.n21 P ρ) (b off n c vb voff m vc:Nat) (vs:List Value) (w:World) (hm:0 < m) (hroom:n+m≤c) (hc63:n+m≤9223372036854775807)
  (hvl:vs.length=m) (hsp:∀j,j < m→(w.cell? ⟨b,off+n+j,none⟩).isSome=true) (hfz:∀j,j < m→w.frozen? ⟨b,off+n+j,none⟩=false)
  (hvs:∀j v,vs[j]?=some v→w.cell? ⟨vb,voff+j,none⟩=some v) (h1v:∀v∈vs,v.oneCell'=true) :
  Calls P (ρ.f 21) #[.slice (some ⟨b,off,none⟩) n c,.int .i64 n,.slice (some ⟨vb,voff,none⟩) m vc] w fun e w' =>
   e=.returned (.slice (some ⟨b,off,none⟩) (n+m) c)∧w'=w.setCells b (off+n) vs:=by
 have t0:=L.t0; have a0:=L.a0; have z0:=L.z0; have v0:=L.v0; have t3:=L.t3; have a3:=L.a3; have z3:=L.z3; have v3:=L.v3; have t4:=L.t4; have a4:=L.a4; have z4:=L.z4; have v4:=L.v4; have t22:=L.t22; have a22:=L.a22; have z22:=L.z22; have v22:=L.v22
 have u0:=run_underlying L.t0; have u3:=run_underlying L.t3; have u4:=run_underlying L.t4; have u22:=run_underlying L.t22
 have mixed:=L.mixed
 have hz1:¬ ((m:Int)=0):=by omega
 have hsrc:Src P 1 (ρ.t 22) (.slice (some ⟨vb,voff,none⟩) m vc) m vs w:=Src.ofSlice w L.t22 ⟨vb,voff,none⟩ m vc vs (by omega) (fun j u hj=>by rw [Addr.add_lit]; exact hvs j u hj) h1v
 go_enter L.f21,Body2.n21_ntmps ρ
 go_wp2_with (at_builtin; refine wpList_append_room1 _ rfl _ _ (ρ.t 22) (ρ.t 22) rfl (ρ.t 3) _ _ L.t22 L.i3 b off n c rfl _ rfl m vs hsrc hroom (by rw [hvl]; exact hsp) (by rw [hvl]; exact hfz) ?_)
 go_ret
 exact ⟨rfl,rfl⟩
end
end Go.Ab
namespace Go.Ab
section
variable {P:Program} {base:Nat} {st:St}
noncomputable def Qz2 (o w:Nat) (fl:Bool) (n:Nat) {γ:Type} (enc:γ→AV) (st:St):St:=⟨st.slots,st.objs.set o (.refs st.objs.length ((List.replicate n ([]:List γ)).map fun l=>l.map enc))++[.fam w fl ((List.replicate n ([]:List γ)).map fun l=>l.map enc)],st.nt⟩
theorem wfam (o w:Nat) (fl:Bool) {α γ:Type} {x0:α} (n:Nat) {enc1:α→AV} (enc:γ→AV) {nr0 fl0:Bool} (ho:st.objs[o]?=some (.row false false nr0 fl0 1 ((List.replicate n x0).map enc1)):=by kernel_rfl) (ha:Qg2 (enc1 x0)=true:=by kernel_rfl)
  (hw:(Nat.blt 0 w && Nat.blt st.objs.length BIG)=true:=by kernel_rfl):Wk P base st (Qz2 o w fl n enc st):=Qz5 o w fl enc ho ha hw rfl
noncomputable def Q0p (o j m:Nat) {γ:Type} (enc:γ→AV) (ls:List (List γ)) (b:List γ) (n:Int) (w:Nat) (fl:Bool) (live:List Nat) (st:St):St :=
 ⟨Vu m st.slots live,((st.objs.set o (.refs j (eF enc (ls.set n.toNat b)))).set j (.fam w fl (eF enc (ls.set n.toNat b)))).set m .dead,st.nt⟩
theorem Q2p (o j m:Nat) {γ:Type} {enc:γ→AV} {ls:List (List γ)} {x b:List γ} {n:Int} {w:Nat} {fl:Bool} (live:List Nat) (hx:lkI ls n=some x)
  (ho:st.objs[o]?=some (.row false false false false 1 ((Zi j 0 (eF enc ls)).set n.toNat (.ref m 0 b.length))):=by kernel_rfl) (hj:st.objs[j]?=some (.fam w fl (eF enc ls)):=by kernel_rfl) (hm:st.objs[m]?=some (.row false false true fl w (b.map enc)):=by kernel_rfl)
  (hc:(Qdm m j o 0 st.objs && Nat.ble base m && Nat.ble base j)=true:=by kernel_rfl):Wk P base st (Q0p o j m enc ls b n w fl live st):=Qwz o j m live ho hj hm hx hc rfl
noncomputable def Q0s (o j:Nat) {γ:Type} (enc:γ→AV) (ls:List (List γ)) (fl:Bool) (st:St):St:=⟨st.slots,(st.objs.set o (.row false false true false 1 (ls.map fun l=>eL fl enc l))).set j .dead,st.nt⟩
theorem Q2n (o j:Nat) {γ:Type} {enc:γ→AV} {ls:List (List γ)} {w:Nat} {fl:Bool} (ho:st.objs[o]?=some (.refs j (eF enc ls)):=by kernel_rfl) (hj:st.objs[j]?=some (.fam w fl (eF enc ls)):=by kernel_rfl):Wk P base st (Q0s o j enc ls fl st):=Qzg o j ho hj rfl
end
attribute [irreducible] Qz2 Q0p Q0s
end Go.Ab
namespace Go.Ab
open Go.RowKit Go.Shelf Go.Lib Go.Proofs
section
variable {P:Program} {B:Nat} {W0 W:World} {D:List Nat} {M:CM} {ι:Inj} {σ:Sto}
theorem Rel.putI (h:Rel P B W0 D M ι σ W) {o:Nat} {p:Place} {bx nr fl:Bool} {l l' us:List Int} {c0:Nat} (hσ:σ o=some (.row bx false nr fl 1 (l.map eI))) (hι:ι o=some p)
  (hc:c0+us.length≤p.cap) (hl:l'.length≤p.cap) (he:∀(k:Nat) (x:Int),l'[k]?=some x→(c0≤k∧k < c0+us.length→us[k - c0]?=some x)∧(k < c0∨c0+us.length≤k→l[k]?=some x)) :
  Rel P B W0 D M ι (σ.put o (.row false false true true 1 (l'.map eI))) (W.setCells p.blk (p.base+c0) (us.map (Value.int .i64))):=by
 obtain ⟨q,hq,hrow⟩:=h.row o _ _ _ _ _ _ hσ
 rw [hι] at hq; cases hq
 have at1:∀{i j:Nat} {x y:AV},(l'.map eI)[i]?=some x→x.flat[j]?=some y→j=0∧∃n,l'[i]?=some n∧y=eI n:=fun {i j x y} hi hj=>by
  rw [List.getElem?_map,Option.map_eq_some_iff] at hi
  obtain ⟨n,hn,rfl⟩:=hi
  cases j with
  | zero=>simp [AV.flat] at hj; exact ⟨rfl,n,hn,hj.symm⟩
  | succ j=>simp [AV.flat] at hj
 refine h.write hσ hι c0 _ (by rw [List.length_map]; omega) (by rw [List.length_map]; exact hl) (fun x hx=>?_) (fun _=>?_) (fun _ x hx=>?_) (fun i j x y hi hj h1 h2=>?_) (fun i j x y hi hj h1=>?_)
 ·obtain ⟨n,_,rfl⟩:=List.mem_map.1 hx
  exact ⟨.inr rfl,rfl,by simp [AV.flat,AV.cell]⟩
 ·rw [Q1]; intro x hx
  obtain ⟨n,_,rfl⟩:=List.mem_map.1 hx; rfl
 ·obtain ⟨n,_,rfl⟩:=List.mem_map.1 hx; rfl
 ·obtain ⟨rfl,n,hn,rfl⟩:=at1 hi hj
  rw [List.length_map] at h2
  refine ⟨.int .i64 n,?_,.int _ _⟩
  have e:=(he _ _ hn).1 ⟨by omega,by omega⟩
  rw [Nat.mul_one,Nat.add_zero,List.getElem?_map,e]; rfl
 ·obtain ⟨rfl,n,hn,rfl⟩:=at1 hi hj
  rw [List.length_map] at h1
  obtain ⟨v,hv,hr⟩:=hrow.cells i 0 (eI n) (eI n) (by rw [List.getElem?_map,(he _ _ hn).2 (by omega)]; rfl) rfl
  exact ⟨v,by rw [←Nat.add_assoc]; exact hv,hr⟩
theorem Rel.cellI (h:Rel P B W0 D M ι σ W) {o:Nat} {p:Place} {bx ro nr fl:Bool} {l:List Int} (hσ:σ o=some (.row bx ro nr fl 1 (l.map eI))) (hι:ι o=some p) :
  ∀j v,(l.map (Value.int .i64))[j]?=some v→W.cell? ⟨p.blk,p.base+j,none⟩=some v:=fun j v hv=>by
 obtain ⟨q,hq,hrow⟩:=h.row o _ _ _ _ _ _ hσ
 rw [hι] at hq; cases hq
 rw [List.getElem?_map,Option.map_eq_some_iff] at hv
 obtain ⟨n,hn,rfl⟩:=hv
 obtain ⟨v,hv,hr⟩:=hrow.cells j 0 (eI n) (eI n) (by rw [List.getElem?_map,hn]; rfl) rfl
 rw [Nat.mul_one,Nat.add_zero] at hv
 cases hr; exact hv
end
theorem Qs9 {P:Program} {ρ:Ren} (L:Lays2.n21 P ρ) {objs:List AObj} {o o2:Nat} {nr fl bx2 nr2 fl2:Bool} {l:List Int} {i:Nat} {x:Int} (h1:objs[o]?=some (.row false false nr fl 1 (l.map eI))) (h2:objs[o2]?=some (.row bx2 false nr2 fl2 1 [eI x])) (hne:o2≠o)
  (hi:i≤l.length) (hlen:l.length < 1099511627776) (hb:objs.length < BIG) :
  Qo0 P (ρ.f 21) [.ref o 0 l.length,.int .i64 i,.ref o2 0 1] objs (.ref objs.length 0 (l.length+1)) (objs.set o .dead++[.row false false true true 1 ((l.take i++x::l.drop i).map eI)]):=by
 intro B W0 W D M ι vs hrel hnd hnew hbig hsz hrep
 have hoL:=(List.getElem?_eq_some_iff.1 h1).1
 have ho:o < BIG:=by omega
 have ho2:o2 < BIG:=by have:=(List.getElem?_eq_some_iff.1 h2).1; omega
 have hσ:sto objs o=some (.row false false nr fl 1 (l.map eI)):=Qcp ho h1 rfl
 have hσ2:sto objs o2=some (.row bx2 false nr2 fl2 1 ([x].map eI)):=Qcp ho2 h2 rfl
 obtain ⟨p,hp,hrw⟩:=hrel.row o _ _ _ _ _ _ hσ
 obtain ⟨p2,hp2,hrw2⟩:=hrel.row o2 _ _ _ _ _ _ hσ2
 obtain ⟨v0,v1,v2,rfl⟩:∃v0 v1 v2,vs=#[v0,v1,v2]:=by
  have h2:vs.size=3:=hsz
  refine ⟨vs[0],vs[1],vs[2],?_⟩
  apply Array.ext (by simp [h2])
  intro i h3 h4
  match i,h4 with
  | 0,_=>rfl
  | 1,_=>rfl
  | 2,_=>rfl
 have r0:=hrep 0 v0 _ rfl rfl
 have r1:=hrep 1 v1 _ rfl rfl
 have r2:=hrep 2 v2 _ rfl rfl
 have e1:v1=.int .i64 i:=by cases r1; rfl
 subst e1
 have hc2:0 < p2.cap:=by have:=hrw2.len; simp at this; omega
 obtain ⟨c2,rfl⟩:∃c2,v2=.slice (some ⟨p2.blk,p2.base,none⟩) 1 c2:=by
  cases r2 with
  | ref _ _ _ q off cap hq hi' hcap hoff =>
   rw [hp2] at hq; cases hq
   refine ⟨cap,?_⟩
   rcases hoff with h1 | h1
   ·rw [h1]; simp
   ·omega
 have hap:p2.blk≠p.blk∨p2.base+1≤p.base∨p.base+p.cap≤p2.base:=by
  have:=hrel.apart o2 o _ _ _ _ _ _ _ _ _ _ p2 p hne hσ2 hσ hp2 hp
  rw [hrw.pw,hrw2.pw] at this
  omega
 have hvs:∀j v,([x].map (Value.int .i64))[j]?=some v→W.cell? ⟨p2.blk,p2.base+j,none⟩=some v:=hrel.cellI hσ2 hp2
 have hva:∀j,W.frozen? ⟨p2.blk,j,none⟩=false:=(hrel.cool _ _ _ _ _ _ _ 0 hσ2 hp2 (by omega)).1
 have hcs:=hrel.cellI hσ hp
 have one:∀(l:List Int),∀v∈l.map (Value.int .i64),v.oneCell'=true:=fun l v hv=>by obtain ⟨n,_,rfl⟩:=List.mem_map.1 hv; rfl
 obtain ⟨hB,hown⟩:=hrw.own rfl
 have hfr:ι objs.length=none:=hnew _ (InB.not (Nat.le_refl _) hb)
 have hlk:(l.take i++x::l.drop i).length=l.length+1:=by simp; omega
 have hsto:∀y:AObj,y.isPlain=true→sto (objs.set o .dead++[y])=((sto objs).put o .dead).put objs.length y:=fun y hy=>by
  have:=Qfh (objs:=objs.set o .dead) hy (by rw [List.length_set]; exact hb)
  rw [this,List.length_set,Qb5 h1 rfl rfl ho]
 have hinb:∀ι':Inj,(∀k,k≠objs.length→ι' k=ι k)→∀(y:AObj),y.isFam=false→∀k,¬ InB (objs.set o .dead++[y]).length k→ι' k=none:=fun ι' h _ _ k hk=>by
  have e:k≠objs.length:=fun e=>hk (by subst e; exact .inl (by simp))
  rw [h k e]
  exact hnew k fun h=>hk (h.mono (by simp))
 have hbig':∀y:AObj,(objs.set o .dead++[y]).length≤BIG:=fun y=>by simp; omega
 obtain ⟨R,hR⟩:∃R,R=l.take i++x::l.drop i:=⟨_,rfl⟩
 rw [←hR] at hlk ⊢
 have hti:(l.take i).length=i:=by simp; omega
 have hRlo:∀k,k < i→R[k]?=l[k]?:=fun k hk=>by rw [hR,List.getElem?_append_left (by omega),List.getElem?_take,if_pos hk]
 have hRi:R[i]?=some x:=by rw [hR,List.getElem?_append_right (by omega),hti,Nat.sub_self]; rfl
 have hRhi:∀k,i < k→R[k]?=l[k - 1]?:=fun k hk=>by
  rw [hR,List.getElem?_append_right (by omega),hti,show k - i=(k - 1 - i)+1 by omega,List.getElem?_cons_succ,List.getElem?_drop,show i+(k - 1 - i)=k - 1 by omega]
 have fin:∀(q:Place) (off cap:Nat) (W':World),q.cap=cap→off=q.base→l.length+1≤cap→Rel P B W0 D M (ι.put objs.length q) (((sto objs).put o .dead).put objs.length (.row false false true true 1 (R.map eI))) W' →
   ∃v M' ι',Ending.returned (.slice (some ⟨q.blk,off,none⟩) (l.length+1) cap)=.returned v∧CM.Grow B M M'∧ι.le ι'∧Rel P B W0 D M' ι' (sto (objs.set o .dead++[AObj.row false false true true 1 (R.map eI)])) W' ∧
    (∀k,¬ InB (objs.set o .dead++[AObj.row false false true true 1 (R.map eI)]).length k→ι' k=none)∧(objs.set o .dead++[AObj.row false false true true 1 (R.map eI)]).length≤BIG∧Qa M' ι' v (.ref objs.length 0 (l.length+1)):=by
  rintro q off cap W' rfl rfl hle h
  exact ⟨_,M,ι.put objs.length q,rfl,.refl _ _,Inj.le_put _ hfr,by rw [hsto _ rfl]; exact h,hinb _ (fun k e=>Inj.put_ne _ _ e) _ rfl,hbig' _,.ref _ 0 _ q _ _ (Inj.put_same _ _ _) (by omega) (by omega) (.inl (by omega))⟩
 have putput:∀(σ:Sto) (a b:AObj) (n:Nat),(σ.put n a).put n b=σ.put n b:=fun σ a b n=>by
  funext k; by_cases e:k=n <;> simp [Sto.put,e]
 have zc:∀n,Builtin.zeroCells (Value.int .i64 0).cells n=(List.replicate n (Value.int .i64 0)).toArray:=fun n=>by
  apply Array.ext'
  exact Qnz (Value.int .i64 0) n
 have newrow:∀(W1:World) (rest:List Value) (G:Nat) (ls:List Int) (t:TypeId),Rel P B W0 D M ι (sto objs) W1→ls.length=l.length+1→ls.length+rest.length=G →
   Rel P B W0 D M (ι.put objs.length ⟨W1.heap.size,0,1,G⟩) (((sto objs).put o .dead).put objs.length (.row false false true true 1 (ls.map eI))) (W1.alloc (.cells ((ls.map (Value.int .i64)).toArray++rest.toArray) t)):=by
  intro W1 rest G ls t h hl hg
  refine (h.kill o).allocRow hfr _ t (by omega) (by omega) (by simp; omega) (by simp; omega) (fun y hy=>?_) (fun _=>?_) (fun _ y hy=>?_) (fun a b y z ha hb=>?_)
  ·obtain ⟨n,_,rfl⟩:=List.mem_map.1 hy
   exact ⟨.inr rfl,rfl,by simp [AV.flat,AV.cell]⟩
  ·rw [Q1]; intro y hy
   obtain ⟨n,_,rfl⟩:=List.mem_map.1 hy; rfl
  ·obtain ⟨n,_,rfl⟩:=List.mem_map.1 hy; rfl
  ·rw [List.getElem?_map,Option.map_eq_some_iff] at ha
   obtain ⟨n,hn,rfl⟩:=ha
   cases b with
   | succ b=>simp [AV.flat] at hb
   | zero =>
    simp [AV.flat] at hb; subst hb
    have:=(List.getElem?_eq_some_iff.1 hn).1
    refine ⟨.int .i64 n,?_,.int _ _⟩
    rw [Nat.mul_one,Nat.add_zero,Array.getElem?_append_left (by simpa using this)]
    simp [hn]
 have hlc:l.length≤p.cap:=by have:=hrw.len; simpa using this
 obtain ⟨base,rfl,hbase,hnil⟩:∃base,v0=.slice base l.length p.cap∧(0 < p.cap→base=some ⟨p.blk,p.base,none⟩)∧(base=none→l.length=0):=by
  generalize hn:l.length=n at r0
  cases r0 with
  | ref0 a o q hq hc=>rw [hp] at hq; cases hq; exact ⟨a,by rw [hc],fun h=>by omega,fun _=>rfl⟩
  | ref _ _ _ q off cap hq hi' hcap hoff =>
   rw [hp] at hq; cases hq
   refine ⟨_,by rw [hcap]; rfl,fun h=>?_,fun h=>by cases h⟩
   rcases hoff with h1 | h1
   ·rw [h1]; simp
   ·omega
 by_cases hroom:l.length+1≤p.cap
 ·
  have hbs:=hbase (by omega)
  subst hbs
  have hmv:=hrel.move hσ hp hfr 0 (by omega)
  rw [Nat.zero_mul,Nat.add_zero,Nat.sub_zero,List.drop_zero] at hmv
  have cell:∀j,j < l.length+1→(W.cell? ⟨p.blk,p.base+j,none⟩).isSome=true:=fun j hj=>(hown j (by omega)).1
  have cold:∀j,W.frozen? ⟨p.blk,j,none⟩=false:=(hrel.cool _ _ _ _ _ _ _ 0 hσ hp (by omega)).1
  by_cases hil:i=l.length
  ·subst hil
   refine (Qwl L p.blk p.base l.length p.cap p2.blk p2.base 1 c2 ([x].map (Value.int .i64)) W (by omega) hroom (by omega) rfl (fun j hj=>by rw [Nat.add_assoc]; exact cell _ (by omega)) (fun j _=>cold _) hvs (one _)).mono ?_
   rintro e W' ⟨rfl,rfl⟩
   refine fin ⟨p.blk,p.base,1,p.cap⟩ _ _ _ rfl rfl hroom ?_
   have:=hmv.putI (l':=R) (us:=[x]) (c0:=l.length) (Sto.put_same _ _ _) (Inj.put_same _ _ _) (by simpa using hroom) (by show R.length≤p.cap; omega) (fun k y hk=>⟨fun ⟨h1,h2⟩=>by
    have e:k=l.length:=by simp at h2; omega
    subst e; rw [hRi] at hk; cases hk; simp,fun h=>by
    rcases h with h | h
    ·rw [←hRlo k h]; exact hk
    ·have:=(List.getElem?_eq_some_iff.1 hk).1; simp at h; omega⟩)
   rw [putput] at this
   exact this
  ·refine (Qt3 L p.blk p.base l.length p.cap i p2.blk p2.base 1 c2 (l.map (Value.int .i64)) ([x].map (Value.int .i64)) W (by omega) (by omega) hroom (by omega) hap (by simp) rfl hcs cell (fun j _=>cold _) hvs (one _) (one _) hva).mono ?_
   rintro e W' ⟨rfl,rfl⟩
   refine fin ⟨p.blk,p.base,1,p.cap⟩ _ _ _ rfl rfl hroom ?_
   obtain ⟨R1,hR1⟩:∃R1,R1=l.take (i+1)++l.drop i:=⟨_,rfl⟩
   have hti1:(l.take (i+1)).length=i+1:=by simp; omega
   have hR1l:R1.length=l.length+1:=by rw [hR1]; simp; omega
   have hR1lo:∀k,k < i+1→R1[k]?=l[k]?:=fun k hk=>by rw [hR1,List.getElem?_append_left (by omega),List.getElem?_take,if_pos hk]
   have hR1hi:∀k,i+1≤k→R1[k]?=l[k - 1]?:=fun k hk=>by
    rw [hR1,List.getElem?_append_right (by omega),hti1,List.getElem?_drop,show i+(k - (i+1))=k - 1 by omega]
   have h1:=hmv.drew.putI (l':=R1) (us:=l.drop i) (c0:=i+1) (Sto.put_same _ _ _) (Inj.put_same _ _ _) (by show i+1+_≤p.cap; simp; omega) (by show R1.length≤p.cap; omega) (fun k y hk=>⟨fun ⟨h1,h2⟩=>by
    rw [List.getElem?_drop,show i+(k - (i+1))=k - 1 by omega,←hR1hi k h1]; exact hk,fun h=>by
    rcases h with h | h
    ·rw [←hR1lo k h]; exact hk
    ·have:=(List.getElem?_eq_some_iff.1 hk).1; simp at h; omega⟩)
   rw [putput] at h1
   have h2:=h1.putI (l':=R) (us:=[x]) (c0:=i) (Sto.put_same _ _ _) (Inj.put_same _ _ _) (by show i+1≤p.cap; omega) (by show R.length≤p.cap; omega) (fun k y hk=>⟨fun ⟨h1,h2⟩=>by
    have e:k=i:=by simp at h2; omega
    subst e; rw [hRi] at hk; cases hk; simp,fun h=>by
    rcases h with h | h
    ·rw [hR1lo k (by omega),←hRlo k h]; exact hk
    ·simp at h; rw [hR1hi k (by omega),←hRhi k (by omega)]; exact hk⟩)
   rw [putput,List.map_drop] at h2
   exact h2
 ·by_cases hil:i=l.length
  ·subst hil
   refine (Any2.slices_Insert_int_end_grow L base l.length p.cap p2.blk p2.base 1 c2 (l.map (Value.int .i64)) ([x].map (Value.int .i64)) W (by omega) hlc (by omega) (by omega) (by simp) rfl hnil (fun a ha j v hv=>?_) hvs (one _)).mono ?_
   ·have h0:0 < p.cap:=by
     have:=(List.getElem?_eq_some_iff.1 hv).1
     simp at this; omega
    rw [hbase h0] at ha; cases ha
    rw [Addr.add_lit]; exact hcs j v hv
   ·rintro e W' ⟨rfl,rfl⟩
    have hG:=grownCap_ge W (l.length+1) p.cap (ρ.t 3)
    have:=newrow W.drew (List.replicate (grownCap W (l.length+1) p.cap (ρ.t 3) - (l.length+1)) (Value.int .i64 0)) (grownCap W (l.length+1) p.cap (ρ.t 3)) (l++[x]) (ρ.t 3) hrel.drew (by simp) (by simp; omega)
    have hR':R=l++[x]:=by rw [hR]; simp
    rw [←hR',←zc] at this
    refine fin ⟨W.heap.size,0,1,grownCap W (l.length+1) p.cap (ρ.t 3)⟩ 0 _ _ rfl rfl hG ?_
    rw [←List.map_append,←hR']
    exact this
  ·have hbs:=hbase (by omega)
   subst hbs
   refine (Any2.slices_Insert_int_grow L p.blk p.base l.length p.cap i p2.blk p2.base 1 c2 (l.map (Value.int .i64)) ([x].map (Value.int .i64)) W (by omega) (by omega) hlc (by omega) (by omega) (by simp) rfl hcs hvs (one _) (one _)).mono ?_
   rintro e W' ⟨rfl,rfl⟩
   have hG:=grownCap_ge W (l.length+1) p.cap (ρ.t 3)
   have h0:=newrow W (List.replicate (grownCap W (l.length+1) p.cap (ρ.t 3) - (l.length+1)) (Value.int .i64 0)) (grownCap W (l.length+1) p.cap (ρ.t 3)) (l.take i++List.replicate (l.length+1 - i) 0) (ρ.t 3) hrel (by simp; omega) (by simp; omega)
   rw [←zc] at h0
   have hz:(List.map (Value.int .i64) (l.take i++List.replicate (l.length+1 - i) 0)).toArray=(List.take i (l.map (Value.int .i64))).toArray++Builtin.zeroCells (Value.int .i64 0).cells (l.length+1 - i):=by
    rw [zc,List.map_append,List.map_take,List.map_replicate]; simp
   rw [hz] at h0
   refine fin ⟨W.heap.size,0,1,grownCap W (l.length+1) p.cap (ρ.t 3)⟩ 0 _ _ rfl rfl hG ?_
   have h1:=h0.drew.putI (l':=l.take i++x::List.replicate (l.length - i) 0) (us:=[x]) (c0:=i) (Sto.put_same _ _ _) (Inj.put_same _ _ _) (by show i+1≤grownCap _ _ _ _; omega) (by show List.length _≤grownCap _ _ _ _; simp; omega) (fun k y hk=>⟨fun ⟨h1,h2⟩=>by
    have e:k=i:=by simp at h2; omega
    subst e; rw [List.getElem?_append_right (by omega),hti,Nat.sub_self] at hk; simpa using hk,fun h=>by
    rcases h with h | h
    ·rw [List.getElem?_append_left (by omega)] at hk ⊢; exact hk
    ·simp at h
     rw [List.getElem?_append_right (by omega),hti] at hk ⊢
     obtain ⟨d,rfl⟩:∃d,k=i+1+d:=⟨k - i - 1,by omega⟩
     rw [show i+1+d - i=d+1 by omega] at hk ⊢
     rw [List.getElem?_cons_succ] at hk
     rw [show l.length+1 - i=(l.length - i)+1 by omega,List.replicate_succ,List.getElem?_cons_succ]; exact hk⟩)
   rw [putput] at h1
   have h2:=h1.drew.putI (l':=R) (us:=l.drop i) (c0:=i+1) (Sto.put_same _ _ _) (Inj.put_same _ _ _) (by show i+1+_≤grownCap _ _ _ _; simp; omega) (by show R.length≤grownCap _ _ _ _; omega) (fun k y hk=>⟨fun ⟨h1,h2⟩=>by
    rw [List.getElem?_drop,show i+(k - (i+1))=k - 1 by omega,←hRhi k (by omega)]; exact hk,fun h=>by
    rcases h with h | h
    ·by_cases e:k=i
     ·subst e; rw [hRi] at hk; cases hk; rw [List.getElem?_append_right (by omega),hti,Nat.sub_self]; rfl
     ·rw [List.getElem?_append_left (by omega),List.getElem?_take,if_pos (by omega),←hRlo k (by omega)]; exact hk
    ·have:=(List.getElem?_eq_some_iff.1 hk).1; simp at h; omega⟩)
   rw [putput,List.map_drop] at h2
   simpa using h2
def Qm1 (l:List Int) (n x:Int):Option (List Int):=if 0≤n∧n≤l.length∧l.length < 1099511627776 then some (l.take n.toNat ++ x::l.drop n.toNat) else none
theorem Q2l {P:Program} {rd:Option Nat} {base:Nat} {ops:Array Oper} {st:St} {Φ:AOut→Prop} {i:Nat} {ρ:Ren} {R:Type} {o o2:Nat} {nr fl bx2 nr2 fl2:Bool} {l:List Int} {n x:Int}
  {f:FuncId} {fn:Func} {K:List Int→Option R} {r:R} {S:List Int→St} (L:Lays2.n21 P ρ) (hi:Xh ops i st=some (f,[.ref o 0 l.length,.int .i64 n,.ref o2 0 1])) (hfe:ρ.f 21=f)
  (hrow:st.objs[o]?=some (.row false false nr fl 1 (l.map eI))) (hrow2:st.objs[o2]?=some (.row bx2 false nr2 fl2 1 [eI x])) (hne:Nat.beq o2 o=false) (hb:Nat.ble (st.objs.length+1) BIG=true)
  (hS:∀y,Qkv ops i st (.ref st.objs.length 0 y.length) (st.objs.set o .dead++[.row false false true true 1 (y.map eI)])=some (S y))
  (hf:P.funcs[f]?=some fn) (hbd:fn.body.isSome=true) (hn:(fn.name == "runtime.NumGoroutine")=false)
  (h:(Qm1 l n x).bind K=some r) (kk:∀y,K y=some r→RW P rd base ops none (i+1) (S y) Φ):RW P rd base ops none i st Φ:=by
 unfold Qm1 at h
 split at h
 ·rename_i hc
  obtain ⟨h1,h2,h3⟩:=hc
  obtain ⟨m,rfl⟩:∃m:Nat,n=m:=⟨n.toNat,by omega⟩
  subst hfe
  have hx:=hS (l.take m++x::l.drop m)
  have hl:(l.take m++x::l.drop m).length=l.length+1:=by simp; omega
  rw [hl] at hx
  exact Qzl hi hf hbd hn (Qs9 L hrow hrow2 (Nat.ne_of_beq_eq_false hne) (by omega) h3 (Nat.le_of_ble_eq_true hb)) hx (kk _ h)
 ·cases h
theorem Q2q {P:Program} {R:Type} {Ω:R→AOut→Prop} {cc:Cf} (k:Nat) {ρ:Ren} {o o2:Nat} {nr fl bx2 nr2 fl2:Bool} {l:List Int} {n x:Int} {f:FuncId} {fn:Func} {K:List Int→Option R}
  (S:List Int→St) (L:Lays2.n21 P ρ) (hf:P.funcs[f]?=some fn)
  (kk:∀y,Hl P Ω ((gg P k cc).nx [] (S y)) (K y)) (e:goO P k cc=true:=by kernel_rfl) (hd:(gg P k cc).d.isNone=true:=by kernel_rfl)
  (hi:Xh (gg P k cc).o (gg P k cc).i (gg P k cc).st=some (f,[.ref o 0 l.length,.int .i64 n,.ref o2 0 1]):=by kernel_rfl) (hfe:ρ.f 21=f:=by rfl)
  (hrow:(gg P k cc).st.objs[o]?=some (.row false false nr fl 1 (l.map eI)):=by kernel_rfl) (hrow2:(gg P k cc).st.objs[o2]?=some (.row bx2 false nr2 fl2 1 [eI x]):=by kernel_rfl)
  (hne:Nat.beq o2 o=false:=by kernel_rfl) (hb:Nat.ble ((gg P k cc).st.objs.length+1) BIG=true:=by kernel_rfl)
  (hS:∀y,Qkv (gg P k cc).o (gg P k cc).i (gg P k cc).st (.ref (gg P k cc).st.objs.length 0 y.length) ((gg P k cc).st.objs.set o .dead++[.row false false true true 1 (y.map eI)])=some (S y):=by (intro _; kernel_rfl))
  (hbd:fn.body.isSome=true:=by kernel_rfl) (hn:(fn.name == "runtime.NumGoroutine")=false:=by decide +kernel):Hl P Ω cc ((Qm1 l n x).bind K) :=
 hob k (s:=fun _=>[]) (S:=S) (fun Φ r h q=>by
  have hd':(gg P k cc).d=none:=Option.isNone_iff_eq_none.1 hd
  rw [hd'] at q ⊢
  exact Q2l L hi hfe hrow hrow2 hne hb hS hf hbd hn h q) kk e
end Go.Ab
namespace Go.Ab
open Go.RowKit
def Qc2 (ops:Array Oper):Nat → Array Bool→List Nat → Prop
 | 0,_,l=>l=[]
 | _+1,L,[]=>Region.ready .any ops L=[]
 | n+1,L,i::l=>i∈Region.ready .any ops L∧Qc2 ops n (L.setIfInBounds i true) l
theorem Qsy {ops:Array Oper} {n t:Nat} {L:Array Bool} {acc:List Nat}:Region.linearise.go .any ops (n+1) t L acc=match (Region.ready .any ops L)[t % (Region.ready .any ops L).length]? with
  | some i=>Region.linearise.go .any ops n (t / (Region.ready .any ops L).length) (L.setIfInBounds i true) (i::acc)
  | none=>acc.reverse:=rfl
theorem Qu0 {ops:Array Oper}:∀(n t:Nat) (L:Array Bool),Qc2 ops n L (Region.linearise.go .any ops n t L [])
 | 0,_,_=>rfl
 | n+1,t,L=>by
  rw [Qsy]
  split
  ·rename_i i hi
   rw [linearise_go_acc]
   exact ⟨List.mem_of_getElem? hi,Qu0 n _ _⟩
  ·rename_i hn
   show Region.ready .any ops L=[]
   rcases Nat.eq_zero_or_pos (Region.ready .any ops L).length with h | h
   ·exact List.eq_nil_of_length_eq_zero h
   ·have:=List.getElem?_eq_none_iff.1 hn
    have:=Nat.mod_lt t h
    omega
theorem Qvm {ops:Array Oper}:∀(n:Nat) (L:Array Bool) (l:List Nat),Qc2 ops n L l→∃t,Region.linearise.go .any ops n t L []=l
 | 0,_,_,h=>⟨0,by unfold Qc2 at h; rw [h]; rfl⟩
 | n+1,L,[],h=>⟨0,by
   unfold Qc2 at h
   rw [Qsy,h]; rfl⟩
 | n+1,L,i::l,h=>by
  obtain ⟨h1,h2⟩:=h
  obtain ⟨t,ht⟩:=Qvm n _ _ h2
  obtain ⟨k,hk,e⟩:=List.mem_iff_getElem.1 h1
  refine ⟨k+(Region.ready .any ops L).length*t,?_⟩
  rw [Qsy,Nat.add_mul_mod_self_left,Nat.mod_eq_of_lt hk,List.getElem?_eq_getElem hk,e]
  dsimp only
  rw [Nat.add_mul_div_left _ _ (by omega),Nat.div_eq_of_lt hk,Nat.zero_add,linearise_go_acc,ht]; rfl
def posN:List Nat → Nat → Nat
 | [],_=>0
 | j::l,i=>if Nat.beq j i then 0 else posN l i+1
def mkOp (g:Ground) (ord:List Nat) (q p i:Nat) (o:Oper):Oper:={ o with after:=((o.after.toList.filter (Region.binds .any)).map (fun e=>(⟨posN ord e.on,g⟩:Edge))++if Nat.beq i q then [(⟨posN ord p,g⟩:Edge)] else []).toArray }
def mkO (g:Ground) (ops:Array Oper) (ord:List Nat) (q p:Nat):Array Oper:=(ord.map fun i=>match ops[i]? with | some o=>mkOp g ord q p i o | none=>default).toArray
def Qmw (g:Ground) (ops:Array Oper) (ord:List Nat) (q p:Nat):Bool :=
 Nat.beq ord.length ops.size && Region.binds .any ⟨0,g⟩ && Nat.blt p ops.size && !Nat.beq p q &&
 (List.range ops.size).all (fun i=>(match ord[posN ord i]? with | some j=>Nat.beq j i | none=>false) && (match ops[i]? with | some o=>o.guard.isNone && o.after.toList.all (fun e=>!Region.binds .any e || Nat.blt e.on ops.size) | none=>false) && (match ord[i]? with | some j=>Nat.blt j ops.size && Nat.beq (posN ord j) i | none=>false))
section
variable {g:Ground} {ops:Array Oper} {ord:List Nat} {q p:Nat}
structure Qym (g:Ground) (ops:Array Oper) (ord:List Nat) (q p:Nat):Prop where
 len:ord.length=ops.size
 bind:∀k,Region.binds .any ⟨k,g⟩=true
 hp:p < ops.size
 ne:p≠q
 at1:∀i,i < ops.size→ord[posN ord i]?=some i
 at2:∀k i,ord[k]?=some i→i < ops.size∧posN ord i=k
 guard:∀(i:Nat) (o:Oper),ops[i]?=some o→o.guard=none
 edge:∀(i:Nat) (o:Oper),ops[i]?=some o→∀e∈o.after,Region.binds .any e=true→e.on < ops.size
theorem ordB_spec (h:Qmw g ops ord q p=true):Qym g ops ord q p:=by
 simp only [Qmw,Bool.and_eq_true,List.all_eq_true,List.mem_range] at h
 obtain ⟨⟨⟨⟨h1,h2⟩,h3⟩,h5⟩,h4⟩:=h
 have hl:=Nat.eq_of_beq_eq_true h1
 refine ⟨hl,fun k=>h2,Yc h3,fun e=>(by rw [e,Nat.beq_refl] at h5; cases h5),fun i hi=>?_,fun k i hk=>?_,fun i o ho=>?_,fun i o ho e he hb=>?_⟩
 ·have:=(h4 i hi).1.1
  split at this
  ·rename_i j hj; rw [hj,Nat.eq_of_beq_eq_true this]
  ·cases this
 ·have hk':k < ops.size:=by rw [←hl]; exact (List.getElem?_eq_some_iff.1 hk).1
  have:=(h4 k hk').2
  rw [hk] at this
  simp only [Bool.and_eq_true] at this
  exact ⟨Yc this.1,Nat.eq_of_beq_eq_true this.2⟩
 ·have hi:i < ops.size:=(Array.getElem?_eq_some_iff.1 ho).1
  have:=(h4 i hi).1.2
  rw [ho] at this
  simp only [Bool.and_eq_true] at this
  exact Option.isNone_iff_eq_none.1 this.1
 ·have hi:i < ops.size:=(Array.getElem?_eq_some_iff.1 ho).1
  have:=(h4 i hi).1.2
  rw [ho] at this
  simp only [Bool.and_eq_true,List.all_eq_true] at this
  have:=this.2 e (by simpa using he)
  rw [hb] at this
  exact Yc (by simpa using this)
variable (K:Qym g ops ord q p)
include K
theorem Qld {i:Nat} (hi:i < ops.size):posN ord i < ops.size:=by
 have:=(List.getElem?_eq_some_iff.1 (K.at1 i hi)).1
 rw [←K.len]; exact this
theorem Qzk {i j:Nat} (hi:i < ops.size) (hj:j < ops.size) (h:posN ord i=posN ord j):i=j:=by
 have h1:=K.at1 i hi
 rw [h,K.at1 j hj] at h1
 exact (Option.some.inj h1).symm
theorem Qw8:(mkO g ops ord q p).size=ops.size:=by simp [mkO,K.len]
theorem Qvw {i:Nat} {o:Oper} (ho:ops[i]?=some o):(mkO g ops ord q p)[posN ord i]?=some (mkOp g ord q p i o):=by
 have hi:i < ops.size:=(Array.getElem?_eq_some_iff.1 ho).1
 simp [mkO,K.at1 i hi,ho]
theorem Qy6 {k:Nat} {o':Oper} (ho:(mkO g ops ord q p)[k]?=some o'):∃i o,ops[i]?=some o∧posN ord i=k∧o'=mkOp g ord q p i o:=by
 simp only [mkO,List.getElem?_toArray,List.getElem?_map,Option.map_eq_some_iff] at ho
 obtain ⟨i,hi,e⟩:=ho
 obtain ⟨h1,h2⟩:=K.at2 k i hi
 rw [Array.getElem?_eq_getElem h1] at e
 exact ⟨i,ops[i],Array.getElem?_eq_getElem h1,h2,e.symm⟩
def LR (ops:Array Oper) (ord:List Nat) (L L':Array Bool):Prop:=L.size=ops.size∧L'.size=ops.size∧∀i,i < ops.size→L'.getD (posN ord i) false=L.getD i false
omit K in
theorem Qga {L:Array Bool} {i:Nat} (h:i < L.size) {a b:Bool}:L.getD i a=L.getD i b:=by simp [Array.getD,h]
omit K in
theorem Qsq {i:Nat} {o:Oper} {e':Edge} (h:e'∈(mkOp g ord q p i o).after):(∃e∈o.after,Region.binds .any e=true∧e'.on=posN ord e.on)∨(i=q∧e'.on=posN ord p):=by
 simp only [mkOp,List.mem_toArray,List.mem_append,List.mem_map,List.mem_filter] at h
 rcases h with ⟨e,⟨h1,h2⟩,rfl⟩ | h
 ·exact .inl ⟨e,by simpa using h1,h2,rfl⟩
 ·split at h
  ·rename_i hq
   simp only [List.mem_singleton] at h
   subst h
   exact .inr ⟨Nat.eq_of_beq_eq_true hq,rfl⟩
  ·cases h
theorem Qws {L L':Array Bool} (hL:LR ops ord L L') {i:Nat} (hi:i∈Region.ready .any ops L) (hq:i=q→L.getD p false=true):posN ord i∈Region.ready .any (mkO g ops ord q p) L':=by
 obtain ⟨h1,o,ho,hall⟩:=mem_ready.1 hi
 have hin:i < ops.size:=(Array.getElem?_eq_some_iff.1 ho).1
 refine mem_ready.2 ⟨?_,_,Qvw K ho,fun e' he' hb=>?_⟩
 ·rw [Qga (by rw [hL.2.1]; exact Qld K hin) (b:=false),hL.2.2 i hin,Qga (by rw [hL.1]; exact hin) (b:=true)]; exact h1
 ·rcases Qsq he' with ⟨e,he,hbe,e1⟩ | ⟨e1,e2⟩
  ·rw [e1,hL.2.2 _ (K.edge i o ho e he hbe)]
   exact hall e he hbe
  ·rw [e2,hL.2.2 _ K.hp]; exact hq e1
theorem Qtv {L L':Array Bool} (hL:LR ops ord L L') (h:Region.ready .any ops L=[]):Region.ready .any (mkO g ops ord q p) L'=[]:=by
 refine List.eq_nil_iff_forall_not_mem.2 fun k hk=>?_
 obtain ⟨h1,o',ho',hall⟩:=mem_ready.1 hk
 obtain ⟨i,o,ho,hki,rfl⟩:=Qy6 K ho'
 have hin:i < ops.size:=(Array.getElem?_eq_some_iff.1 ho).1
 have:i∈Region.ready .any ops L:=by
  refine mem_ready.2 ⟨?_,o,ho,fun e he hb=>?_⟩
  ·rw [Qga (by rw [hL.1]; exact hin) (b:=false),←hL.2.2 i hin,hki,Qga (by rw [hL.2.1,←hki]; exact Qld K hin) (b:=true)]; exact h1
  ·rw [←hL.2.2 _ (K.edge i o ho e he hb)]
   refine hall ⟨posN ord e.on,g⟩ ?_ (K.bind _)
   simp only [mkOp,List.mem_toArray,List.mem_append,List.mem_map,List.mem_filter]
   exact .inl ⟨e,⟨by simpa using he,hb⟩,rfl⟩
 rw [h] at this; cases this
theorem Q1s {L L':Array Bool} (hL:LR ops ord L L') {i:Nat} (hi:i < ops.size):LR ops ord (L.setIfInBounds i true) (L'.setIfInBounds (posN ord i) true):=by
 refine ⟨by simp [hL.1],by simp [hL.2.1],fun j hj=>?_⟩
 by_cases e:i=j
 ·subst e
  have h1:=Qld K hi
  simp [Array.getD,hL.1,hL.2.1,hi,h1]
 ·rw [getD_set_ne false e,getD_set_ne false (fun h=>e (Qzk K hi hj h)),hL.2.2 j hj]
def bef (p q:Nat):List Nat → Bool
 | []=>true
 | i::l=>if Nat.beq i p then true else if Nat.beq i q then false else bef p q l
theorem Qr4:∀(n:Nat) (L L':Array Bool) (l:List Nat),LR ops ord L L'→Qc2 ops n L l→(bef p q l=true∨L.getD p false=true)→Qc2 (mkO g ops ord q p) n L' (l.map (posN ord))
 | 0,_,_,l,_,h,_=>by unfold Qc2 at h ⊢; rw [h]; rfl
 | n+1,L,L',[],hL,h,_=>Qtv K hL h
 | n+1,L,L',i::l,hL,h,hb=>by
  obtain ⟨h1,h2⟩:=h
  obtain ⟨_,o,ho,_⟩:=mem_ready.1 h1
  have hin:i < ops.size:=(Array.getElem?_eq_some_iff.1 ho).1
  refine ⟨Qws K hL h1 fun e=>?_,Qr4 n _ _ l (Q1s K hL hin) h2 ?_⟩
  ·rcases hb with hb | hb
   ·unfold bef at hb
    rw [if_neg (fun h=>K.ne ((Nat.eq_of_beq_eq_true h).symm.trans e)),if_pos (by rw [e]; exact Nat.beq_refl q)] at hb
    cases hb
   ·exact hb
  ·by_cases c:i=p
   ·subst c
    right
    simp [Array.getD,hL.1,hin]
   ·rcases hb with hb | hb
    ·unfold bef at hb
     rw [if_neg (fun h=>c (Nat.eq_of_beq_eq_true h))] at hb
     split at hb
     ·cases hb
     ·exact .inl hb
    ·right
     rw [getD_set_ne false c]; exact hb
variable {P:Program} {rd:Option Nat} {base:Nat} {st S:St} {out:AOut} {Φ:AOut→Prop}
theorem Qrx {F:Fence} {n:Nat} {Q:Exit→Act→World→Prop}:∀(l:List Nat) (a:Act) (W:World),(∀i∈l,i < ops.size)→wpOpsIn F n P (mkO g ops ord q p) Q (l.map (posN ord)) a W→wpOpsIn F n P ops Q l a W
 | [],_,_,_,h=>h
 | i::l,a,W,hl,h=>by
  have hin:=hl i (by simp)
  have ho:ops[i]?=some ops[i]:=Array.getElem?_eq_getElem hin
  have hg:=K.guard i _ ho
  simp only [List.map_cons,wpOpsIn,Qvw K ho,ho] at h ⊢
  have hw:∀y,Region.wanted ops[i] y=true:=fun y=>by unfold Region.wanted; rw [hg]
  have hw':∀y,Region.wanted (mkOp g ord q p i ops[i]) y=true:=fun y=>by
   unfold Region.wanted
   show (match ops[i].guard with | none=>true | some (j,want)=>y j==some want)=true
   rw [hg]
  rw [if_pos (hw' _)] at h
  rw [if_pos (hw _)]
  have h':ops[i].wpIn F n P a W (wpOpsIn F n P (mkO g ops ord q p) Q (l.map (posN ord))) Q:=h
  exact Oper.wpIn_mono (fun a' w'=>Qrx l a' w' fun j hj=>hl j (by simp [hj])) h'
omit K in
theorem bef_or:∀{l:List Nat},bef p q l=false→bef q p l=true
 | [],h=>by cases h
 | i::l,h=>by
  unfold bef at h ⊢
  by_cases c:Nat.beq i p=true
  ·rw [if_pos c] at h; cases h
  ·rw [if_neg c] at h
   by_cases c2:Nat.beq i q=true
   ·rw [if_pos c2]
   ·rw [if_neg c2] at h
    rw [if_neg c2,if_neg c]; exact bef_or h
omit K in
theorem Qvk:∀{n:Nat} {L:Array Bool} {l:List Nat},Qc2 ops n L l→∀i∈l,i < ops.size
 | 0,_,l,h,i,hi=>by unfold Qc2 at h; rw [h] at hi; cases hi
 | n+1,L,[],_,i,hi=>by cases hi
 | n+1,L,j::l,h,i,hi=>by
  rcases List.mem_cons.1 hi with rfl | hi
  ·obtain ⟨_,o,ho,_⟩:=mem_ready.1 h.1
   exact (Array.getElem?_eq_some_iff.1 ho).1
  ·exact Qvk h.2 i hi
theorem opsX_two {l:List Nat} (ho:Qc2 ops ops.size (Array.replicate ops.size false) l) (hb:bef p q l=true) (h:∀t,Qab P rd base (mkO g ops ord q p) (Region.linearise .any (mkO g ops ord q p) t) st out):Qab P rd base ops l st out:=by
 have hsz:=Qw8 K
 have hL:LR ops ord (Array.replicate ops.size false) (Array.replicate ops.size false):=⟨by simp,by simp,fun i hi=>by simp [Array.getD,hi,Qld K hi]⟩
 obtain ⟨t,ht⟩:=Qvm _ _ _ (Qr4 K _ _ _ l hL ho (.inl hb))
 have h1:=h t
 unfold Region.linearise at h1
 rw [hsz,ht] at h1
 intro B W0 D0 dl M ι a W n Q r hs hr hp
 exact Qrx K l a W (Qvk ho) (h1 B W0 D0 dl M ι a W n Q r hs hr hp)
end
section
variable {P:Program} {rd:Option Nat} {base:Nat} {st S:St} {Φ:AOut→Prop} {ops:Array Oper}
def Qph (P:Program) (base:Nat) (S:St) (out:AOut):Prop:=∃S',out=.go .normal S'∧Wk P base S' S
theorem Qrw {S':St} {l:List Nat} (hk:Wk P base S' S) (h:Qab P rd base ops l st (.go .normal S')):Qab P rd base ops l st (.go .normal S):=by
 intro B W0 D0 dl M ι a W n Q r hs hr hp
 refine h B W0 D0 dl M ι a W n Q r hs hr ⟨fun e st he dl' M' ι' a' W' g1 g2 g3 g4=>?_,fun v he=>by cases he⟩
 cases he
 obtain ⟨M2,ι2,k1,k2,k3⟩:=hk B W0 D0 dl' M' ι' a' W' g4
 exact hp.go .normal S rfl dl' M2 ι2 a' W' (g1.trans k1) (g2.trans k2) g3 k3
theorem Qza {id:Nat} (p q:Nat) (oa ob:List Nat) (hm:(P.follows .mixedOrders || !Region.departs ops)=true) (hA:Qmw .data ops oa q p=true) (hB:Qmw .data ops ob p q=true)
  (lA:Region.lexB .any (mkO .data ops oa q p)=true) (lB:Region.lexB .any (mkO .data ops ob p q)=true)
  (rA:RW P rd base (mkO .data ops oa q p) (some []) 0 st (Qph P base S)) (rB:RW P rd base (mkO .data ops ob p q) (some []) 0 st (Qph P base S)) (k:Φ (.go .normal S)):WP P rd base (.region id ops true) st Φ:=by
 obtain ⟨fa,sa,ta,a1,ac,a2,a3⟩:=rA
 obtain ⟨fb,sb,tb,b1,bc,b2,b3⟩:=rB
 obtain ⟨_,ea,wa⟩:=a3; obtain ⟨_,eb,wb⟩:=b3
 cases ea; cases eb
 refine ⟨_,?_,k⟩
 intro B W0 D0 dl M ι a W n Q r hs hr hp
 refine wpIn_region_draw (fun t=>?_)
 have hsch:Region.schedule (P.follows .mixedOrders) ops t=Region.linearise .any ops t:=by
  unfold Region.schedule; rw [if_pos hm]
 rw [hsch]
 have ho:Qc2 ops ops.size (Array.replicate ops.size false) (Region.linearise .any ops t):=Qu0 _ _ _
 have hx:Qab P rd base ops (Region.linearise .any ops t) st (.go .normal S):=by
  cases hb:bef p q (Region.linearise .any ops t) with
  | true=>exact Qrw wa <| opsX_two (ordB_spec hA) ho hb fun t'=>Qi2 lA (by simpa using a1) ac (by simpa using a2) t'
  | false=>exact Qrw wb <| opsX_two (ordB_spec hB) ho (bef_or hb) fun t'=>Qi2 lB (by simpa using b1) bc (by simpa using b2) t'
 exact hx B W0 D0 dl M ι a _ n Q r ⟨hs.rel.drew,hs.slots,hs.nt,hs.df,hs.new,hs.big⟩ hr hp
end
theorem Qm6 {κ α:Type} {e:κ→κ→Bool} {n:κ} {w:α} (hn:e n n=true):∀l:List (κ × α),kget e (kput e l n w) n=some w
 | []=>by simp [kput,kget,hn]
 | p::r=>by
  unfold kput
  by_cases c:e n p.1=true
  ·rw [if_pos c]; simp [kget,hn]
  ·rw [if_neg c]; unfold kget; rw [if_neg c]; exact Qm6 hn r
theorem Q0m {P:Program} {rd:Option Nat} {base:Nat} {ops:Array Oper} {d:Option (List Sk)} {st S:St} {Φ:AOut→Prop} {i:Nat} {κ α:Type} {ke:κ→AV} {enc:α→AV} {e:κ→κ→Bool} {l:List (κ × α)} {n:κ} {z w:α} {ob:Nat} {kt:TypeId}
  (hi:Ql3 P ops i st=some (ob,kt,ke n,false,enc z)) (hk:∀a b,Xj P kt (ke a) (ke b)=some (e a b)) (hrow:st.sto ob=some (Vd ke enc (kput e l n w))) (hok:∀v,(enc v).okv=true) (hn:e n n=true)
  (hS:Z1 ops i st (some (enc w)) []=some S) (k:RW P rd base ops (Zd d [([],[ob])]) (i+1) S Φ):RW P rd base ops d i st Φ :=
 Qti hi hk hrow hok (by rw [Qm6 hn]; exact hS) k
def Cf.twOk (P:Program) (p q:Nat) (oa ob:List Nat) (c:Cf):Bool:=match c.pos with
 | .code (.region _ o true)=>P.follows .mixedOrders && Qmw .data o oa q p && Qmw .data o ob p q && Region.lexB .any (mkO .data o oa q p) && Region.lexB .any (mkO .data o ob p q)
 | _=>false
def Cf.twA (oa:List Nat) (q p:Nat) (c:Cf):Cf:=match c.pos with | .code (.region _ o true)=>⟨.ops (mkO .data o oa q p) (some []) 0,[],c.st,c.rd,c.base⟩ | _=>c
def Cf.twK (S:St) (c:Cf):Cf:=⟨.out .normal,c.fr,S,c.rd,c.base⟩
noncomputable def goT (P:Program) (n p q:Nat) (oa ob:List Nat) (c:Cf):Bool:=match go P n c with | some c=>c.twOk P p q oa ob | none=>false
noncomputable def goZ (P:Program) (n:Nat) (c:Cf):Bool:=match go P n c with | some ⟨.out .normal,[],_,_,_⟩=>true | _=>false
attribute [local semireducible] Gl Hl Phi go gg
section
variable {P:Program} {R:Type} {Ω:R→AOut→Prop} {c:Cf} {D:Option R}
theorem htz (n:Nat) {b:Nat} {S:St} (w:Wk P b (gg P n c).st S) (e:goZ P n c=true:=by kernel_rfl):Hl P (fun (_:Unit)=>Qph P b S) c (some ()):=fun r h=>by
 unfold goZ at e
 split at e
 ·rename_i S' rd' b' hc
  refine Qej (n:=n) (by rw [hc]; rfl) ?_
  have hg:gg P n c=⟨.out .normal,[],S',rd',b'⟩:=by unfold gg; rw [hc]
  rw [hg] at w ⊢
  exact ⟨S',rfl,w⟩
 ·cases e
theorem htw (n p q:Nat) (oa ob:List Nat) (S:St) (a:Hl P (fun (_:Unit)=>Qph P (gg P n c).base S) ((gg P n c).twA oa q p) (some ())) (b:Hl P (fun (_:Unit)=>Qph P (gg P n c).base S) ((gg P n c).twA ob p q) (some ()))
  (k:Hl P Ω ((gg P n c).twK S) D) (e:goT P n p q oa ob c=true:=by kernel_rfl):Hl P Ω c D:=fun r h=>by
 unfold goT at e
 split at e
 ·rename_i c1 hc
  refine Qej (n:=n) (by rw [hc]; rfl) ?_
  have hg:gg P n c=c1:=by unfold gg; rw [hc]
  have k':=k r h
  have a':=a () rfl
  have b':=b () rfl
  rw [hg] at a' b' k' ⊢
  obtain ⟨pos,fr,st,rd,bs⟩:=c1
  unfold Cf.twOk at e
  simp only at e
  split at e
  ·simp only [Bool.and_eq_true] at e
   obtain ⟨⟨⟨⟨e1,e2⟩,e3⟩,e4⟩,e5⟩:=e
   exact Qza p q oa ob (by rw [e1]; rfl) e2 e3 e4 e5 a' b' k'
  ·cases e
 ·cases e
end
attribute [irreducible] goT goZ Cf.twA Cf.twK Cf.twOk
end Go.Ab
