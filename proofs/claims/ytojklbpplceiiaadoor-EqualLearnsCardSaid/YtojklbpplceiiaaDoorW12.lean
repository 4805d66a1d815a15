/- Functions. No conditions. -/
import Derived.Test.YtojklbpplceiiaaDoorProg
import Derived.Shelf.SlSortCmp.NoneTotal
import Derived.Test.YtojklbpplceiiaaDoorEng7
import Derived.IntWalk
import Derived.Test.YtojklbpplceiiaaDoorW11
import Derived.Test.YtojklbpplceiiaaDoorEng10
import Derived.KernelRfl
set_option maxRecDepth 100000
set_option maxHeartbeats 4000000
set_option linter.all false
namespace Go.Ab
open Go Go.Shelf Go.Proofs
def Qxw:Go.Shelf.Ren:=⟨fun | 6=>58 | 15=>77 | 14=>76 | 28=>91 | 29=>92 | 20=>83 | 21=>84 | 22=>85 | 23=>86 | 24=>87 | 25=>88 | 26=>89 | 27=>90 | 46=>95 | 47=>96 | 48=>97 | 49=>98 | 50=>99 | 57=>102 | n=>n,fun | 22=>56 | 24=>28 | 25=>60 | 3=>3 | 39=>47 | 0=>0 | 53=>144 | 55=>146 | 4=>4 | 46=>137 | 45=>136 | 50=>141 | 5=>5 | 9=>9 | 66=>154 | 70=>158 | 76=>161 | 77=>162 | n=>n,fun | n=>n⟩
theorem Q6w:Go.Proofs.SlLaysF.n6 Tryd.prog Qxw:={
 mixed:=by kernel_rfl,
 f6:=⟨Tryd.f58.name,by decide,Tryd.func58.trans (congrArg some (by kernel_rfl))⟩,
 f14:=⟨Tryd.f76.name,by decide,Tryd.func76.trans (congrArg some (by kernel_rfl))⟩,
 f15:=Tryd.func77.trans (congrArg some (by kernel_rfl)),
 f20:=⟨Tryd.f83.name,by decide,Tryd.func83.trans (congrArg some (by kernel_rfl))⟩,
 f21:=⟨Tryd.f84.name,by decide,Tryd.func84.trans (congrArg some (by kernel_rfl))⟩,
 f22:=⟨Tryd.f85.name,by decide,Tryd.func85.trans (congrArg some (by kernel_rfl))⟩,
 f23:=⟨Tryd.f86.name,by decide,Tryd.func86.trans (congrArg some (by kernel_rfl))⟩,
 f24:=⟨Tryd.f87.name,by decide,Tryd.func87.trans (congrArg some (by kernel_rfl))⟩,
 f25:=⟨Tryd.f88.name,by decide,Tryd.func88.trans (congrArg some (by kernel_rfl))⟩,
 f26:=⟨Tryd.f89.name,by decide,Tryd.func89.trans (congrArg some (by kernel_rfl))⟩,
 f27:=⟨Tryd.f90.name,by decide,Tryd.func90.trans (congrArg some (by kernel_rfl))⟩,
 f28:=Tryd.func91.trans (congrArg some (by kernel_rfl)),
 f29:=Tryd.func92.trans (congrArg some (by kernel_rfl)),
 f46:=⟨Tryd.f95.name,by decide,Tryd.func95.trans (congrArg some (by kernel_rfl))⟩,
 f47:=Tryd.func96.trans (congrArg some (by kernel_rfl)),
 f48:=Tryd.func97.trans (congrArg some (by kernel_rfl)),
 f49:=⟨Tryd.f98.name,by decide,Tryd.func98.trans (congrArg some (by kernel_rfl))⟩,
 f50:=⟨Tryd.f99.name,by decide,Tryd.func99.trans (congrArg some (by kernel_rfl))⟩,
 f57:=⟨Tryd.f102.name,by decide,Tryd.func102.trans (congrArg some (by kernel_rfl))⟩,
 t0:=Tryd.underlying0,
 a0:=Tryd.isAgg0,
 z0:=Tryd.sizeOf0,
 v0:=Tryd.zeroValue0,
 t3:=Tryd.underlying3,
 a3:=Tryd.isAgg3,
 z3:=Tryd.sizeOf3,
 v3:=Tryd.zeroValue3,
 t4:=Tryd.underlying4,
 a4:=Tryd.isAgg4,
 z4:=Tryd.sizeOf4,
 v4:=Tryd.zeroValue4,
 t5:=Tryd.underlying5,
 a5:=Tryd.isAgg5,
 z5:=Tryd.sizeOf5,
 v5:=Tryd.zeroValue5,
 t9:=Tryd.underlying9,
 a9:=Tryd.isAgg9,
 z9:=Tryd.sizeOf9,
 v9:=Tryd.zeroValue9,
 t22:=Tryd.underlying56,
 a22:=Tryd.isAgg56,
 z22:=Tryd.sizeOf56,
 v22:=Tryd.zeroValue56,
 a24:=Tryd.isAgg28,
 z24:=Tryd.sizeOf28,
 t25:=Tryd.underlying60,
 a25:=Tryd.isAgg60,
 z25:=Tryd.sizeOf60,
 v25:=Tryd.zeroValue60,
 t39:=Tryd.underlying47,
 a39:=Tryd.isAgg47,
 z39:=Tryd.sizeOf47,
 v39:=Tryd.zeroValue47,
 t45:=Tryd.underlying136,
 a45:=Tryd.isAgg136,
 z45:=Tryd.sizeOf136,
 v45:=Tryd.zeroValue136,
 t46:=Tryd.underlying137,
 a46:=Tryd.isAgg137,
 z46:=Tryd.sizeOf137,
 v46:=Tryd.zeroValue137,
 t50:=Tryd.underlying141,
 a50:=Tryd.isAgg141,
 z50:=Tryd.sizeOf141,
 v50:=Tryd.zeroValue141,
 t53:=Tryd.underlying144,
 a53:=Tryd.isAgg144,
 z53:=Tryd.sizeOf144,
 v53:=Tryd.zeroValue144,
 t55:=Tryd.underlying146,
 a55:=Tryd.isAgg146,
 z55:=Tryd.sizeOf146,
 v55:=Tryd.zeroValue146,
 t66:=Tryd.underlying154,
 a66:=Tryd.isAgg154,
 z66:=Tryd.sizeOf154,
 v66:=Tryd.zeroValue154,
 t70:=Tryd.underlying158,
 a70:=Tryd.isAgg158,
 z70:=Tryd.sizeOf158,
 v70:=Tryd.zeroValue158,
 t76:=Tryd.underlying161,
 a76:=Tryd.isAgg161,
 z76:=Tryd.sizeOf161,
 v76:=Tryd.zeroValue161,
 t77:=Tryd.underlying162,
 a77:=Tryd.isAgg162,
 z77:=Tryd.sizeOf162,
 v77:=Tryd.zeroValue162 }
end Go.Ab
namespace Go.Ab
open Go
theorem w64 {n:Int} (h:-9223372036854775808<=n/\n<=9223372036854775807):zw n=n:=by show IntKind.wrap .i64 n=n; rw [IntKind.wrap_i64]; omega
theorem Qs {α:Type} {l:List α} {k:Nat} (h:k < l.length):lkI l (k:Int)=some l[k]:=by
 unfold lkI
 rw [aJ (by omega),aS,aG h]
theorem Q2u {a b:Int} (h:0<=a):Int.tmod a b=a % b:=Int.tmod_eq_emod_of_nonneg h
end Go.Ab
namespace Go.Ab
open Go
theorem Q26 (a b:Int):Kt a b=some (if a < b then -1 else if b < a then 1 else 0):=by
 unfold Kt Qav
 simp only [bne_self_eq_false,aC,aV,eT]
 by_cases h1:a < b
 ·simp [h1]
 by_cases h2:b < a
 ·simp [h1,h2]
 simp [h1,h2]
def cmpL:List Int->List Int->Int
 | [],[]=>0
 | [],_::_=>-1
 | _::_,[]=>1
 | a::x,b::y=>if a < b then -1 else if b < a then 1 else cmpL x y
theorem Qvr (p q:List Int) (hp:p.length < 64):∀(j n k:Nat),k+j=p.length->k<=q.length->j < n ->
  ∃r,Qa n (Z4 p q) (k:Int)=some r/\(match r with | .inl x=>some x | .inr _=>if (decide ((p.length:Int) < (q.length:Int)))=true then some (-1) else some 0)=some (cmpL (p.drop k) (q.drop k)):=by
 intro j
 induction j with
 | zero =>
  intro n k h1 h2 h3
  obtain ⟨n,rfl⟩:∃m,n=m+1:=⟨n - 1,by omega⟩
  refine ⟨.inr (),?_,?_⟩
  ·unfold Qa Z4
   rw [aJ (by simp; omega)]
  have e:p.drop k=[]:=List.drop_eq_nil_of_le (by omega)
  rw [e]
  by_cases h:k < q.length
  ·have:q.drop k=q[k]::q.drop (k+1):=eR h
   rw [this]
   simp only [cmpL]
   rw [aH (by simp; omega)]
  have:q.drop k=[]:=List.drop_eq_nil_of_le (by omega)
  rw [this]
  simp only [cmpL]
  rw [aJ (by simp; omega)]
 | succ j ih =>
  intro n k h1 h2 h3
  obtain ⟨n,rfl⟩:∃m,n=m+1:=⟨n - 1,by omega⟩
  have hk:k < p.length:=by omega
  have e:p.drop k=p[k]::p.drop (k+1):=eR hk
  unfold Qa
  by_cases h:k < q.length
  ·have e2:q.drop k=q[k]::q.drop (k+1):=eR h
   rw [e,e2]
   simp only [cmpL]
   unfold Z4
   rw [aH (by simp; omega),Qs hk,aC,aJ (by simp; omega),Qs h,aC,Q26,aC]
   by_cases h4:p[k] < q[k]
   ·refine ⟨.inl (-1),?_,?_⟩
    ·simp [h4]
    simp [h4]
   by_cases h5:q[k] < p[k]
   ·refine ⟨.inl 1,?_,?_⟩
    ·simp [h4,h5]
    simp [h4,h5]
   obtain ⟨r,h6,h7⟩:=ih n (k+1) (by omega) (by omega) (by omega)
   refine ⟨r,?_,?_⟩
   ·simp only [h4,h5,eT,bne_self_eq_false,aV]
    rw [w64 (by omega)]
    exact h6
   rw [h7]; simp [h4,h5]
  have e2:q.drop k=[]:=List.drop_eq_nil_of_le (by omega)
  rw [e,e2]
  unfold Z4
  rw [aH (by simp; omega),Qs hk,aC,aH (by simp; omega)]
  exact ⟨_,rfl,by simp [cmpL]⟩
theorem Q1t (p q:List Int) (hp:Qs6 p=true):Yu p q=some (cmpL p q):=by
 unfold Qs6 at hp
 have hp:p.length < 64:=by have:=bT hp; omega
 unfold Yu
 obtain ⟨r,h1,h2⟩:=Qvr p q hp p.length fuel 0 (by omega) (by omega) (by unfold fuel; omega)
 rw [show (0:Int)=((0:Nat):Int) from rfl,h1,aC]
 rw [List.drop_zero,List.drop_zero] at h2
 cases r <;> exact h2
theorem Qxd:∀(x y:List Int),cmpL x y < 0↔leL y x=false
 | [],[]=>by simp [cmpL,leL]
 | [],_::_=>by simp [cmpL,leL]
 | _::_,[]=>by simp [cmpL,leL]
 | a::x,b::y=>by
  have:=Qxd x y
  simp only [cmpL,leL]
  by_cases h1:a < b
  ·simp [h1]; omega
  by_cases h2:b < a
  ·simp [h1,h2]
  have e:b=a:=by omega
  simp [e,this]
theorem Qfr:∀(x y z:List Int),leL x y=true->leL y z=true->leL x z=true
 | [],_,_=>by simp [leL]
 | _::_,[],_=>by simp [leL]
 | _::_,_::_,[]=>by simp [leL]
 | a::x,b::y,c::z=>by
  have:=Qfr x y z
  simp only [leL,aN,aE,aO,dL]
  rintro (h1 | ⟨h1,h2⟩) (h3 | ⟨h3,h4⟩)
  ·left; omega
  ·left; omega
  ·left; omega
  right; exact ⟨by omega,this h2 h4⟩
theorem Qhu:∀(x y:List Int),(leL x y || leL y x)=true
 | [],_=>by simp [leL]
 | _::_,[]=>by simp [leL]
 | a::x,b::y=>by
  have:=Qhu x y
  simp only [leL,aN,aE,aO,dL] at *
  by_cases h1:a < b
  ·exact .inl (.inl h1)
  by_cases h2:b < a
  ·exact .inr (.inl h2)
  rcases this with h | h
  ·exact .inl (.inr ⟨by omega,h⟩)
  exact .inr (.inr ⟨by omega,h⟩)
theorem Qod:∀(x y:List Int),leL x y=true->leL y x=true->x=y
 | [],[]=>by simp
 | [],_::_=>by simp [leL]
 | _::_,[]=>by simp [leL]
 | a::x,b::y=>by
  have:=Qod x y
  simp only [leL,aN,aE,aO,dL]
  rintro (h1 | ⟨h1,h2⟩) (h3 | ⟨h3,h4⟩)
  ·omega
  ·omega
  ·omega
  rw [h1,this h2 h4]
theorem Q5k:Qsu Qs6 Yu leL where
 tot x y hx _:=⟨_,Q1t x y hx,Qxd x y⟩
 trans:=Qfr
 total:=Qhu
 anti:=Qod
end Go.Ab
namespace Go.Ab
open Go Go.Proofs
section
attribute [local irreducible] RW WP
theorem g_equal_acyclic_ok (p0:(List Int)):Ct Tryd.prog 53 [eL true (AV.int .u64) p0] (Jl p0) (fun x=>vB x) (fun x=>[]):=by
 refine hfn [] Tryd.func53 <| hop 3 (fun _=>Qn (enc:=(AV.int .u64)) (l:=p0) (fl:=true) kr gE) <| hlp 1 (fun s1=>⟨[(0,eL true (AV.int .u64) p0),(3,.int .u64 s1.1),(7,vI (zn p0)),(8,vI s1.2)],[],33⟩) (fun v=>(.exit 0,⟨[(0,eL true (AV.int .u64) p0),(3,.int .u64 v)],[],33⟩)) (wz []) (fun s1=>?_) fun x14=>?_
 ·refine hbr 1 [9] (?_) ?_
  ·refine hop 2 (fun _=>Qn (enc:=(AV.int .u64)) (l:=p0) (fl:=true) kr gE) <| hlp 1 (fun s4=>⟨[(0,eL true (AV.int .u64) p0),(3,.int .u64 s4.1),(7,vI (zn p0)),(8,vI s1.2),(10,eL true (AV.int .u64) p0),(11,vI (zn p0)),(12,vI s4.2)],[],33⟩) (fun v=>(.exit 2,⟨[(0,eL true (AV.int .u64) p0),(3,.int .u64 v),(7,vI (zn p0)),(8,vI s1.2)],[],33⟩)) (wz []) (fun s4=>?_) fun x12=>?_
   ·refine hbr 1 [13] (?_) ?_
    ·refine hbd fun a7 q8=>hop 2 (fun _=>Q2 (enc:=(AV.int .u64)) (l:=p0) (n:=s4.2) (fl:=true) (w:=1) (a:=a7) kr kr gE q8) <| hbr 7 [20] (hoh 3 (fun _ _ h k=>Zu (k:=.u64) (k':=.i64) (a:=1) (b:=s4.2) kr gE h k) <| hnx 4 (wz [])) <| ?_
     refine hnx 3 (wz [])
    refine hdx 1 (wz [])
   refine hnx 2 (wz [])
  refine hdx 1 (wz [])
 refine hop 2 (fun _=>Qn (enc:=(AV.int .u64)) (l:=p0) (fl:=true) kr gE) <| hoh 0 (fun _ _ h k=>Zu (k:=.u64) (k':=.i64) (a:=1) (b:=(zn p0)) kr gE h k) <| hrt 4
theorem g_equal_Check_ok (p0:(List Int)):Ct Tryd.prog 19 [eL true (AV.int .u64) p0] (Xl p0) (fun x=>vI x) (fun x=>[]):=by
 refine hfn [] Tryd.func19 <| hop 2 (fun _=>Qn (enc:=(AV.int .u64)) (l:=p0) (fl:=true) kr gE) <| hbr 2 [5,6] (hrt 12) <| ?_
 refine hop 1 (fun _=>Qn (enc:=(AV.int .u64)) (l:=p0) (fl:=true) kr gE) <| hbr 3 [9,10,11] (hrt 7) <| ?_
 refine hcl 1 [] (g_equal_acyclic_ok p0) fun x5 _=>hbr 2 [14,15] (hrt 3) <| ?_
 refine hrt 3
noncomputable abbrev o3_1:AObj:=oX true false 2 (.agg [.nils,.nils])
noncomputable abbrev o3_2 (p0 x22:(List Int)):AObj:=oX false false 2 (.agg [eL true (AV.int .u64) p0,.ref 2 0 x22.length])
noncomputable abbrev Qyi (p0:(List Int)):List (Nat×AV):=[(0,eL true (AV.int .u64) p0),(2,.ptr 0 0 0),(4,.ptr 1 0 0)]
theorem g_separate_read_ok (p0:(List Int)):Ct Tryd.prog 80 [eL true (AV.int .u64) p0] (Qbk p0) (fun x=>.tup [.agg [eL true (AV.int .u64) x.1.ancestry.parents,eL true (AV.int .u64) x.1.children],vI x.2]) (fun x=>[]):=by
 refine hfn [[.lst true,.lst true],[.keep]] Tryd.func80 <| hop 0 (fun _=>sgL false [] [] false gE) <| hop 2 (fun _=>Qn (enc:=(AV.int .u64)) (l:=p0) (fl:=true) kr gE) <| hbr 2 [13,14] (hrt 9) <| ?_
 refine hop 1 (fun _=>Qn (enc:=(AV.int .u64)) (l:=p0) (fl:=true) kr gE) <| hbr 2 [17,18] (hrt 5) <| ?_
 refine hop 4 (fun _=>Qn (enc:=(AV.int .u64)) (l:=p0) (fl:=true) kr gE) <| hoh 0 (fun _ _ h k=>mkL (enc:=(AV.int .u64)) (z:=(0:Int)) (z0:=.int .u64 0) (n:=(zn p0)) (m:=(zn p0)) (w:=1) (bytes:=8) [] true kr kr gE kr h k) <| hop 1 (fun _=>sgL false [] [] false gE) <| hop 4 (fun _=>Qn (enc:=(AV.int .u64)) (l:=p0) (fl:=true) kr gE) <| hlp 1 (fun s5=>⟨(Qyi p0)++[(28,eL true (AV.int .u64) p0),(29,vI (zn p0)),(30,vI s5.1)],[o3_1,oX false false 2 (.agg [eL true (AV.int .u64) p0,.ref 2 0 s5.2.length]),oR true 1 (AV.int .u64) s5.2],95⟩) (fun x=>match x with | .inl v=>(.ret,⟨[(2,.ptr 0 0 0),(3,vI 70)],[o3_1],95⟩) | .inr v=>(.exit 0,⟨[(2,.ptr 0 0 0),(4,.ptr 1 0 0)],[o3_1,oX false false 2 (.agg [eL true (AV.int .u64) p0,.ref 2 0 v.length]),oR true 1 (AV.int .u64) v],95⟩)) (wz [0,2,1]) (fun s5=>?_) (hsm (fun x21=>?_) (fun x22=>?_))
 ·refine hbr 1 [31] (?_) ?_
  ·refine hbd fun a8 q9=>hop 2 (fun _=>Q2 (enc:=(AV.int .u64)) (l:=p0) (n:=s5.1) (fl:=true) (w:=1) (a:=a8) kr kr gE q9) <| hop 5 (fun _=>Qn (enc:=(AV.int .u64)) (l:=p0) (fl:=true) kr gE) <| hoh 0 (fun _ _ h k=>Xm (k:=.u64) (k':=.i64) (a:=a8) (b:=(zn p0)) kr gE h k) <| hbr 1 [39] (hdx 4 (wz [0])) <| ?_
   refine hop 2 (fun _=>Qn (enc:=(AV.int .u64)) (l:=p0) (fl:=true) kr gE) <| hlp 1 (fun s12=>⟨(Qyi p0)++[(5,vI s5.1),(6,.int .u64 a8),(28,eL true (AV.int .u64) p0),(29,vI (zn p0)),(30,vI s5.1),(42,vI (zn p0)),(43,vI s12.1)],[o3_1,oX false false 2 (.agg [eL true (AV.int .u64) p0,.ref 2 0 s12.2.length]),oR true 1 (AV.int .u64) s12.2],95⟩) (fun v=>(.exit 2,⟨(Qyi p0)++[(28,eL true (AV.int .u64) p0),(29,vI (zn p0)),(30,vI s5.1)],[o3_1,oX false false 2 (.agg [eL true (AV.int .u64) p0,.ref 2 0 v.length]),oR true 1 (AV.int .u64) v],95⟩)) (wz [0,1,2]) (fun s12=>?_) fun x19=>?_
   ·refine hbr 1 [44] (?_) ?_
    ·refine hbd fun a15 q16=>hop 7 (fun _=>Qq (enc:=(AV.int .u64)) (l:=s12.2) (n:=s12.1) (w:=1) (ob:=2) (ro:=false) (nr:=true) (fl:=true) (a:=a15) kr kr gE q16) <| hop 0 (fun _=>Zn (enc:=(AV.int .u64)) (l:=s12.2) (n:=s12.1) (w:=1) (ob:=2) (c:=0) (bx:=false) (ro:=false) (nr:=true) (fl:=true) (a:=a15) kr kr q16 gE) <| hoh 2 (fun _ _ h k=>Xm (k:=.u64) (k':=.i64) (a:=a8) (b:=s12.1) kr gE h k) <| hoh 2 (fun _ _ h k=>Zu (k:=.u64) (k':=.i64) (a:=zv (zb (Int.fdiv a8 (2^min (zt s12.1) zk)) &&& zb 1).toNat) (b:=s5.1) kr gE h k) <| hop 1 (fun _=>Qq (enc:=(AV.int .u64)) (l:=s12.2) (n:=s12.1) (w:=1) (ob:=2) (ro:=false) (nr:=true) (fl:=true) (a:=a15) kr kr gE q16) <| hop 0 (fun _=>Xd (enc:=(AV.int .u64)) (l:=s12.2) (n:=s12.1) (ob:=2) (w:=1) (bx:=false) (nr:=true) (fl:=true) (c:=0) (a:=a15) (a':=zv (zb a15 ||| zb (zv ((zv (zb (Int.fdiv a8 (2^min (zt s12.1) zk)) &&& zb 1).toNat)*2^min (zt s5.1) zk))).toNat) (v:=.int .u64 (zv (zb a15 ||| zb (zv ((zv (zb (Int.fdiv a8 (2^min (zt s12.1) zk)) &&& zb 1).toNat)*2^min (zt s5.1) zk))).toNat)) false kr kr q16 kr kr kr gE kr) <| hkn 0 (fun n17=>⟨(Qyi p0)++[(5,vI s5.1),(6,.int .u64 a8),(28,eL true (AV.int .u64) p0),(29,vI (zn p0)),(30,vI s5.1),(42,vI (zn p0)),(43,vI s12.1),(44,vB true),(45,vI s12.1),(7,vI s12.1),(46,.ptr 1 0 1),(47,.ref 2 0 n17),(48,vI s12.1),(49,.ptr 2 (zt s12.1) 0),(50,.int .u64 a15),(51,.int .u64 a8),(52,vI s12.1),(53,.int .u64 (Int.fdiv a8 (2^min (zt s12.1) zk))),(54,.int .u64 (zv (zb (Int.fdiv a8 (2^min (zt s12.1) zk)) &&& zb 1).toNat)),(55,vI s5.1),(56,.int .u64 (zv ((zv (zb (Int.fdiv a8 (2^min (zt s12.1) zk)) &&& zb 1).toNat)*2^min (zt s5.1) zk))),(57,.int .u64 (zv (zb a15 ||| zb (zv ((zv (zb (Int.fdiv a8 (2^min (zt s12.1) zk)) &&& zb 1).toNat)*2^min (zt s5.1) zk))).toNat)),(58,.ptr 2 (zt s12.1) 0)],[o3_1,oX false false 2 (.agg [eL true (AV.int .u64) p0,.ref 2 0 n17]),oR true 1 (AV.int .u64) (List.set s12.2 (zt s12.1) (zv (zb a15 ||| zb (zv ((zv (zb (Int.fdiv a8 (2^min (zt s12.1) zk)) &&& zb 1).toNat)*2^min (zt s5.1) zk))).toNat))],95⟩) (ls s12.2 (zt s12.1) (zv (zb a15 ||| zb (zv ((zv (zb (Int.fdiv a8 (2^min (zt s12.1) zk)) &&& zb 1).toNat)*2^min (zt s5.1) zk))).toNat)) <| hnx 2 (wz [0,1,2])
    refine hdx 1 (wz [0,1,2])
   refine hnx 2 (wz [0,1,2])
  refine hdx 1 (wz [0,1,2])
 ·refine hrt 0
 refine hop 4 (fun _=>Qn (enc:=(AV.int .u64)) (l:=p0) (fl:=true) kr gE) <| hlp 1 (fun s23=>⟨[(2,.ptr 0 0 0),(4,.ptr 1 0 0),(8,.int .u64 s23.1),(64,vI (zn p0)),(65,vI s23.2)],[o3_1,(o3_2 p0 x22),oR true 1 (AV.int .u64) x22],95⟩) (fun x=>match x with | .inl v=>(.ret,⟨[(2,.ptr 0 0 0),(3,vI 70)],[o3_1],95⟩) | .inr v=>(.exit 4,⟨[(2,.ptr 0 0 0),(4,.ptr 1 0 0)],[o3_1,(o3_2 p0 x22),oR true 1 (AV.int .u64) x22],95⟩)) (wz [0,1,2]) (fun s23=>?_) (hsm (fun x39=>?_) (fun x40=>?_))
 ·refine hbr 1 [66] (?_) ?_
  ·refine hop 4 (fun _=>Qn (enc:=(AV.int .u64)) (l:=p0) (fl:=true) kr gE) <| hlp 1 (fun s26=>⟨[(2,.ptr 0 0 0),(4,.ptr 1 0 0),(8,.int .u64 s23.1),(64,vI (zn p0)),(65,vI s23.2),(69,eL true (AV.int .u64) p0),(70,vI (zn p0)),(71,vI s26)],[o3_1,(o3_2 p0 x22),oR true 1 (AV.int .u64) x22],95⟩) (fun x=>match x with | .inl v=>(.exit 5,⟨[(2,.ptr 0 0 0),(4,.ptr 1 0 0),(8,.int .u64 v),(64,vI (zn p0)),(65,vI s23.2)],[o3_1,(o3_2 p0 x22),oR true 1 (AV.int .u64) x22],95⟩) | .inr v=>(.exit 6,⟨[(2,.ptr 0 0 0)],[o3_1],95⟩)) (wz [0,1,2]) (fun s26=>?_) (hsm (fun x36=>?_) (fun x37=>?_))
   ·refine hbr 1 [72] (?_) ?_
    ·refine hbd fun a29 q30=>hop 2 (fun _=>Q2 (enc:=(AV.int .u64)) (l:=p0) (n:=s26) (fl:=true) (w:=1) (a:=a29) kr kr gE q30) <| hoh 5 (fun _ _ h k=>Xm (k:=.u64) (k':=.i64) (a:=s23.1) (b:=s26) kr gE h k) <| hbr 3 [80,81] (?_) ?_
     ·refine hbr 5 [85,86] (hoh 3 (fun _ _ h k=>Zu (k:=.u64) (k':=.i64) (a:=1) (b:=s26) kr gE h k) <| hdx 2 (wz [0,1,2])) <| ?_
      refine hnx 3 (wz [0,1,2])
     refine hnx 8 (wz [0,1,2])
    refine hdx 1 (wz [0])
   ·refine hnx 2 (wz [0,1,2])
   refine hdx 3 (wz [0])
  refine hdx 1 (wz [0,1,2])
 ·refine hrt 0
 refine hwk 3 (wl [2,3] [0,2]) <| hwk 0 (won 0 0 [F (AV.int .u64) x22]) <| hrt 1
theorem g_separate_graph_disjoint_ok (p0:Qw) (p1:(List Int)):Ct Tryd.prog 81 [.agg [eL true (AV.int .u64) p0.ancestry.parents,eL true (AV.int .u64) p0.children],eL true (AV.int .u64) p1] (Y3 p0 p1) (fun x=>vB x) (fun x=>[]):=by
 refine hfn [] Tryd.func81 <| hop 0 (fun _=>sgL false [] [] false gE) <| hop 3 (fun _=>Qn (enc:=(AV.int .u64)) (l:=p1) (fl:=true) kr gE) <| hlp 1 (fun s1=>⟨[(2,.ptr 0 0 0),(5,.int .u64 s1.1),(8,eL true (AV.int .u64) p1),(9,vI (zn p1)),(10,vI s1.2)],[oX true false 2 (.agg [eL true (AV.int .u64) p0.ancestry.parents,eL true (AV.int .u64) p0.children])],31⟩) (fun x=>match x with | .inl v=>(.ret,⟨[(4,vB false)],[],31⟩) | .inr v=>(.exit 0,⟨[],[],31⟩)) (wz [0]) (fun s1=>?_) (hsm (fun x11=>?_) (fun x12=>?_))
 ·refine hbr 1 [11] (?_) ?_
  ·refine hbd fun a4 q5=>hop 1 (fun _=>Q2 (enc:=(AV.int .u64)) (l:=p1) (n:=s1.2) (fl:=true) (w:=1) (a:=a4) kr kr gE q5) <| hop 6 (fun _=>Qn (enc:=(AV.int .u64)) (l:=p0.ancestry.parents) (fl:=true) kr gE) <| hoh 0 (fun _ _ h k=>Xm (k:=.u64) (k':=.i64) (a:=a4) (b:=(zn p0.ancestry.parents)) kr gE h k) <| hbr 2 [20,21] (hdx 7 (wz [])) <| ?_
   refine hbr 5 [25,26] (hdx 2 (wz [])) <| ?_
   refine hnx 7 (wz [0])
  refine hdx 1 (wz [])
 ·refine hrt 0
 refine hrt 2
theorem g_math_bits_TrailingZeros64_ok (p0:Int):Ct Tryd.prog 104 [.int .u64 p0] (Qai p0) (fun x=>vI x) (fun x=>[]):=by
 refine hfn [] Tryd.func104 <| hbr 3 [4] (hrt 3) <| ?_
 refine hbd fun a3 q4=>Q8y 7 (fun _=>Q81 (l:=tab1) (n:=Int.fdiv (zv ((zv (zb p0 &&& zb (zv (0 - p0))).toNat)*285870213051353865)) (2^min (zt 58) zk)) (a:=a3) (kk:=.u8) (len:=64) (cells:=List.map (AV.int .u8) tab1) kr kr kr q4 gE kr gE) <| hrt 3
theorem Zk (p0:Int):Ct Tryd.prog 101 [.int .u64 p0] (Qu p0) (fun x=>vI x) (fun x=>[]):=by
 refine hfn [] Tryd.func101 <| hcl 3 [] (g_math_bits_TrailingZeros64_ok p0) fun x1 _=>hrt 2
noncomputable abbrev Qor (p0:Qw):AObj:=oX true false 2 (.agg [eL true (AV.int .u64) p0.ancestry.parents,eL true (AV.int .u64) p0.children])
noncomputable abbrev Qot (p2:Int):AObj:=oX true true 1 (.int .u64 p2)
noncomputable abbrev Q1f:AObj:=oX false false 1 (.fn (.func 93) [] [.ptr 3 0 0,.ptr 4 0 0,.ptr 0 0 0,.ptr 5 0 0,.ptr 1 0 0,.ptr 6 0 0])
noncomputable abbrev Q1z (p1:Int):AObj:=oX true true 1 (.int .u64 p1)
noncomputable abbrev Q3h:AObj:=oX false false 1 (.mp 7)
noncomputable abbrev Q2t (x14:Int):AObj:=oX true true 1 (.int .u64 x14)
noncomputable abbrev Q3v:AObj:=.loop 50 [(10,.ptr 0 0 0),(12,.ptr 1 0 0),(43,.fn (.func 100) [] [.ptr 2 0 0])] [44] (cA Tryd.f82 [true,true,true,true,true,true,false,true,true]) (cB Tryd.f82 [true,true,true,true,true,true,false,true,true]) .ready none
noncomputable abbrev Q75:AObj:=.loop 50 [(10,.ptr 0 0 0),(12,.ptr 1 0 0),(43,.fn (.func 100) [] [.ptr 2 0 0])] [44] (cA Tryd.f82 [true,true,true,true,true,true,false,true,true]) (cB Tryd.f82 [true,true,true,true,true,true,false,true,true]) .busy none
noncomputable abbrev Q3x:AObj:=.loop 74 [(2,.ptr 4 0 0),(4,.ptr 5 0 0),(5,.ptr 1 0 0),(6,.ptr 6 0 0),(7,.ptr 9 0 0),(32,.fn (.func 100) [] [.ptr 10 0 0])] [33] (cA Tryd.f93 [true,true,true,false,true,false,true,true,true]) (cB Tryd.f93 [true,true,true,false,true,false,true,true,true]) .ready none
noncomputable abbrev Qhv:AObj:=.loop 74 [(5,.ptr 1 0 0),(68,.fn (.func 100) [] [.ptr 9 0 0])] [69] (cA Tryd.f93 [true,true,true,true,true,true,true]) (cB Tryd.f93 [true,true,true,true,true,true,true]) .ready none
noncomputable abbrev Qbp (a0 a1:AObj) (p1 p2:Int) (p0:Qw) (x14:Int):List AObj:=[a0,Q1f,(Q1z p1),Q3h,(Qot p2),(Qor p0),(Q2t x14),a1,Q75]
noncomputable abbrev Qsw (p1:Int):List (Nat×AV):=[(1,.int .u64 p1),(3,.ptr 0 0 0),(5,.ptr 1 0 0),(7,.ptr 2 0 0)]
theorem Qgg (p0:Qw) (p1:Int) (p2:Int):Ct Tryd.prog 82 [.agg [eL true (AV.int .u64) p0.ancestry.parents,eL true (AV.int .u64) p0.children],.int .u64 p1,.int .u64 p2] (V1 p0 p1 p2) (fun x=>.int .u64 x) (fun x=>[]):=by
 refine hfn [] Tryd.func82 <| hop 0 (fun _=>sgL false [] [] false gE) <| hop 8 (fun _=>Qn (enc:=(AV.int .u64)) (l:=p0.ancestry.parents) (fl:=true) kr gE) <| hlp 1 (fun s1=>⟨(Qsw p1)++[(18,vI (zn p0.ancestry.parents)),(19,vI s1.1)],[(Qor p0),(Qot p2),oX true true 1 (.int .u64 s1.2)],50⟩) (fun v=>(.exit 0,⟨(Qsw p1),[(Qor p0),(Qot p2),oX true true 1 (.int .u64 v)],50⟩)) (wz [0,1,2]) (fun s1=>?_) fun x14=>?_
 ·refine hbr 1 [20] (?_) ?_
  ·refine hop 4 (fun _=>Qn (enc:=(AV.int .u64)) (l:=p0.ancestry.parents) (fl:=true) kr gE) <| hlp 1 (fun s4=>⟨(Qsw p1)++[(18,vI (zn p0.ancestry.parents)),(19,vI s1.1),(23,eL true (AV.int .u64) p0.ancestry.parents),(24,vI (zn p0.ancestry.parents)),(25,vI s4.1)],[(Qor p0),(Qot p2),oX true true 1 (.int .u64 s4.2)],50⟩) (fun v=>(.exit 2,⟨(Qsw p1)++[(18,vI (zn p0.ancestry.parents)),(19,vI s1.1)],[(Qor p0),(Qot p2),oX true true 1 (.int .u64 v)],50⟩)) (wz [0,1,2]) (fun s4=>?_) fun x12=>?_
   ·refine hbr 1 [26] (?_) ?_
    ·refine hbd fun a7 q8=>hop 2 (fun _=>Q2 (enc:=(AV.int .u64)) (l:=p0.ancestry.parents) (n:=s4.1) (fl:=true) (w:=1) (a:=a7) kr kr gE q8) <| hoh 5 (fun _ _ h k=>Xm (k:=.u64) (k':=.i64) (a:=s4.2) (b:=s4.1) kr gE h k) <| hbr 2 [34] (hnx 7 (wz [0,1,2])) <| ?_
     refine hnx 3 (wz [0,1,2])
    refine hdx 1 (wz [0,1,2])
   refine hnx 2 (wz [0,1,2])
  refine hdx 1 (wz [0,1,2])
 refine hop 2 (fun _=>sgL false [] [] false gE) <| hop 2 (fun _=>sgL false [] [] false gE) <| hil 3 Tryd.func94 <| hwk 4 (wk_gcK (live:=[2]) (keep:=[7]) 3 Ag AV.bool [] (fun f a=>rfl) (fun f a=>rfl) kr gE) <| hwk 1 (wk_gcK (live:=[10,12,43]) (keep:=[4,6,7,5,1,0,2,3]) 3 Ag AV.bool [] (fun f a=>rfl) (fun f a=>rfl) kr gE) <| hrg 0 Tryd.func100 <| hlp 2 (fun s15=>⟨[(0,.yld 8),(3,.int .u64 s15.1)],[oX true true 1 (.int .u64 s15.2.1),Q1f,(Q1z p1),Q3h,(Qot p2),(Qor p0),(Q2t x14),mapK Ag AV.bool s15.2.2,Q3v],16⟩) (fun v=>(.exit 0,⟨[],[oX true true 1 (.int .u64 v.1),Q1f,(Q1z p1),Q3h,(Qot p2),(Qor p0),(Q2t x14),mapK Ag AV.bool v.2,Q3v],16⟩)) (wk_gcK (live:=[0,3]) (keep:=[]) 7 Ag AV.bool [] (fun f a=>rfl) (fun f a=>rfl) kr kr) (fun s15=>?_) fun x92=>?_
 ·refine hbr 2 [6] (?_) ?_
  ·refine hcl 3 [] (Zk s15.1) fun x18 _=>hyl 0 <| hrc 4 9 (fun s20=>⟨[(0,.agg [vI s20.1,vB s20.2.1]),(1,.ptr 3 0 0),(2,.ptr 4 0 0),(3,.ptr 0 0 0),(4,.ptr 5 0 0),(5,.ptr 1 0 0),(6,.ptr 6 0 0)],(Qbp (oX true true 1 (.int .u64 s20.2.2.1)) (mapK Ag AV.bool s20.2.2.2) p1 p2 p0 x14),74⟩) (fun v=>⟨[],(Qbp (oX true true 1 (.int .u64 v.1)) (mapK Ag AV.bool v.2) p1 p2 p0 x14),74⟩) Tryd.func93 (fun r21 i22 s20=>?_) fun x89=>?_
   ·refine hop 3 (fun _=>Qs5 (ob:=7) (kt:=150) (c:=false) (ke:=Ag) (enc:=AV.bool) (e:=Ai) (l:=s20.2.2.2) (n:=(Af.mk s20.1 s20.2.1)) (z:=false) kr (fun _ _=>by kernel_rfl) kr (fun _=>rfl) gE) <| hbr 0 [12] (?_) ?_
    ·refine hwk 1 (wk_gcK (live:=[]) (keep:=[]) 7 Ag AV.bool s20.2.2.2 (fun f a=>rfl) (fun f a=>rfl) kr gE) <| hre 1 (wk_gcK (live:=[]) (keep:=[]) 7 Ag AV.bool s20.2.2.2 (fun f a=>rfl) (fun f a=>rfl) kr kr)
    refine hop 3 (fun _=>Xn (ob:=7) (kt:=150) (ke:=Ag) (enc:=AV.bool) (e:=Ai) (l:=s20.2.2.2) (n:=(Af.mk s20.1 s20.2.1)) (v:=true) kr (fun _ _=>by kernel_rfl) kr gE kr) <| hoh 3 (fun _ _ h k=>Xm (k:=.u64) (k':=.i64) (a:=p2) (b:=s20.1) kr gE h k) <| hbr 2 [20] (?_) ?_
    ·refine hoh 5 (fun _ _ h k=>Zu (k:=.u64) (k':=.i64) (a:=1) (b:=s20.1) kr gE h k) <| hbd fun a27 q28=>hop 6 (fun _=>Q2 (enc:=(AV.int .u64)) (l:=p0.children) (n:=s20.1) (fl:=true) (w:=1) (a:=a27) kr kr gE q28) <| hil 1 Tryd.func94 <| hwk 4 (wk_gcK (live:=[2]) (keep:=[10]) 7 Ag AV.bool (kput Ai s20.2.2.2 (Af.mk s20.1 s20.2.1) true) (fun f a=>rfl) (fun f a=>rfl) kr gE) <| hwk 1 (wk_gcK (live:=[2,4,5,6,7,32]) (keep:=[9,10]) 7 Ag AV.bool (kput Ai s20.2.2.2 (Af.mk s20.1 s20.2.1) true) (fun f a=>rfl) (fun f a=>rfl) kr gE) <| hrg 0 Tryd.func100 <| hlp 2 (fun s29=>⟨[(0,.yld 11),(3,.int .u64 s29.1)],(Qbp (oX true true 1 (.int .u64 s29.2.1)) (mapK Ag AV.bool s29.2.2) p1 p2 p0 x14)++[oX true true 2 (.agg [vI s20.1,vB s20.2.1]),oX true true 1 (.int .u64 a27),Q3x],16⟩) (fun v=>(.exit 0,⟨[],(Qbp (oX true true 1 (.int .u64 v.1)) (mapK Ag AV.bool v.2) p1 p2 p0 x14)++[oX true true 2 (.agg [vI s20.1,vB s20.2.1]),oX true true 1 (.int .u64 a27),Q3x],16⟩)) (wk_gcK (live:=[0,3]) (keep:=[]) 7 Ag AV.bool (kput Ai s20.2.2.2 (Af.mk s20.1 s20.2.1) true) (fun f a=>rfl) (fun f a=>rfl) kr kr) (fun s29=>?_) fun x36=>?_
     ·refine hbr 2 [6] (?_) ?_
      ·refine hcl 3 [] (Zk s29.1) fun x32 _=>hyl 0 <| hri 4 9 (fun v=>[(0,oX true true 1 (.int .u64 v.1)),(7,mapK Ag AV.bool v.2)]) [0,7] Tryd.func93 (Qa4 7 Ag AV.bool s29.2.2 kr (fun _=>rfl) (fun _=>rfl) kr) (fun v=>Qa4 7 Ag AV.bool v.2 kr (fun _=>rfl) (fun _=>rfl) kr) i22 fun x34=>hnx 7 (wk_gcK (live:=[0,3]) (keep:=[]) 7 Ag AV.bool x34.2 (fun f a=>rfl) (fun f a=>rfl) kr kr)
      refine hdx 1 (wk_gcK (live:=[]) (keep:=[]) 7 Ag AV.bool s29.2.2 (fun f a=>rfl) (fun f a=>rfl) kr kr)
     refine hbt 3 (fun b37=>⟨[(2,.ptr 4 0 0),(4,.ptr 5 0 0),(5,.ptr 1 0 0),(6,.ptr 6 0 0),(7,.ptr 9 0 0),(32,.fn (.func 100) [] [.ptr 10 0 0]),(38,.ptr 9 0 1),(39,vB b37),(40,vB b37)],(Qbp (oX true true 1 (.int .u64 x36.1)) (mapK Ag AV.bool x36.2) p1 p2 p0 x14)++[oX true true 2 (.agg [vI s20.1,vB b37]),oX true true 1 (.int .u64 a27),.dead],74⟩) (fun _=>?_) (fun _=>?_)
     ·refine hoh 3 (fun _ _ h k=>Xm (k:=.u64) (k':=.i64) (a:=x14) (b:=s20.1) kr gE h k) <| hbr 4 [46,47,48] (?_) ?_
      ·refine hwk 13 (wk_gcK (live:=[]) (keep:=[]) 7 Ag AV.bool x36.2 (fun f a=>rfl) (fun f a=>rfl) kr gE) <| hre 1 (wk_gcK (live:=[]) (keep:=[]) 7 Ag AV.bool x36.2 (fun f a=>rfl) (fun f a=>rfl) kr kr)
      refine hbd fun a41 q42=>hop 18 (fun _=>Q2 (enc:=(AV.int .u64)) (l:=p0.ancestry.parents) (n:=s20.1) (fl:=true) (w:=1) (a:=a41) kr kr gE q42) <| hil 1 Tryd.func94 <| hwk 4 (wk_gcK (live:=[2]) (keep:=[12]) 7 Ag AV.bool x36.2 (fun f a=>rfl) (fun f a=>rfl) kr gE) <| hwk 1 (wk_gcK (live:=[5,68]) (keep:=[12]) 7 Ag AV.bool x36.2 (fun f a=>rfl) (fun f a=>rfl) kr gE) <| hrg 0 Tryd.func100 <| hlp 2 (fun s43=>⟨[(0,.yld 10),(3,.int .u64 s43.1)],(Qbp (oX true true 1 (.int .u64 s43.2.1)) (mapK Ag AV.bool s43.2.2) p1 p2 p0 x14)++[oX true true 1 (.int .u64 a41),Qhv],16⟩) (fun v=>(.exit 0,⟨[],(Qbp (oX true true 1 (.int .u64 v.1)) (mapK Ag AV.bool v.2) p1 p2 p0 x14)++[oX true true 1 (.int .u64 a41),Qhv],16⟩)) (wk_gcK (live:=[0,3]) (keep:=[]) 7 Ag AV.bool x36.2 (fun f a=>rfl) (fun f a=>rfl) kr kr) (fun s43=>?_) fun x50=>?_
      ·refine hbr 2 [6] (?_) ?_
       ·refine hcl 3 [] (Zk s43.1) fun x46 _=>hyl 0 <| hri 4 9 (fun v=>[(0,oX true true 1 (.int .u64 v.1)),(7,mapK Ag AV.bool v.2)]) [0,7] Tryd.func93 (Qa4 7 Ag AV.bool s43.2.2 kr (fun _=>rfl) (fun _=>rfl) kr) (fun v=>Qa4 7 Ag AV.bool v.2 kr (fun _=>rfl) (fun _=>rfl) kr) i22 fun x48=>hnx 7 (wk_gcK (live:=[0,3]) (keep:=[]) 7 Ag AV.bool x48.2 (fun f a=>rfl) (fun f a=>rfl) kr kr)
       refine hdx 1 (wk_gcK (live:=[]) (keep:=[]) 7 Ag AV.bool s43.2.2 (fun f a=>rfl) (fun f a=>rfl) kr kr)
      refine hre 0 (wk_gcK (live:=[]) (keep:=[]) 7 Ag AV.bool x50.2 (fun f a=>rfl) (fun f a=>rfl) kr kr)
     refine hoh 15 (fun _ _ h k=>Xm (k:=.u64) (k':=.i64) (a:=p2) (b:=s20.1) kr gE h k) <| hbr 4 [58,59,60] (?_) ?_
     ·refine hwk 1 (wk_gcK (live:=[]) (keep:=[]) 7 Ag AV.bool x36.2 (fun f a=>rfl) (fun f a=>rfl) kr gE) <| hre 1 (wk_gcK (live:=[]) (keep:=[]) 7 Ag AV.bool x36.2 (fun f a=>rfl) (fun f a=>rfl) kr kr)
     refine hbd fun a53 q54=>hop 6 (fun _=>Q2 (enc:=(AV.int .u64)) (l:=p0.ancestry.parents) (n:=s20.1) (fl:=true) (w:=1) (a:=a53) kr kr gE q54) <| hil 1 Tryd.func94 <| hwk 4 (wk_gcK (live:=[2]) (keep:=[12]) 7 Ag AV.bool x36.2 (fun f a=>rfl) (fun f a=>rfl) kr gE) <| hwk 1 (wk_gcK (live:=[5,68]) (keep:=[12]) 7 Ag AV.bool x36.2 (fun f a=>rfl) (fun f a=>rfl) kr gE) <| hrg 0 Tryd.func100 <| hlp 2 (fun s55=>⟨[(0,.yld 10),(3,.int .u64 s55.1)],(Qbp (oX true true 1 (.int .u64 s55.2.1)) (mapK Ag AV.bool s55.2.2) p1 p2 p0 x14)++[oX true true 1 (.int .u64 a53),Qhv],16⟩) (fun v=>(.exit 0,⟨[],(Qbp (oX true true 1 (.int .u64 v.1)) (mapK Ag AV.bool v.2) p1 p2 p0 x14)++[oX true true 1 (.int .u64 a53),Qhv],16⟩)) (wk_gcK (live:=[0,3]) (keep:=[]) 7 Ag AV.bool x36.2 (fun f a=>rfl) (fun f a=>rfl) kr kr) (fun s55=>?_) fun x62=>?_
     ·refine hbr 2 [6] (?_) ?_
      ·refine hcl 3 [] (Zk s55.1) fun x58 _=>hyl 0 <| hri 4 9 (fun v=>[(0,oX true true 1 (.int .u64 v.1)),(7,mapK Ag AV.bool v.2)]) [0,7] Tryd.func93 (Qa4 7 Ag AV.bool s55.2.2 kr (fun _=>rfl) (fun _=>rfl) kr) (fun v=>Qa4 7 Ag AV.bool v.2 kr (fun _=>rfl) (fun _=>rfl) kr) i22 fun x60=>hnx 7 (wk_gcK (live:=[0,3]) (keep:=[]) 7 Ag AV.bool x60.2 (fun f a=>rfl) (fun f a=>rfl) kr kr)
      refine hdx 1 (wk_gcK (live:=[]) (keep:=[]) 7 Ag AV.bool s55.2.2 (fun f a=>rfl) (fun f a=>rfl) kr kr)
     refine hre 0 (wk_gcK (live:=[]) (keep:=[]) 7 Ag AV.bool x62.2 (fun f a=>rfl) (fun f a=>rfl) kr kr)
    refine hbt 4 (fun b63=>⟨[(0,.agg [vI s20.1,vB b63]),(1,.ptr 3 0 0),(2,.ptr 4 0 0),(3,.ptr 0 0 0),(4,.ptr 5 0 0),(5,.ptr 1 0 0),(6,.ptr 6 0 0),(7,.ptr 9 0 0),(10,.mp 7),(11,.agg [vI s20.1,vB b63]),(12,vB false),(13,.mp 7),(14,.agg [vI s20.1,vB b63]),(15,.int .u64 p2),(16,.ptr 9 0 0),(17,vI s20.1),(18,.int .u64 (Int.fdiv p2 (2^min (zt s20.1) zk))),(19,.int .u64 (zv (zb (Int.fdiv p2 (2^min (zt s20.1) zk)) &&& zb 1).toNat)),(20,vB false),(38,.ptr 9 0 1),(39,vB b63),(40,vB b63)],(Qbp (oX true true 1 (.int .u64 s20.2.2.1)) (mapK Ag AV.bool (kput Ai s20.2.2.2 (Af.mk s20.1 s20.2.1) true)) p1 p2 p0 x14)++[oX true true 2 (.agg [vI s20.1,vB b63])],74⟩) (fun _=>?_) (fun _=>?_)
    ·refine hoh 3 (fun _ _ h k=>Xm (k:=.u64) (k':=.i64) (a:=x14) (b:=s20.1) kr gE h k) <| hbr 4 [46,47,48] (?_) ?_
     ·refine hwk 13 (wk_gcK (live:=[]) (keep:=[]) 7 Ag AV.bool (kput Ai s20.2.2.2 (Af.mk s20.1 s20.2.1) true) (fun f a=>rfl) (fun f a=>rfl) kr gE) <| hre 1 (wk_gcK (live:=[]) (keep:=[]) 7 Ag AV.bool (kput Ai s20.2.2.2 (Af.mk s20.1 s20.2.1) true) (fun f a=>rfl) (fun f a=>rfl) kr kr)
     refine hbd fun a67 q68=>hop 18 (fun _=>Q2 (enc:=(AV.int .u64)) (l:=p0.ancestry.parents) (n:=s20.1) (fl:=true) (w:=1) (a:=a67) kr kr gE q68) <| hil 1 Tryd.func94 <| hwk 4 (wk_gcK (live:=[2]) (keep:=[10]) 7 Ag AV.bool (kput Ai s20.2.2.2 (Af.mk s20.1 s20.2.1) true) (fun f a=>rfl) (fun f a=>rfl) kr gE) <| hwk 1 (wk_gcK (live:=[5,68]) (keep:=[10]) 7 Ag AV.bool (kput Ai s20.2.2.2 (Af.mk s20.1 s20.2.1) true) (fun f a=>rfl) (fun f a=>rfl) kr gE) <| hrg 0 Tryd.func100 <| hlp 2 (fun s69=>⟨[(0,.yld 10),(3,.int .u64 s69.1)],(Qbp (oX true true 1 (.int .u64 s69.2.1)) (mapK Ag AV.bool s69.2.2) p1 p2 p0 x14)++[oX true true 1 (.int .u64 a67),Qhv],16⟩) (fun v=>(.exit 0,⟨[],(Qbp (oX true true 1 (.int .u64 v.1)) (mapK Ag AV.bool v.2) p1 p2 p0 x14)++[oX true true 1 (.int .u64 a67),Qhv],16⟩)) (wk_gcK (live:=[0,3]) (keep:=[]) 7 Ag AV.bool (kput Ai s20.2.2.2 (Af.mk s20.1 s20.2.1) true) (fun f a=>rfl) (fun f a=>rfl) kr kr) (fun s69=>?_) fun x76=>?_
     ·refine hbr 2 [6] (?_) ?_
      ·refine hcl 3 [] (Zk s69.1) fun x72 _=>hyl 0 <| hri 4 9 (fun v=>[(0,oX true true 1 (.int .u64 v.1)),(7,mapK Ag AV.bool v.2)]) [0,7] Tryd.func93 (Qa4 7 Ag AV.bool s69.2.2 kr (fun _=>rfl) (fun _=>rfl) kr) (fun v=>Qa4 7 Ag AV.bool v.2 kr (fun _=>rfl) (fun _=>rfl) kr) i22 fun x74=>hnx 7 (wk_gcK (live:=[0,3]) (keep:=[]) 7 Ag AV.bool x74.2 (fun f a=>rfl) (fun f a=>rfl) kr kr)
      refine hdx 1 (wk_gcK (live:=[]) (keep:=[]) 7 Ag AV.bool s69.2.2 (fun f a=>rfl) (fun f a=>rfl) kr kr)
     refine hre 0 (wk_gcK (live:=[]) (keep:=[]) 7 Ag AV.bool x76.2 (fun f a=>rfl) (fun f a=>rfl) kr kr)
    refine hoh 15 (fun _ _ h k=>Xm (k:=.u64) (k':=.i64) (a:=p2) (b:=s20.1) kr gE h k) <| hbr 4 [58,59,60] (?_) ?_
    ·refine hwk 1 (wk_gcK (live:=[]) (keep:=[]) 7 Ag AV.bool (kput Ai s20.2.2.2 (Af.mk s20.1 s20.2.1) true) (fun f a=>rfl) (fun f a=>rfl) kr gE) <| hre 1 (wk_gcK (live:=[]) (keep:=[]) 7 Ag AV.bool (kput Ai s20.2.2.2 (Af.mk s20.1 s20.2.1) true) (fun f a=>rfl) (fun f a=>rfl) kr kr)
    refine hbd fun a79 q80=>hop 6 (fun _=>Q2 (enc:=(AV.int .u64)) (l:=p0.ancestry.parents) (n:=s20.1) (fl:=true) (w:=1) (a:=a79) kr kr gE q80) <| hil 1 Tryd.func94 <| hwk 4 (wk_gcK (live:=[2]) (keep:=[10]) 7 Ag AV.bool (kput Ai s20.2.2.2 (Af.mk s20.1 s20.2.1) true) (fun f a=>rfl) (fun f a=>rfl) kr gE) <| hwk 1 (wk_gcK (live:=[5,68]) (keep:=[10]) 7 Ag AV.bool (kput Ai s20.2.2.2 (Af.mk s20.1 s20.2.1) true) (fun f a=>rfl) (fun f a=>rfl) kr gE) <| hrg 0 Tryd.func100 <| hlp 2 (fun s81=>⟨[(0,.yld 10),(3,.int .u64 s81.1)],(Qbp (oX true true 1 (.int .u64 s81.2.1)) (mapK Ag AV.bool s81.2.2) p1 p2 p0 x14)++[oX true true 1 (.int .u64 a79),Qhv],16⟩) (fun v=>(.exit 0,⟨[],(Qbp (oX true true 1 (.int .u64 v.1)) (mapK Ag AV.bool v.2) p1 p2 p0 x14)++[oX true true 1 (.int .u64 a79),Qhv],16⟩)) (wk_gcK (live:=[0,3]) (keep:=[]) 7 Ag AV.bool (kput Ai s20.2.2.2 (Af.mk s20.1 s20.2.1) true) (fun f a=>rfl) (fun f a=>rfl) kr kr) (fun s81=>?_) fun x88=>?_
    ·refine hbr 2 [6] (?_) ?_
     ·refine hcl 3 [] (Zk s81.1) fun x84 _=>hyl 0 <| hri 4 9 (fun v=>[(0,oX true true 1 (.int .u64 v.1)),(7,mapK Ag AV.bool v.2)]) [0,7] Tryd.func93 (Qa4 7 Ag AV.bool s81.2.2 kr (fun _=>rfl) (fun _=>rfl) kr) (fun v=>Qa4 7 Ag AV.bool v.2 kr (fun _=>rfl) (fun _=>rfl) kr) i22 fun x86=>hnx 7 (wk_gcK (live:=[0,3]) (keep:=[]) 7 Ag AV.bool x86.2 (fun f a=>rfl) (fun f a=>rfl) kr kr)
     refine hdx 1 (wk_gcK (live:=[]) (keep:=[]) 7 Ag AV.bool s81.2.2 (fun f a=>rfl) (fun f a=>rfl) kr kr)
    refine hre 0 (wk_gcK (live:=[]) (keep:=[]) 7 Ag AV.bool x88.2 (fun f a=>rfl) (fun f a=>rfl) kr kr)
   refine hnx 7 (wk_gcK (live:=[0,3]) (keep:=[]) 7 Ag AV.bool x89.2 (fun f a=>rfl) (fun f a=>rfl) kr kr)
  refine hdx 1 (wk_gcK (live:=[]) (keep:=[]) 7 Ag AV.bool s15.2.2 (fun f a=>rfl) (fun f a=>rfl) kr kr)
 refine hrt 3
theorem g_separate_Apart_ok (p0:(List Int)) (p1:Int) (p2:Int) (p3:Int):Ct Tryd.prog 68 [eL true (AV.int .u64) p0,.int .u64 p1,.int .u64 p2,.int .u64 p3] (Qan p0 p1 p2 p3) (fun x=>.tup [vB x.1,vI x.2]) (fun x=>[]):=by
 refine hfn [] Tryd.func68 <| hcl 3 [] (g_separate_read_ok p0) fun x1 _=>hop 3 (fun _=>sgL false [] [] false gE) <| hbr 4 [18] (hrt 5) <| ?_
 refine hop 5 (fun _=>sgL false [] [] true gE) <| hcl 0 [] (g_separate_graph_disjoint_ok x1.1 [p1,p2,p3]) fun x5 _=>hbr 1 [26] (hrt 4) <| ?_
 refine hcl 4 [] (Qgg x1.1 p1 p3) fun x9 _=>hrt 6
theorem g_equal_factsOf_ok (p0:(List Int)):Ct Tryd.prog 49 [eL true (AV.int .u64) p0] (Kw p0) (fun x=>.tup [.ref 0 0 x.1.length,vI x.2]) (fun x=>[oR true 3 eTapi_Fact x.1]):=by
 refine hfn [] Tryd.func49 <| hop 5 (fun _=>Qn (enc:=(AV.int .u64)) (l:=p0) (fl:=true) kr gE) <| hlp 1 (fun s1=>⟨[(0,eL true (AV.int .u64) p0),(4,.ref 0 0 s1.2.length),(12,vI (zn p0)),(13,vI s1.1)],[oR true 3 eTapi_Fact s1.2],63⟩) (fun x=>match x with | .inl v=>(.ret,⟨[(2,.ref 0 0 0),(3,vI v)],[.row false false true true 3 []],63⟩) | .inr v=>(.exit 0,⟨[(4,.ref 0 0 v.length)],[oR true 3 eTapi_Fact v],63⟩)) (wk_trans (wk_gc (live:=[0,4,12,13]) (keep:=[]) gE) (wk_trans (wk_nil 4 3 true true gE) (wk_gc (live:=[0,4,12,13]) (keep:=[0]) kr))) (fun s1=>?_) (hsm (fun x25=>?_) (fun x26=>?_))
 ·refine hbr 1 [14] (?_) ?_
  ·refine hlp 6 (fun s4=>⟨[(0,eL true (AV.int .u64) p0),(4,.ref 0 0 s4.2.length),(5,vI s1.1),(6,vI s4.1),(12,vI (zn p0)),(13,vI s1.1)],[oR true 3 eTapi_Fact s4.2],63⟩) (fun x=>match x with | .inl v=>(.ret,⟨[(2,.ref 0 0 0),(3,vI v)],[.row false false true true 3 []],63⟩) | .inr v=>(.exit 2,⟨[(0,eL true (AV.int .u64) p0),(4,.ref 0 0 v.length),(12,vI (zn p0)),(13,vI s1.1)],[oR true 3 eTapi_Fact v],63⟩)) (wz [0]) (fun s4=>?_) (hsm (fun x22=>?_) (fun x23=>?_))
   ·refine hop 2 (fun _=>Qn (enc:=(AV.int .u64)) (l:=p0) (fl:=true) kr gE) <| hbr 1 [21] (?_) ?_
    ·refine hop 2 (fun _=>Qn (enc:=(AV.int .u64)) (l:=p0) (fl:=true) kr gE) <| hoh 0 (fun _ _ h k=>Zu (k:=.u64) (k':=.i64) (a:=1) (b:=(zn p0)) kr gE h k) <| hlp 1 (fun s7=>⟨[(0,eL true (AV.int .u64) p0),(4,.ref 0 0 s7.2.length),(5,vI s1.1),(6,vI s4.1),(12,vI (zn p0)),(13,vI s1.1),(26,.int .u64 (zv (1*2^min (zt (zn p0)) zk))),(27,.int .u64 s7.1)],[oR true 3 eTapi_Fact s7.2],63⟩) (fun x=>match x with | .inl v=>(.ret,⟨[(2,.ref 0 0 0),(3,vI v)],[.row false false true true 3 []],63⟩) | .inr v=>(.exit 4,⟨[(0,eL true (AV.int .u64) p0),(4,.ref 0 0 v.length),(5,vI s1.1),(6,vI s4.1),(12,vI (zn p0)),(13,vI s1.1)],[oR true 3 eTapi_Fact v],63⟩)) (wz [0]) (fun s7=>?_) (hsm (fun x19=>?_) (fun x20=>?_))
     ·refine hbr 1 [28] (?_) ?_
      ·refine hoh 6 (fun _ _ h k=>Xm (k:=.u64) (k':=.i64) (a:=s7.1) (b:=s1.1) kr gE h k) <| hoh 2 (fun _ _ h k=>Xm (k:=.u64) (k':=.i64) (a:=s7.1) (b:=s4.1) kr gE h k) <| hbr 3 [38] (hwk 1 (wl [0,4,5,6,12,13,26,27] [0]) <| hnx 3 (wz [0])) <| ?_
       refine hoh 4 (fun _ _ h k=>Zu (k:=.u64) (k':=.i64) (a:=1) (b:=s1.1) kr gE h k) <| hoh 1 (fun _ _ h k=>Zu (k:=.u64) (k':=.i64) (a:=1) (b:=s4.1) kr gE h k) <| hcl 1 [] (g_separate_Apart_ok p0 (zv (1*2^min (zt s1.1) zk)) (zv (1*2^min (zt s4.1) zk)) s7.1) fun x12 _=>hbr 7 [50] (hwk 4 (wl [2,3] []) <| hwk 0 (wk_nil 2 3 true true gE) <| hdn 1) <| ?_
       refine hbt 2 (fun b16=>⟨[(0,eL true (AV.int .u64) p0),(4,.ref 0 0 s7.2.length),(5,vI s1.1),(6,vI s4.1),(12,vI (zn p0)),(13,vI s1.1),(26,.int .u64 (zv (1*2^min (zt (zn p0)) zk))),(27,.int .u64 s7.1),(28,vB true),(29,.int .u64 s7.1),(7,.int .u64 s7.1),(30,.int .u64 s7.1),(31,vI s1.1),(32,.int .u64 (Int.fdiv s7.1 (2^min (zt s1.1) zk))),(33,.int .u64 s7.1),(34,vI s4.1),(35,.int .u64 (Int.fdiv s7.1 (2^min (zt s4.1) zk))),(36,.int .u64 (zv (zb (Int.fdiv s7.1 (2^min (zt s1.1) zk)) ||| zb (Int.fdiv s7.1 (2^min (zt s4.1) zk))).toNat)),(37,.int .u64 (zv (zb (zv (zb (Int.fdiv s7.1 (2^min (zt s1.1) zk)) ||| zb (Int.fdiv s7.1 (2^min (zt s4.1) zk))).toNat) &&& zb 1).toNat)),(38,vB false),(40,eL true (AV.int .u64) p0),(41,vI s1.1),(42,.int .u64 (zv (1*2^min (zt s1.1) zk))),(43,vI s4.1),(44,.int .u64 (zv (1*2^min (zt s4.1) zk))),(45,.int .u64 s7.1),(46,.tup [vB b16,vI x12.2]),(39,.tup [vB b16,vI x12.2]),(47,vB b16),(48,vI x12.2),(8,vB b16),(9,vI x12.2),(49,vI x12.2),(50,vB false),(52,vB b16)],[oR true 3 eTapi_Fact s7.2],63⟩) (fun _=>?_) (fun _=>?_)
       ·refine hop 6 (fun _=>sgL false [] [] true gE) <| hoh 0 (fun _ _ h k=>V5 (enc:=eTapi_Fact) (l:=s7.2) (m:=([(Ac.mk s1.1 s4.1 s7.1)]:(List Ac))) (w:=3) (bytes:=24) (ob:=0) (nr:=true) (fl:=true) (nr':=true) (fl':=true) (b:=.ref 1 0 1) (rds:=[1]) false kr kr kr kr gE kr h k) <| hnx 3 (wz [2])
       refine hnx 3 (wz [0])
      refine hdx 1 (wz [0])
     ·refine hdn 0
     refine hnx 3 (wz [0])
    refine hdx 1 (wz [0])
   ·refine hdn 0
   refine hnx 2 (wz [0])
  refine hdx 1 (wz [0])
 ·refine hrt 0
 refine hrt 4
theorem Qhh (p0:(List Int)):Ct Tryd.prog 15 [eL true (AV.int .u64) p0] (Qfv p0) (fun x=>.tup [.ref 0 0 x.1.length,vI x.2]) (fun x=>[oR true 3 eTapi_Fact x.1]):=by
 refine hfn [] Tryd.func15 <| hcl 3 [] (g_equal_Check_ok p0) fun x1 _=>hbr 3 [8] (hwk 4 (wl [2,3] []) <| hwk 0 (wk_nil 2 3 true true gE) <| hrt 1) <| ?_
 refine hop 2 (fun _=>Qn (enc:=(AV.int .u64)) (l:=p0) (fl:=true) kr gE) <| hbr 1 [12] (hwk 3 (wl [2,3] []) <| hwk 0 (wk_nil 2 3 true true gE) <| hrt 1) <| ?_
 refine hcl 2 [] (g_equal_factsOf_ok p0) fun x7 _=>hrt 5
noncomputable abbrev Qpj:AObj:=oX true true 7 (.agg [vI 0,.int .u64 0,.int .u64 0,.int .u64 0,.int .u64 0,.int .u64 0,.int .u64 0])
theorem g_equal_skeletonOf_ok (p0:(List Int)):Ct Tryd.prog 54 [eL true (AV.int .u64) p0] (Zy p0) (fun x=>.agg [vI x.n,.int .u64 x.near.1,.int .u64 x.near.2.1,.int .u64 x.near.2.2.1,.int .u64 x.near.2.2.2.1,.int .u64 x.near.2.2.2.2.1,.int .u64 x.near.2.2.2.2.2]) (fun x=>[]):=by
 refine hfn [] Tryd.func54 <| hop 2 (fun _=>Qn (enc:=(AV.int .u64)) (l:=p0) (fl:=true) kr gE) <| hop 4 (fun _=>Qn (enc:=(AV.int .u64)) (l:=p0) (fl:=true) kr gE) <| hlp 1 (fun s1=>⟨[(0,eL true (AV.int .u64) p0),(2,.ptr 0 0 0),(3,.ptr 1 0 0),(10,eL true (AV.int .u64) p0),(11,vI (zn p0)),(12,vI s1.1)],[Qpj,oX true true 7 (.agg [vI (zn p0),.int .u64 s1.2.1,.int .u64 s1.2.2.1,.int .u64 s1.2.2.2.1,.int .u64 s1.2.2.2.2.1,.int .u64 s1.2.2.2.2.2.1,.int .u64 s1.2.2.2.2.2.2])],48⟩) (fun v=>(.exit 0,⟨[(2,.ptr 0 0 0),(3,.ptr 1 0 0)],[Qpj,oX true true 7 (.agg [vI (zn p0),.int .u64 v.1,.int .u64 v.2.1,.int .u64 v.2.2.1,.int .u64 v.2.2.2.1,.int .u64 v.2.2.2.2.1,.int .u64 v.2.2.2.2.2])],48⟩)) (wz [0,1]) (fun s1=>?_) fun x56=>?_
 ·refine hbr 1 [13] (?_) ?_
  ·refine hbd fun a4 q5=>hop 2 (fun _=>Q2 (enc:=(AV.int .u64)) (l:=p0) (n:=s1.1) (fl:=true) (w:=1) (a:=a4) kr kr gE q5) <| hop 4 (fun _=>Qn (enc:=(AV.int .u64)) (l:=p0) (fl:=true) kr gE) <| hlp 1 (fun s6=>⟨[(0,eL true (AV.int .u64) p0),(2,.ptr 0 0 0),(3,.ptr 1 0 0),(4,vI s6.1),(5,.int .u64 a4),(10,eL true (AV.int .u64) p0),(11,vI (zn p0)),(12,vI s6.2.1),(18,vI (zn p0)),(19,vI s6.2.2.1)],[Qpj,oX true true 7 (.agg [vI (zn p0),.int .u64 s6.2.2.2.1,.int .u64 s6.2.2.2.2.1,.int .u64 s6.2.2.2.2.2.1,.int .u64 s6.2.2.2.2.2.2.1,.int .u64 s6.2.2.2.2.2.2.2.1,.int .u64 s6.2.2.2.2.2.2.2.2])],48⟩) (fun v=>(.exit 2,⟨[(0,eL true (AV.int .u64) p0),(2,.ptr 0 0 0),(3,.ptr 1 0 0),(10,eL true (AV.int .u64) p0),(11,vI (zn p0)),(12,vI v.1)],[Qpj,oX true true 7 (.agg [vI (zn p0),.int .u64 v.2.1,.int .u64 v.2.2.1,.int .u64 v.2.2.2.1,.int .u64 v.2.2.2.2.1,.int .u64 v.2.2.2.2.2.1,.int .u64 v.2.2.2.2.2.2])],48⟩)) (wz [0,1]) (fun s6=>?_) fun x54=>?_
   ·refine hbr 1 [20] (?_) ?_
    ·refine hoh 5 (fun _ _ h k=>Xm (k:=.u64) (k':=.i64) (a:=a4) (b:=s6.2.2.1) kr gE h k) <| hbr 2 [26] (?_) ?_
     ·refine hqj 4 [4,27] [] [] (fun _=>?_) (fun _=>?_)
      ·refine hoh 3 (fun _ _ h k=>Zu (k:=.u64) (k':=.i64) (a:=1) (b:=s6.2.2.1) kr gE h k) <| hqj 7 [19,21,6,23,31,36] [] [] (fun _=>hnx 10 (wz [0,1])) fun _=>?_
       iterate 5
        refine hqj 0 [19,21,6,23,31,36] [] [] (fun _=>hnx 10 (wz [0,1])) fun _=>?_
       refine hnn
      iterate 5
       refine hqj 0 [4,27] [] [] (fun _=>?_) (fun _=>?_)
       ·refine hoh 3 (fun _ _ h k=>Zu (k:=.u64) (k':=.i64) (a:=1) (b:=s6.2.2.1) kr gE h k) <| hqj 7 [19,21,6,23,31,36] [] [] (fun _=>hnx 10 (wz [0,1])) fun _=>?_
        iterate 5
         refine hqj 0 [19,21,6,23,31,36] [] [] (fun _=>hnx 10 (wz [0,1])) fun _=>?_
        refine hnn
      refine hnn
     refine hnx 3 (wz [0,1])
    refine hdx 1 (wz [0,1])
   refine hnx 2 (wz [0,1])
  refine hdx 1 (wz [0,1])
 refine hrt 3
theorem g_equal_skeleton_joined_ok (p0:Ad) (p1:Int) (p2:Int):Ct Tryd.prog 74 [.agg [vI p0.n,.int .u64 p0.near.1,.int .u64 p0.near.2.1,.int .u64 p0.near.2.2.1,.int .u64 p0.near.2.2.2.1,.int .u64 p0.near.2.2.2.2.1,.int .u64 p0.near.2.2.2.2.2],vI p1,vI p2] (Qi p0 p1 p2) (fun x=>vB x) (fun x=>[]):=by
 refine hfn [] Tryd.func74 <| hqj 4 [1,7] [] [] (fun _=>hoh 3 (fun _ _ h k=>Xm (k:=.u64) (k':=.i64) (a:=p0.near.1) (b:=p2) kr gE h k) <| hrt 4) fun _=>?_
 refine hqj 0 [1,7] [] [] (fun _=>hoh 3 (fun _ _ h k=>Xm (k:=.u64) (k':=.i64) (a:=p0.near.2.1) (b:=p2) kr gE h k) <| hrt 4) fun _=>?_
 refine hqj 0 [1,7] [] [] (fun _=>hoh 3 (fun _ _ h k=>Xm (k:=.u64) (k':=.i64) (a:=p0.near.2.2.1) (b:=p2) kr gE h k) <| hrt 4) fun _=>?_
 refine hqj 0 [1,7] [] [] (fun _=>hoh 3 (fun _ _ h k=>Xm (k:=.u64) (k':=.i64) (a:=p0.near.2.2.2.1) (b:=p2) kr gE h k) <| hrt 4) fun _=>?_
 refine hqj 0 [1,7] [] [] (fun _=>hoh 3 (fun _ _ h k=>Xm (k:=.u64) (k':=.i64) (a:=p0.near.2.2.2.2.1) (b:=p2) kr gE h k) <| hrt 4) fun _=>?_
 refine hqj 0 [1,7] [] [] (fun _=>hoh 3 (fun _ _ h k=>Xm (k:=.u64) (k':=.i64) (a:=p0.near.2.2.2.2.2) (b:=p2) kr gE h k) <| hrt 4) fun _=>?_
 refine hnn
noncomputable abbrev Qlg (x1:Ad):AObj:=oX true true 7 (.agg [vI x1.n,.int .u64 x1.near.1,.int .u64 x1.near.2.1,.int .u64 x1.near.2.2.1,.int .u64 x1.near.2.2.2.1,.int .u64 x1.near.2.2.2.2.1,.int .u64 x1.near.2.2.2.2.2])
noncomputable abbrev Qmr (p0:(List Int)):List (Nat×AV):=[(0,eL true (AV.int .u64) p0),(3,.ptr 0 0 0)]
theorem Xj (p0:(List Int)):Ct Tryd.prog 56 [eL true (AV.int .u64) p0] (Zv p0) (fun x=>.ref 0 0 x.length) (fun x=>[oR true 3 (fun x:(Int × Int × Int)=>AV.agg [vI x.1,vI x.2.1,vI x.2.2]) x]):=by
 refine hfn [] Tryd.func56 <| hcl 2 [] (g_equal_skeletonOf_ok p0) fun x1 _=>hop 5 (fun _=>Qn (enc:=(AV.int .u64)) (l:=p0) (fl:=true) kr gE) <| hlp 1 (fun s3=>⟨(Qmr p0)++[(4,.ref 1 0 s3.2.length),(13,vI (zn p0)),(14,vI s3.1)],[(Qlg x1),oR true 3 (fun x:(Int × Int × Int)=>AV.agg [vI x.1,vI x.2.1,vI x.2.2]) s3.2],61⟩) (fun v=>(.exit 0,⟨[(4,.ref 0 0 v.length)],[oR true 3 (fun x:(Int × Int × Int)=>AV.agg [vI x.1,vI x.2.1,vI x.2.2]) v],61⟩)) (wk_trans (wk_gc (live:=[0,3,4,13,14]) (keep:=[0]) gE) (wk_trans (wk_nil 4 3 true true gE) (wk_gc (live:=[0,3,4,13,14]) (keep:=[0,1]) kr))) (fun s3=>?_) fun x27=>?_
 ·refine hbr 1 [15] (?_) ?_
  ·refine hop 4 (fun _=>Qn (enc:=(AV.int .u64)) (l:=p0) (fl:=true) kr gE) <| hlp 1 (fun s6=>⟨(Qmr p0)++[(4,.ref 1 0 s6.2.length),(5,vI s3.1),(13,vI (zn p0)),(14,vI s3.1),(17,eL true (AV.int .u64) p0),(18,vI (zn p0)),(19,vI s6.1)],[(Qlg x1),oR true 3 (fun x:(Int × Int × Int)=>AV.agg [vI x.1,vI x.2.1,vI x.2.2]) s6.2],61⟩) (fun v=>(.exit 2,⟨(Qmr p0)++[(4,.ref 1 0 v.length),(13,vI (zn p0)),(14,vI s3.1)],[(Qlg x1),oR true 3 (fun x:(Int × Int × Int)=>AV.agg [vI x.1,vI x.2.1,vI x.2.2]) v],61⟩)) (wz [0,1]) (fun s6=>?_) fun x25=>?_
   ·refine hbr 1 [20] (?_) ?_
    ·refine hbd fun a9 q10=>hop 2 (fun _=>Q2 (enc:=(AV.int .u64)) (l:=p0) (n:=s6.1) (fl:=true) (w:=1) (a:=a9) kr kr gE q10) <| hlp 6 (fun s11=>⟨(Qmr p0)++[(4,.ref 1 0 s11.2.length),(5,vI s3.1),(6,vI s6.1),(7,.int .u64 a9),(8,vI s11.1),(13,vI (zn p0)),(14,vI s3.1),(17,eL true (AV.int .u64) p0),(18,vI (zn p0)),(19,vI s6.1)],[(Qlg x1),oR true 3 (fun x:(Int × Int × Int)=>AV.agg [vI x.1,vI x.2.1,vI x.2.2]) s11.2],61⟩) (fun v=>(.exit 4,⟨(Qmr p0)++[(4,.ref 1 0 v.length),(5,vI s3.1),(13,vI (zn p0)),(14,vI s3.1),(17,eL true (AV.int .u64) p0),(18,vI (zn p0)),(19,vI s6.1)],[(Qlg x1),oR true 3 (fun x:(Int × Int × Int)=>AV.agg [vI x.1,vI x.2.1,vI x.2.2]) v],61⟩)) (wz [0,1]) (fun s11=>?_) fun x23=>?_
     ·refine hop 2 (fun _=>Qn (enc:=(AV.int .u64)) (l:=p0) (fl:=true) kr gE) <| hbr 1 [29] (?_) ?_
      ·refine hoh 3 (fun _ _ h k=>Xm (k:=.u64) (k':=.i64) (a:=a9) (b:=s3.1) kr gE h k) <| hbr 3 [36,37] (?_) ?_
       ·refine hoh 2 (fun _ _ h k=>Xm (k:=.u64) (k':=.i64) (a:=a9) (b:=s11.1) kr gE h k) <| hbr 4 [42,43,44] (?_) ?_
        ·refine hcl 3 [] (g_equal_skeleton_joined_ok (Ad.mk x1.n (x1.near.1,x1.near.2.1,x1.near.2.2.1,x1.near.2.2.2.1,x1.near.2.2.2.2.1,x1.near.2.2.2.2.2)) s3.1 s11.1) fun x18 _=>hbr 2 [49,50] (?_) ?_
         ·refine hop 6 (fun _=>sgL false [] [] true gE) <| hoh 0 (fun _ _ h k=>V5 (enc:=(fun x:(Int × Int × Int)=>AV.agg [vI x.1,vI x.2.1,vI x.2.2])) (l:=s11.2) (m:=([(s3.1,s6.1,s11.1)]:(List (Int × Int × Int)))) (w:=3) (bytes:=24) (ob:=1) (nr:=true) (fl:=true) (nr':=true) (fl':=true) (b:=.ref 2 0 1) (rds:=[2]) false kr kr kr kr gE kr h k) <| hnx 4 (wz [0,3])
         refine hnx 4 (wz [0,1])
        refine hnx 10 (wz [0,1])
       refine hnx 17 (wz [0,1])
      refine hdx 1 (wz [0,1])
     refine hnx 2 (wz [0,1])
    refine hdx 1 (wz [0,1])
   refine hnx 2 (wz [0,1])
  refine hdx 1 (wz [1])
 refine hrt 3
theorem Zj (p0:Qf) (p1:Int) (p2:Int):Ct Tryd.prog 73 [.fz [vI p0.skeleton.n,.int .u64 p0.skeleton.near.1,.int .u64 p0.skeleton.near.2.1,.int .u64 p0.skeleton.near.2.2.1,.int .u64 p0.skeleton.near.2.2.2.1,.int .u64 p0.skeleton.near.2.2.2.2.1,.int .u64 p0.skeleton.near.2.2.2.2.2,.int .u64 p0.out.1,.int .u64 p0.out.2.1,.int .u64 p0.out.2.2.1,.int .u64 p0.out.2.2.2.1,.int .u64 p0.out.2.2.2.2.1,.int .u64 p0.out.2.2.2.2.2],vI p1,vI p2] (Qm p0 p1 p2) (fun x=>vB x) (fun x=>[]):=by
 refine hfn [] Tryd.func73 <| hqj 5 [1,8] [] [] (fun _=>hoh 3 (fun _ _ h k=>Xm (k:=.u64) (k':=.i64) (a:=p0.out.1) (b:=p2) kr gE h k) <| hrt 4) fun _=>?_
 refine hqj 0 [1,8] [] [] (fun _=>hoh 3 (fun _ _ h k=>Xm (k:=.u64) (k':=.i64) (a:=p0.out.2.1) (b:=p2) kr gE h k) <| hrt 4) fun _=>?_
 refine hqj 0 [1,8] [] [] (fun _=>hoh 3 (fun _ _ h k=>Xm (k:=.u64) (k':=.i64) (a:=p0.out.2.2.1) (b:=p2) kr gE h k) <| hrt 4) fun _=>?_
 refine hqj 0 [1,8] [] [] (fun _=>hoh 3 (fun _ _ h k=>Xm (k:=.u64) (k':=.i64) (a:=p0.out.2.2.2.1) (b:=p2) kr gE h k) <| hrt 4) fun _=>?_
 refine hqj 0 [1,8] [] [] (fun _=>hoh 3 (fun _ _ h k=>Xm (k:=.u64) (k':=.i64) (a:=p0.out.2.2.2.2.1) (b:=p2) kr gE h k) <| hrt 4) fun _=>?_
 refine hqj 0 [1,8] [] [] (fun _=>hoh 3 (fun _ _ h k=>Xm (k:=.u64) (k':=.i64) (a:=p0.out.2.2.2.2.2) (b:=p2) kr gE h k) <| hrt 4) fun _=>?_
 refine hnn
end
section
attribute [local irreducible] RW WP
theorem Qht (p0:Qf) (p1:Int) (p2:Int):Ct Tryd.prog 69 [.fz [vI p0.skeleton.n,.int .u64 p0.skeleton.near.1,.int .u64 p0.skeleton.near.2.1,.int .u64 p0.skeleton.near.2.2.1,.int .u64 p0.skeleton.near.2.2.2.1,.int .u64 p0.skeleton.near.2.2.2.2.1,.int .u64 p0.skeleton.near.2.2.2.2.2,.int .u64 p0.out.1,.int .u64 p0.out.2.1,.int .u64 p0.out.2.2.1,.int .u64 p0.out.2.2.2.1,.int .u64 p0.out.2.2.2.2.1,.int .u64 p0.out.2.2.2.2.2],vI p1,vI p2] (Ye p0 p1 p2) (fun x=>vB x) (fun x=>[]):=by
 refine hfn [] Tryd.func69 <| hlp 7 (fun s1=>⟨[(0,.fz [vI p0.skeleton.n,.int .u64 p0.skeleton.near.1,.int .u64 p0.skeleton.near.2.1,.int .u64 p0.skeleton.near.2.2.1,.int .u64 p0.skeleton.near.2.2.2.1,.int .u64 p0.skeleton.near.2.2.2.2.1,.int .u64 p0.skeleton.near.2.2.2.2.2,.int .u64 p0.out.1,.int .u64 p0.out.2.1,.int .u64 p0.out.2.2.1,.int .u64 p0.out.2.2.2.1,.int .u64 p0.out.2.2.2.2.1,.int .u64 p0.out.2.2.2.2.2]),(1,vI p1),(2,vI p2),(12,vI p0.skeleton.n),(13,vI s1)],[],36⟩) (fun x=>match x with | .inl v=>(.ret,⟨[(6,vB true)],[],36⟩) | .inr v=>(.exit 0,⟨[],[],36⟩)) (wz []) (fun s1=>?_) (hsm (fun x15=>?_) (fun x16=>?_))
 ·refine hbr 1 [14] (?_) ?_
  ·refine hbr 7 [18,19] (?_) ?_
   ·refine hcl 3 [] (Zj (Qf.mk (Ad.mk p0.skeleton.n (p0.skeleton.near.1,p0.skeleton.near.2.1,p0.skeleton.near.2.2.1,p0.skeleton.near.2.2.2.1,p0.skeleton.near.2.2.2.2.1,p0.skeleton.near.2.2.2.2.2)) (p0.out.1,p0.out.2.1,p0.out.2.2.1,p0.out.2.2.2.1,p0.out.2.2.2.2.1,p0.out.2.2.2.2.2)) s1 p1) fun x6 _=>hbr 2 [23,24,25] (?_) ?_
    ·refine hcl 6 [] (g_equal_skeleton_joined_ok (Ad.mk p0.skeleton.n (p0.skeleton.near.1,p0.skeleton.near.2.1,p0.skeleton.near.2.2.1,p0.skeleton.near.2.2.2.1,p0.skeleton.near.2.2.2.2.1,p0.skeleton.near.2.2.2.2.2)) s1 p2) fun x10 _=>hbr 2 [33,34] (hdx 2 (wz [])) <| ?_
     refine hnx 3 (wz [])
    refine hnx 12 (wz [])
   refine hnx 18 (wz [])
  refine hdx 1 (wz [])
 ·refine hrt 0
 refine hrt 2
theorem Qhs (p0:Qf) (p1:Int) (p2:Int):Ct Tryd.prog 70 [.fz [vI p0.skeleton.n,.int .u64 p0.skeleton.near.1,.int .u64 p0.skeleton.near.2.1,.int .u64 p0.skeleton.near.2.2.1,.int .u64 p0.skeleton.near.2.2.2.1,.int .u64 p0.skeleton.near.2.2.2.2.1,.int .u64 p0.skeleton.near.2.2.2.2.2,.int .u64 p0.out.1,.int .u64 p0.out.2.1,.int .u64 p0.out.2.2.1,.int .u64 p0.out.2.2.2.1,.int .u64 p0.out.2.2.2.2.1,.int .u64 p0.out.2.2.2.2.2],vI p1,vI p2] (Yd p0 p1 p2) (fun x=>vB x) (fun x=>[]):=by
 refine hfn [] Tryd.func70 <| hlp 7 (fun s1=>⟨[(0,.fz [vI p0.skeleton.n,.int .u64 p0.skeleton.near.1,.int .u64 p0.skeleton.near.2.1,.int .u64 p0.skeleton.near.2.2.1,.int .u64 p0.skeleton.near.2.2.2.1,.int .u64 p0.skeleton.near.2.2.2.2.1,.int .u64 p0.skeleton.near.2.2.2.2.2,.int .u64 p0.out.1,.int .u64 p0.out.2.1,.int .u64 p0.out.2.2.1,.int .u64 p0.out.2.2.2.1,.int .u64 p0.out.2.2.2.2.1,.int .u64 p0.out.2.2.2.2.2]),(1,vI p1),(2,vI p2),(12,vI p0.skeleton.n),(13,vI s1)],[],27⟩) (fun x=>match x with | .inl v=>(.ret,⟨[(6,vB true)],[],27⟩) | .inr v=>(.exit 0,⟨[],[],27⟩)) (wz []) (fun s1=>?_) (hsm (fun x13=>?_) (fun x14=>?_))
 ·refine hbr 1 [14] (?_) ?_
  ·refine hcl 6 [] (Zj (Qf.mk (Ad.mk p0.skeleton.n (p0.skeleton.near.1,p0.skeleton.near.2.1,p0.skeleton.near.2.2.1,p0.skeleton.near.2.2.2.1,p0.skeleton.near.2.2.2.2.1,p0.skeleton.near.2.2.2.2.2)) (p0.out.1,p0.out.2.1,p0.out.2.2.1,p0.out.2.2.2.1,p0.out.2.2.2.2.1,p0.out.2.2.2.2.2)) p1 s1) fun x4 _=>hbr 1 [19,20] (?_) ?_
   ·refine hcl 3 [] (Zj (Qf.mk (Ad.mk p0.skeleton.n (p0.skeleton.near.1,p0.skeleton.near.2.1,p0.skeleton.near.2.2.1,p0.skeleton.near.2.2.2.1,p0.skeleton.near.2.2.2.2.1,p0.skeleton.near.2.2.2.2.2)) (p0.out.1,p0.out.2.1,p0.out.2.2.1,p0.out.2.2.2.1,p0.out.2.2.2.2.1,p0.out.2.2.2.2.2)) s1 p2) fun x8 _=>hbr 1 [24,25] (hdx 2 (wz [])) <| ?_
    refine hnx 3 (wz [])
   refine hnx 8 (wz [])
  refine hdx 1 (wz [])
 ·refine hrt 0
 refine hrt 2
theorem Yz (p0:Qf) (p1:Int) (p2:Int):Ct Tryd.prog 72 [.fz [vI p0.skeleton.n,.int .u64 p0.skeleton.near.1,.int .u64 p0.skeleton.near.2.1,.int .u64 p0.skeleton.near.2.2.1,.int .u64 p0.skeleton.near.2.2.2.1,.int .u64 p0.skeleton.near.2.2.2.2.1,.int .u64 p0.skeleton.near.2.2.2.2.2,.int .u64 p0.out.1,.int .u64 p0.out.2.1,.int .u64 p0.out.2.2.1,.int .u64 p0.out.2.2.2.1,.int .u64 p0.out.2.2.2.2.1,.int .u64 p0.out.2.2.2.2.2],vI p1,vI p2] (Q1 p0 p1 p2) (fun x=>vB x) (fun x=>[]):=by
 refine hfn [] Tryd.func72 <| hcl 7 [] (g_equal_skeleton_joined_ok (Ad.mk p0.skeleton.n (p0.skeleton.near.1,p0.skeleton.near.2.1,p0.skeleton.near.2.2.1,p0.skeleton.near.2.2.2.1,p0.skeleton.near.2.2.2.2.1,p0.skeleton.near.2.2.2.2.2)) p1 p2) fun x1 _=>hbr 1 [13,14] (?_) ?_
 ·refine hcl 3 [] (Zj (Qf.mk (Ad.mk p0.skeleton.n (p0.skeleton.near.1,p0.skeleton.near.2.1,p0.skeleton.near.2.2.1,p0.skeleton.near.2.2.2.1,p0.skeleton.near.2.2.2.2.1,p0.skeleton.near.2.2.2.2.2)) (p0.out.1,p0.out.2.1,p0.out.2.2.1,p0.out.2.2.2.1,p0.out.2.2.2.2.1,p0.out.2.2.2.2.2)) p1 p2) fun x5 _=>hbr 3 [19,20,21] (?_) ?_
  ·refine hcl 3 [] (Zj (Qf.mk (Ad.mk p0.skeleton.n (p0.skeleton.near.1,p0.skeleton.near.2.1,p0.skeleton.near.2.2.1,p0.skeleton.near.2.2.2.1,p0.skeleton.near.2.2.2.2.1,p0.skeleton.near.2.2.2.2.2)) (p0.out.1,p0.out.2.1,p0.out.2.2.1,p0.out.2.2.2.1,p0.out.2.2.2.2.1,p0.out.2.2.2.2.2)) p2 p1) fun x9 _=>hrt 4
  refine hrt 8
 refine hrt 15
noncomputable abbrev e18_19 (p0:Qf):Nat×AV:=(0,.fz [vI p0.skeleton.n,.int .u64 p0.skeleton.near.1,.int .u64 p0.skeleton.near.2.1,.int .u64 p0.skeleton.near.2.2.1,.int .u64 p0.skeleton.near.2.2.2.1,.int .u64 p0.skeleton.near.2.2.2.2.1,.int .u64 p0.skeleton.near.2.2.2.2.2,.int .u64 p0.out.1,.int .u64 p0.out.2.1,.int .u64 p0.out.2.2.1,.int .u64 p0.out.2.2.2.1,.int .u64 p0.out.2.2.2.2.1,.int .u64 p0.out.2.2.2.2.2])
theorem Qg7 (p0:Qf) (p1:Int) (p2:Int):Ct Tryd.prog 71 [.fz [vI p0.skeleton.n,.int .u64 p0.skeleton.near.1,.int .u64 p0.skeleton.near.2.1,.int .u64 p0.skeleton.near.2.2.1,.int .u64 p0.skeleton.near.2.2.2.1,.int .u64 p0.skeleton.near.2.2.2.2.1,.int .u64 p0.skeleton.near.2.2.2.2.2,.int .u64 p0.out.1,.int .u64 p0.out.2.1,.int .u64 p0.out.2.2.1,.int .u64 p0.out.2.2.2.1,.int .u64 p0.out.2.2.2.2.1,.int .u64 p0.out.2.2.2.2.2],vI p1,vI p2] (Xy p0 p1 p2) (fun x=>vB x) (fun x=>[]):=by
 refine hfn [] Tryd.func71 <| hlp 7 (fun s1=>⟨[(e18_19 p0),(1,vI p1),(2,vI p2),(13,vI p0.skeleton.n),(14,vI s1)],[],55⟩) (fun x=>match x with | .inl v=>(.ret,⟨[(6,vB true)],[],55⟩) | .inr v=>(.exit 0,⟨[],[],55⟩)) (wz []) (fun s1=>?_) (hsm (fun x31=>?_) (fun x32=>?_))
 ·refine hbr 1 [15] (?_) ?_
  ·refine hlp 5 (fun s4=>⟨[(e18_19 p0),(1,vI p1),(2,vI p2),(7,vI s1),(13,vI p0.skeleton.n),(14,vI s1),(17,vI s1),(18,vI s4)],[],55⟩) (fun x=>match x with | .inl v=>(.ret,⟨[(6,vB true)],[],55⟩) | .inr v=>(.exit 2,⟨[(e18_19 p0),(1,vI p1),(2,vI p2),(13,vI p0.skeleton.n),(14,vI s1)],[],55⟩)) (wz []) (fun s4=>?_) (hsm (fun x28=>?_) (fun x29=>?_))
   ·refine hbr 1 [19] (?_) ?_
    ·refine hcl 6 [] (Yz (Qf.mk (Ad.mk p0.skeleton.n (p0.skeleton.near.1,p0.skeleton.near.2.1,p0.skeleton.near.2.2.1,p0.skeleton.near.2.2.2.1,p0.skeleton.near.2.2.2.2.1,p0.skeleton.near.2.2.2.2.2)) (p0.out.1,p0.out.2.1,p0.out.2.2.1,p0.out.2.2.2.1,p0.out.2.2.2.2.1,p0.out.2.2.2.2.2)) p1 s1) fun x7 _=>hbr 1 [24,25] (?_) ?_
     ·refine hcl 3 [] (Yz (Qf.mk (Ad.mk p0.skeleton.n (p0.skeleton.near.1,p0.skeleton.near.2.1,p0.skeleton.near.2.2.1,p0.skeleton.near.2.2.2.1,p0.skeleton.near.2.2.2.2.1,p0.skeleton.near.2.2.2.2.2)) (p0.out.1,p0.out.2.1,p0.out.2.2.1,p0.out.2.2.2.1,p0.out.2.2.2.2.1,p0.out.2.2.2.2.2)) p1 s4) fun x11 _=>hbr 2 [29,30,31] (?_) ?_
      ·refine hcl 3 [] (Zj (Qf.mk (Ad.mk p0.skeleton.n (p0.skeleton.near.1,p0.skeleton.near.2.1,p0.skeleton.near.2.2.1,p0.skeleton.near.2.2.2.1,p0.skeleton.near.2.2.2.2.1,p0.skeleton.near.2.2.2.2.2)) (p0.out.1,p0.out.2.1,p0.out.2.2.1,p0.out.2.2.2.1,p0.out.2.2.2.2.1,p0.out.2.2.2.2.2)) s1 p2) fun x15 _=>hbr 2 [35,36,37] (?_) ?_
       ·refine hcl 3 [] (Zj (Qf.mk (Ad.mk p0.skeleton.n (p0.skeleton.near.1,p0.skeleton.near.2.1,p0.skeleton.near.2.2.1,p0.skeleton.near.2.2.2.1,p0.skeleton.near.2.2.2.2.1,p0.skeleton.near.2.2.2.2.2)) (p0.out.1,p0.out.2.1,p0.out.2.2.1,p0.out.2.2.2.1,p0.out.2.2.2.2.1,p0.out.2.2.2.2.2)) s4 p2) fun x19 _=>hbr 2 [41,42,43] (?_) ?_
        ·refine hcl 6 [] (g_equal_skeleton_joined_ok (Ad.mk p0.skeleton.n (p0.skeleton.near.1,p0.skeleton.near.2.1,p0.skeleton.near.2.2.1,p0.skeleton.near.2.2.2.1,p0.skeleton.near.2.2.2.2.1,p0.skeleton.near.2.2.2.2.2)) s1 s4) fun x23 _=>hbr 2 [51,52] (hdx 2 (wz [])) <| ?_
         refine hnx 3 (wz [])
        refine hnx 12 (wz [])
       refine hnx 18 (wz [])
      refine hnx 24 (wz [])
     refine hnx 30 (wz [])
    refine hdx 1 (wz [])
   ·refine hdn 0
   refine hnx 2 (wz [])
  refine hdx 1 (wz [])
 ·refine hrt 0
 refine hrt 2
noncomputable abbrev o19_20:AObj:=oX true false 3 (.agg [vI 0,.nils,.nils])
noncomputable abbrev o19_21:AObj:=oX true false 3 (.agg [.fn (.func 69) [] [],.fn (.func 70) [] [],.fn (.func 71) [] []])
noncomputable abbrev s19_22:List (Nat×AV):=[(2,.ptr 0 0 0),(3,.ptr 1 0 0)]
theorem Qdy (p0:(List Int)):Ct Tryd.prog 50 [eL true (AV.int .u64) p0] (Q3 p0) (fun x=>.agg [vI x.N,.ref 0 0 x.Arrows.length,.ref 1 0 x.Lines.length]) (fun x=>[oR true 2 zp x.Arrows,oR true 2 zp x.Lines]):=by
 refine hfn [] Tryd.func50 <| hop 0 (fun _=>sgL false [] [] false gE) <| hcl 1 [] (g_equal_skeletonOf_ok p0) fun x1 _=>hcl 4 [] (Xj p0) fun x3 _=>hlp 2 (fun s5=>⟨s19_22++[(19,.ref 2 0 x3.length),(20,vI (zn x3)),(21,vI s5.1)],[o19_20,oX true true 13 (.agg [vI x1.n,.int .u64 x1.near.1,.int .u64 x1.near.2.1,.int .u64 x1.near.2.2.1,.int .u64 x1.near.2.2.2.1,.int .u64 x1.near.2.2.2.2.1,.int .u64 x1.near.2.2.2.2.2,.int .u64 s5.2.1,.int .u64 s5.2.2.1,.int .u64 s5.2.2.2.1,.int .u64 s5.2.2.2.2.1,.int .u64 s5.2.2.2.2.2.1,.int .u64 s5.2.2.2.2.2.2]),oR true 3 (fun x:(Int × Int × Int)=>AV.agg [vI x.1,vI x.2.1,vI x.2.2]) x3],156⟩) (fun v=>(.exit 0,⟨s19_22,[o19_20,oX true true 13 (.agg [vI x1.n,.int .u64 x1.near.1,.int .u64 x1.near.2.1,.int .u64 x1.near.2.2.1,.int .u64 x1.near.2.2.2.1,.int .u64 x1.near.2.2.2.2.1,.int .u64 x1.near.2.2.2.2.2,.int .u64 v.1,.int .u64 v.2.1,.int .u64 v.2.2.1,.int .u64 v.2.2.2.1,.int .u64 v.2.2.2.2.1,.int .u64 v.2.2.2.2.2])],156⟩)) (wz [0,1,2]) (fun s5=>?_) fun x53=>?_
 ·refine hbr 1 [22] (?_) ?_
  ·refine hbd fun a8 q9=>hop 1 (fun _=>Qq (enc:=(fun x:(Int × Int × Int)=>AV.agg [vI x.1,vI x.2.1,vI x.2.2])) (l:=x3) (n:=s5.1) (w:=3) (ob:=2) (ro:=false) (nr:=true) (fl:=true) (a:=a8) kr kr gE q9) <| hop 0 (fun _=>Zn (enc:=(fun x:(Int × Int × Int)=>AV.agg [vI x.1,vI x.2.1,vI x.2.2])) (l:=x3) (n:=s5.1) (w:=3) (ob:=2) (c:=0) (bx:=false) (ro:=false) (nr:=true) (fl:=true) (a:=a8) kr kr q9 gE) <| hqj 8 [27] [(24,[0])] [(3,[0])] (fun _=>?_) (fun _=>?_)
   ·refine hoh 4 (fun _ _ h k=>Zu (k:=.u64) (k':=.i64) (a:=1) (b:=a8.2.1) kr gE h k) <| hqj 11 [41] [(24,[2])] [(3,[2])] (fun _=>hoh 4 (fun _ _ h k=>Zu (k:=.u64) (k':=.i64) (a:=1) (b:=a8.2.1) kr gE h k) <| hnx 7 (wz [0,1,2])) fun _=>?_
    iterate 5
     refine hqj 0 [41] [(24,[2])] [(3,[2])] (fun _=>hoh 4 (fun _ _ h k=>Zu (k:=.u64) (k':=.i64) (a:=1) (b:=a8.2.1) kr gE h k) <| hnx 7 (wz [0,1,2])) fun _=>?_
    refine hnn
   iterate 5
    refine hqj 0 [27] [(24,[0])] [(3,[0])] (fun _=>?_) (fun _=>?_)
    ·refine hoh 4 (fun _ _ h k=>Zu (k:=.u64) (k':=.i64) (a:=1) (b:=a8.2.1) kr gE h k) <| hqj 11 [41] [(24,[2])] [(3,[2])] (fun _=>hoh 4 (fun _ _ h k=>Zu (k:=.u64) (k':=.i64) (a:=1) (b:=a8.2.1) kr gE h k) <| hnx 7 (wz [0,1,2])) fun _=>?_
     iterate 5
      refine hqj 0 [41] [(24,[2])] [(3,[2])] (fun _=>hoh 4 (fun _ _ h k=>Zu (k:=.u64) (k':=.i64) (a:=1) (b:=a8.2.1) kr gE h k) <| hnx 7 (wz [0,1,2])) fun _=>?_
     refine hnn
   refine hnn
  refine hdx 1 (wz [0,1])
 refine hop 1 (fun _=>sgL false [] [] false gE) <| hgl 1 2 0 (fun s54=>⟨s19_22++[(6,.ptr 2 0 0)],[o19_20,oX true true 13 (.agg [vI x1.n,.int .u64 x1.near.1,.int .u64 x1.near.2.1,.int .u64 x1.near.2.2.1,.int .u64 x1.near.2.2.2.1,.int .u64 x1.near.2.2.2.2.1,.int .u64 x1.near.2.2.2.2.2,.int .u64 s54.1,.int .u64 s54.2.1,.int .u64 s54.2.2.1,.int .u64 s54.2.2.2.1,.int .u64 s54.2.2.2.2.1,.int .u64 s54.2.2.2.2.2]),o19_21],156⟩) (fun v=>(.ret,⟨[(2,.ptr 0 0 0)],[oX false false 3 (.agg [vI x1.n,.ref 1 0 v.1.length,.ref 2 0 v.2.length]),oR true 2 zp v.1,oR true 2 zp v.2],156⟩)) (wz [0,1,2]) (fun s54=>?_) fun x137=>?_
 ·refine hlp 6 (fun s55=>⟨s19_22++[(6,.ptr 2 0 0),(59,vI x1.n),(60,vI s55)],[o19_20,oX true true 13 (.agg [vI x1.n,.int .u64 x1.near.1,.int .u64 x1.near.2.1,.int .u64 x1.near.2.2.1,.int .u64 x1.near.2.2.2.1,.int .u64 x1.near.2.2.2.2.1,.int .u64 x1.near.2.2.2.2.2,.int .u64 s54.1,.int .u64 s54.2.1,.int .u64 s54.2.2.1,.int .u64 s54.2.2.2.1,.int .u64 s54.2.2.2.2.1,.int .u64 s54.2.2.2.2.2]),o19_21],156⟩) (fun x=>match x with | .inl v=>(.goto 0,⟨s19_22++[(6,.ptr 2 0 0)],[o19_20,oX true true 13 (.agg [vI x1.n,.int .u64 x1.near.1,.int .u64 x1.near.2.1,.int .u64 x1.near.2.2.1,.int .u64 x1.near.2.2.2.1,.int .u64 x1.near.2.2.2.2.1,.int .u64 x1.near.2.2.2.2.2,.int .u64 v.1,.int .u64 v.2.1,.int .u64 v.2.2.1,.int .u64 v.2.2.2.1,.int .u64 v.2.2.2.2.1,.int .u64 v.2.2.2.2.2]),o19_21],156⟩) | .inr v=>(.exit 2,⟨s19_22,[o19_20,oX true true 13 (.agg [vI x1.n,.int .u64 x1.near.1,.int .u64 x1.near.2.1,.int .u64 x1.near.2.2.1,.int .u64 x1.near.2.2.2.1,.int .u64 x1.near.2.2.2.2.1,.int .u64 x1.near.2.2.2.2.2,.int .u64 s54.1,.int .u64 s54.2.1,.int .u64 s54.2.2.1,.int .u64 s54.2.2.2.1,.int .u64 s54.2.2.2.2.1,.int .u64 s54.2.2.2.2.2])],156⟩)) (wz [0,1,2]) (fun s55=>?_) (hsm (fun x108=>?_) (fun x109=>?_))
  ·refine hbr 1 [61] (?_) ?_
   ·refine hlp 9 (fun s58=>⟨s19_22++[(6,.ptr 2 0 0),(7,vI s55),(59,vI x1.n),(60,vI s55),(67,vI x1.n),(68,vI s58)],[o19_20,oX true true 13 (.agg [vI x1.n,.int .u64 x1.near.1,.int .u64 x1.near.2.1,.int .u64 x1.near.2.2.1,.int .u64 x1.near.2.2.2.1,.int .u64 x1.near.2.2.2.2.1,.int .u64 x1.near.2.2.2.2.2,.int .u64 s54.1,.int .u64 s54.2.1,.int .u64 s54.2.2.1,.int .u64 s54.2.2.2.1,.int .u64 s54.2.2.2.2.1,.int .u64 s54.2.2.2.2.2]),o19_21],156⟩) (fun x=>match x with | .inl v=>(.goto 0,⟨s19_22++[(6,.ptr 2 0 0)],[o19_20,oX true true 13 (.agg [vI x1.n,.int .u64 x1.near.1,.int .u64 x1.near.2.1,.int .u64 x1.near.2.2.1,.int .u64 x1.near.2.2.2.1,.int .u64 x1.near.2.2.2.2.1,.int .u64 x1.near.2.2.2.2.2,.int .u64 v.1,.int .u64 v.2.1,.int .u64 v.2.2.1,.int .u64 v.2.2.2.1,.int .u64 v.2.2.2.2.1,.int .u64 v.2.2.2.2.2]),o19_21],156⟩) | .inr v=>(.exit 4,⟨s19_22++[(6,.ptr 2 0 0),(59,vI x1.n),(60,vI s55)],[o19_20,oX true true 13 (.agg [vI x1.n,.int .u64 x1.near.1,.int .u64 x1.near.2.1,.int .u64 x1.near.2.2.1,.int .u64 x1.near.2.2.2.1,.int .u64 x1.near.2.2.2.2.1,.int .u64 x1.near.2.2.2.2.2,.int .u64 s54.1,.int .u64 s54.2.1,.int .u64 s54.2.2.1,.int .u64 s54.2.2.2.1,.int .u64 s54.2.2.2.2.1,.int .u64 s54.2.2.2.2.2]),o19_21],156⟩)) (wz [0,1,2]) (fun s58=>?_) (hsm (fun x105=>?_) (fun x106=>?_))
    ·refine hbr 1 [69] (?_) ?_
     ·refine hcl 6 [] (Yz (Qf.mk (Ad.mk x1.n (x1.near.1,x1.near.2.1,x1.near.2.2.1,x1.near.2.2.2.1,x1.near.2.2.2.2.1,x1.near.2.2.2.2.2)) (s54.1,s54.2.1,s54.2.2.1,s54.2.2.2.1,s54.2.2.2.2.1,s54.2.2.2.2.2)) s55 s58) fun x61 _=>hbr 1 [75] (hwk 1 (wl [2,3,6,7,59,60,67,68] [0,1,2]) <| hnx 3 (wz [0,1,2])) <| ?_
      refine hlp 3 (fun s65=>⟨s19_22++[(6,.ptr 2 0 0),(7,vI s55),(8,vI s58),(59,vI x1.n),(60,vI s55),(67,vI x1.n),(68,vI s58),(76,.agg [.fn (.func 69) [] [],.fn (.func 70) [] [],.fn (.func 71) [] []]),(77,vI s65)],[o19_20,oX true true 13 (.agg [vI x1.n,.int .u64 x1.near.1,.int .u64 x1.near.2.1,.int .u64 x1.near.2.2.1,.int .u64 x1.near.2.2.2.1,.int .u64 x1.near.2.2.2.2.1,.int .u64 x1.near.2.2.2.2.2,.int .u64 s54.1,.int .u64 s54.2.1,.int .u64 s54.2.2.1,.int .u64 s54.2.2.2.1,.int .u64 s54.2.2.2.2.1,.int .u64 s54.2.2.2.2.2]),o19_21],156⟩) (fun x=>match x with | .inl v=>(.goto 0,⟨s19_22++[(6,.ptr 2 0 0)],[o19_20,oX true true 13 (.agg [vI x1.n,.int .u64 x1.near.1,.int .u64 x1.near.2.1,.int .u64 x1.near.2.2.1,.int .u64 x1.near.2.2.2.1,.int .u64 x1.near.2.2.2.2.1,.int .u64 x1.near.2.2.2.2.2,.int .u64 v.1,.int .u64 v.2.1,.int .u64 v.2.2.1,.int .u64 v.2.2.2.1,.int .u64 v.2.2.2.2.1,.int .u64 v.2.2.2.2.2]),o19_21],156⟩) | .inr v=>(.exit 6,⟨s19_22++[(6,.ptr 2 0 0),(7,vI s55),(59,vI x1.n),(60,vI s55),(67,vI x1.n),(68,vI s58)],[o19_20,oX true true 13 (.agg [vI x1.n,.int .u64 x1.near.1,.int .u64 x1.near.2.1,.int .u64 x1.near.2.2.1,.int .u64 x1.near.2.2.2.1,.int .u64 x1.near.2.2.2.2.1,.int .u64 x1.near.2.2.2.2.2,.int .u64 s54.1,.int .u64 s54.2.1,.int .u64 s54.2.2.1,.int .u64 s54.2.2.2.1,.int .u64 s54.2.2.2.2.1,.int .u64 s54.2.2.2.2.2]),o19_21],156⟩)) (wz [0,1,2]) (fun s65=>?_) (hsm (fun x102=>?_) (fun x103=>?_))
      ·refine hbr 1 [78] (?_) ?_
       ·refine hqj 1 [77] [] [] (fun _=>?_) (fun _=>?_)
        ·refine hcl 6 [] (Qht (Qf.mk (Ad.mk x1.n (x1.near.1,x1.near.2.1,x1.near.2.2.1,x1.near.2.2.2.1,x1.near.2.2.2.2.1,x1.near.2.2.2.2.2)) (s54.1,s54.2.1,s54.2.2.1,s54.2.2.2.1,s54.2.2.2.2.1,s54.2.2.2.2.2)) s55 s58) fun x69 _=>hbr 0 [84] (?_) ?_
         ·refine hqj 6 [7,60,82,86] [] [] (fun _=>hoh 3 (fun _ _ h k=>Zu (k:=.u64) (k':=.i64) (a:=1) (b:=s58) kr gE h k) <| hdx 5 (wz [0,1,2])) fun _=>?_
          iterate 5
           refine hqj 0 [7,60,82,86] [] [] (fun _=>hoh 3 (fun _ _ h k=>Zu (k:=.u64) (k':=.i64) (a:=1) (b:=s58) kr gE h k) <| hdx 5 (wz [0,1,2])) fun _=>?_
          refine hnn
         refine hnx 3 (wz [0,1,2])
        refine hqj 0 [77] [] [] (fun _=>?_) (fun _=>?_)
        ·refine hcl 6 [] (Qhs (Qf.mk (Ad.mk x1.n (x1.near.1,x1.near.2.1,x1.near.2.2.1,x1.near.2.2.2.1,x1.near.2.2.2.2.1,x1.near.2.2.2.2.2)) (s54.1,s54.2.1,s54.2.2.1,s54.2.2.2.1,s54.2.2.2.2.1,s54.2.2.2.2.2)) s55 s58) fun x80 _=>hbr 0 [84] (?_) ?_
         ·refine hqj 6 [7,60,82,86] [] [] (fun _=>hoh 3 (fun _ _ h k=>Zu (k:=.u64) (k':=.i64) (a:=1) (b:=s58) kr gE h k) <| hdx 5 (wz [0,1,2])) fun _=>?_
          iterate 5
           refine hqj 0 [7,60,82,86] [] [] (fun _=>hoh 3 (fun _ _ h k=>Zu (k:=.u64) (k':=.i64) (a:=1) (b:=s58) kr gE h k) <| hdx 5 (wz [0,1,2])) fun _=>?_
          refine hnn
         refine hnx 3 (wz [0,1,2])
        refine hqj 0 [77] [] [] (fun _=>?_) (fun _=>?_)
        ·refine hcl 6 [] (Qg7 (Qf.mk (Ad.mk x1.n (x1.near.1,x1.near.2.1,x1.near.2.2.1,x1.near.2.2.2.1,x1.near.2.2.2.2.1,x1.near.2.2.2.2.2)) (s54.1,s54.2.1,s54.2.2.1,s54.2.2.2.1,s54.2.2.2.2.1,s54.2.2.2.2.2)) s55 s58) fun x91 _=>hbr 0 [84] (?_) ?_
         ·refine hqj 6 [7,60,82,86] [] [] (fun _=>hoh 3 (fun _ _ h k=>Zu (k:=.u64) (k':=.i64) (a:=1) (b:=s58) kr gE h k) <| hdx 5 (wz [0,1,2])) fun _=>?_
          iterate 5
           refine hqj 0 [7,60,82,86] [] [] (fun _=>hoh 3 (fun _ _ h k=>Zu (k:=.u64) (k':=.i64) (a:=1) (b:=s58) kr gE h k) <| hdx 5 (wz [0,1,2])) fun _=>?_
          refine hnn
         refine hnx 3 (wz [0,1,2])
        refine hnn
       refine hdx 1 (wz [0,1,2])
      ·refine hdn 0
      refine hnx 2 (wz [0,1,2])
     refine hdx 1 (wz [0,1,2])
    ·refine hdn 0
    refine hnx 2 (wz [0,1,2])
   refine hdx 1 (wz [0,1])
  ·refine Q8w 0 0 (wz [0,1,2])
  refine hop 8 (fun _=>sgL false [] [] false gE) <| hlp 7 (fun s110=>⟨s19_22++[(11,.ptr 2 0 0),(112,vI x1.n),(113,vI s110.1)],[o19_20,oX true true 13 (.agg [vI x1.n,.int .u64 x1.near.1,.int .u64 x1.near.2.1,.int .u64 x1.near.2.2.1,.int .u64 x1.near.2.2.2.1,.int .u64 x1.near.2.2.2.2.1,.int .u64 x1.near.2.2.2.2.2,.int .u64 s54.1,.int .u64 s54.2.1,.int .u64 s54.2.2.1,.int .u64 s54.2.2.2.1,.int .u64 s54.2.2.2.2.1,.int .u64 s54.2.2.2.2.2]),oX false false 3 (.agg [vI x1.n,.ref 3 0 s110.2.1.length,.ref 4 0 s110.2.2.length]),oR true 2 zp s110.2.1,oR true 2 zp s110.2.2],156⟩) (fun v=>(.exit 8,⟨[(2,.ptr 0 0 0),(11,.ptr 1 0 0)],[o19_20,oX false false 3 (.agg [vI x1.n,.ref 2 0 v.1.length,.ref 3 0 v.2.length]),oR true 2 zp v.1,oR true 2 zp v.2],156⟩)) (wk_trans (wk_gc (live:=[2,3,11,112,113]) (keep:=[0,1,2]) gE) (wk_trans (Qy 2 0 1 2 true true gE) (wk_trans (Qy 2 0 2 2 true true gE) (wk_gc (live:=[2,3,11,112,113]) (keep:=[0,1,2,3,4]) kr)))) (fun s110=>?_) fun x135=>?_
  ·refine hbr 1 [114] (?_) ?_
   ·refine hlp 9 (fun s113=>⟨s19_22++[(11,.ptr 2 0 0),(12,vI s110.1),(112,vI x1.n),(113,vI s110.1),(120,vI x1.n),(121,vI s113.1)],[o19_20,oX true true 13 (.agg [vI x1.n,.int .u64 x1.near.1,.int .u64 x1.near.2.1,.int .u64 x1.near.2.2.1,.int .u64 x1.near.2.2.2.1,.int .u64 x1.near.2.2.2.2.1,.int .u64 x1.near.2.2.2.2.2,.int .u64 s54.1,.int .u64 s54.2.1,.int .u64 s54.2.2.1,.int .u64 s54.2.2.2.1,.int .u64 s54.2.2.2.2.1,.int .u64 s54.2.2.2.2.2]),oX false false 3 (.agg [vI x1.n,.ref 3 0 s113.2.1.length,.ref 4 0 s113.2.2.length]),oR true 2 zp s113.2.1,oR true 2 zp s113.2.2],156⟩) (fun v=>(.exit 10,⟨s19_22++[(11,.ptr 2 0 0),(112,vI x1.n),(113,vI s110.1)],[o19_20,oX true true 13 (.agg [vI x1.n,.int .u64 x1.near.1,.int .u64 x1.near.2.1,.int .u64 x1.near.2.2.1,.int .u64 x1.near.2.2.2.1,.int .u64 x1.near.2.2.2.2.1,.int .u64 x1.near.2.2.2.2.2,.int .u64 s54.1,.int .u64 s54.2.1,.int .u64 s54.2.2.1,.int .u64 s54.2.2.2.1,.int .u64 s54.2.2.2.2.1,.int .u64 s54.2.2.2.2.2]),oX false false 3 (.agg [vI x1.n,.ref 3 0 v.1.length,.ref 4 0 v.2.length]),oR true 2 zp v.1,oR true 2 zp v.2],156⟩)) (wz [0,1,2,3,4]) (fun s113=>?_) fun x133=>?_
    ·refine hbr 1 [122] (?_) ?_
     ·refine hcl 6 [] (Zj (Qf.mk (Ad.mk x1.n (x1.near.1,x1.near.2.1,x1.near.2.2.1,x1.near.2.2.2.1,x1.near.2.2.2.2.1,x1.near.2.2.2.2.2)) (s54.1,s54.2.1,s54.2.2.1,s54.2.2.2.1,s54.2.2.2.2.1,s54.2.2.2.2.2)) s110.1 s113.1) fun x116 _=>hbr 0 [127] (?_) ?_
      ·refine hop 6 (fun _=>sgL false [] [] true gE) <| hoh 0 (fun _ _ h k=>V5 (enc:=zp) (l:=s113.2.1) (m:=([(s110.1,s113.1)]:(List (Int × Int)))) (w:=2) (bytes:=16) (ob:=3) (nr:=true) (fl:=true) (nr':=true) (fl':=true) (b:=.ref 5 0 1) (rds:=[5]) false kr kr kr kr gE kr h k) <| hbr 6 [138,139] (?_) ?_
       ·refine hcl 3 [] (Yz (Qf.mk (Ad.mk x1.n (x1.near.1,x1.near.2.1,x1.near.2.2.1,x1.near.2.2.2.1,x1.near.2.2.2.2.1,x1.near.2.2.2.2.2)) (s54.1,s54.2.1,s54.2.2.1,s54.2.2.2.1,s54.2.2.2.2.1,s54.2.2.2.2.2)) s110.1 s113.1) fun x122 _=>hbr 1 [143,144] (?_) ?_
        ·refine hop 6 (fun _=>sgL false [] [] true gE) <| hoh 0 (fun _ _ h k=>V5 (enc:=zp) (l:=s113.2.2) (m:=([(s110.1,s113.1)]:(List (Int × Int)))) (w:=2) (bytes:=16) (ob:=4) (nr:=true) (fl:=true) (nr':=true) (fl':=true) (b:=.ref 7 0 1) (rds:=[7]) false kr kr kr kr gE kr h k) <| hnx 4 (wz [0,1,2,6,8])
        refine hnx 3 (wz [0,1,2,6,4])
       refine hnx 8 (wz [0,1,2,6,4])
      refine hbr 5 [138,139] (?_) ?_
      ·refine hcl 3 [] (Yz (Qf.mk (Ad.mk x1.n (x1.near.1,x1.near.2.1,x1.near.2.2.1,x1.near.2.2.2.1,x1.near.2.2.2.2.1,x1.near.2.2.2.2.2)) (s54.1,s54.2.1,s54.2.2.1,s54.2.2.2.1,s54.2.2.2.2.1,s54.2.2.2.2.2)) s110.1 s113.1) fun x128 _=>hbr 1 [143,144] (?_) ?_
       ·refine hop 6 (fun _=>sgL false [] [] true gE) <| hoh 0 (fun _ _ h k=>V5 (enc:=zp) (l:=s113.2.2) (m:=([(s110.1,s113.1)]:(List (Int × Int)))) (w:=2) (bytes:=16) (ob:=4) (nr:=true) (fl:=true) (nr':=true) (fl':=true) (b:=.ref 5 0 1) (rds:=[5]) false kr kr kr kr gE kr h k) <| hnx 4 (wz [0,1,2,3,6])
       refine hnx 3 (wz [0,1,2,3,4])
      refine hnx 8 (wz [0,1,2,3,4])
     refine hdx 1 (wz [0,1,2,3,4])
    refine hnx 2 (wz [0,1,2,3,4])
   refine hdx 1 (wz [0,2,3,4])
  refine Q9e 2 0 (wz [0,2,3])
 refine hrt 0
end
section
attribute [local irreducible] RW WP
noncomputable abbrev Qb0:AObj:=oX true true 7 (.agg [vI 0,.int .u64 0,.int .u64 0,.int .u64 0,.int .u64 0,.int .u64 0,.int .u64 0])
noncomputable abbrev Qhf (p0:Int) (x60:(Int × Int × Int × Int × Int × Int × (List ((Int × Int) × Int)))):AObj:=oX true true 7 (.agg [vI p0,.int .u64 x60.1,.int .u64 x60.2.1,.int .u64 x60.2.2.1,.int .u64 x60.2.2.2.1,.int .u64 x60.2.2.2.2.1,.int .u64 x60.2.2.2.2.2.1])
noncomputable abbrev Qji (x60:(Int × Int × Int × Int × Int × Int × (List ((Int × Int) × Int)))):AObj:=mapK zp (AV.int .u64) x60.2.2.2.2.2.2
noncomputable abbrev Qfi (p0:Int):List (Nat×AV):=[(0,vI p0),(4,.ptr 0 0 0),(6,.ptr 1 0 0),(8,.mp 2)]
theorem Qp4 (p0:Int) (p1:(List Ac)):Ct Tryd.prog 51 [vI p0,eL true eTapi_Fact p1] (Qek p0 p1) (fun x=>.tup [.agg [vI x.1.n,.int .u64 x.1.near.1,.int .u64 x.1.near.2.1,.int .u64 x.1.near.2.2.1,.int .u64 x.1.near.2.2.2.1,.int .u64 x.1.near.2.2.2.2.1,.int .u64 x.1.near.2.2.2.2.2],.ref 0 0 x.2.length]) (fun x=>[oR true 3 (fun x:(Int × Int × Int)=>AV.agg [vI x.1,vI x.2.1,vI x.2.2]) x.2]):=by
 refine hfn [] Tryd.func51 <| hlp 8 (fun s1=>⟨[(0,vI p0),(1,eL true eTapi_Fact p1),(4,.ptr 0 0 0),(6,.ptr 1 0 0),(19,vI p0),(20,vI s1.1)],[Qb0,oX true true 7 (.agg [vI p0,.int .u64 s1.2.1,.int .u64 s1.2.2.1,.int .u64 s1.2.2.2.1,.int .u64 s1.2.2.2.2.1,.int .u64 s1.2.2.2.2.2.1,.int .u64 s1.2.2.2.2.2.2])],126⟩) (fun v=>(.exit 0,⟨[(0,vI p0),(1,eL true eTapi_Fact p1),(4,.ptr 0 0 0),(6,.ptr 1 0 0)],[Qb0,oX true true 7 (.agg [vI p0,.int .u64 v.1,.int .u64 v.2.1,.int .u64 v.2.2.1,.int .u64 v.2.2.2.1,.int .u64 v.2.2.2.2.1,.int .u64 v.2.2.2.2.2])],126⟩)) (wz [0,1]) (fun s1=>?_) fun x11=>?_
 ·refine hbr 1 [21] (?_) ?_
  ·refine hoh 6 (fun _ _ h k=>Zu (k:=.u64) (k':=.i64) (a:=1) (b:=p0) kr gE h k) <| hoh 2 (fun _ _ h k=>Zu (k:=.u64) (k':=.i64) (a:=1) (b:=s1.1) kr gE h k) <| hqj 2 [20,22,7,23,27] [] [] (fun _=>hnx 4 (wz [0,1])) fun _=>?_
   iterate 5
    refine hqj 0 [20,22,7,23,27] [] [] (fun _=>hnx 4 (wz [0,1])) fun _=>?_
   refine hnn
  refine hdx 1 (wz [0,1])
 refine hop 3 (fun _=>Qn (enc:=eTapi_Fact) (l:=p1) (fl:=true) kr gE) <| hlp 1 (fun s12=>⟨(Qfi p0)++[(34,eL true eTapi_Fact p1),(35,vI (zn p1)),(36,vI s12.1)],[Qb0,oX true true 7 (.agg [vI p0,.int .u64 s12.2.1,.int .u64 s12.2.2.1,.int .u64 s12.2.2.2.1,.int .u64 s12.2.2.2.2.1,.int .u64 s12.2.2.2.2.2.1,.int .u64 s12.2.2.2.2.2.2.1]),mapK zp (AV.int .u64) s12.2.2.2.2.2.2.2],126⟩) (fun v=>(.exit 2,⟨(Qfi p0),[Qb0,oX true true 7 (.agg [vI p0,.int .u64 v.1,.int .u64 v.2.1,.int .u64 v.2.2.1,.int .u64 v.2.2.2.1,.int .u64 v.2.2.2.2.1,.int .u64 v.2.2.2.2.2.1]),mapK zp (AV.int .u64) v.2.2.2.2.2.2],126⟩)) (wk_gcK (live:=[0,4,6,8,34,35,36]) (keep:=[0,1,2]) 2 zp (AV.int .u64) [] (fun f a=>rfl) (fun f a=>rfl) kr kr) (fun s12=>?_) fun x60=>?_
 ·refine hbr 1 [37] (?_) ?_
  ·refine hbd fun a15 q16=>hop 1 (fun _=>Q2 (enc:=eTapi_Fact) (l:=p1) (n:=s12.1) (fl:=true) (w:=3) (a:=a15) kr kr gE q16) <| hqj 7 [41] [(38,[0]),(39,[0])] [(3,[0])] (fun _=>?_) (fun _=>?_)
   ·refine hoh 4 (fun _ _ h k=>Zu (k:=.u64) (k':=.i64) (a:=1) (b:=a15.Y) kr gE h k) <| hqj 8 [46,52] [(38,[1]),(39,[1])] [(3,[1])] (fun _=>?_) (fun _=>?_)
    ·refine hop 17 (fun _=>Xn (ob:=2) (kt:=62) (ke:=zp) (enc:=(AV.int .u64)) (e:=zq) (l:=s12.2.2.2.2.2.2.2) (n:=(0,0)) (v:=a15.Z) kr (fun _ _=>by kernel_rfl) kr gE kr) <| hnx 2 (wk_gcK (live:=[0,4,6,8,34,35,36]) (keep:=[0,1,2]) 2 zp (AV.int .u64) (kput zq s12.2.2.2.2.2.2.2 (0,0) a15.Z) (fun f a=>rfl) (fun f a=>rfl) kr kr)
    refine hqj 0 [46,52] [(38,[1]),(39,[1])] [(3,[1])] (fun _=>?_) (fun _=>?_)
    ·refine hop 17 (fun _=>Xn (ob:=2) (kt:=62) (ke:=zp) (enc:=(AV.int .u64)) (e:=zq) (l:=s12.2.2.2.2.2.2.2) (n:=(0,1)) (v:=a15.Z) kr (fun _ _=>by kernel_rfl) kr gE kr) <| hnx 2 (wk_gcK (live:=[0,4,6,8,34,35,36]) (keep:=[0,1,2]) 2 zp (AV.int .u64) (kput zq s12.2.2.2.2.2.2.2 (0,1) a15.Z) (fun f a=>rfl) (fun f a=>rfl) kr kr)
    refine hqj 0 [46,52] [(38,[1]),(39,[1])] [(3,[1])] (fun _=>?_) (fun _=>?_)
    ·refine hop 17 (fun _=>Xn (ob:=2) (kt:=62) (ke:=zp) (enc:=(AV.int .u64)) (e:=zq) (l:=s12.2.2.2.2.2.2.2) (n:=(0,2)) (v:=a15.Z) kr (fun _ _=>by kernel_rfl) kr gE kr) <| hnx 2 (wk_gcK (live:=[0,4,6,8,34,35,36]) (keep:=[0,1,2]) 2 zp (AV.int .u64) (kput zq s12.2.2.2.2.2.2.2 (0,2) a15.Z) (fun f a=>rfl) (fun f a=>rfl) kr kr)
    refine hqj 0 [46,52] [(38,[1]),(39,[1])] [(3,[1])] (fun _=>?_) (fun _=>?_)
    ·refine hop 17 (fun _=>Xn (ob:=2) (kt:=62) (ke:=zp) (enc:=(AV.int .u64)) (e:=zq) (l:=s12.2.2.2.2.2.2.2) (n:=(0,3)) (v:=a15.Z) kr (fun _ _=>by kernel_rfl) kr gE kr) <| hnx 2 (wk_gcK (live:=[0,4,6,8,34,35,36]) (keep:=[0,1,2]) 2 zp (AV.int .u64) (kput zq s12.2.2.2.2.2.2.2 (0,3) a15.Z) (fun f a=>rfl) (fun f a=>rfl) kr kr)
    refine hqj 0 [46,52] [(38,[1]),(39,[1])] [(3,[1])] (fun _=>?_) (fun _=>?_)
    ·refine hop 17 (fun _=>Xn (ob:=2) (kt:=62) (ke:=zp) (enc:=(AV.int .u64)) (e:=zq) (l:=s12.2.2.2.2.2.2.2) (n:=(0,4)) (v:=a15.Z) kr (fun _ _=>by kernel_rfl) kr gE kr) <| hnx 2 (wk_gcK (live:=[0,4,6,8,34,35,36]) (keep:=[0,1,2]) 2 zp (AV.int .u64) (kput zq s12.2.2.2.2.2.2.2 (0,4) a15.Z) (fun f a=>rfl) (fun f a=>rfl) kr kr)
    refine hqj 0 [46,52] [(38,[1]),(39,[1])] [(3,[1])] (fun _=>?_) (fun _=>?_)
    ·refine hop 17 (fun _=>Xn (ob:=2) (kt:=62) (ke:=zp) (enc:=(AV.int .u64)) (e:=zq) (l:=s12.2.2.2.2.2.2.2) (n:=(0,5)) (v:=a15.Z) kr (fun _ _=>by kernel_rfl) kr gE kr) <| hnx 2 (wk_gcK (live:=[0,4,6,8,34,35,36]) (keep:=[0,1,2]) 2 zp (AV.int .u64) (kput zq s12.2.2.2.2.2.2.2 (0,5) a15.Z) (fun f a=>rfl) (fun f a=>rfl) kr kr)
    refine hnn
   refine hqj 0 [41] [(38,[0]),(39,[0])] [(3,[0])] (fun _=>?_) (fun _=>?_)
   ·refine hoh 4 (fun _ _ h k=>Zu (k:=.u64) (k':=.i64) (a:=1) (b:=a15.Y) kr gE h k) <| hqj 8 [46,52] [(38,[1]),(39,[1])] [(3,[1])] (fun _=>?_) (fun _=>?_)
    ·refine hop 17 (fun _=>Xn (ob:=2) (kt:=62) (ke:=zp) (enc:=(AV.int .u64)) (e:=zq) (l:=s12.2.2.2.2.2.2.2) (n:=(1,0)) (v:=a15.Z) kr (fun _ _=>by kernel_rfl) kr gE kr) <| hnx 2 (wk_gcK (live:=[0,4,6,8,34,35,36]) (keep:=[0,1,2]) 2 zp (AV.int .u64) (kput zq s12.2.2.2.2.2.2.2 (1,0) a15.Z) (fun f a=>rfl) (fun f a=>rfl) kr kr)
    refine hqj 0 [46,52] [(38,[1]),(39,[1])] [(3,[1])] (fun _=>?_) (fun _=>?_)
    ·refine hop 17 (fun _=>Xn (ob:=2) (kt:=62) (ke:=zp) (enc:=(AV.int .u64)) (e:=zq) (l:=s12.2.2.2.2.2.2.2) (n:=(1,1)) (v:=a15.Z) kr (fun _ _=>by kernel_rfl) kr gE kr) <| hnx 2 (wk_gcK (live:=[0,4,6,8,34,35,36]) (keep:=[0,1,2]) 2 zp (AV.int .u64) (kput zq s12.2.2.2.2.2.2.2 (1,1) a15.Z) (fun f a=>rfl) (fun f a=>rfl) kr kr)
    refine hqj 0 [46,52] [(38,[1]),(39,[1])] [(3,[1])] (fun _=>?_) (fun _=>?_)
    ·refine hop 17 (fun _=>Xn (ob:=2) (kt:=62) (ke:=zp) (enc:=(AV.int .u64)) (e:=zq) (l:=s12.2.2.2.2.2.2.2) (n:=(1,2)) (v:=a15.Z) kr (fun _ _=>by kernel_rfl) kr gE kr) <| hnx 2 (wk_gcK (live:=[0,4,6,8,34,35,36]) (keep:=[0,1,2]) 2 zp (AV.int .u64) (kput zq s12.2.2.2.2.2.2.2 (1,2) a15.Z) (fun f a=>rfl) (fun f a=>rfl) kr kr)
    refine hqj 0 [46,52] [(38,[1]),(39,[1])] [(3,[1])] (fun _=>?_) (fun _=>?_)
    ·refine hop 17 (fun _=>Xn (ob:=2) (kt:=62) (ke:=zp) (enc:=(AV.int .u64)) (e:=zq) (l:=s12.2.2.2.2.2.2.2) (n:=(1,3)) (v:=a15.Z) kr (fun _ _=>by kernel_rfl) kr gE kr) <| hnx 2 (wk_gcK (live:=[0,4,6,8,34,35,36]) (keep:=[0,1,2]) 2 zp (AV.int .u64) (kput zq s12.2.2.2.2.2.2.2 (1,3) a15.Z) (fun f a=>rfl) (fun f a=>rfl) kr kr)
    refine hqj 0 [46,52] [(38,[1]),(39,[1])] [(3,[1])] (fun _=>?_) (fun _=>?_)
    ·refine hop 17 (fun _=>Xn (ob:=2) (kt:=62) (ke:=zp) (enc:=(AV.int .u64)) (e:=zq) (l:=s12.2.2.2.2.2.2.2) (n:=(1,4)) (v:=a15.Z) kr (fun _ _=>by kernel_rfl) kr gE kr) <| hnx 2 (wk_gcK (live:=[0,4,6,8,34,35,36]) (keep:=[0,1,2]) 2 zp (AV.int .u64) (kput zq s12.2.2.2.2.2.2.2 (1,4) a15.Z) (fun f a=>rfl) (fun f a=>rfl) kr kr)
    refine hqj 0 [46,52] [(38,[1]),(39,[1])] [(3,[1])] (fun _=>?_) (fun _=>?_)
    ·refine hop 17 (fun _=>Xn (ob:=2) (kt:=62) (ke:=zp) (enc:=(AV.int .u64)) (e:=zq) (l:=s12.2.2.2.2.2.2.2) (n:=(1,5)) (v:=a15.Z) kr (fun _ _=>by kernel_rfl) kr gE kr) <| hnx 2 (wk_gcK (live:=[0,4,6,8,34,35,36]) (keep:=[0,1,2]) 2 zp (AV.int .u64) (kput zq s12.2.2.2.2.2.2.2 (1,5) a15.Z) (fun f a=>rfl) (fun f a=>rfl) kr kr)
    refine hnn
   refine hqj 0 [41] [(38,[0]),(39,[0])] [(3,[0])] (fun _=>?_) (fun _=>?_)
   ·refine hoh 4 (fun _ _ h k=>Zu (k:=.u64) (k':=.i64) (a:=1) (b:=a15.Y) kr gE h k) <| hqj 8 [46,52] [(38,[1]),(39,[1])] [(3,[1])] (fun _=>?_) (fun _=>?_)
    ·refine hop 17 (fun _=>Xn (ob:=2) (kt:=62) (ke:=zp) (enc:=(AV.int .u64)) (e:=zq) (l:=s12.2.2.2.2.2.2.2) (n:=(2,0)) (v:=a15.Z) kr (fun _ _=>by kernel_rfl) kr gE kr) <| hnx 2 (wk_gcK (live:=[0,4,6,8,34,35,36]) (keep:=[0,1,2]) 2 zp (AV.int .u64) (kput zq s12.2.2.2.2.2.2.2 (2,0) a15.Z) (fun f a=>rfl) (fun f a=>rfl) kr kr)
    refine hqj 0 [46,52] [(38,[1]),(39,[1])] [(3,[1])] (fun _=>?_) (fun _=>?_)
    ·refine hop 17 (fun _=>Xn (ob:=2) (kt:=62) (ke:=zp) (enc:=(AV.int .u64)) (e:=zq) (l:=s12.2.2.2.2.2.2.2) (n:=(2,1)) (v:=a15.Z) kr (fun _ _=>by kernel_rfl) kr gE kr) <| hnx 2 (wk_gcK (live:=[0,4,6,8,34,35,36]) (keep:=[0,1,2]) 2 zp (AV.int .u64) (kput zq s12.2.2.2.2.2.2.2 (2,1) a15.Z) (fun f a=>rfl) (fun f a=>rfl) kr kr)
    refine hqj 0 [46,52] [(38,[1]),(39,[1])] [(3,[1])] (fun _=>?_) (fun _=>?_)
    ·refine hop 17 (fun _=>Xn (ob:=2) (kt:=62) (ke:=zp) (enc:=(AV.int .u64)) (e:=zq) (l:=s12.2.2.2.2.2.2.2) (n:=(2,2)) (v:=a15.Z) kr (fun _ _=>by kernel_rfl) kr gE kr) <| hnx 2 (wk_gcK (live:=[0,4,6,8,34,35,36]) (keep:=[0,1,2]) 2 zp (AV.int .u64) (kput zq s12.2.2.2.2.2.2.2 (2,2) a15.Z) (fun f a=>rfl) (fun f a=>rfl) kr kr)
    refine hqj 0 [46,52] [(38,[1]),(39,[1])] [(3,[1])] (fun _=>?_) (fun _=>?_)
    ·refine hop 17 (fun _=>Xn (ob:=2) (kt:=62) (ke:=zp) (enc:=(AV.int .u64)) (e:=zq) (l:=s12.2.2.2.2.2.2.2) (n:=(2,3)) (v:=a15.Z) kr (fun _ _=>by kernel_rfl) kr gE kr) <| hnx 2 (wk_gcK (live:=[0,4,6,8,34,35,36]) (keep:=[0,1,2]) 2 zp (AV.int .u64) (kput zq s12.2.2.2.2.2.2.2 (2,3) a15.Z) (fun f a=>rfl) (fun f a=>rfl) kr kr)
    refine hqj 0 [46,52] [(38,[1]),(39,[1])] [(3,[1])] (fun _=>?_) (fun _=>?_)
    ·refine hop 17 (fun _=>Xn (ob:=2) (kt:=62) (ke:=zp) (enc:=(AV.int .u64)) (e:=zq) (l:=s12.2.2.2.2.2.2.2) (n:=(2,4)) (v:=a15.Z) kr (fun _ _=>by kernel_rfl) kr gE kr) <| hnx 2 (wk_gcK (live:=[0,4,6,8,34,35,36]) (keep:=[0,1,2]) 2 zp (AV.int .u64) (kput zq s12.2.2.2.2.2.2.2 (2,4) a15.Z) (fun f a=>rfl) (fun f a=>rfl) kr kr)
    refine hqj 0 [46,52] [(38,[1]),(39,[1])] [(3,[1])] (fun _=>?_) (fun _=>?_)
    ·refine hop 17 (fun _=>Xn (ob:=2) (kt:=62) (ke:=zp) (enc:=(AV.int .u64)) (e:=zq) (l:=s12.2.2.2.2.2.2.2) (n:=(2,5)) (v:=a15.Z) kr (fun _ _=>by kernel_rfl) kr gE kr) <| hnx 2 (wk_gcK (live:=[0,4,6,8,34,35,36]) (keep:=[0,1,2]) 2 zp (AV.int .u64) (kput zq s12.2.2.2.2.2.2.2 (2,5) a15.Z) (fun f a=>rfl) (fun f a=>rfl) kr kr)
    refine hnn
   refine hqj 0 [41] [(38,[0]),(39,[0])] [(3,[0])] (fun _=>?_) (fun _=>?_)
   ·refine hoh 4 (fun _ _ h k=>Zu (k:=.u64) (k':=.i64) (a:=1) (b:=a15.Y) kr gE h k) <| hqj 8 [46,52] [(38,[1]),(39,[1])] [(3,[1])] (fun _=>?_) (fun _=>?_)
    ·refine hop 17 (fun _=>Xn (ob:=2) (kt:=62) (ke:=zp) (enc:=(AV.int .u64)) (e:=zq) (l:=s12.2.2.2.2.2.2.2) (n:=(3,0)) (v:=a15.Z) kr (fun _ _=>by kernel_rfl) kr gE kr) <| hnx 2 (wk_gcK (live:=[0,4,6,8,34,35,36]) (keep:=[0,1,2]) 2 zp (AV.int .u64) (kput zq s12.2.2.2.2.2.2.2 (3,0) a15.Z) (fun f a=>rfl) (fun f a=>rfl) kr kr)
    refine hqj 0 [46,52] [(38,[1]),(39,[1])] [(3,[1])] (fun _=>?_) (fun _=>?_)
    ·refine hop 17 (fun _=>Xn (ob:=2) (kt:=62) (ke:=zp) (enc:=(AV.int .u64)) (e:=zq) (l:=s12.2.2.2.2.2.2.2) (n:=(3,1)) (v:=a15.Z) kr (fun _ _=>by kernel_rfl) kr gE kr) <| hnx 2 (wk_gcK (live:=[0,4,6,8,34,35,36]) (keep:=[0,1,2]) 2 zp (AV.int .u64) (kput zq s12.2.2.2.2.2.2.2 (3,1) a15.Z) (fun f a=>rfl) (fun f a=>rfl) kr kr)
    refine hqj 0 [46,52] [(38,[1]),(39,[1])] [(3,[1])] (fun _=>?_) (fun _=>?_)
    ·refine hop 17 (fun _=>Xn (ob:=2) (kt:=62) (ke:=zp) (enc:=(AV.int .u64)) (e:=zq) (l:=s12.2.2.2.2.2.2.2) (n:=(3,2)) (v:=a15.Z) kr (fun _ _=>by kernel_rfl) kr gE kr) <| hnx 2 (wk_gcK (live:=[0,4,6,8,34,35,36]) (keep:=[0,1,2]) 2 zp (AV.int .u64) (kput zq s12.2.2.2.2.2.2.2 (3,2) a15.Z) (fun f a=>rfl) (fun f a=>rfl) kr kr)
    refine hqj 0 [46,52] [(38,[1]),(39,[1])] [(3,[1])] (fun _=>?_) (fun _=>?_)
    ·refine hop 17 (fun _=>Xn (ob:=2) (kt:=62) (ke:=zp) (enc:=(AV.int .u64)) (e:=zq) (l:=s12.2.2.2.2.2.2.2) (n:=(3,3)) (v:=a15.Z) kr (fun _ _=>by kernel_rfl) kr gE kr) <| hnx 2 (wk_gcK (live:=[0,4,6,8,34,35,36]) (keep:=[0,1,2]) 2 zp (AV.int .u64) (kput zq s12.2.2.2.2.2.2.2 (3,3) a15.Z) (fun f a=>rfl) (fun f a=>rfl) kr kr)
    refine hqj 0 [46,52] [(38,[1]),(39,[1])] [(3,[1])] (fun _=>?_) (fun _=>?_)
    ·refine hop 17 (fun _=>Xn (ob:=2) (kt:=62) (ke:=zp) (enc:=(AV.int .u64)) (e:=zq) (l:=s12.2.2.2.2.2.2.2) (n:=(3,4)) (v:=a15.Z) kr (fun _ _=>by kernel_rfl) kr gE kr) <| hnx 2 (wk_gcK (live:=[0,4,6,8,34,35,36]) (keep:=[0,1,2]) 2 zp (AV.int .u64) (kput zq s12.2.2.2.2.2.2.2 (3,4) a15.Z) (fun f a=>rfl) (fun f a=>rfl) kr kr)
    refine hqj 0 [46,52] [(38,[1]),(39,[1])] [(3,[1])] (fun _=>?_) (fun _=>?_)
    ·refine hop 17 (fun _=>Xn (ob:=2) (kt:=62) (ke:=zp) (enc:=(AV.int .u64)) (e:=zq) (l:=s12.2.2.2.2.2.2.2) (n:=(3,5)) (v:=a15.Z) kr (fun _ _=>by kernel_rfl) kr gE kr) <| hnx 2 (wk_gcK (live:=[0,4,6,8,34,35,36]) (keep:=[0,1,2]) 2 zp (AV.int .u64) (kput zq s12.2.2.2.2.2.2.2 (3,5) a15.Z) (fun f a=>rfl) (fun f a=>rfl) kr kr)
    refine hnn
   refine hqj 0 [41] [(38,[0]),(39,[0])] [(3,[0])] (fun _=>?_) (fun _=>?_)
   ·refine hoh 4 (fun _ _ h k=>Zu (k:=.u64) (k':=.i64) (a:=1) (b:=a15.Y) kr gE h k) <| hqj 8 [46,52] [(38,[1]),(39,[1])] [(3,[1])] (fun _=>?_) (fun _=>?_)
    ·refine hop 17 (fun _=>Xn (ob:=2) (kt:=62) (ke:=zp) (enc:=(AV.int .u64)) (e:=zq) (l:=s12.2.2.2.2.2.2.2) (n:=(4,0)) (v:=a15.Z) kr (fun _ _=>by kernel_rfl) kr gE kr) <| hnx 2 (wk_gcK (live:=[0,4,6,8,34,35,36]) (keep:=[0,1,2]) 2 zp (AV.int .u64) (kput zq s12.2.2.2.2.2.2.2 (4,0) a15.Z) (fun f a=>rfl) (fun f a=>rfl) kr kr)
    refine hqj 0 [46,52] [(38,[1]),(39,[1])] [(3,[1])] (fun _=>?_) (fun _=>?_)
    ·refine hop 17 (fun _=>Xn (ob:=2) (kt:=62) (ke:=zp) (enc:=(AV.int .u64)) (e:=zq) (l:=s12.2.2.2.2.2.2.2) (n:=(4,1)) (v:=a15.Z) kr (fun _ _=>by kernel_rfl) kr gE kr) <| hnx 2 (wk_gcK (live:=[0,4,6,8,34,35,36]) (keep:=[0,1,2]) 2 zp (AV.int .u64) (kput zq s12.2.2.2.2.2.2.2 (4,1) a15.Z) (fun f a=>rfl) (fun f a=>rfl) kr kr)
    refine hqj 0 [46,52] [(38,[1]),(39,[1])] [(3,[1])] (fun _=>?_) (fun _=>?_)
    ·refine hop 17 (fun _=>Xn (ob:=2) (kt:=62) (ke:=zp) (enc:=(AV.int .u64)) (e:=zq) (l:=s12.2.2.2.2.2.2.2) (n:=(4,2)) (v:=a15.Z) kr (fun _ _=>by kernel_rfl) kr gE kr) <| hnx 2 (wk_gcK (live:=[0,4,6,8,34,35,36]) (keep:=[0,1,2]) 2 zp (AV.int .u64) (kput zq s12.2.2.2.2.2.2.2 (4,2) a15.Z) (fun f a=>rfl) (fun f a=>rfl) kr kr)
    refine hqj 0 [46,52] [(38,[1]),(39,[1])] [(3,[1])] (fun _=>?_) (fun _=>?_)
    ·refine hop 17 (fun _=>Xn (ob:=2) (kt:=62) (ke:=zp) (enc:=(AV.int .u64)) (e:=zq) (l:=s12.2.2.2.2.2.2.2) (n:=(4,3)) (v:=a15.Z) kr (fun _ _=>by kernel_rfl) kr gE kr) <| hnx 2 (wk_gcK (live:=[0,4,6,8,34,35,36]) (keep:=[0,1,2]) 2 zp (AV.int .u64) (kput zq s12.2.2.2.2.2.2.2 (4,3) a15.Z) (fun f a=>rfl) (fun f a=>rfl) kr kr)
    refine hqj 0 [46,52] [(38,[1]),(39,[1])] [(3,[1])] (fun _=>?_) (fun _=>?_)
    ·refine hop 17 (fun _=>Xn (ob:=2) (kt:=62) (ke:=zp) (enc:=(AV.int .u64)) (e:=zq) (l:=s12.2.2.2.2.2.2.2) (n:=(4,4)) (v:=a15.Z) kr (fun _ _=>by kernel_rfl) kr gE kr) <| hnx 2 (wk_gcK (live:=[0,4,6,8,34,35,36]) (keep:=[0,1,2]) 2 zp (AV.int .u64) (kput zq s12.2.2.2.2.2.2.2 (4,4) a15.Z) (fun f a=>rfl) (fun f a=>rfl) kr kr)
    refine hqj 0 [46,52] [(38,[1]),(39,[1])] [(3,[1])] (fun _=>?_) (fun _=>?_)
    ·refine hop 17 (fun _=>Xn (ob:=2) (kt:=62) (ke:=zp) (enc:=(AV.int .u64)) (e:=zq) (l:=s12.2.2.2.2.2.2.2) (n:=(4,5)) (v:=a15.Z) kr (fun _ _=>by kernel_rfl) kr gE kr) <| hnx 2 (wk_gcK (live:=[0,4,6,8,34,35,36]) (keep:=[0,1,2]) 2 zp (AV.int .u64) (kput zq s12.2.2.2.2.2.2.2 (4,5) a15.Z) (fun f a=>rfl) (fun f a=>rfl) kr kr)
    refine hnn
   refine hqj 0 [41] [(38,[0]),(39,[0])] [(3,[0])] (fun _=>?_) (fun _=>?_)
   ·refine hoh 4 (fun _ _ h k=>Zu (k:=.u64) (k':=.i64) (a:=1) (b:=a15.Y) kr gE h k) <| hqj 8 [46,52] [(38,[1]),(39,[1])] [(3,[1])] (fun _=>?_) (fun _=>?_)
    ·refine hop 17 (fun _=>Xn (ob:=2) (kt:=62) (ke:=zp) (enc:=(AV.int .u64)) (e:=zq) (l:=s12.2.2.2.2.2.2.2) (n:=(5,0)) (v:=a15.Z) kr (fun _ _=>by kernel_rfl) kr gE kr) <| hnx 2 (wk_gcK (live:=[0,4,6,8,34,35,36]) (keep:=[0,1,2]) 2 zp (AV.int .u64) (kput zq s12.2.2.2.2.2.2.2 (5,0) a15.Z) (fun f a=>rfl) (fun f a=>rfl) kr kr)
    refine hqj 0 [46,52] [(38,[1]),(39,[1])] [(3,[1])] (fun _=>?_) (fun _=>?_)
    ·refine hop 17 (fun _=>Xn (ob:=2) (kt:=62) (ke:=zp) (enc:=(AV.int .u64)) (e:=zq) (l:=s12.2.2.2.2.2.2.2) (n:=(5,1)) (v:=a15.Z) kr (fun _ _=>by kernel_rfl) kr gE kr) <| hnx 2 (wk_gcK (live:=[0,4,6,8,34,35,36]) (keep:=[0,1,2]) 2 zp (AV.int .u64) (kput zq s12.2.2.2.2.2.2.2 (5,1) a15.Z) (fun f a=>rfl) (fun f a=>rfl) kr kr)
    refine hqj 0 [46,52] [(38,[1]),(39,[1])] [(3,[1])] (fun _=>?_) (fun _=>?_)
    ·refine hop 17 (fun _=>Xn (ob:=2) (kt:=62) (ke:=zp) (enc:=(AV.int .u64)) (e:=zq) (l:=s12.2.2.2.2.2.2.2) (n:=(5,2)) (v:=a15.Z) kr (fun _ _=>by kernel_rfl) kr gE kr) <| hnx 2 (wk_gcK (live:=[0,4,6,8,34,35,36]) (keep:=[0,1,2]) 2 zp (AV.int .u64) (kput zq s12.2.2.2.2.2.2.2 (5,2) a15.Z) (fun f a=>rfl) (fun f a=>rfl) kr kr)
    refine hqj 0 [46,52] [(38,[1]),(39,[1])] [(3,[1])] (fun _=>?_) (fun _=>?_)
    ·refine hop 17 (fun _=>Xn (ob:=2) (kt:=62) (ke:=zp) (enc:=(AV.int .u64)) (e:=zq) (l:=s12.2.2.2.2.2.2.2) (n:=(5,3)) (v:=a15.Z) kr (fun _ _=>by kernel_rfl) kr gE kr) <| hnx 2 (wk_gcK (live:=[0,4,6,8,34,35,36]) (keep:=[0,1,2]) 2 zp (AV.int .u64) (kput zq s12.2.2.2.2.2.2.2 (5,3) a15.Z) (fun f a=>rfl) (fun f a=>rfl) kr kr)
    refine hqj 0 [46,52] [(38,[1]),(39,[1])] [(3,[1])] (fun _=>?_) (fun _=>?_)
    ·refine hop 17 (fun _=>Xn (ob:=2) (kt:=62) (ke:=zp) (enc:=(AV.int .u64)) (e:=zq) (l:=s12.2.2.2.2.2.2.2) (n:=(5,4)) (v:=a15.Z) kr (fun _ _=>by kernel_rfl) kr gE kr) <| hnx 2 (wk_gcK (live:=[0,4,6,8,34,35,36]) (keep:=[0,1,2]) 2 zp (AV.int .u64) (kput zq s12.2.2.2.2.2.2.2 (5,4) a15.Z) (fun f a=>rfl) (fun f a=>rfl) kr kr)
    refine hqj 0 [46,52] [(38,[1]),(39,[1])] [(3,[1])] (fun _=>?_) (fun _=>?_)
    ·refine hop 17 (fun _=>Xn (ob:=2) (kt:=62) (ke:=zp) (enc:=(AV.int .u64)) (e:=zq) (l:=s12.2.2.2.2.2.2.2) (n:=(5,5)) (v:=a15.Z) kr (fun _ _=>by kernel_rfl) kr gE kr) <| hnx 2 (wk_gcK (live:=[0,4,6,8,34,35,36]) (keep:=[0,1,2]) 2 zp (AV.int .u64) (kput zq s12.2.2.2.2.2.2.2 (5,5) a15.Z) (fun f a=>rfl) (fun f a=>rfl) kr kr)
    refine hnn
   refine hnn
  refine hdx 1 (wk_gcK (live:=[0,4,6,8]) (keep:=[0,1,2]) 2 zp (AV.int .u64) s12.2.2.2.2.2.2.2 (fun f a=>rfl) (fun f a=>rfl) kr kr)
 refine hlp 4 (fun s61=>⟨(Qfi p0)++[(11,.ref 3 0 s61.2.length),(72,vI p0),(73,vI s61.1)],[Qb0,(Qhf p0 x60),(Qji x60),oR true 3 (fun x:(Int × Int × Int)=>AV.agg [vI x.1,vI x.2.1,vI x.2.2]) s61.2],126⟩) (fun v=>(.exit 4,⟨[(4,.ptr 0 0 0),(6,.ptr 1 0 0),(11,.ref 2 0 v.length)],[Qb0,(Qhf p0 x60),oR true 3 (fun x:(Int × Int × Int)=>AV.agg [vI x.1,vI x.2.1,vI x.2.2]) v],126⟩)) (wk_trans (wk_gcK (live:=[0,4,6,8,11,72,73]) (keep:=[0,1,2]) 2 zp (AV.int .u64) x60.2.2.2.2.2.2 (fun f a=>rfl) (fun f a=>rfl) kr gE) (wk_trans (wk_nil 11 3 true true gE) (wk_gcK (live:=[0,4,6,8,11,72,73]) (keep:=[0,1,2,3]) 2 zp (AV.int .u64) x60.2.2.2.2.2.2 (fun f a=>rfl) (fun f a=>rfl) kr kr))) (fun s61=>?_) fun x87=>?_
 ·refine hbr 1 [74] (?_) ?_
  ·refine hlp 5 (fun s64=>⟨(Qfi p0)++[(11,.ref 3 0 s64.2.length),(12,vI s61.1),(72,vI p0),(73,vI s61.1),(76,vI p0),(77,vI s64.1)],[Qb0,(Qhf p0 x60),(Qji x60),oR true 3 (fun x:(Int × Int × Int)=>AV.agg [vI x.1,vI x.2.1,vI x.2.2]) s64.2],126⟩) (fun v=>(.exit 6,⟨(Qfi p0)++[(11,.ref 3 0 v.length),(72,vI p0),(73,vI s61.1)],[Qb0,(Qhf p0 x60),(Qji x60),oR true 3 (fun x:(Int × Int × Int)=>AV.agg [vI x.1,vI x.2.1,vI x.2.2]) v],126⟩)) (wk_gcK (live:=[0,4,6,8,11,12,72,73,76,77]) (keep:=[0,1,2,3]) 2 zp (AV.int .u64) x60.2.2.2.2.2.2 (fun f a=>rfl) (fun f a=>rfl) kr kr) (fun s64=>?_) fun x85=>?_
   ·refine hbr 1 [78] (?_) ?_
    ·refine hlp 6 (fun s67=>⟨(Qfi p0)++[(11,.ref 3 0 s67.2.length),(12,vI s61.1),(13,vI s64.1),(14,vI s67.1),(72,vI p0),(73,vI s61.1),(76,vI p0),(77,vI s64.1)],[Qb0,(Qhf p0 x60),(Qji x60),oR true 3 (fun x:(Int × Int × Int)=>AV.agg [vI x.1,vI x.2.1,vI x.2.2]) s67.2],126⟩) (fun v=>(.exit 8,⟨(Qfi p0)++[(11,.ref 3 0 v.length),(12,vI s61.1),(72,vI p0),(73,vI s61.1),(76,vI p0),(77,vI s64.1)],[Qb0,(Qhf p0 x60),(Qji x60),oR true 3 (fun x:(Int × Int × Int)=>AV.agg [vI x.1,vI x.2.1,vI x.2.2]) v],126⟩)) (wk_gcK (live:=[0,4,6,8,11,12,13,14,72,73,76,77]) (keep:=[0,1,2,3]) 2 zp (AV.int .u64) x60.2.2.2.2.2.2 (fun f a=>rfl) (fun f a=>rfl) kr kr) (fun s67=>?_) fun x83=>?_
     ·refine hbr 3 [84] (?_) ?_
      ·refine hop 5 (fun _=>Qs5 (ob:=2) (kt:=62) (c:=true) (ke:=zp) (enc:=(AV.int .u64)) (e:=zq) (l:=x60.2.2.2.2.2.2) (n:=(s61.1,s67.1)) (z:=0) kr (fun _ _=>by kernel_rfl) kr (fun _=>rfl) gE) <| hbt 7 (fun b70=>⟨(Qfi p0)++[(11,.ref 3 0 s67.2.length),(12,vI s61.1),(13,vI s64.1),(14,vI s67.1),(72,vI p0),(73,vI s61.1),(76,vI p0),(77,vI s64.1),(82,vI s67.1),(83,vI p0),(84,vB true),(88,.mp 2),(89,vI s61.1),(90,vI s67.1),(91,.agg [vI s61.1,vI s67.1]),(92,.tup [.int .u64 ((Q6 zq x60.2.2.2.2.2.2 (s61.1,s67.1)).getD 0),vB b70]),(87,.tup [.int .u64 ((Q6 zq x60.2.2.2.2.2.2 (s61.1,s67.1)).getD 0),vB b70]),(93,.int .u64 ((Q6 zq x60.2.2.2.2.2.2 (s61.1,s67.1)).getD 0)),(94,vB b70),(15,.int .u64 ((Q6 zq x60.2.2.2.2.2.2 (s61.1,s67.1)).getD 0)),(16,vB b70),(95,vB b70),(96,vB b70)],[Qb0,(Qhf p0 x60),(Qji x60),oR true 3 (fun x:(Int × Int × Int)=>AV.agg [vI x.1,vI x.2.1,vI x.2.2]) s67.2],126⟩) (fun _=>?_) (fun _=>?_)
       ·refine hcl 3 [] (g_equal_skeleton_joined_ok (Ad.mk p0 (x60.1,x60.2.1,x60.2.2.1,x60.2.2.2.1,x60.2.2.2.2.1,x60.2.2.2.2.2.1)) s61.1 s64.1) fun x72 _=>hbr 2 [100,101,102] (?_) ?_
        ·refine hcl 3 [] (g_equal_skeleton_joined_ok (Ad.mk p0 (x60.1,x60.2.1,x60.2.2.1,x60.2.2.2.1,x60.2.2.2.2.1,x60.2.2.2.2.2.1)) s64.1 s67.1) fun x76 _=>hbr 2 [106,107,108] (?_) ?_
         ·refine hoh 2 (fun _ _ h k=>Xm (k:=.u64) (k':=.i64) (a:=(Q6 zq x60.2.2.2.2.2.2 (s61.1,s67.1)).getD 0) (b:=s64.1) kr gE h k) <| hbr 3 [113,114] (?_) ?_
          ·refine hop 6 (fun _=>sgL false [] [] true gE) <| hoh 0 (fun _ _ h k=>V5 (enc:=(fun x:(Int × Int × Int)=>AV.agg [vI x.1,vI x.2.1,vI x.2.2])) (l:=s67.2) (m:=([(s61.1,s64.1,s67.1)]:(List (Int × Int × Int)))) (w:=3) (bytes:=24) (ob:=3) (nr:=true) (fl:=true) (nr':=true) (fl':=true) (b:=.ref 4 0 1) (rds:=[4]) false kr kr kr kr gE kr h k) <| hnx 4 (wk_gcK (live:=[0,4,6,8,11,12,13,14,72,73,76,77]) (keep:=[0,1,2,5]) 2 zp (AV.int .u64) x60.2.2.2.2.2.2 (fun f a=>rfl) (fun f a=>rfl) kr kr)
          refine hnx 4 (wk_gcK (live:=[0,4,6,8,11,12,13,14,72,73,76,77]) (keep:=[0,1,2,3]) 2 zp (AV.int .u64) x60.2.2.2.2.2.2 (fun f a=>rfl) (fun f a=>rfl) kr kr)
         refine hnx 10 (wk_gcK (live:=[0,4,6,8,11,12,13,14,72,73,76,77]) (keep:=[0,1,2,3]) 2 zp (AV.int .u64) x60.2.2.2.2.2.2 (fun f a=>rfl) (fun f a=>rfl) kr kr)
        refine hnx 16 (wk_gcK (live:=[0,4,6,8,11,12,13,14,72,73,76,77]) (keep:=[0,1,2,3]) 2 zp (AV.int .u64) x60.2.2.2.2.2.2 (fun f a=>rfl) (fun f a=>rfl) kr kr)
       refine hnx 22 (wk_gcK (live:=[0,4,6,8,11,12,13,14,72,73,76,77]) (keep:=[0,1,2,3]) 2 zp (AV.int .u64) x60.2.2.2.2.2.2 (fun f a=>rfl) (fun f a=>rfl) kr kr)
      refine hdx 1 (wk_gcK (live:=[0,4,6,8,11,12,72,73,76,77]) (keep:=[0,1,2,3]) 2 zp (AV.int .u64) x60.2.2.2.2.2.2 (fun f a=>rfl) (fun f a=>rfl) kr kr)
     refine hnx 2 (wk_gcK (live:=[0,4,6,8,11,12,72,73,76,77]) (keep:=[0,1,2,3]) 2 zp (AV.int .u64) x60.2.2.2.2.2.2 (fun f a=>rfl) (fun f a=>rfl) kr kr)
    refine hdx 1 (wk_gcK (live:=[0,4,6,8,11,72,73]) (keep:=[0,1,2,3]) 2 zp (AV.int .u64) x60.2.2.2.2.2.2 (fun f a=>rfl) (fun f a=>rfl) kr kr)
   refine hnx 2 (wk_gcK (live:=[0,4,6,8,11,72,73]) (keep:=[0,1,2,3]) 2 zp (AV.int .u64) x60.2.2.2.2.2.2 (fun f a=>rfl) (fun f a=>rfl) kr kr)
  refine hdx 1 (wz [0,1,3])
 refine hrt 5
theorem Vm (p0:(List (Int × Int × Int))) (p1:(List (Int × Int × Int))):Ct Tryd.prog 55 [eL true (fun x:(Int × Int × Int)=>AV.agg [vI x.1,vI x.2.1,vI x.2.2]) p0,eL true (fun x:(Int × Int × Int)=>AV.agg [vI x.1,vI x.2.1,vI x.2.2]) p1] (Zx p0 p1) (fun x=>vB x) (fun x=>[]):=by
 refine hfn [] Tryd.func55 <| hop 2 (fun _=>Qn (enc:=(fun x:(Int × Int × Int)=>AV.agg [vI x.1,vI x.2.1,vI x.2.2])) (l:=p0) (fl:=true) kr gE) <| hop 1 (fun _=>Qn (enc:=(fun x:(Int × Int × Int)=>AV.agg [vI x.1,vI x.2.1,vI x.2.2])) (l:=p1) (fl:=true) kr gE) <| hbr 1 [10] (hrt 3) <| ?_
 refine hop 2 (fun _=>Qn (enc:=(fun x:(Int × Int × Int)=>AV.agg [vI x.1,vI x.2.1,vI x.2.2])) (l:=p0) (fl:=true) kr gE) <| hlp 1 (fun s3=>⟨[(0,eL true (fun x:(Int × Int × Int)=>AV.agg [vI x.1,vI x.2.1,vI x.2.2]) p0),(1,eL true (fun x:(Int × Int × Int)=>AV.agg [vI x.1,vI x.2.1,vI x.2.2]) p1),(12,vI (zn p0)),(13,vI s3)],[],26⟩) (fun x=>match x with | .inl v=>(.ret,⟨[(4,vB false)],[],26⟩) | .inr v=>(.exit 0,⟨[],[],26⟩)) (wz []) (fun s3=>?_) (hsm (fun x13=>?_) (fun x14=>?_))
 ·refine hbr 1 [14] (?_) ?_
  ·refine hbd fun a6 q7=>hop 6 (fun _=>Q2 (enc:=(fun x:(Int × Int × Int)=>AV.agg [vI x.1,vI x.2.1,vI x.2.2])) (l:=p0) (n:=s3) (fl:=true) (w:=3) (a:=a6) kr kr gE q7) <| hbd fun a8 q9=>hop 3 (fun _=>Q2 (enc:=(fun x:(Int × Int × Int)=>AV.agg [vI x.1,vI x.2.1,vI x.2.2])) (l:=p1) (n:=s3) (fl:=true) (w:=3) (a:=a8) kr kr gE q9) <| hbr 2 [24] (hdx 2 (wz [])) <| ?_
   refine hnx 3 (wz [])
  refine hdx 1 (wz [])
 ·refine hrt 0
 refine hrt 2
noncomputable abbrev Qum (p0:Ad):AObj:=oX true true 7 (.agg [vI p0.n,.int .u64 p0.near.1,.int .u64 p0.near.2.1,.int .u64 p0.near.2.2.1,.int .u64 p0.near.2.2.2.1,.int .u64 p0.near.2.2.2.2.1,.int .u64 p0.near.2.2.2.2.2])
theorem g_equal_skeleton_pairs_ok (p0:Ad):Ct Tryd.prog 57 [.agg [vI p0.n,.int .u64 p0.near.1,.int .u64 p0.near.2.1,.int .u64 p0.near.2.2.1,.int .u64 p0.near.2.2.2.1,.int .u64 p0.near.2.2.2.2.1,.int .u64 p0.near.2.2.2.2.2]] (Z0 p0) (fun x=>.ref 0 0 x.length) (fun x=>[oR true 2 zp x]):=by
 refine hfn [] Tryd.func57 <| hlp 7 (fun s1=>⟨[(1,.ptr 0 0 0),(3,.ref 1 0 s1.2.length),(8,vI p0.n),(9,vI s1.1)],[(Qum p0),oR true 2 zp s1.2],32⟩) (fun v=>(.exit 0,⟨[(3,.ref 0 0 v.length)],[oR true 2 zp v],32⟩)) (wk_trans (wk_gc (live:=[1,3,8,9]) (keep:=[0]) gE) (wk_trans (wk_nil 3 2 true true gE) (wk_gc (live:=[1,3,8,9]) (keep:=[0,1]) kr))) (fun s1=>?_) fun x14=>?_
 ·refine hbr 1 [10] (?_) ?_
  ·refine hlp 6 (fun s4=>⟨[(1,.ptr 0 0 0),(3,.ref 1 0 s4.2.length),(4,vI s1.1),(5,vI s4.1),(8,vI p0.n),(9,vI s1.1)],[(Qum p0),oR true 2 zp s4.2],32⟩) (fun v=>(.exit 2,⟨[(1,.ptr 0 0 0),(3,.ref 1 0 v.length),(8,vI p0.n),(9,vI s1.1)],[(Qum p0),oR true 2 zp v],32⟩)) (wz [0,1]) (fun s4=>?_) fun x12=>?_
   ·refine hbr 4 [17] (?_) ?_
    ·refine hcl 4 [] (g_equal_skeleton_joined_ok (Ad.mk p0.n (p0.near.1,p0.near.2.1,p0.near.2.2.1,p0.near.2.2.2.1,p0.near.2.2.2.2.1,p0.near.2.2.2.2.2)) s1.1 s4.1) fun x7 _=>hbr 0 [23] (?_) ?_
     ·refine hop 5 (fun _=>sgL false [] [] true gE) <| hoh 0 (fun _ _ h k=>V5 (enc:=zp) (l:=s4.2) (m:=([(s1.1,s4.1)]:(List (Int × Int)))) (w:=2) (bytes:=16) (ob:=1) (nr:=true) (fl:=true) (nr':=true) (fl':=true) (b:=.ref 2 0 1) (rds:=[2]) false kr kr kr kr gE kr h k) <| hnx 4 (wz [0,3])
     refine hnx 4 (wz [0,1])
    refine hdx 1 (wz [0,1])
   refine hnx 2 (wz [0,1])
  refine hdx 1 (wz [1])
 refine hrt 3
end
end Go.Ab
