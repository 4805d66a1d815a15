/- What functions compute. No conditions. -/
import Derived.Test.YtojklbpplceiiaaDoorProg
import Derived.Shelf.SlSortCmp.NoneTotal
import Derived.Test.YtojklbpplceiiaaDoorEng7
import Derived.IntWalk
import Derived.Test.YtojklbpplceiiaaDoorW11
import Derived.Test.YtojklbpplceiiaaDoorEng10
import Derived.KernelRfl
set_option linter.all false
namespace Go.Ab
open Go Go.Shelf Go.Proofs
def Qxp:Go.Shelf.Ren:=⟨fun | 6=>58 | 15=>77 | 14=>76 | 28=>91 | 29=>92 | 20=>83 | 21=>84 | 22=>85 | 23=>86 | 24=>87 | 25=>88 | 26=>89 | 27=>90 | 46=>95 | 47=>96 | 48=>97 | 49=>98 | 50=>99 | 57=>102 | n=>n,fun | 22=>56 | 24=>28 | 25=>60 | 3=>3 | 39=>47 | 0=>0 | 53=>144 | 55=>146 | 4=>4 | 46=>137 | 45=>136 | 50=>141 | 5=>5 | 9=>9 | 66=>154 | 70=>158 | 76=>161 | 77=>162 | n=>n,fun | n=>n⟩
theorem Q55:Go.Proofs.SlLaysF.n6 Tryd.prog Qxp:={
 mixed:=by kernel_rfl,
 f6:=⟨Tryd.f58.name,by decide,Tryd.func58.trans (congrArg some (by kernel_rfl))⟩,
 f14:=⟨Tryd.f76.name,by decide,Tryd.func76.trans (congrArg some (by kernel_rfl))⟩,
 f15:=Tryd.func77.trans (congrArg some (by kernel_rfl)),
 f20:=⟨Tryd.f83.name,by decide,Tryd.func83.trans (congrArg some (by kernel_rfl))⟩,
 f21:=⟨Tryd.f84.name,by decide,Tryd.func84.trans (congrArg some (by kernel_rfl))⟩,
 f22:=⟨Tryd.f85.name,by decide,Tryd.func85.trans (congrArg some (by kernel_rfl))⟩,
 f23:=⟨Tryd.f86.name,by decide,Tryd.func86.trans (congrArg some (by kernel_rfl))⟩,
 f24:=⟨Tryd.f87.name,by decide,Tryd.func87.trans (congrArg some (by kernel_rfl))⟩,
 f25:=⟨Tryd.f88.name,by decide,Tryd.func88.trans (congrArg some (by kernel_rfl))⟩,
 f26:=⟨Tryd.f89.name,by decide,Tryd.func89.trans (congrArg some (by kernel_rfl))⟩,
 f27:=⟨Tryd.f90.name,by decide,Tryd.func90.trans (congrArg some (by kernel_rfl))⟩,
 f28:=Tryd.func91.trans (congrArg some (by kernel_rfl)),
 f29:=Tryd.func92.trans (congrArg some (by kernel_rfl)),
 f46:=⟨Tryd.f95.name,by decide,Tryd.func95.trans (congrArg some (by kernel_rfl))⟩,
 f47:=Tryd.func96.trans (congrArg some (by kernel_rfl)),
 f48:=Tryd.func97.trans (congrArg some (by kernel_rfl)),
 f49:=⟨Tryd.f98.name,by decide,Tryd.func98.trans (congrArg some (by kernel_rfl))⟩,
 f50:=⟨Tryd.f99.name,by decide,Tryd.func99.trans (congrArg some (by kernel_rfl))⟩,
 f57:=⟨Tryd.f102.name,by decide,Tryd.func102.trans (congrArg some (by kernel_rfl))⟩,
 t0:=Tryd.underlying0,
 a0:=Tryd.isAgg0,
 z0:=Tryd.sizeOf0,
 v0:=Tryd.zeroValue0,
 t3:=Tryd.underlying3,
 a3:=Tryd.isAgg3,
 z3:=Tryd.sizeOf3,
 v3:=Tryd.zeroValue3,
 t4:=Tryd.underlying4,
 a4:=Tryd.isAgg4,
 z4:=Tryd.sizeOf4,
 v4:=Tryd.zeroValue4,
 t5:=Tryd.underlying5,
 a5:=Tryd.isAgg5,
 z5:=Tryd.sizeOf5,
 v5:=Tryd.zeroValue5,
 t9:=Tryd.underlying9,
 a9:=Tryd.isAgg9,
 z9:=Tryd.sizeOf9,
 v9:=Tryd.zeroValue9,
 t22:=Tryd.underlying56,
 a22:=Tryd.isAgg56,
 z22:=Tryd.sizeOf56,
 v22:=Tryd.zeroValue56,
 a24:=Tryd.isAgg28,
 z24:=Tryd.sizeOf28,
 t25:=Tryd.underlying60,
 a25:=Tryd.isAgg60,
 z25:=Tryd.sizeOf60,
 v25:=Tryd.zeroValue60,
 t39:=Tryd.underlying47,
 a39:=Tryd.isAgg47,
 z39:=Tryd.sizeOf47,
 v39:=Tryd.zeroValue47,
 t45:=Tryd.underlying136,
 a45:=Tryd.isAgg136,
 z45:=Tryd.sizeOf136,
 v45:=Tryd.zeroValue136,
 t46:=Tryd.underlying137,
 a46:=Tryd.isAgg137,
 z46:=Tryd.sizeOf137,
 v46:=Tryd.zeroValue137,
 t50:=Tryd.underlying141,
 a50:=Tryd.isAgg141,
 z50:=Tryd.sizeOf141,
 v50:=Tryd.zeroValue141,
 t53:=Tryd.underlying144,
 a53:=Tryd.isAgg144,
 z53:=Tryd.sizeOf144,
 v53:=Tryd.zeroValue144,
 t55:=Tryd.underlying146,
 a55:=Tryd.isAgg146,
 z55:=Tryd.sizeOf146,
 v55:=Tryd.zeroValue146,
 t66:=Tryd.underlying154,
 a66:=Tryd.isAgg154,
 z66:=Tryd.sizeOf154,
 v66:=Tryd.zeroValue154,
 t70:=Tryd.underlying158,
 a70:=Tryd.isAgg158,
 z70:=Tryd.sizeOf158,
 v70:=Tryd.zeroValue158,
 t76:=Tryd.underlying161,
 a76:=Tryd.isAgg161,
 z76:=Tryd.sizeOf161,
 v76:=Tryd.zeroValue161,
 t77:=Tryd.underlying162,
 a77:=Tryd.isAgg162,
 z77:=Tryd.sizeOf162,
 v77:=Tryd.zeroValue162 }
end Go.Ab
namespace Go.Ab
open Go
theorem w64 {n:Int} (h:-9223372036854775808≤n∧n≤9223372036854775807):zw n=n:=by show IntKind.wrap .i64 n=n; rw [IntKind.wrap_i64]; omega
theorem Zb {α:Type} {l:List α} {k:Nat} (h:k < l.length):lkI l (k:Int)=some l[k]:=by
 unfold lkI
 rw [if_neg (by omega),Int.toNat_natCast,List.getElem?_eq_getElem h]
theorem Qvh {a b:Int} (h:0≤a):Int.tmod a b=a % b:=Int.tmod_eq_emod_of_nonneg h
end Go.Ab
namespace Go.Ab
open Go
theorem Q2i (a b:Int):Kd a b=some (if a < b then -1 else if b < a then 1 else 0):=by
 unfold Kd K9
 simp only [bne_self_eq_false,Option.bind_some,Bool.false_eq_true,if_false]
 by_cases h1:a < b
 ·simp [h1]
 ·by_cases h2:b < a
  ·simp [h1,h2]
  ·simp [h1,h2]
def cmpL:List Int→List Int→Int
 | [],[]=>0
 | [],_::_=>-1
 | _::_,[]=>1
 | a::x,b::y=>if a < b then -1 else if b < a then 1 else cmpL x y
theorem Qvc (p q:List Int) (hp:p.length < 64):∀(j n k:Nat),k+j=p.length→k≤q.length→j < n →
  ∃r,Qb n (Z4 p q) (k:Int)=some r∧(match r with | .inl x=>some x | .inr _=>if (decide ((p.length:Int) < (q.length:Int)))=true then some (-1) else some 0)=some (cmpL (p.drop k) (q.drop k)):=by
 intro j
 induction j with
 | zero =>
  intro n k h1 h2 h3
  obtain ⟨n,rfl⟩:∃m,n=m+1:=⟨n - 1,by omega⟩
  refine ⟨.inr (),?_,?_⟩
  ·unfold Qb Z4
   rw [if_neg (by simp; omega)]
  ·have e:p.drop k=[]:=List.drop_eq_nil_of_le (by omega)
   rw [e]
   by_cases h:k < q.length
   ·have:q.drop k=q[k]::q.drop (k+1):=List.drop_eq_getElem_cons h
    rw [this]
    simp only [cmpL]
    rw [if_pos (by simp; omega)]
   ·have:q.drop k=[]:=List.drop_eq_nil_of_le (by omega)
    rw [this]
    simp only [cmpL]
    rw [if_neg (by simp; omega)]
 | succ j ih =>
  intro n k h1 h2 h3
  obtain ⟨n,rfl⟩:∃m,n=m+1:=⟨n - 1,by omega⟩
  have hk:k < p.length:=by omega
  have e:p.drop k=p[k]::p.drop (k+1):=List.drop_eq_getElem_cons hk
  unfold Qb
  by_cases h:k < q.length
  ·have e2:q.drop k=q[k]::q.drop (k+1):=List.drop_eq_getElem_cons h
   rw [e,e2]
   simp only [cmpL]
   unfold Z4
   rw [if_pos (by simp; omega),Zb hk,Option.bind_some,if_neg (by simp; omega),Zb h,Option.bind_some,Q2i,Option.bind_some]
   by_cases h4:p[k] < q[k]
   ·refine ⟨.inl (-1),?_,?_⟩
    ·simp [h4]
    ·simp [h4]
   ·by_cases h5:q[k] < p[k]
    ·refine ⟨.inl 1,?_,?_⟩
     ·simp [h4,h5]
     ·simp [h4,h5]
    ·obtain ⟨r,h6,h7⟩:=ih n (k+1) (by omega) (by omega) (by omega)
     refine ⟨r,?_,?_⟩
     ·simp only [h4,h5,if_false,bne_self_eq_false,Bool.false_eq_true]
      rw [w64 (by omega)]
      exact h6
     ·rw [h7]; simp [h4,h5]
  ·have e2:q.drop k=[]:=List.drop_eq_nil_of_le (by omega)
   rw [e,e2]
   unfold Z4
   rw [if_pos (by simp; omega),Zb hk,Option.bind_some,if_pos (by simp; omega)]
   exact ⟨_,rfl,by simp [cmpL]⟩
theorem Q1k (p q:List Int) (hp:Qsp p=true):Yq p q=some (cmpL p q):=by
 unfold Qsp at hp
 have hp:p.length < 64:=by have:=Nat.le_of_ble_eq_true hp; omega
 unfold Yq
 obtain ⟨r,h1,h2⟩:=Qvc p q hp p.length fuel 0 (by omega) (by omega) (by unfold fuel; omega)
 rw [show (0:Int)=((0:Nat):Int) from rfl,h1,Option.bind_some]
 rw [List.drop_zero,List.drop_zero] at h2
 cases r <;> exact h2
theorem Qwn:∀(x y:List Int),cmpL x y < 0↔leL y x=false
 | [],[]=>by simp [cmpL,leL]
 | [],_::_=>by simp [cmpL,leL]
 | _::_,[]=>by simp [cmpL,leL]
 | a::x,b::y=>by
  have:=Qwn x y
  simp only [cmpL,leL]
  by_cases h1:a < b
  ·simp [h1]; omega
  ·by_cases h2:b < a
   ·simp [h1,h2]
   ·have e:b=a:=by omega
    simp [e,this]
theorem Qe8:∀(x y z:List Int),leL x y=true→leL y z=true→leL x z=true
 | [],_,_=>by simp [leL]
 | _::_,[],_=>by simp [leL]
 | _::_,_::_,[]=>by simp [leL]
 | a::x,b::y,c::z=>by
  have:=Qe8 x y z
  simp only [leL,Bool.or_eq_true,Bool.and_eq_true,decide_eq_true_eq,beq_iff_eq]
  rintro (h1 | ⟨h1,h2⟩) (h3 | ⟨h3,h4⟩)
  ·left; omega
  ·left; omega
  ·left; omega
  ·right; exact ⟨by omega,this h2 h4⟩
theorem Qhi:∀(x y:List Int),(leL x y || leL y x)=true
 | [],_=>by simp [leL]
 | _::_,[]=>by simp [leL]
 | a::x,b::y=>by
  have:=Qhi x y
  simp only [leL,Bool.or_eq_true,Bool.and_eq_true,decide_eq_true_eq,beq_iff_eq] at *
  by_cases h1:a < b
  ·exact .inl (.inl h1)
  ·by_cases h2:b < a
   ·exact .inr (.inl h2)
   ·rcases this with h | h
    ·exact .inl (.inr ⟨by omega,h⟩)
    ·exact .inr (.inr ⟨by omega,h⟩)
theorem Qof:∀(x y:List Int),leL x y=true→leL y x=true→x=y
 | [],[]=>by simp
 | [],_::_=>by simp [leL]
 | _::_,[]=>by simp [leL]
 | a::x,b::y=>by
  have:=Qof x y
  simp only [leL,Bool.or_eq_true,Bool.and_eq_true,decide_eq_true_eq,beq_iff_eq]
  rintro (h1 | ⟨h1,h2⟩) (h3 | ⟨h3,h4⟩)
  ·omega
  ·omega
  ·omega
  ·rw [h1,this h2 h4]
theorem Q4x:Qst Qsp Yq leL where
 tot x y hx _:=⟨_,Q1k x y hx,Qwn x y⟩
 trans:=Qe8
 total:=Qhi
 anti:=Qof
end Go.Ab
namespace Go.Ab
open Go Go.Proofs
set_option maxRecDepth 100000
set_option maxHeartbeats 4000000
section
attribute [local irreducible] RW WP
theorem g_equal_acyclic_ok (p0:(List Int)):Ct Tryd.prog 53 [eL true (AV.int .u64) p0] (V9 p0) (fun x=>vB x) (fun x=>[]):=by
 refine hfn [] Tryd.func53 <| hop 3 (fun _=>Zh (enc:=(AV.int .u64)) (l:=p0) (fl:=true) kr gE) <| hlp 1 (fun s1=>⟨[(0,eL true (AV.int .u64) p0),(3,.int .u64 s1.1),(7,vI (zn p0)),(8,vI s1.2)],[],33⟩) (fun v=>(.exit 0,⟨[(0,eL true (AV.int .u64) p0),(3,.int .u64 v)],[],33⟩)) (wz []) (fun s1=>?_) fun x14=>?_
 ·refine hbr 1 [9] (?_) ?_
  ·refine hop 2 (fun _=>Zh (enc:=(AV.int .u64)) (l:=p0) (fl:=true) kr gE) <| hlp 1 (fun s4=>⟨[(0,eL true (AV.int .u64) p0),(3,.int .u64 s4.1),(7,vI (zn p0)),(8,vI s1.2),(10,eL true (AV.int .u64) p0),(11,vI (zn p0)),(12,vI s4.2)],[],33⟩) (fun v=>(.exit 2,⟨[(0,eL true (AV.int .u64) p0),(3,.int .u64 v),(7,vI (zn p0)),(8,vI s1.2)],[],33⟩)) (wz []) (fun s4=>?_) fun x12=>?_
   ·refine hbr 1 [13] (?_) ?_
    ·refine hbd fun a7 q8=>hop 2 (fun _=>Xn (enc:=(AV.int .u64)) (l:=p0) (n:=s4.2) (fl:=true) (w:=1) (a:=a7) kr kr gE q8) <| hbr 7 [20] (hoh 3 (fun _ _ h k=>Qk (k:=.u64) (k':=.i64) (a:=1) (b:=s4.2) kr gE h k) <| hnx 4 (wz [])) <| ?_
     refine hnx 3 (wz [])
    refine hdx 1 (wz [])
   refine hnx 2 (wz [])
  refine hdx 1 (wz [])
 refine hop 2 (fun _=>Zh (enc:=(AV.int .u64)) (l:=p0) (fl:=true) kr gE) <| hoh 0 (fun _ _ h k=>Qk (k:=.u64) (k':=.i64) (a:=1) (b:=(zn p0)) kr gE h k) <| hrt 4
theorem g_equal_Check_ok (p0:(List Int)):Ct Tryd.prog 19 [eL true (AV.int .u64) p0] (Qv p0) (fun x=>vI x) (fun x=>[]):=by
 refine hfn [] Tryd.func19 <| hop 2 (fun _=>Zh (enc:=(AV.int .u64)) (l:=p0) (fl:=true) kr gE) <| hbr 2 [5,6] (hrt 12) <| ?_
 refine hop 1 (fun _=>Zh (enc:=(AV.int .u64)) (l:=p0) (fl:=true) kr gE) <| hbr 3 [9,10,11] (hrt 7) <| ?_
 refine hcl 1 [] (g_equal_acyclic_ok p0) fun x5 _=>hbr 2 [14,15] (hrt 3) <| ?_
 refine hrt 3
noncomputable abbrev o3_1:AObj:=oX true false 2 (.agg [.nils,.nils])
noncomputable abbrev o3_2 (p0 x22:(List Int)):AObj:=oX false false 2 (.agg [eL true (AV.int .u64) p0,.ref 2 0 x22.length])
noncomputable abbrev Qxg (p0:(List Int)):List (Nat×AV):=[(0,eL true (AV.int .u64) p0),(2,.ptr 0 0 0),(4,.ptr 1 0 0)]
theorem g_separate_read_ok (p0:(List Int)):Ct Tryd.prog 80 [eL true (AV.int .u64) p0] (Qa7 p0) (fun x=>.tup [.agg [eL true (AV.int .u64) x.1.ancestry.parents,eL true (AV.int .u64) x.1.children],vI x.2]) (fun x=>[]):=by
 refine hfn [[.lst true,.lst true],[.keep]] Tryd.func80 <| hop 0 (fun _=>sgL false [] [] false gE) <| hop 2 (fun _=>Zh (enc:=(AV.int .u64)) (l:=p0) (fl:=true) kr gE) <| hbr 2 [13,14] (hrt 9) <| ?_
 refine hop 1 (fun _=>Zh (enc:=(AV.int .u64)) (l:=p0) (fl:=true) kr gE) <| hbr 2 [17,18] (hrt 5) <| ?_
 refine hop 4 (fun _=>Zh (enc:=(AV.int .u64)) (l:=p0) (fl:=true) kr gE) <| hoh 0 (fun _ _ h k=>mkL (enc:=(AV.int .u64)) (z:=(0:Int)) (z0:=.int .u64 0) (n:=(zn p0)) (m:=(zn p0)) (w:=1) (bytes:=8) [] true kr kr gE kr h k) <| hop 1 (fun _=>sgL false [] [] false gE) <| hop 4 (fun _=>Zh (enc:=(AV.int .u64)) (l:=p0) (fl:=true) kr gE) <| hlp 1 (fun s5=>⟨(Qxg p0)++[(28,eL true (AV.int .u64) p0),(29,vI (zn p0)),(30,vI s5.1)],[o3_1,oX false false 2 (.agg [eL true (AV.int .u64) p0,.ref 2 0 s5.2.length]),oR true 1 (AV.int .u64) s5.2],95⟩) (fun x=>match x with | .inl v=>(.ret,⟨[(2,.ptr 0 0 0),(3,vI 70)],[o3_1],95⟩) | .inr v=>(.exit 0,⟨[(2,.ptr 0 0 0),(4,.ptr 1 0 0)],[o3_1,oX false false 2 (.agg [eL true (AV.int .u64) p0,.ref 2 0 v.length]),oR true 1 (AV.int .u64) v],95⟩)) (wz [0,2,1]) (fun s5=>?_) (hsm (fun x21=>?_) (fun x22=>?_))
 ·refine hbr 1 [31] (?_) ?_
  ·refine hbd fun a8 q9=>hop 2 (fun _=>Xn (enc:=(AV.int .u64)) (l:=p0) (n:=s5.1) (fl:=true) (w:=1) (a:=a8) kr kr gE q9) <| hop 5 (fun _=>Zh (enc:=(AV.int .u64)) (l:=p0) (fl:=true) kr gE) <| hoh 0 (fun _ _ h k=>X0 (k:=.u64) (k':=.i64) (a:=a8) (b:=(zn p0)) kr gE h k) <| hbr 1 [39] (hdx 4 (wz [0])) <| ?_
   refine hop 2 (fun _=>Zh (enc:=(AV.int .u64)) (l:=p0) (fl:=true) kr gE) <| hlp 1 (fun s12=>⟨(Qxg p0)++[(5,vI s5.1),(6,.int .u64 a8),(28,eL true (AV.int .u64) p0),(29,vI (zn p0)),(30,vI s5.1),(42,vI (zn p0)),(43,vI s12.1)],[o3_1,oX false false 2 (.agg [eL true (AV.int .u64) p0,.ref 2 0 s12.2.length]),oR true 1 (AV.int .u64) s12.2],95⟩) (fun v=>(.exit 2,⟨(Qxg p0)++[(28,eL true (AV.int .u64) p0),(29,vI (zn p0)),(30,vI s5.1)],[o3_1,oX false false 2 (.agg [eL true (AV.int .u64) p0,.ref 2 0 v.length]),oR true 1 (AV.int .u64) v],95⟩)) (wz [0,1,2]) (fun s12=>?_) fun x19=>?_
   ·refine hbr 1 [44] (?_) ?_
    ·refine hbd fun a15 q16=>hop 7 (fun _=>Q5 (enc:=(AV.int .u64)) (l:=s12.2) (n:=s12.1) (w:=1) (ob:=2) (ro:=false) (nr:=true) (fl:=true) (a:=a15) kr kr gE q16) <| hop 0 (fun _=>Xz (enc:=(AV.int .u64)) (l:=s12.2) (n:=s12.1) (w:=1) (ob:=2) (c:=0) (bx:=false) (ro:=false) (nr:=true) (fl:=true) (a:=a15) kr kr q16 gE) <| hoh 2 (fun _ _ h k=>X0 (k:=.u64) (k':=.i64) (a:=a8) (b:=s12.1) kr gE h k) <| hoh 2 (fun _ _ h k=>Qk (k:=.u64) (k':=.i64) (a:=zv (zb (Int.fdiv a8 (2^min (zt s12.1) zk)) &&& zb 1).toNat) (b:=s5.1) kr gE h k) <| hop 1 (fun _=>Q5 (enc:=(AV.int .u64)) (l:=s12.2) (n:=s12.1) (w:=1) (ob:=2) (ro:=false) (nr:=true) (fl:=true) (a:=a15) kr kr gE q16) <| hop 0 (fun _=>Yd (enc:=(AV.int .u64)) (l:=s12.2) (n:=s12.1) (ob:=2) (w:=1) (bx:=false) (nr:=true) (fl:=true) (c:=0) (a:=a15) (a':=zv (zb a15 ||| zb (zv ((zv (zb (Int.fdiv a8 (2^min (zt s12.1) zk)) &&& zb 1).toNat)*2^min (zt s5.1) zk))).toNat) (v:=.int .u64 (zv (zb a15 ||| zb (zv ((zv (zb (Int.fdiv a8 (2^min (zt s12.1) zk)) &&& zb 1).toNat)*2^min (zt s5.1) zk))).toNat)) false kr kr q16 kr kr kr gE kr) <| hkn 0 (fun n17=>⟨(Qxg p0)++[(5,vI s5.1),(6,.int .u64 a8),(28,eL true (AV.int .u64) p0),(29,vI (zn p0)),(30,vI s5.1),(42,vI (zn p0)),(43,vI s12.1),(44,vB true),(45,vI s12.1),(7,vI s12.1),(46,.ptr 1 0 1),(47,.ref 2 0 n17),(48,vI s12.1),(49,.ptr 2 (zt s12.1) 0),(50,.int .u64 a15),(51,.int .u64 a8),(52,vI s12.1),(53,.int .u64 (Int.fdiv a8 (2^min (zt s12.1) zk))),(54,.int .u64 (zv (zb (Int.fdiv a8 (2^min (zt s12.1) zk)) &&& zb 1).toNat)),(55,vI s5.1),(56,.int .u64 (zv ((zv (zb (Int.fdiv a8 (2^min (zt s12.1) zk)) &&& zb 1).toNat)*2^min (zt s5.1) zk))),(57,.int .u64 (zv (zb a15 ||| zb (zv ((zv (zb (Int.fdiv a8 (2^min (zt s12.1) zk)) &&& zb 1).toNat)*2^min (zt s5.1) zk))).toNat)),(58,.ptr 2 (zt s12.1) 0)],[o3_1,oX false false 2 (.agg [eL true (AV.int .u64) p0,.ref 2 0 n17]),oR true 1 (AV.int .u64) (List.set s12.2 (zt s12.1) (zv (zb a15 ||| zb (zv ((zv (zb (Int.fdiv a8 (2^min (zt s12.1) zk)) &&& zb 1).toNat)*2^min (zt s5.1) zk))).toNat))],95⟩) (ls s12.2 (zt s12.1) (zv (zb a15 ||| zb (zv ((zv (zb (Int.fdiv a8 (2^min (zt s12.1) zk)) &&& zb 1).toNat)*2^min (zt s5.1) zk))).toNat)) <| hnx 2 (wz [0,1,2])
    refine hdx 1 (wz [0,1,2])
   refine hnx 2 (wz [0,1,2])
  refine hdx 1 (wz [0,1,2])
 ·refine hrt 0
 refine hop 4 (fun _=>Zh (enc:=(AV.int .u64)) (l:=p0) (fl:=true) kr gE) <| hlp 1 (fun s23=>⟨[(2,.ptr 0 0 0),(4,.ptr 1 0 0),(8,.int .u64 s23.1),(64,vI (zn p0)),(65,vI s23.2)],[o3_1,(o3_2 p0 x22),oR true 1 (AV.int .u64) x22],95⟩) (fun x=>match x with | .inl v=>(.ret,⟨[(2,.ptr 0 0 0),(3,vI 70)],[o3_1],95⟩) | .inr v=>(.exit 4,⟨[(2,.ptr 0 0 0),(4,.ptr 1 0 0)],[o3_1,(o3_2 p0 x22),oR true 1 (AV.int .u64) x22],95⟩)) (wz [0,1,2]) (fun s23=>?_) (hsm (fun x39=>?_) (fun x40=>?_))
 ·refine hbr 1 [66] (?_) ?_
  ·refine hop 4 (fun _=>Zh (enc:=(AV.int .u64)) (l:=p0) (fl:=true) kr gE) <| hlp 1 (fun s26=>⟨[(2,.ptr 0 0 0),(4,.ptr 1 0 0),(8,.int .u64 s23.1),(64,vI (zn p0)),(65,vI s23.2),(69,eL true (AV.int .u64) p0),(70,vI (zn p0)),(71,vI s26)],[o3_1,(o3_2 p0 x22),oR true 1 (AV.int .u64) x22],95⟩) (fun x=>match x with | .inl v=>(.exit 5,⟨[(2,.ptr 0 0 0),(4,.ptr 1 0 0),(8,.int .u64 v),(64,vI (zn p0)),(65,vI s23.2)],[o3_1,(o3_2 p0 x22),oR true 1 (AV.int .u64) x22],95⟩) | .inr v=>(.exit 6,⟨[(2,.ptr 0 0 0)],[o3_1],95⟩)) (wz [0,1,2]) (fun s26=>?_) (hsm (fun x36=>?_) (fun x37=>?_))
   ·refine hbr 1 [72] (?_) ?_
    ·refine hbd fun a29 q30=>hop 2 (fun _=>Xn (enc:=(AV.int .u64)) (l:=p0) (n:=s26) (fl:=true) (w:=1) (a:=a29) kr kr gE q30) <| hoh 5 (fun _ _ h k=>X0 (k:=.u64) (k':=.i64) (a:=s23.1) (b:=s26) kr gE h k) <| hbr 3 [80,81] (?_) ?_
     ·refine hbr 5 [85,86] (hoh 3 (fun _ _ h k=>Qk (k:=.u64) (k':=.i64) (a:=1) (b:=s26) kr gE h k) <| hdx 2 (wz [0,1,2])) <| ?_
      refine hnx 3 (wz [0,1,2])
     refine hnx 8 (wz [0,1,2])
    refine hdx 1 (wz [0])
   ·refine hnx 2 (wz [0,1,2])
   refine hdx 3 (wz [0])
  refine hdx 1 (wz [0,1,2])
 ·refine hrt 0
 refine hwk 3 (wl [2,3] [0,2]) <| hwk 0 (won 0 0 [F (AV.int .u64) x22]) <| hrt 1
theorem g_separate_graph_disjoint_ok (p0:Qw) (p1:(List Int)):Ct Tryd.prog 81 [.agg [eL true (AV.int .u64) p0.ancestry.parents,eL true (AV.int .u64) p0.children],eL true (AV.int .u64) p1] (Yw p0 p1) (fun x=>vB x) (fun x=>[]):=by
 refine hfn [] Tryd.func81 <| hop 0 (fun _=>sgL false [] [] false gE) <| hop 3 (fun _=>Zh (enc:=(AV.int .u64)) (l:=p1) (fl:=true) kr gE) <| hlp 1 (fun s1=>⟨[(2,.ptr 0 0 0),(5,.int .u64 s1.1),(8,eL true (AV.int .u64) p1),(9,vI (zn p1)),(10,vI s1.2)],[oX true false 2 (.agg [eL true (AV.int .u64) p0.ancestry.parents,eL true (AV.int .u64) p0.children])],31⟩) (fun x=>match x with | .inl v=>(.ret,⟨[(4,vB false)],[],31⟩) | .inr v=>(.exit 0,⟨[],[],31⟩)) (wz [0]) (fun s1=>?_) (hsm (fun x11=>?_) (fun x12=>?_))
 ·refine hbr 1 [11] (?_) ?_
  ·refine hbd fun a4 q5=>hop 1 (fun _=>Xn (enc:=(AV.int .u64)) (l:=p1) (n:=s1.2) (fl:=true) (w:=1) (a:=a4) kr kr gE q5) <| hop 6 (fun _=>Zh (enc:=(AV.int .u64)) (l:=p0.ancestry.parents) (fl:=true) kr gE) <| hoh 0 (fun _ _ h k=>X0 (k:=.u64) (k':=.i64) (a:=a4) (b:=(zn p0.ancestry.parents)) kr gE h k) <| hbr 2 [20,21] (hdx 7 (wz [])) <| ?_
   refine hbr 5 [25,26] (hdx 2 (wz [])) <| ?_
   refine hnx 7 (wz [0])
  refine hdx 1 (wz [])
 ·refine hrt 0
 refine hrt 2
theorem g_math_bits_TrailingZeros64_ok (p0:Int):Ct Tryd.prog 104 [.int .u64 p0] (K4 p0) (fun x=>vI x) (fun x=>[]):=by
 refine hfn [] Tryd.func104 <| hbr 3 [4] (hrt 3) <| ?_
 refine hbd fun a3 q4=>Q8x 7 (fun _=>Q84 (l:=tab1) (n:=Int.fdiv (zv ((zv (zb p0 &&& zb (zv (0 - p0))).toNat)*285870213051353865)) (2^min (zt 58) zk)) (a:=a3) (kk:=.u8) (len:=64) (cells:=List.map (AV.int .u8) tab1) kr kr kr q4 gE kr gE) <| hrt 3
theorem Zq (p0:Int):Ct Tryd.prog 101 [.int .u64 p0] (Qu p0) (fun x=>vI x) (fun x=>[]):=by
 refine hfn [] Tryd.func101 <| hcl 3 [] (g_math_bits_TrailingZeros64_ok p0) fun x1 _=>hrt 2
noncomputable abbrev Qok (p0:Qw):AObj:=oX true false 2 (.agg [eL true (AV.int .u64) p0.ancestry.parents,eL true (AV.int .u64) p0.children])
noncomputable abbrev Qoo (p2:Int):AObj:=oX true true 1 (.int .u64 p2)
noncomputable abbrev Q2o:AObj:=oX false false 1 (.fn (.func 93) [] [.ptr 3 0 0,.ptr 4 0 0,.ptr 0 0 0,.ptr 5 0 0,.ptr 1 0 0,.ptr 6 0 0])
noncomputable abbrev Q11 (p1:Int):AObj:=oX true true 1 (.int .u64 p1)
noncomputable abbrev Q1b:AObj:=oX false false 1 (.mp 7)
noncomputable abbrev Q17 (x14:Int):AObj:=oX true true 1 (.int .u64 x14)
noncomputable abbrev Q27:AObj:=.loop 50 [(10,.ptr 0 0 0),(12,.ptr 1 0 0),(43,.fn (.func 100) [] [.ptr 2 0 0])] [44] (cA Tryd.f82 [true,true,true,true,true,true,false,true,true]) (cB Tryd.f82 [true,true,true,true,true,true,false,true,true]) .ready none
noncomputable abbrev Q77:AObj:=.loop 50 [(10,.ptr 0 0 0),(12,.ptr 1 0 0),(43,.fn (.func 100) [] [.ptr 2 0 0])] [44] (cA Tryd.f82 [true,true,true,true,true,true,false,true,true]) (cB Tryd.f82 [true,true,true,true,true,true,false,true,true]) .busy none
noncomputable abbrev Q3c:AObj:=.loop 74 [(2,.ptr 4 0 0),(4,.ptr 5 0 0),(5,.ptr 1 0 0),(6,.ptr 6 0 0),(7,.ptr 9 0 0),(32,.fn (.func 100) [] [.ptr 10 0 0])] [33] (cA Tryd.f93 [true,true,true,false,true,false,true,true,true]) (cB Tryd.f93 [true,true,true,false,true,false,true,true,true]) .ready none
noncomputable abbrev Qhj:AObj:=.loop 74 [(5,.ptr 1 0 0),(68,.fn (.func 100) [] [.ptr 9 0 0])] [69] (cA Tryd.f93 [true,true,true,true,true,true,true]) (cB Tryd.f93 [true,true,true,true,true,true,true]) .ready none
noncomputable abbrev Qa2 (a0 a1:AObj) (p1 p2:Int) (p0:Qw) (x14:Int):List AObj:=[a0,Q2o,(Q11 p1),Q1b,(Qoo p2),(Qok p0),(Q17 x14),a1,Q77]
noncomputable abbrev Qs2 (p1:Int):List (Nat×AV):=[(1,.int .u64 p1),(3,.ptr 0 0 0),(5,.ptr 1 0 0),(7,.ptr 2 0 0)]
theorem Qfy (p0:Qw) (p1:Int) (p2:Int):Ct Tryd.prog 82 [.agg [eL true (AV.int .u64) p0.ancestry.parents,eL true (AV.int .u64) p0.children],.int .u64 p1,.int .u64 p2] (Vu p0 p1 p2) (fun x=>.int .u64 x) (fun x=>[]):=by
 refine hfn [] Tryd.func82 <| hop 0 (fun _=>sgL false [] [] false gE) <| hop 8 (fun _=>Zh (enc:=(AV.int .u64)) (l:=p0.ancestry.parents) (fl:=true) kr gE) <| hlp 1 (fun s1=>⟨(Qs2 p1)++[(18,vI (zn p0.ancestry.parents)),(19,vI s1.1)],[(Qok p0),(Qoo p2),oX true true 1 (.int .u64 s1.2)],50⟩) (fun v=>(.exit 0,⟨(Qs2 p1),[(Qok p0),(Qoo p2),oX true true 1 (.int .u64 v)],50⟩)) (wz [0,1,2]) (fun s1=>?_) fun x14=>?_
 ·refine hbr 1 [20] (?_) ?_
  ·refine hop 4 (fun _=>Zh (enc:=(AV.int .u64)) (l:=p0.ancestry.parents) (fl:=true) kr gE) <| hlp 1 (fun s4=>⟨(Qs2 p1)++[(18,vI (zn p0.ancestry.parents)),(19,vI s1.1),(23,eL true (AV.int .u64) p0.ancestry.parents),(24,vI (zn p0.ancestry.parents)),(25,vI s4.1)],[(Qok p0),(Qoo p2),oX true true 1 (.int .u64 s4.2)],50⟩) (fun v=>(.exit 2,⟨(Qs2 p1)++[(18,vI (zn p0.ancestry.parents)),(19,vI s1.1)],[(Qok p0),(Qoo p2),oX true true 1 (.int .u64 v)],50⟩)) (wz [0,1,2]) (fun s4=>?_) fun x12=>?_
   ·refine hbr 1 [26] (?_) ?_
    ·refine hbd fun a7 q8=>hop 2 (fun _=>Xn (enc:=(AV.int .u64)) (l:=p0.ancestry.parents) (n:=s4.1) (fl:=true) (w:=1) (a:=a7) kr kr gE q8) <| hoh 5 (fun _ _ h k=>X0 (k:=.u64) (k':=.i64) (a:=s4.2) (b:=s4.1) kr gE h k) <| hbr 2 [34] (hnx 7 (wz [0,1,2])) <| ?_
     refine hnx 3 (wz [0,1,2])
    refine hdx 1 (wz [0,1,2])
   refine hnx 2 (wz [0,1,2])
  refine hdx 1 (wz [0,1,2])
 refine hop 2 (fun _=>sgL false [] [] false gE) <| hop 2 (fun _=>sgL false [] [] false gE) <| hil 3 Tryd.func94 <| hwk 4 (wk_gcK (live:=[2]) (keep:=[7]) 3 eTseparate_step AV.bool [] (fun f a=>rfl) (fun f a=>rfl) kr gE) <| hwk 1 (wk_gcK (live:=[10,12,43]) (keep:=[4,6,7,5,1,0,2,3]) 3 eTseparate_step AV.bool [] (fun f a=>rfl) (fun f a=>rfl) kr gE) <| hrg 0 Tryd.func100 <| hlp 2 (fun s15=>⟨[(0,.yld 8),(3,.int .u64 s15.1)],[oX true true 1 (.int .u64 s15.2.1),Q2o,(Q11 p1),Q1b,(Qoo p2),(Qok p0),(Q17 x14),mapK eTseparate_step AV.bool s15.2.2,Q27],16⟩) (fun v=>(.exit 0,⟨[],[oX true true 1 (.int .u64 v.1),Q2o,(Q11 p1),Q1b,(Qoo p2),(Qok p0),(Q17 x14),mapK eTseparate_step AV.bool v.2,Q27],16⟩)) (wk_gcK (live:=[0,3]) (keep:=[]) 7 eTseparate_step AV.bool [] (fun f a=>rfl) (fun f a=>rfl) kr kr) (fun s15=>?_) fun x92=>?_
 ·refine hbr 2 [6] (?_) ?_
  ·refine hcl 3 [] (Zq s15.1) fun x18 _=>hyl 0 <| hrc 4 9 (fun s20=>⟨[(0,.agg [vI s20.1,vB s20.2.1]),(1,.ptr 3 0 0),(2,.ptr 4 0 0),(3,.ptr 0 0 0),(4,.ptr 5 0 0),(5,.ptr 1 0 0),(6,.ptr 6 0 0)],(Qa2 (oX true true 1 (.int .u64 s20.2.2.1)) (mapK eTseparate_step AV.bool s20.2.2.2) p1 p2 p0 x14),74⟩) (fun v=>⟨[],(Qa2 (oX true true 1 (.int .u64 v.1)) (mapK eTseparate_step AV.bool v.2) p1 p2 p0 x14),74⟩) Tryd.func93 (fun r21 i22 s20=>?_) fun x89=>?_
   ·refine hop 3 (fun _=>Qs1 (ob:=7) (kt:=150) (c:=false) (ke:=eTseparate_step) (enc:=AV.bool) (e:=qTseparate_step) (l:=s20.2.2.2) (n:=(Tseparate_step.mk s20.1 s20.2.1)) (z:=false) kr (fun _ _=>by kernel_rfl) kr (fun _=>rfl) gE) <| hbr 0 [12] (?_) ?_
    ·refine hwk 1 (wk_gcK (live:=[]) (keep:=[]) 7 eTseparate_step AV.bool s20.2.2.2 (fun f a=>rfl) (fun f a=>rfl) kr gE) <| hre 1 (wk_gcK (live:=[]) (keep:=[]) 7 eTseparate_step AV.bool s20.2.2.2 (fun f a=>rfl) (fun f a=>rfl) kr kr)
    refine hop 3 (fun _=>Xh (ob:=7) (kt:=150) (ke:=eTseparate_step) (enc:=AV.bool) (e:=qTseparate_step) (l:=s20.2.2.2) (n:=(Tseparate_step.mk s20.1 s20.2.1)) (v:=true) kr (fun _ _=>by kernel_rfl) kr gE kr) <| hoh 3 (fun _ _ h k=>X0 (k:=.u64) (k':=.i64) (a:=p2) (b:=s20.1) kr gE h k) <| hbr 2 [20] (?_) ?_
    ·refine hoh 5 (fun _ _ h k=>Qk (k:=.u64) (k':=.i64) (a:=1) (b:=s20.1) kr gE h k) <| hbd fun a27 q28=>hop 6 (fun _=>Xn (enc:=(AV.int .u64)) (l:=p0.children) (n:=s20.1) (fl:=true) (w:=1) (a:=a27) kr kr gE q28) <| hil 1 Tryd.func94 <| hwk 4 (wk_gcK (live:=[2]) (keep:=[10]) 7 eTseparate_step AV.bool (kput qTseparate_step s20.2.2.2 (Tseparate_step.mk s20.1 s20.2.1) true) (fun f a=>rfl) (fun f a=>rfl) kr gE) <| hwk 1 (wk_gcK (live:=[2,4,5,6,7,32]) (keep:=[9,10]) 7 eTseparate_step AV.bool (kput qTseparate_step s20.2.2.2 (Tseparate_step.mk s20.1 s20.2.1) true) (fun f a=>rfl) (fun f a=>rfl) kr gE) <| hrg 0 Tryd.func100 <| hlp 2 (fun s29=>⟨[(0,.yld 11),(3,.int .u64 s29.1)],(Qa2 (oX true true 1 (.int .u64 s29.2.1)) (mapK eTseparate_step AV.bool s29.2.2) p1 p2 p0 x14)++[oX true true 2 (.agg [vI s20.1,vB s20.2.1]),oX true true 1 (.int .u64 a27),Q3c],16⟩) (fun v=>(.exit 0,⟨[],(Qa2 (oX true true 1 (.int .u64 v.1)) (mapK eTseparate_step AV.bool v.2) p1 p2 p0 x14)++[oX true true 2 (.agg [vI s20.1,vB s20.2.1]),oX true true 1 (.int .u64 a27),Q3c],16⟩)) (wk_gcK (live:=[0,3]) (keep:=[]) 7 eTseparate_step AV.bool (kput qTseparate_step s20.2.2.2 (Tseparate_step.mk s20.1 s20.2.1) true) (fun f a=>rfl) (fun f a=>rfl) kr kr) (fun s29=>?_) fun x36=>?_
     ·refine hbr 2 [6] (?_) ?_
      ·refine hcl 3 [] (Zq s29.1) fun x32 _=>hyl 0 <| hri 4 9 (fun v=>[(0,oX true true 1 (.int .u64 v.1)),(7,mapK eTseparate_step AV.bool v.2)]) [0,7] Tryd.func93 (Qat 7 eTseparate_step AV.bool s29.2.2 kr (fun _=>rfl) (fun _=>rfl) kr) (fun v=>Qat 7 eTseparate_step AV.bool v.2 kr (fun _=>rfl) (fun _=>rfl) kr) i22 fun x34=>hnx 7 (wk_gcK (live:=[0,3]) (keep:=[]) 7 eTseparate_step AV.bool x34.2 (fun f a=>rfl) (fun f a=>rfl) kr kr)
      refine hdx 1 (wk_gcK (live:=[]) (keep:=[]) 7 eTseparate_step AV.bool s29.2.2 (fun f a=>rfl) (fun f a=>rfl) kr kr)
     refine hbt 3 (fun b37=>⟨[(2,.ptr 4 0 0),(4,.ptr 5 0 0),(5,.ptr 1 0 0),(6,.ptr 6 0 0),(7,.ptr 9 0 0),(32,.fn (.func 100) [] [.ptr 10 0 0]),(38,.ptr 9 0 1),(39,vB b37),(40,vB b37)],(Qa2 (oX true true 1 (.int .u64 x36.1)) (mapK eTseparate_step AV.bool x36.2) p1 p2 p0 x14)++[oX true true 2 (.agg [vI s20.1,vB b37]),oX true true 1 (.int .u64 a27),.dead],74⟩) (fun _=>?_) (fun _=>?_)
     ·refine hoh 3 (fun _ _ h k=>X0 (k:=.u64) (k':=.i64) (a:=x14) (b:=s20.1) kr gE h k) <| hbr 4 [46,47,48] (?_) ?_
      ·refine hwk 13 (wk_gcK (live:=[]) (keep:=[]) 7 eTseparate_step AV.bool x36.2 (fun f a=>rfl) (fun f a=>rfl) kr gE) <| hre 1 (wk_gcK (live:=[]) (keep:=[]) 7 eTseparate_step AV.bool x36.2 (fun f a=>rfl) (fun f a=>rfl) kr kr)
      refine hbd fun a41 q42=>hop 18 (fun _=>Xn (enc:=(AV.int .u64)) (l:=p0.ancestry.parents) (n:=s20.1) (fl:=true) (w:=1) (a:=a41) kr kr gE q42) <| hil 1 Tryd.func94 <| hwk 4 (wk_gcK (live:=[2]) (keep:=[12]) 7 eTseparate_step AV.bool x36.2 (fun f a=>rfl) (fun f a=>rfl) kr gE) <| hwk 1 (wk_gcK (live:=[5,68]) (keep:=[12]) 7 eTseparate_step AV.bool x36.2 (fun f a=>rfl) (fun f a=>rfl) kr gE) <| hrg 0 Tryd.func100 <| hlp 2 (fun s43=>⟨[(0,.yld 10),(3,.int .u64 s43.1)],(Qa2 (oX true true 1 (.int .u64 s43.2.1)) (mapK eTseparate_step AV.bool s43.2.2) p1 p2 p0 x14)++[oX true true 1 (.int .u64 a41),Qhj],16⟩) (fun v=>(.exit 0,⟨[],(Qa2 (oX true true 1 (.int .u64 v.1)) (mapK eTseparate_step AV.bool v.2) p1 p2 p0 x14)++[oX true true 1 (.int .u64 a41),Qhj],16⟩)) (wk_gcK (live:=[0,3]) (keep:=[]) 7 eTseparate_step AV.bool x36.2 (fun f a=>rfl) (fun f a=>rfl) kr kr) (fun s43=>?_) fun x50=>?_
      ·refine hbr 2 [6] (?_) ?_
       ·refine hcl 3 [] (Zq s43.1) fun x46 _=>hyl 0 <| hri 4 9 (fun v=>[(0,oX true true 1 (.int .u64 v.1)),(7,mapK eTseparate_step AV.bool v.2)]) [0,7] Tryd.func93 (Qat 7 eTseparate_step AV.bool s43.2.2 kr (fun _=>rfl) (fun _=>rfl) kr) (fun v=>Qat 7 eTseparate_step AV.bool v.2 kr (fun _=>rfl) (fun _=>rfl) kr) i22 fun x48=>hnx 7 (wk_gcK (live:=[0,3]) (keep:=[]) 7 eTseparate_step AV.bool x48.2 (fun f a=>rfl) (fun f a=>rfl) kr kr)
       refine hdx 1 (wk_gcK (live:=[]) (keep:=[]) 7 eTseparate_step AV.bool s43.2.2 (fun f a=>rfl) (fun f a=>rfl) kr kr)
      refine hre 0 (wk_gcK (live:=[]) (keep:=[]) 7 eTseparate_step AV.bool x50.2 (fun f a=>rfl) (fun f a=>rfl) kr kr)
     refine hoh 15 (fun _ _ h k=>X0 (k:=.u64) (k':=.i64) (a:=p2) (b:=s20.1) kr gE h k) <| hbr 4 [58,59,60] (?_) ?_
     ·refine hwk 1 (wk_gcK (live:=[]) (keep:=[]) 7 eTseparate_step AV.bool x36.2 (fun f a=>rfl) (fun f a=>rfl) kr gE) <| hre 1 (wk_gcK (live:=[]) (keep:=[]) 7 eTseparate_step AV.bool x36.2 (fun f a=>rfl) (fun f a=>rfl) kr kr)
     refine hbd fun a53 q54=>hop 6 (fun _=>Xn (enc:=(AV.int .u64)) (l:=p0.ancestry.parents) (n:=s20.1) (fl:=true) (w:=1) (a:=a53) kr kr gE q54) <| hil 1 Tryd.func94 <| hwk 4 (wk_gcK (live:=[2]) (keep:=[12]) 7 eTseparate_step AV.bool x36.2 (fun f a=>rfl) (fun f a=>rfl) kr gE) <| hwk 1 (wk_gcK (live:=[5,68]) (keep:=[12]) 7 eTseparate_step AV.bool x36.2 (fun f a=>rfl) (fun f a=>rfl) kr gE) <| hrg 0 Tryd.func100 <| hlp 2 (fun s55=>⟨[(0,.yld 10),(3,.int .u64 s55.1)],(Qa2 (oX true true 1 (.int .u64 s55.2.1)) (mapK eTseparate_step AV.bool s55.2.2) p1 p2 p0 x14)++[oX true true 1 (.int .u64 a53),Qhj],16⟩) (fun v=>(.exit 0,⟨[],(Qa2 (oX true true 1 (.int .u64 v.1)) (mapK eTseparate_step AV.bool v.2) p1 p2 p0 x14)++[oX true true 1 (.int .u64 a53),Qhj],16⟩)) (wk_gcK (live:=[0,3]) (keep:=[]) 7 eTseparate_step AV.bool x36.2 (fun f a=>rfl) (fun f a=>rfl) kr kr) (fun s55=>?_) fun x62=>?_
     ·refine hbr 2 [6] (?_) ?_
      ·refine hcl 3 [] (Zq s55.1) fun x58 _=>hyl 0 <| hri 4 9 (fun v=>[(0,oX true true 1 (.int .u64 v.1)),(7,mapK eTseparate_step AV.bool v.2)]) [0,7] Tryd.func93 (Qat 7 eTseparate_step AV.bool s55.2.2 kr (fun _=>rfl) (fun _=>rfl) kr) (fun v=>Qat 7 eTseparate_step AV.bool v.2 kr (fun _=>rfl) (fun _=>rfl) kr) i22 fun x60=>hnx 7 (wk_gcK (live:=[0,3]) (keep:=[]) 7 eTseparate_step AV.bool x60.2 (fun f a=>rfl) (fun f a=>rfl) kr kr)
      refine hdx 1 (wk_gcK (live:=[]) (keep:=[]) 7 eTseparate_step AV.bool s55.2.2 (fun f a=>rfl) (fun f a=>rfl) kr kr)
     refine hre 0 (wk_gcK (live:=[]) (keep:=[]) 7 eTseparate_step AV.bool x62.2 (fun f a=>rfl) (fun f a=>rfl) kr kr)
    refine hbt 4 (fun b63=>⟨[(0,.agg [vI s20.1,vB b63]),(1,.ptr 3 0 0),(2,.ptr 4 0 0),(3,.ptr 0 0 0),(4,.ptr 5 0 0),(5,.ptr 1 0 0),(6,.ptr 6 0 0),(7,.ptr 9 0 0),(10,.mp 7),(11,.agg [vI s20.1,vB b63]),(12,vB false),(13,.mp 7),(14,.agg [vI s20.1,vB b63]),(15,.int .u64 p2),(16,.ptr 9 0 0),(17,vI s20.1),(18,.int .u64 (Int.fdiv p2 (2^min (zt s20.1) zk))),(19,.int .u64 (zv (zb (Int.fdiv p2 (2^min (zt s20.1) zk)) &&& zb 1).toNat)),(20,vB false),(38,.ptr 9 0 1),(39,vB b63),(40,vB b63)],(Qa2 (oX true true 1 (.int .u64 s20.2.2.1)) (mapK eTseparate_step AV.bool (kput qTseparate_step s20.2.2.2 (Tseparate_step.mk s20.1 s20.2.1) true)) p1 p2 p0 x14)++[oX true true 2 (.agg [vI s20.1,vB b63])],74⟩) (fun _=>?_) (fun _=>?_)
    ·refine hoh 3 (fun _ _ h k=>X0 (k:=.u64) (k':=.i64) (a:=x14) (b:=s20.1) kr gE h k) <| hbr 4 [46,47,48] (?_) ?_
     ·refine hwk 13 (wk_gcK (live:=[]) (keep:=[]) 7 eTseparate_step AV.bool (kput qTseparate_step s20.2.2.2 (Tseparate_step.mk s20.1 s20.2.1) true) (fun f a=>rfl) (fun f a=>rfl) kr gE) <| hre 1 (wk_gcK (live:=[]) (keep:=[]) 7 eTseparate_step AV.bool (kput qTseparate_step s20.2.2.2 (Tseparate_step.mk s20.1 s20.2.1) true) (fun f a=>rfl) (fun f a=>rfl) kr kr)
     refine hbd fun a67 q68=>hop 18 (fun _=>Xn (enc:=(AV.int .u64)) (l:=p0.ancestry.parents) (n:=s20.1) (fl:=true) (w:=1) (a:=a67) kr kr gE q68) <| hil 1 Tryd.func94 <| hwk 4 (wk_gcK (live:=[2]) (keep:=[10]) 7 eTseparate_step AV.bool (kput qTseparate_step s20.2.2.2 (Tseparate_step.mk s20.1 s20.2.1) true) (fun f a=>rfl) (fun f a=>rfl) kr gE) <| hwk 1 (wk_gcK (live:=[5,68]) (keep:=[10]) 7 eTseparate_step AV.bool (kput qTseparate_step s20.2.2.2 (Tseparate_step.mk s20.1 s20.2.1) true) (fun f a=>rfl) (fun f a=>rfl) kr gE) <| hrg 0 Tryd.func100 <| hlp 2 (fun s69=>⟨[(0,.yld 10),(3,.int .u64 s69.1)],(Qa2 (oX true true 1 (.int .u64 s69.2.1)) (mapK eTseparate_step AV.bool s69.2.2) p1 p2 p0 x14)++[oX true true 1 (.int .u64 a67),Qhj],16⟩) (fun v=>(.exit 0,⟨[],(Qa2 (oX true true 1 (.int .u64 v.1)) (mapK eTseparate_step AV.bool v.2) p1 p2 p0 x14)++[oX true true 1 (.int .u64 a67),Qhj],16⟩)) (wk_gcK (live:=[0,3]) (keep:=[]) 7 eTseparate_step AV.bool (kput qTseparate_step s20.2.2.2 (Tseparate_step.mk s20.1 s20.2.1) true) (fun f a=>rfl) (fun f a=>rfl) kr kr) (fun s69=>?_) fun x76=>?_
     ·refine hbr 2 [6] (?_) ?_
      ·refine hcl 3 [] (Zq s69.1) fun x72 _=>hyl 0 <| hri 4 9 (fun v=>[(0,oX true true 1 (.int .u64 v.1)),(7,mapK eTseparate_step AV.bool v.2)]) [0,7] Tryd.func93 (Qat 7 eTseparate_step AV.bool s69.2.2 kr (fun _=>rfl) (fun _=>rfl) kr) (fun v=>Qat 7 eTseparate_step AV.bool v.2 kr (fun _=>rfl) (fun _=>rfl) kr) i22 fun x74=>hnx 7 (wk_gcK (live:=[0,3]) (keep:=[]) 7 eTseparate_step AV.bool x74.2 (fun f a=>rfl) (fun f a=>rfl) kr kr)
      refine hdx 1 (wk_gcK (live:=[]) (keep:=[]) 7 eTseparate_step AV.bool s69.2.2 (fun f a=>rfl) (fun f a=>rfl) kr kr)
     refine hre 0 (wk_gcK (live:=[]) (keep:=[]) 7 eTseparate_step AV.bool x76.2 (fun f a=>rfl) (fun f a=>rfl) kr kr)
    refine hoh 15 (fun _ _ h k=>X0 (k:=.u64) (k':=.i64) (a:=p2) (b:=s20.1) kr gE h k) <| hbr 4 [58,59,60] (?_) ?_
    ·refine hwk 1 (wk_gcK (live:=[]) (keep:=[]) 7 eTseparate_step AV.bool (kput qTseparate_step s20.2.2.2 (Tseparate_step.mk s20.1 s20.2.1) true) (fun f a=>rfl) (fun f a=>rfl) kr gE) <| hre 1 (wk_gcK (live:=[]) (keep:=[]) 7 eTseparate_step AV.bool (kput qTseparate_step s20.2.2.2 (Tseparate_step.mk s20.1 s20.2.1) true) (fun f a=>rfl) (fun f a=>rfl) kr kr)
    refine hbd fun a79 q80=>hop 6 (fun _=>Xn (enc:=(AV.int .u64)) (l:=p0.ancestry.parents) (n:=s20.1) (fl:=true) (w:=1) (a:=a79) kr kr gE q80) <| hil 1 Tryd.func94 <| hwk 4 (wk_gcK (live:=[2]) (keep:=[10]) 7 eTseparate_step AV.bool (kput qTseparate_step s20.2.2.2 (Tseparate_step.mk s20.1 s20.2.1) true) (fun f a=>rfl) (fun f a=>rfl) kr gE) <| hwk 1 (wk_gcK (live:=[5,68]) (keep:=[10]) 7 eTseparate_step AV.bool (kput qTseparate_step s20.2.2.2 (Tseparate_step.mk s20.1 s20.2.1) true) (fun f a=>rfl) (fun f a=>rfl) kr gE) <| hrg 0 Tryd.func100 <| hlp 2 (fun s81=>⟨[(0,.yld 10),(3,.int .u64 s81.1)],(Qa2 (oX true true 1 (.int .u64 s81.2.1)) (mapK eTseparate_step AV.bool s81.2.2) p1 p2 p0 x14)++[oX true true 1 (.int .u64 a79),Qhj],16⟩) (fun v=>(.exit 0,⟨[],(Qa2 (oX true true 1 (.int .u64 v.1)) (mapK eTseparate_step AV.bool v.2) p1 p2 p0 x14)++[oX true true 1 (.int .u64 a79),Qhj],16⟩)) (wk_gcK (live:=[0,3]) (keep:=[]) 7 eTseparate_step AV.bool (kput qTseparate_step s20.2.2.2 (Tseparate_step.mk s20.1 s20.2.1) true) (fun f a=>rfl) (fun f a=>rfl) kr kr) (fun s81=>?_) fun x88=>?_
    ·refine hbr 2 [6] (?_) ?_
     ·refine hcl 3 [] (Zq s81.1) fun x84 _=>hyl 0 <| hri 4 9 (fun v=>[(0,oX true true 1 (.int .u64 v.1)),(7,mapK eTseparate_step AV.bool v.2)]) [0,7] Tryd.func93 (Qat 7 eTseparate_step AV.bool s81.2.2 kr (fun _=>rfl) (fun _=>rfl) kr) (fun v=>Qat 7 eTseparate_step AV.bool v.2 kr (fun _=>rfl) (fun _=>rfl) kr) i22 fun x86=>hnx 7 (wk_gcK (live:=[0,3]) (keep:=[]) 7 eTseparate_step AV.bool x86.2 (fun f a=>rfl) (fun f a=>rfl) kr kr)
     refine hdx 1 (wk_gcK (live:=[]) (keep:=[]) 7 eTseparate_step AV.bool s81.2.2 (fun f a=>rfl) (fun f a=>rfl) kr kr)
    refine hre 0 (wk_gcK (live:=[]) (keep:=[]) 7 eTseparate_step AV.bool x88.2 (fun f a=>rfl) (fun f a=>rfl) kr kr)
   refine hnx 7 (wk_gcK (live:=[0,3]) (keep:=[]) 7 eTseparate_step AV.bool x89.2 (fun f a=>rfl) (fun f a=>rfl) kr kr)
  refine hdx 1 (wk_gcK (live:=[]) (keep:=[]) 7 eTseparate_step AV.bool s15.2.2 (fun f a=>rfl) (fun f a=>rfl) kr kr)
 refine hrt 3
theorem g_separate_Apart_ok (p0:(List Int)) (p1:Int) (p2:Int) (p3:Int):Ct Tryd.prog 68 [eL true (AV.int .u64) p0,.int .u64 p1,.int .u64 p2,.int .u64 p3] (Qab p0 p1 p2 p3) (fun x=>.tup [vB x.1,vI x.2]) (fun x=>[]):=by
 refine hfn [] Tryd.func68 <| hcl 3 [] (g_separate_read_ok p0) fun x1 _=>hop 3 (fun _=>sgL false [] [] false gE) <| hbr 4 [18] (hrt 5) <| ?_
 refine hop 5 (fun _=>sgL false [] [] true gE) <| hcl 0 [] (g_separate_graph_disjoint_ok x1.1 [p1,p2,p3]) fun x5 _=>hbr 1 [26] (hrt 4) <| ?_
 refine hcl 4 [] (Qfy x1.1 p1 p3) fun x9 _=>hrt 6
theorem g_equal_factsOf_ok (p0:(List Int)):Ct Tryd.prog 49 [eL true (AV.int .u64) p0] (Kh p0) (fun x=>.tup [.ref 0 0 x.1.length,vI x.2]) (fun x=>[oR true 3 eTapi_Fact x.1]):=by
 refine hfn [] Tryd.func49 <| hop 5 (fun _=>Zh (enc:=(AV.int .u64)) (l:=p0) (fl:=true) kr gE) <| hlp 1 (fun s1=>⟨[(0,eL true (AV.int .u64) p0),(4,.ref 0 0 s1.2.length),(12,vI (zn p0)),(13,vI s1.1)],[oR true 3 eTapi_Fact s1.2],63⟩) (fun x=>match x with | .inl v=>(.ret,⟨[(2,.ref 0 0 0),(3,vI v)],[.row false false true true 3 []],63⟩) | .inr v=>(.exit 0,⟨[(4,.ref 0 0 v.length)],[oR true 3 eTapi_Fact v],63⟩)) (wk_trans (wk_gc (live:=[0,4,12,13]) (keep:=[]) gE) (wk_trans (wk_nil 4 3 true true gE) (wk_gc (live:=[0,4,12,13]) (keep:=[0]) kr))) (fun s1=>?_) (hsm (fun x25=>?_) (fun x26=>?_))
 ·refine hbr 1 [14] (?_) ?_
  ·refine hlp 6 (fun s4=>⟨[(0,eL true (AV.int .u64) p0),(4,.ref 0 0 s4.2.length),(5,vI s1.1),(6,vI s4.1),(12,vI (zn p0)),(13,vI s1.1)],[oR true 3 eTapi_Fact s4.2],63⟩) (fun x=>match x with | .inl v=>(.ret,⟨[(2,.ref 0 0 0),(3,vI v)],[.row false false true true 3 []],63⟩) | .inr v=>(.exit 2,⟨[(0,eL true (AV.int .u64) p0),(4,.ref 0 0 v.length),(12,vI (zn p0)),(13,vI s1.1)],[oR true 3 eTapi_Fact v],63⟩)) (wz [0]) (fun s4=>?_) (hsm (fun x22=>?_) (fun x23=>?_))
   ·refine hop 2 (fun _=>Zh (enc:=(AV.int .u64)) (l:=p0) (fl:=true) kr gE) <| hbr 1 [21] (?_) ?_
    ·refine hop 2 (fun _=>Zh (enc:=(AV.int .u64)) (l:=p0) (fl:=true) kr gE) <| hoh 0 (fun _ _ h k=>Qk (k:=.u64) (k':=.i64) (a:=1) (b:=(zn p0)) kr gE h k) <| hlp 1 (fun s7=>⟨[(0,eL true (AV.int .u64) p0),(4,.ref 0 0 s7.2.length),(5,vI s1.1),(6,vI s4.1),(12,vI (zn p0)),(13,vI s1.1),(26,.int .u64 (zv (1*2^min (zt (zn p0)) zk))),(27,.int .u64 s7.1)],[oR true 3 eTapi_Fact s7.2],63⟩) (fun x=>match x with | .inl v=>(.ret,⟨[(2,.ref 0 0 0),(3,vI v)],[.row false false true true 3 []],63⟩) | .inr v=>(.exit 4,⟨[(0,eL true (AV.int .u64) p0),(4,.ref 0 0 v.length),(5,vI s1.1),(6,vI s4.1),(12,vI (zn p0)),(13,vI s1.1)],[oR true 3 eTapi_Fact v],63⟩)) (wz [0]) (fun s7=>?_) (hsm (fun x19=>?_) (fun x20=>?_))
     ·refine hbr 1 [28] (?_) ?_
      ·refine hoh 6 (fun _ _ h k=>X0 (k:=.u64) (k':=.i64) (a:=s7.1) (b:=s1.1) kr gE h k) <| hoh 2 (fun _ _ h k=>X0 (k:=.u64) (k':=.i64) (a:=s7.1) (b:=s4.1) kr gE h k) <| hbr 3 [38] (hwk 1 (wl [0,4,5,6,12,13,26,27] [0]) <| hnx 3 (wz [0])) <| ?_
       refine hoh 4 (fun _ _ h k=>Qk (k:=.u64) (k':=.i64) (a:=1) (b:=s1.1) kr gE h k) <| hoh 1 (fun _ _ h k=>Qk (k:=.u64) (k':=.i64) (a:=1) (b:=s4.1) kr gE h k) <| hcl 1 [] (g_separate_Apart_ok p0 (zv (1*2^min (zt s1.1) zk)) (zv (1*2^min (zt s4.1) zk)) s7.1) fun x12 _=>hbr 7 [50] (hwk 4 (wl [2,3] []) <| hwk 0 (wk_nil 2 3 true true gE) <| hdn 1) <| ?_
       refine hbt 2 (fun b16=>⟨[(0,eL true (AV.int .u64) p0),(4,.ref 0 0 s7.2.length),(5,vI s1.1),(6,vI s4.1),(12,vI (zn p0)),(13,vI s1.1),(26,.int .u64 (zv (1*2^min (zt (zn p0)) zk))),(27,.int .u64 s7.1),(28,vB true),(29,.int .u64 s7.1),(7,.int .u64 s7.1),(30,.int .u64 s7.1),(31,vI s1.1),(32,.int .u64 (Int.fdiv s7.1 (2^min (zt s1.1) zk))),(33,.int .u64 s7.1),(34,vI s4.1),(35,.int .u64 (Int.fdiv s7.1 (2^min (zt s4.1) zk))),(36,.int .u64 (zv (zb (Int.fdiv s7.1 (2^min (zt s1.1) zk)) ||| zb (Int.fdiv s7.1 (2^min (zt s4.1) zk))).toNat)),(37,.int .u64 (zv (zb (zv (zb (Int.fdiv s7.1 (2^min (zt s1.1) zk)) ||| zb (Int.fdiv s7.1 (2^min (zt s4.1) zk))).toNat) &&& zb 1).toNat)),(38,vB false),(40,eL true (AV.int .u64) p0),(41,vI s1.1),(42,.int .u64 (zv (1*2^min (zt s1.1) zk))),(43,vI s4.1),(44,.int .u64 (zv (1*2^min (zt s4.1) zk))),(45,.int .u64 s7.1),(46,.tup [vB b16,vI x12.2]),(39,.tup [vB b16,vI x12.2]),(47,vB b16),(48,vI x12.2),(8,vB b16),(9,vI x12.2),(49,vI x12.2),(50,vB false),(52,vB b16)],[oR true 3 eTapi_Fact s7.2],63⟩) (fun _=>?_) (fun _=>?_)
       ·refine hop 6 (fun _=>sgL false [] [] true gE) <| hoh 0 (fun _ _ h k=>Qco (enc:=eTapi_Fact) (l:=s7.2) (m:=([(Tapi_Fact.mk s1.1 s4.1 s7.1)]:(List Tapi_Fact))) (w:=3) (bytes:=24) (ob:=0) (nr:=true) (fl:=true) (nr':=true) (fl':=true) (b:=.ref 1 0 1) (rds:=[1]) false kr kr kr kr gE kr h k) <| hnx 3 (wz [2])
       refine hnx 3 (wz [0])
      refine hdx 1 (wz [0])
     ·refine hdn 0
     refine hnx 3 (wz [0])
    refine hdx 1 (wz [0])
   ·refine hdn 0
   refine hnx 2 (wz [0])
  refine hdx 1 (wz [0])
 ·refine hrt 0
 refine hrt 4
theorem Qah (p0:(List Int)):Ct Tryd.prog 15 [eL true (AV.int .u64) p0] (Zy p0) (fun x=>.tup [.ref 0 0 x.1.length,vI x.2]) (fun x=>[oR true 3 eTapi_Fact x.1]):=by
 refine hfn [] Tryd.func15 <| hcl 3 [] (g_equal_Check_ok p0) fun x1 _=>hbr 3 [8] (hwk 4 (wl [2,3] []) <| hwk 0 (wk_nil 2 3 true true gE) <| hrt 1) <| ?_
 refine hop 2 (fun _=>Zh (enc:=(AV.int .u64)) (l:=p0) (fl:=true) kr gE) <| hbr 1 [12] (hwk 3 (wl [2,3] []) <| hwk 0 (wk_nil 2 3 true true gE) <| hrt 1) <| ?_
 refine hcl 2 [] (g_equal_factsOf_ok p0) fun x7 _=>hrt 5
end
section
attribute [local irreducible] RW WP
noncomputable abbrev Qx:AObj:=oX true true 7 (.agg [vI 0,.int .u64 0,.int .u64 0,.int .u64 0,.int .u64 0,.int .u64 0,.int .u64 0])
noncomputable abbrev Qqi (p0:(List Int)):Nat×AV:=(0,eL true (AV.int .u64) p0)
noncomputable abbrev Ql5:Nat×AV:=(2,.ptr 0 0 0)
noncomputable abbrev Qnb:Nat×AV:=(3,.ptr 1 0 0)
noncomputable abbrev Qpz (p0:(List Int)):Nat×AV:=(10,eL true (AV.int .u64) p0)
noncomputable abbrev Qqe (p0:(List Int)):Nat×AV:=(11,vI (zn p0))
noncomputable abbrev Q0q (a4:Int):Nat×AV:=(5,.int .u64 a4)
noncomputable abbrev Qzj (p0:(List Int)):Nat×AV:=(18,vI (zn p0))
noncomputable abbrev Q7w (a4:Int):Nat×AV:=(22,.int .u64 a4)
noncomputable abbrev Q7q:Nat×AV:=(28,.ptr 1 0 1)
noncomputable abbrev Zg:Nat×AV:=(34,.ptr 1 0 1)
noncomputable abbrev Ze:Nat×AV:=(37,.ptr 1 0 1)
noncomputable abbrev Q4 (w0 w1 w2 w3 w4 w5 w6 w7 w8:Nat×AV) (p0:(List Int)) (a4:Int):List (Nat×AV):=[(Qqi p0),Ql5,Qnb,w0,(Q0q a4),(Qpz p0),(Qqe p0),w1,(Qzj p0),w2,(20,vB true),w3,w4,(Q7w a4),w5,w6,w7,(26,vB true),w8,Q7q]
theorem g_equal_skeletonOf_ok (p0:(List Int)):Ct Tryd.prog 54 [eL true (AV.int .u64) p0] (Zz p0) (fun x=>.agg [vI x.n,.int .u64 x.near.1,.int .u64 x.near.2.1,.int .u64 x.near.2.2.1,.int .u64 x.near.2.2.2.1,.int .u64 x.near.2.2.2.2.1,.int .u64 x.near.2.2.2.2.2]) (fun x=>[]):=by
 refine hfn [] Tryd.func54 <| hop 2 (fun _=>Zh (enc:=(AV.int .u64)) (l:=p0) (fl:=true) kr gE) <| hop 4 (fun _=>Zh (enc:=(AV.int .u64)) (l:=p0) (fl:=true) kr gE) <| hlp 1 (fun s1=>⟨[(Qqi p0),Ql5,Qnb,(Qpz p0),(Qqe p0),(12,vI s1.1)],[Qx,oX true true 7 (.agg [vI (zn p0),.int .u64 s1.2.1,.int .u64 s1.2.2.1,.int .u64 s1.2.2.2.1,.int .u64 s1.2.2.2.2.1,.int .u64 s1.2.2.2.2.2.1,.int .u64 s1.2.2.2.2.2.2])],48⟩) (fun v=>(.exit 0,⟨[Ql5,Qnb],[Qx,oX true true 7 (.agg [vI (zn p0),.int .u64 v.1,.int .u64 v.2.1,.int .u64 v.2.2.1,.int .u64 v.2.2.2.1,.int .u64 v.2.2.2.2.1,.int .u64 v.2.2.2.2.2])],48⟩)) (wz [0,1]) (fun s1=>?_) fun x56=>?_
 ·refine hbr 1 [13] (?_) ?_
  ·refine hbd fun a4 q5=>hop 2 (fun _=>Xn (enc:=(AV.int .u64)) (l:=p0) (n:=s1.1) (fl:=true) (w:=1) (a:=a4) kr kr gE q5) <| hop 4 (fun _=>Zh (enc:=(AV.int .u64)) (l:=p0) (fl:=true) kr gE) <| hlp 1 (fun s6=>⟨[(Qqi p0),Ql5,Qnb,(4,vI s6.1),(Q0q a4),(Qpz p0),(Qqe p0),(12,vI s6.2.1),(Qzj p0),(19,vI s6.2.2.1)],[Qx,oX true true 7 (.agg [vI (zn p0),.int .u64 s6.2.2.2.1,.int .u64 s6.2.2.2.2.1,.int .u64 s6.2.2.2.2.2.1,.int .u64 s6.2.2.2.2.2.2.1,.int .u64 s6.2.2.2.2.2.2.2.1,.int .u64 s6.2.2.2.2.2.2.2.2])],48⟩) (fun v=>(.exit 2,⟨[(Qqi p0),Ql5,Qnb,(Qpz p0),(Qqe p0),(12,vI v.1)],[Qx,oX true true 7 (.agg [vI (zn p0),.int .u64 v.2.1,.int .u64 v.2.2.1,.int .u64 v.2.2.2.1,.int .u64 v.2.2.2.2.1,.int .u64 v.2.2.2.2.2.1,.int .u64 v.2.2.2.2.2.2])],48⟩)) (wz [0,1]) (fun s6=>?_) fun x54=>?_
   ·refine hbr 1 [20] (?_) ?_
    ·refine hoh 5 (fun _ _ h k=>X0 (k:=.u64) (k':=.i64) (a:=a4) (b:=s6.2.2.1) kr gE h k) <| hbr 2 [26] (?_) ?_
     ·refine hqi 4 (fun n11=>⟨(Q4 (4,vI n11) (12,vI s6.2.1) (19,vI s6.2.2.1) (21,vI s6.2.2.1) (6,vI s6.2.2.1) (23,vI s6.2.2.1) (24,.int .u64 (Int.fdiv a4 (2^min (zt s6.2.2.1) zk))) (25,.int .u64 (zv (zb (Int.fdiv a4 (2^min (zt s6.2.2.1) zk)) &&& zb 1).toNat)) (27,vI n11) p0 a4),[Qx,oX true true 7 (.agg [vI (zn p0),.int .u64 s6.2.2.2.1,.int .u64 s6.2.2.2.2.1,.int .u64 s6.2.2.2.2.2.1,.int .u64 s6.2.2.2.2.2.2.1,.int .u64 s6.2.2.2.2.2.2.2.1,.int .u64 s6.2.2.2.2.2.2.2.2])],48⟩) (fun _=>?_) (fun _=>?_)
      ·refine hoh 3 (fun _ _ h k=>Qk (k:=.u64) (k':=.i64) (a:=1) (b:=s6.2.2.1) kr gE h k) <| hqi 7 (fun n12=>⟨(Q4 (4,vI 0) (12,vI s6.2.1) (19,vI n12) (21,vI n12) (6,vI n12) (23,vI n12) (24,.int .u64 (Int.fdiv a4 (2^min (zt s6.2.2.1) zk))) (25,.int .u64 (zv (zb (Int.fdiv a4 (2^min (zt s6.2.2.1) zk)) &&& zb 1).toNat)) (27,vI 0) p0 a4)++[(29,.ptr 1 0 1),(30,.int .u64 s6.2.2.2.1),(31,vI n12),(32,.int .u64 (zv (1*2^min (zt s6.2.2.1) zk))),(33,.int .u64 (zv (zb s6.2.2.2.1 ||| zb (zv (1*2^min (zt s6.2.2.1) zk))).toNat)),Zg,(35,.ptr 1 0 1),(36,vI n12),Ze],[Qx,oX true true 7 (.agg [vI (zn p0),.int .u64 (zv (zb s6.2.2.2.1 ||| zb (zv (1*2^min (zt s6.2.2.1) zk))).toNat),.int .u64 s6.2.2.2.2.1,.int .u64 s6.2.2.2.2.2.1,.int .u64 s6.2.2.2.2.2.2.1,.int .u64 s6.2.2.2.2.2.2.2.1,.int .u64 s6.2.2.2.2.2.2.2.2])],48⟩) (fun _=>hnx 10 (wz [0,1])) fun _=>?_
       refine hqi 0 (fun n13=>⟨(Q4 (4,vI 0) (12,vI s6.2.1) (19,vI n13) (21,vI n13) (6,vI n13) (23,vI n13) (24,.int .u64 (Int.fdiv a4 (2^min (zt s6.2.2.1) zk))) (25,.int .u64 (zv (zb (Int.fdiv a4 (2^min (zt s6.2.2.1) zk)) &&& zb 1).toNat)) (27,vI 0) p0 a4)++[(29,.ptr 1 0 1),(30,.int .u64 s6.2.2.2.1),(31,vI n13),(32,.int .u64 (zv (1*2^min (zt s6.2.2.1) zk))),(33,.int .u64 (zv (zb s6.2.2.2.1 ||| zb (zv (1*2^min (zt s6.2.2.1) zk))).toNat)),Zg,(35,.ptr 1 0 1),(36,vI n13),Ze],[Qx,oX true true 7 (.agg [vI (zn p0),.int .u64 (zv (zb s6.2.2.2.1 ||| zb (zv (1*2^min (zt s6.2.2.1) zk))).toNat),.int .u64 s6.2.2.2.2.1,.int .u64 s6.2.2.2.2.2.1,.int .u64 s6.2.2.2.2.2.2.1,.int .u64 s6.2.2.2.2.2.2.2.1,.int .u64 s6.2.2.2.2.2.2.2.2])],48⟩) (fun _=>hnx 10 (wz [0,1])) fun _=>?_
       refine hqi 0 (fun n14=>⟨(Q4 (4,vI 0) (12,vI s6.2.1) (19,vI n14) (21,vI n14) (6,vI n14) (23,vI n14) (24,.int .u64 (Int.fdiv a4 (2^min (zt s6.2.2.1) zk))) (25,.int .u64 (zv (zb (Int.fdiv a4 (2^min (zt s6.2.2.1) zk)) &&& zb 1).toNat)) (27,vI 0) p0 a4)++[(29,.ptr 1 0 1),(30,.int .u64 s6.2.2.2.1),(31,vI n14),(32,.int .u64 (zv (1*2^min (zt s6.2.2.1) zk))),(33,.int .u64 (zv (zb s6.2.2.2.1 ||| zb (zv (1*2^min (zt s6.2.2.1) zk))).toNat)),Zg,(35,.ptr 1 0 1),(36,vI n14),Ze],[Qx,oX true true 7 (.agg [vI (zn p0),.int .u64 (zv (zb s6.2.2.2.1 ||| zb (zv (1*2^min (zt s6.2.2.1) zk))).toNat),.int .u64 s6.2.2.2.2.1,.int .u64 s6.2.2.2.2.2.1,.int .u64 s6.2.2.2.2.2.2.1,.int .u64 s6.2.2.2.2.2.2.2.1,.int .u64 s6.2.2.2.2.2.2.2.2])],48⟩) (fun _=>hnx 10 (wz [0,1])) fun _=>?_
       refine hqi 0 (fun n15=>⟨(Q4 (4,vI 0) (12,vI s6.2.1) (19,vI n15) (21,vI n15) (6,vI n15) (23,vI n15) (24,.int .u64 (Int.fdiv a4 (2^min (zt s6.2.2.1) zk))) (25,.int .u64 (zv (zb (Int.fdiv a4 (2^min (zt s6.2.2.1) zk)) &&& zb 1).toNat)) (27,vI 0) p0 a4)++[(29,.ptr 1 0 1),(30,.int .u64 s6.2.2.2.1),(31,vI n15),(32,.int .u64 (zv (1*2^min (zt s6.2.2.1) zk))),(33,.int .u64 (zv (zb s6.2.2.2.1 ||| zb (zv (1*2^min (zt s6.2.2.1) zk))).toNat)),Zg,(35,.ptr 1 0 1),(36,vI n15),Ze],[Qx,oX true true 7 (.agg [vI (zn p0),.int .u64 (zv (zb s6.2.2.2.1 ||| zb (zv (1*2^min (zt s6.2.2.1) zk))).toNat),.int .u64 s6.2.2.2.2.1,.int .u64 s6.2.2.2.2.2.1,.int .u64 s6.2.2.2.2.2.2.1,.int .u64 s6.2.2.2.2.2.2.2.1,.int .u64 s6.2.2.2.2.2.2.2.2])],48⟩) (fun _=>hnx 10 (wz [0,1])) fun _=>?_
       refine hqi 0 (fun n16=>⟨(Q4 (4,vI 0) (12,vI s6.2.1) (19,vI n16) (21,vI n16) (6,vI n16) (23,vI n16) (24,.int .u64 (Int.fdiv a4 (2^min (zt s6.2.2.1) zk))) (25,.int .u64 (zv (zb (Int.fdiv a4 (2^min (zt s6.2.2.1) zk)) &&& zb 1).toNat)) (27,vI 0) p0 a4)++[(29,.ptr 1 0 1),(30,.int .u64 s6.2.2.2.1),(31,vI n16),(32,.int .u64 (zv (1*2^min (zt s6.2.2.1) zk))),(33,.int .u64 (zv (zb s6.2.2.2.1 ||| zb (zv (1*2^min (zt s6.2.2.1) zk))).toNat)),Zg,(35,.ptr 1 0 1),(36,vI n16),Ze],[Qx,oX true true 7 (.agg [vI (zn p0),.int .u64 (zv (zb s6.2.2.2.1 ||| zb (zv (1*2^min (zt s6.2.2.1) zk))).toNat),.int .u64 s6.2.2.2.2.1,.int .u64 s6.2.2.2.2.2.1,.int .u64 s6.2.2.2.2.2.2.1,.int .u64 s6.2.2.2.2.2.2.2.1,.int .u64 s6.2.2.2.2.2.2.2.2])],48⟩) (fun _=>hnx 10 (wz [0,1])) fun _=>?_
       refine hqi 0 (fun n17=>⟨(Q4 (4,vI 0) (12,vI s6.2.1) (19,vI n17) (21,vI n17) (6,vI n17) (23,vI n17) (24,.int .u64 (Int.fdiv a4 (2^min (zt s6.2.2.1) zk))) (25,.int .u64 (zv (zb (Int.fdiv a4 (2^min (zt s6.2.2.1) zk)) &&& zb 1).toNat)) (27,vI 0) p0 a4)++[(29,.ptr 1 0 1),(30,.int .u64 s6.2.2.2.1),(31,vI n17),(32,.int .u64 (zv (1*2^min (zt s6.2.2.1) zk))),(33,.int .u64 (zv (zb s6.2.2.2.1 ||| zb (zv (1*2^min (zt s6.2.2.1) zk))).toNat)),Zg,(35,.ptr 1 0 1),(36,vI n17),Ze],[Qx,oX true true 7 (.agg [vI (zn p0),.int .u64 (zv (zb s6.2.2.2.1 ||| zb (zv (1*2^min (zt s6.2.2.1) zk))).toNat),.int .u64 s6.2.2.2.2.1,.int .u64 s6.2.2.2.2.2.1,.int .u64 s6.2.2.2.2.2.2.1,.int .u64 s6.2.2.2.2.2.2.2.1,.int .u64 s6.2.2.2.2.2.2.2.2])],48⟩) (fun _=>hnx 10 (wz [0,1])) fun _=>?_
       refine hnn
      refine hqi 0 (fun n18=>⟨(Q4 (4,vI n18) (12,vI s6.2.1) (19,vI s6.2.2.1) (21,vI s6.2.2.1) (6,vI s6.2.2.1) (23,vI s6.2.2.1) (24,.int .u64 (Int.fdiv a4 (2^min (zt s6.2.2.1) zk))) (25,.int .u64 (zv (zb (Int.fdiv a4 (2^min (zt s6.2.2.1) zk)) &&& zb 1).toNat)) (27,vI n18) p0 a4),[Qx,oX true true 7 (.agg [vI (zn p0),.int .u64 s6.2.2.2.1,.int .u64 s6.2.2.2.2.1,.int .u64 s6.2.2.2.2.2.1,.int .u64 s6.2.2.2.2.2.2.1,.int .u64 s6.2.2.2.2.2.2.2.1,.int .u64 s6.2.2.2.2.2.2.2.2])],48⟩) (fun _=>?_) (fun _=>?_)
      ·refine hoh 3 (fun _ _ h k=>Qk (k:=.u64) (k':=.i64) (a:=1) (b:=s6.2.2.1) kr gE h k) <| hqi 7 (fun n19=>⟨(Q4 (4,vI 1) (12,vI s6.2.1) (19,vI n19) (21,vI n19) (6,vI n19) (23,vI n19) (24,.int .u64 (Int.fdiv a4 (2^min (zt s6.2.2.1) zk))) (25,.int .u64 (zv (zb (Int.fdiv a4 (2^min (zt s6.2.2.1) zk)) &&& zb 1).toNat)) (27,vI 1) p0 a4)++[(29,.ptr 1 0 2),(30,.int .u64 s6.2.2.2.2.1),(31,vI n19),(32,.int .u64 (zv (1*2^min (zt s6.2.2.1) zk))),(33,.int .u64 (zv (zb s6.2.2.2.2.1 ||| zb (zv (1*2^min (zt s6.2.2.1) zk))).toNat)),Zg,(35,.ptr 1 0 2),(36,vI n19),Ze],[Qx,oX true true 7 (.agg [vI (zn p0),.int .u64 s6.2.2.2.1,.int .u64 (zv (zb s6.2.2.2.2.1 ||| zb (zv (1*2^min (zt s6.2.2.1) zk))).toNat),.int .u64 s6.2.2.2.2.2.1,.int .u64 s6.2.2.2.2.2.2.1,.int .u64 s6.2.2.2.2.2.2.2.1,.int .u64 s6.2.2.2.2.2.2.2.2])],48⟩) (fun _=>hnx 10 (wz [0,1])) fun _=>?_
       refine hqi 0 (fun n20=>⟨(Q4 (4,vI 1) (12,vI s6.2.1) (19,vI n20) (21,vI n20) (6,vI n20) (23,vI n20) (24,.int .u64 (Int.fdiv a4 (2^min (zt s6.2.2.1) zk))) (25,.int .u64 (zv (zb (Int.fdiv a4 (2^min (zt s6.2.2.1) zk)) &&& zb 1).toNat)) (27,vI 1) p0 a4)++[(29,.ptr 1 0 2),(30,.int .u64 s6.2.2.2.2.1),(31,vI n20),(32,.int .u64 (zv (1*2^min (zt s6.2.2.1) zk))),(33,.int .u64 (zv (zb s6.2.2.2.2.1 ||| zb (zv (1*2^min (zt s6.2.2.1) zk))).toNat)),Zg,(35,.ptr 1 0 2),(36,vI n20),Ze],[Qx,oX true true 7 (.agg [vI (zn p0),.int .u64 s6.2.2.2.1,.int .u64 (zv (zb s6.2.2.2.2.1 ||| zb (zv (1*2^min (zt s6.2.2.1) zk))).toNat),.int .u64 s6.2.2.2.2.2.1,.int .u64 s6.2.2.2.2.2.2.1,.int .u64 s6.2.2.2.2.2.2.2.1,.int .u64 s6.2.2.2.2.2.2.2.2])],48⟩) (fun _=>hnx 10 (wz [0,1])) fun _=>?_
       refine hqi 0 (fun n21=>⟨(Q4 (4,vI 1) (12,vI s6.2.1) (19,vI n21) (21,vI n21) (6,vI n21) (23,vI n21) (24,.int .u64 (Int.fdiv a4 (2^min (zt s6.2.2.1) zk))) (25,.int .u64 (zv (zb (Int.fdiv a4 (2^min (zt s6.2.2.1) zk)) &&& zb 1).toNat)) (27,vI 1) p0 a4)++[(29,.ptr 1 0 2),(30,.int .u64 s6.2.2.2.2.1),(31,vI n21),(32,.int .u64 (zv (1*2^min (zt s6.2.2.1) zk))),(33,.int .u64 (zv (zb s6.2.2.2.2.1 ||| zb (zv (1*2^min (zt s6.2.2.1) zk))).toNat)),Zg,(35,.ptr 1 0 2),(36,vI n21),Ze],[Qx,oX true true 7 (.agg [vI (zn p0),.int .u64 s6.2.2.2.1,.int .u64 (zv (zb s6.2.2.2.2.1 ||| zb (zv (1*2^min (zt s6.2.2.1) zk))).toNat),.int .u64 s6.2.2.2.2.2.1,.int .u64 s6.2.2.2.2.2.2.1,.int .u64 s6.2.2.2.2.2.2.2.1,.int .u64 s6.2.2.2.2.2.2.2.2])],48⟩) (fun _=>hnx 10 (wz [0,1])) fun _=>?_
       refine hqi 0 (fun n22=>⟨(Q4 (4,vI 1) (12,vI s6.2.1) (19,vI n22) (21,vI n22) (6,vI n22) (23,vI n22) (24,.int .u64 (Int.fdiv a4 (2^min (zt s6.2.2.1) zk))) (25,.int .u64 (zv (zb (Int.fdiv a4 (2^min (zt s6.2.2.1) zk)) &&& zb 1).toNat)) (27,vI 1) p0 a4)++[(29,.ptr 1 0 2),(30,.int .u64 s6.2.2.2.2.1),(31,vI n22),(32,.int .u64 (zv (1*2^min (zt s6.2.2.1) zk))),(33,.int .u64 (zv (zb s6.2.2.2.2.1 ||| zb (zv (1*2^min (zt s6.2.2.1) zk))).toNat)),Zg,(35,.ptr 1 0 2),(36,vI n22),Ze],[Qx,oX true true 7 (.agg [vI (zn p0),.int .u64 s6.2.2.2.1,.int .u64 (zv (zb s6.2.2.2.2.1 ||| zb (zv (1*2^min (zt s6.2.2.1) zk))).toNat),.int .u64 s6.2.2.2.2.2.1,.int .u64 s6.2.2.2.2.2.2.1,.int .u64 s6.2.2.2.2.2.2.2.1,.int .u64 s6.2.2.2.2.2.2.2.2])],48⟩) (fun _=>hnx 10 (wz [0,1])) fun _=>?_
       refine hqi 0 (fun n23=>⟨(Q4 (4,vI 1) (12,vI s6.2.1) (19,vI n23) (21,vI n23) (6,vI n23) (23,vI n23) (24,.int .u64 (Int.fdiv a4 (2^min (zt s6.2.2.1) zk))) (25,.int .u64 (zv (zb (Int.fdiv a4 (2^min (zt s6.2.2.1) zk)) &&& zb 1).toNat)) (27,vI 1) p0 a4)++[(29,.ptr 1 0 2),(30,.int .u64 s6.2.2.2.2.1),(31,vI n23),(32,.int .u64 (zv (1*2^min (zt s6.2.2.1) zk))),(33,.int .u64 (zv (zb s6.2.2.2.2.1 ||| zb (zv (1*2^min (zt s6.2.2.1) zk))).toNat)),Zg,(35,.ptr 1 0 2),(36,vI n23),Ze],[Qx,oX true true 7 (.agg [vI (zn p0),.int .u64 s6.2.2.2.1,.int .u64 (zv (zb s6.2.2.2.2.1 ||| zb (zv (1*2^min (zt s6.2.2.1) zk))).toNat),.int .u64 s6.2.2.2.2.2.1,.int .u64 s6.2.2.2.2.2.2.1,.int .u64 s6.2.2.2.2.2.2.2.1,.int .u64 s6.2.2.2.2.2.2.2.2])],48⟩) (fun _=>hnx 10 (wz [0,1])) fun _=>?_
       refine hqi 0 (fun n24=>⟨(Q4 (4,vI 1) (12,vI s6.2.1) (19,vI n24) (21,vI n24) (6,vI n24) (23,vI n24) (24,.int .u64 (Int.fdiv a4 (2^min (zt s6.2.2.1) zk))) (25,.int .u64 (zv (zb (Int.fdiv a4 (2^min (zt s6.2.2.1) zk)) &&& zb 1).toNat)) (27,vI 1) p0 a4)++[(29,.ptr 1 0 2),(30,.int .u64 s6.2.2.2.2.1),(31,vI n24),(32,.int .u64 (zv (1*2^min (zt s6.2.2.1) zk))),(33,.int .u64 (zv (zb s6.2.2.2.2.1 ||| zb (zv (1*2^min (zt s6.2.2.1) zk))).toNat)),Zg,(35,.ptr 1 0 2),(36,vI n24),Ze],[Qx,oX true true 7 (.agg [vI (zn p0),.int .u64 s6.2.2.2.1,.int .u64 (zv (zb s6.2.2.2.2.1 ||| zb (zv (1*2^min (zt s6.2.2.1) zk))).toNat),.int .u64 s6.2.2.2.2.2.1,.int .u64 s6.2.2.2.2.2.2.1,.int .u64 s6.2.2.2.2.2.2.2.1,.int .u64 s6.2.2.2.2.2.2.2.2])],48⟩) (fun _=>hnx 10 (wz [0,1])) fun _=>?_
       refine hnn
      refine hqi 0 (fun n25=>⟨(Q4 (4,vI n25) (12,vI s6.2.1) (19,vI s6.2.2.1) (21,vI s6.2.2.1) (6,vI s6.2.2.1) (23,vI s6.2.2.1) (24,.int .u64 (Int.fdiv a4 (2^min (zt s6.2.2.1) zk))) (25,.int .u64 (zv (zb (Int.fdiv a4 (2^min (zt s6.2.2.1) zk)) &&& zb 1).toNat)) (27,vI n25) p0 a4),[Qx,oX true true 7 (.agg [vI (zn p0),.int .u64 s6.2.2.2.1,.int .u64 s6.2.2.2.2.1,.int .u64 s6.2.2.2.2.2.1,.int .u64 s6.2.2.2.2.2.2.1,.int .u64 s6.2.2.2.2.2.2.2.1,.int .u64 s6.2.2.2.2.2.2.2.2])],48⟩) (fun _=>?_) (fun _=>?_)
      ·refine hoh 3 (fun _ _ h k=>Qk (k:=.u64) (k':=.i64) (a:=1) (b:=s6.2.2.1) kr gE h k) <| hqi 7 (fun n26=>⟨(Q4 (4,vI 2) (12,vI s6.2.1) (19,vI n26) (21,vI n26) (6,vI n26) (23,vI n26) (24,.int .u64 (Int.fdiv a4 (2^min (zt s6.2.2.1) zk))) (25,.int .u64 (zv (zb (Int.fdiv a4 (2^min (zt s6.2.2.1) zk)) &&& zb 1).toNat)) (27,vI 2) p0 a4)++[(29,.ptr 1 0 3),(30,.int .u64 s6.2.2.2.2.2.1),(31,vI n26),(32,.int .u64 (zv (1*2^min (zt s6.2.2.1) zk))),(33,.int .u64 (zv (zb s6.2.2.2.2.2.1 ||| zb (zv (1*2^min (zt s6.2.2.1) zk))).toNat)),Zg,(35,.ptr 1 0 3),(36,vI n26),Ze],[Qx,oX true true 7 (.agg [vI (zn p0),.int .u64 s6.2.2.2.1,.int .u64 s6.2.2.2.2.1,.int .u64 (zv (zb s6.2.2.2.2.2.1 ||| zb (zv (1*2^min (zt s6.2.2.1) zk))).toNat),.int .u64 s6.2.2.2.2.2.2.1,.int .u64 s6.2.2.2.2.2.2.2.1,.int .u64 s6.2.2.2.2.2.2.2.2])],48⟩) (fun _=>hnx 10 (wz [0,1])) fun _=>?_
       refine hqi 0 (fun n27=>⟨(Q4 (4,vI 2) (12,vI s6.2.1) (19,vI n27) (21,vI n27) (6,vI n27) (23,vI n27) (24,.int .u64 (Int.fdiv a4 (2^min (zt s6.2.2.1) zk))) (25,.int .u64 (zv (zb (Int.fdiv a4 (2^min (zt s6.2.2.1) zk)) &&& zb 1).toNat)) (27,vI 2) p0 a4)++[(29,.ptr 1 0 3),(30,.int .u64 s6.2.2.2.2.2.1),(31,vI n27),(32,.int .u64 (zv (1*2^min (zt s6.2.2.1) zk))),(33,.int .u64 (zv (zb s6.2.2.2.2.2.1 ||| zb (zv (1*2^min (zt s6.2.2.1) zk))).toNat)),Zg,(35,.ptr 1 0 3),(36,vI n27),Ze],[Qx,oX true true 7 (.agg [vI (zn p0),.int .u64 s6.2.2.2.1,.int .u64 s6.2.2.2.2.1,.int .u64 (zv (zb s6.2.2.2.2.2.1 ||| zb (zv (1*2^min (zt s6.2.2.1) zk))).toNat),.int .u64 s6.2.2.2.2.2.2.1,.int .u64 s6.2.2.2.2.2.2.2.1,.int .u64 s6.2.2.2.2.2.2.2.2])],48⟩) (fun _=>hnx 10 (wz [0,1])) fun _=>?_
       refine hqi 0 (fun n28=>⟨(Q4 (4,vI 2) (12,vI s6.2.1) (19,vI n28) (21,vI n28) (6,vI n28) (23,vI n28) (24,.int .u64 (Int.fdiv a4 (2^min (zt s6.2.2.1) zk))) (25,.int .u64 (zv (zb (Int.fdiv a4 (2^min (zt s6.2.2.1) zk)) &&& zb 1).toNat)) (27,vI 2) p0 a4)++[(29,.ptr 1 0 3),(30,.int .u64 s6.2.2.2.2.2.1),(31,vI n28),(32,.int .u64 (zv (1*2^min (zt s6.2.2.1) zk))),(33,.int .u64 (zv (zb s6.2.2.2.2.2.1 ||| zb (zv (1*2^min (zt s6.2.2.1) zk))).toNat)),Zg,(35,.ptr 1 0 3),(36,vI n28),Ze],[Qx,oX true true 7 (.agg [vI (zn p0),.int .u64 s6.2.2.2.1,.int .u64 s6.2.2.2.2.1,.int .u64 (zv (zb s6.2.2.2.2.2.1 ||| zb (zv (1*2^min (zt s6.2.2.1) zk))).toNat),.int .u64 s6.2.2.2.2.2.2.1,.int .u64 s6.2.2.2.2.2.2.2.1,.int .u64 s6.2.2.2.2.2.2.2.2])],48⟩) (fun _=>hnx 10 (wz [0,1])) fun _=>?_
       refine hqi 0 (fun n29=>⟨(Q4 (4,vI 2) (12,vI s6.2.1) (19,vI n29) (21,vI n29) (6,vI n29) (23,vI n29) (24,.int .u64 (Int.fdiv a4 (2^min (zt s6.2.2.1) zk))) (25,.int .u64 (zv (zb (Int.fdiv a4 (2^min (zt s6.2.2.1) zk)) &&& zb 1).toNat)) (27,vI 2) p0 a4)++[(29,.ptr 1 0 3),(30,.int .u64 s6.2.2.2.2.2.1),(31,vI n29),(32,.int .u64 (zv (1*2^min (zt s6.2.2.1) zk))),(33,.int .u64 (zv (zb s6.2.2.2.2.2.1 ||| zb (zv (1*2^min (zt s6.2.2.1) zk))).toNat)),Zg,(35,.ptr 1 0 3),(36,vI n29),Ze],[Qx,oX true true 7 (.agg [vI (zn p0),.int .u64 s6.2.2.2.1,.int .u64 s6.2.2.2.2.1,.int .u64 (zv (zb s6.2.2.2.2.2.1 ||| zb (zv (1*2^min (zt s6.2.2.1) zk))).toNat),.int .u64 s6.2.2.2.2.2.2.1,.int .u64 s6.2.2.2.2.2.2.2.1,.int .u64 s6.2.2.2.2.2.2.2.2])],48⟩) (fun _=>hnx 10 (wz [0,1])) fun _=>?_
       refine hqi 0 (fun n30=>⟨(Q4 (4,vI 2) (12,vI s6.2.1) (19,vI n30) (21,vI n30) (6,vI n30) (23,vI n30) (24,.int .u64 (Int.fdiv a4 (2^min (zt s6.2.2.1) zk))) (25,.int .u64 (zv (zb (Int.fdiv a4 (2^min (zt s6.2.2.1) zk)) &&& zb 1).toNat)) (27,vI 2) p0 a4)++[(29,.ptr 1 0 3),(30,.int .u64 s6.2.2.2.2.2.1),(31,vI n30),(32,.int .u64 (zv (1*2^min (zt s6.2.2.1) zk))),(33,.int .u64 (zv (zb s6.2.2.2.2.2.1 ||| zb (zv (1*2^min (zt s6.2.2.1) zk))).toNat)),Zg,(35,.ptr 1 0 3),(36,vI n30),Ze],[Qx,oX true true 7 (.agg [vI (zn p0),.int .u64 s6.2.2.2.1,.int .u64 s6.2.2.2.2.1,.int .u64 (zv (zb s6.2.2.2.2.2.1 ||| zb (zv (1*2^min (zt s6.2.2.1) zk))).toNat),.int .u64 s6.2.2.2.2.2.2.1,.int .u64 s6.2.2.2.2.2.2.2.1,.int .u64 s6.2.2.2.2.2.2.2.2])],48⟩) (fun _=>hnx 10 (wz [0,1])) fun _=>?_
       refine hqi 0 (fun n31=>⟨(Q4 (4,vI 2) (12,vI s6.2.1) (19,vI n31) (21,vI n31) (6,vI n31) (23,vI n31) (24,.int .u64 (Int.fdiv a4 (2^min (zt s6.2.2.1) zk))) (25,.int .u64 (zv (zb (Int.fdiv a4 (2^min (zt s6.2.2.1) zk)) &&& zb 1).toNat)) (27,vI 2) p0 a4)++[(29,.ptr 1 0 3),(30,.int .u64 s6.2.2.2.2.2.1),(31,vI n31),(32,.int .u64 (zv (1*2^min (zt s6.2.2.1) zk))),(33,.int .u64 (zv (zb s6.2.2.2.2.2.1 ||| zb (zv (1*2^min (zt s6.2.2.1) zk))).toNat)),Zg,(35,.ptr 1 0 3),(36,vI n31),Ze],[Qx,oX true true 7 (.agg [vI (zn p0),.int .u64 s6.2.2.2.1,.int .u64 s6.2.2.2.2.1,.int .u64 (zv (zb s6.2.2.2.2.2.1 ||| zb (zv (1*2^min (zt s6.2.2.1) zk))).toNat),.int .u64 s6.2.2.2.2.2.2.1,.int .u64 s6.2.2.2.2.2.2.2.1,.int .u64 s6.2.2.2.2.2.2.2.2])],48⟩) (fun _=>hnx 10 (wz [0,1])) fun _=>?_
       refine hnn
      refine hqi 0 (fun n32=>⟨(Q4 (4,vI n32) (12,vI s6.2.1) (19,vI s6.2.2.1) (21,vI s6.2.2.1) (6,vI s6.2.2.1) (23,vI s6.2.2.1) (24,.int .u64 (Int.fdiv a4 (2^min (zt s6.2.2.1) zk))) (25,.int .u64 (zv (zb (Int.fdiv a4 (2^min (zt s6.2.2.1) zk)) &&& zb 1).toNat)) (27,vI n32) p0 a4),[Qx,oX true true 7 (.agg [vI (zn p0),.int .u64 s6.2.2.2.1,.int .u64 s6.2.2.2.2.1,.int .u64 s6.2.2.2.2.2.1,.int .u64 s6.2.2.2.2.2.2.1,.int .u64 s6.2.2.2.2.2.2.2.1,.int .u64 s6.2.2.2.2.2.2.2.2])],48⟩) (fun _=>?_) (fun _=>?_)
      ·refine hoh 3 (fun _ _ h k=>Qk (k:=.u64) (k':=.i64) (a:=1) (b:=s6.2.2.1) kr gE h k) <| hqi 7 (fun n33=>⟨(Q4 (4,vI 3) (12,vI s6.2.1) (19,vI n33) (21,vI n33) (6,vI n33) (23,vI n33) (24,.int .u64 (Int.fdiv a4 (2^min (zt s6.2.2.1) zk))) (25,.int .u64 (zv (zb (Int.fdiv a4 (2^min (zt s6.2.2.1) zk)) &&& zb 1).toNat)) (27,vI 3) p0 a4)++[(29,.ptr 1 0 4),(30,.int .u64 s6.2.2.2.2.2.2.1),(31,vI n33),(32,.int .u64 (zv (1*2^min (zt s6.2.2.1) zk))),(33,.int .u64 (zv (zb s6.2.2.2.2.2.2.1 ||| zb (zv (1*2^min (zt s6.2.2.1) zk))).toNat)),Zg,(35,.ptr 1 0 4),(36,vI n33),Ze],[Qx,oX true true 7 (.agg [vI (zn p0),.int .u64 s6.2.2.2.1,.int .u64 s6.2.2.2.2.1,.int .u64 s6.2.2.2.2.2.1,.int .u64 (zv (zb s6.2.2.2.2.2.2.1 ||| zb (zv (1*2^min (zt s6.2.2.1) zk))).toNat),.int .u64 s6.2.2.2.2.2.2.2.1,.int .u64 s6.2.2.2.2.2.2.2.2])],48⟩) (fun _=>hnx 10 (wz [0,1])) fun _=>?_
       refine hqi 0 (fun n34=>⟨(Q4 (4,vI 3) (12,vI s6.2.1) (19,vI n34) (21,vI n34) (6,vI n34) (23,vI n34) (24,.int .u64 (Int.fdiv a4 (2^min (zt s6.2.2.1) zk))) (25,.int .u64 (zv (zb (Int.fdiv a4 (2^min (zt s6.2.2.1) zk)) &&& zb 1).toNat)) (27,vI 3) p0 a4)++[(29,.ptr 1 0 4),(30,.int .u64 s6.2.2.2.2.2.2.1),(31,vI n34),(32,.int .u64 (zv (1*2^min (zt s6.2.2.1) zk))),(33,.int .u64 (zv (zb s6.2.2.2.2.2.2.1 ||| zb (zv (1*2^min (zt s6.2.2.1) zk))).toNat)),Zg,(35,.ptr 1 0 4),(36,vI n34),Ze],[Qx,oX true true 7 (.agg [vI (zn p0),.int .u64 s6.2.2.2.1,.int .u64 s6.2.2.2.2.1,.int .u64 s6.2.2.2.2.2.1,.int .u64 (zv (zb s6.2.2.2.2.2.2.1 ||| zb (zv (1*2^min (zt s6.2.2.1) zk))).toNat),.int .u64 s6.2.2.2.2.2.2.2.1,.int .u64 s6.2.2.2.2.2.2.2.2])],48⟩) (fun _=>hnx 10 (wz [0,1])) fun _=>?_
       refine hqi 0 (fun n35=>⟨(Q4 (4,vI 3) (12,vI s6.2.1) (19,vI n35) (21,vI n35) (6,vI n35) (23,vI n35) (24,.int .u64 (Int.fdiv a4 (2^min (zt s6.2.2.1) zk))) (25,.int .u64 (zv (zb (Int.fdiv a4 (2^min (zt s6.2.2.1) zk)) &&& zb 1).toNat)) (27,vI 3) p0 a4)++[(29,.ptr 1 0 4),(30,.int .u64 s6.2.2.2.2.2.2.1),(31,vI n35),(32,.int .u64 (zv (1*2^min (zt s6.2.2.1) zk))),(33,.int .u64 (zv (zb s6.2.2.2.2.2.2.1 ||| zb (zv (1*2^min (zt s6.2.2.1) zk))).toNat)),Zg,(35,.ptr 1 0 4),(36,vI n35),Ze],[Qx,oX true true 7 (.agg [vI (zn p0),.int .u64 s6.2.2.2.1,.int .u64 s6.2.2.2.2.1,.int .u64 s6.2.2.2.2.2.1,.int .u64 (zv (zb s6.2.2.2.2.2.2.1 ||| zb (zv (1*2^min (zt s6.2.2.1) zk))).toNat),.int .u64 s6.2.2.2.2.2.2.2.1,.int .u64 s6.2.2.2.2.2.2.2.2])],48⟩) (fun _=>hnx 10 (wz [0,1])) fun _=>?_
       refine hqi 0 (fun n36=>⟨(Q4 (4,vI 3) (12,vI s6.2.1) (19,vI n36) (21,vI n36) (6,vI n36) (23,vI n36) (24,.int .u64 (Int.fdiv a4 (2^min (zt s6.2.2.1) zk))) (25,.int .u64 (zv (zb (Int.fdiv a4 (2^min (zt s6.2.2.1) zk)) &&& zb 1).toNat)) (27,vI 3) p0 a4)++[(29,.ptr 1 0 4),(30,.int .u64 s6.2.2.2.2.2.2.1),(31,vI n36),(32,.int .u64 (zv (1*2^min (zt s6.2.2.1) zk))),(33,.int .u64 (zv (zb s6.2.2.2.2.2.2.1 ||| zb (zv (1*2^min (zt s6.2.2.1) zk))).toNat)),Zg,(35,.ptr 1 0 4),(36,vI n36),Ze],[Qx,oX true true 7 (.agg [vI (zn p0),.int .u64 s6.2.2.2.1,.int .u64 s6.2.2.2.2.1,.int .u64 s6.2.2.2.2.2.1,.int .u64 (zv (zb s6.2.2.2.2.2.2.1 ||| zb (zv (1*2^min (zt s6.2.2.1) zk))).toNat),.int .u64 s6.2.2.2.2.2.2.2.1,.int .u64 s6.2.2.2.2.2.2.2.2])],48⟩) (fun _=>hnx 10 (wz [0,1])) fun _=>?_
       refine hqi 0 (fun n37=>⟨(Q4 (4,vI 3) (12,vI s6.2.1) (19,vI n37) (21,vI n37) (6,vI n37) (23,vI n37) (24,.int .u64 (Int.fdiv a4 (2^min (zt s6.2.2.1) zk))) (25,.int .u64 (zv (zb (Int.fdiv a4 (2^min (zt s6.2.2.1) zk)) &&& zb 1).toNat)) (27,vI 3) p0 a4)++[(29,.ptr 1 0 4),(30,.int .u64 s6.2.2.2.2.2.2.1),(31,vI n37),(32,.int .u64 (zv (1*2^min (zt s6.2.2.1) zk))),(33,.int .u64 (zv (zb s6.2.2.2.2.2.2.1 ||| zb (zv (1*2^min (zt s6.2.2.1) zk))).toNat)),Zg,(35,.ptr 1 0 4),(36,vI n37),Ze],[Qx,oX true true 7 (.agg [vI (zn p0),.int .u64 s6.2.2.2.1,.int .u64 s6.2.2.2.2.1,.int .u64 s6.2.2.2.2.2.1,.int .u64 (zv (zb s6.2.2.2.2.2.2.1 ||| zb (zv (1*2^min (zt s6.2.2.1) zk))).toNat),.int .u64 s6.2.2.2.2.2.2.2.1,.int .u64 s6.2.2.2.2.2.2.2.2])],48⟩) (fun _=>hnx 10 (wz [0,1])) fun _=>?_
       refine hqi 0 (fun n38=>⟨(Q4 (4,vI 3) (12,vI s6.2.1) (19,vI n38) (21,vI n38) (6,vI n38) (23,vI n38) (24,.int .u64 (Int.fdiv a4 (2^min (zt s6.2.2.1) zk))) (25,.int .u64 (zv (zb (Int.fdiv a4 (2^min (zt s6.2.2.1) zk)) &&& zb 1).toNat)) (27,vI 3) p0 a4)++[(29,.ptr 1 0 4),(30,.int .u64 s6.2.2.2.2.2.2.1),(31,vI n38),(32,.int .u64 (zv (1*2^min (zt s6.2.2.1) zk))),(33,.int .u64 (zv (zb s6.2.2.2.2.2.2.1 ||| zb (zv (1*2^min (zt s6.2.2.1) zk))).toNat)),Zg,(35,.ptr 1 0 4),(36,vI n38),Ze],[Qx,oX true true 7 (.agg [vI (zn p0),.int .u64 s6.2.2.2.1,.int .u64 s6.2.2.2.2.1,.int .u64 s6.2.2.2.2.2.1,.int .u64 (zv (zb s6.2.2.2.2.2.2.1 ||| zb (zv (1*2^min (zt s6.2.2.1) zk))).toNat),.int .u64 s6.2.2.2.2.2.2.2.1,.int .u64 s6.2.2.2.2.2.2.2.2])],48⟩) (fun _=>hnx 10 (wz [0,1])) fun _=>?_
       refine hnn
      refine hqi 0 (fun n39=>⟨(Q4 (4,vI n39) (12,vI s6.2.1) (19,vI s6.2.2.1) (21,vI s6.2.2.1) (6,vI s6.2.2.1) (23,vI s6.2.2.1) (24,.int .u64 (Int.fdiv a4 (2^min (zt s6.2.2.1) zk))) (25,.int .u64 (zv (zb (Int.fdiv a4 (2^min (zt s6.2.2.1) zk)) &&& zb 1).toNat)) (27,vI n39) p0 a4),[Qx,oX true true 7 (.agg [vI (zn p0),.int .u64 s6.2.2.2.1,.int .u64 s6.2.2.2.2.1,.int .u64 s6.2.2.2.2.2.1,.int .u64 s6.2.2.2.2.2.2.1,.int .u64 s6.2.2.2.2.2.2.2.1,.int .u64 s6.2.2.2.2.2.2.2.2])],48⟩) (fun _=>?_) (fun _=>?_)
      ·refine hoh 3 (fun _ _ h k=>Qk (k:=.u64) (k':=.i64) (a:=1) (b:=s6.2.2.1) kr gE h k) <| hqi 7 (fun n40=>⟨(Q4 (4,vI 4) (12,vI s6.2.1) (19,vI n40) (21,vI n40) (6,vI n40) (23,vI n40) (24,.int .u64 (Int.fdiv a4 (2^min (zt s6.2.2.1) zk))) (25,.int .u64 (zv (zb (Int.fdiv a4 (2^min (zt s6.2.2.1) zk)) &&& zb 1).toNat)) (27,vI 4) p0 a4)++[(29,.ptr 1 0 5),(30,.int .u64 s6.2.2.2.2.2.2.2.1),(31,vI n40),(32,.int .u64 (zv (1*2^min (zt s6.2.2.1) zk))),(33,.int .u64 (zv (zb s6.2.2.2.2.2.2.2.1 ||| zb (zv (1*2^min (zt s6.2.2.1) zk))).toNat)),Zg,(35,.ptr 1 0 5),(36,vI n40),Ze],[Qx,oX true true 7 (.agg [vI (zn p0),.int .u64 s6.2.2.2.1,.int .u64 s6.2.2.2.2.1,.int .u64 s6.2.2.2.2.2.1,.int .u64 s6.2.2.2.2.2.2.1,.int .u64 (zv (zb s6.2.2.2.2.2.2.2.1 ||| zb (zv (1*2^min (zt s6.2.2.1) zk))).toNat),.int .u64 s6.2.2.2.2.2.2.2.2])],48⟩) (fun _=>hnx 10 (wz [0,1])) fun _=>?_
       refine hqi 0 (fun n41=>⟨(Q4 (4,vI 4) (12,vI s6.2.1) (19,vI n41) (21,vI n41) (6,vI n41) (23,vI n41) (24,.int .u64 (Int.fdiv a4 (2^min (zt s6.2.2.1) zk))) (25,.int .u64 (zv (zb (Int.fdiv a4 (2^min (zt s6.2.2.1) zk)) &&& zb 1).toNat)) (27,vI 4) p0 a4)++[(29,.ptr 1 0 5),(30,.int .u64 s6.2.2.2.2.2.2.2.1),(31,vI n41),(32,.int .u64 (zv (1*2^min (zt s6.2.2.1) zk))),(33,.int .u64 (zv (zb s6.2.2.2.2.2.2.2.1 ||| zb (zv (1*2^min (zt s6.2.2.1) zk))).toNat)),Zg,(35,.ptr 1 0 5),(36,vI n41),Ze],[Qx,oX true true 7 (.agg [vI (zn p0),.int .u64 s6.2.2.2.1,.int .u64 s6.2.2.2.2.1,.int .u64 s6.2.2.2.2.2.1,.int .u64 s6.2.2.2.2.2.2.1,.int .u64 (zv (zb s6.2.2.2.2.2.2.2.1 ||| zb (zv (1*2^min (zt s6.2.2.1) zk))).toNat),.int .u64 s6.2.2.2.2.2.2.2.2])],48⟩) (fun _=>hnx 10 (wz [0,1])) fun _=>?_
       refine hqi 0 (fun n42=>⟨(Q4 (4,vI 4) (12,vI s6.2.1) (19,vI n42) (21,vI n42) (6,vI n42) (23,vI n42) (24,.int .u64 (Int.fdiv a4 (2^min (zt s6.2.2.1) zk))) (25,.int .u64 (zv (zb (Int.fdiv a4 (2^min (zt s6.2.2.1) zk)) &&& zb 1).toNat)) (27,vI 4) p0 a4)++[(29,.ptr 1 0 5),(30,.int .u64 s6.2.2.2.2.2.2.2.1),(31,vI n42),(32,.int .u64 (zv (1*2^min (zt s6.2.2.1) zk))),(33,.int .u64 (zv (zb s6.2.2.2.2.2.2.2.1 ||| zb (zv (1*2^min (zt s6.2.2.1) zk))).toNat)),Zg,(35,.ptr 1 0 5),(36,vI n42),Ze],[Qx,oX true true 7 (.agg [vI (zn p0),.int .u64 s6.2.2.2.1,.int .u64 s6.2.2.2.2.1,.int .u64 s6.2.2.2.2.2.1,.int .u64 s6.2.2.2.2.2.2.1,.int .u64 (zv (zb s6.2.2.2.2.2.2.2.1 ||| zb (zv (1*2^min (zt s6.2.2.1) zk))).toNat),.int .u64 s6.2.2.2.2.2.2.2.2])],48⟩) (fun _=>hnx 10 (wz [0,1])) fun _=>?_
       refine hqi 0 (fun n43=>⟨(Q4 (4,vI 4) (12,vI s6.2.1) (19,vI n43) (21,vI n43) (6,vI n43) (23,vI n43) (24,.int .u64 (Int.fdiv a4 (2^min (zt s6.2.2.1) zk))) (25,.int .u64 (zv (zb (Int.fdiv a4 (2^min (zt s6.2.2.1) zk)) &&& zb 1).toNat)) (27,vI 4) p0 a4)++[(29,.ptr 1 0 5),(30,.int .u64 s6.2.2.2.2.2.2.2.1),(31,vI n43),(32,.int .u64 (zv (1*2^min (zt s6.2.2.1) zk))),(33,.int .u64 (zv (zb s6.2.2.2.2.2.2.2.1 ||| zb (zv (1*2^min (zt s6.2.2.1) zk))).toNat)),Zg,(35,.ptr 1 0 5),(36,vI n43),Ze],[Qx,oX true true 7 (.agg [vI (zn p0),.int .u64 s6.2.2.2.1,.int .u64 s6.2.2.2.2.1,.int .u64 s6.2.2.2.2.2.1,.int .u64 s6.2.2.2.2.2.2.1,.int .u64 (zv (zb s6.2.2.2.2.2.2.2.1 ||| zb (zv (1*2^min (zt s6.2.2.1) zk))).toNat),.int .u64 s6.2.2.2.2.2.2.2.2])],48⟩) (fun _=>hnx 10 (wz [0,1])) fun _=>?_
       refine hqi 0 (fun n44=>⟨(Q4 (4,vI 4) (12,vI s6.2.1) (19,vI n44) (21,vI n44) (6,vI n44) (23,vI n44) (24,.int .u64 (Int.fdiv a4 (2^min (zt s6.2.2.1) zk))) (25,.int .u64 (zv (zb (Int.fdiv a4 (2^min (zt s6.2.2.1) zk)) &&& zb 1).toNat)) (27,vI 4) p0 a4)++[(29,.ptr 1 0 5),(30,.int .u64 s6.2.2.2.2.2.2.2.1),(31,vI n44),(32,.int .u64 (zv (1*2^min (zt s6.2.2.1) zk))),(33,.int .u64 (zv (zb s6.2.2.2.2.2.2.2.1 ||| zb (zv (1*2^min (zt s6.2.2.1) zk))).toNat)),Zg,(35,.ptr 1 0 5),(36,vI n44),Ze],[Qx,oX true true 7 (.agg [vI (zn p0),.int .u64 s6.2.2.2.1,.int .u64 s6.2.2.2.2.1,.int .u64 s6.2.2.2.2.2.1,.int .u64 s6.2.2.2.2.2.2.1,.int .u64 (zv (zb s6.2.2.2.2.2.2.2.1 ||| zb (zv (1*2^min (zt s6.2.2.1) zk))).toNat),.int .u64 s6.2.2.2.2.2.2.2.2])],48⟩) (fun _=>hnx 10 (wz [0,1])) fun _=>?_
       refine hqi 0 (fun n45=>⟨(Q4 (4,vI 4) (12,vI s6.2.1) (19,vI n45) (21,vI n45) (6,vI n45) (23,vI n45) (24,.int .u64 (Int.fdiv a4 (2^min (zt s6.2.2.1) zk))) (25,.int .u64 (zv (zb (Int.fdiv a4 (2^min (zt s6.2.2.1) zk)) &&& zb 1).toNat)) (27,vI 4) p0 a4)++[(29,.ptr 1 0 5),(30,.int .u64 s6.2.2.2.2.2.2.2.1),(31,vI n45),(32,.int .u64 (zv (1*2^min (zt s6.2.2.1) zk))),(33,.int .u64 (zv (zb s6.2.2.2.2.2.2.2.1 ||| zb (zv (1*2^min (zt s6.2.2.1) zk))).toNat)),Zg,(35,.ptr 1 0 5),(36,vI n45),Ze],[Qx,oX true true 7 (.agg [vI (zn p0),.int .u64 s6.2.2.2.1,.int .u64 s6.2.2.2.2.1,.int .u64 s6.2.2.2.2.2.1,.int .u64 s6.2.2.2.2.2.2.1,.int .u64 (zv (zb s6.2.2.2.2.2.2.2.1 ||| zb (zv (1*2^min (zt s6.2.2.1) zk))).toNat),.int .u64 s6.2.2.2.2.2.2.2.2])],48⟩) (fun _=>hnx 10 (wz [0,1])) fun _=>?_
       refine hnn
      refine hqi 0 (fun n46=>⟨(Q4 (4,vI n46) (12,vI s6.2.1) (19,vI s6.2.2.1) (21,vI s6.2.2.1) (6,vI s6.2.2.1) (23,vI s6.2.2.1) (24,.int .u64 (Int.fdiv a4 (2^min (zt s6.2.2.1) zk))) (25,.int .u64 (zv (zb (Int.fdiv a4 (2^min (zt s6.2.2.1) zk)) &&& zb 1).toNat)) (27,vI n46) p0 a4),[Qx,oX true true 7 (.agg [vI (zn p0),.int .u64 s6.2.2.2.1,.int .u64 s6.2.2.2.2.1,.int .u64 s6.2.2.2.2.2.1,.int .u64 s6.2.2.2.2.2.2.1,.int .u64 s6.2.2.2.2.2.2.2.1,.int .u64 s6.2.2.2.2.2.2.2.2])],48⟩) (fun _=>?_) (fun _=>?_)
      ·refine hoh 3 (fun _ _ h k=>Qk (k:=.u64) (k':=.i64) (a:=1) (b:=s6.2.2.1) kr gE h k) <| hqi 7 (fun n47=>⟨(Q4 (4,vI 5) (12,vI s6.2.1) (19,vI n47) (21,vI n47) (6,vI n47) (23,vI n47) (24,.int .u64 (Int.fdiv a4 (2^min (zt s6.2.2.1) zk))) (25,.int .u64 (zv (zb (Int.fdiv a4 (2^min (zt s6.2.2.1) zk)) &&& zb 1).toNat)) (27,vI 5) p0 a4)++[(29,.ptr 1 0 6),(30,.int .u64 s6.2.2.2.2.2.2.2.2),(31,vI n47),(32,.int .u64 (zv (1*2^min (zt s6.2.2.1) zk))),(33,.int .u64 (zv (zb s6.2.2.2.2.2.2.2.2 ||| zb (zv (1*2^min (zt s6.2.2.1) zk))).toNat)),Zg,(35,.ptr 1 0 6),(36,vI n47),Ze],[Qx,oX true true 7 (.agg [vI (zn p0),.int .u64 s6.2.2.2.1,.int .u64 s6.2.2.2.2.1,.int .u64 s6.2.2.2.2.2.1,.int .u64 s6.2.2.2.2.2.2.1,.int .u64 s6.2.2.2.2.2.2.2.1,.int .u64 (zv (zb s6.2.2.2.2.2.2.2.2 ||| zb (zv (1*2^min (zt s6.2.2.1) zk))).toNat)])],48⟩) (fun _=>hnx 10 (wz [0,1])) fun _=>?_
       refine hqi 0 (fun n48=>⟨(Q4 (4,vI 5) (12,vI s6.2.1) (19,vI n48) (21,vI n48) (6,vI n48) (23,vI n48) (24,.int .u64 (Int.fdiv a4 (2^min (zt s6.2.2.1) zk))) (25,.int .u64 (zv (zb (Int.fdiv a4 (2^min (zt s6.2.2.1) zk)) &&& zb 1).toNat)) (27,vI 5) p0 a4)++[(29,.ptr 1 0 6),(30,.int .u64 s6.2.2.2.2.2.2.2.2),(31,vI n48),(32,.int .u64 (zv (1*2^min (zt s6.2.2.1) zk))),(33,.int .u64 (zv (zb s6.2.2.2.2.2.2.2.2 ||| zb (zv (1*2^min (zt s6.2.2.1) zk))).toNat)),Zg,(35,.ptr 1 0 6),(36,vI n48),Ze],[Qx,oX true true 7 (.agg [vI (zn p0),.int .u64 s6.2.2.2.1,.int .u64 s6.2.2.2.2.1,.int .u64 s6.2.2.2.2.2.1,.int .u64 s6.2.2.2.2.2.2.1,.int .u64 s6.2.2.2.2.2.2.2.1,.int .u64 (zv (zb s6.2.2.2.2.2.2.2.2 ||| zb (zv (1*2^min (zt s6.2.2.1) zk))).toNat)])],48⟩) (fun _=>hnx 10 (wz [0,1])) fun _=>?_
       refine hqi 0 (fun n49=>⟨(Q4 (4,vI 5) (12,vI s6.2.1) (19,vI n49) (21,vI n49) (6,vI n49) (23,vI n49) (24,.int .u64 (Int.fdiv a4 (2^min (zt s6.2.2.1) zk))) (25,.int .u64 (zv (zb (Int.fdiv a4 (2^min (zt s6.2.2.1) zk)) &&& zb 1).toNat)) (27,vI 5) p0 a4)++[(29,.ptr 1 0 6),(30,.int .u64 s6.2.2.2.2.2.2.2.2),(31,vI n49),(32,.int .u64 (zv (1*2^min (zt s6.2.2.1) zk))),(33,.int .u64 (zv (zb s6.2.2.2.2.2.2.2.2 ||| zb (zv (1*2^min (zt s6.2.2.1) zk))).toNat)),Zg,(35,.ptr 1 0 6),(36,vI n49),Ze],[Qx,oX true true 7 (.agg [vI (zn p0),.int .u64 s6.2.2.2.1,.int .u64 s6.2.2.2.2.1,.int .u64 s6.2.2.2.2.2.1,.int .u64 s6.2.2.2.2.2.2.1,.int .u64 s6.2.2.2.2.2.2.2.1,.int .u64 (zv (zb s6.2.2.2.2.2.2.2.2 ||| zb (zv (1*2^min (zt s6.2.2.1) zk))).toNat)])],48⟩) (fun _=>hnx 10 (wz [0,1])) fun _=>?_
       refine hqi 0 (fun n50=>⟨(Q4 (4,vI 5) (12,vI s6.2.1) (19,vI n50) (21,vI n50) (6,vI n50) (23,vI n50) (24,.int .u64 (Int.fdiv a4 (2^min (zt s6.2.2.1) zk))) (25,.int .u64 (zv (zb (Int.fdiv a4 (2^min (zt s6.2.2.1) zk)) &&& zb 1).toNat)) (27,vI 5) p0 a4)++[(29,.ptr 1 0 6),(30,.int .u64 s6.2.2.2.2.2.2.2.2),(31,vI n50),(32,.int .u64 (zv (1*2^min (zt s6.2.2.1) zk))),(33,.int .u64 (zv (zb s6.2.2.2.2.2.2.2.2 ||| zb (zv (1*2^min (zt s6.2.2.1) zk))).toNat)),Zg,(35,.ptr 1 0 6),(36,vI n50),Ze],[Qx,oX true true 7 (.agg [vI (zn p0),.int .u64 s6.2.2.2.1,.int .u64 s6.2.2.2.2.1,.int .u64 s6.2.2.2.2.2.1,.int .u64 s6.2.2.2.2.2.2.1,.int .u64 s6.2.2.2.2.2.2.2.1,.int .u64 (zv (zb s6.2.2.2.2.2.2.2.2 ||| zb (zv (1*2^min (zt s6.2.2.1) zk))).toNat)])],48⟩) (fun _=>hnx 10 (wz [0,1])) fun _=>?_
       refine hqi 0 (fun n51=>⟨(Q4 (4,vI 5) (12,vI s6.2.1) (19,vI n51) (21,vI n51) (6,vI n51) (23,vI n51) (24,.int .u64 (Int.fdiv a4 (2^min (zt s6.2.2.1) zk))) (25,.int .u64 (zv (zb (Int.fdiv a4 (2^min (zt s6.2.2.1) zk)) &&& zb 1).toNat)) (27,vI 5) p0 a4)++[(29,.ptr 1 0 6),(30,.int .u64 s6.2.2.2.2.2.2.2.2),(31,vI n51),(32,.int .u64 (zv (1*2^min (zt s6.2.2.1) zk))),(33,.int .u64 (zv (zb s6.2.2.2.2.2.2.2.2 ||| zb (zv (1*2^min (zt s6.2.2.1) zk))).toNat)),Zg,(35,.ptr 1 0 6),(36,vI n51),Ze],[Qx,oX true true 7 (.agg [vI (zn p0),.int .u64 s6.2.2.2.1,.int .u64 s6.2.2.2.2.1,.int .u64 s6.2.2.2.2.2.1,.int .u64 s6.2.2.2.2.2.2.1,.int .u64 s6.2.2.2.2.2.2.2.1,.int .u64 (zv (zb s6.2.2.2.2.2.2.2.2 ||| zb (zv (1*2^min (zt s6.2.2.1) zk))).toNat)])],48⟩) (fun _=>hnx 10 (wz [0,1])) fun _=>?_
       refine hqi 0 (fun n52=>⟨(Q4 (4,vI 5) (12,vI s6.2.1) (19,vI n52) (21,vI n52) (6,vI n52) (23,vI n52) (24,.int .u64 (Int.fdiv a4 (2^min (zt s6.2.2.1) zk))) (25,.int .u64 (zv (zb (Int.fdiv a4 (2^min (zt s6.2.2.1) zk)) &&& zb 1).toNat)) (27,vI 5) p0 a4)++[(29,.ptr 1 0 6),(30,.int .u64 s6.2.2.2.2.2.2.2.2),(31,vI n52),(32,.int .u64 (zv (1*2^min (zt s6.2.2.1) zk))),(33,.int .u64 (zv (zb s6.2.2.2.2.2.2.2.2 ||| zb (zv (1*2^min (zt s6.2.2.1) zk))).toNat)),Zg,(35,.ptr 1 0 6),(36,vI n52),Ze],[Qx,oX true true 7 (.agg [vI (zn p0),.int .u64 s6.2.2.2.1,.int .u64 s6.2.2.2.2.1,.int .u64 s6.2.2.2.2.2.1,.int .u64 s6.2.2.2.2.2.2.1,.int .u64 s6.2.2.2.2.2.2.2.1,.int .u64 (zv (zb s6.2.2.2.2.2.2.2.2 ||| zb (zv (1*2^min (zt s6.2.2.1) zk))).toNat)])],48⟩) (fun _=>hnx 10 (wz [0,1])) fun _=>?_
       refine hnn
      refine hnn
     refine hnx 3 (wz [0,1])
    refine hdx 1 (wz [0,1])
   refine hnx 2 (wz [0,1])
  refine hdx 1 (wz [0,1])
 refine hrt 3
end
end Go.Ab
