/- What functions compute. No conditions. -/
import Derived.Test.YtebpheijhmlpjaaW13
import Derived.Test.YtebpheijhmlpjaaEng8
import Derived.Test.YtebpheijhmlpjaaW9
set_option linter.all false
namespace Go.Ab
open Go
set_option maxRecDepth 100000
theorem wf_u8 {n:Int} (h:(Lit.int .u8 n).wf=true):0≤n∧n≤255:=by
 simpa [Lit.wf,IntKind.min,IntKind.max,IntKind.bits,IntKind.signed] using h
theorem split_eq (n:Nat) (sum:Int) (l:List Int) (hn:1≤n∧n≤100) (hs:0≤sum∧sum≤1000) (hl:∀x∈l,0≤x∧x≤255) (hlen:l.length≤1000) :
  ∃r,g_ref17_Split (n:Int) sum l=some r∧r.length=n∧RowP sum r:=by
 unfold g_ref17_Split
 have ex:=whileN_ex (body:=g_ref17_Split_b0 (n:Int) l) (fun s=>∃i:Nat,s.2.1=(i:Int)∧i≤n∧s.2.2.length=i∧(∀x∈s.2.2,0≤x)∧isum s.2.2+s.1=sum∧0≤s.1∧s.1≤sum∧(i=n→s.1=0)) (fun s=>n - s.2.1.toNat) (fun r=>r.length=n∧RowP sum r) ?_
  (sum,0,[]) ⟨0,rfl,by omega,rfl,by simp,by simp [isum],hs.1,by simp,by omega⟩ (by simp only; omega)
 ·obtain ⟨r,e,hr⟩:=ex
  exact ⟨r,by rw [e]; rfl,hr⟩
 ·rintro ⟨left,i0,out⟩ ⟨i,h1,h2,h3,h4,h5,h6,h7,h8⟩
  simp only at h1 h3 h4 h5 h6 h7 h8
  subst h1
  have snoc:∀k:Int,0≤k→∀x∈out++[k],0≤x:=fun k hk x hx=>by
   rcases List.mem_append.1 hx with h | h
   ·exact h4 x h
   ·rw [List.mem_singleton] at h; omega
  have sm:∀k:Int,isum (out++[k])=isum out+k:=fun k=>by rw [isum_append]; simp [isum]
  unfold g_ref17_Split_b0
  simp only
  by_cases hi:i < n
  ·left
   rw [if_pos (by simp [hi]),w64 (n:=(n:Int) - 1) (by omega),w64 (n:=(i:Int)+1) (by omega)]
   by_cases hi2:i < n - 1
   ·rw [if_pos (by simp; omega)]
    by_cases hi3:i < l.length
    ·rw [if_pos (by simp [hi3]),lkI_nat hi3]
     simp only [Option.bind_some]
     have hb:=hl _ (List.getElem_mem hi3)
     rw [w64 (n:=left+1) (by omega),if_pos (by omega),w64 (n:=l[i]) (by omega),tmod_pos (by omega)]
     have m1:=Int.emod_nonneg l[i] (b:=left+1) (by omega)
     have m2:=Int.emod_lt_of_pos l[i] (b:=left+1) (by omega)
     generalize l[i] % (left+1)=k at *
     rw [if_pos (by simp; omega),w64 (by omega)]
     exact ⟨_,rfl,⟨i+1,by simp only; omega,hi,by simp [h3],snoc k m1,by simp only [sm]; omega,by simp only; omega,by simp only; omega,by omega⟩,by simp only; omega⟩
    ·rw [if_neg (by simp; omega),if_pos (by simp; omega),w64 (by omega)]
     exact ⟨_,rfl,⟨i+1,by simp only; omega,hi,by simp [h3],snoc 0 (by omega),by simp only [sm]; omega,by simp only; omega,by simp only; omega,by omega⟩,by simp only; omega⟩
   ·rw [if_neg (by simp; omega),if_pos (by simp; omega),w64 (by omega)]
    exact ⟨_,rfl,⟨i+1,by simp only; omega,hi,by simp [h3],snoc left h6,by simp only [sm]; omega,by simp only; omega,by simp only; omega,by simp only; omega⟩,by simp only; omega⟩
  ·right
   rw [if_neg (by simp; omega)]
   have hin:i=n:=by omega
   have:=h8 hin
   exact ⟨out,rfl,by omega,h4,by omega⟩
theorem from_eq (d:Tharuspexref17_Draft) (h:okTharuspexref17_Draft d) (at0:Int) (ha:0≤at0∧at0≤1000):∃l,g_ref17_Draft_from d at0=some l∧(∀x∈l,0≤x∧x≤255)∧l.length≤1000:=by
 have hml:maxLen=9223372036854775807:=rfl
 obtain ⟨b1,b2,b3,b4,b5⟩:=h
 have len:=b4.1
 have ent:=fun x hx=>wf_u8 (b4.2 x hx)
 unfold g_ref17_Draft_from
 by_cases h0:d.L.length=0
 ·rw [if_pos (by simp [h0])]
  exact ⟨[],rfl,by simp,by simp⟩
 rw [if_neg (by simpa using h0)]
 have ex:=whileN_ex (body:=g_ref17_Draft_from_b0 d at0) (fun s=>∃i:Nat,s.1=(i:Int)∧i≤4∧s.2.length=i∧∀x∈s.2,0≤x∧x≤255) (fun s=>4 - s.1.toNat) (fun r=>(∀x∈r,0≤x∧x≤255)∧r.length≤1000) ?_
  (0,[]) ⟨0,rfl,by omega,rfl,by simp⟩ (by simp only; omega)
 ·obtain ⟨r,e,hr⟩:=ex
  exact ⟨r,by rw [e]; rfl,hr⟩
 ·rintro ⟨i0,out⟩ ⟨i,h1,h2,h3,h4⟩
  simp only at h1 h3 h4
  subst h1
  unfold g_ref17_Draft_from_b0
  simp only
  by_cases hi:i < 4
  ·left
   rw [if_pos (by rw [decide_eq_true_eq]; omega),if_pos (by omega),w64 (n:=at0+(i:Int)) (by omega),tmod_pos (by omega)]
   have m1:=Int.emod_nonneg (at0+(i:Int)) (b:=(d.L.length:Int)) (by omega)
   have m2:=Int.emod_lt_of_pos (at0+(i:Int)) (b:=(d.L.length:Int)) (by omega)
   rw [lkI_at m1 m2]
   simp only [Option.bind_some]
   rw [if_pos (by simp; omega),w64 (by omega)]
   refine ⟨_,rfl,⟨i+1,by simp only; omega,hi,by simp [h3],fun x hx=>?_⟩,by simp only; omega⟩
   rcases List.mem_append.1 hx with h | h
   ·exact h4 x h
   ·rw [List.mem_singleton] at h; rw [h]; exact ent _ (List.getElem_mem _)
  ·right
   rw [if_neg (by rw [decide_eq_true_eq]; omega)]
   exact ⟨out,rfl,h4,by omega⟩
theorem draft_ok (d:Tharuspexref17_Draft) (h:okTharuspexref17_Draft d):∃x g n k,g_ref17_Draft_Hidden d=some x∧VH x g n k∧(k:Int)=1+d.Shows % 4:=by
 have hh:=h
 obtain ⟨b1,b2,b3,b4,b5⟩:=hh
 have b1:=wf_u8 b1; have b2:=wf_u8 b2; have b3:=wf_u8 b3
 unfold g_ref17_Draft_Hidden
 obtain ⟨g,hg⟩:∃g:Nat,1+d.Grain % 12=(g:Int):=⟨(1+d.Grain % 12).toNat,by omega⟩
 obtain ⟨n,hn⟩:∃n:Nat,1+d.States % 4=(n:Int):=⟨(1+d.States % 4).toNat,by omega⟩
 obtain ⟨k,hk⟩:∃k:Nat,1+d.Shows % 4=(k:Int):=⟨(1+d.Shows % 4).toNat,by omega⟩
 have wg:IntKind.i64.wrap (1+IntKind.i64.wrap (Int.tmod d.Grain 12))=(g:Int):=by rw [tmod_pos (by omega),w64 (n:=d.Grain % 12) (by omega),w64 (by omega),hg]
 have wn:IntKind.i64.wrap (1+IntKind.i64.wrap (Int.tmod d.States 4))=(n:Int):=by rw [tmod_pos (by omega),w64 (n:=d.States % 4) (by omega),w64 (by omega),hn]
 have wk:IntKind.i64.wrap (1+IntKind.i64.wrap (Int.tmod d.Shows 4))=(k:Int):=by rw [tmod_pos (by omega),w64 (n:=d.Shows % 4) (by omega),w64 (by omega),hk]
 obtain ⟨l0,e0,f0,f1⟩:=from_eq d h 0 (by omega)
 obtain ⟨r0,e1,r1,r2⟩:=split_eq n (g:Int) l0 (by omega) (by omega) f0 f1
 rw [e0]
 simp only [Option.bind_some]
 rw [wg,wn,e1]
 simp only [Option.bind_some]
 have ex:=whileN_ex (body:=g_ref17_Draft_Hidden_b0 d) (fun s=>∃i:Nat,s.1=(i:Int)∧i≤n∧s.2.1.length=i∧(∀l∈s.2.1,l.length=n∧RowP g l)∧s.2.2.length=i∧∀l∈s.2.2,l.length=k∧RowP g l) (fun s=>n - s.1.toNat)
  (fun r=>r.1.length=n∧(∀l∈r.1,l.length=n∧RowP g l)∧r.2.length=n∧∀l∈r.2,l.length=k∧RowP g l) ?_
  (0,[],[]) ⟨0,rfl,by omega,rfl,by simp,rfl,by simp⟩ (by simp only; omega)
 ·obtain ⟨R,e,h1,h2,h3,h4⟩:=ex
  rw [e]
  exact ⟨_,g,n,k,rfl,⟨rfl,by omega,by omega,by omega,by omega,by omega,by omega,r1,r2,h1,h2,h3,h4⟩,hk.symm⟩
 ·rintro ⟨i0,A,B⟩ ⟨i,h1,h2,h3,h4,h5,h6⟩
  simp only at h1 h3 h4 h5 h6
  subst h1
  unfold g_ref17_Draft_Hidden_b0
  simp only
  rw [wn]
  by_cases hi:i < n
  ·left
   rw [if_pos (by rw [decide_eq_true_eq]; omega),w64 (n:=8*(i:Int)) (by omega),w64 (n:=4+8*(i:Int)) (by omega),w64 (n:=8+8*(i:Int)) (by omega)]
   obtain ⟨la,ea,fa,ga⟩:=from_eq d h (4+8*(i:Int)) (by omega)
   obtain ⟨ra,ea1,ra1,ra2⟩:=split_eq n (g:Int) la (by omega) (by omega) fa ga
   obtain ⟨lb,eb,fb,gb⟩:=from_eq d h (8+8*(i:Int)) (by omega)
   obtain ⟨rb,eb1,rb1,rb2⟩:=split_eq k (g:Int) lb (by omega) (by omega) fb gb
   rw [ea]
   simp only [Option.bind_some]
   rw [wg,ea1]
   simp only [Option.bind_some]
   rw [if_pos (by simp; omega),eb]
   simp only [Option.bind_some]
   rw [wk,eb1]
   simp only [Option.bind_some]
   rw [if_pos (by simp; omega),w64 (by omega)]
   refine ⟨_,rfl,⟨i+1,by simp only; omega,hi,by simp [h3],fun x hx=>?_,by simp [h5],fun x hx=>?_⟩,by simp only; omega⟩
   ·rcases List.mem_append.1 hx with h | h
    ·exact h4 x h
    ·rw [List.mem_singleton] at h; rw [h]; exact ⟨ra1,ra2⟩
   ·rcases List.mem_append.1 hx with h | h
    ·exact h6 x h
    ·rw [List.mem_singleton] at h; rw [h]; exact ⟨rb1,rb2⟩
  ·right
   rw [if_neg (by rw [decide_eq_true_eq]; omega)]
   have hin:i=n:=by omega
   exact ⟨_,rfl,by simp only; omega,h4,by simp only; omega,h6⟩
theorem what_ok (d:Tharuspexref17_Draft) (h:okTharuspexref17_Draft d) {k:Nat} (hk:(k:Int)=1+d.Shows % 4):∃l,g_ref17_Draft_What d=some l∧1≤l.length∧l.length≤8∧VS k l l.length:=by
 have hml:maxLen=9223372036854775807:=rfl
 obtain ⟨b1,b2,b3,b4,b5⟩:=h
 have b3:=wf_u8 b3
 have len:=b5.1
 have ent:=fun x hx=>wf_u8 (b5.2 x hx)
 have wk:IntKind.i64.wrap (2+IntKind.i64.wrap (Int.tmod d.Shows 4))=(k:Int)+1:=by rw [tmod_pos (by omega),w64 (n:=d.Shows % 4) (by omega),w64 (by omega)]; omega
 unfold g_ref17_Draft_What
 have ex:=whileN_ex (body:=g_ref17_Draft_What_b0 d) (fun s=>∃i:Nat,s.1=(i:Int)∧i≤8∧i≤d.Seen.length∧s.2.length=i∧∀x∈s.2,-1≤x∧x < (k:Int)) (fun s=>8 - s.1.toNat) (fun r=>r.length≤8∧∀x∈r,-1≤x∧x < (k:Int)) ?_
  (0,[]) ⟨0,rfl,by omega,by omega,rfl,by simp⟩ (by simp only; omega)
 ·obtain ⟨r,e,hr1,hr2⟩:=ex
  rw [e]
  simp only [Option.bind_some]
  by_cases h0:r.length=0
  ·rw [if_pos (by simp [h0])]
   refine ⟨[-1],rfl,by simp,by simp,rfl,fun x hx=>?_⟩
   rw [List.mem_singleton] at hx; omega
  ·rw [if_neg (by simpa using h0)]
   exact ⟨r,rfl,by omega,hr1,rfl,hr2⟩
 ·rintro ⟨i0,out⟩ ⟨i,h1,h2,h3,h4,h5⟩
  simp only at h1 h4 h5
  subst h1
  unfold g_ref17_Draft_What_b0
  simp only
  by_cases hi:i < d.Seen.length
  ·rw [if_pos (by rw [decide_eq_true_eq]; omega)]
   by_cases hi8:i < 8
   ·left
    rw [if_pos (by rw [decide_eq_true_eq]; omega),lkI_nat hi]
    simp only [Option.bind_some]
    have hb:=ent _ (List.getElem_mem hi)
    rw [wk,if_pos (by omega),w64 (n:=d.Seen[i]) (by omega),tmod_pos (by omega)]
    have m1:=Int.emod_nonneg d.Seen[i] (b:=(k:Int)+1) (by omega)
    have m2:=Int.emod_lt_of_pos d.Seen[i] (b:=(k:Int)+1) (by omega)
    generalize d.Seen[i] % ((k:Int)+1)=y at *
    rw [w64 (n:=y - 1) (by omega),if_pos (by simp; omega),w64 (by omega)]
    refine ⟨_,rfl,⟨i+1,by simp only; omega,hi8,by omega,by simp [h4],fun x hx=>?_⟩,by simp only; omega⟩
    rcases List.mem_append.1 hx with h | h
    ·exact h5 x h
    ·rw [List.mem_singleton] at h; omega
   ·right
    rw [if_neg (by rw [decide_eq_true_eq]; omega)]
    exact ⟨_,rfl,by omega,h5⟩
  ·right
   rw [if_neg (by rw [decide_eq_true_eq]; omega)]
   exact ⟨_,rfl,by omega,h5⟩
end Go.Ab
namespace Go.Ab
open Go
set_option maxRecDepth 100000
structure FewH (h:Tapi_Hidden):Prop where
 first:h.First.length≤8
 step:h.Step.length≤8
 stepL:∀l∈h.Step,l.length≤8
 shows:h.Show.length≤8
 showsL:∀l∈h.Show,l.length≤8
theorem FewH.ok {h:Tapi_Hidden} (w:FewH h):OkH h :=
 ⟨Nat.le_trans w.first (by omega),Nat.le_trans w.step (by omega),fun l hl=>Nat.le_trans (w.stepL l hl) (by omega),Nat.le_trans w.shows (by omega),fun l hl=>Nat.le_trans (w.showsL l hl) (by omega)⟩
theorem VH.few {h:Tapi_Hidden} {g n k:Nat} (v:VH h g n k):FewH h:=by
 have:=v.n4; have:=v.k4
 exact ⟨by rw [v.firstL]; omega,by rw [v.stepL]; omega,fun l hl=>by rw [(v.step l hl).1]; omega,by rw [v.showL]; omega,fun l hl=>by rw [(v.shows l hl).1]; omega⟩
end Go.Ab
namespace Go.Ab
open Go
set_option maxRecDepth 100000
theorem sub_lim {α:Type} (l:List α) (m:Nat):sub l 0 (if (m:Int) < (l.length:Int) then (m:Int) else (l.length:Int))=l.take m:=by
 by_cases c:(m:Int) < (l.length:Int)
 ·rw [if_pos c]; simp [sub]
 ·rw [if_neg c]; simp only [sub]
  rw [show (0:Int).toNat = 0 from rfl,List.drop_zero,show ((l.length:Int).toNat - 0)=l.length by omega,List.take_length,List.take_of_length_le (by omega)]
theorem lim_ok {α:Type} (l:List α) (m:Nat):0≤(0:Int)∧(0:Int)≤(if (m:Int) < (l.length:Int) then (m:Int) else (l.length:Int))∧(if (m:Int) < (l.length:Int) then (m:Int) else (l.length:Int))≤(l.length:Int):=by
 by_cases c:(m:Int) < (l.length:Int)
 ·rw [if_pos c]; omega
 ·rw [if_neg c]; omega
theorem errN_ok {h:Tapi_Hidden} {seen:List Int} (e:errN h seen=0):∃g n k,VH h g n k∧VS k seen seen.length∧1≤seen.length∧seen.length≤8:=by
 unfold errN at e
 cases hr:rightB h with
 | false=>rw [hr] at e; simp at e
 | true =>
  rw [hr] at e
  cases hs:seenB h seen with
  | false=>rw [hs] at e; simp at e
  | true =>
   obtain ⟨g,n,k,v,hk⟩:=vh_of hr
   unfold seenB seesB at hs
   simp only [Bool.and_eq_true,decide_eq_true_eq,List.all_eq_true] at hs
   obtain ⟨h1,h2,h3⟩:=hs
   exact ⟨g,n,k,v,⟨rfl,fun x hx=>by have:=h1 x hx; rw [←hk]; omega⟩,by omega,by omega⟩
theorem forward_call (h:Tapi_Hidden) (seen:List Int) (ok:OkH h) (hl:seen.length≤281474976710656) (e:errN h seen≠0):g_hidden_Forward h seen=some ([],errN h seen):=by
 unfold g_hidden_Forward
 rw [watcher_eq h seen ok hl,if_neg e]
 simp only [Option.bind_some]
 rw [if_pos (by simpa using e)]
theorem VH.forward_call {h:Tapi_Hidden} {g n k:Nat} (v:VH h g n k) {seen:List Int} (w:VS k seen seen.length) (hT:1≤seen.length∧seen.length≤8) (ok:OkH h) (e:errN h seen=0):g_hidden_Forward h seen=some (tabI seen.length n (fw h n seen),0):=by
 unfold g_hidden_Forward
 rw [watcher_eq h seen ok (by omega),if_pos e,e]
 simp only [Option.bind_some]
 rw [if_neg (by simp),v.forward_eq w hT]
 rfl
end Go.Ab
namespace Go.Ab
open Go
set_option maxRecDepth 100000
section
variable {h:Tapi_Hidden} {g n k:Nat} (v:VH h g n k)
include v
theorem VH.pshown_eq {seen:List Int} {T t s:Nat} (w:VS k seen T) (ht:t < T) (hs:s < n):g_path_searcher_shown ⟨h,seen⟩ (t:Int) (s:Int)=some (shN h (seen.getD t 0) s:Int):=by
 have:=v.shown_eq w ht hs
 unfold g_hidden_watcher_shown at this
 unfold g_path_searcher_shown
 exact this
theorem VH.into0 {seen:List Int} {T s:Nat} (w:VS k seen T) (ht:0 < T) (hs:s < n) (r:Int):g_path_searcher_into ⟨h,seen⟩ 0 r (s:Int)=some ((nat1 h.First s*shN h (seen.getD 0 0) s:Nat):Int):=by
 unfold g_path_searcher_into
 have e:=v.pshown_eq w ht hs
 rw [show ((0:Nat):Int)=(0:Int) from rfl] at e
 rw [if_pos (by simp),v.first_get hs]
 simp only [Option.bind_some]
 rw [e]
 simp only [Option.bind_some]
 have h1:nat1 h.First s*shN h (seen.getD 0 0) s≤12*12:=by
  have:=v.wR_le seen [s] (by simpa using hs)
  simp only [wR,List.length_singleton] at this
  exact Nat.le_trans this (Nat.le_trans (Nat.pow_le_pow_left v.g12 _) (by decide))
 rw [←Int.natCast_mul,w64 (by omega)]
theorem VH.intoS {seen:List Int} {T t r s:Nat} (w:VS k seen T) (ht:t+1 < T) (hr:r < n) (hs:s < n):g_path_searcher_into ⟨h,seen⟩ ((t+1:Nat):Int) (r:Int) (s:Int)=some ((nat2 h.Step r s*shN h (seen.getD (t+1) 0) s:Nat):Int):=by
 unfold g_path_searcher_into
 rw [if_neg (by simp; omega)]
 obtain ⟨l,h1,h2⟩:=v.step_get hr hs
 rw [h1]; simp only [Option.bind_some]
 rw [h2]; simp only [Option.bind_some]
 rw [v.pshown_eq w ht hs]
 simp only [Option.bind_some]
 have b:=Nat.mul_le_mul (Nat.le_trans (v.step_le hr hs) v.g12) (Nat.le_trans (v.sh_le (seen.getD (t+1) 0) hs) v.g12)
 rw [←Int.natCast_mul,w64 (by omega)]
end
end Go.Ab
namespace Go.Ab
open Go
set_option maxRecDepth 100000
theorem searcher_eq (h:Tapi_Hidden) (seen:List Int) (ok:OkH h) (hl:seen.length≤281474976710656) :
  g_path_newSearcher h seen=some (if errN h seen=0 then ⟨h,seen⟩ else ⟨⟨0,[],[],[]⟩,[]⟩,errN h seen):=by
 unfold g_path_newSearcher
 by_cases e:errN h seen=0
 ·obtain ⟨g,n,k,v,w,hT⟩:=errN_ok e
  rw [v.forward_call w hT ok e,if_pos e,e]
  rfl
 ·rw [forward_call h seen ok hl e,if_neg e]
  simp only [Option.bind_some]
  rw [if_pos (by simpa using e)]
end Go.Ab
namespace Go.Ab
open Go
set_option maxRecDepth 100000
theorem wakes18_true:g_law18_wakes=some true:=by kernel_rfl
end Go.Ab
namespace Go.Ab
open Go
set_option maxRecDepth 100000
theorem lkI_q {α:Type} {l:List α} {i:Nat} {x:α} (h:l[i]?=some x):lkI l (i:Int)=some x:=by
 obtain ⟨h1,h2⟩:=List.getElem?_eq_some_iff.1 h
 rw [lkI_nat h1,h2]
theorem rowI_succ {j:Nat} {f:Nat → Nat}:rowI (j+1) f=rowI j f++[((f j:Nat):Int)]:=by
 unfold rowI; rw [List.range_succ,List.map_append]; rfl
section
variable {h:Tapi_Hidden} {g n k:Nat} (v:VH h g n k) {seen:List Int} {T:Nat} (w:VS k seen T) (hT:1≤T∧T≤8)
include v w hT
omit v w hT in
theorem repeat1_eq (p:Nat) (hp:p≤4):g_slices_Repeat_int_int [1] (p:Int)=some (List.replicate p 1):=by
 rcases (by omega:p=0∨p=1∨p=2∨p=3∨p=4) with e | e | e | e | e <;> subst e <;> kernel_rfl
end
end Go.Ab
namespace Go.Ab
open Go
set_option maxRecDepth 100000
def cntd (h:Tapi_Hidden) (n:Nat) (seen:List Int) (T:Nat):Nat → Nat → Nat
 | 0,_=>1
 | d+1,s=>sumTo n (fun r=>if nat2 h.Step s r*shN h (seen.getD (T - 1 - d) 0) r=0 then 0 else cntd h n seen T d r)
def cw (h:Tapi_Hidden) (n:Nat) (seen:List Int) (T t s:Nat):Nat := cntd h n seen T (T - 1 - t) s
theorem cw_last (h:Tapi_Hidden) (n:Nat) (seen:List Int) (T s:Nat):cw h n seen T (T - 1) s=1:=by
 unfold cw; rw [Nat.sub_self]; rfl
theorem cw_step (h:Tapi_Hidden) (n:Nat) (seen:List Int) {T t:Nat} (ht:t+1 < T) (s:Nat) :
  cw h n seen T t s=sumTo n (fun r=>if nat2 h.Step s r*shN h (seen.getD (t+1) 0) r=0 then 0 else cw h n seen T (t+1) r):=by
 unfold cw
 obtain ⟨d,hd⟩:∃d,T - 1 - t=d+1:=⟨T - 1 - t - 1,by omega⟩
 rw [hd]
 simp only [cntd]
 rw [show T - 1 - d=t+1 by omega,show T - 1 - (t+1)=d by omega]
theorem sumTo_lim {n c:Nat} {f:Nat → Nat} (h:∀k,k < n→f k≤c):sumTo n f≤n*c:=by
 induction n with
 | zero=>simp [sumTo]
 | succ n ih =>
  have:=ih (fun k hk=>h k (by omega))
  have:=h n (by omega)
  simp only [sumTo,Nat.succ_mul]
  omega
theorem cntd_le (h:Tapi_Hidden) {n:Nat} (hn:n≤4) (seen:List Int) (T:Nat):∀d s,cntd h n seen T d s≤4^d
 | 0,s=>by simp [cntd]
 | d+1,s=>by
  refine Nat.le_trans (sumTo_lim (c:=4^d) fun k _=>?_) (by rw [Nat.pow_succ,Nat.mul_comm]; exact Nat.mul_le_mul_left _ hn)
  split
  ·exact Nat.zero_le _
  ·exact cntd_le h hn seen T d k
theorem cw_le (h:Tapi_Hidden) {n:Nat} (hn:n≤4) (seen:List Int) {T t:Nat} (hT:T≤8) (s:Nat):cw h n seen T t s≤65536 :=
 Nat.le_trans (cntd_le h hn seen T _ s) (Nat.le_trans (Nat.pow_le_pow_right (by omega) (show T - 1 - t≤8 by omega)) (by decide))
end Go.Ab
namespace Go.Ab
open Go
set_option maxRecDepth 100000
section
variable {h:Tapi_Hidden} {g n k:Nat} (v:VH h g n k) {seen:List Int} {T:Nat} (w:VS k seen T) (hT:1≤T∧T≤8)
include v w hT
theorem VH.cnt_sum (e0:Int) {t s:Nat} (ht:t+1 < T) (hs:s < n) (s9 tbl:List (List Int)) (hrow:lkI tbl ((t+2:Nat):Int)=some (rowI n (cw h n seen T (t+1)))) :
  whileN fuel (g_path_Count_b2 (⟨h,seen⟩,e0) (((t+1:Nat):Int),s9) ((s:Int),tbl)) (0,0)=some ((cw h n seen T t s:Nat):Int):=by
 have hn4:=v.n4
 have htot:=cw_step h n seen ht s
 have lim:∀j,j≤n→sumTo j (fun r=>if nat2 h.Step s r*shN h (seen.getD (t+1) 0) r=0 then 0 else cw h n seen T (t+1) r)≤65536:=fun j hj=>by
  refine Nat.le_trans (sumTo_mono hj) ?_
  rw [←htot]; exact cw_le h hn4 seen hT.2 s
 refine whileN_run (fun j=>(((sumTo j (fun r=>if nat2 h.Step s r*shN h (seen.getD (t+1) 0) r=0 then 0 else cw h n seen T (t+1) r):Nat):Int),(j:Int))) n _ ?_ ?_ ?_ (by omega)
 ·simp [sumTo]
 ·intro j hj
  unfold g_path_Count_b2
  simp only [v.firstL]
  rw [if_pos (by rw [decide_eq_true_eq]; omega),v.intoS w ht hs hj]
  simp only [Option.bind_some]
  rw [show IntKind.i64.wrap (((t+1:Nat):Int)+1)=((t+2:Nat):Int) by rw [w64 (by omega)]; omega,hrow]
  simp only [Option.bind_some]
  rw [rowI_get hj]
  simp only [Option.bind_some]
  unfold g_path_Count_1 g_path_add
  have l1:=lim (j+1) hj
  simp only [sumTo] at l1 ⊢
  by_cases c:nat2 h.Step s j*shN h (seen.getD (t+1) 0) j=0
  ·rw [if_pos c] at l1 ⊢
   rw [if_pos (by rw [c]; rfl)]
   simp only [Option.bind_some]
   rw [w64 (by omega),w64 (by omega)]
   simp
  ·rw [if_neg c] at l1 ⊢
   rw [if_neg (by intro x; exact c (Int.ofNat.inj (eq_of_beq x)))]
   simp only [Option.bind_some]
   rw [←Int.natCast_add,w64 (by omega),w64 (by omega)]
   rfl
 ·unfold g_path_Count_b2
  simp only [v.firstL]
  rw [if_neg (by simp),←htot]
theorem VH.cnt_row (e0:Int) {t:Nat} (ht:t+1 < T) (L s9:List (List Int)) (hL:L.length≤1000) (h0:L[t+1]?=some []) (h1:L[t+2]?=some (rowI n (cw h n seen T (t+1)))) :
  whileN fuel (g_path_Count_b3 (⟨h,seen⟩,e0) (((t+1:Nat):Int),s9)) (0,L)=some (L.set (t+1) (rowI n (cw h n seen T t))):=by
 have hn4:=v.n4
 have hl1:t+1 < L.length:=(List.getElem?_eq_some_iff.1 h0).1
 refine whileN_run (fun j=>((j:Int),L.set (t+1) (rowI j (cw h n seen T t)))) n _ ?_ ?_ ?_ (by omega)
 ·refine Prod.ext rfl ?_
  refine List.ext_getElem? fun i=>?_
  rw [List.getElem?_set]
  by_cases e:t+1=i
  ·subst e; rw [if_pos rfl,if_pos hl1,h0]; rfl
  ·rw [if_neg e]
 ·intro j hj
  unfold g_path_Count_b3
  simp only [v.firstL]
  rw [if_pos (by rw [decide_eq_true_eq]; omega),v.cnt_sum w hT e0 ht hj s9 _ (lkI_q (by rw [List.getElem?_set,if_neg (by omega)]; exact h1))]
  simp only [Option.bind_some]
  rw [lkI_q (x:=rowI j (cw h n seen T t)) (by rw [List.getElem?_set,if_pos rfl,if_pos hl1])]
  simp only [Option.bind_some]
  rw [if_pos (by rw [List.length_append,List.length_singleton,rowI_len]; omega),w64 (by omega),nat_i,List.set_set,List.set_set,←rowI_succ]
  rfl
 ·unfold g_path_Count_b3
  simp only [v.firstL]
  rw [if_neg (by simp)]
end
end Go.Ab
namespace Go.Ab
open Go
set_option maxRecDepth 100000
def cntN (h:Tapi_Hidden) (n:Nat) (seen:List Int) (T:Nat):Nat := sumTo n (fun s=>if nat1 h.First s*shN h (seen.getD 0 0) s=0 then 0 else cw h n seen T 0 s)
section
variable {h:Tapi_Hidden} {g n k:Nat} (v:VH h g n k) {seen:List Int} {T:Nat} (w:VS k seen T) (hT:1≤T∧T≤8)
include v w hT
theorem VH.cnt_sum0 (e0:Int) (s9 tbl:List (List Int)) (hrow:lkI tbl (1:Int)=some (rowI n (cw h n seen T 0))) :
  whileN fuel (g_path_Count_b0 (⟨h,seen⟩,e0) (0,s9) (0,tbl)) (0,0)=some ((cntN h n seen T:Nat):Int):=by
 have hn4:=v.n4
 have lim:∀j,j≤n→sumTo j (fun s=>if nat1 h.First s*shN h (seen.getD 0 0) s=0 then 0 else cw h n seen T 0 s)≤4*65536:=fun j hj=>by
  refine Nat.le_trans (sumTo_lim (c:=65536) fun k _=>?_) (Nat.mul_le_mul_right _ (by omega))
  split
  ·omega
  ·exact cw_le h hn4 seen hT.2 k
 refine whileN_run (fun j=>(((sumTo j (fun s=>if nat1 h.First s*shN h (seen.getD 0 0) s=0 then 0 else cw h n seen T 0 s):Nat):Int),(j:Int))) n _ ?_ ?_ ?_ (by omega)
 ·simp [sumTo]
 ·intro j hj
  unfold g_path_Count_b0
  simp only [v.firstL]
  rw [if_pos (by rw [decide_eq_true_eq]; omega),v.into0 w (by omega) hj]
  simp only [Option.bind_some]
  rw [show IntKind.i64.wrap ((0:Int)+1)=1 from rfl,hrow]
  simp only [Option.bind_some]
  rw [rowI_get hj]
  simp only [Option.bind_some]
  unfold g_path_Count_1 g_path_add
  have l1:=lim (j+1) hj
  simp only [sumTo] at l1 ⊢
  by_cases c:nat1 h.First j*shN h (seen.getD 0 0) j=0
  ·rw [if_pos c] at l1 ⊢
   rw [if_pos (by rw [c]; rfl)]
   simp only [Option.bind_some]
   rw [w64 (by omega),w64 (by omega)]
   simp
  ·rw [if_neg c] at l1 ⊢
   rw [if_neg (by intro x; exact c (Int.ofNat.inj (eq_of_beq x)))]
   simp only [Option.bind_some]
   rw [←Int.natCast_add,w64 (by omega),w64 (by omega)]
   rfl
 ·unfold g_path_Count_b0
  simp only [v.firstL]
  rw [if_neg (by simp)]
  rfl
def tabC (h:Tapi_Hidden) (n:Nat) (seen:List Int) (T m:Nat):List (List Int):=(List.range (T+1)).map fun j=>if j < m then [] else if j=0 then [((cntN h n seen T:Nat):Int)] else rowI n (cw h n seen T (j - 1))
omit v w hT in
theorem tabC_at {m i:Nat} (hi:i≤T):(tabC h n seen T m)[i]?=some (if i < m then [] else if i=0 then [((cntN h n seen T:Nat):Int)] else rowI n (cw h n seen T (i - 1))):=by
 unfold tabC
 rw [List.getElem?_map,List.getElem?_range (by omega)]
 rfl
omit v w hT in
theorem tabC_set {i:Nat} (hi:i≤T):(tabC h n seen T (i+1)).set i (if i=0 then [((cntN h n seen T:Nat):Int)] else rowI n (cw h n seen T (i - 1)))=tabC h n seen T i:=by
 refine List.ext_getElem? fun j=>?_
 rw [List.getElem?_set]
 by_cases hj:j≤T
 ·rw [tabC_at hj,tabC_at hj]
  by_cases e:i=j
  ·subst e; rw [if_pos rfl,if_pos (by unfold tabC; simp; omega)]; simp
  ·rw [if_neg e]
   by_cases c:j < i
   ·rw [if_pos (by omega),if_pos c]
   ·rw [if_neg (by omega),if_neg c]
 ·rw [if_neg (by omega),List.getElem?_eq_none (by unfold tabC; simp; omega),List.getElem?_eq_none (by unfold tabC; simp; omega)]
theorem VH.cnt_row0 (e0:Int) (L s9:List (List Int)) (h0:L[0]?=some []) (h1:L[1]?=some (rowI n (cw h n seen T 0))) :
  whileN fuel (g_path_Count_b1 (⟨h,seen⟩,e0) (0,s9)) (0,L)=some (L.set 0 [((cntN h n seen T:Nat):Int)]):=by
 have hl1:0 < L.length:=(List.getElem?_eq_some_iff.1 h0).1
 refine whileN_run (fun j=>((j:Int),if j=0 then L else L.set 0 [((cntN h n seen T:Nat):Int)])) 1 _ rfl ?_ ?_ (by omega)
 ·intro j hj
  obtain rfl:j=0:=by omega
  unfold g_path_Count_b1
  simp only [if_true]
  rw [if_pos (by simp),show ((0:Nat):Int)=0 from rfl,v.cnt_sum0 w hT e0 s9 L (lkI_q (i:=1) h1)]
  simp only [Option.bind_some]
  rw [show lkI L 0=some [] from lkI_q (i:=0) h0]
  simp only [Option.bind_some]
  rw [if_pos (by simp),show Int.toNat 0=0 from rfl,List.set_set]
  rfl
 ·unfold g_path_Count_b1
  rw [if_neg (by simp)]
  rfl
theorem VH.cnt_loop (e0:Int):whileN fuel (g_path_Count_b4 (⟨h,seen⟩,e0)) (((T - 1:Nat):Int),tabC h n seen T T)=some (tabC h n seen T 0):=by
 refine whileN_run (fun c=>((T:Int) - 1 - (c:Int),tabC h n seen T (T - c))) T _ ?_ ?_ ?_ (by omega)
 ·refine Prod.ext ?_ rfl
  simp only []; omega
 ·intro c hc
  unfold g_path_Count_b4
  simp only []
  obtain ⟨i,hi⟩:∃i,T - c=i+1:=⟨T - c - 1,by omega⟩
  rw [show (T:Int) - 1 - (c:Int)=(i:Int) by omega,hi,show T - (c+1)=i by omega,show (T:Int) - 1 - ((c+1:Nat):Int)=(i:Int) - 1 by omega]
  rw [if_pos (by rw [decide_eq_true_eq]; omega)]
  by_cases e:i=0
  ·subst e
   rw [if_pos (by simp),show ((0:Nat):Int)=0 from rfl,v.cnt_row0 w hT e0 (tabC h n seen T (0+1)) _ (by rw [tabC_at (by omega),if_pos (by omega)]) (by rw [tabC_at (by omega),if_neg (by omega),if_neg (by omega)])]
   simp only [Option.bind_some]
   have:=tabC_set (h:=h) (n:=n) (seen:=seen) (i:=0) (T:=T) (by omega)
   rw [if_pos rfl] at this
   rw [this]; rfl
  ·obtain ⟨t,rfl⟩:∃t,i=t+1:=⟨i - 1,by omega⟩
   rw [if_neg (by simp; omega),v.cnt_row w hT e0 (t:=t) (by omega) (tabC h n seen T (t+1+1)) _ (by unfold tabC; simp; omega) (by rw [tabC_at (by omega),if_pos (by omega)]) (by rw [tabC_at (by omega),if_neg (by omega),if_neg (by omega)]; rfl)]
   simp only [Option.bind_some]
   have:=tabC_set (h:=h) (n:=n) (seen:=seen) (i:=t+1) (T:=T) (by omega)
   rw [if_neg (by omega),Nat.add_sub_cancel] at this
   rw [this,w64 (by omega)]
 ·unfold g_path_Count_b4
  simp only []
  rw [if_neg (by simp; omega),Nat.sub_self]
omit v w hT in
theorem tabC_top (h1:1≤T):(List.replicate (T+1) ([]:List Int)).set T (List.replicate n 1)=tabC h n seen T T:=by
 refine List.ext_getElem? fun j=>?_
 rw [List.getElem?_set]
 by_cases hj:j≤T
 ·rw [tabC_at hj]
  by_cases e:T=j
  ·subst e
   rw [if_pos rfl,if_pos (by simp),if_neg (by omega),if_neg (by omega)]
   congr 1
   refine List.ext_getElem? fun i=>?_
   unfold rowI
   rw [List.getElem?_replicate,List.getElem?_map]
   by_cases c:i < n
   ·rw [if_pos c,List.getElem?_range c]; simp [cw_last]
   ·rw [if_neg c,List.getElem?_eq_none (by simpa using c)]; rfl
  ·rw [if_neg e,List.getElem?_replicate,if_pos (by omega),if_pos (by omega)]
 ·rw [if_neg (by omega),List.getElem?_eq_none (by simp; omega),List.getElem?_eq_none (by unfold tabC; simp; omega)]
theorem VH.count_eq (ok:OkH h) (e:errN h seen=0) (hs:seen.length≤8):g_path_Count h seen=some (((cntN h n seen T:Nat):Int),0):=by
 unfold g_path_Count
 rw [searcher_eq h seen ok (by omega),if_pos e,e]
 have hl:=w.len
 have e1:IntKind.i64.wrap ((T:Int)+1)=((T+1:Nat):Int):=by rw [w64 (by omega)]; rfl
 have e2:IntKind.i64.wrap ((T:Int) - 1)=((T - 1:Nat):Int):=by rw [w64 (by omega)]; omega
 simp only [Option.bind_some,hl,e1,e2,v.firstL,nat_i]
 rw [if_neg (by simp),if_pos (by omega),repeat1_eq n v.n4]
 simp only [Option.bind_some]
 rw [lkI_q (i:=T) (x:=[]) (by rw [List.getElem?_replicate,if_pos (by omega)])]
 simp only [Option.bind_some]
 rw [tabC_top (h:=h) (seen:=seen) hT.1,v.cnt_loop w hT 0]
 simp only [Option.bind_some]
 rw [show lkI (tabC h n seen T 0) 0=some [((cntN h n seen T:Nat):Int)] from lkI_q (i:=0) (by rw [tabC_at (by omega),if_neg (by omega),if_pos rfl])]
 rfl
end
end Go.Ab
namespace Go.Ab
open Go
set_option maxRecDepth 100000
section
variable {h:Tapi_Hidden} {g n k:Nat} (v:VH h g n k) {seen:List Int} {T:Nat} (w:VS k seen T) (hT:1≤T∧T≤8)
include v w hT
end
end Go.Ab
namespace Go.Ab
open Go
set_option maxRecDepth 100000
section
variable {h:Tapi_Hidden} {g n k:Nat} (v:VH h g n k) {seen:List Int} {T:Nat} (w:VS k seen T) (hT:1≤T∧T≤8)
include v w hT
end
end Go.Ab
namespace Go.Ab
open Go
set_option maxRecDepth 100000
def rowG {α:Type} (n:Nat) (F:Nat → α):List α:=(List.range n).map F
theorem rowG_len {α:Type} {n:Nat} {F:Nat → α}:(rowG n F).length=n:=by simp [rowG]
theorem rowG_get {α:Type} {n:Nat} {F:Nat → α} {k:Nat} (h:k < n):lkI (rowG n F) (k:Int)=some (F k):=by
 rw [lkI_nat (by rw [rowG_len]; exact h)]; simp [rowG]
theorem rowG_congr {α:Type} {n:Nat} {F G:Nat → α} (h:∀k,k < n→F k=G k):rowG n F=rowG n G:=by
 unfold rowG
 apply List.map_congr_left
 intro t ht
 exact h t (by simpa using ht)
theorem rowG_rep {α:Type} (n:Nat) (x:α):List.replicate n x=rowG n (fun _=>x):=by
 apply List.ext_getElem?
 intro s
 rw [List.getElem?_replicate]
 by_cases hs:s < n
 ·rw [if_pos hs]; simp [rowG,List.getElem?_range hs]
 ·rw [if_neg hs,List.getElem?_eq_none (by rw [rowG_len]; omega)]
theorem rowG_succ {α:Type} {n:Nat} {F:Nat → α}:rowG n F++[F n]=rowG (n+1) F:=by
 unfold rowG; rw [List.range_succ]; simp
section
variable {h:Tapi_Hidden} {g n k:Nat} (v:VH h g n k) {seen:List Int} {T:Nat} (w:VS k seen T) (hT:1≤T∧T≤8)
include v
include w hT
end
structure Valid (h:Tapi_Hidden) (seen:List Int) (g n k:Nat):Prop where
 v:VH h g n k
 w:VS k seen seen.length
 t1:1≤seen.length
 t8:seen.length≤8
 ok:OkH h
 e:errN h seen=0
section
variable {h:Tapi_Hidden} {seen:List Int} {g n k:Nat} (a:Valid h seen g n k)
include a
end
theorem VH.head {h:Tapi_Hidden} {g n k:Nat} (v:VH h g n k):(h.Show.headD []).length=k:=by
 have h1:=v.showL; have h2:=v.n1
 cases hs:h.Show with
 | nil=>rw [hs] at h1; simp at h1; omega
 | cons x L=>exact (v.shows x (by rw [hs]; simp)).1
theorem VH.right {h:Tapi_Hidden} {g n k:Nat} (v:VH h g n k):rightB h=true:=by
 have h0:=v.head
 have h1:=v.firstL; have h2:=v.stepL; have h3:=v.showL; have h4:=v.grain; have h5:=v.g1; have h6:=v.g12; have h7:=v.n1; have h8:=v.n4; have h9:=v.k1; have h10:=v.k4
 unfold rightB
 simp only [Bool.and_eq_true,decide_eq_true_eq,beq_iff_eq,List.all_eq_true,rowB_iff]
 refine ⟨by omega,by omega,by omega,by omega,by omega,by omega,by omega,by rw [h4]; exact v.first,⟨by omega,fun l hl=>?_⟩,by omega,fun l hl=>?_⟩
 ·obtain ⟨a,b⟩:=v.step l hl; exact ⟨by omega,by rw [h4]; exact b⟩
 ·obtain ⟨a,b⟩:=v.shows l hl; exact ⟨by omega,by rw [h4]; exact b⟩
theorem VH.valid {h:Tapi_Hidden} {g n k:Nat} (v:VH h g n k) {seen:List Int} (w:VS k seen seen.length) (t1:1≤seen.length) (t8:seen.length≤8):Valid h seen g n k:=by
 refine ⟨v,w,t1,t8,v.few.ok,?_⟩
 unfold errN
 rw [if_pos v.right,if_pos]
 unfold seenB seesB
 rw [Bool.and_eq_true,Bool.and_eq_true,decide_eq_true_eq,decide_eq_true_eq,List.all_eq_true]
 refine ⟨fun x hx=>?_,by omega,by omega⟩
 rw [Bool.and_eq_true,decide_eq_true_eq,decide_eq_true_eq,v.head]
 exact w.all x hx
theorem draft_valid (p0:Tharuspexref17_Draft) (h0:okTharuspexref17_Draft p0):∃h seen g n k,g_ref17_Draft_Hidden p0=some h∧g_ref17_Draft_What p0=some seen∧Valid h seen g n k:=by
 obtain ⟨h,g,n,k,e,v,hk⟩:=draft_ok p0 h0
 obtain ⟨seen,ex,x1,x8,xs⟩:=what_ok p0 h0 hk
 exact ⟨h,seen,g,n,k,e,ex,v.valid xs x1 x8⟩
end Go.Ab
namespace Go.Ab
open Go
set_option maxRecDepth 100000
section
variable {h:Tapi_Hidden} {seen:List Int} {g n k:Nat} (a:Valid h seen g n k)
include a
end
end Go.Ab
namespace Go.Ab
open Go
set_option maxRecDepth 100000
end Go.Ab
namespace Go.Ab
open Go
structure OrdOk {T:Type} (le:T→T→Bool):Prop where
 trans:∀x y z,le x y=true→le y z=true→le x z=true
 total:∀x y,(le x y || le y x)=true
 anti:∀x y,le x y=true→le y x=true→x=y
def topL {T:Type} (le:T→T→Bool) (k:Nat) (l:List T):List T:=(isort le l).take k
section
variable {T:Type} {le:T→T→Bool} (O:OrdOk le)
theorem insL_take (x:T):∀(k:Nat) (l:List T),(insL le x (l.take k)).take k=(insL le x l).take k
 | 0,l=>by simp
 | k+1,[]=>by simp
 | k+1,y::l=>by
  simp only [List.take_succ_cons]
  unfold insL
  split
  ·simp only [List.take_succ_cons]
   congr 1
   cases k with
   | zero=>simp
   | succ k=>simp only [List.take_succ_cons,List.take_take]; congr 2; omega
  ·simp only [List.take_succ_cons]
   congr 1
   exact insL_take x k l
theorem insL_foldr_take (k:Nat) (l:List T):∀(b:List T),(b.foldr (insL le) (l.take k)).take k=(b.foldr (insL le) l).take k
 | []=>by simp [List.take_take]
 | x::b=>by
  simp only [List.foldr_cons]
  rw [←insL_take,insL_foldr_take k l b,insL_take]
theorem isort_append (a b:List T):isort le (a++b)=a.foldr (insL le) (isort le b):=by
 induction a with
 | nil=>rfl
 | cons x a ih=>simp only [List.cons_append,isort,List.foldr_cons,ih]
include O
theorem isort_congr {a b:List T} (h:a.Perm b):isort le a=isort le b :=
 sorted_one O.anti ((isort_perm le a).trans (h.trans (isort_perm le b).symm)) (isort_sorted O.trans O.total a) (isort_sorted O.trans O.total b)
theorem isort_self {a:List T} (h:a.Pairwise (fun x y=>le x y=true)):isort le a=a :=
 sorted_one O.anti (isort_perm le a) (isort_sorted O.trans O.total a) h
theorem top_congr {k:Nat} {a b:List T} (h:a.Perm b):topL le k a=topL le k b:=by
 unfold topL; rw [isort_congr O h]
theorem top_sorted (k:Nat) (a:List T):(topL le k a).Pairwise (fun x y=>le x y=true) :=
 (isort_sorted O.trans O.total a).sublist (List.take_sublist _ _)
theorem top_appR (k:Nat) (a b:List T):topL le k (b++topL le k a)=topL le k (b++a):=by
 have e:isort le (topL le k a)=(isort le a).take k:=isort_self O (top_sorted O k a)
 rw [topL,isort_append,e,insL_foldr_take,←isort_append]; rfl
theorem top_app (k:Nat) (a b:List T):topL le k (topL le k a++b)=topL le k (a++b):=by
 rw [top_congr O List.perm_append_comm,top_appR O,top_congr O List.perm_append_comm]
theorem top_app2 (k:Nat) (a b:List T):topL le k (topL le k a++topL le k b)=topL le k (a++b):=by
 rw [top_appR O,top_app O]
omit O
theorem top_nil (k:Nat):topL le k ([]:List T)=[]:=by simp [topL,isort]
theorem top_len (k:Nat) (a:List T):(topL le k a).length=min k a.length:=by
 unfold topL; rw [List.length_take,(isort_perm le a).length_eq]
theorem top_mem {k:Nat} {a:List T} {x:T} (h:x∈topL le k a):x∈a:=(isort_perm le a).mem_iff.1 (List.mem_of_mem_take h)
include O
theorem top_top (k:Nat) (a:List T):topL le k (topL le k a)=topL le k a:=by
 have:=top_app O k a []
 simpa using this
theorem insL_map {U:Type} {leU:U→U→Bool} (f:U→T) (hf:∀x y,le (f x) (f y)=leU x y) (x:U):∀(l:List U),insL le (f x) (l.map f)=(insL leU x l).map f
 | []=>rfl
 | y::l=>by
  simp only [List.map_cons]
  unfold insL
  rw [hf]
  split
  ·rfl
  ·simp only [List.map_cons]; rw [insL_map f hf x l]
theorem isort_map {U:Type} {leU:U→U→Bool} (f:U→T) (hf:∀x y,le (f x) (f y)=leU x y):∀(l:List U),isort le (l.map f)=(isort leU l).map f
 | []=>rfl
 | x::l=>by
  simp only [List.map_cons,isort]
  rw [isort_map f hf l,insL_map O f hf]
theorem top_map {U:Type} {leU:U→U→Bool} (f:U→T) (hf:∀x y,le (f x) (f y)=leU x y) (k:Nat) (l:List U):topL le k (l.map f)=(topL leU k l).map f:=by
 unfold topL; rw [isort_map O f hf,List.map_take]
end
end Go.Ab
namespace Go.Ab
open Go
set_option maxRecDepth 100000
theorem leW_ok:OrdOk leW:=⟨order18.trans,order18.total,order18.anti⟩
def beh (w s:Nat) (x:Tpath_weighed):Tpath_weighed:=⟨(w:Int)*x.weight,(s:Int)::x.path⟩
theorem leW_beh {w s:Nat} (hw:w≠0) (x y:Tpath_weighed):leW (beh w s x) (beh w s y)=leW x y:=by
 have hp:(0:Int) < (w:Int):=by omega
 unfold leW beh
 simp only [lexLe,Int.lt_irrefl,decide_false,Bool.false_or,beq_self_eq_true,Bool.true_and]
 rw [Bool.eq_iff_iff]
 simp only [Bool.or_eq_true,Bool.and_eq_true,decide_eq_true_eq,beq_iff_eq]
 rw [Int.mul_lt_mul_left hp,Int.mul_eq_mul_left_iff (by omega)]
def allW (wt:Nat → Nat → Nat → Nat) (n:Nat):Nat → Nat → Nat → List Tpath_weighed
 | 0,_,_=>[⟨1,[]⟩]
 | d+1,t,r=>(List.range n).flatMap fun s=>if wt t r s=0 then [] else (allW wt n d (t+1) s).map (beh (wt t r s) s)
def topC (wt:Nat → Nat → Nat → Nat) (n k d t r:Nat):List Tpath_weighed:=topL leW k (allW wt n d t r)
def behL (wt:Nat → Nat → Nat → Nat) (n k d t r s:Nat):List Tpath_weighed:=if wt t r s=0 then [] else (topC wt n k d (t+1) s).map (beh (wt t r s) s)
theorem top_flat {T:Type} {le:T→T→Bool} (O:OrdOk le) (k:Nat) (f g:Nat → List T) (h:∀s,topL le k (f s)=topL le k (g s)):∀n,topL le k ((List.range n).flatMap f)=topL le k ((List.range n).flatMap g)
 | 0=>rfl
 | n+1=>by
  rw [List.range_succ,List.flatMap_append,List.flatMap_append]
  simp only [List.flatMap_cons,List.flatMap_nil,List.append_nil]
  rw [←top_app2 O,←top_app2 O k ((List.range n).flatMap g),top_flat O k f g h n,h n]
theorem topC_succ (wt:Nat → Nat → Nat → Nat) (n k d t r:Nat):topC wt n k (d+1) t r=topL leW k ((List.range n).flatMap (behL wt n k d t r)):=by
 unfold topC
 rw [allW]
 refine top_flat leW_ok k _ _ (fun s=>?_) n
 unfold behL
 by_cases c:wt t r s=0
 ·rw [if_pos c,if_pos c]
 ·rw [if_neg c,if_neg c]
  rw [top_map leW_ok _ (leW_beh c),top_map leW_ok _ (leW_beh c)]
  unfold topC
  rw [top_top leW_ok]
def fI (q:List Nat):List Int:=q.map fun s:Nat => (s:Int)
theorem fI_cons (s:Nat) (q:List Nat):fI (s::q)=(s:Int)::fI q:=rfl
theorem fI_len (q:List Nat):(fI q).length=q.length:=by simp [fI]
def wP (wt:Nat → Nat → Nat → Nat):Nat → Nat → List Nat → Nat
 | _,_,[]=>1
 | t,r,s::q=>wt t r s*wP wt (t+1) s q
theorem allW_mem {wt:Nat → Nat → Nat → Nat} {n:Nat} {x:Tpath_weighed}:∀{d t r:Nat},x∈allW wt n d t r↔∃q:List Nat,q.length=d∧(∀s∈q,s < n)∧wP wt t r q≠0∧x=⟨(wP wt t r q:Nat),fI q⟩
 | 0,t,r=>by
  simp only [allW,List.mem_singleton]
  constructor
  ·rintro rfl; exact ⟨[],rfl,by simp,by simp [wP],rfl⟩
  ·rintro ⟨q,h1,_,_,rfl⟩
   rw [List.length_eq_zero_iff.1 h1]; rfl
 | d+1,t,r=>by
  rw [allW,List.mem_flatMap]
  constructor
  ·rintro ⟨s,hs,hx⟩
   rw [List.mem_range] at hs
   by_cases c:wt t r s=0
   ·rw [if_pos c] at hx; simp at hx
   ·rw [if_neg c] at hx
    obtain ⟨y,hy,rfl⟩:=List.mem_map.1 hx
    obtain ⟨q,h1,h2,h3,rfl⟩:=allW_mem.1 hy
    refine ⟨s::q,by simp [h1],fun z hz=>?_,?_,?_⟩
    ·rcases List.mem_cons.1 hz with rfl | hz
     ·exact hs
     ·exact h2 z hz
    ·simp only [wP]; exact Nat.mul_ne_zero c h3
    ·simp only [beh,wP,fI_cons,Int.natCast_mul]
  ·rintro ⟨q,h1,h2,h3,rfl⟩
   cases q with
   | nil=>simp at h1
   | cons s q =>
    simp only [wP] at h3
    refine ⟨s,List.mem_range.2 (h2 s (by simp)),?_⟩
    have c:wt t r s≠0:=fun e=>h3 (by rw [e,Nat.zero_mul])
    rw [if_neg c]
    refine List.mem_map.2 ⟨_,allW_mem.2 ⟨q,by simpa using h1,fun z hz=>h2 z (by simp [hz]),fun e=>h3 (by rw [e,Nat.mul_zero]),rfl⟩,?_⟩
    simp only [beh,wP,fI_cons,Int.natCast_mul]
theorem wP_le {wt:Nat → Nat → Nat → Nat} {n B:Nat} (hB:∀t r s,r < n→s < n→wt t r s≤B):∀{q:List Nat} {t r:Nat},r < n→(∀s∈q,s < n)→wP wt t r q≤B^q.length
 | [],_,_,_,_=>by simp [wP]
 | s::q,t,r,hr,hq=>by
  simp only [wP,List.length_cons,Nat.pow_succ]
  rw [Nat.mul_comm]
  exact Nat.mul_le_mul (wP_le hB (hq s (by simp)) fun z hz=>hq z (by simp [hz])) (hB t r s hr (hq s (by simp)))
end Go.Ab
namespace Go.Ab
open Go
set_option maxRecDepth 100000
theorem concat2_eq (x y:List Int) (hx:x.length≤1000) (hy:y.length≤1000):g_slices_Concat_int_int [x,y]=some (x++y):=by
 have l1:lkI [x,y] 0=some x:=rfl
 have l2:lkI [x,y] 1=some y:=rfl
 unfold g_slices_Concat_int_int
 rw [whileN_run (s0:=((0:Int),(0:Int))) (fun j=>match j with | 0=>(0,0) | 1=>((x.length:Int),1) | _=>((x.length:Int)+(y.length:Int),2)) 2 ((x.length:Int)+(y.length:Int)) rfl ?_ ?_ (by omega)]
 ·simp only [Option.bind_some]
  rw [if_neg (by rw [decide_eq_true_eq]; omega)]
  have loop:∀b:(Int × List Int)→Option (Step (Int × List Int) (List Int)),(b=g_slices_Concat_int_int_b1 [x,y]∨b=g_slices_Concat_int_int_b2 [x,y])→whileN fuel b (0,([]:List Int))=some (x++y):=by
   intro b hb
   have hb:b=g_slices_Concat_int_int_b1 [x,y]:=by rcases hb with hb | hb <;> exact hb
   subst hb
   rw [whileN_run (s0:=((0:Int),([]:List Int))) (fun j=>match j with | 0=>(0,[]) | 1=>(1,x) | _=>(2,x++y)) 2 (x++y) rfl ?_ ?_ (by omega)]
   ·intro j hj
    rcases (by omega:j=0∨j=1) with e | e <;> subst e
    ·unfold g_slices_Concat_int_int_b1
     simp only []
     rw [if_pos (by simp),l1]
     simp only [Option.bind_some]
     rw [if_pos (by simp; omega),w64 (by omega)]; rfl
    ·unfold g_slices_Concat_int_int_b1
     simp only []
     rw [if_pos (by simp),l2]
     simp only [Option.bind_some]
     rw [if_pos (by simp; omega),w64 (by omega)]; rfl
   ·unfold g_slices_Concat_int_int_b1
    simp only []
    rw [if_neg (by simp)]
  by_cases e:(x.length:Int)+(y.length:Int)=0
  ·rw [if_neg (by rw [decide_eq_true_eq,w64 (by omega)]; omega),loop _ (.inr rfl)]; rfl
  ·rw [if_pos (by rw [decide_eq_true_eq,w64 (by omega)]; omega),if_pos (by rw [w64 (by omega)]; omega),if_pos (by simp; omega),loop _ (.inl rfl)]; rfl
 ·intro j hj
  rcases (by omega:j=0∨j=1) with e | e <;> subst e
  ·unfold g_slices_Concat_int_int_b0
   simp only []
   rw [if_pos (by simp),l1]
   simp only [Option.bind_some]
   rw [w64 (n:=0+(x.length:Int)) (by omega),if_neg (by rw [decide_eq_true_eq]; omega),w64 (by omega)]; simp
  ·unfold g_slices_Concat_int_int_b0
   simp only []
   rw [if_pos (by simp),l2]
   simp only [Option.bind_some]
   rw [w64 (n:=(x.length:Int)+(y.length:Int)) (by omega),if_neg (by rw [decide_eq_true_eq]; omega),w64 (by omega)]; simp
 ·unfold g_slices_Concat_int_int_b0
  simp only []
  rw [if_neg (by simp)]
theorem concatW_eq (x y:List Tpath_weighed) (hx:x.length≤1000) (hy:y.length≤1000):g_slices_Concat_path_weighed_path_weighed [x,y]=some (x++y):=by
 have l1:lkI [x,y] 0=some x:=rfl
 have l2:lkI [x,y] 1=some y:=rfl
 unfold g_slices_Concat_path_weighed_path_weighed
 rw [whileN_run (s0:=((0:Int),(0:Int))) (fun j=>match j with | 0=>(0,0) | 1=>((x.length:Int),1) | _=>((x.length:Int)+(y.length:Int),2)) 2 ((x.length:Int)+(y.length:Int)) rfl ?_ ?_ (by omega)]
 ·simp only [Option.bind_some]
  rw [if_neg (by rw [decide_eq_true_eq]; omega)]
  have loop:∀b:(Int × List Tpath_weighed)→Option (Step (Int × List Tpath_weighed) (List Tpath_weighed)),(b=g_slices_Concat_path_weighed_path_weighed_b1 [x,y]∨b=g_slices_Concat_path_weighed_path_weighed_b2 [x,y])→whileN fuel b (0,([]:List Tpath_weighed))=some (x++y):=by
   intro b hb
   have hb:b=g_slices_Concat_path_weighed_path_weighed_b1 [x,y]:=by rcases hb with hb | hb <;> exact hb
   subst hb
   rw [whileN_run (s0:=((0:Int),([]:List Tpath_weighed))) (fun j=>match j with | 0=>(0,[]) | 1=>(1,x) | _=>(2,x++y)) 2 (x++y) rfl ?_ ?_ (by omega)]
   ·intro j hj
    rcases (by omega:j=0∨j=1) with e | e <;> subst e
    ·unfold g_slices_Concat_path_weighed_path_weighed_b1
     simp only []
     rw [if_pos (by simp),l1]
     simp only [Option.bind_some]
     rw [if_pos (by simp; omega),w64 (by omega)]; rfl
    ·unfold g_slices_Concat_path_weighed_path_weighed_b1
     simp only []
     rw [if_pos (by simp),l2]
     simp only [Option.bind_some]
     rw [if_pos (by simp; omega),w64 (by omega)]; rfl
   ·unfold g_slices_Concat_path_weighed_path_weighed_b1
    simp only []
    rw [if_neg (by simp)]
  by_cases e:(x.length:Int)+(y.length:Int)=0
  ·rw [if_neg (by rw [decide_eq_true_eq,w64 (by omega)]; omega),loop _ (.inr rfl)]; rfl
  ·rw [if_pos (by rw [decide_eq_true_eq,w64 (by omega)]; omega),if_pos (by rw [w64 (by omega)]; omega),if_pos (by simp; omega),loop _ (.inl rfl)]; rfl
 ·intro j hj
  rcases (by omega:j=0∨j=1) with e | e <;> subst e
  ·unfold g_slices_Concat_path_weighed_path_weighed_b0
   simp only []
   rw [if_pos (by simp),l1]
   simp only [Option.bind_some]
   rw [w64 (n:=0+(x.length:Int)) (by omega),if_neg (by rw [decide_eq_true_eq]; omega),w64 (by omega)]; simp
  ·unfold g_slices_Concat_path_weighed_path_weighed_b0
   simp only []
   rw [if_pos (by simp),l2]
   simp only [Option.bind_some]
   rw [w64 (n:=(x.length:Int)+(y.length:Int)) (by omega),if_neg (by rw [decide_eq_true_eq]; omega),w64 (by omega)]; simp
 ·unfold g_slices_Concat_path_weighed_path_weighed_b0
  simp only []
  rw [if_neg (by simp)]
def tabG {β:Type} (n T:Nat) (M:Nat → Nat → β) (m:Nat):List (List β):=(List.range (T+1)).map fun j=>if j < m then [] else if j=0 then [M 0 0] else rowG n (M j)
section
variable {β:Type} {n T:Nat} {M:Nat → Nat → β}
theorem tabG_len {m:Nat}:(tabG n T M m).length=T+1:=by simp [tabG]
theorem tabG_at {m i:Nat} (hi:i≤T):(tabG n T M m)[i]?=some (if i < m then [] else if i=0 then [M 0 0] else rowG n (M i)):=by
 unfold tabG
 rw [List.getElem?_map,List.getElem?_range (by omega)]
 rfl
theorem tabG_set {i:Nat} (hi:i≤T):(tabG n T M (i+1)).set i (if i=0 then [M 0 0] else rowG n (M i))=tabG n T M i:=by
 refine List.ext_getElem? fun j=>?_
 rw [List.getElem?_set]
 by_cases hj:j≤T
 ·rw [tabG_at hj,tabG_at hj]
  by_cases e:i=j
  ·subst e; rw [if_pos rfl,if_pos (by rw [tabG_len]; omega)]; simp
  ·rw [if_neg e]
   by_cases c:j < i
   ·rw [if_pos (by omega),if_pos c]
   ·rw [if_neg (by omega),if_neg c]
 ·rw [if_neg (by omega),List.getElem?_eq_none (by rw [tabG_len]; omega),List.getElem?_eq_none (by rw [tabG_len]; omega)]
theorem tabG_top (h1:1≤T):(List.replicate (T+1) ([]:List β)).set T (rowG n (M T))=tabG n T M T:=by
 refine List.ext_getElem? fun j=>?_
 rw [List.getElem?_set]
 by_cases hj:j≤T
 ·rw [tabG_at hj]
  by_cases e:T=j
  ·subst e
   rw [if_pos rfl,if_pos (by simp),if_neg (by omega),if_neg (by omega)]
  ·rw [if_neg e,List.getElem?_replicate,if_pos (by omega),if_pos (by omega)]
 ·rw [if_neg (by omega),List.getElem?_eq_none (by simp; omega),List.getElem?_eq_none (by rw [tabG_len]; omega)]
theorem tabG_row {body:(Int × List (List β))→Option (Step (Int × List (List β)) (List (List β)))} {m t:Nat} (L:List (List β)) (hm:m≤1000) (h0:L[t]?=some [])
  (step:∀j,j < m→∀L',L'[t]?=some (rowG j (M t))→L'[t+1]?=L[t+1]?→body ((j:Int),L')=some (.next (((j+1:Nat):Int),L'.set t (rowG (j+1) (M t)))))
  (done:∀L',body ((m:Int),L')=some (.done L')):whileN fuel body (0,L)=some (L.set t (rowG m (M t))):=by
 have hl1:t < L.length:=(List.getElem?_eq_some_iff.1 h0).1
 refine whileN_run (fun j=>((j:Int),L.set t (rowG j (M t)))) m _ ?_ ?_ (done _) (by omega)
 ·refine Prod.ext rfl ?_
  refine List.ext_getElem? fun i=>?_
  rw [List.getElem?_set]
  by_cases e:t=i
  ·subst e; rw [if_pos rfl,if_pos hl1,h0]; rfl
  ·rw [if_neg e]
 ·intro j hj
  rw [step j hj _ (by rw [List.getElem?_set,if_pos rfl,if_pos hl1]) (by rw [List.getElem?_set,if_neg (by omega)]),List.set_set]
theorem tabG_loop {body:(Int × List (List β))→Option (Step (Int × List (List β)) (List (List β)))} (h1:1≤T) (h8:T≤1000)
  (hZ:∀L,L[0]?=some []→L[1]?=some (rowG n (M 1))→body (0,L)=some (.next (-1,L.set 0 [M 0 0])))
  (hS:∀t,1≤t→t < T→∀L,L.length=T+1→L[t]?=some []→L[t+1]?=some (rowG n (M (t+1)))→body ((t:Int),L)=some (.next ((t:Int) - 1,L.set t (rowG n (M t)))))
  (hD:∀L,body (-1,L)=some (.done L)):whileN fuel body (((T - 1:Nat):Int),tabG n T M T)=some (tabG n T M 0):=by
 refine whileN_run (fun c=>((T:Int) - 1 - (c:Int),tabG n T M (T - c))) T _ ?_ ?_ ?_ (by omega)
 ·refine Prod.ext ?_ rfl
  simp only []; omega
 ·intro c hc
  obtain ⟨i,hi⟩:∃i,T - c=i+1:=⟨T - c - 1,by omega⟩
  rw [show (T:Int) - 1 - (c:Int)=(i:Int) by omega,hi,show T - (c+1)=i by omega,show (T:Int) - 1 - ((c+1:Nat):Int)=(i:Int) - 1 by omega]
  have hs:=tabG_set (n:=n) (M:=M) (i:=i) (T:=T) (by omega)
  by_cases e:i=0
  ·subst e
   rw [if_pos rfl] at hs
   rw [show ((0:Nat):Int)=0 from rfl,hZ _ (by rw [tabG_at (by omega),if_pos (by omega)]) (by rw [tabG_at (by omega),if_neg (by omega),if_neg (by omega)]),hs]; rfl
  ·rw [if_neg e] at hs
   rw [hS i (by omega) (by omega) _ tabG_len (by rw [tabG_at (by omega),if_pos (by omega)]) (by rw [tabG_at (by omega),if_neg (by omega),if_neg (by omega)]),hs]
 ·rw [show (T:Int) - 1 - (T:Int)=-1 by omega,hD,Nat.sub_self]
end
def wtN (h:Tapi_Hidden) (seen:List Int) (t r s:Nat):Nat := (if t=0 then nat1 h.First s else nat2 h.Step r s)*shN h (seen.getD t 0) s
section
variable {h:Tapi_Hidden} {g n k:Nat} (v:VH h g n k) {seen:List Int} {T:Nat} (w:VS k seen T)
include v
theorem VH.wtN_le (t r s:Nat) (hr:r < n) (hs:s < n):wtN h seen t r s≤144:=by
 unfold wtN
 have h1:=v.sh_le (seen.getD t 0) hs
 have h12:=v.g12
 have h2:(if t=0 then nat1 h.First s else nat2 h.Step r s)≤12:=by
  split
  ·have:=v.first_le hs; omega
  ·have:=v.step_le hr hs; omega
 exact Nat.le_trans (Nat.mul_le_mul h2 (Nat.le_trans h1 h12)) (by omega)
include w
theorem VH.into {t r s:Nat} (ht:t < T) (hr:r < n) (hs:s < n):g_path_searcher_into ⟨h,seen⟩ (t:Int) (r:Int) (s:Int)=some ((wtN h seen t r s:Nat):Int):=by
 unfold wtN
 cases t with
 | zero=>rw [if_pos rfl]; exact v.into0 w ht hs _
 | succ t=>rw [if_neg (by omega)]; exact v.intoS w ht hr hs
end
end Go.Ab
namespace Go.Ab
open Go
set_option maxRecDepth 100000
theorem topC_len (wt:Nat → Nat → Nat → Nat) (n k d t r:Nat):(topC wt n k d t r).length≤k:=by unfold topC; rw [top_len]; omega
theorem topC_zero (wt:Nat → Nat → Nat → Nat) (n k t r:Nat) (hk:1≤k):topC wt n k 0 t r=[⟨1,[]⟩]:=by
 unfold topC topL allW isort insL isort
 rw [List.take_of_length_le (by simpa using hk)]
theorem topC_mem {wt:Nat → Nat → Nat → Nat} {n k d t r:Nat} (hB:∀t r s,r < n→s < n→wt t r s≤144) (hr:r < n) {x:Tpath_weighed} (h:x∈topC wt n k d t r) :
  1≤x.weight∧x.weight≤((144^d:Nat):Int)∧x.path.length=d∧∃q:List Nat,q.length=d∧(∀s∈q,s < n)∧wP wt t r q≠0∧x=⟨(wP wt t r q:Nat),fI q⟩:=by
 obtain ⟨q,h1,h2,h3,rfl⟩:=allW_mem.1 (top_mem h)
 have:=wP_le hB hr h2 (t:=t)
 rw [h1] at this
 refine ⟨by show (1:Int)≤((wP wt t r q:Nat):Int); omega,by show ((wP wt t r q:Nat):Int)≤_; omega,by show (fI q).length=d; rw [fI_len,h1],q,h1,h2,h3,rfl⟩
theorem pow144 {d:Nat} (hd:d≤8):144^d≤184884258895036416:=Nat.le_trans (Nat.pow_le_pow_right (by omega) hd) (by decide)
theorem most3 (t s w:Nat) (L:List Tpath_weighed) (hL:L.length≤20) (hx:∀x∈L,0≤(w:Int)*x.weight∧(w:Int)*x.weight≤184884258895036416∧x.path.length≤100) :
  g_path_Most_3 (t:Int) (s:Int) (w:Int) L=some (if w=0 then [] else L.map (beh w s)):=by
 unfold g_path_Most_3
 rw [whileN_run (s0:=((0:Int),([]:List Tpath_weighed))) (fun j=>((j:Int),if w=0 then [] else (L.take j).map (beh w s))) L.length (if w=0 then [] else L.map (beh w s)) (by simp) ?_ ?_ (by omega)]
 ·rfl
 ·intro j hj
  unfold g_path_Most_3_b0
  simp only []
  rw [if_pos (by rw [decide_eq_true_eq]; omega),lkI_nat hj]
  simp only [Option.bind_some]
  by_cases c:w=0
  ·rw [if_neg (by rw [decide_eq_true_eq]; omega),if_pos c,if_pos c,w64 (by omega)]; rfl
  ·obtain ⟨b1,b2,b3⟩:=hx _ (List.getElem_mem hj)
   rw [if_pos (by rw [decide_eq_true_eq]; omega),concat2_eq _ _ (by simp) (by omega)]
   simp only [Option.bind_some]
   rw [if_neg c,if_neg c,if_pos (by simp; omega),w64 (n:=(w:Int)*L[j].weight) (by omega),w64 (by omega),List.take_succ_eq_append_getElem hj,List.map_append]
   rfl
 ·unfold g_path_Most_3_b0
  simp only []
  rw [if_neg (by simp),List.take_length]
theorem most2 (a b:List Tpath_weighed) (k:Nat) (hk:k≤20) (ha:a.length≤20) (hb:b.length≤20) (hp:∀x∈a++b,x.path.length≤100):g_path_Most_2_k0 a b (k:Int)=some (topL leW k (a++b)):=by
 unfold g_path_Most_2_k0
 rw [concatW_eq _ _ (by omega) (by omega)]
 simp only [Option.bind_some]
 have hg:((a++b).all goodW && Nat.blt (a++b).length 4611686018427387904)=true:=by
  rw [Bool.and_eq_true,List.all_eq_true]
  refine ⟨fun x hx=>?_,by simp; omega⟩
  unfold goodW; rw [decide_eq_true_eq]; have:=hp x hx; omega
 unfold sortD
 rw [if_pos hg]
 simp only [Option.bind_some]
 have hl:=(isort_perm leW (a++b)).length_eq
 have hs:=sub_lim (isort leW (a++b)) k
 have h0:=lim_ok (isort leW (a++b)) k
 have e:(if ((isort leW (a++b)).length:Int) < (k:Int) then ((isort leW (a++b)).length:Int) else (k:Int))=(if (k:Int) < ((isort leW (a++b)).length:Int) then (k:Int) else ((isort leW (a++b)).length:Int)):=by
  split <;> split <;> omega
 rw [e,if_pos h0,hs]
 rfl
section
variable {h:Tapi_Hidden} {g n c:Nat} (v:VH h g n c) {seen:List Int} {T k:Nat} (w:VS c seen T) (hT:1≤T∧T≤8) (hk:1≤k∧k≤20)
include v w hT hk
theorem VH.most_step (e0:Int) {t r:Nat} (ht:t < T) (hr:r < n) (s14 tbl:List (List (List Tpath_weighed))) (hrow:lkI tbl ((t+1:Nat):Int)=some (rowG n fun s=>topC (wtN h seen) n k (T - (t+1)) (t+1) s)) :
  whileN fuel (g_path_Most_b2 (⟨h,seen⟩,e0) ((t:Int),s14) ((r:Int),tbl) (k:Int)) ([],0)=some (topC (wtN h seen) n k (T - t) t r):=by
 have hn4:=v.n4
 have hB:=v.wtN_le (seen:=seen)
 obtain ⟨d,hd⟩:∃d,T - t=d+1:=⟨T - t - 1,by omega⟩
 rw [show T - (t+1)=d by omega] at hrow
 rw [hd,topC_succ]
 have hmem:∀s,s < n→∀x∈behL (wtN h seen) n k d t r s,x.path.length≤100:=fun s hs x hx=>by
  unfold behL at hx
  split at hx
  ·simp at hx
  ·obtain ⟨y,hy,rfl⟩:=List.mem_map.1 hx
   obtain ⟨_,_,h3,_⟩:=topC_mem hB hs hy
   show ((s:Int)::y.path).length≤100
   rw [List.length_cons,h3]; omega
 have hlen:∀s,(behL (wtN h seen) n k d t r s).length≤20:=fun s=>by
  unfold behL
  split
  ·simp
  ·rw [List.length_map]; have:=topC_len (wtN h seen) n k d (t+1) s; omega
 refine whileN_run (fun j=>(topL leW k ((List.range j).flatMap (behL (wtN h seen) n k d t r)),(j:Int))) n _ (by simp [top_nil]) ?_ ?_ (by omega)
 ·intro j hj
  unfold g_path_Most_b2
  simp only [v.firstL]
  rw [if_pos (by rw [decide_eq_true_eq]; omega),v.into w ht hr hj]
  simp only [Option.bind_some]
  rw [show IntKind.i64.wrap ((t:Int)+1)=((t+1:Nat):Int) by rw [w64 (by omega)]; omega,hrow]
  simp only [Option.bind_some]
  rw [rowG_get hj]
  simp only [Option.bind_some]
  rw [most3 t j _ _ (by have:=topC_len (wtN h seen) n k d (t+1) j; omega) (fun x hx=>by
   obtain ⟨h1,h2,h3,_⟩:=topC_mem hB hj hx
   have hw:=hB t r j hr hj
   have hp:=pow144 (d:=d+1) (by omega)
   have hc:=pow144 (d:=d) (by omega)
   rw [Nat.pow_succ] at hp
   obtain ⟨y,hy⟩:∃y:Nat,x.weight=(y:Int):=⟨x.weight.toNat,by omega⟩
   rw [hy] at h2 ⊢
   have hm:=Nat.mul_le_mul hw (show y≤144^d by omega)
   rw [Nat.mul_comm 144] at hm
   refine ⟨by rw [←Int.natCast_mul]; omega,by rw [←Int.natCast_mul]; omega,by omega⟩)]
  simp only [Option.bind_some]
  rw [show (if wtN h seen t r j=0 then [] else (topC (wtN h seen) n k d (t+1) j).map (beh (wtN h seen t r j) j))=behL (wtN h seen) n k d t r j from rfl]
  rw [most2 _ _ k hk.2 (by rw [top_len]; omega) (hlen j) (fun x hx=>by
   rcases List.mem_append.1 hx with hx | hx
   ·obtain ⟨s,hs,hx⟩:=List.mem_flatMap.1 (top_mem hx)
    exact hmem s (by have:=List.mem_range.1 hs; omega) x hx
   ·exact hmem j hj x hx)]
  simp only [Option.bind_some]
  rw [top_app leW_ok,w64 (by omega),List.range_succ,List.flatMap_append]
  simp only [List.flatMap_cons,List.flatMap_nil,List.append_nil]
  rfl
 ·unfold g_path_Most_b2
  simp only [v.firstL]
  rw [if_neg (by simp)]
theorem VH.most_loop (e0:Int):whileN fuel (g_path_Most_b4 (⟨h,seen⟩,e0) (k:Int)) (((T - 1:Nat):Int),tabG n T (fun t r=>topC (wtN h seen) n k (T - t) t r) T)=some (tabG n T (fun t r=>topC (wtN h seen) n k (T - t) t r) 0):=by
 have hn4:=v.n4
 have hn1:=v.n1
 refine tabG_loop hT.1 (by omega) (fun L h0 h1=>?_) (fun t t1 t2 L hL h0 h1=>?_) (fun L=>?_)
 ·unfold g_path_Most_b4
  simp only []
  rw [if_pos (by simp),if_pos (by simp)]
  rw [tabG_row (m:=1) (t:=0) (M:=fun t r=>topC (wtN h seen) n k (T - t) t r) L (by omega) h0 (fun j hj L' e1 e2=>?_) (fun L'=>by unfold g_path_Most_b1; simp only []; rw [if_neg (by simp)])]
  ·simp only [Option.bind_some]
   rw [w64 (by omega)]; rfl
  ·obtain rfl:j=0:=by omega
   unfold g_path_Most_b1
   simp only []
   rw [if_pos (by simp)]
   have e:=v.most_step w hT hk e0 (t:=0) (r:=0) (by omega) (by omega) L L' (lkI_q (i:=1) (by rw [e2]; exact h1))
   rw [show whileN fuel (g_path_Most_b0 (⟨h,seen⟩,e0) (0,L) (((0:Nat):Int),L') (k:Int)) ([],0)=_ from e]
   simp only [Option.bind_some]
   rw [show lkI L' 0=some [] from lkI_q (i:=0) e1]
   simp only [Option.bind_some]
   rw [if_pos (by simp),List.set_set]
   rfl
 ·unfold g_path_Most_b4
  simp only []
  rw [if_pos (by rw [decide_eq_true_eq]; omega),if_neg (by rw [beq_iff_eq]; omega)]
  rw [tabG_row (m:=n) (t:=t) (M:=fun t r=>topC (wtN h seen) n k (T - t) t r) L (by omega) h0 (fun j hj L' e1 e2=>?_) (fun L'=>by unfold g_path_Most_b3; simp only [v.firstL]; rw [if_neg (by simp)])]
  ·simp only [Option.bind_some]
   rw [w64 (by omega)]
  ·unfold g_path_Most_b3
   simp only [v.firstL]
   rw [if_pos (by rw [decide_eq_true_eq]; omega),v.most_step w hT hk e0 (t:=t) (r:=j) t2 hj L L' (lkI_q (by rw [e2]; exact h1))]
   simp only [Option.bind_some]
   rw [lkI_q e1]
   simp only [Option.bind_some]
   rw [if_pos (by rw [List.length_append,List.length_singleton,rowG_len]; omega),w64 (by omega),nat_i,List.set_set,rowG_succ]
   rfl
 ·unfold g_path_Most_b4
  simp only []
  rw [if_neg (by simp)]
end
theorem repeatW_eq (p:Nat) (hp:p≤4):g_slices_Repeat_path_weighed_path_weighed [[⟨1,[]⟩]] (p:Int)=some (List.replicate p [⟨1,[]⟩]):=by
 rcases (by omega:p=0∨p=1∨p=2∨p=3∨p=4) with e | e | e | e | e <;> subst e <;> kernel_rfl
section
variable {h:Tapi_Hidden} {seen:List Int} {g n c:Nat} (a:Valid h seen g n c) {k:Nat} (hk:1≤k∧k≤20)
include a hk
theorem Valid.most:g_path_Most h seen (k:Int)=some ((topC (wtN h seen) n k seen.length 0 0).map (·.path),(topC (wtN h seen) n k seen.length 0 0).map (·.weight),0):=by
 have hT:1≤seen.length∧seen.length≤8:=⟨a.t1,a.t8⟩
 have hn4:=a.v.n4
 unfold g_path_Most
 rw [searcher_eq h seen a.ok (by omega),if_pos a.e,a.e]
 have e1:IntKind.i64.wrap ((seen.length:Int)+1)=((seen.length+1:Nat):Int):=by rw [w64 (by omega)]; rfl
 have e2:IntKind.i64.wrap ((seen.length:Int) - 1)=((seen.length - 1:Nat):Int):=by rw [w64 (by omega)]; omega
 simp only [Option.bind_some,e1,e2,a.v.firstL,nat_i]
 rw [if_neg (by simp),if_neg (by rw [decide_eq_true_eq]; omega),if_neg (by rw [decide_eq_true_eq]; omega),if_pos (by omega),repeatW_eq n hn4]
 simp only [Option.bind_some]
 rw [lkI_q (i:=seen.length) (x:=[]) (by rw [List.getElem?_replicate,if_pos (by omega)])]
 simp only [Option.bind_some]
 have et:List.replicate n ([⟨1,[]⟩]:List Tpath_weighed)=rowG n ((fun t r=>topC (wtN h seen) n k (seen.length - t) t r) seen.length):=by
  rw [rowG_rep]; exact rowG_congr fun s _=>by simp only [Nat.sub_self]; rw [topC_zero _ _ _ _ _ hk.1]
 rw [et,tabG_top (M:=fun t r=>topC (wtN h seen) n k (seen.length - t) t r) hT.1,a.v.most_loop a.w hT hk 0]
 simp only [Option.bind_some]
 rw [show lkI (tabG n seen.length (fun t r=>topC (wtN h seen) n k (seen.length - t) t r) 0) 0=some [topC (wtN h seen) n k seen.length 0 0] from lkI_q (i:=0) (by rw [tabG_at (by omega),if_neg (by omega),if_pos rfl]; rfl)]
 simp only [Option.bind_some]
 rw [show ∀x:List Tpath_weighed,lkI [x] 0=some x from fun _=>rfl]
 simp only [Option.bind_some]
 have hl:=topC_len (wtN h seen) n k seen.length 0 0
 generalize topC (wtN h seen) n k seen.length 0 0=L at *
 rw [whileN_run (s0:=((0:Int),([]:List (List Int)),([]:List Int))) (fun j=>((j:Int),(L.take j).map (·.path),(L.take j).map (·.weight))) L.length (L.map (·.path),L.map (·.weight)) (by simp) ?_ ?_ (by omega)]
 ·rfl
 ·intro j hj
  unfold g_path_Most_b5
  simp only []
  rw [if_pos (by rw [decide_eq_true_eq]; omega),lkI_nat hj]
  simp only [Option.bind_some]
  rw [if_pos (by simp; omega),if_pos (by simp; omega),w64 (by omega),List.take_succ_eq_append_getElem hj,List.map_append,List.map_append]
  rfl
 ·unfold g_path_Most_b5
  simp only []
  rw [if_neg (by simp),List.take_length]
end
end Go.Ab
namespace Go.Ab
open Go
set_option maxRecDepth 100000
section
variable {h:Tapi_Hidden} {g n c:Nat} (v:VH h g n c) {seen:List Int} {T k:Nat} (w:VS c seen T) (hT:1≤T∧T≤8) (hk:1≤k∧k≤20)
include v w hT hk
end
end Go.Ab
namespace Go.Ab
open Go
set_option maxRecDepth 100000
section
variable {h:Tapi_Hidden} {g n c:Nat} (v:VH h g n c) {seen:List Int} {T:Nat} (w:VS c seen T) (hT:1≤T∧T≤8)
include v w hT
end
section
variable {h:Tapi_Hidden} {seen:List Int} {g n c:Nat} (a:Valid h seen g n c)
include a
end
end Go.Ab
namespace Go.Ab
open Go
set_option maxRecDepth 100000
theorem fI_get {q:List Nat} {j:Nat} (hj:j < q.length):lkI (fI q) (j:Int)=some ((q[j]:Nat):Int):=by
 rw [lkI_nat (by rw [fI_len]; exact hj)]; simp [fI]
section
variable {h:Tapi_Hidden} {seen:List Int} {g n c:Nat} (a:Valid h seen g n c)
include a
theorem Valid.weight {q:List Nat} (hl:q.length=seen.length) (hq:∀s∈q,s < n):g_path_Weight h seen (fI q)=some (((wP (wtN h seen) 0 0 q:Nat):Int),0):=by
 have hT:1≤seen.length∧seen.length≤8:=⟨a.t1,a.t8⟩
 have hn4:=a.v.n4
 have hn1:=a.v.n1
 have hB:=a.v.wtN_le (seen:=seen)
 unfold g_path_Weight
 rw [searcher_eq h seen a.ok (by omega),if_pos a.e,a.e]
 simp only [Option.bind_some]
 rw [if_neg (by simp),if_neg (by rw [fI_len,hl]; simp)]
 rw [whileN_eq (fun s=>∃(x r j:Nat),s=((x:Int),(r:Int),(j:Int))∧j≤q.length∧r < n∧x≤144^j∧x*wP (wtN h seen) j r (q.drop j)=wP (wtN h seen) 0 0 q)
  (fun s=>q.length - s.2.2.toNat) (Sum.inr ((wP (wtN h seen) 0 0 q:Nat):Int)) (fun s hs=>?_) (1,0,0) ⟨1,0,0,rfl,by omega,by omega,by simp,by simp⟩ (by simp; omega)]
 ·rfl
 ·obtain ⟨x,r,j,rfl,h1,h2,h3,h4⟩:=hs
  unfold g_path_Weight_b0
  simp only [fI_len]
  by_cases cj:j < q.length
  ·left
   have hs:=hq _ (List.getElem_mem cj)
   rw [if_pos (by rw [decide_eq_true_eq]; omega),fI_get cj]
   simp only [Option.bind_some]
   rw [if_neg (by simp),if_neg (by rw [a.v.firstL,decide_eq_true_eq]; omega),a.v.into a.w (by omega) h2 hs]
   simp only [Option.bind_some]
   rw [List.drop_eq_getElem_cons cj] at h4
   simp only [wP] at h4
   have hp:=pow144 (d:=j+1) (by omega)
   have hm:=Nat.mul_le_mul h3 (hB j r _ h2 hs)
   rw [Nat.pow_succ] at hp
   rw [←Int.natCast_mul,w64 (by omega),w64 (by omega)]
   refine ⟨_,rfl,⟨_,_,j+1,rfl,by omega,hs,by rw [Nat.pow_succ]; exact hm,by rw [Nat.mul_assoc]; exact h4⟩,?_⟩
   simp only []; omega
  ·right
   rw [if_neg (by rw [decide_eq_true_eq]; omega)]
   rw [List.drop_eq_nil_of_le (by omega)] at h4
   simp only [wP,Nat.mul_one] at h4
   rw [h4]
end
theorem places_fI (N:Nat) (hN:N≤1000) (l:List Int) (m:Nat) (hm:1≤m) (hl:∀x∈l,0≤x∧x≤255):∃q:List Nat,g_law18_places (N:Int) l (m:Int)=some (fI q)∧q.length=N∧∀s∈q,s < m:=by
 unfold g_law18_places
 refine Exists.elim (whileN_ex (body:=g_law18_places_b0 (N:Int) l (m:Int)) (fun s=>∃(k:Nat) (q:List Nat),k≤N∧s.1=(k:Int)∧s.2=fI q∧q.length=k∧∀x∈q,x < m) (fun s=>N - s.1.toNat) (fun r=>∃q:List Nat,r=fI q∧q.length=N∧∀x∈q,x < m) ?_ (0,[]) ⟨0,[],by omega,rfl,rfl,rfl,by simp⟩ (by simp; omega)) (fun r hr=>?_)
 ·rintro ⟨s,o⟩ ⟨k,q,hk,e,ho,hq,hx⟩
  simp only at e ho
  subst e; subst ho
  unfold g_law18_places_b0
  simp only []
  have app:∀y:Nat,fI q++[((y:Nat):Int)]=fI (q++[y]):=fun y=>by simp [fI]
  by_cases c:k < N
  ·rw [if_pos (by simp; omega)]
   by_cases cl:0 < l.length
   ·rw [if_pos (by simp; omega),if_pos (by omega)]
    have h1:0≤Int.tmod (k:Int) (l.length:Int):=Int.tmod_nonneg _ (by omega)
    have h2:Int.tmod (k:Int) (l.length:Int) < (l.length:Int):=Int.tmod_lt_of_pos _ (by omega)
    rw [lkI_at h1 h2]
    simp only [Option.bind_some]
    have hb:=hl _ (List.getElem_mem (show (Int.tmod (k:Int) (l.length:Int)).toNat < l.length by omega))
    generalize l[(Int.tmod (k:Int) (l.length:Int)).toNat]=b at *
    have t1:0≤Int.tmod b (m:Int):=Int.tmod_nonneg _ hb.1
    have t2:Int.tmod b (m:Int) < (m:Int):=Int.tmod_lt_of_pos _ (by omega)
    obtain ⟨y,hy⟩:∃y:Nat,Int.tmod b (m:Int)=(y:Int):=⟨(Int.tmod b (m:Int)).toNat,by omega⟩
    rw [if_pos (by omega),w64 (n:=b) (by omega),hy,if_pos (by simp [fI]; omega),w64 (by omega),app]
    refine .inl ⟨_,rfl,⟨k+1,q++[y],by omega,by simp,rfl,by simp [hq],fun z hz=>?_⟩,by simp only []; omega⟩
    rcases List.mem_append.1 hz with hz | hz
    ·exact hx z hz
    ·simp at hz; omega
   ·rw [if_neg (by rw [decide_eq_true_eq]; omega),if_pos (by simp [fI]; omega),w64 (by omega),show (0:Int)=((0:Nat):Int) from rfl,app]
    refine .inl ⟨_,rfl,⟨k+1,q++[0],by omega,by simp,rfl,by simp [hq],fun z hz=>?_⟩,by simp only []; omega⟩
    rcases List.mem_append.1 hz with hz | hz
    ·exact hx z hz
    ·simp at hz; omega
  ·rw [if_neg (by simp; omega)]
   exact .inr ⟨_,rfl,q,rfl,by omega,hx⟩
 ·obtain ⟨h1,q,rfl,h2,h3⟩:=hr
  rw [h1]; exact ⟨q,rfl,h2,h3⟩
section
variable {T:Type} {le:T→T→Bool} (O:OrdOk le)
include O
theorem top_out {k:Nat} {a:List T} {x:T} (hx:x∈a) (hn:x ∉ topL le k a):(topL le k a).length=k∧∀y∈topL le k a,le y x=true:=by
 have hx':x∈isort le a:=(isort_perm le a).mem_iff.2 hx
 have hs:=isort_sorted O.trans O.total a
 unfold topL at hn ⊢
 rw [←List.take_append_drop k (isort le a)] at hx' hs
 rw [List.pairwise_append] at hs
 rcases List.mem_append.1 hx' with h | h
 ·exact absurd h hn
 ·refine ⟨?_,fun y hy=>hs.2.2 y hy x h⟩
  rw [List.length_take]
  have:0 < ((isort le a).drop k).length:=List.length_pos_of_mem h
  rw [List.length_drop] at this
  omega
end
theorem top_nodup {T:Type} {le:T→T→Bool} {k:Nat} {a:List T} (h:a.Nodup):(topL le k a).Nodup :=
 ((isort_perm le a).nodup_iff.2 h).sublist (List.take_sublist _ _)
theorem allW_nodup (wt:Nat → Nat → Nat → Nat) (n:Nat):∀(d t r:Nat),(allW wt n d t r).Nodup
 | 0,_,_=>by simp [allW]
 | d+1,t,r=>by
  rw [allW]
  unfold List.Nodup
  rw [List.pairwise_flatMap]
  constructor
  ·intro s _
   split
   ·exact .nil
   ·rename_i hw
    rw [List.pairwise_map]
    refine (allW_nodup wt n d (t+1) s).imp fun {x y} hxy e=>hxy ?_
    unfold beh at e
    rw [Tpath_weighed.mk.injEq,List.cons.injEq] at e
    have:=Int.eq_of_mul_eq_mul_left (by omega) e.1
    cases x; cases y
    rw [Tpath_weighed.mk.injEq]
    exact ⟨this,e.2.2⟩
  ·refine List.Pairwise.imp ?_ (List.nodup_range (n:=n))
   intro s1 s2 hs x hx y hy e
   split at hx
   ·simp at hx
   split at hy
   ·simp at hy
   obtain ⟨x',_,rfl⟩:=List.mem_map.1 hx
   obtain ⟨y',_,rfl⟩:=List.mem_map.1 hy
   unfold beh at e
   rw [Tpath_weighed.mk.injEq,List.cons.injEq] at e
   exact hs (by omega)
theorem leW_strict {x y:Tpath_weighed} (h:leW x y=true) (hn:x≠y):y.weight < x.weight∨x.weight=y.weight∧lexC x.path y.path < 0:=by
 unfold leW at h
 simp only [Bool.or_eq_true,Bool.and_eq_true,decide_eq_true_eq,beq_iff_eq] at h
 rcases h with h | ⟨h1,h2⟩
 ·exact .inl h
 ·right
  refine ⟨h1,?_⟩
  rw [lexLe_iff] at h2
  rcases Int.lt_or_eq_of_le h2 with h3 | h3
  ·exact h3
  ·exfalso; apply hn
   have:=lexC_zero _ _ h3
   cases x; cases y; simp_all
def wsum:List Tpath_weighed→Int
 | []=>0
 | x::l=>x.weight+wsum l
theorem wsum_append (l m:List Tpath_weighed):wsum (l++m)=wsum l+wsum m:=by
 induction l with
 | nil=>simp [wsum]
 | cons x l ih=>simp only [List.cons_append,wsum,ih]; omega
theorem wsum_map (w s:Nat) (l:List Tpath_weighed):wsum (l.map (beh w s))=(w:Int)*wsum l:=by
 induction l with
 | nil=>simp [wsum]
 | cons x l ih=>simp only [List.map_cons,wsum,ih,beh]; rw [Int.mul_add]
theorem wsum_flat (f:Nat → List Tpath_weighed) (F:Nat → Nat):∀(n:Nat),(∀s,s < n→wsum (f s)=((F s:Nat):Int))→wsum ((List.range n).flatMap f)=((sumTo n F:Nat):Int)
 | 0,_=>rfl
 | n+1,h=>by
  rw [List.range_succ,List.flatMap_append,wsum_append,wsum_flat f F n fun s hs=>h s (by omega)]
  simp only [List.flatMap_cons,List.flatMap_nil,List.append_nil]
  rw [h n (by omega)]; simp only [sumTo]; omega
theorem len_flat (f:Nat → List Tpath_weighed) (F:Nat → Nat):∀(n:Nat),(∀s,s < n→(f s).length=F s)→((List.range n).flatMap f).length=sumTo n F
 | 0,_=>rfl
 | n+1,h=>by
  rw [List.range_succ,List.flatMap_append,List.length_append,len_flat f F n fun s hs=>h s (by omega)]
  simp only [List.flatMap_cons,List.flatMap_nil,List.append_nil]
  rw [h n (by omega)]; simp only [sumTo]
section
variable (h:Tapi_Hidden) (n:Nat) (seen:List Int) (T:Nat)
theorem wtN_succ (t r s:Nat):wtN h seen (t+1) r s=nat2 h.Step r s*shN h (seen.getD (t+1) 0) s:=by
 unfold wtN; rw [if_neg (by omega)]
theorem wtN_zero (r s:Nat):wtN h seen 0 r s=nat1 h.First s*shN h (seen.getD 0 0) s:=by
 unfold wtN; rw [if_pos rfl]
theorem allW_bw:∀(d t s:Nat),t+1+d=T→wsum (allW (wtN h seen) n d (t+1) s)=((bw h n seen T t s:Nat):Int)
 | 0,t,s,e=>by
  have:t=T - 1:=by omega
  rw [this,bw_last]; rfl
 | d+1,t,s,e=>by
  rw [allW,bw_step h n seen (by omega)]
  refine wsum_flat _ _ n fun r hr=>?_
  rw [wtN_succ]
  split
  ·rename_i c; rw [c,Nat.zero_mul]; rfl
  ·rw [wsum_map,allW_bw d (t+1) r (by omega),←Int.natCast_mul]
theorem allW_cw:∀(d t s:Nat),t+1+d=T→(allW (wtN h seen) n d (t+1) s).length=cw h n seen T t s
 | 0,t,s,e=>by
  have:t=T - 1:=by omega
  rw [this,cw_last]; rfl
 | d+1,t,s,e=>by
  rw [allW,cw_step h n seen (by omega)]
  refine len_flat _ _ n fun r hr=>?_
  rw [wtN_succ]
  split
  ·rfl
  ·rw [List.length_map,allW_cw d (t+1) r (by omega)]
theorem allW_len (hT:1≤T):(allW (wtN h seen) n T 0 0).length=cntN h n seen T:=by
 obtain ⟨d,hd⟩:∃d,T=d+1:=⟨T - 1,by omega⟩
 have key:=allW_cw h n seen T d 0
 rw [show allW (wtN h seen) n T 0 0=allW (wtN h seen) n (d+1) 0 0 by rw [hd],allW]
 unfold cntN
 refine len_flat _ _ n fun r hr=>?_
 rw [wtN_zero]
 split
 ·rfl
 ·rw [List.length_map,key r (by omega)]
end
end Go.Ab
namespace Go.Ab
open Go
set_option maxRecDepth 100000
theorem equalI_ex (l m:List Int) (hl:l.length≤100000):∃b,g_slices_Equal_int_int l m=some b∧(b=true↔l=m):=by
 unfold g_slices_Equal_int_int
 by_cases c:l.length=m.length
 ·rw [if_neg (by simp; omega)]
  obtain ⟨r,h1,h2⟩:=whileN_ex (body:=g_slices_Equal_int_int_b0 l m) (fun s=>∃i:Nat,s=(i:Int)∧i≤l.length∧l.take i=m.take i) (fun s=>l.length - s.toNat)
   (fun r=>match r with | .inl _=>l≠m | .inr _=>l=m) (fun s hs=>by
    obtain ⟨i,rfl,hi,he⟩:=hs
    unfold g_slices_Equal_int_int_b0
    by_cases ci:i < l.length
    ·rw [if_pos (by rw [decide_eq_true_eq]; omega),lkI_nat ci]
     simp only [Option.bind_some]
     rw [lkI_nat (by omega)]
     simp only [Option.bind_some]
     by_cases e:l[i]=m[i]'(by omega)
     ·rw [if_neg (by simpa using e),w64 (by omega)]
      exact .inl ⟨_,rfl,⟨i+1,rfl,by omega,by rw [List.take_succ_eq_append_getElem ci,List.take_succ_eq_append_getElem (show i < m.length by omega),he,e]⟩,by omega⟩
     ·rw [if_pos (by simpa using e)]
      refine .inr ⟨_,rfl,fun hlm=>e ?_⟩
      subst hlm; rfl
    ·rw [if_neg (by rw [decide_eq_true_eq]; omega)]
     refine .inr ⟨_,rfl,?_⟩
     simp only []
     rw [List.take_of_length_le (by omega),List.take_of_length_le (by omega)] at he
     exact he) 0 ⟨0,rfl,by omega,by simp⟩ (by simp; omega)
  rw [h1]
  simp only [Option.bind_some]
  cases r with
  | inl u=>exact ⟨false,rfl,by simp only at h2; simp [h2]⟩
  | inr u=>exact ⟨true,rfl,by simp only at h2; simp [h2]⟩
 ·rw [if_pos (by simp; omega)]
  exact ⟨false,rfl,by simp; intro e; rw [e] at c; exact c rfl⟩
theorem listed_true (p0:Tharuspexref17_Draft) (p1:Int) (p2:List Int) (h0:okTharuspexref17_Draft p0) (h1:(Lit.int .u8 p1).wf=true) (h2:p2.length≤maxLen∧∀y0∈p2,(Lit.int .u8 y0).wf=true):g_law18_PathListed p0 p1 p2=some true:=by
 obtain ⟨h,seen,g,n,c,e1,e2,a⟩:=draft_valid p0 h0
 have hT:1≤seen.length∧seen.length≤8:=⟨a.t1,a.t8⟩
 have hn1:=a.v.n1
 have hn4:=a.v.n4
 have hB:=a.v.wtN_le (seen:=seen)
 have hp1:=wf_u8 h1
 have t1:0≤Int.tmod p1 20:=Int.tmod_nonneg _ hp1.1
 have t2:Int.tmod p1 20 < 20:=Int.tmod_lt_of_pos _ (by omega)
 obtain ⟨m,hm,hm1⟩:∃m:Nat,IntKind.i64.wrap (1+(IntKind.i64.wrap (Int.tmod p1 20)))=(m:Int)∧(1≤m∧m≤20):=by
  rw [w64 (n:=Int.tmod p1 20) (by omega),w64 (by omega)]
  exact ⟨(1+Int.tmod p1 20).toNat,by omega,by omega⟩
 have hcn:(cntN h n seen seen.length:Int)≤1000000000:=by
  have:cntN h n seen seen.length≤n*65536:=by
   unfold cntN
   refine sumTo_lim fun s _=>?_
   split
   ·omega
   ·exact cw_le h hn4 seen hT.2 s
  have:=Nat.le_trans this (Nat.mul_le_mul_right 65536 hn4)
  omega
 unfold g_law18_PathListed
 rw [wakes18_true]; simp only [Option.bind_some]
 rw [if_neg (by simp),e1]; simp only [Option.bind_some]
 rw [e2]; simp only [Option.bind_some]
 rw [hm,a.most hm1]; simp only [Option.bind_some]
 rw [a.v.count_eq a.w hT a.ok a.e a.t8]; simp only [Option.bind_some]
 have hlen:=allW_len h n seen seen.length hT.1
 have hL1:(topC (wtN h seen) n m seen.length 0 0).length=min m (cntN h n seen seen.length):=by unfold topC; rw [top_len,hlen]
 have hL2:∀x∈topC (wtN h seen) n m seen.length 0 0,1≤x.weight∧x.path.length≤100∧g_path_Weight h seen x.path=some (x.weight,0):=fun x hx=>by
  obtain ⟨b1,b2,b3,q,b4,b5,b6,rfl⟩:=topC_mem hB (show 0 < n by omega) hx
  exact ⟨b1,by omega,a.weight b4 b5⟩
 have hnd:(topC (wtN h seen) n m seen.length 0 0).Nodup:=top_nodup (allW_nodup (wtN h seen) n seen.length 0 0)
 have hso:(topC (wtN h seen) n m seen.length 0 0).Pairwise (fun x y=>leW x y=true):=top_sorted leW_ok m _
 have hout:∀x∈allW (wtN h seen) n seen.length 0 0,x ∉ topC (wtN h seen) n m seen.length 0 0→(topC (wtN h seen) n m seen.length 0 0).length=m∧∀y∈topC (wtN h seen) n m seen.length 0 0,leW y x=true:=fun x hx hn=>top_out leW_ok hx hn
 generalize topC (wtN h seen) n m seen.length 0 0=L at *
 rw [if_neg (by simp),if_neg (by simp),if_neg (by simp),if_neg (by
  simp only [List.length_map,bne_iff_ne,ne_eq,Decidable.not_not]
  split <;> omega)]
 rw [whileN_run (s0:=(0:Int)) (fun j=>(j:Int)) L.length (Sum.inr ()) rfl ?_ ?_ (by omega)]
 ·simp only [Option.bind_some]
  obtain ⟨q,hq1,hq2,hq3⟩:=places_fI seen.length (by omega) p2 n (by omega) (fun x hx=>wf_u8 (h2.2 x hx))
  rw [a.v.firstL,hq1]; simp only [Option.bind_some]
  rw [a.weight hq2 hq3]; simp only [Option.bind_some]
  rw [if_neg (by simp)]
  by_cases hw:wP (wtN h seen) 0 0 q=0
  ·rw [hw,if_pos (by simp)]
  ·rw [if_neg (by rw [beq_iff_eq]; omega)]
   obtain ⟨r,hr1,hr2⟩:=whileN_ex (body:=g_law18_PathListed_b1 (L.map (·.path),L.map (·.weight),0) (fI q)) (fun s=>∃i:Nat,s=(i:Int)∧i≤L.length∧∀j (hj:j < L.length),j < i→L[j].path≠fI q) (fun s=>L.length - s.toNat)
    (fun r=>match r with | .inl s=>0≤s | .inr _=>∀x∈L,x.path≠fI q) (fun s hs=>by
     obtain ⟨i,rfl,hi,he⟩:=hs
     unfold g_law18_PathListed_b1
     simp only [List.length_map]
     by_cases ci:i < L.length
     ·rw [if_pos (by rw [decide_eq_true_eq]; omega),lkI_nat (by rw [List.length_map]; exact ci)]
      simp only [Option.bind_some,List.getElem_map]
      obtain ⟨b,hb1,hb2⟩:=equalI_ex L[i].path (fI q) (by have:=(hL2 _ (List.getElem_mem ci)).2.1; omega)
      rw [hb1]; simp only [Option.bind_some]
      cases b with
      | true=>rw [if_pos rfl]; exact .inr ⟨_,rfl,by simp only []; omega⟩
      | false =>
       rw [if_neg (by simp),w64 (by omega)]
       refine .inl ⟨_,rfl,⟨i+1,rfl,by omega,fun j hj hji=>?_⟩,by omega⟩
       by_cases e:j=i
       ·subst e; intro e2; exact absurd (hb2.2 e2) (by simp)
       ·exact he j hj (by omega)
     ·rw [if_neg (by rw [decide_eq_true_eq]; omega)]
      refine .inr ⟨_,rfl,?_⟩
      simp only []
      intro x hx
      obtain ⟨j,hj,rfl⟩:=List.getElem_of_mem hx
      exact he j hj (by omega)) 0 ⟨0,rfl,by omega,fun j _ hj=>by omega⟩ (by simp; omega)
   rw [hr1]; simp only [Option.bind_some]
   cases r with
   | inl s =>
    simp only at hr2 ⊢
    rw [if_pos (by simpa using hr2)]
   | inr u =>
    simp only at hr2 ⊢
    have hx:(⟨(wP (wtN h seen) 0 0 q:Nat),fI q⟩:Tpath_weighed)∈allW (wtN h seen) n seen.length 0 0:=allW_mem.2 ⟨q,hq2,hq3,hw,rfl⟩
    have hni:(⟨(wP (wtN h seen) 0 0 q:Nat),fI q⟩:Tpath_weighed) ∉ L:=fun hin=>hr2 _ hin rfl
    obtain ⟨ho1,ho2⟩:=hout _ hx hni
    have hlast:L.length - 1 < L.length:=by omega
    have hst:=leW_strict (ho2 _ (List.getElem_mem hlast)) (fun e=>hni (by rw [←e]; exact List.getElem_mem hlast))
    obtain ⟨b1,b2,_⟩:=hL2 _ (List.getElem_mem hlast)
    simp only [List.length_map]
    rw [if_pos (by rw [beq_iff_eq]; omega),show IntKind.i64.wrap ((L.length:Int) - 1)=((L.length - 1:Nat):Int) by rw [w64 (by omega)]; omega,lkI_nat (by rw [List.length_map]; exact hlast)]
    simp only [Option.bind_some,List.getElem_map]
    simp only at hst
    by_cases c1:((wP (wtN h seen) 0 0 q:Nat):Int) < (L[L.length - 1]).weight
    ·rw [if_pos (by rw [decide_eq_true_eq]; exact c1)]
    ·rw [if_neg (by rw [decide_eq_true_eq]; exact c1)]
     have hst2:=hst.resolve_left c1
     rw [if_pos (by rw [beq_iff_eq]; omega),lkI_nat (by rw [List.length_map]; exact hlast)]
     simp only [Option.bind_some,List.getElem_map]
     rw [compareL_eq _ _ (by omega)]
     simp only [Option.bind_some]
     rw [decide_eq_true hst2.2]
 ·intro j hj
  obtain ⟨b1,b2,b3⟩:=hL2 _ (List.getElem_mem hj)
  unfold g_law18_PathListed_b0
  simp only [List.length_map]
  rw [if_pos (by rw [decide_eq_true_eq]; omega),lkI_nat (by rw [List.length_map]; exact hj)]
  simp only [Option.bind_some,List.getElem_map]
  rw [b3]; simp only [Option.bind_some]
  rw [if_neg (by simp),lkI_nat (by rw [List.length_map]; exact hj)]
  simp only [Option.bind_some,List.getElem_map]
  rw [if_neg (by simp),if_neg (by rw [decide_eq_true_eq]; omega)]
  by_cases j0:j=0
  ·rw [if_neg (by rw [decide_eq_true_eq]; omega),w64 (by omega)]; rfl
  ·have hj1:j - 1 < L.length:=by omega
   have hle:=List.pairwise_iff_getElem.1 hso (j - 1) j hj1 hj (by omega)
   have hne:=List.pairwise_iff_getElem.1 hnd (j - 1) j hj1 hj (by omega)
   have hst:=leW_strict hle hne
   obtain ⟨d1,d2,_⟩:=hL2 _ (List.getElem_mem hj1)
   rw [if_pos (by rw [decide_eq_true_eq]; omega),show IntKind.i64.wrap ((j:Int) - 1)=((j - 1:Nat):Int) by rw [w64 (by omega)]; omega,lkI_nat (by rw [List.length_map]; exact hj1)]
   simp only [Option.bind_some,List.getElem_map]
   rw [if_neg (by rw [decide_eq_true_eq]; omega)]
   by_cases c1:(L[j - 1]).weight=(L[j]).weight
   ·have hst2:=hst.resolve_left (by omega)
    rw [if_pos (by rw [beq_iff_eq]; exact c1),lkI_nat (by rw [List.length_map]; exact hj1)]
    simp only [Option.bind_some,List.getElem_map]
    rw [compareL_eq _ _ (by omega)]
    simp only [Option.bind_some]
    rw [if_neg (by rw [decide_eq_true_eq]; omega),w64 (by omega)]; rfl
   ·rw [if_neg (by rw [beq_iff_eq]; exact c1),w64 (by omega)]; rfl
 ·unfold g_law18_PathListed_b0
  simp only [List.length_map]
  rw [if_neg (by simp)]
end Go.Ab
