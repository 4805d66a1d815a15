/- What functions compute. No conditions. -/
import Derived.Test.YtokcpkcoahlkjaaW12
import Derived.Test.YtokcpkcoahlkjaaW8
import Derived.Test.YtokcpkcoahlkjaaW13
set_option linter.all false
namespace Go.Ab
open Go
set_option maxRecDepth 100000
theorem dval_split {l:List Int} {k:Nat} (hk:k≤l.length):dval l=dval (l.take k)+10000^k*dval (l.drop k):=by
 conv=>lhs; rw [←List.take_append_drop k l,dval_append]
 rw [List.length_take,Nat.min_eq_left hk]
theorem natAbs_cases (m:Int):m=(m.natAbs:Int)∨m=-(m.natAbs:Int):=by omega
theorem absmod (m:Int) (h:-9223372036854775808≤m∧m≤9223372036854775807):(if IntKind.i64.wrap (0 - Int.tmod m 10000) > Int.tmod m 10000 then IntKind.i64.wrap (0 - Int.tmod m 10000) else Int.tmod m 10000)=((m.natAbs % 10000:Nat):Int):=by
 rcases natAbs_cases m with hm | hm
 ·have e:Int.tmod m 10000=((m.natAbs % 10000:Nat):Int):=by rw [tmod_pos (by omega)]; omega
  rw [e,w64 (by omega),if_neg (by omega)]
 ·have e:Int.tmod m 10000=-((m.natAbs % 10000:Nat):Int):=by
   conv=>lhs; rw [hm,Int.neg_tmod,tmod_pos (by omega)]
   omega
  rw [e,w64 (by omega)]
  split <;> omega
theorem absdiv (m:Int) (h:-9223372036854775808≤m∧m≤9223372036854775807):IntKind.i64.wrap (Int.tdiv m 10000)=Int.tdiv m 10000∧(Int.tdiv m 10000).natAbs=m.natAbs / 10000:=by
 rcases natAbs_cases m with hm | hm
 ·have e:Int.tdiv m 10000=((m.natAbs / 10000:Nat):Int):=by rw [tdiv_pos (by omega)]; omega
  rw [e,w64 (by omega)]; omega
 ·have e:Int.tdiv m 10000=-((m.natAbs / 10000:Nat):Int):=by
   conv=>lhs; rw [hm,Int.neg_tdiv,tdiv_pos (by omega)]
   omega
  rw [e,w64 (by omega)]; omega
theorem digits_eq (p:Int) (h:-9223372036854775808≤p∧p≤9223372036854775807):g_ref01_digits p=some (dgs p.natAbs):=by
 unfold g_ref01_digits
 have hlen:(dgs p.natAbs).length≤5:=dgs_length_le (by omega)
 rw [whileN_eq (fun s=>s.2++dgs s.1.natAbs=dgs p.natAbs∧-9223372036854775808≤s.1∧s.1≤9223372036854775807) (fun s=>(dgs s.1.natAbs).length) (dgs p.natAbs) ?_ (p,[]) ⟨by simp,h⟩ (by simp only []; omega)]
 ·rfl
 ·rintro ⟨m,out⟩ ⟨h1,h2,h3⟩
  simp only at h1 h2 h3
  by_cases hm:m=0
  ·subst hm
   rw [Int.natAbs_zero,dgs_zero,List.append_nil] at h1
   exact .inr (by simp [g_ref01_digits_b0,h1])
  ·refine .inl ⟨(Int.tdiv m 10000,out++[((m.natAbs % 10000:Nat):Int)]),?_,?_,?_⟩
   ·unfold g_ref01_digits_b0
    simp only
    rw [if_pos (by simpa using hm),absmod m ⟨h2,h3⟩,(absdiv m ⟨h2,h3⟩).1,if_pos]
    have:=congrArg List.length h1
    simp only [List.length_append,List.length_cons,List.length_nil] at this ⊢
    omega
   ·simp only
    refine ⟨?_,?_⟩
    ·rw [(absdiv m ⟨h2,h3⟩).2,List.append_assoc,←h1,dgs_pos (n:=m.natAbs) (by omega)]; rfl
    ·have:=(absdiv m ⟨h2,h3⟩).2; omega
   ·simp only
    rw [(absdiv m ⟨h2,h3⟩).2,dgs_pos (n:=m.natAbs) (by omega)]; simp
theorem pow_le {i j:Nat} (h:i≤j):10000^i≤10000^j:=Nat.pow_le_pow_right (by omega) h
theorem dval_lt_of {x y:List Int} {j:Nat} (hx:isdg x) (hy:isdg y) (hl:x.length=y.length) (hj:j < x.length) (hd:x.drop (j+1)=y.drop (j+1)) (hlt:x[j] < y[j]'(by omega)):dval x < dval y:=by
 rw [dval_split (l:=x) (k:=j) (by omega),dval_split (l:=y) (k:=j) (by omega),dval_drop hj,dval_drop (l:=y) (k:=j) (by omega),hd]
 have h1:=dval_lt (isdg_take hx j)
 rw [List.length_take,Nat.min_eq_left (by omega)] at h1
 have h2:=isdg_get hx hj
 have h3:=isdg_get hy (k:=j) (by omega)
 have h4:x[j].toNat + 1≤(y[j]'(by omega)).toNat := by omega
 have h5:10000^j*(x[j].toNat + 10000*dval (y.drop (j+1))+1)≤10000^j*((y[j]'(by omega)).toNat + 10000*dval (y.drop (j+1))):=Nat.mul_le_mul_left _ (by omega)
 rw [Nat.mul_add (10000^j) _ 1] at h5
 omega
def cmpN (a b:Nat):Int:=if a < b then -1 else if a=b then 0 else 1
theorem dgs_inj {a b:Nat} (h:dgs a=dgs b):a=b:=by
 have:=congrArg dval h
 rwa [dval_dgs,dval_dgs] at this
theorem len_lt {a b:Nat} (h:(dgs a).length < (dgs b).length):a < b:=by
 have h1:=lt_dgs a
 have h2:=dgs_le (n:=b) (by intro h0; rw [h0,dgs_zero] at h; simp at h)
 have:=pow_le (i:=(dgs a).length) (j:=(dgs b).length - 1) (by omega)
 omega
theorem compare_eq (a b:Nat) (ha:(dgs a).length≤1000000) (hb:(dgs b).length≤1000000):g_ref01_compare (dgs a) (dgs b)=some (cmpN a b):=by
 unfold g_ref01_compare cmpN
 by_cases hl:(dgs a).length=(dgs b).length
 ·rw [if_neg (by simp [hl])]
  have key:=whileN_ex (body:=g_ref01_compare_b0 (dgs a) (dgs b)) (fun s=>∃k:Nat,s=(k:Int) - 1∧k≤(dgs a).length∧(dgs a).drop k=(dgs b).drop k) (fun s=>(s+1).toNat)
   (fun r=>(match r with | .inl x=>some x | .inr _=>some (0:Int))=some (if a < b then (-1:Int) else if a=b then 0 else 1)) ?_
   (IntKind.i64.wrap (((dgs a).length:Int) - 1)) ⟨(dgs a).length,by rw [w64 (by omega)],Nat.le_refl _,by rw [List.drop_length,hl,List.drop_length]⟩ (by rw [w64 (by omega)]; omega)
  ·obtain ⟨r,h1,h2⟩:=key
   rw [h1]
   exact h2
  ·rintro s ⟨k,rfl,hk,hd⟩
   cases k with
   | zero =>
    right
    refine ⟨.inr (),by simp [g_ref01_compare_b0],?_⟩
    simp only [List.drop_zero] at hd
    have:=dgs_inj hd
    subst this
    simp
   | succ k =>
    have e:((k+1:Nat):Int) - 1=(k:Int):=by omega
    rw [e]
    have hka:k < (dgs a).length:=by omega
    have hkb:k < (dgs b).length:=by omega
    unfold g_ref01_compare_b0
    rw [if_pos (by simp),lkI_nat hka,lkI_nat hkb]
    simp only [Option.bind_some]
    by_cases hne:(dgs a)[k]=(dgs b)[k]
    ·left
     refine ⟨(k:Int) - 1,?_,⟨k,rfl,by omega,?_⟩,by omega⟩
     ·rw [if_neg (by simp [hne]),w64 (by omega)]
     ·rw [List.drop_eq_getElem_cons hka,List.drop_eq_getElem_cons hkb,hne,hd]
    ·right
     rw [if_pos (by simp [hne])]
     by_cases hlt:(dgs a)[k] < (dgs b)[k]
     ·refine ⟨.inl (-1),by simp [hlt],?_⟩
      have:=dval_lt_of (isdg_dgs a) (isdg_dgs b) hl hka hd hlt
      rw [dval_dgs,dval_dgs] at this
      simp [this]
     ·refine ⟨.inl 1,by simp [hlt],?_⟩
      have:=dval_lt_of (isdg_dgs b) (isdg_dgs a) hl.symm hkb hd.symm (by omega)
      rw [dval_dgs,dval_dgs] at this
      simp only [Option.some.injEq]
      rw [if_neg (by omega),if_neg (by omega)]
 ·rw [if_pos (by simp; omega)]
  by_cases hlt:(dgs a).length < (dgs b).length
  ·have:=len_lt hlt
   simp [hlt,this]
  ·have:=len_lt (a:=b) (b:=a) (by omega)
   rw [if_neg (by simp; omega),if_neg (by omega),if_neg (by omega)]
theorem sub_take {l:List Int} {k:Nat}:sub l 0 (k:Int)=l.take k:=by simp [sub]
theorem cut_eq (l:List Int) (h:isdg l) (hl:l.length≤1000000):g_ref01_cut l=some (dgs (dval l)):=by
 unfold g_ref01_cut
 rw [whileN_eq (fun s=>isdg s∧dval s=dval l∧s.length≤1000000) (fun s=>s.length) (dgs (dval l)) ?_ l ⟨h,rfl,hl⟩ (by omega)]
 ·rfl
 ·rintro s ⟨h1,h2,h3⟩
  unfold g_ref01_cut_b0
  by_cases hs:s.length=0
  ·right
   rw [if_neg (by simp [hs])]
   have:s=[]:=List.length_eq_zero_iff.1 hs
   subst this
   rw [←h2]; simp [dval,dgs_zero]
  ·obtain ⟨k,hk⟩:∃k,s.length=k+1:=⟨s.length - 1,by omega⟩
   rw [if_pos (by simp; omega),w64 (by omega),show (s.length:Int) - 1=(k:Int) by omega,lkI_nat (by omega)]
   simp only [Option.bind_some]
   by_cases h0:s[k]=0
   ·left
    refine ⟨s.take k,?_,⟨isdg_take h1 k,?_,by simp; omega⟩,by simp; omega⟩
    ·rw [if_pos (by simp [h0]),if_pos (by omega),sub_take]
    ·rw [←h2,dval_split (l:=s) (k:=k) (by omega),dval_drop (by omega),h0,List.drop_of_length_le (by omega)]; simp [dval]
   ·right
    rw [if_neg (by simp [h0])]
    have hn:nolz s:=by
     unfold nolz
     rw [List.getLast?_eq_getElem?,hk,Nat.add_sub_cancel,List.getElem?_eq_getElem (by omega)]
     simpa using h0
    rw [←h2,dgs_of h1 hn]
theorem dval_drop_pos {l:List Int} (h:isdg l) (hn:nolz l) {k:Nat} (hk:k < l.length):0 < dval (l.drop k):=by
 have h1:nolz (l.drop k):=by
  unfold nolz at *
  rwa [List.getLast?_drop,if_neg (by omega)]
 have h2:=dgs_of (isdg_drop h k) h1
 rcases Nat.eq_zero_or_pos (dval (l.drop k)) with h0 | h0
 ·rw [h0,dgs_zero] at h2
  have:=congrArg List.length h2
  simp at this; omega
 ·exact h0
theorem dval_drop_ge {l:List Int} {k:Nat} (hk:l.length≤k):dval (l.drop k)=0:=by rw [List.drop_of_length_le hk]; rfl
def dat (l:List Int) (k:Nat):Int:=l.getD k 0
theorem dat_lt {l:List Int} {k:Nat} (h:k < l.length):dat l k=l[k]:=by simp [dat,h]
theorem dat_ge {l:List Int} {k:Nat} (h:l.length≤k):dat l k=0:=by simp [dat,h]
theorem dat_dg {l:List Int} (h:isdg l) (k:Nat):0≤dat l k∧dat l k < 10000:=by
 rcases Nat.lt_or_ge k l.length with hk | hk
 ·rw [dat_lt hk]; exact isdg_get h hk
 ·rw [dat_ge hk]; omega
theorem dval_dat (l:List Int) (k:Nat):dval (l.drop k)=(dat l k).toNat + 10000*dval (l.drop (k+1)):=by
 rcases Nat.lt_or_ge k l.length with hk | hk
 ·rw [dat_lt hk]; exact dval_drop hk
 ·rw [dval_drop_ge hk,dval_drop_ge (by omega),dat_ge hk]; rfl
theorem dval_snoc (l:List Int) (x:Int):dval (l++[x])=dval l+10000^l.length*x.toNat := by rw [dval_append]; simp [dval]
theorem minus_eq (a b:Nat) (hab:b≤a) (ha:(dgs a).length≤1000000):g_ref01_minus (dgs a) (dgs b)=some (dgs (a - b)):=by
 unfold g_ref01_minus
 have hlb:(dgs b).length≤(dgs a).length:=by
  rcases Nat.lt_or_ge (dgs a).length (dgs b).length with h | h
  ·have:=len_lt h; omega
  ·exact h
 obtain ⟨M,hM⟩:∃M:Nat,M=2000005:=⟨_,rfl⟩
 obtain ⟨out,h1,h2,h3,h4⟩:∃out,whileN fuel (g_ref01_minus_b0 (dgs a) (dgs b)) (0,0,[])=some out∧isdg out∧out.length≤1000000∧dval out=a - b:=by
  refine whileN_ex (fun s=>∃i c:Nat,s.2.1=(i:Int)∧s.1=(c:Int)∧c≤1∧i≤(dgs a).length∧s.2.2.length=i∧isdg s.2.2∧dval s.2.2+dval ((dgs b).take i)=dval ((dgs a).take i)+10000^i*c) (fun s=>M - s.2.1.toNat) _ ?_ (0,0,[])
   ⟨0,0,rfl,rfl,by omega,by omega,rfl,isdg_nil,by simp [dval]⟩ (by simp only; omega)
  rintro ⟨c0,i0,out⟩ ⟨i,c,h1,h2,hc,hi,ho,hd,hv⟩
  simp only at h1 h2 ho hd hv
  subst h1; subst h2
  unfold g_ref01_minus_b0
  simp only
  by_cases h1:i < (dgs a).length
  ·left
   have xa:=isdg_get (isdg_dgs a) h1
   have xb:=dat_dg (isdg_dgs b) i
   have tb:dval ((dgs b).take (i+1))=dval ((dgs b).take i)+10000^i*(dat (dgs b) i).toNat := by
    rcases Nat.lt_or_ge i (dgs b).length with h | h
    ·rw [dval_take_succ h,dat_lt h]
    ·rw [dat_ge h,List.take_of_length_le (by omega),List.take_of_length_le (by omega)]; simp
   have round:∀d:Int,∀c':Nat,d=(dgs a)[i] - c - dat (dgs b) i+10000*c'→0≤d→d < 10000→c'≤1→∃j e:Nat,((i:Int)+1)=(j:Int)∧(c':Int)=(e:Int)∧e≤1∧j≤(dgs a).length∧(out++[d]).length=j∧isdg (out++[d]) ∧
     dval (out++[d])+dval ((dgs b).take j)=dval ((dgs a).take j)+10000^j*e:=by
    intro d c' hd' h0 h9 hc'
    refine ⟨i+1,c',by omega,rfl,hc',h1,by simp [ho],?_,?_⟩
    ·rw [isdg_append]; exact ⟨hd,isdg_cons.2 ⟨⟨h0,h9⟩,isdg_nil⟩⟩
    ·rw [dval_snoc,ho,tb,dval_take_succ h1,Nat.pow_succ]
     have e1:d.toNat + (dat (dgs b) i).toNat + c=(dgs a)[i].toNat + 10000*c':=by omega
     have e2:10000^i*(d.toNat + (dat (dgs b) i).toNat + c)=10000^i*((dgs a)[i].toNat + 10000*c'):=by rw [e1]
     rw [Nat.mul_add,Nat.mul_add,Nat.mul_add,←Nat.mul_assoc] at e2
     omega
   rw [if_pos (by simp [h1]),lkI_nat h1]
   simp only [Option.bind_some]
   by_cases h2:i < (dgs b).length
   ·rw [if_pos (by simp [h2]),lkI_nat h2]
    simp only [Option.bind_some]
    rw [dat_lt h2] at xb round
    have hw:IntKind.i64.wrap (IntKind.i64.wrap ((dgs a)[i] - (c:Int)) - (dgs b)[i])=(dgs a)[i] - c - (dgs b)[i]:=by rw [w64 (n:=(dgs a)[i] - (c:Int)) (by omega),w64 (by omega)]
    rw [hw,w64 (n:=(i:Int)+1) (by omega)]
    by_cases h3:(dgs a)[i] - c - (dgs b)[i] < 0
    ·rw [if_pos (by simp [h3]),w64 (by omega),if_pos (by simp; omega)]
     exact ⟨_,rfl,round _ 1 (by omega) (by omega) (by omega) (by omega),by simp only; omega⟩
    ·rw [if_neg (by simpa using h3),if_pos (by simp; omega)]
     exact ⟨_,rfl,round _ 0 (by omega) (by omega) (by omega) (by omega),by simp only; omega⟩
   ·rw [if_neg (by simp; omega)]
    rw [dat_ge (by omega)] at xb round
    rw [w64 (n:=(dgs a)[i] - (c:Int)) (by omega),w64 (n:=(i:Int)+1) (by omega)]
    by_cases h3:(dgs a)[i] - (c:Int) < 0
    ·rw [if_pos (by simp [h3]),w64 (by omega),if_pos (by simp; omega)]
     exact ⟨_,rfl,round _ 1 (by omega) (by omega) (by omega) (by omega),by simp only; omega⟩
    ·rw [if_neg (by simpa using h3),if_pos (by simp; omega)]
     exact ⟨_,rfl,round _ 0 (by omega) (by omega) (by omega) (by omega),by simp only; omega⟩
  ·right
   rw [if_neg (by simp; omega)]
   have:i=(dgs a).length:=by omega
   subst this
   rw [List.take_length,List.take_of_length_le hlb,dval_dgs,dval_dgs] at hv
   have h5:=dval_lt hd
   rw [ho] at h5
   refine ⟨out,rfl,hd,by omega,?_⟩
   rcases Nat.eq_zero_or_pos c with h | h
   ·subst h; omega
   ·have:c=1:=by omega
    subst this
    omega
 rw [h1]
 simp only [Option.bind_some]
 rw [cut_eq out h2 h3,h4]
 rfl
theorem dval_set {l:List Int} {k:Nat} (hk:k < l.length) {x:Int} (hx:0≤x) (h0:0≤l[k]):dval (l.set k x)+10000^k*l[k].toNat = dval l+10000^k*x.toNat := by
 induction l generalizing k with
 | nil=>simp at hk
 | cons y l ih =>
  cases k with
  | zero=>simp only [List.set_cons_zero,dval,List.getElem_cons_zero,Nat.pow_zero]; omega
  | succ k =>
   simp only [List.set_cons_succ,dval,List.getElem_cons_succ,Nat.pow_succ] at *
   have:=ih (by simpa using hk) h0
   have e:∀z,10000^k*10000*z=10000*(10000^k*z):=fun z=>by rw [Nat.mul_comm (10000^k),Nat.mul_assoc]
   rw [e,e]
   omega
theorem isdg_set {l:List Int} (h:isdg l) {k:Nat} {x:Int} (hx:0≤x∧x < 10000):isdg (l.set k x):=by
 intro y hy
 rcases List.mem_or_eq_of_mem_set hy with h1 | h1
 ·exact h y h1
 ·subst h1; exact hx
theorem isdg_replicate (n:Nat):isdg (List.replicate n (0:Int)):=fun x hx=>by
 rw [List.mem_replicate] at hx
 omega
theorem dval_replicate (n:Nat):dval (List.replicate n (0:Int))=0:=by
 induction n with
 | zero=>rfl
 | succ n ih=>simp [List.replicate_succ,dval,ih]
theorem times_eq (x y:List Int) (hx:isdg x) (hy:∀z∈y,0≤z∧z≤10000) (hyv:dval y≤10000^y.length) (lx:x.length≤10000) (ly:y.length≤10000):g_ref01_times x y=some (dgs (dval x*dval y)):=by
 unfold g_ref01_times
 obtain ⟨M,hM⟩:∃M:Nat,M=2000005:=⟨_,rfl⟩
 have hw:IntKind.i64.wrap ((x.length:Int)+(y.length:Int))=((x.length+y.length:Nat):Int):=by rw [w64 (by omega)]; omega
 rw [hw,if_pos (by omega),Int.toNat_natCast]
 obtain ⟨out,h1,h2,h3,h4⟩:∃out,whileN fuel (g_ref01_times_b1 x y) (0,List.replicate (x.length+y.length) 0)=some out∧isdg out∧out.length=x.length+y.length∧dval out=dval x*dval y:=by
  refine whileN_ex (fun s=>∃i:Nat,s.1=(i:Int)∧i≤x.length∧s.2.length=x.length+y.length∧isdg s.2∧dval s.2=dval (x.take i)*dval y) (fun s=>M - s.1.toNat) _ ?_ (0,List.replicate (x.length+y.length) 0)
   ⟨0,rfl,by omega,by simp,isdg_replicate _,by simp [dval,dval_replicate]⟩ (by simp only; omega)
  rintro ⟨i0,o⟩ ⟨i,h1,hi,ho,hd,hv⟩
  simp only at h1 ho hd hv
  subst h1
  unfold g_ref01_times_b1
  simp only
  by_cases h1:i < x.length
  ·left
   rw [if_pos (by simp [h1])]
   have xi:=isdg_get hx h1
   have tot:dval (x.take (i+1))*dval y < 10000^(i+1+y.length):=by
    have a1:=dval_lt (isdg_take hx (i+1))
    rw [List.length_take,Nat.min_eq_left (by omega)] at a1
    have a2:(dval (x.take (i+1))+1)*dval y≤10000^(i+1)*10000^y.length:=Nat.mul_le_mul a1 hyv
    rw [←Nat.pow_add,Nat.add_mul] at a2
    rcases Nat.eq_zero_or_pos (dval y) with h | h
    ·rw [h,Nat.mul_zero]; exact Nat.pow_pos (by omega)
    ·omega
   obtain ⟨o',e1,e2,e3,e4⟩:∃o',whileN fuel (g_ref01_times_b0 y ((i:Int),o) x) (0,0,o)=some o'∧isdg o'∧o'.length=x.length+y.length∧dval o'=dval (x.take (i+1))*dval y:=by
    refine whileN_ex (fun s=>∃k c:Nat,s.2.1=(k:Int)∧s.1=(c:Int)∧c≤10000∧i+k≤x.length+y.length∧s.2.2.length=x.length+y.length∧isdg s.2.2∧dval s.2.2+10000^(i+k)*c=dval o+10000^i*(x[i].toNat * dval (y.take k))) (fun s=>M - s.2.1.toNat) _ ?_ (0,0,o)
     ⟨0,0,rfl,rfl,by omega,by omega,ho,hd,by simp [dval]⟩ (by simp only; omega)
    rintro ⟨c0,k0,o2⟩ ⟨k,c,g1,g2,gc,gk,go,gd,gv⟩
    simp only at g1 g2 go gd gv
    subst g1; subst g2
    have full:y.length≤k→dval o+10000^i*(x[i].toNat * dval (y.take k))=dval (x.take (i+1))*dval y:=fun h=>by
     rw [List.take_of_length_le h,hv,dval_take_succ h1,Nat.add_mul,Nat.mul_assoc]
    unfold g_ref01_times_b0
    simp only
    have hik:IntKind.i64.wrap ((i:Int)+(k:Int))=((i+k:Nat):Int):=by rw [w64 (by omega)]; omega
    rw [hik]
    by_cases hk:k < y.length
    ·left
     have hj:i+k < o2.length:=by omega
     have yk:=hy _ (List.getElem_mem hk)
     have oj:=isdg_get gd hj
     rw [if_pos (by simp [hk]),lkI_nat hj]
     simp only [Option.bind_some]
     rw [lkI_nat h1]
     simp only [Option.bind_some]
     rw [lkI_nat hk]
     simp only [Option.bind_some]
     have p1:0≤x[i]*y[k]:=Int.mul_nonneg xi.1 yk.1
     have p2:x[i]*y[k]≤9999*10000:=Int.mul_le_mul (by omega) yk.2 yk.1 (by omega)
     have hc:IntKind.i64.wrap (IntKind.i64.wrap ((c:Int)+o2[i+k])+IntKind.i64.wrap (x[i]*y[k]))=c+o2[i+k]+x[i]*y[k]:=by
      rw [w64 (n:=(c:Int)+o2[i+k]) (by omega),w64 (n:=x[i]*y[k]) (by omega),w64 (by omega)]
     rw [hc,tdiv_pos (by omega),tmod_pos (by omega),w64 (n:=_ / 10000) (by omega),w64 (n:=(k:Int)+1) (by omega),Int.toNat_natCast]
     generalize ht:c+o2[i+k]+x[i]*y[k]=t at *
     refine ⟨_,rfl,⟨k+1,(t / 10000).toNat,by simp only; omega,by simp only; omega,by omega,by omega,by simp [go],isdg_set gd (by omega),?_⟩,by simp only; omega⟩
     simp only
     have s1:=dval_set (l:=o2) (k:=i+k) hj (x:=t % 10000) (by omega) oj.1
     have pt:(x[i]*y[k]).toNat = x[i].toNat * y[k].toNat := Int.toNat_mul xi.1 yk.1
     have e1:(t % 10000).toNat + 10000*(t / 10000).toNat = c+o2[i+k].toNat + x[i].toNat * y[k].toNat := by omega
     have e2:10000^(i+k)*((t % 10000).toNat + 10000*(t / 10000).toNat)=10000^(i+k)*(c+o2[i+k].toNat + x[i].toNat * y[k].toNat):=by rw [e1]
     rw [Nat.mul_add,Nat.mul_add,Nat.mul_add,←Nat.mul_assoc] at e2
     rw [dval_take_succ hk,Nat.mul_add,Nat.mul_add,show i+(k+1)=(i+k)+1 by omega,Nat.pow_succ]
     have e3:10000^i*(x[i].toNat * (10000^k*y[k].toNat))=10000^(i+k)*(x[i].toNat * y[k].toNat):=by
      rw [Nat.pow_add,Nat.mul_assoc,Nat.mul_left_comm (10000^k)]
     rw [e3]
     omega
    ·rw [if_neg (by simp; omega)]
     by_cases hc:0 < c
     ·left
      have hj:i+k < o2.length:=by
       rw [full (by omega)] at gv
       have:10000^(i+k)*1≤10000^(i+k)*c:=Nat.mul_le_mul_left _ hc
       have h5:10000^(i+k) < 10000^(i+1+y.length):=by omega
       have:=(Nat.pow_lt_pow_iff_right (by omega)).1 h5
       omega
      have oj:=isdg_get gd hj
      rw [if_pos (by simp [hc]),lkI_nat hj]
      simp only [Option.bind_some]
      rw [w64 (n:=(c:Int)+o2[i+k]) (by omega),tdiv_pos (by omega),tmod_pos (by omega),w64 (n:=_ / 10000) (by omega),w64 (n:=(k:Int)+1) (by omega),Int.toNat_natCast]
      generalize ht:(c:Int)+o2[i+k]=t at *
      refine ⟨_,rfl,⟨k+1,(t / 10000).toNat,by simp only; omega,by simp only; omega,by omega,by omega,by simp [go],isdg_set gd (by omega),?_⟩,by simp only; omega⟩
      simp only
      have s1:=dval_set (l:=o2) (k:=i+k) hj (x:=t % 10000) (by omega) oj.1
      have e1:(t % 10000).toNat + 10000*(t / 10000).toNat = c+o2[i+k].toNat := by omega
      have e2:10000^(i+k)*((t % 10000).toNat + 10000*(t / 10000).toNat)=10000^(i+k)*(c+o2[i+k].toNat):=by rw [e1]
      rw [Nat.mul_add,Nat.mul_add,←Nat.mul_assoc] at e2
      rw [List.take_of_length_le (by omega)] at gv ⊢
      rw [show i+(k+1)=(i+k)+1 by omega,Nat.pow_succ]
      omega
     ·right
      rw [if_neg (by simp; omega)]
      have:c=0:=by omega
      subst this
      rw [full (by omega)] at gv
      exact ⟨o2,rfl,gd,go,by simpa using gv⟩
   rw [e1]
   simp only [Option.bind_some]
   rw [w64 (n:=(i:Int)+1) (by omega)]
   exact ⟨_,rfl,⟨i+1,by simp only; omega,by omega,e3,e2,e4⟩,by simp only; omega⟩
  ·right
   rw [if_neg (by simp; omega)]
   rw [List.take_of_length_le (by omega)] at hv
   exact ⟨o,rfl,hd,ho,hv⟩
 rw [h1]
 simp only [Option.bind_some]
 rw [cut_eq out h2 (by omega),h4]
 rfl
end Go.Ab
namespace Go.Ab
open Go
set_option maxRecDepth 100000
theorem dval_split' (l:List Int) (k:Nat):dval l=dval (l.take k)+10000^k*dval (l.drop k):=by
 rcases Nat.lt_or_ge l.length k with h | h
 ·rw [List.take_of_length_le (by omega),List.drop_of_length_le (by omega)]; simp [dval]
 ·exact dval_split h
theorem dval_take_lt {l:List Int} (h:isdg l) (k:Nat):dval (l.take k) < 10000^k:=by
 have h1:=dval_lt (isdg_take h k)
 have h2:=pow_le (i:=(l.take k).length) (j:=k) (by simp; omega)
 omega
theorem tops_eq (y x:List Int) (hy:isdg y) (hx:isdg x) (n:Nat) (ly:y.length=n+1) (lx:x.length≤n+2) (hn:n≤100000) :
  whileN fuel (g_ref01_divide_b0 y x) (0,0,((n+1:Nat):Int))=some (((dval (y.drop (n - 1)):Nat):Int),((dval (x.drop (n - 1)):Nat):Int)):=by
 have hb:∀t,n - 1≤t→dval (x.drop t) < 1000000000000∧dval (y.drop t) < 100000000:=fun t ht=>by
  have h1:=dval_lt (isdg_drop hx t)
  have h2:=pow_le (i:=(x.drop t).length) (j:=3) (by simp; omega)
  have h3:=dval_lt (isdg_drop hy t)
  have h4:=pow_le (i:=(y.drop t).length) (j:=2) (by simp; omega)
  omega
 refine whileN_eq (fun s=>∃t:Nat,s.2.2=(t:Int) - 1∧n - 1≤t∧t≤n+2∧s.1=((dval (y.drop t):Nat):Int)∧s.2.1=((dval (x.drop t):Nat):Int)) (fun s=>(s.2.2+1).toNat) _ ?_ _
  ⟨n+2,by simp only; omega,by omega,by omega,by rw [dval_drop_ge (by omega)]; rfl,by rw [dval_drop_ge (by omega)]; rfl⟩ (by simp only; omega)
 rintro ⟨top,first,kk⟩ ⟨t,h1,h2,h3,h4,h5⟩
 simp only at h1 h4 h5
 subst h1; subst h4; subst h5
 unfold g_ref01_divide_b0
 simp only
 have hn1:IntKind.i64.wrap ((y.length:Int) - 1)=(n:Int):=by rw [w64 (by omega)]; omega
 have hmx:(if IntKind.i64.wrap ((n:Int) - 1) > 0 then IntKind.i64.wrap ((n:Int) - 1) else 0)=((n - 1:Nat):Int):=by
  rw [w64 (by omega)]; split <;> omega
 rw [hn1,hmx]
 by_cases hge:n - 1 < t
 ·left
  obtain ⟨u,rfl⟩:∃u,t=u+1:=⟨t - 1,by omega⟩
  have e:((u+1:Nat):Int) - 1=(u:Int):=by omega
  rw [e]
  have bu:=hb u (by omega)
  have bt:=hb (u+1) (by omega)
  have vx:=dval_dat x u
  have vy:=dval_dat y u
  have dx:=dat_dg hx u
  have dy:=dat_dg hy u
  rw [if_pos (by simp; omega)]
  by_cases hxu:u < x.length
  ·rw [if_pos (by simp [hxu]),lkI_nat hxu]
   simp only [Option.bind_some]
   rw [dat_lt hxu] at vx dx
   rw [w64 (n:=((dval (x.drop (u+1)):Nat):Int)*10000) (by omega),w64 (n:=((dval (x.drop (u+1)):Nat):Int)*10000+x[u]) (by omega),w64 (n:=(u:Int) - 1) (by omega)]
   by_cases hyu:u≤n
   ·have hyl:u < y.length:=by omega
    rw [if_pos (by simp [hyu]),lkI_nat hyl]
    simp only [Option.bind_some]
    rw [dat_lt hyl] at vy dy
    rw [w64 (n:=((dval (y.drop (u+1)):Nat):Int)*10000) (by omega),w64 (n:=((dval (y.drop (u+1)):Nat):Int)*10000+y[u]) (by omega)]
    exact ⟨_,rfl,⟨u,rfl,by omega,by omega,by simp only; omega,by simp only; omega⟩,by simp only; omega⟩
   ·rw [if_neg (by simp; omega)]
    rw [dval_drop_ge (l:=y) (k:=u+1) (by omega)]
    exact ⟨_,rfl,⟨u,rfl,by omega,by omega,by simp only [dval_drop_ge (l:=y) (k:=u) (by omega)],by simp only; omega⟩,by simp only; omega⟩
  ·rw [if_neg (by simp; omega)]
   rw [dat_ge (by omega)] at vx dx
   rw [w64 (n:=((dval (x.drop (u+1)):Nat):Int)*10000) (by omega),w64 (n:=(u:Int) - 1) (by omega)]
   by_cases hyu:u≤n
   ·have hyl:u < y.length:=by omega
    rw [if_pos (by simp [hyu]),lkI_nat hyl]
    simp only [Option.bind_some]
    rw [dat_lt hyl] at vy dy
    rw [w64 (n:=((dval (y.drop (u+1)):Nat):Int)*10000) (by omega),w64 (n:=((dval (y.drop (u+1)):Nat):Int)*10000+y[u]) (by omega)]
    exact ⟨_,rfl,⟨u,rfl,by omega,by omega,by simp only; omega,by simp only; omega⟩,by simp only; omega⟩
   ·rw [if_neg (by simp; omega)]
    rw [dval_drop_ge (l:=y) (k:=u+1) (by omega)]
    exact ⟨_,rfl,⟨u,rfl,by omega,by omega,by simp only [dval_drop_ge (l:=y) (k:=u) (by omega)],by simp only; omega⟩,by simp only; omega⟩
 ·right
  have:t=n - 1:=by omega
  subst this
  rw [if_neg (by simp; omega)]
theorem cmpN_le {a b:Nat}:cmpN a b≤0↔a≤b:=by
 unfold cmpN
 split
 ·omega
 ·split <;> omega
theorem dgs_single {q:Nat} (h0:0 < q) (h:q < 10000):dgs q=[(q:Int)]:=by
 rw [dgs_pos (by omega),show q / 10000=0 by omega,dgs_zero,Nat.mod_eq_of_lt h]
theorem halve_eq (b R lo hi:Nat) (hb:0 < b) (lb:(dgs b).length≤9000) (lR:(dgs R).length≤10000) (h1:lo≤R / b) (h2:R / b≤hi) (h3:hi≤10000) :
  whileN fuel (g_ref01_divide_b1 (dgs b) (dgs R)) ((lo:Int),(hi:Int))=some ((R / b:Nat):Int):=by
 refine whileN_eq (fun s=>∃l h:Nat,s.1=(l:Int)∧s.2=(h:Int)∧l≤R / b∧R / b≤h∧h≤10000) (fun s=>(s.2 - s.1).toNat) _ ?_ _ ⟨lo,hi,rfl,rfl,h1,h2,h3⟩ (by simp only; omega)
 rintro ⟨l0,h0⟩ ⟨l,h,e1,e2,g1,g2,g3⟩
 simp only at e1 e2
 subst e1; subst e2
 unfold g_ref01_divide_b1
 simp only
 by_cases hlt:l < h
 ·left
  rw [if_pos (by simp [hlt])]
  rw [w64 (n:=(l:Int)+h) (by omega),w64 (n:=(l:Int)+h+1) (by omega),tdiv_pos (by omega),w64 (by omega)]
  obtain ⟨mid,hm⟩:∃mid:Nat,((l:Int)+h+1) / 2=(mid:Int):=⟨(((l:Int)+h+1) / 2).toNat,by omega⟩
  rw [hm]
  have hv:dval [(mid:Int)]=mid:=by simp [dval]
  rw [times_eq (dgs b) [(mid:Int)] (isdg_dgs b) (by intro z hz; rw [List.mem_singleton] at hz; omega) (by rw [hv]; simp; omega) (by omega) (by simp),hv,dval_dgs]
  simp only [Option.bind_some]
  obtain ⟨L,hL⟩:∃L:Nat,L=10000:=⟨_,rfl⟩
  have lm:(dgs (b*mid)).length≤L:=by
   refine dgs_length_le ?_
   have a1:=lt_dgs b
   have a2:b*mid≤b*10000:=Nat.mul_le_mul_left _ (by omega)
   have a3:b*10000 < 10000^((dgs b).length+1):=by rw [Nat.pow_succ]; omega
   have a5:=pow_le (i:=(dgs b).length+1) (j:=L) (by omega)
   omega
  rw [compare_eq _ _ (by omega) (by omega)]
  simp only [Option.bind_some]
  by_cases hc:b*mid≤R
  ·have hq:mid≤R / b:=(Nat.le_div_iff_mul_le hb).2 (by rw [Nat.mul_comm]; exact hc)
   rw [if_pos (by simpa using cmpN_le.2 hc)]
   exact ⟨_,rfl,⟨mid,h,rfl,rfl,hq,g2,g3⟩,by simp only; omega⟩
  ·have hq:R / b < mid:=(Nat.div_lt_iff_lt_mul hb).2 (by rw [Nat.mul_comm]; omega)
   rw [if_neg (by simpa using fun h=>hc (cmpN_le.1 h)),w64 (by omega)]
   exact ⟨_,rfl,⟨l,mid - 1,rfl,by simp only; omega,g1,by omega,by omega⟩,by simp only; omega⟩
 ·right
  rw [if_neg (by simp; omega)]
  have:l=R / b:=by omega
  rw [this]
theorem divide_eq (a b:Nat) (hb:0 < b) (la:(dgs a).length≤8000) (lb:(dgs b).length≤8000):g_ref01_divide (dgs a) (dgs b)=some (dgs (a / b),dgs (a % b)):=by
 unfold g_ref01_divide
 obtain ⟨n,hn⟩:∃n,(dgs b).length=n+1:=by
  have:(dgs b).length≠0:=by rw [Ne,List.length_eq_zero_iff,dgs_eq_nil]; omega
  exact ⟨(dgs b).length - 1,by omega⟩
 have hn1:IntKind.i64.wrap (((dgs b).length:Int) - 1)=(n:Int):=by rw [w64 (by omega)]; omega
 rw [hn1]
 by_cases hle:(dgs a).length≤n
 ·rw [if_pos (by simp [hle]),if_pos (by omega)]
  have hab:=len_lt (a:=a) (b:=b) (by omega)
  rw [Nat.div_eq_of_lt hab,Nat.mod_eq_of_lt hab,dgs_zero]
 ·obtain ⟨m,hm⟩:∃m,(dgs a).length=n+m∧0 < m:=⟨(dgs a).length - n,by omega,by omega⟩
  have hm1:IntKind.i64.wrap (((dgs a).length:Int) - (n:Int))=(m:Int):=by rw [w64 (by omega)]; omega
  rw [if_neg (by simp; omega),hm1,if_pos (by omega),if_pos (by omega)]
  have hsub:sub (dgs a) (m:Int) ((dgs a).length:Int)=(dgs a).drop m:=by
   simp only [sub,Int.toNat_natCast]
   rw [List.take_of_length_le (by simp)]
  rw [hsub,if_pos (by simp; omega),Int.toNat_natCast,List.length_replicate,w64 (by omega)]
  obtain ⟨M,hM⟩:∃M:Nat,M=2000005:=⟨_,rfl⟩
  have hpb:isdg (dgs b):=isdg_dgs b
  have hnb:nolz (dgs b):=nolz_dgs b
  have bpow:b < 10000^(n+1):=by have:=lt_dgs b; rwa [hn] at this
  obtain ⟨out,h1,R,Q,h2,h3,h4,h5,h6⟩:∃out:List Int × List Int,whileN fuel (g_ref01_divide_b2 (dgs a) (dgs b)) ((dgs a).drop m,(m:Int) - 1,List.replicate m 0)=some out∧∃R Q:Nat,out.1=dgs R∧R < b∧isdg out.2∧out.2.length=m∧a=b*dval out.2+R:=by
   refine (whileN_ex (fun (s:List Int × Int × List Int)=>∃k R:Nat,s.2.1=(k:Int) - 1∧k≤m∧s.1=dgs R∧R < b∧s.2.2.length=m∧isdg s.2.2∧dval ((dgs a).drop k)=b*dval (s.2.2.drop k)+R) (fun s=>(s.2.1+1).toNat) (fun (out:List Int × List Int)=>∃R Q:Nat,out.1=dgs R∧R < b∧isdg out.2∧out.2.length=m∧a=b*dval out.2+R) ?_ _ ?_ (by simp only; omega))
   ·rintro ⟨rest,i0,qs⟩ ⟨k,R,e1,e2,e3,e4,e5,e6,e7⟩
    simp only at e1 e3 e5 e6 e7
    subst e1; subst e3
    unfold g_ref01_divide_b2
    simp only
    cases k with
    | zero =>
     right
     rw [if_neg (by simp)]
     refine ⟨_,rfl,R,0,rfl,e4,e6,e5,?_⟩
     rw [List.drop_zero,List.drop_zero,dval_dgs] at e7
     exact e7
    | succ j =>
     left
     have e:((j+1:Nat):Int) - 1=(j:Int):=by omega
     rw [e,if_pos (by simp)]
     have hj:j < (dgs a).length:=by omega
     have aj:=isdg_get (isdg_dgs a) hj
     rw [lkI_nat hj]
     simp only [Option.bind_some]
     have lR:(dgs R).length≤n+1:=dgs_length_le (by omega)
     have hcons:isdg ([(dgs a)[j]]++dgs R):=by rw [isdg_append]; exact ⟨isdg_cons.2 ⟨aj,isdg_nil⟩,isdg_dgs R⟩
     rw [if_pos (by simp; omega),cut_eq _ hcons (by simp; omega)]
     have hval:dval ([(dgs a)[j]]++dgs R)=(dgs a)[j].toNat + 10000*R:=by simp [dval,dval_dgs]
     rw [hval]
     simp only [Option.bind_some]
     generalize hR':(dgs a)[j].toNat + 10000*R=R' at *
     have R'lt:R' < 10000*b:=by omega
     have lR':(dgs R').length≤n+2:=dgs_length_le (by rw [Nat.pow_succ]; omega)
     rw [hn1,w64 (n:=(n:Int)+1) (by omega),show (n:Int)+1=((n+1:Nat):Int) by omega,tops_eq (dgs b) (dgs R') hpb (isdg_dgs R') n hn lR' (by omega)]
     simp only [Option.bind_some]
     have sb:=dval_split' (dgs b) (n - 1)
     have sR:=dval_split' (dgs R') (n - 1)
     rw [dval_dgs] at sb sR
     have tb:=dval_take_lt hpb (n - 1)
     have tR:=dval_take_lt (isdg_dgs R') (n - 1)
     have tpos:=dval_drop_pos hpb hnb (k:=n - 1) (by omega)
     have tbig:n=0∨10000≤dval ((dgs b).drop (n - 1)):=by
      rcases Nat.eq_zero_or_pos n with h | h
      ·exact .inl h
      ·right
       rw [dval_drop (by omega),show n - 1+1=n by omega]
       have:=dval_drop_pos hpb hnb (k:=n) (by omega)
       omega
     have tlim:dval ((dgs b).drop (n - 1)) < 100000000:=by
      have h3:=dval_lt (isdg_drop hpb (n - 1))
      have h4:=pow_le (i:=((dgs b).drop (n - 1)).length) (j:=2) (by simp; omega)
      omega
     have flim:dval ((dgs R').drop (n - 1)) < 1000000000000:=by
      have h3:=dval_lt (isdg_drop (isdg_dgs R') (n - 1))
      have h4:=pow_le (i:=((dgs R').drop (n - 1)).length) (j:=3) (by simp; omega)
      omega
     generalize hT:dval ((dgs b).drop (n - 1))=T at *
     generalize hF:dval ((dgs R').drop (n - 1))=F at *
     generalize hbl:dval ((dgs b).take (n - 1))=bl at *
     generalize hRl:dval ((dgs R').take (n - 1))=Rl at *
     rw [w64 (n:=(T:Int)+1) (by omega),if_pos (by omega),if_pos (by omega),tdiv_pos (by omega),tdiv_pos (by omega)]
     have c1:(F:Int) / ((T:Int)+1)=((F / (T+1):Nat):Int):=by simp
     have c2:(F:Int) / (T:Int)=((F / T:Nat):Int):=by simp
     have b1:F / (T+1)≤F:=Nat.div_le_self _ _
     have b2:F / T≤F:=Nat.div_le_self _ _
     rw [c1,c2]
     have q1:F / (T+1)≤R' / b:=by
      rw [Nat.le_div_iff_mul_le hb]
      have x1:F / (T+1)*(T+1)≤F:=Nat.div_mul_le_self _ _
      have x2:b≤10000^(n - 1)*(T+1):=by rw [Nat.mul_add]; omega
      have x3:F / (T+1)*b≤F / (T+1)*(10000^(n - 1)*(T+1)):=Nat.mul_le_mul_left _ x2
      have x4:F / (T+1)*(10000^(n - 1)*(T+1))=10000^(n - 1)*(F / (T+1)*(T+1)):=by rw [Nat.mul_left_comm]
      have x5:10000^(n - 1)*(F / (T+1)*(T+1))≤10000^(n - 1)*F:=Nat.mul_le_mul_left _ x1
      omega
     have q2:R' / b≤F / T:=by
      rw [Nat.le_div_iff_mul_le tpos]
      have x1:R' / b*b≤R':=Nat.div_mul_le_self _ _
      have x2:R' / b*(10000^(n - 1)*T)≤R' / b*b:=Nat.mul_le_mul_left _ (by omega)
      have x3:R' / b*(10000^(n - 1)*T)=10000^(n - 1)*(R' / b*T):=by rw [Nat.mul_left_comm]
      have x4:10000^(n - 1)*(R' / b*T) < 10000^(n - 1)*(F+1):=by rw [Nat.mul_add (10000^(n - 1)) F]; omega
      have:=Nat.lt_of_mul_lt_mul_left x4
      omega
     have q3:F / T≤10000:=by
      have x1:10000^(n - 1)*F < 10000^(n - 1)*(10000*(T+1)):=by
       have:10000^(n - 1)*(10000*(T+1))=10000*(10000^(n - 1)*(T+1)):=Nat.mul_left_comm _ _ _
       rw [this,Nat.mul_add (10000^(n - 1))]
       omega
      have x2:=Nat.lt_of_mul_lt_mul_left x1
      rcases tbig with h | h
      ·subst h
       simp only [Nat.zero_sub,Nat.pow_zero,Nat.one_mul] at sb sR tb tR
       have:F < 10000*T:=by omega
       exact Nat.le_of_lt ((Nat.div_lt_iff_lt_mul tpos).2 this)
      ·have:F < 10001*T:=by omega
       have:=(Nat.div_lt_iff_lt_mul tpos).2 this
       omega
     have q9:R' / b < 10000:=(Nat.div_lt_iff_lt_mul hb).2 (by omega)
     have w1:∀x:Nat,x≤F→IntKind.i64.wrap (x:Int)=(x:Int):=fun x hx=>w64 (by omega)
     rw [w1 _ b1,w1 _ b2,halve_eq b R' _ _ hb (by omega) (by omega) q1 q2 q3]
     simp only [Option.bind_some]
     have hd:=Nat.div_add_mod R' b
     have hmod:R' - b*(R' / b)=R' % b:=by omega
     have hml:=Nat.mul_div_le R' b
     have hmb:=Nat.mod_lt R' hb
     generalize R' / b=q at *
     generalize R' % b=r at *
     rw [lkI_nat (l:=qs) (k:=j) (by omega)]
     simp only [Option.bind_some]
     rw [cut_eq [(q:Int)] (isdg_cons.2 ⟨by omega,isdg_nil⟩) (by simp)]
     simp only [Option.bind_some]
     have hv:dval [(q:Int)]=q:=by simp [dval]
     rw [hv]
     have lq:(dgs q).length≤1:=dgs_length_le (by omega)
     rw [times_eq (dgs b) (dgs q) hpb (fun z hz=>by have:=isdg_dgs q z hz; omega) (by rw [dval_dgs]; exact Nat.le_of_lt (lt_dgs _)) (by omega) (by omega),dval_dgs,dval_dgs]
     simp only [Option.bind_some]
     rw [minus_eq _ _ hml (by omega),hmod]
     simp only [Option.bind_some]
     rw [w64 (n:=(j:Int) - 1) (by omega),Int.toNat_natCast]
     refine ⟨_,rfl,⟨j,r,rfl,by omega,rfl,hmb,by simp [e5],isdg_set e6 (by omega),?_⟩,by simp only; omega⟩
     simp only
     have hset:(qs.set j (q:Int)).drop j=(q:Int)::qs.drop (j+1):=by
      rw [List.drop_eq_getElem_cons (by simp; omega),List.getElem_set_self,List.drop_set_of_lt (by omega)]
     rw [hset,dval_drop hj,e7]
     simp only [dval,Int.toNat_natCast]
     rw [Nat.mul_add,Nat.mul_add,Nat.mul_left_comm b 10000]
     omega
   ·refine ⟨m,dval ((dgs a).drop m),rfl,Nat.le_refl _,?_,?_,by simp,isdg_replicate _,?_⟩
    ·simp only
     by_cases h0:n=0
     ·rw [List.drop_of_length_le (by omega)]; simp [dval,dgs_zero]
     ·refine (dgs_of (isdg_drop (isdg_dgs a) m) ?_).symm
      have:=nolz_dgs a
      unfold nolz at *
      rwa [List.getLast?_drop,if_neg (by omega)]
    ·have h1:=dval_lt (isdg_drop (isdg_dgs a) m)
     have h2:=dgs_le (n:=b) (by omega)
     rw [List.length_drop] at h1
     have h3:=pow_le (i:=(dgs a).length - m) (j:=(dgs b).length - 1) (by omega)
     omega
    ·simp only
     rw [List.drop_of_length_le (l:=List.replicate m (0:Int)) (by simp)]; simp [dval]
  rw [h1]
  simp only [Option.bind_some]
  rw [cut_eq _ h4 (by omega),h2]
  simp only [Option.bind_some]
  have e1:a / b=dval out.2:=by
   rw [h6,Nat.mul_add_div hb,Nat.div_eq_of_lt h3,Nat.add_zero]
  have e2:a % b=R:=by
   rw [h6,Nat.mul_add_mod,Nat.mod_eq_of_lt h3]
  rw [e1,e2]
end Go.Ab
namespace Go.Ab
open Go
set_option maxRecDepth 100000
theorem len_le_of {a b:Nat} (h:a≤b):(dgs a).length≤(dgs b).length:=by
 rcases Nat.lt_or_ge (dgs b).length (dgs a).length with h1 | h1
 ·have:=len_lt h1; omega
 ·exact h1
theorem log2_half {p q:Nat} (h:2*(p+1)≤q+1):Nat.log2 (p+1) < Nat.log2 (q+1):=by
 have h1:2^Nat.log2 (p+1)≤p+1:=(Nat.le_log2 (by omega)).1 (Nat.le_refl _)
 have h2:Nat.log2 (p+1)+1≤Nat.log2 (q+1):=(Nat.le_log2 (by omega)).2 (by rw [Nat.pow_succ]; omega)
 omega
theorem log2_lim {x K:Nat} (h:(dgs x).length≤K):Nat.log2 (x+1)≤14*K+1:=by
 have h1:=lt_dgs x
 have h2:=pow_le (i:=(dgs x).length) (j:=K) h
 have h3:(10000:Nat)^K≤(2^14)^K:=Nat.pow_le_pow_left (by omega) K
 rw [←Nat.pow_mul] at h3
 have h4:x+1 < 2^(14*K+1):=by rw [Nat.pow_succ]; omega
 have:=(Nat.log2_lt (by omega)).2 h4
 omega
def gm (x y:Nat):Nat := if y≤x then Nat.log2 (x*y+1) else Nat.log2 (x*y+1)+1
theorem gm_step {x y:Nat} (hy:0 < y):gm y (x % y) < gm x y:=by
 have hr:=Nat.mod_lt x hy
 unfold gm
 rw [if_pos (by omega)]
 by_cases h:y≤x
 ·rw [if_pos h]
  refine log2_half ?_
  have h1:y+x % y≤x:=by
   have:=Nat.div_add_mod x y
   have h2:1≤x / y:=(Nat.one_le_div_iff hy).2 h
   have h3:y*1≤y*(x / y):=Nat.mul_le_mul_left _ h2
   omega
  have h4:(2*(x % y)+1)*y≤x*y:=Nat.mul_le_mul_right _ (by omega)
  rw [Nat.add_mul,Nat.mul_assoc,Nat.mul_comm (x % y) y] at h4
  omega
 ·rw [if_neg h,Nat.mod_eq_of_lt (by omega),Nat.mul_comm]
  omega
theorem gcd_step (x y:Nat):Nat.gcd x y=Nat.gcd y (x % y):=by
 rw [Nat.gcd_comm,Nat.gcd_rec,Nat.gcd_comm]
theorem gm_lim {x y:Nat} (hx:(dgs x).length≤8000) (hy:(dgs y).length≤8000):gm x y < 1152921504606846976:=by
 have h1:=lt_dgs x
 have h2:=lt_dgs y
 have h3:(dgs (x*y)).length≤16000:=by
  have:(dgs (x*y)).length≤(dgs x).length+(dgs y).length:=dgs_length_le (by rw [Nat.pow_add]; exact Nat.mul_lt_mul'' h1 h2)
  omega
 have:=log2_lim h3
 unfold gm
 split <;> omega
theorem gcd_eq (a b:Nat) (la:(dgs a).length≤8000) (lb:(dgs b).length≤8000):g_ref01_gcd (dgs a) (dgs b)=some (dgs (Nat.gcd a b)):=by
 unfold g_ref01_gcd
 rw [whileN_eq (fun s=>∃x y:Nat,s.1=dgs x∧s.2=dgs y∧(dgs x).length≤8000∧(dgs y).length≤8000∧Nat.gcd x y=Nat.gcd a b) (fun s=>gm (dval s.1) (dval s.2)) (dgs (Nat.gcd a b)) ?_ (dgs a,dgs b) ⟨a,b,rfl,rfl,la,lb,rfl⟩ (by simp only [dval_dgs]; exact gm_lim la lb)]
 ·rfl
 ·rintro ⟨x0,y0⟩ ⟨x,y,h1,h2,h3,h4,h5⟩
  simp only at h1 h2
  subst h1; subst h2
  unfold g_ref01_gcd_b0
  simp only
  by_cases hy:y=0
  ·right
   subst hy
   rw [dgs_zero,if_neg (by simp)]
   rw [Nat.gcd_zero_right] at h5
   rw [h5]
  ·left
   have hne:(dgs y).length≠0:=by rw [Ne,List.length_eq_zero_iff,dgs_eq_nil]; exact hy
   rw [if_pos (by simp; omega),divide_eq x y (by omega) h3 h4]
   simp only [Option.bind_some]
   refine ⟨_,rfl,⟨y,x % y,rfl,rfl,h4,?_,?_⟩,?_⟩
   ·have:=len_le_of (a:=x % y) (b:=y) (Nat.le_of_lt (Nat.mod_lt _ (by omega))); omega
   ·rw [←h5,gcd_step x y]
   ·simp only [dval_dgs]
    exact gm_step (by omega)
def MX:Nat := 4611686018427387903
def mkQ (neg:Bool) (n d:Nat):Tapi_Q × Bool :=
 if n / Nat.gcd n d≤MX then (if d / Nat.gcd n d≤MX then (⟨if neg then -((n / Nat.gcd n d:Nat):Int) else ((n / Nat.gcd n d:Nat):Int),((d / Nat.gcd n d:Nat):Int)⟩,true) else (⟨0,0⟩,false)) else (⟨0,0⟩,false)
theorem dgs64 {p:Int} (h:-9223372036854775808≤p∧p≤9223372036854775807):(dgs p.natAbs).length≤5:=dgs_length_le (by omega)
end Go.Ab
namespace Go.Ab
open Go
theorem u64_at {n:Int} (h:0≤n∧n < 18446744073709551616):IntKind.u64.wrap n=n:=by
 obtain ⟨m,rfl⟩:=Int.eq_ofNat_of_zero_le h.1
 exact u64_nat (by omega)
theorem u64_neg {n:Int} (h:n < 0∧-18446744073709551616≤n):IntKind.u64.wrap n=n+18446744073709551616:=by
 simp [IntKind.wrap,IntKind.bits,IntKind.signed]; omega
theorem common_eq (a b:Nat) (ha:a < 18446744073709551616) (hb:b < 18446744073709551616):g_frac_common (a:Int) (b:Int)=some ((Nat.gcd a b:Nat):Int):=by
 have l1:(dgs a).length≤5:=dgs_length_le (by omega)
 have l2:(dgs b).length≤5:=dgs_length_le (by omega)
 have lim:gm a b < 1152921504606846976:=gm_lim (by omega) (by omega)
 unfold g_frac_common
 rw [whileN_eq (fun s=>∃x y:Nat,s.1=(x:Int)∧s.2=(y:Int)∧Nat.gcd x y=Nat.gcd a b) (fun s=>gm s.1.toNat s.2.toNat) ((Nat.gcd a b:Nat):Int) ?_ _ ⟨a,b,rfl,rfl,rfl⟩ (by simpa using lim)]
 ·rfl
 ·rintro ⟨x0,y0⟩ ⟨x,y,h1,h2,h3⟩
  simp only at h1 h2
  subst h1; subst h2
  unfold g_frac_common_b0
  simp only
  by_cases hy:y=0
  ·right
   subst hy
   rw [if_neg (by simp)]
   rw [Nat.gcd_zero_right] at h3
   rw [h3]
  ·left
   rw [if_pos (by simp; omega),if_pos (by omega),tmod_pos (by omega)]
   refine ⟨_,rfl,⟨y,x % y,rfl,by simp,?_⟩,?_⟩
   ·rw [←h3,gcd_step x y]
   ·simp only [Int.toNat_natCast]
    rw [show ((x:Int) % (y:Int)).toNat = x % y by rw [←Int.natCast_emod,Int.toNat_natCast]]
    exact gm_step (by omega)
theorem size_abs {p:Int} (h:-9223372036854775808≤p∧p≤9223372036854775807):g_frac_size p=some (p.natAbs:Int):=by
 unfold g_frac_size
 by_cases h0:p < 0
 ·rw [if_pos (by simpa using h0)]
  have e:IntKind.u64.wrap p=p+18446744073709551616:=u64_neg (by omega)
  rw [e,u64_neg (by omega)]
  congr 1; omega
 ·rw [if_neg (by simpa using h0),u64_at (by omega)]
  congr 1; omega
def Rt (q:Tapi_Q):Prop:=1≤q.D∧q.D≤4611686018427387903∧-4611686018427387903≤q.N∧q.N≤4611686018427387903∧Nat.gcd q.N.natAbs q.D.natAbs=1
instance (q:Tapi_Q):Decidable (Rt q):=by unfold Rt; infer_instance
def I64 (q:Tapi_Q):Prop:=(-9223372036854775808≤q.N∧q.N≤9223372036854775807)∧(-9223372036854775808≤q.D∧q.D≤9223372036854775807)
theorem Rt.i64 {q:Tapi_Q} (h:Rt q):I64 q:=by obtain ⟨h1,h2,h3,h4,_⟩:=h; unfold I64; omega
theorem check_eq (q:Tapi_Q):g_frac_Check q=some (if Rt q then 0 else 5):=by
 unfold g_frac_Check
 by_cases h1:q.D < 1
 ·rw [if_pos (by simpa using h1),if_neg (fun h=>by have:=h.1; omega)]
 rw [if_neg (by simpa using h1)]
 by_cases h2:q.D > 4611686018427387903
 ·rw [if_pos (by simpa using h2),if_neg (fun h=>by have:=h.2.1; omega)]
 rw [if_neg (by simpa using h2)]
 by_cases h3:q.N < -4611686018427387903
 ·rw [if_pos (by simpa using h3),if_neg (fun h=>by have:=h.2.2.1; omega)]
 rw [if_neg (by simpa using h3)]
 by_cases h4:q.N > 4611686018427387903
 ·rw [if_pos (by simpa using h4),if_neg (fun h=>by have:=h.2.2.2.1; omega)]
 rw [if_neg (by simpa using h4),size_abs (by omega)]
 simp only [Option.bind_some]
 have eD:IntKind.u64.wrap q.D=((q.D.natAbs:Nat):Int):=by rw [u64_at (by omega)]; omega
 rw [eD,common_eq _ _ (by omega) (by omega)]
 simp only [Option.bind_some]
 by_cases h5:Nat.gcd q.N.natAbs q.D.natAbs=1
 ·rw [if_neg (by simp [h5]),if_pos ⟨by omega,by omega,by omega,by omega,h5⟩]
 ·rw [if_pos (by simpa using (fun e:((Nat.gcd q.N.natAbs q.D.natAbs:Nat):Int)=1=>h5 (by omega))),if_neg (fun h=>h5 h.2.2.2.2)]
theorem right_eq (q:Tapi_Q):g_ref01_Right q=some (decide (Rt q)):=by
 unfold g_ref01_Right
 by_cases h1:q.D < 1
 ·rw [if_pos (by simpa using h1),decide_eq_false (fun h=>by have:=h.1; omega)]
 rw [if_neg (by simpa using h1)]
 by_cases h2:q.D > 4611686018427387903
 ·rw [if_pos (by simpa using h2),decide_eq_false (fun h=>by have:=h.2.1; omega)]
 rw [if_neg (by simpa using h2)]
 by_cases h4:q.N > 4611686018427387903
 ·rw [if_pos (by simpa using h4),decide_eq_false (fun h=>by have:=h.2.2.2.1; omega)]
 rw [if_neg (by simpa using h4)]
 by_cases h3:q.N < -4611686018427387903
 ·rw [if_pos (by simpa using h3),decide_eq_false (fun h=>by have:=h.2.2.1; omega)]
 rw [if_neg (by simpa using h3),digits_eq _ (by omega),digits_eq _ (by omega)]
 simp only [Option.bind_some]
 have l1:=dgs64 (p:=q.N) (by omega)
 have l2:=dgs64 (p:=q.D) (by omega)
 rw [gcd_eq _ _ (by omega) (by omega)]
 simp only [Option.bind_some]
 have l3:(dgs (Nat.gcd q.N.natAbs q.D.natAbs)).length≤5:=Nat.le_trans (len_le_of (Nat.le_of_dvd (by omega) (Nat.gcd_dvd_right _ _))) l2
 rw [show ([1]:List Int)=dgs 1 from (dgs_single (q:=1) (by omega) (by omega)).symm,compare_eq _ _ (by omega) (by have:(dgs 1).length≤1:=dgs_length_le (by omega); omega)]
 simp only [Option.bind_some]
 congr 1
 by_cases h5:Nat.gcd q.N.natAbs q.D.natAbs=1
 ·rw [decide_eq_true ⟨by omega,by omega,by omega,by omega,h5⟩,h5]; rfl
 ·rw [decide_eq_false (fun h=>h5 h.2.2.2.2)]
  unfold cmpN
  by_cases hl:Nat.gcd q.N.natAbs q.D.natAbs < 1
  ·rw [if_pos hl]; rfl
  ·rw [if_neg hl,if_neg h5]; rfl
def qI (n d:Int):Tapi_Q:=(mkQ (!((decide (n < 0))==(decide (d < 0)))) n.natAbs d.natAbs).1
theorem qI_val {n d:Int} (hd:d≠0) (hn:n.natAbs≤MX) (hd':d.natAbs≤MX):qI n d=⟨if (!((decide (n < 0))==(decide (d < 0))))=true then -((n.natAbs / Nat.gcd n.natAbs d.natAbs:Nat):Int) else ((n.natAbs / Nat.gcd n.natAbs d.natAbs:Nat):Int),((d.natAbs / Nat.gcd n.natAbs d.natAbs:Nat):Int)⟩:=by
 unfold qI mkQ
 have h1:=Nat.div_le_self n.natAbs (Nat.gcd n.natAbs d.natAbs)
 have h2:=Nat.div_le_self d.natAbs (Nat.gcd n.natAbs d.natAbs)
 rw [if_pos (by omega),if_pos (by omega)]
theorem make_qI {n d:Int} (hn:n.natAbs≤MX) (hd:d.natAbs≤MX) (h0:d≠0):g_frac_Make n d=some (qI n d,0):=by
 have hMX:MX=4611686018427387903:=rfl
 unfold g_frac_Make
 rw [if_neg (by simpa using h0)]
 unfold g_frac_Make_1_k0
 rw [size_abs (by omega),size_abs (by omega)]
 simp only [Option.bind_some]
 rw [common_eq _ _ (by omega) (by omega)]
 simp only [Option.bind_some]
 have hg:0 < Nat.gcd n.natAbs d.natAbs:=Nat.gcd_pos_of_pos_right _ (by omega)
 rw [if_pos (by omega),if_pos (by omega)]
 have h1:=Nat.div_le_self n.natAbs (Nat.gcd n.natAbs d.natAbs)
 have h2:=Nat.div_le_self d.natAbs (Nat.gcd n.natAbs d.natAbs)
 have e1:Int.tdiv (n.natAbs:Int) ((Nat.gcd n.natAbs d.natAbs:Nat):Int)=((n.natAbs / Nat.gcd n.natAbs d.natAbs:Nat):Int):=by rw [tdiv_pos (by omega)]; simp
 have e2:Int.tdiv (d.natAbs:Int) ((Nat.gcd n.natAbs d.natAbs:Nat):Int)=((d.natAbs / Nat.gcd n.natAbs d.natAbs:Nat):Int):=by rw [tdiv_pos (by omega)]; simp
 rw [e1,e2,qI_val h0 hn hd]
 generalize n.natAbs / Nat.gcd n.natAbs d.natAbs=x at *
 generalize d.natAbs / Nat.gcd n.natAbs d.natAbs=y at *
 rw [u64_at (by omega),u64_at (by omega)]
 unfold g_frac_fit
 simp only
 rw [if_neg (by simp),if_neg (by simp; omega),if_neg (by simp),if_neg (by simp; omega)]
 generalize (!((decide (n < 0))==(decide (d < 0))))=b
 cases b
 ·rw [if_neg (by simp),if_neg (by simp),w64 (by omega),w64 (by omega)]; rfl
 ·rw [if_pos rfl,if_pos rfl,w64 (n:=(x:Int)) (by omega),w64 (n:=(y:Int)) (by omega),w64 (by omega)]
  simp
theorem qI_spec {n d:Int} (hn:n.natAbs≤MX) (hd:d.natAbs≤MX) (h0:d≠0):Rt (qI n d)∧(qI n d).N*d=n*(qI n d).D:=by
 have hMX:MX=4611686018427387903:=rfl
 rw [qI_val h0 hn hd]
 have hg:0 < Nat.gcd n.natAbs d.natAbs:=Nat.gcd_pos_of_pos_right _ (by omega)
 have hc:Nat.gcd (n.natAbs / Nat.gcd n.natAbs d.natAbs) (d.natAbs / Nat.gcd n.natAbs d.natAbs)=1:=by rw [Nat.gcd_div (Nat.gcd_dvd_left _ _) (Nat.gcd_dvd_right _ _),Nat.div_self hg]
 have hx:n.natAbs=n.natAbs / Nat.gcd n.natAbs d.natAbs*Nat.gcd n.natAbs d.natAbs:=(Nat.div_mul_cancel (Nat.gcd_dvd_left _ _)).symm
 have hy:d.natAbs=d.natAbs / Nat.gcd n.natAbs d.natAbs*Nat.gcd n.natAbs d.natAbs:=(Nat.div_mul_cancel (Nat.gcd_dvd_right _ _)).symm
 have hxl:=Nat.div_le_self n.natAbs (Nat.gcd n.natAbs d.natAbs)
 have hyl:=Nat.div_le_self d.natAbs (Nat.gcd n.natAbs d.natAbs)
 have hyp:0 < d.natAbs / Nat.gcd n.natAbs d.natAbs:=Nat.div_pos (Nat.le_of_dvd (by omega) (Nat.gcd_dvd_right _ _)) hg
 generalize n.natAbs / Nat.gcd n.natAbs d.natAbs=x at *
 generalize d.natAbs / Nat.gcd n.natAbs d.natAbs=y at *
 generalize Nat.gcd n.natAbs d.natAbs=g at *
 have key:(x:Int)*(d.natAbs:Int)=(n.natAbs:Int)*(y:Int):=by
  rw [hx,hy]
  simp only [Int.natCast_mul]
  rw [Int.mul_assoc,Int.mul_comm (g:Int),Int.mul_comm (y:Int)]
 refine ⟨?_,?_⟩
 ·unfold Rt
  simp only
  refine ⟨by omega,by omega,?_,?_,?_⟩
  ·split <;> omega
  ·split <;> omega
  ·split
   ·rw [Int.natAbs_neg]; simpa using hc
   ·simpa using hc
 ·simp only
  by_cases h1:n < 0
  ·by_cases h2:d < 0
   ·rw [if_neg (by simp [h1,h2])]
    rw [show d=-(d.natAbs:Int) by omega,show n=-(n.natAbs:Int) by omega]
    rw [Int.mul_neg,Int.neg_mul,key]
   ·rw [if_pos (by simp [h1,h2])]
    rw [show d=(d.natAbs:Int) by omega,show n=-(n.natAbs:Int) by omega]
    rw [Int.neg_mul,Int.neg_mul,key]
  ·by_cases h2:d < 0
   ·rw [if_pos (by simp [h1,h2])]
    rw [show d=-(d.natAbs:Int) by omega,show n=(n.natAbs:Int) by omega]
    rw [Int.mul_neg,Int.neg_mul,Int.neg_neg,key]
   ·rw [if_neg (by simp [h1,h2])]
    rw [show d=(d.natAbs:Int) by omega,show n=(n.natAbs:Int) by omega]
    exact key
def cmpI (a b:Int):Int:=if a < b then -1 else if a=b then 0 else 1
theorem mul64_eq (x y:Nat) (hx:x < 18446744073709551616) (hy:y < 18446744073709551616):g_math_bits_Mul64 (x:Int) (y:Int)=some (((x*y / 18446744073709551616:Nat):Int),((x*y % 18446744073709551616:Nat):Int)):=by
 have hb:IntKind.bits .u64=64:=rfl
 have hp:(2:Int)^min (Int.toNat 32) (IntKind.bits .u64)=4294967296:=rfl
 have hf:∀z:Nat,Int.fdiv (z:Int) 4294967296=((z / 4294967296:Nat):Int):=fun z=>by rw [Int.fdiv_eq_ediv_of_nonneg _ (by omega)]; simp
 have hm:∀z:Nat,z < 18446744073709551616→IntKind.u64.wrap ((BitVec.ofInt (IntKind.bits .u64) (z:Int) &&& BitVec.ofInt (IntKind.bits .u64) 4294967295).toNat : Int)=((z % 4294967296:Nat):Int):=fun z hz=>by
  have e1:(BitVec.ofInt (IntKind.bits .u64) (z:Int) &&& BitVec.ofInt (IntKind.bits .u64) 4294967295).toNat = z % 4294967296:=by
   rw [BitVec.toNat_and,bv_nat hz,show (BitVec.ofInt (IntKind.bits .u64) 4294967295).toNat = 2^32 - 1 from bv_nat (a:=4294967295) (by omega),Nat.and_two_pow_sub_one_eq_mod]
  rw [e1,u64_nat (by omega)]
 unfold g_math_bits_Mul64
 simp only [hp]
 rw [hf x,hf y,hm x hx,hm y hy]
 obtain ⟨x1,ex1⟩:∃z,z=x / 4294967296:=⟨_,rfl⟩
 obtain ⟨x0,ex0⟩:∃z,z=x % 4294967296:=⟨_,rfl⟩
 obtain ⟨y1,ey1⟩:∃z,z=y / 4294967296:=⟨_,rfl⟩
 obtain ⟨y0,ey0⟩:∃z,z=y % 4294967296:=⟨_,rfl⟩
 rw [←ex1,←ex0,←ey1,←ey0]
 have hX:x=x1*4294967296+x0:=by omega
 have hY:y=y1*4294967296+y0:=by omega
 have hx1:x1≤4294967295:=by omega
 have hy1:y1≤4294967295:=by omega
 have ba:x1*y1≤4294967295*4294967295:=Nat.mul_le_mul hx1 hy1
 have bb:x1*y0≤4294967295*4294967295:=Nat.mul_le_mul hx1 (by omega)
 have bc:x0*y1≤4294967295*4294967295:=Nat.mul_le_mul (by omega) hy1
 have bd:x0*y0≤4294967295*4294967295:=Nat.mul_le_mul (by omega) (by omega)
 have hprod:(x1*4294967296+x0)*(y1*4294967296+y0)=x1*y1*18446744073709551616+(x1*y0+x0*y1)*4294967296+x0*y0:=by
  simp only [Nat.add_mul,Nat.mul_add]
  have e1:x1*4294967296*(y1*4294967296)=x1*y1*18446744073709551616:=by
   rw [Nat.mul_mul_mul_comm]
  have e2:x1*4294967296*y0=x1*y0*4294967296:=Nat.mul_right_comm _ _ _
  have e3:x0*(y1*4294967296)=x0*y1*4294967296:=(Nat.mul_assoc _ _ _).symm
  rw [e1,e2,e3]; omega
 rw [←hX,←hY] at hprod
 have e4:(x:Int)*(y:Int)=((x*y:Nat):Int):=by simp
 rw [e4,hprod]
 simp only [←Int.natCast_mul]
 generalize x1*y1=a at *
 generalize x1*y0=b at *
 generalize x0*y1=c at *
 generalize x0*y0=d at *
 rw [u64_nat (n:=a) (by omega),u64_nat (n:=b) (by omega),u64_nat (n:=c) (by omega),u64_nat (n:=d) (by omega),hf d]
 have s1:(b:Int)+((d / 4294967296:Nat):Int)=((b+d / 4294967296:Nat):Int):=by simp
 rw [s1,u64_nat (n:=b+d / 4294967296) (by omega),hm _ (by omega),hf]
 have s2:(((b+d / 4294967296) % 4294967296:Nat):Int)+(c:Int)=(((b+d / 4294967296) % 4294967296+c:Nat):Int):=by simp
 have s3:(a:Int)+(((b+d / 4294967296) / 4294967296:Nat):Int)=((a+(b+d / 4294967296) / 4294967296:Nat):Int):=by simp
 rw [s2,s3,u64_nat (n:=(b+d / 4294967296) % 4294967296+c) (by omega),hf,u64_nat (n:=a+(b+d / 4294967296) / 4294967296) (by omega)]
 have s4:((a+(b+d / 4294967296) / 4294967296:Nat):Int)+((((b+d / 4294967296) % 4294967296+c) / 4294967296:Nat):Int)=((a+(b+d / 4294967296) / 4294967296+((b+d / 4294967296) % 4294967296+c) / 4294967296:Nat):Int):=by simp
 rw [s4,u64_nat (n:=a+(b+d / 4294967296) / 4294967296+((b+d / 4294967296) % 4294967296+c) / 4294967296) (by omega)]
 have s5:IntKind.u64.wrap ((a*18446744073709551616+(b+c)*4294967296+d:Nat):Int)=(((a*18446744073709551616+(b+c)*4294967296+d) % 18446744073709551616:Nat):Int):=by
  simp [IntKind.wrap,IntKind.bits,IntKind.signed]
 rw [s5]
 congr 2
 omega
theorem cmp1_eq {p q:Tapi_Q} (hp:Rt p) (hq:Rt q):g_frac_Cmp_1 p q=some (cmpI (p.N*q.D) (q.N*p.D)):=by
 obtain ⟨p1,p2,p3,p4,_⟩:=hp
 obtain ⟨q1,q2,q3,q4,_⟩:=hq
 unfold g_frac_Cmp_1
 rw [size_abs (by omega),size_abs (by omega)]
 simp only [Option.bind_some]
 unfold g_frac_times
 have eD:IntKind.u64.wrap q.D=((q.D.natAbs:Nat):Int):=by rw [u64_at (by omega)]; omega
 have eE:IntKind.u64.wrap p.D=((p.D.natAbs:Nat):Int):=by rw [u64_at (by omega)]; omega
 rw [eD,eE,mul64_eq _ _ (by omega) (by omega),mul64_eq _ _ (by omega) (by omega)]
 simp only [Option.bind_some]
 have hx:p.N*q.D=if p.N < 0 then -((p.N.natAbs*q.D.natAbs:Nat):Int) else ((p.N.natAbs*q.D.natAbs:Nat):Int):=by
  split
  ·rw [Int.natCast_mul,←Int.neg_mul]; congr 1 <;> omega
  ·rw [Int.natCast_mul]; congr 1 <;> omega
 have hy:q.N*p.D=if q.N < 0 then -((q.N.natAbs*p.D.natAbs:Nat):Int) else ((q.N.natAbs*p.D.natAbs:Nat):Int):=by
  split
  ·rw [Int.natCast_mul,←Int.neg_mul]; congr 1 <;> omega
  ·rw [Int.natCast_mul]; congr 1 <;> omega
 have hxp:p.N < 0→0 < p.N.natAbs*q.D.natAbs:=fun h=>Nat.mul_pos (by omega) (by omega)
 have hyp:q.N < 0→0 < q.N.natAbs*p.D.natAbs:=fun h=>Nat.mul_pos (by omega) (by omega)
 rw [hx,hy]
 generalize p.N.natAbs*q.D.natAbs=x at *
 generalize q.N.natAbs*p.D.natAbs=y at *
 unfold cmpI
 by_cases h1:p.N < 0
 ·by_cases h2:q.N < 0
  ·rw [if_neg (by simp [h1,h2]),if_pos h1,if_pos h2]
   by_cases he:x=y
   ·subst he; rw [if_pos (by simp),if_neg (by omega),if_pos rfl]
   ·rw [if_neg (by simp; omega)]
    unfold g_frac_less
    simp only
    by_cases hh:x / 18446744073709551616 < y / 18446744073709551616
    ·rw [if_pos (by simp; omega)]
     simp only [Option.bind_some]
     rw [if_neg (by simp [h1]),if_neg (by omega),if_neg (by omega)]
    ·rw [if_neg (by simp; omega)]
     by_cases hh2:x / 18446744073709551616=y / 18446744073709551616
     ·rw [if_pos (by simp [hh2])]
      simp only [Option.bind_some]
      by_cases hl:x < y
      ·rw [decide_eq_true (by omega),if_neg (by simp [h1]),if_neg (by omega),if_neg (by omega)]
      ·rw [decide_eq_false (by omega),if_pos (by simp; omega),if_pos (by omega)]
     ·rw [if_neg (by simp; omega)]
      simp only [Option.bind_some]
      rw [if_pos (by simp; omega),if_pos (by omega)]
  ·rw [if_pos (by simp [h1,h2]),if_pos (by simpa using h1),if_pos h1,if_neg h2,if_pos (by have:=hxp h1; omega)]
 ·by_cases h2:q.N < 0
  ·rw [if_pos (by simp [h1,h2]),if_neg (by simpa using h1),if_neg h1,if_pos h2,if_neg (by have:=hyp h2; omega),if_neg (by have:=hyp h2; omega)]
  ·rw [if_neg (by simp [h1,h2]),if_neg h1,if_neg h2]
   by_cases he:x=y
   ·subst he; rw [if_pos (by simp),if_neg (by omega),if_pos rfl]
   ·rw [if_neg (by simp; omega)]
    unfold g_frac_less
    simp only
    by_cases hh:x / 18446744073709551616 < y / 18446744073709551616
    ·rw [if_pos (by simp; omega)]
     simp only [Option.bind_some]
     rw [if_pos (by simp; omega),if_pos (by omega)]
    ·rw [if_neg (by simp; omega)]
     by_cases hh2:x / 18446744073709551616=y / 18446744073709551616
     ·rw [if_pos (by simp [hh2])]
      simp only [Option.bind_some]
      by_cases hl:x < y
      ·rw [decide_eq_true (by omega),if_pos (by simp; omega),if_pos (by omega)]
      ·rw [decide_eq_false (by omega),if_neg (by simp; omega),if_neg (by omega),if_neg (by omega)]
     ·rw [if_neg (by simp; omega)]
      simp only [Option.bind_some]
      rw [if_neg (by simp; omega),if_neg (by omega),if_neg (by omega)]
theorem less_eq {p q:Tapi_Q} (hp:Rt p) (hq:Rt q):g_sensitive_less p q=some (decide (p.N*q.D < q.N*p.D)):=by
 unfold g_sensitive_less g_frac_Cmp
 rw [check_eq,if_pos hp]
 simp only [Option.bind_some]
 rw [if_neg (by simp),check_eq,if_pos hq]
 simp only [Option.bind_some]
 rw [if_neg (by simp)]
 unfold g_frac_both_int_1_k1
 rw [show (Tapi_Q.mk p.N p.D)=p from rfl,show (Tapi_Q.mk q.N q.D)=q from rfl,cmp1_eq hp hq]
 simp only [Option.bind_some]
 unfold cmpI
 congr 1
 split
 ·simp_all
 ·split <;> simp_all
theorem cmp_eq {p q:Tapi_Q} (hp:I64 p) (hq:I64 q) (hpD:0 < p.D) (hqD:0 < q.D):g_ref01_Cmp p q=some (cmpI (p.N*q.D) (q.N*p.D)):=by
 obtain ⟨p1,p2⟩:=hp
 obtain ⟨q1,q2⟩:=hq
 unfold g_ref01_Cmp
 rw [digits_eq _ p1,digits_eq _ q2]
 simp only [Option.bind_some]
 have dgb:∀{m:Int},(-9223372036854775808≤m∧m≤9223372036854775807)→(dgs m.natAbs).length≤5:=fun h=>dgs64 h
 have tm:∀(a b:Int),(-9223372036854775808≤a∧a≤9223372036854775807)→(-9223372036854775808≤b∧b≤9223372036854775807)→g_ref01_times (dgs a.natAbs) (dgs b.natAbs)=some (dgs (a.natAbs*b.natAbs)):=fun a b ha hb=>by
  have h1:=dgb ha
  have h2:=dgb hb
  have h3:=dval_lt (isdg_dgs b.natAbs)
  rw [times_eq _ _ (isdg_dgs _) (fun z hz=>by have:=isdg_dgs _ z hz; omega) (by omega) (by omega) (by omega),dval_dgs,dval_dgs]
 rw [tm _ _ p1 q2,digits_eq _ q1,digits_eq _ p2]
 simp only [Option.bind_some]
 rw [tm _ _ q1 p2]
 simp only [Option.bind_some]
 have len:∀(a b:Int),(-9223372036854775808≤a∧a≤9223372036854775807)→(-9223372036854775808≤b∧b≤9223372036854775807)→(dgs (a.natAbs*b.natAbs)).length≤10:=fun a b ha hb=>by
  refine dgs_length_le ?_
  have h1:a.natAbs≤9223372036854775808:=by omega
  have h2:b.natAbs≤9223372036854775808:=by omega
  have:=Nat.mul_le_mul h1 h2
  omega
 have len1:=len _ _ p1 q2
 have len2:=len _ _ q1 p2
 have hx:p.N*q.D=if p.N < 0 then -((p.N.natAbs*q.D.natAbs:Nat):Int) else ((p.N.natAbs*q.D.natAbs:Nat):Int):=by
  split
  ·rw [Int.natCast_mul,←Int.neg_mul]; congr 1 <;> omega
  ·rw [Int.natCast_mul]; congr 1 <;> omega
 have hy:q.N*p.D=if q.N < 0 then -((q.N.natAbs*p.D.natAbs:Nat):Int) else ((q.N.natAbs*p.D.natAbs:Nat):Int):=by
  split
  ·rw [Int.natCast_mul,←Int.neg_mul]; congr 1 <;> omega
  ·rw [Int.natCast_mul]; congr 1 <;> omega
 have hxp:p.N < 0→0 < p.N.natAbs*q.D.natAbs:=fun h=>Nat.mul_pos (by omega) (by omega)
 have hyp:q.N < 0→0 < q.N.natAbs*p.D.natAbs:=fun h=>Nat.mul_pos (by omega) (by omega)
 rw [hx,hy]
 generalize p.N.natAbs*q.D.natAbs=x at *
 generalize q.N.natAbs*p.D.natAbs=y at *
 unfold cmpI
 by_cases h1:p.N < 0
 ·rw [if_pos (by simpa using h1),if_pos h1]
  by_cases h2:q.N < 0
  ·rw [if_pos (by simpa using h2),if_pos h2,compare_eq _ _ (by omega) (by omega)]
   simp only [Option.bind_some]
   unfold cmpN
   congr 1
   by_cases a1:y < x
   ·rw [if_pos a1,if_pos (by omega)]
   ·rw [if_neg a1]
    by_cases a2:y=x
    ·rw [if_pos a2,if_neg (by omega),if_pos (by omega)]
    ·rw [if_neg a2,if_neg (by omega),if_neg (by omega)]
  ·rw [if_neg (by simpa using h2),if_neg h2,if_pos (by have:=hxp h1; omega)]
 ·rw [if_neg (by simpa using h1),if_neg h1]
  by_cases h2:q.N < 0
  ·rw [if_pos (by simpa using h2),if_pos h2,if_neg (by have:=hyp h2; omega),if_neg (by have:=hyp h2; omega)]
  ·rw [if_neg (by simpa using h2),if_neg h2,compare_eq _ _ (by omega) (by omega)]
   simp only [Option.bind_some]
   unfold cmpN
   congr 1
   by_cases a1:x < y
   ·rw [if_pos a1,if_pos (by omega)]
   ·rw [if_neg a1]
    by_cases a2:x=y
    ·rw [if_pos a2,if_neg (by omega),if_pos (by omega)]
    ·rw [if_neg a2,if_neg (by omega),if_neg (by omega)]
end Go.Ab
namespace Go.Ab
open Go
abbrev LN:=Nat → Int × Int × Int × Int
def bestF (L:LN):Nat → Nat
 | 0=>0
 | k+1=>if (L k).1 > (L (bestF L k)).1 then k else bestF L k
theorem bestF_lt {L:LN}:∀k,0 < k→bestF L k < k
 | 0,h=>by omega
 | k+1,_=>by
  unfold bestF
  split
  ·omega
  ·by_cases h:k=0
   ·subst h; exact Nat.lt_succ_of_le (Nat.le_refl _)
   ·have:=bestF_lt (L:=L) k (by omega); omega
theorem bestF_max {L:LN}:∀k x,x < k→(L x).1≤(L (bestF L k)).1
 | 0,x,h=>by omega
 | k+1,x,hx=>by
  unfold bestF
  split
  ·rename_i h
   by_cases e:x=k
   ·subst e; exact Int.le_refl _
   ·have:=bestF_max (L:=L) k x (by omega); omega
  ·rename_i h
   by_cases e:x=k
   ·subst e; omega
   ·exact bestF_max k x (by omega)
def B61 (z:Int):Prop:=-2305843009213693951≤z∧z≤2305843009213693951
def LnOk (L:LN):Prop:=∀x,B61 (L x).1∧B61 (L x).2.1
def ownF (L:LN) (b x:Nat):Int:=(L b).1 - (L x).1
def gapF (L:LN) (b x:Nat):Int:=(L b).2.1 - (L x).2.1
def stP (L:LN) (b aT aF:Nat):Nat → Tapi_Q × Tapi_Q
 | 0=>(⟨-(aT:Int),1⟩,⟨(aF:Int),1⟩)
 | k+1 =>
  if 0 < gapF L b k then (if (stP L b aT aF k).1.N*(qI (-(ownF L b k)) (gapF L b k)).D < (qI (-(ownF L b k)) (gapF L b k)).N*(stP L b aT aF k).1.D then (qI (-(ownF L b k)) (gapF L b k),(stP L b aT aF k).2) else stP L b aT aF k)
  else if gapF L b k < 0 then (if (qI (-(ownF L b k)) (gapF L b k)).N*(stP L b aT aF k).2.D < (stP L b aT aF k).2.N*(qI (-(ownF L b k)) (gapF L b k)).D then ((stP L b aT aF k).1,qI (-(ownF L b k)) (gapF L b k)) else stP L b aT aF k)
  else stP L b aT aF k
theorem stP_succ {L:LN} {b aT aF k:Nat}:stP L b aT aF (k+1) =
  if 0 < gapF L b k then (if (stP L b aT aF k).1.N*(qI (-(ownF L b k)) (gapF L b k)).D < (qI (-(ownF L b k)) (gapF L b k)).N*(stP L b aT aF k).1.D then (qI (-(ownF L b k)) (gapF L b k),(stP L b aT aF k).2) else stP L b aT aF k)
  else if gapF L b k < 0 then (if (qI (-(ownF L b k)) (gapF L b k)).N*(stP L b aT aF k).2.D < (stP L b aT aF k).2.N*(qI (-(ownF L b k)) (gapF L b k)).D then ((stP L b aT aF k).1,qI (-(ownF L b k)) (gapF L b k)) else stP L b aT aF k)
  else stP L b aT aF k:=rfl
theorem rt_int {z:Int} (h:-1000≤z∧z≤1000):Rt ⟨z,1⟩:=⟨by simp,by simp,by simp only; omega,by simp only; omega,by simp⟩
section
variable {L:LN} {b aT aF:Nat}
theorem own_fit (hL:LnOk L) (x:Nat):(ownF L b x).natAbs≤MX∧(gapF L b x).natAbs≤MX∧(-(ownF L b x)).natAbs≤MX:=by
 obtain ⟨h1,h2⟩:=hL b
 obtain ⟨h3,h4⟩:=hL x
 have hMX:MX=4611686018427387903:=rfl
 unfold B61 at *
 unfold ownF gapF
 omega
theorem qI_sp (hL:LnOk L) {x:Nat} (h:gapF L b x≠0):Rt (qI (-(ownF L b x)) (gapF L b x))∧(qI (-(ownF L b x)) (gapF L b x)).N*gapF L b x=-(ownF L b x)*(qI (-(ownF L b x)) (gapF L b x)).D :=
 qI_spec (own_fit hL x).2.2 (own_fit hL x).2.1 h
theorem stP_rt (hL:LnOk L) (hT:aT≤60) (hF:aF≤60):∀k,Rt (stP L b aT aF k).1∧Rt (stP L b aT aF k).2
 | 0=>⟨rt_int (by omega),rt_int (by omega)⟩
 | k+1=>by
  obtain ⟨i1,i2⟩:=stP_rt hL hT hF k
  rw [stP_succ]
  by_cases h1:0 < gapF L b k
  ·rw [if_pos h1]
   split
   ·exact ⟨(qI_sp hL (by omega)).1,i2⟩
   ·exact ⟨i1,i2⟩
  ·rw [if_neg h1]
   by_cases h2:gapF L b k < 0
   ·rw [if_pos h2]
    split
    ·exact ⟨i1,(qI_sp hL (by omega)).1⟩
    ·exact ⟨i1,i2⟩
   ·rw [if_neg h2]; exact ⟨i1,i2⟩
theorem frac_ge {N D n d t:Int} (hD:0 < D) (hd:0 < d) (h:N*d=n*D):N≤t*D↔n≤t*d:=by
 constructor
 ·intro h1
  have h2:=Int.mul_le_mul_of_nonneg_right h1 (Int.le_of_lt hd)
  rw [h,Int.mul_right_comm] at h2
  exact Int.le_of_mul_le_mul_right h2 hD
 ·intro h1
  have h2:=Int.mul_le_mul_of_nonneg_right h1 (Int.le_of_lt hD)
  rw [←h,Int.mul_right_comm] at h2
  exact Int.le_of_mul_le_mul_right h2 hd
theorem frac_le {N D n d t:Int} (hD:0 < D) (hd:0 < d) (h:N*d=n*D):t*D≤N↔t*d≤n:=by
 constructor
 ·intro h1
  have h2:=Int.mul_le_mul_of_nonneg_right h1 (Int.le_of_lt hd)
  rw [h,Int.mul_right_comm] at h2
  exact Int.le_of_mul_le_mul_right h2 hD
 ·intro h1
  have h2:=Int.mul_le_mul_of_nonneg_right h1 (Int.le_of_lt hD)
  rw [←h,Int.mul_right_comm] at h2
  exact Int.le_of_mul_le_mul_right h2 hd
theorem le_ge {N1 D1 N2 D2 t:Int} (h1:0 < D1) (h2:0 < D2) (h:N1*D2≤N2*D1) (k:N2≤t*D2):N1≤t*D1:=by
 have h3:=Int.mul_le_mul_of_nonneg_right k (Int.le_of_lt h1)
 rw [Int.mul_right_comm] at h3
 exact Int.le_of_mul_le_mul_right (Int.le_trans h h3) h2
theorem le_le {N1 D1 N2 D2 t:Int} (h1:0 < D1) (h2:0 < D2) (h:N2*D1≤N1*D2) (k:t*D2≤N2):t*D1≤N1:=by
 have h3:=Int.mul_le_mul_of_nonneg_right k (Int.le_of_lt h1)
 rw [Int.mul_right_comm] at h3
 exact Int.le_of_mul_le_mul_right (Int.le_trans h3 h) h2
theorem and_succ {k:Nat} {A:Prop} {Q:Nat → Prop}:(A∧∀x,x < k+1→Q x)↔((A∧∀x,x < k→Q x)∧Q k):=by
 constructor
 ·exact fun h=>⟨⟨h.1,fun x hx=>h.2 x (by omega)⟩,h.2 k (by omega)⟩
 ·rintro ⟨⟨h1,h2⟩,h3⟩
  refine ⟨h1,fun x hx=>?_⟩
  by_cases e:x=k
  ·subst e; exact h3
  ·exact h2 x (by omega)
theorem stP_from (hL:LnOk L) (hT:aT≤60) (hF:aF≤60) (t:Int):∀k,(stP L b aT aF k).1.N≤t*(stP L b aT aF k).1.D↔(-(aT:Int)≤t∧∀x,x < k→0 < gapF L b x→0≤ownF L b x+gapF L b x*t)
 | 0=>by
  show -(aT:Int)≤t*1↔_
  rw [Int.mul_one]
  exact ⟨fun h=>⟨h,fun x hx=>by omega⟩,fun h=>h.1⟩
 | k+1=>by
  have ih:=stP_from hL hT hF t k
  obtain ⟨⟨r1,_⟩,_⟩:=stP_rt (b:=b) hL hT hF k
  rw [and_succ,←ih]
  rw [stP_succ]
  by_cases h1:0 < gapF L b k
  ·rw [if_pos h1]
   obtain ⟨⟨q1,_⟩,q2⟩:=qI_sp hL (b:=b) (x:=k) (by omega)
   have hge:=frac_ge (t:=t) (by omega) h1 q2
   have e:(0 < gapF L b k→0≤ownF L b k+gapF L b k*t)↔-(ownF L b k)≤t*gapF L b k:=by
    rw [Int.mul_comm t]; exact ⟨fun h=>by have:=h h1; omega,fun h _=>by omega⟩
   rw [e,←hge]
   split
   ·rename_i hlt
    exact ⟨fun h=>⟨le_ge (by omega) (by omega) (Int.le_of_lt hlt) h,h⟩,fun h=>h.2⟩
   ·rename_i hlt
    exact ⟨fun h=>⟨h,le_ge (by omega) (by omega) (by omega) h⟩,fun h=>h.1⟩
  ·rw [if_neg h1]
   have e:(0 < gapF L b k→0≤ownF L b k+gapF L b k*t)↔True:=⟨fun _=>trivial,fun _ h=>absurd h h1⟩
   rw [e,and_true]
   split
   ·split <;> exact Iff.rfl
   ·exact Iff.rfl
theorem stP_to (hL:LnOk L) (hT:aT≤60) (hF:aF≤60) (t:Int):∀k,t*(stP L b aT aF k).2.D≤(stP L b aT aF k).2.N↔(t≤aF∧∀x,x < k→gapF L b x < 0→0≤ownF L b x+gapF L b x*t)
 | 0=>by
  show t*1≤(aF:Int)↔_
  rw [Int.mul_one]
  exact ⟨fun h=>⟨h,fun x hx=>by omega⟩,fun h=>h.1⟩
 | k+1=>by
  have ih:=stP_to hL hT hF t k
  obtain ⟨_,⟨r1,_⟩⟩:=stP_rt (b:=b) hL hT hF k
  rw [and_succ,←ih]
  rw [stP_succ]
  by_cases h1:0 < gapF L b k
  ·rw [if_pos h1]
   have e:(gapF L b k < 0→0≤ownF L b k+gapF L b k*t)↔True:=⟨fun _=>trivial,fun _ h=>by omega⟩
   rw [e,and_true]
   split <;> exact Iff.rfl
  ·rw [if_neg h1]
   by_cases h2:gapF L b k < 0
   ·rw [if_pos h2]
    obtain ⟨⟨q1,_⟩,q2⟩:=qI_sp hL (b:=b) (x:=k) (by omega)
    have hle:=frac_le (t:=t) (N:=(qI (-(ownF L b k)) (gapF L b k)).N) (D:=(qI (-(ownF L b k)) (gapF L b k)).D) (n:=ownF L b k) (d:=-(gapF L b k)) (by omega) (by omega) (by rw [Int.mul_neg,q2,Int.neg_mul,Int.neg_neg])
    have e:(gapF L b k < 0→0≤ownF L b k+gapF L b k*t)↔t*-(gapF L b k)≤ownF L b k:=by
     rw [Int.mul_neg,Int.mul_comm t]; exact ⟨fun h=>by have:=h h2; omega,fun h _=>by omega⟩
    rw [e,←hle]
    split
    ·rename_i hlt
     exact ⟨fun h=>⟨le_le (by omega) (by omega) (Int.le_of_lt hlt) h,h⟩,fun h=>h.2⟩
    ·rename_i hlt
     exact ⟨fun h=>⟨h,le_le (by omega) (by omega) (by omega) h⟩,fun h=>h.1⟩
   ·rw [if_neg h2]
    have e:(gapF L b k < 0→0≤ownF L b k+gapF L b k*t)↔True:=⟨fun _=>trivial,fun _ h=>absurd h h2⟩
    rw [e,and_true]
theorem stay_b0 {c:Nat} (hc:0 < c) (h8:c≤8):whileN fuel (g_sensitive_Stay_b0 (rowG c L)) (0,0)=some (bestF L c:Int):=by
 refine whileN_run (fun k=>((bestF L k:Int),(k:Int))) c _ rfl (fun k hk=>?_) ?_ (by omega)
 ·have hb:bestF L k < c:=by
   by_cases h:k=0
   ·subst h; exact hc
   ·have:=bestF_lt (L:=L) k (by omega); omega
  have ek:IntKind.i64.wrap ((k:Int)+1)=((k+1:Nat):Int):=by rw [w64 (by omega)]; omega
  unfold g_sensitive_Stay_b0
  simp only
  rw [if_pos (by rw [rowG_len]; simpa using hk),rowG_get hk]
  simp only [Option.bind_some]
  rw [rowG_get hb]
  simp only [Option.bind_some]
  rw [ek]
  by_cases h:(L k).1 > (L (bestF L k)).1
  ·rw [if_pos (by simpa using h)]
   simp only [bestF,if_pos h]
  ·rw [if_neg (by simpa using h)]
   simp only [bestF,if_neg h]
 ·unfold g_sensitive_Stay_b0
  simp only
  rw [if_neg (by rw [rowG_len]; simp)]
theorem stay_b1 (hL:LnOk L) (hT:aT≤60) (hF:aF≤60) {c:Nat} (hb:b < c) (h8:c≤8):whileN fuel (g_sensitive_Stay_b1 (rowG c L) (b:Int)) (0,-(aT:Int),1,(aF:Int),1) =
  some ((stP L b aT aF c).1.N,(stP L b aT aF c).1.D,(stP L b aT aF c).2.N,(stP L b aT aF c).2.D):=by
 refine whileN_run (fun k=>((k:Int),(stP L b aT aF k).1.N,(stP L b aT aF k).1.D,(stP L b aT aF k).2.N,(stP L b aT aF k).2.D)) c _ rfl (fun k hk=>?_) ?_ (by omega)
 ·have ek:IntKind.i64.wrap ((k:Int)+1)=((k+1:Nat):Int):=by rw [w64 (by omega)]; omega
  obtain ⟨r1,r2⟩:=stP_rt (b:=b) hL hT hF k
  have hfit:=own_fit (b:=b) hL k
  have hMX:MX=4611686018427387903:=rfl
  have eg:IntKind.i64.wrap ((L b).2.1 - (L k).2.1)=gapF L b k:=by unfold gapF at *; exact w64 (by omega)
  have eo:IntKind.i64.wrap (0 - IntKind.i64.wrap ((L b).1 - (L k).1))=-(ownF L b k):=by
   have w1:IntKind.i64.wrap ((L b).1 - (L k).1)=ownF L b k:=by unfold ownF at *; exact w64 (by omega)
   rw [w1,w64 (by omega)]; omega
  unfold g_sensitive_Stay_b1
  simp only
  rw [if_pos (by rw [rowG_len]; simpa using hk),rowG_get hk]
  simp only [Option.bind_some]
  rw [rowG_get hb]
  simp only [Option.bind_some]
  rw [eg,eo,ek]
  by_cases h0:gapF L b k=0
  ·rw [if_pos (by simp [h0])]
   rw [stP_succ,if_neg (show ¬ 0 < gapF L b k by omega),if_neg (show ¬ gapF L b k < 0 by omega)]
  ·rw [if_neg (by simpa using h0),make_qI hfit.2.2 hfit.2.1 h0]
   simp only [Option.bind_some]
   obtain ⟨q1,q2⟩:=qI_sp hL (b:=b) (x:=k) h0
   rw [if_neg (by simp)]
   by_cases h1:gapF L b k < 0
   ·rw [if_pos (by simpa using h1),show (Tapi_Q.mk (stP L b aT aF k).2.N (stP L b aT aF k).2.D)=(stP L b aT aF k).2 from rfl,less_eq q1 r2]
    simp only [Option.bind_some]
    rw [stP_succ,if_neg (show ¬ 0 < gapF L b k by omega),if_pos h1]
    split
    ·rename_i h; rw [if_pos (by simpa using h)]
    ·rename_i h; rw [if_neg (by simpa using h)]
   ·rw [if_neg (by simpa using h1),show (Tapi_Q.mk (stP L b aT aF k).1.N (stP L b aT aF k).1.D)=(stP L b aT aF k).1 from rfl,less_eq r1 q1]
    simp only [Option.bind_some]
    rw [stP_succ,if_pos (show 0 < gapF L b k by omega)]
    split
    ·rename_i h; rw [if_pos (by simpa using h)]
    ·rename_i h; rw [if_neg (by simpa using h)]
 ·unfold g_sensitive_Stay_b1
  simp only
  rw [if_neg (by rw [rowG_len]; simp)]
end
section
variable {D:NF}
theorem check_ok0 (X:VX D) {E:Nat → Int} (hE:EvOk D E) {s:SF} {v:Nat} (hs:s.N < D.n) (hR:s.R < D.rows s.N) (hF:s.F < D.card s.N) (hT:s.T < D.card s.N) (hFT:s.F≠s.T) (hv:v < D.n) :
  g_sensitive_check D.net (rowG D.n E) (v:Int) s.sh []=some 0:=by
 have hc:=(X.vn.card v hv).1
 have h1:=check_ok X hE hs hR hF hT hFT hv (x:=0) (by omega)
 have hlen:D.net.Nodes.length=D.n:=rowG_len
 unfold g_sensitive_check at h1 ⊢
 cases hck:g_net_Check D.net with
 | none=>rw [hck] at h1; cases h1
 | some a =>
  rw [hck] at h1
  simp only [Option.bind_some] at h1 ⊢
  by_cases ha:(a != 0)=true
  ·rw [if_pos ha] at h1 ⊢; exact h1
  ·rw [if_neg ha] at h1 ⊢
   cases hce:g_net_CheckEvidence D.net (rowG D.n E) with
   | none=>rw [hce] at h1; cases h1
   | some e =>
    rw [hce] at h1
    simp only [Option.bind_some] at h1 ⊢
    by_cases he:(e != 0)=true
    ·rw [if_pos he] at h1 ⊢; exact h1
    ·rw [if_neg he] at h1 ⊢
     rw [if_neg (by simp),if_neg (by rw [hlen]; simp; omega)] at h1 ⊢
     have e0:whileN fuel (g_sensitive_check_b0 [((0:Nat):Int)] D.net (v:Int)) 0=some (Sum.inr ()):=by
      refine whileN_run (fun k=>(k:Int)) 1 _ rfl (fun k hk=>?_) ?_ (by omega)
      ·have:k=0:=by omega
       subst this
       unfold g_sensitive_check_b0
       rw [if_pos (by simp),show lkI [((0:Nat):Int)] ((0:Nat):Int)=some 0 from rfl]
       simp only [Option.bind_some]
       rw [if_neg (by simp),X.vn.node hv]
       simp only [Option.bind_some]
       rw [if_neg (by simp [NF.node]; omega)]
       rfl
      ·unfold g_sensitive_check_b0
       rw [if_neg (by simp)]
     have e1:whileN fuel (g_sensitive_check_b0 [] D.net (v:Int)) 0=some (Sum.inr ()):=by
      refine whileN_run (fun k=>(k:Int)) 0 _ rfl (fun k hk=>by omega) ?_ (by omega)
      unfold g_sensitive_check_b0
      rw [if_neg (by simp)]
     rw [e0] at h1
     rw [e1]
     exact h1
theorem stay_eq (X:VX D) {E:Nat → Int} (hE:EvOk D E) {s:SF} {v:Nat} (hs:s.N < D.n) (hR:s.R < D.rows s.N) (hF:s.F < D.card s.N) (hT:s.T < D.card s.N) (hFT:s.F≠s.T) (hv:v < D.n) (hL:LnOk (lineF D s E v)) :
  g_sensitive_Stay D.net (rowG D.n E) (v:Int) s.sh=some (if SW D E (D.fA s)=0 then (⟨0,0⟩,⟨0,0⟩,7) else
   ((stP (lineF D s E v) (bestF (lineF D s E v) (D.card v)) (D.W s.N s.R s.T) (D.W s.N s.R s.F) (D.card v)).1,(stP (lineF D s E v) (bestF (lineF D s E v) (D.card v)) (D.W s.N s.R s.T) (D.W s.N s.R s.F) (D.card v)).2,0)):=by
 have V:=X.vn
 have hc:=V.card v hv
 have hWT:=V.W s.N s.R s.T hs hR hT
 have hWF:=V.W s.N s.R s.F hs hR hF
 have hg:=V.g60
 unfold g_sensitive_Stay
 rw [check_ok0 X hE hs hR hF hT hFT hv]
 simp only [Option.bind_some]
 rw [if_neg (by simp),lines_eq V hs hv hE]
 simp only [Option.bind_some]
 rw [show lkI (rowG (D.card v) (lineF D s E v)) 0=some (lineF D s E v 0) from rowG_get (k:=0) (by omega)]
 simp only [Option.bind_some]
 have e:(lineF D s E v 0).2.2.1=SW D E (D.fA s):=rfl
 rw [e]
 by_cases h0:SW D E (D.fA s)=0
 ·rw [if_pos (by simp [h0]),if_pos h0]
 ·rw [if_neg (by simpa using h0),if_neg h0,stay_b0 (by omega) (by omega)]
  simp only [Option.bind_some]
  have hends:g_sensitive_ends D.net s.sh=some (-(D.W s.N s.R s.T:Int),(D.W s.N s.R s.F:Int)):=by
   unfold g_sensitive_ends
   rw [show s.sh.Node=(s.N:Int) from rfl,V.node hs]
   simp only [Option.bind_some]
   rw [show s.sh.Row=(s.R:Int) from rfl,show lkI (D.node s.N).Rows (s.R:Int)=some (rowG (D.card s.N) fun x=>(D.W s.N s.R x:Int)) from rowG_get hR]
   simp only [Option.bind_some]
   rw [show s.sh.To=(s.T:Int) from rfl,rowG_get hT]
   simp only [Option.bind_some]
   rw [show s.sh.From=(s.F:Int) from rfl,rowG_get hF]
   simp only [Option.bind_some]
   rw [w64 (by omega)]
   congr 2
   omega
  rw [hends]
  simp only [Option.bind_some]
  rw [stay_b1 hL (by omega) (by omega) (bestF_lt _ (by omega)) (by omega)]
  rfl
end
end Go.Ab
namespace Go.Ab
open Go
structure QX (D:NF) (E:Nat → Int) (v:Nat) (s:SF):Prop where
 X:DX D
 hE:EvOk D E
 hv:v < D.n
 hsN:s.N < D.n
 hsR:s.R < D.rows s.N
 hsF:s.F < D.card s.N
 hsT:s.T < D.card s.N
 hFT:s.F≠s.T
section
variable {D:NF} {E:Nat → Int} {v:Nat} {s:SF}
theorem QX.bd (Q:QX D E v s) (y:Nat):BD 243 (lineF D s E v y).1∧BD 243 (lineF D s E v y).2.1∧BD 243 (lineF D s E v y).2.2.1∧BD 243 (lineF D s E v y).2.2.2:=by
 have V:=Q.X.vn
 have hw:=Q.X.worlds
 exact ⟨sw_bd V hw (at_bd (fA_bd V Q.hsN)),sw_bd V hw (at_bd (fB_bd V)),sw_bd V hw (fA_bd V Q.hsN),sw_bd V hw (fB_bd V)⟩
theorem QX.lnOk (Q:QX D E v s):LnOk (lineF D s E v):=fun x=>by
 obtain ⟨h1,h2,_⟩:=Q.bd x
 unfold BD KK B61 at *
 omega
theorem QX.W60 (Q:QX D E v s):D.W s.N s.R s.T≤60∧D.W s.N s.R s.F≤60:=by
 have V:=Q.X.vn
 have hWT:=V.W s.N s.R s.T Q.hsN Q.hsR Q.hsT
 have hWF:=V.W s.N s.R s.F Q.hsN Q.hsR Q.hsF
 have hg:=V.g60
 omega
theorem QX.stay (Q:QX D E v s):g_sensitive_Stay D.net (rowG D.n E) (v:Int) s.sh=some (if SW D E (D.fA s)=0 then (⟨0,0⟩,⟨0,0⟩,7) else
   ((stP (lineF D s E v) (bestF (lineF D s E v) (D.card v)) (D.W s.N s.R s.T) (D.W s.N s.R s.F) (D.card v)).1,(stP (lineF D s E v) (bestF (lineF D s E v) (D.card v)) (D.W s.N s.R s.T) (D.W s.N s.R s.F) (D.card v)).2,0)) :=
 stay_eq Q.X.toVX Q.hE Q.hsN Q.hsR Q.hsF Q.hsT Q.hFT Q.hv Q.lnOk
theorem QX.line (Q:QX D E v s) {k:Nat} (hk:k < D.card v):g_sensitive_Line D.net (rowG D.n E) (v:Int) (k:Int) s.sh=some (lineF D s E v k,0) :=
 line_eq Q.X.vn Q.hsN Q.hv Q.hE hk (check_ok Q.X.toVX Q.hE Q.hsN Q.hsR Q.hsF Q.hsT Q.hFT Q.hv hk)
theorem QX.row (Q:QX D E v s):lkI (D.node s.N).Rows s.sh.Row=some (rowG (D.card s.N) fun x=>(D.W s.N s.R x:Int)):=rowG_get Q.hsR
theorem QX.rowT (Q:QX D E v s):lkI (rowG (D.card s.N) fun x=>(D.W s.N s.R x:Int)) s.sh.To=some (D.W s.N s.R s.T:Int):=rowG_get Q.hsT
theorem QX.rowF (Q:QX D E v s):lkI (rowG (D.card s.N) fun x=>(D.W s.N s.R x:Int)) s.sh.From=some (D.W s.N s.R s.F:Int):=rowG_get Q.hsF
theorem QX.at_fit (Q:QX D E v s) (y:Nat) {t:Int} (ht:-60≤t∧t≤60):IntKind.i64.wrap ((lineF D s E v y).1+IntKind.i64.wrap ((lineF D s E v y).2.1*t))=(lineF D s E v y).1+(lineF D s E v y).2.1*t:=by
 obtain ⟨h1,h2,_⟩:=Q.bd y
 have c1:BD (243*60) ((lineF D s E v y).2.1*t):=mul_bd h2 (by omega)
 unfold BD KK at *
 rw [w64 (n:=(lineF D s E v y).2.1*t) (by omega),w64 (by omega)]
theorem keeps_b0 (Q:QX D E v s) {x:Int}:whileN fuel (g_law24_SensitiveKeeps_b0 (D.node v) D.net (rowG D.n E) ((v:Int),x,s.sh)) (0,0,[])=some (Sum.inr ((bestF (lineF D s E v) (D.card v):Int),rowG (D.card v) (lineF D s E v))):=by
 have hc:=Q.X.c23 v Q.hv
 refine whileN_run (fun k=>((bestF (lineF D s E v) k:Int),(k:Int),rowG k (lineF D s E v))) (D.card v) _ rfl (fun k hk=>?_) ?_ (by omega)
 ·have ek:IntKind.i64.wrap ((k:Int)+1)=((k+1:Nat):Int):=by rw [w64 (by omega)]; omega
  have hb:bestF (lineF D s E v) k < k+1:=by
   by_cases h:k=0
   ·subst h; exact Nat.zero_lt_succ _
   ·have:=bestF_lt (L:=lineF D s E v) k (by omega); omega
  unfold g_law24_SensitiveKeeps_b0
  simp only
  rw [if_pos (by show decide ((k:Int) < (D.card v:Int))=true; simpa using hk),Q.line hk]
  simp only [Option.bind_some]
  rw [if_neg (by simp)]
  have e:rowG k (lineF D s E v)++[((lineF D s E v k).1,(lineF D s E v k).2.1,(lineF D s E v k).2.2.1,(lineF D s E v k).2.2.2)]=rowG (k+1) (lineF D s E v):=rowG_succ
  rw [e,if_pos (by rw [rowG_len]; omega),rowG_get hb]
  simp only [Option.bind_some]
  rw [ek]
  by_cases h:(lineF D s E v k).1 > (lineF D s E v (bestF (lineF D s E v) k)).1
  ·rw [if_pos (by simpa using h)]
   simp only [bestF,if_pos h]
  ·rw [if_neg (by simpa using h)]
   simp only [bestF,if_neg h]
 ·unfold g_law24_SensitiveKeeps_b0
  simp only
  rw [if_neg (by show ¬ decide (((D.card v:Nat):Int) < (D.card v:Int))=true; simp)]
def MostF (L:LN) (b:Nat) (t:Int) (k:Nat):Prop:=∀x,x < k→(L x).1+(L x).2.1*t≤(L b).1+(L b).2.1*t
open Classical in
theorem keeps_b1 (Q:QX D E v s) {b:Nat} (hb:b < D.card v) {t:Int} (ht:-60≤t∧t≤60):whileN fuel (g_law24_SensitiveKeeps_b1 ((b:Int),rowG (D.card v) (lineF D s E v)) t) (true,0)=some (decide (MostF (lineF D s E v) b t (D.card v))):=by
 have hc:=Q.X.c23 v Q.hv
 refine whileN_run (fun k=>(decide (MostF (lineF D s E v) b t k),(k:Int))) (D.card v) _ ?_ (fun k hk=>?_) ?_ (by omega)
 ·rw [decide_eq_true (show MostF (lineF D s E v) b t 0 from fun x hx=>by omega)]; rfl
 ·have ek:IntKind.i64.wrap ((k:Int)+1)=((k+1:Nat):Int):=by rw [w64 (by omega)]; omega
  unfold g_law24_SensitiveKeeps_b1
  simp only
  rw [if_pos (by rw [rowG_len]; simpa using hk),rowG_get hk]
  simp only [Option.bind_some]
  have hiff:MostF (lineF D s E v) b t (k+1)↔MostF (lineF D s E v) b t k∧(lineF D s E v k).1+(lineF D s E v k).2.1*t≤(lineF D s E v b).1+(lineF D s E v b).2.1*t:=by
   constructor
   ·exact fun h=>⟨fun x hx=>h x (by omega),h k (by omega)⟩
   ·rintro ⟨h1,h2⟩ x hx
    by_cases e:x=k
    ·subst e; exact h2
    ·exact h1 x (by omega)
  by_cases hm:MostF (lineF D s E v) b t k
  ·rw [if_pos (decide_eq_true hm),rowG_get hb]
   simp only [Option.bind_some]
   rw [Q.at_fit b ht,Q.at_fit k ht,ek]
   congr 3
   rw [decide_eq_decide,hiff]
   exact ⟨fun h=>⟨hm,h⟩,fun h=>h.2⟩
  ·rw [if_neg (by simpa using hm),ek]
   congr 3
   rw [decide_eq_false (fun h=>hm (hiff.1 h).1)]
 ·unfold g_law24_SensitiveKeeps_b1
  simp only
  rw [if_neg (by rw [rowG_len]; simp)]
open Classical in
theorem keeps_b2 (Q:QX D E v s) {x e:Int} :
  whileN fuel (g_law24_SensitiveKeeps_b2 (rowG (D.card s.N) fun x=>(D.W s.N s.R x:Int)) ((v:Int),x,s.sh) ((bestF (lineF D s E v) (D.card v):Int),rowG (D.card v) (lineF D s E v))
   ((stP (lineF D s E v) (bestF (lineF D s E v) (D.card v)) (D.W s.N s.R s.T) (D.W s.N s.R s.F) (D.card v)).1,(stP (lineF D s E v) (bestF (lineF D s E v) (D.card v)) (D.W s.N s.R s.T) (D.W s.N s.R s.F) (D.card v)).2,e)) (-(D.W s.N s.R s.T:Int))=some (Sum.inr ()):=by
 have hc:=Q.X.c23 v Q.hv
 obtain ⟨hT,hF⟩:=Q.W60
 have hL:=Q.lnOk
 have hb:=bestF_lt (L:=lineF D s E v) (D.card v) (by omega)
 obtain ⟨r1,r2⟩:=stP_rt (b:=bestF (lineF D s E v) (D.card v)) hL hT hF (D.card v)
 have hmax:=bestF_max (L:=lineF D s E v) (D.card v)
 have hfrom:=fun t=>stP_from (b:=bestF (lineF D s E v) (D.card v)) hL hT hF t (D.card v)
 have hto:=fun t=>stP_to (b:=bestF (lineF D s E v) (D.card v)) hL hT hF t (D.card v)
 generalize stP (lineF D s E v) (bestF (lineF D s E v) (D.card v)) (D.W s.N s.R s.T) (D.W s.N s.R s.F) (D.card v)=FT at *
 generalize bestF (lineF D s E v) (D.card v)=b at *
 refine whileN_run (fun m=>-(D.W s.N s.R s.T:Int)+(m:Int)) (D.W s.N s.R s.T+D.W s.N s.R s.F+1) _ (by simp) (fun m hm=>?_) ?_ (by omega)
 ·unfold g_law24_SensitiveKeeps_b2
  rw [Q.rowF]
  simp only [Option.bind_some]
  have et:IntKind.i64.wrap (-(D.W s.N s.R s.T:Int)+(m:Int)+1)=-(D.W s.N s.R s.T:Int)+((m+1:Nat):Int):=by rw [w64 (by omega)]; omega
  obtain ⟨t,htm⟩:∃t,t=-(D.W s.N s.R s.T:Int)+(m:Int):=⟨_,rfl⟩
  rw [et,←htm,if_pos (by simp; omega),keeps_b1 Q hb (by omega)]
  simp only [Option.bind_some]
  have it:I64 ⟨t,1⟩:=(rt_int (by omega)).i64
  rw [cmp_eq it r1.i64 (by simp) (by have:=r1.1; omega)]
  simp only [Option.bind_some]
  have e1:(cmpI (t*FT.1.D) (FT.1.N*1)≥0)↔FT.1.N≤t*FT.1.D:=by
   rw [Int.mul_one]; unfold cmpI; split <;> (try split) <;> omega
  have e2:(cmpI (t*FT.2.D) (FT.2.N*1)≤0)↔t*FT.2.D≤FT.2.N:=by
   rw [Int.mul_one]; unfold cmpI; split <;> (try split) <;> omega
  have hin:(FT.1.N≤t*FT.1.D∧t*FT.2.D≤FT.2.N)↔MostF (lineF D s E v) b t (D.card v):=by
   rw [hfrom t,hto t]
   constructor
   ·rintro ⟨⟨_,h1⟩,_,h2⟩ y hy
    have g1:=h1 y hy
    have g2:=h2 y hy
    have g3:=hmax y hy
    have e3:gapF (lineF D s E v) b y*t=(lineF D s E v b).2.1*t - (lineF D s E v y).2.1*t:=by unfold gapF; rw [Int.sub_mul]
    rw [e3] at g1 g2
    unfold ownF at g1 g2
    rcases Int.lt_trichotomy (gapF (lineF D s E v) b y) 0 with h | h | h
    ·have:=g2 h; omega
    ·rw [h,Int.zero_mul] at e3; omega
    ·have:=g1 h; omega
   ·intro h
    have key:∀y,y < D.card v→0≤ownF (lineF D s E v) b y+gapF (lineF D s E v) b y*t:=fun y hy=>by
     have e3:gapF (lineF D s E v) b y*t=(lineF D s E v b).2.1*t - (lineF D s E v y).2.1*t:=by unfold gapF; rw [Int.sub_mul]
     have:=h y hy
     rw [e3]; unfold ownF; omega
    exact ⟨⟨by omega,fun y hy _=>key y hy⟩,by omega,fun y hy _=>key y hy⟩
  by_cases h1:FT.1.N≤t*FT.1.D
  ·rw [if_pos (by simpa using e1.2 h1),cmp_eq it r2.i64 (by simp) (by have:=r2.1; omega)]
   simp only [Option.bind_some]
   have e4:decide (cmpI (t*FT.2.D) (FT.2.N*1)≤0)=decide (MostF (lineF D s E v) b t (D.card v)):=by
    rw [decide_eq_decide,e2,←hin]
    exact ⟨fun h=>⟨h1,h⟩,fun h=>h.2⟩
   rw [e4,if_neg (by simp)]
  ·rw [if_neg (by simpa using fun h=>h1 (e1.1 h))]
   have e4:decide (MostF (lineF D s E v) b t (D.card v))=false:=decide_eq_false fun h=>h1 (hin.2 h).1
   rw [e4,if_neg (by simp)]
 ·unfold g_law24_SensitiveKeeps_b2
  rw [Q.rowF]
  simp only [Option.bind_some]
  rw [if_neg (by simp; omega)]
end
theorem keeps_true (p0:Tharuspexlaw24_Story) (h:okTharuspexlaw24_Story p0):g_law24_SensitiveKeeps p0=some true:=by
 obtain ⟨hN,hC,hK,hD,_⟩:=h
 obtain ⟨D,X0,n5,c23,hnet⟩:=net_draft (drOk_of hN)
 have X:DX D:=⟨X0,n5,c23⟩
 have V:=X.vn
 obtain ⟨E,hE,hev⟩:=known_of X hK
 obtain ⟨v,x,s,hv,hx,hsN,hsR,hsF,hsT,hdr⟩:=draft_of X hD
 have hcv:=c23 v hv
 unfold g_law24_SensitiveKeeps
 rw [works_true]
 simp only [Option.bind_some]
 rw [if_neg (by simp),hnet]
 simp only [Option.bind_some]
 rw [hev]
 simp only [Option.bind_some]
 rw [hdr]
 simp only [Option.bind_some]
 by_cases hFT:s.F=s.T
 ·rw [if_pos (by simp [SF.sh,hFT])]
 ·rw [if_neg (by simp [SF.sh]; omega)]
  have Q:QX D E v s:=⟨X,hE,hv,hsN,hsR,hsF,hsT,hFT⟩
  rw [Q.stay]
  simp only [Option.bind_some]
  by_cases h0:SW D E (D.fA s)=0
  ·rw [if_pos h0,if_pos (by simp),if_pos (by simp),mass_eq V (fun j hj=>(hE j hj).1)]
   simp only [Option.bind_some]
   have e3:SW D E (D.fA s)=SW D E (fM D):=tm_eq (fun w _=>V.fA_eq hsN) (by omega) (ok0 V)
   rw [←e3,h0]
   rfl
  ·obtain ⟨hT,hF⟩:=Q.W60
   obtain ⟨r1,r2⟩:=stP_rt (b:=bestF (lineF D s E v) (D.card v)) Q.lnOk hT hF (D.card v)
   have hmax:=bestF_max (L:=lineF D s E v) (D.card v)
   have hfrom:=(stP_from (b:=bestF (lineF D s E v) (D.card v)) Q.lnOk hT hF 0 (D.card v)).2 ⟨by omega,fun y hy _=>by have:=hmax y hy; unfold ownF; rw [Int.mul_zero]; omega⟩
   have hto:=(stP_to (b:=bestF (lineF D s E v) (D.card v)) Q.lnOk hT hF 0 (D.card v)).2 ⟨by omega,fun y hy _=>by have:=hmax y hy; unfold ownF; rw [Int.mul_zero]; omega⟩
   rw [Int.zero_mul] at hfrom hto
   rw [if_neg h0,if_neg (by simp),right_eq]
   simp only [Option.bind_some]
   rw [decide_eq_true r1,if_neg (by simp),right_eq]
   simp only [Option.bind_some]
   rw [decide_eq_true r2,if_neg (by simp),if_neg (by simp; omega),if_neg (by simp; omega),V.node hv]
   simp only [Option.bind_some]
   rw [keeps_b0 Q]
   simp only [Option.bind_some]
   rw [show s.sh.Node=(s.N:Int) from rfl,V.node hsN]
   simp only [Option.bind_some]
   rw [Q.row]
   simp only [Option.bind_some]
   rw [Q.rowT]
   simp only [Option.bind_some]
   rw [show IntKind.i64.wrap (0 - (D.W s.N s.R s.T:Int))=-(D.W s.N s.R s.T:Int) by rw [w64 (by omega)]; omega,keeps_b2 Q]
   rfl
end Go.Ab
