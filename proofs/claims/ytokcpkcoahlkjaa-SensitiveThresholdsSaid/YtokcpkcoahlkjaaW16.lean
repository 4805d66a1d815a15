/- What functions compute. No conditions. -/
import Derived.Test.YtokcpkcoahlkjaaW15
set_option linter.all false
namespace Go.Ab
open Go
set_option maxRecDepth 100000
theorem Qe3 {l:List Int} {k:Nat} (hk:k≤l.length):Qh l=Qh (l.take k)+10000^k*Qh (l.drop k):=by
 conv=>lhs; rw [←List.take_append_drop k l,Qja]
 rw [List.length_take,Nat.min_eq_left hk]
theorem Qny (m:Int):m=(m.natAbs:Int)∨m=-(m.natAbs:Int):=by omega
theorem Q7r (m:Int) (h:-9223372036854775808≤m∧m≤9223372036854775807):(if zw (0 - Int.tmod m 10000) > Int.tmod m 10000 then zw (0 - Int.tmod m 10000) else Int.tmod m 10000)=((m.natAbs % 10000:Nat):Int):=by
 rcases Qny m with hm | hm
 ·have e:Int.tmod m 10000=((m.natAbs % 10000:Nat):Int):=by rw [Xr (by omega)]; omega
  rw [e,w64 (by omega),if_neg (by omega)]
 ·have e:Int.tmod m 10000=-((m.natAbs % 10000:Nat):Int):=by
   conv=>lhs; rw [hm,Int.neg_tmod,Xr (by omega)]
   omega
  rw [e,w64 (by omega)]
  split <;> omega
theorem Qq8 (m:Int) (h:-9223372036854775808≤m∧m≤9223372036854775807):zw (Int.tdiv m 10000)=Int.tdiv m 10000∧(Int.tdiv m 10000).natAbs=m.natAbs / 10000:=by
 rcases Qny m with hm | hm
 ·have e:Int.tdiv m 10000=((m.natAbs / 10000:Nat):Int):=by rw [J0 (by omega)]; omega
  rw [e,w64 (by omega)]; omega
 ·have e:Int.tdiv m 10000=-((m.natAbs / 10000:Nat):Int):=by
   conv=>lhs; rw [hm,Int.neg_tdiv,J0 (by omega)]
   omega
  rw [e,w64 (by omega)]; omega
theorem Kv (p:Int) (h:-9223372036854775808≤p∧p≤9223372036854775807):Zy p=some (dgs p.natAbs):=by
 unfold Zy
 have hlen:(dgs p.natAbs).length≤5:=Xd (by omega)
 rw [Qbx (fun s=>s.2++dgs s.1.natAbs=dgs p.natAbs∧-9223372036854775808≤s.1∧s.1≤9223372036854775807) (fun s=>(dgs s.1.natAbs).length) (dgs p.natAbs) ?_ (p,[]) ⟨by simp,h⟩ (by simp only []; omega)]
 ·rfl
 ·rintro ⟨m,out⟩ ⟨h1,h2,h3⟩
  simp only at h1 h2 h3
  by_cases hm:m=0
  ·subst hm
   rw [Int.natAbs_zero,X2,List.append_nil] at h1
   exact .inr (by simp [Qcv,h1])
  ·refine .inl ⟨(Int.tdiv m 10000,out++[((m.natAbs % 10000:Nat):Int)]),?_,?_,?_⟩
   ·unfold Qcv
    simp only
    rw [if_pos (by simpa using hm),Q7r m ⟨h2,h3⟩,(Qq8 m ⟨h2,h3⟩).1,if_pos]
    have:=congrArg List.length h1
    simp only [List.length_append,List.length_cons,List.length_nil] at this ⊢
    omega
   ·simp only
    refine ⟨?_,?_⟩
    ·rw [(Qq8 m ⟨h2,h3⟩).2,List.append_assoc,←h1,Qcm (n:=m.natAbs) (by omega)]; rfl
    ·have:=(Qq8 m ⟨h2,h3⟩).2; omega
   ·simp only
    rw [(Qq8 m ⟨h2,h3⟩).2,Qcm (n:=m.natAbs) (by omega)]; simp
theorem Q3g (k:Nat):0 < 10000^k:=Nat.pow_pos (by omega)
theorem Qeg {i j:Nat} (h:i≤j):10000^i≤10000^j:=Nat.pow_le_pow_right (by omega) h
theorem Qqn {x y:List Int} {j:Nat} (hx:Xh x) (hy:Xh y) (hl:x.length=y.length) (hj:j < x.length) (hd:x.drop (j+1)=y.drop (j+1)) (hlt:x[j] < y[j]'(by omega)):Qh x < Qh y:=by
 rw [Qe3 (l:=x) (k:=j) (by omega),Qe3 (l:=y) (k:=j) (by omega),Qby hj,Qby (l:=y) (k:=j) (by omega),hd]
 have h1:=Qaf (Qiu hx j)
 rw [List.length_take,Nat.min_eq_left (by omega)] at h1
 have h2:=Qax hx hj
 have h3:=Qax hy (k:=j) (by omega)
 have h4:x[j].toNat + 1≤(y[j]'(by omega)).toNat := by omega
 have h5:10000^j*(x[j].toNat + 10000*Qh (y.drop (j+1))+1)≤10000^j*((y[j]'(by omega)).toNat + 10000*Qh (y.drop (j+1))):=Nat.mul_le_mul_left _ (by omega)
 rw [Nat.mul_add (10000^j) _ 1] at h5
 omega
def Qpx (a b:Nat):Int:=if a < b then -1 else if a=b then 0 else 1
theorem Q5o {a b:Nat} (h:dgs a=dgs b):a=b:=by
 have:=congrArg Qh h
 rwa [Zs,Zs] at this
theorem Qm2 {a b:Nat} (h:(dgs a).length < (dgs b).length):a < b:=by
 have h1:=Qhh a
 have h2:=Q1b (n:=b) (by intro h0; rw [h0,X2] at h; simp at h)
 have:=Qeg (i:=(dgs a).length) (j:=(dgs b).length - 1) (by omega)
 omega
theorem Qe2 (a b:Nat) (ha:(dgs a).length≤1000000) (hb:(dgs b).length≤1000000):Yg (dgs a) (dgs b)=some (Qpx a b):=by
 unfold Yg Qpx
 by_cases hl:(dgs a).length=(dgs b).length
 ·rw [if_neg (by simp [hl])]
  have key:=Z2 (body:=Ks (dgs a) (dgs b)) (fun s=>∃k:Nat,s=(k:Int) - 1∧k≤(dgs a).length∧(dgs a).drop k=(dgs b).drop k) (fun s=>(s+1).toNat)
   (fun r=>(match r with | .inl x=>some x | .inr _=>some (0:Int))=some (if a < b then (-1:Int) else if a=b then 0 else 1)) ?_
   (zw (((dgs a).length:Int) - 1)) ⟨(dgs a).length,by rw [w64 (by omega)],Nat.le_refl _,by rw [List.drop_length,hl,List.drop_length]⟩ (by rw [w64 (by omega)]; omega)
  ·obtain ⟨r,h1,h2⟩:=key
   rw [h1]
   exact h2
  ·rintro s ⟨k,rfl,hk,hd⟩
   cases k with
   | zero =>
    right
    refine ⟨.inr (),by simp [Ks],?_⟩
    simp only [List.drop_zero] at hd
    have:=Q5o hd
    subst this
    simp
   | succ k =>
    have e:((k+1:Nat):Int) - 1=(k:Int):=by omega
    rw [e]
    have hka:k < (dgs a).length:=by omega
    have hkb:k < (dgs b).length:=by omega
    unfold Ks
    rw [if_pos (by simp),Qn hka,Qn hkb]
    simp only [Option.bind_some]
    by_cases hne:(dgs a)[k]=(dgs b)[k]
    ·left
     refine ⟨(k:Int) - 1,?_,⟨k,rfl,by omega,?_⟩,by omega⟩
     ·rw [if_neg (by simp [hne]),w64 (by omega)]
     ·rw [List.drop_eq_getElem_cons hka,List.drop_eq_getElem_cons hkb,hne,hd]
    ·right
     rw [if_pos (by simp [hne])]
     by_cases hlt:(dgs a)[k] < (dgs b)[k]
     ·refine ⟨.inl (-1),by simp [hlt],?_⟩
      have:=Qqn (Z5 a) (Z5 b) hl hka hd hlt
      rw [Zs,Zs] at this
      simp [this]
     ·refine ⟨.inl 1,by simp [hlt],?_⟩
      have:=Qqn (Z5 b) (Z5 a) hl.symm hkb hd.symm (by omega)
      rw [Zs,Zs] at this
      simp only [Option.some.injEq]
      rw [if_neg (by omega),if_neg (by omega)]
 ·rw [if_pos (by simp; omega)]
  by_cases hlt:(dgs a).length < (dgs b).length
  ·have:=Qm2 hlt
   simp [hlt,this]
  ·have:=Qm2 (a:=b) (b:=a) (by omega)
   rw [if_neg (by simp; omega),if_neg (by omega),if_neg (by omega)]
theorem Q3z {l:List Int} {k:Nat}:sub l 0 (k:Int)=l.take k:=by simp [sub]
theorem Qn4 (l:List Int) (h:Xh l) (hl:l.length≤1000000):Js l=some (dgs (Qh l)):=by
 unfold Js
 rw [Qbx (fun s=>Xh s∧Qh s=Qh l∧s.length≤1000000) (fun s=>s.length) (dgs (Qh l)) ?_ l ⟨h,rfl,hl⟩ (by omega)]
 ·rfl
 ·rintro s ⟨h1,h2,h3⟩
  unfold Qj3
  by_cases hs:s.length=0
  ·right
   rw [if_neg (by simp [hs])]
   have:s=[]:=List.length_eq_zero_iff.1 hs
   subst this
   rw [←h2]; simp [Qh,X2]
  ·obtain ⟨k,hk⟩:∃k,s.length=k+1:=⟨s.length - 1,by omega⟩
   rw [if_pos (by simp; omega),w64 (by omega),show (s.length:Int) - 1=(k:Int) by omega,Qn (by omega)]
   simp only [Option.bind_some]
   by_cases h0:s[k]=0
   ·left
    refine ⟨s.take k,?_,⟨Qiu h1 k,?_,by simp; omega⟩,by simp; omega⟩
    ·rw [if_pos (by simp [h0]),if_pos (by omega),Q3z]
    ·rw [←h2,Qe3 (l:=s) (k:=k) (by omega),Qby (by omega),h0,List.drop_of_length_le (by omega)]; simp [Qh]
   ·right
    rw [if_neg (by simp [h0])]
    have hn:Qek s:=by
     unfold Qek
     rw [List.getLast?_eq_getElem?,hk,Nat.add_sub_cancel,List.getElem?_eq_getElem (by omega)]
     simpa using h0
    rw [←h2,Quh h1 hn]
theorem Qlw {l:List Int} (h:Xh l) (hn:Qek l) {k:Nat} (hk:k < l.length):0 < Qh (l.drop k):=by
 have h1:Qek (l.drop k):=by
  unfold Qek at *
  rwa [List.getLast?_drop,if_neg (by omega)]
 have h2:=Quh (Qb0 h k) h1
 rcases Nat.eq_zero_or_pos (Qh (l.drop k)) with h0 | h0
 ·rw [h0,X2] at h2
  have:=congrArg List.length h2
  simp at this; omega
 ·exact h0
theorem V3 {l:List Int} {k:Nat} (hk:l.length≤k):Qh (l.drop k)=0:=by rw [List.drop_of_length_le hk]; rfl
def dat (l:List Int) (k:Nat):Int:=l.getD k 0
theorem Qh9 {l:List Int} {k:Nat} (h:k < l.length):dat l k=l[k]:=by simp [dat,h]
theorem Qmi {l:List Int} {k:Nat} (h:l.length≤k):dat l k=0:=by simp [dat,h]
theorem Qwh {l:List Int} (h:Xh l) (k:Nat):0≤dat l k∧dat l k < 10000:=by
 rcases Nat.lt_or_ge k l.length with hk | hk
 ·rw [Qh9 hk]; exact Qax h hk
 ·rw [Qmi hk]; omega
theorem Qur (l:List Int) (k:Nat):Qh (l.drop k)=(dat l k).toNat + 10000*Qh (l.drop (k+1)):=by
 rcases Nat.lt_or_ge k l.length with hk | hk
 ·rw [Qh9 hk]; exact Qby hk
 ·rw [V3 hk,V3 (by omega),Qmi hk]; rfl
theorem Q2e (l:List Int) (x:Int):Qh (l++[x])=Qh l+10000^l.length*x.toNat := by rw [Qja]; simp [Qh]
theorem Q3o (a b:Nat) (hab:b≤a) (ha:(dgs a).length≤1000000):Qdf (dgs a) (dgs b)=some (dgs (a - b)):=by
 unfold Qdf
 have hlb:(dgs b).length≤(dgs a).length:=by
  rcases Nat.lt_or_ge (dgs a).length (dgs b).length with h | h
  ·have:=Qm2 h; omega
  ·exact h
 obtain ⟨M,hM⟩:∃M:Nat,M=2000005:=⟨_,rfl⟩
 obtain ⟨out,h1,h2,h3,h4⟩:∃out,Qd fuel (Qdv (dgs a) (dgs b)) (0,0,[])=some out∧Xh out∧out.length≤1000000∧Qh out=a - b:=by
  refine Z2 (fun s=>∃i c:Nat,s.2.1=(i:Int)∧s.1=(c:Int)∧c≤1∧i≤(dgs a).length∧s.2.2.length=i∧Xh s.2.2∧Qh s.2.2+Qh ((dgs b).take i)=Qh ((dgs a).take i)+10000^i*c) (fun s=>M - s.2.1.toNat) _ ?_ (0,0,[])
   ⟨0,0,rfl,rfl,by omega,by omega,rfl,Qkx,by simp [Qh]⟩ (by simp only; omega)
  rintro ⟨c0,i0,out⟩ ⟨i,c,h1,h2,hc,hi,ho,hd,hv⟩
  simp only at h1 h2 ho hd hv
  subst h1; subst h2
  unfold Qdv
  simp only
  by_cases h1:i < (dgs a).length
  ·left
   have xa:=Qax (Z5 a) h1
   have xb:=Qwh (Z5 b) i
   have tb:Qh ((dgs b).take (i+1))=Qh ((dgs b).take i)+10000^i*(dat (dgs b) i).toNat := by
    rcases Nat.lt_or_ge i (dgs b).length with h | h
    ·rw [Qcr h,Qh9 h]
    ·rw [Qmi h,List.take_of_length_le (by omega),List.take_of_length_le (by omega)]; simp
   have round:∀d:Int,∀c':Nat,d=(dgs a)[i] - c - dat (dgs b) i+10000*c'→0≤d→d < 10000→c'≤1→∃j e:Nat,((i:Int)+1)=(j:Int)∧(c':Int)=(e:Int)∧e≤1∧j≤(dgs a).length∧(out++[d]).length=j∧Xh (out++[d]) ∧
     Qh (out++[d])+Qh ((dgs b).take j)=Qh ((dgs a).take j)+10000^j*e:=by
    intro d c' hd' h0 h9 hc'
    refine ⟨i+1,c',by omega,rfl,hc',h1,by simp [ho],?_,?_⟩
    ·rw [Qo3]; exact ⟨hd,Qfy.2 ⟨⟨h0,h9⟩,Qkx⟩⟩
    ·rw [Q2e,ho,tb,Qcr h1,Nat.pow_succ]
     have e1:d.toNat + (dat (dgs b) i).toNat + c=(dgs a)[i].toNat + 10000*c':=by omega
     have e2:10000^i*(d.toNat + (dat (dgs b) i).toNat + c)=10000^i*((dgs a)[i].toNat + 10000*c'):=by rw [e1]
     rw [Nat.mul_add,Nat.mul_add,Nat.mul_add,←Nat.mul_assoc] at e2
     omega
   rw [if_pos (by simp [h1]),Qn h1]
   simp only [Option.bind_some]
   by_cases h2:i < (dgs b).length
   ·rw [if_pos (by simp [h2]),Qn h2]
    simp only [Option.bind_some]
    rw [Qh9 h2] at xb round
    have hw:zw (zw ((dgs a)[i] - (c:Int)) - (dgs b)[i])=(dgs a)[i] - c - (dgs b)[i]:=by rw [w64 (n:=(dgs a)[i] - (c:Int)) (by omega),w64 (by omega)]
    rw [hw,w64 (n:=(i:Int)+1) (by omega)]
    by_cases h3:(dgs a)[i] - c - (dgs b)[i] < 0
    ·rw [if_pos (by simp [h3]),w64 (by omega),if_pos (by simp; omega)]
     exact ⟨_,rfl,round _ 1 (by omega) (by omega) (by omega) (by omega),by simp only; omega⟩
    ·rw [if_neg (by simpa using h3),if_pos (by simp; omega)]
     exact ⟨_,rfl,round _ 0 (by omega) (by omega) (by omega) (by omega),by simp only; omega⟩
   ·rw [if_neg (by simp; omega)]
    rw [Qmi (by omega)] at xb round
    rw [w64 (n:=(dgs a)[i] - (c:Int)) (by omega),w64 (n:=(i:Int)+1) (by omega)]
    by_cases h3:(dgs a)[i] - (c:Int) < 0
    ·rw [if_pos (by simp [h3]),w64 (by omega),if_pos (by simp; omega)]
     exact ⟨_,rfl,round _ 1 (by omega) (by omega) (by omega) (by omega),by simp only; omega⟩
    ·rw [if_neg (by simpa using h3),if_pos (by simp; omega)]
     exact ⟨_,rfl,round _ 0 (by omega) (by omega) (by omega) (by omega),by simp only; omega⟩
  ·right
   rw [if_neg (by simp; omega)]
   have:i=(dgs a).length:=by omega
   subst this
   rw [List.take_length,List.take_of_length_le hlb,Zs,Zs] at hv
   have h5:=Qaf hd
   rw [ho] at h5
   refine ⟨out,rfl,hd,by omega,?_⟩
   rcases Nat.eq_zero_or_pos c with h | h
   ·subst h; omega
   ·have:c=1:=by omega
    subst this
    omega
 rw [h1]
 simp only [Option.bind_some]
 rw [Qn4 out h2 h3,h4]
 rfl
theorem Qwg {l:List Int} {k:Nat} (hk:k < l.length) {x:Int} (hx:0≤x) (h0:0≤l[k]):Qh (l.set k x)+10000^k*l[k].toNat = Qh l+10000^k*x.toNat := by
 induction l generalizing k with
 | nil=>simp at hk
 | cons y l ih =>
  cases k with
  | zero=>simp only [List.set_cons_zero,Qh,List.getElem_cons_zero,Nat.pow_zero]; omega
  | succ k =>
   simp only [List.set_cons_succ,Qh,List.getElem_cons_succ,Nat.pow_succ] at *
   have:=ih (by simpa using hk) h0
   have e:∀z,10000^k*10000*z=10000*(10000^k*z):=fun z=>by rw [Nat.mul_comm (10000^k),Nat.mul_assoc]
   rw [e,e]
   omega
theorem Qp7 {l:List Int} (h:Xh l) {k:Nat} {x:Int} (hx:0≤x∧x < 10000):Xh (l.set k x):=by
 intro y hy
 rcases List.mem_or_eq_of_mem_set hy with h1 | h1
 ·exact h y h1
 ·subst h1; exact hx
theorem Qjw (n:Nat):Xh (List.replicate n (0:Int)):=fun x hx=>by
 rw [List.mem_replicate] at hx
 omega
theorem Qr1 (n:Nat):Qh (List.replicate n (0:Int))=0:=by
 induction n with
 | zero=>rfl
 | succ n ih=>simp [List.replicate_succ,Qh,ih]
theorem Qpe (x y:List Int) (hx:Xh x) (hy:∀z∈y,0≤z∧z≤10000) (hyv:Qh y≤10000^y.length) (lx:x.length≤10000) (ly:y.length≤10000):Vl x y=some (dgs (Qh x*Qh y)):=by
 unfold Vl
 obtain ⟨M,hM⟩:∃M:Nat,M=2000005:=⟨_,rfl⟩
 have hw:zw ((x.length:Int)+(y.length:Int))=((x.length+y.length:Nat):Int):=by rw [w64 (by omega)]; omega
 rw [hw,if_pos (by omega),Int.toNat_natCast]
 obtain ⟨out,h1,h2,h3,h4⟩:∃out,Qd fuel (Qdn x y) (0,List.replicate (x.length+y.length) 0)=some out∧Xh out∧out.length=x.length+y.length∧Qh out=Qh x*Qh y:=by
  refine Z2 (fun s=>∃i:Nat,s.1=(i:Int)∧i≤x.length∧s.2.length=x.length+y.length∧Xh s.2∧Qh s.2=Qh (x.take i)*Qh y) (fun s=>M - s.1.toNat) _ ?_ (0,List.replicate (x.length+y.length) 0)
   ⟨0,rfl,by omega,by simp,Qjw _,by simp [Qh,Qr1]⟩ (by simp only; omega)
  rintro ⟨i0,o⟩ ⟨i,h1,hi,ho,hd,hv⟩
  simp only at h1 ho hd hv
  subst h1
  unfold Qdn
  simp only
  by_cases h1:i < x.length
  ·left
   rw [if_pos (by simp [h1])]
   have xi:=Qax hx h1
   have tot:Qh (x.take (i+1))*Qh y < 10000^(i+1+y.length):=by
    have a1:=Qaf (Qiu hx (i+1))
    rw [List.length_take,Nat.min_eq_left (by omega)] at a1
    have a2:(Qh (x.take (i+1))+1)*Qh y≤10000^(i+1)*10000^y.length:=Nat.mul_le_mul a1 hyv
    rw [←Nat.pow_add,Nat.add_mul] at a2
    rcases Nat.eq_zero_or_pos (Qh y) with h | h
    ·rw [h,Nat.mul_zero]; exact Nat.pow_pos (by omega)
    ·omega
   obtain ⟨o',e1,e2,e3,e4⟩:∃o',Qd fuel (Qdt y ((i:Int),o) x) (0,0,o)=some o'∧Xh o'∧o'.length=x.length+y.length∧Qh o'=Qh (x.take (i+1))*Qh y:=by
    refine Z2 (fun s=>∃k c:Nat,s.2.1=(k:Int)∧s.1=(c:Int)∧c≤10000∧i+k≤x.length+y.length∧s.2.2.length=x.length+y.length∧Xh s.2.2∧Qh s.2.2+10000^(i+k)*c=Qh o+10000^i*(x[i].toNat * Qh (y.take k))) (fun s=>M - s.2.1.toNat) _ ?_ (0,0,o)
     ⟨0,0,rfl,rfl,by omega,by omega,ho,hd,by simp [Qh]⟩ (by simp only; omega)
    rintro ⟨c0,k0,o2⟩ ⟨k,c,g1,g2,gc,gk,go,gd,gv⟩
    simp only at g1 g2 go gd gv
    subst g1; subst g2
    have full:y.length≤k→Qh o+10000^i*(x[i].toNat * Qh (y.take k))=Qh (x.take (i+1))*Qh y:=fun h=>by
     rw [List.take_of_length_le h,hv,Qcr h1,Nat.add_mul,Nat.mul_assoc]
    unfold Qdt
    simp only
    have hik:zw ((i:Int)+(k:Int))=((i+k:Nat):Int):=by rw [w64 (by omega)]; omega
    rw [hik]
    by_cases hk:k < y.length
    ·left
     have hj:i+k < o2.length:=by omega
     have yk:=hy _ (List.getElem_mem hk)
     have oj:=Qax gd hj
     rw [if_pos (by simp [hk]),Qn hj]
     simp only [Option.bind_some]
     rw [Qn h1]
     simp only [Option.bind_some]
     rw [Qn hk]
     simp only [Option.bind_some]
     have p1:0≤x[i]*y[k]:=Int.mul_nonneg xi.1 yk.1
     have p2:x[i]*y[k]≤9999*10000:=Int.mul_le_mul (by omega) yk.2 yk.1 (by omega)
     have hc:zw (zw ((c:Int)+o2[i+k])+zw (x[i]*y[k]))=c+o2[i+k]+x[i]*y[k]:=by
      rw [w64 (n:=(c:Int)+o2[i+k]) (by omega),w64 (n:=x[i]*y[k]) (by omega),w64 (by omega)]
     rw [hc,J0 (by omega),Xr (by omega),w64 (n:=_ / 10000) (by omega),w64 (n:=(k:Int)+1) (by omega),Int.toNat_natCast]
     generalize ht:c+o2[i+k]+x[i]*y[k]=t at *
     refine ⟨_,rfl,⟨k+1,(t / 10000).toNat,by simp only; omega,by simp only; omega,by omega,by omega,by simp [go],Qp7 gd (by omega),?_⟩,by simp only; omega⟩
     simp only
     have s1:=Qwg (l:=o2) (k:=i+k) hj (x:=t % 10000) (by omega) oj.1
     have pt:(x[i]*y[k]).toNat = x[i].toNat * y[k].toNat := Int.toNat_mul xi.1 yk.1
     have e1:(t % 10000).toNat + 10000*(t / 10000).toNat = c+o2[i+k].toNat + x[i].toNat * y[k].toNat := by omega
     have e2:10000^(i+k)*((t % 10000).toNat + 10000*(t / 10000).toNat)=10000^(i+k)*(c+o2[i+k].toNat + x[i].toNat * y[k].toNat):=by rw [e1]
     rw [Nat.mul_add,Nat.mul_add,Nat.mul_add,←Nat.mul_assoc] at e2
     rw [Qcr hk,Nat.mul_add,Nat.mul_add,show i+(k+1)=(i+k)+1 by omega,Nat.pow_succ]
     have e3:10000^i*(x[i].toNat * (10000^k*y[k].toNat))=10000^(i+k)*(x[i].toNat * y[k].toNat):=by
      rw [Nat.pow_add,Nat.mul_assoc,Nat.mul_left_comm (10000^k)]
     rw [e3]
     omega
    ·rw [if_neg (by simp; omega)]
     by_cases hc:0 < c
     ·left
      have hj:i+k < o2.length:=by
       rw [full (by omega)] at gv
       have:10000^(i+k)*1≤10000^(i+k)*c:=Nat.mul_le_mul_left _ hc
       have h5:10000^(i+k) < 10000^(i+1+y.length):=by omega
       have:=(Nat.pow_lt_pow_iff_right (by omega)).1 h5
       omega
      have oj:=Qax gd hj
      rw [if_pos (by simp [hc]),Qn hj]
      simp only [Option.bind_some]
      rw [w64 (n:=(c:Int)+o2[i+k]) (by omega),J0 (by omega),Xr (by omega),w64 (n:=_ / 10000) (by omega),w64 (n:=(k:Int)+1) (by omega),Int.toNat_natCast]
      generalize ht:(c:Int)+o2[i+k]=t at *
      refine ⟨_,rfl,⟨k+1,(t / 10000).toNat,by simp only; omega,by simp only; omega,by omega,by omega,by simp [go],Qp7 gd (by omega),?_⟩,by simp only; omega⟩
      simp only
      have s1:=Qwg (l:=o2) (k:=i+k) hj (x:=t % 10000) (by omega) oj.1
      have e1:(t % 10000).toNat + 10000*(t / 10000).toNat = c+o2[i+k].toNat := by omega
      have e2:10000^(i+k)*((t % 10000).toNat + 10000*(t / 10000).toNat)=10000^(i+k)*(c+o2[i+k].toNat):=by rw [e1]
      rw [Nat.mul_add,Nat.mul_add,←Nat.mul_assoc] at e2
      rw [List.take_of_length_le (by omega)] at gv ⊢
      rw [show i+(k+1)=(i+k)+1 by omega,Nat.pow_succ]
      omega
     ·right
      rw [if_neg (by simp; omega)]
      have:c=0:=by omega
      subst this
      rw [full (by omega)] at gv
      exact ⟨o2,rfl,gd,go,by simpa using gv⟩
   rw [e1]
   simp only [Option.bind_some]
   rw [w64 (n:=(i:Int)+1) (by omega)]
   exact ⟨_,rfl,⟨i+1,by simp only; omega,by omega,e3,e2,e4⟩,by simp only; omega⟩
  ·right
   rw [if_neg (by simp; omega)]
   rw [List.take_of_length_le (by omega)] at hv
   exact ⟨o,rfl,hd,ho,hv⟩
 rw [h1]
 simp only [Option.bind_some]
 rw [Qn4 out h2 (by omega),h4]
 rfl
end Go.Ab
namespace Go.Ab
open Go
set_option maxRecDepth 100000
theorem Qo2 (l:List Int) (k:Nat):Qh l=Qh (l.take k)+10000^k*Qh (l.drop k):=by
 rcases Nat.lt_or_ge l.length k with h | h
 ·rw [List.take_of_length_le (by omega),List.drop_of_length_le (by omega)]; simp [Qh]
 ·exact Qe3 h
theorem Qnd {l:List Int} (h:Xh l) (k:Nat):Qh (l.take k) < 10000^k:=by
 have h1:=Qaf (Qiu h k)
 have h2:=Qeg (i:=(l.take k).length) (j:=k) (by simp; omega)
 omega
theorem Q6l (y x:List Int) (hy:Xh y) (hx:Xh x) (n:Nat) (ly:y.length=n+1) (lx:x.length≤n+2) (hn:n≤100000) :
  Qd fuel (Qcy y x) (0,0,((n+1:Nat):Int))=some (((Qh (y.drop (n - 1)):Nat):Int),((Qh (x.drop (n - 1)):Nat):Int)):=by
 have hb:∀t,n - 1≤t→Qh (x.drop t) < 1000000000000∧Qh (y.drop t) < 100000000:=fun t ht=>by
  have h1:=Qaf (Qb0 hx t)
  have h2:=Qeg (i:=(x.drop t).length) (j:=3) (by simp; omega)
  have h3:=Qaf (Qb0 hy t)
  have h4:=Qeg (i:=(y.drop t).length) (j:=2) (by simp; omega)
  omega
 refine Qbx (fun s=>∃t:Nat,s.2.2=(t:Int) - 1∧n - 1≤t∧t≤n+2∧s.1=((Qh (y.drop t):Nat):Int)∧s.2.1=((Qh (x.drop t):Nat):Int)) (fun s=>(s.2.2+1).toNat) _ ?_ _
  ⟨n+2,by simp only; omega,by omega,by omega,by rw [V3 (by omega)]; rfl,by rw [V3 (by omega)]; rfl⟩ (by simp only; omega)
 rintro ⟨top,first,kk⟩ ⟨t,h1,h2,h3,h4,h5⟩
 simp only at h1 h4 h5
 subst h1; subst h4; subst h5
 unfold Qcy
 simp only
 have hn1:zw ((y.length:Int) - 1)=(n:Int):=by rw [w64 (by omega)]; omega
 have hmx:(if zw ((n:Int) - 1) > 0 then zw ((n:Int) - 1) else 0)=((n - 1:Nat):Int):=by
  rw [w64 (by omega)]; split <;> omega
 rw [hn1,hmx]
 by_cases hge:n - 1 < t
 ·left
  obtain ⟨u,rfl⟩:∃u,t=u+1:=⟨t - 1,by omega⟩
  have e:((u+1:Nat):Int) - 1=(u:Int):=by omega
  rw [e]
  have bu:=hb u (by omega)
  have bt:=hb (u+1) (by omega)
  have vx:=Qur x u
  have vy:=Qur y u
  have dx:=Qwh hx u
  have dy:=Qwh hy u
  rw [if_pos (by simp; omega)]
  by_cases hxu:u < x.length
  ·rw [if_pos (by simp [hxu]),Qn hxu]
   simp only [Option.bind_some]
   rw [Qh9 hxu] at vx dx
   rw [w64 (n:=((Qh (x.drop (u+1)):Nat):Int)*10000) (by omega),w64 (n:=((Qh (x.drop (u+1)):Nat):Int)*10000+x[u]) (by omega),w64 (n:=(u:Int) - 1) (by omega)]
   by_cases hyu:u≤n
   ·have hyl:u < y.length:=by omega
    rw [if_pos (by simp [hyu]),Qn hyl]
    simp only [Option.bind_some]
    rw [Qh9 hyl] at vy dy
    rw [w64 (n:=((Qh (y.drop (u+1)):Nat):Int)*10000) (by omega),w64 (n:=((Qh (y.drop (u+1)):Nat):Int)*10000+y[u]) (by omega)]
    exact ⟨_,rfl,⟨u,rfl,by omega,by omega,by simp only; omega,by simp only; omega⟩,by simp only; omega⟩
   ·rw [if_neg (by simp; omega)]
    rw [V3 (l:=y) (k:=u+1) (by omega)]
    exact ⟨_,rfl,⟨u,rfl,by omega,by omega,by simp only [V3 (l:=y) (k:=u) (by omega)],by simp only; omega⟩,by simp only; omega⟩
  ·rw [if_neg (by simp; omega)]
   rw [Qmi (by omega)] at vx dx
   rw [w64 (n:=((Qh (x.drop (u+1)):Nat):Int)*10000) (by omega),w64 (n:=(u:Int) - 1) (by omega)]
   by_cases hyu:u≤n
   ·have hyl:u < y.length:=by omega
    rw [if_pos (by simp [hyu]),Qn hyl]
    simp only [Option.bind_some]
    rw [Qh9 hyl] at vy dy
    rw [w64 (n:=((Qh (y.drop (u+1)):Nat):Int)*10000) (by omega),w64 (n:=((Qh (y.drop (u+1)):Nat):Int)*10000+y[u]) (by omega)]
    exact ⟨_,rfl,⟨u,rfl,by omega,by omega,by simp only; omega,by simp only; omega⟩,by simp only; omega⟩
   ·rw [if_neg (by simp; omega)]
    rw [V3 (l:=y) (k:=u+1) (by omega)]
    exact ⟨_,rfl,⟨u,rfl,by omega,by omega,by simp only [V3 (l:=y) (k:=u) (by omega)],by simp only; omega⟩,by simp only; omega⟩
 ·right
  have:t=n - 1:=by omega
  subst this
  rw [if_neg (by simp; omega)]
theorem Qor {a b:Nat}:Qpx a b≤0↔a≤b:=by
 unfold Qpx
 split
 ·omega
 ·split <;> omega
theorem Qys {q:Nat} (h0:0 < q) (h:q < 10000):dgs q=[(q:Int)]:=by
 rw [Qcm (by omega),show q / 10000=0 by omega,X2,Nat.mod_eq_of_lt h]
theorem Q24 (b R lo hi:Nat) (hb:0 < b) (lb:(dgs b).length≤9000) (lR:(dgs R).length≤10000) (h1:lo≤R / b) (h2:R / b≤hi) (h3:hi≤10000) :
  Qd fuel (Qcw (dgs b) (dgs R)) ((lo:Int),(hi:Int))=some ((R / b:Nat):Int):=by
 refine Qbx (fun s=>∃l h:Nat,s.1=(l:Int)∧s.2=(h:Int)∧l≤R / b∧R / b≤h∧h≤10000) (fun s=>(s.2 - s.1).toNat) _ ?_ _ ⟨lo,hi,rfl,rfl,h1,h2,h3⟩ (by simp only; omega)
 rintro ⟨l0,h0⟩ ⟨l,h,e1,e2,g1,g2,g3⟩
 simp only at e1 e2
 subst e1; subst e2
 unfold Qcw
 simp only
 by_cases hlt:l < h
 ·left
  rw [if_pos (by simp [hlt])]
  rw [w64 (n:=(l:Int)+h) (by omega),w64 (n:=(l:Int)+h+1) (by omega),J0 (by omega),w64 (by omega)]
  obtain ⟨mid,hm⟩:∃mid:Nat,((l:Int)+h+1) / 2=(mid:Int):=⟨(((l:Int)+h+1) / 2).toNat,by omega⟩
  rw [hm]
  have hv:Qh [(mid:Int)]=mid:=by simp [Qh]
  rw [Qpe (dgs b) [(mid:Int)] (Z5 b) (by intro z hz; rw [List.mem_singleton] at hz; omega) (by rw [hv]; simp; omega) (by omega) (by simp),hv,Zs]
  simp only [Option.bind_some]
  obtain ⟨L,hL⟩:∃L:Nat,L=10000:=⟨_,rfl⟩
  have lm:(dgs (b*mid)).length≤L:=by
   refine Xd ?_
   have a1:=Qhh b
   have a2:b*mid≤b*10000:=Nat.mul_le_mul_left _ (by omega)
   have a3:b*10000 < 10000^((dgs b).length+1):=by rw [Nat.pow_succ]; omega
   have a5:=Qeg (i:=(dgs b).length+1) (j:=L) (by omega)
   omega
  rw [Qe2 _ _ (by omega) (by omega)]
  simp only [Option.bind_some]
  by_cases hc:b*mid≤R
  ·have hq:mid≤R / b:=(Nat.le_div_iff_mul_le hb).2 (by rw [Nat.mul_comm]; exact hc)
   rw [if_pos (by simpa using Qor.2 hc)]
   exact ⟨_,rfl,⟨mid,h,rfl,rfl,hq,g2,g3⟩,by simp only; omega⟩
  ·have hq:R / b < mid:=(Nat.div_lt_iff_lt_mul hb).2 (by rw [Nat.mul_comm]; omega)
   rw [if_neg (by simpa using fun h=>hc (Qor.1 h)),w64 (by omega)]
   exact ⟨_,rfl,⟨l,mid - 1,rfl,by simp only; omega,g1,by omega,by omega⟩,by simp only; omega⟩
 ·right
  rw [if_neg (by simp; omega)]
  have:l=R / b:=by omega
  rw [this]
theorem Qnn (a b:Nat) (hb:0 < b) (la:(dgs a).length≤8000) (lb:(dgs b).length≤8000):Jt (dgs a) (dgs b)=some (dgs (a / b),dgs (a % b)):=by
 unfold Jt
 obtain ⟨n,hn⟩:∃n,(dgs b).length=n+1:=by
  have:(dgs b).length≠0:=by rw [Ne,List.length_eq_zero_iff,Qg3]; omega
  exact ⟨(dgs b).length - 1,by omega⟩
 have hn1:zw (((dgs b).length:Int) - 1)=(n:Int):=by rw [w64 (by omega)]; omega
 rw [hn1]
 by_cases hle:(dgs a).length≤n
 ·rw [if_pos (by simp [hle]),if_pos (by omega)]
  have hab:=Qm2 (a:=a) (b:=b) (by omega)
  rw [Nat.div_eq_of_lt hab,Nat.mod_eq_of_lt hab,X2]
 ·obtain ⟨m,hm⟩:∃m,(dgs a).length=n+m∧0 < m:=⟨(dgs a).length - n,by omega,by omega⟩
  have hm1:zw (((dgs a).length:Int) - (n:Int))=(m:Int):=by rw [w64 (by omega)]; omega
  rw [if_neg (by simp; omega),hm1,if_pos (by omega),if_pos (by omega)]
  have hsub:sub (dgs a) (m:Int) ((dgs a).length:Int)=(dgs a).drop m:=by
   simp only [sub,Int.toNat_natCast]
   rw [List.take_of_length_le (by simp)]
  rw [hsub,if_pos (by simp; omega),Int.toNat_natCast,List.length_replicate,w64 (by omega)]
  obtain ⟨M,hM⟩:∃M:Nat,M=2000005:=⟨_,rfl⟩
  have hpb:Xh (dgs b):=Z5 b
  have hnb:Qek (dgs b):=Qv6 b
  have bpow:b < 10000^(n+1):=by have:=Qhh b; rwa [hn] at this
  obtain ⟨out,h1,R,Q,h2,h3,h4,h5,h6⟩:∃out:List Int × List Int,Qd fuel (Qcz (dgs a) (dgs b)) ((dgs a).drop m,(m:Int) - 1,List.replicate m 0)=some out∧∃R Q:Nat,out.1=dgs R∧R < b∧Xh out.2∧out.2.length=m∧a=b*Qh out.2+R:=by
   refine (Z2 (fun (s:List Int × Int × List Int)=>∃k R:Nat,s.2.1=(k:Int) - 1∧k≤m∧s.1=dgs R∧R < b∧s.2.2.length=m∧Xh s.2.2∧Qh ((dgs a).drop k)=b*Qh (s.2.2.drop k)+R) (fun s=>(s.2.1+1).toNat) (fun (out:List Int × List Int)=>∃R Q:Nat,out.1=dgs R∧R < b∧Xh out.2∧out.2.length=m∧a=b*Qh out.2+R) ?_ _ ?_ (by simp only; omega))
   ·rintro ⟨rest,i0,qs⟩ ⟨k,R,e1,e2,e3,e4,e5,e6,e7⟩
    simp only at e1 e3 e5 e6 e7
    subst e1; subst e3
    unfold Qcz
    simp only
    cases k with
    | zero =>
     right
     rw [if_neg (by simp)]
     refine ⟨_,rfl,R,0,rfl,e4,e6,e5,?_⟩
     rw [List.drop_zero,List.drop_zero,Zs] at e7
     exact e7
    | succ j =>
     left
     have e:((j+1:Nat):Int) - 1=(j:Int):=by omega
     rw [e,if_pos (by simp)]
     have hj:j < (dgs a).length:=by omega
     have aj:=Qax (Z5 a) hj
     rw [Qn hj]
     simp only [Option.bind_some]
     have lR:(dgs R).length≤n+1:=Xd (by omega)
     have hcons:Xh ([(dgs a)[j]]++dgs R):=by rw [Qo3]; exact ⟨Qfy.2 ⟨aj,Qkx⟩,Z5 R⟩
     rw [if_pos (by simp; omega),Qn4 _ hcons (by simp; omega)]
     have hval:Qh ([(dgs a)[j]]++dgs R)=(dgs a)[j].toNat + 10000*R:=by simp [Qh,Zs]
     rw [hval]
     simp only [Option.bind_some]
     generalize hR':(dgs a)[j].toNat + 10000*R=R' at *
     have R'lt:R' < 10000*b:=by omega
     have lR':(dgs R').length≤n+2:=Xd (by rw [Nat.pow_succ]; omega)
     rw [hn1,w64 (n:=(n:Int)+1) (by omega),show (n:Int)+1=((n+1:Nat):Int) by omega,Q6l (dgs b) (dgs R') hpb (Z5 R') n hn lR' (by omega)]
     simp only [Option.bind_some]
     have sb:=Qo2 (dgs b) (n - 1)
     have sR:=Qo2 (dgs R') (n - 1)
     rw [Zs] at sb sR
     have tb:=Qnd hpb (n - 1)
     have tR:=Qnd (Z5 R') (n - 1)
     have tpos:=Qlw hpb hnb (k:=n - 1) (by omega)
     have tbig:n=0∨10000≤Qh ((dgs b).drop (n - 1)):=by
      rcases Nat.eq_zero_or_pos n with h | h
      ·exact .inl h
      ·right
       rw [Qby (by omega),show n - 1+1=n by omega]
       have:=Qlw hpb hnb (k:=n) (by omega)
       omega
     have tlim:Qh ((dgs b).drop (n - 1)) < 100000000:=by
      have h3:=Qaf (Qb0 hpb (n - 1))
      have h4:=Qeg (i:=((dgs b).drop (n - 1)).length) (j:=2) (by simp; omega)
      omega
     have flim:Qh ((dgs R').drop (n - 1)) < 1000000000000:=by
      have h3:=Qaf (Qb0 (Z5 R') (n - 1))
      have h4:=Qeg (i:=((dgs R').drop (n - 1)).length) (j:=3) (by simp; omega)
      omega
     generalize hT:Qh ((dgs b).drop (n - 1))=T at *
     generalize hF:Qh ((dgs R').drop (n - 1))=F at *
     generalize hbl:Qh ((dgs b).take (n - 1))=bl at *
     generalize hRl:Qh ((dgs R').take (n - 1))=Rl at *
     rw [w64 (n:=(T:Int)+1) (by omega),if_pos (by omega),if_pos (by omega),J0 (by omega),J0 (by omega)]
     have c1:(F:Int) / ((T:Int)+1)=((F / (T+1):Nat):Int):=by simp
     have c2:(F:Int) / (T:Int)=((F / T:Nat):Int):=by simp
     have b1:F / (T+1)≤F:=Nat.div_le_self _ _
     have b2:F / T≤F:=Nat.div_le_self _ _
     rw [c1,c2]
     have q1:F / (T+1)≤R' / b:=by
      rw [Nat.le_div_iff_mul_le hb]
      have x1:F / (T+1)*(T+1)≤F:=Nat.div_mul_le_self _ _
      have x2:b≤10000^(n - 1)*(T+1):=by rw [Nat.mul_add]; omega
      have x3:F / (T+1)*b≤F / (T+1)*(10000^(n - 1)*(T+1)):=Nat.mul_le_mul_left _ x2
      have x4:F / (T+1)*(10000^(n - 1)*(T+1))=10000^(n - 1)*(F / (T+1)*(T+1)):=by rw [Nat.mul_left_comm]
      have x5:10000^(n - 1)*(F / (T+1)*(T+1))≤10000^(n - 1)*F:=Nat.mul_le_mul_left _ x1
      omega
     have q2:R' / b≤F / T:=by
      rw [Nat.le_div_iff_mul_le tpos]
      have x1:R' / b*b≤R':=Nat.div_mul_le_self _ _
      have x2:R' / b*(10000^(n - 1)*T)≤R' / b*b:=Nat.mul_le_mul_left _ (by omega)
      have x3:R' / b*(10000^(n - 1)*T)=10000^(n - 1)*(R' / b*T):=by rw [Nat.mul_left_comm]
      have x4:10000^(n - 1)*(R' / b*T) < 10000^(n - 1)*(F+1):=by rw [Nat.mul_add (10000^(n - 1)) F]; omega
      have:=Nat.lt_of_mul_lt_mul_left x4
      omega
     have q3:F / T≤10000:=by
      have x1:10000^(n - 1)*F < 10000^(n - 1)*(10000*(T+1)):=by
       have:10000^(n - 1)*(10000*(T+1))=10000*(10000^(n - 1)*(T+1)):=Nat.mul_left_comm _ _ _
       rw [this,Nat.mul_add (10000^(n - 1))]
       omega
      have x2:=Nat.lt_of_mul_lt_mul_left x1
      rcases tbig with h | h
      ·subst h
       simp only [Nat.zero_sub,Nat.pow_zero,Nat.one_mul] at sb sR tb tR
       have:F < 10000*T:=by omega
       exact Nat.le_of_lt ((Nat.div_lt_iff_lt_mul tpos).2 this)
      ·have:F < 10001*T:=by omega
       have:=(Nat.div_lt_iff_lt_mul tpos).2 this
       omega
     have q9:R' / b < 10000:=(Nat.div_lt_iff_lt_mul hb).2 (by omega)
     have w1:∀x:Nat,x≤F→zw (x:Int)=(x:Int):=fun x hx=>w64 (by omega)
     rw [w1 _ b1,w1 _ b2,Q24 b R' _ _ hb (by omega) (by omega) q1 q2 q3]
     simp only [Option.bind_some]
     have hd:=Nat.div_add_mod R' b
     have hmod:R' - b*(R' / b)=R' % b:=by omega
     have hml:=Nat.mul_div_le R' b
     have hmb:=Nat.mod_lt R' hb
     generalize R' / b=q at *
     generalize R' % b=r at *
     rw [Qn (l:=qs) (k:=j) (by omega)]
     simp only [Option.bind_some]
     rw [Qn4 [(q:Int)] (Qfy.2 ⟨by omega,Qkx⟩) (by simp)]
     simp only [Option.bind_some]
     have hv:Qh [(q:Int)]=q:=by simp [Qh]
     rw [hv]
     have lq:(dgs q).length≤1:=Xd (by omega)
     rw [Qpe (dgs b) (dgs q) hpb (fun z hz=>by have:=Z5 q z hz; omega) (by rw [Zs]; exact Nat.le_of_lt (Qhh _)) (by omega) (by omega),Zs,Zs]
     simp only [Option.bind_some]
     rw [Q3o _ _ hml (by omega),hmod]
     simp only [Option.bind_some]
     rw [w64 (n:=(j:Int) - 1) (by omega),Int.toNat_natCast]
     refine ⟨_,rfl,⟨j,r,rfl,by omega,rfl,hmb,by simp [e5],Qp7 e6 (by omega),?_⟩,by simp only; omega⟩
     simp only
     have hset:(qs.set j (q:Int)).drop j=(q:Int)::qs.drop (j+1):=by
      rw [List.drop_eq_getElem_cons (by simp; omega),List.getElem_set_self,List.drop_set_of_lt (by omega)]
     rw [hset,Qby hj,e7]
     simp only [Qh,Int.toNat_natCast]
     rw [Nat.mul_add,Nat.mul_add,Nat.mul_left_comm b 10000]
     omega
   ·refine ⟨m,Qh ((dgs a).drop m),rfl,Nat.le_refl _,?_,?_,by simp,Qjw _,?_⟩
    ·simp only
     by_cases h0:n=0
     ·rw [List.drop_of_length_le (by omega)]; simp [Qh,X2]
     ·refine (Quh (Qb0 (Z5 a) m) ?_).symm
      have:=Qv6 a
      unfold Qek at *
      rwa [List.getLast?_drop,if_neg (by omega)]
    ·have h1:=Qaf (Qb0 (Z5 a) m)
     have h2:=Q1b (n:=b) (by omega)
     rw [List.length_drop] at h1
     have h3:=Qeg (i:=(dgs a).length - m) (j:=(dgs b).length - 1) (by omega)
     omega
    ·simp only
     rw [List.drop_of_length_le (l:=List.replicate m (0:Int)) (by simp)]; simp [Qh]
  rw [h1]
  simp only [Option.bind_some]
  rw [Qn4 _ h4 (by omega),h2]
  simp only [Option.bind_some]
  have e1:a / b=Qh out.2:=by
   rw [h6,Nat.mul_add_div hb,Nat.div_eq_of_lt h3,Nat.add_zero]
  have e2:a % b=R:=by
   rw [h6,Nat.mul_add_mod,Nat.mod_eq_of_lt h3]
  rw [e1,e2]
end Go.Ab
namespace Go.Ab
open Go
set_option maxRecDepth 100000
theorem Qfx {a b:Nat} (h:a≤b):(dgs a).length≤(dgs b).length:=by
 rcases Nat.lt_or_ge (dgs b).length (dgs a).length with h1 | h1
 ·have:=Qm2 h1; omega
 ·exact h1
theorem Q1p {p q:Nat} (h:2*(p+1)≤q+1):Nat.log2 (p+1) < Nat.log2 (q+1):=by
 have h1:2^Nat.log2 (p+1)≤p+1:=(Nat.le_log2 (by omega)).1 (Nat.le_refl _)
 have h2:Nat.log2 (p+1)+1≤Nat.log2 (q+1):=(Nat.le_log2 (by omega)).2 (by rw [Nat.pow_succ]; omega)
 omega
theorem Q3f {x K:Nat} (h:(dgs x).length≤K):Nat.log2 (x+1)≤14*K+1:=by
 have h1:=Qhh x
 have h2:=Qeg (i:=(dgs x).length) (j:=K) h
 have h3:(10000:Nat)^K≤(2^14)^K:=Nat.pow_le_pow_left (by omega) K
 rw [←Nat.pow_mul] at h3
 have h4:x+1 < 2^(14*K+1):=by rw [Nat.pow_succ]; omega
 have:=(Nat.log2_lt (by omega)).2 h4
 omega
def gm (x y:Nat):Nat := if y≤x then Nat.log2 (x*y+1) else Nat.log2 (x*y+1)+1
theorem Qyh {x y:Nat} (hy:0 < y):gm y (x % y) < gm x y:=by
 have hr:=Nat.mod_lt x hy
 unfold gm
 rw [if_pos (by omega)]
 by_cases h:y≤x
 ·rw [if_pos h]
  refine Q1p ?_
  have h1:y+x % y≤x:=by
   have:=Nat.div_add_mod x y
   have h2:1≤x / y:=(Nat.one_le_div_iff hy).2 h
   have h3:y*1≤y*(x / y):=Nat.mul_le_mul_left _ h2
   omega
  have h4:(2*(x % y)+1)*y≤x*y:=Nat.mul_le_mul_right _ (by omega)
  rw [Nat.add_mul,Nat.mul_assoc,Nat.mul_comm (x % y) y] at h4
  omega
 ·rw [if_neg h,Nat.mod_eq_of_lt (by omega),Nat.mul_comm]
  omega
theorem Qvz (x y:Nat):Nat.gcd x y=Nat.gcd y (x % y):=by
 rw [Nat.gcd_comm,Nat.gcd_rec,Nat.gcd_comm]
theorem Q1w {x y:Nat} (hx:(dgs x).length≤8000) (hy:(dgs y).length≤8000):gm x y < 1152921504606846976:=by
 have h1:=Qhh x
 have h2:=Qhh y
 have h3:(dgs (x*y)).length≤16000:=by
  have:(dgs (x*y)).length≤(dgs x).length+(dgs y).length:=Xd (by rw [Nat.pow_add]; exact Nat.mul_lt_mul'' h1 h2)
  omega
 have:=Q3f h3
 unfold gm
 split <;> omega
theorem Q0h (a b:Nat) (la:(dgs a).length≤8000) (lb:(dgs b).length≤8000):Qc7 (dgs a) (dgs b)=some (dgs (Nat.gcd a b)):=by
 unfold Qc7
 rw [Qbx (fun s=>∃x y:Nat,s.1=dgs x∧s.2=dgs y∧(dgs x).length≤8000∧(dgs y).length≤8000∧Nat.gcd x y=Nat.gcd a b) (fun s=>gm (Qh s.1) (Qh s.2)) (dgs (Nat.gcd a b)) ?_ (dgs a,dgs b) ⟨a,b,rfl,rfl,la,lb,rfl⟩ (by simp only [Zs]; exact Q1w la lb)]
 ·rfl
 ·rintro ⟨x0,y0⟩ ⟨x,y,h1,h2,h3,h4,h5⟩
  simp only at h1 h2
  subst h1; subst h2
  unfold Qju
  simp only
  by_cases hy:y=0
  ·right
   subst hy
   rw [X2,if_neg (by simp)]
   rw [Nat.gcd_zero_right] at h5
   rw [h5]
  ·left
   have hne:(dgs y).length≠0:=by rw [Ne,List.length_eq_zero_iff,Qg3]; exact hy
   rw [if_pos (by simp; omega),Qnn x y (by omega) h3 h4]
   simp only [Option.bind_some]
   refine ⟨_,rfl,⟨y,x % y,rfl,rfl,h4,?_,?_⟩,?_⟩
   ·have:=Qfx (a:=x % y) (b:=y) (Nat.le_of_lt (Nat.mod_lt _ (by omega))); omega
   ·rw [←h5,Qvz x y]
   ·simp only [Zs]
    exact Qyh (by omega)
def MX:Nat := 4611686018427387903
theorem Qvy (a:Nat) (la:(dgs a).length≤8000):Qa2 (dgs a)=some (if a≤MX then ((a:Int),true) else (0,false)):=by
 unfold Qa2
 rw [Kv _ (by omega)]
 simp only [Option.bind_some]
 rw [show Int.natAbs 4611686018427387903=MX from rfl]
 have lm:(dgs MX).length≤5:=Xd (by decide)
 rw [Qe2 _ _ (by omega) (by omega)]
 simp only [Option.bind_some]
 by_cases h:a≤MX
 ·rw [if_neg (by simpa using Qor.2 h),if_pos h]
  have hMX:MX=4611686018427387903:=rfl
  rw [Qbx (fun s=>∃k:Nat,s.2=(k:Int) - 1∧k≤(dgs a).length∧s.1=((Qh ((dgs a).drop k):Nat):Int)) (fun s=>(s.2+1).toNat) (a:Int) ?_ _ ⟨(dgs a).length,by simp only; rw [w64 (by omega)],Nat.le_refl _,by simp [Qh]⟩ (by simp only; rw [w64 (by omega)]; omega)]
  ·rfl
  ·rintro ⟨v,i⟩ ⟨k,h1,h2,h3⟩
   simp only at h1 h3
   subst h1; subst h3
   unfold Qhn
   simp only
   cases k with
   | zero =>
    right
    rw [if_neg (by simp),List.drop_zero,Zs]
   | succ j =>
    left
    have e:((j+1:Nat):Int) - 1=(j:Int):=by omega
    rw [e,if_pos (by simp),Qn (by omega)]
    simp only [Option.bind_some]
    have hv:=Qby (l:=dgs a) (k:=j) (by omega)
    have hd:=Qax (Z5 a) (k:=j) (by omega)
    have hle:Qh ((dgs a).drop j)≤a:=by
     have h1:=Qe3 (l:=dgs a) (k:=j) (by omega)
     rw [Zs] at h1
     have h2:1*Qh ((dgs a).drop j)≤10000^j*Qh ((dgs a).drop j):=Nat.mul_le_mul_right _ (Q3g j)
     omega
    rw [w64 (n:=10000*((Qh ((dgs a).drop (j+1)):Nat):Int)) (by omega),w64 (by omega),w64 (by omega)]
    exact ⟨_,rfl,⟨j,rfl,by omega,by simp only; omega⟩,by simp only; omega⟩
 ·rw [if_pos (by simpa using fun h'=>h (Qor.1 h')),if_neg h]
def mkQ (neg:Bool) (n d:Nat):Tapi_Q × Bool :=
 if n / Nat.gcd n d≤MX then (if d / Nat.gcd n d≤MX then (⟨if neg then -((n / Nat.gcd n d:Nat):Int) else ((n / Nat.gcd n d:Nat):Int),((d / Nat.gcd n d:Nat):Int)⟩,true) else (⟨0,0⟩,false)) else (⟨0,0⟩,false)
theorem Q5n (neg:Bool) (n d:Nat) (hd:0 < d) (ln:(dgs n).length≤8000) (ld:(dgs d).length≤8000):Qej neg (dgs n) (dgs d)=some (mkQ neg n d):=by
 unfold Qej mkQ
 rw [Q0h n d ln ld]
 simp only [Option.bind_some]
 have hg:0 < Nat.gcd n d:=Nat.gcd_pos_of_pos_right _ hd
 have lg:=Qfx (Nat.le_of_dvd hd (Nat.gcd_dvd_right n d))
 have l1:=Qfx (Nat.div_le_self n (Nat.gcd n d))
 have l2:=Qfx (Nat.div_le_self d (Nat.gcd n d))
 rw [Qnn n _ hg ln (by omega),Qnn d _ hg ld (by omega)]
 simp only [Option.bind_some]
 rw [Qvy _ (by omega),Qvy _ (by omega)]
 simp only [Option.bind_some]
 have hMX:MX=4611686018427387903:=rfl
 by_cases h1:n / Nat.gcd n d≤MX
 ·by_cases h2:d / Nat.gcd n d≤MX
  ·generalize n / Nat.gcd n d=x at *
   generalize d / Nat.gcd n d=y at *
   simp only [h1,h2,if_true,Bool.not_true,Bool.false_eq_true,if_false]
   cases neg
   ·simp
   ·rw [if_pos rfl,w64 (by omega)]; simp
  ·simp only [h1,h2,if_true,if_false,Bool.not_true,Bool.not_false,Bool.false_eq_true]
 ·simp only [h1,if_false,Bool.not_false,if_true]
theorem Qrk {p:Int} (h:-9223372036854775808≤p∧p≤9223372036854775807):(dgs p.natAbs).length≤5:=Xd (by omega)
theorem Q5r (n d:Int) (hn:-9223372036854775808≤n∧n≤9223372036854775807) (hd:-9223372036854775808≤d∧d≤9223372036854775807) (h0:d≠0) :
  Qeq n d=some (mkQ (!((decide (n < 0))==(decide (d < 0)))) n.natAbs d.natAbs):=by
 unfold Qeq
 have l1:=Qrk hn
 have l2:=Qrk hd
 rw [Kv n hn,Kv d hd]
 simp only [Option.bind_some]
 rw [Q5n _ _ _ (by omega) (by omega) (by omega)]
 rfl
end Go.Ab
namespace Go.Ab
open Go
theorem Qko {n:Int} (h:0≤n∧n < 18446744073709551616):zv n=n:=by
 obtain ⟨m,rfl⟩:=Int.eq_ofNat_of_zero_le h.1
 exact Yx (by omega)
theorem Qyi {n:Int} (h:n < 0∧-18446744073709551616≤n):zv n=n+18446744073709551616:=by
 simp [IntKind.wrap,IntKind.bits,IntKind.signed]; omega
theorem Qs6 (a b:Nat) (ha:a < 18446744073709551616) (hb:b < 18446744073709551616):Qa6 (a:Int) (b:Int)=some ((Nat.gcd a b:Nat):Int):=by
 have l1:(dgs a).length≤5:=Xd (by omega)
 have l2:(dgs b).length≤5:=Xd (by omega)
 have lim:gm a b < 1152921504606846976:=Q1w (by omega) (by omega)
 unfold Qa6
 rw [Qbx (fun s=>∃x y:Nat,s.1=(x:Int)∧s.2=(y:Int)∧Nat.gcd x y=Nat.gcd a b) (fun s=>gm s.1.toNat s.2.toNat) ((Nat.gcd a b:Nat):Int) ?_ _ ⟨a,b,rfl,rfl,rfl⟩ (by simpa using lim)]
 ·rfl
 ·rintro ⟨x0,y0⟩ ⟨x,y,h1,h2,h3⟩
  simp only at h1 h2
  subst h1; subst h2
  unfold Qhi
  simp only
  by_cases hy:y=0
  ·right
   subst hy
   rw [if_neg (by simp)]
   rw [Nat.gcd_zero_right] at h3
   rw [h3]
  ·left
   rw [if_pos (by simp; omega),if_pos (by omega),Xr (by omega)]
   refine ⟨_,rfl,⟨y,x % y,rfl,by simp,?_⟩,?_⟩
   ·rw [←h3,Qvz x y]
   ·simp only [Int.toNat_natCast]
    rw [show ((x:Int) % (y:Int)).toNat = x % y by rw [←Int.natCast_emod,Int.toNat_natCast]]
    exact Qyh (by omega)
theorem Qhz {p:Int} (h:-9223372036854775808≤p∧p≤9223372036854775807):Y4 p=some (p.natAbs:Int):=by
 unfold Y4
 by_cases h0:p < 0
 ·rw [if_pos (by simpa using h0)]
  have e:zv p=p+18446744073709551616:=Qyi (by omega)
  rw [e,Qyi (by omega)]
  congr 1; omega
 ·rw [if_neg (by simpa using h0),Qko (by omega)]
  congr 1; omega
def Rt (q:Tapi_Q):Prop:=1≤q.D∧q.D≤4611686018427387903∧-4611686018427387903≤q.N∧q.N≤4611686018427387903∧Nat.gcd q.N.natAbs q.D.natAbs=1
instance instRt (q:Tapi_Q):Decidable (Rt q):=by unfold Rt; infer_instance
def I64 (q:Tapi_Q):Prop:=(-9223372036854775808≤q.N∧q.N≤9223372036854775807)∧(-9223372036854775808≤q.D∧q.D≤9223372036854775807)
theorem Rt.i64 {q:Tapi_Q} (h:Rt q):I64 q:=by obtain ⟨h1,h2,h3,h4,_⟩:=h; unfold I64; omega
theorem Qpw (q:Tapi_Q):Qak q=some (if Rt q then 0 else 5):=by
 unfold Qak
 by_cases h1:q.D < 1
 ·rw [if_pos (by simpa using h1),if_neg (fun h=>by have:=h.1; omega)]
 rw [if_neg (by simpa using h1)]
 by_cases h2:q.D > 4611686018427387903
 ·rw [if_pos (by simpa using h2),if_neg (fun h=>by have:=h.2.1; omega)]
 rw [if_neg (by simpa using h2)]
 by_cases h3:q.N < -4611686018427387903
 ·rw [if_pos (by simpa using h3),if_neg (fun h=>by have:=h.2.2.1; omega)]
 rw [if_neg (by simpa using h3)]
 by_cases h4:q.N > 4611686018427387903
 ·rw [if_pos (by simpa using h4),if_neg (fun h=>by have:=h.2.2.2.1; omega)]
 rw [if_neg (by simpa using h4),Qhz (by omega)]
 simp only [Option.bind_some]
 have eD:zv q.D=((q.D.natAbs:Nat):Int):=by rw [Qko (by omega)]; omega
 rw [eD,Qs6 _ _ (by omega) (by omega)]
 simp only [Option.bind_some]
 by_cases h5:Nat.gcd q.N.natAbs q.D.natAbs=1
 ·rw [if_neg (by simp [h5]),if_pos ⟨by omega,by omega,by omega,by omega,h5⟩]
 ·rw [if_pos (by simpa using (fun e:((Nat.gcd q.N.natAbs q.D.natAbs:Nat):Int)=1=>h5 (by omega))),if_neg (fun h=>h5 h.2.2.2.2)]
theorem Q2t (q:Tapi_Q):Qdi q=some (decide (Rt q)):=by
 unfold Qdi
 by_cases h1:q.D < 1
 ·rw [if_pos (by simpa using h1),decide_eq_false (fun h=>by have:=h.1; omega)]
 rw [if_neg (by simpa using h1)]
 by_cases h2:q.D > 4611686018427387903
 ·rw [if_pos (by simpa using h2),decide_eq_false (fun h=>by have:=h.2.1; omega)]
 rw [if_neg (by simpa using h2)]
 by_cases h4:q.N > 4611686018427387903
 ·rw [if_pos (by simpa using h4),decide_eq_false (fun h=>by have:=h.2.2.2.1; omega)]
 rw [if_neg (by simpa using h4)]
 by_cases h3:q.N < -4611686018427387903
 ·rw [if_pos (by simpa using h3),decide_eq_false (fun h=>by have:=h.2.2.1; omega)]
 rw [if_neg (by simpa using h3),Kv _ (by omega),Kv _ (by omega)]
 simp only [Option.bind_some]
 have l1:=Qrk (p:=q.N) (by omega)
 have l2:=Qrk (p:=q.D) (by omega)
 rw [Q0h _ _ (by omega) (by omega)]
 simp only [Option.bind_some]
 have l3:(dgs (Nat.gcd q.N.natAbs q.D.natAbs)).length≤5:=Nat.le_trans (Qfx (Nat.le_of_dvd (by omega) (Nat.gcd_dvd_right _ _))) l2
 rw [show ([1]:List Int)=dgs 1 from (Qys (q:=1) (by omega) (by omega)).symm,Qe2 _ _ (by omega) (by have:(dgs 1).length≤1:=Xd (by omega); omega)]
 simp only [Option.bind_some]
 congr 1
 by_cases h5:Nat.gcd q.N.natAbs q.D.natAbs=1
 ·rw [decide_eq_true ⟨by omega,by omega,by omega,by omega,h5⟩,h5]; rfl
 ·rw [decide_eq_false (fun h=>h5 h.2.2.2.2)]
  unfold Qpx
  by_cases hl:Nat.gcd q.N.natAbs q.D.natAbs < 1
  ·rw [if_pos hl]; rfl
  ·rw [if_neg hl,if_neg h5]; rfl
def qI (n d:Int):Tapi_Q:=(mkQ (!((decide (n < 0))==(decide (d < 0)))) n.natAbs d.natAbs).1
theorem Q2g {n d:Int} (hd:d≠0) (hn:n.natAbs≤MX) (hd':d.natAbs≤MX):qI n d=⟨if (!((decide (n < 0))==(decide (d < 0))))=true then -((n.natAbs / Nat.gcd n.natAbs d.natAbs:Nat):Int) else ((n.natAbs / Nat.gcd n.natAbs d.natAbs:Nat):Int),((d.natAbs / Nat.gcd n.natAbs d.natAbs:Nat):Int)⟩:=by
 unfold qI mkQ
 have h1:=Nat.div_le_self n.natAbs (Nat.gcd n.natAbs d.natAbs)
 have h2:=Nat.div_le_self d.natAbs (Nat.gcd n.natAbs d.natAbs)
 rw [if_pos (by omega),if_pos (by omega)]
theorem Qrd {n d:Int} (hn:-9223372036854775808≤n∧n≤9223372036854775807) (hd:-9223372036854775808≤d∧d≤9223372036854775807) (h0:d≠0):Yb n d=some (qI n d):=by
 unfold Yb
 rw [Q5r n d hn hd h0]
 rfl
theorem Q6b {n d:Int} (hn:n.natAbs≤MX) (hd:d.natAbs≤MX) (h0:d≠0):Qbd n d=some (qI n d,0):=by
 have hMX:MX=4611686018427387903:=rfl
 unfold Qbd
 rw [if_neg (by simpa using h0)]
 unfold Qdx
 rw [Qhz (by omega),Qhz (by omega)]
 simp only [Option.bind_some]
 rw [Qs6 _ _ (by omega) (by omega)]
 simp only [Option.bind_some]
 have hg:0 < Nat.gcd n.natAbs d.natAbs:=Nat.gcd_pos_of_pos_right _ (by omega)
 rw [if_pos (by omega),if_pos (by omega)]
 have h1:=Nat.div_le_self n.natAbs (Nat.gcd n.natAbs d.natAbs)
 have h2:=Nat.div_le_self d.natAbs (Nat.gcd n.natAbs d.natAbs)
 have e1:Int.tdiv (n.natAbs:Int) ((Nat.gcd n.natAbs d.natAbs:Nat):Int)=((n.natAbs / Nat.gcd n.natAbs d.natAbs:Nat):Int):=by rw [J0 (by omega)]; simp
 have e2:Int.tdiv (d.natAbs:Int) ((Nat.gcd n.natAbs d.natAbs:Nat):Int)=((d.natAbs / Nat.gcd n.natAbs d.natAbs:Nat):Int):=by rw [J0 (by omega)]; simp
 rw [e1,e2,Q2g h0 hn hd]
 generalize n.natAbs / Nat.gcd n.natAbs d.natAbs=x at *
 generalize d.natAbs / Nat.gcd n.natAbs d.natAbs=y at *
 rw [Qko (by omega),Qko (by omega)]
 unfold Qli
 simp only
 rw [if_neg (by simp),if_neg (by simp; omega),if_neg (by simp),if_neg (by simp; omega)]
 generalize (!((decide (n < 0))==(decide (d < 0))))=b
 cases b
 ·rw [if_neg (by simp),if_neg (by simp),w64 (by omega),w64 (by omega)]; rfl
 ·rw [if_pos rfl,if_pos rfl,w64 (n:=(x:Int)) (by omega),w64 (n:=(y:Int)) (by omega),w64 (by omega)]
  simp
theorem Qoo {n d:Int} (hn:n.natAbs≤MX) (hd:d.natAbs≤MX) (h0:d≠0):Rt (qI n d)∧(qI n d).N*d=n*(qI n d).D:=by
 have hMX:MX=4611686018427387903:=rfl
 rw [Q2g h0 hn hd]
 have hg:0 < Nat.gcd n.natAbs d.natAbs:=Nat.gcd_pos_of_pos_right _ (by omega)
 have hc:Nat.gcd (n.natAbs / Nat.gcd n.natAbs d.natAbs) (d.natAbs / Nat.gcd n.natAbs d.natAbs)=1:=by rw [Nat.gcd_div (Nat.gcd_dvd_left _ _) (Nat.gcd_dvd_right _ _),Nat.div_self hg]
 have hx:n.natAbs=n.natAbs / Nat.gcd n.natAbs d.natAbs*Nat.gcd n.natAbs d.natAbs:=(Nat.div_mul_cancel (Nat.gcd_dvd_left _ _)).symm
 have hy:d.natAbs=d.natAbs / Nat.gcd n.natAbs d.natAbs*Nat.gcd n.natAbs d.natAbs:=(Nat.div_mul_cancel (Nat.gcd_dvd_right _ _)).symm
 have hxl:=Nat.div_le_self n.natAbs (Nat.gcd n.natAbs d.natAbs)
 have hyl:=Nat.div_le_self d.natAbs (Nat.gcd n.natAbs d.natAbs)
 have hyp:0 < d.natAbs / Nat.gcd n.natAbs d.natAbs:=Nat.div_pos (Nat.le_of_dvd (by omega) (Nat.gcd_dvd_right _ _)) hg
 generalize n.natAbs / Nat.gcd n.natAbs d.natAbs=x at *
 generalize d.natAbs / Nat.gcd n.natAbs d.natAbs=y at *
 generalize Nat.gcd n.natAbs d.natAbs=g at *
 have key:(x:Int)*(d.natAbs:Int)=(n.natAbs:Int)*(y:Int):=by
  rw [hx,hy]
  simp only [Int.natCast_mul]
  rw [Int.mul_assoc,Int.mul_comm (g:Int),Int.mul_comm (y:Int)]
 refine ⟨?_,?_⟩
 ·unfold Rt
  simp only
  refine ⟨by omega,by omega,?_,?_,?_⟩
  ·split <;> omega
  ·split <;> omega
  ·split
   ·rw [Int.natAbs_neg]; simpa using hc
   ·simpa using hc
 ·simp only
  by_cases h1:n < 0
  ·by_cases h2:d < 0
   ·rw [if_neg (by simp [h1,h2])]
    rw [show d=-(d.natAbs:Int) by omega,show n=-(n.natAbs:Int) by omega]
    rw [Int.mul_neg,Int.neg_mul,key]
   ·rw [if_pos (by simp [h1,h2])]
    rw [show d=(d.natAbs:Int) by omega,show n=-(n.natAbs:Int) by omega]
    rw [Int.neg_mul,Int.neg_mul,key]
  ·by_cases h2:d < 0
   ·rw [if_pos (by simp [h1,h2])]
    rw [show d=-(d.natAbs:Int) by omega,show n=(n.natAbs:Int) by omega]
    rw [Int.mul_neg,Int.neg_mul,Int.neg_neg,key]
   ·rw [if_neg (by simp [h1,h2])]
    rw [show d=(d.natAbs:Int) by omega,show n=(n.natAbs:Int) by omega]
    exact key
def Qb9 (a b:Int):Int:=if a < b then -1 else if a=b then 0 else 1
theorem Quv (x y:Nat) (hx:x < 18446744073709551616) (hy:y < 18446744073709551616):K8 (x:Int) (y:Int)=some (((x*y / 18446744073709551616:Nat):Int),((x*y % 18446744073709551616:Nat):Int)):=by
 have hb:IntKind.bits .u64=64:=rfl
 have hp:(2:Int)^min (Int.toNat 32) (IntKind.bits .u64)=4294967296:=rfl
 have hf:∀z:Nat,Int.fdiv (z:Int) 4294967296=((z / 4294967296:Nat):Int):=fun z=>by rw [Int.fdiv_eq_ediv_of_nonneg _ (by omega)]; simp
 have hm:∀z:Nat,z < 18446744073709551616→zv ((zb (z:Int) &&& zb 4294967295).toNat : Int)=((z % 4294967296:Nat):Int):=fun z hz=>by
  have e1:(zb (z:Int) &&& zb 4294967295).toNat = z % 4294967296:=by
   rw [BitVec.toNat_and,Qes hz,show (zb 4294967295).toNat = 2^32 - 1 from Qes (a:=4294967295) (by omega),Nat.and_two_pow_sub_one_eq_mod]
  rw [e1,Yx (by omega)]
 unfold K8
 simp only [hp]
 rw [hf x,hf y,hm x hx,hm y hy]
 obtain ⟨x1,ex1⟩:∃z,z=x / 4294967296:=⟨_,rfl⟩
 obtain ⟨x0,ex0⟩:∃z,z=x % 4294967296:=⟨_,rfl⟩
 obtain ⟨y1,ey1⟩:∃z,z=y / 4294967296:=⟨_,rfl⟩
 obtain ⟨y0,ey0⟩:∃z,z=y % 4294967296:=⟨_,rfl⟩
 rw [←ex1,←ex0,←ey1,←ey0]
 have hX:x=x1*4294967296+x0:=by omega
 have hY:y=y1*4294967296+y0:=by omega
 have hx1:x1≤4294967295:=by omega
 have hy1:y1≤4294967295:=by omega
 have ba:x1*y1≤4294967295*4294967295:=Nat.mul_le_mul hx1 hy1
 have bb:x1*y0≤4294967295*4294967295:=Nat.mul_le_mul hx1 (by omega)
 have bc:x0*y1≤4294967295*4294967295:=Nat.mul_le_mul (by omega) hy1
 have bd:x0*y0≤4294967295*4294967295:=Nat.mul_le_mul (by omega) (by omega)
 have hprod:(x1*4294967296+x0)*(y1*4294967296+y0)=x1*y1*18446744073709551616+(x1*y0+x0*y1)*4294967296+x0*y0:=by
  simp only [Nat.add_mul,Nat.mul_add]
  have e1:x1*4294967296*(y1*4294967296)=x1*y1*18446744073709551616:=by
   rw [Nat.mul_mul_mul_comm]
  have e2:x1*4294967296*y0=x1*y0*4294967296:=Nat.mul_right_comm _ _ _
  have e3:x0*(y1*4294967296)=x0*y1*4294967296:=(Nat.mul_assoc _ _ _).symm
  rw [e1,e2,e3]; omega
 rw [←hX,←hY] at hprod
 have e4:(x:Int)*(y:Int)=((x*y:Nat):Int):=by simp
 rw [e4,hprod]
 simp only [←Int.natCast_mul]
 generalize x1*y1=a at *
 generalize x1*y0=b at *
 generalize x0*y1=c at *
 generalize x0*y0=d at *
 rw [Yx (n:=a) (by omega),Yx (n:=b) (by omega),Yx (n:=c) (by omega),Yx (n:=d) (by omega),hf d]
 have s1:(b:Int)+((d / 4294967296:Nat):Int)=((b+d / 4294967296:Nat):Int):=by simp
 rw [s1,Yx (n:=b+d / 4294967296) (by omega),hm _ (by omega),hf]
 have s2:(((b+d / 4294967296) % 4294967296:Nat):Int)+(c:Int)=(((b+d / 4294967296) % 4294967296+c:Nat):Int):=by simp
 have s3:(a:Int)+(((b+d / 4294967296) / 4294967296:Nat):Int)=((a+(b+d / 4294967296) / 4294967296:Nat):Int):=by simp
 rw [s2,s3,Yx (n:=(b+d / 4294967296) % 4294967296+c) (by omega),hf,Yx (n:=a+(b+d / 4294967296) / 4294967296) (by omega)]
 have s4:((a+(b+d / 4294967296) / 4294967296:Nat):Int)+((((b+d / 4294967296) % 4294967296+c) / 4294967296:Nat):Int)=((a+(b+d / 4294967296) / 4294967296+((b+d / 4294967296) % 4294967296+c) / 4294967296:Nat):Int):=by simp
 rw [s4,Yx (n:=a+(b+d / 4294967296) / 4294967296+((b+d / 4294967296) % 4294967296+c) / 4294967296) (by omega)]
 have s5:zv ((a*18446744073709551616+(b+c)*4294967296+d:Nat):Int)=(((a*18446744073709551616+(b+c)*4294967296+d) % 18446744073709551616:Nat):Int):=by
  simp [IntKind.wrap,IntKind.bits,IntKind.signed]
 rw [s5]
 congr 2
 omega
theorem Q58 {p q:Tapi_Q} (hp:Rt p) (hq:Rt q):Qed p q=some (Qb9 (p.N*q.D) (q.N*p.D)):=by
 obtain ⟨p1,p2,p3,p4,_⟩:=hp
 obtain ⟨q1,q2,q3,q4,_⟩:=hq
 unfold Qed
 rw [Qhz (by omega),Qhz (by omega)]
 simp only [Option.bind_some]
 unfold Qef
 have eD:zv q.D=((q.D.natAbs:Nat):Int):=by rw [Qko (by omega)]; omega
 have eE:zv p.D=((p.D.natAbs:Nat):Int):=by rw [Qko (by omega)]; omega
 rw [eD,eE,Quv _ _ (by omega) (by omega),Quv _ _ (by omega) (by omega)]
 simp only [Option.bind_some]
 have hx:p.N*q.D=if p.N < 0 then -((p.N.natAbs*q.D.natAbs:Nat):Int) else ((p.N.natAbs*q.D.natAbs:Nat):Int):=by
  split
  ·rw [Int.natCast_mul,←Int.neg_mul]; congr 1 <;> omega
  ·rw [Int.natCast_mul]; congr 1 <;> omega
 have hy:q.N*p.D=if q.N < 0 then -((q.N.natAbs*p.D.natAbs:Nat):Int) else ((q.N.natAbs*p.D.natAbs:Nat):Int):=by
  split
  ·rw [Int.natCast_mul,←Int.neg_mul]; congr 1 <;> omega
  ·rw [Int.natCast_mul]; congr 1 <;> omega
 have hxp:p.N < 0→0 < p.N.natAbs*q.D.natAbs:=fun h=>Nat.mul_pos (by omega) (by omega)
 have hyp:q.N < 0→0 < q.N.natAbs*p.D.natAbs:=fun h=>Nat.mul_pos (by omega) (by omega)
 rw [hx,hy]
 generalize p.N.natAbs*q.D.natAbs=x at *
 generalize q.N.natAbs*p.D.natAbs=y at *
 unfold Qb9
 by_cases h1:p.N < 0
 ·by_cases h2:q.N < 0
  ·rw [if_neg (by simp [h1,h2]),if_pos h1,if_pos h2]
   by_cases he:x=y
   ·subst he; rw [if_pos (by simp),if_neg (by omega),if_pos rfl]
   ·rw [if_neg (by simp; omega)]
    unfold Qfq
    simp only
    by_cases hh:x / 18446744073709551616 < y / 18446744073709551616
    ·rw [if_pos (by simp; omega)]
     simp only [Option.bind_some]
     rw [if_neg (by simp [h1]),if_neg (by omega),if_neg (by omega)]
    ·rw [if_neg (by simp; omega)]
     by_cases hh2:x / 18446744073709551616=y / 18446744073709551616
     ·rw [if_pos (by simp [hh2])]
      simp only [Option.bind_some]
      by_cases hl:x < y
      ·rw [decide_eq_true (by omega),if_neg (by simp [h1]),if_neg (by omega),if_neg (by omega)]
      ·rw [decide_eq_false (by omega),if_pos (by simp; omega),if_pos (by omega)]
     ·rw [if_neg (by simp; omega)]
      simp only [Option.bind_some]
      rw [if_pos (by simp; omega),if_pos (by omega)]
  ·rw [if_pos (by simp [h1,h2]),if_pos (by simpa using h1),if_pos h1,if_neg h2,if_pos (by have:=hxp h1; omega)]
 ·by_cases h2:q.N < 0
  ·rw [if_pos (by simp [h1,h2]),if_neg (by simpa using h1),if_neg h1,if_pos h2,if_neg (by have:=hyp h2; omega),if_neg (by have:=hyp h2; omega)]
  ·rw [if_neg (by simp [h1,h2]),if_neg h1,if_neg h2]
   by_cases he:x=y
   ·subst he; rw [if_pos (by simp),if_neg (by omega),if_pos rfl]
   ·rw [if_neg (by simp; omega)]
    unfold Qfq
    simp only
    by_cases hh:x / 18446744073709551616 < y / 18446744073709551616
    ·rw [if_pos (by simp; omega)]
     simp only [Option.bind_some]
     rw [if_pos (by simp; omega),if_pos (by omega)]
    ·rw [if_neg (by simp; omega)]
     by_cases hh2:x / 18446744073709551616=y / 18446744073709551616
     ·rw [if_pos (by simp [hh2])]
      simp only [Option.bind_some]
      by_cases hl:x < y
      ·rw [decide_eq_true (by omega),if_pos (by simp; omega),if_pos (by omega)]
      ·rw [decide_eq_false (by omega),if_neg (by simp; omega),if_neg (by omega),if_neg (by omega)]
     ·rw [if_neg (by simp; omega)]
      simp only [Option.bind_some]
      rw [if_neg (by simp; omega),if_neg (by omega),if_neg (by omega)]
theorem Qyk {p q:Tapi_Q} (hp:Rt p) (hq:Rt q):Yp p q=some (decide (p.N*q.D < q.N*p.D)):=by
 unfold Yp Qk5
 rw [Qpw,if_pos hp]
 simp only [Option.bind_some]
 rw [if_neg (by simp),Qpw,if_pos hq]
 simp only [Option.bind_some]
 rw [if_neg (by simp)]
 unfold Qay
 rw [show (Tapi_Q.mk p.N p.D)=p from rfl,show (Tapi_Q.mk q.N q.D)=q from rfl,Q58 hp hq]
 simp only [Option.bind_some]
 unfold Qb9
 congr 1
 split
 ·simp_all
 ·split <;> simp_all
theorem Qva {p q:Tapi_Q} (hp:I64 p) (hq:I64 q) (hpD:0 < p.D) (hqD:0 < q.D):K7 p q=some (Qb9 (p.N*q.D) (q.N*p.D)):=by
 obtain ⟨p1,p2⟩:=hp
 obtain ⟨q1,q2⟩:=hq
 unfold K7
 rw [Kv _ p1,Kv _ q2]
 simp only [Option.bind_some]
 have dgb:∀{m:Int},(-9223372036854775808≤m∧m≤9223372036854775807)→(dgs m.natAbs).length≤5:=fun h=>Qrk h
 have tm:∀(a b:Int),(-9223372036854775808≤a∧a≤9223372036854775807)→(-9223372036854775808≤b∧b≤9223372036854775807)→Vl (dgs a.natAbs) (dgs b.natAbs)=some (dgs (a.natAbs*b.natAbs)):=fun a b ha hb=>by
  have h1:=dgb ha
  have h2:=dgb hb
  have h3:=Qaf (Z5 b.natAbs)
  rw [Qpe _ _ (Z5 _) (fun z hz=>by have:=Z5 _ z hz; omega) (by omega) (by omega) (by omega),Zs,Zs]
 rw [tm _ _ p1 q2,Kv _ q1,Kv _ p2]
 simp only [Option.bind_some]
 rw [tm _ _ q1 p2]
 simp only [Option.bind_some]
 have len:∀(a b:Int),(-9223372036854775808≤a∧a≤9223372036854775807)→(-9223372036854775808≤b∧b≤9223372036854775807)→(dgs (a.natAbs*b.natAbs)).length≤10:=fun a b ha hb=>by
  refine Xd ?_
  have h1:a.natAbs≤9223372036854775808:=by omega
  have h2:b.natAbs≤9223372036854775808:=by omega
  have:=Nat.mul_le_mul h1 h2
  omega
 have len1:=len _ _ p1 q2
 have len2:=len _ _ q1 p2
 have hx:p.N*q.D=if p.N < 0 then -((p.N.natAbs*q.D.natAbs:Nat):Int) else ((p.N.natAbs*q.D.natAbs:Nat):Int):=by
  split
  ·rw [Int.natCast_mul,←Int.neg_mul]; congr 1 <;> omega
  ·rw [Int.natCast_mul]; congr 1 <;> omega
 have hy:q.N*p.D=if q.N < 0 then -((q.N.natAbs*p.D.natAbs:Nat):Int) else ((q.N.natAbs*p.D.natAbs:Nat):Int):=by
  split
  ·rw [Int.natCast_mul,←Int.neg_mul]; congr 1 <;> omega
  ·rw [Int.natCast_mul]; congr 1 <;> omega
 have hxp:p.N < 0→0 < p.N.natAbs*q.D.natAbs:=fun h=>Nat.mul_pos (by omega) (by omega)
 have hyp:q.N < 0→0 < q.N.natAbs*p.D.natAbs:=fun h=>Nat.mul_pos (by omega) (by omega)
 rw [hx,hy]
 generalize p.N.natAbs*q.D.natAbs=x at *
 generalize q.N.natAbs*p.D.natAbs=y at *
 unfold Qb9
 by_cases h1:p.N < 0
 ·rw [if_pos (by simpa using h1),if_pos h1]
  by_cases h2:q.N < 0
  ·rw [if_pos (by simpa using h2),if_pos h2,Qe2 _ _ (by omega) (by omega)]
   simp only [Option.bind_some]
   unfold Qpx
   congr 1
   by_cases a1:y < x
   ·rw [if_pos a1,if_pos (by omega)]
   ·rw [if_neg a1]
    by_cases a2:y=x
    ·rw [if_pos a2,if_neg (by omega),if_pos (by omega)]
    ·rw [if_neg a2,if_neg (by omega),if_neg (by omega)]
  ·rw [if_neg (by simpa using h2),if_neg h2,if_pos (by have:=hxp h1; omega)]
 ·rw [if_neg (by simpa using h1),if_neg h1]
  by_cases h2:q.N < 0
  ·rw [if_pos (by simpa using h2),if_pos h2,if_neg (by have:=hyp h2; omega),if_neg (by have:=hyp h2; omega)]
  ·rw [if_neg (by simpa using h2),if_neg h2,Qe2 _ _ (by omega) (by omega)]
   simp only [Option.bind_some]
   unfold Qpx
   congr 1
   by_cases a1:x < y
   ·rw [if_pos a1,if_pos (by omega)]
   ·rw [if_neg a1]
    by_cases a2:x=y
    ·rw [if_pos a2,if_neg (by omega),if_pos (by omega)]
    ·rw [if_neg a2,if_neg (by omega),if_neg (by omega)]
end Go.Ab
namespace Go.Ab
open Go
abbrev LN:=Nat → Int × Int × Int × Int
theorem Qn6 {z:Int} (h:-1000≤z∧z≤1000):Rt ⟨z,1⟩:=⟨by simp,by simp,by simp only; omega,by simp only; omega,by simp⟩
section
variable {L:LN} {b aT aF:Nat}
end
section
variable {D:NF}
end
end Go.Ab
namespace Go.Ab
open Go
structure QX (D:NF) (E:Nat → Int) (v:Nat) (s:SF):Prop where
 X:DX D
 hE:Qmc D E
 hv:v < D.n
 hsN:s.N < D.n
 hsR:s.R < D.rows s.N
 hsF:s.F < D.card s.N
 hsT:s.T < D.card s.N
 hFT:s.F≠s.T
section
variable {D:NF} {E:Nat → Int} {v:Nat} {s:SF}
theorem QX.bd (Q:QX D E v s) (y:Nat):BD 243 (Zf D s E v y).1∧BD 243 (Zf D s E v y).2.1∧BD 243 (Zf D s E v y).2.2.1∧BD 243 (Zf D s E v y).2.2.2:=by
 have V:=Q.X.vn
 have hw:=Q.X.worlds
 exact ⟨Qt1 V hw (Qoq (Qiv V Q.hsN)),Qt1 V hw (Qoq (Qio V)),Qt1 V hw (Qiv V Q.hsN),Qt1 V hw (Qio V)⟩
theorem QX.row (Q:QX D E v s):lkI (D.node s.N).Rows s.sh.Row=some (Qc (D.card s.N) fun x=>(D.W s.N s.R x:Int)):=Qv Q.hsR
end
end Go.Ab
namespace Go.Ab
open Go
def SB:Int:=47775744000000
def SBd (z:Int):Prop:=-SB≤z∧z≤SB
theorem Q0x {D:NF} {E:Nat → Int} {f:(Nat → Nat)→Int} {K:Nat} (hf:∀w,D.ok w→-(K:Int)≤f w∧f w≤K):∀(d i:Nat) (w:Nat → Nat),i+d=D.n→D.ok w→-((PC D d i*K:Nat):Int)≤TM D E f d i w∧TM D E f d i w≤((PC D d i*K:Nat):Int)
 | 0,i,w,_,hw=>by
  have:=hf w hw
  show -((1*K:Nat):Int)≤f w∧f w≤((1*K:Nat):Int)
  rw [Nat.one_mul]; exact this
 | d+1,i,w,h,hw=>by
  have key:∀m,m≤D.card i→-((m*(PC D d (i+1)*K):Nat):Int)≤Ql m (fun y=>if E i=-1∨E i=(y:Int) then TM D E f d (i+1) (Xm w i y) else 0)∧Ql m (fun y=>if E i=-1∨E i=(y:Int) then TM D E f d (i+1) (Xm w i y) else 0)≤((m*(PC D d (i+1)*K):Nat):Int):=by
   intro m
   induction m with
   | zero=>intro _; simp [Ql]
   | succ m ih =>
    intro hm
    have i1:=ih (by omega)
    simp only [Ql]
    rw [Nat.succ_mul]
    have i2:-((PC D d (i+1)*K:Nat):Int)≤(if E i=-1∨E i=(m:Int) then TM D E f d (i+1) (Xm w i m) else 0)∧(if E i=-1∨E i=(m:Int) then TM D E f d (i+1) (Xm w i m) else 0)≤((PC D d (i+1)*K:Nat):Int):=by
     split
     ·exact Q0x hf d (i+1) _ (by omega) (Qmn hw hm)
     ·omega
    omega
  have:=key (D.card i) (Nat.le_refl _)
  unfold TM PC
  rw [Nat.mul_assoc]
  exact this
section
variable {D:NF} {E:Nat → Int} {v:Nat} {s:SF}
theorem Q3p (V:VN D) (h6:D.n≤6) {w:Nat → Nat} (hw:D.ok w):D.rest s w D.n≤46656000000:=by
 have h1:D.rest s w D.n≤60^D.n:=Vk fun v hv=>by
  split
  ·omega
  ·exact V.wt_le hw (by omega)
 have h2:(60:Nat)^D.n≤60^6:=Nat.pow_le_pow_right (by omega) h6
 exact Nat.le_trans h1 (Nat.le_trans h2 (by decide))
theorem Q04 (V:VN D) (h6:D.n≤6) (hs:s.N < D.n) {w:Nat → Nat} (hw:D.ok w):-((46656000000:Nat):Int)≤D.fA s w∧D.fA s w≤((46656000000:Nat):Int):=by
 rw [V.fA_eq hs]
 have h1:prodTo D.n (D.wt w)≤60^D.n:=Vk fun v hv=>V.wt_le hw hv
 have h2:(60:Nat)^D.n≤60^6:=Nat.pow_le_pow_right (by omega) h6
 omega
theorem Q2h (V:VN D) (h6:D.n≤6) {w:Nat → Nat} (hw:D.ok w):-((46656000000:Nat):Int)≤D.fB s w∧D.fB s w≤((46656000000:Nat):Int):=by
 have hb:=Q3p (s:=s) V h6 hw
 have hc:D.change s w=-1∨D.change s w=0∨D.change s w=1:=by
  unfold NF.change
  split
  ·split
   ·exact .inl rfl
   ·split
    ·exact .inr (.inr rfl)
    ·exact .inr (.inl rfl)
  ·exact .inr (.inl rfl)
 unfold NF.fB
 rcases hc with h | h | h <;> rw [h] <;> omega
theorem Q1u {f:(Nat → Nat)→Int} {K:Nat} (hf:∀w,D.ok w→-(K:Int)≤f w∧f w≤K) {x:Nat}:∀w,D.ok w→-(K:Int)≤at' v x f w∧at' v x f w≤K:=fun w hw=>by
 unfold at'
 split
 ·exact hf w hw
 ·omega
theorem Qtz (V:VN D) {f:(Nat → Nat)→Int} (hf:∀w,D.ok w→-((46656000000:Nat):Int)≤f w∧f w≤((46656000000:Nat):Int)):SBd (SW D E f):=by
 have h:=Q0x (E:=E) hf D.n 0 (fun _=>0) (by omega) (ok0 V)
 have hp:=Q00 V
 have h2:PC D D.n 0*46656000000≤1024*46656000000:=Nat.mul_le_mul_right _ hp
 unfold SBd SB SW
 omega
def SmL (L:Int × Int × Int × Int):Prop:=SBd L.1∧SBd L.2.1∧SBd L.2.2.1∧SBd L.2.2.2
theorem Qya (V:VN D) (h6:D.n≤6) (hs:s.N < D.n) (y:Nat):SmL (Zf D s E v y) :=
 ⟨Qtz V (Q1u fun w hw=>Q04 V h6 hs hw),Qtz V (Q1u fun w hw=>Q2h V h6 hw),Qtz V fun w hw=>Q04 V h6 hs hw,Qtz V fun w hw=>Q2h V h6 hw⟩
theorem Qai {a t:Int} (ha:SBd a) (ht:-1000≤t∧t≤1000):-(47775744000000000:Int)≤a*t∧a*t≤47775744000000000:=by
 unfold SBd SB at ha
 have h1:a.natAbs≤47775744000000:=by omega
 have h2:t.natAbs≤1000:=by omega
 have h3:(a*t).natAbs≤47775744000000*1000:=by rw [Int.natAbs_mul]; exact Nat.mul_le_mul h1 h2
 omega
def Sml (t:Tapi_Q):Prop:=-1000≤t.N∧t.N≤1000∧t.D≤1000
instance instSml (t:Tapi_Q):Decidable (Sml t):=by unfold Sml; infer_instance
theorem Q3d (t:Tapi_Q):Yn t=some (if Rt t then (if Sml t then 0 else 2) else 5):=by
 unfold Yn
 rw [Qpw]
 simp only [Option.bind_some]
 by_cases h:Rt t
 ·rw [if_pos h,if_pos h,if_neg (by simp)]
  by_cases h1:t.N < -1000
  ·rw [if_pos (by simpa using h1),if_neg (fun h=>by have:=h.1; omega)]
  rw [if_neg (by simpa using h1)]
  by_cases h2:t.N > 1000
  ·rw [if_pos (by simpa using h2),if_neg (fun h=>by have:=h.2.1; omega)]
  rw [if_neg (by simpa using h2)]
  by_cases h3:t.D > 1000
  ·rw [if_pos (by simpa using h3),if_neg (fun h=>by have:=h.2.2; omega)]
  rw [if_neg (by simpa using h3),if_pos ⟨by omega,by omega,by omega⟩]
 ·rw [if_neg h,if_neg h,if_pos (by simp)]
def atF (L:Int × Int × Int × Int) (t:Tapi_Q):Tapi_Q × Int :=
 if L.2.2.1*t.D+L.2.2.2*t.N=0 then (⟨0,0⟩,7) else (qI (L.1*t.D+L.2.1*t.N) (L.2.2.1*t.D+L.2.2.2*t.N),0)
theorem Q3m {L:Int × Int × Int × Int} (hL:SmL L) {t:Tapi_Q} (ht:Rt t) (hs:Sml t) :
  zw (zw (L.1*t.D)+zw (L.2.1*t.N))=L.1*t.D+L.2.1*t.N∧zw (zw (L.2.2.1*t.D)+zw (L.2.2.2*t.N))=L.2.2.1*t.D+L.2.2.2*t.N ∧
   (L.1*t.D+L.2.1*t.N).natAbs≤MX∧(L.2.2.1*t.D+L.2.2.2*t.N).natAbs≤MX:=by
 obtain ⟨h1,h2,h3,h4⟩:=hL
 have hD:=ht.1
 obtain ⟨s1,s2,s3⟩:=hs
 have hMX:MX=4611686018427387903:=rfl
 have b1:=Qai h1 (t:=t.D) (by omega)
 have b2:=Qai h2 (t:=t.N) (by omega)
 have b3:=Qai h3 (t:=t.D) (by omega)
 have b4:=Qai h4 (t:=t.N) (by omega)
 rw [w64 (n:=L.1*t.D) (by omega),w64 (n:=L.2.1*t.N) (by omega),w64 (n:=L.2.2.1*t.D) (by omega),w64 (n:=L.2.2.2*t.N) (by omega),w64 (by omega),w64 (by omega)]
 exact ⟨rfl,rfl,by omega,by omega⟩
def Qey (aT aF:Nat) (t:Tapi_Q):Prop:=-(aT:Int)*t.D≤t.N∧t.N≤(aF:Int)*t.D
instance instInRg (aT aF:Nat) (t:Tapi_Q):Decidable (Qey aT aF t):=by unfold Qey; infer_instance
theorem Qym (V:VN D) (hs:s.N < D.n) (hR:s.R < D.rows s.N) (hF:s.F < D.card s.N) (hT:s.T < D.card s.N):Vt D.net s.sh=some (-(D.W s.N s.R s.T:Int),(D.W s.N s.R s.F:Int)):=by
 have hWT:=V.W s.N s.R s.T hs hR hT
 have hg:=V.g60
 unfold Vt
 rw [show s.sh.Node=(s.N:Int) from rfl,V.node hs]
 simp only [Option.bind_some]
 rw [show s.sh.Row=(s.R:Int) from rfl,show lkI (D.node s.N).Rows (s.R:Int)=some (Qc (D.card s.N) fun x=>(D.W s.N s.R x:Int)) from Qv hR]
 simp only [Option.bind_some]
 rw [show s.sh.To=(s.T:Int) from rfl,Qv hT]
 simp only [Option.bind_some]
 rw [show s.sh.From=(s.F:Int) from rfl,Qv hF]
 simp only [Option.bind_some]
 rw [w64 (by omega)]
 congr 2
 omega
def Xi (L:Int × Int × Int × Int) (p:Tapi_Q):Int:=L.2.2.1*p.N - L.1*p.D
def Z6 (L:Int × Int × Int × Int) (p:Tapi_Q):Int:=L.2.1*p.D - L.2.2.2*p.N
def Qgi (L:Int × Int × Int × Int) (aT aF:Nat) (t:Tapi_Q):Prop:=¬ (L.2.2.1=0∧L.2.2.2=0)∧(t.D=1∧(t.N=-(aT:Int)∨t.N=(aF:Int))→0 < L.2.2.1+L.2.2.2*t.N)
instance instposF (L:Int × Int × Int × Int) (aT aF:Nat) (t:Tapi_Q):Decidable (Qgi L aT aF t):=by unfold Qgi; infer_instance
def Qc0 (L:Int × Int × Int × Int) (aT aF:Nat) (p:Tapi_Q):Tapi_Q × Int :=
 if Z6 L p=0 then (if Xi L p≠0∨-(aT:Int)≠(aF:Int)∨L.2.2.1=0 then (⟨0,0⟩,4) else (⟨0,1⟩,0))
 else if Qey aT aF (qI (Xi L p) (Z6 L p))∧Qgi L aT aF (qI (Xi L p) (Z6 L p)) then (qI (Xi L p) (Z6 L p),0) else (⟨0,0⟩,4)
theorem Q66 {L:Int × Int × Int × Int} (hL:SmL L) {aT aF:Nat} (hT:aT≤60) (hF:aF≤60) {t:Tapi_Q}:Jo (L.1,L.2.1,L.2.2.1,L.2.2.2) t (-(aT:Int)) (aF:Int)=some (decide (Qgi L aT aF t)):=by
 have key:∀z:Int,(-60≤z∧z≤60)→zw (L.2.2.1+zw (L.2.2.2*z))=L.2.2.1+L.2.2.2*z:=fun z hz=>by
  have b:=Qai hL.2.2.2 (t:=z) (by omega)
  have h:=hL.2.2.1
  unfold SBd SB at h
  rw [w64 (n:=L.2.2.2*z) (by omega),w64 (by omega)]
 have ends:(g:Unit→Option Bool)→(g ()=(if (t.D==1)=true then (if (t.N==-(aT:Int))=true then some (decide (zw (L.2.2.1+zw (L.2.2.2*t.N)) > 0)) else if (t.N==(aF:Int))=true then some (decide (zw (L.2.2.1+zw (L.2.2.2*t.N)) > 0)) else some true) else some true)) →
   ¬ (L.2.2.1=0∧L.2.2.2=0)→g ()=some (decide (Qgi L aT aF t)):=fun g hg hn=>by
  rw [hg]
  by_cases h1:t.D=1
  ·rw [if_pos (by simpa using h1)]
   by_cases h2:t.N=-(aT:Int)
   ·rw [if_pos (by simpa using h2),key _ (by omega)]
    congr 1
    rw [decide_eq_decide]
    exact ⟨fun h=>⟨hn,fun _=>h⟩,fun h=>h.2 ⟨h1,.inl h2⟩⟩
   ·rw [if_neg (by simpa using h2)]
    by_cases h3:t.N=(aF:Int)
    ·rw [if_pos (by simpa using h3),key _ (by omega)]
     congr 1
     rw [decide_eq_decide]
     exact ⟨fun h=>⟨hn,fun _=>h⟩,fun h=>h.2 ⟨h1,.inr h3⟩⟩
    ·rw [if_neg (by simpa using h3),decide_eq_true ⟨hn,fun h=>by rcases h.2 with h | h <;> contradiction⟩]
  ·rw [if_neg (by simpa using h1),decide_eq_true ⟨hn,fun h=>absurd h.1 h1⟩]
 unfold Jo
 simp only
 by_cases hc:L.2.2.1=0
 ·rw [if_pos (by simpa using hc)]
  by_cases hd:L.2.2.2=0
  ·rw [if_pos (by simpa using hd),decide_eq_false (fun h=>h.1 ⟨hc,hd⟩)]
  ·rw [if_neg (by simpa using hd)]
   exact ends (fun _=>_) rfl (fun h=>hd h.2)
 ·rw [if_neg (by simpa using hc)]
  exact ends (fun _=>_) rfl (fun h=>hc h.1)
theorem Q51 (V:VN D) (hs:s.N < D.n) (hR:s.R < D.rows s.N) (hF:s.F < D.card s.N) (hT:s.T < D.card s.N) {e:List Int} {v x:Nat} {L:Int × Int × Int × Int} (hl:Q1 D.net e (v:Int) (x:Int) s.sh=some (L,0)) (hL:SmL L) (p:Tapi_Q) :
  Zg D.net e (v:Int) (x:Int) s.sh p=some (if Rt p then (if Sml p then (if 0≤p.N∧p.N≤p.D then Qc0 L (D.W s.N s.R s.T) (D.W s.N s.R s.F) p else (⟨0,0⟩,2)) else (⟨0,0⟩,2)) else (⟨0,0⟩,5)):=by
 have hWT:=V.W s.N s.R s.T hs hR hT
 have hWF:=V.W s.N s.R s.F hs hR hF
 have hg:=V.g60
 have hMX:MX=4611686018427387903:=rfl
 unfold Zg
 rw [hl]
 simp only [Option.bind_some]
 rw [if_neg (by simp),Q3d]
 simp only [Option.bind_some]
 by_cases h1:Rt p
 ·rw [if_pos h1,if_pos h1]
  by_cases h2:Sml p
  ·rw [if_pos h2,if_pos h2,if_neg (by simp)]
   by_cases h3:p.N < 0
   ·rw [if_pos (by simpa using h3),if_neg (fun h=>by omega)]
   rw [if_neg (by simpa using h3)]
   by_cases h4:p.N > p.D
   ·rw [if_pos (by simpa using h4),if_neg (fun h=>by omega)]
   rw [if_neg (by simpa using h4),if_pos (show 0≤p.N∧p.N≤p.D from ⟨by omega,by omega⟩),Qym V hs hR hF hT]
   simp only [Option.bind_some]
   have hD:=h1.1
   obtain ⟨s1,s2,s3⟩:=h2
   have b1:=Qai hL.1 (t:=p.D) (by omega)
   have b2:=Qai hL.2.1 (t:=p.D) (by omega)
   have b3:=Qai hL.2.2.1 (t:=p.N) (by omega)
   have b4:=Qai hL.2.2.2 (t:=p.N) (by omega)
   have eb:zw (zw (L.2.1*p.D) - zw (L.2.2.2*p.N))=Z6 L p:=by
    rw [w64 (n:=L.2.1*p.D) (by omega),w64 (n:=L.2.2.2*p.N) (by omega),w64 (by omega)]; rfl
   have ea:zw (zw (L.2.2.1*p.N) - zw (L.1*p.D))=Xi L p:=by
    rw [w64 (n:=L.2.2.1*p.N) (by omega),w64 (n:=L.1*p.D) (by omega),w64 (by omega)]; rfl
   have fa:(Xi L p).natAbs≤MX:=by unfold Xi; omega
   have fb:(Z6 L p).natAbs≤MX:=by unfold Z6; omega
   rw [eb,ea]
   unfold Qc0
   by_cases h0:Z6 L p=0
   ·rw [if_pos (by simpa using h0),if_pos h0]
    by_cases h5:Xi L p=0
    ·rw [if_neg (by simpa using h5)]
     by_cases h6:-(D.W s.N s.R s.T:Int)=(D.W s.N s.R s.F:Int)
     ·rw [if_neg (by simpa using h6)]
      by_cases h7:L.2.2.1=0
      ·rw [if_pos (by simpa using h7),if_pos (.inr (.inr h7))]
      ·rw [if_neg (by simpa using h7),if_neg (fun h=>by rcases h with h | h | h <;> contradiction)]
     ·rw [if_pos (by simpa using h6),if_pos (.inr (.inl h6))]
    ·rw [if_pos (by simpa using h5),if_pos (.inl h5)]
   ·rw [if_neg (by simpa using h0),if_neg h0,Q6b fa fb h0]
    simp only [Option.bind_some]
    obtain ⟨q1,q2⟩:=Qoo fa fb h0
    generalize qI (Xi L p) (Z6 L p)=t at *
    rw [if_neg (by simp)]
    unfold Qbh
    rw [Qyk q1 (Qn6 (by omega))]
    simp only [Option.bind_some]
    rw [Int.mul_one]
    by_cases h5:t.N < -(D.W s.N s.R s.T:Int)*t.D
    ·rw [if_neg (by simpa using h5)]
     simp only [Option.bind_some]
     rw [if_pos (by simp),if_neg (fun h=>by have:=h.1.1; omega)]
    ·rw [if_pos (by simpa using h5),Qyk (Qn6 (by omega)) q1]
     simp only [Option.bind_some]
     rw [Int.mul_one]
     by_cases h6:(D.W s.N s.R s.F:Int)*t.D < t.N
     ·rw [if_pos (by simpa using h6),if_neg (fun h=>by have:=h.1.2; omega)]
     ·rw [if_neg (by simpa using h6),Q66 hL (by omega) (by omega)]
      simp only [Option.bind_some]
      by_cases h7:Qgi L (D.W s.N s.R s.T) (D.W s.N s.R s.F) t
      ·rw [decide_eq_true h7,if_neg (by simp),if_pos ⟨⟨by omega,by omega⟩,h7⟩]
      ·rw [decide_eq_false h7,if_pos (by simp),if_neg (fun h=>h7 h.2)]
  ·rw [if_neg h2,if_neg h2,if_pos (by simp)]
 ·rw [if_neg h1,if_neg h1,if_pos (by simp)]
end
end Go.Ab
namespace Go.Ab
open Go
theorem Qp2 {t:Tapi_Q} (ht:Rt t) {a:Int} (h:t.N=a*t.D):t.D=1∧t.N=a:=by
 obtain ⟨h1,_,_,_,h5⟩:=ht
 have e:t.N.natAbs=a.natAbs*t.D.natAbs:=by rw [h,Int.natAbs_mul]
 rw [e,Nat.gcd_mul_left_left] at h5
 have hD:t.D=1:=by omega
 rw [hD,Int.mul_one] at h
 exact ⟨hD,h⟩
theorem Q69 {L:Int × Int × Int × Int} {aT aF:Nat} {t:Tapi_Q} (h1:0≤L.2.2.1+L.2.2.2*-(aT:Int)) (h2:0≤L.2.2.1+L.2.2.2*(aF:Int)) (ht:Rt t) (hin:Qey aT aF t) (hp:Qgi L aT aF t):L.2.2.1*t.D+L.2.2.2*t.N≠0:=by
 intro h0
 obtain ⟨i1,i2⟩:=hin
 obtain ⟨p1,p2⟩:=hp
 have hD:=ht.1
 generalize L.2.2.1=C at *
 generalize L.2.2.2=d at *
 rcases Int.lt_trichotomy d 0 with hd | hd | hd
 ·have g1:=Int.mul_nonneg h2 (show 0≤t.D by omega)
  have g2:(C+d*(aF:Int))*t.D=C*t.D+d*((aF:Int)*t.D):=by rw [Int.add_mul,Int.mul_assoc]
  have g3:d*((aF:Int)*t.D - t.N)=d*((aF:Int)*t.D) - d*t.N:=Int.mul_sub _ _ _
  have g4:t.N=(aF:Int)*t.D:=by
   apply Classical.byContradiction
   intro hne
   have:=Int.mul_neg_of_neg_of_pos hd (show 0 < (aF:Int)*t.D - t.N by omega)
   omega
  obtain ⟨w1,w2⟩:=Qp2 ht g4
  have:=p2 ⟨w1,.inr w2⟩
  rw [w1,Int.mul_one] at h0
  omega
 ·subst hd
  rw [Int.zero_mul,Int.add_zero] at h0
  rcases Int.mul_eq_zero.1 h0 with h | h
  ·exact p1 ⟨h,rfl⟩
  ·omega
 ·have g1:=Int.mul_nonneg h1 (show 0≤t.D by omega)
  have g2:(C+d*-(aT:Int))*t.D=C*t.D+d*(-(aT:Int)*t.D):=by rw [Int.add_mul,Int.mul_assoc]
  have g3:d*(t.N - -(aT:Int)*t.D)=d*t.N - d*(-(aT:Int)*t.D):=Int.mul_sub _ _ _
  have g4:t.N=-(aT:Int)*t.D:=by
   apply Classical.byContradiction
   intro hne
   have:=Int.mul_pos hd (show 0 < t.N - -(aT:Int)*t.D by omega)
   omega
  obtain ⟨w1,w2⟩:=Qp2 ht g4
  have:=p2 ⟨w1,.inl w2⟩
  rw [w1,Int.mul_one] at h0
  omega
section
variable {D:NF} {E:Nat → Int} {v x:Nat} {s:SF}
end
end Go.Ab
namespace Go.Ab
open Go
set_option maxRecDepth 100000
set_option maxHeartbeats 400000
theorem Qmy {α:Type} (l:List α) (d:α):l=Qc l.length fun k=>l.getD k d:=by
 apply List.ext_getElem?
 intro i
 unfold Qc
 rw [List.getElem?_map]
 by_cases c:i < l.length
 ·rw [List.getElem?_range c,List.getElem?_eq_getElem c]; simp [List.getD,c]
 ·rw [List.getElem?_eq_none (by omega),List.getElem?_eq_none (by simp; omega)]; rfl
theorem Qxu {n:Nat} {f:Nat → Int}:(Qc n f).sum=Ql n f:=by
 induction n with
 | zero=>rfl
 | succ n ih=>rw [←Qd8,List.sum_append,ih]; simp [Ql]
theorem Qxx {k:Nat} {f:Nat → Int}:∀{n:Nat},(∀j,j < n→0≤f j)→k < n→f k≤Ql n f
 | n+1,h,hk=>by
  have h0:=Vw (n:=n) (f:=f) fun j hj=>h j (by omega)
  have hn:=h n (by omega)
  simp only [Ql]
  by_cases e:k=n
  ·subst e; omega
  ·have:=Qxx (n:=n) (k:=k) (f:=f) (fun j hj=>h j (by omega)) (by omega); omega
theorem Qyl {D:NF} (X:VX D):Qk0 D.n D.g D.node:=by
 have V:=X.vn
 have hc:∀v,v < D.n→Qab (D.node v):=fun v hv=>by
  have:=V.card v hv
  exact ⟨by show (1:Int)≤(D.card v:Int); omega,by show (D.card v:Int)≤4; omega⟩
 have ec:cardN D.node=D.card:=funext fun v=>by unfold cardN NF.node; simp
 have ep:parN D.node=D.par:=funext fun v=>by
  unfold parN NF.node
  rw [List.map_map]
  conv=>rhs; rw [←List.map_id (D.par v)]
  exact List.map_congr_left fun x _=>by simp
 refine ⟨by have:=V.g1; omega,by have:=V.g60; omega,V.n1,V.n8,hc,by rw [ec]; exact V.worlds,fun v hv=>⟨⟨⟨D.par v,rfl,X.sorted v hv,V.par v hv⟩,fun hm=>?_⟩,?_,fun r hr=>?_⟩,by rw [ep]; obtain ⟨rk,h⟩:=X.rank; exact ⟨rk,h⟩⟩
 ·have hm:(v:Int)∈nI (D.par v):=hm
  unfold nI at hm
  obtain ⟨p,hp,e⟩:=List.mem_map.1 hm
  have:p=v:=by omega
  subst this
  exact X.self p hv hp
 ·rw [ec,ep]; show (Qc (D.rows v) _).length=_; rw [Qr]; rfl
 ·have hr:r∈Qc (D.rows v) fun r=>Qc (D.card v) fun x=>(D.W v r x:Int):=hr
  unfold Qc at hr
  obtain ⟨i,hi,rfl⟩:=List.mem_map.1 hr
  have hi:=List.mem_range.1 hi
  have e:=X.sum v i hv hi
  have h1:((List.range (D.card v)).map fun x=>(D.W v i x:Int))=Qc (D.card v) fun x=>(D.W v i x:Int):=rfl
  rw [h1]
  refine ⟨by rw [Qr]; rfl,fun w hw=>?_,by rw [Qxu]; exact e⟩
  unfold Qc at hw
  obtain ⟨x,_,rfl⟩:=List.mem_map.1 hw
  omega
theorem Q50 {n:Nat} {g:Int} {F:Nat → Tapi_Node} (hf:Qk0 n g F):∃D:NF,D.n=n∧VX D∧D.net=⟨g,Qc n F⟩:=by
 let D:NF:=⟨n,g.toNat,cardN F,parN F,fun v r x=>(((F v).Rows.getD r []).getD x 0).toNat⟩
 have hg:=hf.g1
 have hg60:=hf.g60
 have hrow:∀v r,v < n→r < D.rows v→∃hr:r < (F v).Rows.length,Qg2 g (F v).Card (F v).Rows[r]∧(F v).Rows.getD r []=(F v).Rows[r]:=fun v r hv hr=>by
  obtain ⟨_,h1,h2⟩:=hf.node v hv
  have h1:(F v).Rows.length=D.rows v:=h1
  have hr':r < (F v).Rows.length:=by omega
  exact ⟨hr',h2 _ (List.getElem_mem hr'),by simp [List.getD,hr']⟩
 have hcell:∀v r x,v < n→r < D.rows v→x < D.card v→∃hr:r < (F v).Rows.length,∃hx:x < (F v).Rows[r].length,(D.W v r x:Int)=(F v).Rows[r][x]:=fun v r x hv hr hx=>by
  obtain ⟨hr',⟨e1,e2,_⟩,e3⟩:=hrow v r hv hr
  have hc:=Qfn (hf.card v hv)
  have hx:x < cardN F v:=hx
  have hx':x < (F v).Rows[r].length:=by omega
  refine ⟨hr',hx',?_⟩
  show ((((F v).Rows.getD r []).getD x 0).toNat : Int)=_
  rw [e3]
  have e4:(F v).Rows[r].getD x 0=(F v).Rows[r][x]:=by simp [List.getD,hx']
  rw [e4]
  have:=e2 _ (List.getElem_mem hx')
  omega
 have hrw:∀v r,v < n→(hr:r < D.rows v)→∃hr':r < (F v).Rows.length,(F v).Rows[r]=Qc (D.card v) fun x=>(D.W v r x:Int):=fun v r hv hr=>by
  obtain ⟨hr',⟨e1,_,_⟩,_⟩:=hrow v r hv hr
  refine ⟨hr',?_⟩
  have hc:=Qfn (hf.card v hv)
  have el:(F v).Rows[r].length=D.card v:=by show _=cardN F v; omega
  rw [Qmy (F v).Rows[r] 0,el]
  refine Qu fun x hx=>?_
  obtain ⟨_,hx',e⟩:=hcell v r x hv hr hx
  rw [e]; simp [List.getD,hx']
 have hnode:∀v,v < n→D.node v=F v:=fun v hv=>by
  obtain ⟨p1,p2,p3⟩:=Ja (hf.node v hv).1.1
  have hc:=Qfn (hf.card v hv)
  obtain ⟨_,h1,_⟩:=hf.node v hv
  have h1:(F v).Rows.length=D.rows v:=h1
  have e1:((D.card v:Nat):Int)=(F v).Card:=hc
  have e2:(D.par v).map (fun (p:Nat)=>(p:Int))=(F v).Parents:=p1.symm
  have e3:(Qc (D.rows v) fun r=>Qc (D.card v) fun x=>(D.W v r x:Int))=(F v).Rows:=by
   conv=>rhs; rw [Qmy (F v).Rows []]
   rw [h1]
   refine Qu fun r hr=>?_
   obtain ⟨hr',e⟩:=hrw v r hv hr
   rw [←e]; simp [List.getD,hr']
  show (⟨((D.card v:Nat):Int),(D.par v).map (fun (p:Nat)=>(p:Int)),Qc (D.rows v) fun r=>Qc (D.card v) fun x=>(D.W v r x:Int)⟩:Tapi_Node)=⟨(F v).Card,(F v).Parents,(F v).Rows⟩
  rw [e1,e2,e3]
 have hsum:∀v r,v < n→r < D.rows v→Ql (D.card v) (fun x=>(D.W v r x:Int))=(D.g:Int):=fun v r hv hr=>by
  obtain ⟨hr',e⟩:=hrw v r hv hr
  obtain ⟨_,⟨_,_,e3⟩,_⟩:=hrow v r hv hr
  rw [e,Qxu] at e3
  rw [e3]; show g=(g.toNat : Int); omega
 have hD:(D.g:Int)=g:=by show (g.toNat : Int)=g; omega
 refine ⟨D,rfl,⟨⟨hf.n1,hf.n8,by omega,by omega,fun v hv=>?_,fun v hv=>(Ja (hf.node v hv).1.1).2.2,fun v hv=>?_,fun v r x hv hr hx=>?_,hf.worlds⟩,fun v hv=>(Ja (hf.node v hv).1.1).2.1,fun v hv hm=>?_,hf.rank,hsum⟩,?_⟩
 ·exact Qas (hf.card v hv)
 ·obtain ⟨_,p2,p3⟩:=Ja (hf.node v hv).1.1
  have:=Qea p2 p3
  have:=hf.n8
  show (parN F v).length≤8; omega
 ·have h1:=hsum v r hv hr
  have h2:=Qxx (k:=x) (f:=fun x=>(D.W v r x:Int)) (n:=D.card v) (fun k _=>by omega) hx
  omega
 ·have hm:v∈parN F v:=hm
  obtain ⟨p1,_,_⟩:=Ja (hf.node v hv).1.1
  exact (hf.node v hv).1.2 (by rw [p1]; unfold nI; exact List.mem_map.2 ⟨v,hm,rfl⟩)
 ·show (⟨(D.g:Int),Qc n D.node⟩:Qb)=_
  rw [hD,Qu hnode]
section
variable {D:NF}
def evJ (D:NF) (e:List Int) (j:Nat):Prop:=-1≤(e[j]?).getD 0∧(e[j]?).getD 0 < D.card j
def evL (D:NF) (e:List Int):Prop:=e.length=D.n∧∀j,j < D.n→evJ D e j
theorem Q6a {e:List Int} (h:evL D e):∃E,e=Qc D.n E∧Qmc D E:=by
 refine ⟨fun k=>e.getD k 0,?_,fun j hj=>?_⟩
 ·have:=Qmy e 0
  rw [h.1] at this; exact this
 ·have:=h.2 j hj
  unfold evJ at this
  show -1≤e.getD j 0∧e.getD j 0 < D.card j
  rw [List.getD_eq_getElem?_getD]; exact this
theorem Qt2 {e:List Int} {j:Nat} (hj:j < e.length):lkI e (j:Int)=some ((e[j]?).getD 0):=by rw [Qn hj,List.getElem?_eq_getElem hj]; rfl
theorem Q5s (X:VX D) (e:List Int):(evL D e∧Z9 D.net e=some 0)∨(¬ evL D e∧Z9 D.net e=some 2):=by
 have V:=X.vn
 have hn:=V.n8
 have hlen:D.net.Nodes.length=D.n:=Qr
 obtain ⟨order,hr⟩:=Qsl X
 unfold Z9
 rw [hr,Option.bind_some,if_neg (by simp)]
 dsimp only
 rw [hlen]
 by_cases c:e.length=D.n
 ·rw [if_neg (by simp; omega)]
  have h:=Yh (n:=D.n) (by omega) (evJ D e) (fun i (_:Unit)=>i) (body:=Zl e (⟨D.net,Qm D.n D.card,Qm D.n (setN D),order⟩,0)) (fun _=>()) (.inr ()) (.inl ())
   (fun j hj hI hg=>by
    obtain ⟨g1,g2⟩:=hg
    unfold Zl
    dsimp only
    rw [c,if_pos (dlt hj),Qt2 (by omega),Option.bind_some,if_neg (by simp; exact g1),Zr hj,Option.bind_some,if_neg (by simp; exact g2)])
   (fun j hj hI hg=>by
    unfold Zl
    dsimp only
    rw [c,if_pos (dlt hj),Qt2 (by omega),Option.bind_some]
    by_cases c1:(e[j]?).getD 0 < -1
    ·rw [if_pos (by simpa using c1)]
    ·rw [if_neg (by simpa using c1),Zr hj,Option.bind_some,if_pos (by
      rw [decide_eq_true_eq]
      exact Int.not_lt.1 fun hh=>hg ⟨by omega,hh⟩)])
   (fun hI=>by unfold Zl; dsimp only; rw [c,if_neg (nlt _)])
  rcases h with ⟨h,e1⟩ | ⟨h,e1⟩
  ·left; refine ⟨⟨c,h⟩,?_⟩
   have e1:Qd fuel (Zl e (⟨D.net,Qm D.n D.card,Qm D.n (setN D),order⟩,0)) 0=some (.inr ()):=e1
   rw [e1]; rfl
  ·right; refine ⟨fun hh=>h hh.2,?_⟩
   have e1:Qd fuel (Zl e (⟨D.net,Qm D.n D.card,Qm D.n (setN D),order⟩,0)) 0=some (.inl ()):=e1
   rw [e1]; rfl
 ·rw [if_pos (by simp; omega)]
  exact .inr ⟨fun hh=>c hh.1,rfl⟩
theorem Q7q (V:VN D) (e:List Int):(evL D e∧Jx D.net e=some true)∨(¬ evL D e∧Jx D.net e=some false):=by
 have hn:=V.n8
 have hlen:D.net.Nodes.length=D.n:=Qr
 unfold Jx
 rw [hlen]
 by_cases c:e.length=D.n
 ·rw [if_neg (by simp; omega)]
  have h:=Yh (n:=D.n) (by omega) (evJ D e) (fun i (_:Unit)=>i) (body:=Xq e D.net) (fun _=>()) (.inr ()) (.inl ())
   (fun j hj hI hg=>by
    obtain ⟨g1,g2⟩:=hg
    unfold Xq
    rw [c,if_pos (dlt hj),Qt2 (by omega),Option.bind_some,if_neg (by simp; exact g1),V.node hj,Option.bind_some,if_neg (by
     rw [decide_eq_true_eq]; show ¬ (_≥(D.card j:Int)); omega)])
   (fun j hj hI hg=>by
    unfold Xq
    rw [c,if_pos (dlt hj),Qt2 (by omega),Option.bind_some]
    by_cases c1:(e[j]?).getD 0 < -1
    ·rw [if_pos (by simpa using c1)]
    ·rw [if_neg (by simpa using c1),V.node hj,Option.bind_some,if_pos (by
      rw [decide_eq_true_eq]
      show _≥(D.card j:Int)
      exact Int.not_lt.1 fun hh=>hg ⟨by omega,hh⟩)])
   (fun hI=>by unfold Xq; rw [c,if_neg (nlt _)])
  rcases h with ⟨h,e1⟩ | ⟨h,e1⟩
  ·left; refine ⟨⟨c,h⟩,?_⟩
   have e1:Qd fuel (Xq e D.net) 0=some (.inr ()):=e1
   rw [e1]; rfl
  ·right; refine ⟨fun hh=>h hh.2,?_⟩
   have e1:Qd fuel (Xq e D.net) 0=some (.inl ()):=e1
   rw [e1]; rfl
 ·rw [if_pos (by simp; omega)]
  exact .inr ⟨fun hh=>c hh.1,rfl⟩
structure Qr4 (D:NF) (s:SF):Prop where
 N:s.N < D.n
 R:s.R < D.rows s.N
 F:s.F < D.card s.N
 T:s.T < D.card s.N
 FT:s.F≠s.T
def shL (D:NF) (s:Tapi_Shift):Prop:=∃s':SF,s=s'.sh∧Qr4 D s'
def chkS (p0:Qb) (p3:Tapi_Shift):Option Int :=
 if (decide (p3.Node < 0))=true then some 2 else
 if (decide (p3.Node≥(p0.Nodes.length:Int)))=true then some 2 else
 (lkI p0.Nodes p3.Node).bind fun a31 =>
 if (decide (p3.Row < 0))=true then some 2 else
 if (decide (p3.Row≥(a31.Rows.length:Int)))=true then some 2 else
 if (decide (p3.From < 0))=true then some 2 else
 if (decide (p3.From≥a31.Card))=true then some 2 else
 if (decide (p3.To < 0))=true then some 2 else
 if (decide (p3.To≥a31.Card))=true then some 2 else
 if (p3.From==p3.To)=true then some 2 else some 0
theorem Qyn (V:VN D) (s:Tapi_Shift):(shL D s∧chkS D.net s=some 0∧Zo D.net s=some true)∨(¬ shL D s∧chkS D.net s=some 2∧Zo D.net s=some false):=by
 have hlen:D.net.Nodes.length=D.n:=Qr
 by_cases c1:s.Node < 0
 ·exact .inr ⟨fun ⟨s',e,h⟩=>by rw [e] at c1; have:(s'.N:Int) < 0:=c1; omega,by unfold chkS; rw [hlen,if_pos (by simpa using c1)],by unfold Zo; rw [hlen,if_pos (by simpa using c1)]⟩
 by_cases c2:s.Node≥(D.n:Int)
 ·exact .inr ⟨fun ⟨s',e,h⟩=>by rw [e] at c2; have:(s'.N:Int)≥D.n:=c2; have:=h.N; omega,by unfold chkS; rw [hlen,if_neg (by simpa using c1),if_pos (by simpa using c2)],by unfold Zo; rw [hlen,if_neg (by simpa using c1),if_pos (by simpa using c2)]⟩
 obtain ⟨N,hN⟩:∃N:Nat,s.Node=(N:Int):=⟨s.Node.toNat,by omega⟩
 have hNl:N < D.n:=by omega
 have en:lkI D.net.Nodes s.Node=some (D.node N):=by rw [hN]; exact V.node hNl
 have er:((D.node N).Rows.length:Int)=D.rows N:=by show ((Qc (D.rows N) _).length:Int)=_; rw [Qr]
 have ec:(D.node N).Card=(D.card N:Int):=rfl
 have bad:∀s':SF,s=s'.sh→s'.N=N:=fun s' e=>by
  have:s.Node=(s'.N:Int):=by rw [e]; rfl
  omega
 by_cases c3:s.Row < 0
 ·exact .inr ⟨fun ⟨s',e,h⟩=>by rw [e] at c3; have:(s'.R:Int) < 0:=c3; omega,by unfold chkS; rw [hlen,if_neg (by simpa using c1),if_neg (by simpa using c2),en,Option.bind_some,er,ec,if_pos (by simpa using c3)],by unfold Zo; rw [hlen,if_neg (by simpa using c1),if_neg (by simpa using c2),if_pos (by simpa using c3)]⟩
 by_cases c4:s.Row≥(D.rows N:Int)
 ·exact .inr ⟨fun ⟨s',e,h⟩=>by
   have hb:=bad s' e
   have h2:=h.R
   rw [hb] at h2
   rw [e] at c4
   have:(s'.R:Int)≥D.rows N:=c4; omega,by unfold chkS; rw [hlen,if_neg (by simpa using c1),if_neg (by simpa using c2),en,Option.bind_some,er,ec,if_neg (by simpa using c3),if_pos (by simpa using c4)],by unfold Zo; rw [hlen,if_neg (by simpa using c1),if_neg (by simpa using c2),if_neg (by simpa using c3),en,Option.bind_some,er,ec,if_pos (by simpa using c4)]⟩
 by_cases c5:s.From < 0
 ·exact .inr ⟨fun ⟨s',e,h⟩=>by rw [e] at c5; have:(s'.F:Int) < 0:=c5; omega,by unfold chkS; rw [hlen,if_neg (by simpa using c1),if_neg (by simpa using c2),en,Option.bind_some,er,ec,if_neg (by simpa using c3),if_neg (by simpa using c4),if_pos (by simpa using c5)],by unfold Zo; rw [hlen,if_neg (by simpa using c1),if_neg (by simpa using c2),if_neg (by simpa using c3),en,Option.bind_some,er,ec,if_neg (by simpa using c4),if_neg (by simp; omega)]⟩
 by_cases c6:s.From≥(D.card N:Int)
 ·exact .inr ⟨fun ⟨s',e,h⟩=>by
   have hb:=bad s' e
   have h2:=h.F
   rw [hb] at h2
   rw [e] at c6
   have:(s'.F:Int)≥D.card N:=c6; omega,by unfold chkS; rw [hlen,if_neg (by simpa using c1),if_neg (by simpa using c2),en,Option.bind_some,er,ec,if_neg (by simpa using c3),if_neg (by simpa using c4),if_neg (by simpa using c5),if_pos (by simpa using c6)],by unfold Zo; rw [hlen,if_neg (by simpa using c1),if_neg (by simpa using c2),if_neg (by simpa using c3),en,Option.bind_some,er,ec,if_neg (by simpa using c4),if_pos (by simp; omega),if_neg (by simp; omega)]⟩
 by_cases c7:s.To < 0
 ·exact .inr ⟨fun ⟨s',e,h⟩=>by rw [e] at c7; have:(s'.T:Int) < 0:=c7; omega,by unfold chkS; rw [hlen,if_neg (by simpa using c1),if_neg (by simpa using c2),en,Option.bind_some,er,ec,if_neg (by simpa using c3),if_neg (by simpa using c4),if_neg (by simpa using c5),if_neg (by simpa using c6),if_pos (by simpa using c7)],by unfold Zo; rw [hlen,if_neg (by simpa using c1),if_neg (by simpa using c2),if_neg (by simpa using c3),en,Option.bind_some,er,ec,if_neg (by simpa using c4),if_pos (by simp; omega),if_pos (by simp; omega),if_neg (by simp; omega)]⟩
 by_cases c8:s.To≥(D.card N:Int)
 ·exact .inr ⟨fun ⟨s',e,h⟩=>by
   have hb:=bad s' e
   have h2:=h.T
   rw [hb] at h2
   rw [e] at c8
   have:(s'.T:Int)≥D.card N:=c8; omega,by unfold chkS; rw [hlen,if_neg (by simpa using c1),if_neg (by simpa using c2),en,Option.bind_some,er,ec,if_neg (by simpa using c3),if_neg (by simpa using c4),if_neg (by simpa using c5),if_neg (by simpa using c6),if_neg (by simpa using c7),if_pos (by simpa using c8)],by unfold Zo; rw [hlen,if_neg (by simpa using c1),if_neg (by simpa using c2),if_neg (by simpa using c3),en,Option.bind_some,er,ec,if_neg (by simpa using c4),if_pos (by simp; omega),if_pos (by simp; omega),if_pos (by simp; omega),if_neg (by simp; omega)]⟩
 by_cases c9:s.From=s.To
 ·exact .inr ⟨fun ⟨s',e,h⟩=>by
   rw [e] at c9
   have:(s'.F:Int)=s'.T:=c9
   exact h.FT (by omega),by unfold chkS; rw [hlen,if_neg (by simpa using c1),if_neg (by simpa using c2),en,Option.bind_some,er,ec,if_neg (by simpa using c3),if_neg (by simpa using c4),if_neg (by simpa using c5),if_neg (by simpa using c6),if_neg (by simpa using c7),if_neg (by simpa using c8),if_pos (by simpa using c9)],by unfold Zo; rw [hlen,if_neg (by simpa using c1),if_neg (by simpa using c2),if_neg (by simpa using c3),en,Option.bind_some,er,ec,if_neg (by simpa using c4),if_pos (by simp; omega),if_pos (by simp; omega),if_pos (by simp; omega),if_pos (by simp; omega)]; simp [c9]⟩
 ·refine .inl ⟨⟨⟨N,s.Row.toNat,s.From.toNat,s.To.toNat⟩,?_,hNl,by show s.Row.toNat < D.rows N; omega,by show s.From.toNat < D.card N; omega,by show s.To.toNat < D.card N; omega,by show s.From.toNat ≠ s.To.toNat; omega⟩,by unfold chkS; rw [hlen,if_neg (by simpa using c1),if_neg (by simpa using c2),en,Option.bind_some,er,ec,if_neg (by simpa using c3),if_neg (by simpa using c4),if_neg (by simpa using c5),if_neg (by simpa using c6),if_neg (by simpa using c7),if_neg (by simpa using c8),if_neg (by simpa using c9)],by unfold Zo; rw [hlen,if_neg (by simpa using c1),if_neg (by simpa using c2),if_neg (by simpa using c3),en,Option.bind_some,er,ec,if_neg (by simpa using c4),if_pos (by simp; omega),if_pos (by simp; omega),if_pos (by simp; omega),if_pos (by simp; omega)]; simp [c9]⟩
  show s=⟨(N:Int),(s.Row.toNat : Int),(s.From.toNat : Int),(s.To.toNat : Int)⟩
  rw [←hN,Int.toNat_of_nonneg (by omega),Int.toNat_of_nonneg (by omega),Int.toNat_of_nonneg (by omega)]
theorem Q0d (X:VX D) {e:List Int} {v:Int} {s:Tapi_Shift} {l:List Int}:Zk D.net e v s l=(Z9 D.net e).bind fun x5=>if (x5 != 0)=true then some x5 else if (decide (v < 0))=true then some 2 else if (decide (v≥(D.n:Int)))=true then some 2 else
  (Qd fuel (Zm l D.net v) 0).bind fun x24=>match x24 with | .inl _=>some 2 | .inr _=>chkS D.net s:=by
 have hlen:D.net.Nodes.length=D.n:=Qr
 obtain ⟨order,hr⟩:=Qsl X
 unfold Zk Qc6 chkS
 rw [hr,hlen]
 rfl
theorem Q7d (V:VN D) {v:Nat} (hv:v < D.n) (x:Int):((0≤x∧x < D.card v)∧Qd fuel (Zm [x] D.net (v:Int)) 0=some (.inr ()))∨(¬ (0≤x∧x < D.card v)∧Qd fuel (Zm [x] D.net (v:Int)) 0=some (.inl ())):=by
 have h:=Yh (n:=1) (by omega) (fun _=>0≤x∧x < D.card v) (fun i (_:Unit)=>i) (body:=Zm [x] D.net (v:Int)) (fun _=>()) (.inr ()) (.inl ())
  (fun k hk _ hg=>by
   obtain rfl:k=0:=by omega
   unfold Zm
   rw [if_pos (by simp),show lkI [x] ((0:Nat):Int)=some x from rfl,Option.bind_some,if_neg (by simp; omega),V.node hv,Option.bind_some,if_neg (by simp [NF.node]; omega)])
  (fun k hk _ hg=>by
   obtain rfl:k=0:=by omega
   unfold Zm
   rw [if_pos (by simp),show lkI [x] ((0:Nat):Int)=some x from rfl,Option.bind_some]
   by_cases c1:x < 0
   ·rw [if_pos (by simpa using c1)]
   ·rw [if_neg (by simpa using c1),V.node hv,Option.bind_some,if_pos (by simp [NF.node]; omega)])
  (fun _=>by unfold Zm; rw [if_neg (by simp)])
 rcases h with ⟨h,e⟩ | ⟨h,e⟩
 ·exact .inl ⟨h 0 (by omega),e⟩
 ·exact .inr ⟨fun hh=>h fun _ _=>hh,e⟩
structure Qof (D:NF) (E:Nat → Int) (v x:Nat) (s:SF):Prop where
 hE:Qmc D E
 hv:v < D.n
 hx:x < D.card v
 hs:Qr4 D s
def Qu0 (D:NF) (e:List Int) (v x:Int) (s:Tapi_Shift):Prop:=evL D e∧(0≤v∧v < D.n)∧(0≤x∧x < D.card v.toNat)∧shL D s
theorem Q5k {e:List Int} {v x:Int} {s:Tapi_Shift} (h:Qu0 D e v x s):∃E v' x' s',e=Qc D.n E∧v=(v':Nat)∧x=(x':Nat)∧s=SF.sh s'∧Qof D E v' x' s':=by
 obtain ⟨h1,h2,h3,s',e3,hs⟩:=h
 obtain ⟨E,hE,hE2⟩:=Q6a h1
 exact ⟨E,v.toNat,x.toNat,s',hE,by omega,by omega,e3,hE2,by omega,by omega,hs⟩
theorem Q20 (X:VX D) (e:List Int) (v x:Int) (s:Tapi_Shift):(Qu0 D e v x s∧Zk D.net e v s [x]=some 0)∨(¬ Qu0 D e v x s∧Zk D.net e v s [x]=some 2):=by
 have V:=X.vn
 rw [Q0d X]
 rcases Q5s X e with ⟨he,e1⟩ | ⟨he,e1⟩
 ·rw [e1,Option.bind_some,if_neg (by decide)]
  by_cases c1:v < 0
  ·rw [if_pos (by simpa using c1)]; exact .inr ⟨fun h=>by have:=h.2.1; omega,rfl⟩
  rw [if_neg (by simpa using c1)]
  by_cases c2:v≥(D.n:Int)
  ·rw [if_pos (by simpa using c2)]; exact .inr ⟨fun h=>by have:=h.2.1; omega,rfl⟩
  rw [if_neg (by simpa using c2)]
  obtain ⟨v',rfl⟩:∃N:Nat,v=(N:Int):=⟨v.toNat,by omega⟩
  rcases Q7d V (show v' < D.n by omega) x with ⟨c3,e3⟩ | ⟨c3,e3⟩
  ·rw [e3,Option.bind_some]
   dsimp only
   rcases Qyn V s with ⟨hs,e4,_⟩ | ⟨hs,e4,_⟩
   ·rw [e4]; exact .inl ⟨⟨he,by omega,c3,hs⟩,rfl⟩
   ·rw [e4]; exact .inr ⟨fun h=>hs h.2.2.2,rfl⟩
  ·rw [e3]; exact .inr ⟨fun h=>c3 h.2.2.1,rfl⟩
 ·rw [e1,Option.bind_some,if_pos (by decide)]; exact .inr ⟨fun h=>he h.1,rfl⟩
theorem Q26 (X:VX D):Kb D.net=some true:=by
 have V:=X.vn
 have hb:NB D.n D.node:=⟨fun v hv=>by
   have:=V.len v hv
   show (List.map _ (D.par v)).length≤_; rw [List.length_map]; omega,fun v hv=>by
   have:=V.rows_le hv
   show (Qc _ _).length≤_; rw [Qr]; omega,fun v hv r hr=>by
   have hr:r∈Qc (D.rows v) fun r=>Qc (D.card v) fun x=>(D.W v r x:Int):=hr
   unfold Qc at hr
   obtain ⟨i,_,rfl⟩:=List.mem_map.1 hr
   have:=(V.card v hv).2
   rw [List.length_map,List.length_range]; omega⟩
 rcases Qqi (g:=D.g) hb with ⟨_,e⟩ | ⟨no,_⟩
 ·exact e
 ·exact absurd (Qyl X) no
theorem Q6k (X:VX D) (e:List Int) (v x:Int) (s:Tapi_Shift):(Qu0 D e v x s∧Vo D.net e v x s=some 0)∨(¬ Qu0 D e v x s∧Vo D.net e v x s=some 2):=by
 have V:=X.vn
 have hlen:D.net.Nodes.length=D.n:=Qr
 unfold Vo
 rw [Q26 X,Option.bind_some,if_neg (by decide),hlen]
 rcases Q7q V e with ⟨he,e1⟩ | ⟨he,e1⟩
 ·rw [e1,Option.bind_some,if_neg (by decide)]
  by_cases c1:v < 0
  ·rw [if_pos (by simpa using c1)]; exact .inr ⟨fun h=>by have:=h.2.1; omega,rfl⟩
  rw [if_neg (by simpa using c1)]
  by_cases c2:v≥(D.n:Int)
  ·rw [if_pos (by simpa using c2)]; exact .inr ⟨fun h=>by have:=h.2.1; omega,rfl⟩
  rw [if_neg (by simpa using c2)]
  obtain ⟨v',rfl⟩:∃N:Nat,v=(N:Int):=⟨v.toNat,by omega⟩
  by_cases c3:x < 0
  ·rw [if_pos (by simpa using c3)]; exact .inr ⟨fun h=>by have:=h.2.2.1; omega,rfl⟩
  rw [if_neg (by simpa using c3),V.node (by omega),Option.bind_some]
  by_cases c4:x≥(D.card v':Int)
  ·rw [if_pos (by simpa [NF.node] using c4)]; exact .inr ⟨fun h=>by have:=h.2.2.1; rw [Int.toNat_natCast] at this; omega,rfl⟩
  rw [if_neg (by simpa [NF.node] using c4)]
  rcases Qyn V s with ⟨hs,_,e4⟩ | ⟨hs,_,e4⟩
  ·rw [e4,Option.bind_some,if_neg (by decide)]; exact .inl ⟨⟨he,by omega,by rw [Int.toNat_natCast]; omega,hs⟩,rfl⟩
  ·rw [e4,Option.bind_some,if_pos (by decide)]; exact .inr ⟨fun h=>hs h.2.2.2,rfl⟩
 ·rw [e1,Option.bind_some,if_pos (by decide)]; exact .inr ⟨fun h=>he h.1,rfl⟩
end
end Go.Ab
namespace Go.Ab
open Go
set_option maxRecDepth 100000
set_option maxHeartbeats 400000
section
variable {D:NF} {E:Nat → Int} {v x:Nat} {s:SF}
theorem Q38 {a:Qb} {b:Tapi_Shift} {c:List Int}:Qil a b c=Jf a b c:=rfl
theorem Q0s (V:VN D) {w:Nat → Nat} (hw:D.ok w) (hs:s.N < D.n):Qd fuel (Jf D.net s.sh (Qm D.n w)) (1,0)=some (prodTo D.n (fun u=>if u=s.N then 1 else D.wt w u):Int):=by
 have hn:=V.n8
 have hlen:D.net.Nodes.length=D.n:=Qr
 have hb:∀k,k≤D.n→prodTo k (fun u=>if u=s.N then 1 else D.wt w u)≤167961600000000:=fun k hk=>by
  have h1:prodTo k (fun u=>if u=s.N then 1 else D.wt w u)≤60^k:=Vk fun u hu=>by
   split
   ·omega
   ·exact V.wt_le hw (by omega)
  have h2:(60:Nat)^k≤60^8:=Nat.pow_le_pow_right (by omega) (by omega)
  have h3:(60:Nat)^8=167961600000000:=by decide
  omega
 have hr:=Kd (n:=D.n) (k0:=0) (by omega) (by omega) (fun i (t:Int)=>(t,i)) (body:=Jf D.net s.sh (Qm D.n w)) (fun k=>(prodTo k (fun u=>if u=s.N then 1 else D.wt w u):Int)) (prodTo D.n (fun u=>if u=s.N then 1 else D.wt w u):Int)
  (fun k _ hk=>by
   unfold Jf
   dsimp only
   rw [hlen,if_pos (dlt hk),show s.sh.Node=(s.N:Int) from rfl]
   by_cases c:k=s.N
   ·rw [if_neg (by simp; omega)]
    congr 3
    simp only [prodTo,c,if_true,Nat.mul_one]
   ·rw [if_pos (by simp; omega),Q1v V hw hk,Option.bind_some,Zr hk,Option.bind_some,Qv (hw k hk),Option.bind_some]
    have h1:=hb (k+1) (by omega)
    have e:(prodTo k (fun u=>if u=s.N then 1 else D.wt w u):Int)*(D.W k (D.idx k w) (w k):Int)=((prodTo (k+1) (fun u=>if u=s.N then 1 else D.wt w u):Nat):Int):=by
     simp only [prodTo,if_neg c]; rw [Int.natCast_mul]; rfl
    rw [e,w64 (n:=((prodTo (k+1) (fun u=>if u=s.N then 1 else D.wt w u):Nat):Int)) (by omega)])
  (by unfold Jf; dsimp only; rw [hlen,if_neg (nlt _)])
 exact hr
theorem Q21 {w:Nat → Nat} (h:D.hit s w=true):D.rest s w D.n=prodTo D.n (fun u=>if u=s.N then 1 else D.wt w u):=Qcd fun u _=>by
 by_cases c:u=s.N
 ·rw [if_pos ⟨c,h⟩,if_pos c]
 ·rw [if_neg fun hh=>c hh.1,if_neg c]
theorem Qy8 (V:VN D) (A:Qof D E v x s) {k:Nat} (hk:k < prodTo D.n D.card) (hm:Yz D.n E 0 (dig D k)) (a b c d:Int) :
  Je D.net (Qc D.n E) s.sh (v:Int) (x:Int) ((k:Int),a,b,c,d)=some (.next (zw ((k:Int)+1),(if dig D k v=x then zw (a+D.fA s (dig D k)) else a),(if dig D k v=x then zw (b+D.fB s (dig D k)) else b),zw (c+D.fA s (dig D k)),zw (d+D.fB s (dig D k)))):=by
 have hw:=Qvr V k
 have hwo:=V.worlds
 have hW:k < 1125899906842624:=by omega
 have hE:∀j,j < D.n→-1≤E j:=fun j hj=>(A.hE j hj).1
 have hN:=A.hs.N
 have hpar:∀p∈D.par s.N,p < D.n:=V.par _ hN
 have hlen8:=V.len _ hN
 have hidx:∀p∈D.par s.N,D.card p≤4∧dig D k p < D.card p:=fun p hp=>⟨(V.card p (hpar p hp)).2,hw p (hpar p hp)⟩
 have hB:D.fB s (dig D k)=(D.rest s (dig D k) D.n:Int)*D.change s (dig D k):=rfl
 have hbd:=V.fB_bound (s:=s) hw
 unfold Je
 dsimp only
 rw [Qnz V,Option.bind_some,if_pos (by simpa using hk),Qni V hW,Option.bind_some,Quy V.n8 hE hm,Option.bind_some,if_neg (by decide),Q2p V hW,Option.bind_some]
 rw [show s.sh.Node=(s.N:Int) from rfl,show s.sh.Row=(s.R:Int) from rfl,show s.sh.From=(s.F:Int) from rfl,show s.sh.To=(s.T:Int) from rfl]
 rw [Qs8 V hN,Option.bind_some,V.node hN,Option.bind_some,show (D.node s.N).Parents=(D.par s.N).map (fun (p:Nat)=>(p:Int)) from rfl,Qrh hpar hlen8,Option.bind_some,Qwv hidx hlen8,Option.bind_some]
 rw [←V.fA_eq (s:=s) (w:=dig D k) hN]
 rw [show horner D.card (dig D k) (D.par s.N)=D.idx s.N (dig D k) from rfl]
 rw [Zr hN,Zr A.hv]
 simp only [Option.bind_some]
 have hq:((dig D k v:Int)==(x:Int))=decide (dig D k v=x):=by rw [Bool.eq_iff_iff]; simp; omega
 rw [hq,Q38,Q0s V hw hN]
 simp only [Option.bind_some]
 by_cases c1:D.idx s.N (dig D k)=s.R
 ·have hh:D.hit s (dig D k)=true:=by unfold NF.hit; simp [c1]
  rw [if_pos (by simp; omega)]
  have hr:=Q21 (s:=s) hh
  by_cases c2:dig D k s.N=s.F
  ·have e:D.fB s (dig D k)=-(prodTo D.n (fun u=>if u=s.N then 1 else D.wt (dig D k) u):Int):=by
    rw [hB,hr]; unfold NF.change; rw [if_pos hh,if_pos c2]; omega
   rw [if_pos (by simp; omega)]
   have e2:zw (0 - (prodTo D.n (fun u=>if u=s.N then 1 else D.wt (dig D k) u):Int))=D.fB s (dig D k):=by rw [e,w64 (by omega)]; omega
   rw [e2]
   by_cases c3:dig D k v=x
   ·rw [if_pos (by simpa using c3),if_pos c3,if_pos c3]
   ·rw [if_neg (by simpa using c3),if_neg c3,if_neg c3]
  ·rw [if_neg (by simp; omega)]
   by_cases c4:dig D k s.N=s.T
   ·have e:D.fB s (dig D k)=(prodTo D.n (fun u=>if u=s.N then 1 else D.wt (dig D k) u):Int):=by
     rw [hB,hr]; unfold NF.change; rw [if_pos hh,if_neg c2,if_pos c4]; omega
    rw [if_pos (by simp; omega),←e]
    by_cases c3:dig D k v=x
    ·rw [if_pos (by simpa using c3),if_pos c3,if_pos c3]
    ·rw [if_neg (by simpa using c3),if_neg c3,if_neg c3]
   ·have e:D.fB s (dig D k)=0:=by
     rw [hB]; unfold NF.change; rw [if_pos hh,if_neg c2,if_neg c4]; omega
    rw [if_neg (by simp; omega),e]
    by_cases c3:dig D k v=x
    ·rw [if_pos (by simpa using c3),if_pos c3,if_pos c3]
    ·rw [if_neg (by simpa using c3),if_neg c3,if_neg c3]
 ·have hh:D.hit s (dig D k)=false:=by unfold NF.hit; simp [c1]
  have e:D.fB s (dig D k)=0:=by
   rw [hB]; unfold NF.change; rw [hh,if_neg (by decide)]; omega
  rw [if_neg (by simp; omega),e]
  by_cases c3:dig D k v=x
  ·rw [if_pos (by simpa using c3),if_pos c3,if_pos c3]
  ·rw [if_neg (by simpa using c3),if_neg c3,if_neg c3]
open Classical in
theorem Q4o (V:VN D) (A:Qof D E v x s):Qeu D.net (Qc D.n E) (v:Int) (x:Int) s.sh=some (Zf D s E v x):=by
 have hwo:=V.worlds
 have hE:∀j,j < D.n→-1≤E j:=fun j hj=>(A.hE j hj).1
 have hpc:PC D D.n 0=prodTo D.n D.card:=by have:=Qoc (D:=D) D.n 0; simpa [prodTo] using this
 have hmix:∀W,mix D 0 (fun _=>0) W=dig D W:=fun W=>by funext j; simp [mix]
 have key:∀(f:(Nat → Nat)→Int),Ext D f→SW D E f=Ql (prodTo D.n D.card) (fun W=>if Yz D.n E 0 (dig D W) then f (dig D W) else 0):=fun f hf=>by
  unfold SW
  rw [←Qqe V hf D.n 0 (fun _=>0) (by omega),hpc]
  exact Y9 fun W _=>by rw [hmix]
 have hb:∀(f:(Nat → Nat)→Int),(∀w,D.ok w→BD 1 (f w))→∀k,BD (k*1) (Ql k (fun W=>if Yz D.n E 0 (dig D W) then f (dig D W) else 0)):=fun f hf k=>BD.sum fun W _=>by
  split
  ·exact hf _ (Qvr V W)
  ·exact BD.zero
 have b1:=hb _ (Qoq (v:=v) (x:=x) (Qiv V A.hs.N))
 have b2:=hb _ (Qoq (v:=v) (x:=x) (Qio (s:=s) V))
 have b3:=hb _ (Qiv V A.hs.N)
 have b4:=hb _ (Qio (s:=s) V)
 have hsucc:∀(f:(Nat → Nat)→Int) (k:Nat),Ql (k+1) (fun W=>if Yz D.n E 0 (dig D W) then f (dig D W) else 0)=Ql k (fun W=>if Yz D.n E 0 (dig D W) then f (dig D W) else 0)+(if Yz D.n E 0 (dig D k) then f (dig D k) else 0):=fun f k=>rfl
 have hr:=Kd (n:=prodTo D.n D.card) (k0:=0) (by omega) (by omega) (fun i (t:Int × Int × Int × Int)=>(i,t)) (body:=Je D.net (Qc D.n E) s.sh (v:Int) (x:Int))
  (fun k=>(Ql k (fun W=>if Yz D.n E 0 (dig D W) then at' v x (D.fA s) (dig D W) else 0),Ql k (fun W=>if Yz D.n E 0 (dig D W) then at' v x (D.fB s) (dig D W) else 0),Ql k (fun W=>if Yz D.n E 0 (dig D W) then D.fA s (dig D W) else 0),Ql k (fun W=>if Yz D.n E 0 (dig D W) then D.fB s (dig D W) else 0)))
  (Zf D s E v x)
  (fun k _ hk=>by
   have f1:=(b1 (k+1)).fit (by omega)
   have f2:=(b2 (k+1)).fit (by omega)
   have f3:=(b3 (k+1)).fit (by omega)
   have f4:=(b4 (k+1)).fit (by omega)
   rw [hsucc] at f1 f2 f3 f4
   rw [hsucc,hsucc,hsucc,hsucc]
   by_cases hm:Yz D.n E 0 (dig D k)
   ·rw [Qy8 V A hk hm]
    rw [if_pos hm] at f1 f2 f3 f4 ⊢
    rw [if_pos hm,if_pos hm,if_pos hm,w64 f3,w64 f4]
    unfold at' at f1 f2 ⊢
    by_cases c:dig D k v=x
    ·rw [if_pos c] at f1 f2 ⊢
     rw [if_pos c,if_pos c,if_pos c,w64 f1,w64 f2]
    ·rw [if_neg c,if_neg c,if_neg c,if_neg c,Int.add_zero,Int.add_zero]
   ·rw [if_neg hm,if_neg hm,if_neg hm,if_neg hm,Int.add_zero,Int.add_zero,Int.add_zero,Int.add_zero]
    unfold Je
    dsimp only
    rw [Qnz V,Option.bind_some,if_pos (by simpa using hk),Qni V (by omega),Option.bind_some,Qts V.n8 hE hm,Option.bind_some,if_pos (by decide)])
  (by
   unfold Je
   dsimp only
   rw [Qnz V,Option.bind_some,if_neg (by simp)]
   unfold Zf
   rw [key _ (Qqt A.hv (Qqp V A.hs.N)),key _ (Qqt A.hv (Qra V A.hs.N)),key _ (Qqp V A.hs.N),key _ (Qra V A.hs.N)])
 unfold Qeu
 rw [show ((0:Nat):Int)=0 from rfl] at hr
 have h0:∀(f:Nat → Int),Ql 0 f=0:=fun f=>rfl
 rw [h0,h0,h0,h0] at hr
 rw [hr]; rfl
end
end Go.Ab
namespace Go.Ab
open Go
set_option maxRecDepth 100000
set_option maxHeartbeats 400000
theorem Qvs {a b:Int}:Qb9 a b > 0↔b < a:=by unfold Qb9; split <;> (try split) <;> omega
section
variable {L:LN} {b aT aF:Nat}
end
section
variable {D:NF} {E:Nat → Int} {v x:Nat} {s:SF}
theorem Qwn (V:VN D) (hs:Qr4 D s):Qdh D.net s.sh=some (-(D.W s.N s.R s.T:Int),(D.W s.N s.R s.F:Int)):=Qym V hs.N hs.R hs.F hs.T
end
end Go.Ab
namespace Go.Ab
open Go
set_option maxRecDepth 100000
set_option maxHeartbeats 400000
theorem Qua {n:Int} (h:(Lit.int .u8 n).wf=true):0≤n∧n≤255:=by
 simpa [Lit.wf,IntKind.min,IntKind.max,IntKind.bits,IntKind.signed] using h
theorem Qzs {D:NF} (X:VX D):∀x∈Qc D.n D.node,Kq 65536 x:=fun x hx=>by
 have V:=X.vn
 unfold Qc at hx
 obtain ⟨v,hv,rfl⟩:=List.mem_map.1 hx
 have hv:=List.mem_range.1 hv
 have hc:=V.card v hv
 refine ⟨?_,?_,fun r hr=>?_⟩
 ·have:=V.len v hv
  show (List.map _ (D.par v)).length≤_
  rw [List.length_map]; omega
 ·show (Qc (D.rows v) _).length≤_
  rw [Qr]; exact V.rows_le hv
 ·have hr:r∈Qc (D.rows v) fun r=>Qc (D.card v) fun x=>(D.W v r x:Int):=hr
  unfold Qc at hr
  obtain ⟨i,hi,rfl⟩:=List.mem_map.1 hr
  rw [List.length_map,List.length_range]; omega
theorem Q5z {n:Nat} {F:Nat → Tapi_Node} (h:∀x∈Qc n F,Kq 65536 x):NB n F:=by
 have key:∀v,v < n→Kq 65536 (F v):=fun v hv=>h _ (by unfold Qc; exact List.mem_map.2 ⟨v,List.mem_range.2 hv,rfl⟩)
 exact ⟨fun v hv=>by have:=(key v hv).par; omega,fun v hv=>by have:=(key v hv).rows; omega,fun v hv r hr=>by have:=(key v hv).row r hr; omega⟩
theorem Q35 {p0:Qg} {p1:Zt} (h0:Vv p0) (h1:Qae p1) :
  ∃(D:NF) (n:Nat) (g:Int) (F:Nat → Tapi_Node),VX D∧D.n≤5∧NB D.n D.node∧Qk0 D.n D.g D.node∧NB n F∧n≤6∧Jh p0=some ⟨D.g,Qc D.n D.node⟩∧Km p1 ⟨D.g,Qc D.n D.node⟩=some ⟨g,Qc n F⟩:=by
 obtain ⟨D,X,hn,_,e⟩:=Qs4 (Qyg h0)
 have hs:=Qzs X
 have V:=X.vn
 have hlen:(Qc D.n D.node).length=D.n:=Qr
 obtain ⟨g,l,e2,h2,h3⟩:=Q34 (b:=p1) (g:=D.g) (l:=Qc D.n D.node) (m:=65536) (by omega) (by rw [hlen]; exact V.n1) (by rw [hlen]; exact V.n8) hs (Qua h1.2.1) (Qua h1.2.2.1)
 rw [hlen] at h2
 refine ⟨D,l.length,g,fun v=>(l[v]?).getD default,X,hn,Q5z hs,Qyl X,Q8j (m:=65536+1) (by omega) h3,by omega,e,?_⟩
 rw [e2,←Q4p]
theorem lk5 {α:Type} {a b c d e:α} {k:Nat} (h:k < 5) {Q:α→Prop} (h1:Q a) (h2:Q b) (h3:Q c) (h4:Q d) (h5:Q e):∃x,lkI ([a,b,c,d,e]:List α) (k:Int)=some x∧Q x:=by
 match k,h with
 | 0,_=>exact ⟨a,rfl,h1⟩
 | 1,_=>exact ⟨b,rfl,h2⟩
 | 2,_=>exact ⟨c,rfl,h3⟩
 | 3,_=>exact ⟨d,rfl,h4⟩
 | 4,_=>exact ⟨e,rfl,h5⟩
def Qp0 (a:Qe):Prop:=∃n g F,a.n=⟨g,Qc n F⟩∧NB n F∧n≤6
theorem Q57 {p0:Tharuspexlaw24_Story} (h:Kz p0):∃a b c d e,Kh p0=some (a,b,c,d,e)∧Qp0 a∧Qp0 b∧Qp0 c∧Qp0 d∧Qp0 e:=by
 obtain ⟨hN,hC,hK,hD,hR,hV,hx,hS⟩:=h
 obtain ⟨D,X0,n5,c23,hnet⟩:=Qs4 (Qyg hN)
 have X:DX D:=⟨X0,n5,c23⟩
 obtain ⟨D',n,g,F,X',hn5,hB',hF',hB,hn6,e1,e2⟩:=Q35 hN hC
 obtain ⟨E,hE,eE⟩:=Q4l X hK
 obtain ⟨v,x,s,hv,hx',hs1,hs2,hs3,hs4,eD⟩:=Q4m X hD
 have hd:D.net=⟨D'.g,Qc D'.n D'.node⟩:=by rw [e1] at hnet; exact (Option.some.inj hnet).symm
 have own:∀e v x s,Qp0 ⟨D.net,e,v,x,s⟩:=fun e v x s=>⟨D'.n,D'.g,D'.node,hd,hB',by omega⟩
 have hcut:0≤(if 9 < (p0.Raw.length:Int) then (9:Int) else (p0.Raw.length:Int))∧(if 9 < (p0.Raw.length:Int) then (9:Int) else (p0.Raw.length:Int))≤(p0.Raw.length:Int):=by split <;> omega
 unfold Kh
 rw [hnet,Option.bind_some]
 rw [show (Tharuspexref05_Known.mk p0.K.Which (p0.K.V.1,p0.K.V.2.1,p0.K.V.2.2.1,p0.K.V.2.2.2.1,p0.K.V.2.2.2.2.1,p0.K.V.2.2.2.2.2.1,p0.K.V.2.2.2.2.2.2.1,p0.K.V.2.2.2.2.2.2.2))=p0.K from rfl]
 rw [eE,Option.bind_some,eD,Option.bind_some,if_pos ⟨Int.le_refl _,hcut.1,hcut.2⟩,hd,e2,Option.bind_some,←hd]
 exact ⟨_,_,_,_,_,rfl,own _ _ _ _,⟨n,g,F,rfl,hB,hn6⟩,own _ _ _ _,own _ _ _ _,own _ _ _ _⟩
theorem Q17 {n:Nat} {g:Int} {F:Nat → Tapi_Node} (hb:NB n F) (hbig:n≤1000) (hf:¬ Qk0 n g F) {e l:List Int} {v x:Int} {s:Tapi_Shift}:Zk ⟨g,Qc n F⟩ e v s l=some 50∧Vo ⟨g,Qc n F⟩ e v x s=some 50:=by
 constructor
 ·rcases Q01 (g:=g) hb (by omega) with ⟨hf',_⟩ | ⟨_,e⟩
  ·exact absurd hf' hf
  ·unfold Zk Qc6
   rw [e]; rfl
 ·rcases Qqi (g:=g) hb with ⟨hf',_⟩ | ⟨_,e⟩
  ·exact absurd hf' hf
  ·unfold Vo
   rw [e]; rfl
theorem Q71 (q:Tapi_Q):((q.N==q.N) && ((q.D==q.D) && true))=true:=by simp
end Go.Ab
namespace Go.Ab
open Go
set_option maxRecDepth 100000
set_option maxHeartbeats 400000
theorem Q1g (t:Tapi_Q):J9 t=some (if Rt t then (if Sml t then 0 else 2) else 5):=by
 unfold J9
 rw [Q2t,Option.bind_some]
 by_cases h:Rt t
 ·rw [if_neg (by simpa using h),if_pos h]
  by_cases h2:Sml t
  ·obtain ⟨a,b,c⟩:=h2
   rw [if_neg (by simp; omega),if_neg (by simp; omega),if_neg (by simp; omega),if_pos ⟨a,b,c⟩]
  ·rw [if_neg h2]
   unfold Sml at h2
   by_cases c1:t.N < -1000
   ·rw [if_pos (by simpa using c1)]
   rw [if_neg (by simpa using c1)]
   by_cases c2:t.N > 1000
   ·rw [if_pos (by simpa using c2)]
   rw [if_neg (by simpa using c2),if_pos (by simp; omega)]
 ·rw [if_pos (by simpa using h),if_neg h]
section
variable {D:NF} {s:SF}
theorem Q4g (V:VN D) (hs:Qr4 D s):D.W s.N s.R s.T≤60∧D.W s.N s.R s.F≤60:=by
 have h1:=V.W s.N s.R s.T hs.N hs.R hs.T
 have h2:=V.W s.N s.R s.F hs.N hs.R hs.F
 have:=V.g60
 omega
theorem Qx3 {a b:Int}:Qb9 a b≥0↔b≤a:=by unfold Qb9; split <;> (try split) <;> omega
theorem Q54 {a b:Int}:Qb9 a b≤0↔a≤b:=by unfold Qb9; split <;> (try split) <;> omega
theorem Qnf (V:VN D) (hs:Qr4 D s) {t:Tapi_Q} (ht:Rt t):Jv D.net s.sh t=some (decide (Qey (D.W s.N s.R s.T) (D.W s.N s.R s.F) t)):=by
 obtain ⟨w1,w2⟩:=Q4g V hs
 have hD:=ht.1
 unfold Jv
 rw [Qwn V hs,Option.bind_some]
 dsimp only
 rw [Qva ht.i64 (Qn6 (by omega)).i64 (by omega) (by show (0:Int) < 1; decide),Option.bind_some]
 dsimp only
 rw [Int.mul_one]
 by_cases c1:-(D.W s.N s.R s.T:Int)*t.D≤t.N
 ·rw [if_pos (by rw [decide_eq_true_eq]; exact Qx3.2 c1),Qva ht.i64 (Qn6 (by omega)).i64 (by omega) (by show (0:Int) < 1; decide),Option.bind_some]
  dsimp only
  rw [Int.mul_one]
  congr 1
  rw [Bool.eq_iff_iff,decide_eq_true_eq,decide_eq_true_eq,Q54]
  unfold Qey
  exact ⟨fun h=>⟨c1,h⟩,fun h=>h.2⟩
 ·rw [if_neg (by rw [decide_eq_true_eq,Qx3]; exact c1)]
  congr 1
  symm
  rw [decide_eq_false_iff_not]
  exact fun h=>c1 h.1
theorem Q7k {L:Int × Int × Int × Int} (hL:SmL L) {t:Tapi_Q} (ht:Rt t) (hs:Sml t):Qg4 L t=some (atF L t):=by
 obtain ⟨e1,e2,e3,e4⟩:=Q3m hL ht hs
 have hMX:MX=4611686018427387903:=rfl
 unfold Qg4 atF
 rw [e1,e2]
 by_cases c:L.2.2.1*t.D+L.2.2.2*t.N=0
 ·rw [if_pos (by simpa using c),if_pos c]
 ·rw [if_neg (by simpa using c),if_neg c,Qrd (by omega) (by omega) c]; rfl
theorem Qyr {C d:Int} (hC:SBd C) (hd:SBd d) {t:Tapi_Q} (ht:Rt t):∃r,Jy C d t=some r∧(r≤0↔¬ 0 < C*t.D+d*t.N):=by
 have hMX:MX=4611686018427387903:=rfl
 unfold SBd SB at hC hd
 have hD:=ht.1
 unfold Jy Qhg
 by_cases c:d=0
 ·subst c
  rw [if_pos (by simp)]
  have hz:C*t.D+0*t.N=C*t.D:=by rw [Int.zero_mul,Int.add_zero]
  rw [hz]
  by_cases c1:C < 0
  ·rw [if_pos (by simpa using c1)]
   exact ⟨-1,rfl,by
    have:=Int.mul_neg_of_neg_of_pos c1 (by omega:0 < t.D)
    omega⟩
  rw [if_neg (by simpa using c1)]
  by_cases c2:C > 0
  ·rw [if_pos (by simpa using c2)]
   exact ⟨1,rfl,by
    have:=Int.mul_pos c2 (by omega:0 < t.D)
    omega⟩
  ·rw [if_neg (by simpa using c2)]
   obtain rfl:C=0:=by omega
   exact ⟨0,rfl,by omega⟩
 ·rw [if_neg (by simpa using c),w64 (n:=0 - C) (by omega),show (0:Int) - C=-C by omega,Qrd (by omega) (by omega) c,Option.bind_some]
  obtain ⟨q1,q2⟩:=Qoo (n:=-C) (d:=d) (by omega) (by omega) c
  have hzD:=q1.1
  generalize qI (-C) d=z at q1 q2 hzD
  rw [Qva ht.i64 q1.i64 (by omega) (by omega),Option.bind_some,Option.bind_some]
  have key:(C*t.D+d*t.N)*z.D=d*(t.N*z.D - z.N*t.D):=by grind
  have hsgn:(0 < C*t.D+d*t.N)↔0 < (C*t.D+d*t.N)*z.D:=by
   constructor
   ·intro h; exact Int.mul_pos h (by omega)
   ·intro h
    apply Classical.byContradiction
    intro hn
    have:(C*t.D+d*t.N)*z.D≤0:=Int.mul_nonpos_of_nonpos_of_nonneg (by omega) (by omega)
    omega
  rw [hsgn,key]
  by_cases c1:t.N*z.D=z.N*t.D
  ·have:Qb9 (t.N*z.D) (z.N*t.D)=0:=by rw [c1]; unfold Qb9; rw [if_neg (by omega),if_pos rfl]
   rw [this,if_pos (by decide)]
   refine ⟨0,rfl,?_⟩
   rw [c1,Int.sub_self,Int.mul_zero]; omega
  ·have hne:¬ (Qb9 (t.N*z.D) (z.N*t.D)==0)=true:=by
    unfold Qb9
    split
    ·decide
    ·simp
   rw [if_neg hne]
   by_cases c2:z.N*t.D < t.N*z.D
   ·have g:decide (Qb9 (t.N*z.D) (z.N*t.D) > 0)=true:=by rw [decide_eq_true_eq]; exact Qvs.2 c2
    rw [g]
    by_cases c3:d > 0
    ·rw [if_pos (by simpa using c3)]
     have:=Int.mul_pos c3 (show 0 < t.N*z.D - z.N*t.D by omega)
     exact ⟨1,rfl,by omega⟩
    ·rw [if_neg (by simpa using c3)]
     have:=Int.mul_nonpos_of_nonpos_of_nonneg (show d≤0 by omega) (show 0≤t.N*z.D - z.N*t.D by omega)
     exact ⟨-1,rfl,by omega⟩
   ·have g:decide (Qb9 (t.N*z.D) (z.N*t.D) > 0)=false:=by rw [decide_eq_false_iff_not,Qvs]; exact c2
    rw [g]
    by_cases c3:d > 0
    ·rw [if_neg (by simpa using c3)]
     have:=Int.mul_nonneg (show 0≤d by omega) (show 0≤z.N*t.D - t.N*z.D by omega)
     have e:d*(t.N*z.D - z.N*t.D)=-(d*(z.N*t.D - t.N*z.D)):=by grind
     exact ⟨-1,rfl,by omega⟩
    ·rw [if_pos (by simp; omega)]
     have:=Int.mul_pos (show 0 < -d by omega) (show 0 < z.N*t.D - t.N*z.D by omega)
     have e:d*(t.N*z.D - z.N*t.D)=-d*(z.N*t.D - t.N*z.D):=by grind
     exact ⟨1,rfl,by omega⟩
theorem Q6j {L:Int × Int × Int × Int} {aT aF:Nat} {t:Tapi_Q} (h1:0≤L.2.2.1+L.2.2.2*-(aT:Int)) (h2:0≤L.2.2.1+L.2.2.2*(aF:Int)) (ht:Rt t) (hin:Qey aT aF t):Qgi L aT aF t↔0 < L.2.2.1*t.D+L.2.2.2*t.N:=by
 have hD:=ht.1
 constructor
 ·intro hp
  have hne:=Q69 h1 h2 ht hin hp
  have hge:0≤L.2.2.1*t.D+L.2.2.2*t.N:=by
   obtain ⟨i1,i2⟩:=hin
   by_cases c:0≤L.2.2.2
   ·have a:=Int.mul_le_mul_of_nonneg_left i1 c
    have b:=Int.mul_nonneg h1 (show 0≤t.D by omega)
    have e:(L.2.2.1+L.2.2.2*-(aT:Int))*t.D=L.2.2.1*t.D+L.2.2.2*(-(aT:Int)*t.D):=by grind
    omega
   ·have a:=Int.mul_le_mul_of_nonneg_left i2 (show 0≤-L.2.2.2 by omega)
    have b:=Int.mul_nonneg h2 (show 0≤t.D by omega)
    have e:(L.2.2.1+L.2.2.2*(aF:Int))*t.D=L.2.2.1*t.D+L.2.2.2*((aF:Int)*t.D):=by grind
    rw [Int.neg_mul,Int.neg_mul] at a
    omega
  omega
 ·intro h
  refine ⟨fun hz=>?_,fun hz=>?_⟩
  ·rw [hz.1,hz.2] at h; omega
  ·rw [hz.1,Int.mul_one] at h; exact h
theorem Q6e (V:VN D) (hs:Qr4 D s) {L:Int × Int × Int × Int} (hL:SmL L) (h1:0≤L.2.2.1+L.2.2.2*-(D.W s.N s.R s.T:Int)) (h2:0≤L.2.2.1+L.2.2.2*(D.W s.N s.R s.F:Int)) {p:Tapi_Q} (hp:Rt p) (hsm:Sml p) :
  Vg D.net s.sh L p=some (if (Qc0 L (D.W s.N s.R s.T) (D.W s.N s.R s.F) p).2=0 then ((Qc0 L (D.W s.N s.R s.T) (D.W s.N s.R s.F) p).1,true) else (⟨0,0⟩,false)):=by
 obtain ⟨w1,w2⟩:=Q4g V hs
 obtain ⟨l1,l2,l3,l4⟩:=hL
 obtain ⟨s1,s2,s3⟩:=hsm
 have hpD:=hp.1
 have hMX:MX=4611686018427387903:=rfl
 have m1:=Qai l1 (t:=p.D) (by omega)
 have m2:=Qai l2 (t:=p.D) (by omega)
 have m3:=Qai l3 (t:=p.N) (by omega)
 have m4:=Qai l4 (t:=p.N) (by omega)
 have eb:zw (zw (p.D*L.2.1) - zw (p.N*L.2.2.2))=Z6 L p:=by
  unfold Z6
  rw [Int.mul_comm p.D,Int.mul_comm p.N,w64 (n:=L.2.1*p.D) (by omega),w64 (n:=L.2.2.2*p.N) (by omega),w64 (by omega)]
 have ea:zw (zw (p.N*L.2.2.1) - zw (p.D*L.1))=Xi L p:=by
  unfold Xi
  rw [Int.mul_comm p.D,Int.mul_comm p.N,w64 (n:=L.2.2.1*p.N) (by omega),w64 (n:=L.1*p.D) (by omega),w64 (by omega)]
 have hab:(Xi L p).natAbs≤MX∧(Z6 L p).natAbs≤MX:=by unfold Xi Z6; omega
 unfold Vg
 rw [Qwn V hs,Option.bind_some]
 dsimp only
 rw [eb,ea]
 have t1:Z6 L p=0→(Xi L p≠0∨-(D.W s.N s.R s.T:Int)≠(D.W s.N s.R s.F:Int)∨L.2.2.1=0)→Qc0 L (D.W s.N s.R s.T) (D.W s.N s.R s.F) p=(⟨0,0⟩,4):=fun a b=>by unfold Qc0; rw [if_pos a,if_pos b]
 have t2:Z6 L p=0→¬ (Xi L p≠0∨-(D.W s.N s.R s.T:Int)≠(D.W s.N s.R s.F:Int)∨L.2.2.1=0)→Qc0 L (D.W s.N s.R s.T) (D.W s.N s.R s.F) p=(⟨0,1⟩,0):=fun a b=>by unfold Qc0; rw [if_pos a,if_neg b]
 have t3:¬ Z6 L p=0→(Qey (D.W s.N s.R s.T) (D.W s.N s.R s.F) (qI (Xi L p) (Z6 L p))∧Qgi L (D.W s.N s.R s.T) (D.W s.N s.R s.F) (qI (Xi L p) (Z6 L p)))→Qc0 L (D.W s.N s.R s.T) (D.W s.N s.R s.F) p=(qI (Xi L p) (Z6 L p),0):=fun a b=>by unfold Qc0; rw [if_neg a,if_pos b]
 have t4:¬ Z6 L p=0→¬ (Qey (D.W s.N s.R s.T) (D.W s.N s.R s.F) (qI (Xi L p) (Z6 L p))∧Qgi L (D.W s.N s.R s.T) (D.W s.N s.R s.F) (qI (Xi L p) (Z6 L p)))→Qc0 L (D.W s.N s.R s.T) (D.W s.N s.R s.F) p=(⟨0,0⟩,4):=fun a b=>by unfold Qc0; rw [if_neg a,if_neg b]
 by_cases c1:Z6 L p=0
 ·rw [if_pos (by simpa using c1)]
  by_cases c2:-(D.W s.N s.R s.T:Int) < (D.W s.N s.R s.F:Int)
  ·rw [if_pos (by simpa using c2),t1 c1 (.inr (.inl (by omega)))]; rfl
  rw [if_neg (by simpa using c2)]
  by_cases c3:Xi L p=0
  ·rw [if_neg (by simpa using c3)]
   have z1:(D.W s.N s.R s.T:Int)=0:=by omega
   have z2:(D.W s.N s.R s.F:Int)=0:=by omega
   have hr0:Rt ⟨-(D.W s.N s.R s.T:Int),1⟩:=Qn6 (by omega)
   have hin:Qey (D.W s.N s.R s.T) (D.W s.N s.R s.F) ⟨-(D.W s.N s.R s.T:Int),1⟩:=by unfold Qey; dsimp only; omega
   rw [Qnf V hs hr0,Option.bind_some,if_neg (by simpa using hin)]
   obtain ⟨r,er,hr⟩:=Qyr l3 l4 hr0
   rw [er,Option.bind_some]
   dsimp only at hr
   rw [Int.mul_one] at hr
   have e0:L.2.2.2*-(D.W s.N s.R s.T:Int)=0:=by rw [z1]; simp
   rw [e0] at hr h1
   by_cases c4:L.2.2.1=0
   ·rw [if_pos (by rw [decide_eq_true_eq]; exact hr.2 (by omega)),t1 c1 (.inr (.inr c4))]; rfl
   ·rw [if_neg (by rw [decide_eq_true_eq,hr]; omega),t2 c1 (by
     rintro (h | h | h)
     ·exact h c3
     ·omega
     ·exact c4 h),if_pos rfl]
    congr 3
    omega
  ·rw [if_pos (by simpa using c3),t1 c1 (.inl c3)]; rfl
 ·rw [if_neg (by simpa using c1),Qrd (by omega) (by omega) c1,Option.bind_some]
  obtain ⟨q1,_⟩:=Qoo hab.1 hab.2 c1
  rw [Qnf V hs q1,Option.bind_some]
  by_cases c2:Qey (D.W s.N s.R s.T) (D.W s.N s.R s.F) (qI (Xi L p) (Z6 L p))
  ·rw [if_neg (by simpa using c2)]
   obtain ⟨r,er,hr⟩:=Qyr l3 l4 q1
   rw [er,Option.bind_some]
   have hpi:=Q6j h1 h2 q1 c2
   by_cases c3:Qgi L (D.W s.N s.R s.T) (D.W s.N s.R s.F) (qI (Xi L p) (Z6 L p))
   ·rw [if_neg (by rw [decide_eq_true_eq,hr]; exact fun h=>h (hpi.1 c3)),t3 c1 ⟨c2,c3⟩]; rfl
   ·rw [if_pos (by rw [decide_eq_true_eq,hr]; exact fun h=>c3 (hpi.2 h)),t4 c1 fun h=>c3 h.2]; rfl
  ·rw [if_pos (by simpa using c2),t4 c1 fun h=>c2 h.1]; rfl
end
end Go.Ab
namespace Go.Ab
open Go
set_option maxRecDepth 100000
set_option maxHeartbeats 400000
theorem lk3 {α:Type} {a b c:α} {k:Nat} (h:k < 3):∃x,lkI ([a,b,c]:List α) (k:Int)=some x:=⟨_,Qn (by simpa using h)⟩
section
variable {D:NF} {E:Nat → Int} {v x:Nat} {s:SF}
theorem Q2v (X:VX D) (A:Qof D E v x s):Q1 D.net (Qc D.n E) (v:Int) (x:Int) s.sh=some (Zf D s E v x,0) :=
 Q6d X.vn A.hs.N A.hv A.hE A.hx (Q2z X A.hE A.hs.N A.hs.R A.hs.F A.hs.T A.hs.FT A.hv A.hx)
end
theorem Q3k {a b:Int} (ha:-1000≤a∧a≤1000) (hb:1≤b∧b≤1000):∃q,Yb a b=some q:=⟨_,Qrd (by omega) (by omega) (by omega)⟩
theorem Q7e {y:Int} (hy:0≤y∧y < 256):1≤zw (1+zw (Int.tmod y 12))∧zw (1+zw (Int.tmod y 12))≤12:=by
 rw [Xr hy.1]
 have h1:=Int.emod_nonneg y (b:=12) (by omega)
 have h2:=Int.emod_lt_of_pos y (b:=12) (by omega)
 rw [w64 (n:=y % 12) (by omega),w64 (by omega)]; omega
end Go.Ab
