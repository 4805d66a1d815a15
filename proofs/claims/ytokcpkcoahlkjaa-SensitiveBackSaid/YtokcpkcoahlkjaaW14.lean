/- What functions compute. No conditions. -/
import Derived.Test.YtokcpkcoahlkjaaW13
set_option linter.all false
namespace Go.Ab
open Go
set_option maxRecDepth 100000
theorem dval_split' (l:List Int) (k:Nat):dval l=dval (l.take k)+10000^k*dval (l.drop k):=by
 rcases Nat.lt_or_ge l.length k with h | h
 ·rw [List.take_of_length_le (by omega),List.drop_of_length_le (by omega)]; simp [dval]
 ·exact dval_split h
theorem dval_take_lt {l:List Int} (h:isdg l) (k:Nat):dval (l.take k) < 10000^k:=by
 have h1:=dval_lt (isdg_take h k)
 have h2:=pow_le (i:=(l.take k).length) (j:=k) (by simp; omega)
 omega
theorem tops_eq (y x:List Int) (hy:isdg y) (hx:isdg x) (n:Nat) (ly:y.length=n+1) (lx:x.length≤n+2) (hn:n≤100000) :
  whileN fuel (g_ref01_divide_b0 y x) (0,0,((n+1:Nat):Int))=some (((dval (y.drop (n - 1)):Nat):Int),((dval (x.drop (n - 1)):Nat):Int)):=by
 have hb:∀t,n - 1≤t→dval (x.drop t) < 1000000000000∧dval (y.drop t) < 100000000:=fun t ht=>by
  have h1:=dval_lt (isdg_drop hx t)
  have h2:=pow_le (i:=(x.drop t).length) (j:=3) (by simp; omega)
  have h3:=dval_lt (isdg_drop hy t)
  have h4:=pow_le (i:=(y.drop t).length) (j:=2) (by simp; omega)
  omega
 refine whileN_eq (fun s=>∃t:Nat,s.2.2=(t:Int) - 1∧n - 1≤t∧t≤n+2∧s.1=((dval (y.drop t):Nat):Int)∧s.2.1=((dval (x.drop t):Nat):Int)) (fun s=>(s.2.2+1).toNat) _ ?_ _
  ⟨n+2,by simp only; omega,by omega,by omega,by rw [dval_drop_ge (by omega)]; rfl,by rw [dval_drop_ge (by omega)]; rfl⟩ (by simp only; omega)
 rintro ⟨top,first,kk⟩ ⟨t,h1,h2,h3,h4,h5⟩
 simp only at h1 h4 h5
 subst h1; subst h4; subst h5
 unfold g_ref01_divide_b0
 simp only
 have hn1:IntKind.i64.wrap ((y.length:Int) - 1)=(n:Int):=by rw [w64 (by omega)]; omega
 have hmx:(if IntKind.i64.wrap ((n:Int) - 1) > 0 then IntKind.i64.wrap ((n:Int) - 1) else 0)=((n - 1:Nat):Int):=by
  rw [w64 (by omega)]; split <;> omega
 rw [hn1,hmx]
 by_cases hge:n - 1 < t
 ·left
  obtain ⟨u,rfl⟩:∃u,t=u+1:=⟨t - 1,by omega⟩
  have e:((u+1:Nat):Int) - 1=(u:Int):=by omega
  rw [e]
  have bu:=hb u (by omega)
  have bt:=hb (u+1) (by omega)
  have vx:=dval_dat x u
  have vy:=dval_dat y u
  have dx:=dat_dg hx u
  have dy:=dat_dg hy u
  rw [if_pos (by simp; omega)]
  by_cases hxu:u < x.length
  ·rw [if_pos (by simp [hxu]),lkI_nat hxu]
   simp only [Option.bind_some]
   rw [dat_lt hxu] at vx dx
   rw [w64 (n:=((dval (x.drop (u+1)):Nat):Int)*10000) (by omega),w64 (n:=((dval (x.drop (u+1)):Nat):Int)*10000+x[u]) (by omega),w64 (n:=(u:Int) - 1) (by omega)]
   by_cases hyu:u≤n
   ·have hyl:u < y.length:=by omega
    rw [if_pos (by simp [hyu]),lkI_nat hyl]
    simp only [Option.bind_some]
    rw [dat_lt hyl] at vy dy
    rw [w64 (n:=((dval (y.drop (u+1)):Nat):Int)*10000) (by omega),w64 (n:=((dval (y.drop (u+1)):Nat):Int)*10000+y[u]) (by omega)]
    exact ⟨_,rfl,⟨u,rfl,by omega,by omega,by simp only; omega,by simp only; omega⟩,by simp only; omega⟩
   ·rw [if_neg (by simp; omega)]
    rw [dval_drop_ge (l:=y) (k:=u+1) (by omega)]
    exact ⟨_,rfl,⟨u,rfl,by omega,by omega,by simp only [dval_drop_ge (l:=y) (k:=u) (by omega)],by simp only; omega⟩,by simp only; omega⟩
  ·rw [if_neg (by simp; omega)]
   rw [dat_ge (by omega)] at vx dx
   rw [w64 (n:=((dval (x.drop (u+1)):Nat):Int)*10000) (by omega),w64 (n:=(u:Int) - 1) (by omega)]
   by_cases hyu:u≤n
   ·have hyl:u < y.length:=by omega
    rw [if_pos (by simp [hyu]),lkI_nat hyl]
    simp only [Option.bind_some]
    rw [dat_lt hyl] at vy dy
    rw [w64 (n:=((dval (y.drop (u+1)):Nat):Int)*10000) (by omega),w64 (n:=((dval (y.drop (u+1)):Nat):Int)*10000+y[u]) (by omega)]
    exact ⟨_,rfl,⟨u,rfl,by omega,by omega,by simp only; omega,by simp only; omega⟩,by simp only; omega⟩
   ·rw [if_neg (by simp; omega)]
    rw [dval_drop_ge (l:=y) (k:=u+1) (by omega)]
    exact ⟨_,rfl,⟨u,rfl,by omega,by omega,by simp only [dval_drop_ge (l:=y) (k:=u) (by omega)],by simp only; omega⟩,by simp only; omega⟩
 ·right
  have:t=n - 1:=by omega
  subst this
  rw [if_neg (by simp; omega)]
theorem cmpN_le {a b:Nat}:cmpN a b≤0↔a≤b:=by
 unfold cmpN
 split
 ·omega
 ·split <;> omega
theorem dgs_single {q:Nat} (h0:0 < q) (h:q < 10000):dgs q=[(q:Int)]:=by
 rw [dgs_pos (by omega),show q / 10000=0 by omega,dgs_zero,Nat.mod_eq_of_lt h]
theorem halve_eq (b R lo hi:Nat) (hb:0 < b) (lb:(dgs b).length≤9000) (lR:(dgs R).length≤10000) (h1:lo≤R / b) (h2:R / b≤hi) (h3:hi≤10000) :
  whileN fuel (g_ref01_divide_b1 (dgs b) (dgs R)) ((lo:Int),(hi:Int))=some ((R / b:Nat):Int):=by
 refine whileN_eq (fun s=>∃l h:Nat,s.1=(l:Int)∧s.2=(h:Int)∧l≤R / b∧R / b≤h∧h≤10000) (fun s=>(s.2 - s.1).toNat) _ ?_ _ ⟨lo,hi,rfl,rfl,h1,h2,h3⟩ (by simp only; omega)
 rintro ⟨l0,h0⟩ ⟨l,h,e1,e2,g1,g2,g3⟩
 simp only at e1 e2
 subst e1; subst e2
 unfold g_ref01_divide_b1
 simp only
 by_cases hlt:l < h
 ·left
  rw [if_pos (by simp [hlt])]
  rw [w64 (n:=(l:Int)+h) (by omega),w64 (n:=(l:Int)+h+1) (by omega),tdiv_pos (by omega),w64 (by omega)]
  obtain ⟨mid,hm⟩:∃mid:Nat,((l:Int)+h+1) / 2=(mid:Int):=⟨(((l:Int)+h+1) / 2).toNat,by omega⟩
  rw [hm]
  have hv:dval [(mid:Int)]=mid:=by simp [dval]
  rw [times_eq (dgs b) [(mid:Int)] (isdg_dgs b) (by intro z hz; rw [List.mem_singleton] at hz; omega) (by rw [hv]; simp; omega) (by omega) (by simp),hv,dval_dgs]
  simp only [Option.bind_some]
  obtain ⟨L,hL⟩:∃L:Nat,L=10000:=⟨_,rfl⟩
  have lm:(dgs (b*mid)).length≤L:=by
   refine dgs_length_le ?_
   have a1:=lt_dgs b
   have a2:b*mid≤b*10000:=Nat.mul_le_mul_left _ (by omega)
   have a3:b*10000 < 10000^((dgs b).length+1):=by rw [Nat.pow_succ]; omega
   have a5:=pow_le (i:=(dgs b).length+1) (j:=L) (by omega)
   omega
  rw [compare_eq _ _ (by omega) (by omega)]
  simp only [Option.bind_some]
  by_cases hc:b*mid≤R
  ·have hq:mid≤R / b:=(Nat.le_div_iff_mul_le hb).2 (by rw [Nat.mul_comm]; exact hc)
   rw [if_pos (by simpa using cmpN_le.2 hc)]
   exact ⟨_,rfl,⟨mid,h,rfl,rfl,hq,g2,g3⟩,by simp only; omega⟩
  ·have hq:R / b < mid:=(Nat.div_lt_iff_lt_mul hb).2 (by rw [Nat.mul_comm]; omega)
   rw [if_neg (by simpa using fun h=>hc (cmpN_le.1 h)),w64 (by omega)]
   exact ⟨_,rfl,⟨l,mid - 1,rfl,by simp only; omega,g1,by omega,by omega⟩,by simp only; omega⟩
 ·right
  rw [if_neg (by simp; omega)]
  have:l=R / b:=by omega
  rw [this]
theorem divide_eq (a b:Nat) (hb:0 < b) (la:(dgs a).length≤8000) (lb:(dgs b).length≤8000):g_ref01_divide (dgs a) (dgs b)=some (dgs (a / b),dgs (a % b)):=by
 unfold g_ref01_divide
 obtain ⟨n,hn⟩:∃n,(dgs b).length=n+1:=by
  have:(dgs b).length≠0:=by rw [Ne,List.length_eq_zero_iff,dgs_eq_nil]; omega
  exact ⟨(dgs b).length - 1,by omega⟩
 have hn1:IntKind.i64.wrap (((dgs b).length:Int) - 1)=(n:Int):=by rw [w64 (by omega)]; omega
 rw [hn1]
 by_cases hle:(dgs a).length≤n
 ·rw [if_pos (by simp [hle]),if_pos (by omega)]
  have hab:=len_lt (a:=a) (b:=b) (by omega)
  rw [Nat.div_eq_of_lt hab,Nat.mod_eq_of_lt hab,dgs_zero]
 ·obtain ⟨m,hm⟩:∃m,(dgs a).length=n+m∧0 < m:=⟨(dgs a).length - n,by omega,by omega⟩
  have hm1:IntKind.i64.wrap (((dgs a).length:Int) - (n:Int))=(m:Int):=by rw [w64 (by omega)]; omega
  rw [if_neg (by simp; omega),hm1,if_pos (by omega),if_pos (by omega)]
  have hsub:sub (dgs a) (m:Int) ((dgs a).length:Int)=(dgs a).drop m:=by
   simp only [sub,Int.toNat_natCast]
   rw [List.take_of_length_le (by simp)]
  rw [hsub,if_pos (by simp; omega),Int.toNat_natCast,List.length_replicate,w64 (by omega)]
  obtain ⟨M,hM⟩:∃M:Nat,M=2000005:=⟨_,rfl⟩
  have hpb:isdg (dgs b):=isdg_dgs b
  have hnb:nolz (dgs b):=nolz_dgs b
  have bpow:b < 10000^(n+1):=by have:=lt_dgs b; rwa [hn] at this
  obtain ⟨out,h1,R,Q,h2,h3,h4,h5,h6⟩:∃out:List Int × List Int,whileN fuel (g_ref01_divide_b2 (dgs a) (dgs b)) ((dgs a).drop m,(m:Int) - 1,List.replicate m 0)=some out∧∃R Q:Nat,out.1=dgs R∧R < b∧isdg out.2∧out.2.length=m∧a=b*dval out.2+R:=by
   refine (whileN_ex (fun (s:List Int × Int × List Int)=>∃k R:Nat,s.2.1=(k:Int) - 1∧k≤m∧s.1=dgs R∧R < b∧s.2.2.length=m∧isdg s.2.2∧dval ((dgs a).drop k)=b*dval (s.2.2.drop k)+R) (fun s=>(s.2.1+1).toNat) (fun (out:List Int × List Int)=>∃R Q:Nat,out.1=dgs R∧R < b∧isdg out.2∧out.2.length=m∧a=b*dval out.2+R) ?_ _ ?_ (by simp only; omega))
   ·rintro ⟨rest,i0,qs⟩ ⟨k,R,e1,e2,e3,e4,e5,e6,e7⟩
    simp only at e1 e3 e5 e6 e7
    subst e1; subst e3
    unfold g_ref01_divide_b2
    simp only
    cases k with
    | zero =>
     right
     rw [if_neg (by simp)]
     refine ⟨_,rfl,R,0,rfl,e4,e6,e5,?_⟩
     rw [List.drop_zero,List.drop_zero,dval_dgs] at e7
     exact e7
    | succ j =>
     left
     have e:((j+1:Nat):Int) - 1=(j:Int):=by omega
     rw [e,if_pos (by simp)]
     have hj:j < (dgs a).length:=by omega
     have aj:=isdg_get (isdg_dgs a) hj
     rw [lkI_nat hj]
     simp only [Option.bind_some]
     have lR:(dgs R).length≤n+1:=dgs_length_le (by omega)
     have hcons:isdg ([(dgs a)[j]]++dgs R):=by rw [isdg_append]; exact ⟨isdg_cons.2 ⟨aj,isdg_nil⟩,isdg_dgs R⟩
     rw [if_pos (by simp; omega),cut_eq _ hcons (by simp; omega)]
     have hval:dval ([(dgs a)[j]]++dgs R)=(dgs a)[j].toNat + 10000*R:=by simp [dval,dval_dgs]
     rw [hval]
     simp only [Option.bind_some]
     generalize hR':(dgs a)[j].toNat + 10000*R=R' at *
     have R'lt:R' < 10000*b:=by omega
     have lR':(dgs R').length≤n+2:=dgs_length_le (by rw [Nat.pow_succ]; omega)
     rw [hn1,w64 (n:=(n:Int)+1) (by omega),show (n:Int)+1=((n+1:Nat):Int) by omega,tops_eq (dgs b) (dgs R') hpb (isdg_dgs R') n hn lR' (by omega)]
     simp only [Option.bind_some]
     have sb:=dval_split' (dgs b) (n - 1)
     have sR:=dval_split' (dgs R') (n - 1)
     rw [dval_dgs] at sb sR
     have tb:=dval_take_lt hpb (n - 1)
     have tR:=dval_take_lt (isdg_dgs R') (n - 1)
     have tpos:=dval_drop_pos hpb hnb (k:=n - 1) (by omega)
     have tbig:n=0∨10000≤dval ((dgs b).drop (n - 1)):=by
      rcases Nat.eq_zero_or_pos n with h | h
      ·exact .inl h
      ·right
       rw [dval_drop (by omega),show n - 1+1=n by omega]
       have:=dval_drop_pos hpb hnb (k:=n) (by omega)
       omega
     have tlim:dval ((dgs b).drop (n - 1)) < 100000000:=by
      have h3:=dval_lt (isdg_drop hpb (n - 1))
      have h4:=pow_le (i:=((dgs b).drop (n - 1)).length) (j:=2) (by simp; omega)
      omega
     have flim:dval ((dgs R').drop (n - 1)) < 1000000000000:=by
      have h3:=dval_lt (isdg_drop (isdg_dgs R') (n - 1))
      have h4:=pow_le (i:=((dgs R').drop (n - 1)).length) (j:=3) (by simp; omega)
      omega
     generalize hT:dval ((dgs b).drop (n - 1))=T at *
     generalize hF:dval ((dgs R').drop (n - 1))=F at *
     generalize hbl:dval ((dgs b).take (n - 1))=bl at *
     generalize hRl:dval ((dgs R').take (n - 1))=Rl at *
     rw [w64 (n:=(T:Int)+1) (by omega),if_pos (by omega),if_pos (by omega),tdiv_pos (by omega),tdiv_pos (by omega)]
     have c1:(F:Int) / ((T:Int)+1)=((F / (T+1):Nat):Int):=by simp
     have c2:(F:Int) / (T:Int)=((F / T:Nat):Int):=by simp
     have b1:F / (T+1)≤F:=Nat.div_le_self _ _
     have b2:F / T≤F:=Nat.div_le_self _ _
     rw [c1,c2]
     have q1:F / (T+1)≤R' / b:=by
      rw [Nat.le_div_iff_mul_le hb]
      have x1:F / (T+1)*(T+1)≤F:=Nat.div_mul_le_self _ _
      have x2:b≤10000^(n - 1)*(T+1):=by rw [Nat.mul_add]; omega
      have x3:F / (T+1)*b≤F / (T+1)*(10000^(n - 1)*(T+1)):=Nat.mul_le_mul_left _ x2
      have x4:F / (T+1)*(10000^(n - 1)*(T+1))=10000^(n - 1)*(F / (T+1)*(T+1)):=by rw [Nat.mul_left_comm]
      have x5:10000^(n - 1)*(F / (T+1)*(T+1))≤10000^(n - 1)*F:=Nat.mul_le_mul_left _ x1
      omega
     have q2:R' / b≤F / T:=by
      rw [Nat.le_div_iff_mul_le tpos]
      have x1:R' / b*b≤R':=Nat.div_mul_le_self _ _
      have x2:R' / b*(10000^(n - 1)*T)≤R' / b*b:=Nat.mul_le_mul_left _ (by omega)
      have x3:R' / b*(10000^(n - 1)*T)=10000^(n - 1)*(R' / b*T):=by rw [Nat.mul_left_comm]
      have x4:10000^(n - 1)*(R' / b*T) < 10000^(n - 1)*(F+1):=by rw [Nat.mul_add (10000^(n - 1)) F]; omega
      have:=Nat.lt_of_mul_lt_mul_left x4
      omega
     have q3:F / T≤10000:=by
      have x1:10000^(n - 1)*F < 10000^(n - 1)*(10000*(T+1)):=by
       have:10000^(n - 1)*(10000*(T+1))=10000*(10000^(n - 1)*(T+1)):=Nat.mul_left_comm _ _ _
       rw [this,Nat.mul_add (10000^(n - 1))]
       omega
      have x2:=Nat.lt_of_mul_lt_mul_left x1
      rcases tbig with h | h
      ·subst h
       simp only [Nat.zero_sub,Nat.pow_zero,Nat.one_mul] at sb sR tb tR
       have:F < 10000*T:=by omega
       exact Nat.le_of_lt ((Nat.div_lt_iff_lt_mul tpos).2 this)
      ·have:F < 10001*T:=by omega
       have:=(Nat.div_lt_iff_lt_mul tpos).2 this
       omega
     have q9:R' / b < 10000:=(Nat.div_lt_iff_lt_mul hb).2 (by omega)
     have w1:∀x:Nat,x≤F→IntKind.i64.wrap (x:Int)=(x:Int):=fun x hx=>w64 (by omega)
     rw [w1 _ b1,w1 _ b2,halve_eq b R' _ _ hb (by omega) (by omega) q1 q2 q3]
     simp only [Option.bind_some]
     have hd:=Nat.div_add_mod R' b
     have hmod:R' - b*(R' / b)=R' % b:=by omega
     have hml:=Nat.mul_div_le R' b
     have hmb:=Nat.mod_lt R' hb
     generalize R' / b=q at *
     generalize R' % b=r at *
     rw [lkI_nat (l:=qs) (k:=j) (by omega)]
     simp only [Option.bind_some]
     rw [cut_eq [(q:Int)] (isdg_cons.2 ⟨by omega,isdg_nil⟩) (by simp)]
     simp only [Option.bind_some]
     have hv:dval [(q:Int)]=q:=by simp [dval]
     rw [hv]
     have lq:(dgs q).length≤1:=dgs_length_le (by omega)
     rw [times_eq (dgs b) (dgs q) hpb (fun z hz=>by have:=isdg_dgs q z hz; omega) (by rw [dval_dgs]; exact Nat.le_of_lt (lt_dgs _)) (by omega) (by omega),dval_dgs,dval_dgs]
     simp only [Option.bind_some]
     rw [minus_eq _ _ hml (by omega),hmod]
     simp only [Option.bind_some]
     rw [w64 (n:=(j:Int) - 1) (by omega),Int.toNat_natCast]
     refine ⟨_,rfl,⟨j,r,rfl,by omega,rfl,hmb,by simp [e5],isdg_set e6 (by omega),?_⟩,by simp only; omega⟩
     simp only
     have hset:(qs.set j (q:Int)).drop j=(q:Int)::qs.drop (j+1):=by
      rw [List.drop_eq_getElem_cons (by simp; omega),List.getElem_set_self,List.drop_set_of_lt (by omega)]
     rw [hset,dval_drop hj,e7]
     simp only [dval,Int.toNat_natCast]
     rw [Nat.mul_add,Nat.mul_add,Nat.mul_left_comm b 10000]
     omega
   ·refine ⟨m,dval ((dgs a).drop m),rfl,Nat.le_refl _,?_,?_,by simp,isdg_replicate _,?_⟩
    ·simp only
     by_cases h0:n=0
     ·rw [List.drop_of_length_le (by omega)]; simp [dval,dgs_zero]
     ·refine (dgs_of (isdg_drop (isdg_dgs a) m) ?_).symm
      have:=nolz_dgs a
      unfold nolz at *
      rwa [List.getLast?_drop,if_neg (by omega)]
    ·have h1:=dval_lt (isdg_drop (isdg_dgs a) m)
     have h2:=dgs_le (n:=b) (by omega)
     rw [List.length_drop] at h1
     have h3:=pow_le (i:=(dgs a).length - m) (j:=(dgs b).length - 1) (by omega)
     omega
    ·simp only
     rw [List.drop_of_length_le (l:=List.replicate m (0:Int)) (by simp)]; simp [dval]
  rw [h1]
  simp only [Option.bind_some]
  rw [cut_eq _ h4 (by omega),h2]
  simp only [Option.bind_some]
  have e1:a / b=dval out.2:=by
   rw [h6,Nat.mul_add_div hb,Nat.div_eq_of_lt h3,Nat.add_zero]
  have e2:a % b=R:=by
   rw [h6,Nat.mul_add_mod,Nat.mod_eq_of_lt h3]
  rw [e1,e2]
end Go.Ab
namespace Go.Ab
open Go
set_option maxRecDepth 100000
theorem len_le_of {a b:Nat} (h:a≤b):(dgs a).length≤(dgs b).length:=by
 rcases Nat.lt_or_ge (dgs b).length (dgs a).length with h1 | h1
 ·have:=len_lt h1; omega
 ·exact h1
theorem log2_half {p q:Nat} (h:2*(p+1)≤q+1):Nat.log2 (p+1) < Nat.log2 (q+1):=by
 have h1:2^Nat.log2 (p+1)≤p+1:=(Nat.le_log2 (by omega)).1 (Nat.le_refl _)
 have h2:Nat.log2 (p+1)+1≤Nat.log2 (q+1):=(Nat.le_log2 (by omega)).2 (by rw [Nat.pow_succ]; omega)
 omega
theorem log2_lim {x K:Nat} (h:(dgs x).length≤K):Nat.log2 (x+1)≤14*K+1:=by
 have h1:=lt_dgs x
 have h2:=pow_le (i:=(dgs x).length) (j:=K) h
 have h3:(10000:Nat)^K≤(2^14)^K:=Nat.pow_le_pow_left (by omega) K
 rw [←Nat.pow_mul] at h3
 have h4:x+1 < 2^(14*K+1):=by rw [Nat.pow_succ]; omega
 have:=(Nat.log2_lt (by omega)).2 h4
 omega
def gm (x y:Nat):Nat := if y≤x then Nat.log2 (x*y+1) else Nat.log2 (x*y+1)+1
theorem gm_step {x y:Nat} (hy:0 < y):gm y (x % y) < gm x y:=by
 have hr:=Nat.mod_lt x hy
 unfold gm
 rw [if_pos (by omega)]
 by_cases h:y≤x
 ·rw [if_pos h]
  refine log2_half ?_
  have h1:y+x % y≤x:=by
   have:=Nat.div_add_mod x y
   have h2:1≤x / y:=(Nat.one_le_div_iff hy).2 h
   have h3:y*1≤y*(x / y):=Nat.mul_le_mul_left _ h2
   omega
  have h4:(2*(x % y)+1)*y≤x*y:=Nat.mul_le_mul_right _ (by omega)
  rw [Nat.add_mul,Nat.mul_assoc,Nat.mul_comm (x % y) y] at h4
  omega
 ·rw [if_neg h,Nat.mod_eq_of_lt (by omega),Nat.mul_comm]
  omega
theorem gcd_step (x y:Nat):Nat.gcd x y=Nat.gcd y (x % y):=by
 rw [Nat.gcd_comm,Nat.gcd_rec,Nat.gcd_comm]
theorem gm_lim {x y:Nat} (hx:(dgs x).length≤8000) (hy:(dgs y).length≤8000):gm x y < 1152921504606846976:=by
 have h1:=lt_dgs x
 have h2:=lt_dgs y
 have h3:(dgs (x*y)).length≤16000:=by
  have:(dgs (x*y)).length≤(dgs x).length+(dgs y).length:=dgs_length_le (by rw [Nat.pow_add]; exact Nat.mul_lt_mul'' h1 h2)
  omega
 have:=log2_lim h3
 unfold gm
 split <;> omega
theorem gcd_eq (a b:Nat) (la:(dgs a).length≤8000) (lb:(dgs b).length≤8000):g_ref01_gcd (dgs a) (dgs b)=some (dgs (Nat.gcd a b)):=by
 unfold g_ref01_gcd
 rw [whileN_eq (fun s=>∃x y:Nat,s.1=dgs x∧s.2=dgs y∧(dgs x).length≤8000∧(dgs y).length≤8000∧Nat.gcd x y=Nat.gcd a b) (fun s=>gm (dval s.1) (dval s.2)) (dgs (Nat.gcd a b)) ?_ (dgs a,dgs b) ⟨a,b,rfl,rfl,la,lb,rfl⟩ (by simp only [dval_dgs]; exact gm_lim la lb)]
 ·rfl
 ·rintro ⟨x0,y0⟩ ⟨x,y,h1,h2,h3,h4,h5⟩
  simp only at h1 h2
  subst h1; subst h2
  unfold g_ref01_gcd_b0
  simp only
  by_cases hy:y=0
  ·right
   subst hy
   rw [dgs_zero,if_neg (by simp)]
   rw [Nat.gcd_zero_right] at h5
   rw [h5]
  ·left
   have hne:(dgs y).length≠0:=by rw [Ne,List.length_eq_zero_iff,dgs_eq_nil]; exact hy
   rw [if_pos (by simp; omega),divide_eq x y (by omega) h3 h4]
   simp only [Option.bind_some]
   refine ⟨_,rfl,⟨y,x % y,rfl,rfl,h4,?_,?_⟩,?_⟩
   ·have:=len_le_of (a:=x % y) (b:=y) (Nat.le_of_lt (Nat.mod_lt _ (by omega))); omega
   ·rw [←h5,gcd_step x y]
   ·simp only [dval_dgs]
    exact gm_step (by omega)
def MX:Nat := 4611686018427387903
theorem value_eq (a:Nat) (la:(dgs a).length≤8000):g_ref01_value (dgs a)=some (if a≤MX then ((a:Int),true) else (0,false)):=by
 unfold g_ref01_value
 rw [digits_eq _ (by omega)]
 simp only [Option.bind_some]
 rw [show Int.natAbs 4611686018427387903=MX from rfl]
 have lm:(dgs MX).length≤5:=dgs_length_le (by decide)
 rw [compare_eq _ _ (by omega) (by omega)]
 simp only [Option.bind_some]
 by_cases h:a≤MX
 ·rw [if_neg (by simpa using cmpN_le.2 h),if_pos h]
  have hMX:MX=4611686018427387903:=rfl
  rw [whileN_eq (fun s=>∃k:Nat,s.2=(k:Int) - 1∧k≤(dgs a).length∧s.1=((dval ((dgs a).drop k):Nat):Int)) (fun s=>(s.2+1).toNat) (a:Int) ?_ _ ⟨(dgs a).length,by simp only; rw [w64 (by omega)],Nat.le_refl _,by simp [dval]⟩ (by simp only; rw [w64 (by omega)]; omega)]
  ·rfl
  ·rintro ⟨v,i⟩ ⟨k,h1,h2,h3⟩
   simp only at h1 h3
   subst h1; subst h3
   unfold g_ref01_value_b0
   simp only
   cases k with
   | zero =>
    right
    rw [if_neg (by simp),List.drop_zero,dval_dgs]
   | succ j =>
    left
    have e:((j+1:Nat):Int) - 1=(j:Int):=by omega
    rw [e,if_pos (by simp),lkI_nat (by omega)]
    simp only [Option.bind_some]
    have hv:=dval_drop (l:=dgs a) (k:=j) (by omega)
    have hd:=isdg_get (isdg_dgs a) (k:=j) (by omega)
    have hle:dval ((dgs a).drop j)≤a:=by
     have h1:=dval_split (l:=dgs a) (k:=j) (by omega)
     rw [dval_dgs] at h1
     have h2:1*dval ((dgs a).drop j)≤10000^j*dval ((dgs a).drop j):=Nat.mul_le_mul_right _ (pow_pos' j)
     omega
    rw [w64 (n:=10000*((dval ((dgs a).drop (j+1)):Nat):Int)) (by omega),w64 (by omega),w64 (by omega)]
    exact ⟨_,rfl,⟨j,rfl,by omega,by simp only; omega⟩,by simp only; omega⟩
 ·rw [if_pos (by simpa using fun h'=>h (cmpN_le.1 h')),if_neg h]
def mkQ (neg:Bool) (n d:Nat):Tapi_Q × Bool :=
 if n / Nat.gcd n d≤MX then (if d / Nat.gcd n d≤MX then (⟨if neg then -((n / Nat.gcd n d:Nat):Int) else ((n / Nat.gcd n d:Nat):Int),((d / Nat.gcd n d:Nat):Int)⟩,true) else (⟨0,0⟩,false)) else (⟨0,0⟩,false)
theorem made_eq (neg:Bool) (n d:Nat) (hd:0 < d) (ln:(dgs n).length≤8000) (ld:(dgs d).length≤8000):g_ref01_made neg (dgs n) (dgs d)=some (mkQ neg n d):=by
 unfold g_ref01_made mkQ
 rw [gcd_eq n d ln ld]
 simp only [Option.bind_some]
 have hg:0 < Nat.gcd n d:=Nat.gcd_pos_of_pos_right _ hd
 have lg:=len_le_of (Nat.le_of_dvd hd (Nat.gcd_dvd_right n d))
 have l1:=len_le_of (Nat.div_le_self n (Nat.gcd n d))
 have l2:=len_le_of (Nat.div_le_self d (Nat.gcd n d))
 rw [divide_eq n _ hg ln (by omega),divide_eq d _ hg ld (by omega)]
 simp only [Option.bind_some]
 rw [value_eq _ (by omega),value_eq _ (by omega)]
 simp only [Option.bind_some]
 have hMX:MX=4611686018427387903:=rfl
 by_cases h1:n / Nat.gcd n d≤MX
 ·by_cases h2:d / Nat.gcd n d≤MX
  ·generalize n / Nat.gcd n d=x at *
   generalize d / Nat.gcd n d=y at *
   simp only [h1,h2,if_true,Bool.not_true,Bool.false_eq_true,if_false]
   cases neg
   ·simp
   ·rw [if_pos rfl,w64 (by omega)]; simp
  ·simp only [h1,h2,if_true,if_false,Bool.not_true,Bool.not_false,Bool.false_eq_true]
 ·simp only [h1,if_false,Bool.not_false,if_true]
theorem dgs64 {p:Int} (h:-9223372036854775808≤p∧p≤9223372036854775807):(dgs p.natAbs).length≤5:=dgs_length_le (by omega)
theorem make_eq (n d:Int) (hn:-9223372036854775808≤n∧n≤9223372036854775807) (hd:-9223372036854775808≤d∧d≤9223372036854775807) (h0:d≠0) :
  g_ref01_Make n d=some (mkQ (!((decide (n < 0))==(decide (d < 0)))) n.natAbs d.natAbs):=by
 unfold g_ref01_Make
 have l1:=dgs64 hn
 have l2:=dgs64 hd
 rw [digits_eq n hn,digits_eq d hd]
 simp only [Option.bind_some]
 rw [made_eq _ _ _ (by omega) (by omega) (by omega)]
 rfl
end Go.Ab
namespace Go.Ab
open Go
theorem u64_at {n:Int} (h:0≤n∧n < 18446744073709551616):IntKind.u64.wrap n=n:=by
 obtain ⟨m,rfl⟩:=Int.eq_ofNat_of_zero_le h.1
 exact u64_nat (by omega)
theorem u64_neg {n:Int} (h:n < 0∧-18446744073709551616≤n):IntKind.u64.wrap n=n+18446744073709551616:=by
 simp [IntKind.wrap,IntKind.bits,IntKind.signed]; omega
theorem common_eq (a b:Nat) (ha:a < 18446744073709551616) (hb:b < 18446744073709551616):g_frac_common (a:Int) (b:Int)=some ((Nat.gcd a b:Nat):Int):=by
 have l1:(dgs a).length≤5:=dgs_length_le (by omega)
 have l2:(dgs b).length≤5:=dgs_length_le (by omega)
 have lim:gm a b < 1152921504606846976:=gm_lim (by omega) (by omega)
 unfold g_frac_common
 rw [whileN_eq (fun s=>∃x y:Nat,s.1=(x:Int)∧s.2=(y:Int)∧Nat.gcd x y=Nat.gcd a b) (fun s=>gm s.1.toNat s.2.toNat) ((Nat.gcd a b:Nat):Int) ?_ _ ⟨a,b,rfl,rfl,rfl⟩ (by simpa using lim)]
 ·rfl
 ·rintro ⟨x0,y0⟩ ⟨x,y,h1,h2,h3⟩
  simp only at h1 h2
  subst h1; subst h2
  unfold g_frac_common_b0
  simp only
  by_cases hy:y=0
  ·right
   subst hy
   rw [if_neg (by simp)]
   rw [Nat.gcd_zero_right] at h3
   rw [h3]
  ·left
   rw [if_pos (by simp; omega),if_pos (by omega),tmod_pos (by omega)]
   refine ⟨_,rfl,⟨y,x % y,rfl,by simp,?_⟩,?_⟩
   ·rw [←h3,gcd_step x y]
   ·simp only [Int.toNat_natCast]
    rw [show ((x:Int) % (y:Int)).toNat = x % y by rw [←Int.natCast_emod,Int.toNat_natCast]]
    exact gm_step (by omega)
theorem size_abs {p:Int} (h:-9223372036854775808≤p∧p≤9223372036854775807):g_frac_size p=some (p.natAbs:Int):=by
 unfold g_frac_size
 by_cases h0:p < 0
 ·rw [if_pos (by simpa using h0)]
  have e:IntKind.u64.wrap p=p+18446744073709551616:=u64_neg (by omega)
  rw [e,u64_neg (by omega)]
  congr 1; omega
 ·rw [if_neg (by simpa using h0),u64_at (by omega)]
  congr 1; omega
def Rt (q:Tapi_Q):Prop:=1≤q.D∧q.D≤4611686018427387903∧-4611686018427387903≤q.N∧q.N≤4611686018427387903∧Nat.gcd q.N.natAbs q.D.natAbs=1
instance instRt (q:Tapi_Q):Decidable (Rt q):=by unfold Rt; infer_instance
def I64 (q:Tapi_Q):Prop:=(-9223372036854775808≤q.N∧q.N≤9223372036854775807)∧(-9223372036854775808≤q.D∧q.D≤9223372036854775807)
theorem Rt.i64 {q:Tapi_Q} (h:Rt q):I64 q:=by obtain ⟨h1,h2,h3,h4,_⟩:=h; unfold I64; omega
theorem check_eq (q:Tapi_Q):g_frac_Check q=some (if Rt q then 0 else 5):=by
 unfold g_frac_Check
 by_cases h1:q.D < 1
 ·rw [if_pos (by simpa using h1),if_neg (fun h=>by have:=h.1; omega)]
 rw [if_neg (by simpa using h1)]
 by_cases h2:q.D > 4611686018427387903
 ·rw [if_pos (by simpa using h2),if_neg (fun h=>by have:=h.2.1; omega)]
 rw [if_neg (by simpa using h2)]
 by_cases h3:q.N < -4611686018427387903
 ·rw [if_pos (by simpa using h3),if_neg (fun h=>by have:=h.2.2.1; omega)]
 rw [if_neg (by simpa using h3)]
 by_cases h4:q.N > 4611686018427387903
 ·rw [if_pos (by simpa using h4),if_neg (fun h=>by have:=h.2.2.2.1; omega)]
 rw [if_neg (by simpa using h4),size_abs (by omega)]
 simp only [Option.bind_some]
 have eD:IntKind.u64.wrap q.D=((q.D.natAbs:Nat):Int):=by rw [u64_at (by omega)]; omega
 rw [eD,common_eq _ _ (by omega) (by omega)]
 simp only [Option.bind_some]
 by_cases h5:Nat.gcd q.N.natAbs q.D.natAbs=1
 ·rw [if_neg (by simp [h5]),if_pos ⟨by omega,by omega,by omega,by omega,h5⟩]
 ·rw [if_pos (by simpa using (fun e:((Nat.gcd q.N.natAbs q.D.natAbs:Nat):Int)=1=>h5 (by omega))),if_neg (fun h=>h5 h.2.2.2.2)]
theorem right_eq (q:Tapi_Q):g_ref01_Right q=some (decide (Rt q)):=by
 unfold g_ref01_Right
 by_cases h1:q.D < 1
 ·rw [if_pos (by simpa using h1),decide_eq_false (fun h=>by have:=h.1; omega)]
 rw [if_neg (by simpa using h1)]
 by_cases h2:q.D > 4611686018427387903
 ·rw [if_pos (by simpa using h2),decide_eq_false (fun h=>by have:=h.2.1; omega)]
 rw [if_neg (by simpa using h2)]
 by_cases h4:q.N > 4611686018427387903
 ·rw [if_pos (by simpa using h4),decide_eq_false (fun h=>by have:=h.2.2.2.1; omega)]
 rw [if_neg (by simpa using h4)]
 by_cases h3:q.N < -4611686018427387903
 ·rw [if_pos (by simpa using h3),decide_eq_false (fun h=>by have:=h.2.2.1; omega)]
 rw [if_neg (by simpa using h3),digits_eq _ (by omega),digits_eq _ (by omega)]
 simp only [Option.bind_some]
 have l1:=dgs64 (p:=q.N) (by omega)
 have l2:=dgs64 (p:=q.D) (by omega)
 rw [gcd_eq _ _ (by omega) (by omega)]
 simp only [Option.bind_some]
 have l3:(dgs (Nat.gcd q.N.natAbs q.D.natAbs)).length≤5:=Nat.le_trans (len_le_of (Nat.le_of_dvd (by omega) (Nat.gcd_dvd_right _ _))) l2
 rw [show ([1]:List Int)=dgs 1 from (dgs_single (q:=1) (by omega) (by omega)).symm,compare_eq _ _ (by omega) (by have:(dgs 1).length≤1:=dgs_length_le (by omega); omega)]
 simp only [Option.bind_some]
 congr 1
 by_cases h5:Nat.gcd q.N.natAbs q.D.natAbs=1
 ·rw [decide_eq_true ⟨by omega,by omega,by omega,by omega,h5⟩,h5]; rfl
 ·rw [decide_eq_false (fun h=>h5 h.2.2.2.2)]
  unfold cmpN
  by_cases hl:Nat.gcd q.N.natAbs q.D.natAbs < 1
  ·rw [if_pos hl]; rfl
  ·rw [if_neg hl,if_neg h5]; rfl
def qI (n d:Int):Tapi_Q:=(mkQ (!((decide (n < 0))==(decide (d < 0)))) n.natAbs d.natAbs).1
theorem qI_val {n d:Int} (hd:d≠0) (hn:n.natAbs≤MX) (hd':d.natAbs≤MX):qI n d=⟨if (!((decide (n < 0))==(decide (d < 0))))=true then -((n.natAbs / Nat.gcd n.natAbs d.natAbs:Nat):Int) else ((n.natAbs / Nat.gcd n.natAbs d.natAbs:Nat):Int),((d.natAbs / Nat.gcd n.natAbs d.natAbs:Nat):Int)⟩:=by
 unfold qI mkQ
 have h1:=Nat.div_le_self n.natAbs (Nat.gcd n.natAbs d.natAbs)
 have h2:=Nat.div_le_self d.natAbs (Nat.gcd n.natAbs d.natAbs)
 rw [if_pos (by omega),if_pos (by omega)]
theorem of_qI {n d:Int} (hn:-9223372036854775808≤n∧n≤9223372036854775807) (hd:-9223372036854775808≤d∧d≤9223372036854775807) (h0:d≠0):g_ref01_Of n d=some (qI n d):=by
 unfold g_ref01_Of
 rw [make_eq n d hn hd h0]
 rfl
theorem make_qI {n d:Int} (hn:n.natAbs≤MX) (hd:d.natAbs≤MX) (h0:d≠0):g_frac_Make n d=some (qI n d,0):=by
 have hMX:MX=4611686018427387903:=rfl
 unfold g_frac_Make
 rw [if_neg (by simpa using h0)]
 unfold g_frac_Make_1_k0
 rw [size_abs (by omega),size_abs (by omega)]
 simp only [Option.bind_some]
 rw [common_eq _ _ (by omega) (by omega)]
 simp only [Option.bind_some]
 have hg:0 < Nat.gcd n.natAbs d.natAbs:=Nat.gcd_pos_of_pos_right _ (by omega)
 rw [if_pos (by omega),if_pos (by omega)]
 have h1:=Nat.div_le_self n.natAbs (Nat.gcd n.natAbs d.natAbs)
 have h2:=Nat.div_le_self d.natAbs (Nat.gcd n.natAbs d.natAbs)
 have e1:Int.tdiv (n.natAbs:Int) ((Nat.gcd n.natAbs d.natAbs:Nat):Int)=((n.natAbs / Nat.gcd n.natAbs d.natAbs:Nat):Int):=by rw [tdiv_pos (by omega)]; simp
 have e2:Int.tdiv (d.natAbs:Int) ((Nat.gcd n.natAbs d.natAbs:Nat):Int)=((d.natAbs / Nat.gcd n.natAbs d.natAbs:Nat):Int):=by rw [tdiv_pos (by omega)]; simp
 rw [e1,e2,qI_val h0 hn hd]
 generalize n.natAbs / Nat.gcd n.natAbs d.natAbs=x at *
 generalize d.natAbs / Nat.gcd n.natAbs d.natAbs=y at *
 rw [u64_at (by omega),u64_at (by omega)]
 unfold g_frac_fit
 simp only
 rw [if_neg (by simp),if_neg (by simp; omega),if_neg (by simp),if_neg (by simp; omega)]
 generalize (!((decide (n < 0))==(decide (d < 0))))=b
 cases b
 ·rw [if_neg (by simp),if_neg (by simp),w64 (by omega),w64 (by omega)]; rfl
 ·rw [if_pos rfl,if_pos rfl,w64 (n:=(x:Int)) (by omega),w64 (n:=(y:Int)) (by omega),w64 (by omega)]
  simp
theorem qI_spec {n d:Int} (hn:n.natAbs≤MX) (hd:d.natAbs≤MX) (h0:d≠0):Rt (qI n d)∧(qI n d).N*d=n*(qI n d).D:=by
 have hMX:MX=4611686018427387903:=rfl
 rw [qI_val h0 hn hd]
 have hg:0 < Nat.gcd n.natAbs d.natAbs:=Nat.gcd_pos_of_pos_right _ (by omega)
 have hc:Nat.gcd (n.natAbs / Nat.gcd n.natAbs d.natAbs) (d.natAbs / Nat.gcd n.natAbs d.natAbs)=1:=by rw [Nat.gcd_div (Nat.gcd_dvd_left _ _) (Nat.gcd_dvd_right _ _),Nat.div_self hg]
 have hx:n.natAbs=n.natAbs / Nat.gcd n.natAbs d.natAbs*Nat.gcd n.natAbs d.natAbs:=(Nat.div_mul_cancel (Nat.gcd_dvd_left _ _)).symm
 have hy:d.natAbs=d.natAbs / Nat.gcd n.natAbs d.natAbs*Nat.gcd n.natAbs d.natAbs:=(Nat.div_mul_cancel (Nat.gcd_dvd_right _ _)).symm
 have hxl:=Nat.div_le_self n.natAbs (Nat.gcd n.natAbs d.natAbs)
 have hyl:=Nat.div_le_self d.natAbs (Nat.gcd n.natAbs d.natAbs)
 have hyp:0 < d.natAbs / Nat.gcd n.natAbs d.natAbs:=Nat.div_pos (Nat.le_of_dvd (by omega) (Nat.gcd_dvd_right _ _)) hg
 generalize n.natAbs / Nat.gcd n.natAbs d.natAbs=x at *
 generalize d.natAbs / Nat.gcd n.natAbs d.natAbs=y at *
 generalize Nat.gcd n.natAbs d.natAbs=g at *
 have key:(x:Int)*(d.natAbs:Int)=(n.natAbs:Int)*(y:Int):=by
  rw [hx,hy]
  simp only [Int.natCast_mul]
  rw [Int.mul_assoc,Int.mul_comm (g:Int),Int.mul_comm (y:Int)]
 refine ⟨?_,?_⟩
 ·unfold Rt
  simp only
  refine ⟨by omega,by omega,?_,?_,?_⟩
  ·split <;> omega
  ·split <;> omega
  ·split
   ·rw [Int.natAbs_neg]; simpa using hc
   ·simpa using hc
 ·simp only
  by_cases h1:n < 0
  ·by_cases h2:d < 0
   ·rw [if_neg (by simp [h1,h2])]
    rw [show d=-(d.natAbs:Int) by omega,show n=-(n.natAbs:Int) by omega]
    rw [Int.mul_neg,Int.neg_mul,key]
   ·rw [if_pos (by simp [h1,h2])]
    rw [show d=(d.natAbs:Int) by omega,show n=-(n.natAbs:Int) by omega]
    rw [Int.neg_mul,Int.neg_mul,key]
  ·by_cases h2:d < 0
   ·rw [if_pos (by simp [h1,h2])]
    rw [show d=-(d.natAbs:Int) by omega,show n=(n.natAbs:Int) by omega]
    rw [Int.mul_neg,Int.neg_mul,Int.neg_neg,key]
   ·rw [if_neg (by simp [h1,h2])]
    rw [show d=(d.natAbs:Int) by omega,show n=(n.natAbs:Int) by omega]
    exact key
def cmpI (a b:Int):Int:=if a < b then -1 else if a=b then 0 else 1
theorem mul64_eq (x y:Nat) (hx:x < 18446744073709551616) (hy:y < 18446744073709551616):g_math_bits_Mul64 (x:Int) (y:Int)=some (((x*y / 18446744073709551616:Nat):Int),((x*y % 18446744073709551616:Nat):Int)):=by
 have hb:IntKind.bits .u64=64:=rfl
 have hp:(2:Int)^min (Int.toNat 32) (IntKind.bits .u64)=4294967296:=rfl
 have hf:∀z:Nat,Int.fdiv (z:Int) 4294967296=((z / 4294967296:Nat):Int):=fun z=>by rw [Int.fdiv_eq_ediv_of_nonneg _ (by omega)]; simp
 have hm:∀z:Nat,z < 18446744073709551616→IntKind.u64.wrap ((BitVec.ofInt (IntKind.bits .u64) (z:Int) &&& BitVec.ofInt (IntKind.bits .u64) 4294967295).toNat : Int)=((z % 4294967296:Nat):Int):=fun z hz=>by
  have e1:(BitVec.ofInt (IntKind.bits .u64) (z:Int) &&& BitVec.ofInt (IntKind.bits .u64) 4294967295).toNat = z % 4294967296:=by
   rw [BitVec.toNat_and,bv_nat hz,show (BitVec.ofInt (IntKind.bits .u64) 4294967295).toNat = 2^32 - 1 from bv_nat (a:=4294967295) (by omega),Nat.and_two_pow_sub_one_eq_mod]
  rw [e1,u64_nat (by omega)]
 unfold g_math_bits_Mul64
 simp only [hp]
 rw [hf x,hf y,hm x hx,hm y hy]
 obtain ⟨x1,ex1⟩:∃z,z=x / 4294967296:=⟨_,rfl⟩
 obtain ⟨x0,ex0⟩:∃z,z=x % 4294967296:=⟨_,rfl⟩
 obtain ⟨y1,ey1⟩:∃z,z=y / 4294967296:=⟨_,rfl⟩
 obtain ⟨y0,ey0⟩:∃z,z=y % 4294967296:=⟨_,rfl⟩
 rw [←ex1,←ex0,←ey1,←ey0]
 have hX:x=x1*4294967296+x0:=by omega
 have hY:y=y1*4294967296+y0:=by omega
 have hx1:x1≤4294967295:=by omega
 have hy1:y1≤4294967295:=by omega
 have ba:x1*y1≤4294967295*4294967295:=Nat.mul_le_mul hx1 hy1
 have bb:x1*y0≤4294967295*4294967295:=Nat.mul_le_mul hx1 (by omega)
 have bc:x0*y1≤4294967295*4294967295:=Nat.mul_le_mul (by omega) hy1
 have bd:x0*y0≤4294967295*4294967295:=Nat.mul_le_mul (by omega) (by omega)
 have hprod:(x1*4294967296+x0)*(y1*4294967296+y0)=x1*y1*18446744073709551616+(x1*y0+x0*y1)*4294967296+x0*y0:=by
  simp only [Nat.add_mul,Nat.mul_add]
  have e1:x1*4294967296*(y1*4294967296)=x1*y1*18446744073709551616:=by
   rw [Nat.mul_mul_mul_comm]
  have e2:x1*4294967296*y0=x1*y0*4294967296:=Nat.mul_right_comm _ _ _
  have e3:x0*(y1*4294967296)=x0*y1*4294967296:=(Nat.mul_assoc _ _ _).symm
  rw [e1,e2,e3]; omega
 rw [←hX,←hY] at hprod
 have e4:(x:Int)*(y:Int)=((x*y:Nat):Int):=by simp
 rw [e4,hprod]
 simp only [←Int.natCast_mul]
 generalize x1*y1=a at *
 generalize x1*y0=b at *
 generalize x0*y1=c at *
 generalize x0*y0=d at *
 rw [u64_nat (n:=a) (by omega),u64_nat (n:=b) (by omega),u64_nat (n:=c) (by omega),u64_nat (n:=d) (by omega),hf d]
 have s1:(b:Int)+((d / 4294967296:Nat):Int)=((b+d / 4294967296:Nat):Int):=by simp
 rw [s1,u64_nat (n:=b+d / 4294967296) (by omega),hm _ (by omega),hf]
 have s2:(((b+d / 4294967296) % 4294967296:Nat):Int)+(c:Int)=(((b+d / 4294967296) % 4294967296+c:Nat):Int):=by simp
 have s3:(a:Int)+(((b+d / 4294967296) / 4294967296:Nat):Int)=((a+(b+d / 4294967296) / 4294967296:Nat):Int):=by simp
 rw [s2,s3,u64_nat (n:=(b+d / 4294967296) % 4294967296+c) (by omega),hf,u64_nat (n:=a+(b+d / 4294967296) / 4294967296) (by omega)]
 have s4:((a+(b+d / 4294967296) / 4294967296:Nat):Int)+((((b+d / 4294967296) % 4294967296+c) / 4294967296:Nat):Int)=((a+(b+d / 4294967296) / 4294967296+((b+d / 4294967296) % 4294967296+c) / 4294967296:Nat):Int):=by simp
 rw [s4,u64_nat (n:=a+(b+d / 4294967296) / 4294967296+((b+d / 4294967296) % 4294967296+c) / 4294967296) (by omega)]
 have s5:IntKind.u64.wrap ((a*18446744073709551616+(b+c)*4294967296+d:Nat):Int)=(((a*18446744073709551616+(b+c)*4294967296+d) % 18446744073709551616:Nat):Int):=by
  simp [IntKind.wrap,IntKind.bits,IntKind.signed]
 rw [s5]
 congr 2
 omega
theorem cmp1_eq {p q:Tapi_Q} (hp:Rt p) (hq:Rt q):g_frac_Cmp_1 p q=some (cmpI (p.N*q.D) (q.N*p.D)):=by
 obtain ⟨p1,p2,p3,p4,_⟩:=hp
 obtain ⟨q1,q2,q3,q4,_⟩:=hq
 unfold g_frac_Cmp_1
 rw [size_abs (by omega),size_abs (by omega)]
 simp only [Option.bind_some]
 unfold g_frac_times
 have eD:IntKind.u64.wrap q.D=((q.D.natAbs:Nat):Int):=by rw [u64_at (by omega)]; omega
 have eE:IntKind.u64.wrap p.D=((p.D.natAbs:Nat):Int):=by rw [u64_at (by omega)]; omega
 rw [eD,eE,mul64_eq _ _ (by omega) (by omega),mul64_eq _ _ (by omega) (by omega)]
 simp only [Option.bind_some]
 have hx:p.N*q.D=if p.N < 0 then -((p.N.natAbs*q.D.natAbs:Nat):Int) else ((p.N.natAbs*q.D.natAbs:Nat):Int):=by
  split
  ·rw [Int.natCast_mul,←Int.neg_mul]; congr 1 <;> omega
  ·rw [Int.natCast_mul]; congr 1 <;> omega
 have hy:q.N*p.D=if q.N < 0 then -((q.N.natAbs*p.D.natAbs:Nat):Int) else ((q.N.natAbs*p.D.natAbs:Nat):Int):=by
  split
  ·rw [Int.natCast_mul,←Int.neg_mul]; congr 1 <;> omega
  ·rw [Int.natCast_mul]; congr 1 <;> omega
 have hxp:p.N < 0→0 < p.N.natAbs*q.D.natAbs:=fun h=>Nat.mul_pos (by omega) (by omega)
 have hyp:q.N < 0→0 < q.N.natAbs*p.D.natAbs:=fun h=>Nat.mul_pos (by omega) (by omega)
 rw [hx,hy]
 generalize p.N.natAbs*q.D.natAbs=x at *
 generalize q.N.natAbs*p.D.natAbs=y at *
 unfold cmpI
 by_cases h1:p.N < 0
 ·by_cases h2:q.N < 0
  ·rw [if_neg (by simp [h1,h2]),if_pos h1,if_pos h2]
   by_cases he:x=y
   ·subst he; rw [if_pos (by simp),if_neg (by omega),if_pos rfl]
   ·rw [if_neg (by simp; omega)]
    unfold g_frac_less
    simp only
    by_cases hh:x / 18446744073709551616 < y / 18446744073709551616
    ·rw [if_pos (by simp; omega)]
     simp only [Option.bind_some]
     rw [if_neg (by simp [h1]),if_neg (by omega),if_neg (by omega)]
    ·rw [if_neg (by simp; omega)]
     by_cases hh2:x / 18446744073709551616=y / 18446744073709551616
     ·rw [if_pos (by simp [hh2])]
      simp only [Option.bind_some]
      by_cases hl:x < y
      ·rw [decide_eq_true (by omega),if_neg (by simp [h1]),if_neg (by omega),if_neg (by omega)]
      ·rw [decide_eq_false (by omega),if_pos (by simp; omega),if_pos (by omega)]
     ·rw [if_neg (by simp; omega)]
      simp only [Option.bind_some]
      rw [if_pos (by simp; omega),if_pos (by omega)]
  ·rw [if_pos (by simp [h1,h2]),if_pos (by simpa using h1),if_pos h1,if_neg h2,if_pos (by have:=hxp h1; omega)]
 ·by_cases h2:q.N < 0
  ·rw [if_pos (by simp [h1,h2]),if_neg (by simpa using h1),if_neg h1,if_pos h2,if_neg (by have:=hyp h2; omega),if_neg (by have:=hyp h2; omega)]
  ·rw [if_neg (by simp [h1,h2]),if_neg h1,if_neg h2]
   by_cases he:x=y
   ·subst he; rw [if_pos (by simp),if_neg (by omega),if_pos rfl]
   ·rw [if_neg (by simp; omega)]
    unfold g_frac_less
    simp only
    by_cases hh:x / 18446744073709551616 < y / 18446744073709551616
    ·rw [if_pos (by simp; omega)]
     simp only [Option.bind_some]
     rw [if_pos (by simp; omega),if_pos (by omega)]
    ·rw [if_neg (by simp; omega)]
     by_cases hh2:x / 18446744073709551616=y / 18446744073709551616
     ·rw [if_pos (by simp [hh2])]
      simp only [Option.bind_some]
      by_cases hl:x < y
      ·rw [decide_eq_true (by omega),if_pos (by simp; omega),if_pos (by omega)]
      ·rw [decide_eq_false (by omega),if_neg (by simp; omega),if_neg (by omega),if_neg (by omega)]
     ·rw [if_neg (by simp; omega)]
      simp only [Option.bind_some]
      rw [if_neg (by simp; omega),if_neg (by omega),if_neg (by omega)]
theorem less_eq {p q:Tapi_Q} (hp:Rt p) (hq:Rt q):g_sensitive_less p q=some (decide (p.N*q.D < q.N*p.D)):=by
 unfold g_sensitive_less g_frac_Cmp
 rw [check_eq,if_pos hp]
 simp only [Option.bind_some]
 rw [if_neg (by simp),check_eq,if_pos hq]
 simp only [Option.bind_some]
 rw [if_neg (by simp)]
 unfold g_frac_both_int_1_k1
 rw [show (Tapi_Q.mk p.N p.D)=p from rfl,show (Tapi_Q.mk q.N q.D)=q from rfl,cmp1_eq hp hq]
 simp only [Option.bind_some]
 unfold cmpI
 congr 1
 split
 ·simp_all
 ·split <;> simp_all
end Go.Ab
namespace Go.Ab
open Go
abbrev LN:=Nat → Int × Int × Int × Int
def bestF (L:LN):Nat → Nat
 | 0=>0
 | k+1=>if (L k).1 > (L (bestF L k)).1 then k else bestF L k
theorem bestF_lt {L:LN}:∀k,0 < k→bestF L k < k
 | 0,h=>by omega
 | k+1,_=>by
  unfold bestF
  split
  ·omega
  ·by_cases h:k=0
   ·subst h; exact Nat.lt_succ_of_le (Nat.le_refl _)
   ·have:=bestF_lt (L:=L) k (by omega); omega
def B61 (z:Int):Prop:=-2305843009213693951≤z∧z≤2305843009213693951
def LnOk (L:LN):Prop:=∀x,B61 (L x).1∧B61 (L x).2.1
def ownF (L:LN) (b x:Nat):Int:=(L b).1 - (L x).1
def gapF (L:LN) (b x:Nat):Int:=(L b).2.1 - (L x).2.1
def stP (L:LN) (b aT aF:Nat):Nat → Tapi_Q × Tapi_Q
 | 0=>(⟨-(aT:Int),1⟩,⟨(aF:Int),1⟩)
 | k+1 =>
  if 0 < gapF L b k then (if (stP L b aT aF k).1.N*(qI (-(ownF L b k)) (gapF L b k)).D < (qI (-(ownF L b k)) (gapF L b k)).N*(stP L b aT aF k).1.D then (qI (-(ownF L b k)) (gapF L b k),(stP L b aT aF k).2) else stP L b aT aF k)
  else if gapF L b k < 0 then (if (qI (-(ownF L b k)) (gapF L b k)).N*(stP L b aT aF k).2.D < (stP L b aT aF k).2.N*(qI (-(ownF L b k)) (gapF L b k)).D then ((stP L b aT aF k).1,qI (-(ownF L b k)) (gapF L b k)) else stP L b aT aF k)
  else stP L b aT aF k
theorem stP_succ {L:LN} {b aT aF k:Nat}:stP L b aT aF (k+1) =
  if 0 < gapF L b k then (if (stP L b aT aF k).1.N*(qI (-(ownF L b k)) (gapF L b k)).D < (qI (-(ownF L b k)) (gapF L b k)).N*(stP L b aT aF k).1.D then (qI (-(ownF L b k)) (gapF L b k),(stP L b aT aF k).2) else stP L b aT aF k)
  else if gapF L b k < 0 then (if (qI (-(ownF L b k)) (gapF L b k)).N*(stP L b aT aF k).2.D < (stP L b aT aF k).2.N*(qI (-(ownF L b k)) (gapF L b k)).D then ((stP L b aT aF k).1,qI (-(ownF L b k)) (gapF L b k)) else stP L b aT aF k)
  else stP L b aT aF k:=rfl
theorem rt_int {z:Int} (h:-1000≤z∧z≤1000):Rt ⟨z,1⟩:=⟨by simp,by simp,by simp only; omega,by simp only; omega,by simp⟩
section
variable {L:LN} {b aT aF:Nat}
theorem own_fit (hL:LnOk L) (x:Nat):(ownF L b x).natAbs≤MX∧(gapF L b x).natAbs≤MX∧(-(ownF L b x)).natAbs≤MX:=by
 obtain ⟨h1,h2⟩:=hL b
 obtain ⟨h3,h4⟩:=hL x
 have hMX:MX=4611686018427387903:=rfl
 unfold B61 at *
 unfold ownF gapF
 omega
theorem qI_sp (hL:LnOk L) {x:Nat} (h:gapF L b x≠0):Rt (qI (-(ownF L b x)) (gapF L b x))∧(qI (-(ownF L b x)) (gapF L b x)).N*gapF L b x=-(ownF L b x)*(qI (-(ownF L b x)) (gapF L b x)).D :=
 qI_spec (own_fit hL x).2.2 (own_fit hL x).2.1 h
theorem stP_rt (hL:LnOk L) (hT:aT≤60) (hF:aF≤60):∀k,Rt (stP L b aT aF k).1∧Rt (stP L b aT aF k).2
 | 0=>⟨rt_int (by omega),rt_int (by omega)⟩
 | k+1=>by
  obtain ⟨i1,i2⟩:=stP_rt hL hT hF k
  rw [stP_succ]
  by_cases h1:0 < gapF L b k
  ·rw [if_pos h1]
   split
   ·exact ⟨(qI_sp hL (by omega)).1,i2⟩
   ·exact ⟨i1,i2⟩
  ·rw [if_neg h1]
   by_cases h2:gapF L b k < 0
   ·rw [if_pos h2]
    split
    ·exact ⟨i1,(qI_sp hL (by omega)).1⟩
    ·exact ⟨i1,i2⟩
   ·rw [if_neg h2]; exact ⟨i1,i2⟩
theorem stay_b0 {c:Nat} (hc:0 < c) (h8:c≤8):whileN fuel (g_sensitive_Stay_b0 (rowG c L)) (0,0)=some (bestF L c:Int):=by
 refine whileN_run (fun k=>((bestF L k:Int),(k:Int))) c _ rfl (fun k hk=>?_) ?_ (by omega)
 ·have hb:bestF L k < c:=by
   by_cases h:k=0
   ·subst h; exact hc
   ·have:=bestF_lt (L:=L) k (by omega); omega
  have ek:IntKind.i64.wrap ((k:Int)+1)=((k+1:Nat):Int):=by rw [w64 (by omega)]; omega
  unfold g_sensitive_Stay_b0
  simp only
  rw [if_pos (by rw [rowG_len]; simpa using hk),rowG_get hk]
  simp only [Option.bind_some]
  rw [rowG_get hb]
  simp only [Option.bind_some]
  rw [ek]
  by_cases h:(L k).1 > (L (bestF L k)).1
  ·rw [if_pos (by simpa using h)]
   simp only [bestF,if_pos h]
  ·rw [if_neg (by simpa using h)]
   simp only [bestF,if_neg h]
 ·unfold g_sensitive_Stay_b0
  simp only
  rw [if_neg (by rw [rowG_len]; simp)]
theorem stay_b1 (hL:LnOk L) (hT:aT≤60) (hF:aF≤60) {c:Nat} (hb:b < c) (h8:c≤8):whileN fuel (g_sensitive_Stay_b1 (rowG c L) (b:Int)) (0,-(aT:Int),1,(aF:Int),1) =
  some ((stP L b aT aF c).1.N,(stP L b aT aF c).1.D,(stP L b aT aF c).2.N,(stP L b aT aF c).2.D):=by
 refine whileN_run (fun k=>((k:Int),(stP L b aT aF k).1.N,(stP L b aT aF k).1.D,(stP L b aT aF k).2.N,(stP L b aT aF k).2.D)) c _ rfl (fun k hk=>?_) ?_ (by omega)
 ·have ek:IntKind.i64.wrap ((k:Int)+1)=((k+1:Nat):Int):=by rw [w64 (by omega)]; omega
  obtain ⟨r1,r2⟩:=stP_rt (b:=b) hL hT hF k
  have hfit:=own_fit (b:=b) hL k
  have hMX:MX=4611686018427387903:=rfl
  have eg:IntKind.i64.wrap ((L b).2.1 - (L k).2.1)=gapF L b k:=by unfold gapF at *; exact w64 (by omega)
  have eo:IntKind.i64.wrap (0 - IntKind.i64.wrap ((L b).1 - (L k).1))=-(ownF L b k):=by
   have w1:IntKind.i64.wrap ((L b).1 - (L k).1)=ownF L b k:=by unfold ownF at *; exact w64 (by omega)
   rw [w1,w64 (by omega)]; omega
  unfold g_sensitive_Stay_b1
  simp only
  rw [if_pos (by rw [rowG_len]; simpa using hk),rowG_get hk]
  simp only [Option.bind_some]
  rw [rowG_get hb]
  simp only [Option.bind_some]
  rw [eg,eo,ek]
  by_cases h0:gapF L b k=0
  ·rw [if_pos (by simp [h0])]
   rw [stP_succ,if_neg (show ¬ 0 < gapF L b k by omega),if_neg (show ¬ gapF L b k < 0 by omega)]
  ·rw [if_neg (by simpa using h0),make_qI hfit.2.2 hfit.2.1 h0]
   simp only [Option.bind_some]
   obtain ⟨q1,q2⟩:=qI_sp hL (b:=b) (x:=k) h0
   rw [if_neg (by simp)]
   by_cases h1:gapF L b k < 0
   ·rw [if_pos (by simpa using h1),show (Tapi_Q.mk (stP L b aT aF k).2.N (stP L b aT aF k).2.D)=(stP L b aT aF k).2 from rfl,less_eq q1 r2]
    simp only [Option.bind_some]
    rw [stP_succ,if_neg (show ¬ 0 < gapF L b k by omega),if_pos h1]
    split
    ·rename_i h; rw [if_pos (by simpa using h)]
    ·rename_i h; rw [if_neg (by simpa using h)]
   ·rw [if_neg (by simpa using h1),show (Tapi_Q.mk (stP L b aT aF k).1.N (stP L b aT aF k).1.D)=(stP L b aT aF k).1 from rfl,less_eq r1 q1]
    simp only [Option.bind_some]
    rw [stP_succ,if_pos (show 0 < gapF L b k by omega)]
    split
    ·rename_i h; rw [if_pos (by simpa using h)]
    ·rename_i h; rw [if_neg (by simpa using h)]
 ·unfold g_sensitive_Stay_b1
  simp only
  rw [if_neg (by rw [rowG_len]; simp)]
end
section
variable {D:NF}
theorem check_ok0 (X:VX D) {E:Nat → Int} (hE:EvOk D E) {s:SF} {v:Nat} (hs:s.N < D.n) (hR:s.R < D.rows s.N) (hF:s.F < D.card s.N) (hT:s.T < D.card s.N) (hFT:s.F≠s.T) (hv:v < D.n) :
  g_sensitive_check D.net (rowG D.n E) (v:Int) s.sh []=some 0:=by
 have hc:=(X.vn.card v hv).1
 have h1:=check_ok X hE hs hR hF hT hFT hv (x:=0) (by omega)
 have hlen:D.net.Nodes.length=D.n:=rowG_len
 unfold g_sensitive_check at h1 ⊢
 cases hck:g_net_Check D.net with
 | none=>rw [hck] at h1; cases h1
 | some a =>
  rw [hck] at h1
  simp only [Option.bind_some] at h1 ⊢
  by_cases ha:(a != 0)=true
  ·rw [if_pos ha] at h1 ⊢; exact h1
  ·rw [if_neg ha] at h1 ⊢
   cases hce:g_net_CheckEvidence D.net (rowG D.n E) with
   | none=>rw [hce] at h1; cases h1
   | some e =>
    rw [hce] at h1
    simp only [Option.bind_some] at h1 ⊢
    by_cases he:(e != 0)=true
    ·rw [if_pos he] at h1 ⊢; exact h1
    ·rw [if_neg he] at h1 ⊢
     rw [if_neg (by simp),if_neg (by rw [hlen]; simp; omega)] at h1 ⊢
     have e0:whileN fuel (g_sensitive_check_b0 [((0:Nat):Int)] D.net (v:Int)) 0=some (Sum.inr ()):=by
      refine whileN_run (fun k=>(k:Int)) 1 _ rfl (fun k hk=>?_) ?_ (by omega)
      ·have:k=0:=by omega
       subst this
       unfold g_sensitive_check_b0
       rw [if_pos (by simp),show lkI [((0:Nat):Int)] ((0:Nat):Int)=some 0 from rfl]
       simp only [Option.bind_some]
       rw [if_neg (by simp),X.vn.node hv]
       simp only [Option.bind_some]
       rw [if_neg (by simp [NF.node]; omega)]
       rfl
      ·unfold g_sensitive_check_b0
       rw [if_neg (by simp)]
     have e1:whileN fuel (g_sensitive_check_b0 [] D.net (v:Int)) 0=some (Sum.inr ()):=by
      refine whileN_run (fun k=>(k:Int)) 0 _ rfl (fun k hk=>by omega) ?_ (by omega)
      unfold g_sensitive_check_b0
      rw [if_neg (by simp)]
     rw [e0] at h1
     rw [e1]
     exact h1
theorem stay_eq (X:VX D) {E:Nat → Int} (hE:EvOk D E) {s:SF} {v:Nat} (hs:s.N < D.n) (hR:s.R < D.rows s.N) (hF:s.F < D.card s.N) (hT:s.T < D.card s.N) (hFT:s.F≠s.T) (hv:v < D.n) (hL:LnOk (lineF D s E v)) :
  g_sensitive_Stay D.net (rowG D.n E) (v:Int) s.sh=some (if SW D E (D.fA s)=0 then (⟨0,0⟩,⟨0,0⟩,7) else
   ((stP (lineF D s E v) (bestF (lineF D s E v) (D.card v)) (D.W s.N s.R s.T) (D.W s.N s.R s.F) (D.card v)).1,(stP (lineF D s E v) (bestF (lineF D s E v) (D.card v)) (D.W s.N s.R s.T) (D.W s.N s.R s.F) (D.card v)).2,0)):=by
 have V:=X.vn
 have hc:=V.card v hv
 have hWT:=V.W s.N s.R s.T hs hR hT
 have hWF:=V.W s.N s.R s.F hs hR hF
 have hg:=V.g60
 unfold g_sensitive_Stay
 rw [check_ok0 X hE hs hR hF hT hFT hv]
 simp only [Option.bind_some]
 rw [if_neg (by simp),lines_eq V hs hv hE]
 simp only [Option.bind_some]
 rw [show lkI (rowG (D.card v) (lineF D s E v)) 0=some (lineF D s E v 0) from rowG_get (k:=0) (by omega)]
 simp only [Option.bind_some]
 have e:(lineF D s E v 0).2.2.1=SW D E (D.fA s):=rfl
 rw [e]
 by_cases h0:SW D E (D.fA s)=0
 ·rw [if_pos (by simp [h0]),if_pos h0]
 ·rw [if_neg (by simpa using h0),if_neg h0,stay_b0 (by omega) (by omega)]
  simp only [Option.bind_some]
  have hends:g_sensitive_ends D.net s.sh=some (-(D.W s.N s.R s.T:Int),(D.W s.N s.R s.F:Int)):=by
   unfold g_sensitive_ends
   rw [show s.sh.Node=(s.N:Int) from rfl,V.node hs]
   simp only [Option.bind_some]
   rw [show s.sh.Row=(s.R:Int) from rfl,show lkI (D.node s.N).Rows (s.R:Int)=some (rowG (D.card s.N) fun x=>(D.W s.N s.R x:Int)) from rowG_get hR]
   simp only [Option.bind_some]
   rw [show s.sh.To=(s.T:Int) from rfl,rowG_get hT]
   simp only [Option.bind_some]
   rw [show s.sh.From=(s.F:Int) from rfl,rowG_get hF]
   simp only [Option.bind_some]
   rw [w64 (by omega)]
   congr 2
   omega
  rw [hends]
  simp only [Option.bind_some]
  rw [stay_b1 hL (by omega) (by omega) (bestF_lt _ (by omega)) (by omega)]
  rfl
end
end Go.Ab
namespace Go.Ab
open Go
structure QX (D:NF) (E:Nat → Int) (v:Nat) (s:SF):Prop where
 X:DX D
 hE:EvOk D E
 hv:v < D.n
 hsN:s.N < D.n
 hsR:s.R < D.rows s.N
 hsF:s.F < D.card s.N
 hsT:s.T < D.card s.N
 hFT:s.F≠s.T
section
variable {D:NF} {E:Nat → Int} {v:Nat} {s:SF}
theorem QX.bd (Q:QX D E v s) (y:Nat):BD 243 (lineF D s E v y).1∧BD 243 (lineF D s E v y).2.1∧BD 243 (lineF D s E v y).2.2.1∧BD 243 (lineF D s E v y).2.2.2:=by
 have V:=Q.X.vn
 have hw:=Q.X.worlds
 exact ⟨sw_bd V hw (at_bd (fA_bd V Q.hsN)),sw_bd V hw (at_bd (fB_bd V)),sw_bd V hw (fA_bd V Q.hsN),sw_bd V hw (fB_bd V)⟩
theorem QX.lnOk (Q:QX D E v s):LnOk (lineF D s E v):=fun x=>by
 obtain ⟨h1,h2,_⟩:=Q.bd x
 unfold BD KK B61 at *
 omega
theorem QX.W60 (Q:QX D E v s):D.W s.N s.R s.T≤60∧D.W s.N s.R s.F≤60:=by
 have V:=Q.X.vn
 have hWT:=V.W s.N s.R s.T Q.hsN Q.hsR Q.hsT
 have hWF:=V.W s.N s.R s.F Q.hsN Q.hsR Q.hsF
 have hg:=V.g60
 omega
theorem QX.stay (Q:QX D E v s):g_sensitive_Stay D.net (rowG D.n E) (v:Int) s.sh=some (if SW D E (D.fA s)=0 then (⟨0,0⟩,⟨0,0⟩,7) else
   ((stP (lineF D s E v) (bestF (lineF D s E v) (D.card v)) (D.W s.N s.R s.T) (D.W s.N s.R s.F) (D.card v)).1,(stP (lineF D s E v) (bestF (lineF D s E v) (D.card v)) (D.W s.N s.R s.T) (D.W s.N s.R s.F) (D.card v)).2,0)) :=
 stay_eq Q.X.toVX Q.hE Q.hsN Q.hsR Q.hsF Q.hsT Q.hFT Q.hv Q.lnOk
theorem QX.line (Q:QX D E v s) {k:Nat} (hk:k < D.card v):g_sensitive_Line D.net (rowG D.n E) (v:Int) (k:Int) s.sh=some (lineF D s E v k,0) :=
 line_eq Q.X.vn Q.hsN Q.hv Q.hE hk (check_ok Q.X.toVX Q.hE Q.hsN Q.hsR Q.hsF Q.hsT Q.hFT Q.hv hk)
theorem QX.row (Q:QX D E v s):lkI (D.node s.N).Rows s.sh.Row=some (rowG (D.card s.N) fun x=>(D.W s.N s.R x:Int)):=rowG_get Q.hsR
theorem QX.rowT (Q:QX D E v s):lkI (rowG (D.card s.N) fun x=>(D.W s.N s.R x:Int)) s.sh.To=some (D.W s.N s.R s.T:Int):=rowG_get Q.hsT
theorem QX.rowF (Q:QX D E v s):lkI (rowG (D.card s.N) fun x=>(D.W s.N s.R x:Int)) s.sh.From=some (D.W s.N s.R s.F:Int):=rowG_get Q.hsF
end
end Go.Ab
namespace Go.Ab
open Go
def SB:Int:=47775744000000
def SBd (z:Int):Prop:=-SB≤z∧z≤SB
theorem tm_abs {D:NF} {E:Nat → Int} {f:(Nat → Nat)→Int} {K:Nat} (hf:∀w,D.ok w→-(K:Int)≤f w∧f w≤K):∀(d i:Nat) (w:Nat → Nat),i+d=D.n→D.ok w→-((PC D d i*K:Nat):Int)≤TM D E f d i w∧TM D E f d i w≤((PC D d i*K:Nat):Int)
 | 0,i,w,_,hw=>by
  have:=hf w hw
  show -((1*K:Nat):Int)≤f w∧f w≤((1*K:Nat):Int)
  rw [Nat.one_mul]; exact this
 | d+1,i,w,h,hw=>by
  have key:∀m,m≤D.card i→-((m*(PC D d (i+1)*K):Nat):Int)≤sumI m (fun y=>if E i=-1∨E i=(y:Int) then TM D E f d (i+1) (upd w i y) else 0)∧sumI m (fun y=>if E i=-1∨E i=(y:Int) then TM D E f d (i+1) (upd w i y) else 0)≤((m*(PC D d (i+1)*K):Nat):Int):=by
   intro m
   induction m with
   | zero=>intro _; simp [sumI]
   | succ m ih =>
    intro hm
    have i1:=ih (by omega)
    simp only [sumI]
    rw [Nat.succ_mul]
    have i2:-((PC D d (i+1)*K:Nat):Int)≤(if E i=-1∨E i=(m:Int) then TM D E f d (i+1) (upd w i m) else 0)∧(if E i=-1∨E i=(m:Int) then TM D E f d (i+1) (upd w i m) else 0)≤((PC D d (i+1)*K:Nat):Int):=by
     split
     ·exact tm_abs hf d (i+1) _ (by omega) (ok_upd hw hm)
     ·omega
    omega
  have:=key (D.card i) (Nat.le_refl _)
  unfold TM PC
  rw [Nat.mul_assoc]
  exact this
section
variable {D:NF} {E:Nat → Int} {v:Nat} {s:SF}
theorem rest_le6 (V:VN D) (h6:D.n≤6) {w:Nat → Nat} (hw:D.ok w):D.rest s w D.n≤46656000000:=by
 have h1:D.rest s w D.n≤60^D.n:=prodTo_le fun v hv=>by
  split
  ·omega
  ·exact V.wt_le hw (by omega)
 have h2:(60:Nat)^D.n≤60^6:=Nat.pow_le_pow_right (by omega) h6
 exact Nat.le_trans h1 (Nat.le_trans h2 (by decide))
theorem fA_le6 (V:VN D) (h6:D.n≤6) (hs:s.N < D.n) {w:Nat → Nat} (hw:D.ok w):-((46656000000:Nat):Int)≤D.fA s w∧D.fA s w≤((46656000000:Nat):Int):=by
 rw [V.fA_eq hs]
 have h1:prodTo D.n (D.wt w)≤60^D.n:=prodTo_le fun v hv=>V.wt_le hw hv
 have h2:(60:Nat)^D.n≤60^6:=Nat.pow_le_pow_right (by omega) h6
 omega
theorem fB_le6 (V:VN D) (h6:D.n≤6) {w:Nat → Nat} (hw:D.ok w):-((46656000000:Nat):Int)≤D.fB s w∧D.fB s w≤((46656000000:Nat):Int):=by
 have hb:=rest_le6 (s:=s) V h6 hw
 have hc:D.change s w=-1∨D.change s w=0∨D.change s w=1:=by
  unfold NF.change
  split
  ·split
   ·exact .inl rfl
   ·split
    ·exact .inr (.inr rfl)
    ·exact .inr (.inl rfl)
  ·exact .inr (.inl rfl)
 unfold NF.fB
 rcases hc with h | h | h <;> rw [h] <;> omega
theorem at_le6 {f:(Nat → Nat)→Int} {K:Nat} (hf:∀w,D.ok w→-(K:Int)≤f w∧f w≤K) {x:Nat}:∀w,D.ok w→-(K:Int)≤at' v x f w∧at' v x f w≤K:=fun w hw=>by
 unfold at'
 split
 ·exact hf w hw
 ·omega
theorem sw_sb (V:VN D) {f:(Nat → Nat)→Int} (hf:∀w,D.ok w→-((46656000000:Nat):Int)≤f w∧f w≤((46656000000:Nat):Int)):SBd (SW D E f):=by
 have h:=tm_abs (E:=E) hf D.n 0 (fun _=>0) (by omega) (ok0 V)
 have hp:=pc_all V
 have h2:PC D D.n 0*46656000000≤1024*46656000000:=Nat.mul_le_mul_right _ hp
 unfold SBd SB SW
 omega
def SmL (L:Int × Int × Int × Int):Prop:=SBd L.1∧SBd L.2.1∧SBd L.2.2.1∧SBd L.2.2.2
theorem line_sb (V:VN D) (h6:D.n≤6) (hs:s.N < D.n) (y:Nat):SmL (lineF D s E v y) :=
 ⟨sw_sb V (at_le6 fun w hw=>fA_le6 V h6 hs hw),sw_sb V (at_le6 fun w hw=>fB_le6 V h6 hw),sw_sb V fun w hw=>fA_le6 V h6 hs hw,sw_sb V fun w hw=>fB_le6 V h6 hw⟩
theorem mul_sb {a t:Int} (ha:SBd a) (ht:-1000≤t∧t≤1000):-(47775744000000000:Int)≤a*t∧a*t≤47775744000000000:=by
 unfold SBd SB at ha
 have h1:a.natAbs≤47775744000000:=by omega
 have h2:t.natAbs≤1000:=by omega
 have h3:(a*t).natAbs≤47775744000000*1000:=by rw [Int.natAbs_mul]; exact Nat.mul_le_mul h1 h2
 omega
def Sml (t:Tapi_Q):Prop:=-1000≤t.N∧t.N≤1000∧t.D≤1000
instance instSml (t:Tapi_Q):Decidable (Sml t):=by unfold Sml; infer_instance
theorem small_eq (t:Tapi_Q):g_sensitive_checkSmall t=some (if Rt t then (if Sml t then 0 else 2) else 5):=by
 unfold g_sensitive_checkSmall
 rw [check_eq]
 simp only [Option.bind_some]
 by_cases h:Rt t
 ·rw [if_pos h,if_pos h,if_neg (by simp)]
  by_cases h1:t.N < -1000
  ·rw [if_pos (by simpa using h1),if_neg (fun h=>by have:=h.1; omega)]
  rw [if_neg (by simpa using h1)]
  by_cases h2:t.N > 1000
  ·rw [if_pos (by simpa using h2),if_neg (fun h=>by have:=h.2.1; omega)]
  rw [if_neg (by simpa using h2)]
  by_cases h3:t.D > 1000
  ·rw [if_pos (by simpa using h3),if_neg (fun h=>by have:=h.2.2; omega)]
  rw [if_neg (by simpa using h3),if_pos ⟨by omega,by omega,by omega⟩]
 ·rw [if_neg h,if_neg h,if_pos (by simp)]
def atF (L:Int × Int × Int × Int) (t:Tapi_Q):Tapi_Q × Int :=
 if L.2.2.1*t.D+L.2.2.2*t.N=0 then (⟨0,0⟩,7) else (qI (L.1*t.D+L.2.1*t.N) (L.2.2.1*t.D+L.2.2.2*t.N),0)
theorem at_wraps {L:Int × Int × Int × Int} (hL:SmL L) {t:Tapi_Q} (ht:Rt t) (hs:Sml t) :
  IntKind.i64.wrap (IntKind.i64.wrap (L.1*t.D)+IntKind.i64.wrap (L.2.1*t.N))=L.1*t.D+L.2.1*t.N∧IntKind.i64.wrap (IntKind.i64.wrap (L.2.2.1*t.D)+IntKind.i64.wrap (L.2.2.2*t.N))=L.2.2.1*t.D+L.2.2.2*t.N ∧
   (L.1*t.D+L.2.1*t.N).natAbs≤MX∧(L.2.2.1*t.D+L.2.2.2*t.N).natAbs≤MX:=by
 obtain ⟨h1,h2,h3,h4⟩:=hL
 have hD:=ht.1
 obtain ⟨s1,s2,s3⟩:=hs
 have hMX:MX=4611686018427387903:=rfl
 have b1:=mul_sb h1 (t:=t.D) (by omega)
 have b2:=mul_sb h2 (t:=t.N) (by omega)
 have b3:=mul_sb h3 (t:=t.D) (by omega)
 have b4:=mul_sb h4 (t:=t.N) (by omega)
 rw [w64 (n:=L.1*t.D) (by omega),w64 (n:=L.2.1*t.N) (by omega),w64 (n:=L.2.2.1*t.D) (by omega),w64 (n:=L.2.2.2*t.N) (by omega),w64 (by omega),w64 (by omega)]
 exact ⟨rfl,rfl,by omega,by omega⟩
def InRg (aT aF:Nat) (t:Tapi_Q):Prop:=-(aT:Int)*t.D≤t.N∧t.N≤(aF:Int)*t.D
instance instInRg (aT aF:Nat) (t:Tapi_Q):Decidable (InRg aT aF t):=by unfold InRg; infer_instance
theorem ends_eq (V:VN D) (hs:s.N < D.n) (hR:s.R < D.rows s.N) (hF:s.F < D.card s.N) (hT:s.T < D.card s.N):g_sensitive_ends D.net s.sh=some (-(D.W s.N s.R s.T:Int),(D.W s.N s.R s.F:Int)):=by
 have hWT:=V.W s.N s.R s.T hs hR hT
 have hg:=V.g60
 unfold g_sensitive_ends
 rw [show s.sh.Node=(s.N:Int) from rfl,V.node hs]
 simp only [Option.bind_some]
 rw [show s.sh.Row=(s.R:Int) from rfl,show lkI (D.node s.N).Rows (s.R:Int)=some (rowG (D.card s.N) fun x=>(D.W s.N s.R x:Int)) from rowG_get hR]
 simp only [Option.bind_some]
 rw [show s.sh.To=(s.T:Int) from rfl,rowG_get hT]
 simp only [Option.bind_some]
 rw [show s.sh.From=(s.F:Int) from rfl,rowG_get hF]
 simp only [Option.bind_some]
 rw [w64 (by omega)]
 congr 2
 omega
theorem at_all (V:VN D) (h6:D.n≤6) (hs:s.N < D.n) (hR:s.R < D.rows s.N) (hF:s.F < D.card s.N) (hT:s.T < D.card s.N) {e:List Int} {v x:Nat} {L:Int × Int × Int × Int} (hl:g_sensitive_Line D.net e (v:Int) (x:Int) s.sh=some (L,0)) (hL:SmL L) (t:Tapi_Q) :
  g_sensitive_At D.net e (v:Int) (x:Int) s.sh t=some (if Rt t then (if Sml t then (if InRg (D.W s.N s.R s.T) (D.W s.N s.R s.F) t then atF L t else (⟨0,0⟩,2)) else (⟨0,0⟩,2)) else (⟨0,0⟩,5)):=by
 have hWT:=V.W s.N s.R s.T hs hR hT
 have hWF:=V.W s.N s.R s.F hs hR hF
 have hg:=V.g60
 unfold g_sensitive_At
 rw [hl]
 simp only [Option.bind_some]
 rw [if_neg (by simp),small_eq]
 simp only [Option.bind_some]
 by_cases h1:Rt t
 ·rw [if_pos h1,if_pos h1]
  by_cases h2:Sml t
  ·rw [if_pos h2,if_pos h2,if_neg (by simp),ends_eq V hs hR hF hT]
   simp only [Option.bind_some]
   have hD:=h1.1
   have h2':=h2.2.2
   have m1:∀z:Nat,z≤60→0≤(z:Int)*t.D∧(z:Int)*t.D≤60000:=fun z hz=>by
    have a1:(z:Int)*t.D≤(60:Int)*1000:=Int.mul_le_mul (by omega) h2' (by omega) (by omega)
    have a2:0≤(z:Int)*t.D:=Int.mul_nonneg (by omega) (by omega)
    omega
   have m2:=m1 (D.W s.N s.R s.T) (by omega)
   have m3:=m1 (D.W s.N s.R s.F) (by omega)
   have m4:-(D.W s.N s.R s.T:Int)*t.D=-((D.W s.N s.R s.T:Int)*t.D):=Int.neg_mul _ _
   rw [w64 (n:=-(D.W s.N s.R s.T:Int)*t.D) (by omega),w64 (n:=(D.W s.N s.R s.F:Int)*t.D) (by omega)]
   by_cases h3:t.N < -(D.W s.N s.R s.T:Int)*t.D
   ·rw [if_pos (by simpa using h3),if_neg (fun h=>by have:=h.1; omega)]
   rw [if_neg (by simpa using h3)]
   by_cases h4:t.N > (D.W s.N s.R s.F:Int)*t.D
   ·rw [if_pos (by simpa using h4),if_neg (fun h=>by have:=h.2; omega)]
   obtain ⟨w1,w2,w3,w4⟩:=at_wraps hL h1 h2
   rw [if_neg (by simpa using h4),if_pos (show InRg (D.W s.N s.R s.T) (D.W s.N s.R s.F) t from ⟨by omega,by omega⟩),w1,w2]
   unfold atF
   by_cases h5:L.2.2.1*t.D+L.2.2.2*t.N=0
   ·rw [if_pos (by simpa using h5),if_pos h5]
   ·rw [if_neg (by simpa using h5),if_neg h5,make_qI w3 w4 h5]
    rfl
  ·rw [if_neg h2,if_neg h2,if_pos (by simp)]
 ·rw [if_neg h1,if_neg h1,if_pos (by simp)]
def aboveF (L:Int × Int × Int × Int) (p:Tapi_Q):Int:=L.2.2.1*p.N - L.1*p.D
def belowF (L:Int × Int × Int × Int) (p:Tapi_Q):Int:=L.2.1*p.D - L.2.2.2*p.N
def posF (L:Int × Int × Int × Int) (aT aF:Nat) (t:Tapi_Q):Prop:=¬ (L.2.2.1=0∧L.2.2.2=0)∧(t.D=1∧(t.N=-(aT:Int)∨t.N=(aF:Int))→0 < L.2.2.1+L.2.2.2*t.N)
instance instposF (L:Int × Int × Int × Int) (aT aF:Nat) (t:Tapi_Q):Decidable (posF L aT aF t):=by unfold posF; infer_instance
def thrF (L:Int × Int × Int × Int) (aT aF:Nat) (p:Tapi_Q):Tapi_Q × Int :=
 if belowF L p=0 then (if aboveF L p≠0∨-(aT:Int)≠(aF:Int)∨L.2.2.1=0 then (⟨0,0⟩,4) else (⟨0,1⟩,0))
 else if InRg aT aF (qI (aboveF L p) (belowF L p))∧posF L aT aF (qI (aboveF L p) (belowF L p)) then (qI (aboveF L p) (belowF L p),0) else (⟨0,0⟩,4)
theorem pos_eq {L:Int × Int × Int × Int} (hL:SmL L) {aT aF:Nat} (hT:aT≤60) (hF:aF≤60) {t:Tapi_Q}:g_sensitive_positive (L.1,L.2.1,L.2.2.1,L.2.2.2) t (-(aT:Int)) (aF:Int)=some (decide (posF L aT aF t)):=by
 have key:∀z:Int,(-60≤z∧z≤60)→IntKind.i64.wrap (L.2.2.1+IntKind.i64.wrap (L.2.2.2*z))=L.2.2.1+L.2.2.2*z:=fun z hz=>by
  have b:=mul_sb hL.2.2.2 (t:=z) (by omega)
  have h:=hL.2.2.1
  unfold SBd SB at h
  rw [w64 (n:=L.2.2.2*z) (by omega),w64 (by omega)]
 have ends:(g:Unit→Option Bool)→(g ()=(if (t.D==1)=true then (if (t.N==-(aT:Int))=true then some (decide (IntKind.i64.wrap (L.2.2.1+IntKind.i64.wrap (L.2.2.2*t.N)) > 0)) else if (t.N==(aF:Int))=true then some (decide (IntKind.i64.wrap (L.2.2.1+IntKind.i64.wrap (L.2.2.2*t.N)) > 0)) else some true) else some true)) →
   ¬ (L.2.2.1=0∧L.2.2.2=0)→g ()=some (decide (posF L aT aF t)):=fun g hg hn=>by
  rw [hg]
  by_cases h1:t.D=1
  ·rw [if_pos (by simpa using h1)]
   by_cases h2:t.N=-(aT:Int)
   ·rw [if_pos (by simpa using h2),key _ (by omega)]
    congr 1
    rw [decide_eq_decide]
    exact ⟨fun h=>⟨hn,fun _=>h⟩,fun h=>h.2 ⟨h1,.inl h2⟩⟩
   ·rw [if_neg (by simpa using h2)]
    by_cases h3:t.N=(aF:Int)
    ·rw [if_pos (by simpa using h3),key _ (by omega)]
     congr 1
     rw [decide_eq_decide]
     exact ⟨fun h=>⟨hn,fun _=>h⟩,fun h=>h.2 ⟨h1,.inr h3⟩⟩
    ·rw [if_neg (by simpa using h3),decide_eq_true ⟨hn,fun h=>by rcases h.2 with h | h <;> contradiction⟩]
  ·rw [if_neg (by simpa using h1),decide_eq_true ⟨hn,fun h=>absurd h.1 h1⟩]
 unfold g_sensitive_positive
 simp only
 by_cases hc:L.2.2.1=0
 ·rw [if_pos (by simpa using hc)]
  by_cases hd:L.2.2.2=0
  ·rw [if_pos (by simpa using hd),decide_eq_false (fun h=>h.1 ⟨hc,hd⟩)]
  ·rw [if_neg (by simpa using hd)]
   exact ends (fun _=>_) rfl (fun h=>hd h.2)
 ·rw [if_neg (by simpa using hc)]
  exact ends (fun _=>_) rfl (fun h=>hc h.1)
theorem thr_all (V:VN D) (hs:s.N < D.n) (hR:s.R < D.rows s.N) (hF:s.F < D.card s.N) (hT:s.T < D.card s.N) {e:List Int} {v x:Nat} {L:Int × Int × Int × Int} (hl:g_sensitive_Line D.net e (v:Int) (x:Int) s.sh=some (L,0)) (hL:SmL L) (p:Tapi_Q) :
  g_sensitive_Threshold D.net e (v:Int) (x:Int) s.sh p=some (if Rt p then (if Sml p then (if 0≤p.N∧p.N≤p.D then thrF L (D.W s.N s.R s.T) (D.W s.N s.R s.F) p else (⟨0,0⟩,2)) else (⟨0,0⟩,2)) else (⟨0,0⟩,5)):=by
 have hWT:=V.W s.N s.R s.T hs hR hT
 have hWF:=V.W s.N s.R s.F hs hR hF
 have hg:=V.g60
 have hMX:MX=4611686018427387903:=rfl
 unfold g_sensitive_Threshold
 rw [hl]
 simp only [Option.bind_some]
 rw [if_neg (by simp),small_eq]
 simp only [Option.bind_some]
 by_cases h1:Rt p
 ·rw [if_pos h1,if_pos h1]
  by_cases h2:Sml p
  ·rw [if_pos h2,if_pos h2,if_neg (by simp)]
   by_cases h3:p.N < 0
   ·rw [if_pos (by simpa using h3),if_neg (fun h=>by omega)]
   rw [if_neg (by simpa using h3)]
   by_cases h4:p.N > p.D
   ·rw [if_pos (by simpa using h4),if_neg (fun h=>by omega)]
   rw [if_neg (by simpa using h4),if_pos (show 0≤p.N∧p.N≤p.D from ⟨by omega,by omega⟩),ends_eq V hs hR hF hT]
   simp only [Option.bind_some]
   have hD:=h1.1
   obtain ⟨s1,s2,s3⟩:=h2
   have b1:=mul_sb hL.1 (t:=p.D) (by omega)
   have b2:=mul_sb hL.2.1 (t:=p.D) (by omega)
   have b3:=mul_sb hL.2.2.1 (t:=p.N) (by omega)
   have b4:=mul_sb hL.2.2.2 (t:=p.N) (by omega)
   have eb:IntKind.i64.wrap (IntKind.i64.wrap (L.2.1*p.D) - IntKind.i64.wrap (L.2.2.2*p.N))=belowF L p:=by
    rw [w64 (n:=L.2.1*p.D) (by omega),w64 (n:=L.2.2.2*p.N) (by omega),w64 (by omega)]; rfl
   have ea:IntKind.i64.wrap (IntKind.i64.wrap (L.2.2.1*p.N) - IntKind.i64.wrap (L.1*p.D))=aboveF L p:=by
    rw [w64 (n:=L.2.2.1*p.N) (by omega),w64 (n:=L.1*p.D) (by omega),w64 (by omega)]; rfl
   have fa:(aboveF L p).natAbs≤MX:=by unfold aboveF; omega
   have fb:(belowF L p).natAbs≤MX:=by unfold belowF; omega
   rw [eb,ea]
   unfold thrF
   by_cases h0:belowF L p=0
   ·rw [if_pos (by simpa using h0),if_pos h0]
    by_cases h5:aboveF L p=0
    ·rw [if_neg (by simpa using h5)]
     by_cases h6:-(D.W s.N s.R s.T:Int)=(D.W s.N s.R s.F:Int)
     ·rw [if_neg (by simpa using h6)]
      by_cases h7:L.2.2.1=0
      ·rw [if_pos (by simpa using h7),if_pos (.inr (.inr h7))]
      ·rw [if_neg (by simpa using h7),if_neg (fun h=>by rcases h with h | h | h <;> contradiction)]
     ·rw [if_pos (by simpa using h6),if_pos (.inr (.inl h6))]
    ·rw [if_pos (by simpa using h5),if_pos (.inl h5)]
   ·rw [if_neg (by simpa using h0),if_neg h0,make_qI fa fb h0]
    simp only [Option.bind_some]
    obtain ⟨q1,q2⟩:=qI_spec fa fb h0
    generalize qI (aboveF L p) (belowF L p)=t at *
    rw [if_neg (by simp)]
    unfold g_sensitive_inRange
    rw [less_eq q1 (rt_int (by omega))]
    simp only [Option.bind_some]
    rw [Int.mul_one]
    by_cases h5:t.N < -(D.W s.N s.R s.T:Int)*t.D
    ·rw [if_neg (by simpa using h5)]
     simp only [Option.bind_some]
     rw [if_pos (by simp),if_neg (fun h=>by have:=h.1.1; omega)]
    ·rw [if_pos (by simpa using h5),less_eq (rt_int (by omega)) q1]
     simp only [Option.bind_some]
     rw [Int.mul_one]
     by_cases h6:(D.W s.N s.R s.F:Int)*t.D < t.N
     ·rw [if_pos (by simpa using h6),if_neg (fun h=>by have:=h.1.2; omega)]
     ·rw [if_neg (by simpa using h6),pos_eq hL (by omega) (by omega)]
      simp only [Option.bind_some]
      by_cases h7:posF L (D.W s.N s.R s.T) (D.W s.N s.R s.F) t
      ·rw [decide_eq_true h7,if_neg (by simp),if_pos ⟨⟨by omega,by omega⟩,h7⟩]
      ·rw [decide_eq_false h7,if_pos (by simp),if_neg (fun h=>h7 h.2)]
  ·rw [if_neg h2,if_neg h2,if_pos (by simp)]
 ·rw [if_neg h1,if_neg h1,if_pos (by simp)]
end
theorem rt_uniq {p q:Tapi_Q} (hp:Rt p) (hq:Rt q) {n d:Int} (hd:d≠0) (h1:p.N*d=n*p.D) (h2:q.N*d=n*q.D):p=q:=by
 obtain ⟨p1,p2,p3,p4,p5⟩:=hp
 obtain ⟨q1,q2,q3,q4,q5⟩:=hq
 have h3:p.N*q.D=q.N*p.D:=by
  apply Int.eq_of_mul_eq_mul_right hd
  calc p.N*q.D*d=p.N*d*q.D:=Int.mul_right_comm _ _ _
    _=n*p.D*q.D:=by rw [h1]
    _=n*q.D*p.D:=Int.mul_right_comm _ _ _
    _=q.N*d*p.D:=by rw [h2]
    _=q.N*p.D*d:=Int.mul_right_comm _ _ _
 have h4:p.N.natAbs*q.D.natAbs=q.N.natAbs*p.D.natAbs:=by rw [←Int.natAbs_mul,←Int.natAbs_mul,h3]
 have d1:p.D.natAbs ∣ q.D.natAbs:=by
  have c:Nat.Coprime p.D.natAbs p.N.natAbs:=by unfold Nat.Coprime; rw [Nat.gcd_comm]; exact p5
  exact c.dvd_of_dvd_mul_left ⟨q.N.natAbs,by rw [h4,Nat.mul_comm]⟩
 have d2:q.D.natAbs ∣ p.D.natAbs:=by
  have c:Nat.Coprime q.D.natAbs q.N.natAbs:=by unfold Nat.Coprime; rw [Nat.gcd_comm]; exact q5
  exact c.dvd_of_dvd_mul_left ⟨p.N.natAbs,by rw [←h4,Nat.mul_comm]⟩
 have e1:p.D.natAbs=q.D.natAbs:=Nat.dvd_antisymm d1 d2
 have e2:p.D=q.D:=by omega
 rw [e2] at h3
 have e3:p.N=q.N:=Int.eq_of_mul_eq_mul_right (by omega) h3
 cases p; cases q
 simp only at e2 e3
 rw [e2,e3]
end Go.Ab
namespace Go.Ab
open Go
theorem cross {A B C d N D pN pD:Int}:pN*(C*D+d*N)=(A*D+B*N)*pD↔N*(B*pD - d*pN)=(C*pN - A*pD)*D:=by
 have e1:pN*(C*D+d*N)=C*(D*pN)+d*(N*pN):=by
  simp only [Int.mul_add]; simp only [Int.mul_comm,Int.mul_left_comm]
 have e2:(A*D+B*N)*pD=A*(D*pD)+B*(N*pD):=by
  simp only [Int.add_mul]; simp only [Int.mul_comm,Int.mul_left_comm]
 have e3:N*(B*pD - d*pN)=B*(N*pD) - d*(N*pN):=by
  simp only [Int.mul_sub]; simp only [Int.mul_comm,Int.mul_left_comm]
 have e4:(C*pN - A*pD)*D=C*(D*pN) - A*(D*pD):=by
  simp only [Int.sub_mul]; simp only [Int.mul_comm,Int.mul_left_comm]
 rw [e1,e2,e3,e4]
 omega
theorem rt_whole {t:Tapi_Q} (ht:Rt t) {a:Int} (h:t.N=a*t.D):t.D=1∧t.N=a:=by
 obtain ⟨h1,_,_,_,h5⟩:=ht
 have e:t.N.natAbs=a.natAbs*t.D.natAbs:=by rw [h,Int.natAbs_mul]
 rw [e,Nat.gcd_mul_left_left] at h5
 have hD:t.D=1:=by omega
 rw [hD,Int.mul_one] at h
 exact ⟨hD,h⟩
theorem den_ne {L:Int × Int × Int × Int} {aT aF:Nat} {t:Tapi_Q} (h1:0≤L.2.2.1+L.2.2.2*-(aT:Int)) (h2:0≤L.2.2.1+L.2.2.2*(aF:Int)) (ht:Rt t) (hin:InRg aT aF t) (hp:posF L aT aF t):L.2.2.1*t.D+L.2.2.2*t.N≠0:=by
 intro h0
 obtain ⟨i1,i2⟩:=hin
 obtain ⟨p1,p2⟩:=hp
 have hD:=ht.1
 generalize L.2.2.1=C at *
 generalize L.2.2.2=d at *
 rcases Int.lt_trichotomy d 0 with hd | hd | hd
 ·have g1:=Int.mul_nonneg h2 (show 0≤t.D by omega)
  have g2:(C+d*(aF:Int))*t.D=C*t.D+d*((aF:Int)*t.D):=by rw [Int.add_mul,Int.mul_assoc]
  have g3:d*((aF:Int)*t.D - t.N)=d*((aF:Int)*t.D) - d*t.N:=Int.mul_sub _ _ _
  have g4:t.N=(aF:Int)*t.D:=by
   apply Classical.byContradiction
   intro hne
   have:=Int.mul_neg_of_neg_of_pos hd (show 0 < (aF:Int)*t.D - t.N by omega)
   omega
  obtain ⟨w1,w2⟩:=rt_whole ht g4
  have:=p2 ⟨w1,.inr w2⟩
  rw [w1,Int.mul_one] at h0
  omega
 ·subst hd
  rw [Int.zero_mul,Int.add_zero] at h0
  rcases Int.mul_eq_zero.1 h0 with h | h
  ·exact p1 ⟨h,rfl⟩
  ·omega
 ·have g1:=Int.mul_nonneg h1 (show 0≤t.D by omega)
  have g2:(C+d*-(aT:Int))*t.D=C*t.D+d*(-(aT:Int)*t.D):=by rw [Int.add_mul,Int.mul_assoc]
  have g3:d*(t.N - -(aT:Int)*t.D)=d*t.N - d*(-(aT:Int)*t.D):=Int.mul_sub _ _ _
  have g4:t.N=-(aT:Int)*t.D:=by
   apply Classical.byContradiction
   intro hne
   have:=Int.mul_pos hd (show 0 < t.N - -(aT:Int)*t.D by omega)
   omega
  obtain ⟨w1,w2⟩:=rt_whole ht g4
  have:=p2 ⟨w1,.inl w2⟩
  rw [w1,Int.mul_one] at h0
  omega
section
variable {D:NF} {E:Nat → Int} {v x:Nat} {s:SF}
theorem q_ext {p q:Tapi_Q}:((q.N==p.N) && ((q.D==p.D) && true))=decide (q=p):=by
 cases p; cases q
 simp [Tapi_Q.mk.injEq,Bool.decide_and]
 rfl
theorem back_b0 (Q:QX D E v s) (hx:x < D.card v) {p:Tapi_Q} (sc:Bool)
  (h:∀i:Int,-(D.W s.N s.R s.T:Int)≤i→i≤D.W s.N s.R s.F→(lineF D s E v x).2.2.1*1+(lineF D s E v x).2.2.2*i≠0→(qI ((lineF D s E v x).1*1+(lineF D s E v x).2.1*i) ((lineF D s E v x).2.2.1*1+(lineF D s E v x).2.2.2*i)=p↔sc=true)) :
  ∃k:Nat,k≤1000∧whileN fuel (g_law24_SensitiveBack_b0 (rowG (D.card s.N) fun x=>(D.W s.N s.R x:Int)) ((v:Int),(x:Int),s.sh) D.net (rowG D.n E) p) (0,0,-(D.W s.N s.R s.T:Int))=some (Sum.inr (if sc=true then (k:Int) else 0,(k:Int))):=by
 obtain ⟨hT,hF⟩:=Q.W60
 have hw:=whileN_ex (body:=g_law24_SensitiveBack_b0 (rowG (D.card s.N) fun x=>(D.W s.N s.R x:Int)) ((v:Int),(x:Int),s.sh) D.net (rowG D.n E) p)
  (fun st=>∃m k:Nat,k≤m∧m≤D.W s.N s.R s.T+D.W s.N s.R s.F+1∧st=(if sc=true then (k:Int) else 0,(k:Int),-(D.W s.N s.R s.T:Int)+(m:Int)))
  (fun st=>(D.W s.N s.R s.F+1 - st.2.2).toNat) (fun r=>∃k:Nat,k≤1000∧r=Sum.inr (if sc=true then (k:Int) else 0,(k:Int))) (fun st hst=>?_) (0,0,-(D.W s.N s.R s.T:Int)) ⟨0,0,by omega,by omega,by simp⟩ (by simp; omega)
 ·obtain ⟨r,h1,k,h2,rfl⟩:=hw
  exact ⟨k,h2,h1⟩
 ·obtain ⟨m,k,hk,hm,rfl⟩:=hst
  unfold g_law24_SensitiveBack_b0
  simp only
  rw [Q.rowF]
  simp only [Option.bind_some]
  obtain ⟨i,hi⟩:∃i,i=-(D.W s.N s.R s.T:Int)+(m:Int):=⟨_,rfl⟩
  rw [←hi]
  by_cases hmm:m < D.W s.N s.R s.T+D.W s.N s.R s.F+1
  ·left
   have hat := at_all Q.X.vn (by have:=Q.X.n5; omega) Q.hsN Q.hsR Q.hsF Q.hsT (Q.line hx) (line_sb Q.X.vn (by have:=Q.X.n5; omega) Q.hsN x) ⟨i,1⟩
   have r1:Rt ⟨i,1⟩:=rt_int (by omega)
   have r2:Sml ⟨i,1⟩:=by unfold Sml; simp only; omega
   have r3:InRg (D.W s.N s.R s.T) (D.W s.N s.R s.F) ⟨i,1⟩:=by unfold InRg; simp only; omega
   rw [if_pos r1,if_pos r2,if_pos r3] at hat
   have ei:IntKind.i64.wrap (i+1)=-(D.W s.N s.R s.T:Int)+((m+1:Nat):Int):=by rw [w64 (by omega)]; omega
   have ek:IntKind.i64.wrap ((k:Int)+1)=((k+1:Nat):Int):=by rw [w64 (by omega)]; omega
   rw [if_pos (by simp; omega),hat]
   simp only [Option.bind_some]
   unfold atF
   simp only
   by_cases h0:(lineF D s E v x).2.2.1*1+(lineF D s E v x).2.2.2*i=0
   ·rw [if_pos h0,if_neg (by simp),if_neg (by simp),ei]
    exact ⟨_,rfl,⟨m+1,k,by omega,by omega,rfl⟩,by simp; omega⟩
   ·have hh:=h i (by omega) (by omega) h0
    rw [if_neg h0,if_pos (by simp),q_ext,ei,ek]
    by_cases he:sc=true
    ·rw [if_pos (by simpa using hh.2 he)]
     have e1:IntKind.i64.wrap ((if sc=true then (k:Int) else 0)+1)=if sc=true then ((k+1:Nat):Int) else 0:=by rw [if_pos he,if_pos he,ek]
     rw [e1]
     exact ⟨_,rfl,⟨m+1,k+1,by omega,by omega,rfl⟩,by simp; omega⟩
    ·rw [if_neg (by simpa using fun h=>he (hh.1 h))]
     exact ⟨_,rfl,⟨m+1,k+1,by omega,by omega,by rw [if_neg he,if_neg he]⟩,by simp; omega⟩
  ·right
   rw [if_neg (by simp; omega)]
   exact ⟨_,rfl,k,by omega,rfl⟩
end
theorem back_true (p0:Tharuspexlaw24_Story) (p1:Int × Int) (h:okTharuspexlaw24_Story p0) (hp1:(Lit.int .u8 p1.1).wf=true∧(Lit.int .u8 p1.2).wf=true):g_law24_SensitiveBack p0 p1=some true:=by
 obtain ⟨hN,hC,hK,hD,_⟩:=h
 obtain ⟨D,X0,n5,c23,hnet⟩:=net_draft (drOk_of hN)
 have X:DX D:=⟨X0,n5,c23⟩
 have V:=X.vn
 obtain ⟨E,hE,hev⟩:=known_of X hK
 obtain ⟨v,x,s,hv,hx,hsN,hsR,hsF,hsT,hdr⟩:=draft_of X hD
 have hcv:=c23 v hv
 unfold g_law24_SensitiveBack
 rw [works_true]
 simp only [Option.bind_some]
 rw [if_neg (by simp),hnet]
 simp only [Option.bind_some]
 rw [hev]
 simp only [Option.bind_some]
 rw [hdr]
 simp only [Option.bind_some]
 by_cases hFT:s.F=s.T
 ·rw [if_pos (by simp [SF.sh,hFT])]
 rw [if_neg (by simp [SF.sh]; omega)]
 have Q:QX D E v s:=⟨X,hE,hv,hsN,hsR,hsF,hsT,hFT⟩
 obtain ⟨hT,hF⟩:=Q.W60
 obtain ⟨b1,b2⟩:=hp1
 have u1:=bounds_u8 b1
 have u2:=bounds_u8 b2
 obtain ⟨m,hm,em⟩:∃m:Nat,m≤11∧IntKind.i64.wrap (Int.tmod p1.2 12)=(m:Int):=⟨p1.2.toNat % 12,by omega,by rw [tmod_pos u2.1,w64 (by omega)]; omega⟩
 have em2:IntKind.i64.wrap (2+(m:Int))=((2+m:Nat):Int):=by rw [w64 (by omega)]; omega
 have em1:IntKind.i64.wrap (1+(m:Int))=((1+m:Nat):Int):=by rw [w64 (by omega)]; omega
 obtain ⟨r,hr,er⟩:=modN b1 (show 1≤2+m by omega)
 have hMX:MX=4611686018427387903:=rfl
 rw [em,em2,em1,er,if_pos (by omega),of_qI (by omega) (by omega) (by omega)]
 simp only [Option.bind_some]
 obtain ⟨hpR,hpv⟩:=qI_spec (n:=(r:Int)) (d:=((1+m:Nat):Int)) (by omega) (by omega) (by omega)
 have hval:=qI_val (n:=(r:Int)) (d:=((1+m:Nat):Int)) (by omega) (by omega) (by omega)
 have hpD:(qI (r:Int) ((1+m:Nat):Int)).D≤12:=by
  rw [hval]; simp only
  have:=Nat.div_le_self ((1+m:Nat):Int).natAbs (Nat.gcd (r:Int).natAbs ((1+m:Nat):Int).natAbs)
  omega
 have hpN0:0≤(qI (r:Int) ((1+m:Nat):Int)).N:=by
  have e1:decide ((r:Int) < 0)=false:=by simp
  have e2:decide (((1+m:Nat):Int) < 0)=false:=decide_eq_false (by omega)
  rw [hval]; simp only [e1,e2]
  exact Int.natCast_nonneg _
 generalize qI (r:Int) ((1+m:Nat):Int)=p at *
 have hpD1:=hpR.1
 have hpN1:p.N≤p.D:=by
  have h1:(r:Int)*p.D≤((1+m:Nat):Int)*p.D:=Int.mul_le_mul_of_nonneg_right (by omega) (by omega)
  rw [←hpv,Int.mul_comm _ p.D] at h1
  exact Int.le_of_mul_le_mul_right h1 (by omega)
 have hsml:Sml p:=by unfold Sml; omega
 have hthr:=thr_all V hsN hsR hsF hsT (Q.line hx) (line_sb V (by omega) hsN x) p
 rw [if_pos hpR,if_pos hsml,if_pos ⟨hpN0,hpN1⟩] at hthr
 rw [hthr]
 simp only [Option.bind_some]
 have hL:=line_sb (v:=v) (E:=E) V (by omega) hsN x
 have hrng:∀t:Int,-(D.W s.N s.R s.T:Int)≤t→t≤D.W s.N s.R s.F→0≤(lineF D s E v x).2.2.1+(lineF D s E v x).2.2.2*t:=fun t h1 h2=>by
  have:=line_range (E:=E) (v:=v) V hsN hsR hsF hsT hFT ⟨h1,h2⟩ x
  omega
 have hatt:∀t:Tapi_Q,Rt t→Sml t→InRg (D.W s.N s.R s.T) (D.W s.N s.R s.F) t→g_sensitive_At D.net (rowG D.n E) (v:Int) (x:Int) s.sh t=some (atF (lineF D s E v x) t):=fun t h1 h2 h3=>by
  have:=at_all V (by omega) hsN hsR hsF hsT (Q.line hx) hL t
  rw [if_pos h1,if_pos h2,if_pos h3] at this
  exact this
 have hmet:∀t:Tapi_Q,Rt t→Sml t→(lineF D s E v x).2.2.1*t.D+(lineF D s E v x).2.2.2*t.N≠0→(qI ((lineF D s E v x).1*t.D+(lineF D s E v x).2.1*t.N) ((lineF D s E v x).2.2.1*t.D+(lineF D s E v x).2.2.2*t.N)=p↔t.N*belowF (lineF D s E v x) p=aboveF (lineF D s E v x) p*t.D):=fun t h1 h2 h3=>by
  obtain ⟨_,_,f1,f2⟩:=at_wraps hL h1 h2
  obtain ⟨q1,q2⟩:=qI_spec f1 f2 h3
  unfold belowF aboveF
  rw [←cross]
  constructor
  ·intro e; rw [e] at q2; exact q2
  ·intro e; exact rt_uniq q1 hpR h3 q2 e
 have h1e:=hrng (-(D.W s.N s.R s.T:Int)) (by omega) (by omega)
 have h2e:=hrng (D.W s.N s.R s.F:Int) (by omega) (by omega)
 obtain ⟨L,hLd⟩:∃L,L=lineF D s E v x:=⟨_,rfl⟩
 have hnone:∀sc:Bool,(∀i:Int,-(D.W s.N s.R s.T:Int)≤i→i≤D.W s.N s.R s.F→(lineF D s E v x).2.2.1*1+(lineF D s E v x).2.2.2*i≠0→(i*belowF (lineF D s E v x) p=aboveF (lineF D s E v x) p*1↔sc=true)) →
   ∃k:Nat,k≤1000∧whileN fuel (g_law24_SensitiveBack_b0 (rowG (D.card s.N) fun x=>(D.W s.N s.R x:Int)) ((v:Int),(x:Int),s.sh) D.net (rowG D.n E) p) (0,0,-(D.W s.N s.R s.T:Int))=some (Sum.inr (if sc=true then (k:Int) else 0,(k:Int))):=fun sc hsc=>by
  refine back_b0 Q hx sc fun i i1 i2 i3=>?_
  have r1:Rt ⟨i,1⟩:=rt_int (by omega)
  have r2:Sml ⟨i,1⟩:=by unfold Sml; simp only; omega
  rw [←hsc i i1 i2 i3]
  exact hmet ⟨i,1⟩ r1 r2 i3
 have hrest:∀sc:Bool,(∀i:Int,-(D.W s.N s.R s.T:Int)≤i→i≤D.W s.N s.R s.F→(lineF D s E v x).2.2.1*1+(lineF D s E v x).2.2.2*i≠0→(i*belowF (lineF D s E v x) p=aboveF (lineF D s E v x) p*1↔sc=true))→(sc=true→0 < (D.W s.N s.R s.T:Int)+(D.W s.N s.R s.F:Int)) →
   ((lkI D.net.Nodes s.sh.Node).bind fun a35=>(lkI a35.Rows s.sh.Row).bind fun a37=>(lkI a37 s.sh.To).bind fun a39=>(whileN fuel (g_law24_SensitiveBack_b0 a37 ((v:Int),(x:Int),s.sh) D.net (rowG D.n E) p) (0,0,IntKind.i64.wrap (0 - a39))).bind fun x56=>match x56 with
   | .inl x57=>some false
   | .inr x58=>(
    if (x58.1==0)=true then some true
    else if (x58.1==x58.2)=true then
     if (decide (x58.1 > 1))=true then some true
     else if (x58.1==1)=true then
      if (x58.2==1)=true then (lkI a37 s.sh.From).bind fun a69=>some (decide ((IntKind.i64.wrap (a39+a69)) > 0))
      else some false
     else some false
    else if (x58.1==1)=true then
     if (x58.2==1)=true then (lkI a37 s.sh.From).bind fun a75=>some (decide ((IntKind.i64.wrap (a39+a75)) > 0))
     else some false
    else some false))=some true:=fun sc hsc hpos=>by
  obtain ⟨k,hk,hloop⟩:=hnone sc hsc
  rw [show s.sh.Node=(s.N:Int) from rfl,V.node hsN]
  simp only [Option.bind_some]
  rw [Q.row]
  simp only [Option.bind_some]
  rw [Q.rowT]
  simp only [Option.bind_some]
  rw [show IntKind.i64.wrap (0 - (D.W s.N s.R s.T:Int))=-(D.W s.N s.R s.T:Int) by rw [w64 (by omega)]; omega,hloop]
  simp only [Option.bind_some]
  by_cases h0:sc=true
  ·rw [if_pos h0]
   by_cases k0:k=0
   ·subst k0; rw [if_pos (by simp)]
   ·rw [if_neg (by simpa using k0),if_pos (by simp)]
    by_cases k1:k=1
    ·subst k1
     rw [if_neg (by simp),if_pos (by simp),if_pos (by simp),Q.rowF]
     simp only [Option.bind_some]
     rw [w64 (by omega),decide_eq_true (hpos h0)]
    ·rw [if_pos (by simp; omega)]
  ·rw [if_neg h0,if_pos (by simp)]
 unfold thrF
 by_cases hb0:belowF (lineF D s E v x) p=0
 ·rw [if_pos hb0]
  by_cases hcond:aboveF (lineF D s E v x) p≠0∨-(D.W s.N s.R s.T:Int)≠(D.W s.N s.R s.F:Int)∨(lineF D s E v x).2.2.1=0
  ·rw [if_pos hcond,if_neg (by simp),if_neg (by simp)]
   by_cases ha0:aboveF (lineF D s E v x) p=0
   ·by_cases hlh:-(D.W s.N s.R s.T:Int)=(D.W s.N s.R s.F:Int)
    ·have hc0:(lineF D s E v x).2.2.1=0:=by
      rcases hcond with h | h | h
      ·exact absurd ha0 h
      ·exact absurd hlh h
      ·exact h
     exact hrest false (fun i i1 i2 i3=>by
      have:i=0:=by omega
      subst this
      rw [hc0] at i3
      simp at i3) (fun h=>by cases h)
    ·exact hrest true (fun i i1 i2 i3=>by rw [hb0,ha0]; simp) (fun _=>by omega)
   ·exact hrest false (fun i i1 i2 i3=>by
     rw [hb0,Int.mul_zero,Int.mul_one]
     exact ⟨fun h=>absurd h.symm ha0,fun h=>by cases h⟩) (fun h=>by cases h)
  ·have ha0:aboveF (lineF D s E v x) p=0:=Classical.byContradiction fun h=>hcond (.inl h)
   have hlh:-(D.W s.N s.R s.T:Int)=(D.W s.N s.R s.F:Int):=Classical.byContradiction fun h=>hcond (.inr (.inl h))
   have hc0:(lineF D s E v x).2.2.1≠0:=fun h=>hcond (.inr (.inr h))
   have r1:Rt ⟨0,1⟩:=rt_int (by omega)
   have r2:Sml ⟨0,1⟩:=by unfold Sml; simp only; omega
   have r3:InRg (D.W s.N s.R s.T) (D.W s.N s.R s.F) ⟨0,1⟩:=by unfold InRg; simp only; omega
   have hne:(lineF D s E v x).2.2.1*1+(lineF D s E v x).2.2.2*0≠0:=by rw [Int.mul_one,Int.mul_zero,Int.add_zero]; exact hc0
   rw [if_neg hcond,if_pos (by simp),right_eq]
   simp only [Option.bind_some]
   rw [decide_eq_true r1,if_neg (by simp),if_neg (by simp),if_neg (by simp),if_neg (by simp),hatt _ r1 r2 r3]
   simp only [Option.bind_some]
   unfold atF
   simp only
   rw [if_neg hne,if_pos (by simp),q_ext]
   congr 1
   exact decide_eq_true ((hmet ⟨0,1⟩ r1 r2 hne).2 (by simp only; rw [ha0,Int.zero_mul,Int.zero_mul]))
 ·rw [if_neg hb0]
  have fa:(aboveF (lineF D s E v x) p).natAbs≤MX∧(belowF (lineF D s E v x) p).natAbs≤MX:=by
   have c1:=mul_sb hL.1 (t:=p.D) (by omega)
   have c2:=mul_sb hL.2.1 (t:=p.D) (by omega)
   have c3:=mul_sb hL.2.2.1 (t:=p.N) (by omega)
   have c4:=mul_sb hL.2.2.2 (t:=p.N) (by omega)
   unfold aboveF belowF
   omega
  obtain ⟨t1,t2⟩:=qI_spec fa.1 fa.2 hb0
  by_cases hcond:InRg (D.W s.N s.R s.T) (D.W s.N s.R s.F) (qI (aboveF (lineF D s E v x) p) (belowF (lineF D s E v x) p))∧posF (lineF D s E v x) (D.W s.N s.R s.T) (D.W s.N s.R s.F) (qI (aboveF (lineF D s E v x) p) (belowF (lineF D s E v x) p))
  ·rw [if_pos hcond,if_pos (by simp),right_eq]
   simp only [Option.bind_some]
   rw [decide_eq_true t1,if_neg (by simp)]
   generalize qI (aboveF (lineF D s E v x) p) (belowF (lineF D s E v x) p)=t at *
   by_cases g1:t.N > 1000
   ·rw [if_pos (by simpa using g1)]
   rw [if_neg (by simpa using g1)]
   by_cases g2:t.N < -1000
   ·rw [if_pos (by simpa using g2)]
   rw [if_neg (by simpa using g2)]
   by_cases g3:t.D > 1000
   ·rw [if_pos (by simpa using g3)]
   have r2:Sml t:=by unfold Sml; omega
   have hne:=den_ne h1e h2e t1 hcond.1 hcond.2
   rw [if_neg (by simpa using g3),hatt t t1 r2 hcond.1]
   simp only [Option.bind_some]
   unfold atF
   rw [if_neg hne,if_pos (by simp),q_ext]
   congr 1
   exact decide_eq_true ((hmet t t1 r2 hne).2 t2)
  ·rw [if_neg hcond,if_neg (by simp),if_neg (by simp)]
   refine hrest false (fun i i1 i2 i3=>⟨fun he=>?_,fun h=>by cases h⟩) (fun h=>by cases h)
   exfalso
   apply hcond
   have r1:Rt ⟨i,1⟩:=rt_int (by omega)
   have e:(⟨i,1⟩:Tapi_Q)=qI (aboveF (lineF D s E v x) p) (belowF (lineF D s E v x) p):=rt_uniq r1 t1 hb0 he t2
   rw [←e]
   have h3:=hrng i i1 i2
   refine ⟨by unfold InRg; simp only; omega,fun h=>?_,fun _=>?_⟩
   ·rw [h.1,h.2] at i3; simp at i3
   ·simp only; omega
end Go.Ab
