/- Functions. No conditions. -/
import Derived.Test.YtgogkahhifkocaaDoorW15
import Derived.Test.YtgogkahhifkocaaDoorEng7
import Derived.Test.YtgogkahhifkocaaDoorW11
import Derived.KernelRfl
set_option maxRecDepth 100000
set_option maxHeartbeats 400000
set_option linter.all false
namespace Go.Ab
open Go
theorem Qsn {n:Nat} {l:List Int} (hl:l.length<=1000000):(Qaw n l/\Qai l (n:Int)=some true)\/(¬ Qaw n l/\Qai l (n:Int)=some false):=by
 have good:∀k,k < l.length->((0<=(l[k]?).getD 0/\(l[k]?).getD 0 < n/\(0 < k->(l[k - 1]?).getD 0 < (l[k]?).getD 0))↔(0<=(l[k]?).getD 0/\Qi9 n l k)):=fun k hk=>by
  unfold Qi9 Qjy
  by_cases c:k=0
  ·rw [aH c]; constructor
   ·rintro ⟨a,b,_⟩; exact ⟨a,by omega,b⟩
   rintro ⟨a,_,b⟩; exact ⟨a,b,fun h=>by omega⟩
  rw [aI c]; constructor
  ·rintro ⟨a,b,d⟩; exact ⟨a,d (by omega),b⟩
  rintro ⟨a,d,b⟩; exact ⟨a,b,fun _=>d⟩
 have h:=Yo (n:=l.length) (by omega) (fun k=>0<=(l[k]?).getD 0/\(l[k]?).getD 0 < n/\(0 < k->(l[k - 1]?).getD 0 < (l[k]?).getD 0)) (fun i (t:Unit)=>i) (body:=Jt l (n:Int)) (fun _=>()) (.inr ()) (.inl ())
  (fun k hk hI hg=>by
   have ek:lkI l (k:Int)=some ((l[k]?).getD 0):=by rw [Qm hk,aG hk]; rfl
   unfold Jt
   rw [aH (dlt hk),ek,aC,aI (by simp; exact hg.1),aI (by simp; exact hg.2.1)]
   by_cases c:0 < k
   ·have ek2:lkI l (zw ((k:Int) - 1))=some ((l[k - 1]?).getD 0):=by
     rw [w64 (by omega),show ((k:Int) - 1)=((k - 1:Nat):Int) by omega,Qm (by omega),aG (by omega)]; rfl
    rw [aH (by simp; omega),ek2,aC,aI (by simp; exact hg.2.2 c)]
   rw [aI (by simp; omega)])
  (fun k hk hI hg=>by
   have ek:lkI l (k:Int)=some ((l[k]?).getD 0):=by rw [Qm hk,aG hk]; rfl
   unfold Jt
   rw [aH (dlt hk),ek,aC]
   by_cases c1:(l[k]?).getD 0 < 0
   ·rw [aH (by simpa using c1)]
   rw [aI (by simpa using c1)]
   by_cases c2:(l[k]?).getD 0>=(n:Int)
   ·rw [aH (by simpa using c2)]
   rw [aI (by simpa using c2)]
   by_cases c:0 < k
   ·have ek2:lkI l (zw ((k:Int) - 1))=some ((l[k - 1]?).getD 0):=by
     rw [w64 (by omega),show ((k:Int) - 1)=((k - 1:Nat):Int) by omega,Qm (by omega),aG (by omega)]; rfl
    rw [aH (by simp; omega),ek2,aC,aH (by
     have:¬ (l[k - 1]?).getD 0 < (l[k]?).getD 0:=fun h=>hg ⟨by omega,by omega,fun _=>h⟩
     simp; omega)]
   exact absurd ⟨by omega,by omega,fun h=>absurd h c⟩ hg)
  (fun hI=>by unfold Jt; rw [aI (nlt _)])
 have hiff:(∀k,k < l.length->0<=(l[k]?).getD 0/\(l[k]?).getD 0 < n/\(0 < k->(l[k - 1]?).getD 0 < (l[k]?).getD 0))↔Qaw n l:=by
  constructor
  ·intro h; exact Qt8 fun k hk=>((good k hk).1 (h k hk)).2
  intro h k hk
  exact (good k hk).2 ⟨(Qhm (Qng h) k hk).1,Qng h k hk⟩
 rw [hiff] at h
 rw [show ((0:Nat):Int)=0 from rfl] at h
 unfold Qai
 rcases h with ⟨h1,h2⟩ | ⟨h1,h2⟩
 ·exact .inl ⟨h1,by rw [h2]; rfl⟩
 exact .inr ⟨h1,by rw [h2]; rfl⟩
theorem Q9k {n:Nat} {g:Int} {F:Nat -> Ad} (hn:n<=8) (hb:NB n F) :
  ((∀v,v < n->Qaf (F v)/\Qaw n (F v).Parents)/\Qb fuel (Yy ⟨g,rowG n F⟩) ((1:Int),(0:Int))=some (Sum.inr (prodTo n (cardN F):Int))) \/
  ((¬ ∀v,v < n->Qaf (F v)/\Qaw n (F v).Parents)/\Qb fuel (Yy ⟨g,rowG n F⟩) ((1:Int),(0:Int))=some (Sum.inl ())):=by
 have hlen:(rowG n F).length=n:=Qo
 have h:=Yo (n:=n) (by omega) (fun v=>Qaf (F v)/\Qaw n (F v).Parents) (fun i (t:Int)=>(t,i)) (body:=Yy ⟨g,rowG n F⟩)
  (fun k=>(prodTo k (cardN F):Int)) (Sum.inr (prodTo n (cardN F):Int)) (Sum.inl ())
  (fun k hk hI hg=>by
   have b1:prodTo k (cardN F)<=4^k:=Qam fun j hj=>(Qa0 (hI j hj).1).2
   have b2:(4:Nat)^k<=4^8:=aT (by omega) (by omega)
   have b3:prodTo k (cardN F)*cardN F k<=65536*4:=Nat.mul_le_mul (by omega) (Qa0 hg.1).2
   have hc:=Qf1 hg.1
   have e1:(prodTo k (cardN F):Int)*(F k).Card=((prodTo (k+1) (cardN F):Nat):Int):=by rw [<-hc]; simp [prodTo]
   unfold Yy
   dsimp only
   rw [hlen,aH (dlt hk),Qt hk,aC,aI (by simp; exact hg.1.1),aI (by simp; exact hg.1.2)]
   rcases Qsn (n:=n) (hb.par k hk) with ⟨_,e⟩ | ⟨no,_⟩
   ·rw [e,aC,aI (by decide),e1,w64 (n:=((prodTo (k+1) (cardN F):Nat):Int)) (by simp only [prodTo]; omega)]
   exact absurd hg.2 no)
  (fun k hk hI hg=>by
   unfold Yy
   dsimp only
   rw [hlen,aH (dlt hk),Qt hk,aC]
   by_cases c:(F k).Card < 1
   ·rw [aH (by simpa using c)]
   rw [aI (by simpa using c)]
   by_cases c2:(F k).Card > 4
   ·rw [aH (by simpa using c2)]
   rw [aI (by simpa using c2)]
   rcases Qsn (n:=n) (hb.par k hk) with ⟨hp,_⟩ | ⟨_,e⟩
   ·exact absurd ⟨⟨by omega,by omega⟩,hp⟩ hg
   rw [e,aC,aH (by decide)])
  (fun hI=>by
   unfold Yy
   dsimp only
   rw [hlen,aI (nlt n)])
 exact h
theorem Q4s {n:Nat} {g:Int} {F:Nat -> Ad} (hn:n<=8) (hP:∀v,v < n->Qaw n (F v).Parents):K2 ⟨g,rowG n F⟩=some (Qn n (setF F)):=by
 have hlen:(rowG n F).length=n:=Qo
 have h:=Zs (n:=n) (k0:=0) (by omega) (by omega) (fun i (t:List Int)=>(i,t)) (body:=Jk ⟨g,rowG n F⟩) (fun k=>Qn k (setF F)) (Qn n (setF F))
  (fun v _ hv=>by
   obtain ⟨p1,p2,p3⟩:=Jn (hP v hv)
   have hl:=Qeq p2 p3
   have hi:=Zs (n:=(parN F v).length) (k0:=0) (by omega) (by omega) (fun i (t:Int)=>(t,i)) (body:=Jj ⟨g,rowG n F⟩ ((v:Int),Qn v (setF F))) (fun k=>(bitsOf ((parN F v).take k) 0:Int)) ((setF F v:Nat):Int)
    (fun k _ hk=>by
     have hp:=p3 _ (bJ hk)
     have hbl:bitsOf ((parN F v).take k) 0 < 18446744073709551616:=Qap _ _ (by omega) fun p hp=>by have:=p3 p (bH hp); omega
     unfold Jj
     dsimp only
     rw [Qt hv,aC,p1,Qba,aH (dlt hk),Q57 hk,aC,Qek (n:=(parN F v)[k]) (by omega),aH (Qok _),Qpo hbl (by omega),Xf hk,Qa6])
    (by
     unfold Jj
     dsimp only
     rw [Qt hv,aC,p1,Qba,aI (nlt _),cM]; rfl)
   rw [show ((0:Nat):Int)=0 from rfl,List.take_zero] at hi
   rw [show ((bitsOf [] 0:Nat):Int)=0 from rfl] at hi
   unfold Jk
   dsimp only
   rw [hlen,aH (dlt hv),hi,aC,aH (by rw [aO,Xa]; simp; omega)]
   congr 3
   exact Vo (F:=fun j=>((setF F j:Nat):Int)))
  (by
   unfold Jk
   dsimp only
   rw [hlen,aI (nlt n)])
 rw [show ((0:Nat):Int)=0 from rfl] at h
 rw [show Qn 0 (setF F)=[] from rfl] at h
 unfold K2
 rw [h]; rfl
theorem Q7c {n:Nat} {g:Int} {F:Nat -> Ad} {r:List Int} (hg:0<=g) (hg60:g<=60) (hr:r.length<=4) :
  ((∀w∈r,0<=w/\w<=g)/\Qb fuel (Yw r ⟨g,rowG n F⟩) (0,0)=some (.inr r.sum))\/(¬ (∀w∈r,0<=w/\w<=g)/\Qb fuel (Yw r ⟨g,rowG n F⟩) (0,0)=some (.inl ())):=by
 have pre:∀k,k<=r.length->(∀j,j < k->0<=(r[j]?).getD 0/\(r[j]?).getD 0<=g)->0<=(r.take k).sum/\(r.take k).sum<=60*k:=by
  intro k
  induction k with
  | zero=>intro _ _; simp
  | succ k ih =>
   intro hk h
   have h1:=ih (by omega) fun j hj=>h j (by omega)
   have h2:=h k (by omega)
   rw [aG (by omega)] at h2
   rw [Qft (by omega)]
   simp at h2; omega
 have h:=Yo (n:=r.length) (by omega) (fun k=>0<=(r[k]?).getD 0/\(r[k]?).getD 0<=g) (fun i (t:Int)=>(t,i)) (body:=Yw r ⟨g,rowG n F⟩)
  (fun k=>(r.take k).sum) (.inr r.sum) (.inl ())
  (fun k hk hI hgd=>by
   have hp:=pre k (by omega) hI
   have ek:lkI r (k:Int)=some r[k]:=Qm hk
   rw [aG hk] at hgd
   simp only [cP] at hgd
   unfold Yw
   dsimp only
   rw [aH (dlt hk),ek,aC,aI (by simp; omega),aI (by simp; omega),w64 (n:=(r.take k).sum+r[k]) (by omega),Qft hk])
  (fun k hk hI hgd=>by
   have ek:lkI r (k:Int)=some r[k]:=Qm hk
   rw [aG hk] at hgd
   simp only [cP] at hgd
   unfold Yw
   dsimp only
   rw [aH (dlt hk),ek,aC]
   by_cases c:r[k] < 0
   ·rw [aH (by simpa using c)]
   rw [aI (by simpa using c),aH (by simp; omega)])
  (fun hI=>by
   unfold Yw
   dsimp only
   rw [aI (nlt _),cM])
 have hiff:(∀j,j < r.length->0<=(r[j]?).getD 0/\(r[j]?).getD 0<=g)↔(∀w∈r,0<=w/\w<=g):=by
  constructor
  ·intro h w hw
   obtain ⟨k,hk,rfl⟩:=bA.1 hw
   have:=h k hk
   rw [aG hk] at this
   exact this
  intro h j hj
  rw [aG hj]
  exact h _ (bJ hj)
 rw [hiff] at h
 simp only [List.take_zero,List.sum_nil] at h
 exact h
theorem Qzi {g c:Int} {r:List Int}:Qhv g c r↔(r.length:Int)=c/\(∀w∈r,0<=w/\w<=g)/\r.sum=g:=by
 unfold Qhv
 constructor
 ·rintro ⟨a,b,d⟩
  refine ⟨a,fun w hw=>⟨b w hw,?_⟩,d⟩
  obtain ⟨k,hk,rfl⟩:=bA.1 hw
  have h1:=(Qqs (k:=k+1) b).1
  have h2:=(Qqs (k:=k) b).2
  rw [Qft hk] at h1; omega
 rintro ⟨a,b,d⟩; exact ⟨a,fun w hw=>(b w hw).1,d⟩
theorem Q44 {n:Nat} {g:Int} {F:Nat -> Ad} (hn:n<=8) (hg:0<=g) (hg60:g<=60) (hb:NB n F) (hC:∀v,v < n->Qaf (F v)) (hP:∀v,v < n->Qaw n (F v).Parents) :
  ((∀v,v < n->Qiz g (cardN F) (F v) (parN F v))/\Qb fuel (Y1 ⟨g,rowG n F⟩) 0=some (.inr ()))\/((¬ ∀v,v < n->Qiz g (cardN F) (F v) (parN F v))/\Qb fuel (Y1 ⟨g,rowG n F⟩) 0=some (.inl ())):=by
 have hlen:(rowG n F).length=n:=Qo
 have hpc:∀v,v < n->Q6 ⟨g,rowG n F⟩ (v:Int)=some ((parN F v).map fun p=>(cardN F p:Int)):=fun v hv=>by
  obtain ⟨p1,p2,p3⟩:=Jn (hP v hv)
  unfold Q6
  rw [Qus (C:=cardN F) (fun v hv=>(Qf1 (hC v hv)).symm) hn,aC,Qt hv,aC,p1,show nI (parN F v)=(parN F v).map fun (p:Nat)=>(p:Int) from rfl,Qvs p3 (by have:=Qeq p2 p3; omega)]
  rfl
 have hrow:∀v (hv:v < n) k (hk:k < (F v).Rows.length),Yx (F v) ⟨g,rowG n F⟩ (k:Int)=some (if (((F v).Rows[k].length:Int)=(F v).Card/\(∀w∈(F v).Rows[k],0<=w/\w<=g)/\(F v).Rows[k].sum=g) then .next (zw ((k:Int)+1)) else .done (.inl ())):=fun v hv k hk=>by
  have ek:lkI (F v).Rows (k:Int)=some (F v).Rows[k]:=Qm hk
  unfold Yx
  rw [aH (dlt hk),ek,aC]
  by_cases c:((F v).Rows[k].length:Int)=(F v).Card
  ·rw [aI (by simp; omega)]
   have hc:=(hC v hv).2
   rcases Q7c (n:=n) (g:=g) (F:=F) (r:=(F v).Rows[k]) hg hg60 (by omega) with ⟨h,e⟩ | ⟨h,e⟩
   ·rw [e,aC]
    dsimp only
    by_cases c2:(F v).Rows[k].sum=g
    ·rw [aI (by simp; exact c2),aH ⟨c,h,c2⟩]
    rw [aH (by simpa using c2),aI fun hh=>c2 hh.2.2]
   rw [e,aC,aI fun hh=>h hh.2.1]
  rw [aH (by simpa using c),aI fun hh=>c hh.1]
 have hrows:∀v (hv:v < n),((∀k,k < (F v).Rows.length->∀r,(F v).Rows[k]?=some r->Qhv g (F v).Card r)/\Qb fuel (Yx (F v) ⟨g,rowG n F⟩) 0=some (.inr ()))\/((¬ ∀k,k < (F v).Rows.length->∀r,(F v).Rows[k]?=some r->Qhv g (F v).Card r)/\Qb fuel (Yx (F v) ⟨g,rowG n F⟩) 0=some (.inl ())):=fun v hv=>by
  have h:=Yo (n:=(F v).Rows.length) (by have:=hb.rows v hv; omega) (fun k=>∀r,(F v).Rows[k]?=some r->Qhv g (F v).Card r) (fun i (t:Unit)=>i) (body:=Yx (F v) ⟨g,rowG n F⟩) (fun _=>()) (.inr ()) (.inl ())
   (fun k hk hI hgd=>by
    rw [hrow v hv k hk,aH (Qzi.1 (hgd _ (aG hk)))])
   (fun k hk hI hgd=>by
    rw [hrow v hv k hk,aI fun hh=>hgd fun r hr=>by
     rw [aG hk] at hr; cases hr
     exact Qzi.2 hh])
   (fun hI=>by unfold Yx; rw [aI (nlt _)])
  exact h
 have h:=Yo (n:=n) (by omega) (fun v=>Qiz g (cardN F) (F v) (parN F v)) (fun i (t:Unit)=>i) (body:=Y1 ⟨g,rowG n F⟩) (fun _=>()) (.inr ()) (.inl ())
  (fun v hv hI hgd=>by
   obtain ⟨p1,p2,p3⟩:=Jn (hP v hv)
   unfold Y1
   dsimp only
   rw [hlen,aH (dlt hv),Qt hv,aC,hpc v hv,aC,Qn2 (fun p hp=>(Qa0 (hC p (p3 p hp))).2) (by have:=Qeq p2 p3; omega),aC,aI (by have:=hgd.1; simp; omega)]
   rcases hrows v hv with ⟨_,e⟩ | ⟨no,_⟩
   ·rw [e,aC]
   exact absurd (fun k hk r hr=>hgd.2 r (aF hr)) no)
  (fun v hv hI hgd=>by
   obtain ⟨p1,p2,p3⟩:=Jn (hP v hv)
   unfold Y1
   dsimp only
   rw [hlen,aH (dlt hv),Qt hv,aC,hpc v hv,aC,Qn2 (fun p hp=>(Qa0 (hC p (p3 p hp))).2) (by have:=Qeq p2 p3; omega),aC]
   by_cases c:(F v).Rows.length=lprod (cardN F) (parN F v)
   ·rw [aI (by simp; omega)]
    rcases hrows v hv with ⟨h,_⟩ | ⟨_,e⟩
    ·exact absurd ⟨c,fun r hr=>by
      obtain ⟨k,hk,rfl⟩:=bA.1 hr
      exact h k hk _ (aG hk)⟩ hgd
    rw [e,aC]
   rw [aH (by simp; omega)])
  (fun hI=>by unfold Y1; dsimp only; rw [hlen,aI (nlt n)])
 exact h
theorem Qrh {n:Nat} {g:Int} {F:Nat -> Ad} (hb:NB n F):(Qqi n g F/\X7 ⟨g,rowG n F⟩=some true)\/(¬ Qqi n g F/\X7 ⟨g,rowG n F⟩=some false):=by
 have hlen:(rowG n F).length=n:=Qo
 unfold X7
 dsimp only
 rw [hlen]
 by_cases c1:g < 1
 ·rw [aH (by simpa using c1)]; exact .inr ⟨fun h=>by have:=h.g1; omega,rfl⟩
 rw [aI (by simpa using c1)]
 by_cases c2:g > 60
 ·rw [aH (by simpa using c2)]; exact .inr ⟨fun h=>by have:=h.g60; omega,rfl⟩
 rw [aI (by simpa using c2)]
 by_cases c3:n < 1
 ·rw [aH (by simp; omega)]; exact .inr ⟨fun h=>by have:=h.n1; omega,rfl⟩
 rw [aI (by simp; omega)]
 by_cases c4:n > 8
 ·rw [aH (by simp; omega)]; exact .inr ⟨fun h=>by have:=h.n8; omega,rfl⟩
 rw [aI (by simp; omega)]
 rcases Q9k (n:=n) (g:=g) (by omega) hb with ⟨hC,e⟩ | ⟨hC,e⟩
 rotate_left
 ·rw [e,aC]; exact .inr ⟨fun h=>hC fun v hv=>⟨h.card v hv,(h.node v hv).1.1⟩,rfl⟩
 rw [e,aC]
 dsimp only
 by_cases c5:prodTo n (cardN F) > 1024
 ·rw [aH (by simp; omega)]; exact .inr ⟨fun h=>by have:=h.worlds; omega,rfl⟩
 rw [aI (by simp; omega),Q4s (by omega) fun v hv=>(hC v hv).2,aC]
 rw [show (Qn n (setF F))=(Qn n fun v=>bitsOf (parN F v) 0) from rfl]
 rcases Qyg (n:=n) (q:=parN F) (by omega) (fun v hv=>(Jn (hC v hv).2).2.2) with ⟨hR,e⟩ | ⟨hR,e⟩
 ·rw [e,aC,aI (by decide)]
  rcases Q44 (n:=n) (g:=g) (F:=F) (by omega) (by omega) (by omega) hb (fun v hv=>(hC v hv).1) (fun v hv=>(hC v hv).2) with ⟨hN,e⟩ | ⟨hN,e⟩
  ·left
   refine ⟨⟨by omega,by omega,by omega,by omega,fun v hv=>(hC v hv).1,by omega,fun v hv=>⟨⟨(hC v hv).2,fun hm=>?_⟩,hN v hv⟩,hR⟩,by rw [e]; rfl⟩
   obtain ⟨p1,_,_⟩:=Jn (hC v hv).2
   obtain ⟨rk,hrk⟩:=hR
   rw [p1] at hm
   unfold nI at hm
   obtain ⟨p,hp,e⟩:=cD.1 hm
   have:p=v:=by omega
   subst this
   have:=hrk p hv p hp; omega
  right
  exact ⟨fun h=>hN fun v hv=>(h.node v hv).2,by rw [e]; rfl⟩
 rw [e,aC,aH (by decide)]
 exact .inr ⟨fun h=>hR h.rank,rfl⟩
end Go.Ab
namespace Go.Ab
open Go
structure Vq (m:Nat) (x:Ad):Prop where
 par:x.Parents.length<=m
 rows:x.Rows.length<=m
 row:∀r∈x.Rows,r.length<=m
theorem Qgr {m:Nat} {x:Ad} (hm:m<=1000000) (h:Vq m x):Qb fuel (X5 x) (0,([]:List (List Int)))=some x.Rows:=by
 have h1:=h.rows
 have hr:=Zs (n:=x.Rows.length) (k0:=0) (by omega) (by omega) (fun i (t:List (List Int))=>(i,t)) (body:=X5 x) (fun k=>x.Rows.take k) x.Rows
  (fun k _ hk=>by
   have h2:=h.row _ (bJ hk)
   unfold X5
   dsimp only
   rw [aH (dlt hk),Qm hk,aC,aH (by omega),aH (by rw [aO,cQ]; simp; omega),Xf hk])
  (by unfold X5; dsimp only; rw [aI (nlt _),cM])
 exact hr
theorem Q6s {x:Ad}:Qgm x=X5 x:=rfl
theorem Q6y {x:Ad}:Qg2 x=X5 x:=rfl
theorem Qzt {m:Nat} {g:Int} {l:List Ad} {t:Nat} (hm:m<=1000000) (hl:l.length<=8) (h:∀x∈l,Vq m x) (ht:t < l.length) :
  Qb fuel (Qcc (fun s=>decide (s.1=(t:Int))) (Y7 ⟨g,l⟩)) (0,([]:List Ad))=some (.inl ((t:Int),l.take t)):=by
 have step:∀k,k < t->Y7 ⟨g,l⟩ ((k:Int),l.take k)=some (.next (((k+1:Nat):Int),l.take (k+1))):=fun k hk=>by
  have hkl:k < l.length:=by omega
  have hx:=h _ (bJ hkl)
  have h3:=hx.par
  unfold Y7
  dsimp only
  rw [aH (dlt hkl),Qm hkl,aC,aH (by omega),Qgr hm hx,aC,aH (by rw [aO,cQ]; simp; omega),Xf hkl,Qdi (by omega)]
 have key:∀(j N k:Nat),k+j=t->j < N->Qb N (Qcc (fun s=>decide (s.1=(t:Int))) (Y7 ⟨g,l⟩)) ((k:Int),l.take k)=some (.inl ((t:Int),l.take t)):=by
  intro j
  induction j with
  | zero =>
   intro N k e hN
   obtain ⟨N,rfl⟩:∃M,N=M+1:=⟨N - 1,by omega⟩
   have:k=t:=by omega
   subst this
   simp only [Qb,Qcc,decide_true,eJ]
  | succ j ih =>
   intro N k e hN
   obtain ⟨N,rfl⟩:∃M,N=M+1:=⟨N - 1,by omega⟩
   have hne:¬ ((k:Int)=(t:Int)):=by omega
   have hs:Qcc (fun s=>decide (s.1=(t:Int))) (Y7 ⟨g,l⟩) ((k:Int),l.take k)=some (.next (((k+1:Nat):Int),l.take (k+1))):=by
    unfold Qcc
    rw [aI (by simpa using hne),step k (by omega)]; rfl
   rw [Qb,hs]
   exact ih N (k+1) (by omega) (by omega)
 exact key t fuel 0 (by omega) (by show t < 1152921504606846976; omega)
theorem Q3m {m:Nat} {g:Int} {l:List Ad} {t:Nat} (hm:m<=1000000) (hl:l.length<=8) (h:∀x∈l,Vq m x) (ht:t < l.length) :
  Qb fuel (Jb ⟨g,l⟩ ((t:Int),l.take t)) (zw ((t:Int)+1),(l.take t++[(default:Ad)]))=some (l.take t++[(default:Ad)]++l.drop (t+1)):=by
 have hr:=Zs (n:=l.length) (k0:=t+1) (by omega) (by omega) (fun i (s:List Ad)=>(i,s)) (body:=Jb ⟨g,l⟩ ((t:Int),l.take t)) (fun k=>l.take t++[(default:Ad)]++(l.drop (t+1)).take (k - (t+1))) (l.take t++[(default:Ad)]++l.drop (t+1))
  (fun k hk0 hk=>by
   have hx:=h _ (bJ hk)
   have h3:=hx.par
   have htl:(l.take t).length=t:=by rw [cQ]; omega
   have hi:t < (l.take t++[(default:Ad)]++(l.drop (t+1)).take (k - (t+1))).length:=by rw [aO,aO,htl]; simp only [dE,List.length_nil]; omega
   unfold Jb
   dsimp only
   rw [aH (dlt hk),Qm hk,aC,aH (by omega),Q6y,Qgr hm hx,aC,htl,Qm hi,aC,aH (by simp; omega)]
   congr 3
   rw [dI,show k+1 - (t+1)=(k - (t+1))+1 by omega,Xf (by rw [cR]; omega)]
   congr 2
   rw [List.getElem_drop]
   simp only [show t+1+(k - (t+1))=k by omega])
  (by
   unfold Jb
   dsimp only
   rw [aI (nlt _)]
   congr 3
   rw [List.take_of_length_le (by rw [cR]; omega)])
 rw [Qdi (by omega)]
 simp only [Nat.sub_self,List.take_zero,cT] at hr
 exact hr
def Out (m k:Nat) (o:Option Qa):Prop:=∃g l,o=some ⟨g,l⟩/\l.length<=k/\∀x∈l,Vq m x
theorem Qpk {m k t:Nat} {g:Int} {l:List Ad} {x:Ad} (hl:l.length<=k) (h:∀y∈l,Vq m y) (hx:Vq m x):Out m k (some ⟨g,l.set t x⟩):=by
 refine ⟨g,_,rfl,by rw [bX]; exact hl,fun y hy=>?_⟩
 rcases dL hy with h1 | h1
 ·exact h y h1
 rw [h1]; exact hx
theorem Qui {m k t:Nat} {w0 w1 w2 w3 w4 w5 w6 row:Int} {q:Nat} {l:List Ad} {c:Int} {P:List Int} {R:List (List Int)} (hm:m<=1000000) (hl:l.length<=k) (hk:k<=8) (h:∀y∈l,Vq m y) (ht:t < l.length) (hP:P.length<=m) (hR:R.length<=m) (hr:∀r∈R,r.length<=m)
  (hrow:row=-1\/(0<=row/\row < R.length)):Out (m+1) (k+1) (Jh q row w0 w1 w2 w3 w4 w5 l (t:Int) c P R):=by
 have h':∀y∈l,Vq (m+1) y:=fun y hy=>⟨Nat.le_succ_of_le (h y hy).par,Nat.le_succ_of_le (h y hy).rows,fun r hr=>Nat.le_succ_of_le ((h y hy).row r hr)⟩
 have hlk:lkI l (t:Int)=some l[t]:=Qm ht
 have mk:∀{g c:Int} {P:List Int} {R:List (List Int)},P.length<=m+1->R.length<=m+1->(∀r∈R,r.length<=m+1)->Out (m+1) (k+1) (Qs g l (t:Int) c P R):=fun a b d=>by
  unfold Qs
  rw [hlk,aC]
  exact Qpk (Nat.le_succ_of_le hl) h' ⟨a,b,d⟩
 have same:∀{g c:Int},Out (m+1) (k+1) (Qs g l (t:Int) c P R):=mk (by omega) (by omega) fun r h=>Nat.le_succ_of_le (hr r h)
 have rowAt:0<=row->∃(i:Nat) (hi:i < R.length),row=(i:Int)/\lkI R row=some R[i]:=fun h0=>by
  rcases hrow with h1 | h1
  ·omega
  obtain ⟨i,rfl⟩:∃i:Nat,row=(i:Int):=⟨row.toNat,by omega⟩
  exact ⟨i,by omega,rfl,Qm (by omega)⟩
 have setR:∀{i:Nat} {r:List Int},r.length<=m+1->(R.set i r).length<=m+1/\∀s∈R.set i r,s.length<=m+1:=fun hr'=>⟨by rw [bX]; omega,fun s hs=>by
  rcases dL hs with h1 | h1
  ·exact Nat.le_succ_of_le (hr s h1)
  rw [h1]; exact hr'⟩
 unfold Jh
 by_cases c0:Int.tmod w0 12=0
 ·rw [aH (by simpa using c0)]; exact same
 rw [aI (by simpa using c0)]
 by_cases c1:Int.tmod w0 12=1
 ·rw [aH (by simpa using c1),hlk,aC]; exact same
 rw [aI (by simpa using c1)]
 by_cases c2:Int.tmod w0 12=2
 ·rw [aH (by simpa using c2),hlk,aC,aH (by rw [aO]; simp; omega)]
  exact mk (by rw [aO]; simp; omega) (by omega) fun r h=>Nat.le_succ_of_le (hr r h)
 rw [aI (by simpa using c2)]
 by_cases c3:Int.tmod w0 12=3
 ·rw [aH (by simpa using c3),hlk,aC]
  unfold Qb4
  rw [hlk,aC]
  exact Qpk (Nat.le_succ_of_le hl) h' ⟨by simp,Nat.le_succ_of_le hR,fun r h=>Nat.le_succ_of_le (hr r h)⟩
 rw [aI (by simpa using c3)]
 by_cases c4:Int.tmod w0 12=4
 ·rw [aH (by simpa using c4),hlk,aC,aH (by rw [aO]; simp; omega)]
  refine mk (by omega) (by rw [aO]; simp; omega) fun r h=>?_
  rcases bT.1 h with h1 | h1
  ·exact Nat.le_succ_of_le (hr r h1)
  ·simp at h1; rw [h1]; simp
 rw [aI (by simpa using c4)]
 by_cases c5:Int.tmod w0 12=5
 ·rw [aH (by simpa using c5)]
  by_cases d:row>=0
  ·rw [aH (by simpa using d),hlk,aC,aH (by rcases hrow with h1 | h1 <;> omega)]
   unfold Qce
   refine Qpk (Nat.le_succ_of_le hl) h' ⟨by simp only; omega,?_,fun r h=>?_⟩
   ·show (sub R 0 row).length<=m+1
    unfold sub; simp; omega
   ·have h:r∈sub R 0 row:=h
    unfold sub at h
    exact Nat.le_succ_of_le (hr r (bH (by simpa using h)))
  ·rw [aI (by simpa using d)]; exact same
 rw [aI (by simpa using c5)]
 by_cases c6:Int.tmod w0 12=6
 ·rw [aH (by simpa using c6)]
  by_cases d:row>=0
  ·obtain ⟨i,hi,e1,e2⟩:=rowAt d
   rw [aH (by simpa using d),hlk,aC,e2,aC]
   have hri:=hr _ (bJ hi)
   by_cases d2:((R[i].length:Int) > 0)
   ·rw [aH (by simpa using d2),show (0:Int)=((0:Nat):Int) from rfl,Qm (by omega),aC]
    obtain ⟨a,b⟩:=setR (i:=row.toNat) (r:=R[i].set (Int.toNat ((0:Nat):Int)) w3) (by rw [bX]; omega)
    exact mk (by omega) a b
   ·rw [aI (by simpa using d2)]; exact same
  ·rw [aI (by simpa using d)]; exact same
 rw [aI (by simpa using c6)]
 by_cases c7:Int.tmod w0 12=7
 ·rw [aH (by simpa using c7)]
  by_cases d:row>=0
  ·obtain ⟨i,hi,e1,e2⟩:=rowAt d
   have hri:=hr _ (bJ hi)
   rw [aH (by simpa using d),e2,aC,hlk,aC,aH (by rw [aO]; simp; omega),List.set_set]
   obtain ⟨a,b⟩:=setR (i:=row.toNat) (r:=R[i]++[(0:Int)]) (by rw [aO]; simp; omega)
   exact mk (by omega) a b
  ·rw [aI (by simpa using d)]; exact same
 rw [aI (by simpa using c7)]
 by_cases c8:Int.tmod w0 12=8
 ·rw [aH (by simpa using c8)]
  by_cases d:row>=0
  ·obtain ⟨i,hi,e1,e2⟩:=rowAt d
   have hri:=hr _ (bJ hi)
   rw [aH (by simpa using d),hlk,aC,e2,aC]
   by_cases d2:((R[i].length:Int) > 0)
   ·rw [aH (by simpa using d2),aH (by omega),show (0:Int)=((0:Nat):Int) from rfl,Qm (by rw [cE]; omega),aC,List.set_set]
    obtain ⟨a,b⟩:=setR (i:=row.toNat) (r:=(List.replicate (Int.toNat (R[i].length:Int)) ((0:Nat):Int)).set (Int.toNat ((0:Nat):Int)) w4) (by rw [bX,cE]; omega)
    exact mk (by omega) a b
   ·rw [aI (by simpa using d2)]; exact same
  ·rw [aI (by simpa using d)]; exact same
 rw [aI (by simpa using c8)]
 by_cases c9:Int.tmod w0 12=9
 ·rw [aH (by simpa using c9)]
  by_cases d:row>=0
  ·obtain ⟨i,hi,e1,e2⟩:=rowAt d
   have hri:=hr _ (bJ hi)
   rw [aH (by simpa using d),hlk,aC,e2,aC]
   have hw:=Zu (body:=Qbw row) (fun s:Int × Int × List (List Int)=>∃(a b:Int) (T:List (List Int)),s=(a,b,T)/\0<=a/\-1<=b/\a+b=(R[i].length:Int) - 1/\T.length=R.length/\(∀r∈T,r.length<=m)/\∃r,T[i]?=some r/\r.length=R[i].length) (fun s=>R[i].length+1 - s.1.toNat) (fun T=>T.length=R.length/\∀r∈T,r.length<=m)
    (fun s hs=>by
     obtain ⟨a,b,T,rfl,ha,hb,hab,hT,hTr,r,er,hrl⟩:=hs
     unfold Qbw
     dsimp only
     by_cases hc:a < b
     ·left
      have eT:lkI T row=some r:=by unfold lkI; rw [aI (by omega),e1,aP,er]
      have l1:∀(s:List Int) (z:Int),s.length=R[i].length->0<=z->z < R[i].length->lkI s z=some ((s[z.toNat]?).getD 0):=fun s z hs h1 h2=>by
       unfold lkI; rw [aI (by omega),aG (by omega)]; rfl
      rw [aH (by simpa using hc),eT,aC,l1 r a hrl ha (by omega),aC,l1 r b hrl (by omega) (by omega),aC,l1 _ b (by rw [bX]; exact hrl) (by omega) (by omega),aC,List.set_set,w64 (by omega),w64 (by omega)]
      refine ⟨_,rfl,⟨_,_,_,rfl,by omega,by omega,by omega,by rw [bX]; exact hT,fun s hs=>?_,_,by rw [e1,aP,bY (by omega)],by rw [bX,bX]; exact hrl⟩,by simp only; omega⟩
      rcases dL hs with h1 | h1
      ·exact hTr s h1
      rw [h1,bX,bX,hrl]; exact hri
     right
     rw [aI (by simpa using hc)]
     exact ⟨_,rfl,hT,hTr⟩) (0,zw ((R[i].length:Int) - 1),R) ⟨0,(R[i].length:Int) - 1,R,by rw [w64 (by omega)],by omega,by omega,by omega,rfl,hr,_,aG hi,rfl⟩ (by show R[i].length+1 - 0 < 1152921504606846976; omega)
   obtain ⟨T,h1,h2,h3⟩:=hw
   rw [h1,aC]
   exact mk (by omega) (by omega) fun r h=>Nat.le_succ_of_le (h3 r h)
  ·rw [aI (by simpa using d)]; exact same
 rw [aI (by simpa using c9)]
 by_cases c10:Int.tmod w0 12=10
 ·rw [aH (by simpa using c10),hlk,aC,aH (by rw [aO]; simp; omega)]
  unfold Qs
  have hn:∀y∈l++[Ad.mk 1 [] [[w4]]],Vq (m+1) y:=fun y hy=>by
   rcases bT.1 hy with h1 | h1
   ·exact h' y h1
   simp at h1; rw [h1]; exact ⟨by simp,by simp,fun r hr=>by simp at hr; rw [hr]; simp⟩
  rw [Qm (by rw [aO]; omega),aC]
  exact Qpk (by rw [aO]; simp; omega) hn ⟨by simp only; omega,by simp only; omega,fun r h=>Nat.le_succ_of_le (hr r h)⟩
 rw [aI (by simpa using c10),hlk,aC,bX,w64 (n:=(l.length:Int) - 1) (by omega),aH (by omega)]
 have hx:Vq (m+1) (Ad.mk c P R):=⟨by simp only; omega,by simp only; omega,fun r h=>Nat.le_succ_of_le (hr r h)⟩
 refine ⟨_,_,rfl,?_,fun y hy=>?_⟩
 ·unfold sub; simp; omega
 ·unfold sub at hy
  have hy:=bH (show y∈List.take (l.length - 1) (l.set t { Card:=c,Parents:=P,Rows:=R }) by simpa using hy)
  rcases dL hy with h1 | h1
  ·exact h' y h1
  ·rw [h1]; exact hx
theorem Q5c {b:Zc} {g:Int} {l:List Ad} {m:Nat} (hm:m<=999999) (h1:1<=l.length) (hl:l.length<=8) (h:∀x∈l,Vq m x) (hA:0<=b.At/\b.At<=255) (hR:0<=b.Row/\b.Row<=255):Out (m+1) (l.length+1) (Ji b ⟨g,l⟩):=by
 have eA:zw b.At=b.At:=w64 (by omega)
 have eR:zw b.Row=b.Row:=w64 (by omega)
 have tm:∀k:Nat,0 < k->∃t:Nat,t < k/\Int.tmod b.At (k:Int)=(t:Int):=fun k hk=>by
  rw [Vj hA.1]
  have h1:=Int.emod_nonneg b.At (show (k:Int)≠0 by omega)
  have h2:=Int.emod_lt_of_pos b.At (show (0:Int) < k by omega)
  exact ⟨(b.At % k).toNat,by omega,by omega⟩
 obtain ⟨t,ht,et⟩:=tm l.length (by omega)
 unfold Ji
 dsimp only
 rw [eA,et,Qzt (by omega) hl h ht,aC]
 dsimp only
 have hx:=h _ (bJ ht)
 have hxp:=hx.par
 have htl:(l.take t).length=t:=by rw [cQ]; omega
 rw [aH (dlt ht),Qm ht,aC,aH (by omega),Q6s,Qgr (by omega) hx,aC,aH (by rw [aO,htl]; simp; omega),Q3m (by omega) hl h ht,aC,htl]
 have hlen:(l.take t++[(default:Ad)]++l.drop (t+1)).length=l.length:=by simp [htl]; omega
 have hall:∀y∈l.take t++[(default:Ad)]++l.drop (t+1),Vq m y:=fun y hy=>by
  rcases bT.1 hy with h1 | h1
  ·rcases bT.1 h1 with h2 | h2
   ·exact h y (bH h2)
   simp at h2; rw [h2]; exact ⟨dZ _,dZ _,fun r hr=>by cases hr⟩
  exact h y (bL h1)
 generalize l.take t++[(default:Ad)]++l.drop (t+1)=L at hlen hall
 have hne:¬ (((l.length:Int)==0)=true):=by simp; intro e; rw [e] at h1; simp at h1
 rw [hlen,aI hne,aH (by omega),Qm (by omega),aC,et,aH rfl]
 by_cases c:((l[t].Rows.length:Int) > 0)
 ·rw [aH (by simpa using c),aH (by omega)]
  have hrow:0<=Int.tmod (zw b.Row) (l[t].Rows.length:Int)/\Int.tmod (zw b.Row) (l[t].Rows.length:Int) < l[t].Rows.length:=by
   rw [eR,Vj hR.1]
   exact ⟨Int.emod_nonneg _ (by omega),Int.emod_lt_of_pos _ (by omega)⟩
  exact Qui (by omega) (by omega) hl hall (by omega) hx.par hx.rows hx.row (.inr hrow) (w5:=0) (w6:=0)
 rw [aI (by simpa using c)]
 exact Qui (by omega) (by omega) hl hall (by omega) hx.par hx.rows hx.row (.inl rfl) (w5:=0) (w6:=0)
theorem Q4v {l:List Ad}:l=rowG l.length fun v=>(l[v]?).getD default:=by
 apply List.ext_getElem?
 intro i
 unfold rowG
 rw [bD]
 by_cases c:i < l.length
 ·rw [aG c,List.getElem?_range c]
  simp [c]
 rw [dJ (by omega),dJ (by simp; omega)]; rfl
theorem Zaf {l:List Ad} {m:Nat} (hm:m<=1000000) (h:∀x∈l,Vq m x):NB l.length fun v=>(l[v]?).getD default:=by
 have key:∀v,v < l.length->Vq m ((l[v]?).getD default):=fun v hv=>by
  rw [aG hv]; exact h _ (bJ hv)
 exact ⟨fun v hv=>by have:=(key v hv).par; omega,fun v hv=>by have:=(key v hv).rows; omega,fun v hv r hr=>by have:=(key v hv).row r hr; omega⟩
end Go.Ab
namespace Go.Ab
open Go
theorem Q0n {a b:Nat} {f:Nat -> Int}:Qq (a*b) f=Qq a (fun x=>Qq b (fun y=>f (x*b+y))):=by
 induction a with
 | zero=>simp [Qq]
 | succ a ih=>rw [dQ,Qlp,ih]; simp only [Qq]
theorem Qv1 {n:Nat} {f g:Nat -> Nat} (h:∀k,k < n->f k=g k):prodTo n f=prodTo n g:=by
 induction n with
 | zero=>rfl
 | succ n ih=>simp only [prodTo]; rw [ih (fun k hk=>h k (by omega)),h n (by omega)]
theorem Q01 {n:Nat} {f:Nat -> Nat} (h:∀k,k < n->1<=f k):1<=prodTo n f:=by
 induction n with
 | zero=>simp [prodTo]
 | succ n ih=>simp only [prodTo]; exact bV (by simp) (Nat.mul_le_mul (ih fun k hk=>h k (by omega)) (h n (by omega)))
end Go.Ab
namespace Go.Ab
open Go
def horner (c w:Nat -> Nat) (l:List Nat):Nat := l.foldl (fun r p=>r*c p+w p) 0
theorem Qu0 {c w:Nat -> Nat} {l:List Nat} {p:Nat}:horner c w (l++[p])=horner c w l*c p+w p:=by simp [horner]
theorem Quo {c w:Nat -> Nat} {l:List Nat} (h:∀p∈l,w p < c p):horner c w l < lprod c l:=by
 have key:∀(l:List Nat) (r R:Nat),r < R->(∀p∈l,w p < c p)->l.foldl (fun r p=>r*c p+w p) r < l.foldl (fun r p=>r*c p) R:=by
  intro l
  induction l with
  | nil=>intro r R h _; exact h
  | cons p l ih =>
   intro r R hr hp
   simp only [List.foldl_cons]
   refine ih _ _ ?_ (fun q hq=>hp q (cL _ hq))
   have h1:=hp p (by simp)
   have h2:(r+1)*c p<=R*c p:=aR _ hr
   rw [dQ] at h2
   omega
 exact key l 0 1 (by omega) h
def NF.idx (D:NF) (v:Nat) (w:Nat -> Nat):Nat := horner D.card w (D.par v)
def NF.wt (D:NF) (w:Nat -> Nat) (v:Nat):Nat := D.W v (D.idx v w) (w v)
def NF.ok (D:NF) (w:Nat -> Nat):Prop:=∀v,v < D.n->w v < D.card v
section
variable {D:NF} (V:VN D) {w:Nat -> Nat}
include V
theorem VN.idx_lt (hw:D.ok w) {v:Nat} (hv:v < D.n):D.idx v w < D.rows v:=Quo fun p hp=>hw p (V.par v hv p hp)
theorem VN.wt_le (hw:D.ok w) {v:Nat} (hv:v < D.n):D.wt w v<=60:=bV (V.W v _ _ hv (V.idx_lt hw hv) (hw v hv)) V.g60
end
structure SF where
 N:Nat
 R:Nat
 F:Nat
 T:Nat
def NF.hit (D:NF) (s:SF) (w:Nat -> Nat):Bool:=D.idx s.N w==s.R
def NF.own (D:NF) (s:SF) (w:Nat -> Nat):Nat := if D.hit s w=true then D.wt w s.N else 1
section
variable {D:NF} (V:VN D) {w:Nat -> Nat} {s:SF}
include V
end
end Go.Ab
namespace Go.Ab
open Go
def TM (D:NF) (E:Nat -> Int) (f:(Nat -> Nat)->Int):Nat -> Nat -> (Nat -> Nat)->Int
 | 0,_,w=>f w
 | d+1,i,w=>Qq (D.card i) fun x=>if E i=-1\/E i=(x:Int) then TM D E f d (i+1) (Xm w i x) else 0
def PC (D:NF):Nat -> Nat -> Nat
 | 0,_=>1
 | d+1,i=>D.card i*PC D d (i+1)
theorem Q14 {D:NF} (V:VN D):∀(d i:Nat),i+d=D.n->1<=PC D d i
 | 0,_,_=>aY 1
 | d+1,i,h=>by
  have:=Q14 V d (i+1) (by omega)
  have h2:=(V.card i (by omega)).1
  exact bV (by simp) (Nat.mul_le_mul h2 this)
theorem Qs8 {D:NF}:∀(d i:Nat),prodTo i D.card*PC D d i=prodTo (i+d) D.card
 | 0,i=>by simp [PC]
 | d+1,i=>by
  have:=Qs8 (D:=D) d (i+1)
  simp only [PC]
  rw [<-Nat.mul_assoc]
  rw [show i+(d+1)=i+1+d by omega,<-this]; rfl
def Ext (D:NF) (f:(Nat -> Nat)->Int):Prop:=∀w w',(∀j,j < D.n->w j=w' j)->f w=f w'
theorem BD.mono {m p:Nat} {a:Int} (h:BD m a) (hp:m<=p):BD p a:=by
 unfold BD KK at *; omega
theorem BD.fit {m:Nat} {a:Int} (h:BD m a) (hm:m<=1024):-9223372036854775808<=a/\a<=9223372036854775807:=by unfold BD KK at h; omega
theorem Qsv {D:NF} {w:Nat -> Nat} {i x:Nat} (h:D.ok w) (hx:x < D.card i):D.ok (Xm w i x):=fun v hv=>by
 unfold Xm
 by_cases e:v=i
 ·rw [aH e,e]; exact hx
 rw [aI e]; exact h v hv
theorem Qxz {D:NF} {E:Nat -> Int} {f:(Nat -> Nat)->Int} (hf:∀w,D.ok w->BD 1 (f w)):∀(d i:Nat) (w:Nat -> Nat),i+d=D.n->D.ok w->BD (PC D d i) (TM D E f d i w)
 | 0,i,w,_,hw=>hf w hw
 | d+1,i,w,h,hw=>by
  unfold TM PC
  refine BD.sum fun x hx=>?_
  split
  ·exact Qxz hf d (i+1) _ (by omega) (Qsv hw hx)
  exact BD.zero
def at' (v x:Nat) (f:(Nat -> Nat)->Int):(Nat -> Nat)->Int:=fun w=>if w v=x then f w else 0
section
variable {D:NF} (V:VN D) {s:SF} {E:Nat -> Int} {v:Nat}
theorem Q66 (V:VN D) {w w':Nat -> Nat} (h:∀j,j < D.n->w j=w' j) {u:Nat} (hu:u < D.n):D.idx u w=D.idx u w':=by
 unfold NF.idx horner
 have:∀(l:List Nat) (r:Nat),(∀p∈l,p < D.n)->l.foldl (fun r p=>r*D.card p+w p) r=l.foldl (fun r p=>r*D.card p+w' p) r:=by
  intro l
  induction l with
  | nil=>intros; rfl
  | cons p l ih =>
   intro r hp
   simp only [List.foldl_cons]
   rw [h p (hp p (by simp)),ih _ (fun q hq=>hp q (cL _ hq))]
 exact this _ 0 (V.par u hu)
theorem Q82 (V:VN D) {w w':Nat -> Nat} (h:∀j,j < D.n->w j=w' j) {u:Nat} (hu:u < D.n):D.wt w u=D.wt w' u:=by
 unfold NF.wt; rw [Q66 V h hu,h u hu]
theorem Qwn {f:(Nat -> Nat)->Int} (hv:v < D.n) (hf:Ext D f) {x:Nat}:Ext D (at' v x f):=fun w w' h=>by
 unfold at'; rw [h v hv,hf w w' h]
theorem Q5q {f:(Nat -> Nat)->Int} (hf:∀w,D.ok w->BD 1 (f w)) {x:Nat}:∀w,D.ok w->BD 1 (at' v x f w):=fun w hw=>by
 unfold at'
 split
 ·exact hf w hw
 exact BD.zero
end
end Go.Ab
namespace Go.Ab
open Go
def SW (D:NF) (E:Nat -> Int) (f:(Nat -> Nat)->Int):Int:=TM D E f D.n 0 (fun _=>0)
def Yz (D:NF) (E:Nat -> Int):Prop:=∀j,j < D.n->-1<=E j/\E j < D.card j
section
variable {D:NF} {s:SF} {E:Nat -> Int} {v:Nat}
theorem ok0 (V:VN D):D.ok (fun _=>0):=fun u hu=>(V.card u hu).1
end
end Go.Ab
namespace Go.Ab
open Go
section
variable {D:NF} {E:Nat -> Int}
theorem Qul (V:VN D):Qch D.net=some (prodTo D.n D.card:Int):=by
 unfold Qch
 rw [Qq6 V]
 simp only [aC]
 rw [Q6i (fun k hk=>(V.card k hk).2) V.n8]
 rfl
def PS (D:NF) (k:Nat):Nat := PC D (D.n - k) k
theorem Qts {k:Nat} (h:k < D.n):PS D k=D.card k*PS D (k+1):=by
 unfold PS
 rw [show D.n - k=(D.n - (k+1))+1 by omega]; rfl
theorem Q87:PS D D.n=1:=by unfold PS; rw [Nat.sub_self]; rfl
theorem Q2x (V:VN D) {k:Nat} (h:k<=D.n):1<=PS D k:=Q14 V _ _ (by omega)
def dig (D:NF) (W k:Nat):Nat := W / PS D (k+1) % D.card k
theorem Qwc (V:VN D) (W:Nat):D.ok (dig D W):=fun v hv=>cF _ (V.card v hv).1
theorem Q23 (V:VN D) {W:Nat} (hW:W < 1125899906842624):Qcf D.net (W:Int)=some (Qn D.n (dig D W)):=by
 have hn:=V.n8
 have hlen:(Qn D.n D.card).length=D.n:=Xa
 unfold Qcf
 rw [Qq6 V]
 simp only [aC]
 unfold Qf3
 rw [hlen,aH (by omega),aP,Qav]
 refine Zf (Zf (Zk (s0:=((W:Int),zw ((D.n:Int) - 1),rowG D.n fun _=>(0:Int))) (r:=Qn D.n (dig D W)) (fun m=>(((W / PS D (D.n - m):Nat):Int),((D.n - m:Nat):Int) - 1,rowG D.n fun j=>if D.n - m<=j then (dig D W j:Int) else 0)) D.n ?_ (fun m hm=>?_) ?_ (by omega)) rfl) rfl
 ·have e1:(rowG D.n fun j=>if D.n - 0<=j then (dig D W j:Int) else 0)=rowG D.n fun _=>(0:Int):=Qp fun j hj=>aI (by omega)
  rw [w64 (by omega),e1]
  simp only [cY,Q87,Nat.div_one]
 ·obtain ⟨k,hk⟩:∃k,D.n - m=k+1:=⟨D.n - m - 1,by omega⟩
  have hkn:k < D.n:=by omega
  have hc:=V.card k hkn
  have hk2:D.n - (m+1)=k:=by omega
  simp only [hk,hk2]
  have hkk:((k+1:Nat):Int) - 1=(k:Int):=by omega
  rw [hkk]
  unfold Qc1
  simp only
  rw [aH (by simp),Z9 hkn]
  simp only [aC]
  rw [aH (by omega),Qt hkn]
  simp only [aC]
  rw [aH (by omega),J9 (cX _),Vj (cX _),aP,X4]
  have h1:W / PS D (k+1) / D.card k=W / PS D k:=by rw [Nat.div_div_eq_div_mul,Qts hkn,cJ]
  have h2:((W / PS D (k+1):Nat):Int) / (D.card k:Int)=((W / PS D k:Nat):Int):=by rw [<-h1]; simp
  have h3:((W / PS D (k+1):Nat):Int) % (D.card k:Int)=(dig D W k:Int):=by unfold dig; simp
  have h4:W / PS D k<=W:=Nat.div_le_self _ _
  rw [h2,h3]
  obtain ⟨q,hq⟩:∃q,W / PS D k=q:=⟨_,rfl⟩
  rw [hq] at h4 ⊢
  rw [w64 (by omega),w64 (by omega)]
  congr 4
  refine Qp fun j hj=>?_
  by_cases e:j=k
  ·subst e; simp
  rw [aI e]
  by_cases e2:k+1<=j
  ·rw [aH e2,aH (by omega)]
  rw [aI e2,aI (by omega)]
 unfold Qc1
 simp only [Nat.sub_self]
 rw [aI (by simp)]
 exact congrArg (fun z=>some (Qf.done z)) (Qp fun j hj=>aH (by omega))
def okE (E:Nat -> Int) (j x:Nat):Prop:=E j=-1\/E j=(x:Int)
instance instokE (E:Nat -> Int) (j x:Nat):Decidable (okE E j x):=by unfold okE; infer_instance
def Xl (n:Nat) (E:Nat -> Int) (i:Nat) (w:Nat -> Nat):Prop:=∀j,i<=j->j < n->okE E j (w j)
theorem Qoq {n:Nat} {w:Nat -> Nat} (hn:n<=8) (hE:∀j,j < n->-1<=E j) (h:Xl n E 0 w):Vl (Qn n w) (rowG n E)=some true:=by
 unfold Vl
 refine Zf (Zk (s0:=(0:Int)) (r:=Sum.inr ()) (fun k=>(k:Int)) n rfl (fun k hk=>?_) ?_ (by omega)) rfl
 ·unfold Jd
  rw [aH (by rw [Xa]; simpa using hk),Qt hk]
  simp only [aC]
  have e:zw ((k:Int)+1)=((k+1:Nat):Int):=by rw [w64 (by omega)]; omega
  rcases h k (by omega) hk with h1 | h1
  ·rw [aI (by rw [h1]; simp),e]
  by_cases h0:E k>=0
  ·rw [aH (by simpa using h0),Z9 hk]
   simp only [aC]
   rw [aI (by rw [h1]; simp),e]
  omega
 unfold Jd
 rw [aI (by rw [Xa]; simp)]
theorem Qm6 {n:Nat} {w:Nat -> Nat} (hn:n<=8) (hE:∀j,j < n->-1<=E j) (h:¬ Xl n E 0 w):Vl (Qn n w) (rowG n E)=some false:=by
 unfold Vl
 have hw:=Zu (body:=Jd (Qn n w) (rowG n E)) (fun s=>∃k:Nat,k<=n/\s=(k:Int)/\∀j,j < k->okE E j (w j)) (fun s=>n - s.toNat) (fun r=>r=Sum.inl ()) (fun s hs=>?_) (0:Int) ⟨0,by omega,rfl,fun j hj=>by omega⟩ (by simp; omega)
 ·obtain ⟨r,h1,h2⟩:=hw
  rw [h1,h2]; rfl
 obtain ⟨k,hk,rfl,hpre⟩:=hs
 have hlt:k < n:=by
  rcases aZ k n with h' | h'
  ·exact h'
  exact absurd (fun j _ hj=>hpre j (by omega)) h
 have e:zw ((k:Int)+1)=((k+1:Nat):Int):=by rw [w64 (by omega)]; omega
 have hb:=hE k hlt
 unfold Jd
 rw [aH (by rw [Xa]; simpa using hlt),Qt hlt]
 simp only [aC]
 by_cases h0:E k>=0
 ·rw [aH (by simpa using h0),Z9 hlt]
  simp only [aC]
  by_cases h1:E k=(w k:Int)
  ·left
   rw [aI (by rw [h1]; simp),e]
   exact ⟨_,rfl,⟨k+1,by omega,rfl,fun j hj=>by
    rcases Nat.lt_succ_iff_lt_or_eq.1 hj with h2 | h2
    ·exact hpre j h2
    subst h2; exact .inr h1⟩,by simp; omega⟩
  right
  rw [aH (by simpa using h1)]
  exact ⟨_,rfl,rfl⟩
 left
 rw [aI (by simpa using h0),e]
 exact ⟨_,rfl,⟨k+1,by omega,rfl,fun j hj=>by
  rcases Nat.lt_succ_iff_lt_or_eq.1 hj with h2 | h2
  ·exact hpre j h2
  subst h2; exact .inl (by omega)⟩,by simp; omega⟩
def ix (c w:Nat -> Nat):List Nat -> Nat
 | []=>0
 | p::l=>w p*lprodR c l+ix c w l
where lprodR (c:Nat -> Nat):List Nat -> Nat
 | []=>1
 | p::l=>c p*lprodR c l
theorem Qxq (c w:Nat -> Nat):∀(l:List Nat) (r:Nat),l.foldl (fun r p=>r*c p+w p) r=r*ix.lprodR c l+ix c w l
 | [],r=>by simp [ix,ix.lprodR]
 | p::l,r=>by
  simp only [List.foldl_cons,Qxq c w l,ix,ix.lprodR]
  rw [dT,Nat.mul_assoc,cH]
theorem Q2r {c w:Nat -> Nat} {l:List Nat}:horner c w l=ix c w l:=by
 unfold horner; rw [Qxq]; simp
theorem Q3j {c:Nat -> Nat} {l:List Nat} (h:∀p∈l,c p<=4):ix.lprodR c l<=4^l.length:=by
 induction l with
 | nil=>simp [ix.lprodR]
 | cons p l ih =>
  simp only [ix.lprodR,dE,Nat.pow_succ]
  rw [cJ]
  exact Nat.mul_le_mul (ih fun q hq=>h q (cL _ hq)) (h p (by simp))
theorem Q95 {c w:Nat -> Nat} {l:List Nat} (h:∀p∈l,c p<=4/\w p < c p):ix c w l < ix.lprodR c l:=by
 induction l with
 | nil=>simp [ix,ix.lprodR]
 | cons p l ih =>
  have h1:=ih fun q hq=>h q (cL _ hq)
  have h2:=(h p (by simp)).2
  simp only [ix,ix.lprodR]
  have:(w p+1)*ix.lprodR c l<=c p*ix.lprodR c l:=aR _ h2
  rw [dQ] at this
  omega
theorem Q4m {c w:Nat -> Nat} {l:List Nat} (h:∀p∈l,c p<=4/\w p < c p) (h8:l.length<=8) :
  Qdl (l.map fun p=>(c p:Int)) (l.map fun p=>(w p:Int))=some (horner c w l:Int):=by
 unfold Qdl
 have hd:∀(k:Nat) (hk:k < l.length),l.drop k=l[k]'hk::l.drop (k+1):=fun k hk=>eD hk
 refine Zf (Zk (s0:=((0:Int),(1:Int),zw (((l.map fun p=>(c p:Int)).length:Int) - 1))) (r:=(horner c w l:Int)) (fun m=>((ix c w (l.drop (l.length - m)):Int),(ix.lprodR c (l.drop (l.length - m)):Int),((l.length - m:Nat):Int) - 1)) l.length ?_ (fun m hm=>?_) ?_ (by omega)) rfl
 ·simp only [cY,List.drop_length,ix,ix.lprodR,bW]
  rw [w64 (by omega)]
  rfl
 ·obtain ⟨k,hk⟩:∃k,l.length - m=k+1:=⟨l.length - m - 1,by omega⟩
  have hkn:k < l.length:=by omega
  have hk2:l.length - (m+1)=k:=by omega
  simp only [hk,hk2]
  have hkk:((k+1:Nat):Int) - 1=(k:Int):=by omega
  rw [hkk]
  have hmem:=h _ (bJ hkn)
  have hsub:∀p∈l.drop (k+1),c p<=4/\w p < c p:=fun p hp=>h p (bL hp)
  have b1:=Q3j (c:=c) (l:=l.drop (k+1)) (fun p hp=>(hsub p hp).1)
  have b2:(4:Nat)^(l.drop (k+1)).length<=4^8:=aT (by omega) (by rw [cR]; omega)
  have b3:=Q95 hsub
  have b4:w l[k]*ix.lprodR c (l.drop (k+1))<=4*65536:=Nat.mul_le_mul (by omega) (by omega)
  have b5:ix.lprodR c (l.drop (k+1))*c l[k]<=65536*4:=Nat.mul_le_mul (by omega) hmem.1
  unfold Qd0
  simp only
  rw [aH (by simp),Qm (by simpa using hkn)]
  simp only [aC]
  rw [Qm (by simpa using hkn)]
  simp only [aC,List.getElem_map]
  have e1:(w l[k]:Int)*(ix.lprodR c (l.drop (k+1)):Int)=((w l[k]*ix.lprodR c (l.drop (k+1)):Nat):Int):=by simp
  have e2:(ix.lprodR c (l.drop (k+1)):Int)*(c l[k]:Int)=((ix.lprodR c (l.drop (k+1))*c l[k]:Nat):Int):=by simp
  have w1:zw ((w l[k]*ix.lprodR c (l.drop (k+1)):Nat):Int)=((w l[k]*ix.lprodR c (l.drop (k+1)):Nat):Int):=w64 (by omega)
  rw [e1,e2,w1,w64 (by omega),w64 (by omega),w64 (by omega),hd k hkn]
  simp only [ix,ix.lprodR]
  congr 3
  ·rw [Int.natCast_add]; omega
  ·rw [cJ]
 ·unfold Qd0
  simp only [Nat.sub_self,List.drop_zero]
  rw [aI (by simp),Q2r]
theorem Q13 (V:VN D) {v:Nat} (hv:v < D.n):Q6 D.net (v:Int)=some ((D.par v).map fun p=>(D.card p:Int)):=by
 unfold Q6
 rw [Qq6 V]
 simp only [aC]
 rw [V.node hv]
 simp only [aC]
 rw [show (D.node v).Parents=(D.par v).map fun (p:Nat)=>(p:Int) from rfl,Qvs (V.par v hv) (V.len v hv)]
 rfl
theorem Q8a (V:VN D) {w:Nat -> Nat} (hw:D.ok w) {v:Nat} (hv:v < D.n):Qf9 D.net (v:Int) (Qn D.n w)=some (rowG (D.card v) fun x=>(D.W v (D.idx v w) x:Int)):=by
 unfold Qf9
 rw [V.node hv]
 simp only [aC]
 rw [Q13 V hv]
 simp only [aC]
 rw [show (D.node v).Parents=(D.par v).map fun (p:Nat)=>(p:Int) from rfl,Qvs (V.par v hv) (V.len v hv)]
 simp only [aC]
 rw [Q4m (fun p hp=>⟨(V.card p (V.par v hv p hp)).2,hw p (V.par v hv p hp)⟩) (V.len v hv)]
 simp only [aC]
 rw [show lkI (D.node v).Rows (horner D.card w (D.par v):Int)=some (rowG (D.card v) fun x=>(D.W v (D.idx v w) x:Int)) from Qt (V.idx_lt hw hv)]
 rfl
def mix (D:NF) (i:Nat) (w:Nat -> Nat) (W:Nat):Nat -> Nat := fun j=>if j < i then w j else dig D W j
theorem Q9r (V:VN D) {i j:Nat} (hij:i<=j) (hj:j < D.n):∃M,PS D i=M*(D.card j*PS D (j+1)):=by
 obtain ⟨k,rfl⟩:=Nat.exists_eq_add_of_le hij
 induction k generalizing i with
 | zero=>exact ⟨1,by rw [eG,Nat.one_mul,Qts (by omega)]⟩
 | succ k ih =>
  obtain ⟨M,hM⟩:=ih (i:=i+1) (by omega) (by omega)
  refine ⟨D.card i*M,?_⟩
  rw [Qts (by omega),hM]
  rw [show i+1+k=i+(k+1) by omega,Nat.mul_assoc]
open Classical in
theorem Qrj (V:VN D) {f:(Nat -> Nat)->Int} (hf:Ext D f):∀(d i:Nat) (w:Nat -> Nat),i+d=D.n ->
  Qq (PC D d i) (fun W=>if Xl D.n E i (mix D i w W) then f (mix D i w W) else 0)=TM D E f d i w
 | 0,i,w,h=>by
  simp only [PC,Qq,TM,Int.zero_add]
  rw [aH (show Xl D.n E i (mix D i w 0) from fun j h1 h2=>by omega)]
  exact hf _ _ fun j hj=>by unfold mix; rw [aH (by omega)]
 | d+1,i,w,h=>by
  have hi:i < D.n:=by omega
  simp only [PC,TM]
  rw [Q0n]
  refine V1 fun x hx=>?_
  have hP:PC D d (i+1)=PS D (i+1):=by unfold PS; rw [show D.n - (i+1)=d by omega]
  have hpos:=Q2x V (k:=i+1) (by omega)
  have hag:∀y,y < PC D d (i+1)->∀j,j < D.n->mix D i w (x*PC D d (i+1)+y) j=mix D (i+1) (Xm w i x) y j:=fun y hy j hj=>by
   unfold mix
   by_cases h1:j < i
   ·rw [aH h1,aH (by omega),Jm (by omega)]
   rw [aI h1]
   by_cases h2:j=i
   ·subst h2
    rw [aH (by omega),Xr]
    unfold dig
    rw [hP] at hy ⊢
    rw [cJ,Nat.mul_add_div (by omega),Nat.div_eq_of_lt hy,eG,Nat.mod_eq_of_lt hx]
   rw [aI (by omega)]
   unfold dig
   rw [hP]
   obtain ⟨M,hM⟩:=Q9r V (i:=i+1) (j:=j) (by omega) hj
   have hpj:=Q2x V (k:=j+1) (by omega)
   rw [hM,show x*(M*(D.card j*PS D (j+1)))+y=PS D (j+1)*(D.card j*(x*M))+y by
    rw [cJ (D.card j),<-Nat.mul_assoc,<-Nat.mul_assoc,cJ (PS D (j+1)),cJ (D.card j),Nat.mul_right_comm (x*M)]]
   rw [Nat.mul_add_div (by omega),Nat.mul_add_mod]
  rw [V1 (g:=fun y=>if okE E i x then (if Xl D.n E (i+1) (mix D (i+1) (Xm w i x) y) then f (mix D (i+1) (Xm w i x) y) else 0) else 0) (fun y hy=>?_)]
  ·by_cases hok:okE E i x
   ·rw [V1 (g:=fun y=>if Xl D.n E (i+1) (mix D (i+1) (Xm w i x) y) then f (mix D (i+1) (Xm w i x) y) else 0) (fun y _=>aH hok),Qrj V hf d (i+1) _ (by omega),aH (show E i=-1\/E i=(x:Int) from hok)]
   rw [V1 (g:=fun _=>0) (fun y _=>aI hok),Qgp,aI (show ¬ (E i=-1\/E i=(x:Int)) from hok)]
  have e:=hag y hy
  have hiff:Xl D.n E i (mix D i w (x*PC D d (i+1)+y))↔okE E i x/\Xl D.n E (i+1) (mix D (i+1) (Xm w i x) y):=by
   constructor
   ·intro hm
    refine ⟨?_,fun j h1 h2=>?_⟩
    ·have:=hm i (by omega) hi
     rw [e i hi] at this
     unfold mix at this
     rwa [aH (by omega),Xr] at this
    have:=hm j (by omega) h2
    rwa [e j h2] at this
   rintro ⟨h1,h2⟩ j h3 h4
   rw [e j h4]
   by_cases h5:j=i
   ·subst h5; unfold mix; rwa [aH (by omega),Xr]
   exact h2 j (by omega) h4
  by_cases hok:okE E i x
  ·rw [aH hok]
   by_cases hm:Xl D.n E (i+1) (mix D (i+1) (Xm w i x) y)
   ·rw [aH (hiff.2 ⟨hok,hm⟩),aH hm,hf _ _ e]
   rw [aI (fun c=>hm (hiff.1 c).2),aI hm]
  rw [aI (fun c=>hok (hiff.1 c).1),aI hok]
end
end Go.Ab
namespace Go.Ab
open Go
theorem Qc6 {cs:List AV} (h:WT (.int .u8) cs):∃a:Int,cs=[(AV.int .u8) a]/\(Lit.int .u8 a).wf=true:=by
 obtain ⟨n,rfl,w⟩:=h
 exact ⟨n,rfl,w⟩
theorem el5 {x:AV} (h:WT (.int .u8) x.flat /\ (if false then x=.agg x.flat else x.cell=true)):∃a:Int,x=(AV.int .u8) a/\(Lit.int .u8 a).wf=true:=by
 obtain ⟨a,h1,h2⟩:=Qc6 h.1
 rw [Quk h.2] at h1
 exact ⟨a,(List.cons.inj h1).1,h2⟩
theorem Q5t {cs:List AV} (h:WT (.slice true false 1 (.int .u8)) cs):∃a:(List Int),cs=[(eL true (AV.int .u8)) a]/\(a.length<=maxLen/\∀y0∈a,(Lit.int .u8 y0).wf=true):=by
 obtain ⟨xs,rfl,hl,hx⟩:=h
 obtain ⟨l,rfl,hr⟩:=Qqe (enc:=(AV.int .u8)) (R:=fun a=>(Lit.int .u8 a).wf=true) (fun x hm=>el5 (hx x hm))
 exact ⟨l,rfl,by simpa using hl,hr⟩
def Ys (x:Q1):Prop:=((Lit.int .u8 x.Card).wf=true)/\((Lit.int .u8 x.Parents).wf=true)/\((x.W.length<=maxLen/\∀y0∈x.W,(Lit.int .u8 y0).wf=true))
theorem Qkd {cs:List AV} (h:WT (.cat (.int .u8) (.cat (.int .u8) (.cat (.slice true false 1 (.int .u8)) .unit))) cs):∃x:Q1,AV.agg cs=Aj x/\Ys x:=by
 obtain ⟨_,_,rfl,a0,r0⟩:=h
 obtain ⟨v0,e0,w0⟩:=Qc6 a0
 cases e0
 obtain ⟨_,_,rfl,a1,r1⟩:=r0
 obtain ⟨v1,e1,w1⟩:=Qc6 a1
 cases e1
 obtain ⟨_,_,rfl,a2,r2⟩:=r1
 obtain ⟨v2,e2,w2⟩:=Q5t a2
 cases e2
 cases r2
 exact ⟨⟨v0,v1,v2⟩,rfl,⟨w0,w1,w2⟩⟩
theorem Q97 {x:AV} (h:WT (.cat (.int .u8) (.cat (.int .u8) (.cat (.slice true false 1 (.int .u8)) .unit))) x.flat /\ (if true then x=.agg x.flat else x.cell=true)):∃a:Q1,x=Aj a/\Ys a:=by
 obtain ⟨a,h1,h2⟩:=Qkd h.1
 have h3:x=.agg x.flat := h.2
 exact ⟨a,h3.trans h1,h2⟩
theorem Q93 {cs:List AV} (h:WT (.slice false true 3 (.cat (.int .u8) (.cat (.int .u8) (.cat (.slice true false 1 (.int .u8)) .unit)))) cs):∃a:(List Q1),cs=[(eL false Aj) a]/\(a.length<=maxLen/\∀y0∈a,Ys y0):=by
 obtain ⟨xs,rfl,hl,hx⟩:=h
 obtain ⟨l,rfl,hr⟩:=Qqe (enc:=Aj) (R:=fun a=>Ys a) (fun x hm=>Q97 (hx x hm))
 exact ⟨l,rfl,by simpa using hl,hr⟩
def V2 (x:Qe):Prop:=((Lit.int .u8 x.Grain).wf=true)/\((x.Nodes.length<=maxLen/\∀y0∈x.Nodes,Ys y0))/\((x.Order.length<=maxLen/\∀y0∈x.Order,(Lit.int .u8 y0).wf=true))
theorem rdTharuspexref05_Draft {cs:List AV} (h:WT (.cat (.int .u8) (.cat (.slice false true 3 (.cat (.int .u8) (.cat (.int .u8) (.cat (.slice true false 1 (.int .u8)) .unit)))) (.cat (.slice true false 1 (.int .u8)) .unit))) cs):∃x:Qe,AV.agg cs=eTharuspexref05_Draft x/\V2 x:=by
 obtain ⟨_,_,rfl,a0,r0⟩:=h
 obtain ⟨v0,e0,w0⟩:=Qc6 a0
 cases e0
 obtain ⟨_,_,rfl,a1,r1⟩:=r0
 obtain ⟨v1,e1,w1⟩:=Q93 a1
 cases e1
 obtain ⟨_,_,rfl,a2,r2⟩:=r1
 obtain ⟨v2,e2,w2⟩:=Q5t a2
 cases e2
 cases r2
 exact ⟨⟨v0,v1,v2⟩,rfl,⟨w0,w1,w2⟩⟩
theorem one3 {cs:List AV} (h:WT (.int .i64) cs):∃a:Int,cs=[eI a]/\(Lit.int .i64 a).wf=true:=by
 obtain ⟨n,rfl,w⟩:=h
 exact ⟨n,rfl,w⟩
theorem el3 {x:AV} (h:WT (.int .i64) x.flat /\ (if false then x=.agg x.flat else x.cell=true)):∃a:Int,x=eI a/\(Lit.int .i64 a).wf=true:=by
 obtain ⟨a,h1,h2⟩:=one3 h.1
 rw [Quk h.2] at h1
 exact ⟨a,(List.cons.inj h1).1,h2⟩
def Qag (x:Zc):Prop:=((Lit.int .u8 x.What).wf=true)/\((Lit.int .u8 x.At).wf=true)/\((Lit.int .u8 x.Row).wf=true)/\((Lit.int .i64 x.N).wf=true)
theorem rdTharuspexref05_Bend {cs:List AV} (h:WT (.cat (.int .u8) (.cat (.int .u8) (.cat (.int .u8) (.cat (.int .i64) .unit)))) cs):∃x:Zc,AV.agg cs=eTharuspexref05_Bend x/\Qag x:=by
 obtain ⟨_,_,rfl,a0,r0⟩:=h
 obtain ⟨v0,e0,w0⟩:=Qc6 a0
 cases e0
 obtain ⟨_,_,rfl,a1,r1⟩:=r0
 obtain ⟨v1,e1,w1⟩:=Qc6 a1
 cases e1
 obtain ⟨_,_,rfl,a2,r2⟩:=r1
 obtain ⟨v2,e2,w2⟩:=Qc6 a2
 cases e2
 obtain ⟨_,_,rfl,a3,r3⟩:=r2
 obtain ⟨v3,e3,w3⟩:=one3 a3
 cases e3
 cases r3
 exact ⟨⟨v0,v1,v2,v3⟩,rfl,⟨w0,w1,w2,w3⟩⟩
theorem Zae {cs:List AV} (h:WT (.cat (.int .u8) (.cat (.int .u8) (.cat (.int .u8) (.cat (.int .u8) (.cat (.int .u8) (.cat (.int .u8) (.cat (.int .u8) (.cat (.int .u8) .unit)))))))) cs):∃x:(Int × Int × Int × Int × Int × Int × Int × Int),AV.agg cs=(fun x:(Int × Int × Int × Int × Int × Int × Int × Int)=>AV.agg [.int .u8 x.1,.int .u8 x.2.1,.int .u8 x.2.2.1,.int .u8 x.2.2.2.1,.int .u8 x.2.2.2.2.1,.int .u8 x.2.2.2.2.2.1,.int .u8 x.2.2.2.2.2.2.1,.int .u8 x.2.2.2.2.2.2.2]) x/\((Lit.int .u8 x.1).wf=true/\(Lit.int .u8 x.2.1).wf=true/\(Lit.int .u8 x.2.2.1).wf=true/\(Lit.int .u8 x.2.2.2.1).wf=true/\(Lit.int .u8 x.2.2.2.2.1).wf=true/\(Lit.int .u8 x.2.2.2.2.2.1).wf=true/\(Lit.int .u8 x.2.2.2.2.2.2.1).wf=true/\(Lit.int .u8 x.2.2.2.2.2.2.2).wf=true):=by
 obtain ⟨_,_,rfl,a0,r0⟩:=h
 obtain ⟨v0,e0,w0⟩:=Qc6 a0
 cases e0
 obtain ⟨_,_,rfl,a1,r1⟩:=r0
 obtain ⟨v1,e1,w1⟩:=Qc6 a1
 cases e1
 obtain ⟨_,_,rfl,a2,r2⟩:=r1
 obtain ⟨v2,e2,w2⟩:=Qc6 a2
 cases e2
 obtain ⟨_,_,rfl,a3,r3⟩:=r2
 obtain ⟨v3,e3,w3⟩:=Qc6 a3
 cases e3
 obtain ⟨_,_,rfl,a4,r4⟩:=r3
 obtain ⟨v4,e4,w4⟩:=Qc6 a4
 cases e4
 obtain ⟨_,_,rfl,a5,r5⟩:=r4
 obtain ⟨v5,e5,w5⟩:=Qc6 a5
 cases e5
 obtain ⟨_,_,rfl,a6,r6⟩:=r5
 obtain ⟨v6,e6,w6⟩:=Qc6 a6
 cases e6
 obtain ⟨_,_,rfl,a7,r7⟩:=r6
 obtain ⟨v7,e7,w7⟩:=Qc6 a7
 cases e7
 cases r7
 exact ⟨(v0,v1,v2,v3,v4,v5,v6,v7),rfl,⟨w0,w1,w2,w3,w4,w5,w6,w7⟩⟩
def V3 (x:Qj):Prop:=((Lit.int .u8 x.Which).wf=true)/\(((Lit.int .u8 x.V.1).wf=true/\(Lit.int .u8 x.V.2.1).wf=true/\(Lit.int .u8 x.V.2.2.1).wf=true/\(Lit.int .u8 x.V.2.2.2.1).wf=true/\(Lit.int .u8 x.V.2.2.2.2.1).wf=true/\(Lit.int .u8 x.V.2.2.2.2.2.1).wf=true/\(Lit.int .u8 x.V.2.2.2.2.2.2.1).wf=true/\(Lit.int .u8 x.V.2.2.2.2.2.2.2).wf=true))
theorem rdTharuspexref05_Known {cs:List AV} (h:WT (.cat (.int .u8) (.cat (.cat (.int .u8) (.cat (.int .u8) (.cat (.int .u8) (.cat (.int .u8) (.cat (.int .u8) (.cat (.int .u8) (.cat (.int .u8) (.cat (.int .u8) .unit)))))))) .unit)) cs):∃x:Qj,AV.agg cs=eTharuspexref05_Known x/\V3 x:=by
 obtain ⟨_,_,rfl,a0,r0⟩:=h
 obtain ⟨v0,e0,w0⟩:=Qc6 a0
 cases e0
 obtain ⟨_,_,rfl,a1,r1⟩:=r0
 obtain ⟨v1,e1,w1⟩:=Zae a1
 cases e1
 cases r1
 exact ⟨⟨v0,v1⟩,rfl,⟨w0,w1⟩⟩
theorem Q5w {cs:List AV} (h:WT (.slice true false 1 (.int .i64)) cs):∃a:(List Int),cs=[(eL true eI) a]/\(a.length<=maxLen/\∀y0∈a,(Lit.int .i64 y0).wf=true):=by
 obtain ⟨xs,rfl,hl,hx⟩:=h
 obtain ⟨l,rfl,hr⟩:=Qqe (enc:=eI) (R:=fun a=>(Lit.int .i64 a).wf=true) (fun x hm=>el3 (hx x hm))
 exact ⟨l,rfl,by simpa using hl,hr⟩
theorem rdA60 {cs:List AV} (h:WT (.cat (.slice true false 1 (.int .i64)) (.cat (.slice true false 1 (.int .i64)) .unit)) cs):∃x:((List Int) × (List Int)),AV.agg cs=(fun x:((List Int) × (List Int))=>AV.agg [eL true eI x.1,eL true eI x.2]) x/\((x.1.length<=maxLen/\∀y0∈x.1,(Lit.int .i64 y0).wf=true)/\(x.2.length<=maxLen/\∀y0∈x.2,(Lit.int .i64 y0).wf=true)):=by
 obtain ⟨_,_,rfl,a0,r0⟩:=h
 obtain ⟨v0,e0,w0⟩:=Q5w a0
 cases e0
 obtain ⟨_,_,rfl,a1,r1⟩:=r0
 obtain ⟨v1,e1,w1⟩:=Q5w a1
 cases e1
 cases r1
 exact ⟨(v0,v1),rfl,⟨w0,w1⟩⟩
end Go.Ab
namespace Go.Ab
open Go
theorem Q6v {p0:Qe} (h:V2 p0):Q0v p0:=by
 obtain ⟨h1,⟨h2,h3⟩,h4,h5⟩:=h
 exact ⟨bounds_u8 h1,fun x hx=>bounds_u8 (h5 x hx),fun p hp=>bounds_u8 (h3 p hp).1,fun p hp x hx=>bounds_u8 ((h3 p hp).2.2.2 x hx),fun p hp=>(h3 p hp).2.2.1⟩
structure DX (D:NF):Prop extends VX D where
 n5:D.n<=5
 c23:∀v,v < D.n->2<=D.card v/\D.card v<=3
section
variable {D:NF}
theorem DX.worlds (X:DX D):prodTo D.n D.card<=243:=by
 have h1:prodTo D.n D.card<=3^D.n:=Qam fun v hv=>(X.c23 v hv).2
 have h2:3^D.n<=3^5:=aT (by omega) X.n5
 omega
theorem Qxg (X:DX D) {k:Qj} (hk:V3 k):∃E,Yz D E/\Y0 k D.net=some (rowG D.n E):=by
 have V:=X.vn
 have hn:=X.n5
 have hlen:D.net.Nodes.length=D.n:=Qo
 obtain ⟨_,k0,k1,k2,k3,k4,_⟩:=hk
 have hw:=Zu (body:=Ka D.net k) (fun s=>∃(i:Nat) (E:Nat -> Int),i<=D.n/\(∀j,j < i->-1<=E j/\E j < D.card j)/\s=((i:Int),rowG i E))
  (fun s=>D.n - s.1.toNat) (fun r=>∃E,Yz D E/\r=rowG D.n E) (fun s hs=>?_) ((0:Int),([]:List Int)) ⟨0,fun _=>0,by omega,fun j hj=>by omega,rfl⟩ (by simp; omega)
 ·obtain ⟨r,h1,E,h2,rfl⟩:=hw
  refine ⟨E,h2,?_⟩
  unfold Y0
  rw [h1]; rfl
 obtain ⟨i,E,hi,hE,rfl⟩:=hs
 by_cases hin:i < D.n
 ·left
  have hc:=V.card i hin
  have hnode:lkI D.net.Nodes (i:Int)=some (D.node i):=V.node hin
  have add:∀y:Int,-1<=y->y < D.card i->(∃s',some (Qf.next (((i+1:Nat):Int),rowG i E++[y]))=some (Qf.next (ρ:=List Int) s') /\
    (∃(i:Nat) (E:Nat -> Int),i<=D.n/\(∀j,j < i->-1<=E j/\E j < D.card j)/\s'=((i:Int),rowG i E))/\D.n - s'.1.toNat < D.n - (i:Int).toNat):=fun y h1 h2=>by
   refine ⟨_,rfl,⟨i+1,Xm E i y,hin,fun j hj=>?_,?_⟩,by simp; omega⟩
   ·by_cases e:j=i
    ·subst e; rw [Xr]; exact ⟨h1,h2⟩
    ·rw [Jm e]; exact hE j (by omega)
   ·rw [<-Vo,Xr]
    congr 2
    exact Qp fun j hj=>by rw [Jm (by omega)]
  have one:∀y:Int,(Lit.int .u8 y).wf=true->-1<=Int.tmod (zw y) (D.node i).Card/\Int.tmod (zw y) (D.node i).Card < D.card i:=fun y hy=>by
   have hb:=bounds_u8 hy
   have hp:(0:Int) < (D.card i:Int):=by omega
   rw [show (D.node i).Card=(D.card i:Int) from rfl,w64 (by omega),Vj hb.1]
   have h1:=Int.emod_nonneg y (show (D.card i:Int)≠0 by omega)
   have h2:=Int.emod_lt_of_pos y hp
   omega
  have hcard:(D.node i).Card≠0:=by show (D.card i:Int)≠0; omega
  have hll:∀y:Int,(rowG i E++[y]).length*8<=140737488355328:=fun y=>by simp [Qo]; omega
  have ek:zw ((i:Int)+1)=((i+1:Nat):Int):=by rw [w64 (by omega)]; omega
  unfold Ka
  simp only
  rw [aH (by rw [hlen]; simpa using hin),aH Qhz]
  by_cases hb:((IntKind.u8.wrap (BitVec.ofInt (IntKind.bits .u8) (Int.fdiv k.Which (2^min (Int.toNat (zv (i:Int))) (IntKind.bits .u8))) &&& BitVec.ofInt (IntKind.bits .u8) 1).toNat)==1)=true
  ·rw [aH hb]
   have hcases:i=0\/i=1\/i=2\/i=3\/i=4:=by omega
   rcases hcases with rfl | rfl | rfl | rfl | rfl
   ·rw [aH (show ((0:Nat):Int)=0 from rfl),show lkI D.net.Nodes 0=some (D.node 0) from hnode]
    simp only [aC]
    rw [aH hcard,aH (hll _)]
    exact add _ (one _ k0).1 (one _ k0).2
   ·rw [aI (by decide),aH (show ((1:Nat):Int)=1 from rfl),show lkI D.net.Nodes 1=some (D.node 1) from hnode]
    simp only [aC]
    rw [aH hcard,aH (hll _)]
    exact add _ (one _ k1).1 (one _ k1).2
   ·rw [aI (by decide),aI (by decide),aH (show ((2:Nat):Int)=2 from rfl),show lkI D.net.Nodes 2=some (D.node 2) from hnode]
    simp only [aC]
    rw [aH hcard,aH (hll _)]
    exact add _ (one _ k2).1 (one _ k2).2
   ·rw [aI (by decide),aI (by decide),aI (by decide),aH (show ((3:Nat):Int)=3 from rfl),show lkI D.net.Nodes 3=some (D.node 3) from hnode]
    simp only [aC]
    rw [aH hcard,aH (hll _)]
    exact add _ (one _ k3).1 (one _ k3).2
   rw [aI (by decide),aI (by decide),aI (by decide),aI (by decide),aH (show ((4:Nat):Int)=4 from rfl),show lkI D.net.Nodes 4=some (D.node 4) from hnode]
   simp only [aC]
   rw [aH hcard,aH (hll _)]
   exact add _ (one _ k4).1 (one _ k4).2
  rw [aI hb,aH (hll _),ek]
  exact add (-1) (by omega) (by omega)
 right
 have:i=D.n:=by omega
 subst this
 unfold Ka
 rw [aI (by rw [hlen]; simp)]
 exact ⟨_,rfl,E,hE,rfl⟩
theorem Q5m {E:Nat -> Int} {f:(Nat -> Nat)->Int} (V:VN D) {m:Nat} (hm:prodTo D.n D.card<=m) (hf:∀w,D.ok w->BD 1 (f w)):BD m (SW D E f):=by
 have h1:PC D D.n 0=prodTo D.n D.card:=by have:=Qs8 (D:=D) D.n 0; simpa [prodTo] using this
 exact (Qxz hf D.n 0 _ (by omega) (ok0 V)).mono (by rw [h1]; exact hm)
end
end Go.Ab
namespace Go.Ab
open Go
theorem Qfc {l:List Int} {k:Nat} (hk:k<=l.length):Qi l=Qi (l.take k)+10000^k*Qi (l.drop k):=by
 conv=>lhs; rw [<-List.take_append_drop k l,Qko]
 rw [cQ,Nat.min_eq_left hk]
theorem Qnh (m:Int):m=(m.natAbs:Int)\/m=-(m.natAbs:Int):=by omega
theorem Q8n (m:Int) (h:-9223372036854775808<=m/\m<=9223372036854775807):(if zw (0 - Int.tmod m 10000) > Int.tmod m 10000 then zw (0 - Int.tmod m 10000) else Int.tmod m 10000)=((m.natAbs % 10000:Nat):Int):=by
 rcases Qnh m with hm | hm
 ·have e:Int.tmod m 10000=((m.natAbs % 10000:Nat):Int):=by rw [Vj (by omega)]; omega
  rw [e,w64 (by omega),aI (by omega)]
 have e:Int.tmod m 10000=-((m.natAbs % 10000:Nat):Int):=by
  conv=>lhs; rw [hm,Int.neg_tmod,Vj (by omega)]
  omega
 rw [e,w64 (by omega)]
 split <;> omega
theorem Qrq (m:Int) (h:-9223372036854775808<=m/\m<=9223372036854775807):zw (Int.tdiv m 10000)=Int.tdiv m 10000/\(Int.tdiv m 10000).natAbs=m.natAbs / 10000:=by
 rcases Qnh m with hm | hm
 ·have e:Int.tdiv m 10000=((m.natAbs / 10000:Nat):Int):=by rw [J9 (by omega)]; omega
  rw [e,w64 (by omega)]; omega
 have e:Int.tdiv m 10000=-((m.natAbs / 10000:Nat):Int):=by
  conv=>lhs; rw [hm,Int.neg_tdiv,J9 (by omega)]
  omega
 rw [e,w64 (by omega)]; omega
theorem Qoh (p:Int) (h:-9223372036854775808<=p/\p<=9223372036854775807):J2 p=some (dgs p.natAbs):=by
 unfold J2
 have hlen:(dgs p.natAbs).length<=5:=Yb (by omega)
 rw [Qan (fun s=>s.2++dgs s.1.natAbs=dgs p.natAbs/\-9223372036854775808<=s.1/\s.1<=9223372036854775807) (fun s=>(dgs s.1.natAbs).length) (dgs p.natAbs) ?_ (p,[]) ⟨by simp,h⟩ (by simp only []; omega)]
 ·rfl
 rintro ⟨m,out⟩ ⟨h1,h2,h3⟩
 simp only at h1 h2 h3
 by_cases hm:m=0
 ·subst hm
  rw [Int.natAbs_zero,Yk,cT] at h1
  exact .inr (by simp [Qcw,h1])
 refine .inl ⟨(Int.tdiv m 10000,out++[((m.natAbs % 10000:Nat):Int)]),?_,?_,?_⟩
 ·unfold Qcw
  simp only
  rw [aH (by simpa using hm),Q8n m ⟨h2,h3⟩,(Qrq m ⟨h2,h3⟩).1,aH]
  have:=congrArg List.length h1
  simp only [aO,dE,List.length_nil] at this ⊢
  omega
 ·simp only
  refine ⟨?_,?_⟩
  ·rw [(Qrq m ⟨h2,h3⟩).2,dI,<-h1,Qeg (n:=m.natAbs) (by omega)]; rfl
  have:=(Qrq m ⟨h2,h3⟩).2; omega
 simp only
 rw [(Qrq m ⟨h2,h3⟩).2,Qeg (n:=m.natAbs) (by omega)]; simp
theorem Q35 (k:Nat):0 < 10000^k:=Nat.pow_pos (by omega)
theorem Qe6 {i j:Nat} (h:i<=j):10000^i<=10000^j:=aT (by omega) h
theorem Qsm {x y:List Int} {j:Nat} (hx:Xb x) (hy:Xb y) (hl:x.length=y.length) (hj:j < x.length) (hd:x.drop (j+1)=y.drop (j+1)) (hlt:x[j] < y[j]'(by omega)):Qi x < Qi y:=by
 rw [Qfc (l:=x) (k:=j) (by omega),Qfc (l:=y) (k:=j) (by omega),Qb2 hj,Qb2 (l:=y) (k:=j) (by omega),hd]
 have h1:=Qbh (Qjx hx j)
 rw [cQ,Nat.min_eq_left (by omega)] at h1
 have h2:=Qat hx hj
 have h3:=Qat hy (k:=j) (by omega)
 have h4:x[j].toNat + 1<=(y[j]'(by omega)).toNat := by omega
 have h5:10000^j*(x[j].toNat + 10000*Qi (y.drop (j+1))+1)<=10000^j*((y[j]'(by omega)).toNat + 10000*Qi (y.drop (j+1))):=Nat.mul_le_mul_left _ (by omega)
 rw [Nat.mul_add (10000^j) _ 1] at h5
 omega
def Q0c (a b:Nat):Int:=if a < b then -1 else if a=b then 0 else 1
theorem Q6z {a b:Nat} (h:dgs a=dgs b):a=b:=by
 have:=congrArg Qi h
 rwa [Zy,Zy] at this
theorem Qor {a b:Nat} (h:(dgs a).length < (dgs b).length):a < b:=by
 have h1:=Qi3 a
 have h2:=Q1c (n:=b) (by intro h0; rw [h0,Yk] at h; simp at h)
 have:=Qe6 (i:=(dgs a).length) (j:=(dgs b).length - 1) (by omega)
 omega
theorem Qra (a b:Nat) (ha:(dgs a).length<=1000000) (hb:(dgs b).length<=1000000):Kn (dgs a) (dgs b)=some (Q0c a b):=by
 unfold Kn Q0c
 by_cases hl:(dgs a).length=(dgs b).length
 ·rw [aI (by simp [hl])]
  have key:=Zu (body:=Kz (dgs a) (dgs b)) (fun s=>∃k:Nat,s=(k:Int) - 1/\k<=(dgs a).length/\(dgs a).drop k=(dgs b).drop k) (fun s=>(s+1).toNat)
   (fun r=>(match r with | .inl x=>some x | .inr _=>some (0:Int))=some (if a < b then (-1:Int) else if a=b then 0 else 1)) ?_
   (zw (((dgs a).length:Int) - 1)) ⟨(dgs a).length,by rw [w64 (by omega)],aY _,by rw [List.drop_length,hl,List.drop_length]⟩ (by rw [w64 (by omega)]; omega)
  ·obtain ⟨r,h1,h2⟩:=key
   rw [h1]
   exact h2
  rintro s ⟨k,rfl,hk,hd⟩
  cases k with
  | zero =>
   right
   refine ⟨.inr (),by simp [Kz],?_⟩
   simp only [List.drop_zero] at hd
   have:=Q6z hd
   subst this
   simp
  | succ k =>
   have e:((k+1:Nat):Int) - 1=(k:Int):=by omega
   rw [e]
   have hka:k < (dgs a).length:=by omega
   have hkb:k < (dgs b).length:=by omega
   unfold Kz
   rw [aH (by simp),Qm hka,Qm hkb]
   simp only [aC]
   by_cases hne:(dgs a)[k]=(dgs b)[k]
   ·left
    refine ⟨(k:Int) - 1,?_,⟨k,rfl,by omega,?_⟩,by omega⟩
    ·rw [aI (by simp [hne]),w64 (by omega)]
    rw [eD hka,eD hkb,hne,hd]
   right
   rw [aH (by simp [hne])]
   by_cases hlt:(dgs a)[k] < (dgs b)[k]
   ·refine ⟨.inl (-1),by simp [hlt],?_⟩
    have:=Qsm (Xu a) (Xu b) hl hka hd hlt
    rw [Zy,Zy] at this
    simp [this]
   refine ⟨.inl 1,by simp [hlt],?_⟩
   have:=Qsm (Xu b) (Xu a) hl.symm hkb hd.symm (by omega)
   rw [Zy,Zy] at this
   simp only [aK]
   rw [aI (by omega),aI (by omega)]
 rw [aH (by simp; omega)]
 by_cases hlt:(dgs a).length < (dgs b).length
 ·have:=Qor hlt
  simp [hlt,this]
 have:=Qor (a:=b) (b:=a) (by omega)
 rw [aI (by simp; omega),aI (by omega),aI (by omega)]
theorem Q30 {l:List Int} {k:Nat}:sub l 0 (k:Int)=l.take k:=by simp [sub]
theorem Qox (l:List Int) (h:Xb l) (hl:l.length<=1000000):Jy l=some (dgs (Qi l)):=by
 unfold Jy
 rw [Qan (fun s=>Xb s/\Qi s=Qi l/\s.length<=1000000) (fun s=>s.length) (dgs (Qi l)) ?_ l ⟨h,rfl,hl⟩ (by omega)]
 ·rfl
 rintro s ⟨h1,h2,h3⟩
 unfold Qkr
 by_cases hs:s.length=0
 ·right
  rw [aI (by simp [hs])]
  have:s=[]:=List.length_eq_zero_iff.1 hs
  subst this
  rw [<-h2]; simp [Qi,Yk]
 obtain ⟨k,hk⟩:∃k,s.length=k+1:=⟨s.length - 1,by omega⟩
 rw [aH (by simp; omega),w64 (by omega),show (s.length:Int) - 1=(k:Int) by omega,Qm (by omega)]
 simp only [aC]
 by_cases h0:s[k]=0
 ·left
  refine ⟨s.take k,?_,⟨Qjx h1 k,?_,by simp; omega⟩,by simp; omega⟩
  ·rw [aH (by simp [h0]),aH (by omega),Q30]
  rw [<-h2,Qfc (l:=s) (k:=k) (by omega),Qb2 (by omega),h0,List.drop_of_length_le (by omega)]; simp [Qi]
 right
 rw [aI (by simp [h0])]
 have hn:Qfi s:=by
  unfold Qfi
  rw [List.getLast?_eq_getElem?,hk,Nat.add_sub_cancel,aG (by omega)]
  simpa using h0
 rw [<-h2,Qxy h1 hn]
theorem Qm2 {l:List Int} (h:Xb l) (hn:Qfi l) {k:Nat} (hk:k < l.length):0 < Qi (l.drop k):=by
 have h1:Qfi (l.drop k):=by
  unfold Qfi at *
  rwa [List.getLast?_drop,aI (by omega)]
 have h2:=Qxy (Qb0 h k) h1
 rcases dX (Qi (l.drop k)) with h0 | h0
 ·rw [h0,Yk] at h2
  have:=congrArg List.length h2
  simp at this; omega
 exact h0
theorem Jg {l:List Int} {k:Nat} (hk:l.length<=k):Qi (l.drop k)=0:=by rw [List.drop_of_length_le hk]; rfl
def dat (l:List Int) (k:Nat):Int:=l.getD k 0
theorem Qiy {l:List Int} {k:Nat} (h:k < l.length):dat l k=l[k]:=by simp [dat,h]
theorem Qnx {l:List Int} {k:Nat} (h:l.length<=k):dat l k=0:=by simp [dat,h]
theorem Qvv {l:List Int} (h:Xb l) (k:Nat):0<=dat l k/\dat l k < 10000:=by
 rcases aZ k l.length with hk | hk
 ·rw [Qiy hk]; exact Qat h hk
 rw [Qnx hk]; omega
theorem Qwz (l:List Int) (k:Nat):Qi (l.drop k)=(dat l k).toNat + 10000*Qi (l.drop (k+1)):=by
 rcases aZ k l.length with hk | hk
 ·rw [Qiy hk]; exact Qb2 hk
 rw [Jg hk,Jg (by omega),Qnx hk]; rfl
theorem Q3d (l:List Int) (x:Int):Qi (l++[x])=Qi l+10000^l.length*x.toNat := by rw [Qko]; simp [Qi]
theorem Q37 (a b:Nat) (hab:b<=a) (ha:(dgs a).length<=1000000):Qds (dgs a) (dgs b)=some (dgs (a - b)):=by
 unfold Qds
 have hlb:(dgs b).length<=(dgs a).length:=by
  rcases aZ (dgs a).length (dgs b).length with h | h
  ·have:=Qor h; omega
  exact h
 obtain ⟨M,hM⟩:∃M:Nat,M=2000005:=⟨_,rfl⟩
 obtain ⟨out,h1,h2,h3,h4⟩:∃out,Qb fuel (Qdu (dgs a) (dgs b)) (0,0,[])=some out/\Xb out/\out.length<=1000000/\Qi out=a - b:=by
  refine Zu (fun s=>∃i c:Nat,s.2.1=(i:Int)/\s.1=(c:Int)/\c<=1/\i<=(dgs a).length/\s.2.2.length=i/\Xb s.2.2/\Qi s.2.2+Qi ((dgs b).take i)=Qi ((dgs a).take i)+10000^i*c) (fun s=>M - s.2.1.toNat) _ ?_ (0,0,[])
   ⟨0,0,rfl,rfl,by omega,by omega,rfl,Qlx,by simp [Qi]⟩ (by simp only; omega)
  rintro ⟨c0,i0,out⟩ ⟨i,c,h1,h2,hc,hi,ho,hd,hv⟩
  simp only at h1 h2 ho hd hv
  subst h1; subst h2
  unfold Qdu
  simp only
  by_cases h1:i < (dgs a).length
  ·left
   have xa:=Qat (Xu a) h1
   have xb:=Qvv (Xu b) i
   have tb:Qi ((dgs b).take (i+1))=Qi ((dgs b).take i)+10000^i*(dat (dgs b) i).toNat := by
    rcases aZ i (dgs b).length with h | h
    ·rw [Qcq h,Qiy h]
    rw [Qnx h,List.take_of_length_le (by omega),List.take_of_length_le (by omega)]; simp
   have round:∀d:Int,∀c':Nat,d=(dgs a)[i] - c - dat (dgs b) i+10000*c'->0<=d->d < 10000->c'<=1->∃j e:Nat,((i:Int)+1)=(j:Int)/\(c':Int)=(e:Int)/\e<=1/\j<=(dgs a).length/\(out++[d]).length=j/\Xb (out++[d]) /\
     Qi (out++[d])+Qi ((dgs b).take j)=Qi ((dgs a).take j)+10000^j*e:=by
    intro d c' hd' h0 h9 hc'
    refine ⟨i+1,c',by omega,rfl,hc',h1,by simp [ho],?_,?_⟩
    ·rw [Qp1]; exact ⟨hd,Qgi.2 ⟨⟨h0,h9⟩,Qlx⟩⟩
    ·rw [Q3d,ho,tb,Qcq h1,Nat.pow_succ]
     have e1:d.toNat + (dat (dgs b) i).toNat + c=(dgs a)[i].toNat + 10000*c':=by omega
     have e2:10000^i*(d.toNat + (dat (dgs b) i).toNat + c)=10000^i*((dgs a)[i].toNat + 10000*c'):=by rw [e1]
     rw [Nat.mul_add,Nat.mul_add,Nat.mul_add,<-Nat.mul_assoc] at e2
     omega
   rw [aH (by simp [h1]),Qm h1]
   simp only [aC]
   by_cases h2:i < (dgs b).length
   ·rw [aH (by simp [h2]),Qm h2]
    simp only [aC]
    rw [Qiy h2] at xb round
    have hw:zw (zw ((dgs a)[i] - (c:Int)) - (dgs b)[i])=(dgs a)[i] - c - (dgs b)[i]:=by rw [w64 (n:=(dgs a)[i] - (c:Int)) (by omega),w64 (by omega)]
    rw [hw,w64 (n:=(i:Int)+1) (by omega)]
    by_cases h3:(dgs a)[i] - c - (dgs b)[i] < 0
    ·rw [aH (by simp [h3]),w64 (by omega),aH (by simp; omega)]
     exact ⟨_,rfl,round _ 1 (by omega) (by omega) (by omega) (by omega),by simp only; omega⟩
    rw [aI (by simpa using h3),aH (by simp; omega)]
    exact ⟨_,rfl,round _ 0 (by omega) (by omega) (by omega) (by omega),by simp only; omega⟩
   rw [aI (by simp; omega)]
   rw [Qnx (by omega)] at xb round
   rw [w64 (n:=(dgs a)[i] - (c:Int)) (by omega),w64 (n:=(i:Int)+1) (by omega)]
   by_cases h3:(dgs a)[i] - (c:Int) < 0
   ·rw [aH (by simp [h3]),w64 (by omega),aH (by simp; omega)]
    exact ⟨_,rfl,round _ 1 (by omega) (by omega) (by omega) (by omega),by simp only; omega⟩
   rw [aI (by simpa using h3),aH (by simp; omega)]
   exact ⟨_,rfl,round _ 0 (by omega) (by omega) (by omega) (by omega),by simp only; omega⟩
  right
  rw [aI (by simp; omega)]
  have:i=(dgs a).length:=by omega
  subst this
  rw [cM,List.take_of_length_le hlb,Zy,Zy] at hv
  have h5:=Qbh hd
  rw [ho] at h5
  refine ⟨out,rfl,hd,by omega,?_⟩
  rcases dX c with h | h
  ·subst h; omega
  have:c=1:=by omega
  subst this
  omega
 rw [h1]
 simp only [aC]
 rw [Qox out h2 h3,h4]
 rfl
theorem Qww {l:List Int} {k:Nat} (hk:k < l.length) {x:Int} (hx:0<=x) (h0:0<=l[k]):Qi (l.set k x)+10000^k*l[k].toNat = Qi l+10000^k*x.toNat := by
 induction l generalizing k with
 | nil=>simp at hk
 | cons y l ih =>
  cases k with
  | zero=>simp only [List.set_cons_zero,Qi,List.getElem_cons_zero,Nat.pow_zero]; omega
  | succ k =>
   simp only [List.set_cons_succ,Qi,List.getElem_cons_succ,Nat.pow_succ] at *
   have:=ih (by simpa using hk) h0
   have e:∀z,10000^k*10000*z=10000*(10000^k*z):=fun z=>by rw [cJ (10000^k),Nat.mul_assoc]
   rw [e,e]
   omega
theorem Qqp {l:List Int} (h:Xb l) {k:Nat} {x:Int} (hx:0<=x/\x < 10000):Xb (l.set k x):=by
 intro y hy
 rcases dL hy with h1 | h1
 ·exact h y h1
 subst h1; exact hx
theorem Qk5 (n:Nat):Xb (List.replicate n (0:Int)):=fun x hx=>by
 rw [List.mem_replicate] at hx
 omega
theorem Qto (n:Nat):Qi (List.replicate n (0:Int))=0:=by
 induction n with
 | zero=>rfl
 | succ n ih=>simp [List.replicate_succ,Qi,ih]
theorem Qwq (x y:List Int) (hx:Xb x) (hy:∀z∈y,0<=z/\z<=10000) (hyv:Qi y<=10000^y.length) (lx:x.length<=10000) (ly:y.length<=10000):Qa8 x y=some (dgs (Qi x*Qi y)):=by
 unfold Qa8
 obtain ⟨M,hM⟩:∃M:Nat,M=2000005:=⟨_,rfl⟩
 have hw:zw ((x.length:Int)+(y.length:Int))=((x.length+y.length:Nat):Int):=by rw [w64 (by omega)]; omega
 rw [hw,aH (by omega),aP]
 obtain ⟨out,h1,h2,h3,h4⟩:∃out,Qb fuel (Qdt x y) (0,List.replicate (x.length+y.length) 0)=some out/\Xb out/\out.length=x.length+y.length/\Qi out=Qi x*Qi y:=by
  refine Zu (fun s=>∃i:Nat,s.1=(i:Int)/\i<=x.length/\s.2.length=x.length+y.length/\Xb s.2/\Qi s.2=Qi (x.take i)*Qi y) (fun s=>M - s.1.toNat) _ ?_ (0,List.replicate (x.length+y.length) 0)
   ⟨0,rfl,by omega,by simp,Qk5 _,by simp [Qi,Qto]⟩ (by simp only; omega)
  rintro ⟨i0,o⟩ ⟨i,h1,hi,ho,hd,hv⟩
  simp only at h1 ho hd hv
  subst h1
  unfold Qdt
  simp only
  by_cases h1:i < x.length
  ·left
   rw [aH (by simp [h1])]
   have xi:=Qat hx h1
   have tot:Qi (x.take (i+1))*Qi y < 10000^(i+1+y.length):=by
    have a1:=Qbh (Qjx hx (i+1))
    rw [cQ,Nat.min_eq_left (by omega)] at a1
    have a2:(Qi (x.take (i+1))+1)*Qi y<=10000^(i+1)*10000^y.length:=Nat.mul_le_mul a1 hyv
    rw [<-Nat.pow_add,dT] at a2
    rcases dX (Qi y) with h | h
    ·rw [h,Nat.mul_zero]; exact Nat.pow_pos (by omega)
    omega
   obtain ⟨o',e1,e2,e3,e4⟩:∃o',Qb fuel (Qd7 y ((i:Int),o) x) (0,0,o)=some o'/\Xb o'/\o'.length=x.length+y.length/\Qi o'=Qi (x.take (i+1))*Qi y:=by
    refine Zu (fun s=>∃k c:Nat,s.2.1=(k:Int)/\s.1=(c:Int)/\c<=10000/\i+k<=x.length+y.length/\s.2.2.length=x.length+y.length/\Xb s.2.2/\Qi s.2.2+10000^(i+k)*c=Qi o+10000^i*(x[i].toNat * Qi (y.take k))) (fun s=>M - s.2.1.toNat) _ ?_ (0,0,o)
     ⟨0,0,rfl,rfl,by omega,by omega,ho,hd,by simp [Qi]⟩ (by simp only; omega)
    rintro ⟨c0,k0,o2⟩ ⟨k,c,g1,g2,gc,gk,go,gd,gv⟩
    simp only at g1 g2 go gd gv
    subst g1; subst g2
    have full:y.length<=k->Qi o+10000^i*(x[i].toNat * Qi (y.take k))=Qi (x.take (i+1))*Qi y:=fun h=>by
     rw [List.take_of_length_le h,hv,Qcq h1,dT,Nat.mul_assoc]
    unfold Qd7
    simp only
    have hik:zw ((i:Int)+(k:Int))=((i+k:Nat):Int):=by rw [w64 (by omega)]; omega
    rw [hik]
    by_cases hk:k < y.length
    ·left
     have hj:i+k < o2.length:=by omega
     have yk:=hy _ (bJ hk)
     have oj:=Qat gd hj
     rw [aH (by simp [hk]),Qm hj]
     simp only [aC]
     rw [Qm h1]
     simp only [aC]
     rw [Qm hk]
     simp only [aC]
     have p1:0<=x[i]*y[k]:=Int.mul_nonneg xi.1 yk.1
     have p2:x[i]*y[k]<=9999*10000:=Int.mul_le_mul (by omega) yk.2 yk.1 (by omega)
     have hc:zw (zw ((c:Int)+o2[i+k])+zw (x[i]*y[k]))=c+o2[i+k]+x[i]*y[k]:=by
      rw [w64 (n:=(c:Int)+o2[i+k]) (by omega),w64 (n:=x[i]*y[k]) (by omega),w64 (by omega)]
     rw [hc,J9 (by omega),Vj (by omega),w64 (n:=_ / 10000) (by omega),w64 (n:=(k:Int)+1) (by omega),aP]
     generalize ht:c+o2[i+k]+x[i]*y[k]=t at *
     refine ⟨_,rfl,⟨k+1,(t / 10000).toNat,by simp only; omega,by simp only; omega,by omega,by omega,by simp [go],Qqp gd (by omega),?_⟩,by simp only; omega⟩
     simp only
     have s1:=Qww (l:=o2) (k:=i+k) hj (x:=t % 10000) (by omega) oj.1
     have pt:(x[i]*y[k]).toNat = x[i].toNat * y[k].toNat := Int.toNat_mul xi.1 yk.1
     have e1:(t % 10000).toNat + 10000*(t / 10000).toNat = c+o2[i+k].toNat + x[i].toNat * y[k].toNat := by omega
     have e2:10000^(i+k)*((t % 10000).toNat + 10000*(t / 10000).toNat)=10000^(i+k)*(c+o2[i+k].toNat + x[i].toNat * y[k].toNat):=by rw [e1]
     rw [Nat.mul_add,Nat.mul_add,Nat.mul_add,<-Nat.mul_assoc] at e2
     rw [Qcq hk,Nat.mul_add,Nat.mul_add,show i+(k+1)=(i+k)+1 by omega,Nat.pow_succ]
     have e3:10000^i*(x[i].toNat * (10000^k*y[k].toNat))=10000^(i+k)*(x[i].toNat * y[k].toNat):=by
      rw [Nat.pow_add,Nat.mul_assoc,Nat.mul_left_comm (10000^k)]
     rw [e3]
     omega
    rw [aI (by simp; omega)]
    by_cases hc:0 < c
    ·left
     have hj:i+k < o2.length:=by
      rw [full (by omega)] at gv
      have:10000^(i+k)*1<=10000^(i+k)*c:=Nat.mul_le_mul_left _ hc
      have h5:10000^(i+k) < 10000^(i+1+y.length):=by omega
      have:=(Nat.pow_lt_pow_iff_right (by omega)).1 h5
      omega
     have oj:=Qat gd hj
     rw [aH (by simp [hc]),Qm hj]
     simp only [aC]
     rw [w64 (n:=(c:Int)+o2[i+k]) (by omega),J9 (by omega),Vj (by omega),w64 (n:=_ / 10000) (by omega),w64 (n:=(k:Int)+1) (by omega),aP]
     generalize ht:(c:Int)+o2[i+k]=t at *
     refine ⟨_,rfl,⟨k+1,(t / 10000).toNat,by simp only; omega,by simp only; omega,by omega,by omega,by simp [go],Qqp gd (by omega),?_⟩,by simp only; omega⟩
     simp only
     have s1:=Qww (l:=o2) (k:=i+k) hj (x:=t % 10000) (by omega) oj.1
     have e1:(t % 10000).toNat + 10000*(t / 10000).toNat = c+o2[i+k].toNat := by omega
     have e2:10000^(i+k)*((t % 10000).toNat + 10000*(t / 10000).toNat)=10000^(i+k)*(c+o2[i+k].toNat):=by rw [e1]
     rw [Nat.mul_add,Nat.mul_add,<-Nat.mul_assoc] at e2
     rw [List.take_of_length_le (by omega)] at gv ⊢
     rw [show i+(k+1)=(i+k)+1 by omega,Nat.pow_succ]
     omega
    right
    rw [aI (by simp; omega)]
    have:c=0:=by omega
    subst this
    rw [full (by omega)] at gv
    exact ⟨o2,rfl,gd,go,by simpa using gv⟩
   rw [e1]
   simp only [aC]
   rw [w64 (n:=(i:Int)+1) (by omega)]
   exact ⟨_,rfl,⟨i+1,by simp only; omega,by omega,e3,e2,e4⟩,by simp only; omega⟩
  right
  rw [aI (by simp; omega)]
  rw [List.take_of_length_le (by omega)] at hv
  exact ⟨o,rfl,hd,ho,hv⟩
 rw [h1]
 simp only [aC]
 rw [Qox out h2 (by omega),h4]
 rfl
end Go.Ab
namespace Go.Ab
open Go
theorem Qp2 (l:List Int) (k:Nat):Qi l=Qi (l.take k)+10000^k*Qi (l.drop k):=by
 rcases aZ l.length k with h | h
 ·rw [List.take_of_length_le (by omega),List.drop_of_length_le (by omega)]; simp [Qi]
 exact Qfc h
theorem Qnk {l:List Int} (h:Xb l) (k:Nat):Qi (l.take k) < 10000^k:=by
 have h1:=Qbh (Qjx h k)
 have h2:=Qe6 (i:=(l.take k).length) (j:=k) (by simp; omega)
 omega
theorem Q6g (y x:List Int) (hy:Xb y) (hx:Xb x) (n:Nat) (ly:y.length=n+1) (lx:x.length<=n+2) (hn:n<=100000) :
  Qb fuel (Qcy y x) (0,0,((n+1:Nat):Int))=some (((Qi (y.drop (n - 1)):Nat):Int),((Qi (x.drop (n - 1)):Nat):Int)):=by
 have hb:∀t,n - 1<=t->Qi (x.drop t) < 1000000000000/\Qi (y.drop t) < 100000000:=fun t ht=>by
  have h1:=Qbh (Qb0 hx t)
  have h2:=Qe6 (i:=(x.drop t).length) (j:=3) (by simp; omega)
  have h3:=Qbh (Qb0 hy t)
  have h4:=Qe6 (i:=(y.drop t).length) (j:=2) (by simp; omega)
  omega
 refine Qan (fun s=>∃t:Nat,s.2.2=(t:Int) - 1/\n - 1<=t/\t<=n+2/\s.1=((Qi (y.drop t):Nat):Int)/\s.2.1=((Qi (x.drop t):Nat):Int)) (fun s=>(s.2.2+1).toNat) _ ?_ _
  ⟨n+2,by simp only; omega,by omega,by omega,by rw [Jg (by omega)]; rfl,by rw [Jg (by omega)]; rfl⟩ (by simp only; omega)
 rintro ⟨top,first,kk⟩ ⟨t,h1,h2,h3,h4,h5⟩
 simp only at h1 h4 h5
 subst h1; subst h4; subst h5
 unfold Qcy
 simp only
 have hn1:zw ((y.length:Int) - 1)=(n:Int):=by rw [w64 (by omega)]; omega
 have hmx:(if zw ((n:Int) - 1) > 0 then zw ((n:Int) - 1) else 0)=((n - 1:Nat):Int):=by
  rw [w64 (by omega)]; split <;> omega
 rw [hn1,hmx]
 by_cases hge:n - 1 < t
 ·left
  obtain ⟨u,rfl⟩:∃u,t=u+1:=⟨t - 1,by omega⟩
  have e:((u+1:Nat):Int) - 1=(u:Int):=by omega
  rw [e]
  have bu:=hb u (by omega)
  have bt:=hb (u+1) (by omega)
  have vx:=Qwz x u
  have vy:=Qwz y u
  have dx:=Qvv hx u
  have dy:=Qvv hy u
  rw [aH (by simp; omega)]
  by_cases hxu:u < x.length
  ·rw [aH (by simp [hxu]),Qm hxu]
   simp only [aC]
   rw [Qiy hxu] at vx dx
   rw [w64 (n:=((Qi (x.drop (u+1)):Nat):Int)*10000) (by omega),w64 (n:=((Qi (x.drop (u+1)):Nat):Int)*10000+x[u]) (by omega),w64 (n:=(u:Int) - 1) (by omega)]
   by_cases hyu:u<=n
   ·have hyl:u < y.length:=by omega
    rw [aH (by simp [hyu]),Qm hyl]
    simp only [aC]
    rw [Qiy hyl] at vy dy
    rw [w64 (n:=((Qi (y.drop (u+1)):Nat):Int)*10000) (by omega),w64 (n:=((Qi (y.drop (u+1)):Nat):Int)*10000+y[u]) (by omega)]
    exact ⟨_,rfl,⟨u,rfl,by omega,by omega,by simp only; omega,by simp only; omega⟩,by simp only; omega⟩
   ·rw [aI (by simp; omega)]
    rw [Jg (l:=y) (k:=u+1) (by omega)]
    exact ⟨_,rfl,⟨u,rfl,by omega,by omega,by simp only [Jg (l:=y) (k:=u) (by omega)],by simp only; omega⟩,by simp only; omega⟩
  ·rw [aI (by simp; omega)]
   rw [Qnx (by omega)] at vx dx
   rw [w64 (n:=((Qi (x.drop (u+1)):Nat):Int)*10000) (by omega),w64 (n:=(u:Int) - 1) (by omega)]
   by_cases hyu:u<=n
   ·have hyl:u < y.length:=by omega
    rw [aH (by simp [hyu]),Qm hyl]
    simp only [aC]
    rw [Qiy hyl] at vy dy
    rw [w64 (n:=((Qi (y.drop (u+1)):Nat):Int)*10000) (by omega),w64 (n:=((Qi (y.drop (u+1)):Nat):Int)*10000+y[u]) (by omega)]
    exact ⟨_,rfl,⟨u,rfl,by omega,by omega,by simp only; omega,by simp only; omega⟩,by simp only; omega⟩
   ·rw [aI (by simp; omega)]
    rw [Jg (l:=y) (k:=u+1) (by omega)]
    exact ⟨_,rfl,⟨u,rfl,by omega,by omega,by simp only [Jg (l:=y) (k:=u) (by omega)],by simp only; omega⟩,by simp only; omega⟩
 ·right
  have:t=n - 1:=by omega
  subst this
  rw [aI (by simp; omega)]
theorem Qo9 {a b:Nat}:Q0c a b<=0↔a<=b:=by
 unfold Q0c
 split
 ·omega
 split <;> omega
theorem Q5b (b R lo hi:Nat) (hb:0 < b) (lb:(dgs b).length<=9000) (lR:(dgs R).length<=10000) (h1:lo<=R / b) (h2:R / b<=hi) (h3:hi<=10000) :
  Qb fuel (Qc5 (dgs b) (dgs R)) ((lo:Int),(hi:Int))=some ((R / b:Nat):Int):=by
 refine Qan (fun s=>∃l h:Nat,s.1=(l:Int)/\s.2=(h:Int)/\l<=R / b/\R / b<=h/\h<=10000) (fun s=>(s.2 - s.1).toNat) _ ?_ _ ⟨lo,hi,rfl,rfl,h1,h2,h3⟩ (by simp only; omega)
 rintro ⟨l0,h0⟩ ⟨l,h,e1,e2,g1,g2,g3⟩
 simp only at e1 e2
 subst e1; subst e2
 unfold Qc5
 simp only
 by_cases hlt:l < h
 ·left
  rw [aH (by simp [hlt])]
  rw [w64 (n:=(l:Int)+h) (by omega),w64 (n:=(l:Int)+h+1) (by omega),J9 (by omega),w64 (by omega)]
  obtain ⟨mid,hm⟩:∃mid:Nat,((l:Int)+h+1) / 2=(mid:Int):=⟨(((l:Int)+h+1) / 2).toNat,by omega⟩
  rw [hm]
  have hv:Qi [(mid:Int)]=mid:=by simp [Qi]
  rw [Qwq (dgs b) [(mid:Int)] (Xu b) (by intro z hz; rw [bU] at hz; omega) (by rw [hv]; simp; omega) (by omega) (by simp),hv,Zy]
  simp only [aC]
  obtain ⟨L,hL⟩:∃L:Nat,L=10000:=⟨_,rfl⟩
  have lm:(dgs (b*mid)).length<=L:=by
   refine Yb ?_
   have a1:=Qi3 b
   have a2:b*mid<=b*10000:=Nat.mul_le_mul_left _ (by omega)
   have a3:b*10000 < 10000^((dgs b).length+1):=by rw [Nat.pow_succ]; omega
   have a5:=Qe6 (i:=(dgs b).length+1) (j:=L) (by omega)
   omega
  rw [Qra _ _ (by omega) (by omega)]
  simp only [aC]
  by_cases hc:b*mid<=R
  ·have hq:mid<=R / b:=(Nat.le_div_iff_mul_le hb).2 (by rw [cJ]; exact hc)
   rw [aH (by simpa using Qo9.2 hc)]
   exact ⟨_,rfl,⟨mid,h,rfl,rfl,hq,g2,g3⟩,by simp only; omega⟩
  ·have hq:R / b < mid:=(cG hb).2 (by rw [cJ]; omega)
   rw [aI (by simpa using fun h=>hc (Qo9.1 h)),w64 (by omega)]
   exact ⟨_,rfl,⟨l,mid - 1,rfl,by simp only; omega,g1,by omega,by omega⟩,by simp only; omega⟩
 ·right
  rw [aI (by simp; omega)]
  have:l=R / b:=by omega
  rw [this]
theorem Qnb (a b:Nat) (hb:0 < b) (la:(dgs a).length<=8000) (lb:(dgs b).length<=8000):J1 (dgs a) (dgs b)=some (dgs (a / b),dgs (a % b)):=by
 unfold J1
 obtain ⟨n,hn⟩:∃n,(dgs b).length=n+1:=by
  have:(dgs b).length≠0:=by rw [Ne,List.length_eq_zero_iff,Qh2]; omega
  exact ⟨(dgs b).length - 1,by omega⟩
 have hn1:zw (((dgs b).length:Int) - 1)=(n:Int):=by rw [w64 (by omega)]; omega
 rw [hn1]
 by_cases hle:(dgs a).length<=n
 ·rw [aH (by simp [hle]),aH (by omega)]
  have hab:=Qor (a:=a) (b:=b) (by omega)
  rw [Nat.div_eq_of_lt hab,Nat.mod_eq_of_lt hab,Yk]
 obtain ⟨m,hm⟩:∃m,(dgs a).length=n+m/\0 < m:=⟨(dgs a).length - n,by omega,by omega⟩
 have hm1:zw (((dgs a).length:Int) - (n:Int))=(m:Int):=by rw [w64 (by omega)]; omega
 rw [aI (by simp; omega),hm1,aH (by omega),aH (by omega)]
 have hsub:sub (dgs a) (m:Int) ((dgs a).length:Int)=(dgs a).drop m:=by
  simp only [sub,aP]
  rw [List.take_of_length_le (by simp)]
 rw [hsub,aH (by simp; omega),aP,cE,w64 (by omega)]
 obtain ⟨M,hM⟩:∃M:Nat,M=2000005:=⟨_,rfl⟩
 have hpb:Xb (dgs b):=Xu b
 have hnb:Qfi (dgs b):=Qwo b
 have bpow:b < 10000^(n+1):=by have:=Qi3 b; rwa [hn] at this
 obtain ⟨out,h1,R,Q,h2,h3,h4,h5,h6⟩:∃out:List Int × List Int,Qb fuel (Qc2 (dgs a) (dgs b)) ((dgs a).drop m,(m:Int) - 1,List.replicate m 0)=some out/\∃R Q:Nat,out.1=dgs R/\R < b/\Xb out.2/\out.2.length=m/\a=b*Qi out.2+R:=by
  refine (Zu (fun (s:List Int × Int × List Int)=>∃k R:Nat,s.2.1=(k:Int) - 1/\k<=m/\s.1=dgs R/\R < b/\s.2.2.length=m/\Xb s.2.2/\Qi ((dgs a).drop k)=b*Qi (s.2.2.drop k)+R) (fun s=>(s.2.1+1).toNat) (fun (out:List Int × List Int)=>∃R Q:Nat,out.1=dgs R/\R < b/\Xb out.2/\out.2.length=m/\a=b*Qi out.2+R) ?_ _ ?_ (by simp only; omega))
  ·rintro ⟨rest,i0,qs⟩ ⟨k,R,e1,e2,e3,e4,e5,e6,e7⟩
   simp only at e1 e3 e5 e6 e7
   subst e1; subst e3
   unfold Qc2
   simp only
   cases k with
   | zero =>
    right
    rw [aI (by simp)]
    refine ⟨_,rfl,R,0,rfl,e4,e6,e5,?_⟩
    rw [List.drop_zero,List.drop_zero,Zy] at e7
    exact e7
   | succ j =>
    left
    have e:((j+1:Nat):Int) - 1=(j:Int):=by omega
    rw [e,aH (by simp)]
    have hj:j < (dgs a).length:=by omega
    have aj:=Qat (Xu a) hj
    rw [Qm hj]
    simp only [aC]
    have lR:(dgs R).length<=n+1:=Yb (by omega)
    have hcons:Xb ([(dgs a)[j]]++dgs R):=by rw [Qp1]; exact ⟨Qgi.2 ⟨aj,Qlx⟩,Xu R⟩
    rw [aH (by simp; omega),Qox _ hcons (by simp; omega)]
    have hval:Qi ([(dgs a)[j]]++dgs R)=(dgs a)[j].toNat + 10000*R:=by simp [Qi,Zy]
    rw [hval]
    simp only [aC]
    generalize hR':(dgs a)[j].toNat + 10000*R=R' at *
    have R'lt:R' < 10000*b:=by omega
    have lR':(dgs R').length<=n+2:=Yb (by rw [Nat.pow_succ]; omega)
    rw [hn1,w64 (n:=(n:Int)+1) (by omega),show (n:Int)+1=((n+1:Nat):Int) by omega,Q6g (dgs b) (dgs R') hpb (Xu R') n hn lR' (by omega)]
    simp only [aC]
    have sb:=Qp2 (dgs b) (n - 1)
    have sR:=Qp2 (dgs R') (n - 1)
    rw [Zy] at sb sR
    have tb:=Qnk hpb (n - 1)
    have tR:=Qnk (Xu R') (n - 1)
    have tpos:=Qm2 hpb hnb (k:=n - 1) (by omega)
    have tbig:n=0\/10000<=Qi ((dgs b).drop (n - 1)):=by
     rcases dX n with h | h
     ·exact .inl h
     right
     rw [Qb2 (by omega),show n - 1+1=n by omega]
     have:=Qm2 hpb hnb (k:=n) (by omega)
     omega
    have tlim:Qi ((dgs b).drop (n - 1)) < 100000000:=by
     have h3:=Qbh (Qb0 hpb (n - 1))
     have h4:=Qe6 (i:=((dgs b).drop (n - 1)).length) (j:=2) (by simp; omega)
     omega
    have flim:Qi ((dgs R').drop (n - 1)) < 1000000000000:=by
     have h3:=Qbh (Qb0 (Xu R') (n - 1))
     have h4:=Qe6 (i:=((dgs R').drop (n - 1)).length) (j:=3) (by simp; omega)
     omega
    generalize hT:Qi ((dgs b).drop (n - 1))=T at *
    generalize hF:Qi ((dgs R').drop (n - 1))=F at *
    generalize hbl:Qi ((dgs b).take (n - 1))=bl at *
    generalize hRl:Qi ((dgs R').take (n - 1))=Rl at *
    rw [w64 (n:=(T:Int)+1) (by omega),aH (by omega),aH (by omega),J9 (by omega),J9 (by omega)]
    have c1:(F:Int) / ((T:Int)+1)=((F / (T+1):Nat):Int):=by simp
    have c2:(F:Int) / (T:Int)=((F / T:Nat):Int):=by simp
    have b1:F / (T+1)<=F:=Nat.div_le_self _ _
    have b2:F / T<=F:=Nat.div_le_self _ _
    rw [c1,c2]
    have q1:F / (T+1)<=R' / b:=by
     rw [Nat.le_div_iff_mul_le hb]
     have x1:F / (T+1)*(T+1)<=F:=Nat.div_mul_le_self _ _
     have x2:b<=10000^(n - 1)*(T+1):=by rw [Nat.mul_add]; omega
     have x3:F / (T+1)*b<=F / (T+1)*(10000^(n - 1)*(T+1)):=Nat.mul_le_mul_left _ x2
     have x4:F / (T+1)*(10000^(n - 1)*(T+1))=10000^(n - 1)*(F / (T+1)*(T+1)):=by rw [Nat.mul_left_comm]
     have x5:10000^(n - 1)*(F / (T+1)*(T+1))<=10000^(n - 1)*F:=Nat.mul_le_mul_left _ x1
     omega
    have q2:R' / b<=F / T:=by
     rw [Nat.le_div_iff_mul_le tpos]
     have x1:R' / b*b<=R':=Nat.div_mul_le_self _ _
     have x2:R' / b*(10000^(n - 1)*T)<=R' / b*b:=Nat.mul_le_mul_left _ (by omega)
     have x3:R' / b*(10000^(n - 1)*T)=10000^(n - 1)*(R' / b*T):=by rw [Nat.mul_left_comm]
     have x4:10000^(n - 1)*(R' / b*T) < 10000^(n - 1)*(F+1):=by rw [Nat.mul_add (10000^(n - 1)) F]; omega
     have:=Nat.lt_of_mul_lt_mul_left x4
     omega
    have q3:F / T<=10000:=by
     have x1:10000^(n - 1)*F < 10000^(n - 1)*(10000*(T+1)):=by
      have:10000^(n - 1)*(10000*(T+1))=10000*(10000^(n - 1)*(T+1)):=Nat.mul_left_comm _ _ _
      rw [this,Nat.mul_add (10000^(n - 1))]
      omega
     have x2:=Nat.lt_of_mul_lt_mul_left x1
     rcases tbig with h | h
     ·subst h
      simp only [Nat.zero_sub,Nat.pow_zero,Nat.one_mul] at sb sR tb tR
      have:F < 10000*T:=by omega
      exact Nat.le_of_lt ((cG tpos).2 this)
     have:F < 10001*T:=by omega
     have:=(cG tpos).2 this
     omega
    have q9:R' / b < 10000:=(cG hb).2 (by omega)
    have w1:∀x:Nat,x<=F->zw (x:Int)=(x:Int):=fun x hx=>w64 (by omega)
    rw [w1 _ b1,w1 _ b2,Q5b b R' _ _ hb (by omega) (by omega) q1 q2 q3]
    simp only [aC]
    have hd:=dK R' b
    have hmod:R' - b*(R' / b)=R' % b:=by omega
    have hml:=Nat.mul_div_le R' b
    have hmb:=cF R' hb
    generalize R' / b=q at *
    generalize R' % b=r at *
    rw [Qm (l:=qs) (k:=j) (by omega)]
    simp only [aC]
    rw [Qox [(q:Int)] (Qgi.2 ⟨by omega,Qlx⟩) (by simp)]
    simp only [aC]
    have hv:Qi [(q:Int)]=q:=by simp [Qi]
    rw [hv]
    have lq:(dgs q).length<=1:=Yb (by omega)
    rw [Qwq (dgs b) (dgs q) hpb (fun z hz=>by have:=Xu q z hz; omega) (by rw [Zy]; exact Nat.le_of_lt (Qi3 _)) (by omega) (by omega),Zy,Zy]
    simp only [aC]
    rw [Q37 _ _ hml (by omega),hmod]
    simp only [aC]
    rw [w64 (n:=(j:Int) - 1) (by omega),aP]
    refine ⟨_,rfl,⟨j,r,rfl,by omega,rfl,hmb,by simp [e5],Qqp e6 (by omega),?_⟩,by simp only; omega⟩
    simp only
    have hset:(qs.set j (q:Int)).drop j=(q:Int)::qs.drop (j+1):=by
     rw [eD (by simp; omega),List.getElem_set_self,List.drop_set_of_lt (by omega)]
    rw [hset,Qb2 hj,e7]
    simp only [Qi,aP]
    rw [Nat.mul_add,Nat.mul_add,Nat.mul_left_comm b 10000]
    omega
  refine ⟨m,Qi ((dgs a).drop m),rfl,aY _,?_,?_,by simp,Qk5 _,?_⟩
  ·simp only
   by_cases h0:n=0
   ·rw [List.drop_of_length_le (by omega)]; simp [Qi,Yk]
   refine (Qxy (Qb0 (Xu a) m) ?_).symm
   have:=Qwo a
   unfold Qfi at *
   rwa [List.getLast?_drop,aI (by omega)]
  ·have h1:=Qbh (Qb0 (Xu a) m)
   have h2:=Q1c (n:=b) (by omega)
   rw [cR] at h1
   have h3:=Qe6 (i:=(dgs a).length - m) (j:=(dgs b).length - 1) (by omega)
   omega
  simp only
  rw [List.drop_of_length_le (l:=List.replicate m (0:Int)) (by simp)]; simp [Qi]
 rw [h1]
 simp only [aC]
 rw [Qox _ h4 (by omega),h2]
 simp only [aC]
 have e1:a / b=Qi out.2:=by
  rw [h6,Nat.mul_add_div hb,Nat.div_eq_of_lt h3,eG]
 have e2:a % b=R:=by
  rw [h6,Nat.mul_add_mod,Nat.mod_eq_of_lt h3]
 rw [e1,e2]
end Go.Ab
namespace Go.Ab
open Go
theorem Qjr {a b:Nat} (h:a<=b):(dgs a).length<=(dgs b).length:=by
 rcases aZ (dgs b).length (dgs a).length with h1 | h1
 ·have:=Qor h1; omega
 exact h1
theorem Q2f {p q:Nat} (h:2*(p+1)<=q+1):Nat.log2 (p+1) < Nat.log2 (q+1):=by
 have h1:2^Nat.log2 (p+1)<=p+1:=(Nat.le_log2 (by omega)).1 (aY _)
 have h2:Nat.log2 (p+1)+1<=Nat.log2 (q+1):=(Nat.le_log2 (by omega)).2 (by rw [Nat.pow_succ]; omega)
 omega
theorem Q4z {x K:Nat} (h:(dgs x).length<=K):Nat.log2 (x+1)<=14*K+1:=by
 have h1:=Qi3 x
 have h2:=Qe6 (i:=(dgs x).length) (j:=K) h
 have h3:(10000:Nat)^K<=(2^14)^K:=Nat.pow_le_pow_left (by omega) K
 rw [<-Nat.pow_mul] at h3
 have h4:x+1 < 2^(14*K+1):=by rw [Nat.pow_succ]; omega
 have:=(Nat.log2_lt (by omega)).2 h4
 omega
def gm (x y:Nat):Nat := if y<=x then Nat.log2 (x*y+1) else Nat.log2 (x*y+1)+1
theorem Qyq {x y:Nat} (hy:0 < y):gm y (x % y) < gm x y:=by
 have hr:=cF x hy
 unfold gm
 rw [aH (by omega)]
 by_cases h:y<=x
 ·rw [aH h]
  refine Q2f ?_
  have h1:y+x % y<=x:=by
   have:=dK x y
   have h2:1<=x / y:=(Nat.one_le_div_iff hy).2 h
   have h3:y*1<=y*(x / y):=Nat.mul_le_mul_left _ h2
   omega
  have h4:(2*(x % y)+1)*y<=x*y:=aR _ (by omega)
  rw [dT,Nat.mul_assoc,cJ (x % y) y] at h4
  omega
 rw [aI h,Nat.mod_eq_of_lt (by omega),cJ]
 omega
theorem Qwk (x y:Nat):Nat.gcd x y=Nat.gcd y (x % y):=by
 rw [Nat.gcd_comm,Nat.gcd_rec,Nat.gcd_comm]
theorem Q22 {x y:Nat} (hx:(dgs x).length<=8000) (hy:(dgs y).length<=8000):gm x y < 1152921504606846976:=by
 have h1:=Qi3 x
 have h2:=Qi3 y
 have h3:(dgs (x*y)).length<=16000:=by
  have:(dgs (x*y)).length<=(dgs x).length+(dgs y).length:=Yb (by rw [Nat.pow_add]; exact Nat.mul_lt_mul'' h1 h2)
  omega
 have:=Q4z h3
 unfold gm
 split <;> omega
theorem Q8u (a b:Nat) (la:(dgs a).length<=8000) (lb:(dgs b).length<=8000):Qga (dgs a) (dgs b)=some (dgs (Nat.gcd a b)):=by
 unfold Qga
 rw [Qan (fun s=>∃x y:Nat,s.1=dgs x/\s.2=dgs y/\(dgs x).length<=8000/\(dgs y).length<=8000/\Nat.gcd x y=Nat.gcd a b) (fun s=>gm (Qi s.1) (Qi s.2)) (dgs (Nat.gcd a b)) ?_ (dgs a,dgs b) ⟨a,b,rfl,rfl,la,lb,rfl⟩ (by simp only [Zy]; exact Q22 la lb)]
 ·rfl
 rintro ⟨x0,y0⟩ ⟨x,y,h1,h2,h3,h4,h5⟩
 simp only at h1 h2
 subst h1; subst h2
 unfold Qll
 simp only
 by_cases hy:y=0
 ·right
  subst hy
  rw [Yk,aI (by simp)]
  rw [Nat.gcd_zero_right] at h5
  rw [h5]
 left
 have hne:(dgs y).length≠0:=by rw [Ne,List.length_eq_zero_iff,Qh2]; exact hy
 rw [aH (by simp; omega),Qnb x y (by omega) h3 h4]
 simp only [aC]
 refine ⟨_,rfl,⟨y,x % y,rfl,rfl,h4,?_,?_⟩,?_⟩
 ·have:=Qjr (a:=x % y) (b:=y) (Nat.le_of_lt (cF _ (by omega))); omega
 ·rw [<-h5,Qwk x y]
 simp only [Zy]
 exact Qyq (by omega)
def MX:Nat := 4611686018427387903
theorem Qw9 (a:Nat) (la:(dgs a).length<=8000):Qa4 (dgs a)=some (if a<=MX then ((a:Int),true) else (0,false)):=by
 unfold Qa4
 rw [Qoh _ (by omega)]
 simp only [aC]
 rw [show Int.natAbs 4611686018427387903=MX from rfl]
 have lm:(dgs MX).length<=5:=Yb (by decide)
 rw [Qra _ _ (by omega) (by omega)]
 simp only [aC]
 by_cases h:a<=MX
 rotate_left
 ·rw [aH (by simpa using fun h'=>h (Qo9.1 h')),aI h]
 rw [aI (by simpa using Qo9.2 h),aH h]
 have hMX:MX=4611686018427387903:=rfl
 rw [Qan (fun s=>∃k:Nat,s.2=(k:Int) - 1/\k<=(dgs a).length/\s.1=((Qi ((dgs a).drop k):Nat):Int)) (fun s=>(s.2+1).toNat) (a:Int) ?_ _ ⟨(dgs a).length,by simp only; rw [w64 (by omega)],aY _,by simp [Qi]⟩ (by simp only; rw [w64 (by omega)]; omega)]
 ·rfl
 rintro ⟨v,i⟩ ⟨k,h1,h2,h3⟩
 simp only at h1 h3
 subst h1; subst h3
 unfold Qjf
 simp only
 cases k with
 | zero =>
  right
  rw [aI (by simp),List.drop_zero,Zy]
 | succ j =>
  left
  have e:((j+1:Nat):Int) - 1=(j:Int):=by omega
  rw [e,aH (by simp),Qm (by omega)]
  simp only [aC]
  have hv:=Qb2 (l:=dgs a) (k:=j) (by omega)
  have hd:=Qat (Xu a) (k:=j) (by omega)
  have hle:Qi ((dgs a).drop j)<=a:=by
   have h1:=Qfc (l:=dgs a) (k:=j) (by omega)
   rw [Zy] at h1
   have h2:1*Qi ((dgs a).drop j)<=10000^j*Qi ((dgs a).drop j):=aR _ (Q35 j)
   omega
  rw [w64 (n:=10000*((Qi ((dgs a).drop (j+1)):Nat):Int)) (by omega),w64 (by omega),w64 (by omega)]
  exact ⟨_,rfl,⟨j,rfl,by omega,by simp only; omega⟩,by simp only; omega⟩
def mkQ (neg:Bool) (n d:Nat):Qk × Bool :=
 if n / Nat.gcd n d<=MX then (if d / Nat.gcd n d<=MX then (⟨if neg then -((n / Nat.gcd n d:Nat):Int) else ((n / Nat.gcd n d:Nat):Int),((d / Nat.gcd n d:Nat):Int)⟩,true) else (⟨0,0⟩,false)) else (⟨0,0⟩,false)
theorem Q7j (neg:Bool) (n d:Nat) (hd:0 < d) (ln:(dgs n).length<=8000) (ld:(dgs d).length<=8000):Qe5 neg (dgs n) (dgs d)=some (mkQ neg n d):=by
 unfold Qe5 mkQ
 rw [Q8u n d ln ld]
 simp only [aC]
 have hg:0 < Nat.gcd n d:=Nat.gcd_pos_of_pos_right _ hd
 have lg:=Qjr (Nat.le_of_dvd hd (Nat.gcd_dvd_right n d))
 have l1:=Qjr (Nat.div_le_self n (Nat.gcd n d))
 have l2:=Qjr (Nat.div_le_self d (Nat.gcd n d))
 rw [Qnb n _ hg ln (by omega),Qnb d _ hg ld (by omega)]
 simp only [aC]
 rw [Qw9 _ (by omega),Qw9 _ (by omega)]
 simp only [aC]
 have hMX:MX=4611686018427387903:=rfl
 by_cases h1:n / Nat.gcd n d<=MX
 ·by_cases h2:d / Nat.gcd n d<=MX
  ·generalize n / Nat.gcd n d=x at *
   generalize d / Nat.gcd n d=y at *
   simp only [h1,h2,eJ,Bool.not_true,aS,eH]
   cases neg
   ·simp
   rw [aH rfl,w64 (by omega)]; simp
  simp only [h1,h2,eJ,eH,Bool.not_true,Bool.not_false,aS]
 simp only [h1,eH,Bool.not_false,eJ]
theorem Q52 {p:Int} (h:-9223372036854775808<=p/\p<=9223372036854775807):(dgs p.natAbs).length<=5:=Yb (by omega)
theorem Q6m (n d:Int) (hn:-9223372036854775808<=n/\n<=9223372036854775807) (hd:-9223372036854775808<=d/\d<=9223372036854775807) (h0:d≠0) :
  Qfk n d=some (mkQ (!((decide (n < 0))==(decide (d < 0)))) n.natAbs d.natAbs):=by
 unfold Qfk
 have l1:=Q52 hn
 have l2:=Q52 hd
 rw [Qoh n hn,Qoh d hd]
 simp only [aC]
 rw [Q7j _ _ _ (by omega) (by omega) (by omega)]
 rfl
end Go.Ab
namespace Go.Ab
open Go
theorem Qv4 {n:Int} (h:0<=n/\n < 18446744073709551616):zv n=n:=by
 obtain ⟨m,rfl⟩:=Int.eq_ofNat_of_zero_le h.1
 exact Qek (by omega)
theorem Qys {n:Int} (h:n < 0/\-18446744073709551616<=n):zv n=n+18446744073709551616:=by
 simp [IntKind.wrap,IntKind.bits,IntKind.signed]; omega
theorem Q1e (a b:Nat) (ha:a < 18446744073709551616) (hb:b < 18446744073709551616):Qdm (a:Int) (b:Int)=some ((Nat.gcd a b:Nat):Int):=by
 have l1:(dgs a).length<=5:=Yb (by omega)
 have l2:(dgs b).length<=5:=Yb (by omega)
 have lim:gm a b < 1152921504606846976:=Q22 (by omega) (by omega)
 unfold Qdm
 rw [Qan (fun s=>∃x y:Nat,s.1=(x:Int)/\s.2=(y:Int)/\Nat.gcd x y=Nat.gcd a b) (fun s=>gm s.1.toNat s.2.toNat) ((Nat.gcd a b:Nat):Int) ?_ _ ⟨a,b,rfl,rfl,rfl⟩ (by simpa using lim)]
 ·rfl
 rintro ⟨x0,y0⟩ ⟨x,y,h1,h2,h3⟩
 simp only at h1 h2
 subst h1; subst h2
 unfold Qji
 simp only
 by_cases hy:y=0
 ·right
  subst hy
  rw [aI (by simp)]
  rw [Nat.gcd_zero_right] at h3
  rw [h3]
 left
 rw [aH (by simp; omega),aH (by omega),Vj (by omega)]
 refine ⟨_,rfl,⟨y,x % y,rfl,by simp,?_⟩,?_⟩
 ·rw [<-h3,Qwk x y]
 simp only [aP]
 rw [show ((x:Int) % (y:Int)).toNat = x % y by rw [<-Int.natCast_emod,aP]]
 exact Qyq (by omega)
theorem Qvx {p:Int} (h:-9223372036854775808<=p/\p<=9223372036854775807):K3 p=some (p.natAbs:Int):=by
 unfold K3
 by_cases h0:p < 0
 ·rw [aH (by simpa using h0)]
  have e:zv p=p+18446744073709551616:=Qys (by omega)
  rw [e,Qys (by omega)]
  congr 1; omega
 rw [aI (by simpa using h0),Qv4 (by omega)]
 congr 1; omega
def Rt (q:Qk):Prop:=1<=q.D/\q.D<=4611686018427387903/\-4611686018427387903<=q.N/\q.N<=4611686018427387903/\Nat.gcd q.N.natAbs q.D.natAbs=1
instance instRt (q:Qk):Decidable (Rt q):=by unfold Rt; infer_instance
def I64 (q:Qk):Prop:=(-9223372036854775808<=q.N/\q.N<=9223372036854775807)/\(-9223372036854775808<=q.D/\q.D<=9223372036854775807)
theorem Rt.i64 {q:Qk} (h:Rt q):I64 q:=by obtain ⟨h1,h2,h3,h4,_⟩:=h; unfold I64; omega
def qI (n d:Int):Qk:=(mkQ (!((decide (n < 0))==(decide (d < 0)))) n.natAbs d.natAbs).1
theorem Q8r {n d:Int} (hd:d≠0) (hn:n.natAbs<=MX) (hd':d.natAbs<=MX):qI n d=⟨if (!((decide (n < 0))==(decide (d < 0))))=true then -((n.natAbs / Nat.gcd n.natAbs d.natAbs:Nat):Int) else ((n.natAbs / Nat.gcd n.natAbs d.natAbs:Nat):Int),((d.natAbs / Nat.gcd n.natAbs d.natAbs:Nat):Int)⟩:=by
 unfold qI mkQ
 have h1:=Nat.div_le_self n.natAbs (Nat.gcd n.natAbs d.natAbs)
 have h2:=Nat.div_le_self d.natAbs (Nat.gcd n.natAbs d.natAbs)
 rw [aH (by omega),aH (by omega)]
theorem Q55 {n d:Int} (hn:-9223372036854775808<=n/\n<=9223372036854775807) (hd:-9223372036854775808<=d/\d<=9223372036854775807) (h0:d≠0):Kt n d=some (qI n d):=by
 unfold Kt
 rw [Q6m n d hn hd h0]
 rfl
theorem Qy0 {n d:Int} (hn:n.natAbs<=MX) (hd:d.natAbs<=MX) (h0:d≠0):Qbb n d=some (qI n d,0):=by
 have hMX:MX=4611686018427387903:=rfl
 unfold Qbb
 rw [aI (by simpa using h0)]
 unfold Qeb
 rw [Qvx (by omega),Qvx (by omega)]
 simp only [aC]
 rw [Q1e _ _ (by omega) (by omega)]
 simp only [aC]
 have hg:0 < Nat.gcd n.natAbs d.natAbs:=Nat.gcd_pos_of_pos_right _ (by omega)
 rw [aH (by omega),aH (by omega)]
 have h1:=Nat.div_le_self n.natAbs (Nat.gcd n.natAbs d.natAbs)
 have h2:=Nat.div_le_self d.natAbs (Nat.gcd n.natAbs d.natAbs)
 have e1:Int.tdiv (n.natAbs:Int) ((Nat.gcd n.natAbs d.natAbs:Nat):Int)=((n.natAbs / Nat.gcd n.natAbs d.natAbs:Nat):Int):=by rw [J9 (by omega)]; simp
 have e2:Int.tdiv (d.natAbs:Int) ((Nat.gcd n.natAbs d.natAbs:Nat):Int)=((d.natAbs / Nat.gcd n.natAbs d.natAbs:Nat):Int):=by rw [J9 (by omega)]; simp
 rw [e1,e2,Q8r h0 hn hd]
 generalize n.natAbs / Nat.gcd n.natAbs d.natAbs=x at *
 generalize d.natAbs / Nat.gcd n.natAbs d.natAbs=y at *
 rw [Qv4 (by omega),Qv4 (by omega)]
 unfold Qlq
 simp only
 rw [aI (by simp),aI (by simp; omega),aI (by simp),aI (by simp; omega)]
 generalize (!((decide (n < 0))==(decide (d < 0))))=b
 cases b
 ·rw [aI (by simp),aI (by simp),w64 (by omega),w64 (by omega)]; rfl
 rw [aH rfl,aH rfl,w64 (n:=(x:Int)) (by omega),w64 (n:=(y:Int)) (by omega),w64 (by omega)]
 simp
end Go.Ab
namespace Go.Ab
open Go
theorem Qnn {α:Type} (l:List α) (d:α):l=rowG l.length fun k=>l.getD k d:=by
 apply List.ext_getElem?
 intro i
 unfold rowG
 rw [bD]
 by_cases c:i < l.length
 ·rw [List.getElem?_range c,aG c]; simp [List.getD,c]
 rw [dJ (by omega),dJ (by simp; omega)]; rfl
theorem Qyv {n:Nat} {f:Nat -> Int}:(rowG n f).sum=Qq n f:=by
 induction n with
 | zero=>rfl
 | succ n ih=>rw [<-Vo,List.sum_append,ih]; simp [Qq]
theorem Qy1 {k:Nat} {f:Nat -> Int}:∀{n:Nat},(∀j,j < n->0<=f j)->k < n->f k<=Qq n f
 | n+1,h,hk=>by
  have h0:=Vb (n:=n) (f:=f) fun j hj=>h j (by omega)
  have hn:=h n (by omega)
  simp only [Qq]
  by_cases e:k=n
  ·subst e; omega
  have:=Qy1 (n:=n) (k:=k) (f:=f) (fun j hj=>h j (by omega)) (by omega); omega
theorem Q6n {D:NF} (X:VX D):Qqi D.n D.g D.node:=by
 have V:=X.vn
 have hc:∀v,v < D.n->Qaf (D.node v):=fun v hv=>by
  have:=V.card v hv
  exact ⟨by show (1:Int)<=(D.card v:Int); omega,by show (D.card v:Int)<=4; omega⟩
 have ec:cardN D.node=D.card:=funext fun v=>by unfold cardN NF.node; simp
 have ep:parN D.node=D.par:=funext fun v=>by
  unfold parN NF.node
  rw [List.map_map]
  conv=>rhs; rw [<-List.map_id (D.par v)]
  exact List.map_congr_left fun x _=>by simp
 refine ⟨by have:=V.g1; omega,by have:=V.g60; omega,V.n1,V.n8,hc,by rw [ec]; exact V.worlds,fun v hv=>⟨⟨⟨D.par v,rfl,X.sorted v hv,V.par v hv⟩,fun hm=>?_⟩,?_,fun r hr=>?_⟩,by rw [ep]; obtain ⟨rk,h⟩:=X.rank; exact ⟨rk,h⟩⟩
 ·have hm:(v:Int)∈nI (D.par v):=hm
  unfold nI at hm
  obtain ⟨p,hp,e⟩:=cD.1 hm
  have:p=v:=by omega
  subst this
  exact X.self p hv hp
 ·rw [ec,ep]; show (rowG (D.rows v) _).length=_; rw [Qo]; rfl
 have hr:r∈rowG (D.rows v) fun r=>rowG (D.card v) fun x=>(D.W v r x:Int):=hr
 unfold rowG at hr
 obtain ⟨i,hi,rfl⟩:=cD.1 hr
 have hi:=cO.1 hi
 have e:=X.sum v i hv hi
 have h1:((List.range (D.card v)).map fun x=>(D.W v i x:Int))=rowG (D.card v) fun x=>(D.W v i x:Int):=rfl
 rw [h1]
 refine ⟨by rw [Qo]; rfl,fun w hw=>?_,by rw [Qyv]; exact e⟩
 unfold rowG at hw
 obtain ⟨x,_,rfl⟩:=cD.1 hw
 omega
theorem Q7a {n:Nat} {g:Int} {F:Nat -> Ad} (hf:Qqi n g F):∃D:NF,D.n=n/\VX D/\D.net=⟨g,rowG n F⟩:=by
 let D:NF:=⟨n,g.toNat,cardN F,parN F,fun v r x=>(((F v).Rows.getD r []).getD x 0).toNat⟩
 have hg:=hf.g1
 have hg60:=hf.g60
 have hrow:∀v r,v < n->r < D.rows v->∃hr:r < (F v).Rows.length,Qhv g (F v).Card (F v).Rows[r]/\(F v).Rows.getD r []=(F v).Rows[r]:=fun v r hv hr=>by
  obtain ⟨_,h1,h2⟩:=hf.node v hv
  have h1:(F v).Rows.length=D.rows v:=h1
  have hr':r < (F v).Rows.length:=by omega
  exact ⟨hr',h2 _ (bJ hr'),by simp [List.getD,hr']⟩
 have hcell:∀v r x,v < n->r < D.rows v->x < D.card v->∃hr:r < (F v).Rows.length,∃hx:x < (F v).Rows[r].length,(D.W v r x:Int)=(F v).Rows[r][x]:=fun v r x hv hr hx=>by
  obtain ⟨hr',⟨e1,e2,_⟩,e3⟩:=hrow v r hv hr
  have hc:=Qf1 (hf.card v hv)
  have hx:x < cardN F v:=hx
  have hx':x < (F v).Rows[r].length:=by omega
  refine ⟨hr',hx',?_⟩
  show ((((F v).Rows.getD r []).getD x 0).toNat : Int)=_
  rw [e3]
  have e4:(F v).Rows[r].getD x 0=(F v).Rows[r][x]:=by simp [List.getD,hx']
  rw [e4]
  have:=e2 _ (bJ hx')
  omega
 have hrw:∀v r,v < n->(hr:r < D.rows v)->∃hr':r < (F v).Rows.length,(F v).Rows[r]=rowG (D.card v) fun x=>(D.W v r x:Int):=fun v r hv hr=>by
  obtain ⟨hr',⟨e1,_,_⟩,_⟩:=hrow v r hv hr
  refine ⟨hr',?_⟩
  have hc:=Qf1 (hf.card v hv)
  have el:(F v).Rows[r].length=D.card v:=by show _=cardN F v; omega
  rw [Qnn (F v).Rows[r] 0,el]
  refine Qp fun x hx=>?_
  obtain ⟨_,hx',e⟩:=hcell v r x hv hr hx
  rw [e]; simp [List.getD,hx']
 have hnode:∀v,v < n->D.node v=F v:=fun v hv=>by
  obtain ⟨p1,p2,p3⟩:=Jn (hf.node v hv).1.1
  have hc:=Qf1 (hf.card v hv)
  obtain ⟨_,h1,_⟩:=hf.node v hv
  have h1:(F v).Rows.length=D.rows v:=h1
  have e1:((D.card v:Nat):Int)=(F v).Card:=hc
  have e2:(D.par v).map (fun (p:Nat)=>(p:Int))=(F v).Parents:=p1.symm
  have e3:(rowG (D.rows v) fun r=>rowG (D.card v) fun x=>(D.W v r x:Int))=(F v).Rows:=by
   conv=>rhs; rw [Qnn (F v).Rows []]
   rw [h1]
   refine Qp fun r hr=>?_
   obtain ⟨hr',e⟩:=hrw v r hv hr
   rw [<-e]; simp [List.getD,hr']
  show (⟨((D.card v:Nat):Int),(D.par v).map (fun (p:Nat)=>(p:Int)),rowG (D.rows v) fun r=>rowG (D.card v) fun x=>(D.W v r x:Int)⟩:Ad)=⟨(F v).Card,(F v).Parents,(F v).Rows⟩
  rw [e1,e2,e3]
 have hsum:∀v r,v < n->r < D.rows v->Qq (D.card v) (fun x=>(D.W v r x:Int))=(D.g:Int):=fun v r hv hr=>by
  obtain ⟨hr',e⟩:=hrw v r hv hr
  obtain ⟨_,⟨_,_,e3⟩,_⟩:=hrow v r hv hr
  rw [e,Qyv] at e3
  rw [e3]; show g=(g.toNat : Int); omega
 have hD:(D.g:Int)=g:=by show (g.toNat : Int)=g; omega
 refine ⟨D,rfl,⟨⟨hf.n1,hf.n8,by omega,by omega,fun v hv=>?_,fun v hv=>(Jn (hf.node v hv).1.1).2.2,fun v hv=>?_,fun v r x hv hr hx=>?_,hf.worlds⟩,fun v hv=>(Jn (hf.node v hv).1.1).2.1,fun v hv hm=>?_,hf.rank,hsum⟩,?_⟩
 ·exact Qa0 (hf.card v hv)
 ·obtain ⟨_,p2,p3⟩:=Jn (hf.node v hv).1.1
  have:=Qeq p2 p3
  have:=hf.n8
  show (parN F v).length<=8; omega
 ·have h1:=hsum v r hv hr
  have h2:=Qy1 (k:=x) (f:=fun x=>(D.W v r x:Int)) (n:=D.card v) (fun k _=>by omega) hx
  omega
 ·have hm:v∈parN F v:=hm
  obtain ⟨p1,_,_⟩:=Jn (hf.node v hv).1.1
  exact (hf.node v hv).1.2 (by rw [p1]; unfold nI; exact cD.2 ⟨v,hm,rfl⟩)
 show (⟨(D.g:Int),rowG n D.node⟩:Qa)=_
 rw [hD,Qp hnode]
section
variable {D:NF}
def evJ (D:NF) (e:List Int) (j:Nat):Prop:=-1<=(e[j]?).getD 0/\(e[j]?).getD 0 < D.card j
def evL (D:NF) (e:List Int):Prop:=e.length=D.n/\∀j,j < D.n->evJ D e j
theorem Qli {e:List Int} (h:evL D e):∃E,e=rowG D.n E/\Yz D E:=by
 refine ⟨fun k=>e.getD k 0,?_,fun j hj=>?_⟩
 ·have:=Qnn e 0
  rw [h.1] at this; exact this
 have:=h.2 j hj
 unfold evJ at this
 show -1<=e.getD j 0/\e.getD j 0 < D.card j
 rw [List.getD_eq_getElem?_getD]; exact this
theorem Qvh {e:List Int} {j:Nat} (hj:j < e.length):lkI e (j:Int)=some ((e[j]?).getD 0):=by rw [Qm hj,aG hj]; rfl
theorem Qtn (X:VX D) (e:List Int):(evL D e/\Yr D.net e=some 0)\/(¬ evL D e/\Yr D.net e=some 2):=by
 have V:=X.vn
 have hn:=V.n8
 have hlen:D.net.Nodes.length=D.n:=Qo
 obtain ⟨order,hr⟩:=Qtq X
 unfold Yr
 rw [hr,aC,aI (by simp)]
 dsimp only
 rw [hlen]
 by_cases c:e.length=D.n
 ·rw [aI (by simp; omega)]
  have h:=Yo (n:=D.n) (by omega) (evJ D e) (fun i (_:Unit)=>i) (body:=Z0 e (⟨D.net,Qn D.n D.card,Qn D.n (setN D),order⟩,0)) (fun _=>()) (.inr ()) (.inl ())
   (fun j hj hI hg=>by
    obtain ⟨g1,g2⟩:=hg
    unfold Z0
    dsimp only
    rw [c,aH (dlt hj),Qvh (by omega),aC,aI (by simp; exact g1),Z9 hj,aC,aI (by simp; exact g2)])
   (fun j hj hI hg=>by
    unfold Z0
    dsimp only
    rw [c,aH (dlt hj),Qvh (by omega),aC]
    by_cases c1:(e[j]?).getD 0 < -1
    ·rw [aH (by simpa using c1)]
    rw [aI (by simpa using c1),Z9 hj,aC,aH (by
     rw [aN]
     exact Int.not_lt.1 fun hh=>hg ⟨by omega,hh⟩)])
   (fun hI=>by unfold Z0; dsimp only; rw [c,aI (nlt _)])
  rcases h with ⟨h,e1⟩ | ⟨h,e1⟩
  ·left; refine ⟨⟨c,h⟩,?_⟩
   have e1:Qb fuel (Z0 e (⟨D.net,Qn D.n D.card,Qn D.n (setN D),order⟩,0)) 0=some (.inr ()):=e1
   rw [e1]; rfl
  right; refine ⟨fun hh=>h hh.2,?_⟩
  have e1:Qb fuel (Z0 e (⟨D.net,Qn D.n D.card,Qn D.n (setN D),order⟩,0)) 0=some (.inl ()):=e1
  rw [e1]; rfl
 rw [aH (by simp; omega)]
 exact .inr ⟨fun hh=>c hh.1,rfl⟩
theorem Q1l (V:VN D) (e:List Int):(evL D e/\Zo D.net e=some true)\/(¬ evL D e/\Zo D.net e=some false):=by
 have hn:=V.n8
 have hlen:D.net.Nodes.length=D.n:=Qo
 unfold Zo
 rw [hlen]
 by_cases c:e.length=D.n
 ·rw [aI (by simp; omega)]
  have h:=Yo (n:=D.n) (by omega) (evJ D e) (fun i (_:Unit)=>i) (body:=Xw e D.net) (fun _=>()) (.inr ()) (.inl ())
   (fun j hj hI hg=>by
    obtain ⟨g1,g2⟩:=hg
    unfold Xw
    rw [c,aH (dlt hj),Qvh (by omega),aC,aI (by simp; exact g1),V.node hj,aC,aI (by
     rw [aN]; show ¬ (_>=(D.card j:Int)); omega)])
   (fun j hj hI hg=>by
    unfold Xw
    rw [c,aH (dlt hj),Qvh (by omega),aC]
    by_cases c1:(e[j]?).getD 0 < -1
    ·rw [aH (by simpa using c1)]
    rw [aI (by simpa using c1),V.node hj,aC,aH (by
     rw [aN]
     show _>=(D.card j:Int)
     exact Int.not_lt.1 fun hh=>hg ⟨by omega,hh⟩)])
   (fun hI=>by unfold Xw; rw [c,aI (nlt _)])
  rcases h with ⟨h,e1⟩ | ⟨h,e1⟩
  ·left; refine ⟨⟨c,h⟩,?_⟩
   have e1:Qb fuel (Xw e D.net) 0=some (.inr ()):=e1
   rw [e1]; rfl
  right; refine ⟨fun hh=>h hh.2,?_⟩
  have e1:Qb fuel (Xw e D.net) 0=some (.inl ()):=e1
  rw [e1]; rfl
 rw [aH (by simp; omega)]
 exact .inr ⟨fun hh=>c hh.1,rfl⟩
theorem Q3v (X:VX D):X7 D.net=some true:=by
 have V:=X.vn
 have hb:NB D.n D.node:=⟨fun v hv=>by
   have:=V.len v hv
   show (List.map _ (D.par v)).length<=_; rw [bW]; omega,fun v hv=>by
   have:=V.rows_le hv
   show (rowG _ _).length<=_; rw [Qo]; omega,fun v hv r hr=>by
   have hr:r∈rowG (D.rows v) fun r=>rowG (D.card v) fun x=>(D.W v r x:Int):=hr
   unfold rowG at hr
   obtain ⟨i,_,rfl⟩:=cD.1 hr
   have:=(V.card v hv).2
   rw [bW,List.length_range]; omega⟩
 rcases Qrh (g:=D.g) hb with ⟨_,e⟩ | ⟨no,_⟩
 ·exact e
 exact absurd (Q6n X) no
end
end Go.Ab
namespace Go.Ab
open Go
theorem Q0k:Qg9=some true:=by kernel_rfl
end Go.Ab
