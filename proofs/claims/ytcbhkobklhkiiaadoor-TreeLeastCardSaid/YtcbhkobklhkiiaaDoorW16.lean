/- What functions compute. No conditions. -/
import Derived.Test.YtcbhkobklhkiiaaDoorW15
import Derived.Test.YtcbhkobklhkiiaaDoorEng7
import Derived.Test.YtcbhkobklhkiiaaDoorW10
import Derived.Test.YtcbhkobklhkiiaaDoorW14
import Derived.Test.YtcbhkobklhkiiaaDoorRows
import Derived.WalkKit
import Derived.ProofKit
import Derived.LaidMore
import Derived.Lib.LaidTab
import Derived.Stop.LaidErr
import Derived.Stop.Joined
import Derived.OpenShut
set_option linter.all false
namespace Go.Ab
open Go
set_option maxRecDepth 100000
set_option maxHeartbeats 400000
theorem Q35:((List.range 256).all fun R=>isS (Ju (R:Int)) (cnt 8 R.testBit:Int))=true:=by kernel_rfl
theorem Qqp {n a:Nat} (hn:n≤8) (ha:a < 2^n):Ju (a:Int)=some (pc n a:Int):=by
 have p8:(2:Nat)^n≤256:=Nat.pow_le_pow_right (n:=2) (by omega) hn
 have h:=Qsi (Qod Q35 (show a < 256 by omega))
 rw [h]
 congr 2
 unfold pc
 refine Qvj hn fun i h1 h2=>?_
 rw [Bool.eq_false_iff]
 intro hb
 have:=Nat.lt_of_lt_of_le ha (Nat.pow_le_pow_right (n:=2) (by omega) h1)
 rw [Nat.testBit_lt_two_pow this] at hb; cases hb
theorem Q0o {n:Nat} {cl:List Nat} {c s:Nat} (h0:0 < cl.length):upI n (cl++[c]) s=if com n cl s < pc n (c &&& s) then cl.length else upI n cl s:=by
 have hu:=Qsl (n:=n) (s:=s) h0
 by_cases hc:com n cl s < pc n (c &&& s)
 ·rw [if_pos hc]
  have e:com n (cl++[c]) s=pc n (c &&& s):=by rw [Qdl]; omega
  unfold upI
  rw [List.findIdx_append,e]
  have hno:cl.findIdx (fun c'=>Nat.beq (pc n (c' &&& s)) (pc n (c &&& s)))=cl.length:=by
   rw [List.findIdx_eq_length]
   intro x hx
   obtain ⟨k,hk,rfl⟩:=List.mem_iff_getElem.1 hx
   have:=Q3w (n:=n) (s:=s) cl k hk
   rw [Bool.eq_false_iff]
   intro h
   have:=Nat.eq_of_beq_eq_true h; omega
  rw [hno,if_neg (by omega)]
  simp [List.findIdx_cons]
 ·rw [if_neg hc]
  have e:com n (cl++[c]) s=com n cl s:=by rw [Qdl]; omega
  unfold upI
  rw [List.findIdx_append,e]
  unfold upI at hu
  rw [if_pos hu]
theorem Qqw {n:Nat} {cl:List Nat} {s:Nat} (hn:n≤8) (hc:∀c∈cl,c < 2^n) (hs:s < 2^n) (hl:cl.length≤1000) (h0:0 < cl.length):K5 (s:Int) (nI cl)=some ((com n cl s:Int),(upI n cl s:Int)):=by
 have p8:(2:Nat)^n≤256:=Nat.pow_le_pow_right (n:=2) (by omega) hn
 have h:=Zi (n:=cl.length) (k0:=0) (by omega) (by omega) (fun i (t:Int × Int)=>(t.1,t.2,i)) (body:=g_ref10_common_b0 (nI cl) (s:Int)) (fun k=>(if k=0 then -1 else (com n (cl.take k) s:Int),if k=0 then 0 else (upI n (cl.take k) s:Int))) ((com n cl s:Int),(upI n cl s:Int))
  (fun k _ hk=>by
   have h1:=hc _ (List.getElem_mem hk)
   have hsz:Ju (zv (zb (s:Int) &&& zb ((cl[k]:Nat):Int)).toNat)=some (pc n (cl[k] &&& s):Int):=by
    rw [Qsq (by omega) (by omega),Nat.and_comm,Qqp hn (Qsx h1)]
   unfold g_ref10_common_b0
   dsimp only
   rw [Qg,if_pos (dlt hk),Yw hk,Option.bind_some,hsz,Option.bind_some]
   have hk1:¬ (k+1=0):=by omega
   rw [if_neg hk1,if_neg hk1]
   by_cases c0:k=0
   ·subst c0
    have e1:com n (cl.take (0+1)) s=pc n (cl[0] &&& s):=by
     rw [Qt hk,List.take_zero,List.nil_append]
     show max 0 (pc n (cl[0] &&& s))=_
     omega
    have e2:upI n (cl.take (0+1)) s=0:=by
     rw [Qt hk,List.take_zero,List.nil_append]
     have:=Qsl (n:=n) (cl:=[cl[0]]) (s:=s) (by simp)
     simp at this
     exact this
    rw [if_pos rfl,if_pos rfl,if_pos (by rw [decide_eq_true_eq]; omega),Option.bind_some,e1,e2]
   ·have htl:0 < (cl.take k).length:=by rw [List.length_take]; omega
    have hup:=Q0o (n:=n) (c:=cl[k]) (s:=s) htl
    rw [←Qt hk,List.length_take,Nat.min_eq_left (by omega)] at hup
    have hcs:com n (cl.take (k+1)) s=max (com n (cl.take k) s) (pc n (cl[k] &&& s)):=by rw [Qt hk,Qdl]
    rw [if_neg c0,if_neg c0,hcs,hup]
    by_cases c:com n (cl.take k) s < pc n (cl[k] &&& s)
    ·rw [if_pos (by rw [decide_eq_true_eq]; omega),Option.bind_some,if_pos c,Nat.max_eq_right (by omega)]
    ·rw [if_neg (by rw [decide_eq_true_eq]; omega),if_neg c,Nat.max_eq_left (by omega)])
  (by
   unfold g_ref10_common_b0
   dsimp only
   have h2:¬ (cl.length=0):=by omega
   rw [Qg,if_neg (nlt _),if_neg h2,if_neg h2,List.take_length])
 rw [show ((0:Nat):Int)=0 from rfl] at h
 simp only [if_true] at h
 unfold K5
 rw [h]; rfl
def Qd1 (n:Nat) (cl kp:List Nat) (f:Nat → Bool):Nat → Nat × Int
 | 0=>(0,-1)
 | i+1=>if f i=false∧(Qd1 n cl kp f i).2≤(com n cl (kp.getD i 0):Int) then (i,(com n cl (kp.getD i 0):Int)) else Qd1 n cl kp f i
def Xx (f:Nat → Bool) (m:Nat):List Nat := (List.range m).filter fun i=>!f i
def Xf (kp:List Nat) (f:Nat → Bool) (m:Nat):List Nat := (Xx f m).map fun i=>kp.getD i 0
theorem Qrl {n:Nat} {cl l m:List Nat}:∀k,k≤l.length→Yx n cl (l++m) k=Yx n cl l k
 | 0,_=>rfl
 | k+1,h=>by
  simp only [Yx]
  rw [Qrl k (by omega)]
  have:(l++m).getD k 0=l.getD k 0:=by
   rw [List.getD_eq_getElem?_getD,List.getD_eq_getElem?_getD,List.getElem?_append_left (by omega)]
  rw [this]
theorem Qjr {f:Nat → Bool} {i:Nat}:Xx f (i+1)=if f i=true then Xx f i else Xx f i++[i]:=by
 unfold Xx
 rw [List.range_succ,List.filter_append]
 cases h:f i <;> simp [h]
theorem Qvq {n:Nat} {cl kp:List Nat} {f:Nat → Bool}:∀i,(Qd1 n cl kp f i).2=(Yx n cl (Xf kp f i) (Xf kp f i).length).2∧(0 < (Xx f i).length→(Xx f i)[(Yx n cl (Xf kp f i) (Xf kp f i).length).1]?=some (Qd1 n cl kp f i).1)
 | 0=>⟨rfl,fun h=>by simp [Xx] at h⟩
 | i+1=>by
  obtain ⟨h1,h2⟩:=Qvq (n:=n) (cl:=cl) (kp:=kp) (f:=f) i
  by_cases hf:f i=true
  ·have e:Xx f (i+1)=Xx f i:=by rw [Qjr,if_pos hf]
   have e2:Xf kp f (i+1)=Xf kp f i:=by unfold Xf; rw [e]
   rw [e,e2]
   simp only [Qd1]
   rw [if_neg (by simp [hf])]
   exact ⟨h1,h2⟩
  ·have e:Xx f (i+1)=Xx f i++[i]:=by rw [Qjr,if_neg hf]
   have e2:Xf kp f (i+1)=Xf kp f i++[kp.getD i 0]:=by unfold Xf; rw [e]; simp
   have hl:(Xf kp f i).length=(Xx f i).length:=by unfold Xf; simp
   have e3:(Xf kp f i++[kp.getD i 0]).getD (Xf kp f i).length 0=kp.getD i 0:=by
    rw [List.getD_eq_getElem?_getD,List.getElem?_append_right (Nat.le_refl _),Nat.sub_self]; rfl
   rw [e,e2,List.length_append,List.length_singleton]
   simp only [Qd1,Yx]
   rw [Qrl _ (Nat.le_refl _),e3,←h1]
   have hf':f i=false:=by simpa using hf
   by_cases c:(Qd1 n cl kp f i).2≤(com n cl (kp.getD i 0):Int)
   ·rw [if_pos ⟨hf',c⟩,if_pos c]
    refine ⟨rfl,fun _=>?_⟩
    simp only
    rw [hl,List.getElem?_append_right (Nat.le_refl _),Nat.sub_self]; rfl
   ·rw [if_neg (fun h=>c h.2),if_neg c]
    refine ⟨h1,fun _=>?_⟩
    by_cases c0:0 < (Xx f i).length
    ·have h3:=h2 c0
     have hlt:=(List.getElem?_eq_some_iff.1 h3).1
     rw [List.getElem?_append_left hlt]
     exact h3
    ·exfalso
     apply c
     rw [h1]
     have:(Xf kp f i).length=0:=by omega
     rw [this]
     simp only [Yx]; omega
theorem Qld:∀(l:List Nat) (p:Nat) (hp:p < l.length),l.Nodup→l.filter (fun i=>!decide (i=l[p]))=l.eraseIdx p
 | [],p,hp,_=>by simp at hp
 | a::l,0,hp,hn=>by
  rw [List.nodup_cons] at hn
  simp only [List.getElem_cons_zero,List.eraseIdx_zero,List.tail_cons]
  rw [List.filter_cons_of_neg (by simp),List.filter_eq_self.2 fun x hx=>by
   have:x≠a:=fun e=>hn.1 (e ▸ hx)
   simp [this]]
 | a::l,p+1,hp,hn=>by
  rw [List.nodup_cons] at hn
  have hp':p < l.length:=by simpa using hp
  simp only [List.getElem_cons_succ,List.eraseIdx_cons_succ]
  have:a≠l[p]:=fun e=>hn.1 (e ▸ List.getElem_mem hp')
  rw [List.filter_cons_of_pos (by simp [this]),Qld l p hp' hn.2]
def Qlv (f:Nat → Bool) (j:Nat):Nat → Bool:=fun i=>f i || decide (i=j)
theorem Qsz {f:Nat → Bool} {m p j:Nat} (h:(Xx f m)[p]?=some j):Xx (Qlv f j) m=(Xx f m).eraseIdx p:=by
 obtain ⟨hp,e⟩:=List.getElem?_eq_some_iff.1 h
 have hnd:(Xx f m).Nodup:=List.Nodup.sublist List.filter_sublist List.nodup_range
 rw [←Qld _ p hp hnd,e]
 unfold Xx
 rw [List.filter_filter]
 refine List.filter_congr fun i _=>?_
 unfold Qlv
 cases f i <;> cases decide (i=j) <;> rfl
theorem Q0n {kp:List Nat} {f:Nat → Bool} {m p j:Nat} (h:(Xx f m)[p]?=some j):Xf kp (Qlv f j) m=(Xf kp f m).eraseIdx p:=by
 unfold Xf
 rw [Qsz h,List.eraseIdx_eq_take_drop_succ,List.eraseIdx_eq_take_drop_succ,List.map_append,List.map_take,List.map_drop]
theorem Qq5 {f:Nat → Bool} {m j:Nat}:((List.range m).map f).set j true=(List.range m).map (Qlv f j):=by
 apply List.ext_getElem?
 intro i
 rw [List.getElem?_set,List.getElem?_map,List.getElem?_map,List.length_map,List.length_range]
 unfold Qlv
 by_cases c:j=i
 ·subst c
  by_cases c2:j < m
  ·rw [if_pos rfl,if_pos c2,List.getElem?_range c2]; simp
  ·rw [if_pos rfl,if_neg c2,List.getElem?_eq_none (by simp; omega)]; rfl
 ·rw [if_neg c]
  have:¬ i=j:=fun e=>c e.symm
  by_cases c2:i < m
  ·rw [List.getElem?_range c2]; simp [this]
  ·rw [List.getElem?_eq_none (by simp; omega)]; rfl
theorem Q00 {n:Nat} {cl kp:List Nat} {f:Nat → Bool} {Y:List Int} (hn:n≤8) (hc:∀c∈cl,c < 2^n) (hk:∀s∈kp,s < 2^n) (hl:cl.length≤1000) (hl2:kp.length≤1000) (h0:0 < cl.length) :
  Qa fuel (Ko (nI kp) ((List.range kp.length).map f,nI cl,Y)) ((0:Int),(-1:Int),(0:Int))=some ((Qd1 n cl kp f kp.length).1:Int):=by
 have h:=Zi (n:=kp.length) (k0:=0) (by omega) (by omega) (fun i (t:Int × Int)=>(t.1,t.2,i)) (body:=Ko (nI kp) ((List.range kp.length).map f,nI cl,Y)) (fun k=>(((Qd1 n cl kp f k).1:Int),(Qd1 n cl kp f k).2)) ((Qd1 n cl kp f kp.length).1:Int)
  (fun k _ hk'=>by
   have h1:=hk _ (List.getElem_mem hk')
   have e:kp.getD k 0=kp[k]:=by simp [List.getD,hk']
   have ef:lkI ((List.range kp.length).map f) (k:Int)=some (f k):=by rw [Q4 (by simpa using hk')]; simp
   unfold Ko
   dsimp only
   rw [Qg,if_pos (dlt hk'),Yw hk',Option.bind_some,Qqw hn hc h1 hl h0,Option.bind_some,ef,Option.bind_some]
   simp only [Qd1,e]
   by_cases c1:f k=true
   ·rw [if_neg (by simp [c1]),if_neg (by simp [c1])]
   ·have c1':f k=false:=by simpa using c1
    rw [if_pos (by simp [c1'])]
    by_cases c2:(Qd1 n cl kp f k).2≤(com n cl kp[k]:Int)
    ·rw [if_pos (by simpa using c2),if_pos ⟨c1',c2⟩]
    ·rw [if_neg (by simpa using c2),if_neg (fun h=>c2 h.2)])
  (by unfold Ko; dsimp only; rw [Qg,if_neg (nlt _)])
 exact h
theorem Qq7 {n:Nat} {kp:List Nat} (hn:n≤8) (hk:∀s∈kp,s < 2^n) (hl2:kp.length≤500):∀(k N:Nat) (f:Nat → Bool) (cl up:List Nat),(Xx f kp.length).length=k→cl.length+k=kp.length→k < N→(∀c∈cl,c < 2^n)→0 < cl.length→up.length≤cl.length →
  Qa N (V6 (nI kp)) ((List.range kp.length).map f,nI cl,(-1:Int)::nI up)=some (nI (bld n k (Xf kp f kp.length) cl up).1,(-1:Int)::nI (bld n k (Xf kp f kp.length) cl up).2)
 | 0,N,f,cl,up,hf,hm,hN,hc,h0,hu=>by
  obtain ⟨N,rfl⟩:∃M,N=M+1:=⟨N - 1,by omega⟩
  have hb:V6 (nI kp) ((List.range kp.length).map f,nI cl,(-1:Int)::nI up)=some (.done (nI cl,(-1:Int)::nI up)):=by
   unfold V6
   dsimp only
   rw [Qg,Qg,if_neg (by rw [decide_eq_true_eq]; omega)]
  simp only [Qa,hb,bld]
 | k+1,N,f,cl,up,hf,hm,hN,hc,h0,hu=>by
  obtain ⟨N,rfl⟩:∃M,N=M+1:=⟨N - 1,by omega⟩
  have hll:(Xf kp f kp.length).length=k+1:=by unfold Xf; rw [List.length_map]; exact hf
  obtain ⟨_,h2⟩:=Qvq (n:=n) (cl:=cl) (kp:=kp) (f:=f) kp.length
  have h3:=h2 (by omega)
  have hpi:(Yx n cl (Xf kp f kp.length) (Xf kp f kp.length).length).1=pickI n cl (Xf kp f kp.length):=rfl
  rw [hpi] at h3
  generalize hj:(Qd1 n cl kp f kp.length).1=j at h3
  obtain ⟨hp,e3⟩:=List.getElem?_eq_some_iff.1 h3
  have hjm:j < kp.length:=by
   have:j∈Xx f kp.length:=List.mem_of_getElem? h3
   unfold Xx at this
   exact List.mem_range.1 (List.mem_filter.1 this).1
  have hset:(Xf kp f kp.length).getD (pickI n cl (Xf kp f kp.length)) 0=kp[j]:=by
   unfold Xf at h3 ⊢
   rw [List.getD_eq_getElem?_getD,List.getElem?_map]
   have h3':(Xx f kp.length)[pickI n cl (List.map (fun i=>kp.getD i 0) (Xx f kp.length))]?=some j:=h3
   rw [h3']
   simp [hjm]
  have hkj:=hk _ (List.getElem_mem hjm)
  have el:lkI ((List.range kp.length).map f) (j:Int)=some (f j):=by rw [Q4 (by simpa using hjm)]; simp
  have hb:V6 (nI kp) ((List.range kp.length).map f,nI cl,(-1:Int)::nI up)=some (.next ((List.range kp.length).map (Qlv f j),nI (cl++[kp[j]]),(-1:Int)::nI (up++[upI n cl kp[j]]))):=by
   unfold V6
   dsimp only
   rw [Qg,Qg,if_pos (by rw [decide_eq_true_eq]; omega),Q00 hn hc hk (by omega) (by omega) h0,Option.bind_some,hj,Yw hjm,Option.bind_some,Qqw hn hc hkj (by omega) h0,Option.bind_some]
   dsimp only
   rw [if_pos (by rw [List.length_append,Qg]; simp; omega),if_pos (by rw [List.length_append,List.length_cons,Qg]; simp; omega),el,Option.bind_some,Int.toNat_natCast,Qq5]
   congr 3
   all_goals (unfold nI; simp)
  have ih:=Qq7 hn hk hl2 k N (Qlv f j) (cl++[kp[j]]) (up++[upI n cl kp[j]]) (by rw [Qsz h3,List.length_eraseIdx,if_pos hp]; omega) (by simp; omega) (by omega)
   (fun c h=>by
    rcases List.mem_append.1 h with h | h
    ·exact hc c h
    ·simp only [List.mem_singleton] at h; rw [h]; exact hkj) (by simp) (by simp; omega)
  rw [Q0n h3] at ih
  simp only [Qa,hb,bld]
  rw [hset]
  exact ih
theorem Qw5 {n v:Nat} {g:Int} {F:Nat → Tapi_Node} (hf:Qah n g F) (hv:v < n):Qci ⟨g,rowG n F⟩ (v:Int)=some ((msk n (FG (Qd F) v):Nat):Int):=by
 have hn:=hf.n8
 have hpar:=fun v hv=>(Vn (hf.node v hv).1.1).2.2
 unfold Qci
 rw [Qki hn (fun v hv=>(hf.node v hv).1.1),Option.bind_some,Qi6 hn hpar,Kz hv,Option.bind_some,X8 (n:=v) (by omega),if_pos (Zm v),Quh (by omega) hv]
theorem Q1c {n:Nat} {g:Int} {F:Nat → Tapi_Node} {cl:List Nat} {v:Nat} {X Y:List Int} (hf:Qah n g F) (hv:v < n) (hc:∀c∈cl,c < 18446744073709551616) (hl:cl.length≤1000) (h:∃c∈cl,Xc (msk n (FG (Qd F) v)) c=true) :
  Qa fuel (Ki ⟨g,rowG n F⟩ ((v:Int),X) (nI cl,Y)) 0=some (homeI cl (msk n (FG (Qd F) v)):Int):=by
 have hn:=hf.n8
 have p8:(2:Nat)^n≤256:=Nat.pow_le_pow_right (n:=2) (by omega) hn
 have hfl:msk n (FG (Qd F) v) < 18446744073709551616:=by have:=Zt n (FG (Qd F) v); omega
 have hu:=Qvx h
 have hstep:∀k (hk:k < cl.length),Ki ⟨g,rowG n F⟩ ((v:Int),X) (nI cl,Y) (k:Int)=some (if Xc (msk n (FG (Qd F) v)) cl[k]=true then .done (k:Int) else .next (zw ((k:Int)+1))):=fun k hk=>by
  unfold Ki
  dsimp only
  rw [Qw5 hf hv,Option.bind_some,Yw hk,Option.bind_some]
  have hw:=Qgz hfl (hc _ (List.getElem_mem hk))
  by_cases c:Xc (msk n (FG (Qd F) v)) cl[k]=true
  ·have:=hw.2 c
   rw [if_neg (by simp at this ⊢; exact this),if_pos c]
  ·have:¬ _:=fun hh=>c (hw.1 hh)
   rw [if_pos (by simp at this ⊢; exact this),if_neg c]
 generalize msk n (FG (Qd F) v)=fm at *
 have hr:=Jh (n:=homeI cl fm+1) (k0:=0) (by omega) (by omega) (fun i (_:Unit)=>i) (body:=Ki ⟨g,rowG n F⟩ ((v:Int),X) (nI cl,Y)) (fun k _=>k≤homeI cl fm) (fun r=>r=(homeI cl fm:Int))
  (fun k _ _ hk _=>by
   by_cases e:k=homeI cl fm
   ·right
    refine ⟨(k:Int),?_,by rw [e]⟩
    rw [hstep k (by omega),if_pos (by
     have:=List.findIdx_getElem (w:=hu)
     unfold homeI at e
     subst e; exact this)]
   ·left
    refine ⟨(),?_,by omega⟩
    rw [hstep k (by omega),if_neg (by
     have:=List.not_of_lt_findIdx (show k < cl.findIdx (Xc fm) by unfold homeI at hk e; omega)
     intro h
     rw [h] at this; cases this)])
  (fun _ hI=>by omega) () (by omega)
 obtain ⟨r,e1,rfl⟩:=hr
 exact e1
theorem Qol {m:Nat} (h:0 < m):Xx (fun i=>decide (i=m - 1)) m=List.range (m - 1):=by
 obtain ⟨k,rfl⟩:∃k,m=k+1:=⟨m - 1,by omega⟩
 rw [Qjr,if_pos (by simp)]
 unfold Xx
 rw [List.filter_eq_self.2 fun x hx=>by
  have:=List.mem_range.1 hx
  simp; omega]
 simp
theorem Qxa {kp:List Nat} (h:0 < kp.length):Xf kp (fun i=>decide (i=kp.length - 1)) kp.length=kp.take (kp.length - 1):=by
 unfold Xf
 rw [Qol h]
 apply List.ext_getElem?
 intro i
 rw [List.getElem?_map,List.getElem?_take]
 by_cases c:i < kp.length - 1
 ·rw [List.getElem?_range c,if_pos c,List.getElem?_eq_getElem (by omega)]
  simp [List.getElem?_eq_getElem (show i < kp.length by omega)]
 ·rw [if_neg c,List.getElem?_eq_none (by simp; omega)]; rfl
theorem Q1k {n:Nat} {g:Int} {F:Nat → Tapi_Node} {o:List Nat} (hf:Qah n g F) (ho:Ord n o):Qbh ⟨g,rowG n F⟩ (nI o)=some (mkT n (Qd F) o):=by
 have hn:=hf.n8
 have h1:=hf.n1
 have hpar:=fun v hv=>(Vn (hf.node v hv).1.1).2.2
 have hself:∀v,v < n→v ∉ Qd F v:=fun v hv hm=>by
  obtain ⟨rk,hrk⟩:=hf.rank
  have:=hrk v hv v hm; omega
 have p8:(2:Nat)^n≤256:=Nat.pow_le_pow_right (n:=2) (by omega) hn
 have hop:0 < o.length:=by rw [ho.len]; omega
 have hp:=Qmx (n:=n) (A:=mg n (Qd F)) hop
 have hle:=Qsj (n:=n) (A:=mg n (Qd F)) (o:=o)
 rw [ho.len] at hle
 obtain ⟨m1,m2,m3⟩:=Qmq (n:=n) (A:=mg n (Qd F)) hop
 have hlt:∀s∈mkK n (mg n (Qd F)) o,s < 2^n:=Qy1
 have hsets:Jz ⟨g,rowG n F⟩ (nI o)=some (nI (setL n (mg n (Qd F)) o)):=by
  unfold Jz
  rw [Qki hn (fun v hv=>(hf.node v hv).1.1),Option.bind_some,Qi6 hn hpar,Qre h1 hn hself,Option.bind_some,Qum h1 hn Qdu ho.lt ho.nodup]; rfl
 have hkeep:=Qz6 (l:=setL n (mg n (Qd F)) o) (by rw [Vo,ho.len]; omega) (fun s hs=>by have:=Qm3 _ _ s hs; omega)
 unfold Qbh
 rw [hsets,Option.bind_some,hkeep,Option.bind_some]
 rw [show Z8 (setL n (mg n (Qd F)) o)=mkK n (mg n (Qd F)) o from rfl,Qg,w64 (n:=((mkK n (mg n (Qd F)) o).length:Int) - 1) (by omega),show ((mkK n (mg n (Qd F)) o).length:Int) - 1=(((mkK n (mg n (Qd F)) o).length - 1:Nat):Int) by omega,Yw (by omega),Option.bind_some,if_pos (by omega),Int.toNat_natCast,Q4 (by rw [List.length_replicate]; omega),Option.bind_some,Option.bind_some,Int.toNat_natCast]
 have eg:(mkK n (mg n (Qd F)) o).getD ((mkK n (mg n (Qd F)) o).length - 1) 0=(mkK n (mg n (Qd F)) o)[(mkK n (mg n (Qd F)) o).length - 1]:=by
  rw [List.getD_eq_getElem?_getD,List.getElem?_eq_getElem (by omega)]; rfl
 have efl:(List.replicate (mkK n (mg n (Qd F)) o).length false).set ((mkK n (mg n (Qd F)) o).length - 1) true=(List.range (mkK n (mg n (Qd F)) o).length).map (fun i=>decide (i=(mkK n (mg n (Qd F)) o).length - 1)):=by
  have e0:List.replicate (mkK n (mg n (Qd F)) o).length false=(List.range (mkK n (mg n (Qd F)) o).length).map fun _=>false:=by
   apply List.ext_getElem?
   intro i
   rw [List.getElem?_replicate,List.getElem?_map]
   by_cases c:i < (mkK n (mg n (Qd F)) o).length
   ·rw [if_pos c,List.getElem?_range c]; rfl
   ·rw [if_neg c,List.getElem?_eq_none (by simp; omega)]; rfl
  rw [e0,Qq5]
  refine List.map_congr_left fun i _=>?_
  unfold Qlv; simp
 have hbl:=Qq7 hn hlt (by omega) ((mkK n (mg n (Qd F)) o).length - 1) fuel (fun i=>decide (i=(mkK n (mg n (Qd F)) o).length - 1)) [(mkK n (mg n (Qd F)) o).getD ((mkK n (mg n (Qd F)) o).length - 1) 0] [] (by rw [Qol hp,List.length_range]) (by simp; omega) (by show _ < 1152921504606846976; omega)
  (fun c hc=>by simp only [List.mem_singleton] at hc; rw [hc,eg]; exact hlt _ (List.getElem_mem _)) (by simp) (by simp)
 rw [Qxa hp] at hbl
 rw [show nI [(mkK n (mg n (Qd F)) o).getD ((mkK n (mg n (Qd F)) o).length - 1) 0]=[(((mkK n (mg n (Qd F)) o)[(mkK n (mg n (Qd F)) o).length - 1]:Nat):Int)] by unfold nI; rw [eg]; rfl,show nI []=[] from rfl] at hbl
 rw [efl,hbl,Option.bind_some]
 rw [show bld n ((mkK n (mg n (Qd F)) o).length - 1) ((mkK n (mg n (Qd F)) o).take ((mkK n (mg n (Qd F)) o).length - 1)) [(mkK n (mg n (Qd F)) o).getD ((mkK n (mg n (Qd F)) o).length - 1) 0] []=mkB n (mg n (Qd F)) o from rfl]
 have hcl:∀c∈(mkB n (mg n (Qd F)) o).1,c < 18446744073709551616:=fun c hc=>by have:=hlt c ((m1 c).2 hc); omega
 have hlen:(rowG n F).length=n:=Z1
 have h:=Zi (n:=n) (k0:=0) (by omega) (by omega) (fun i (t:List Int)=>(i,t)) (body:=Qa6 ⟨g,rowG n F⟩ (nI (mkB n (mg n (Qd F)) o).1,(-1:Int)::nI (mkB n (mg n (Qd F)) o).2))
  (fun k=>nI ((List.range k).map fun v=>homeI (mkB n (mg n (Qd F)) o).1 (msk n (FG (Qd F) v)))) (nI ((List.range n).map fun v=>homeI (mkB n (mg n (Qd F)) o).1 (msk n (FG (Qd F) v))))
  (fun k _ hk=>by
   unfold Qa6
   dsimp only
   rw [hlen,if_pos (dlt hk),Q1c hf hk hcl (by omega) (Qzl ho hk (hpar k hk)),Option.bind_some,if_pos (by rw [List.length_append,Qg,List.length_map,List.length_range]; simp; omega)]
   congr 3
   rw [List.range_succ,List.map_append,←Qrj]; rfl)
  (by unfold Qa6; dsimp only; rw [hlen,if_neg (nlt n)])
 rw [show ((0:Nat):Int)=0 from rfl] at h
 rw [show nI ((List.range 0).map fun v=>homeI (mkB n (mg n (Qd F)) o).1 (msk n (FG (Qd F) v)))=[] from rfl] at h
 rw [h]; rfl
end Go.Ab
namespace Go.Ab
open Go
theorem Qn6 {cs:List AV} (h:WT (.int .u8) cs):∃a:Int,cs=[(AV.int .u8) a]∧(Lit.int .u8 a).wf=true:=by
 obtain ⟨n,rfl,w⟩:=h
 exact ⟨n,rfl,w⟩
theorem el5 {x:AV} (h:WT (.int .u8) x.flat ∧ (if false then x=.agg x.flat else x.cell=true)):∃a:Int,x=(AV.int .u8) a∧(Lit.int .u8 a).wf=true:=by
 obtain ⟨a,h1,h2⟩:=Qn6 h.1
 rw [Qzr h.2] at h1
 exact ⟨a,(List.cons.inj h1).1,h2⟩
theorem Q2h {cs:List AV} (h:WT (.slice true false 1 (.int .u8)) cs):∃a:(List Int),cs=[(eL true (AV.int .u8)) a]∧(a.length≤maxLen∧∀y0∈a,(Lit.int .u8 y0).wf=true):=by
 obtain ⟨xs,rfl,hl,hx⟩:=h
 obtain ⟨l,rfl,hr⟩:=Qui (enc:=(AV.int .u8)) (R:=fun a=>(Lit.int .u8 a).wf=true) (fun x hm=>el5 (hx x hm))
 exact ⟨l,rfl,by simpa using hl,hr⟩
def Yd (x:Qy):Prop:=((Lit.int .u8 x.Card).wf=true)∧((Lit.int .u8 x.Parents).wf=true)∧((x.W.length≤maxLen∧∀y0∈x.W,(Lit.int .u8 y0).wf=true))
theorem Qir {cs:List AV} (h:WT (.cat (.int .u8) (.cat (.int .u8) (.cat (.slice true false 1 (.int .u8)) .unit))) cs):∃x:Qy,AV.agg cs=eTharuspexref05_Piece x∧Yd x:=by
 obtain ⟨_,_,rfl,a0,r0⟩:=h
 obtain ⟨v0,e0,w0⟩:=Qn6 a0
 cases e0
 obtain ⟨_,_,rfl,a1,r1⟩:=r0
 obtain ⟨v1,e1,w1⟩:=Qn6 a1
 cases e1
 obtain ⟨_,_,rfl,a2,r2⟩:=r1
 obtain ⟨v2,e2,w2⟩:=Q2h a2
 cases e2
 cases r2
 exact ⟨⟨v0,v1,v2⟩,rfl,⟨w0,w1,w2⟩⟩
theorem Q5e {x:AV} (h:WT (.cat (.int .u8) (.cat (.int .u8) (.cat (.slice true false 1 (.int .u8)) .unit))) x.flat ∧ (if true then x=.agg x.flat else x.cell=true)):∃a:Qy,x=eTharuspexref05_Piece a∧Yd a:=by
 obtain ⟨a,h1,h2⟩:=Qir h.1
 have h3:x=.agg x.flat := h.2
 exact ⟨a,h3.trans h1,h2⟩
theorem Q41 {cs:List AV} (h:WT (.slice false true 3 (.cat (.int .u8) (.cat (.int .u8) (.cat (.slice true false 1 (.int .u8)) .unit)))) cs):∃a:(List Qy),cs=[(eL false eTharuspexref05_Piece) a]∧(a.length≤maxLen∧∀y0∈a,Yd y0):=by
 obtain ⟨xs,rfl,hl,hx⟩:=h
 obtain ⟨l,rfl,hr⟩:=Qui (enc:=eTharuspexref05_Piece) (R:=fun a=>Yd a) (fun x hm=>Q5e (hx x hm))
 exact ⟨l,rfl,by simpa using hl,hr⟩
def Vt (x:Qe):Prop:=((Lit.int .u8 x.Grain).wf=true)∧((x.Nodes.length≤maxLen∧∀y0∈x.Nodes,Yd y0))∧((x.Order.length≤maxLen∧∀y0∈x.Order,(Lit.int .u8 y0).wf=true))
theorem rdTharuspexref05_Draft {cs:List AV} (h:WT (.cat (.int .u8) (.cat (.slice false true 3 (.cat (.int .u8) (.cat (.int .u8) (.cat (.slice true false 1 (.int .u8)) .unit)))) (.cat (.slice true false 1 (.int .u8)) .unit))) cs):∃x:Qe,AV.agg cs=eTharuspexref05_Draft x∧Vt x:=by
 obtain ⟨_,_,rfl,a0,r0⟩:=h
 obtain ⟨v0,e0,w0⟩:=Qn6 a0
 cases e0
 obtain ⟨_,_,rfl,a1,r1⟩:=r0
 obtain ⟨v1,e1,w1⟩:=Q41 a1
 cases e1
 obtain ⟨_,_,rfl,a2,r2⟩:=r1
 obtain ⟨v2,e2,w2⟩:=Q2h a2
 cases e2
 cases r2
 exact ⟨⟨v0,v1,v2⟩,rfl,⟨w0,w1,w2⟩⟩
theorem Q5s {cs:List AV} (h:WT (.int .i64) cs):∃a:Int,cs=[eI a]∧(Lit.int .i64 a).wf=true:=by
 obtain ⟨n,rfl,w⟩:=h
 exact ⟨n,rfl,w⟩
def K7 (x:Q9):Prop:=((Lit.int .u8 x.What).wf=true)∧((Lit.int .u8 x.At).wf=true)∧((Lit.int .u8 x.Row).wf=true)∧((Lit.int .i64 x.N).wf=true)
theorem rdTharuspexref05_Bend {cs:List AV} (h:WT (.cat (.int .u8) (.cat (.int .u8) (.cat (.int .u8) (.cat (.int .i64) .unit)))) cs):∃x:Q9,AV.agg cs=eTharuspexref05_Bend x∧K7 x:=by
 obtain ⟨_,_,rfl,a0,r0⟩:=h
 obtain ⟨v0,e0,w0⟩:=Qn6 a0
 cases e0
 obtain ⟨_,_,rfl,a1,r1⟩:=r0
 obtain ⟨v1,e1,w1⟩:=Qn6 a1
 cases e1
 obtain ⟨_,_,rfl,a2,r2⟩:=r1
 obtain ⟨v2,e2,w2⟩:=Qn6 a2
 cases e2
 obtain ⟨_,_,rfl,a3,r3⟩:=r2
 obtain ⟨v3,e3,w3⟩:=Q5s a3
 cases e3
 cases r3
 exact ⟨⟨v0,v1,v2,v3⟩,rfl,⟨w0,w1,w2,w3⟩⟩
end Go.Ab
namespace Go.Ab
open Go
set_option maxRecDepth 100000
set_option maxHeartbeats 400000
theorem Qmw {n:Int} (h:(Lit.int .u8 n).wf=true):0≤n∧n≤255:=by
 simpa [Lit.wf,IntKind.min,IntKind.max,IntKind.bits,IntKind.signed] using h
theorem Q2q {p0:Qe} (h:Vt p0):Qv9 p0:=by
 refine ⟨Qmw h.1,fun x hx=>Qmw (h.2.2.2 x hx),fun p hp=>Qmw (h.2.1.2 p hp).1,fun p hp x hx=>Qmw ((h.2.1.2 p hp).2.2.2 x hx),fun p hp=>?_⟩
 have:=(h.2.1.2 p hp).2.2.1
 unfold maxLen at this; omega
theorem Q0w {n:Nat} {f:Nat → Int}:(rowG n f).sum=Q5 n f:=by
 induction n with
 | zero=>rfl
 | succ n ih=>rw [←Qhs,List.sum_append,ih]; simp [Q5]
theorem Qz9 {D:NF} (X:VX D):Qah D.n D.g D.node:=by
 have V:=X.vn
 have hc:∀v,v < D.n→K2 (D.node v):=fun v hv=>by
  have:=V.card v hv
  exact ⟨by show (1:Int)≤(D.card v:Int); omega,by show (D.card v:Int)≤4; omega⟩
 have ec:cardN D.node=D.card:=funext fun v=>by unfold cardN NF.node; simp
 have ep:Qd D.node=D.par:=funext fun v=>by
  unfold Qd NF.node
  rw [List.map_map]
  conv=>rhs; rw [←List.map_id (D.par v)]
  exact List.map_congr_left fun x _=>by simp
 refine ⟨by have:=V.g1; omega,by have:=V.g60; omega,V.n1,V.n8,hc,by rw [ec]; exact V.worlds,fun v hv=>⟨⟨⟨D.par v,rfl,X.sorted v hv,V.par v hv⟩,fun hm=>?_⟩,?_,fun r hr=>?_⟩,by rw [ep]; obtain ⟨rk,h⟩:=X.rank; exact ⟨rk,h⟩⟩
 ·have hm:(v:Int)∈nI (D.par v):=hm
  unfold nI at hm
  obtain ⟨p,hp,e⟩:=List.mem_map.1 hm
  have:p=v:=by omega
  subst this
  exact X.self p hv hp
 ·rw [ec,ep]; show (rowG (D.rows v) _).length=_; rw [Z1]; rfl
 ·have hr:r∈rowG (D.rows v) fun r=>rowG (D.card v) fun x=>(D.W v r x:Int):=hr
  unfold rowG at hr
  obtain ⟨i,hi,rfl⟩:=List.mem_map.1 hr
  have hi:=List.mem_range.1 hi
  have e:=X.sum v i hv hi
  have h1:((List.range (D.card v)).map fun x=>(D.W v i x:Int))=rowG (D.card v) fun x=>(D.W v i x:Int):=rfl
  rw [h1]
  refine ⟨by rw [Z1]; rfl,fun w hw=>?_,by rw [Q0w]; exact e⟩
  unfold rowG at hw
  obtain ⟨x,_,rfl⟩:=List.mem_map.1 hw
  omega
theorem Qw3 {D:NF} (X:VX D):∀x∈rowG D.n D.node,Kj 65536 x:=fun x hx=>by
 have V:=X.vn
 unfold rowG at hx
 obtain ⟨v,hv,rfl⟩:=List.mem_map.1 hx
 have hv:=List.mem_range.1 hv
 have hc:=V.card v hv
 refine ⟨?_,?_,fun r hr=>?_⟩
 ·have:=V.len v hv
  show (List.map _ (D.par v)).length≤_
  rw [List.length_map]; omega
 ·show (rowG (D.rows v) _).length≤_
  rw [Z1]; exact V.rows_le hv
 ·have hr:r∈rowG (D.rows v) fun r=>rowG (D.card v) fun x=>(D.W v r x:Int):=hr
  unfold rowG at hr
  obtain ⟨i,hi,rfl⟩:=List.mem_map.1 hr
  rw [List.length_map,List.length_range]; omega
theorem Q20 {n:Nat} {F:Nat → Tapi_Node} (h:∀x∈rowG n F,Kj 65536 x):NB n F:=by
 have key:∀v,v < n→Kj 65536 (F v):=fun v hv=>h _ (by unfold rowG; exact List.mem_map.2 ⟨v,List.mem_range.2 hv,rfl⟩)
 exact ⟨fun v hv=>by have:=(key v hv).par; omega,fun v hv=>by have:=(key v hv).rows; omega,fun v hv r hr=>by have:=(key v hv).row r hr; omega⟩
theorem Q0h {p0:Qe} {p1:Q9} (h0:Vt p0) (h1:K7 p1) :
  ∃(D:NF) (n:Nat) (g:Int) (F:Nat → Tapi_Node),VX D∧D.n≤5∧NB D.n D.node∧Qah D.n D.g D.node∧NB n F∧n≤6∧Jj p0=some ⟨D.g,rowG D.n D.node⟩∧Kh p1 ⟨D.g,rowG D.n D.node⟩=some ⟨g,rowG n F⟩:=by
 obtain ⟨D,X,hn,_,e⟩:=Qzc (Q2q h0)
 have hs:=Qw3 X
 have V:=X.vn
 have hlen:(rowG D.n D.node).length=D.n:=Z1
 obtain ⟨g,l,e2,h2,h3⟩:=Q0s (b:=p1) (g:=D.g) (l:=rowG D.n D.node) (m:=65536) (by omega) (by rw [hlen]; exact V.n1) (by rw [hlen]; exact V.n8) hs (Qmw h1.2.1) (Qmw h1.2.2.1)
 rw [hlen] at h2
 refine ⟨D,l.length,g,fun v=>(l[v]?).getD default,X,hn,Q20 hs,Qz9 X,Q49 (m:=65536+1) (by omega) h3,by omega,e,?_⟩
 rw [e2,←Q0y]
theorem Qy0 (l:List Int) (h:l.length≤1000):Qee l l=some true:=by
 unfold Qee
 rw [if_neg (by simp)]
 have hr:=Zi (n:=l.length) (k0:=0) (by omega) (by omega) (fun i (_:Unit)=>i) (body:=Qa5 l l) (fun _=>()) (.inr ())
  (fun k _ hk=>by
   unfold Qa5
   rw [if_pos (dlt hk),Q4 hk,Option.bind_some,Option.bind_some,if_neg (by simp)])
  (by unfold Qa5; rw [if_neg (nlt _)])
 rw [show ((0:Nat):Int)=0 from rfl] at hr
 rw [hr]; rfl
theorem Qq1 (l:List Int) (h:l.length≤1000):Qbf l l=some true:=by
 unfold Qbf
 rw [if_neg (by simp)]
 have hr:=Zi (n:=l.length) (k0:=0) (by omega) (by omega) (fun i (_:Unit)=>i) (body:=Qba l l) (fun _=>()) (.inr ())
  (fun k _ hk=>by
   unfold Qba
   rw [if_pos (dlt hk),Q4 hk,Option.bind_some,Option.bind_some,if_neg (by simp)])
  (by unfold Qba; rw [if_neg (nlt _)])
 rw [show ((0:Nat):Int)=0 from rfl] at hr
 rw [hr]; rfl
theorem Qrm (t:Qq) (h1:t.Cliques.length≤1000) (h2:t.Up.length≤1000) (h3:t.Home.length≤1000):Vy t t=some true:=by
 unfold Vy
 rw [Qy0 _ h1,Option.bind_some,if_pos rfl,Qq1 _ h2,Option.bind_some,if_pos rfl,Qq1 _ h3]; rfl
theorem Q28 {n:Nat} {q:Nat → List Nat} {o:List Nat} (ho:Ord n o) (h1:1≤n):(mkT n q o).Cliques.length≤n∧1≤(mkT n q o).Cliques.length∧(mkT n q o).Up.length=(mkT n q o).Cliques.length∧(mkT n q o).Home.length=n:=by
 have hop:0 < o.length:=by rw [ho.len]; omega
 have hp:=Qmx (n:=n) (A:=mg n q) hop
 have hle:=Qsj (n:=n) (A:=mg n q) (o:=o)
 rw [ho.len] at hle
 obtain ⟨_,m2,m3⟩:=Qmq (n:=n) (A:=mg n q) hop
 have c1:(mkT n q o).Cliques.length=(mkK n (mg n q) o).length:=by show (nI _).length=_; rw [Qg,m2]
 have c2:(mkT n q o).Up.length=(mkK n (mg n q) o).length:=by show ((-1:Int)::nI _).length=_; rw [List.length_cons,Qg,m3]; omega
 have c3:(mkT n q o).Home.length=n:=by show (nI _).length=_; rw [Qg,List.length_map,List.length_range]
 exact ⟨by omega,by omega,by omega,c3⟩
theorem Qwc:Qf1=some true:=by kernel_rfl
end Go.Ab
namespace Go.Ab
open Go
set_option maxRecDepth 100000
set_option maxHeartbeats 400000
section
variable {n:Nat} {q:Nat → List Nat} {o:List Nat}
end
theorem Qx9 {n v:Nat} {A:Gr} (hG:Y0 n A) (hv:v < n):pc n (msk n (setP A v))=cnt n (A v)+1:=by
 unfold pc
 have h:=Qjc (n:=n) (v:=v) (p:=setP A v) hv (by unfold setP; simp)
 have e:cnt n (fun i=>setP A v i && !decide (v=i))=cnt n (A v):=Qbq fun i _=>by
  unfold setP
  by_cases c:v=i
  ·subst c; simp [hG.irr]
  ·simp [c]
 rw [e] at h
 rw [show cnt n (msk n (setP A v)).testBit=cnt n (setP A v) from Qbq fun i hi=>Y3 i hi]
 omega
end Go.Ab
namespace Go.Ab
open Go
set_option maxRecDepth 100000
set_option maxHeartbeats 400000
noncomputable def Qfa (n:Nat) (q:Nat → List Nat):List Nat := Jn n (mg n q) (wid n (mg n q) n fun _=>true) n fun _=>true
theorem Qn3 {n:Nat} {q:Nat → List Nat} (h1:1≤n):Ord n (Qfa n q):=by
 have hG:=Qdu (n:=n) (q:=q)
 obtain ⟨h,hl⟩:=Qkj (A:=mg n q) (Qox hG h1 n (fun _=>true) (Qdr n)) n (fun _=>true) (Qdr n) (Nat.le_refl _)
 exact ⟨hl,fun v hv=>((h.mem v).1 hv).1,h.nodup⟩
theorem Qo9 {n:Nat} {g:Int} {F:Nat → Tapi_Node} (hb:NB n F) (hbig:n≤1000) :
  (¬ Qah n g F∧K6 ⟨g,rowG n F⟩=some (Qya,50))∨(Qah n g F∧K6 ⟨g,rowG n F⟩=some (mkT n (Qd F) (Qfa n (Qd F)),0)):=by
 unfold K6
 rcases Qz5 (g:=g) hb (by omega) with ⟨hf,e⟩ | ⟨hf,e⟩
 ·right
  refine ⟨hf,?_⟩
  have hB:=Qy3 hf.n1 (by have:=hf.n8; omega) (Qdu (n:=n) (q:=Qd F))
  rw [e,Option.bind_some,if_neg (by simp),Qps hb hf,Option.bind_some,if_neg (by simp)]
  dsimp only
  rw [hB,Option.bind_some]
  dsimp only
  rw [if_neg (by simp),show Jn n (mg n (Qd F)) (wid n (mg n (Qd F)) n fun _=>true) n (fun _=>true)=Qfa n (Qd F) from rfl,Q0t hb hf (Qn3 hf.n1)]
  rfl
 ·left
  refine ⟨hf,?_⟩
  rw [e,Option.bind_some,if_pos (by decide)]; rfl
end Go.Ab
namespace Go.Ab
open Go
set_option maxRecDepth 100000
set_option maxHeartbeats 400000
def lft (b:List Nat):Nat → Bool:=fun i=>!b.contains i
theorem Qva:lft []=fun _=>true:=rfl
theorem Qta {b:List Nat} {v:Nat}:lft (b++[v])=rem (lft b) v:=funext fun i=>by
 unfold lft rem
 rw [List.contains_append]
 by_cases c:v=i
 ·subst c; simp
 ·have:¬ i=v:=fun e=>c e.symm
  simp [c,this]
theorem Qqn {n:Nat} {A:Gr} (hG:Y0 n A):∀(m:Nat) (b:List Nat),b.length=m→b.Nodup→seqA A b=Egr A (lft b)
 | 0,b,hm,_=>by
  have:=List.length_eq_zero_iff.1 hm
  subst this
  rw [Qva,Q1n hG fun _ _ _=>rfl]; rfl
 | m+1,b,hm,hn=>by
  have hne:b≠[]:=fun e=>by subst e; simp at hm
  obtain ⟨b',v,rfl⟩:∃b' v,b=b'++[v]:=⟨b.dropLast,b.getLast hne,(List.dropLast_concat_getLast hne).symm⟩
  have hn':=List.nodup_append.1 hn
  have hv:lft b' v=true:=by
   unfold lft
   simp only [Bool.not_eq_true',List.contains_eq_mem,decide_eq_false_iff_not]
   exact fun h=>hn'.2.2 v h v (by simp) rfl
  rw [Qk4,Qqn hG m b' (by simpa using hm) hn'.1,Q1u hG hv,Qta]
section
variable {n:Nat} {g:Int} {F:Nat → Tapi_Node} {w:Nat}
theorem Q24 {b:List Nat} {v:Nat} (hb:b.length≤1000):Qa fuel (V5 (nI b) (v:Int)) (false,0)=some (b.contains v):=by
 have hr:=Zi (n:=b.length) (k0:=0) (by omega) (by omega) (fun i (x:Bool)=>(x,i)) (body:=V5 (nI b) (v:Int)) (fun k=>(b.take k).contains v) (b.contains v)
  (fun k _ hk=>by
   unfold V5
   dsimp only
   rw [Qg,if_pos (dlt hk),Qt hk,List.contains_append]
   by_cases c:(b.take k).contains v=true
   ·rw [if_pos c,c]; rfl
   ·rw [if_neg c,Yw hk,Option.bind_some]
    simp only [Bool.not_eq_true] at c
    rw [c,Bool.false_or]
    congr 3
    rw [Bool.eq_iff_iff]
    simp only [beq_iff_eq,List.contains_cons,List.contains_nil,Bool.or_false]
    omega)
  (by unfold V5; dsimp only; rw [Qg,if_neg (nlt _),List.take_length])
 rw [show ((0:Nat):Int)=0 from rfl] at hr
 exact hr
theorem Qnm {b:List Nat} (hf:Qah n g F) (hl:∀v∈b,v < n) (hn:b.Nodup):Jz ⟨g,rowG n F⟩ (nI b)=some (nI (setL n (mg n (Qd F)) b)):=by
 have hpar:=fun v hv=>(Vn (hf.node v hv).1.1).2.2
 have hself:∀v,v < n→v ∉ Qd F v:=fun v hv hm=>by
  obtain ⟨rk,hrk⟩:=hf.rank
  have:=hrk v hv v hm; omega
 unfold Jz
 rw [Qki hf.n8 (fun v hv=>(hf.node v hv).1.1),Option.bind_some,Qi6 hf.n8 hpar,Qre hf.n1 hf.n8 hself,Option.bind_some,Qum hf.n1 hf.n8 Qdu hl hn]; rfl
theorem Q0g:Qdw=X5:=rfl
def Qg9 (n:Nat) (A:Gr) (w:Nat) (b:List Nat):Prop:=∀b' v,b=b'++[v]→lateN n A (lft b') v≤w
theorem Qyj {k:Nat} {b:List Nat} {rc:Qc × List Int × Int→Option (List Int)} (hf:Qah n g F) (hw:w < n) (hn:b.Nodup) (hl:∀v∈b,v < n) (hk:b.length+(k+1)=n)
  (IH:∀v,v < n→lft b v=true→((lateN n (mg n (Qd F)) (lft b) v≤w∧wid n (mg n (Qd F)) k (rem (lft b) v)≤w)∧rc (⟨g,rowG n F⟩,nI (b++[v]),(w:Int)+1)=some (nI (b++v::Jn n (mg n (Qd F)) w k (rem (lft b) v))))∨(¬ (lateN n (mg n (Qd F)) (lft b) v≤w∧wid n (mg n (Qd F)) k (rem (lft b) v)≤w)∧rc (⟨g,rowG n F⟩,nI (b++[v]),(w:Int)+1)=some [])) :
  (wid n (mg n (Qd F)) (k+1) (lft b)≤w∧Qa fuel (X5 ⟨g,rowG n F⟩ (nI b) rc ((w:Int)+1)) 0=some (.inl (nI (b++Jn n (mg n (Qd F)) w (k+1) (lft b)))))∨(¬ wid n (mg n (Qd F)) (k+1) (lft b)≤w∧Qa fuel (X5 ⟨g,rowG n F⟩ (nI b) rc ((w:Int)+1)) 0=some (.inr ())):=by
 have hlen:(rowG n F).length=n:=Z1
 have h8:=hf.n8
 obtain ⟨r,e1,e2⟩:=Jh (n:=n) (k0:=0) (by omega) (by omega) (fun i (_:Unit)=>i) (body:=X5 ⟨g,rowG n F⟩ (nI b) rc ((w:Int)+1)) (fun j _=>∀i,i < j→lft b i=true→¬ (lateN n (mg n (Qd F)) (lft b) i≤w∧wid n (mg n (Qd F)) k (rem (lft b) i)≤w))
  (fun r=>(wid n (mg n (Qd F)) (k+1) (lft b)≤w∧r=.inl (nI (b++Jn n (mg n (Qd F)) w (k+1) (lft b))))∨(¬ wid n (mg n (Qd F)) (k+1) (lft b)≤w∧r=.inr ()))
  (fun v _ _ hv hI=>by
   have more:(lft b v=true→¬ (lateN n (mg n (Qd F)) (lft b) v≤w∧wid n (mg n (Qd F)) k (rem (lft b) v)≤w))→∀i,i < v+1→lft b i=true→¬ (lateN n (mg n (Qd F)) (lft b) i≤w∧wid n (mg n (Qd F)) k (rem (lft b) i)≤w):=fun h i hi hS=>by
    by_cases e:i=v
    ·subst e; exact h hS
    ·exact hI i (by omega) hS
   unfold X5
   dsimp only
   rw [hlen,if_pos (dlt hv),Q24 (by omega),Option.bind_some]
   by_cases c:b.contains v=true
   ·left
    rw [if_pos c]
    exact ⟨(),rfl,more fun h=>by unfold lft at h; rw [c] at h; cases h⟩
   ·have hS:lft b v=true:=by unfold lft; simpa using c
    rw [if_neg c,if_pos (by rw [Qg]; omega),if_pos (by rw [List.length_append,Qg]; simp; omega),Qvg]
    rcases IH v hv hS with ⟨h,e⟩ | ⟨h,e⟩
    ·right
     refine ⟨.inl (nI (b++Jn n (mg n (Qd F)) w (k+1) (lft b))),?_,.inl ⟨(Qoz hw).2 ⟨v,hv,hS,h.1,h.2⟩,rfl⟩⟩
     rw [e,Option.bind_some,Qq3 hv hS h.1 h.2 hI]
     obtain ⟨a,l,hal⟩:∃a l,nI (b++v::Jn n (mg n (Qd F)) w k (rem (lft b) v))=a::l:=by
      cases hx:nI (b++v::Jn n (mg n (Qd F)) w k (rem (lft b) v)) with
      | nil=>have:=congrArg List.length hx; rw [Qg] at this; simp at this
      | cons a l=>exact ⟨a,l,rfl⟩
     rw [hal]; rfl
    ·left
     rw [e,Option.bind_some]
     exact ⟨(),rfl,more fun _=>h⟩)
  (fun _ hI=>⟨.inr (),by unfold X5; dsimp only; rw [hlen,if_neg (nlt _)],.inr ⟨fun h=>by
   obtain ⟨v,hv,hS,h1,h2⟩:=(Qoz hw).1 h
   exact hI v hv hS ⟨h1,h2⟩,rfl⟩⟩) () (fun i hi=>by omega)
 rw [show ((0:Nat):Int)=0 from rfl] at e1
 rcases e2 with ⟨h,rfl⟩ | ⟨h,rfl⟩
 ·exact .inl ⟨h,e1⟩
 ·exact .inr ⟨h,e1⟩
theorem Qvk {b:List Nat} (h:b≠[]):∃b' v,b=b'++[v]:=⟨b.dropLast,b.getLast h,(List.dropLast_concat_getLast h).symm⟩
theorem Qkk {x:List Int} (h:x≠[]):(Qd5 x none fun _ _=>some x)=some x:=by
 cases x with
 | nil=>exact absurd rfl h
 | cons a l=>rfl
theorem Q1a (hf:Qah n g F) (hw:w < n):∀(k N:Nat) (b:List Nat),k < N→b.Nodup→(∀v∈b,v < n)→b.length+k=n →
  ((Qg9 n (mg n (Qd F)) w b∧wid n (mg n (Qd F)) k (lft b)≤w)∧Ve Qo N (⟨g,rowG n F⟩,nI b,(w:Int)+1)=some (nI (b++Jn n (mg n (Qd F)) w k (lft b))))∨(¬ (Qg9 n (mg n (Qd F)) w b∧wid n (mg n (Qd F)) k (lft b)≤w)∧Ve Qo N (⟨g,rowG n F⟩,nI b,(w:Int)+1)=some []):=by
 have hG:=Qdu (n:=n) (q:=Qd F)
 have hlen:(rowG n F).length=n:=Z1
 have h8:=hf.n8
 have p8:(2:Nat)^n≤256:=Nat.pow_le_pow_right (n:=2) (by omega) h8
 intro k
 induction k with
 | zero =>
  intro N b hN hn hl hk
  obtain ⟨N,rfl⟩:∃M,N=M+1:=⟨N - 1,by omega⟩
  have hne:b≠[]:=fun e=>by subst e; have:=hf.n1; rw [List.length_nil] at hk; omega
  obtain ⟨b',v,rfl⟩:=Qvk hne
  have hn':=List.nodup_append.1 hn
  have es:seqA (mg n (Qd F)) b'=Egr (mg n (Qd F)) (lft b'):=Qqn hG _ b' rfl hn'.1
  have hv:=hl v (by simp)
  have hcard:pc n (msk n (setP (seqA (mg n (Qd F)) b') v))=lateN n (mg n (Qd F)) (lft b') v+1:=by
   rw [Qx9 (Qfp hG) hv,es]; rfl
  have ez:(setL n (mg n (Qd F)) (b'++[v])).length=b'.length+1:=by rw [Vo]; simp
  have el:lkI (nI (setL n (mg n (Qd F)) (b'++[v]))) (zw (((nI (setL n (mg n (Qd F)) (b'++[v]))).length:Int) - 1))=some ((msk n (setP (seqA (mg n (Qd F)) b') v):Nat):Int):=by
   have hbl:b'.length≤8:=by simp at hk; omega
   rw [Qg,ez,w64 (by omega),show ((b'.length+1:Nat):Int) - 1=(b'.length:Int) by omega,Yw (by omega)]
   have:(setL n (mg n (Qd F)) (b'++[v]))[b'.length]'(by omega)=msk n (setP (seqA (mg n (Qd F)) b') v):=by
    simp only [Qfy]
    rw [List.getElem_append_right (by rw [Vo]; omega)]
    simp [Vo]
   rw [this]
  have hlast:Qg9 n (mg n (Qd F)) w (b'++[v])↔lateN n (mg n (Qd F)) (lft b') v≤w:=by
   constructor
   ·intro h; exact h b' v rfl
   ·intro h c u e
    obtain ⟨rfl,e2⟩:=List.append_inj' e rfl
    cases e2; exact h
  show (_∧Qo (Ve Qo N) _=_)∨(_∧Qo (Ve Qo N) _=_)
  generalize Ve Qo N=rc
  unfold Qo
  dsimp only
  rw [Qnm hf hl hn,Option.bind_some,if_pos (by rw [Qg,ez]; rw [decide_eq_true_eq]; omega),el,Option.bind_some,Qqp h8 (Zt n _),hcard,Option.bind_some]
  by_cases c:lateN n (mg n (Qd F)) (lft b') v≤w
  ·left
   refine ⟨⟨hlast.2 c,Nat.zero_le _⟩,?_⟩
   rw [if_neg (by simp; omega),if_pos (by rw [Qg,hlen]; rw [Nat.add_zero] at hk; simp [hk]),Qkk (fun e=>by have:=congrArg List.length e; rw [Qg] at this; simp at this)]
   simp [Jn]
  ·right
   refine ⟨fun h=>c (hlast.1 h.1),?_⟩
   rw [if_pos (by simp; omega)]
 | succ k ih =>
  intro N b hN hn hl hk
  obtain ⟨N,rfl⟩:∃M,N=M+1:=⟨N - 1,by omega⟩
  have hB:=Qyj (b:=b) (k:=k) (rc:=Ve Qo N) (g:=g) hf hw hn hl hk (fun v hv hS=>by
   have hno:v ∉ b:=fun h=>by unfold lft at hS; simp [h] at hS
   have hnd:(b++[v]).Nodup:=List.nodup_append.2 ⟨hn,by simp,fun a ha c hc=>by
    simp only [List.mem_singleton] at hc
    subst hc
    exact fun e=>hno (by rw [←e]; exact ha)⟩
   have hl':∀x∈b++[v],x < n:=fun x hx=>by
    rcases List.mem_append.1 hx with h | h
    ·exact hl x h
    ·simp only [List.mem_singleton] at h; rw [h]; exact hv
   have hlast:Qg9 n (mg n (Qd F)) w (b++[v])↔lateN n (mg n (Qd F)) (lft b) v≤w:=by
    constructor
    ·intro h; exact h b v rfl
    ·intro h c u e
     obtain ⟨rfl,e2⟩:=List.append_inj' e rfl
     cases e2; exact h
   have:=ih N (b++[v]) (by omega) hnd hl' (by simp; omega)
   rw [hlast,Qta,List.append_assoc] at this
   exact this)
  by_cases c0:b=[]
  ·subst c0
   have hlast:Qg9 n (mg n (Qd F)) w []:=fun b' v e=>by have:=congrArg List.length e; simp at this
   show (_∧Qo (Ve Qo N) _=_)∨(_∧Qo (Ve Qo N) _=_)
   generalize Ve Qo N=rc at hB ⊢
   unfold Qo
   dsimp only
   rw [Qnm hf hl hn,Option.bind_some,if_neg (by rw [Qg,Vo]; decide),if_neg (by rw [Qg,hlen]; simp at hk ⊢; omega),Q0g]
   rcases hB with ⟨h,e⟩ | ⟨h,e⟩
   ·left
    refine ⟨⟨hlast,h⟩,?_⟩
    rw [e,Option.bind_some]
    dsimp only
    refine Qkk fun e=>?_
    have h1:=congrArg List.length e
    have h2:=(Qkj (A:=mg n (Qd F)) hw (k+1) (lft []) (by rw [Qva,Qdr]; simpa using hk.symm) h).2
    rw [Qg,List.length_append,h2] at h1; simp at h1
   ·right
    refine ⟨fun hh=>h hh.2,?_⟩
    rw [e]; rfl
  ·obtain ⟨b',v,rfl⟩:=Qvk c0
   have hn':=List.nodup_append.1 hn
   have es:seqA (mg n (Qd F)) b'=Egr (mg n (Qd F)) (lft b'):=Qqn hG _ b' rfl hn'.1
   have hv:=hl v (by simp)
   have hcard:pc n (msk n (setP (seqA (mg n (Qd F)) b') v))=lateN n (mg n (Qd F)) (lft b') v+1:=by
    rw [Qx9 (Qfp hG) hv,es]; rfl
   have ez:(setL n (mg n (Qd F)) (b'++[v])).length=b'.length+1:=by rw [Vo]; simp
   have el:lkI (nI (setL n (mg n (Qd F)) (b'++[v]))) (zw (((nI (setL n (mg n (Qd F)) (b'++[v]))).length:Int) - 1))=some ((msk n (setP (seqA (mg n (Qd F)) b') v):Nat):Int):=by
    have hbl:b'.length≤8:=by simp at hk; omega
    rw [Qg,ez,w64 (by omega),show ((b'.length+1:Nat):Int) - 1=(b'.length:Int) by omega,Yw (by omega)]
    have:(setL n (mg n (Qd F)) (b'++[v]))[b'.length]'(by omega)=msk n (setP (seqA (mg n (Qd F)) b') v):=by
     simp only [Qfy]
     rw [List.getElem_append_right (by rw [Vo]; omega)]
     simp [Vo]
    rw [this]
   have hlast:Qg9 n (mg n (Qd F)) w (b'++[v])↔lateN n (mg n (Qd F)) (lft b') v≤w:=by
    constructor
    ·intro h; exact h b' v rfl
    ·intro h c u e
     obtain ⟨rfl,e2⟩:=List.append_inj' e rfl
     cases e2; exact h
   show (_∧Qo (Ve Qo N) _=_)∨(_∧Qo (Ve Qo N) _=_)
   generalize Ve Qo N=rc at hB ⊢
   unfold Qo
   dsimp only
   rw [Qnm hf hl hn,Option.bind_some,if_pos (by rw [Qg,ez]; rw [decide_eq_true_eq]; omega),el,Option.bind_some,Qqp h8 (Zt n _),hcard,Option.bind_some]
   by_cases c:lateN n (mg n (Qd F)) (lft b') v≤w
   ·rw [if_neg (by simp; omega),if_neg (by rw [Qg,hlen]; simp at hk ⊢; omega)]
    rcases hB with ⟨h,e⟩ | ⟨h,e⟩
    ·left
     refine ⟨⟨hlast.2 c,h⟩,?_⟩
     rw [e,Option.bind_some]
     dsimp only
     refine Qkk fun e=>?_
     have h1:=congrArg List.length e
     rw [Qg] at h1; simp at h1
    ·right
     refine ⟨fun hh=>h hh.2,?_⟩
     rw [e]; rfl
   ·right
    refine ⟨fun h=>c (hlast.1 h.1),?_⟩
    rw [if_pos (by simp; omega)]
theorem Qzb (hf:Qah n g F):Qau ⟨g,rowG n F⟩=some (mkT n (Qd F) (Qfa n (Qd F))):=by
 have hG:=Qdu (n:=n) (q:=Qd F)
 have h8:=hf.n8
 have hlt:=Qox hG hf.n1 n (fun _=>true) (Qdr n)
 have hlast:∀w,Qg9 n (mg n (Qd F)) w []:=fun w b' v e=>by have:=congrArg List.length e; simp at this
 have hrun:∀w,w < n→(wid n (mg n (Qd F)) n (fun _=>true)≤w∧Qbg ⟨g,rowG n F⟩ [] ((w:Int)+1)=some (nI (Jn n (mg n (Qd F)) w n fun _=>true)))∨(¬ wid n (mg n (Qd F)) n (fun _=>true)≤w∧Qbg ⟨g,rowG n F⟩ [] ((w:Int)+1)=some []):=fun w hw=>by
  have:=Q1a (g:=g) hf hw n fuel [] (by show n < 1152921504606846976; omega) (by simp) (by simp) (by simp)
  rcases this with ⟨h,e⟩ | ⟨h,e⟩
  ·exact .inl ⟨h.2,e⟩
  ·exact .inr ⟨fun x=>h ⟨hlast w,x⟩,e⟩
 have hbo:=Qn3 (n:=n) (q:=Qd F) hf.n1
 have hr:=Zi (n:=wid n (mg n (Qd F)) n (fun _=>true)+1) (k0:=1) (by omega) (by omega) (fun i (_:Unit)=>i) (body:=Jw ⟨g,rowG n F⟩) (fun _=>()) ((mkT n (Qd F) (Qfa n (Qd F))).Cliques,(mkT n (Qd F) (Qfa n (Qd F))).Up,(mkT n (Qd F) (Qfa n (Qd F))).Home)
  (fun k h1 hk=>by
   unfold Jw
   have e:(k:Int)=((k - 1:Nat):Int)+1:=by omega
   rcases hrun (k - 1) (by omega) with ⟨h,_⟩ | ⟨_,e2⟩
   ·omega
   ·rw [←e] at e2; rw [e2]; rfl)
  (by
   unfold Jw
   rcases hrun (wid n (mg n (Qd F)) n fun _=>true) hlt with ⟨_,e2⟩ | ⟨h,_⟩
   ·rw [Int.natCast_add,show ((1:Nat):Int)=1 from rfl,e2,Option.bind_some,show Jn n (mg n (Qd F)) (wid n (mg n (Qd F)) n fun _=>true) n (fun _=>true)=Qfa n (Qd F) from rfl]
    obtain ⟨a,l,hal⟩:∃a l,nI (Qfa n (Qd F))=a::l:=by
     cases hx:nI (Qfa n (Qd F)) with
     | nil=>have:=congrArg List.length hx; rw [Qg,hbo.len] at this; have:=hf.n1; simp at *; omega
     | cons a l=>exact ⟨a,l,rfl⟩
    have hm:=Q1k (g:=g) hf hbo
    rw [hal] at hm ⊢
    show (Qbh ⟨g,rowG n F⟩ (a::l)).bind _=_
    rw [hm]; rfl
   ·exact absurd (Nat.le_refl _) h)
 unfold Qau
 rw [show ((1:Nat):Int)=1 from rfl] at hr
 rw [hr]; rfl
end
theorem least_true (p0:Qe) (p1:Q9) (h0:Vt p0) (h1:K7 p1):Qcn p0 p1=some true:=by
 obtain ⟨D,n,g,F,X,hD5,hDB,hDF,hB,hn6,e1,e2⟩:=Q0h h0 h1
 unfold Qcn
 rw [Qwc,Option.bind_some,if_neg (by decide),e1,Option.bind_some,e2,Option.bind_some]
 have hstep:∀(k:Nat) (m:Nat) (gg:Int) (G:Nat → Tapi_Node),k < 2→lkI ([⟨D.g,rowG D.n D.node⟩,⟨g,rowG n F⟩]:(List Qc)) (k:Int)=some ⟨gg,rowG m G⟩→NB m G→m≤1000→Y6 ⟨D.g,rowG D.n D.node⟩ ⟨g,rowG n F⟩ (k:Int)=some (.next (zw ((k:Int)+1))):=fun k m gg G hk hlk hb hm=>by
  unfold Y6
  rw [if_pos (by rw [decide_eq_true_eq]; omega),hlk,Option.bind_some]
  rcases Qxi (g:=gg) hb with ⟨hf,er⟩ | ⟨hf,er⟩
  ·rcases Qo9 (g:=gg) hb hm with ⟨no,_⟩ | ⟨_,e⟩
   ·exact absurd hf no
   ·obtain ⟨l1,l2,l3,l4⟩:=Q28 (q:=Qd G) (Qn3 (q:=Qd G) hf.n1) hf.n1
    have:=hf.n8
    rw [e,Option.bind_some,er,Option.bind_some,if_neg (by decide),if_neg (by simp),Qzb hf,Option.bind_some]
    dsimp only
    rw [Qrm _ (by omega) (by omega) (by omega),Option.bind_some,if_neg (by decide)]
  ·rcases Qo9 (g:=gg) hb hm with ⟨_,e⟩ | ⟨no,_⟩
   ·rw [e,Option.bind_some,er,Option.bind_some,if_pos (by decide),if_neg (by decide),show Vy Qya (Qq.mk [] [] [])=some true from Qrm _ (Nat.zero_le _) (Nat.zero_le _) (Nat.zero_le _),Option.bind_some,if_neg (by decide)]
   ·exact absurd no hf
 have h:=Zi (n:=2) (k0:=0) (by omega) (by omega) (fun i (_:Unit)=>i) (body:=Y6 ⟨D.g,rowG D.n D.node⟩ ⟨g,rowG n F⟩) (fun _=>()) (.inr ())
  (fun k _ hk=>by
   match k,hk with
   | 0,_=>exact hstep 0 D.n D.g D.node (by omega) rfl hDB (by omega)
   | 1,_=>exact hstep 1 n g F (by omega) rfl hB (by omega))
  (by unfold Y6; rw [if_neg (by decide)])
 rw [show ((0:Nat):Int)=0 from rfl] at h
 rw [h]; rfl
#print axioms least_true
end Go.Ab
namespace Go.Ab
open Go Go.Proofs Go.Proofs.YtcbhkobklhkiiaaDoor
open Go.ChangeShapes Go.WideShapes Go.ChangeAt Go.RowKit
abbrev dr_laid:List (String × DataW Unit):=[("math/bits.deBruijn32tab",Rows.laid_math_bits_deBruijn32tab),("math/bits.deBruijn64tab",Rows.laid_math_bits_deBruijn64tab)]
theorem dr_own:ownKnob Tryd.prog.godebug=none:=by kernel_rfl
theorem Q16:Tryd.prog.globalNamed "math/bits.deBruijn32tab" = some 0:=by kernel_rfl
theorem Q15:Tryd.prog.globalNamed "math/bits.deBruijn64tab" = some 1:=by kernel_rfl
theorem dr_met (os:Os) (args:Array Value):laidMetH Tryd.prog dr_laid ((World.doorLaid Tryd.prog 19 os).forCall (fun _ _=>0) ⟨#[],args,[]⟩).memory :=
 laidMetH_of_parts3 (fuel:=8) (laidMet_of_run' 8 (by kernel_rfl) (by kernel_rfl)) (by kernel_rfl) (by kernel_rfl)
theorem dr_glob {W:World} (h:laidMetH Tryd.prog dr_laid W):Go.Ab.GlobIn W:=by
 rw [MakeChecks.laidMetH_plain _ _ _ (by kernel_rfl)] at h
 have h0:=Lib.tabIs_of_head (k:=.u8) (zs:=Go.Ab.tab0) (t:=158) (e:=5) (n:=32) Q16 (by kernel_rfl) (by kernel_rfl) (by kernel_rfl) (by kernel_rfl) (by kernel_rfl) h
 have h1:=Lib.tabIs_of_head (k:=.u8) (zs:=Go.Ab.tab1) (t:=159) (e:=5) (n:=64) Q15 (by kernel_rfl) (by kernel_rfl) (by kernel_rfl) (by kernel_rfl) (by kernel_rfl) h.tail
 intro g xs hg i v hv
 match g,hg with
 | 0,hg =>
  cases hg
  have hi:i < Go.Ab.tab0.length:=by have:=(List.getElem?_eq_some_iff.1 hv).1; simpa using this
  have:=h0.cell Q16 i hi
  rw [this]
  rw [List.getElem?_map] at hv
  simpa [List.getD,hi] using hv
 | 1,hg =>
  cases hg
  have hi:i < Go.Ab.tab1.length:=by have:=(List.getElem?_eq_some_iff.1 hv).1; simpa using this
  have:=h1.cell Q15 i hi
  rw [this]
  rw [List.getElem?_map] at hv
  simpa [List.getD,hi] using hv
 | n+2,hg=>cases hg
end Go.Ab
