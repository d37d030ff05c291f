/- Part 35. -/
import Derived.Test.YtikpijbeobeckaaGreatDoorXGw34
set_option linter.unusedSimpArgs false
set_option linter.unusedVariables false
namespace Go.Proofs.YtikpijbeobeckaaGreatDoor
open Am C
def ygb (L:RkL) (n0 n1 i:Nat) (e:RkE):RkL:={ L with tag:=fun k=>if k<n0 then L.tag k else if k=e.b∧k<n1 then 11+2*i else 0,es:=L.es.set i e }
theorem RkOk.sets {s:Sy} {id:Nat} {L:RkL} {m:Bool} {H Y:Hp} (R:RkOk s id L m H) {i:Nat} {e e':RkE} (he:L.es[i]?=some e) (hn:e'.node=e.node) (hs:e'.sid=e.sid) (hl:Hp.Lt Y) (hx:H.next≤Y.next) (hS:SetR Y e' L.ts.length)
  (hb:nn e'.v→(nn e.v∧e'.b=e.b)∨H.next≤e'.b) (keep:∀k blk,k≠e.sid→(nn e.v→k≠e.b)→H.get k=some blk→Y.get k=some blk):
  RkOk s id (ygb L H.next Y.next i e') m Y∧RkTo L (ygb L H.next Y.next i e') H Y∧(ygb L H.next Y.next i e').es[i]?=some e':=by
 have hil:=(List.getElem?_eq_some_iff.1 he).1
 obtain ⟨t1,t2⟩:=R.tse i e he
 have hsl:=(R.set i e he).lts R.lt
 have tk:∀j t blk,L.tag j=t→t≠10+2*i→t≠11+2*i→H.get j=some blk→Y.get j=some blk:=fun j t blk h h1 h2 hg=>keep j blk (fun e=>by rw [e,t1] at h;omega) (fun hv e=>by rw [e,t2 hv] at h;omega) hg
 have tg:∀j,j<H.next→(ygb L H.next Y.next i e').tag j=L.tag j:=fun j hj=>by simp [ygb,hj]
 have tz:∀j t,L.tag j=t→t≠0→(ygb L H.next Y.next i e').tag j=t:=fun j t h h0=>(tg j (R.tlt j (by rw [h];exact h0))).trans h
 have hget:∀j,(ygb L H.next Y.next i e').es[j]?=if j=i then some e' else L.es[j]?:=fun j=>by
  simp only [ygb,List.getElem?_set]
  by_cases h:i=j
  ·subst h;simp [hil]
  ·simp [h,Ne.symm h]
 have hkeys:(ygb L H.next Y.next i e').es.map RkE.node=L.es.map RkE.node:=by
  simp only [ygb,List.map_set]
  have:(L.es.map RkE.node)[i]?=some e'.node:=by simp [he,hn]
  obtain ⟨q1,q2⟩:=List.getElem?_eq_some_iff.1 this
  rw [←q2];exact List.set_getElem_self q1
 have hM:esM (ygb L H.next Y.next i e').es=esM L.es:=by
  simp only [ygb,esM,List.map_set]
  have:(L.es.map fun e=>(e.node,V.p (some (e.sid,0,1))))[i]?=some (e'.node,V.p (some (e'.sid,0,1))):=by simp [he,hn,hs]
  obtain ⟨q1,q2⟩:=List.getElem?_eq_some_iff.1 this
  rw [←q2];exact List.set_getElem_self q1
 refine ⟨⟨hl,R.blk.imp fun mm ⟨a,b⟩=>⟨tk _ 1 _ R.tid (by omega) (by omega) a,b⟩,R.tab.keep fun h=>⟨fun blk=>tk _ 2 _ (R.tts h).1 (by omega) (by omega),fun blk=>tk _ 3 _ (R.tts h).2.1 (by omega) (by omega)⟩,
  R.atr.keep fun h blk=>tk _ 4 _ (R.tts h).2.2 (by omega) (by omega),tk _ 5 _ R.tmf (by omega) (by omega) R.mpf,tk _ 6 _ R.tmo (by omega) (by omega) R.mpo,by rw [hM];exact tk _ 7 _ R.tms (by omega) (by omega) R.mps,fun j d hj=>?_,
  tz _ _ R.tid (by omega),tz _ _ R.tmf (by omega),tz _ _ R.tmo (by omega),tz _ _ R.tms (by omega),fun h=>⟨tz _ _ (R.tts h).1 (by omega),tz _ _ (R.tts h).2.1 (by omega),tz _ _ (R.tts h).2.2 (by omega)⟩,fun j d hj=>?_,fun j hj=>?_,by rw [hkeys];exact R.keys⟩,
  ⟨hx,List.prefix_refl _,tg,fun k blk h0 hg=>keep k blk (fun e=>by rw [e,t1] at h0;omega) (fun hv e=>by rw [e,t2 hv] at h0;omega) hg,fun j d hj=>?_⟩,by rw [hget];simp⟩
 ·rw [hget] at hj
  by_cases h:j=i
  ·rw [if_pos h] at hj;injection hj with hj;subst hj;exact hS
  ·rw [if_neg h] at hj
   exact (R.set j d hj).keep (kG _) (fun blk=>tk _ _ _ (R.tse j d hj).1 (by omega) (by omega)) fun hv blk=>tk _ _ _ ((R.tse j d hj).2 hv) (by omega) (by omega)
 ·rw [hget] at hj
  by_cases h:j=i
  ·rw [if_pos h] at hj;injection hj with hj;subst hj
   refine ⟨by rw [hs,h];exact tz _ _ t1 (by omega),fun hv=>?_⟩
   rcases hb hv with ⟨h1,h2⟩ | h1
   ·rw [h2,h];exact tz _ _ (t2 h1) (by omega)
   ·have:e'.b<Y.next:=by
     rcases hS.own with ⟨_,z,hz⟩ | ⟨_,mm,g,_⟩
     ·exact absurd ⟨z,hz⟩ hv
     ·exact hl _ _ g
    simp [ygb,show ¬e'.b<H.next by omega,h,this]
  ·rw [if_neg h] at hj
   exact ⟨tz _ _ (R.tse j d hj).1 (by omega),fun hv=>tz _ _ ((R.tse j d hj).2 hv) (by omega)⟩
 ·rcases Nat.lt_or_ge j H.next with h | h
  ·omega
  ·simp only [ygb,show ¬j<H.next by omega,if_false] at hj
   split at hj
   ·rename_i ej
    exact ej.2
   ·exact absurd rfl hj
 ·by_cases h:j=i
  ·rw [h,he] at hj;injection hj with hj;subst hj
   exact ⟨e',by rw [hget,if_pos h],hn,hs⟩
  ·exact ⟨d,by rw [hget,if_neg h];exact hj,rfl,rfl⟩
theorem RkOk.more {s:Sy} {id:Nat} {L:RkL} {m:Bool} {H:Hp} (R:RkOk s id L m H) (m':Bool):RkOk s id L m' (H.upd id (.cells (yau s L m') 10))∧RkTo L L H (H.upd id (.cells (yau s L m') 10)):=by
 obtain ⟨mm,hg,hm⟩:=R.blk
 have ni:=R.lt _ _ hg
 have tk:∀j t blk,L.tag j=t→t≠1→H.get j=some blk→(H.upd id (.cells (yau s L m') 10)).get j=some blk:=fun j t blk h h1 hg=>by
  have:j≠id:=fun e=>by rw [e,R.tid] at h;omega
  simp [this,hg]
 exact ⟨⟨Hp.upd_lt R.lt ni _,⟨10,by simp,by omega⟩,R.tab.keep fun h=>⟨fun blk=>tk _ 2 _ (R.tts h).1 (by omega),fun blk=>tk _ 3 _ (R.tts h).2.1 (by omega)⟩,R.atr.keep fun h blk=>tk _ 4 _ (R.tts h).2.2 (by omega),
  tk _ 5 _ R.tmf (by omega) R.mpf,tk _ 6 _ R.tmo (by omega) R.mpo,tk _ 7 _ R.tms (by omega) R.mps,fun i e he=>(R.set i e he).keep (kG _) (fun blk=>tk _ _ _ (R.tse i e he).1 (by omega)) fun hv blk=>tk _ _ _ ((R.tse i e he).2 hv) (by omega),
  R.tid,R.tmf,R.tmo,R.tms,R.tts,R.tse,R.tlt,R.keys⟩,⟨kG _,List.prefix_refl _,fun _ _=>rfl,fun k blk h0 hg=>tk k _ _ h0 (by omega) hg,fun i e he=>⟨e,he,rfl,rfl⟩⟩⟩
theorem yjh {s:Sy} {id:Nat} {L L':RkL} {m:Bool} {H Y:Hp} (R:RkOk s id L m H) {i:Nat} {e e':RkE} (he:L.es[i]?=some e) (R':RkOk s id L' m Y) (he':L'.es[i]?=some e') (ht:L'.ts=L.ts) (hn:e'.node=e.node) (hoth:∀j,j≠i→L'.es[j]?=L.es[j]?)
  {q:Str→Prop} (hq:∀p,(∃k∈elB e'.bs,L.ts[k]?=some p)↔(∃k∈elB e.bs,L.ts[k]?=some p)∨q p) (n p:Str):y5x L' n p↔y5x L n p∨(n=e.node∧q p):=by
 by_cases h:n=e.node
 ·subst h
  rw [←hn,R'.rel_at he',ht,hq,hn,R.rel_at he]
  simp
 ·have:y5x L' n p↔y5x L n p:=by
   constructor
   ·rintro ⟨d,h1,h2,h3⟩
    obtain ⟨j,hj⟩:=List.mem_iff_getElem?.1 h1
    by_cases hji:j=i
    ·subst hji
     rw [he'] at hj;injection hj with hj;subst hj
     exact absurd (h2.symm.trans hn) h
    ·rw [hoth j hji] at hj
     exact ⟨d,kY hj,h2,by rw [←ht];exact h3⟩
   ·rintro ⟨d,h1,h2,h3⟩
    obtain ⟨j,hj⟩:=List.mem_iff_getElem?.1 h1
    by_cases hji:j=i
    ·subst hji
     rw [he] at hj;injection hj with hj;subst hj
     exact absurd h2.symm h
    ·rw [←hoth j hji] at hj
     exact ⟨d,kY hj,h2,by rw [ht];exact h3⟩
  rw [this]
  exact ⟨.inl,fun x=>x.elim (fun x=>x) fun x=>absurd x.1 h⟩
theorem yje (L:RkL) (n0 n1 i:Nat) (e:RkE) (j:Nat) (h:j≠i):(ygb L n0 n1 i e).es[j]?=L.es[j]?:=by
 simp only [ygb,List.getElem?_set]
 simp [Ne.symm h]
structure RkAd (s:Sy) (id:Nat) (L:RkL) (m:Bool) (H:Hp) (L':RkL) (m':Bool) (X:Hp) (q:Rel):Prop where
 ok:RkOk s id L' m' X
 to:RkTo L L' H X
 rel:∀n p,y5x L' n p↔y5x L n p∨q n p
 more:m'=true↔m=true∨∃n p,q n p∧¬y5x L n p
 tsp:∀y∈L'.ts,y∈L.ts∨∃n,q n y
def RkS (s:Sy) (id:Nat) (L:RkL) (m:Bool) (H:Hp) (q:Rel) (X:Hp):Prop:=∃(L':RkL) (m':Bool),RkAd s id L m H L' m' X q
theorem ymp {s:Sy} {id:Nat} {L:RkL} {m:Bool} {H:Hp} (R:RkOk s id L m H) {i j:Nat} {x:Str} (hi:L.ts[i]?=some x) (hj:L.ts[j]?=some x):i=j:=by
 have:=R.tab.nod.1
 rw [List.nodup_iff_pairwise_ne] at this
 obtain ⟨q1,q2⟩:=List.getElem?_eq_some_iff.1 hi
 obtain ⟨r1,r2⟩:=List.getElem?_eq_some_iff.1 hj
 rcases Nat.lt_trichotomy i j with h | h | h
 ·exact absurd (q2.trans r2.symm) (List.pairwise_iff_getElem.1 this i j q1 r1 h)
 ·exact h
 ·exact absurd (r2.trans q2.symm) (List.pairwise_iff_getElem.1 this j i r1 q1 h)
set_option maxHeartbeats 1000000 in
theorem yi4 {s:Sy} {id:Nat} {L:RkL} {m:Bool} {H:Hp} (R:RkOk s id L m H) (n x:Str) (hx:x.length≤9223372036854775806) (hbig:L.ts.length≤1000000):
  AC Tryz.prog y4d [.p (some (id,0,10)),.s n,.s x] H (fun _ X=>RkS s id L m H (fun n' p'=>n'=n∧p'=x) X):=by
 refine AC.code y35.at y35.ok ?_
 simp only [y35]
 apply jE
 simp [y35.r0]
 refine (yji R n).mono ?_
 rintro v X1 ⟨L1,i,e,rfl,he,hn,R1,T1,hts1,hr1⟩
 simp
 refine (ykt R1 x hx (by rw [hts1];exact hbig)).mono ?_
 rintro v X2 ⟨L2,k,rfl,hk,R2,T2,hes2,hr2,hln2,hin2⟩
 simp
 rw [←hes2] at he
 have S2:=R2.set i e he
 obtain ⟨ms,gs,hms⟩:=S2.box
 have hkl:=(List.getElem?_eq_some_iff.1 hk).1
 rw [hts1] at hln2 hin2
 obtain ⟨b0,ho0,hb0,hb1⟩:∃b0,yd3 X2 e.v e.bs b0∧b0≠e.sid∧((nn e.v∧b0=e.b)∨(¬nn e.v∧b0=X2.next)):=by
  by_cases hv:nn e.v
  ·exact ⟨e.b,S2.own,fun q=>by have h1:=(R2.tse i e he).1;have h2:=(R2.tse i e he).2 hv;rw [q,h1] at h2;omega,.inl ⟨hv,rfl⟩⟩
  ·refine ⟨X2.next,?_,fun q=>by have:=S2.lts R2.lt;omega,.inr ⟨hv,rfl⟩⟩
   rcases S2.own with h | ⟨h,_⟩
   ·exact .inl h
   ·exact absurd (by rw [h];rintro ⟨z,hz⟩;cases hz) hv
 refine (BAdd_ok e.sid 0 ms b0 k [e.v] e.v e.bs X2 R2.lt (by omega) S2.ok gs hms rfl ho0 hb0).mono ?_
 rintro r X3 ⟨rfl,l3,n3,v',b',m',g3,hm3,o3,hb',keep⟩
 obtain ⟨A1,A2⟩:=ypx S2.ok (n:=k) (by omega)
 simp only [List.set_cons_zero] at g3
 obtain ⟨R3,T3,he3⟩:=R2.sets (e':=⟨e.node,e.sid,v',ypy e.bs k,b'⟩) he rfl rfl l3 n3 ⟨⟨m',g3,by simpa using hm3⟩,o3,A1,fun j hj=>by
   rcases (A2 j).1 hj with rfl | hj
   ·exact hkl
   ·exact S2.lt j hj⟩ (fun _=>by
   rcases hb1 with ⟨h1,h2⟩ | ⟨h1,h2⟩
   ·rcases hb' with h | h
    ·exact .inl ⟨h1,h.trans h2⟩
    ·exact .inr h
   ·rcases hb' with h | h
    ·exact .inr (by rw [h,h2];exact kG _)
    ·exact .inr h) (fun j blk h1 h2 h3=>keep j blk h1 (fun ej=>kg fun hz=>by
   have hv:nn e.v:=hz
   rcases hb1 with ⟨_,h5⟩ | ⟨h4,_⟩
   ·exact h2 hv (ej.trans h5)
   ·exact h4 hv) h3)
 obtain ⟨L3,hL3⟩:∃L3,L3=ygb L2 X2.next X3.next i ⟨e.node,e.sid,v',ypy e.bs k,b'⟩:=⟨_,rfl⟩
 have ht3:L3.ts=L2.ts:=by rw [hL3];rfl
 have hot3:∀j,j≠i→L3.es[j]?=L2.es[j]?:=fun j hj=>by rw [hL3];exact yje _ _ _ _ _ _ hj
 rw [←hL3] at R3 T3 he3
 have hrel:∀n' p',y5x L3 n' p'↔y5x L2 n' p'∨(n'=n∧p'=x):=fun n' p'=>by
  have:=yjh R2 he R3 he3 ht3 rfl hot3 (q:=fun p=>p=x) (fun p=>by
   constructor
   ·rintro ⟨j,h1,h2⟩
    rcases (A2 j).1 h1 with rfl | h1
    ·rw [hk] at h2;injection h2 with h2;exact .inr h2.symm
    ·exact .inl ⟨j,h1,h2⟩
   ·rintro (⟨j,h1,h2⟩ | rfl)
    ·exact ⟨j,(A2 j).2 (.inr h1),h2⟩
    ·exact ⟨k,(A2 k).2 (.inl rfl),hk⟩) n' p'
  rw [this,hn]
 have hfl:k∈elB e.bs↔y5x L n x:=by
  rw [←hr1,←hr2,←hn,R2.rel_at he]
  constructor
  ·exact fun h=>⟨k,h,hk⟩
  ·rintro ⟨j,h1,h2⟩
   rw [ymp R2 hk h2];exact h1
 have fin:∀m',(m'=true↔m=true∨k∉elB e.bs)→RkAd s id L m H L3 m' (X3.upd id (.cells (yau s L3 m') 10)) fun n' p'=>n'=n∧p'=x:=fun m' hm'=>by
  obtain ⟨R4,T4⟩:=R3.more m'
  refine ⟨R4,((T1.trans T2 R.lt).trans T3 R.lt).trans T4 R.lt,fun n' p'=>by rw [hrel,hr2,hr1],?_,fun y hy=>?_⟩
  ·rw [hm',hfl]
   constructor
   ·exact fun h=>h.imp (fun h=>h) fun h=>⟨n,x,⟨rfl,rfl⟩,h⟩
   ·rintro (h | ⟨_,_,⟨rfl,rfl⟩,h⟩)
    ·exact .inl h
    ·exact .inr h
  ·rw [ht3] at hy
   rcases hin2 y hy with rfl | h
   ·exact .inr ⟨n,rfl,rfl⟩
   ·exact .inl h
 obtain ⟨mm,g,hmm⟩:=R3.blk
 by_cases hin:k∈elB e.bs
 ·have:=fin m (by simp [hin])
  simp [hin,g,hmm,yau,y7x]
  exact ⟨L3,m,this⟩
 ·have:=fin true (by simp [hin])
  simp [hin,g,hmm,yau,y7x]
  exact ⟨L3,true,this⟩
set_option maxHeartbeats 1000000 in
theorem ybr {s:Sy} {id:Nat} {L:RkL} {m:Bool} {H:Hp} (R:RkOk s id L m H) (n f:Str):
  AC Tryz.prog y3h [.p (some (id,0,10)),.s n,.s f] H (fun _ X=>RkS s id L m H (fun n' p'=>n'=n∧y5x L f p') X):=by
 refine AC.code y31.at y31.ok ?_
 simp only [y31]
 apply jE
 simp [y31.r0]
 refine (yji R n).mono ?_
 rintro v X1 ⟨L1,i,e1,rfl,he1,hn1,R1,T1,hts1,hr1⟩
 simp
 refine (yji R1 f).mono ?_
 rintro v X2 ⟨L2,j,d,rfl,hd,hnd,R2,T2,hts2,hr2⟩
 obtain ⟨e,he,hn,hs1⟩:=T2.es i e1 he1
 rw [hn1] at hn
 rw [←hs1]
 simp
 have S2:=R2.set i e he
 have D2:=R2.set j d hd
 obtain ⟨ms,gs,hms⟩:=S2.box
 obtain ⟨mt,gt,hmt⟩:=D2.box
 refine (BJoin_ok e.sid 0 ms d.sid 0 mt [e.v] [d.v] e.v d.v e.bs d.bs X2 R2.lt S2.ok D2.ok gs hms rfl S2.own.row gt hmt rfl D2.own.row).mono ?_
 rintro r X3 ⟨rfl,l3,n3,keep,v',g3,o3⟩
 obtain ⟨b',hb',o4⟩:=o3.at
 have A1:=orB_ok S2.ok D2.ok
 have A2:∀k,k∈elB (orB e.bs d.bs)↔k∈elB e.bs∨k∈elB d.bs:=mem_or S2.ok D2.ok
 simp only [List.set_cons_zero] at g3
 obtain ⟨R3,T3,he3⟩:=R2.sets (e':=⟨e.node,e.sid,v',orB e.bs d.bs,b'⟩) he rfl rfl l3 n3 ⟨⟨1,g3,by simp⟩,o4,A1,fun k hk=>((A2 k).1 hk).elim (S2.lt k) (D2.lt k)⟩ (fun _=>.inr hb') (fun k blk h1 _ h3=>keep k blk h1 h3)
 obtain ⟨L3,hL3⟩:∃L3,L3=ygb L2 X2.next X3.next i ⟨e.node,e.sid,v',orB e.bs d.bs,b'⟩:=⟨_,rfl⟩
 have ht3:L3.ts=L2.ts:=by rw [hL3];rfl
 have hot3:∀j,j≠i→L3.es[j]?=L2.es[j]?:=fun j hj=>by rw [hL3];exact yje _ _ _ _ _ _ hj
 rw [←hL3] at R3 T3 he3
 have hfr:∀p,y5x L f p↔∃k∈elB d.bs,L2.ts[k]?=some p:=fun p=>by rw [←hr1,←hr2,←hnd,R2.rel_at hd]
 have hrel:∀n' p',y5x L3 n' p'↔y5x L2 n' p'∨(n'=n∧y5x L f p'):=fun n' p'=>by
  have:=yjh R2 he R3 he3 ht3 rfl hot3 (q:=fun p=>y5x L f p) (fun p=>by
   rw [hfr]
   constructor
   ·rintro ⟨k,h1,h2⟩
    exact ((A2 k).1 h1).imp (fun h=>⟨k,h,h2⟩) fun h=>⟨k,h,h2⟩
   ·rintro (⟨k,h1,h2⟩ | ⟨k,h1,h2⟩)
    ·exact ⟨k,(A2 k).2 (.inl h1),h2⟩
    ·exact ⟨k,(A2 k).2 (.inr h1),h2⟩) n' p'
  rw [this,hn]
 have hfl:0<((elB (orB e.bs d.bs)).length:Int)-((elB e.bs).length:Int)↔∃n' p',(n'=n∧y5x L f p')∧¬y5x L n' p':=by
  have nd:∀{bs:List Bk},OkB bs→(elB bs).Nodup:=fun {bs} h=>(yfz h).imp fun hlt he=>by omega
  have hne:∀p',y5x L n p'↔∃k∈elB e.bs,L2.ts[k]?=some p':=fun p'=>by rw [←hr1,←hr2,←hn,R2.rel_at he]
  constructor
  ·intro h
   refine kg fun hno=>?_
   have:(elB (orB e.bs d.bs)).length≤(elB e.bs).length:=y6s (nd A1) fun k hk=>by
    rcases (A2 k).1 hk with hk | hk
    ·exact hk
    ·have hkl:=D2.lt k hk
     obtain ⟨p,hp⟩:∃p,L2.ts[k]?=some p:=⟨_,kC hkl⟩
     have h1:y5x L f p:=(hfr p).2 ⟨k,hk,hp⟩
     have h2:y5x L n p:=kg fun hc=>hno ⟨n,p,⟨rfl,h1⟩,hc⟩
     obtain ⟨k',h3,h4⟩:=(hne p).1 h2
     rw [ymp R2 hp h4];exact h3
   omega
  ·rintro ⟨n',p,⟨rfl,h1⟩,h2⟩
   obtain ⟨k,hk,hp⟩:=(hfr p).1 h1
   have hk2:k∉elB e.bs:=fun h=>h2 ((hne p).2 ⟨k,h,hp⟩)
   have:(k::elB e.bs).length≤(elB (orB e.bs d.bs)).length:=y6s (List.nodup_cons.2 ⟨hk2,nd S2.ok⟩) fun y hy=>by
    rcases List.mem_cons.1 hy with rfl | hy
    ·exact (A2 y).2 (.inr hk)
    ·exact (A2 y).2 (.inl hy)
   simp only [kO] at this
   omega
 have fin:∀m',(m'=true↔m=true∨0<((elB (orB e.bs d.bs)).length:Int)-((elB e.bs).length:Int))→RkAd s id L m H L3 m' (X3.upd id (.cells (yau s L3 m') 10)) fun n' p'=>n'=n∧y5x L f p':=fun m' hm'=>by
  obtain ⟨R4,T4⟩:=R3.more m'
  refine ⟨R4,((T1.trans T2 R.lt).trans T3 R.lt).trans T4 R.lt,fun n' p'=>by rw [hrel,hr2,hr1],by rw [hm',hfl],fun y hy=>?_⟩
  rw [ht3,hts2,hts1] at hy
  exact .inl hy
 obtain ⟨mm,g,hmm⟩:=R3.blk
 by_cases hin:(elB e.bs).length<(elB (orB e.bs d.bs)).length
 ·have:=fin true (by simp [hin])
  simp [decide_eq_true hin,g,hmm,yau,y7x]
  exact ⟨L3,true,this⟩
 ·have:=fin m (by simp;omega)
  simp [decide_eq_false hin,g,hmm,yau,y7x]
  exact ⟨L3,m,this⟩
def colS (n0:Nat) (S:LpS) (n:Nat) (X:Hp):Hp:=match X.get n0 with
 | some (.cells [v] _)=>match y28 (X.upd (n0+1) (.obj (.lp S .busy))) 1 8 v (.fs [[.i .i64 (n:Nat)]]) with
  | some (v2,X2)=>(X2.upd n0 (.cells [v2] 1)).upd (n0+1) (.obj (.lp S .ready))
  | none=>X
 | _=>X
structure ColJ (X0:Hp) (S:LpS) (l:List Nat) (k:Nat) (Y:Hp):Prop where
 lt:Hp.Lt Y
 nx:X0.next+2≤Y.next
 ext:∀j blk,X0.get j=some blk→Y.get j=some blk
 lp:Y.get (X0.next+1)=some (.obj (.lp S .ready))
 out:∃v ia,Y.get X0.next=some (.cells [v] 1)∧yiy Y (nc (l.take k)) v ia∧(l.take k≠[]→X0.next+2≤ia)
theorem ygx (l:List Nat):(nc l).length=l.length:=by simp [nc]
theorem ColJ.to {X0:Hp} {S:LpS} {l:List Nat} {k:Nat} {Y Y':Hp} (J:ColJ X0 S l k Y) (hl:Hp.Lt Y') (hn:Y.next≤Y'.next) (h:∀j blk,Y.get j=some blk→Y'.get j=some blk):ColJ X0 S l k Y':=by
 obtain ⟨v,ia,a,b,c⟩:=J.out
 exact ⟨hl,kV J.nx hn,fun j blk g=>h _ _ (J.ext j blk g),h _ _ J.lp,v,ia,h _ _ a,b.imp (fun x=>x) fun ⟨p,q,m,r,t⟩=>⟨p,q,m,h _ _ r,t⟩,c⟩
theorem yiy.len {H:Hp} {l:List Nat} {v:V} {ia:Nat} (h:yiy H (nc l) v ia):∃pp z,v=.sl pp l.length z∧(l≠[]→z=1∧pp=some (ia,0,l.length)∧∃m,H.get ia=some (.cells (nc l) m)∧m≤l.length):=by
 rcases h with ⟨e,z,rfl⟩ | ⟨_,rfl,m,g,hm⟩
 ·have:l=[]:=by simpa [nc] using e
  subst this
  exact ⟨none,z,rfl,fun h=>absurd rfl h⟩
 ·have:=ygx l
  rw [this] at hm
  exact ⟨_,_,by rw [this],fun _=>⟨rfl,rfl,m,g,hm⟩⟩
theorem yd9 {l:List Nat} {i k:Nat} (h:l[i]?=some k):((nc l).drop i).take 1=[.i .i64 (k:Nat)]:=y9a (by simp [nc,h])
theorem yht (id bx off m mb:Nat) (cs:List V) (v:V) (bs:List Bk) (H:Hp) (hlt:Hp.Lt H) (hb:OkB bs) (hbx:H.get bx=some (.cells [.p (some (id,off,cs.length))] mb)) (hmb:mb≤1)
  (hg:H.get id=some (.cells cs m)) (hm:m≤cs.length) (hv:cs[off]?=some v) (hr:RowB H v bs):
  AC Tryz.prog y4t [.sl none 0 0,.fn y43 [.p (some (bx,0,1))]] H (fun u X=>∃ia,yiy X (nc (elB bs)) u ia∧(elB bs≠[]→H.next≤ia)∧Hp.Lt X∧H.next≤X.next∧∀k blk,H.get k=some blk→X.get k=some blk):=by
 have hbl:=hb.len
 have hel:=ybg bs
 refine AC.code y17.at y17.ok ?_
 simp only [y17]
 apply jA
 simp [y17.r0]
 apply jB
 simp [y17.r1]
 refine AX.pblock (AX.prange rfl fun S hS=>?_)
 have hx1:Hp.Lt (H.add (.cells [.sl none 0 0] 1)):=Hp.add_lt hlt _
 have hnb:=hlt _ _ hbx
 have hni:=hlt _ _ hg
 have x2:H.Ext ((H.add (.cells [.sl none 0 0] 1)).add (.obj (.lp S .ready))):=(Hp.Ext.add hlt _).trans (.add hx1 _)
 refine (ykj (H.next+1) bx id off m mb cs v bs (colS H.next S) (ColJ H S (elB bs)) _ hb (by simp [show bx≠H.next by omega,show bx≠H.next+1 by omega,hbx]) hmb (by simp [show id≠H.next by omega,show id≠H.next+1 by omega,hg]) hm hv (hr.ext x2)
  ⟨Hp.add_lt hx1 _,by simp,x2.2,by simp,.sl none 0 0,0,by simp,.inl ⟨rfl,0,rfl⟩,fun h=>absurd (by simp) h⟩ (fun k X b J=>J.to (Hp.add_lt J.lt _) (by simp) fun j blk g=>by have:=J.lt _ _ g;simp [show j≠X.next by omega,g])
  (fun k X b c J=>J.to (Hp.upd_lt (Hp.add_lt J.lt _) (by simp) _) (by simp) fun j blk g=>by have:=J.lt _ _ g;simp [show j≠X.next by omega,g]) ?_).mono ?_
 ·intro k X n hn J
  have hk:=(List.getElem?_eq_some_iff.1 hn).1
  have htk:(elB bs).take (k+1)=(elB bs).take k++[n]:=by rw [kJ,hn];rfl
  obtain ⟨u,ia,jo,js,ji⟩:=J.out
  have nx:=J.nx
  obtain ⟨v2,X2,ia2,⟨pp,hv2⟩,e1,q1,q2,q3,q4,q5⟩:∃v2 X2 ia2,(∃pp,v2=.sl pp (k+1) 1)∧y28 (X.upd (H.next+1) (.obj (.lp S .busy))) 1 8 u (.fs [[.i .i64 (n:Nat)]])=some (v2,X2)∧Hp.Lt X2∧X.next≤X2.next∧yiy X2 (nc ((elB bs).take (k+1))) v2 ia2∧H.next+2≤ia2∧
    ∀j blk,j<H.next+2→(X.upd (H.next+1) (.obj (.lp S .busy))).get j=some blk→X2.get j=some blk:=by
   have l1:Hp.Lt (X.upd (H.next+1) (.obj (.lp S .busy))):=Hp.upd_lt J.lt (by omega) _
   rcases js with ⟨e,z,rfl⟩ | ⟨hne,rfl,ma,ga,hma⟩
   ·have e0:(elB bs).take k=[]:=by simpa [nc] using e
    have hk0:k=0:=by
     have:=congrArg List.length e0
     rw [List.length_take,List.length_nil] at this;omega
    refine ⟨.sl (some (X.next,0,1)) 1 1,(X.upd (H.next+1) (.obj (.lp S .busy))).add (.cells [.i .i64 (n:Nat)] 1),X.next,⟨_,by rw [hk0]⟩,by simp [y28,y4e,y4x],Hp.add_lt l1 _,by simp,.inr ⟨by simp [htk,nc],by simp [htk,nc,e0],1,by simp [htk,nc,e0],by simp [htk,nc]⟩,nx,fun j blk hj g=>?_⟩
    have:j≠X.next:=by omega
    simp [this]
    simpa using g
   ·have hne':(elB bs).take k≠[]:=fun h=>hne (by rw [h];rfl)
    have hia:=ji hne'
    have hial:=J.lt _ _ ga
    have htl:(nc ((elB bs).take k)).length=k:=by simp [nc];omega
    rw [htl] at hma
    have gA:(X.upd (H.next+1) (.obj (.lp S .busy))).get ia=some (.cells (nc ((elB bs).take k)) ma):=by simp [show ia≠H.next+1 by omega,ga]
    refine ⟨.sl (some (ia,0,k+1)) (k+1) 1,(X.upd (H.next+1) (.obj (.lp S .busy))).upd ia (.cells (nc ((elB bs).take k)++[.i .i64 (n:Nat)]) ma),ia,⟨_,rfl⟩,?_,Hp.upd_lt l1 (by simpa using hial) _,by simp,?_,hia,fun j blk hj g=>?_⟩
    ·rw [htl]
     have hk4:(k+1)*8≤y4x:=by unfold y4x;omega
     generalize nc ((elB bs).take k)=row at gA htl ⊢
     generalize X.upd (H.next+1) (.obj (.lp S .busy))=G at gA ⊢
     simp [y28,y4e,gA,htl,y3w,hk4]
    ·have l2:(nc ((elB bs).take (k+1))).length=k+1:=by simp [nc];omega
     exact .inr ⟨by simp [htk,nc],by rw [l2],ma,by simp [htk,nc],by rw [l2];omega⟩
    ·have:j≠ia:=by omega
     simp [this]
     simpa using g
  have est:colS H.next S n X=(X2.upd H.next (.cells [v2] 1)).upd (H.next+1) (.obj (.lp S .ready)):=by
   simp only [colS,jo,e1]
  have gl:X2.get (H.next+1)=some (.obj (.lp S .busy)):=q5 _ _ (by omega) (by simp)
  have gb:X2.get H.next=some (.cells [u] 1):=q5 _ _ (by omega) (by simp [jo])
  have hup:∀j blk,j≠H.next→j≠H.next+1→X2.get j=some blk→((X2.upd H.next (.cells [v2] 1)).upd (H.next+1) (.obj (.lp S .ready))).get j=some blk:=fun j blk h1 h2 g=>by simp [h1,h2,g]
  refine ⟨?_,?_⟩
  ·rw [est]
   refine ⟨Hp.upd_lt (Hp.upd_lt q1 (by omega) _) (by simp;omega) _,by simp;omega,fun j blk g=>?_,by simp,v2,ia2,by simp,q3.imp (fun x=>x) fun ⟨a,b,mm,c,d⟩=>⟨a,b,mm,hup _ _ (by omega) (by omega) c,d⟩,fun _=>q4⟩
   have hj:=hlt _ _ g
   refine hup j blk (by omega) (by omega) (q5 j blk (by omega) ?_)
   simp [show j≠H.next+1 by omega]
   exact J.ext _ _ g
  ·rw [est]
   refine YC.walk hS J.lp rfl ?_
   simp only [y17.a0]
   apply jE
   simp [y17.r2,putAll]
   refine ⟨J.lp,?_⟩
   simp only [y17.b0]
   refine AX.pblock (AX.reg ?_)
   subst hv2
   simp [y17.r3,y7x,-y28,jo,e1,gb]
   simp [y98,gl]
 ·rintro u Y J
  obtain ⟨w,ia,jo,js,ji⟩:=J.out
  rw [List.take_length] at js ji
  refine .inl ⟨J.lp,?_⟩
  have nx:=J.nx
  have hd:∀j,j≠H.next+1→(Y.del (H.next+1)).get j=Y.get j:=fun j h=>by simp only [Hp.del];rw [if_neg h]
  simp
  apply jA
  simp [y17.r4,hd,jo]
  apply jD
  simp
  have js':yiy (Y.del (H.next+1)) (nc (elB bs)) w ia:=by
   rcases js with h | ⟨a,b,mm,c,d⟩
   ·exact .inl h
   ·have:=ji fun h=>a (by rw [h];rfl)
    exact .inr ⟨a,b,mm,by rw [hd _ (by omega)];exact c,d⟩
  refine ⟨ia,js',fun h=>by have:=ji h;omega,Hp.del_lt J.lt _,by simp only [Hp.del];omega,fun k blk g=>?_⟩
  have:=hlt _ _ g
  rw [hd _ (by omega)];exact J.ext _ _ g
theorem yls (id bx off m mb:Nat) (cs:List V) (v:V) (bs:List Bk) (H:Hp) (hlt:Hp.Lt H) (hb:OkB bs) (hbx:H.get bx=some (.cells [.p (some (id,off,cs.length))] mb)) (hmb:mb≤1)
  (hg:H.get id=some (.cells cs m)) (hm:m≤cs.length) (hv:cs[off]?=some v) (hr:RowB H v bs):
  AC Tryz.prog y6a [.fn y43 [.p (some (bx,0,1))]] H (fun u X=>∃ia,yiy X (nc (elB bs)) u ia∧(elB bs≠[]→H.next≤ia)∧Hp.Lt X∧H.next≤X.next∧∀k blk,H.get k=some blk→X.get k=some blk):=by
 refine AC.code y2d.at y2d.ok ?_
 simp only [y2d]
 apply jA
 simp [y2d.r0]
 apply jA
 simp [y2d.r1]
 refine (yht id bx off m mb cs v bs H hlt hb hbx hmb hg hm hv hr).mono ?_
 rintro u X h
 simp
 apply jD
 simp
 exact h
theorem yfh {s:Sy} {id:Nat} {L:RkL} {m:Bool} {H:Hp} (R:RkOk s id L m H) (node:Str):
  AC Tryz.prog y3y [.p (some (id,0,10)),.s node] H (fun v X=>∃(L':RkL) (l:List Nat) (ia:Nat),RkOk s id L' m X∧RkTo L L' H X∧L'.ts=L.ts∧(∀n p,y5x L' n p↔y5x L n p)∧yiy X (nc l) v ia∧(l≠[]→L'.tag ia=0)∧l.length≤268435520∧(∀k∈l,∃p,L.ts[k]?=some p∧y5x L node p)∧∀p,y5x L node p→∃k∈l,L.ts[k]?=some p):=by
 refine AC.code y2e.at y2e.ok ?_
 simp only [y2e]
 apply jA
 simp [y2e.r0]
 apply jA
 simp [y2e.r1]
 refine (yji R node).mono ?_
 rintro v X1 ⟨L1,i,e,rfl,he,hn,R1,T1,hts1,hr1⟩
 simp
 refine AC.fix (yq9 _ X1) ?_
 have S1:=R1.set i e he
 obtain ⟨ms,gs,hms⟩:=S1.box
 have x2:X1.Ext (X1.add (.cells [.p (some (e.sid,0,1))] 1)):=.add R1.lt _
 simp
 refine (yls e.sid X1.next 0 ms 1 [e.v] e.v e.bs (X1.add (.cells [.p (some (e.sid,0,1))] 1)) (Hp.add_lt R1.lt _) S1.ok (by simp) (by omega) (x2.2 _ _ gs) hms rfl (S1.own.row.ext x2)).mono ?_
 rintro u X2 ⟨ia,h1,h2,h3,h4,h5⟩
 simp at h2 h4
 simp
 apply jD
 simp
 refine ⟨L1,R1.move h3 (by omega) fun j blk _ g=>h5 _ _ (x2.2 _ _ g),⟨by have:=T1.nx;omega,T1.ts,T1.tag,fun k blk h0 g=>h5 _ _ (x2.2 _ _ (T1.keep k blk h0 g)),T1.es⟩,hts1,hr1,elB e.bs,ia,h1,fun h=>?_,by have:=ybg e.bs;have:=S1.ok.len;omega,fun k hk=>?_,fun p hp=>?_⟩
 ·have:=h2 h
  exact kg fun hc=>by have:=R1.tlt ia hc;omega
 ·obtain ⟨p,hp⟩:∃p,L1.ts[k]?=some p:=⟨_,kC (S1.lt k hk)⟩
  exact ⟨p,by rw [←hts1];exact hp,(hr1 node p).1 (by rw [←hn];exact (R1.rel_at he p).2 ⟨k,hk,hp⟩)⟩
 ·rw [←hr1,←hn,R1.rel_at he,hts1] at hp
  exact hp
theorem yeb (s:Sy) (x:Str):(∃(i k:Nat) (ob:Ob),atP s x=((i:Int),(k:Int))∧s.objs[i]?=some ob∧yd7 x=some (ob.name,k))∨(atP s x=(-1,0)∧∀ob∈s.objs,∀k,yd7 x≠some (ob.name,k)):=by
 unfold atP
 cases h:yd7 x with
 | none=>exact .inr ⟨rfl,fun _ _ _ h=>by cases h⟩
 | some ok=>
  obtain ⟨o,k⟩:=ok
  cases hm:yfp (eoS s) o with
  | none=>
   simp only [hm]
   refine .inr ⟨trivial,fun ob hob k' hk=>?_⟩
   injection hk with hk;injection hk with h1 h2
   rcases y94 (eoS s) o with ⟨_,v,_,h3⟩ | ⟨_,h3,_⟩
   ·rw [hm] at h3;cases h3
   ·obtain ⟨i,hi⟩:=List.mem_iff_getElem?.1 hob
    refine h3 (ob.name,.i .i64 (i:Nat)) ?_ h1.symm
    simp only [eoS,List.mem_map]
    exact ⟨(ob,i),by rw [List.mem_zipIdx_iff_getElem?];simpa using hi,rfl⟩
  | some v=>
   obtain ⟨i,rfl,ob,h1,h2⟩:=yof hm
   simp only [hm]
   exact .inl ⟨i,k,ob,rfl,h1,by rw [h2]⟩
structure SyN (s:Sy):Prop where
 ob:(s.objs.map Ob.name).Nodup
 fn:(s.fns.map Fu.name).Nodup
 kb:∀o∈s.objs,o.kinds.length≤64
 cb:∀c∈s.cons,0≤c.k∧c.k≤64
 mb:∀o∈s.objs,o.marks.length≤140737488355328∧o.name.length≤140737488355328
theorem yd8 {α:Type} {f:α→Str} {l:List α} (h:(l.map f).Nodup) {i j:Nat} {a b:α} (ha:l[i]?=some a) (hb:l[j]?=some b) (e:f a=f b):i=j:=by
 rw [List.nodup_iff_pairwise_ne] at h
 have h1:(l.map f)[i]?=some (f a):=by simp [ha]
 have h2:(l.map f)[j]?=some (f a):=by simp [hb,e]
 obtain ⟨q1,q2⟩:=List.getElem?_eq_some_iff.1 h1
 obtain ⟨r1,r2⟩:=List.getElem?_eq_some_iff.1 h2
 rcases Nat.lt_trichotomy i j with h0 | h0 | h0
 ·exact absurd (q2.trans r2.symm) (List.pairwise_iff_getElem.1 h i j q1 r1 h0)
 ·exact h0
 ·exact absurd (r2.trans q2.symm) (List.pairwise_iff_getElem.1 h j i r1 q1 h0)
theorem SyN.any {s:Sy} (h:SyN s) {i:Nat} {ob:Ob} (hi:s.objs[i]?=some ob) (q:Ob→Bool):(s.objs.any fun o=>decide (o.name=ob.name)&&q o)=q ob:=by
 cases hq:q ob with
 | true=>
  rw [List.any_eq_true]
  exact ⟨ob,kY hi,by simp [hq]⟩
 | false=>
  rw [List.any_eq_false]
  intro o ho hc
  simp only [kF,decide_eq_true_eq] at hc
  obtain ⟨j,hj⟩:=List.mem_iff_getElem?.1 ho
  have:=yd8 h.ob hj hi hc.1
  subst this
  rw [hj] at hi;injection hi with hi;subst hi
  rw [hq] at hc;exact absurd hc.2 (by simp)
theorem ptrP_at {s:Sy} (h:SyN s) {x:Str} {i k:Nat} {ob:Ob} (hi:s.objs[i]?=some ob) (hx:yd7 x=some (ob.name,k)):yav s x=decide (ob.kinds[k]?=some 112):=by
 unfold yav
 rw [hx]
 simp only [Bool.decide_and]
 exact h.any hi fun o=>decide (o.kinds[k]?=some 112)
theorem ptrP_no {s:Sy} {x:Str} (h:∀ob∈s.objs,∀k,yd7 x≠some (ob.name,k)):yav s x=false:=by
 unfold yav
 split
 ·rename_i o k hx
  rw [List.any_eq_false]
  intro ob hob hc
  simp only [decide_eq_true_eq] at hc
  exact h ob hob k (by rw [hx,hc.1])
 ·rfl
theorem ydr {s:Sy} {id:Nat} {L:RkL} {m:Bool} {H:Hp} (R:RkOk s id L m H) (hN:SyN s) {n:Nat} {x:Str} (hx:L.ts[n]?=some x):
  AC Tryz.prog y47 [.p (some (id,0,10)),.i .i64 (n:Nat)] H (fun v X=>v=.b (yav s x)∧X=H):=by
 obtain ⟨mm,hg,hm⟩:=R.blk
 have hnl:=(List.getElem?_eq_some_iff.1 hx).1
 have hts:L.ts≠[]:=fun e=>by rw [e] at hnl;exact absurd hnl (by simp)
 obtain ⟨hav,ma,ga,hma⟩:L.av=.sl (some (L.ida,0,L.ts.length*2)) L.ts.length 2∧∃m,H.get L.ida=some (.cells (ylf s L.ts) m)∧m≤L.ts.length*2:=by
  rcases R.atr with ⟨e,_⟩ | ⟨_,h⟩
  ·exact absurd e hts
  ·exact h
 have hal:=yg7 s L.ts
 have hat:=ypm (s:=s) hx
 have ni:=R.lt _ _ hg
 refine AC.codeP y1s.at y1s.ok (by simp) fun hlt=>?_
 simp only [y1s]
 apply jA
 simp [y1s.r0]
 apply jA
 simp [atc] at hat
 simp [y1s.r1,hg,hm,yau,hav,ga,hal,hma,hat,hnl,show n*2+2≤L.ts.length*2 by omega]
 have e1:H.Ext ((H.add (.cells [.i .i64 0,.i .i64 0] 2)).upd H.next (.cells [.i .i64 (atP s x).1,.i .i64 (atP s x).2] 2)):=(Hp.Ext.add hlt _).upd hlt (kG _) _
 have gp:((H.add (.cells [.i .i64 0,.i .i64 0] 2)).upd H.next (.cells [.i .i64 (atP s x).1,.i .i64 (atP s x).2] 2)).get H.next=some (.cells [.i .i64 (atP s x).1,.i .i64 (atP s x).2] 2):=by simp
 generalize (H.add (.cells [.i .i64 0,.i .i64 0] 2)).upd H.next (.cells [.i .i64 (atP s x).1,.i .i64 (atP s x).2] 2)=X at e1 gp ⊢
 have gi:=e1.2 _ _ hg
 simp only [yau] at gi
 refine AX.seq (AX.drw ?_)
 rcases yeb s x with ⟨i,k,ob,h1,h2,h3⟩ | ⟨h1,h2⟩
 ·have hil:=(List.getElem?_eq_some_iff.1 h2).1
  have hie:=(List.getElem?_eq_some_iff.1 h2).2
  rw [ptrP_at hN h2 h3]
  rw [h1] at gp
  by_cases hk:k<ob.kinds.length
  ·simp [y1s.r2,gi,gp,hm,hil,hie,y4l,hk]
   apply jD
   simp [e1]
   have:(ob.kinds[k].toNat=112)=(ob.kinds[k]=112):=by
    have:=u8_eq ob.kinds[k] 112 (by omega)
    rw [←show (((ob.kinds[k].toNat:Nat):Int)=((112:Nat):Int))=(ob.kinds[k].toNat=112) from propext Int.ofNat_inj]
    exact this
   rw [show decide (ob.kinds[k].toNat=112)=decide (ob.kinds[k]=112) from decide_eq_decide.2 (by rw [this])]
   exact .refl _
  ·simp [y1s.r2,gi,gp,hm,hil,hie,y4l,hk]
   apply jD
   simp [e1]
   exact .refl _
 ·rw [ptrP_no h2]
  rw [h1] at gp
  simp [y1s.r2,gi,gp,hm]
  apply jD
  simp [e1]
  exact .refl _
end Go.Proofs.YtikpijbeobeckaaGreatDoor
