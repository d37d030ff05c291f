/- Part 44. -/
import Derived.Test.YtikpijbeobeckaaGreatDoorXGw17
import Derived.Test.YtikpijbeobeckaaGreatDoorXGw26
import Derived.Test.YtikpijbeobeckaaGreatDoorXGw27
import Derived.Test.YtikpijbeobeckaaGreatDoorXGw33
import Derived.Test.YtikpijbeobeckaaGreatDoorXGw37
import Derived.Test.YtikpijbeobeckaaGreatDoorXGw39
import Derived.Test.YtikpijbeobeckaaGreatDoorXGw40
import Derived.Test.YtikpijbeobeckaaGreatDoorXGw43
set_option linter.unusedSimpArgs false
set_option linter.unusedVariables false
namespace Go.Proofs.YtikpijbeobeckaaGreatDoor
open Am C
def efT (l:List Fu):List (Str × V):=l.map fun f=>(f.name,.agg (y75 f))
def eoT (l:List Ob):List (Str × V):=l.zipIdx.map fun p=>(p.1.name,.i .i64 (p.2:Nat))
theorem yjp {es:List (Str × V)} {k:Str} (h:∀p∈es,p.1≠k) (v:V):mput es k v=es++[(k,v)]:=by
 rcases y94 es k with ⟨i,u,h1,_⟩ | ⟨_,_,h3⟩
 ·exact absurd rfl (h _ (kY h1))
 ·exact h3 v
def MapI (X0:Hp) (mf:Nat) (es:List (Str × V)) (X:Hp):Prop:=Hp.Lt X∧X0.next≤X.next∧(∀j blk,j≠mf→X0.get j=some blk→X.get j=some blk)∧X.get mf=some (.obj (.map es))
def FnsI (s:Sy) (X0:Hp) (mf id:Nat) (mm:Nat) (F:Fr) (X:Hp):Prop:=
 ∃i,i≤s.fns.length∧mm=s.fns.length-i∧MapI X0 mf (efT (s.fns.take i)) X∧F=[(1,.fp (y5b s) 0),(5,.p (some (id,0,10))),(22,.fs (s.fns.map y75)),(23,.i .i64 s.fns.length),(24,.i .i64 i)]
def ObsI (s:Sy) (X0:Hp) (mo id:Nat) (mm:Nat) (F:Fr) (X:Hp):Prop:=
 ∃i,i≤s.objs.length∧mm=s.objs.length-i∧MapI X0 mo (eoT (s.objs.take i)) X∧F=[(5,.p (some (id,0,10))),(37,.fs (s.objs.map y4l)),(38,.i .i64 s.objs.length),(39,.i .i64 i)]
def MainI (s:Sy) (H:Hp) (id:Nat) (mm:Nat) (F:Fr) (X:Hp):Prop:=
 ∃L m,RkOk s id L m X∧H.Ext X∧(∀k,L.tag k≠0→H.next≤k)∧(∀y∈L.ts,y∈y41 s)∧y7d (y5x L) (ydi (y9u s) (y41 s))∧(∀Y,Cl s Y→y7d (y5x L) Y)∧(m=false→Cl s (y5x L))∧
  mm=2*((y9u s).length*(y41 s).length-crd (y9u s) (y41 s) (y5x L))+(if m then 1 else 0)∧F=[(5,.p (some (id,0,10)))]
def MainE (s:Sy) (H:Hp) (id:Nat) (X:Hp):Prop:=∃(L:RkL) (m:Bool),RkOk s id L m X∧H.Ext X∧y7d (y5x L) (ydi (y9u s) (y41 s))∧∀n p,y5x L n p↔Der s n p
set_option maxHeartbeats 2000000 in
theorem yef {s:Sy} (hs:syS s) {l:List y6b} (hl:ybl s=0→IsL s l) (H:Hp):AC Tryz.prog y6y [.agg (y5b s)] H (fun v H'=>v=(if ybl s=0 then .tup [fsV l,.i .i64 0] else .tup [.fs [],.i .i64 (ybl s)])∧H'=H):=by
 refine AC.codeP yv.at yv.ok (by split <;> simp) fun hlt=>?_
 simp only [yv]
 apply jA
 simp [yv.r0,y5b]
 apply jB
 simp [yv.r1]
 refine AC.fix (yq0 s hs H) ?_
 simp
 apply jA
 simp [yv.r2]
 by_cases he:ybl s=0
 rotate_left
 ·refine jG (by simp [he]) (jA ?_)
  simp [yv.r3]
  apply jD
  simp [he]
  exact ⟨.refl _,frz_t2 (.sl0 _)⟩
 refine jF (by simp [he]) (AX.skip ?_)
 simp
 have U:=sysR he hs
 obtain ⟨s1,s2,s3,_⟩:=y9z he
 apply jA
 simp [yv.r4,y7x]
 have a1:=Hp.add_lt hlt (.obj (.map []))
 have a2:=Hp.add_lt a1 (.obj (.map []))
 have a3:=Hp.add_lt a2 (.obj (.map []))
 obtain ⟨X0,hX0⟩:∃X0,X0=((((H.add (.obj (.map []))).add (.obj (.map []))).add (.obj (.map []))).add (.cells [.fs (s.objs.map y4l),.fs (s.fns.map y75),.fs (s.cons.map y3n),.sl none 0 0,.sl none 0 0,.sl none 0 0,.mp (some H.next),.mp (some (H.next+1)),.mp (some (H.next+1+1)),.b false] 10)):=⟨_,rfl⟩
 have l0:Hp.Lt X0:=by rw [hX0];exact Hp.add_lt a3 _
 have e0:H.Ext X0:=by rw [hX0];exact (((Hp.Ext.add hlt _).trans (.add a1 _)).trans (.add a2 _)).trans (.add a3 _)
 have n0:X0.next=H.next+4:=by rw [hX0];simp
 have gid:X0.get (H.next+1+1+1)=some (.cells [.fs (s.objs.map y4l),.fs (s.fns.map y75),.fs (s.cons.map y3n),.sl none 0 0,.sl none 0 0,.sl none 0 0,.mp (some H.next),.mp (some (H.next+1)),.mp (some (H.next+1+1)),.b false] 10):=by rw [hX0];simp
 have gmf:X0.get H.next=some (.obj (.map [])):=by rw [hX0];simp [show H.next≠H.next+1 by omega,show H.next≠H.next+1+1 by omega,show H.next≠H.next+1+1+1 by omega]
 have gmo:X0.get (H.next+1)=some (.obj (.map [])):=by rw [hX0];simp [show H.next+1≠H.next+1+1 by omega,show H.next+1≠H.next+1+1+1 by omega]
 have gms:X0.get (H.next+1+1)=some (.obj (.map [])):=by rw [hX0];simp
 rw [←hX0]
 clear hX0 a1 a2 a3
 obtain ⟨id,hid⟩:∃id,id=H.next+1+1+1:=⟨_,rfl⟩
 obtain ⟨mS,hmS⟩:∃mS,mS=H.next+1+1:=⟨_,rfl⟩
 obtain ⟨mo,hmo⟩:∃mo,mo=H.next+1:=⟨_,rfl⟩
 obtain ⟨mf,hmf⟩:∃mf,mf=H.next:=⟨_,rfl⟩
 have qid:id=mf+3:=by omega
 have qmS:mS=mf+2:=by omega
 have qmo:mo=mf+1:=by omega
 rw [←hid,←hmS,←hmo] at gid
 rw [←hmf] at gid gmf
 rw [←hmo] at gmo
 rw [←hmS] at gms
 rw [←hid]
 refine AX.cut (fun F X=>F=[(1,.fp (y5b s) 0),(5,.p (some (id,0,10)))]∧MapI X0 mf (efT s.fns) X) ?_ ?_
 ·apply jA
  simp [yv.r5]
  refine AX.pblock (AX.loop (FnsI s X0 mf id) s.fns.length ⟨_,_,.refl _ _,0,by omega,by omega,⟨l0,kG _,fun _ _ _ h=>h,by simpa [efT] using gmf⟩,by simp [y5b]⟩ ?_)
  rintro mm F X ⟨i,hi,rfl,⟨xl,xn,xk,xm⟩,rfl⟩
  simp only [yv.l0]
  apply jA
  simp [yv.r6]
  refine AX.seq (AX.pcond rfl (fun hb=>AX.skip ?_) (fun hb=>AX.exit ?_))
  rotate_left
  ·simp at hb
   simp
   have:i=s.fns.length:=by omega
   subst this
   rw [List.take_length] at xm
   exact ⟨_,_,.refl _ _,rfl,xl,xn,xk,xm⟩
  simp at hb
  simp
  obtain ⟨f,hfi⟩:∃f,s.fns[i]?=some f:=⟨_,kC hb⟩
  have hfe:s.fns[i]=f:=(List.getElem?_eq_some_iff.1 hfi).2
  have hid':=xk id _ (by omega) gid
  have htk:s.fns.take (i+1)=s.fns.take i++[f]:=by rw [kJ,hfi];rfl
  have hnew:mput (efT (s.fns.take i)) f.name (.agg (y75 f))=efT (s.fns.take (i+1)):=by
   rw [htk,yjp]
   ·simp [efT]
   ·intro p hp
    simp only [efT,List.mem_map] at hp
    obtain ⟨g,hg,rfl⟩:=hp
    obtain ⟨j,hj⟩:=List.mem_iff_getElem?.1 hg
    intro q
    rw [kj] at hj
    split at hj
    ·have:=yd8 U.nm.fn hj hfi q
     omega
    ·cases hj
  have nid:=xl _ _ hid'
  have nmf:=xl _ _ xm
  apply jC
  simp [yv.r7,hb,hfe,y75]
  refine AX.drw ?_
  simp [y75] at hnew
  simp [yv.r8,hid',xm,hnew,show id≠X.next by omega,show mf≠X.next by omega,Ne.symm (show mf≠X.next by omega)]
  apply jE
  simp [yv.r9,y2g hb (show s.fns.length≤9223372036854775807 by omega)]
  refine ⟨s.fns.length-(i+1),by omega,_,_,.refl _ _,i+1,by omega,rfl,⟨Hp.upd_lt (Hp.upd_lt (Hp.add_lt xl _) (by simp) _) (by simp;omega) _,by simp;omega,fun j blk hj g=>?_,by simp⟩,by simp⟩
  have:=xl _ _ (xk j blk hj g)
  simp [hj,show j≠X.next by omega]
  exact xk j blk hj g
 rintro F X1 ⟨rfl,y1l,y1n,y1k,y1m⟩
 refine AX.cut (fun F X=>F=[(5,.p (some (id,0,10)))]∧MapI X1 mo (eoT s.objs) X) ?_ ?_
 ·apply jA
  simp [yv.r10,y5b]
  refine AX.pblock (AX.loop (ObsI s X1 mo id) s.objs.length ⟨_,_,.refl _ _,0,by omega,by omega,⟨y1l,kG _,fun _ _ _ h=>h,by simpa [eoT] using y1k mo _ (by omega) gmo⟩,by simp⟩ ?_)
  rintro mm F X ⟨i,hi,rfl,⟨xl,xn,xk,xm⟩,rfl⟩
  simp only [yv.l1]
  apply jA
  simp [yv.r11]
  refine AX.seq (AX.pcond rfl (fun hb=>AX.skip ?_) (fun hb=>AX.exit ?_))
  rotate_left
  ·simp at hb
   simp
   have:i=s.objs.length:=by omega
   subst this
   rw [List.take_length] at xm
   exact ⟨_,_,.refl _ _,rfl,xl,xn,xk,xm⟩
  simp at hb
  simp
  obtain ⟨f,hfi⟩:∃f,s.objs[i]?=some f:=⟨_,kC hb⟩
  have hfe:s.objs[i]=f:=(List.getElem?_eq_some_iff.1 hfi).2
  have hid':=xk id _ (by omega) (y1k id _ (by omega) gid)
  have htk:s.objs.take (i+1)=s.objs.take i++[f]:=by rw [kJ,hfi];rfl
  have hnew:mput (eoT (s.objs.take i)) f.name (.i .i64 (i:Nat))=eoT (s.objs.take (i+1)):=by
   rw [htk,yjp]
   ·simp [eoT,List.zipIdx_append,show min i s.objs.length=i by omega]
   ·intro p hp
    simp only [eoT,List.mem_map] at hp
    obtain ⟨⟨g,j⟩,hg,rfl⟩:=hp
    rw [List.mem_zipIdx_iff_getElem?] at hg
    intro q
    simp only [kj] at hg
    split at hg
    ·have:=yd8 U.nm.ob hg hfi q
     omega
    ·cases hg
  have nid:=xl _ _ hid'
  have nmo:=xl _ _ xm
  apply jC
  simp [yv.r12,hb,hfe,y4l]
  refine AX.drw ?_
  simp [yv.r13,hid',xm,hnew,show id≠X.next by omega,show mo≠X.next by omega,Ne.symm (show mo≠X.next by omega)]
  apply jE
  simp [yv.r14,y2g hb (show s.objs.length≤9223372036854775807 by omega)]
  refine ⟨s.objs.length-(i+1),by omega,_,_,.refl _ _,i+1,by omega,rfl,⟨Hp.upd_lt (Hp.upd_lt (Hp.add_lt xl _) (by simp) _) (by simp;omega) _,by simp;omega,fun j blk hj g=>?_,by simp⟩,by simp⟩
  have:=xl _ _ (xk j blk hj g)
  simp [hj,show j≠X.next by omega]
  exact xk j blk hj g
 rintro F X2 ⟨rfl,y2l,y2n,y2k,y2m⟩
 have hid2:=y2k id _ (by omega) (y1k id _ (by omega) gid)
 have nid2:=y2l _ _ hid2
 obtain ⟨L0,hL0⟩:∃L0:RkL,L0=⟨fun k=>if k=id then 1 else if k=mf then 5 else if k=mo then 6 else if k=mS then 7 else 0,[],[],.sl none 0 0,.sl none 0 0,.sl none 0 0,0,0,0,mf,mo,mS,[]⟩:=⟨_,rfl⟩
 have hrel0:∀n p,¬y5x L0 n p:=fun n p ⟨e,h,_⟩=>by rw [hL0] at h;cases h
 have R0:RkOk s id L0 true (X2.upd id (.cells (yau s L0 true) 10)):=by
  have nn:∀j blk,j≠id→X2.get j=some blk→(X2.upd id (.cells (yau s L0 true) 10)).get j=some blk:=fun j blk h g=>by simp [h,g]
  subst hL0
  exact ⟨Hp.upd_lt y2l nid2 _,⟨10,by simp,by omega⟩,⟨.inl ⟨rfl,0,rfl⟩,.inl ⟨rfl,0,rfl⟩,rfl,by simp,by simp,by simp [y79,y3o],by simp⟩,.inl ⟨rfl,0,rfl⟩,
   nn mf _ (by omega) (y2k mf _ (by omega) y1m),nn mo _ (by omega) y2m,nn mS _ (by omega) (y2k mS _ (by omega) (y1k mS _ (by omega) gms)),fun i e h=>(by cases h),by simp,by simp [show mf≠id by omega],by simp [show mo≠id by omega,show mo≠mf by omega],
   by simp [show mS≠id by omega,show mS≠mf by omega,show mS≠mo by omega],fun h=>absurd rfl h,fun i e h=>(by cases h),fun k hk=>by
    simp only [Hp.next_upd]
    have:=y2l _ _ y2m
    simp only at hk
    split at hk
    ·omega
    ·split at hk
     ·omega
     ·split at hk
      ·omega
      ·split at hk
       ·omega
       ·exact absurd rfl hk,by simp⟩
 have E2:H.Ext (X2.upd id (.cells (yau s L0 true) 10)):=⟨by simp;omega,fun j blk g=>by
  have:=hlt _ _ g
  simp [show j≠id by omega]
  exact y2k j _ (by omega) (y1k j _ (by omega) (e0.2 _ _ g))⟩
 have T0:∀k,L0.tag k≠0→H.next≤k:=fun k hk=>by
  rw [hL0] at hk
  simp only at hk
  split at hk
  ·omega
  ·split at hk
   ·omega
   ·split at hk
    ·omega
    ·split at hk
     ·omega
     ·exact absurd rfl hk
 refine AX.cut (fun F X=>F=[(5,.p (some (id,0,10)))]∧MainE s H id X) ?_ ?_
 ·apply jA
  simp [yv.r15,hid2,y7x]
  have eL:yau s L0 true=[.fs (s.objs.map y4l),.fs (s.fns.map y75),.fs (s.cons.map y3n),.sl none 0 0,.sl none 0 0,.sl none 0 0,.mp (some mf),.mp (some mo),.mp (some mS),.b true]:=by rw [hL0];rfl
  rw [←eL]
  refine AX.pblock (AX.loop (MainI s H id) _ ⟨_,_,.refl _ _,L0,true,R0,E2,T0,fun y hy=>(by rw [hL0] at hy;cases hy),fun n p h=>absurd h (hrel0 n p),fun Y _ n p h=>absurd h (hrel0 n p),fun h=>(by cases h),rfl,rfl⟩ ?_)
  rintro mm F X ⟨L,m,R,E,T,hP,hU,hS,hC,rfl,rfl⟩
  obtain ⟨mb,hg,hm⟩:=R.blk
  simp only [yv.l2]
  apply jB
  simp [yv.r16,hg,hm,yau]
  refine AX.pcond (t:=m) rfl (fun hb=>AX.skip ?_) (fun hb=>AX.exit ?_)
  rotate_left
  ·simp
   exact ⟨_,_,.refl _ _,rfl,L,m,R,E,hU,fun n p=>⟨fun h Y hY=>hS Y hY n p h,fun h=>h _ (hC hb)⟩⟩
  subst hb
  simp
  refine AX.pblock (jA ?_)
  obtain ⟨R1,T1⟩:=R.more false
  simp [yv.r17,hg,hm,yau,y7x]
  apply jE
  simp [yv.r18]
  refine (yn2 R1 U.nm U.cn U.pl hP).mono ?_
  rintro v X3 ⟨L3,m3,A⟩
  simp
  have hU3:y7d (y5x L3) (ydi (y9u s) (y41 s)):=A.tr.snd _ U.cl hU
  have c1:=crd_le (y9u s) (y41 s) (y5x L3)
  have T3:∀k,k<H.next→L3.tag k=0:=fun k hk=>by
   rw [A.to.tag k (by have:=E.1;simp;omega)]
   exact kg fun h=>by have:=T k h;omega
  refine ⟨2*((y9u s).length*(y41 s).length-crd (y9u s) (y41 s) (y5x L3))+(if m3 then 1 else 0),?_,_,_,.refl _ _,L3,m3,A.ok,⟨kV E.1 (show X.next≤X3.next from A.to.nx),fun j blk g=>?_⟩,fun k hk=>?_,A.tsp hP,hU3,fun Y hY=>A.tr.snd Y hY (hS Y hY),fun e=>?_,rfl,rfl⟩
  ·cases m3 with
   | false=>
    have:=crd_mono (N:=y9u s) (P:=y41 s) A.tr.mono
    simp;omega
   | true=>
    have:=Tr.lt (m:=true) U.cl A.tr hU
    simp;omega
  ·have hj:=hlt _ _ g
   have ht:L.tag j=0:=kg fun h=>by have:=T j h;omega
   exact A.to.keep j blk ht (T1.keep j blk ht (E.2 _ _ g))
  ·exact kg fun h=>hk (T3 k (by omega))
  ·rw [yn0 A.tr e];exact A.fin e
 ·rintro F X ⟨rfl,L,m,R,E,hU,hD⟩
  apply jA
  simp [yv.r19]
  refine (yn4 R U.len fun n p h=>(hU n p h).1).mono ?_
  rintro v X4 ⟨l',hc,hh,E4,hf⟩
  have el:l'=l:=IsL.one ⟨hc,fun n p=>(hh n p).trans (hD n p)⟩ (hl he)
  subst el
  simp
  apply jD
  simp [he]
  exact ⟨E.trans E4,frz_t2 (hf.mono fun k hk=>kV E.1 hk)⟩
open Go.Proofs
set_option maxRecDepth 100000
namespace C
def y26.r0:jI:=[an 0]
def y26.r1:jI:=[⟨some 4,none,.op (.build [.s [],.s [],.fs []] [(0,1,.c (.s [120])),(1,1,.c (.s [112]))])⟩,⟨some 5,none,.op (.build [.s [],.s [],.fs []] [(0,1,.c (.s [121])),(1,1,.c (.s [105]))])⟩,⟨some 6,none,.op (.bfz 2 3 [.s [],.s [],.sl none 0 0] [(0,3,.t 4),(3,3,.t 5)])⟩,a2o 7 0 0 0 1 1 1 1 102 46 112 2 1 120 43 48,a2o 8 0 0 0 1 1 1 1 102 46 114 2 1 121 43 48,a2o 9 0 0 0 1 3 1 1 102 46 113 2 1 102 46 112,a2o 10 0 0 0 1 4 1 1 102 46 112 2 1 102 46 114,⟨some 11,none,.op (.bfz 4 6 [.i .i64 0,.s [],.s [],.i .i64 0,.s [],.sl none 0 0] [(0,6,.t 7),(6,6,.t 8),(12,6,.t 9),(18,6,.t 10)])⟩,⟨some 12,none,.op (.build [.fs [],.fs [],.fs []] [(0,1,.t 6),(2,1,.t 11)])⟩,a2n 1 0 0 0 0 0 0,aj 3 1 12]
def y26.r2:jI:=[ak 14 3 1,⟨some 15,none,.call y6y [.t 14]⟩,ac 13 15,ai 16 0 13,ai 17 1 13,ac 2 16,ac 3 17]
def y26.r3:jI:=[ac 18 3,az 19 18 0,ac 20 19,ap 21 20 2,⟨some 22,(some (20,true)),.call ycf [.t 21,.c (.s [102,46,113])]⟩,⟨some 23,(some (20,true)),.op (.bfz 1 1 [.s []] [(0,1,.c (.s [121,43,48]))])⟩,⟨some 24,(some (20,true)),.call y81 [.t 22,.t 23]⟩,ar 25 20 24,ac 26 25,ap 27 26 2,a2m 28 26 27,a1l 29 26 28 4,ar 30 26 29,ac 0 30]
def y26:AFunc:=⟨31,[.t 0],jJ [] y26.r0 (jJ [1] y26.r1 (jJ [2,3] y26.r2 (jJ [0] y26.r3 (.ret))))⟩
theorem y26.ok:y25 Tryz.prog Tryz.f12 y26=true:=by kernel_rfl
theorem y26.at:km y7g Tryz.f12:=Tryz.func12
end C
set_option maxRecDepth 100000
def yga:Sy:=⟨[⟨[120],[112],[]⟩,⟨[121],[105],[]⟩],[],[⟨1,[102,46,112],[120,43,48],0,[],[]⟩,⟨1,[102,46,114],[121,43,48],0,[],[]⟩,⟨3,[102,46,113],[102,46,112],0,[],[]⟩,⟨4,[102,46,112],[102,46,114],0,[],[]⟩]⟩
def wk17a:List y6b:=[([102,46,112],[[120,43,48]]),([102,46,114],[[121,43,48]]),([120,43,48],[[121,43,48]])]
def wl17:List y6b:=[([102,46,112],[[120,43,48]]),([102,46,113],[[121,43,48]]),([102,46,114],[[121,43,48]]),([120,43,48],[[121,43,48]])]
theorem wk17_e:ybl yga=0:=by kernel_rfl
theorem wk17_1:y9o yga []=(wk17a,true):=by kernel_rfl
theorem wk17_2:y9o yga wk17a=(wl17,true):=by kernel_rfl
theorem wk17_3:y9o yga wl17=(wl17,false):=by kernel_rfl
theorem wk17_s:syS yga:=by
 refine ⟨by simp [yga],by simp [yga],by simp [yga],fun o ho=>?_,fun f hf=>?_,fun c hc=>?_⟩
 ·simp [yga] at ho;rcases ho with rfl | rfl <;> simp [obS]
 ·simp [yga] at hf
 ·simp [yga] at hc;rcases hc with rfl | rfl | rfl | rfl <;> simp [cnS]
theorem wk17_l:IsL yga wl17:=by
 obtain ⟨c1,t1⟩:=yd5 (s:=yga) CanF.nil
 rw [wk17_1] at c1 t1
 obtain ⟨c2,t2⟩:=yd5 (s:=yga) c1
 rw [wk17_2] at c2 t2
 have h0:∀Y,Cl yga Y→y7d (y6p []) Y:=fun Y _ n p h=>by simp [y6p,ofS] at h
 have:=ygj (s:=yga) c2 (fun Y hY=>t2.snd Y hY (t1.snd Y hY (h0 Y hY))) (by rw [wk17_3])
 rw [wk17_3] at this
 exact this
theorem ykl (H:Hp):AC Tryz.prog y7g [] H (fun v H'=>v=.b true∧H'=H):=by
 refine AC.codeP y26.at y26.ok (by simp) fun hlt=>?_
 simp only [y26]
 apply jA
 simp [y26.r0]
 apply jA
 simp [y26.r1,y7x]
 apply jA
 simp [y26.r2]
 have e1:=(Hp.Ext.add hlt (.cells [.sl none 0 0,.sl none 0 0,.sl none 0 0] 3)).upd hlt (kG _) (.cells (y5b yga) 3)
 have hF:=yef wk17_s (l:=wl17) (fun _=>wk17_l) ((H.add (.cells [.sl none 0 0,.sl none 0 0,.sl none 0 0] 3)).upd H.next (.cells (y5b yga) 3))
 rw [if_pos wk17_e] at hF
 refine AC.fix hF ?_
 simp
 have hO:=fun X=>LOf_ok wl17 [102,46,113] (by simp [wl17]) (fun f hf=>by simp [wl17] at hf;rcases hf with rfl | rfl | rfl | rfl <;> simp) X
 rw [show ofS wl17 [102,46,113]=[[121,43,48]] by kernel_rfl] at hO
 apply jA
 simp [y26.r3,y7x]
 refine AC.fix (hO _) ?_
 simp [y7x]
 refine AC.fix (Same_ok [[121,43,48]] [[121,43,48]] (by simp [N63]) _) ?_
 simp
 simp [fsV,show wl17.length=4 from rfl]
 apply jD
 simp
 exact ⟨e1,.refl _⟩
def eqL {α:Type} (p:α→α→Bool):List α→List α→Bool
 | [],[]=>true
 | x::r,y::s=>p x y&&eqL p r s
 | _,_=>false
theorem eqL_eq {α:Type} [DecidableEq α] {p:α→α→Bool}:∀{l m:List α},(∀x∈l,∀y∈m,p x y=decide (x=y))→eqL p l m=decide (l=m)
 | [],[],_=>by simp [eqL]
 | [],y::s,_=>by simp [eqL]
 | x::r,[],_=>by simp [eqL]
 | x::r,y::s,h=>by
  have ih:=eqL_eq (p:=p) (l:=r) (m:=s) fun a ha b hb=>h a (by simp [ha]) b (by simp [hb])
  simp only [eqL,ih,h x (by simp) y (by simp)]
  by_cases e1:x=y <;> by_cases e2:r=s <;> simp [e1,e2]
theorem yoe {α:Type} {p:α→α→Bool}:∀{l m:List α},l.length≠m.length→eqL p l m=false
 | [],[],h=>by simp at h
 | [],y::s,_=>rfl
 | x::r,[],_=>rfl
 | x::r,y::s,h=>by
  have:=yoe (p:=p) (l:=r) (m:=s) (by simpa using h)
  simp [eqL,this]
def y9v.r0:jI:=[⟨some 6,none,.op (.mov (.c (.b false)))⟩]
def y9v.r1:jI:=[ac 10 0,al 11 10,ac 12 1,al 13 12,a1j 14 11 13]
def y9v.r3:jI:=[ac 15 0,al 16 15,ah 17 0]
def y9v.r4:jI:=[⟨some 18,none,.op (.bin .lss (.t 17) (.t 16))⟩]
def y9v.r5 (zs:List V):jI:=[ac 19 17,⟨some 20,none,.op (.iad zs.length (.t 15) (.t 17))⟩,⟨some 21,none,.op (.load true zs.length (.t 20))⟩,⟨some 8,none,.op (.new zs)⟩,ac 7 19,⟨none,none,.op (.store zs.length (.t 8) (.t 21))⟩]
def y9v.r6 (zs:List V):jI:=[ac 22 1,ac 23 7,⟨some 24,none,.op (.iad zs.length (.t 22) (.t 23))⟩,⟨some 25,none,.op (.load true zs.length (.t 24))⟩,⟨some 9,none,.op (.new zs)⟩,⟨none,none,.op (.store zs.length (.t 9) (.t 25))⟩]
def y9v.r7 (zs:List V):jI:=[ac 26 2,⟨some 27,none,.op (.load true zs.length (.t 8))⟩,⟨some 28,none,.op (.load true zs.length (.t 9))⟩,a1u 29 26 27 28,a1a 30 29]
def y9v.r9:jI:=[⟨some 31,none,.op (.bin .add (.t 17) (.c (.i .i64 1)))⟩,⟨some 17,none,.op (.mov (.t 31))⟩]
def y9v.r10:jI:=[⟨some 6,none,.op (.mov (.c (.b true)))⟩]
def y9v.l0 (zs:List V):ACode:=jJ [1,2,15,16,17,18] y9v.r4 (.seq (.post [1,2,15,16,17] (.cond (.t 18) (.skip) (.exit 0))) (.seq (.post [1,2,15,16,17] (.block 1 (.seq (.post [1,2,7,8,15,16,17] (.region (y9v.r5 zs))) (.seq (.post [1,2,8,9,15,16,17] (.region (y9v.r6 zs))) (.seq (.post [1,2,15,16,17,30] (.region (y9v.r7 zs))) (.post [1,2,15,16,17] (.cond (.t 30) (jJ [6] y9v.r0 (.ret)) (.skip)))))))) (jK [1,2,15,16,17] y9v.r9)))
def y9v (zs:List V):AFunc:=⟨32,[.t 6],jJ [0,1,2] y9v.r0 (.seq (jJ [0,1,2,14] y9v.r1 (.post [0,1,2] (.cond (.t 14) (jJ [6] y9v.r0 (.ret)) (.skip)))) (.seq (jJ [1,2,15,16,17] y9v.r3 (.post [] (.block 0 (.loop (y9v.l0 zs))))) (jJ [6] y9v.r10 (.ret))))⟩
section
variable {α:Type}
def EqfInv (es fs:List (List V)) (g:V) (p:α→α→Bool) (l q:List α) (H:Hp) (m:Nat) (F:Fr) (X:Hp):Prop:=
 ∃i,i≤l.length∧m=l.length-i∧eqL p l q=eqL p (l.drop i) (q.drop i)∧H.Ext X∧(∀id blk,X.get id=some blk→id<X.next)∧F=[(1,.fs fs),(2,g),(15,.fs es),(16,.i .i64 l.length),(17,.i .i64 i)]
theorem y91:∀(zs cs:List V),zs.length=cs.length→setAll zs 0 cs=cs:=fun zs cs h=>by
 apply List.ext_getElem?
 intro j
 rw [yak cs zs 0 j (by omega)]
 by_cases hj:j<cs.length
 ·simp [hj]
 ·rw [if_neg (by omega),List.getElem?_eq_none (by omega),List.getElem?_eq_none (by omega)]
theorem eqfF_ok {fid:Go.FuncId} {fn:Go.Func} {zs:List V} (hf:Tryz.prog.funcs[fid]?=some fn) (hok:y25 Tryz.prog fn (y9v zs)=true) (l q:List α) (enc:α→List V) (hz:0<zs.length) (he:∀x,(enc x).length=zs.length) (hcl:∀x,(enc x).all y3w=true) (f:Go.FuncId) (p:α→α→Bool)
  (hl:l.length≤9223372036854775807) (hq:q.length≤9223372036854775807) (H:Hp) (hc:∀x∈l,∀y∈q,∀H2,AC Tryz.prog f [.agg (enc x),.agg (enc y)] H2 (fun v H'=>v=.b (p x y)∧H'=H2)):
  AC Tryz.prog fid [.fs (l.map enc),.fs (q.map enc),.fn f []] H (fun v H'=>v=.b (eqL p l q)∧H'=H):=by
 refine AC.codeP hf hok (free_b _) fun hlt=>?_
 simp only [y9v]
 apply jA
 simp [y9v.r0]
 apply jB
 simp [y9v.r1]
 refine AX.pcond rfl (fun hd=>?_) (fun hd=>AX.skip ?_)
 ·simp at hd
  apply jA
  simp [y9v.r0]
  apply jD
  simp [yoe hd]
  exact ⟨.refl _,.refl _⟩
 simp at hd
 simp
 apply jB
 simp [y9v.r3]
 refine AX.pblock (AX.loop (EqfInv (l.map enc) (q.map enc) (.fn f []) p l q H) l.length ⟨_,_,.refl _ _,0,by omega,by omega,rfl,.refl _,hlt,rfl⟩ ?_)
 rintro m F X ⟨i,hi,rfl,hx,hE,hX,rfl⟩
 simp only [y9v.l0]
 apply jA
 simp [y9v.r4]
 refine AX.seq (AX.pcond rfl (fun hb=>AX.skip ?_) (fun hb=>AX.exit ?_))
 case refine_2=>
  simp at hb
  simp
  apply jA
  simp [y9v.r10]
  apply jD
  have:eqL p l q=true:=by rw [hx,List.drop_eq_nil_of_le hb,List.drop_eq_nil_of_le (by omega)];rfl
  simp [this]
  exact ⟨hE,.refl _⟩
 simp at hb
 have hb2:i<q.length:=by omega
 rw [kP hb,kP hb2] at hx
 simp only [eqL] at hx
 have g1:l[i]?=some l[i]:=kC hb
 have g2:q[i]?=some q[i]:=kC hb2
 have c1:=hc _ (kL hb) _ (kL hb2)
 generalize l[i]=x at *
 generalize q[i]=y at *
 have t1:List.take zs.length (enc x)=enc x:=kI (by rw [he];omega)
 have t2:List.take zs.length (enc y)=enc y:=kI (by rw [he];omega)
 have s1:setAll zs 0 (enc x)=enc x:=y91 _ _ (he x).symm
 have s2:setAll zs 0 (enc y)=enc y:=y91 _ _ (he y).symm
 have n1:¬enc x=[]:=fun e=>by have:=he x;rw [e] at this;simp at this;omega
 have n2:¬enc y=[]:=fun e=>by have:=he y;rw [e] at this;simp at this;omega
 have k1:∀v∈enc x,y3w v=true:=List.all_eq_true.1 (hcl x)
 have k2:∀v∈enc y,y3w v=true:=List.all_eq_true.1 (hcl y)
 simp
 apply jC
 simp [y9v.r5,g1,he,t1,s1,n1,hz,-y3w,-setAll]
 rw [if_pos k1]
 simp [he,n1,s1,-setAll]
 have E1:=hE.trans (yfy hX (.cells zs zs.length) (.cells (enc x) zs.length))
 have L1:=lt2 hX (.cells zs zs.length) (.cells (enc x) zs.length)
 have G1:((X.add (.cells zs zs.length)).upd X.next (.cells (enc x) zs.length)).get X.next=some (.cells (enc x) zs.length):=by simp
 have N1:X.next<((X.add (.cells zs zs.length)).upd X.next (.cells (enc x) zs.length)).next:=by simp
 generalize (X.add (.cells zs zs.length)).upd X.next (.cells (enc x) zs.length)=Y at *
 generalize X.next=a at *
 apply jA
 simp [y9v.r6,g2,he,t2,s2,n2,hz,-y3w,-setAll]
 rw [if_pos k2]
 simp [he,n2,s2,-setAll]
 have E2:=E1.trans (yfy L1 (.cells zs zs.length) (.cells (enc y) zs.length))
 have L2:=lt2 L1 (.cells zs zs.length) (.cells (enc y) zs.length)
 have G2:((Y.add (.cells zs zs.length)).upd Y.next (.cells (enc y) zs.length)).get Y.next=some (.cells (enc y) zs.length):=by simp
 have G3:((Y.add (.cells zs zs.length)).upd Y.next (.cells (enc y) zs.length)).get a=some (.cells (enc x) zs.length):=by simp [show a≠Y.next by omega,G1]
 generalize (Y.add (.cells zs zs.length)).upd Y.next (.cells (enc y) zs.length)=Z at *
 generalize Y.next=b at *
 apply jA
 simp [y9v.r7,G2,G3,t1,t2]
 refine AC.fix (c1 Z) ?_
 simp
 refine AX.pcond rfl (fun hn=>?_) (fun hn=>AX.skip ?_)
 ·simp at hn
  apply jA
  simp [y9v.r0]
  apply jD
  simp [hx,hn]
  exact ⟨E2,.refl _⟩
 simp at hn
 simp
 apply jE
 simp [y9v.r9,y2g hb hl]
 exact ⟨l.length-(i+1),by omega,_,_,.refl _ _,i+1,by omega,rfl,by rw [hx,hn];rfl,E2,L2,by simp⟩
end
def EqsS (l q:List Str) (H:Hp) (m:Nat) (F:Fr) (X:Hp):Prop:=
 ∃i,i≤l.length∧m=l.length-i∧l.take i=q.take i∧X=H∧F=[(0,ss l),(1,ss q),(12,.i .i64 l.length),(13,.i .i64 i)]
theorem yq8 (l q:List Str) (hl:l.length≤9223372036854775807) (H:Hp):AC Tryz.prog y4g [ss l,ss q] H (fun v H'=>v=.b (decide (l=q))∧H'=H):=by
 refine AC.code ym.at ym.ok ?_
 simp only [ym]
 apply jA
 simp [ym.r0]
 apply jB
 simp [ym.r1,ss]
 refine AX.pcond rfl (fun hd=>?_) (fun hd=>AX.skip ?_)
 ·simp at hd
  apply jA
  simp [ym.r2]
  apply jD
  have:l≠q:=fun e=>hd (by rw [e])
  simp [this]
 simp at hd
 simp
 apply jB
 simp [ym.r3]
 refine AX.pblock (AX.loop (EqsS l q H) l.length ⟨_,_,.refl _ _,0,by omega,by omega,by simp,rfl,by simp [ss]⟩ ?_)
 rintro m F X ⟨i,hi,rfl,hx,rfl,rfl⟩
 simp only [ym.l0]
 apply jA
 simp [ym.r4]
 refine AX.seq (AX.pcond rfl (fun hb=>AX.skip ?_) (fun hb=>AX.exit ?_))
 case refine_2=>
  simp at hb
  simp
  apply jA
  simp [ym.r9]
  apply jD
  have:l=q:=by rw [kI hb,kI (by omega)] at hx;exact hx
  simp [this]
 simp at hb
 have hb2:i<q.length:=by omega
 simp
 apply jC
 simp [ym.r5]
 refine AX.seq (AX.drw ?_)
 simp [ym.r6,ss,hb,hb2]
 by_cases e:l[i]=q[i]
 ·refine jF (by simp [e]) (AX.skip ?_)
  simp
  apply jE
  simp [ym.r8,y2g hb hl]
  exact ⟨l.length-(i+1),by omega,_,_,.refl _ _,i+1,by omega,rfl,by rw [kJ,kJ,hx,kC hb,kC hb2,e],rfl,by simp [ss]⟩
 ·refine jG (by simp [e]) ?_
  apply jA
  simp [ym.r7]
  apply jD
  have:l≠q:=fun h=>e (by subst h;rfl)
  simp [this]
theorem yq4 (x y:y6b) (hx:x.2.length≤9223372036854775807) (H:Hp):AC Tryz.prog y8w [.agg (fcs x),.agg (fcs y)] H (fun v H'=>v=.b (decide (x=y))∧H'=H):=by
 refine AC.code y3b.at y3b.ok ?_
 simp only [y3b]
 apply jA
 simp [y3b.r0,fcs]
 apply jA
 by_cases e:x.1=y.1
 ·simp [y3b.r1,e]
  refine AC.fix (yq8 x.2 y.2 hx H) ?_
  simp
  apply jD
  have:decide (x=y)=decide (x.2=y.2):=decide_eq_decide.2 ⟨fun h=>by rw [h],fun h=>Prod.ext e h⟩
  simp [this]
 ·have e':(x.1 == y.1)=false:=by simpa using e
  simp [y3b.r1,e,e']
  apply jD
  have:x≠y:=fun h=>e (by rw [h])
  simp [this]
theorem eqfFct.ok:y25 Tryz.prog Tryz.f35 (y9v [.s [],.sl none 0 0])=true:=by kernel_rfl
theorem LSame_ok (a b:List y6b) (ha:a.length≤9223372036854775807) (hb:b.length≤9223372036854775807) (hx:∀f∈a,f.2.length≤9223372036854775807) (H:Hp):AC Tryz.prog ya5 [fsV a,fsV b] H (fun v H'=>v=.b (decide (a=b))∧H'=H):=by
 refine AC.code y3r.at y3r.ok ?_
 simp only [y3r]
 apply jA
 simp [y3r.r0]
 apply jA
 simp [y3r.r1]
 refine AC.fix (eqfF_ok yg.at eqfFct.ok a b fcs (by simp) (fun _=>rfl) (fun f=>by simp [fcs,ss,y3w]) y8w (fun x y=>decide (x=y)) ha hb H fun x hx' y hy H2=>yq4 x y (hx x hx') H2) ?_
 rw [eqL_eq fun x _ y _=>rfl]
 simp
 apply jD
 simp
theorem ex_L {s:Sy} (hs:syS s):∃l,ybl s=0→IsL s l:=by
 by_cases he:ybl s=0
 ·obtain ⟨l,hl⟩:=ex_isL (lsR he hs).cl
  exact ⟨l,fun _=>hl⟩
 ·exact ⟨[],fun h=>absurd h he⟩
theorem IsL.okF {s:Sy} {l:List y6b} (h:IsL s l) {N P:List Str} (hc:Cl s (ydi N P)):OkF N P l:=⟨h.can,fun n p x=>Der.le hc n p ((h.has n p).1 x)⟩
end Go.Proofs.YtikpijbeobeckaaGreatDoor
