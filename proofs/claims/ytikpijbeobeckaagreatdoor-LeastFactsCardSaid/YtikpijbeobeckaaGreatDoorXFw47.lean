/- Part 47. -/
import Derived.Test.YtikpijbeobeckaaGreatDoorXFj
import Derived.Test.YtikpijbeobeckaaGreatDoorXFw17
import Derived.Test.YtikpijbeobeckaaGreatDoorXFw27
import Derived.Test.YtikpijbeobeckaaGreatDoorXFw29
import Derived.Test.YtikpijbeobeckaaGreatDoorXFw30
import Derived.Test.YtikpijbeobeckaaGreatDoorXFw36
import Derived.Test.YtikpijbeobeckaaGreatDoorXFw40
import Derived.Test.YtikpijbeobeckaaGreatDoorXFw42
import Derived.Test.YtikpijbeobeckaaGreatDoorXFw44
import Derived.Test.YtikpijbeobeckaaGreatDoorXFw46
set_option linter.unusedSimpArgs false
set_option linter.unusedVariables false
namespace Go.Proofs.YtikpijbeobeckaaGreatDoor
open Am C
def efT (l:List Fu):List (Str × V):=l.map fun f=>(f.name,.agg (yb0 f))
def eoT (l:List Ob):List (Str × V):=l.zipIdx.map fun p=>(p.1.name,.i .i64 (p.2:Nat))
theorem ym4 {es:List (Str × V)} {k:Str} (h:∀p∈es,p.1≠k) (v:V):mput es k v=es++[(k,v)]:=by
 rcases yaw es k with ⟨i,u,h1,_⟩ | ⟨_,_,h3⟩
 ·exact absurd rfl (h _ (kY h1))
 ·exact h3 v
def MapI (X0:Hp) (mf:Nat) (es:List (Str × V)) (X:Hp):Prop:=Hp.Lt X∧X0.next≤X.next∧(∀j blk,j≠mf→X0.get j=some blk→X.get j=some blk)∧X.get mf=some (.obj (.map es))
def FnsI (s:Sy) (X0:Hp) (mf id:Nat) (mm:Nat) (F:Fr) (X:Hp):Prop:=
 ∃i,i≤s.fns.length∧mm=s.fns.length-i∧MapI X0 mf (efT (s.fns.take i)) X∧F=[(1,.fp (y3p s) 0),(5,.p (some (id,0,10))),(22,.fs (s.fns.map yb0)),(23,.i .i64 s.fns.length),(24,.i .i64 i)]
def ObsI (s:Sy) (X0:Hp) (mo id:Nat) (mm:Nat) (F:Fr) (X:Hp):Prop:=
 ∃i,i≤s.objs.length∧mm=s.objs.length-i∧MapI X0 mo (eoT (s.objs.take i)) X∧F=[(5,.p (some (id,0,10))),(37,.fs (s.objs.map y68)),(38,.i .i64 s.objs.length),(39,.i .i64 i)]
def MainI (s:Sy) (H:Hp) (id:Nat) (mm:Nat) (F:Fr) (X:Hp):Prop:=
 ∃L m,RkOk s id L m X∧H.Ext X∧(∀k,L.tag k≠0→H.next≤k)∧(∀y∈L.ts,y∈y4t s)∧y8f (y75 L) (ye1 (ybq s) (y4t s))∧(∀Y,Cl s Y→y8f (y75 L) Y)∧(m=false→Cl s (y75 L))∧
  mm=2*((ybq s).length*(y4t s).length-crd (ybq s) (y4t s) (y75 L))+(if m then 1 else 0)∧F=[(5,.p (some (id,0,10)))]
def MainE (s:Sy) (H:Hp) (id:Nat) (X:Hp):Prop:=∃(L:RkL) (m:Bool),RkOk s id L m X∧H.Ext X∧y8f (y75 L) (ye1 (ybq s) (y4t s))∧∀n p,y75 L n p↔Der s n p
set_option maxHeartbeats 2000000 in
theorem yjz {s:Sy} (hs:syS s) {l:List y73} (hl:ye2 s=0→IsL s l) (H:Hp):AC Tryz.prog y9n [.agg (y3p s)] H (fun v H'=>v=(if ye2 s=0 then .tup [fsV l,.i .i64 0] else .tup [.fs [],.i .i64 (ye2 s)])∧H'=H):=by
 refine AC.codeP yz.at yz.ok (by split <;> simp) fun hlt=>?_
 simp only [yz]
 apply jA
 simp [yz.r0,y3p]
 apply jB
 simp [yz.r1]
 refine AC.fix (yrs s hs H) ?_
 simp
 apply jA
 simp [yz.r2]
 by_cases he:ye2 s=0
 rotate_left
 ·refine jG (by simp [he]) (jA ?_)
  simp [yz.r3]
  apply jD
  simp [he]
  exact ⟨.refl _,yme (.sl0 _)⟩
 refine jF (by simp [he]) (AX.skip ?_)
 simp
 have U:=sysR he hs
 obtain ⟨s1,s2,s3,_⟩:=ylk he
 apply jA
 simp [yz.r4,y91]
 have a1:=Hp.add_lt hlt (.obj (.map []))
 have a2:=Hp.add_lt a1 (.obj (.map []))
 have a3:=Hp.add_lt a2 (.obj (.map []))
 obtain ⟨X0,hX0⟩:∃X0,X0=((((H.add (.obj (.map []))).add (.obj (.map []))).add (.obj (.map []))).add (.cells [.fs (s.objs.map y68),.fs (s.fns.map yb0),.fs (s.cons.map y3z),.sl none 0 0,.sl none 0 0,.sl none 0 0,.mp (some H.next),.mp (some (H.next+1)),.mp (some (H.next+1+1)),.b false] 10)):=⟨_,rfl⟩
 have l0:Hp.Lt X0:=by rw [hX0];exact Hp.add_lt a3 _
 have e0:H.Ext X0:=by rw [hX0];exact (((Hp.Ext.add hlt _).trans (.add a1 _)).trans (.add a2 _)).trans (.add a3 _)
 have n0:X0.next=H.next+4:=by rw [hX0];simp
 have gid:X0.get (H.next+1+1+1)=some (.cells [.fs (s.objs.map y68),.fs (s.fns.map yb0),.fs (s.cons.map y3z),.sl none 0 0,.sl none 0 0,.sl none 0 0,.mp (some H.next),.mp (some (H.next+1)),.mp (some (H.next+1+1)),.b false] 10):=by rw [hX0];simp
 have gmf:X0.get H.next=some (.obj (.map [])):=by rw [hX0];simp [show H.next≠H.next+1 by omega,show H.next≠H.next+1+1 by omega,show H.next≠H.next+1+1+1 by omega]
 have gmo:X0.get (H.next+1)=some (.obj (.map [])):=by rw [hX0];simp [show H.next+1≠H.next+1+1 by omega,show H.next+1≠H.next+1+1+1 by omega]
 have gms:X0.get (H.next+1+1)=some (.obj (.map [])):=by rw [hX0];simp
 rw [←hX0]
 clear hX0 a1 a2 a3
 obtain ⟨id,hid⟩:∃id,id=H.next+1+1+1:=⟨_,rfl⟩
 obtain ⟨mS,hmS⟩:∃mS,mS=H.next+1+1:=⟨_,rfl⟩
 obtain ⟨mo,hmo⟩:∃mo,mo=H.next+1:=⟨_,rfl⟩
 obtain ⟨mf,hmf⟩:∃mf,mf=H.next:=⟨_,rfl⟩
 have qid:id=mf+3:=by omega
 have qmS:mS=mf+2:=by omega
 have qmo:mo=mf+1:=by omega
 rw [←hid,←hmS,←hmo] at gid
 rw [←hmf] at gid gmf
 rw [←hmo] at gmo
 rw [←hmS] at gms
 rw [←hid]
 refine AX.cut (fun F X=>F=[(1,.fp (y3p s) 0),(5,.p (some (id,0,10)))]∧MapI X0 mf (efT s.fns) X) ?_ ?_
 ·apply jA
  simp [yz.r5]
  refine AX.pblock (AX.loop (FnsI s X0 mf id) s.fns.length ⟨_,_,.refl _ _,0,by omega,by omega,⟨l0,kG _,fun _ _ _ h=>h,by simpa [efT] using gmf⟩,by simp [y3p]⟩ ?_)
  rintro mm F X ⟨i,hi,rfl,⟨xl,xn,xk,xm⟩,rfl⟩
  simp only [yz.l0]
  apply jA
  simp [yz.r6]
  refine AX.seq (AX.pcond rfl (fun hb=>AX.skip ?_) (fun hb=>AX.exit ?_))
  rotate_left
  ·simp at hb
   simp
   have:i=s.fns.length:=by omega
   subst this
   rw [List.take_length] at xm
   exact ⟨_,_,.refl _ _,rfl,xl,xn,xk,xm⟩
  simp at hb
  simp
  obtain ⟨f,hfi⟩:∃f,s.fns[i]?=some f:=⟨_,kC hb⟩
  have hfe:s.fns[i]=f:=(List.getElem?_eq_some_iff.1 hfi).2
  have hid':=xk id _ (by omega) gid
  have htk:s.fns.take (i+1)=s.fns.take i++[f]:=by rw [kJ,hfi];rfl
  have hnew:mput (efT (s.fns.take i)) f.name (.agg (yb0 f))=efT (s.fns.take (i+1)):=by
   rw [htk,ym4]
   ·simp [efT]
   ·intro p hp
    simp only [efT,List.mem_map] at hp
    obtain ⟨g,hg,rfl⟩:=hp
    obtain ⟨j,hj⟩:=List.mem_iff_getElem?.1 hg
    intro q
    rw [kj] at hj
    split at hj
    ·have:=ydm U.nm.fn hj hfi q
     omega
    ·cases hj
  have nid:=xl _ _ hid'
  have nmf:=xl _ _ xm
  apply jC
  simp [yz.r7,hb,hfe,yb0]
  refine AX.drw ?_
  simp [yb0] at hnew
  simp [yz.r8,hid',xm,hnew,show id≠X.next by omega,show mf≠X.next by omega,Ne.symm (show mf≠X.next by omega)]
  apply jE
  simp [yz.r9,y2c hb (show s.fns.length≤9223372036854775807 by omega)]
  refine ⟨s.fns.length-(i+1),by omega,_,_,.refl _ _,i+1,by omega,rfl,⟨Hp.upd_lt (Hp.upd_lt (Hp.add_lt xl _) (by simp) _) (by simp;omega) _,by simp;omega,fun j blk hj g=>?_,by simp⟩,by simp⟩
  have:=xl _ _ (xk j blk hj g)
  simp [hj,show j≠X.next by omega]
  exact xk j blk hj g
 rintro F X1 ⟨rfl,y1l,y1n,y1k,y1m⟩
 refine AX.cut (fun F X=>F=[(5,.p (some (id,0,10)))]∧MapI X1 mo (eoT s.objs) X) ?_ ?_
 ·apply jA
  simp [yz.r10,y3p]
  refine AX.pblock (AX.loop (ObsI s X1 mo id) s.objs.length ⟨_,_,.refl _ _,0,by omega,by omega,⟨y1l,kG _,fun _ _ _ h=>h,by simpa [eoT] using y1k mo _ (by omega) gmo⟩,by simp⟩ ?_)
  rintro mm F X ⟨i,hi,rfl,⟨xl,xn,xk,xm⟩,rfl⟩
  simp only [yz.l1]
  apply jA
  simp [yz.r11]
  refine AX.seq (AX.pcond rfl (fun hb=>AX.skip ?_) (fun hb=>AX.exit ?_))
  rotate_left
  ·simp at hb
   simp
   have:i=s.objs.length:=by omega
   subst this
   rw [List.take_length] at xm
   exact ⟨_,_,.refl _ _,rfl,xl,xn,xk,xm⟩
  simp at hb
  simp
  obtain ⟨f,hfi⟩:∃f,s.objs[i]?=some f:=⟨_,kC hb⟩
  have hfe:s.objs[i]=f:=(List.getElem?_eq_some_iff.1 hfi).2
  have hid':=xk id _ (by omega) (y1k id _ (by omega) gid)
  have htk:s.objs.take (i+1)=s.objs.take i++[f]:=by rw [kJ,hfi];rfl
  have hnew:mput (eoT (s.objs.take i)) f.name (.i .i64 (i:Nat))=eoT (s.objs.take (i+1)):=by
   rw [htk,ym4]
   ·simp [eoT,List.zipIdx_append,show min i s.objs.length=i by omega]
   ·intro p hp
    simp only [eoT,List.mem_map] at hp
    obtain ⟨⟨g,j⟩,hg,rfl⟩:=hp
    rw [List.mem_zipIdx_iff_getElem?] at hg
    intro q
    simp only [kj] at hg
    split at hg
    ·have:=ydm U.nm.ob hg hfi q
     omega
    ·cases hg
  have nid:=xl _ _ hid'
  have nmo:=xl _ _ xm
  apply jC
  simp [yz.r12,hb,hfe,y68]
  refine AX.drw ?_
  simp [yz.r13,hid',xm,hnew,show id≠X.next by omega,show mo≠X.next by omega,Ne.symm (show mo≠X.next by omega)]
  apply jE
  simp [yz.r14,y2c hb (show s.objs.length≤9223372036854775807 by omega)]
  refine ⟨s.objs.length-(i+1),by omega,_,_,.refl _ _,i+1,by omega,rfl,⟨Hp.upd_lt (Hp.upd_lt (Hp.add_lt xl _) (by simp) _) (by simp;omega) _,by simp;omega,fun j blk hj g=>?_,by simp⟩,by simp⟩
  have:=xl _ _ (xk j blk hj g)
  simp [hj,show j≠X.next by omega]
  exact xk j blk hj g
 rintro F X2 ⟨rfl,y2l,y2n,y2k,y2m⟩
 have hid2:=y2k id _ (by omega) (y1k id _ (by omega) gid)
 have nid2:=y2l _ _ hid2
 obtain ⟨L0,hL0⟩:∃L0:RkL,L0=⟨fun k=>if k=id then 1 else if k=mf then 5 else if k=mo then 6 else if k=mS then 7 else 0,[],[],.sl none 0 0,.sl none 0 0,.sl none 0 0,0,0,0,mf,mo,mS,[]⟩:=⟨_,rfl⟩
 have hrel0:∀n p,¬y75 L0 n p:=fun n p ⟨e,h,_⟩=>by rw [hL0] at h;cases h
 have R0:RkOk s id L0 true (X2.upd id (.cells (ycj s L0 true) 10)):=by
  have nn:∀j blk,j≠id→X2.get j=some blk→(X2.upd id (.cells (ycj s L0 true) 10)).get j=some blk:=fun j blk h g=>by simp [h,g]
  subst hL0
  exact ⟨Hp.upd_lt y2l nid2 _,⟨10,by simp,by omega⟩,⟨.inl ⟨rfl,0,rfl⟩,.inl ⟨rfl,0,rfl⟩,rfl,by simp,by simp,by simp [y8d,y4i],by simp⟩,.inl ⟨rfl,0,rfl⟩,
   nn mf _ (by omega) (y2k mf _ (by omega) y1m),nn mo _ (by omega) y2m,nn mS _ (by omega) (y2k mS _ (by omega) (y1k mS _ (by omega) gms)),fun i e h=>(by cases h),by simp,by simp [show mf≠id by omega],by simp [show mo≠id by omega,show mo≠mf by omega],
   by simp [show mS≠id by omega,show mS≠mf by omega,show mS≠mo by omega],fun h=>absurd rfl h,fun i e h=>(by cases h),fun k hk=>by
    simp only [Hp.next_upd]
    have:=y2l _ _ y2m
    simp only at hk
    split at hk
    ·omega
    ·split at hk
     ·omega
     ·split at hk
      ·omega
      ·split at hk
       ·omega
       ·exact absurd rfl hk,by simp⟩
 have E2:H.Ext (X2.upd id (.cells (ycj s L0 true) 10)):=⟨by simp;omega,fun j blk g=>by
  have:=hlt _ _ g
  simp [show j≠id by omega]
  exact y2k j _ (by omega) (y1k j _ (by omega) (e0.2 _ _ g))⟩
 have T0:∀k,L0.tag k≠0→H.next≤k:=fun k hk=>by
  rw [hL0] at hk
  simp only at hk
  split at hk
  ·omega
  ·split at hk
   ·omega
   ·split at hk
    ·omega
    ·split at hk
     ·omega
     ·exact absurd rfl hk
 refine AX.cut (fun F X=>F=[(5,.p (some (id,0,10)))]∧MainE s H id X) ?_ ?_
 ·apply jA
  simp [yz.r15,hid2,y91]
  have eL:ycj s L0 true=[.fs (s.objs.map y68),.fs (s.fns.map yb0),.fs (s.cons.map y3z),.sl none 0 0,.sl none 0 0,.sl none 0 0,.mp (some mf),.mp (some mo),.mp (some mS),.b true]:=by rw [hL0];rfl
  rw [←eL]
  refine AX.pblock (AX.loop (MainI s H id) _ ⟨_,_,.refl _ _,L0,true,R0,E2,T0,fun y hy=>(by rw [hL0] at hy;cases hy),fun n p h=>absurd h (hrel0 n p),fun Y _ n p h=>absurd h (hrel0 n p),fun h=>(by cases h),rfl,rfl⟩ ?_)
  rintro mm F X ⟨L,m,R,E,T,hP,hU,hS,hC,rfl,rfl⟩
  obtain ⟨mb,hg,hm⟩:=R.blk
  simp only [yz.l2]
  apply jB
  simp [yz.r16,hg,hm,ycj]
  refine AX.pcond (t:=m) rfl (fun hb=>AX.skip ?_) (fun hb=>AX.exit ?_)
  rotate_left
  ·simp
   exact ⟨_,_,.refl _ _,rfl,L,m,R,E,hU,fun n p=>⟨fun h Y hY=>hS Y hY n p h,fun h=>h _ (hC hb)⟩⟩
  subst hb
  simp
  refine AX.pblock (jA ?_)
  obtain ⟨R1,T1⟩:=R.more false
  simp [yz.r17,hg,hm,ycj,y91]
  apply jE
  simp [yz.r18]
  refine (ypb R1 U.nm U.cn U.pl hP).mono ?_
  rintro v X3 ⟨L3,m3,A⟩
  simp
  have hU3:y8f (y75 L3) (ye1 (ybq s) (y4t s)):=A.tr.snd _ U.cl hU
  have c1:=yml (ybq s) (y4t s) (y75 L3)
  have T3:∀k,k<H.next→L3.tag k=0:=fun k hk=>by
   rw [A.to.tag k (by have:=E.1;simp;omega)]
   exact kg fun h=>by have:=T k h;omega
  refine ⟨2*((ybq s).length*(y4t s).length-crd (ybq s) (y4t s) (y75 L3))+(if m3 then 1 else 0),?_,_,_,.refl _ _,L3,m3,A.ok,⟨kV E.1 (show X.next≤X3.next from A.to.nx),fun j blk g=>?_⟩,fun k hk=>?_,A.tsp hP,hU3,fun Y hY=>A.tr.snd Y hY (hS Y hY),fun e=>?_,rfl,rfl⟩
  ·cases m3 with
   | false=>
    have:=crd_mono (N:=ybq s) (P:=y4t s) A.tr.mono
    simp;omega
   | true=>
    have:=Tr.lt (m:=true) U.cl A.tr hU
    simp;omega
  ·have hj:=hlt _ _ g
   have ht:L.tag j=0:=kg fun h=>by have:=T j h;omega
   exact A.to.keep j blk ht (T1.keep j blk ht (E.2 _ _ g))
  ·exact kg fun h=>hk (T3 k (by omega))
  ·rw [yp8 A.tr e];exact A.fin e
 ·rintro F X ⟨rfl,L,m,R,E,hU,hD⟩
  apply jA
  simp [yz.r19]
  refine (ypd R U.len fun n p h=>(hU n p h).1).mono ?_
  rintro v X4 ⟨l',hc,hh,E4,hf⟩
  have el:l'=l:=IsL.one ⟨hc,fun n p=>(hh n p).trans (hD n p)⟩ (hl he)
  subst el
  simp
  apply jD
  simp [he]
  exact ⟨E.trans E4,yme (hf.mono fun k hk=>kV E.1 hk)⟩
open Go.Proofs
set_option maxRecDepth 100000
namespace C
def y2v.r0:jI:=[ak 0]
def y2v.r1:jI:=[⟨some 4,none,.op (.build [.s [],.s [],.fs []] [(0,1,.c (.s [120])),(1,1,.c (.s [112]))])⟩,⟨some 5,none,.op (.build [.s [],.s [],.fs []] [(0,1,.c (.s [121])),(1,1,.c (.s [105]))])⟩,⟨some 6,none,.op (.bfz 2 3 [.s [],.s [],.sl none 0 0] [(0,3,.t 4),(3,3,.t 5)])⟩,a3c 7 0 0 0 1 1 1 1 102 46 112 2 1 120 43 48,a3c 8 0 0 0 1 1 1 1 102 46 114 2 1 121 43 48,a3c 9 0 0 0 1 3 1 1 102 46 113 2 1 102 46 112,a3c 10 0 0 0 1 4 1 1 102 46 112 2 1 102 46 114,⟨some 11,none,.op (.bfz 4 6 [.i .i64 0,.s [],.s [],.i .i64 0,.s [],.sl none 0 0] [(0,6,.t 7),(6,6,.t 8),(12,6,.t 9),(18,6,.t 10)])⟩,⟨some 12,none,.op (.build [.fs [],.fs [],.fs []] [(0,1,.t 6),(2,1,.t 11)])⟩,⟨some 1,none,.op (.new [.sl none 0 0,.sl none 0 0,.sl none 0 0])⟩,ap 3 1 12]
def y2v.r2:jI:=[aw 14 3 1,⟨some 15,none,.call y9n [.t 14]⟩,ac 13 15,ai 16 0 13,ai 17 1 13,ac 2 16,ac 3 17]
def y2v.r3:jI:=[ac 18 3,a13 19 18 0,ac 20 19,aj 21 20 2,⟨some 22,(some (20,true)),.call ye8 [.t 21,.c (.s [102,46,113])]⟩,⟨some 23,(some (20,true)),.op (.bfz 1 1 [.s []] [(0,1,.c (.s [121,43,48]))])⟩,⟨some 24,(some (20,true)),.call y7u [.t 22,.t 23]⟩,an 25 20 24,ac 26 25,aj 27 26 2,a3b 28 26 27,a1x 29 26 28 4,an 30 26 29,ac 0 30]
def y2v:AFunc:=⟨31,[.t 0],jJ [] y2v.r0 (jJ [1] y2v.r1 (jJ [2,3] y2v.r2 (jJ [0] y2v.r3 (.ret))))⟩
theorem y2v.ok:y2b Tryz.prog Tryz.f12 y2v=true:=by kernel_rfl
theorem y2v.at:km y8r Tryz.f12:=Tryz.func12
end C
set_option maxRecDepth 100000
def yik:Sy:=⟨[⟨[120],[112],[]⟩,⟨[121],[105],[]⟩],[],[⟨1,[102,46,112],[120,43,48],0,[],[]⟩,⟨1,[102,46,114],[121,43,48],0,[],[]⟩,⟨3,[102,46,113],[102,46,112],0,[],[]⟩,⟨4,[102,46,112],[102,46,114],0,[],[]⟩]⟩
def wk17a:List y73:=[([102,46,112],[[120,43,48]]),([102,46,114],[[121,43,48]]),([120,43,48],[[121,43,48]])]
def wl17:List y73:=[([102,46,112],[[120,43,48]]),([102,46,113],[[121,43,48]]),([102,46,114],[[121,43,48]]),([120,43,48],[[121,43,48]])]
theorem wk17_e:ye2 yik=0:=by kernel_rfl
theorem wk17_1:y8g yik []=(wk17a,true):=by kernel_rfl
theorem wk17_2:y8g yik wk17a=(wl17,true):=by kernel_rfl
theorem wk17_3:y8g yik wl17=(wl17,false):=by kernel_rfl
theorem wk17_s:syS yik:=by
 refine ⟨by simp [yik],by simp [yik],by simp [yik],fun o ho=>?_,fun f hf=>?_,fun c hc=>?_⟩
 ·simp [yik] at ho;rcases ho with rfl | rfl <;> simp [obS]
 ·simp [yik] at hf
 ·simp [yik] at hc;rcases hc with rfl | rfl | rfl | rfl <;> simp [cnS]
theorem wk17_l:IsL yik wl17:=by
 obtain ⟨c1,t1⟩:=ydh (s:=yik) CanF.nil
 rw [wk17_1] at c1 t1
 obtain ⟨c2,t2⟩:=ydh (s:=yik) c1
 rw [wk17_2] at c2 t2
 have h0:∀Y,Cl yik Y→y8f (y7h []) Y:=fun Y _ n p h=>by simp [y7h,ofS] at h
 have:=yfi (s:=yik) c2 (fun Y hY=>t2.snd Y hY (t1.snd Y hY (h0 Y hY))) (by rw [wk17_3])
 rw [wk17_3] at this
 exact this
theorem ygs (H:Hp):AC Tryz.prog y8r [] H (fun v H'=>v=.b true∧H'=H):=by
 refine AC.codeP y2v.at y2v.ok (by simp) fun hlt=>?_
 simp only [y2v]
 apply jA
 simp [y2v.r0]
 apply jA
 simp [y2v.r1,y91]
 apply jA
 simp [y2v.r2]
 have e1:=(Hp.Ext.add hlt (.cells [.sl none 0 0,.sl none 0 0,.sl none 0 0] 3)).upd hlt (kG _) (.cells (y3p yik) 3)
 have hF:=yjz wk17_s (l:=wl17) (fun _=>wk17_l) ((H.add (.cells [.sl none 0 0,.sl none 0 0,.sl none 0 0] 3)).upd H.next (.cells (y3p yik) 3))
 rw [if_pos wk17_e] at hF
 refine AC.fix hF ?_
 simp
 have hO:=fun X=>LOf_ok wl17 [102,46,113] (by simp [wl17]) (fun f hf=>by simp [wl17] at hf;rcases hf with rfl | rfl | rfl | rfl <;> simp) X
 rw [show ofS wl17 [102,46,113]=[[121,43,48]] by kernel_rfl] at hO
 apply jA
 simp [y2v.r3,y91]
 refine AC.fix (hO _) ?_
 simp [y91]
 refine AC.fix (yrq [[121,43,48]] [[121,43,48]] (by simp [N63]) _) ?_
 simp
 simp [fsV,show wl17.length=4 from rfl]
 apply jD
 simp
 exact ⟨e1,.refl _⟩
def RsmI (a b:List y73) (H:Hp) (m:Nat) (F:Fr) (X:Hp):Prop:=
 ∃i,i≤a.length∧m=a.length-i∧a.take i=b.take i∧X=H∧F=[(0,fsV a),(1,fsV b),(5,.i .i64 i)]
theorem yhb (a b:List y73) (ha:a.length≤9223372036854775807) (hx:∀f∈a,f.2.length≤N63) (H:Hp):AC Tryz.prog y9b [fsV a,fsV b] H (fun v H'=>v=.b (decide (a=b))∧H'=H):=by
 refine AC.code y1p.at y1p.ok ?_
 simp only [y1p]
 apply jA
 simp [y1p.r0]
 apply jB
 simp [y1p.r1,fsV]
 refine AX.pcond rfl (fun hd=>?_) (fun hd=>AX.skip ?_)
 ·simp at hd
  apply jA
  simp [y1p.r2]
  apply jD
  have:a≠b:=fun e=>hd (by rw [e])
  simp [this]
 simp at hd
 simp
 apply jB
 simp [y1p.r3]
 refine AX.pblock (AX.loop (RsmI a b H) a.length ⟨_,_,.refl _ _,0,by omega,by omega,by simp,rfl,by simp [fsV]⟩ ?_)
 rintro m F X ⟨i,hi,rfl,hx',rfl,rfl⟩
 simp only [y1p.l0]
 by_cases hb:i<a.length
 rotate_left
 ·refine AX.seq (AX.test false [(0,fsV a),(1,fsV b),(5,.i .i64 i),(20,.b false)] ?_ rfl (fun h=>by cases h) (fun _=>AX.exit ?_))
  ·simp [y1p.r4,fsV,show ¬i<a.length from hb]
  simp
  apply jA
  simp [y1p.r8]
  apply jD
  have:a=b:=by rw [kI (by omega),kI (by omega)] at hx';exact hx'
  simp [this]
 have hb2:i<b.length:=by omega
 refine AX.seq (AX.test true [(0,fsV a),(1,fsV b),(5,.i .i64 i),(20,.b true)] ?_ rfl (fun _=>AX.skip ?_) (fun h=>by cases h))
 ·simp [y1p.r4,fsV,hb,hb2]
 simp
 have hxi:=hx _ (kL hb)
 refine AX.seq (AX.pblock (AX.testD (decide (a[i]≠b[i])) [(0,fsV a),(1,fsV b),(5,.i .i64 i),(47,.b (decide (a[i]≠b[i])))] ?_ rfl (fun hc=>jA ?_) (fun hc=>AX.skip ?_)))
 ·by_cases e:a[i].1=b[i].1
  ·have e2:(a[i].1 == b[i].1)=true:=by simpa using e
   simp [y1p.r5,fsV,hb,hb2,fcs,e,e2]
   refine y33 _ (fun H2=>yrq a[i].2 b[i].2 hxi H2) ?_
   have:decide (a[i]=b[i])=decide (a[i].2=b[i].2):=decide_eq_decide.2 ⟨fun h=>by rw [h],fun h=>Prod.ext e h⟩
   simp [this]
  ·have e2:(a[i].1 == b[i].1)=false:=by simpa using e
   have:a[i]≠b[i]:=fun h=>e (by rw [h])
   simp [y1p.r5,fsV,hb,hb2,fcs,e,e2,this]
 ·simp [y1p.r6]
  apply jD
  simp at hc
  have:a≠b:=fun h=>hc (by subst h;rfl)
  simp [this]
 ·simp at hc
  simp
  apply jE
  simp [y1p.r7,y2c hb ha]
  exact ⟨a.length-(i+1),by omega,_,_,.refl _ _,i+1,by omega,rfl,by rw [kJ,kJ,hx',kC hb,kC hb2,hc],rfl,by simp [fsV]⟩
theorem ex_L {s:Sy} (hs:syS s):∃l,ye2 s=0→IsL s l:=by
 by_cases he:ye2 s=0
 ·obtain ⟨l,hl⟩:=ex_isL (lsR he hs).cl
  exact ⟨l,fun _=>hl⟩
 ·exact ⟨[],fun h=>absurd h he⟩
theorem IsL.okF {s:Sy} {l:List y73} (h:IsL s l) {N P:List Str} (hc:Cl s (ye1 N P)):OkF N P l:=⟨h.can,fun n p x=>Der.le hc n p ((h.has n p).1 x)⟩
theorem yij (s:Sy) (hs:syZ s) (H:Hp):AC Tryz.prog y8h [.agg (y3p s)] H (fun v H'=>v=.b true∧H'=H):=by
 refine AC.code y1r.at y1r.ok ?_
 simp only [y1r]
 apply jA
 simp [y1r.r0,y3p]
 apply jB
 simp [y1r.r1]
 have hG:=ynw 60 (by omega) s hs H
 simp only [y3p] at hG
 refine hG.mono ?_
 rintro v X ⟨⟨b,rfl,hb⟩,rfl⟩
 simp
 refine AX.pcond rfl (fun h=>jA ?_) (fun h=>AX.skip ?_)
 ·simp [y1r.r2]
  apply jD
  simp
 have hS:=hb h
 obtain ⟨l,hl⟩:=ex_L hS
 simp
 apply jA
 simp [y1r.r3]
 have hF:=yjz hS hl X
 have hR:=yrx hS hl X
 simp only [y3p] at hF hR
 by_cases he:ye2 s=0
 ·rw [if_pos he] at hF hR
  have hok:=(hl he).okF (lsR he hS).cl
  obtain ⟨b1,b2,b3⟩:=hok.len (lsR he hS).bd
  refine AC.fix hF ?_
  simp
  apply jA
  simp [y1r.r4]
  refine AC.fix hR ?_
  simp
  apply jA
  simp [y1r.r5]
  refine AC.fix (yhb l l (by omega) (fun f hf=>by have:=b2 f hf;unfold N63;omega) X) ?_
  simp
  refine AC.fix (ygs X) ?_
  simp
  apply jD
  simp
 ·rw [if_neg he] at hF hR
  refine AC.fix hF ?_
  simp
  apply jA
  simp [y1r.r4]
  refine AC.fix hR ?_
  simp
  apply jA
  simp [y1r.r5]
  refine AC.fix (by simpa [fsV] using yhb [] [] (by simp) (by simp) X) ?_
  simp
  refine AC.fix (ygs X) ?_
  simp
  apply jD
  simp
theorem ygq (us:List V) (h:ArgsZ [TSy] us):AC Tryz.prog 3 us Hp.none (fun r _=>r=.b true):=by
 obtain ⟨u,us',rfl,⟨vs,rfl,hu⟩,rfl⟩:=h
 obtain ⟨s,rfl,hs⟩:=isZ_sy hu
 exact (yij s hs _).mono fun v H' h=>h.1
end Go.Proofs.YtikpijbeobeckaaGreatDoor
namespace Go.Proofs.YtikpijbeobeckaaGreatDoor.leastFacts
open Go
open Go.RowKit Go.ChangeShapes Go.WideShapes Go.ChangeAt Go.Proofs.YtikpijbeobeckaaGreatDoor.Am
def yo5:Array Value:=#[.agg #[.slice none 0 0,.slice none 0 0,.slice none 0 0]]
theorem yk6 (os:Os) {H:Type} (enc:TypeId × Value→H):
  (OpenSpec.ofChange Rows.leastFactsSpec).preRow enc Tryz.prog Tryz.f3 Rows.leastFactsRow.domain false Rows.leastFactsRow.laid ((rw.laidWorld os).forCall (fun _ _=>0) ⟨#[],yo5,[]⟩).memory yo5:=by
 have hw:(DataW.whole enc Tryz.prog ((rw.laidWorld os).forCall (fun _ _=>0) ⟨#[],yo5,[]⟩).memory Tryz.f3.params.toList (OpenSpec.ofChange Rows.leastFactsSpec).vars false yo5.toList 8).map (fun x=>(x.1,x.2.1)) =
   some ([.agg [.nil,.nil,.nil]],[]):=by kernel_rfl
 obtain ⟨⟨x1,x2,x3⟩,hx,hx1⟩:=Option.map_eq_some_iff.1 hw
 simp only [Prod.mk.injEq] at hx1
 obtain ⟨rfl,rfl⟩:=hx1
 exact OpenSpec.preRow_of_cond 8 hx (by kernel_rfl) (fun k hk=>by cases hk) (by kernel_rfl) (rw.laid_met os _)
set_option maxRecDepth 100000 in
theorem lifted (os:Os) (started:os.Started) (H:Type) (enc:TypeId × Value→H) (F:Stop.Interp):
  ReturnsInHanded {} Tryz.checked os 3 .any ((OpenSpec.ofChange Rows.leastFactsSpec).preRow enc Tryz.prog Tryz.f3 Rows.leastFactsRow.domain false Rows.leastFactsRow.laid) (((OpenSpec.ofChange Rows.leastFactsSpec).at F).post enc Tryz.prog Tryz.f3 false true false false):=by
 refine returnsInHanded_of_row (C:=Tryz.checked) (s:=OpenSpec.ofChange Rows.leastFactsSpec) rw.own started (by kernel_rfl) Tryz.func3
  (witness_row_atRef (enc:=enc) (C:=Tryz.checked) false (rw.laidWorld os) yo5 rfl (by kernel_rfl) (by kernel_rfl) (by kernel_rfl) (yk6 os enc)) ?_
 intro W base args ds gs y47 hval0 hW hcnd _ hsz hL _ _
 have hval:∀(j:Nat) t v,Tryz.f3.params[j]?=some t→args[j]?=some v→Value.okWide Tryz.prog W .any base t v:=hval0
 have hW':=hW
 obtain ⟨p,q,hA0,hV,rfl,hfz,hnd⟩:=hW
 have hA:DataW.TrodAll enc Tryz.prog W 0 (fun _=>true) true Tryz.f3.params.toList args.toList ds p:=hA0
 rw [Tryz.params3] at hA hval
 obtain ⟨rfl,rfl⟩:=trodVars_none hV
 have hsz1:(DataW.weightsEach Tryz.prog Tryz.f3.params.toList ds).all (·≤reachBytes)=true:=by
  have h:(DataW.weightsEach Tryz.prog (Tryz.f3.params.toList++[]) (ds++[])).all (·≤reachBytes)=true:=hsz
  rwa [List.append_nil,List.append_nil] at h
 rw [Tryz.params3] at hsz1
 obtain ⟨us,ru,au⟩:=yms 12 (ts:=[26]) (Ts:=[TSy]) (by kernel_rfl) (fun j t v h1 h2=>hval j t v (by simpa using h1) (by simpa using h2)) hA
  (fun m hm=>by
   have:=List.all_eq_true.1 hsz1 m hm
   have h2:m≤reachBytes:=by simpa using this
   exact h2)
 have hlt:=yl3 hA
 have key:=ymz (ygq us au) ru (rw.tb_of hL)
 rw [Array.toArray_toList] at key
 refine key.mono fun e W' ⟨he,bel⟩=>?_
 subst he
 have hB:=yjt rw.laidOut bel (ts:=[26]) (by kernel_rfl) hA
 obtain ⟨v0,vs0,d0,ds0,p0,q0,hargs,rfl,rfl,h0,r0⟩:=trodAll_cons hA
 obtain ⟨rfl,rfl,rfl⟩:=trodAll_nil r0
 exact ⟨_,rfl,_,_,_,[],_,[],hW',trodAll_mk1 (shut_bool Tryz.underlying4 _),hB,rfl,bel.frame _,fun h=>by cases h⟩
theorem said:Rows.LeastFactsSaid:=
 OpenClaim.holds_of_cond 3 Tryz.f3 rfl rfl rfl rfl rfl rfl rfl ⟨rfl,rfl,rfl,rfl,rfl⟩ rfl rfl rfl rfl rfl (by kernel_rfl) Tryz.func3 joined
  (of_decide_eq_true (by kernel_rfl)) (by unfold Func.isWrapper;first | (rw [if_pos (by decide +kernel)];kernel_rfl) | (rw [if_neg (by decide +kernel)];exact ⟨rfl,rfl⟩))
  (fun os started H enc _ F=>by rw [OpenClaim.pre_eq_preRow];exact lifted os started H enc F)
theorem plain (f:FuncId) (fn:Func) (hf:Tryz.pinned.checked.prog.funcNamed "weft/weftlaw17.LeastFacts"=some f) (hfn:Tryz.pinned.checked.prog.funcs[f]?=some fn):
  true=Tryz.pinned.checked.prog.looks []∧∀(j:Nat) t,fn.params[j]?=some t→Tryz.pinned.checked.prog.wantsStandIn t=false:=by
 obtain rfl:f=3:=Option.some.inj ((show Tryz.prog.funcNamed "weft/weftlaw17.LeastFacts"=some 3 by kernel_rfl).symm.trans hf) |>.symm
 obtain rfl:fn=Tryz.f3:=(Option.some.inj (Tryz.func3.symm.trans hfn)).symm
 refine ⟨by kernel_rfl,fun j t ht=>?_⟩
 rw [Tryz.params3] at ht
 obtain rfl:t=26:=by simpa using Array.mem_of_getElem? ht
 exact (show Tryz.prog.wantsStandIn 26=false by kernel_rfl)
theorem card:Rows.LeastFactsCardSaid:=
 Claim7.holds_tied_plain_at .later [] _ _ _ _ said (fun _ h=>by cases h) (by kernel_rfl) (fun _ h=>by cases h) leastFacts_row_tie rfl ⟨rfl,rfl⟩ (by kernel_rfl) rfl plain (by kernel_rfl)
end Go.Proofs.YtikpijbeobeckaaGreatDoor.leastFacts
namespace Go.Proofs.YtikpijbeobeckaaGreatDoor
theorem leastFacts_holds:Rows.LeastFactsCardSaid:=leastFacts.card
end Go.Proofs.YtikpijbeobeckaaGreatDoor
