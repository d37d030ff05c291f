/- Part 42 of the proof of the laws of the queries: RkL5, CodeC, LWk, LwS. -/
import Derived.Test.YtikpijbeobeckaaGreatDoorXLw17
import Derived.Test.YtikpijbeobeckaaGreatDoorXLw29
import Derived.Test.YtikpijbeobeckaaGreatDoorXLw37
import Derived.Test.YtikpijbeobeckaaGreatDoorXLw41
set_option linter.unusedSimpArgs false
set_option linter.unusedVariables false
namespace Go.Proofs.YtikpijbeobeckaaGreatDoor
open Am C
def efT (l:List Fu):List (Str × V):=l.map fun f=>(f.name,.agg (ybc f))
def eoT (l:List Ob):List (Str × V):=l.zipIdx.map fun p=>(p.1.name,.i .i64 (p.2:Nat))
theorem yif {es:List (Str × V)} {k:Str} (h:∀p∈es,p.1≠k) (v:V):mput es k v=es++[(k,v)]:=by
  rcases y8j es k with ⟨i,u,h1,_⟩ | ⟨_,_,h3⟩
  · exact absurd rfl (h _ (List.mem_of_getElem? h1))
  · exact h3 v
def MapI (X0:Hp) (mf:Nat) (es:List (Str × V)) (X:Hp):Prop:=Hp.Lt X∧X0.next≤X.next∧(∀j blk,j≠mf→X0.get j=some blk→X.get j=some blk)∧X.get mf=some (.obj (.map es))
def FnsI (s:Sy) (X0:Hp) (mf id:Nat) (mm:Nat) (F:Fr) (X:Hp):Prop:=
  ∃i,i≤s.fns.length∧mm=s.fns.length-i∧MapI X0 mf (efT (s.fns.take i)) X∧F=[(1,.fp (ygr s) 0),(5,.p (some (id,0,10))),(22,.fs (s.fns.map ybc)),(23,.i .i64 s.fns.length),(24,.i .i64 i)]
def ObsI (s:Sy) (X0:Hp) (mo id:Nat) (mm:Nat) (F:Fr) (X:Hp):Prop:=
  ∃i,i≤s.objs.length∧mm=s.objs.length-i∧MapI X0 mo (eoT (s.objs.take i)) X∧F=[(5,.p (some (id,0,10))),(37,.fs (s.objs.map y8g)),(38,.i .i64 s.objs.length),(39,.i .i64 i)]
def MainI (s:Sy) (H:Hp) (id:Nat) (mm:Nat) (F:Fr) (X:Hp):Prop:=
  ∃L m,RkOk s id L m X∧H.Ext X∧(∀k,L.tag k≠0→H.next≤k)∧(∀y∈L.ts,y∈y40 s)∧y7d (y5o L) (InNP (y9y s) (y40 s))∧(∀Y,Cl s Y→y7d (y5o L) Y)∧(m=false→Cl s (y5o L))∧
    mm=2*((y9y s).length*(y40 s).length-crd (y9y s) (y40 s) (y5o L))+(if m then 1 else 0)∧F=[(5,.p (some (id,0,10)))]
def MainE (s:Sy) (H:Hp) (id:Nat) (X:Hp):Prop:=∃(L:RkL) (m:Bool),RkOk s id L m X∧H.Ext X∧y7d (y5o L) (InNP (y9y s) (y40 s))∧∀n p,y5o L n p↔Der s n p
theorem frz_t2 {H:Hp} {S:Nat→Prop} {a b c:V} (h:Frz H S a b):Frz H S (.tup [a,c]) (.tup [b,c]):=.tup _ _ rfl fun j u v h1 h2=>by
  match j,h1,h2 with
  | 0,h1,h2=>simp at h1 h2;subst h1;subst h2;exact h
  | 1,h1,h2=>simp at h1 h2;subst h1;subst h2;exact .refl _
  | j+2,h1,h2=>simp at h1
@[simp] theorem free_fsV (l:List y58):yar (fsV l):=yak fun e he v hv=>by
  obtain ⟨f,_,rfl⟩:=List.mem_map.1 he
  simp [fcs] at hv
  rcases hv with rfl | rfl <;> simp
set_option maxHeartbeats 2000000 in
theorem yo5 {s:Sy} (hs:syS s) {l:List y58} (hl:ygq s=0→IsL s l) (H:Hp):AC Tryz.prog y8u [.agg (ygr s)] H (fun v H'=>v=(if ygq s=0 then .tup [fsV l,.i .i64 0] else .tup [.fs [],.i .i64 (ygq s)])∧H'=H):=by
  refine AC.codeP yr.at yr.ok (by split <;> simp) fun hlt=>?_
  simp only [yr]
  apply jA
  simp [yr.r0,ygr]
  apply jB
  simp [yr.r1]
  refine AC.fix (yo1 s hs H) ?_
  simp
  apply jA
  simp [yr.r2]
  by_cases he:ygq s=0
  rotate_left
  · refine jG (by simp [he]) (jA ?_)
    simp [yr.r3]
    apply jD
    simp [he]
    exact ⟨.refl _,frz_t2 (.sl0 _)⟩
  refine jF (by simp [he]) (AX.skip ?_)
  simp
  have U:=sysR he hs
  obtain ⟨s1,s2,s3,_⟩:=yhy he
  apply jA
  simp [yr.r4,y7s]
  have a1:=Hp.add_lt hlt (.obj (.map []))
  have a2:=Hp.add_lt a1 (.obj (.map []))
  have a3:=Hp.add_lt a2 (.obj (.map []))
  obtain ⟨X0,hX0⟩:∃X0,X0=((((H.add (.obj (.map []))).add (.obj (.map []))).add (.obj (.map []))).add (.cells [.fs (s.objs.map y8g),.fs (s.fns.map ybc),.fs (s.cons.map y51),.sl none 0 0,.sl none 0 0,.sl none 0 0,.mp (some H.next),.mp (some (H.next+1)),.mp (some (H.next+1+1)),.b false] 10)):=⟨_,rfl⟩
  have l0:Hp.Lt X0:=by rw [hX0];exact Hp.add_lt a3 _
  have e0:H.Ext X0:=by rw [hX0];exact (((Hp.Ext.add hlt _).trans (.add a1 _)).trans (.add a2 _)).trans (.add a3 _)
  have n0:X0.next=H.next+4:=by rw [hX0];simp
  have gid:X0.get (H.next+1+1+1)=some (.cells [.fs (s.objs.map y8g),.fs (s.fns.map ybc),.fs (s.cons.map y51),.sl none 0 0,.sl none 0 0,.sl none 0 0,.mp (some H.next),.mp (some (H.next+1)),.mp (some (H.next+1+1)),.b false] 10):=by rw [hX0];simp
  have gmf:X0.get H.next=some (.obj (.map [])):=by rw [hX0];simp [show H.next≠H.next+1 by omega,show H.next≠H.next+1+1 by omega,show H.next≠H.next+1+1+1 by omega]
  have gmo:X0.get (H.next+1)=some (.obj (.map [])):=by rw [hX0];simp [show H.next+1≠H.next+1+1 by omega,show H.next+1≠H.next+1+1+1 by omega]
  have gms:X0.get (H.next+1+1)=some (.obj (.map [])):=by rw [hX0];simp
  rw [←hX0]
  clear hX0 a1 a2 a3
  obtain ⟨id,hid⟩:∃id,id=H.next+1+1+1:=⟨_,rfl⟩
  obtain ⟨mS,hmS⟩:∃mS,mS=H.next+1+1:=⟨_,rfl⟩
  obtain ⟨mo,hmo⟩:∃mo,mo=H.next+1:=⟨_,rfl⟩
  obtain ⟨mf,hmf⟩:∃mf,mf=H.next:=⟨_,rfl⟩
  have qid:id=mf+3:=by omega
  have qmS:mS=mf+2:=by omega
  have qmo:mo=mf+1:=by omega
  rw [←hid,←hmS,←hmo] at gid
  rw [←hmf] at gid gmf
  rw [←hmo] at gmo
  rw [←hmS] at gms
  rw [←hid]
  refine AX.cut (fun F X=>F=[(1,.fp (ygr s) 0),(5,.p (some (id,0,10)))]∧MapI X0 mf (efT s.fns) X) ?_ ?_
  · apply jA
    simp [yr.r5]
    refine AX.pblock (AX.loop (FnsI s X0 mf id) s.fns.length ⟨_,_,.refl _ _,0,by omega,by omega,⟨l0,Nat.le_refl _,fun _ _ _ h=>h,by simpa [efT] using gmf⟩,by simp [ygr]⟩ ?_)
    rintro mm F X ⟨i,hi,rfl,⟨xl,xn,xk,xm⟩,rfl⟩
    simp only [yr.l0]
    apply jA
    simp [yr.r6]
    refine AX.seq (AX.pcond rfl (fun hb=>AX.skip ?_) (fun hb=>AX.exit ?_))
    rotate_left
    · simp at hb
      simp
      have:i=s.fns.length:=by omega
      subst this
      rw [List.take_length] at xm
      exact ⟨_,_,.refl _ _,rfl,xl,xn,xk,xm⟩
    simp at hb
    simp
    obtain ⟨f,hfi⟩:∃f,s.fns[i]?=some f:=⟨_,List.getElem?_eq_getElem hb⟩
    have hfe:s.fns[i]=f:=(List.getElem?_eq_some_iff.1 hfi).2
    have hid':=xk id _ (by omega) gid
    have htk:s.fns.take (i+1)=s.fns.take i++[f]:=by rw [List.take_add_one,hfi];rfl
    have hnew:mput (efT (s.fns.take i)) f.name (.agg (ybc f))=efT (s.fns.take (i+1)):=by
      rw [htk,yif]
      · simp [efT]
      · intro p hp
        simp only [efT,List.mem_map] at hp
        obtain ⟨g,hg,rfl⟩:=hp
        obtain ⟨j,hj⟩:=List.mem_iff_getElem?.1 hg
        intro q
        rw [List.getElem?_take] at hj
        split at hj
        · have:=yc7 U.nm.fn hj hfi q
          omega
        · cases hj
    have nid:=xl _ _ hid'
    have nmf:=xl _ _ xm
    apply jC
    simp [yr.r7,hb,hfe,ybc]
    refine AX.drw ?_
    simp [ybc] at hnew
    simp [yr.r8,hid',xm,hnew,show id≠X.next by omega,show mf≠X.next by omega,Ne.symm (show mf≠X.next by omega)]
    apply jE
    simp [yr.r9,y28 hb (show s.fns.length≤9223372036854775807 by omega)]
    refine ⟨s.fns.length-(i+1),by omega,_,_,.refl _ _,i+1,by omega,rfl,⟨Hp.upd_lt (Hp.upd_lt (Hp.add_lt xl _) (by simp) _) (by simp;omega) _,by simp;omega,fun j blk hj g=>?_,by simp⟩,by simp⟩
    have:=xl _ _ (xk j blk hj g)
    simp [hj,show j≠X.next by omega]
    exact xk j blk hj g
  rintro F X1 ⟨rfl,y1l,y1n,y1k,y1m⟩
  refine AX.cut (fun F X=>F=[(5,.p (some (id,0,10)))]∧MapI X1 mo (eoT s.objs) X) ?_ ?_
  · apply jA
    simp [yr.r10,ygr]
    refine AX.pblock (AX.loop (ObsI s X1 mo id) s.objs.length ⟨_,_,.refl _ _,0,by omega,by omega,⟨y1l,Nat.le_refl _,fun _ _ _ h=>h,by simpa [eoT] using y1k mo _ (by omega) gmo⟩,by simp⟩ ?_)
    rintro mm F X ⟨i,hi,rfl,⟨xl,xn,xk,xm⟩,rfl⟩
    simp only [yr.l1]
    apply jA
    simp [yr.r11]
    refine AX.seq (AX.pcond rfl (fun hb=>AX.skip ?_) (fun hb=>AX.exit ?_))
    rotate_left
    · simp at hb
      simp
      have:i=s.objs.length:=by omega
      subst this
      rw [List.take_length] at xm
      exact ⟨_,_,.refl _ _,rfl,xl,xn,xk,xm⟩
    simp at hb
    simp
    obtain ⟨f,hfi⟩:∃f,s.objs[i]?=some f:=⟨_,List.getElem?_eq_getElem hb⟩
    have hfe:s.objs[i]=f:=(List.getElem?_eq_some_iff.1 hfi).2
    have hid':=xk id _ (by omega) (y1k id _ (by omega) gid)
    have htk:s.objs.take (i+1)=s.objs.take i++[f]:=by rw [List.take_add_one,hfi];rfl
    have hnew:mput (eoT (s.objs.take i)) f.name (.i .i64 (i:Nat))=eoT (s.objs.take (i+1)):=by
      rw [htk,yif]
      · simp [eoT,List.zipIdx_append,show min i s.objs.length=i by omega]
      · intro p hp
        simp only [eoT,List.mem_map] at hp
        obtain ⟨⟨g,j⟩,hg,rfl⟩:=hp
        rw [List.mem_zipIdx_iff_getElem?] at hg
        intro q
        simp only [List.getElem?_take] at hg
        split at hg
        · have:=yc7 U.nm.ob hg hfi q
          omega
        · cases hg
    have nid:=xl _ _ hid'
    have nmo:=xl _ _ xm
    apply jC
    simp [yr.r12,hb,hfe,y8g]
    refine AX.drw ?_
    simp [yr.r13,hid',xm,hnew,show id≠X.next by omega,show mo≠X.next by omega,Ne.symm (show mo≠X.next by omega)]
    apply jE
    simp [yr.r14,y28 hb (show s.objs.length≤9223372036854775807 by omega)]
    refine ⟨s.objs.length-(i+1),by omega,_,_,.refl _ _,i+1,by omega,rfl,⟨Hp.upd_lt (Hp.upd_lt (Hp.add_lt xl _) (by simp) _) (by simp;omega) _,by simp;omega,fun j blk hj g=>?_,by simp⟩,by simp⟩
    have:=xl _ _ (xk j blk hj g)
    simp [hj,show j≠X.next by omega]
    exact xk j blk hj g
  rintro F X2 ⟨rfl,y2l,y2n,y2k,y2m⟩
  have hid2:=y2k id _ (by omega) (y1k id _ (by omega) gid)
  have nid2:=y2l _ _ hid2
  obtain ⟨L0,hL0⟩:∃L0:RkL,L0=⟨fun k=>if k=id then 1 else if k=mf then 5 else if k=mo then 6 else if k=mS then 7 else 0,[],[],.sl none 0 0,.sl none 0 0,.sl none 0 0,0,0,0,mf,mo,mS,[]⟩:=⟨_,rfl⟩
  have hrel0:∀n p,¬y5o L0 n p:=fun n p ⟨e,h,_⟩=>by rw [hL0] at h;cases h
  have R0:RkOk s id L0 true (X2.upd id (.cells (ya3 s L0 true) 10)):=by
    have nn:∀j blk,j≠id→X2.get j=some blk→(X2.upd id (.cells (ya3 s L0 true) 10)).get j=some blk:=fun j blk h g=>by simp [h,g]
    subst hL0
    exact ⟨Hp.upd_lt y2l nid2 _,⟨10,by simp,by omega⟩,⟨.inl ⟨rfl,0,rfl⟩,.inl ⟨rfl,0,rfl⟩,rfl,by simp,by simp,by simp [y6s,y3s],by simp⟩,.inl ⟨rfl,0,rfl⟩,
      nn mf _ (by omega) (y2k mf _ (by omega) y1m),nn mo _ (by omega) y2m,nn mS _ (by omega) (y2k mS _ (by omega) (y1k mS _ (by omega) gms)),fun i e h=>(by cases h),by simp,by simp [show mf≠id by omega],by simp [show mo≠id by omega,show mo≠mf by omega],
      by simp [show mS≠id by omega,show mS≠mf by omega,show mS≠mo by omega],fun h=>absurd rfl h,fun i e h=>(by cases h),fun k hk=>by
        simp only [Hp.next_upd]
        have:=y2l _ _ y2m
        simp only at hk
        split at hk
        · omega
        · split at hk
          · omega
          · split at hk
            · omega
            · split at hk
              · omega
              · exact absurd rfl hk,by simp⟩
  have E2:H.Ext (X2.upd id (.cells (ya3 s L0 true) 10)):=⟨by simp;omega,fun j blk g=>by
    have:=hlt _ _ g
    simp [show j≠id by omega]
    exact y2k j _ (by omega) (y1k j _ (by omega) (e0.2 _ _ g))⟩
  have T0:∀k,L0.tag k≠0→H.next≤k:=fun k hk=>by
    rw [hL0] at hk
    simp only at hk
    split at hk
    · omega
    · split at hk
      · omega
      · split at hk
        · omega
        · split at hk
          · omega
          · exact absurd rfl hk
  refine AX.cut (fun F X=>F=[(5,.p (some (id,0,10)))]∧MainE s H id X) ?_ ?_
  · apply jA
    simp [yr.r15,hid2,y7s]
    have eL:ya3 s L0 true=[.fs (s.objs.map y8g),.fs (s.fns.map ybc),.fs (s.cons.map y51),.sl none 0 0,.sl none 0 0,.sl none 0 0,.mp (some mf),.mp (some mo),.mp (some mS),.b true]:=by rw [hL0];rfl
    rw [←eL]
    refine AX.pblock (AX.loop (MainI s H id) _ ⟨_,_,.refl _ _,L0,true,R0,E2,T0,fun y hy=>(by rw [hL0] at hy;cases hy),fun n p h=>absurd h (hrel0 n p),fun Y _ n p h=>absurd h (hrel0 n p),fun h=>(by cases h),rfl,rfl⟩ ?_)
    rintro mm F X ⟨L,m,R,E,T,hP,hU,hS,hC,rfl,rfl⟩
    obtain ⟨mb,hg,hm⟩:=R.blk
    simp only [yr.l2]
    apply jB
    simp [yr.r16,hg,hm,ya3]
    refine AX.pcond (t:=m) rfl (fun hb=>AX.skip ?_) (fun hb=>AX.exit ?_)
    rotate_left
    · simp
      exact ⟨_,_,.refl _ _,rfl,L,m,R,E,hU,fun n p=>⟨fun h Y hY=>hS Y hY n p h,fun h=>h _ (hC hb)⟩⟩
    subst hb
    simp
    refine AX.pblock (jA ?_)
    obtain ⟨R1,T1⟩:=R.more false
    simp [yr.r17,hg,hm,ya3,y7s]
    apply jE
    simp [yr.r18]
    refine (ylf R1 U.nm U.cn U.pl hP).mono ?_
    rintro v X3 ⟨L3,m3,A⟩
    simp
    have hU3:y7d (y5o L3) (InNP (y9y s) (y40 s)):=A.tr.snd _ U.cl hU
    have c1:=crd_le (y9y s) (y40 s) (y5o L3)
    have T3:∀k,k<H.next→L3.tag k=0:=fun k hk=>by
      rw [A.to.tag k (by have:=E.1;simp;omega)]
      exact Classical.byContradiction fun h=>by have:=T k h;omega
    refine ⟨2*((y9y s).length*(y40 s).length-crd (y9y s) (y40 s) (y5o L3))+(if m3 then 1 else 0),?_,_,_,.refl _ _,L3,m3,A.ok,⟨Nat.le_trans E.1 (show X.next≤X3.next from A.to.nx),fun j blk g=>?_⟩,fun k hk=>?_,A.tsp hP,hU3,fun Y hY=>A.tr.snd Y hY (hS Y hY),fun e=>?_,rfl,rfl⟩
    · cases m3 with
      | false=>
        have:=crd_mono (N:=y9y s) (P:=y40 s) A.tr.mono
        simp;omega
      | true=>
        have:=Tr.lt (m:=true) U.cl A.tr hU
        simp;omega
    · have hj:=hlt _ _ g
      have ht:L.tag j=0:=Classical.byContradiction fun h=>by have:=T j h;omega
      exact A.to.keep j blk ht (T1.keep j blk ht (E.2 _ _ g))
    · exact Classical.byContradiction fun h=>hk (T3 k (by omega))
    · rw [yld A.tr e];exact A.fin e
  · rintro F X ⟨rfl,L,m,R,E,hU,hD⟩
    apply jA
    simp [yr.r19]
    refine (ylh R U.len fun n p h=>(hU n p h).1).mono ?_
    rintro v X4 ⟨l',hc,hh,E4,hf⟩
    have el:l'=l:=IsL.one ⟨hc,fun n p=>(hh n p).trans (hD n p)⟩ (hl he)
    subst el
    simp
    apply jD
    simp [he]
    exact ⟨E.trans E4,frz_t2 (hf.mono fun k hk=>Nat.le_trans E.1 hk)⟩
open Go.Proofs
set_option maxRecDepth 100000
namespace C
def y24.r0:jI:=[ak 0]
def y24.r1:jI:=[⟨some 4,none,.op (.build [.s [],.s [],.fs []] [(0,1,.c (.s [120])),(1,1,.c (.s [112]))])⟩,⟨some 5,none,.op (.build [.s [],.s [],.fs []] [(0,1,.c (.s [121])),(1,1,.c (.s [105]))])⟩,⟨some 6,none,.op (.bfz 2 3 [.s [],.s [],.sl none 0 0] [(0,3,.t 4),(3,3,.t 5)])⟩,a2l 7 0 0 0 1 1 1 1 102 46 112 2 1 120 43 48,a2l 8 0 0 0 1 1 1 1 102 46 114 2 1 121 43 48,a2l 9 0 0 0 1 3 1 1 102 46 113 2 1 102 46 112,a2l 10 0 0 0 1 4 1 1 102 46 112 2 1 102 46 114,⟨some 11,none,.op (.bfz 4 6 [.i .i64 0,.s [],.s [],.i .i64 0,.s [],.sl none 0 0] [(0,6,.t 7),(6,6,.t 8),(12,6,.t 9),(18,6,.t 10)])⟩,⟨some 12,none,.op (.build [.fs [],.fs [],.fs []] [(0,1,.t 6),(2,1,.t 11)])⟩,⟨some 1,none,.op (.new [.sl none 0 0,.sl none 0 0,.sl none 0 0])⟩,aj 3 1 12]
def y24.r2:jI:=[ap 14 3 1,⟨some 15,none,.call y8u [.t 14]⟩,ac 13 15,ai 16 0 13,ai 17 1 13,ac 2 16,ac 3 17]
def y24.r3:jI:=[ac 18 3,a10 19 18 0,ac 20 19,an 21 20 2,⟨some 22,(some (20,true)),.call y9s [.t 21,.c (.s [102,46,113])]⟩,⟨some 23,(some (20,true)),.op (.bfz 1 1 [.s []] [(0,1,.c (.s [121,43,48]))])⟩,⟨some 24,(some (20,true)),.call y5a [.t 22,.t 23]⟩,aq 25 20 24,ac 26 25,an 27 26 2,a35 28 26 27,a1o 29 26 28 4,aq 30 26 29,ac 0 30]
def y24:AFunc:=⟨31,[.t 0],jJ [] y24.r0 (jJ [1] y24.r1 (jJ [2,3] y24.r2 (jJ [0] y24.r3 (.ret))))⟩
theorem y24.ok:y23 Tryz.prog Tryz.f12 y24=true:=by kernel_rfl
theorem y24.at:Tryz.prog.funcs[y6x]?=some Tryz.f12:=Tryz.func12
end C
set_option maxRecDepth 100000
def yf5:Sy:=⟨[⟨[120],[112],[]⟩,⟨[121],[105],[]⟩],[],[⟨1,[102,46,112],[120,43,48],0,[],[]⟩,⟨1,[102,46,114],[121,43,48],0,[],[]⟩,⟨3,[102,46,113],[102,46,112],0,[],[]⟩,⟨4,[102,46,112],[102,46,114],0,[],[]⟩]⟩
def wk17a:List y58:=[([102,46,112],[[120,43,48]]),([102,46,114],[[121,43,48]]),([120,43,48],[[121,43,48]])]
def wl17:List y58:=[([102,46,112],[[120,43,48]]),([102,46,113],[[121,43,48]]),([102,46,114],[[121,43,48]]),([120,43,48],[[121,43,48]])]
theorem wk17_e:ygq yf5=0:=by kernel_rfl
theorem wk17_1:ybp yf5 []=(wk17a,true):=by kernel_rfl
theorem wk17_2:ybp yf5 wk17a=(wl17,true):=by kernel_rfl
theorem wk17_3:ybp yf5 wl17=(wl17,false):=by kernel_rfl
theorem wk17_s:syS yf5:=by
  refine ⟨by simp [yf5],by simp [yf5],by simp [yf5],fun o ho=>?_,fun f hf=>?_,fun c hc=>?_⟩
  · simp [yf5] at ho;rcases ho with rfl | rfl <;> simp [obS]
  · simp [yf5] at hf
  · simp [yf5] at hc;rcases hc with rfl | rfl | rfl | rfl <;> simp [cnS]
theorem wk17_l:IsL yf5 wl17:=by
  obtain ⟨c1,t1⟩:=yee (s:=yf5) CanF.nil
  rw [wk17_1] at c1 t1
  obtain ⟨c2,t2⟩:=yee (s:=yf5) c1
  rw [wk17_2] at c2 t2
  have h0:∀Y,Cl yf5 Y→y7d (y7n []) Y:=fun Y _ n p h=>by simp [y7n,ofS] at h
  have:=ylb (s:=yf5) c2 (fun Y hY=>t2.snd Y hY (t1.snd Y hY (h0 Y hY))) (by rw [wk17_3])
  rw [wk17_3] at this
  exact this
theorem yj5 (H:Hp):AC Tryz.prog y6x [] H (fun v H'=>v=.b true∧H'=H):=by
  refine AC.codeP y24.at y24.ok (by simp) fun hlt=>?_
  simp only [y24]
  apply jA
  simp [y24.r0]
  apply jA
  simp [y24.r1,y7s]
  apply jA
  simp [y24.r2]
  have e1:=(Hp.Ext.add hlt (.cells [.sl none 0 0,.sl none 0 0,.sl none 0 0] 3)).upd hlt (Nat.le_refl _) (.cells (ygr yf5) 3)
  have hF:=yo5 wk17_s (l:=wl17) (fun _=>wk17_l) ((H.add (.cells [.sl none 0 0,.sl none 0 0,.sl none 0 0] 3)).upd H.next (.cells (ygr yf5) 3))
  rw [if_pos wk17_e] at hF
  refine AC.fix hF ?_
  simp
  have hO:=fun X=>LOf_ok wl17 [102,46,113] (by simp [wl17]) (fun f hf=>by simp [wl17] at hf;rcases hf with rfl | rfl | rfl | rfl <;> simp) X
  rw [show ofS wl17 [102,46,113]=[[121,43,48]] by kernel_rfl] at hO
  apply jA
  simp [y24.r3,y7s]
  refine AC.fix (hO _) ?_
  simp [y7s]
  refine AC.fix (yhp [[121,43,48]] [[121,43,48]] (by simp [N63]) _) ?_
  simp
  simp [fsV,show wl17.length=4 from rfl]
  apply jD
  simp
  exact ⟨e1,.refl _⟩
def LlI (a b:List y58) (nodes:List Str) (H:Hp) (m:Nat) (F:Fr) (X:Hp):Prop:=∃i,i≤nodes.length∧m=nodes.length-i∧X=H∧F=[(0,fsV a),(1,fsV b),(2,ss nodes),(7,.i .i64 i)]
def SmL (a:List y58):Prop:=a.length≤100∧∀f∈a,f.2.length≤5000
theorem yf4 (a b:List y58) (nodes:List Str) (ha:yi0 a) (hb:yi0 b) (hn:nodes.length≤140737488355328) (H:Hp):AC Tryz.prog y6v [fsV a,fsV b,ss nodes] H (fun v H'=>v=.b true∧H'=H):=by
  refine AC.code yo.at yo.ok ?_
  simp only [yo]
  apply jA
  simp [yo.r0]
  refine AX.cut (fun F X=>F=[(0,fsV a),(1,fsV b),(2,ss nodes)]∧X=H∧SmL a∧SmL b∧nodes.length≤50) ?_ ?_
  · apply jA
    simp [yo.r1]
    refine (yba a ha H).mono ?_
    rintro v X ⟨⟨g1,rfl,h1⟩,rfl⟩
    cases g1 with
    | true=>
      simp
      refine jG rfl (jA ?_)
      simp [yo.r2]
      apply jD
      simp
    | false=>
      simp
      refine (yba b hb X).mono ?_
      rintro v X ⟨⟨g2,rfl,h2⟩,rfl⟩
      cases g2 with
      | true=>
        simp
        refine jG rfl (jA ?_)
        simp [yo.r2]
        apply jD
        simp
      | false=>
        simp [ss]
        by_cases h3:50<nodes.length
        · refine jG (by simp [h3]) (jA ?_)
          simp [yo.r2]
          apply jD
          simp
        · refine jF (by simp [h3]) (AX.skip ?_)
          simp
          exact ⟨_,_,.refl _ _,rfl,rfl,h1 rfl,h2 rfl,by omega⟩
  rintro F X ⟨rfl,rfl,⟨a1,a2⟩,⟨b1,b2⟩,n1⟩
  have a3:∀f∈a,f.2.length≤1000000:=fun f hf=>by have:=a2 f hf;omega
  have b3:∀f∈b,f.2.length≤1000000:=fun f hf=>by have:=b2 f hf;omega
  refine AX.cut (fun F Y=>F=[(0,fsV a),(1,fsV b),(2,ss nodes)]∧Y=X) ?_ ?_
  · apply jA
    simp [yo.r3]
    refine AX.pblock (AX.loop (LlI a b nodes X) nodes.length ⟨_,_,.refl _ _,0,by omega,by omega,rfl,rfl⟩ ?_)
    rintro m F Y ⟨i,hi,rfl,rfl,rfl⟩
    simp only [yo.l0]
    apply jB
    simp [yo.r4,ss]
    refine AX.pcond rfl (fun hc=>AX.skip ?_) (fun hc=>AX.exit ?_)
    rotate_left
    · simp
      exact Wk.refl _ _
    simp at hc
    simp
    refine AX.seq (AX.pblock (AX.seq (jA ?_)))
    simp [yo.r5,ss,hc]
    by_cases h4:200<nodes[i].length
    · refine jG (by simp [h4]) (jA ?_)
      simp [yo.r6]
      apply jD
      simp
    refine jF (by simp [h4]) (AX.skip ?_)
    simp
    have hle:=ylp (n:=nodes[i]) a3
    refine AX.testD false [(0,fsV a),(1,fsV b),(2,ss nodes),(7,.i .i64 i),(44,.b false)] ?_ rfl (fun h=>by cases h) (fun _=>AX.skip ?_)
    · simp [yo.r7,ss,hc]
      refine y3j _ (fun H2=>LOf_ok a nodes[i] (by omega) a3 H2) ?_
      simp [ss,hc]
      refine y3j (ss (ofS a nodes[i])) (fun H2=>ROf_ok a nodes[i] (by omega) a3 H2) ?_
      simp
      refine y3j (.b true) (fun H2=>by
        have:=yhp (ofS a nodes[i]) (ofS a nodes[i]) (by unfold N63;omega) H2
        simpa [ss] using this) ?_
      simp [ss]
    simp
    apply jE
    simp [yo.r9,y28 hc (show nodes.length≤9223372036854775807 by omega)]
    exact ⟨nodes.length-(i+1),by omega,_,_,.refl _ _,i+1,by omega,rfl,rfl,by simp [ss]⟩
  rintro F Y ⟨rfl,rfl⟩
  have o1:=yek a nodes
  have o2:∀f∈ybf a nodes,f.2.length≤N63:=fun f hf=>by
    have:=a2 f (List.mem_filter.1 hf).1
    unfold N63;omega
  apply jA
  simp [yo.r10]
  refine AC.fix (LOnly_ok a nodes (by omega) (by omega) a3 Y) ?_
  simp
  refine AC.fix (ROnly_ok a nodes (by omega) (by unfold N63;omega) Y) ?_
  simp
  refine AC.fix (ye4 (ybf a nodes) (ybf a nodes) (by omega) o2 Y) ?_
  simp
  refine AC.fix (yk3 a b (by omega) (by omega) a3 b3 Y) ?_
  simp
  refine AC.fix (yk0 a b (by omega) (by omega) a3 b3 Y) ?_
  simp
  refine AC.fix (yj1 a b (by omega) (by omega) (fun f hf=>by have:=a2 f hf;omega) Y) ?_
  simp
  refine AC.fix (ye4 a b (by omega) (fun f hf=>by have:=a2 f hf;unfold N63;omega) Y) ?_
  simp
  refine AC.fix (yj1 a a (by omega) (by omega) (fun f hf=>by have:=a2 f hf;omega) Y) ?_
  simp
  refine AC.fix (yj5 Y) ?_
  simp
  apply jD
  simp
end Go.Proofs.YtikpijbeobeckaaGreatDoor
