/- Part 45. -/
import Derived.Test.YtikpijbeobeckaaGreatDoorXGj
import Derived.Test.YtikpijbeobeckaaGreatDoorXGw28
import Derived.Test.YtikpijbeobeckaaGreatDoorXGw41
import Derived.Test.YtikpijbeobeckaaGreatDoorXGw44
set_option linter.unusedSimpArgs false
set_option linter.unusedVariables false
namespace Go.Proofs.YtikpijbeobeckaaGreatDoor
open Am C
structure AgT (s:Sy) (H:Hp) (v:V) (l:List Cn) (X:Hp):Prop where
 A:Acc H 6 v X (l.map y3n)
 g:X.get H.next=some (.cells [obV s.objs,fuV s.fns,v] 3)
 sep:SepV v H.next
theorem AgT.app {s:Sy} {H X:Hp} {v:V} {l:List Cn} (T:AgT s H v l X) (hlt:∀id blk,H.get id=some blk→id<H.next) (c:Cn) (hb:(l.length+1)*88≤y4x):
  ∃a n z X2,y28 X 6 88 v (.fs [y3n c])=some (.sl a n z,X2)∧X2.get H.next=some (.cells [obV s.objs,fuV s.fns,v] 3)∧AgT s H (.sl a n z) (l++[c]) (X2.upd H.next (.cells [obV s.objs,fuV s.fns,.sl a n z] 3)):=by
 obtain ⟨v2,X2,e,A2,k⟩:=T.A.appL (bytes:=88) (ys:=[y3n c]) hlt (by simp) (by omega) (by simp [y3n,ss,y3w]) (by simpa using hb)
 obtain ⟨g2,s2⟩:=k _ _ T.g T.sep
 obtain ⟨a,n,z,rfl⟩:=A2.isSl
 refine ⟨a,n,z,X2,e,g2,⟨?_,by simp,s2⟩⟩
 have:=A2.low (H:=H) (X':=X2.upd H.next (.cells [obV s.objs,fuV s.fns,.sl a n z] 3)) (A2.ext.upd hlt (kG _) _) (Hp.upd_lt A2.lt (A2.lt _ _ g2) _) (kG _) fun id blk h1 h2 h3=>by
  have:id≠H.next:=fun e=>by subst e;rw [h2] at s2;exact s2
  rw [Hp.get_upd,if_neg this];exact h3
 simpa using this
def yc9 (l:List y6b) (k:Nat):List Cn:=y7c (l.take k)
theorem ylh {l:List y6b} {k:Nat} (h:k<l.length):yc9 l (k+1)=yc9 l k++l[k].2.map (ybk l[k].1):=by
 unfold yc9 y7c
 rw [kJ,kC h,List.flatMap_append];simp
theorem ypw (l:List y6b) (m:Nat) (h:∀f∈l,f.2.length≤m):(y7c l).length≤l.length*m:=by
 induction l with
 | nil=>simp [y7c]
 | cons f l ih=>
  have:=ih fun g hg=>h g (by simp [hg])
  have h2:=h f (by simp)
  simp only [y7c,List.flatMap_cons,kT,List.length_map,kO,Nat.succ_mul] at this ⊢
  omega
theorem ypv (l:List y6b) (k m:Nat) (h:∀f∈l,f.2.length≤m):(yc9 l k).length≤l.length*m:=by
 have h1:=ypw (l.take k) m fun f hf=>h f (List.mem_of_mem_take hf)
 have h2:(l.take k).length≤l.length:=List.length_take_le' _ _
 have:=Nat.mul_le_mul_right m h2
 unfold yc9;omega
def AgO (s:Sy) (l:List y6b) (H:Hp) (m:Nat) (F:Fr) (X:Hp):Prop:=
 ∃k v,k≤l.length∧m=l.length-k∧AgT s H v (s.cons++yc9 l k) X∧F=[(3,fsV l),(5,.p (some (H.next,0,3))),(6,.i .i64 k)]
def AgI (s:Sy) (l:List y6b) (k:Nat) (f:y6b) (H:Hp) (m:Nat) (F:Fr) (X:Hp):Prop:=
 ∃j v,j≤f.2.length∧m=f.2.length-j∧AgT s H v (s.cons++yc9 l k++(f.2.take j).map (ybk f.1)) X∧F=[(3,fsV l),(5,.p (some (H.next,0,3))),(6,.i .i64 k),(7,.i .i64 j)]
theorem canS_sy {s:Sy} (h:ybl s=0) (hs:syS s) {l:List y6b} (hl:IsL s l) (hb:(y7c l).length≤999999000000):syS (yhh (y7y s l)):=by
 obtain ⟨e1,e2,e3,e4⟩:=ye7 h l
 obtain ⟨s1,s2,s3,so,sf,sc⟩:=hs
 obtain ⟨b1,b2,b3,_⟩:=y9z h
 refine ⟨by rw [e1];exact s1,by rw [e2];exact s2,?_,by rw [e1];exact so,by rw [e2];exact sf,fun c hc=>?_⟩
 ·have:=yc2 (y7y s l).cons (y7y s l).cons.length
  rw [List.take_length] at this
  have h2:(y7y s l).cons.length=s.cons.length+(y7c l).length:=by simp [y7y]
  show ((y7y s l).cons.foldl y3m []).length≤_
  omega
 ·rcases (e4 c).1 hc with hc | hc
  ·exact sc c hc
  ·obtain ⟨f,hf,p,hp,rfl⟩:=ybw.1 hc
   have hd:Der s f.1 p:=(hl.has f.1 p).1 (by unfold y6p;rw [ydv hl.can hf];exact hp)
   obtain ⟨n1,n2⟩:=yhc h ⟨s1,s2,s3,so,sf,sc⟩ hd
   have:=ynl n1
   have:=ykx n2
   exact ⟨by simp only [ybk];omega,by simp only [ybk];omega,by simp [ybk],by simp [ybk],by simp [ybk]⟩
theorem yg9 (s:Sy) (hs:syZ s) (H:Hp):AC Tryz.prog y7b [.agg (y5b s)] H (fun v H'=>v=.b true∧H'=H):=by
 refine AC.codeP yd.at yd.ok (by simp) fun hlt=>?_
 simp only [yd]
 apply jA
 simp [yd.r0,y5b]
 apply jB
 simp [yd.r1]
 refine AC.fix (ykl H) ?_
 simp
 refine jF rfl (AX.skip ?_)
 simp
 apply jB
 simp [yd.r3]
 have hG:=yll 40 (by omega) s hs H
 simp only [y5b] at hG
 refine hG.mono ?_
 rintro v X ⟨⟨b,rfl,hb⟩,rfl⟩
 simp
 refine AX.pcond rfl (fun h=>jA ?_) (fun h=>AX.skip ?_)
 ·simp [yd.r4]
  apply jD
  simp
  exact ⟨.refl _,.refl _⟩
 have hS:=hb h
 obtain ⟨l,hl⟩:=ex_L hS
 simp
 apply jA
 simp [yd.r5]
 have hF:=yef hS hl X
 simp only [y5b] at hF
 by_cases he:ybl s=0
 rotate_left
 ·rw [if_neg he] at hF
  refine AC.fix hF ?_
  simp
  apply jB
  simp [yd.r6]
  refine jG (by simp [he]) (jA ?_)
  simp [yd.r7]
  apply jD
  simp
  exact ⟨.refl _,.refl _⟩
 rw [if_pos he] at hF
 have hl:=hl he
 have hL:=lsR he hS
 have hok:=hl.okF hL.cl
 have b1:=(hok.can.len hok.sub).1
 have b2:∀f∈l,f.2.length≤45000:=fun f hf=>by
  have h1:=(hok.can.len hok.sub).2 f.1
  rw [ydv hok.can hf] at h1
  have:=yb9 he;omega
 have bn:(y9u s).length≤9999999:=hL.bd.n
 have hadd:∀k,(yc9 l k).length≤449999955000:=fun k=>by
  have:=ypv l k 45000 b2
  have h2:l.length*45000≤9999999*45000:=Nat.mul_le_mul_right _ (by omega)
  omega
 have hc6:=(y9z he).2.2.1
 refine AC.fix hF ?_
 simp
 apply jB
 simp [yd.r6]
 refine jF rfl (AX.skip ?_)
 simp
 apply jA
 simp [yd.r8]
 obtain ⟨X1,hX1⟩:∃X1,X1=(X.add (.cells [.sl none 0 0,.sl none 0 0,.sl none 0 0] 3)).upd X.next (.cells [obV s.objs,fuV s.fns,cnV s.cons] 3):=⟨_,rfl⟩
 have l1:∀id blk,X1.get id=some blk→id<X1.next:=by rw [hX1];exact lt2 hlt _ _
 have e1:X.Ext X1:=by rw [hX1];exact yfy hlt _ _
 have g1:X1.get X.next=some (.cells [obV s.objs,fuV s.fns,cnV s.cons] 3):=by rw [hX1];simp
 have n1:X1.next=X.next+1:=by rw [hX1];simp
 have hX1':(X.add (.cells [.sl none 0 0,.sl none 0 0,.sl none 0 0] 3)).upd X.next (.cells [.fs (s.objs.map y4l),.fs (s.fns.map y75),.fs (s.cons.map y3n)] 3)=X1:=hX1.symm
 rw [hX1']
 clear hX1' hX1
 have A0:Acc X1 6 (.sl none 0 6) X1 []:=.nil 6 6 (.refl _) l1
 obtain ⟨v1,Y,ea,A1,k1⟩:=A0.appL (bytes:=88) l1 (yaa y3n 6 (fun _=>rfl) s.cons) (by omega) (y76 y3n yio _) (by simp [y4x];omega)
 have gY:=A1.ext.2 _ _ g1
 obtain ⟨xa,xn,xz,rfl⟩:=A1.isSl
 have sepY:SepV (.sl xa xn xz) X.next:=A1.sepOld (by omega)
 apply jA
 simp only [obV,fuV,cnV] at gY
 simp [yd.r9,-y28,ea,gY]
 have T0:AgT s X (.sl xa xn xz) (s.cons++yc9 l 0) (Y.upd X.next (.cells [obV s.objs,fuV s.fns,.sl xa xn xz] 3)):=by
  refine ⟨?_,by simp,sepY⟩
  have:=A1.low (H:=X) (X':=Y.upd X.next (.cells [obV s.objs,fuV s.fns,.sl xa xn xz] 3)) ((e1.trans A1.ext).upd hlt (kG _) _) (Hp.upd_lt A1.lt (A1.lt _ _ gY) _) (by omega) fun id blk h1 h2 h3=>by
   rw [Hp.get_upd,if_neg (by omega)];exact h3
  simpa [yc9,y7c] using this
 refine AX.cut (fun F Z=>∃v,AgT s X v (s.cons++y7c l) Z∧F=[(3,fsV l),(5,.p (some (X.next,0,3)))]) ?_ ?_
 ·apply jA
  simp [yd.r10]
  refine AX.pblock (AX.loop (AgO s l X) l.length ⟨_,_,.refl _ _,0,_,by omega,by omega,T0,rfl⟩ ?_)
  rintro m F Z ⟨k,v,hk,rfl,T,rfl⟩
  simp only [yd.l0]
  apply jB
  simp [yd.r11,fsV]
  refine AX.pcond rfl (fun hb=>AX.skip ?_) (fun hb=>AX.exit ?_)
  rotate_left
  ·simp at hb
   simp
   have:yc9 l k=y7c l:=by unfold yc9;rw [kI hb]
   rw [this] at T
   exact ⟨_,_,.refl _ _,⟨v,T⟩,by simp [fsV]⟩
  simp at hb
  simp
  obtain ⟨f,hfe⟩:∃f,l[k]=f:=⟨_,rfl⟩
  have hf2:=b2 _ (kL hb)
  rw [hfe] at hf2
  have hak:=hadd k
  refine AX.cut (fun F W=>∃v,AgT s X v (s.cons++yc9 l k++f.2.map (ybk f.1)) W∧F=[(3,fsV l),(5,.p (some (X.next,0,3))),(6,.i .i64 k)]) ?_ ?_
  rotate_left
  ·rintro F W ⟨v,T,rfl⟩
   apply jE
   simp [yd.r16,y2g hb (show l.length≤9223372036854775807 by omega)]
   refine ⟨l.length-(k+1),by omega,_,_,.refl _ _,k+1,v,by omega,rfl,?_,by simp⟩
   rw [ylh hb,hfe,←kW];exact T
  refine AX.pblock (jA ?_)
  simp [yd.r12]
  refine AX.pblock (AX.loop (AgI s l k f X) f.2.length ⟨_,_,.refl _ _,0,v,by omega,by omega,by simpa using T,by simp [fsV]⟩ ?_)
  rintro m F W ⟨j,v,hj,rfl,T,rfl⟩
  simp only [yd.l1]
  apply jB
  simp [yd.r13,fsV,hb,hfe,fcs,ss]
  refine AX.pcond rfl (fun hd=>AX.skip ?_) (fun hd=>AX.exit ?_)
  rotate_left
  ·simp at hd
   simp
   rw [kI hd] at T
   exact ⟨_,_,.refl _ _,⟨v,by simpa using T⟩,by simp [fsV]⟩
  simp at hd
  simp
  obtain ⟨ya,yn,yz,X2,e2,g2,T2⟩:=T.app hlt (ybk f.1 f.2[j]) (by simp [y4x];omega)
  have g0:=T.g
  simp only [ybk,y3n,ss,List.map_nil] at e2
  refine AX.seq (AX.pblock (AX.drw ?_))
  simp [yd.r14,fsV,hb,hfe,fcs,ss,hd,g0,y7x,-y28,e2,g2]
  apply jE
  simp [yd.r15,y2g hd (show f.2.length≤9223372036854775807 by omega)]
  refine ⟨f.2.length-(j+1),by omega,_,_,.refl _ _,j+1,.sl ya yn yz,by omega,rfl,?_,by simp [fsV]⟩
  rw [kJ,kC hd]
  simp only [Option.toList_some,List.map_append,List.map_cons,List.map_nil,←kW]
  exact T2
 rintro F Z ⟨v,T,rfl⟩
 have hadl:(y7c l).length≤449999955000:=by
  have:=hadd l.length
  unfold yc9 at this
  rwa [List.take_length] at this
 have g0:=T.g
 simp only [obV,fuV] at g0
 apply jA
 simp [yd.r17,g0]
 have hcs:CaS (y7y s l):=by
  obtain ⟨s1,s2,s3,so,sf,sc⟩:=hS
  refine ⟨by simp only [y7y];omega,by simp only [y7y];omega,by simp only [y7y,kT];omega,fun o ho=>by have:=(so o ho).2.2.1;omega,fun c hc=>?_⟩
  rcases List.mem_append.1 hc with hc | hc
  ·exact (sc c hc).2.2.2.1
  ·obtain ⟨f,_,p,_,rfl⟩:=ybw.1 hc;simp [ybk]
 obtain ⟨S,hSd⟩:∃S:Nat→Prop,S=fun id=>X.next≤id:=⟨_,rfl⟩
 have hfz:Frz Z S v (cnV (s.cons++y7c l)):=by rw [hSd];exact T.A.frz
 refine AC.fix (v:=.agg (y5b (yhh (y7y s l)))) (H1:=Z.wo S) (AC.frz (args':=[.agg (y5b (y7y s l))]) S (yq1 (y7y s l) hcs (Z.wo S)) rfl fun j u w h1 h2=>?_) ?_
 ·match j,h1,h2 with
  | 0,h1,h2=>
   injection h1 with h1;injection h2 with h2;subst h1;subst h2
   refine .agg _ _ rfl fun j u w h1 h2=>?_
   simp only [y5b,y7y] at h2
   match j,h1,h2 with
   | 0,h1,h2=>injection h1 with h1;injection h2 with h2;subst h1;subst h2;exact .refl _
   | 1,h1,h2=>injection h1 with h1;injection h2 with h2;subst h1;subst h2;exact .refl _
   | 2,h1,h2=>injection h1 with h1;injection h2 with h2;subst h1;subst h2;exact hfz
   | j+3,h1,h2=>cases h1
  | j+1,h1,h2=>cases h1
 simp
 have hS2:=canS_sy he hS hl (by omega)
 obtain ⟨l',hl'⟩:=ex_L hS2
 have eZ:X.Ext (Z.wo S):=by rw [hSd];exact Hp.wo_new T.A.ext hlt
 have hF2:=yef hS2 hl' (Z.wo S)
 have hce:=canS_e he hS hl
 by_cases hbig:6000<(yhh (y7y s l)).cons.length
 ·rw [if_pos hbig] at hce
  rw [if_neg (by omega),hce] at hF2
  refine AC.fix hF2 ?_
  simp
  apply jA
  simp [yd.r18]
  apply jD
  simp
  exact ⟨eZ,.refl _⟩
 ·rw [if_neg hbig] at hce
  rw [if_pos hce] at hF2
  have hl':=hl' hce
  have hsame:l'=l:=yp8 hl'.can hl.can fun n p=>by rw [hl'.has,hl.has,canS_der he hl]
  rw [hsame] at hF2
  refine AC.fix hF2 ?_
  simp
  apply jA
  simp [yd.r18]
  refine AC.fix (LSame_ok l l (by omega) (by omega) (fun f hf=>by have:=b2 f hf;omega) _) ?_
  simp
  apply jD
  simp
  exact ⟨eZ,.refl _⟩
open Go.Proofs
theorem yep (us:List V) (h:ArgsZ [TSy] us):AC Tryz.prog 4 us Hp.none (fun r _=>r=.b true):=by
 obtain ⟨u,us',rfl,⟨vs,rfl,hu⟩,rfl⟩:=h
 obtain ⟨s,rfl,hs⟩:=isZ_sy hu
 exact (yg9 s hs _).mono fun v H' h=>h.1
end Go.Proofs.YtikpijbeobeckaaGreatDoor
namespace Go.Proofs.YtikpijbeobeckaaGreatDoor.leastAgain
open Go
open Go.RowKit Go.ChangeShapes Go.WideShapes Go.ChangeAt Go.Proofs.YtikpijbeobeckaaGreatDoor.Am
def ylx:Array Value:=#[.agg #[.slice none 0 0,.slice none 0 0,.slice none 0 0]]
theorem yhv (os:Os) {H:Type} (enc:TypeId × Value→H):
  (OpenSpec.ofChange Rows.leastAgainSpec).preRow enc Tryz.prog Tryz.f4 Rows.leastAgainRow.domain false Rows.leastAgainRow.laid ((rw.laidWorld os).forCall (fun _ _=>0) ⟨#[],ylx,[]⟩).memory ylx:=by
 have hw:(DataW.whole enc Tryz.prog ((rw.laidWorld os).forCall (fun _ _=>0) ⟨#[],ylx,[]⟩).memory Tryz.f4.params.toList (OpenSpec.ofChange Rows.leastAgainSpec).vars false ylx.toList 8).map (fun x=>(x.1,x.2.1)) =
   some ([.agg [.nil,.nil,.nil]],[]):=by kernel_rfl
 obtain ⟨⟨x1,x2,x3⟩,hx,hx1⟩:=Option.map_eq_some_iff.1 hw
 simp only [Prod.mk.injEq] at hx1
 obtain ⟨rfl,rfl⟩:=hx1
 exact OpenSpec.preRow_of_cond 8 hx (by kernel_rfl) (fun k hk=>by cases hk) (by kernel_rfl) (rw.laid_met os _)
set_option maxRecDepth 100000 in
theorem lifted (os:Os) (started:os.Started) (H:Type) (enc:TypeId × Value→H) (F:Stop.Interp):
  ReturnsInHanded {} Tryz.checked os 4 .any ((OpenSpec.ofChange Rows.leastAgainSpec).preRow enc Tryz.prog Tryz.f4 Rows.leastAgainRow.domain false Rows.leastAgainRow.laid) (((OpenSpec.ofChange Rows.leastAgainSpec).at F).post enc Tryz.prog Tryz.f4 false true false false):=by
 refine returnsInHanded_of_row (C:=Tryz.checked) (s:=OpenSpec.ofChange Rows.leastAgainSpec) rw.own started (by kernel_rfl) Tryz.func4
  (witness_row_atRef (enc:=enc) (C:=Tryz.checked) false (rw.laidWorld os) ylx rfl (by kernel_rfl) (by kernel_rfl) (by kernel_rfl) (yhv os enc)) ?_
 intro W base args ds gs y3g hval0 hW hcnd _ hsz hL _ _
 have hval:∀(j:Nat) t v,Tryz.f4.params[j]?=some t→args[j]?=some v→Value.okWide Tryz.prog W .any base t v:=hval0
 have hW':=hW
 obtain ⟨p,q,hA0,hV,rfl,hfz,hnd⟩:=hW
 have hA:DataW.TrodAll enc Tryz.prog W 0 (fun _=>true) true Tryz.f4.params.toList args.toList ds p:=hA0
 rw [Tryz.params4] at hA hval
 obtain ⟨rfl,rfl⟩:=trodVars_none hV
 have hsz1:(DataW.weightsEach Tryz.prog Tryz.f4.params.toList ds).all (·≤reachBytes)=true:=by
  have h:(DataW.weightsEach Tryz.prog (Tryz.f4.params.toList++[]) (ds++[])).all (·≤reachBytes)=true:=hsz
  rwa [List.append_nil,List.append_nil] at h
 rw [Tryz.params4] at hsz1
 obtain ⟨us,ru,au⟩:=ykh 12 (ts:=[26]) (Ts:=[TSy]) (by kernel_rfl) (fun j t v h1 h2=>hval j t v (by simpa using h1) (by simpa using h2)) hA
  (fun m hm=>by
   have:=List.all_eq_true.1 hsz1 m hm
   have h2:m≤reachBytes:=by simpa using this
   exact h2)
 have hlt:=yiv hA
 have key:=ykm (yep us au) ru (rw.tb_of hL)
 rw [Array.toArray_toList] at key
 refine key.mono fun e W' ⟨he,bel⟩=>?_
 subst he
 have hB:=yhn rw.laidOut bel (ts:=[26]) (by kernel_rfl) hA
 obtain ⟨v0,vs0,d0,ds0,p0,q0,hargs,rfl,rfl,h0,r0⟩:=trodAll_cons hA
 obtain ⟨rfl,rfl,rfl⟩:=trodAll_nil r0
 exact ⟨_,rfl,_,_,_,[],_,[],hW',trodAll_mk1 (shut_bool Tryz.underlying4 _),hB,rfl,bel.frame _,fun h=>by cases h⟩
theorem said:Rows.LeastAgainSaid:=
 OpenClaim.holds_of_cond 4 Tryz.f4 rfl rfl rfl rfl rfl rfl rfl ⟨rfl,rfl,rfl,rfl,rfl⟩ rfl rfl rfl rfl rfl (by kernel_rfl) Tryz.func4 joined
  (of_decide_eq_true (by kernel_rfl)) (by unfold Func.isWrapper;first | (rw [if_pos (by decide +kernel)];kernel_rfl) | (rw [if_neg (by decide +kernel)];exact ⟨rfl,rfl⟩))
  (fun os started H enc _ F=>by rw [OpenClaim.pre_eq_preRow];exact lifted os started H enc F)
theorem plain (f:FuncId) (fn:Func) (hf:Tryz.pinned.checked.prog.funcNamed "weft/weftlaw17.LeastAgain"=some f) (hfn:Tryz.pinned.checked.prog.funcs[f]?=some fn):
  true=Tryz.pinned.checked.prog.looks []∧∀(j:Nat) t,fn.params[j]?=some t→Tryz.pinned.checked.prog.wantsStandIn t=false:=by
 obtain rfl:f=4:=Option.some.inj ((show Tryz.prog.funcNamed "weft/weftlaw17.LeastAgain"=some 4 by kernel_rfl).symm.trans hf) |>.symm
 obtain rfl:fn=Tryz.f4:=(Option.some.inj (Tryz.func4.symm.trans hfn)).symm
 refine ⟨by kernel_rfl,fun j t ht=>?_⟩
 rw [Tryz.params4] at ht
 obtain rfl:t=26:=by simpa using Array.mem_of_getElem? ht
 exact (show Tryz.prog.wantsStandIn 26=false by kernel_rfl)
theorem card:Rows.LeastAgainCardSaid:=
 Claim7.holds_tied_plain_at .later [] _ _ _ _ said (fun _ h=>by cases h) (by kernel_rfl) (fun _ h=>by cases h) leastAgain_row_tie rfl ⟨rfl,rfl⟩ (by kernel_rfl) rfl plain (by kernel_rfl)
end Go.Proofs.YtikpijbeobeckaaGreatDoor.leastAgain
namespace Go.Proofs.YtikpijbeobeckaaGreatDoor
theorem leastAgain_holds:Rows.LeastAgainCardSaid:=leastAgain.card
end Go.Proofs.YtikpijbeobeckaaGreatDoor
