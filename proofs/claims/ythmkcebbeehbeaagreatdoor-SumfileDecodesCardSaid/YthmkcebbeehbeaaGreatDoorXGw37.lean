/- Part 37. -/
import Derived.Shelf.Strings.Builder1
import Derived.WalkKit
import Derived.BigCall
import Derived.Test.YthmkcebbeehbeaaGreatDoorXGw17
import Derived.Test.YthmkcebbeehbeaaGreatDoorXGw19
import Derived.Test.YthmkcebbeehbeaaGreatDoorXGw21
import Derived.Test.YthmkcebbeehbeaaGreatDoorXGw25
import Derived.Test.YthmkcebbeehbeaaGreatDoorXGw27
import Derived.Test.YthmkcebbeehbeaaGreatDoorXGw30
set_option linter.unusedSimpArgs false
set_option linter.unusedVariables false
namespace Go.Proofs.YthmkcebbeehbeaaGreatDoor
open Go Go.RowKit Go.Shelf
set_option maxHeartbeats 1000000 in
set_option maxRecDepth 100000 in
theorem bc_first (b n T:Nat) (w:World) (h0:w.cell? ⟨b,0,none⟩=some (.pointer none)) (hsh:w.shape? b=some (T,n)) (hn:0<n) (hfz:w.frozen? ⟨b,0,none⟩=false)
  (hl:liesAt Tryz.prog Tryz.prog.depth T (n / Tryz.prog.cellsOf T) 0 56 1=true):
  Calls Tryz.prog 143 #[.pointer (some ⟨b,0,none⟩)] w fun e w'=>e=.returned (.tuple #[])∧w'=w.setCell ⟨b,0,none⟩ (.pointer (some ⟨b,0,none⟩)):=by
 obtain ⟨j,hj,hjs⟩:=Option.map_eq_some_iff.1 (show (Tryz.prog.info? 56).map (·.size)=some 2 by kernel_rfl)
 go_enter Tryz.func143,Tryz.ntmps143
 go_wp2
 rw [Lib.run_to_unsafe w ⟨b,0,none⟩ Tryz.underlying54 Tryz.underlying218 hj (by rw [hjs];decide) hsh hn]
 simp only [Result.andThen]
 rw [Oper.upon_value]
 go_wp2
 rw [run_callFunc_extern Tryz.func186 (by kernel_rfl) (by kernel_rfl) (by kernel_rfl) (e:=Extern.AbiNoEscape.same) (by kernel_rfl)]
 rw [Lib.run_noEscape]
 simp only [Result.andThen]
 rw [Oper.upon_value]
 go_wp2
 rw [Lib.run_from_unsafe w ⟨b,0,none⟩ Tryz.underlying218 Tryz.underlying54 hj hsh hl]
 simp only [Result.andThen]
 rw [Oper.upon_value]
 go_wp2
 go_end0
 exact ⟨rfl,rfl⟩
set_option maxHeartbeats 1000000 in
set_option maxRecDepth 100000 in
theorem bc_again (b o:Nat) (w:World) (h0:w.cell? ⟨b,o,none⟩=some (.pointer (some ⟨b,o,none⟩))):
  Calls Tryz.prog 143 #[.pointer (some ⟨b,o,none⟩)] w fun e w'=>e=.returned (.tuple #[])∧w'=w:=by
 obtain ⟨j,hj,hjs⟩:=Option.map_eq_some_iff.1 (show (Tryz.prog.info? 56).map (·.size)=some 2 by kernel_rfl)
 go_enter Tryz.func143,Tryz.ntmps143
 go_wp2
 rw [Lib.run_neq_ptr_same w _ Tryz.underlying54 hj]
 go_wp2
 go_end0
 exact ⟨rfl,rfl⟩
namespace Am
theorem yq8 {T L id m:Nat} {cs:List V} {H:Hp} (hL:L=cs.length+1) (hg:H.get id=some (.cells (.pz T L id L::cs) m))
  (hl:liesAt Tryz.prog Tryz.prog.depth T (L / Tryz.prog.cellsOf T) 0 56 1=true):
  AC Tryz.prog 143 [.p (some (id,0,L))] H (fun v H'=>v=.tup []∧H'=H.upd id (.cells (.p (some (id,0,L))::cs) L)):=by
 subst hL
 refine ⟨by kernel_rfl,fun κ args S r=>?_⟩
 obtain ⟨c,rfl,rc⟩:=r.one'
 have hm:=S.le id _ m hg
 obtain ⟨⟨arr,t,fr,p1,p2,p3,p4⟩,p5⟩:=S.cells id _ m hg (cs.length+1) hm (by simp)
 cases rc with
 | p _ _ _ ok=>
 have h0:=p3 0 _ (by omega) rfl
 generalize hc:arr.getD ((κ.pl id (cs.length+1)).2+0) undef=c0 at h0
 cases h0 with
 | pz _ _ _ _ o hn hz=>
 have hv:VR κ (.p (some (id,0,cs.length+1))) (.pointer (some ⟨(κ.pl id (cs.length+1)).1,(κ.pl id (cs.length+1)).2+0,none⟩)):=.p id 0 (cs.length+1) ok
 obtain ⟨S',le,hcell,hfz⟩:=S.set hg (off:=0) (by simp) hv
 simp only [kN] at S' le hcell hfz
 rw [hz] at hc hfz hcell S' le hv p2
 rw [hz]
 simp only [y5t,p1] at hn
 injection hn with hn
 injection hn with hn1 hn2
 subst hn2
 have hcl:=ycv p1 (j:=0) (by omega)
 have key:=bc_first (κ.pl id (cs.length+1)).1 (cs.length+1) t κ.w (by rw [hcl];simpa using hc) (by simp [World.shape?,p1,hn1]) (by omega) (by simpa using hfz) hl
 refine key.mono fun e w' ⟨he,hw⟩=>?_
 subst hw
 exact ⟨_,.tup [],.tuple #[],_,he,rfl,by simpa using le,by simpa using S',VR.tup [] [] rfl (fun j v h=>by simp at h),rfl,by simp⟩
theorem yq9 {L id m:Nat} {cs:List V} {H:Hp} (hL:L=cs.length+1) (hg:H.get id=some (.cells (.p (some (id,0,L))::cs) m)):
  AC Tryz.prog 143 [.p (some (id,0,L))] H (fun v H'=>v=.tup []∧H'=H):=by
 subst hL
 refine ⟨by kernel_rfl,fun κ args S r=>?_⟩
 obtain ⟨c,rfl,rc⟩:=r.one'
 have hm:=S.le id _ m hg
 obtain ⟨⟨arr,t,fr,p1,p2,p3,p4⟩,p5⟩:=S.cells id _ m hg (cs.length+1) hm (by simp)
 cases rc with
 | p _ _ _ ok=>
 have h0:=p3 0 _ (by omega) rfl
 have hcl:=ycv p1 (j:=(κ.pl id (cs.length+1)).2+0) (by omega)
 generalize hc:arr.getD ((κ.pl id (cs.length+1)).2+0) undef=c0 at h0 hcl
 cases h0 with
 | p _ _ _ _=>
 refine (bc_again _ _ κ.w hcl).mono fun e w' ⟨he,hw⟩=>?_
 subst hw
 exact ⟨κ,.tup [],.tuple #[],H,he,rfl,.refl κ,S,VR.tup [] [] rfl (fun j v h=>by simp at h),rfl,rfl⟩
end Am
variable {P:Program} {ρ:Ren}
set_option maxHeartbeats 2000000 in
set_option maxRecDepth 100000 in
theorem ysk (L:Lays.n169 P ρ) (X:Builder.Extra P ρ) (b o g cap cells:Nat) (l:List UInt8) (w:World) (h0:l≠[]) (hc1:w.cell? ⟨b,o+1,none⟩=some (.slice (some ⟨g,0,none⟩) l.length cap)) (hcap:l.length≤cap) (hmax:cap≤9223372036854775807)
  (hsh:w.shape? g=some (ρ.t 5,cells)) (hcl:l.length≤cells) (hb:∀(j:Nat) x,l[j]?=some x→w.cell? ⟨g,j,none⟩=some (.int .u8 x.toNat)):
  Calls P (ρ.f 169) #[.pointer (some ⟨b,o,none⟩)] w fun e w'=>e=.returned (.string ⟨l.toArray⟩)∧w'=w.drew.freeze ⟨g,0,none⟩ l.length:=by
 have hl0:l.length≠0:=by simpa using h0
 have c1:w.drew.cell? ⟨b,o+1,none⟩=some (.slice (some ⟨g,0,none⟩) l.length cap):=hc1
 have hSD:(Builtin.unsafeSliceData_ #[(ρ.t 37)] (ρ.t 127) #[.slice (some ⟨g,0,none⟩) l.length cap]).run P w.drew=.ok (.pointer (some ⟨g,0,none⟩)) w.drew:=
  Lib.run_unsafeSliceData_row _ _ _ _ _ _ (by omega)
 have hUS:(Builtin.unsafeString_ #[(ρ.t 127),(ρ.t 3)] (ρ.t 9) #[.pointer (some ⟨g,0,none⟩),.int .i64 l.length]).run P w.drew=.ok (.string ⟨l.toArray⟩) (w.drew.freeze ⟨g,0,none⟩ l.length):=by
  refine Lib.run_unsafeString_row w.drew (ρ.t 127) (ρ.t 3) (ρ.t 9) (ρ.t 5) L.t127 X.cellsByte g cells hsh l h0 hcl (by omega) ?_
  intro j x hx
  have:=hb j x hx
  have e:((⟨g,0,none⟩:Addr).add j)=⟨g,j,none⟩:=by cases j <;> simp [Addr.add]
  rw [e];exact this
 have mixed:=L.mixed
 have t72:=L.t72;have a72:=L.a72;have z72:=L.z72;have v72:=L.v72;have u72:=run_underlying L.t72
 have t70:=L.t70;have a70:=L.a70;have z70:=L.z70;have v70:=L.v70;have u70:=run_underlying L.t70
 have t37:=L.t37;have a37:=L.a37;have z37:=L.z37;have v37:=L.v37;have u37:=run_underlying L.t37
 have t127:=L.t127;have a127:=L.a127;have z127:=L.z127;have v127:=L.v127;have u127:=run_underlying L.t127
 have t3:=L.t3;have a3:=L.a3;have z3:=L.z3;have v3:=L.v3;have u3:=run_underlying L.t3
 have t9:=L.t9;have a9:=L.a9;have z9:=L.z9;have v9:=L.v9;have u9:=run_underlying L.t9
 have t5:=X.t5;have a5:=X.a5;have z5:=X.z5;have v5:=X.v5;have u5:=run_underlying X.t5
 go_enter L.f169,Body.n169_ntmps ρ
 go_wp2
 go_region_o
 all_goals (go_wp2;go_ret;exact ⟨rfl,rfl⟩)
end Go.Proofs.YthmkcebbeehbeaaGreatDoor
namespace Go.Proofs.YthmkcebbeehbeaaGreatDoor.Am
open Go Go.RowKit Go.Shelf
theorem yq3 (w:World) (p:Addr) (n k:Nat) (h:k≠p.block):(w.freeze p n).heap[k]?=w.heap[k]?:=by
 unfold World.freeze
 split
 ·rfl
 ·simp [Array.getElem?_modify,Ne.symm h]
theorem yoc (w:World) (p:Addr) (n k:Nat):y5t (w.freeze p n) k=y5t w k:=by
 unfold World.freeze
 split
 ·rfl
 ·simp only [y5t,Array.getElem?_modify]
  by_cases h:p.block=k
  ·rw [if_pos h]
   cases hh:w.heap[k]? with
   | none=>rfl
   | some o=>cases o <;> rfl
  ·rw [if_neg h]
theorem yq2 (w:World) (p:Addr) (n:Nat):(w.freeze p n).heap.size=w.heap.size∧(w.freeze p n).os=w.os∧(w.freeze p n).tape=w.tape∧(w.freeze p n).output=w.output:=by
 unfold World.freeze
 split <;> simp
theorem wo_sub {H:Hp} (S:Nat→Prop):(H.wo S).Sub H:=⟨fun id=>by
 by_cases e:S id
 ·left;simp [Hp.wo,e]
 ·right;simp [Hp.wo,e],kF _⟩
theorem yub {L id m g mg:Nat} {a:V} {cs:List V} {bs:List UInt8} {H:Hp} (hL:L=cs.length+2) (h0:bs≠[]) (hg:H.get id=some (.cells (a::.st 5 (some (g,0,bs.length)) bs.length 1::cs) m))
  (hb:H.get g=some (.cells (bs.map fun x=>V.i .u8 x.toNat) mg)):
  AC Tryz.prog 80 [.p (some (id,0,L))] H (fun v H'=>v=.s bs∧H'=H.wo (fun k=>k=g)):=by
 subst hL
 refine ⟨by kernel_rfl,fun κ args S r=>?_⟩
 obtain ⟨c,rfl,rc⟩:=r.one'
 have hm:=S.le id _ m hg
 have hmg:=S.le g _ mg hb
 obtain ⟨⟨arr,t,fr,p1,p2,p3,p4⟩,p5⟩:=S.cells id _ m hg (cs.length+2) hm (by simp)
 obtain ⟨⟨brr,bt,bf,q1,q2,q3,q4⟩,q5⟩:=S.cells g _ mg hb bs.length (by simpa using hmg) (by simp)
 cases rc with
 | p _ _ _ ok=>
 have hv:=p3 1 _ (by omega) rfl
 have hcl:=ycv p1 (j:=(κ.pl id (cs.length+2)).2+1) (by omega)
 generalize hc:arr.getD ((κ.pl id (cs.length+2)).2+1) undef=c0 at hv hcl
 cases hv with
 | st _ _ _ _ _ hsl hst=>
 obtain ⟨n,g1,g2⟩:=hst
 have hlen:0<bs.length:=List.length_pos_iff.2 h0
 cases hsl with
 | sl _ _ _ _ _ cap nn ad ok2 hz hlc hlo hhi hnc hroom ha=>
 obtain rfl:=ha (by omega)
 rw [g2] at hcl q2 q3
 simp only [y5t,q1] at g1
 injection g1 with g1
 injection g1 with g1 g3
 subst g3
 have hby:∀(j:Nat) x,bs[j]?=some x→κ.w.cell? ⟨(κ.pl g bs.length).1,j,none⟩=some (.int .u8 x.toNat):=fun j x hj=>by
  have hjl:=(List.getElem?_eq_some_iff.1 hj).1
  have h1:=q3 j (.i .u8 x.toNat) hjl (by simp [hj])
  rw [ycv q1 (by omega)]
  rw [Nat.zero_add] at h1
  generalize brr.getD j undef=u at h1
  cases h1;rfl
 have key:=ysk Tryz.lays169 Tryz.Builder_Extra_169 (κ.pl id (cs.length+2)).1 ((κ.pl id (cs.length+2)).2+0) (κ.pl g bs.length).1 cap brr.size bs κ.w h0 (by simpa using hcl) hlc.1 hlc.2 (by simp [World.shape?,q1];rfl) (by omega) hby
 refine key.mono fun e w' ⟨he,hw⟩=>?_
 subst hw
 obtain ⟨r1,r2,r3,r4⟩:=yq2 κ.w.drew ⟨(κ.pl g bs.length).1,0,none⟩ bs.length
 obtain ⟨le,S2⟩:=Sim.other ((S.drew).weak (wo_sub (fun k=>k=g))) (b:=(κ.pl g bs.length).1) (w':=κ.w.drew.freeze ⟨(κ.pl g bs.length).1,0,none⟩ bs.length) q1 (fun k hk _=>yq3 _ _ _ k hk) (fun k n h=>by rw [yoc];exact h) (by rw [r1];exact kF _) r2 r3 r4 q5
  (fun k cs' m' e hg' h1 h2 hp=>by
   simp only [Hp.wo] at hg'
   split at hg'
   ·cases hg'
   ·rename_i hne
    exact hne (S.sep k g e bs.length cs' m' _ mg hg' hb h1 h2 (by simpa using hmg) (by simp) hp))
 exact ⟨_,.s bs,.string ⟨bs.toArray⟩,_,he,rfl,κ.drew_le.trans le,S2,.s bs,rfl,rfl⟩
end Go.Proofs.YthmkcebbeehbeaaGreatDoor.Am
namespace Go.Proofs.YthmkcebbeehbeaaGreatDoor
open Am C
namespace Am
theorem AX.stpH {P:Go.Program} {n:Nat} {Q:y8z} {F:Fr} {H:Hp} {ts:List Nat} {ss:List AStep} {A:ACode} (F1:Fr) (H1:Hp) (h:yfu P ss (fun F X=>ydg F ts=F1∧X=H1) F H)
  (k:AX P n A Q F1 H1):AX P n (.seq (.post ts (.region ss)) A) Q F H:=by
 refine AX.seq (AX.mono (Q:=y8z.then (fun F X=>F=F1∧X=H1) fun _ _ _=>False) (AX.reg h) ?_)
 intro x F' H' hx
 cases x with
 | normal=>obtain ⟨rfl,rfl⟩:=hx;exact k
 | exit k=>exact hx.elim
 | ret=>exact hx.elim
def BufV (v buf:V):Prop:=(buf=v∧∃z,v=.sl none 0 z)∨∃a l s,v=.sl a l s∧buf=.st 5 a l s
structure WB (B:Hp) (T L id:Nat) (cs:List V) (bs:Str) (X:Hp) (v:V):Prop where
 hB:∀k blk,B.get k=some blk→k<B.next
 hl:liesAt Tryz.prog Tryz.prog.depth T (L / Tryz.prog.cellsOf T) 0 56 1=true
 hL:L=cs.length+2
 lo:B.next≤id
 acc:Acc B 1 v X (bcl bs)
 sep:ydh v id
 ex:∃a buf m,X.get id=some (.cells (a::buf::cs) m)∧m≤L∧(a=.p (some (id,0,L))∨a=.pz T L id L)∧BufV v buf
def Kp (id:Nat) (v:V) (X:Hp) (v':V) (X':Hp):Prop:=X.next≤X'.next∧∀k blk,X.get k=some blk→k≠id→ydh v k→X'.get k=some blk∧ydh v' k
theorem Kp.refl (id:Nat) (v:V) (X:Hp):Kp id v X v X:=⟨kF _,fun k blk h _ s=>⟨h,s⟩⟩
theorem Kp.trans {id:Nat} {v v' v'':V} {X X' X'':Hp} (a:Kp id v X v' X') (b:Kp id v' X' v'' X''):Kp id v X v'' X'':=
 ⟨kU a.1 b.1,fun k blk h n s=>let ⟨h1,s1⟩:=a.2 k blk h n s;b.2 k blk h1 n s1⟩
theorem yom {T L id m:Nat} {a:V} {cs:List V} {X:Hp} (hL:L=cs.length+1) (hg:X.get id=some (.cells (a::cs) m)) (hm:m≤L) (ha:a=.p (some (id,0,L))∨a=.pz T L id L)
  (hl:liesAt Tryz.prog Tryz.prog.depth T (L / Tryz.prog.cellsOf T) 0 56 1=true):
  AC Tryz.prog y86 [.p (some (id,0,L))] X (fun v H'=>v=.tup []∧∃m',m'≤L∧H'=X.upd id (.cells (.p (some (id,0,L))::cs) m')):=by
 rcases ha with rfl | rfl
 ·exact (yq9 hL hg).mono fun v H' ⟨e1,e2⟩=>⟨e1,m,hm,by rw [e2,Hp.upd_self hg]⟩
 ·exact (yq8 hL hg hl).mono fun v H' ⟨e1,e2⟩=>⟨e1,L,kF _,e2⟩
theorem WB.put {B X:Hp} {T L id m:Nat} {cs:List V} {bs ys:Str} {v buf x:V} (W:WB B T L id cs bs X v) (hg:X.get id=some (.cells (.p (some (id,0,L))::buf::cs) m)) (hbuf:BufV v buf)
  (hx:∀Y,yap Y 1 x=some (ys.length,(bcl ys).flatten)) (hb:bs.length+ys.length≤100000000000):
  ∃a2 l2 s2 X2 m2,y59 X 1 1 v x=some (.sl a2 l2 s2,X2)∧X2.get id=some (.cells (.p (some (id,0,L))::buf::cs) m)∧
   WB B T L id cs (bs++ys) (X2.upd id (.cells (.p (some (id,0,L))::.st 5 a2 l2 s2::cs) m2)) (.sl a2 l2 s2)∧Kp id v X (.sl a2 l2 s2) (X2.upd id (.cells (.p (some (id,0,L))::.st 5 a2 l2 s2::cs) m2))∧m2=cs.length+2:=by
 obtain ⟨v2,X2,e,A2,nx,K⟩:=W.acc.appKs (bytes:=1) (x:=x) W.hB (ys:=bcl ys) (by rw [hx];simp) (bcl_one _) (by omega) (ywe _) (by simp [yb7];omega)
 obtain ⟨a2,l2,s2,rfl⟩:=A2.isSl
 obtain ⟨g2,sp2⟩:=K id _ hg W.sep
 have hid:=A2.lt _ _ g2
 refine ⟨a2,l2,s2,X2,cs.length+2,e,g2,⟨W.hB,W.hl,W.hL,W.lo,?_,sp2,⟨.p (some (id,0,L)),.st 5 a2 l2 s2,cs.length+2,by simp,by rw [W.hL];exact kF _,.inl rfl,.inr ⟨a2,l2,s2,rfl,rfl⟩⟩⟩,⟨by simpa using nx,fun k blk h n s=>?_⟩,rfl⟩
 ·rw [ysr]
  exact A2.upd W.hB sp2 W.lo hid _
 ·obtain ⟨h1,s1⟩:=K k blk h s
  exact ⟨by rw [Hp.get_upd,if_neg n];exact h1,s1⟩
end Am
theorem you {B X:Hp} {T L id:Nat} {cs:List V} {bs:Str} {v:V} (c:UInt8) (W:WB B T L id cs bs X v) (hb:bs.length≤10000000000):
  AC Tryz.prog y87 [.p (some (id,0,L)),.i .u8 c.toNat] X (fun r X'=>r=.nifc∧∃v',WB B T L id cs (bs++[c]) X' v'∧Kp id v X v' X'):=by
 obtain ⟨a,buf,m,hg,hm,ha,hbuf⟩:=W.ex
 have hL:=W.hL
 refine AC.code y2k.at y2k.ok ?_
 simp only [y2k]
 apply jA
 simp [y2k.r0]
 apply jA
 simp [y2k.r1]
 refine (yom (T:=T) (by simpa using hL) hg hm ha W.hl).mono ?_
 rintro _ X1 ⟨rfl,m1,hm1,rfl⟩
 simp
 have hid:=W.acc.lt _ _ hg
 have W1:WB B T L id cs bs (X.upd id (.cells (.p (some (id,0,L))::buf::cs) m1)) v:=⟨W.hB,W.hl,hL,W.lo,W.acc.upd W.hB W.sep W.lo hid _,W.sep,⟨.p (some (id,0,L)),buf,m1,by simp,hm1,.inl rfl,hbuf⟩⟩
 have K1:Kp id v X v (X.upd id (.cells (.p (some (id,0,L))::buf::cs) m1)):=⟨by simp,fun k blk h n s=>⟨by rw [Hp.get_upd,if_neg n];exact h,s⟩⟩
 have g1:(X.upd id (.cells (.p (some (id,0,L))::buf::cs) m1)).get id=some (.cells (.p (some (id,0,L))::buf::cs) m1):=by simp
 generalize X.upd id (.cells (.p (some (id,0,L))::buf::cs) m1)=X1 at *
 obtain ⟨a2,l2,s2,X2,m2,e,g2,W2,K2,rfl⟩:=W1.put (ys:=[c]) (x:=.fs [[.i .u8 c.toNat]]) g1 hbuf (fun Y=>by simp [bcl]) (by simp;omega)
 subst hL
 refine AX.stpH [] (X2.upd id (.cells (.p (some (id,0,cs.length+2))::.st 5 a2 l2 s2::cs) (cs.length+2))) ?_ ?_
 ·rcases hbuf with ⟨rfl,z,rfl⟩ | ⟨a,l,s,rfl,rfl⟩ <;> simp [y2k.r2,g1,hm1,ydi,-y59,e,g2]
 apply jA
 simp [y2k.r3]
 apply jD
 simp
 exact ⟨_,W2,K1.trans K2⟩
theorem yla {B X:Hp} {T L id:Nat} {cs:List V} {bs:Str} {v:V} (s:Str) (W:WB B T L id cs bs X v) (hb:bs.length≤10000000000) (hs:s.length≤10000000000):
  AC Tryz.prog y7m [.p (some (id,0,L)),.s s] X (fun r X'=>∃v',WB B T L id cs (bs++s) X' v'∧Kp id v X v' X'):=by
 obtain ⟨a,buf,m,hg,hm,ha,hbuf⟩:=W.ex
 have hL:=W.hL
 refine AC.code y2c.at y2c.ok ?_
 simp only [y2c]
 apply jA
 simp [y2c.r0]
 apply jA
 simp [y2c.r1]
 refine (yom (T:=T) (by simpa using hL) hg hm ha W.hl).mono ?_
 rintro _ X1 ⟨rfl,m1,hm1,rfl⟩
 simp
 have hid:=W.acc.lt _ _ hg
 have W1:WB B T L id cs bs (X.upd id (.cells (.p (some (id,0,L))::buf::cs) m1)) v:=⟨W.hB,W.hl,hL,W.lo,W.acc.upd W.hB W.sep W.lo hid _,W.sep,⟨.p (some (id,0,L)),buf,m1,by simp,hm1,.inl rfl,hbuf⟩⟩
 have K1:Kp id v X v (X.upd id (.cells (.p (some (id,0,L))::buf::cs) m1)):=⟨by simp,fun k blk h n s=>⟨by rw [Hp.get_upd,if_neg n];exact h,s⟩⟩
 have g1:(X.upd id (.cells (.p (some (id,0,L))::buf::cs) m1)).get id=some (.cells (.p (some (id,0,L))::buf::cs) m1):=by simp
 generalize X.upd id (.cells (.p (some (id,0,L))::buf::cs) m1)=X1 at *
 obtain ⟨a2,l2,s2,X2,m2,e,g2,W2,K2,rfl⟩:=W1.put (ys:=s) (x:=.s s) g1 hbuf (fun Y=>by simp [yjj]) (by omega)
 subst hL
 refine AX.stpH [(1,.s s)] (X2.upd id (.cells (.p (some (id,0,cs.length+2))::.st 5 a2 l2 s2::cs) (cs.length+2))) ?_ ?_
 ·rcases hbuf with ⟨rfl,z,rfl⟩ | ⟨a,l,s,rfl,rfl⟩ <;> simp [y2c.r2,g1,hm1,ydi,-y59,e,g2]
 apply jA
 simp [y2c.r3]
 apply jD
 simp
 exact ⟨_,W2,K1.trans K2⟩
theorem grp_byte (q:Nat) (hq:q≤268435456):Go.IntKind.u8.wrap (bOr .i64 (yrv .i64 (q:Int) 127) 128)=((UInt8.ofNat (q % 128+128)).toNat:Int):=by
 rw [show (127:Int)=((127:Nat):Int) from rfl,bAnd_i64 (by omega) (by omega),and127,show (128:Int)=((128:Nat):Int) from rfl,ywg (by omega) (by omega),or128 (Nat.mod_lt _ (by omega)),yfz (by omega) (by omega)]
 simp;omega
theorem grp_last (q:Nat) (hq:q<128):Go.IntKind.u8.wrap (q:Int)=((UInt8.ofNat q).toNat:Int):=by
 rw [yfz (by omega) (by omega)]
 simp;omega
def GrpInv (y nb n:Nat) (J:Str→Nat→Hp→Prop) (m:Nat) (F:Fr) (X:Hp):Prop:=
 ∃pre,m≤n∧y8x n=pre++y8x m∧J pre m X∧F=[(0,.yl y),(1,.p (some (nb,0,1)))]
theorem yt4 (y nb n:Nat) (hn:n≤268435456) (J:Str→Nat→Hp→Prop) (X:Hp) (h0:J [] n X)
  (hJ:∀pre q X,J pre q X→∃m,X.get nb=some (.cells [.i .i64 (q:Nat)] m)∧m≤1)
  (hs:∀pre q q' X,J pre q X→J pre q' (X.upd nb (.cells [.i .i64 (q':Nat)] 1)))
  (hy:∀pre q (c:UInt8) X,J pre q X→pre.length≤5→YC Tryz.prog y [.i .u8 c.toNat] X (fun v X'=>v=.b true∧J (pre++[c]) q X')):
  AC Tryz.prog yai [.yl y,.p (some (nb,0,1))] X (fun _ X'=>∃q,J (y8x n) q X'):=by
 refine AC.code y3i.at y3i.ok ?_
 simp only [y3i]
 refine AX.seq (AX.pblock (AX.loop (GrpInv y nb n J) n ⟨_,_,.refl _ _,[],kF _,rfl,h0,rfl⟩ ?_))
 rintro q F Y ⟨pre,hqn,hv,hj,rfl⟩
 obtain ⟨mb,gb,hmb⟩:=hJ _ _ _ hj
 have hlen:pre.length≤5:=by have:=ya3 hn;rw [hv] at this;simp at this;omega
 simp only [y3i.l0]
 by_cases hq:127<q
 ·apply jB
  have hc:=grp_byte q (by omega)
  have hg:=yii (n:=q) (by omega)
  generalize UInt8.ofNat (q % 128+128)=c at *
  simp [y3i.r0,gb,hmb,hq,hc]
  refine (hy pre q c Y hj hlen).mono ?_
  rintro _ Y1 ⟨rfl,hj1⟩
  obtain ⟨mb1,gb1,hmb1⟩:=hJ _ _ _ hj1
  simp
  refine jG rfl (AX.skip ?_)
  simp
  refine AX.pblock (AX.reg ?_)
  have hsh:((q:Int).fdiv 128)=((q / 128:Nat):Int):=fdiv_nat q 128
  simp [y3i.r1,gb1,hmb1,hsh]
  refine ⟨q / 128,by omega,_,_,.refl _ _,pre++[c],by omega,?_,hs _ _ (q / 128) _ hj1,by simp⟩
  rw [hv,hg];simp
 ·apply jB
  simp [y3i.r0,gb,hmb,hq]
  refine jF rfl (AX.exit ?_)
  simp
  apply jA
  simp [y3i.r2,gb,hmb,show q≤127 by omega]
  refine jG rfl ?_
  apply jE
  have hc:=grp_last q (by omega)
  have hg:=yb6 (n:=q) (by omega)
  generalize UInt8.ofNat q=c at *
  simp [y3i.r3,gb,hmb,hc]
  refine (hy pre q c Y hj hlen).mono ?_
  rintro _ Y1 ⟨rfl,hj1⟩
  simp
  rw [hv,hg]
  exact ⟨q,hj1⟩
theorem Am.WB.beside {B X:Hp} {T L id k:Nat} {cs:List V} {bs:Str} {v:V} (W:WB B T L id cs bs X v) (hk:k≠id) (hs:ydh v k) (lo:B.next≤k) (hi:k<X.next) (b:Blk):WB B T L id cs bs (X.upd k b) v:=by
 obtain ⟨a,buf,m,hg,h⟩:=W.ex
 exact ⟨W.hB,W.hl,W.hL,W.lo,W.acc.upd W.hB hs lo hi b,W.sep,a,buf,m,by rw [Hp.get_upd,if_neg (Ne.symm hk)];exact hg,h⟩
theorem Am.WB.ext {B X Y:Hp} {T L id:Nat} {cs:List V} {bs:Str} {v:V} (W:WB B T L id cs bs X v) (e:X.Ext Y) (hl:∀k blk,Y.get k=some blk→k<Y.next):WB B T L id cs bs Y v:=by
 obtain ⟨a,buf,m,hg,h⟩:=W.ex
 exact ⟨W.hB,W.hl,W.hL,W.lo,W.acc.more e hl,W.sep,a,buf,m,e.2 _ _ hg,h⟩
theorem Am.WB.cells {B X:Hp} {T L id m:Nat} {cs cs':List V} {bs:Str} {v a buf:V} (W:WB B T L id cs bs X v) (hg:X.get id=some (.cells (a::buf::cs) m)) (hc:cs'.length=cs.length) (m':Nat) (hm':m'≤L):
  WB B T L id cs' bs (X.upd id (.cells (a::buf::cs') m')) v∧Kp id v X v (X.upd id (.cells (a::buf::cs') m')):=by
 obtain ⟨a2,buf2,m2,hg2,h⟩:=W.ex
 rw [hg] at hg2;injection hg2 with hg2;injection hg2 with h1 h2;injection h1 with h1 h3;injection h3 with h3 h4
 subst h1;subst h3
 exact ⟨⟨W.hB,W.hl,by rw [hc];exact W.hL,W.lo,W.acc.upd W.hB W.sep W.lo (W.acc.lt _ _ hg) _,W.sep,a,buf,m',by simp,hm',h.2⟩,by simp,fun k blk h n s=>⟨by rw [Hp.get_upd,if_neg n];exact h,s⟩⟩
theorem yx8 (k:Nat) (X:Hp):AC Tryz.prog ye3 [.i .i64 k] X (fun r X'=>r=.fn yai [.p (some (X.next,0,1))]∧X'=X.add (.cells [.i .i64 k] 1)):=by
 refine AC.code y5w.at y5w.ok ?_
 simp only [y5w]
 apply jA
 simp [y5w.r0]
 apply jA
 simp [y5w.r1]
 apply jD
 simp
theorem Am.Acc.slLt {H X:Hp} {sz:Nat} {v:V} {es:List (List V)} (A:Acc H sz v X es) {k:Nat} (h:X.next≤k):ydh v k:=by
 rcases A.sl with ⟨_,z,rfl⟩ | ⟨j,m,h1,rfl,h2,h3⟩
 ·trivial
 ·have:=A.lt _ _ h2
  show j≠k;omega
theorem Am.WB.del {B X:Hp} {T L id k:Nat} {cs:List V} {bs:Str} {v:V} (W:WB B T L id cs bs X v) (hs:ydh v k) (hk:k≠id) (lo:B.next≤k):WB B T L id cs bs (X.del k) v:=by
 obtain ⟨a,buf,m,hg,h⟩:=W.ex
 have hd:∀j,j≠k→(X.del k).get j=X.get j:=fun j h=>by simp only [Hp.del];rw [if_neg h]
 refine ⟨W.hB,W.hl,W.hL,W.lo,⟨⟨W.acc.ext.1,fun j blk g=>?_⟩,fun j blk g=>?_,W.acc.all,W.acc.sl.imp (fun x=>x) fun ⟨j,m,a,e,c,d⟩=>⟨j,m,a,e,?_,d⟩⟩,W.sep,a,buf,m,by rw [hd _ (Ne.symm hk)];exact hg,h⟩
 ·have:=W.hB _ _ g
  rw [hd _ (by omega)];exact W.acc.ext.2 _ _ g
 ·simp only [Hp.del] at g ⊢
  split at g
  ·cases g
  ·exact W.acc.lt _ _ g
 ·subst e
  rw [hd _ (show j≠k from hs)];exact c
structure WnJ (B X0:Hp) (T L id nb lp:Nat) (S:LpS) (cs:List V) (bs:Str) (v:V) (pre:Str) (q:Nat) (Y:Hp):Prop where
 ex:∃v',WB B T L id cs (bs++pre) Y v'∧Kp id v X0 v' Y∧ydh v' nb∧ydh v' lp
 nb:Y.get nb=some (.cells [.i .i64 (q:Nat)] 1)
 lp:Y.get lp=some (.obj (.lp S .ready))
theorem yfi {B X:Hp} {T L id:Nat} {we:Int} {cs:List V} {bs:Str} {v:V} (n:Int) (W:WB B T L id (.i .i64 we::cs) bs X v) (hb:bs.length≤1000000000):
  AC Tryz.prog y68 [.p (some (id,0,L)),.i .i64 n] X (fun r X'=>r=.tup []∧∃v',WB B T L id (.i .i64 (yjn we bs n).1::cs) (yjn we bs n).2 X' v'∧Kp id v X v' X'):=by
 obtain ⟨a,buf,m,hg,hm,ha,hbuf⟩:=W.ex
 have hL:=W.hL
 simp at hL
 subst hL
 refine AC.code y19.at y19.ok ?_
 simp only [y19]
 apply jA
 simp [y19.r0]
 refine AX.seq (AX.test (decide (we=0)&&(decide (n<0)||decide (268435456<n))) [(1,.i .i64 n),(2,.fp [.p (some (id,0,cs.length+1+2))] 0),(17,.b (decide (we=0)&&(decide (n<0)||decide (268435456<n))))] ?_ rfl (fun h1=>?_) (fun h1=>AX.skip ?_))
 ·by_cases h0:we=0
  ·by_cases h1:n<0
   ·simp [y19.r1,hg,hm,h0,h1]
   ·by_cases h2:268435456<n
    ·simp [y19.r1,hg,hm,h0,h1,h2]
    ·simp [y19.r1,hg,hm,h0,h1,h2]
  ·simp [y19.r1,hg,hm,h0]
 ·simp at h1
  obtain ⟨rfl,hn⟩:=h1
  have hw:yjn 0 bs n=(2,bs):=by simp only [yjn];rw [if_neg (by simp),if_pos hn]
  rw [hw]
  apply jE
  simp [y19.r2,hg,hm]
  apply jB
  simp [y19.r3]
  refine jG rfl (AX.ret ?_)
  simp
  have:=W.cells hg (cs':=.i .i64 2::cs) rfl (cs.length+1+2) (by omega)
  exact ⟨v,this⟩
 simp at h1
 simp
 by_cases hwe:we=0
 ·subst hwe
  have hn:=h1 rfl
  have hw:yjn 0 bs n=(0,bs++y8x n.toNat):=by simp only [yjn];rw [if_neg (by simp),if_neg (by omega)]
  rw [hw]
  obtain ⟨k,rfl⟩:∃k:Nat,n=k:=⟨n.toNat,by omega⟩
  have hk:k≤268435456:=by omega
  simp only [Int.toNat_natCast]
  apply jB
  simp [y19.r3,hg,hm]
  refine jF rfl (AX.skip ?_)
  simp
  apply jA
  simp [y19.r4]
  refine (yx8 k X).mono ?_
  rintro _ _ ⟨rfl,rfl⟩
  simp
  refine AX.pblock (AX.prange rfl fun S hS=>?_)
  have hid:=W.acc.lt _ _ hg
  have e1:=Am.Hp.Ext.add W.acc.lt (.cells [.i .i64 (k:Nat)] 1)
  have l1:=Hp.add_lt W.acc.lt (.cells [.i .i64 (k:Nat)] 1)
  have e2:=e1.trans (Am.Hp.Ext.add l1 (.obj (.lp S .ready)))
  have l2:=Hp.add_lt l1 (.obj (.lp S .ready))
  have hvn:=W.acc.slLt (kF X.next)
  have hvn1:=W.acc.slLt (k:=X.next+1) (by omega)
  refine (yt4 (X.next+1) X.next k hk (WnJ B X T _ id X.next (X.next+1) S (.i .i64 0::cs) bs v) _ ⟨⟨v,by simpa using W.ext e2 l2,⟨by simp;omega,fun j blk h n s=>⟨e2.2 _ _ h,s⟩⟩,hvn,hvn1⟩,by simp,by simp⟩ (fun pre q Y J=>⟨1,J.nb,by omega⟩) (fun pre q q' Y J=>?_) (fun pre q c Y J hp=>?_)).mono ?_
  ·obtain ⟨v',W',K',s1,s2⟩:=J.ex
   refine ⟨⟨v',W'.beside (by omega) s1 (by have:=W.acc.ext.1;omega) (W'.acc.lt _ _ J.nb) _,⟨by simpa using K'.1,fun j blk h n s=>?_⟩,s1,s2⟩,by simp,by simp [J.lp]⟩
   have hj:=W.acc.lt _ _ h
   obtain ⟨g,s'⟩:=K'.2 j blk h n s
   exact ⟨by rw [Hp.get_upd,if_neg (by omega)];exact g,s'⟩
  ·obtain ⟨v',W',K',s1,s2⟩:=J.ex
   refine YC.walk hS J.lp rfl ?_
   simp only [y19.a0]
   apply jE
   simp [y19.r5,putAll]
   refine ⟨J.lp,?_⟩
   simp only [y19.b0]
   refine AX.pblock (AX.reg ?_)
   have W1:=W'.beside (k:=X.next+1) (by omega) s2 (by have:=W.acc.ext.1;omega) (W'.acc.lt _ _ J.lp) (.obj (.lp S .busy))
   simp [y19.r6]
   refine (you c W1 (by simp;omega)).mono ?_
   rintro _ Y1 ⟨rfl,v1,W2,K2⟩
   simp
   obtain ⟨lpb,s3⟩:=K2.2 (X.next+1) (.obj (.lp S .busy)) (by simp) (by omega) s2
   obtain ⟨nbb,s4⟩:=K2.2 X.next _ (by simp;exact J.nb) (by omega) s1
   simp [ygh]
   refine ⟨lpb,⟨v1,?_,⟨by have:=K'.1;have:=K2.1;simp at *;omega,fun j blk h n s=>?_⟩,s4,s3⟩,by simp [nbb],by simp⟩
   ·rw [←kV]
    exact W2.beside (by omega) s3 (by have:=W.acc.ext.1;omega) (W2.acc.lt _ _ lpb) _
   ·have hj:=W.acc.lt _ _ h
    obtain ⟨g,s'⟩:=K'.2 j blk h n s
    obtain ⟨g2,s''⟩:=K2.2 j blk (by rw [Hp.get_upd,if_neg (by omega)];exact g) n s'
    exact ⟨by rw [Hp.get_upd,if_neg (by omega)];exact g2,s''⟩
  ·rintro _ Y ⟨q,J⟩
   obtain ⟨v',W',K',s1,s2⟩:=J.ex
   refine .inl ⟨J.lp,?_⟩
   simp
   have hd:∀j,j≠X.next+1→(Y.del (X.next+1)).get j=Y.get j:=fun j h=>by simp only [Hp.del];rw [if_neg h]
   refine ⟨v',W'.del s2 (by omega) (by have:=W.acc.ext.1;omega),⟨by simpa [Hp.del] using K'.1,fun j blk h n s=>?_⟩⟩
   have hj:=W.acc.lt _ _ h
   obtain ⟨g,s'⟩:=K'.2 j blk h n s
   exact ⟨by rw [hd _ (by omega)];exact g,s'⟩
 ·have hw:yjn we bs n=(we,bs):=by simp only [yjn];rw [if_pos hwe]
  rw [hw]
  apply jB
  simp [y19.r3,hg,hm,hwe]
  refine jG rfl (AX.ret ?_)
  simp
  exact ⟨v,W,.refl _ _ _⟩
theorem Less_ok (x y:Str) (H:Hp):AC Tryz.prog ycl [.s x,.s y] H (fun v H'=>v=.b (ltB x y)∧H'=H):=by
 refine AC.code y5k.at y5k.ok ?_
 simp only [y5k]
 apply jA
 simp [y5k.r0]
 refine AX.stp [(4,.b (ltB x y))] ?_ ?_
 ·simp [y5k.r1]
  refine AC.fix (ymo _ _) ?_
  simp
 apply jD
 simp
theorem yvf (x:Str) (H:Hp):AC Tryz.prog y8s [.s x] H (fun v H'=>v=.b false∧H'=H):=by
 refine AC.code y4i.at y4i.ok ?_
 simp only [y4i]
 apply jA
 simp [y4i.r0]
 apply jA
 simp [y4i.r1]
 apply jD
 simp
def BisInv (l:List Str) (x:Str) (H:Hp) (m:Nat) (F:Fr) (H':Hp):Prop:=
 ∃i j,i≤yei l x∧yei l x≤j∧j≤l.length∧m=j-i∧H'=H∧F=[(0,ss l),(1,.s x),(6,.i .i64 l.length),(7,.i .i64 i),(8,.i .i64 j)]
theorem BinS_ok (l:List Str) (x:Str) (hr:y51 l) (hl:l.length≤1000000000) (H:Hp):AC Tryz.prog y6r [ss l,.s x] H (fun v H'=>v=.tup [.i .i64 (yei l x:Nat),.b (decide (x∈l))]∧H'=H):=by
 refine AC.code ye.at ye.ok ?_
 simp only [ye]
 have hp:=ypn l x
 apply jA
 simp [ye.r0]
 apply jA
 simp [ye.r1,ss]
 apply jA
 simp [ye.r2]
 refine AX.seq (AX.pblock (AX.loop (BisInv l x H) l.length ⟨_,_,.refl _ _,0,l.length,by omega,hp,by omega,by omega,rfl,rfl⟩ ?_))
 rintro m' F H' ⟨i,j,hi,hj,hjl,rfl,rfl,rfl⟩
 simp only [ye.l0]
 apply jB
 simp [ye.r3]
 refine AX.pcond rfl (fun hb=>AX.skip ?_) (fun hb=>AX.exit ?_)
 ·simp at hb
  simp
  refine AX.pblock (jA ?_)
  obtain ⟨e,he⟩:∃e,e=(i+j) / 2:=⟨_,rfl⟩
  have hh:=half i j (by omega)
  rw [←he] at hh
  simp [ye.r4,hh]
  have hel:e<l.length:=by omega
  have hlt:=yhd hr x e l[e] (kB hel)
  apply jA
  simp [ye.r5,hel,ss]
  refine AC.fix (Less_ok _ _ _) ?_
  simp
  by_cases hlt':e<yei l x
  ·rw [decide_eq_true hlt'] at hlt
   refine jG (by simp [hlt]) (AX.reg ?_)
   simp [ye.r6,y5p (show e≤9223372036854775000 by omega)]
   exact ⟨j-(e+1),by omega,_,_,.refl _ _,e+1,j,by omega,hj,hjl,rfl,rfl,by simp [ss]⟩
  ·rw [decide_eq_false hlt'] at hlt
   refine jF (by simp [hlt]) (AX.reg ?_)
   simp [ye.r7]
   exact ⟨e-i,by omega,_,_,.refl _ _,i,e,hi,by omega,by omega,rfl,rfl,by simp [ss]⟩
 simp at hb
 have e1:i=yei l x:=by omega
 subst e1
 have hm:=yeh hr x
 simp
 refine AX.stp [(4,.i .i64 (yei l x:Nat)),(5,.b (decide (x∈l)))] ?_ ?_
 ·by_cases hlt:yei l x<l.length
  ·have hg:l[yei l x]?=some l[yei l x]:=kB hlt
   rw [hg] at hm
   by_cases hxe:l[yei l x]=x
   ·have hmm:x∈l:=hm.2 (by rw [hxe])
    simp [ye.r8,hlt,ss,hxe,hmm]
   ·have hmm:x∉l:=fun h=>hxe (by simpa using hm.1 h)
    simp [ye.r8,hlt,ss,hxe,hmm]
    refine AC.fix (yvf _ _) ?_
    simp [hmm]
  ·have hmm:x∉l:=fun h=>by
    have:=hm.1 h
    rw [List.getElem?_eq_none (by omega)] at this;cases this
   simp [ye.r8,hlt,ss,hmm]
 apply jD
 simp
theorem numV_pos {l:List Str} (hr:y51 l) {x:Str} (hx:x∈l):yka l x=(yei l x:Nat):=by
 refine yps ((yeh hr x).1 hx) fun h=>?_
 obtain ⟨j,hj⟩:=List.mem_iff_getElem?.1 h
 rw [km] at hj
 split at hj
 ·rename_i hlt
  have:=yhd hr x j x hj
  rw [decide_eq_true hlt] at this
  exact yau x this
 ·cases hj
section
variable {B X:Hp} {T L id:Nat} {we:Int} {cs:List V} {bs:Str} {v:V}
theorem ys2 (s:Str) (W:WB B T L id (.i .i64 we::cs) bs X v) (hb:bs.length≤1000000000):
  AC Tryz.prog y92 [.p (some (id,0,L)),.s s] X (fun r X'=>r=.tup []∧∃v',WB B T L id (.i .i64 (yqx we bs s).1::cs) (yqx we bs s).2 X' v'∧Kp id v X v' X'):=by
 obtain ⟨a,buf,m,hg,hm,ha,hbuf⟩:=W.ex
 have hL:=W.hL
 simp at hL
 subst hL
 refine AC.code y2n.at y2n.ok ?_
 simp only [y2n]
 refine AX.seq (AX.test (decide (we=0)&&decide (200000<s.length)) [(0,.p (some (id,0,cs.length+1+2))),(1,.s s),(13,.b (decide (we=0)&&decide (200000<s.length)))] ?_ rfl (fun h1=>?_) (fun h1=>AX.skip ?_))
 ·by_cases h0:we=0
  ·simp [y2n.r0,hg,hm,h0]
  ·simp [y2n.r0,hg,hm,h0]
 ·simp at h1
  obtain ⟨rfl,hn⟩:=h1
  have hw:yqx 0 bs s=(9,bs):=by simp only [yqx];rw [if_neg (by simp),if_pos hn]
  rw [hw]
  apply jE
  simp [y2n.r1,hg,hm]
  apply jA
  simp [y2n.r2]
  refine jF rfl (AX.skip ?_)
  simp
  exact ⟨v,W.cells hg (cs':=.i .i64 9::cs) rfl (cs.length+1+2) (by omega)⟩
 simp at h1
 simp
 by_cases hwe:we=0
 ·subst hwe
  have hn:=h1 rfl
  have hw:yqx 0 bs s=(0,bs++y8x s.length++s):=by simp only [yqx];rw [if_neg (by simp),if_neg (by omega)]
  have hw2:yjn 0 bs (s.length:Nat)=(0,bs++y8x s.length):=by simp only [yjn];rw [if_neg (by simp),if_neg (by omega)];simp
  rw [hw]
  apply jA
  simp [y2n.r2,hg,hm]
  refine jG rfl (jA ?_)
  simp [y2n.r3]
  refine (yfi _ W hb).mono ?_
  rintro _ X1 ⟨rfl,v1,W1,K1⟩
  rw [hw2] at W1
  simp
  apply jE
  simp [y2n.r4]
  have hv:=ya3 (n:=s.length) (by omega)
  refine (yla s W1 (by simp;omega) (by omega)).mono ?_
  rintro r X2 ⟨v2,W2,K2⟩
  simp
  exact ⟨v2,by simpa using W2,K1.trans K2⟩
 ·have hw:yqx we bs s=(we,bs):=by simp only [yqx];rw [if_pos hwe]
  rw [hw]
  apply jA
  simp [y2n.r2,hg,hm,hwe]
  refine jF rfl (AX.skip ?_)
  simp
  exact ⟨v,W,.refl _ _ _⟩
theorem yn3 (W:WB B T L id (.i .i64 we::cs) bs X v) (hne:bs≠[]):
  AC Tryz.prog y93 [.p (some (id,0,L))] X (fun r X'=>r=(if we≠0 then .tup [.s [],.i .i64 we] else .tup [.s bs,.i .i64 0])∧X'.next=X.next∧∀k blk,X.get k=some blk→ydh v k→X'.get k=some blk):=by
 obtain ⟨a,buf,m,hg,hm,ha,hbuf⟩:=W.ex
 have hL:=W.hL
 simp at hL
 subst hL
 refine AC.code y3k.at y3k.ok ?_
 simp only [y3k]
 apply jA
 simp [y3k.r0]
 apply jB
 simp [y3k.r1,hg,hm]
 by_cases hwe:we=0
 ·refine jF (by simp [hwe]) (AX.skip ?_)
  simp
  have hA:=W.acc.sl
  rcases hA with ⟨h0,_⟩ | ⟨g,mg,hlo,rfl,hgg,hmg⟩
  ·exfalso
   apply hne
   simpa [bcl] using h0
  have hb2:buf=.st 5 (some (g,0,bs.length)) bs.length 1:=by
   rcases hbuf with ⟨_,z,h⟩ | ⟨a2,l2,s2,h,rfl⟩
   ·cases h
   ·injection h with h1 h2 h3
    subst h1;subst h2;subst h3
    simp [yjj]
  subst hb2
  rw [yjj] at hgg
  apply jA
  simp [y3k.r3]
  refine (yub (cs:=.i .i64 we::cs) (by simp) hne hg hgg).mono ?_
  rintro _ _ ⟨rfl,rfl⟩
  simp
  apply jD
  simp [hwe]
  refine ⟨rfl,fun k blk h s=>?_⟩
  exact Hp.wo_get h (fun e=>s e.symm)
 ·refine jG (by simp [hwe]) ?_
  refine AX.seq (AX.drw ?_)
  simp [y3k.r2,hg,hm]
  apply jD
  simp [hwe]
  exact fun k blk h _=>h
end
end Go.Proofs.YthmkcebbeehbeaaGreatDoor
