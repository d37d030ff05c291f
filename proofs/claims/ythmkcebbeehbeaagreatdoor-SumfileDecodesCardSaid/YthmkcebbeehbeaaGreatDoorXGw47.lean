/- Part 47. -/
import Derived.Test.YthmkcebbeehbeaaGreatDoorXGw19
import Derived.Test.YthmkcebbeehbeaaGreatDoorXGw29
import Derived.Test.YthmkcebbeehbeaaGreatDoorXGw33
import Derived.Test.YthmkcebbeehbeaaGreatDoorXGw35
import Derived.Test.YthmkcebbeehbeaaGreatDoorXGw46
set_option linter.unusedSimpArgs false
set_option linter.unusedVariables false
namespace Go.Proofs.YthmkcebbeehbeaaGreatDoor
open Am C
set_option maxHeartbeats 1000000 in
theorem yp1 (b:Str) (hb:b.length≤140737488351232) (H:Hp):AC Tryz.prog ybk [.s b] H (fun v H'=>v=.tup [.agg (y61 (yhk b).1),.i .i64 (yhk b).2]∧H'=H):=by
 refine AC.codeP y8.at y8.ok (yc1 (by simp [yct (yhr _)])) fun hlt=>?_
 simp only [y8]
 apply jA
 simp [y8.r0]
 have N0:=Nb.new hlt (.cells [.s [],.sl none 0 0,.sl none 0 0,.sl none 0 0,.sl none 0 0,.sl none 0 0,.sl none 0 0] 7)
 generalize H.add (.cells [.s [],.sl none 0 0,.sl none 0 0,.sl none 0 0,.sl none 0 0,.sl none 0 0,.sl none 0 0] 7)=X at *
 generalize hid:H.next=id at *
 have g0:=N0.get
 apply jB
 simp [y8.r1]
 by_cases h1:200000<b.length
 ·refine jG (by simp [h1]) (jA ?_)
  simp [y8.r2,g0]
  apply jD
  simp
  refine ⟨(N0.upd _).ext,?_⟩
  have:yhk b=(su0,9):=by unfold yhk;rw [if_pos h1]
  rw [this]
  exact y8f yad
 refine jF (by simp;omega) (AX.skip ?_)
 simp
 apply jA
 simp [y8.r3]
 refine AC.fix (ypj b hb X) ?_
 simp
 apply jC
 simp [y8.r4]
 cases h2:(ycw b).2 with
 | false=>
  refine jG (by simp [h2]) (jA ?_)
  simp [y8.r5,g0]
  apply jD
  simp
  refine ⟨(N0.upd _).ext,?_⟩
  have:yhk b=(su0,14):=by unfold yhk;rw [if_neg h1,if_pos h2]
  rw [this]
  exact y8f yad
 | true=>
 have hol:=(yk7 h2).2
 have hD:yhk b=yp6 (ycw b).1:=by unfold yhk;rw [if_neg h1,if_neg (by simp [h2])]
 rw [hD]
 refine jF (by simp [h2]) (jA ?_)
 simp [y8.r6]
 generalize (ycw b).1=t at *
 refine AC.fix (yop t (by omega) X) ?_
 simp
 by_cases h:t.take 4=y7j
 case neg=>
  refine jG (by simp [h]) (jA ?_)
  simp [y8.r7,g0]
  apply jD
  simp
  refine ⟨(N0.upd _).ext,?_⟩
  have:yp6 t=(su0,5):=by unfold yp6;rw [if_pos h]
  rw [this]
  exact y8f yad
 refine jF (by simp [h]) (AX.skip ?_)
 have h4:=yu7 h
 simp
 have hD1:yp6 t=ytb (t.drop 4):=by unfold yp6;rw [if_neg (by simp [h])]
 rw [hD1]
 have hu:(t.drop 4).length≤200000:=by simp;omega
 apply jA
 simp [y8.r8,h4]
 generalize t.drop 4=u at *
 clear h2 hol hD hD1 h h4 h1 hb
 have e0:[V.s u,V.i .i64 0,V.i .i64 0]=rdc u ⟨0,0⟩:=rfl
 simp only [e0]
 have hidl:=N0.lt _ _ g0
 have M0:=Nb.new N0.lt (.cells (rdc u ⟨0,0⟩) 3)
 have q0:(X.add (.cells (rdc u ⟨0,0⟩) 3)).get id=some (.cells [.s [],.sl none 0 0,.sl none 0 0,.sl none 0 0,.sl none 0 0,.sl none 0 0,.sl none 0 0] 7):=by rw [Hp.get_add,if_neg (by omega)];exact g0
 have hri:X.next≠id:=by omega
 generalize X.add (.cells (rdc u ⟨0,0⟩) 3)=X1 at *
 generalize hrid:X.next=rid at *
 have o1:=(y6d (rd0 u)).1
 apply jA
 simp [y8.r9]
 refine AC.fix (y80 (rd0 u) (by omega) M0.get) ?_
 have M1:=M0.upd (.cells (rdc u (y33 u ⟨0,0⟩).2) 3)
 have q1:(X1.upd rid (.cells (rdc u (y33 u ⟨0,0⟩).2) 3)).get id=some (.cells [.s [],.sl none 0 0,.sl none 0 0,.sl none 0 0,.sl none 0 0,.sl none 0 0,.sl none 0 0] 7):=by rw [Hp.get_upd,if_neg (by omega)];exact q0
 generalize X1.upd rid (.cells (rdc u (y33 u ⟨0,0⟩).2) 3)=X2 at *
 simp
 have m1:=M1.get
 simp only [rdc] at m1
 refine AX.seq (AX.mono (Q:=y8z.then (fun F Y=>F=[(2,.p (some (id,0,7))),(6,.p (some (rid,0,3)))]∧Nb X rid (.cells (rdc u (y9p u)) 3) Y∧Y.get id=some (.cells [.s [],.sl none 0 0,.sl none 0 0,.sl none 0 0,.sl none 0 0,.sl none 0 0,.sl none 0 0] 7)) fun _ _ _=>False) (jA ?_) ?_)
 ·by_cases h3:(y33 u ⟨0,0⟩).2.e=0
  ·by_cases h1:(y33 u ⟨0,0⟩).1=1
   ·have hv:y9p u=(y33 u ⟨0,0⟩).2:=by unfold y9p;rw [if_neg (by simp [h1])]
    simp [y8.r10,m1,h3,h1]
    refine jF rfl (AX.skip ?_)
    simp
    rw [hv];exact ⟨M1,q1⟩
   ·have hv:y9p u={ (y33 u ⟨0,0⟩).2 with e:=5 }:=by unfold y9p;rw [if_pos h1];unfold y6a;rw [if_pos h3]
    simp [y8.r10,m1,h3]
    refine jG (by simp;omega) (AX.reg ?_)
    simp [y8.r11,m1]
    rw [hv];exact ⟨M1.upd _,by simp [hri,Ne.symm hri,q1]⟩
  ·have hv:y9p u=(y33 u ⟨0,0⟩).2:=by
    unfold y9p
    split
    ·unfold y6a;rw [if_neg h3]
    ·rfl
   simp [y8.r10,m1,h3]
   refine jF rfl (AX.skip ?_)
   simp
   rw [hv];exact ⟨M1,q1⟩
 intro x F Y hx
 cases x with
 | exit k=>exact hx.elim
 | ret=>exact hx.elim
 | normal=>
 obtain ⟨rfl,M2,q2⟩:=hx
 simp only [y8z.then]
 clear M0 M1 q0 q1 m1 o1
 have o2:=ymg u
 have m2:=M2.get
 simp only [rdc] at m2
 have N2:∀{b:Blk} {Z:Hp},Nb X rid b Z→Z.get id=some (.cells [.s [],.sl none 0 0,.sl none 0 0,.sl none 0 0,.sl none 0 0,.sl none 0 0,.sl none 0 0] 7)→Nb H id (.cells [.s [],.sl none 0 0,.sl none 0 0,.sl none 0 0,.sl none 0 0,.sl none 0 0,.sl none 0 0] 7) Z:=fun M q=>⟨N0.ext.trans M.ext,M.lt,q,N0.hi,N0.hlt⟩
 apply jB
 simp [y8.r12,m2]
 by_cases h2:(y9p u).e=0
 case neg=>
  refine jG (by simp [h2]) (AX.seq (AX.drw ?_))
  simp [y8.r13,m2,q2,hri]
  apply jD
  simp
  refine ⟨((N2 M2 q2).upd _).ext,?_⟩
  have:ytb u=(su0,(y9p u).e):=by unfold ytb;rw [if_pos h2]
  rw [this]
  exact y8f yad
 refine jF (by simp [h2]) (AX.skip ?_)
 simp
 have hD2:ytb u=yq4 u (y6t u (y9p u)):=by unfold ytb;rw [if_neg (by simp [h2])]
 rw [hD2]
 apply jA
 simp [y8.r14]
 refine AC.fix (ysy o2 (by omega) M2.get) ?_
 have gp:=yk4 (t:=u) (σ:=y9p u) o2
 have M3:=M2.upd (.cells (rdc u (y6t u (y9p u)).2) 3)
 have q3:(Y.upd rid (.cells (rdc u (y6t u (y9p u)).2) 3)).get id=some (.cells [.s [],.sl none 0 0,.sl none 0 0,.sl none 0 0,.sl none 0 0,.sl none 0 0,.sl none 0 0] 7):=by rw [Hp.get_upd,if_neg (by omega)];exact q2
 generalize Y.upd rid (.cells (rdc u (y6t u (y9p u)).2) 3)=Z at *
 clear hD2
 generalize y6t u (y9p u)=l at *
 simp
 apply jB
 simp [y8.r15]
 by_cases h3:l.2.e=0
 case neg=>
  refine jG (by simp [h3]) (jA ?_)
  simp [y8.r16,q3]
  apply jD
  simp
  refine ⟨((N2 M3 q3).upd _).ext,?_⟩
  have:yq4 u l=(su0,l.2.e):=by unfold yq4;rw [if_pos h3]
  rw [this]
  exact y8f yad
 refine jF (by simp [h3]) (AX.skip ?_)
 simp
 obtain ⟨gb,hr,h1000,h6000,o3⟩:=gp h3
 have hpv:yo1 l=ss l.1:=by unfold yo1;rw [if_pos h3]
 rw [hpv]
 apply jA
 simp [y8.r17]
 refine AC.fix (ym4 o3 (by omega) M3.get) ?_
 have ot:=ygn (t:=u) (σ:=l.2) o3
 have M4:=M3.upd (.cells (rdc u (y6y u l.2).2) 3)
 have q4:(Z.upd rid (.cells (rdc u (y6y u l.2).2) 3)).get id=some (.cells [.s [],.sl none 0 0,.sl none 0 0,.sl none 0 0,.sl none 0 0,.sl none 0 0,.sl none 0 0] 7):=by rw [Hp.get_upd,if_neg (by omega)];exact q3
 generalize Z.upd rid (.cells (rdc u (y6y u l.2).2) 3)=W at *
 simp
 apply jA
 simp [y8.r18]
 refine AC.fix (ym5 M4.get) ?_
 simp
 apply jB
 simp [y8.r19]
 by_cases h5:y7y u (y6y u l.2).2=0
 case neg=>
  refine jG (by simp [h5]) (jA ?_)
  simp [y8.r20,q4]
  apply jD
  simp
  refine ⟨((N2 M4 q4).upd _).ext,?_⟩
  have:yq4 u l=(su0,y7y u (y6y u l.2).2):=by unfold yq4;rw [if_neg (by simp [h3]),if_pos h5]
  rw [this]
  exact y8f yad
 refine jF (by simp [h5]) (AX.skip ?_)
 simp
 have hD3:yq4 u l=decR l.1 (y6y u l.2).1:=by unfold yq4;rw [if_neg (by simp [h3]),if_neg (by simp [h5])]
 rw [hD3]
 clear hD3
 have hx:(y6y u l.2).1.length≤200000:=by omega
 generalize (y6y u l.2).1=x at *
 have N4:=N2 M4 q4
 clear N2 M4 M3 M2 m2 ot h5
 generalize l.1=l at *
 unfold decR
 apply jA
 simp [y8.r21]
 refine AC.fix (ysx l (by omega) x (by omega) _) ?_
 have hsz:=ymf hr h1000 (show x.length≤1000000 by omega)
 generalize yaq l x=S at *
 obtain ⟨s,f⟩:=S
 have hsa:setAll [V.s [],V.sl none 0 0,V.sl none 0 0,V.sl none 0 0,V.sl none 0 0,V.sl none 0 0,V.sl none 0 0] 0 (y61 s)=y61 s:=ydu (by simp [y61])
 have hcv:y7z (.agg (y61 s))=some (y61 s):=by simp [y61,ss]
 have hsl:(y61 s).length=7:=rfl
 have hsne:y61 s≠[]:=by simp [y61]
 simp [-y7z,hcv,hsl,hsne,ykr,hsa]
 simp only at hsz
 have E1:=N4.ext.trans (.add N4.lt (.cells (y61 s) 7))
 have L1:=Hp.add_lt N4.lt (.cells (y61 s) 7)
 have G1:(W.add (.cells (y61 s) 7)).get W.next=some (.cells (y61 s) 7):=by simp
 have hidl2:=N4.lt _ _ q4
 have Q1:(W.add (.cells (y61 s) 7)).get id=some (.cells [.s [],.sl none 0 0,.sl none 0 0,.sl none 0 0,.sl none 0 0,.sl none 0 0,.sl none 0 0] 7):=by rw [Hp.get_add,if_neg (by omega)];exact q4
 have N1:Nb H id (.cells [.s [],.sl none 0 0,.sl none 0 0,.sl none 0 0,.sl none 0 0,.sl none 0 0,.sl none 0 0] 7) (W.add (.cells (y61 s) 7)):=⟨E1,L1,Q1,N4.hi,N4.hlt⟩
 have hnn:W.next≠id:=by omega
 generalize W.add (.cells (y61 s) 7)=Y5 at *
 generalize W.next=sid at *
 by_cases h4:f=0
 case neg=>
  apply jB
  simp [y8.r22]
  refine jF (by simp [h4]) (AX.skip ?_)
  simp
  apply jB
  simp [y8.r24,h4]
  refine jF rfl (AX.skip ?_)
  simp
  apply jB
  simp [y8.r26]
  refine jG (by simp [h4]) (jA ?_)
  simp [y8.r27,Q1]
  apply jD
  simp
  refine ⟨(N1.upd _).ext,?_⟩
  exact y8f yad
 subst h4
 have hsz:=hsz rfl
 apply jB
 simp [y8.r22]
 refine jG rfl (AX.reg ?_)
 simp [y8.r23,G1]
 refine AC.fix (yp0 s hsz.1 _) ?_
 simp
 by_cases h5:suE s=0
 case neg=>
  apply jB
  simp [y8.r24,h5]
  refine jF rfl (AX.skip ?_)
  simp
  apply jB
  simp [y8.r26]
  refine jG (by simp [h5]) (jA ?_)
  simp [y8.r27,Q1]
  apply jD
  simp
  refine ⟨(N1.upd _).ext,?_⟩
  exact y8f yad
 simp [h5]
 apply jB
 simp [y8.r24,G1]
 refine AC.fix (yna s hsz.2 _) ?_
 simp
 have htl:=yjp (evS s)
 have htl2:=yni s
 have hz2:=hsz.2
 refine AC.fix (yn6 (y4u s) l (by show (y4u s).length≤9223372036854775807;omega) _) ?_
 simp
 by_cases h6:y4u s=l
 case neg=>
  rw [if_neg h6]
  refine jG (by simp [h6]) (AX.reg ?_)
  simp [y8.r25]
  apply jB
  simp [y8.r26]
  refine jG rfl (jA ?_)
  simp [y8.r27,Q1]
  apply jD
  simp
  refine ⟨(N1.upd _).ext,?_⟩
  exact y8f yad
 rw [if_pos h6]
 refine jF (by simp [h6]) (AX.skip ?_)
 simp
 apply jB
 simp [y8.r26]
 refine jF rfl (AX.skip ?_)
 simp
 apply jA
 have htk:(y61 s).take 7=y61 s:=rfl
 simp [-y7z,hcv,y8.r28,Q1,G1,hsl,hsa,hsne,htk]
 apply jD
 simp
 exact ⟨(N1.upd _).ext,.refl _⟩
noncomputable instance instCn : DecidableEq Cn := Classical.typeDecidableEq Cn
noncomputable instance instSy : DecidableEq Sy := Classical.typeDecidableEq Sy
noncomputable instance instSu : DecidableEq Su := Classical.typeDecidableEq Su
theorem fu_eq (a b:Fu):y8v [1,1,1] (y9n a) (y9n b)=some (decide (a=b)):=by
 obtain ⟨a1,a2,a3⟩:=a
 obtain ⟨b1,b2,b3⟩:=b
 simp only [y9n,y8v,ye9,Fu.mk.injEq,Bool.beq_eq_decide_eq,Bool.decide_and]
 cases decide (a1=b1) <;> cases decide (a2=b2) <;> cases decide (a3=b3) <;> rfl
theorem yw9 (x y:Str):ydl x y=0↔x=y:=by
 unfold ydl
 by_cases h:ltB x y=true
 ·rw [if_pos h]
  refine ⟨fun h=>(by cases h),fun e=>?_⟩
  subst e
  exact (yau _ h).elim
 ·rw [if_neg h]
  by_cases e:x=y
  ·simp [e]
  ·simp [e]
theorem cmpI_0 (x y:Int):yh4 x y=0↔x=y:=by
 unfold yh4
 split
 ·exact ⟨fun h=>(by cases h),fun e=>by omega⟩
 ·split
  ·rename_i h;simp [h]
  ·rename_i h;simp [h]
theorem cmpL_0:∀a b:List Str,ylv a b=0↔a=b
 | [],[]=>by simp [ylv,cmpN]
 | [],y::b=>by simp [ylv,cmpN]
 | x::a,[]=>by simp [ylv]
 | x::a,y::b=>by
  simp only [ylv]
  by_cases h:ydl x y=0
  ·rw [if_neg (by simp [h]),cmpL_0 a b,(yw9 x y).1 h];simp
  ·rw [if_pos h]
   refine ⟨fun e=>(h e).elim,fun e=>?_⟩
   injection e with e1 _
   exact (h ((yw9 x y).2 e1)).elim
theorem orI_0:∀l:List Int,orI l=0↔∀x∈l,x=0
 | []=>by simp [orI]
 | x::l=>by
  simp only [orI]
  by_cases h:x=0
  ·rw [if_neg (by simp [h]),orI_0 l];simp [h]
  ·rw [if_pos h];simp [h]
theorem ylw (a b:Cn):yjh a b=0↔a=b:=by
 obtain ⟨a1,a2,a3,a4,a5,a6⟩:=a
 obtain ⟨b1,b2,b3,b4,b5,b6⟩:=b
 unfold yjh
 rw [orI_0]
 simp [yw9,cmpI_0,cmpL_0]
def SoI0 (a b:Ob) (H:Hp) (m:Nat) (F:Fr) (X:Hp):Prop:=
 ∃k,k≤a.marks.length∧m=a.marks.length-k∧a.marks.take k=b.marks.take k∧X=H∧F=[(2,.fp (y62 a) 0),(3,.fp (y62 b) 0),(5,.i .i64 k)]
theorem yqn (a b:Ob) (ha:a.marks.length≤140737488355328) (hb:b.marks.length≤140737488355328) (H:Hp):AC Tryz.prog ybb [.agg (y62 a),.agg (y62 b)] H (fun v H'=>v=.b (decide (a=b))∧H'=H):=by
 refine AC.code y1j.at y1j.ok ?_
 simp only [y1j]
 apply jA
 simp [y1j.r0,y62]
 obtain ⟨w,hw⟩:∃w:Bool,w=decide (a.name≠b.name∨a.kinds≠b.kinds∨a.marks.length≠b.marks.length):=⟨_,rfl⟩
 refine AX.seq (AX.seq (AX.join (F1:=[(2,.fp (y62 a) 0),(3,.fp (y62 b) 0),(26,.b w)]) (H1:=H) (AX.reg ?_) ?_))
 ·by_cases h1:a.name=b.name
  ·by_cases h2:a.kinds=b.kinds
   ·simp [y1j.r1,y62,h1,h2,hw]
   ·have h2':(a.kinds == b.kinds)=false:=by simpa using h2
    simp [y1j.r1,y62,h1,h2',hw,h2]
  ·have h1':(a.name == b.name)=false:=by simpa using h1
   simp [y1j.r1,y62,h1',hw,h1]
 refine AX.pcond rfl (fun h1=>?_) (fun h1=>AX.skip ?_)
 ·subst h1
  have hw:=of_decide_eq_true hw.symm
  have:a≠b:=fun e=>by subst e;simp at hw
  apply jA
  simp [y1j.r2]
  apply jD
  simp [this]
 subst h1
 have hw:=of_decide_eq_false hw.symm
 have hw1:a.name=b.name:=ki fun h=>hw (.inl h)
 have hw2:a.kinds=b.kinds:=ki fun h=>hw (.inr (.inl h))
 have hw3:a.marks.length=b.marks.length:=ki fun h=>hw (.inr (.inr h))
 simp
 apply jB
 simp [y1j.r3]
 refine AX.pblock (AX.loop (SoI0 a b H) a.marks.length ⟨_,_,.refl _ _,0,by omega,by omega,by simp,rfl,by simp [y62]⟩ ?_)
 rintro m F Y ⟨k,hk,rfl,hf,rfl,rfl⟩
 simp only [y1j.l0]
 refine AX.seq (AX.seq (AX.join (F1:=[(2,.fp (y62 a) 0),(3,.fp (y62 b) 0),(5,.i .i64 k),(38,.b (decide (k<a.marks.length)))]) (H1:=Y) (AX.reg ?_) ?_))
 ·by_cases h1:k<a.marks.length
  ·have:k<b.marks.length:=by omega
   simp [y1j.r4,y62,h1,this]
  ·simp [y1j.r4,y62,h1]
 refine AX.pcond rfl (fun hd=>AX.skip ?_) (fun hd=>AX.exit ?_)
 ·simp at hd
  have hg:a.marks[k]?=some a.marks[k]:=kB hd
  have hd2:k<b.marks.length:=by omega
  have hg2:b.marks[k]?=some b.marks[k]:=kB hd2
  have e1:a.marks[k]=b.marks[k]→a.marks.take (k+1)=b.marks.take (k+1):=fun e=>by rw [kI,kI,hg,hg2,hf,e]
  have e2:a=b→a.marks[k]=b.marks[k]:=fun e=>by subst e;rfl
  generalize a.marks[k]=q1 at *
  generalize b.marks[k]=q2 at *
  simp
  refine AX.seq (AX.pblock (AX.seq (AX.drw ?_)))
  simp [y1j.r5,y62,hg,hg2,ycm,mk_eq]
  refine AX.pcond rfl (fun hb=>?_) (fun hb=>AX.skip ?_)
  ·simp at hb
   have:a≠b:=fun e=>hb (e2 e)
   apply jA
   simp [y1j.r6]
   apply jD
   simp [this]
  simp at hb
  simp
  apply jE
  simp [y1j.r7,y5p (i:=k) (by omega)]
  exact ⟨a.marks.length-(k+1),by omega,_,_,.refl _ _,k+1,by omega,rfl,e1 hb,rfl,by simp [y62]⟩
 simp at hd
 rw [kH hd,kH (by omega)] at hf
 have hab:a=b:=by
  obtain ⟨x1,x2,x3⟩:=a
  obtain ⟨y1,y2,y3⟩:=b
  simp at hw1 hw2 hf
  subst hw1;subst hw2;subst hf;rfl
 simp
 apply jA
 simp [y1j.r8]
 apply jD
 simp [hab]
def SsI0 (a b:Sy) (H:Hp) (m:Nat) (F:Fr) (X:Hp):Prop:=
 ∃k,k≤a.objs.length∧m=a.objs.length-k∧a.objs.take k=b.objs.take k∧X=H∧F=[(2,.fp (yaf a) 0),(3,.fp (yaf b) 0),(5,.i .i64 k)]
def SsI1 (a b:Sy) (H:Hp) (m:Nat) (F:Fr) (X:Hp):Prop:=
 ∃k,k≤a.fns.length∧m=a.fns.length-k∧a.fns.take k=b.fns.take k∧X=H∧F=[(2,.fp (yaf a) 0),(3,.fp (yaf b) 0),(6,.i .i64 k)]
def SsI2 (a b:Sy) (H:Hp) (m:Nat) (F:Fr) (X:Hp):Prop:=
 ∃k,k≤a.cons.length∧m=a.cons.length-k∧a.cons.take k=b.cons.take k∧X=H∧F=[(2,.fp (yaf a) 0),(3,.fp (yaf b) 0),(7,.i .i64 k)]
theorem yt0 (a b:Sy) (ha:syS a) (hb:syS b) (H:Hp):AC Tryz.prog yda [.agg (yaf a),.agg (yaf b)] H (fun v H'=>v=.b (decide (a=b))∧H'=H):=by
 obtain ⟨a1,a2,a3,ao,af,ac⟩:=ha
 obtain ⟨b1,b2,b3,bo,bf,bc⟩:=hb
 refine AC.code ym.at ym.ok ?_
 simp only [ym]
 apply jA
 simp [ym.r0,yaf]
 obtain ⟨w,hw⟩:∃w:Bool,w=decide (a.objs.length≠b.objs.length∨a.fns.length≠b.fns.length∨a.cons.length≠b.cons.length):=⟨_,rfl⟩
 refine AX.seq (AX.seq (AX.join (F1:=[(2,.fp (yaf a) 0),(3,.fp (yaf b) 0),(32,.b w)]) (H1:=H) (AX.reg ?_) ?_))
 ·by_cases h1:a.objs.length=b.objs.length
  ·by_cases h2:a.fns.length=b.fns.length
   ·simp [ym.r1,yaf,h1,h2,hw]
    try omega
   ·have h2':¬(a.fns.length:Int)=b.fns.length:=by omega
    simp [ym.r1,yaf,h1,h2',hw,h2]
  ·have h1':¬(a.objs.length:Int)=b.objs.length:=by omega
   simp [ym.r1,yaf,h1',hw,h1]
 refine AX.pcond rfl (fun h1=>?_) (fun h1=>AX.skip ?_)
 ·subst h1
  have hw:=of_decide_eq_true hw.symm
  have:a≠b:=fun e=>by subst e;simp at hw
  apply jA
  simp [ym.r2]
  apply jD
  simp [this]
 subst h1
 have hw:=of_decide_eq_false hw.symm
 have hw1:a.objs.length=b.objs.length:=ki fun h=>hw (.inl h)
 have hw2:a.fns.length=b.fns.length:=ki fun h=>hw (.inr (.inl h))
 have hw3:a.cons.length=b.cons.length:=ki fun h=>hw (.inr (.inr h))
 simp
 apply jB
 simp [ym.r3]
 refine AX.pblock (AX.loop (SsI0 a b H) a.objs.length ⟨_,_,.refl _ _,0,by omega,by omega,by simp,rfl,by simp [yaf]⟩ ?_)
 rintro m F Y0 ⟨k0,hk0,rfl,hf0,hY0,rfl⟩
 obtain rfl:=hY0.symm
 simp only [ym.l0]
 apply jB
 simp [ym.r4,yaf]
 refine AX.pcond rfl (fun hd=>AX.skip ?_) (fun hd=>AX.exit ?_)
 ·simp at hd
  have hg:a.objs[k0]?=some a.objs[k0]:=kB hd
  have hd2:k0<b.objs.length:=by omega
  have hg2:b.objs[k0]?=some b.objs[k0]:=kB hd2
  have e1:a.objs[k0]=b.objs[k0]→a.objs.take (k0+1)=b.objs.take (k0+1):=fun e=>by rw [kI,kI,hg,hg2,hf0,e]
  have e2:a=b→a.objs[k0]=b.objs[k0]:=fun e=>by subst e;rfl
  have s1:=ao _ (kK hd)
  have s2:=bo _ (kK hd2)
  generalize a.objs[k0]=q1 at *
  generalize b.objs[k0]=q2 at *
  simp
  refine AX.seq (AX.pblock (AX.seq (AX.drw ?_)))
  have hob1:(y62 q1).length=3:=rfl
  have hob2:(y62 q2).length=3:=rfl
  have ht1:(y62 q1).take 3=y62 q1:=rfl
  have ht2:(y62 q2).take 3=y62 q2:=rfl
  simp [ym.r5,yaf,hg,hg2,hob1,hob2,ht1,ht2]
  refine y5c _ (fun H2=>yqn q1 q2 s1.2.2.1 s2.2.2.1 H2) ?_
  simp
  refine AX.pcond rfl (fun hb=>?_) (fun hb=>AX.skip ?_)
  ·simp [ylw] at hb
   have:a≠b:=fun e=>hb (e2 e)
   apply jA
   simp [ym.r6]
   apply jD
   simp [this]
  simp [ylw] at hb
  simp
  apply jE
  simp [ym.r7,y5p (i:=k0) (by omega)]
  exact ⟨a.objs.length-(k0+1),by omega,_,_,.refl _ _,k0+1,by omega,rfl,e1 hb,rfl,by simp [yaf]⟩
 simp at hd
 rw [kH hd,kH (by omega)] at hf0
 simp
 apply jB
 simp [ym.r8]
 refine AX.pblock (AX.loop (SsI1 a b H) a.fns.length ⟨_,_,.refl _ _,0,by omega,by omega,by simp,rfl,by simp [yaf]⟩ ?_)
 rintro m F Y1 ⟨k1,hk1,rfl,hf1,hY1,rfl⟩
 obtain rfl:=hY1.symm
 simp only [ym.l1]
 apply jB
 simp [ym.r9,yaf]
 refine AX.pcond rfl (fun hd=>AX.skip ?_) (fun hd=>AX.exit ?_)
 ·simp at hd
  have hg:a.fns[k1]?=some a.fns[k1]:=kB hd
  have hd2:k1<b.fns.length:=by omega
  have hg2:b.fns[k1]?=some b.fns[k1]:=kB hd2
  have e1:a.fns[k1]=b.fns[k1]→a.fns.take (k1+1)=b.fns.take (k1+1):=fun e=>by rw [kI,kI,hg,hg2,hf1,e]
  have e2:a=b→a.fns[k1]=b.fns[k1]:=fun e=>by subst e;rfl
  have s1:=af _ (kK hd)
  have s2:=bf _ (kK hd2)
  generalize a.fns[k1]=q1 at *
  generalize b.fns[k1]=q2 at *
  simp
  refine AX.seq (AX.pblock (AX.seq (AX.drw ?_)))
  have hfq:=fu_eq q1 q2
  have hob1:(y9n q1).length=3:=rfl
  have hob2:(y9n q2).length=3:=rfl
  have ht1:(y9n q1).take 3=y9n q1:=rfl
  have ht2:(y9n q2).take 3=y9n q2:=rfl
  simp [ym.r10,yaf,hg,hg2,hob1,hob2,ht1,ht2,hfq]
  refine AX.pcond rfl (fun hb=>?_) (fun hb=>AX.skip ?_)
  ·simp [ylw] at hb
   have:a≠b:=fun e=>hb (e2 e)
   apply jA
   simp [ym.r11]
   apply jD
   simp [this]
  simp [ylw] at hb
  simp
  apply jE
  simp [ym.r12,y5p (i:=k1) (by omega)]
  exact ⟨a.fns.length-(k1+1),by omega,_,_,.refl _ _,k1+1,by omega,rfl,e1 hb,rfl,by simp [yaf]⟩
 simp at hd
 rw [kH hd,kH (by omega)] at hf1
 simp
 apply jB
 simp [ym.r13]
 refine AX.pblock (AX.loop (SsI2 a b H) a.cons.length ⟨_,_,.refl _ _,0,by omega,by omega,by simp,rfl,by simp [yaf]⟩ ?_)
 rintro m F Y2 ⟨k2,hk2,rfl,hf2,hY2,rfl⟩
 obtain rfl:=hY2.symm
 simp only [ym.l2]
 apply jB
 simp [ym.r14,yaf]
 refine AX.pcond rfl (fun hd=>AX.skip ?_) (fun hd=>AX.exit ?_)
 ·simp at hd
  have hg:a.cons[k2]?=some a.cons[k2]:=kB hd
  have hd2:k2<b.cons.length:=by omega
  have hg2:b.cons[k2]?=some b.cons[k2]:=kB hd2
  have e1:a.cons[k2]=b.cons[k2]→a.cons.take (k2+1)=b.cons.take (k2+1):=fun e=>by rw [kI,kI,hg,hg2,hf2,e]
  have e2:a=b→a.cons[k2]=b.cons[k2]:=fun e=>by subst e;rfl
  have s1:=ac _ (kK hd)
  have s2:=bc _ (kK hd2)
  generalize a.cons[k2]=q1 at *
  generalize b.cons[k2]=q2 at *
  simp
  refine AX.seq (AX.pblock (AX.seq (AX.drw ?_)))
  have hob1:(y6i q1).length=6:=rfl
  have hob2:(y6i q2).length=6:=rfl
  have ht1:(y6i q1).take 6=y6i q1:=rfl
  have ht2:(y6i q2).take 6=y6i q2:=rfl
  simp [ym.r15,yaf,hg,hg2,hob1,hob2,ht1,ht2]
  refine y5c _ (fun H2=>ykv q1 q2 s1.2.2.2.1 (kU s2.2.2.2.1 (by decide)) H2) ?_
  simp
  refine AX.pcond rfl (fun hb=>?_) (fun hb=>AX.skip ?_)
  ·simp [ylw] at hb
   have:a≠b:=fun e=>hb (e2 e)
   apply jA
   simp [ym.r16]
   apply jD
   simp [this]
  simp [ylw] at hb
  simp
  apply jE
  simp [ym.r17,y5p (i:=k2) (by omega)]
  exact ⟨a.cons.length-(k2+1),by omega,_,_,.refl _ _,k2+1,by omega,rfl,e1 hb,rfl,by simp [yaf]⟩
 simp at hd
 rw [kH hd,kH (by omega)] at hf2
 simp
 have hab:a=b:=by
  obtain ⟨x1,x2,x3⟩:=a
  obtain ⟨y1,y2,y3⟩:=b
  simp at hf0 hf1 hf2
  subst hf0;subst hf1;subst hf2;rfl
 apply jA
 simp [ym.r18]
 apply jD
 simp [hab]
theorem ysz (a b:Su) (ha:suS a) (hb:suS b) (H:Hp):AC Tryz.prog yd8 [.agg (y61 a),.agg (y61 b)] H (fun v H'=>v=.b (decide (a=b))∧H'=H):=by
 obtain ⟨a1,a2,a3,a4,a5,a6⟩:=ha
 obtain ⟨b1,b2,b3,b4,b5,b6⟩:=hb
 have hs:=fun H2=>yt0 a.sys b.sys a6 b6 H2
 simp only [yaf] at hs
 obtain ⟨an,ag,aw,ak,ays⟩:=a
 obtain ⟨bn,bg,bw,bk,bys⟩:=b
 simp only at *
 refine AC.code y5b.at y5b.ok ?_
 simp only [y5b]
 apply jA
 simp [y5b.r0,y61]
 apply jA
 by_cases h1:an=bn
 case neg=>
  have h1':(an == bn)=false:=by simpa using h1
  simp [y5b.r1,h1',h1]
  apply jD
  simp
 subst h1
 simp [y5b.r1]
 refine AC.fix (yn6 ag bg (by show ag.length≤9223372036854775807;omega) H) ?_
 by_cases h2:ag=bg
 case neg=>
  simp [h2]
  apply jD
  simp
 subst h2
 simp
 refine AC.fix (yn6 aw bw (by show aw.length≤9223372036854775807;omega) H) ?_
 by_cases h3:aw=bw
 case neg=>
  simp [h3]
  apply jD
  simp
 subst h3
 simp
 refine AC.fix (yn6 ak bk (by show ak.length≤9223372036854775807;omega) H) ?_
 by_cases h4:ak=bk
 case neg=>
  simp [h4]
  apply jD
  simp
 subst h4
 simp
 refine AC.fix (hs H) ?_
 simp
 apply jD
 simp
theorem yu9 (s:Su):setAll [V.s [],V.sl none 0 0,V.sl none 0 0,V.sl none 0 0,V.sl none 0 0,V.sl none 0 0,V.sl none 0 0] 0 (y61 s)=y61 s:=ydu (by simp [y61])
theorem su_cv (s:Su):y7z (.agg (y61 s))=some (y61 s):=by simp [y61,ss]
theorem yua (s:Su):(y61 s).length=7:=rfl
theorem su_ne (s:Su):y61 s≠[]:=by simp [y61]
theorem su_take (s:Su):(y61 s).take 7=y61 s:=rfl
theorem ys5 (H:Hp):AC Tryz.prog ych [] H (fun v H'=>v=.b true∧H'=H):=by
 refine AC.codeP y3r.at y3r.ok (yls _) fun hlt=>?_
 simp only [y3r]
 apply jA
 simp [y3r.r0]
 apply jA
 simp [y3r.r1]
 refine AC.fix (yxa suA suA_h.1 H) ?_
 simp
 obtain ⟨h1,h2,h3⟩:=suA_enc
 have hd:=dec_ful suA_h h1
 rw [h1]
 generalize (yms suA).1=b at *
 apply jA
 simp [y3r.r2]
 refine AC.fix (ym3 b (by omega) H) ?_
 rw [hd]
 simp [-y7z,su_cv,yua,su_ne,ykr,yu9]
 apply jA
 have hb:(b.length:Int)=20:=by omega
 simp [y3r.r3,h2,h3,hb,y61,suA]
 apply jD
 simp
 exact ⟨.add hlt _,.refl _⟩
theorem dec_size (b:Str):suS (yhk b).1:=by
 by_cases h:(yhk b).2=0
 ·exact (dec_got h).2.1.1
 ·rw [decE_no h]
  exact ⟨by simp [su0],by simp [su0],by simp [su0],by simp [su0],by simp [su0],by simp [su0],by simp [su0],by simp [su0],by simp [su0],by simp [su0],by simp [su0]⟩
theorem yiu (b:Str) (hb:b.length≤140737488351232) (H:Hp):AC Tryz.prog y8k [.s b] H (fun v H'=>v=.b true∧H'=H):=by
 refine AC.codeP y1c.at y1c.ok (yls _) fun hlt=>?_
 simp only [y1c]
 apply jA
 simp [y1c.r0]
 obtain ⟨w,hw⟩:∃w:Bool,w=(decide (8000<b.length)&&decide (b.length≤200000)):=⟨_,rfl⟩
 refine AX.seq (AX.seq (AX.join (F1:=[(0,.s b),(18,.b w)]) (H1:=H) (AX.reg ?_) ?_))
 ·by_cases h1:8000<b.length
  ·have h1':(8000:Int)<b.length:=by omega
   simp [y1c.r1,h1',h1,hw]
  ·have h1':¬(8000:Int)<b.length:=by omega
   simp [y1c.r1,h1',h1,hw]
 cases w with
 | true=>
  refine jG rfl (jA ?_)
  simp [y1c.r2]
  apply jD
  simp
  exact ⟨.refl _,.refl _⟩
 | false=>
 refine jF rfl (AX.skip ?_)
 simp
 apply jA
 simp [y1c.r3]
 refine AC.fix (ym3 b (by omega) H) ?_
 have hz:=dec_size b
 obtain ⟨D,hD⟩:∃D,D=yhk b:=⟨_,rfl⟩
 rw [←hD] at hz ⊢
 obtain ⟨s,f⟩:=D
 simp [-y7z,su_cv,yua,su_ne,ykr,yu9]
 have N1:=Nb.new hlt (.cells (y61 s) 7)
 generalize H.add (.cells (y61 s) 7)=X at *
 generalize hid:H.next=i1 at *
 apply jA
 simp [y1c.r4]
 refine AC.fix (yp1 b (by omega) X) ?_
 rw [←hD]
 simp [-y7z,su_cv,yua,su_ne,ykr,yu9]
 have N2:=Nb.new N1.lt (.cells (y61 s) 7)
 have hi:=N1.lt _ _ N1.get
 have g1:(X.add (.cells (y61 s) 7)).get i1=some (.cells (y61 s) 7):=by rw [Hp.get_add,if_neg (by omega)];exact N1.get
 generalize X.add (.cells (y61 s) 7)=Y at *
 generalize X.next=i2 at *
 have g2:=N2.get
 apply jA
 simp [y1c.r5]
 refine AC.fix (yqj b hb Y) ?_
 simp
 apply jA
 simp [y1c.r6]
 refine AC.fix (yqm b hb Y) ?_
 simp
 apply jA
 simp [y1c.r7,g1,g2,su_take]
 refine AC.fix (ysz s s hz hz Y) ?_
 simp
 refine AC.fix (ys5 Y) ?_
 simp
 apply jD
 simp
 exact ⟨N1.ext.trans N2.ext,.refl _⟩
end Go.Proofs.YthmkcebbeehbeaaGreatDoor
