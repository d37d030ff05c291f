/- Part 46. -/
import Derived.Test.YthmkcebbeehbeaaGreatDoorXGw29
import Derived.Test.YthmkcebbeehbeaaGreatDoorXGw33
import Derived.Test.YthmkcebbeehbeaaGreatDoorXGw35
import Derived.Test.YthmkcebbeehbeaaGreatDoorXGw38
import Derived.Test.YthmkcebbeehbeaaGreatDoorXGw39
import Derived.Test.YthmkcebbeehbeaaGreatDoorXGw42
import Derived.Test.YthmkcebbeehbeaaGreatDoorXGw44
import Derived.Test.YthmkcebbeehbeaaGreatDoorXGw45
set_option linter.unusedSimpArgs false
set_option linter.unusedVariables false
namespace Go.Proofs.YthmkcebbeehbeaaGreatDoor
open Am C
def ThI0 (s:Sy) (n:Str) (H:Hp) (m:Nat) (F:Fr) (X:Hp):Prop:=
 ∃i,i≤s.objs.length∧m=s.objs.length-i∧(s.objs.take i).any (fun o=>decide (o.name=n))=false∧X=H∧F=[(1,.s n),(2,.fp (yaf s) 0),(5,.i .i64 i)]
def ThI1 (s:Sy) (n:Str) (H:Hp) (m:Nat) (F:Fr) (X:Hp):Prop:=
 ∃i,i≤s.fns.length∧m=s.fns.length-i∧(s.fns.take i).any (fun o=>decide (o.name=n))=false∧X=H∧F=[(1,.s n),(2,.fp (yaf s) 0),(6,.i .i64 i)]
theorem yn2 {α:Type} {p:α→Bool} {l:List α} {i:Nat} (h:i<l.length) (hn:(l.take i).any p=false):(l.take (i+1)).any p=p l[i]:=by
 rw [kI,kB h,List.any_append,hn];simp
theorem ywm {α:Type} {p:α→Bool} {l:List α} {i:Nat} (h:i<l.length) (hp:p l[i]=true):l.any p=true:=List.any_eq_true.2 ⟨_,kK h,hp⟩
theorem ywv (s:Sy) (n:Str) (h1:s.objs.length≤1000000) (h2:s.fns.length≤1000000) (H:Hp):AC Tryz.prog ycb [.agg (yaf s),.s n] H (fun v H'=>v=.b (yhq s n)∧H'=H):=by
 refine AC.code y1e.at y1e.ok ?_
 simp only [y1e]
 apply jA
 simp [y1e.r0,yaf]
 apply jB
 simp [y1e.r1]
 refine AX.pblock (AX.loop (ThI0 s n H) s.objs.length ⟨_,_,.refl _ _,0,by omega,by omega,by simp,rfl,by simp [yaf]⟩ ?_)
 rintro m F X ⟨i,hi,rfl,hx,rfl,rfl⟩
 simp only [y1e.l0]
 apply jB
 simp [y1e.r2,yaf]
 refine AX.pcond rfl (fun hd=>AX.skip ?_) (fun hd=>AX.exit ?_)
 ·simp at hd
  have hg:s.objs[i]?=some s.objs[i]:=kB hd
  have e1:=yn2 (p:=fun o:Ob=>decide (o.name=n)) hd hx
  have e2:=ywm (p:=fun o:Ob=>decide (o.name=n)) hd
  generalize s.objs[i]=o at *
  simp
  apply jC
  simp [y1e.r3,hg,y62]
  refine AX.pcond rfl (fun hb=>?_) (fun hb=>AX.skip ?_)
  ·apply jA
   simp [y1e.r4]
   apply jD
   simp [yhq,e2 hb]
  simp
  apply jE
  simp [y1e.r5,y5p (i:=i) (by omega)]
  exact ⟨s.objs.length-(i+1),by omega,_,_,.refl _ _,i+1,by omega,rfl,e1.trans hb,rfl,by simp [yaf]⟩
 simp at hd
 rw [kH hd] at hx
 simp
 apply jB
 simp [y1e.r6]
 refine AX.pblock (AX.loop (ThI1 s n X) s.fns.length ⟨_,_,.refl _ _,0,by omega,by omega,by simp,rfl,by simp [yaf]⟩ ?_)
 rintro m F X2 ⟨k,hk,rfl,hy,rfl,rfl⟩
 simp only [y1e.l1]
 apply jB
 simp [y1e.r7,yaf]
 refine AX.pcond rfl (fun he=>AX.skip ?_) (fun he=>AX.exit ?_)
 ·simp at he
  have hg:s.fns[k]?=some s.fns[k]:=kB he
  have e1:=yn2 (p:=fun o:Fu=>decide (o.name=n)) he hy
  have e2:=ywm (p:=fun o:Fu=>decide (o.name=n)) he
  generalize s.fns[k]=o at *
  simp
  apply jC
  simp [y1e.r8,hg,y9n]
  refine AX.pcond rfl (fun hb=>?_) (fun hb=>AX.skip ?_)
  ·apply jA
   simp [y1e.r9]
   apply jD
   simp [yhq,e2 hb]
  simp
  apply jE
  simp [y1e.r10,y5p (i:=k) (by omega)]
  exact ⟨s.fns.length-(k+1),by omega,_,_,.refl _ _,k+1,by omega,rfl,e1.trans hb,rfl,by simp [yaf]⟩
 simp at he
 rw [kH he] at hy
 simp
 apply jA
 simp [y1e.r11]
 apply jD
 simp only [yhq,hx,hy]
 simp
def RckI0 (s:Su) (X:Hp) (m:Nat) (F:Fr) (Y:Hp):Prop:=
 ∃i,i≤2∧m=2-i∧(0<i→yif s.sys s.gives=0)∧(1<i→yif s.sys s.wants=0)∧Y=X∧F=[(1,.fp (y61 s) 0),(4,.i .i64 i)]
def RckI1 (s:Su) (l:List Str) (i:Nat) (X:Hp) (m:Nat) (F:Fr) (Y:Hp):Prop:=
 ∃k,k≤l.length∧m=l.length-k∧(l.take k).all (yhq s.sys)=true∧Y=X∧F=[(1,.fp (y61 s) 0),(4,.i .i64 i),(5,ss l),(6,.i .i64 k)]
def RckI2 (s:Su) (X:Hp) (m:Nat) (F:Fr) (Y:Hp):Prop:=
 ∃k,k≤s.gives.length∧m=s.gives.length-k∧(s.gives.take k).any (fun n=>decide (n∈s.wants))=false∧Y=X∧F=[(1,.fp (y61 s) 0),(7,.i .i64 k)]
def RckI3 (s:Su) (X:Hp) (m:Nat) (F:Fr) (Y:Hp):Prop:=
 ∃k,k≤s.keeps.length∧m=s.keeps.length-k∧(s.keeps.take k).all yay=true∧Y=X∧F=[(1,.fp (y61 s) 0),(8,.i .i64 k)]
theorem ys1 {α:Type} {p:α→Bool} {l:List α} {i:Nat} (h:i<l.length) (hn:(l.take i).all p=true):(l.take (i+1)).all p=p l[i]:=by
 rw [kI,kB h,List.all_append,hn];simp
theorem all_no {α:Type} {p:α→Bool} {l:List α} {i:Nat} (h:i<l.length) (hp:p l[i]=false):l.all p=false:=by
 cases hh:l.all p with
 | false=>rfl
 | true=>have:=List.all_eq_true.1 hh _ (kK h);rw [hp] at this;cases this
theorem num_mem (l:List Str) (x:Str):decide (0≤yka l x)=decide (x∈l):=by
 have:=@yej l x
 by_cases h:x∈l
 ·have h2:¬yka l x<0:=fun e=>this.1 e h
  simp [h];omega
 ·have h2:=this.2 h
  simp [h];omega
set_option maxHeartbeats 1000000 in
theorem yp0 (s:Su) (hs:suS s) (H:Hp):AC Tryz.prog ycc [.agg (y61 s)] H (fun v H'=>v=.i .i64 (suE s)∧H'=H):=by
 obtain ⟨q1,q2,q3,q4,q5,q6⟩:=hs
 have q7:=q6.1
 have q8:=q6.2.1
 refine AC.code y7.at y7.ok ?_
 simp only [y7]
 apply jA
 simp [y7.r0,y61]
 apply jB
 simp [y7.r1]
 refine AC.fix (yn9 s.name (by omega) _) ?_
 simp
 refine AX.pcond rfl (fun h1=>?_) (fun h1=>AX.skip ?_)
 ·simp at h1
  apply jA
  simp [y7.r2]
  apply jD
  simp [suE,h1]
 simp at h1
 simp
 apply jA
 simp [y7.r3]
 refine AC.fix (yx0 s.sys q6 _) ?_
 simp
 apply jB
 simp [y7.r4]
 refine AX.pcond rfl (fun h2=>?_) (fun h2=>AX.skip ?_)
 ·simp at h2
  apply jA
  simp [y7.r5]
  apply jD
  simp [suE,h1,orI,h2]
 simp at h2
 simp
 apply jB
 simp [y7.r6]
 refine AX.pblock (AX.loop (RckI0 s H) 2 ⟨_,_,.refl _ _,0,by omega,by omega,by simp,by simp,rfl,by simp [y61]⟩ ?_)
 rintro m F X ⟨i,hi,rfl,hg,hw,rfl,rfl⟩
 simp only [y7.l0]
 apply jB
 simp [y7.r7]
 refine AX.pcond rfl (fun hd=>AX.skip ?_) (fun hd=>AX.exit ?_)
 ·simp at hd
  obtain ⟨l,hl,hll,hle⟩:∃l:List Str,[[ss s.gives],[ss s.wants]][i]?=some [ss l]∧l.length≤140737488355328∧(yif s.sys l≠0→suE s=yif s.sys l)∧(yif s.sys l=0→(0<i+1→yif s.sys s.gives=0)∧(1<i+1→yif s.sys s.wants=0)):=by
   match i,hd with
   | 0,_=>exact ⟨s.gives,rfl,q2,fun h=>by simp [suE,h1,orI,h2,h],fun h=>⟨fun _=>h,fun h=>by omega⟩⟩
   | 1,_=>exact ⟨s.wants,rfl,q3,fun h=>by simp [suE,h1,orI,h2,h,hg (by omega)],fun h=>⟨fun _=>hg (by omega),fun _=>h⟩⟩
  simp
  apply jC
  simp [y7.r8,y61,ydi,show List.range 2=[0,1] from rfl,hl]
  apply jB
  simp [y7.r9]
  refine AC.fix (ylg l (by omega) _) ?_
  simp
  refine AX.pcond rfl (fun h3=>?_) (fun h3=>AX.skip ?_)
  ·simp at h3
   apply jA
   simp [y7.r10]
   apply jD
   have:yif s.sys l=13:=by simp [yif,h3]
   simp [hle.1 (by rw [this];decide),this]
  simp at h3
  simp
  apply jA
  simp [y7.r11]
  refine AX.pblock (AX.loop (RckI1 s l i X) l.length ⟨_,_,.refl _ _,0,by omega,by omega,by simp,rfl,by simp [y61]⟩ ?_)
  rintro m F Y ⟨k,hk,rfl,ha,rfl,rfl⟩
  simp only [y7.l1]
  apply jB
  simp [y7.r12,ss]
  refine AX.pcond rfl (fun he=>AX.skip ?_) (fun he=>AX.exit ?_)
  ·simp at he
   have ht:=ywv s.sys l[k] q7 q8
   have e1:=ys1 (p:=yhq s.sys) he ha
   have e2:=all_no (p:=yhq s.sys) he
   have hg2:l[k]?=some l[k]:=kB he
   generalize l[k]=n at *
   simp
   refine AX.seq (AX.pblock (AX.seq (AX.drw ?_)))
   simp [y7.r13,y61,ss,hg2]
   refine y5c _ (fun H2=>ht H2) ?_
   simp
   refine AX.pcond rfl (fun hb=>?_) (fun hb=>AX.skip ?_)
   ·simp at hb
    apply jA
    simp [y7.r14]
    apply jD
    have:yif s.sys l=7:=by simp only [yif,h3,e2 hb];rfl
    simp [hle.1 (by rw [this];decide),this]
   simp at hb
   simp
   apply jE
   simp [y7.r15,y5p (i:=k) (by omega)]
   exact ⟨l.length-(k+1),by omega,_,_,.refl _ _,k+1,by omega,rfl,e1.trans hb,rfl,by simp [y61,ss]⟩
  simp at he
  rw [kH he] at ha
  have h0:yif s.sys l=0:=by simp only [yif,h3,ha];rfl
  obtain ⟨n1,n2⟩:=hle.2 h0
  simp
  apply jE
  simp [y7.r16,y5p (i:=i) (by omega)]
  exact ⟨2-(i+1),by omega,_,_,.refl _ _,i+1,by omega,rfl,n1,n2,rfl,by simp [y61]⟩
 simp at hd
 have hg:=hg (by omega)
 have hw:=hw (by omega)
 simp
 apply jB
 simp [y7.r17]
 refine AX.pblock (AX.loop (RckI2 s X) s.gives.length ⟨_,_,.refl _ _,0,by omega,by omega,by simp,rfl,by simp [y61]⟩ ?_)
 rintro m F Y ⟨k,hk,rfl,hx,rfl,rfl⟩
 simp only [y7.l2]
 apply jB
 simp [y7.r18,y61,ss]
 refine AX.pcond rfl (fun he=>AX.skip ?_) (fun he=>AX.exit ?_)
 ·simp at he
  have ht:=yp3 s.wants s.gives[k] (by show s.wants.length≤9223372036854775807;omega)
  have e1:=yn2 (p:=fun n=>decide (n∈s.wants)) he hx
  have e2:=ywm (p:=fun n=>decide (n∈s.wants)) he
  have hg2:s.gives[k]?=some s.gives[k]:=kB he
  generalize s.gives[k]=n at *
  simp
  refine AX.seq (AX.pblock (AX.seq (AX.drw ?_)))
  simp [y7.r19,y61,ss,hg2]
  refine y5c _ (fun H2=>ht H2) ?_
  simp [num_mem]
  refine AX.pcond rfl (fun hb=>?_) (fun hb=>AX.skip ?_)
  ·have e3:=e2 hb
   apply jA
   simp [y7.r20]
   apply jD
   simp only [suE,e3]
   simp [h1,orI,h2,hg,hw]
  simp
  apply jE
  simp [y7.r21,y5p (i:=k) (by omega)]
  exact ⟨s.gives.length-(k+1),by omega,_,_,.refl _ _,k+1,by omega,rfl,e1.trans hb,rfl,by simp [y61,ss]⟩
 simp at he
 rw [kH he] at hx
 simp
 apply jB
 simp [y7.r22,y61,ss]
 refine AX.pcond rfl (fun h6=>?_) (fun h6=>AX.skip ?_)
 ·simp at h6
  apply jA
  simp [y7.r23]
  apply jD
  simp only [suE,hx]
  simp [h1,orI,h2,hg,hw,h6]
 simp at h6
 simp
 apply jB
 simp [y7.r24,y61]
 refine AC.fix (ylg s.keeps (by omega) _) ?_
 simp
 refine AX.pcond rfl (fun h7=>?_) (fun h7=>AX.skip ?_)
 ·simp at h7
  apply jA
  simp [y7.r25]
  apply jD
  simp only [suE,hx]
  simp [h1,orI,h2,hg,hw,h7,show ¬6000<s.keeps.length by omega]
 simp at h7
 simp
 apply jB
 simp [y7.r26]
 refine AX.pblock (AX.loop (RckI3 s Y) s.keeps.length ⟨_,_,.refl _ _,0,by omega,by omega,by simp,rfl,by simp [y61,ss]⟩ ?_)
 rintro m F Z ⟨j,hj,rfl,hy,rfl,rfl⟩
 simp only [y7.l3]
 apply jB
 simp [y7.r27,y61,ss]
 refine AX.pcond rfl (fun he=>AX.skip ?_) (fun he=>AX.exit ?_)
 ·simp at he
  have ht:=yib s.keeps[j] (by have:=q5 _ (kK he);omega)
  have e1:=ys1 (p:=yay) he hy
  have e2:=all_no (p:=yay) he
  have hg2:s.keeps[j]?=some s.keeps[j]:=kB he
  generalize s.keeps[j]=n at *
  simp
  apply jC
  simp [y7.r28,y61,ss,hg2]
  refine AC.fix (ht _) ?_
  simp
  refine AX.pcond rfl (fun hb=>?_) (fun hb=>AX.skip ?_)
  ·simp at hb
   have e3:=e2 hb
   apply jA
   simp [y7.r29]
   apply jD
   simp only [suE,hx,e3]
   simp [h1,orI,h2,hg,hw,h7,show ¬6000<s.keeps.length by omega]
  simp at hb
  simp
  apply jE
  simp [y7.r30,y5p (i:=j) (by omega)]
  exact ⟨s.keeps.length-(j+1),by omega,_,_,.refl _ _,j+1,by omega,rfl,e1.trans hb,rfl,by simp [y61,ss]⟩
 simp at he
 rw [kH he] at hy
 simp
 apply jA
 simp [y7.r31]
 apply jD
 simp only [suE,hx,hy]
 simp [h1,orI,h2,hg,hw,h7,show ¬6000<s.keeps.length by omega]
theorem ykr (H:Hp) (cs ds:List V) (m:Nat):(H.add (.cells cs m)).upd H.next (.cells ds m)=H.add (.cells ds m):=by
 refine Hp.ext' (fun j=>?_) rfl
 simp only [Hp.get_upd,Hp.get_add]
 split <;> rfl
theorem yik:∀(b a:List Str),y51 a→y51 b→(∀x∈a,x∈b)→a.length≤b.length∧(a.length=b.length→a=b)
 | [],a,_,_,h=>by
  cases a with
  | nil=>simp
  | cons x r=>have:=h x (by simp);cases this
 | y::b,[],_,_,_=>by simp
 | y::b,x::a,ha,hb,h=>by
  simp only [y51,kg] at ha hb
  by_cases e:x=y
  ·subst e
   have:=yik b a ha.2 hb.2 (fun z hz=>by
    rcases List.mem_cons.1 (h z (by simp [hz])) with rfl | h
    ·exact (yau _ (ha.1 _ hz)).elim
    ·exact h)
   simp only [kN]
   exact ⟨by omega,fun e=>by rw [this.2 (by omega)]⟩
  ·have hx:x∈b:=by
    rcases List.mem_cons.1 (h x (by simp)) with h | h
    ·exact (e h).elim
    ·exact h
   have hyx:=hb.1 x hx
   have:=yik b (x::a) (by simp only [y51,kg];exact ha) hb.2 (fun z hz=>by
    rcases List.mem_cons.1 (h z hz) with rfl | h
    ·rcases List.mem_cons.1 hz with rfl | hz
     ·exact (e rfl).elim
     ·exact (yau _ (yg6 hyx (ha.1 _ hz))).elim
    ·exact h)
   simp only [kN] at this ⊢
   exact ⟨by omega,fun e=>by omega⟩
theorem texts_of {l:List Str} {x:Str} (hr:y51 l) (h:(yaq l x).2=0):(y4u (yaq l x).1=l↔(y4u (yaq l x).1).length=l.length):=by
 have hok:=(ypk hr h).2
 have:=yik l (y4u (yaq l x).1) (yaw _) hr (fun t ht=>hok (.txt t) (yjo.2 (yfp.1 ht)))
 exact ⟨fun e=>by rw [e],this.2⟩
set_option maxHeartbeats 1000000 in
theorem ym3 (b:Str) (hb:b.length≤140737488351232) (H:Hp):AC Tryz.prog yb4 [.s b] H (fun v H'=>v=.tup [.agg (y61 (yhk b).1),.i .i64 (yhk b).2]∧H'=H):=by
 refine AC.codeP yu.at yu.ok (yc1 (by simp [yct (yhr _)])) fun hlt=>?_
 have hR:∀D,yhk b=D→∃D,yhk b=D:=fun D h=>⟨D,h⟩
 simp only [yu]
 apply jA
 simp [yu.r0]
 have N0:=Nb.new hlt (.cells [.s [],.sl none 0 0,.sl none 0 0,.sl none 0 0,.sl none 0 0,.sl none 0 0,.sl none 0 0] 7)
 generalize H.add (.cells [.s [],.sl none 0 0,.sl none 0 0,.sl none 0 0,.sl none 0 0,.sl none 0 0,.sl none 0 0] 7)=X at *
 generalize hid:H.next=id at *
 have g0:=N0.get
 apply jB
 simp [yu.r1]
 by_cases h1:200000<b.length
 ·refine jG (by simp [h1]) (jA ?_)
  simp [yu.r2,g0]
  apply jD
  simp
  refine ⟨(N0.upd _).ext,?_⟩
  have:yhk b=(su0,9):=by unfold yhk;rw [if_pos h1]
  rw [this]
  exact y8f yad
 refine jF (by simp;omega) (AX.skip ?_)
 simp
 apply jA
 simp [yu.r3]
 refine AC.fix (yq5 b hb X) ?_
 simp
 apply jB
 simp [yu.r4]
 cases h2:(ycw b).2 with
 | false=>
  refine jG (by simp [h2]) (jA ?_)
  simp [yu.r5,g0]
  apply jD
  simp
  refine ⟨(N0.upd _).ext,?_⟩
  have:yhk b=(su0,14):=by unfold yhk;rw [if_neg h1,if_pos h2]
  rw [this]
  exact y8f yad
 | true=>
 refine jF (by simp [h2]) (AX.skip ?_)
 simp
 have hol:=(yk7 h2).2
 have hD:yhk b=yp6 (ycw b).1:=by unfold yhk;rw [if_neg h1,if_neg (by simp [h2])]
 rw [hD]
 generalize (ycw b).1=t at *
 apply jA
 simp [yu.r6]
 refine (SOpen_ok t (by omega) X).mono ?_
 rintro _ X2 ⟨⟨pv,x,e,rfl,he1,he2⟩,hX⟩
 obtain rfl:=hX.symm
 simp
 apply jB
 simp [yu.r7]
 by_cases h3:e=0
 case neg=>
  refine jG (by simp [h3]) (jA ?_)
  simp [yu.r8,g0]
  apply jD
  simp
  refine ⟨(N0.upd _).ext,?_⟩
  rw [he1 h3]
  exact y8f yad
 refine jF (by simp [h3]) (AX.skip ?_)
 simp
 obtain ⟨l,hP,h1000,h6000,hx,hD2⟩:=he2 h3
 rw [hD2]
 unfold decR
 apply jA
 simp [yu.r9]
 refine AC.fix (ysw hP x (by omega) _) ?_
 have hsz:=ymf hP.1 h1000 hx
 have htx:=texts_of (x:=x) hP.1
 generalize yaq l x=S at *
 obtain ⟨s,f⟩:=S
 have hsa:setAll [V.s [],V.sl none 0 0,V.sl none 0 0,V.sl none 0 0,V.sl none 0 0,V.sl none 0 0,V.sl none 0 0] 0 (y61 s)=y61 s:=ydu (by simp [y61])
 have hcv:y7z (.agg (y61 s))=some (y61 s):=by simp [y61,ss]
 have hsl:(y61 s).length=7:=rfl
 have hsne:y61 s≠[]:=by simp [y61]
 simp [-y7z,hcv,hsl,hsne,ykr,hsa]
 simp only at hsz htx
 have E1:=N0.ext.trans (.add N0.lt (.cells (y61 s) 7))
 have L1:=Hp.add_lt N0.lt (.cells (y61 s) 7)
 have G1:(X.add (.cells (y61 s) 7)).get X.next=some (.cells (y61 s) 7):=by simp
 have hidl:=N0.lt _ _ g0
 have Q1:(X.add (.cells (y61 s) 7)).get id=some (.cells [.s [],.sl none 0 0,.sl none 0 0,.sl none 0 0,.sl none 0 0,.sl none 0 0,.sl none 0 0] 7):=by rw [Hp.get_add,if_neg (by omega)];exact g0
 have N1:Nb H id (.cells [.s [],.sl none 0 0,.sl none 0 0,.sl none 0 0,.sl none 0 0,.sl none 0 0,.sl none 0 0] 7) (X.add (.cells (y61 s) 7)):=⟨E1,L1,Q1,N0.hi,N0.hlt⟩
 have hnn:X.next≠id:=by omega
 generalize X.add (.cells (y61 s) 7)=Y at *
 generalize X.next=sid at *
 by_cases h4:f=0
 case neg=>
  apply jB
  simp [yu.r10]
  refine jF (by simp [h4]) (AX.skip ?_)
  simp
  apply jB
  simp [yu.r12,h4]
  refine jF rfl (AX.skip ?_)
  simp
  apply jB
  simp [yu.r14]
  refine jG (by simp [h4]) (jA ?_)
  simp [yu.r15,Q1]
  apply jD
  simp
  refine ⟨(N1.upd _).ext,?_⟩
  exact y8f yad
 subst h4
 have hsz:=hsz rfl
 have htx:=htx rfl
 apply jB
 simp [yu.r10]
 refine jG rfl (AX.reg ?_)
 simp [yu.r11,G1]
 refine AC.fix (yks s hsz.1 _) ?_
 simp
 by_cases h5:suE s=0
 case neg=>
  apply jB
  simp [yu.r12,h5]
  refine jF rfl (AX.skip ?_)
  simp
  apply jB
  simp [yu.r14]
  refine jG (by simp [h5]) (jA ?_)
  simp [yu.r15,Q1]
  apply jD
  simp
  refine ⟨(N1.upd _).ext,?_⟩
  exact y8f yad
 simp [h5]
 apply jB
 simp [yu.r12,G1]
 refine AC.fix (ykt s hsz.2 _) ?_
 simp [ss]
 refine AC.fix (PLen_ok hP _) ?_
 simp
 by_cases h6:(y4u s).length=l.length
 case neg=>
  have h7:¬y4u s=l:=fun h=>h6 (htx.1 h)
  rw [if_neg h7]
  refine jG (by simp;omega) (AX.reg ?_)
  simp [yu.r13]
  apply jB
  simp [yu.r14]
  refine jG rfl (jA ?_)
  simp [yu.r15,Q1]
  apply jD
  simp
  refine ⟨(N1.upd _).ext,?_⟩
  exact y8f yad
 rw [if_pos (htx.2 h6)]
 refine jF (by simp;omega) (AX.skip ?_)
 simp
 apply jB
 simp [yu.r14]
 refine jF rfl (AX.skip ?_)
 simp
 apply jA
 have htk:(y61 s).take 7=y61 s:=rfl
 simp [-y7z,hcv,yu.r16,Q1,G1,hsl,hsa,hsne,htk]
 apply jD
 simp
 exact ⟨(N1.upd _).ext,.refl _⟩
theorem ypd {l:List Str} (h:y51 l):y82 l=l:=ylf (yaw _) h fun x=>yfp
theorem ynh (s:Su):y51 (y4u s):=yaw _
theorem yni (s:Su):(y4u s).length≤(evS s).length:=by
 have h1:=yg0 (txs (evS s)) (txs (evS s)).length
 rw [List.take_length] at h1
 have h2:=yjp (evS s)
 have:(y4u s).length≤(txs (evS s)).length:=h1
 omega
theorem sum3_len (v:Nat):(yt8 v).length=3:=rfl
theorem yux {l:List Str} (h:∀s∈l,s.length≤1000) (hl:l.length≤6000):(yf9 l).length≤6200000:=by
 have h1:=yk5 l [] h
 have h2:=ya3 (n:=l.length) (by omega)
 simp only [yf9,kR];omega
theorem recE_len (pool:List Str) (s:Su) (hb:(evS s).length≤1000000):(ync pool s).1.length≤5000000:=by
 have hq:qwB qw0 (evS s).length:=by unfold qwB;simp [qw0];omega
 have:∀(es:List Ev) (τ:Qw),(y5q pool τ es).bs.length≤τ.bs.length+5*es.length:=fun es=>by
  induction es with
  | nil=>intro τ;simp
  | cons x r ih=>
   intro τ
   have h1:=ih (yl2 pool τ x)
   have h2:=(yr9 pool τ x).1
   rw [ybd,kN];omega
 have h:=this (evS s) qw0
 unfold ync
 split
 ·simp
 ·simp [qw0] at h ⊢;omega
def EcInv (s:Su) (H:Hp) (m:Nat) (F:Fr) (X:Hp):Prop:=
 ∃i,i≤(y4u s).length∧m=(y4u s).length-i∧(∀t∈(y4u s).take i,¬1000<t.length)∧X=H∧F=[(1,.fp (y61 s) 0),(5,ss (y4u s)),(24,ss (y4u s)),(25,.i .i64 (y4u s).length),(26,.i .i64 i)]
theorem any_true {T:List Str} {i:Nat} (h:i<T.length) (hb:1000<T[i].length):(T.any fun t=>decide (1000<t.length))=true:=List.any_eq_true.2 ⟨T[i],kK h,by simpa using hb⟩
theorem yu6 {T:List Str} {i:Nat} (hd:i<T.length) (h:∀t∈T.take i,¬1000<t.length) (h1:¬1000<T[i].length):∀t∈T.take (i+1),¬1000<t.length:=fun t ht=>by
 rw [kI,kB hd,Option.toList_some] at ht
 rcases List.mem_append.1 ht with ht | ht
 ·exact h t ht
 ·rw [List.mem_singleton] at ht;subst ht;exact h1
theorem yxa (s:Su) (hs:suF s) (H:Hp):AC Tryz.prog ydf [.agg (y61 s)] H (fun v H'=>v=.tup [.s (yms s).1,.i .i64 (yms s).2]∧H'=H):=by
 have hT:=yni s
 have hR:=ynh s
 have hb:=recE_len (y4u s) s hs.2
 refine AC.codeP yd.at yd.ok (yc1 (by simp)) fun hlt=>?_
 simp only [yd]
 apply jA
 simp [yd.r0,y61]
 apply jB
 simp [yd.r1]
 have hck:=yks s hs.1 H
 simp only [y61] at hck
 refine AC.fix hck ?_
 simp
 apply jA
 simp [yd.r2]
 refine AX.pcond rfl (fun h1=>?_) (fun h1=>AX.skip ?_)
 ·simp at h1
  apply jA
  simp [yd.r3]
  apply jD
  simp [yms,h1]
  exact ⟨.refl _,.refl _⟩
 simp at h1
 have hg:=(rec_good s h1 hs.2).1
 simp
 apply jA
 simp [yd.r4]
 have htx:=ykt s hs.2 H
 simp only [y61] at htx
 refine AC.fix htx ?_
 simp
 apply jB
 simp [yd.r5,ss]
 refine AX.pcond rfl (fun h2=>?_) (fun h2=>AX.skip ?_)
 ·simp at h2
  apply jA
  simp [yd.r6]
  apply jD
  simp [yms,h1,h2]
  exact ⟨.refl _,.refl _⟩
 simp at h2
 simp
 apply jB
 simp [yd.r7]
 refine AX.pblock (AX.loop (EcInv s H) (y4u s).length ⟨_,_,.refl _ _,0,by omega,by omega,by simp,rfl,by simp [y61,ss]⟩ ?_)
 rintro m F X ⟨i,hi,rfl,hal,rfl,rfl⟩
 simp only [yd.l0]
 apply jA
 simp [yd.r8]
 refine AX.seq (AX.pcond rfl (fun hd=>AX.skip ?_) (fun hd=>AX.exit ?_))
 ·simp at hd
  simp
  apply jC
  simp [yd.r9,hd,ss]
  apply jA
  simp [yd.r10]
  refine AX.pcond rfl (fun h3=>?_) (fun h3=>AX.skip ?_)
  ·simp at h3
   apply jA
   simp [yd.r11]
   apply jD
   have:=any_true hd h3
   simp only [yms,this]
   simp [h1,show ¬6000<(y4u s).length by omega]
   exact ⟨.refl _,.refl _⟩
  ·simp at h3
   simp
   apply jE
   simp [yd.r12,y5p (show i≤9223372036854775000 by omega)]
   exact ⟨(y4u s).length-(i+1),by omega,_,_,.refl _ _,i+1,by omega,rfl,yu6 hd hal (by omega),rfl,by simp [y61,ss]⟩
 simp at hd
 have:i=(y4u s).length:=by omega
 subst this
 rw [List.take_length] at hal
 have hany:((y4u s).any fun t=>decide (1000<t.length))=false:=by
  rw [List.any_eq_false];intro t ht;simpa using hal t ht
 have h1000:∀t∈y4u s,t.length≤1000:=fun t ht=>by have:=hal t ht;omega
 have henc:yms s=if 200000<(yfe s).length then ([],9) else (yfe s,0):=by simp [yms,h1,show ¬6000<(y4u s).length by omega,hany]
 have hfl:(yfe s).length=4+(1+((yf9 (y4u s)).length+((y8x (ync (y4u s) s).1.length).length+(ync (y4u s) s).1.length)))+3:=by
  simp [yfe,yjv,sum3_len,y7j,yen,yb6 (n:=1) (by omega)];omega
 have hpl:=yux h1000 (by omega)
 rw [henc]
 simp
 apply jA
 simp [yd.r13]
 refine AC.fix (POf_ok _ (by omega) _) ?_
 rw [ypd hR]
 simp
 apply jA
 simp [yd.r14,y61]
 have hby:=yql (y4u s) hR (by omega) s hs.2 X
 simp only [y61] at hby
 refine AC.fix hby ?_
 rw [hg]
 generalize hbd:(ync (y4u s) s).1=b at *
 have hfile:yfe s=yjv (y7j++yen (y4u s) b):=by rw [yfe,hbd]
 simp
 apply jB
 simp [yd.r15]
 refine jF rfl (AX.skip ?_)
 simp
 apply jA
 simp [yd.r17]
 have e1:=Am.Hp.Ext.add hlt (.cells [.pz 58 3 X.next 3,.sl none 0 0,.i .i64 0] 3)
 have l1:=Hp.add_lt hlt (.cells [.pz 58 3 X.next 3,.sl none 0 0,.i .i64 0] 3)
 have W0:WB X 58 3 X.next [.i .i64 0] [] (X.add (.cells [.pz 58 3 X.next 3,.sl none 0 0,.i .i64 0] 3)) (.sl none 0 0):=
  ⟨hlt,by kernel_rfl,rfl,kF _,Acc.nil 1 0 e1 l1,trivial,.pz 58 3 X.next 3,.sl none 0 0,3,by simp,by omega,.inr rfl,.inl ⟨rfl,0,rfl⟩⟩
 generalize X.add (.cells [.pz 58 3 X.next 3,.sl none 0 0,.i .i64 0] 3)=X0 at *
 apply jA
 simp [yd.r18]
 refine (yfi 1 W0 (by simp)).mono ?_
 rintro _ X1 ⟨rfl,v1,W1,K1⟩
 have hw1:yjn 0 [] 1=(0,y8x 1):=by simp [yjn]
 rw [hw1] at W1
 simp
 apply jA
 simp [yd.r19]
 refine (yx3 (y4u s) _ ⟨hR,by omega,.inr rfl⟩ (by omega) h1000 W1 (by rw [yb6 (by omega)];simp)).mono ?_
 rintro _ X2 ⟨rfl,v2,W2,K2⟩
 simp
 apply jA
 simp [yd.r20]
 have hl2:(y8x 1++yf9 (y4u s)).length≤1000000000:=by rw [yb6 (by omega)];simp;omega
 refine (ys2 b W2 hl2).mono ?_
 rintro _ X3 ⟨rfl,v3,W3,K3⟩
 simp
 apply jA
 simp [yd.r21]
 by_cases hbl:200000<b.length
 ·have hw3:yqx 0 (y8x 1++yf9 (y4u s)) b=(9,y8x 1++yf9 (y4u s)):=by simp only [yqx];rw [if_neg (by simp),if_pos hbl]
  rw [hw3] at W3
  refine (yn3 W3 (by rw [yb6 (by omega)];simp)).mono ?_
  rintro _ X4 ⟨rfl,n4,k4⟩
  simp
  apply jB
  simp [yd.r22]
  refine jG rfl (jA ?_)
  simp [yd.r23]
  apply jD
  simp [show 200000<(yfe s).length by omega]
  exact ⟨⟨by rw [n4];exact W3.acc.ext.1,fun k blk h=>k4 _ _ (W3.acc.ext.2 _ _ h) (W3.acc.sepOld (hlt _ _ h))⟩,.refl _⟩
 ·have hw3:yqx 0 (y8x 1++yf9 (y4u s)) b=(0,yen (y4u s) b):=by simp only [yqx];rw [if_neg (by simp),if_neg hbl];simp [yen]
  rw [hw3] at W3
  have hrl:(yen (y4u s) b).length≤100000000:=by
   have:=ya3 (n:=b.length) (by omega)
   simp only [yen,kR,yb6 (show 1<128 by omega)];simp;omega
  refine (yn3 W3 (by rw [yen,yb6 (by omega)];simp)).mono ?_
  rintro _ X4 ⟨rfl,n4,k4⟩
  have hx4:X.Ext X4:=⟨by rw [n4];exact W3.acc.ext.1,fun k blk h=>k4 _ _ (W3.acc.ext.2 _ _ h) (W3.acc.sepOld (hlt _ _ h))⟩
  simp
  apply jB
  simp [yd.r22]
  refine jF rfl (AX.skip ?_)
  simp
  apply jA
  simp [yd.r24]
  refine ⟨by omega,AC.fix (ykk _ (by simp;omega) _) ?_⟩
  have hse:(119::101::102::116::yen (y4u s) b)++yt8 (yh3 11994318 (119::101::102::116::yen (y4u s) b))=yfe s:=by rw [hfile];rfl
  rw [hse]
  simp
  apply jB
  simp [yd.r25]
  refine AX.pcond rfl (fun h5=>?_) (fun h5=>AX.skip ?_)
  ·simp at h5
   apply jA
   simp [yd.r26]
   apply jD
   simp [h5]
   exact ⟨hx4,.refl _⟩
  ·simp at h5
   simp
   apply jA
   simp [yd.r27]
   apply jD
   simp [show ¬200000<(yfe s).length by omega]
   exact ⟨hx4,.refl _⟩
end Go.Proofs.YthmkcebbeehbeaaGreatDoor
