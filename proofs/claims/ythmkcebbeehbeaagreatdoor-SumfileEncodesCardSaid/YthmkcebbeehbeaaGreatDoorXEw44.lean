/- Part 44 of the proof of the laws of the queries: Sum3, DecW, EncW, LwE. -/
import Derived.Test.YthmkcebbeehbeaaGreatDoorXEw19
import Derived.Test.YthmkcebbeehbeaaGreatDoorXEw29
import Derived.Test.YthmkcebbeehbeaaGreatDoorXEw33
import Derived.Test.YthmkcebbeehbeaaGreatDoorXEw35
import Derived.Test.YthmkcebbeehbeaaGreatDoorXEw36
import Derived.Test.YthmkcebbeehbeaaGreatDoorXEw38
import Derived.Test.YthmkcebbeehbeaaGreatDoorXEw39
import Derived.Test.YthmkcebbeehbeaaGreatDoorXEw42
import Derived.Test.YthmkcebbeehbeaaGreatDoorXEw43
set_option linter.unusedSimpArgs false
set_option linter.unusedVariables false
namespace Go.Proofs.YthmkcebbeehbeaaGreatDoor
open Am C
def ThI0 (s:Sy) (n:Str) (H:Hp) (m:Nat) (F:Fr) (X:Hp):Prop:=
  ∃i,i≤s.objs.length∧m=s.objs.length-i∧(s.objs.take i).any (fun o=>decide (o.name=n))=false∧X=H∧F=[(1,.s n),(2,.fp (y8z s) 0),(5,.i .i64 i)]
def ThI1 (s:Sy) (n:Str) (H:Hp) (m:Nat) (F:Fr) (X:Hp):Prop:=
  ∃i,i≤s.fns.length∧m=s.fns.length-i∧(s.fns.take i).any (fun o=>decide (o.name=n))=false∧X=H∧F=[(1,.s n),(2,.fp (y8z s) 0),(6,.i .i64 i)]
theorem ylv {α:Type} {p:α→Bool} {l:List α} {i:Nat} (h:i<l.length) (hn:(l.take i).any p=false):(l.take (i+1)).any p=p l[i]:=by
  rw [List.take_add_one,List.getElem?_eq_getElem h,List.any_append,hn];simp
theorem yvd {α:Type} {p:α→Bool} {l:List α} {i:Nat} (h:i<l.length) (hp:p l[i]=true):l.any p=true:=List.any_eq_true.2 ⟨_,List.getElem_mem h,hp⟩
theorem yvn (s:Sy) (n:Str) (h1:s.objs.length≤1000000) (h2:s.fns.length≤1000000) (H:Hp):AC Tryz.prog ybc [.agg (y8z s),.s n] H (fun v H'=>v=.b (ygs s n)∧H'=H):=by
  refine AC.code y16.at y16.ok ?_
  simp only [y16]
  apply jA
  simp [y16.r0,y8z]
  apply jB
  simp [y16.r1]
  refine AX.pblock (AX.loop (ThI0 s n H) s.objs.length ⟨_,_,.refl _ _,0,by omega,by omega,by simp,rfl,by simp [y8z]⟩ ?_)
  rintro m F X ⟨i,hi,rfl,hx,rfl,rfl⟩
  simp only [y16.l0]
  apply jB
  simp [y16.r2,y8z]
  refine AX.pcond rfl (fun hd=>AX.skip ?_) (fun hd=>AX.exit ?_)
  · simp at hd
    have hg:s.objs[i]?=some s.objs[i]:=List.getElem?_eq_getElem hd
    have e1:=ylv (p:=fun o:Ob=>decide (o.name=n)) hd hx
    have e2:=yvd (p:=fun o:Ob=>decide (o.name=n)) hd
    generalize s.objs[i]=o at *
    simp
    apply jC
    simp [y16.r3,hg,y6a]
    refine AX.pcond rfl (fun hb=>?_) (fun hb=>AX.skip ?_)
    · apply jA
      simp [y16.r4]
      apply jD
      simp [ygs,e2 hb]
    simp
    apply jE
    simp [y16.r5,y5x (i:=i) (by omega)]
    exact ⟨s.objs.length-(i+1),by omega,_,_,.refl _ _,i+1,by omega,rfl,e1.trans hb,rfl,by simp [y8z]⟩
  simp at hd
  rw [List.take_of_length_le hd] at hx
  simp
  apply jB
  simp [y16.r6]
  refine AX.pblock (AX.loop (ThI1 s n X) s.fns.length ⟨_,_,.refl _ _,0,by omega,by omega,by simp,rfl,by simp [y8z]⟩ ?_)
  rintro m F X2 ⟨k,hk,rfl,hy,rfl,rfl⟩
  simp only [y16.l1]
  apply jB
  simp [y16.r7,y8z]
  refine AX.pcond rfl (fun he=>AX.skip ?_) (fun he=>AX.exit ?_)
  · simp at he
    have hg:s.fns[k]?=some s.fns[k]:=List.getElem?_eq_getElem he
    have e1:=ylv (p:=fun o:Fu=>decide (o.name=n)) he hy
    have e2:=yvd (p:=fun o:Fu=>decide (o.name=n)) he
    generalize s.fns[k]=o at *
    simp
    apply jC
    simp [y16.r8,hg,yaa]
    refine AX.pcond rfl (fun hb=>?_) (fun hb=>AX.skip ?_)
    · apply jA
      simp [y16.r9]
      apply jD
      simp [ygs,e2 hb]
    simp
    apply jE
    simp [y16.r10,y5x (i:=k) (by omega)]
    exact ⟨s.fns.length-(k+1),by omega,_,_,.refl _ _,k+1,by omega,rfl,e1.trans hb,rfl,by simp [y8z]⟩
  simp at he
  rw [List.take_of_length_le he] at hy
  simp
  apply jA
  simp [y16.r11]
  apply jD
  simp only [ygs,hx,hy]
  simp
def RckI0 (s:Su) (X:Hp) (m:Nat) (F:Fr) (Y:Hp):Prop:=
  ∃i,i≤2∧m=2-i∧(0<i→yhd s.sys s.gives=0)∧(1<i→yhd s.sys s.wants=0)∧Y=X∧F=[(1,.fp (y5s s) 0),(4,.i .i64 i)]
def RckI1 (s:Su) (l:List Str) (i:Nat) (X:Hp) (m:Nat) (F:Fr) (Y:Hp):Prop:=
  ∃k,k≤l.length∧m=l.length-k∧(l.take k).all (ygs s.sys)=true∧Y=X∧F=[(1,.fp (y5s s) 0),(4,.i .i64 i),(5,ss l),(6,.i .i64 k)]
def RckI2 (s:Su) (X:Hp) (m:Nat) (F:Fr) (Y:Hp):Prop:=
  ∃k,k≤s.gives.length∧m=s.gives.length-k∧(s.gives.take k).any (fun n=>decide (n∈s.wants))=false∧Y=X∧F=[(1,.fp (y5s s) 0),(7,.i .i64 k)]
def RckI3 (s:Su) (X:Hp) (m:Nat) (F:Fr) (Y:Hp):Prop:=
  ∃k,k≤s.keeps.length∧m=s.keeps.length-k∧(s.keeps.take k).all ya6=true∧Y=X∧F=[(1,.fp (y5s s) 0),(8,.i .i64 k)]
theorem yqw {α:Type} {p:α→Bool} {l:List α} {i:Nat} (h:i<l.length) (hn:(l.take i).all p=true):(l.take (i+1)).all p=p l[i]:=by
  rw [List.take_add_one,List.getElem?_eq_getElem h,List.all_append,hn];simp
theorem all_no {α:Type} {p:α→Bool} {l:List α} {i:Nat} (h:i<l.length) (hp:p l[i]=false):l.all p=false:=by
  cases hh:l.all p with
  | false=>rfl
  | true=>have:=List.all_eq_true.1 hh _ (List.getElem_mem h);rw [hp] at this;cases this
theorem num_mem (l:List Str) (x:Str):decide (0≤yj7 l x)=decide (x∈l):=by
  have:=@ydf l x
  by_cases h:x∈l
  · have h2:¬yj7 l x<0:=fun e=>this.1 e h
    simp [h];omega
  · have h2:=this.2 h
    simp [h];omega
set_option maxHeartbeats 1000000 in
theorem ynr (s:Su) (hs:suS s) (H:Hp):AC Tryz.prog ybd [.agg (y5s s)] H (fun v H'=>v=.i .i64 (suE s)∧H'=H):=by
  obtain ⟨q1,q2,q3,q4,q5,q6⟩:=hs
  have q7:=q6.1
  have q8:=q6.2.1
  refine AC.code y7.at y7.ok ?_
  simp only [y7]
  apply jA
  simp [y7.r0,y5s]
  apply jB
  simp [y7.r1]
  refine AC.fix (ym0 s.name (by omega) _) ?_
  simp
  refine AX.pcond rfl (fun h1=>?_) (fun h1=>AX.skip ?_)
  · simp at h1
    apply jA
    simp [y7.r2]
    apply jD
    simp [suE,h1]
  simp at h1
  simp
  apply jA
  simp [y7.r3]
  refine AC.fix (yvs s.sys q6 _) ?_
  simp
  apply jB
  simp [y7.r4]
  refine AX.pcond rfl (fun h2=>?_) (fun h2=>AX.skip ?_)
  · simp at h2
    apply jA
    simp [y7.r5]
    apply jD
    simp [suE,h1,orI,h2]
  simp at h2
  simp
  apply jB
  simp [y7.r6]
  refine AX.pblock (AX.loop (RckI0 s H) 2 ⟨_,_,.refl _ _,0,by omega,by omega,by simp,by simp,rfl,by simp [y5s]⟩ ?_)
  rintro m F X ⟨i,hi,rfl,hg,hw,rfl,rfl⟩
  simp only [y7.l0]
  apply jB
  simp [y7.r7]
  refine AX.pcond rfl (fun hd=>AX.skip ?_) (fun hd=>AX.exit ?_)
  · simp at hd
    obtain ⟨l,hl,hll,hle⟩:∃l:List Str,[[ss s.gives],[ss s.wants]][i]?=some [ss l]∧l.length≤140737488355328∧(yhd s.sys l≠0→suE s=yhd s.sys l)∧(yhd s.sys l=0→(0<i+1→yhd s.sys s.gives=0)∧(1<i+1→yhd s.sys s.wants=0)):=by
      match i,hd with
      | 0,_=>exact ⟨s.gives,rfl,q2,fun h=>by simp [suE,h1,orI,h2,h],fun h=>⟨fun _=>h,fun h=>by omega⟩⟩
      | 1,_=>exact ⟨s.wants,rfl,q3,fun h=>by simp [suE,h1,orI,h2,h,hg (by omega)],fun h=>⟨fun _=>hg (by omega),fun _=>h⟩⟩
    simp
    apply jC
    simp [y7.r8,y5s,ydc,show List.range 2=[0,1] from rfl,hl]
    apply jB
    simp [y7.r9]
    refine AC.fix (ykd l (by omega) _) ?_
    simp
    refine AX.pcond rfl (fun h3=>?_) (fun h3=>AX.skip ?_)
    · simp at h3
      apply jA
      simp [y7.r10]
      apply jD
      have:yhd s.sys l=13:=by simp [yhd,h3]
      simp [hle.1 (by rw [this];decide),this]
    simp at h3
    simp
    apply jA
    simp [y7.r11]
    refine AX.pblock (AX.loop (RckI1 s l i X) l.length ⟨_,_,.refl _ _,0,by omega,by omega,by simp,rfl,by simp [y5s]⟩ ?_)
    rintro m F Y ⟨k,hk,rfl,ha,rfl,rfl⟩
    simp only [y7.l1]
    apply jB
    simp [y7.r12,ss]
    refine AX.pcond rfl (fun he=>AX.skip ?_) (fun he=>AX.exit ?_)
    · simp at he
      have ht:=yvn s.sys l[k] q7 q8
      have e1:=yqw (p:=ygs s.sys) he ha
      have e2:=all_no (p:=ygs s.sys) he
      have hg2:l[k]?=some l[k]:=List.getElem?_eq_getElem he
      generalize l[k]=n at *
      simp
      refine AX.seq (AX.pblock (AX.seq (AX.drw ?_)))
      simp [y7.r13,y5s,ss,hg2]
      refine y57 _ (fun H2=>ht H2) ?_
      simp
      refine AX.pcond rfl (fun hb=>?_) (fun hb=>AX.skip ?_)
      · simp at hb
        apply jA
        simp [y7.r14]
        apply jD
        have:yhd s.sys l=7:=by simp only [yhd,h3,e2 hb];rfl
        simp [hle.1 (by rw [this];decide),this]
      simp at hb
      simp
      apply jE
      simp [y7.r15,y5x (i:=k) (by omega)]
      exact ⟨l.length-(k+1),by omega,_,_,.refl _ _,k+1,by omega,rfl,e1.trans hb,rfl,by simp [y5s,ss]⟩
    simp at he
    rw [List.take_of_length_le he] at ha
    have h0:yhd s.sys l=0:=by simp only [yhd,h3,ha];rfl
    obtain ⟨n1,n2⟩:=hle.2 h0
    simp
    apply jE
    simp [y7.r16,y5x (i:=i) (by omega)]
    exact ⟨2-(i+1),by omega,_,_,.refl _ _,i+1,by omega,rfl,n1,n2,rfl,by simp [y5s]⟩
  simp at hd
  have hg:=hg (by omega)
  have hw:=hw (by omega)
  simp
  apply jB
  simp [y7.r17]
  refine AX.pblock (AX.loop (RckI2 s X) s.gives.length ⟨_,_,.refl _ _,0,by omega,by omega,by simp,rfl,by simp [y5s]⟩ ?_)
  rintro m F Y ⟨k,hk,rfl,hx,rfl,rfl⟩
  simp only [y7.l2]
  apply jB
  simp [y7.r18,y5s,ss]
  refine AX.pcond rfl (fun he=>AX.skip ?_) (fun he=>AX.exit ?_)
  · simp at he
    have ht:=ynv s.wants s.gives[k] (by show s.wants.length≤9223372036854775807;omega)
    have e1:=ylv (p:=fun n=>decide (n∈s.wants)) he hx
    have e2:=yvd (p:=fun n=>decide (n∈s.wants)) he
    have hg2:s.gives[k]?=some s.gives[k]:=List.getElem?_eq_getElem he
    generalize s.gives[k]=n at *
    simp
    refine AX.seq (AX.pblock (AX.seq (AX.drw ?_)))
    simp [y7.r19,y5s,ss,hg2]
    refine y57 _ (fun H2=>ht H2) ?_
    simp [num_mem]
    refine AX.pcond rfl (fun hb=>?_) (fun hb=>AX.skip ?_)
    · have e3:=e2 hb
      apply jA
      simp [y7.r20]
      apply jD
      simp only [suE,e3]
      simp [h1,orI,h2,hg,hw]
    simp
    apply jE
    simp [y7.r21,y5x (i:=k) (by omega)]
    exact ⟨s.gives.length-(k+1),by omega,_,_,.refl _ _,k+1,by omega,rfl,e1.trans hb,rfl,by simp [y5s,ss]⟩
  simp at he
  rw [List.take_of_length_le he] at hx
  simp
  apply jB
  simp [y7.r22,y5s,ss]
  refine AX.pcond rfl (fun h6=>?_) (fun h6=>AX.skip ?_)
  · simp at h6
    apply jA
    simp [y7.r23]
    apply jD
    simp only [suE,hx]
    simp [h1,orI,h2,hg,hw,h6]
  simp at h6
  simp
  apply jB
  simp [y7.r24,y5s]
  refine AC.fix (ykd s.keeps (by omega) _) ?_
  simp
  refine AX.pcond rfl (fun h7=>?_) (fun h7=>AX.skip ?_)
  · simp at h7
    apply jA
    simp [y7.r25]
    apply jD
    simp only [suE,hx]
    simp [h1,orI,h2,hg,hw,h7,show ¬6000<s.keeps.length by omega]
  simp at h7
  simp
  apply jB
  simp [y7.r26]
  refine AX.pblock (AX.loop (RckI3 s Y) s.keeps.length ⟨_,_,.refl _ _,0,by omega,by omega,by simp,rfl,by simp [y5s,ss]⟩ ?_)
  rintro m F Z ⟨j,hj,rfl,hy,rfl,rfl⟩
  simp only [y7.l3]
  apply jB
  simp [y7.r27,y5s,ss]
  refine AX.pcond rfl (fun he=>AX.skip ?_) (fun he=>AX.exit ?_)
  · simp at he
    have ht:=yh8 s.keeps[j] (by have:=q5 _ (List.getElem_mem he);omega)
    have e1:=yqw (p:=ya6) he hy
    have e2:=all_no (p:=ya6) he
    have hg2:s.keeps[j]?=some s.keeps[j]:=List.getElem?_eq_getElem he
    generalize s.keeps[j]=n at *
    simp
    apply jC
    simp [y7.r28,y5s,ss,hg2]
    refine AC.fix (ht _) ?_
    simp
    refine AX.pcond rfl (fun hb=>?_) (fun hb=>AX.skip ?_)
    · simp at hb
      have e3:=e2 hb
      apply jA
      simp [y7.r29]
      apply jD
      simp only [suE,hx,e3]
      simp [h1,orI,h2,hg,hw,h7,show ¬6000<s.keeps.length by omega]
    simp at hb
    simp
    apply jE
    simp [y7.r30,y5x (i:=j) (by omega)]
    exact ⟨s.keeps.length-(j+1),by omega,_,_,.refl _ _,j+1,by omega,rfl,e1.trans hb,rfl,by simp [y5s,ss]⟩
  simp at he
  rw [List.take_of_length_le he] at hy
  simp
  apply jA
  simp [y7.r31]
  apply jD
  simp only [suE,hx,hy]
  simp [h1,orI,h2,hg,hw,h7,show ¬6000<s.keeps.length by omega]
theorem yvg (H:Hp) (cs ds:List V) (m:Nat):(H.add (.cells cs m)).upd H.next (.cells ds m)=H.add (.cells ds m):=by
  refine Hp.ext' (fun j=>?_) rfl
  simp only [Hp.get_upd,Hp.get_add]
  split <;> rfl
theorem yhi:∀(b a:List Str),y4g a→y4g b→(∀x∈a,x∈b)→a.length≤b.length∧(a.length=b.length→a=b)
  | [],a,_,_,h=>by
    cases a with
    | nil=>simp
    | cons x r=>have:=h x (by simp);cases this
  | y::b,[],_,_,_=>by simp
  | y::b,x::a,ha,hb,h=>by
    simp only [y4g,List.pairwise_cons] at ha hb
    by_cases e:x=y
    · subst e
      have:=yhi b a ha.2 hb.2 (fun z hz=>by
        rcases List.mem_cons.1 (h z (by simp [hz])) with rfl | h
        · exact (yai _ (ha.1 _ hz)).elim
        · exact h)
      simp only [List.length_cons]
      exact ⟨by omega,fun e=>by rw [this.2 (by omega)]⟩
    · have hx:x∈b:=by
        rcases List.mem_cons.1 (h x (by simp)) with h | h
        · exact (e h).elim
        · exact h
      have hyx:=hb.1 x hx
      have:=yhi b (x::a) (by simp only [y4g,List.pairwise_cons];exact ha) hb.2 (fun z hz=>by
        rcases List.mem_cons.1 (h z hz) with rfl | h
        · rcases List.mem_cons.1 hz with rfl | hz
          · exact (e rfl).elim
          · exact (yai _ (yfa hyx (ha.1 _ hz))).elim
        · exact h)
      simp only [List.length_cons] at this ⊢
      exact ⟨by omega,fun e=>by omega⟩
theorem texts_of {l:List Str} {x:Str} (hr:y4g l) (h:(yc6 l x).2=0):(y3r (yc6 l x).1=l↔(y3r (yc6 l x).1).length=l.length):=by
  have hok:=(ytc hr h).2
  have:=yhi l (y3r (yc6 l x).1) (ya4 _) hr (fun t ht=>hok (.txt t) (yip.2 (yel.1 ht)))
  exact ⟨fun e=>by rw [e],this.2⟩
set_option maxHeartbeats 1000000 in
theorem yrt (b:Str) (hb:b.length≤140737488351232) (H:Hp):AC Tryz.prog ycc [.s b] H (fun v H'=>v=.tup [.agg (y5s (ys6 b).1),.i .i64 (ys6 b).2]∧H'=H):=by
  refine AC.codeP yp.at yp.ok (ydj (by simp [yep (ymc _)])) fun hlt=>?_
  have hR:∀D,ys6 b=D→∃D,ys6 b=D:=fun D h=>⟨D,h⟩
  simp only [yp]
  apply jA
  simp [yp.r0]
  have N0:=Nb.new hlt (.cells [.s [],.sl none 0 0,.sl none 0 0,.sl none 0 0,.sl none 0 0,.sl none 0 0,.sl none 0 0] 7)
  generalize H.add (.cells [.s [],.sl none 0 0,.sl none 0 0,.sl none 0 0,.sl none 0 0,.sl none 0 0,.sl none 0 0] 7)=X at *
  generalize hid:H.next=id at *
  have g0:=N0.get
  apply jB
  simp [yp.r1]
  by_cases h1:200000<b.length
  · refine jG (by simp [h1]) (jA ?_)
    simp [yp.r2,g0]
    apply jD
    simp
    refine ⟨(N0.upd _).ext,?_⟩
    have:ys6 b=(su0,9):=by unfold ys6;rw [if_pos h1]
    rw [this]
    exact yeo ygj
  refine jF (by simp;omega) (AX.skip ?_)
  simp
  apply jA
  simp [yp.r3]
  refine AC.fix (yov b hb X) ?_
  simp
  apply jB
  simp [yp.r4]
  cases h2:(yfx b).2 with
  | false=>
    refine jG (by simp [h2]) (jA ?_)
    simp [yp.r5,g0]
    apply jD
    simp
    refine ⟨(N0.upd _).ext,?_⟩
    have:ys6 b=(su0,14):=by unfold ys6;rw [if_neg h1,if_pos h2]
    rw [this]
    exact yeo ygj
  | true=>
  refine jF (by simp [h2]) (AX.skip ?_)
  simp
  have hol:=(ytu h2).2
  have hD:ys6 b=decT (yfx b).1:=by unfold ys6;rw [if_neg h1,if_neg (by simp [h2])]
  rw [hD]
  generalize (yfx b).1=t at *
  apply jA
  simp [yp.r6]
  refine (SOpen_ok t (by omega) X).mono ?_
  rintro _ X2 ⟨⟨pv,x,e,rfl,he1,he2⟩,hX⟩
  obtain rfl:=hX.symm
  simp
  apply jB
  simp [yp.r7]
  by_cases h3:e=0
  case neg=>
    refine jG (by simp [h3]) (jA ?_)
    simp [yp.r8,g0]
    apply jD
    simp
    refine ⟨(N0.upd _).ext,?_⟩
    rw [he1 h3]
    exact yeo ygj
  refine jF (by simp [h3]) (AX.skip ?_)
  simp
  obtain ⟨l,hP,h1000,h6000,hx,hD2⟩:=he2 h3
  rw [hD2]
  unfold decR
  apply jA
  simp [yp.r9]
  refine AC.fix (yrw hP x (by omega) _) ?_
  have hsz:=rec_size hP.1 h1000 hx
  have htx:=texts_of (x:=x) hP.1
  generalize yc6 l x=S at *
  obtain ⟨s,f⟩:=S
  have hsa:setAll [V.s [],V.sl none 0 0,V.sl none 0 0,V.sl none 0 0,V.sl none 0 0,V.sl none 0 0,V.sl none 0 0] 0 (y5s s)=y5s s:=yef (by simp [y5s])
  have hcv:y89 (.agg (y5s s))=some (y5s s):=by simp [y5s,ss]
  have hsl:(y5s s).length=7:=rfl
  have hsne:y5s s≠[]:=by simp [y5s]
  simp [-y89,hcv,hsl,hsne,yvg,hsa]
  simp only at hsz htx
  have E1:=N0.ext.trans (.add N0.lt (.cells (y5s s) 7))
  have L1:=Hp.add_lt N0.lt (.cells (y5s s) 7)
  have G1:(X.add (.cells (y5s s) 7)).get X.next=some (.cells (y5s s) 7):=by simp
  have hidl:=N0.lt _ _ g0
  have Q1:(X.add (.cells (y5s s) 7)).get id=some (.cells [.s [],.sl none 0 0,.sl none 0 0,.sl none 0 0,.sl none 0 0,.sl none 0 0,.sl none 0 0] 7):=by rw [Hp.get_add,if_neg (by omega)];exact g0
  have N1:Nb H id (.cells [.s [],.sl none 0 0,.sl none 0 0,.sl none 0 0,.sl none 0 0,.sl none 0 0,.sl none 0 0] 7) (X.add (.cells (y5s s) 7)):=⟨E1,L1,Q1,N0.hi,N0.hlt⟩
  have hnn:X.next≠id:=by omega
  generalize X.add (.cells (y5s s) 7)=Y at *
  generalize X.next=sid at *
  by_cases h4:f=0
  case neg=>
    apply jB
    simp [yp.r10]
    refine jF (by simp [h4]) (AX.skip ?_)
    simp
    apply jB
    simp [yp.r12,h4]
    refine jF rfl (AX.skip ?_)
    simp
    apply jB
    simp [yp.r14]
    refine jG (by simp [h4]) (jA ?_)
    simp [yp.r15,Q1]
    apply jD
    simp
    refine ⟨(N1.upd _).ext,?_⟩
    exact yeo ygj
  subst h4
  have hsz:=hsz rfl
  have htx:=htx rfl
  apply jB
  simp [yp.r10]
  refine jG rfl (AX.reg ?_)
  simp [yp.r11,G1]
  refine AC.fix (yjo s hsz.1 _) ?_
  simp
  by_cases h5:suE s=0
  case neg=>
    apply jB
    simp [yp.r12,h5]
    refine jF rfl (AX.skip ?_)
    simp
    apply jB
    simp [yp.r14]
    refine jG (by simp [h5]) (jA ?_)
    simp [yp.r15,Q1]
    apply jD
    simp
    refine ⟨(N1.upd _).ext,?_⟩
    exact yeo ygj
  simp [h5]
  apply jB
  simp [yp.r12,G1]
  refine AC.fix (yjp s hsz.2 _) ?_
  simp [ss]
  refine AC.fix (PLen_ok hP _) ?_
  simp
  by_cases h6:(y3r s).length=l.length
  case neg=>
    have h7:¬y3r s=l:=fun h=>h6 (htx.1 h)
    rw [if_neg h7]
    refine jG (by simp;omega) (AX.reg ?_)
    simp [yp.r13]
    apply jB
    simp [yp.r14]
    refine jG rfl (jA ?_)
    simp [yp.r15,Q1]
    apply jD
    simp
    refine ⟨(N1.upd _).ext,?_⟩
    exact yeo ygj
  rw [if_pos (htx.2 h6)]
  refine jF (by simp;omega) (AX.skip ?_)
  simp
  apply jB
  simp [yp.r14]
  refine jF rfl (AX.skip ?_)
  simp
  apply jA
  have htk:(y5s s).take 7=y5s s:=rfl
  simp [-y89,hcv,yp.r16,Q1,G1,hsl,hsa,hsne,htk]
  apply jD
  simp
  exact ⟨(N1.upd _).ext,.refl _⟩
theorem yo7 {l:List Str} (h:y4g l):y7f l=l:=ykc (ya4 _) h fun x=>yel
theorem yhv (s:Su):y4g (y3r s):=ya4 _
theorem ym8 (s:Su):(y3r s).length≤(evS s).length:=by
  have h1:=yf1 (txs (evS s)) (txs (evS s)).length
  rw [List.take_length] at h1
  have h2:=yl0 (evS s)
  have:(y3r s).length≤(txs (evS s)).length:=h1
  omega
theorem sum3_len (v:Nat):(yr4 v).length=3:=rfl
theorem ymv {l:List Str} (h:∀s∈l,s.length≤1000) (hl:l.length≤6000):(yc7 l).length≤6200000:=by
  have h1:=yj1 l [] h
  have h2:=y7e (n:=l.length) (by omega)
  simp only [yc7,List.length_append];omega
theorem ypz (pool:List Str) (s:Su) (hb:(evS s).length≤1000000):(yiw pool s).1.length≤5000000:=by
  have hq:qwB qw0 (evS s).length:=by unfold qwB;simp [qw0];omega
  have:∀(es:List Ev) (τ:Qw),(y58 pool τ es).bs.length≤τ.bs.length+5*es.length:=fun es=>by
    induction es with
    | nil=>intro τ;simp
    | cons x r ih=>
      intro τ
      have h1:=ih (yjy pool τ x)
      have h2:=(yq3 pool τ x).1
      rw [yak,List.length_cons];omega
  have h:=this (evS s) qw0
  unfold yiw
  split
  · simp
  · simp [qw0] at h ⊢;omega
def EcInv (s:Su) (H:Hp) (m:Nat) (F:Fr) (X:Hp):Prop:=
  ∃i,i≤(y3r s).length∧m=(y3r s).length-i∧(∀t∈(y3r s).take i,¬1000<t.length)∧X=H∧F=[(1,.fp (y5s s) 0),(5,ss (y3r s)),(24,ss (y3r s)),(25,.i .i64 (y3r s).length),(26,.i .i64 i)]
theorem yqv {T:List Str} {i:Nat} (h:i<T.length) (hb:1000<T[i].length):(T.any fun t=>decide (1000<t.length))=true:=List.any_eq_true.2 ⟨T[i],List.getElem_mem h,by simpa using hb⟩
theorem yma {T:List Str} {i:Nat} (hd:i<T.length) (h:∀t∈T.take i,¬1000<t.length) (h1:¬1000<T[i].length):∀t∈T.take (i+1),¬1000<t.length:=fun t ht=>by
  rw [List.take_add_one,List.getElem?_eq_getElem hd,Option.toList_some] at ht
  rcases List.mem_append.1 ht with ht | ht
  · exact h t ht
  · rw [List.mem_singleton] at ht;subst ht;exact h1
theorem ynx (s:Su) (hs:suF s) (H:Hp):AC Tryz.prog yad [.agg (y5s s)] H (fun v H'=>v=.tup [.s (yih s).1,.i .i64 (yih s).2]∧H'=H):=by
  have hT:=ym8 s
  have hR:=yhv s
  have hb:=ypz (y3r s) s hs.2
  refine AC.codeP yb.at yb.ok (ydj (by simp)) fun hlt=>?_
  simp only [yb]
  apply jA
  simp [yb.r0,y5s]
  apply jB
  simp [yb.r1]
  have hck:=yjo s hs.1 H
  simp only [y5s] at hck
  refine AC.fix hck ?_
  simp
  apply jA
  simp [yb.r2]
  refine AX.pcond rfl (fun h1=>?_) (fun h1=>AX.skip ?_)
  · simp at h1
    apply jA
    simp [yb.r3]
    apply jD
    simp [yih,h1]
    exact ⟨.refl _,.refl _⟩
  simp at h1
  have hg:=(ypy s h1 hs.2).1
  simp
  apply jA
  simp [yb.r4]
  have htx:=yjp s hs.2 H
  simp only [y5s] at htx
  refine AC.fix htx ?_
  simp
  apply jB
  simp [yb.r5,ss]
  refine AX.pcond rfl (fun h2=>?_) (fun h2=>AX.skip ?_)
  · simp at h2
    apply jA
    simp [yb.r6]
    apply jD
    simp [yih,h1,h2]
    exact ⟨.refl _,.refl _⟩
  simp at h2
  simp
  apply jB
  simp [yb.r7]
  refine AX.pblock (AX.loop (EcInv s H) (y3r s).length ⟨_,_,.refl _ _,0,by omega,by omega,by simp,rfl,by simp [y5s,ss]⟩ ?_)
  rintro m F X ⟨i,hi,rfl,hal,rfl,rfl⟩
  simp only [yb.l0]
  apply jA
  simp [yb.r8]
  refine AX.seq (AX.pcond rfl (fun hd=>AX.skip ?_) (fun hd=>AX.exit ?_))
  · simp at hd
    simp
    apply jC
    simp [yb.r9,hd,ss]
    apply jA
    simp [yb.r10]
    refine AX.pcond rfl (fun h3=>?_) (fun h3=>AX.skip ?_)
    · simp at h3
      apply jA
      simp [yb.r11]
      apply jD
      have:=yqv hd h3
      simp only [yih,this]
      simp [h1,show ¬6000<(y3r s).length by omega]
      exact ⟨.refl _,.refl _⟩
    · simp at h3
      simp
      apply jE
      simp [yb.r12,y5x (show i≤9223372036854775000 by omega)]
      exact ⟨(y3r s).length-(i+1),by omega,_,_,.refl _ _,i+1,by omega,rfl,yma hd hal (by omega),rfl,by simp [y5s,ss]⟩
  simp at hd
  have:i=(y3r s).length:=by omega
  subst this
  rw [List.take_length] at hal
  have hany:((y3r s).any fun t=>decide (1000<t.length))=false:=by
    rw [List.any_eq_false];intro t ht;simpa using hal t ht
  have h1000:∀t∈y3r s,t.length≤1000:=fun t ht=>by have:=hal t ht;omega
  have henc:yih s=if 200000<(ycj s).length then ([],9) else (ycj s,0):=by simp [yih,h1,show ¬6000<(y3r s).length by omega,hany]
  have hfl:(ycj s).length=4+(1+((yc7 (y3r s)).length+((y7w (yiw (y3r s) s).1.length).length+(yiw (y3r s) s).1.length)))+3:=by
    simp [ycj,yi6,sum3_len,y8p,ydm,y9y (n:=1) (by omega)];omega
  have hpl:=ymv h1000 (by omega)
  rw [henc]
  simp
  apply jA
  simp [yb.r13]
  refine AC.fix (POf_ok _ (by omega) _) ?_
  rw [yo7 hR]
  simp
  apply jA
  simp [yb.r14,y5s]
  have hby:=ypd (y3r s) hR (by omega) s hs.2 X
  simp only [y5s] at hby
  refine AC.fix hby ?_
  rw [hg]
  generalize hbd:(yiw (y3r s) s).1=b at *
  have hfile:ycj s=yi6 (y8p++ydm (y3r s) b):=by rw [ycj,hbd]
  simp
  apply jB
  simp [yb.r15]
  refine jF rfl (AX.skip ?_)
  simp
  apply jA
  simp [yb.r17]
  have e1:=Am.Hp.Ext.add hlt (.cells [.pz 58 3 X.next 3,.sl none 0 0,.i .i64 0] 3)
  have l1:=Hp.add_lt hlt (.cells [.pz 58 3 X.next 3,.sl none 0 0,.i .i64 0] 3)
  have W0:WB X 58 3 X.next [.i .i64 0] [] (X.add (.cells [.pz 58 3 X.next 3,.sl none 0 0,.i .i64 0] 3)) (.sl none 0 0):=
    ⟨hlt,by kernel_rfl,rfl,Nat.le_refl _,Acc.nil 1 0 e1 l1,trivial,.pz 58 3 X.next 3,.sl none 0 0,3,by simp,by omega,.inr rfl,.inl ⟨rfl,0,rfl⟩⟩
  generalize X.add (.cells [.pz 58 3 X.next 3,.sl none 0 0,.i .i64 0] 3)=X0 at *
  apply jA
  simp [yb.r18]
  refine (yed 1 W0 (by simp)).mono ?_
  rintro _ X1 ⟨rfl,v1,W1,K1⟩
  have hw1:yio 0 [] 1=(0,y7w 1):=by simp [yio]
  rw [hw1] at W1
  simp
  apply jA
  simp [yb.r19]
  refine (yvt (y3r s) _ ⟨hR,by omega,.inr rfl⟩ (by omega) h1000 W1 (by rw [y9y (by omega)];simp)).mono ?_
  rintro _ X2 ⟨rfl,v2,W2,K2⟩
  simp
  apply jA
  simp [yb.r20]
  have hl2:(y7w 1++yc7 (y3r s)).length≤1000000000:=by rw [y9y (by omega)];simp;omega
  refine (yqx b W2 hl2).mono ?_
  rintro _ X3 ⟨rfl,v3,W3,K3⟩
  simp
  apply jA
  simp [yb.r21]
  by_cases hbl:200000<b.length
  · have hw3:ypo 0 (y7w 1++yc7 (y3r s)) b=(9,y7w 1++yc7 (y3r s)):=by simp only [ypo];rw [if_neg (by simp),if_pos hbl]
    rw [hw3] at W3
    refine (ylw W3 (by rw [y9y (by omega)];simp)).mono ?_
    rintro _ X4 ⟨rfl,n4,k4⟩
    simp
    apply jB
    simp [yb.r22]
    refine jG rfl (jA ?_)
    simp [yb.r23]
    apply jD
    simp [show 200000<(ycj s).length by omega]
    exact ⟨⟨by rw [n4];exact W3.acc.ext.1,fun k blk h=>k4 _ _ (W3.acc.ext.2 _ _ h) (W3.acc.sepOld (hlt _ _ h))⟩,.refl _⟩
  · have hw3:ypo 0 (y7w 1++yc7 (y3r s)) b=(0,ydm (y3r s) b):=by simp only [ypo];rw [if_neg (by simp),if_neg hbl];simp [ydm]
    rw [hw3] at W3
    have hrl:(ydm (y3r s) b).length≤100000000:=by
      have:=y7e (n:=b.length) (by omega)
      simp only [ydm,List.length_append,y9y (show 1<128 by omega)];simp;omega
    refine (ylw W3 (by rw [ydm,y9y (by omega)];simp)).mono ?_
    rintro _ X4 ⟨rfl,n4,k4⟩
    have hx4:X.Ext X4:=⟨by rw [n4];exact W3.acc.ext.1,fun k blk h=>k4 _ _ (W3.acc.ext.2 _ _ h) (W3.acc.sepOld (hlt _ _ h))⟩
    simp
    apply jB
    simp [yb.r22]
    refine jF rfl (AX.skip ?_)
    simp
    apply jA
    simp [yb.r24]
    refine ⟨by omega,AC.fix (yjh _ (by simp;omega) _) ?_⟩
    have hse:(119::101::102::116::ydm (y3r s) b)++yr4 (yfz 11994318 (119::101::102::116::ydm (y3r s) b))=ycj s:=by rw [hfile];rfl
    rw [hse]
    simp
    apply jB
    simp [yb.r25]
    refine AX.pcond rfl (fun h5=>?_) (fun h5=>AX.skip ?_)
    · simp at h5
      apply jA
      simp [yb.r26]
      apply jD
      simp [h5]
      exact ⟨hx4,.refl _⟩
    · simp at h5
      simp
      apply jA
      simp [yb.r27]
      apply jD
      simp [show ¬200000<(ycj s).length by omega]
      exact ⟨hx4,.refl _⟩
def E27Inv (s:Su) (H:Hp) (m:Nat) (F:Fr) (X:Hp):Prop:=
  ∃i,i≤(y3r s).length∧m=(y3r s).length-i∧(∀t∈(y3r s).take i,¬1000<t.length)∧X=H∧F=[(1,.fp (y5s s) 0),(5,ss (y3r s)),(6,.i .i64 i)]
theorem yns (s:Su) (hs:suF s) (H:Hp):AC Tryz.prog yaq [.agg (y5s s)] H (fun v H'=>v=.tup [.s (yih s).1,.i .i64 (yih s).2]∧H'=H):=by
  have hT:=ym8 s
  have hR:=yhv s
  have hb:=ypz (y3r s) s hs.2
  refine AC.codeP yn.at yn.ok (ydj (by simp)) fun hlt=>?_
  simp only [yn]
  apply jA
  simp [yn.r0,y5s]
  apply jA
  simp [yn.r1]
  have hck:=ynr s hs.1 H
  simp only [y5s] at hck
  refine AC.fix hck ?_
  simp
  apply jB
  simp [yn.r2]
  refine AX.pcond rfl (fun h1=>?_) (fun h1=>AX.skip ?_)
  · simp at h1
    apply jA
    simp [yn.r3]
    apply jD
    simp [yih,h1]
    exact ⟨.refl _,.refl _⟩
  simp at h1
  have hg:=(ypy s h1 hs.2).1
  simp
  apply jA
  simp [yn.r4]
  have htx:=ym1 s hs.2 H
  simp only [y5s] at htx
  refine AC.fix htx ?_
  simp
  apply jB
  simp [yn.r5,ss]
  refine AX.pcond rfl (fun h2=>?_) (fun h2=>AX.skip ?_)
  · simp at h2
    apply jA
    simp [yn.r6]
    apply jD
    simp [yih,h1,h2]
    exact ⟨.refl _,.refl _⟩
  simp at h2
  simp
  apply jB
  simp [yn.r7]
  refine AX.pblock (AX.loop (E27Inv s H) (y3r s).length ⟨_,_,.refl _ _,0,by omega,by omega,by simp,rfl,by simp [y5s,ss]⟩ ?_)
  rintro m F X ⟨i,hi,rfl,hal,rfl,rfl⟩
  simp only [yn.l0]
  apply jB
  simp [yn.r8,ss]
  refine AX.pcond rfl (fun hd=>AX.skip ?_) (fun hd=>AX.exit ?_)
  · simp at hd
    simp
    apply jC
    simp [yn.r9,hd,ss]
    refine AX.pcond rfl (fun h3=>?_) (fun h3=>AX.skip ?_)
    · simp at h3
      apply jA
      simp [yn.r10]
      apply jD
      have:=yqv hd h3
      simp only [yih,this]
      simp [h1,show ¬6000<(y3r s).length by omega]
      exact ⟨.refl _,.refl _⟩
    · simp at h3
      simp
      apply jE
      simp [yn.r11,y5x (show i≤9223372036854775000 by omega)]
      exact ⟨(y3r s).length-(i+1),by omega,_,_,.refl _ _,i+1,by omega,rfl,yma hd hal (by omega),rfl,by simp [y5s,ss]⟩
  simp at hd
  have:i=(y3r s).length:=by omega
  subst this
  rw [List.take_length] at hal
  have hany:((y3r s).any fun t=>decide (1000<t.length))=false:=by
    rw [List.any_eq_false];intro t ht;simpa using hal t ht
  have h1000:∀t∈y3r s,t.length≤1000:=fun t ht=>by have:=hal t ht;omega
  have henc:yih s=if 200000<(ycj s).length then ([],9) else (ycj s,0):=by simp [yih,h1,show ¬6000<(y3r s).length by omega,hany]
  have hpl:=ymv h1000 (by omega)
  have hv:=y7e (n:=(yiw (y3r s) s).1.length) (by omega)
  rw [henc]
  simp
  apply jA
  simp [yn.r12,y5s]
  have hby:=ym2 (y3r s) hR (by omega) s hs.2 X
  simp only [y5s,ss] at hby
  refine AC.fix hby ?_
  generalize hbd:(yiw (y3r s) s).1=b at *
  have hfile:ycj s=yi6 (y8p++ydm (y3r s) b):=by rw [ycj,hbd]
  simp
  apply jA
  simp [yn.r13]
  have hv1:y7w 1=[1]:=y9y (by omega)
  refine AC.fix (ybq 1 (by omega) _) ?_
  simp [hv1]
  have hpb:=ypf (y3r s) (by omega) h1000 X
  simp only [ss] at hpb
  refine AC.fix hpb ?_
  simp
  refine ⟨by omega,AC.fix (ybq b.length (by omega) _) ?_⟩
  simp
  refine ⟨by omega,by omega,?_⟩
  have hrest:ydm (y3r s) b=1::(yc7 (y3r s)++(y7w b.length++b)):=by simp [ydm,hv1]
  refine AC.fix (yob _ (by simp;omega) _) ?_
  have hse:(119::101::102::116::1::(yc7 (y3r s)++(y7w b.length++b)))++yr4 (yfz 11994318 (119::101::102::116::1::(yc7 (y3r s)++(y7w b.length++b))))=ycj s:=by rw [hfile,hrest];rfl
  rw [hse]
  simp
  apply jB
  simp [yn.r14]
  refine AX.pcond rfl (fun h5=>?_) (fun h5=>AX.skip ?_)
  · simp at h5
    apply jA
    simp [yn.r15]
    apply jD
    simp [h5]
    exact ⟨.refl _,.refl _⟩
  · simp at h5
    simp
    apply jA
    simp [yn.r16]
    apply jD
    simp [show ¬200000<(ycj s).length by omega]
    exact ⟨.refl _,.refl _⟩
theorem su_set (s:Su):setAll [V.s [],V.sl none 0 0,V.sl none 0 0,V.sl none 0 0,V.sl none 0 0,V.sl none 0 0,V.sl none 0 0] 0 (y5s s)=y5s s:=yef (by simp [y5s])
theorem su_cv (s:Su):y89 (.agg (y5s s))=some (y5s s):=by simp [y5s,ss]
theorem ypq (s:Su):(y5s s).length=7:=rfl
theorem su_ne (s:Su):y5s s≠[]:=by simp [y5s]
theorem yo6 (s:Su):(y5s s).take 7=y5s s:=rfl
theorem yr1 (H:Hp):AC Tryz.prog ybi [] H (fun v H'=>v=.b true∧H'=H):=by
  refine AC.codeP y3f.at y3f.ok (yuf _) fun hlt=>?_
  simp only [y3f]
  apply jA
  simp [y3f.r0]
  apply jA
  simp [y3f.r1]
  refine AC.fix (ynx suA suA_h.1 H) ?_
  simp
  obtain ⟨h1,h2,h3⟩:=suA_enc
  have hd:=dec_ful suA_h h1
  rw [h1]
  generalize (yih suA).1=b at *
  apply jA
  simp [y3f.r2]
  refine AC.fix (yrt b (by omega) H) ?_
  rw [hd]
  simp [-y89,su_cv,ypq,su_ne,yvg,su_set]
  apply jA
  have hb:(b.length:Int)=20:=by omega
  simp [y3f.r3,h2,h3,hb,y5s,suA]
  apply jD
  simp
  exact ⟨.add hlt _,.refl _⟩
theorem yht (s:Su) (hs:suZ s) (H:Hp):AC Tryz.prog y7x [.agg (y5s s)] H (fun v H'=>v=.b true∧H'=H):=by
  refine AC.code y1r.at y1r.ok ?_
  simp only [y1r]
  apply jA
  simp [-y89,su_cv,y1r.r0]
  apply jB
  simp [y1r.r1,ypq,yo6]
  refine (ypb s hs H).mono ?_
  rintro _ H' ⟨⟨b,rfl,hb⟩,hH⟩
  obtain rfl:=hH.symm
  cases b with
  | true=>
    simp
    refine jG rfl (jA ?_)
    simp [y1r.r2]
    apply jD
    simp
  | false=>
  simp
  refine jF rfl (AX.skip ?_)
  have hs:=hb rfl
  simp
  apply jA
  simp [y1r.r3,ypq,yo6]
  refine AC.fix (ynx s hs.1 H) ?_
  simp
  apply jA
  simp [y1r.r4,ypq,yo6]
  refine AC.fix (yns s hs.1 H) ?_
  simp
  apply jA
  simp [y1r.r5]
  refine AC.fix (yr1 H) ?_
  simp
  apply jD
  simp
end Go.Proofs.YthmkcebbeehbeaaGreatDoor
