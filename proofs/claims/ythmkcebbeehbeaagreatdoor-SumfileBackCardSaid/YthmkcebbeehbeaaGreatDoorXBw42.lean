/- Part 42 of the proof of the laws of the queries: Sum3, DecW, EncW. -/
import Derived.Test.YthmkcebbeehbeaaGreatDoorXBw29
import Derived.Test.YthmkcebbeehbeaaGreatDoorXBw33
import Derived.Test.YthmkcebbeehbeaaGreatDoorXBw35
import Derived.Test.YthmkcebbeehbeaaGreatDoorXBw38
import Derived.Test.YthmkcebbeehbeaaGreatDoorXBw39
import Derived.Test.YthmkcebbeehbeaaGreatDoorXBw41
set_option linter.unusedSimpArgs false
set_option linter.unusedVariables false
namespace Go.Proofs.YthmkcebbeehbeaaGreatDoor
open Am C
def ThI0 (s:Sy) (n:Str) (H:Hp) (m:Nat) (F:Fr) (X:Hp):Prop:=
  ∃i,i≤s.objs.length∧m=s.objs.length-i∧(s.objs.take i).any (fun o=>decide (o.name=n))=false∧X=H∧F=[(1,.s n),(2,.fp (y6g s) 0),(5,.i .i64 i)]
def ThI1 (s:Sy) (n:Str) (H:Hp) (m:Nat) (F:Fr) (X:Hp):Prop:=
  ∃i,i≤s.fns.length∧m=s.fns.length-i∧(s.fns.take i).any (fun o=>decide (o.name=n))=false∧X=H∧F=[(1,.s n),(2,.fp (y6g s) 0),(6,.i .i64 i)]
theorem yl8 {α:Type} {p:α→Bool} {l:List α} {i:Nat} (h:i<l.length) (hn:(l.take i).any p=false):(l.take (i+1)).any p=p l[i]:=by
  rw [List.take_add_one,List.getElem?_eq_getElem h,List.any_append,hn];simp
theorem yuh {α:Type} {p:α→Bool} {l:List α} {i:Nat} (h:i<l.length) (hp:p l[i]=true):l.any p=true:=List.any_eq_true.2 ⟨_,List.getElem_mem h,hp⟩
theorem yur (s:Sy) (n:Str) (h1:s.objs.length≤1000000) (h2:s.fns.length≤1000000) (H:Hp):AC Tryz.prog yas [.agg (y6g s),.s n] H (fun v H'=>v=.b (yfz s n)∧H'=H):=by
  refine AC.code y16.at y16.ok ?_
  simp only [y16]
  apply jA
  simp [y16.r0,y6g]
  apply jB
  simp [y16.r1]
  refine AX.pblock (AX.loop (ThI0 s n H) s.objs.length ⟨_,_,.refl _ _,0,by omega,by omega,by simp,rfl,by simp [y6g]⟩ ?_)
  rintro m F X ⟨i,hi,rfl,hx,rfl,rfl⟩
  simp only [y16.l0]
  apply jB
  simp [y16.r2,y6g]
  refine AX.pcond rfl (fun hd=>AX.skip ?_) (fun hd=>AX.exit ?_)
  · simp at hd
    have hg:s.objs[i]?=some s.objs[i]:=List.getElem?_eq_getElem hd
    have e1:=yl8 (p:=fun o:Ob=>decide (o.name=n)) hd hx
    have e2:=yuh (p:=fun o:Ob=>decide (o.name=n)) hd
    generalize s.objs[i]=o at *
    simp
    apply jC
    simp [y16.r3,hg,y5p]
    refine AX.pcond rfl (fun hb=>?_) (fun hb=>AX.skip ?_)
    · apply jA
      simp [y16.r4]
      apply jD
      simp [yfz,e2 hb]
    simp
    apply jE
    simp [y16.r5,y5n (i:=i) (by omega)]
    exact ⟨s.objs.length-(i+1),by omega,_,_,.refl _ _,i+1,by omega,rfl,e1.trans hb,rfl,by simp [y6g]⟩
  simp at hd
  rw [List.take_of_length_le hd] at hx
  simp
  apply jB
  simp [y16.r6]
  refine AX.pblock (AX.loop (ThI1 s n X) s.fns.length ⟨_,_,.refl _ _,0,by omega,by omega,by simp,rfl,by simp [y6g]⟩ ?_)
  rintro m F X2 ⟨k,hk,rfl,hy,rfl,rfl⟩
  simp only [y16.l1]
  apply jB
  simp [y16.r7,y6g]
  refine AX.pcond rfl (fun he=>AX.skip ?_) (fun he=>AX.exit ?_)
  · simp at he
    have hg:s.fns[k]?=some s.fns[k]:=List.getElem?_eq_getElem he
    have e1:=yl8 (p:=fun o:Fu=>decide (o.name=n)) he hy
    have e2:=yuh (p:=fun o:Fu=>decide (o.name=n)) he
    generalize s.fns[k]=o at *
    simp
    apply jC
    simp [y16.r8,hg,ya5]
    refine AX.pcond rfl (fun hb=>?_) (fun hb=>AX.skip ?_)
    · apply jA
      simp [y16.r9]
      apply jD
      simp [yfz,e2 hb]
    simp
    apply jE
    simp [y16.r10,y5n (i:=k) (by omega)]
    exact ⟨s.fns.length-(k+1),by omega,_,_,.refl _ _,k+1,by omega,rfl,e1.trans hb,rfl,by simp [y6g]⟩
  simp at he
  rw [List.take_of_length_le he] at hy
  simp
  apply jA
  simp [y16.r11]
  apply jD
  simp only [yfz,hx,hy]
  simp
def RckI0 (s:Su) (X:Hp) (m:Nat) (F:Fr) (Y:Hp):Prop:=
  ∃i,i≤2∧m=2-i∧(0<i→ygm s.sys s.gives=0)∧(1<i→ygm s.sys s.wants=0)∧Y=X∧F=[(1,.fp (y5u s) 0),(4,.i .i64 i)]
def RckI1 (s:Su) (l:List Str) (i:Nat) (X:Hp) (m:Nat) (F:Fr) (Y:Hp):Prop:=
  ∃k,k≤l.length∧m=l.length-k∧(l.take k).all (yfz s.sys)=true∧Y=X∧F=[(1,.fp (y5u s) 0),(4,.i .i64 i),(5,ss l),(6,.i .i64 k)]
def RckI2 (s:Su) (X:Hp) (m:Nat) (F:Fr) (Y:Hp):Prop:=
  ∃k,k≤s.gives.length∧m=s.gives.length-k∧(s.gives.take k).any (fun n=>decide (n∈s.wants))=false∧Y=X∧F=[(1,.fp (y5u s) 0),(7,.i .i64 k)]
def RckI3 (s:Su) (X:Hp) (m:Nat) (F:Fr) (Y:Hp):Prop:=
  ∃k,k≤s.keeps.length∧m=s.keeps.length-k∧(s.keeps.take k).all y9r=true∧Y=X∧F=[(1,.fp (y5u s) 0),(8,.i .i64 k)]
theorem ypw {α:Type} {p:α→Bool} {l:List α} {i:Nat} (h:i<l.length) (hn:(l.take i).all p=true):(l.take (i+1)).all p=p l[i]:=by
  rw [List.take_add_one,List.getElem?_eq_getElem h,List.all_append,hn];simp
theorem all_no {α:Type} {p:α→Bool} {l:List α} {i:Nat} (h:i<l.length) (hp:p l[i]=false):l.all p=false:=by
  cases hh:l.all p with
  | false=>rfl
  | true=>have:=List.all_eq_true.1 hh _ (List.getElem_mem h);rw [hp] at this;cases this
theorem num_mem (l:List Str) (x:Str):decide (0≤ykr l x)=decide (x∈l):=by
  have:=@yg5 l x
  by_cases h:x∈l
  · have h2:¬ykr l x<0:=fun e=>this.1 e h
    simp [h];omega
  · have h2:=this.2 h
    simp [h];omega
set_option maxHeartbeats 1000000 in
theorem yn1 (s:Su) (hs:suS s) (H:Hp):AC Tryz.prog yat [.agg (y5u s)] H (fun v H'=>v=.i .i64 (suE s)∧H'=H):=by
  obtain ⟨q1,q2,q3,q4,q5,q6⟩:=hs
  have q7:=q6.1
  have q8:=q6.2.1
  refine AC.code y6.at y6.ok ?_
  simp only [y6]
  apply jA
  simp [y6.r0,y5u]
  apply jB
  simp [y6.r1]
  refine AC.fix (yle s.name (by omega) _) ?_
  simp
  refine AX.pcond rfl (fun h1=>?_) (fun h1=>AX.skip ?_)
  · simp at h1
    apply jA
    simp [y6.r2]
    apply jD
    simp [suE,h1]
  simp at h1
  simp
  apply jA
  simp [y6.r3]
  refine AC.fix (yuw s.sys q6 _) ?_
  simp
  apply jB
  simp [y6.r4]
  refine AX.pcond rfl (fun h2=>?_) (fun h2=>AX.skip ?_)
  · simp at h2
    apply jA
    simp [y6.r5]
    apply jD
    simp [suE,h1,orI,h2]
  simp at h2
  simp
  apply jB
  simp [y6.r6]
  refine AX.pblock (AX.loop (RckI0 s H) 2 ⟨_,_,.refl _ _,0,by omega,by omega,by simp,by simp,rfl,by simp [y5u]⟩ ?_)
  rintro m F X ⟨i,hi,rfl,hg,hw,rfl,rfl⟩
  simp only [y6.l0]
  apply jB
  simp [y6.r7]
  refine AX.pcond rfl (fun hd=>AX.skip ?_) (fun hd=>AX.exit ?_)
  · simp at hd
    obtain ⟨l,hl,hll,hle⟩:∃l:List Str,[[ss s.gives],[ss s.wants]][i]?=some [ss l]∧l.length≤140737488355328∧(ygm s.sys l≠0→suE s=ygm s.sys l)∧(ygm s.sys l=0→(0<i+1→ygm s.sys s.gives=0)∧(1<i+1→ygm s.sys s.wants=0)):=by
      match i,hd with
      | 0,_=>exact ⟨s.gives,rfl,q2,fun h=>by simp [suE,h1,orI,h2,h],fun h=>⟨fun _=>h,fun h=>by omega⟩⟩
      | 1,_=>exact ⟨s.wants,rfl,q3,fun h=>by simp [suE,h1,orI,h2,h,hg (by omega)],fun h=>⟨fun _=>hg (by omega),fun _=>h⟩⟩
    simp
    apply jC
    simp [y6.r8,y5u,ydj,show List.range 2=[0,1] from rfl,hl]
    apply jB
    simp [y6.r9]
    refine AC.fix (yjs l (by omega) _) ?_
    simp
    refine AX.pcond rfl (fun h3=>?_) (fun h3=>AX.skip ?_)
    · simp at h3
      apply jA
      simp [y6.r10]
      apply jD
      have:ygm s.sys l=13:=by simp [ygm,h3]
      simp [hle.1 (by rw [this];decide),this]
    simp at h3
    simp
    apply jA
    simp [y6.r11]
    refine AX.pblock (AX.loop (RckI1 s l i X) l.length ⟨_,_,.refl _ _,0,by omega,by omega,by simp,rfl,by simp [y5u]⟩ ?_)
    rintro m F Y ⟨k,hk,rfl,ha,rfl,rfl⟩
    simp only [y6.l1]
    apply jB
    simp [y6.r12,ss]
    refine AX.pcond rfl (fun he=>AX.skip ?_) (fun he=>AX.exit ?_)
    · simp at he
      have ht:=yur s.sys l[k] q7 q8
      have e1:=ypw (p:=yfz s.sys) he ha
      have e2:=all_no (p:=yfz s.sys) he
      have hg2:l[k]?=some l[k]:=List.getElem?_eq_getElem he
      generalize l[k]=n at *
      simp
      refine AX.seq (AX.pblock (AX.seq (AX.drw ?_)))
      simp [y6.r13,y5u,ss,hg2]
      refine y4y _ (fun H2=>ht H2) ?_
      simp
      refine AX.pcond rfl (fun hb=>?_) (fun hb=>AX.skip ?_)
      · simp at hb
        apply jA
        simp [y6.r14]
        apply jD
        have:ygm s.sys l=7:=by simp only [ygm,h3,e2 hb];rfl
        simp [hle.1 (by rw [this];decide),this]
      simp at hb
      simp
      apply jE
      simp [y6.r15,y5n (i:=k) (by omega)]
      exact ⟨l.length-(k+1),by omega,_,_,.refl _ _,k+1,by omega,rfl,e1.trans hb,rfl,by simp [y5u,ss]⟩
    simp at he
    rw [List.take_of_length_le he] at ha
    have h0:ygm s.sys l=0:=by simp only [ygm,h3,ha];rfl
    obtain ⟨n1,n2⟩:=hle.2 h0
    simp
    apply jE
    simp [y6.r16,y5n (i:=i) (by omega)]
    exact ⟨2-(i+1),by omega,_,_,.refl _ _,i+1,by omega,rfl,n1,n2,rfl,by simp [y5u]⟩
  simp at hd
  have hg:=hg (by omega)
  have hw:=hw (by omega)
  simp
  apply jB
  simp [y6.r17]
  refine AX.pblock (AX.loop (RckI2 s X) s.gives.length ⟨_,_,.refl _ _,0,by omega,by omega,by simp,rfl,by simp [y5u]⟩ ?_)
  rintro m F Y ⟨k,hk,rfl,hx,rfl,rfl⟩
  simp only [y6.l2]
  apply jB
  simp [y6.r18,y5u,ss]
  refine AX.pcond rfl (fun he=>AX.skip ?_) (fun he=>AX.exit ?_)
  · simp at he
    have ht:=yuy s.wants s.gives[k] (by show s.wants.length≤9223372036854775807;omega)
    have e1:=yl8 (p:=fun n=>decide (n∈s.wants)) he hx
    have e2:=yuh (p:=fun n=>decide (n∈s.wants)) he
    have hg2:s.gives[k]?=some s.gives[k]:=List.getElem?_eq_getElem he
    generalize s.gives[k]=n at *
    simp
    refine AX.seq (AX.pblock (AX.seq (AX.drw ?_)))
    simp [y6.r19,y5u,ss,hg2]
    refine y4y _ (fun H2=>ht H2) ?_
    simp [num_mem]
    refine AX.pcond rfl (fun hb=>?_) (fun hb=>AX.skip ?_)
    · have e3:=e2 hb
      apply jA
      simp [y6.r20]
      apply jD
      simp only [suE,e3]
      simp [h1,orI,h2,hg,hw]
    simp
    apply jE
    simp [y6.r21,y5n (i:=k) (by omega)]
    exact ⟨s.gives.length-(k+1),by omega,_,_,.refl _ _,k+1,by omega,rfl,e1.trans hb,rfl,by simp [y5u,ss]⟩
  simp at he
  rw [List.take_of_length_le he] at hx
  simp
  apply jB
  simp [y6.r22,y5u,ss]
  refine AX.pcond rfl (fun h6=>?_) (fun h6=>AX.skip ?_)
  · simp at h6
    apply jA
    simp [y6.r23]
    apply jD
    simp only [suE,hx]
    simp [h1,orI,h2,hg,hw,h6]
  simp at h6
  simp
  apply jB
  simp [y6.r24,y5u]
  refine AC.fix (yjs s.keeps (by omega) _) ?_
  simp
  refine AX.pcond rfl (fun h7=>?_) (fun h7=>AX.skip ?_)
  · simp at h7
    apply jA
    simp [y6.r25]
    apply jD
    simp only [suE,hx]
    simp [h1,orI,h2,hg,hw,h7,show ¬6000<s.keeps.length by omega]
  simp at h7
  simp
  apply jB
  simp [y6.r26]
  refine AX.pblock (AX.loop (RckI3 s Y) s.keeps.length ⟨_,_,.refl _ _,0,by omega,by omega,by simp,rfl,by simp [y5u,ss]⟩ ?_)
  rintro m F Z ⟨j,hj,rfl,hy,rfl,rfl⟩
  simp only [y6.l3]
  apply jB
  simp [y6.r27,y5u,ss]
  refine AX.pcond rfl (fun he=>AX.skip ?_) (fun he=>AX.exit ?_)
  · simp at he
    have ht:=ygg s.keeps[j] (by have:=q5 _ (List.getElem_mem he);omega)
    have e1:=ypw (p:=y9r) he hy
    have e2:=all_no (p:=y9r) he
    have hg2:s.keeps[j]?=some s.keeps[j]:=List.getElem?_eq_getElem he
    generalize s.keeps[j]=n at *
    simp
    apply jC
    simp [y6.r28,y5u,ss,hg2]
    refine AC.fix (ht _) ?_
    simp
    refine AX.pcond rfl (fun hb=>?_) (fun hb=>AX.skip ?_)
    · simp at hb
      have e3:=e2 hb
      apply jA
      simp [y6.r29]
      apply jD
      simp only [suE,hx,e3]
      simp [h1,orI,h2,hg,hw,h7,show ¬6000<s.keeps.length by omega]
    simp at hb
    simp
    apply jE
    simp [y6.r30,y5n (i:=j) (by omega)]
    exact ⟨s.keeps.length-(j+1),by omega,_,_,.refl _ _,j+1,by omega,rfl,e1.trans hb,rfl,by simp [y5u,ss]⟩
  simp at he
  rw [List.take_of_length_le he] at hy
  simp
  apply jA
  simp [y6.r31]
  apply jD
  simp only [suE,hx,hy]
  simp [h1,orI,h2,hg,hw,h7,show ¬6000<s.keeps.length by omega]
theorem yl9 (H:Hp) (cs ds:List V) (m:Nat):(H.add (.cells cs m)).upd H.next (.cells ds m)=H.add (.cells ds m):=by
  refine Hp.ext' (fun j=>?_) rfl
  simp only [Hp.get_upd,Hp.get_add]
  split <;> rfl
theorem ygq:∀(b a:List Str),y4h a→y4h b→(∀x∈a,x∈b)→a.length≤b.length∧(a.length=b.length→a=b)
  | [],a,_,_,h=>by
    cases a with
    | nil=>simp
    | cons x r=>have:=h x (by simp);cases this
  | y::b,[],_,_,_=>by simp
  | y::b,x::a,ha,hb,h=>by
    simp only [y4h,List.pairwise_cons] at ha hb
    by_cases e:x=y
    · subst e
      have:=ygq b a ha.2 hb.2 (fun z hz=>by
        rcases List.mem_cons.1 (h z (by simp [hz])) with rfl | h
        · exact (ya0 _ (ha.1 _ hz)).elim
        · exact h)
      simp only [List.length_cons]
      exact ⟨by omega,fun e=>by rw [this.2 (by omega)]⟩
    · have hx:x∈b:=by
        rcases List.mem_cons.1 (h x (by simp)) with h | h
        · exact (e h).elim
        · exact h
      have hyx:=hb.1 x hx
      have:=ygq b (x::a) (by simp only [y4h,List.pairwise_cons];exact ha) hb.2 (fun z hz=>by
        rcases List.mem_cons.1 (h z hz) with rfl | h
        · rcases List.mem_cons.1 hz with rfl | hz
          · exact (e rfl).elim
          · exact (ya0 _ (yej hyx (ha.1 _ hz))).elim
        · exact h)
      simp only [List.length_cons] at this ⊢
      exact ⟨by omega,fun e=>by omega⟩
theorem texts_of {l:List Str} {x:Str} (hr:y4h l) (h:(yar l x).2=0):(y4f (yar l x).1=l↔(y4f (yar l x).1).length=l.length):=by
  have hok:=(ynh hr h).2
  have:=ygq l (y4f (yar l x).1) (y9p _) hr (fun t ht=>hok (.txt t) (yi3.2 (ydu.1 ht)))
  exact ⟨fun e=>by rw [e],this.2⟩
set_option maxHeartbeats 1000000 in
theorem yh3 (b:Str) (hb:b.length≤140737488351232) (H:Hp):AC Tryz.prog y8r [.s b] H (fun v H'=>v=.tup [.agg (y5u (yhs b).1),.i .i64 (yhs b).2]∧H'=H):=by
  refine AC.codeP yp.at yp.ok (yf2 (by simp [ydz (yln _)])) fun hlt=>?_
  have hR:∀D,yhs b=D→∃D,yhs b=D:=fun D h=>⟨D,h⟩
  simp only [yp]
  apply jA
  simp [yp.r0]
  have N0:=Nb.new hlt (.cells [.s [],.sl none 0 0,.sl none 0 0,.sl none 0 0,.sl none 0 0,.sl none 0 0,.sl none 0 0] 7)
  generalize H.add (.cells [.s [],.sl none 0 0,.sl none 0 0,.sl none 0 0,.sl none 0 0,.sl none 0 0,.sl none 0 0] 7)=X at *
  generalize hid:H.next=id at *
  have g0:=N0.get
  apply jB
  simp [yp.r1]
  by_cases h1:200000<b.length
  · refine jG (by simp [h1]) (jA ?_)
    simp [yp.r2,g0]
    apply jD
    simp
    refine ⟨(N0.upd _).ext,?_⟩
    have:yhs b=(su0,9):=by unfold yhs;rw [if_pos h1]
    rw [this]
    exact ydx yfq
  refine jF (by simp;omega) (AX.skip ?_)
  simp
  apply jA
  simp [yp.r3]
  refine AC.fix (yo2 b hb X) ?_
  simp
  apply jB
  simp [yp.r4]
  cases h2:(ye6 b).2 with
  | false=>
    refine jG (by simp [h2]) (jA ?_)
    simp [yp.r5,g0]
    apply jD
    simp
    refine ⟨(N0.upd _).ext,?_⟩
    have:yhs b=(su0,14):=by unfold yhs;rw [if_neg h1,if_pos h2]
    rw [this]
    exact ydx yfq
  | true=>
  refine jF (by simp [h2]) (AX.skip ?_)
  simp
  have hol:=(ym8 h2).2
  have hD:yhs b=ytx (ye6 b).1:=by unfold yhs;rw [if_neg h1,if_neg (by simp [h2])]
  rw [hD]
  generalize (ye6 b).1=t at *
  apply jA
  simp [yp.r6]
  refine (SOpen_ok t (by omega) X).mono ?_
  rintro _ X2 ⟨⟨pv,x,e,rfl,he1,he2⟩,hX⟩
  obtain rfl:=hX.symm
  simp
  apply jB
  simp [yp.r7]
  by_cases h3:e=0
  case neg=>
    refine jG (by simp [h3]) (jA ?_)
    simp [yp.r8,g0]
    apply jD
    simp
    refine ⟨(N0.upd _).ext,?_⟩
    rw [he1 h3]
    exact ydx yfq
  refine jF (by simp [h3]) (AX.skip ?_)
  simp
  obtain ⟨l,hP,h1000,h6000,hx,hD2⟩:=he2 h3
  rw [hD2]
  unfold decR
  apply jA
  simp [yp.r9]
  refine AC.fix (yqw hP x (by omega) _) ?_
  have hsz:=yp1 hP.1 h1000 hx
  have htx:=texts_of (x:=x) hP.1
  generalize yar l x=S at *
  obtain ⟨s,f⟩:=S
  have hsa:setAll [V.s [],V.sl none 0 0,V.sl none 0 0,V.sl none 0 0,V.sl none 0 0,V.sl none 0 0,V.sl none 0 0] 0 (y5u s)=y5u s:=ydm (by simp [y5u])
  have hcv:y7e (.agg (y5u s))=some (y5u s):=by simp [y5u,ss]
  have hsl:(y5u s).length=7:=rfl
  have hsne:y5u s≠[]:=by simp [y5u]
  simp [-y7e,hcv,hsl,hsne,yl9,hsa]
  simp only at hsz htx
  have E1:=N0.ext.trans (.add N0.lt (.cells (y5u s) 7))
  have L1:=Hp.add_lt N0.lt (.cells (y5u s) 7)
  have G1:(X.add (.cells (y5u s) 7)).get X.next=some (.cells (y5u s) 7):=by simp
  have hidl:=N0.lt _ _ g0
  have Q1:(X.add (.cells (y5u s) 7)).get id=some (.cells [.s [],.sl none 0 0,.sl none 0 0,.sl none 0 0,.sl none 0 0,.sl none 0 0,.sl none 0 0] 7):=by rw [Hp.get_add,if_neg (by omega)];exact g0
  have N1:Nb H id (.cells [.s [],.sl none 0 0,.sl none 0 0,.sl none 0 0,.sl none 0 0,.sl none 0 0,.sl none 0 0] 7) (X.add (.cells (y5u s) 7)):=⟨E1,L1,Q1,N0.hi,N0.hlt⟩
  have hnn:X.next≠id:=by omega
  generalize X.add (.cells (y5u s) 7)=Y at *
  generalize X.next=sid at *
  by_cases h4:f=0
  case neg=>
    apply jB
    simp [yp.r10]
    refine jF (by simp [h4]) (AX.skip ?_)
    simp
    apply jB
    simp [yp.r12,h4]
    refine jF rfl (AX.skip ?_)
    simp
    apply jB
    simp [yp.r14]
    refine jG (by simp [h4]) (jA ?_)
    simp [yp.r15,Q1]
    apply jD
    simp
    refine ⟨(N1.upd _).ext,?_⟩
    exact ydx yfq
  subst h4
  have hsz:=hsz rfl
  have htx:=htx rfl
  apply jB
  simp [yp.r10]
  refine jG rfl (AX.reg ?_)
  simp [yp.r11,G1]
  refine AC.fix (yj3 s hsz.1 _) ?_
  simp
  by_cases h5:suE s=0
  case neg=>
    apply jB
    simp [yp.r12,h5]
    refine jF rfl (AX.skip ?_)
    simp
    apply jB
    simp [yp.r14]
    refine jG (by simp [h5]) (jA ?_)
    simp [yp.r15,Q1]
    apply jD
    simp
    refine ⟨(N1.upd _).ext,?_⟩
    exact ydx yfq
  simp [h5]
  apply jB
  simp [yp.r12,G1]
  refine AC.fix (yj4 s hsz.2 _) ?_
  simp [ss]
  refine AC.fix (PLen_ok hP _) ?_
  simp
  by_cases h6:(y4f s).length=l.length
  case neg=>
    have h7:¬y4f s=l:=fun h=>h6 (htx.1 h)
    rw [if_neg h7]
    refine jG (by simp;omega) (AX.reg ?_)
    simp [yp.r13]
    apply jB
    simp [yp.r14]
    refine jG rfl (jA ?_)
    simp [yp.r15,Q1]
    apply jD
    simp
    refine ⟨(N1.upd _).ext,?_⟩
    exact ydx yfq
  rw [if_pos (htx.2 h6)]
  refine jF (by simp;omega) (AX.skip ?_)
  simp
  apply jB
  simp [yp.r14]
  refine jF rfl (AX.skip ?_)
  simp
  apply jA
  have htk:(y5u s).take 7=y5u s:=rfl
  simp [-y7e,hcv,yp.r16,Q1,G1,hsl,hsa,hsne,htk]
  apply jD
  simp
  exact ⟨(N1.upd _).ext,.refl _⟩
theorem ync {l:List Str} (h:y4h l):y6y l=l:=yjr (y9p _) h fun x=>ydu
theorem ylk (s:Su):y4h (y4f s):=y9p _
theorem yry (s:Su):(y4f s).length≤(evS s).length:=by
  have h1:=yea (txs (evS s)) (txs (evS s)).length
  rw [List.take_length] at h1
  have h2:=yke (evS s)
  have:(y4f s).length≤(txs (evS s)).length:=h1
  omega
theorem sum3_len (v:Nat):(sum3 v).length=3:=rfl
theorem ysm {l:List Str} (h:∀s∈l,s.length≤1000) (hl:l.length≤6000):(yd9 l).length≤6200000:=by
  have h1:=yig l [] h
  have h2:=y9o (n:=l.length) (by omega)
  simp only [yd9,List.length_append];omega
theorem recE_len (pool:List Str) (s:Su) (hb:(evS s).length≤1000000):(ylg pool s).1.length≤5000000:=by
  have hq:qwB qw0 (evS s).length:=by unfold qwB;simp [qw0];omega
  have:∀(es:List Ev) (τ:Qw),(yf6 pool τ es).bs.length≤τ.bs.length+5*es.length:=fun es=>by
    induction es with
    | nil=>intro τ;simp
    | cons x r ih=>
      intro τ
      have h1:=ih (yn5 pool τ x)
      have h2:=(qwEv_len pool τ x).1
      rw [ybt,List.length_cons];omega
  have h:=this (evS s) qw0
  unfold ylg
  split
  · simp
  · simp [qw0] at h ⊢;omega
def EcInv (s:Su) (H:Hp) (m:Nat) (F:Fr) (X:Hp):Prop:=
  ∃i,i≤(y4f s).length∧m=(y4f s).length-i∧(∀t∈(y4f s).take i,¬1000<t.length)∧X=H∧F=[(1,.fp (y5u s) 0),(5,ss (y4f s)),(24,ss (y4f s)),(25,.i .i64 (y4f s).length),(26,.i .i64 i)]
theorem any_true {T:List Str} {i:Nat} (h:i<T.length) (hb:1000<T[i].length):(T.any fun t=>decide (1000<t.length))=true:=List.any_eq_true.2 ⟨T[i],List.getElem_mem h,by simpa using hb⟩
theorem ys2 {T:List Str} {i:Nat} (hd:i<T.length) (h:∀t∈T.take i,¬1000<t.length) (h1:¬1000<T[i].length):∀t∈T.take (i+1),¬1000<t.length:=fun t ht=>by
  rw [List.take_add_one,List.getElem?_eq_getElem hd,Option.toList_some] at ht
  rcases List.mem_append.1 ht with ht | ht
  · exact h t ht
  · rw [List.mem_singleton] at ht;subst ht;exact h1
theorem ygj (s:Su) (hs:suF s) (H:Hp):AC Tryz.prog y7j [.agg (y5u s)] H (fun v H'=>v=.tup [.s (yhh s).1,.i .i64 (yhh s).2]∧H'=H):=by
  have hT:=yry s
  have hR:=ylk s
  have hb:=recE_len (y4f s) s hs.2
  refine AC.codeP yb.at yb.ok (yf2 (by simp)) fun hlt=>?_
  simp only [yb]
  apply jA
  simp [yb.r0,y5u]
  apply jB
  simp [yb.r1]
  have hck:=yj3 s hs.1 H
  simp only [y5u] at hck
  refine AC.fix hck ?_
  simp
  apply jA
  simp [yb.r2]
  refine AX.pcond rfl (fun h1=>?_) (fun h1=>AX.skip ?_)
  · simp at h1
    apply jA
    simp [yb.r3]
    apply jD
    simp [yhh,h1]
    exact ⟨.refl _,.refl _⟩
  simp at h1
  have hg:=(rec_good s h1 hs.2).1
  simp
  apply jA
  simp [yb.r4]
  have htx:=yj4 s hs.2 H
  simp only [y5u] at htx
  refine AC.fix htx ?_
  simp
  apply jB
  simp [yb.r5,ss]
  refine AX.pcond rfl (fun h2=>?_) (fun h2=>AX.skip ?_)
  · simp at h2
    apply jA
    simp [yb.r6]
    apply jD
    simp [yhh,h1,h2]
    exact ⟨.refl _,.refl _⟩
  simp at h2
  simp
  apply jB
  simp [yb.r7]
  refine AX.pblock (AX.loop (EcInv s H) (y4f s).length ⟨_,_,.refl _ _,0,by omega,by omega,by simp,rfl,by simp [y5u,ss]⟩ ?_)
  rintro m F X ⟨i,hi,rfl,hal,rfl,rfl⟩
  simp only [yb.l0]
  apply jA
  simp [yb.r8]
  refine AX.seq (AX.pcond rfl (fun hd=>AX.skip ?_) (fun hd=>AX.exit ?_))
  · simp at hd
    simp
    apply jC
    simp [yb.r9,hd,ss]
    apply jA
    simp [yb.r10]
    refine AX.pcond rfl (fun h3=>?_) (fun h3=>AX.skip ?_)
    · simp at h3
      apply jA
      simp [yb.r11]
      apply jD
      have:=any_true hd h3
      simp only [yhh,this]
      simp [h1,show ¬6000<(y4f s).length by omega]
      exact ⟨.refl _,.refl _⟩
    · simp at h3
      simp
      apply jE
      simp [yb.r12,y5n (show i≤9223372036854775000 by omega)]
      exact ⟨(y4f s).length-(i+1),by omega,_,_,.refl _ _,i+1,by omega,rfl,ys2 hd hal (by omega),rfl,by simp [y5u,ss]⟩
  simp at hd
  have:i=(y4f s).length:=by omega
  subst this
  rw [List.take_length] at hal
  have hany:((y4f s).any fun t=>decide (1000<t.length))=false:=by
    rw [List.any_eq_false];intro t ht;simpa using hal t ht
  have h1000:∀t∈y4f s,t.length≤1000:=fun t ht=>by have:=hal t ht;omega
  have henc:yhh s=if 200000<(yde s).length then ([],9) else (yde s,0):=by simp [yhh,h1,show ¬6000<(y4f s).length by omega,hany]
  have hfl:(yde s).length=4+(1+((yd9 (y4f s)).length+((y8b (ylg (y4f s) s).1.length).length+(ylg (y4f s) s).1.length)))+3:=by
    simp [yde,yia,sum3_len,y7t,yco,ya6 (n:=1) (by omega)];omega
  have hpl:=ysm h1000 (by omega)
  rw [henc]
  simp
  apply jA
  simp [yb.r13]
  refine AC.fix (POf_ok _ (by omega) _) ?_
  rw [ync hR]
  simp
  apply jA
  simp [yb.r14,y5u]
  have hby:=yoj (y4f s) hR (by omega) s hs.2 X
  simp only [y5u] at hby
  refine AC.fix hby ?_
  rw [hg]
  generalize hbd:(ylg (y4f s) s).1=b at *
  have hfile:yde s=yia (y7t++yco (y4f s) b):=by rw [yde,hbd]
  simp
  apply jB
  simp [yb.r15]
  refine jF rfl (AX.skip ?_)
  simp
  apply jA
  simp [yb.r17]
  have e1:=Am.Hp.Ext.add hlt (.cells [.pz 58 3 X.next 3,.sl none 0 0,.i .i64 0] 3)
  have l1:=Hp.add_lt hlt (.cells [.pz 58 3 X.next 3,.sl none 0 0,.i .i64 0] 3)
  have W0:WB X 58 3 X.next [.i .i64 0] [] (X.add (.cells [.pz 58 3 X.next 3,.sl none 0 0,.i .i64 0] 3)) (.sl none 0 0):=
    ⟨hlt,by kernel_rfl,rfl,Nat.le_refl _,Acc.nil 1 0 e1 l1,trivial,.pz 58 3 X.next 3,.sl none 0 0,3,by simp,by omega,.inr rfl,.inl ⟨rfl,0,rfl⟩⟩
  generalize X.add (.cells [.pz 58 3 X.next 3,.sl none 0 0,.i .i64 0] 3)=X0 at *
  apply jA
  simp [yb.r18]
  refine (ydi 1 W0 (by simp)).mono ?_
  rintro _ X1 ⟨rfl,v1,W1,K1⟩
  have hw1:yi1 0 [] 1=(0,y8b 1):=by simp [yi1]
  rw [hw1] at W1
  simp
  apply jA
  simp [yb.r19]
  refine (yux (y4f s) _ ⟨hR,by omega,.inr rfl⟩ (by omega) h1000 W1 (by rw [ya6 (by omega)];simp)).mono ?_
  rintro _ X2 ⟨rfl,v2,W2,K2⟩
  simp
  apply jA
  simp [yb.r20]
  have hl2:(y8b 1++yd9 (y4f s)).length≤1000000000:=by rw [ya6 (by omega)];simp;omega
  refine (ypx b W2 hl2).mono ?_
  rintro _ X3 ⟨rfl,v3,W3,K3⟩
  simp
  apply jA
  simp [yb.r21]
  by_cases hbl:200000<b.length
  · have hw3:yot 0 (y8b 1++yd9 (y4f s)) b=(9,y8b 1++yd9 (y4f s)):=by simp only [yot];rw [if_neg (by simp),if_pos hbl]
    rw [hw3] at W3
    refine (yla W3 (by rw [ya6 (by omega)];simp)).mono ?_
    rintro _ X4 ⟨rfl,n4,k4⟩
    simp
    apply jB
    simp [yb.r22]
    refine jG rfl (jA ?_)
    simp [yb.r23]
    apply jD
    simp [show 200000<(yde s).length by omega]
    exact ⟨⟨by rw [n4];exact W3.acc.ext.1,fun k blk h=>k4 _ _ (W3.acc.ext.2 _ _ h) (W3.acc.sepOld (hlt _ _ h))⟩,.refl _⟩
  · have hw3:yot 0 (y8b 1++yd9 (y4f s)) b=(0,yco (y4f s) b):=by simp only [yot];rw [if_neg (by simp),if_neg hbl];simp [yco]
    rw [hw3] at W3
    have hrl:(yco (y4f s) b).length≤100000000:=by
      have:=y9o (n:=b.length) (by omega)
      simp only [yco,List.length_append,ya6 (show 1<128 by omega)];simp;omega
    refine (yla W3 (by rw [yco,ya6 (by omega)];simp)).mono ?_
    rintro _ X4 ⟨rfl,n4,k4⟩
    have hx4:X.Ext X4:=⟨by rw [n4];exact W3.acc.ext.1,fun k blk h=>k4 _ _ (W3.acc.ext.2 _ _ h) (W3.acc.sepOld (hlt _ _ h))⟩
    simp
    apply jB
    simp [yb.r22]
    refine jF rfl (AX.skip ?_)
    simp
    apply jA
    simp [yb.r24]
    refine ⟨by omega,AC.fix (yiu _ (by simp;omega) _) ?_⟩
    have hse:(119::101::102::116::yco (y4f s) b)++sum3 (yjj 11994318 (119::101::102::116::yco (y4f s) b))=yde s:=by rw [hfile];rfl
    rw [hse]
    simp
    apply jB
    simp [yb.r25]
    refine AX.pcond rfl (fun h5=>?_) (fun h5=>AX.skip ?_)
    · simp at h5
      apply jA
      simp [yb.r26]
      apply jD
      simp [h5]
      exact ⟨hx4,.refl _⟩
    · simp at h5
      simp
      apply jA
      simp [yb.r27]
      apply jD
      simp [show ¬200000<(yde s).length by omega]
      exact ⟨hx4,.refl _⟩
end Go.Proofs.YthmkcebbeehbeaaGreatDoor
