/- Part 40 of the proof of the laws of the queries: DecW, EncW, SmW, LwE. -/
import Derived.Test.YthmkcebbeehbeaaGreatDoorXTw19
import Derived.Test.YthmkcebbeehbeaaGreatDoorXTw27
import Derived.Test.YthmkcebbeehbeaaGreatDoorXTw30
import Derived.Test.YthmkcebbeehbeaaGreatDoorXTw33
import Derived.Test.YthmkcebbeehbeaaGreatDoorXTw35
import Derived.Test.YthmkcebbeehbeaaGreatDoorXTw36
import Derived.Test.YthmkcebbeehbeaaGreatDoorXTw39
set_option linter.unusedSimpArgs false
set_option linter.unusedVariables false
namespace Go.Proofs.YthmkcebbeehbeaaGreatDoor
open Am C
theorem yig (H:Hp) (cs ds:List V) (m:Nat):(H.add (.cells cs m)).upd H.next (.cells ds m)=H.add (.cells ds m):=by
  refine Hp.ext' (fun j=>?_) rfl
  simp only [Hp.get_upd,Hp.get_add]
  split <;> rfl
theorem ye5:∀(b a:List Str),y3o a→y3o b→(∀x∈a,x∈b)→a.length≤b.length∧(a.length=b.length→a=b)
  | [],a,_,_,h=>by
    cases a with
    | nil=>simp
    | cons x r=>have:=h x (by simp);cases this
  | y::b,[],_,_,_=>by simp
  | y::b,x::a,ha,hb,h=>by
    simp only [y3o,List.pairwise_cons] at ha hb
    by_cases e:x=y
    · subst e
      have:=ye5 b a ha.2 hb.2 (fun z hz=>by
        rcases List.mem_cons.1 (h z (by simp [hz])) with rfl | h
        · exact (y92 _ (ha.1 _ hz)).elim
        · exact h)
      simp only [List.length_cons]
      exact ⟨by omega,fun e=>by rw [this.2 (by omega)]⟩
    · have hx:x∈b:=by
        rcases List.mem_cons.1 (h x (by simp)) with h | h
        · exact (e h).elim
        · exact h
      have hyx:=hb.1 x hx
      have:=ye5 b (x::a) (by simp only [y3o,List.pairwise_cons];exact ha) hb.2 (fun z hz=>by
        rcases List.mem_cons.1 (h z hz) with rfl | h
        · rcases List.mem_cons.1 hz with rfl | hz
          · exact (e rfl).elim
          · exact (y92 _ (yca hyx (ha.1 _ hz))).elim
        · exact h)
      simp only [List.length_cons] at this ⊢
      exact ⟨by omega,fun e=>by omega⟩
theorem texts_of {l:List Str} {x:Str} (hr:y3o l) (h:(y9h l x).2=0):(y3i (y9h l x).1=l↔(y3i (y9h l x).1).length=l.length):=by
  have hok:=(ypa hr h).2
  have:=ye5 l (y3i (y9h l x).1) (y7w _) hr (fun t ht=>hok (.txt t) (yfg.2 (ybl.1 ht)))
  exact ⟨fun e=>by rw [e],this.2⟩
set_option maxHeartbeats 1000000 in
theorem yhm (b:Str) (hb:b.length≤140737488351232) (H:Hp):AC Tryz.prog y84 [.s b] H (fun v H'=>v=.tup [.agg (y6i (ymm b).1),.i .i64 (ymm b).2]∧H'=H):=by
  refine AC.codeP yi.at yi.ok (ycs (by simp [ybp (yiq _)])) fun hlt=>?_
  have hR:∀D,ymm b=D→∃D,ymm b=D:=fun D h=>⟨D,h⟩
  simp only [yi]
  apply jA
  simp [yi.r0]
  have N0:=Nb.new hlt (.cells [.s [],.sl none 0 0,.sl none 0 0,.sl none 0 0,.sl none 0 0,.sl none 0 0,.sl none 0 0] 7)
  generalize H.add (.cells [.s [],.sl none 0 0,.sl none 0 0,.sl none 0 0,.sl none 0 0,.sl none 0 0,.sl none 0 0] 7)=X at *
  generalize hid:H.next=id at *
  have g0:=N0.get
  apply jB
  simp [yi.r1]
  by_cases h1:200000<b.length
  · refine jG (by simp [h1]) (jA ?_)
    simp [yi.r2,g0]
    apply jD
    simp
    refine ⟨(N0.upd _).ext,?_⟩
    have:ymm b=(su0,9):=by unfold ymm;rw [if_pos h1]
    rw [this]
    exact ybn ydc
  refine jF (by simp;omega) (AX.skip ?_)
  simp
  apply jA
  simp [yi.r3]
  refine AC.fix (yl6 b hb X) ?_
  simp
  apply jB
  simp [yi.r4]
  cases h2:(y9o b).2 with
  | false=>
    refine jG (by simp [h2]) (jA ?_)
    simp [yi.r5,g0]
    apply jD
    simp
    refine ⟨(N0.upd _).ext,?_⟩
    have:ymm b=(su0,14):=by unfold ymm;rw [if_neg h1,if_pos h2]
    rw [this]
    exact ybn ydc
  | true=>
  refine jF (by simp [h2]) (AX.skip ?_)
  simp
  have hol:=(ypn h2).2
  have hD:ymm b=decT (y9o b).1:=by unfold ymm;rw [if_neg h1,if_neg (by simp [h2])]
  rw [hD]
  generalize (y9o b).1=t at *
  apply jA
  simp [yi.r6]
  refine (SOpen_ok t (by omega) X).mono ?_
  rintro _ X2 ⟨⟨pv,x,e,rfl,he1,he2⟩,hX⟩
  obtain rfl:=hX.symm
  simp
  apply jB
  simp [yi.r7]
  by_cases h3:e=0
  case neg=>
    refine jG (by simp [h3]) (jA ?_)
    simp [yi.r8,g0]
    apply jD
    simp
    refine ⟨(N0.upd _).ext,?_⟩
    rw [he1 h3]
    exact ybn ydc
  refine jF (by simp [h3]) (AX.skip ?_)
  simp
  obtain ⟨l,hP,h1000,h6000,hx,hD2⟩:=he2 h3
  rw [hD2]
  unfold decR
  apply jA
  simp [yi.r9]
  refine AC.fix (ynx hP x (by omega) _) ?_
  have hsz:=rec_size hP.1 h1000 hx
  have htx:=texts_of (x:=x) hP.1
  generalize y9h l x=S at *
  obtain ⟨s,f⟩:=S
  have hsa:setAll [V.s [],V.sl none 0 0,V.sl none 0 0,V.sl none 0 0,V.sl none 0 0,V.sl none 0 0,V.sl none 0 0] 0 (y6i s)=y6i s:=ybd (by simp [y6i])
  have hcv:y65 (.agg (y6i s))=some (y6i s):=by simp [y6i,ss]
  have hsl:(y6i s).length=7:=rfl
  have hsne:y6i s≠[]:=by simp [y6i]
  simp [-y65,hcv,hsl,hsne,yig,hsa]
  simp only at hsz htx
  have E1:=N0.ext.trans (.add N0.lt (.cells (y6i s) 7))
  have L1:=Hp.add_lt N0.lt (.cells (y6i s) 7)
  have G1:(X.add (.cells (y6i s) 7)).get X.next=some (.cells (y6i s) 7):=by simp
  have hidl:=N0.lt _ _ g0
  have Q1:(X.add (.cells (y6i s) 7)).get id=some (.cells [.s [],.sl none 0 0,.sl none 0 0,.sl none 0 0,.sl none 0 0,.sl none 0 0,.sl none 0 0] 7):=by rw [Hp.get_add,if_neg (by omega)];exact g0
  have N1:Nb H id (.cells [.s [],.sl none 0 0,.sl none 0 0,.sl none 0 0,.sl none 0 0,.sl none 0 0,.sl none 0 0] 7) (X.add (.cells (y6i s) 7)):=⟨E1,L1,Q1,N0.hi,N0.hlt⟩
  have hnn:X.next≠id:=by omega
  generalize X.add (.cells (y6i s) 7)=Y at *
  generalize X.next=sid at *
  by_cases h4:f=0
  case neg=>
    apply jB
    simp [yi.r10]
    refine jF (by simp [h4]) (AX.skip ?_)
    simp
    apply jB
    simp [yi.r12,h4]
    refine jF rfl (AX.skip ?_)
    simp
    apply jB
    simp [yi.r14]
    refine jG (by simp [h4]) (jA ?_)
    simp [yi.r15,Q1]
    apply jD
    simp
    refine ⟨(N1.upd _).ext,?_⟩
    exact ybn ydc
  subst h4
  have hsz:=hsz rfl
  have htx:=htx rfl
  apply jB
  simp [yi.r10]
  refine jG rfl (AX.reg ?_)
  simp [yi.r11,G1]
  refine AC.fix (ygf s hsz.1 _) ?_
  simp
  by_cases h5:suE s=0
  case neg=>
    apply jB
    simp [yi.r12,h5]
    refine jF rfl (AX.skip ?_)
    simp
    apply jB
    simp [yi.r14]
    refine jG (by simp [h5]) (jA ?_)
    simp [yi.r15,Q1]
    apply jD
    simp
    refine ⟨(N1.upd _).ext,?_⟩
    exact ybn ydc
  simp [h5]
  apply jB
  simp [yi.r12,G1]
  refine AC.fix (ygg s hsz.2 _) ?_
  simp [ss]
  refine AC.fix (PLen_ok hP _) ?_
  simp
  by_cases h6:(y3i s).length=l.length
  case neg=>
    have h7:¬y3i s=l:=fun h=>h6 (htx.1 h)
    rw [if_neg h7]
    refine jG (by simp;omega) (AX.reg ?_)
    simp [yi.r13]
    apply jB
    simp [yi.r14]
    refine jG rfl (jA ?_)
    simp [yi.r15,Q1]
    apply jD
    simp
    refine ⟨(N1.upd _).ext,?_⟩
    exact ybn ydc
  rw [if_pos (htx.2 h6)]
  refine jF (by simp;omega) (AX.skip ?_)
  simp
  apply jB
  simp [yi.r14]
  refine jF rfl (AX.skip ?_)
  simp
  apply jA
  have htk:(y6i s).take 7=y6i s:=rfl
  simp [-y65,hcv,yi.r16,Q1,G1,hsl,hsa,hsne,htk]
  apply jD
  simp
  exact ⟨(N1.upd _).ext,.refl _⟩
theorem ykj {l:List Str} (h:y3o l):y5r l=l:=ygz (y7w _) h fun x=>ybl
theorem yio (s:Su):y3o (y3i s):=y7w _
theorem yow (s:Su):(y3i s).length≤(evS s).length:=by
  have h1:=yc3 (txs (evS s)) (txs (evS s)).length
  rw [List.take_length] at h1
  have h2:=yhp (evS s)
  have:(y3i s).length≤(txs (evS s)).length:=h1
  omega
theorem sum3_len (v:Nat):(yo4 v).length=3:=rfl
theorem ypk {l:List Str} (h:∀s∈l,s.length≤1000) (hl:l.length≤6000):(yb3 l).length≤6200000:=by
  have h1:=yfp l [] h
  have h2:=y7v (n:=l.length) (by omega)
  simp only [yb3,List.length_append];omega
theorem recE_len (pool:List Str) (s:Su) (hb:(evS s).length≤1000000):(yij pool s).1.length≤5000000:=by
  have hq:qwB qw0 (evS s).length:=by unfold qwB;simp [qw0];omega
  have:∀(es:List Ev) (τ:Qw),(ycw pool τ es).bs.length≤τ.bs.length+5*es.length:=fun es=>by
    induction es with
    | nil=>intro τ;simp
    | cons x r ih=>
      intro τ
      have h1:=ih (yk8 pool τ x)
      have h2:=(qwEv_len pool τ x).1
      rw [y9t,List.length_cons];omega
  have h:=this (evS s) qw0
  unfold yij
  split
  · simp
  · simp [qw0] at h ⊢;omega
def EcInv (s:Su) (H:Hp) (m:Nat) (F:Fr) (X:Hp):Prop:=
  ∃i,i≤(y3i s).length∧m=(y3i s).length-i∧(∀t∈(y3i s).take i,¬1000<t.length)∧X=H∧F=[(1,.fp (y6i s) 0),(5,ss (y3i s)),(24,ss (y3i s)),(25,.i .i64 (y3i s).length),(26,.i .i64 i)]
theorem any_true {T:List Str} {i:Nat} (h:i<T.length) (hb:1000<T[i].length):(T.any fun t=>decide (1000<t.length))=true:=List.any_eq_true.2 ⟨T[i],List.getElem_mem h,by simpa using hb⟩
theorem yoz {T:List Str} {i:Nat} (hd:i<T.length) (h:∀t∈T.take i,¬1000<t.length) (h1:¬1000<T[i].length):∀t∈T.take (i+1),¬1000<t.length:=fun t ht=>by
  rw [List.take_add_one,List.getElem?_eq_getElem hd,Option.toList_some] at ht
  rcases List.mem_append.1 ht with ht | ht
  · exact h t ht
  · rw [List.mem_singleton] at ht;subst ht;exact h1
theorem yk5 (s:Su) (hs:suF s) (H:Hp):AC Tryz.prog y83 [.agg (y6i s)] H (fun v H'=>v=.tup [.s (ygl s).1,.i .i64 (ygl s).2]∧H'=H):=by
  have hT:=yow s
  have hR:=yio s
  have hb:=recE_len (y3i s) s hs.2
  refine AC.codeP y8.at y8.ok (ycs (by simp)) fun hlt=>?_
  simp only [y8]
  apply jA
  simp [y8.r0,y6i]
  apply jB
  simp [y8.r1]
  have hck:=ygf s hs.1 H
  simp only [y6i] at hck
  refine AC.fix hck ?_
  simp
  apply jA
  simp [y8.r2]
  refine AX.pcond rfl (fun h1=>?_) (fun h1=>AX.skip ?_)
  · simp at h1
    apply jA
    simp [y8.r3]
    apply jD
    simp [ygl,h1]
    exact ⟨.refl _,.refl _⟩
  simp at h1
  have hg:=(rec_good s h1 hs.2).1
  simp
  apply jA
  simp [y8.r4]
  have htx:=ygg s hs.2 H
  simp only [y6i] at htx
  refine AC.fix htx ?_
  simp
  apply jB
  simp [y8.r5,ss]
  refine AX.pcond rfl (fun h2=>?_) (fun h2=>AX.skip ?_)
  · simp at h2
    apply jA
    simp [y8.r6]
    apply jD
    simp [ygl,h1,h2]
    exact ⟨.refl _,.refl _⟩
  simp at h2
  simp
  apply jB
  simp [y8.r7]
  refine AX.pblock (AX.loop (EcInv s H) (y3i s).length ⟨_,_,.refl _ _,0,by omega,by omega,by simp,rfl,by simp [y6i,ss]⟩ ?_)
  rintro m F X ⟨i,hi,rfl,hal,rfl,rfl⟩
  simp only [y8.l0]
  apply jA
  simp [y8.r8]
  refine AX.seq (AX.pcond rfl (fun hd=>AX.skip ?_) (fun hd=>AX.exit ?_))
  · simp at hd
    simp
    apply jC
    simp [y8.r9,hd,ss]
    apply jA
    simp [y8.r10]
    refine AX.pcond rfl (fun h3=>?_) (fun h3=>AX.skip ?_)
    · simp at h3
      apply jA
      simp [y8.r11]
      apply jD
      have:=any_true hd h3
      simp only [ygl,this]
      simp [h1,show ¬6000<(y3i s).length by omega]
      exact ⟨.refl _,.refl _⟩
    · simp at h3
      simp
      apply jE
      simp [y8.r12,y7a (show i≤9223372036854775000 by omega)]
      exact ⟨(y3i s).length-(i+1),by omega,_,_,.refl _ _,i+1,by omega,rfl,yoz hd hal (by omega),rfl,by simp [y6i,ss]⟩
  simp at hd
  have:i=(y3i s).length:=by omega
  subst this
  rw [List.take_length] at hal
  have hany:((y3i s).any fun t=>decide (1000<t.length))=false:=by
    rw [List.any_eq_false];intro t ht;simpa using hal t ht
  have h1000:∀t∈y3i s,t.length≤1000:=fun t ht=>by have:=hal t ht;omega
  have henc:ygl s=if 200000<(yb6 s).length then ([],9) else (yb6 s,0):=by simp [ygl,h1,show ¬6000<(y3i s).length by omega,hany]
  have hfl:(yb6 s).length=4+(1+((yb3 (y3i s)).length+((y6s (yij (y3i s) s).1.length).length+(yij (y3i s) s).1.length)))+3:=by
    simp [yb6,yfl,sum3_len,y6u,yby,y8d (n:=1) (by omega)];omega
  have hpl:=ypk h1000 (by omega)
  rw [henc]
  simp
  apply jA
  simp [y8.r13]
  refine AC.fix (POf_ok _ (by omega) _) ?_
  rw [ykj hR]
  simp
  apply jA
  simp [y8.r14,y6i]
  have hby:=ylm (y3i s) hR (by omega) s hs.2 X
  simp only [y6i] at hby
  refine AC.fix hby ?_
  rw [hg]
  generalize hbd:(yij (y3i s) s).1=b at *
  have hfile:yb6 s=yfl (y6u++yby (y3i s) b):=by rw [yb6,hbd]
  simp
  apply jB
  simp [y8.r15]
  refine jF rfl (AX.skip ?_)
  simp
  apply jA
  simp [y8.r17]
  have e1:=Am.Hp.Ext.add hlt (.cells [.pz 58 3 X.next 3,.sl none 0 0,.i .i64 0] 3)
  have l1:=Hp.add_lt hlt (.cells [.pz 58 3 X.next 3,.sl none 0 0,.i .i64 0] 3)
  have W0:WB X 58 3 X.next [.i .i64 0] [] (X.add (.cells [.pz 58 3 X.next 3,.sl none 0 0,.i .i64 0] 3)) (.sl none 0 0):=
    ⟨hlt,by kernel_rfl,rfl,Nat.le_refl _,Acc.nil 1 0 e1 l1,trivial,.pz 58 3 X.next 3,.sl none 0 0,3,by simp,by omega,.inr rfl,.inl ⟨rfl,0,rfl⟩⟩
  generalize X.add (.cells [.pz 58 3 X.next 3,.sl none 0 0,.i .i64 0] 3)=X0 at *
  apply jA
  simp [y8.r18]
  refine (yb9 1 W0 (by simp)).mono ?_
  rintro _ X1 ⟨rfl,v1,W1,K1⟩
  have hw1:yfc 0 [] 1=(0,y6s 1):=by simp [yfc]
  rw [hw1] at W1
  simp
  apply jA
  simp [y8.r19]
  refine (yrq (y3i s) _ ⟨hR,by omega,.inr rfl⟩ (by omega) h1000 W1 (by rw [y8d (by omega)];simp)).mono ?_
  rintro _ X2 ⟨rfl,v2,W2,K2⟩
  simp
  apply jA
  simp [y8.r20]
  have hl2:(y6s 1++yb3 (y3i s)).length≤1000000000:=by rw [y8d (by omega)];simp;omega
  refine (ymy b W2 hl2).mono ?_
  rintro _ X3 ⟨rfl,v3,W3,K3⟩
  simp
  apply jA
  simp [y8.r21]
  by_cases hbl:200000<b.length
  · have hw3:ylv 0 (y6s 1++yb3 (y3i s)) b=(9,y6s 1++yb3 (y3i s)):=by simp only [ylv];rw [if_neg (by simp),if_pos hbl]
    rw [hw3] at W3
    refine (yih W3 (by rw [y8d (by omega)];simp)).mono ?_
    rintro _ X4 ⟨rfl,n4,k4⟩
    simp
    apply jB
    simp [y8.r22]
    refine jG rfl (jA ?_)
    simp [y8.r23]
    apply jD
    simp [show 200000<(yb6 s).length by omega]
    exact ⟨⟨by rw [n4];exact W3.acc.ext.1,fun k blk h=>k4 _ _ (W3.acc.ext.2 _ _ h) (W3.acc.sepOld (hlt _ _ h))⟩,.refl _⟩
  · have hw3:ylv 0 (y6s 1++yb3 (y3i s)) b=(0,yby (y3i s) b):=by simp only [ylv];rw [if_neg (by simp),if_neg hbl];simp [yby]
    rw [hw3] at W3
    have hrl:(yby (y3i s) b).length≤100000000:=by
      have:=y7v (n:=b.length) (by omega)
      simp only [yby,List.length_append,y8d (show 1<128 by omega)];simp;omega
    refine (yih W3 (by rw [yby,y8d (by omega)];simp)).mono ?_
    rintro _ X4 ⟨rfl,n4,k4⟩
    have hx4:X.Ext X4:=⟨by rw [n4];exact W3.acc.ext.1,fun k blk h=>k4 _ _ (W3.acc.ext.2 _ _ h) (W3.acc.sepOld (hlt _ _ h))⟩
    simp
    apply jB
    simp [y8.r22]
    refine jF rfl (AX.skip ?_)
    simp
    apply jA
    simp [y8.r24]
    refine ⟨by omega,AC.fix (yg6 _ (by simp;omega) _) ?_⟩
    have hse:(119::101::102::116::yby (y3i s) b)++yo4 (yce 11994318 (119::101::102::116::yby (y3i s) b))=yb6 s:=by rw [hfile];rfl
    rw [hse]
    simp
    apply jB
    simp [y8.r25]
    refine AX.pcond rfl (fun h5=>?_) (fun h5=>AX.skip ?_)
    · simp at h5
      apply jA
      simp [y8.r26]
      apply jD
      simp [h5]
      exact ⟨hx4,.refl _⟩
    · simp at h5
      simp
      apply jA
      simp [y8.r27]
      apply jD
      simp [show ¬200000<(yb6 s).length by omega]
      exact ⟨hx4,.refl _⟩
noncomputable instance instCn:DecidableEq Cn:=Classical.typeDecidableEq Cn
noncomputable instance instSy:DecidableEq Sy:=Classical.typeDecidableEq Sy
noncomputable instance instSu:DecidableEq Su:=Classical.typeDecidableEq Su
theorem yp1 (s:Su):setAll [V.s [],V.sl none 0 0,V.sl none 0 0,V.sl none 0 0,V.sl none 0 0,V.sl none 0 0,V.sl none 0 0] 0 (y6i s)=y6i s:=ybd (by simp [y6i])
theorem su_cv (s:Su):y65 (.agg (y6i s))=some (y6i s):=by simp [y6i,ss]
theorem yir (s:Su):(y6i s).length=7:=rfl
theorem su_ne (s:Su):y6i s≠[]:=by simp [y6i]
theorem yp0 (s:Su):(y6i s).take 7=y6i s:=rfl
theorem yn2 (H:Hp):AC Tryz.prog y8w [] H (fun v H'=>v=.b true∧H'=H):=by
  refine AC.codeP y2j.at y2j.ok (yqa _) fun hlt=>?_
  simp only [y2j]
  apply jA
  simp [y2j.r0]
  apply jA
  simp [y2j.r1]
  refine AC.fix (yk5 suA suA_h.1 H) ?_
  simp
  obtain ⟨h1,h2,h3⟩:=suA_enc
  have hd:=yqu suA_h h1
  rw [h1]
  generalize (ygl suA).1=b at *
  apply jA
  simp [y2j.r2]
  refine AC.fix (yhm b (by omega) H) ?_
  rw [hd]
  simp [-y65,su_cv,yir,su_ne,yig,yp1]
  apply jA
  have hb:(b.length:Int)=20:=by omega
  simp [y2j.r3,h2,h3,hb,y6i,suA]
  apply jD
  simp
  exact ⟨.add hlt _,.refl _⟩
end Go.Proofs.YthmkcebbeehbeaaGreatDoor
