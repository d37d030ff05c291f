/- Part 39. -/
import Derived.Test.YtikpijbeobeckaaGreatDoorXGw17
import Derived.Test.YtikpijbeobeckaaGreatDoorXGw26
import Derived.Test.YtikpijbeobeckaaGreatDoorXGw32
import Derived.Test.YtikpijbeobeckaaGreatDoorXGw33
import Derived.Test.YtikpijbeobeckaaGreatDoorXGw38
set_option linter.unusedSimpArgs false
set_option linter.unusedVariables false
namespace Go.Proofs.YtikpijbeobeckaaGreatDoor
open Am C
def ldJ (s:Sy) (id:Nat) (P:List Str) (L0:RkL) (m0:Bool) (X0:Hp) (c:Cn) (ib:Nat) (v12 v13 v14 u:V) (l:List Nat) (mm:Nat) (F:Fr) (X:Hp):Prop:=
 ∃i L m,i≤l.length∧mm=l.length-i∧RkTr s id P L0 m0 X0 L m X (fun X=>∀k∈l.take i,∀q,L0.ts[k]?=some q→yav s q=true→∀p,X q p→X c.a p)∧F=[(0,.p (some (id,0,10))),(3,.p (some (ib,0,6))),(12,v12),(13,v13),(14,v14),(41,u),(42,.i .i64 l.length),(43,.i .i64 i)]
set_option maxHeartbeats 2000000 in
theorem ld_ok {s:Sy} {id:Nat} {P:List Str} {L:RkL} {m:Bool} {H:Hp} (R:RkOk s id L m H) (hN:SyN s) {c:Cn} (hc:c∈s.cons) (ho:c.op=3) {ib mb:Nat} (hib:L.tag ib=0) (gb:H.get ib=some (.cells (y3n c) mb)) (hmb:mb≤6) {v12 v13 v14 w w':V} {Q:y5i}
  (hQ:∀L' m' X,RkTr s id P L m H L' m' X (fun X=>∀q,X c.b q→yav s q=true→∀p,X q p→X c.a p)→Q .normal [(0,.p (some (id,0,10))),(12,v12),(13,v13),(14,v14)] X):
  AX Tryz.prog 91 (jJ [0,3,12,13,14,41,42,43] y0.r9 (.post [0,12,13,14] (.block 3 (.loop y0.l1)))) Q [(0,.p (some (id,0,10))),(3,.p (some (ib,0,6))),(12,v12),(13,v13),(14,v14),(19,w),(36,w')] H:=by
 have gb':=gb
 simp only [y3n] at gb'
 apply jA
 simp [y0.r9,gb',hmb]
 refine (yfh R c.b).mono ?_
 rintro u X0 ⟨L0,l,ia,R0,T0,hts0,hr0,su,hia,hll,hl1,hl2⟩
 obtain ⟨pp,z,rfl,hrow⟩:=su.len
 have gb0:=T0.keep _ _ hib gb
 have hib0:L0.tag ib=0:=by rw [T0.tag ib (R.lt _ _ gb)];exact hib
 simp
 refine AX.pblock (AX.loop (ldJ s id P L0 m X0 c ib v12 v13 v14 (.sl pp l.length z) l) l.length ⟨_,_,.refl _ _,0,L0,m,by omega,by omega,.refl R0 (fun X k hk=>by simp at hk),by simp⟩ ?_)
 rintro mm F X ⟨i,L1,m1,hi,rfl,A,rfl⟩
 simp only [y0.l1]
 apply jA
 simp [y0.r10]
 refine AX.seq (AX.pcond rfl (fun hb=>AX.skip ?_) (fun hb=>AX.exit ?_))
 rotate_left
 ·simp at hb
  simp
  have hil:i=l.length:=by omega
  subst hil
  rw [List.take_length] at A
  exact hQ L1 m1 X ((RkTr.from T0 hts0 hr0 A R.lt).to' fun g q hq hf=>by
   obtain ⟨k,hk,hx⟩:=hl2 q hq
   exact g k hk q (by rw [hts0];exact hx) hf)
 simp at hb
 simp
 have hne:l≠[]:=fun e=>by rw [e] at hb;exact absurd hb (by simp)
 obtain ⟨rfl,rfl,mr,gr,hmr⟩:=hrow hne
 have grX:=A.to.keep _ _ (hia hne) gr
 have gbX:=A.to.keep _ _ hib0 gb0
 simp only [y3n] at gbX
 obtain ⟨k,hk⟩:∃k,l[i]?=some k:=⟨_,kC hb⟩
 obtain ⟨x,hx0,hxr⟩:=hl1 k (kY hk)
 have hx1:L1.ts[k]?=some x:=by
  obtain ⟨r,hr⟩:=A.to.ts
  rw [←hr,hts0]
  rw [kR (List.getElem?_eq_some_iff.1 hx0).1];exact hx0
 have R1:=A.ok
 have hq1:y5x L1 c.b x:=A.tr.mono _ _ ((hr0 _ _).2 hxr)
 have hld:=yd9 hk
 have htk:l.take (i+1)=l.take i++[k]:=by rw [kJ,hk];rfl
 have stp:∀L2 m2 X2,RkTr s id P L1 m1 X L2 m2 X2 (fun X=>yav s x=true→∀p,X x p→X c.a p)→RkTr s id P L0 m X0 L2 m2 X2 (fun X=>∀k∈l.take (i+1),∀q,L0.ts[k]?=some q→yav s q=true→∀p,X q p→X c.a p):=fun L2 m2 X2 A2=>
  (A.trans A2 R0.lt).to' fun ⟨g1,g2⟩ k' hk' q hq hf=>by
   rw [htk] at hk'
   rcases List.mem_append.1 hk' with h | h
   ·exact g1 k' h q hq hf
   ·simp at h;subst h
    rw [hts0,hx0] at hq;injection hq with hq;subst hq
    exact g2 hf
 refine AX.cut (fun F X2=>F=[(0,.p (some (id,0,10))),(3,.p (some (ib,0,6))),(12,v12),(13,v13),(14,v14),(41,.sl (some (ia,0,l.length)) l.length 1),(42,.i .i64 l.length),(43,.i .i64 i)]∧RkT s id P L0 m X0 (fun X=>∀k∈l.take (i+1),∀q,L0.ts[k]?=some q→yav s q=true→∀p,X q p→X c.a p) X2) ?_ ?_
 rotate_left
 ·rintro F X2 ⟨rfl,L2,m2,A2⟩
  apply jE
  simp [y0.r14,y2g hb (show l.length≤9223372036854775807 by omega)]
  exact ⟨l.length-(i+1),by omega,_,_,.refl _ _,i+1,L2,m2,by omega,rfl,A2,by simp⟩
 refine AX.pblock (jA ?_)
 simp [y0.r11,hb,grX,hmr,ygx,hld,show i+1≤l.length by omega]
 apply jA
 simp [y0.r12]
 refine AC.fix (ydr R1 hN hx1) ?_
 simp
 refine AX.pcond (t:=yav s x) rfl (fun hp=>?_) (fun hp=>AX.skip ?_)
 ·refine AX.drwL (y0.r13.take 6) rfl rfl ?_
  simp [y0.r13,gbX,hmb]
  refine yg3 _ (yd6 R1 hx1) ?_
  simp
  refine (ybr R1 c.a x).mono ?_
  rintro v X2 ⟨L2,m2,A2⟩
  refine ⟨_,_,.refl _ _,rfl,L2,m2,stp _ _ _ ((A2.tr (P:=P) (fun Y hY hX n p h=>?_) (fun hx n y h=>?_)).to' fun g _ p hp=>g _ _ ⟨rfl,hp⟩)⟩
  ·obtain ⟨rfl,h⟩:=h
   exact hY c hc _ _ (.inr (.inr (.inl ⟨ho,rfl,x,hX _ _ hq1,hp,hX _ _ h⟩)))
  ·obtain ⟨_,e,he,_,k,_,h2⟩:=h
   exact hx y (kY h2)
 ·simp
  exact ⟨_,_,.refl _ _,by simp,L1,m1,stp _ _ _ (RkTr.refl R1 fun X h=>by rw [hp] at h;cases h)⟩
def stJ (s:Sy) (id:Nat) (P:List Str) (L0:RkL) (m0:Bool) (X0:Hp) (c:Cn) (ib:Nat) (v12 v13 v14 u:V) (l:List Nat) (mm:Nat) (F:Fr) (X:Hp):Prop:=
 ∃i L m,i≤l.length∧mm=l.length-i∧RkTr s id P L0 m0 X0 L m X (fun X=>∀k∈l.take i,∀q,L0.ts[k]?=some q→yav s q=true→∀p,X c.b p→X q p)∧F=[(0,.p (some (id,0,10))),(3,.p (some (ib,0,6))),(12,v12),(13,v13),(14,v14),(63,u),(64,.i .i64 l.length),(65,.i .i64 i)]
set_option maxHeartbeats 2000000 in
theorem st_ok {s:Sy} {id:Nat} {P:List Str} {L:RkL} {m:Bool} {H:Hp} (R:RkOk s id L m H) (hN:SyN s) {c:Cn} (hc:c∈s.cons) (ho:c.op=4) {ib mb:Nat} (hib:L.tag ib=0) (gb:H.get ib=some (.cells (y3n c) mb)) (hmb:mb≤6) {v12 v13 v14 w w':V} {Q:y5i}
  (hQ:∀L' m' X,RkTr s id P L m H L' m' X (fun X=>∀q,X c.a q→yav s q=true→∀p,X c.b p→X q p)→Q .normal [(0,.p (some (id,0,10))),(12,v12),(13,v13),(14,v14)] X):
  AX Tryz.prog 91 (jJ [0,3,12,13,14,63,64,65] y0.r16 (.post [0,12,13,14] (.block 5 (.loop y0.l2)))) Q [(0,.p (some (id,0,10))),(3,.p (some (ib,0,6))),(12,v12),(13,v13),(14,v14),(19,w),(58,w')] H:=by
 have gb':=gb
 simp only [y3n] at gb'
 apply jA
 simp [y0.r16,gb',hmb]
 refine (yfh R c.a).mono ?_
 rintro u X0 ⟨L0,l,ia,R0,T0,hts0,hr0,su,hia,hll,hl1,hl2⟩
 obtain ⟨pp,z,rfl,hrow⟩:=su.len
 have gb0:=T0.keep _ _ hib gb
 have hib0:L0.tag ib=0:=by rw [T0.tag ib (R.lt _ _ gb)];exact hib
 simp
 refine AX.pblock (AX.loop (stJ s id P L0 m X0 c ib v12 v13 v14 (.sl pp l.length z) l) l.length ⟨_,_,.refl _ _,0,L0,m,by omega,by omega,.refl R0 (fun X k hk=>by simp at hk),by simp⟩ ?_)
 rintro mm F X ⟨i,L1,m1,hi,rfl,A,rfl⟩
 simp only [y0.l2]
 apply jA
 simp [y0.r17]
 refine AX.seq (AX.pcond rfl (fun hb=>AX.skip ?_) (fun hb=>AX.exit ?_))
 rotate_left
 ·simp at hb
  simp
  have hil:i=l.length:=by omega
  subst hil
  rw [List.take_length] at A
  exact hQ L1 m1 X ((RkTr.from T0 hts0 hr0 A R.lt).to' fun g q hq hf=>by
   obtain ⟨k,hk,hx⟩:=hl2 q hq
   exact g k hk q (by rw [hts0];exact hx) hf)
 simp at hb
 simp
 have hne:l≠[]:=fun e=>by rw [e] at hb;exact absurd hb (by simp)
 obtain ⟨rfl,rfl,mr,gr,hmr⟩:=hrow hne
 have grX:=A.to.keep _ _ (hia hne) gr
 have gbX:=A.to.keep _ _ hib0 gb0
 simp only [y3n] at gbX
 obtain ⟨k,hk⟩:∃k,l[i]?=some k:=⟨_,kC hb⟩
 obtain ⟨x,hx0,hxr⟩:=hl1 k (kY hk)
 have hx1:L1.ts[k]?=some x:=by
  obtain ⟨r,hr⟩:=A.to.ts
  rw [←hr,hts0]
  rw [kR (List.getElem?_eq_some_iff.1 hx0).1];exact hx0
 have R1:=A.ok
 have hq1:y5x L1 c.a x:=A.tr.mono _ _ ((hr0 _ _).2 hxr)
 have hld:=yd9 hk
 have htk:l.take (i+1)=l.take i++[k]:=by rw [kJ,hk];rfl
 have stp:∀L2 m2 X2,RkTr s id P L1 m1 X L2 m2 X2 (fun X=>yav s x=true→∀p,X c.b p→X x p)→RkTr s id P L0 m X0 L2 m2 X2 (fun X=>∀k∈l.take (i+1),∀q,L0.ts[k]?=some q→yav s q=true→∀p,X c.b p→X q p):=fun L2 m2 X2 A2=>
  (A.trans A2 R0.lt).to' fun ⟨g1,g2⟩ k' hk' q hq hf=>by
   rw [htk] at hk'
   rcases List.mem_append.1 hk' with h | h
   ·exact g1 k' h q hq hf
   ·simp at h;subst h
    rw [hts0,hx0] at hq;injection hq with hq;subst hq
    exact g2 hf
 refine AX.cut (fun F X2=>F=[(0,.p (some (id,0,10))),(3,.p (some (ib,0,6))),(12,v12),(13,v13),(14,v14),(63,.sl (some (ia,0,l.length)) l.length 1),(64,.i .i64 l.length),(65,.i .i64 i)]∧RkT s id P L0 m X0 (fun X=>∀k∈l.take (i+1),∀q,L0.ts[k]?=some q→yav s q=true→∀p,X c.b p→X q p) X2) ?_ ?_
 rotate_left
 ·rintro F X2 ⟨rfl,L2,m2,A2⟩
  apply jE
  simp [y0.r21,y2g hb (show l.length≤9223372036854775807 by omega)]
  exact ⟨l.length-(i+1),by omega,_,_,.refl _ _,i+1,L2,m2,by omega,rfl,A2,by simp⟩
 refine AX.pblock (jA ?_)
 simp [y0.r18,hb,grX,hmr,ygx,hld,show i+1≤l.length by omega]
 apply jA
 simp [y0.r19]
 refine AC.fix (ydr R1 hN hx1) ?_
 simp
 refine AX.pcond (t:=yav s x) rfl (fun hp=>?_) (fun hp=>AX.skip ?_)
 ·refine AX.drwL (y0.r20.take 6) rfl rfl ?_
  simp [y0.r20,gbX,hmb]
  refine yg3 _ (yd6 R1 hx1) ?_
  simp [gbX,hmb]
  refine (ybr R1 x c.b).mono ?_
  rintro v X2 ⟨L2,m2,A2⟩
  refine ⟨_,_,.refl _ _,rfl,L2,m2,stp _ _ _ ((A2.tr (P:=P) (fun Y hY hX n p h=>?_) (fun hx n y h=>?_)).to' fun g _ p hp=>g _ _ ⟨rfl,hp⟩)⟩
  ·obtain ⟨rfl,h⟩:=h
   exact hY c hc _ _ (.inr (.inr (.inr (.inl ⟨ho,hX _ _ hq1,hp,hX _ _ h⟩))))
  ·obtain ⟨_,e,he,_,k,_,h2⟩:=h
   exact hx y (kY h2)
 ·simp
  exact ⟨_,_,.refl _ _,by simp,L1,m1,stp _ _ _ (RkTr.refl R1 fun X h=>by rw [hp] at h;cases h)⟩
structure CnR (s:Sy):Prop where
 op:∀c∈s.cons,1≤c.op∧c.op≤6
 sig:∀c∈s.cons,c.op=6→∃lk r,ybm c.tag=some (lk,r)
 args:∀c∈s.cons,c.args.length≤1000000
 tag:∀c∈s.cons,c.tag.length≤9223372036854775806
 big:s.cons.length≤1000000000
def RndI (s:Sy) (id:Nat) (P:List Str) (L0:RkL) (m0:Bool) (X0:Hp) (mm:Nat) (F:Fr) (X:Hp):Prop:=
 ∃i L m,i≤s.cons.length∧mm=s.cons.length-i∧RkTr s id P L0 m0 X0 L m X (fun X=>∀c∈s.cons.take i,y7d (Rl s c X) X)∧F=[(0,.p (some (id,0,10))),(12,.fs (s.cons.map y3n)),(13,.i .i64 s.cons.length),(14,.i .i64 i)]
theorem rl_add {s:Sy} {c:Cn} {X:Rel} (h:c.op=1) (g:y7d (fun n p=>n=c.a∧p=c.b) X):y7d (Rl s c X) X:=by
 rintro n p (⟨_,a,b⟩ | ⟨o,_⟩ | ⟨o,_⟩ | ⟨o,_⟩ | ⟨o,_⟩ | ⟨o,_⟩)
 ·exact g _ _ ⟨a,b⟩
 all_goals omega
theorem rl_copy {s:Sy} {c:Cn} {X:Rel} (h:c.op=2) (g:y7d (fun n p=>n=c.a∧X c.b p) X):y7d (Rl s c X) X:=by
 rintro n p (⟨o,_⟩ | ⟨_,a,b⟩ | ⟨o,_⟩ | ⟨o,_⟩ | ⟨o,_⟩ | ⟨o,_⟩)
 ·omega
 ·exact g _ _ ⟨a,b⟩
 all_goals omega
theorem rl_load {s:Sy} {c:Cn} {X:Rel} (h:c.op=3) (g:∀q,X c.b q→yav s q=true→∀p,X q p→X c.a p):y7d (Rl s c X) X:=by
 rintro n p (⟨o,_⟩ | ⟨o,_⟩ | ⟨_,rfl,q,a,b,d⟩ | ⟨o,_⟩ | ⟨o,_⟩ | ⟨o,_⟩)
 ·omega
 ·omega
 ·exact g q a b p d
 all_goals omega
theorem rl_store {s:Sy} {c:Cn} {X:Rel} (h:c.op=4) (g:∀q,X c.a q→yav s q=true→∀p,X c.b p→X q p):y7d (Rl s c X) X:=by
 rintro n p (⟨o,_⟩ | ⟨o,_⟩ | ⟨o,_⟩ | ⟨_,a,b,d⟩ | ⟨o,_⟩ | ⟨o,_⟩)
 ·omega
 ·omega
 ·omega
 ·exact g n a b p d
 all_goals omega
theorem rl_field {s:Sy} {c:Cn} {X:Rel} (h:c.op=5) (g:y7d (fun n p=>n=c.a∧p≠[]∧∃q,X c.b q∧y54 s q c.tag c.k=p) X):y7d (Rl s c X) X:=by
 rintro n p (⟨o,_⟩ | ⟨o,_⟩ | ⟨o,_⟩ | ⟨o,_⟩ | ⟨_,a,b,q,d,e⟩ | ⟨o,_⟩)
 ·omega
 ·omega
 ·omega
 ·omega
 ·exact g _ _ ⟨a,b,q,d,e⟩
 ·omega
theorem rl_call {s:Sy} {c:Cn} {X:Rel} (h:c.op=6) (g:∀q,X c.b q→y82 s q c.tag=true→GC c q X):y7d (Rl s c X) X:=by
 rintro n p (⟨o,_⟩ | ⟨o,_⟩ | ⟨o,_⟩ | ⟨o,_⟩ | ⟨o,_⟩ | ⟨_,q,a,b,d⟩)
 ·omega
 ·omega
 ·omega
 ·omega
 ·omega
 ·obtain ⟨g1,g2⟩:=g q a b
  rcases d with ⟨rfl,rfl⟩ | ⟨k,v,z1,z2,⟨rfl,rfl,z⟩ | ⟨z0,rfl,z⟩⟩
  ·exact g1
  ·exact (g2 0 _ (List.getElem?_eq_some_iff.1 z1).1 z1 z2).1 rfl p z
  ·exact (g2 k v (List.getElem?_eq_some_iff.1 z1).1 z1 z2).2 z0 p z
set_option maxHeartbeats 2000000 in
theorem yn2 {s:Sy} {id:Nat} {L:RkL} {m:Bool} {H:Hp} (R:RkOk s id L m H) (hN:SyN s) (hC:CnR s) {P:List Str} (hP:PlP s P) (ht:∀y∈L.ts,y∈P):
  AC Tryz.prog y5n [.p (some (id,0,10))] H (fun _ X=>RkT s id P L m H (Cl s) X):=by
 have hbig:=hC.big
 obtain ⟨mb,hg,hm⟩:=R.blk
 refine AC.code y0.at y0.ok ?_
 simp only [y0]
 apply jA
 simp [y0.r0,hg,hm,yau]
 refine AX.pblock (AX.loop (RndI s id P L m H) s.cons.length ⟨_,_,.refl _ _,0,L,m,by omega,by omega,.refl R (fun X c hc=>by simp at hc),by simp⟩ ?_)
 rintro mm F X ⟨i,L1,m1,hi,rfl,A,rfl⟩
 simp only [y0.l0]
 apply jA
 simp [y0.r1]
 refine AX.seq (AX.pcond rfl (fun hb=>AX.skip ?_) (fun hb=>AX.exit ?_))
 rotate_left
 ·simp at hb
  simp
  have hil:i=s.cons.length:=by omega
  subst hil
  rw [List.take_length] at A
  exact ⟨L1,m1,A⟩
 simp at hb
 simp
 obtain ⟨c,hci⟩:∃c,s.cons[i]?=some c:=⟨_,kC hb⟩
 have hce:s.cons[i]=c:=(List.getElem?_eq_some_iff.1 hci).2
 have hc:=kY hci
 have R1:=A.ok
 have tsP:∀y∈L1.ts,y∈P:=A.tsp ht
 have htk:s.cons.take (i+1)=s.cons.take i++[c]:=by rw [kJ,hci];rfl
 have stp:∀L2 m2 X2,RkTr s id P L1 m1 X L2 m2 X2 (fun X=>y7d (Rl s c X) X)→RkTr s id P L m H L2 m2 X2 (fun X=>∀c∈s.cons.take (i+1),y7d (Rl s c X) X):=fun L2 m2 X2 A2=>
  (A.trans A2 R.lt).to' fun ⟨g1,g2⟩ c' hc'=>by
   rw [htk] at hc'
   rcases List.mem_append.1 hc' with h | h
   ·exact g1 c' h
   ·simp at h;subst h;exact g2
 refine AX.cut (fun F X2=>F=[(0,.p (some (id,0,10))),(12,.fs (s.cons.map y3n)),(13,.i .i64 s.cons.length),(14,.i .i64 i)]∧RkT s id P L m H (fun X=>∀c∈s.cons.take (i+1),y7d (Rl s c X) X) X2) ?_ ?_
 rotate_left
 ·rintro F X2 ⟨rfl,L2,m2,A2⟩
  apply jE
  simp [y0.r26,y2g hb (show s.cons.length≤9223372036854775807 by omega)]
  exact ⟨s.cons.length-(i+1),by omega,_,_,.refl _ _,i+1,L2,m2,by omega,rfl,A2,by simp⟩
 refine AX.pblock (jA ?_)
 simp [y0.r2,hb,hce,y3n,ss]
 have e1:X.Ext ((X.add (.cells [.i .i64 0,.s [],.s [],.i .i64 0,.s [],.sl none 0 0] 6)).upd X.next (.cells [.i .i64 c.op,.s c.a,.s c.b,.i .i64 c.k,.s c.tag,.fs (c.args.map fun x=>[.s x])] 6)):=(Hp.Ext.add R1.lt _).upd R1.lt (kG _) _
 have l1:Hp.Lt ((X.add (.cells [.i .i64 0,.s [],.s [],.i .i64 0,.s [],.sl none 0 0] 6)).upd X.next (.cells [.i .i64 c.op,.s c.a,.s c.b,.i .i64 c.k,.s c.tag,.fs (c.args.map fun x=>[.s x])] 6)):=Hp.upd_lt (Hp.add_lt R1.lt _) (by simp) _
 have gb:((X.add (.cells [.i .i64 0,.s [],.s [],.i .i64 0,.s [],.sl none 0 0] 6)).upd X.next (.cells [.i .i64 c.op,.s c.a,.s c.b,.i .i64 c.k,.s c.tag,.fs (c.args.map fun x=>[.s x])] 6)).get X.next=some (.cells [.i .i64 c.op,.s c.a,.s c.b,.i .i64 c.k,.s c.tag,.fs (c.args.map fun x=>[.s x])] 6):=by simp
 generalize (X.add (.cells [.i .i64 0,.s [],.s [],.i .i64 0,.s [],.sl none 0 0] 6)).upd X.next (.cells [.i .i64 c.op,.s c.a,.s c.b,.i .i64 c.k,.s c.tag,.fs (c.args.map fun x=>[.s x])] 6)=X1 at e1 l1 gb ⊢
 have T1:RkTr s id P L1 m1 X L1 m1 X1 (fun _=>True):=(RkTr.refl R1 fun _=>trivial).ext e1 l1
 have Rx:=T1.ok
 have hib:L1.tag X.next=0:=kg fun h=>by have:=R1.tlt _ h;omega
 have stp':∀L2 m2 X2,RkTr s id P L1 m1 X1 L2 m2 X2 (fun X=>y7d (Rl s c X) X)→RkT s id P L m H (fun X=>∀c∈s.cons.take (i+1),y7d (Rl s c X) X) X2:=fun L2 m2 X2 A2=>
  ⟨L2,m2,stp _ _ _ ((T1.trans A2 R1.lt).to' fun g=>g.2)⟩
 apply jA
 simp [y0.r3,gb]
 refine AX.pblock (jA ?_)
 simp [y0.r4]
 by_cases h1:c.op=1
 ·refine jG (by simp [h1]) (AX.reg ?_)
  simp [y0.r5,gb]
  have hbP:=hP.adr c hc h1
  refine (yi4 Rx c.a c.b (hP.len _ hbP) (Rx.tsl hP.big tsP)).mono ?_
  rintro v X2 ⟨L2,m2,A2⟩
  simp
  exact ⟨_,_,.refl _ _,by simp,stp' _ _ _ ((A2.tr (P:=P) (fun Y hY hX n p h=>hY c hc _ _ (.inl ⟨h1,h.1,h.2⟩)) (fun _ n y h=>by rw [h.2];exact hbP)).to' fun g=>rl_add h1 g)⟩
 refine jF (by simp [h1]) (jA ?_)
 simp [y0.r6]
 by_cases h2:c.op=2
 ·refine jG (by simp [h2]) (AX.reg ?_)
  simp [y0.r7,gb]
  refine (ybr Rx c.a c.b).mono ?_
  rintro v X2 ⟨L2,m2,A2⟩
  simp
  exact ⟨_,_,.refl _ _,by simp,stp' _ _ _ ((A2.tr (P:=P) (fun Y hY hX n p h=>hY c hc _ _ (.inr (.inl ⟨h2,h.1,hX _ _ h.2⟩))) (fun hx n y h=>by
   obtain ⟨_,e,he,_,k,_,h2⟩:=h
   exact hx y (kY h2))).to' fun g=>rl_copy h2 g)⟩
 refine jF (by simp [h2]) (jA ?_)
 simp [y0.r8]
 by_cases h3:c.op=3
 ·refine jG (by simp [h3]) ?_
  refine ld_ok (P:=P) Rx hN hc h3 hib (show X1.get X.next=some (.cells (y3n c) 6) from gb) (by omega) fun L2 m2 X2 A2=>?_
  simp
  exact ⟨_,_,.refl _ _,by simp,stp' _ _ _ (A2.to' fun g=>rl_load h3 g)⟩
 refine jF (by simp [h3]) (jA ?_)
 simp [y0.r15]
 by_cases h4:c.op=4
 ·refine jG (by simp [h4]) ?_
  refine st_ok (P:=P) Rx hN hc h4 hib (show X1.get X.next=some (.cells (y3n c) 6) from gb) (by omega) fun L2 m2 X2 A2=>?_
  simp
  exact ⟨_,_,.refl _ _,by simp,stp' _ _ _ (A2.to' fun g=>rl_store h4 g)⟩
 refine jF (by simp [h4]) (jA ?_)
 simp [y0.r22]
 by_cases h5:c.op=5
 ·refine jG (by simp [h5]) (AX.reg ?_)
  simp [y0.r23,gb]
  refine (yn3 Rx hN hP tsP c (hN.cb c hc)).mono ?_
  rintro v X2 ⟨L2,m2,A2⟩
  simp
  exact ⟨_,_,.refl _ _,by simp,stp' _ _ _ ((A2.tr (P:=P) (fun Y hY hX n p h=>by
   obtain ⟨a,b,q,d,e⟩:=h
   exact hY c hc _ _ (.inr (.inr (.inr (.inr (.inl ⟨h5,a,b,q,hX _ _ d,e⟩)))))) (fun _ n y h=>by
   obtain ⟨_,b,q,_,e⟩:=h
   rw [←e] at b ⊢
   exact yfe hN hP (hN.cb c hc).1 b)).to' fun g=>rl_field h5 g)⟩
 refine jF (by simp [h5]) (jA ?_)
 simp [y0.r24]
 have h6:c.op=6:=by have:=hC.op c hc;omega
 refine jG (by simp [h6]) (AX.reg ?_)
 simp [y0.r25,gb]
 obtain ⟨lk,r,hsg⟩:=hC.sig c hc h6
 refine (rCall_ok Rx hN hP tsP hc h6 hsg (hC.args c hc) (hC.tag c hc)).mono ?_
 rintro v X2 ⟨L2,m2,A2⟩
 simp
 exact ⟨_,_,.refl _ _,by simp,stp' _ _ _ (A2.to' fun g=>rl_call h6 g)⟩
theorem ycb {d:Nd} (h:RightN d):(y2w d).length≤100:=by
 have hc:=yoz h
 have hn:=num_fn h
 have h1:(y4w d.n.toNat).length≤9:=y36 8 _ (by omega)
 have h2:(y5q d.copy).length≤10:=by
  unfold y5q
  split
  ·have:=y36 8 d.copy.toNat (by omega)
   simp;omega
  ·simp
 have h3:(y84 d.cell).length≤10:=by
  unfold y84
  split
  ·have hcl:d.cell.toNat≤268435456:=by
    rcases h.cell with e | ⟨_,e⟩
    ·omega
    ·have:=of_decide_eq_true e;omega
   have:=y36 8 d.cell.toNat (by omega)
   simp;omega
  ·simp
 have h4:d.fn.length≤16:=by
  rcases h.fn with ⟨_,e,_⟩ | ⟨_,e⟩
  ·rw [e];simp
  ·exact ybt e
 have h5:d.name.length≤16:=by
  rcases yez h with e | e
  ·rw [e];simp
  ·exact ybt e
 have hb:(y68 d).length≤60:=by
  unfold y68
  repeat' split
  all_goals first | omega | (simp;omega)
 unfold y2w
 rw [kT];omega
theorem yp7 (o:Str) (k:Nat):(y90 o k).length≤100:=by
 unfold y90
 split
 ·split
  ·simp
  ·split
   ·rename_i hr;exact ycb ((y55 _).1 hr)
   ·simp
 ·simp
theorem ge_cmpS (x y:Str):(0≤y7v x y)=(¬ltB x y=true):=by
 rw [←yp1];exact propext ⟨fun h=>by omega,fun h=>by omega⟩
theorem yhg {α:Type} {ask:α→Int} {nm:α→Str}:∀{l:List α} {p:Option α},chk ask (fun a b=>y7v (nm a) (nm b)) p l=0→(∀y,p=some y→∀x∈l,ltB (nm y) (nm x)=true)∧y3o (l.map nm)
 | [],_,_=>⟨fun _ _ x h=>(by cases h),by simp [y3o]⟩
 | x::r,p,h=>by
  simp only [chk] at h
  by_cases h1:ask x=0
  rotate_left
  ·rw [if_pos h1] at h;exact absurd h h1
  rw [if_neg (by simpa using h1)] at h
  have key:(∀y,p=some y→ltB (nm y) (nm x)=true)∧chk ask (fun a b=>y7v (nm a) (nm b)) (some x) r=0:=by
   cases p with
   | none=>exact ⟨fun y hy=>(by cases hy),by simpa using h⟩
   | some y=>
    simp only [ge_cmpS] at h
    by_cases h2:ltB (nm y) (nm x)=true
    ·exact ⟨fun z hz=>by injection hz with hz;subst hz;exact h2,by simpa [h2] using h⟩
    ·simp [h2] at h
  obtain ⟨hx,h⟩:=key
  obtain ⟨a,b⟩:=yhg h
  refine ⟨fun y hy z hz=>?_,?_⟩
  ·rcases List.mem_cons.1 hz with rfl | hz
   ·exact hx y hy
   ·exact y7s (hx y hy) (a x rfl z hz)
  ·rw [List.map_cons]
   refine List.pairwise_cons.2 ⟨fun z hz=>?_,b⟩
   obtain ⟨w,hw,rfl⟩:=List.mem_map.1 hz
   exact a x rfl w hw
theorem yin {c:Cn} (h:cnE c=0):(1≤c.op∧c.op≤6)∧(0≤c.k∧c.k≤64)∧(c.op=6→∃l r,ybm c.tag=some (l,r)):=by
 rw [yhf] at h
 split at h
 ·cases h
 rename_i h1
 refine ⟨by omega,?_⟩
 split at h
 ·cases h
 split at h
 ·rename_i h6
  split at h
  ·rename_i hcd
   unfold yai at hcd
   cases hs:ybm c.tag with
   | none=>rw [hs] at hcd;cases hcd
   | some x=>
    obtain ⟨l,r⟩:=x
    rw [hs] at hcd
    simp only [kF,decide_eq_true_eq] at hcd
    have:c.k=0:=hcd.1.1.1.1.1
    exact ⟨by omega,fun _=>⟨l,r,rfl⟩⟩
  ·cases h
 ·rename_i h6
  split at h
  ·cases h
  split at h
  ·split at h
   ·rename_i h5
    exact ⟨⟨h5.1,h5.2.1⟩,fun h=>absurd h h6⟩
   ·cases h
  ·split at h
   ·rename_i h5
    have:=h5.1
    exact ⟨by omega,fun h=>absurd h h6⟩
   ·cases h
def y9u (s:Sy):List Str:=(s.cons.flatMap fun c=>c.a::c.b::c.args)++(y41 s++(y41 s).flatMap fun q=>(List.range 8).map (y50 q))
structure SysR (s:Sy):Prop where
 nm:SyN s
 cn:CnR s
 pl:PlP s (y41 s)
 cl:Cl s (ydi (y9u s) (y41 s))
 len:(y9u s).length≤9999999
theorem sysR {s:Sy} (h:ybl s=0) (hs:syS s):SysR s:=by
 obtain ⟨h1,h2,h3,h4,h5,h6⟩:=y9z h
 obtain ⟨s1,s2,s3,so,sf,sc⟩:=hs
 have hch:chk obE ylv none s.objs=0∧chk fuE ylw none s.fns=0:=by
  have h':=h
  unfold ybl at h'
  split at h'
  ·cases h'
  obtain ⟨q1,h'⟩:=ya1 h'
  obtain ⟨q2,h'⟩:=ya1 h'
  exact ⟨q1,q2⟩
 have nm:SyN s:=⟨(yhg (nm:=Ob.name) hch.1).2.nodup,(yhg (nm:=Fu.name) hch.2).2.nodup,fun o ho=>yfm (h4 o ho),fun c hc=>(yin (h6 c hc)).2.1,fun o ho=>⟨by have:=(so o ho).2.2.1;omega,(so o ho).1⟩⟩
 have hargs:∀c∈s.cons,c.args.length≤7:=fun c hc=>yp0 (h6 c hc)
 have pl:PlP s (y41 s):=by
  refine ⟨by have:=yb9 h;omega,fun x hx=>?_,fun o ho j hj=>?_,fun f hf=>?_,fun c hc ho=>?_⟩
  ·unfold y41 at hx
   simp only [kZ,List.mem_flatMap,List.mem_map,List.mem_filterMap] at hx
   rcases hx with ⟨o,_,hx⟩ | ⟨f,hf,rfl⟩ | ⟨c,hc,hx⟩
   ·unfold ye6 at hx
    obtain ⟨j,_,rfl⟩:=List.mem_map.1 hx
    have:=yp7 o.name j;omega
   ·have:=(sf f hf).1;omega
   ·split at hx
    ·injection hx with hx;subst hx
     have:=(sc c hc).2.1;omega
    ·cases hx
  ·unfold y41
   refine List.mem_append.2 (.inl (List.mem_flatMap.2 ⟨o,ho,?_⟩))
   unfold ye6
   exact List.mem_map.2 ⟨j,List.mem_filter.2 ⟨List.mem_range.2 hj,by simp [yjw]⟩,rfl⟩
  ·unfold y41
   exact List.mem_append.2 (.inr (List.mem_append.2 (.inl (List.mem_map.2 ⟨f,hf,rfl⟩))))
  ·unfold y41
   exact List.mem_append.2 (.inr (List.mem_append.2 (.inr (List.mem_filterMap.2 ⟨c,hc,by simp [ho]⟩))))
 have cn:CnR s:=⟨fun c hc=>(yin (h6 c hc)).1,fun c hc=>(yin (h6 c hc)).2.2,fun c hc=>by have:=hargs c hc;omega,fun c hc=>by have:=(sc c hc).2.2.1;omega,by omega⟩
 refine ⟨nm,cn,pl,fun c hc n p hr=>?_,?_⟩
 ·have ca:c.a∈y9u s:=List.mem_append.2 (.inl (List.mem_flatMap.2 ⟨c,hc,by simp⟩))
  have cx:∀a∈c.args,a∈y9u s:=fun a ha=>List.mem_append.2 (.inl (List.mem_flatMap.2 ⟨c,hc,by simp [ha]⟩))
  have pn:∀q∈y41 s,q∈y9u s:=fun q hq=>List.mem_append.2 (.inr (List.mem_append.2 (.inl hq)))
  have fn:∀q∈y41 s,∀k,k<8→y50 q k∈y9u s:=fun q hq k hk=>List.mem_append.2 (.inr (List.mem_append.2 (.inr (List.mem_flatMap.2 ⟨q,hq,List.mem_map.2 ⟨k,List.mem_range.2 hk,rfl⟩⟩))))
  rcases hr with ⟨o,rfl,rfl⟩ | ⟨o,rfl,x⟩ | ⟨o,rfl,q,x,y,z⟩ | ⟨o,x,y,z⟩ | ⟨o,rfl,e,q,x,rfl⟩ | ⟨o,q,x,y,⟨rfl,rfl⟩ | ⟨k,a,z1,z2,⟨rfl,rfl,z⟩ | ⟨z0,rfl,z⟩⟩⟩
  ·exact ⟨ca,pl.adr c hc o⟩
  ·exact ⟨ca,x.2⟩
  ·exact ⟨ca,z.2⟩
  ·exact ⟨pn _ x.2,z.2⟩
  ·exact ⟨ca,yfe nm pl (nm.cb c hc).1 e⟩
  ·exact ⟨ca,x.2⟩
  ·exact ⟨cx _ (kY z1),z.2⟩
  ·refine ⟨fn q x.2 k ?_,z.2⟩
   have:=(List.getElem?_eq_some_iff.1 z1).1
   have:=hargs c hc
   omega
 ·unfold y9u
  have hp:=yb9 h
  have e1:(s.cons.flatMap fun c=>c.a::c.b::c.args).length≤s.cons.length*9:=by
   have:∀l:List Cn,(∀c∈l,c.args.length≤7)→(l.flatMap fun c=>c.a::c.b::c.args).length≤l.length*9:=fun l=>by
    induction l with
    | nil=>intro _;simp
    | cons a r ih=>
     intro hl
     have q1:=ih fun c hc=>hl c (by simp [hc])
     have q2:=hl a (by simp)
     simp only [List.flatMap_cons,kT,kO] at q1 ⊢
     omega
   exact this _ hargs
  have e2:((y41 s).flatMap fun q=>(List.range 8).map (y50 q)).length=(y41 s).length*8:=by
   have:∀l:List Str,(l.flatMap fun q=>(List.range 8).map (y50 q)).length=l.length*8:=fun l=>by
    induction l with
    | nil=>rfl
    | cons a r ih=>simp only [List.flatMap_cons,kT,kO,ih,List.length_map,List.length_range];omega
   exact this _
  simp only [kT,e2]
  omega
theorem frz_t2 {H:Hp} {S:Nat→Prop} {a b c:V} (h:Frz H S a b):Frz H S (.tup [a,c]) (.tup [b,c]):=.tup _ _ rfl fun j u v h1 h2=>by
 match j,h1,h2 with
 | 0,h1,h2=>simp at h1 h2;subst h1;subst h2;exact h
 | 1,h1,h2=>simp at h1 h2;subst h1;subst h2;exact .refl _
 | j+2,h1,h2=>simp at h1
@[simp] theorem free_fsV (l:List y6b):y9w (fsV l):=y9j fun e he v hv=>by
 obtain ⟨f,_,rfl⟩:=List.mem_map.1 he
 simp [fcs] at hv
 rcases hv with rfl | rfl <;> simp
theorem en1 (l:List Str):∀e∈l.map (fun x=>[V.s x]),e.length=1:=ss_len l
theorem ec1 (l:List Str):(l.map (fun x=>[V.s x])).flatten.all y3w=true:=by
 rw [ka];intro v hv
 obtain ⟨e,he,hv⟩:=List.mem_flatten.1 hv
 obtain ⟨x,_,rfl⟩:=List.mem_map.1 he
 simp at hv;subst hv;rfl
open Go.Proofs
set_option maxRecDepth 100000
namespace C
def yd.r0:jI:=[a12 1 0,an 2]
def yd.r1:jI:=[⟨some 10,none,.call y7g []⟩,a1a 11 10]
def yd.r2:jI:=[an 2]
def yd.r3:jI:=[ak 12 3 1,⟨some 13,none,.call y7h [.t 12,.c (.i .i64 40)]⟩]
def yd.r4:jI:=[a19 2]
def yd.r5:jI:=[ak 15 3 1,⟨some 16,none,.call y6y [.t 15]⟩,ac 14 16,ai 17 0 14,ai 18 1 14,ac 3 17,ac 4 18]
def yd.r6:jI:=[ac 19 4,a1e 20 19 0]
def yd.r7:jI:=[a19 2]
def yd.r8:jI:=[ak 21 3 1,a2n 5 0 0 0 0 0 0,aj 3 5 21]
def yd.r9:jI:=[a1p 22 6,ae 23 2 1,af 24 1 23,a17 25 6 88 22 24,ae 26 2 5,aj 1 26 25]
def yd.r10:jI:=[ah 6 0]
def yd.r11:jI:=[ac 27 6,ac 28 3,al 29 28,aq 30 27 29]
def yd.r12:jI:=[ah 7 0]
def yd.r13:jI:=[ac 33 7,ac 34 3,ac 35 6,am 36 2 34 35,ae 37 1 36,af 38 1 37,al 39 38,aq 40 33 39]
def yd.r14:jI:=[ae 43 2 5,af 44 1 43,ac 45 3,ac 46 6,am 47 2 45 46,ae 48 0 47,af 49 1 48,ac 50 3,ac 51 6,am 52 2 50 51,ae 53 1 52,af 54 1 53,ac 55 7,am 56 1 54 55,af 57 1 56,⟨some 58,none,.op (.build [.i .i64 0,.s [],.s [],.i .i64 0,.s [],.fs []] [(0,1,.c (.i .i64 1)),(1,1,.t 49),(2,1,.t 57)])⟩,⟨some 59,none,.op (.bfz 1 6 [.i .i64 0,.s [],.s [],.i .i64 0,.s [],.sl none 0 0] [(0,6,.t 58)])⟩,a17 60 6 88 44 59,ae 61 2 5,aj 1 61 60]
def yd.r15:jI:=[ac 41 7,ay 42 41 1,ac 7 42]
def yd.l1:ACode:=.seq (jJ [3,5,6,7,40] yd.r13 (.post [3,5,6,7] (.cond (.t 40) (.skip) (.exit 2)))) (.seq (.post [3,5,6,7] (.block 3 (.post [3,5,6,7] (.draw [0,1,0,0,12,28,60,0,0,384,896,1920,0,8064,16256,32764,65532,131071,262143,524287] yd.r14)))) (jK [3,5,6,7] yd.r15))
def yd.r16:jI:=[ac 31 6,ay 32 31 1,ac 6 32]
def yd.l0:ACode:=.seq (jJ [3,5,6,30] yd.r11 (.post [3,5,6] (.cond (.t 30) (.skip) (.exit 0)))) (.seq (.post [3,5,6] (.block 1 (jJ [3,5,6,7] yd.r12 (.post [3,5,6] (.block 2 (.loop yd.l1)))))) (jK [3,5,6] yd.r16))
def yd.r17:jI:=[ak 63 3 5,⟨some 64,none,.call y7f [.t 63]⟩,⟨some 65,none,.call y6y [.t 64]⟩,ac 62 65,ai 66 0 62,ai 67 1 62,ac 8 66,ac 9 67]
def yd.r18:jI:=[ac 68 9,az 69 68 4,ac 70 69,a15 71 70 9,⟨some 72,(some (70,false)),.op (.bin .eql (.t 71) (.c (.i .i64 0)))⟩,a15 73 70 72,ap 74 73 3,ap 75 73 8,⟨some 76,(some (73,true)),.call ya5 [.t 74,.t 75]⟩,a1o 77 70 73 76,a11 78 70 77,ac 2 78]
def yd:AFunc:=⟨79,[.t 2],jJ [1] yd.r0 (.seq (jJ [1,11] yd.r1 (.post [1] (.cond (.t 11) (jJ [2] yd.r2 (.ret)) (.skip)))) (.seq (jJ [1,13] yd.r3 (.post [1] (.cond (.t 13) (jJ [2] yd.r4 (.ret)) (.skip)))) (jJ [1,3,4] yd.r5 (.seq (jJ [1,3,20] yd.r6 (.post [1,3] (.cond (.t 20) (jJ [2] yd.r7 (.ret)) (.skip)))) (jJ [1,3,5] yd.r8 (jJ [3,5] yd.r9 (.seq (jJ [3,5,6] yd.r10 (.post [3,5] (.block 0 (.loop yd.l0)))) (jJ [3,8,9] yd.r17 (jJ [2] yd.r18 (.ret))))))))))⟩
theorem yd.ok:y25 Tryz.prog Tryz.f4 yd=true:=by kernel_rfl
theorem yd.at:km y7b Tryz.f4:=Tryz.func4
end C
structure OkF (N P:List Str) (l:List y6b):Prop where
 can:CanF l
 sub:y7d (y6p l) (ydi N P)
structure Bnd (N P:List Str):Prop where
 n:N.length≤9999999
 p:P.length≤999999
 len:∀x∈P,x.length≤9223372036854775806
theorem OkF.add {N P:List Str} {l:List y6b} (h:OkF N P l) {n p:Str} (hn:n∈N) (hp:p∈P):OkF N P (yli l n p):=⟨h.can.add n p,fun a b x=>by
 rcases (yjz h.can n p a b).1 x with x | ⟨rfl,rfl⟩
 ·exact h.sub a b x
 ·exact ⟨hn,hp⟩⟩
theorem OkF.nil (N P:List Str):OkF N P []:=⟨.nil,fun n p h=>by simp [y6p,ofS] at h⟩
theorem yac {α β:Type} (f:β→α→β) (b:β) {l:List α} {i:Nat} (h:i<l.length):(l.take (i+1)).foldl f b=f ((l.take i).foldl f b) l[i]:=by
 rw [kJ,kC h,List.foldl_append];rfl
theorem y9m {α β:Type} (f:β→α→β) (b:β) {l:List α} {i:Nat} (h:l.length≤i):(l.take i).foldl f b=l.foldl f b:=by rw [kI h]
theorem yfw {α β:Type} {f:β→α→β} {C:β→Prop}:∀{l:List α} {b:β},C b→(∀b x,x∈l→C b→C (f b x))→∀i,C ((l.take i).foldl f b)
 | [],b,h,_,i=>by simpa using h
 | x::l,b,h,hs,0=>by simpa using h
 | x::l,b,h,hs,i+1=>by
  rw [List.take_succ_cons,List.foldl_cons]
  exact yfw (hs b x (by simp) h) (fun b y hy=>hs b y (by simp [hy])) i
theorem y9l {α β:Type} {f:β→α→β} {C:β→Prop} {l:List α} {b:β} (h:C b) (hs:∀b x,x∈l→C b→C (f b x)):C (l.foldl f b):=by
 have:=yfw h hs l.length
 rwa [List.take_length] at this
theorem ydu {N P:List Str} {st:St} (h:OkF N P st.1) {to frm:Str} (hto:∀p,y6p st.1 frm p→to∈N):OkF N P (yps st to frm).1:=
 y9l (C:=fun s:St=>OkF N P s.1) h fun b x hx hb=>hb.add (hto x hx) (h.sub frm x hx).2
end Go.Proofs.YtikpijbeobeckaaGreatDoor
