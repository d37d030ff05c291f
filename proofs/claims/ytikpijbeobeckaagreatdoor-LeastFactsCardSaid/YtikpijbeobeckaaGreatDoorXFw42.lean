/- Part 42. -/
import Derived.Test.YtikpijbeobeckaaGreatDoorXFw27
import Derived.Test.YtikpijbeobeckaaGreatDoorXFw35
import Derived.Test.YtikpijbeobeckaaGreatDoorXFw36
import Derived.Test.YtikpijbeobeckaaGreatDoorXFw41
set_option linter.unusedSimpArgs false
set_option linter.unusedVariables false
namespace Go.Proofs.YtikpijbeobeckaaGreatDoor
open Am C
def ldJ (s:Sy) (id:Nat) (P:List Str) (L0:RkL) (m0:Bool) (X0:Hp) (c:Cn) (ib:Nat) (v12 v13 v14 u:V) (l:List Nat) (mm:Nat) (F:Fr) (X:Hp):Prop:=
 ∃i L m,i≤l.length∧mm=l.length-i∧RkTr s id P L0 m0 X0 L m X (fun X=>∀k∈l.take i,∀q,L0.ts[k]?=some q→ybh s q=true→∀p,X q p→X c.a p)∧F=[(0,.p (some (id,0,10))),(3,.p (some (ib,0,6))),(12,v12),(13,v13),(14,v14),(41,u),(42,.i .i64 l.length),(43,.i .i64 i)]
set_option maxHeartbeats 2000000 in
theorem ld_ok {s:Sy} {id:Nat} {P:List Str} {L:RkL} {m:Bool} {H:Hp} (R:RkOk s id L m H) (hN:SyN s) {c:Cn} (hc:c∈s.cons) (ho:c.op=3) {ib mb:Nat} (hib:L.tag ib=0) (gb:H.get ib=some (.cells (y3z c) mb)) (hmb:mb≤6) {v12 v13 v14 w w':V} {Q:y6i}
  (hQ:∀L' m' X,RkTr s id P L m H L' m' X (fun X=>∀q,X c.b q→ybh s q=true→∀p,X q p→X c.a p)→Q .normal [(0,.p (some (id,0,10))),(12,v12),(13,v13),(14,v14)] X):
  AX Tryz.prog 91 (.seq (.post [0,3,12,13,14,41,42,43] (.region y8.r9)) (.post [0,12,13,14] (.block 3 (.loop y8.l1)))) Q [(0,.p (some (id,0,10))),(3,.p (some (ib,0,6))),(12,v12),(13,v13),(14,v14),(19,w),(36,w')] H:=by
 have gb':=gb
 simp only [y3z] at gb'
 apply jA
 simp [y8.r9,gb',hmb]
 refine (yhn R c.b).mono ?_
 rintro u X0 ⟨L0,l,ia,R0,T0,hts0,hr0,su,hia,hll,hl1,hl2⟩
 obtain ⟨pp,z,rfl,hrow⟩:=su.len
 have gb0:=T0.keep _ _ hib gb
 have hib0:L0.tag ib=0:=by rw [T0.tag ib (R.lt _ _ gb)];exact hib
 simp
 refine AX.pblock (AX.loop (ldJ s id P L0 m X0 c ib v12 v13 v14 (.sl pp l.length z) l) l.length ⟨_,_,.refl _ _,0,L0,m,by omega,by omega,.refl R0 (fun X k hk=>by simp at hk),by simp⟩ ?_)
 rintro mm F X ⟨i,L1,m1,hi,rfl,A,rfl⟩
 simp only [y8.l1]
 apply jA
 simp [y8.r10]
 refine AX.seq (AX.pcond rfl (fun hb=>AX.skip ?_) (fun hb=>AX.exit ?_))
 rotate_left
 ·simp at hb
  simp
  have hil:i=l.length:=by omega
  subst hil
  rw [List.take_length] at A
  exact hQ L1 m1 X ((RkTr.from T0 hts0 hr0 A R.lt).to' fun g q hq hf=>by
   obtain ⟨k,hk,hx⟩:=hl2 q hq
   exact g k hk q (by rw [hts0];exact hx) hf)
 simp at hb
 simp
 have hne:l≠[]:=fun e=>by rw [e] at hb;exact absurd hb (by simp)
 obtain ⟨rfl,rfl,mr,gr,hmr⟩:=hrow hne
 have grX:=A.to.keep _ _ (hia hne) gr
 have gbX:=A.to.keep _ _ hib0 gb0
 simp only [y3z] at gbX
 obtain ⟨k,hk⟩:∃k,l[i]?=some k:=⟨_,kC hb⟩
 obtain ⟨x,hx0,hxr⟩:=hl1 k (kY hk)
 have hx1:L1.ts[k]?=some x:=by
  obtain ⟨r,hr⟩:=A.to.ts
  rw [←hr,hts0]
  rw [kR (List.getElem?_eq_some_iff.1 hx0).1];exact hx0
 have R1:=A.ok
 have hq1:y75 L1 c.b x:=A.tr.mono _ _ ((hr0 _ _).2 hxr)
 have hld:=yf1 hk
 have htk:l.take (i+1)=l.take i++[k]:=by rw [kJ,hk];rfl
 have stp:∀L2 m2 X2,RkTr s id P L1 m1 X L2 m2 X2 (fun X=>ybh s x=true→∀p,X x p→X c.a p)→RkTr s id P L0 m X0 L2 m2 X2 (fun X=>∀k∈l.take (i+1),∀q,L0.ts[k]?=some q→ybh s q=true→∀p,X q p→X c.a p):=fun L2 m2 X2 A2=>
  (A.trans A2 R0.lt).to' fun ⟨g1,g2⟩ k' hk' q hq hf=>by
   rw [htk] at hk'
   rcases List.mem_append.1 hk' with h | h
   ·exact g1 k' h q hq hf
   ·simp at h;subst h
    rw [hts0,hx0] at hq;injection hq with hq;subst hq
    exact g2 hf
 refine AX.cut (fun F X2=>F=[(0,.p (some (id,0,10))),(3,.p (some (ib,0,6))),(12,v12),(13,v13),(14,v14),(41,.sl (some (ia,0,l.length)) l.length 1),(42,.i .i64 l.length),(43,.i .i64 i)]∧RkT s id P L0 m X0 (fun X=>∀k∈l.take (i+1),∀q,L0.ts[k]?=some q→ybh s q=true→∀p,X q p→X c.a p) X2) ?_ ?_
 rotate_left
 ·rintro F X2 ⟨rfl,L2,m2,A2⟩
  apply jE
  simp [y8.r14,y2c hb (show l.length≤9223372036854775807 by omega)]
  exact ⟨l.length-(i+1),by omega,_,_,.refl _ _,i+1,L2,m2,by omega,rfl,A2,by simp⟩
 refine AX.pblock (jA ?_)
 simp [y8.r11,hb,grX,hmr,yj7,hld,show i+1≤l.length by omega]
 apply jA
 simp [y8.r12]
 refine AC.fix (yfm R1 hN hx1) ?_
 simp
 refine AX.pcond (t:=ybh s x) rfl (fun hp=>?_) (fun hp=>AX.skip ?_)
 ·refine AX.drwL (y8.r13.take 6) rfl rfl ?_
  simp [y8.r13,gbX,hmb]
  refine yia _ (yez R1 hx1) ?_
  simp
  refine (ydj R1 c.a x).mono ?_
  rintro v X2 ⟨L2,m2,A2⟩
  refine ⟨_,_,.refl _ _,rfl,L2,m2,stp _ _ _ ((A2.tr (P:=P) (fun Y hY hX n p h=>?_) (fun hx n y h=>?_)).to' fun g _ p hp=>g _ _ ⟨rfl,hp⟩)⟩
  ·obtain ⟨rfl,h⟩:=h
   exact hY c hc _ _ (.inr (.inr (.inl ⟨ho,rfl,x,hX _ _ hq1,hp,hX _ _ h⟩)))
  ·obtain ⟨_,e,he,_,k,_,h2⟩:=h
   exact hx y (kY h2)
 ·simp
  exact ⟨_,_,.refl _ _,by simp,L1,m1,stp _ _ _ (RkTr.refl R1 fun X h=>by rw [hp] at h;cases h)⟩
def stJ (s:Sy) (id:Nat) (P:List Str) (L0:RkL) (m0:Bool) (X0:Hp) (c:Cn) (ib:Nat) (v12 v13 v14 u:V) (l:List Nat) (mm:Nat) (F:Fr) (X:Hp):Prop:=
 ∃i L m,i≤l.length∧mm=l.length-i∧RkTr s id P L0 m0 X0 L m X (fun X=>∀k∈l.take i,∀q,L0.ts[k]?=some q→ybh s q=true→∀p,X c.b p→X q p)∧F=[(0,.p (some (id,0,10))),(3,.p (some (ib,0,6))),(12,v12),(13,v13),(14,v14),(63,u),(64,.i .i64 l.length),(65,.i .i64 i)]
set_option maxHeartbeats 2000000 in
theorem st_ok {s:Sy} {id:Nat} {P:List Str} {L:RkL} {m:Bool} {H:Hp} (R:RkOk s id L m H) (hN:SyN s) {c:Cn} (hc:c∈s.cons) (ho:c.op=4) {ib mb:Nat} (hib:L.tag ib=0) (gb:H.get ib=some (.cells (y3z c) mb)) (hmb:mb≤6) {v12 v13 v14 w w':V} {Q:y6i}
  (hQ:∀L' m' X,RkTr s id P L m H L' m' X (fun X=>∀q,X c.a q→ybh s q=true→∀p,X c.b p→X q p)→Q .normal [(0,.p (some (id,0,10))),(12,v12),(13,v13),(14,v14)] X):
  AX Tryz.prog 91 (.seq (.post [0,3,12,13,14,63,64,65] (.region y8.r16)) (.post [0,12,13,14] (.block 5 (.loop y8.l2)))) Q [(0,.p (some (id,0,10))),(3,.p (some (ib,0,6))),(12,v12),(13,v13),(14,v14),(19,w),(58,w')] H:=by
 have gb':=gb
 simp only [y3z] at gb'
 apply jA
 simp [y8.r16,gb',hmb]
 refine (yhn R c.a).mono ?_
 rintro u X0 ⟨L0,l,ia,R0,T0,hts0,hr0,su,hia,hll,hl1,hl2⟩
 obtain ⟨pp,z,rfl,hrow⟩:=su.len
 have gb0:=T0.keep _ _ hib gb
 have hib0:L0.tag ib=0:=by rw [T0.tag ib (R.lt _ _ gb)];exact hib
 simp
 refine AX.pblock (AX.loop (stJ s id P L0 m X0 c ib v12 v13 v14 (.sl pp l.length z) l) l.length ⟨_,_,.refl _ _,0,L0,m,by omega,by omega,.refl R0 (fun X k hk=>by simp at hk),by simp⟩ ?_)
 rintro mm F X ⟨i,L1,m1,hi,rfl,A,rfl⟩
 simp only [y8.l2]
 apply jA
 simp [y8.r17]
 refine AX.seq (AX.pcond rfl (fun hb=>AX.skip ?_) (fun hb=>AX.exit ?_))
 rotate_left
 ·simp at hb
  simp
  have hil:i=l.length:=by omega
  subst hil
  rw [List.take_length] at A
  exact hQ L1 m1 X ((RkTr.from T0 hts0 hr0 A R.lt).to' fun g q hq hf=>by
   obtain ⟨k,hk,hx⟩:=hl2 q hq
   exact g k hk q (by rw [hts0];exact hx) hf)
 simp at hb
 simp
 have hne:l≠[]:=fun e=>by rw [e] at hb;exact absurd hb (by simp)
 obtain ⟨rfl,rfl,mr,gr,hmr⟩:=hrow hne
 have grX:=A.to.keep _ _ (hia hne) gr
 have gbX:=A.to.keep _ _ hib0 gb0
 simp only [y3z] at gbX
 obtain ⟨k,hk⟩:∃k,l[i]?=some k:=⟨_,kC hb⟩
 obtain ⟨x,hx0,hxr⟩:=hl1 k (kY hk)
 have hx1:L1.ts[k]?=some x:=by
  obtain ⟨r,hr⟩:=A.to.ts
  rw [←hr,hts0]
  rw [kR (List.getElem?_eq_some_iff.1 hx0).1];exact hx0
 have R1:=A.ok
 have hq1:y75 L1 c.a x:=A.tr.mono _ _ ((hr0 _ _).2 hxr)
 have hld:=yf1 hk
 have htk:l.take (i+1)=l.take i++[k]:=by rw [kJ,hk];rfl
 have stp:∀L2 m2 X2,RkTr s id P L1 m1 X L2 m2 X2 (fun X=>ybh s x=true→∀p,X c.b p→X x p)→RkTr s id P L0 m X0 L2 m2 X2 (fun X=>∀k∈l.take (i+1),∀q,L0.ts[k]?=some q→ybh s q=true→∀p,X c.b p→X q p):=fun L2 m2 X2 A2=>
  (A.trans A2 R0.lt).to' fun ⟨g1,g2⟩ k' hk' q hq hf=>by
   rw [htk] at hk'
   rcases List.mem_append.1 hk' with h | h
   ·exact g1 k' h q hq hf
   ·simp at h;subst h
    rw [hts0,hx0] at hq;injection hq with hq;subst hq
    exact g2 hf
 refine AX.cut (fun F X2=>F=[(0,.p (some (id,0,10))),(3,.p (some (ib,0,6))),(12,v12),(13,v13),(14,v14),(63,.sl (some (ia,0,l.length)) l.length 1),(64,.i .i64 l.length),(65,.i .i64 i)]∧RkT s id P L0 m X0 (fun X=>∀k∈l.take (i+1),∀q,L0.ts[k]?=some q→ybh s q=true→∀p,X c.b p→X q p) X2) ?_ ?_
 rotate_left
 ·rintro F X2 ⟨rfl,L2,m2,A2⟩
  apply jE
  simp [y8.r21,y2c hb (show l.length≤9223372036854775807 by omega)]
  exact ⟨l.length-(i+1),by omega,_,_,.refl _ _,i+1,L2,m2,by omega,rfl,A2,by simp⟩
 refine AX.pblock (jA ?_)
 simp [y8.r18,hb,grX,hmr,yj7,hld,show i+1≤l.length by omega]
 apply jA
 simp [y8.r19]
 refine AC.fix (yfm R1 hN hx1) ?_
 simp
 refine AX.pcond (t:=ybh s x) rfl (fun hp=>?_) (fun hp=>AX.skip ?_)
 ·refine AX.drwL (y8.r20.take 6) rfl rfl ?_
  simp [y8.r20,gbX,hmb]
  refine yia _ (yez R1 hx1) ?_
  simp [gbX,hmb]
  refine (ydj R1 x c.b).mono ?_
  rintro v X2 ⟨L2,m2,A2⟩
  refine ⟨_,_,.refl _ _,rfl,L2,m2,stp _ _ _ ((A2.tr (P:=P) (fun Y hY hX n p h=>?_) (fun hx n y h=>?_)).to' fun g _ p hp=>g _ _ ⟨rfl,hp⟩)⟩
  ·obtain ⟨rfl,h⟩:=h
   exact hY c hc _ _ (.inr (.inr (.inr (.inl ⟨ho,hX _ _ hq1,hp,hX _ _ h⟩))))
  ·obtain ⟨_,e,he,_,k,_,h2⟩:=h
   exact hx y (kY h2)
 ·simp
  exact ⟨_,_,.refl _ _,by simp,L1,m1,stp _ _ _ (RkTr.refl R1 fun X h=>by rw [hp] at h;cases h)⟩
structure CnR (s:Sy):Prop where
 op:∀c∈s.cons,1≤c.op∧c.op≤6
 sig:∀c∈s.cons,c.op=6→∃lk r,ybm c.tag=some (lk,r)
 args:∀c∈s.cons,c.args.length≤1000000
 tag:∀c∈s.cons,c.tag.length≤9223372036854775806
 big:s.cons.length≤1000000000
def RndI (s:Sy) (id:Nat) (P:List Str) (L0:RkL) (m0:Bool) (X0:Hp) (mm:Nat) (F:Fr) (X:Hp):Prop:=
 ∃i L m,i≤s.cons.length∧mm=s.cons.length-i∧RkTr s id P L0 m0 X0 L m X (fun X=>∀c∈s.cons.take i,y8f (Rl s c X) X)∧F=[(0,.p (some (id,0,10))),(12,.fs (s.cons.map y3z)),(13,.i .i64 s.cons.length),(14,.i .i64 i)]
theorem rl_add {s:Sy} {c:Cn} {X:Rel} (h:c.op=1) (g:y8f (fun n p=>n=c.a∧p=c.b) X):y8f (Rl s c X) X:=by
 rintro n p (⟨_,a,b⟩ | ⟨o,_⟩ | ⟨o,_⟩ | ⟨o,_⟩ | ⟨o,_⟩ | ⟨o,_⟩)
 ·exact g _ _ ⟨a,b⟩
 all_goals omega
theorem rl_copy {s:Sy} {c:Cn} {X:Rel} (h:c.op=2) (g:y8f (fun n p=>n=c.a∧X c.b p) X):y8f (Rl s c X) X:=by
 rintro n p (⟨o,_⟩ | ⟨_,a,b⟩ | ⟨o,_⟩ | ⟨o,_⟩ | ⟨o,_⟩ | ⟨o,_⟩)
 ·omega
 ·exact g _ _ ⟨a,b⟩
 all_goals omega
theorem rl_load {s:Sy} {c:Cn} {X:Rel} (h:c.op=3) (g:∀q,X c.b q→ybh s q=true→∀p,X q p→X c.a p):y8f (Rl s c X) X:=by
 rintro n p (⟨o,_⟩ | ⟨o,_⟩ | ⟨_,rfl,q,a,b,d⟩ | ⟨o,_⟩ | ⟨o,_⟩ | ⟨o,_⟩)
 ·omega
 ·omega
 ·exact g q a b p d
 all_goals omega
theorem rl_store {s:Sy} {c:Cn} {X:Rel} (h:c.op=4) (g:∀q,X c.a q→ybh s q=true→∀p,X c.b p→X q p):y8f (Rl s c X) X:=by
 rintro n p (⟨o,_⟩ | ⟨o,_⟩ | ⟨o,_⟩ | ⟨_,a,b,d⟩ | ⟨o,_⟩ | ⟨o,_⟩)
 ·omega
 ·omega
 ·omega
 ·exact g n a b p d
 all_goals omega
theorem rl_field {s:Sy} {c:Cn} {X:Rel} (h:c.op=5) (g:y8f (fun n p=>n=c.a∧p≠[]∧∃q,X c.b q∧y5g s q c.tag c.k=p) X):y8f (Rl s c X) X:=by
 rintro n p (⟨o,_⟩ | ⟨o,_⟩ | ⟨o,_⟩ | ⟨o,_⟩ | ⟨_,a,b,q,d,e⟩ | ⟨o,_⟩)
 ·omega
 ·omega
 ·omega
 ·omega
 ·exact g _ _ ⟨a,b,q,d,e⟩
 ·omega
theorem rl_call {s:Sy} {c:Cn} {X:Rel} (h:c.op=6) (g:∀q,X c.b q→y95 s q c.tag=true→GC c q X):y8f (Rl s c X) X:=by
 rintro n p (⟨o,_⟩ | ⟨o,_⟩ | ⟨o,_⟩ | ⟨o,_⟩ | ⟨o,_⟩ | ⟨_,q,a,b,d⟩)
 ·omega
 ·omega
 ·omega
 ·omega
 ·omega
 ·obtain ⟨g1,g2⟩:=g q a b
  rcases d with ⟨rfl,rfl⟩ | ⟨k,v,z1,z2,⟨rfl,rfl,z⟩ | ⟨z0,rfl,z⟩⟩
  ·exact g1
  ·exact (g2 0 _ (List.getElem?_eq_some_iff.1 z1).1 z1 z2).1 rfl p z
  ·exact (g2 k v (List.getElem?_eq_some_iff.1 z1).1 z1 z2).2 z0 p z
set_option maxHeartbeats 2000000 in
theorem ypb {s:Sy} {id:Nat} {L:RkL} {m:Bool} {H:Hp} (R:RkOk s id L m H) (hN:SyN s) (hC:CnR s) {P:List Str} (hP:PlP s P) (ht:∀y∈L.ts,y∈P):
  AC Tryz.prog y6r [.p (some (id,0,10))] H (fun _ X=>RkT s id P L m H (Cl s) X):=by
 have hbig:=hC.big
 obtain ⟨mb,hg,hm⟩:=R.blk
 refine AC.code y8.at y8.ok ?_
 simp only [y8]
 apply jA
 simp [y8.r0,hg,hm,ycj]
 refine AX.pblock (AX.loop (RndI s id P L m H) s.cons.length ⟨_,_,.refl _ _,0,L,m,by omega,by omega,.refl R (fun X c hc=>by simp at hc),by simp⟩ ?_)
 rintro mm F X ⟨i,L1,m1,hi,rfl,A,rfl⟩
 simp only [y8.l0]
 apply jA
 simp [y8.r1]
 refine AX.seq (AX.pcond rfl (fun hb=>AX.skip ?_) (fun hb=>AX.exit ?_))
 rotate_left
 ·simp at hb
  simp
  have hil:i=s.cons.length:=by omega
  subst hil
  rw [List.take_length] at A
  exact ⟨L1,m1,A⟩
 simp at hb
 simp
 obtain ⟨c,hci⟩:∃c,s.cons[i]?=some c:=⟨_,kC hb⟩
 have hce:s.cons[i]=c:=(List.getElem?_eq_some_iff.1 hci).2
 have hc:=kY hci
 have R1:=A.ok
 have tsP:∀y∈L1.ts,y∈P:=A.tsp ht
 have htk:s.cons.take (i+1)=s.cons.take i++[c]:=by rw [kJ,hci];rfl
 have stp:∀L2 m2 X2,RkTr s id P L1 m1 X L2 m2 X2 (fun X=>y8f (Rl s c X) X)→RkTr s id P L m H L2 m2 X2 (fun X=>∀c∈s.cons.take (i+1),y8f (Rl s c X) X):=fun L2 m2 X2 A2=>
  (A.trans A2 R.lt).to' fun ⟨g1,g2⟩ c' hc'=>by
   rw [htk] at hc'
   rcases List.mem_append.1 hc' with h | h
   ·exact g1 c' h
   ·simp at h;subst h;exact g2
 refine AX.cut (fun F X2=>F=[(0,.p (some (id,0,10))),(12,.fs (s.cons.map y3z)),(13,.i .i64 s.cons.length),(14,.i .i64 i)]∧RkT s id P L m H (fun X=>∀c∈s.cons.take (i+1),y8f (Rl s c X) X) X2) ?_ ?_
 rotate_left
 ·rintro F X2 ⟨rfl,L2,m2,A2⟩
  apply jE
  simp [y8.r26,y2c hb (show s.cons.length≤9223372036854775807 by omega)]
  exact ⟨s.cons.length-(i+1),by omega,_,_,.refl _ _,i+1,L2,m2,by omega,rfl,A2,by simp⟩
 refine AX.pblock (jA ?_)
 simp [y8.r2,hb,hce,y3z,ss]
 have e1:X.Ext ((X.add (.cells [.i .i64 0,.s [],.s [],.i .i64 0,.s [],.sl none 0 0] 6)).upd X.next (.cells [.i .i64 c.op,.s c.a,.s c.b,.i .i64 c.k,.s c.tag,.fs (c.args.map fun x=>[.s x])] 6)):=(Hp.Ext.add R1.lt _).upd R1.lt (kG _) _
 have l1:Hp.Lt ((X.add (.cells [.i .i64 0,.s [],.s [],.i .i64 0,.s [],.sl none 0 0] 6)).upd X.next (.cells [.i .i64 c.op,.s c.a,.s c.b,.i .i64 c.k,.s c.tag,.fs (c.args.map fun x=>[.s x])] 6)):=Hp.upd_lt (Hp.add_lt R1.lt _) (by simp) _
 have gb:((X.add (.cells [.i .i64 0,.s [],.s [],.i .i64 0,.s [],.sl none 0 0] 6)).upd X.next (.cells [.i .i64 c.op,.s c.a,.s c.b,.i .i64 c.k,.s c.tag,.fs (c.args.map fun x=>[.s x])] 6)).get X.next=some (.cells [.i .i64 c.op,.s c.a,.s c.b,.i .i64 c.k,.s c.tag,.fs (c.args.map fun x=>[.s x])] 6):=by simp
 generalize (X.add (.cells [.i .i64 0,.s [],.s [],.i .i64 0,.s [],.sl none 0 0] 6)).upd X.next (.cells [.i .i64 c.op,.s c.a,.s c.b,.i .i64 c.k,.s c.tag,.fs (c.args.map fun x=>[.s x])] 6)=X1 at e1 l1 gb ⊢
 have T1:RkTr s id P L1 m1 X L1 m1 X1 (fun _=>True):=(RkTr.refl R1 fun _=>trivial).ext e1 l1
 have Rx:=T1.ok
 have hib:L1.tag X.next=0:=kg fun h=>by have:=R1.tlt _ h;omega
 have stp':∀L2 m2 X2,RkTr s id P L1 m1 X1 L2 m2 X2 (fun X=>y8f (Rl s c X) X)→RkT s id P L m H (fun X=>∀c∈s.cons.take (i+1),y8f (Rl s c X) X) X2:=fun L2 m2 X2 A2=>
  ⟨L2,m2,stp _ _ _ ((T1.trans A2 R1.lt).to' fun g=>g.2)⟩
 apply jA
 simp [y8.r3,gb]
 refine AX.pblock (jA ?_)
 simp [y8.r4]
 by_cases h1:c.op=1
 ·refine jG (by simp [h1]) (AX.reg ?_)
  simp [y8.r5,gb]
  have hbP:=hP.adr c hc h1
  refine (ykd Rx c.a c.b (hP.len _ hbP) (Rx.tsl hP.big tsP)).mono ?_
  rintro v X2 ⟨L2,m2,A2⟩
  simp
  exact ⟨_,_,.refl _ _,by simp,stp' _ _ _ ((A2.tr (P:=P) (fun Y hY hX n p h=>hY c hc _ _ (.inl ⟨h1,h.1,h.2⟩)) (fun _ n y h=>by rw [h.2];exact hbP)).to' fun g=>rl_add h1 g)⟩
 refine jF (by simp [h1]) (jA ?_)
 simp [y8.r6]
 by_cases h2:c.op=2
 ·refine jG (by simp [h2]) (AX.reg ?_)
  simp [y8.r7,gb]
  refine (ydj Rx c.a c.b).mono ?_
  rintro v X2 ⟨L2,m2,A2⟩
  simp
  exact ⟨_,_,.refl _ _,by simp,stp' _ _ _ ((A2.tr (P:=P) (fun Y hY hX n p h=>hY c hc _ _ (.inr (.inl ⟨h2,h.1,hX _ _ h.2⟩))) (fun hx n y h=>by
   obtain ⟨_,e,he,_,k,_,h2⟩:=h
   exact hx y (kY h2))).to' fun g=>rl_copy h2 g)⟩
 refine jF (by simp [h2]) (jA ?_)
 simp [y8.r8]
 by_cases h3:c.op=3
 ·refine jG (by simp [h3]) ?_
  refine ld_ok (P:=P) Rx hN hc h3 hib (show X1.get X.next=some (.cells (y3z c) 6) from gb) (by omega) fun L2 m2 X2 A2=>?_
  simp
  exact ⟨_,_,.refl _ _,by simp,stp' _ _ _ (A2.to' fun g=>rl_load h3 g)⟩
 refine jF (by simp [h3]) (jA ?_)
 simp [y8.r15]
 by_cases h4:c.op=4
 ·refine jG (by simp [h4]) ?_
  refine st_ok (P:=P) Rx hN hc h4 hib (show X1.get X.next=some (.cells (y3z c) 6) from gb) (by omega) fun L2 m2 X2 A2=>?_
  simp
  exact ⟨_,_,.refl _ _,by simp,stp' _ _ _ (A2.to' fun g=>rl_store h4 g)⟩
 refine jF (by simp [h4]) (jA ?_)
 simp [y8.r22]
 by_cases h5:c.op=5
 ·refine jG (by simp [h5]) (AX.reg ?_)
  simp [y8.r23,gb]
  refine (ypc Rx hN hP tsP c (hN.cb c hc)).mono ?_
  rintro v X2 ⟨L2,m2,A2⟩
  simp
  exact ⟨_,_,.refl _ _,by simp,stp' _ _ _ ((A2.tr (P:=P) (fun Y hY hX n p h=>by
   obtain ⟨a,b,q,d,e⟩:=h
   exact hY c hc _ _ (.inr (.inr (.inr (.inr (.inl ⟨h5,a,b,q,hX _ _ d,e⟩)))))) (fun _ n y h=>by
   obtain ⟨_,b,q,_,e⟩:=h
   rw [←e] at b ⊢
   exact yhk hN hP (hN.cb c hc).1 b)).to' fun g=>rl_field h5 g)⟩
 refine jF (by simp [h5]) (jA ?_)
 simp [y8.r24]
 have h6:c.op=6:=by have:=hC.op c hc;omega
 refine jG (by simp [h6]) (AX.reg ?_)
 simp [y8.r25,gb]
 obtain ⟨lk,r,hsg⟩:=hC.sig c hc h6
 refine (rCall_ok Rx hN hP tsP hc h6 hsg (hC.args c hc) (hC.tag c hc)).mono ?_
 rintro v X2 ⟨L2,m2,A2⟩
 simp
 exact ⟨_,_,.refl _ _,by simp,stp' _ _ _ (A2.to' fun g=>rl_call h6 g)⟩
theorem ymx {d:Nd} (h:RightN d):(y34 d).length≤100:=by
 have hc:=yi6 h
 have hn:=ypu h
 have h1:(y54 d.n.toNat).length≤9:=y3v 8 _ (by omega)
 have h2:(y4m d.copy).length≤10:=by
  unfold y4m
  split
  ·have:=y3v 8 d.copy.toNat (by omega)
   simp;omega
  ·simp
 have h3:(y5a d.cell).length≤10:=by
  unfold y5a
  split
  ·have hcl:d.cell.toNat≤268435456:=by
    rcases h.cell with e | ⟨_,e⟩
    ·omega
    ·have:=of_decide_eq_true e;omega
   have:=y3v 8 d.cell.toNat (by omega)
   simp;omega
  ·simp
 have h4:d.fn.length≤16:=by
  rcases h.fn with ⟨_,e,_⟩ | ⟨_,e⟩
  ·rw [e];simp
  ·exact yav e
 have h5:d.name.length≤16:=by
  rcases yh2 h with e | e
  ·rw [e];simp
  ·exact yav e
 have hb:(y5f d).length≤60:=by
  unfold y5f
  repeat' split
  all_goals first | omega | (simp;omega)
 unfold y34
 rw [kT];omega
theorem yr8 (o:Str) (k:Nat):(y97 o k).length≤100:=by
 unfold y97
 split
 ·split
  ·simp
  ·split
   ·rename_i hr;exact ymx ((y50 _).1 hr)
   ·simp
 ·simp
theorem ge_cmpS (x y:Str):(0≤y9i x y)=(¬ltB x y=true):=by
 rw [←yr3];exact propext ⟨fun h=>by omega,fun h=>by omega⟩
theorem yr5 {α:Type} {ask:α→Int} {nm:α→Str}:∀{l:List α} {p:Option α},chk ask (fun a b=>y9i (nm a) (nm b)) p l=0→(∀y,p=some y→∀x∈l,ltB (nm y) (nm x)=true)∧y4i (l.map nm)
 | [],_,_=>⟨fun _ _ x h=>(by cases h),by simp [y4i]⟩
 | x::r,p,h=>by
  simp only [chk] at h
  by_cases h1:ask x=0
  rotate_left
  ·rw [if_pos h1] at h;exact absurd h h1
  rw [if_neg (by simpa using h1)] at h
  have key:(∀y,p=some y→ltB (nm y) (nm x)=true)∧chk ask (fun a b=>y9i (nm a) (nm b)) (some x) r=0:=by
   cases p with
   | none=>exact ⟨fun y hy=>(by cases hy),by simpa using h⟩
   | some y=>
    simp only [ge_cmpS] at h
    by_cases h2:ltB (nm y) (nm x)=true
    ·exact ⟨fun z hz=>by injection hz with hz;subst hz;exact h2,by simpa [h2] using h⟩
    ·simp [h2] at h
  obtain ⟨hx,h⟩:=key
  obtain ⟨a,b⟩:=yr5 h
  refine ⟨fun y hy z hz=>?_,?_⟩
  ·rcases List.mem_cons.1 hz with rfl | hz
   ·exact hx y hy
   ·exact y93 (hx y hy) (a x rfl z hz)
  ·rw [List.map_cons]
   refine List.pairwise_cons.2 ⟨fun z hz=>?_,b⟩
   obtain ⟨w,hw,rfl⟩:=List.mem_map.1 hz
   exact a x rfl w hw
theorem ykv {c:Cn} (h:cnE c=0):(1≤c.op∧c.op≤6)∧(0≤c.k∧c.k≤64)∧(c.op=6→∃l r,ybm c.tag=some (l,r)):=by
 rw [ymm] at h
 split at h
 ·cases h
 rename_i h1
 refine ⟨by omega,?_⟩
 split at h
 ·cases h
 split at h
 ·rename_i h6
  split at h
  ·rename_i hcd
   unfold ybf at hcd
   cases hs:ybm c.tag with
   | none=>rw [hs] at hcd;cases hcd
   | some x=>
    obtain ⟨l,r⟩:=x
    rw [hs] at hcd
    simp only [kF,decide_eq_true_eq] at hcd
    have:c.k=0:=hcd.1.1.1.1.1
    exact ⟨by omega,fun _=>⟨l,r,rfl⟩⟩
  ·cases h
 ·rename_i h6
  split at h
  ·cases h
  split at h
  ·split at h
   ·rename_i h5
    exact ⟨⟨h5.1,h5.2.1⟩,fun h=>absurd h h6⟩
   ·cases h
  ·split at h
   ·rename_i h5
    have:=h5.1
    exact ⟨by omega,fun h=>absurd h h6⟩
   ·cases h
def ybq (s:Sy):List Str:=(s.cons.flatMap fun c=>c.a::c.b::c.args)++(y4t s++(y4t s).flatMap fun q=>(List.range 8).map (y4s q))
structure SysR (s:Sy):Prop where
 nm:SyN s
 cn:CnR s
 pl:PlP s (y4t s)
 cl:Cl s (ye1 (ybq s) (y4t s))
 len:(ybq s).length≤9999999
theorem sysR {s:Sy} (h:ye2 s=0) (hs:syS s):SysR s:=by
 obtain ⟨h1,h2,h3,h4,h5,h6⟩:=ylk h
 obtain ⟨s1,s2,s3,so,sf,sc⟩:=hs
 have hch:chk obE yin none s.objs=0∧chk fuE yio none s.fns=0:=by
  have h':=h
  unfold ye2 at h'
  split at h'
  ·cases h'
  obtain ⟨q1,h'⟩:=yfp h'
  obtain ⟨q2,h'⟩:=yfp h'
  exact ⟨q1,q2⟩
 have nm:SyN s:=⟨(yr5 (nm:=Ob.name) hch.1).2.nodup,(yr5 (nm:=Fu.name) hch.2).2.nodup,fun o ho=>ym1 (h4 o ho),fun c hc=>(ykv (h6 c hc)).2.1,fun o ho=>⟨by have:=(so o ho).2.2.1;omega,(so o ho).1⟩⟩
 have hargs:∀c∈s.cons,c.args.length≤7:=fun c hc=>cn_args (h6 c hc)
 have pl:PlP s (y4t s):=by
  refine ⟨by have:=yfn h;omega,fun x hx=>?_,fun o ho j hj=>?_,fun f hf=>?_,fun c hc ho=>?_⟩
  ·unfold y4t at hx
   simp only [kZ,List.mem_flatMap,List.mem_map,List.mem_filterMap] at hx
   rcases hx with ⟨o,_,hx⟩ | ⟨f,hf,rfl⟩ | ⟨c,hc,hx⟩
   ·unfold yg1 at hx
    obtain ⟨j,_,rfl⟩:=List.mem_map.1 hx
    have:=yr8 o.name j;omega
   ·have:=(sf f hf).1;omega
   ·split at hx
    ·injection hx with hx;subst hx
     have:=(sc c hc).2.1;omega
    ·cases hx
  ·unfold y4t
   refine List.mem_append.2 (.inl (List.mem_flatMap.2 ⟨o,ho,?_⟩))
   unfold yg1
   exact List.mem_map.2 ⟨j,List.mem_filter.2 ⟨List.mem_range.2 hj,by simp [yma]⟩,rfl⟩
  ·unfold y4t
   exact List.mem_append.2 (.inr (List.mem_append.2 (.inl (List.mem_map.2 ⟨f,hf,rfl⟩))))
  ·unfold y4t
   exact List.mem_append.2 (.inr (List.mem_append.2 (.inr (List.mem_filterMap.2 ⟨c,hc,by simp [ho]⟩))))
 have cn:CnR s:=⟨fun c hc=>(ykv (h6 c hc)).1,fun c hc=>(ykv (h6 c hc)).2.2,fun c hc=>by have:=hargs c hc;omega,fun c hc=>by have:=(sc c hc).2.2.1;omega,by omega⟩
 refine ⟨nm,cn,pl,fun c hc n p hr=>?_,?_⟩
 ·have ca:c.a∈ybq s:=List.mem_append.2 (.inl (List.mem_flatMap.2 ⟨c,hc,by simp⟩))
  have cx:∀a∈c.args,a∈ybq s:=fun a ha=>List.mem_append.2 (.inl (List.mem_flatMap.2 ⟨c,hc,by simp [ha]⟩))
  have pn:∀q∈y4t s,q∈ybq s:=fun q hq=>List.mem_append.2 (.inr (List.mem_append.2 (.inl hq)))
  have fn:∀q∈y4t s,∀k,k<8→y4s q k∈ybq s:=fun q hq k hk=>List.mem_append.2 (.inr (List.mem_append.2 (.inr (List.mem_flatMap.2 ⟨q,hq,List.mem_map.2 ⟨k,List.mem_range.2 hk,rfl⟩⟩))))
  rcases hr with ⟨o,rfl,rfl⟩ | ⟨o,rfl,x⟩ | ⟨o,rfl,q,x,y,z⟩ | ⟨o,x,y,z⟩ | ⟨o,rfl,e,q,x,rfl⟩ | ⟨o,q,x,y,⟨rfl,rfl⟩ | ⟨k,a,z1,z2,⟨rfl,rfl,z⟩ | ⟨z0,rfl,z⟩⟩⟩
  ·exact ⟨ca,pl.adr c hc o⟩
  ·exact ⟨ca,x.2⟩
  ·exact ⟨ca,z.2⟩
  ·exact ⟨pn _ x.2,z.2⟩
  ·exact ⟨ca,yhk nm pl (nm.cb c hc).1 e⟩
  ·exact ⟨ca,x.2⟩
  ·exact ⟨cx _ (kY z1),z.2⟩
  ·refine ⟨fn q x.2 k ?_,z.2⟩
   have:=(List.getElem?_eq_some_iff.1 z1).1
   have:=hargs c hc
   omega
 ·unfold ybq
  have hp:=yfn h
  have e1:(s.cons.flatMap fun c=>c.a::c.b::c.args).length≤s.cons.length*9:=by
   have:∀l:List Cn,(∀c∈l,c.args.length≤7)→(l.flatMap fun c=>c.a::c.b::c.args).length≤l.length*9:=fun l=>by
    induction l with
    | nil=>intro _;simp
    | cons a r ih=>
     intro hl
     have q1:=ih fun c hc=>hl c (by simp [hc])
     have q2:=hl a (by simp)
     simp only [List.flatMap_cons,kT,kO] at q1 ⊢
     omega
   exact this _ hargs
  have e2:((y4t s).flatMap fun q=>(List.range 8).map (y4s q)).length=(y4t s).length*8:=by
   have:∀l:List Str,(l.flatMap fun q=>(List.range 8).map (y4s q)).length=l.length*8:=fun l=>by
    induction l with
    | nil=>rfl
    | cons a r ih=>simp only [List.flatMap_cons,kT,kO,ih,List.length_map,List.length_range];omega
   exact this _
  simp only [kT,e2]
  omega
theorem yme {H:Hp} {S:Nat→Prop} {a b c:V} (h:Frz H S a b):Frz H S (.tup [a,c]) (.tup [b,c]):=.tup _ _ rfl fun j u v h1 h2=>by
 match j,h1,h2 with
 | 0,h1,h2=>simp at h1 h2;subst h1;subst h2;exact h
 | 1,h1,h2=>simp at h1 h2;subst h1;subst h2;exact .refl _
 | j+2,h1,h2=>simp at h1
@[simp] theorem free_fsV (l:List y73):ycp (fsV l):=yfy fun e he v hv=>by
 obtain ⟨f,_,rfl⟩:=List.mem_map.1 he
 simp [fcs] at hv
 rcases hv with rfl | rfl <;> simp
theorem en1 (l:List Str):∀e∈l.map (fun x=>[V.s x]),e.length=1:=ss_len l
theorem ec1 (l:List Str):(l.map (fun x=>[V.s x])).flatten.all y6b=true:=by
 rw [ka];intro v hv
 obtain ⟨e,he,hv⟩:=List.mem_flatten.1 hv
 obtain ⟨x,_,rfl⟩:=List.mem_map.1 he
 simp at hv;subst hv;rfl
def OfInv (l:List y73) (node:Str) (H:Hp) (m:Nat) (F:Fr) (H':Hp):Prop:=
 ∃i,i≤l.length∧m=l.length-i∧(l.take i).find? (fun f=>decide (f.1=node))=none∧H'=H∧F=[(0,fsV l),(1,.s node),(5,.i .i64 i)]
theorem ynh {α:Type} {p:α→Bool} {l:List α} {i:Nat} (h:i<l.length) (hp:p l[i]=true) (hn:(l.take i).find? p=none):l.find? p=some l[i]:=by
 have:l=l.take i++l[i]::l.drop (i+1):=by rw [←kP h,List.take_append_drop]
 conv=>lhs;rw [this]
 rw [List.find?_append,hn,List.find?_cons,hp]
 rfl
theorem yjy (l:List y73) (node:Str) (hl:l.length≤9223372036854775807) (hm:∀f∈l,f.2.length≤1000000) (H:Hp):AC Tryz.prog y5u [fsV l,.s node] H (fun v H'=>v=ss (ofS l node)∧H'=H):=by
 refine AC.codeP y2g.at y2g.ok (ykt _) fun hlt=>?_
 simp only [y2g]
 apply jA
 simp [y2g.r0]
 apply jB
 simp [y2g.r1]
 refine AX.pblock (AX.loop (OfInv l node H) l.length ⟨_,_,.refl _ _,0,by omega,by omega,by simp,rfl,rfl⟩ ?_)
 rintro m F H' ⟨i,hi,rfl,hx,rfl,rfl⟩
 simp only [y2g.l0]
 apply jB
 simp [y2g.r2,fsV]
 refine AX.pcond rfl (fun hc=>AX.skip ?_) (fun hc=>AX.exit ?_)
 ·simp at hc
  have hmi:=hm _ (kL hc)
  simp
  apply jC
  simp [y2g.r3,fsV,hc,fcs]
  refine AX.pcond rfl (fun hd=>?_) (fun hd=>AX.skip ?_)
  ·simp at hd
   have A0:Acc H' 1 (.sl none 0 1) H' []:=.nil 1 1 (.refl _) hlt
   obtain ⟨v1,H1,e1,A1⟩:=A0.app (bytes:=16) hlt (en1 l[i].2) (by omega) (ec1 _) (by simp [y74];omega)
   apply jA
   simp [y2g.r4,fsV,hc,fcs,ss,-y3a,e1]
   apply jD
   have:ofS l node=l[i].2:=by
    unfold ofS;rw [ynh hc (by simpa using hd) hx];rfl
   simp [this]
   refine ⟨A1.ext,?_⟩
   have:=A1.frz
   simpa [ss] using this
  simp at hd
  simp
  apply jE
  simp [y2g.r5,y2c hc hl]
  refine ⟨l.length-(i+1),by omega,_,_,.refl _ _,i+1,by omega,rfl,?_,rfl,by simp [fsV,fcs]⟩
  rw [kJ,kC hc,List.find?_append,hx]
  simp [hd]
 simp at hc
 rw [kI hc] at hx
 simp
 apply jA
 simp [y2g.r6]
 apply jD
 simp [ofS,hx]
 exact ⟨.refl _,.sl0 _⟩
def PtI (s:Sy) (o:Str) (k:Nat) (H:Hp) (m:Nat) (F:Fr) (X:Hp):Prop:=
 ∃i,i≤s.objs.length∧m=s.objs.length-i∧(∀ob∈s.objs.take i,ob.name≠o)∧X=H∧F=[(2,.fp (y3p s) 0),(5,.s o),(6,.i .i64 (k:Nat)),(7,.b true),(8,.i .i64 i)]
theorem yg9 (s:Sy) (hN:SyN s) (hl:s.objs.length≤1000000000) (p:Str) (hp:p.length≤9223372036854775806) (H:Hp):AC Tryz.prog y6d [.agg (y3p s),.s p] H (fun v H'=>v=.b (ybh s p)∧H'=H):=by
 refine AC.code y1a.at y1a.ok ?_
 simp only [y1a]
 apply jA
 simp [y1a.r0,y3p]
 apply jA
 simp [y1a.r1]
 refine AC.fix (yhc p hp H) ?_
 cases ho:ydl p with
 | none=>
  have hpt:ybh s p=false:=by unfold ybh;rw [ho]
  simp [yk4]
  apply jB
  simp [y1a.r2]
  refine AX.pblock (AX.loop (fun m F X=>m=0∧X=H∧F=[(2,.fp (y3p s) 0),(5,.s []),(6,.i .i64 0),(7,.b false),(8,.i .i64 0)]) 0 ⟨_,_,.refl _ _,rfl,rfl,by simp [y3p]⟩ ?_)
  rintro m F X ⟨rfl,rfl,rfl⟩
  simp only [y1a.l0]
  refine AX.seq (AX.test false [(2,.fp (y3p s) 0),(5,.s []),(6,.i .i64 0),(7,.b false),(8,.i .i64 0),(22,.b false)] ?_ rfl (fun h=>by cases h) (fun _=>AX.exit ?_))
  ·by_cases h0:0<s.objs.length
   ·simp [y1a.r3,y3p,h0]
   ·simp [y1a.r3,y3p,h0]
  simp
  apply jA
  simp [y1a.r7]
  apply jD
  simp [hpt]
 | some ok=>
  obtain ⟨o,k⟩:=ok
  simp [yk4]
  apply jB
  simp [y1a.r2]
  refine AX.pblock (AX.loop (PtI s o k H) s.objs.length ⟨_,_,.refl _ _,0,by omega,by omega,by simp,rfl,by simp [y3p]⟩ ?_)
  rintro m F X ⟨i,hi,rfl,hno,rfl,rfl⟩
  simp only [y1a.l0]
  by_cases hb:i<s.objs.length
  rotate_left
  ·refine AX.seq (AX.test false [(2,.fp (y3p s) 0),(5,.s o),(6,.i .i64 (k:Nat)),(7,.b true),(8,.i .i64 i),(22,.b false)] ?_ rfl (fun h=>by cases h) (fun _=>AX.exit ?_))
   ·simp [y1a.r3,y3p,hb]
   simp
   apply jA
   simp [y1a.r7]
   apply jD
   rw [kI (by omega)] at hno
   have:ybh s p=false:=yph fun ob hob k' h=>by rw [ho] at h;injection h with h;injection h with h1 _;exact hno ob hob h1.symm
   simp [this]
  obtain ⟨ob,hoi⟩:∃ob,s.objs[i]?=some ob:=⟨_,kC hb⟩
  have hoe:s.objs[i]=ob:=(List.getElem?_eq_some_iff.1 hoi).2
  refine AX.seq (AX.test true [(2,.fp (y3p s) 0),(5,.s o),(6,.i .i64 (k:Nat)),(7,.b true),(8,.i .i64 i),(22,.b true)] ?_ rfl (fun _=>AX.skip ?_) (fun h=>by cases h))
  ·simp [y1a.r3,y3p,hb]
  simp
  apply jC
  simp [y1a.r4,y3p,hb,hoe,y68]
  refine AX.pcond rfl (fun hd=>jA ?_) (fun hd=>AX.skip ?_)
  ·simp at hd
   have hpt:ybh s p=decide (ob.kinds[k]?=some 112):=ypi hN hoi (by rw [ho,hd])
   by_cases hk:k<ob.kinds.length
   ·simp [y1a.r5,y3p,hb,hoe,y68,hk]
    apply jD
    have e1:(ob.kinds[k].toNat=112)=(ob.kinds[k]=112):=by
     have:=yn0 ob.kinds[k] 112 (by omega)
     rw [←show (((ob.kinds[k].toNat:Nat):Int)=((112:Nat):Int))=(ob.kinds[k].toNat=112) from propext Int.ofNat_inj]
     exact this
    have e2:decide (ob.kinds[k].toNat=112)=decide (ob.kinds[k]=112):=decide_eq_decide.2 (by rw [e1])
    simp [hpt,hk,e2]
   ·simp [y1a.r5,y3p,hb,hoe,y68,hk]
    apply jD
    simp [hpt,hk]
  ·simp at hd
   simp
   apply jE
   simp [y1a.r6,y2c hb (show s.objs.length≤9223372036854775807 by omega)]
   refine ⟨s.objs.length-(i+1),by omega,_,_,.refl _ _,i+1,by omega,rfl,fun x hx=>?_,rfl,by simp [y3p]⟩
   rw [kJ,hoi] at hx
   rcases List.mem_append.1 hx with h | h
   ·exact hno x h
   ·simp at h;subst h;exact hd
end Go.Proofs.YtikpijbeobeckaaGreatDoor
