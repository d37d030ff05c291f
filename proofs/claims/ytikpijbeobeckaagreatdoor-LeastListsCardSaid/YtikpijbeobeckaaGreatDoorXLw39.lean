/- Part 39 of the proof of the laws of the queries: RkV, RkX, QSrtL, QSrt, QSrFL. -/
import Derived.Shelf.Sort.Plain
import Derived.Shelf.Slices.In.SortNone
import Derived.Lib.RowBridge
import Derived.Shelf.SlSortCmp.NoneTotal
import Derived.Ground.SlsfProg
import Derived.Test.YtikpijbeobeckaaGreatDoorXLw20
import Derived.Test.YtikpijbeobeckaaGreatDoorXLw25
import Derived.Test.YtikpijbeobeckaaGreatDoorXLw33
import Derived.Test.YtikpijbeobeckaaGreatDoorXLw38
set_option linter.unusedSimpArgs false
set_option linter.unusedVariables false
namespace Go.Proofs.YtikpijbeobeckaaGreatDoor
open Am C
def ldJ (s:Sy) (id:Nat) (P:List Str) (L0:RkL) (m0:Bool) (X0:Hp) (c:Cn) (ib:Nat) (v12 v13 v14 u:V) (l:List Nat) (mm:Nat) (F:Fr) (X:Hp):Prop:=
  ∃i L m,i≤l.length∧mm=l.length-i∧RkTr s id P L0 m0 X0 L m X (fun X=>∀k∈l.take i,∀q,L0.ts[k]?=some q→ycr s q=true→∀p,X q p→X c.a p)∧F=[(0,.p (some (id,0,10))),(3,.p (some (ib,0,6))),(12,v12),(13,v13),(14,v14),(41,u),(42,.i .i64 l.length),(43,.i .i64 i)]
set_option maxHeartbeats 2000000 in
theorem ld_ok {s:Sy} {id:Nat} {P:List Str} {L:RkL} {m:Bool} {H:Hp} (R:RkOk s id L m H) (hN:SyN s) {c:Cn} (hc:c∈s.cons) (ho:c.op=3) {ib mb:Nat} (hib:L.tag ib=0) (gb:H.get ib=some (.cells (y51 c) mb)) (hmb:mb≤6) {v12 v13 v14 w w':V} {Q:y59}
    (hQ:∀L' m' X,RkTr s id P L m H L' m' X (fun X=>∀q,X c.b q→ycr s q=true→∀p,X q p→X c.a p)→Q .normal [(0,.p (some (id,0,10))),(12,v12),(13,v13),(14,v14)] X):
    AX Tryz.prog 91 (.seq (.post [0,3,12,13,14,41,42,43] (.region y0.r9)) (.post [0,12,13,14] (.block 3 (.loop y0.l1)))) Q [(0,.p (some (id,0,10))),(3,.p (some (ib,0,6))),(12,v12),(13,v13),(14,v14),(19,w),(36,w')] H:=by
  have gb':=gb
  simp only [y51] at gb'
  apply jA
  simp [y0.r9,gb',hmb]
  refine (yeg R c.b).mono ?_
  rintro u X0 ⟨L0,l,ia,R0,T0,hts0,hr0,su,hia,hll,hl1,hl2⟩
  obtain ⟨pp,z,rfl,hrow⟩:=su.len
  have gb0:=T0.keep _ _ hib gb
  have hib0:L0.tag ib=0:=by rw [T0.tag ib (R.lt _ _ gb)];exact hib
  simp
  refine AX.pblock (AX.loop (ldJ s id P L0 m X0 c ib v12 v13 v14 (.sl pp l.length z) l) l.length ⟨_,_,.refl _ _,0,L0,m,by omega,by omega,.refl R0 (fun X k hk=>by simp at hk),by simp⟩ ?_)
  rintro mm F X ⟨i,L1,m1,hi,rfl,A,rfl⟩
  simp only [y0.l1]
  apply jA
  simp [y0.r10]
  refine AX.seq (AX.pcond rfl (fun hb=>AX.skip ?_) (fun hb=>AX.exit ?_))
  rotate_left
  · simp at hb
    simp
    have hil:i=l.length:=by omega
    subst hil
    rw [List.take_length] at A
    exact hQ L1 m1 X ((RkTr.from T0 hts0 hr0 A R.lt).to' fun g q hq hf=>by
      obtain ⟨k,hk,hx⟩:=hl2 q hq
      exact g k hk q (by rw [hts0];exact hx) hf)
  simp at hb
  simp
  have hne:l≠[]:=fun e=>by rw [e] at hb;exact absurd hb (by simp)
  obtain ⟨rfl,rfl,mr,gr,hmr⟩:=hrow hne
  have grX:=A.to.keep _ _ (hia hne) gr
  have gbX:=A.to.keep _ _ hib0 gb0
  simp only [y51] at gbX
  obtain ⟨k,hk⟩:∃k,l[i]?=some k:=⟨_,List.getElem?_eq_getElem hb⟩
  obtain ⟨x,hx0,hxr⟩:=hl1 k (List.mem_of_getElem? hk)
  have hx1:L1.ts[k]?=some x:=by
    obtain ⟨r,hr⟩:=A.to.ts
    rw [←hr,hts0]
    rw [List.getElem?_append_left (List.getElem?_eq_some_iff.1 hx0).1];exact hx0
  have R1:=A.ok
  have hq1:y5o L1 c.b x:=A.tr.mono _ _ ((hr0 _ _).2 hxr)
  have hld:=yc8 hk
  have htk:l.take (i+1)=l.take i++[k]:=by rw [List.take_add_one,hk];rfl
  have stp:∀L2 m2 X2,RkTr s id P L1 m1 X L2 m2 X2 (fun X=>ycr s x=true→∀p,X x p→X c.a p)→RkTr s id P L0 m X0 L2 m2 X2 (fun X=>∀k∈l.take (i+1),∀q,L0.ts[k]?=some q→ycr s q=true→∀p,X q p→X c.a p):=fun L2 m2 X2 A2=>
    (A.trans A2 R0.lt).to' fun ⟨g1,g2⟩ k' hk' q hq hf=>by
      rw [htk] at hk'
      rcases List.mem_append.1 hk' with h | h
      · exact g1 k' h q hq hf
      · simp at h;subst h
        rw [hts0,hx0] at hq;injection hq with hq;subst hq
        exact g2 hf
  refine AX.cut (fun F X2=>F=[(0,.p (some (id,0,10))),(3,.p (some (ib,0,6))),(12,v12),(13,v13),(14,v14),(41,.sl (some (ia,0,l.length)) l.length 1),(42,.i .i64 l.length),(43,.i .i64 i)]∧RkT s id P L0 m X0 (fun X=>∀k∈l.take (i+1),∀q,L0.ts[k]?=some q→ycr s q=true→∀p,X q p→X c.a p) X2) ?_ ?_
  rotate_left
  · rintro F X2 ⟨rfl,L2,m2,A2⟩
    apply jE
    simp [y0.r14,y28 hb (show l.length≤9223372036854775807 by omega)]
    exact ⟨l.length-(i+1),by omega,_,_,.refl _ _,i+1,L2,m2,by omega,rfl,A2,by simp⟩
  refine AX.pblock (jA ?_)
  simp [y0.r11,hb,grX,hmr,yfr,hld,show i+1≤l.length by omega]
  apply jA
  simp [y0.r12]
  refine AC.fix (ycq R1 hN hx1) ?_
  simp
  refine AX.pcond (t:=ycr s x) rfl (fun hp=>?_) (fun hp=>AX.skip ?_)
  · refine AX.drwL (y0.r13.take 6) rfl rfl ?_
    simp [y0.r13,gbX,hmb]
    refine yez _ (yc6 R1 hx1) ?_
    simp
    refine (yav R1 c.a x).mono ?_
    rintro v X2 ⟨L2,m2,A2⟩
    refine ⟨_,_,.refl _ _,rfl,L2,m2,stp _ _ _ ((A2.tr (P:=P) (fun Y hY hX n p h=>?_) (fun hx n y h=>?_)).to' fun g _ p hp=>g _ _ ⟨rfl,hp⟩)⟩
    · obtain ⟨rfl,h⟩:=h
      exact hY c hc _ _ (.inr (.inr (.inl ⟨ho,rfl,x,hX _ _ hq1,hp,hX _ _ h⟩)))
    · obtain ⟨_,e,he,_,k,_,h2⟩:=h
      exact hx y (List.mem_of_getElem? h2)
  · simp
    exact ⟨_,_,.refl _ _,by simp,L1,m1,stp _ _ _ (RkTr.refl R1 fun X h=>by rw [hp] at h;cases h)⟩
def stJ (s:Sy) (id:Nat) (P:List Str) (L0:RkL) (m0:Bool) (X0:Hp) (c:Cn) (ib:Nat) (v12 v13 v14 u:V) (l:List Nat) (mm:Nat) (F:Fr) (X:Hp):Prop:=
  ∃i L m,i≤l.length∧mm=l.length-i∧RkTr s id P L0 m0 X0 L m X (fun X=>∀k∈l.take i,∀q,L0.ts[k]?=some q→ycr s q=true→∀p,X c.b p→X q p)∧F=[(0,.p (some (id,0,10))),(3,.p (some (ib,0,6))),(12,v12),(13,v13),(14,v14),(63,u),(64,.i .i64 l.length),(65,.i .i64 i)]
set_option maxHeartbeats 2000000 in
theorem st_ok {s:Sy} {id:Nat} {P:List Str} {L:RkL} {m:Bool} {H:Hp} (R:RkOk s id L m H) (hN:SyN s) {c:Cn} (hc:c∈s.cons) (ho:c.op=4) {ib mb:Nat} (hib:L.tag ib=0) (gb:H.get ib=some (.cells (y51 c) mb)) (hmb:mb≤6) {v12 v13 v14 w w':V} {Q:y59}
    (hQ:∀L' m' X,RkTr s id P L m H L' m' X (fun X=>∀q,X c.a q→ycr s q=true→∀p,X c.b p→X q p)→Q .normal [(0,.p (some (id,0,10))),(12,v12),(13,v13),(14,v14)] X):
    AX Tryz.prog 91 (.seq (.post [0,3,12,13,14,63,64,65] (.region y0.r16)) (.post [0,12,13,14] (.block 5 (.loop y0.l2)))) Q [(0,.p (some (id,0,10))),(3,.p (some (ib,0,6))),(12,v12),(13,v13),(14,v14),(19,w),(58,w')] H:=by
  have gb':=gb
  simp only [y51] at gb'
  apply jA
  simp [y0.r16,gb',hmb]
  refine (yeg R c.a).mono ?_
  rintro u X0 ⟨L0,l,ia,R0,T0,hts0,hr0,su,hia,hll,hl1,hl2⟩
  obtain ⟨pp,z,rfl,hrow⟩:=su.len
  have gb0:=T0.keep _ _ hib gb
  have hib0:L0.tag ib=0:=by rw [T0.tag ib (R.lt _ _ gb)];exact hib
  simp
  refine AX.pblock (AX.loop (stJ s id P L0 m X0 c ib v12 v13 v14 (.sl pp l.length z) l) l.length ⟨_,_,.refl _ _,0,L0,m,by omega,by omega,.refl R0 (fun X k hk=>by simp at hk),by simp⟩ ?_)
  rintro mm F X ⟨i,L1,m1,hi,rfl,A,rfl⟩
  simp only [y0.l2]
  apply jA
  simp [y0.r17]
  refine AX.seq (AX.pcond rfl (fun hb=>AX.skip ?_) (fun hb=>AX.exit ?_))
  rotate_left
  · simp at hb
    simp
    have hil:i=l.length:=by omega
    subst hil
    rw [List.take_length] at A
    exact hQ L1 m1 X ((RkTr.from T0 hts0 hr0 A R.lt).to' fun g q hq hf=>by
      obtain ⟨k,hk,hx⟩:=hl2 q hq
      exact g k hk q (by rw [hts0];exact hx) hf)
  simp at hb
  simp
  have hne:l≠[]:=fun e=>by rw [e] at hb;exact absurd hb (by simp)
  obtain ⟨rfl,rfl,mr,gr,hmr⟩:=hrow hne
  have grX:=A.to.keep _ _ (hia hne) gr
  have gbX:=A.to.keep _ _ hib0 gb0
  simp only [y51] at gbX
  obtain ⟨k,hk⟩:∃k,l[i]?=some k:=⟨_,List.getElem?_eq_getElem hb⟩
  obtain ⟨x,hx0,hxr⟩:=hl1 k (List.mem_of_getElem? hk)
  have hx1:L1.ts[k]?=some x:=by
    obtain ⟨r,hr⟩:=A.to.ts
    rw [←hr,hts0]
    rw [List.getElem?_append_left (List.getElem?_eq_some_iff.1 hx0).1];exact hx0
  have R1:=A.ok
  have hq1:y5o L1 c.a x:=A.tr.mono _ _ ((hr0 _ _).2 hxr)
  have hld:=yc8 hk
  have htk:l.take (i+1)=l.take i++[k]:=by rw [List.take_add_one,hk];rfl
  have stp:∀L2 m2 X2,RkTr s id P L1 m1 X L2 m2 X2 (fun X=>ycr s x=true→∀p,X c.b p→X x p)→RkTr s id P L0 m X0 L2 m2 X2 (fun X=>∀k∈l.take (i+1),∀q,L0.ts[k]?=some q→ycr s q=true→∀p,X c.b p→X q p):=fun L2 m2 X2 A2=>
    (A.trans A2 R0.lt).to' fun ⟨g1,g2⟩ k' hk' q hq hf=>by
      rw [htk] at hk'
      rcases List.mem_append.1 hk' with h | h
      · exact g1 k' h q hq hf
      · simp at h;subst h
        rw [hts0,hx0] at hq;injection hq with hq;subst hq
        exact g2 hf
  refine AX.cut (fun F X2=>F=[(0,.p (some (id,0,10))),(3,.p (some (ib,0,6))),(12,v12),(13,v13),(14,v14),(63,.sl (some (ia,0,l.length)) l.length 1),(64,.i .i64 l.length),(65,.i .i64 i)]∧RkT s id P L0 m X0 (fun X=>∀k∈l.take (i+1),∀q,L0.ts[k]?=some q→ycr s q=true→∀p,X c.b p→X q p) X2) ?_ ?_
  rotate_left
  · rintro F X2 ⟨rfl,L2,m2,A2⟩
    apply jE
    simp [y0.r21,y28 hb (show l.length≤9223372036854775807 by omega)]
    exact ⟨l.length-(i+1),by omega,_,_,.refl _ _,i+1,L2,m2,by omega,rfl,A2,by simp⟩
  refine AX.pblock (jA ?_)
  simp [y0.r18,hb,grX,hmr,yfr,hld,show i+1≤l.length by omega]
  apply jA
  simp [y0.r19]
  refine AC.fix (ycq R1 hN hx1) ?_
  simp
  refine AX.pcond (t:=ycr s x) rfl (fun hp=>?_) (fun hp=>AX.skip ?_)
  · refine AX.drwL (y0.r20.take 6) rfl rfl ?_
    simp [y0.r20,gbX,hmb]
    refine yez _ (yc6 R1 hx1) ?_
    simp [gbX,hmb]
    refine (yav R1 x c.b).mono ?_
    rintro v X2 ⟨L2,m2,A2⟩
    refine ⟨_,_,.refl _ _,rfl,L2,m2,stp _ _ _ ((A2.tr (P:=P) (fun Y hY hX n p h=>?_) (fun hx n y h=>?_)).to' fun g _ p hp=>g _ _ ⟨rfl,hp⟩)⟩
    · obtain ⟨rfl,h⟩:=h
      exact hY c hc _ _ (.inr (.inr (.inr (.inl ⟨ho,hX _ _ hq1,hp,hX _ _ h⟩))))
    · obtain ⟨_,e,he,_,k,_,h2⟩:=h
      exact hx y (List.mem_of_getElem? h2)
  · simp
    exact ⟨_,_,.refl _ _,by simp,L1,m1,stp _ _ _ (RkTr.refl R1 fun X h=>by rw [hp] at h;cases h)⟩
structure CnR (s:Sy):Prop where
  op:∀c∈s.cons,1≤c.op∧c.op≤6
  sig:∀c∈s.cons,c.op=6→∃lk r,ybb c.tag=some (lk,r)
  args:∀c∈s.cons,c.args.length≤1000000
  tag:∀c∈s.cons,c.tag.length≤9223372036854775806
  big:s.cons.length≤1000000000
def RndI (s:Sy) (id:Nat) (P:List Str) (L0:RkL) (m0:Bool) (X0:Hp) (mm:Nat) (F:Fr) (X:Hp):Prop:=
  ∃i L m,i≤s.cons.length∧mm=s.cons.length-i∧RkTr s id P L0 m0 X0 L m X (fun X=>∀c∈s.cons.take i,y7d (Rl s c X) X)∧F=[(0,.p (some (id,0,10))),(12,.fs (s.cons.map y51)),(13,.i .i64 s.cons.length),(14,.i .i64 i)]
theorem rl_add {s:Sy} {c:Cn} {X:Rel} (h:c.op=1) (g:y7d (fun n p=>n=c.a∧p=c.b) X):y7d (Rl s c X) X:=by
  rintro n p (⟨_,a,b⟩ | ⟨o,_⟩ | ⟨o,_⟩ | ⟨o,_⟩ | ⟨o,_⟩ | ⟨o,_⟩)
  · exact g _ _ ⟨a,b⟩
  all_goals omega
theorem rl_copy {s:Sy} {c:Cn} {X:Rel} (h:c.op=2) (g:y7d (fun n p=>n=c.a∧X c.b p) X):y7d (Rl s c X) X:=by
  rintro n p (⟨o,_⟩ | ⟨_,a,b⟩ | ⟨o,_⟩ | ⟨o,_⟩ | ⟨o,_⟩ | ⟨o,_⟩)
  · omega
  · exact g _ _ ⟨a,b⟩
  all_goals omega
theorem rl_load {s:Sy} {c:Cn} {X:Rel} (h:c.op=3) (g:∀q,X c.b q→ycr s q=true→∀p,X q p→X c.a p):y7d (Rl s c X) X:=by
  rintro n p (⟨o,_⟩ | ⟨o,_⟩ | ⟨_,rfl,q,a,b,d⟩ | ⟨o,_⟩ | ⟨o,_⟩ | ⟨o,_⟩)
  · omega
  · omega
  · exact g q a b p d
  all_goals omega
theorem rl_store {s:Sy} {c:Cn} {X:Rel} (h:c.op=4) (g:∀q,X c.a q→ycr s q=true→∀p,X c.b p→X q p):y7d (Rl s c X) X:=by
  rintro n p (⟨o,_⟩ | ⟨o,_⟩ | ⟨o,_⟩ | ⟨_,a,b,d⟩ | ⟨o,_⟩ | ⟨o,_⟩)
  · omega
  · omega
  · omega
  · exact g n a b p d
  all_goals omega
theorem rl_field {s:Sy} {c:Cn} {X:Rel} (h:c.op=5) (g:y7d (fun n p=>n=c.a∧p≠[]∧∃q,X c.b q∧y6u s q c.tag c.k=p) X):y7d (Rl s c X) X:=by
  rintro n p (⟨o,_⟩ | ⟨o,_⟩ | ⟨o,_⟩ | ⟨o,_⟩ | ⟨_,a,b,q,d,e⟩ | ⟨o,_⟩)
  · omega
  · omega
  · omega
  · omega
  · exact g _ _ ⟨a,b,q,d,e⟩
  · omega
theorem rl_call {s:Sy} {c:Cn} {X:Rel} (h:c.op=6) (g:∀q,X c.b q→y9z s q c.tag=true→GC c q X):y7d (Rl s c X) X:=by
  rintro n p (⟨o,_⟩ | ⟨o,_⟩ | ⟨o,_⟩ | ⟨o,_⟩ | ⟨o,_⟩ | ⟨_,q,a,b,d⟩)
  · omega
  · omega
  · omega
  · omega
  · omega
  · obtain ⟨g1,g2⟩:=g q a b
    rcases d with ⟨rfl,rfl⟩ | ⟨k,v,z1,z2,⟨rfl,rfl,z⟩ | ⟨z0,rfl,z⟩⟩
    · exact g1
    · exact (g2 0 _ (List.getElem?_eq_some_iff.1 z1).1 z1 z2).1 rfl p z
    · exact (g2 k v (List.getElem?_eq_some_iff.1 z1).1 z1 z2).2 z0 p z
set_option maxHeartbeats 2000000 in
theorem ylf {s:Sy} {id:Nat} {L:RkL} {m:Bool} {H:Hp} (R:RkOk s id L m H) (hN:SyN s) (hC:CnR s) {P:List Str} (hP:PlP s P) (ht:∀y∈L.ts,y∈P):
    AC Tryz.prog y5e [.p (some (id,0,10))] H (fun _ X=>RkT s id P L m H (Cl s) X):=by
  have hbig:=hC.big
  obtain ⟨mb,hg,hm⟩:=R.blk
  refine AC.code y0.at y0.ok ?_
  simp only [y0]
  apply jA
  simp [y0.r0,hg,hm,ya3]
  refine AX.pblock (AX.loop (RndI s id P L m H) s.cons.length ⟨_,_,.refl _ _,0,L,m,by omega,by omega,.refl R (fun X c hc=>by simp at hc),by simp⟩ ?_)
  rintro mm F X ⟨i,L1,m1,hi,rfl,A,rfl⟩
  simp only [y0.l0]
  apply jA
  simp [y0.r1]
  refine AX.seq (AX.pcond rfl (fun hb=>AX.skip ?_) (fun hb=>AX.exit ?_))
  rotate_left
  · simp at hb
    simp
    have hil:i=s.cons.length:=by omega
    subst hil
    rw [List.take_length] at A
    exact ⟨L1,m1,A⟩
  simp at hb
  simp
  obtain ⟨c,hci⟩:∃c,s.cons[i]?=some c:=⟨_,List.getElem?_eq_getElem hb⟩
  have hce:s.cons[i]=c:=(List.getElem?_eq_some_iff.1 hci).2
  have hc:=List.mem_of_getElem? hci
  have R1:=A.ok
  have tsP:∀y∈L1.ts,y∈P:=A.tsp ht
  have htk:s.cons.take (i+1)=s.cons.take i++[c]:=by rw [List.take_add_one,hci];rfl
  have stp:∀L2 m2 X2,RkTr s id P L1 m1 X L2 m2 X2 (fun X=>y7d (Rl s c X) X)→RkTr s id P L m H L2 m2 X2 (fun X=>∀c∈s.cons.take (i+1),y7d (Rl s c X) X):=fun L2 m2 X2 A2=>
    (A.trans A2 R.lt).to' fun ⟨g1,g2⟩ c' hc'=>by
      rw [htk] at hc'
      rcases List.mem_append.1 hc' with h | h
      · exact g1 c' h
      · simp at h;subst h;exact g2
  refine AX.cut (fun F X2=>F=[(0,.p (some (id,0,10))),(12,.fs (s.cons.map y51)),(13,.i .i64 s.cons.length),(14,.i .i64 i)]∧RkT s id P L m H (fun X=>∀c∈s.cons.take (i+1),y7d (Rl s c X) X) X2) ?_ ?_
  rotate_left
  · rintro F X2 ⟨rfl,L2,m2,A2⟩
    apply jE
    simp [y0.r26,y28 hb (show s.cons.length≤9223372036854775807 by omega)]
    exact ⟨s.cons.length-(i+1),by omega,_,_,.refl _ _,i+1,L2,m2,by omega,rfl,A2,by simp⟩
  refine AX.pblock (jA ?_)
  simp [y0.r2,hb,hce,y51,ss]
  have e1:X.Ext ((X.add (.cells [.i .i64 0,.s [],.s [],.i .i64 0,.s [],.sl none 0 0] 6)).upd X.next (.cells [.i .i64 c.op,.s c.a,.s c.b,.i .i64 c.k,.s c.tag,.fs (c.args.map fun x=>[.s x])] 6)):=(Hp.Ext.add R1.lt _).upd R1.lt (Nat.le_refl _) _
  have l1:Hp.Lt ((X.add (.cells [.i .i64 0,.s [],.s [],.i .i64 0,.s [],.sl none 0 0] 6)).upd X.next (.cells [.i .i64 c.op,.s c.a,.s c.b,.i .i64 c.k,.s c.tag,.fs (c.args.map fun x=>[.s x])] 6)):=Hp.upd_lt (Hp.add_lt R1.lt _) (by simp) _
  have gb:((X.add (.cells [.i .i64 0,.s [],.s [],.i .i64 0,.s [],.sl none 0 0] 6)).upd X.next (.cells [.i .i64 c.op,.s c.a,.s c.b,.i .i64 c.k,.s c.tag,.fs (c.args.map fun x=>[.s x])] 6)).get X.next=some (.cells [.i .i64 c.op,.s c.a,.s c.b,.i .i64 c.k,.s c.tag,.fs (c.args.map fun x=>[.s x])] 6):=by simp
  generalize (X.add (.cells [.i .i64 0,.s [],.s [],.i .i64 0,.s [],.sl none 0 0] 6)).upd X.next (.cells [.i .i64 c.op,.s c.a,.s c.b,.i .i64 c.k,.s c.tag,.fs (c.args.map fun x=>[.s x])] 6)=X1 at e1 l1 gb ⊢
  have T1:RkTr s id P L1 m1 X L1 m1 X1 (fun _=>True):=(RkTr.refl R1 fun _=>trivial).ext e1 l1
  have Rx:=T1.ok
  have hib:L1.tag X.next=0:=Classical.byContradiction fun h=>by have:=R1.tlt _ h;omega
  have stp':∀L2 m2 X2,RkTr s id P L1 m1 X1 L2 m2 X2 (fun X=>y7d (Rl s c X) X)→RkT s id P L m H (fun X=>∀c∈s.cons.take (i+1),y7d (Rl s c X) X) X2:=fun L2 m2 X2 A2=>
    ⟨L2,m2,stp _ _ _ ((T1.trans A2 R1.lt).to' fun g=>g.2)⟩
  apply jA
  simp [y0.r3,gb]
  refine AX.pblock (jA ?_)
  simp [y0.r4]
  by_cases h1:c.op=1
  · refine jG (by simp [h1]) (AX.reg ?_)
    simp [y0.r5,gb]
    have hbP:=hP.adr c hc h1
    refine (ygw Rx c.a c.b (hP.len _ hbP) (Rx.tsl hP.big tsP)).mono ?_
    rintro v X2 ⟨L2,m2,A2⟩
    simp
    exact ⟨_,_,.refl _ _,by simp,stp' _ _ _ ((A2.tr (P:=P) (fun Y hY hX n p h=>hY c hc _ _ (.inl ⟨h1,h.1,h.2⟩)) (fun _ n y h=>by rw [h.2];exact hbP)).to' fun g=>rl_add h1 g)⟩
  refine jF (by simp [h1]) (jA ?_)
  simp [y0.r6]
  by_cases h2:c.op=2
  · refine jG (by simp [h2]) (AX.reg ?_)
    simp [y0.r7,gb]
    refine (yav Rx c.a c.b).mono ?_
    rintro v X2 ⟨L2,m2,A2⟩
    simp
    exact ⟨_,_,.refl _ _,by simp,stp' _ _ _ ((A2.tr (P:=P) (fun Y hY hX n p h=>hY c hc _ _ (.inr (.inl ⟨h2,h.1,hX _ _ h.2⟩))) (fun hx n y h=>by
      obtain ⟨_,e,he,_,k,_,h2⟩:=h
      exact hx y (List.mem_of_getElem? h2))).to' fun g=>rl_copy h2 g)⟩
  refine jF (by simp [h2]) (jA ?_)
  simp [y0.r8]
  by_cases h3:c.op=3
  · refine jG (by simp [h3]) ?_
    refine ld_ok (P:=P) Rx hN hc h3 hib (show X1.get X.next=some (.cells (y51 c) 6) from gb) (by omega) fun L2 m2 X2 A2=>?_
    simp
    exact ⟨_,_,.refl _ _,by simp,stp' _ _ _ (A2.to' fun g=>rl_load h3 g)⟩
  refine jF (by simp [h3]) (jA ?_)
  simp [y0.r15]
  by_cases h4:c.op=4
  · refine jG (by simp [h4]) ?_
    refine st_ok (P:=P) Rx hN hc h4 hib (show X1.get X.next=some (.cells (y51 c) 6) from gb) (by omega) fun L2 m2 X2 A2=>?_
    simp
    exact ⟨_,_,.refl _ _,by simp,stp' _ _ _ (A2.to' fun g=>rl_store h4 g)⟩
  refine jF (by simp [h4]) (jA ?_)
  simp [y0.r22]
  by_cases h5:c.op=5
  · refine jG (by simp [h5]) (AX.reg ?_)
    simp [y0.r23,gb]
    refine (ylg Rx hN hP tsP c (hN.cb c hc)).mono ?_
    rintro v X2 ⟨L2,m2,A2⟩
    simp
    exact ⟨_,_,.refl _ _,by simp,stp' _ _ _ ((A2.tr (P:=P) (fun Y hY hX n p h=>by
      obtain ⟨a,b,q,d,e⟩:=h
      exact hY c hc _ _ (.inr (.inr (.inr (.inr (.inl ⟨h5,a,b,q,hX _ _ d,e⟩)))))) (fun _ n y h=>by
      obtain ⟨_,b,q,_,e⟩:=h
      rw [←e] at b ⊢
      exact yec hN hP (hN.cb c hc).1 b)).to' fun g=>rl_field h5 g)⟩
  refine jF (by simp [h5]) (jA ?_)
  simp [y0.r24]
  have h6:c.op=6:=by have:=hC.op c hc;omega
  refine jG (by simp [h6]) (AX.reg ?_)
  simp [y0.r25,gb]
  obtain ⟨lk,r,hsg⟩:=hC.sig c hc h6
  refine (rCall_ok Rx hN hP tsP hc h6 hsg (hC.args c hc) (hC.tag c hc)).mono ?_
  rintro v X2 ⟨L2,m2,A2⟩
  simp
  exact ⟨_,_,.refl _ _,by simp,stp' _ _ _ (A2.to' fun g=>rl_call h6 g)⟩
end Go.Proofs.YtikpijbeobeckaaGreatDoor
namespace Go.Proofs
open Go.Shelf Go.RowKit Go.Sort Go.Lib
def Tryz.lays190_ren:Go.Shelf.Ren:=⟨fun | 190=>65 | 125=>116 | 258=>115 | 128=>174 | 129=>175 | 302=>165 | 303=>166 | 304=>167 | 305=>168 | 306=>169 | 307=>170 | 308=>171 | 309=>172 | 310=>173 | 333=>223 | 329=>224 | 330=>225 | 334=>226 | 335=>227 | 336=>153 | 344=>257 | n=>n,fun | 31=>35 | 9=>9 | 3=>3 | 46=>155 | 0=>0 | 51=>208 | 53=>47 | 4=>4 | 183=>201 | 182=>200 | 131=>187 | 5=>5 | 218=>251 | 222=>255 | 228=>276 | 229=>277 | n=>n,fun | n=>n⟩
theorem Tryz.lays190:Go.Proofs.Lays.n190 Tryz.prog Tryz.lays190_ren:={
  mixed:=by kernel_rfl
  f125:=Tryz.func116.trans (congrArg some (by kernel_rfl))
  f128:=Tryz.func174.trans (congrArg some (by kernel_rfl))
  f129:=Tryz.func175.trans (congrArg some (by kernel_rfl))
  f190:=Tryz.func65.trans (congrArg some (by kernel_rfl))
  f258:=Tryz.func115.trans (congrArg some (by kernel_rfl))
  f302:=Tryz.func165.trans (congrArg some (by kernel_rfl))
  f303:=Tryz.func166.trans (congrArg some (by kernel_rfl))
  f304:=Tryz.func167.trans (congrArg some (by kernel_rfl))
  f305:=Tryz.func168.trans (congrArg some (by kernel_rfl))
  f306:=Tryz.func169.trans (congrArg some (by kernel_rfl))
  f307:=Tryz.func170.trans (congrArg some (by kernel_rfl))
  f308:=Tryz.func171.trans (congrArg some (by kernel_rfl))
  f309:=Tryz.func172.trans (congrArg some (by kernel_rfl))
  f310:=Tryz.func173.trans (congrArg some (by kernel_rfl))
  f329:=Tryz.func224.trans (congrArg some (by kernel_rfl))
  f330:=Tryz.func225.trans (congrArg some (by kernel_rfl))
  f333:=Tryz.func223.trans (congrArg some (by kernel_rfl))
  f334:=Tryz.func226.trans (congrArg some (by kernel_rfl))
  f335:=Tryz.func227.trans (congrArg some (by kernel_rfl))
  f336:=Tryz.func153.trans (congrArg some (by kernel_rfl))
  f344:=Tryz.func257.trans (congrArg some (by kernel_rfl))
  t0:=Tryz.underlying0
  a0:=Tryz.isAgg0
  z0:=Tryz.sizeOf0
  v0:=Tryz.zeroValue0
  t3:=Tryz.underlying3
  a3:=Tryz.isAgg3
  z3:=Tryz.sizeOf3
  v3:=Tryz.zeroValue3
  t4:=Tryz.underlying4
  a4:=Tryz.isAgg4
  z4:=Tryz.sizeOf4
  v4:=Tryz.zeroValue4
  t5:=Tryz.underlying5
  a5:=Tryz.isAgg5
  z5:=Tryz.sizeOf5
  v5:=Tryz.zeroValue5
  t9:=Tryz.underlying9
  a9:=Tryz.isAgg9
  z9:=Tryz.sizeOf9
  v9:=Tryz.zeroValue9
  t31:=Tryz.underlying35
  a31:=Tryz.isAgg35
  z31:=Tryz.sizeOf35
  v31:=Tryz.zeroValue35
  t46:=Tryz.underlying155
  a46:=Tryz.isAgg155
  z46:=Tryz.sizeOf155
  v46:=Tryz.zeroValue155
  t51:=Tryz.underlying208
  a51:=Tryz.isAgg208
  z51:=Tryz.sizeOf208
  v51:=Tryz.zeroValue208
  t53:=Tryz.underlying47
  a53:=Tryz.isAgg47
  z53:=Tryz.sizeOf47
  v53:=Tryz.zeroValue47
  t131:=Tryz.underlying187
  a131:=Tryz.isAgg187
  z131:=Tryz.sizeOf187
  v131:=Tryz.zeroValue187
  t182:=Tryz.underlying200
  a182:=Tryz.isAgg200
  z182:=Tryz.sizeOf200
  v182:=Tryz.zeroValue200
  t183:=Tryz.underlying201
  a183:=Tryz.isAgg201
  z183:=Tryz.sizeOf201
  v183:=Tryz.zeroValue201
  t218:=Tryz.underlying251
  a218:=Tryz.isAgg251
  z218:=Tryz.sizeOf251
  v218:=Tryz.zeroValue251
  t222:=Tryz.underlying255
  a222:=Tryz.isAgg255
  z222:=Tryz.sizeOf255
  v222:=Tryz.zeroValue255
  t228:=Tryz.underlying276
  a228:=Tryz.isAgg276
  z228:=Tryz.sizeOf276
  v228:=Tryz.zeroValue276
  t229:=Tryz.underlying277
  a229:=Tryz.isAgg277
  z229:=Tryz.sizeOf277
  v229:=Tryz.zeroValue277 }
open Go.RowKit in
theorem Tryz.slices_Sort_string (blk off cap:Nat) (ss:List (List UInt8)) (w:World) (hH:Holds encStr w blk off ss.toArray) (hblk:blk<w.heap.size) (hsz:ss.length<4611686018427387904):
    Calls Tryz.prog 65 #[.slice (some ⟨blk,off,none⟩) ss.length cap] w fun e w'=>
      e=.returned (.tuple #[])∧∃n os,w'=grow (putRow encStr (Sort.ahead w n) blk off (ss.mergeSort fun x y=>decide (x≤y)).toArray) os:=Any.slices_Sort_string Tryz.lays190 blk off cap ss w hH hblk hsz
end Go.Proofs
namespace Go.Proofs.YtikpijbeobeckaaGreatDoor
open Am C
def ya7 (l:List Str):List Str:=l.mergeSort fun x y=>decide (x≤y)
theorem yil (x y:Str):decide (x≤y)=!ltB y x:=by
  unfold ltB
  rw [Go.Proofs.bytesLess_eq]
  by_cases h:y<x
  · have:¬x≤y:=fun k=>k h
    simp [h,this]
  · have:x≤y:=h
    simp [h,this]
theorem yji {l:List Str} (h:l.Nodup):ya7 l=yeb l:=by
  have hp:=List.mergeSort_perm l fun x y=>decide (x≤y)
  have hs:(ya7 l).Pairwise fun a b=>decide (a≤b)=true:=List.pairwise_mergeSort (fun a b c h1 h2=>by
      rw [yil] at h1 h2 ⊢
      cases hh:ltB c a with
      | false=>rfl
      | true=>
        rcases y8y a b with k | k | k
        · have:=y79 hh k;rw [this] at h2;simp at h2
        · subst k;rw [hh] at h2;simp at h2
        · rw [k] at h1;simp at h1)
    (fun a b=>by
      rw [yil,yil]
      rcases y8y a b with k | k | k
      · rw [yb0 k];simp
      · subst k
        have:ltB a a=false:=by cases hh:ltB a a with | false=>rfl | true=>exact absurd hh (y7g a)
        rw [this];simp
      · rw [yb0 k];simp) l
  have hn:(ya7 l).Nodup:=hp.nodup_iff.2 h
  have hr:y3s (ya7 l):=(hs.and hn).imp fun {a b} hab=>by
    obtain ⟨h1,h2⟩:=hab
    rw [yil] at h1
    rcases y8y a b with k | k | k
    · exact k
    · exact absurd k h2
    · rw [k] at h1;simp at h1
  exact y8i hr (ya2 l) fun x=>by rw [yh3];exact hp.mem_iff
namespace Am
open Go Go.RowKit Go.Proofs Go.Sort
theorem y8h:∀(zs cs:List V),zs.length=cs.length→setAll zs 0 cs=cs:=fun zs cs h=>by
  apply List.ext_getElem?
  intro j
  rw [y9o cs zs 0 j (by omega)]
  by_cases hj:j<cs.length
  · simp [hj]
  · rw [if_neg (by omega),List.getElem?_eq_none (by omega),List.getElem?_eq_none (by omega)]
theorem SortS_ok (l:List Str) (hl:l.length≤1000000000) (hn:l≠[]) (id m:Nat) (H:Hp) (hg:H.get id=some (.cells (l.map V.s) m)):
    AC Tryz.prog y5s [.sl (some (id,0,l.length)) l.length 1] H (fun v H'=>v=.tup []∧H'=H.upd id (.cells ((ya7 l).map V.s) l.length)):=by
  refine ⟨by kernel_rfl,fun κ cs S r=>?_⟩
  obtain ⟨c,rfl,rc⟩:=r.one'
  have hm:=S.le id _ m hg
  have hP:=S.cells id _ m hg l.length (by simpa using hm) (by simp)
  obtain ⟨⟨arr,t,fr,p1,p2,p3,p4⟩,p5⟩:=hP
  have hlen:(ya7 l).length=l.length:=List.length_mergeSort l
  have hpos:0<l.length:=List.length_pos_iff.2 hn
  cases rc with
  | sl _ _ _ _ _ cap n a ok hsz hcap hext hext2 hn' hroom ha=>
  have ha:=ha (by omega)
  subst ha
  have hcell:∀j,j<l.length→κ.w.cell? ⟨(κ.pl id l.length).1,(κ.pl id l.length).2+0+j,none⟩=some (encStr (l.getD j [])):=fun j hj=>by
    rw [y66 p1 (by omega)]
    have:=p3 j (.s (l.getD j [])) hj (by simp [hj])
    have:=VR.inv_s this
    rw [Nat.add_zero,this]
  have hfro:∀j,j<l.length→κ.w.frozen? ⟨(κ.pl id l.length).1,(κ.pl id l.length).2+0+j,none⟩=false:=fun j hj=>y7p p1 p4 (by omega)
  have hH:Holds encStr κ.w (κ.pl id l.length).1 ((κ.pl id l.length).2+0) l.toArray:=fun j hj=>by
    have hj':j<l.length:=by simpa using hj
    refine ⟨?_,hfro j hj'⟩
    rw [hcell j hj']
    simp [hj']
  refine (Tryz.slices_Sort_string _ _ cap l κ.w hH (lt_of_some p1) (by omega)).mono fun e w' ⟨he,q,os,hw⟩=>?_
  have hsc:=Lib.putRow_eq_setCells encStr κ.w (κ.pl id l.length).1 ((κ.pl id l.length).2+0) l.toArray (ya7 l) q hH (by simpa using hlen)
  have hw2:w'=grow ((κ.w.drewN q).setCells (κ.pl id l.length).1 ((κ.pl id l.length).2+0) ((ya7 l).map encStr)) os:=by rw [hw,←hsc];rfl
  have bd:Below κ.w.heap.size κ.w (κ.w.drewN q):=by have:=Lib.below_grow κ.w.heap.size κ.w (Nat.le_refl _) q #[];simpa using this
  have le1:=K.below_le S bd
  have S1:=S.below bd
  have hvr:VRs { κ with w:=κ.w.drewN q } ((ya7 l).map V.s) ((ya7 l).map encStr):=⟨by simp,fun j v hj=>by
    rw [List.getElem?_map,Option.map_eq_some_iff] at hj
    obtain ⟨x,hx,rfl⟩:=hj
    rw [List.getD_eq_getElem?_getD,List.getElem?_map,hx]
    exact .s x⟩
  obtain ⟨κ2,le2,S2,run,pl2,ok2⟩:=Sim.setAll_ok (P:=Tryz.prog) ((ya7 l).map V.s) ((ya7 l).map encStr) S1 hg (fun e=>by simp at e;rw [e] at hlen;simp at hlen;omega) (off:=0) (i:=0) (by simp [hlen]) (fun v hv=>by
    obtain ⟨x,_,rfl⟩:=List.mem_map.1 hv;rfl) hvr
  have run2:=run_storeCells_cells (P:=Tryz.prog) (κ.pl id l.length).1 ((κ.pl id l.length).2+0) ((ya7 l).map encStr) 0 (κ.w.drewN q)
    (fun j hj=>by
      have hj':j<l.length:=by simpa [hlen] using hj
      have:=hcell j hj'
      simp only [Nat.add_zero] at this ⊢
      show (κ.w.cell? _).isSome=true
      rw [this];rfl)
    (fun j hj=>by
      have hj':j<l.length:=by simpa [hlen] using hj
      have:=hfro j hj'
      simp only [Nat.add_zero] at this ⊢
      exact this)
    (fun v hv=>by obtain ⟨x,_,rfl⟩:=List.mem_map.1 hv;rfl)
  have ew:κ2.w=(κ.w.drewN q).setCells (κ.pl id l.length).1 ((κ.pl id l.length).2+0) ((ya7 l).map encStr):=by
    have e1:(List.map V.s l).length=l.length:=by simp
    rw [e1] at run
    have:=run.symm.trans run2
    injection this with _ h
  have bg:Below κ2.w.heap.size κ2.w w':=by
    rw [hw2,←ew]
    exact Lib.below_grow κ2.w.heap.size κ2.w (Nat.le_refl _) 0 os
  have le3:=K.below_le S2 bg
  have S3:=S2.below bg
  refine ⟨{ κ2 with w:=w' },.tup [],_,_,he,rfl,le1.trans (le2.trans le3),S3,VR.tup (κ:={ κ2 with w:=w' }) [] [] rfl (fun j v h=>by simp at h),rfl,?_⟩
  rw [y8h _ _ (by simp [hlen])]
  simp
end Am
end Go.Proofs.YtikpijbeobeckaaGreatDoor
namespace Go.Proofs
open Go.Shelf Go.RowKit Go.Lib Go.Sort
def Tryz.laysSlF06_f66_ren:Go.Shelf.Ren:=⟨fun | 6=>66 | 15=>116 | 14=>117 | 28=>174 | 29=>175 | 20=>176 | 21=>177 | 22=>178 | 23=>179 | 24=>180 | 25=>181 | 26=>182 | 27=>183 | 46=>228 | 47=>224 | 48=>225 | 49=>229 | 50=>230 | 57=>258 | n=>n,fun | 22=>28 | 24=>37 | 25=>105 | 3=>3 | 39=>155 | 0=>0 | 53=>208 | 55=>47 | 4=>4 | 46=>201 | 45=>200 | 50=>187 | 5=>5 | 9=>9 | 66=>251 | 70=>255 | 76=>276 | 77=>277 | n=>n,fun | n=>n⟩
theorem Tryz.laysSlF06_f66:Go.Proofs.SlLaysF0.n6 Tryz.prog Tryz.laysSlF06_f66_ren:={
  mixed:=by kernel_rfl
  f6:=⟨Tryz.f66.name,by decide,Tryz.func66.trans (congrArg some (by kernel_rfl))⟩
  f14:=⟨Tryz.f117.name,by decide,Tryz.func117.trans (congrArg some (by kernel_rfl))⟩
  f15:=Tryz.func116.trans (congrArg some (by kernel_rfl))
  f20:=⟨Tryz.f176.name,by decide,Tryz.func176.trans (congrArg some (by kernel_rfl))⟩
  f21:=⟨Tryz.f177.name,by decide,Tryz.func177.trans (congrArg some (by kernel_rfl))⟩
  f22:=⟨Tryz.f178.name,by decide,Tryz.func178.trans (congrArg some (by kernel_rfl))⟩
  f23:=⟨Tryz.f179.name,by decide,Tryz.func179.trans (congrArg some (by kernel_rfl))⟩
  f24:=⟨Tryz.f180.name,by decide,Tryz.func180.trans (congrArg some (by kernel_rfl))⟩
  f25:=⟨Tryz.f181.name,by decide,Tryz.func181.trans (congrArg some (by kernel_rfl))⟩
  f26:=⟨Tryz.f182.name,by decide,Tryz.func182.trans (congrArg some (by kernel_rfl))⟩
  f27:=⟨Tryz.f183.name,by decide,Tryz.func183.trans (congrArg some (by kernel_rfl))⟩
  f28:=Tryz.func174.trans (congrArg some (by kernel_rfl))
  f29:=Tryz.func175.trans (congrArg some (by kernel_rfl))
  f46:=⟨Tryz.f228.name,by decide,Tryz.func228.trans (congrArg some (by kernel_rfl))⟩
  f47:=Tryz.func224.trans (congrArg some (by kernel_rfl))
  f48:=Tryz.func225.trans (congrArg some (by kernel_rfl))
  f49:=⟨Tryz.f229.name,by decide,Tryz.func229.trans (congrArg some (by kernel_rfl))⟩
  f50:=⟨Tryz.f230.name,by decide,Tryz.func230.trans (congrArg some (by kernel_rfl))⟩
  f57:=⟨Tryz.f258.name,by decide,Tryz.func258.trans (congrArg some (by kernel_rfl))⟩
  t0:=Tryz.underlying0
  a0:=Tryz.isAgg0
  z0:=Tryz.sizeOf0
  v0:=Tryz.zeroValue0
  t3:=Tryz.underlying3
  a3:=Tryz.isAgg3
  z3:=Tryz.sizeOf3
  v3:=Tryz.zeroValue3
  t4:=Tryz.underlying4
  a4:=Tryz.isAgg4
  z4:=Tryz.sizeOf4
  v4:=Tryz.zeroValue4
  t5:=Tryz.underlying5
  a5:=Tryz.isAgg5
  z5:=Tryz.sizeOf5
  v5:=Tryz.zeroValue5
  t9:=Tryz.underlying9
  a9:=Tryz.isAgg9
  z9:=Tryz.sizeOf9
  v9:=Tryz.zeroValue9
  t22:=Tryz.underlying28
  a22:=Tryz.isAgg28
  z22:=Tryz.sizeOf28
  v22:=Tryz.zeroValue28
  t25:=Tryz.underlying105
  a25:=Tryz.isAgg105
  z25:=Tryz.sizeOf105
  v25:=Tryz.zeroValue105
  t39:=Tryz.underlying155
  a39:=Tryz.isAgg155
  z39:=Tryz.sizeOf155
  v39:=Tryz.zeroValue155
  t45:=Tryz.underlying200
  a45:=Tryz.isAgg200
  z45:=Tryz.sizeOf200
  v45:=Tryz.zeroValue200
  t46:=Tryz.underlying201
  a46:=Tryz.isAgg201
  z46:=Tryz.sizeOf201
  v46:=Tryz.zeroValue201
  t50:=Tryz.underlying187
  a50:=Tryz.isAgg187
  z50:=Tryz.sizeOf187
  v50:=Tryz.zeroValue187
  t53:=Tryz.underlying208
  a53:=Tryz.isAgg208
  z53:=Tryz.sizeOf208
  v53:=Tryz.zeroValue208
  t55:=Tryz.underlying47
  a55:=Tryz.isAgg47
  z55:=Tryz.sizeOf47
  v55:=Tryz.zeroValue47
  t66:=Tryz.underlying251
  a66:=Tryz.isAgg251
  z66:=Tryz.sizeOf251
  v66:=Tryz.zeroValue251
  t70:=Tryz.underlying255
  a70:=Tryz.isAgg255
  z70:=Tryz.sizeOf255
  v70:=Tryz.zeroValue255
  t76:=Tryz.underlying276
  a76:=Tryz.isAgg276
  z76:=Tryz.sizeOf276
  v76:=Tryz.zeroValue276
  t77:=Tryz.underlying277
  a77:=Tryz.isAgg277
  z77:=Tryz.sizeOf277
  v77:=Tryz.zeroValue277 }
def y94 (x:List UInt8 × Option Addr × Nat × Nat):List Value:=[.string ⟨x.1.toArray⟩,.slice x.2.1 x.2.2.1 x.2.2.2]
set_option maxHeartbeats 1000000 in
theorem Tryz.closureF (x y:List UInt8 × Option Addr × Nat × Nat) (W:World):Calls Tryz.prog 67 #[.agg (y94 x).toArray,.agg (y94 y).toArray] W fun e w'=>e=.returned (.int .i64 (Lib.compareBytes x.1 y.1))∧∃q os',w'=grow (W.drewN q) os':=by
  have hcon:=fun W'=>Tryz.strings_Compare ⟨x.1.toArray⟩ ⟨y.1.toArray⟩ W'
  simp only [] at hcon
  change Calls Tryz.prog 67 #[.agg #[.string ⟨x.1.toArray⟩,.slice x.2.1 x.2.2.1 x.2.2.2],.agg #[.string ⟨y.1.toArray⟩,.slice y.2.1 y.2.2.1 y.2.2.2]] W _
  generalize Lib.compareBytes x.1 y.1=r at hcon ⊢
  go_enter Tryz.func67,Tryz.ntmps67
  go_wp2_with (go_at_call 68;refine (hcon _).mono ?_;rintro e w' ⟨rfl,rfl⟩)
  go_ret
  exact ⟨rfl,0,_,by rw [alloc_eq_grow,alloc_eq_grow,grow_grow];rfl⟩
theorem Tryz.cmpLaysF (blk off size:Nat) (w:World):CmpLays Tryz.prog 67 #[] y94 2 (fun x y=>Lib.compareBytes x.1 y.1) blk off size w:=fun _ _ _ _ x y=>Tryz.closureF x y _
end Go.Proofs
