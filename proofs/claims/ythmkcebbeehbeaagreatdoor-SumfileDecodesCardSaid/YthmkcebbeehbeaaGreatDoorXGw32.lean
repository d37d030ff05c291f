/- Part 32. -/
import Derived.Test.YthmkcebbeehbeaaGreatDoorXGw28
import Derived.Test.YthmkcebbeehbeaaGreatDoorXGw29
import Derived.Test.YthmkcebbeehbeaaGreatDoorXGw31
set_option linter.unusedSimpArgs false
set_option linter.unusedVariables false
namespace Go.Proofs.YthmkcebbeehbeaaGreatDoor
open Am C
theorem yud {s:Str} (h:yh9 s=true):yay s=true:=by
 unfold yh9 at h
 unfold yay
 cases hr:ydw s with
 | none=>rw [hr] at h;cases h
 | some d=>
  rw [hr] at h
  have:d.kind=3:=by simpa using h
  simp [this]
def cnG (c:Cn):Bool:=if c.op=6 then yf0 c else if c.op=5 then decide (c.args=[])&&(decide (0≤c.k)&&(decide (c.k≤64)&&ynk c.tag)) else decide (c.args=[])&&(decide (c.k=0)&&decide (c.tag=[]))
theorem cnE_eq2 (c:Cn):cnE c=if c.op<1∨6<c.op then 5 else if cnB c=false then 11 else if cnG c then 0 else 3:=by
 rw [cnE_eq]
 unfold cnG ynk
 by_cases h6:c.op=6
 ·simp [h6]
 by_cases h5:c.op=5
 ·by_cases h0:c.args=[] <;> simp [h5,h0,and_assoc]
 ·by_cases h0:c.args=[] <;> simp [h6,h5,h0]
theorem con_ok (c:Cn) (h1:c.a.length≤9223372036854775806) (h2:c.b.length≤9223372036854775806) (ht:c.tag.length≤9223372036854775807) (ha:c.args.length≤9223372036854775807) (hx:∀a∈c.args,a.length≤9223372036854775806) (H:Hp):AC Tryz.prog ycz [.agg (y6i c)] H (fun v H'=>v=.i .i64 (cnE c)∧H'=H):=by
 refine AC.codeP yo.at yo.ok (by simp) fun hlt=>?_
 rw [cnE_eq2]
 simp only [yo]
 apply jA
 simp [yo.r0,y6i]
 apply jA
 simp [yo.r1]
 refine AX.cut (fun F X=>F=[(1,.fp (y6i c) 0),(3,.b (cnB c))]∧(1≤c.op∧c.op≤6)∧H.Ext X) ?_ ?_
 ·apply jA
  simp [yo.r2]
  refine AX.pblock (jA ?_)
  by_cases o1:c.op=1
  ·simp [yo.r3,o1]
   refine jG rfl (AX.reg ?_)
   simp [yo.r4]
   refine AC.fix (yb5 c.a h1 _) ?_
   cases hA:yay c.a
   ·simp
    exact ⟨_,_,.refl _ _,by simp [cnB,hA,y6i,o1],.refl _⟩
   ·simp
    refine AC.fix (ywt c.b h2 _) ?_
    simp
    exact ⟨_,_,.refl _ _,by simp [cnB,hA,y6i,o1],.refl _⟩
  simp [yo.r3,o1]
  refine jF rfl ?_
  by_cases o2:c.op=2
  ·refine AX.seq ?_
   apply jA
   simp [yo.r5,o2]
   refine jG rfl (AX.skip ?_)
   simp
   refine jG rfl (AX.reg ?_)
   simp [yo.r9]
   refine AC.fix (yb5 c.a h1 _) ?_
   cases hA:yay c.a
   ·simp
    exact ⟨_,_,.refl _ _,by simp [cnB,hA,y6i,o2],.refl _⟩
   ·simp
    refine AC.fix (yb5 c.b h2 _) ?_
    simp
    exact ⟨_,_,.refl _ _,by simp [cnB,hA,y6i,o2],.refl _⟩
  by_cases o3:c.op=3
  ·refine AX.seq ?_
   apply jA
   simp [yo.r5,o3]
   refine jF rfl ?_
   apply jA
   simp [yo.r6,o3]
   refine jG rfl (AX.skip ?_)
   simp
   refine jG rfl (AX.reg ?_)
   simp [yo.r9]
   refine AC.fix (yb5 c.a h1 _) ?_
   cases hA:yay c.a
   ·simp
    exact ⟨_,_,.refl _ _,by simp [cnB,hA,y6i,o3],.refl _⟩
   ·simp
    refine AC.fix (yb5 c.b h2 _) ?_
    simp
    exact ⟨_,_,.refl _ _,by simp [cnB,hA,y6i,o3],.refl _⟩
  by_cases o4:c.op=4
  ·refine AX.seq ?_
   apply jA
   simp [yo.r5,o4]
   refine jF rfl ?_
   apply jA
   simp [yo.r6,o4]
   refine jF rfl ?_
   apply jA
   simp [yo.r7,o4]
   refine jG rfl (AX.skip ?_)
   simp
   refine jG rfl (AX.reg ?_)
   simp [yo.r9]
   refine AC.fix (yb5 c.a h1 _) ?_
   cases hA:yay c.a
   ·simp
    exact ⟨_,_,.refl _ _,by simp [cnB,hA,y6i,o4],.refl _⟩
   ·simp
    refine AC.fix (yb5 c.b h2 _) ?_
    simp
    exact ⟨_,_,.refl _ _,by simp [cnB,hA,y6i,o4],.refl _⟩
  refine AX.seq ?_
  apply jA
  simp [yo.r5,o2]
  refine jF rfl ?_
  apply jA
  simp [yo.r6,o3]
  refine jF rfl ?_
  apply jA
  simp [yo.r7,o4]
  refine jF rfl ?_
  apply jE
  by_cases o5:c.op=5
  ·simp [yo.r8,o5]
   refine jG rfl (AX.reg ?_)
   simp [yo.r9]
   refine AC.fix (yb5 c.a h1 _) ?_
   cases hA:yay c.a
   ·simp
    exact ⟨_,_,.refl _ _,by simp [cnB,hA,y6i,o5],.refl _⟩
   ·simp
    refine AC.fix (yb5 c.b h2 _) ?_
    simp
    exact ⟨_,_,.refl _ _,by simp [cnB,hA,y6i,o5],.refl _⟩
  simp [yo.r8,o5]
  refine jF rfl ?_
  apply jA
  by_cases o6:c.op=6
  ·simp [yo.r10,o6]
   refine jG rfl ?_
   apply jA
   simp [yo.r11]
   refine AC.fix (yic c.a h1 _) ?_
   cases hr:ydw c.a with
   | none=>
    have hs:yh9 c.a=false:=by unfold yh9;rw [hr]
    simp [rdV,nv,Nd.cs,Nd.zero]
    apply jE
    simp [yo.r12]
    exact ⟨_,_,.refl _ _,by simp [cnB,o6,hs,y6i],yga hlt _ _⟩
   | some d=>
    simp [rdV,nv,Nd.cs]
    apply jE
    by_cases hk:d.kind=3
    ·have hs:yh9 c.a=true:=by unfold yh9;rw [hr];simp [hk]
     simp [yo.r12,hk]
     refine AC.fix (yb5 c.b h2 _) ?_
     simp
     exact ⟨_,_,.refl _ _,by simp [cnB,o6,hs,yud hs,y6i],yga hlt _ _⟩
    ·have hs:yh9 c.a=false:=by unfold yh9;rw [hr];simp [hk]
     simp [yo.r12,hk]
     exact ⟨_,_,.refl _ _,by simp [cnB,o6,hs,y6i],yga hlt _ _⟩
  simp [yo.r10,o6]
  refine jF rfl ?_
  apply jA
  simp [yo.r13]
  apply jD
  have:c.op<1∨6<c.op:=by omega
  simp [this]
  exact ⟨.refl _,.refl _⟩
 rintro F X ⟨rfl,hop,X1⟩
 have hop':¬(c.op<1∨6<c.op):=by omega
 rw [if_neg hop']
 apply jB
 simp [yo.r14]
 refine AX.pcond rfl (fun hb=>?_) (fun hb=>AX.skip ?_)
 ·simp at hb
  apply jA
  simp [yo.r15]
  apply jD
  simp [hb]
  exact ⟨X1,.refl _⟩
 simp at hb
 rw [if_neg (show ¬cnB c=false by simp [hb])]
 simp
 refine AX.seq (AX.join (F1:=[(3,.b (cnG c))]) (H1:=X) ?_ ?_)
 ·apply jA
  simp [yo.r16,y6i]
  refine AX.pblock (jA ?_)
  by_cases h6:c.op=6
  ·simp [yo.r17,h6]
   refine jG rfl (AX.reg ?_)
   simp [yo.r18,h6]
   refine AC.fix (show AC Tryz.prog ybp [.agg [.i .i64 6,.s c.a,.s c.b,.i .i64 c.k,.s c.tag,ss c.args]] X (fun v H'=>v=.b (yf0 c)∧H'=X) from by have:=ywb c ht ha hx X;unfold y6i at this;rwa [h6] at this) ?_
   simp [cnG,h6]
  simp [yo.r17,h6]
  refine jF rfl ?_
  apply jA
  by_cases h5:c.op=5
  ·simp [yo.r19,h5]
   refine jG rfl (AX.reg ?_)
   by_cases h0:c.args=[]
   ·by_cases k1:0≤c.k
    ·by_cases k2:c.k≤64
     ·simp [yo.r20,ss,h0,k1,k2]
      refine AC.fix (yjs c.tag ht _) ?_
      simp [cnG,h5,h0,k1,k2]
     ·simp [yo.r20,ss,h0,k1,k2,cnG,h5]
    ·simp [yo.r20,ss,h0,k1,cnG,h5]
   ·have:¬c.args.length=0:=by simpa using h0
    simp [yo.r20,ss,h0,this,cnG,h5]
  simp [yo.r19,h5]
  refine jF rfl (AX.reg ?_)
  by_cases h0:c.args=[]
  ·by_cases k1:c.k=0
   ·by_cases k2:c.tag=[]
    ·simp [yo.r21,ss,h0,k1,k2,cnG,h5,h6]
    ·simp [yo.r21,ss,h0,k1,k2,cnG,h5,h6,show (c.tag == [])=false by simpa using k2]
   ·simp [yo.r21,ss,h0,k1,cnG,h5,h6]
  ·have:¬c.args.length=0:=by simpa using h0
   simp [yo.r21,ss,h0,this,cnG,h5,h6]
 simp
 apply jB
 simp [yo.r22]
 refine AX.pcond rfl (fun hd=>?_) (fun hd=>AX.skip ?_)
 ·simp at hd
  apply jA
  simp [yo.r23]
  apply jD
  simp [hd]
  exact ⟨X1,.refl _⟩
 simp at hd
 simp
 apply jA
 simp [yo.r24]
 apply jD
 simp [hd]
 exact ⟨X1,.refl _⟩
def yl7 (l:List Mk):Int:=match l.getLast? with
 | some x=>x.pos
 | none=>0
theorem mk1_last {n:Nat} {l:List Mk} {m:Mk} (h:0≤yl7 l):ysg n l m=(decide (yl7 l≤m.pos)&&decide (m.pos<n)&&ynk m.tag):=by
 unfold ysg
 unfold yl7 at h ⊢
 cases hl:l.getLast? with
 | none=>
  cases ynk m.tag <;> simp
 | some x=>
  rw [hl] at h
  simp only at h
  have e:decide (∀y,some x=some y→y.pos≤m.pos)=decide (x.pos≤m.pos):=by
   congr 1
   apply propext
   exact ⟨fun hh=>hh x rfl,fun hh y hy=>by injection hy with hy;subst hy;exact hh⟩
  rw [e]
  by_cases h1:x.pos≤m.pos
  ·have:0≤m.pos:=by omega
   simp [h1,this]
  ·simp [h1]
theorem ysi {ms:List Mk} {i:Nat} (h:i<ms.length):yl7 (ms.take (i+1))=ms[i].pos:=by
 unfold yl7
 rw [List.getLast?_eq_getElem?,List.length_take,Nat.min_eq_left (by omega)]
 simp [km,h]
def SObInv (o:Ob) (H:Hp) (m:Nat) (F:Fr) (X:Hp):Prop:=
 ∃i,i≤o.marks.length∧m=o.marks.length-i∧ypu o.kinds.length [] o.marks=ypu o.kinds.length (o.marks.take i) (o.marks.drop i)∧0≤yl7 (o.marks.take i)∧H.Ext X∧(∀id blk,X.get id=some blk→id<X.next)∧
  F=[(1,.fp (y62 o) 0),(5,.i .i64 (yl7 (o.marks.take i))),(38,.fs (o.marks.map ycm)),(39,.i .i64 o.marks.length),(40,.i .i64 i)]
theorem yst (o:Ob) (h1:o.name.length≤9223372036854775806) (h2:o.kinds.length≤9223372036854775807) (h3:o.marks.length≤9223372036854775807) (h4:∀m∈o.marks,m.tag.length≤9223372036854775807) (H:Hp):
  AC Tryz.prog ya8 [.agg (y62 o)] H (fun v H'=>v=.i .i64 (obE o)∧H'=H):=by
 refine AC.codeP y1a.at y1a.ok (by simp) fun hlt=>?_
 simp only [y1a]
 apply jA
 simp [y1a.r0,y62]
 apply jA
 simp [y1a.r1]
 refine AC.fix (yic o.name h1 _) ?_
 obtain ⟨er,d,hrd,hbad⟩:∃(er:Int) (d:Nd),rdV (ydw o.name)=.tup [nv d,.i .i64 er]∧obE o=if (decide (er≠0)||(decide (d.kind<5)||decide (0≤d.cell)))=true then 11 else if ¬(kpB o.kinds=true∧1≤o.kinds.length∧o.kinds.length≤64) then 5 else if ypu o.kinds.length [] o.marks then 0 else 3:=by
  unfold obE
  cases hr:ydw o.name with
  | none=>exact ⟨11,Nd.zero,rfl,by simp⟩
  | some d=>exact ⟨0,d,rfl,by simp⟩
 rw [hrd]
 simp [nv,Nd.cs]
 have X2:=yga hlt (.cells [.i .i64 0,.s [],.i .i64 0,.s [],.i .i64 0,.i .i64 0] 6) (.cells [.i .i64 d.kind,.s d.fn,.i .i64 d.copy,.s d.name,.i .i64 d.n,.i .i64 d.cell] 6)
 have L2:=lt2 hlt (.cells [.i .i64 0,.s [],.i .i64 0,.s [],.i .i64 0,.i .i64 0] 6) (.cells [.i .i64 d.kind,.s d.fn,.i .i64 d.copy,.s d.name,.i .i64 d.n,.i .i64 d.cell] 6)
 have G2:((H.add (.cells [.i .i64 0,.s [],.i .i64 0,.s [],.i .i64 0,.i .i64 0] 6)).upd H.next (.cells [.i .i64 d.kind,.s d.fn,.i .i64 d.copy,.s d.name,.i .i64 d.n,.i .i64 d.cell] 6)).get H.next=some (.cells [.i .i64 d.kind,.s d.fn,.i .i64 d.copy,.s d.name,.i .i64 d.n,.i .i64 d.cell] 6):=by simp
 generalize (H.add (.cells [.i .i64 0,.s [],.i .i64 0,.s [],.i .i64 0,.i .i64 0] 6)).upd H.next (.cells [.i .i64 d.kind,.s d.fn,.i .i64 d.copy,.s d.name,.i .i64 d.n,.i .i64 d.cell] 6)=X at *
 refine AX.seq (AX.pblock ?_)
 obtain ⟨b,hb⟩:∃b,b=(decide (er≠0)||(decide (d.kind<5)||decide (0≤d.cell))):=⟨_,rfl⟩
 rw [←hb] at hbad
 refine AX.test b [(1,.fp (y62 o) 0),(14,.b b)] ?_ rfl (fun hc=>?_) (fun hc=>?_)
 ·by_cases e:er=0
  ·by_cases k:d.kind<5
   ·simp [y1a.r2,y62,e,k,hb,G2]
   ·simp [y1a.r2,y62,e,k,hb,G2]
  ·simp [y1a.r2,y62,e,hb]
 ·rw [if_pos hc] at hbad
  apply jA
  simp [y1a.r3]
  apply jD
  simp [hbad]
  exact ⟨X2,.refl _⟩
 rw [if_neg (by simp [hc])] at hbad
 clear hb hc
 obtain ⟨b2,hb2⟩:∃b2,b2=decide (¬(kpB o.kinds=true∧1≤o.kinds.length∧o.kinds.length≤64)):=⟨_,rfl⟩
 refine AX.test b2 [(1,.fp (y62 o) 0),(27,.b b2)] ?_ rfl (fun hc=>?_) (fun hc=>AX.skip ?_)
 ·by_cases e:o.kinds=[]
  ·simp [y1a.r4,y62,e,hb2]
  ·have e1:1≤o.kinds.length:=by cases h:o.kinds <;> simp_all
   have e2:(o.kinds == [])=false:=by simpa using e
   simp [y1a.r4,y62,e,e2]
   refine AC.fix (yfr o.kinds 64 h2 _) ?_
   have:(!(kpB o.kinds&&decide ((o.kinds.length:Int)≤64)))=b2:=by
    rw [hb2]
    by_cases h64:o.kinds.length≤64
    ·cases kpB o.kinds <;> simp [e1,h64,show ¬64<o.kinds.length by omega]
    ·cases kpB o.kinds <;> simp [e1,h64,show 64<o.kinds.length by omega]
   simp [this,y62]
   simp [←this]
 ·have hc':=of_decide_eq_true (hb2▸hc)
  rw [if_pos hc'] at hbad
  apply jA
  simp [y1a.r5]
  apply jD
  simp [hbad]
  exact ⟨X2,.refl _⟩
 have hc':=of_decide_eq_false (hb2▸hc)
 rw [if_neg hc'] at hbad
 simp
 apply jA
 simp [y1a.r6]
 apply jB
 simp [y1a.r7,y62]
 refine AX.pblock (AX.loop (SObInv o H) o.marks.length ⟨_,_,.refl _ _,0,by omega,by omega,rfl,by simp [yl7],X2,L2,by simp [y62,yl7]⟩ ?_)
 rintro m F Y ⟨i,hi,rfl,hm,hla,X3,L3,rfl⟩
 simp only [y1a.l0]
 apply jA
 simp [y1a.r8]
 refine AX.seq (AX.pcond rfl (fun hd=>AX.skip ?_) (fun hd=>AX.exit ?_))
 case refine_2=>
  simp at hd
  rw [List.drop_eq_nil_of_le hd] at hm
  simp only [ypu] at hm
  simp
  apply jA
  simp [y1a.r14]
  apply jD
  simp [hbad,hm]
  exact ⟨X3,.refl _⟩
 simp at hd
 rw [yo5 hd,mkB_eq,mk1_last hla] at hm
 have hlt1:=ysi hd
 have hmt:=h4 _ (kK hd)
 have hg:o.marks[i]?=some o.marks[i]:=kB hd
 simp
 generalize o.marks[i]=mk at *
 generalize hlp:yl7 (o.marks.take i)=lp at *
 apply jC
 simp [y1a.r9,hg,ycm]
 have X4:=X3.trans (yga L3 (.cells [.i .i64 0,.s []] 2) (.cells [.i .i64 mk.pos,.s mk.tag] 2))
 have L4:=lt2 L3 (.cells [.i .i64 0,.s []] 2) (.cells [.i .i64 mk.pos,.s mk.tag] 2)
 have G4:((Y.add (.cells [.i .i64 0,.s []] 2)).upd Y.next (.cells [.i .i64 mk.pos,.s mk.tag] 2)).get Y.next=some (.cells [.i .i64 mk.pos,.s mk.tag] 2):=by simp
 generalize (Y.add (.cells [.i .i64 0,.s []] 2)).upd Y.next (.cells [.i .i64 mk.pos,.s mk.tag] 2)=Z at *
 generalize Y.next=id at *
 obtain ⟨g,hgg⟩:∃g,g=(decide (lp≤mk.pos)&&decide (mk.pos<o.kinds.length)&&ynk mk.tag&&decide (mk∉o.marks.take i)):=⟨_,rfl⟩
 rw [←hgg] at hm
 refine AX.seq ?_
 refine AX.testD (!g) [(1,.fp (y62 o) 0),(7,.p (some (id,0,2))),(38,.fs (o.marks.map ycm)),(39,.i .i64 o.marks.length),(40,.i .i64 i),(70,.b (!g))] ?_ rfl (fun hb=>?_) (fun hb=>AX.skip ?_)
 ·by_cases c1:mk.pos<lp
  ·simp [y1a.r10,y62,G4,c1,hgg,show ¬lp≤mk.pos by omega]
  by_cases c2:(o.kinds.length:Int)≤mk.pos
  ·simp [y1a.r10,y62,G4,c1,c2,hgg,show ¬mk.pos<o.kinds.length by omega]
  have c1':lp≤mk.pos:=by omega
  have c2':mk.pos<o.kinds.length:=by omega
  simp [y1a.r10,y62,G4,c1,c2]
  refine y5c _ (fun H2=>yjs mk.tag hmt H2) ?_
  cases htg:ynk mk.tag
  ·simp [hgg,htg]
  have hm2:∀x:Mk,x∈o.marks→(ycm x).length=2:=fun x _=>rfl
  have hcon:∀H2,AC Tryz.prog y64 [.fs (List.take i (List.map ycm o.marks)),.agg [.i .i64 mk.pos,.s mk.tag]] H2 (fun v H'=>v=.b (decide (mk∈o.marks.take i))∧H'=H2):=fun H2=>by
   have:=yp5 (o.marks.take i) mk (by simp;omega) H2
   rw [List.map_take] at this
   exact this
  simp [hm2,show i≤o.marks.length by omega,G4]
  rw [if_pos hm2]
  simp [G4]
  refine y5c _ hcon ?_
  by_cases hin:mk∈o.marks.take i
  ·simp [hgg,c1',c2',htg,hin,y62,ycm]
  ·simp [hgg,c1',c2',htg,hin,y62,ycm]
 ·simp at hb
  apply jA
  simp [y1a.r11]
  apply jD
  simp [hbad,hm,hb]
  exact ⟨X4,.refl _⟩
 simp at hb
 rw [hb] at hgg
 have hpos:0≤mk.pos:=by
  have:lp≤mk.pos:=by
   have:=hgg.symm
   simp at this
   exact this.1.1.1
  omega
 simp
 apply jE
 simp [y1a.r12,G4]
 apply jE
 simp [y1a.r13,y4d hd h3]
 exact ⟨o.marks.length-(i+1),by omega,_,_,.refl _ _,i+1,by omega,rfl,by rw [hm,hb];simp,by rw [hlt1];exact hpos,X4,L4,by rw [hlt1];simp [y62,ycm]⟩
def EaInv {α:Type} (ask:α→Int) (cmp:α→α→Int) (enc:α→List V) (l:List α) (f g:Go.FuncId) (H:Hp) (m:Nat) (F:Fr) (X:Hp):Prop:=
 ∃i,i≤l.length∧m=l.length-i∧chk ask cmp none l=chk ask cmp (pv l i) (l.drop i)∧H.Ext X∧(∀id blk,X.get id=some blk→id<X.next)∧
  F=[(0,.fs (l.map enc)),(1,.fn f []),(2,.fn g []),(10,.fs (l.map enc)),(11,.i .i64 l.length),(12,.i .i64 i)]
theorem yt5 (l:List Ob) (hl:l.length≤9223372036854775807) (hs:∀x∈l,obS x) (H:Hp):AC Tryz.prog ya9 [.fs (l.map y62),.fn ya8 [],.fn yaz []] H (fun v H'=>v=.i .i64 (chk obE yne none l)∧H'=H):=by
 refine AC.codeP y11.at y11.ok (by simp) fun hlt=>?_
 simp only [y11]
 apply jA
 simp [y11.r0]
 apply jB
 simp [y11.r1]
 refine AX.pblock (AX.loop (EaInv obE yne y62 l ya8 yaz H) l.length ⟨_,_,.refl _ _,0,by omega,by omega,rfl,.refl _,hlt,by simp⟩ ?_)
 rintro m F X ⟨i,hi,rfl,hch,X1,L1,rfl⟩
 simp only [y11.l0]
 apply jA
 simp [y11.r2]
 refine AX.seq (AX.pcond rfl (fun hd=>AX.skip ?_) (fun hd=>AX.exit ?_))
 case refine_2=>
  simp at hd
  rw [yis hd] at hch
  simp
  apply jA
  simp [y11.r10]
  apply jD
  simp [hch]
  exact ⟨X1,.refl _⟩
 simp at hd
 have hx:=hs _ (kK hd)
 rw [ygs hd] at hch
 have hg:l[i]?=some l[i]:=kB hd
 simp
 generalize l[i]=x at *
 apply jC
 simp [y11.r3,hg,y62,ycm,ss]
 have X4:=X1.trans (yga L1 (.cells [.s [],.s [],.sl none 0 0] 3) (.cells [.s x.name,.s x.kinds,.fs (x.marks.map ycm)] 3))
 have L4:=lt2 L1 (.cells [.s [],.s [],.sl none 0 0] 3) (.cells [.s x.name,.s x.kinds,.fs (x.marks.map ycm)] 3)
 have G4:((X.add (.cells [.s [],.s [],.sl none 0 0] 3)).upd X.next (.cells [.s x.name,.s x.kinds,.fs (x.marks.map ycm)] 3)).get X.next=some (.cells [.s x.name,.s x.kinds,.fs (x.marks.map ycm)] 3):=by simp
 generalize (X.add (.cells [.s [],.s [],.sl none 0 0] 3)).upd X.next (.cells [.s x.name,.s x.kinds,.fs (x.marks.map ycm)] 3)=Z at *
 generalize X.next=id at *
 apply jB
 simp [y11.r4,G4]
 refine AC.fix (yst x (by have:=hx.1;omega) (by have:=hx.2.1;omega) (by have:=hx.2.2.1;omega) (fun m hm=>by have:=hx.2.2.2 m hm;omega) _) ?_
 simp
 apply jA
 simp [y11.r5]
 refine AX.pcond rfl (fun he=>?_) (fun he=>AX.skip ?_)
 ·simp at he
  rw [if_pos he] at hch
  apply jA
  simp [y11.r6]
  apply jD
  simp [hch]
  exact ⟨X4,.refl _⟩
 simp at he
 rw [if_neg (by simp [he])] at hch
 simp
 refine AX.testD (yh0 yne (pv l i) x) [(0,.fs (l.map y62)),(1,.fn ya8 []),(2,.fn yaz []),(10,.fs (l.map y62)),(11,.i .i64 l.length),(12,.i .i64 i),(35,.b (yh0 yne (pv l i) x))] ?_ rfl (fun hf=>?_) (fun hf=>AX.skip ?_)
 ·cases i with
  | zero=>simp [y11.r7,pv,yh0]
  | succ j=>
   have hj:l[j]?=some l[j]:=kB (by omega)
   have hwj:IntKind.i64.wrap (j:Int)=(j:Int):=y4e (by omega) (by omega)
   have e1:yh0 yne (pv l (j+1)) x=decide (0≤yne l[j] x):=by simp [pv,yh0,hj]
   have hy:=hs _ (kK (show j<l.length by omega))
   generalize l[j]=y at *
   rw [e1]
   simp [y11.r7,hwj,hj,hg,G4,y62,ycm,ss]
   refine y5c _ (fun H2=>byObj_ok y x H2) ?_
   simp [yne,y62]
   all_goals rfl
 ·apply jA
  simp [y11.r8]
  apply jD
  rw [if_pos hf] at hch
  simp [hch]
  exact ⟨X4,.refl _⟩
 rw [if_neg (by simp [hf])] at hch
 simp
 apply jE
 simp [y11.r9,y4d hd hl]
 exact ⟨l.length-(i+1),by omega,_,_,.refl _ _,i+1,by omega,rfl,hch,X4,L4,by simp⟩
theorem yxb (l:List Fu) (hl:l.length≤9223372036854775807) (hs:∀x∈l,fuS x) (H:Hp):AC Tryz.prog yat [.fs (l.map y9n),.fn y9e [],.fn ybq []] H (fun v H'=>v=.i .i64 (chk fuE yol none l)∧H'=H):=by
 refine AC.codeP y16.at y16.ok (by simp) fun hlt=>?_
 simp only [y16]
 apply jA
 simp [y16.r0]
 apply jB
 simp [y16.r1]
 refine AX.pblock (AX.loop (EaInv fuE yol y9n l y9e ybq H) l.length ⟨_,_,.refl _ _,0,by omega,by omega,rfl,.refl _,hlt,by simp⟩ ?_)
 rintro m F X ⟨i,hi,rfl,hch,X1,L1,rfl⟩
 simp only [y16.l0]
 apply jA
 simp [y16.r2]
 refine AX.seq (AX.pcond rfl (fun hd=>AX.skip ?_) (fun hd=>AX.exit ?_))
 case refine_2=>
  simp at hd
  rw [yis hd] at hch
  simp
  apply jA
  simp [y16.r10]
  apply jD
  simp [hch]
  exact ⟨X1,.refl _⟩
 simp at hd
 have hx:=hs _ (kK hd)
 rw [ygs hd] at hch
 have hg:l[i]?=some l[i]:=kB hd
 simp
 generalize l[i]=x at *
 apply jC
 simp [y16.r3,hg,y9n,ycm,ss]
 have X4:=X1.trans (yga L1 (.cells [.s [],.s [],.s []] 3) (.cells [.s x.name,.s x.kinds,.s x.ret] 3))
 have L4:=lt2 L1 (.cells [.s [],.s [],.s []] 3) (.cells [.s x.name,.s x.kinds,.s x.ret] 3)
 have G4:((X.add (.cells [.s [],.s [],.s []] 3)).upd X.next (.cells [.s x.name,.s x.kinds,.s x.ret] 3)).get X.next=some (.cells [.s x.name,.s x.kinds,.s x.ret] 3):=by simp
 generalize (X.add (.cells [.s [],.s [],.s []] 3)).upd X.next (.cells [.s x.name,.s x.kinds,.s x.ret] 3)=Z at *
 generalize X.next=id at *
 apply jB
 simp [y16.r4,G4]
 refine AC.fix (yow x (by have:=hx.1;omega) (by have:=hx.2;omega) _) ?_
 simp
 apply jA
 simp [y16.r5]
 refine AX.pcond rfl (fun he=>?_) (fun he=>AX.skip ?_)
 ·simp at he
  rw [if_pos he] at hch
  apply jA
  simp [y16.r6]
  apply jD
  simp [hch]
  exact ⟨X4,.refl _⟩
 simp at he
 rw [if_neg (by simp [he])] at hch
 simp
 refine AX.testD (yh0 yol (pv l i) x) [(0,.fs (l.map y9n)),(1,.fn y9e []),(2,.fn ybq []),(10,.fs (l.map y9n)),(11,.i .i64 l.length),(12,.i .i64 i),(35,.b (yh0 yol (pv l i) x))] ?_ rfl (fun hf=>?_) (fun hf=>AX.skip ?_)
 ·cases i with
  | zero=>simp [y16.r7,pv,yh0]
  | succ j=>
   have hj:l[j]?=some l[j]:=kB (by omega)
   have hwj:IntKind.i64.wrap (j:Int)=(j:Int):=y4e (by omega) (by omega)
   have e1:yh0 yol (pv l (j+1)) x=decide (0≤yol l[j] x):=by simp [pv,yh0,hj]
   have hy:=hs _ (kK (show j<l.length by omega))
   generalize l[j]=y at *
   rw [e1]
   simp [y16.r7,hwj,hj,hg,G4,y9n,ycm,ss]
   refine y5c _ (fun H2=>byFn_ok y x H2) ?_
   simp [yol,y9n]
   all_goals rfl
 ·apply jA
  simp [y16.r8]
  apply jD
  rw [if_pos hf] at hch
  simp [hch]
  exact ⟨X4,.refl _⟩
 rw [if_neg (by simp [hf])] at hch
 simp
 apply jE
 simp [y16.r9,y4d hd hl]
 exact ⟨l.length-(i+1),by omega,_,_,.refl _ _,i+1,by omega,rfl,hch,X4,L4,by simp⟩
theorem yt6 (l:List Cn) (hl:l.length≤9223372036854775807) (hs:∀x∈l,cnS x) (H:Hp):AC Tryz.prog yaa [.fs (l.map y6i),.fn ycz [],.fn y9u []] H (fun v H'=>v=.i .i64 (chk cnE yjh none l)∧H'=H):=by
 refine AC.codeP y12.at y12.ok (by simp) fun hlt=>?_
 simp only [y12]
 apply jA
 simp [y12.r0]
 apply jB
 simp [y12.r1]
 refine AX.pblock (AX.loop (EaInv cnE yjh y6i l ycz y9u H) l.length ⟨_,_,.refl _ _,0,by omega,by omega,rfl,.refl _,hlt,by simp⟩ ?_)
 rintro m F X ⟨i,hi,rfl,hch,X1,L1,rfl⟩
 simp only [y12.l0]
 apply jA
 simp [y12.r2]
 refine AX.seq (AX.pcond rfl (fun hd=>AX.skip ?_) (fun hd=>AX.exit ?_))
 case refine_2=>
  simp at hd
  rw [yis hd] at hch
  simp
  apply jA
  simp [y12.r10]
  apply jD
  simp [hch]
  exact ⟨X1,.refl _⟩
 simp at hd
 have hx:=hs _ (kK hd)
 rw [ygs hd] at hch
 have hg:l[i]?=some l[i]:=kB hd
 simp
 generalize l[i]=x at *
 apply jC
 simp [y12.r3,hg,y6i,ycm,ss]
 have X4:=X1.trans (yga L1 (.cells [.i .i64 0,.s [],.s [],.i .i64 0,.s [],.sl none 0 0] 6) (.cells [.i .i64 x.op,.s x.a,.s x.b,.i .i64 x.k,.s x.tag,.fs (x.args.map fun a=>[.s a])] 6))
 have L4:=lt2 L1 (.cells [.i .i64 0,.s [],.s [],.i .i64 0,.s [],.sl none 0 0] 6) (.cells [.i .i64 x.op,.s x.a,.s x.b,.i .i64 x.k,.s x.tag,.fs (x.args.map fun a=>[.s a])] 6)
 have G4:((X.add (.cells [.i .i64 0,.s [],.s [],.i .i64 0,.s [],.sl none 0 0] 6)).upd X.next (.cells [.i .i64 x.op,.s x.a,.s x.b,.i .i64 x.k,.s x.tag,.fs (x.args.map fun a=>[.s a])] 6)).get X.next=some (.cells [.i .i64 x.op,.s x.a,.s x.b,.i .i64 x.k,.s x.tag,.fs (x.args.map fun a=>[.s a])] 6):=by simp
 generalize (X.add (.cells [.i .i64 0,.s [],.s [],.i .i64 0,.s [],.sl none 0 0] 6)).upd X.next (.cells [.i .i64 x.op,.s x.a,.s x.b,.i .i64 x.k,.s x.tag,.fs (x.args.map fun a=>[.s a])] 6)=Z at *
 generalize X.next=id at *
 apply jB
 simp [y12.r4,G4]
 refine AC.fix (con_ok x (by have:=hx.1;omega) (by have:=hx.2.1;omega) (by have:=hx.2.2.1;omega) (by have:=hx.2.2.2.1;omega) (fun a ha=>by have:=hx.2.2.2.2 a ha;omega) _) ?_
 simp
 apply jA
 simp [y12.r5]
 refine AX.pcond rfl (fun he=>?_) (fun he=>AX.skip ?_)
 ·simp at he
  rw [if_pos he] at hch
  apply jA
  simp [y12.r6]
  apply jD
  simp [hch]
  exact ⟨X4,.refl _⟩
 simp at he
 rw [if_neg (by simp [he])] at hch
 simp
 refine AX.testD (yh0 yjh (pv l i) x) [(0,.fs (l.map y6i)),(1,.fn ycz []),(2,.fn y9u []),(10,.fs (l.map y6i)),(11,.i .i64 l.length),(12,.i .i64 i),(35,.b (yh0 yjh (pv l i) x))] ?_ rfl (fun hf=>?_) (fun hf=>AX.skip ?_)
 ·cases i with
  | zero=>simp [y12.r7,pv,yh0]
  | succ j=>
   have hj:l[j]?=some l[j]:=kB (by omega)
   have hwj:IntKind.i64.wrap (j:Int)=(j:Int):=y4e (by omega) (by omega)
   have e1:yh0 yjh (pv l (j+1)) x=decide (0≤yjh l[j] x):=by simp [pv,yh0,hj]
   have hy:=hs _ (kK (show j<l.length by omega))
   generalize l[j]=y at *
   rw [e1]
   simp [y12.r7,hwj,hj,hg,G4,y6i,ycm,ss]
   refine y5c _ (fun H2=>yqk y x (by have:=hy.2.2.2.1;omega) (by have:=hx.2.2.2.1;omega) H2) ?_
   simp [yjh,y6i]
   all_goals rfl
 ·apply jA
  simp [y12.r8]
  apply jD
  rw [if_pos hf] at hch
  simp [hch]
  exact ⟨X4,.refl _⟩
 rw [if_neg (by simp [hf])] at hch
 simp
 apply jE
 simp [y12.r9,y4d hd hl]
 exact ⟨l.length-(i+1),by omega,_,_,.refl _ _,i+1,by omega,rfl,hch,X4,L4,by simp⟩
theorem ywu (s:Sy) (hs:syS s) (H:Hp):AC Tryz.prog yes [.agg (yaf s)] H (fun v H'=>v=.i .i64 (yu8 s)∧H'=H):=by
 obtain ⟨lo,lf,lc,ho,hf,hcn⟩:=hs
 refine AC.code y2l.at y2l.ok ?_
 simp only [y2l]
 apply jA
 simp [y2l.r0,yaf]
 refine AX.seq ?_
 refine AX.test (decide (600<s.objs.length)||decide (600<s.fns.length)||decide (6000<s.cons.length)) [(1,.fp (yaf s) 0),(20,.b (decide (600<s.objs.length)||decide (600<s.fns.length)||decide (6000<s.cons.length)))] ?_ rfl (fun hb=>?_) (fun hb=>AX.skip ?_)
 ·by_cases h1:600<s.objs.length
  ·simp [y2l.r1,yaf,h1]
  by_cases h2:600<s.fns.length
  ·simp [y2l.r1,yaf,h1,h2]
  ·simp [y2l.r1,yaf,h1,h2]
 ·apply jA
  simp [y2l.r2]
  apply jD
  simp at hb
  have:600<s.objs.length∨600<s.fns.length∨6000<s.cons.length:=by omega
  simp [yu8,this]
 simp at hb
 have hn:¬(600<s.objs.length∨600<s.fns.length∨6000<s.cons.length):=by omega
 have eS:yu8 s=orI [chk obE yne none s.objs,chk fuE yol none s.fns,chk cnE yjh none s.cons]:=by unfold yu8;rw [if_neg hn]
 rw [eS]
 simp
 apply jB
 simp [y2l.r3,yaf]
 refine AC.fix (yt5 s.objs (by omega) ho _) ?_
 generalize chk obE yne none s.objs=a
 simp
 apply jA
 simp [y2l.r4]
 refine AX.pcond rfl (fun hd=>?_) (fun hd=>AX.skip ?_)
 ·simp at hd
  apply jA
  simp [y2l.r5]
  apply jD
  simp [or1 _ _ hd]
 simp at hd
 rw [or0 _ _ hd]
 simp
 apply jB
 simp [y2l.r6]
 refine AC.fix (yxb s.fns (by omega) hf _) ?_
 generalize chk fuE yol none s.fns=b
 simp
 apply jA
 simp [y2l.r7]
 refine AX.pcond rfl (fun he=>?_) (fun he=>AX.skip ?_)
 ·simp at he
  apply jA
  simp [y2l.r8]
  apply jD
  simp [or1 _ _ he]
 simp at he
 rw [or0 _ _ he]
 simp
 apply jA
 simp [y2l.r9]
 refine AC.fix (yt6 s.cons (by omega) hcn _) ?_
 generalize chk cnE yjh none s.cons=c
 simp
 apply jD
 by_cases h:c=0 <;> simp [orI,h]
end Go.Proofs.YthmkcebbeehbeaaGreatDoor
