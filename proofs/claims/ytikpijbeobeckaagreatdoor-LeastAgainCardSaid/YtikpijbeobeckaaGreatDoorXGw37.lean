/- Part 37. -/
import Derived.Test.YtikpijbeobeckaaGreatDoorXGw26
import Derived.Test.YtikpijbeobeckaaGreatDoorXGw36
set_option linter.unusedSimpArgs false
set_option linter.unusedVariables false
namespace Go.Proofs.YtikpijbeobeckaaGreatDoor
open Am C
theorem ymv {s:Str} (h:ydn s=true):y6t s=true:=by
 unfold ydn at h
 unfold y6t
 cases hr:y56 s with
 | none=>rw [hr] at h;cases h
 | some d=>
  rw [hr] at h
  have:d.kind=3:=by simpa using h
  simp [this]
def cnG (c:Cn):Bool:=if c.op=6 then yai c else if c.op=5 then decide (c.args=[])&&(decide (0≤c.k)&&(decide (c.k≤64)&&yko c.tag)) else decide (c.args=[])&&(decide (c.k=0)&&decide (c.tag=[]))
theorem cnE_eq2 (c:Cn):cnE c=if c.op<1∨6<c.op then 5 else if cnB c=false then 11 else if cnG c then 0 else 3:=by
 rw [yhf]
 unfold cnG yko
 by_cases h6:c.op=6
 ·simp [h6]
 by_cases h5:c.op=5
 ·by_cases h0:c.args=[] <;> simp [h5,h0,and_assoc]
 ·by_cases h0:c.args=[] <;> simp [h6,h5,h0]
theorem con_ok (c:Cn) (h1:c.a.length≤9223372036854775806) (h2:c.b.length≤9223372036854775806) (ht:c.tag.length≤9223372036854775807) (ha:c.args.length≤9223372036854775807) (hx:∀a∈c.args,a.length≤9223372036854775806) (H:Hp):AC Tryz.prog y7r [.agg (y3n c)] H (fun v H'=>v=.i .i64 (cnE c)∧H'=H):=by
 refine AC.codeP yk.at yk.ok (by simp) fun hlt=>?_
 rw [cnE_eq2]
 simp only [yk]
 apply jA
 simp [yk.r0,y3n]
 apply jA
 simp [yk.r1]
 refine AX.cut (fun F X=>F=[(1,.fp (y3n c) 0),(3,.b (cnB c))]∧(1≤c.op∧c.op≤6)∧H.Ext X) ?_ ?_
 ·apply jA
  simp [yk.r2]
  refine AX.pblock (jA ?_)
  by_cases o1:c.op=1
  ·simp [yk.r3,o1]
   refine jG rfl (AX.reg ?_)
   simp [yk.r4]
   refine AC.fix (y77 c.a h1 _) ?_
   cases hA:y6t c.a
   ·simp
    exact ⟨_,_,.refl _ _,by simp [cnB,hA,y3n,o1],.refl _⟩
   ·simp
    refine AC.fix (ypz c.b h2 _) ?_
    simp
    exact ⟨_,_,.refl _ _,by simp [cnB,hA,y3n,o1],.refl _⟩
  simp [yk.r3,o1]
  refine jF rfl ?_
  by_cases o2:c.op=2
  ·refine AX.seq ?_
   apply jA
   simp [yk.r5,o2]
   refine jG rfl (AX.skip ?_)
   simp
   refine jG rfl (AX.reg ?_)
   simp [yk.r9]
   refine AC.fix (y77 c.a h1 _) ?_
   cases hA:y6t c.a
   ·simp
    exact ⟨_,_,.refl _ _,by simp [cnB,hA,y3n,o2],.refl _⟩
   ·simp
    refine AC.fix (y77 c.b h2 _) ?_
    simp
    exact ⟨_,_,.refl _ _,by simp [cnB,hA,y3n,o2],.refl _⟩
  by_cases o3:c.op=3
  ·refine AX.seq ?_
   apply jA
   simp [yk.r5,o3]
   refine jF rfl ?_
   apply jA
   simp [yk.r6,o3]
   refine jG rfl (AX.skip ?_)
   simp
   refine jG rfl (AX.reg ?_)
   simp [yk.r9]
   refine AC.fix (y77 c.a h1 _) ?_
   cases hA:y6t c.a
   ·simp
    exact ⟨_,_,.refl _ _,by simp [cnB,hA,y3n,o3],.refl _⟩
   ·simp
    refine AC.fix (y77 c.b h2 _) ?_
    simp
    exact ⟨_,_,.refl _ _,by simp [cnB,hA,y3n,o3],.refl _⟩
  by_cases o4:c.op=4
  ·refine AX.seq ?_
   apply jA
   simp [yk.r5,o4]
   refine jF rfl ?_
   apply jA
   simp [yk.r6,o4]
   refine jF rfl ?_
   apply jA
   simp [yk.r7,o4]
   refine jG rfl (AX.skip ?_)
   simp
   refine jG rfl (AX.reg ?_)
   simp [yk.r9]
   refine AC.fix (y77 c.a h1 _) ?_
   cases hA:y6t c.a
   ·simp
    exact ⟨_,_,.refl _ _,by simp [cnB,hA,y3n,o4],.refl _⟩
   ·simp
    refine AC.fix (y77 c.b h2 _) ?_
    simp
    exact ⟨_,_,.refl _ _,by simp [cnB,hA,y3n,o4],.refl _⟩
  refine AX.seq ?_
  apply jA
  simp [yk.r5,o2]
  refine jF rfl ?_
  apply jA
  simp [yk.r6,o3]
  refine jF rfl ?_
  apply jA
  simp [yk.r7,o4]
  refine jF rfl ?_
  apply jE
  by_cases o5:c.op=5
  ·simp [yk.r8,o5]
   refine jG rfl (AX.reg ?_)
   simp [yk.r9]
   refine AC.fix (y77 c.a h1 _) ?_
   cases hA:y6t c.a
   ·simp
    exact ⟨_,_,.refl _ _,by simp [cnB,hA,y3n,o5],.refl _⟩
   ·simp
    refine AC.fix (y77 c.b h2 _) ?_
    simp
    exact ⟨_,_,.refl _ _,by simp [cnB,hA,y3n,o5],.refl _⟩
  simp [yk.r8,o5]
  refine jF rfl ?_
  apply jA
  by_cases o6:c.op=6
  ·simp [yk.r10,o6]
   refine jG rfl ?_
   apply jA
   simp [yk.r11]
   refine AC.fix (y8q c.a h1 _) ?_
   cases hr:y56 c.a with
   | none=>
    have hs:ydn c.a=false:=by unfold ydn;rw [hr]
    simp [rdV,nv,Nd.cs,Nd.zero]
    apply jE
    simp [yk.r12]
    exact ⟨_,_,.refl _ _,by simp [cnB,o6,hs,y3n],yfy hlt _ _⟩
   | some d=>
    simp [rdV,nv,Nd.cs]
    apply jE
    by_cases hk:d.kind=3
    ·have hs:ydn c.a=true:=by unfold ydn;rw [hr];simp [hk]
     simp [yk.r12,hk]
     refine AC.fix (y77 c.b h2 _) ?_
     simp
     exact ⟨_,_,.refl _ _,by simp [cnB,o6,hs,ymv hs,y3n],yfy hlt _ _⟩
    ·have hs:ydn c.a=false:=by unfold ydn;rw [hr];simp [hk]
     simp [yk.r12,hk]
     exact ⟨_,_,.refl _ _,by simp [cnB,o6,hs,y3n],yfy hlt _ _⟩
  simp [yk.r10,o6]
  refine jF rfl ?_
  apply jA
  simp [yk.r13]
  apply jD
  have:c.op<1∨6<c.op:=by omega
  simp [this]
  exact ⟨.refl _,.refl _⟩
 rintro F X ⟨rfl,hop,X1⟩
 have hop':¬(c.op<1∨6<c.op):=by omega
 rw [if_neg hop']
 apply jB
 simp [yk.r14]
 refine AX.pcond rfl (fun hb=>?_) (fun hb=>AX.skip ?_)
 ·simp at hb
  apply jA
  simp [yk.r15]
  apply jD
  simp [hb]
  exact ⟨X1,.refl _⟩
 simp at hb
 rw [if_neg (show ¬cnB c=false by simp [hb])]
 simp
 refine AX.seq (AX.join (F1:=[(3,.b (cnG c))]) (H1:=X) ?_ ?_)
 ·apply jA
  simp [yk.r16,y3n]
  refine AX.pblock (jA ?_)
  by_cases h6:c.op=6
  ·simp [yk.r17,h6]
   refine jG rfl (AX.reg ?_)
   simp [yk.r18,h6]
   refine AC.fix (show AC Tryz.prog y6v [.agg [.i .i64 6,.s c.a,.s c.b,.i .i64 c.k,.s c.tag,ss c.args]] X (fun v H'=>v=.b (yai c)∧H'=X) from by have:=ypa c ht ha hx X;unfold y3n at this;rwa [h6] at this) ?_
   simp [cnG,h6]
  simp [yk.r17,h6]
  refine jF rfl ?_
  apply jA
  by_cases h5:c.op=5
  ·simp [yk.r19,h5]
   refine jG rfl (AX.reg ?_)
   by_cases h0:c.args=[]
   ·by_cases k1:0≤c.k
    ·by_cases k2:c.k≤64
     ·simp [yk.r20,ss,h0,k1,k2]
      refine AC.fix (ydm c.tag ht _) ?_
      simp [cnG,h5,h0,k1,k2]
     ·simp [yk.r20,ss,h0,k1,k2,cnG,h5]
    ·simp [yk.r20,ss,h0,k1,cnG,h5]
   ·have:¬c.args.length=0:=by simpa using h0
    simp [yk.r20,ss,h0,this,cnG,h5]
  simp [yk.r19,h5]
  refine jF rfl (AX.reg ?_)
  by_cases h0:c.args=[]
  ·by_cases k1:c.k=0
   ·by_cases k2:c.tag=[]
    ·simp [yk.r21,ss,h0,k1,k2,cnG,h5,h6]
    ·simp [yk.r21,ss,h0,k1,k2,cnG,h5,h6,show (c.tag == [])=false by simpa using k2]
   ·simp [yk.r21,ss,h0,k1,cnG,h5,h6]
  ·have:¬c.args.length=0:=by simpa using h0
   simp [yk.r21,ss,h0,this,cnG,h5,h6]
 simp
 apply jB
 simp [yk.r22]
 refine AX.pcond rfl (fun hd=>?_) (fun hd=>AX.skip ?_)
 ·simp at hd
  apply jA
  simp [yk.r23]
  apply jD
  simp [hd]
  exact ⟨X1,.refl _⟩
 simp at hd
 simp
 apply jA
 simp [yk.r24]
 apply jD
 simp [hd]
 exact ⟨X1,.refl _⟩
def yel (l:List Mk):Int:=match l.getLast? with
 | some x=>x.pos
 | none=>0
theorem mk1_last {n:Nat} {l:List Mk} {m:Mk} (h:0≤yel l):mk1B n l m=(decide (yel l≤m.pos)&&decide (m.pos<n)&&yko m.tag):=by
 unfold mk1B
 unfold yel at h ⊢
 cases hl:l.getLast? with
 | none=>
  cases yko m.tag <;> simp
 | some x=>
  rw [hl] at h
  simp only at h
  have e:decide (∀y,some x=some y→y.pos≤m.pos)=decide (x.pos≤m.pos):=by
   congr 1
   apply propext
   exact ⟨fun hh=>hh x rfl,fun hh y hy=>by injection hy with hy;subst hy;exact hh⟩
  rw [e]
  by_cases h1:x.pos≤m.pos
  ·have:0≤m.pos:=by omega
   simp [h1,this]
  ·simp [h1]
theorem yl1 {ms:List Mk} {i:Nat} (h:i<ms.length):yel (ms.take (i+1))=ms[i].pos:=by
 unfold yel
 rw [List.getLast?_eq_getElem?,List.length_take,Nat.min_eq_left (by omega)]
 simp [kj,h]
def SObInv (o:Ob) (H:Hp) (m:Nat) (F:Fr) (X:Hp):Prop:=
 ∃i,i≤o.marks.length∧m=o.marks.length-i∧mksB o.kinds.length [] o.marks=mksB o.kinds.length (o.marks.take i) (o.marks.drop i)∧0≤yel (o.marks.take i)∧H.Ext X∧(∀id blk,X.get id=some blk→id<X.next)∧
  F=[(1,.fp (y4l o) 0),(5,.i .i64 (yel (o.marks.take i))),(38,.fs (o.marks.map y8a)),(39,.i .i64 o.marks.length),(40,.i .i64 i)]
theorem ylk (o:Ob) (h1:o.name.length≤9223372036854775806) (h2:o.kinds.length≤9223372036854775807) (h3:o.marks.length≤9223372036854775807) (h4:∀m∈o.marks,m.tag.length≤9223372036854775807) (H:Hp):
  AC Tryz.prog y5y [.agg (y4l o)] H (fun v H'=>v=.i .i64 (obE o)∧H'=H):=by
 refine AC.codeP y11.at y11.ok (by simp) fun hlt=>?_
 simp only [y11]
 apply jA
 simp [y11.r0,y4l]
 apply jA
 simp [y11.r1]
 refine AC.fix (y8q o.name h1 _) ?_
 obtain ⟨er,d,hrd,hbad⟩:∃(er:Int) (d:Nd),rdV (y56 o.name)=.tup [nv d,.i .i64 er]∧obE o=if (decide (er≠0)||(decide (d.kind<5)||decide (0≤d.cell)))=true then 11 else if ¬(kpB o.kinds=true∧1≤o.kinds.length∧o.kinds.length≤64) then 5 else if mksB o.kinds.length [] o.marks then 0 else 3:=by
  unfold obE
  cases hr:y56 o.name with
  | none=>exact ⟨11,Nd.zero,rfl,by simp⟩
  | some d=>exact ⟨0,d,rfl,by simp⟩
 rw [hrd]
 simp [nv,Nd.cs]
 have X2:=yfy hlt (.cells [.i .i64 0,.s [],.i .i64 0,.s [],.i .i64 0,.i .i64 0] 6) (.cells [.i .i64 d.kind,.s d.fn,.i .i64 d.copy,.s d.name,.i .i64 d.n,.i .i64 d.cell] 6)
 have L2:=lt2 hlt (.cells [.i .i64 0,.s [],.i .i64 0,.s [],.i .i64 0,.i .i64 0] 6) (.cells [.i .i64 d.kind,.s d.fn,.i .i64 d.copy,.s d.name,.i .i64 d.n,.i .i64 d.cell] 6)
 have G2:((H.add (.cells [.i .i64 0,.s [],.i .i64 0,.s [],.i .i64 0,.i .i64 0] 6)).upd H.next (.cells [.i .i64 d.kind,.s d.fn,.i .i64 d.copy,.s d.name,.i .i64 d.n,.i .i64 d.cell] 6)).get H.next=some (.cells [.i .i64 d.kind,.s d.fn,.i .i64 d.copy,.s d.name,.i .i64 d.n,.i .i64 d.cell] 6):=by simp
 generalize (H.add (.cells [.i .i64 0,.s [],.i .i64 0,.s [],.i .i64 0,.i .i64 0] 6)).upd H.next (.cells [.i .i64 d.kind,.s d.fn,.i .i64 d.copy,.s d.name,.i .i64 d.n,.i .i64 d.cell] 6)=X at *
 refine AX.seq (AX.pblock ?_)
 obtain ⟨b,hb⟩:∃b,b=(decide (er≠0)||(decide (d.kind<5)||decide (0≤d.cell))):=⟨_,rfl⟩
 rw [←hb] at hbad
 refine AX.test b [(1,.fp (y4l o) 0),(14,.b b)] ?_ rfl (fun hc=>?_) (fun hc=>?_)
 ·by_cases e:er=0
  ·by_cases k:d.kind<5
   ·simp [y11.r2,y4l,e,k,hb,G2]
   ·simp [y11.r2,y4l,e,k,hb,G2]
  ·simp [y11.r2,y4l,e,hb]
 ·rw [if_pos hc] at hbad
  apply jA
  simp [y11.r3]
  apply jD
  simp [hbad]
  exact ⟨X2,.refl _⟩
 rw [if_neg (by simp [hc])] at hbad
 clear hb hc
 obtain ⟨b2,hb2⟩:∃b2,b2=decide (¬(kpB o.kinds=true∧1≤o.kinds.length∧o.kinds.length≤64)):=⟨_,rfl⟩
 refine AX.test b2 [(1,.fp (y4l o) 0),(27,.b b2)] ?_ rfl (fun hc=>?_) (fun hc=>AX.skip ?_)
 ·by_cases e:o.kinds=[]
  ·simp [y11.r4,y4l,e,hb2]
  ·have e1:1≤o.kinds.length:=by cases h:o.kinds <;> simp_all
   have e2:(o.kinds == [])=false:=by simpa using e
   simp [y11.r4,y4l,e,e2]
   refine AC.fix (y9i o.kinds 64 h2 _) ?_
   have:(!(kpB o.kinds&&decide ((o.kinds.length:Int)≤64)))=b2:=by
    rw [hb2]
    by_cases h64:o.kinds.length≤64
    ·cases kpB o.kinds <;> simp [e1,h64,show ¬64<o.kinds.length by omega]
    ·cases kpB o.kinds <;> simp [e1,h64,show 64<o.kinds.length by omega]
   simp [this,y4l]
   simp [←this]
 ·have hc':=of_decide_eq_true (hb2▸hc)
  rw [if_pos hc'] at hbad
  apply jA
  simp [y11.r5]
  apply jD
  simp [hbad]
  exact ⟨X2,.refl _⟩
 have hc':=of_decide_eq_false (hb2▸hc)
 rw [if_neg hc'] at hbad
 simp
 apply jA
 simp [y11.r6]
 apply jB
 simp [y11.r7,y4l]
 refine AX.pblock (AX.loop (SObInv o H) o.marks.length ⟨_,_,.refl _ _,0,by omega,by omega,rfl,by simp [yel],X2,L2,by simp [y4l,yel]⟩ ?_)
 rintro m F Y ⟨i,hi,rfl,hm,hla,X3,L3,rfl⟩
 simp only [y11.l0]
 apply jA
 simp [y11.r8]
 refine AX.seq (AX.pcond rfl (fun hd=>AX.skip ?_) (fun hd=>AX.exit ?_))
 case refine_2=>
  simp at hd
  rw [List.drop_eq_nil_of_le hd] at hm
  simp only [mksB] at hm
  simp
  apply jA
  simp [y11.r14]
  apply jD
  simp [hbad,hm]
  exact ⟨X3,.refl _⟩
 simp at hd
 rw [ynr hd,mkB_eq,mk1_last hla] at hm
 have hlt1:=yl1 hd
 have hmt:=h4 _ (kL hd)
 have hg:o.marks[i]?=some o.marks[i]:=kC hd
 simp
 generalize o.marks[i]=mk at *
 generalize hlp:yel (o.marks.take i)=lp at *
 apply jC
 simp [y11.r9,hg,y8a]
 have X4:=X3.trans (yfy L3 (.cells [.i .i64 0,.s []] 2) (.cells [.i .i64 mk.pos,.s mk.tag] 2))
 have L4:=lt2 L3 (.cells [.i .i64 0,.s []] 2) (.cells [.i .i64 mk.pos,.s mk.tag] 2)
 have G4:((Y.add (.cells [.i .i64 0,.s []] 2)).upd Y.next (.cells [.i .i64 mk.pos,.s mk.tag] 2)).get Y.next=some (.cells [.i .i64 mk.pos,.s mk.tag] 2):=by simp
 generalize (Y.add (.cells [.i .i64 0,.s []] 2)).upd Y.next (.cells [.i .i64 mk.pos,.s mk.tag] 2)=Z at *
 generalize Y.next=id at *
 obtain ⟨g,hgg⟩:∃g,g=(decide (lp≤mk.pos)&&decide (mk.pos<o.kinds.length)&&yko mk.tag&&decide (mk∉o.marks.take i)):=⟨_,rfl⟩
 rw [←hgg] at hm
 refine AX.seq ?_
 refine AX.testD (!g) [(1,.fp (y4l o) 0),(7,.p (some (id,0,2))),(38,.fs (o.marks.map y8a)),(39,.i .i64 o.marks.length),(40,.i .i64 i),(70,.b (!g))] ?_ rfl (fun hb=>?_) (fun hb=>AX.skip ?_)
 ·by_cases c1:mk.pos<lp
  ·simp [y11.r10,y4l,G4,c1,hgg,show ¬lp≤mk.pos by omega]
  by_cases c2:(o.kinds.length:Int)≤mk.pos
  ·simp [y11.r10,y4l,G4,c1,c2,hgg,show ¬mk.pos<o.kinds.length by omega]
  have c1':lp≤mk.pos:=by omega
  have c2':mk.pos<o.kinds.length:=by omega
  simp [y11.r10,y4l,G4,c1,c2]
  refine y32 _ (fun H2=>ydm mk.tag hmt H2) ?_
  cases htg:yko mk.tag
  ·simp [hgg,htg]
  have hm2:∀x:Mk,x∈o.marks→(y8a x).length=2:=fun x _=>rfl
  have hcon:∀H2,AC Tryz.prog y2y [.fs (List.take i (List.map y8a o.marks)),.agg [.i .i64 mk.pos,.s mk.tag]] H2 (fun v H'=>v=.b (decide (mk∈o.marks.take i))∧H'=H2):=fun H2=>by
   have:=yd1 (o.marks.take i) mk (by simp;omega) H2
   rw [List.map_take] at this
   exact this
  simp [hm2,show i≤o.marks.length by omega,G4]
  rw [if_pos hm2]
  simp [G4]
  refine y32 _ hcon ?_
  by_cases hin:mk∈o.marks.take i
  ·simp [hgg,c1',c2',htg,hin,y4l,y8a]
  ·simp [hgg,c1',c2',htg,hin,y4l,y8a]
 ·simp at hb
  apply jA
  simp [y11.r11]
  apply jD
  simp [hbad,hm,hb]
  exact ⟨X4,.refl _⟩
 simp at hb
 rw [hb] at hgg
 have hpos:0≤mk.pos:=by
  have:lp≤mk.pos:=by
   have:=hgg.symm
   simp at this
   exact this.1.1.1
  omega
 simp
 apply jE
 simp [y11.r12,G4]
 apply jE
 simp [y11.r13,y2g hd h3]
 exact ⟨o.marks.length-(i+1),by omega,_,_,.refl _ _,i+1,by omega,rfl,by rw [hm,hb];simp,by rw [hlt1];exact hpos,X4,L4,by rw [hlt1];simp [y4l,y8a]⟩
def EaInv {α:Type} (ask:α→Int) (cmp:α→α→Int) (enc:α→List V) (l:List α) (f g:Go.FuncId) (H:Hp) (m:Nat) (F:Fr) (X:Hp):Prop:=
 ∃i,i≤l.length∧m=l.length-i∧chk ask cmp none l=chk ask cmp (pv l i) (l.drop i)∧H.Ext X∧(∀id blk,X.get id=some blk→id<X.next)∧
  F=[(0,.fs (l.map enc)),(1,.fn f []),(2,.fn g []),(10,.fs (l.map enc)),(11,.i .i64 l.length),(12,.i .i64 i)]
theorem ylq (l:List Ob) (hl:l.length≤9223372036854775807) (hs:∀x∈l,obS x) (H:Hp):AC Tryz.prog y5z [.fs (l.map y4l),.fn y5y [],.fn y6c []] H (fun v H'=>v=.i .i64 (chk obE ylv none l)∧H'=H):=by
 refine AC.codeP yt.at yt.ok (by simp) fun hlt=>?_
 simp only [yt]
 apply jA
 simp [yt.r0]
 apply jB
 simp [yt.r1]
 refine AX.pblock (AX.loop (EaInv obE ylv y4l l y5y y6c H) l.length ⟨_,_,.refl _ _,0,by omega,by omega,rfl,.refl _,hlt,by simp⟩ ?_)
 rintro m F X ⟨i,hi,rfl,hch,X1,L1,rfl⟩
 simp only [yt.l0]
 apply jA
 simp [yt.r2]
 refine AX.seq (AX.pcond rfl (fun hd=>AX.skip ?_) (fun hd=>AX.exit ?_))
 case refine_2=>
  simp at hd
  rw [yiq hd] at hch
  simp
  apply jA
  simp [yt.r10]
  apply jD
  simp [hch]
  exact ⟨X1,.refl _⟩
 simp at hd
 have hx:=hs _ (kL hd)
 rw [yg1 hd] at hch
 have hg:l[i]?=some l[i]:=kC hd
 simp
 generalize l[i]=x at *
 apply jC
 simp [yt.r3,hg,y4l,y8a,ss]
 have X4:=X1.trans (yfy L1 (.cells [.s [],.s [],.sl none 0 0] 3) (.cells [.s x.name,.s x.kinds,.fs (x.marks.map y8a)] 3))
 have L4:=lt2 L1 (.cells [.s [],.s [],.sl none 0 0] 3) (.cells [.s x.name,.s x.kinds,.fs (x.marks.map y8a)] 3)
 have G4:((X.add (.cells [.s [],.s [],.sl none 0 0] 3)).upd X.next (.cells [.s x.name,.s x.kinds,.fs (x.marks.map y8a)] 3)).get X.next=some (.cells [.s x.name,.s x.kinds,.fs (x.marks.map y8a)] 3):=by simp
 generalize (X.add (.cells [.s [],.s [],.sl none 0 0] 3)).upd X.next (.cells [.s x.name,.s x.kinds,.fs (x.marks.map y8a)] 3)=Z at *
 generalize X.next=id at *
 apply jB
 simp [yt.r4,G4]
 refine AC.fix (ylk x (by have:=hx.1;omega) (by have:=hx.2.1;omega) (by have:=hx.2.2.1;omega) (fun m hm=>by have:=hx.2.2.2 m hm;omega) _) ?_
 simp
 apply jA
 simp [yt.r5]
 refine AX.pcond rfl (fun he=>?_) (fun he=>AX.skip ?_)
 ·simp at he
  rw [if_pos he] at hch
  apply jA
  simp [yt.r6]
  apply jD
  simp [hch]
  exact ⟨X4,.refl _⟩
 simp at he
 rw [if_neg (by simp [he])] at hch
 simp
 refine AX.testD (ygu ylv (pv l i) x) [(0,.fs (l.map y4l)),(1,.fn y5y []),(2,.fn y6c []),(10,.fs (l.map y4l)),(11,.i .i64 l.length),(12,.i .i64 i),(35,.b (ygu ylv (pv l i) x))] ?_ rfl (fun hf=>?_) (fun hf=>AX.skip ?_)
 ·cases i with
  | zero=>simp [yt.r7,pv,ygu]
  | succ j=>
   have hj:l[j]?=some l[j]:=kC (by omega)
   have hwj:IntKind.i64.wrap (j:Int)=(j:Int):=wrap_i64 (by omega) (by omega)
   have e1:ygu ylv (pv l (j+1)) x=decide (0≤ylv l[j] x):=by simp [pv,ygu,hj]
   have hy:=hs _ (kL (show j<l.length by omega))
   generalize l[j]=y at *
   rw [e1]
   simp [yt.r7,hwj,hj,hg,G4,y4l,y8a,ss]
   refine y32 _ (fun H2=>byObj_ok y x H2) ?_
   simp [ylv,y4l]
   all_goals rfl
 ·apply jA
  simp [yt.r8]
  apply jD
  rw [if_pos hf] at hch
  simp [hch]
  exact ⟨X4,.refl _⟩
 rw [if_neg (by simp [hf])] at hch
 simp
 apply jE
 simp [yt.r9,y2g hd hl]
 exact ⟨l.length-(i+1),by omega,_,_,.refl _ _,i+1,by omega,rfl,hch,X4,L4,by simp⟩
theorem yqa (l:List Fu) (hl:l.length≤9223372036854775807) (hs:∀x∈l,fuS x) (H:Hp):AC Tryz.prog y69 [.fs (l.map y75),.fn y57 [],.fn y6w []] H (fun v H'=>v=.i .i64 (chk fuE ylw none l)∧H'=H):=by
 refine AC.codeP y10.at y10.ok (by simp) fun hlt=>?_
 simp only [y10]
 apply jA
 simp [y10.r0]
 apply jB
 simp [y10.r1]
 refine AX.pblock (AX.loop (EaInv fuE ylw y75 l y57 y6w H) l.length ⟨_,_,.refl _ _,0,by omega,by omega,rfl,.refl _,hlt,by simp⟩ ?_)
 rintro m F X ⟨i,hi,rfl,hch,X1,L1,rfl⟩
 simp only [y10.l0]
 apply jA
 simp [y10.r2]
 refine AX.seq (AX.pcond rfl (fun hd=>AX.skip ?_) (fun hd=>AX.exit ?_))
 case refine_2=>
  simp at hd
  rw [yiq hd] at hch
  simp
  apply jA
  simp [y10.r10]
  apply jD
  simp [hch]
  exact ⟨X1,.refl _⟩
 simp at hd
 have hx:=hs _ (kL hd)
 rw [yg1 hd] at hch
 have hg:l[i]?=some l[i]:=kC hd
 simp
 generalize l[i]=x at *
 apply jC
 simp [y10.r3,hg,y75,y8a,ss]
 have X4:=X1.trans (yfy L1 (.cells [.s [],.s [],.s []] 3) (.cells [.s x.name,.s x.kinds,.s x.ret] 3))
 have L4:=lt2 L1 (.cells [.s [],.s [],.s []] 3) (.cells [.s x.name,.s x.kinds,.s x.ret] 3)
 have G4:((X.add (.cells [.s [],.s [],.s []] 3)).upd X.next (.cells [.s x.name,.s x.kinds,.s x.ret] 3)).get X.next=some (.cells [.s x.name,.s x.kinds,.s x.ret] 3):=by simp
 generalize (X.add (.cells [.s [],.s [],.s []] 3)).upd X.next (.cells [.s x.name,.s x.kinds,.s x.ret] 3)=Z at *
 generalize X.next=id at *
 apply jB
 simp [y10.r4,G4]
 refine AC.fix (yhr x (by have:=hx.1;omega) (by have:=hx.2;omega) _) ?_
 simp
 apply jA
 simp [y10.r5]
 refine AX.pcond rfl (fun he=>?_) (fun he=>AX.skip ?_)
 ·simp at he
  rw [if_pos he] at hch
  apply jA
  simp [y10.r6]
  apply jD
  simp [hch]
  exact ⟨X4,.refl _⟩
 simp at he
 rw [if_neg (by simp [he])] at hch
 simp
 refine AX.testD (ygu ylw (pv l i) x) [(0,.fs (l.map y75)),(1,.fn y57 []),(2,.fn y6w []),(10,.fs (l.map y75)),(11,.i .i64 l.length),(12,.i .i64 i),(35,.b (ygu ylw (pv l i) x))] ?_ rfl (fun hf=>?_) (fun hf=>AX.skip ?_)
 ·cases i with
  | zero=>simp [y10.r7,pv,ygu]
  | succ j=>
   have hj:l[j]?=some l[j]:=kC (by omega)
   have hwj:IntKind.i64.wrap (j:Int)=(j:Int):=wrap_i64 (by omega) (by omega)
   have e1:ygu ylw (pv l (j+1)) x=decide (0≤ylw l[j] x):=by simp [pv,ygu,hj]
   have hy:=hs _ (kL (show j<l.length by omega))
   generalize l[j]=y at *
   rw [e1]
   simp [y10.r7,hwj,hj,hg,G4,y75,y8a,ss]
   refine y32 _ (fun H2=>byFn_ok y x H2) ?_
   simp [ylw,y75]
   all_goals rfl
 ·apply jA
  simp [y10.r8]
  apply jD
  rw [if_pos hf] at hch
  simp [hch]
  exact ⟨X4,.refl _⟩
 rw [if_neg (by simp [hf])] at hch
 simp
 apply jE
 simp [y10.r9,y2g hd hl]
 exact ⟨l.length-(i+1),by omega,_,_,.refl _ _,i+1,by omega,rfl,hch,X4,L4,by simp⟩
theorem ylr (l:List Cn) (hl:l.length≤9223372036854775807) (hs:∀x∈l,cnS x) (H:Hp):AC Tryz.prog y60 [.fs (l.map y3n),.fn y7r [],.fn y5k []] H (fun v H'=>v=.i .i64 (chk cnE yae none l)∧H'=H):=by
 refine AC.codeP yu.at yu.ok (by simp) fun hlt=>?_
 simp only [yu]
 apply jA
 simp [yu.r0]
 apply jB
 simp [yu.r1]
 refine AX.pblock (AX.loop (EaInv cnE yae y3n l y7r y5k H) l.length ⟨_,_,.refl _ _,0,by omega,by omega,rfl,.refl _,hlt,by simp⟩ ?_)
 rintro m F X ⟨i,hi,rfl,hch,X1,L1,rfl⟩
 simp only [yu.l0]
 apply jA
 simp [yu.r2]
 refine AX.seq (AX.pcond rfl (fun hd=>AX.skip ?_) (fun hd=>AX.exit ?_))
 case refine_2=>
  simp at hd
  rw [yiq hd] at hch
  simp
  apply jA
  simp [yu.r10]
  apply jD
  simp [hch]
  exact ⟨X1,.refl _⟩
 simp at hd
 have hx:=hs _ (kL hd)
 rw [yg1 hd] at hch
 have hg:l[i]?=some l[i]:=kC hd
 simp
 generalize l[i]=x at *
 apply jC
 simp [yu.r3,hg,y3n,y8a,ss]
 have X4:=X1.trans (yfy L1 (.cells [.i .i64 0,.s [],.s [],.i .i64 0,.s [],.sl none 0 0] 6) (.cells [.i .i64 x.op,.s x.a,.s x.b,.i .i64 x.k,.s x.tag,.fs (x.args.map fun a=>[.s a])] 6))
 have L4:=lt2 L1 (.cells [.i .i64 0,.s [],.s [],.i .i64 0,.s [],.sl none 0 0] 6) (.cells [.i .i64 x.op,.s x.a,.s x.b,.i .i64 x.k,.s x.tag,.fs (x.args.map fun a=>[.s a])] 6)
 have G4:((X.add (.cells [.i .i64 0,.s [],.s [],.i .i64 0,.s [],.sl none 0 0] 6)).upd X.next (.cells [.i .i64 x.op,.s x.a,.s x.b,.i .i64 x.k,.s x.tag,.fs (x.args.map fun a=>[.s a])] 6)).get X.next=some (.cells [.i .i64 x.op,.s x.a,.s x.b,.i .i64 x.k,.s x.tag,.fs (x.args.map fun a=>[.s a])] 6):=by simp
 generalize (X.add (.cells [.i .i64 0,.s [],.s [],.i .i64 0,.s [],.sl none 0 0] 6)).upd X.next (.cells [.i .i64 x.op,.s x.a,.s x.b,.i .i64 x.k,.s x.tag,.fs (x.args.map fun a=>[.s a])] 6)=Z at *
 generalize X.next=id at *
 apply jB
 simp [yu.r4,G4]
 refine AC.fix (con_ok x (by have:=hx.1;omega) (by have:=hx.2.1;omega) (by have:=hx.2.2.1;omega) (by have:=hx.2.2.2.1;omega) (fun a ha=>by have:=hx.2.2.2.2 a ha;omega) _) ?_
 simp
 apply jA
 simp [yu.r5]
 refine AX.pcond rfl (fun he=>?_) (fun he=>AX.skip ?_)
 ·simp at he
  rw [if_pos he] at hch
  apply jA
  simp [yu.r6]
  apply jD
  simp [hch]
  exact ⟨X4,.refl _⟩
 simp at he
 rw [if_neg (by simp [he])] at hch
 simp
 refine AX.testD (ygu yae (pv l i) x) [(0,.fs (l.map y3n)),(1,.fn y7r []),(2,.fn y5k []),(10,.fs (l.map y3n)),(11,.i .i64 l.length),(12,.i .i64 i),(35,.b (ygu yae (pv l i) x))] ?_ rfl (fun hf=>?_) (fun hf=>AX.skip ?_)
 ·cases i with
  | zero=>simp [yu.r7,pv,ygu]
  | succ j=>
   have hj:l[j]?=some l[j]:=kC (by omega)
   have hwj:IntKind.i64.wrap (j:Int)=(j:Int):=wrap_i64 (by omega) (by omega)
   have e1:ygu yae (pv l (j+1)) x=decide (0≤yae l[j] x):=by simp [pv,ygu,hj]
   have hy:=hs _ (kL (show j<l.length by omega))
   generalize l[j]=y at *
   rw [e1]
   simp [yu.r7,hwj,hj,hg,G4,y3n,y8a,ss]
   refine y32 _ (fun H2=>yiz y x (by have:=hy.2.2.2.1;omega) (by have:=hx.2.2.2.1;omega) H2) ?_
   simp [yae,y3n]
   all_goals rfl
 ·apply jA
  simp [yu.r8]
  apply jD
  rw [if_pos hf] at hch
  simp [hch]
  exact ⟨X4,.refl _⟩
 rw [if_neg (by simp [hf])] at hch
 simp
 apply jE
 simp [yu.r9,y2g hd hl]
 exact ⟨l.length-(i+1),by omega,_,_,.refl _ _,i+1,by omega,rfl,hch,X4,L4,by simp⟩
theorem yq0 (s:Sy) (hs:syS s) (H:Hp):AC Tryz.prog y8t [.agg (y5b s)] H (fun v H'=>v=.i .i64 (ybl s)∧H'=H):=by
 obtain ⟨lo,lf,lc,ho,hf,hcn⟩:=hs
 refine AC.code y1i.at y1i.ok ?_
 simp only [y1i]
 apply jA
 simp [y1i.r0,y5b]
 refine AX.seq ?_
 refine AX.test (decide (600<s.objs.length)||decide (600<s.fns.length)||decide (6000<s.cons.length)) [(1,.fp (y5b s) 0),(20,.b (decide (600<s.objs.length)||decide (600<s.fns.length)||decide (6000<s.cons.length)))] ?_ rfl (fun hb=>?_) (fun hb=>AX.skip ?_)
 ·by_cases h1:600<s.objs.length
  ·simp [y1i.r1,y5b,h1]
  by_cases h2:600<s.fns.length
  ·simp [y1i.r1,y5b,h1,h2]
  ·simp [y1i.r1,y5b,h1,h2]
 ·apply jA
  simp [y1i.r2]
  apply jD
  simp at hb
  have:600<s.objs.length∨600<s.fns.length∨6000<s.cons.length:=by omega
  simp [ybl,this]
 simp at hb
 have hn:¬(600<s.objs.length∨600<s.fns.length∨6000<s.cons.length):=by omega
 have eS:ybl s=orI [chk obE ylv none s.objs,chk fuE ylw none s.fns,chk cnE yae none s.cons]:=by unfold ybl;rw [if_neg hn]
 rw [eS]
 simp
 apply jB
 simp [y1i.r3,y5b]
 refine AC.fix (ylq s.objs (by omega) ho _) ?_
 generalize chk obE ylv none s.objs=a
 simp
 apply jA
 simp [y1i.r4]
 refine AX.pcond rfl (fun hd=>?_) (fun hd=>AX.skip ?_)
 ·simp at hd
  apply jA
  simp [y1i.r5]
  apply jD
  simp [or1 _ _ hd]
 simp at hd
 rw [or0 _ _ hd]
 simp
 apply jB
 simp [y1i.r6]
 refine AC.fix (yqa s.fns (by omega) hf _) ?_
 generalize chk fuE ylw none s.fns=b
 simp
 apply jA
 simp [y1i.r7]
 refine AX.pcond rfl (fun he=>?_) (fun he=>AX.skip ?_)
 ·simp at he
  apply jA
  simp [y1i.r8]
  apply jD
  simp [or1 _ _ he]
 simp at he
 rw [or0 _ _ he]
 simp
 apply jA
 simp [y1i.r9]
 refine AC.fix (ylr s.cons (by omega) hcn _) ?_
 generalize chk cnE yae none s.cons=c
 simp
 apply jD
 by_cases h:c=0 <;> simp [orI,h]
end Go.Proofs.YtikpijbeobeckaaGreatDoor
