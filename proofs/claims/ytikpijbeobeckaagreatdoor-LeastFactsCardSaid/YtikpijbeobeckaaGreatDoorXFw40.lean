/- Part 40. -/
import Derived.Test.YtikpijbeobeckaaGreatDoorXFw28
import Derived.Test.YtikpijbeobeckaaGreatDoorXFw29
import Derived.Test.YtikpijbeobeckaaGreatDoorXFw39
set_option linter.unusedSimpArgs false
set_option linter.unusedVariables false
namespace Go.Proofs.YtikpijbeobeckaaGreatDoor
open Am C
theorem yp2 {s:Str} (h:yde s=true):y9v s=true:=by
 unfold yde at h
 unfold y9v
 cases hr:y5t s with
 | none=>rw [hr] at h;cases h
 | some d=>
  rw [hr] at h
  have:d.kind=3:=by simpa using h
  simp [this]
def cnG (c:Cn):Bool:=if c.op=6 then ybf c else if c.op=5 then decide (c.args=[])&&(decide (0≤c.k)&&(decide (c.k≤64)&&yk2 c.tag)) else decide (c.args=[])&&(decide (c.k=0)&&decide (c.tag=[]))
theorem cnE_eq2 (c:Cn):cnE c=if c.op<1∨6<c.op then 5 else if cnB c=false then 11 else if cnG c then 0 else 3:=by
 rw [ymm]
 unfold cnG yk2
 by_cases h6:c.op=6
 ·simp [h6]
 by_cases h5:c.op=5
 ·by_cases h0:c.args=[] <;> simp [h5,h0,and_assoc]
 ·by_cases h0:c.args=[] <;> simp [h6,h5,h0]
theorem con_ok (c:Cn) (h1:c.a.length≤9223372036854775806) (h2:c.b.length≤9223372036854775806) (ht:c.tag.length≤9223372036854775807) (ha:c.args.length≤9223372036854775807) (hx:∀a∈c.args,a.length≤9223372036854775806) (H:Hp):AC Tryz.prog y92 [.agg (y3z c)] H (fun v H'=>v=.i .i64 (cnE c)∧H'=H):=by
 refine AC.codeP yn.at yn.ok (by simp) fun hlt=>?_
 rw [cnE_eq2]
 simp only [yn]
 apply jA
 simp [yn.r0,y3z]
 apply jA
 simp [yn.r1]
 refine AX.cut (fun F X=>F=[(1,.fp (y3z c) 0),(3,.b (cnB c))]∧(1≤c.op∧c.op≤6)∧H.Ext X) ?_ ?_
 ·apply jA
  simp [yn.r2]
  refine AX.pblock (jA ?_)
  by_cases o1:c.op=1
  ·simp [yn.r3,o1]
   refine jG rfl (AX.reg ?_)
   simp [yn.r4]
   refine AC.fix (y8b c.a h1 _) ?_
   cases hA:y9v c.a
   ·simp
    exact ⟨_,_,.refl _ _,by simp [cnB,hA,y3z,o1],.refl _⟩
   ·simp
    refine AC.fix (yrr c.b h2 _) ?_
    simp
    exact ⟨_,_,.refl _ _,by simp [cnB,hA,y3z,o1],.refl _⟩
  simp [yn.r3,o1]
  refine jF rfl ?_
  by_cases o2:c.op=2
  ·refine AX.seq ?_
   apply jA
   simp [yn.r5,o2]
   refine jG rfl (AX.skip ?_)
   simp
   refine jG rfl (AX.reg ?_)
   simp [yn.r9]
   refine AC.fix (y8b c.a h1 _) ?_
   cases hA:y9v c.a
   ·simp
    exact ⟨_,_,.refl _ _,by simp [cnB,hA,y3z,o2],.refl _⟩
   ·simp
    refine AC.fix (y8b c.b h2 _) ?_
    simp
    exact ⟨_,_,.refl _ _,by simp [cnB,hA,y3z,o2],.refl _⟩
  by_cases o3:c.op=3
  ·refine AX.seq ?_
   apply jA
   simp [yn.r5,o3]
   refine jF rfl ?_
   apply jA
   simp [yn.r6,o3]
   refine jG rfl (AX.skip ?_)
   simp
   refine jG rfl (AX.reg ?_)
   simp [yn.r9]
   refine AC.fix (y8b c.a h1 _) ?_
   cases hA:y9v c.a
   ·simp
    exact ⟨_,_,.refl _ _,by simp [cnB,hA,y3z,o3],.refl _⟩
   ·simp
    refine AC.fix (y8b c.b h2 _) ?_
    simp
    exact ⟨_,_,.refl _ _,by simp [cnB,hA,y3z,o3],.refl _⟩
  by_cases o4:c.op=4
  ·refine AX.seq ?_
   apply jA
   simp [yn.r5,o4]
   refine jF rfl ?_
   apply jA
   simp [yn.r6,o4]
   refine jF rfl ?_
   apply jA
   simp [yn.r7,o4]
   refine jG rfl (AX.skip ?_)
   simp
   refine jG rfl (AX.reg ?_)
   simp [yn.r9]
   refine AC.fix (y8b c.a h1 _) ?_
   cases hA:y9v c.a
   ·simp
    exact ⟨_,_,.refl _ _,by simp [cnB,hA,y3z,o4],.refl _⟩
   ·simp
    refine AC.fix (y8b c.b h2 _) ?_
    simp
    exact ⟨_,_,.refl _ _,by simp [cnB,hA,y3z,o4],.refl _⟩
  refine AX.seq ?_
  apply jA
  simp [yn.r5,o2]
  refine jF rfl ?_
  apply jA
  simp [yn.r6,o3]
  refine jF rfl ?_
  apply jA
  simp [yn.r7,o4]
  refine jF rfl ?_
  apply jE
  by_cases o5:c.op=5
  ·simp [yn.r8,o5]
   refine jG rfl (AX.reg ?_)
   simp [yn.r9]
   refine AC.fix (y8b c.a h1 _) ?_
   cases hA:y9v c.a
   ·simp
    exact ⟨_,_,.refl _ _,by simp [cnB,hA,y3z,o5],.refl _⟩
   ·simp
    refine AC.fix (y8b c.b h2 _) ?_
    simp
    exact ⟨_,_,.refl _ _,by simp [cnB,hA,y3z,o5],.refl _⟩
  simp [yn.r8,o5]
  refine jF rfl ?_
  apply jA
  by_cases o6:c.op=6
  ·simp [yn.r10,o6]
   refine jG rfl ?_
   apply jA
   simp [yn.r11]
   refine AC.fix (yae c.a h1 _) ?_
   cases hr:y5t c.a with
   | none=>
    have hs:yde c.a=false:=by unfold yde;rw [hr]
    simp [rdV,nv,Nd.cs,Nd.zero]
    apply jE
    simp [yn.r12]
    exact ⟨_,_,.refl _ _,by simp [cnB,o6,hs,y3z],yc0 hlt _ _⟩
   | some d=>
    simp [rdV,nv,Nd.cs]
    apply jE
    by_cases hk:d.kind=3
    ·have hs:yde c.a=true:=by unfold yde;rw [hr];simp [hk]
     simp [yn.r12,hk]
     refine AC.fix (y8b c.b h2 _) ?_
     simp
     exact ⟨_,_,.refl _ _,by simp [cnB,o6,hs,yp2 hs,y3z],yc0 hlt _ _⟩
    ·have hs:yde c.a=false:=by unfold yde;rw [hr];simp [hk]
     simp [yn.r12,hk]
     exact ⟨_,_,.refl _ _,by simp [cnB,o6,hs,y3z],yc0 hlt _ _⟩
  simp [yn.r10,o6]
  refine jF rfl ?_
  apply jA
  simp [yn.r13]
  apply jD
  have:c.op<1∨6<c.op:=by omega
  simp [this]
  exact ⟨.refl _,.refl _⟩
 rintro F X ⟨rfl,hop,X1⟩
 have hop':¬(c.op<1∨6<c.op):=by omega
 rw [if_neg hop']
 apply jB
 simp [yn.r14]
 refine AX.pcond rfl (fun hb=>?_) (fun hb=>AX.skip ?_)
 ·simp at hb
  apply jA
  simp [yn.r15]
  apply jD
  simp [hb]
  exact ⟨X1,.refl _⟩
 simp at hb
 rw [if_neg (show ¬cnB c=false by simp [hb])]
 simp
 refine AX.seq (AX.join (F1:=[(3,.b (cnG c))]) (H1:=X) ?_ ?_)
 ·apply jA
  simp [yn.r16,y3z]
  refine AX.pblock (jA ?_)
  by_cases h6:c.op=6
  ·simp [yn.r17,h6]
   refine jG rfl (AX.reg ?_)
   simp [yn.r18,h6]
   refine AC.fix (show AC Tryz.prog y83 [.agg [.i .i64 6,.s c.a,.s c.b,.i .i64 c.k,.s c.tag,ss c.args]] X (fun v H'=>v=.b (ybf c)∧H'=X) from by have:=yr9 c ht ha hx X;unfold y3z at this;rwa [h6] at this) ?_
   simp [cnG,h6]
  simp [yn.r17,h6]
  refine jF rfl ?_
  apply jA
  by_cases h5:c.op=5
  ·simp [yn.r19,h5]
   refine jG rfl (AX.reg ?_)
   by_cases h0:c.args=[]
   ·by_cases k1:0≤c.k
    ·by_cases k2:c.k≤64
     ·simp [yn.r20,ss,h0,k1,k2]
      refine AC.fix (yff c.tag ht _) ?_
      simp [cnG,h5,h0,k1,k2]
     ·simp [yn.r20,ss,h0,k1,k2,cnG,h5]
    ·simp [yn.r20,ss,h0,k1,cnG,h5]
   ·have:¬c.args.length=0:=by simpa using h0
    simp [yn.r20,ss,h0,this,cnG,h5]
  simp [yn.r19,h5]
  refine jF rfl (AX.reg ?_)
  by_cases h0:c.args=[]
  ·by_cases k1:c.k=0
   ·by_cases k2:c.tag=[]
    ·simp [yn.r21,ss,h0,k1,k2,cnG,h5,h6]
    ·simp [yn.r21,ss,h0,k1,k2,cnG,h5,h6,show (c.tag == [])=false by simpa using k2]
   ·simp [yn.r21,ss,h0,k1,cnG,h5,h6]
  ·have:¬c.args.length=0:=by simpa using h0
   simp [yn.r21,ss,h0,this,cnG,h5,h6]
 simp
 apply jB
 simp [yn.r22]
 refine AX.pcond rfl (fun hd=>?_) (fun hd=>AX.skip ?_)
 ·simp at hd
  apply jA
  simp [yn.r23]
  apply jD
  simp [hd]
  exact ⟨X1,.refl _⟩
 simp at hd
 simp
 apply jA
 simp [yn.r24]
 apply jD
 simp [hd]
 exact ⟨X1,.refl _⟩
def ygk (l:List Mk):Int:=match l.getLast? with
 | some x=>x.pos
 | none=>0
theorem mk1_last {n:Nat} {l:List Mk} {m:Mk} (h:0≤ygk l):ynd n l m=(decide (ygk l≤m.pos)&&decide (m.pos<n)&&yk2 m.tag):=by
 unfold ynd
 unfold ygk at h ⊢
 cases hl:l.getLast? with
 | none=>
  cases yk2 m.tag <;> simp
 | some x=>
  rw [hl] at h
  simp only at h
  have e:decide (∀y,some x=some y→y.pos≤m.pos)=decide (x.pos≤m.pos):=by
   congr 1
   apply propext
   exact ⟨fun hh=>hh x rfl,fun hh y hy=>by injection hy with hy;subst hy;exact hh⟩
  rw [e]
  by_cases h1:x.pos≤m.pos
  ·have:0≤m.pos:=by omega
   simp [h1,this]
  ·simp [h1]
theorem yne {ms:List Mk} {i:Nat} (h:i<ms.length):ygk (ms.take (i+1))=ms[i].pos:=by
 unfold ygk
 rw [List.getLast?_eq_getElem?,List.length_take,Nat.min_eq_left (by omega)]
 simp [kj,h]
def SObInv (o:Ob) (H:Hp) (m:Nat) (F:Fr) (X:Hp):Prop:=
 ∃i,i≤o.marks.length∧m=o.marks.length-i∧ync o.kinds.length [] o.marks=ync o.kinds.length (o.marks.take i) (o.marks.drop i)∧0≤ygk (o.marks.take i)∧H.Ext X∧(∀id blk,X.get id=some blk→id<X.next)∧
  F=[(1,.fp (y68 o) 0),(5,.i .i64 (ygk (o.marks.take i))),(38,.fs (o.marks.map y9h)),(39,.i .i64 o.marks.length),(40,.i .i64 i)]
theorem ynv (o:Ob) (h1:o.name.length≤9223372036854775806) (h2:o.kinds.length≤9223372036854775807) (h3:o.marks.length≤9223372036854775807) (h4:∀m∈o.marks,m.tag.length≤9223372036854775807) (H:Hp):
  AC Tryz.prog y78 [.agg (y68 o)] H (fun v H'=>v=.i .i64 (obE o)∧H'=H):=by
 refine AC.codeP y16.at y16.ok (by simp) fun hlt=>?_
 simp only [y16]
 apply jA
 simp [y16.r0,y68]
 apply jA
 simp [y16.r1]
 refine AC.fix (yae o.name h1 _) ?_
 obtain ⟨er,d,hrd,hbad⟩:∃(er:Int) (d:Nd),rdV (y5t o.name)=.tup [nv d,.i .i64 er]∧obE o=if (decide (er≠0)||(decide (d.kind<5)||decide (0≤d.cell)))=true then 11 else if ¬(kpB o.kinds=true∧1≤o.kinds.length∧o.kinds.length≤64) then 5 else if ync o.kinds.length [] o.marks then 0 else 3:=by
  unfold obE
  cases hr:y5t o.name with
  | none=>exact ⟨11,Nd.zero,rfl,by simp⟩
  | some d=>exact ⟨0,d,rfl,by simp⟩
 rw [hrd]
 simp [nv,Nd.cs]
 have X2:=yc0 hlt (.cells [.i .i64 0,.s [],.i .i64 0,.s [],.i .i64 0,.i .i64 0] 6) (.cells [.i .i64 d.kind,.s d.fn,.i .i64 d.copy,.s d.name,.i .i64 d.n,.i .i64 d.cell] 6)
 have L2:=lt2 hlt (.cells [.i .i64 0,.s [],.i .i64 0,.s [],.i .i64 0,.i .i64 0] 6) (.cells [.i .i64 d.kind,.s d.fn,.i .i64 d.copy,.s d.name,.i .i64 d.n,.i .i64 d.cell] 6)
 have G2:((H.add (.cells [.i .i64 0,.s [],.i .i64 0,.s [],.i .i64 0,.i .i64 0] 6)).upd H.next (.cells [.i .i64 d.kind,.s d.fn,.i .i64 d.copy,.s d.name,.i .i64 d.n,.i .i64 d.cell] 6)).get H.next=some (.cells [.i .i64 d.kind,.s d.fn,.i .i64 d.copy,.s d.name,.i .i64 d.n,.i .i64 d.cell] 6):=by simp
 generalize (H.add (.cells [.i .i64 0,.s [],.i .i64 0,.s [],.i .i64 0,.i .i64 0] 6)).upd H.next (.cells [.i .i64 d.kind,.s d.fn,.i .i64 d.copy,.s d.name,.i .i64 d.n,.i .i64 d.cell] 6)=X at *
 refine AX.seq (AX.pblock ?_)
 obtain ⟨b,hb⟩:∃b,b=(decide (er≠0)||(decide (d.kind<5)||decide (0≤d.cell))):=⟨_,rfl⟩
 rw [←hb] at hbad
 refine AX.test b [(1,.fp (y68 o) 0),(14,.b b)] ?_ rfl (fun hc=>?_) (fun hc=>?_)
 ·by_cases e:er=0
  ·by_cases k:d.kind<5
   ·simp [y16.r2,y68,e,k,hb,G2]
   ·simp [y16.r2,y68,e,k,hb,G2]
  ·simp [y16.r2,y68,e,hb]
 ·rw [if_pos hc] at hbad
  apply jA
  simp [y16.r3]
  apply jD
  simp [hbad]
  exact ⟨X2,.refl _⟩
 rw [if_neg (by simp [hc])] at hbad
 clear hb hc
 obtain ⟨b2,hb2⟩:∃b2,b2=decide (¬(kpB o.kinds=true∧1≤o.kinds.length∧o.kinds.length≤64)):=⟨_,rfl⟩
 refine AX.test b2 [(1,.fp (y68 o) 0),(27,.b b2)] ?_ rfl (fun hc=>?_) (fun hc=>AX.skip ?_)
 ·by_cases e:o.kinds=[]
  ·simp [y16.r4,y68,e,hb2]
  ·have e1:1≤o.kinds.length:=by cases h:o.kinds <;> simp_all
   have e2:(o.kinds == [])=false:=by simpa using e
   simp [y16.r4,y68,e,e2]
   refine AC.fix (yba o.kinds 64 h2 _) ?_
   have:(!(kpB o.kinds&&decide ((o.kinds.length:Int)≤64)))=b2:=by
    rw [hb2]
    by_cases h64:o.kinds.length≤64
    ·cases kpB o.kinds <;> simp [e1,h64,show ¬64<o.kinds.length by omega]
    ·cases kpB o.kinds <;> simp [e1,h64,show 64<o.kinds.length by omega]
   simp [this,y68]
   simp [←this]
 ·have hc':=of_decide_eq_true (hb2▸hc)
  rw [if_pos hc'] at hbad
  apply jA
  simp [y16.r5]
  apply jD
  simp [hbad]
  exact ⟨X2,.refl _⟩
 have hc':=of_decide_eq_false (hb2▸hc)
 rw [if_neg hc'] at hbad
 simp
 apply jA
 simp [y16.r6]
 apply jB
 simp [y16.r7,y68]
 refine AX.pblock (AX.loop (SObInv o H) o.marks.length ⟨_,_,.refl _ _,0,by omega,by omega,rfl,by simp [ygk],X2,L2,by simp [y68,ygk]⟩ ?_)
 rintro m F Y ⟨i,hi,rfl,hm,hla,X3,L3,rfl⟩
 simp only [y16.l0]
 apply jA
 simp [y16.r8]
 refine AX.seq (AX.pcond rfl (fun hd=>AX.skip ?_) (fun hd=>AX.exit ?_))
 case refine_2=>
  simp at hd
  rw [List.drop_eq_nil_of_le hd] at hm
  simp only [ync] at hm
  simp
  apply jA
  simp [y16.r14]
  apply jD
  simp [hbad,hm]
  exact ⟨X3,.refl _⟩
 simp at hd
 rw [yj8 hd,mkB_eq,mk1_last hla] at hm
 have hlt1:=yne hd
 have hmt:=h4 _ (kL hd)
 have hg:o.marks[i]?=some o.marks[i]:=kC hd
 simp
 generalize o.marks[i]=mk at *
 generalize hlp:ygk (o.marks.take i)=lp at *
 apply jC
 simp [y16.r9,hg,y9h]
 have X4:=X3.trans (yc0 L3 (.cells [.i .i64 0,.s []] 2) (.cells [.i .i64 mk.pos,.s mk.tag] 2))
 have L4:=lt2 L3 (.cells [.i .i64 0,.s []] 2) (.cells [.i .i64 mk.pos,.s mk.tag] 2)
 have G4:((Y.add (.cells [.i .i64 0,.s []] 2)).upd Y.next (.cells [.i .i64 mk.pos,.s mk.tag] 2)).get Y.next=some (.cells [.i .i64 mk.pos,.s mk.tag] 2):=by simp
 generalize (Y.add (.cells [.i .i64 0,.s []] 2)).upd Y.next (.cells [.i .i64 mk.pos,.s mk.tag] 2)=Z at *
 generalize Y.next=id at *
 obtain ⟨g,hgg⟩:∃g,g=(decide (lp≤mk.pos)&&decide (mk.pos<o.kinds.length)&&yk2 mk.tag&&decide (mk∉o.marks.take i)):=⟨_,rfl⟩
 rw [←hgg] at hm
 refine AX.seq ?_
 refine AX.testD (!g) [(1,.fp (y68 o) 0),(7,.p (some (id,0,2))),(38,.fs (o.marks.map y9h)),(39,.i .i64 o.marks.length),(40,.i .i64 i),(70,.b (!g))] ?_ rfl (fun hb=>?_) (fun hb=>AX.skip ?_)
 ·by_cases c1:mk.pos<lp
  ·simp [y16.r10,y68,G4,c1,hgg,show ¬lp≤mk.pos by omega]
  by_cases c2:(o.kinds.length:Int)≤mk.pos
  ·simp [y16.r10,y68,G4,c1,c2,hgg,show ¬mk.pos<o.kinds.length by omega]
  have c1':lp≤mk.pos:=by omega
  have c2':mk.pos<o.kinds.length:=by omega
  simp [y16.r10,y68,G4,c1,c2]
  refine y33 _ (fun H2=>yff mk.tag hmt H2) ?_
  cases htg:yk2 mk.tag
  ·simp [hgg,htg]
  have hm2:∀x:Mk,x∈o.marks→(y9h x).length=2:=fun x _=>rfl
  have hcon:∀H2,AC Tryz.prog y3r [.fs (List.take i (List.map y9h o.marks)),.agg [.i .i64 mk.pos,.s mk.tag]] H2 (fun v H'=>v=.b (decide (mk∈o.marks.take i))∧H'=H2):=fun H2=>by
   have:=yev (o.marks.take i) mk (by simp;omega) H2
   rw [List.map_take] at this
   exact this
  simp [hm2,show i≤o.marks.length by omega,G4]
  rw [if_pos hm2]
  simp [G4]
  refine y33 _ hcon ?_
  by_cases hin:mk∈o.marks.take i
  ·simp [hgg,c1',c2',htg,hin,y68,y9h]
  ·simp [hgg,c1',c2',htg,hin,y68,y9h]
 ·simp at hb
  apply jA
  simp [y16.r11]
  apply jD
  simp [hbad,hm,hb]
  exact ⟨X4,.refl _⟩
 simp at hb
 rw [hb] at hgg
 have hpos:0≤mk.pos:=by
  have:lp≤mk.pos:=by
   have:=hgg.symm
   simp at this
   exact this.1.1.1
  omega
 simp
 apply jE
 simp [y16.r12,G4]
 apply jE
 simp [y16.r13,y2c hd h3]
 exact ⟨o.marks.length-(i+1),by omega,_,_,.refl _ _,i+1,by omega,rfl,by rw [hm,hb];simp,by rw [hlt1];exact hpos,X4,L4,by rw [hlt1];simp [y68,y9h]⟩
def EaInv {α:Type} (ask:α→Int) (cmp:α→α→Int) (enc:α→List V) (l:List α) (f g:Go.FuncId) (H:Hp) (m:Nat) (F:Fr) (X:Hp):Prop:=
 ∃i,i≤l.length∧m=l.length-i∧chk ask cmp none l=chk ask cmp (pv l i) (l.drop i)∧H.Ext X∧(∀id blk,X.get id=some blk→id<X.next)∧
  F=[(0,.fs (l.map enc)),(1,.fn f []),(2,.fn g []),(10,.fs (l.map enc)),(11,.i .i64 l.length),(12,.i .i64 i)]
theorem yo1 (l:List Ob) (hl:l.length≤9223372036854775807) (hs:∀x∈l,obS x) (H:Hp):AC Tryz.prog y79 [.fs (l.map y68),.fn y78 [],.fn y7o []] H (fun v H'=>v=.i .i64 (chk obE yin none l)∧H'=H):=by
 refine AC.codeP yx.at yx.ok (by simp) fun hlt=>?_
 simp only [yx]
 apply jA
 simp [yx.r0]
 apply jB
 simp [yx.r1]
 refine AX.pblock (AX.loop (EaInv obE yin y68 l y78 y7o H) l.length ⟨_,_,.refl _ _,0,by omega,by omega,rfl,.refl _,hlt,by simp⟩ ?_)
 rintro m F X ⟨i,hi,rfl,hch,X1,L1,rfl⟩
 simp only [yx.l0]
 apply jA
 simp [yx.r2]
 refine AX.seq (AX.pcond rfl (fun hd=>AX.skip ?_) (fun hd=>AX.exit ?_))
 case refine_2=>
  simp at hd
  rw [yef hd] at hch
  simp
  apply jA
  simp [yx.r10]
  apply jD
  simp [hch]
  exact ⟨X1,.refl _⟩
 simp at hd
 have hx:=hs _ (kL hd)
 rw [ycb hd] at hch
 have hg:l[i]?=some l[i]:=kC hd
 simp
 generalize l[i]=x at *
 apply jC
 simp [yx.r3,hg,y68,y9h,ss]
 have X4:=X1.trans (yc0 L1 (.cells [.s [],.s [],.sl none 0 0] 3) (.cells [.s x.name,.s x.kinds,.fs (x.marks.map y9h)] 3))
 have L4:=lt2 L1 (.cells [.s [],.s [],.sl none 0 0] 3) (.cells [.s x.name,.s x.kinds,.fs (x.marks.map y9h)] 3)
 have G4:((X.add (.cells [.s [],.s [],.sl none 0 0] 3)).upd X.next (.cells [.s x.name,.s x.kinds,.fs (x.marks.map y9h)] 3)).get X.next=some (.cells [.s x.name,.s x.kinds,.fs (x.marks.map y9h)] 3):=by simp
 generalize (X.add (.cells [.s [],.s [],.sl none 0 0] 3)).upd X.next (.cells [.s x.name,.s x.kinds,.fs (x.marks.map y9h)] 3)=Z at *
 generalize X.next=id at *
 apply jB
 simp [yx.r4,G4]
 refine AC.fix (ynv x (by have:=hx.1;omega) (by have:=hx.2.1;omega) (by have:=hx.2.2.1;omega) (fun m hm=>by have:=hx.2.2.2 m hm;omega) _) ?_
 simp
 apply jA
 simp [yx.r5]
 refine AX.pcond rfl (fun he=>?_) (fun he=>AX.skip ?_)
 ·simp at he
  rw [if_pos he] at hch
  apply jA
  simp [yx.r6]
  apply jD
  simp [hch]
  exact ⟨X4,.refl _⟩
 simp at he
 rw [if_neg (by simp [he])] at hch
 simp
 refine AX.testD (ycm yin (pv l i) x) [(0,.fs (l.map y68)),(1,.fn y78 []),(2,.fn y7o []),(10,.fs (l.map y68)),(11,.i .i64 l.length),(12,.i .i64 i),(35,.b (ycm yin (pv l i) x))] ?_ rfl (fun hf=>?_) (fun hf=>AX.skip ?_)
 ·cases i with
  | zero=>simp [yx.r7,pv,ycm]
  | succ j=>
   have hj:l[j]?=some l[j]:=kC (by omega)
   have hwj:IntKind.i64.wrap (j:Int)=(j:Int):=wrap_i64 (by omega) (by omega)
   have e1:ycm yin (pv l (j+1)) x=decide (0≤yin l[j] x):=by simp [pv,ycm,hj]
   have hy:=hs _ (kL (show j<l.length by omega))
   generalize l[j]=y at *
   rw [e1]
   simp [yx.r7,hwj,hj,hg,G4,y68,y9h,ss]
   refine y33 _ (fun H2=>byObj_ok y x H2) ?_
   simp [yin,y68]
   all_goals rfl
 ·apply jA
  simp [yx.r8]
  apply jD
  rw [if_pos hf] at hch
  simp [hch]
  exact ⟨X4,.refl _⟩
 rw [if_neg (by simp [hf])] at hch
 simp
 apply jE
 simp [yx.r9,y2c hd hl]
 exact ⟨l.length-(i+1),by omega,_,_,.refl _ _,i+1,by omega,rfl,hch,X4,L4,by simp⟩
theorem ys7 (l:List Fu) (hl:l.length≤9223372036854775807) (hs:∀x∈l,fuS x) (H:Hp):AC Tryz.prog y7l [.fs (l.map yb0),.fn y64 [],.fn y84 []] H (fun v H'=>v=.i .i64 (chk fuE yio none l)∧H'=H):=by
 refine AC.codeP y14.at y14.ok (by simp) fun hlt=>?_
 simp only [y14]
 apply jA
 simp [y14.r0]
 apply jB
 simp [y14.r1]
 refine AX.pblock (AX.loop (EaInv fuE yio yb0 l y64 y84 H) l.length ⟨_,_,.refl _ _,0,by omega,by omega,rfl,.refl _,hlt,by simp⟩ ?_)
 rintro m F X ⟨i,hi,rfl,hch,X1,L1,rfl⟩
 simp only [y14.l0]
 apply jA
 simp [y14.r2]
 refine AX.seq (AX.pcond rfl (fun hd=>AX.skip ?_) (fun hd=>AX.exit ?_))
 case refine_2=>
  simp at hd
  rw [yef hd] at hch
  simp
  apply jA
  simp [y14.r10]
  apply jD
  simp [hch]
  exact ⟨X1,.refl _⟩
 simp at hd
 have hx:=hs _ (kL hd)
 rw [ycb hd] at hch
 have hg:l[i]?=some l[i]:=kC hd
 simp
 generalize l[i]=x at *
 apply jC
 simp [y14.r3,hg,yb0,y9h,ss]
 have X4:=X1.trans (yc0 L1 (.cells [.s [],.s [],.s []] 3) (.cells [.s x.name,.s x.kinds,.s x.ret] 3))
 have L4:=lt2 L1 (.cells [.s [],.s [],.s []] 3) (.cells [.s x.name,.s x.kinds,.s x.ret] 3)
 have G4:((X.add (.cells [.s [],.s [],.s []] 3)).upd X.next (.cells [.s x.name,.s x.kinds,.s x.ret] 3)).get X.next=some (.cells [.s x.name,.s x.kinds,.s x.ret] 3):=by simp
 generalize (X.add (.cells [.s [],.s [],.s []] 3)).upd X.next (.cells [.s x.name,.s x.kinds,.s x.ret] 3)=Z at *
 generalize X.next=id at *
 apply jB
 simp [y14.r4,G4]
 refine AC.fix (yjw x (by have:=hx.1;omega) (by have:=hx.2;omega) _) ?_
 simp
 apply jA
 simp [y14.r5]
 refine AX.pcond rfl (fun he=>?_) (fun he=>AX.skip ?_)
 ·simp at he
  rw [if_pos he] at hch
  apply jA
  simp [y14.r6]
  apply jD
  simp [hch]
  exact ⟨X4,.refl _⟩
 simp at he
 rw [if_neg (by simp [he])] at hch
 simp
 refine AX.testD (ycm yio (pv l i) x) [(0,.fs (l.map yb0)),(1,.fn y64 []),(2,.fn y84 []),(10,.fs (l.map yb0)),(11,.i .i64 l.length),(12,.i .i64 i),(35,.b (ycm yio (pv l i) x))] ?_ rfl (fun hf=>?_) (fun hf=>AX.skip ?_)
 ·cases i with
  | zero=>simp [y14.r7,pv,ycm]
  | succ j=>
   have hj:l[j]?=some l[j]:=kC (by omega)
   have hwj:IntKind.i64.wrap (j:Int)=(j:Int):=wrap_i64 (by omega) (by omega)
   have e1:ycm yio (pv l (j+1)) x=decide (0≤yio l[j] x):=by simp [pv,ycm,hj]
   have hy:=hs _ (kL (show j<l.length by omega))
   generalize l[j]=y at *
   rw [e1]
   simp [y14.r7,hwj,hj,hg,G4,yb0,y9h,ss]
   refine y33 _ (fun H2=>byFn_ok y x H2) ?_
   simp [yio,yb0]
   all_goals rfl
 ·apply jA
  simp [y14.r8]
  apply jD
  rw [if_pos hf] at hch
  simp [hch]
  exact ⟨X4,.refl _⟩
 rw [if_neg (by simp [hf])] at hch
 simp
 apply jE
 simp [y14.r9,y2c hd hl]
 exact ⟨l.length-(i+1),by omega,_,_,.refl _ _,i+1,by omega,rfl,hch,X4,L4,by simp⟩
theorem yo2 (l:List Cn) (hl:l.length≤9223372036854775807) (hs:∀x∈l,cnS x) (H:Hp):AC Tryz.prog y7a [.fs (l.map y3z),.fn y92 [],.fn y6m []] H (fun v H'=>v=.i .i64 (chk cnE ygn none l)∧H'=H):=by
 refine AC.codeP yy.at yy.ok (by simp) fun hlt=>?_
 simp only [yy]
 apply jA
 simp [yy.r0]
 apply jB
 simp [yy.r1]
 refine AX.pblock (AX.loop (EaInv cnE ygn y3z l y92 y6m H) l.length ⟨_,_,.refl _ _,0,by omega,by omega,rfl,.refl _,hlt,by simp⟩ ?_)
 rintro m F X ⟨i,hi,rfl,hch,X1,L1,rfl⟩
 simp only [yy.l0]
 apply jA
 simp [yy.r2]
 refine AX.seq (AX.pcond rfl (fun hd=>AX.skip ?_) (fun hd=>AX.exit ?_))
 case refine_2=>
  simp at hd
  rw [yef hd] at hch
  simp
  apply jA
  simp [yy.r10]
  apply jD
  simp [hch]
  exact ⟨X1,.refl _⟩
 simp at hd
 have hx:=hs _ (kL hd)
 rw [ycb hd] at hch
 have hg:l[i]?=some l[i]:=kC hd
 simp
 generalize l[i]=x at *
 apply jC
 simp [yy.r3,hg,y3z,y9h,ss]
 have X4:=X1.trans (yc0 L1 (.cells [.i .i64 0,.s [],.s [],.i .i64 0,.s [],.sl none 0 0] 6) (.cells [.i .i64 x.op,.s x.a,.s x.b,.i .i64 x.k,.s x.tag,.fs (x.args.map fun a=>[.s a])] 6))
 have L4:=lt2 L1 (.cells [.i .i64 0,.s [],.s [],.i .i64 0,.s [],.sl none 0 0] 6) (.cells [.i .i64 x.op,.s x.a,.s x.b,.i .i64 x.k,.s x.tag,.fs (x.args.map fun a=>[.s a])] 6)
 have G4:((X.add (.cells [.i .i64 0,.s [],.s [],.i .i64 0,.s [],.sl none 0 0] 6)).upd X.next (.cells [.i .i64 x.op,.s x.a,.s x.b,.i .i64 x.k,.s x.tag,.fs (x.args.map fun a=>[.s a])] 6)).get X.next=some (.cells [.i .i64 x.op,.s x.a,.s x.b,.i .i64 x.k,.s x.tag,.fs (x.args.map fun a=>[.s a])] 6):=by simp
 generalize (X.add (.cells [.i .i64 0,.s [],.s [],.i .i64 0,.s [],.sl none 0 0] 6)).upd X.next (.cells [.i .i64 x.op,.s x.a,.s x.b,.i .i64 x.k,.s x.tag,.fs (x.args.map fun a=>[.s a])] 6)=Z at *
 generalize X.next=id at *
 apply jB
 simp [yy.r4,G4]
 refine AC.fix (con_ok x (by have:=hx.1;omega) (by have:=hx.2.1;omega) (by have:=hx.2.2.1;omega) (by have:=hx.2.2.2.1;omega) (fun a ha=>by have:=hx.2.2.2.2 a ha;omega) _) ?_
 simp
 apply jA
 simp [yy.r5]
 refine AX.pcond rfl (fun he=>?_) (fun he=>AX.skip ?_)
 ·simp at he
  rw [if_pos he] at hch
  apply jA
  simp [yy.r6]
  apply jD
  simp [hch]
  exact ⟨X4,.refl _⟩
 simp at he
 rw [if_neg (by simp [he])] at hch
 simp
 refine AX.testD (ycm ygn (pv l i) x) [(0,.fs (l.map y3z)),(1,.fn y92 []),(2,.fn y6m []),(10,.fs (l.map y3z)),(11,.i .i64 l.length),(12,.i .i64 i),(35,.b (ycm ygn (pv l i) x))] ?_ rfl (fun hf=>?_) (fun hf=>AX.skip ?_)
 ·cases i with
  | zero=>simp [yy.r7,pv,ycm]
  | succ j=>
   have hj:l[j]?=some l[j]:=kC (by omega)
   have hwj:IntKind.i64.wrap (j:Int)=(j:Int):=wrap_i64 (by omega) (by omega)
   have e1:ycm ygn (pv l (j+1)) x=decide (0≤ygn l[j] x):=by simp [pv,ycm,hj]
   have hy:=hs _ (kL (show j<l.length by omega))
   generalize l[j]=y at *
   rw [e1]
   simp [yy.r7,hwj,hj,hg,G4,y3z,y9h,ss]
   refine y33 _ (fun H2=>yl8 y x (by have:=hy.2.2.2.1;omega) (by have:=hx.2.2.2.1;omega) H2) ?_
   simp [ygn,y3z]
   all_goals rfl
 ·apply jA
  simp [yy.r8]
  apply jD
  rw [if_pos hf] at hch
  simp [hch]
  exact ⟨X4,.refl _⟩
 rw [if_neg (by simp [hf])] at hch
 simp
 apply jE
 simp [yy.r9,y2c hd hl]
 exact ⟨l.length-(i+1),by omega,_,_,.refl _ _,i+1,by omega,rfl,hch,X4,L4,by simp⟩
theorem yrs (s:Sy) (hs:syS s) (H:Hp):AC Tryz.prog yaj [.agg (y3p s)] H (fun v H'=>v=.i .i64 (ye2 s)∧H'=H):=by
 obtain ⟨lo,lf,lc,ho,hf,hcn⟩:=hs
 refine AC.code y1z.at y1z.ok ?_
 simp only [y1z]
 apply jA
 simp [y1z.r0,y3p]
 refine AX.seq ?_
 refine AX.test (decide (600<s.objs.length)||decide (600<s.fns.length)||decide (6000<s.cons.length)) [(1,.fp (y3p s) 0),(20,.b (decide (600<s.objs.length)||decide (600<s.fns.length)||decide (6000<s.cons.length)))] ?_ rfl (fun hb=>?_) (fun hb=>AX.skip ?_)
 ·by_cases h1:600<s.objs.length
  ·simp [y1z.r1,y3p,h1]
  by_cases h2:600<s.fns.length
  ·simp [y1z.r1,y3p,h1,h2]
  ·simp [y1z.r1,y3p,h1,h2]
 ·apply jA
  simp [y1z.r2]
  apply jD
  simp at hb
  have:600<s.objs.length∨600<s.fns.length∨6000<s.cons.length:=by omega
  simp [ye2,this]
 simp at hb
 have hn:¬(600<s.objs.length∨600<s.fns.length∨6000<s.cons.length):=by omega
 have eS:ye2 s=orI [chk obE yin none s.objs,chk fuE yio none s.fns,chk cnE ygn none s.cons]:=by unfold ye2;rw [if_neg hn]
 rw [eS]
 simp
 apply jB
 simp [y1z.r3,y3p]
 refine AC.fix (yo1 s.objs (by omega) ho _) ?_
 generalize chk obE yin none s.objs=a
 simp
 apply jA
 simp [y1z.r4]
 refine AX.pcond rfl (fun hd=>?_) (fun hd=>AX.skip ?_)
 ·simp at hd
  apply jA
  simp [y1z.r5]
  apply jD
  simp [or1 _ _ hd]
 simp at hd
 rw [or0 _ _ hd]
 simp
 apply jB
 simp [y1z.r6]
 refine AC.fix (ys7 s.fns (by omega) hf _) ?_
 generalize chk fuE yio none s.fns=b
 simp
 apply jA
 simp [y1z.r7]
 refine AX.pcond rfl (fun he=>?_) (fun he=>AX.skip ?_)
 ·simp at he
  apply jA
  simp [y1z.r8]
  apply jD
  simp [or1 _ _ he]
 simp at he
 rw [or0 _ _ he]
 simp
 apply jA
 simp [y1z.r9]
 refine AC.fix (yo2 s.cons (by omega) hcn _) ?_
 generalize chk cnE ygn none s.cons=c
 simp
 apply jD
 by_cases h:c=0 <;> simp [orI,h]
end Go.Proofs.YtikpijbeobeckaaGreatDoor
