/- Part 43 of the proof of the laws of the queries: SmW, LwE, LwB. -/
import Derived.Test.YthmkcebbeehbeaaGreatDoorXBw19
import Derived.Test.YthmkcebbeehbeaaGreatDoorXBw29
import Derived.Test.YthmkcebbeehbeaaGreatDoorXBw33
import Derived.Test.YthmkcebbeehbeaaGreatDoorXBw35
import Derived.Test.YthmkcebbeehbeaaGreatDoorXBw36
import Derived.Test.YthmkcebbeehbeaaGreatDoorXBw42
set_option linter.unusedSimpArgs false
set_option linter.unusedVariables false
namespace Go.Proofs.YthmkcebbeehbeaaGreatDoor
open Am C
noncomputable instance instCn : DecidableEq Cn := Classical.typeDecidableEq Cn
noncomputable instance instSy : DecidableEq Sy := Classical.typeDecidableEq Sy
noncomputable instance instSu : DecidableEq Su := Classical.typeDecidableEq Su
theorem fu_eq (a b:Fu):y7q [1,1,1] (ya5 a) (ya5 b)=some (decide (a=b)):=by
  obtain ⟨a1,a2,a3⟩:=a
  obtain ⟨b1,b2,b3⟩:=b
  simp only [ya5,y7q,ycd,Fu.mk.injEq,Bool.beq_eq_decide_eq,Bool.decide_and]
  cases decide (a1=b1) <;> cases decide (a2=b2) <;> cases decide (a3=b3) <;> rfl
theorem yu4 (x y:Str):ybo x y=0↔x=y:=by
  unfold ybo
  by_cases h:ltB x y=true
  · rw [if_pos h]
    refine ⟨fun h=>(by cases h),fun e=>?_⟩
    subst e
    exact (ya0 _ h).elim
  · rw [if_neg h]
    by_cases e:x=y
    · simp [e]
    · simp [e]
theorem cmpI_0 (x y:Int):yfe x y=0↔x=y:=by
  unfold yfe
  split
  · exact ⟨fun h=>(by cases h),fun e=>by omega⟩
  · split
    · rename_i h;simp [h]
    · rename_i h;simp [h]
theorem cmpL_0:∀a b:List Str,yk6 a b=0↔a=b
  | [],[]=>by simp [yk6,cmpN]
  | [],y::b=>by simp [yk6,cmpN]
  | x::a,[]=>by simp [yk6]
  | x::a,y::b=>by
    simp only [yk6]
    by_cases h:ybo x y=0
    · rw [if_neg (by simp [h]),cmpL_0 a b,(yu4 x y).1 h];simp
    · rw [if_pos h]
      refine ⟨fun e=>(h e).elim,fun e=>?_⟩
      injection e with e1 _
      exact (h ((yu4 x y).2 e1)).elim
theorem orI_0:∀l:List Int,orI l=0↔∀x∈l,x=0
  | []=>by simp [orI]
  | x::l=>by
    simp only [orI]
    by_cases h:x=0
    · rw [if_neg (by simp [h]),orI_0 l];simp [h]
    · rw [if_pos h];simp [h]
theorem yk7 (a b:Cn):yht a b=0↔a=b:=by
  obtain ⟨a1,a2,a3,a4,a5,a6⟩:=a
  obtain ⟨b1,b2,b3,b4,b5,b6⟩:=b
  unfold yht
  rw [orI_0]
  simp [yu4,cmpI_0,cmpL_0]
def SoI0 (a b:Ob) (H:Hp) (m:Nat) (F:Fr) (X:Hp):Prop:=
  ∃k,k≤a.marks.length∧m=a.marks.length-k∧a.marks.take k=b.marks.take k∧X=H∧F=[(2,.fp (y5p a) 0),(3,.fp (y5p b) 0),(5,.i .i64 k)]
theorem yok (a b:Ob) (ha:a.marks.length≤140737488355328) (hb:b.marks.length≤140737488355328) (H:Hp):AC Tryz.prog y9y [.agg (y5p a),.agg (y5p b)] H (fun v H'=>v=.b (decide (a=b))∧H'=H):=by
  refine AC.code y1b.at y1b.ok ?_
  simp only [y1b]
  apply jA
  simp [y1b.r0,y5p]
  obtain ⟨w,hw⟩:∃w:Bool,w=decide (a.name≠b.name∨a.kinds≠b.kinds∨a.marks.length≠b.marks.length):=⟨_,rfl⟩
  refine AX.seq (AX.seq (AX.join (F1:=[(2,.fp (y5p a) 0),(3,.fp (y5p b) 0),(26,.b w)]) (H1:=H) (AX.reg ?_) ?_))
  · by_cases h1:a.name=b.name
    · by_cases h2:a.kinds=b.kinds
      · simp [y1b.r1,y5p,h1,h2,hw]
      · have h2':(a.kinds == b.kinds)=false:=by simpa using h2
        simp [y1b.r1,y5p,h1,h2',hw,h2]
    · have h1':(a.name == b.name)=false:=by simpa using h1
      simp [y1b.r1,y5p,h1',hw,h1]
  refine AX.pcond rfl (fun h1=>?_) (fun h1=>AX.skip ?_)
  · subst h1
    have hw:=of_decide_eq_true hw.symm
    have:a≠b:=fun e=>by subst e;simp at hw
    apply jA
    simp [y1b.r2]
    apply jD
    simp [this]
  subst h1
  have hw:=of_decide_eq_false hw.symm
  have hw1:a.name=b.name:=Classical.byContradiction fun h=>hw (.inl h)
  have hw2:a.kinds=b.kinds:=Classical.byContradiction fun h=>hw (.inr (.inl h))
  have hw3:a.marks.length=b.marks.length:=Classical.byContradiction fun h=>hw (.inr (.inr h))
  simp
  apply jB
  simp [y1b.r3]
  refine AX.pblock (AX.loop (SoI0 a b H) a.marks.length ⟨_,_,.refl _ _,0,by omega,by omega,by simp,rfl,by simp [y5p]⟩ ?_)
  rintro m F Y ⟨k,hk,rfl,hf,rfl,rfl⟩
  simp only [y1b.l0]
  refine AX.seq (AX.seq (AX.join (F1:=[(2,.fp (y5p a) 0),(3,.fp (y5p b) 0),(5,.i .i64 k),(38,.b (decide (k<a.marks.length)))]) (H1:=Y) (AX.reg ?_) ?_))
  · by_cases h1:k<a.marks.length
    · have:k<b.marks.length:=by omega
      simp [y1b.r4,y5p,h1,this]
    · simp [y1b.r4,y5p,h1]
  refine AX.pcond rfl (fun hd=>AX.skip ?_) (fun hd=>AX.exit ?_)
  · simp at hd
    have hg:a.marks[k]?=some a.marks[k]:=List.getElem?_eq_getElem hd
    have hd2:k<b.marks.length:=by omega
    have hg2:b.marks[k]?=some b.marks[k]:=List.getElem?_eq_getElem hd2
    have e1:a.marks[k]=b.marks[k]→a.marks.take (k+1)=b.marks.take (k+1):=fun e=>by rw [List.take_add_one,List.take_add_one,hg,hg2,hf,e]
    have e2:a=b→a.marks[k]=b.marks[k]:=fun e=>by subst e;rfl
    generalize a.marks[k]=q1 at *
    generalize b.marks[k]=q2 at *
    simp
    refine AX.seq (AX.pblock (AX.seq (AX.drw ?_)))
    simp [y1b.r5,y5p,hg,hg2,ybe,mk_eq]
    refine AX.pcond rfl (fun hb=>?_) (fun hb=>AX.skip ?_)
    · simp at hb
      have:a≠b:=fun e=>hb (e2 e)
      apply jA
      simp [y1b.r6]
      apply jD
      simp [this]
    simp at hb
    simp
    apply jE
    simp [y1b.r7,y5n (i:=k) (by omega)]
    exact ⟨a.marks.length-(k+1),by omega,_,_,.refl _ _,k+1,by omega,rfl,e1 hb,rfl,by simp [y5p]⟩
  simp at hd
  rw [List.take_of_length_le hd,List.take_of_length_le (by omega)] at hf
  have hab:a=b:=by
    obtain ⟨x1,x2,x3⟩:=a
    obtain ⟨y1,y2,y3⟩:=b
    simp at hw1 hw2 hf
    subst hw1;subst hw2;subst hf;rfl
  simp
  apply jA
  simp [y1b.r8]
  apply jD
  simp [hab]
def SsI0 (a b:Sy) (H:Hp) (m:Nat) (F:Fr) (X:Hp):Prop:=
  ∃k,k≤a.objs.length∧m=a.objs.length-k∧a.objs.take k=b.objs.take k∧X=H∧F=[(2,.fp (y6g a) 0),(3,.fp (y6g b) 0),(5,.i .i64 k)]
def SsI1 (a b:Sy) (H:Hp) (m:Nat) (F:Fr) (X:Hp):Prop:=
  ∃k,k≤a.fns.length∧m=a.fns.length-k∧a.fns.take k=b.fns.take k∧X=H∧F=[(2,.fp (y6g a) 0),(3,.fp (y6g b) 0),(6,.i .i64 k)]
def SsI2 (a b:Sy) (H:Hp) (m:Nat) (F:Fr) (X:Hp):Prop:=
  ∃k,k≤a.cons.length∧m=a.cons.length-k∧a.cons.take k=b.cons.take k∧X=H∧F=[(2,.fp (y6g a) 0),(3,.fp (y6g b) 0),(7,.i .i64 k)]
theorem yqx (a b:Sy) (ha:syS a) (hb:syS b) (H:Hp):AC Tryz.prog ybj [.agg (y6g a),.agg (y6g b)] H (fun v H'=>v=.b (decide (a=b))∧H'=H):=by
  obtain ⟨a1,a2,a3,ao,af,ac⟩:=ha
  obtain ⟨b1,b2,b3,bo,bf,bc⟩:=hb
  refine AC.code yj.at yj.ok ?_
  simp only [yj]
  apply jA
  simp [yj.r0,y6g]
  obtain ⟨w,hw⟩:∃w:Bool,w=decide (a.objs.length≠b.objs.length∨a.fns.length≠b.fns.length∨a.cons.length≠b.cons.length):=⟨_,rfl⟩
  refine AX.seq (AX.seq (AX.join (F1:=[(2,.fp (y6g a) 0),(3,.fp (y6g b) 0),(32,.b w)]) (H1:=H) (AX.reg ?_) ?_))
  · by_cases h1:a.objs.length=b.objs.length
    · by_cases h2:a.fns.length=b.fns.length
      · simp [yj.r1,y6g,h1,h2,hw]
        try omega
      · have h2':¬(a.fns.length:Int)=b.fns.length:=by omega
        simp [yj.r1,y6g,h1,h2',hw,h2]
    · have h1':¬(a.objs.length:Int)=b.objs.length:=by omega
      simp [yj.r1,y6g,h1',hw,h1]
  refine AX.pcond rfl (fun h1=>?_) (fun h1=>AX.skip ?_)
  · subst h1
    have hw:=of_decide_eq_true hw.symm
    have:a≠b:=fun e=>by subst e;simp at hw
    apply jA
    simp [yj.r2]
    apply jD
    simp [this]
  subst h1
  have hw:=of_decide_eq_false hw.symm
  have hw1:a.objs.length=b.objs.length:=Classical.byContradiction fun h=>hw (.inl h)
  have hw2:a.fns.length=b.fns.length:=Classical.byContradiction fun h=>hw (.inr (.inl h))
  have hw3:a.cons.length=b.cons.length:=Classical.byContradiction fun h=>hw (.inr (.inr h))
  simp
  apply jB
  simp [yj.r3]
  refine AX.pblock (AX.loop (SsI0 a b H) a.objs.length ⟨_,_,.refl _ _,0,by omega,by omega,by simp,rfl,by simp [y6g]⟩ ?_)
  rintro m F Y0 ⟨k0,hk0,rfl,hf0,hY0,rfl⟩
  obtain rfl:=hY0.symm
  simp only [yj.l0]
  apply jB
  simp [yj.r4,y6g]
  refine AX.pcond rfl (fun hd=>AX.skip ?_) (fun hd=>AX.exit ?_)
  · simp at hd
    have hg:a.objs[k0]?=some a.objs[k0]:=List.getElem?_eq_getElem hd
    have hd2:k0<b.objs.length:=by omega
    have hg2:b.objs[k0]?=some b.objs[k0]:=List.getElem?_eq_getElem hd2
    have e1:a.objs[k0]=b.objs[k0]→a.objs.take (k0+1)=b.objs.take (k0+1):=fun e=>by rw [List.take_add_one,List.take_add_one,hg,hg2,hf0,e]
    have e2:a=b→a.objs[k0]=b.objs[k0]:=fun e=>by subst e;rfl
    have s1:=ao _ (List.getElem_mem hd)
    have s2:=bo _ (List.getElem_mem hd2)
    generalize a.objs[k0]=q1 at *
    generalize b.objs[k0]=q2 at *
    simp
    refine AX.seq (AX.pblock (AX.seq (AX.drw ?_)))
    have hob1:(y5p q1).length=3:=rfl
    have hob2:(y5p q2).length=3:=rfl
    have ht1:(y5p q1).take 3=y5p q1:=rfl
    have ht2:(y5p q2).take 3=y5p q2:=rfl
    simp [yj.r5,y6g,hg,hg2,hob1,hob2,ht1,ht2]
    refine y4y _ (fun H2=>yok q1 q2 s1.2.2.1 s2.2.2.1 H2) ?_
    simp
    refine AX.pcond rfl (fun hb=>?_) (fun hb=>AX.skip ?_)
    · simp [yk7] at hb
      have:a≠b:=fun e=>hb (e2 e)
      apply jA
      simp [yj.r6]
      apply jD
      simp [this]
    simp [yk7] at hb
    simp
    apply jE
    simp [yj.r7,y5n (i:=k0) (by omega)]
    exact ⟨a.objs.length-(k0+1),by omega,_,_,.refl _ _,k0+1,by omega,rfl,e1 hb,rfl,by simp [y6g]⟩
  simp at hd
  rw [List.take_of_length_le hd,List.take_of_length_le (by omega)] at hf0
  simp
  apply jB
  simp [yj.r8]
  refine AX.pblock (AX.loop (SsI1 a b H) a.fns.length ⟨_,_,.refl _ _,0,by omega,by omega,by simp,rfl,by simp [y6g]⟩ ?_)
  rintro m F Y1 ⟨k1,hk1,rfl,hf1,hY1,rfl⟩
  obtain rfl:=hY1.symm
  simp only [yj.l1]
  apply jB
  simp [yj.r9,y6g]
  refine AX.pcond rfl (fun hd=>AX.skip ?_) (fun hd=>AX.exit ?_)
  · simp at hd
    have hg:a.fns[k1]?=some a.fns[k1]:=List.getElem?_eq_getElem hd
    have hd2:k1<b.fns.length:=by omega
    have hg2:b.fns[k1]?=some b.fns[k1]:=List.getElem?_eq_getElem hd2
    have e1:a.fns[k1]=b.fns[k1]→a.fns.take (k1+1)=b.fns.take (k1+1):=fun e=>by rw [List.take_add_one,List.take_add_one,hg,hg2,hf1,e]
    have e2:a=b→a.fns[k1]=b.fns[k1]:=fun e=>by subst e;rfl
    have s1:=af _ (List.getElem_mem hd)
    have s2:=bf _ (List.getElem_mem hd2)
    generalize a.fns[k1]=q1 at *
    generalize b.fns[k1]=q2 at *
    simp
    refine AX.seq (AX.pblock (AX.seq (AX.drw ?_)))
    have hfq:=fu_eq q1 q2
    have hob1:(ya5 q1).length=3:=rfl
    have hob2:(ya5 q2).length=3:=rfl
    have ht1:(ya5 q1).take 3=ya5 q1:=rfl
    have ht2:(ya5 q2).take 3=ya5 q2:=rfl
    simp [yj.r10,y6g,hg,hg2,hob1,hob2,ht1,ht2,hfq]
    refine AX.pcond rfl (fun hb=>?_) (fun hb=>AX.skip ?_)
    · simp [yk7] at hb
      have:a≠b:=fun e=>hb (e2 e)
      apply jA
      simp [yj.r11]
      apply jD
      simp [this]
    simp [yk7] at hb
    simp
    apply jE
    simp [yj.r12,y5n (i:=k1) (by omega)]
    exact ⟨a.fns.length-(k1+1),by omega,_,_,.refl _ _,k1+1,by omega,rfl,e1 hb,rfl,by simp [y6g]⟩
  simp at hd
  rw [List.take_of_length_le hd,List.take_of_length_le (by omega)] at hf1
  simp
  apply jB
  simp [yj.r13]
  refine AX.pblock (AX.loop (SsI2 a b H) a.cons.length ⟨_,_,.refl _ _,0,by omega,by omega,by simp,rfl,by simp [y6g]⟩ ?_)
  rintro m F Y2 ⟨k2,hk2,rfl,hf2,hY2,rfl⟩
  obtain rfl:=hY2.symm
  simp only [yj.l2]
  apply jB
  simp [yj.r14,y6g]
  refine AX.pcond rfl (fun hd=>AX.skip ?_) (fun hd=>AX.exit ?_)
  · simp at hd
    have hg:a.cons[k2]?=some a.cons[k2]:=List.getElem?_eq_getElem hd
    have hd2:k2<b.cons.length:=by omega
    have hg2:b.cons[k2]?=some b.cons[k2]:=List.getElem?_eq_getElem hd2
    have e1:a.cons[k2]=b.cons[k2]→a.cons.take (k2+1)=b.cons.take (k2+1):=fun e=>by rw [List.take_add_one,List.take_add_one,hg,hg2,hf2,e]
    have e2:a=b→a.cons[k2]=b.cons[k2]:=fun e=>by subst e;rfl
    have s1:=ac _ (List.getElem_mem hd)
    have s2:=bc _ (List.getElem_mem hd2)
    generalize a.cons[k2]=q1 at *
    generalize b.cons[k2]=q2 at *
    simp
    refine AX.seq (AX.pblock (AX.seq (AX.drw ?_)))
    have hob1:(y5y q1).length=6:=rfl
    have hob2:(y5y q2).length=6:=rfl
    have ht1:(y5y q1).take 6=y5y q1:=rfl
    have ht2:(y5y q2).take 6=y5y q2:=rfl
    simp [yj.r15,y6g,hg,hg2,hob1,hob2,ht1,ht2]
    refine y4y _ (fun H2=>yj6 q1 q2 s1.2.2.2.1 (Nat.le_trans s2.2.2.2.1 (by decide)) H2) ?_
    simp
    refine AX.pcond rfl (fun hb=>?_) (fun hb=>AX.skip ?_)
    · simp [yk7] at hb
      have:a≠b:=fun e=>hb (e2 e)
      apply jA
      simp [yj.r16]
      apply jD
      simp [this]
    simp [yk7] at hb
    simp
    apply jE
    simp [yj.r17,y5n (i:=k2) (by omega)]
    exact ⟨a.cons.length-(k2+1),by omega,_,_,.refl _ _,k2+1,by omega,rfl,e1 hb,rfl,by simp [y6g]⟩
  simp at hd
  rw [List.take_of_length_le hd,List.take_of_length_le (by omega)] at hf2
  simp
  have hab:a=b:=by
    obtain ⟨x1,x2,x3⟩:=a
    obtain ⟨y1,y2,y3⟩:=b
    simp at hf0 hf1 hf2
    subst hf0;subst hf1;subst hf2;rfl
  apply jA
  simp [yj.r18]
  apply jD
  simp [hab]
theorem yh4 (a b:Su) (ha:suS a) (hb:suS b) (H:Hp):AC Tryz.prog y8l [.agg (y5u a),.agg (y5u b)] H (fun v H'=>v=.b (decide (a=b))∧H'=H):=by
  obtain ⟨a1,a2,a3,a4,a5,a6⟩:=ha
  obtain ⟨b1,b2,b3,b4,b5,b6⟩:=hb
  have hs:=fun H2=>yqx a.sys b.sys a6 b6 H2
  simp only [y6g] at hs
  obtain ⟨an,ag,aw,ak,ays⟩:=a
  obtain ⟨bn,bg,bw,bk,bys⟩:=b
  simp only at *
  refine AC.code y4j.at y4j.ok ?_
  simp only [y4j]
  apply jA
  simp [y4j.r0,y5u]
  apply jA
  by_cases h1:an=bn
  case neg=>
    have h1':(an == bn)=false:=by simpa using h1
    simp [y4j.r1,h1',h1]
    apply jD
    simp
  subst h1
  simp [y4j.r1]
  refine AC.fix (yoh ag bg (by show ag.length≤9223372036854775807;omega) H) ?_
  by_cases h2:ag=bg
  case neg=>
    simp [h2]
    apply jD
    simp
  subst h2
  simp
  refine AC.fix (yoh aw bw (by show aw.length≤9223372036854775807;omega) H) ?_
  by_cases h3:aw=bw
  case neg=>
    simp [h3]
    apply jD
    simp
  subst h3
  simp
  refine AC.fix (yoh ak bk (by show ak.length≤9223372036854775807;omega) H) ?_
  by_cases h4:ak=bk
  case neg=>
    simp [h4]
    apply jD
    simp
  subst h4
  simp
  refine AC.fix (hs H) ?_
  simp
  apply jD
  simp
theorem ys4 (s:Su):setAll [V.s [],V.sl none 0 0,V.sl none 0 0,V.sl none 0 0,V.sl none 0 0,V.sl none 0 0,V.sl none 0 0] 0 (y5u s)=y5u s:=ydm (by simp [y5u])
theorem su_cv (s:Su):y7e (.agg (y5u s))=some (y5u s):=by simp [y5u,ss]
theorem yg0 (s:Su):(y5u s).length=7:=rfl
theorem su_ne (s:Su):y5u s≠[]:=by simp [y5u]
theorem ydk (s:Su):(y5u s).take 7=y5u s:=rfl
theorem yq1 (H:Hp):AC Tryz.prog yay [] H (fun v H'=>v=.b true∧H'=H):=by
  refine AC.codeP y37.at y37.ok (ypj _) fun hlt=>?_
  simp only [y37]
  apply jA
  simp [y37.r0]
  apply jA
  simp [y37.r1]
  refine AC.fix (ygj suA suA_h.1 H) ?_
  simp
  obtain ⟨h1,h2,h3⟩:=suA_enc
  have hd:=yl1 suA_h h1
  rw [h1]
  generalize (yhh suA).1=b at *
  apply jA
  simp [y37.r2]
  refine AC.fix (yh3 b (by omega) H) ?_
  rw [hd]
  simp [-y7e,su_cv,yg0,su_ne,yl9,ys4]
  apply jA
  have hb:(b.length:Int)=20:=by omega
  simp [y37.r3,h2,h3,hb,y5u,suA]
  apply jD
  simp
  exact ⟨.add hlt _,.refl _⟩
theorem dec_size (b:Str):suS (yhs b).1:=by
  by_cases h:(yhs b).2=0
  · exact (ytw h).2.1.1
  · rw [ytz h]
    exact ⟨by simp [su0],by simp [su0],by simp [su0],by simp [su0],by simp [su0],by simp [su0],by simp [su0],by simp [su0],by simp [su0],by simp [su0],by simp [su0]⟩
theorem enc_inj {a c:Su} (ha:suH a) (hc:suH c) (ea:(yhh a).2=0) (ec:(yhh c).2=0):decide ((yhh a).1=(yhh c).1)=decide (a=c):=by
  have h1:=yl1 ha ea
  have h2:=yl1 hc ec
  refine decide_eq_decide.2 ⟨fun e=>?_,fun e=>by rw [e]⟩
  rw [e,h2] at h1
  injection h1 with h1 _
  exact h1.symm
set_option maxHeartbeats 1000000 in
theorem yjm (a c:Su) (b:Str) (ha:suZ a) (hc:suZ c) (hb:b.length≤140737488351232) (H:Hp):AC Tryz.prog y8h [.agg (y5u a),.agg (y5u c),.s b] H (fun v H'=>v=.b true∧H'=H):=by
  refine AC.codeP ya.at ya.ok (ypj _) fun hlt=>?_
  simp only [ya]
  apply jA
  simp [-y7e,su_cv,ya.r0]
  apply jB
  simp [ya.r1]
  refine AC.fix (yq1 H) ?_
  simp
  refine jF rfl (AX.skip ?_)
  simp
  refine AX.seq (AX.seq (AX.mono (Q:=y82.then (fun F X=>X=H∧∃w:Bool,F=[(2,.s b),(3,.fp (y5u a) 0),(4,.fp (y5u c) 0),(29,.b w)]∧(w=false→suH a∧suH c∧b.length≤8000)) fun _ _ _=>False) (AX.reg ?_) ?_))
  · simp [ya.r3,yg0,ydk]
    refine (yj2 a ha H).mono ?_
    rintro _ H' ⟨⟨b1,rfl,hb1⟩,hH⟩
    obtain rfl:=hH.symm
    cases b1 with
    | true=>simp
    | false=>
    simp [yg0,ydk]
    refine (yj2 c hc H).mono ?_
    rintro _ H' ⟨⟨b2,rfl,hb2⟩,hH⟩
    obtain rfl:=hH.symm
    cases b2 with
    | true=>simp
    | false=>
    simp [hb1 rfl,hb2 rfl]
    omega
  intro x F X hx
  cases x with
  | exit k=>exact hx.elim
  | ret=>exact hx.elim
  | normal=>
  obtain ⟨hX,w,rfl,hw⟩:=hx
  obtain rfl:=hX.symm
  simp only [y82.then]
  cases w with
  | true=>
    refine jG rfl (jA ?_)
    simp [ya.r4]
    apply jD
    simp
    exact ⟨.refl _,.refl _⟩
  | false=>
  refine jF rfl (AX.skip ?_)
  simp
  obtain ⟨ha,hc,hbl⟩:=hw rfl
  apply jA
  simp [ya.r5,yg0,ydk]
  refine AC.fix (ygj a ha.1 _) ?_
  simp
  apply jA
  simp [ya.r6,yg0,ydk]
  refine AC.fix (ygj c hc.1 _) ?_
  simp
  have hda:=yl1 ha
  have hin:=enc_inj ha hc
  obtain ⟨A,hA⟩:∃A,A=yhh a:=⟨_,rfl⟩
  obtain ⟨C,hC⟩:∃C,C=yhh c:=⟨_,rfl⟩
  have hAl:A.2=0→A.1.length≤200000:=fun h=>by
    have:=hda (by rw [←hA];exact h)
    rw [←hA] at this
    by_cases h2:200000<A.1.length
    · unfold yhs at this;rw [if_pos h2] at this;injection this with _ h3;cases h3
    · omega
  rw [←hA] at hda hin ⊢
  rw [←hC] at hin ⊢
  clear hA hC
  obtain ⟨a1,a2⟩:=A
  obtain ⟨c1,c2⟩:=C
  simp only at *
  refine AX.seq (AX.mono (Q:=y82.then (fun F X=>F=[(2,.s b),(3,.fp (y5u a) 0),(4,.fp (y5u c) 0),(7,.s a1),(8,.i .i64 a2),(9,.s c1),(10,.i .i64 c2)]∧H.Ext X∧(∀k blk,X.get k=some blk→k<X.next)) fun _ _ _=>False) (jA ?_) ?_)
  · simp [ya.r7]
    by_cases h1:a2=0
    case neg=>
      refine jF (by simp [h1]) (AX.skip ?_)
      simp
      exact ⟨.refl _,hlt⟩
    refine jG (by simp [h1]) (jA ?_)
    simp [ya.r8]
    have hAl:=hAl h1
    refine AC.fix (yh3 a1 (by omega) _) ?_
    rw [hda h1]
    simp [-y7e,su_cv,yg0,su_ne,yl9,ys4]
    have N1:=Nb.new hlt (.cells (y5u a) 7)
    generalize H.add (.cells (y5u a) 7)=X at *
    generalize H.next=i1 at *
    apply jA
    simp [ya.r9,N1.get,yg0,ydk]
    refine AC.fix (yh4 a a ha.1.1 ha.1.1 X) ?_
    simp
    refine jF rfl (AX.skip ?_)
    simp
    exact ⟨N1.ext,N1.lt⟩
  intro x F X hx
  cases x with
  | exit k=>exact hx.elim
  | ret=>exact hx.elim
  | normal=>
  obtain ⟨rfl,E1,L1⟩:=hx
  simp only [y82.then]
  refine AX.seq (AX.seq (AX.join (F1:=[(2,.s b),(69,.b false)]) (H1:=X) (AX.reg ?_) ?_))
  · by_cases h1:a2=0
    · by_cases h2:c2=0
      · simp [ya.r11,h1,h2,yg0,ydk]
        refine AC.fix (yh4 a c ha.1.1 hc.1.1 X) ?_
        have:=hin h1 h2
        simp
        by_cases h3:a=c
        · have h4:a1=c1:=by rw [decide_eq_decide] at this;exact this.2 h3
          simp [h3,h4]
        · have h4:¬a1=c1:=fun h=>by rw [decide_eq_decide] at this;exact h3 (this.1 h)
          have h4':(a1 == c1)=false:=by simpa using h4
          simp [h3,h4,h4']
      · simp [ya.r11,h1,h2]
    · simp [ya.r11,h1]
  refine jF rfl (AX.skip ?_)
  simp
  clear hda hin hAl
  apply jA
  simp [ya.r13]
  refine AC.fix (yh3 b (by omega) _) ?_
  have hz:=dec_size b
  have hg:=ytw (b:=b)
  have hn:=ytz (b:=b)
  obtain ⟨D,hD⟩:∃D,D=yhs b:=⟨_,rfl⟩
  rw [←hD] at hz hg hn ⊢
  clear hD
  obtain ⟨s,f⟩:=D
  simp only at hz hg hn
  simp [-y7e,su_cv,yg0,su_ne,yl9,ys4]
  have N1:=Nb.new L1 (.cells (y5u s) 7)
  generalize X.add (.cells (y5u s) 7)=Y at *
  generalize X.next=i1 at *
  have g1:=N1.get
  apply jB
  simp [ya.r14]
  by_cases h1:f=0
  case neg=>
    have hs0:=hn h1
    subst hs0
    refine jG (by simp [h1]) (jA ?_)
    have e0:V.agg [.s [],.fs [],.fs [],.fs [],.fs [],.fs [],.fs []]=.agg (y5u su0):=by simp [y5u,su0,ss]
    simp [ya.r15,g1,ydk,e0]
    refine AC.fix (yh4 su0 su0 hz hz Y) ?_
    simp
    apply jD
    simp
    exact ⟨E1.trans N1.ext,.refl _⟩
  refine jF (by simp [h1]) (AX.skip ?_)
  simp
  obtain ⟨he,hsf,hse⟩:=hg h1
  apply jA
  simp [ya.r16,g1,ydk]
  refine AC.fix (ygj s hsf _) ?_
  rw [he]
  simp
  apply jA
  simp [ya.r17,g1,ydk]
  refine AC.fix (yn1 s hz _) ?_
  rw [hse]
  simp
  apply jD
  simp
  exact ⟨E1.trans N1.ext,.refl _⟩
end Go.Proofs.YthmkcebbeehbeaaGreatDoor
