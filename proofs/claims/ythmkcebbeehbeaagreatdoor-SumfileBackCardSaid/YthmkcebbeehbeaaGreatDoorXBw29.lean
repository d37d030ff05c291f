/- Part 29 of the proof of the laws of the queries: S15e, S15f, S15g, S15h, S37c, S37b, SyM. -/
import Derived.Test.YthmkcebbeehbeaaGreatDoorXBw28
set_option linter.unusedSimpArgs false
set_option linter.unusedVariables false
namespace Go.Proofs.YthmkcebbeehbeaaGreatDoor
open Am C
def yqd (n:Nat) (l:List Mk) (m:Mk):Bool:=decide (0≤m.pos)&&decide (m.pos<n)&&ylm m.tag&&decide (∀x,l.getLast?=some x→x.pos≤m.pos)
theorem mkB_eq (n:Nat) (l:List Mk) (m:Mk):mkB n l m=(yqd n l m&&decide (m∉l)):=rfl
theorem yma {n:Nat} {ms:List Mk} {i:Nat} (h:i<ms.length):ynr n (ms.take i) (ms.drop i)=(mkB n (ms.take i) ms[i]&&ynr n (ms.take (i+1)) (ms.drop (i+1))):=by
  rw [List.drop_eq_getElem_cons h]
  simp only [ynr]
  rw [List.take_append_getElem h]
theorem mk_eq (q mk:Mk):y7q [0,1] [.i .i64 q.pos,.s q.tag] [.i .i64 mk.pos,.s mk.tag]=some (decide (q=mk)):=by
  have:decide (q=mk)=(decide (q.pos=mk.pos)&&decide (q.tag=mk.tag)):=by
    cases q;cases mk;simp
  rw [this]
  have e1:(q.pos == mk.pos)=decide (q.pos=mk.pos):=rfl
  have e2:(q.tag == mk.tag)=decide (q.tag=mk.tag):=by rw [Bool.eq_iff_iff];simp
  simp only [y7q,ycd,if_true,e1,e2]
  cases decide (q.pos=mk.pos) <;> cases decide (q.tag=mk.tag) <;> rfl
def ObInv (o:Ob) (H:Hp) (m:Nat) (F:Fr) (X:Hp):Prop:=
  ∃i,i≤o.marks.length∧m=o.marks.length-i∧ynr o.kinds.length [] o.marks=ynr o.kinds.length (o.marks.take i) (o.marks.drop i)∧H.Ext X∧(∀id blk,X.get id=some blk→id<X.next)∧F=[(1,.fp (y5p o) 0),(5,.i .i64 i)]
def Ob1Inv (o:Ob) (i:Nat) (mk:Mk) (id:Nat) (Y:Hp) (m:Nat) (F:Fr) (X:Hp):Prop:=
  ∃k,k≤i∧m=i-k∧mk∉o.marks.take k∧X=Y∧F=[(1,.fp (y5p o) 0),(5,.i .i64 i),(6,.p (some (id,0,2))),(7,.i .i64 k)]
theorem yqu (o:Ob) (h1:o.name.length≤9223372036854775807) (h2:o.kinds.length≤9223372036854775807) (h3:o.marks.length≤9223372036854775807) (h4:∀m∈o.marks,m.tag.length≤9223372036854775807) (H:Hp):
    AC Tryz.prog ya9 [.agg (y5p o)] H (fun v H'=>v=.i .i64 (obE o)∧H'=H):=by
  refine AC.codeP yd.at yd.ok (by simp) fun hlt=>?_
  simp only [yd]
  apply jA
  simp [yd.r0,y5p]
  apply jA
  simp [yd.r1]
  refine AC.fix (yev o.name h1 _) ?_
  rw [yg2]
  cases hr:ybv o.name with
  | none=>
    simp [rdV,nv,Nd.cs,Nd.zero]
    apply jB
    simp [yd.r2]
    refine jG rfl ?_
    apply jA
    simp [yd.r3]
    apply jD
    simp [obE,hr]
    exact ⟨ye8 hlt _ _,.refl _⟩
  | some d=>
    simp [rdV,nv,Nd.cs]
    refine AX.seq ?_
    refine AX.test (decide (d.kind<5)||decide (0≤d.cell)) [(1,.fp (y5p o) 0),(25,.b (decide (d.kind<5)||decide (0≤d.cell)))] ?_ rfl (fun hb=>?_) (fun hb=>AX.skip ?_)
    · by_cases k:d.kind<5
      · simp [yd.r2,y5p,k]
      · simp [yd.r2,y5p,k]
    · apply jA
      simp [yd.r3]
      apply jD
      simp at hb
      simp [obE,hr,hb]
      exact ⟨ye8 hlt _ _,.refl _⟩
    simp at hb
    have hb':¬(d.kind<5∨0≤d.cell):=by omega
    have X2:=ye8 hlt (.cells [.i .i64 0,.s [],.i .i64 0,.s [],.i .i64 0,.i .i64 0] 6) (.cells [.i .i64 d.kind,.s d.fn,.i .i64 d.copy,.s d.name,.i .i64 d.n,.i .i64 d.cell] 6)
    have L2:=lt2 hlt (.cells [.i .i64 0,.s [],.i .i64 0,.s [],.i .i64 0,.i .i64 0] 6) (.cells [.i .i64 d.kind,.s d.fn,.i .i64 d.copy,.s d.name,.i .i64 d.n,.i .i64 d.cell] 6)
    generalize (H.add (.cells [.i .i64 0,.s [],.i .i64 0,.s [],.i .i64 0,.i .i64 0] 6)).upd H.next (.cells [.i .i64 d.kind,.s d.fn,.i .i64 d.copy,.s d.name,.i .i64 d.n,.i .i64 d.cell] 6)=X at *
    simp
    apply jB
    simp [yd.r4,y5p]
    refine AC.fix (yj5 o.kinds 1 64 h2 _) ?_
    have eB:(kpB o.kinds&&(decide ((1:Int)≤o.kinds.length)&&decide ((o.kinds.length:Int)≤64)))=decide (kpB o.kinds=true∧1≤o.kinds.length∧o.kinds.length≤64):=by
      rw [Bool.eq_iff_iff];simp
    rw [eB]
    by_cases hk:kpB o.kinds=true∧1≤o.kinds.length∧o.kinds.length≤64
    case neg=>
      simp only [hk,decide_false]
      simp
      refine jG rfl ?_
      apply jA
      simp [yd.r5]
      apply jD
      have:obE o=5:=by unfold obE;rw [hr];simp only;rw [if_neg hb',if_pos hk]
      simp [this]
      exact ⟨X2,.refl _⟩
    have eo:obE o=if ynr o.kinds.length [] o.marks then 0 else 3:=by unfold obE;rw [hr];simp only;rw [if_neg hb',if_neg (Classical.not_not.2 hk)]
    simp only [hk,decide_true]
    simp
    refine jF rfl (AX.skip ?_)
    simp
    apply jB
    simp [yd.r6]
    refine AX.pblock (AX.loop (ObInv o H) o.marks.length ⟨_,_,.refl _ _,0,by omega,by omega,rfl,X2,L2,by simp [y5p]⟩ ?_)
    rintro m F Y ⟨i,hi,rfl,hm,X3,L3,rfl⟩
    simp only [yd.l0]
    apply jB
    simp [yd.r7,y5p]
    refine AX.pcond rfl (fun hc=>AX.skip ?_) (fun hc=>AX.exit ?_)
    case refine_2=>
      simp at hc
      rw [List.drop_eq_nil_of_le hc] at hm
      simp only [ynr] at hm
      simp
      apply jA
      simp [yd.r17]
      apply jD
      simp [eo,hm]
      exact ⟨X3,.refl _⟩
    simp at hc
    rw [yma hc,mkB_eq] at hm
    simp
    have hmt:=h4 _ (List.getElem_mem hc)
    generalize hmk:o.marks[i]=mk at *
    have hg:o.marks[i]?=some mk:=by rw [List.getElem?_eq_getElem hc,hmk]
    apply jC
    simp [yd.r8,hg,ybe]
    have X4:=X3.trans (ye8 L3 (.cells [.i .i64 0,.s []] 2) (.cells [.i .i64 mk.pos,.s mk.tag] 2))
    have L4:=lt2 L3 (.cells [.i .i64 0,.s []] 2) (.cells [.i .i64 mk.pos,.s mk.tag] 2)
    have G4:((Y.add (.cells [.i .i64 0,.s []] 2)).upd Y.next (.cells [.i .i64 mk.pos,.s mk.tag] 2)).get Y.next=some (.cells [.i .i64 mk.pos,.s mk.tag] 2):=by simp
    generalize (Y.add (.cells [.i .i64 0,.s []] 2)).upd Y.next (.cells [.i .i64 mk.pos,.s mk.tag] 2)=Z at *
    generalize Y.next=id at *
    refine AX.seq ?_
    refine AX.testD (!yqd o.kinds.length (o.marks.take i) mk) [(1,.fp (y5p o) 0),(5,.i .i64 i),(6,.p (some (id,0,2))),(80,.b (!yqd o.kinds.length (o.marks.take i) mk))] ?_ rfl (fun hb=>?_) (fun hb=>AX.skip ?_)
    · by_cases c1:mk.pos<0
      · simp [yd.r9,y5p,G4,c1,yqd,show ¬0≤mk.pos by omega]
      by_cases c2:(o.kinds.length:Int)≤mk.pos
      · simp [yd.r9,y5p,G4,c1,c2,yqd,show ¬mk.pos<o.kinds.length by omega]
      by_cases c3:mk.tag.length<1
      · simp [yd.r9,y5p,G4,c1,c2,c3,yqd,ylm,show ¬1≤mk.tag.length by omega]
      by_cases c4:60<mk.tag.length
      · simp [yd.r9,y5p,G4,c1,c2,c3,c4,yqd,ylm,show ¬mk.tag.length≤60 by omega]
      have t0:yqd o.kinds.length (o.marks.take i) mk=decide (∀x,(o.marks.take i).getLast?=some x→x.pos≤mk.pos):=by
        unfold yqd ylm
        rw [decide_eq_true (show 0≤mk.pos by omega),decide_eq_true (show mk.pos<o.kinds.length by omega),decide_eq_true (show 1≤mk.tag.length by omega),decide_eq_true (show mk.tag.length≤60 by omega)]
        simp
      cases i with
      | zero=>
        have t00:yqd o.kinds.length [] mk=true:=by simpa using t0
        simp [yd.r9,y5p,G4,c1,c2,c3,c4,t00]
      | succ j=>
        have hj:j<o.marks.length:=by omega
        have t1:yqd o.kinds.length (o.marks.take (j+1)) mk=decide (o.marks[j].pos≤mk.pos):=by
          rw [t0]
          have:(o.marks.take (j+1)).getLast?=some o.marks[j]:=by
            rw [List.getLast?_eq_getElem?,List.length_take,Nat.min_eq_left (by omega)]
            simp [List.getElem?_take,hj]
          simp [this]
        have hgj:o.marks[j]?=some o.marks[j]:=List.getElem?_eq_getElem hj
        generalize o.marks[j]=pm at *
        have hwj:IntKind.i64.wrap (j:Int)=(j:Int):=y3g (by omega) (by omega)
        by_cases c5:mk.pos<pm.pos
        · simp [yd.r9,y5p,G4,c1,c2,c3,c4,t1,hgj,ybe,c5,hwj,show ¬pm.pos≤mk.pos by omega]
        · simp [yd.r9,y5p,G4,c1,c2,c3,c4,t1,hgj,ybe,c5,hwj,show pm.pos≤mk.pos by omega]
    · apply jA
      simp [yd.r10]
      apply jD
      simp at hb
      simp [eo,hm,hb]
      exact ⟨X4,.refl _⟩
    simp at hb
    simp
    apply jA
    simp [yd.r11]
    refine AX.pblock (AX.loop (Ob1Inv o i mk id Z) i ⟨_,_,.refl _ _,0,by omega,by omega,by simp,rfl,by simp [y5p]⟩ ?_)
    rintro m F X' ⟨k,hk2,rfl,hnk,rfl,rfl⟩
    simp only [yd.l1]
    apply jB
    simp [yd.r12]
    refine AX.pcond rfl (fun hd=>AX.skip ?_) (fun hd=>AX.exit ?_)
    case refine_2=>
      simp at hd
      have:k=i:=by omega
      subst this
      simp
      apply jE
      simp [yd.r16,y3q hc h3]
      refine ⟨o.marks.length-(k+1),by omega,_,_,.refl _ _,k+1,by omega,rfl,?_,X4,L4,by simp [y5p]⟩
      rw [hm,hb];simp [hnk]
    simp at hd
    simp
    have hk3:k<o.marks.length:=by omega
    have hgk:o.marks[k]?=some o.marks[k]:=List.getElem?_eq_getElem hk3
    have htk:o.marks.take (k+1)=o.marks.take k++[o.marks[k]]:=by rw [List.take_add_one,hgk];rfl
    generalize hmq:o.marks[k]=q at *
    refine AX.seq (AX.pblock ?_)
    refine AX.testD (decide (q=mk)) [(1,.fp (y5p o) 0),(5,.i .i64 i),(6,.p (some (id,0,2))),(7,.i .i64 k),(92,.b (decide (q=mk)))] ?_ rfl (fun hb2=>?_) (fun hb2=>AX.skip ?_)
    · simp [yd.r13,y5p,G4,hgk,ybe]
      rw [mk_eq]
      simp [y5p,ybe]
    · simp at hb2
      apply jA
      simp [yd.r14]
      apply jD
      have:mk∈o.marks.take i:=List.mem_of_getElem? (i:=k) (by rw [List.getElem?_take,if_pos hd,hgk,hb2])
      simp [eo,hm,this]
      exact ⟨X4,.refl _⟩
    simp at hb2
    simp
    apply jE
    simp [yd.r15,y3q hd (show i≤9223372036854775807 by omega)]
    refine ⟨i-(k+1),by omega,_,_,.refl _ _,k+1,by omega,rfl,?_,rfl,by simp [y5p]⟩
    rw [htk]
    simp [hnk]
    exact fun h=>hb2 h.symm
def zi (l:List Int):List (List V):=l.map fun x=>[V.i .i64 x]
def yjb:List Str→List Str→List Int
  | a::r,b::q=>ybo a b::yjb r q
  | _,_=>[]
theorem ydc (x:List Int) (y:List Int):orI (x++y)=if orI x≠0 then orI x else orI y:=by
  induction x with
  | nil=>simp [orI]
  | cons a r ih=>
    by_cases h:a=0
    · simp [orI,h,ih]
    · simp [orI,h]
theorem yss:∀(a b:List Str),orI (yjb a b++[yfe a.length b.length])=yk6 a b
  | [],b=>by
    simp only [yjb,yk6,orI,List.nil_append,yfe,cmpN]
    cases b <;> simp
  | a::r,[]=>by
    have:¬((r.length:Int)+1<0):=by omega
    have h2:¬((r.length:Int)+1=0):=by omega
    simp [yjb,yk6,orI,yfe,this,h2]
  | a::r,b::q=>by
    have ih:=yss r q
    have e:yfe ((a::r).length:Nat) ((b::q).length:Nat)=yfe r.length q.length:=by
      unfold yfe;simp
    simp only [yjb,List.cons_append,orI,yk6,e,ih]
def cmpR (a b:Cn):List Int:=[yfe a.op b.op,ybo a.a b.a,ybo a.b b.b,yfe a.k b.k,ybo a.tag b.tag]++yjb a.args b.args++[yfe a.args.length b.args.length]
theorem cmpR_eq (a b:Cn):orI (cmpR a b)=yht a b:=by
  unfold cmpR yht
  rw [List.append_assoc,ydc,yss]
  simp only [orI]
  by_cases h:yk6 a.args b.args=0 <;> simp [h,orI] <;> (repeat' split) <;> simp_all
theorem zi_flat (l:List Int):(zi l).flatten=l.map fun x=>V.i .i64 x:=by
  induction l with
  | nil=>rfl
  | cons a r ih=>simp [zi] at ih ⊢;exact ih
def CmInv (a b:Cn) (c5:List Int) (H:Hp) (m:Nat) (F:Fr) (X:Hp):Prop:=
  ∃i v,i≤a.args.length∧i≤b.args.length∧m=a.args.length-i∧Acc H 1 v X (zi (c5++(yjb a.args b.args).take i))∧F=[(2,.fp (y5y a) 0),(3,.fp (y5y b) 0),(5,v),(6,.i .i64 i)]
theorem yop:∀(a b:List Str),(yjb a b).length=min a.length b.length
  | [],b=>by simp [yjb]
  | a::r,[]=>by simp [yjb]
  | a::r,b::q=>by simp [yjb,yop r q]
theorem yoq:∀{a b:List Str} {i:Nat} (h:i<a.length) (h2:i<b.length),(yjb a b)[i]?=some (ybo a[i] b[i])
  | [],b,i,h,_=>by simp at h
  | a::r,[],i,_,h=>by simp at h
  | a::r,b::q,0,_,_=>by simp [yjb]
  | a::r,b::q,i+1,h,h2=>by
    simp at h h2
    simp [yjb,yoq h h2]
def CmInv1 (R:List Int) (v:V) (X:Hp) (m:Nat) (F:Fr) (Y:Hp):Prop:=
  ∃k,k≤R.length∧m=R.length-k∧orI (R.take k)=0∧Y=X∧F=[(5,v),(7,.i .i64 k)]
theorem yj6 (a b:Cn) (ha:a.args.length≤1000000) (hb:b.args.length≤9223372036854775807) (H:Hp):AC Tryz.prog y8g [.agg (y5y a),.agg (y5y b)] H (fun v H'=>v=.i .i64 (yht a b)∧H'=H):=by
  refine AC.codeP yq.at yq.ok (by simp) fun hlt=>?_
  simp only [yq]
  apply jA
  simp [yq.r0,y5y]
  refine AX.seq (AX.drw ?_)
  simp [yq.r1]
  refine y4y _ (fun H2=>ylc a.op b.op H2) ?_
  simp
  refine y4y _ (fun H2=>yge a.a b.a H2) ?_
  simp
  refine y4y _ (fun H2=>yge a.b b.b H2) ?_
  simp
  refine y4y _ (fun H2=>ylc a.k b.k H2) ?_
  simp
  refine y4y _ (fun H2=>yge a.tag b.tag H2) ?_
  simp [show ydj 5 [V.i .i64 0]=[.i .i64 0,.i .i64 0,.i .i64 0,.i .i64 0,.i .i64 0] from rfl]
  let c5:List Int:=[yfe a.op b.op,ybo a.a b.a,ybo a.b b.b,yfe a.k b.k,ybo a.tag b.tag]
  have A0:Acc H 1 (.sl (some (H.next,0,5)) 5 1) (H.add (.cells [.i .i64 (yfe a.op b.op),.i .i64 (ybo a.a b.a),.i .i64 (ybo a.b b.b),.i .i64 (yfe a.k b.k),.i .i64 (ybo a.tag b.tag)] 5)) (zi (c5++(yjb a.args b.args).take 0)):=
    ⟨Hp.Ext.add hlt _,Hp.add_lt hlt _,fun e he=>by obtain ⟨x,_,rfl⟩:=List.mem_map.1 he;rfl,.inr ⟨H.next,5,Nat.le_refl _,rfl,by simp [zi,c5],by simp [zi,c5]⟩⟩
  have hc5:c5.length=5:=rfl
  have eR:cmpR a b=c5++yjb a.args b.args++[yfe a.args.length b.args.length]:=rfl
  generalize H.add (.cells [.i .i64 (yfe a.op b.op),.i .i64 (ybo a.a b.a),.i .i64 (ybo a.b b.b),.i .i64 (yfe a.k b.k),.i .i64 (ybo a.tag b.tag)] 5)=X0 at *
  generalize V.sl (some (H.next,0,5)) 5 1=v0 at *
  clear_value c5
  apply jB
  simp [yq.r2]
  refine AX.pblock (AX.loop (CmInv a b c5 H) a.args.length ⟨_,_,.refl _ _,0,v0,by omega,by omega,by omega,A0,by simp [y5y]⟩ ?_)
  rintro m F X ⟨i,v,hia,hib,rfl,A,rfl⟩
  simp only [yq.l0]
  have hzl:=yop a.args b.args
  refine AX.seq (AX.test (decide (i<a.args.length)&&decide (i<b.args.length)) [(2,.fp (y5y a) 0),(3,.fp (y5y b) 0),(5,v),(6,.i .i64 i),(45,.b (decide (i<a.args.length)&&decide (i<b.args.length)))] ?_ rfl (fun hc=>AX.skip ?_) (fun hc=>AX.exit ?_))
  · by_cases h1:i<a.args.length
    · simp [yq.r3,y5y,ss,h1]
    · simp [yq.r3,y5y,ss,h1]
  · simp at hc
    obtain ⟨h1,h2⟩:=hc
    simp
    have hz:=yoq h1 h2
    have hA:(zi (c5++(yjb a.args b.args).take (i+1)))=zi (c5++(yjb a.args b.args).take i)++[[V.i .i64 (ybo a.args[i] b.args[i])]]:=by
      rw [List.take_add_one,hz]
      simp [zi]
    obtain ⟨v1,X1,e1,A1⟩:=A.app (bytes:=8) (ys:=[[V.i .i64 (ybo a.args[i] b.args[i])]]) hlt (by simp) (by omega) (by simp) (by simp [zi,ycg,hc5];omega)
    rw [←hA] at A1
    refine AX.seq (AX.pblock (AX.drw ?_))
    simp [yq.r4,y5y,ss,h1,h2]
    refine y4y _ (fun H2=>yge a.args[i] b.args[i] H2) ?_
    simp [ydj,-y56,e1]
    apply jE
    simp [yq.r5,y3q h1 (show a.args.length≤9223372036854775807 by omega)]
    exact ⟨a.args.length-(i+1),by omega,_,_,.refl _ _,i+1,v1,by omega,by omega,rfl,A1,by simp [y5y,ss]⟩
  simp at hc
  have hA:(yjb a.args b.args).take i=yjb a.args b.args:=List.take_of_length_le (by rw [hzl];omega)
  rw [hA] at A
  have hA2:zi (cmpR a b)=zi (c5++yjb a.args b.args)++[[V.i .i64 (yfe a.args.length b.args.length)]]:=by rw [eR];simp [zi]
  obtain ⟨v1,X1,e1,A1⟩:=A.app (bytes:=8) (ys:=[[V.i .i64 (yfe a.args.length b.args.length)]]) hlt (by simp) (by omega) (by simp) (by simp [zi,ycg,hc5,hzl];omega)
  rw [←hA2] at A1
  rw [←cmpR_eq]
  have hRl:(cmpR a b).length≤1000010:=by rw [eR];simp [hc5,hzl];omega
  have hRn:cmpR a b≠[]:=by rw [eR];simp
  generalize cmpR a b=R at *
  simp
  apply jA
  simp [yq.r6,y5y,ss]
  refine AC.fix (ylc a.args.length b.args.length _) ?_
  simp [ydj,-y56,e1]
  apply jB
  simp [yq.r7]
  have hR0:R≠[]:=hRn
  obtain ⟨id,mm,h1,rfl,h2,h3⟩:∃id m,H.next≤id∧v1=.sl (some (id,0,R.length)) R.length 1∧X1.get id=some (.cells (R.map fun x=>V.i .i64 x) m)∧m≤R.length:=by
    have hf:=zi_flat R
    rcases A1.sl with ⟨h,_⟩ | ⟨id,m,h1,h2,h3,h4⟩
    · exact absurd (by simpa [zi] using h) hR0
    · rw [hf] at h2 h3 h4
      exact ⟨id,m,h1,by simpa [zi] using h2,h3,by simpa using h4⟩
  refine AX.pblock (AX.loop (CmInv1 R (.sl (some (id,0,R.length)) R.length 1) X1) R.length ⟨_,_,.refl _ _,0,by omega,by omega,by simp [orI],rfl,rfl⟩ ?_)
  rintro m F Y ⟨k,hk,rfl,ho,rfl,rfl⟩
  simp only [yq.l1]
  apply jB
  simp [yq.r8]
  refine AX.pcond rfl (fun hd=>AX.skip ?_) (fun hd=>AX.exit ?_)
  case refine_2=>
    simp at hd
    rw [List.take_of_length_le hd] at ho
    simp
    apply jA
    simp [yq.r12]
    apply jD
    simp [ho]
    exact ⟨A1.ext,.refl _⟩
  simp at hd
  have hsp:orI R=if R[k]≠0 then R[k] else orI (R.drop (k+1)):=by
    conv=>lhs;rw [←List.take_append_drop k R,List.drop_eq_getElem_cons hd]
    rw [ydc]
    simp [ho,orI]
  have hst:orI (R.take (k+1))=R[k]:=by
    rw [List.take_add_one,List.getElem?_eq_getElem hd,ydc]
    simp [ho,orI]
    exact fun h=>h.symm
  simp
  apply jC
  have hdk:List.take 1 (List.drop k (R.map fun x=>V.i .i64 x))=[V.i .i64 R[k]]:=by
    rw [←List.map_drop,List.drop_eq_getElem_cons hd];rfl
  simp [yq.r9,hd,h2,h3,show k+1≤R.length from hd,hdk]
  refine AX.pcond rfl (fun he=>?_) (fun he=>AX.skip ?_)
  · simp at he
    apply jA
    simp [yq.r10,hd,h2,h3,show k+1≤R.length from hd,hdk]
    apply jD
    simp [hsp,he]
    exact ⟨A1.ext,.refl _⟩
  simp at he
  simp
  apply jE
  simp [yq.r11,y3q hd (show R.length≤9223372036854775807 by omega)]
  exact ⟨R.length-(k+1),by omega,_,_,.refl _ _,k+1,by omega,rfl,by rw [hst,he],rfl,by simp⟩
def obS (o:Ob):Prop:=o.name.length≤140737488355328∧o.kinds.length≤140737488355328∧o.marks.length≤140737488355328∧∀m∈o.marks,m.tag.length≤140737488355328
def fuS (f:Fu):Prop:=f.name.length≤140737488355328∧f.kinds.length≤140737488355328
def cnS (c:Cn):Prop:=c.a.length≤140737488355328∧c.b.length≤140737488355328∧c.tag.length≤140737488355328∧c.args.length≤1000000∧∀a∈c.args,a.length≤140737488355328
def syS (s:Sy):Prop:=s.objs.length≤1000000∧s.fns.length≤1000000∧s.cons.length≤1000000∧(∀o∈s.objs,obS o)∧(∀f∈s.fns,fuS f)∧∀c∈s.cons,cnS c
def pv {α:Type} (l:List α) (i:Nat):Option α:=if i=0 then none else l[i-1]?
def yfb {α:Type} (cmp:α→α→Int) (p:Option α) (x:α):Bool:=match p with
  | some y=>decide (0≤cmp y x)
  | none=>false
theorem yf5 {α:Type} {ask:α→Int} {cmp:α→α→Int} {l:List α} {i:Nat} (h:i<l.length):
    chk ask cmp (pv l i) (l.drop i)=if ask l[i]≠0 then ask l[i] else if yfb cmp (pv l i) l[i] then 13 else chk ask cmp (pv l (i+1)) (l.drop (i+1)):=by
  rw [List.drop_eq_getElem_cons h]
  have:pv l (i+1)=some l[i]:=by simp [pv,h]
  rw [this]
  rfl
theorem yh1 {α:Type} {ask:α→Int} {cmp:α→α→Int} {l:List α} {i:Nat} (h:l.length≤i):chk ask cmp (pv l i) (l.drop i)=0:=by
  rw [List.drop_eq_nil_of_le h]
  cases pv l i <;> rfl
theorem ge_cmp (a b:Str):decide (0≤ybo a b)=!ltB a b:=by
  unfold ybo
  cases h:ltB a b
  · by_cases e:a=b <;> simp [e]
  · simp
def ChInv {α:Type} (ask:α→Int) (cmp:α→α→Int) (l:List α) (s:Sy) (t:Nat) (H:Hp) (m:Nat) (F:Fr) (X:Hp):Prop:=
  ∃i,i≤l.length∧m=l.length-i∧chk ask cmp none l=chk ask cmp (pv l i) (l.drop i)∧X=H∧F=[(1,.fp (y6g s) 0),(t,.i .i64 i)]
theorem or0 (x:Int) (r:List Int) (h:x=0):orI (x::r)=orI r:=by simp [orI,h]
theorem or1 (x:Int) (r:List Int) (h:¬x=0):orI (x::r)=x:=by simp [orI,h]
theorem yuw (s:Sy) (hs:syS s) (H:Hp):AC Tryz.prog yav [.agg (y6g s)] H (fun v H'=>v=.i .i64 (ys3 s)∧H'=H):=by
  obtain ⟨lo,lf,lc,ho,hf,hcn⟩:=hs
  refine AC.code y7.at y7.ok ?_
  simp only [y7]
  apply jA
  simp [y7.r0,y6g]
  refine AX.seq ?_
  refine AX.test (decide (600<s.objs.length)||decide (600<s.fns.length)||decide (6000<s.cons.length)) [(1,.fp (y6g s) 0),(24,.b (decide (600<s.objs.length)||decide (600<s.fns.length)||decide (6000<s.cons.length)))] ?_ rfl (fun hb=>?_) (fun hb=>AX.skip ?_)
  · by_cases h1:600<s.objs.length
    · simp [y7.r1,y6g,h1]
    by_cases h2:600<s.fns.length
    · simp [y7.r1,y6g,h1,h2]
    · simp [y7.r1,y6g,h1,h2]
  · apply jA
    simp [y7.r2]
    apply jD
    simp at hb
    have:600<s.objs.length∨600<s.fns.length∨6000<s.cons.length:=by omega
    simp [ys3,this]
  simp at hb
  have hn:¬(600<s.objs.length∨600<s.fns.length∨6000<s.cons.length):=by omega
  have eS:ys3 s=orI [chk obE yli none s.objs,chk fuE ymp none s.fns,chk cnE yht none s.cons]:=by unfold ys3;rw [if_neg hn]
  rw [eS]
  simp
  apply jB
  simp [y7.r3]
  refine AX.pblock (AX.loop (ChInv obE yli s.objs s 3 H) s.objs.length ⟨_,_,.refl _ _,0,by omega,by omega,rfl,rfl,by simp [y6g]⟩ ?_)
  rintro m F X ⟨i,hi,rfl,hch,hX,rfl⟩
  obtain rfl:=hX.symm
  simp only [y7.l0]
  apply jB
  simp [y7.r4,y6g]
  refine AX.pcond rfl (fun hc=>AX.skip ?_) (fun hc=>AX.exit ?_)
  · simp at hc
    have hx:=ho _ (List.getElem_mem hc)
    rw [yf5 hc] at hch
    have hg:s.objs[i]?=some s.objs[i]:=List.getElem?_eq_getElem hc
    simp
    apply jC
    generalize hxx:s.objs[i]=x at *
    simp [y7.r5,hg,y5p]
    refine AC.fix (yqu x (by have:=hx.1;omega) (by have:=hx.2.1;omega) (by have:=hx.2.2.1;omega) (fun m hm=>by have:=hx.2.2.2 m hm;omega) _) ?_
    simp
    apply jB
    simp [y7.r6]
    refine AX.pcond rfl (fun hd=>?_) (fun hd=>AX.skip ?_)
    · simp at hd
      rw [if_pos hd] at hch
      apply jA
      simp [y7.r7]
      apply jD
      simp
      simp [hch,or1 _ _ hd]
    simp at hd
    rw [if_neg (by simp [hd])] at hch
    simp
    refine AX.testD (yfb yli (pv s.objs i) x) [(1,.fp (y6g s) 0),(3,.i .i64 i),(58,.b (yfb yli (pv s.objs i) x))] ?_ rfl (fun he=>?_) (fun he=>AX.skip ?_)
    · cases i with
      | zero=>simp [y7.r8,y6g,pv,yfb]
      | succ j=>
        have hj:s.objs[j]?=some s.objs[j]:=List.getElem?_eq_getElem (by omega)
        have hwj:IntKind.i64.wrap (j:Int)=(j:Int):=y3g (by omega) (by omega)
        have e1:yfb yli (pv s.objs (j+1)) x=decide (0≤yli s.objs[j] x):=by simp [pv,yfb,hj]
        have hy:=ho _ (List.getElem_mem (show j<s.objs.length by omega))
        generalize s.objs[j]=y at *
        rw [e1,show yli y x=ybo y.name x.name from rfl,ge_cmp]
        simp [y7.r8,y6g,y5p,hwj,hj,hg,show (0:Int)≤(j:Int)+1 by omega]
    · apply jA
      simp [y7.r9]
      apply jD
      rw [if_pos he] at hch
      simp
      simp [hch,orI]
    rw [if_neg (by simp [he])] at hch
    simp
    apply jE
    simp [y7.r10,y3q hc (show s.objs.length≤9223372036854775807 by omega)]
    exact ⟨s.objs.length-(i+1),by omega,_,_,.refl _ _,i+1,by omega,rfl,hch,rfl,by simp [y6g]⟩
  simp at hc
  rw [yh1 hc] at hch
  simp
  have h0:=hch
  clear hch
  apply jB
  simp [y7.r11]
  refine AX.pblock (AX.loop (ChInv fuE ymp s.fns s 5 H) s.fns.length ⟨_,_,.refl _ _,0,by omega,by omega,rfl,rfl,by simp [y6g]⟩ ?_)
  rintro m F X ⟨i,hi,rfl,hch,hX,rfl⟩
  obtain rfl:=hX.symm
  simp only [y7.l1]
  apply jB
  simp [y7.r12,y6g]
  refine AX.pcond rfl (fun hc=>AX.skip ?_) (fun hc=>AX.exit ?_)
  · simp at hc
    have hx:=hf _ (List.getElem_mem hc)
    rw [yf5 hc] at hch
    have hg:s.fns[i]?=some s.fns[i]:=List.getElem?_eq_getElem hc
    simp
    apply jC
    generalize hxx:s.fns[i]=x at *
    simp [y7.r13,hg,ya5]
    refine AC.fix (yn0 x (by have:=hx.1;omega) (by have:=hx.2;omega) _) ?_
    simp
    apply jB
    simp [y7.r14]
    refine AX.pcond rfl (fun hd=>?_) (fun hd=>AX.skip ?_)
    · simp at hd
      rw [if_pos hd] at hch
      apply jA
      simp [y7.r15]
      apply jD
      simp
      rw [or0 _ _ h0]
      simp [hch,or1 _ _ hd]
    simp at hd
    rw [if_neg (by simp [hd])] at hch
    simp
    refine AX.testD (yfb ymp (pv s.fns i) x) [(1,.fp (y6g s) 0),(5,.i .i64 i),(92,.b (yfb ymp (pv s.fns i) x))] ?_ rfl (fun he=>?_) (fun he=>AX.skip ?_)
    · cases i with
      | zero=>simp [y7.r16,y6g,pv,yfb]
      | succ j=>
        have hj:s.fns[j]?=some s.fns[j]:=List.getElem?_eq_getElem (by omega)
        have hwj:IntKind.i64.wrap (j:Int)=(j:Int):=y3g (by omega) (by omega)
        have e1:yfb ymp (pv s.fns (j+1)) x=decide (0≤ymp s.fns[j] x):=by simp [pv,yfb,hj]
        have hy:=hf _ (List.getElem_mem (show j<s.fns.length by omega))
        generalize s.fns[j]=y at *
        rw [e1,show ymp y x=ybo y.name x.name from rfl,ge_cmp]
        simp [y7.r16,y6g,ya5,hwj,hj,hg,show (0:Int)≤(j:Int)+1 by omega]
    · apply jA
      simp [y7.r17]
      apply jD
      rw [if_pos he] at hch
      simp
      rw [or0 _ _ h0]
      simp [hch,orI]
    rw [if_neg (by simp [he])] at hch
    simp
    apply jE
    simp [y7.r18,y3q hc (show s.fns.length≤9223372036854775807 by omega)]
    exact ⟨s.fns.length-(i+1),by omega,_,_,.refl _ _,i+1,by omega,rfl,hch,rfl,by simp [y6g]⟩
  simp at hc
  rw [yh1 hc] at hch
  simp
  have h1:=hch
  clear hch
  apply jB
  simp [y7.r19]
  refine AX.pblock (AX.loop (ChInv cnE yht s.cons s 7 H) s.cons.length ⟨_,_,.refl _ _,0,by omega,by omega,rfl,rfl,by simp [y6g]⟩ ?_)
  rintro m F X ⟨i,hi,rfl,hch,hX,rfl⟩
  obtain rfl:=hX.symm
  simp only [y7.l2]
  apply jB
  simp [y7.r20,y6g]
  refine AX.pcond rfl (fun hc=>AX.skip ?_) (fun hc=>AX.exit ?_)
  · simp at hc
    have hx:=hcn _ (List.getElem_mem hc)
    rw [yf5 hc] at hch
    have hg:s.cons[i]?=some s.cons[i]:=List.getElem?_eq_getElem hc
    simp
    apply jC
    generalize hxx:s.cons[i]=x at *
    simp [y7.r21,hg,y5y]
    refine AC.fix (RCon_ok x (by have:=hx.1;omega) (by have:=hx.2.1;omega) (by have:=hx.2.2.1;omega) (by have:=hx.2.2.2.1;omega) (fun a ha=>by have:=hx.2.2.2.2 a ha;omega) _) ?_
    simp
    apply jB
    simp [y7.r22]
    refine AX.pcond rfl (fun hd=>?_) (fun hd=>AX.skip ?_)
    · simp at hd
      rw [if_pos hd] at hch
      apply jA
      simp [y7.r23]
      apply jD
      simp
      rw [or0 _ _ h0,or0 _ _ h1]
      simp [hch,or1 _ _ hd]
    simp at hd
    rw [if_neg (by simp [hd])] at hch
    simp
    refine AX.testD (yfb yht (pv s.cons i) x) [(1,.fp (y6g s) 0),(7,.i .i64 i),(125,.b (yfb yht (pv s.cons i) x))] ?_ rfl (fun he=>?_) (fun he=>AX.skip ?_)
    · cases i with
      | zero=>simp [y7.r24,y6g,pv,yfb]
      | succ j=>
        have hj:s.cons[j]?=some s.cons[j]:=List.getElem?_eq_getElem (by omega)
        have hwj:IntKind.i64.wrap (j:Int)=(j:Int):=y3g (by omega) (by omega)
        have e1:yfb yht (pv s.cons (j+1)) x=decide (0≤yht s.cons[j] x):=by simp [pv,yfb,hj]
        have hy:=hcn _ (List.getElem_mem (show j<s.cons.length by omega))
        generalize s.cons[j]=y at *
        rw [e1]
        simp [y7.r24,y6g,y5y,hwj,hj,hg,show (0:Int)≤(j:Int)+1 by omega]
        refine y4y _ (fun H2=>yj6 y x (by have:=hy.2.2.2.1;omega) (by have:=hx.2.2.2.1;omega) H2) ?_
        simp [y6g,y5y]
    · apply jA
      simp [y7.r25]
      apply jD
      rw [if_pos he] at hch
      simp
      rw [or0 _ _ h0,or0 _ _ h1]
      simp [hch,orI]
    rw [if_neg (by simp [he])] at hch
    simp
    apply jE
    simp [y7.r26,y3q hc (show s.cons.length≤9223372036854775807 by omega)]
    exact ⟨s.cons.length-(i+1),by omega,_,_,.refl _ _,i+1,by omega,rfl,hch,rfl,by simp [y6g]⟩
  simp at hc
  rw [yh1 hc] at hch
  simp
  apply jA
  simp [y7.r27]
  apply jD
  simp [h0,h1,hch,orI]
theorem yo6 {α:Type} {ask:α→Int} {cmp:α→α→Int}:∀{l:List α} {p:Option α},chk ask cmp p l=0→∀x∈l,ask x=0
  | [],_,_,x,hx=>by cases hx
  | a::r,p,h,x,hx=>by
    rw [show chk ask cmp p (a::r)=if ask a≠0 then ask a else if yfb cmp p a then 13 else chk ask cmp (some a) r from rfl] at h
    split at h
    · rename_i h1;exact absurd h h1
    rename_i h1
    split at h
    · exact absurd h (by decide)
    rcases List.mem_cons.1 hx with rfl | hx
    · exact Classical.not_not.1 h1
    · exact yo6 h x hx
section
open Go Go.RowKit
theorem Am.AC.codeR {P:Program} {f:FuncId} {fn:Func} {a:AFunc} (hf:P.funcs[f]?=some fn) (hok:y1x P fn a=true) {args:List V} {H:Hp} {R:V→Prop}
    (h:(∀id blk,H.get id=some blk→id<H.next)→AX P a.n a.body (Ends (fun r H'=>(R r∧yd1 r)∧H.Ext H') a.res) (fr0 0 args) H):AC P f args H (fun r H'=>R r∧H'=H):=
  AC.lt (ykq hf hok) fun hl=>(AC.code hf hok (h hl)).trim fun r H' ⟨⟨e,hfr⟩,h1,h2⟩=>
    ⟨H,⟨Nat.le_refl _,h1,fun id blk hg=>⟨hl id blk hg,h2 id blk hg⟩,fun id cs m hg=>.inl ⟨m,hg⟩,fun id es hg=>.inl hg⟩,hfr.ok _,e,rfl⟩
end
theorem yel {i:Nat} (h:i≤9223372036854775000):Go.IntKind.i64.wrap ((i:Int)+1)=((i+1:Nat):Int):=by rw [y3g (by omega) (by omega)];omega
def syZ (s:Sy):Prop:=s.objs.length≤140737488355328∧s.fns.length≤140737488355328∧s.cons.length≤140737488355328∧(∀o∈s.objs,obS o)∧(∀f∈s.fns,fuS f∧f.ret.length≤140737488355328)∧
  ∀c∈s.cons,c.a.length≤140737488355328∧c.b.length≤140737488355328∧c.tag.length≤140737488355328∧c.args.length≤140737488355328∧∀a∈c.args,a.length≤140737488355328
def GrInv2 (s:Sy) (H:Hp) (m:Nat) (F:Fr) (X:Hp):Prop:=
  ∃i n,i≤s.fns.length∧m=s.fns.length-i∧n≤30000∧X=H∧F=[(2,.fp (y6g s) 0),(5,.i .i64 (n:Nat)),(8,.i .i64 i)]
def GrInv3 (s:Sy) (H:Hp) (m:Nat) (F:Fr) (X:Hp):Prop:=
  ∃i n,i≤s.cons.length∧m=s.cons.length-i∧n≤60000∧(∀(j:Nat) c,j<i→s.cons[j]?=some c→c.args.length≤6000)∧H.Ext X∧(∀id blk,X.get id=some blk→id<X.next)∧F=[(2,.fp (y6g s) 0),(5,.i .i64 (n:Nat)),(9,.i .i64 i)]
def GrIn3 (s:Sy) (i n0 id:Nat) (args:List Str) (H:Hp) (m:Nat) (F:Fr) (X:Hp):Prop:=
  ∃k n,k≤args.length∧k≤100∧m=args.length-k∧n0≤n∧n≤n0+k*140737488355328∧X=H∧F=[(2,.fp (y6g s) 0),(5,.i .i64 (n:Nat)),(9,.i .i64 i),(10,.p (some (id,0,6))),(11,.i .i64 k)]
theorem yjr:∀{a b:List Str},y4h a→y4h b→(∀x,x∈a↔x∈b)→a=b
  | [],[],_,_,_=>rfl
  | [],b::s,_,_,h=>absurd ((h b).2 (by simp)) (by simp)
  | a::r,[],_,_,h=>absurd ((h a).1 (by simp)) (by simp)
  | a::r,b::s,ha,hb,h=>by
    have ha':=List.pairwise_cons.1 ha
    have hb':=List.pairwise_cons.1 hb
    have e:a=b:=by
      refine Classical.byContradiction fun hne=>?_
      have h1:a∈s:=(List.mem_cons.1 ((h a).1 (by simp))).resolve_left hne
      have h2:b∈r:=(List.mem_cons.1 ((h b).2 (by simp))).resolve_left (Ne.symm hne)
      have:=yhp (ha'.1 b h2)
      rw [hb'.1 a h1] at this;cases this
    subst e
    have:r=s:=yjr ha'.2 hb'.2 fun x=>⟨fun hx=>?_,fun hx=>?_⟩
    · rw [this]
    · exact (List.mem_cons.1 ((h x).1 (by simp [hx]))).resolve_left fun e=>by have:=ha'.1 x hx;rw [e] at this;exact ya0 _ this
    · exact (List.mem_cons.1 ((h x).2 (by simp [hx]))).resolve_left fun e=>by have:=hb'.1 x hx;rw [e] at this;exact ya0 _ this
@[simp ↓] theorem isCell_ss (l:List Str):y7o (ss l)=true:=rfl
@[simp ↓] theorem cellsV_ss (l:List Str):y7e (ss l)=some [ss l]:=rfl
structure Su where
  name:Str
  gives:List Str
  wants:List Str
  keeps:List Str
  sys:Sy
def y5u (s:Su):List V:=[.s s.name,ss s.gives,ss s.wants,ss s.keeps,.fs (s.sys.objs.map y5p),.fs (s.sys.fns.map ya5),.fs (s.sys.cons.map y5y)]
def risB (l:List Str):Bool:=decide (∀j,j<l.length-1→ltB (l.getD j []) (l.getD (j+1) [])=true)
def yfz (s:Sy) (n:Str):Bool:=s.objs.any (fun o=>decide (o.name=n))||s.fns.any (fun f=>decide (f.name=n))
def ygm (s:Sy) (l:List Str):Int:=if risB l=false then 13 else if l.all (yfz s)=false then 7 else 0
def suE (s:Su):Int:=
  if y8d s.name=false then 11 else orI [ys3 s.sys,ygm s.sys s.gives,ygm s.sys s.wants,if s.gives.any (fun n=>decide (n∈s.wants)) then 8 else 0,if 6000<s.keeps.length then 4 else 0,
    if risB s.keeps=false then 13 else 0,if s.keeps.all y9r=false then 11 else 0]
structure Sm where
  name:Str
  giver:Str
  wanted:List Str
end Go.Proofs.YthmkcebbeehbeaaGreatDoor
