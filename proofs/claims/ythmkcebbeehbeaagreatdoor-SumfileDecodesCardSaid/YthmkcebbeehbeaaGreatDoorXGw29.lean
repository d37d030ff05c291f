/- Part 29. -/
import Derived.Test.YthmkcebbeehbeaaGreatDoorXGw19
import Derived.Test.YthmkcebbeehbeaaGreatDoorXGw28
set_option linter.unusedSimpArgs false
set_option linter.unusedVariables false
namespace Go.Proofs.YthmkcebbeehbeaaGreatDoor
open Am C
def ysg (n:Nat) (l:List Mk) (m:Mk):Bool:=decide (0≤m.pos)&&decide (m.pos<n)&&ynk m.tag&&decide (∀x,l.getLast?=some x→x.pos≤m.pos)
theorem mkB_eq (n:Nat) (l:List Mk) (m:Mk):mkB n l m=(ysg n l m&&decide (m∉l)):=rfl
theorem yo5 {n:Nat} {ms:List Mk} {i:Nat} (h:i<ms.length):ypu n (ms.take i) (ms.drop i)=(mkB n (ms.take i) ms[i]&&ypu n (ms.take (i+1)) (ms.drop (i+1))):=by
 rw [kO h]
 simp only [ypu]
 rw [List.take_append_getElem h]
theorem mk_eq (q mk:Mk):y8v [0,1] [.i .i64 q.pos,.s q.tag] [.i .i64 mk.pos,.s mk.tag]=some (decide (q=mk)):=by
 have:decide (q=mk)=(decide (q.pos=mk.pos)&&decide (q.tag=mk.tag)):=by
  cases q;cases mk;simp
 rw [this]
 have e1:(q.pos == mk.pos)=decide (q.pos=mk.pos):=rfl
 have e2:(q.tag == mk.tag)=decide (q.tag=mk.tag):=by rw [Bool.eq_iff_iff];simp
 simp only [y8v,ye9,if_true,e1,e2]
 cases decide (q.pos=mk.pos) <;> cases decide (q.tag=mk.tag) <;> rfl
def ObInv (o:Ob) (H:Hp) (m:Nat) (F:Fr) (X:Hp):Prop:=
 ∃i,i≤o.marks.length∧m=o.marks.length-i∧ypu o.kinds.length [] o.marks=ypu o.kinds.length (o.marks.take i) (o.marks.drop i)∧H.Ext X∧(∀id blk,X.get id=some blk→id<X.next)∧F=[(1,.fp (y62 o) 0),(5,.i .i64 i)]
def Ob1Inv (o:Ob) (i:Nat) (mk:Mk) (id:Nat) (Y:Hp) (m:Nat) (F:Fr) (X:Hp):Prop:=
 ∃k,k≤i∧m=i-k∧mk∉o.marks.take k∧X=Y∧F=[(1,.fp (y62 o) 0),(5,.i .i64 i),(6,.p (some (id,0,2))),(7,.i .i64 k)]
theorem ysu (o:Ob) (h1:o.name.length≤9223372036854775807) (h2:o.kinds.length≤9223372036854775807) (h3:o.marks.length≤9223372036854775807) (h4:∀m∈o.marks,m.tag.length≤9223372036854775807) (H:Hp):
  AC Tryz.prog ybm [.agg (y62 o)] H (fun v H'=>v=.i .i64 (obE o)∧H'=H):=by
 refine AC.codeP yf.at yf.ok (by simp) fun hlt=>?_
 simp only [yf]
 apply jA
 simp [yf.r0,y62]
 apply jA
 simp [yf.r1]
 refine AC.fix (ygi o.name h1 _) ?_
 rw [yht]
 cases hr:ydw o.name with
 | none=>
  simp [rdV,nv,Nd.cs,Nd.zero]
  apply jB
  simp [yf.r2]
  refine jG rfl ?_
  apply jA
  simp [yf.r3]
  apply jD
  simp [obE,hr]
  exact ⟨yga hlt _ _,.refl _⟩
 | some d=>
  simp [rdV,nv,Nd.cs]
  refine AX.seq ?_
  refine AX.test (decide (d.kind<5)||decide (0≤d.cell)) [(1,.fp (y62 o) 0),(25,.b (decide (d.kind<5)||decide (0≤d.cell)))] ?_ rfl (fun hb=>?_) (fun hb=>AX.skip ?_)
  ·by_cases k:d.kind<5
   ·simp [yf.r2,y62,k]
   ·simp [yf.r2,y62,k]
  ·apply jA
   simp [yf.r3]
   apply jD
   simp at hb
   simp [obE,hr,hb]
   exact ⟨yga hlt _ _,.refl _⟩
  simp at hb
  have hb':¬(d.kind<5∨0≤d.cell):=by omega
  have X2:=yga hlt (.cells [.i .i64 0,.s [],.i .i64 0,.s [],.i .i64 0,.i .i64 0] 6) (.cells [.i .i64 d.kind,.s d.fn,.i .i64 d.copy,.s d.name,.i .i64 d.n,.i .i64 d.cell] 6)
  have L2:=lt2 hlt (.cells [.i .i64 0,.s [],.i .i64 0,.s [],.i .i64 0,.i .i64 0] 6) (.cells [.i .i64 d.kind,.s d.fn,.i .i64 d.copy,.s d.name,.i .i64 d.n,.i .i64 d.cell] 6)
  generalize (H.add (.cells [.i .i64 0,.s [],.i .i64 0,.s [],.i .i64 0,.i .i64 0] 6)).upd H.next (.cells [.i .i64 d.kind,.s d.fn,.i .i64 d.copy,.s d.name,.i .i64 d.n,.i .i64 d.cell] 6)=X at *
  simp
  apply jB
  simp [yf.r4,y62]
  refine AC.fix (yku o.kinds 1 64 h2 _) ?_
  have eB:(kpB o.kinds&&(decide ((1:Int)≤o.kinds.length)&&decide ((o.kinds.length:Int)≤64)))=decide (kpB o.kinds=true∧1≤o.kinds.length∧o.kinds.length≤64):=by
   rw [Bool.eq_iff_iff];simp
  rw [eB]
  by_cases hk:kpB o.kinds=true∧1≤o.kinds.length∧o.kinds.length≤64
  case neg=>
   simp only [hk,decide_false]
   simp
   refine jG rfl ?_
   apply jA
   simp [yf.r5]
   apply jD
   have:obE o=5:=by unfold obE;rw [hr];simp only;rw [if_neg hb',if_pos hk]
   simp [this]
   exact ⟨X2,.refl _⟩
  have eo:obE o=if ypu o.kinds.length [] o.marks then 0 else 3:=by unfold obE;rw [hr];simp only;rw [if_neg hb',if_neg (Classical.not_not.2 hk)]
  simp only [hk,decide_true]
  simp
  refine jF rfl (AX.skip ?_)
  simp
  apply jB
  simp [yf.r6]
  refine AX.pblock (AX.loop (ObInv o H) o.marks.length ⟨_,_,.refl _ _,0,by omega,by omega,rfl,X2,L2,by simp [y62]⟩ ?_)
  rintro m F Y ⟨i,hi,rfl,hm,X3,L3,rfl⟩
  simp only [yf.l0]
  apply jB
  simp [yf.r7,y62]
  refine AX.pcond rfl (fun hc=>AX.skip ?_) (fun hc=>AX.exit ?_)
  case refine_2=>
   simp at hc
   rw [List.drop_eq_nil_of_le hc] at hm
   simp only [ypu] at hm
   simp
   apply jA
   simp [yf.r17]
   apply jD
   simp [eo,hm]
   exact ⟨X3,.refl _⟩
  simp at hc
  rw [yo5 hc,mkB_eq] at hm
  simp
  have hmt:=h4 _ (kK hc)
  generalize hmk:o.marks[i]=mk at *
  have hg:o.marks[i]?=some mk:=by rw [kB hc,hmk]
  apply jC
  simp [yf.r8,hg,ycm]
  have X4:=X3.trans (yga L3 (.cells [.i .i64 0,.s []] 2) (.cells [.i .i64 mk.pos,.s mk.tag] 2))
  have L4:=lt2 L3 (.cells [.i .i64 0,.s []] 2) (.cells [.i .i64 mk.pos,.s mk.tag] 2)
  have G4:((Y.add (.cells [.i .i64 0,.s []] 2)).upd Y.next (.cells [.i .i64 mk.pos,.s mk.tag] 2)).get Y.next=some (.cells [.i .i64 mk.pos,.s mk.tag] 2):=by simp
  generalize (Y.add (.cells [.i .i64 0,.s []] 2)).upd Y.next (.cells [.i .i64 mk.pos,.s mk.tag] 2)=Z at *
  generalize Y.next=id at *
  refine AX.seq ?_
  refine AX.testD (!ysg o.kinds.length (o.marks.take i) mk) [(1,.fp (y62 o) 0),(5,.i .i64 i),(6,.p (some (id,0,2))),(80,.b (!ysg o.kinds.length (o.marks.take i) mk))] ?_ rfl (fun hb=>?_) (fun hb=>AX.skip ?_)
  ·by_cases c1:mk.pos<0
   ·simp [yf.r9,y62,G4,c1,ysg,show ¬0≤mk.pos by omega]
   by_cases c2:(o.kinds.length:Int)≤mk.pos
   ·simp [yf.r9,y62,G4,c1,c2,ysg,show ¬mk.pos<o.kinds.length by omega]
   by_cases c3:mk.tag.length<1
   ·simp [yf.r9,y62,G4,c1,c2,c3,ysg,ynk,show ¬1≤mk.tag.length by omega]
   by_cases c4:60<mk.tag.length
   ·simp [yf.r9,y62,G4,c1,c2,c3,c4,ysg,ynk,show ¬mk.tag.length≤60 by omega]
   have t0:ysg o.kinds.length (o.marks.take i) mk=decide (∀x,(o.marks.take i).getLast?=some x→x.pos≤mk.pos):=by
    unfold ysg ynk
    rw [decide_eq_true (show 0≤mk.pos by omega),decide_eq_true (show mk.pos<o.kinds.length by omega),decide_eq_true (show 1≤mk.tag.length by omega),decide_eq_true (show mk.tag.length≤60 by omega)]
    simp
   cases i with
   | zero=>
    have t00:ysg o.kinds.length [] mk=true:=by simpa using t0
    simp [yf.r9,y62,G4,c1,c2,c3,c4,t00]
   | succ j=>
    have hj:j<o.marks.length:=by omega
    have t1:ysg o.kinds.length (o.marks.take (j+1)) mk=decide (o.marks[j].pos≤mk.pos):=by
     rw [t0]
     have:(o.marks.take (j+1)).getLast?=some o.marks[j]:=by
      rw [List.getLast?_eq_getElem?,List.length_take,Nat.min_eq_left (by omega)]
      simp [km,hj]
     simp [this]
    have hgj:o.marks[j]?=some o.marks[j]:=kB hj
    generalize o.marks[j]=pm at *
    have hwj:IntKind.i64.wrap (j:Int)=(j:Int):=y4e (by omega) (by omega)
    by_cases c5:mk.pos<pm.pos
    ·simp [yf.r9,y62,G4,c1,c2,c3,c4,t1,hgj,ycm,c5,hwj,show ¬pm.pos≤mk.pos by omega]
    ·simp [yf.r9,y62,G4,c1,c2,c3,c4,t1,hgj,ycm,c5,hwj,show pm.pos≤mk.pos by omega]
  ·apply jA
   simp [yf.r10]
   apply jD
   simp at hb
   simp [eo,hm,hb]
   exact ⟨X4,.refl _⟩
  simp at hb
  simp
  apply jA
  simp [yf.r11]
  refine AX.pblock (AX.loop (Ob1Inv o i mk id Z) i ⟨_,_,.refl _ _,0,by omega,by omega,by simp,rfl,by simp [y62]⟩ ?_)
  rintro m F X' ⟨k,hk2,rfl,hnk,rfl,rfl⟩
  simp only [yf.l1]
  apply jB
  simp [yf.r12]
  refine AX.pcond rfl (fun hd=>AX.skip ?_) (fun hd=>AX.exit ?_)
  case refine_2=>
   simp at hd
   have:k=i:=by omega
   subst this
   simp
   apply jE
   simp [yf.r16,y4d hc h3]
   refine ⟨o.marks.length-(k+1),by omega,_,_,.refl _ _,k+1,by omega,rfl,?_,X4,L4,by simp [y62]⟩
   rw [hm,hb];simp [hnk]
  simp at hd
  simp
  have hk3:k<o.marks.length:=by omega
  have hgk:o.marks[k]?=some o.marks[k]:=kB hk3
  have htk:o.marks.take (k+1)=o.marks.take k++[o.marks[k]]:=by rw [kI,hgk];rfl
  generalize hmq:o.marks[k]=q at *
  refine AX.seq (AX.pblock ?_)
  refine AX.testD (decide (q=mk)) [(1,.fp (y62 o) 0),(5,.i .i64 i),(6,.p (some (id,0,2))),(7,.i .i64 k),(92,.b (decide (q=mk)))] ?_ rfl (fun hb2=>?_) (fun hb2=>AX.skip ?_)
  ·simp [yf.r13,y62,G4,hgk,ycm]
   rw [mk_eq]
   simp [y62,ycm]
  ·simp at hb2
   apply jA
   simp [yf.r14]
   apply jD
   have:mk∈o.marks.take i:=kX (i:=k) (by rw [km,if_pos hd,hgk,hb2])
   simp [eo,hm,this]
   exact ⟨X4,.refl _⟩
  simp at hb2
  simp
  apply jE
  simp [yf.r15,y4d hd (show i≤9223372036854775807 by omega)]
  refine ⟨i-(k+1),by omega,_,_,.refl _ _,k+1,by omega,rfl,?_,rfl,by simp [y62]⟩
  rw [htk]
  simp [hnk]
  exact fun h=>hb2 h.symm
def zi (l:List Int):List (List V):=l.map fun x=>[V.i .i64 x]
def yl0:List Str→List Str→List Int
 | a::r,b::q=>ydl a b::yl0 r q
 | _,_=>[]
theorem yfc (x:List Int) (y:List Int):orI (x++y)=if orI x≠0 then orI x else orI y:=by
 induction x with
 | nil=>simp [orI]
 | cons a r ih=>
  by_cases h:a=0
  ·simp [orI,h,ih]
  ·simp [orI,h]
theorem yv3:∀(a b:List Str),orI (yl0 a b++[yh4 a.length b.length])=ylv a b
 | [],b=>by
  simp only [yl0,ylv,orI,List.nil_append,yh4,cmpN]
  cases b <;> simp
 | a::r,[]=>by
  have:¬((r.length:Int)+1<0):=by omega
  have h2:¬((r.length:Int)+1=0):=by omega
  simp [yl0,ylv,orI,yh4,this,h2]
 | a::r,b::q=>by
  have ih:=yv3 r q
  have e:yh4 ((a::r).length:Nat) ((b::q).length:Nat)=yh4 r.length q.length:=by
   unfold yh4;simp
  simp only [yl0,List.cons_append,orI,ylv,e,ih]
def cmpR (a b:Cn):List Int:=[yh4 a.op b.op,ydl a.a b.a,ydl a.b b.b,yh4 a.k b.k,ydl a.tag b.tag]++yl0 a.args b.args++[yh4 a.args.length b.args.length]
theorem cmpR_eq (a b:Cn):orI (cmpR a b)=yjh a b:=by
 unfold cmpR yjh
 rw [kV,yfc,yv3]
 simp only [orI]
 by_cases h:ylv a.args b.args=0 <;> simp [h,orI] <;> (repeat' split) <;> simp_all
theorem zi_flat (l:List Int):(zi l).flatten=l.map fun x=>V.i .i64 x:=by
 induction l with
 | nil=>rfl
 | cons a r ih=>simp [zi] at ih ⊢;exact ih
def CmInv (a b:Cn) (c5:List Int) (H:Hp) (m:Nat) (F:Fr) (X:Hp):Prop:=
 ∃i v,i≤a.args.length∧i≤b.args.length∧m=a.args.length-i∧Acc H 1 v X (zi (c5++(yl0 a.args b.args).take i))∧F=[(2,.fp (y6i a) 0),(3,.fp (y6i b) 0),(5,v),(6,.i .i64 i)]
theorem yqt:∀(a b:List Str),(yl0 a b).length=min a.length b.length
 | [],b=>by simp [yl0]
 | a::r,[]=>by simp [yl0]
 | a::r,b::q=>by simp [yl0,yqt r q]
theorem yqu:∀{a b:List Str} {i:Nat} (h:i<a.length) (h2:i<b.length),(yl0 a b)[i]?=some (ydl a[i] b[i])
 | [],b,i,h,_=>by simp at h
 | a::r,[],i,_,h=>by simp at h
 | a::r,b::q,0,_,_=>by simp [yl0]
 | a::r,b::q,i+1,h,h2=>by
  simp at h h2
  simp [yl0,yqu h h2]
def CmInv1 (R:List Int) (v:V) (X:Hp) (m:Nat) (F:Fr) (Y:Hp):Prop:=
 ∃k,k≤R.length∧m=R.length-k∧orI (R.take k)=0∧Y=X∧F=[(5,v),(7,.i .i64 k)]
theorem ykv (a b:Cn) (ha:a.args.length≤1000000) (hb:b.args.length≤9223372036854775807) (H:Hp):AC Tryz.prog y9h [.agg (y6i a),.agg (y6i b)] H (fun v H'=>v=.i .i64 (yjh a b)∧H'=H):=by
 refine AC.codeP yv.at yv.ok (by simp) fun hlt=>?_
 simp only [yv]
 apply jA
 simp [yv.r0,y6i]
 refine AX.seq (AX.drw ?_)
 simp [yv.r1]
 refine y5c _ (fun H2=>yn7 a.op b.op H2) ?_
 simp
 refine y5c _ (fun H2=>yi9 a.a b.a H2) ?_
 simp
 refine y5c _ (fun H2=>yi9 a.b b.b H2) ?_
 simp
 refine y5c _ (fun H2=>yn7 a.k b.k H2) ?_
 simp
 refine y5c _ (fun H2=>yi9 a.tag b.tag H2) ?_
 simp [show ydi 5 [V.i .i64 0]=[.i .i64 0,.i .i64 0,.i .i64 0,.i .i64 0,.i .i64 0] from rfl]
 let c5:List Int:=[yh4 a.op b.op,ydl a.a b.a,ydl a.b b.b,yh4 a.k b.k,ydl a.tag b.tag]
 have A0:Acc H 1 (.sl (some (H.next,0,5)) 5 1) (H.add (.cells [.i .i64 (yh4 a.op b.op),.i .i64 (ydl a.a b.a),.i .i64 (ydl a.b b.b),.i .i64 (yh4 a.k b.k),.i .i64 (ydl a.tag b.tag)] 5)) (zi (c5++(yl0 a.args b.args).take 0)):=
  ⟨Hp.Ext.add hlt _,Hp.add_lt hlt _,fun e he=>by obtain ⟨x,_,rfl⟩:=List.mem_map.1 he;rfl,.inr ⟨H.next,5,kF _,rfl,by simp [zi,c5],by simp [zi,c5]⟩⟩
 have hc5:c5.length=5:=rfl
 have eR:cmpR a b=c5++yl0 a.args b.args++[yh4 a.args.length b.args.length]:=rfl
 generalize H.add (.cells [.i .i64 (yh4 a.op b.op),.i .i64 (ydl a.a b.a),.i .i64 (ydl a.b b.b),.i .i64 (yh4 a.k b.k),.i .i64 (ydl a.tag b.tag)] 5)=X0 at *
 generalize V.sl (some (H.next,0,5)) 5 1=v0 at *
 clear_value c5
 apply jB
 simp [yv.r2]
 refine AX.pblock (AX.loop (CmInv a b c5 H) a.args.length ⟨_,_,.refl _ _,0,v0,by omega,by omega,by omega,A0,by simp [y6i]⟩ ?_)
 rintro m F X ⟨i,v,hia,hib,rfl,A,rfl⟩
 simp only [yv.l0]
 have hzl:=yqt a.args b.args
 refine AX.seq (AX.test (decide (i<a.args.length)&&decide (i<b.args.length)) [(2,.fp (y6i a) 0),(3,.fp (y6i b) 0),(5,v),(6,.i .i64 i),(45,.b (decide (i<a.args.length)&&decide (i<b.args.length)))] ?_ rfl (fun hc=>AX.skip ?_) (fun hc=>AX.exit ?_))
 ·by_cases h1:i<a.args.length
  ·simp [yv.r3,y6i,ss,h1]
  ·simp [yv.r3,y6i,ss,h1]
 ·simp at hc
  obtain ⟨h1,h2⟩:=hc
  simp
  have hz:=yqu h1 h2
  have hA:(zi (c5++(yl0 a.args b.args).take (i+1)))=zi (c5++(yl0 a.args b.args).take i)++[[V.i .i64 (ydl a.args[i] b.args[i])]]:=by
   rw [kI,hz]
   simp [zi]
  obtain ⟨v1,X1,e1,A1⟩:=A.app (bytes:=8) (ys:=[[V.i .i64 (ydl a.args[i] b.args[i])]]) hlt (by simp) (by omega) (by simp) (by simp [zi,yb7,hc5];omega)
  rw [←hA] at A1
  refine AX.seq (AX.pblock (AX.drw ?_))
  simp [yv.r4,y6i,ss,h1,h2]
  refine y5c _ (fun H2=>yi9 a.args[i] b.args[i] H2) ?_
  simp [ydi,-y59,e1]
  apply jE
  simp [yv.r5,y4d h1 (show a.args.length≤9223372036854775807 by omega)]
  exact ⟨a.args.length-(i+1),by omega,_,_,.refl _ _,i+1,v1,by omega,by omega,rfl,A1,by simp [y6i,ss]⟩
 simp at hc
 have hA:(yl0 a.args b.args).take i=yl0 a.args b.args:=kH (by rw [hzl];omega)
 rw [hA] at A
 have hA2:zi (cmpR a b)=zi (c5++yl0 a.args b.args)++[[V.i .i64 (yh4 a.args.length b.args.length)]]:=by rw [eR];simp [zi]
 obtain ⟨v1,X1,e1,A1⟩:=A.app (bytes:=8) (ys:=[[V.i .i64 (yh4 a.args.length b.args.length)]]) hlt (by simp) (by omega) (by simp) (by simp [zi,yb7,hc5,hzl];omega)
 rw [←hA2] at A1
 rw [←cmpR_eq]
 have hRl:(cmpR a b).length≤1000010:=by rw [eR];simp [hc5,hzl];omega
 have hRn:cmpR a b≠[]:=by rw [eR];simp
 generalize cmpR a b=R at *
 simp
 apply jA
 simp [yv.r6,y6i,ss]
 refine AC.fix (yn7 a.args.length b.args.length _) ?_
 simp [ydi,-y59,e1]
 apply jB
 simp [yv.r7]
 have hR0:R≠[]:=hRn
 obtain ⟨id,mm,h1,rfl,h2,h3⟩:∃id m,H.next≤id∧v1=.sl (some (id,0,R.length)) R.length 1∧X1.get id=some (.cells (R.map fun x=>V.i .i64 x) m)∧m≤R.length:=by
  have hf:=zi_flat R
  rcases A1.sl with ⟨h,_⟩ | ⟨id,m,h1,h2,h3,h4⟩
  ·exact absurd (by simpa [zi] using h) hR0
  ·rw [hf] at h2 h3 h4
   exact ⟨id,m,h1,by simpa [zi] using h2,h3,by simpa using h4⟩
 refine AX.pblock (AX.loop (CmInv1 R (.sl (some (id,0,R.length)) R.length 1) X1) R.length ⟨_,_,.refl _ _,0,by omega,by omega,by simp [orI],rfl,rfl⟩ ?_)
 rintro m F Y ⟨k,hk,rfl,ho,rfl,rfl⟩
 simp only [yv.l1]
 apply jB
 simp [yv.r8]
 refine AX.pcond rfl (fun hd=>AX.skip ?_) (fun hd=>AX.exit ?_)
 case refine_2=>
  simp at hd
  rw [kH hd] at ho
  simp
  apply jA
  simp [yv.r12]
  apply jD
  simp [ho]
  exact ⟨A1.ext,.refl _⟩
 simp at hd
 have hsp:orI R=if R[k]≠0 then R[k] else orI (R.drop (k+1)):=by
  conv=>lhs;rw [←List.take_append_drop k R,kO hd]
  rw [yfc]
  simp [ho,orI]
 have hst:orI (R.take (k+1))=R[k]:=by
  rw [kI,kB hd,yfc]
  simp [ho,orI]
  exact fun h=>h.symm
 simp
 apply jC
 have hdk:List.take 1 (List.drop k (R.map fun x=>V.i .i64 x))=[V.i .i64 R[k]]:=by
  rw [←List.map_drop,kO hd];rfl
 simp [yv.r9,hd,h2,h3,show k+1≤R.length from hd,hdk]
 refine AX.pcond rfl (fun he=>?_) (fun he=>AX.skip ?_)
 ·simp at he
  apply jA
  simp [yv.r10,hd,h2,h3,show k+1≤R.length from hd,hdk]
  apply jD
  simp [hsp,he]
  exact ⟨A1.ext,.refl _⟩
 simp at he
 simp
 apply jE
 simp [yv.r11,y4d hd (show R.length≤9223372036854775807 by omega)]
 exact ⟨R.length-(k+1),by omega,_,_,.refl _ _,k+1,by omega,rfl,by rw [hst,he],rfl,by simp⟩
def obS (o:Ob):Prop:=o.name.length≤140737488355328∧o.kinds.length≤140737488355328∧o.marks.length≤140737488355328∧∀m∈o.marks,m.tag.length≤140737488355328
def fuS (f:Fu):Prop:=f.name.length≤140737488355328∧f.kinds.length≤140737488355328
def cnS (c:Cn):Prop:=c.a.length≤140737488355328∧c.b.length≤140737488355328∧c.tag.length≤140737488355328∧c.args.length≤1000000∧∀a∈c.args,a.length≤140737488355328
def syS (s:Sy):Prop:=s.objs.length≤1000000∧s.fns.length≤1000000∧s.cons.length≤1000000∧(∀o∈s.objs,obS o)∧(∀f∈s.fns,fuS f)∧∀c∈s.cons,cnS c
def pv {α:Type} (l:List α) (i:Nat):Option α:=if i=0 then none else l[i-1]?
def yh0 {α:Type} (cmp:α→α→Int) (p:Option α) (x:α):Bool:=match p with
 | some y=>decide (0≤cmp y x)
 | none=>false
theorem ygs {α:Type} {ask:α→Int} {cmp:α→α→Int} {l:List α} {i:Nat} (h:i<l.length):
  chk ask cmp (pv l i) (l.drop i)=if ask l[i]≠0 then ask l[i] else if yh0 cmp (pv l i) l[i] then 13 else chk ask cmp (pv l (i+1)) (l.drop (i+1)):=by
 rw [kO h]
 have:pv l (i+1)=some l[i]:=by simp [pv,h]
 rw [this]
 rfl
theorem yis {α:Type} {ask:α→Int} {cmp:α→α→Int} {l:List α} {i:Nat} (h:l.length≤i):chk ask cmp (pv l i) (l.drop i)=0:=by
 rw [List.drop_eq_nil_of_le h]
 cases pv l i <;> rfl
theorem ge_cmp (a b:Str):decide (0≤ydl a b)=!ltB a b:=by
 unfold ydl
 cases h:ltB a b
 ·by_cases e:a=b <;> simp [e]
 ·simp
def ChInv {α:Type} (ask:α→Int) (cmp:α→α→Int) (l:List α) (s:Sy) (t:Nat) (H:Hp) (m:Nat) (F:Fr) (X:Hp):Prop:=
 ∃i,i≤l.length∧m=l.length-i∧chk ask cmp none l=chk ask cmp (pv l i) (l.drop i)∧X=H∧F=[(1,.fp (yaf s) 0),(t,.i .i64 i)]
theorem or0 (x:Int) (r:List Int) (h:x=0):orI (x::r)=orI r:=by simp [orI,h]
theorem or1 (x:Int) (r:List Int) (h:¬x=0):orI (x::r)=x:=by simp [orI,h]
theorem yx0 (s:Sy) (hs:syS s) (H:Hp):AC Tryz.prog yce [.agg (yaf s)] H (fun v H'=>v=.i .i64 (yu8 s)∧H'=H):=by
 obtain ⟨lo,lf,lc,ho,hf,hcn⟩:=hs
 refine AC.code y9.at y9.ok ?_
 simp only [y9]
 apply jA
 simp [y9.r0,yaf]
 refine AX.seq ?_
 refine AX.test (decide (600<s.objs.length)||decide (600<s.fns.length)||decide (6000<s.cons.length)) [(1,.fp (yaf s) 0),(24,.b (decide (600<s.objs.length)||decide (600<s.fns.length)||decide (6000<s.cons.length)))] ?_ rfl (fun hb=>?_) (fun hb=>AX.skip ?_)
 ·by_cases h1:600<s.objs.length
  ·simp [y9.r1,yaf,h1]
  by_cases h2:600<s.fns.length
  ·simp [y9.r1,yaf,h1,h2]
  ·simp [y9.r1,yaf,h1,h2]
 ·apply jA
  simp [y9.r2]
  apply jD
  simp at hb
  have:600<s.objs.length∨600<s.fns.length∨6000<s.cons.length:=by omega
  simp [yu8,this]
 simp at hb
 have hn:¬(600<s.objs.length∨600<s.fns.length∨6000<s.cons.length):=by omega
 have eS:yu8 s=orI [chk obE yne none s.objs,chk fuE yol none s.fns,chk cnE yjh none s.cons]:=by unfold yu8;rw [if_neg hn]
 rw [eS]
 simp
 apply jB
 simp [y9.r3]
 refine AX.pblock (AX.loop (ChInv obE yne s.objs s 3 H) s.objs.length ⟨_,_,.refl _ _,0,by omega,by omega,rfl,rfl,by simp [yaf]⟩ ?_)
 rintro m F X ⟨i,hi,rfl,hch,hX,rfl⟩
 obtain rfl:=hX.symm
 simp only [y9.l0]
 apply jB
 simp [y9.r4,yaf]
 refine AX.pcond rfl (fun hc=>AX.skip ?_) (fun hc=>AX.exit ?_)
 ·simp at hc
  have hx:=ho _ (kK hc)
  rw [ygs hc] at hch
  have hg:s.objs[i]?=some s.objs[i]:=kB hc
  simp
  apply jC
  generalize hxx:s.objs[i]=x at *
  simp [y9.r5,hg,y62]
  refine AC.fix (ysu x (by have:=hx.1;omega) (by have:=hx.2.1;omega) (by have:=hx.2.2.1;omega) (fun m hm=>by have:=hx.2.2.2 m hm;omega) _) ?_
  simp
  apply jB
  simp [y9.r6]
  refine AX.pcond rfl (fun hd=>?_) (fun hd=>AX.skip ?_)
  ·simp at hd
   rw [if_pos hd] at hch
   apply jA
   simp [y9.r7]
   apply jD
   simp
   simp [hch,or1 _ _ hd]
  simp at hd
  rw [if_neg (by simp [hd])] at hch
  simp
  refine AX.testD (yh0 yne (pv s.objs i) x) [(1,.fp (yaf s) 0),(3,.i .i64 i),(58,.b (yh0 yne (pv s.objs i) x))] ?_ rfl (fun he=>?_) (fun he=>AX.skip ?_)
  ·cases i with
   | zero=>simp [y9.r8,yaf,pv,yh0]
   | succ j=>
    have hj:s.objs[j]?=some s.objs[j]:=kB (by omega)
    have hwj:IntKind.i64.wrap (j:Int)=(j:Int):=y4e (by omega) (by omega)
    have e1:yh0 yne (pv s.objs (j+1)) x=decide (0≤yne s.objs[j] x):=by simp [pv,yh0,hj]
    have hy:=ho _ (kK (show j<s.objs.length by omega))
    generalize s.objs[j]=y at *
    rw [e1,show yne y x=ydl y.name x.name from rfl,ge_cmp]
    simp [y9.r8,yaf,y62,hwj,hj,hg,show (0:Int)≤(j:Int)+1 by omega]
  ·apply jA
   simp [y9.r9]
   apply jD
   rw [if_pos he] at hch
   simp
   simp [hch,orI]
  rw [if_neg (by simp [he])] at hch
  simp
  apply jE
  simp [y9.r10,y4d hc (show s.objs.length≤9223372036854775807 by omega)]
  exact ⟨s.objs.length-(i+1),by omega,_,_,.refl _ _,i+1,by omega,rfl,hch,rfl,by simp [yaf]⟩
 simp at hc
 rw [yis hc] at hch
 simp
 have h0:=hch
 clear hch
 apply jB
 simp [y9.r11]
 refine AX.pblock (AX.loop (ChInv fuE yol s.fns s 5 H) s.fns.length ⟨_,_,.refl _ _,0,by omega,by omega,rfl,rfl,by simp [yaf]⟩ ?_)
 rintro m F X ⟨i,hi,rfl,hch,hX,rfl⟩
 obtain rfl:=hX.symm
 simp only [y9.l1]
 apply jB
 simp [y9.r12,yaf]
 refine AX.pcond rfl (fun hc=>AX.skip ?_) (fun hc=>AX.exit ?_)
 ·simp at hc
  have hx:=hf _ (kK hc)
  rw [ygs hc] at hch
  have hg:s.fns[i]?=some s.fns[i]:=kB hc
  simp
  apply jC
  generalize hxx:s.fns[i]=x at *
  simp [y9.r13,hg,y9n]
  refine AC.fix (yoz x (by have:=hx.1;omega) (by have:=hx.2;omega) _) ?_
  simp
  apply jB
  simp [y9.r14]
  refine AX.pcond rfl (fun hd=>?_) (fun hd=>AX.skip ?_)
  ·simp at hd
   rw [if_pos hd] at hch
   apply jA
   simp [y9.r15]
   apply jD
   simp
   rw [or0 _ _ h0]
   simp [hch,or1 _ _ hd]
  simp at hd
  rw [if_neg (by simp [hd])] at hch
  simp
  refine AX.testD (yh0 yol (pv s.fns i) x) [(1,.fp (yaf s) 0),(5,.i .i64 i),(92,.b (yh0 yol (pv s.fns i) x))] ?_ rfl (fun he=>?_) (fun he=>AX.skip ?_)
  ·cases i with
   | zero=>simp [y9.r16,yaf,pv,yh0]
   | succ j=>
    have hj:s.fns[j]?=some s.fns[j]:=kB (by omega)
    have hwj:IntKind.i64.wrap (j:Int)=(j:Int):=y4e (by omega) (by omega)
    have e1:yh0 yol (pv s.fns (j+1)) x=decide (0≤yol s.fns[j] x):=by simp [pv,yh0,hj]
    have hy:=hf _ (kK (show j<s.fns.length by omega))
    generalize s.fns[j]=y at *
    rw [e1,show yol y x=ydl y.name x.name from rfl,ge_cmp]
    simp [y9.r16,yaf,y9n,hwj,hj,hg,show (0:Int)≤(j:Int)+1 by omega]
  ·apply jA
   simp [y9.r17]
   apply jD
   rw [if_pos he] at hch
   simp
   rw [or0 _ _ h0]
   simp [hch,orI]
  rw [if_neg (by simp [he])] at hch
  simp
  apply jE
  simp [y9.r18,y4d hc (show s.fns.length≤9223372036854775807 by omega)]
  exact ⟨s.fns.length-(i+1),by omega,_,_,.refl _ _,i+1,by omega,rfl,hch,rfl,by simp [yaf]⟩
 simp at hc
 rw [yis hc] at hch
 simp
 have h1:=hch
 clear hch
 apply jB
 simp [y9.r19]
 refine AX.pblock (AX.loop (ChInv cnE yjh s.cons s 7 H) s.cons.length ⟨_,_,.refl _ _,0,by omega,by omega,rfl,rfl,by simp [yaf]⟩ ?_)
 rintro m F X ⟨i,hi,rfl,hch,hX,rfl⟩
 obtain rfl:=hX.symm
 simp only [y9.l2]
 apply jB
 simp [y9.r20,yaf]
 refine AX.pcond rfl (fun hc=>AX.skip ?_) (fun hc=>AX.exit ?_)
 ·simp at hc
  have hx:=hcn _ (kK hc)
  rw [ygs hc] at hch
  have hg:s.cons[i]?=some s.cons[i]:=kB hc
  simp
  apply jC
  generalize hxx:s.cons[i]=x at *
  simp [y9.r21,hg,y6i]
  refine AC.fix (RCon_ok x (by have:=hx.1;omega) (by have:=hx.2.1;omega) (by have:=hx.2.2.1;omega) (by have:=hx.2.2.2.1;omega) (fun a ha=>by have:=hx.2.2.2.2 a ha;omega) _) ?_
  simp
  apply jB
  simp [y9.r22]
  refine AX.pcond rfl (fun hd=>?_) (fun hd=>AX.skip ?_)
  ·simp at hd
   rw [if_pos hd] at hch
   apply jA
   simp [y9.r23]
   apply jD
   simp
   rw [or0 _ _ h0,or0 _ _ h1]
   simp [hch,or1 _ _ hd]
  simp at hd
  rw [if_neg (by simp [hd])] at hch
  simp
  refine AX.testD (yh0 yjh (pv s.cons i) x) [(1,.fp (yaf s) 0),(7,.i .i64 i),(125,.b (yh0 yjh (pv s.cons i) x))] ?_ rfl (fun he=>?_) (fun he=>AX.skip ?_)
  ·cases i with
   | zero=>simp [y9.r24,yaf,pv,yh0]
   | succ j=>
    have hj:s.cons[j]?=some s.cons[j]:=kB (by omega)
    have hwj:IntKind.i64.wrap (j:Int)=(j:Int):=y4e (by omega) (by omega)
    have e1:yh0 yjh (pv s.cons (j+1)) x=decide (0≤yjh s.cons[j] x):=by simp [pv,yh0,hj]
    have hy:=hcn _ (kK (show j<s.cons.length by omega))
    generalize s.cons[j]=y at *
    rw [e1]
    simp [y9.r24,yaf,y6i,hwj,hj,hg,show (0:Int)≤(j:Int)+1 by omega]
    refine y5c _ (fun H2=>ykv y x (by have:=hy.2.2.2.1;omega) (by have:=hx.2.2.2.1;omega) H2) ?_
    simp [yaf,y6i]
  ·apply jA
   simp [y9.r25]
   apply jD
   rw [if_pos he] at hch
   simp
   rw [or0 _ _ h0,or0 _ _ h1]
   simp [hch,orI]
  rw [if_neg (by simp [he])] at hch
  simp
  apply jE
  simp [y9.r26,y4d hc (show s.cons.length≤9223372036854775807 by omega)]
  exact ⟨s.cons.length-(i+1),by omega,_,_,.refl _ _,i+1,by omega,rfl,hch,rfl,by simp [yaf]⟩
 simp at hc
 rw [yis hc] at hch
 simp
 apply jA
 simp [y9.r27]
 apply jD
 simp [h0,h1,hch,orI]
theorem yq7 {α:Type} {ask:α→Int} {cmp:α→α→Int}:∀{l:List α} {p:Option α},chk ask cmp p l=0→∀x∈l,ask x=0
 | [],_,_,x,hx=>by cases hx
 | a::r,p,h,x,hx=>by
  rw [show chk ask cmp p (a::r)=if ask a≠0 then ask a else if yh0 cmp p a then 13 else chk ask cmp (some a) r from rfl] at h
  split at h
  ·rename_i h1;exact absurd h h1
  rename_i h1
  split at h
  ·exact absurd h (by decide)
  rcases List.mem_cons.1 hx with rfl | hx
  ·exact Classical.not_not.1 h1
  ·exact yq7 h x hx
section
open Go Go.RowKit
theorem Am.AC.codeR {P:Program} {f:FuncId} {fn:Func} {a:AFunc} (hf:P.funcs[f]?=some fn) (hok:y1x P fn a=true) {args:List V} {H:Hp} {R:V→Prop}
  (h:(∀id blk,H.get id=some blk→id<H.next)→AX P a.n a.body (Ends (fun r H'=>(R r∧yey r)∧H.Ext H') a.res) (fr0 0 args) H):AC P f args H (fun r H'=>R r∧H'=H):=
 AC.lt (ymk hf hok) fun hl=>(AC.code hf hok (h hl)).trim fun r H' ⟨⟨e,hfr⟩,h1,h2⟩=>
  ⟨H,⟨kF _,h1,fun id blk hg=>⟨hl id blk hg,h2 id blk hg⟩,fun id cs m hg=>.inl ⟨m,hg⟩,fun id es hg=>.inl hg⟩,hfr.ok _,e,rfl⟩
end
theorem ylf:∀{a b:List Str},y51 a→y51 b→(∀x,x∈a↔x∈b)→a=b
 | [],[],_,_,_=>rfl
 | [],b::s,_,_,h=>absurd ((h b).2 (by simp)) (by simp)
 | a::r,[],_,_,h=>absurd ((h a).1 (by simp)) (by simp)
 | a::r,b::s,ha,hb,h=>by
  have ha':=List.pairwise_cons.1 ha
  have hb':=List.pairwise_cons.1 hb
  have e:a=b:=by
   refine ki fun hne=>?_
   have h1:a∈s:=(List.mem_cons.1 ((h a).1 (by simp))).resolve_left hne
   have h2:b∈r:=(List.mem_cons.1 ((h b).2 (by simp))).resolve_left (Ne.symm hne)
   have:=yje (ha'.1 b h2)
   rw [hb'.1 a h1] at this;cases this
  subst e
  have:r=s:=ylf ha'.2 hb'.2 fun x=>⟨fun hx=>?_,fun hx=>?_⟩
  ·rw [this]
  ·exact (List.mem_cons.1 ((h x).1 (by simp [hx]))).resolve_left fun e=>by have:=ha'.1 x hx;rw [e] at this;exact yau _ this
  ·exact (List.mem_cons.1 ((h x).2 (by simp [hx]))).resolve_left fun e=>by have:=hb'.1 x hx;rw [e] at this;exact yau _ this
@[simp ↓] theorem isCell_ss (l:List Str):y8i (ss l)=true:=rfl
@[simp ↓] theorem cellsV_ss (l:List Str):y7z (ss l)=some [ss l]:=rfl
structure Su where
 name:Str
 gives:List Str
 wants:List Str
 keeps:List Str
 sys:Sy
def y61 (s:Su):List V:=[.s s.name,ss s.gives,ss s.wants,ss s.keeps,.fs (s.sys.objs.map y62),.fs (s.sys.fns.map y9n),.fs (s.sys.cons.map y6i)]
def risB (l:List Str):Bool:=decide (∀j,j<l.length-1→ltB (l.getD j []) (l.getD (j+1) [])=true)
def yhq (s:Sy) (n:Str):Bool:=s.objs.any (fun o=>decide (o.name=n))||s.fns.any (fun f=>decide (f.name=n))
def yif (s:Sy) (l:List Str):Int:=if risB l=false then 13 else if l.all (yhq s)=false then 7 else 0
def suE (s:Su):Int:=
 if y9g s.name=false then 11 else orI [yu8 s.sys,yif s.sys s.gives,yif s.sys s.wants,if s.gives.any (fun n=>decide (n∈s.wants)) then 8 else 0,if 6000<s.keeps.length then 4 else 0,
  if risB s.keeps=false then 13 else 0,if s.keeps.all yay=false then 11 else 0]
structure Sm where
 name:Str
 giver:Str
 wanted:List Str
end Go.Proofs.YthmkcebbeehbeaaGreatDoor
namespace Go.Proofs.YthmkcebbeehbeaaGreatDoor.Am
open Go Go.RowKit
def ydh (v:V) (id:Nat):Prop:=match v with
 | .sl (some (k,_,_)) _ _=>k≠id
 | _=>True
theorem Acc.sepOld {H X:Hp} {sz:Nat} {v:V} {es:List (List V)} (A:Acc H sz v X es) {id:Nat} (h:id<H.next):ydh v id:=by
 rcases A.sl with ⟨_,z,rfl⟩ | ⟨k,m,h1,rfl,h2,h3⟩
 ·trivial
 ·show k≠id;omega
theorem Acc.isSl {H X:Hp} {sz:Nat} {v:V} {es:List (List V)} (A:Acc H sz v X es):∃a n z,v=.sl a n z:=by
 rcases A.sl with ⟨_,z,rfl⟩ | ⟨k,m,h1,rfl,h2,h3⟩ <;> exact ⟨_,_,_,rfl⟩
theorem Acc.appK {H X:Hp} {sz bytes:Nat} {v:V} {es:List (List V)} (A:Acc H sz v X es) (hl:∀id blk,H.get id=some blk→id<H.next) (y:List V) (hy:y.length=sz) (hsz:0<sz) (hc:y.all y8i=true) (hb:(es.length+1)*bytes≤yb7):
  ∃v2 X2,y59 X sz bytes v (.fs [y])=some (v2,X2)∧Acc H sz v2 X2 (es++[y])∧∀id blk,X.get id=some blk→ydh v id→X2.get id=some blk∧ydh v2 id:=by
 obtain ⟨v2,X2,e,A2⟩:=A.app (bytes:=bytes) (ys:=[y]) hl (by simpa using hy) hsz (by simpa using hc) (by simpa using hb)
 refine ⟨v2,X2,e,A2,fun id blk hg hs=>?_⟩
 have hid:=A.lt id blk hg
 have hsc:yap X sz (.fs [y])=some (1,y):=by simp [yap,hsz,hy]
 rcases A.sl with ⟨h0,z,rfl⟩ | ⟨k,m,h1,rfl,h2,h3⟩
 ·simp only [y59,hsc] at e
  rw [if_neg (by decide)] at e
  split at e
  ·injection e with e;injection e with e1 e2;subst e1;subst e2
   exact ⟨by simp only [Hp.get_add];rw [if_neg (by omega)];exact hg,by show X.next≠id;omega⟩
  ·cases e
 ·have hk:k≠id:=hs
  simp only [y59,hsc,h2] at e
  split at e
  ·rw [if_neg (by decide)] at e
   split at e
   ·injection e with e;injection e with e1 e2;subst e1;subst e2
    exact ⟨by simp only [Hp.get_upd];rw [if_neg (Ne.symm hk)];exact hg,hk⟩
   ·split at e
    ·injection e with e;injection e with e1 e2;subst e1;subst e2
     exact ⟨by simp only [Hp.get_upd];rw [if_neg (Ne.symm hk)];exact hg,hk⟩
    ·cases e
  ·cases e
theorem Acc.frzS {H H':Hp} {sz:Nat} {v:V} {es:List (List V)} (A:Acc H sz v H' es):Frz H' (fun k=>¬ydh v k) v (.fs es):=by
 rcases A.sl with ⟨rfl,z,rfl⟩ | ⟨id,m,h1,rfl,h2,h3⟩
 ·exact .sl0 z
 ·refine .sl id 0 es.flatten.length es.length sz m es.flatten es (fun h=>h rfl) h2 h3 (kF _) rfl A.all (fun i j e v hi hj=>?_) (fun i j e v u hi hj hu=>?_)
  ·have:=ydq A.all hi hj
   have:=(List.getElem?_eq_some_iff.1 this).1
   simpa using this
  ·have:=ydq A.all hi hj
   rw [Nat.zero_add,this] at hu;injection hu with hu;subst hu;exact .refl _
theorem AC.frz {P:Program} {f:FuncId} {args args':List V} {H:Hp} {R:V→Hp→Prop} (S:Nat→Prop) (h:AC P f args' (H.wo S) R) (hl:args.length=args'.length) (hv:∀(j:Nat) v v',args[j]?=some v→args'[j]?=some v'→Frz H S v v'):AC P f args H R:=
 ⟨h.1,fun κ cs Sm r=>by
  obtain ⟨κ',ew,le,S',hf⟩:=ykh S Sm
  have r':VRs κ' args' cs:=⟨by rw [←hl];exact r.1,fun j v' hj=>by
   have hlt:j<args.length:=by rw [hl];exact (List.getElem?_eq_some_iff.1 hj).1
   exact hf _ _ (hv j args[j] v' (kB hlt) hj) _ (r.2 j args[j] (kB hlt))⟩
  have:=h.2 κ' cs S' r'
  rw [ew] at this
  exact this.mono fun e w' ⟨κ2,v,cv,H',a,b,c,d,e',g⟩=>⟨κ2,v,cv,H',a,b,le.trans c,d,e',g⟩⟩
theorem Hp.wo_get {H:Hp} {S:Nat→Prop} {id:Nat} {blk:Blk} (h:H.get id=some blk) (hs:¬S id):(H.wo S).get id=some blk:=by simp only [Hp.wo];rw [if_neg hs];exact h
end Go.Proofs.YthmkcebbeehbeaaGreatDoor.Am
