/- Part 26. -/
import Derived.Test.YtikpijbeobeckaaGreatDoorXGw24
import Derived.Test.YtikpijbeobeckaaGreatDoorXGw25
set_option linter.unusedSimpArgs false
set_option linter.unusedVariables false
namespace Go.Proofs.YtikpijbeobeckaaGreatDoor
open Am C
structure Mk where
 pos:Int
 tag:Str
 deriving DecidableEq
structure Ob where
 name:Str
 kinds:Str
 marks:List Mk
 deriving DecidableEq
structure Fu where
 name:Str
 kinds:Str
 ret:Str
 deriving DecidableEq
structure Cn where
 op:Int
 a:Str
 b:Str
 k:Int
 tag:Str
 args:List Str
structure Sy where
 objs:List Ob
 fns:List Fu
 cons:List Cn
def y8a (m:Mk):List V:=[.i .i64 m.pos,.s m.tag]
def y4l (o:Ob):List V:=[.s o.name,.s o.kinds,.fs (o.marks.map y8a)]
def y75 (f:Fu):List V:=[.s f.name,.s f.kinds,.s f.ret]
def y3n (c:Cn):List V:=[.i .i64 c.op,.s c.a,.s c.b,.i .i64 c.k,.s c.tag,ss c.args]
def y5b (s:Sy):List V:=[.fs (s.objs.map y4l),.fs (s.fns.map y75),.fs (s.cons.map y3n)]
def y6t (s:Str):Bool:=match y56 s with
 | some d=>decide (d.kind≤3)||decide (0≤d.cell)
 | none=>false
def y85 (s:Str):Bool:=match y56 s with
 | some d=>decide (d.kind=4)||decide (0≤d.cell)
 | none=>false
def kpB (s:Str):Bool:=s.all fun c=>c == 105||c == 112
def yko (t:Str):Bool:=decide (1≤t.length)&&decide (t.length≤60)
def mkB (n:Nat) (l:List Mk) (m:Mk):Bool:=decide (0≤m.pos)&&decide (m.pos<n)&&yko m.tag&&decide (∀x,l.getLast?=some x→x.pos≤m.pos)&&decide (m∉l)
def mksB (n:Nat):List Mk→List Mk→Bool
 | _,[]=>true
 | l,m::r=>mkB n l m&&mksB n (l++[m]) r
def obE (o:Ob):Int:=match y56 o.name with
 | none=>11
 | some d=>if d.kind<5∨0≤d.cell then 11 else if ¬(kpB o.kinds=true∧1≤o.kinds.length∧o.kinds.length≤64) then 5 else if mksB o.kinds.length [] o.marks then 0 else 3
def retB (r:Str):Bool:=decide (r=[105])||decide (r=[112])||decide (r=[118])
def fuE (f:Fu):Int:=match y56 f.name with
 | none=>11
 | some d=>if d.kind≠4 then 11 else if ¬(kpB f.kinds=true∧f.kinds.length≤6)∨retB f.ret=false then 5 else 0
def ybm:Str→Option (Str × Str)
 | []=>none
 | c::r=>if c=62 then some ([],r) else (ybm r).map fun x=>(c::x.1,x.2)
def argB (p:Bool) (a:Str):Bool:=decide (a=[])||(p&&y6t a)
def yai (c:Cn):Bool:=match ybm c.tag with
 | none=>false
 | some (l,r)=>decide (c.k=0)&&kpB l&&decide (l.length≤6)&&(decide (r=[])||decide (r=[105])||decide (r=[112]))&&decide (c.args.length=l.length+1) &&
   (List.range c.args.length).all fun i=>argB (if i=0 then decide (r=[112]) else decide (l[i-1]?=some 112)) (c.args.getD i [])
def ydn (s:Str):Bool:=match y56 s with
 | some d=>decide (d.kind=3)
 | none=>false
def cnE (c:Cn):Int:=
 if c.op<1∨6<c.op then 5
 else if ¬(y6t c.a=true∧(c.op=6→ydn c.a=true)∧(if c.op=1 then y85 c.b=true else y6t c.b=true)) then 11
 else if c.op=6 then (if yai c then 0 else 3)
 else if c.op=5 then (if c.args=[]∧0≤c.k∧c.k≤64∧yko c.tag=true then 0 else 3)
 else if c.args=[]∧c.k=0∧c.tag=[] then 0 else 3
def yad (x y:Int):Int:=if x<y then -1 else if x=y then 0 else 1
def cmpN (x y:Nat):Int:=if x<y then -1 else if x=y then 0 else 1
def orI:List Int→Int
 | []=>0
 | x::r=>if x≠0 then x else orI r
def ycz:List Str→List Str→Int
 | [],b=>cmpN 0 b.length
 | a::r,[]=>1
 | a::r,b::q=>if y7v a b≠0 then y7v a b else ycz r q
def yae (a b:Cn):Int:=orI [yad a.op b.op,y7v a.a b.a,y7v a.b b.b,yad a.k b.k,y7v a.tag b.tag,ycz a.args b.args]
def chk {α:Type} (ask:α→Int) (cmp:α→α→Int):Option α→List α→Int
 | _,[]=>0
 | p,x::r=>if ask x≠0 then ask x else if (match p with | some y=>decide (0≤cmp y x) | none=>false) then 13 else chk ask cmp (some x) r
def ylv (a b:Ob):Int:=y7v a.name b.name
def ylw (a b:Fu):Int:=y7v a.name b.name
def ybl (s:Sy):Int:=
 if 600<s.objs.length∨600<s.fns.length∨6000<s.cons.length then 4
 else orI [chk obE ylv none s.objs,chk fuE ylw none s.fns,chk cnE yae none s.cons]
def y90 (obj:Str) (k:Nat):Str:=match y56 obj with
 | some d=>if d.kind<5∨d.cell≠-1 then [] else if y5r { d with cell:=k } then y2w { d with cell:=k } else []
 | none=>[]
def yjw (o:Ob) (all:Bool) (i:Nat):Bool:=all||decide (o.kinds[i]?=some 112)
def ye6 (o:Ob) (all:Bool):List Str:=((List.range o.kinds.length).filter (yjw o all)).map (y90 o.name)
def y41 (s:Sy):List Str:=(s.objs.flatMap fun o=>ye6 o true)++(s.fns.map Fu.name++s.cons.filterMap fun c=>if c.op=1 then some c.b else none)
theorem u8_ne (a:UInt8) (n:Nat) (hn:n<256):((a.toNat:Int)=n)=(a=UInt8.ofNat n):=by
 apply propext
 constructor
 ·intro h
  have:a.toNat=n:=by omega
  rw [←this];simp
 ·intro h;subst h;simp;omega
theorem yca (a b:Str) (H:Hp):AC Tryz.prog y4k [.s a,.s b] H (fun v H'=>v=.i .i64 (y7v a b)∧H'=H):=by
 refine AC.code y1t.at y1t.ok ?_
 simp only [y1t]
 apply jA
 simp [y1t.r0]
 apply jC
 simp [y1t.r1]
 refine AX.pcond rfl (fun hb=>?_) (fun hb=>?_)
 ·have hb0:=hb
  apply jA
  simp [y1t.r2]
  apply jD
  simp [y7v,hb]
 have hb0:=hb
 apply jA
 simp [y1t.r3]
 refine AX.pcond rfl (fun hc=>?_) (fun hc=>AX.skip ?_)
 ·simp at hc
  apply jA
  simp [y1t.r4]
  apply jD
  have:a≠b:=hc.2
  simp [y7v,hb,this]
 simp at hc
 simp
 apply jA
 simp [y1t.r5]
 apply jD
 have:a=b:=hc hb
 simp [y7v,this,y4z]
theorem yg8 (a b:Int) (H:Hp):AC Tryz.prog y5j [.i .i64 a,.i .i64 b] H (fun v H'=>v=.i .i64 (yad a b)∧H'=H):=by
 refine AC.code y20.at y20.ok ?_
 simp only [y20]
 apply jA
 simp [y20.r0]
 apply jC
 simp [y20.r1]
 refine AX.pcond rfl (fun hb=>?_) (fun hb=>?_)
 ·simp at hb
  apply jA
  simp [y20.r2]
  apply jD
  simp [yad,hb]
 simp at hb
 apply jA
 simp [y20.r3]
 refine AX.pcond rfl (fun hc=>?_) (fun hc=>AX.skip ?_)
 ·simp at hc
  apply jA
  simp [y20.r4]
  apply jD
  simp [yad,show ¬a<b by omega,show ¬a=b by omega]
 simp at hc
 simp
 apply jA
 simp [y20.r5]
 apply jD
 simp [yad,show ¬a<b by omega,show a=b by omega]
theorem ygp {s:Str} {d:Nd} (h:y56 s=some d):d.fn.length≤s.length∧d.name.length≤s.length:=by
 unfold y56 at h
 split at h
 ·injection h with h;subst h;exact ygq s
 ·cases h
theorem yfy {H:Hp} (hlt:∀id blk,H.get id=some blk→id<H.next) (a b:Blk):H.Ext ((H.add a).upd H.next b):=(Hp.Ext.add hlt _).upd hlt (kG _) _
theorem lt2 {H:Hp} (hlt:∀id blk,H.get id=some blk→id<H.next) (a b:Blk):∀id blk,((H.add a).upd H.next b).get id=some blk→id<((H.add a).upd H.next b).next:=Hp.upd_lt (Hp.add_lt hlt _) (by simp) _
def ybp (l r:Str):Bool:=kpB l&&decide (l.length≤6)&&(decide (r=[])||decide (r=[105])||decide (r=[112]))
def ptrB (l r:Str) (i:Nat):Bool:=if i=0 then decide (r=[112]) else decide (l[i-1]?=some 112)
def ypo (l r:Str) (args:List Str):Bool:=(List.range args.length).all fun i=>argB (ptrB l r i) (args.getD i [])
theorem ycm (c:Cn):yai c=match ybm c.tag with
  | none=>false
  | some (l,r)=>ybp l r&&decide (c.k=0)&&decide (c.args.length=l.length+1)&&ypo l r c.args:=by
 unfold yai
 cases h:ybm c.tag with
 | none=>rfl
 | some x=>
  obtain ⟨l,r⟩:=x
  simp only [ybp,ypo,ptrB]
  cases kpB l <;> cases decide (c.k=0) <;> simp
theorem argsB_no {l r:Str} {args:List Str} {i:Nat} (h:i<args.length) (hn:argB (ptrB l r i) (args.getD i [])=false):ypo l r args=false:=by
 cases hk:ypo l r args
 ·rfl
 ·have:=List.all_eq_true.1 hk i (List.mem_range.2 h)
  rw [hn] at this;cases this
theorem yjd:∀{t:Str} {l r:Str},ybm t=some (l,r)→l.length+r.length+1=t.length
 | [],l,r,h=>by simp [ybm] at h
 | c::q,l,r,h=>by
  unfold ybm at h
  split at h
  ·injection h with h;injection h with h1 h2;subst h1;subst h2;simp
  ·cases hs:ybm q with
   | none=>rw [hs] at h;cases h
   | some x=>
    rw [hs] at h;injection h with h;injection h with h1 h2
    have:=yjd (t:=q) (l:=x.1) (r:=x.2) (by rw [hs])
    subst h1;subst h2;simp;omega
def cnB (c:Cn):Bool:=y6t c.a&&(!decide (c.op=6)||ydn c.a)&&(if c.op=1 then y85 c.b else y6t c.b)
theorem yhf (c:Cn):cnE c=if c.op<1∨6<c.op then 5 else if cnB c=false then 11 else if c.op=6 then (if yai c then 0 else 3)
  else if ¬c.args=[] then 3 else if c.op=5 then (if 0≤c.k∧c.k≤64∧1≤c.tag.length∧c.tag.length≤60 then 0 else 3) else if c.k=0∧c.tag=[] then 0 else 3:=by
 unfold cnE
 by_cases h1:c.op<1∨6<c.op
 ·rw [if_pos h1,if_pos h1]
 rw [if_neg h1,if_neg h1]
 have e:(y6t c.a=true∧(c.op=6→ydn c.a=true)∧(if c.op=1 then y85 c.b=true else y6t c.b=true))↔cnB c=true:=by
  unfold cnB
  by_cases h6:c.op=6
  ·simp [h6,and_assoc]
  ·by_cases h1:c.op=1 <;> simp [h6,h1]
 by_cases h2:cnB c=true
 ·rw [if_neg (Classical.not_not.2 (e.2 h2)),if_neg (show ¬cnB c=false by simp [h2])]
  by_cases h6:c.op=6
  ·rw [if_pos h6,if_pos h6]
  rw [if_neg h6,if_neg h6]
  by_cases ha:c.args=[]
  ·by_cases h5:c.op=5
   ·simp [ha,h5,yko,and_assoc]
   ·simp [ha,h5]
  ·by_cases h5:c.op=5
   ·simp [ha,h5]
   ·simp [ha,h5]
 ·rw [if_pos (fun h=>h2 (e.1 h)),if_pos (by simpa using h2)]
def mk1B (n:Nat) (l:List Mk) (m:Mk):Bool:=decide (0≤m.pos)&&decide (m.pos<n)&&yko m.tag&&decide (∀x,l.getLast?=some x→x.pos≤m.pos)
theorem mkB_eq (n:Nat) (l:List Mk) (m:Mk):mkB n l m=(mk1B n l m&&decide (m∉l)):=rfl
theorem ynr {n:Nat} {ms:List Mk} {i:Nat} (h:i<ms.length):mksB n (ms.take i) (ms.drop i)=(mkB n (ms.take i) ms[i]&&mksB n (ms.take (i+1)) (ms.drop (i+1))):=by
 rw [kP h]
 simp only [mksB]
 rw [List.take_append_getElem h]
theorem mk_eq (q mk:Mk):y51 [0,1] [.i .i64 q.pos,.s q.tag] [.i .i64 mk.pos,.s mk.tag]=some (decide (q=mk)):=by
 have:decide (q=mk)=(decide (q.pos=mk.pos)&&decide (q.tag=mk.tag)):=by
  cases q;cases mk;simp
 rw [this]
 have e1:(q.pos == mk.pos)=decide (q.pos=mk.pos):=rfl
 have e2:(q.tag == mk.tag)=decide (q.tag=mk.tag):=by rw [Bool.eq_iff_iff];simp
 simp only [y51,y8k,if_true,e1,e2]
 cases decide (q.pos=mk.pos) <;> cases decide (q.tag=mk.tag) <;> rfl
def zi (l:List Int):List (List V):=l.map fun x=>[V.i .i64 x]
def yei:List Str→List Str→List Int
 | a::r,b::q=>y7v a b::yei r q
 | _,_=>[]
theorem y93 (x:List Int) (y:List Int):orI (x++y)=if orI x≠0 then orI x else orI y:=by
 induction x with
 | nil=>simp [orI]
 | cons a r ih=>
  by_cases h:a=0
  ·simp [orI,h,ih]
  ·simp [orI,h]
theorem ynb:∀(a b:List Str),orI (yei a b++[yad a.length b.length])=ycz a b
 | [],b=>by
  simp only [yei,ycz,orI,List.nil_append,yad,cmpN]
  cases b <;> simp
 | a::r,[]=>by
  have:¬((r.length:Int)+1<0):=by omega
  have h2:¬((r.length:Int)+1=0):=by omega
  simp [yei,ycz,orI,yad,this,h2]
 | a::r,b::q=>by
  have ih:=ynb r q
  have e:yad ((a::r).length:Nat) ((b::q).length:Nat)=yad r.length q.length:=by
   unfold yad;simp
  simp only [yei,List.cons_append,orI,ycz,e,ih]
def cmpR (a b:Cn):List Int:=[yad a.op b.op,y7v a.a b.a,y7v a.b b.b,yad a.k b.k,y7v a.tag b.tag]++yei a.args b.args++[yad a.args.length b.args.length]
theorem cmpR_eq (a b:Cn):orI (cmpR a b)=yae a b:=by
 unfold cmpR yae
 rw [kW,y93,ynb]
 simp only [orI]
 by_cases h:ycz a.args b.args=0 <;> simp [h,orI] <;> (repeat' split) <;> simp_all
theorem zi_flat (l:List Int):(zi l).flatten=l.map fun x=>V.i .i64 x:=by
 induction l with
 | nil=>rfl
 | cons a r ih=>simp [zi] at ih ⊢;exact ih
def CmInv (a b:Cn) (c5:List Int) (H:Hp) (m:Nat) (F:Fr) (X:Hp):Prop:=
 ∃i v,i≤a.args.length∧i≤b.args.length∧m=a.args.length-i∧Acc H 1 v X (zi (c5++(yei a.args b.args).take i))∧F=[(2,.fp (y3n a) 0),(3,.fp (y3n b) 0),(5,v),(6,.i .i64 i)]
theorem yj6:∀(a b:List Str),(yei a b).length=min a.length b.length
 | [],b=>by simp [yei]
 | a::r,[]=>by simp [yei]
 | a::r,b::q=>by simp [yei,yj6 r q]
theorem yj7:∀{a b:List Str} {i:Nat} (h:i<a.length) (h2:i<b.length),(yei a b)[i]?=some (y7v a[i] b[i])
 | [],b,i,h,_=>by simp at h
 | a::r,[],i,_,h=>by simp at h
 | a::r,b::q,0,_,_=>by simp [yei]
 | a::r,b::q,i+1,h,h2=>by
  simp at h h2
  simp [yei,yj7 h h2]
def CmInv1 (R:List Int) (v:V) (X:Hp) (m:Nat) (F:Fr) (Y:Hp):Prop:=
 ∃k,k≤R.length∧m=R.length-k∧orI (R.take k)=0∧Y=X∧F=[(5,v),(7,.i .i64 k)]
theorem yee (a b:Cn) (ha:a.args.length≤1000000) (hb:b.args.length≤9223372036854775807) (H:Hp):AC Tryz.prog y5e [.agg (y3n a),.agg (y3n b)] H (fun v H'=>v=.i .i64 (yae a b)∧H'=H):=by
 refine AC.codeP yr.at yr.ok (by simp) fun hlt=>?_
 simp only [yr]
 apply jA
 simp [yr.r0,y3n]
 refine AX.seq (AX.drw ?_)
 simp [yr.r1]
 refine y32 _ (fun H2=>yg8 a.op b.op H2) ?_
 simp
 refine y32 _ (fun H2=>yca a.a b.a H2) ?_
 simp
 refine y32 _ (fun H2=>yca a.b b.b H2) ?_
 simp
 refine y32 _ (fun H2=>yg8 a.k b.k H2) ?_
 simp
 refine y32 _ (fun H2=>yca a.tag b.tag H2) ?_
 simp [show y7x 5 [V.i .i64 0]=[.i .i64 0,.i .i64 0,.i .i64 0,.i .i64 0,.i .i64 0] from rfl]
 let c5:List Int:=[yad a.op b.op,y7v a.a b.a,y7v a.b b.b,yad a.k b.k,y7v a.tag b.tag]
 have A0:Acc H 1 (.sl (some (H.next,0,5)) 5 1) (H.add (.cells [.i .i64 (yad a.op b.op),.i .i64 (y7v a.a b.a),.i .i64 (y7v a.b b.b),.i .i64 (yad a.k b.k),.i .i64 (y7v a.tag b.tag)] 5)) (zi (c5++(yei a.args b.args).take 0)):=
  ⟨Hp.Ext.add hlt _,Hp.add_lt hlt _,fun e he=>by obtain ⟨x,_,rfl⟩:=List.mem_map.1 he;rfl,.inr ⟨H.next,5,kG _,rfl,by simp [zi,c5],by simp [zi,c5]⟩⟩
 have hc5:c5.length=5:=rfl
 have eR:cmpR a b=c5++yei a.args b.args++[yad a.args.length b.args.length]:=rfl
 generalize H.add (.cells [.i .i64 (yad a.op b.op),.i .i64 (y7v a.a b.a),.i .i64 (y7v a.b b.b),.i .i64 (yad a.k b.k),.i .i64 (y7v a.tag b.tag)] 5)=X0 at *
 generalize V.sl (some (H.next,0,5)) 5 1=v0 at *
 clear_value c5
 apply jB
 simp [yr.r2]
 refine AX.pblock (AX.loop (CmInv a b c5 H) a.args.length ⟨_,_,.refl _ _,0,v0,by omega,by omega,by omega,A0,by simp [y3n]⟩ ?_)
 rintro m F X ⟨i,v,hia,hib,rfl,A,rfl⟩
 simp only [yr.l0]
 have hzl:=yj6 a.args b.args
 refine AX.seq (AX.test (decide (i<a.args.length)&&decide (i<b.args.length)) [(2,.fp (y3n a) 0),(3,.fp (y3n b) 0),(5,v),(6,.i .i64 i),(45,.b (decide (i<a.args.length)&&decide (i<b.args.length)))] ?_ rfl (fun hc=>AX.skip ?_) (fun hc=>AX.exit ?_))
 ·by_cases h1:i<a.args.length
  ·simp [yr.r3,y3n,ss,h1]
  ·simp [yr.r3,y3n,ss,h1]
 ·simp at hc
  obtain ⟨h1,h2⟩:=hc
  simp
  have hz:=yj7 h1 h2
  have hA:(zi (c5++(yei a.args b.args).take (i+1)))=zi (c5++(yei a.args b.args).take i)++[[V.i .i64 (y7v a.args[i] b.args[i])]]:=by
   rw [kJ,hz]
   simp [zi]
  obtain ⟨v1,X1,e1,A1⟩:=A.app (bytes:=8) (ys:=[[V.i .i64 (y7v a.args[i] b.args[i])]]) hlt (by simp) (by omega) (by simp) (by simp [zi,y4x,hc5];omega)
  rw [←hA] at A1
  refine AX.seq (AX.pblock (AX.drw ?_))
  simp [yr.r4,y3n,ss,h1,h2]
  refine y32 _ (fun H2=>yca a.args[i] b.args[i] H2) ?_
  simp [y7x,-y28,e1]
  apply jE
  simp [yr.r5,y2g h1 (show a.args.length≤9223372036854775807 by omega)]
  exact ⟨a.args.length-(i+1),by omega,_,_,.refl _ _,i+1,v1,by omega,by omega,rfl,A1,by simp [y3n,ss]⟩
 simp at hc
 have hA:(yei a.args b.args).take i=yei a.args b.args:=kI (by rw [hzl];omega)
 rw [hA] at A
 have hA2:zi (cmpR a b)=zi (c5++yei a.args b.args)++[[V.i .i64 (yad a.args.length b.args.length)]]:=by rw [eR];simp [zi]
 obtain ⟨v1,X1,e1,A1⟩:=A.app (bytes:=8) (ys:=[[V.i .i64 (yad a.args.length b.args.length)]]) hlt (by simp) (by omega) (by simp) (by simp [zi,y4x,hc5,hzl];omega)
 rw [←hA2] at A1
 rw [←cmpR_eq]
 have hRl:(cmpR a b).length≤1000010:=by rw [eR];simp [hc5,hzl];omega
 have hRn:cmpR a b≠[]:=by rw [eR];simp
 generalize cmpR a b=R at *
 simp
 apply jA
 simp [yr.r6,y3n,ss]
 refine AC.fix (yg8 a.args.length b.args.length _) ?_
 simp [y7x,-y28,e1]
 apply jB
 simp [yr.r7]
 have hR0:R≠[]:=hRn
 obtain ⟨id,mm,h1,rfl,h2,h3⟩:∃id m,H.next≤id∧v1=.sl (some (id,0,R.length)) R.length 1∧X1.get id=some (.cells (R.map fun x=>V.i .i64 x) m)∧m≤R.length:=by
  have hf:=zi_flat R
  rcases A1.sl with ⟨h,_⟩ | ⟨id,m,h1,h2,h3,h4⟩
  ·exact absurd (by simpa [zi] using h) hR0
  ·rw [hf] at h2 h3 h4
   exact ⟨id,m,h1,by simpa [zi] using h2,h3,by simpa using h4⟩
 refine AX.pblock (AX.loop (CmInv1 R (.sl (some (id,0,R.length)) R.length 1) X1) R.length ⟨_,_,.refl _ _,0,by omega,by omega,by simp [orI],rfl,rfl⟩ ?_)
 rintro m F Y ⟨k,hk,rfl,ho,rfl,rfl⟩
 simp only [yr.l1]
 apply jB
 simp [yr.r8]
 refine AX.pcond rfl (fun hd=>AX.skip ?_) (fun hd=>AX.exit ?_)
 case refine_2=>
  simp at hd
  rw [kI hd] at ho
  simp
  apply jA
  simp [yr.r12]
  apply jD
  simp [ho]
  exact ⟨A1.ext,.refl _⟩
 simp at hd
 have hsp:orI R=if R[k]≠0 then R[k] else orI (R.drop (k+1)):=by
  conv=>lhs;rw [←List.take_append_drop k R,kP hd]
  rw [y93]
  simp [ho,orI]
 have hst:orI (R.take (k+1))=R[k]:=by
  rw [kJ,kC hd,y93]
  simp [ho,orI]
  exact fun h=>h.symm
 simp
 apply jC
 have hdk:List.take 1 (List.drop k (R.map fun x=>V.i .i64 x))=[V.i .i64 R[k]]:=by
  rw [←List.map_drop,kP hd];rfl
 simp [yr.r9,hd,h2,h3,show k+1≤R.length from hd,hdk]
 refine AX.pcond rfl (fun he=>?_) (fun he=>AX.skip ?_)
 ·simp at he
  apply jA
  simp [yr.r10,hd,h2,h3,show k+1≤R.length from hd,hdk]
  apply jD
  simp [hsp,he]
  exact ⟨A1.ext,.refl _⟩
 simp at he
 simp
 apply jE
 simp [yr.r11,y2g hd (show R.length≤9223372036854775807 by omega)]
 exact ⟨R.length-(k+1),by omega,_,_,.refl _ _,k+1,by omega,rfl,by rw [hst,he],rfl,by simp⟩
def obS (o:Ob):Prop:=o.name.length≤140737488355328∧o.kinds.length≤140737488355328∧o.marks.length≤1000000∧∀m∈o.marks,m.tag.length≤140737488355328
def fuS (f:Fu):Prop:=f.name.length≤140737488355328∧f.kinds.length≤140737488355328
def cnS (c:Cn):Prop:=c.a.length≤140737488355328∧c.b.length≤140737488355328∧c.tag.length≤140737488355328∧c.args.length≤1000000∧∀a∈c.args,a.length≤140737488355328
def syS (s:Sy):Prop:=s.objs.length≤1000000∧s.fns.length≤1000000∧s.cons.length≤1000000000000∧(∀o∈s.objs,obS o)∧(∀f∈s.fns,fuS f)∧∀c∈s.cons,cnS c
def pv {α:Type} (l:List α) (i:Nat):Option α:=if i=0 then none else l[i-1]?
def ygu {α:Type} (cmp:α→α→Int) (p:Option α) (x:α):Bool:=match p with
 | some y=>decide (0≤cmp y x)
 | none=>false
theorem yg1 {α:Type} {ask:α→Int} {cmp:α→α→Int} {l:List α} {i:Nat} (h:i<l.length):
  chk ask cmp (pv l i) (l.drop i)=if ask l[i]≠0 then ask l[i] else if ygu cmp (pv l i) l[i] then 13 else chk ask cmp (pv l (i+1)) (l.drop (i+1)):=by
 rw [kP h]
 have:pv l (i+1)=some l[i]:=by simp [pv,h]
 rw [this]
 rfl
theorem yiq {α:Type} {ask:α→Int} {cmp:α→α→Int} {l:List α} {i:Nat} (h:l.length≤i):chk ask cmp (pv l i) (l.drop i)=0:=by
 rw [List.drop_eq_nil_of_le h]
 cases pv l i <;> rfl
theorem or0 (x:Int) (r:List Int) (h:x=0):orI (x::r)=orI r:=by simp [orI,h]
theorem or1 (x:Int) (r:List Int) (h:¬x=0):orI (x::r)=x:=by simp [orI,h]
theorem yg2 {α:Type} {ask:α→Int} {cmp:α→α→Int}:∀{l:List α} {p:Option α},chk ask cmp p l=0→∀x∈l,ask x=0
 | [],_,_,x,hx=>by cases hx
 | a::r,p,h,x,hx=>by
  rw [show chk ask cmp p (a::r)=if ask a≠0 then ask a else if ygu cmp p a then 13 else chk ask cmp (some a) r from rfl] at h
  split at h
  ·rename_i h1;exact absurd h h1
  rename_i h1
  split at h
  ·exact absurd h (by decide)
  rcases List.mem_cons.1 hx with rfl | hx
  ·exact Classical.not_not.1 h1
  ·exact yg2 h x hx
theorem ya1 {x:Int} {r:List Int} (h:orI (x::r)=0):x=0∧orI r=0:=by
 by_cases e:x=0
 ·rw [or0 _ _ e] at h;exact ⟨e,h⟩
 ·rw [or1 _ _ e] at h;exact absurd h e
theorem y9z {s:Sy} (h:ybl s=0):s.objs.length≤600∧s.fns.length≤600∧s.cons.length≤6000∧(∀o∈s.objs,obE o=0)∧(∀f∈s.fns,fuE f=0)∧∀c∈s.cons,cnE c=0:=by
 unfold ybl at h
 split at h
 ·cases h
 rename_i hn
 obtain ⟨h1,h⟩:=ya1 h
 obtain ⟨h2,h⟩:=ya1 h
 obtain ⟨h3,h⟩:=ya1 h
 exact ⟨by omega,by omega,by omega,yg2 h1,yg2 h2,yg2 h3⟩
theorem yfm {o:Ob} (h:obE o=0):o.kinds.length≤64:=by
 unfold obE at h
 cases hr:y56 o.name with
 | none=>rw [hr] at h;cases h
 | some d=>
  rw [hr] at h
  simp only at h
  split at h
  ·cases h
  split at h
  ·cases h
  rename_i _ h2
  exact (Classical.not_not.1 h2).2.2
theorem yp0 {c:Cn} (h:cnE c=0):c.args.length≤7:=by
 rw [yhf] at h
 split at h
 ·cases h
 split at h
 ·cases h
 split at h
 ·split at h
  ·rename_i hc
   rw [ycm] at hc
   cases hs:ybm c.tag with
   | none=>rw [hs] at hc;cases hc
   | some x=>
    obtain ⟨l,r⟩:=x
    rw [hs] at hc
    simp [ybp] at hc
    omega
  ·cases h
 split at h
 ·cases h
 rename_i ha
 rw [Classical.not_not.1 ha];simp
def yp6 (o:Ob) (all:Bool) (i:Nat):List Str:=((List.range i).filter (yjw o all)).map (y90 o.name)
theorem ylc (o:Ob) (all:Bool) (i:Nat):(yp6 o all i).length≤i:=by
 unfold yp6
 rw [List.length_map]
 have:=List.length_filter_le (yjw o all) (List.range i)
 simpa using this
theorem yob {α β:Type} {f:α→List β} {n:Nat}:∀{l:List α},(∀x∈l,(f x).length≤n)→(l.flatMap f).length≤n*l.length
 | [],_=>by simp
 | a::r,h=>by
  have h1:=h a (by simp)
  have h2:=yob (l:=r) fun x hx=>h x (by simp [hx])
  simp only [List.flatMap_cons,kT,kO,Nat.mul_succ]
  omega
def obP (s:Sy) (all:Bool) (i:Nat):List Str:=(s.objs.take i).flatMap fun o=>ye6 o all
theorem yp5 {o:Ob} (all:Bool) (h:obE o=0):(ye6 o all).length≤64:=by
 have h1:=yfm h
 have h2:=ylc o all o.kinds.length
 have:ye6 o all=yp6 o all o.kinds.length:=rfl
 rw [this];omega
theorem obP_len {s:Sy} (all:Bool) (h:ybl s=0) (i:Nat):(obP s all i).length≤38400:=by
 obtain ⟨h1,_,_,h4,_,_⟩:=y9z h
 have:=yob (f:=fun o=>ye6 o all) (n:=64) (l:=s.objs.take i) fun o ho=>yp5 all (h4 o (List.mem_of_mem_take ho))
 have h2:(s.objs.take i).length≤600:=by simp;omega
 unfold obP;omega
end Go.Proofs.YtikpijbeobeckaaGreatDoor
