/- Part 28. -/
import Derived.Test.YthmkcebbeehbeaaGreatDoorXGw25
import Derived.Test.YthmkcebbeehbeaaGreatDoorXGw27
set_option linter.unusedSimpArgs false
set_option linter.unusedVariables false
namespace Go.Proofs.YthmkcebbeehbeaaGreatDoor
open Am C
structure Mk where
 pos:Int
 tag:Str
 deriving DecidableEq
structure Ob where
 name:Str
 kinds:Str
 marks:List Mk
 deriving DecidableEq
structure Fu where
 name:Str
 kinds:Str
 ret:Str
 deriving DecidableEq
structure Cn where
 op:Int
 a:Str
 b:Str
 k:Int
 tag:Str
 args:List Str
structure Sy where
 objs:List Ob
 fns:List Fu
 cons:List Cn
def ycm (m:Mk):List V:=[.i .i64 m.pos,.s m.tag]
def y62 (o:Ob):List V:=[.s o.name,.s o.kinds,.fs (o.marks.map ycm)]
def y9n (f:Fu):List V:=[.s f.name,.s f.kinds,.s f.ret]
def y6i (c:Cn):List V:=[.i .i64 c.op,.s c.a,.s c.b,.i .i64 c.k,.s c.tag,ss c.args]
def yaf (s:Sy):List V:=[.fs (s.objs.map y62),.fs (s.fns.map y9n),.fs (s.cons.map y6i)]
def yay (s:Str):Bool:=match ydw s with
 | some d=>decide (d.kind≤3)||decide (0≤d.cell)
 | none=>false
def yfa (s:Str):Bool:=match ydw s with
 | some d=>decide (d.kind=4)||decide (0≤d.cell)
 | none=>false
def kpB (s:Str):Bool:=s.all fun c=>c == 105||c == 112
def ynk (t:Str):Bool:=decide (1≤t.length)&&decide (t.length≤60)
def mkB (n:Nat) (l:List Mk) (m:Mk):Bool:=decide (0≤m.pos)&&decide (m.pos<n)&&ynk m.tag&&decide (∀x,l.getLast?=some x→x.pos≤m.pos)&&decide (m∉l)
def ypu (n:Nat):List Mk→List Mk→Bool
 | _,[]=>true
 | l,m::r=>mkB n l m&&ypu n (l++[m]) r
def obE (o:Ob):Int:=match ydw o.name with
 | none=>11
 | some d=>if d.kind<5∨0≤d.cell then 11 else if ¬(kpB o.kinds=true∧1≤o.kinds.length∧o.kinds.length≤64) then 5 else if ypu o.kinds.length [] o.marks then 0 else 3
def retB (r:Str):Bool:=decide (r=[105])||decide (r=[112])||decide (r=[118])
def fuE (f:Fu):Int:=match ydw f.name with
 | none=>11
 | some d=>if d.kind≠4 then 11 else if ¬(kpB f.kinds=true∧f.kinds.length≤6)∨retB f.ret=false then 5 else 0
def yie:Str→Option (Str × Str)
 | []=>none
 | c::r=>if c=62 then some ([],r) else (yie r).map fun x=>(c::x.1,x.2)
def yqg (p:Bool) (a:Str):Bool:=decide (a=[])||(p&&yay a)
def yf0 (c:Cn):Bool:=match yie c.tag with
 | none=>false
 | some (l,r)=>decide (c.k=0)&&kpB l&&decide (l.length≤6)&&(decide (r=[])||decide (r=[105])||decide (r=[112]))&&decide (c.args.length=l.length+1) &&
   (List.range c.args.length).all fun i=>yqg (if i=0 then decide (r=[112]) else decide (l[i-1]?=some 112)) (c.args.getD i [])
def yh9 (s:Str):Bool:=match ydw s with
 | some d=>decide (d.kind=3)
 | none=>false
def cnE (c:Cn):Int:=
 if c.op<1∨6<c.op then 5
 else if ¬(yay c.a=true∧(c.op=6→yh9 c.a=true)∧(if c.op=1 then yfa c.b=true else yay c.b=true)) then 11
 else if c.op=6 then (if yf0 c then 0 else 3)
 else if c.op=5 then (if c.args=[]∧0≤c.k∧c.k≤64∧ynk c.tag=true then 0 else 3)
 else if c.args=[]∧c.k=0∧c.tag=[] then 0 else 3
def yh4 (x y:Int):Int:=if x<y then -1 else if x=y then 0 else 1
def cmpN (x y:Nat):Int:=if x<y then -1 else if x=y then 0 else 1
def orI:List Int→Int
 | []=>0
 | x::r=>if x≠0 then x else orI r
def ylv:List Str→List Str→Int
 | [],b=>cmpN 0 b.length
 | a::r,[]=>1
 | a::r,b::q=>if ydl a b≠0 then ydl a b else ylv r q
def yjh (a b:Cn):Int:=orI [yh4 a.op b.op,ydl a.a b.a,ydl a.b b.b,yh4 a.k b.k,ydl a.tag b.tag,ylv a.args b.args]
def chk {α:Type} (ask:α→Int) (cmp:α→α→Int):Option α→List α→Int
 | _,[]=>0
 | p,x::r=>if ask x≠0 then ask x else if (match p with | some y=>decide (0≤cmp y x) | none=>false) then 13 else chk ask cmp (some x) r
def yne (a b:Ob):Int:=ydl a.name b.name
def yol (a b:Fu):Int:=ydl a.name b.name
def yu8 (s:Sy):Int:=
 if 600<s.objs.length∨600<s.fns.length∨6000<s.cons.length then 4
 else orI [chk obE yne none s.objs,chk fuE yol none s.fns,chk cnE yjh none s.cons]
def KdInv (s:Str) (a b:Int) (H:Hp) (m:Nat) (F:Fr) (H':Hp):Prop:=
 ∃i,i≤s.length∧m=s.length-i∧kpB (s.take i)=true∧H'=H∧F=[(0,.s s),(1,.i .i64 a),(2,.i .i64 b),(7,.i .i64 i)]
theorem kpB_take {s:Str} {i:Nat} (h:i<s.length):kpB (s.take (i+1))=(kpB (s.take i)&&(s[i] == 105||s[i] == 112)):=by
 unfold kpB
 rw [kI,kB h,List.all_append]
 simp
theorem kpB_no {s:Str} {i:Nat} (h:i<s.length) (hn:¬(s[i] == 105||s[i] == 112)=true):kpB s=false:=by
 cases hk:kpB s
 ·rfl
 ·exact absurd (List.all_eq_true.1 hk _ (kK h)) hn
theorem yu1 (a:UInt8) (n:Nat) (hn:n<256):((a.toNat:Int)=n)=(a=UInt8.ofNat n):=by
 apply propext
 constructor
 ·intro h
  have:a.toNat=n:=by omega
  rw [←this];simp
 ·intro h;subst h;simp;omega
theorem yku (s:Str) (a b:Int) (hs:s.length≤9223372036854775807) (H:Hp):AC Tryz.prog y99 [.s s,.i .i64 a,.i .i64 b] H (fun v H'=>v=.b (kpB s&&(decide (a≤s.length)&&decide ((s.length:Int)≤b)))∧H'=H):=by
 refine AC.code y2a.at y2a.ok ?_
 simp only [y2a]
 apply jA
 simp [y2a.r0]
 apply jB
 simp [y2a.r1]
 refine AX.pblock (AX.loop (KdInv s a b H) s.length ⟨_,_,.refl _ _,0,by omega,by omega,rfl,rfl,rfl⟩ ?_)
 rintro m F H' ⟨i,hi,rfl,hk,rfl,rfl⟩
 simp only [y2a.l0]
 apply jB
 simp [y2a.r2]
 refine AX.pcond rfl (fun hb=>AX.skip ?_) (fun hb=>AX.exit ?_)
 case refine_2=>
  simp at hb
  rw [kH hb] at hk
  simp
  apply jA
  by_cases h1:a≤s.length
  ·simp [y2a.r6,h1]
   apply jD
   simp [hk,h1]
  ·simp [y2a.r6,h1]
   apply jD
   simp [hk,h1]
 simp at hb
 simp
 apply jC
 have e1:((s[i].toNat:Int)=105)=(s[i]=105):=yu1 s[i] 105 (by omega)
 have e2:((s[i].toNat:Int)=112)=(s[i]=112):=yu1 s[i] 112 (by omega)
 have hkt:=kpB_take hb
 by_cases h1:s[i]=105
 ·simp [y2a.r3,hb,e1,e2,h1]
  refine jF rfl (AX.skip ?_)
  simp
  apply jE
  simp [y2a.r5,y4d hb hs]
  exact ⟨s.length-(i+1),by omega,_,_,.refl _ _,i+1,by omega,rfl,by rw [hkt,hk];simp [h1],rfl,by simp⟩
 by_cases h2:s[i]=112
 ·simp [y2a.r3,hb,e1,e2,h1,h2]
  refine jF rfl (AX.skip ?_)
  simp
  apply jE
  simp [y2a.r5,y4d hb hs]
  exact ⟨s.length-(i+1),by omega,_,_,.refl _ _,i+1,by omega,rfl,by rw [hkt,hk];simp [h2],rfl,by simp⟩
 simp [y2a.r3,hb,e1,e2,h1,h2]
 refine jG rfl ?_
 apply jA
 simp [y2a.r4]
 apply jD
 simp [kpB_no hb (by simp [h1,h2])]
theorem yib (s:Str) (hs:s.length≤9223372036854775807) (H:Hp):AC Tryz.prog y8o [.s s] H (fun v H'=>v=.b (yay s)∧H'=H):=by
 refine AC.codeP y4f.at y4f.ok (by simp) fun hlt=>?_
 simp only [y4f]
 apply jA
 simp [y4f.r0]
 apply jA
 simp [y4f.r1]
 refine AC.fix (ygi s hs _) ?_
 rw [yht]
 cases hr:ydw s with
 | none=>
  simp [rdV,nv,Nd.cs,Nd.zero]
  apply jA
  simp [y4f.r2]
  apply jD
  simp [yay,hr]
  exact ⟨(Hp.Ext.add hlt _).upd hlt (kF _) _,.refl _⟩
 | some d=>
  simp [rdV,nv,Nd.cs]
  apply jA
  by_cases hk:d.kind≤3
  ·simp [y4f.r2,hk]
   apply jD
   simp [yay,hr,hk]
   exact ⟨(Hp.Ext.add hlt _).upd hlt (kF _) _,.refl _⟩
  ·simp [y4f.r2,hk]
   apply jD
   simp [yay,hr,hk]
   exact ⟨(Hp.Ext.add hlt _).upd hlt (kF _) _,.refl _⟩
theorem ywz (s:Str) (hs:s.length≤9223372036854775807) (H:Hp):AC Tryz.prog ycd [.s s] H (fun v H'=>v=.b (yfa s)∧H'=H):=by
 refine AC.codeP y46.at y46.ok (by simp) fun hlt=>?_
 simp only [y46]
 apply jA
 simp [y46.r0]
 apply jA
 simp [y46.r1]
 refine AC.fix (ygi s hs _) ?_
 rw [yht]
 cases hr:ydw s with
 | none=>
  simp [rdV,nv,Nd.cs,Nd.zero]
  apply jA
  simp [y46.r2]
  apply jD
  simp [yfa,hr]
  exact ⟨(Hp.Ext.add hlt _).upd hlt (kF _) _,.refl _⟩
 | some d=>
  simp [rdV,nv,Nd.cs]
  apply jA
  by_cases hk:d.kind=4
  ·simp [y46.r2,hk]
   apply jD
   simp [yfa,hr,hk]
   exact ⟨(Hp.Ext.add hlt _).upd hlt (kF _) _,.refl _⟩
  ·simp [y46.r2,hk]
   apply jD
   simp [yfa,hr,hk]
   exact ⟨(Hp.Ext.add hlt _).upd hlt (kF _) _,.refl _⟩
theorem yi9 (a b:Str) (H:Hp):AC Tryz.prog y81 [.s a,.s b] H (fun v H'=>v=.i .i64 (ydl a b)∧H'=H):=by
 refine AC.code y3a.at y3a.ok ?_
 simp only [y3a]
 apply jA
 simp [y3a.r0]
 apply jC
 simp [y3a.r1]
 refine AX.pcond rfl (fun hb=>?_) (fun hb=>?_)
 ·have hb0:=hb
  apply jA
  simp [y3a.r2]
  apply jD
  simp [ydl,hb]
 have hb0:=hb
 apply jA
 simp [y3a.r3]
 refine AX.pcond rfl (fun hc=>?_) (fun hc=>AX.skip ?_)
 ·simp at hc
  apply jA
  simp [y3a.r4]
  apply jD
  have:a≠b:=hc.2
  simp [ydl,hb,this]
 simp at hc
 simp
 apply jA
 simp [y3a.r5]
 apply jD
 have:a=b:=hc hb
 simp [ydl,this,yau]
theorem yn7 (a b:Int) (H:Hp):AC Tryz.prog y9r [.i .i64 a,.i .i64 b] H (fun v H'=>v=.i .i64 (yh4 a b)∧H'=H):=by
 refine AC.code y3h.at y3h.ok ?_
 simp only [y3h]
 apply jA
 simp [y3h.r0]
 apply jC
 simp [y3h.r1]
 refine AX.pcond rfl (fun hb=>?_) (fun hb=>?_)
 ·simp at hb
  apply jA
  simp [y3h.r2]
  apply jD
  simp [yh4,hb]
 simp at hb
 apply jA
 simp [y3h.r3]
 refine AX.pcond rfl (fun hc=>?_) (fun hc=>AX.skip ?_)
 ·simp at hc
  apply jA
  simp [y3h.r4]
  apply jD
  simp [yh4,show ¬a<b by omega,show ¬a=b by omega]
 simp at hc
 simp
 apply jA
 simp [y3h.r5]
 apply jD
 simp [yh4,show ¬a<b by omega,show a=b by omega]
theorem yga {H:Hp} (hlt:∀id blk,H.get id=some blk→id<H.next) (a b:Blk):H.Ext ((H.add a).upd H.next b):=(Hp.Ext.add hlt _).upd hlt (kF _) _
theorem lt2 {H:Hp} (hlt:∀id blk,H.get id=some blk→id<H.next) (a b:Blk):∀id blk,((H.add a).upd H.next b).get id=some blk→id<((H.add a).upd H.next b).next:=Hp.upd_lt (Hp.add_lt hlt _) (by simp) _
theorem yoz (f:Fu) (h1:f.name.length≤9223372036854775807) (h2:f.kinds.length≤9223372036854775807) (H:Hp):AC Tryz.prog yar [.agg (y9n f)] H (fun v H'=>v=.i .i64 (fuE f)∧H'=H):=by
 refine AC.codeP y1y.at y1y.ok (by simp) fun hlt=>?_
 simp only [y1y]
 apply jA
 simp [y1y.r0,y9n]
 apply jA
 simp [y1y.r1]
 refine AC.fix (ygi f.name h1 _) ?_
 rw [yht]
 cases hr:ydw f.name with
 | none=>
  simp [rdV,nv,Nd.cs,Nd.zero]
  apply jB
  simp [y1y.r2]
  refine jG rfl ?_
  apply jA
  simp [y1y.r3]
  apply jD
  simp [fuE,hr]
  exact ⟨yga hlt _ _,.refl _⟩
 | some d=>
  simp [rdV,nv,Nd.cs]
  apply jB
  by_cases hk:d.kind=4
  ·simp [y1y.r2,hk]
   refine jF rfl (AX.skip ?_)
   simp
   apply jB
   simp [y1y.r4]
   refine AC.fix (yku f.kinds 0 6 h2 _) ?_
   have eB:(kpB f.kinds&&(decide ((0:Int)≤f.kinds.length)&&decide ((f.kinds.length:Int)≤6)))=decide (kpB f.kinds=true∧f.kinds.length≤6):=by
    cases kpB f.kinds <;> simp
   rw [eB]
   by_cases hb:kpB f.kinds=true∧f.kinds.length≤6
   ·simp only [hb,decide_true]
    by_cases r1:f.ret=[105]
    ·simp [r1]
     refine jF rfl (AX.skip ?_)
     simp
     apply jA
     simp [y1y.r6]
     apply jD
     simp [fuE,hr,hk,hb,retB,r1]
     exact ⟨yga hlt _ _,.refl _⟩
    by_cases r2:f.ret=[112]
    ·simp [r1,r2]
     refine jF rfl (AX.skip ?_)
     simp
     apply jA
     simp [y1y.r6]
     apply jD
     simp [fuE,hr,hk,hb,retB,r2]
     exact ⟨yga hlt _ _,.refl _⟩
    by_cases r3:f.ret=[118]
    ·simp [r1,r2,r3]
     refine jF rfl (AX.skip ?_)
     simp
     apply jA
     simp [y1y.r6]
     apply jD
     simp [fuE,hr,hk,hb,retB,r3]
     exact ⟨yga hlt _ _,.refl _⟩
    simp [r1,r2,r3,show (f.ret == [105])=false by simpa using r1,show (f.ret == [112])=false by simpa using r2,show (f.ret == [118])=false by simpa using r3]
    refine jG rfl ?_
    apply jA
    simp [y1y.r5]
    apply jD
    simp [fuE,hr,hk,hb,retB,r1,r2,r3]
    exact ⟨yga hlt _ _,.refl _⟩
   ·simp only [hb,decide_false]
    simp
    refine jG rfl ?_
    apply jA
    simp [y1y.r5]
    apply jD
    have:fuE f=5:=by unfold fuE;rw [hr];simp only [hk];rw [if_neg (by simp),if_pos (.inl hb)]
    simp [this]
    exact ⟨yga hlt _ _,.refl _⟩
  ·simp [y1y.r2,hk]
   refine jG rfl ?_
   apply jA
   simp [y1y.r3]
   apply jD
   simp [fuE,hr,hk]
   exact ⟨yga hlt _ _,.refl _⟩
def yf3 (l r:Str):Bool:=kpB l&&decide (l.length≤6)&&(decide (r=[])||decide (r=[105])||decide (r=[112]))
def sigV (t:Str):V:=match yie t with
 | none=>.tup [.s [],.s [],.b false]
 | some (l,r)=>.tup [.s l,.s r,.b (yf3 l r)]
theorem yuf:∀{t:Str} {i:Nat},(62:UInt8)∉t.take i→(h:i<t.length)→t[i]=62→yie t=some (t.take i,t.drop (i+1))
 | [],i,_,h,_=>by simp at h
 | c::r,0,_,_,e=>by simp at e;simp [yie,e]
 | c::r,i+1,hn,h,e=>by
  simp at hn h e
  have hc:¬c=62:=fun h=>hn.1 h.symm
  simp [yie,hc,yuf hn.2 h e]
theorem yue:∀{t:Str},(62:UInt8)∉t→yie t=none
 | [],_=>rfl
 | c::r,h=>by
  simp at h
  have hc:¬c=62:=fun e=>h.1 e.symm
  simp [yie,hc,yue h.2]
def SigInv (t:Str) (H:Hp) (m:Nat) (F:Fr) (X:Hp):Prop:=
 ∃i,i≤t.length∧m=t.length-i∧(62:UInt8)∉t.take i∧X=H∧F=[(0,.s t),(5,.i .i64 i)]
theorem Sig_ok (t:Str) (ht:t.length≤9223372036854775807) (H:Hp):AC Tryz.prog ye1 [.s t] H (fun v H'=>v=sigV t∧H'=H):=by
 refine AC.code y2p.at y2p.ok ?_
 simp only [y2p]
 apply jA
 simp [y2p.r0]
 apply jB
 simp [y2p.r1]
 refine AX.pblock (AX.loop (SigInv t H) t.length ⟨_,_,.refl _ _,0,by omega,by omega,by simp,rfl,rfl⟩ ?_)
 rintro m F X ⟨i,hi,rfl,hn,rfl,rfl⟩
 simp only [y2p.l0]
 apply jB
 simp [y2p.r2]
 refine AX.pcond rfl (fun hb=>AX.skip ?_) (fun hb=>AX.exit ?_)
 case refine_2=>
  simp at hb
  rw [kH hb] at hn
  simp
  apply jA
  simp [y2p.r7]
  apply jD
  simp [sigV,yue hn]
 simp at hb
 simp
 apply jC
 have e1:((t[i].toNat:Int)=62)=(t[i]=62):=yu1 t[i] 62 (by omega)
 simp [y2p.r3,hb,e1]
 refine AX.pcond rfl (fun hc=>?_) (fun hc=>AX.skip ?_)
 ·simp at hc
  have es:=yuf hn hb hc
  apply jA
  simp [y2p.r4,y4d hb ht,show i+1≤t.length from hb,show (0:Int)≤(i:Int)+1 by omega,show (i:Int)+1≤(t.length:Int) by omega]
  generalize hl:t.take i=l at *
  generalize hr:t.drop (i+1)=r at *
  have hll:l.length≤9223372036854775807:=by rw [←hl];simp;omega
  have hil:i≤t.length:=hi
  refine AX.seq (AX.drw ?_)
  simp [y2p.r5,hil,hl]
  refine y5c _ (fun H2=>yku l 0 6 hll H2) ?_
  have eq:yf3 l r=((kpB l&&(decide ((0:Int)≤l.length)&&decide ((l.length:Int)≤6)))&&(decide (r=[])||decide (r=[105])||decide (r=[112]))):=by
   unfold yf3
   cases kpB l <;> simp
  have eV:sigV t=.tup [.s l,.s r,.b (yf3 l r)]:=by unfold sigV;rw [es]
  rw [eV,eq]
  generalize (kpB l&&(decide ((0:Int)≤l.length)&&decide ((l.length:Int)≤6)))=q
  cases q
  ·simp
   apply jD
   simp
  by_cases r0:r=[]
  ·simp [r0]
   apply jD
   simp
  by_cases r1:r=[105]
  ·simp [r0,r1]
   apply jD
   simp
  have q1:(r == [105])=false:=by simpa using r1
  have q0:(r == [])=false:=by simpa using r0
  by_cases r2:r=[112]
  ·simp [r0,r1,r2,q0,q1]
   apply jD
   simp
  have q2:(r == [112])=false:=by simpa using r2
  simp [r0,r1,r2,q0,q1,q2]
  apply jD
  simp [r0,r1,r2]
 simp at hc
 simp
 apply jE
 simp [y2p.r6,y4d hb ht]
 refine ⟨t.length-(i+1),by omega,_,_,.refl _ _,i+1,by omega,rfl,?_,rfl,by simp⟩
 rw [kI,kB hb]
 intro hm
 rcases List.mem_append.1 hm with hm | hm
 ·exact hn hm
 ·simp at hm;exact hc hm.symm
def ysc (l r:Str) (i:Nat):Bool:=if i=0 then decide (r=[112]) else decide (l[i-1]?=some 112)
def yss (l r:Str) (args:List Str):Bool:=(List.range args.length).all fun i=>yqg (ysc l r i) (args.getD i [])
theorem yly (c:Cn):yf0 c=match yie c.tag with
  | none=>false
  | some (l,r)=>yf3 l r&&decide (c.k=0)&&decide (c.args.length=l.length+1)&&yss l r c.args:=by
 unfold yf0
 cases h:yie c.tag with
 | none=>rfl
 | some x=>
  obtain ⟨l,r⟩:=x
  simp only [yf3,yss,ysc]
  cases kpB l <;> cases decide (c.k=0) <;> simp
def CallInv (c:Cn) (l r:Str) (H:Hp) (m:Nat) (F:Fr) (X:Hp):Prop:=
 ∃i,i≤c.args.length∧m=c.args.length-i∧(∀j,j<i→yqg (ysc l r j) (c.args.getD j [])=true)∧X=H∧F=[(1,.fp (y6i c) 0),(3,.s l),(4,.s r),(6,.i .i64 i)]
theorem yrz {l r:Str} {args:List Str} {i:Nat} (h:i<args.length) (hn:yqg (ysc l r i) (args.getD i [])=false):yss l r args=false:=by
 cases hk:yss l r args
 ·rfl
 ·have:=List.all_eq_true.1 hk i (List.mem_range.2 h)
  rw [hn] at this;cases this
theorem ymb:∀{t:Str} {l r:Str},yie t=some (l,r)→l.length+r.length+1=t.length
 | [],l,r,h=>by simp [yie] at h
 | c::q,l,r,h=>by
  unfold yie at h
  split at h
  ·injection h with h;injection h with h1 h2;subst h1;subst h2;simp
  ·cases hs:yie q with
   | none=>rw [hs] at h;cases h
   | some x=>
    rw [hs] at h;injection h with h;injection h with h1 h2
    have:=ymb (t:=q) (l:=x.1) (r:=x.2) (by rw [hs])
    subst h1;subst h2;simp;omega
theorem Rcall_ok (c:Cn) (ht:c.tag.length≤9223372036854775807) (ha:c.args.length≤9223372036854775807) (hx:∀a∈c.args,a.length≤9223372036854775807) (H:Hp):AC Tryz.prog yd9 [.agg (y6i c)] H (fun v H'=>v=.i .i64 (if yf0 c then 0 else 3)∧H'=H):=by
 refine AC.code y17.at y17.ok ?_
 simp only [y17]
 apply jA
 simp [y17.r0,y6i]
 apply jA
 simp [y17.r1]
 refine AC.fix (Sig_ok c.tag ht _) ?_
 rw [yly]
 unfold sigV
 cases hs:yie c.tag with
 | none=>
  simp
  apply jB
  simp [y17.r2]
  refine jG rfl ?_
  apply jA
  simp [y17.r3]
  apply jD
  simp
 | some x=>
  obtain ⟨l,r⟩:=x
  have hll:=ymb hs
  simp
  refine AX.seq ?_
  refine AX.test (!(yf3 l r&&decide (c.k=0)&&decide (c.args.length=l.length+1))) [(1,.fp (y6i c) 0),(3,.s l),(4,.s r),(30,.b (!(yf3 l r&&decide (c.k=0)&&decide (c.args.length=l.length+1))))] ?_ rfl (fun hb=>?_) (fun hb=>AX.skip ?_)
  ·cases yf3 l r
   ·simp [y17.r2,y6i]
   have hw:IntKind.i64.wrap ((l.length:Int)+1)=(l.length:Int)+1:=y4e (by omega) (by omega)
   by_cases hk:c.k=0
   ·by_cases hl:c.args.length=l.length+1
    ·simp [y17.r2,hk,hl,ss,y6i,hw]
    ·simp [y17.r2,hk,hl,ss,y6i,hw,show ¬(c.args.length:Int)=(l.length:Int)+1 by omega]
   ·simp [y17.r2,hk,y6i]
  ·apply jA
   simp [y17.r3]
   apply jD
   simp at hb
   simp
   rcases hb with (h | h) | h <;> simp [h]
  simp at hb
  obtain ⟨⟨h1,h2⟩,h3⟩:=hb
  simp [h1,h2,h3]
  apply jB
  simp [y17.r4]
  refine AX.pblock (AX.loop (CallInv c l r H) c.args.length ⟨_,_,.refl _ _,0,by omega,by omega,fun j hj=>by omega,rfl,by simp [y6i]⟩ ?_)
  rintro m F X ⟨i,hi,rfl,hn,rfl,rfl⟩
  simp only [y17.l0]
  apply jB
  simp [y17.r5,ss,y6i]
  refine AX.pcond rfl (fun hb=>AX.skip ?_) (fun hb=>AX.exit ?_)
  case refine_2=>
   simp at hb
   have:yss l r c.args=true:=List.all_eq_true.2 fun j hj=>hn j (by have:=List.mem_range.1 hj;omega)
   simp
   apply jA
   simp [y17.r12]
   apply jD
   simp [this]
  simp at hb
  simp
  apply jC
  simp [y17.r6]
  refine AX.seq (AX.join (F1:=[(1,.fp (y6i c) 0),(3,.s l),(4,.s r),(6,.i .i64 i),(7,.b (ysc l r i))]) (H1:=X) ?_ ?_)
  ·apply jA
   simp [y17.r7]
   refine AX.pcond rfl (fun hc=>?_) (fun hc=>AX.skip ?_)
   ·simp at hc
    have hi1:i-1<l.length:=by omega
    have e1:((l[i-1].toNat:Int)=112)=(l[i-1]=112):=yu1 l[i-1] 112 (by omega)
    have e0:((i:Int)-1).toNat=i-1:=by omega
    apply jE
    simp [y17.r8,show (0:Int)≤(i:Int)-1 by omega,show 1≤i by omega,e0,hi1,e1,show IntKind.i64.wrap ((i:Int)-1)=(i:Int)-1 from y4e (by omega) (by omega),y6i,ss]
    simp [ysc,show ¬i=0 by omega,hi1]
   ·simp at hc
    subst hc
    simp [ysc,y6i,ss]
  simp
  obtain ⟨p,hp⟩:∃p,p=ysc l r i:=⟨_,rfl⟩
  rw [←hp]
  have hgd:c.args.getD i []=c.args[i]:=by simp [hb]
  refine AX.test (!yqg p c.args[i]) [(1,.fp (y6i c) 0),(3,.s l),(4,.s r),(6,.i .i64 i),(65,.b (!yqg p c.args[i]))] ?_ rfl (fun hc=>?_) (fun hc=>AX.skip ?_)
  ·by_cases h0:c.args[i]=[]
   ·simp [y17.r9,hb,h0,yqg,y6i,ss]
   ·have h0':(c.args[i] == [])=false:=by simpa using h0
    cases p
    ·simp [y17.r9,hb,h0,h0',yqg,y6i,ss]
    ·simp [y17.r9,hb,h0,h0',yqg,y6i,ss]
     refine AC.fix (yib c.args[i] (hx _ (kK hb)) _) ?_
     simp
  ·apply jA
   simp [y17.r10]
   apply jD
   simp at hc
   simp [yrz hb (by rw [hgd,←hp];exact hc)]
  simp at hc
  simp
  apply jE
  simp [y17.r11,y4d hb ha]
  refine ⟨c.args.length-(i+1),by omega,_,_,.refl _ _,i+1,by omega,rfl,fun j hj=>?_,rfl,by simp⟩
  by_cases hj2:j=i
  ·subst hj2;rw [hgd,←hp];exact hc
  ·exact hn j (by omega)
def cnB (c:Cn):Bool:=yay c.a&&(!decide (c.op=6)||yh9 c.a)&&(if c.op=1 then yfa c.b else yay c.b)
theorem cnE_eq (c:Cn):cnE c=if c.op<1∨6<c.op then 5 else if cnB c=false then 11 else if c.op=6 then (if yf0 c then 0 else 3)
  else if ¬c.args=[] then 3 else if c.op=5 then (if 0≤c.k∧c.k≤64∧1≤c.tag.length∧c.tag.length≤60 then 0 else 3) else if c.k=0∧c.tag=[] then 0 else 3:=by
 unfold cnE
 by_cases h1:c.op<1∨6<c.op
 ·rw [if_pos h1,if_pos h1]
 rw [if_neg h1,if_neg h1]
 have e:(yay c.a=true∧(c.op=6→yh9 c.a=true)∧(if c.op=1 then yfa c.b=true else yay c.b=true))↔cnB c=true:=by
  unfold cnB
  by_cases h6:c.op=6
  ·simp [h6,and_assoc]
  ·by_cases h1:c.op=1 <;> simp [h6,h1]
 by_cases h2:cnB c=true
 ·rw [if_neg (Classical.not_not.2 (e.2 h2)),if_neg (show ¬cnB c=false by simp [h2])]
  by_cases h6:c.op=6
  ·rw [if_pos h6,if_pos h6]
  rw [if_neg h6,if_neg h6]
  by_cases ha:c.args=[]
  ·by_cases h5:c.op=5
   ·simp [ha,h5,ynk,and_assoc]
   ·simp [ha,h5]
  ·by_cases h5:c.op=5
   ·simp [ha,h5]
   ·simp [ha,h5]
 ·rw [if_pos (fun h=>h2 (e.1 h)),if_pos (by simpa using h2)]
theorem RCon_ok (c:Cn) (h1:c.a.length≤9223372036854775807) (h2:c.b.length≤9223372036854775807) (ht:c.tag.length≤9223372036854775807) (ha:c.args.length≤9223372036854775807) (hx:∀a∈c.args,a.length≤9223372036854775807) (H:Hp):AC Tryz.prog ye2 [.agg (y6i c)] H (fun v H'=>v=.i .i64 (cnE c)∧H'=H):=by
 refine AC.codeP yz.at yz.ok (by simp) fun hlt=>?_
 rw [cnE_eq]
 simp only [yz]
 apply jA
 simp [yz.r0,y6i]
 refine AX.seq ?_
 refine AX.test (decide (c.op<1)||decide (6<c.op)) [(1,.fp (y6i c) 0),(12,.b (decide (c.op<1)||decide (6<c.op)))] ?_ rfl (fun hb=>?_) (fun hb=>AX.skip ?_)
 ·by_cases h:c.op<1
  ·simp [yz.r1,y6i,h]
  ·simp [yz.r1,y6i,h]
 ·apply jA
  simp [yz.r2]
  apply jD
  simp at hb
  simp [hb]
  exact ⟨.refl _,.refl _⟩
 simp at hb
 have hop:¬(c.op<1∨6<c.op):=by omega
 rw [if_neg hop]
 simp
 apply jA
 simp [yz.r3,y6i]
 refine AC.fix (ygi c.a h1 _) ?_
 rw [yht]
 obtain ⟨er,d,hrd,hsite,hnode⟩:∃(er:Int) (d:Nd),rdV (ydw c.a)=.tup [nv d,.i .i64 er]∧yh9 c.a=(decide (er=0)&&decide (d.kind=3))∧True:=by
  cases hr:ydw c.a with
  | none=>exact ⟨11,Nd.zero,rfl,by simp [yh9,hr],trivial⟩
  | some d=>exact ⟨0,d,rfl,by simp [yh9,hr],trivial⟩
 rw [hrd]
 simp [nv,Nd.cs]
 refine AX.seq ?_
 refine AX.test (!cnB c) [(1,.fp (y6i c) 0),(58,.b (!cnB c))] ?_ rfl (fun hb=>?_) (fun hb=>AX.skip ?_)
 ·simp [yz.r4]
  refine AC.fix (yib c.a h1 _) ?_
  cases hA:yay c.a
  ·simp [cnB,hA,y6i]
  by_cases h6:c.op=6
  ·by_cases he:er=0
   ·by_cases hk:d.kind=3
    ·simp [h6,he,hk]
     refine AC.fix (yib c.b h2 _) ?_
     simp [cnB,hA,h6,hsite,he,hk,y6i]
    ·simp [h6,he,hk]
     simp [cnB,hA,h6,hsite,he,hk,y6i]
   ·simp [h6,he]
    simp [cnB,hA,h6,hsite,he,y6i]
  ·by_cases hq:c.op=1
   ·simp [h6,hq]
    refine AC.fix (ywz c.b h2 _) ?_
    cases hB:yfa c.b <;> simp [cnB,hA,hq,hB,y6i]
   ·simp [h6,hq]
    refine AC.fix (yib c.b h2 _) ?_
    simp [cnB,hA,h6,hq,y6i]
 ·apply jA
  simp [yz.r5]
  apply jD
  simp at hb
  simp [hb]
  exact ⟨yga hlt _ _,.refl _⟩
 simp at hb
 simp [hb]
 apply jC
 simp [yz.r6,y6i]
 refine AX.pcond rfl (fun hc=>?_) (fun hc=>?_)
 ·simp at hc
  apply jA
  simp [yz.r7]
  refine AC.fix (Rcall_ok c ht ha hx _) ?_
  simp
  apply jD
  simp [hc]
  exact ⟨yga hlt _ _,.refl _⟩
 simp at hc
 simp [hc]
 apply jA
 simp [yz.r8,ss]
 have hlen:(0<c.args.length)↔¬c.args=[]:=by cases c.args <;> simp
 refine AX.pcond rfl (fun hd=>?_) (fun hd=>?_)
 ·simp at hd
  have hd':¬c.args=[]:=hlen.1 (by first | exact hd | (cases h:c.args <;> simp_all))
  apply jA
  simp [yz.r9]
  apply jD
  simp [hd']
  exact ⟨yga hlt _ _,.refl _⟩
 simp at hd
 simp [hd]
 apply jA
 simp [yz.r10]
 refine AX.pcond rfl (fun he=>?_) (fun he=>?_)
 ·simp at he
  simp [he]
  refine AX.seq ?_
  refine AX.test (!(decide (0≤c.k)&&decide (c.k≤64)&&decide (1≤c.tag.length)&&decide (c.tag.length≤60))) [(93,.b (!(decide (0≤c.k)&&decide (c.k≤64)&&decide (1≤c.tag.length)&&decide (c.tag.length≤60))))] ?_ rfl (fun hb=>?_) (fun hb=>AX.skip ?_)
  ·by_cases k1:c.k<0
   ·simp [yz.r11,k1,show ¬0≤c.k by omega]
   by_cases k2:64<c.k
   ·simp [yz.r11,k1,k2,show 0≤c.k by omega,show ¬c.k≤64 by omega]
   by_cases k3:c.tag.length<1
   ·simp [yz.r11,k1,k2,k3,show 0≤c.k by omega,show c.k≤64 by omega]
   by_cases k4:60<c.tag.length
   ·simp [yz.r11,k1,k2,k3,k4,show 0≤c.k by omega,show c.k≤64 by omega]
   ·simp [yz.r11,k1,k2,k3,k4,show 0≤c.k by omega,show c.k≤64 by omega,show 1≤c.tag.length by omega,show c.tag.length≤60 by omega]
  ·apply jA
   simp [yz.r12]
   apply jD
   have:¬(0≤c.k∧c.k≤64∧1≤c.tag.length∧c.tag.length≤60):=by
    intro ⟨g1,g2,g3,g4⟩
    simp [g1,g2,g3,g4] at hb
   simp [this]
   exact ⟨yga hlt _ _,.refl _⟩
  ·simp at hb
   simp
   apply jA
   simp [yz.r13]
   apply jD
   simp [hb]
   exact ⟨yga hlt _ _,.refl _⟩
 simp at he
 simp [he]
 apply jA
 by_cases k1:c.k=0
 ·by_cases k2:c.tag=[]
  ·simp [yz.r14,k1,k2]
   refine jF rfl (AX.skip ?_)
   simp
   apply jA
   simp [yz.r16]
   apply jD
   simp
   exact ⟨yga hlt _ _,.refl _⟩
  ·simp [yz.r14,k1,k2,show (c.tag == [])=false by simpa using k2]
   refine jG rfl ?_
   apply jA
   simp [yz.r15]
   apply jD
   simp
   exact ⟨yga hlt _ _,.refl _⟩
 ·simp [yz.r14,k1]
  refine jG rfl ?_
  apply jA
  simp [yz.r15]
  apply jD
  simp
  exact ⟨yga hlt _ _,.refl _⟩
end Go.Proofs.YthmkcebbeehbeaaGreatDoor
