/- Part 28 of the proof of the laws of the queries: SysD, S15a, S15b, S15c, S15d. -/
import Derived.Test.YthmkcebbeehbeaaGreatDoorXBw25
import Derived.Test.YthmkcebbeehbeaaGreatDoorXBw27
set_option linter.unusedSimpArgs false
set_option linter.unusedVariables false
namespace Go.Proofs.YthmkcebbeehbeaaGreatDoor
open Am C
structure Mk where
  pos:Int
  tag:Str
  deriving DecidableEq
structure Ob where
  name:Str
  kinds:Str
  marks:List Mk
  deriving DecidableEq
structure Fu where
  name:Str
  kinds:Str
  ret:Str
  deriving DecidableEq
structure Cn where
  op:Int
  a:Str
  b:Str
  k:Int
  tag:Str
  args:List Str
structure Sy where
  objs:List Ob
  fns:List Fu
  cons:List Cn
def ybe (m:Mk):List V:=[.i .i64 m.pos,.s m.tag]
def y5p (o:Ob):List V:=[.s o.name,.s o.kinds,.fs (o.marks.map ybe)]
def ya5 (f:Fu):List V:=[.s f.name,.s f.kinds,.s f.ret]
def y5y (c:Cn):List V:=[.i .i64 c.op,.s c.a,.s c.b,.i .i64 c.k,.s c.tag,ss c.args]
def y6g (s:Sy):List V:=[.fs (s.objs.map y5p),.fs (s.fns.map ya5),.fs (s.cons.map y5y)]
def y9r (s:Str):Bool:=match ybv s with
  | some d=>decide (d.kind≤3)||decide (0≤d.cell)
  | none=>false
def yda (s:Str):Bool:=match ybv s with
  | some d=>decide (d.kind=4)||decide (0≤d.cell)
  | none=>false
def kpB (s:Str):Bool:=s.all fun c=>c == 105||c == 112
def ylm (t:Str):Bool:=decide (1≤t.length)&&decide (t.length≤60)
def mkB (n:Nat) (l:List Mk) (m:Mk):Bool:=decide (0≤m.pos)&&decide (m.pos<n)&&ylm m.tag&&decide (∀x,l.getLast?=some x→x.pos≤m.pos)&&decide (m∉l)
def ynr (n:Nat):List Mk→List Mk→Bool
  | _,[]=>true
  | l,m::r=>mkB n l m&&ynr n (l++[m]) r
def obE (o:Ob):Int:=match ybv o.name with
  | none=>11
  | some d=>if d.kind<5∨0≤d.cell then 11 else if ¬(kpB o.kinds=true∧1≤o.kinds.length∧o.kinds.length≤64) then 5 else if ynr o.kinds.length [] o.marks then 0 else 3
def retB (r:Str):Bool:=decide (r=[105])||decide (r=[112])||decide (r=[118])
def fuE (f:Fu):Int:=match ybv f.name with
  | none=>11
  | some d=>if d.kind≠4 then 11 else if ¬(kpB f.kinds=true∧f.kinds.length≤6)∨retB f.ret=false then 5 else 0
def ygl:Str→Option (Str × Str)
  | []=>none
  | c::r=>if c=62 then some ([],r) else (ygl r).map fun x=>(c::x.1,x.2)
def yof (p:Bool) (a:Str):Bool:=decide (a=[])||(p&&y9r a)
def ycz (c:Cn):Bool:=match ygl c.tag with
  | none=>false
  | some (l,r)=>decide (c.k=0)&&kpB l&&decide (l.length≤6)&&(decide (r=[])||decide (r=[105])||decide (r=[112]))&&decide (c.args.length=l.length+1) &&
      (List.range c.args.length).all fun i=>yof (if i=0 then decide (r=[112]) else decide (l[i-1]?=some 112)) (c.args.getD i [])
def yfi (s:Str):Bool:=match ybv s with
  | some d=>decide (d.kind=3)
  | none=>false
def cnE (c:Cn):Int:=
  if c.op<1∨6<c.op then 5
  else if ¬(y9r c.a=true∧(c.op=6→yfi c.a=true)∧(if c.op=1 then yda c.b=true else y9r c.b=true)) then 11
  else if c.op=6 then (if ycz c then 0 else 3)
  else if c.op=5 then (if c.args=[]∧0≤c.k∧c.k≤64∧ylm c.tag=true then 0 else 3)
  else if c.args=[]∧c.k=0∧c.tag=[] then 0 else 3
def yfe (x y:Int):Int:=if x<y then -1 else if x=y then 0 else 1
def cmpN (x y:Nat):Int:=if x<y then -1 else if x=y then 0 else 1
def orI:List Int→Int
  | []=>0
  | x::r=>if x≠0 then x else orI r
def yk6:List Str→List Str→Int
  | [],b=>cmpN 0 b.length
  | a::r,[]=>1
  | a::r,b::q=>if ybo a b≠0 then ybo a b else yk6 r q
def yht (a b:Cn):Int:=orI [yfe a.op b.op,ybo a.a b.a,ybo a.b b.b,yfe a.k b.k,ybo a.tag b.tag,yk6 a.args b.args]
def chk {α:Type} (ask:α→Int) (cmp:α→α→Int):Option α→List α→Int
  | _,[]=>0
  | p,x::r=>if ask x≠0 then ask x else if (match p with | some y=>decide (0≤cmp y x) | none=>false) then 13 else chk ask cmp (some x) r
def yli (a b:Ob):Int:=ybo a.name b.name
def ymp (a b:Fu):Int:=ybo a.name b.name
def ys3 (s:Sy):Int:=
  if 600<s.objs.length∨600<s.fns.length∨6000<s.cons.length then 4
  else orI [chk obE yli none s.objs,chk fuE ymp none s.fns,chk cnE yht none s.cons]
def KdInv (s:Str) (a b:Int) (H:Hp) (m:Nat) (F:Fr) (H':Hp):Prop:=
  ∃i,i≤s.length∧m=s.length-i∧kpB (s.take i)=true∧H'=H∧F=[(0,.s s),(1,.i .i64 a),(2,.i .i64 b),(7,.i .i64 i)]
theorem kpB_take {s:Str} {i:Nat} (h:i<s.length):kpB (s.take (i+1))=(kpB (s.take i)&&(s[i] == 105||s[i] == 112)):=by
  unfold kpB
  rw [List.take_add_one,List.getElem?_eq_getElem h,List.all_append]
  simp
theorem kpB_no {s:Str} {i:Nat} (h:i<s.length) (hn:¬(s[i] == 105||s[i] == 112)=true):kpB s=false:=by
  cases hk:kpB s
  · rfl
  · exact absurd (List.all_eq_true.1 hk _ (List.getElem_mem h)) hn
theorem yru (a:UInt8) (n:Nat) (hn:n<256):((a.toNat:Int)=n)=(a=UInt8.ofNat n):=by
  apply propext
  constructor
  · intro h
    have:a.toNat=n:=by omega
    rw [←this];simp
  · intro h;subst h;simp;omega
theorem yj5 (s:Str) (a b:Int) (hs:s.length≤9223372036854775807) (H:Hp):AC Tryz.prog y85 [.s s,.i .i64 a,.i .i64 b] H (fun v H'=>v=.b (kpB s&&(decide (a≤s.length)&&decide ((s.length:Int)≤b)))∧H'=H):=by
  refine AC.code y20.at y20.ok ?_
  simp only [y20]
  apply jA
  simp [y20.r0]
  apply jB
  simp [y20.r1]
  refine AX.pblock (AX.loop (KdInv s a b H) s.length ⟨_,_,.refl _ _,0,by omega,by omega,rfl,rfl,rfl⟩ ?_)
  rintro m F H' ⟨i,hi,rfl,hk,rfl,rfl⟩
  simp only [y20.l0]
  apply jB
  simp [y20.r2]
  refine AX.pcond rfl (fun hb=>AX.skip ?_) (fun hb=>AX.exit ?_)
  case refine_2=>
    simp at hb
    rw [List.take_of_length_le hb] at hk
    simp
    apply jA
    by_cases h1:a≤s.length
    · simp [y20.r6,h1]
      apply jD
      simp [hk,h1]
    · simp [y20.r6,h1]
      apply jD
      simp [hk,h1]
  simp at hb
  simp
  apply jC
  have e1:((s[i].toNat:Int)=105)=(s[i]=105):=yru s[i] 105 (by omega)
  have e2:((s[i].toNat:Int)=112)=(s[i]=112):=yru s[i] 112 (by omega)
  have hkt:=kpB_take hb
  by_cases h1:s[i]=105
  · simp [y20.r3,hb,e1,e2,h1]
    refine jF rfl (AX.skip ?_)
    simp
    apply jE
    simp [y20.r5,y3q hb hs]
    exact ⟨s.length-(i+1),by omega,_,_,.refl _ _,i+1,by omega,rfl,by rw [hkt,hk];simp [h1],rfl,by simp⟩
  by_cases h2:s[i]=112
  · simp [y20.r3,hb,e1,e2,h1,h2]
    refine jF rfl (AX.skip ?_)
    simp
    apply jE
    simp [y20.r5,y3q hb hs]
    exact ⟨s.length-(i+1),by omega,_,_,.refl _ _,i+1,by omega,rfl,by rw [hkt,hk];simp [h2],rfl,by simp⟩
  simp [y20.r3,hb,e1,e2,h1,h2]
  refine jG rfl ?_
  apply jA
  simp [y20.r4]
  apply jD
  simp [kpB_no hb (by simp [h1,h2])]
theorem ygg (s:Str) (hs:s.length≤9223372036854775807) (H:Hp):AC Tryz.prog y7i [.s s] H (fun v H'=>v=.b (y9r s)∧H'=H):=by
  refine AC.codeP y3m.at y3m.ok (by simp) fun hlt=>?_
  simp only [y3m]
  apply jA
  simp [y3m.r0]
  apply jA
  simp [y3m.r1]
  refine AC.fix (yev s hs _) ?_
  rw [yg2]
  cases hr:ybv s with
  | none=>
    simp [rdV,nv,Nd.cs,Nd.zero]
    apply jA
    simp [y3m.r2]
    apply jD
    simp [y9r,hr]
    exact ⟨(Hp.Ext.add hlt _).upd hlt (Nat.le_refl _) _,.refl _⟩
  | some d=>
    simp [rdV,nv,Nd.cs]
    apply jA
    by_cases hk:d.kind≤3
    · simp [y3m.r2,hk]
      apply jD
      simp [y9r,hr,hk]
      exact ⟨(Hp.Ext.add hlt _).upd hlt (Nat.le_refl _) _,.refl _⟩
    · simp [y3m.r2,hk]
      apply jD
      simp [y9r,hr,hk]
      exact ⟨(Hp.Ext.add hlt _).upd hlt (Nat.le_refl _) _,.refl _⟩
theorem yuv (s:Str) (hs:s.length≤9223372036854775807) (H:Hp):AC Tryz.prog yau [.s s] H (fun v H'=>v=.b (yda s)∧H'=H):=by
  refine AC.codeP y3h.at y3h.ok (by simp) fun hlt=>?_
  simp only [y3h]
  apply jA
  simp [y3h.r0]
  apply jA
  simp [y3h.r1]
  refine AC.fix (yev s hs _) ?_
  rw [yg2]
  cases hr:ybv s with
  | none=>
    simp [rdV,nv,Nd.cs,Nd.zero]
    apply jA
    simp [y3h.r2]
    apply jD
    simp [yda,hr]
    exact ⟨(Hp.Ext.add hlt _).upd hlt (Nat.le_refl _) _,.refl _⟩
  | some d=>
    simp [rdV,nv,Nd.cs]
    apply jA
    by_cases hk:d.kind=4
    · simp [y3h.r2,hk]
      apply jD
      simp [yda,hr,hk]
      exact ⟨(Hp.Ext.add hlt _).upd hlt (Nat.le_refl _) _,.refl _⟩
    · simp [y3h.r2,hk]
      apply jD
      simp [yda,hr,hk]
      exact ⟨(Hp.Ext.add hlt _).upd hlt (Nat.le_refl _) _,.refl _⟩
theorem yge (a b:Str) (H:Hp):AC Tryz.prog y6x [.s a,.s b] H (fun v H'=>v=.i .i64 (ybo a b)∧H'=H):=by
  refine AC.code y2r.at y2r.ok ?_
  simp only [y2r]
  apply jA
  simp [y2r.r0]
  apply jC
  simp [y2r.r1]
  refine AX.pcond rfl (fun hb=>?_) (fun hb=>?_)
  · have hb0:=hb
    apply jA
    simp [y2r.r2]
    apply jD
    simp [ybo,hb]
  have hb0:=hb
  apply jA
  simp [y2r.r3]
  refine AX.pcond rfl (fun hc=>?_) (fun hc=>AX.skip ?_)
  · simp at hc
    apply jA
    simp [y2r.r4]
    apply jD
    have:a≠b:=hc.2
    simp [ybo,hb,this]
  simp at hc
  simp
  apply jA
  simp [y2r.r5]
  apply jD
  have:a=b:=hc hb
  simp [ybo,this,ya0]
theorem ylc (a b:Int) (H:Hp):AC Tryz.prog y8m [.i .i64 a,.i .i64 b] H (fun v H'=>v=.i .i64 (yfe a b)∧H'=H):=by
  refine AC.code y2y.at y2y.ok ?_
  simp only [y2y]
  apply jA
  simp [y2y.r0]
  apply jC
  simp [y2y.r1]
  refine AX.pcond rfl (fun hb=>?_) (fun hb=>?_)
  · simp at hb
    apply jA
    simp [y2y.r2]
    apply jD
    simp [yfe,hb]
  simp at hb
  apply jA
  simp [y2y.r3]
  refine AX.pcond rfl (fun hc=>?_) (fun hc=>AX.skip ?_)
  · simp at hc
    apply jA
    simp [y2y.r4]
    apply jD
    simp [yfe,show ¬a<b by omega,show ¬a=b by omega]
  simp at hc
  simp
  apply jA
  simp [y2y.r5]
  apply jD
  simp [yfe,show ¬a<b by omega,show a=b by omega]
theorem ye8 {H:Hp} (hlt:∀id blk,H.get id=some blk→id<H.next) (a b:Blk):H.Ext ((H.add a).upd H.next b):=(Hp.Ext.add hlt _).upd hlt (Nat.le_refl _) _
theorem lt2 {H:Hp} (hlt:∀id blk,H.get id=some blk→id<H.next) (a b:Blk):∀id blk,((H.add a).upd H.next b).get id=some blk→id<((H.add a).upd H.next b).next:=Hp.upd_lt (Hp.add_lt hlt _) (by simp) _
theorem yn0 (f:Fu) (h1:f.name.length≤9223372036854775807) (h2:f.kinds.length≤9223372036854775807) (H:Hp):AC Tryz.prog y9k [.agg (ya5 f)] H (fun v H'=>v=.i .i64 (fuE f)∧H'=H):=by
  refine AC.codeP y1p.at y1p.ok (by simp) fun hlt=>?_
  simp only [y1p]
  apply jA
  simp [y1p.r0,ya5]
  apply jA
  simp [y1p.r1]
  refine AC.fix (yev f.name h1 _) ?_
  rw [yg2]
  cases hr:ybv f.name with
  | none=>
    simp [rdV,nv,Nd.cs,Nd.zero]
    apply jB
    simp [y1p.r2]
    refine jG rfl ?_
    apply jA
    simp [y1p.r3]
    apply jD
    simp [fuE,hr]
    exact ⟨ye8 hlt _ _,.refl _⟩
  | some d=>
    simp [rdV,nv,Nd.cs]
    apply jB
    by_cases hk:d.kind=4
    · simp [y1p.r2,hk]
      refine jF rfl (AX.skip ?_)
      simp
      apply jB
      simp [y1p.r4]
      refine AC.fix (yj5 f.kinds 0 6 h2 _) ?_
      have eB:(kpB f.kinds&&(decide ((0:Int)≤f.kinds.length)&&decide ((f.kinds.length:Int)≤6)))=decide (kpB f.kinds=true∧f.kinds.length≤6):=by
        cases kpB f.kinds <;> simp
      rw [eB]
      by_cases hb:kpB f.kinds=true∧f.kinds.length≤6
      · simp only [hb,decide_true]
        by_cases r1:f.ret=[105]
        · simp [r1]
          refine jF rfl (AX.skip ?_)
          simp
          apply jA
          simp [y1p.r6]
          apply jD
          simp [fuE,hr,hk,hb,retB,r1]
          exact ⟨ye8 hlt _ _,.refl _⟩
        by_cases r2:f.ret=[112]
        · simp [r1,r2]
          refine jF rfl (AX.skip ?_)
          simp
          apply jA
          simp [y1p.r6]
          apply jD
          simp [fuE,hr,hk,hb,retB,r2]
          exact ⟨ye8 hlt _ _,.refl _⟩
        by_cases r3:f.ret=[118]
        · simp [r1,r2,r3]
          refine jF rfl (AX.skip ?_)
          simp
          apply jA
          simp [y1p.r6]
          apply jD
          simp [fuE,hr,hk,hb,retB,r3]
          exact ⟨ye8 hlt _ _,.refl _⟩
        simp [r1,r2,r3,show (f.ret == [105])=false by simpa using r1,show (f.ret == [112])=false by simpa using r2,show (f.ret == [118])=false by simpa using r3]
        refine jG rfl ?_
        apply jA
        simp [y1p.r5]
        apply jD
        simp [fuE,hr,hk,hb,retB,r1,r2,r3]
        exact ⟨ye8 hlt _ _,.refl _⟩
      · simp only [hb,decide_false]
        simp
        refine jG rfl ?_
        apply jA
        simp [y1p.r5]
        apply jD
        have:fuE f=5:=by unfold fuE;rw [hr];simp only [hk];rw [if_neg (by simp),if_pos (.inl hb)]
        simp [this]
        exact ⟨ye8 hlt _ _,.refl _⟩
    · simp [y1p.r2,hk]
      refine jG rfl ?_
      apply jA
      simp [y1p.r3]
      apply jD
      simp [fuE,hr,hk]
      exact ⟨ye8 hlt _ _,.refl _⟩
def yd3 (l r:Str):Bool:=kpB l&&decide (l.length≤6)&&(decide (r=[])||decide (r=[105])||decide (r=[112]))
def sigV (t:Str):V:=match ygl t with
  | none=>.tup [.s [],.s [],.b false]
  | some (l,r)=>.tup [.s l,.s r,.b (yd3 l r)]
theorem ys9:∀{t:Str} {i:Nat},(62:UInt8)∉t.take i→(h:i<t.length)→t[i]=62→ygl t=some (t.take i,t.drop (i+1))
  | [],i,_,h,_=>by simp at h
  | c::r,0,_,_,e=>by simp at e;simp [ygl,e]
  | c::r,i+1,hn,h,e=>by
    simp at hn h e
    have hc:¬c=62:=fun h=>hn.1 h.symm
    simp [ygl,hc,ys9 hn.2 h e]
theorem ys8:∀{t:Str},(62:UInt8)∉t→ygl t=none
  | [],_=>rfl
  | c::r,h=>by
    simp at h
    have hc:¬c=62:=fun e=>h.1 e.symm
    simp [ygl,hc,ys8 h.2]
def SigInv (t:Str) (H:Hp) (m:Nat) (F:Fr) (X:Hp):Prop:=
  ∃i,i≤t.length∧m=t.length-i∧(62:UInt8)∉t.take i∧X=H∧F=[(0,.s t),(5,.i .i64 i)]
theorem Sig_ok (t:Str) (ht:t.length≤9223372036854775807) (H:Hp):AC Tryz.prog yc3 [.s t] H (fun v H'=>v=sigV t∧H'=H):=by
  refine AC.code y2a.at y2a.ok ?_
  simp only [y2a]
  apply jA
  simp [y2a.r0]
  apply jB
  simp [y2a.r1]
  refine AX.pblock (AX.loop (SigInv t H) t.length ⟨_,_,.refl _ _,0,by omega,by omega,by simp,rfl,rfl⟩ ?_)
  rintro m F X ⟨i,hi,rfl,hn,rfl,rfl⟩
  simp only [y2a.l0]
  apply jB
  simp [y2a.r2]
  refine AX.pcond rfl (fun hb=>AX.skip ?_) (fun hb=>AX.exit ?_)
  case refine_2=>
    simp at hb
    rw [List.take_of_length_le hb] at hn
    simp
    apply jA
    simp [y2a.r7]
    apply jD
    simp [sigV,ys8 hn]
  simp at hb
  simp
  apply jC
  have e1:((t[i].toNat:Int)=62)=(t[i]=62):=yru t[i] 62 (by omega)
  simp [y2a.r3,hb,e1]
  refine AX.pcond rfl (fun hc=>?_) (fun hc=>AX.skip ?_)
  · simp at hc
    have es:=ys9 hn hb hc
    apply jA
    simp [y2a.r4,y3q hb ht,show i+1≤t.length from hb,show (0:Int)≤(i:Int)+1 by omega,show (i:Int)+1≤(t.length:Int) by omega]
    generalize hl:t.take i=l at *
    generalize hr:t.drop (i+1)=r at *
    have hll:l.length≤9223372036854775807:=by rw [←hl];simp;omega
    have hil:i≤t.length:=hi
    refine AX.seq (AX.drw ?_)
    simp [y2a.r5,hil,hl]
    refine y4y _ (fun H2=>yj5 l 0 6 hll H2) ?_
    have eq:yd3 l r=((kpB l&&(decide ((0:Int)≤l.length)&&decide ((l.length:Int)≤6)))&&(decide (r=[])||decide (r=[105])||decide (r=[112]))):=by
      unfold yd3
      cases kpB l <;> simp
    have eV:sigV t=.tup [.s l,.s r,.b (yd3 l r)]:=by unfold sigV;rw [es]
    rw [eV,eq]
    generalize (kpB l&&(decide ((0:Int)≤l.length)&&decide ((l.length:Int)≤6)))=q
    cases q
    · simp
      apply jD
      simp
    by_cases r0:r=[]
    · simp [r0]
      apply jD
      simp
    by_cases r1:r=[105]
    · simp [r0,r1]
      apply jD
      simp
    have q1:(r == [105])=false:=by simpa using r1
    have q0:(r == [])=false:=by simpa using r0
    by_cases r2:r=[112]
    · simp [r0,r1,r2,q0,q1]
      apply jD
      simp
    have q2:(r == [112])=false:=by simpa using r2
    simp [r0,r1,r2,q0,q1,q2]
    apply jD
    simp [r0,r1,r2]
  simp at hc
  simp
  apply jE
  simp [y2a.r6,y3q hb ht]
  refine ⟨t.length-(i+1),by omega,_,_,.refl _ _,i+1,by omega,rfl,?_,rfl,by simp⟩
  rw [List.take_add_one,List.getElem?_eq_getElem hb]
  intro hm
  rcases List.mem_append.1 hm with hm | hm
  · exact hn hm
  · simp at hm;exact hc hm.symm
def yq9 (l r:Str) (i:Nat):Bool:=if i=0 then decide (r=[112]) else decide (l[i-1]?=some 112)
def yqp (l r:Str) (args:List Str):Bool:=(List.range args.length).all fun i=>yof (yq9 l r i) (args.getD i [])
theorem yk9 (c:Cn):ycz c=match ygl c.tag with
    | none=>false
    | some (l,r)=>yd3 l r&&decide (c.k=0)&&decide (c.args.length=l.length+1)&&yqp l r c.args:=by
  unfold ycz
  cases h:ygl c.tag with
  | none=>rfl
  | some x=>
    obtain ⟨l,r⟩:=x
    simp only [yd3,yqp,yq9]
    cases kpB l <;> cases decide (c.k=0) <;> simp
def CallInv (c:Cn) (l r:Str) (H:Hp) (m:Nat) (F:Fr) (X:Hp):Prop:=
  ∃i,i≤c.args.length∧m=c.args.length-i∧(∀j,j<i→yof (yq9 l r j) (c.args.getD j [])=true)∧X=H∧F=[(1,.fp (y5y c) 0),(3,.s l),(4,.s r),(6,.i .i64 i)]
theorem ypv {l r:Str} {args:List Str} {i:Nat} (h:i<args.length) (hn:yof (yq9 l r i) (args.getD i [])=false):yqp l r args=false:=by
  cases hk:yqp l r args
  · rfl
  · have:=List.all_eq_true.1 hk i (List.mem_range.2 h)
    rw [hn] at this;cases this
theorem ykh:∀{t:Str} {l r:Str},ygl t=some (l,r)→l.length+r.length+1=t.length
  | [],l,r,h=>by simp [ygl] at h
  | c::q,l,r,h=>by
    unfold ygl at h
    split at h
    · injection h with h;injection h with h1 h2;subst h1;subst h2;simp
    · cases hs:ygl q with
      | none=>rw [hs] at h;cases h
      | some x=>
        rw [hs] at h;injection h with h;injection h with h1 h2
        have:=ykh (t:=q) (l:=x.1) (r:=x.2) (by rw [hs])
        subst h1;subst h2;simp;omega
theorem Rcall_ok (c:Cn) (ht:c.tag.length≤9223372036854775807) (ha:c.args.length≤9223372036854775807) (hx:∀a∈c.args,a.length≤9223372036854775807) (H:Hp):AC Tryz.prog ybi [.agg (y5y c)] H (fun v H'=>v=.i .i64 (if ycz c then 0 else 3)∧H'=H):=by
  refine AC.code y12.at y12.ok ?_
  simp only [y12]
  apply jA
  simp [y12.r0,y5y]
  apply jA
  simp [y12.r1]
  refine AC.fix (Sig_ok c.tag ht _) ?_
  rw [yk9]
  unfold sigV
  cases hs:ygl c.tag with
  | none=>
    simp
    apply jB
    simp [y12.r2]
    refine jG rfl ?_
    apply jA
    simp [y12.r3]
    apply jD
    simp
  | some x=>
    obtain ⟨l,r⟩:=x
    have hll:=ykh hs
    simp
    refine AX.seq ?_
    refine AX.test (!(yd3 l r&&decide (c.k=0)&&decide (c.args.length=l.length+1))) [(1,.fp (y5y c) 0),(3,.s l),(4,.s r),(30,.b (!(yd3 l r&&decide (c.k=0)&&decide (c.args.length=l.length+1))))] ?_ rfl (fun hb=>?_) (fun hb=>AX.skip ?_)
    · cases yd3 l r
      · simp [y12.r2,y5y]
      have hw:IntKind.i64.wrap ((l.length:Int)+1)=(l.length:Int)+1:=y3g (by omega) (by omega)
      by_cases hk:c.k=0
      · by_cases hl:c.args.length=l.length+1
        · simp [y12.r2,hk,hl,ss,y5y,hw]
        · simp [y12.r2,hk,hl,ss,y5y,hw,show ¬(c.args.length:Int)=(l.length:Int)+1 by omega]
      · simp [y12.r2,hk,y5y]
    · apply jA
      simp [y12.r3]
      apply jD
      simp at hb
      simp
      rcases hb with (h | h) | h <;> simp [h]
    simp at hb
    obtain ⟨⟨h1,h2⟩,h3⟩:=hb
    simp [h1,h2,h3]
    apply jB
    simp [y12.r4]
    refine AX.pblock (AX.loop (CallInv c l r H) c.args.length ⟨_,_,.refl _ _,0,by omega,by omega,fun j hj=>by omega,rfl,by simp [y5y]⟩ ?_)
    rintro m F X ⟨i,hi,rfl,hn,rfl,rfl⟩
    simp only [y12.l0]
    apply jB
    simp [y12.r5,ss,y5y]
    refine AX.pcond rfl (fun hb=>AX.skip ?_) (fun hb=>AX.exit ?_)
    case refine_2=>
      simp at hb
      have:yqp l r c.args=true:=List.all_eq_true.2 fun j hj=>hn j (by have:=List.mem_range.1 hj;omega)
      simp
      apply jA
      simp [y12.r12]
      apply jD
      simp [this]
    simp at hb
    simp
    apply jC
    simp [y12.r6]
    refine AX.seq (AX.join (F1:=[(1,.fp (y5y c) 0),(3,.s l),(4,.s r),(6,.i .i64 i),(7,.b (yq9 l r i))]) (H1:=X) ?_ ?_)
    · apply jA
      simp [y12.r7]
      refine AX.pcond rfl (fun hc=>?_) (fun hc=>AX.skip ?_)
      · simp at hc
        have hi1:i-1<l.length:=by omega
        have e1:((l[i-1].toNat:Int)=112)=(l[i-1]=112):=yru l[i-1] 112 (by omega)
        have e0:((i:Int)-1).toNat=i-1:=by omega
        apply jE
        simp [y12.r8,show (0:Int)≤(i:Int)-1 by omega,show 1≤i by omega,e0,hi1,e1,show IntKind.i64.wrap ((i:Int)-1)=(i:Int)-1 from y3g (by omega) (by omega),y5y,ss]
        simp [yq9,show ¬i=0 by omega,hi1]
      · simp at hc
        subst hc
        simp [yq9,y5y,ss]
    simp
    obtain ⟨p,hp⟩:∃p,p=yq9 l r i:=⟨_,rfl⟩
    rw [←hp]
    have hgd:c.args.getD i []=c.args[i]:=by simp [hb]
    refine AX.test (!yof p c.args[i]) [(1,.fp (y5y c) 0),(3,.s l),(4,.s r),(6,.i .i64 i),(65,.b (!yof p c.args[i]))] ?_ rfl (fun hc=>?_) (fun hc=>AX.skip ?_)
    · by_cases h0:c.args[i]=[]
      · simp [y12.r9,hb,h0,yof,y5y,ss]
      · have h0':(c.args[i] == [])=false:=by simpa using h0
        cases p
        · simp [y12.r9,hb,h0,h0',yof,y5y,ss]
        · simp [y12.r9,hb,h0,h0',yof,y5y,ss]
          refine AC.fix (ygg c.args[i] (hx _ (List.getElem_mem hb)) _) ?_
          simp
    · apply jA
      simp [y12.r10]
      apply jD
      simp at hc
      simp [ypv hb (by rw [hgd,←hp];exact hc)]
    simp at hc
    simp
    apply jE
    simp [y12.r11,y3q hb ha]
    refine ⟨c.args.length-(i+1),by omega,_,_,.refl _ _,i+1,by omega,rfl,fun j hj=>?_,rfl,by simp⟩
    by_cases hj2:j=i
    · subst hj2;rw [hgd,←hp];exact hc
    · exact hn j (by omega)
def cnB (c:Cn):Bool:=y9r c.a&&(!decide (c.op=6)||yfi c.a)&&(if c.op=1 then yda c.b else y9r c.b)
theorem cnE_eq (c:Cn):cnE c=if c.op<1∨6<c.op then 5 else if cnB c=false then 11 else if c.op=6 then (if ycz c then 0 else 3)
    else if ¬c.args=[] then 3 else if c.op=5 then (if 0≤c.k∧c.k≤64∧1≤c.tag.length∧c.tag.length≤60 then 0 else 3) else if c.k=0∧c.tag=[] then 0 else 3:=by
  unfold cnE
  by_cases h1:c.op<1∨6<c.op
  · rw [if_pos h1,if_pos h1]
  rw [if_neg h1,if_neg h1]
  have e:(y9r c.a=true∧(c.op=6→yfi c.a=true)∧(if c.op=1 then yda c.b=true else y9r c.b=true))↔cnB c=true:=by
    unfold cnB
    by_cases h6:c.op=6
    · simp [h6,and_assoc]
    · by_cases h1:c.op=1 <;> simp [h6,h1]
  by_cases h2:cnB c=true
  · rw [if_neg (Classical.not_not.2 (e.2 h2)),if_neg (show ¬cnB c=false by simp [h2])]
    by_cases h6:c.op=6
    · rw [if_pos h6,if_pos h6]
    rw [if_neg h6,if_neg h6]
    by_cases ha:c.args=[]
    · by_cases h5:c.op=5
      · simp [ha,h5,ylm,and_assoc]
      · simp [ha,h5]
    · by_cases h5:c.op=5
      · simp [ha,h5]
      · simp [ha,h5]
  · rw [if_pos (fun h=>h2 (e.1 h)),if_pos (by simpa using h2)]
theorem RCon_ok (c:Cn) (h1:c.a.length≤9223372036854775807) (h2:c.b.length≤9223372036854775807) (ht:c.tag.length≤9223372036854775807) (ha:c.args.length≤9223372036854775807) (hx:∀a∈c.args,a.length≤9223372036854775807) (H:Hp):AC Tryz.prog yc4 [.agg (y5y c)] H (fun v H'=>v=.i .i64 (cnE c)∧H'=H):=by
  refine AC.codeP yu.at yu.ok (by simp) fun hlt=>?_
  rw [cnE_eq]
  simp only [yu]
  apply jA
  simp [yu.r0,y5y]
  refine AX.seq ?_
  refine AX.test (decide (c.op<1)||decide (6<c.op)) [(1,.fp (y5y c) 0),(12,.b (decide (c.op<1)||decide (6<c.op)))] ?_ rfl (fun hb=>?_) (fun hb=>AX.skip ?_)
  · by_cases h:c.op<1
    · simp [yu.r1,y5y,h]
    · simp [yu.r1,y5y,h]
  · apply jA
    simp [yu.r2]
    apply jD
    simp at hb
    simp [hb]
    exact ⟨.refl _,.refl _⟩
  simp at hb
  have hop:¬(c.op<1∨6<c.op):=by omega
  rw [if_neg hop]
  simp
  apply jA
  simp [yu.r3,y5y]
  refine AC.fix (yev c.a h1 _) ?_
  rw [yg2]
  obtain ⟨er,d,hrd,hsite,hnode⟩:∃(er:Int) (d:Nd),rdV (ybv c.a)=.tup [nv d,.i .i64 er]∧yfi c.a=(decide (er=0)&&decide (d.kind=3))∧True:=by
    cases hr:ybv c.a with
    | none=>exact ⟨11,Nd.zero,rfl,by simp [yfi,hr],trivial⟩
    | some d=>exact ⟨0,d,rfl,by simp [yfi,hr],trivial⟩
  rw [hrd]
  simp [nv,Nd.cs]
  refine AX.seq ?_
  refine AX.test (!cnB c) [(1,.fp (y5y c) 0),(58,.b (!cnB c))] ?_ rfl (fun hb=>?_) (fun hb=>AX.skip ?_)
  · simp [yu.r4]
    refine AC.fix (ygg c.a h1 _) ?_
    cases hA:y9r c.a
    · simp [cnB,hA,y5y]
    by_cases h6:c.op=6
    · by_cases he:er=0
      · by_cases hk:d.kind=3
        · simp [h6,he,hk]
          refine AC.fix (ygg c.b h2 _) ?_
          simp [cnB,hA,h6,hsite,he,hk,y5y]
        · simp [h6,he,hk]
          simp [cnB,hA,h6,hsite,he,hk,y5y]
      · simp [h6,he]
        simp [cnB,hA,h6,hsite,he,y5y]
    · by_cases hq:c.op=1
      · simp [h6,hq]
        refine AC.fix (yuv c.b h2 _) ?_
        cases hB:yda c.b <;> simp [cnB,hA,hq,hB,y5y]
      · simp [h6,hq]
        refine AC.fix (ygg c.b h2 _) ?_
        simp [cnB,hA,h6,hq,y5y]
  · apply jA
    simp [yu.r5]
    apply jD
    simp at hb
    simp [hb]
    exact ⟨ye8 hlt _ _,.refl _⟩
  simp at hb
  simp [hb]
  apply jC
  simp [yu.r6,y5y]
  refine AX.pcond rfl (fun hc=>?_) (fun hc=>?_)
  · simp at hc
    apply jA
    simp [yu.r7]
    refine AC.fix (Rcall_ok c ht ha hx _) ?_
    simp
    apply jD
    simp [hc]
    exact ⟨ye8 hlt _ _,.refl _⟩
  simp at hc
  simp [hc]
  apply jA
  simp [yu.r8,ss]
  have hlen:(0<c.args.length)↔¬c.args=[]:=by cases c.args <;> simp
  refine AX.pcond rfl (fun hd=>?_) (fun hd=>?_)
  · simp at hd
    have hd':¬c.args=[]:=hlen.1 (by first | exact hd | (cases h:c.args <;> simp_all))
    apply jA
    simp [yu.r9]
    apply jD
    simp [hd']
    exact ⟨ye8 hlt _ _,.refl _⟩
  simp at hd
  simp [hd]
  apply jA
  simp [yu.r10]
  refine AX.pcond rfl (fun he=>?_) (fun he=>?_)
  · simp at he
    simp [he]
    refine AX.seq ?_
    refine AX.test (!(decide (0≤c.k)&&decide (c.k≤64)&&decide (1≤c.tag.length)&&decide (c.tag.length≤60))) [(93,.b (!(decide (0≤c.k)&&decide (c.k≤64)&&decide (1≤c.tag.length)&&decide (c.tag.length≤60))))] ?_ rfl (fun hb=>?_) (fun hb=>AX.skip ?_)
    · by_cases k1:c.k<0
      · simp [yu.r11,k1,show ¬0≤c.k by omega]
      by_cases k2:64<c.k
      · simp [yu.r11,k1,k2,show 0≤c.k by omega,show ¬c.k≤64 by omega]
      by_cases k3:c.tag.length<1
      · simp [yu.r11,k1,k2,k3,show 0≤c.k by omega,show c.k≤64 by omega]
      by_cases k4:60<c.tag.length
      · simp [yu.r11,k1,k2,k3,k4,show 0≤c.k by omega,show c.k≤64 by omega]
      · simp [yu.r11,k1,k2,k3,k4,show 0≤c.k by omega,show c.k≤64 by omega,show 1≤c.tag.length by omega,show c.tag.length≤60 by omega]
    · apply jA
      simp [yu.r12]
      apply jD
      have:¬(0≤c.k∧c.k≤64∧1≤c.tag.length∧c.tag.length≤60):=by
        intro ⟨g1,g2,g3,g4⟩
        simp [g1,g2,g3,g4] at hb
      simp [this]
      exact ⟨ye8 hlt _ _,.refl _⟩
    · simp at hb
      simp
      apply jA
      simp [yu.r13]
      apply jD
      simp [hb]
      exact ⟨ye8 hlt _ _,.refl _⟩
  simp at he
  simp [he]
  apply jA
  by_cases k1:c.k=0
  · by_cases k2:c.tag=[]
    · simp [yu.r14,k1,k2]
      refine jF rfl (AX.skip ?_)
      simp
      apply jA
      simp [yu.r16]
      apply jD
      simp
      exact ⟨ye8 hlt _ _,.refl _⟩
    · simp [yu.r14,k1,k2,show (c.tag == [])=false by simpa using k2]
      refine jG rfl ?_
      apply jA
      simp [yu.r15]
      apply jD
      simp
      exact ⟨ye8 hlt _ _,.refl _⟩
  · simp [yu.r14,k1]
    refine jG rfl ?_
    apply jA
    simp [yu.r15]
    apply jD
    simp
    exact ⟨ye8 hlt _ _,.refl _⟩
end Go.Proofs.YthmkcebbeehbeaaGreatDoor
