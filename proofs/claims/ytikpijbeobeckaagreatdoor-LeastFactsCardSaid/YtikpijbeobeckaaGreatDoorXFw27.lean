/- Part 27. -/
import Derived.Test.YtikpijbeobeckaaGreatDoorXFw25
import Derived.Test.YtikpijbeobeckaaGreatDoorXFw26
set_option linter.unusedSimpArgs false
set_option linter.unusedVariables false
namespace Go.Proofs.YtikpijbeobeckaaGreatDoor
open Am C
def tcs (l:List Str):List V:=l.map fun x=>.s x
def yl7 (H:Hp) (cs:List V) (v:V) (id:Nat):Prop:=(cs=[]∧∃z,v=.sl none 0 z)∨(cs≠[]∧v=.sl (some (id,0,cs.length)) cs.length 1∧∃m,H.get id=some (.cells cs m)∧m≤cs.length)
theorem yb1 {α:Type} {l:List α} {n:Nat} {v:α} (h:l[n]?=some v):(l.drop n).take 1=[v]:=by
 obtain ⟨h1,h2⟩:=List.getElem?_eq_some_iff.1 h
 rw [kP h1,h2];rfl
def BsInv (arr:V) (x:Str) (g:V) (len p:Nat) (H:Hp) (m:Nat) (F:Fr) (H':Hp):Prop:=
 ∃i j,i≤p∧p≤j∧j≤len∧m=j-i∧H'=H∧F=[(0,arr),(1,.s x),(2,g),(8,.i .i64 len),(9,.i .i64 i),(10,.i .i64 j)]
theorem half (i j:Nat) (h:i+j≤4611686018427387904):Go.IntKind.i64.wrap ((Go.IntKind.u64.wrap (Go.IntKind.i64.wrap ((i:Int)+j))).fdiv 2)=(((i+j) / 2:Nat):Int):=by
 rw [wrap_i64 (n:=(i:Int)+j) (by omega) (by omega),y9k (by omega) (by omega),Int.fdiv_eq_ediv_of_nonneg _ (by omega),wrap_i64 (by omega) (by omega)];omega
theorem BSF_ok (os:List Nat) (x:Str) (ido m:Nat) (f:Go.FuncId) (caps:List V) (c:Nat→Int) (p:Nat) (H:Hp) (hne:os≠[]) (hg:H.get ido=some (.cells (nc os) m)) (hm:m≤os.length) (hl:os.length≤1000000000) (hp:p≤os.length)
  (hc:∀j,j<os.length→(c j<0↔j<p)) (hf:∀j n,os[j]?=some n→AC Tryz.prog f (.i .i64 (n:Nat)::.s x::caps) H (fun v H'=>v=.i .i64 (c j)∧H'=H)):
  AC Tryz.prog y3w [.sl (some (ido,0,os.length)) os.length 1,.s x,.fn f caps] H (fun v H'=>v=.tup [.i .i64 (p:Nat),.b (decide (p<os.length∧c p=0))]∧H'=H):=by
 refine AC.code yc.at yc.ok ?_
 simp only [yc]
 have hld:∀j n,os[j]?=some n→((nc os).drop j).take 1=[.i .i64 (n:Nat)]:=fun j n h=>yb1 (by simp [nc,h])
 apply jA
 simp [yc.r0]
 apply jA
 simp [yc.r1]
 apply jA
 simp [yc.r2]
 refine AX.seq (AX.pblock (AX.loop (BsInv (.sl (some (ido,0,os.length)) os.length 1) x (.fn f caps) os.length p H) os.length ⟨_,_,.refl _ _,0,os.length,by omega,hp,by omega,by omega,rfl,rfl⟩ ?_))
 rintro m' F H' ⟨i,j,hi,hj,hjl,rfl,rfl,rfl⟩
 simp only [yc.l0]
 apply jB
 simp [yc.r3]
 refine AX.pcond rfl (fun hb=>AX.skip ?_) (fun hb=>AX.exit ?_)
 ·simp at hb
  simp
  refine AX.pblock (jA ?_)
  obtain ⟨e,he⟩:∃e,e=(i+j) / 2:=⟨_,rfl⟩
  have hh:=half i j (by omega)
  rw [←he] at hh
  simp [yc.r4,hh]
  have hel:e<os.length:=by omega
  obtain ⟨n,hn⟩:∃n,os[e]?=some n:=⟨_,kC hel⟩
  apply jA
  simp [yc.r5,hel,hg,hm,hld e n hn,show e+1≤os.length by omega]
  refine AC.fix (hf e n hn) ?_
  simp
  refine AX.pcond rfl (fun h=>AX.reg ?_) (fun h=>AX.reg ?_)
  ·simp at h
   have:=(hc e hel).1 h
   simp [yc.r6,yds (show e≤9223372036854775000 by omega)]
   exact ⟨j-(e+1),by omega,_,_,.refl _ _,e+1,j,by omega,hj,hjl,rfl,rfl,by simp⟩
  ·simp at h
   have:¬e<p:=fun hlt=>by have:=(hc e hel).2 hlt;omega
   simp [yc.r7]
   exact ⟨e-i,by omega,_,_,.refl _ _,i,e,hi,by omega,by omega,rfl,rfl,rfl⟩
 simp at hb
 have e1:i=p:=by omega
 subst e1
 simp
 apply jA
 by_cases hlt:i<os.length
 ·obtain ⟨n,hn⟩:∃n,os[i]?=some n:=⟨_,kC hlt⟩
  simp [yc.r8,hlt,hg,hm,hld i n hn,show i+1≤os.length by omega]
  refine AC.fix (hf i n hn) ?_
  simp [hlt]
  apply jD
  simp
 ·simp [yc.r8,hlt]
  apply jD
  simp
theorem BSF0_ok (x:Str) (z:Nat) (f:Go.FuncId) (caps:List V) (H:Hp):
  AC Tryz.prog y3w [.sl none 0 z,.s x,.fn f caps] H (fun v H'=>v=.tup [.i .i64 ((0:Nat):Int),.b false]∧H'=H):=by
 refine AC.code yc.at yc.ok ?_
 simp only [yc]
 apply jA
 simp [yc.r0]
 apply jA
 simp [yc.r1]
 apply jA
 simp [yc.r2]
 refine AX.seq (AX.pblock (AX.loop (fun m F X=>m=0∧X=H∧F=[(0,.sl none 0 z),(1,.s x),(2,.fn f caps),(8,.i .i64 0),(9,.i .i64 0),(10,.i .i64 0)]) 0 ⟨_,_,.refl _ _,rfl,rfl,rfl⟩ ?_))
 rintro m F X ⟨rfl,rfl,rfl⟩
 simp only [yc.l0]
 apply jB
 simp [yc.r3]
 refine jF rfl (AX.exit ?_)
 simp
 apply jA
 simp [yc.r8]
 apply jD
 simp
def y8d (ts:List Str) (os:List Nat):List Str:=os.map fun n=>ts.getD n []
theorem yr3 (x y:Str):(y9i x y<0)=(ltB x y=true):=by
 unfold y9i
 by_cases h:ltB x y=true
 ·simp [h]
 ·rw [if_neg h];by_cases h2:x=y
  ·rw [if_pos h2];simp [h]
  ·rw [if_neg h2];simp [h]
theorem cmp_zero (x y:Str):(y9i x y=0)=(x=y):=by
 unfold y9i
 by_cases h:ltB x y=true
 ·rw [if_pos h]
  have:x≠y:=fun e=>by rw [e] at h;exact absurd h (y7x _)
  simp [this]
 ·rw [if_neg h];by_cases h2:x=y
  ·rw [if_pos h2];simp [h2]
  ·rw [if_neg h2];simp [h2]
def yem (ts:List Str) (os:List Nat) (x:Str):List Str:=if x∈y8d ts os then ts else ts++[x]
def putO (ts:List Str) (os:List Nat) (x:Str):List Nat:=if x∈y8d ts os then os else ygl os (yck (y8d ts os) x) ts.length
theorem ype {ts:List Str} {os:List Nat} {x:Str} (hall:∀n∈os,n<ts.length) (h:x∉y8d ts os):y8d (ts++[x]) (ygl os (yck (y8d ts os) x) ts.length)=(y8d ts os).take (yck (y8d ts os) x)++x::(y8d ts os).drop (yck (y8d ts os) x):=by
 have e:∀l:List Nat,(∀n∈l,n<ts.length)→(l.map fun n=>(ts++[x]).getD n [])=l.map fun n=>ts.getD n []:=fun l hl=>by
  apply List.map_congr_left
  intro n hn
  rw [kQ,kQ,kR (hl n hn)]
 unfold ygl
 generalize yck (y8d ts os) x=p
 unfold y8d
 rw [List.map_append,List.map_cons,e _ (fun n hn=>hall n (List.mem_of_mem_take hn)),e _ (fun n hn=>hall n (List.mem_of_mem_drop hn)),List.map_take,List.map_drop]
 simp [kQ]
structure Mk where
 pos:Int
 tag:Str
 deriving DecidableEq
structure Ob where
 name:Str
 kinds:Str
 marks:List Mk
 deriving DecidableEq
structure Fu where
 name:Str
 kinds:Str
 ret:Str
 deriving DecidableEq
structure Cn where
 op:Int
 a:Str
 b:Str
 k:Int
 tag:Str
 args:List Str
structure Sy where
 objs:List Ob
 fns:List Fu
 cons:List Cn
def y9h (m:Mk):List V:=[.i .i64 m.pos,.s m.tag]
def y68 (o:Ob):List V:=[.s o.name,.s o.kinds,.fs (o.marks.map y9h)]
def yb0 (f:Fu):List V:=[.s f.name,.s f.kinds,.s f.ret]
def y3z (c:Cn):List V:=[.i .i64 c.op,.s c.a,.s c.b,.i .i64 c.k,.s c.tag,ss c.args]
def y3p (s:Sy):List V:=[.fs (s.objs.map y68),.fs (s.fns.map yb0),.fs (s.cons.map y3z)]
def y9v (s:Str):Bool:=match y5t s with
 | some d=>decide (d.kind≤3)||decide (0≤d.cell)
 | none=>false
def ybi (s:Str):Bool:=match y5t s with
 | some d=>decide (d.kind=4)||decide (0≤d.cell)
 | none=>false
def kpB (s:Str):Bool:=s.all fun c=>c == 105||c == 112
def yk2 (t:Str):Bool:=decide (1≤t.length)&&decide (t.length≤60)
def mkB (n:Nat) (l:List Mk) (m:Mk):Bool:=decide (0≤m.pos)&&decide (m.pos<n)&&yk2 m.tag&&decide (∀x,l.getLast?=some x→x.pos≤m.pos)&&decide (m∉l)
def ync (n:Nat):List Mk→List Mk→Bool
 | _,[]=>true
 | l,m::r=>mkB n l m&&ync n (l++[m]) r
def obE (o:Ob):Int:=match y5t o.name with
 | none=>11
 | some d=>if d.kind<5∨0≤d.cell then 11 else if ¬(kpB o.kinds=true∧1≤o.kinds.length∧o.kinds.length≤64) then 5 else if ync o.kinds.length [] o.marks then 0 else 3
def retB (r:Str):Bool:=decide (r=[105])||decide (r=[112])||decide (r=[118])
def fuE (f:Fu):Int:=match y5t f.name with
 | none=>11
 | some d=>if d.kind≠4 then 11 else if ¬(kpB f.kinds=true∧f.kinds.length≤6)∨retB f.ret=false then 5 else 0
def ybm:Str→Option (Str × Str)
 | []=>none
 | c::r=>if c=62 then some ([],r) else (ybm r).map fun x=>(c::x.1,x.2)
def yl4 (p:Bool) (a:Str):Bool:=decide (a=[])||(p&&y9v a)
def ybf (c:Cn):Bool:=match ybm c.tag with
 | none=>false
 | some (l,r)=>decide (c.k=0)&&kpB l&&decide (l.length≤6)&&(decide (r=[])||decide (r=[105])||decide (r=[112]))&&decide (c.args.length=l.length+1) &&
   (List.range c.args.length).all fun i=>yl4 (if i=0 then decide (r=[112]) else decide (l[i-1]?=some 112)) (c.args.getD i [])
def yde (s:Str):Bool:=match y5t s with
 | some d=>decide (d.kind=3)
 | none=>false
def cnE (c:Cn):Int:=
 if c.op<1∨6<c.op then 5
 else if ¬(y9v c.a=true∧(c.op=6→yde c.a=true)∧(if c.op=1 then ybi c.b=true else y9v c.b=true)) then 11
 else if c.op=6 then (if ybf c then 0 else 3)
 else if c.op=5 then (if c.args=[]∧0≤c.k∧c.k≤64∧yk2 c.tag=true then 0 else 3)
 else if c.args=[]∧c.k=0∧c.tag=[] then 0 else 3
def ydb (x y:Int):Int:=if x<y then -1 else if x=y then 0 else 1
def cmpN (x y:Nat):Int:=if x<y then -1 else if x=y then 0 else 1
def orI:List Int→Int
 | []=>0
 | x::r=>if x≠0 then x else orI r
def ykw:List Str→List Str→Int
 | [],b=>cmpN 0 b.length
 | a::r,[]=>1
 | a::r,b::q=>if y9i a b≠0 then y9i a b else ykw r q
def ygn (a b:Cn):Int:=orI [ydb a.op b.op,y9i a.a b.a,y9i a.b b.b,ydb a.k b.k,y9i a.tag b.tag,ykw a.args b.args]
def chk {α:Type} (ask:α→Int) (cmp:α→α→Int):Option α→List α→Int
 | _,[]=>0
 | p,x::r=>if ask x≠0 then ask x else if (match p with | some y=>decide (0≤cmp y x) | none=>false) then 13 else chk ask cmp (some x) r
def yin (a b:Ob):Int:=y9i a.name b.name
def yio (a b:Fu):Int:=y9i a.name b.name
def ye2 (s:Sy):Int:=
 if 600<s.objs.length∨600<s.fns.length∨6000<s.cons.length then 4
 else orI [chk obE yin none s.objs,chk fuE yio none s.fns,chk cnE ygn none s.cons]
def y97 (obj:Str) (k:Nat):Str:=match y5t obj with
 | some d=>if d.kind<5∨d.cell≠-1 then [] else if y4x { d with cell:=k } then y34 { d with cell:=k } else []
 | none=>[]
def yma (o:Ob) (all:Bool) (i:Nat):Bool:=all||decide (o.kinds[i]?=some 112)
def yg1 (o:Ob) (all:Bool):List Str:=((List.range o.kinds.length).filter (yma o all)).map (y97 o.name)
def y4t (s:Sy):List Str:=(s.objs.flatMap fun o=>yg1 o true)++(s.fns.map Fu.name++s.cons.filterMap fun c=>if c.op=1 then some c.b else none)
def KdInv (s:Str) (a b:Int) (H:Hp) (m:Nat) (F:Fr) (H':Hp):Prop:=
 ∃i,i≤s.length∧m=s.length-i∧kpB (s.take i)=true∧H'=H∧F=[(0,.s s),(1,.i .i64 a),(2,.i .i64 b),(7,.i .i64 i)]
theorem kpB_take {s:Str} {i:Nat} (h:i<s.length):kpB (s.take (i+1))=(kpB (s.take i)&&(s[i] == 105||s[i] == 112)):=by
 unfold kpB
 rw [kJ,kC h,List.all_append]
 simp
theorem kpB_no {s:Str} {i:Nat} (h:i<s.length) (hn:¬(s[i] == 105||s[i] == 112)=true):kpB s=false:=by
 cases hk:kpB s
 ·rfl
 ·exact absurd (List.all_eq_true.1 hk _ (kL h)) hn
theorem yov (a:UInt8) (n:Nat) (hn:n<256):((a.toNat:Int)=n)=(a=UInt8.ofNat n):=by
 apply propext
 constructor
 ·intro h
  have:a.toNat=n:=by omega
  rw [←this];simp
 ·intro h;subst h;simp;omega
theorem yga (s:Str) (a b:Int) (hs:s.length≤9223372036854775807) (H:Hp):AC Tryz.prog y60 [.s s,.i .i64 a,.i .i64 b] H (fun v H'=>v=.b (kpB s&&(decide (a≤s.length)&&decide ((s.length:Int)≤b)))∧H'=H):=by
 refine AC.code y1t.at y1t.ok ?_
 simp only [y1t]
 apply jA
 simp [y1t.r0]
 apply jB
 simp [y1t.r1]
 refine AX.pblock (AX.loop (KdInv s a b H) s.length ⟨_,_,.refl _ _,0,by omega,by omega,rfl,rfl,rfl⟩ ?_)
 rintro m F H' ⟨i,hi,rfl,hk,rfl,rfl⟩
 simp only [y1t.l0]
 apply jB
 simp [y1t.r2]
 refine AX.pcond rfl (fun hb=>AX.skip ?_) (fun hb=>AX.exit ?_)
 case refine_2=>
  simp at hb
  rw [kI hb] at hk
  simp
  apply jA
  by_cases h1:a≤s.length
  ·simp [y1t.r6,h1]
   apply jD
   simp [hk,h1]
  ·simp [y1t.r6,h1]
   apply jD
   simp [hk,h1]
 simp at hb
 simp
 apply jC
 have e1:((s[i].toNat:Int)=105)=(s[i]=105):=yov s[i] 105 (by omega)
 have e2:((s[i].toNat:Int)=112)=(s[i]=112):=yov s[i] 112 (by omega)
 have hkt:=kpB_take hb
 by_cases h1:s[i]=105
 ·simp [y1t.r3,hb,e1,e2,h1]
  refine jF rfl (AX.skip ?_)
  simp
  apply jE
  simp [y1t.r5,y2c hb hs]
  exact ⟨s.length-(i+1),by omega,_,_,.refl _ _,i+1,by omega,rfl,by rw [hkt,hk];simp [h1],rfl,by simp⟩
 by_cases h2:s[i]=112
 ·simp [y1t.r3,hb,e1,e2,h1,h2]
  refine jF rfl (AX.skip ?_)
  simp
  apply jE
  simp [y1t.r5,y2c hb hs]
  exact ⟨s.length-(i+1),by omega,_,_,.refl _ _,i+1,by omega,rfl,by rw [hkt,hk];simp [h2],rfl,by simp⟩
 simp [y1t.r3,hb,e1,e2,h1,h2]
 refine jG rfl ?_
 apply jA
 simp [y1t.r4]
 apply jD
 simp [kpB_no hb (by simp [h1,h2])]
theorem yfb (s:Str) (hs:s.length≤9223372036854775807) (H:Hp):AC Tryz.prog y6k [.s s] H (fun v H'=>v=.b (y9v s)∧H'=H):=by
 refine AC.codeP y30.at y30.ok (by simp) fun hlt=>?_
 simp only [y30]
 apply jA
 simp [y30.r0]
 apply jA
 simp [y30.r1]
 refine AC.fix (y99 s hs _) ?_
 rw [ya8]
 cases hr:y5t s with
 | none=>
  simp [rdV,nv,Nd.cs,Nd.zero]
  apply jA
  simp [y30.r2]
  apply jD
  simp [y9v,hr]
  exact ⟨(Hp.Ext.add hlt _).upd hlt (kG _) _,.refl _⟩
 | some d=>
  simp [rdV,nv,Nd.cs]
  apply jA
  by_cases hk:d.kind≤3
  ·simp [y30.r2,hk]
   apply jD
   simp [y9v,hr,hk]
   exact ⟨(Hp.Ext.add hlt _).upd hlt (kG _) _,.refl _⟩
  ·simp [y30.r2,hk]
   apply jD
   simp [y9v,hr,hk]
   exact ⟨(Hp.Ext.add hlt _).upd hlt (kG _) _,.refl _⟩
theorem yrv (s:Str) (hs:s.length≤9223372036854775807) (H:Hp):AC Tryz.prog y8n [.s s] H (fun v H'=>v=.b (ybi s)∧H'=H):=by
 refine AC.codeP y2x.at y2x.ok (by simp) fun hlt=>?_
 simp only [y2x]
 apply jA
 simp [y2x.r0]
 apply jA
 simp [y2x.r1]
 refine AC.fix (y99 s hs _) ?_
 rw [ya8]
 cases hr:y5t s with
 | none=>
  simp [rdV,nv,Nd.cs,Nd.zero]
  apply jA
  simp [y2x.r2]
  apply jD
  simp [ybi,hr]
  exact ⟨(Hp.Ext.add hlt _).upd hlt (kG _) _,.refl _⟩
 | some d=>
  simp [rdV,nv,Nd.cs]
  apply jA
  by_cases hk:d.kind=4
  ·simp [y2x.r2,hk]
   apply jD
   simp [ybi,hr,hk]
   exact ⟨(Hp.Ext.add hlt _).upd hlt (kG _) _,.refl _⟩
  ·simp [y2x.r2,hk]
   apply jD
   simp [ybi,hr,hk]
   exact ⟨(Hp.Ext.add hlt _).upd hlt (kG _) _,.refl _⟩
theorem ye0 (a b:Str) (H:Hp):AC Tryz.prog y5e [.s a,.s b] H (fun v H'=>v=.i .i64 (y9i a b)∧H'=H):=by
 refine AC.code y2d.at y2d.ok ?_
 simp only [y2d]
 apply jA
 simp [y2d.r0]
 apply jC
 simp [y2d.r1]
 refine AX.pcond rfl (fun hb=>?_) (fun hb=>?_)
 ·have hb0:=hb
  apply jA
  simp [y2d.r2]
  apply jD
  simp [y9i,hb]
 have hb0:=hb
 apply jA
 simp [y2d.r3]
 refine AX.pcond rfl (fun hc=>?_) (fun hc=>AX.skip ?_)
 ·simp at hc
  apply jA
  simp [y2d.r4]
  apply jD
  have:a≠b:=hc.2
  simp [y9i,hb,this]
 simp at hc
 simp
 apply jA
 simp [y2d.r5]
 apply jD
 have:a=b:=hc hb
 simp [y9i,this,y7x]
theorem yig (a b:Int) (H:Hp):AC Tryz.prog y6j [.i .i64 a,.i .i64 b] H (fun v H'=>v=.i .i64 (ydb a b)∧H'=H):=by
 refine AC.code y2p.at y2p.ok ?_
 simp only [y2p]
 apply jA
 simp [y2p.r0]
 apply jC
 simp [y2p.r1]
 refine AX.pcond rfl (fun hb=>?_) (fun hb=>?_)
 ·simp at hb
  apply jA
  simp [y2p.r2]
  apply jD
  simp [ydb,hb]
 simp at hb
 apply jA
 simp [y2p.r3]
 refine AX.pcond rfl (fun hc=>?_) (fun hc=>AX.skip ?_)
 ·simp at hc
  apply jA
  simp [y2p.r4]
  apply jD
  simp [ydb,show ¬a<b by omega,show ¬a=b by omega]
 simp at hc
 simp
 apply jA
 simp [y2p.r5]
 apply jD
 simp [ydb,show ¬a<b by omega,show a=b by omega]
theorem ydi {s:Str} {d:Nd} (h:y5t s=some d):d.fn.length≤s.length∧d.name.length≤s.length:=by
 unfold y5t at h
 split at h
 ·injection h with h;subst h;exact yiy s
 ·cases h
theorem RCell_ok (obj:Str) (k:Nat) (hs:obj.length≤9223372036854775807) (H:Hp):AC Tryz.prog y9e [.s obj,.i .i64 k] H (fun v H'=>v=.s (y97 obj k)∧H'=H):=by
 refine AC.codeP y20.at y20.ok (by simp) fun hlt=>?_
 simp only [y20]
 apply jA
 simp [y20.r0]
 apply jA
 simp [y20.r1]
 refine AC.fix (y99 obj hs _) ?_
 rw [ya8]
 cases hr:y5t obj with
 | none=>
  simp [rdV,nv,Nd.cs,Nd.zero]
  apply jB
  simp [y20.r2]
  refine jG rfl ?_
  apply jA
  simp [y20.r3]
  apply jD
  simp [y97,hr]
  exact ⟨(Hp.Ext.add hlt _).upd hlt (kG _) _,.refl _⟩
 | some d=>
  simp [rdV,nv,Nd.cs]
  apply jB
  by_cases hk:d.kind<5∨d.cell≠-1
  ·have e:y97 obj k=[]:=by unfold y97;rw [hr];simp only;rw [if_pos hk]
   by_cases h1:d.kind<5
   ·simp [y20.r2,h1]
    refine jG rfl ?_
    apply jA
    simp [y20.r3]
    apply jD
    simp [e]
    exact ⟨(Hp.Ext.add hlt _).upd hlt (kG _) _,.refl _⟩
   ·have h2:¬d.cell=-1:=by rcases hk with h | h;exact absurd h h1;exact h
    simp [y20.r2,h1,h2]
    refine jG rfl ?_
    apply jA
    simp [y20.r3]
    apply jD
    simp [e]
    exact ⟨(Hp.Ext.add hlt _).upd hlt (kG _) _,.refl _⟩
  ·have e:y97 obj k=if y4x { d with cell:=k } then y34 { d with cell:=k } else []:=by unfold y97;rw [hr];simp only;rw [if_neg hk]
   have h1:¬d.kind<5:=fun h=>hk (.inl h)
   have h2:d.cell=-1:=kg fun h=>hk (.inr h)
   simp [y20.r2,h1,h2]
   refine jF rfl (AX.skip ?_)
   simp
   apply jA
   simp [y20.r4]
   apply jA
   simp [y20.r5]
   have hdl:=ydi hr
   refine AC.fix (ydz { d with cell:=k } (by have:=hdl.1;simp;omega) (by have:=hdl.2;simp;omega) _) ?_
   obtain ⟨tx,er,etx,hfit⟩:∃tx er,yag { d with cell:=(k:Int) }=.tup [.s tx,.i .i64 er]∧y97 obj k=tx:=by
    rw [e]
    by_cases hr:y4x { d with cell:=(k:Int) }=true
    ·exact ⟨_,0,by unfold yag;rw [if_pos hr],by rw [if_pos hr]⟩
    ·exact ⟨[],11,by unfold yag;rw [if_neg hr],by rw [if_neg hr]⟩
   rw [etx,hfit]
   simp
   apply jA
   simp [y20.r6]
   apply jD
   simp
   exact ⟨(Hp.Ext.add hlt _).upd hlt (kG _) _,.refl _⟩
theorem yc0 {H:Hp} (hlt:∀id blk,H.get id=some blk→id<H.next) (a b:Blk):H.Ext ((H.add a).upd H.next b):=(Hp.Ext.add hlt _).upd hlt (kG _) _
theorem lt2 {H:Hp} (hlt:∀id blk,H.get id=some blk→id<H.next) (a b:Blk):∀id blk,((H.add a).upd H.next b).get id=some blk→id<((H.add a).upd H.next b).next:=Hp.upd_lt (Hp.add_lt hlt _) (by simp) _
theorem yjx (f:Fu) (h1:f.name.length≤9223372036854775807) (h2:f.kinds.length≤9223372036854775807) (H:Hp):AC Tryz.prog y7k [.agg (yb0 f)] H (fun v H'=>v=.i .i64 (fuE f)∧H'=H):=by
 refine AC.codeP y1i.at y1i.ok (by simp) fun hlt=>?_
 simp only [y1i]
 apply jA
 simp [y1i.r0,yb0]
 apply jA
 simp [y1i.r1]
 refine AC.fix (y99 f.name h1 _) ?_
 rw [ya8]
 cases hr:y5t f.name with
 | none=>
  simp [rdV,nv,Nd.cs,Nd.zero]
  apply jB
  simp [y1i.r2]
  refine jG rfl ?_
  apply jA
  simp [y1i.r3]
  apply jD
  simp [fuE,hr]
  exact ⟨yc0 hlt _ _,.refl _⟩
 | some d=>
  simp [rdV,nv,Nd.cs]
  apply jB
  by_cases hk:d.kind=4
  ·simp [y1i.r2,hk]
   refine jF rfl (AX.skip ?_)
   simp
   apply jB
   simp [y1i.r4]
   refine AC.fix (yga f.kinds 0 6 h2 _) ?_
   have eB:(kpB f.kinds&&(decide ((0:Int)≤f.kinds.length)&&decide ((f.kinds.length:Int)≤6)))=decide (kpB f.kinds=true∧f.kinds.length≤6):=by
    cases kpB f.kinds <;> simp
   rw [eB]
   by_cases hb:kpB f.kinds=true∧f.kinds.length≤6
   ·simp only [hb,decide_true]
    by_cases r1:f.ret=[105]
    ·simp [r1]
     refine jF rfl (AX.skip ?_)
     simp
     apply jA
     simp [y1i.r6]
     apply jD
     simp [fuE,hr,hk,hb,retB,r1]
     exact ⟨yc0 hlt _ _,.refl _⟩
    by_cases r2:f.ret=[112]
    ·simp [r1,r2]
     refine jF rfl (AX.skip ?_)
     simp
     apply jA
     simp [y1i.r6]
     apply jD
     simp [fuE,hr,hk,hb,retB,r2]
     exact ⟨yc0 hlt _ _,.refl _⟩
    by_cases r3:f.ret=[118]
    ·simp [r1,r2,r3]
     refine jF rfl (AX.skip ?_)
     simp
     apply jA
     simp [y1i.r6]
     apply jD
     simp [fuE,hr,hk,hb,retB,r3]
     exact ⟨yc0 hlt _ _,.refl _⟩
    simp [r1,r2,r3,show (f.ret == [105])=false by simpa using r1,show (f.ret == [112])=false by simpa using r2,show (f.ret == [118])=false by simpa using r3]
    refine jG rfl ?_
    apply jA
    simp [y1i.r5]
    apply jD
    simp [fuE,hr,hk,hb,retB,r1,r2,r3]
    exact ⟨yc0 hlt _ _,.refl _⟩
   ·simp only [hb,decide_false]
    simp
    refine jG rfl ?_
    apply jA
    simp [y1i.r5]
    apply jD
    have:fuE f=5:=by unfold fuE;rw [hr];simp only [hk];rw [if_neg (by simp),if_pos (.inl hb)]
    simp [this]
    exact ⟨yc0 hlt _ _,.refl _⟩
  ·simp [y1i.r2,hk]
   refine jG rfl ?_
   apply jA
   simp [y1i.r3]
   apply jD
   simp [fuE,hr,hk]
   exact ⟨yc0 hlt _ _,.refl _⟩
def yah (l r:Str):Bool:=kpB l&&decide (l.length≤6)&&(decide (r=[])||decide (r=[105])||decide (r=[112]))
def sigV (t:Str):V:=match ybm t with
 | none=>.tup [.s [],.s [],.b false]
 | some (l,r)=>.tup [.s l,.s r,.b (yah l r)]
theorem yp4:∀{t:Str} {i:Nat},(62:UInt8)∉t.take i→(h:i<t.length)→t[i]=62→ybm t=some (t.take i,t.drop (i+1))
 | [],i,_,h,_=>by simp at h
 | c::r,0,_,_,e=>by simp at e;simp [ybm,e]
 | c::r,i+1,hn,h,e=>by
  simp at hn h e
  have hc:¬c=62:=fun h=>hn.1 h.symm
  simp [ybm,hc,yp4 hn.2 h e]
theorem yp3:∀{t:Str},(62:UInt8)∉t→ybm t=none
 | [],_=>rfl
 | c::r,h=>by
  simp at h
  have hc:¬c=62:=fun e=>h.1 e.symm
  simp [ybm,hc,yp3 h.2]
def SigInv (t:Str) (H:Hp) (m:Nat) (F:Fr) (X:Hp):Prop:=
 ∃i,i≤t.length∧m=t.length-i∧(62:UInt8)∉t.take i∧X=H∧F=[(0,.s t),(5,.i .i64 i)]
theorem Sig_ok (t:Str) (ht:t.length≤9223372036854775807) (H:Hp):AC Tryz.prog y82 [.s t] H (fun v H'=>v=sigV t∧H'=H):=by
 refine AC.code y23.at y23.ok ?_
 simp only [y23]
 apply jA
 simp [y23.r0]
 apply jB
 simp [y23.r1]
 refine AX.pblock (AX.loop (SigInv t H) t.length ⟨_,_,.refl _ _,0,by omega,by omega,by simp,rfl,rfl⟩ ?_)
 rintro m F X ⟨i,hi,rfl,hn,rfl,rfl⟩
 simp only [y23.l0]
 apply jB
 simp [y23.r2]
 refine AX.pcond rfl (fun hb=>AX.skip ?_) (fun hb=>AX.exit ?_)
 case refine_2=>
  simp at hb
  rw [kI hb] at hn
  simp
  apply jA
  simp [y23.r7]
  apply jD
  simp [sigV,yp3 hn]
 simp at hb
 simp
 apply jC
 have e1:((t[i].toNat:Int)=62)=(t[i]=62):=yov t[i] 62 (by omega)
 simp [y23.r3,hb,e1]
 refine AX.pcond rfl (fun hc=>?_) (fun hc=>AX.skip ?_)
 ·simp at hc
  have es:=yp4 hn hb hc
  apply jA
  simp [y23.r4,y2c hb ht,show i+1≤t.length from hb,show (0:Int)≤(i:Int)+1 by omega,show (i:Int)+1≤(t.length:Int) by omega]
  generalize hl:t.take i=l at *
  generalize hr:t.drop (i+1)=r at *
  have hll:l.length≤9223372036854775807:=by rw [←hl];simp;omega
  have hil:i≤t.length:=hi
  refine AX.seq (AX.drw ?_)
  simp [y23.r5,hil,hl]
  refine y33 _ (fun H2=>yga l 0 6 hll H2) ?_
  have eq:yah l r=((kpB l&&(decide ((0:Int)≤l.length)&&decide ((l.length:Int)≤6)))&&(decide (r=[])||decide (r=[105])||decide (r=[112]))):=by
   unfold yah
   cases kpB l <;> simp
  have eV:sigV t=.tup [.s l,.s r,.b (yah l r)]:=by unfold sigV;rw [es]
  rw [eV,eq]
  generalize (kpB l&&(decide ((0:Int)≤l.length)&&decide ((l.length:Int)≤6)))=q
  cases q
  ·simp
   apply jD
   simp
  by_cases r0:r=[]
  ·simp [r0]
   apply jD
   simp
  by_cases r1:r=[105]
  ·simp [r0,r1]
   apply jD
   simp
  have q1:(r == [105])=false:=by simpa using r1
  have q0:(r == [])=false:=by simpa using r0
  by_cases r2:r=[112]
  ·simp [r0,r1,r2,q0,q1]
   apply jD
   simp
  have q2:(r == [112])=false:=by simpa using r2
  simp [r0,r1,r2,q0,q1,q2]
  apply jD
  simp [r0,r1,r2]
 simp at hc
 simp
 apply jE
 simp [y23.r6,y2c hb ht]
 refine ⟨t.length-(i+1),by omega,_,_,.refl _ _,i+1,by omega,rfl,?_,rfl,by simp⟩
 rw [kJ,kC hb]
 intro hm
 rcases List.mem_append.1 hm with hm | hm
 ·exact hn hm
 ·simp at hm;exact hc hm.symm
def yn8 (l r:Str) (i:Nat):Bool:=if i=0 then decide (r=[112]) else decide (l[i-1]?=some 112)
def yns (l r:Str) (args:List Str):Bool:=(List.range args.length).all fun i=>yl4 (yn8 l r i) (args.getD i [])
theorem yeh (c:Cn):ybf c=match ybm c.tag with
  | none=>false
  | some (l,r)=>yah l r&&decide (c.k=0)&&decide (c.args.length=l.length+1)&&yns l r c.args:=by
 unfold ybf
 cases h:ybm c.tag with
 | none=>rfl
 | some x=>
  obtain ⟨l,r⟩:=x
  simp only [yah,yns,yn8]
  cases kpB l <;> cases decide (c.k=0) <;> simp
def CallInv (c:Cn) (l r:Str) (H:Hp) (m:Nat) (F:Fr) (X:Hp):Prop:=
 ∃i,i≤c.args.length∧m=c.args.length-i∧(∀j,j<i→yl4 (yn8 l r j) (c.args.getD j [])=true)∧X=H∧F=[(1,.fp (y3z c) 0),(3,.s l),(4,.s r),(6,.i .i64 i)]
theorem ymt {l r:Str} {args:List Str} {i:Nat} (h:i<args.length) (hn:yl4 (yn8 l r i) (args.getD i [])=false):yns l r args=false:=by
 cases hk:yns l r args
 ·rfl
 ·have:=List.all_eq_true.1 hk i (List.mem_range.2 h)
  rw [hn] at this;cases this
theorem yhj:∀{t:Str} {l r:Str},ybm t=some (l,r)→l.length+r.length+1=t.length
 | [],l,r,h=>by simp [ybm] at h
 | c::q,l,r,h=>by
  unfold ybm at h
  split at h
  ·injection h with h;injection h with h1 h2;subst h1;subst h2;simp
  ·cases hs:ybm q with
   | none=>rw [hs] at h;cases h
   | some x=>
    rw [hs] at h;injection h with h;injection h with h1 h2
    have:=yhj (t:=q) (l:=x.1) (r:=x.2) (by rw [hs])
    subst h1;subst h2;simp;omega
theorem Rcall_ok (c:Cn) (ht:c.tag.length≤9223372036854775807) (ha:c.args.length≤9223372036854775807) (hx:∀a∈c.args,a.length≤9223372036854775807) (H:Hp):AC Tryz.prog y9d [.agg (y3z c)] H (fun v H'=>v=.i .i64 (if ybf c then 0 else 3)∧H'=H):=by
 refine AC.code y15.at y15.ok ?_
 simp only [y15]
 apply jA
 simp [y15.r0,y3z]
 apply jA
 simp [y15.r1]
 refine AC.fix (Sig_ok c.tag ht _) ?_
 rw [yeh]
 unfold sigV
 cases hs:ybm c.tag with
 | none=>
  simp
  apply jB
  simp [y15.r2]
  refine jG rfl ?_
  apply jA
  simp [y15.r3]
  apply jD
  simp
 | some x=>
  obtain ⟨l,r⟩:=x
  have hll:=yhj hs
  simp
  refine AX.seq ?_
  refine AX.test (!(yah l r&&decide (c.k=0)&&decide (c.args.length=l.length+1))) [(1,.fp (y3z c) 0),(3,.s l),(4,.s r),(30,.b (!(yah l r&&decide (c.k=0)&&decide (c.args.length=l.length+1))))] ?_ rfl (fun hb=>?_) (fun hb=>AX.skip ?_)
  ·cases yah l r
   ·simp [y15.r2,y3z]
   have hw:IntKind.i64.wrap ((l.length:Int)+1)=(l.length:Int)+1:=wrap_i64 (by omega) (by omega)
   by_cases hk:c.k=0
   ·by_cases hl:c.args.length=l.length+1
    ·simp [y15.r2,hk,hl,ss,y3z,hw]
    ·simp [y15.r2,hk,hl,ss,y3z,hw,show ¬(c.args.length:Int)=(l.length:Int)+1 by omega]
   ·simp [y15.r2,hk,y3z]
  ·apply jA
   simp [y15.r3]
   apply jD
   simp at hb
   simp
   rcases hb with (h | h) | h <;> simp [h]
  simp at hb
  obtain ⟨⟨h1,h2⟩,h3⟩:=hb
  simp [h1,h2,h3]
  apply jB
  simp [y15.r4]
  refine AX.pblock (AX.loop (CallInv c l r H) c.args.length ⟨_,_,.refl _ _,0,by omega,by omega,fun j hj=>by omega,rfl,by simp [y3z]⟩ ?_)
  rintro m F X ⟨i,hi,rfl,hn,rfl,rfl⟩
  simp only [y15.l0]
  apply jB
  simp [y15.r5,ss,y3z]
  refine AX.pcond rfl (fun hb=>AX.skip ?_) (fun hb=>AX.exit ?_)
  case refine_2=>
   simp at hb
   have:yns l r c.args=true:=List.all_eq_true.2 fun j hj=>hn j (by have:=List.mem_range.1 hj;omega)
   simp
   apply jA
   simp [y15.r12]
   apply jD
   simp [this]
  simp at hb
  simp
  apply jC
  simp [y15.r6]
  refine AX.seq (AX.join (F1:=[(1,.fp (y3z c) 0),(3,.s l),(4,.s r),(6,.i .i64 i),(7,.b (yn8 l r i))]) (H1:=X) ?_ ?_)
  ·apply jA
   simp [y15.r7]
   refine AX.pcond rfl (fun hc=>?_) (fun hc=>AX.skip ?_)
   ·simp at hc
    have hi1:i-1<l.length:=by omega
    have e1:((l[i-1].toNat:Int)=112)=(l[i-1]=112):=yov l[i-1] 112 (by omega)
    have e0:((i:Int)-1).toNat=i-1:=by omega
    apply jE
    simp [y15.r8,show (0:Int)≤(i:Int)-1 by omega,show 1≤i by omega,e0,hi1,e1,show IntKind.i64.wrap ((i:Int)-1)=(i:Int)-1 from wrap_i64 (by omega) (by omega),y3z,ss]
    simp [yn8,show ¬i=0 by omega,hi1]
   ·simp at hc
    subst hc
    simp [yn8,y3z,ss]
  simp
  obtain ⟨p,hp⟩:∃p,p=yn8 l r i:=⟨_,rfl⟩
  rw [←hp]
  have hgd:c.args.getD i []=c.args[i]:=by simp [hb]
  refine AX.test (!yl4 p c.args[i]) [(1,.fp (y3z c) 0),(3,.s l),(4,.s r),(6,.i .i64 i),(65,.b (!yl4 p c.args[i]))] ?_ rfl (fun hc=>?_) (fun hc=>AX.skip ?_)
  ·by_cases h0:c.args[i]=[]
   ·simp [y15.r9,hb,h0,yl4,y3z,ss]
   ·have h0':(c.args[i] == [])=false:=by simpa using h0
    cases p
    ·simp [y15.r9,hb,h0,h0',yl4,y3z,ss]
    ·simp [y15.r9,hb,h0,h0',yl4,y3z,ss]
     refine AC.fix (yfb c.args[i] (hx _ (kL hb)) _) ?_
     simp
  ·apply jA
   simp [y15.r10]
   apply jD
   simp at hc
   simp [ymt hb (by rw [hgd,←hp];exact hc)]
  simp at hc
  simp
  apply jE
  simp [y15.r11,y2c hb ha]
  refine ⟨c.args.length-(i+1),by omega,_,_,.refl _ _,i+1,by omega,rfl,fun j hj=>?_,rfl,by simp⟩
  by_cases hj2:j=i
  ·subst hj2;rw [hgd,←hp];exact hc
  ·exact hn j (by omega)
end Go.Proofs.YtikpijbeobeckaaGreatDoor
