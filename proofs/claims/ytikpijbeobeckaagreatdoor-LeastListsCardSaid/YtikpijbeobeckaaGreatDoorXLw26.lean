/- Part 26 of the proof of the laws of the queries: SysD, S15a, S15b, S15c, S15d, S15e, S15f, S15g, S15h, Gen2, QAl2, LwL. -/
import Derived.Test.YtikpijbeobeckaaGreatDoorXLw21
import Derived.Test.YtikpijbeobeckaaGreatDoorXLw24
import Derived.Test.YtikpijbeobeckaaGreatDoorXLw25
set_option linter.unusedSimpArgs false
set_option linter.unusedVariables false
namespace Go.Proofs.YtikpijbeobeckaaGreatDoor
open Am C
structure Mk where
  pos:Int
  tag:Str
  deriving DecidableEq
structure Ob where
  name:Str
  kinds:Str
  marks:List Mk
  deriving DecidableEq
structure Fu where
  name:Str
  kinds:Str
  ret:Str
  deriving DecidableEq
structure Cn where
  op:Int
  a:Str
  b:Str
  k:Int
  tag:Str
  args:List Str
structure Sy where
  objs:List Ob
  fns:List Fu
  cons:List Cn
def y8x (m:Mk):List V:=[.i .i64 m.pos,.s m.tag]
def y8g (o:Ob):List V:=[.s o.name,.s o.kinds,.fs (o.marks.map y8x)]
def ybc (f:Fu):List V:=[.s f.name,.s f.kinds,.s f.ret]
def y51 (c:Cn):List V:=[.i .i64 c.op,.s c.a,.s c.b,.i .i64 c.k,.s c.tag,ss c.args]
def ygr (s:Sy):List V:=[.fs (s.objs.map y8g),.fs (s.fns.map ybc),.fs (s.cons.map y51)]
def y97 (s:Str):Bool:=match y5z s with
  | some d=>decide (d.kind≤3)||decide (0≤d.cell)
  | none=>false
def yct (s:Str):Bool:=match y5z s with
  | some d=>decide (d.kind=4)||decide (0≤d.cell)
  | none=>false
def kpB (s:Str):Bool:=s.all fun c=>c == 105||c == 112
def yj9 (t:Str):Bool:=decide (1≤t.length)&&decide (t.length≤60)
def mkB (n:Nat) (l:List Mk) (m:Mk):Bool:=decide (0≤m.pos)&&decide (m.pos<n)&&yj9 m.tag&&decide (∀x,l.getLast?=some x→x.pos≤m.pos)&&decide (m∉l)
def mksB (n:Nat):List Mk→List Mk→Bool
  | _,[]=>true
  | l,m::r=>mkB n l m&&mksB n (l++[m]) r
def obE (o:Ob):Int:=match y5z o.name with
  | none=>11
  | some d=>if d.kind<5∨0≤d.cell then 11 else if ¬(kpB o.kinds=true∧1≤o.kinds.length∧o.kinds.length≤64) then 5 else if mksB o.kinds.length [] o.marks then 0 else 3
def retB (r:Str):Bool:=decide (r=[105])||decide (r=[112])||decide (r=[118])
def fuE (f:Fu):Int:=match y5z f.name with
  | none=>11
  | some d=>if d.kind≠4 then 11 else if ¬(kpB f.kinds=true∧f.kinds.length≤6)∨retB f.ret=false then 5 else 0
def ybb:Str→Option (Str × Str)
  | []=>none
  | c::r=>if c=62 then some ([],r) else (ybb r).map fun x=>(c::x.1,x.2)
def argB (p:Bool) (a:Str):Bool:=decide (a=[])||(p&&y97 a)
def y9m (c:Cn):Bool:=match ybb c.tag with
  | none=>false
  | some (l,r)=>decide (c.k=0)&&kpB l&&decide (l.length≤6)&&(decide (r=[])||decide (r=[105])||decide (r=[112]))&&decide (c.args.length=l.length+1) &&
      (List.range c.args.length).all fun i=>argB (if i=0 then decide (r=[112]) else decide (l[i-1]?=some 112)) (c.args.getD i [])
def ycl (s:Str):Bool:=match y5z s with
  | some d=>decide (d.kind=3)
  | none=>false
def cnE (c:Cn):Int:=
  if c.op<1∨6<c.op then 5
  else if ¬(y97 c.a=true∧(c.op=6→ycl c.a=true)∧(if c.op=1 then yct c.b=true else y97 c.b=true)) then 11
  else if c.op=6 then (if y9m c then 0 else 3)
  else if c.op=5 then (if c.args=[]∧0≤c.k∧c.k≤64∧yj9 c.tag=true then 0 else 3)
  else if c.args=[]∧c.k=0∧c.tag=[] then 0 else 3
def cmpI (x y:Int):Int:=if x<y then -1 else if x=y then 0 else 1
def cmpN (x y:Nat):Int:=if x<y then -1 else if x=y then 0 else 1
def orI:List Int→Int
  | []=>0
  | x::r=>if x≠0 then x else orI r
def cmpL:List Str→List Str→Int
  | [],b=>cmpN 0 b.length
  | a::r,[]=>1
  | a::r,b::q=>if yc0 a b≠0 then yc0 a b else cmpL r q
def yk9 (a b:Cn):Int:=orI [cmpI a.op b.op,yc0 a.a b.a,yc0 a.b b.b,cmpI a.k b.k,yc0 a.tag b.tag,cmpL a.args b.args]
def chk {α:Type} (ask:α→Int) (cmp:α→α→Int):Option α→List α→Int
  | _,[]=>0
  | p,x::r=>if ask x≠0 then ask x else if (match p with | some y=>decide (0≤cmp y x) | none=>false) then 13 else chk ask cmp (some x) r
def yna (a b:Ob):Int:=yc0 a.name b.name
def ynb (a b:Fu):Int:=yc0 a.name b.name
def ygq (s:Sy):Int:=
  if 600<s.objs.length∨600<s.fns.length∨6000<s.cons.length then 4
  else orI [chk obE yna none s.objs,chk fuE ynb none s.fns,chk cnE yk9 none s.cons]
def y91 (obj:Str) (k:Nat):Str:=match y5z obj with
  | some d=>if d.kind<5∨d.cell≠-1 then [] else if y5i { d with cell:=k } then y2z { d with cell:=k } else []
  | none=>[]
def yim (o:Ob) (all:Bool) (i:Nat):Bool:=all||decide (o.kinds[i]?=some 112)
def yd2 (o:Ob) (all:Bool):List Str:=((List.range o.kinds.length).filter (yim o all)).map (y91 o.name)
def y40 (s:Sy):List Str:=(s.objs.flatMap fun o=>yd2 o true)++(s.fns.map Fu.name++s.cons.filterMap fun c=>if c.op=1 then some c.b else none)
theorem u8_ne (a:UInt8) (n:Nat) (hn:n<256):((a.toNat:Int)=n)=(a=UInt8.ofNat n):=by
  apply propext
  constructor
  · intro h
    have:a.toNat=n:=by omega
    rw [←this];simp
  · intro h;subst h;simp;omega
theorem yfj {s:Str} {d:Nd} (h:y5z s=some d):d.fn.length≤s.length∧d.name.length≤s.length:=by
  unfold y5z at h
  split at h
  · injection h with h;subst h;exact yfk s
  · cases h
theorem yg6 {H:Hp} (hlt:∀id blk,H.get id=some blk→id<H.next) (a b:Blk):H.Ext ((H.add a).upd H.next b):=(Hp.Ext.add hlt _).upd hlt (Nat.le_refl _) _
theorem lt2 {H:Hp} (hlt:∀id blk,H.get id=some blk→id<H.next) (a b:Blk):∀id blk,((H.add a).upd H.next b).get id=some blk→id<((H.add a).upd H.next b).next:=Hp.upd_lt (Hp.add_lt hlt _) (by simp) _
def yat (l r:Str):Bool:=kpB l&&decide (l.length≤6)&&(decide (r=[])||decide (r=[105])||decide (r=[112]))
def ptrB (l r:Str) (i:Nat):Bool:=if i=0 then decide (r=[112]) else decide (l[i-1]?=some 112)
def ynt (l r:Str) (args:List Str):Bool:=(List.range args.length).all fun i=>argB (ptrB l r i) (args.getD i [])
theorem ye0 (c:Cn):y9m c=match ybb c.tag with
    | none=>false
    | some (l,r)=>yat l r&&decide (c.k=0)&&decide (c.args.length=l.length+1)&&ynt l r c.args:=by
  unfold y9m
  cases h:ybb c.tag with
  | none=>rfl
  | some x=>
    obtain ⟨l,r⟩:=x
    simp only [yat,ynt,ptrB]
    cases kpB l <;> cases decide (c.k=0) <;> simp
theorem argsB_no {l r:Str} {args:List Str} {i:Nat} (h:i<args.length) (hn:argB (ptrB l r i) (args.getD i [])=false):ynt l r args=false:=by
  cases hk:ynt l r args
  · rfl
  · have:=List.all_eq_true.1 hk i (List.mem_range.2 h)
    rw [hn] at this;cases this
theorem yi1:∀{t:Str} {l r:Str},ybb t=some (l,r)→l.length+r.length+1=t.length
  | [],l,r,h=>by simp [ybb] at h
  | c::q,l,r,h=>by
    unfold ybb at h
    split at h
    · injection h with h;injection h with h1 h2;subst h1;subst h2;simp
    · cases hs:ybb q with
      | none=>rw [hs] at h;cases h
      | some x=>
        rw [hs] at h;injection h with h;injection h with h1 h2
        have:=yi1 (t:=q) (l:=x.1) (r:=x.2) (by rw [hs])
        subst h1;subst h2;simp;omega
def cnB (c:Cn):Bool:=y97 c.a&&(!decide (c.op=6)||ycl c.a)&&(if c.op=1 then yct c.b else y97 c.b)
theorem yn8 (c:Cn):cnE c=if c.op<1∨6<c.op then 5 else if cnB c=false then 11 else if c.op=6 then (if y9m c then 0 else 3)
    else if ¬c.args=[] then 3 else if c.op=5 then (if 0≤c.k∧c.k≤64∧1≤c.tag.length∧c.tag.length≤60 then 0 else 3) else if c.k=0∧c.tag=[] then 0 else 3:=by
  unfold cnE
  by_cases h1:c.op<1∨6<c.op
  · rw [if_pos h1,if_pos h1]
  rw [if_neg h1,if_neg h1]
  have e:(y97 c.a=true∧(c.op=6→ycl c.a=true)∧(if c.op=1 then yct c.b=true else y97 c.b=true))↔cnB c=true:=by
    unfold cnB
    by_cases h6:c.op=6
    · simp [h6,and_assoc]
    · by_cases h1:c.op=1 <;> simp [h6,h1]
  by_cases h2:cnB c=true
  · rw [if_neg (Classical.not_not.2 (e.2 h2)),if_neg (show ¬cnB c=false by simp [h2])]
    by_cases h6:c.op=6
    · rw [if_pos h6,if_pos h6]
    rw [if_neg h6,if_neg h6]
    by_cases ha:c.args=[]
    · by_cases h5:c.op=5
      · simp [ha,h5,yj9,and_assoc]
      · simp [ha,h5]
    · by_cases h5:c.op=5
      · simp [ha,h5]
      · simp [ha,h5]
  · rw [if_pos (fun h=>h2 (e.1 h)),if_pos (by simpa using h2)]
def mk1B (n:Nat) (l:List Mk) (m:Mk):Bool:=decide (0≤m.pos)&&decide (m.pos<n)&&yj9 m.tag&&decide (∀x,l.getLast?=some x→x.pos≤m.pos)
theorem mkB_eq (n:Nat) (l:List Mk) (m:Mk):mkB n l m=(mk1B n l m&&decide (m∉l)):=rfl
theorem ylz {n:Nat} {ms:List Mk} {i:Nat} (h:i<ms.length):mksB n (ms.take i) (ms.drop i)=(mkB n (ms.take i) ms[i]&&mksB n (ms.take (i+1)) (ms.drop (i+1))):=by
  rw [List.drop_eq_getElem_cons h]
  simp only [mksB]
  rw [List.take_append_getElem h]
theorem mk_eq (q mk:Mk):y57 [0,1] [.i .i64 q.pos,.s q.tag] [.i .i64 mk.pos,.s mk.tag]=some (decide (q=mk)):=by
  have:decide (q=mk)=(decide (q.pos=mk.pos)&&decide (q.tag=mk.tag)):=by
    cases q;cases mk;simp
  rw [this]
  have e1:(q.pos == mk.pos)=decide (q.pos=mk.pos):=rfl
  have e2:(q.tag == mk.tag)=decide (q.tag=mk.tag):=by rw [Bool.eq_iff_iff];simp
  simp only [y57,y84,if_true,e1,e2]
  cases decide (q.pos=mk.pos) <;> cases decide (q.tag=mk.tag) <;> rfl
def zi (l:List Int):List (List V):=l.map fun x=>[V.i .i64 x]
theorem ydu (x:List Int) (y:List Int):orI (x++y)=if orI x≠0 then orI x else orI y:=by
  induction x with
  | nil=>simp [orI]
  | cons a r ih=>
    by_cases h:a=0
    · simp [orI,h,ih]
    · simp [orI,h]
def obS (o:Ob):Prop:=o.name.length≤140737488355328∧o.kinds.length≤140737488355328∧o.marks.length≤140737488355328∧∀m∈o.marks,m.tag.length≤140737488355328
def fuS (f:Fu):Prop:=f.name.length≤140737488355328∧f.kinds.length≤140737488355328
def cnS (c:Cn):Prop:=c.a.length≤140737488355328∧c.b.length≤140737488355328∧c.tag.length≤140737488355328∧c.args.length≤1000000∧∀a∈c.args,a.length≤140737488355328
def syS (s:Sy):Prop:=s.objs.length≤1000000∧s.fns.length≤1000000∧s.cons.length≤1000000∧(∀o∈s.objs,obS o)∧(∀f∈s.fns,fuS f)∧∀c∈s.cons,cnS c
def pv {α:Type} (l:List α) (i:Nat):Option α:=if i=0 then none else l[i-1]?
def yfo {α:Type} (cmp:α→α→Int) (p:Option α) (x:α):Bool:=match p with
  | some y=>decide (0≤cmp y x)
  | none=>false
theorem yex {α:Type} {ask:α→Int} {cmp:α→α→Int} {l:List α} {i:Nat} (h:i<l.length):
    chk ask cmp (pv l i) (l.drop i)=if ask l[i]≠0 then ask l[i] else if yfo cmp (pv l i) l[i] then 13 else chk ask cmp (pv l (i+1)) (l.drop (i+1)):=by
  rw [List.drop_eq_getElem_cons h]
  have:pv l (i+1)=some l[i]:=by simp [pv,h]
  rw [this]
  rfl
theorem yhf {α:Type} {ask:α→Int} {cmp:α→α→Int} {l:List α} {i:Nat} (h:l.length≤i):chk ask cmp (pv l i) (l.drop i)=0:=by
  rw [List.drop_eq_nil_of_le h]
  cases pv l i <;> rfl
theorem or0 (x:Int) (r:List Int) (h:x=0):orI (x::r)=orI r:=by simp [orI,h]
theorem or1 (x:Int) (r:List Int) (h:¬x=0):orI (x::r)=x:=by simp [orI,h]
theorem yey {α:Type} {ask:α→Int} {cmp:α→α→Int}:∀{l:List α} {p:Option α},chk ask cmp p l=0→∀x∈l,ask x=0
  | [],_,_,x,hx=>by cases hx
  | a::r,p,h,x,hx=>by
    rw [show chk ask cmp p (a::r)=if ask a≠0 then ask a else if yfo cmp p a then 13 else chk ask cmp (some a) r from rfl] at h
    split at h
    · rename_i h1;exact absurd h h1
    rename_i h1
    split at h
    · exact absurd h (by decide)
    rcases List.mem_cons.1 hx with rfl | hx
    · exact Classical.not_not.1 h1
    · exact yey h x hx
theorem ycv {x:Int} {r:List Int} (h:orI (x::r)=0):x=0∧orI r=0:=by
  by_cases e:x=0
  · rw [or0 _ _ e] at h;exact ⟨e,h⟩
  · rw [or1 _ _ e] at h;exact absurd h e
theorem yhy {s:Sy} (h:ygq s=0):s.objs.length≤600∧s.fns.length≤600∧s.cons.length≤6000∧(∀o∈s.objs,obE o=0)∧(∀f∈s.fns,fuE f=0)∧∀c∈s.cons,cnE c=0:=by
  unfold ygq at h
  split at h
  · cases h
  rename_i hn
  obtain ⟨h1,h⟩:=ycv h
  obtain ⟨h2,h⟩:=ycv h
  obtain ⟨h3,h⟩:=ycv h
  exact ⟨by omega,by omega,by omega,yey h1,yey h2,yey h3⟩
theorem yib {o:Ob} (h:obE o=0):o.kinds.length≤64:=by
  unfold obE at h
  cases hr:y5z o.name with
  | none=>rw [hr] at h;cases h
  | some d=>
    rw [hr] at h
    simp only at h
    split at h
    · cases h
    split at h
    · cases h
    rename_i _ h2
    exact (Classical.not_not.1 h2).2.2
theorem cn_args {c:Cn} (h:cnE c=0):c.args.length≤7:=by
  rw [yn8] at h
  split at h
  · cases h
  split at h
  · cases h
  split at h
  · split at h
    · rename_i hc
      rw [ye0] at hc
      cases hs:ybb c.tag with
      | none=>rw [hs] at hc;cases hc
      | some x=>
        obtain ⟨l,r⟩:=x
        rw [hs] at hc
        simp [yat] at hc
        omega
    · cases h
  split at h
  · cases h
  rename_i ha
  rw [Classical.not_not.1 ha];simp
def ynf (o:Ob) (all:Bool) (i:Nat):List Str:=((List.range i).filter (yim o all)).map (y91 o.name)
theorem yju (o:Ob) (all:Bool) (i:Nat):(ynf o all i).length≤i:=by
  unfold ynf
  rw [List.length_map]
  have:=List.length_filter_le (yim o all) (List.range i)
  simpa using this
def eqL {α:Type} (p:α→α→Bool):List α→List α→Bool
  | [],[]=>true
  | x::r,y::s=>p x y&&eqL p r s
  | _,_=>false
theorem eqL_eq {α:Type} [DecidableEq α] {p:α→α→Bool}:∀{l m:List α},(∀x∈l,∀y∈m,p x y=decide (x=y))→eqL p l m=decide (l=m)
  | [],[],_=>by simp [eqL]
  | [],y::s,_=>by simp [eqL]
  | x::r,[],_=>by simp [eqL]
  | x::r,y::s,h=>by
    have ih:=eqL_eq (p:=p) (l:=r) (m:=s) fun a ha b hb=>h a (by simp [ha]) b (by simp [hb])
    simp only [eqL,ih,h x (by simp) y (by simp)]
    by_cases e1:x=y <;> by_cases e2:r=s <;> simp [e1,e2]
theorem ymm {α:Type} {p:α→α→Bool}:∀{l m:List α},l.length≠m.length→eqL p l m=false
  | [],[],h=>by simp at h
  | [],y::s,_=>rfl
  | x::r,[],_=>rfl
  | x::r,y::s,h=>by
    have:=ymm (p:=p) (l:=r) (m:=s) (by simpa using h)
    simp [eqL,this]
def y98.r0:List AStep:=[⟨some 6,none,.op (.mov (.c (.b false)))⟩]
def y98.r1:List AStep:=[ac 10 0,al 11 10,ac 12 1,al 13 12,a1f 14 11 13]
def y98.r3:List AStep:=[ac 15 0,al 16 15,ah 17 0]
def y98.r4:List AStep:=[⟨some 18,none,.op (.bin .lss (.t 17) (.t 16))⟩]
def y98.r5 (zs:List V):List AStep:=[ac 19 17,⟨some 20,none,.op (.iad zs.length (.t 15) (.t 17))⟩,⟨some 21,none,.op (.load true zs.length (.t 20))⟩,⟨some 8,none,.op (.new zs)⟩,ac 7 19,⟨none,none,.op (.store zs.length (.t 8) (.t 21))⟩]
def y98.r6 (zs:List V):List AStep:=[ac 22 1,ac 23 7,⟨some 24,none,.op (.iad zs.length (.t 22) (.t 23))⟩,⟨some 25,none,.op (.load true zs.length (.t 24))⟩,⟨some 9,none,.op (.new zs)⟩,⟨none,none,.op (.store zs.length (.t 9) (.t 25))⟩]
def y98.r7 (zs:List V):List AStep:=[ac 26 2,⟨some 27,none,.op (.load true zs.length (.t 8))⟩,⟨some 28,none,.op (.load true zs.length (.t 9))⟩,a1u 29 26 27 28,a19 30 29]
def y98.r9:List AStep:=[⟨some 31,none,.op (.bin .add (.t 17) (.c (.i .i64 1)))⟩,⟨some 17,none,.op (.mov (.t 31))⟩]
def y98.r10:List AStep:=[⟨some 6,none,.op (.mov (.c (.b true)))⟩]
def y98.l0 (zs:List V):ACode:=.seq (.post [1,2,15,16,17,18] (.region y98.r4)) (.seq (.post [1,2,15,16,17] (.cond (.t 18) (.skip) (.exit 0))) (.seq (.post [1,2,15,16,17] (.block 1 (.seq (.post [1,2,7,8,15,16,17] (.region (y98.r5 zs))) (.seq (.post [1,2,8,9,15,16,17] (.region (y98.r6 zs))) (.seq (.post [1,2,15,16,17,30] (.region (y98.r7 zs))) (.post [1,2,15,16,17] (.cond (.t 30) (.seq (.post [6] (.region y98.r0)) (.ret)) (.skip)))))))) (.post [1,2,15,16,17] (.region y98.r9))))
def y98 (zs:List V):AFunc:=⟨32,[.t 6],.seq (.post [0,1,2] (.region y98.r0)) (.seq (.seq (.post [0,1,2,14] (.region y98.r1)) (.post [0,1,2] (.cond (.t 14) (.seq (.post [6] (.region y98.r0)) (.ret)) (.skip)))) (.seq (.seq (.post [1,2,15,16,17] (.region y98.r3)) (.post [] (.block 0 (.loop (y98.l0 zs))))) (.seq (.post [6] (.region y98.r10)) (.ret))))⟩
section
variable {α:Type}
def EqfInv (es fs:List (List V)) (g:V) (p:α→α→Bool) (l q:List α) (H:Hp) (m:Nat) (F:Fr) (X:Hp):Prop:=
  ∃i,i≤l.length∧m=l.length-i∧eqL p l q=eqL p (l.drop i) (q.drop i)∧H.Ext X∧(∀id blk,X.get id=some blk→id<X.next)∧F=[(1,.fs fs),(2,g),(15,.fs es),(16,.i .i64 l.length),(17,.i .i64 i)]
theorem y8h:∀(zs cs:List V),zs.length=cs.length→setAll zs 0 cs=cs:=fun zs cs h=>by
  apply List.ext_getElem?
  intro j
  rw [y9o cs zs 0 j (by omega)]
  by_cases hj:j<cs.length
  · simp [hj]
  · rw [if_neg (by omega),List.getElem?_eq_none (by omega),List.getElem?_eq_none (by omega)]
theorem eqfF_ok {fid:Go.FuncId} {fn:Go.Func} {zs:List V} (hf:Tryz.prog.funcs[fid]?=some fn) (hok:y23 Tryz.prog fn (y98 zs)=true) (l q:List α) (enc:α→List V) (hz:0<zs.length) (he:∀x,(enc x).length=zs.length) (hcl:∀x,(enc x).all y4j=true) (f:Go.FuncId) (p:α→α→Bool)
    (hl:l.length≤9223372036854775807) (hq:q.length≤9223372036854775807) (H:Hp) (hc:∀x∈l,∀y∈q,∀H2,AC Tryz.prog f [.agg (enc x),.agg (enc y)] H2 (fun v H'=>v=.b (p x y)∧H'=H2)):
    AC Tryz.prog fid [.fs (l.map enc),.fs (q.map enc),.fn f []] H (fun v H'=>v=.b (eqL p l q)∧H'=H):=by
  refine AC.codeP hf hok (free_b _) fun hlt=>?_
  simp only [y98]
  apply jA
  simp [y98.r0]
  apply jB
  simp [y98.r1]
  refine AX.pcond rfl (fun hd=>?_) (fun hd=>AX.skip ?_)
  · simp at hd
    apply jA
    simp [y98.r0]
    apply jD
    simp [ymm hd]
    exact ⟨.refl _,.refl _⟩
  simp at hd
  simp
  apply jB
  simp [y98.r3]
  refine AX.pblock (AX.loop (EqfInv (l.map enc) (q.map enc) (.fn f []) p l q H) l.length ⟨_,_,.refl _ _,0,by omega,by omega,rfl,.refl _,hlt,rfl⟩ ?_)
  rintro m F X ⟨i,hi,rfl,hx,hE,hX,rfl⟩
  simp only [y98.l0]
  apply jA
  simp [y98.r4]
  refine AX.seq (AX.pcond rfl (fun hb=>AX.skip ?_) (fun hb=>AX.exit ?_))
  case refine_2=>
    simp at hb
    simp
    apply jA
    simp [y98.r10]
    apply jD
    have:eqL p l q=true:=by rw [hx,List.drop_eq_nil_of_le hb,List.drop_eq_nil_of_le (by omega)];rfl
    simp [this]
    exact ⟨hE,.refl _⟩
  simp at hb
  have hb2:i<q.length:=by omega
  rw [List.drop_eq_getElem_cons hb,List.drop_eq_getElem_cons hb2] at hx
  simp only [eqL] at hx
  have g1:l[i]?=some l[i]:=List.getElem?_eq_getElem hb
  have g2:q[i]?=some q[i]:=List.getElem?_eq_getElem hb2
  have c1:=hc _ (List.getElem_mem hb) _ (List.getElem_mem hb2)
  generalize l[i]=x at *
  generalize q[i]=y at *
  have t1:List.take zs.length (enc x)=enc x:=List.take_of_length_le (by rw [he];omega)
  have t2:List.take zs.length (enc y)=enc y:=List.take_of_length_le (by rw [he];omega)
  have s1:setAll zs 0 (enc x)=enc x:=y8h _ _ (he x).symm
  have s2:setAll zs 0 (enc y)=enc y:=y8h _ _ (he y).symm
  have n1:¬enc x=[]:=fun e=>by have:=he x;rw [e] at this;simp at this;omega
  have n2:¬enc y=[]:=fun e=>by have:=he y;rw [e] at this;simp at this;omega
  have k1:∀v∈enc x,y4j v=true:=List.all_eq_true.1 (hcl x)
  have k2:∀v∈enc y,y4j v=true:=List.all_eq_true.1 (hcl y)
  simp
  apply jC
  simp [y98.r5,g1,he,t1,s1,n1,hz,-y4j,-setAll]
  rw [if_pos k1]
  simp [he,n1,s1,-setAll]
  have E1:=hE.trans (yg6 hX (.cells zs zs.length) (.cells (enc x) zs.length))
  have L1:=lt2 hX (.cells zs zs.length) (.cells (enc x) zs.length)
  have G1:((X.add (.cells zs zs.length)).upd X.next (.cells (enc x) zs.length)).get X.next=some (.cells (enc x) zs.length):=by simp
  have N1:X.next<((X.add (.cells zs zs.length)).upd X.next (.cells (enc x) zs.length)).next:=by simp
  generalize (X.add (.cells zs zs.length)).upd X.next (.cells (enc x) zs.length)=Y at *
  generalize X.next=a at *
  apply jA
  simp [y98.r6,g2,he,t2,s2,n2,hz,-y4j,-setAll]
  rw [if_pos k2]
  simp [he,n2,s2,-setAll]
  have E2:=E1.trans (yg6 L1 (.cells zs zs.length) (.cells (enc y) zs.length))
  have L2:=lt2 L1 (.cells zs zs.length) (.cells (enc y) zs.length)
  have G2:((Y.add (.cells zs zs.length)).upd Y.next (.cells (enc y) zs.length)).get Y.next=some (.cells (enc y) zs.length):=by simp
  have G3:((Y.add (.cells zs zs.length)).upd Y.next (.cells (enc y) zs.length)).get a=some (.cells (enc x) zs.length):=by simp [show a≠Y.next by omega,G1]
  generalize (Y.add (.cells zs zs.length)).upd Y.next (.cells (enc y) zs.length)=Z at *
  generalize Y.next=b at *
  apply jA
  simp [y98.r7,G2,G3,t1,t2]
  refine AC.fix (c1 Z) ?_
  simp
  refine AX.pcond rfl (fun hn=>?_) (fun hn=>AX.skip ?_)
  · simp at hn
    apply jA
    simp [y98.r0]
    apply jD
    simp [hx,hn]
    exact ⟨E2,.refl _⟩
  simp at hn
  simp
  apply jE
  simp [y98.r9,y28 hb hl]
  exact ⟨l.length-(i+1),by omega,_,_,.refl _ _,i+1,by omega,rfl,by rw [hx,hn];rfl,E2,L2,by simp⟩
end
theorem en1 (l:List Str):∀e∈l.map (fun x=>[V.s x]),e.length=1:=ss_len l
theorem ec1 (l:List Str):(l.map (fun x=>[V.s x])).flatten.all y4j=true:=by
  rw [List.all_eq_true];intro v hv
  obtain ⟨e,he,hv⟩:=List.mem_flatten.1 hv
  obtain ⟨x,_,rfl⟩:=List.mem_map.1 he
  simp at hv;subst hv;rfl
def OfInv (l:List y58) (node:Str) (H:Hp) (m:Nat) (F:Fr) (H':Hp):Prop:=
  ∃i,i≤l.length∧m=l.length-i∧(l.take i).find? (fun f=>decide (f.1=node))=none∧H'=H∧F=[(0,fsV l),(1,.s node),(5,.i .i64 i)]
theorem yjm {α:Type} {p:α→Bool} {l:List α} {i:Nat} (h:i<l.length) (hp:p l[i]=true) (hn:(l.take i).find? p=none):l.find? p=some l[i]:=by
  have:l=l.take i++l[i]::l.drop (i+1):=by rw [←List.drop_eq_getElem_cons h,List.take_append_drop]
  conv=>lhs;rw [this]
  rw [List.find?_append,hn,List.find?_cons,hp]
  rfl
theorem ROf_ok (l:List y58) (node:Str) (hl:l.length≤9223372036854775807) (hm:∀f∈l,f.2.length≤1000000) (H:Hp):AC Tryz.prog y75 [fsV l,.s node] H (fun v H'=>v=ss (ofS l node)∧H'=H):=by
  refine AC.codeP y1u.at y1u.ok (ymg _) fun hlt=>?_
  simp only [y1u]
  apply jA
  simp [y1u.r0]
  apply jB
  simp [y1u.r1]
  refine AX.pblock (AX.loop (OfInv l node H) l.length ⟨_,_,.refl _ _,0,by omega,by omega,by simp,rfl,rfl⟩ ?_)
  rintro m F H' ⟨i,hi,rfl,hx,rfl,rfl⟩
  simp only [y1u.l0]
  apply jB
  simp [y1u.r2,fsV]
  refine AX.pcond rfl (fun hc=>AX.skip ?_) (fun hc=>AX.exit ?_)
  · simp at hc
    have hmi:=hm _ (List.getElem_mem hc)
    simp
    apply jC
    simp [y1u.r3,fsV,hc,fcs]
    refine AX.pcond rfl (fun hd=>?_) (fun hd=>AX.skip ?_)
    · simp at hd
      have A0:Acc H' 1 (.sl none 0 1) H' []:=.nil 1 1 (.refl _) hlt
      obtain ⟨v1,H1,e1,A1⟩:=A0.app (bytes:=16) hlt (en1 l[i].2) (by omega) (ec1 _) (by simp [y6f];omega)
      apply jA
      simp [y1u.r4,fsV,hc,fcs,ss,-y2p,e1]
      apply jD
      have:ofS l node=l[i].2:=by
        unfold ofS;rw [yjm hc (by simpa using hd) hx];rfl
      simp [this]
      refine ⟨A1.ext,?_⟩
      have:=A1.frz
      simpa [ss] using this
    simp at hd
    simp
    apply jE
    simp [y1u.r5,y28 hc hl]
    refine ⟨l.length-(i+1),by omega,_,_,.refl _ _,i+1,by omega,rfl,?_,rfl,by simp [fsV,fcs]⟩
    rw [List.take_add_one,List.getElem?_eq_getElem hc,List.find?_append,hx]
    simp [hd]
  simp at hc
  rw [List.take_of_length_le hc] at hx
  simp
  apply jA
  simp [y1u.r6]
  apply jD
  simp [ofS,hx]
  exact ⟨.refl _,.sl0 _⟩
def EqsS (l q:List Str) (H:Hp) (m:Nat) (F:Fr) (X:Hp):Prop:=
  ∃i,i≤l.length∧m=l.length-i∧l.take i=q.take i∧X=H∧F=[(0,ss l),(1,ss q),(12,.i .i64 l.length),(13,.i .i64 i)]
theorem yo9 (l q:List Str) (hl:l.length≤9223372036854775807) (H:Hp):AC Tryz.prog y4a [ss l,ss q] H (fun v H'=>v=.b (decide (l=q))∧H'=H):=by
  refine AC.code yj.at yj.ok ?_
  simp only [yj]
  apply jA
  simp [yj.r0]
  apply jB
  simp [yj.r1,ss]
  refine AX.pcond rfl (fun hd=>?_) (fun hd=>AX.skip ?_)
  · simp at hd
    apply jA
    simp [yj.r2]
    apply jD
    have:l≠q:=fun e=>hd (by rw [e])
    simp [this]
  simp at hd
  simp
  apply jB
  simp [yj.r3]
  refine AX.pblock (AX.loop (EqsS l q H) l.length ⟨_,_,.refl _ _,0,by omega,by omega,by simp,rfl,by simp [ss]⟩ ?_)
  rintro m F X ⟨i,hi,rfl,hx,rfl,rfl⟩
  simp only [yj.l0]
  apply jA
  simp [yj.r4]
  refine AX.seq (AX.pcond rfl (fun hb=>AX.skip ?_) (fun hb=>AX.exit ?_))
  case refine_2=>
    simp at hb
    simp
    apply jA
    simp [yj.r9]
    apply jD
    have:l=q:=by rw [List.take_of_length_le hb,List.take_of_length_le (by omega)] at hx;exact hx
    simp [this]
  simp at hb
  have hb2:i<q.length:=by omega
  simp
  apply jC
  simp [yj.r5]
  refine AX.seq (AX.drw ?_)
  simp [yj.r6,ss,hb,hb2]
  by_cases e:l[i]=q[i]
  · refine jF (by simp [e]) (AX.skip ?_)
    simp
    apply jE
    simp [yj.r8,y28 hb hl]
    exact ⟨l.length-(i+1),by omega,_,_,.refl _ _,i+1,by omega,rfl,by rw [List.take_add_one,List.take_add_one,hx,List.getElem?_eq_getElem hb,List.getElem?_eq_getElem hb2,e],rfl,by simp [ss]⟩
  · refine jG (by simp [e]) ?_
    apply jA
    simp [yj.r7]
    apply jD
    have:l≠q:=fun h=>e (by subst h;rfl)
    simp [this]
theorem yo4 (x y:y58) (hx:x.2.length≤9223372036854775807) (H:Hp):AC Tryz.prog y8d [.agg (fcs x),.agg (fcs y)] H (fun v H'=>v=.b (decide (x=y))∧H'=H):=by
  refine AC.code y38.at y38.ok ?_
  simp only [y38]
  apply jA
  simp [y38.r0,fcs]
  apply jA
  by_cases e:x.1=y.1
  · simp [y38.r1,e]
    refine AC.fix (yo9 x.2 y.2 hx H) ?_
    simp
    apply jD
    have:decide (x=y)=decide (x.2=y.2):=decide_eq_decide.2 ⟨fun h=>by rw [h],fun h=>Prod.ext e h⟩
    simp [this]
  · have e':(x.1 == y.1)=false:=by simpa using e
    simp [y38.r1,e,e']
    apply jD
    have:x≠y:=fun h=>e (by rw [h])
    simp [this]
theorem eqfFct.ok:y23 Tryz.prog Tryz.f35 (y98 [.s [],.sl none 0 0])=true:=by kernel_rfl
theorem yj1 (a b:List y58) (ha:a.length≤9223372036854775807) (hb:b.length≤9223372036854775807) (hx:∀f∈a,f.2.length≤9223372036854775807) (H:Hp):AC Tryz.prog y81 [fsV a,fsV b] H (fun v H'=>v=.b (decide (a=b))∧H'=H):=by
  refine AC.code y3n.at y3n.ok ?_
  simp only [y3n]
  apply jA
  simp [y3n.r0]
  apply jA
  simp [y3n.r1]
  refine AC.fix (eqfF_ok yd.at eqfFct.ok a b fcs (by simp) (fun _=>rfl) (fun f=>by simp [fcs,ss,y4j]) y8d (fun x y=>decide (x=y)) ha hb H fun x hx' y hy H2=>yo4 x y (hx x hx') H2) ?_
  rw [eqL_eq fun x _ y _=>rfl]
  simp
  apply jD
  simp
def RsmI (a b:List y58) (H:Hp) (m:Nat) (F:Fr) (X:Hp):Prop:=
  ∃i,i≤a.length∧m=a.length-i∧a.take i=b.take i∧X=H∧F=[(0,fsV a),(1,fsV b),(5,.i .i64 i)]
theorem ye4 (a b:List y58) (ha:a.length≤9223372036854775807) (hx:∀f∈a,f.2.length≤N63) (H:Hp):AC Tryz.prog y69 [fsV a,fsV b] H (fun v H'=>v=.b (decide (a=b))∧H'=H):=by
  refine AC.code y18.at y18.ok ?_
  simp only [y18]
  apply jA
  simp [y18.r0]
  apply jB
  simp [y18.r1,fsV]
  refine AX.pcond rfl (fun hd=>?_) (fun hd=>AX.skip ?_)
  · simp at hd
    apply jA
    simp [y18.r2]
    apply jD
    have:a≠b:=fun e=>hd (by rw [e])
    simp [this]
  simp at hd
  simp
  apply jB
  simp [y18.r3]
  refine AX.pblock (AX.loop (RsmI a b H) a.length ⟨_,_,.refl _ _,0,by omega,by omega,by simp,rfl,by simp [fsV]⟩ ?_)
  rintro m F X ⟨i,hi,rfl,hx',rfl,rfl⟩
  simp only [y18.l0]
  by_cases hb:i<a.length
  rotate_left
  · refine AX.seq (AX.test false [(0,fsV a),(1,fsV b),(5,.i .i64 i),(20,.b false)] ?_ rfl (fun h=>by cases h) (fun _=>AX.exit ?_))
    · simp [y18.r4,fsV,show ¬i<a.length from hb]
    simp
    apply jA
    simp [y18.r8]
    apply jD
    have:a=b:=by rw [List.take_of_length_le (by omega),List.take_of_length_le (by omega)] at hx';exact hx'
    simp [this]
  have hb2:i<b.length:=by omega
  refine AX.seq (AX.test true [(0,fsV a),(1,fsV b),(5,.i .i64 i),(20,.b true)] ?_ rfl (fun _=>AX.skip ?_) (fun h=>by cases h))
  · simp [y18.r4,fsV,hb,hb2]
  simp
  have hxi:=hx _ (List.getElem_mem hb)
  refine AX.seq (AX.pblock (AX.testD (decide (a[i]≠b[i])) [(0,fsV a),(1,fsV b),(5,.i .i64 i),(47,.b (decide (a[i]≠b[i])))] ?_ rfl (fun hc=>jA ?_) (fun hc=>AX.skip ?_)))
  · by_cases e:a[i].1=b[i].1
    · have e2:(a[i].1 == b[i].1)=true:=by simpa using e
      simp [y18.r5,fsV,hb,hb2,fcs,e,e2]
      refine y3j _ (fun H2=>yhp a[i].2 b[i].2 hxi H2) ?_
      have:decide (a[i]=b[i])=decide (a[i].2=b[i].2):=decide_eq_decide.2 ⟨fun h=>by rw [h],fun h=>Prod.ext e h⟩
      simp [this]
    · have e2:(a[i].1 == b[i].1)=false:=by simpa using e
      have:a[i]≠b[i]:=fun h=>e (by rw [h])
      simp [y18.r5,fsV,hb,hb2,fcs,e,e2,this]
  · simp [y18.r6]
    apply jD
    simp at hc
    have:a≠b:=fun h=>hc (by subst h;rfl)
    simp [this]
  · simp at hc
    simp
    apply jE
    simp [y18.r7,y28 hb ha]
    exact ⟨a.length-(i+1),by omega,_,_,.refl _ _,i+1,by omega,rfl,by rw [List.take_add_one,List.take_add_one,hx',List.getElem?_eq_getElem hb,List.getElem?_eq_getElem hb2,hc],rfl,by simp [fsV]⟩
end Go.Proofs.YtikpijbeobeckaaGreatDoor
