/- Part 27 of the proof of the laws of the queries: SysD, S15a, S15b, S15c, S15d, S15e, S15f, S15g, S15h, S37c, S37b, SyM, AccK, VnM, EvM, PolM. -/
import Derived.Test.YthmkcebbeehbeaaGreatDoorXTw19
import Derived.Test.YthmkcebbeehbeaaGreatDoorXTw24
import Derived.Test.YthmkcebbeehbeaaGreatDoorXTw26
set_option linter.unusedSimpArgs false
set_option linter.unusedVariables false
namespace Go.Proofs.YthmkcebbeehbeaaGreatDoor
open Am C
structure Mk where
  pos:Int
  tag:Str
  deriving DecidableEq
structure Ob where
  name:Str
  kinds:Str
  marks:List Mk
  deriving DecidableEq
structure Fu where
  name:Str
  kinds:Str
  ret:Str
  deriving DecidableEq
structure Cn where
  op:Int
  a:Str
  b:Str
  k:Int
  tag:Str
  args:List Str
structure Sy where
  objs:List Ob
  fns:List Fu
  cons:List Cn
def ya4 (m:Mk):List V:=[.i .i64 m.pos,.s m.tag]
def y73 (o:Ob):List V:=[.s o.name,.s o.kinds,.fs (o.marks.map ya4)]
def yaa (f:Fu):List V:=[.s f.name,.s f.kinds,.s f.ret]
def y85 (c:Cn):List V:=[.i .i64 c.op,.s c.a,.s c.b,.i .i64 c.k,.s c.tag,ss c.args]
def yaw (s:Sy):List V:=[.fs (s.objs.map y73),.fs (s.fns.map yaa),.fs (s.cons.map y85)]
def y9p (s:Str):Bool:=match yd7 s with
  | some d=>decide (d.kind≤3)||decide (0≤d.cell)
  | none=>false
def yen (s:Str):Bool:=match yd7 s with
  | some d=>decide (d.kind=4)||decide (0≤d.cell)
  | none=>false
def kpB (s:Str):Bool:=s.all fun c=>c == 105||c == 112
def ylz (t:Str):Bool:=decide (1≤t.length)&&decide (t.length≤60)
def mkB (n:Nat) (l:List Mk) (m:Mk):Bool:=decide (0≤m.pos)&&decide (m.pos<n)&&ylz m.tag&&decide (∀x,l.getLast?=some x→x.pos≤m.pos)&&decide (m∉l)
def ypt (n:Nat):List Mk→List Mk→Bool
  | _,[]=>true
  | l,m::r=>mkB n l m&&ypt n (l++[m]) r
def obE (o:Ob):Int:=match yd7 o.name with
  | none=>11
  | some d=>if d.kind<5∨0≤d.cell then 11 else if ¬(kpB o.kinds=true∧1≤o.kinds.length∧o.kinds.length≤64) then 5 else if ypt o.kinds.length [] o.marks then 0 else 3
def retB (r:Str):Bool:=decide (r=[105])||decide (r=[112])||decide (r=[118])
def fuE (f:Fu):Int:=match yd7 f.name with
  | none=>11
  | some d=>if d.kind≠4 then 11 else if ¬(kpB f.kinds=true∧f.kinds.length≤6)∨retB f.ret=false then 5 else 0
def ygo:Str→Option (Str × Str)
  | []=>none
  | c::r=>if c=62 then some ([],r) else (ygo r).map fun x=>(c::x.1,x.2)
def argB (p:Bool) (a:Str):Bool:=decide (a=[])||(p&&y9p a)
def ybt (c:Cn):Bool:=match ygo c.tag with
  | none=>false
  | some (l,r)=>decide (c.k=0)&&kpB l&&decide (l.length≤6)&&(decide (r=[])||decide (r=[105])||decide (r=[112]))&&decide (c.args.length=l.length+1) &&
      (List.range c.args.length).all fun i=>argB (if i=0 then decide (r=[112]) else decide (l[i-1]?=some 112)) (c.args.getD i [])
def yev (s:Str):Bool:=match yd7 s with
  | some d=>decide (d.kind=3)
  | none=>false
def cnE (c:Cn):Int:=
  if c.op<1∨6<c.op then 5
  else if ¬(y9p c.a=true∧(c.op=6→yev c.a=true)∧(if c.op=1 then yen c.b=true else y9p c.b=true)) then 11
  else if c.op=6 then (if ybt c then 0 else 3)
  else if c.op=5 then (if c.args=[]∧0≤c.k∧c.k≤64∧ylz c.tag=true then 0 else 3)
  else if c.args=[]∧c.k=0∧c.tag=[] then 0 else 3
def cmpI (x y:Int):Int:=if x<y then -1 else if x=y then 0 else 1
def cmpN (x y:Nat):Int:=if x<y then -1 else if x=y then 0 else 1
def orI:List Int→Int
  | []=>0
  | x::r=>if x≠0 then x else orI r
def cmpL:List Str→List Str→Int
  | [],b=>cmpN 0 b.length
  | a::r,[]=>1
  | a::r,b::q=>if yg9 a b≠0 then yg9 a b else cmpL r q
def ynk (a b:Cn):Int:=orI [cmpI a.op b.op,yg9 a.a b.a,yg9 a.b b.b,cmpI a.k b.k,yg9 a.tag b.tag,cmpL a.args b.args]
def chk {α:Type} (ask:α→Int) (cmp:α→α→Int):Option α→List α→Int
  | _,[]=>0
  | p,x::r=>if ask x≠0 then ask x else if (match p with | some y=>decide (0≤cmp y x) | none=>false) then 13 else chk ask cmp (some x) r
def yr2 (a b:Ob):Int:=yg9 a.name b.name
def cmpF (a b:Fu):Int:=yg9 a.name b.name
def sysE (s:Sy):Int:=
  if 600<s.objs.length∨600<s.fns.length∨6000<s.cons.length then 4
  else orI [chk obE yr2 none s.objs,chk fuE cmpF none s.fns,chk cnE ynk none s.cons]
theorem u8_ne (a:UInt8) (n:Nat) (hn:n<256):((a.toNat:Int)=n)=(a=UInt8.ofNat n):=by
  apply propext
  constructor
  · intro h
    have:a.toNat=n:=by omega
    rw [←this];simp
  · intro h;subst h;simp;omega
theorem yjl {H:Hp} (hlt:∀id blk,H.get id=some blk→id<H.next) (a b:Blk):H.Ext ((H.add a).upd H.next b):=(Hp.Ext.add hlt _).upd hlt (Nat.le_refl _) _
theorem lt2 {H:Hp} (hlt:∀id blk,H.get id=some blk→id<H.next) (a b:Blk):∀id blk,((H.add a).upd H.next b).get id=some blk→id<((H.add a).upd H.next b).next:=Hp.upd_lt (Hp.add_lt hlt _) (by simp) _
def ye3 (l r:Str):Bool:=kpB l&&decide (l.length≤6)&&(decide (r=[])||decide (r=[105])||decide (r=[112]))
def ptrB (l r:Str) (i:Nat):Bool:=if i=0 then decide (r=[112]) else decide (l[i-1]?=some 112)
def yre (l r:Str) (args:List Str):Bool:=(List.range args.length).all fun i=>argB (ptrB l r i) (args.getD i [])
theorem ynn (c:Cn):ybt c=match ygo c.tag with
    | none=>false
    | some (l,r)=>ye3 l r&&decide (c.k=0)&&decide (c.args.length=l.length+1)&&yre l r c.args:=by
  unfold ybt
  cases h:ygo c.tag with
  | none=>rfl
  | some x=>
    obtain ⟨l,r⟩:=x
    simp only [ye3,yre,ptrB]
    cases kpB l <;> cases decide (c.k=0) <;> simp
theorem argsB_no {l r:Str} {args:List Str} {i:Nat} (h:i<args.length) (hn:argB (ptrB l r i) (args.getD i [])=false):yre l r args=false:=by
  cases hk:yre l r args
  · rfl
  · have:=List.all_eq_true.1 hk i (List.mem_range.2 h)
    rw [hn] at this;cases this
theorem ym0:∀{t:Str} {l r:Str},ygo t=some (l,r)→l.length+r.length+1=t.length
  | [],l,r,h=>by simp [ygo] at h
  | c::q,l,r,h=>by
    unfold ygo at h
    split at h
    · injection h with h;injection h with h1 h2;subst h1;subst h2;simp
    · cases hs:ygo q with
      | none=>rw [hs] at h;cases h
      | some x=>
        rw [hs] at h;injection h with h;injection h with h1 h2
        have:=ym0 (t:=q) (l:=x.1) (r:=x.2) (by rw [hs])
        subst h1;subst h2;simp;omega
def cnB (c:Cn):Bool:=y9p c.a&&(!decide (c.op=6)||yev c.a)&&(if c.op=1 then yen c.b else y9p c.b)
theorem cnE_eq (c:Cn):cnE c=if c.op<1∨6<c.op then 5 else if cnB c=false then 11 else if c.op=6 then (if ybt c then 0 else 3)
    else if ¬c.args=[] then 3 else if c.op=5 then (if 0≤c.k∧c.k≤64∧1≤c.tag.length∧c.tag.length≤60 then 0 else 3) else if c.k=0∧c.tag=[] then 0 else 3:=by
  unfold cnE
  by_cases h1:c.op<1∨6<c.op
  · rw [if_pos h1,if_pos h1]
  rw [if_neg h1,if_neg h1]
  have e:(y9p c.a=true∧(c.op=6→yev c.a=true)∧(if c.op=1 then yen c.b=true else y9p c.b=true))↔cnB c=true:=by
    unfold cnB
    by_cases h6:c.op=6
    · simp [h6,and_assoc]
    · by_cases h1:c.op=1 <;> simp [h6,h1]
  by_cases h2:cnB c=true
  · rw [if_neg (Classical.not_not.2 (e.2 h2)),if_neg (show ¬cnB c=false by simp [h2])]
    by_cases h6:c.op=6
    · rw [if_pos h6,if_pos h6]
    rw [if_neg h6,if_neg h6]
    by_cases ha:c.args=[]
    · by_cases h5:c.op=5
      · simp [ha,h5,ylz,and_assoc]
      · simp [ha,h5]
    · by_cases h5:c.op=5
      · simp [ha,h5]
      · simp [ha,h5]
  · rw [if_pos (fun h=>h2 (e.1 h)),if_pos (by simpa using h2)]
def mk1B (n:Nat) (l:List Mk) (m:Mk):Bool:=decide (0≤m.pos)&&decide (m.pos<n)&&ylz m.tag&&decide (∀x,l.getLast?=some x→x.pos≤m.pos)
theorem mkB_eq (n:Nat) (l:List Mk) (m:Mk):mkB n l m=(mk1B n l m&&decide (m∉l)):=rfl
theorem yps {n:Nat} {ms:List Mk} {i:Nat} (h:i<ms.length):ypt n (ms.take i) (ms.drop i)=(mkB n (ms.take i) ms[i]&&ypt n (ms.take (i+1)) (ms.drop (i+1))):=by
  rw [List.drop_eq_getElem_cons h]
  simp only [ypt]
  rw [List.take_append_getElem h]
theorem mk_eq (q mk:Mk):y72 [0,1] [.i .i64 q.pos,.s q.tag] [.i .i64 mk.pos,.s mk.tag]=some (decide (q=mk)):=by
  have:decide (q=mk)=(decide (q.pos=mk.pos)&&decide (q.tag=mk.tag)):=by
    cases q;cases mk;simp
  rw [this]
  have e1:(q.pos == mk.pos)=decide (q.pos=mk.pos):=rfl
  have e2:(q.tag == mk.tag)=decide (q.tag=mk.tag):=by rw [Bool.eq_iff_iff];simp
  simp only [y72,yaj,if_true,e1,e2]
  cases decide (q.pos=mk.pos) <;> cases decide (q.tag=mk.tag) <;> rfl
def zi (l:List Int):List (List V):=l.map fun x=>[V.i .i64 x]
theorem yh8 (x:List Int) (y:List Int):orI (x++y)=if orI x≠0 then orI x else orI y:=by
  induction x with
  | nil=>simp [orI]
  | cons a r ih=>
    by_cases h:a=0
    · simp [orI,h,ih]
    · simp [orI,h]
def obS (o:Ob):Prop:=o.name.length≤140737488355328∧o.kinds.length≤140737488355328∧o.marks.length≤140737488355328∧∀m∈o.marks,m.tag.length≤140737488355328
def fuS (f:Fu):Prop:=f.name.length≤140737488355328∧f.kinds.length≤140737488355328
def cnS (c:Cn):Prop:=c.a.length≤140737488355328∧c.b.length≤140737488355328∧c.tag.length≤140737488355328∧c.args.length≤1000000∧∀a∈c.args,a.length≤140737488355328
def syS (s:Sy):Prop:=s.objs.length≤1000000∧s.fns.length≤1000000∧s.cons.length≤1000000∧(∀o∈s.objs,obS o)∧(∀f∈s.fns,fuS f)∧∀c∈s.cons,cnS c
def pv {α:Type} (l:List α) (i:Nat):Option α:=if i=0 then none else l[i-1]?
def yj7 {α:Type} (cmp:α→α→Int) (p:Option α) (x:α):Bool:=match p with
  | some y=>decide (0≤cmp y x)
  | none=>false
theorem yic {α:Type} {ask:α→Int} {cmp:α→α→Int} {l:List α} {i:Nat} (h:i<l.length):
    chk ask cmp (pv l i) (l.drop i)=if ask l[i]≠0 then ask l[i] else if yj7 cmp (pv l i) l[i] then 13 else chk ask cmp (pv l (i+1)) (l.drop (i+1)):=by
  rw [List.drop_eq_getElem_cons h]
  have:pv l (i+1)=some l[i]:=by simp [pv,h]
  rw [this]
  rfl
theorem yl8 {α:Type} {ask:α→Int} {cmp:α→α→Int} {l:List α} {i:Nat} (h:l.length≤i):chk ask cmp (pv l i) (l.drop i)=0:=by
  rw [List.drop_eq_nil_of_le h]
  cases pv l i <;> rfl
theorem or0 (x:Int) (r:List Int) (h:x=0):orI (x::r)=orI r:=by simp [orI,h]
theorem or1 (x:Int) (r:List Int) (h:¬x=0):orI (x::r)=x:=by simp [orI,h]
theorem yl9 {α:Type} {ask:α→Int} {cmp:α→α→Int}:∀{l:List α} {p:Option α},chk ask cmp p l=0→∀x∈l,ask x=0
  | [],_,_,x,hx=>by cases hx
  | a::r,p,h,x,hx=>by
    rw [show chk ask cmp p (a::r)=if ask a≠0 then ask a else if yj7 cmp p a then 13 else chk ask cmp (some a) r from rfl] at h
    split at h
    · rename_i h1;exact absurd h h1
    rename_i h1
    split at h
    · exact absurd h (by decide)
    rcases List.mem_cons.1 hx with rfl | hx
    · exact Classical.not_not.1 h1
    · exact yl9 h x hx
section
open Go Go.RowKit
theorem Am.AC.codeR {P:Program} {f:FuncId} {fn:Func} {a:AFunc} (hf:P.funcs[f]?=some fn) (hok:y1o P fn a=true) {args:List V} {H:Hp} {R:V→Prop}
    (h:(∀id blk,H.get id=some blk→id<H.next)→AX P a.n a.body (Ends (fun r H'=>(R r∧yb5 r)∧H.Ext H') a.res) (fr0 0 args) H):AC P f args H (fun r H'=>R r∧H'=H):=
  AC.lt (yfs hf hok) fun hl=>(AC.code hf hok (h hl)).trim fun r H' ⟨⟨e,hfr⟩,h1,h2⟩=>
    ⟨H,⟨Nat.le_refl _,h1,fun id blk hg=>⟨hl id blk hg,h2 id blk hg⟩,fun id cs m hg=>.inl ⟨m,hg⟩,fun id es hg=>.inl hg⟩,hfr.ok _,e,rfl⟩
end
theorem ycb {i:Nat} (h:i≤9223372036854775000):Go.IntKind.i64.wrap ((i:Int)+1)=((i+1:Nat):Int):=by rw [y2w (by omega) (by omega)];omega
def syZ (s:Sy):Prop:=s.objs.length≤140737488355328∧s.fns.length≤140737488355328∧s.cons.length≤140737488355328∧(∀o∈s.objs,obS o)∧(∀f∈s.fns,fuS f∧f.ret.length≤140737488355328)∧
  ∀c∈s.cons,c.a.length≤140737488355328∧c.b.length≤140737488355328∧c.tag.length≤140737488355328∧c.args.length≤140737488355328∧∀a∈c.args,a.length≤140737488355328
def GrInv2 (s:Sy) (H:Hp) (m:Nat) (F:Fr) (X:Hp):Prop:=
  ∃i n,i≤s.fns.length∧m=s.fns.length-i∧n≤30000∧X=H∧F=[(2,.fp (yaw s) 0),(5,.i .i64 (n:Nat)),(8,.i .i64 i)]
def GrInv3 (s:Sy) (H:Hp) (m:Nat) (F:Fr) (X:Hp):Prop:=
  ∃i n,i≤s.cons.length∧m=s.cons.length-i∧n≤60000∧(∀(j:Nat) c,j<i→s.cons[j]?=some c→c.args.length≤6000)∧H.Ext X∧(∀id blk,X.get id=some blk→id<X.next)∧F=[(2,.fp (yaw s) 0),(5,.i .i64 (n:Nat)),(9,.i .i64 i)]
def GrIn3 (s:Sy) (i n0 id:Nat) (args:List Str) (H:Hp) (m:Nat) (F:Fr) (X:Hp):Prop:=
  ∃k n,k≤args.length∧k≤100∧m=args.length-k∧n0≤n∧n≤n0+k*140737488355328∧X=H∧F=[(2,.fp (yaw s) 0),(5,.i .i64 (n:Nat)),(9,.i .i64 i),(10,.p (some (id,0,6))),(11,.i .i64 k)]
theorem ygz:∀{a b:List Str},y3o a→y3o b→(∀x,x∈a↔x∈b)→a=b
  | [],[],_,_,_=>rfl
  | [],b::s,_,_,h=>absurd ((h b).2 (by simp)) (by simp)
  | a::r,[],_,_,h=>absurd ((h a).1 (by simp)) (by simp)
  | a::r,b::s,ha,hb,h=>by
    have ha':=List.pairwise_cons.1 ha
    have hb':=List.pairwise_cons.1 hb
    have e:a=b:=by
      refine Classical.byContradiction fun hne=>?_
      have h1:a∈s:=(List.mem_cons.1 ((h a).1 (by simp))).resolve_left hne
      have h2:b∈r:=(List.mem_cons.1 ((h b).2 (by simp))).resolve_left (Ne.symm hne)
      have:=yf4 (ha'.1 b h2)
      rw [hb'.1 a h1] at this;cases this
    subst e
    have:r=s:=ygz ha'.2 hb'.2 fun x=>⟨fun hx=>?_,fun hx=>?_⟩
    · rw [this]
    · exact (List.mem_cons.1 ((h x).1 (by simp [hx]))).resolve_left fun e=>by have:=ha'.1 x hx;rw [e] at this;exact y92 _ this
    · exact (List.mem_cons.1 ((h x).2 (by simp [hx]))).resolve_left fun e=>by have:=hb'.1 x hx;rw [e] at this;exact y92 _ this
@[simp ↓] theorem isCell_ss (l:List Str):y6d (ss l)=true:=rfl
@[simp ↓] theorem cellsV_ss (l:List Str):y65 (ss l)=some [ss l]:=rfl
structure Su where
  name:Str
  gives:List Str
  wants:List Str
  keeps:List Str
  sys:Sy
def y6i (s:Su):List V:=[.s s.name,ss s.gives,ss s.wants,ss s.keeps,.fs (s.sys.objs.map y73),.fs (s.sys.fns.map yaa),.fs (s.sys.cons.map y85)]
def risB (l:List Str):Bool:=decide (∀j,j<l.length-1→ltB (l.getD j []) (l.getD (j+1) [])=true)
def yki (s:Sy) (n:Str):Bool:=s.objs.any (fun o=>decide (o.name=n))||s.fns.any (fun f=>decide (f.name=n))
def yky (s:Sy) (l:List Str):Int:=if risB l=false then 13 else if l.all (yki s)=false then 7 else 0
def suE (s:Su):Int:=
  if y9j s.name=false then 11 else orI [sysE s.sys,yky s.sys s.gives,yky s.sys s.wants,if s.gives.any (fun n=>decide (n∈s.wants)) then 8 else 0,if 6000<s.keeps.length then 4 else 0,
    if risB s.keeps=false then 13 else 0,if s.keeps.all y9p=false then 11 else 0]
structure Sm where
  name:Str
  giver:Str
  wanted:List Str
end Go.Proofs.YthmkcebbeehbeaaGreatDoor
namespace Go.Proofs.YthmkcebbeehbeaaGreatDoor.Am
open Go Go.RowKit
def yc2 (v:V) (id:Nat):Prop:=match v with
  | .sl (some (k,_,_)) _ _=>k≠id
  | _=>True
theorem Acc.sepOld {H X:Hp} {sz:Nat} {v:V} {es:List (List V)} (A:Acc H sz v X es) {id:Nat} (h:id<H.next):yc2 v id:=by
  rcases A.sl with ⟨_,z,rfl⟩ | ⟨k,m,h1,rfl,h2,h3⟩
  · trivial
  · show k≠id;omega
theorem Acc.isSl {H X:Hp} {sz:Nat} {v:V} {es:List (List V)} (A:Acc H sz v X es):∃a n z,v=.sl a n z:=by
  rcases A.sl with ⟨_,z,rfl⟩ | ⟨k,m,h1,rfl,h2,h3⟩ <;> exact ⟨_,_,_,rfl⟩
theorem Acc.appK {H X:Hp} {sz bytes:Nat} {v:V} {es:List (List V)} (A:Acc H sz v X es) (hl:∀id blk,H.get id=some blk→id<H.next) (y:List V) (hy:y.length=sz) (hsz:0<sz) (hc:y.all y6d=true) (hb:(es.length+1)*bytes≤yay):
    ∃v2 X2,y48 X sz bytes v (.fs [y])=some (v2,X2)∧Acc H sz v2 X2 (es++[y])∧∀id blk,X.get id=some blk→yc2 v id→X2.get id=some blk∧yc2 v2 id:=by
  obtain ⟨v2,X2,e,A2⟩:=A.app (bytes:=bytes) (ys:=[y]) hl (by simpa using hy) hsz (by simpa using hc) (by simpa using hb)
  refine ⟨v2,X2,e,A2,fun id blk hg hs=>?_⟩
  have hid:=A.lt id blk hg
  have hsc:y7r X sz (.fs [y])=some (1,y):=by simp [y7r,hsz,hy]
  rcases A.sl with ⟨h0,z,rfl⟩ | ⟨k,m,h1,rfl,h2,h3⟩
  · simp only [y48,hsc] at e
    rw [if_neg (by decide)] at e
    split at e
    · injection e with e;injection e with e1 e2;subst e1;subst e2
      exact ⟨by simp only [Hp.get_add];rw [if_neg (by omega)];exact hg,by show X.next≠id;omega⟩
    · cases e
  · have hk:k≠id:=hs
    simp only [y48,hsc,h2] at e
    split at e
    · rw [if_neg (by decide)] at e
      split at e
      · injection e with e;injection e with e1 e2;subst e1;subst e2
        exact ⟨by simp only [Hp.get_upd];rw [if_neg (Ne.symm hk)];exact hg,hk⟩
      · split at e
        · injection e with e;injection e with e1 e2;subst e1;subst e2
          exact ⟨by simp only [Hp.get_upd];rw [if_neg (Ne.symm hk)];exact hg,hk⟩
        · cases e
    · cases e
theorem Acc.frzS {H H':Hp} {sz:Nat} {v:V} {es:List (List V)} (A:Acc H sz v H' es):Frz H' (fun k=>¬yc2 v k) v (.fs es):=by
  rcases A.sl with ⟨rfl,z,rfl⟩ | ⟨id,m,h1,rfl,h2,h3⟩
  · exact .sl0 z
  · refine .sl id 0 es.flatten.length es.length sz m es.flatten es (fun h=>h rfl) h2 h3 (Nat.le_refl _) rfl A.all (fun i j e v hi hj=>?_) (fun i j e v u hi hj hu=>?_)
    · have:=ybr A.all hi hj
      have:=(List.getElem?_eq_some_iff.1 this).1
      simpa using this
    · have:=ybr A.all hi hj
      rw [Nat.zero_add,this] at hu;injection hu with hu;subst hu;exact .refl _
theorem AC.frz {P:Program} {f:FuncId} {args args':List V} {H:Hp} {R:V→Hp→Prop} (S:Nat→Prop) (h:AC P f args' (H.wo S) R) (hl:args.length=args'.length) (hv:∀(j:Nat) v v',args[j]?=some v→args'[j]?=some v'→Frz H S v v'):AC P f args H R:=
  ⟨h.1,fun κ cs Sm r=>by
    obtain ⟨κ',ew,le,S',hf⟩:=yg2 S Sm
    have r':VRs κ' args' cs:=⟨by rw [←hl];exact r.1,fun j v' hj=>by
      have hlt:j<args.length:=by rw [hl];exact (List.getElem?_eq_some_iff.1 hj).1
      exact hf _ _ (hv j args[j] v' (List.getElem?_eq_getElem hlt) hj) _ (r.2 j args[j] (List.getElem?_eq_getElem hlt))⟩
    have:=h.2 κ' cs S' r'
    rw [ew] at this
    exact this.mono fun e w' ⟨κ2,v,cv,H',a,b,c,d,e',g⟩=>⟨κ2,v,cv,H',a,b,le.trans c,d,e',g⟩⟩
theorem Hp.wo_get {H:Hp} {S:Nat→Prop} {id:Nat} {blk:Blk} (h:H.get id=some blk) (hs:¬S id):(H.wo S).get id=some blk:=by simp only [Hp.wo];rw [if_neg hs];exact h
end Go.Proofs.YthmkcebbeehbeaaGreatDoor.Am
namespace Go.Proofs.YthmkcebbeehbeaaGreatDoor
open Am
def y6s (n:Nat):Str:=if h:n<128 then [UInt8.ofNat n] else UInt8.ofNat (n % 128+128)::y6s (n / 128)
 termination_by n
 decreasing_by omega
theorem y8d {n:Nat} (h:n<128):y6s n=[UInt8.ofNat n]:=by rw [y6s,dif_pos h]
theorem yfd {n:Nat} (h:¬n<128):y6s n=UInt8.ofNat (n % 128+128)::y6s (n / 128):=by rw [y6s,dif_neg h]
theorem ylw:∀(k n:Nat),n<128 ^ (k+1)→(y6s n).length≤k+1
  | 0,n,h=>by rw [y8d (by simpa using h)];simp
  | k+1,n,h=>by
    by_cases h1:n<128
    · rw [y8d h1];simp
    · rw [yfd h1]
      have:=ylw k (n / 128) (by rw [Nat.div_lt_iff_lt_mul (by omega)];rwa [Nat.pow_succ] at h)
      simp;omega
theorem ykf (n:Nat):y6s n≠[]:=by
  by_cases h1:n<128
  · rw [y8d h1];simp
  · rw [yfd h1];simp
theorem y7v {n:Nat} (h:n≤268435456):(y6s n).length≤5:=ylw 4 n (by omega)
def yfc (we:Int) (bs:Str) (n:Int):Int × Str:=if we≠0 then (we,bs) else if n<0∨n > 268435456 then (2,bs) else (0,bs++y6s n.toNat)
def ylv (we:Int) (bs:Str) (s:Str):Int × Str:=if we≠0 then (we,bs) else if s.length > 200000 then (9,bs) else (0,bs++y6s s.length++s)
namespace Am
theorem bAnd_i64 {a b:Nat} (ha:a<9223372036854775808) (hb:b<9223372036854775808):ymu .i64 a b=((a &&& b:Nat):Int):=by
  have h:a &&& b≤a:=Nat.and_le_left
  unfold ymu
  rw [y7y,y7y]
  have:(BitVec.ofNat IntKind.i64.bits a &&& BitVec.ofNat IntKind.i64.bits b).toNat=a &&& b:=by
    rw [BitVec.toNat_and,BitVec.toNat_ofNat,BitVec.toNat_ofNat]
    rw [Nat.mod_eq_of_lt (by simp [IntKind.bits];omega),Nat.mod_eq_of_lt (by simp [IntKind.bits];omega)]
  rw [this,y2w (by omega) (by omega)]
theorem yra {a b:Nat} (ha:a<9223372036854775808) (hb:b<9223372036854775808):bOr .i64 a b=((a ||| b:Nat):Int):=by
  have h:a ||| b<2 ^ 63:=Nat.or_lt_two_pow (by omega) (by omega)
  unfold bOr
  rw [y7y,y7y]
  have:(BitVec.ofNat IntKind.i64.bits a ||| BitVec.ofNat IntKind.i64.bits b).toNat=a ||| b:=by
    rw [BitVec.toNat_or,BitVec.toNat_ofNat,BitVec.toNat_ofNat]
    rw [Nat.mod_eq_of_lt (by simp [IntKind.bits];omega),Nat.mod_eq_of_lt (by simp [IntKind.bits];omega)]
  rw [this,y2w (by omega) (by omega)]
theorem and127 (n:Nat):n &&& 127=n % 128:=Nat.and_two_pow_sub_one_eq_mod n 7
theorem or128 {m:Nat} (h:m<128):m ||| 128=m+128:=by
  have:=Nat.two_pow_add_eq_or_of_lt (i:=7) (b:=m) (by omega) 1
  rw [Nat.or_comm]
  simp at this
  omega
def bcl (l:Str):List (List V):=l.map fun b=>[.i .u8 b.toNat]
@[simp] theorem bcl_length (l:Str):(bcl l).length=l.length:=by simp [bcl]
theorem yf7 (l:Str):(bcl l).flatten=l.map fun b=>V.i .u8 b.toNat:=by
  unfold bcl
  induction l with
  | nil=>rfl
  | cons a r ih=>simp [ih]
theorem ynp (a b:Str):bcl (a++b)=bcl a++bcl b:=by simp [bcl]
theorem bcl_one (l:Str):∀e∈bcl l,e.length=1:=fun e he=>by
  obtain ⟨x,_,rfl⟩:=List.mem_map.1 he;rfl
theorem yr7 (l:Str):(bcl l).flatten.all y6d=true:=by rw [yf7];simp [y6d]
theorem Acc.upd {B X:Hp} {sz:Nat} {v:V} {es:List (List V)} (A:Acc B sz v X es) (hB:∀k blk,B.get k=some blk→k<B.next) {id:Nat} (h:yc2 v id) (lo:B.next≤id) (hi:id<X.next) (b:Blk):Acc B sz v (X.upd id b) es:=
  ⟨A.ext.upd hB lo b,Hp.upd_lt A.lt hi b,A.all,A.sl.imp (fun x=>x) fun ⟨k,m,a,e,c,d⟩=>⟨k,m,a,e,by
    subst e
    rw [Hp.get_upd,if_neg (show k≠id from h)];exact c,d⟩⟩
theorem Acc.appKs {H X:Hp} {sz bytes:Nat} {v x:V} {es ys:List (List V)} (A:Acc H sz v X es) (hl:∀id blk,H.get id=some blk→id<H.next) (hx:y7r X sz x=some (ys.length,ys.flatten)) (hy:∀e∈ys,e.length=sz) (hsz:0<sz) (hc:ys.flatten.all y6d=true) (hb:(es.length+ys.length)*bytes≤yay):
    ∃v2 X2,y48 X sz bytes v x=some (v2,X2)∧Acc H sz v2 X2 (es++ys)∧X.next≤X2.next∧∀id blk,X.get id=some blk→yc2 v id→X2.get id=some blk∧yc2 v2 id:=by
  obtain ⟨v2,X2,e,A2⟩:=A.appC (bytes:=bytes) (x:=x) hl hx hy hsz hc hb
  refine ⟨v2,X2,e,A2,?_⟩
  rcases A.sl with ⟨h0,z,rfl⟩ | ⟨k,m,h1,rfl,h2,h3⟩
  · simp only [y48,hx] at e
    split at e
    · injection e with e;injection e with e1 e2;subst e1;subst e2
      exact ⟨Nat.le_refl _,fun id blk hg _=>⟨hg,trivial⟩⟩
    · split at e
      · injection e with e;injection e with e1 e2;subst e1;subst e2
        refine ⟨by simp,fun id blk hg hs=>?_⟩
        have hid:=A.lt id blk hg
        exact ⟨by simp only [Hp.get_add];rw [if_neg (by omega)];exact hg,by show X.next≠id;omega⟩
      · cases e
  · simp only [y48,hx,h2] at e
    split at e
    · split at e
      · injection e with e;injection e with e1 e2;subst e1;subst e2
        exact ⟨Nat.le_refl _,fun id blk hg hs=>⟨hg,hs⟩⟩
      · split at e
        · injection e with e;injection e with e1 e2;subst e1;subst e2
          exact ⟨by simp,fun id blk hg hs=>⟨by simp only [Hp.get_upd];rw [if_neg (Ne.symm hs)];exact hg,hs⟩⟩
        · split at e
          · injection e with e;injection e with e1 e2;subst e1;subst e2
            exact ⟨by simp,fun id blk hg hs=>⟨by simp only [Hp.get_upd];rw [if_neg (Ne.symm hs)];exact hg,hs⟩⟩
          · cases e
    · cases e
end Am
open C
inductive Ev where
  | num (n:Int)
  | txt (s:Str)
def evL {α:Type} (f:α→List Ev) (l:List α):List Ev:=.num l.length::l.flatMap f
def evW (s:Str):List Ev:=[.txt s]
def evM (m:Mk):List Ev:=[.num m.pos,.txt m.tag]
def evO (o:Ob):List Ev:=.txt o.name::.txt o.kinds::evL evM o.marks
def evF (f:Fu):List Ev:=[.txt f.name,.txt f.kinds,.txt f.ret]
def evC (c:Cn):List Ev:=.num c.op::.txt c.a::.txt c.b::.num c.k::.txt c.tag::evL evW c.args
def evS (s:Su):List Ev:=.txt s.name::(evL evW s.gives++(evL evW s.wants++(evL evW s.keeps++(evL evO s.sys.objs++(evL evF s.sys.fns++evL evC s.sys.cons)))))
structure Rw where
  we:Int
  bs:Str
  e:Int
  l:List Str
def y7x (σ:Rw) (x:Int):Rw:={ σ with e:=if σ.e=0 then x else σ.e }
def y8f (σ:Rw) (n:Int):Rw:=if n<0∨n > 268435456 then y7x σ 2 else { σ with we:=(yfc σ.we σ.bs n).1,bs:=(yfc σ.we σ.bs n).2 }
def ybe (pool:List Str) (s:Str):Nat:=if s∈pool then yam pool s else 0
def yht (pool:List Str) (σ:Rw) (s:Str):Rw:=
  y8f (if s∈pool then { σ with l:=σ.l++[s] } else y7x { σ with l:=σ.l++[s] } 7) (ybe pool s)
def rwEv (pool:List Str) (σ:Rw):Ev→Rw
  | .num n=>y8f σ n
  | .txt s=>yht pool σ s
def y6t (pool:List Str) (σ:Rw) (es:List Ev):Rw:=es.foldl (rwEv pool) σ
@[simp] theorem rwEvs_nil (pool:List Str) (σ:Rw):y6t pool σ []=σ:=rfl
@[simp] theorem ycm (pool:List Str) (σ:Rw) (x:Ev) (es:List Ev):y6t pool σ (x::es)=y6t pool (rwEv pool σ x) es:=rfl
theorem yem (pool:List Str) (σ:Rw) (a b:List Ev):y6t pool σ (a++b)=y6t pool (y6t pool σ a) b:=by simp [y6t,List.foldl_append]
def rwB (σ:Rw) (n:Nat):Prop:=σ.bs.length+5*n≤1000000000∧σ.l.length+n≤100000000
theorem wNum_len (we:Int) (bs:Str) (n:Int):(yfc we bs n).2.length≤bs.length+5:=by
  unfold yfc
  split
  · simp
  · split
    · simp
    · rename_i h
      have:=y7v (n:=n.toNat) (by omega)
      simp;omega
theorem yax (σ:Rw) (n:Int):(y8f σ n).bs.length≤σ.bs.length+5∧(y8f σ n).l=σ.l:=by
  unfold y8f
  split
  · simp [y7x]
  · exact ⟨wNum_len _ _ _,rfl⟩
theorem rwEv_len (pool:List Str) (σ:Rw) (x:Ev):(rwEv pool σ x).bs.length≤σ.bs.length+5∧(rwEv pool σ x).l.length≤σ.l.length+1:=by
  cases x with
  | num n=>have:=yax σ n;simp only [rwEv];rw [this.2];exact ⟨this.1,by omega⟩
  | txt s=>
    simp only [rwEv,yht]
    split
    · have:=yax { σ with l:=σ.l++[s] } (ybe pool s)
      rw [this.2];exact ⟨this.1,by simp⟩
    · have:=yax (y7x { σ with l:=σ.l++[s] } 7) (ybe pool s)
      rw [this.2];exact ⟨this.1,by simp [y7x]⟩
theorem rwB.ev {σ:Rw} {n:Nat} (h:rwB σ (n+1)) (pool:List Str) (x:Ev):rwB (rwEv pool σ x) n:=by
  have:=rwEv_len pool σ x
  unfold rwB at *
  omega
theorem rwB.evs {pool:List Str}:∀{es:List Ev} {σ:Rw} {n:Nat},rwB σ (es.length+n)→rwB (y6t pool σ es) n
  | [],σ,n,h=>by simpa using h
  | x::es,σ,n,h=>by
    rw [ycm]
    refine rwB.evs ?_
    refine rwB.ev ?_ pool x
    simpa [Nat.add_assoc,Nat.add_comm,Nat.add_left_comm] using h
theorem rwB.le {σ:Rw} {m n:Nat} (h:rwB σ n) (hm:m≤n):rwB σ m:=by unfold rwB at *;omega
def txs:List Ev→List Str
  | []=>[]
  | .num _::r=>txs r
  | .txt s::r=>s::txs r
theorem ykl (pool:List Str):∀(es:List Ev) (σ:Rw),(y6t pool σ es).l=σ.l++txs es
  | [],σ=>by simp [txs]
  | .num n::es,σ=>by rw [ycm,ykl pool es,rwEv,(yax σ n).2];rfl
  | .txt s::es,σ=>by
    rw [ycm,ykl pool es,rwEv,yht,(yax _ _).2]
    split <;> simp [txs,y7x]
structure Qw where
  bs:Str
  all:List Str
  e:Int
def yb1 (τ:Qw) (n:Int):Qw:=if τ.e≠0 then τ else if n<0∨n > 268435456 then { τ with e:=2 } else { τ with bs:=τ.bs++y6s n.toNat }
def yko (pool:List Str) (τ:Qw) (s:Str):Qw:=yb1 { τ with all:=ya6 τ.all s,e:=if s∉pool∧τ.e=0 then 7 else τ.e } (ybe pool s)
def yk8 (pool:List Str) (τ:Qw):Ev→Qw
  | .num n=>yb1 τ n
  | .txt s=>yko pool τ s
def ycw (pool:List Str) (τ:Qw) (es:List Ev):Qw:=es.foldl (yk8 pool) τ
@[simp] theorem qwEvs_nil (pool:List Str) (τ:Qw):ycw pool τ []=τ:=rfl
@[simp] theorem y9t (pool:List Str) (τ:Qw) (x:Ev) (es:List Ev):ycw pool τ (x::es)=ycw pool (yk8 pool τ x) es:=rfl
def RQ (σ:Rw) (τ:Qw):Prop:=σ.e=τ.e∧(σ.e=0→σ.we=0∧σ.bs=τ.bs)∧τ.all=y5r σ.l
theorem RQ.num {σ:Rw} {τ:Qw} (h:RQ σ τ) (n:Int):RQ (y8f σ n) (yb1 τ n):=by
  obtain ⟨h1,h2,h3⟩:=h
  by_cases he:σ.e=0
  · have ht:τ.e=0:=by rw [←h1];exact he
    obtain ⟨h4,h5⟩:=h2 he
    by_cases hn:n<0∨n > 268435456
    · refine ⟨?_,fun h=>?_,?_⟩
      · simp [y8f,yb1,y7x,hn,he,ht]
      · simp [y8f,y7x,hn,he] at h
      · simp [y8f,yb1,y7x,hn,he,ht,h3]
    · refine ⟨?_,fun h=>?_,?_⟩
      · simp [y8f,yb1,hn,he,ht]
      · simp [y8f,yb1,yfc,hn,he,ht,h4,h5]
      · simp [y8f,yb1,hn,he,ht,h3]
  · have ht:τ.e≠0:=by rw [←h1];exact he
    have hq:yb1 τ n=τ:=by simp [yb1,ht]
    rw [hq]
    by_cases hn:n<0∨n > 268435456
    · refine ⟨?_,fun h=>?_,?_⟩
      · simp [y8f,y7x,hn,he,h1];exact fun h=>(ht h).elim
      · simp [y8f,y7x,hn,he] at h
      · simp [y8f,y7x,hn,h3]
    · refine ⟨?_,fun h=>?_,?_⟩
      · simp [y8f,hn,h1]
      · simp [y8f,hn] at h;exact (he h).elim
      · simp [y8f,hn,h3]
theorem yfk (l:List Str) (s:Str):y5r (l++[s])=ya6 (y5r l) s:=by simp [y5r,List.foldl_append]
theorem RQ.txt {pool:List Str} {σ:Rw} {τ:Qw} (h:RQ σ τ) (s:Str):RQ (yht pool σ s) (yko pool τ s):=by
  obtain ⟨h1,h2,h3⟩:=h
  unfold yht yko
  refine RQ.num ?_ _
  by_cases hs:s∈pool
  · simp only [hs,if_true,not_true_eq_false,false_and,if_false]
    exact ⟨h1,h2,by simp [yfk,h3]⟩
  · simp only [hs,if_false,not_false_eq_true,true_and]
    refine ⟨by simp [y7x,h1],fun h=>?_,by simp [y7x,yfk,h3]⟩
    exfalso
    simp only [y7x] at h
    split at h
    · cases h
    · rename_i h';exact h' h
theorem RQ.evs {pool:List Str}:∀(es:List Ev) {σ:Rw} {τ:Qw},RQ σ τ→RQ (y6t pool σ es) (ycw pool τ es)
  | [],σ,τ,h=>h
  | .num n::es,σ,τ,h=>RQ.evs es (h.num n)
  | .txt s::es,σ,τ,h=>RQ.evs es (h.txt s)
def y3i (s:Su):List Str:=y5r (txs (evS s))
def qw0:Qw:=⟨[],[],0⟩
def yij (pool:List Str) (s:Su):Str × Int:=if (ycw pool qw0 (evS s)).e≠0 then ([],(ycw pool qw0 (evS s)).e) else ((ycw pool qw0 (evS s)).bs,0)
theorem RQ.start:RQ ⟨0,[],0,[]⟩ qw0:=⟨rfl,fun _=>⟨rfl,rfl⟩,rfl⟩
def shN:Str→Str→Nat
  | x::a,y::b=>if x=y then shN a b+1 else 0
  | _,_=>0
theorem yiu:∀a b:Str,shN a b≤a.length∧shN a b≤b.length
  | [],b=>by simp [shN]
  | x::a,[]=>by simp [shN]
  | x::a,y::b=>by
    have:=yiu a b
    simp only [shN]
    split <;> simp <;> omega
theorem ym1:∀a b:Str,a.take (shN a b)=b.take (shN a b)
  | [],b=>by simp [shN]
  | x::a,[]=>by simp [shN]
  | x::a,y::b=>by
    simp only [shN]
    split
    · rename_i h;simp [h,ym1 a b]
    · simp
theorem shN_more {a b:Str} {n:Nat} (ha:n<a.length) (hb:n<b.length) (e:a[n]=b[n]):shN (a.drop n) (b.drop n)=shN (a.drop (n+1)) (b.drop (n+1))+1:=by
  rw [List.drop_eq_getElem_cons ha,List.drop_eq_getElem_cons hb]
  simp [shN,e]
theorem shN_stop {a b:Str} {n:Nat} (h:¬(n<a.length∧n<b.length)∨∃(ha:n<a.length) (hb:n<b.length),a[n]≠b[n]):shN (a.drop n) (b.drop n)=0:=by
  rcases h with h | ⟨ha,hb,e⟩
  · by_cases ha:n<a.length
    · rw [List.drop_of_length_le (l:=b) (by omega)]
      cases a.drop n <;> rfl
    · rw [List.drop_of_length_le (l:=a) (by omega)]
      rfl
  · rw [List.drop_eq_getElem_cons ha,List.drop_eq_getElem_cons hb]
    simp [shN,e]
def yb2 (last:Str):List Str→Str
  | []=>[]
  | s::r=>y6s (shN last s)++(y6s (s.length-shN last s)++(s.drop (shN last s)++yb2 s r))
def yb3 (l:List Str):Str:=y6s l.length++yb2 [] l
theorem yfp:∀(l:List Str) (last:Str),(∀s∈l,s.length≤1000)→(yb2 last l).length≤l.length*1020
  | [],last,h=>by simp [yb2]
  | s::r,last,h=>by
    have h1:=yfp r s fun x hx=>h x (by simp [hx])
    have h2:=h s (by simp)
    have h3:=yiu last s
    have h4:=y7v (n:=shN last s) (by omega)
    have h5:=y7v (n:=s.length-shN last s) (by omega)
    simp [yb2];omega
def yj6 (l:List Str) (i:Nat):Str:=yb2 [] (l.take i)
def yc0 (l:List Str) (i:Nat):Str:=((l.take i).getLast?).getD []
theorem yh6:∀(l:List Str) (last s:Str),yb2 last (l++[s])=yb2 last l++(y6s (shN ((l.getLast?).getD last) s)++(y6s (s.length-shN ((l.getLast?).getD last) s)++s.drop (shN ((l.getLast?).getD last) s)))
  | [],last,s=>by simp [yb2]
  | x::r,last,s=>by
    have h:=yh6 r x s
    have:((x::r).getLast?).getD last=(r.getLast?).getD x:=by simp only [List.getLast?_cons,Option.getD_some]
    simp only [List.cons_append,yb2,h,this,List.append_assoc]
theorem ynb (l:List Str) (i:Nat) (h:i<l.length):yj6 l (i+1)=yj6 l i++(y6s (shN (yc0 l i) l[i])++(y6s (l[i].length-shN (yc0 l i) l[i])++l[i].drop (shN (yc0 l i) l[i]))):=by
  unfold yj6 yc0
  rw [List.take_add_one,List.getElem?_eq_getElem h]
  exact yh6 _ _ _
theorem yne (l:List Str) (i:Nat) (h:i<l.length):yc0 l (i+1)=l[i]:=by
  unfold yc0
  rw [List.take_add_one,List.getElem?_eq_getElem h,Option.toList_some,List.getLast?_concat]
  rfl
theorem ypj (l:List Str) (h:∀s∈l,s.length≤1000) (i:Nat) (hi:i≤l.length):(yj6 l i).length≤l.length*1020:=by
  have:=yfp (l.take i) [] fun s hs=>h s (List.mem_of_mem_take hs)
  exact Nat.le_trans this (Nat.mul_le_mul_right _ (by rw [List.length_take];omega))
end Go.Proofs.YthmkcebbeehbeaaGreatDoor
