/- Part 33. -/
import Derived.Test.YtikpijbeobeckaaGreatDoorXGw24
import Derived.Test.YtikpijbeobeckaaGreatDoorXGw26
import Derived.Test.YtikpijbeobeckaaGreatDoorXGw32
set_option linter.unusedSimpArgs false
set_option linter.unusedVariables false
namespace Go.Proofs.YtikpijbeobeckaaGreatDoor
open Am C
theorem y92:∀{a b:List Str},y3o a→y3o b→(∀x,x∈a↔x∈b)→a=b
 | [],[],_,_,_=>rfl
 | [],b::s,_,_,h=>absurd ((h b).2 (by simp)) (by simp)
 | a::r,[],_,_,h=>absurd ((h a).1 (by simp)) (by simp)
 | a::r,b::s,ha,hb,h=>by
  have ha':=List.pairwise_cons.1 ha
  have hb':=List.pairwise_cons.1 hb
  have e:a=b:=by
   refine kg fun hne=>?_
   have h1:a∈s:=(List.mem_cons.1 ((h a).1 (by simp))).resolve_left hne
   have h2:b∈r:=(List.mem_cons.1 ((h b).2 (by simp))).resolve_left (Ne.symm hne)
   have:=y74 (ha'.1 b h2)
   rw [hb'.1 a h1] at this;cases this
  subst e
  have:r=s:=y92 ha'.2 hb'.2 fun x=>⟨fun hx=>?_,fun hx=>?_⟩
  ·rw [this]
  ·exact (List.mem_cons.1 ((h x).1 (by simp [hx]))).resolve_left fun e=>by have:=ha'.1 x hx;rw [e] at this;exact y4z _ this
  ·exact (List.mem_cons.1 ((h x).2 (by simp [hx]))).resolve_left fun e=>by have:=hb'.1 x hx;rw [e] at this;exact y4z _ this
theorem yb9 {s:Sy} (h:ybl s=0):(y41 s).length≤45000:=by
 obtain ⟨h1,h2,h3,_⟩:=y9z h
 have h4:=obP_len true h s.objs.length
 have h5:=List.length_filterMap_le adB s.cons
 rw [ykv]
 simp only [kT,List.length_map]
 omega
abbrev y6b:=Str × List Str
def fcs (f:y6b):List V:=[.s f.1,ss f.2]
def fsV (l:List y6b):V:=.fs (l.map fcs)
def ofS (l:List y6b) (node:Str):List Str:=((l.find? fun f=>decide (f.1=node)).map (·.2)).getD []
@[simp] theorem fcs_len (f:y6b):(fcs f).length=2:=rfl
@[simp] theorem fcs_take (f:y6b):(fcs f).take 2=fcs f:=rfl
def yo2 {α:Type} (p:α→Bool):List α→Int
 | []=>-1
 | y::r=>if p y then 0 else if yo2 p r<0 then -1 else yo2 p r+1
theorem yh4 {α:Type} {p:α→Bool} {l:List α} (h:l.find? p=none):yo2 p l=-1:=by
 induction l with
 | nil=>rfl
 | cons y r ih=>
  simp only [List.find?_cons] at h
  cases hp:p y with
  | true=>rw [hp] at h;cases h
  | false=>rw [hp] at h;simp [yo2,hp,ih h]
theorem idxP_at {α:Type} {p:α→Bool} {l:List α} {i:Nat} {x:α} (h:l[i]?=some x) (hp:p x=true) (hn:(l.take i).find? p=none):yo2 p l=i:=by
 induction l generalizing i with
 | nil=>simp at h
 | cons y r ih=>
  cases i with
  | zero=>simp at h;subst h;simp [yo2,hp]
  | succ i=>
   simp only [List.getElem?_cons_succ] at h
   simp only [List.take_succ_cons,List.find?_cons] at hn
   cases hy:p y with
   | true=>rw [hy] at hn;cases hn
   | false=>
    rw [hy] at hn
    have:=ih h hn
    simp only [yo2,hy,this]
    simp
theorem find_at {α:Type} {p:α→Bool} {l:List α} {x:α} (h:l.find? p=some x):∃i:Nat,i<l.length∧l[i]?=some x∧yo2 p l=i:=by
 induction l with
 | nil=>cases h
 | cons y r ih=>
  simp only [List.find?_cons] at h
  cases hp:p y with
  | true=>rw [hp] at h;injection h with h;subst h;exact ⟨0,by simp,rfl,by simp [yo2,hp]⟩
  | false=>
   rw [hp] at h
   obtain ⟨i,h1,h2,h3⟩:=ih h
   exact ⟨i+1,by simp;omega,by simpa using h2,by simp only [yo2,hp,h3];simp⟩
theorem find1_ok (f:y6b) (id:Nat) (node:Str) (H:Hp) (hb:H.get id=some (.cells [.s node] 1)):AC Tryz.prog y8v [.agg (fcs f),.p (some (id,0,1))] H (fun v H'=>v=.b (decide (f.1=node))∧H'=H):=by
 refine AC.code y3e.at y3e.ok ?_
 simp only [y3e]
 apply jA
 simp [y3e.r0,fcs]
 apply jA
 simp [y3e.r1,hb]
 apply jD
 by_cases h:f.1=node
 ·simp [h]
 ·simp [h]
def IdxFInv (l:List y6b) (g:V) (p:y6b→Bool) (H:Hp) (m:Nat) (F:Fr) (H':Hp):Prop:=
 ∃i,i≤l.length∧m=l.length-i∧(l.take i).find? p=none∧H'=H∧F=[(0,fsV l),(1,g),(7,.i .i64 l.length),(8,.i .i64 i)]
theorem yhs (l:List y6b) (f:Go.FuncId) (caps:List V) (p:y6b→Bool) (hl:l.length≤9223372036854775807) (H:Hp) (hf:∀x∈l,AC Tryz.prog f (.agg (fcs x)::caps) H (fun v H'=>v=.b (p x)∧H'=H)):
  AC Tryz.prog y3p [fsV l,.fn f caps] H (fun v H'=>v=.i .i64 (yo2 p l)∧H'=H):=by
 refine AC.code yi.at yi.ok ?_
 simp only [yi]
 apply jA
 simp [yi.r0]
 apply jB
 simp [yi.r1,fsV]
 refine AX.pblock (AX.loop (IdxFInv l (.fn f caps) p H) l.length ⟨_,_,.refl _ _,0,by omega,by omega,by simp,rfl,rfl⟩ ?_)
 rintro m F H' ⟨i,hi,rfl,hx,rfl,rfl⟩
 simp only [yi.l0]
 apply jA
 simp [yi.r2]
 refine AX.seq (AX.pcond rfl (fun hc=>AX.skip ?_) (fun hc=>AX.exit ?_))
 ·simp at hc
  simp
  apply jC
  simp [yi.r3]
  apply jA
  simp [yi.r4,fsV,hc]
  refine AC.fix (hf _ (kL hc)) ?_
  simp
  refine AX.pcond rfl (fun hd=>?_) (fun hd=>AX.skip ?_)
  ·apply jA
   simp [yi.r5]
   apply jD
   simp
   exact (idxP_at (kC hc) hd hx).symm
  simp
  apply jE
  simp [yi.r6,y2g hc hl]
  refine ⟨l.length-(i+1),by omega,_,_,.refl _ _,i+1,by omega,rfl,?_,rfl,by simp [fsV]⟩
  rw [kJ,kC hc,List.find?_append,hx]
  simp [hd]
 simp at hc
 rw [kI hc] at hx
 simp
 apply jA
 simp [yi.r7]
 apply jD
 simp [yh4 hx]
theorem find_ok (l:List y6b) (node:Str) (hl:l.length≤9223372036854775807) (H:Hp):AC Tryz.prog ya4 [fsV l,.s node] H (fun v H'=>v=ss (ofS l node)∧H'=H):=by
 refine AC.codeP y2j.at y2j.ok (free_ss _) fun hlt=>?_
 simp only [y2j]
 apply jA
 simp [y2j.r0]
 apply jA
 simp [y2j.r1]
 refine AC.fix (yhs l _ _ (fun f=>decide (f.1=node)) hl _ fun x _=>find1_ok x _ node _ (by simp)) ?_
 simp
 apply jB
 simp [y2j.r2]
 cases hf:l.find? (fun f=>decide (f.1=node)) with
 | none=>
  have e:=yh4 hf
  simp only [e]
  refine jG rfl (jA ?_)
  simp [y2j.r3]
  apply jD
  simp [ofS,hf]
  exact ⟨.add hlt _,.sl0 _⟩
 | some x=>
  obtain ⟨i,h1,h2,h3⟩:=find_at hf
  simp only [h3]
  refine jF (by simp) (AX.skip ?_)
  simp
  apply jA
  simp [y2j.r4,fsV,h2,fcs]
  apply jD
  simp [ofS,hf]
  exact ⟨.add hlt _,.refl _⟩
theorem LOf_ok (l:List y6b) (node:Str) (hl:l.length≤9223372036854775807) (hm:∀f∈l,f.2.length≤1000000) (H:Hp):AC Tryz.prog ycf [fsV l,.s node] H (fun v H'=>v=ss (ofS l node)∧H'=H):=by
 refine AC.code y4b.at y4b.ok ?_
 simp only [y4b]
 apply jA
 simp [y4b.r0]
 apply jA
 simp [y4b.r1]
 refine AC.fix (find_ok l node hl _) ?_
 simp
 refine AC.fix (yqc _ ?_ _) ?_
 ·unfold ofS
  cases hf:l.find? (fun f=>decide (f.1=node)) with
  | none=>simp
  | some x=>have:=hm x (List.mem_of_find?_eq_some hf);simp;omega
 simp
 apply jD
 simp
theorem y9d {d:Nd} (h:RightN d):y56 (y2w d)=some d:=by
 unfold y56
 rw [yi3 h]
 simp [(y55 d).2 h]
theorem y65 {s:Str} {d:Nd} (h:y56 s=some d):RightN d∧y2w d=s:=by
 unfold y56 at h
 split at h
 ·rename_i hc
  injection h with h;subst h
  exact ⟨(y55 _).1 hc.2.1,hc.2.2⟩
 ·cases h
def yd7 (p:Str):Option (Str × Nat):=match y56 p with
 | some d=>if d.cell=-1 then none else some (y2w { d with cell:=-1 },d.cell.toNat)
 | none=>none
def yav (s:Sy) (p:Str):Bool:=match yd7 p with
 | some (o,k)=>s.objs.any fun ob=>decide (ob.name=o∧ob.kinds[k]?=some 112)
 | none=>false
def y54 (s:Sy) (p tag:Str) (by':Int):Str:=match yd7 p with
 | some (o,k)=>if s.objs.any (fun ob=>decide (ob.name=o)&&(ob.marks.any (fun m=>decide (m.pos=k∧m.tag=tag))&&decide ((k:Int)+by'<ob.kinds.length))) then y90 o (k+by'.toNat) else []
 | none=>[]
def y82 (s:Sy) (p tag:Str):Bool:=match ybm tag with
 | some (l,r)=>s.fns.any fun f=>decide (f.name=p∧f.kinds=l∧(r=[]∨f.ret=r))
 | none=>false
def y50 (p:Str) (i:Nat):Str:=match y56 p with
 | some d=>if y5r { d with kind:=2,n:=i } then y2w { d with kind:=2,n:=i } else []
 | none=>[]
abbrev Rel:=Str→Str→Prop
def Rl (s:Sy) (c:Cn) (X:Rel):Rel:=fun n p=>
 (c.op=1∧n=c.a∧p=c.b)∨(c.op=2∧n=c.a∧X c.b p) ∨
 (c.op=3∧n=c.a∧∃q,X c.b q∧yav s q=true∧X q p) ∨
 (c.op=4∧X c.a n∧yav s n=true∧X c.b p) ∨
 (c.op=5∧n=c.a∧p≠[]∧∃q,X c.b q∧y54 s q c.tag c.k=p) ∨
 (c.op=6∧∃q,X c.b q∧y82 s q c.tag=true∧((n=c.a∧p=q)∨∃k a,c.args[k]?=some a∧a≠[]∧((k=0∧n=a∧X (y50 q 0) p)∨(k≠0∧n=y50 q k∧X a p))))
def y7d (X Y:Rel):Prop:=∀n p,X n p→Y n p
theorem y7d.refl (X:Rel):y7d X X:=fun _ _ h=>h
theorem y7d.trans {X Y Z:Rel} (h:y7d X Y) (k:y7d Y Z):y7d X Z:=fun n p x=>k n p (h n p x)
theorem Rl.mono {s:Sy} {c:Cn} {X Y:Rel} (h:y7d X Y):y7d (Rl s c X) (Rl s c Y):=by
 rintro n p (x | ⟨a,b,x⟩ | ⟨a,b,q,x,y,z⟩ | ⟨a,x,y,z⟩ | ⟨a,b,b',q,x,y⟩ | ⟨a,q,x,y,z⟩)
 ·exact .inl x
 ·exact .inr (.inl ⟨a,b,h _ _ x⟩)
 ·exact .inr (.inr (.inl ⟨a,b,q,h _ _ x,y,h _ _ z⟩))
 ·exact .inr (.inr (.inr (.inl ⟨a,h _ _ x,y,h _ _ z⟩)))
 ·exact .inr (.inr (.inr (.inr (.inl ⟨a,b,b',q,h _ _ x,y⟩))))
 ·refine .inr (.inr (.inr (.inr (.inr ⟨a,q,h _ _ x,y,?_⟩))))
  rcases z with z | ⟨k,e,z,z',⟨u,v,w⟩ | ⟨u,v,w⟩⟩
  ·exact .inl z
  ·exact .inr ⟨k,e,z,z',.inl ⟨u,v,h _ _ w⟩⟩
  ·exact .inr ⟨k,e,z,z',.inr ⟨u,v,h _ _ w⟩⟩
def Cl (s:Sy) (X:Rel):Prop:=∀c∈s.cons,y7d (Rl s c X) X
def Der (s:Sy):Rel:=fun n p=>∀X,Cl s X→X n p
theorem Der.le {s:Sy} {X:Rel} (h:Cl s X):y7d (Der s) X:=fun n p d=>d X h
theorem Der.cl (s:Sy):Cl s (Der s):=fun c hc n p h X hX=>hX c hc n p (Rl.mono (Der.le hX) n p h)
structure Tr (s:Sy) (X:Rel) (m:Bool) (X':Rel) (m':Bool):Prop where
 mono:y7d X X'
 snd:∀Y,Cl s Y→y7d X Y→y7d X' Y
 same:m'=false→m=false∧y7d X' X
 more:m'=true→m=true∨∃n p,X' n p∧¬X n p
theorem Tr.refl (s:Sy) (X:Rel) (m:Bool):Tr s X m X m:=⟨.refl X,fun _ _ h=>h,fun h=>⟨h,.refl X⟩,fun h=>.inl h⟩
theorem Tr.trans {s:Sy} {X Y Z:Rel} {a b c:Bool} (h:Tr s X a Y b) (k:Tr s Y b Z c):Tr s X a Z c:=
 ⟨h.mono.trans k.mono,fun W hW x=>k.snd W hW (h.snd W hW x),fun e=>⟨(h.same (k.same e).1).1,(k.same e).2.trans (h.same (k.same e).1).2⟩,fun e=>by
  rcases k.more e with x | ⟨n,p,x,y⟩
  ·rcases h.more x with u | ⟨n,p,u,v⟩
   ·exact .inl u
   ·exact .inr ⟨n,p,k.mono _ _ u,v⟩
  ·exact .inr ⟨n,p,x,fun z=>y (h.mono _ _ z)⟩⟩
theorem Tr.add {s:Sy} {X X':Rel} {m:Bool} {n0 p0:Str} (hX:∀n p,X' n p↔X n p∨(n=n0∧p=p0)) (hs:∀Y,Cl s Y→y7d X Y→Y n0 p0) {b:Bool} (hb:b=true↔¬X n0 p0):Tr s X m X' (m||b):=by
 refine ⟨fun n p h=>(hX n p).2 (.inl h),fun Y hY h n p x=>?_,fun e=>?_,fun e=>?_⟩
 ·rcases (hX n p).1 x with x | ⟨rfl,rfl⟩
  ·exact h n p x
  ·exact hs Y hY h
 ·simp only [Bool.or_eq_false_iff] at e
  refine ⟨e.1,fun n p x=>?_⟩
  rcases (hX n p).1 x with x | ⟨rfl,rfl⟩
  ·exact x
  ·refine kg fun hn=>?_
   rw [hb.2 hn] at e;cases e.2
 ·simp only [Bool.or_eq_true] at e
  rcases e with e | e
  ·exact .inl e
  ·exact .inr ⟨n0,p0,(hX _ _).2 (.inr ⟨rfl,rfl⟩),hb.1 e⟩
open Classical in
noncomputable def crd (N P:List Str) (X:Rel):Nat:=((N.flatMap fun n=>P.map fun p=>(n,p)).filter fun x=>decide (X x.1 x.2)).length
theorem crd_mono {N P:List Str} {X Y:Rel} (h:y7d X Y):crd N P X≤crd N P Y:=by
 unfold crd
 generalize (N.flatMap fun n=>P.map fun p=>(n,p))=l
 induction l with
 | nil=>simp
 | cons a l ih=>
  simp only [List.filter_cons]
  by_cases h1:X a.1 a.2
  ·have:=h _ _ h1
   simp [h1,this];exact ih
  ·by_cases h2:Y a.1 a.2
   ·simp [h1,h2];omega
   ·simp [h1,h2];exact ih
open Classical in
theorem crd_lt {N P:List Str} {X Y:Rel} (h:y7d X Y) {n p:Str} (hn:n∈N) (hp:p∈P) (hy:Y n p) (hx:¬X n p):crd N P X<crd N P Y:=by
 unfold crd
 have hm:(n,p)∈(N.flatMap fun n=>P.map fun p=>(n,p)):=List.mem_flatMap.2 ⟨n,hn,List.mem_map.2 ⟨p,hp,rfl⟩⟩
 revert hm
 generalize (N.flatMap fun n=>P.map fun p=>(n,p))=l
 have le:∀l:List (Str × Str),(l.filter fun x=>decide (X x.1 x.2)).length≤(l.filter fun x=>decide (Y x.1 x.2)).length:=by
  intro l
  induction l with
  | nil=>simp
  | cons a l ih=>
   simp only [List.filter_cons]
   by_cases h1:X a.1 a.2
   ·have:=h _ _ h1
    simp [h1,this];exact ih
   ·by_cases h2:Y a.1 a.2
    ·simp [h1,h2];omega
    ·simp [h1,h2];exact ih
 induction l with
 | nil=>intro h;cases h
 | cons a l ih=>
  intro hm
  simp only [List.filter_cons]
  rcases List.mem_cons.1 hm with e | hm
  ·subst e
   have:=le l
   simp [hx,hy];omega
  ·have:=ih hm
   by_cases h1:X a.1 a.2
   ·have:=h _ _ h1
    simp [h1,this];omega
   ·by_cases h2:Y a.1 a.2
    ·simp [h1,h2];omega
    ·simp [h1,h2];omega
theorem crd_le (N P:List Str) (X:Rel):crd N P X≤N.length*P.length:=by
 unfold crd
 refine kV (List.length_filter_le _ _) ?_
 induction N with
 | nil=>simp
 | cons a N ih=>rw [List.flatMap_cons,kT,List.length_map,kO,Nat.succ_mul];omega
def ydi (N P:List Str):Rel:=fun n p=>n∈N∧p∈P
theorem Tr.lt {s:Sy} {N P:List Str} (hU:Cl s (ydi N P)) {X X':Rel} {m:Bool} (h:Tr s X false X' true) (hX:y7d X (ydi N P)):crd N P X<crd N P X':=by
 rcases h.more rfl with e | ⟨n,p,x,y⟩
 ·cases e
 ·have:=h.snd _ hU hX n p x
  exact crd_lt h.mono this.1 this.2 x y
def y6p (l:List y6b):Rel:=fun n p=>p∈ofS l n
structure CanF (l:List y6b):Prop where
 rise:y3o (l.map (·.1))
 locs:∀f∈l,y3o f.2∧f.2≠[]
theorem ofS_nil (n:Str):ofS [] n=[]:=rfl
theorem y6j (f:y6b) (l:List y6b) (n:Str):ofS (f::l) n=if f.1=n then f.2 else ofS l n:=by
 unfold ofS
 rw [List.find?_cons]
 by_cases h:f.1=n <;> simp [h]
theorem CanF.nil:CanF []:=⟨by simp [y3o],fun f h=>by cases h⟩
theorem CanF.tail {f:y6b} {l:List y6b} (h:CanF (f::l)):CanF l:=⟨(List.pairwise_cons.1 h.rise).2,fun g hg=>h.locs g (by simp [hg])⟩
theorem ofS_none {l:List y6b} {n:Str} (h:∀f∈l,f.1≠n):ofS l n=[]:=by
 induction l with
 | nil=>rfl
 | cons f l ih=>rw [y6j,if_neg (h f (by simp)),ih fun g hg=>h g (by simp [hg])]
theorem ydv {l:List y6b} (h:CanF l) {f:y6b} (hf:f∈l):ofS l f.1=f.2:=by
 induction l with
 | nil=>cases hf
 | cons g l ih=>
  rw [y6j]
  rcases List.mem_cons.1 hf with rfl | hf
  ·simp
  ·have:ltB g.1 f.1=true:=(List.pairwise_cons.1 h.rise).1 _ (List.mem_map.2 ⟨f,hf,rfl⟩)
   rw [if_neg (fun e=>by rw [e] at this;exact y4z _ this),ih h.tail hf]
theorem ynh {l:List y6b} {n p:Str} (h:p∈ofS l n):∃f∈l,f.1=n∧p∈f.2:=by
 induction l with
 | nil=>cases h
 | cons f l ih=>
  rw [y6j] at h
  by_cases e:f.1=n
  ·rw [if_pos e] at h;exact ⟨f,by simp,e,h⟩
  ·rw [if_neg e] at h
   obtain ⟨g,h1,h2⟩:=ih h
   exact ⟨g,by simp [h1],h2⟩
theorem yce {l:List y6b} (h:CanF l) (n:Str):y3o (ofS l n):=by
 induction l with
 | nil=>exact List.Pairwise.nil
 | cons f l ih=>
  rw [y6j];split
  ·exact (h.locs f (by simp)).1
  ·exact ih h.tail
theorem yfn {l:List y6b} (h:CanF l) (n:Str):n∈l.map (·.1)↔∃p,y6p l n p:=by
 constructor
 ·intro hn
  obtain ⟨f,hf,rfl⟩:=List.mem_map.1 hn
  have:=(h.locs f hf).2
  obtain ⟨p,hp⟩:=List.exists_mem_of_ne_nil _ this
  exact ⟨p,by unfold y6p;rw [ydv h hf];exact hp⟩
 ·rintro ⟨p,hp⟩
  obtain ⟨f,hf,rfl,_⟩:=ynh hp
  exact List.mem_map.2 ⟨f,hf,rfl⟩
theorem can_eq {l:List y6b} (h:CanF l):l=(l.map (·.1)).map fun n=>(n,ofS l n):=by
 rw [List.map_map]
 conv=>lhs;rw [←List.map_id l]
 refine List.map_congr_left fun f hf=>?_
 simp [ydv h hf]
theorem yp8 {a b:List y6b} (ha:CanF a) (hb:CanF b) (h:∀n p,y6p a n p↔y6p b n p):a=b:=by
 have e:a.map (·.1)=b.map (·.1):=y92 ha.rise hb.rise fun n=>by
  rw [yfn ha,yfn hb]
  exact ⟨fun ⟨p,x⟩=>⟨p,(h n p).1 x⟩,fun ⟨p,x⟩=>⟨p,(h n p).2 x⟩⟩
 rw [can_eq ha,can_eq hb,e]
 refine List.map_congr_left fun n _=>?_
 rw [y92 (yce ha n) (yce hb n) (h n)]
structure IsL (s:Sy) (l:List y6b):Prop where
 can:CanF l
 has:∀n p,y6p l n p↔Der s n p
theorem IsL.one {s:Sy} {a b:List y6b} (ha:IsL s a) (hb:IsL s b):a=b:=yp8 ha.can hb.can fun n p=>by rw [ha.has,hb.has]
theorem y6s {α:Type} [DecidableEq α]:∀{a b:List α},a.Nodup→(∀x∈a,x∈b)→a.length≤b.length
 | [],_,_,_=>Nat.zero_le _
 | x::a,b,h,hs=>by
  have hx:=hs x (by simp)
  have h1:=y6s (a:=a) (b:=b.erase x) (List.nodup_cons.1 h).2 fun y hy=>by
   refine (List.mem_erase_of_ne fun e=>?_).2 (hs y (by simp [hy]))
   subst e;exact (List.nodup_cons.1 h).1 hy
  rw [List.length_erase_of_mem hx] at h1
  have:=List.length_pos_of_mem hx
  simp only [kO];omega
theorem y3o.nodup {l:List Str} (h:y3o l):l.Nodup:=List.Pairwise.imp (fun {x y} hlt e=>by subst e;exact y4z _ hlt) h
theorem CanF.len {l:List y6b} (h:CanF l) {N P:List Str} (hU:y7d (y6p l) (ydi N P)):l.length≤N.length∧∀n,(ofS l n).length≤P.length:=by
 refine ⟨?_,fun n=>y6s (yce h n).nodup fun p hp=>(hU n p hp).2⟩
 have:=y6s h.rise.nodup (b:=N) fun n hn=>by
  obtain ⟨p,hp⟩:=(yfn h n).1 hn
  exact (hU n p hp).1
 simpa using this
def yli:List y6b→Str→Str→List y6b
 | [],n,p=>[(n,[p])]
 | f::r,n,p=>if ltB f.1 n then f::yli r n p else if f.1=n then (n,y95 f.2 p)::r else (n,[p])::f::r
theorem yf6:∀(l:List y6b) (n p:Str),(yli l n p).map (·.1)=y95 (l.map (·.1)) n
 | [],n,p=>rfl
 | f::r,n,p=>by
  simp only [yli,List.map_cons,y95]
  split
  ·simp [yf6 r n p]
  ·split
   ·rename_i e;simp [e]
   ·simp
theorem intoS_ne (l:List Str) (x:Str):y95 l x≠[]:=fun h=>by
 have:x∈y95 l x:=ybv.2 (.inl rfl)
 rw [h] at this;cases this
theorem yhq:∀(l:List y6b) (n p:Str),(∀f∈l,y3o f.2∧f.2≠[])→∀f∈yli l n p,y3o f.2∧f.2≠[]
 | [],n,p,h,f,hf=>by simp [yli] at hf;subst hf;simp [y3o]
 | g::r,n,p,h,f,hf=>by
  have hg:=h g (by simp)
  have hr:=yhq r n p fun x hx=>h x (by simp [hx])
  simp only [yli] at hf
  split at hf
  ·rcases List.mem_cons.1 hf with rfl | hf
   ·exact hg
   ·exact hr f hf
  ·split at hf
   ·rcases List.mem_cons.1 hf with rfl | hf
    ·exact ⟨y8n hg.1 p,intoS_ne _ _⟩
    ·exact h f (by simp [hf])
   ·rcases List.mem_cons.1 hf with rfl | hf
    ·simp [y3o]
    ·exact h f hf
theorem CanF.add {l:List y6b} (h:CanF l) (n p:Str):CanF (yli l n p):=⟨by rw [yf6];exact y8n h.rise n,yhq l n p h.locs⟩
theorem yjm:∀{l:List y6b},CanF l→∀n p m,ofS (yli l n p) m=if m=n then y95 (ofS l n) p else ofS l m
 | [],h,n,p,m=>by
  simp only [yli,y6j,ofS_nil]
  by_cases e:m=n
  ·subst e;simp [y95]
  ·rw [if_neg (Ne.symm e),if_neg e]
 | f::r,h,n,p,m=>by
  have ih:=yjm h.tail n p m
  simp only [yli]
  by_cases h1:ltB f.1 n=true
  ·have hne:f.1≠n:=fun e=>by rw [e] at h1;exact y4z _ h1
   rw [if_pos h1,y6j,y6j,y6j,if_neg hne]
   by_cases e:f.1=m
   ·rw [if_pos e,if_pos e,if_neg (fun e'=>hne (e.trans e'))]
   ·rw [if_neg e,if_neg e,ih]
  ·rw [if_neg h1]
   by_cases h2:f.1=n
   ·rw [if_pos h2,y6j,y6j,y6j,if_pos h2]
    by_cases e:m=n
    ·subst e;simp
    ·rw [if_neg (Ne.symm e),if_neg e,if_neg (fun e'=>e (e'.symm.trans h2))]
   ·rw [if_neg h2,y6j]
    by_cases e:m=n
    ·subst e
     have:ofS (f::r) m=[]:=ofS_none fun g hg e=>by
      rcases List.mem_cons.1 hg with rfl | hg
      ·exact h2 e
      ·have h3:=(List.pairwise_cons.1 h.rise).1 _ (List.mem_map.2 ⟨g,hg,rfl⟩)
       rw [e] at h3
       exact h1 h3
     rw [this];simp [y95]
    ·rw [if_neg (Ne.symm e),if_neg e]
theorem yjz {l:List y6b} (h:CanF l) (n0 p0 n p:Str):y6p (yli l n0 p0) n p↔y6p l n p∨(n=n0∧p=p0):=by
 unfold y6p
 rw [yjm h]
 by_cases e:n=n0
 ·subst e;simp [ybv];exact Or.comm
 ·simp [e]
abbrev St:=List y6b × Bool
def yhp (st:St) (n p:Str):St:=(yli st.1 n p,st.2||decide (p∉ofS st.1 n))
def yps (st:St) (to frm:Str):St:=(ofS st.1 frm).foldl (fun st q=>yhp st to q) st
def argP (q:Str) (st:St) (x:Nat × Str):St:=if x.2=[] then st else if x.1=0 then yps st x.2 (y50 q 0) else yps st (y50 q x.1) x.2
def numd (l:List Str):List (Nat × Str):=(List.range l.length).map fun k=>(k,l.getD k [])
def ypc (c:Cn) (st:St) (q:Str):St:=(numd c.args).foldl (argP q) (yhp st c.a q)
def yc7 (s:Sy) (st:St) (c:Cn):St:=
 if c.op=1 then yhp st c.a c.b
 else if c.op=2 then yps st c.a c.b
 else if c.op=3 then (ofS st.1 c.b).foldl (fun st q=>if yav s q then yps st c.a q else st) st
 else if c.op=4 then (ofS st.1 c.a).foldl (fun st q=>if yav s q then yps st q c.b else st) st
 else if c.op=5 then (ofS st.1 c.b).foldl (fun st q=>if y54 s q c.tag c.k≠[] then yhp st c.a (y54 s q c.tag c.k) else st) st
 else if c.op=6 then (ofS st.1 c.b).foldl (fun st q=>if y82 s q c.tag then ypc c st q else st) st
 else st
def Stp (s:Sy) (X0:Rel) (f:St→St):Prop:=∀st,CanF st.1→y7d X0 (y6p st.1)→CanF (f st).1∧Tr s (y6p st.1) st.2 (y6p (f st).1) (f st).2
theorem Stp.add {s:Sy} {X0:Rel} {n p:Str} (hs:∀Y,Cl s Y→y7d X0 Y→Y n p):Stp s X0 fun st=>yhp st n p:=fun st hc h0=>
 ⟨hc.add n p,Tr.add (yjz hc n p) (fun Y hY h=>hs Y hY (h0.trans h)) (by simp [y6p])⟩
theorem Stp.id {s:Sy} {X0:Rel}:Stp s X0 fun st=>st:=fun st hc _=>⟨hc,.refl _ _ _⟩
theorem Stp.fold {s:Sy} {X0:Rel} {α:Type} {f:St→α→St}:∀{l:List α},(∀x∈l,Stp s X0 fun st=>f st x)→Stp s X0 fun st=>l.foldl f st
 | [],_=>.id
 | x::l,h=>fun st hc h0=>by
  obtain ⟨c1,t1⟩:=h x (by simp) st hc h0
  obtain ⟨c2,t2⟩:=Stp.fold (l:=l) (fun y hy=>h y (by simp [hy])) (f st x) c1 (h0.trans t1.mono)
  exact ⟨c2,t1.trans t2⟩
theorem Stp.ite {s:Sy} {X0:Rel} {b:Prop} [Decidable b] {f g:St→St} (hf:b→Stp s X0 f) (hg:¬b→Stp s X0 g):Stp s X0 fun st=>if b then f st else g st:=fun st hc h0=>by
 by_cases e:b
 ·simp only [if_pos e];exact hf e st hc h0
 ·simp only [if_neg e];exact hg e st hc h0
theorem y7t {s:Sy} {α:Type} {f:St→α→St} {X0:Rel}:∀{l:List α} {st:St},(∀x∈l,Stp s X0 fun st=>f st x)→CanF st.1→y7d X0 (y6p st.1)→(l.foldl f st).2=false→
  ∀x∈l,∃st1,CanF st1.1∧(∀n p,y6p st1.1 n p↔y6p st.1 n p)∧(f st1 x).2=false
 | [],_,_,_,_,_,x,hx=>by cases hx
 | y::l,st,h,hc,h0,hf,x,hx=>by
  obtain ⟨c1,t1⟩:=h y (by simp) st hc h0
  have h2:=fun z hz=>h z (List.mem_cons_of_mem y hz)
  obtain ⟨c2,t2⟩:=Stp.fold h2 (f st y) c1 (h0.trans t1.mono)
  have e1:=t2.same hf
  have e2:=t1.same e1.1
  rcases List.mem_cons.1 hx with rfl | hx
  ·exact ⟨st,hc,fun _ _=>.rfl,e1.1⟩
  ·obtain ⟨st1,a,b,c⟩:=y7t h2 c1 (h0.trans t1.mono) hf x hx
   exact ⟨st1,a,fun n p=>(b n p).trans ⟨e2.2 n p,t1.mono n p⟩,c⟩
theorem Stp.all {s:Sy} {X0:Rel} {to frm:Str} (hs:∀Y,Cl s Y→y7d X0 Y→∀p,Y frm p→Y to p):Stp s X0 fun st=>yps st to frm:=fun st hc h0=>by
 have:Stp s (y6p st.1) fun st'=>(ofS st.1 frm).foldl (fun st q=>yhp st to q) st':=.fold fun q hq=>.add fun Y hY h=>hs Y hY (h0.trans h) q (h frm q hq)
 exact this st hc (.refl _)
theorem yc8 {s:Sy} {to frm:Str} {st:St} (hc:CanF st.1) (hs:∀Y,Cl s Y→y7d (y6p st.1) Y→∀p,Y frm p→Y to p) (h:(yps st to frm).2=false):∀p,y6p st.1 frm p→y6p st.1 to p:=fun p hp=>by
 obtain ⟨st1,a,b,c⟩:=y7t (s:=s) (X0:=y6p st.1) (f:=fun st q=>yhp st to q) (fun q hq=>.add fun Y hY h=>hs Y hY h q (h frm q hq)) hc (.refl _) h p hp
 simp only [yhp,Bool.or_eq_false_iff,decide_eq_false_iff_not,Decidable.not_not] at c
 exact (b to p).1 c.2
theorem yfq {l:List Str} {x:Nat × Str}:x∈numd l↔l[x.1]?=some x.2:=by
 unfold numd
 simp only [List.mem_map,List.mem_range]
 constructor
 ·rintro ⟨k,hk,rfl⟩;simp [kQ,kC hk]
 ·intro h
  exact ⟨x.1,(List.getElem?_eq_some_iff.1 h).1,by simp [kQ,h]⟩
section apply
variable {s:Sy} {c:Cn} (hc:c∈s.cons)
include hc
theorem ycl {q:Str} (h6:c.op=6) {x:Nat × Str} (hx:c.args[x.1]?=some x.2) {Y:Rel} (hY:Cl s Y) (hq:Y c.b q) (hf:y82 s q c.tag=true) (ha:x.2≠[]) (p:Str):
  (x.1=0→Y (y50 q 0) p→Y x.2 p)∧(x.1≠0→Y x.2 p→Y (y50 q x.1) p):=
 ⟨fun e h=>hY c hc _ _ (.inr (.inr (.inr (.inr (.inr ⟨h6,q,hq,hf,.inr ⟨x.1,x.2,hx,ha,.inl ⟨e,rfl,h⟩⟩⟩))))),
  fun e h=>hY c hc _ _ (.inr (.inr (.inr (.inr (.inr ⟨h6,q,hq,hf,.inr ⟨x.1,x.2,hx,ha,.inr ⟨e,rfl,h⟩⟩⟩)))))⟩
theorem Stp.arg {q:Str} {X0:Rel} (h6:c.op=6) (hq:X0 c.b q) (hf:y82 s q c.tag=true) {x:Nat × Str} (hx:x∈numd c.args):Stp s X0 fun st=>argP q st x:=by
 have hx:=yfq.1 hx
 unfold argP
 refine .ite (fun _=>.id) fun ha=>.ite (fun e=>.all fun Y hY h p=>(ycl hc h6 hx hY (h _ _ hq) hf ha p).1 e) fun e=>.all fun Y hY h p=>(ycl hc h6 hx hY (h _ _ hq) hf ha p).2 e
theorem Stp.call {q:Str} {X0:Rel} (h6:c.op=6) (hq:X0 c.b q) (hf:y82 s q c.tag=true):Stp s X0 fun st=>ypc c st q:=fun st hc' h0=>by
 obtain ⟨c1,t1⟩:=Stp.add (s:=s) (X0:=X0) (n:=c.a) (p:=q) (fun Y hY h=>hY c hc _ _ (.inr (.inr (.inr (.inr (.inr ⟨h6,q,h _ _ hq,hf,.inl ⟨rfl,rfl⟩⟩)))))) st hc' h0
 obtain ⟨c2,t2⟩:=Stp.fold (fun x hx=>Stp.arg hc h6 hq hf (x:=x) hx) (yhp st c.a q) c1 (h0.trans t1.mono)
 exact ⟨c2,t1.trans t2⟩
theorem Stp.apply:Stp s (fun _ _=>False) fun st=>yc7 s st c:=fun st h h0=>by
 have hr:y7d (y6p st.1) (y6p st.1):=.refl _
 unfold yc7
 by_cases h1:c.op=1
 ·simp only [if_pos h1];exact Stp.add (fun Y hY _=>hY c hc _ _ (.inl ⟨h1,rfl,rfl⟩)) st h h0
 simp only [if_neg h1]
 by_cases h2:c.op=2
 ·simp only [if_pos h2];exact Stp.all (fun Y hY _ p hp=>hY c hc _ _ (.inr (.inl ⟨h2,rfl,hp⟩))) st h h0
 simp only [if_neg h2]
 by_cases h3:c.op=3
 ·simp only [if_pos h3]
  exact Stp.fold (fun q hq=>.ite (fun e=>.all fun Y hY k p hp=>hY c hc _ _ (.inr (.inr (.inl ⟨h3,rfl,q,k _ _ hq,e,hp⟩)))) fun _=>.id) st h hr
 simp only [if_neg h3]
 by_cases h4:c.op=4
 ·simp only [if_pos h4]
  exact Stp.fold (fun q hq=>.ite (fun e=>.all fun Y hY k p hp=>hY c hc _ _ (.inr (.inr (.inr (.inl ⟨h4,k _ _ hq,e,hp⟩))))) fun _=>.id) st h hr
 simp only [if_neg h4]
 by_cases h5:c.op=5
 ·simp only [if_pos h5]
  exact Stp.fold (fun q hq=>.ite (fun e=>.add fun Y hY k=>hY c hc _ _ (.inr (.inr (.inr (.inr (.inl ⟨h5,rfl,e,q,k _ _ hq,rfl⟩)))))) fun _=>.id) st h hr
 simp only [if_neg h5]
 by_cases h6:c.op=6
 ·simp only [if_pos h6]
  exact Stp.fold (fun q hq=>.ite (fun e=>Stp.call hc h6 hq e) fun _=>.id) st h hr
 simp only [if_neg h6]
 exact ⟨h,.refl _ _ _⟩
theorem ylg {st:St} (h:CanF st.1) (hf:(yc7 s st c).2=false):y7d (Rl s c (y6p st.1)) (y6p st.1):=by
 have hr:y7d (y6p st.1) (y6p st.1):=.refl _
 have iff:∀{st1:St},(∀n p,y6p st1.1 n p↔y6p st.1 n p)→y7d (y6p st.1) (y6p st1.1):=fun b n p=>(b n p).2
 unfold yc7 at hf
 rintro n p (⟨o,rfl,rfl⟩ | ⟨o,rfl,x⟩ | ⟨o,rfl,q,x,y,z⟩ | ⟨o,x,y,z⟩ | ⟨o,rfl,e,q,x,rfl⟩ | ⟨o,q,x,y,z⟩) <;> simp only [o] at hf
 ·simp [yhp] at hf;exact hf.2
 ·exact yc8 h (fun Y hY _ p hp=>hY c hc _ _ (.inr (.inl ⟨o,rfl,hp⟩))) (by simpa using hf) p x
 ·simp at hf
  obtain ⟨st1,a,b,d⟩:=y7t (s:=s) (X0:=y6p st.1) (fun q hq=>.ite (fun e=>.all fun Y hY k p hp=>hY c hc _ _ (.inr (.inr (.inl ⟨o,rfl,q,k _ _ hq,e,hp⟩)))) fun _=>.id) h hr hf q x
  rw [if_pos y] at d
  exact (b _ _).1 (yc8 a (fun Y hY k p hp=>hY c hc _ _ (.inr (.inr (.inl ⟨o,rfl,q,k _ _ ((b _ _).2 x),y,hp⟩)))) d p ((b _ _).2 z))
 ·simp at hf
  obtain ⟨st1,a,b,d⟩:=y7t (s:=s) (X0:=y6p st.1) (fun q hq=>.ite (fun e=>.all fun Y hY k p hp=>hY c hc _ _ (.inr (.inr (.inr (.inl ⟨o,k _ _ hq,e,hp⟩))))) fun _=>.id) h hr hf n x
  rw [if_pos y] at d
  exact (b _ _).1 (yc8 a (fun Y hY k p hp=>hY c hc _ _ (.inr (.inr (.inr (.inl ⟨o,k _ _ ((b _ _).2 x),y,hp⟩))))) d p ((b _ _).2 z))
 ·simp at hf
  obtain ⟨st1,a,b,d⟩:=y7t (s:=s) (X0:=y6p st.1) (f:=fun st q=>if ¬y54 s q c.tag c.k=[] then yhp st c.a (y54 s q c.tag c.k) else st) (fun q hq=>.ite (fun e=>.add fun Y hY k=>hY c hc _ _ (.inr (.inr (.inr (.inr (.inl ⟨o,rfl,e,q,k _ _ hq,rfl⟩)))))) fun _=>.id) h hr (by simpa using hf) q x
  rw [if_pos e] at d
  simp only [yhp,Bool.or_eq_false_iff,decide_eq_false_iff_not,Decidable.not_not] at d
  exact (b _ _).1 d.2
 ·simp at hf
  obtain ⟨st1,a,b,d⟩:=y7t (s:=s) (X0:=y6p st.1) (fun q hq=>.ite (fun e=>Stp.call hc o hq e) fun _=>.id) h hr hf q x
  rw [if_pos y] at d
  have hq:=(b _ _).2 x
  obtain ⟨c1,t1⟩:=Stp.add (s:=s) (X0:=y6p st1.1) (n:=c.a) (p:=q) (fun Y hY h=>hY c hc _ _ (.inr (.inr (.inr (.inr (.inr ⟨o,q,h _ _ hq,y,.inl ⟨rfl,rfl⟩⟩)))))) st1 a (.refl _)
  have hst:∀x∈numd c.args,Stp s (y6p st1.1) fun st=>argP q st x:=fun x hx=>Stp.arg hc o hq y hx
  obtain ⟨c2,t2⟩:=Stp.fold hst (yhp st1 c.a q) c1 t1.mono
  have e1:=t2.same d
  have e2:=t1.same e1.1
  rcases z with ⟨rfl,rfl⟩ | ⟨k,v,z1,z2,z3⟩
  ·have:=e1.1
   simp only [yhp,Bool.or_eq_false_iff,decide_eq_false_iff_not,Decidable.not_not] at this
   exact (b _ _).1 this.2
  ·obtain ⟨st2,a2,b2,d2⟩:=y7t hst c1 t1.mono d (k,v) (yfq.2 z1)
   have bb:∀n p,y6p st2.1 n p↔y6p st.1 n p:=fun n p=>(b2 n p).trans (⟨fun h=>e2.2 n p h,fun h=>t1.mono n p h⟩:y6p (yhp st1 c.a q).1 n p↔y6p st1.1 n p) |>.trans (b n p)
   unfold argP at d2
   simp only [z2,if_false] at d2
   have dr:=fun {Y:Rel} (hY:Cl s Y) (hs:y7d (y6p st2.1) Y) (p:Str)=>ycl hc o (x:=(k,v)) z1 hY (hs _ _ ((bb _ _).2 x)) y z2 p
   rcases z3 with ⟨rfl,rfl,z⟩ | ⟨z0,rfl,z⟩
   ·simp only [if_true] at d2
    exact (bb _ _).1 (yc8 a2 (fun Y hY k p=>(dr hY k p).1 rfl) d2 p ((bb _ _).2 z))
   ·simp only [z0,if_false] at d2
    exact (bb _ _).1 (yc8 a2 (fun Y hY k p=>(dr hY k p).2 z0) d2 p ((bb _ _).2 z))
end apply
def y9o (s:Sy) (l:List y6b):St:=s.cons.foldl (yc7 s) (l,false)
theorem yd5 {s:Sy} {l:List y6b} (h:CanF l):CanF (y9o s l).1∧Tr s (y6p l) false (y6p (y9o s l).1) (y9o s l).2:=by
 have:=Stp.fold (s:=s) (X0:=fun _ _=>False) (f:=yc7 s) (l:=s.cons) (fun c hc=>Stp.apply hc) (l,false) h (fun _ _ h=>h.elim)
 exact this
theorem ygj {s:Sy} {l:List y6b} (h:CanF l) (h0:∀Y,Cl s Y→y7d (y6p l) Y) (hf:(y9o s l).2=false):IsL s (y9o s l).1:=by
 obtain ⟨c1,t1⟩:=yd5 (s:=s) h
 have e:=t1.same hf
 have hcl:Cl s (y6p l):=fun c hc=>by
  obtain ⟨st1,a,b,d⟩:=y7t (s:=s) (X0:=fun _ _=>False) (f:=yc7 s) (fun c hc=>Stp.apply hc) (st:=(l,false)) h (fun _ _ h=>h.elim) hf c hc
  have:=ylg hc a d
  exact fun n p x=>(b n p).1 (this n p (Rl.mono (fun n p=>(b n p).2) n p x))
 exact ⟨c1,fun n p=>⟨fun x=>h0 _ (Der.cl s) n p (e.2 n p x),fun x=>t1.mono n p (x _ hcl)⟩⟩
theorem yki (d:Nd) (h1:d.fn.length≤9223372036854775806) (h2:d.name.length≤9223372036854775806) (H:Hp):AC Tryz.prog y8m [nv d] H (fun v H'=>v=yfa d∧H'=H):=by
 refine AC.code y30.at y30.ok ?_
 simp only [y30]
 apply jA
 simp [y30.r0,nv]
 apply jB
 simp [y30.r1]
 refine AC.fix (yjg d (by omega) (by omega) _) ?_
 simp
 refine AX.pcond rfl (fun hb=>?_) (fun hb=>AX.skip ?_)
 ·simp at hb
  apply jA
  simp [y30.r2]
  apply jD
  simp [yfa,hb]
 simp at hb
 simp
 apply jA
 simp [y30.r3]
 refine AC.fix (yf8 d hb _) ?_
 simp
 apply jD
 simp [yfa,hb]
theorem NCell_ok (obj:Str) (k:Nat) (hs:obj.length≤9223372036854775806) (H:Hp):AC Tryz.prog ya3 [.s obj,.i .i64 k] H (fun v H'=>v=.s (y90 obj k)∧H'=H):=by
 refine AC.codeP y21.at y21.ok (by simp) fun hlt=>?_
 simp only [y21]
 apply jA
 simp [y21.r0]
 apply jA
 simp [y21.r1]
 refine AC.fix (y8q obj hs _) ?_
 cases hr:y56 obj with
 | none=>
  simp [rdV,nv,Nd.cs,Nd.zero]
  apply jB
  simp [y21.r2]
  refine jG rfl ?_
  apply jA
  simp [y21.r3]
  apply jD
  simp [y90,hr]
  exact ⟨(Hp.Ext.add hlt _).upd hlt (kG _) _,.refl _⟩
 | some d=>
  simp [rdV,nv,Nd.cs]
  apply jB
  by_cases hk:d.kind<5∨d.cell≠-1
  ·have e:y90 obj k=[]:=by unfold y90;rw [hr];simp only;rw [if_pos hk]
   by_cases h1:d.kind<5
   ·simp [y21.r2,h1]
    refine jG rfl ?_
    apply jA
    simp [y21.r3]
    apply jD
    simp [e]
    exact ⟨(Hp.Ext.add hlt _).upd hlt (kG _) _,.refl _⟩
   ·have h2:¬d.cell=-1:=by rcases hk with h | h;exact absurd h h1;exact h
    simp [y21.r2,h1,h2]
    refine jG rfl ?_
    apply jA
    simp [y21.r3]
    apply jD
    simp [e]
    exact ⟨(Hp.Ext.add hlt _).upd hlt (kG _) _,.refl _⟩
  ·have e:y90 obj k=if y5r { d with cell:=k } then y2w { d with cell:=k } else []:=by unfold y90;rw [hr];simp only;rw [if_neg hk]
   have h1:¬d.kind<5:=fun h=>hk (.inl h)
   have h2:d.cell=-1:=kg fun h=>hk (.inr h)
   simp [y21.r2,h1,h2]
   refine jF rfl (AX.skip ?_)
   simp
   apply jA
   simp [y21.r4]
   apply jA
   simp [y21.r5]
   have hdl:=ygp hr
   refine AC.fix (yki { d with cell:=k } (by have:=hdl.1;simp;omega) (by have:=hdl.2;simp;omega) _) ?_
   obtain ⟨tx,er,etx,hfit⟩:∃tx er,yfa { d with cell:=(k:Int) }=.tup [.s tx,.i .i64 er]∧y90 obj k=tx:=by
    rw [e]
    by_cases hr:y5r { d with cell:=(k:Int) }=true
    ·exact ⟨_,0,by unfold yfa;rw [if_pos hr],by rw [if_pos hr]⟩
    ·exact ⟨[],11,by unfold yfa;rw [if_neg hr],by rw [if_neg hr]⟩
   rw [etx,hfit]
   simp
   apply jA
   simp [y21.r6]
   apply jD
   simp
   exact ⟨(Hp.Ext.add hlt _).upd hlt (kG _) _,.refl _⟩
end Go.Proofs.YtikpijbeobeckaaGreatDoor
