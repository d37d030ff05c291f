/- Part 33 of the proof of the laws of the queries: S15i, S15j, S37b, LsM, S20g, LNam. -/
import Derived.Test.YtikpijbeobeckaaGreatDoorXLw21
import Derived.Test.YtikpijbeobeckaaGreatDoorXLw26
import Derived.Test.YtikpijbeobeckaaGreatDoorXLw32
set_option linter.unusedSimpArgs false
set_option linter.unusedVariables false
namespace Go.Proofs.YtikpijbeobeckaaGreatDoor
open Am C
theorem ymi {α β:Type} {f:α→List β} {n:Nat}:∀{l:List α},(∀x∈l,(f x).length≤n)→(l.flatMap f).length≤n*l.length
  | [],_=>by simp
  | a::r,h=>by
    have h1:=h a (by simp)
    have h2:=ymi (l:=r) fun x hx=>h x (by simp [hx])
    simp only [List.flatMap_cons,List.length_append,List.length_cons,Nat.mul_succ]
    omega
def obP (s:Sy) (all:Bool) (i:Nat):List Str:=(s.objs.take i).flatMap fun o=>yd2 o all
theorem yne {o:Ob} (all:Bool) (h:obE o=0):(yd2 o all).length≤64:=by
  have h1:=yib h
  have h2:=yju o all o.kinds.length
  have:yd2 o all=ynf o all o.kinds.length:=rfl
  rw [this];omega
theorem obP_len {s:Sy} (all:Bool) (h:ygq s=0) (i:Nat):(obP s all i).length≤38400:=by
  obtain ⟨h1,_,_,h4,_,_⟩:=yhy h
  have:=ymi (f:=fun o=>yd2 o all) (n:=64) (l:=s.objs.take i) fun o ho=>yne all (h4 o (List.mem_of_mem_take ho))
  have h2:(s.objs.take i).length≤600:=by simp;omega
  unfold obP;omega
def adB (c:Cn):Option Str:=if c.op=1 then some c.b else none
theorem yjg (s:Sy):y40 s=obP s true s.objs.length++s.fns.map Fu.name++s.cons.filterMap adB:=by
  unfold y40 obP
  rw [List.take_length,List.append_assoc]
  rfl
theorem y8i:∀{a b:List Str},y3s a→y3s b→(∀x,x∈a↔x∈b)→a=b
  | [],[],_,_,_=>rfl
  | [],b::s,_,_,h=>absurd ((h b).2 (by simp)) (by simp)
  | a::r,[],_,_,h=>absurd ((h a).1 (by simp)) (by simp)
  | a::r,b::s,ha,hb,h=>by
    have ha':=List.pairwise_cons.1 ha
    have hb':=List.pairwise_cons.1 hb
    have e:a=b:=by
      refine Classical.byContradiction fun hne=>?_
      have h1:a∈s:=(List.mem_cons.1 ((h a).1 (by simp))).resolve_left hne
      have h2:b∈r:=(List.mem_cons.1 ((h b).2 (by simp))).resolve_left (Ne.symm hne)
      have:=yb0 (ha'.1 b h2)
      rw [hb'.1 a h1] at this;cases this
    subst e
    have:r=s:=y8i ha'.2 hb'.2 fun x=>⟨fun hx=>?_,fun hx=>?_⟩
    · rw [this]
    · exact (List.mem_cons.1 ((h x).1 (by simp [hx]))).resolve_left fun e=>by have:=ha'.1 x hx;rw [e] at this;exact y7g _ this
    · exact (List.mem_cons.1 ((h x).2 (by simp [hx]))).resolve_left fun e=>by have:=hb'.1 x hx;rw [e] at this;exact y7g _ this
theorem ycs {s:Sy} (h:ygq s=0):(y40 s).length≤45000:=by
  obtain ⟨h1,h2,h3,_⟩:=yhy h
  have h4:=obP_len true h s.objs.length
  have h5:=List.length_filterMap_le adB s.cons
  rw [yjg]
  simp only [List.length_append,List.length_map]
  omega
theorem ycp {d:Nd} (h:RightN d):y5z (y2z d)=some d:=by
  unfold y5z
  rw [ygv h]
  simp [(y5v d).2 h]
theorem ybd {s:Str} {d:Nd} (h:y5z s=some d):RightN d∧y2z d=s:=by
  unfold y5z at h
  split at h
  · rename_i hc
    injection h with h;subst h
    exact ⟨(y5v _).1 hc.2.1,hc.2.2⟩
  · cases h
def yde (p:Str):Option (Str × Nat):=match y5z p with
  | some d=>if d.cell=-1 then none else some (y2z { d with cell:=-1 },d.cell.toNat)
  | none=>none
def ycr (s:Sy) (p:Str):Bool:=match yde p with
  | some (o,k)=>s.objs.any fun ob=>decide (ob.name=o∧ob.kinds[k]?=some 112)
  | none=>false
def y6u (s:Sy) (p tag:Str) (by':Int):Str:=match yde p with
  | some (o,k)=>if s.objs.any (fun ob=>decide (ob.name=o)&&(ob.marks.any (fun m=>decide (m.pos=k∧m.tag=tag))&&decide ((k:Int)+by'<ob.kinds.length))) then y91 o (k+by'.toNat) else []
  | none=>[]
def y9z (s:Sy) (p tag:Str):Bool:=match ybb tag with
  | some (l,r)=>s.fns.any fun f=>decide (f.name=p∧f.kinds=l∧(r=[]∨f.ret=r))
  | none=>false
def y56 (p:Str) (i:Nat):Str:=match y5z p with
  | some d=>if y5i { d with kind:=2,n:=i } then y2z { d with kind:=2,n:=i } else []
  | none=>[]
abbrev Rel:=Str→Str→Prop
def Rl (s:Sy) (c:Cn) (X:Rel):Rel:=fun n p=>
  (c.op=1∧n=c.a∧p=c.b)∨(c.op=2∧n=c.a∧X c.b p) ∨
  (c.op=3∧n=c.a∧∃q,X c.b q∧ycr s q=true∧X q p) ∨
  (c.op=4∧X c.a n∧ycr s n=true∧X c.b p) ∨
  (c.op=5∧n=c.a∧p≠[]∧∃q,X c.b q∧y6u s q c.tag c.k=p) ∨
  (c.op=6∧∃q,X c.b q∧y9z s q c.tag=true∧((n=c.a∧p=q)∨∃k a,c.args[k]?=some a∧a≠[]∧((k=0∧n=a∧X (y56 q 0) p)∨(k≠0∧n=y56 q k∧X a p))))
def y7d (X Y:Rel):Prop:=∀n p,X n p→Y n p
theorem y7d.refl (X:Rel):y7d X X:=fun _ _ h=>h
theorem y7d.trans {X Y Z:Rel} (h:y7d X Y) (k:y7d Y Z):y7d X Z:=fun n p x=>k n p (h n p x)
theorem Rl.mono {s:Sy} {c:Cn} {X Y:Rel} (h:y7d X Y):y7d (Rl s c X) (Rl s c Y):=by
  rintro n p (x | ⟨a,b,x⟩ | ⟨a,b,q,x,y,z⟩ | ⟨a,x,y,z⟩ | ⟨a,b,b',q,x,y⟩ | ⟨a,q,x,y,z⟩)
  · exact .inl x
  · exact .inr (.inl ⟨a,b,h _ _ x⟩)
  · exact .inr (.inr (.inl ⟨a,b,q,h _ _ x,y,h _ _ z⟩))
  · exact .inr (.inr (.inr (.inl ⟨a,h _ _ x,y,h _ _ z⟩)))
  · exact .inr (.inr (.inr (.inr (.inl ⟨a,b,b',q,h _ _ x,y⟩))))
  · refine .inr (.inr (.inr (.inr (.inr ⟨a,q,h _ _ x,y,?_⟩))))
    rcases z with z | ⟨k,e,z,z',⟨u,v,w⟩ | ⟨u,v,w⟩⟩
    · exact .inl z
    · exact .inr ⟨k,e,z,z',.inl ⟨u,v,h _ _ w⟩⟩
    · exact .inr ⟨k,e,z,z',.inr ⟨u,v,h _ _ w⟩⟩
def Cl (s:Sy) (X:Rel):Prop:=∀c∈s.cons,y7d (Rl s c X) X
def Der (s:Sy):Rel:=fun n p=>∀X,Cl s X→X n p
theorem Der.le {s:Sy} {X:Rel} (h:Cl s X):y7d (Der s) X:=fun n p d=>d X h
theorem Der.cl (s:Sy):Cl s (Der s):=fun c hc n p h X hX=>hX c hc n p (Rl.mono (Der.le hX) n p h)
structure Tr (s:Sy) (X:Rel) (m:Bool) (X':Rel) (m':Bool):Prop where
  mono:y7d X X'
  snd:∀Y,Cl s Y→y7d X Y→y7d X' Y
  same:m'=false→m=false∧y7d X' X
  more:m'=true→m=true∨∃n p,X' n p∧¬X n p
theorem Tr.refl (s:Sy) (X:Rel) (m:Bool):Tr s X m X m:=⟨.refl X,fun _ _ h=>h,fun h=>⟨h,.refl X⟩,fun h=>.inl h⟩
theorem Tr.trans {s:Sy} {X Y Z:Rel} {a b c:Bool} (h:Tr s X a Y b) (k:Tr s Y b Z c):Tr s X a Z c:=
  ⟨h.mono.trans k.mono,fun W hW x=>k.snd W hW (h.snd W hW x),fun e=>⟨(h.same (k.same e).1).1,(k.same e).2.trans (h.same (k.same e).1).2⟩,fun e=>by
    rcases k.more e with x | ⟨n,p,x,y⟩
    · rcases h.more x with u | ⟨n,p,u,v⟩
      · exact .inl u
      · exact .inr ⟨n,p,k.mono _ _ u,v⟩
    · exact .inr ⟨n,p,x,fun z=>y (h.mono _ _ z)⟩⟩
theorem Tr.add {s:Sy} {X X':Rel} {m:Bool} {n0 p0:Str} (hX:∀n p,X' n p↔X n p∨(n=n0∧p=p0)) (hs:∀Y,Cl s Y→y7d X Y→Y n0 p0) {b:Bool} (hb:b=true↔¬X n0 p0):Tr s X m X' (m||b):=by
  refine ⟨fun n p h=>(hX n p).2 (.inl h),fun Y hY h n p x=>?_,fun e=>?_,fun e=>?_⟩
  · rcases (hX n p).1 x with x | ⟨rfl,rfl⟩
    · exact h n p x
    · exact hs Y hY h
  · simp only [Bool.or_eq_false_iff] at e
    refine ⟨e.1,fun n p x=>?_⟩
    rcases (hX n p).1 x with x | ⟨rfl,rfl⟩
    · exact x
    · refine Classical.byContradiction fun hn=>?_
      rw [hb.2 hn] at e;cases e.2
  · simp only [Bool.or_eq_true] at e
    rcases e with e | e
    · exact .inl e
    · exact .inr ⟨n0,p0,(hX _ _).2 (.inr ⟨rfl,rfl⟩),hb.1 e⟩
open Classical in
noncomputable def crd (N P:List Str) (X:Rel):Nat:=((N.flatMap fun n=>P.map fun p=>(n,p)).filter fun x=>decide (X x.1 x.2)).length
theorem crd_mono {N P:List Str} {X Y:Rel} (h:y7d X Y):crd N P X≤crd N P Y:=by
  unfold crd
  generalize (N.flatMap fun n=>P.map fun p=>(n,p))=l
  induction l with
  | nil=>simp
  | cons a l ih=>
    simp only [List.filter_cons]
    by_cases h1:X a.1 a.2
    · have:=h _ _ h1
      simp [h1,this];exact ih
    · by_cases h2:Y a.1 a.2
      · simp [h1,h2];omega
      · simp [h1,h2];exact ih
open Classical in
theorem crd_lt {N P:List Str} {X Y:Rel} (h:y7d X Y) {n p:Str} (hn:n∈N) (hp:p∈P) (hy:Y n p) (hx:¬X n p):crd N P X<crd N P Y:=by
  unfold crd
  have hm:(n,p)∈(N.flatMap fun n=>P.map fun p=>(n,p)):=List.mem_flatMap.2 ⟨n,hn,List.mem_map.2 ⟨p,hp,rfl⟩⟩
  revert hm
  generalize (N.flatMap fun n=>P.map fun p=>(n,p))=l
  have le:∀l:List (Str × Str),(l.filter fun x=>decide (X x.1 x.2)).length≤(l.filter fun x=>decide (Y x.1 x.2)).length:=by
    intro l
    induction l with
    | nil=>simp
    | cons a l ih=>
      simp only [List.filter_cons]
      by_cases h1:X a.1 a.2
      · have:=h _ _ h1
        simp [h1,this];exact ih
      · by_cases h2:Y a.1 a.2
        · simp [h1,h2];omega
        · simp [h1,h2];exact ih
  induction l with
  | nil=>intro h;cases h
  | cons a l ih=>
    intro hm
    simp only [List.filter_cons]
    rcases List.mem_cons.1 hm with e | hm
    · subst e
      have:=le l
      simp [hx,hy];omega
    · have:=ih hm
      by_cases h1:X a.1 a.2
      · have:=h _ _ h1
        simp [h1,this];omega
      · by_cases h2:Y a.1 a.2
        · simp [h1,h2];omega
        · simp [h1,h2];omega
theorem crd_le (N P:List Str) (X:Rel):crd N P X≤N.length*P.length:=by
  unfold crd
  refine Nat.le_trans (List.length_filter_le _ _) ?_
  induction N with
  | nil=>simp
  | cons a N ih=>rw [List.flatMap_cons,List.length_append,List.length_map,List.length_cons,Nat.succ_mul];omega
def InNP (N P:List Str):Rel:=fun n p=>n∈N∧p∈P
theorem Tr.lt {s:Sy} {N P:List Str} (hU:Cl s (InNP N P)) {X X':Rel} {m:Bool} (h:Tr s X false X' true) (hX:y7d X (InNP N P)):crd N P X<crd N P X':=by
  rcases h.more rfl with e | ⟨n,p,x,y⟩
  · cases e
  · have:=h.snd _ hU hX n p x
    exact crd_lt h.mono this.1 this.2 x y
def y7n (l:List y58):Rel:=fun n p=>p∈ofS l n
structure CanF (l:List y58):Prop where
  rise:y3s (l.map (·.1))
  locs:∀f∈l,y3s f.2∧f.2≠[]
theorem ofS_nil (n:Str):ofS [] n=[]:=rfl
theorem y68 (f:y58) (l:List y58) (n:Str):ofS (f::l) n=if f.1=n then f.2 else ofS l n:=by
  unfold ofS
  rw [List.find?_cons]
  by_cases h:f.1=n <;> simp [h]
theorem CanF.nil:CanF []:=⟨by simp [y3s],fun f h=>by cases h⟩
theorem CanF.tail {f:y58} {l:List y58} (h:CanF (f::l)):CanF l:=⟨(List.pairwise_cons.1 h.rise).2,fun g hg=>h.locs g (by simp [hg])⟩
theorem ofS_none {l:List y58} {n:Str} (h:∀f∈l,f.1≠n):ofS l n=[]:=by
  induction l with
  | nil=>rfl
  | cons f l ih=>rw [y68,if_neg (h f (by simp)),ih fun g hg=>h g (by simp [hg])]
theorem ylq {l:List y58} (h:CanF l) {f:y58} (hf:f∈l):ofS l f.1=f.2:=by
  induction l with
  | nil=>cases hf
  | cons g l ih=>
    rw [y68]
    rcases List.mem_cons.1 hf with rfl | hf
    · simp
    · have:ltB g.1 f.1=true:=(List.pairwise_cons.1 h.rise).1 _ (List.mem_map.2 ⟨f,hf,rfl⟩)
      rw [if_neg (fun e=>by rw [e] at this;exact y7g _ this),ih h.tail hf]
theorem ylo {l:List y58} {n p:Str} (h:p∈ofS l n):∃f∈l,f.1=n∧p∈f.2:=by
  induction l with
  | nil=>cases h
  | cons f l ih=>
    rw [y68] at h
    by_cases e:f.1=n
    · rw [if_pos e] at h;exact ⟨f,by simp,e,h⟩
    · rw [if_neg e] at h
      obtain ⟨g,h1,h2⟩:=ih h
      exact ⟨g,by simp [h1],h2⟩
theorem ydv {l:List y58} (h:CanF l) (n:Str):y3s (ofS l n):=by
  induction l with
  | nil=>exact List.Pairwise.nil
  | cons f l ih=>
    rw [y68];split
    · exact (h.locs f (by simp)).1
    · exact ih h.tail
theorem yid {l:List y58} (h:CanF l) (n:Str):n∈l.map (·.1)↔∃p,y7n l n p:=by
  constructor
  · intro hn
    obtain ⟨f,hf,rfl⟩:=List.mem_map.1 hn
    have:=(h.locs f hf).2
    obtain ⟨p,hp⟩:=List.exists_mem_of_ne_nil _ this
    exact ⟨p,by unfold y7n;rw [ylq h hf];exact hp⟩
  · rintro ⟨p,hp⟩
    obtain ⟨f,hf,rfl,_⟩:=ylo hp
    exact List.mem_map.2 ⟨f,hf,rfl⟩
theorem can_eq {l:List y58} (h:CanF l):l=(l.map (·.1)).map fun n=>(n,ofS l n):=by
  rw [List.map_map]
  conv=>lhs;rw [←List.map_id l]
  refine List.map_congr_left fun f hf=>?_
  simp [ylq h hf]
theorem can_ext {a b:List y58} (ha:CanF a) (hb:CanF b) (h:∀n p,y7n a n p↔y7n b n p):a=b:=by
  have e:a.map (·.1)=b.map (·.1):=y8i ha.rise hb.rise fun n=>by
    rw [yid ha,yid hb]
    exact ⟨fun ⟨p,x⟩=>⟨p,(h n p).1 x⟩,fun ⟨p,x⟩=>⟨p,(h n p).2 x⟩⟩
  rw [can_eq ha,can_eq hb,e]
  refine List.map_congr_left fun n _=>?_
  rw [y8i (ydv ha n) (ydv hb n) (h n)]
structure IsL (s:Sy) (l:List y58):Prop where
  can:CanF l
  has:∀n p,y7n l n p↔Der s n p
theorem IsL.one {s:Sy} {a b:List y58} (ha:IsL s a) (hb:IsL s b):a=b:=can_ext ha.can hb.can fun n p=>by rw [ha.has,hb.has]
theorem y7u {α:Type} [DecidableEq α]:∀{a b:List α},a.Nodup→(∀x∈a,x∈b)→a.length≤b.length
  | [],_,_,_=>Nat.zero_le _
  | x::a,b,h,hs=>by
    have hx:=hs x (by simp)
    have h1:=y7u (a:=a) (b:=b.erase x) (List.nodup_cons.1 h).2 fun y hy=>by
      refine (List.mem_erase_of_ne fun e=>?_).2 (hs y (by simp [hy]))
      subst e;exact (List.nodup_cons.1 h).1 hy
    rw [List.length_erase_of_mem hx] at h1
    have:=List.length_pos_of_mem hx
    simp only [List.length_cons];omega
theorem y3s.nodup {l:List Str} (h:y3s l):l.Nodup:=List.Pairwise.imp (fun {x y} hlt e=>by subst e;exact y7g _ hlt) h
def yka:List y58→Str→Str→List y58
  | [],n,p=>[(n,[p])]
  | f::r,n,p=>if ltB f.1 n then f::yka r n p else if f.1=n then (n,y8k f.2 p)::r else (n,[p])::f::r
theorem ye3:∀(l:List y58) (n p:Str),(yka l n p).map (·.1)=y8k (l.map (·.1)) n
  | [],n,p=>rfl
  | f::r,n,p=>by
    simp only [yka,List.map_cons,y8k]
    split
    · simp [ye3 r n p]
    · split
      · rename_i e;simp [e]
      · simp
theorem intoS_ne (l:List Str) (x:Str):y8k l x≠[]:=fun h=>by
  have:x∈y8k l x:=yaz.2 (.inl rfl)
  rw [h] at this;cases this
theorem ygf:∀(l:List y58) (n p:Str),(∀f∈l,y3s f.2∧f.2≠[])→∀f∈yka l n p,y3s f.2∧f.2≠[]
  | [],n,p,h,f,hf=>by simp [yka] at hf;subst hf;simp [y3s]
  | g::r,n,p,h,f,hf=>by
    have hg:=h g (by simp)
    have hr:=ygf r n p fun x hx=>h x (by simp [hx])
    simp only [yka] at hf
    split at hf
    · rcases List.mem_cons.1 hf with rfl | hf
      · exact hg
      · exact hr f hf
    · split at hf
      · rcases List.mem_cons.1 hf with rfl | hf
        · exact ⟨y82 hg.1 p,intoS_ne _ _⟩
        · exact h f (by simp [hf])
      · rcases List.mem_cons.1 hf with rfl | hf
        · simp [y3s]
        · exact h f hf
theorem CanF.add {l:List y58} (h:CanF l) (n p:Str):CanF (yka l n p):=⟨by rw [ye3];exact y82 h.rise n,ygf l n p h.locs⟩
theorem yia:∀{l:List y58},CanF l→∀n p m,ofS (yka l n p) m=if m=n then y8k (ofS l n) p else ofS l m
  | [],h,n,p,m=>by
    simp only [yka,y68,ofS_nil]
    by_cases e:m=n
    · subst e;simp [y8k]
    · rw [if_neg (Ne.symm e),if_neg e]
  | f::r,h,n,p,m=>by
    have ih:=yia h.tail n p m
    simp only [yka]
    by_cases h1:ltB f.1 n=true
    · have hne:f.1≠n:=fun e=>by rw [e] at h1;exact y7g _ h1
      rw [if_pos h1,y68,y68,y68,if_neg hne]
      by_cases e:f.1=m
      · rw [if_pos e,if_pos e,if_neg (fun e'=>hne (e.trans e'))]
      · rw [if_neg e,if_neg e,ih]
    · rw [if_neg h1]
      by_cases h2:f.1=n
      · rw [if_pos h2,y68,y68,y68,if_pos h2]
        by_cases e:m=n
        · subst e;simp
        · rw [if_neg (Ne.symm e),if_neg e,if_neg (fun e'=>e (e'.symm.trans h2))]
      · rw [if_neg h2,y68]
        by_cases e:m=n
        · subst e
          have:ofS (f::r) m=[]:=ofS_none fun g hg e=>by
            rcases List.mem_cons.1 hg with rfl | hg
            · exact h2 e
            · have h3:=(List.pairwise_cons.1 h.rise).1 _ (List.mem_map.2 ⟨g,hg,rfl⟩)
              rw [e] at h3
              exact h1 h3
          rw [this];simp [y8k]
        · rw [if_neg (Ne.symm e),if_neg e]
theorem has_addF {l:List y58} (h:CanF l) (n0 p0 n p:Str):y7n (yka l n0 p0) n p↔y7n l n p∨(n=n0∧p=p0):=by
  unfold y7n
  rw [yia h]
  by_cases e:n=n0
  · subst e;simp [yaz];exact Or.comm
  · simp [e]
abbrev St:=List y58 × Bool
def yhl (st:St) (n p:Str):St:=(yka st.1 n p,st.2||decide (p∉ofS st.1 n))
def allP (st:St) (to frm:Str):St:=(ofS st.1 frm).foldl (fun st q=>yhl st to q) st
def argP (q:Str) (st:St) (x:Nat × Str):St:=if x.2=[] then st else if x.1=0 then allP st x.2 (y56 q 0) else allP st (y56 q x.1) x.2
def numd (l:List Str):List (Nat × Str):=(List.range l.length).map fun k=>(k,l.getD k [])
def callP (c:Cn) (st:St) (q:Str):St:=(numd c.args).foldl (argP q) (yhl st c.a q)
def yd7 (s:Sy) (st:St) (c:Cn):St:=
  if c.op=1 then yhl st c.a c.b
  else if c.op=2 then allP st c.a c.b
  else if c.op=3 then (ofS st.1 c.b).foldl (fun st q=>if ycr s q then allP st c.a q else st) st
  else if c.op=4 then (ofS st.1 c.a).foldl (fun st q=>if ycr s q then allP st q c.b else st) st
  else if c.op=5 then (ofS st.1 c.b).foldl (fun st q=>if y6u s q c.tag c.k≠[] then yhl st c.a (y6u s q c.tag c.k) else st) st
  else if c.op=6 then (ofS st.1 c.b).foldl (fun st q=>if y9z s q c.tag then callP c st q else st) st
  else st
def Stp (s:Sy) (X0:Rel) (f:St→St):Prop:=∀st,CanF st.1→y7d X0 (y7n st.1)→CanF (f st).1∧Tr s (y7n st.1) st.2 (y7n (f st).1) (f st).2
theorem Stp.add {s:Sy} {X0:Rel} {n p:Str} (hs:∀Y,Cl s Y→y7d X0 Y→Y n p):Stp s X0 fun st=>yhl st n p:=fun st hc h0=>
  ⟨hc.add n p,Tr.add (has_addF hc n p) (fun Y hY h=>hs Y hY (h0.trans h)) (by simp [y7n])⟩
theorem Stp.id {s:Sy} {X0:Rel}:Stp s X0 fun st=>st:=fun st hc _=>⟨hc,.refl _ _ _⟩
theorem Stp.fold {s:Sy} {X0:Rel} {α:Type} {f:St→α→St}:∀{l:List α},(∀x∈l,Stp s X0 fun st=>f st x)→Stp s X0 fun st=>l.foldl f st
  | [],_=>.id
  | x::l,h=>fun st hc h0=>by
    obtain ⟨c1,t1⟩:=h x (by simp) st hc h0
    obtain ⟨c2,t2⟩:=Stp.fold (l:=l) (fun y hy=>h y (by simp [hy])) (f st x) c1 (h0.trans t1.mono)
    exact ⟨c2,t1.trans t2⟩
theorem Stp.ite {s:Sy} {X0:Rel} {b:Prop} [Decidable b] {f g:St→St} (hf:b→Stp s X0 f) (hg:¬b→Stp s X0 g):Stp s X0 fun st=>if b then f st else g st:=fun st hc h0=>by
  by_cases e:b
  · simp only [if_pos e];exact hf e st hc h0
  · simp only [if_neg e];exact hg e st hc h0
theorem y7a {s:Sy} {α:Type} {f:St→α→St} {X0:Rel}:∀{l:List α} {st:St},(∀x∈l,Stp s X0 fun st=>f st x)→CanF st.1→y7d X0 (y7n st.1)→(l.foldl f st).2=false→
    ∀x∈l,∃st1,CanF st1.1∧(∀n p,y7n st1.1 n p↔y7n st.1 n p)∧(f st1 x).2=false
  | [],_,_,_,_,_,x,hx=>by cases hx
  | y::l,st,h,hc,h0,hf,x,hx=>by
    obtain ⟨c1,t1⟩:=h y (by simp) st hc h0
    have h2:=fun z hz=>h z (List.mem_cons_of_mem y hz)
    obtain ⟨c2,t2⟩:=Stp.fold h2 (f st y) c1 (h0.trans t1.mono)
    have e1:=t2.same hf
    have e2:=t1.same e1.1
    rcases List.mem_cons.1 hx with rfl | hx
    · exact ⟨st,hc,fun _ _=>.rfl,e1.1⟩
    · obtain ⟨st1,a,b,c⟩:=y7a h2 c1 (h0.trans t1.mono) hf x hx
      exact ⟨st1,a,fun n p=>(b n p).trans ⟨e2.2 n p,t1.mono n p⟩,c⟩
theorem Stp.all {s:Sy} {X0:Rel} {to frm:Str} (hs:∀Y,Cl s Y→y7d X0 Y→∀p,Y frm p→Y to p):Stp s X0 fun st=>allP st to frm:=fun st hc h0=>by
  have:Stp s (y7n st.1) fun st'=>(ofS st.1 frm).foldl (fun st q=>yhl st to q) st':=.fold fun q hq=>.add fun Y hY h=>hs Y hY (h0.trans h) q (h frm q hq)
  exact this st hc (.refl _)
theorem yb8 {s:Sy} {to frm:Str} {st:St} (hc:CanF st.1) (hs:∀Y,Cl s Y→y7d (y7n st.1) Y→∀p,Y frm p→Y to p) (h:(allP st to frm).2=false):∀p,y7n st.1 frm p→y7n st.1 to p:=fun p hp=>by
  obtain ⟨st1,a,b,c⟩:=y7a (s:=s) (X0:=y7n st.1) (f:=fun st q=>yhl st to q) (fun q hq=>.add fun Y hY h=>hs Y hY h q (h frm q hq)) hc (.refl _) h p hp
  simp only [yhl,Bool.or_eq_false_iff,decide_eq_false_iff_not,Decidable.not_not] at c
  exact (b to p).1 c.2
theorem yih {l:List Str} {x:Nat × Str}:x∈numd l↔l[x.1]?=some x.2:=by
  unfold numd
  simp only [List.mem_map,List.mem_range]
  constructor
  · rintro ⟨k,hk,rfl⟩;simp [List.getD_eq_getElem?_getD,List.getElem?_eq_getElem hk]
  · intro h
    exact ⟨x.1,(List.getElem?_eq_some_iff.1 h).1,by simp [List.getD_eq_getElem?_getD,h]⟩
section apply
variable {s:Sy} {c:Cn} (hc:c∈s.cons)
include hc
theorem ycz {q:Str} (h6:c.op=6) {x:Nat × Str} (hx:c.args[x.1]?=some x.2) {Y:Rel} (hY:Cl s Y) (hq:Y c.b q) (hf:y9z s q c.tag=true) (ha:x.2≠[]) (p:Str):
    (x.1=0→Y (y56 q 0) p→Y x.2 p)∧(x.1≠0→Y x.2 p→Y (y56 q x.1) p):=
  ⟨fun e h=>hY c hc _ _ (.inr (.inr (.inr (.inr (.inr ⟨h6,q,hq,hf,.inr ⟨x.1,x.2,hx,ha,.inl ⟨e,rfl,h⟩⟩⟩))))),
   fun e h=>hY c hc _ _ (.inr (.inr (.inr (.inr (.inr ⟨h6,q,hq,hf,.inr ⟨x.1,x.2,hx,ha,.inr ⟨e,rfl,h⟩⟩⟩)))))⟩
theorem Stp.arg {q:Str} {X0:Rel} (h6:c.op=6) (hq:X0 c.b q) (hf:y9z s q c.tag=true) {x:Nat × Str} (hx:x∈numd c.args):Stp s X0 fun st=>argP q st x:=by
  have hx:=yih.1 hx
  unfold argP
  refine .ite (fun _=>.id) fun ha=>.ite (fun e=>.all fun Y hY h p=>(ycz hc h6 hx hY (h _ _ hq) hf ha p).1 e) fun e=>.all fun Y hY h p=>(ycz hc h6 hx hY (h _ _ hq) hf ha p).2 e
theorem Stp.call {q:Str} {X0:Rel} (h6:c.op=6) (hq:X0 c.b q) (hf:y9z s q c.tag=true):Stp s X0 fun st=>callP c st q:=fun st hc' h0=>by
  obtain ⟨c1,t1⟩:=Stp.add (s:=s) (X0:=X0) (n:=c.a) (p:=q) (fun Y hY h=>hY c hc _ _ (.inr (.inr (.inr (.inr (.inr ⟨h6,q,h _ _ hq,hf,.inl ⟨rfl,rfl⟩⟩)))))) st hc' h0
  obtain ⟨c2,t2⟩:=Stp.fold (fun x hx=>Stp.arg hc h6 hq hf (x:=x) hx) (yhl st c.a q) c1 (h0.trans t1.mono)
  exact ⟨c2,t1.trans t2⟩
theorem Stp.apply:Stp s (fun _ _=>False) fun st=>yd7 s st c:=fun st h h0=>by
  have hr:y7d (y7n st.1) (y7n st.1):=.refl _
  unfold yd7
  by_cases h1:c.op=1
  · simp only [if_pos h1];exact Stp.add (fun Y hY _=>hY c hc _ _ (.inl ⟨h1,rfl,rfl⟩)) st h h0
  simp only [if_neg h1]
  by_cases h2:c.op=2
  · simp only [if_pos h2];exact Stp.all (fun Y hY _ p hp=>hY c hc _ _ (.inr (.inl ⟨h2,rfl,hp⟩))) st h h0
  simp only [if_neg h2]
  by_cases h3:c.op=3
  · simp only [if_pos h3]
    exact Stp.fold (fun q hq=>.ite (fun e=>.all fun Y hY k p hp=>hY c hc _ _ (.inr (.inr (.inl ⟨h3,rfl,q,k _ _ hq,e,hp⟩)))) fun _=>.id) st h hr
  simp only [if_neg h3]
  by_cases h4:c.op=4
  · simp only [if_pos h4]
    exact Stp.fold (fun q hq=>.ite (fun e=>.all fun Y hY k p hp=>hY c hc _ _ (.inr (.inr (.inr (.inl ⟨h4,k _ _ hq,e,hp⟩))))) fun _=>.id) st h hr
  simp only [if_neg h4]
  by_cases h5:c.op=5
  · simp only [if_pos h5]
    exact Stp.fold (fun q hq=>.ite (fun e=>.add fun Y hY k=>hY c hc _ _ (.inr (.inr (.inr (.inr (.inl ⟨h5,rfl,e,q,k _ _ hq,rfl⟩)))))) fun _=>.id) st h hr
  simp only [if_neg h5]
  by_cases h6:c.op=6
  · simp only [if_pos h6]
    exact Stp.fold (fun q hq=>.ite (fun e=>Stp.call hc h6 hq e) fun _=>.id) st h hr
  simp only [if_neg h6]
  exact ⟨h,.refl _ _ _⟩
theorem yjx {st:St} (h:CanF st.1) (hf:(yd7 s st c).2=false):y7d (Rl s c (y7n st.1)) (y7n st.1):=by
  have hr:y7d (y7n st.1) (y7n st.1):=.refl _
  have iff:∀{st1:St},(∀n p,y7n st1.1 n p↔y7n st.1 n p)→y7d (y7n st.1) (y7n st1.1):=fun b n p=>(b n p).2
  unfold yd7 at hf
  rintro n p (⟨o,rfl,rfl⟩ | ⟨o,rfl,x⟩ | ⟨o,rfl,q,x,y,z⟩ | ⟨o,x,y,z⟩ | ⟨o,rfl,e,q,x,rfl⟩ | ⟨o,q,x,y,z⟩) <;> simp only [o] at hf
  · simp [yhl] at hf;exact hf.2
  · exact yb8 h (fun Y hY _ p hp=>hY c hc _ _ (.inr (.inl ⟨o,rfl,hp⟩))) (by simpa using hf) p x
  · simp at hf
    obtain ⟨st1,a,b,d⟩:=y7a (s:=s) (X0:=y7n st.1) (fun q hq=>.ite (fun e=>.all fun Y hY k p hp=>hY c hc _ _ (.inr (.inr (.inl ⟨o,rfl,q,k _ _ hq,e,hp⟩)))) fun _=>.id) h hr hf q x
    rw [if_pos y] at d
    exact (b _ _).1 (yb8 a (fun Y hY k p hp=>hY c hc _ _ (.inr (.inr (.inl ⟨o,rfl,q,k _ _ ((b _ _).2 x),y,hp⟩)))) d p ((b _ _).2 z))
  · simp at hf
    obtain ⟨st1,a,b,d⟩:=y7a (s:=s) (X0:=y7n st.1) (fun q hq=>.ite (fun e=>.all fun Y hY k p hp=>hY c hc _ _ (.inr (.inr (.inr (.inl ⟨o,k _ _ hq,e,hp⟩))))) fun _=>.id) h hr hf n x
    rw [if_pos y] at d
    exact (b _ _).1 (yb8 a (fun Y hY k p hp=>hY c hc _ _ (.inr (.inr (.inr (.inl ⟨o,k _ _ ((b _ _).2 x),y,hp⟩))))) d p ((b _ _).2 z))
  · simp at hf
    obtain ⟨st1,a,b,d⟩:=y7a (s:=s) (X0:=y7n st.1) (f:=fun st q=>if ¬y6u s q c.tag c.k=[] then yhl st c.a (y6u s q c.tag c.k) else st) (fun q hq=>.ite (fun e=>.add fun Y hY k=>hY c hc _ _ (.inr (.inr (.inr (.inr (.inl ⟨o,rfl,e,q,k _ _ hq,rfl⟩)))))) fun _=>.id) h hr (by simpa using hf) q x
    rw [if_pos e] at d
    simp only [yhl,Bool.or_eq_false_iff,decide_eq_false_iff_not,Decidable.not_not] at d
    exact (b _ _).1 d.2
  · simp at hf
    obtain ⟨st1,a,b,d⟩:=y7a (s:=s) (X0:=y7n st.1) (fun q hq=>.ite (fun e=>Stp.call hc o hq e) fun _=>.id) h hr hf q x
    rw [if_pos y] at d
    have hq:=(b _ _).2 x
    obtain ⟨c1,t1⟩:=Stp.add (s:=s) (X0:=y7n st1.1) (n:=c.a) (p:=q) (fun Y hY h=>hY c hc _ _ (.inr (.inr (.inr (.inr (.inr ⟨o,q,h _ _ hq,y,.inl ⟨rfl,rfl⟩⟩)))))) st1 a (.refl _)
    have hst:∀x∈numd c.args,Stp s (y7n st1.1) fun st=>argP q st x:=fun x hx=>Stp.arg hc o hq y hx
    obtain ⟨c2,t2⟩:=Stp.fold hst (yhl st1 c.a q) c1 t1.mono
    have e1:=t2.same d
    have e2:=t1.same e1.1
    rcases z with ⟨rfl,rfl⟩ | ⟨k,v,z1,z2,z3⟩
    · have:=e1.1
      simp only [yhl,Bool.or_eq_false_iff,decide_eq_false_iff_not,Decidable.not_not] at this
      exact (b _ _).1 this.2
    · obtain ⟨st2,a2,b2,d2⟩:=y7a hst c1 t1.mono d (k,v) (yih.2 z1)
      have bb:∀n p,y7n st2.1 n p↔y7n st.1 n p:=fun n p=>(b2 n p).trans (⟨fun h=>e2.2 n p h,fun h=>t1.mono n p h⟩:y7n (yhl st1 c.a q).1 n p↔y7n st1.1 n p) |>.trans (b n p)
      unfold argP at d2
      simp only [z2,if_false] at d2
      have dr:=fun {Y:Rel} (hY:Cl s Y) (hs:y7d (y7n st2.1) Y) (p:Str)=>ycz hc o (x:=(k,v)) z1 hY (hs _ _ ((bb _ _).2 x)) y z2 p
      rcases z3 with ⟨rfl,rfl,z⟩ | ⟨z0,rfl,z⟩
      · simp only [if_true] at d2
        exact (bb _ _).1 (yb8 a2 (fun Y hY k p=>(dr hY k p).1 rfl) d2 p ((bb _ _).2 z))
      · simp only [z0,if_false] at d2
        exact (bb _ _).1 (yb8 a2 (fun Y hY k p=>(dr hY k p).2 z0) d2 p ((bb _ _).2 z))
end apply
def ybp (s:Sy) (l:List y58):St:=s.cons.foldl (yd7 s) (l,false)
theorem yee {s:Sy} {l:List y58} (h:CanF l):CanF (ybp s l).1∧Tr s (y7n l) false (y7n (ybp s l).1) (ybp s l).2:=by
  have:=Stp.fold (s:=s) (X0:=fun _ _=>False) (f:=yd7 s) (l:=s.cons) (fun c hc=>Stp.apply hc) (l,false) h (fun _ _ h=>h.elim)
  exact this
theorem ylb {s:Sy} {l:List y58} (h:CanF l) (h0:∀Y,Cl s Y→y7d (y7n l) Y) (hf:(ybp s l).2=false):IsL s (ybp s l).1:=by
  obtain ⟨c1,t1⟩:=yee (s:=s) h
  have e:=t1.same hf
  have hcl:Cl s (y7n l):=fun c hc=>by
    obtain ⟨st1,a,b,d⟩:=y7a (s:=s) (X0:=fun _ _=>False) (f:=yd7 s) (fun c hc=>Stp.apply hc) (st:=(l,false)) h (fun _ _ h=>h.elim) hf c hc
    have:=yjx hc a d
    exact fun n p x=>(b n p).1 (this n p (Rl.mono (fun n p=>(b n p).2) n p x))
  exact ⟨c1,fun n p=>⟨fun x=>h0 _ (Der.cl s) n p (e.2 n p x),fun x=>t1.mono n p (x _ hcl)⟩⟩
theorem yj0 (d:Nd) (h1:d.fn.length≤9223372036854775806) (h2:d.name.length≤9223372036854775806) (H:Hp):AC Tryz.prog y7z [nv d] H (fun v H'=>v=ye8 d∧H'=H):=by
  refine AC.code y2x.at y2x.ok ?_
  simp only [y2x]
  apply jA
  simp [y2x.r0,nv]
  apply jB
  simp [y2x.r1]
  refine AC.fix (yi4 d (by omega) (by omega) _) ?_
  simp
  refine AX.pcond rfl (fun hb=>?_) (fun hb=>AX.skip ?_)
  · simp at hb
    apply jA
    simp [y2x.r2]
    apply jD
    simp [ye8,hb]
  simp at hb
  simp
  apply jA
  simp [y2x.r3]
  refine AC.fix (ye6 d hb _) ?_
  simp
  apply jD
  simp [ye8,hb]
theorem NCell_ok (obj:Str) (k:Nat) (hs:obj.length≤9223372036854775806) (H:Hp):AC Tryz.prog y9d [.s obj,.i .i64 k] H (fun v H'=>v=.s (y91 obj k)∧H'=H):=by
  refine AC.codeP y1z.at y1z.ok (by simp) fun hlt=>?_
  simp only [y1z]
  apply jA
  simp [y1z.r0]
  apply jA
  simp [y1z.r1]
  refine AC.fix (y86 obj hs _) ?_
  cases hr:y5z obj with
  | none=>
    simp [rdV,nv,Nd.cs,Nd.zero]
    apply jB
    simp [y1z.r2]
    refine jG rfl ?_
    apply jA
    simp [y1z.r3]
    apply jD
    simp [y91,hr]
    exact ⟨(Hp.Ext.add hlt _).upd hlt (Nat.le_refl _) _,.refl _⟩
  | some d=>
    simp [rdV,nv,Nd.cs]
    apply jB
    by_cases hk:d.kind<5∨d.cell≠-1
    · have e:y91 obj k=[]:=by unfold y91;rw [hr];simp only;rw [if_pos hk]
      by_cases h1:d.kind<5
      · simp [y1z.r2,h1]
        refine jG rfl ?_
        apply jA
        simp [y1z.r3]
        apply jD
        simp [e]
        exact ⟨(Hp.Ext.add hlt _).upd hlt (Nat.le_refl _) _,.refl _⟩
      · have h2:¬d.cell=-1:=by rcases hk with h | h;exact absurd h h1;exact h
        simp [y1z.r2,h1,h2]
        refine jG rfl ?_
        apply jA
        simp [y1z.r3]
        apply jD
        simp [e]
        exact ⟨(Hp.Ext.add hlt _).upd hlt (Nat.le_refl _) _,.refl _⟩
    · have e:y91 obj k=if y5i { d with cell:=k } then y2z { d with cell:=k } else []:=by unfold y91;rw [hr];simp only;rw [if_neg hk]
      have h1:¬d.kind<5:=fun h=>hk (.inl h)
      have h2:d.cell=-1:=Classical.byContradiction fun h=>hk (.inr h)
      simp [y1z.r2,h1,h2]
      refine jF rfl (AX.skip ?_)
      simp
      apply jA
      simp [y1z.r4]
      apply jA
      simp [y1z.r5]
      have hdl:=yfj hr
      refine AC.fix (yj0 { d with cell:=k } (by have:=hdl.1;simp;omega) (by have:=hdl.2;simp;omega) _) ?_
      obtain ⟨tx,er,etx,hfit⟩:∃tx er,ye8 { d with cell:=(k:Int) }=.tup [.s tx,.i .i64 er]∧y91 obj k=tx:=by
        rw [e]
        by_cases hr:y5i { d with cell:=(k:Int) }=true
        · exact ⟨_,0,by unfold ye8;rw [if_pos hr],by rw [if_pos hr]⟩
        · exact ⟨[],11,by unfold ye8;rw [if_neg hr],by rw [if_neg hr]⟩
      rw [etx,hfit]
      simp
      apply jA
      simp [y1z.r6]
      apply jD
      simp
      exact ⟨(Hp.Ext.add hlt _).upd hlt (Nat.le_refl _) _,.refl _⟩
def objV (r:Option (Str × Nat)):V:=match r with
  | some (o,k)=>.tup [.s o,.i .i64 (k:Nat),.b true]
  | none=>.tup [.s [],.i .i64 0,.b false]
theorem cell_nat {d:Nd} (h:RightN d) (hc:d.cell≠-1):((d.cell.toNat:Nat):Int)=d.cell:=by
  rcases h.cell with h1 | ⟨_,h1⟩
  · exact absurd h1 hc
  · have:=of_decide_eq_true h1
    omega
theorem yfg {d:Nd} (h:RightN d):y5i { d with cell:=-1 }=true:=(y5v _).2 ⟨h.k1,h.k7,h.cp,h.n,.inl rfl,h.fn,h.nm,h.nn⟩
theorem yk1 (p:Str) (hs:p.length≤9223372036854775806) (H:Hp):AC Tryz.prog y8a [.s p] H (fun v H'=>v=objV (yde p)∧H'=H):=by
  refine AC.codeP y1v.at y1v.ok (by unfold objV;split <;> simp) fun hlt=>?_
  simp only [y1v]
  apply jA
  simp [y1v.r0]
  apply jA
  simp [y1v.r1]
  refine AC.fix (y86 p hs _) ?_
  cases hr:y5z p with
  | none=>
    simp [rdV,nv,Nd.cs,Nd.zero]
    apply jB
    simp [y1v.r2]
    refine jG rfl ?_
    apply jA
    simp [y1v.r3]
    apply jD
    simp [yde,hr,objV]
    exact ⟨(Hp.Ext.add hlt _).upd hlt (Nat.le_refl _) _,.refl _⟩
  | some d=>
    obtain ⟨hd,hw⟩:=ybd hr
    simp [rdV,nv,Nd.cs]
    apply jB
    by_cases h2:d.cell=-1
    · have e:yde p=none:=by unfold yde;rw [hr];simp only;rw [if_pos h2]
      simp [y1v.r2,h2]
      refine jG rfl ?_
      apply jA
      simp [y1v.r3]
      apply jD
      simp [e,objV]
      exact ⟨(Hp.Ext.add hlt _).upd hlt (Nat.le_refl _) _,.refl _⟩
    · have e:yde p=some (y2z { d with cell:=-1 },d.cell.toNat):=by unfold yde;rw [hr];simp only;rw [if_neg h2]
      simp [y1v.r2,h2]
      refine jF rfl (AX.skip ?_)
      simp
      apply jA
      simp [y1v.r4]
      apply jA
      simp [y1v.r5]
      apply jA
      simp [y1v.r6]
      refine AC.fix (ye6 { d with cell:=-1 } (yfg hd) _) ?_
      simp
      apply jD
      simp [e,objV,cell_nat hd h2]
      exact ⟨(Hp.Ext.add hlt _).upd hlt (Nat.le_refl _) _,.refl _⟩
theorem text_fit (d:Nd):∃tx er,ye8 d=.tup [.s tx,.i .i64 er]∧tx=if y5i d then y2z d else []:=by
  by_cases hr:y5i d=true
  · exact ⟨_,0,by unfold ye8;rw [if_pos hr],by rw [if_pos hr]⟩
  · exact ⟨[],11,by unfold ye8;rw [if_neg hr],by rw [if_neg hr]⟩
theorem yhc (i:Nat):y5i { Nd.zero with kind:=2,n:=(i:Int) }=false:=by
  cases h:y5i { Nd.zero with kind:=2,n:=(i:Int) } with
  | false=>rfl
  | true=>
    have:=((y5v _).1 h).fn
    rcases this with h | h
    · exact absurd h.1 (show ¬((2:Int)=5) by decide)
    · exact absurd h.2 (show ¬y6a []=true by decide)
def rdN (p:Str):Nd:=(y5z p).getD Nd.zero
theorem yjl (p:Str) (i:Nat):y56 p i=if y5i { rdN p with kind:=2,n:=(i:Int) } then y2z { rdN p with kind:=2,n:=(i:Int) } else []:=by
  unfold y56 rdN
  cases y5z p with
  | none=>simp [yhc]
  | some d=>rfl
theorem rdN_len (p:Str):(rdN p).fn.length≤p.length∧(rdN p).name.length≤p.length:=by
  unfold rdN
  cases h:y5z p with
  | none=>exact ⟨Nat.zero_le _,Nat.zero_le _⟩
  | some d=>exact yfj h
theorem rdV_eq (p:Str):∃e,rdV (y5z p)=.tup [nv (rdN p),.i .i64 e]:=by
  unfold rdN
  cases y5z p with
  | none=>exact ⟨11,rfl⟩
  | some d=>exact ⟨0,rfl⟩
theorem ye5 (p:Str) (i:Nat) (hs:p.length≤9223372036854775806) (H:Hp):AC Tryz.prog y76 [.s p,.i .i64 (i:Nat)] H (fun v H'=>v=.s (y56 p i)∧H'=H):=by
  refine AC.codeP y26.at y26.ok (by simp) fun hlt=>?_
  simp only [y26]
  apply jA
  simp [y26.r0]
  apply jA
  simp [y26.r1]
  refine AC.fix (y86 p hs _) ?_
  obtain ⟨e,he⟩:=rdV_eq p
  rw [he,yjl]
  have hdl:=rdN_len p
  generalize rdN p=d at hdl ⊢
  simp [nv,Nd.cs]
  apply jA
  simp [y26.r2]
  apply jA
  simp [y26.r3]
  refine AC.fix (yj0 { d with kind:=2,n:=(i:Int) } (by have:=hdl.1;simp;omega) (by have:=hdl.2;simp;omega) _) ?_
  obtain ⟨tx,er,e1,e2⟩:=text_fit { d with kind:=2,n:=(i:Int) }
  rw [e1,←e2]
  simp
  apply jA
  simp [y26.r4]
  apply jD
  simp
  exact ⟨((Hp.Ext.add hlt _).upd hlt (Nat.le_refl _) _),.refl _⟩
end Go.Proofs.YtikpijbeobeckaaGreatDoor
