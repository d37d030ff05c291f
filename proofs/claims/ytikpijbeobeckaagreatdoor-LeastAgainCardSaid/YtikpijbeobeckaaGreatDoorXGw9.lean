/- Part 9. -/
import Derived.Test.YtikpijbeobeckaaGreatDoorXGw8
set_option linter.unusedSimpArgs false
set_option linter.unusedVariables false
namespace Go.Proofs.YtikpijbeobeckaaGreatDoor.Am
open Go Go.RowKit
inductive Okv (ok:Nat→Nat→Prop):V→Prop
 | junk:Okv ok .junk
 | b (x):Okv ok (.b x)
 | i (k n):Okv ok (.i k n)
 | s (x):Okv ok (.s x)
 | p0:Okv ok (.p none)
 | p (id off ext):ok id ext→Okv ok (.p (some (id,off,ext)))
 | fp (cs off):(∀(j:Nat) v,cs[j]?=some v→Okv ok v)→Okv ok (.fp cs off)
 | sl0 (n sz):Okv ok (.sl none n sz)
 | sl (id off ext n sz):ok id ext→Okv ok (.sl (some (id,off,ext)) n sz)
 | fs (es):(∀(i j:Nat) e v,es[i]?=some e→e[j]?=some v→Okv ok v)→Okv ok (.fs es)
 | mp0:Okv ok (.mp none)
 | mp (id):ok id 0→Okv ok (.mp (some id))
 | fn (f cs):(∀(j:Nat) v,cs[j]?=some v→Okv ok v)→Okv ok (.fn f cs)
 | fb (f cs):(∀(j:Nat) v,cs[j]?=some v→Okv ok v)→Okv ok (.fb f cs)
 | pz (T n id ext):ok id ext→Okv ok (.pz T n id ext)
 | st (T a n sz):Okv ok (.sl a n sz)→Okv ok (.st T a n sz)
 | nf:Okv ok .nf
 | ifc (t v):Okv ok v→Okv ok (.ifc t v)
 | nifc:Okv ok .nifc
 | jb:Okv ok .jb
 | agg (cs):(∀(j:Nat) v,cs[j]?=some v→Okv ok v)→Okv ok (.agg cs)
 | tup (cs):(∀(j:Nat) v,cs[j]?=some v→Okv ok v)→Okv ok (.tup cs)
 | yl (id):ok id 0→Okv ok (.yl id)
 | it (id):ok id 0→Okv ok (.it id)
theorem Okv.mono {ok ok':Nat→Nat→Prop} (h:∀id e,ok id e→ok' id e) {v:V} (r:Okv ok v):Okv ok' v:=by
 induction r with
 | junk=>exact .junk
 | b x=>exact .b x
 | i k n=>exact .i k n
 | s x=>exact .s x
 | p0=>exact .p0
 | p id off ext o=>exact .p id off ext (h _ _ o)
 | fp cs off _ ih=>exact .fp cs off ih
 | sl0 n sz=>exact .sl0 n sz
 | sl id off ext n sz o=>exact .sl id off ext n sz (h _ _ o)
 | fs es _ ih=>exact .fs es ih
 | mp0=>exact .mp0
 | mp id o=>exact .mp id (h _ _ o)
 | fn f cs _ ih=>exact .fn f cs ih
 | fb f cs _ ih=>exact .fb f cs ih
 | pz T n id ext o=>exact .pz T n id ext (h _ _ o)
 | st T a n sz _ ih=>exact .st T a n sz ih
 | nf=>exact .nf
 | ifc t v _ ih=>exact .ifc t v ih
 | nifc=>exact .nifc
 | jb=>exact .jb
 | agg cs _ ih=>exact .agg cs ih
 | tup cs _ ih=>exact .tup cs ih
 | yl id o=>exact .yl id (h _ _ o)
 | it id o=>exact .it id (h _ _ o)
theorem VR.okv {κ:K} {v:V} {c:Value} (r:VR κ v c):Okv κ.ok v:=by
 induction r with
 | junk v=>exact .junk
 | b x=>exact .b x
 | i k n=>exact .i k n
 | s x=>exact .s x
 | p0=>exact .p0
 | p id off ext o=>exact .p id off ext o
 | fp cs off b o cv _ _ _ ih=>exact .fp cs off ih
 | sl0 sz a=>exact .sl0 0 sz
 | sl id off ext len sz cap n a o=>exact .sl id off ext len sz o
 | fs es cap sz b o a cv _ _ _ _ _ _ ih=>exact .fs es ih
 | mp0=>exact .mp0
 | mp id o=>exact .mp id o
 | fn f caps cs _ _ ih=>exact .fn f caps ih
 | fb f caps cs _ _ ih=>exact .fb f caps ih
 | pz T n id ext o=>exact .pz T n id ext o
 | st T a len sz c _ _ ih=>exact .st T a len sz ih
 | nf=>exact .nf
 | ifc t v cv _ ih=>exact .ifc t v ih
 | nifc=>exact .nifc
 | jb x=>exact .jb
 | agg vs cs _ _ ih=>exact .agg vs ih
 | tup vs cs _ _ ih=>exact .tup vs ih
 | yl id o=>exact .yl id o
 | it id o=>exact .it id o
theorem VR.reok {κ:K} {ok':Nat→Nat→Prop} (hole':Nat→Prop) {v:V} {c:Value} (r:VR κ v c) (h:Okv ok' v):VR { κ with ok:=ok',hole:=hole' } v c:=by
 induction r with
 | junk v=>exact .junk v
 | b x=>exact .b x
 | i k n=>exact .i k n
 | s x=>exact .s x
 | p0=>exact .p0
 | p id off ext o=>cases h with | p _ _ _ o'=>exact .p (κ:={ κ with ok:=ok',hole:=hole' }) id off ext o'
 | fp cs off b o cv hb hc _ ih=>cases h with | fp _ _ h'=>exact .fp cs off b o cv hb hc (fun j v hj=>ih j v hj (h' j v hj))
 | sl0 sz a=>exact .sl0 sz a
 | sl id off ext len sz cap n a o z l x y hn hr ha=>cases h with | sl _ _ _ _ _ o'=>exact .sl (κ:={ κ with ok:=ok',hole:=hole' }) id off ext len sz cap n a o' z l x y hn hr ha
 | fs es cap sz b o a cv hl hs hn ha hc _ ih=>cases h with | fs _ h'=>exact .fs es cap sz b o a cv hl hs hn ha hc (fun i j e v hi hj=>ih i j e v hi hj (h' i j e v hi hj))
 | mp0=>exact .mp0
 | mp id o=>cases h with | mp _ o'=>exact .mp (κ:={ κ with ok:=ok',hole:=hole' }) id o'
 | fn f caps cs l _ ih=>cases h with | fn _ _ h'=>exact .fn f caps cs l (fun j v hj=>ih j v hj (h' j v hj))
 | fb f caps cs l _ ih=>cases h with | fb _ _ h'=>exact .fb f caps cs l (fun j v hj=>ih j v hj (h' j v hj))
 | pz T n id ext o hn hz=>cases h with | pz _ _ _ _ o'=>exact .pz (κ:={ κ with ok:=ok',hole:=hole' }) T n id ext o' hn hz
 | st T a len sz c _ hs ih=>cases h with | st _ _ _ _ h'=>exact .st (κ:={ κ with ok:=ok',hole:=hole' }) T a len sz c (ih h') (by cases a <;> exact hs)
 | nf=>exact .nf
 | ifc t v cv _ ih=>cases h with | ifc _ _ h'=>exact .ifc t v cv (ih h')
 | nifc=>exact .nifc
 | jb x=>exact .jb x
 | agg vs cs l _ ih=>cases h with | agg _ h'=>exact .agg vs cs l (fun j v hj=>ih j v hj (h' j v hj))
 | tup vs cs l _ ih=>cases h with | tup _ h'=>exact .tup vs cs l (fun j v hj=>ih j v hj (h' j v hj))
 | yl id o=>cases h with | yl _ o'=>exact .yl (κ:={ κ with ok:=ok',hole:=hole' }) id o'
 | it id o=>cases h with | it _ o'=>exact .it (κ:={ κ with ok:=ok',hole:=hole' }) id o'
theorem Okv.and {p q:Nat→Nat→Prop} {v:V} (h:Okv p v) (k:Okv q v):Okv (fun id e=>p id e∧q id e) v:=by
 induction h with
 | junk=>exact .junk
 | b x=>exact .b x
 | i kk n=>exact .i kk n
 | s x=>exact .s x
 | p0=>exact .p0
 | p id off ext o=>cases k with | p _ _ _ o'=>exact .p id off ext ⟨o,o'⟩
 | fp cs off _ ih=>cases k with | fp _ _ k'=>exact .fp cs off fun j v hj=>ih j v hj (k' j v hj)
 | sl0 n sz=>exact .sl0 n sz
 | sl id off ext n sz o=>cases k with | sl _ _ _ _ _ o'=>exact .sl id off ext n sz ⟨o,o'⟩
 | fs es _ ih=>cases k with | fs _ k'=>exact .fs es fun i j e v hi hj=>ih i j e v hi hj (k' i j e v hi hj)
 | mp0=>exact .mp0
 | mp id o=>cases k with | mp _ o'=>exact .mp id ⟨o,o'⟩
 | fn f cs _ ih=>cases k with | fn _ _ k'=>exact .fn f cs fun j v hj=>ih j v hj (k' j v hj)
 | fb f cs _ ih=>cases k with | fb _ _ k'=>exact .fb f cs fun j v hj=>ih j v hj (k' j v hj)
 | pz T n id ext o=>cases k with | pz _ _ _ _ o'=>exact .pz T n id ext ⟨o,o'⟩
 | st T a n sz _ ih=>cases k with | st _ _ _ _ k'=>exact .st T a n sz (ih k')
 | nf=>exact .nf
 | ifc t v _ ih=>cases k with | ifc _ _ k'=>exact .ifc t v (ih k')
 | nifc=>exact .nifc
 | jb=>exact .jb
 | agg cs _ ih=>cases k with | agg _ k'=>exact .agg cs fun j v hj=>ih j v hj (k' j v hj)
 | tup cs _ ih=>cases k with | tup _ k'=>exact .tup cs fun j v hj=>ih j v hj (k' j v hj)
 | yl id o=>cases k with | yl _ o'=>exact .yl id ⟨o,o'⟩
 | it id o=>cases k with | it _ o'=>exact .it id ⟨o,o'⟩
theorem VR.reok2 {κ:K} {q:Nat→Nat→Prop} (hole':Nat→Prop) {v:V} {c:Value} (r:VR κ v c) (h:Okv q v):VR { κ with ok:=fun id e=>κ.ok id e∧q id e,hole:=hole' } v c:=r.reok hole' (r.okv.and h)
def yj3 (ok:Nat→Nat→Prop):OB→Prop
 | .map es=>∀k v,(k,v)∈es→Okv ok v
 | .iter m _ _=>ok m 0
 | .lp S (.done _)=>True
 | .lp S _=>∀t,Okv ok (y6o S.F t)
theorem OBok.okv {κ:K} {o:OB} {x:Obj} (h:OBok κ o x):yj3 κ.ok o:=by
 cases h with
 | map es arr hl hv=>
  intro k v hm
  obtain ⟨j,hj⟩:=List.mem_iff_getElem?.1 hm
  obtain ⟨en,_,_,_,b⟩:=hv j k v hj
  exact b.okv
 | iter m n seen o=>exact o
 | ready S r a b c d e f g=>exact fun t=>(f t).okv
 | busy S r a c d e f g=>exact fun t=>(f t).okv
 | done S j r a b=>exact trivial
theorem yj3.mono {ok ok':Nat→Nat→Prop} (h:∀id e,ok id e→ok' id e) {o:OB} (r:yj3 ok o):yj3 ok' o:=by
 cases o with
 | map es=>exact fun k v hm=>(r k v hm).mono h
 | iter m n seen=>exact h _ _ r
 | lp S st=>cases st with
  | ready=>exact fun t=>(r t).mono h
  | busy=>exact fun t=>(r t).mono h
  | done j=>exact trivial
theorem OBok.reok {κ:K} {ok':Nat→Nat→Prop} (hole':Nat→Prop) {o:OB} {x:Obj} (r:OBok κ o x) (h:yj3 ok' o):OBok { κ with ok:=ok',hole:=hole' } o x:=by
 cases r with
 | map es arr hl hv=>exact .map es arr hl fun j k v a=>let ⟨en,x,y,z,u⟩:=hv j k v a;⟨en,x,y,z,u.reok hole' (h k v (kY a))⟩
 | iter m n seen o=>exact .iter (κ:={ κ with ok:=ok',hole:=hole' }) m n seen h
 | ready S r a b c d e f g=>exact .ready S r a b c d e (fun t=>(f t).reok hole' (h t)) g
 | busy S r a c d e f g=>exact .busy S r a c d e (fun t=>(f t).reok hole' (h t)) g
 | done S j r a b=>exact .done S j r a b
theorem OBok.reok2 {κ:K} {q:Nat→Nat→Prop} (hole':Nat→Prop) {o:OB} {x:Obj} (r:OBok κ o x) (h:yj3 q o):OBok { κ with ok:=fun id e=>κ.ok id e∧q id e,hole:=hole' } o x:=by
 refine r.reok hole' ?_
 have k:=r.okv
 cases o with
 | map es=>exact fun a b hm=>(k a b hm).and (h a b hm)
 | iter m n seen=>exact ⟨k,h⟩
 | lp S st=>cases st with
  | ready=>exact fun t=>(k t).and (h t)
  | busy=>exact fun t=>(k t).and (h t)
  | done j=>exact trivial
structure PendE where
 i:Nat
 id:Nat
 cs:List V
 m:Nat
def y3s (C:Hp):List PendE→Hp
 | []=>C
 | p::l=>y3s (C.upd p.id (.cells p.cs p.m)) l
theorem y48:∀(l:List PendE) (C:Hp),(y3s C l).next=C.next
 | [],_=>rfl
 | p::l,C=>y48 l _
theorem y7q:∀(l:List PendE) (C:Hp) (k:Nat),(∀p∈l,p.id≠k)→(y3s C l).get k=C.get k
 | [],_,_,_=>rfl
 | p::l,C,k,h=>by
  rw [y3s,y7q l _ k fun q hq=>h q (by simp [hq]),Hp.get_upd,if_neg (Ne.symm (h p (by simp)))]
theorem y7u:∀(l:List PendE) (C:Hp),l.Pairwise (fun a b=>a.id≠b.id)→∀p∈l,(y3s C l).get p.id=some (.cells p.cs p.m)
 | [],_,_,_,h=>by cases h
 | q::l,C,hd,p,hp=>by
  rw [kf] at hd
  rcases List.mem_cons.1 hp with rfl | hp
  ·rw [y3s,y7q l _ _ fun r hr=>Ne.symm (hd.1 r hr),Hp.get_upd,if_pos rfl]
  ·rw [y3s];exact y7u l _ hd.2 p hp
theorem y3x {l:List PendE} {C:Hp} (hd:l.Pairwise (fun a b=>a.id≠b.id)) (k:Nat):(∃p∈l,p.id=k∧(y3s C l).get k=some (.cells p.cs p.m))∨((∀p∈l,p.id≠k)∧(y3s C l).get k=C.get k):=by
 by_cases h:∃p∈l,p.id=k
 ·obtain ⟨p,hp,rfl⟩:=h
  exact .inl ⟨p,hp,rfl,y7u l C hd p hp⟩
 ·have h':∀p∈l,p.id≠k:=fun p hp e=>h ⟨p,hp,e⟩
  exact .inr ⟨h',y7q l C k h'⟩
def ymw (κ:K) (l:List PendE) (b:Nat):Prop:=∃p∈l,∃e,p.m≤e∧e≤p.cs.length∧(κ.pl p.id e).1=b
theorem frame {κ:K} {H:Hp} {l:List PendE} (hd:l.Pairwise (fun a b=>a.id≠b.id)) (hn:∀p∈l,H.get p.id=none) (S:Sim κ (y3s H l)):
  ∃κf:K,κf.w=κ.w∧κ.Le κf∧Sim κf H∧∀κ' X,κf.Le κ'→Sim κ' X→∃κ'',κ''.w=κ'.w∧κ.Le κ''∧Sim κ'' (y3s X l)∧(∀v c,VR κ' v c→VR κ'' v c)∧∀p∈l,X.get p.id=none:=by
 have gp:∀p∈l,(y3s H l).get p.id=some (.cells p.cs p.m):=fun p hp=>y7u l H hd p hp
 have gn:∀{k blk},H.get k=some blk→(∀p∈l,p.id≠k)∧(y3s H l).get k=some blk:=fun {k blk} h=>by
  have h1:∀p∈l,p.id≠k:=fun p hp e=>by rw [←e,hn p hp] at h;cases h
  exact ⟨h1,by rw [y7q l H k h1];exact h⟩
 have sb:∀b,ymw κ l b→b<κ.w.heap.size∧¬κ.fz b∧∃arr t fr,κ.w.heap[b]?=some (.cells arr t fr):=fun b ⟨p,hp,e,h1,h2,h3⟩=>by
  obtain ⟨⟨arr,t,fr,hb,_⟩,hz⟩:=S.cells p.id p.cs p.m (gp p hp) e h1 h2
  rw [h3] at hb hz
  exact ⟨lt_of_some hb,hz,arr,t,fr,hb⟩
 let κf:K:={ κ with fz:=fun b=>κ.fz b∨ymw κ l b,hole:=fun k=>κ.hole k∨∃p∈l,p.id=k }
 have le1:κ.Le κf:=⟨fun _ _ h=>⟨h,rfl⟩,fun _ h=>⟨.inl h,rfl⟩,fun _ h=>⟨h,rfl⟩,fun _ h=>.inl h,fun _ _ h=>h,kG _,rfl,rfl,rfl,fun _ h=>⟨.inl h,fun _ o=>o⟩,rfl,fun _ r h=>⟨r,h⟩⟩
 have S1:Sim κf H:=by
  refine ⟨fun id e o=>?_,fun k hk=>?_,fun k blk h=>?_,fun b h=>?_,fun b h=>.inl (S.ic b h),fun id cs m h=>S.le id cs m (gn h).2,fun id cs m h e h1 h2=>?_,fun id es h=>?_,
   fun id id' e e' cs m cs' m' h1 h2=>S.sep id id' e e' cs m cs' m' (gn h1).2 (gn h2).2,fun id cs m e e' h=>S.base id cs m e e' (gn h).2,fun id id' es es' h1 h2=>S.sepm id id' es es' (gn h1).2 (gn h2).2,S.tb.mono le1⟩
  ·obtain ⟨h1,h2⟩:=S.ok id e o
   rw [y48] at h1
   exact ⟨h1,fun cs m hg=>h2 cs m (gn hg).2⟩
  ·rcases hk with hk | ⟨p,hp,rfl⟩
   ·obtain ⟨h1,h2⟩:=S.hole k hk
    rw [y48] at h1
    refine ⟨h1,?_⟩
    cases hh:H.get k with
    | none=>rfl
    | some blk=>rw [(gn hh).2] at h2;cases h2
   ·have:=S.lt p.id _ (gp p hp)
    rw [y48] at this
    exact ⟨this,hn p hp⟩
  ·have:=S.lt k blk (gn h).2
   rw [y48] at this;exact this
  ·rcases h with h | h
   ·exact S.fz b h
   ·exact (sb b h).1
  ·obtain ⟨⟨arr,t,fr,hb,hs,hv,hf⟩,hz⟩:=S.cells id cs m (gn h).2 e h1 h2
   refine ⟨⟨arr,t,fr,hb,hs,fun j v a b=>(hv j v a b).mono le1,hf⟩,?_⟩
   rintro (hz' | ⟨p,hp,e',g1,g2,g3⟩)
   ·exact hz hz'
   ·exact (gn h).1 p hp (S.sep p.id id e' e p.cs p.m cs m (gp p hp) (gn h).2 g1 g2 h1 h2 g3)
  ·obtain ⟨⟨x,hb,ho⟩,hz⟩:=S.maps id es (gn h).2
   refine ⟨⟨x,hb,ho.mono le1⟩,?_⟩
   rintro (hz' | hz')
   ·exact hz hz'
   ·obtain ⟨_,_,arr',t',fr',hb'⟩:=sb _ hz'
    have hb2:κ.w.heap[(κ.pl id 0).1]?=some x:=hb
    rw [hb'] at hb2;injection hb2 with hb2;subst hb2;exact ho.not_cells
 refine ⟨κf,rfl,le1,S1,fun κ' X le2 S2=>?_⟩
 have hkeep:∀b,ymw κ l b→κ'.fz b∧κ'.w.heap[b]?=κ.w.heap[b]?:=fun b h=>le2.fz b (.inr h)
 have hX:∀p∈l,p.id<X.next∧X.get p.id=none:=fun p hp=>S2.hole p.id (le2.hole p.id (.inr ⟨p,hp,rfl⟩)).1
 have gx:∀{k blk},X.get k=some blk→(∀p∈l,p.id≠k):=fun {k blk} h p hp e=>by rw [←e,(hX p hp).2] at h;cases h
 let κ2:K:={ κ' with pl:=fun id e=>if l.any (fun p=>p.id == id) then κ.pl id e else κ'.pl id e,fz:=fun b=>κ'.fz b∧¬ymw κ l b,hole:=κ.hole }
 have plp:∀{p e},p∈l→κ2.pl p.id e=κ.pl p.id e:=fun {p e} hp=>by
  show (if l.any (fun q=>q.id == p.id) then _ else _)=_
  rw [if_pos (List.any_eq_true.2 ⟨p,hp,by simp⟩)]
 have plx:∀{k e},(∀p∈l,p.id≠k)→κ2.pl k e=κ'.pl k e:=fun {k e} hk=>by
  show (if l.any (fun q=>q.id == k) then _ else _)=_
  rw [if_neg]
  intro hany
  obtain ⟨p,hp,he⟩:=List.any_eq_true.1 hany
  exact hk p hp (by simpa using he)
 have old:∀{p e},p∈l→κ'.ok p.id e→κ.ok p.id e:=fun {p e} hp o=>(le2.hole p.id (.inr ⟨p,hp,rfl⟩)).2 e o
 have plo:∀{id e},κ'.ok id e→κ2.pl id e=κ'.pl id e:=fun {id e} o=>by
  by_cases h:∃p∈l,p.id=id
  ·obtain ⟨p,hp,rfl⟩:=h
   rw [plp hp];exact ((le2.ok p.id e (old hp o)).2).symm
  ·exact plx fun p hp e=>h ⟨p,hp,e⟩
 have mv:κ'.Mv κ2:=⟨fun id e o=>⟨o,plo o⟩,fun b h=>⟨h,rfl⟩,fun _ _ h=>h⟩
 have le3:κ.Le κ2:=⟨fun id e o=>⟨(le2.ok id e o).1,(plo (le2.ok id e o).1).trans (le2.ok id e o).2⟩,fun b h=>⟨⟨(le2.fz b (.inl h)).1,fun hs=>(sb b hs).2.1 h⟩,(le2.fz b (.inl h)).2⟩,
  le2.ic,fun b h=>(le2.icn b h).imp id fun h=>h.imp id fun h k=>h (.inl k),le2.n,le2.size,le2.os,le2.tape,le2.output,fun id h=>⟨h,(le2.hole id (.inl h)).2⟩,le2.base,le2.lps⟩
 refine ⟨κ2,rfl,le3,?_,fun v c r=>r.move mv,fun p hp=>(hX p hp).2⟩
 refine ⟨fun id e o=>?_,fun id h=>?_,fun k blk h=>?_,fun b h=>S2.fz b h.1,fun b h=>⟨S2.ic b h,fun hs=>?_⟩,fun id cs m h=>?_,fun id cs m h e h1 h2=>?_,fun id es h=>?_,
  fun id id' e e' cs m cs' m' g1 g2 a1 a2 b1 b2 hpl=>?_,fun id cs m e e' h a1 a2 b1 b2 hpl=>?_,fun id id' es es' g1 g2 hpl=>?_,S2.tb⟩
 ·obtain ⟨h1,h2⟩:=S2.ok id e o
  rw [y48]
  refine ⟨h1,fun cs m hg=>?_⟩
  rcases y3x (C:=X) hd id with ⟨p,hp,rfl,hg'⟩ | ⟨_,hg'⟩
  ·rw [hg'] at hg;injection hg with hg;injection hg with hg _;subst hg
   exact (S.ok p.id e (old hp o)).2 _ _ (gp p hp)
  ·rw [hg'] at hg;exact h2 cs m hg
 ·obtain ⟨h1,h2⟩:=S2.hole id (le2.hole id (.inl h)).1
  rw [y48]
  refine ⟨h1,?_⟩
  rw [y7q l X id fun p hp e=>?_]
  ·exact h2
  ·have:=(S.hole id h).2
   rw [←e,gp p hp] at this;cases this
 ·rw [y48]
  rcases y3x (C:=X) hd k with ⟨p,hp,rfl,_⟩ | ⟨_,hg'⟩
  ·exact (hX p hp).1
  ·rw [hg'] at h;exact S2.lt k blk h
 ·obtain ⟨q1,q2,_⟩:=sb b hs
  rcases le2.icn b h with h | h | h
  ·exact q2 (S.ic b h)
  ·have:κ.w.heap.size≤b:=h
   omega
  ·exact h (.inr hs)
 ·rcases y3x (C:=X) hd id with ⟨p,hp,rfl,hg'⟩ | ⟨_,hg'⟩
  ·rw [hg'] at h;injection h with h;injection h with x y;subst x;subst y
   exact S.le p.id _ _ (gp p hp)
  ·rw [hg'] at h;exact S2.le id cs m h
 ·rcases y3x (C:=X) hd id with ⟨p,hp,rfl,hg'⟩ | ⟨hne,hg'⟩
  ·rw [hg'] at h;injection h with h;injection h with x y;subst x;subst y
   obtain ⟨⟨arr,t,fr,hb,hs,hv,hf⟩,hz⟩:=S.cells p.id _ _ (gp p hp) e h1 h2
   have hside:ymw κ l (κ.pl p.id e).1:=⟨p,hp,e,h1,h2,rfl⟩
   have hsame:=(hkeep _ hside).2
   refine ⟨⟨arr,t,fr,?_,?_,fun j v a b=>?_,hf⟩,?_⟩
   ·rw [plp hp];show κ'.w.heap[_]?=_;rw [hsame];exact hb
   ·rw [plp hp];exact hs
   ·rw [plp hp];exact ((hv j v a b).mono (le1.trans le2)).move mv
   ·rw [plp hp];exact fun hz'=>hz'.2 hside
  ·rw [hg'] at h
   obtain ⟨⟨arr,t,fr,hb,hs,hv,hf⟩,hz⟩:=S2.cells id cs m h e h1 h2
   refine ⟨⟨arr,t,fr,?_,?_,fun j v a b=>?_,hf⟩,?_⟩
   ·rw [plx hne];exact hb
   ·rw [plx hne];exact hs
   ·rw [plx hne];exact (hv j v a b).move mv
   ·rw [plx hne];exact fun hz'=>hz hz'.1
 ·rcases y3x (C:=X) hd id with ⟨p,hp,rfl,hg'⟩ | ⟨hne,hg'⟩
  ·rw [hg'] at h;cases h
  ·rw [hg'] at h
   obtain ⟨⟨x,hb,ho⟩,hz⟩:=S2.maps id es h
   refine ⟨⟨x,?_,ho.move mv⟩,?_⟩
   ·rw [plx hne];exact hb
   ·rw [plx hne];exact fun hz'=>hz hz'.1
 ·rcases y3x (C:=X) hd id with ⟨p,hp,rfl,hg1⟩ | ⟨hne1,hg1⟩ <;> rcases y3x (C:=X) hd id' with ⟨p',hp',rfl,hg2⟩ | ⟨hne2,hg2⟩
  ·rw [hg1] at g1;injection g1 with g1;injection g1 with x y;subst x;subst y
   rw [hg2] at g2;injection g2 with g2;injection g2 with x y;subst x;subst y
   rw [plp hp,plp hp'] at hpl
   exact S.sep p.id p'.id e e' _ _ _ _ (gp p hp) (gp p' hp') a1 a2 b1 b2 hpl
  ·exfalso
   rw [hg1] at g1;injection g1 with g1;injection g1 with x y;subst x;subst y
   rw [hg2] at g2
   rw [plp hp,plx hne2] at hpl
   have:=(hkeep _ ⟨p,hp,e,a1,a2,rfl⟩).1
   rw [hpl] at this
   exact (S2.cells id' cs' m' g2 e' b1 b2).nfz this
  ·exfalso
   rw [hg2] at g2;injection g2 with g2;injection g2 with x y;subst x;subst y
   rw [hg1] at g1
   rw [plp hp',plx hne1] at hpl
   have:=(hkeep _ ⟨p',hp',e',b1,b2,rfl⟩).1
   rw [←hpl] at this
   exact (S2.cells id cs m g1 e a1 a2).nfz this
  ·rw [hg1] at g1
   rw [hg2] at g2
   rw [plx hne1,plx hne2] at hpl
   exact S2.sep id id' e e' cs m cs' m' g1 g2 a1 a2 b1 b2 hpl
 ·rcases y3x (C:=X) hd id with ⟨p,hp,rfl,hg1⟩ | ⟨hne1,hg1⟩
  ·rw [hg1] at h;injection h with h;injection h with x y;subst x;subst y
   rw [plp hp,plp hp] at hpl ⊢
   exact S.base p.id _ _ e e' (gp p hp) a1 a2 b1 b2 hpl
  ·rw [hg1] at h
   rw [plx hne1,plx hne1] at hpl ⊢
   exact S2.base id cs m e e' h a1 a2 b1 b2 hpl
 ·rcases y3x (C:=X) hd id with ⟨p,hp,rfl,hg1⟩ | ⟨hne1,hg1⟩
  ·rw [hg1] at g1;cases g1
  ·rcases y3x (C:=X) hd id' with ⟨p',hp',rfl,hg2⟩ | ⟨hne2,hg2⟩
   ·rw [hg2] at g2;cases g2
   ·rw [hg1] at g1
    rw [hg2] at g2
    rw [plx hne1,plx hne2] at hpl
    exact S2.sepm id id' es es' g1 g2 hpl
theorem fill {κ κ':K} {H:Hp} {id:Nat} {cs:List V} {m:Nat} (S:Sim κ H) (hh:κ.hole id) (hno:∀e,¬κ.ok id e) (hcs:∀v∈cs,Okv κ.ok v) (le:κ.Le κ') (S':Sim κ' (H.add (.cells cs m))):
  ∃κ'':K,κ''.w=κ'.w∧(∀κ0:K,κ0.Le κ→¬κ0.hole id→κ0.Le κ'')∧(∀k,κ.hole k→k≠id→κ''.hole k)∧(∀k e,k≠id→κ.hole k→κ''.ok k e→κ.ok k e)∧Sim κ'' (H.upd id (.cells cs m))∧(∀v c,VR κ v c→VR κ'' v c)∧
   (∀off e c,VR κ' (.p (some (H.next,off,e))) c→VR κ'' (.p (some (id,off,e))) c)∧(∀off e n sz c,VR κ' (.sl (some (H.next,off,e)) n sz) c→VR κ'' (.sl (some (id,off,e)) n sz) c):=by
 have hid:=S.hole id hh
 have hne:id≠H.next:=by have:=hid.1;omega
 let κ2:K:={ κ' with pl:=fun k e=>if k=id then κ'.pl H.next e else κ'.pl k e,ok:=fun k e=>if k=id then κ'.ok H.next e else (k≠H.next∧κ'.ok k e),hole:=fun k=>κ.hole k∧k≠id }
 have pli:∀{e},κ2.pl id e=κ'.pl H.next e:=fun {e}=>if_pos rfl
 have pln:∀{k e},k≠id→κ2.pl k e=κ'.pl k e:=fun {k e} h=>if_neg h
 have oki:∀{e},κ2.ok id e=κ'.ok H.next e:=fun {e}=>if_pos rfl
 have okn:∀{k e},k≠id→κ2.ok k e=(k≠H.next∧κ'.ok k e):=fun {k e} h=>if_neg h
 have good:∀{k e},κ.ok k e→k≠id∧k≠H.next:=fun {k e} o=>⟨fun h=>by subst h;exact hno e o,fun h=>by have:=(S.ok k e o).1;omega⟩
 have mvo:K.Mv { κ' with ok:=κ.ok,hole:=κ'.hole } κ2:=⟨fun k e o=>by
   have hk:=good o
   exact ⟨by rw [okn hk.1];exact ⟨hk.2,(le.ok k e o).1⟩,by rw [pln hk.1]⟩,fun b h=>⟨h,rfl⟩,fun _ _ h=>h⟩
 have mv0:∀{v c},Okv κ.ok v→VR κ' v c→VR κ2 v c:=fun {v c} ho r=>(r.reok κ'.hole ho).move mvo
 have mv:∀v c,VR κ v c→VR κ2 v c:=fun v c r=>mv0 r.okv (r.mono le)
 refine ⟨κ2,rfl,fun κ0 l0 nh=>?_,fun k h1 h2=>⟨h1,h2⟩,fun k e hk hho o=>?_,?_,mv,fun off e c r=>?_,fun off e n sz c r=>?_⟩
 ·have l1:=l0.trans le
  refine ⟨fun k e o=>?_,l1.fz,l1.ic,l1.icn,l1.n,l1.size,l1.os,l1.tape,l1.output,fun k h=>?_,l1.base,l1.lps⟩
  ·have hk:=good (l0.ok k e o).1
   exact ⟨by rw [okn hk.1];exact ⟨hk.2,(l1.ok k e o).1⟩,by rw [pln hk.1];exact (l1.ok k e o).2⟩
  ·have hk:k≠id:=fun e=>nh (e▸h)
   refine ⟨⟨(l0.hole k h).1,hk⟩,fun e o=>?_⟩
   rw [okn hk] at o
   exact (l1.hole k h).2 e o.2
 ·rw [okn hk] at o
  exact (le.hole k hho).2 e o.2
 ·have upd:∀{k blk},(H.upd id (.cells cs m)).get k=some blk→(k=id∧blk=.cells cs m)∨(k≠id∧k≠H.next∧H.get k=some blk∧(H.add (.cells cs m)).get k=some blk):=fun {k blk} h=>by
   simp only [Hp.get_upd] at h
   split at h
   ·rename_i e;injection h with h;exact .inl ⟨e,h.symm⟩
   ·rename_i e
    have hkn:k≠H.next:=by have:=S.lt k blk h;omega
    exact .inr ⟨e,hkn,h,by simp only [Hp.get_add];rw [if_neg hkn];exact h⟩
  have new:(H.add (.cells cs m)).get H.next=some (.cells cs m):=by simp
  refine ⟨fun k e o=>?_,fun k h=>?_,fun k blk h=>?_,S'.fz,S'.ic,fun k cs' m' h=>?_,fun k cs' m' h e h1 h2=>?_,fun k es h=>?_,
   fun k k' e e' cs1 m1 cs2 m2 g1 g2 a1 a2 b1 b2 hpl=>?_,fun k cs1 m1 e e' h a1 a2 b1 b2 hpl=>?_,fun k k' es es' g1 g2 hpl=>?_,S'.tb⟩
  ·by_cases hk:k=id
   ·subst hk
    rw [oki] at o
    obtain ⟨h1,h2⟩:=S'.ok _ e o
    refine ⟨hid.1,fun cs' m' hg=>?_⟩
    rcases upd hg with ⟨_,hb⟩ | ⟨hb,_⟩
    ·injection hb with hb _;subst hb;exact h2 _ _ new
    ·exact absurd rfl hb
   ·rw [okn hk] at o
    obtain ⟨h1,h2⟩:=S'.ok k e o.2
    refine ⟨by simp at h1 ⊢;have:=o.1;omega,fun cs' m' hg=>?_⟩
    rcases upd hg with ⟨hb,_⟩ | ⟨_,_,_,hb⟩
    ·exact absurd hb hk
    ·exact h2 _ _ hb
  ·obtain ⟨h1,h2⟩:=S.hole k h.1
   exact ⟨h1,by simp only [Hp.get_upd];rw [if_neg h.2];exact h2⟩
  ·rcases upd h with ⟨rfl,_⟩ | ⟨_,_,hb,_⟩
   ·exact hid.1
   ·exact S.lt k blk hb
  ·rcases upd h with ⟨rfl,hb⟩ | ⟨_,_,_,hb⟩
   ·injection hb with x y;subst x;subst y;exact S'.le _ _ _ new
   ·exact S'.le k cs' m' hb
  ·rcases upd h with ⟨rfl,hb⟩ | ⟨hk,_,hb0,hb⟩
   ·injection hb with x y;subst x;subst y
    obtain ⟨⟨arr,t,fr,q1,q2,q3,q4⟩,q5⟩:=S'.cells _ _ _ new e h1 h2
    refine ⟨⟨arr,t,fr,?_,?_,fun j v a b=>?_,q4⟩,?_⟩
    ·rw [pli];exact q1
    ·rw [pli];exact q2
    ·rw [pli];exact mv0 (hcs v (kY b)) (q3 j v a b)
    ·rw [pli];exact q5
   ·obtain ⟨⟨arr,t,fr,q1,q2,q3,q4⟩,q5⟩:=S'.cells k cs' m' hb e h1 h2
    refine ⟨⟨arr,t,fr,?_,?_,fun j v a b=>?_,q4⟩,?_⟩
    ·rw [pln hk];exact q1
    ·rw [pln hk];exact q2
    ·rw [pln hk]
     obtain ⟨⟨arr0,t0,fr0,p1,p2,p3,p4⟩,p5⟩:=S.cells k cs' m' hb0 e h1 h2
     exact mv0 (p3 j v a b).okv (q3 j v a b)
    ·rw [pln hk];exact q5
  ·rcases upd h with ⟨_,hb⟩ | ⟨hk,_,hb0,hb⟩
   ·cases hb
   ·obtain ⟨⟨x,q1,q2⟩,q5⟩:=S'.maps k es hb
    obtain ⟨⟨x0,p1,p2⟩,p5⟩:=S.maps k es hb0
    refine ⟨⟨x,?_,(q2.reok κ'.hole p2.okv).move mvo⟩,?_⟩
    ·rw [pln hk];exact q1
    ·rw [pln hk];exact q5
  ·rcases upd g1 with ⟨rfl,x1⟩ | ⟨k1,n1,_,x1⟩ <;> rcases upd g2 with ⟨rfl,x2⟩ | ⟨k2,n2,_,x2⟩
   ·rfl
   ·injection x1 with x y;subst x;subst y
    rw [pli,pln k2] at hpl
    exact absurd (S'.sep _ _ _ _ _ _ _ _ new x2 a1 a2 b1 b2 hpl) (Ne.symm n2)
   ·injection x2 with x y;subst x;subst y
    rw [pli,pln k1] at hpl
    exact absurd (S'.sep _ _ _ _ _ _ _ _ x1 new a1 a2 b1 b2 hpl) n1
   ·rw [pln k1,pln k2] at hpl
    exact S'.sep _ _ _ _ _ _ _ _ x1 x2 a1 a2 b1 b2 hpl
  ·rcases upd h with ⟨rfl,x1⟩ | ⟨k1,n1,_,x1⟩
   ·injection x1 with x y;subst x;subst y
    rw [pli,pli] at hpl ⊢
    exact S'.base _ _ _ _ _ new a1 a2 b1 b2 hpl
   ·rw [pln k1,pln k1] at hpl ⊢
    exact S'.base _ _ _ _ _ x1 a1 a2 b1 b2 hpl
  ·rcases upd g1 with ⟨_,x1⟩ | ⟨k1,n1,_,x1⟩
   ·cases x1
   ·rcases upd g2 with ⟨_,x2⟩ | ⟨k2,n2,_,x2⟩
    ·cases x2
    ·rw [pln k1,pln k2] at hpl
     exact S'.sepm _ _ _ _ x1 x2 hpl
 ·cases r with
  | p _ _ _ o=>
   have:=VR.p (κ:=κ2) id off e (by rw [oki];exact o)
   rw [pli] at this;exact this
 ·cases r with
  | sl _ _ _ _ _ cap n' a o z l x y hn hr ha=>
   exact .sl (κ:=κ2) id off e n sz cap n' a (by rw [oki];exact o) z l x y (by rw [pli];exact hn) (by rw [pli];exact hr) (by rw [pli];exact ha)
def otA:AO→List Nat
 | .t n=>[n]
 | .c _=>[]
def yey:List AO→List Nat
 | []=>[]
 | x::r=>otA x++yey r
def otO:Option AO→List Nat
 | some x=>otA x
 | none=>[]
def otP (ps:List (Nat × Nat × AO)):List Nat:=yey (ps.map fun p=>p.2.2)
def ylt:AOp→List Nat
 | .mov x | .box x | .boxf x | .slc0 _ x | .b2s x | .s2b x | .s2w x | .load _ _ x | .nilc x | .un _ x | .conv _ x | .fadr _ x | .fld _ _ _ x | .ext _ x | .len _ x=>otA x
 | .pick c a b=>otA c++otA a++otA b
 | .new _ | .bz _ | .no | .mkm=>[]
 | .lkm _ _ m k=>otA m++otA k
 | .upm m k x=>otA m++otA k++otA x
 | .rgm x | .enm x | .boxT _ _ x | .nilq x=>otA x
 | .build _ ps | .bsl _ _ ps | .bslT _ _ _ ps | .bfz _ _ _ ps=>otP ps
 | .store _ a x | .bin _ a x | .eqk _ _ a x | .mksl _ _ _ a x | .iad _ a x | .iadA _ _ a x | .idx a x | .app _ _ a x | .appT _ _ _ a x | .eqa _ _ a x=>otA a++otA x
 | .mkfn _ xs | .mkfb _ xs | .mx xs | .mn xs=>yey xs
 | .slc _ x lo hi | .sls x lo hi=>otA x++otO lo++otO hi
def otDo:ADo→List Nat
 | .op o=>ylt o
 | .call _ xs=>yey xs
 | .nxt x=>otA x
 | .callv f xs=>otA f++yey xs
def otS (s:AStep):List Nat:=otDo s.d++(match s.g with | some (t,_)=>[t] | none=>[])
def y4c (l:List Nat) (F2 F:Fr):Prop:=∀t,t∈l→y6o F2 t=y6o F t
theorem y4c.left {a b:List Nat} {F2 F:Fr} (h:y4c (a++b) F2 F):y4c a F2 F:=fun t ht=>h t (by simp [ht])
theorem y4c.right {a b:List Nat} {F2 F:Fr} (h:y4c (a++b) F2 F):y4c b F2 F:=fun t ht=>h t (by simp [ht])
theorem y4c.ev {x:AO} {F2 F:Fr} (h:y4c (otA x) F2 F):ev F2 x=ev F x:=by
 cases x with
 | t n=>exact h n (by simp [otA])
 | c v=>rfl
theorem y4c.evs:∀{xs:List AO} {F2 F:Fr},y4c (yey xs) F2 F→evs F2 xs=evs F xs
 | [],_,_,_=>rfl
 | x::r,F2,F,h=>by simp only [Am.evs,(y4c.left h).ev,y4c.evs (y4c.right h)]
theorem y4c.evp {ps:List (Nat × Nat × AO)} {F2 F:Fr} (h:y4c (otP ps) F2 F):evp F2 ps=evp F ps:=by
 induction ps with
 | nil=>rfl
 | cons p r ih=>
  have h':y4c (otA p.2.2++otP r) F2 F:=h
  simp only [Am.evp,List.map_cons,h'.left.ev]
  have:=ih h'.right
  simp only [Am.evp] at this
  rw [this]
theorem y4c.bound {d:Int} {o:Option AO} {F2 F:Fr} (h:y4c (otO o) F2 F):bound F2 d o=bound F d o:=by
 cases o with
 | none=>rfl
 | some x=>simp only [Am.bound,(show y4c (otA x) F2 F from h).ev]
theorem yiu {op:AOp} {F2 F:Fr} (h:y4c (ylt op) F2 F) (H:Hp):y2c op F2 H=y2c op F H:=by
 cases op <;> simp only [ylt] at h
 case new=>rfl
 case bz=>rfl
 case no=>rfl
 case mkm=>rfl
 case lkm=>simp only [y2c,h.left.ev,h.right.ev]
 case upm=>simp only [y2c,h.left.left.ev,h.left.right.ev,h.right.ev]
 case rgm=>simp only [y2c,h.ev]
 case enm=>simp only [y2c,h.ev]
 case boxf=>simp only [y2c,h.ev]
 case slc0=>simp only [y2c,h.ev]
 case b2s=>simp only [y2c,h.ev]
 case s2b=>simp only [y2c,h.ev]
 case s2w=>simp only [y2c,h.ev]
 case iadA=>simp only [y2c,h.left.ev,h.right.ev]
 case mov=>simp only [y2c,h.ev]
 case box=>simp only [y2c,h.ev]
 case load=>simp only [y2c,h.ev]
 case nilc=>simp only [y2c,h.ev]
 case un=>simp only [y2c,h.ev]
 case conv=>simp only [y2c,h.ev]
 case fadr=>simp only [y2c,h.ev]
 case fld=>simp only [y2c,h.ev]
 case ext=>simp only [y2c,h.ev]
 case len=>simp only [y2c,h.ev]
 case pick=>simp only [y2c,h.left.left.ev,h.left.right.ev,h.right.ev]
 case build=>simp only [y2c,h.evp]
 case bsl=>simp only [y2c,h.evp]
 case bslT=>simp only [y2c,h.evp]
 case bfz=>simp only [y2c,h.evp]
 case store=>simp only [y2c,h.left.ev,h.right.ev]
 case bin=>simp only [y2c,h.left.ev,h.right.ev]
 case eqk=>simp only [y2c,h.left.ev,h.right.ev]
 case eqa=>simp only [y2c,h.left.ev,h.right.ev]
 case mksl=>simp only [y2c,h.left.ev,h.right.ev]
 case iad=>simp only [y2c,h.left.ev,h.right.ev]
 case idx=>simp only [y2c,h.left.ev,h.right.ev]
 case app=>simp only [y2c,h.left.ev,h.right.ev]
 case appT=>simp only [y2c,h.left.ev,h.right.ev]
 case mkfn=>simp only [y2c,h.evs]
 case mkfb=>simp only [y2c,h.evs]
 case boxT=>simp only [y2c,h.ev]
 case nilq=>simp only [y2c,h.ev]
 case mx=>simp only [y2c,h.evs]
 case mn=>simp only [y2c,h.evs]
 case slc=>simp only [y2c,h.left.left.ev,h.left.right.bound,h.right.bound]
 case sls=>simp only [y2c,h.left.left.ev,h.left.right.bound,h.right.bound]
inductive Cls where
 | pure | rd | eff
 deriving DecidableEq
def yla (op:AOp) (F:Fr):Cls:=
 match op with
 | .load _ _ a=>match ev F a with
  | .fp _ _=>.pure
  | _=>.rd
 | .store _ _ _ | .new _ | .box _ | .bsl _ _ _ | .bslT _ _ _ _ | .mksl _ _ _ _ _ | .app _ _ _ _ | .appT _ _ _ _ _ | .s2b _ | .s2w _=>.eff
 | .b2s _ | .lkm _ _ _ _ | .enm _=>.rd
 | .mkm | .upm _ _ _ | .rgm _ | .boxT _ _ _=>.eff
 | _=>.pure
theorem ykb {op:AOp} {F:Fr} {H H':Hp} {v:V} (hc:yla op F=.pure) (h:y2c op F H=some (v,H')):H'=H∧∀H2,y2c op F H2=some (v,H2):=by
 cases op <;> simp only [yla] at hc <;> first | (cases hc;done) | skip
 case no=>simp only [y2c] at h;cases h
 case load agg n a=>
  simp only [y2c] at h ⊢
  cases hv:ev F a <;> simp only [hv] at hc <;> first | (cases hc;done) | skip
  simp only [hv,rd] at h ⊢
  split at h
  ·rename_i vs hvs
   cases ho:one agg vs with
   | none=>simp [ho] at h
   | some u=>
    simp [ho] at h
    obtain ⟨h1,h2⟩:=h;subst h1;subst h2
    exact ⟨rfl,fun H2=>by simp [ho,hvs]⟩
  ·cases h
 all_goals simp only [y2c] at h ⊢
 all_goals repeat' (split at h <;> first | (cases h;done) | skip)
 all_goals first
  | (injection h with h;injection h with h1 h2;subst h1;subst h2;exact ⟨rfl,fun H2=>by first | rfl | simp_all⟩)
  | (rw [kd] at h;obtain ⟨x,hx,h⟩:=h;injection h with h1 h2;subst h1;subst h2;exact ⟨rfl,fun H2=>by simp_all⟩)
theorem cls_rd {op:AOp} {F:Fr} {H H':Hp} {v:V} (hc:yla op F=.rd) (h:y2c op F H=some (v,H')):H'=H:=by
 cases op <;> simp only [yla] at hc <;> first | (cases hc;done) | skip
 case load=>
  simp only [y2c] at h
  split at h
  ·rename_i vs hvs
   rw [kd] at h;obtain ⟨x,hx,h⟩:=h;injection h with h1 h2;exact h2.symm
  ·cases h
 case lkm=>
  simp only [y2c] at h
  repeat' (split at h <;> first | (cases h;done) | skip)
  all_goals (injection h with h;injection h with h1 h2;exact h2.symm)
 case enm=>
  simp only [y2c] at h
  repeat' (split at h <;> first | (cases h;done) | skip)
  all_goals (injection h with h;injection h with h1 h2;exact h2.symm)
 case b2s=>
  simp only [y2c] at h
  split at h
  ·split at h
   ·cases h
   ·rw [kd] at h;obtain ⟨x,hx,h⟩:=h;injection h with h1 h2;exact h2.symm
  ·cases h
structure AlR where
 sl:Option (Nat × Nat)
 cs:List V
 m:Nat
def AlR.val (r:AlR) (id:Nat):V:=match r.sl with
 | none=>.p (some (id,0,r.cs.length))
 | some (n,sz)=>.sl (some (id,0,r.cs.length)) n sz
def bare:V→Bool
 | .b _ | .i _ _ | .s _ | .p none | .sl none _ _ | .mp none | .nf | .nifc=>true
 | _=>false
theorem ypj {v:V} (h:bare v=true) (ok:Nat→Nat→Prop):Okv ok v:=by
 cases v with
 | b x=>exact .b x
 | i k n=>exact .i k n
 | s x=>exact .s x
 | p a=>cases a with
  | none=>exact .p0
  | some a=>simp [bare] at h
 | sl a n sz=>cases a with
  | none=>exact .sl0 n sz
  | some a=>simp [bare] at h
 | mp a=>cases a with
  | none=>exact .mp0
  | some a=>simp [bare] at h
 | nf=>exact .nf
 | nifc=>exact .nifc
 | _=>simp [bare] at h
def alO (o:AOp) (F:Fr):Option AlR:=match o with
 | .new zs=>if zs.all bare then some ⟨none,zs,zs.length⟩ else none
 | .box (.t x)=>match yag (y6o F x) with
  | some cs=>some ⟨none,cs,cs.length⟩
  | none=>none
 | .mksl sz bytes zero l c=>match ev F l,ev F c with
  | .i _ n,.i _ m=>if (0≤n∧n≤m∧m*bytes≤y4x∧0<bytes∧0<sz∧zero.length=sz)∧(y7x n.toNat zero).length=n.toNat*sz∧(y7x n.toNat zero).all bare=true then
    some ⟨some (n.toNat,sz),y7x n.toNat zero,n.toNat*sz⟩ else none
  | _,_=>none
 | _=>none
theorem alO_step {o:AOp} {F:Fr} {r:AlR} (h:alO o F=some r) (H:Hp):y2c o F H=some (r.val H.next,H.add (.cells r.cs r.m)):=by
 cases o <;> simp only [alO,reduceCtorEq] at h
 case new zs=>
  split at h
  ·injection h with h;subst h;rfl
  ·cases h
 case box x=>
  cases x with
  | c v=>simp at h
  | t x=>
   simp only [y2c,ev]
   simp only at h
   split at h
   ·rename_i cs hc;injection h with h;subst h;rw [hc];rfl
   ·cases h
 case mksl sz bytes zero l c=>
  simp only [y2c]
  split at h
  ·rename_i k1 n k2 m h1 h2
   split at h
   ·rename_i hc
    injection h with h;subst h
    rw [h1,h2]
    simp only [if_pos hc.1,AlR.val,hc.2.1]
   ·cases h
  ·cases h
theorem ylb {ok:Nat→Nat→Prop} {v:V} {cs:List V} (h:yag v=some cs) (hv:Okv ok v):∀u∈cs,Okv ok u:=by
 unfold yag at h
 split at h
 ·split at h
  ·injection h with h;subst h
   cases hv with
   | agg _ k=>exact fun u hu=>let ⟨i,hi⟩:=List.mem_iff_getElem?.1 hu;k i u hi
  ·cases h
 ·split at h
  ·injection h with h;subst h
   intro u hu
   simp at hu;subst hu;exact hv
  ·cases h
theorem ypu {o:AOp} {F:Fr} {r:AlR} (h:alO o F=some r) {ok:Nat→Nat→Prop} (hF:∀x∈ylt o,Okv ok (y6o F x)):∀v∈r.cs,Okv ok v:=by
 cases o <;> simp only [alO,reduceCtorEq] at h
 case new zs=>
  split at h
  ·rename_i hc;injection h with h;subst h
   exact fun v hv=>ypj (List.all_eq_true.1 hc v hv) ok
  ·cases h
 case box x=>
  cases x with
  | c v=>simp at h
  | t x=>
   simp only at h
   split at h
   ·rename_i cs hc;injection h with h;subst h
    exact ylb hc (hF x (by simp [ylt,otA]))
   ·cases h
 case mksl sz bytes zero l c=>
  split at h
  ·split at h
   ·rename_i hc;injection h with h;subst h
    exact fun v hv=>ypj (List.all_eq_true.1 hc.2.2 v hv) ok
   ·cases h
  ·cases h
theorem ypt {o:AOp} {F2 F:Fr} (h:y4c (ylt o) F2 F):alO o F2=alO o F:=by
 cases o <;> simp only [alO]
 case box x=>
  cases x with
  | c v=>rfl
  | t x=>simp only [alO];rw [h x (by simp [ylt,otA])]
 case mksl=>simp only [ylt] at h;simp only [h.left.ev,h.right.ev]
end Go.Proofs.YtikpijbeobeckaaGreatDoor.Am
