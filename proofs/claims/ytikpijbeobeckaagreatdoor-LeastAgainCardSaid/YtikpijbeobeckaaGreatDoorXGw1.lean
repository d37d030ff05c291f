/- Part 1. -/
import Derived.Laws.IdiomCopy
import Derived.Test.YtikpijbeobeckaaGreatDoorXGw0
set_option linter.unusedSimpArgs false
set_option linter.unusedVariables false
namespace Go.Proofs.YtikpijbeobeckaaGreatDoor.Am
open Go Go.RowKit
@[simp] theorem Hp.get_upd (H:Hp) (id:Nat) (b:Blk) (k:Nat):(H.upd id b).get k=if k=id then some b else H.get k:=rfl
@[simp] theorem Hp.next_upd (H:Hp) (id:Nat) (b:Blk):(H.upd id b).next=H.next:=rfl
@[simp] theorem Hp.get_add (H:Hp) (b:Blk) (k:Nat):(H.add b).get k=if k=H.next then some b else H.get k:=rfl
@[simp] theorem Hp.next_add (H:Hp) (b:Blk):(H.add b).next=H.next+1:=rfl
def rd (H:Hp) (a:V) (n:Nat):Option (List V):=
 match a with
 | .p (some (id,off,ext))=>
  match H.get id with
  | some (.cells cs m)=>if m≤ext∧off+n≤ext then some ((cs.drop off).take n) else none
  | _=>none
 | .fp cs off=>if off+n≤cs.length then some ((cs.drop off).take n) else none
 | _=>none
theorem y4h (b o n:Nat):(⟨b,o,none⟩:Addr).add n=⟨b,o+n,none⟩:=by
 unfold Addr.add;split <;> simp_all
theorem yao {w:World} {b j:Nat} {arr:Array Value} {t:TypeId} {fr:Nat × Nat} (h:w.heap[b]?=some (.cells arr t fr)) (hj:j<arr.size):w.cell? ⟨b,j,none⟩=some (arr.getD j undef):=by
 simp [World.cell?,h,hj,kH]
theorem Placed.cell {κ:K} {id e:Nat} {cs:List V} (h:Placed κ id e cs) {j:Nat} (hj:j<e):∃c,κ.w.cell? ⟨(κ.pl id e).1,(κ.pl id e).2+j,none⟩=some c∧∀v,cs[j]?=some v→VR κ v c:=by
 obtain ⟨⟨arr,t,fr,hb,hs,hv,_⟩,_⟩:=h
 exact ⟨_,yao hb (by omega),fun v hv'=>hv j v hj hv'⟩
theorem rd_ok {κ:K} {H:Hp} (S:Sim κ H) {a:V} {n:Nat} {vs:List V} (h:rd H a n=some vs) {ca:Value} (ha:VR κ a ca):
  ∃ad:Addr,∃l:List Value,ca=.pointer (some ad)∧l.length=n∧vs.length=n∧VRs κ vs l∧∀(j:Nat) v,l[j]?=some v→κ.w.cell? (ad.add j)=some v:=by
 unfold rd at h
 split at h
 ·rename_i id off ext
  split at h
  ·rename_i cs m hg
   split at h
   ·rename_i hb
    injection h with h;subst h
    cases ha with
    | p _ _ _ ok=>
     have hl:=(S.ok id ext ok).2 cs m hg
     have pl:=S.cells id cs m hg ext hb.1 hl
     have key:∀j:Nat,j<n→∃c,κ.w.cell? ⟨(κ.pl id ext).1,(κ.pl id ext).2+(off+j),none⟩=some c∧∀v,cs[off+j]?=some v→VR κ v c:=fun j hj=>pl.cell (by omega)
     let f:Nat→Value:=fun j=>(κ.w.cell? ⟨(κ.pl id ext).1,(κ.pl id ext).2+(off+j),none⟩).getD undef
     refine ⟨_,(List.range n).map f,rfl,by simp,by simp;omega,⟨by simp;omega,fun j v hj=>?_⟩,fun j v hj=>?_⟩
     ·rw [kj] at hj
      split at hj
      ·rename_i hjn
       rw [List.getElem?_drop] at hj
       obtain ⟨c,hc,hv⟩:=key j hjn
       have:((List.range n).map f).getD j undef=c:=by simp [List.getD,hjn,f,hc]
       rw [this];exact hv v hj
      ·cases hj
     ·by_cases hjn:j<n
      ·simp [hjn] at hj
       obtain ⟨c,hc,_⟩:=key j hjn
       rw [y4h,ki,hc,←hj]
       simp [f,hc]
      ·simp [hjn] at hj
   ·cases h
  ·cases h
 ·rename_i cs off
  split at h
  ·rename_i hb
   injection h with h;subst h
   cases ha with
   | fp _ _ b o cv hf hc hv=>
    refine ⟨_,(List.range n).map fun j=>cv (off+j),rfl,by simp,by simp;omega,⟨by simp;omega,fun j v hj=>?_⟩,fun j v hj=>?_⟩
    ·rw [kj] at hj
     split at hj
     ·rename_i hjn
      rw [List.getElem?_drop] at hj
      have:((List.range n).map fun j=>cv (off+j)).getD j undef=cv (off+j):=by simp [List.getD,hjn]
      rw [this];exact hv _ v hj
     ·cases hj
    ·by_cases hjn:j<n
     ·simp [hjn] at hj
      subst hj
      rw [y4h,ki]
      exact hc (off+j) _ (kC (by omega))
     ·simp [hjn] at hj
  ·cases h
 ·cases h
theorem K.drew_le (κ:K):κ.Le { κ with w:=κ.w.drew }:=⟨fun _ _ h=>⟨h,rfl⟩,fun _ h=>⟨h,rfl⟩,fun _ h=>⟨h,rfl⟩,fun _ h=>.inl h,fun _ _ h=>h,kG _,rfl,rfl,rfl,fun _ h=>⟨h,fun _ o=>o⟩,rfl,fun _ r h=>⟨r,h⟩⟩
theorem Sim.drew {κ:K} {H:Hp} (S:Sim κ H):Sim { κ with w:=κ.w.drew } H:=by
 have le:=K.drew_le κ
 refine ⟨S.ok,S.hole,S.lt,S.fz,S.ic,S.le,fun id cs m hg e h1 h2=>?_,fun id es hg=>?_,S.sep,S.base,S.sepm,S.tb.mono le⟩
 ·obtain ⟨⟨arr,t,fr,hb,hs,hv,hf⟩,hz⟩:=S.cells id cs m hg e h1 h2
  exact ⟨⟨arr,t,fr,hb,hs,fun j v a b=>(hv j v a b).mono le,hf⟩,hz⟩
 ·obtain ⟨⟨x,hb,ho⟩,hz⟩:=S.maps id es hg
  exact ⟨⟨x,hb,ho.mono le⟩,hz⟩
structure Hp.Sub (H' H:Hp):Prop where
 get:∀id,H'.get id=Option.none∨H'.get id=H.get id
 next:H.next≤H'.next
theorem Sim.weak {κ:K} {H H':Hp} (S:Sim κ H) (h:H'.Sub H):Sim κ H':=by
 have back:∀{id blk},H'.get id=some blk→H.get id=some blk:=fun {id blk} hg=>by
  rcases h.get id with h0 | h0
  ·rw [h0] at hg;cases hg
  ·exact h0▸hg
 exact ⟨fun id e o=>⟨Nat.lt_of_lt_of_le (S.ok id e o).1 h.next,fun cs m hg=>(S.ok id e o).2 cs m (back hg)⟩,
  fun id ho=>⟨Nat.lt_of_lt_of_le (S.hole id ho).1 h.next,by
   rcases h.get id with h0 | h0
   ·exact h0
   ·rw [h0];exact (S.hole id ho).2⟩,
  fun id blk hg=>Nat.lt_of_lt_of_le (S.lt id blk (back hg)) h.next,S.fz,S.ic,fun id cs m hg=>S.le id cs m (back hg),fun id cs m hg=>S.cells id cs m (back hg),fun id es hg=>S.maps id es (back hg),
  fun id id' e e' cs m cs' m' h1 h2=>S.sep id id' e e' cs m cs' m' (back h1) (back h2),fun id cs m e e' h1=>S.base id cs m e e' (back h1),fun id id' es es' h1 h2=>S.sepm id id' es es' (back h1) (back h2),S.tb⟩
theorem lt_of_some {w:World} {b:Nat} {o:Obj} (h:w.heap[b]?=some o):b<w.heap.size:=by
 rcases Nat.lt_or_ge b w.heap.size with x | x
 ·exact x
 ·simp [Array.getElem?_eq_none x] at h
def K.new (κ:K) (id n:Nat) (o:Obj):K:=
 { pl:=fun k e=>if k=id then (κ.w.heap.size,0) else κ.pl k e,ok:=fun k e=>κ.ok k e∨(k=id∧e≤n),fz:=κ.fz,ic:=κ.ic,hole:=κ.hole,base:=κ.base,w:=κ.w.alloc o }
theorem y5c {w:World} {o:Obj} {b:Nat} {n:Nat × TypeId} (h:y2q w b=some n):y2q (w.alloc o) b=some n:=by
 unfold y2q at *
 have hb:b<w.heap.size:=by
  rcases Nat.lt_or_ge b w.heap.size with x | x
  ·exact x
  ·simp [Array.getElem?_eq_none x] at h
 rw [Below.heap_alloc w o b hb];exact h
theorem K.new_le {κ:K} {H:Hp} (S:Sim κ H) (n:Nat) (o:Obj):κ.Le (κ.new H.next n o):=by
 refine ⟨fun id e ok=>⟨.inl ok,?_⟩,fun b h=>⟨h,Below.heap_alloc κ.w o b (S.fz b h)⟩,fun b h=>⟨h,Below.heap_alloc κ.w o b (S.fz b (S.ic b h))⟩,fun _ h=>.inl h,fun b n h=>y5c h,by simp [K.new],rfl,rfl,rfl,fun id h=>⟨h,fun e o=>o.elim (fun x=>x) (fun x=>by have:=(S.hole id h).1;omega)⟩,rfl,fun b r h=>⟨r,(Below.heap_alloc κ.w o b (lt_of_some h)).trans h⟩⟩
 have:=(S.ok id e ok).1
 show (if id=H.next then _ else _)=_
 rw [if_neg (by omega)]
theorem y23 (w:World) (o:Obj):(w.alloc o).heap[w.heap.size]?=some o:=by
 show (w.heap.push o)[w.heap.size]?=_
 simp
theorem Sim.newF {κ:K} {H:Hp} (S:Sim κ H) (cs:List V) (arr:Array Value) (t:TypeId) (fr:Nat × Nat) (hfr:fr.2≤fr.1∨(arr.size≤fr.1∧t=5)) (hl:cs.length≤arr.size) (hv:∀(j:Nat) v,cs[j]?=some v→VR κ v (arr.getD j undef)):
  Sim (κ.new H.next cs.length (.cells arr t fr)) (H.add (.cells cs cs.length)):=by
 have le:=K.new_le S cs.length (.cells arr t fr)
 have nope:∀{id blk},H.get id=some blk→id≠H.next:=fun {id blk} h=>Nat.ne_of_lt (S.lt id blk h)
 have plk:∀{id e},id≠H.next→(κ.new H.next cs.length (.cells arr t fr)).pl id e=κ.pl id e:=fun {id e} h=>by show (if id=H.next then _ else _)=_;rw [if_neg h]
 have pln:∀{e},(κ.new H.next cs.length (.cells arr t fr)).pl H.next e=(κ.w.heap.size,0):=fun {e}=>by show (if H.next=H.next then _ else _)=_;rw [if_pos rfl]
 have old:∀{id cs' m e},H.get id=some (.cells cs' m)→m≤e→e≤cs'.length→(κ.pl id e).1<κ.w.heap.size:=fun {id cs' m e} hg h1 h2=>by
  obtain ⟨⟨arr,t,fr',hb,_⟩,_⟩:=S.cells id cs' m hg e h1 h2
  exact lt_of_some hb
 refine ⟨fun id e=>?_,fun id ho=>?_,fun id blk hg=>?_,fun b h=>?_,S.ic,fun id cs' m hg=>?_,fun id cs' m hg e h1 h2=>?_,fun id es hg=>?_,fun id id' e e' cs1 m1 cs2 m2 g1 g2 a1 a2 b1 b2 hp=>?_,fun id cs' m e e' hg a1 a2 b1 b2 hp=>?_,fun id id' es es' g1 g2 hp=>?_,S.tb.mono le⟩
 ·rintro (h | ⟨rfl,h⟩)
  ·obtain ⟨h1,h2⟩:=S.ok id e h
   refine ⟨by simp;omega,fun cs' m hg=>?_⟩
   simp only [Hp.get_add] at hg
   rw [if_neg (by omega)] at hg
   exact h2 cs' m hg
  ·refine ⟨by simp,fun cs' m hg=>?_⟩
   simp only [Hp.get_add,if_true] at hg
   injection hg with hg;injection hg with hg _;subst hg;exact h
 ·obtain ⟨h1,h2⟩:=S.hole id ho
  exact ⟨by simp;omega,by simp only [Hp.get_add];rw [if_neg (by omega)];exact h2⟩
 ·simp only [Hp.get_add] at hg
  simp only [Hp.next_add]
  split at hg
  ·omega
  ·have:=S.lt id blk hg;omega
 ·have:=S.fz b h;simp [K.new];omega
 ·simp only [Hp.get_add] at hg
  split at hg
  ·injection hg with hg;injection hg with h1 h2;subst h1;subst h2;exact kG _
  ·exact S.le id cs' m hg
 ·simp only [Hp.get_add] at hg
  split at hg
  ·rename_i hid
   subst hid
   injection hg with hg;injection hg with x y;subst x;subst y
   refine ⟨⟨arr,t,fr,?_,?_,fun j v hj hv'=>?_,hfr⟩,?_⟩
   ·rw [pln];exact y23 κ.w _
   ·rw [pln];simp;omega
   ·rw [pln];simp only [Nat.zero_add];exact (hv j v hv').mono le
   ·rw [pln];intro hf;have:=S.fz _ hf;exact Nat.lt_irrefl _ this
  ·obtain ⟨⟨arr',t',fr',hb,hs,hv',hf⟩,hz⟩:=S.cells id cs' m hg e h1 h2
   refine ⟨⟨arr',t',fr',?_,?_,fun j v a b=>?_,hf⟩,?_⟩
   ·rw [plk (nope hg)];exact (Below.heap_alloc κ.w _ _ (lt_of_some hb)).trans hb
   ·rw [plk (nope hg)];exact hs
   ·rw [plk (nope hg)];exact (hv' j v a b).mono le
   ·rw [plk (nope hg)];exact hz
 ·simp only [Hp.get_add] at hg
  split at hg
  ·cases hg
  ·obtain ⟨⟨x,hb,ho⟩,hz⟩:=S.maps id es hg
   refine ⟨⟨x,?_,ho.mono le⟩,?_⟩
   ·rw [plk (nope hg)];exact (Below.heap_alloc κ.w _ _ (lt_of_some hb)).trans hb
   ·rw [plk (nope hg)];exact hz
 ·simp only [Hp.get_add] at g1 g2
  split at g1 <;> split at g2
  ·rename_i x y;rw [x,y]
  ·rename_i x y
   exfalso
   rw [x,pln,plk y] at hp
   have:=old g2 b1 b2
   omega
  ·rename_i x y
   exfalso
   rw [y,pln,plk x] at hp
   have:=old g1 a1 a2
   omega
  ·rename_i x y
   rw [plk x,plk y] at hp
   exact S.sep id id' e e' cs1 m1 cs2 m2 g1 g2 a1 a2 b1 b2 hp
 ·simp only [Hp.get_add] at hg
  split at hg
  ·rename_i x;subst x;rw [pln,pln]
  ·rename_i x
   rw [plk x,plk x] at hp ⊢
   exact S.base id cs' m e e' hg a1 a2 b1 b2 hp
 ·simp only [Hp.get_add] at g1 g2
  split at g1
  ·cases g1
  ·split at g2
   ·cases g2
   ·rename_i x y
    rw [plk x,plk y] at hp
    exact S.sepm id id' es es' g1 g2 hp
theorem Sim.new {κ:K} {H:Hp} (S:Sim κ H) (cs:List V) (arr:Array Value) (t:TypeId) (hl:cs.length≤arr.size) (hv:∀(j:Nat) v,cs[j]?=some v→VR κ v (arr.getD j undef)):
  Sim (κ.new H.next cs.length (.cells arr t (0,0))) (H.add (.cells cs cs.length)):=S.newF cs arr t (0,0) (.inl (kG _)) hl hv
theorem K.new_ok (κ:K) (id n:Nat) (o:Obj) {e:Nat} (h:e≤n):(κ.new id n o).ok id e:=.inr ⟨rfl,h⟩
theorem K.new_pl (κ:K) (id n:Nat) (o:Obj) (e:Nat):(κ.new id n o).pl id e=(κ.w.heap.size,0):=by simp [K.new]
def y3w:V→Bool
 | .junk | .agg _ | .tup _=>false
 | _=>true
theorem VR.oneCell {κ:K} {v:V} {c:Value} (h:VR κ v c) (hc:y3w v=true):c.oneCell'=true:=by
 cases h <;> first | rfl | (simp [y3w] at hc;done) | (rename_i h0;cases h0 <;> rfl)
theorem y8y (w:World) (a:Addr) (u:Value) (b:Nat):y2q (w.setCell a u) b=y2q w b:=by
 simp only [y2q,World.setCell,Array.getElem?_modify]
 by_cases h:a.block=b
 ·rw [if_pos h]
  cases hh:w.heap[b]? with
  | none=>rfl
  | some o=>cases o <;> simp;split <;> simp
 ·rw [if_neg h]
theorem yci {w:World} {b:Nat} {r:Loop} (a:Addr) (u:Value) (h:w.heap[b]?=some (Obj.loop r)):(w.setCell a u).heap[b]?=some (Obj.loop r):=by
 simp only [World.setCell,Array.getElem?_modify]
 by_cases e:a.block=b
 ·rw [if_pos e,h];rfl
 ·rw [if_neg e,h]
theorem K.set_le (κ:K) (a:Addr) (u:Value) (h:¬κ.fz a.block) (hic:∀b,κ.ic b→κ.fz b):κ.Le { κ with w:=κ.w.setCell a u }:=
 ⟨fun _ _ h=>⟨h,rfl⟩,fun b hb=>⟨hb,Below.heap_setCell κ.w a u b (fun e=>h (e▸hb))⟩,fun b hb=>⟨hb,Below.heap_setCell κ.w a u b (fun e=>h (e▸hic b hb))⟩,fun _ h=>.inl h,fun b n hn=>by rw [y8y];exact hn,by simp,rfl,rfl,rfl,fun _ h=>⟨h,fun _ o=>o⟩,rfl,fun b r h=>⟨r,yci a u h⟩⟩
theorem y7k {w:World} {b o:Nat} {arr:Array Value} {t:TypeId} {fr:Nat × Nat} (u:Value) (h:w.heap[b]?=some (.cells arr t fr)):
  (w.setCell ⟨b,o,none⟩ u).heap[b]?=some (.cells (arr.setIfInBounds o u) t fr):=by
 simp [World.setCell,Array.getElem?_modify,h]
theorem Sim.set {κ:K} {H:Hp} (S:Sim κ H) {id:Nat} {cs:List V} {m:Nat} (hg:H.get id=some (.cells cs m)) {off:Nat} (ho:off<cs.length) {v:V} {c:Value} (hv:VR κ v c):
  Sim { κ with w:=κ.w.setCell ⟨(κ.pl id cs.length).1,(κ.pl id cs.length).2+off,none⟩ c } (H.upd id (.cells (cs.set off v) cs.length))∧
  κ.Le { κ with w:=κ.w.setCell ⟨(κ.pl id cs.length).1,(κ.pl id cs.length).2+off,none⟩ c }∧
  (κ.w.cell? ⟨(κ.pl id cs.length).1,(κ.pl id cs.length).2+off,none⟩).isSome=true∧κ.w.frozen? ⟨(κ.pl id cs.length).1,(κ.pl id cs.length).2+off,none⟩=false:=by
 have hm:=S.le id cs m hg
 obtain ⟨⟨arr,t,fr,hb,hs,hvv,hf⟩,hz⟩:=S.cells id cs m hg cs.length hm (kG _)
 have le:=K.set_le κ ⟨(κ.pl id cs.length).1,(κ.pl id cs.length).2+off,none⟩ c hz S.ic
 have far:∀{b:Nat},b≠(κ.pl id cs.length).1→(κ.w.setCell ⟨(κ.pl id cs.length).1,(κ.pl id cs.length).2+off,none⟩ c).heap[b]?=κ.w.heap[b]?:=fun {b} h=>Below.heap_setCell κ.w _ c b h
 refine ⟨⟨fun k e=>?_,fun k ho=>?_,fun k blk h=>?_,fun b h=>by simpa using S.fz b h,S.ic,fun k cs' m' h=>?_,fun k cs' m' h e h1 h2=>?_,fun k es h=>?_,fun k k' e e' cs1 m1 cs2 m2 g1 g2 a1 a2 b1 b2 hp=>?_,fun k cs' m' e e' h a1 a2 b1 b2 hp=>?_,fun k k' es es' g1 g2 hp=>?_,S.tb.mono le⟩,le,
  by rw [yao hb (by omega)];rfl,?_⟩
 ·intro o
  obtain ⟨h1,h2⟩:=S.ok k e o
  refine ⟨h1,fun cs' m' hg'=>?_⟩
  simp only [Hp.get_upd] at hg'
  split at hg'
  ·rename_i x;subst x
   injection hg' with hg';injection hg' with x y;subst x
   simpa using h2 cs m hg
  ·exact h2 cs' m' hg'
 ·obtain ⟨h1,h2⟩:=S.hole k ho
  refine ⟨h1,?_⟩
  simp only [Hp.get_upd]
  rw [if_neg (fun x=>by subst x;rw [hg] at h2;cases h2)];exact h2
 ·simp only [Hp.get_upd] at h
  split at h
  ·rename_i x;subst x;exact S.lt _ _ hg
  ·exact S.lt k blk h
 ·simp only [Hp.get_upd] at h
  split at h
  ·injection h with h;injection h with x y;subst x;subst y;simp
  ·exact S.le k cs' m' h
 ·simp only [Hp.get_upd] at h
  split at h
  ·rename_i x;subst x
   injection h with h;injection h with x y;subst x;subst y
   have he:e=cs.length:=by simp at h2;omega
   subst he
   refine ⟨⟨arr.setIfInBounds ((κ.pl k cs.length).2+off) c,t,fr,y7k c hb,by simpa using hs,fun j u hj hu=>?_,by simpa using hf⟩,hz⟩
   show VR _ u (Array.getD _ ((κ.pl k cs.length).2+j) undef)
   by_cases hjo:j=off
   ·subst hjo
    simp [ho] at hu
    subst hu
    have:(arr.setIfInBounds ((κ.pl k cs.length).2+j) c).getD ((κ.pl k cs.length).2+j) undef=c:=by
     simp [kH,show (κ.pl k cs.length).2+j<arr.size by omega]
    rw [this];exact hv.mono le
   ·rw [List.getElem?_set_ne (Ne.symm hjo)] at hu
    have:(arr.setIfInBounds ((κ.pl k cs.length).2+off) c).getD ((κ.pl k cs.length).2+j) undef=arr.getD ((κ.pl k cs.length).2+j) undef:=by
     simp [kH,Array.getElem?_setIfInBounds_ne (show (κ.pl k cs.length).2+off≠(κ.pl k cs.length).2+j by omega)]
    rw [this];exact (hvv j u hj hu).mono le
  ·rename_i x
   obtain ⟨⟨arr',t',fr',hb',hs',hv',hf'⟩,hz'⟩:=S.cells k cs' m' h e h1 h2
   refine ⟨⟨arr',t',fr',?_,hs',fun j v a b=>(hv' j v a b).mono le,hf'⟩,hz'⟩
   refine (far fun hp=>x ?_).trans hb'
   exact S.sep k id e cs.length cs' m' cs m h hg h1 h2 hm (kG _) hp
 ·simp only [Hp.get_upd] at h
  split at h
  ·cases h
  ·obtain ⟨⟨x,hb',ho'⟩,hz'⟩:=S.maps k es h
   refine ⟨⟨x,?_,ho'.mono le⟩,hz'⟩
   refine (far fun hp=>?_).trans hb'
   rw [hp,hb] at hb';injection hb' with hb';subst hb';exact ho'.not_cells
 ·simp only [Hp.get_upd] at g1 g2
  have fix:∀{q cs0 m0 e0},(if q=id then some (Blk.cells (cs.set off v) cs.length) else H.get q)=some (.cells cs0 m0)→m0≤e0→e0≤cs0.length→
    ∃cs1 m1,H.get q=some (.cells cs1 m1)∧m1≤e0∧e0≤cs1.length:=fun {q cs0 m0 e0} h l1 l2=>by
   split at h
   ·rename_i x;subst x
    injection h with h;injection h with x y;subst x;subst y
    exact ⟨cs,m,hg,by omega,by simpa using l2⟩
   ·exact ⟨_,_,h,l1,l2⟩
  obtain ⟨_,_,x1,x2,x3⟩:=fix g1 a1 a2
  obtain ⟨_,_,y1,y2,y3⟩:=fix g2 b1 b2
  exact S.sep k k' e e' _ _ _ _ x1 y1 x2 x3 y2 y3 hp
 ·simp only [Hp.get_upd] at h
  split at h
  ·injection h with h;injection h with x y;subst x;subst y
   have:e=e':=by simp at a2 b2;omega
   subst this;rfl
  ·exact S.base k cs' m' e e' h a1 a2 b1 b2 hp
 ·simp only [Hp.get_upd] at g1 g2
  split at g1
  ·cases g1
  ·split at g2
   ·cases g2
   ·exact S.sepm k k' es es' g1 g2 hp
 ·simp only [World.frozen?,hb]
  rcases hf with hf | hf
  ·simp;omega
  ·simp;omega
def setAll:List V→Nat→List V→List V
 | cs,_,[]=>cs
 | cs,o,v::r=>setAll (cs.set o v) (o+1) r
theorem y9c:∀(vs cs:List V) (o:Nat),(setAll cs o vs).length=cs.length
 | [],cs,o=>rfl
 | v::r,cs,o=>by simp [setAll,y9c r]
theorem upd_upd (H:Hp) (id:Nat) (a b:Blk):(H.upd id a).upd id b=H.upd id b:=by
 unfold Hp.upd
 congr 1
 funext k
 by_cases h:k=id <;> simp [h]
theorem upd_self (H:Hp) (id:Nat) (a:Blk) (h:H.get id=some a):H.upd id a=H:=by
 cases H with
 | mk g n=>
  unfold Hp.upd
  congr 1
  funext k
  by_cases x:k=id
  ·subst x;simp;exact h.symm
  ·simp [x]
theorem Sim.setAll_ok {P:Program}:∀(vs:List V) (ls:List Value) {κ:K} {H:Hp} (S:Sim κ H) {id:Nat} {cs:List V} {m:Nat} (hg:H.get id=some (.cells cs m)) (hm:vs=[]→m=cs.length) {off i:Nat} (ho:off+i+vs.length≤cs.length)
  (hc:∀v∈vs,y3w v=true) (hv:VRs κ vs ls),
  ∃κ',κ.Le κ'∧Sim κ' (H.upd id (.cells (setAll cs (off+i) vs) cs.length))∧(storeCells ⟨(κ.pl id cs.length).1,(κ.pl id cs.length).2+off,none⟩ ls i).run P κ.w=.ok () κ'.w∧(∀id e,κ'.pl id e=κ.pl id e)∧(∀id e,κ.ok id e→κ'.ok id e)
 | [],ls,κ,H,S,id,cs,m,hg,hm,off,i,ho,hc,hv=>by
  obtain ⟨hl,_⟩:=hv
  have:ls=[]:=by cases ls <;> simp at hl ⊢
  subst this
  have hm':m=cs.length:=hm rfl
  subst hm'
  refine ⟨κ,.refl κ,?_,rfl,fun _ _=>rfl,fun _ _ h=>h⟩
  rw [setAll,upd_self H id _ hg];exact S
 | v::r,ls,κ,H,S,id,cs,m,hg,hm,off,i,ho,hc,hv=>by
  obtain ⟨hl,hv⟩:=hv
  cases ls with
  | nil=>simp at hl
  | cons l ls=>
   simp only [kO] at ho
   have hv0:VR κ v l:=by simpa using hv 0 v rfl
   obtain ⟨S1,le1,c1,f1⟩:=S.set hg (off:=off+i) (by omega) hv0
   have hr:VRs { κ with w:=κ.w.setCell ⟨(κ.pl id cs.length).1,(κ.pl id cs.length).2+(off+i),none⟩ l } r ls:=
    ⟨by simpa using hl,fun j u hu=>by have:=hv (j+1) u (by simpa using hu);simp at this;exact this.mono le1⟩
   obtain ⟨κ',le2,S2,run2,p2,o2⟩:=Sim.setAll_ok r ls S1 (id:=id) (cs:=cs.set (off+i) v) (m:=cs.length) (by simp) (fun _=>by simp) (off:=off) (i:=i+1) (by simp;omega) (fun u hu=>hc u (by simp [hu])) hr
   refine ⟨κ',le1.trans le2,?_,?_,p2,fun _ _ h=>o2 _ _ h⟩
   ·rw [upd_upd] at S2
    simpa [Am.setAll,ki] using S2
   ·have hst:(store ((⟨(κ.pl id cs.length).1,(κ.pl id cs.length).2+off,none⟩:Addr).add i) l).run P κ.w=.ok () (κ.w.setCell ⟨(κ.pl id cs.length).1,(κ.pl id cs.length).2+(off+i),none⟩ l):=by
     rw [y4h,run_store P κ.w _ l _ (hv0.oneCell (hc v (by simp)))]
     obtain ⟨u,hu⟩:=Option.isSome_iff_exists.1 c1
     rw [ki,hu]
     simp [f1]
    simp only [storeCells,Sem.run_bind,hst,Result.andThen_ok]
    simpa using run2
theorem y9n {α:Type} (sz:Nat) (hz:0<sz):∀(es:List (List α)),(∀e∈es,e.length=sz)→∀(q:Nat) (v:α),es.flatten[q]?=some v→∃e,es[q / sz]?=some e∧e[q % sz]?=some v
 | [],_,q,v,h=>by simp at h
 | e::es,hs,q,v,h=>by
  have he:=hs e (by simp)
  rw [List.flatten_cons,List.getElem?_append] at h
  by_cases hq:q<e.length
  ·rw [if_pos hq] at h
   rw [he] at hq
   exact ⟨e,by rw [Nat.div_eq_of_lt hq];rfl,by rw [Nat.mod_eq_of_lt hq];exact h⟩
  ·rw [if_neg hq,he] at h
   obtain ⟨e',h1,h2⟩:=y9n sz hz es (fun x hx=>hs x (by simp [hx])) (q-sz) v h
   have h3:q=(q-sz)+sz:=by omega
   refine ⟨e',?_,?_⟩
   ·rw [h3,Nat.add_div_right _ hz];simpa using h1
   ·rw [h3,Nat.add_mod_right];exact h2
theorem yb1 {α:Type} (sz:Nat):∀(es:List (List α)),(∀e∈es,e.length=sz)→es.flatten.length=es.length*sz
 | [],_=>by simp
 | e::es,hs=>by
  rw [List.flatten_cons,kT,yb1 sz es (fun x hx=>hs x (by simp [hx])),hs e (by simp),kO,Nat.succ_mul,Nat.add_comm]
def y4e (H:Hp) (sz:Nat) (x:V):Option (Nat × List V):=
 match x with
 | .sl none 0 _=>some (0,[])
 | .sl (some (id,off,ext)) len sz'=>
  match H.get id with
  | some (.cells cs m)=>if sz'=sz∧m≤ext∧off+len*sz≤ext then some (len,(cs.drop off).take (len*sz)) else none
  | _=>none
 | .fs es=>if 0<sz∧es.all (fun e=>e.length == sz) then some (es.length,es.flatten) else none
 | .s bs=>if sz=1 then some (bs.length,bs.map fun b=>.i .u8 b.toNat) else none
 | _=>none
theorem yks (f:Nat→Value) (n j:Nat) (h:j<n):((List.range n).map f).getD j undef=f j:=by simp [List.getD,h]
theorem yet {P:Program} {κ:K} {H:Hp} (S:Sim κ H) {sz:Nat} {x:V} {n:Nat} {xs:List V} (h:y4e H sz x=some (n,xs)) {cx:Value} (hx:VR κ x cx):
  ∃l:List Value,l.length=n*sz∧VRs κ xs l∧(∀w,(Builtin.lenOf cx).run P w=.ok n w)∧(∀w',(∀a,w'.cell? a=κ.w.cell? a)→(Builtin.firstCells sz n cx).run P w'=.ok l.toArray w'):=by
 unfold y4e at h
 split at h
 ·injection h with h;injection h with h1 h2;subst h1;subst h2
  cases hx with
  | sl0 _ a=>exact ⟨[],by simp,⟨rfl,fun j v hj=>by simp at hj⟩,fun w=>by simp [Builtin.lenOf],fun w' _=>by cases a <;> simp [Builtin.firstCells,loadCells,loadCellsFrom]⟩
 ·rename_i id off ext len sz'
  split at h
  ·rename_i cs m hg
   split at h
   ·rename_i hb
    injection h with h;injection h with h1 h2;subst h1;subst h2
    obtain ⟨h0,h1,h2⟩:=hb
    subst h0
    cases hx with
    | sl _ _ _ _ _ cap nn a ok hz hl hlo hhi hn hroom ha=>
     have hle:=(S.ok id ext ok).2 cs m hg
     have hrd:rd H (.p (some (id,off,ext))) (len*sz')=some ((cs.drop off).take (len*sz')):=by
      simp only [rd,hg];rw [if_pos ⟨h1,h2⟩]
     obtain ⟨ad,l,e1,e2,_,e3,e4⟩:=rd_ok S hrd (.p id off ext ok)
     injection e1 with e1;injection e1 with e1;subst e1
     refine ⟨l,e2,e3,fun w=>by simp [Builtin.lenOf],fun w' hw=>?_⟩
     by_cases hc:cap=0
     ·have:len=0:=by omega
      subst this
      have:l=[]:=by cases l <;> simp at e2 ⊢
      subst this
      simp [Builtin.firstCells,loadCells,loadCellsFrom]
     ·rw [ha hc]
      exact run_firstCells_some w' sz' _ _ _ _ l e2 (fun j v hj=>by rw [hw];exact e4 j v hj)
   ·cases h
  ·cases h
 ·rename_i es
  split at h
  ·rename_i hb
   injection h with h;injection h with h1 h2;subst h1;subst h2
   obtain ⟨hz,hall⟩:=hb
   have hs:∀e∈es,e.length=sz:=fun e he=>by simpa using List.all_eq_true.1 hall e he
   cases hx with
   | fs _ cap sz' b o a cv hc hs' hn ha hcell hv=>
    by_cases hes:es=[]
    ·subst hes
     refine ⟨[],by simp,⟨rfl,fun j v hj=>by simp at hj⟩,fun w=>by simp [Builtin.lenOf],fun w' _=>?_⟩
     cases a <;> simp [Builtin.firstCells,loadCells,loadCellsFrom]
    ·have hss:sz'=sz:=by
      cases es with
      | nil=>exact absurd rfl hes
      | cons e r=>rw [←hs' e (by simp),hs e (by simp)]
     subst hss
     have hfl:=yb1 sz' es hs
     obtain ⟨ha1,_⟩:=ha hes
     subst ha1
     refine ⟨(List.range (es.length*sz')).map fun q=>cv (q / sz') (q % sz'),by simp,⟨by simp [hfl],fun j v hj=>?_⟩,fun w=>by simp [Builtin.lenOf],fun w' hw=>?_⟩
     ·have hj':j<es.length*sz':=by rw [←hfl];exact (List.getElem?_eq_some_iff.1 hj).1
      rw [yks _ _ _ hj']
      obtain ⟨e,h1,h2⟩:=y9n sz' hz es hs j v hj
      exact hv _ _ e v h1 h2
     ·refine run_firstCells_some w' sz' es.length ⟨b,o,none⟩ es.length cap _ (by simp) fun j v hj=>?_
      by_cases hjn:j<es.length*sz'
      ·simp [hjn] at hj
       subst hj
       have:j<es.flatten.length:=by rw [hfl];exact hjn
       obtain ⟨e,h1,h2⟩:=y9n sz' hz es hs j _ (kC this)
       have:=hcell _ _ e _ h1 h2
       rw [hw,y4h]
       rw [ki,show j / sz'*sz'+j % sz'=j by rw [Nat.mul_comm];exact Nat.div_add_mod j sz'] at this
       exact this
      ·simp [hjn] at hj
  ·cases h
 ·rename_i bs
  split at h
  ·rename_i hz
   subst hz
   injection h with h;injection h with h1 h2;subst h1;subst h2
   rw [VR.inv_s hx]
   refine ⟨bs.map fun b=>.int .u8 b.toNat,by simp,⟨by simp,fun j v hj=>?_⟩,fun w=>by simp [Builtin.lenOf,y9b],fun w' _=>?_⟩
   ·simp at hj
    obtain ⟨b,hb,rfl⟩:=hj
    have:(bs.map fun b=>Value.int .u8 b.toNat).getD j undef=.int .u8 b.toNat:=by simp [List.getD,hb]
    rw [this];exact .i _ _
   ·simp only [Builtin.firstCells,Sem.run_pure]
    congr 1
    apply Array.ext'
    simp
  ·cases h
 ·cases h
structure AppT (P:Program) (sT xT e:TypeId) (i:TypeInfo) (z:Value):Prop where
 ht:P.underlying sT=some (.slice e)
 hx:∃d,P.underlying xT=some d∧∀k,d≠.int k
 hi:P.info? e=some i
 hz:i.zero=some z
 hzs:z.cells.size=i.size
theorem ybj {P:Program} {sT xT e:TypeId} {i:TypeInfo} {z:Value} (T:AppT P sT xT e i z) {w w':World} {ty:TypeId} {a:Addr} {sLen sCap n:Nat} {cx:Value} {l:List Value}
  (hlen:∀w,(Builtin.lenOf cx).run P w=.ok n w) (hfc:(Builtin.firstCells i.size n cx).run P w=.ok l.toArray w) (hroom:sLen+n≤sCap)
  (hst:(storeCells (a.add (sLen*i.size)) l).run P w=.ok () w'):
  (Builtin.append_ #[sT,xT] ty #[.slice (some a) sLen sCap,cx]).run P w=.ok (.slice (some a) (sLen+n) sCap) w':=by
 obtain ⟨d,hd,hk⟩:=T.hx
 have hm:(match d with | .int _=>true | _=>false)=false:=by cases d <;> first | rfl | exact absurd rfl (hk _)
 simp [Builtin.append_,run_underlying T.ht,run_underlying hd,sizeOf,typeInfo,T.hi,hm,hlen,hroom,hfc,hst]
theorem yec {P:Program} {sT xT e:TypeId} {i:TypeInfo} {z:Value} (T:AppT P sT xT e i z) {w:World} {ty:TypeId} {base:Option Addr} {sLen sCap n:Nat} {cx:Value} {l old:List Value}
  (hlen:∀w,(Builtin.lenOf cx).run P w=.ok n w) (hfc:(Builtin.firstCells i.size n cx).run P w.drew=.ok l.toArray w.drew)
  (hold:(Builtin.firstCells i.size sLen (.slice base sLen sCap)).run P w.drew=.ok old.toArray w.drew) (hroom:sCap<sLen+n)
  (hb:0<i.bytes) (hfit:(sLen+n)*i.bytes≤140737488355328):
  ∃c,(sLen+n≤c∧c≤9223372036854775807)∧(Builtin.append_ #[sT,xT] ty #[.slice base sLen sCap,cx]).run P w =
   .ok (.slice (some ⟨w.heap.size,0,none⟩) (sLen+n) c) (w.drew.alloc (.cells (old++l++(Builtin.zeroCells z.cells (c-(sLen+n))).toList).toArray e)):=by
 obtain ⟨d,hd,hk⟩:=T.hx
 have hm:(match d with | .int _=>true | _=>false)=false:=by cases d <;> first | rfl | exact absurd rfl (hk _)
 have hle:sLen+n≤140737488355328:=kV (Nat.le_mul_of_pos_right _ hb) hfit
 have hn:¬(sLen+n≤sCap):=by omega
 have h63':¬(9223372036854775807<((sLen:Int)+(n:Int))):=by omega
 have h48':¬(281474976710656<Builtin.nextslicecap (sLen+n) sCap*i.bytes):=by have:=growslice_fits hroom hfit;omega
 have hb0:¬(i.bytes=0):=by omega
 refine ⟨grownCap w (sLen+n) sCap e,⟨by simp [grownCap,Question.cut],grownCap_le_maxLen w (sLen+n) sCap e (by unfold maxLen;omega)⟩,?_⟩
 simp [Builtin.append_,run_underlying T.ht,run_underlying hd,sizeOf,typeInfo,zeroValue,T.hi,T.hz,hm,hlen,hn,h63',h48',hb0,Question.forced,hfc,hold,newRow,grownCap]
 congr 2
 apply Array.ext'
 simp
def y4x:Nat:=140737488355328
def y28 (H:Hp) (sz bytes:Nat) (s x:V):Option (V × Hp):=
 match y4e H sz x with
 | none=>none
 | some (n,xs)=>
  match s with
  | .sl none 0 _=>if n=0 then some (.sl none 0 sz,H) else if n*bytes≤y4x then some (.sl (some (H.next,0,xs.length)) n sz,H.add (.cells xs xs.length)) else none
  | .sl (some (id,off,ext)) len sz'=>
   match H.get id with
   | some (.cells cs m)=>
    if sz'=sz∧ext=cs.length∧(len+n)*bytes≤y4x∧xs.all y3w=true then
     if n=0 then some (s,H)
     else if off=0∧len*sz=ext then some (.sl (some (id,0,ext+xs.length)) (len+n) sz,H.upd id (.cells (cs++xs) m))
     else if off+(len+n)*sz≤ext then some (.sl (some (id,off,ext)) (len+n) sz,H.upd id (.cells (setAll cs (off+len*sz) xs) cs.length))
     else none
    else none
   | _=>none
  | _=>none
end Go.Proofs.YtikpijbeobeckaaGreatDoor.Am
