/- Part 19. -/
import Derived.Lib.ItoaNum
import Derived.Test.YtikpijbeobeckaaGreatDoorXGw17
import Derived.Test.YtikpijbeobeckaaGreatDoorXGw18
set_option linter.unusedSimpArgs false
set_option linter.unusedVariables false
namespace Go.Proofs.YtikpijbeobeckaaGreatDoor.Am
open Go Go.RowKit
open Classical in
noncomputable def Hp.wo (H:Hp) (S:Nat→Prop):Hp:={ H with get:=fun k=>if S k then Option.none else H.get k }
inductive Frz (H:Hp) (S:Nat→Prop):V→V→Prop
 | refl (v:V):Frz H S v v
 | sl (id off ext len sz m:Nat) (cs:List V) (es:List (List V)):S id→H.get id=some (.cells cs m)→m≤ext→ext≤cs.length→es.length=len→(∀e∈es,e.length=sz)→
   (∀(i j:Nat) e v,es[i]?=some e→e[j]?=some v→off+i*sz+j<ext)→
   (∀(i j:Nat) e v u,es[i]?=some e→e[j]?=some v→cs[off+i*sz+j]?=some u→Frz H S u v)→Frz H S (.sl (some (id,off,ext)) len sz) (.fs es)
 | sl0 (sz:Nat):Frz H S (.sl none 0 sz) (.fs [])
 | p (id off ext m:Nat) (cs cs':List V):S id→H.get id=some (.cells cs m)→m≤ext→ext≤cs.length→cs'.length≤ext→
   (∀(j:Nat) u v,cs[j]?=some u→cs'[j]?=some v→Frz H S u v)→Frz H S (.p (some (id,off,ext))) (.fp cs' off)
 | agg (vs vs':List V):vs'.length=vs.length→(∀(j:Nat) u v,vs[j]?=some u→vs'[j]?=some v→Frz H S u v)→Frz H S (.agg vs) (.agg vs')
 | tup (vs vs':List V):vs'.length=vs.length→(∀(j:Nat) u v,vs[j]?=some u→vs'[j]?=some v→Frz H S u v)→Frz H S (.tup vs) (.tup vs')
 | ifc (t:TypeId) (v v':V):Frz H S v v'→Frz H S (.ifc t v) (.ifc t v')
 | fn (f:FuncId) (vs vs':List V):vs'.length=vs.length→(∀(j:Nat) u v,vs[j]?=some u→vs'[j]?=some v→Frz H S u v)→Frz H S (.fn f vs) (.fn f vs')
def frzB (κ:K) (H:Hp) (S:Nat→Prop) (b:Nat):Prop:=∃id e cs m,S id∧H.get id=some (.cells cs m)∧m≤e∧e≤cs.length∧(κ.pl id e).1=b
theorem ye1 {κ:K} {H:Hp} (S:Nat→Prop) (Sm:Sim κ H):∃κ':K,κ'.w=κ.w∧κ.Le κ'∧Sim κ' (H.wo S)∧∀v r,Frz H S v r→∀c,VR κ v c→VR κ' r c:=by
 have sb:∀b,frzB κ H S b→b<κ.w.heap.size∧¬κ.fz b∧∃arr t fr,κ.w.heap[b]?=some (.cells arr t fr):=fun b ⟨id,e,cs,m,h0,hg,h1,h2,h3⟩=>by
  obtain ⟨⟨arr,t,fr,hb,_⟩,hz⟩:=Sm.cells id cs m hg e h1 h2
  rw [h3] at hb hz
  exact ⟨lt_of_some hb,hz,arr,t,fr,hb⟩
 let κ2:K:={ κ with fz:=fun b=>κ.fz b∨frzB κ H S b,ic:=fun b=>κ.ic b∨frzB κ H S b }
 have le:κ.Le κ2:=⟨fun _ _ h=>⟨h,rfl⟩,fun _ h=>⟨.inl h,rfl⟩,fun _ h=>⟨.inl h,rfl⟩,fun b h=>h.elim .inl fun h=>.inr (.inr (sb b h).2.1),fun _ _ h=>h,kG _,rfl,rfl,rfl,fun _ h=>⟨h,fun _ o=>o⟩,rfl,fun _ r h=>⟨r,h⟩⟩
 have gw:∀{k blk},(H.wo S).get k=some blk→¬S k∧H.get k=some blk:=fun {k blk} h=>by
  simp only [Hp.wo] at h
  split at h
  ·cases h
  ·rename_i hs;exact ⟨hs,h⟩
 refine ⟨κ2,rfl,le,⟨fun id e o=>⟨(Sm.ok id e o).1,fun cs m hg=>(Sm.ok id e o).2 cs m (gw hg).2⟩,fun id h=>⟨(Sm.hole id h).1,?_⟩,fun id blk h=>Sm.lt id blk (gw h).2,fun b h=>h.elim (Sm.fz b) fun h=>(sb b h).1,fun b h=>h.elim (fun h=>.inl (Sm.ic b h)) .inr,
  fun id cs m h=>Sm.le id cs m (gw h).2,fun id cs m h e h1 h2=>?_,fun id es h=>?_,fun id id' e e' cs m cs' m' h1 h2=>Sm.sep id id' e e' cs m cs' m' (gw h1).2 (gw h2).2,fun id cs m e e' h=>Sm.base id cs m e e' (gw h).2,
  fun id id' es es' h1 h2=>Sm.sepm id id' es es' (gw h1).2 (gw h2).2,Sm.tb.mono le⟩,?_⟩
 ·simp only [Hp.wo];split
  ·rfl
  ·exact (Sm.hole id h).2
 ·obtain ⟨⟨arr,t,fr,hb,hs,hv,hf⟩,hz⟩:=Sm.cells id cs m (gw h).2 e h1 h2
  refine ⟨⟨arr,t,fr,hb,hs,fun j v a b=>(hv j v a b).mono le,hf⟩,?_⟩
  rintro (hz' | ⟨id',e',cs',m',g0,g1,g2,g3,g4⟩)
  ·exact hz hz'
  ·have:=Sm.sep id' id e' e cs' m' cs m g1 (gw h).2 g2 g3 h1 h2 g4
   subst this
   exact (gw h).1 g0
 ·obtain ⟨⟨x,hb,ho⟩,hz⟩:=Sm.maps id es (gw h).2
  refine ⟨⟨x,hb,ho.mono le⟩,?_⟩
  rintro (hz' | hz')
  ·exact hz hz'
  ·obtain ⟨_,_,arr',t',fr',hb'⟩:=sb _ hz'
   have hb2:κ.w.heap[(κ.pl id 0).1]?=some x:=hb
   rw [hb'] at hb2;injection hb2 with hb2;subst hb2;exact ho.not_cells
 ·intro v r hf
  induction hf with
  | refl v=>exact fun c r=>r.mono le
  | sl id off ext len sz m cs es hS hg h1 h2 hl hs hin hfz ih=>
   intro c r
   cases r with
   | sl _ _ _ _ _ cap n a o z l x y hn hr ha=>
    have hp:=Sm.cells id cs m hg ext h1 h2
    have hic:κ2.ic (κ.pl id ext).1:=.inr ⟨id,ext,cs,m,hS,hg,h1,h2,rfl⟩
    subst hl
    refine .fs (κ:=κ2) es cap sz (κ.pl id ext).1 ((κ.pl id ext).2+off) (some a) (fun i j=>((κ.w.cell? ⟨(κ.pl id ext).1,(κ.pl id ext).2+off+i*sz+j,none⟩).getD undef)) l.1 hs (fun h=>by cases h) (fun hne=>⟨?_,hic⟩) (fun i j e v hi hj=>?_) (fun i j e v hi hj=>?_)
    ·have:0<es.length:=List.length_pos_iff.2 hne
     rw [ha (by omega)]
    ·obtain ⟨cc,hc,_⟩:=hp.cell (hin i j e v hi hj)
     rw [show (κ.pl id ext).2+off+i*sz+j=(κ.pl id ext).2+(off+i*sz+j) by omega]
     rw [show κ2.w=κ.w from rfl,hc];rfl
    ·have hlt:=hin i j e v hi hj
     obtain ⟨cc,hc,hv⟩:=hp.cell hlt
     have hcs:cs[off+i*sz+j]?=some cs[off+i*sz+j]:=kC (by omega)
     have:=ih i j e v _ hi hj hcs cc (hv _ hcs)
     rw [show (κ.pl id ext).2+off+i*sz+j=(κ.pl id ext).2+(off+i*sz+j) by omega,hc]
     exact this
  | sl0 sz=>
   intro c r
   cases r with
   | sl0 _ a=>exact .fs (κ:=κ2) [] 0 sz 0 0 a (fun _ _=>undef) (kG _) (fun e h=>by simp at h) (fun _=>rfl) (fun h=>absurd rfl h) (fun i j e v h=>by simp at h) (fun i j e v h=>by simp at h)
  | p id off ext m cs cs' hS hg h1 h2 hl hfz ih=>
   intro c r
   cases r with
   | p _ _ _ o=>
    have hp:=Sm.cells id cs m hg ext h1 h2
    have hic:κ2.ic (κ.pl id ext).1:=.inr ⟨id,ext,cs,m,hS,hg,h1,h2,rfl⟩
    refine .fp (κ:=κ2) cs' off (κ.pl id ext).1 (κ.pl id ext).2 (fun j=>((κ.w.cell? ⟨(κ.pl id ext).1,(κ.pl id ext).2+j,none⟩).getD undef)) hic (fun j v hj=>?_) (fun j v hj=>?_)
    ·have hjl:=(List.getElem?_eq_some_iff.1 hj).1
     obtain ⟨cc,hc,_⟩:=hp.cell (j:=j) (by omega)
     rw [show κ2.w=κ.w from rfl,hc];rfl
    ·have hjl:=(List.getElem?_eq_some_iff.1 hj).1
     obtain ⟨cc,hc,hv⟩:=hp.cell (j:=j) (by omega)
     have hcs:cs[j]?=some cs[j]:=kC (by omega)
     rw [hc]
     exact ih j _ v hcs hj cc (hv _ hcs)
  | agg vs vs' hl h ih=>
   intro c r
   cases r with
   | agg _ cs l hc=>
    refine .agg (κ:=κ2) vs' cs (by omega) fun j v hj=>?_
    have hjl:=(List.getElem?_eq_some_iff.1 hj).1
    have hcs:vs[j]?=some vs[j]:=kC (by omega)
    exact ih j _ v hcs hj _ (hc j _ hcs)
  | tup vs vs' hl h ih=>
   intro c r
   cases r with
   | tup _ cs l hc=>
    refine .tup (κ:=κ2) vs' cs (by omega) fun j v hj=>?_
    have hjl:=(List.getElem?_eq_some_iff.1 hj).1
    have hcs:vs[j]?=some vs[j]:=kC (by omega)
    exact ih j _ v hcs hj _ (hc j _ hcs)
  | ifc t v v' h ih=>
   intro c r
   cases r with
   | ifc _ _ cv h=>exact .ifc (κ:=κ2) t v' cv (ih cv h)
  | fn f vs vs' hl h ih=>
   intro c r
   cases r with
   | fn _ _ cs l hc=>
    refine .fn (κ:=κ2) f vs' cs (by omega) fun j v hj=>?_
    have hjl:=(List.getElem?_eq_some_iff.1 hj).1
    have hcs:vs[j]?=some vs[j]:=kC (by omega)
    exact ih j _ v hcs hj _ (hc j _ hcs)
theorem WkV.freeze {v r:V} {H:Hp} (S:Nat→Prop) (h:Frz H S v r):WkV v H r (H.wo S):=fun κ c Sm rv=>by
 obtain ⟨κ',e1,e2,e3,e4⟩:=ye1 S Sm
 exact ⟨κ',e1,e2,e3,e4 v r h c rv⟩
def Hp.Ext (H H':Hp):Prop:=H.next≤H'.next∧∀id blk,H.get id=some blk→H'.get id=some blk
theorem Hp.Ext.refl (H:Hp):H.Ext H:=⟨kG _,fun _ _ h=>h⟩
theorem Hp.Ext.trans {A B C:Hp} (h:A.Ext B) (k:B.Ext C):A.Ext C:=⟨kV h.1 k.1,fun id blk g=>k.2 id blk (h.2 id blk g)⟩
theorem Hp.Ext.add {H:Hp} (hl:∀id blk,H.get id=some blk→id<H.next) (b:Blk):H.Ext (H.add b):=⟨by simp,fun id blk g=>by
 have:=hl id blk g
 simp only [Hp.get_add];rw [if_neg (by omega)];exact g⟩
theorem AC.pure {P:Program} {f:FuncId} {args:List V} {H:Hp} {r:V} (hr:y9w r) (hl:∀id blk,H.get id=some blk→id<H.next) (h:AC P f args H (fun v H'=>H.Ext H'∧Frz H' (fun id=>H.next≤id) v r)):AC P f args H (fun v H'=>v=r∧H'=H):=by
 refine AC.clean hr ?_ hl
 refine h.wk fun v H' ⟨e,hf⟩=>⟨r,_,.freeze _ hf,rfl,e.1,fun id blk hg=>?_⟩
 simp only [Hp.wo]
 rw [if_neg (by have:=hl id blk hg;omega)]
 exact e.2 id blk hg
theorem AC.codeP {P:Program} {f:FuncId} {fn:Func} {a:AFunc} (hf:P.funcs[f]?=some fn) (hok:y25 P fn a=true) {args:List V} {H:Hp} {r:V} (hr:y9w r)
  (h:(∀id blk,H.get id=some blk→id<H.next)→AX P a.n a.body (Ends (fun v H'=>H.Ext H'∧Frz H' (fun id=>H.next≤id) v r) a.res) (fr0 0 args) H):AC P f args H (fun v H'=>v=r∧H'=H):=
 AC.lt (ynd hf hok) fun hl=>AC.pure hr hl (AC.code hf hok (h hl))
theorem K.below_le {κ:K} {H:Hp} (S:Sim κ H) {w':World} (b:Below κ.w.heap.size κ.w w'):κ.Le { κ with w:=w' }:=
 ⟨fun _ _ h=>⟨h,rfl⟩,fun k h=>⟨h,b.block k (S.fz k h)⟩,fun k h=>⟨h,b.block k (S.fz k (S.ic k h))⟩,fun _ h=>.inl h,fun k n h=>by
  unfold y2q at h ⊢
  have hlt:k<κ.w.heap.size:=by
   rcases Nat.lt_or_ge k κ.w.heap.size with x | x
   ·exact x
   ·simp [Array.getElem?_eq_none x] at h
  show (match w'.heap[k]? with | some (.cells c t _)=>some (c.size,t) | _=>none)=some n
  rw [b.block k hlt];exact h,b.size,b.os,b.tape,b.output,fun _ h=>⟨h,fun _ o=>o⟩,rfl,fun k r h=>⟨r,(b.block k (lt_of_some h)).trans h⟩⟩
theorem Sim.below {κ:K} {H:Hp} (S:Sim κ H) {w':World} (b:Below κ.w.heap.size κ.w w'):Sim { κ with w:=w' } H:=by
 have le:=K.below_le S b
 refine ⟨S.ok,S.hole,S.lt,fun k h=>Nat.lt_of_lt_of_le (S.fz k h) b.size,S.ic,S.le,fun id cs m hg e h1 h2=>?_,fun id o hg=>?_,S.sep,S.base,S.sepm,S.tb.mono le⟩
 ·obtain ⟨⟨arr,t,fr,hb,hs,hv,hf⟩,hz⟩:=S.cells id cs m hg e h1 h2
  exact ⟨⟨arr,t,fr,(b.block _ (lt_of_some hb)).trans hb,hs,fun j v a b=>(hv j v a b).mono le,hf⟩,hz⟩
 ·obtain ⟨⟨x,hb,ho⟩,hz⟩:=S.maps id o hg
  exact ⟨⟨x,(b.block _ (lt_of_some hb)).trans hb,ho.mono le⟩,hz⟩
theorem AC.below {P:Program} {f:FuncId} {args:List V} {H:Hp} {v:V} (hok:okFn P f=true)
  (h:∀(κ:K) (cs:List Value),VRs κ args cs→∃cv,(∀κ':K,VR κ' v cv)∧Calls P f cs.toArray κ.w (fun e w'=>e=.returned cv∧Below κ.w.heap.size κ.w w')):AC P f args H (fun r H'=>r=v∧H'=H):=
 ⟨hok,fun κ cs S r=>by
  obtain ⟨cv,hv,hc⟩:=h κ cs r
  exact hc.mono fun e w' ⟨he,hb⟩=>⟨{ κ with w:=w' },v,cv,H,he,rfl,K.below_le S hb,S.below hb,hv _,rfl,rfl⟩⟩
theorem VRs.one' {κ:K} {v:V} {cs:List Value} (h:VRs κ [v] cs):∃c,cs=[c]∧VR κ v c:=h.one
theorem VRs.two' {κ:K} {v u:V} {cs:List Value} (h:VRs κ [v,u] cs):∃c d,cs=[c,d]∧VR κ v c∧VR κ u d:=by
 obtain ⟨hl,hv⟩:=h
 match cs,hl with
 | [c,d],_=>exact ⟨c,d,rfl,by simpa using hv 0 v rfl,by simpa using hv 1 u rfl⟩
theorem VR.tupOf {κ:K} {vs:List V} {cs:List Value} (h:VRs κ vs cs):VR κ (.tup vs) (.tuple cs.toArray):=.tup vs cs h.1 h.2
theorem VRs.nil' (κ:K):VRs κ [] []:=⟨rfl,fun j v h=>by simp at h⟩
theorem VRs.cons' {κ:K} {v:V} {c:Value} {vs:List V} {cs:List Value} (h:VR κ v c) (hs:VRs κ vs cs):VRs κ (v::vs) (c::cs):=
 ⟨by simp [hs.1],fun j u hu=>by
  cases j with
  | zero=>simp at hu;subst hu;simpa using h
  | succ j=>simpa using hs.2 j u (by simpa using hu)⟩
theorem ydc {α:Type} {sz:Nat}:∀{es:List (List α)},(∀e∈es,e.length=sz)→es.flatten.length=es.length*sz
 | [],_=>by simp
 | e::es,h=>by
  rw [List.flatten_cons,kT,ydc (es:=es) fun x hx=>h x (by simp [hx]),h e (by simp),kO,Nat.succ_mul,Nat.add_comm]
theorem yam {α:Type} {sz:Nat}:∀{es:List (List α)},(∀e∈es,e.length=sz)→∀{i j:Nat} {e:List α} {v:α},es[i]?=some e→e[j]?=some v→es.flatten[i*sz+j]?=some v
 | [],_,i,j,e,v,h,_=>by simp at h
 | e0::es,hs,0,j,e,v,h,hj=>by
  simp at h;subst h
  have:=(List.getElem?_eq_some_iff.1 hj).1
  simp only [List.flatten_cons,Nat.zero_mul,Nat.zero_add]
  rw [kR this];exact hj
 | e0::es,hs,i+1,j,e,v,h,hj=>by
  simp at h
  have h0:=hs e0 (by simp)
  simp only [List.flatten_cons]
  rw [kX (by rw [h0,Nat.succ_mul];omega),h0]
  rw [show (i+1)*sz+j-sz=i*sz+j by rw [Nat.succ_mul];omega]
  exact yam (fun x hx=>hs x (by simp [hx])) h hj
structure Acc (H:Hp) (sz:Nat) (v:V) (H':Hp) (es:List (List V)):Prop where
 ext:H.Ext H'
 lt:∀id blk,H'.get id=some blk→id<H'.next
 all:∀e∈es,e.length=sz
 sl:(es=[]∧∃z,v=.sl none 0 z)∨∃id m,H.next≤id∧v=.sl (some (id,0,es.flatten.length)) es.length sz∧H'.get id=some (.cells es.flatten m)∧m≤es.flatten.length
theorem Acc.nil {H H':Hp} (sz z:Nat) (h:H.Ext H') (hl:∀id blk,H'.get id=some blk→id<H'.next):Acc H sz (.sl none 0 z) H' []:=⟨h,hl,fun e he=>(by cases he),.inl ⟨rfl,z,rfl⟩⟩
theorem Hp.add_lt {H:Hp} (hl:∀id blk,H.get id=some blk→id<H.next) (b:Blk):∀id blk,(H.add b).get id=some blk→id<(H.add b).next:=fun id blk h=>by
 by_cases e:id=H.next
 ·simp;omega
 ·simp [e] at h
  have:=hl id blk h;simp;omega
theorem Hp.upd_lt {H:Hp} (hl:∀id blk,H.get id=some blk→id<H.next) {k:Nat} (hk:k<H.next) (b:Blk):∀id blk,(H.upd k b).get id=some blk→id<(H.upd k b).next:=fun id blk h=>by
 by_cases e:id=k
 ·simp;omega
 ·simp [e] at h
  have:=hl id blk h;simp;omega
theorem Hp.Ext.upd {H H':Hp} (h:H.Ext H') (hl:∀id blk,H.get id=some blk→id<H.next) {k:Nat} (hk:H.next≤k) (b:Blk):H.Ext (H'.upd k b):=⟨by simpa using h.1,fun id blk g=>by
 have:=hl id blk g
 simp [show id≠k by omega];exact h.2 id blk g⟩
theorem Acc.appC {H H':Hp} {sz bytes:Nat} {v x:V} {es ys:List (List V)} (A:Acc H sz v H' es) (hl:∀id blk,H.get id=some blk→id<H.next) (hx:y4e H' sz x=some (ys.length,ys.flatten)) (hy:∀e∈ys,e.length=sz) (hsz:0<sz) (hc:ys.flatten.all y3w=true) (hb:(es.length+ys.length)*bytes≤y4x):
  ∃v2 H2,y28 H' sz bytes v x=some (v2,H2)∧Acc H sz v2 H2 (es++ys):=by
 have hyl:=ydc hy
 have hall:∀e∈es++ys,e.length=sz:=fun e he=>(List.mem_append.1 he).elim (A.all e) (hy e)
 rcases A.sl with ⟨rfl,z,rfl⟩ | ⟨id,m,h1,rfl,h2,h3⟩
 ·by_cases h0:ys.length=0
  ·have:ys=[]:=by cases ys <;> simp at h0 ⊢
   subst this
   refine ⟨.sl none 0 sz,H',?_,A.ext,A.lt,hall,.inl ⟨rfl,sz,rfl⟩⟩
   simp only [y28];rw [hx];rfl
  ·refine ⟨_,_,by simp only [y28,hx];rw [if_neg h0,if_pos (by simpa using hb)],A.ext.trans (Hp.Ext.add A.lt _),Hp.add_lt A.lt _,hall,.inr ⟨H'.next,ys.flatten.length,A.ext.1,?_,?_,?_⟩⟩
   ·simp
   ·simp
   ·simp
 ·have hel:=ydc A.all
  by_cases h0:ys.length=0
  ·have:ys=[]:=by cases ys <;> simp at h0 ⊢
   subst this
   refine ⟨.sl (some (id,0,es.flatten.length)) es.length sz,H',?_,A.ext,A.lt,hall,.inr ⟨id,m,h1,by simp,by simpa using h2,by simpa using h3⟩⟩
   simp only [y28,hx,h2]
   rw [if_pos ⟨trivial,trivial,by simpa using hb,hc⟩,if_pos h0]
  ·refine ⟨_,_,by simp only [y28,hx,h2];rw [if_pos ⟨trivial,trivial,by simpa using hb,hc⟩,if_neg h0,if_pos ⟨trivial,by rw [hel]⟩],A.ext.upd hl h1 _,Hp.upd_lt A.lt (A.lt id _ h2) _,hall,.inr ⟨id,m,h1,?_,?_,?_⟩⟩
   ·simp
   ·simp
   ·rw [List.flatten_append,kT];omega
theorem Acc.app {H H':Hp} {sz bytes:Nat} {v:V} {es ys:List (List V)} (A:Acc H sz v H' es) (hl:∀id blk,H.get id=some blk→id<H.next) (hy:∀e∈ys,e.length=sz) (hsz:0<sz) (hc:ys.flatten.all y3w=true) (hb:(es.length+ys.length)*bytes≤y4x):
  ∃v2 H2,y28 H' sz bytes v (.fs ys)=some (v2,H2)∧Acc H sz v2 H2 (es++ys):=by
 refine A.appC hl ?_ hy hsz hc hb
 simp only [y4e]
 rw [if_pos ⟨hsz,by rw [ka];intro e he;simpa using hy e he⟩]
theorem Acc.frz {H H':Hp} {sz:Nat} {v:V} {es:List (List V)} (A:Acc H sz v H' es):Frz H' (fun id=>H.next≤id) v (.fs es):=by
 rcases A.sl with ⟨rfl,z,rfl⟩ | ⟨id,m,h1,rfl,h2,h3⟩
 ·exact .sl0 z
 ·refine .sl id 0 es.flatten.length es.length sz m es.flatten es h1 h2 h3 (kG _) rfl A.all (fun i j e v hi hj=>?_) (fun i j e v u hi hj hu=>?_)
  ·have:=yam A.all hi hj
   have:=(List.getElem?_eq_some_iff.1 this).1
   simpa using this
  ·have:=yam A.all hi hj
   rw [Nat.zero_add,this] at hu;injection hu with hu;subst hu;exact .refl _
theorem Hp.wo_none (H:Hp):H.wo (fun _=>False)=H:=by
 refine Hp.ext' (fun k=>?_) rfl
 simp [Hp.wo]
theorem Frz.mono {H:Hp} {S S':Nat→Prop} (hS:∀i,S i→S' i) {v r:V} (h:Frz H S v r):Frz H S' v r:=by
 induction h with
 | refl v=>exact .refl v
 | sl id off ext len sz m cs es a b c d e f g _ ih=>exact .sl id off ext len sz m cs es (hS _ a) b c d e f g ih
 | sl0 sz=>exact .sl0 sz
 | p id off ext m cs cs' a b c d e _ ih=>exact .p id off ext m cs cs' (hS _ a) b c d e ih
 | agg vs vs' a _ ih=>exact .agg vs vs' a ih
 | tup vs vs' a _ ih=>exact .tup vs vs' a ih
 | ifc t v v' _ ih=>exact .ifc t v v' ih
 | fn f vs vs' a _ ih=>exact .fn f vs vs' a ih
theorem Hp.wo_new {H H':Hp} (h:H.Ext H') (hl:∀id blk,H.get id=some blk→id<H.next):H.Ext (H'.wo fun id=>H.next≤id):=⟨h.1,fun id blk g=>by
 have:=hl id blk g
 simp only [Hp.wo];rw [if_neg (by omega)];exact h.2 id blk g⟩
section
variable {P:Program} {n:Nat} {Q:y5i} {F:Fr} {H:Hp}
theorem AX.test {ts ts':List Nat} {ss:List AStep} {c:AO} {A B:ACode} (b:Bool) (F1:Fr) (h:y9s P ss (fun F X=>y7l F ts=F1∧X=H) F H) (hc:ev F1 c=.b b)
  (h1:b=true→AX P n A (y5i.then (fun F H=>Q .normal (y7l F ts') H) Q) F1 H) (h2:b=false→AX P n B (y5i.then (fun F H=>Q .normal (y7l F ts') H) Q) F1 H):
  AX P n (.seq (.post ts (.region ss)) (.post ts' (.cond c A B))) Q F H:=by
 refine AX.seq (AX.mono (Q:=y5i.then (fun F X=>F=F1∧X=H) fun _ _ _=>False) (AX.reg h) ?_)
 intro x F' H' hx
 cases x with
 | normal=>obtain ⟨rfl,rfl⟩:=hx;exact AX.pcond hc h1 h2
 | exit k=>exact hx.elim
 | ret=>exact hx.elim
theorem AX.testD {ts ts' bs:List Nat} {ss:List AStep} {c:AO} {A B:ACode} (b:Bool) (F1:Fr) (h:yap P bs 0 ss [] (fun F X=>y7l F ts=F1∧X=H) F H) (hc:ev F1 c=.b b)
  (h1:b=true→AX P n A (y5i.then (fun F H=>Q .normal (y7l F ts') H) Q) F1 H) (h2:b=false→AX P n B (y5i.then (fun F H=>Q .normal (y7l F ts') H) Q) F1 H):
  AX P n (.seq (.post ts (.draw bs ss)) (.post ts' (.cond c A B))) Q F H:=by
 refine AX.seq (AX.mono (Q:=y5i.then (fun F X=>F=F1∧X=H) fun _ _ _=>False) (AX.drw h) ?_)
 intro x F' H' hx
 cases x with
 | normal=>obtain ⟨rfl,rfl⟩:=hx;exact AX.pcond hc h1 h2
 | exit k=>exact hx.elim
 | ret=>exact hx.elim
end
@[simp] theorem take_len_map {α β:Type} (l:List α) (f:α→β):List.take l.length (l.map f)=l.map f:=kI (by simp)
abbrev Str:=List UInt8
def ss (l:List Str):V:=.fs (l.map fun x=>[.s x])
@[simp] theorem free_ss (l:List Str):y9w (ss l):=y9j fun e he v hv=>by
 obtain ⟨x,_,rfl⟩:=List.mem_map.1 he
 simp at hv;subst hv;exact free_s x
def ns (l:List Nat):V:=.fs (l.map fun n=>[.i .i64 (n:Nat)])
@[simp] theorem free_ns (l:List Nat):y9w (ns l):=y9j fun e he v hv=>by
 obtain ⟨x,_,rfl⟩:=List.mem_map.1 he
 simp at hv;subst hv;exact free_i _ _
theorem ybz {i:Nat} (h:i≤9223372036854775000):IntKind.i64.wrap ((i:Int)+1)=((i+1:Nat):Int):=by rw [wrap_i64 (by omega) (by omega)];omega
end Go.Proofs.YtikpijbeobeckaaGreatDoor.Am
namespace Go.Proofs.YtikpijbeobeckaaGreatDoor
open Am C
abbrev N63:Nat:=9223372036854775807
theorem y2g {i n:Nat} (h:i<n) (hn:n≤9223372036854775807):IntKind.i64.wrap ((i:Int)+1)=((i+1:Nat):Int):=by rw [wrap_i64 (by omega) (by omega)];omega
def numV:List Str→Str→Int
 | [],_=>-1
 | y::r,x=>if y=x then 0 else if numV r x<0 then -1 else numV r x+1
def SameInv (a b:List Str) (H:Hp) (m:Nat) (F:Fr) (H':Hp):Prop:=
 ∃i,i≤a.length∧m=a.length-i∧a.take i=b.take i∧H'=H∧F=[(0,ss a),(1,ss b),(5,.i .i64 i)]
theorem Same_ok (a b:List Str) (hl:a.length≤N63) (H:Hp):AC Tryz.prog y81 [ss a,ss b] H (fun v H'=>v=.b (decide (a=b))∧H'=H):=by
 refine AC.code y1e.at y1e.ok ?_
 simp only [y1e]
 apply jA
 simp [y1e.r0]
 apply jB
 simp [y1e.r1,ss]
 refine AX.pcond rfl (fun hb=>jA ?_) (fun hb=>AX.skip ?_)
 ·simp at hb
  simp [y1e.r2]
  apply jD
  simp
  intro h;subst h;exact hb rfl
 simp at hb
 simp
 apply jB
 simp [y1e.r3]
 refine AX.pblock (AX.loop (SameInv a b H) a.length ⟨_,_,.refl _ _,0,by omega,by omega,by simp,rfl,rfl⟩ ?_)
 rintro m F H' ⟨i,hi,rfl,hx,rfl,rfl⟩
 simp only [y1e.l0]
 by_cases hia:i<a.length
 ·have hib:i<b.length:=by omega
  apply jB
  simp [y1e.r4,ss,hia,hib]
  refine jG rfl (AX.skip ?_)
  simp
  refine AX.seq (AX.pblock (AX.seq (AX.drw ?_)))
  simp [y1e.r5,hia,hib]
  refine AX.pcond rfl (fun hc=>jA ?_) (fun hc=>AX.skip ?_)
  ·simp at hc
   simp [y1e.r6]
   apply jD
   simp
   intro h;subst h;exact hc rfl
  simp at hc
  simp
  apply jE
  simp [y1e.r7,y2g hia hl]
  refine ⟨a.length-(i+1),by omega,_,_,.refl _ _,i+1,by omega,rfl,?_,rfl,by simp [ss]⟩
  rw [kJ,kJ,kC hia,kC hib,hx,hc]
 ·apply jB
  simp [y1e.r4,ss,hia]
  refine jF rfl (AX.exit ?_)
  simp
  apply jA
  simp [y1e.r8]
  apply jD
  simp
  rw [kI (by omega),kI (by omega)] at hx
  exact hx
def y95:List Str→Str→List Str
 | [],x=>[x]
 | y::r,x=>if ltB y x then y::y95 r x else if y=x then y::r else x::y::r
def yfd (l:List Str):List Str:=l.foldl y95 []
section
open Go Go.RowKit
theorem Am.AX.stp {P:Program} {n:Nat} {Q:y5i} {F:Fr} {H:Hp} {ts:List Nat} {ss:List AStep} {A:ACode} (F1:Fr) (h:y9s P ss (fun F X=>y7l F ts=F1∧X=H) F H)
  (k:AX P n A Q F1 H):AX P n (.seq (.post ts (.region ss)) A) Q F H:=by
 refine AX.seq (AX.mono (Q:=y5i.then (fun F X=>F=F1∧X=H) fun _ _ _=>False) (AX.reg h) ?_)
 intro x F' H' hx
 cases x with
 | normal=>obtain ⟨rfl,rfl⟩:=hx;exact k
 | exit k=>exact hx.elim
 | ret=>exact hx.elim
end
def ycy (c:UInt8):Bool:=decide (48≤c.toNat∧c.toNat≤57)
def ygc (c:UInt8):Bool:=decide (65≤c.toNat∧c.toNat≤90∨97≤c.toNat∧c.toNat≤122∨c.toNat=95)
def y9t (s:Str):Bool:=(s[0]?.map ygc).getD false
def inB (w:Bool) (c:UInt8):Bool:=ycy c||(w&&ygc c)
def y3t (s:Str):Str × Str:=(s.takeWhile (inB (y9t s)),s.dropWhile (inB (y9t s)))
theorem y87 (s:Str):(y3t s).1++(y3t s).2=s:=by simp [y3t]
theorem y9y {α:Type} {p:α→Bool} {l:List α} {i:Nat} (h:(l.take i).all p=true) (hi:i≤l.length) (hn:∀x,l[i]?=some x→p x=false):l.takeWhile p=l.take i∧l.dropWhile p=l.drop i:=by
 induction l generalizing i with
 | nil=>simp
 | cons a l ih=>
  cases i with
  | zero=>have:=hn a rfl;simp [this]
  | succ i=>
   simp at h hn hi
   have:=ih (by simpa using h.2) hi hn
   simp [h.1,this]
def dgB (n:Nat):UInt8:=UInt8.ofNat (48+n % 10)
def y4w (n:Nat):Str:=Go.Lib.decDigits n
theorem y7m {n:Nat} (h:n<10):y4w n=[dgB n]:=by
 unfold y4w dgB;rw [Go.Lib.decDigits,dif_pos h,Nat.mod_eq_of_lt h]
theorem yc4 {n:Nat} (h:¬n<10):y4w n=y4w (n / 10)++[dgB n]:=by
 unfold y4w dgB;rw [Go.Lib.decDigits,dif_neg h]
theorem yc3 (n:Nat):(dgB n).toNat=48+n % 10:=by unfold dgB;rw [UInt8.toNat_ofNat'];omega
theorem y36:∀(k n:Nat),n<10 ^ (k+1)→(y4w n).length≤k+1
 | 0,n,h=>by rw [y7m (by omega)];simp
 | k+1,n,h=>by
  by_cases h2:n<10
  ·rw [y7m h2];simp
  ·rw [yc4 h2,kT]
   have:=y36 k (n / 10) (by rw [Nat.pow_succ] at h;omega)
   simp;omega
def ymm (s:Str):Nat:=s.foldl (fun n c=>10*n+(c.toNat-48)) 0
def y6n (s:Str):Nat × Nat:=
 if s=[] then (0,1) else if s.all ycy=false then (0,3) else if s[0]?=some 48∧1<s.length then (0,3) else if 268435456<ymm s then (0,2) else (ymm s,0)
def y6k (s:Str):Bool:=decide (s.length≤16)&&y9t s&&s.all (inB true)
structure Nd where
 kind:Int
 fn:Str
 copy:Int
 name:Str
 n:Int
 cell:Int
 deriving DecidableEq
def Nd.cs (d:Nd):List V:=[.i .i64 d.kind,.s d.fn,.i .i64 d.copy,.s d.name,.i .i64 d.n,.i .i64 d.cell]
def nv (d:Nd):V:=.agg d.cs
def Nd.zero:Nd:=⟨0,[],0,[],0,0⟩
def y64 (n:Int):Bool:=decide (0≤n∧n≤268435456)
def yay (k:Int):Bool:=decide (k=1∨k=5∨k=6)
def ylu (k:Int):Bool:=decide (k=2∨k=3∨k=7)
def bad1 (d:Nd):Bool:=decide (d.kind<1∨7<d.kind)||!y64 d.copy||!y64 d.n||(decide (d.cell≠-1)&&!y64 d.cell)
def bad2 (d:Nd):Bool:=(decide (d.kind=5) != decide (d.fn=[]))||(decide (d.fn≠[])&&!y6k d.fn)||(decide (d.kind=5)&&decide (d.copy≠0))
def bad3 (d:Nd):Bool:=(yay d.kind != decide (d.name≠[]))||(yay d.kind&&!y6k d.name)
def bad4 (d:Nd):Bool:=(!ylu d.kind&&decide (d.n≠0))||(decide (d.n=0)&&decide (d.kind=3∨d.kind=7))
def y5r (d:Nd):Bool:=!bad1 d&&!bad2 d&&!bad3 d&&!bad4 d&&decide (5≤d.kind∨d.cell=-1)
theorem yaj (s:Str):(y3t s).1.length≤s.length∧(y3t s).2.length≤s.length:=by
 have:=congrArg List.length (y87 s)
 rw [kT] at this;omega
theorem u8_eq (c:UInt8) (k:Nat) (hk:k<256):((c.toNat:Int)=(k:Int))=(c=UInt8.ofNat k):=by
 refine propext ⟨fun h=>UInt8.toNat_inj.1 (by rw [UInt8.toNat_ofNat'];omega),fun h=>by rw [h,UInt8.toNat_ofNat'];omega⟩
def y5q (c:Int):Str:=if 0<c then 126::y4w c.toNat else []
def y68 (d:Nd):Str:=
 if d.kind=1 then d.fn++(y5q d.copy++46::d.name)
 else if d.kind=2 then d.fn++(y5q d.copy++36::y4w d.n.toNat)
 else if d.kind=3 then d.fn++(y5q d.copy++64::y4w d.n.toNat)
 else if d.kind=4 then d.fn++(y5q d.copy++[40,41])
 else if d.kind=5 then d.name
 else if d.kind=6 then d.fn++(y5q d.copy++37::d.name)
 else d.fn++(y5q d.copy++35::y4w d.n.toNat)
def y84 (c:Int):Str:=if 0≤c then 43::y4w c.toNat else []
def y2w (d:Nd):Str:=y68 d++y84 d.cell
def yfa (d:Nd):V:=if y5r d then .tup [.s (y2w d),.i .i64 0] else .tup [.s [],.i .i64 11]
theorem ybt {s:Str} (h:y6k s=true):s.length≤16:=by
 unfold y6k at h;simp only [kF,decide_eq_true_eq] at h;exact h.1.1
structure RightN (d:Nd):Prop where
 k1:1≤d.kind
 k7:d.kind≤7
 cp:y64 d.copy=true
 n:y64 d.n=true
 cell:d.cell=-1∨(5≤d.kind∧y64 d.cell=true)
 fn:(d.kind=5∧d.fn=[]∧d.copy=0)∨(d.kind≠5∧y6k d.fn=true)
 nm:(yay d.kind=true∧y6k d.name=true)∨(yay d.kind=false∧d.name=[])
 nn:(ylu d.kind=true∧(d.kind=2∨d.n≠0))∨(ylu d.kind=false∧d.n=0)
theorem y55 (d:Nd):y5r d=true↔RightN d:=by
 unfold y5r bad1 bad2 bad3 bad4
 constructor
 ·intro h
  simp only [kF,Bool.not_eq_true',Bool.or_eq_false_iff,Bool.and_eq_false_iff,decide_eq_true_eq,decide_eq_false_iff_not,Bool.not_eq_false',bne_eq_false_iff_eq] at h
  obtain ⟨⟨⟨⟨⟨⟨⟨a1,a2⟩,a3⟩,a4⟩,⟨⟨b1,b2⟩,b3⟩⟩,⟨c1,c2⟩⟩,⟨d1,d2⟩⟩,e⟩:=h
  refine ⟨by omega,by omega,a2,a3,?_,?_,?_,?_⟩
  ·rcases a4 with a4 | a4
   ·exact .inl (by simpa using a4)
   ·rcases e with e | e
    ·exact .inr ⟨e,a4⟩
    ·exact .inl e
  ·by_cases hk:d.kind=5
   ·simp [hk] at b1 b3
    exact .inl ⟨hk,b1,b3⟩
   ·simp [hk] at b1
    simp [b1] at b2
    exact .inr ⟨hk,b2⟩
  ·cases hn:yay d.kind with
   | true=>rw [hn] at c2;simp at c2;exact .inl ⟨rfl,c2⟩
   | false=>rw [hn] at c1;simp at c1;exact .inr ⟨rfl,c1⟩
  ·cases hn:ylu d.kind with
   | true=>
    refine .inl ⟨rfl,?_⟩
    simp [ylu] at hn
    by_cases h0:d.n=0
    ·simp [h0] at d2;omega
    ·exact .inr h0
   | false=>rw [hn] at d1;simp at d1;exact .inr ⟨rfl,d1⟩
 ·intro ⟨k1,k7,cp,n,cell,fn,nm,nn⟩
  simp only [kF,Bool.not_eq_true',Bool.or_eq_false_iff,Bool.and_eq_false_iff,decide_eq_true_eq,decide_eq_false_iff_not,Bool.not_eq_false',bne_eq_false_iff_eq]
  refine ⟨⟨⟨⟨⟨⟨⟨by omega,cp⟩,n⟩,?_⟩,⟨⟨?_,?_⟩,?_⟩⟩,⟨?_,?_⟩⟩,⟨?_,?_⟩⟩,?_⟩
  ·rcases cell with c | c
   ·exact .inl (by simpa using c)
   ·exact .inr c.2
  ·rcases fn with ⟨a,b,c⟩ | ⟨a,b⟩
   ·simp [a,b]
   ·have:d.fn≠[]:=fun h=>by rw [h] at b;exact absurd b (by decide)
    simp [a,this]
  ·rcases fn with ⟨a,b,c⟩ | ⟨a,b⟩
   ·exact .inl (by simpa using b)
   ·exact .inr b
  ·rcases fn with ⟨a,b,c⟩ | ⟨a,b⟩
   ·exact .inr (by simpa using c)
   ·exact .inl a
  ·rcases nm with ⟨a,b⟩ | ⟨a,b⟩
   ·have:d.name≠[]:=fun h=>by rw [h] at b;exact absurd b (by decide)
    simp [a,this]
   ·simp [a,b]
  ·rcases nm with ⟨a,b⟩ | ⟨a,b⟩
   ·exact .inr b
   ·exact .inl a
  ·rcases nn with ⟨a,b⟩ | ⟨a,b⟩
   ·exact .inl a
   ·exact .inr (by simpa using b)
  ·rcases nn with ⟨a,b⟩ | ⟨a,b⟩
   ·by_cases h0:d.n=0
    ·right;rcases b with b | b
     ·omega
     ·exact absurd h0 b
    ·exact .inl h0
   ·right;simp [ylu] at a;omega
  ·rcases cell with c | c
   ·exact .inr c
   ·exact .inl c.1
def rdV (r:Option Nd):V:=match r with
 | some d=>.tup [nv d,.i .i64 0]
 | none=>.tup [nv Nd.zero,.i .i64 11]
@[simp] theorem Nd.cs_len (d:Nd):d.cs.length=6:=rfl
@[simp] theorem Nd.cs_take (d:Nd):d.cs.take 6=d.cs:=rfl
@[simp] theorem Nd.cs_take1 (d:Nd):d.cs.take 1=[.i .i64 d.kind]:=rfl
end Go.Proofs.YtikpijbeobeckaaGreatDoor
