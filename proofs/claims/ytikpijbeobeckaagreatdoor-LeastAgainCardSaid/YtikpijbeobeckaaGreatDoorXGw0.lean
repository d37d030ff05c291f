/- Part 0. -/
import Derived.Below
import Derived.Calls
import Derived.WalkKit
import Derived.Laws.Tables
import Derived.Laws.Append
import Derived.Lib.Strings
set_option linter.unusedSimpArgs false
set_option linter.unusedVariables false
namespace Go.Proofs.YtikpijbeobeckaaGreatDoor
abbrev kC:=@List.getElem?_eq_getElem
abbrev kE:=@List.getElem?_eq_some_iff
abbrev kF:=@Bool.and_eq_true
abbrev kG:=@Nat.le_refl
abbrev kH:=@Array.getD_eq_getD_getElem?
abbrev kI:=@List.take_of_length_le
abbrev kJ:=@List.take_add_one
abbrev kK:=@List.mem_cons
abbrev kL:=@List.getElem_mem
abbrev kN:=@Bool.false_eq_true
abbrev kO:=@List.length_cons
abbrev kP:=@List.drop_eq_getElem_cons
abbrev kQ:=@List.getD_eq_getElem?_getD
abbrev kR:=@List.getElem?_append_left
abbrev kT:=@List.length_append
abbrev kU:=@List.mem_iff_getElem?
abbrev kV:=@Nat.le_trans
abbrev kW:=@List.append_assoc
abbrev kX:=@List.getElem?_append_right
abbrev kY:=@List.mem_of_getElem?
abbrev kZ:=@List.mem_append
abbrev ka:=@List.all_eq_true
abbrev kd:=@Option.map_eq_some_iff
abbrev ke:=@List.mem_filter
abbrev kf:=@List.pairwise_cons
abbrev kg:=@Classical.byContradiction
abbrev ki:=@Nat.add_assoc
abbrev kj:=@List.getElem?_take
end Go.Proofs.YtikpijbeobeckaaGreatDoor
namespace Go.Proofs.YtikpijbeobeckaaGreatDoor.Am
open Go Go.RowKit
inductive V where
 | junk
 | b (x:Bool)
 | i (k:IntKind) (n:Int)
 | s (x:List UInt8)
 | p (a:Option (Nat × Nat × Nat))
 | fp (cs:List V) (off:Nat)
 | sl (a:Option (Nat × Nat × Nat)) (len sz:Nat)
 | fs (es:List (List V))
 | mp (r:Option Nat)
 | fn (f:FuncId) (caps:List V)
 | fb (f:FuncId) (bs:List V)
 | pz (T:TypeId) (n id ext:Nat)
 | st (T:TypeId) (a:Option (Nat × Nat × Nat)) (len sz:Nat)
 | nf
 | ifc (t:TypeId) (v:V)
 | nifc
 | agg (cs:List V)
 | tup (vs:List V)
 | yl (id:Nat)
 | it (id:Nat)
 | jb
 deriving Inhabited
abbrev Fr:=List (Nat × V)
def y6o:Fr→Nat→V
 | [],_=>.junk
 | (t',v)::F,t=>if t=t' then v else y6o F t
structure LpS where
 n:Nat
 ps:Array Tmp
 assign:Code
 body:Code
 F:Fr
inductive LpSt where
 | ready
 | busy
 | done (j:Code)
inductive OB where
 | map (es:List (List UInt8 × V))
 | iter (m n:Nat) (seen:List Nat)
 | lp (S:LpS) (st:LpSt)
inductive Blk where
 | cells (cs:List V) (m:Nat)
 | obj (o:OB)
structure Hp where
 get:Nat→Option Blk
 next:Nat
def Hp.upd (H:Hp) (id:Nat) (b:Blk):Hp:={ H with get:=fun k=>if k=id then some b else H.get k }
def Hp.add (H:Hp) (b:Blk):Hp:={ get:=fun k=>if k=H.next then some b else H.get k,next:=H.next+1 }
def Hp.none:Hp:=⟨fun _=>Option.none,0⟩
structure K where
 pl:Nat→Nat→Nat × Nat
 ok:Nat→Nat→Prop
 fz:Nat→Prop
 ic:Nat→Prop
 hole:Nat→Prop
 base:Nat
 w:World
def y2q (w:World) (b:Nat):Option (Nat × TypeId):=
 match w.heap[b]? with
 | some (.cells c t _)=>some (c.size,t)
 | _=>Option.none
def STa (κ:K) (T:TypeId):Option (Nat × Nat × Nat)→Prop
 | some (id,_,ext)=>∃n,y2q κ.w (κ.pl id ext).1=some (n,T)∧(κ.pl id ext).2=0
 | Option.none=>True
inductive VR (κ:K):V→Value→Prop
 | junk (v:Value):VR κ .junk v
 | b (x:Bool):VR κ (.b x) (.bool x)
 | i (k:IntKind) (n:Int):VR κ (.i k n) (.int k n)
 | s (x:List UInt8):VR κ (.s x) (.string ⟨x.toArray⟩)
 | p0:VR κ (.p Option.none) (.pointer Option.none)
 | p (id off ext:Nat):κ.ok id ext→VR κ (.p (some (id,off,ext))) (.pointer (some ⟨(κ.pl id ext).1,(κ.pl id ext).2+off,Option.none⟩))
 | fp (cs:List V) (off b o:Nat) (cv:Nat→Value):κ.ic b→(∀(j:Nat) v,cs[j]?=some v→κ.w.cell? ⟨b,o+j,Option.none⟩=some (cv j))→(∀(j:Nat) v,cs[j]?=some v→VR κ v (cv j))→
   VR κ (.fp cs off) (.pointer (some ⟨b,o+off,Option.none⟩))
 | sl0 (sz:Nat) (a:Option Addr):VR κ (.sl Option.none 0 sz) (.slice a 0 0)
 | sl (id off ext len sz cap:Nat) (n:Nat × TypeId) (a:Addr):κ.ok id ext→0<sz→len≤cap∧cap≤9223372036854775807→off+len*sz≤ext→ext≤off+cap*sz→
   y2q κ.w (κ.pl id ext).1=some n→(κ.pl id ext).2+off+cap*sz≤n.1→(cap≠0→a=⟨(κ.pl id ext).1,(κ.pl id ext).2+off,Option.none⟩)→
   VR κ (.sl (some (id,off,ext)) len sz) (.slice (some a) len cap)
 | fs (es:List (List V)) (cap sz b o:Nat) (a:Option Addr) (cv:Nat→Nat→Value):es.length≤cap→(∀e,e∈es→e.length=sz)→
   (a=Option.none→cap=0)→(es≠[]→a=some ⟨b,o,Option.none⟩∧κ.ic b)→
   (∀(i j:Nat) e v,es[i]?=some e→e[j]?=some v→κ.w.cell? ⟨b,o+i*sz+j,Option.none⟩=some (cv i j))→(∀(i j:Nat) e v,es[i]?=some e→e[j]?=some v→VR κ v (cv i j))→
   VR κ (.fs es) (.slice a es.length cap)
 | mp0:VR κ (.mp Option.none) (.map Option.none)
 | mp (id:Nat):κ.ok id 0→VR κ (.mp (some id)) (.map (some (κ.pl id 0).1))
 | fn (f:FuncId) (caps:List V) (cs:List Value):caps.length=cs.length→(∀(j:Nat) v,caps[j]?=some v→VR κ v (cs.getD j undef))→
   VR κ (.fn f caps) (.func (.func f) #[] cs.toArray)
 | fb (f:FuncId) (bs:List V) (cs:List Value):bs.length=cs.length→(∀(j:Nat) v,bs[j]?=some v→VR κ v (cs.getD j undef))→
   VR κ (.fb f bs) (.func (.func f) cs.toArray #[])
 | pz (T:TypeId) (n id ext:Nat):κ.ok id ext→y2q κ.w (κ.pl id ext).1=some (n,T)→(κ.pl id ext).2=0→VR κ (.pz T n id ext) (.pointer Option.none)
 | st (T:TypeId) (a:Option (Nat × Nat × Nat)) (len sz:Nat) (c:Value):VR κ (.sl a len sz) c→STa κ T a→VR κ (.st T a len sz) c
 | nf:VR κ .nf .nilFunc
 | ifc (t:TypeId) (v:V) (cv:Value):VR κ v cv→VR κ (.ifc t v) (.iface t cv)
 | nifc:VR κ .nifc .nilIface
 | jb (x:Bool):VR κ .jb (.bool x)
 | agg (vs:List V) (cs:List Value):vs.length=cs.length→(∀(j:Nat) v,vs[j]?=some v→VR κ v (cs.getD j undef))→VR κ (.agg vs) (.agg cs.toArray)
 | tup (vs:List V) (cs:List Value):vs.length=cs.length→(∀(j:Nat) v,vs[j]?=some v→VR κ v (cs.getD j undef))→VR κ (.tup vs) (.tuple cs.toArray)
 | yl (id:Nat):κ.ok id 0→VR κ (.yl id) (.func (.yield (κ.pl id 0).1) #[] #[])
 | it (id:Nat):κ.ok id 0→VR κ (.it id) (.pointer (some ⟨(κ.pl id 0).1,0,Option.none⟩))
def VRs (κ:K) (vs:List V) (cs:List Value):Prop:=vs.length=cs.length∧∀(j:Nat) v,vs[j]?=some v→VR κ v (cs.getD j undef)
structure K.Le (κ κ':K):Prop where
 ok:∀id e,κ.ok id e→κ'.ok id e∧κ'.pl id e=κ.pl id e
 fz:∀b,κ.fz b→κ'.fz b∧κ'.w.heap[b]?=κ.w.heap[b]?
 ic:∀b,κ.ic b→κ'.ic b∧κ'.w.heap[b]?=κ.w.heap[b]?
 icn:∀b,κ'.ic b→κ.ic b∨κ.w.heap.size≤b∨¬κ.fz b
 n:∀b n,y2q κ.w b=some n→y2q κ'.w b=some n
 size:κ.w.heap.size≤κ'.w.heap.size
 os:κ'.w.os=κ.w.os
 tape:κ'.w.tape=κ.w.tape
 output:κ'.w.output=κ.w.output
 hole:∀id,κ.hole id→κ'.hole id∧∀e,κ'.ok id e→κ.ok id e
 base:κ'.base=κ.base
 lps:∀(b:Nat) (r:Loop),κ.w.heap[b]?=some (Obj.loop r)→∃r':Loop,κ'.w.heap[b]?=some (Obj.loop r')
theorem K.Le.refl (κ:K):κ.Le κ:=⟨fun _ _ h=>⟨h,rfl⟩,fun _ h=>⟨h,rfl⟩,fun _ h=>⟨h,rfl⟩,fun _ h=>.inl h,fun _ _ h=>h,kG _,rfl,rfl,rfl,fun _ h=>⟨h,fun _ o=>o⟩,rfl,fun _ r h=>⟨r,h⟩⟩
theorem K.Le.trans {a b c:K} (h:a.Le b) (k:b.Le c):a.Le c:=
 ⟨fun id e x=>let ⟨y,z⟩:=h.ok id e x;let ⟨u,v⟩:=k.ok id e y;⟨u,v.trans z⟩,
  fun i x=>let ⟨y,z⟩:=h.fz i x;let ⟨u,v⟩:=k.fz i y;⟨u,v.trans z⟩,
  fun i x=>let ⟨y,z⟩:=h.ic i x;let ⟨u,v⟩:=k.ic i y;⟨u,v.trans z⟩,
  fun i x=>(k.icn i x).elim (fun y=>h.icn i y) (fun y=>.inr (y.elim (fun y=>.inl (kV h.size y)) fun y=>.inr fun z=>y (h.fz i z).1)),
  fun i n x=>k.n i n (h.n i n x),kV h.size k.size,k.os.trans h.os,k.tape.trans h.tape,k.output.trans h.output,fun id x=>let ⟨y,z⟩:=h.hole id x;let ⟨u,v⟩:=k.hole id y;⟨u,fun e o=>z e (v e o)⟩,k.base.trans h.base,fun b r x=>let ⟨r1,y⟩:=h.lps b r x;k.lps b r1 y⟩
theorem yc5 {w w':World} {a:Addr} (h:w'.heap[a.block]?=w.heap[a.block]?):w'.cell? a=w.cell? a:=by
 simp only [World.cell?,h]
structure K.Mv (κ κ':K):Prop where
 ok:∀id e,κ.ok id e→κ'.ok id e∧κ'.pl id e=κ.pl id e
 ic:∀b,κ.ic b→κ'.ic b∧κ'.w.heap[b]?=κ.w.heap[b]?
 n:∀b n,y2q κ.w b=some n→y2q κ'.w b=some n
theorem VR.move {κ κ':K} (h:κ.Mv κ') {v:V} {c:Value} (r:VR κ v c):VR κ' v c:=by
 induction r with
 | junk v=>exact .junk v
 | b x=>exact .b x
 | i k n=>exact .i k n
 | s x=>exact .s x
 | p0=>exact .p0
 | p id off ext o=>have:=h.ok _ _ o;rw [←this.2];exact .p id off ext this.1
 | fp cs off b o cv hb hc _ ih=>
  have:=h.ic _ hb
  exact .fp cs off b o cv this.1 (fun j v hj=>by rw [yc5 (w:=κ.w) this.2];exact hc j v hj) ih
 | sl0 sz a=>exact .sl0 sz a
 | sl id off ext len sz cap n a o z l x y hn hr ha=>
  have:=h.ok _ _ o
  exact .sl id off ext len sz cap n a this.1 z l x y (by rw [this.2];exact h.n _ _ hn) (by rw [this.2];exact hr) (by rw [this.2];exact ha)
 | fs es cap sz b o a cv hl hs hn ha hc _ ih=>
  refine .fs es cap sz b o a cv hl hs hn (fun e=>⟨(ha e).1,(h.ic _ (ha e).2).1⟩) (fun i j e v hi hj=>?_) ih
  have hb:=(ha (by rintro rfl;simp at hi)).2
  rw [yc5 (w:=κ.w) (h.ic _ hb).2]
  exact hc i j e v hi hj
 | mp0=>exact .mp0
 | mp id o=>have:=h.ok _ _ o;rw [←this.2];exact .mp id this.1
 | fn f caps cs l _ ih=>exact .fn f caps cs l ih
 | fb f bs cs l _ ih=>exact .fb f bs cs l ih
 | pz T n id ext o hn hz=>have:=h.ok _ _ o;exact .pz T n id ext this.1 (by rw [this.2];exact h.n _ _ hn) (by rw [this.2];exact hz)
 | st T a len sz c h0 hs ih=>
  refine .st T a len sz c ih ?_
  match a,hs,h0 with
  | Option.none,_,_=>trivial
  | some (id,off,ext),⟨n,g1,g2⟩,h0=>
   cases h0 with
   | sl _ _ _ _ _ _ _ _ o=>have:=h.ok _ _ o;exact ⟨n,by rw [this.2];exact h.n _ _ g1,by rw [this.2];exact g2⟩
 | nf=>exact .nf
 | ifc t v cv _ ih=>exact .ifc t v cv ih
 | nifc=>exact .nifc
 | jb x=>exact .jb x
 | agg vs cs l _ ih=>exact .agg vs cs l ih
 | tup vs cs l _ ih=>exact .tup vs cs l ih
 | yl id o=>have:=h.ok _ _ o;rw [←this.2];exact .yl id this.1
 | it id o=>have:=h.ok _ _ o;rw [←this.2];exact .it id this.1
theorem VR.mono {κ κ':K} (h:κ.Le κ') {v:V} {c:Value} (r:VR κ v c):VR κ' v c:=r.move ⟨h.ok,h.ic,h.n⟩
theorem VRs.mono {κ κ':K} (h:κ.Le κ') {vs:List V} {cs:List Value} (r:VRs κ vs cs):VRs κ' vs cs:=⟨r.1,fun j v e=>(r.2 j v e).mono h⟩
structure Placed (κ:K) (id e:Nat) (cs:List V):Prop where
 ex:∃arr t fr,κ.w.heap[(κ.pl id e).1]?=some (.cells arr t fr)∧(κ.pl id e).2+e≤arr.size∧
  (∀(j:Nat) v,j<e→cs[j]?=some v→VR κ v (arr.getD ((κ.pl id e).2+j) undef))∧(fr.2≤fr.1∨(arr.size≤fr.1∧t=5))
 nfz:¬κ.fz (κ.pl id e).1
def FR (κ:K) (F:Fr) (tmps:Array Value):Prop:=∀t,VR κ (y6o F t) (tmps.getD t undef)
theorem FR.mono {κ κ':K} (h:κ.Le κ') {F:Fr} {tmps:Array Value} (r:FR κ F tmps):FR κ' F tmps:=fun t=>(r t).mono h
inductive OBok (κ:K):OB→Obj→Prop
 | map (es:List (List UInt8 × V)) (arr:Array MapEntry):es.length=arr.size→(∀(j:Nat) k v,es[j]?=some (k,v)→∃en:MapEntry,arr[j]?=some en∧en.key=.string ⟨k.toArray⟩∧en.born=j∧VR κ v en.val)→OBok κ (.map es) (.map arr arr.size)
 | iter (m n:Nat) (seen:List Nat):κ.ok m 0→OBok κ (.iter m n seen) (.mapIter (some (κ.pl m 0).1) n seen.toArray n)
 | ready (S:LpS) (r:Loop):r.state=.ready→r.pending=none→r.params=S.ps→r.assign=S.assign→r.body=S.body→FR κ S.F r.tmps→S.n≤r.tmps.size→OBok κ (.lp S .ready) (.loop r)
 | busy (S:LpS) (r:Loop):r.state=.busy→r.params=S.ps→r.assign=S.assign→r.body=S.body→FR κ S.F r.tmps→S.n≤r.tmps.size→OBok κ (.lp S .busy) (.loop r)
 | done (S:LpS) (j:Code) (r:Loop):r.state=.done→r.pending=some j→OBok κ (.lp S (.done j)) (.loop r)
theorem OBok.move {κ κ':K} (h:κ.Mv κ') {o:OB} {x:Obj} (r:OBok κ o x):OBok κ' o x:=by
 cases r with
 | map es arr hl hv=>exact .map es arr hl fun j k v a=>let ⟨en,x,y,z,u⟩:=hv j k v a;⟨en,x,y,z,u.move h⟩
 | iter m n seen o=>have:=h.ok _ _ o;rw [←this.2];exact .iter m n seen this.1
 | ready S r a b c d e f g=>exact .ready S r a b c d e (fun t=>(f t).move h) g
 | busy S r a c d e f g=>exact .busy S r a c d e (fun t=>(f t).move h) g
 | done S j r a b=>exact .done S j r a b
theorem OBok.mono {κ κ':K} (h:κ.Le κ') {o:OB} {x:Obj} (r:OBok κ o x):OBok κ' o x:=r.move ⟨h.ok,h.ic,h.n⟩
theorem OBok.not_cells {κ:K} {o:OB} {arr:Array Value} {t:TypeId} {fr:Nat × Nat} (r:OBok κ o (.cells arr t fr)):False:=by cases r
structure PlacedMap (κ:K) (id:Nat) (o:OB):Prop where
 ex:∃x,κ.w.heap[(κ.pl id 0).1]?=some x∧OBok κ o x
 nfz:¬κ.fz (κ.pl id 0).1
def TBs:List (Nat × List Value):=[(6,[.int .u64 1,.int .u64 10,.int .u64 100,.int .u64 1000,.int .u64 10000,.int .u64 100000,.int .u64 1000000,.int .u64 10000000,.int .u64 100000000,.int .u64 1000000000,.int .u64 10000000000,.int .u64 100000000000,.int .u64 1000000000000,.int .u64 10000000000000,.int .u64 100000000000000,.int .u64 1000000000000000,.int .u64 10000000000000000,.int .u64 100000000000000000,.int .u64 1000000000000000000,.int .u64 10000000000000000000]),(1,[.int .u8 0,.int .u8 1,.int .u8 56,.int .u8 2,.int .u8 57,.int .u8 49,.int .u8 28,.int .u8 3,.int .u8 61,.int .u8 58,.int .u8 42,.int .u8 50,.int .u8 38,.int .u8 29,.int .u8 17,.int .u8 4,.int .u8 62,.int .u8 47,.int .u8 59,.int .u8 36,.int .u8 45,.int .u8 43,.int .u8 51,.int .u8 22,.int .u8 53,.int .u8 39,.int .u8 33,.int .u8 30,.int .u8 24,.int .u8 18,.int .u8 12,.int .u8 5,.int .u8 63,.int .u8 55,.int .u8 48,.int .u8 27,.int .u8 60,.int .u8 41,.int .u8 37,.int .u8 16,.int .u8 46,.int .u8 35,.int .u8 44,.int .u8 21,.int .u8 52,.int .u8 32,.int .u8 23,.int .u8 11,.int .u8 54,.int .u8 26,.int .u8 40,.int .u8 15,.int .u8 34,.int .u8 20,.int .u8 31,.int .u8 10,.int .u8 25,.int .u8 14,.int .u8 19,.int .u8 9,.int .u8 13,.int .u8 8,.int .u8 7,.int .u8 6])]
def TBok (κ:K):Prop:=∀p∈TBs,κ.ic p.1∧∃ty fr,κ.w.heap[p.1]?=some (Obj.cells p.2.toArray ty fr)
theorem TBok.mono {κ κ':K} (le:κ.Le κ') (h:TBok κ):TBok κ':=fun p hp=>by
 obtain ⟨h1,ty,fr,h2⟩:=h p hp
 exact ⟨(le.ic _ h1).1,ty,fr,(le.ic _ h1).2.trans h2⟩
structure Sim (κ:K) (H:Hp):Prop where
 ok:∀id e,κ.ok id e→id<H.next∧∀cs m,H.get id=some (.cells cs m)→e≤cs.length
 hole:∀id,κ.hole id→id<H.next∧H.get id=none
 lt:∀id blk,H.get id=some blk→id<H.next
 fz:∀b,κ.fz b→b<κ.w.heap.size
 ic:∀b,κ.ic b→κ.fz b
 le:∀id cs m,H.get id=some (.cells cs m)→m≤cs.length
 cells:∀id cs m,H.get id=some (.cells cs m)→∀e,m≤e→e≤cs.length→Placed κ id e cs
 maps:∀id es,H.get id=some (.obj es)→PlacedMap κ id es
 sep:∀id id' e e' cs m cs' m',H.get id=some (.cells cs m)→H.get id'=some (.cells cs' m')→m≤e→e≤cs.length→m'≤e'→e'≤cs'.length→
  (κ.pl id e).1=(κ.pl id' e').1→id=id'
 base:∀id cs m e e',H.get id=some (.cells cs m)→m≤e→e≤cs.length→m≤e'→e'≤cs.length→(κ.pl id e).1=(κ.pl id e').1→(κ.pl id e).2=(κ.pl id e').2
 sepm:∀id id' es es',H.get id=some (.obj es)→H.get id'=some (.obj es')→(κ.pl id 0).1=(κ.pl id' 0).1→id=id'
 tb:TBok κ
def fset (F:Fr) (t:Nat) (v:V):Fr:=(t,v)::F
def y7l (F:Fr):List Nat→Fr
 | []=>[]
 | t::ts=>(t,y6o F t)::y7l F ts
theorem FR.set {κ:K} {F:Fr} {tmps:Array Value} (r:FR κ F tmps) {d:Nat} {v:V} {c:Value} (hd:d<tmps.size) (hv:VR κ v c):FR κ (fset F d v) (tmps.setIfInBounds d c):=by
 intro t
 simp only [fset,y6o]
 by_cases h:t=d
 ·subst h;simp [hd,kH];exact hv
 ·have:=r t
  simpa [h,kH,Array.getElem?_setIfInBounds_ne (Ne.symm h)] using this
theorem yod (F:Fr) (ts:List Nat) (t:Nat):y6o (y7l F ts) t=.junk∨y6o (y7l F ts) t=y6o F t:=by
 induction ts with
 | nil=>exact .inl rfl
 | cons x ts ih=>
  simp only [y7l,y6o]
  by_cases h:t=x
  ·subst h;exact .inr (by simp)
  ·rw [if_neg h];exact ih
theorem FR.keep {κ:K} {F:Fr} {tmps:Array Value} (r:FR κ F tmps) (ts:List Nat):FR κ (y7l F ts) tmps:=by
 intro t
 rcases yod F ts t with h | h
 ·rw [h];exact .junk _
 ·rw [h];exact r t
def bAnd (k:IntKind) (x y:Int):Int:=k.wrap (BitVec.ofInt k.bits x &&& BitVec.ofInt k.bits y).toNat
def bOr (k:IntKind) (x y:Int):Int:=k.wrap (BitVec.ofInt k.bits x ||| BitVec.ofInt k.bits y).toNat
def bXor (k:IntKind) (x y:Int):Int:=k.wrap (BitVec.ofInt k.bits x ^^^ BitVec.ofInt k.bits y).toNat
def ye9 (k:IntKind) (x y:Int):Int:=k.wrap (BitVec.ofInt k.bits x &&& ~~~BitVec.ofInt k.bits y).toNat
def binI (op:BinOp) (k:IntKind) (x y:Int):Option V:=
 match op with
 | .add=>some (.i k (k.wrap (x+y)))
 | .sub=>some (.i k (k.wrap (x-y)))
 | .mul=>some (.i k (k.wrap (x*y)))
 | .quo=>if y=0 then none else some (.i k (k.wrap (x.tdiv y)))
 | .rem=>if y=0 then none else some (.i k (x.tmod y))
 | .and=>some (.i k (bAnd k x y))
 | .or=>some (.i k (bOr k x y))
 | .xor=>some (.i k (bXor k x y))
 | .andNot=>some (.i k (ye9 k x y))
 | .eql=>some (.b (x == y))
 | .neq=>some (.b (x != y))
 | .lss=>some (.b (decide (x<y)))
 | .leq=>some (.b (decide (x≤y)))
 | .gtr=>some (.b (decide (y<x)))
 | .geq=>some (.b (decide (y≤x)))
 | _=>none
def shI (op:BinOp) (k:IntKind) (x y:Int):Option V:=
 if y<0 then none else
 match op with
 | .shl=>some (.i k (k.wrap (x*2 ^ (min y.toNat k.bits))))
 | .shr=>some (.i k (x.fdiv (2 ^ (min y.toNat k.bits))))
 | _=>none
def ltB (x y:List UInt8):Bool:=Op.bytesLess x y
def binS (op:BinOp) (x y:List UInt8):Option V:=
 match op with
 | .add=>if x.length+y.length≤9223372036854775807 then some (.s (x++y)) else none
 | .eql=>some (.b (x == y))
 | .neq=>some (.b (!(x == y)))
 | .lss=>some (.b (ltB x y))
 | .leq=>some (.b (ltB x y||x == y))
 | .gtr=>some (.b (!(ltB x y||x == y)))
 | .geq=>some (.b (!(ltB x y)))
 | _=>none
def isSh:BinOp→Bool
 | .shl | .shr=>true
 | _=>false
def binV (op:BinOp) (x y:V):Option V:=
 match x,y with
 | .i k a,.i k' b=>if isSh op then shI op k a b else if k=k' then binI op k a b else none
 | .s a,.s b=>binS op a b
 | _,_=>none
theorem VR.inv_b {κ:K} {x:Bool} {c:Value} (h:VR κ (.b x) c):c=.bool x:=by cases h;rfl
theorem VR.inv_i {κ:K} {k:IntKind} {n:Int} {c:Value} (h:VR κ (.i k n) c):c=.int k n:=by cases h;rfl
theorem VR.inv_s {κ:K} {x:List UInt8} {c:Value} (h:VR κ (.s x) c):c=.string ⟨x.toArray⟩:=by cases h;rfl
theorem ydk (x:List UInt8):(⟨x.toArray⟩:ByteArray).toList=x:=by
 rw [Lib.toList_data]
theorem y9b (x:List UInt8):(⟨x.toArray⟩:ByteArray).size=x.length:=by simp [ByteArray.size]
theorem ypq (x y:List UInt8):(⟨x.toArray⟩:ByteArray)++⟨y.toArray⟩=⟨(x++y).toArray⟩:=by
 apply ByteArray.ext
 simp
theorem bin_ok {P:Program} {op:BinOp} {t:TypeId} {x y v:V} (h:binV op x y=some v) {κ:K} {ox oy:Operand} {cx cy:Value} (hx:VR κ x cx) (hy:VR κ y cy) (w:World):
  ∃cv,VR κ v cv∧(do eqGuard op t ox oy cx cy;binOp op t cx cy:Sem Value).run P w=.ok cv w:=by
 unfold binV at h
 split at h
 ·rename_i k a k' b
  rw [VR.inv_i hx,VR.inv_i hy]
  split at h
  ·rename_i hsh
   unfold shI at h
   split at h
   ·cases h
   ·rename_i hneg
    cases op <;> simp [isSh] at hsh <;> simp at h <;> subst h <;> exact ⟨_,.i _ _,by simp [go_sem,Op.shift,hneg]⟩
  ·rename_i hsh
   split at h
   ·rename_i hk
    subst hk
    cases op <;> simp [isSh] at hsh <;> simp only [binI] at h
    case quo=>split at h <;> simp at h;subst h;rename_i hz;exact ⟨_,.i _ _,by simp [go_sem,hz]⟩
    case rem=>split at h <;> simp at h;subst h;rename_i hz;exact ⟨_,.i _ _,by simp [go_sem,hz]⟩
    all_goals injection h with h;subst h
    case add=>exact ⟨_,.i _ _,by simp [go_sem]⟩
    case sub=>exact ⟨_,.i _ _,by simp [go_sem]⟩
    case mul=>exact ⟨_,.i _ _,by simp [go_sem]⟩
    case and=>exact ⟨_,.i _ _,by simp [go_sem,Op.intBits,bAnd,bOr,bXor,ye9]⟩
    case or=>exact ⟨_,.i _ _,by simp [go_sem,Op.intBits,bAnd,bOr,bXor,ye9]⟩
    case xor=>exact ⟨_,.i _ _,by simp [go_sem,Op.intBits,bAnd,bOr,bXor,ye9]⟩
    case andNot=>exact ⟨_,.i _ _,by simp [go_sem,Op.intBits,bAnd,bOr,bXor,ye9]⟩
    all_goals exact ⟨_,.b _,by simp [go_sem]⟩
   ·cases h
 ·rename_i a b
  rw [VR.inv_s hx,VR.inv_s hy]
  cases op <;> simp only [binS] at h
  case add=>
   split at h <;> simp at h
   subst h
   rename_i hl
   have:¬((9223372036854775807:Int)<(a.length:Int)+(b.length:Int)):=by omega
   exact ⟨_,.s _,by simp [go_sem,binOp,Op.stringOp,y9b,ypq,this]⟩
  all_goals first
   | (cases h;done)
   | (injection h with h;subst h;exact ⟨_,.b _,by simp [go_sem,binOp,Op.stringOp,ydk,ltB]⟩)
 ·cases h
inductive EK where
 | bool | ptr | slc | fnc | ifc | mp | ifn
def EK.fits:EK→TypeDesc→Bool
 | .bool,.bool=>true
 | .ptr,.pointer _=>true
 | .slc,.slice _=>true
 | .fnc,.func _ _ _=>true
 | .ifc,.interface _=>true
 | .ifn,.interface _=>true
 | .mp,.map _ _=>true
 | _,_=>false
def eqK:EK→V→V→Option Bool
 | .bool,.b x,.b y=>some (x == y)
 | .ptr,.p none,.p none=>some true
 | .ptr,.p none,.p (some _)=>some false
 | .ptr,.p (some _),.p none=>some false
 | .ptr,.fp _ _,.p none=>some false
 | .ptr,.p none,.fp _ _=>some false
 | .fnc,.nf,.nf=>some true
 | .fnc,.fn _ _,.nf=>some false
 | .mp,.mp none,.mp none=>some true
 | .mp,.mp (some _),.mp none=>some false
 | .ifc,.ifc _ _,.nifc=>some false
 | .ifn,.ifc _ _,.nifc=>some false
 | .ifn,.nifc,.nifc=>some true
 | _,_,_=>none
theorem yk5 {P:Program} {t:TypeId} {d:TypeDesc} (hu:P.underlying t=some d) {x y:Value} {w:World} {r:Bool}
  (h:∀n,(Op.equalIn (n+1) t x y).run P w=.ok r w):(Op.equal t x y).run P w=.ok r w:=h 9999
theorem eqK_eq {P:Program} {k:EK} {t:TypeId} {d:TypeDesc} {x y:V} {r:Bool} (hu:P.underlying t=some d) (hf:k.fits d=true) (h:eqK k x y=some r) {κ:K}
  {cx cy:Value} (hx:VR κ x cx) (hy:VR κ y cy) (w:World):(Op.equal t cx cy).run P w=.ok r w:=by
 have hun:(underlying t).run P w=.ok d w:=run_underlying hu w
 refine yk5 hu fun n=>?_
 unfold eqK at h
 split at h <;> first | (cases h;done) | skip
 all_goals injection h with h
 all_goals subst h
 all_goals cases d <;> simp only [EK.fits,kN] at hf
 all_goals cases hx
 all_goals cases hy
 all_goals simp only [Op.equalIn,Sem.run_bind,hun,Result.andThen_ok]
 all_goals rfl
def isC:Operand→Bool
 | .const _=>true
 | _=>false
theorem eqG {op:BinOp} (t:TypeId) (ox oy:Operand) {x y:V} {k:EK} {r:Bool} (h:eqK k x y=some r) (hc:k=.ifn→isC oy=true) {κ:K} {cx cy:Value} (hx:VR κ x cx) (hy:VR κ y cy):eqGuard op t ox oy cx cy=pure ():=by
 unfold eqK at h
 split at h <;> first | (cases h;done) | skip
 all_goals cases hx
 all_goals cases hy
 all_goals first
  | exact eqGuard_at_bool ..
  | exact eqGuard_at_pointer ..
  | exact eqGuard_at_nilFunc ..
  | exact eqGuard_at_func ..
  | exact eqGuard_at_map ..
  | exact eqGuard_at_iface ..
  | (have hc:=hc rfl;cases oy <;> first | (cases hc;done) | (cases op <;> first | rfl | simp [eqGuard,go_sem]))
theorem binE (t:TypeId) {x y:V} {k:EK} {r:Bool} (h:eqK k x y=some r) {κ:K} {cx cy:Value} (hx:VR κ x cx) (hy:VR κ y cy):
  binOp .eql t cx cy=(do pure (.bool (←Op.equal t cx cy)))∧binOp .neq t cx cy=(do pure (.bool (!(←Op.equal t cx cy)))):=by
 unfold eqK at h
 split at h <;> first | (cases h;done) | skip
 all_goals cases hx
 all_goals cases hy
 all_goals exact ⟨rfl,rfl⟩
theorem eqK_ok {P:Program} {k:EK} {t:TypeId} {d:TypeDesc} {x y:V} {r:Bool} (hu:P.underlying t=some d) (hf:k.fits d=true) (h:eqK k x y=some r) {κ:K} (neg:Bool)
  {ox oy:Operand} {cx cy:Value} (hc:k=.ifn→isC oy=true) (hx:VR κ x cx) (hy:VR κ y cy) (w:World):
  (do eqGuard (if neg then .neq else .eql) t ox oy cx cy;binOp (if neg then .neq else .eql) t cx cy:Sem Value).run P w=.ok (.bool (if neg then !r else r)) w:=by
 rw [eqG t ox oy h hc hx hy]
 have he:=eqK_eq hu hf h hx hy w
 cases neg
 ·simp only [kN,if_false,Sem.run_bind,Sem.run_pure,Result.andThen_ok]
  rw [(binE t h hx hy).1]
  simp only [Sem.run_bind,Sem.run_pure,Result.andThen_ok,he]
 ·simp only [if_true,Sem.run_bind,Sem.run_pure,Result.andThen_ok]
  rw [(binE t h hx hy).2]
  simp only [Sem.run_bind,Sem.run_pure,Result.andThen_ok,he]
end Go.Proofs.YtikpijbeobeckaaGreatDoor.Am
