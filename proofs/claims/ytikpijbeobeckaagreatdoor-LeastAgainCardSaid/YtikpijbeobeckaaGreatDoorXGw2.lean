/- Part 2. -/
import Derived.RangeFuncRecord
import Derived.Test.YtikpijbeobeckaaGreatDoorXGw1
set_option linter.unusedSimpArgs false
set_option linter.unusedVariables false
namespace Go.Proofs.YtikpijbeobeckaaGreatDoor.Am
open Go Go.RowKit
theorem yas {P:Program} (b o:Nat) (t:TypeId) (fr:Nat × Nat):∀(vs:List Value) (i:Nat) (arr:Array Value) (w:World),w.heap[b]?=some (.cells arr t fr)→(fr.2≤fr.1∨(arr.size≤fr.1∧t=5))→
  o+i+vs.length≤arr.size→(∀v∈vs,v.oneCell'=true)→
  ∃arr' w',(storeCells ⟨b,o,none⟩ vs i).run P w=.ok () w'∧w'.heap[b]?=some (.cells arr' t fr)∧arr'.size=arr.size∧
   (∀q,q<o+i→arr'.getD q undef=arr.getD q undef)∧(∀j,j<vs.length→arr'.getD (o+i+j) undef=vs.getD j undef)∧
   (∀k,k≠b→w'.heap[k]?=w.heap[k]?)∧(∀k,y2q w' k=y2q w k)∧w'.heap.size=w.heap.size∧w'.os=w.os∧w'.tape=w.tape∧w'.output=w.output
 | [],i,arr,w,hg,hf,hl,h1=>⟨arr,w,rfl,hg,rfl,fun _ _=>rfl,fun j hj=>by simp at hj,fun _ _=>rfl,fun _=>rfl,rfl,rfl,rfl,rfl⟩
 | v::r,i,arr,w,hg,hf,hl,h1=>by
  simp only [kO] at hl
  have hfro:w.frozen? ⟨b,o+i,none⟩=false:=by
   simp only [World.frozen?,hg]
   rcases hf with hf | hf
   ·simp;omega
   ·simp;omega
  have hst:(store ((⟨b,o,none⟩:Addr).add i) v).run P w=.ok () (w.setCell ⟨b,o+i,none⟩ v):=by
   rw [y4h,run_store P w _ v _ (h1 v (by simp)),yao hg (by omega)]
   simp [hfro]
  obtain ⟨arr',w',hr,hb,hs,hlo,hmid,hfar,hn,hsz,h5,h6,h7⟩:=yas b o t fr r (i+1) (arr.setIfInBounds (o+i) v) (w.setCell ⟨b,o+i,none⟩ v) (y7k v hg) (by simpa using hf) (by simp;omega) (fun x hx=>h1 x (by simp [hx]))
  refine ⟨arr',w',?_,hb,by simpa using hs,fun q hq=>?_,fun j hj=>?_,fun k hk=>(hfar k hk).trans (Below.heap_setCell w _ v k hk),fun k=>(hn k).trans (y8y w _ v k),by simpa using hsz,h5,h6,h7⟩
  ·simp only [storeCells,Sem.run_bind,hst,Result.andThen_ok];exact hr
  ·rw [hlo q (by omega)]
   simp [kH,Array.getElem?_setIfInBounds_ne (show o+i≠q by omega)]
  ·cases j with
   | zero=>
    rw [hlo _ (by omega)]
    simp [kH,show o+i<arr.size by omega]
   | succ j=>
    have:=hmid j (by simpa using hj)
    rw [show o+i+(j+1)=o+(i+1)+j by omega,this]
    simp
def K.grown (κ:K) (id n n':Nat) (pl:Nat × Nat) (w:World):K:=
 { pl:=fun k e=>if k=id∧n<e then pl else κ.pl k e,ok:=fun k e=>κ.ok k e∨(k=id∧e≤n'),fz:=κ.fz,ic:=κ.ic,hole:=κ.hole,base:=κ.base,w:=w }
theorem Sim.grow {κ:K} {H:Hp} (S:Sim κ H) {id:Nat} {cs xs:List V} {m:Nat} (hg:H.get id=some (.cells cs m)) {b' o':Nat} {w':World}
  (hfz:∀b,κ.fz b→w'.heap[b]?=κ.w.heap[b]?) (hn:∀b n,y2q κ.w b=some n→y2q w' b=some n) (hsz:κ.w.heap.size≤w'.heap.size)
  (hos:w'.os=κ.w.os) (hta:w'.tape=κ.w.tape) (hou:w'.output=κ.w.output)
  (hoth:∀b,(∀e,m≤e→e≤cs.length→(κ.pl id e).1≠b)→b<κ.w.heap.size→w'.heap[b]?=κ.w.heap[b]?)
  (hold:∀e,m≤e→e≤cs.length→∃arr t fr,w'.heap[(κ.pl id e).1]?=some (.cells arr t fr)∧(κ.pl id e).2+e≤arr.size∧(∀(j:Nat) v,j<e→cs[j]?=some v→VR κ v (arr.getD ((κ.pl id e).2+j) undef))∧(fr.2≤fr.1∨(arr.size≤fr.1∧t=5)))
  (hnew:∃arr t fr,w'.heap[b']?=some (.cells arr t fr)∧o'+(cs++xs).length≤arr.size∧(∀(j:Nat) v,(cs++xs)[j]?=some v→VR κ v (arr.getD (o'+j) undef))∧(fr.2≤fr.1∨(arr.size≤fr.1∧t=5)))
  (hnz:¬κ.fz b') (hb:(κ.w.heap.size≤b')∨(b'=(κ.pl id cs.length).1∧o'=(κ.pl id cs.length).2)):
  κ.Le (κ.grown id cs.length (cs++xs).length (b',o') w')∧Sim (κ.grown id cs.length (cs++xs).length (b',o') w') (H.upd id (.cells (cs++xs) m)):=by
 have hm:=S.le id cs m hg
 have hlt:=S.lt id _ hg
 have plo:∀{k e},(k≠id∨e≤cs.length)→(κ.grown id cs.length (cs++xs).length (b',o') w').pl k e=κ.pl k e:=fun {k e} h=>by
  show (if k=id∧cs.length<e then _ else _)=_
  rw [if_neg (by omega)]
 have pln:∀{e},cs.length<e→(κ.grown id cs.length (cs++xs).length (b',o') w').pl id e=(b',o'):=fun {e} h=>by
  show (if id=id∧cs.length<e then _ else _)=_
  rw [if_pos ⟨rfl,h⟩]
 have le:κ.Le (κ.grown id cs.length (cs++xs).length (b',o') w'):=by
  refine ⟨fun k e o=>⟨.inl o,?_⟩,fun b h=>⟨h,hfz b h⟩,fun b h=>⟨h,hfz b (S.ic b h)⟩,fun _ h=>.inl h,hn,hsz,hos,hta,hou,fun k h=>⟨h,fun e o=>o.elim (fun x=>x) (fun x=>by have:=(S.hole k h).2;rw [x.1,hg] at this;cases this)⟩,rfl,fun b r h=>⟨r,(hoth b (fun e l1 l2 hp=>by
   obtain ⟨⟨arr',t,fr,r1,_⟩,_⟩:=S.cells id cs m hg e l1 l2
   rw [hp,h] at r1;cases r1) (lt_of_some h)).trans h⟩⟩
  by_cases hk:k=id
  ·subst hk;exact plo (.inr ((S.ok k e o).2 cs m hg))
  ·exact plo (.inl hk)
 have blt:∀{k cs0 m0 e0},H.get k=some (.cells cs0 m0)→m0≤e0→e0≤cs0.length→(κ.pl k e0).1<κ.w.heap.size:=fun {k cs0 m0 e0} h1 h2 h3=>by
  obtain ⟨⟨arr,t,fr,hb,_⟩,_⟩:=S.cells k cs0 m0 h1 e0 h2 h3
  exact lt_of_some hb
 have apart:∀{k cs0 m0 e0},k≠id→H.get k=some (.cells cs0 m0)→m0≤e0→e0≤cs0.length→(κ.pl k e0).1≠b':=fun {k cs0 m0 e0} hk h1 h2 h3 hp=>by
  rcases hb with hb | ⟨hb,_⟩
  ·have:=blt h1 h2 h3;omega
  ·exact hk (S.sep k id e0 cs.length cs0 m0 cs m h1 hg h2 h3 hm (kG _) (hp.trans hb))
 refine ⟨le,⟨fun k e=>?_,fun k ho=>?_,fun k blk h=>?_,fun b h=>Nat.lt_of_lt_of_le (S.fz b h) hsz,S.ic,fun k cs' m' h=>?_,fun k cs' m' h e h1 h2=>?_,fun k es h=>?_,fun k k' e e' cs1 m1 cs2 m2 g1 g2 a1 a2 b1 b2 hp=>?_,fun k cs' m' e e' h a1 a2 b1 b2 hp=>?_,fun k k' es es' g1 g2 hp=>?_,S.tb.mono le⟩⟩
 ·show κ.ok k e∨_→_
  simp only [Hp.next_upd,Hp.get_upd]
  rintro (h | ⟨rfl,h⟩)
  ·obtain ⟨h1,h2⟩:=S.ok k e h
   refine ⟨h1,fun cs' m' hg'=>?_⟩
   split at hg'
   ·rename_i x;subst x
    injection hg' with hg';injection hg' with x y;subst x
    have:=h2 cs m hg
    simp;omega
   ·exact h2 cs' m' hg'
  ·refine ⟨hlt,fun cs' m' hg'=>?_⟩
   rw [if_pos rfl] at hg'
   injection hg' with hg';injection hg' with x y;subst x;exact h
 ·obtain ⟨h1,h2⟩:=S.hole k ho
  have hne:k≠id:=fun x=>by subst x;rw [hg] at h2;cases h2
  exact ⟨h1,by simp only [Hp.get_upd];rw [if_neg hne];exact h2⟩
 ·simp only [Hp.get_upd] at h
  split at h
  ·rename_i x;subst x;exact hlt
  ·exact S.lt k blk h
 ·simp only [Hp.get_upd] at h
  split at h
  ·injection h with h;injection h with x y;subst x;subst y;simp;omega
  ·exact S.le k cs' m' h
 ·simp only [Hp.get_upd] at h
  split at h
  ·rename_i x;subst x
   injection h with h;injection h with x y;subst x;subst y
   by_cases he:e≤cs.length
   ·obtain ⟨arr,t,fr,q1,q2,q3,q4⟩:=hold e h1 he
    refine ⟨⟨arr,t,fr,by rw [plo (.inr he)];exact q1,by rw [plo (.inr he)];exact q2,fun j v hj hv=>?_,q4⟩,?_⟩
    ·rw [plo (.inr he)]
     rw [kR (by omega)] at hv
     exact (q3 j v hj hv).mono le
    ·rw [plo (.inr he)];exact (S.cells k cs m hg e h1 he).nfz
   ·obtain ⟨arr,t,fr,q1,q2,q3,q4⟩:=hnew
    refine ⟨⟨arr,t,fr,by rw [pln (by omega)];exact q1,by rw [pln (by omega)];show o'+e≤_;omega,fun j v hj hv=>?_,q4⟩,?_⟩
    ·rw [pln (by omega)];exact (q3 j v hv).mono le
    ·rw [pln (by omega)];exact hnz
  ·rename_i x
   obtain ⟨⟨arr,t,fr,q1,q2,q3,q4⟩,q5⟩:=S.cells k cs' m' h e h1 h2
   refine ⟨⟨arr,t,fr,?_,by rw [plo (.inl x)];exact q2,fun j v hj hv=>by rw [plo (.inl x)];exact (q3 j v hj hv).mono le,q4⟩,by rw [plo (.inl x)];exact q5⟩
   rw [plo (.inl x)]
   exact (hoth _ (fun e0 l1 l2 hp=>x (S.sep id k e0 e cs m cs' m' hg h l1 l2 h1 h2 hp).symm) (blt h h1 h2)).trans q1
 ·simp only [Hp.get_upd] at h
  split at h
  ·cases h
  ·rename_i x
   obtain ⟨⟨xo,q1,q2⟩,q4⟩:=S.maps k es h
   refine ⟨⟨xo,?_,q2.mono le⟩,by rw [plo (.inl x)];exact q4⟩
   rw [plo (.inl x)]
   refine (hoth _ (fun e0 l1 l2 hp=>?_) (lt_of_some q1)).trans q1
   obtain ⟨⟨arr',t,fr,r1,_⟩,_⟩:=S.cells id cs m hg e0 l1 l2
   rw [hp,q1] at r1;injection r1 with r1;subst r1;exact q2.not_cells
 ·simp only [Hp.get_upd] at g1 g2
  by_cases x:k=id <;> by_cases y:k'=id
  ·rw [x,y]
  ·rw [if_neg y] at g2
   rw [plo (.inl y)] at hp
   exfalso
   by_cases he:e≤cs.length
   ·rw [plo (.inr he)] at hp
    subst x
    rw [if_pos rfl] at g1
    injection g1 with g1;injection g1 with x1 x2;subst x1;subst x2
    exact y (S.sep k k' e e' cs m cs2 m2 hg g2 a1 he b1 b2 hp).symm
   ·subst x
    rw [pln (by omega)] at hp
    exact apart y g2 b1 b2 hp.symm
  ·rw [if_neg x] at g1
   rw [plo (.inl x)] at hp
   exfalso
   by_cases he:e'≤cs.length
   ·rw [plo (.inr he)] at hp
    subst y
    rw [if_pos rfl] at g2
    injection g2 with g2;injection g2 with x1 x2;subst x1;subst x2
    exact x (S.sep k k' e e' cs1 m1 cs m g1 hg a1 a2 b1 he hp)
   ·subst y
    rw [pln (by omega)] at hp
    exact apart x g1 a1 a2 hp
  ·rw [if_neg x] at g1
   rw [if_neg y] at g2
   rw [plo (.inl x),plo (.inl y)] at hp
   exact S.sep k k' e e' cs1 m1 cs2 m2 g1 g2 a1 a2 b1 b2 hp
 ·simp only [Hp.get_upd] at h
  split at h
  ·rename_i x;subst x
   injection h with h;injection h with x y;subst x;subst y
   have old:∀{e0},m≤e0→e0≤cs.length→(κ.pl k e0).1=b'→(κ.pl k e0).2=o':=fun {e0} l1 l2 hq=>by
    rcases hb with hb | ⟨hb,ho⟩
    ·have:=blt hg l1 l2;omega
    ·rw [ho];exact S.base k cs m e0 cs.length hg l1 l2 hm (kG _) (hq.trans hb)
   by_cases he:e≤cs.length <;> by_cases he':e'≤cs.length
   ·rw [plo (.inr he),plo (.inr he')] at hp ⊢
    exact S.base k cs m e e' hg a1 he b1 he' hp
   ·rw [plo (.inr he),pln (by omega)] at hp ⊢
    exact old a1 he hp
   ·rw [pln (by omega),plo (.inr he')] at hp ⊢
    exact (old b1 he' hp.symm).symm
   ·rw [pln (by omega),pln (by omega)]
  ·rename_i x
   rw [plo (.inl x),plo (.inl x)] at hp ⊢
   exact S.base k cs' m' e e' h a1 a2 b1 b2 hp
 ·simp only [Hp.get_upd] at g1 g2
  split at g1
  ·cases g1
  ·split at g2
   ·cases g2
   ·rename_i x y
    rw [plo (.inl x),plo (.inl y)] at hp
    exact S.sepm k k' es es' g1 g2 hp
theorem y7o (z:Array Value) (n:Nat):(Builtin.zeroCells z n).size=n*z.size:=by simp [Builtin.zeroCells]
theorem VRs.oneCell {κ:K} {vs:List V} {ls:List Value} (h:VRs κ vs ls) (hc:vs.all y3w=true):∀c∈ls,c.oneCell'=true:=by
 intro c hc'
 obtain ⟨j,hj,rfl⟩:=List.getElem_of_mem hc'
 have hjv:j<vs.length:=by rw [h.1];exact hj
 have:=h.2 j vs[j] (kC hjv)
 simp [List.getD,hj] at this
 exact this.oneCell (List.all_eq_true.1 hc _ (kL hjv))
theorem VRs.get {κ:K} {vs:List V} {ls:List Value} (h:VRs κ vs ls) {j:Nat} {v:V} (hj:vs[j]?=some v):∃c,ls[j]?=some c∧VR κ v c:=by
 have hl:j<ls.length:=by rw [←h.1];exact (List.getElem?_eq_some_iff.1 hj).1
 refine ⟨ls[j],kC hl,?_⟩
 have:=h.2 j v hj
 simpa [List.getD,hl] using this
theorem y9q (a b:List Value) (j:Nat) (h:j<a.length):(a++b).toArray.getD j undef=a.getD j undef:=by
 simp [kH,List.getD,kR h]
theorem ycj (a b:List Value) (j:Nat) (h:a.length≤j):(a++b).toArray.getD j undef=b.getD (j-a.length) undef:=by
 simp [kH,List.getD,kX h]
def ST (κ:K) (T:TypeId):V→Prop
 | .sl (some (id,_,ext)) _ _=>∃n,y2q κ.w (κ.pl id ext).1=some (n,T)∧(κ.pl id ext).2=0
 | _=>True
theorem yeu {P:Program} {sT xT e:TypeId} {i:TypeInfo} {z:Value} (T:AppT P sT xT e i z) (hsz:0<i.size) (hby:0<i.bytes) {κ:K} {H:Hp} (S:Sim κ H) {s x v:V} {H':Hp}
  (h:y28 H i.size i.bytes s x=some (v,H')) {cs cx:Value} (hs:VR κ s cs) (hx:VR κ x cx) (ty:TypeId):
  ∃κ' cv,κ.Le κ'∧Sim κ' H'∧VR κ' v cv∧(Builtin.append_ #[sT,xT] ty #[cs,cx]).run P κ.w=.ok cv κ'.w∧(ST κ e s→ST κ' e v):=by
 unfold y28 at h
 split at h
 ·cases h
 ·rename_i n xs hsl
  obtain ⟨l,hl,hvl,hlen,hfc⟩:=yet (P:=P) S hsl hx
  have hxl:xs.length=n*i.size:=by rw [hvl.1,hl]
  split at h
  ·cases hs with
   | sl0 _ base=>
   split at h
   ·rename_i hn
    injection h with h;injection h with h1 h2;subst h1;subst h2
    subst hn
    have hl0:l=[]:=by cases l <;> simp at hl ⊢
    subst hl0
    obtain ⟨d,hd,hk⟩:=T.hx
    have hm:(match d with | .int _=>true | _=>false)=false:=by cases d <;> first | rfl | exact absurd rfl (hk _)
    refine ⟨κ,_,.refl κ,S,.sl0 _ base,?_,fun _=>trivial⟩
    cases base <;> simp [Builtin.append_,run_underlying T.ht,run_underlying hd,sizeOf,typeInfo,T.hi,hm,hlen,hfc κ.w (fun _=>rfl),storeCells]
   ·rename_i hn
    split at h
    ·rename_i hroom
     injection h with h;injection h with h1 h2;subst h1;subst h2
     obtain ⟨c,hc,hrun⟩:=yec T (ty:=ty) (base:=base) (sLen:=0) (sCap:=0) (old:=[]) hlen (hfc κ.w.drew (fun _=>rfl)) (by cases base <;> simp [Builtin.firstCells,loadCells,loadCellsFrom]) (by omega) hby (by rw [Nat.zero_add];exact hroom)
     simp only [Nat.zero_add,List.nil_append] at hrun hc
     let κ1:K:={ κ with w:=κ.w.drew }
     have S1:Sim κ1 H:=S.drew
     have hv1:=hvl.mono κ.drew_le
     let arr:=(l++(Builtin.zeroCells z.cells (c-n)).toList).toArray
     have hsize:arr.size=n*i.size+(c-n)*i.size:=by simp [arr,y7o,hl,T.hzs]
     have hcn:n*i.size+(c-n)*i.size=c*i.size:=by rw [←Nat.add_mul];congr 1;omega
     have S2:=S1.new xs arr e (by omega) (fun j v hj=>by
      obtain ⟨c',h1,h2⟩:=hv1.get hj
      have hjl:j<l.length:=(List.getElem?_eq_some_iff.1 h1).1
      have:arr.getD j undef=c':=by
       rw [y9q _ _ _ hjl];simp [List.getD,h1]
      rw [this];exact h2)
     refine ⟨κ1.new H.next xs.length (.cells arr e (0,0)),_,κ.drew_le.trans (K.new_le S1 _ _),S2,?_,hrun,fun _=>⟨arr.size,by rw [K.new_pl];show y2q (κ1.w.alloc _) κ1.w.heap.size=_;simp only [y2q,y23],by rw [K.new_pl]⟩⟩
     have hpl:(κ1.new H.next xs.length (.cells arr e (0,0))).pl H.next xs.length=(κ.w.heap.size,0):=K.new_pl _ _ _ _ _
     refine .sl H.next 0 xs.length n i.size c (arr.size,e) _ (K.new_ok _ _ _ _ (kG _)) hsz hc (by omega) (by rw [hxl];simp;exact Nat.mul_le_mul_right _ hc.1) ?_ (by rw [hpl];simp;omega) (fun _=>by rw [hpl])
     rw [hpl]
     show y2q (κ1.w.alloc _) κ1.w.heap.size=_
     simp only [y2q,y23]
    ·cases h
  ·rename_i id off ext len sz'
   split at h
   ·rename_i cs m hg
    split at h
    ·rename_i hcond
     obtain ⟨h1,h2,h3,h4⟩:=hcond
     subst h1;subst h2
     cases hs with
     | sl _ _ _ _ _ cap nn a ok hz hlc hlo hhi hnc hroom ha=>
      have hm:=S.le id cs m hg
      have hlE:=kG cs.length
      split at h
      ·rename_i hn
       injection h with h;injection h with q1 q2;subst q1;subst q2;subst hn
       have hl0:l=[]:=by cases l <;> simp at hl ⊢
       subst hl0
       refine ⟨κ,_,.refl κ,S,.sl id off cs.length len i.size cap nn a ok hz hlc hlo hhi hnc hroom ha,?_,fun h=>h⟩
       have:=ybj T (ty:=ty) (w:=κ.w) (w':=κ.w) (a:=a) (sLen:=len) (sCap:=cap) hlen (hfc κ.w (fun _=>rfl)) (by omega) rfl
       simpa using this
      ·rename_i hn0
       have hn:0<n:=by omega
       split at h
       ·rename_i hend
        obtain ⟨h0,hend⟩:=hend
        subst h0
        injection h with h;injection h with q1 q2;subst q1;subst q2
        obtain ⟨⟨arr,t,fr,r1,r2,r3,r4⟩,r5⟩:=S.cells id cs m hg cs.length hm hlE
        have hnn:nn.1=arr.size:=by simp only [y2q,r1] at hnc;injection hnc with hnc;rw [←hnc]
        by_cases hfit:len+n≤cap
        ·
         have hcap:cap≠0:=by omega
         have hcs:(len+n)*i.size≤cap*i.size:=Nat.mul_le_mul_right _ hfit
         have hsplit:(len+n)*i.size=len*i.size+n*i.size:=Nat.add_mul _ _ _
         obtain ⟨arr',w',s1,s2,s3,s4,s5,s6,s7,s8,s9,s10,s11⟩:=yas (P:=P) (κ.pl id cs.length).1 ((κ.pl id cs.length).2+len*i.size) t fr l 0 arr κ.w r1 r4 (by simp only [Nat.add_zero];omega) (hvl.oneCell h4)
         simp only [Nat.add_zero] at s1 s4 s5
         obtain ⟨le,S'⟩:=S.grow (xs:=xs) hg (b':=(κ.pl id cs.length).1) (o':=(κ.pl id cs.length).2) (w':=w') (fun b hb=>s6 b (fun hbb=>r5 (hbb▸hb))) (fun b n hbn=>by rw [s7];exact hbn) (by omega) s9 s10 s11
          (fun b hb _=>s6 b (fun hbb=>hb cs.length hm hlE hbb.symm))
          (fun e he1 he2=>by
           obtain ⟨⟨arr0,t0,fr0,v1,v2,v3,v4⟩,_⟩:=S.cells id cs m hg e he1 he2
           by_cases hp:(κ.pl id e).1=(κ.pl id cs.length).1
           ·rw [hp,r1] at v1
            injection v1 with v1;injection v1 with x1 x2 x3;subst x1;subst x2;subst x3
            have hbase:=S.base id cs m e cs.length hg he1 he2 hm hlE hp
            refine ⟨arr',t,fr,by rw [hp];exact s2,by omega,fun j v hj hv=>?_,by rw [s3];exact v4⟩
            rw [s4 _ (by omega)]
            exact v3 j v hj hv
           ·exact ⟨arr0,t0,fr0,(s6 _ hp).trans v1,v2,v3,v4⟩)
          ⟨arr',t,fr,s2,by rw [s3,kT,hxl];omega,fun j v hj=>by
           by_cases hjl:j<cs.length
           ·rw [kR hjl] at hj
            rw [s4 _ (by omega)]
            exact r3 j v hjl hj
           ·rw [kX (by omega)] at hj
            obtain ⟨c',g1,g2⟩:=hvl.get hj
            have hjl':j-cs.length<l.length:=(List.getElem?_eq_some_iff.1 g1).1
            have:=s5 _ hjl'
            rw [show (κ.pl id cs.length).2+len*i.size+(j-cs.length)=(κ.pl id cs.length).2+j by omega] at this
            rw [this]
            simp [List.getD,g1];exact g2,by rw [s3];exact r4⟩ r5 (.inr ⟨rfl,rfl⟩)
         refine ⟨_,_,le,S',?_,ybj T (ty:=ty) (w:=κ.w) (w':=w') (a:=a) (sLen:=len) (sCap:=cap) hlen (hfc κ.w (fun _=>rfl)) hfit ?_,fun ⟨k,g1,g2⟩=>?_⟩
         ·have hpos:cs.length<cs.length+xs.length:=by rw [hxl];have:=Nat.mul_pos hn hsz;omega
          have hpl:(κ.grown id cs.length (cs++xs).length ((κ.pl id cs.length).1,(κ.pl id cs.length).2) w').pl id (cs.length+xs.length)=((κ.pl id cs.length).1,(κ.pl id cs.length).2):=by
           show (if id=id∧cs.length<_ then _ else _)=_
           rw [if_pos ⟨rfl,hpos⟩]
          refine .sl id 0 (cs.length+xs.length) (len+n) i.size cap nn a (.inr ⟨rfl,by simp⟩) hsz ⟨hfit,hlc.2⟩ (by omega) (by rw [hxl];omega) ?_ (by rw [hpl];exact hroom) (fun hc=>by rw [hpl];exact ha hc)
          rw [hpl]
          show y2q w' _=_
          rw [s7];exact hnc
         ·rw [ha hcap,y4h]
          simpa using s1
         ·have hpos:cs.length<cs.length+xs.length:=by rw [hxl];have:=Nat.mul_pos hn hsz;omega
          have hpl:(κ.grown id cs.length (cs++xs).length ((κ.pl id cs.length).1,(κ.pl id cs.length).2) w').pl id (cs.length+xs.length)=((κ.pl id cs.length).1,(κ.pl id cs.length).2):=by
           show (if id=id∧cs.length<_ then _ else _)=_
           rw [if_pos ⟨rfl,hpos⟩]
          exact ⟨k,by rw [hpl];show y2q w' _=_;rw [s7];exact g1,by rw [hpl];exact g2⟩
        ·
         have hrd:=rd_ok S (a:=.p (some (id,0,cs.length))) (n:=len*i.size) (vs:=(cs.drop 0).take (len*i.size)) (by simp only [rd,hg];rw [if_pos ⟨hm,by omega⟩]) (.p id 0 cs.length ok)
         obtain ⟨ad,old,e1,e2,_,e3,e4⟩:=hrd
         injection e1 with e1;injection e1 with e1;subst e1
         have hold:∀w',(∀a,w'.cell? a=κ.w.cell? a)→(Builtin.firstCells i.size len (.slice (some a) len cap)).run P w'=.ok old.toArray w':=fun w' hw=>by
          by_cases hc:cap=0
          ·have:len=0:=by omega
           subst this
           have:old=[]:=by cases old <;> simp at e2 ⊢
           subst this
           simp [Builtin.firstCells,loadCells,loadCellsFrom]
          ·rw [ha hc]
           exact run_firstCells_some w' i.size _ _ _ _ old e2 (fun j v hj=>by rw [hw];exact e4 j v hj)
         obtain ⟨c,hc,hrun⟩:=yec T (ty:=ty) (base:=some a) (sLen:=len) (sCap:=cap) (old:=old) hlen (hfc κ.w.drew (fun _=>rfl)) (hold κ.w.drew (fun _=>rfl)) (by omega) hby (by simpa [y4x] using h3)
         let κ1:K:={ κ with w:=κ.w.drew }
         have S1:Sim κ1 H:=S.drew
         have hv1:=hvl.mono κ.drew_le
         have hv2:=e3.mono κ.drew_le
         let arr2:=(old++l++(Builtin.zeroCells z.cells (c-(len+n))).toList).toArray
         have hsize:arr2.size=len*i.size+n*i.size+(c-(len+n))*i.size:=by simp [arr2,y7o,hl,e2,T.hzs,ki]
         have hcn:len*i.size+n*i.size+(c-(len+n))*i.size=c*i.size:=by rw [←Nat.add_mul,←Nat.add_mul];congr 1;omega
         obtain ⟨le,S'⟩:=S1.grow (xs:=xs) hg (b':=κ.w.heap.size) (o':=0) (w':=κ.w.drew.alloc (.cells arr2 e)) (fun b hb=>Below.heap_alloc _ _ _ (S.fz b hb)) (fun b n hbn=>y5c hbn) (by simp [κ1]) rfl rfl rfl
          (fun b _ hb=>Below.heap_alloc _ _ _ hb)
          (fun e0 he1 he2=>by
           obtain ⟨⟨arr0,t0,fr0,v1,v2,v3,v4⟩,_⟩:=S1.cells id cs m hg e0 he1 he2
           exact ⟨arr0,t0,fr0,(Below.heap_alloc _ _ _ (lt_of_some v1)).trans v1,v2,v3,v4⟩)
          ⟨arr2,e,(0,0),y23 _ _,by rw [kT,hxl];omega,fun j v hj=>by
           have h2a:arr2=(old++(l++(Builtin.zeroCells z.cells (c-(len+n))).toList)).toArray:=by simp [arr2]
           simp only [Nat.zero_add]
           rw [h2a]
           by_cases hjl:j<cs.length
           ·rw [kR hjl] at hj
            rw [y9q _ _ _ (by omega)]
            have hj':((cs.drop 0).take (len*i.size))[j]?=some v:=by
             rw [List.drop_zero,kI (by omega)];exact hj
            exact hv2.2 j v hj'
           ·rw [kX (by omega)] at hj
            rw [ycj _ _ _ (by omega)]
            obtain ⟨c',g1,g2⟩:=hv1.get hj
            have hjl':j-cs.length<l.length:=(List.getElem?_eq_some_iff.1 g1).1
            have:(l++(Builtin.zeroCells z.cells (c-(len+n))).toList).getD (j-old.length) undef=c':=by
             rw [show j-old.length=j-cs.length by omega]
             simp [List.getD,kR hjl',g1]
            rw [this];exact g2,.inl (kG _)⟩ (fun hf=>by have:=S.fz _ hf;omega) (.inl (kG _))
         have hpos:cs.length<cs.length+xs.length:=by rw [hxl];have:=Nat.mul_pos hn hsz;omega
         have hpl:(κ1.grown id cs.length (cs++xs).length (κ.w.heap.size,0) (κ.w.drew.alloc (.cells arr2 e))).pl id (cs.length+xs.length)=(κ.w.heap.size,0):=by
          show (if id=id∧cs.length<_ then _ else _)=_
          rw [if_pos ⟨rfl,hpos⟩]
         refine ⟨_,_,κ.drew_le.trans le,S',?_,hrun,fun _=>⟨arr2.size,by rw [hpl];show y2q (κ.w.drew.alloc _) κ.w.drew.heap.size=_;simp only [y2q,y23],by rw [hpl]⟩⟩
         refine .sl id 0 (cs.length+xs.length) (len+n) i.size c (arr2.size,e) _ (.inr ⟨rfl,by simp⟩) hsz hc (by rw [hxl,Nat.add_mul];omega) (by rw [hxl];omega) ?_ (by rw [hpl];simp;omega) (fun _=>by rw [hpl])
         rw [hpl]
         show y2q (κ.w.drew.alloc _) κ.w.drew.heap.size=_
         simp only [y2q,y23]
       ·split at h
        ·rename_i hin
         injection h with h;injection h with q1 q2;subst q1;subst q2
         have hsplit:(len+n)*i.size=len*i.size+n*i.size:=Nat.add_mul _ _ _
         have hfit:len+n≤cap:=by
          have:(len+n)*i.size≤cap*i.size:=by omega
          exact Nat.le_of_mul_le_mul_right this hsz
         have hcap:cap≠0:=by omega
         have hne:xs≠[]:=by
          intro hx0;subst hx0
          have:=Nat.mul_pos hn hsz
          simp at hxl;omega
         obtain ⟨κ',le,S',run,pl',ok'⟩:=Sim.setAll_ok (P:=P) xs l S hg (fun e=>absurd e hne) (off:=off+len*i.size) (i:=0) (by rw [hxl];simp only [Nat.add_zero];omega) (fun v hv=>List.all_eq_true.1 h4 v hv) hvl
         refine ⟨κ',_,le,S',?_,ybj T (ty:=ty) (w:=κ.w) (w':=κ'.w) (a:=a) (sLen:=len) (sCap:=cap) hlen (hfc κ.w (fun _=>rfl)) hfit ?_,fun ⟨k,g1,g2⟩=>⟨k,by rw [pl'];exact le.n _ _ g1,by rw [pl'];exact g2⟩⟩
         ·refine .sl id off cs.length (len+n) i.size cap nn a (ok' _ _ ok) hsz ⟨hfit,hlc.2⟩ hin hhi ?_ (by rw [pl'];exact hroom) (fun hc=>by rw [pl'];exact ha hc)
          rw [pl'];exact le.n _ _ hnc
         ·rw [ha hcap,y4h]
          simpa [ki] using run
        ·cases h
    ·cases h
   ·cases h
  ·cases h
theorem Sim.newObj {κ:K} {H:Hp} (S:Sim κ H) {o:OB} {x:Obj} (ho:OBok κ o x):Sim (κ.new H.next 0 x) (H.add (.obj o)):=by
 have le:=K.new_le S 0 x
 have nope:∀{id blk},H.get id=some blk→id≠H.next:=fun {id blk} h=>Nat.ne_of_lt (S.lt id blk h)
 have plk:∀{id e},id≠H.next→(κ.new H.next 0 x).pl id e=κ.pl id e:=fun {id e} h=>by show (if id=H.next then _ else _)=_;rw [if_neg h]
 have pln:∀{e},(κ.new H.next 0 x).pl H.next e=(κ.w.heap.size,0):=fun {e}=>by show (if H.next=H.next then _ else _)=_;rw [if_pos rfl]
 have oldm:∀{id o},H.get id=some (.obj o)→(κ.pl id 0).1<κ.w.heap.size:=fun {id o} hg=>by
  obtain ⟨⟨x,hb,_⟩,_⟩:=S.maps id o hg
  exact lt_of_some hb
 refine ⟨fun id e=>?_,fun id ho=>?_,fun id blk hg=>?_,fun b h=>?_,S.ic,fun id cs' m hg=>?_,fun id cs' m hg e h1 h2=>?_,fun id o' hg=>?_,fun id id' e e' cs1 m1 cs2 m2 g1 g2 a1 a2 b1 b2 hp=>?_,fun id cs' m e e' hg a1 a2 b1 b2 hp=>?_,fun id id' es es' g1 g2 hp=>?_,S.tb.mono le⟩
 ·rintro (h | ⟨rfl,h⟩)
  ·obtain ⟨h1,h2⟩:=S.ok id e h
   refine ⟨by simp;omega,fun cs' m hg=>?_⟩
   simp only [Hp.get_add] at hg
   rw [if_neg (by omega)] at hg
   exact h2 cs' m hg
  ·refine ⟨by simp,fun cs' m hg=>?_⟩
   simp only [Hp.get_add,if_true] at hg
   injection hg with hg;cases hg
 ·obtain ⟨h1,h2⟩:=S.hole id ho
  exact ⟨by simp;omega,by simp only [Hp.get_add];rw [if_neg (by omega)];exact h2⟩
 ·simp only [Hp.get_add] at hg
  simp only [Hp.next_add]
  split at hg
  ·omega
  ·have:=S.lt id blk hg;omega
 ·have:=S.fz b h;simp [K.new];omega
 ·simp only [Hp.get_add] at hg
  split at hg
  ·injection hg with hg;cases hg
  ·exact S.le id cs' m hg
 ·simp only [Hp.get_add] at hg
  split at hg
  ·injection hg with hg;cases hg
  ·obtain ⟨⟨arr',t',fr',hb,hs,hv',hf⟩,hz⟩:=S.cells id cs' m hg e h1 h2
   refine ⟨⟨arr',t',fr',?_,?_,fun j v a b=>?_,hf⟩,?_⟩
   ·rw [plk (nope hg)];exact (Below.heap_alloc κ.w _ _ (lt_of_some hb)).trans hb
   ·rw [plk (nope hg)];exact hs
   ·rw [plk (nope hg)];exact (hv' j v a b).mono le
   ·rw [plk (nope hg)];exact hz
 ·simp only [Hp.get_add] at hg
  split at hg
  ·rename_i hid
   subst hid
   injection hg with hg;injection hg with hg;subst hg
   refine ⟨⟨x,?_,ho.mono le⟩,?_⟩
   ·rw [pln];exact y23 κ.w _
   ·rw [pln];intro hf;have:=S.fz _ hf;exact Nat.lt_irrefl _ this
  ·obtain ⟨⟨x',hb,ho'⟩,hz⟩:=S.maps id o' hg
   refine ⟨⟨x',?_,ho'.mono le⟩,?_⟩
   ·rw [plk (nope hg)];exact (Below.heap_alloc κ.w _ _ (lt_of_some hb)).trans hb
   ·rw [plk (nope hg)];exact hz
 ·simp only [Hp.get_add] at g1 g2
  split at g1
  ·injection g1 with g1;cases g1
  ·split at g2
   ·injection g2 with g2;cases g2
   ·rename_i x y
    rw [plk x,plk y] at hp
    exact S.sep id id' e e' cs1 m1 cs2 m2 g1 g2 a1 a2 b1 b2 hp
 ·simp only [Hp.get_add] at hg
  split at hg
  ·injection hg with hg;cases hg
  ·rename_i x
   rw [plk x,plk x] at hp ⊢
   exact S.base id cs' m e e' hg a1 a2 b1 b2 hp
 ·simp only [Hp.get_add] at g1 g2
  split at g1 <;> split at g2
  ·rename_i x y;rw [x,y]
  ·rename_i x y
   exfalso
   rw [x,pln,plk y] at hp
   have:=oldm g2
   omega
  ·rename_i x y
   exfalso
   rw [y,pln,plk x] at hp
   have:=oldm g1
   omega
  ·rename_i x y
   rw [plk x,plk y] at hp
   exact S.sepm id id' es es' g1 g2 hp
theorem y4v {w:World} {b b':Nat} {x:Obj} (h:b'≠b):(w.putObj b x).heap[b']?=w.heap[b']?:=World.putObj_heap_other h
theorem Sim.updObj {κ:K} {H:Hp} (S:Sim κ H) {id:Nat} {o o':OB} {x x':Obj} (hg:H.get id=some (.obj o)) (hx:κ.w.heap[(κ.pl id 0).1]?=some x) (ho:OBok κ o' x') (hl:∀r,x=.loop r→∃r',x'=.loop r'):
  κ.Le { κ with w:=κ.w.putObj (κ.pl id 0).1 x' }∧Sim { κ with w:=κ.w.putObj (κ.pl id 0).1 x' } (H.upd id (.obj o')):=by
 obtain ⟨⟨x0,hx0,ho0⟩,hz⟩:=S.maps id o hg
 rw [hx] at hx0;injection hx0 with hx0;subst hx0
 have hlt:=lt_of_some hx
 have le:κ.Le { κ with w:=κ.w.putObj (κ.pl id 0).1 x' }:=by
  refine ⟨fun _ _ h=>⟨h,rfl⟩,fun b h=>⟨h,y4v fun e=>hz (e▸h)⟩,fun b h=>⟨h,y4v fun e=>hz (e▸S.ic b h)⟩,fun _ h=>.inl h,fun b n h=>?_,by simp,rfl,rfl,rfl,fun _ h=>⟨h,fun _ o=>o⟩,rfl,fun b r h=>?_⟩
  ·have hne:b≠(κ.pl id 0).1:=fun e=>by
    subst e
    unfold y2q at h
    rw [hx] at h
    cases ho0 <;> simp at h
   unfold y2q at h ⊢
   show (match (κ.w.putObj (κ.pl id 0).1 x').heap[b]? with | some (.cells c t _)=>some (c.size,t) | _=>none)=some n
   rw [y4v hne];exact h
  ·by_cases e:b=(κ.pl id 0).1
   ·subst e
    rw [hx] at h;injection h with h
    obtain ⟨r',hr'⟩:=hl r h
    exact ⟨r',by rw [←hr'];exact World.putObj_heap_same hlt⟩
   ·exact ⟨r,(y4v e).trans h⟩
 refine ⟨le,fun k e o=>?_,fun k hk=>?_,fun k blk h=>?_,fun b h=>by simpa using S.fz b h,S.ic,fun k cs m h=>?_,fun k cs m h e h1 h2=>?_,fun k o2 h=>?_,fun k k' e e' cs m cs' m' g1 g2 a1 a2 b1 b2 hp=>?_,fun k cs m e e' h a1 a2 b1 b2 hp=>?_,fun k k' o1 o2 g1 g2 hp=>?_,S.tb.mono le⟩
 ·obtain ⟨h1,h2⟩:=S.ok k e o
  refine ⟨h1,fun cs m h=>?_⟩
  simp only [Hp.get_upd] at h
  split at h
  ·injection h with h;cases h
  ·exact h2 cs m h
 ·obtain ⟨h1,h2⟩:=S.hole k hk
  refine ⟨h1,?_⟩
  simp only [Hp.get_upd]
  rw [if_neg (fun e=>by subst e;rw [hg] at h2;cases h2)];exact h2
 ·simp only [Hp.get_upd] at h
  split at h
  ·rename_i e;subst e;exact S.lt _ _ hg
  ·exact S.lt k blk h
 ·simp only [Hp.get_upd] at h
  split at h
  ·injection h with h;cases h
  ·exact S.le k cs m h
 ·simp only [Hp.get_upd] at h
  split at h
  ·injection h with h;cases h
  ·obtain ⟨⟨arr,t,fr,hb,hs,hv,hf⟩,hz'⟩:=S.cells k cs m h e h1 h2
   refine ⟨⟨arr,t,fr,(y4v fun e'=>?_).trans hb,hs,fun j v a b=>(hv j v a b).mono le,hf⟩,hz'⟩
   rw [e',hx] at hb;injection hb with hb;subst hb;exact ho0.not_cells
 ·simp only [Hp.get_upd] at h
  split at h
  ·rename_i e;subst e
   injection h with h;injection h with h;subst h
   exact ⟨⟨x',World.putObj_heap_same hlt,ho.mono le⟩,hz⟩
  ·rename_i hne
   obtain ⟨⟨x2,hb,ho2⟩,hz'⟩:=S.maps k o2 h
   refine ⟨⟨x2,(y4v fun e'=>?_).trans hb,ho2.mono le⟩,hz'⟩
   exact hne (S.sepm k id o2 o h hg e')
 ·simp only [Hp.get_upd] at g1 g2
  split at g1
  ·injection g1 with g1;cases g1
  ·split at g2
   ·injection g2 with g2;cases g2
   ·exact S.sep k k' e e' cs m cs' m' g1 g2 a1 a2 b1 b2 hp
 ·simp only [Hp.get_upd] at h
  split at h
  ·injection h with h;cases h
  ·exact S.base k cs m e e' h a1 a2 b1 b2 hp
 ·simp only [Hp.get_upd] at g1 g2
  have fix:∀{k:Nat} {o1:OB},(if k=id then some (Blk.obj o') else H.get k)=some (.obj o1)→∃o2,H.get k=some (.obj o2):=fun {k o1} h=>by
   split at h
   ·rename_i e;subst e;exact ⟨o,hg⟩
   ·exact ⟨o1,h⟩
  obtain ⟨p1,q1⟩:=fix g1
  obtain ⟨p2,q2⟩:=fix g2
  exact S.sepm k k' p1 p2 q1 q2 hp
end Go.Proofs.YtikpijbeobeckaaGreatDoor.Am
