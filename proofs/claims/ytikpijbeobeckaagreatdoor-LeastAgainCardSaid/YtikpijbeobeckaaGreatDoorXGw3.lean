/- Part 3. -/
import Derived.Test.YtikpijbeobeckaaGreatDoorXGw2
set_option linter.unusedSimpArgs false
set_option linter.unusedVariables false
namespace Go.Proofs.YtikpijbeobeckaaGreatDoor.Am
open Go Go.RowKit
inductive AO where
 | t (n:Nat)
 | c (v:V)
def ev (F:Fr):AO→V
 | .t n=>y6o F n
 | .c v=>v
def evs (F:Fr):List AO→List V
 | []=>[]
 | x::r=>ev F x::evs F r
def isV0:Value→V→Bool
 | _,.junk=>true
 | .bool a,.b x=>a == x
 | .int k n,.i k' m=>decide (k=k')&&n == m
 | .string s,.s x=>s.data.toList == x
 | .pointer none,.p none=>true
 | .slice none 0 0,.sl none 0 _=>true
 | .slice none 0 0,.fs []=>true
 | .map none,.mp none=>true
 | .nilFunc,.nf=>true
 | .nilIface,.nifc=>true
 | _,_=>false
def isVs:List Value→List V→Bool
 | [],[]=>true
 | c::cs,v::vs=>isV0 c v&&isVs cs vs
 | _,_=>false
def isV:Value→V→Bool
 | .agg cs,.agg vs=>isVs cs.toList vs
 | c,v=>isV0 c v
theorem ynx {c:Value} {v:V} (h:isV0 c v=true) (κ:K):VR κ v c:=by
 unfold isV0 at h
 split at h
 ·exact .junk _
 ·simp at h;subst h;exact .b _
 ·simp at h;obtain ⟨rfl,rfl⟩:=h;exact .i _ _
 ·rename_i s x
  have:s=⟨x.toArray⟩:=by
   apply ByteArray.ext;apply Array.ext'
   simpa using h
  rw [this];exact .s _
 ·exact .p0
 ·exact .sl0 _ _
 ·exact .fs (κ:=κ) [] 0 0 0 0 none (fun _ _=>undef) (kG _) (fun e h=>by simp at h) (fun _=>rfl) (fun h=>absurd rfl h) (fun i j e v h=>by simp at h) (fun i j e v h=>by simp at h)
 ·exact .mp0
 ·exact .nf
 ·exact .nifc
 ·cases h
theorem yig:∀{cs:List Value} {vs:List V},isVs cs vs=true→∀κ,VRs κ vs cs
 | [],[],_,κ=>⟨rfl,fun j v h=>by simp at h⟩
 | c::cs,v::vs,h,κ=>by
  simp only [isVs,kF] at h
  obtain ⟨h1,h2⟩:=yig h.2 κ
  refine ⟨by simp [h1],fun j u hj=>?_⟩
  cases j with
  | zero=>simp at hj;subst hj;exact ynx h.1 κ
  | succ j=>simpa using h2 j u (by simpa using hj)
 | [],_::_,h,_=>by cases h
 | _::_,[],h,_=>by cases h
theorem VR.agg' {κ:K} {vs:List V} {cs:Array Value} (h:VRs κ vs cs.toList):VR κ (.agg vs) (.agg cs):=by
 have:=VR.agg (κ:=κ) vs cs.toList h.1 h.2
 simpa using this
theorem VR.tup' {κ:K} {vs:List V} {cs:Array Value} (h:VRs κ vs cs.toList):VR κ (.tup vs) (.tuple cs):=by
 have:=VR.tup (κ:=κ) vs cs.toList h.1 h.2
 simpa using this
theorem isV_ok {c:Value} {v:V} (h:isV c v=true) (κ:K):VR κ v c:=by
 unfold isV at h
 split at h
 ·exact VR.agg' (yig h κ)
 ·exact ynx h κ
def y3z:Operand→AO→Bool
 | .tmp t,.t n=>t == n
 | .const c,.c v=>isV c v
 | .func f,.c (.fn g [])=>f == g
 | _,_=>false
theorem y2b {o:Operand} {x:AO} (h:y3z o x=true) {κ:K} {F:Fr} {a:Act} (r:FR κ F a.tmps):VR κ (ev F x) (a.eval o):=by
 unfold y3z at h
 split at h
 ·simp at h;subst h;exact r _
 ·exact isV_ok h κ
 ·simp at h;subst h;exact .fn _ [] [] rfl (fun j v h=>by simp at h)
 ·cases h
def ycd:List Operand→List AO→Bool
 | [],[]=>true
 | o::os,x::xs=>y3z o x&&ycd os xs
 | _,_=>false
theorem y5s:∀{os:List Operand} {xs:List AO},ycd os xs=true→∀{κ:K} {F:Fr} {a:Act},FR κ F a.tmps→VRs κ (evs F xs) (os.map a.eval)
 | [],[],_,κ,F,a,r=>⟨rfl,fun j v h=>by simp [evs] at h⟩
 | o::os,x::xs,h,κ,F,a,r=>by
  simp only [ycd,kF] at h
  obtain ⟨h1,h2⟩:=y5s h.2 r
  refine ⟨by simp [evs,h1],fun j u hj=>?_⟩
  cases j with
  | zero=>simp [evs] at hj;subst hj;exact y2b h.1 r
  | succ j=>simpa using h2 j u (by simpa [evs] using hj)
 | [],_::_,h,_,_,_,_=>by cases h
 | _::_,[],h,_,_,_,_=>by cases h
def yag:V→Option (List V)
 | .agg cs=>if cs.all y3w then some cs else none
 | v=>if y3w v then some [v] else none
theorem yaf {κ:K} {v:V} {vs:List V} (h:yag v=some vs) {c:Value} (r:VR κ v c):VRs κ vs c.cells.toList∧vs.all y3w=true:=by
 unfold yag at h
 split at h
 ·split at h
  ·rename_i hc
   injection h with h;subst h
   cases r with
   | agg _ cs h1 h2=>exact ⟨by simp [Value.cells];exact ⟨h1,h2⟩,hc⟩
  ·cases h
 ·split at h
  ·rename_i hc
   injection h with h;subst h
   have:c.cells=#[c]:=by cases r <;> first | rfl | (simp [y3w] at hc;done) | (rename_i h0;cases h0 <;> rfl)
   rw [this]
   exact ⟨⟨rfl,fun j u hj=>by
    cases j with
    | zero=>simp at hj;subst hj;exact r
    | succ j=>simp at hj⟩,by simp [hc]⟩
  ·cases h
def yck:List V→List (Nat × Nat × V)→Option (List V)
 | cells,[]=>some cells
 | cells,(off,n,v)::r=>
  match yag v with
  | some vs=>if vs.length=n∧off+n≤cells.length then yck (setAll cells off vs) r else none
  | none=>none
theorem yak:∀(vs cs:List V) (o j:Nat),o+vs.length≤cs.length→(setAll cs o vs)[j]?=if o≤j∧j<o+vs.length then vs[j-o]? else cs[j]?
 | [],cs,o,j,h=>by simp [setAll];intro h1 h2;omega
 | v::r,cs,o,j,h=>by
  simp only [kO] at h
  rw [setAll,yak r (cs.set o v) (o+1) j (by simp;omega)]
  simp only [kO]
  by_cases h1:o+1≤j∧j<o+1+r.length
  ·rw [if_pos h1,if_pos (by omega),show j-o=(j-(o+1))+1 by omega];simp
  ·rw [if_neg h1]
   by_cases h2:j=o
   ·subst h2;rw [if_pos (by omega),List.getElem?_set_self (by omega)];simp
   ·rw [if_neg (by omega),List.getElem?_set_ne (Ne.symm h2)]
theorem yh6:∀(l:List Value) (k off:Nat) (cells:Array Value),
  ((l.zipIdx k).foldl (fun cs (p:Value × Nat)=>cs.setIfInBounds (off+p.2) p.1) cells).size=cells.size∧
  ∀j,((l.zipIdx k).foldl (fun cs (p:Value × Nat)=>cs.setIfInBounds (off+p.2) p.1) cells)[j]?=if off+k≤j∧j<off+k+l.length∧j<cells.size then l[j-(off+k)]? else cells[j]?
 | [],k,off,cells=>⟨rfl,fun j=>by simp;intro h1 h2;omega⟩
 | v::r,k,off,cells=>by
  obtain ⟨h1,h2⟩:=yh6 r (k+1) off (cells.setIfInBounds (off+k) v)
  simp only [List.zipIdx_cons,List.foldl_cons]
  refine ⟨by rw [h1];simp,fun j=>?_⟩
  rw [h2 j]
  simp only [Array.size_setIfInBounds,kO]
  by_cases c1:off+(k+1)≤j∧j<off+(k+1)+r.length∧j<cells.size
  ·rw [if_pos c1,if_pos (by omega),show j-(off+k)=(j-(off+(k+1)))+1 by omega];simp
  ·rw [if_neg c1]
   by_cases c2:j=off+k
   ·subst c2
    by_cases c3:off+k<cells.size
    ·rw [if_pos (by omega)];simp [c3]
    ·rw [if_neg (by omega)];simp [c3]
   ·rw [if_neg (by omega),Array.getElem?_setIfInBounds_ne (Ne.symm c2)]
theorem VRs.of_get {κ:K} {vs:List V} {cs:List Value} (hl:vs.length=cs.length) (h:∀(j:Nat) v,vs[j]?=some v→∃c,cs[j]?=some c∧VR κ v c):VRs κ vs cs:=
 ⟨hl,fun j v hj=>by obtain ⟨c,h1,h2⟩:=h j v hj;simpa [List.getD,h1] using h2⟩
theorem yfx {κ:K} (place:Nat→Option (Nat × Nat)):∀(ps:List (Nat × Value)) (qs:List (Nat × Nat × V)) (cells:Array Value) (vs vs':List V),
  VRs κ vs cells.toList→ps.length=qs.length→(∀(j:Nat) p q,ps[j]?=some p→qs[j]?=some q→place p.1=some (q.1,q.2.1)∧VR κ q.2.2 p.2)→yck vs qs=some vs'→
  ∃cells',Instr.fill place cells ps=some cells'∧VRs κ vs' cells'.toList
 | [],[],cells,vs,vs',hv,_,_,h=>by
  simp only [yck] at h;injection h with h;subst h
  exact ⟨cells,rfl,hv⟩
 | (i,c)::ps,(off,n,v)::qs,cells,vs,vs',hv,hl,hp,h=>by
  obtain ⟨hp0,hv0⟩:=hp 0 _ _ rfl rfl
  simp only [yck] at h
  split at h
  ·rename_i us hus
   split at h
   ·rename_i hb
    obtain ⟨hu1,hu2⟩:=yaf hus hv0
    simp only at hp0
    have hcs:c.cells.size=n:=by have:=hu1.1;simp at this;omega
    have hvl:=hv.1
    simp only [Array.length_toList] at hvl
    obtain ⟨z1,z2⟩:=yh6 c.cells.toList 0 off cells
    have hv':VRs κ (setAll vs off us) ((c.cells.toList.zipIdx.foldl (fun cs (p:Value × Nat)=>cs.setIfInBounds (off+p.2) p.1) cells)).toList:=by
     refine .of_get (by simp only [y9c,Array.length_toList];omega) fun j u hj=>?_
     rw [yak us vs off j (by omega)] at hj
     rw [Array.getElem?_toList,z2 j]
     simp only [Nat.add_zero,Array.length_toList]
     split at hj
     ·rename_i hr
      rw [if_pos (by omega)]
      exact hu1.get hj
     ·rename_i hr
      rw [if_neg (by omega),←Array.getElem?_toList]
      exact hv.get hj
    obtain ⟨cells',e1,e2⟩:=yfx place ps qs _ _ _ hv' (by simpa using hl) (fun j p q h1 h2=>hp (j+1) p q (by simpa using h1) (by simpa using h2)) h
    refine ⟨cells',?_,e2⟩
    simp only [Instr.fill,hp0]
    rw [if_neg (by simp;omega)]
    rw [←e1,←Array.foldl_toList,Array.toList_zipIdx]
   ·cases h
  ·cases h
 | [],_::_,_,_,_,_,hl,_,_=>by simp at hl
 | _::_,[],_,_,_,_,hl,_,_=>by simp at hl
inductive AOp where
 | mov (x:AO)
 | pick (c a b:AO)
 | new (zs:List V)
 | box (x:AO)
 | build (zero:List V) (parts:List (Nat × Nat × AO))
 | bsl (len:Nat) (zero:List V) (parts:List (Nat × Nat × AO))
 | bfz (len sz:Nat) (zero:List V) (parts:List (Nat × Nat × AO))
 | load (agg:Bool) (n:Nat) (a:AO)
 | store (n:Nat) (a x:AO)
 | nilc (x:AO)
 | bin (op:BinOp) (x y:AO)
 | eqk (k:EK) (neg:Bool) (x y:AO)
 | un (op:UnOp) (x:AO)
 | conv (k:IntKind) (x:AO)
 | mkfn (f:FuncId) (caps:List AO)
 | mksl (sz bytes:Nat) (zero:List V) (l c:AO)
 | slc (sz:Nat) (x:AO) (lo hi:Option AO)
 | sls (x:AO) (lo hi:Option AO)
 | fadr (off:Nat) (x:AO)
 | fld (agg:Bool) (off n:Nat) (x:AO)
 | iad (sz:Nat) (x i:AO)
 | idx (x i:AO)
 | ext (n:Nat) (x:AO)
 | len (str:Bool) (x:AO)
 | app (sz bytes:Nat) (s x:AO)
 | mx (xs:List AO)
 | mn (xs:List AO)
 | boxf (x:AO)
 | bz (sz:Nat)
 | slc0 (sz:Nat) (x:AO)
 | b2s (x:AO)
 | s2b (x:AO)
 | iadA (len sz:Nat) (x i:AO)
 | eqa (neg:Bool) (ks:List Nat) (x y:AO)
 | no
 | mkm
 | lkm (ok:Bool) (zv:V) (m k:AO)
 | upm (m k x:AO)
 | rgm (m:AO)
 | enm (x:AO)
 | mkfb (f:FuncId) (bs:List AO)
 | boxT (T:TypeId) (off:Nat) (x:AO)
 | appT (T:TypeId) (sz bytes:Nat) (x y:AO)
 | s2w (x:AO)
 | bslT (T:TypeId) (len:Nat) (zero:List V) (parts:List (Nat × Nat × AO))
 | nilq (x:AO)
def yjq:List (List UInt8 × V)→List UInt8→Option Nat
 | [],_=>none
 | (k',_)::es,k=>if k'=k then some 0 else (yjq es k).map (·+1)
def yfp:List (List UInt8 × V)→List UInt8→Option V
 | [],_=>none
 | (k',v)::es,k=>if k'=k then some v else yfp es k
def mput:List (List UInt8 × V)→List UInt8→V→List (List UInt8 × V)
 | [],k,v=>[(k,v)]
 | (k',u)::es,k,v=>if k'=k then (k,v)::es else (k',u)::mput es k v
def bytesOf:List V→Option (List UInt8)
 | []=>some []
 | .i .u8 n::r=>match bytesOf r with
  | some bs=>some (UInt8.ofNat n.toNat::bs)
  | none=>none
 | _=>none
def y8k:Nat→V→V→Option Bool
 | 0,.i k a,.i k' b=>if k=k' then some (a == b) else none
 | 1,.s a,.s b=>some (a == b)
 | 2,.b a,.b b=>some (a == b)
 | _,_,_=>none
def y51:List Nat→List V→List V→Option Bool
 | [],[],[]=>some true
 | q::qs,x::xs,y::ys=>match y8k q x y with
  | some true=>y51 qs xs ys
  | some false=>some false
  | none=>none
 | _,_,_=>none
def one (agg:Bool) (l:List V):Option V:=
 match agg,l with
 | true,l=>some (.agg l)
 | false,[v]=>some v
 | _,_=>none
def swr (H:Hp) (a:V) (vs:List V):Option Hp:=
 match a with
 | .p (some (id,off,ext))=>
  match H.get id with
  | some (.cells cs m)=>if ext=cs.length∧off+vs.length≤ext∧vs≠[] then some (H.upd id (.cells (setAll cs off vs) cs.length)) else none
  | _=>none
 | _=>none
def bound (F:Fr) (d:Int):Option AO→Option Int
 | none=>some d
 | some x=>match ev F x with
  | .i _ n=>some n
  | _=>none
def y7x (n:Nat) (zero:List V):List V:=
 match zero with
 | [z]=>List.replicate n z
 | _=>(List.replicate n zero).flatten
def maxL:V→List V→Option V
 | .i k n,[]=>some (.i k n)
 | .i k n,.i k' m::r=>maxL (.i k (max n m)) r
 | _,_=>none
def maxs:List V→Option V
 | []=>none
 | x::r=>maxL x r
def minL:V→List V→Option V
 | .i k n,[]=>some (.i k n)
 | .i k n,.i k' m::r=>minL (.i k (min n m)) r
 | _,_=>none
def mins:List V→Option V
 | []=>none
 | x::r=>minL x r
def unV (op:UnOp) (x:V):Option V:=
 match op,x with
 | .not,.b x=>some (.b (!x))
 | .neg,.i k n=>some (.i k (k.wrap (0-n)))
 | .xor,.i k n=>some (.i k (bXor k (if k.signed then -1 else k.max) n))
 | _,_=>none
def evp (F:Fr) (parts:List (Nat × Nat × AO)):List (Nat × Nat × V):=parts.map fun p=>(p.1,p.2.1,ev F p.2.2)
def y2c (op:AOp) (F:Fr) (H:Hp):Option (V × Hp):=
 match op with
 | .mov x=>some (ev F x,H)
 | .pick c a b=>match ev F c with
  | .b x=>some (if x then ev F a else ev F b,H)
  | _=>none
 | .new zs=>some (.p (some (H.next,0,zs.length)),H.add (.cells zs zs.length))
 | .box x=>match yag (ev F x) with
  | some cs=>some (.p (some (H.next,0,cs.length)),H.add (.cells cs cs.length))
  | none=>none
 | .build zero parts=>match yck zero (evp F parts) with
  | some cs=>some (.agg cs,H)
  | none=>none
 | .bsl len zero parts=>match yck (y7x len zero) (evp F parts) with
  | some cs=>some (.sl (some (H.next,0,cs.length)) len zero.length,H.add (.cells cs cs.length))
  | none=>none
 | .bslT T len zero parts=>match yck (y7x len zero) (evp F parts) with
  | some cs=>some (.st T (some (H.next,0,cs.length)) len zero.length,H.add (.cells cs cs.length))
  | none=>none
 | .bfz len sz zero parts=>match yck (y7x len zero) (evp F parts) with
  | some cs=>some (.fs ((List.range len).map fun i=>(cs.drop (i*sz)).take sz),H)
  | none=>none
 | .load agg n a=>match rd H (ev F a) n with
  | some vs=>(one agg vs).map fun v=>(v,H)
  | none=>none
 | .store n a x=>match yag (ev F x) with
  | some vs=>if vs.length=n then (swr H (ev F a) vs).map fun H'=>(.junk,H') else none
  | none=>none
 | .nilc x=>match ev F x with
  | .p (some a)=>some (.p (some a),H)
  | .fp cs o=>some (.fp cs o,H)
  | .fn f cs=>some (.fn f cs,H)
  | .ifc t v=>some (.ifc t v,H)
  | _=>none
 | .bin op x y=>(binV op (ev F x) (ev F y)).map fun v=>(v,H)
 | .eqk k neg x y=>(eqK k (ev F x) (ev F y)).map fun r=>(.b (if neg then !r else r),H)
 | .un op x=>(unV op (ev F x)).map fun v=>(v,H)
 | .conv k x=>match ev F x with
  | .i _ n=>some (.i k (k.wrap n),H)
  | _=>none
 | .mkfn f caps=>some (.fn f (evs F caps),H)
 | .mkfb f bs=>some (.fb f (evs F bs),H)
 | .appT T sz bytes x y=>match ev F x with
  | .st T' a l s=>if T'=T then match y28 H sz bytes (.sl a l s) (ev F y) with
    | some (.sl a2 l2 s2,H2)=>some (.st T a2 l2 s2,H2)
    | _=>none
   else none
  | .sl none 0 z=>match y28 H sz bytes (.sl none 0 z) (ev F y) with
    | some (.sl a2 l2 s2,H2)=>some (.st T a2 l2 s2,H2)
    | _=>none
  | _=>none
 | .boxT T off x=>match yag (ev F x) with
  | some cs=>match cs[off]? with
   | some (.p none)=>some (.p (some (H.next,0,cs.length)),H.add (.cells (cs.set off (.pz T cs.length H.next cs.length)) cs.length))
   | _=>none
  | none=>none
 | .mksl sz bytes zero l c=>match ev F l,ev F c with
  | .i _ n,.i _ m=>if 0≤n∧n≤m∧m*bytes≤y4x∧0<bytes∧0<sz∧zero.length=sz then
    some (.sl (some (H.next,0,n.toNat*sz)) n.toNat sz,H.add (.cells (y7x n.toNat zero) (n.toNat*sz))) else none
  | _,_=>none
 | .slc sz x lo hi=>match ev F x with
  | .sl none 0 _=>match bound F 0 lo,bound F 0 hi with
   | some l,some h=>if l=0∧h=0 then some (.sl none 0 sz,H) else none
   | _,_=>none
  | .sl (some (id,off,ext)) len sz'=>match bound F 0 lo,bound F len hi with
   | some l,some h=>if sz'=sz∧0≤l∧l≤h∧off+h.toNat*sz≤ext then some (.sl (some (id,off+l.toNat*sz,ext)) (h.toNat-l.toNat) sz,H) else none
   | _,_=>none
  | .fs es=>match bound F 0 lo,bound F es.length hi with
   | some l,some h=>if 0≤l∧l≤h∧h≤es.length∧es.all (fun e=>e.length == sz) then some (.fs ((es.take h.toNat).drop l.toNat),H) else none
   | _,_=>none
  | _=>none
 | .sls x lo hi=>match ev F x with
  | .s bs=>match bound F 0 lo,bound F bs.length hi with
   | some l,some h=>if 0≤l∧l≤h∧h≤bs.length then some (.s ((bs.take h.toNat).drop l.toNat),H) else none
   | _,_=>none
  | _=>none
 | .fadr off x=>match ev F x with
  | .p (some (id,o,ext))=>some (.p (some (id,o+off,ext)),H)
  | .fp cs o=>some (.fp cs (o+off),H)
  | _=>none
 | .fld agg off n x=>match ev F x with
  | .agg cs=>if off+n≤cs.length then (one agg ((cs.drop off).take n)).map fun v=>(v,H) else none
  | _=>none
 | .iad sz x i=>match ev F i with
  | .i _ n=>match ev F x with
   | .sl (some (id,off,ext)) len sz'=>if sz'=sz∧0≤n∧n<len then some (.p (some (id,off+n.toNat*sz,ext)),H) else none
   | .fs es=>if 0≤n then match es[n.toNat]? with
     | some e=>if e.length=sz then some (.fp e 0,H) else none
     | none=>none
    else none
   | _=>none
  | _=>none
 | .idx x i=>match ev F x,ev F i with
  | .s bs,.i _ n=>if 0≤n then match bs[n.toNat]? with
    | some b=>some (.i .u8 b.toNat,H)
    | none=>none
   else none
  | _,_=>none
 | .ext n x=>match ev F x with
  | .tup vs=>match vs[n]? with
   | some v=>some (v,H)
   | none=>none
  | _=>none
 | .len str x=>match str,ev F x with
  | true,.s bs=>some (.i .i64 bs.length,H)
  | false,.sl _ n _=>some (.i .i64 n,H)
  | false,.fs es=>some (.i .i64 es.length,H)
  | _,_=>none
 | .app sz bytes s x=>y28 H sz bytes (ev F s) (ev F x)
 | .mx xs=>(maxs (evs F xs)).map fun v=>(v,H)
 | .mn xs=>(mins (evs F xs)).map fun v=>(v,H)
 | .boxf x=>match yag (ev F x) with
  | some cs=>some (.fp cs 0,H)
  | none=>none
 | .bz sz=>some (.sl none 0 sz,H)
 | .slc0 sz x=>match ev F x with
  | .sl none 0 _ | .sl (some _) _ _ | .fs _=>some (.sl none 0 sz,H)
  | _=>none
 | .b2s x=>match y4e H 1 (ev F x) with
  | some (_,cs)=>match ev F x with
   | .s _=>none
   | _=>(bytesOf cs).map fun bs=>(.s bs,H)
  | none=>none
 | .s2b x=>match ev F x with
  | .s bs=>some (.fs (bs.map fun b=>[.i .u8 b.toNat]),H)
  | _=>none
 | .s2w x=>match ev F x with
  | .s bs=>if bs.length≤9223372036854775807 then some (.sl (some (H.next,0,bs.length)) bs.length 1,H.add (.cells (bs.map fun b=>.i .u8 b.toNat) bs.length)) else none
  | _=>none
 | .iadA len sz x i=>match ev F i with
  | .i _ n=>if 0≤n∧n<len then match ev F x with
    | .p (some (id,off,ext))=>some (.p (some (id,off+n.toNat*sz,ext)),H)
    | .fp cs off=>some (.fp cs (off+n.toNat*sz),H)
    | _=>none
   else none
  | _=>none
 | .no=>none
 | .mkm=>some (.mp (some H.next),H.add (.obj (.map [])))
 | .lkm ok zv m k=>match ev F k with
  | .s k=>match ev F m with
   | .mp none=>some (if ok then .tup [zv,.b false] else zv,H)
   | .mp (some id)=>match H.get id with
    | some (.obj (.map es))=>some (if ok then .tup [(yfp es k).getD zv,.b (yfp es k).isSome] else (yfp es k).getD zv,H)
    | _=>none
   | _=>none
  | _=>none
 | .upm m k x=>match ev F k with
  | .s k=>match ev F m with
   | .mp (some id)=>match H.get id with
    | some (.obj (.map es))=>some (.junk,H.upd id (.obj (.map (mput es k (ev F x)))))
    | _=>none
   | _=>none
  | _=>none
 | .rgm m=>match ev F m with
  | .mp (some id)=>match H.get id with
   | some (.obj (.map es))=>some (.it H.next,H.add (.obj (.iter id es.length [])))
   | _=>none
  | _=>none
 | .enm x=>match ev F x with
  | .it id=>match H.get id with
   | some (.obj (.iter m n seen))=>match H.get m with
    | some (.obj (.map es))=>match seen.getLast? with
     | some j=>match es[j]? with
      | some (k,v)=>if n=es.length then some (.tup [.s k,v],H) else none
      | none=>none
     | none=>none
    | _=>none
   | _=>none
  | _=>none
 | .nilq x=>match ev F x with
  | .sl (some _) _ _=>some (.b false,H)
  | .sl none 0 _=>some (.jb,H)
  | .fs []=>some (.jb,H)
  | .fs (_::_)=>some (.b false,H)
  | _=>none
 | .eqa neg ks x y=>match ev F x,ev F y with
  | .agg xs,.agg ys=>(y51 ks xs ys).map fun r=>(.b (if neg then !r else r),H)
  | _,_=>none
def szP (P:Program) (t:TypeId):Option Nat:=(P.info? t).map (·.size)
def aggP (P:Program) (t:TypeId):Option Bool:=(P.underlying t).map fun | .struct _ | .array _ _=>true | _=>false
def yly (P:Program) (t:TypeId):Option (List Value):=((P.info? t).bind (·.zero)).map fun z=>z.cells.toList
def y83 (P:Program) (t:TypeId):Option TypeId:=match P.underlying t with | some (.slice e)=>some e | _=>none
def zOk (P:Program) (t:TypeId) (zs:List V):Bool:=match yly P t with | some cs=>isVs cs zs | none=>false
def yd2:Option Operand→Option AO→Bool
 | none,none=>true
 | some o,some x=>y3z o x
 | _,_=>false
def yn9 (P:Program) (t:TypeId):Option (Nat→Option (Nat × Nat)):=
 match P.underlying t with
 | some (.struct fs)=>match fs.toList.mapM (fun f=>(P.info? f.type).map fun i=>(f.offset,i.size)) with
  | some ps=>some (ps.toArray[·]?)
  | none=>none
 | some (.array _ e)=>match szP P e with
  | some n=>some fun i=>some (i*n,n)
  | none=>none
 | _=>none
def y7z (place:Nat→Option (Nat × Nat)):List (Nat × Operand)→List (Nat × Nat × AO)→Bool
 | [],[]=>true
 | (i,o)::ps,(off,n,x)::qs=>place i == some (off,n)&&y3z o x&&y7z place ps qs
 | _,_=>false
def ekC (k:EK) (o:Operand):Bool:=match k with | .ifn=>isC o | _=>true
def eqkP (P:Program) (k:EK) (t:TypeId):Bool:=match P.underlying t with | some d=>k.fits d | none=>false
def ynz:TypeDesc→Bool | .int _=>true | _=>false
def appP (P:Program) (sz bytes:Nat) (ts:List TypeId):Bool:=
 match ts with
 | [sT,xT]=>
  match P.underlying sT,P.underlying xT with
  | some (.slice e),some d=>!ynz d&&(match P.info? e with
   | some i=>i.size == sz&&i.bytes == bytes&&decide (0<sz)&&decide (0<bytes)&&(match i.zero with | some z=>z.cells.size == sz | none=>false)
   | none=>false)
  | _,_=>false
 | _=>false
def lenT:Bool→TypeDesc→Bool | true,.string=>true | false,.slice _=>true | _,_=>false
def yb6 (P:Program) (t:TypeId):Nat→Bool
 | 0=>(match P.underlying t with | some (.int _)=>true | _=>false)
 | 1=>(match P.underlying t with | some .string=>true | _=>false)
 | 2=>(match P.underlying t with | some .bool=>true | _=>false)
 | _=>false
def yk3 (P:Program):Nat→List Field→List Nat→Bool
 | _,[],[]=>true
 | k,f::fs,q::qs=>f.name != "_"&&f.offset == k&&yb6 P f.type q&&yk3 P (k+1) fs qs
 | _,_,_=>false
def flatP (P:Program) (t:TypeId) (ks:List Nat):Bool:=match P.underlying t with
 | some (.struct fs)=>yk3 P 0 fs.toList ks&&!P.stoodInHeld t&&!P.eqGuardType P.depth t
 | _=>false
def mapP (P:Program) (t:TypeId):Option TypeId:=match P.underlying t with
 | some (.map k e)=>match P.underlying k with
  | some .string=>some e
  | _=>none
 | _=>none
def yny:Operand→Bool
 | .const (.slice none 0 0)=>true
 | _=>false
def zvP (P:Program) (e:TypeId) (zv:V):Bool:=match (P.info? e).bind (·.zero) with
 | some z=>isV z zv
 | none=>false
def okOp (P:Program) (o:Op) (a:AOp):Bool:=
 match o,a with
 | .move x,.mov y | .assign x,.mov y=>y3z x y
 | .pick c x y,.pick c' x' y'=>y3z c c'&&y3z x x'&&y3z y y'
 | .alloc e,.new zs=>zOk P e zs&&zs.all y3w&&szP P e == some zs.length
 | .box e x,.box y=>y3z x y
 | .build t ps,.build zero qs=>zOk P t zero&&(match yn9 P t with | some pl=>y7z pl ps.toList qs | none=>false)
 | .buildSlice t n ps,.bsl n' zero qs=>n == n'&&decide (0<zero.length)&&decide (n*zero.length≤2 ^ 24)&&(match y83 P t with
  | some e=>zOk P e zero&&szP P e == some zero.length&&y7z (fun i=>some (i*zero.length,zero.length)) ps.toList qs
  | none=>false)
 | .buildSlice t n ps,.bfz n' sz zero qs=>n == n'&&sz == zero.length&&decide (0<sz)&&decide (n*sz≤2 ^ 24)&&(match y83 P t with
  | some e=>zOk P e zero&&szP P e == some sz&&y7z (fun i=>some (i*sz,sz)) ps.toList qs
  | none=>false)
 | .load t x,.load agg n y=>y3z x y&&aggP P t == some agg&&(if agg then szP P t == some n else n == 1)
 | .store t x v,.store n x' v'=>y3z x x'&&y3z v v'&&szP P t == some n
 | .nilCheck x,.nilc y=>y3z x y
 | .binOp op t x y _,.bin op' x' y'=>decide (op=op')&&y3z x x'&&y3z y y'
 | .binOp op t x y _,.eqk k neg x' y'=>decide (op=if neg then .neq else .eql)&&eqkP P k t&&y3z x x'&&y3z y y'&&ekC k y
 | .unOp op _ x,.un op' y=>decide (op=op')&&y3z x y
 | .convert s d x,.conv k y=>y3z x y&&(match P.underlying s,P.underlying d with | some _,some (.int k')=>decide (k=k') | _,_=>false)
 | .makeFunc (.func f) first caps,.mkfn g xs=>f == g&&first.isEmpty&&ycd caps.toList xs
 | .makeSlice t l c,.mksl sz bytes zero l' c'=>y3z l l'&&y3z c c'&&(match y83 P t with
  | some e=>zOk P e zero&&(match P.info? e with | some i=>i.size == sz&&i.bytes == bytes | none=>false)
  | none=>false)
 | .slice t x lo hi none,.slc sz y lo' hi'=>y3z x y&&yd2 lo lo'&&yd2 hi hi'&&decide (0<sz)&&(match y83 P t with | some e=>szP P e == some sz | none=>false)
 | .slice t x lo hi none,.sls y lo' hi'=>y3z x y&&yd2 lo lo'&&yd2 hi hi'&&(match P.underlying t with | some .string=>true | _=>false)
 | .fieldAddr t x f,.fadr off y=>y3z x y&&(match P.underlying t with
  | some (.struct fs)=>(match fs[f]? with | some fd=>fd.offset == off&&(match szP P fd.type with | some n=>decide (0<n) | none=>false) | none=>false)
  | _=>false)
 | .field t x f,.fld agg off n y=>y3z x y&&(match P.underlying t with
  | some (.struct fs)=>(match fs[f]? with | some fd=>fd.offset == off&&aggP P fd.type == some agg&&(if agg then szP P fd.type == some n else n == 1) | none=>false)
  | _=>false)
 | .indexAddr t x i,.iad sz y j=>y3z x y&&y3z i j&&(match y83 P t with | some e=>szP P e == some sz | none=>false)
 | .index t x i,.idx y j=>y3z x y&&y3z i j&&(match P.underlying t with | some .string=>true | _=>false)
 | .extract x n,.ext m y=>n == m&&y3z x y
 | .call ⟨.builtin .len,args,ts⟩,.len str y=>(match args.toList,ts.toList with
  | [x],[t]=>y3z x y&&(match P.underlying t with | some d=>lenT str d | none=>false)
  | _,_=>false)
 | .call ⟨.builtin .append,args,ts⟩,.app sz bytes s y=>(match args.toList with
  | [a,b]=>y3z a s&&y3z b y&&appP P sz bytes ts.toList
  | _=>false)
 | .box e x,.boxf y=>y3z x y
 | .buildSlice t n ps,.bz sz=>n == 0&&ps.isEmpty&&(match y83 P t with | some e=>(szP P e).isSome | none=>false)
 | .slice t x lo (some (.const (.int k 0))) (some (.const (.int k' 0))),.slc0 sz y=>y3z x y&&lo.isNone&&(match y83 P t with | some e=>szP P e == some sz | none=>false)
 | .convert s d x,.b2s y=>y3z x y&&(match P.underlying s,P.underlying d with
  | some (.slice e),some .string=>(match P.underlying e with | some (.int .u8)=>true | _=>false)
  | _,_=>false)
 | .convert s d x,.s2b y=>y3z x y&&(match P.underlying s,P.underlying d with
  | some .string,some (.slice e)=>(match P.underlying e with | some (.int .u8)=>true | _=>false)
  | _,_=>false)
 | .indexAddr t x i,.iadA len sz y j=>y3z x y&&y3z i j&&(match P.underlying t with
  | some (.array n e)=>n == len&&szP P e == some sz
  | _=>false)
 | .call ⟨.builtin .max,args,_⟩,.mx xs=>ycd args.toList xs
 | .call ⟨.builtin .min,args,_⟩,.mn xs=>ycd args.toList xs
 | .binOp op t x y _,.eqa neg ks x' y'=>decide (op=if neg then .neq else .eql)&&flatP P t ks&&y3z x x'&&y3z y y'
 | .makeInterface _ _,.no=>true
 | .panic _,.no=>true
 | .makeMap _ none,.mkm=>true
 | .lookup t m k ok,.lkm ok' zv m' k'=>ok == ok'&&y3z m m'&&y3z k k'&&(match mapP P t with | some e=>zvP P e zv | none=>false)
 | .mapUpdate t m k x,.upm m' k' x'=>y3z m m'&&y3z k k'&&y3z x x'&&(mapP P t).isSome
 | .insert t m k x,.upm m' k' x'=>y3z m m'&&y3z k k'&&y3z x x'&&(mapP P t).isSome
 | .range t x,.rgm m=>y3z x m&&(mapP P t).isSome
 | .entry x,.enm y=>y3z x y
 | .makeFunc (.func f) first caps,.mkfb g xs=>f == g&&caps.isEmpty&&ycd first.toList xs
 | .box e x,.boxT T _ y=>e == T&&y3z x y
 | .call ⟨.builtin .append,args,ts⟩,.appT T sz bytes s y=>(match args.toList with
   | [x,z]=>y3z x s&&y3z z y&&appP P sz bytes ts.toList&&(match ts.toList with | sT::_=>y83 P sT == some T | _=>false)
   | _=>false)
 | .convert s d x,.s2w y=>y3z x y&&(match P.underlying s,P.underlying d with
  | some .string,some (.slice e)=>e == 5&&(match P.underlying e with | some (.int .u8)=>true | _=>false)
  | _,_=>false)
 | .buildSlice t n ps,.bslT T n' zero qs=>n == n'&&decide (0<zero.length)&&decide (n*zero.length≤2 ^ 24)&&(match y83 P t with
  | some e=>e == T&&zOk P e zero&&szP P e == some zero.length&&y7z (fun i=>some (i*zero.length,zero.length)) ps.toList qs
  | none=>false)
 | .binOp op t x y _,.nilq x'=>decide (op=.eql)&&y3z x x'&&yny y&&(y83 P t).isSome
 | _,_=>false
def y4s (P:Program) (o:Oper) (op:AOp):Prop:=
 ∀(F:Fr) (H:Hp) (v:V) (H':Hp),y2c op F H=some (v,H')→∀(κ:K) (a:Act),Sim κ H→FR κ F a.tmps→
  ∃κ' nx cv,κ.Le κ'∧Sim κ' H'∧VR κ' v cv∧(execOp a.eval o).run P κ.w=.ok nx κ'.w∧(nx=.value cv∨(nx=.skip∧cv=undef))
end Go.Proofs.YtikpijbeobeckaaGreatDoor.Am
