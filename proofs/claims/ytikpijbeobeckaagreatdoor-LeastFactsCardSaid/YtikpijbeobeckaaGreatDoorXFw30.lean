/- Part 30. -/
import Derived.Test.YtikpijbeobeckaaGreatDoorCards
import Derived.Test.YtikpijbeobeckaaGreatDoorTie
import Derived.WalkKit
import Derived.ProofKit
import Derived.OpenShut
import Derived.Deep.DeepHandedRow
import Derived.Deep.DeepWitnessRowRef
import Derived.Lib.LaidTab
import Derived.Lib.LaidIn
import Derived.Lib.LaidU8
import Derived.Test.YtikpijbeobeckaaGreatDoorXFw18
import Derived.Test.YtikpijbeobeckaaGreatDoorXFw29
set_option linter.unusedSimpArgs false
set_option linter.unusedVariables false
namespace Go.Proofs.YtikpijbeobeckaaGreatDoor.Am
open Go Go.RowKit Go.WideShapes Go.ChangeShapes Go.ChangeAt
mutual
inductive IsZ:Ty→List V→Prop
 | bool (x:Bool):IsZ .bool [.b x]
 | int (k:IntKind) (n:Int):inInt k n→IsZ (.int k) [.i k n]
 | str (x:List UInt8):x.length≤140737488351232→IsZ .str [.s x]
 | sl (e:Ty) (es:List (List V)):es.length≤140737488351232→(∀x,x∈es→IsZ e x)→IsZ (.sl e) [.fs es]
 | st (fs:List Ty) (vs:List V):IsZs fs vs→IsZ (.st fs) vs
inductive IsZs:List Ty→List V→Prop
 | nil:IsZs [] []
 | cons (t:Ty) (ts:List Ty) (a b:List V):IsZ t a→IsZs ts b→IsZs (t::ts) (a++b)
end
def yow (P:Program) (go:TypeId→Option Ty) (off:Nat):List Field→Option (List Ty × Nat)
 | []=>some ([],off)
 | f::fs=>
  if f.offset=off then
   match go f.type,yow P go (off+P.cellsOf f.type) fs with
   | some T,some (Ts,n)=>some (T::Ts,n)
   | _,_=>none
  else none
def yct (P:Program):Nat→TypeId→Option Ty
 | 0,_=>none
 | d+1,t=>
  match P.underlying t with
  | some .bool=>some .bool
  | some (.int k)=>some (.int k)
  | some .string=>some .str
  | some (.slice e)=>if 0<P.cellsOf e∧0<P.bytesOf e then (yct P d e).map .sl else none
  | some (.struct fs)=>match yow P (yct P d) 0 fs.toList with
   | some (ts,n)=>if n=P.cellsOf t then some (.st ts) else none
   | none=>none
  | some (.array n e)=>match yct P d e with
   | some T=>if n*P.cellsOf e=P.cellsOf t∧n≤64 then some (.st (List.replicate n T)) else none
   | none=>none
  | _=>none
theorem yaf {H:Type} {P:Program} {e:TypeId}:∀{l:List (DataW H)} {d:DataW H},d∈l→∀{n:Nat},n∈d.weights P e→n∈DataW.weightsAll P e l
 | x::l,d,h,n,hn=>by
  simp only [DataW.weightsAll,kZ]
  rcases List.mem_cons.1 h with rfl | h
  ·exact .inl hn
  ·exact .inr (yaf h hn)
section
variable {H:Type} {enc:TypeId × Value→H} {P:Program} {w:World} {spare:Nat→Bool} {held:Bool}
theorem yk8 {t e:TypeId} {n fuel:Nat} {cs:List Value} {x:DataW H × List MemPlace} (ht:P.underlying t=some (.array n e)) (h:DataW.trod enc P w 0 spare held fuel t cs=some x):
  ∃(xs:List (DataW H × List MemPlace)) (m:Nat),fuel=m+1∧x.1=.agg (xs.map (·.1))∧cs.length=P.cellsOf t∧xs.length=n∧∀i,i<n→DataW.trod enc P w 0 spare held m e ((cs.drop (i*P.cellsOf e)).take (P.cellsOf e))=xs[i]?:=by
 cases fuel with
 | zero=>simp [DataW.trod] at h
 | succ m=>
  unfold DataW.trod at h
  rw [ht] at h
  split at h <;> simp_all
  obtain ⟨hl,xs,hp,hd⟩:=h
  obtain ⟨h1,h2⟩:=yhw _ _ _ hp
  refine ⟨xs,by rw [←hd],by simpa using h1,fun i hi=>?_⟩
  obtain ⟨y,q1,q2⟩:=h2 i i (by simp [hi])
  rw [q2,q1]
theorem yli (fuel d:Nat) (cs:List Value) (ih:∀(t:TypeId) (T:Ty) (cs:List Value) (x:DataW H × List MemPlace),yct P d t=some T→DataW.trod enc P w 0 spare held fuel t cs=some x→(∀n∈x.1.weights P t,n≤140737488351232)→∃vs,VRs (K.start w) vs cs∧IsZ T vs):
  ∀(fs:List Field) (off:Nat) (Ts:List Ty) (n:Nat),yow P (yct P d) off fs=some (Ts,n)→(∀f∈fs,∃x,DataW.trod enc P w 0 spare held fuel f.type ((cs.drop f.offset).take (P.cellsOf f.type))=some x∧∀n∈x.1.weights P f.type,n≤140737488351232)→
   ∃vs,VRs (K.start w) vs ((cs.drop off).take (n-off))∧IsZs Ts vs∧off≤n
 | [],off,Ts,n,h,_=>by
  unfold yow at h
  injection h with h;injection h with h1 h2;subst h1;subst h2
  exact ⟨[],⟨by simp,fun j v h=>by simp at h⟩,.nil,kG _⟩
 | f::fs,off,Ts,n,h,hx=>by
  unfold yow at h
  split at h
  ·rename_i hoff
   split at h
   ·rename_i T Ts' n' h1 h2
    injection h with h;injection h with e1 e2;subst e1;subst e2
    obtain ⟨x,hx0,hxB⟩:=hx f (by simp)
    obtain ⟨va,ra,ia⟩:=ih _ _ _ _ h1 hx0 hxB
    obtain ⟨vb,rb,ib,hle⟩:=yli fuel d cs ih fs _ _ _ h2 (fun g hg=>hx g (by simp [hg]))
    refine ⟨va++vb,?_,.cons _ _ _ _ ia ib,by omega⟩
    rw [hoff] at ra
    have e:(cs.drop off).take (n'-off)=(cs.drop off).take (P.cellsOf f.type)++(cs.drop (off+P.cellsOf f.type)).take (n'-(off+P.cellsOf f.type)):=by
     have:n'-off=P.cellsOf f.type+(n'-(off+P.cellsOf f.type)):=by omega
     rw [this,List.take_add,List.drop_drop]
     try (congr 2;omega)
    rw [e]
    exact ra.append rb
   ·cases h
  ·cases h
theorem yrj {T:Ty} (cs:List Value) (n c:Nat) (h:∀i,i<n→∃vs,VRs (K.start w) vs ((cs.drop (i*c)).take c)∧IsZ T vs):∀k,k≤n→∃vs,VRs (K.start w) vs ((cs.drop ((n-k)*c)).take (k*c))∧IsZs (List.replicate k T) vs
 | 0,_=>⟨[],⟨by simp,fun j v h=>by simp at h⟩,.nil⟩
 | k+1,hk=>by
  obtain ⟨va,ra,ia⟩:=h (n-(k+1)) (by omega)
  obtain ⟨vb,rb,ib⟩:=yrj cs n c h k (by omega)
  refine ⟨va++vb,?_,by rw [List.replicate_succ];exact .cons _ _ _ _ ia ib⟩
  have e1:(n-k)*c=(n-(k+1))*c+c:=by rw [←Nat.succ_mul];congr 1;omega
  rw [e1] at rb
  have e:(cs.drop ((n-(k+1))*c)).take ((k+1)*c)=(cs.drop ((n-(k+1))*c)).take c++(cs.drop ((n-(k+1))*c+c)).take (k*c):=by
   rw [show (k+1)*c=c+k*c by rw [Nat.succ_mul,Nat.add_comm],List.take_add,List.drop_drop]
  rw [e]
  exact ra.append rb
theorem yey:∀(fuel d:Nat) (t:TypeId) (T:Ty) (cs:List Value) (x:DataW H × List MemPlace),yct P d t=some T→DataW.trod enc P w 0 spare held fuel t cs=some x→(∀n∈x.1.weights P t,n≤140737488351232)→
  ∃vs,VRs (K.start w) vs cs∧IsZ T vs
 | 0,_,_,_,_,_,_,h,_=>by simp [DataW.trod] at h
 | fuel+1,0,_,_,_,_,h,_,_=>by simp [yct] at h
 | fuel+1,d+1,t,T,cs,x,hT,h,hB=>by
  unfold yct at hT
  cases hu:P.underlying t with
  | none=>simp [hu] at hT
  | some desc=>
   simp only [hu] at hT
   cases desc <;> simp only [reduceCtorEq] at hT
   case bool=>
    injection hT with hT;subst hT
    obtain ⟨b,rfl,_⟩:=DataW.trod_bool hu h
    exact ⟨[.b b],.single (.b b),.bool b⟩
   case int k=>
    injection hT with hT;subst hT
    obtain ⟨n,rfl,_,hw⟩:=DataW.trod_int hu h
    exact ⟨[.i k n],.single (.i k n),.int k n (wf_in hw)⟩
   case string=>
    injection hT with hT;subst hT
    obtain ⟨s,rfl,hxs,hs⟩:=DataW.trod_string hu h
    rw [hxs] at hB
    refine ⟨[.s s.data.toList],.single ?_,.str _ ?_⟩
    ·have:=VR.s (κ:=K.start w) s.data.toList
     simpa using this
    ·exact hB _ (by simp only [DataW.weights];simp)
   case slice e=>
    split at hT
    ·rename_i hc
     cases hTe:yct P d e with
     | none=>simp [hTe] at hT
     | some Te=>
      simp [hTe] at hT;subst hT
      rcases DataW.trod_slice hu h with ⟨rfl,_⟩ | ⟨a,len,cap,elems,rest,n,hn,rfl,hxs,_,hlc,hcm,hel,hE,_⟩
      ·refine ⟨[.fs []],.single ?_,.sl _ _ (by simp) (fun x hx=>by simp at hx)⟩
       exact VR.fs (κ:=K.start w) [] 0 1 0 0 none (fun _ _=>undef) (kG _) (fun e he=>by simp at he) (fun _=>rfl) (fun h=>absurd rfl h) (fun i j e v hi=>by simp at hi) (fun i j e v hi=>by simp at hi)
      ·injection hn with hn;subst hn
       rw [hxs] at hB
       have hB0:=hB ((elems.length+rest.length)*P.bytesOf e) (by simp [DataW.weights,hu])
       have hB1:∀(i:Nat) y,elems[i]?=some y→∀n∈y.1.weights P e,n≤140737488351232:=fun i y hy n hn=>hB n (by
        simp only [DataW.weights,hu,kK,kZ]
        exact .inr (.inl (yaf (List.mem_map.2 ⟨y,kY hy,rfl⟩) hn)))
       have each:∀i,i<len→∃q:List V × List Value,q.2.length=P.cellsOf e∧(∀(j:Nat) c,q.2[j]?=some c→w.cell? ((a.add (i*P.cellsOf e)).add j)=some c)∧VRs (K.start w) q.1 q.2∧IsZ Te q.1:=fun i hi=>by
        have h1:=hE i hi
        rw [kC (by omega)] at h1
        cases hcs:w.cells? 0 (a.add (i*P.cellsOf e)) (P.cellsOf e) with
        | none=>simp [hcs] at h1
        | some ecs=>
         simp [hcs] at h1
         obtain ⟨vs,r,it⟩:=yey fuel d e Te ecs _ hTe h1 (hB1 i _ (kC (by omega)))
         obtain ⟨q1,q2⟩:=cells_of hcs
         exact ⟨(vs,ecs),q1,q2,r,it⟩
       obtain ⟨l,hl,hp⟩:=yg0 _ len each
       have hmax:len≤140737488351232:=by
        have:=Nat.le_mul_of_pos_right (elems.length+rest.length) hc.2
        omega
       have spot:0<len→a.spot=none:=fun h0=>by
        have hl0:0<l.length:=by omega
        obtain ⟨b1,b2,b3,b4⟩:=hp 0 _ (kC hl0)
        have hlt:0<(l[0]).2.length:=by have:=hc.1;omega
        have:=b2 0 _ (kC hlt)
        simp only [Nat.zero_mul] at this
        rw [show (a.add 0).add 0=a from by simp [Addr.add]] at this
        unfold World.cell? at this
        split at this
        ·split at this
         ·cases this
         ·rename_i hs;simpa using hs
        ·cases this
       have addr:∀i j,0<len→(a.add (i*P.cellsOf e)).add j=⟨a.block,a.off+i*P.cellsOf e+j,none⟩:=fun i j h0=>by
        have hs:=spot h0
        have ha:a=⟨a.block,a.off,none⟩:=by cases a;simp only at hs;subst hs;rfl
        rw [ha,y5b,y5b]
       have key:=VR.fs (κ:=K.start w) (l.map (·.1)) cap (P.cellsOf e) a.block a.off (some a) (fun i j=>((l.getD i ([],[])).2).getD j undef) (by simpa [hl] using hlc)
        (fun x hx=>by
         simp only [List.mem_map] at hx
         obtain ⟨q,hq,rfl⟩:=hx
         obtain ⟨i,hi⟩:=List.mem_iff_getElem?.1 hq
         obtain ⟨b1,b2,b3,b4⟩:=hp i q hi
         rw [b3.1,b1]) (fun h=>by cases h)
        (fun hne=>by
         have h0:0<len:=by
          rcases Nat.eq_zero_or_pos len with h | h
          ·exfalso;apply hne;have:l=[]:=by cases l <;> simp at hl ⊢;omega
           rw [this];rfl
          ·exact h
         refine ⟨?_,?_⟩
         ·have hs:=spot h0
          cases a;simp only at hs;subst hs;rfl
         ·have hl0:0<l.length:=by omega
          obtain ⟨b1,b2,b3,b4⟩:=hp 0 _ (kC hl0)
          have hlt:0<(l[0]).2.length:=by have:=hc.1;omega
          have:=b2 0 _ (kC hlt)
          rw [addr 0 0 h0] at this
          exact World.block_lt_of_cell? w ⟨a.block,_,none⟩ this)
        (fun i j x v hi hj=>by
         have h0:0<len:=by
          have:=(List.getElem?_eq_some_iff.1 hi).1
          simp at this;omega
         simp only [List.getElem?_map] at hi
         cases hq:l[i]? with
         | none=>simp [hq] at hi
         | some q=>
          simp [hq] at hi;subst hi
          obtain ⟨b1,b2,b3,b4⟩:=hp i q hq
          obtain ⟨c,c1,c2⟩:=b3.get hj
          have:=b2 j c c1
          rw [addr i j h0] at this
          simp only [List.getD,hq,Option.getD_some,c1]
          exact this)
        (fun i j x v hi hj=>by
         simp only [List.getElem?_map] at hi
         cases hq:l[i]? with
         | none=>simp [hq] at hi
         | some q=>
          simp [hq] at hi;subst hi
          obtain ⟨b1,b2,b3,b4⟩:=hp i q hq
          have:=b3.2 j v hj
          simp only [List.getD,hq,Option.getD_some] at this ⊢
          exact this)
       rw [List.length_map,hl] at key
       refine ⟨[.fs (l.map (·.1))],.single key,.sl _ _ (by simpa [hl] using hmax) (fun x hx=>?_)⟩
       simp only [List.mem_map] at hx
       obtain ⟨q,hq,rfl⟩:=hx
       obtain ⟨i,hi⟩:=List.mem_iff_getElem?.1 hq
       exact (hp i q hi).2.2.2
    ·cases hT
   case array n e=>
    split at hT
    ·rename_i Te hTe
     split at hT
     ·rename_i hc
      injection hT with hT;subst hT
      obtain ⟨xs,m,hm,hxs,hl,hxl,hx⟩:=yk8 hu h
      rw [hxs] at hB
      injection hm with hm;subst hm
      obtain ⟨vs,r,it⟩:=yrj (w:=w) (T:=Te) cs n (P.cellsOf e) (fun i hi=>by
       have h1:=hx i hi
       rw [kC (by omega)] at h1
       exact yey fuel d e Te _ _ hTe h1 fun n hn=>hB n (by
        simp only [DataW.weights,hu]
        exact yaf (List.mem_map.2 ⟨_,kL (by omega),rfl⟩) hn)) n (kG _)
      simp only [Nat.sub_self,Nat.zero_mul,List.drop_zero] at r
      rw [kI (by omega)] at r
      exact ⟨vs,r,.st _ _ it⟩
     ·cases hT
    ·cases hT
   case struct fs=>
    split at hT
    ·rename_i Ts n hTs
     split at hT
     ·rename_i hc
      injection hT with hT;subst hT
      obtain ⟨xs,m,hm,hxs,hl,hxl,hx⟩:=DataW.trod_struct hu h
      rw [hxs] at hB
      injection hm with hm;subst hm
      obtain ⟨vs,r,it,_⟩:=yli fuel d cs (fun t T cs x h1 h2 h3=>yey fuel d t T cs x h1 h2 h3) fs.toList 0 Ts n hTs (fun f hf=>by
       obtain ⟨i,hi⟩:=List.mem_iff_getElem?.1 hf
       have hi':fs[i]?=some f:=by simpa using hi
       have h1:=hx i f hi'
       have hlt:i<xs.length:=by rw [hxl];exact (Array.getElem?_eq_some_iff.1 hi').1
       rw [kC hlt] at h1
       refine ⟨_,h1,fun n hn=>hB n ?_⟩
       simp only [DataW.weights,hu]
       exact DataW.weights_mem_each (j:=i) (t:=f.type) (d:=(xs[i]).1) (by simp [hi']) (by simp [hlt]) n hn)
      simp only [List.drop_zero,Nat.sub_zero] at r
      rw [kI (by omega)] at r
      exact ⟨vs,r,.st _ _ it⟩
     ·cases hT
    ·cases hT
   all_goals cases hT
end
def asZ (T:Ty) (v:V):Prop:=match T with
 | .st fs=>∃vs,v=.agg vs∧IsZs fs vs
 | T=>IsZ T [v]
theorem argZ_VR {H:Type} {enc:TypeId × Value→H} {P:Program} {w:World} {t:TypeId} {T:Ty} {v:Value} {d:DataW H} {ps:List MemPlace} (k:Nat) (hT:yct P k t=some T) {base:Nat} (hval:Value.okWide P w .any base t v)
  (h:DataW.Trod enc P w 0 (fun _=>true) true t v d ps) (hB:∀n∈d.weights P t,n≤140737488351232):∃u,VR (K.start w) u v∧asZ T u:=by
 obtain ⟨fuel,hf⟩:=h
 obtain ⟨vs,r,it⟩:=yey fuel k t T _ _ hT hf hB
 cases k with
 | zero=>simp [yct] at hT
 | succ k=>
  unfold yct at hT
  cases hu:P.underlying t with
  | none=>simp [hu] at hT
  | some desc=>
   simp only [hu] at hT
   cases desc <;> simp only [reduceCtorEq] at hT
   case bool=>
    injection hT with hT;subst hT
    obtain ⟨b,rfl⟩:=okWide_bool hu hval
    cases it with | bool x=>
    obtain ⟨c,h1,h2⟩:=r.one
    simp [Value.cells] at h1;subst h1
    exact ⟨_,h2,.bool x⟩
   case int q=>
    injection hT with hT;subst hT
    obtain ⟨b,rfl⟩:=okWide_int hu hval
    cases it with | int _ n hn=>
    obtain ⟨c,h1,h2⟩:=r.one
    simp [Value.cells] at h1;subst h1
    exact ⟨_,h2,.int q n hn⟩
   case string=>
    injection hT with hT;subst hT
    obtain ⟨b,rfl⟩:=okWide_string hu hval
    cases it with | str x hx=>
    obtain ⟨c,h1,h2⟩:=r.one
    simp [Value.cells] at h1;subst h1
    exact ⟨_,h2,.str x hx⟩
   case slice e=>
    split at hT
    ·cases hh:yct P k e with
     | none=>simp [hh] at hT
     | some Te=>
      simp [hh] at hT;subst hT
      obtain ⟨a,len,cap,rfl⟩:=okWide_slice hu hval
      cases it with | sl _ es h1 h2=>
      obtain ⟨c,h1',h2'⟩:=r.one
      simp [Value.cells] at h1';subst h1'
      exact ⟨_,h2',.sl _ es h1 h2⟩
    ·cases hT
   case array n e=>
    have hagg:∃cs,v=.agg cs:=by
     unfold Value.okWide at hval
     simp only [hu] at hval
     obtain ⟨cs,h1,_⟩:=hval;exact ⟨cs,h1⟩
    obtain ⟨cs,rfl⟩:=hagg
    split at hT
    ·split at hT
     ·injection hT with hT;subst hT
      cases it with | st _ _ its=>
      exact ⟨.agg vs,VR.agg' (by simpa [Value.cells] using r),vs,rfl,its⟩
     ·cases hT
    ·cases hT
   case struct fs=>
    have hagg:∃cs,v=.agg cs:=by
     unfold Value.okWide at hval
     simp only [hu] at hval
     obtain ⟨cs,h1,_⟩:=hval;exact ⟨cs,h1⟩
    obtain ⟨cs,rfl⟩:=hagg
    split at hT
    ·split at hT
     ·injection hT with hT;subst hT
      cases it with | st _ _ its=>
      exact ⟨.agg vs,VR.agg' (by simpa [Value.cells] using r),vs,rfl,its⟩
     ·cases hT
    ·cases hT
   all_goals cases hT
theorem ym8 {α:Type} {T:Ty} (enc:α→List V) (ok:α→Prop) (h:∀vs,IsZ T vs→∃x,vs=enc x∧ok x):∀(es:List (List V)),(∀x,x∈es→IsZ T x)→∃l:List α,es=l.map enc∧∀x∈l,ok x
 | [],_=>⟨[],rfl,fun x hx=>by simp at hx⟩
 | e::es,he=>by
  obtain ⟨x,hx,ox⟩:=h e (he e (by simp))
  obtain ⟨l,hl,ol⟩:=ym8 enc ok h es (fun y hy=>he y (by simp [hy]))
  refine ⟨x::l,by simp [hx,hl],fun y hy=>?_⟩
  rcases List.mem_cons.1 hy with rfl | hy
  ·exact ox
  ·exact ol y hy
theorem yao {vs:List V} (h:IsZ .str vs):∃x:List UInt8,vs=[.s x]∧x.length≤140737488351232:=by cases h with | str x hx=>exact ⟨x,rfl,hx⟩
theorem yko {k:IntKind} {vs:List V} (h:IsZ (.int k) vs):∃n:Int,vs=[.i k n]∧inInt k n:=by cases h with | int _ n hn=>exact ⟨n,rfl,hn⟩
theorem yjb {α:Type} {T:Ty} {vs:List V} (enc:α→List V) (ok:α→Prop) (hT:∀vs,IsZ T vs→∃x,vs=enc x∧ok x) (h:IsZ (.sl T) vs):
  ∃l:List α,vs=[.fs (l.map enc)]∧l.length≤140737488351232∧∀x∈l,ok x:=by
 cases h with
 | sl _ es h1 h2=>
  obtain ⟨l,hl,ol⟩:=ym8 enc ok hT es h2
  exact ⟨l,by rw [hl],by rw [hl] at h1;simpa using h1,ol⟩
theorem ydq {vs:List V} (h:IsZs [] vs):vs=[]:=by cases h;rfl
theorem y4z {t:Ty} {ts:List Ty} {vs:List V} (h:IsZs (t::ts) vs):∃a b,vs=a++b∧IsZ t a∧IsZs ts b:=by cases h with | cons _ _ a b ha hb=>exact ⟨a,b,rfl,ha,hb⟩
theorem ymb {ts:List Ty} {vs:List V} (h:IsZ (.st ts) vs):IsZs ts vs:=by cases h with | st _ _ h=>exact h
def yiq (P:Program) (k:Nat):List TypeId→Option (List Ty)
 | []=>some []
 | t::ts=>match yct P k t,yiq P k ts with
  | some T,some Ts=>some (T::Ts)
  | _,_=>none
def ArgsZ:List Ty→List V→Prop
 | [],us=>us=[]
 | T::Ts,us=>∃u us',us=u::us'∧asZ T u∧ArgsZ Ts us'
theorem yms {H:Type} {enc:TypeId × Value→H} {P:Program} {w:World} (k:Nat):∀{ts:List TypeId} {Ts:List Ty} {vs:List Value} {ds:List (DataW H)} {ps:List MemPlace} {base:Nat},
  yiq P k ts=some Ts→(∀(j:Nat) t v,ts[j]?=some t→vs[j]?=some v→Value.okWide P w .any base t v)→
  DataW.TrodAll enc P w 0 (fun _=>true) true ts vs ds ps→(∀n∈DataW.weightsEach P ts ds,n≤140737488351232)→∃us,VRs (K.start w) us vs∧ArgsZ Ts us
 | [],Ts,vs,ds,ps,base,hT,hv,h,_=>by
  obtain ⟨rfl,rfl,rfl⟩:=trodAll_nil h
  simp [yiq] at hT;subst hT
  exact ⟨[],⟨rfl,fun j v h=>by simp at h⟩,rfl⟩
 | t::ts,Ts,vs,ds,ps,base,hT,hv,h,hB=>by
  obtain ⟨v,vs',d,ds',p,q,rfl,rfl,rfl,h1,h2⟩:=trodAll_cons h
  unfold yiq at hT
  cases e1:yct P k t with
  | none=>simp [e1] at hT
  | some T=>
   cases e2:yiq P k ts with
   | none=>simp [e1,e2] at hT
   | some Ts'=>
    simp [e1,e2] at hT;subst hT
    simp only [DataW.weightsEach,kZ] at hB
    obtain ⟨u,r1,a1⟩:=argZ_VR k e1 (hv 0 t v rfl rfl) h1 (fun n hn=>hB n (.inl hn))
    obtain ⟨us,r2,a2⟩:=yms k e2 (fun j t' v' g1 g2=>hv (j+1) t' v' (by simpa using g1) (by simpa using g2)) h2 (fun n hn=>hB n (.inr hn))
    exact ⟨u::us,(VRs.single r1).append r2,u,us,rfl,a1,a2⟩
end Go.Proofs.YtikpijbeobeckaaGreatDoor.Am
namespace Go.Proofs.YtikpijbeobeckaaGreatDoor
open Am C Go.Proofs
abbrev TMk:Ty:=.st [.int .i64,.str]
abbrev TOb:Ty:=.st [.str,.str,.sl TMk]
abbrev TFu:Ty:=.st [.str,.str,.str]
abbrev TCn:Ty:=.st [.int .i64,.str,.str,.int .i64,.str,.sl .str]
abbrev TSy:Ty:=.st [.sl TOb,.sl TFu,.sl TCn]
theorem isZ_ss {vs:List V} (h:IsZ (.sl .str) vs):∃l:List Str,vs=[ss l]∧l.length≤140737488351232∧∀x∈l,x.length≤140737488351232:=by
 obtain ⟨l,e,h1,h2⟩:=yjb (fun x:Str=>[V.s x]) (fun x=>x.length≤140737488351232) (fun vs h=>by obtain ⟨x,h1,h2⟩:=yao h;exact ⟨x,h1,h2⟩) h
 exact ⟨l,e,h1,h2⟩
theorem isZ_mk {vs:List V} (h:IsZ TMk vs):∃m:Mk,vs=y9h m∧m.tag.length≤140737488351232:=by
 obtain ⟨a,b,rfl,ha,hb⟩:=y4z (ymb h)
 obtain ⟨c,d,rfl,hc,hd⟩:=y4z hb
 obtain rfl:=ydq hd
 obtain ⟨n,rfl,_⟩:=yko ha
 obtain ⟨t,rfl,h1⟩:=yao hc
 exact ⟨⟨n,t⟩,rfl,h1⟩
theorem isZ_ob {vs:List V} (h:IsZ TOb vs):∃o:Ob,vs=y68 o∧obZ o:=by
 obtain ⟨a,b,rfl,ha,hb⟩:=y4z (ymb h)
 obtain ⟨c,d,rfl,hc,hd⟩:=y4z hb
 obtain ⟨e,f,rfl,he,hf⟩:=y4z hd
 obtain rfl:=ydq hf
 obtain ⟨x,rfl,h1⟩:=yao ha
 obtain ⟨y,rfl,h2⟩:=yao hc
 obtain ⟨l,rfl,h3,h4⟩:=yjb y9h _ (fun vs h=>isZ_mk h) he
 exact ⟨⟨x,y,l⟩,rfl,by simp only;omega,by simp only;omega,by simp only;omega,fun m hm=>by have:=h4 m hm;omega⟩
theorem isZ_fu {vs:List V} (h:IsZ TFu vs):∃f:Fu,vs=yb0 f∧(fuS f∧f.ret.length≤140737488355328):=by
 obtain ⟨a,b,rfl,ha,hb⟩:=y4z (ymb h)
 obtain ⟨c,d,rfl,hc,hd⟩:=y4z hb
 obtain ⟨e,f,rfl,he,hf⟩:=y4z hd
 obtain rfl:=ydq hf
 obtain ⟨x,rfl,h1⟩:=yao ha
 obtain ⟨y,rfl,h2⟩:=yao hc
 obtain ⟨z,rfl,h3⟩:=yao he
 exact ⟨⟨x,y,z⟩,rfl,⟨by simp only;omega,by simp only;omega⟩,by simp only;omega⟩
theorem isZ_cn {vs:List V} (h:IsZ TCn vs):∃c:Cn,vs=y3z c∧(c.a.length≤140737488355328∧c.b.length≤140737488355328∧c.tag.length≤140737488355328∧c.args.length≤140737488355328∧∀a∈c.args,a.length≤140737488355328):=by
 obtain ⟨a1,r1,rfl,k1,h⟩:=y4z (ymb h)
 obtain ⟨a2,r2,rfl,k2,h⟩:=y4z h
 obtain ⟨a3,r3,rfl,k3,h⟩:=y4z h
 obtain ⟨a4,r4,rfl,k4,h⟩:=y4z h
 obtain ⟨a5,r5,rfl,k5,h⟩:=y4z h
 obtain ⟨a6,r6,rfl,k6,h⟩:=y4z h
 obtain rfl:=ydq h
 obtain ⟨op,rfl,_⟩:=yko k1
 obtain ⟨a,rfl,b2⟩:=yao k2
 obtain ⟨b,rfl,b3⟩:=yao k3
 obtain ⟨k,rfl,_⟩:=yko k4
 obtain ⟨t,rfl,b5⟩:=yao k5
 obtain ⟨l,rfl,b6,b7⟩:=isZ_ss k6
 exact ⟨⟨op,a,b,k,t,l⟩,rfl,by simp only;omega,by simp only;omega,by simp only;omega,by simp only;omega,fun x hx=>by have:=b7 x hx;omega⟩
theorem isZ_sy {vs:List V} (h:IsZs [.sl TOb,.sl TFu,.sl TCn] vs):∃s:Sy,vs=y3p s∧syZ s:=by
 obtain ⟨a1,r1,rfl,k1,h⟩:=y4z h
 obtain ⟨a2,r2,rfl,k2,h⟩:=y4z h
 obtain ⟨a3,r3,rfl,k3,h⟩:=y4z h
 obtain rfl:=ydq h
 obtain ⟨o,rfl,o1,o2⟩:=yjb y68 _ (fun vs h=>isZ_ob h) k1
 obtain ⟨f,rfl,f1,f2⟩:=yjb yb0 _ (fun vs h=>isZ_fu h) k2
 obtain ⟨c,rfl,c1,c2⟩:=yjb y3z _ (fun vs h=>isZ_cn h) k3
 exact ⟨⟨o,f,c⟩,rfl,by simp only;omega,by simp only;omega,by simp only;omega,o2,f2,c2⟩
end Go.Proofs.YtikpijbeobeckaaGreatDoor
namespace Go.Proofs.YtikpijbeobeckaaGreatDoor.rw
open Go Go.RowKit Go.ChangeShapes Go.WideShapes Go.ChangeAt Go.Proofs.YtikpijbeobeckaaGreatDoor.Am
theorem own:ownKnob Tryz.prog.godebug=none:=by kernel_rfl
theorem laidOut:laidOutB Tryz.prog=true:=by kernel_rfl
noncomputable abbrev N0:Nat:=(World.settled Tryz.prog default).heap.size
noncomputable def laidWorld (os:Os):World:=
 let N:=(World.settled Tryz.prog os).heap.size
 let w0:=World.holding Tryz.prog os ⟨#[.cells #[.string ⟨([118,97,108,117,101,32,111,117,116,32,111,102,32,114,97,110,103,101]:List UInt8).toArray⟩] 316,.cells #[.string ⟨([105,110,118,97,108,105,100,32,115,121,110,116,97,120]:List UInt8).toArray⟩] 316],#[],[]⟩
 let put (h:Array Obj) (g:Nat) (cs:Array Value):Array Obj:=h.modify g fun
  | .cells _ t frozen=>.cells cs t frozen
  | o=>o
 let h1:=put w0.heap 5 #[.iface 314 (.pointer (some ⟨N,0,none⟩))]
 let h2:=put h1 4 #[.iface 314 (.pointer (some ⟨N+1,0,none⟩))]
 let h3:=put h2 2 (Lib.firstTab.map fun z=>Value.int .u8 z).toArray
 let h4:=put h3 3 #[.int .u8 128,.int .u8 191,.int .u8 160,.int .u8 191,.int .u8 128,.int .u8 159,.int .u8 144,.int .u8 191,.int .u8 128,.int .u8 143,.int .u8 0,.int .u8 0,.int .u8 0,.int .u8 0,.int .u8 0,.int .u8 0,.int .u8 0,.int .u8 0,.int .u8 0,.int .u8 0,.int .u8 0,.int .u8 0,.int .u8 0,.int .u8 0,.int .u8 0,.int .u8 0,.int .u8 0,.int .u8 0,.int .u8 0,.int .u8 0,.int .u8 0,.int .u8 0]
 let h5:=put h4 6 #[.int .u64 1,.int .u64 10,.int .u64 100,.int .u64 1000,.int .u64 10000,.int .u64 100000,.int .u64 1000000,.int .u64 10000000,.int .u64 100000000,.int .u64 1000000000,.int .u64 10000000000,.int .u64 100000000000,.int .u64 1000000000000,.int .u64 10000000000000,.int .u64 100000000000000,.int .u64 1000000000000000,.int .u64 10000000000000000,.int .u64 100000000000000000,.int .u64 1000000000000000000,.int .u64 10000000000000000000]
 let h6:=put h5 7 #[.int .u8 0,.int .u8 1,.int .u8 28,.int .u8 2,.int .u8 29,.int .u8 14,.int .u8 24,.int .u8 3,.int .u8 30,.int .u8 22,.int .u8 20,.int .u8 15,.int .u8 25,.int .u8 17,.int .u8 4,.int .u8 8,.int .u8 31,.int .u8 27,.int .u8 13,.int .u8 23,.int .u8 21,.int .u8 19,.int .u8 16,.int .u8 7,.int .u8 26,.int .u8 12,.int .u8 18,.int .u8 6,.int .u8 11,.int .u8 5,.int .u8 10,.int .u8 9]
 let h7:=put h6 1 #[.int .u8 0,.int .u8 1,.int .u8 56,.int .u8 2,.int .u8 57,.int .u8 49,.int .u8 28,.int .u8 3,.int .u8 61,.int .u8 58,.int .u8 42,.int .u8 50,.int .u8 38,.int .u8 29,.int .u8 17,.int .u8 4,.int .u8 62,.int .u8 47,.int .u8 59,.int .u8 36,.int .u8 45,.int .u8 43,.int .u8 51,.int .u8 22,.int .u8 53,.int .u8 39,.int .u8 33,.int .u8 30,.int .u8 24,.int .u8 18,.int .u8 12,.int .u8 5,.int .u8 63,.int .u8 55,.int .u8 48,.int .u8 27,.int .u8 60,.int .u8 41,.int .u8 37,.int .u8 16,.int .u8 46,.int .u8 35,.int .u8 44,.int .u8 21,.int .u8 52,.int .u8 32,.int .u8 23,.int .u8 11,.int .u8 54,.int .u8 26,.int .u8 40,.int .u8 15,.int .u8 34,.int .u8 20,.int .u8 31,.int .u8 10,.int .u8 25,.int .u8 14,.int .u8 19,.int .u8 9,.int .u8 13,.int .u8 8,.int .u8 7,.int .u8 6]
 { w0 with heap:=h7 }
set_option maxRecDepth 1000000 in
theorem laid_in (os:Os) (args:Array Value):LaidIn Tryz.prog ((laidWorld os).forCall (fun _ _=>0) ⟨#[],args,[]⟩).memory Rows.leastListsRow.laid [1,2,3,4,5,6,7,N0,N0+1]:=
 LaidIn.of_run [1,2,3,4,5,6,7,N0,N0+1] 8 (by kernel_rfl) (by kernel_rfl) (by kernel_rfl) (by kernel_rfl)
theorem laid_met (os:Os) (args:Array Value):laidMet Tryz.prog Rows.leastListsRow.laid ((laidWorld os).forCall (fun _ _=>0) ⟨#[],args,[]⟩).memory:=(laid_in os args).met
theorem g6:Tryz.prog.globalNamed "internal/strconv.uint64pow10"=some 6:=by kernel_rfl
theorem t6:(Tryz.prog.globals[6]?).map (·.type)=some 311:=by kernel_rfl
theorem g1:Tryz.prog.globalNamed "math/bits.deBruijn64tab"=some 1:=by kernel_rfl
theorem t1:(Tryz.prog.globals[1]?).map (·.type)=some 250:=by kernel_rfl
def pows:List Int:=[1,10,100,1000,10000,100000,1000000,10000000,100000000,1000000000,10000000000,100000000000,1000000000000,10000000000000,100000000000000,1000000000000000,10000000000000000,100000000000000000,1000000000000000000,10000000000000000000]
def debs:List Int:=[0,1,56,2,57,49,28,3,61,58,42,50,38,29,17,4,62,47,59,36,45,43,51,22,53,39,33,30,24,18,12,5,63,55,48,27,60,41,37,16,46,35,44,21,52,32,23,11,54,26,40,15,34,20,31,10,25,14,19,9,13,8,7,6]
theorem tb_of {W:World} (h:laidMetH Tryz.prog Rows.leastListsRow.laid W):TBok (K.start W):=by
 have h0:laidMet Tryz.prog Rows.leastListsRow.laid W:=h
 intro q hq
 simp only [TBs,kK,List.not_mem_nil,or_false] at hq
 rcases hq with rfl | rfl
 ·obtain ⟨g,t,cs,fuel,p,h1,h2,h3,h4⟩:=Lib.laidMet.reads h0 (n := "internal/strconv.uint64pow10") (d:=Rows.laid_internal_strconv_uint64pow10) (.tail _ (.tail _ (.head _)))
  obtain rfl:=Option.some.inj (g6.symm.trans h1)
  obtain rfl:=Option.some.inj (t6.symm.trans h2)
  have h5:=Lib.cells_of_tab (t:=311) (e:=47) (n:=20) (k:=.u64) (zs:=pows) (by kernel_rfl) (by kernel_rfl) (by kernel_rfl) (by kernel_rfl) (cs:=cs.toList) (p:=p) h4
  simp only [World.var?,g6,Option.bind_some] at h3
  split at h3
  ·rename_i c ty fr hc
   injection h3 with h3
   subst h3
   refine ⟨Am.lt_of_some hc,ty,fr,?_⟩
   show W.heap[6]?=_
   rw [hc]
   have:c=(pows.map fun z=>Value.int .u64 z).toArray:=by rw [←h5]
   rw [this];rfl
  ·cases h3
 ·obtain ⟨g,t,cs,fuel,p,h1,h2,h3,h4⟩:=Lib.laidMet.reads h0 (n := "math/bits.deBruijn64tab") (d:=Rows.laid_math_bits_deBruijn64tab) (.tail _ (.head _))
  obtain rfl:=Option.some.inj (g1.symm.trans h1)
  obtain rfl:=Option.some.inj (t1.symm.trans h2)
  have h5:=Lib.cells_of_tab (t:=250) (e:=5) (n:=64) (k:=.u8) (zs:=debs) (by kernel_rfl) (by kernel_rfl) (by kernel_rfl) (by kernel_rfl) (cs:=cs.toList) (p:=p) h4
  simp only [World.var?,g1,Option.bind_some] at h3
  split at h3
  ·rename_i c ty fr hc
   injection h3 with h3
   subst h3
   refine ⟨Am.lt_of_some hc,ty,fr,?_⟩
   show W.heap[1]?=_
   rw [hc]
   have:c=(debs.map fun z=>Value.int .u8 z).toArray:=by rw [←h5]
   rw [this];rfl
  ·cases h3
end Go.Proofs.YtikpijbeobeckaaGreatDoor.rw
