/- Part 7. -/
import Derived.MapKept
import Derived.Maps.RangeRun
import Derived.Test.YtikpijbeobeckaaGreatDoorXGw6
set_option linter.unusedSimpArgs false
set_option linter.unusedVariables false
namespace Go.Proofs.YtikpijbeobeckaaGreatDoor.Am
open Go Go.RowKit
theorem ygy (es:List (List UInt8 × V)) (k:List UInt8):yfp es k=(yjq es k).bind fun j=>es[j]?.map (·.2):=by
 induction es with
 | nil=>rfl
 | cons p es ih=>
  obtain ⟨k',v⟩:=p
  simp only [yfp,yjq]
  split
  ·rfl
  ·rw [ih];cases yjq es k <;> simp
theorem ynq (es:List (List UInt8 × V)) (k:List UInt8) (v:V):mput es k v=match yjq es k with | some j=>es.set j (k,v) | none=>es++[(k,v)]:=by
 induction es with
 | nil=>rfl
 | cons p es ih=>
  obtain ⟨k',u⟩:=p
  simp only [mput,yjq]
  split
  ·rfl
  ·rw [ih];cases yjq es k <;> simp
theorem ynt {es:List (List UInt8 × V)} {k:List UInt8} {j:Nat} (h:yjq es k=some j):∃v,es[j]?=some (k,v):=by
 induction es generalizing j with
 | nil=>cases h
 | cons p es ih=>
  obtain ⟨k',v⟩:=p
  simp only [yjq] at h
  split at h
  ·rename_i e;subst e;simp at h;subst h;exact ⟨v,rfl⟩
  ·rw [kd] at h
   obtain ⟨i,hi,rfl⟩:=h
   simpa using ih hi
theorem ba_eq (a b:List UInt8):((⟨a.toArray⟩:ByteArray) == ⟨b.toArray⟩)=decide (a=b):=by
 show (a.toArray == b.toArray)=_
 simp [Bool.beq_eq_decide_eq]
def yq2 (κ:K) (es:List (List UInt8 × V)) (l:List MapEntry):Prop:=
 es.length=l.length∧∀(j:Nat) k v,es[j]?=some (k,v)→∃en:MapEntry,l[j]?=some en∧en.key=.string ⟨k.toArray⟩∧VR κ v en.val
theorem ybf {κ:K} {k:List UInt8}:∀{es:List (List UInt8 × V)} {l:List MapEntry} (i:Nat),yq2 κ es l→
  ∃r,Instr.findNow .string (.string ⟨k.toArray⟩) l i=some r∧match yjq es k with
   | none=>r=none
   | some j=>∃en,l[j]?=some en∧r=some (i+j,en.val)∧en.key=.string ⟨k.toArray⟩
 | [],[],i,_=>⟨none,rfl,rfl⟩
 | [],_::_,i,h=>by have:=h.1;simp at this
 | _::_,[],i,h=>by have:=h.1;simp at this
 | (k',v)::es,e::l,i,h=>by
  obtain ⟨en,h1,h2,h3⟩:=h.2 0 k' v rfl
  simp at h1;subst h1
  have hr:yq2 κ es l:=⟨by have:=h.1;simp at this;omega,fun j k v hj=>by simpa using h.2 (j+1) k v (by simpa using hj)⟩
  obtain ⟨r,q1,q2⟩:=ybf (i+1) hr (k:=k)
  simp only [Instr.findNow,Instr.sameNow,h2,ba_eq,yjq]
  by_cases hk:k=k'
  ·subst hk
   simp
   exact h2
  ·rw [decide_eq_false hk,if_neg (Ne.symm hk)]
   refine ⟨r,q1,?_⟩
   cases hm:yjq es k with
   | none=>rw [hm] at q2;exact q2
   | some j=>
    rw [hm] at q2
    obtain ⟨en,a,b,c⟩:=q2
    exact ⟨en,by simpa using a,by rw [b];simp;omega,c⟩
theorem yid {P:Program} {t e:TypeId} (h:mapP P t=some e):∃k,P.underlying t=some (.map k e)∧P.underlying k=some .string:=by
 unfold mapP at h
 split at h
 ·rename_i k e' hu
  split at h
  ·rename_i hk;injection h with h;subst h;exact ⟨k,hu,hk⟩
  ·cases h
 ·cases h
theorem zvP_ok {P:Program} {e:TypeId} {zv:V} (h:zvP P e zv=true) (w:World):∃z,(zeroValue e).run P w=.ok z w∧∀κ,VR κ zv z:=by
 unfold zvP at h
 split at h
 ·rename_i z hz
  cases hi:P.info? e with
  | none=>simp [hi] at hz
  | some i=>
   simp [hi] at hz
   exact ⟨z,by simp [zeroValue,typeInfo,hi,hz],isV_ok h⟩
 ·cases h
section
variable {P:Program} {dst:Option Nat} {type:TypeId} {pos:String} {after:Array Edge} {guard:Option (Nat × Bool)}
theorem does_mkm {t:TypeId}:y4s P ⟨dst,.makeMap t none,type,pos,after,guard⟩ .mkm:=by
 intro F H v H' hs κ a S r
 simp only [y2c] at hs
 injection hs with hs;injection hs with h1 h2;subst h1;subst h2
 have S':=S.newObj (o:=.map []) (x:=.map #[] 0) (.map [] #[] rfl fun j k v h=>by simp at h)
 refine ⟨_,_,.map (some κ.w.heap.size),K.new_le S 0 _,S',?_,?_,.inl rfl⟩
 ·have:=VR.mp (κ:=κ.new H.next 0 (.map #[] 0)) H.next (K.new_ok _ _ _ _ (kG _))
  rwa [K.new_pl] at this
 ·simp [execOp,Instr.makeMap]
  rfl
theorem ya9 {κ:K} {es:List (List UInt8 × V)} {x:Obj} (h:OBok κ (.map es) x):∃arr:Array MapEntry,x=.map arr arr.size∧yq2 κ es arr.toList∧∀(j:Nat) en,arr[j]?=some en→en.born=j:=by
 cases h with
 | map _ arr hl hv=>
  refine ⟨arr,rfl,⟨by simpa using hl,fun j k v hj=>?_⟩,fun j en hj=>?_⟩
  ·obtain ⟨en,a,b,_,d⟩:=hv j k v hj
   exact ⟨en,by simpa using a,b,d⟩
  ·have hlt:j<es.length:=by
    have:=(Array.getElem?_eq_some_iff.1 hj).1;omega
   obtain ⟨en',a,_,c,_⟩:=hv j es[j].1 es[j].2 (kC hlt)
   rw [hj] at a;injection a with a;subst a;exact c
theorem does_lkm {t e:TypeId} {m k:Operand} {ok:Bool} {zv:V} {m' k':AO} (hm:y3z m m'=true) (hk:y3z k k'=true) (ht:mapP P t=some e) (hz:zvP P e zv=true):
  y4s P ⟨dst,.lookup t m k ok,type,pos,after,guard⟩ (.lkm ok zv m' k'):=by
 intro F H v H' hs κ a S r
 obtain ⟨kt,hu,hks⟩:=yid ht
 obtain ⟨z,hz1,hz2⟩:=zvP_ok hz κ.w
 have rm:=y2b hm r
 have rk:=y2b hk r
 simp only [y2c] at hs
 split at hs
 rotate_left
 ·cases hs
 rename_i kk hkk
 rw [hkk] at rk
 have ek:=VR.inv_s rk
 have hchk:∀b,(Instr.checkKey b 10000 kt (.string ⟨kk.toArray⟩)).run P κ.w=.ok () κ.w:=fun b=>MapKept.run_checkKey hks (show MapKept.IsKey .string (.string _) from trivial) b 9999
 have fin:∀(u:V) (cu:Value) (b:Bool),VR κ u cu→VR κ (if ok then .tup [u,.b b] else u) (if ok then .tuple #[cu,.bool b] else cu):=fun u cu b hu=>by
  cases ok
  ·exact hu
  ·refine VR.tup' ⟨rfl,fun j x hj=>?_⟩
   match j,hj with
   | 0,hj=>simp at hj;subst hj;exact hu
   | 1,hj=>simp at hj;subst hj;exact .b b
   | j+2,hj=>simp at hj
 split at hs
 ·rename_i hmm
  injection hs with hs;injection hs with h1 h2;subst h1;subst h2
  rw [hmm] at rm
  have em:a.eval m=.map none:=by
   generalize a.eval m=c at rm
   cases rm;rfl
  refine y4s.still S (fin zv z false (hz2 κ)) ?_
  simp only [execOp,Instr.lookup,Sem.run_bind,run_underlying hu,Result.andThen_ok,em,ek,Sem.run_pure,hchk]
  simp only [MapKept.run_findKey hks (show Instr.findNow .string (.string ⟨kk.toArray⟩) (#[]:Array MapEntry).toList 0=some none from rfl),Result.andThen_ok,Sem.run_bind,hz1,Sem.run_pure]
 ·rename_i id hmm
  rw [hmm] at rm
  split at hs
  ·rename_i es hg
   injection hs with hs;injection hs with h1 h2;subst h1;subst h2
   have em:a.eval m=.map (some (κ.pl id 0).1):=by
    generalize a.eval m=c at rm
    cases rm;rfl
   obtain ⟨⟨x,hb,ho⟩,_⟩:=S.maps id _ hg
   obtain ⟨arr,rfl,rel,_⟩:=ya9 ho
   obtain ⟨rr,q1,q2⟩:=ybf (k:=kk) 0 rel
   have hrun:=MapKept.run_findKey (w:=κ.w) hks q1
   cases hmi:yjq es kk with
   | none=>
    rw [hmi] at q2;subst q2
    have hget:yfp es kk=none:=by rw [ygy,hmi];rfl
    rw [hget]
    refine y4s.still S (fin zv z false (hz2 κ)) ?_
    simp only [execOp,Instr.lookup,Sem.run_bind,run_underlying hu,Result.andThen_ok,em,ek,Sem.run_pure,MapKept.run_getObj_map hb,hchk,hrun,hz1]
   | some j=>
    rw [hmi] at q2
    obtain ⟨en,e1,rfl,e3⟩:=q2
    obtain ⟨v0,hv0⟩:=ynt hmi
    have hget:yfp es kk=some v0:=by rw [ygy,hmi];simp [hv0]
    obtain ⟨en',f1,f2,f3⟩:=rel.2 j kk v0 hv0
    rw [e1] at f1;injection f1 with f1;subst f1
    rw [hget]
    refine y4s.still S (fin v0 en.val true f3) ?_
    simp only [execOp,Instr.lookup,Sem.run_bind,run_underlying hu,Result.andThen_ok,em,ek,Sem.run_pure,MapKept.run_getObj_map hb,hchk,hrun]
  ·cases hs
 ·cases hs
theorem ygi (s:ByteArray):Instr.sameBits 10000 (.string s) (.string s)=true:=by
 show (s.data == s.data)=true
 simp
theorem upd_ok {t e:TypeId} {F:Fr} {κ:K} {a:Act} {H:Hp} (S:Sim κ H) (r:FR κ F a.tmps) {m k x:Operand} {m' k' x':AO} (hm:y3z m m'=true) (hk:y3z k k'=true) (hx:y3z x x'=true) (ht:mapP P t=some e)
  {id:Nat} {kk:List UInt8} {es:List (List UInt8 × V)} (hkk:ev F k'=.s kk) (hmm:ev F m'=.mp (some id)) (hg:H.get id=some (.obj (.map es))):
  ∃κ',κ.Le κ'∧Sim κ' (H.upd id (.obj (.map (mput es kk (ev F x')))))∧(Instr.mapUpdate t (a.eval m) (a.eval k) (a.eval x)).run P κ.w=.ok () κ'.w:=by
 obtain ⟨kt,hu,hks⟩:=yid ht
 have rm:=y2b hm r
 have rk:=y2b hk r
 have rx:=y2b hx r
 rw [hkk] at rk
 rw [hmm] at rm
 have ek:=VR.inv_s rk
 have em:a.eval m=.map (some (κ.pl id 0).1):=by
  generalize a.eval m=c at rm
  cases rm;rfl
 obtain ⟨⟨y,hb,ho⟩,_⟩:=S.maps id _ hg
 obtain ⟨arr,rfl,rel,born⟩:=ya9 ho
 obtain ⟨rr,q1,q2⟩:=ybf (k:=kk) 0 rel
 have hrun:=MapKept.run_findKey (w:=κ.w) hks q1
 have hchk:∀b,(Instr.checkKey b 10000 kt (.string ⟨kk.toArray⟩)).run P κ.w=.ok () κ.w:=fun b=>MapKept.run_checkKey hks (show MapKept.IsKey .string (.string _) from trivial) b 9999
 rw [ynq]
 cases hmi:yjq es kk with
 | none=>
  rw [hmi] at q2;subst q2
  have hob:OBok κ (.map (es++[(kk,ev F x')])) (.map (arr.push { key:=.string ⟨kk.toArray⟩,val:=a.eval x,born:=arr.size }) (arr.size+1)):=by
   have:=OBok.map (κ:=κ) (es++[(kk,ev F x')]) (arr.push { key:=.string ⟨kk.toArray⟩,val:=a.eval x,born:=arr.size }) (by have:=rel.1;simp at this;simp [this]) (fun j k v hj=>?_)
   ·simpa using this
   ·have hl:=rel.1
    simp only [Array.length_toList] at hl
    by_cases hlt:j<es.length
    ·rw [kR hlt] at hj
     obtain ⟨en,a1,a2,a3⟩:=rel.2 j k v hj
     refine ⟨en,?_,a2,born j en (by simpa using a1),a3⟩
     rw [Array.getElem?_push_lt (by omega)]
     simpa [show j<arr.size by omega] using a1
    ·rw [kX (by omega)] at hj
     have hj0:j-es.length=0:=by
      rcases Nat.eq_zero_or_pos (j-es.length) with z | z
      ·exact z
      ·rw [List.getElem?_eq_none (by simp;omega)] at hj;cases hj
     rw [hj0] at hj
     simp at hj
     obtain ⟨rfl,rfl⟩:=hj
     have:j=arr.size:=by omega
     subst this
     exact ⟨_,Array.getElem?_push_size,rfl,rfl,rx⟩
  obtain ⟨le,S'⟩:=S.updObj hg hb hob (fun r h=>by cases h)
  refine ⟨_,le,S',?_⟩
  simp only [Instr.mapUpdate,Sem.run_bind,run_underlying hu,Result.andThen_ok,em,ek,MapKept.run_getObj_map hb,hchk,hrun,MapKept.run_setObj_map _ hb]
  rfl
 | some j=>
  rw [hmi] at q2
  obtain ⟨en,e1,rfl,e3⟩:=q2
  obtain ⟨v0,hv0⟩:=ynt hmi
  have hjl:=(List.getElem?_eq_some_iff.1 hv0).1
  have ea:arr[j]?=some en:=by simpa using e1
  have hob:OBok κ (.map (es.set j (kk,ev F x'))) (.map (arr.modify j fun e=>{ e with key:=.string ⟨kk.toArray⟩,val:=a.eval x }) arr.size):=by
   have:=OBok.map (κ:=κ) (es.set j (kk,ev F x')) (arr.modify j fun e=>{ e with key:=.string ⟨kk.toArray⟩,val:=a.eval x }) (by have:=rel.1;simp at this;simp [this]) (fun i k v hi=>?_)
   ·simpa using this
   ·by_cases hij:i=j
    ·subst hij
     rw [List.getElem?_set_self (by omega)] at hi
     injection hi with hi;injection hi with h1 h2;subst h1;subst h2
     refine ⟨{ en with key:=.string ⟨kk.toArray⟩,val:=a.eval x },?_,rfl,(born _ _ ea :),rx⟩
     rw [Array.getElem?_modify];simp [ea]
    ·rw [List.getElem?_set_ne (Ne.symm hij)] at hi
     obtain ⟨en',a1,a2,a3⟩:=rel.2 i k v hi
     refine ⟨en',?_,a2,born i en' (by simpa using a1),a3⟩
     rw [Array.getElem?_modify];simp [Ne.symm hij];simpa using a1
  obtain ⟨le,S'⟩:=S.updObj hg hb hob (fun r h=>by cases h)
  refine ⟨_,le,S',?_⟩
  simp only [Instr.mapUpdate,Sem.run_bind,run_underlying hu,Result.andThen_ok,em,ek,MapKept.run_getObj_map hb,hchk,hrun,Nat.zero_add,ea,Option.map_some,Option.getD_some,e3,Instr.keyThatStays,ygi,if_true,Sem.run_pure,MapKept.run_setObj_map _ hb]
  rfl
theorem yk7 {t e:TypeId} {m k x:Operand} {m' k' x':AO} (hm:y3z m m'=true) (hk:y3z k k'=true) (hx:y3z x x'=true) (ht:mapP P t=some e) {o:Op} (ho:o=.mapUpdate t m k x∨o=.insert t m k x):
  y4s P ⟨dst,o,type,pos,after,guard⟩ (.upm m' k' x'):=by
 intro F H v H' hs κ a S r
 simp only [y2c] at hs
 split at hs
 ·rename_i kk hkk
  split at hs
  ·rename_i id hmm
   split at hs
   ·rename_i es hg
    injection hs with hs;injection hs with h1 h2;subst h1;subst h2
    obtain ⟨κ',le,S',hrun⟩:=upd_ok S r hm hk hx ht hkk hmm hg
    refine ⟨κ',.skip,undef,le,S',.junk _,?_,.inr ⟨rfl,rfl⟩⟩
    rcases ho with rfl | rfl <;> simp only [execOp,Sem.run_bind,hrun,Result.andThen_ok,Sem.run_pure]
   ·cases hs
  ·cases hs
 ·cases hs
theorem does_rgm {t e:TypeId} {x:Operand} {x':AO} (hx:y3z x x'=true) (ht:mapP P t=some e):y4s P ⟨dst,.range t x,type,pos,after,guard⟩ (.rgm x'):=by
 intro F H v H' hs κ a S r
 obtain ⟨kt,hu,hks⟩:=yid ht
 have rx:=y2b hx r
 simp only [y2c] at hs
 split at hs
 ·rename_i id hmm
  rw [hmm] at rx
  split at hs
  ·rename_i es hg
   injection hs with hs;injection hs with h1 h2;subst h1;subst h2
   have em:a.eval x=.map (some (κ.pl id 0).1):=by
    generalize a.eval x=c at rx
    cases rx;rfl
   have hid:κ.ok id 0:=by
    generalize a.eval x=c at rx
    cases rx;assumption
   obtain ⟨⟨y,hb,ho⟩,_⟩:=S.maps id _ hg
   obtain ⟨arr,rfl,rel,born⟩:=ya9 ho
   have hl:es.length=arr.size:=by have:=rel.1;simpa using this
   have S':=S.newObj (o:=.iter id es.length []) (x:=.mapIter (some (κ.pl id 0).1) arr.size #[] arr.size) (by
    have:=OBok.iter (κ:=κ) id es.length [] hid
    rw [hl] at this ⊢
    exact this)
   refine ⟨_,_,.pointer (some ⟨κ.w.heap.size,0,none⟩),K.new_le S 0 _,S',?_,?_,.inl rfl⟩
   ·have:=VR.it (κ:=κ.new H.next 0 (.mapIter (some (κ.pl id 0).1) arr.size #[] arr.size)) H.next (K.new_ok _ _ _ _ (kG _))
    rwa [K.new_pl] at this
   ·simp only [execOp,Instr.range,Sem.run_bind,run_underlying hu,em,Result.andThen_ok,MapKept.run_getObj_map hb,Sem.run_pure,run_newObj]
    rfl
  ·cases hs
 ·cases hs
theorem does_enm {x:Operand} {x':AO} (hx:y3z x x'=true):y4s P ⟨dst,.entry x,type,pos,after,guard⟩ (.enm x'):=by
 intro F H v H' hs κ a S r
 have rx:=y2b hx r
 simp only [y2c] at hs
 split at hs
 rotate_left
 ·cases hs
 rename_i id hmm
 rw [hmm] at rx
 split at hs
 rotate_left
 ·cases hs
 rename_i m n seen hg
 split at hs
 rotate_left
 ·cases hs
 rename_i es hg2
 split at hs
 rotate_left
 ·cases hs
 rename_i j hj
 split at hs
 rotate_left
 ·cases hs
 rename_i k v0 hv
 split at hs
 rotate_left
 ·cases hs
 rename_i hn
 subst hn
 injection hs with hs;injection hs with h1 h2;subst h1;subst h2
 have em:a.eval x=.pointer (some ⟨(κ.pl id 0).1,0,none⟩):=by
  generalize a.eval x=c at rx
  cases rx;rfl
 obtain ⟨⟨y,hb,ho⟩,_⟩:=S.maps id _ hg
 obtain ⟨⟨y2,hb2,ho2⟩,_⟩:=S.maps m _ hg2
 obtain ⟨arr,rfl,rel,born⟩:=ya9 ho2
 cases ho with
 | iter _ _ _ hm=>
  obtain ⟨en,a1,a2,a3⟩:=rel.2 j k v0 hv
  have a1':arr[j]?=some en:=by simpa using a1
  obtain ⟨pre,rfl⟩:∃pre,seen=pre++[j]:=by
   rw [List.getLast?_eq_some_iff] at hj
   exact hj
  have hb':κ.w.heap[(κ.pl id 0).1]?=some (.mapIter (some (κ.pl m 0).1) es.length (pre.toArray.push en.born) es.length):=by
   rw [hb,born j en a1'];simp
  have hnd:(arr.toList.map (·.born)).Nodup:=by
   have:arr.toList.map (·.born)=List.range arr.size:=by
    apply List.ext_getElem?
    intro i
    by_cases hi:i<arr.size
    ·simp [hi]
     exact born i _ (by simp [hi])
    ·rw [List.getElem?_eq_none (by simp;omega),List.getElem?_eq_none (by simp;omega)]
   rw [this];exact List.nodup_range
  have hf:arr.find? (·.born == en.born)=some en:=by
   rw [←Array.find?_toList];exact find_born en arr.toList hnd (kY a1)
  refine y4s.still S (cv:=.tuple #[en.key,en.val]) ?_ ?_
  ·refine VR.tup' ⟨rfl,fun i u hi=>?_⟩
   match i,hi with
   | 0,hi=>simp at hi;subst hi;rw [a2];exact .s _
   | 1,hi=>simp at hi;subst hi;exact a3
   | i+2,hi=>simp at hi
  ·have hsz:es.length=arr.size:=by have:=rel.1;simpa using this
   simp only [execOp,Instr.entry,em,Sem.run_bind,getObj,Sem.run,hb',hb2,Result.andThen,Array.back?_push,hsz,bne_self_eq_false,kN,if_false,hf]
   rfl
end
theorem yi9 {P:Program} {o:Oper} {a:AOp} (h:okOp P o.op a=true):y4s P o a:=by
 obtain ⟨dst,op,type,pos,after,guard⟩:=o
 unfold okOp at h
 split at h
 case h_1=>rename_i x y h0;dsimp only at h0;subst h0;exact (yk8 h).1
 case h_2=>rename_i x y h0;dsimp only at h0;subst h0;exact (yk8 h).2
 case h_3=>rename_i c x y c' x' y' h0;dsimp only at h0;subst h0;simp only [kF] at h;exact yoj h.1.1 h.1.2 h.2
 case h_4=>rename_i e zs h0;dsimp only at h0;subst h0;simp only [kF] at h;exact does_new h.1.1
 case h_5=>rename_i e x y h0;dsimp only at h0;subst h0;exact does_box h
 case h_6=>rename_i t ps zero qs h0;dsimp only at h0;subst h0;simp only [kF] at h;exact yl7 h.1 h.2
 case h_7=>
  rename_i t n ps n' zero qs h0;dsimp only at h0;subst h0
  simp only [kF,decide_eq_true_eq,beq_iff_eq] at h
  obtain ⟨⟨⟨rfl,h2⟩,h3⟩,h4⟩:=h
  split at h4
  ·rename_i e he
   simp only [kF,beq_iff_eq] at h4
   exact does_bsl h4.1.1 h4.1.2 h2 h3 he h4.2
  ·cases h4
 case h_8=>
  rename_i t n ps n' sz zero qs h0;dsimp only at h0;subst h0
  simp only [kF,decide_eq_true_eq,beq_iff_eq] at h
  obtain ⟨⟨⟨⟨rfl,hsz⟩,h2⟩,h3⟩,h4⟩:=h
  subst hsz
  split at h4
  ·rename_i e he
   simp only [kF,beq_iff_eq] at h4
   exact does_bfz h4.1.1 h4.1.2 h2 h3 rfl he h4.2
  ·cases h4
 case h_9=>rename_i t x agg n y h0;dsimp only at h0;subst h0;simp only [kF,beq_iff_eq] at h;exact yop h.1.1 h.1.2 h.2
 case h_10=>rename_i t x v n x' v' h0;dsimp only at h0;subst h0;simp only [kF,beq_iff_eq] at h;exact yl6 h.1.1 h.1.2 h.2
 case h_11=>rename_i x y h0;dsimp only at h0;subst h0;exact yol h
 case h_12=>rename_i op t x y u op' x' y' h0;dsimp only at h0;subst h0;simp only [kF,decide_eq_true_eq] at h;obtain ⟨⟨rfl,h1⟩,h2⟩:=h;exact does_bin h1 h2
 case h_13=>rename_i op t x y u k neg x' y' h0;dsimp only at h0;subst h0;simp only [kF,decide_eq_true_eq] at h;obtain ⟨⟨⟨⟨h0,hk⟩,h1⟩,h2⟩,h3⟩:=h;exact does_eqk h0 hk h1 h2 h3
 case h_14=>rename_i op t x op' y h0;dsimp only at h0;subst h0;simp only [kF,decide_eq_true_eq] at h;obtain ⟨rfl,h1⟩:=h;exact does_un h1
 case h_15=>
  rename_i s d x k y h0;dsimp only at h0;subst h0
  simp only [kF] at h
  obtain ⟨h1,h2⟩:=h
  split at h2
  ·rename_i ds k' e1 e2
   simp only [decide_eq_true_eq] at h2
   subst h2
   exact yos h1 e1 e2
  ·cases h2
 case h_16=>rename_i f first caps g xs h0;dsimp only at h0;subst h0;simp only [kF,beq_iff_eq] at h;obtain ⟨⟨rfl,h1⟩,h2⟩:=h;exact yon h1 h2
 case h_17=>
  rename_i t l c sz bytes zero l' c' h0;dsimp only at h0;subst h0
  simp only [kF] at h
  obtain ⟨⟨h1,h2⟩,h3⟩:=h
  split at h3
  ·rename_i e he
   simp only [kF] at h3
   obtain ⟨h3,h4⟩:=h3
   split at h4
   ·rename_i i hi
    simp only [kF,beq_iff_eq] at h4
    exact yom h1 h2 he h3 hi h4.1 h4.2
   ·cases h4
  ·cases h3
 case h_18=>
  rename_i t x lo hi sz y lo' hi' h0;dsimp only at h0;subst h0
  simp only [kF,decide_eq_true_eq] at h
  obtain ⟨⟨⟨⟨h1,h2⟩,h3⟩,h4⟩,h5⟩:=h
  split at h5
  ·rename_i e he
   simp only [beq_iff_eq] at h5
   exact does_slc h1 h2 h3 h4 he h5
  ·cases h5
 case h_19=>
  rename_i t x lo hi y lo' hi' h0;dsimp only at h0;subst h0
  simp only [kF] at h
  obtain ⟨⟨⟨h1,h2⟩,h3⟩,h5⟩:=h
  split at h5
  ·rename_i e;exact does_sls h1 h2 h3 e
  ·cases h5
 case h_20=>
  rename_i t x f off y h0;dsimp only at h0;subst h0
  simp only [kF] at h
  obtain ⟨h1,h2⟩:=h
  split at h2
  ·rename_i fs hu
   split at h2
   ·rename_i fd hf
    simp only [kF,beq_iff_eq] at h2
    obtain ⟨h2,h3⟩:=h2
    split at h3
    ·rename_i n hn
     simp only [decide_eq_true_eq] at h3
     exact yor h1 hu hf h2 hn h3
    ·cases h3
   ·cases h2
  ·cases h2
 case h_21=>
  rename_i t x f agg off n y h0;dsimp only at h0;subst h0
  simp only [kF] at h
  obtain ⟨h1,h2⟩:=h
  split at h2
  ·rename_i fs hu
   split at h2
   ·rename_i fd hf
    simp only [kF,beq_iff_eq] at h2
    exact does_fld h1 hu hf h2.1.1 h2.1.2 h2.2
   ·cases h2
  ·cases h2
 case h_22=>
  rename_i t x i sz y j h0;dsimp only at h0;subst h0
  simp only [kF] at h
  obtain ⟨⟨h1,h2⟩,h3⟩:=h
  split at h3
  ·rename_i e he
   simp only [beq_iff_eq] at h3
   exact does_iad h1 h2 he h3
  ·cases h3
 case h_23=>
  rename_i t x i y j h0;dsimp only at h0;subst h0
  simp only [kF] at h
  obtain ⟨⟨h1,h2⟩,h3⟩:=h
  split at h3
  ·rename_i e;exact does_idx h1 h2 e
  ·cases h3
 case h_24=>rename_i x n m y h0;dsimp only at h0;subst h0;simp only [kF,beq_iff_eq] at h;obtain ⟨rfl,h1⟩:=h;exact does_ext h1
 case h_25=>
  rename_i args ts str y h0;dsimp only at h0;subst h0
  split at h
  ·rename_i x t ha ht
   simp only [kF] at h
   obtain ⟨h1,h2⟩:=h
   split at h2
   ·rename_i d hd;exact does_len h1 hd h2 ht ha
   ·cases h2
  ·cases h
 case h_26=>
  rename_i args ts sz bytes s y h0;dsimp only at h0;subst h0
  split at h
  ·rename_i a b ha
   simp only [kF] at h
   exact does_app h.1.1 h.1.2 ha h.2
  ·cases h
 case h_27=>rename_i e x y h0;dsimp only at h0;subst h0;exact you h
 case h_28=>
  rename_i t n ps sz h0;dsimp only at h0;subst h0
  simp only [kF,beq_iff_eq] at h
  obtain ⟨⟨h1,h2⟩,h3⟩:=h
  split at h3
  ·rename_i e he;exact does_bz h1 h2 he h3
  ·cases h3
 case h_29=>
  rename_i t x lo k k' sz y h0;dsimp only at h0;subst h0
  simp only [kF] at h
  obtain ⟨⟨h1,h2⟩,h3⟩:=h
  split at h3
  ·rename_i e he
   simp only [beq_iff_eq] at h3
   exact yoi h1 (by simpa using h2) he h3
  ·cases h3
 case h_30=>
  rename_i s d x y h0;dsimp only at h0;subst h0
  simp only [kF] at h
  obtain ⟨h1,h2⟩:=h
  split at h2
  ·rename_i e e1 e2
   split at h2
   ·rename_i e3;exact does_b2s h1 e1 e2 e3
   ·cases h2
  ·cases h2
 case h_31=>
  rename_i s d x y h0;dsimp only at h0;subst h0
  simp only [kF] at h
  obtain ⟨h1,h2⟩:=h
  split at h2
  ·rename_i e e1 e2
   split at h2
   ·rename_i e3;exact does_s2b h1 e1 e2 e3
   ·cases h2
  ·cases h2
 case h_32=>
  rename_i t x i len sz y j h0;dsimp only at h0;subst h0
  simp only [kF] at h
  obtain ⟨⟨h1,h2⟩,h3⟩:=h
  split at h3
  ·rename_i n e e1
   simp only [kF,beq_iff_eq] at h3
   obtain ⟨rfl,h4⟩:=h3
   exact yoq h1 h2 e1 h4
  ·cases h3
 case h_33=>rename_i args ts xs h0;dsimp only at h0;subst h0;exact does_mx h
 case h_34=>rename_i args ts xs h0;dsimp only at h0;subst h0;exact does_mn h
 case h_35=>rename_i op t x y u neg ks x' y' h0;dsimp only at h0;subst h0;simp only [kF,decide_eq_true_eq] at h;obtain ⟨⟨⟨h0,hk⟩,h1⟩,h2⟩:=h;exact does_eqa h0 hk h1 h2
 case h_36=>intro F H v H' hst;simp [y2c] at hst
 case h_37=>intro F H v H' hst;simp [y2c] at hst
 case h_38=>rename_i t h0;dsimp only at h0;subst h0;exact does_mkm
 case h_39=>
  rename_i t m k ok ok' zv m' k' h0;dsimp only at h0;subst h0
  simp only [kF,beq_iff_eq] at h
  obtain ⟨⟨⟨rfl,h1⟩,h2⟩,h3⟩:=h
  split at h3
  ·rename_i e he;exact does_lkm h1 h2 he h3
  ·cases h3
 case h_40=>
  rename_i t m k x m' k' x' h0;dsimp only at h0;subst h0
  simp only [kF] at h
  obtain ⟨⟨⟨h1,h2⟩,h3⟩,h4⟩:=h
  obtain ⟨e,he⟩:=Option.isSome_iff_exists.1 h4
  exact yk7 h1 h2 h3 he (.inl rfl)
 case h_41=>
  rename_i t m k x m' k' x' h0;dsimp only at h0;subst h0
  simp only [kF] at h
  obtain ⟨⟨⟨h1,h2⟩,h3⟩,h4⟩:=h
  obtain ⟨e,he⟩:=Option.isSome_iff_exists.1 h4
  exact yk7 h1 h2 h3 he (.inr rfl)
 case h_42=>
  rename_i t x m h0;dsimp only at h0;subst h0
  simp only [kF] at h
  obtain ⟨e,he⟩:=Option.isSome_iff_exists.1 h.2
  exact does_rgm h.1 he
 case h_43=>rename_i x y h0;dsimp only at h0;subst h0;exact does_enm h
 case h_44=>rename_i f first caps g xs h0;dsimp only at h0;subst h0;simp only [kF,beq_iff_eq] at h;obtain ⟨⟨rfl,h1⟩,h2⟩:=h;exact yoo h1 h2
 case h_45=>rename_i e x T off y h0;dsimp only at h0;subst h0;simp only [kF,beq_iff_eq] at h;obtain ⟨rfl,h⟩:=h;exact yov h
 case h_46=>
  rename_i args ts T sz bytes s y h0;dsimp only at h0;subst h0
  split at h
  ·rename_i a b ha
   simp only [kF] at h
   exact yow h.1.1.1 h.1.1.2 ha h.1.2 h.2
  ·cases h
 case h_47=>
  rename_i s d x y h0;dsimp only at h0;subst h0
  simp only [kF] at h
  obtain ⟨h1,h2⟩:=h
  split at h2
  ·rename_i e e1 e2
   simp only [kF,beq_iff_eq] at h2
   obtain ⟨he,h2⟩:=h2
   split at h2
   ·rename_i e3;exact does_s2w h1 e1 e2 e3 he
   ·cases h2
  ·cases h2
 case h_48=>
  rename_i t n ps T n' zero qs h0;dsimp only at h0;subst h0
  simp only [kF,decide_eq_true_eq,beq_iff_eq] at h
  obtain ⟨⟨⟨rfl,h2⟩,h3⟩,h4⟩:=h
  split at h4
  ·rename_i e he
   simp only [kF,beq_iff_eq] at h4
   obtain ⟨⟨⟨rfl,h5⟩,h6⟩,h7⟩:=h4
   exact yot h5 h6 h2 h3 he h7
  ·cases h4
 case h_49=>
  rename_i op t x y u x' h0;dsimp only at h0;subst h0
  simp only [kF,decide_eq_true_eq] at h
  obtain ⟨⟨⟨rfl,h1⟩,h2⟩,h3⟩:=h
  exact yok h1 h2 h3
 case h_50=>cases h
end Go.Proofs.YtikpijbeobeckaaGreatDoor.Am
