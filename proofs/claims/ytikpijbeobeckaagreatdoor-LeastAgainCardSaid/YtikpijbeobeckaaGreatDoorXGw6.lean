/- Part 6. -/
import Derived.Laws.BytesString
import Derived.Lib.ConvBytes
import Derived.Test.YtikpijbeobeckaaGreatDoorXGw5
set_option linter.unusedSimpArgs false
set_option linter.unusedVariables false
namespace Go.Proofs.YtikpijbeobeckaaGreatDoor.Am
open Go Go.RowKit
theorem yeq {n:Int} (h0:0≤n) (h1:n≤140737488355328):IntKind.i64.wrap n=n:=by
 simp only [IntKind.wrap,IntKind.bits,IntKind.signed]
 have:n % (2 ^ 64:Int)=n:=Int.emod_eq_of_lt h0 (by omega)
 simp [this];omega
theorem VR.slNil {κ:K} {len sz:Nat} {c:Value} (h:VR κ (.sl none len sz) c):len=0∧∃a,c=.slice a 0 0:=by cases h with | sl0 _ a=>exact ⟨rfl,a,rfl⟩
section
variable {P:Program} {dst:Option Tmp} {type:TypeId} {pos:String} {after:Array Edge} {guard:Option (Nat × Bool)}
theorem yom {t e:TypeId} {i:TypeInfo} {l c:Operand} {l' c':AO} {sz bytes:Nat} {zero:List V} (hl:y3z l l'=true) (hc:y3z c c'=true) (he:y83 P t=some e) (hz:zOk P e zero=true)
  (hi:P.info? e=some i) (hsz:i.size=sz) (hby:i.bytes=bytes):y4s P ⟨dst,.makeSlice t l c,type,pos,after,guard⟩ (.mksl sz bytes zero l' c'):=by
 intro F H v H' hst κ a S r
 have rl:=y2b hl r
 have rc:=y2b hc r
 simp only [y2c] at hst
 split at hst
 ·rename_i k n k' m h1 h2
  rw [h1] at rl
  rw [h2] at rc
  split at hst
  ·rename_i hcond
   obtain ⟨q1,q2,q3,q4,q5,q6⟩:=hcond
   injection hst with hst;injection hst with e1 e2;subst e1;subst e2
   obtain ⟨zcs,hzz,hv⟩:=yj9 hz
   obtain ⟨z,hzc,hrz⟩:=ybq hzz κ.w
   have hzcells:z.cells=zcs.toArray:=by rw [←hzc]
   have hm0:0≤m:=by omega
   have hmb:m≤140737488355328:=by
    have h3:m*1≤m*bytes:=Int.mul_le_mul_of_nonneg_left (by omega) hm0
    simp only [y4x] at q3;omega
   have wn:IntKind.i64.wrap n=n:=yeq q1 (by omega)
   have wm:IntKind.i64.wrap m=m:=yeq hm0 hmb
   have hsizeOf:(sizeOf e).run P κ.w=.ok zero.length κ.w:=by simp [sizeOf,typeInfo,hi,hsz,q6]
   have h48:¬((bytes:Int)*m > 2 ^ 48):=by rw [Int.mul_comm];simp only [y4x] at q3;omega
   have hnm:n.toNat≤m.toNat:=by omega
   have hzl:0<zero.length:=by omega
   have hv':=yj8 (hv κ) hzl m.toNat
   let arr:=(Array.range (m.toNat*zero.length)).map (zcs.toArray[· % zcs.toArray.size]!)
   have hasz:arr.size=m.toNat*zero.length:=by simp [arr]
   have hnl:n.toNat*zero.length≤m.toNat*zero.length:=Nat.mul_le_mul_right _ hnm
   have hv2:∀(j:Nat) v,(y7x n.toNat zero)[j]?=some v→VR κ v (arr.getD j undef):=fun j v hj=>by
    have hjl:j<n.toNat*zero.length:=by rw [←y5d n.toNat zero];exact (List.getElem?_eq_some_iff.1 hj).1
    have hj':(y7x m.toNat zero)[j]?=some v:=by
     have hzj:=yfg _ _ hzl j v hj
     have hlt:j<(y7x m.toNat zero).length:=by rw [y5d];omega
     have:=yfg m.toNat zero hzl j _ (kC hlt)
     rw [kC hlt,←this,hzj]
    have:=hv'.2 j v hj'
    rw [kH]
    rw [kQ,Array.getElem?_toList] at this
    exact this
   have le:=K.new_le S (y7x n.toNat zero).length (.cells arr e (0,0))
   have S':=S.new (y7x n.toNat zero) arr e (by rw [y5d,hasz];exact hnl) hv2
   have hrl:=y5d n.toNat zero
   refine ⟨_,_,.slice (some ⟨κ.w.heap.size,0,none⟩) n.toNat m.toNat,le,by rw [hrl,q6] at S';rw [hrl,q6];exact S',?_,?_,.inl rfl⟩
   ·rw [←q6]
    refine .sl H.next 0 _ n.toNat zero.length m.toNat (arr.size,e) _ (K.new_ok _ _ _ _ (by rw [hrl];exact kG _)) hzl ⟨hnm,by omega⟩ (by omega) (by omega) ?_ (by rw [K.new_pl];simp;omega) (fun _=>by rw [K.new_pl])
    rw [K.new_pl]
    show y2q (κ.w.alloc _) κ.w.heap.size=_
    simp only [y2q,y23]
   ·have hc1:¬(m<0):=by omega
    have hc2:¬(n<0):=by omega
    have hc3:¬(n > m):=by omega
    simp only [execOp,Instr.makeSlice,Sem.run_bind,run_underlying (yan he),Result.andThen_ok,VR.inv_i rl,VR.inv_i rc,asInt,asIntOf,Sem.run_pure,typeInfo,run_program,hi,hby,wn,wm,
     hsizeOf,run_askRoom]
    have hcond:((decide (m<0)||decide ((bytes:Int)*m > 2 ^ 48))||decide (n<0)||decide (n > m))=false:=by simp [hc1,hc2,hc3];omega
    simp only [hcond,kN,if_false,Sem.run_pure,Result.andThen_ok,Sem.run_bind,run_askRoom,hsizeOf]
    by_cases hz0:m.toNat*zero.length=0
    ·have harr:(Array.range (m.toNat*zero.length)).map ((#[]:Array Value)[· % (#[]:Array Value).size]!)=arr:=by
      simp only [arr,hz0];simp
     simp only [hz0,if_true,Sem.run_bind,Sem.run_pure,Result.andThen_ok]
     rw [hz0] at harr
     simp only [harr,newRow,Sem.run_bind,run_newObj,Sem.run_pure,Result.andThen_ok]
     rfl
    ·simp only [hz0,if_false,Sem.run_bind,hrz,Sem.run_pure,Result.andThen_ok,hzcells,newRow,run_newObj]
     rfl
  ·cases hst
 ·cases hst
theorem yg4 {κ:K} {F:Fr} {a:Act} (r:FR κ F a.tmps) {lo:Option Operand} {lo':Option AO} (h:yd2 lo lo'=true) {d n:Int} (hb:bound F d lo'=some n):
  (lo=none∧lo'=none∧n=d)∨∃o k,lo=some o∧a.eval o=.int k n:=by
 cases lo with
 | none=>cases lo' with
  | none=>simp [bound] at hb;exact .inl ⟨rfl,rfl,hb.symm⟩
  | some _=>cases h
 | some o=>cases lo' with
  | none=>cases h
  | some x=>
   simp only [yd2] at h
   have:=y2b h r
   simp only [bound] at hb
   split at hb
   ·rename_i k m hx
    injection hb with hb;subst hb
    rw [hx] at this
    exact .inr ⟨o,k,rfl,VR.inv_i this⟩
   ·cases hb
theorem yev {κ:K} {F:Fr} {a:Act} (r:FR κ F a.tmps) {lo hi:Option Operand} {lo' hi':Option AO} (h1:yd2 lo lo'=true) (h2:yd2 hi hi'=true) {len cap:Nat} {l h:Int} (b:Bool)
  (e1:bound F 0 lo'=some l) (e2:bound F len hi'=some h) (hl:0≤l) (hlh:l≤h) (hcap:h≤cap) (w:World):
  (Instr.sliceBounds b len cap (lo.map a.eval) (hi.map a.eval) none).run P w=.ok (l.toNat,h.toNat,cap) w:=by
 have hh:((h.toNat:Nat):Int)=h:=by omega
 have sb:∀(k:IntKind) (n:Int) (y:Nat) (c:BoundsCode),0≤n→n≤y→(Instr.sliceBound (.int k n) y c).run P w=.ok n.toNat w:=fun k n y c g1 g2=>by
  simp only [Instr.sliceBound,asIntOf,Sem.run_bind,Sem.run_pure,Result.andThen_ok]
  rw [if_pos ⟨g1,g2⟩];rfl
 rcases yg4 r h2 e2 with ⟨rfl,rfl,rfl⟩ | ⟨oh,kh,rfl,hoh⟩
 ·rcases yg4 r h1 e1 with ⟨rfl,rfl,rfl⟩ | ⟨ol,kl,rfl,hol⟩
  ·simp only [Instr.sliceBounds,Option.map_none,Sem.run_bind,Sem.run_pure,Result.andThen_ok];simp
  ·simp only [Instr.sliceBounds,Option.map_none,Option.map_some,hol,Sem.run_bind,Sem.run_pure,Result.andThen_ok]
   rw [sb _ _ _ _ hl hlh];simp
 ·rcases yg4 r h1 e1 with ⟨rfl,rfl,rfl⟩ | ⟨ol,kl,rfl,hol⟩
  ·simp only [Instr.sliceBounds,Option.map_none,Option.map_some,hoh,Sem.run_bind,Sem.run_pure,Result.andThen_ok]
   rw [sb _ _ _ _ (by omega) hcap];simp
  ·simp only [Instr.sliceBounds,Option.map_some,hoh,hol,Sem.run_bind,Sem.run_pure,Result.andThen_ok]
   rw [sb _ _ _ _ (by omega) hcap]
   simp only [Result.andThen_ok]
   rw [sb _ _ _ _ hl (by omega)];simp
theorem yb5 {t:TypeId} {d:TypeDesc} (hu:P.underlying t=some d) (hd:∀n e,d≠.array n e) (x:Value) (lo hi mx:Option Value) (w:World):
  (Instr.sliceAt t x lo hi mx).run P w=(Instr.slice t x lo hi mx).run P w:=by
 simp only [Instr.sliceAt,Sem.run_bind,run_underlying hu,Result.andThen_ok]
theorem does_sls {t:TypeId} {x:Operand} {y:AO} {lo hi:Option Operand} {lo' hi':Option AO} (hx:y3z x y=true) (h1:yd2 lo lo'=true) (h2:yd2 hi hi'=true) (hu:P.underlying t=some .string):
  y4s P ⟨dst,.slice t x lo hi none,type,pos,after,guard⟩ (.sls y lo' hi'):=by
 intro F H v H' hst κ a S r
 have rx:=y2b hx r
 simp only [y2c] at hst
 split at hst
 ·rename_i bs hy
  rw [hy] at rx
  split at hst
  ·rename_i l h e1 e2
   split at hst
   ·rename_i hc
    injection hst with hst;injection hst with q1 q2;subst q1;subst q2
    refine y4s.still S (.s _) ?_
    have hb:=yev (P:=P) r h1 h2 (len:=bs.length) (cap:=bs.length) false e1 e2 hc.1 hc.2.1 hc.2.2 κ.w
    simp only [execOp,Sem.run_bind,Option.map_none,yb5 hu (by simp),Instr.slice,run_underlying hu,Result.andThen_ok,VR.inv_s rx,Option.isSome_none,kN,if_false,y9b,hb,Sem.run_pure]
    congr 3
    apply ByteArray.ext
    simp [List.drop_take]
   ·cases hst
  ·cases hst
 ·cases hst
theorem does_slc {t e:TypeId} {x:Operand} {y:AO} {sz:Nat} {lo hi:Option Operand} {lo' hi':Option AO} (hx:y3z x y=true) (h1:yd2 lo lo'=true) (h2:yd2 hi hi'=true) (hz:0<sz) (he:y83 P t=some e) (hs:szP P e=some sz):
  y4s P ⟨dst,.slice t x lo hi none,type,pos,after,guard⟩ (.slc sz y lo' hi'):=by
 intro F H v H' hst κ a S r
 have rx:=y2b hx r
 have hu:=yan he
 have run:∀(ad:Option Addr) (len cap:Nat) (l h:Int),bound F 0 lo'=some l→bound F len hi'=some h→0≤l→l≤h→h≤cap→a.eval x=.slice ad len cap→
   (execOp a.eval ⟨dst,.slice t x lo hi none,type,pos,after,guard⟩).run P κ.w=.ok (.value (.slice (if cap=l.toNat then ad else ad.map (·.add (l.toNat*sz))) (h.toNat-l.toNat) (cap-l.toNat))) κ.w:=fun ad len cap l h e1 e2 g1 g2 g3 hax=>by
  have hb:=yev (P:=P) r h1 h2 (len:=len) (cap:=cap) true e1 e2 g1 g2 g3 κ.w
  simp only [execOp,Sem.run_bind,Option.map_none,yb5 hu (by simp),Instr.slice,run_underlying hu,Result.andThen_ok,hax,hb,y4m hs,Sem.run_pure]
 simp only [y2c] at hst
 split at hst
 ·rename_i hy
  rw [hy] at rx
  split at hst
  ·rename_i l h e1 e2
   split at hst
   ·rename_i hc
    obtain ⟨rfl,rfl⟩:=hc
    injection hst with hst;injection hst with q1 q2;subst q1;subst q2
    obtain ⟨_,ad,had⟩:=rx.slNil
    refine y4s.still (cv:=.slice ad 0 0) S (.sl0 _ _) ?_
    have:=run ad 0 0 0 0 e1 (by simpa using e2) (by omega) (by omega) (by omega) had
    simpa using this
   ·cases hst
  ·cases hst
 ·rename_i id off ext len sz' hy
  rw [hy] at rx
  split at hst
  ·rename_i l h e1 e2
   split at hst
   ·rename_i hc
    obtain ⟨q0,q1,q2,q3⟩:=hc
    subst q0
    injection hst with hst;injection hst with p1 p2;subst p1;subst p2
    generalize hcx:a.eval x=c at rx
    cases rx with
    | sl _ _ _ _ _ cap nn ad ok hz' hlc hlo hhi hnc hroom ha=>
     have hcap:h.toNat≤cap:=by
      have:h.toNat*sz'≤cap*sz':=by omega
      exact Nat.le_of_mul_le_mul_right this hz
     have hlh:l.toNat≤h.toNat:=by omega
     have hrun:=run (some ad) len cap l h e1 e2 q1 q2 (by omega) hcx
     have hsub:(cap-l.toNat)*sz'=cap*sz'-l.toNat*sz':=Nat.sub_mul _ _ _
     have hsub2:(h.toNat-l.toNat)*sz'=h.toNat*sz'-l.toNat*sz':=Nat.sub_mul _ _ _
     have hle1:l.toNat*sz'≤h.toNat*sz':=Nat.mul_le_mul_right _ hlh
     have hle2:h.toNat*sz'≤cap*sz':=Nat.mul_le_mul_right _ hcap
     by_cases hcl:cap=l.toNat
     ·rw [if_pos hcl] at hrun
      refine y4s.still S (.sl id (off+l.toNat*sz') ext (h.toNat-l.toNat) sz' (cap-l.toNat) nn ad ok hz' (by omega) (by omega) (by omega) hnc (by omega) (fun hne=>by omega)) hrun
     ·rw [if_neg hcl] at hrun
      refine y4s.still S (.sl id (off+l.toNat*sz') ext (h.toNat-l.toNat) sz' (cap-l.toNat) nn (ad.add (l.toNat*sz')) ok hz' (by omega) (by omega) (by omega) hnc (by omega) (fun hne=>?_)) hrun
      have hc0:cap≠0:=by omega
      rw [ha hc0,y4h,ki]
   ·cases hst
  ·cases hst
 ·rename_i es hy
  rw [hy] at rx
  split at hst
  ·rename_i l h e1 e2
   split at hst
   ·rename_i hc
    obtain ⟨q1,q2,q3,q4⟩:=hc
    injection hst with hst;injection hst with p1 p2;subst p1;subst p2
    have hall:∀e∈es,e.length=sz:=fun e he=>by simpa using List.all_eq_true.1 q4 e he
    generalize hcx:a.eval x=c at rx
    cases rx with
    | fs _ cap sz' b o ad cv hlc hsz hnone had hcell hv=>
     have hrun:=run ad es.length cap l h e1 e2 q1 q2 (by omega) hcx
     have hlh:l.toNat≤h.toNat:=by omega
     have hhl:h.toNat≤es.length:=by omega
     have hlen:((es.take h.toNat).drop l.toNat).length=h.toNat-l.toNat:=by simp;omega
     have hget:∀(i:Nat) e,((es.take h.toNat).drop l.toNat)[i]?=some e→es[l.toNat+i]?=some e∧l.toNat+i<h.toNat:=fun i e hi=>by
      rw [List.getElem?_drop,kj] at hi
      split at hi
      ·exact ⟨hi,by assumption⟩
      ·cases hi
     have key:∀(cap':Nat) (ad':Option Addr),h.toNat-l.toNat≤cap'→(ad'=none→cap'=0)→(((es.take h.toNat).drop l.toNat)≠[]→ad'=some ⟨b,o+l.toNat*sz',none⟩)→
       VR κ (.fs ((es.take h.toNat).drop l.toNat)) (.slice ad' (h.toNat-l.toNat) cap'):=fun cap' ad' g1 g2 g3=>by
      have hne:((es.take h.toNat).drop l.toNat)≠[]→es≠[]:=fun hh hes=>by subst hes;simp at hh
      have:=VR.fs (κ:=κ) ((es.take h.toNat).drop l.toNat) cap' sz' b (o+l.toNat*sz') ad' (fun i j=>cv (l.toNat+i) j) (by omega)
       (fun e he=>hsz e (List.mem_of_mem_take (List.mem_of_mem_drop he))) g2 (fun hh=>⟨g3 hh,(had (hne hh)).2⟩)
       (fun i j e v hi hj=>by
        obtain ⟨a1,a2⟩:=hget i e hi
        have:=hcell (l.toNat+i) j e v a1 hj
        rw [Nat.add_mul] at this
        rw [ki o];exact this)
       (fun i j e v hi hj=>hv (l.toNat+i) j e v (hget i e hi).1 hj)
      rw [hlen] at this;exact this
     by_cases hcl:cap=l.toNat
     ·rw [if_pos hcl] at hrun
      refine y4s.still S (key (cap-l.toNat) ad (by omega) (fun hh=>by omega) (fun hh=>?_)) hrun
      have:((es.take h.toNat).drop l.toNat).length≠0:=fun h0=>hh (List.length_eq_zero_iff.1 h0)
      omega
     ·rw [if_neg hcl] at hrun
      refine y4s.still S (key (cap-l.toNat) (ad.map (·.add (l.toNat*sz))) (by omega) (fun hh=>?_) (fun hh=>?_)) hrun
      ·cases ad with
       | none=>have:=hnone rfl;omega
       | some _=>cases hh
      ·have hes:es≠[]:=fun hes=>by subst hes;simp at hh
       have hss:sz'=sz:=by
        cases es with
        | nil=>exact absurd rfl hes
        | cons e r=>rw [←hsz e (by simp),hall e (by simp)]
       subst hss
       obtain ⟨ha,_⟩:=had hes
       rw [ha,Option.map_some,y4h]
   ·cases hst
  ·cases hst
 ·cases hst
theorem does_iad {t e:TypeId} {x i:Operand} {y j:AO} {sz:Nat} (hx:y3z x y=true) (hi:y3z i j=true) (he:y83 P t=some e) (hs:szP P e=some sz):
  y4s P ⟨dst,.indexAddr t x i,type,pos,after,guard⟩ (.iad sz y j):=by
 intro F H v H' hst κ a S r
 have rx:=y2b hx r
 have ri:=y2b hi r
 have hu:=yan he
 have run:∀(ad:Addr) (len cap:Nat) (k:IntKind) (n:Int),0≤n→n<len→a.eval x=.slice (some ad) len cap→a.eval i=.int k n→
   (execOp a.eval ⟨dst,.indexAddr t x i,type,pos,after,guard⟩).run P κ.w=.ok (.value (.pointer (some (ad.add (n.toNat*sz))))) κ.w:=fun ad len cap k n g1 g2 hax hai=>by
  simp only [execOp,Instr.indexAt,hax,hai,asIntOf,Sem.run_bind,Sem.run_pure,Result.andThen_ok,run_underlying hu,g1,g2,and_self,if_true,y4m hs]
 simp only [y2c] at hst
 split at hst
 ·rename_i k n hj
  rw [hj] at ri
  split at hst
  ·rename_i id off ext len sz' hy
   rw [hy] at rx
   split at hst
   ·rename_i hc
    obtain ⟨q0,q1,q2⟩:=hc
    subst q0
    injection hst with hst;injection hst with p1 p2;subst p1;subst p2
    generalize hcx:a.eval x=c at rx
    cases rx with
    | sl _ _ _ _ _ cap nn ad ok hz' hlc hlo hhi hnc hroom ha=>
     have hc0:cap≠0:=by omega
     refine y4s.still S (.p id (off+n.toNat*sz') ext ok) ?_
     have:=run ad len cap k n q1 q2 hcx (VR.inv_i ri)
     rw [ha hc0,y4h,ki] at this
     exact this
   ·cases hst
  ·rename_i es hy
   rw [hy] at rx
   split at hst
   ·rename_i hn
    split at hst
    ·rename_i el hel
     split at hst
     ·rename_i hsz'
      injection hst with hst;injection hst with p1 p2;subst p1;subst p2
      generalize hcx:a.eval x=c at rx
      cases rx with
      | fs _ cap sz' b o ad cv hlc hsz hnone had hcell hv=>
       have hlt:=(List.getElem?_eq_some_iff.1 hel).1
       have hes:es≠[]:=fun hes=>by subst hes;simp at hlt
       obtain ⟨ha,hf⟩:=had hes
       subst ha
       have hss:sz'=sz:=by rw [←hsz el (kY hel),hsz']
       subst hss
       refine y4s.still S (.fp el 0 b (o+n.toNat*sz') (fun j=>cv n.toNat j) hf (fun j v hj'=>hcell n.toNat j el v hel hj') (fun j v hj'=>hv n.toNat j el v hel hj')) ?_
       have:=run ⟨b,o,none⟩ es.length cap k n hn (by omega) hcx (VR.inv_i ri)
       rw [y4h] at this
       exact this
     ·cases hst
    ·cases hst
   ·cases hst
  ·cases hst
 ·cases hst
theorem ynv:∀(l:List V) (x v:V),maxL x l=some v→∀{κ:K} {c:Value} {cs:List Value},VR κ x c→VRs κ l cs→∀w,∃cv,VR κ v cv∧(cs.foldlM Builtin.max2 c).run P w=.ok cv w
 | [],x,v,h,κ,c,cs,hx,hl,w=>by
  cases x <;> simp only [maxL] at h <;> first | (cases h;done) | skip
  injection h with h;subst h
  have:cs=[]:=by have:=hl.1;cases cs <;> simp at this ⊢
  subst this
  exact ⟨c,hx,rfl⟩
 | y::l,x,v,h,κ,c,cs,hx,hl,w=>by
  cases x <;> cases y <;> simp only [maxL] at h <;> first | (cases h;done) | skip
  rename_i k n k' m
  cases cs with
  | nil=>have:=hl.1;simp at this
  | cons d cs=>
   have hd:VR κ (.i k' m) d:=by simpa using hl.2 0 _ rfl
   have hr:VRs κ l cs:=⟨by simpa using hl.1,fun j u hj=>by simpa using hl.2 (j+1) u (by simpa using hj)⟩
   obtain ⟨cv,h1,h2⟩:=ynv l (.i k (max n m)) v h (.i k (max n m)) hr w
   refine ⟨cv,h1,?_⟩
   rw [VR.inv_i hx,VR.inv_i hd]
   have e:(if m > n then m else n)=max n m:=by split <;> omega
   simp only [List.foldlM_cons,Builtin.max2,Sem.run_bind,Sem.run_pure,Result.andThen_ok,e]
   exact h2
theorem yns:∀(l:List V) (x v:V),minL x l=some v→∀{κ:K} {c:Value} {cs:List Value},VR κ x c→VRs κ l cs→∀w,∃cv,VR κ v cv∧(cs.foldlM Builtin.min2 c).run P w=.ok cv w
 | [],x,v,h,κ,c,cs,hx,hl,w=>by
  cases x <;> simp only [minL] at h <;> first | (cases h;done) | skip
  injection h with h;subst h
  have:cs=[]:=by have:=hl.1;cases cs <;> simp at this ⊢
  subst this
  exact ⟨c,hx,rfl⟩
 | y::l,x,v,h,κ,c,cs,hx,hl,w=>by
  cases x <;> cases y <;> simp only [minL] at h <;> first | (cases h;done) | skip
  rename_i k n k' m
  cases cs with
  | nil=>have:=hl.1;simp at this
  | cons d cs=>
   have hd:VR κ (.i k' m) d:=by simpa using hl.2 0 _ rfl
   have hr:VRs κ l cs:=⟨by simpa using hl.1,fun j u hj=>by simpa using hl.2 (j+1) u (by simpa using hj)⟩
   obtain ⟨cv,h1,h2⟩:=yns l (.i k (min n m)) v h (.i k (min n m)) hr w
   refine ⟨cv,h1,?_⟩
   rw [VR.inv_i hx,VR.inv_i hd]
   have e:(if m<n then m else n)=min n m:=by split <;> omega
   simp only [List.foldlM_cons,Builtin.min2,Sem.run_bind,Sem.run_pure,Result.andThen_ok,e]
   exact h2
theorem does_mx {args:Array Operand} {ts:Array TypeId} {xs:List AO} (h:ycd args.toList xs=true):y4s P ⟨dst,.call ⟨.builtin .max,args,ts⟩,type,pos,after,guard⟩ (.mx xs):=by
 intro F H v H' hst κ a S r
 simp only [y2c] at hst
 cases hm:maxs (evs F xs) with
 | none=>simp [hm] at hst
 | some u=>
  simp [hm] at hst
  obtain ⟨h1,h2⟩:=hst;subst h1;subst h2
  have hv:=y5s h r
  cases hxs:evs F xs with
  | nil=>simp [hxs,maxs] at hm
  | cons x l=>
   rw [hxs] at hm hv
   simp only [maxs] at hm
   cases hcs:args.toList.map a.eval with
   | nil=>rw [hcs] at hv;have:=hv.1;simp at this
   | cons c cs=>
    rw [hcs] at hv
    have hx:VR κ x c:=by simpa using hv.2 0 _ rfl
    have hr:VRs κ l cs:=⟨by simpa using hv.1,fun j u hj=>by simpa using hv.2 (j+1) u (by simpa using hj)⟩
    obtain ⟨cv,r1,r2⟩:=ynv (P:=P) l x u hm hx hr κ.w
    refine y4s.still S r1 ?_
    have:(args.map a.eval).toList=c::cs:=by rw [Array.toList_map];exact hcs
    simp only [execOp,resolve,invoke,builtin,Builtin.max_,Sem.run_bind,Sem.run_pure,Result.andThen_ok,this,r2]
theorem does_mn {args:Array Operand} {ts:Array TypeId} {xs:List AO} (h:ycd args.toList xs=true):y4s P ⟨dst,.call ⟨.builtin .min,args,ts⟩,type,pos,after,guard⟩ (.mn xs):=by
 intro F H v H' hst κ a S r
 simp only [y2c] at hst
 cases hm:mins (evs F xs) with
 | none=>simp [hm] at hst
 | some u=>
  simp [hm] at hst
  obtain ⟨h1,h2⟩:=hst;subst h1;subst h2
  have hv:=y5s h r
  cases hxs:evs F xs with
  | nil=>simp [hxs,mins] at hm
  | cons x l=>
   rw [hxs] at hm hv
   simp only [mins] at hm
   cases hcs:args.toList.map a.eval with
   | nil=>rw [hcs] at hv;have:=hv.1;simp at this
   | cons c cs=>
    rw [hcs] at hv
    have hx:VR κ x c:=by simpa using hv.2 0 _ rfl
    have hr:VRs κ l cs:=⟨by simpa using hv.1,fun j u hj=>by simpa using hv.2 (j+1) u (by simpa using hj)⟩
    obtain ⟨cv,r1,r2⟩:=yns (P:=P) l x u hm hx hr κ.w
    refine y4s.still S r1 ?_
    have:(args.map a.eval).toList=c::cs:=by rw [Array.toList_map];exact hcs
    simp only [execOp,resolve,invoke,builtin,Builtin.min_,Sem.run_bind,Sem.run_pure,Result.andThen_ok,this,r2]
theorem you {e:TypeId} {x:Operand} {y:AO} (h:y3z x y=true):y4s P ⟨dst,.box e x,type,pos,after,guard⟩ (.boxf y):=by
 intro F H v H' hs κ a S r
 simp only [y2c] at hs
 split at hs
 ·rename_i cs hcs
  injection hs with hs;injection hs with h1 h2;subst h1;subst h2
  obtain ⟨hv,_⟩:=yaf hcs (y2b h r)
  have le:=K.ice_le S (.cells (a.eval x).cells e)
  have hlen:=hv.1
  simp only [Array.length_toList] at hlen
  have hv':=hv.mono le
  refine ⟨κ.ice (.cells (a.eval x).cells e),_,.pointer (some ⟨κ.w.heap.size,0,none⟩),le,S.ice _,?_,?_,.inl rfl⟩
  ·have:=VR.fp (κ:=κ.ice (.cells (a.eval x).cells e)) cs 0 κ.w.heap.size 0 (fun j=>(a.eval x).cells.getD j undef) (.inr rfl) (fun j v hj=>?_) (fun j v hj=>?_)
   ·exact this
   ·have hjl:=(List.getElem?_eq_some_iff.1 hj).1
    have:=yao (w:=κ.w.alloc (.cells (a.eval x).cells e)) (b:=κ.w.heap.size) (j:=j) (y23 _ _) (by omega)
    rw [Nat.zero_add];exact this
   ·have:=hv'.2 j v hj
    simpa [List.getD,kH] using this
  ·simp only [execOp,Instr.box,Sem.run_bind,newVar,newRow,run_newObj,Sem.run_pure,Result.andThen_ok]
   rfl
 ·cases hs
theorem does_bz {t e:TypeId} {n sz:Nat} {ps:Array (Nat × Operand)} (hn:n=0) (hp:ps.isEmpty=true) (he:y83 P t=some e) (hs:(szP P e).isSome=true):y4s P ⟨dst,.buildSlice t n ps,type,pos,after,guard⟩ (.bz sz):=by
 subst hn
 intro F H v H' hst κ a S r
 simp only [y2c] at hst
 injection hst with hst;injection hst with h1 h2;subst h1;subst h2
 obtain ⟨m,hm⟩:=Option.isSome_iff_exists.1 hs
 have hp':ps=#[]:=by simpa using hp
 subst hp'
 refine ⟨κ.ice (.cells #[] e),_,.slice (some ⟨κ.w.heap.size,0,none⟩) 0 0,K.ice_le S _,S.ice _,.sl0 _ _,?_,.inl rfl⟩
 simp only [execOp,Instr.buildSlice,Sem.run_bind,run_underlying (yan he),Result.andThen_ok,y4m hm,Nat.zero_mul,if_true,Sem.run_pure]
 simp [Instr.fill,newRow]
 have:(Array.range 0).map (fun _=>(default:Value))=#[]:=by simp
 rw [this]
 rfl
theorem yoi {t e:TypeId} {x:Operand} {y:AO} {sz:Nat} {lo:Option Operand} {k k':IntKind} (hx:y3z x y=true) (hl:lo=none) (he:y83 P t=some e) (hs:szP P e=some sz):
  y4s P ⟨dst,.slice t x lo (some (.const (.int k 0))) (some (.const (.int k' 0))),type,pos,after,guard⟩ (.slc0 sz y):=by
 subst hl
 intro F H v H' hst κ a S r
 have rx:=y2b hx r
 have hu:=yan he
 have run:∀(ad:Option Addr) (len cap:Nat),a.eval x=.slice ad len cap→∃ad',(execOp a.eval ⟨dst,.slice t x none (some (.const (.int k 0))) (some (.const (.int k' 0))),type,pos,after,guard⟩).run P κ.w=.ok (.value (.slice ad' 0 0)) κ.w:=fun ad len cap hax=>by
  refine ⟨if 0=0 then ad else ad.map (·.add (0*sz)),?_⟩
  have hb:(Instr.sliceBounds true len cap none (some (.int k 0)) (some (.int k' 0))).run P κ.w=.ok (0,0,0) κ.w:=by
   simp [Instr.sliceBounds,Instr.sliceBound,asIntOf]
  have e1:(some (Operand.const (.int k 0))).map a.eval=some (.int k 0):=rfl
  have e2:(some (Operand.const (.int k' 0))).map a.eval=some (.int k' 0):=rfl
  simp only [execOp,Sem.run_bind,e1,e2,Option.map_none,yb5 hu (by simp),Instr.slice,run_underlying hu,Result.andThen_ok,hax,hb,y4m hs,Sem.run_pure]
 have fin:∀{u:V},VR κ u (a.eval x)→(∃ad len cap,a.eval x=.slice ad len cap)→∃κ' nx cv,κ.Le κ'∧Sim κ' H∧VR κ' (.sl none 0 sz) cv∧(execOp a.eval ⟨dst,.slice t x none (some (.const (.int k 0))) (some (.const (.int k' 0))),type,pos,after,guard⟩).run P κ.w=.ok nx κ'.w∧(nx=.value cv∨(nx=.skip∧cv=undef)):=fun {u} _ ⟨ad,len,cap,hax⟩=>by
  obtain ⟨ad',hr⟩:=run ad len cap hax
  exact y4s.still S (.sl0 _ ad') hr
 simp only [y2c] at hst
 split at hst
 all_goals first | (cases hst;done) | skip
 all_goals rename_i hy
 all_goals injection hst with hst
 all_goals injection hst with h1 h2
 all_goals subst h1
 all_goals subst h2
 all_goals rw [hy] at rx
 all_goals refine fin rx ?_
 all_goals generalize a.eval x=c at rx
 all_goals cases rx
 all_goals exact ⟨_,_,_,rfl⟩
theorem yf4 {κ:K}:∀{cs:List V} {bs:List UInt8} {l:List Value},bytesOf cs=some bs→VRs κ cs l→∃ns:List Int,l=ns.map (Value.int .u8)∧bs=ns.map fun n=>UInt8.ofNat n.toNat
 | [],bs,l,h,r=>by
  simp only [bytesOf] at h;injection h with h;subst h
  have:l=[]:=by have:=r.1;cases l <;> simp at this ⊢
  subst this
  exact ⟨[],rfl,rfl⟩
 | c::cs,bs,l,h,r=>by
  unfold bytesOf at h
  split at h
  ·rename_i heq;cases heq
  ·rename_i n r' heq
   injection heq with h1 h2;subst h1;subst h2
   split at h
   ·rename_i bs' hbs
    injection h with h;subst h
    cases l with
    | nil=>have:=r.1;simp at this
    | cons d l=>
     have hd:VR κ (.i .u8 n) d:=by simpa using r.2 0 _ rfl
     have hr:VRs κ cs l:=⟨by simpa using r.1,fun j u hj=>by simpa using r.2 (j+1) u (by simpa using hj)⟩
     obtain ⟨ns,e1,e2⟩:=yf4 hbs hr
     exact ⟨n::ns,by rw [VR.inv_i hd,e1];rfl,by rw [e2];rfl⟩
   ·cases h
  ·cases h
theorem yf0:∀(ns:List Int) (s:ByteArray),ns.foldl (fun r n=>r.push (UInt8.ofNat n.toNat)) s=⟨s.data++(ns.map fun n=>UInt8.ofNat n.toNat).toArray⟩
 | [],s=>by simp
 | n::ns,s=>by
  rw [List.foldl_cons,yf0 ns]
  apply ByteArray.ext
  apply Array.ext'
  simp
theorem does_b2s {s d e:TypeId} {x:Operand} {y:AO} (hx:y3z x y=true) (h1:P.underlying s=some (.slice e)) (h2:P.underlying d=some .string) (h3:P.underlying e=some (.int .u8)):
  y4s P ⟨dst,.convert s d x,type,pos,after,guard⟩ (.b2s y):=by
 intro F H v H' hst κ a S r
 have rx:=y2b hx r
 simp only [y2c] at hst
 split at hst
 ·rename_i n cs hsl
  split at hst
  ·cases hst
  ·rename_i hns
   rw [kd] at hst
   obtain ⟨bs,hbs,hst⟩:=hst
   injection hst with q1 q2;subst q1;subst q2
   obtain ⟨l,hl,hv,hlen,hfc⟩:=yet (P:=P) S hsl rx
   obtain ⟨ns,e1,e2⟩:=yf4 hbs hv
   have hsh:∃ad cap,a.eval x=.slice ad n cap:=by
    have hln:=hlen κ.w
    generalize ev F y=u at rx hsl hns
    generalize a.eval x=c at rx hln
    cases rx <;> simp only [y4e] at hsl <;> first | (cases hsl;done) | skip
    case s=>exact absurd rfl (hns _)
    all_goals simp [Builtin.lenOf] at hln
    all_goals subst hln
    all_goals exact ⟨_,_,rfl⟩
   obtain ⟨ad,cap,hax⟩:=hsh
   have hfc':=hfc κ.w (fun _=>rfl)
   rw [hax] at hfc'
   refine y4s.still S (.s bs) ?_
   cases ad with
   | none=>
    simp [Builtin.firstCells] at hfc'
    have hl0:l=[]:=by cases l <;> simp at hfc' ⊢
    subst hl0
    have hn0:ns=[]:=by cases ns <;> simp at e1 ⊢
    subst hn0
    subst e2
    simp [execOp,convert,run_underlying h1,run_underlying h2,run_underlying h3,hax,Conv.bytesToString]
    rfl
   | some ad=>
    simp only [Builtin.firstCells,Nat.mul_one] at hfc'
    rw [e1] at hfc'
    have:=run_bytesToString κ.w ad n cap ns hfc'
    rw [yf0,←e2] at this
    simp only [execOp,Sem.run_bind,hax,run_convert_bytes_string κ.w s d e (some ad) n cap h1 h3 h2,this,Result.andThen_ok,Sem.run_pure]
    simp
 ·cases hst
theorem yc6 (w:World) (e:TypeId) (s:ByteArray):Lib.bytesWorld w e s=w.drew.alloc (.cells (Lib.bytesCells w e s) e ((Lib.bytesCells w e s).size,(Lib.bytesCells w e s).size+1)):=by
 have hheap:(Lib.bytesWorld w e s).heap=(w.drew.alloc (.cells (Lib.bytesCells w e s) e ((Lib.bytesCells w e s).size,(Lib.bytesCells w e s).size+1))).heap:=by
  apply Array.ext_getElem?
  intro j
  by_cases h1:j<w.heap.size
  ·rw [Lib.bytesWorld_at_old w e s j h1];exact (Below.heap_alloc w.drew _ j h1).symm
  ·by_cases h2:j=w.heap.size
   ·subst h2;rw [Lib.bytesWorld_at_new];exact (y23 w.drew _).symm
   ·rw [Array.getElem?_eq_none (by rw [Lib.bytesWorld_size];omega),Array.getElem?_eq_none (by simp;omega)]
 have hrest:∀(u:World) (a:Addr) (n:Nat),(u.freeze a n).tape=u.tape∧(u.freeze a n).drawn=u.drawn∧(u.freeze a n).os=u.os∧(u.freeze a n).output=u.output:=fun u a n=>by
  unfold World.freeze;split <;> exact ⟨rfl,rfl,rfl,rfl⟩
 obtain ⟨r1,r2,r3,r4⟩:=hrest (w.drew.alloc (.cells (Lib.bytesCells w e s) e)) ⟨w.heap.size,(Lib.bytesCells w e s).size,none⟩ 1
 have ext:∀{u v:World},u.heap=v.heap→u.tape=v.tape→u.drawn=v.drawn→u.os=v.os→u.output=v.output→u=v:=fun {u v} a b c d e=>by
  cases u;cases v;simp only at a b c d e;subst a;subst b;subst c;subst d;subst e;rfl
 exact ext hheap r1 r2 r3 r4
theorem does_s2b {s d e:TypeId} {x:Operand} {y:AO} (hx:y3z x y=true) (h1:P.underlying s=some .string) (h2:P.underlying d=some (.slice e)) (h3:P.underlying e=some (.int .u8)):
  y4s P ⟨dst,.convert s d x,type,pos,after,guard⟩ (.s2b y):=by
 intro F H v H' hst κ a S r
 have rx:=y2b hx r
 simp only [y2c] at hst
 split at hst
 ·rename_i bs hy
  injection hst with hst;injection hst with q1 q2;subst q1;subst q2
  rw [hy] at rx
  let κ1:K:={ κ with w:=κ.w.drew }
  have S1:Sim κ1 H:=S.drew
  let arr:=Lib.bytesCells κ.w e ⟨bs.toArray⟩
  have hcap:bs.length≤grownCap κ.w bs.length 0 e:=by simp [grownCap,Question.cut]
  have hsize:arr.size=grownCap κ.w bs.length 0 e:=by simp [arr,Lib.bytesCells,y9b];omega
  have hg:∀(j:Nat) b,bs[j]?=some b→arr.getD j undef=.int .u8 b.toNat:=fun j b hb=>by
   have hlt:=(List.getElem?_eq_some_iff.1 hb).1
   simp [arr,Lib.bytesCells,kH,Array.getElem?_append,hlt,hb]
   have:=(List.getElem?_eq_some_iff.1 hb).2
   rw [this]
  have le:=K.ice_le S1 (.cells arr e (arr.size,arr.size+1))
  refine ⟨κ1.ice (.cells arr e (arr.size,arr.size+1)),_,.slice (some ⟨κ.w.heap.size,0,none⟩) bs.length (grownCap κ.w bs.length 0 e),κ.drew_le.trans le,S1.ice _,?_,?_,.inl rfl⟩
  ·have hes:∀(i j:Nat) (e:List V) v,(bs.map fun b=>[V.i .u8 b.toNat])[i]?=some e→e[j]?=some v→j=0∧∃b,bs[i]?=some b∧v=.i .u8 b.toNat:=fun i j e v h1 h2=>by
    rw [List.getElem?_map,kd] at h1
    obtain ⟨b,hb,rfl⟩:=h1
    cases j with
    | zero=>simp at h2;exact ⟨rfl,b,hb,h2.symm⟩
    | succ j=>simp at h2
   have key:=VR.fs (κ:=κ1.ice (.cells arr e (arr.size,arr.size+1))) (bs.map fun b=>[V.i .u8 b.toNat]) (grownCap κ.w bs.length 0 e) 1 κ.w.heap.size 0 (some ⟨κ.w.heap.size,0,none⟩) (fun i _=>arr.getD i undef) (by simpa using hcap)
    (fun e he=>by obtain ⟨b,_,rfl⟩:=List.mem_map.1 he;rfl) (fun h=>by cases h) (fun _=>⟨rfl,.inr rfl⟩)
    (fun i j e' v h1 h2=>by
     obtain ⟨rfl,b,hb,rfl⟩:=hes i j e' v h1 h2
     have hlt:=(List.getElem?_eq_some_iff.1 hb).1
     have:=yao (w:=κ1.w.alloc (.cells arr e (arr.size,arr.size+1))) (b:=κ1.w.heap.size) (j:=i) (y23 _ _) (by omega)
     simpa [K.ice,κ1] using this)
    (fun i j e' v h1 h2=>by
     obtain ⟨rfl,b,hb,rfl⟩:=hes i j e' v h1 h2
     rw [hg i b hb];exact .i _ _)
   simpa using key
  ·have hrun:=Lib.run_convert_string_bytes κ.w s d e ⟨bs.toArray⟩ h1 h2 h3
   rw [yc6] at hrun
   simp only [execOp,Sem.run_bind,VR.inv_s rx,hrun,Result.andThen_ok,Sem.run_pure,y9b]
   rfl
 ·cases hst
theorem does_s2w {s d e:TypeId} {x:Operand} {y:AO} (hx:y3z x y=true) (h1:P.underlying s=some .string) (h2:P.underlying d=some (.slice e)) (h3:P.underlying e=some (.int .u8)) (he:e=5):
  y4s P ⟨dst,.convert s d x,type,pos,after,guard⟩ (.s2w y):=by
 intro F H v H' hst κ a S r
 have rx:=y2b hx r
 simp only [y2c] at hst
 split at hst
 ·rename_i bs hy
  split at hst
  case isFalse=>cases hst
  rename_i hbl
  injection hst with hst;injection hst with q1 q2;subst q1;subst q2
  rw [hy] at rx
  let κ1:K:={ κ with w:=κ.w.drew }
  have S1:Sim κ1 H:=S.drew
  let arr:=Lib.bytesCells κ.w e ⟨bs.toArray⟩
  have hcap:bs.length≤grownCap κ.w bs.length 0 e:=by simp [grownCap,Question.cut]
  have hsize:arr.size=grownCap κ.w bs.length 0 e:=by simp [arr,Lib.bytesCells,y9b];omega
  have hg:∀(j:Nat) u,(bs.map fun b=>V.i .u8 b.toNat)[j]?=some u→VR κ1 u (arr.getD j undef):=fun j u hj=>by
   simp at hj
   obtain ⟨b,hb,rfl⟩:=hj
   have hlt:=(List.getElem?_eq_some_iff.1 hb).1
   have:arr.getD j undef=.int .u8 b.toNat:=by
    simp [arr,Lib.bytesCells,kH,Array.getElem?_append,hlt,hb]
    have:=(List.getElem?_eq_some_iff.1 hb).2
    rw [this]
   rw [this];exact .i _ _
  have S2:=S1.newF (bs.map fun b=>.i .u8 b.toNat) arr e (arr.size,arr.size+1) (.inr ⟨kG _,he⟩) (by simp;omega) hg
  have le:=K.new_le S1 (bs.map fun b=>V.i .u8 b.toNat).length (.cells arr e (arr.size,arr.size+1))
  simp only [List.length_map] at S2 le
  refine ⟨_,_,.slice (some ⟨κ.w.heap.size,0,none⟩) bs.length (grownCap κ.w bs.length 0 e),κ.drew_le.trans le,S2,?_,?_,.inl rfl⟩
  ·refine .sl H.next 0 bs.length bs.length 1 (grownCap κ.w bs.length 0 e) (arr.size,e) _ (K.new_ok _ _ _ _ (kG _)) (by omega) ⟨hcap,grownCap_le_maxLen κ.w bs.length 0 e (by unfold maxLen;omega)⟩ (by omega) (by omega) ?_ (by rw [K.new_pl];simp;omega) (fun _=>by rw [K.new_pl];rfl)
   rw [K.new_pl]
   show y2q (κ1.w.alloc _) κ1.w.heap.size=_
   simp only [y2q,y23]
  ·have hrun:=Lib.run_convert_string_bytes κ.w s d e ⟨bs.toArray⟩ h1 h2 h3
   rw [yc6] at hrun
   simp only [execOp,Sem.run_bind,VR.inv_s rx,hrun,Result.andThen_ok,Sem.run_pure,y9b]
   rfl
 ·cases hst
theorem yoq {t e:TypeId} {len:Nat} {x i:Operand} {y j:AO} {sz:Nat} (hx:y3z x y=true) (hi:y3z i j=true) (hu:P.underlying t=some (.array len e)) (hs:szP P e=some sz):
  y4s P ⟨dst,.indexAddr t x i,type,pos,after,guard⟩ (.iadA len sz y j):=by
 intro F H v H' hst κ a S r
 have rx:=y2b hx r
 have ri:=y2b hi r
 have run:∀(ad:Addr) (k:IntKind) (n:Int),0≤n→n<len→a.eval x=.pointer (some ad)→a.eval i=.int k n→
   (execOp a.eval ⟨dst,.indexAddr t x i,type,pos,after,guard⟩).run P κ.w=.ok (.value (.pointer (some (ad.add (n.toNat*sz))))) κ.w:=fun ad k n g1 g2 hax hai=>by
  simp only [execOp,Instr.indexAt,hax,hai,asIntOf,Instr.sureAddr,Sem.run_bind,Sem.run_pure,Result.andThen_ok,run_underlying hu,g1,g2,and_self,if_true,y4m hs]
 simp only [y2c] at hst
 split at hst
 ·rename_i k n hj
  rw [hj] at ri
  split at hst
  ·rename_i hn
   split at hst
   ·rename_i id off ext hy
    injection hst with hst;injection hst with p1 p2;subst p1;subst p2
    rw [hy] at rx
    generalize hcx:a.eval x=c at rx
    cases rx with
    | p _ _ _ ok=>
     refine y4s.still S (.p id (off+n.toNat*sz) ext ok) ?_
     have:=run _ k n hn.1 hn.2 hcx (VR.inv_i ri)
     rw [y4h,ki] at this
     exact this
   ·rename_i cs off hy
    injection hst with hst;injection hst with p1 p2;subst p1;subst p2
    rw [hy] at rx
    generalize hcx:a.eval x=c at rx
    cases rx with
    | fp _ _ b o cv hf hc hv=>
     refine y4s.still S (.fp cs (off+n.toNat*sz) b o cv hf hc hv) ?_
     have:=run _ k n hn.1 hn.2 hcx (VR.inv_i ri)
     rw [y4h,ki] at this
     exact this
   ·cases hst
  ·cases hst
 ·cases hst
end
end Go.Proofs.YtikpijbeobeckaaGreatDoor.Am
