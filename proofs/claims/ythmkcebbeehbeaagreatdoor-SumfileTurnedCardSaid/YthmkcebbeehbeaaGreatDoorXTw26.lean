/- Part 26 of the proof of the laws of the queries: QTab, QPut, QSort, QSort2. -/
import Derived.Test.YthmkcebbeehbeaaGreatDoorXTw25
set_option linter.unusedSimpArgs false
set_option linter.unusedVariables false
namespace Go.Proofs.YthmkcebbeehbeaaGreatDoor
open Am C
def tcs (l:List Str):List V:=l.map fun x=>.s x
def SlOf (H:Hp) (cs:List V) (v:V) (id:Nat):Prop:=(cs=[]∧∃z,v=.sl none 0 z)∨(cs≠[]∧v=.sl (some (id,0,cs.length)) cs.length 1∧∃m,H.get id=some (.cells cs m)∧m≤cs.length)
theorem yez {α:Type} {l:List α} {n:Nat} {v:α} (h:l[n]?=some v):(l.drop n).take 1=[v]:=by
  obtain ⟨h1,h2⟩:=List.getElem?_eq_some_iff.1 h
  rw [List.drop_eq_getElem_cons h1,h2];rfl
theorem ypm (n:Nat) (x y:Str) (bx id idt m m2 mt:Nat) (ts:List Str) (ov:V) (H:Hp) (hb:H.get bx=some (.cells [.p (some (id,0,2))] m)) (hm:m≤1) (hi:H.get id=some (.cells [.sl (some (idt,0,ts.length)) ts.length 1,ov] m2)) (hm2:m2≤2)
    (ht:H.get idt=some (.cells (tcs ts) mt)) (hmt:mt≤ts.length) (hn:ts[n]?=some y) (hl:ts.length≤1000000000):AC Tryz.prog y5j [.i .i64 (n:Nat),.s x,.p (some (bx,0,1))] H (fun v H'=>v=.i .i64 (yg9 y x)∧H'=H):=by
  have hnl:=(List.getElem?_eq_some_iff.1 hn).1
  refine AC.code y2a.at y2a.ok ?_
  simp only [y2a]
  apply jA
  simp [y2a.r0]
  apply jA
  have ht1:((tcs ts).drop n).take 1=[.s y]:=yez (by simp [tcs,hn])
  simp [y2a.r1,hb,hm,hi,hm2,ht,hmt,hnl,ht1,show n+1≤ts.length by omega]
  refine AC.fix (y95 _ _ _) ?_
  simp
  apply jD
  simp
def BsInv (arr:V) (x:Str) (g:V) (len p:Nat) (H:Hp) (m:Nat) (F:Fr) (H':Hp):Prop:=
  ∃i j,i≤p∧p≤j∧j≤len∧m=j-i∧H'=H∧F=[(0,arr),(1,.s x),(2,g),(8,.i .i64 len),(9,.i .i64 i),(10,.i .i64 j)]
theorem half (i j:Nat) (h:i+j≤4611686018427387904):Go.IntKind.i64.wrap ((Go.IntKind.u64.wrap (Go.IntKind.i64.wrap ((i:Int)+j))).fdiv 2)=(((i+j) / 2:Nat):Int):=by
  rw [y2w (n:=(i:Int)+j) (by omega) (by omega),ylu (by omega) (by omega),Int.fdiv_eq_ediv_of_nonneg _ (by omega),y2w (by omega) (by omega)];omega
theorem BSF_ok (os:List Nat) (x:Str) (ido m:Nat) (f:Go.FuncId) (caps:List V) (c:Nat→Int) (p:Nat) (H:Hp) (hne:os≠[]) (hg:H.get ido=some (.cells (nc os) m)) (hm:m≤os.length) (hl:os.length≤1000000000) (hp:p≤os.length)
    (hc:∀j,j<os.length→(c j<0↔j<p)) (hf:∀j n,os[j]?=some n→AC Tryz.prog f (.i .i64 (n:Nat)::.s x::caps) H (fun v H'=>v=.i .i64 (c j)∧H'=H)):
    AC Tryz.prog y3y [.sl (some (ido,0,os.length)) os.length 1,.s x,.fn f caps] H (fun v H'=>v=.tup [.i .i64 (p:Nat),.b (decide (p<os.length∧c p=0))]∧H'=H):=by
  refine AC.code y5.at y5.ok ?_
  simp only [y5]
  have hld:∀j n,os[j]?=some n→((nc os).drop j).take 1=[.i .i64 (n:Nat)]:=fun j n h=>yez (by simp [nc,h])
  apply jA
  simp [y5.r0]
  apply jA
  simp [y5.r1]
  apply jA
  simp [y5.r2]
  refine AX.seq (AX.pblock (AX.loop (BsInv (.sl (some (ido,0,os.length)) os.length 1) x (.fn f caps) os.length p H) os.length ⟨_,_,.refl _ _,0,os.length,by omega,hp,by omega,by omega,rfl,rfl⟩ ?_))
  rintro m' F H' ⟨i,j,hi,hj,hjl,rfl,rfl,rfl⟩
  simp only [y5.l0]
  apply jB
  simp [y5.r3]
  refine AX.pcond rfl (fun hb=>AX.skip ?_) (fun hb=>AX.exit ?_)
  · simp at hb
    simp
    refine AX.pblock (jA ?_)
    obtain ⟨e,he⟩:∃e,e=(i+j) / 2:=⟨_,rfl⟩
    have hh:=half i j (by omega)
    rw [←he] at hh
    simp [y5.r4,hh]
    have hel:e<os.length:=by omega
    obtain ⟨n,hn⟩:∃n,os[e]?=some n:=⟨_,List.getElem?_eq_getElem hel⟩
    apply jA
    simp [y5.r5,hel,hg,hm,hld e n hn,show e+1≤os.length by omega]
    refine AC.fix (hf e n hn) ?_
    simp
    refine AX.pcond rfl (fun h=>AX.reg ?_) (fun h=>AX.reg ?_)
    · simp at h
      have:=(hc e hel).1 h
      simp [y5.r6,y7a (show e≤9223372036854775000 by omega)]
      exact ⟨j-(e+1),by omega,_,_,.refl _ _,e+1,j,by omega,hj,hjl,rfl,rfl,by simp⟩
    · simp at h
      have:¬e<p:=fun hlt=>by have:=(hc e hel).2 hlt;omega
      simp [y5.r7]
      exact ⟨e-i,by omega,_,_,.refl _ _,i,e,hi,by omega,by omega,rfl,rfl,rfl⟩
  simp at hb
  have e1:i=p:=by omega
  subst e1
  simp
  apply jA
  by_cases hlt:i<os.length
  · obtain ⟨n,hn⟩:∃n,os[i]?=some n:=⟨_,List.getElem?_eq_getElem hlt⟩
    simp [y5.r8,hlt,hg,hm,hld i n hn,show i+1≤os.length by omega]
    refine AC.fix (hf i n hn) ?_
    simp [hlt]
    apply jD
    simp
  · simp [y5.r8,hlt]
    apply jD
    simp
theorem BSF0_ok (x:Str) (z:Nat) (f:Go.FuncId) (caps:List V) (H:Hp):
    AC Tryz.prog y3y [.sl none 0 z,.s x,.fn f caps] H (fun v H'=>v=.tup [.i .i64 ((0:Nat):Int),.b false]∧H'=H):=by
  refine AC.code y5.at y5.ok ?_
  simp only [y5]
  apply jA
  simp [y5.r0]
  apply jA
  simp [y5.r1]
  apply jA
  simp [y5.r2]
  refine AX.seq (AX.pblock (AX.loop (fun m F X=>m=0∧X=H∧F=[(0,.sl none 0 z),(1,.s x),(2,.fn f caps),(8,.i .i64 0),(9,.i .i64 0),(10,.i .i64 0)]) 0 ⟨_,_,.refl _ _,rfl,rfl,rfl⟩ ?_))
  rintro m F X ⟨rfl,rfl,rfl⟩
  simp only [y5.l0]
  apply jB
  simp [y5.r3]
  refine jF rfl (AX.exit ?_)
  simp
  apply jA
  simp [y5.r8]
  apply jD
  simp
structure TabAt (H:Hp) (id idt ido:Nat) (ts:List Str) (os:List Nat):Prop where
  ex:∃tv ov m,H.get id=some (.cells [tv,ov] m)∧m≤2∧SlOf H (tcs ts) tv idt∧SlOf H (nc os) ov ido
  len:os.length=ts.length
  all:∀n∈os,n<ts.length
  big:ts.length≤1000000000
  ris:y3o (os.map fun n=>ts.getD n [])
def y7d (ts:List Str) (os:List Nat):List Str:=os.map fun n=>ts.getD n []
theorem cmp_neg (x y:Str):(yg9 x y<0)=(ltB x y=true):=by
  unfold yg9
  by_cases h:ltB x y=true
  · simp [h]
  · rw [if_neg h];by_cases h2:x=y
    · rw [if_pos h2];simp [h]
    · rw [if_neg h2];simp [h]
theorem cmp_zero (x y:Str):(yg9 x y=0)=(x=y):=by
  unfold yg9
  by_cases h:ltB x y=true
  · rw [if_pos h]
    have:x≠y:=fun e=>by rw [e] at h;exact absurd h (y92 _)
    simp [this]
  · rw [if_neg h];by_cases h2:x=y
    · rw [if_pos h2];simp [h2]
    · rw [if_neg h2];simp [h2]
theorem place_ok (id idt ido:Nat) (ts:List Str) (os:List Nat) (x:Str) (H:Hp) (T:TabAt H id idt ido ts os):AC Tryz.prog y5x [.p (some (id,0,2)),.s x] H (fun v H'=>v=.tup [.i .i64 (yam (y7d ts os) x:Nat),.b (decide (x∈y7d ts os))]∧H'=H):=by
  have hR:y3o (y7d ts os):=T.ris
  have hRl:(y7d ts os).length=os.length:=by simp [y7d]
  have hfr:yb5 (.tup [.i .i64 (yam (y7d ts os) x:Nat),.b (decide (x∈y7d ts os))]):=by simp
  refine AC.codeP y2f.at y2f.ok hfr fun hlt=>?_
  obtain ⟨tv,ov,m,hi,hm,ht,ho⟩:=T.ex
  have hil:=hlt _ _ hi
  simp only [y2f]
  apply jA
  simp [y2f.r0]
  apply jA
  have hi':(H.add (.cells [.p (some (id,0,2))] 1)).get id=some (.cells [tv,ov] m):=(Hp.Ext.add hlt _).2 _ _ hi
  simp [y2f.r1,hi,hm,show id≠H.next by omega]
  rcases ho with ⟨e,z,rfl⟩ | ⟨hne,rfl,mo,go,hmo⟩
  · have e0:os=[]:=by simpa [nc] using e
    subst e0
    refine AC.fix (BSF0_ok x z _ _ _) ?_
    simp
    apply jD
    simp [y7d,yam]
    exact ⟨.add hlt _,.refl _⟩
  · have hne':os≠[]:=by simpa [nc] using hne
    have hol:(nc os).length=os.length:=by simp [nc]
    rw [hol] at hmo ⊢
    rcases ht with ⟨e,z,rfl⟩ | ⟨hnt,rfl,mt,gt,hmt⟩
    · have e0:ts=[]:=by simpa [tcs] using e
      have:=T.len
      rw [e0] at this
      exact absurd (List.length_eq_zero_iff.1 this) hne'
    have htl:(tcs ts).length=ts.length:=by simp [tcs]
    rw [htl] at hmt hi'
    refine AC.fix (BSF_ok os x ido mo _ _ (fun j=>yg9 ((y7d ts os).getD j []) x) (yam (y7d ts os) x) _ hne' ((Hp.Ext.add hlt _).2 _ _ go) hmo (by have:=T.len;have:=T.big;omega) (by have:=ykp (y7d ts os) x;omega) (fun j hj=>?_) (fun j n hn=>?_)) ?_
    · have hj':(y7d ts os)[j]?=some (y7d ts os)[j]:=List.getElem?_eq_getElem (by omega)
      have:=ye9 hR x j _ hj'
      rw [cmp_neg,List.getD_eq_getElem?_getD,hj',Option.getD_some,this];simp
    · have hnl:=T.all n (List.mem_of_getElem? hn)
      have e1:(y7d ts os).getD j []=ts[n]:=by
        rw [List.getD_eq_getElem?_getD];simp [y7d,hn,hnl]
      rw [e1]
      exact ypm n x ts[n] H.next id idt 1 m mt ts _ _ (by simp) (by omega) hi' hm ((Hp.Ext.add hlt _).2 _ _ gt) hmt (List.getElem?_eq_getElem hnl) T.big
    simp
    apply jD
    have ef:decide (yam (y7d ts os) x<os.length∧yg9 ((y7d ts os).getD (yam (y7d ts os) x) []) x=0)=decide (x∈y7d ts os):=by
      apply decide_eq_decide.2
      rw [cmp_zero,ybf hR x]
      constructor
      · rintro ⟨h1,h2⟩
        rw [List.getElem?_eq_getElem (by omega)]
        rw [List.getD_eq_getElem?_getD,List.getElem?_eq_getElem (by omega)] at h2
        simpa using h2
      · intro h
        have h1:=(List.getElem?_eq_some_iff.1 h).1
        exact ⟨by omega,by rw [List.getD_eq_getElem?_getD,h];rfl⟩
    rw [Bool.decide_and] at ef
    rw [List.getD_eq_getElem?_getD] at ef
    simp [ef]
    exact ⟨.add hlt _,.refl _⟩
def putT (ts:List Str) (os:List Nat) (x:Str):List Str:=if x∈y7d ts os then ts else ts++[x]
def putO (ts:List Str) (os:List Nat) (x:Str):List Nat:=if x∈y7d ts os then os else ygk os (yam (y7d ts os) x) ts.length
structure Left (H H':Hp) (id idt ido idt' ido':Nat):Prop where
  old:∀k blk,k≠id→k≠idt→k≠ido→H.get k=some blk→H'.get k=some blk
  nx:H.next≤H'.next
  t:idt'=idt∨H.next≤idt'
  o:ido'=ido∨H.next≤ido'
  lt:(∀k blk,H.get k=some blk→k<H.next)→∀k blk,H'.get k=some blk→k<H'.next
theorem Left.refl (H:Hp) (id idt ido:Nat):Left H H id idt ido idt ido:=⟨fun _ _ _ _ _ h=>h,Nat.le_refl _,.inl rfl,.inl rfl,fun h=>h⟩
theorem ypg {ts:List Str} {os:List Nat} {x:Str} (hall:∀n∈os,n<ts.length) (h:x∉y7d ts os):y7d (ts++[x]) (ygk os (yam (y7d ts os) x) ts.length)=(y7d ts os).take (yam (y7d ts os) x)++x::(y7d ts os).drop (yam (y7d ts os) x):=by
  have e:∀l:List Nat,(∀n∈l,n<ts.length)→(l.map fun n=>(ts++[x]).getD n [])=l.map fun n=>ts.getD n []:=fun l hl=>by
    apply List.map_congr_left
    intro n hn
    rw [List.getD_eq_getElem?_getD,List.getD_eq_getElem?_getD,List.getElem?_append_left (hl n hn)]
  unfold ygk
  generalize yam (y7d ts os) x=p
  unfold y7d
  rw [List.map_append,List.map_cons,e _ (fun n hn=>hall n (List.mem_of_mem_take hn)),e _ (fun n hn=>hall n (List.mem_of_mem_drop hn)),List.map_take,List.map_drop]
  simp [List.getD_eq_getElem?_getD]
theorem Put_ok (id idt ido:Nat) (ts:List Str) (os:List Nat) (x:Str) (H:Hp) (hbig:ts.length≤1000000) (T:TabAt H id idt ido ts os):
    AC Tryz.prog y6f [.p (some (id,0,2)),.s x] H (fun v H'=>(∃a b,v=.tup [.i .i64 a,.b b])∧∃idt' ido',TabAt H' id idt' ido' (putT ts os x) (putO ts os x)∧Left H H' id idt ido idt' ido'):=by
  have hR:y3o (y7d ts os):=T.ris
  have hRl:(y7d ts os).length=os.length:=by simp [y7d]
  have hpl:=ykp (y7d ts os) x
  have hpm:=ybf hR x
  have hTl:=T.len
  refine AC.lt (by kernel_rfl) fun hlt=>?_
  refine AC.code yp.at yp.ok ?_
  obtain ⟨tv,ov,m,hi,hm,ht,ho⟩:=T.ex
  have hil:=hlt _ _ hi
  simp only [yp]
  apply jA
  simp [yp.r0]
  apply jA
  simp [yp.r1]
  refine AC.fix (place_ok id idt ido ts os x H T) ?_
  obtain ⟨p,hp⟩:∃p,p=yam (y7d ts os) x:=⟨_,rfl⟩
  rw [←hp] at hpl hpm ⊢
  simp
  apply jB
  simp [yp.r2]
  by_cases hx:x∈y7d ts os
  · refine jG (by simp [hx]) (jA ?_)
    have hpos:=(List.getElem?_eq_some_iff.1 (hpm.1 hx)).1
    rcases ho with ⟨e,z,rfl⟩ | ⟨hne,rfl,mo,go,hmo⟩
    · have e0:os=[]:=by simpa [nc] using e
      subst e0;simp [y7d] at hx
    have hol:(nc os).length=os.length:=by simp [nc]
    rw [hol] at hmo hi
    obtain ⟨n,hn⟩:∃n,os[p]?=some n:=⟨_,List.getElem?_eq_getElem (by omega)⟩
    have hld:((nc os).drop p).take 1=[.i .i64 (n:Nat)]:=yez (by simp [nc,hn])
    simp [yp.r3,hi,hm,go,hmo,hld,show p<os.length by omega,show p+1≤os.length by omega]
    apply jD
    simp [putT,putO,hx]
    exact ⟨idt,ido,⟨⟨tv,_,m,by rw [hi],hm,ht,.inr ⟨hne,by rw [hol],mo,go,by rw [hol];exact hmo⟩⟩,T.len,T.all,T.big,T.ris⟩,Left.refl _ _ _ _⟩
  refine jF (by simp [hx]) (AX.skip ?_)
  simp
  have hput:putT ts os x=ts++[x]:=by unfold putT;rw [if_neg hx]
  have hpuo:putO ts os x=ygk os p ts.length:=by unfold putO;rw [if_neg hx,hp]
  rw [hput,hpuo]
  have hfin:∀(H':Hp) (idt' ido':Nat),(∃m',H'.get id=some (.cells [.sl (some (idt',0,ts.length+1)) (ts.length+1) 1,.sl (some (ido',0,ts.length+1)) (ts.length+1) 1] m')∧m'≤2)→
      (∃m',H'.get idt'=some (.cells (tcs (ts++[x])) m')∧m'≤ts.length+1)→(∃m',H'.get ido'=some (.cells (nc (ygk os p ts.length)) m')∧m'≤ts.length+1)→TabAt H' id idt' ido' (ts++[x]) (ygk os p ts.length):=by
    rintro H' idt' ido' ⟨m1,h1,h2⟩ ⟨m3,h3,h4⟩ ⟨m5,h5,h6⟩
    have l1:(tcs (ts++[x])).length=ts.length+1:=by simp [tcs]
    have l2:(nc (ygk os p ts.length)).length=ts.length+1:=by simp [nc,yi4 (show p≤os.length by omega)];exact hTl
    refine ⟨⟨_,_,m1,h1,h2,.inr ⟨by simp [tcs],by rw [l1],m3,h3,by rw [l1];exact h4⟩,.inr ⟨by simp [nc,ygk],by rw [l2],m5,h5,by rw [l2];exact h6⟩⟩,?_,fun n hn=>?_,?_,?_⟩
    · rw [yi4 (show p≤os.length by omega)];simp [hTl]
    · simp only [ygk,List.mem_append,List.mem_cons] at hn
      simp only [List.length_append,List.length_cons,List.length_nil]
      rcases hn with hn | rfl | hn
      · have:=T.all n (List.mem_of_mem_take hn);omega
      · omega
      · have:=T.all n (List.mem_of_mem_drop hn);omega
    · simp;omega
    · have:=ypg T.all hx
      rw [←hp] at this
      show y3o (y7d (ts++[x]) (ygk os p ts.length))
      rw [this]
      have h7:=yeo hR x
      rw [yje hR,if_neg hx,←hp] at h7
      exact h7
  by_cases he:ts=[]
  · subst he
    have he2:os=[]:=List.length_eq_zero_iff.1 hTl
    subst he2
    have hp0:p=0:=by
                           have h0:(y7d [] []).length=0:=rfl
                           omega
    subst hp0
    obtain ⟨z,rfl⟩:∃z,tv=.sl none 0 z:=ht.elim (fun h=>h.2) (fun h=>absurd rfl h.1)
    obtain ⟨z2,rfl⟩:∃z,ov=.sl none 0 z:=ho.elim (fun h=>h.2) (fun h=>absurd rfl h.1)
    apply jA
    simp [yp.r4,hi,hm]
    apply jA
    have e1:y48 H 1 16 (.sl none 0 z) (.fs [[.s x]])=some (.sl (some (H.next,0,1)) 1 1,H.add (.cells [.s x] 1)):=by simp [y48,y7r,yay]
    simp [yp.r5,hi,hm,yco,-y48,e1,show id≠H.next by omega]
    apply jA
    simp [yp.r6,hm,yco,show id≠H.next by omega,show id≠H.next+1 by omega]
    refine AC.fix (ynz 0 (H.next+1) 1 z2 _ (by simp)) ?_
    simp [hm,show id≠H.next by omega,show id≠H.next+1 by omega,show id≠H.next+1+1 by omega]
    apply jA
    simp [yp.r7]
    apply jD
    simp
    refine ⟨H.next,H.next+1+1,hfin _ _ _ ⟨2,by simp,by omega⟩ ⟨1,by simp [tcs,show H.next≠id by omega,show H.next≠H.next+1+1 by omega],by simp⟩ ⟨1,by simp [ygk,show H.next+1+1≠id by omega],by simp⟩,fun k blk h1 h2 h3 h=>?_,by simp;omega,.inr (Nat.le_refl _),.inr (by omega),fun _=>Hp.upd_lt (Hp.add_lt (Hp.add_lt (Hp.upd_lt (Hp.add_lt hlt _) (by simp;omega) _) _) _) (by simp;omega) _⟩
    have hk:=hlt _ _ h
    simp [h1,show k≠H.next by omega,show k≠H.next+1 by omega,show k≠H.next+1+1 by omega]
    exact h
  · have hoe:os≠[]:=fun h=>he (List.length_eq_zero_iff.1 (by rw [←hTl,h];rfl))
    obtain ⟨rfl,mt,gt,hmt⟩:tv=.sl (some (idt,0,ts.length)) ts.length 1∧∃m,H.get idt=some (.cells (tcs ts) m)∧m≤ts.length:=by
      rcases ht with ⟨e,_⟩ | ⟨_,h,mt,gt,hmt⟩
      · exact absurd (by simpa [tcs] using e) he
      · have:(tcs ts).length=ts.length:=by simp [tcs]
        rw [this] at h hmt
        exact ⟨h,mt,gt,hmt⟩
    obtain ⟨rfl,mo,go,hmo⟩:ov=.sl (some (ido,0,os.length)) os.length 1∧∃m,H.get ido=some (.cells (nc os) m)∧m≤os.length:=by
      rcases ho with ⟨e,_⟩ | ⟨_,h,mo,go,hmo⟩
      · exact absurd (by simpa [nc] using e) hoe
      · have:(nc os).length=os.length:=by simp [nc]
        rw [this] at h hmo
        exact ⟨h,mo,go,hmo⟩
    have d1:id≠idt:=fun e=>by
      rw [←e,hi] at gt;injection gt with gt;injection gt with gt
      cases ts with
      | nil=>exact he rfl
      | cons a r=>simp [tcs] at gt
    have d2:id≠ido:=fun e=>by
      rw [←e,hi] at go;injection go with go;injection go with go
      cases os with
      | nil=>exact hoe rfl
      | cons a r=>simp [nc] at go
    have d3:idt≠ido:=fun e=>by
      rw [e,go] at gt;injection gt with gt;injection gt with gt
      cases ts with
      | nil=>exact he rfl
      | cons a r=>cases os with
        | nil=>exact hoe rfl
        | cons b q=>simp [tcs,nc] at gt
    have l1:=hlt _ _ gt
    have l2:=hlt _ _ go
    apply jA
    simp [yp.r4,hi,hm]
    apply jA
    have e1:y48 H 1 16 (.sl (some (idt,0,ts.length)) ts.length 1) (.fs [[.s x]])=some (.sl (some (idt,0,ts.length+1)) (ts.length+1) 1,H.upd idt (.cells (tcs ts++[.s x]) mt)):=by
      have:(tcs ts).length=ts.length:=by simp [tcs]
      simp [y48,y7r,yay,gt,this,y6d]
      omega
    simp [yp.r5,hi,hm,yco,-y48,e1,d1]
    have g5:((H.upd idt (.cells (tcs ts++[.s x]) mt)).upd id (.cells [.sl (some (idt,0,ts.length+1)) (ts.length+1) 1,.sl (some (ido,0,os.length)) os.length 1] 2)).get ido=some (.cells (nc os) mo):=by
      simp [Ne.symm d2,Ne.symm d3,go]
    apply jA
    simp [yp.r6,hm,yco]
    refine AC.fix (yrs os p ts.length ido H.next mo 1 (by omega) (by omega) (by omega) _ ?_ (by simp)) ?_
    · rw [show ∀b,(((H.upd idt (.cells (tcs ts++[.s x]) mt)).upd id (.cells [.sl (some (idt,0,ts.length+1)) (ts.length+1) 1,.sl (some (ido,0,os.length)) os.length 1] 2)).add b).get ido=((H.upd idt (.cells (tcs ts++[.s x]) mt)).upd id (.cells [.sl (some (idt,0,ts.length+1)) (ts.length+1) 1,.sl (some (ido,0,os.length)) os.length 1] 2)).get ido from fun b=>by simp [show ido≠H.next by omega]]
      exact g5
    simp [Hp.del,d2,show id≠H.next by omega,show id≠H.next+1 by omega,hTl]
    apply jA
    simp [yp.r7]
    apply jD
    simp
    refine ⟨idt,H.next+1,hfin _ _ _ ⟨2,by simp,by omega⟩ ⟨mt,?_,by omega⟩ ⟨ts.length+1,?_,by omega⟩,fun k blk h1 h2 h3 h=>?_,by simp;omega,.inl rfl,.inr (by omega),fun _ k blk h=>?_⟩
    · simp [Ne.symm d1,show idt≠H.next+1 by omega,d3,show idt≠H.next by omega,tcs]
    · simp [show H.next+1≠id by omega]
    · have hk:=hlt _ _ h
      simp [h1,h2,h3,show k≠H.next by omega,show k≠H.next+1 by omega]
      exact h
    · by_cases k1:k=id
      · simp;omega
      · by_cases k2:k=H.next+1
        · simp;omega
        · by_cases k3:k=H.next
          · simp;omega
          · by_cases k4:k=idt
            · simp;omega
            · by_cases k5:k=ido
              · simp;omega
              · simp [k1,k2,k3,k4,k5] at h
                have:=hlt _ _ h
                simp;omega
theorem yrz (os:List Nat) (ido mo:Nat) (hne:os≠[]) (hl:os.length≤8000000000000) (H:Hp) (hg:H.get ido=some (.cells (nc os) mo)):AC Tryz.prog y60 [.sl (some (ido,0,os.length)) os.length 1] H (fun v H'=>v=ns os∧H'=H):=by
  refine AC.row (T:=3) (sz:=1) (by kernel_rfl) (ns_len os) fun κ cs S r=>?_
  obtain ⟨c,rfl,rc⟩:=r.one'
  refine ⟨fun i _=>.int .i64 ((os[i]?).getD 0:Nat),fun κ' i j e v he hv=>?_,?_⟩
  · simp only [List.getElem?_map,Option.map_eq_some_iff] at he
    obtain ⟨x,hx,rfl⟩:=he
    cases j with
    | zero=>simp at hv;subst hv;simp only [hx,Option.getD_some];exact .i _ _
    | succ j=>simp at hv
  obtain ⟨arr,t,fr,p1,p2,p3,p4,p5⟩:=ym3 S hg
  have hpos:0<os.length:=List.length_pos_iff.2 hne
  cases rc with
  | sl _ _ _ _ _ cap nn a ok hz hlc hlo hhi hnc hroom ha=>
  obtain rfl:=ha (by omega)
  have hfin:∀(xs:List Go.Value),xs=os.map (fun x=>Go.Value.int .i64 (x:Nat))→∀(i j:Nat) e v,(os.map fun x=>[V.i .i64 (x:Nat)])[i]?=some e→e[j]?=some v→xs[i*1+j]?=some (.int .i64 ((os[i]?).getD 0:Nat)):=by
    rintro _ rfl i j e v he hv
    simp only [List.getElem?_map,Option.map_eq_some_iff] at he
    obtain ⟨x,hx,rfl⟩:=he
    cases j with
    | zero=>simp [hx]
    | succ j=>simp at hv
  refine (Tryz.slices_Clone_int (κ.pl ido os.length).1 ((κ.pl ido os.length).2+0) os.length cap (os.map fun x=>((x:Nat):Int)) κ.w (by simp) (by omega) fun j hj=>?_).mono fun e w' ⟨v',he,ho,_,hb⟩=>⟨v',_,he,by simpa using ho,hfin _ ?_,hb⟩
  · simp at hj
    have:=p3 j os[j] (List.getElem?_eq_getElem hj)
    rw [Nat.add_zero,ycg p1 (by omega),this]
    simp [List.getD_eq_getElem?_getD,hj]
  · rfl
theorem yo3 (z:Nat) (H:Hp):AC Tryz.prog y60 [.sl none 0 z] H (fun v H'=>v=ns []∧H'=H):=by
  refine AC.row (T:=3) (sz:=1) (by kernel_rfl) (ns_len []) fun κ cs S r=>?_
  obtain ⟨c,rfl,rc⟩:=r.one'
  refine ⟨fun i _=>.int .i64 0,fun κ' i j e v he hv=>by simp at he,?_⟩
  cases rc with
  | sl0 _ a=>
  cases a with
  | none=>exact (Tryz.slices_Clone_int_nil 0 0 κ.w).mono fun e w' ⟨he,hw⟩=>⟨_,[],he,by rw [hw];exact Go.World.ownsRow_nil _ _ _ _,fun i j e v he=>by simp at he,by rw [hw];exact .refl _ _⟩
  | some a=>exact (Tryz.slices_Clone_int_zero a 0 κ.w).mono fun e w' ⟨v',he,ho,_,hb⟩=>⟨v',[],he,ho,fun i j e v he=>by simp at he,hb⟩
def RisInv (y bx:Nat) (os:List Nat) (J:Nat→Hp→Prop) (m:Nat) (F:Fr) (X:Hp):Prop:=
  ∃k,k≤os.length∧m=os.length-k∧J k X∧F=[(0,.yl y),(1,.p (some (bx,0,1))),(9,ns os),(10,.i .i64 os.length),(11,.i .i64 k)]
theorem ynw (y bx id idt ido:Nat) (ts:List Str) (os:List Nat) (J:Nat→Hp→Prop) (H:Hp) (hl:os.length≤1000000) (h0:J 0 H)
    (hJ:∀k X,J k X→(∃m,X.get bx=some (.cells [.p (some (id,0,2))] m)∧m≤1)∧TabAt X id idt ido ts os)
    (hy:∀k n t X,os[k]?=some n→ts[n]?=some t→J k X→YC Tryz.prog y [.s t,.i .i64 (n:Nat)] X (fun v X'=>v=.b true∧J (k+1) X')):
    AC Tryz.prog y4m [.yl y,.p (some (bx,0,1))] H (fun _ X=>J os.length X):=by
  refine AC.code yw.at yw.ok ?_
  obtain ⟨⟨mb,hb,hmb⟩,T⟩:=hJ 0 H h0
  obtain ⟨tv,ov,m,hi,hm,ht,ho⟩:=T.ex
  simp only [yw]
  apply jA
  simp [yw.r0,hb,hmb,hi,hm]
  have hcl:AC Tryz.prog y60 [ov] H (fun v H'=>v=ns os∧H'=H):=by
    rcases ho with ⟨e,z,rfl⟩ | ⟨hne,rfl,mo,go,hmo⟩
    · have e0:os=[]:=by simpa [nc] using e
      subst e0;exact yo3 z H
    · have hol:(nc os).length=os.length:=by simp [nc]
      rw [hol]
      exact yrz os ido mo (by simpa [nc] using hne) (by omega) H go
  refine AC.fix hcl ?_
  simp [ns]
  refine AX.pblock (AX.loop (RisInv y bx os J) os.length ⟨_,_,.refl _ _,0,by omega,by omega,h0,rfl⟩ ?_)
  rintro m' F X ⟨k,hk,rfl,hX,rfl⟩
  simp only [yw.l0]
  apply jA
  simp [yw.r1]
  refine AX.seq (AX.pcond rfl (fun hc=>AX.skip ?_) (fun hc=>AX.exit ?_))
  · simp at hc
    obtain ⟨⟨mb,hb,hmb⟩,T⟩:=hJ k X hX
    obtain ⟨tv,ov,m,hi,hm,ht,ho⟩:=T.ex
    obtain ⟨n,hn⟩:∃n,os[k]?=some n:=⟨_,List.getElem?_eq_getElem hc⟩
    have hnl:=T.all n (List.mem_of_getElem? hn)
    obtain ⟨t,htn⟩:∃t,ts[n]?=some t:=⟨_,List.getElem?_eq_getElem hnl⟩
    rcases ht with ⟨e,z,rfl⟩ | ⟨hnt,rfl,mt,gt,hmt⟩
    · have e0:ts=[]:=by simpa [tcs] using e
      rw [e0] at hnl;simp at hnl
    have htl:(tcs ts).length=ts.length:=by simp [tcs]
    rw [htl] at hmt hi
    have ht1:((tcs ts).drop n).take 1=[.s t]:=yez (by simp [tcs,htn])
    simp
    apply jC
    simp [yw.r2,ns,hn]
    apply jA
    simp [yw.r3,hb,hmb,hi,hm,gt,hmt,ht1,hnl,show n+1≤ts.length by omega]
    refine (hy k n t X hn htn hX).mono ?_
    rintro v X' ⟨rfl,hX'⟩
    simp
    refine jF rfl (AX.skip ?_)
    simp
    apply jE
    simp [yw.r4,y7a (show k≤9223372036854775000 by omega)]
    exact ⟨os.length-(k+1),by omega,_,_,.refl _ _,k+1,by omega,rfl,hX',by simp [ns]⟩
  simp at hc
  have:k=os.length:=by omega
  subst this
  simp
  exact hX
theorem yro (id:Nat) (H:Hp):AC Tryz.prog y5n [.p (some (id,0,2))] H (fun v H'=>v=.fn y4m [.p (some (H.next,0,1))]∧H'=H.add (.cells [.p (some (id,0,2))] 1)):=by
  refine AC.code y2e.at y2e.ok ?_
  simp only [y2e]
  apply jA
  simp [y2e.r0]
  apply jA
  simp [y2e.r1]
  apply jD
  simp
theorem ypf {H:Hp} {id idt ido:Nat} {ts:List Str} {os:List Nat} (T:TabAt H id idt ido ts os) (x:Str):y7d (putT ts os x) (putO ts os x)=ya6 (y7d ts os) x:=by
  have hR:y3o (y7d ts os):=T.ris
  rw [yje hR]
  unfold putT putO
  by_cases h:x∈y7d ts os
  · simp [h]
  · rw [if_neg h,if_neg h,if_neg h,ypg T.all h]
def SoInv (l:List Str) (H:Hp) (m:Nat) (F:Fr) (X:Hp):Prop:=
  ∃i,i≤l.length∧m=l.length-i∧H.Ext X∧(∀k blk,X.get k=some blk→k<X.next)∧H.next<X.next∧(∃idt ido ts os,TabAt X H.next idt ido ts os∧H.next≤idt∧H.next≤ido∧y7d ts os=y5r (l.take i))∧
    F=[(2,.sl none 0 0),(3,.p (some (H.next,0,2))),(10,ss l),(11,.i .i64 l.length),(12,.i .i64 i)]
theorem Ext_left {H X X':Hp} {id idt ido idt' ido':Nat} (hl:∀k blk,H.get k=some blk→k<H.next) (e:H.Ext X) (h:Left X X' id idt ido idt' ido') (h1:H.next≤id) (h2:H.next≤idt) (h3:H.next≤ido):H.Ext X':=
  ⟨Nat.le_trans e.1 h.nx,fun k blk g=>by
    have:=hl k blk g
    exact h.old k blk (by omega) (by omega) (by omega) (e.2 k blk g)⟩
theorem SlOf.ext {X Y:Hp} {cs:List V} {v:V} {id:Nat} (h:SlOf X cs v id) (e:X.Ext Y):SlOf Y cs v id:=
  h.imp (fun x=>x) fun ⟨a,c,m,g,hm⟩=>⟨a,c,m,e.2 _ _ g,hm⟩
theorem TabAt.ext {X Y:Hp} {id idt ido:Nat} {ts:List Str} {os:List Nat} (T:TabAt X id idt ido ts os) (e:X.Ext Y):TabAt Y id idt ido ts os:=by
  obtain ⟨tv,ov,m,h1,h2,h3,h4⟩:=T.ex
  exact ⟨⟨tv,ov,m,e.2 _ _ h1,h2,h3.ext e,h4.ext e⟩,T.len,T.all,T.big,T.ris⟩
structure SoJ (X:Hp) (R:List Str) (p:V) (lp:OB) (k:Nat) (Y:Hp):Prop where
  ext:X.Ext Y
  lt:∀j blk,Y.get j=some blk→j<Y.next
  nx:X.next+2<Y.next
  bx:Y.get (X.next+1)=some (.cells [p] 1)
  lp:Y.get (X.next+2)=some (.obj lp)
  out:∃v ia,Y.get X.next=some (.cells [v] 1)∧SlOf Y (tcs (R.take k)) v ia∧(R.take k≠[]→X.next+2<ia)
theorem yhn (l:List Str) (hl:l.length≤1000000) (H:Hp):AC Tryz.prog y63 [ss l] H (fun v H'=>v=ss (y5r l)∧H'=H):=by
  refine AC.codeP ye.at ye.ok (ybo _) fun hlt=>?_
  simp only [ye]
  apply jA
  simp [ye.r0]
  apply jA
  simp [ye.r1]
  apply jB
  simp [ye.r2,ss]
  have T0:TabAt (H.add (.cells [.sl none 0 0,.sl none 0 0] 2)) H.next H.next H.next [] []:=⟨⟨_,_,2,by simp,by omega,.inl ⟨rfl,0,rfl⟩,.inl ⟨rfl,0,rfl⟩⟩,rfl,by simp,by simp,by simp [y3o]⟩
  refine AX.pblock (AX.loop (SoInv l H) l.length ⟨_,_,.refl _ _,0,by omega,by omega,.add hlt _,Hp.add_lt hlt _,by simp,⟨H.next,H.next,[],[],T0,Nat.le_refl _,Nat.le_refl _,rfl⟩,rfl⟩ ?_)
  rintro m F X ⟨i,hi,rfl,hx,hxl,hxn,⟨idt,ido,ts,os,T,ht,ho,hr⟩,rfl⟩
  have hts:ts.length≤i:=by
    have h1:(y7d ts os).length=os.length:=by simp [y7d]
    have h2:=yc3 l i
    rw [←hr,h1,T.len] at h2
    exact h2
  simp only [ye.l0]
  apply jA
  simp [ye.r3]
  refine AX.seq (AX.pcond rfl (fun hc=>AX.skip ?_) (fun hc=>AX.exit ?_))
  · simp at hc
    simp
    apply jC
    simp [ye.r4,ss,hc]
    apply jE
    simp [ye.r5]
    refine (Put_ok H.next idt ido ts os l[i] X (by omega) T).mono ?_
    rintro v X' ⟨⟨a,b,rfl⟩,idt',ido',T',L⟩
    simp
    apply jE
    simp [ye.r6,y4v hc (show l.length≤9223372036854775807 by omega)]
    refine ⟨l.length-(i+1),by omega,_,_,.refl _ _,i+1,by omega,rfl,Ext_left hlt hx L (Nat.le_refl _) ht ho,L.lt hxl,by have:=L.nx;omega,⟨idt',ido',_,_,T',?_,?_,?_⟩,by simp [ss]⟩
    · rcases L.t with h | h <;> omega
    · rcases L.o with h | h <;> omega
    · rw [ypf T,hr,List.take_add_one,List.getElem?_eq_getElem hc]
      exact (yis _ _).symm
  simp at hc
  rw [List.take_of_length_le hc] at hr
  simp
  apply jA
  simp [ye.r7]
  apply jB
  simp [ye.r8]
  refine AC.fix (yro H.next _) ?_
  simp
  have hR:(y7d ts os).length=os.length:=by simp [y7d]
  refine AX.pblock (AX.prange rfl fun S hS=>?_)
  refine (ynw (X.next+2) (X.next+1) H.next idt ido ts os (SoJ X (y7d ts os) (.p (some (H.next,0,2))) (.lp S .ready)) _ (by have:=T.len;omega) ?_ (fun k Y J=>⟨⟨1,J.bx,by omega⟩,T.ext J.ext⟩) ?_).mono ?_
  · have x1:X.Ext (X.add (.cells [.sl none 0 0] 1)):=.add hxl _
    have l1:=Hp.add_lt hxl (.cells [.sl none 0 0] 1)
    have x2:=x1.trans (.add l1 (.cells [.p (some (H.next,0,2))] 1))
    have l2:=Hp.add_lt l1 (.cells [.p (some (H.next,0,2))] 1)
    exact ⟨x2.trans (.add l2 _),Hp.add_lt l2 _,by simp,by simp,by simp,⟨.sl none 0 0,0,by simp [show X.next≠X.next+1+1 by omega],.inl ⟨by simp [tcs],0,rfl⟩,fun h=>absurd (by simp) h⟩⟩
  · intro k n t Y hn htn J
    have hk:=(List.getElem?_eq_some_iff.1 hn).1
    have hrk:(y7d ts os)[k]?=some t:=by
      simp only [y7d,List.getElem?_map,hn,Option.map_some,List.getD_eq_getElem?_getD,htn];rfl
    obtain ⟨v,ia,jo,js,ji⟩:=J.out
    refine YC.walk hS J.lp rfl ?_
    simp only [ye.a1]
    apply jE
    simp [ye.r9,putAll]
    refine ⟨J.lp,?_⟩
    simp only [ye.b1]
    refine AX.pblock (AX.reg ?_)
    have htk:(y7d ts os).take (k+1)=(y7d ts os).take k++[t]:=by rw [List.take_add_one,hrk];rfl
    rcases js with ⟨e,z,rfl⟩ | ⟨hne,rfl,ma,ga,hma⟩
    · have e0:(y7d ts os).take k=[]:=by simpa [tcs] using e
      have e1:∀G,y48 G 1 16 (.sl none 0 z) (.fs [[.s t]])=some (.sl (some (G.next,0,1)) 1 1,G.add (.cells [.s t] 1)):=fun G=>by simp [y48,y7r,yay]
      have n1:=J.nx
      simp [ye.r10,yco,-y48,jo,e1,show X.next≠Y.next by omega]
      simp [yck,show X.next+2≠Y.next by omega,show X.next+2≠X.next by omega]
      refine ⟨⟨by simp;have:=J.ext.1;omega,fun j blk g=>?_⟩,fun j blk g=>?_,by simp;omega,?_,by simp,⟨.sl (some (Y.next,0,1)) 1 1,Y.next,?_,.inr ⟨by simp [tcs,htk],by simp [tcs,htk,e0],1,?_,by simp [tcs,htk]⟩,fun _=>by omega⟩⟩
      · have:=hxl _ _ g
        have:=J.ext.1
        simp [show j≠X.next+2 by omega,show j≠Y.next by omega,show j≠X.next by omega]
        exact J.ext.2 _ _ g
      · by_cases k1:j=X.next+2
        · simp;omega
        · by_cases k2:j=X.next
          · simp;omega
          · by_cases k3:j=Y.next
            · simp;omega
            · simp [k1,k2,k3] at g
              have:=J.lt _ _ g
              simp;omega
      · simp [show X.next+1≠Y.next by omega,J.bx]
      · simp
      · simp [tcs,htk,e0,show Y.next≠X.next+2 by omega,show Y.next≠X.next by omega]
    · have n1:=J.nx
      have hne':(y7d ts os).take k≠[]:=fun h=>hne (by rw [h];rfl)
      have hia:=ji hne'
      have hial:=J.lt _ _ ga
      have htl:(tcs ((y7d ts os).take k)).length=k:=by simp [tcs];omega
      rw [htl] at hma jo
      have e1:∀G:Hp,G.get ia=some (.cells (tcs ((y7d ts os).take k)) ma)→y48 G 1 16 (.sl (some (ia,0,k)) k 1) (.fs [[.s t]])=some (.sl (some (ia,0,k+1)) (k+1) 1,G.upd ia (.cells (tcs ((y7d ts os).take k)++[.s t]) ma)):=fun G hG=>by
        have:=T.len;have:=T.big
        simp [y48,y7r,yay,hG,htl,y6d]
        omega
      have e2:=e1 (Y.upd (X.next+2) (.obj (.lp S .busy))) (by simp [show ia≠X.next+2 by omega];exact ga)
      simp [ye.r10,yco,-y48,jo,e2,show X.next≠ia by omega]
      simp [yck,show X.next+2≠ia by omega,show X.next+2≠X.next by omega]
      refine ⟨⟨by simp;have:=J.ext.1;omega,fun j blk g=>?_⟩,fun j blk g=>?_,by simp;omega,?_,by simp,⟨.sl (some (ia,0,k+1)) (k+1) 1,ia,?_,.inr ⟨by simp [tcs,htk],?_,ma,?_,?_⟩,fun _=>hia⟩⟩
      · have:=hxl _ _ g
        simp [show j≠X.next+2 by omega,show j≠ia by omega,show j≠X.next by omega]
        exact J.ext.2 _ _ g
      · by_cases k1:j=X.next+2
        · simp;omega
        · by_cases k2:j=X.next
          · simp;omega
          · by_cases k3:j=ia
            · simp;omega
            · simp [k1,k2,k3] at g
              have:=J.lt _ _ g
              simp;omega
      · simp [show X.next+1≠ia by omega,J.bx]
      · simp
      · have:(tcs ((y7d ts os).take (k+1))).length=k+1:=by rw [htk];simp [tcs];omega
        rw [this]
      · simp [show ia≠X.next+2 by omega,show ia≠X.next by omega,htk,tcs]
      · have:(tcs ((y7d ts os).take (k+1))).length=k+1:=by rw [htk];simp [tcs];omega
        rw [this];omega
  · rintro v Y J
    have hfull:(y7d ts os).take os.length=y7d ts os:=List.take_of_length_le (by omega)
    obtain ⟨u,ia,jo,js,ji⟩:=J.out
    rw [hfull] at js ji
    refine .inl ⟨J.lp,?_⟩
    simp
    apply jA
    have n1:=J.nx
    have hd:∀j,j≠X.next+2→(Y.del (X.next+1+1)).get j=Y.get j:=fun j h=>by simp only [Hp.del];rw [if_neg h]
    have jo':(Y.del (X.next+1+1)).get X.next=some (.cells [u] 1):=(hd _ (by omega)).trans jo
    simp [ye.r11,jo']
    apply jD
    simp
    refine ⟨⟨by have:=J.ext.1;have:=hx.1;simp only [Hp.del];omega,fun j blk g=>?_⟩,?_⟩
    · have g1:=hx.2 _ _ g
      have g2:=hxl _ _ g1
      rw [hd _ (by omega)]
      exact J.ext.2 _ _ g1
    · rw [←hr]
      rcases js with ⟨e,z,rfl⟩ | ⟨hne,rfl,ma,ga,hma⟩
      · have e0:y7d ts os=[]:=by simpa [tcs] using e
        rw [e0];exact .sl0 _
      · have hia:=ji (fun h=>hne (by rw [h];rfl))
        have hl2:(tcs (y7d ts os)).length=(y7d ts os).length:=by simp [tcs]
        have hfl:((y7d ts os).map fun x=>[V.s x]).flatten=tcs (y7d ts os):=by
          unfold tcs
          induction (y7d ts os) with
          | nil=>rfl
          | cons a r ih=>simp [ih]
        refine .sl ia 0 _ _ 1 ma (tcs (y7d ts os)) _ (by have:=hx.1;omega) ((hd _ (by omega)).trans ga) hma (Nat.le_refl _) (by rw [hl2];simp) (yp3 _) (fun i j e v hi hj=>?_) (fun i j e v w hi hj hw=>?_)
        · have:=ybr (yp3 (y7d ts os)) hi hj
          rw [hfl] at this
          have:=(List.getElem?_eq_some_iff.1 this).1
          omega
        · have:=ybr (yp3 (y7d ts os)) hi hj
          rw [hfl] at this
          rw [Nat.zero_add,this] at hw;injection hw with hw;subst hw;exact .refl _
end Go.Proofs.YthmkcebbeehbeaaGreatDoor
