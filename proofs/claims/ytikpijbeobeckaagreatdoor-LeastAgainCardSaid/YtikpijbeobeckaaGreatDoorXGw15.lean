/- Part 15. -/
import Derived.Test.YtikpijbeobeckaaGreatDoorXGw13
import Derived.Test.YtikpijbeobeckaaGreatDoorXGw14
set_option linter.unusedSimpArgs false
set_option linter.unusedVariables false
namespace Go.Proofs.YtikpijbeobeckaaGreatDoor.Am
open Go Go.RowKit
theorem ybi {ops:Array Oper} (h:ye8 ops.toList=true) (j:Nat) (o:Oper) (ho:ops[j]?=some o) (e:Edge) (he:e∈o.after) (hb:Region.binds .any e=true):e.on<j:=by
 have hm:(o,j)∈ops.toList.zipIdx:=by rw [List.mem_zipIdx_iff_getElem?];simpa using ho
 have:=List.all_eq_true.1 h _ hm
 have:=(Array.all_eq_true_iff_forall_mem.1 this) e he
 simpa [hb] using this
theorem y5l {P:Program} {n:Nat} {ops:Array Oper}:∀{os:List Oper} {ss:List AStep},y4f P n ops os ss=true→os.length=ss.length
 | [],[],_=>rfl
 | o::os,s::ss,h=>by simp only [y4f,kF] at h;simp [y5l h.2]
 | [],_::_,h=>by cases h
 | _::_,[],h=>by cases h
theorem yba {P:Program} {n:Nat} {ops:Array Oper}:∀{os:List Oper} {s1 s2:List AStep},y4f P n ops os (s1++s2)=true→y4f P n ops (os.take s1.length) s1=true∧y4f P n ops (os.drop s1.length) s2=true
 | os,[],s2,h=>⟨by simp [y4f],by simpa using h⟩
 | [],s::r,s2,h=>by cases h
 | o::os,s::r,s2,h=>by
  simp only [List.cons_append,y4f,kF] at h
  obtain ⟨q1,q2⟩:=yba h.2
  exact ⟨by simp only [kO,List.take_succ_cons,y4f,kF];exact ⟨h.1,q1⟩,by simpa using q2⟩
theorem yhy {bs:List Nat} {s1 s2:List AStep} (h:y9x bs (s1++s2)=true) {i j:Nat} {x y:AStep} (hij:i<j) (hi:s1[i]?=some x) (hj:s1[j]?=some y) (hc:ybh x y=true):y3g bs i j=true:=
 ycp h hij (by rw [kR (List.getElem?_eq_some_iff.1 hi).1];exact hi) (by rw [kR (List.getElem?_eq_some_iff.1 hj).1];exact hj) hc
theorem ypr {ro:Option Nat} {P:Program} {ops:Array Oper} {Q:Exit→Act→World→Prop} {fuel:Nat} {S:Array Bool} {a:Act} {w:World} (hs:S.size=ops.size) (h:∀j,j<ops.size→S.getD j false=true) (hQ:Q .normal a w):wpAnyIn (FF ro) 0 P .any ops Q fuel S a w:=by
 have hr:Region.ready .any ops S=[]:=by
  rw [List.eq_nil_iff_forall_not_mem]
  intro j hj
  obtain ⟨h1,o,ho,_⟩:=mem_ready.1 hj
  have hjl:=(Array.getElem?_eq_some_iff.1 ho).1
  have:=h j hjl
  have hjs:j<S.size:=by omega
  simp [kH,hjs] at h1 this
  rw [h1] at this;cases this
 cases fuel with
 | zero=>exact ⟨hr,hQ⟩
 | succ fuel=>exact ⟨fun _=>hQ,fun j hj=>by rw [hr] at hj;cases hj⟩
theorem yoh {P:Program} {n:Nat} {ops:Array Oper} {ss s2:List AStep} {bs:List Nat} (hok:y4f P n ops ops.toList (ss++s2)=true) (hb:ye8 ops.toList=true) (hbs:befs [] ops.toList=bs) (ht:y9x bs (ss++s2)=true)
  (hl:∀i j,i<ss.length→ss.length≤j→j<ops.size→y3g bs i j=true) {J:Fr→Hp→Prop} {F:Fr} {H:Hp} (h:yap P bs 0 ss [] J F H) {ro:Option Nat} {κ:K} {a:Act} (A:At κ F H n ro a) {Q:Exit→Act→World→Prop}
  (hQ:∀κ' a' S fuel F' H',κ.Le κ'→At κ' F' H' n ro a'→J F' H'→S.size=ops.size→(∀j,S.getD j false=true↔j<ss.length)→unl S ops.size≤fuel→wpAnyIn (FF ro) 0 P .any ops Q fuel S a' κ'.w):wpAnyIn (FF ro) 0 P .any ops Q ops.size (Array.replicate ops.size false) a κ.w.drew:=by
 obtain ⟨Fs,Hs,vs,cl,re,e1,e2,st,_,hch,hJ⟩:=yke 0 (yba hok).1 (fun j o hj=>by rw [kj] at hj;split at hj;simpa using hj;cases hj) h
 simp only [Nat.zero_add] at st hch hJ
 have hN:ss.length≤ops.size:=by have:=y5l hok;simp at this;omega
 have rch:∀i j,y3g bs i j=true→Rch ops i j:=fun i j hbf=>by
  unfold y3g at hbf
  cases hg:bs[j]? with
  | none=>simp [List.getD,hg] at hbf
  | some m=>
   simp [List.getD,hg] at hbf
   subst hbs
   exact yg6 ops.toList [] (fun j=>by simp) (fun k m hk=>by simp at hk) j m hg i hbf
 have any:=yog (P:=P) (n:=n) (ops:=ops) (ss:=ss) (Fs:=Fs) (Hs:=Hs) (vs:=vs) (cl:=cl) (re:=re) hN (fun i j h1 h2 h3=>rch i j (hl i j h1 h2 h3)) (fun j o ho e he hbd=>ybi hb j o ho e he hbd)
  (fun i j x y hij hi hj hc=>rch i j (yhy ht hij hi hj hc))
  (fun i j hij hj c1 c2=>by
   rcases hch i j hij hj (by rw [c1];simp) (by rw [c2];simp) with h | h
   ·exact rch i j h
   ·simp only [c1,c2] at h)
  (fun i j hij hj c1 c2=>by
   rcases hch i j hij hj (by rw [c1];simp) (by rw [c2];simp) with h | h
   ·exact .inl (rch i j h)
   ·simp only [c1,c2] at h;exact .inr h)
  (fun i j hij hj c1 c2=>by
   rcases hch i j hij hj (by rw [c1];simp) (by rw [c2];simp) with h | h
   ·exact .inl (rch i j h)
   ·simp only [c1,c2] at h;exact .inr h)
  st (κ0:=κ) (ro:=ro) (Q:=Q) (fun κ' a' S fuel le A' hs hS hf=>hQ κ' a' S fuel _ _ le A' hJ hs hS hf)
 have le:=κ.drew_le
 have A':At { κ with w:=κ.w.drew } F H n ro a:=A.on le A.S.drew (A.r.mono le)
 have nS:∀i,(Array.replicate ops.size false).getD i false=true→False:=fun i hi=>by
  simp only [kH,Array.getElem?_replicate] at hi
  split at hi <;> simp at hi
 refine any ops.size (Array.replicate ops.size false) { κ with w:=κ.w.drew } a le ⟨by simp,fun j _=>?_,fun j hj=>(nS j hj).elim,F,H,A',fun t=>.inr ⟨fun i s hi=>(nS i hi).elim,by rw [e1]⟩,.inr ⟨fun i hi=>(nS i hi).elim,e2.symm⟩⟩ ?_
 ·cases hc:(Array.replicate ops.size false).getD j false with
  | false=>rfl
  | true=>exact (nS j hc).elim
 ·unfold unl
  have:=List.countP_le_length (p:=fun j=>!(Array.replicate ops.size false).getD j false) (l:=List.range ops.size)
  simp at this ⊢
  omega
theorem AW.draw {P:Program} {n id:Nat} {ops:Array Oper} {ss:List AStep} {bs:List Nat} (hm:P.follows .mixedOrders=true) (hok:y4f P n ops ops.toList ss=true) (hb:ye8 ops.toList=true)
  (hbs:befs [] ops.toList=bs) (ht:y9x bs ss=true) {Q:y5i} {F:Fr} {H:Hp} (h:yap P bs 0 ss [] (Q .normal) F H):AW P n (.region id ops true) Q F H:=
 fun ro κ a A=>wpIn_region_any hm (yoh (s2:=[]) (by simpa using hok) hb hbs (by simpa using ht) (fun i j h1 h2 h3=>by have:=y5l hok;simp at this;omega) h A fun κ' a' S fuel F' H' le A' hJ hs hS hf=>
  ypr hs (fun j hj=>(hS j).2 (by have:=y5l hok;simp at this;omega)) ⟨κ',_,_,.normal,rfl,le,A',rfl,hJ⟩)
theorem AW.drawL {P:Program} {n id:Nat} {ops:Array Oper} {ss:List AStep} {bs:List Nat} {d:Option Nat} {f:FuncId} {args:List AO} (hm:P.follows .mixedOrders=true) (hok:y4f P n ops ops.toList (ss++[⟨d,none,.call f args⟩])=true) (hb:ye8 ops.toList=true)
  (hbs:befs [] ops.toList=bs) (ht:y9x bs (ss++[⟨d,none,.call f args⟩])=true) (hl:∀i,i<ss.length→y3g bs i ss.length=true) {Q:y5i} {F:Fr} {H:Hp}
  (h:yap P bs 0 ss [] (fun F H=>AC P f (evs F args) H fun v H'=>Q .normal (put F d v) H') F H):AW P n (.region id ops true) Q F H:=
 fun ro κ a A=>by
  have hsz:ops.size=ss.length+1:=by have:=y5l hok;simpa using this
  refine wpIn_region_any hm (yoh hok hb hbs ht (fun i j h1 h2 h3=>by rw [show j=ss.length by omega];exact hl i h1) h A fun κ' a' S fuel F' H' le A' hJ hs hS hf=>?_)
  have hjl:ss.length<ops.size:=by omega
  have hsl:ss.length<S.size:=by omega
  have h0:S.getD ss.length false=false:=by
   cases hc:S.getD ss.length false with
   | false=>rfl
   | true=>have:=(hS _).1 hc;omega
  have hrd:ss.length∈Region.ready .any ops S:=mem_ready.2 ⟨by
   simp [kH,hsl] at h0 ⊢
   exact h0,ops[ss.length],Array.getElem?_eq_getElem hjl,fun e he hbd=>(hS e.on).2 (ybi hb _ _ (Array.getElem?_eq_getElem hjl) e he hbd)⟩
  have hpos:0<unl S ops.size:=List.countP_pos_iff.2 ⟨ss.length,by simpa using hjl,by rw [h0];rfl⟩
  obtain ⟨fuel,rfl⟩:∃k,fuel=k+1:=⟨fuel-1,by omega⟩
  refine ⟨fun hr=>absurd hrd (by rw [hr];simp),fun j hj=>?_⟩
  obtain ⟨h1,o,ho,_⟩:=mem_ready.1 hj
  have hjo:j<ops.size:=(Array.getElem?_eq_some_iff.1 ho).1
  have ej:j=ss.length:=by
   rcases Nat.lt_or_ge j ss.length with q | q
   ·have:=(hS j).2 q
    have hjs:j<S.size:=by omega
    simp [kH,hjs] at h1 this
    rw [h1] at this;cases this
   ·omega
  subst ej
  have hstep:=(yba hok).2
  have hdr:ops.toList.drop ss.length=[o]:=by
   have e2:ops.toList[ss.length]?=some o:=by simpa using ho
   obtain ⟨q1,q2⟩:=List.getElem?_eq_some_iff.1 e2
   rw [kP q1,q2,List.drop_of_length_le (by simp;omega)]
  rw [hdr] at hstep
  simp only [y4f,ygv,kF,beq_iff_eq] at hstep
  obtain ⟨⟨⟨⟨q1,q2⟩,q3⟩,q4⟩,_⟩:=hstep
  have hw:Region.wanted o (yielded ops a'.tmps)=true:=by
   rcases ybo A'.r q3 with ⟨_,hw⟩ | ⟨t,b,e,_⟩
   ·exact hw
   ·cases e
  have hnd:=yfl q4
  simp only [yhu] at q4
  split at q4
  ·rename_i g os ts hop
   simp only [kF,beq_iff_eq] at q4
   obtain ⟨rfl,h2⟩:=q4
   have hv:=y5s h2 A'.r
   unfold wpOpIn
   simp only [ho]
   rw [if_pos hw]
   refine yb2 hJ A'.S (cs:=os.map a'.eval) (by rw [Array.toList_map];exact hv) hnd ?_ fun κ2 v cv H2 le2 S2 rv hR=>?_
   ·simp only [execOp,hop,resolve,Sem.run_bind,Act.eval,Deferred.ofValue,Sem.run_pure,Result.andThen_ok,invoke]
    simpa using y4j hJ.1
   refine ypr (by simpa using hs) (fun j hj=>?_) ⟨κ2,_,_,.normal,rfl,le.trans le2,by rw [q1];exact A'.put le2 S2 q2 rv,rfl,hR⟩
   by_cases hij:j=ss.length
   ·subst hij;simp [kH,hsl]
   ·rw [getD_set_ne false (Ne.symm hij)];exact (hS j).2 (by omega)
  ·cases q4
def Hp.res (H:Hp) (k:Nat):Hp:={ H with next:=H.next+k }
@[simp] theorem Hp.get_res (H:Hp) (k i:Nat):(H.res k).get i=H.get i:=rfl
@[simp] theorem Hp.next_res (H:Hp) (k:Nat):(H.res k).next=H.next+k:=rfl
theorem Rch.lt {ops:Array Oper} (hback:∀j o,ops[j]?=some o→∀e∈o.after,Region.binds .any e=true→e.on<j) {i j:Nat} (h:Rch ops i j):i<j:=by
 induction h with
 | edge j o e ho he hb=>exact hback j o ho e he hb
 | step i k j _ _ h1 h2=>omega
theorem AW.drawA {P:Program} {n id:Nat} {ops:Array Oper} {ss:List AStep} {bs alx:List Nat} (hm:P.follows .mixedOrders=true) (hok:y4f P n ops ops.toList ss=true) (hb:ye8 ops.toList=true)
  (hbs:befs [] ops.toList=bs) (ht:y9x bs ss=true) {Q:y5i} {F:Fr} {H:Hp} (h:(∀id blk,H.get id=some blk→id<H.next)→yar P bs alx H.next 0 ss [] [] [] (Q .normal) F (H.res alx.length)):AW P n (.region id ops true) Q F H:=
 fun ro κ a A=>by
  obtain ⟨st,inf,e1,e3,_,e5,e6,e7⟩:=ykf 0 hok (fun j=>by simp) (h A.S.lt)
  simp only [Nat.zero_add] at e3 e5 e6 e7
  have hN:ops.size=ss.length:=by have:=y5l hok;simpa using this
  have rch:∀i j,y3g bs i j=true→Rch ops i j:=fun i j hbf=>by
   unfold y3g at hbf
   cases hg:bs[j]? with
   | none=>simp [List.getD,hg] at hbf
   | some m=>
    simp [List.getD,hg] at hbf
    subst hbs
    exact yg6 ops.toList [] (fun j=>by simp) (fun k m hk=>by simp at hk) j m hg i hbf
  have hback:=fun j o ho e he hbd=>ybi hb j o ho e he hbd
  have h0:(st 0).als=[]:=by rw [e1]
  have h1:(st 0).ps=[]:=by rw [e1]
  let κ1:K:={ κ with w:=κ.w.drew }
  have A1:At κ1 F H n ro a:=A.on κ.drew_le A.S.drew (A.r.mono κ.drew_le)
  let κ2:K:={ κ1 with hole:=fun k=>κ.hole k∨(H.next≤k∧k<H.next+alx.length) }
  have le2:κ1.Le κ2:=⟨fun _ _ h=>⟨h,rfl⟩,fun _ h=>⟨h,rfl⟩,fun _ h=>⟨h,rfl⟩,fun _ h=>.inl h,fun _ _ h=>h,kG _,rfl,rfl,rfl,fun _ h=>⟨.inl h,fun _ o=>o⟩,rfl,fun _ r h=>⟨r,h⟩⟩
  have none_of:∀k,H.next≤k→H.get k=none:=fun k hk=>by
   cases hg:H.get k with
   | none=>rfl
   | some b=>have:=A.S.lt k b hg;omega
  have S2:Sim κ2 (H.res alx.length):=by
   have S1:=A1.S
   refine ⟨fun id e o=>⟨?_,(S1.ok id e o).2⟩,fun k hk=>?_,fun k blk hg=>?_,S1.fz,S1.ic,S1.le,fun id cs m hg e h1 h2=>?_,fun id es hg=>?_,S1.sep,S1.base,S1.sepm,S1.tb.mono le2⟩
   ·have:=(S1.ok id e o).1;simp;omega
   ·rcases hk with hk | hk
    ·have:=S1.hole k hk;exact ⟨by have:=this.1;simp;omega,this.2⟩
    ·exact ⟨by simp;omega,none_of k hk.1⟩
   ·have:=S1.lt k blk hg;simp;omega
   ·obtain ⟨⟨arr,t,fr,hb,hs,hv,hf⟩,hz⟩:=S1.cells id cs m hg e h1 h2
    exact ⟨⟨arr,t,fr,hb,hs,fun j v a b=>(hv j v a b).mono le2,hf⟩,hz⟩
   ·obtain ⟨⟨x,hb,ho⟩,hz⟩:=S1.maps id es hg
    exact ⟨⟨x,hb,ho.mono le2⟩,hz⟩
  have any:=yl5 (P:=P) (n:=n) (ops:=ops) (bs:=bs) (N:=H.next) (ss:=ss) (st:=st) (inf:=inf) hN hback (fun i j x y hij hi hj hc=>rch i j (ycp ht hij hi hj hc)) rch
   (fun i j hbf=>(rch i j hbf).lt hback) e3 h0 h1 (fun i j c d hij hj ci hc cj hd=>e5 i j c d hij hj ci hc cj hd) (κ0:=κ) (fun id hh=>(A.S.hole id hh).1) (ro:=ro) (Q:=QC Q κ n ro)
   (fun κ' a' le A'=>⟨κ',_,_,.normal,rfl,le,A',rfl,e7⟩)
  refine wpIn_region_any hm ?_
  have nS:∀i,(Array.replicate ops.size false).getD i false=true→False:=fun i hi=>by
   simp only [kH,Array.getElem?_replicate] at hi
   split at hi <;> simp at hi
  have nS':∀i,(Array.replicate ops.size false).getD i false=false:=fun i=>by
   cases hc:(Array.replicate ops.size false).getD i false with
   | false=>rfl
   | true=>exact (nS i hc).elim
  refine any ops.size (Array.replicate ops.size false) κ2 a (κ.drew_le.trans le2) ⟨by simpa using hN,fun j hj=>(nS j hj).elim,⟨F,0,Nat.zero_le _,fun e _ _=>⟨fun hh=>(nS e hh).elim,fun hh=>by omega⟩,?_,fun t=>.inr ⟨fun i s hi=>(nS i hi).elim,by rw [e1]⟩,fun p _ hp=>(nS _ hp).elim⟩,fun p hp _=>?_⟩ ?_
  ·rw [show ((st ss.length).als.filter fun p=>(Array.replicate ops.size false).getD p.i false&&!y86 inf bs 0 p.i)=[] from by
    rw [List.filter_eq_nil_iff];intro p _;rw [nS'];simp]
   rw [e1]
   exact A1.on le2 S2 (A1.r.mono le2)
  ·obtain ⟨i,hi⟩:=List.mem_iff_getElem?.1 hp
   have hid:=(y73 e3 h0 ss.length (kG _) i p hi).id
   have hil:=(List.getElem?_eq_some_iff.1 hi).1
   refine ⟨.inr ⟨by omega,by omega⟩,fun e o=>?_⟩
   have:=(A1.S.ok p.id e o).1
   omega
  ·unfold unl
   have:=List.countP_le_length (p:=fun j=>!(Array.replicate ops.size false).getD j false) (l:=List.range ss.length)
   simp at this ⊢
   omega
def awp (P:Program):ACode→y5i→Fr→Hp→Prop
 | .skip,Q,F,H=>Q .normal F H
 | .region ss,Q,F,H=>y9s P ss (Q .normal) F H
 | .draw bs ss,Q,F,H=>yap P bs 0 ss [] (Q .normal) F H
 | .drawA bs alx ss,Q,F,H=>(∀id blk,H.get id=some blk→id<H.next)→yar P bs alx H.next 0 ss [] [] [] (Q .normal) F (H.res alx.length)
 | .scope c,Q,F,H=>awp P c Q F H
 | .label,Q,F,H=>Q .normal F H
 | .rangeFunc _ _ _ _,_,_,_=>False
 | .seq a b,Q,F,H=>awp P a (y5i.then (awp P b Q) Q) F H
 | .cond c a b,Q,F,H=>match ev F c with
  | .b x=>(x=true→awp P a Q F H)∧(x=false→awp P b Q F H)
  | _=>False
 | .block id c,Q,F,H=>awp P c (y5i.block id Q) F H
 | .loop c,Q,F,H=>∃(I:Nat→Fr→Hp→Prop) (m:Nat),I m F H∧∀m F H,I m F H→awp P c (y5i.then (fun F' H'=>∃m' F'' H'',m'<m∧Wk F' H' F'' H''∧I m' F'' H'') Q) F H
 | .exit id,Q,F,H=>Q (.exit id) F H
 | .ret,Q,F,H=>Q .ret F H
 | .post ts c,Q,F,H=>awp P c (y5i.then (fun F H=>Q .normal (y7l F ts) H) Q) F H
def y3c (P:Program) (n:Nat):ACode→Code→Bool
 | .post _ d,c=>y3c P n d c
 | .skip,.skip=>true
 | .region ss,.region _ ops false=>y4f P n ops ops.toList ss
 | .draw bs ss,.region _ ops true=>P.follows .mixedOrders&&y4f P n ops ops.toList ss&&ye8 ops.toList&&befs [] ops.toList == bs&&y9x bs ss
 | .drawA bs _ ss,.region _ ops true=>P.follows .mixedOrders&&y4f P n ops ops.toList ss&&ye8 ops.toList&&befs [] ops.toList == bs&&y9x bs ss
 | .scope a,.scope c=>y3c P n a c
 | .label,.label _=>true
 | .rangeFunc g ps a b,.rangeFunc g' ps' a' b'=>y3z g' g&&ps'.toList == ps&&ps.all (fun t=>decide (t<n))&&y3c P n a a'&&y3c P n b b'
 | .seq a b,.seq c d=>y3c P n a c&&y3c P n b d
 | .cond x a b,.cond o c d=>y3z o x&&y3c P n a c&&y3c P n b d
 | .block id a,.block id' c=>id == id'&&y3c P n a c
 | .loop a,.loop c=>y3c P n a c
 | .exit id,.exit id'=>id == id'
 | .ret,.ret=>true
 | _,_=>false
def AX (P:Program) (n:Nat) (d:ACode) (Q:y5i) (F:Fr) (H:Hp):Prop:=∀c,y3c P n d c=true→AW P n c Q F H
theorem AX.of:∀{P:Program} {n:Nat} (d:ACode) {Q:y5i} {F:Fr} {H:Hp},awp P d Q F H→AX P n d Q F H
 | P,n,.skip,Q,F,H,h=>fun c hc=>by
  cases c <;> first | (simp only [y3c,kN] at hc;done) | skip
  exact AW.skip h
 | P,n,.region ss,Q,F,H,h=>fun c hc=>by
  cases c <;> first | (simp only [y3c,kN] at hc;done) | skip
  rename_i id ops draw
  cases draw
  ·exact AW.region hc h
  ·simp [y3c] at hc
 | P,n,.draw bs ss,Q,F,H,h=>fun c hc=>by
  cases c <;> first | (simp only [y3c,kN] at hc;done) | skip
  rename_i id ops draw
  cases draw
  ·simp [y3c] at hc
  ·simp only [y3c,kF,beq_iff_eq] at hc
   obtain ⟨⟨⟨⟨h1,h2⟩,h3⟩,h4⟩,h5⟩:=hc
   exact AW.draw h1 h2 h3 h4 h5 h
 | P,n,.drawA bs alx ss,Q,F,H,h=>fun c hc=>by
  cases c <;> first | (simp only [y3c,kN] at hc;done) | skip
  rename_i id ops draw
  cases draw
  ·simp [y3c] at hc
  ·simp only [y3c,kF,beq_iff_eq] at hc
   obtain ⟨⟨⟨⟨h1,h2⟩,h3⟩,h4⟩,h5⟩:=hc
   exact AW.drawA h1 h2 h3 h4 h5 h
 | P,n,.scope a,Q,F,H,h=>fun c hc=>by
  cases c <;> first | (simp only [y3c,kN] at hc;done) | skip
  simp only [y3c] at hc
  exact AW.scope (AX.of a h _ hc)
 | P,n,.label,Q,F,H,h=>fun c hc=>by
  cases c <;> first | (simp only [y3c,kN] at hc;done) | skip
  exact AW.label h
 | P,n,.rangeFunc _ _ _ _,Q,F,H,h=>h.elim
 | P,n,.seq a b,Q,F,H,h=>fun c hc=>by
  cases c <;> first | (simp only [y3c,kN] at hc;done) | skip
  simp only [y3c,kF] at hc
  refine AW.seq ((AX.of a h _ hc.1).mono fun x F H hx=>?_)
  cases x with
  | normal=>exact AX.of b hx _ hc.2
  | exit id=>exact hx
  | ret=>exact hx
 | P,n,.cond x a b,Q,F,H,h=>fun c hc=>by
  cases c <;> first | (simp only [y3c,kN] at hc;done) | skip
  simp only [y3c,kF] at hc
  simp only [awp] at h
  split at h
  ·rename_i v hv
   exact AW.cond hc.1.1 hv (fun e=>AX.of a (h.1 e) _ hc.1.2) (fun e=>AX.of b (h.2 e) _ hc.2)
  ·exact h.elim
 | P,n,.block id a,Q,F,H,h=>fun c hc=>by
  cases c <;> first | (simp only [y3c,kN] at hc;done) | skip
  simp only [y3c,kF,beq_iff_eq] at hc
  obtain ⟨rfl,h2⟩:=hc
  exact AW.block (AX.of a h _ h2)
 | P,n,.loop a,Q,F,H,h=>fun c hc=>by
  cases c <;> first | (simp only [y3c,kN] at hc;done) | skip
  obtain ⟨I,m,h0,hr⟩:=h
  exact AW.loop I m h0 fun m F H i=>AX.of a (hr m F H i) _ hc
 | P,n,.exit id,Q,F,H,h=>fun c hc=>by
  cases c <;> first | (simp only [y3c,kN] at hc;done) | skip
  simp only [y3c,beq_iff_eq] at hc;subst hc
  exact AW.exit h
 | P,n,.ret,Q,F,H,h=>fun c hc=>by
  cases c <;> first | (simp only [y3c,kN] at hc;done) | skip
  exact AW.ret h
 | P,n,.post ts d,Q,F,H,h=>fun c hc=>AW.post ts (AX.of d h c (by simpa [y3c] using hc))
section
variable {P:Program} {n:Nat} {Q:y5i} {F:Fr} {H:Hp}
theorem AX.mono {d:ACode} {Q':y5i} (h:AX P n d Q F H) (hq:∀x F H,Q x F H→Q' x F H):AX P n d Q' F H:=fun c hc=>(h c hc).mono hq
theorem AX.seq {a b:ACode} (h:AX P n a (y5i.then (AX P n b Q) Q) F H):AX P n (.seq a b) Q F H:=fun c hc=>by
 cases c <;> first | (simp only [y3c,kN] at hc;done) | skip
 simp only [y3c,kF] at hc
 refine AW.seq ((h _ hc.1).mono fun x F H hx=>?_)
 cases x with
 | normal=>exact hx _ hc.2
 | exit id=>exact hx
 | ret=>exact hx
theorem AX.cut {a b:ACode} (J:Fr→Hp→Prop) (h1:AX P n a (y5i.then (fun F H=>∃F' H',Wk F H F' H'∧J F' H') Q) F H) (h2:∀F H,J F H→AX P n b Q F H):AX P n (.seq a b) Q F H:=fun c hc=>by
 cases c <;> first | (simp only [y3c,kN] at hc;done) | skip
 simp only [y3c,kF] at hc
 exact AW.cut J (h1 _ hc.1) fun F H j=>h2 F H j _ hc.2
theorem AX.block {id:Nat} {a:ACode} (h:AX P n a (y5i.block id Q) F H):AX P n (.block id a) Q F H:=fun c hc=>by
 cases c <;> first | (simp only [y3c,kN] at hc;done) | skip
 simp only [y3c,kF,beq_iff_eq] at hc
 obtain ⟨rfl,h2⟩:=hc
 exact AW.block (h _ h2)
theorem AX.cond {x:AO} {a b:ACode} {t:Bool} (hb:ev F x=.b t) (h1:t=true→AX P n a Q F H) (h2:t=false→AX P n b Q F H):AX P n (.cond x a b) Q F H:=fun c hc=>by
 cases c <;> first | (simp only [y3c,kN] at hc;done) | skip
 simp only [y3c,kF] at hc
 exact AW.cond hc.1.1 hb (fun e=>h1 e _ hc.1.2) (fun e=>h2 e _ hc.2)
theorem AX.condJ {x:AO} {a b:ACode} (hb:ev F x=.jb) (h1:AX P n a Q F H) (h2:AX P n b Q F H):AX P n (.cond x a b) Q F H:=fun c hc=>by
 cases c <;> first | (simp only [y3c,kN] at hc;done) | skip
 simp only [y3c,kF] at hc
 exact AW.condJ hc.1.1 hb (h1 _ hc.1.2) (h2 _ hc.2)
theorem AX.loop {a:ACode} (I:Nat→Fr→Hp→Prop) (m:Nat) (h0:∃F' H',Wk F H F' H'∧I m F' H')
  (hr:∀m F H,I m F H→AX P n a (y5i.then (fun F' H'=>∃m' F'' H'',m'<m∧Wk F' H' F'' H''∧I m' F'' H'') Q) F H):AX P n (.loop a) Q F H:=fun c hc=>by
 cases c <;> first | (simp only [y3c,kN] at hc;done) | skip
 obtain ⟨F',H',wk,h0⟩:=h0
 exact AW.wk wk (AW.loop I m h0 fun m F H i=>hr m F H i _ hc)
structure LpS.Is (P:Program) (n:Nat) (ps:List Nat) (a b:ACode) (F:Fr) (S:LpS):Prop where
 hn:S.n=n
 hps:S.ps.toList=ps
 lt:∀t∈ps,t<n
 ha:y3c P n a S.assign=true
 hb:y3c P n b S.body=true
 hF:S.F=F
theorem AX.rangeFunc {g:AO} {ps:List Nat} {a b:ACode} {f:FuncId} {caps:List V} (hgv:ev F g=.fn f caps) (h:∀S:LpS,S.Is P n ps a b F→AC P f (.yl H.next::caps) (H.add (.obj (.lp S .ready))) (fun _ H'=>yj4 H.next S Q F H')):
  AX P n (.rangeFunc g ps a b) Q F H:=fun c hc=>by
 cases c <;> first | (simp only [y3c,kN] at hc;done) | skip
 rename_i g' ps' a' b'
 simp only [y3c,kF,beq_iff_eq] at hc
 obtain ⟨⟨⟨⟨h1,h2⟩,h3⟩,h4⟩,h5⟩:=hc
 exact AW.rangeFunc h1 hgv (h ⟨n,ps',a',b',F⟩ ⟨rfl,h2,fun t ht=>by simpa using List.all_eq_true.1 h3 t ht,h4,h5,rfl⟩)
theorem YC.walk {id:Nat} {S:LpS} {ps:List Nat} {a b:ACode} {F:Fr} {args:List V} {H:Hp} {R:V→Hp→Prop} (hS:S.Is P n ps a b F) (hg:H.get id=some (.obj (.lp S .ready))) (hl:ps.length=args.length)
  (h:AX P n a (y5i.then (fun F1 H1=>H1.get id=some (.obj (.lp S .ready))∧AX P n b (y98 id S R) F1 (H1.upd id (.obj (.lp S .busy)))) (fun _ _ _=>False)) (putAll F ps args) H):YC P id args H R:=by
 refine YC.of hg (by have:=hS.hps;rw [←hl,←this];simp) (fun t ht=>by rw [hS.hn];exact hS.lt t (by rw [←hS.hps];exact ht)) ?_
 rw [hS.hn,hS.hF,hS.hps]
 refine (h _ hS.ha).mono fun x F1 H1 hx=>?_
 cases x with
 | normal=>exact ⟨hx.1,hx.2 _ hS.hb⟩
 | exit k=>exact hx
 | ret=>exact hx
theorem AX.post {d:ACode} (ts:List Nat) (h:AX P n d (y5i.then (fun F H=>Q .normal (y7l F ts) H) Q) F H):AX P n (.post ts d) Q F H:=fun c hc=>AW.post ts (h c (by simpa [y3c] using hc))
end
inductive ARes where
 | t (n:Nat)
 | cell (n:Nat) (agg:Bool) (sz:Nat)
structure AFunc where
 n:Nat
 res:List ARes
 body:ACode
def res1 (F:Fr) (H:Hp):ARes→Option V
 | .t n=>some (y6o F n)
 | .cell n agg sz=>match rd H (y6o F n) sz with
  | some vs=>one agg vs
  | none=>none
def resL (F:Fr) (H:Hp):List ARes→Option (List V)
 | []=>some []
 | r::rs=>match res1 F H r,resL F H rs with
  | some v,some vs=>some (v::vs)
  | _,_=>none
def resV (F:Fr) (H:Hp) (rs:List ARes):Option V:=
 match resL F H rs with
 | some [v]=>some v
 | some vs=>some (.tup vs)
 | none=>none
def fr0:Nat→List V→Fr
 | _,[]=>[]
 | k,v::r=>(k,v)::fr0 (k+1) r
def ydt (P:Program):List ResultVar→List ARes→Bool
 | [],[]=>true
 | .tmp t::rs,.t n::as=>t == n&&ydt P rs as
 | .cell a t::rs,.cell n agg sz::as=>a == n&&aggP P t == some agg&&(if agg then szP P t == some sz else sz == 1)&&ydt P rs as
 | _,_=>false
def y25 (P:Program) (fn:Func) (a:AFunc):Bool:=
 fn.name != "runtime.NumGoroutine"&&decide (a.n≤fn.ntmps)&&ydt P fn.results.toList a.res&&(match fn.body with | some c=>y3c P a.n a.body c | none=>false)
theorem yo9:∀(vs:List V) (k t:Nat),y6o (fr0 k vs) t=if k≤t then vs.getD (t-k) .junk else .junk
 | [],k,t=>by simp [fr0,y6o]
 | v::r,k,t=>by
  simp only [fr0,y6o]
  rw [yo9 r (k+1) t]
  by_cases h:t=k
  ·subst h;simp
  ·rw [if_neg h]
   by_cases h2:k≤t
   ·rw [if_pos h2,if_pos (by omega),show t-k=(t-(k+1))+1 by omega];simp
   ·rw [if_neg h2,if_neg (by omega)]
def ygn (tmps:Array Value):ResultVar→Sem Value
 | .tmp t=>pure (tmps.getD t undef)
 | .cell a t=>do loadVar t (←asAddr (tmps.getD a undef))
theorem run_res1 {P:Program} {κ:K} {F:Fr} {H:Hp} (S:Sim κ H) {tmps:Array Value} (r:FR κ F tmps) {rv:ResultVar} {a:ARes} (h:ydt P [rv] [a]=true) {v:V} (hv:res1 F H a=some v):
  ∃c,VR κ v c∧(ygn tmps rv).run P κ.w=.ok c κ.w:=by
 unfold ydt at h
 split at h
 ·rename_i h1 h2;cases h1
 ·rename_i t rs n as h1 h2
  injection h1 with h1 _;injection h2 with h2 _;subst h1;subst h2
  simp only [kF,beq_iff_eq] at h
  obtain ⟨rfl,_⟩:=h
  simp only [res1] at hv;injection hv with hv;subst hv
  exact ⟨_,r _,rfl⟩
 ·rename_i aa t rs n agg sz as h1 h2
  injection h1 with h1 _;injection h2 with h2 _;subst h1;subst h2
  simp only [kF,beq_iff_eq] at h
  obtain ⟨⟨⟨rfl,ha⟩,hn⟩,_⟩:=h
  simp only [res1] at hv
  split at hv
  ·rename_i vs hrd
   obtain ⟨ad,l,e1,e2,e2',e3,e4⟩:=rd_ok S hrd (r aa)
   have hagg:=yal ha κ.w
   cases agg with
   | true=>
    simp only [one] at hv;injection hv with hv;subst hv
    simp at hn
    have hsz:=y4m hn κ.w
    refine ⟨_,VR.agg vs l e3.1 e3.2,?_⟩
    have hl:=run_loadCells_list (P:=P) κ.w ad l e4
    rw [e2] at hl
    simp only [ygn,e1,asAddr,loadVar,Sem.run_bind,Sem.run_pure,Result.andThen_ok,hagg,if_true,hsz,hl]
   | false=>
    simp at hn;subst hn
    cases vs with
    | nil=>simp at e2'
    | cons u1 rest=>
     cases rest with
     | cons _ _=>simp at e2'
     | nil=>
      simp only [one] at hv;injection hv with hv;subst hv
      obtain ⟨c,rfl,hc⟩:=e3.one
      refine ⟨c,hc,?_⟩
      have:=e4 0 c rfl
      rw [show ad.add 0=ad from by simp [Addr.add]] at this
      simp only [ygn,e1,asAddr,loadVar,Sem.run_bind,Sem.run_pure,Result.andThen_ok,hagg,kN,if_false,run_load,this]
  ·cases hv
 ·cases h
theorem yjf {P:Program} {κ:K} {F:Fr} {H:Hp} (S:Sim κ H) {tmps:Array Value} (r:FR κ F tmps):∀{rvs:List ResultVar} {as:List ARes},ydt P rvs as=true→∀{vs:List V},resL F H as=some vs→
  ∃cs,VRs κ vs cs∧(rvs.mapM (ygn tmps)).run P κ.w=.ok cs κ.w
 | [],[],_,vs,h=>by
  simp only [resL] at h;injection h with h;subst h
  exact ⟨[],⟨rfl,fun j v h=>by simp at h⟩,rfl⟩
 | rv::rvs,a::as,hok,vs,h=>by
  simp only [resL] at h
  split at h
  ·rename_i v vs' h1 h2
   injection h with h;subst h
   have hok1:ydt P [rv] [a]=true∧ydt P rvs as=true:=by
    cases rv <;> cases a <;> simp [ydt] at hok ⊢ <;> simp_all
   obtain ⟨c,rc,run1⟩:=run_res1 S r hok1.1 h1
   obtain ⟨cs,rcs,run2⟩:=yjf S r hok1.2 h2
   refine ⟨c::cs,.of_get (by simp [rcs.1]) fun j u hj=>?_,?_⟩
   ·cases j with
    | zero=>simp at hj;subst hj;exact ⟨c,rfl,rc⟩
    | succ j=>simpa using rcs.get (by simpa using hj)
   ·simp only [List.mapM_cons,Sem.run_bind,run1,Result.andThen_ok,run2,Sem.run_pure]
  ·cases h
 | [],_::_,h,_,_=>by simp [ydt] at h
 | rv::_,[],h,_,_=>by cases rv <;> simp [ydt] at h
theorem AC.of {P:Program} {f:FuncId} {fn:Func} {a:AFunc} (hf:P.funcs[f]?=some fn) (hok:y25 P fn a=true) {args:List V} {H:Hp} {R:V→Hp→Prop}
  (h:AX P a.n a.body (fun x F H'=>(∀k,x≠.exit k)∧∃v,resV F H' a.res=some v∧R v H') (fr0 0 args) H):AC P f args H R:=by
 simp only [y25,kF,bne_iff_ne,ne_eq,decide_eq_true_eq] at hok
 obtain ⟨⟨⟨h1,h2⟩,h3⟩,h4⟩:=hok
 split at h4
 ·rename_i c hb
  refine ⟨by simp [okFn,hf,hb,h1],fun κ cs S r=>callsIn_wide.1 (callsIn_of_wp_marks (F:=FF none) (n:=0) hf hb trivial ?_)⟩
  let κ0:K:={ κ with base:=κ.w.heap.size }
  have r0:VRs κ0 args cs:=⟨r.1,fun j v hj=>(r.2 j v hj).rebase _⟩
  have hA:At κ0 (fr0 0 args) H a.n none { tmps:=cs.toArray++Array.replicate (fn.ntmps-cs.toArray.size) undef,defers:=[] }:=by
   refine ⟨S.rebase _,fun t=>?_,by simp;omega,.nil _,(fun l hl=>by cases hl),kG _⟩
   rw [yo9]
   simp only [Nat.zero_le,if_true,Nat.sub_zero]
   by_cases ht:t<args.length
   ·have hg:args[t]?=some args[t]:=kC ht
    obtain ⟨c',q1,q2⟩:=VRs.get r0 hg
    have htc:t<cs.length:=by rw [←r.1];exact ht
    have e:(cs.toArray++Array.replicate (fn.ntmps-cs.toArray.size) undef).getD t undef=c':=by
     rw [kH,Array.getElem?_append_left (by simpa using htc)]
     simp [q1]
    rw [e]
    simpa [List.getD,hg] using q2
   ·have:args.getD t .junk=.junk:=by simp [List.getD,List.getElem?_eq_none (Nat.le_of_not_lt ht)]
    rw [this];exact .junk _
  refine wpIn_mono (h c h4 none κ0 _ hA) fun e a' w ⟨κ',F',H',x,q1,q2,q3,q4,q5,v,q6,q7⟩=>?_
  subst q1;subst q4
  have res:∀κ2:K,κ0.Le κ2→Sim κ2 H'→FR κ2 F' a'.tmps→∃cv,(results fn a'.tmps).run P κ2.w=.ok cv κ2.w∧∃κ3 u cv2 H2,Ending.returned cv=.returned cv2∧κ3.w=κ2.w∧κ.Le κ3∧Sim κ3 H2∧VR κ3 u cv2∧R u H2:=fun κ2 le2 S2 r2=>by
   unfold resV at q6
   cases hrl:resL F' H' a.res with
   | none=>simp [hrl] at q6
   | some vs=>
    obtain ⟨cs',rcs,run⟩:=yjf S2 r2 h3 hrl
    have hres:(results fn a'.tmps).run P κ2.w=.ok (if h:cs'.toArray.size=1 then cs'.toArray[0] else .tuple cs'.toArray) κ2.w:=by
     have e:results fn a'.tmps=(do let vs ←fn.results.mapM (ygn a'.tmps);pure (if h:vs.size=1 then vs[0] else .tuple vs)):=by
      unfold results
      congr 2
     rw [e]
     simp only [Sem.run_bind,Array.mapM_eq_mapM_toList,Sem.run_map,run,Result.andThen_ok,Sem.run_pure]
    rw [hrl] at q6
    match vs,rcs,q6 with
    | [],rcs,q6=>
     simp only at q6;injection q6 with q6;subst q6
     have:cs'=[]:=by have:=rcs.1;cases cs' <;> simp at this ⊢
     subst this
     exact ⟨_,hres,{ κ2 with base:=κ.base },_,_,H',rfl,rfl,le2.rebase,S2.rebase _,(VR.tup (κ:=κ2) [] [] rfl (fun j v h=>by simp at h)).rebase _,q7⟩
    | [u],rcs,q6=>
     simp only at q6;injection q6 with q6;subst q6
     obtain ⟨c1,e1,r1⟩:=rcs.one
     subst e1
     exact ⟨_,hres,{ κ2 with base:=κ.base },_,_,H',rfl,rfl,le2.rebase,S2.rebase _,r1.rebase _,q7⟩
    | u1::u2::us,rcs,q6=>
     simp only at q6;injection q6 with q6;subst q6
     have hlen:=rcs.1
     have hne:¬cs'.toArray.size=1:=by simp at hlen ⊢;omega
     rw [dif_neg hne] at hres
     exact ⟨_,hres,{ κ2 with base:=κ.base },_,_,H',rfl,rfl,le2.rebase,S2.rebase _,(VR.tup (κ:=κ2) _ _ rcs.1 rcs.2).rebase _,q7⟩
  have shut:∀(Ds:List Nat) (κ2:K),Ds.Nodup→(∀D∈Ds,κ2.base≤D∧κ2.fz D∧¬κ2.ic D∧κ2.w.heap[D]?=some (.deferred (some [])))→κ0.Le κ2→Sim κ2 H'→FR κ2 F' a'.tmps→
    LeavesInM (FF none) 0 P fn a'.tmps (fun e w'=>∃κ' v cv H',e=.returned cv∧κ'.w=w'∧κ.Le κ'∧Sim κ' H'∧VR κ' v cv∧R v H') (Ds.map fun D=>{ target:=.collected D,args:=#[] }) .returning κ2.w:=fun Ds=>by
   induction Ds with
   | nil=>
    intro κ2 _ _ le2 S2 r2
    obtain ⟨cv,hrun,κ3,u,cv2,H2,e1,e2,e3,e4,e5,e6⟩:=res κ2 le2 S2 r2
    exact ⟨cv,hrun,κ3,u,cv2,H2,e1,e2,e3,e4,e5,e6⟩
   | cons D Ds ih=>
    intro κ2 nd hD le2 S2 r2
    rw [List.nodup_cons] at nd
    obtain ⟨d1,d2,d3,d4⟩:=hD D (by simp)
    have hlt:=lt_of_some d4
    refine ⟨by simp,.inl ⟨D,_,rfl,run_takeDeferred d4,?_⟩⟩
    let κ3:K:={ κ2 with fz:=fun b=>κ2.fz b∧b≠D,w:=κ2.w.putObj D (.deferred none) }
    have far:∀{b:Nat},b≠D→κ3.w.heap[b]?=κ2.w.heap[b]?:=fun h=>y4v h
    have mv:K.Mv κ2 κ3:=⟨fun _ _ h=>⟨h,rfl⟩,fun b h=>⟨h,far fun e=>d3 (e▸h)⟩,fun b n h=>by
     have hne:b≠D:=fun e=>by
      subst e
      unfold y2q at h
      rw [d4] at h;simp at h
     unfold y2q at h ⊢
     rw [far hne];exact h⟩
    have hb:κ0.base=κ.w.heap.size:=rfl
    have big:κ.w.heap.size≤D:=by rw [←hb,←le2.base];exact d1
    have le3:κ0.Le κ3:=by
     refine ⟨le2.ok,fun b h=>?_,fun b h=>?_,le2.icn,fun b n h=>mv.n b n (le2.n b n h),by simpa [κ3] using le2.size,le2.os,le2.tape,le2.output,le2.hole,le2.base,fun b r h=>?_⟩
     ·have hlt':b<κ.w.heap.size:=S.fz b h
      have hne:b≠D:=by omega
      exact ⟨⟨(le2.fz b h).1,hne⟩,(far hne).trans (le2.fz b h).2⟩
     ·have hlt':b<κ.w.heap.size:=S.fz b (S.ic b h)
      have hne:b≠D:=by omega
      exact ⟨(le2.ic b h).1,(far hne).trans (le2.ic b h).2⟩
     ·obtain ⟨r',hr'⟩:=le2.lps b r h
      have hne:b≠D:=fun e=>by subst e;rw [d4] at hr';cases hr'
      exact ⟨r',(far hne).trans hr'⟩
    have S3:Sim κ3 H':=by
     refine ⟨S2.ok,S2.hole,S2.lt,fun b h=>by simpa [κ3] using S2.fz b h.1,fun b h=>⟨S2.ic b h,fun e=>d3 (e▸h)⟩,S2.le,fun id cs m hg e h1 h2=>?_,fun id o hg=>?_,S2.sep,S2.base,S2.sepm,(fun p hp=>let ⟨a1,ty,fr,a2⟩:=S2.tb p hp;⟨a1,ty,fr,(mv.ic _ a1).2.trans a2⟩)⟩
     ·obtain ⟨⟨arr,t,fr,hb,hs,hv,hf⟩,hz⟩:=S2.cells id cs m hg e h1 h2
      exact ⟨⟨arr,t,fr,(far fun e'=>hz (by rw [e'];exact d2)).trans hb,hs,fun j v a b=>(hv j v a b).move mv,hf⟩,fun h=>hz h.1⟩
     ·obtain ⟨⟨x,hb,ho⟩,hz⟩:=S2.maps id o hg
      exact ⟨⟨x,(far fun e'=>hz (by rw [e'];exact d2)).trans hb,ho.move mv⟩,fun h=>hz h.1⟩
    refine ih κ3 nd.2 (fun D' hm=>?_) le3 S3 fun t=>(r2 t).move mv
    obtain ⟨g1,g2,g3,g4⟩:=hD D' (by simp [hm])
    have hne:D'≠D:=fun e=>nd.1 (e▸hm)
    exact ⟨g1,⟨g2,hne⟩,g3,(far hne).trans g4⟩
  obtain ⟨Ds,e1,nd,hD⟩:=q3.defers.ex
  have key:=shut Ds κ' nd hD q2 q3.S q3.r
  rw [←e1] at key
  cases x with
  | normal=>exact key
  | exit k=>exact absurd rfl (q5 k)
  | ret=>exact key
 ·cases h4
end Go.Proofs.YtikpijbeobeckaaGreatDoor.Am
