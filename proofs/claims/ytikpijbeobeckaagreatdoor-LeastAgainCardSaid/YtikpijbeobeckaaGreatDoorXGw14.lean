/- Part 14. -/
import Derived.RangeFuncNested
import Derived.Test.YtikpijbeobeckaaGreatDoorXGw8
set_option linter.unusedSimpArgs false
set_option linter.unusedVariables false
namespace Go.Proofs.YtikpijbeobeckaaGreatDoor.Am
open Go Go.RowKit
theorem y7e {P:Program} {b:Frame} {a:Act} {k:List Item} {cs:List Frame} {w:World} {c:Code}:step P (lone (b.atR a (.code (.scope c)::k)) cs w)=.next (lone (b.atR a (.code c::.inScope c::k)) cs w):=
 step_lone_go (by simp [stepG,stepG.exec,Frame.atR])
theorem yfc {P:Program} {b:Frame} {a:Act} {k:List Item} {cs:List Frame} {w:World} {c:Code}:step P (lone (b.atR a (.inScope c::k)) cs w)=.next (lone (b.atR a k) cs w):=
 step_lone_go (by simp [stepG,stepG.exec,Frame.atR])
theorem ykk {F:Fence} {n:Nat} {P:Program} {Q:Exit→Act→World→Prop} {a:Act} {w:World} {c:Code} (h:c.wpIn F n P (Exit.noGoto Q) a w):(Code.scope c).wpIn F n P Q a w:=by
 intro b k cs hro hb hr
 have h0:(lone (b.atR a (.code (.scope c)::k)) cs w).fenced P F:=fenced_calm hb hr rfl
 obtain ⟨e,a₁,w₁,hq,harr⟩:=h b (.inScope c::k) cs hro hb hr
 cases e with
 | normal=>exact ⟨.normal,a₁,w₁,hq,.head h0 y7e (StepsIn.trans harr (.one (fenced_calm hb hr rfl) yfc))⟩
 | exit id=>
  have hx:exitTo id (.inScope c::k)=exitTo id k:=by simp [exitTo]
  exact ⟨.exit id,a₁,w₁,hq,fun k' hk=>.head h0 y7e (harr.1 k' (by rw [hx];exact hk)),
   fun hr' hk=>let ⟨k₁,h1,h2⟩:=harr.2 hr' (by rw [hx];exact hk);⟨k₁,h1,.head h0 y7e h2⟩⟩
 | goto l=>exact hq.elim
 | ret=>exact ⟨_,a₁,w₁,hq,.of_steps (.one h0 y7e) harr⟩
 | panic ch=>exact ⟨_,a₁,w₁,hq,.of_steps (.one h0 y7e) harr⟩
 | outgrown=>exact ⟨_,a₁,w₁,hq,.of_steps (.one h0 y7e) harr⟩
theorem AW.scope {P:Program} {n:Nat} {c:Code} {Q:y5i} {F:Fr} {H:Hp} (h:AW P n c Q F H):AW P n (.scope c) Q F H:=
 fun ro κ a A=>ykk (wpIn_mono (h ro κ a A) fun e a' w ⟨κ',F',H',x,h1,h2,h3,h4,h5⟩=>by
  subst h4
  cases x <;> exact ⟨κ',F',H',_,h1,h2,h3,rfl,h5⟩)
theorem AW.label {P:Program} {n l:Nat} {Q:y5i} {F:Fr} {H:Hp} (h:Q .normal F H):AW P n (.label l) Q F H:=
 fun ro κ a A=>wpIn_label ⟨κ,F,H,.normal,rfl,.refl κ,A,rfl,h⟩
def K.frz (κ:K) (o:Obj):K:={ κ with fz:=fun b=>κ.fz b∨b=κ.w.heap.size,w:=κ.w.alloc o }
theorem K.frz_le {κ:K} {H:Hp} (S:Sim κ H) (o:Obj):κ.Le (κ.frz o):=
 ⟨fun _ _ h=>⟨h,rfl⟩,fun b h=>⟨.inl h,Below.heap_alloc κ.w o b (S.fz b h)⟩,fun b h=>⟨h,Below.heap_alloc κ.w o b (S.fz b (S.ic b h))⟩,fun b h=>.inl h,fun b n h=>y5c h,by simp [K.frz],rfl,rfl,rfl,fun _ h=>⟨h,fun _ o=>o⟩,rfl,fun b r h=>⟨r,(Below.heap_alloc κ.w o b (lt_of_some h)).trans h⟩⟩
theorem Sim.frz {κ:K} {H:Hp} (S:Sim κ H) (o:Obj):Sim (κ.frz o) H:=by
 have le:=K.frz_le S o
 refine ⟨S.ok,S.hole,S.lt,fun b h=>?_,fun b h=>.inl (S.ic b h),S.le,fun id cs m hg e h1 h2=>?_,fun id es hg=>?_,S.sep,S.base,S.sepm,S.tb.mono le⟩
 ·simp only [K.frz,World.size_alloc]
  rcases h with h | h
  ·have:=S.fz b h;omega
  ·omega
 ·obtain ⟨⟨arr,t,fr,hb,hs,hv,hf⟩,hz⟩:=S.cells id cs m hg e h1 h2
  have hlt:=lt_of_some hb
  refine ⟨⟨arr,t,fr,(Below.heap_alloc κ.w o _ hlt).trans hb,hs,fun j v a b=>(hv j v a b).mono le,hf⟩,?_⟩
  rintro (h | h)
  ·exact hz h
  ·have:(κ.pl id e).1=κ.w.heap.size:=h
   omega
 ·obtain ⟨⟨x,hb,ho⟩,hz⟩:=S.maps id es hg
  have hlt:=lt_of_some hb
  refine ⟨⟨x,(Below.heap_alloc κ.w o _ hlt).trans hb,ho.mono le⟩,?_⟩
  rintro (h | h)
  ·exact hz h
  ·have:(κ.pl id 0).1=κ.w.heap.size:=h
   omega
theorem VR.rebase {κ:K} (b:Nat) {v:V} {c:Value} (r:VR κ v c):VR { κ with base:=b } v c:=VR.move (κ:=κ) (κ':={ κ with base:=b }) ⟨fun _ _ h=>⟨h,rfl⟩,fun _ h=>⟨h,rfl⟩,fun _ _ h=>h⟩ r
theorem Sim.rebase {κ:K} {H:Hp} (b:Nat) (S:Sim κ H):Sim { κ with base:=b } H:=by
 have mv:K.Mv κ { κ with base:=b }:=⟨fun _ _ h=>⟨h,rfl⟩,fun _ h=>⟨h,rfl⟩,fun _ _ h=>h⟩
 refine ⟨S.ok,S.hole,S.lt,S.fz,S.ic,S.le,fun id cs m hg e h1 h2=>?_,fun id es hg=>?_,S.sep,S.base,S.sepm,S.tb⟩
 ·obtain ⟨⟨arr,t,fr,hb,hs,hv,hf⟩,hz⟩:=S.cells id cs m hg e h1 h2
  exact ⟨⟨arr,t,fr,hb,hs,fun j v a b=>(hv j v a b).move mv,hf⟩,hz⟩
 ·obtain ⟨⟨x,hb,ho⟩,hz⟩:=S.maps id es hg
  exact ⟨⟨x,hb,ho.move mv⟩,hz⟩
theorem K.Le.rebase {κ κ':K} {b:Nat} (h:K.Le { κ with base:=b } κ'):κ.Le { κ' with base:=κ.base }:=
 ⟨h.ok,h.fz,h.ic,h.icn,h.n,h.size,h.os,h.tape,h.output,h.hole,rfl,h.lps⟩
def putAll:Fr→List Nat→List V→Fr
 | F,t::ts,v::vs=>putAll (fset F t v) ts vs
 | F,_,_=>F
theorem FR.putAll {κ:K}:∀{ts:List Nat} {vs:List V} {cs:List Value} {F:Fr} {tmps:Array Value},FR κ F tmps→VRs κ vs cs→ts.length=vs.length→(∀t∈ts,t<tmps.size)→
  FR κ (Am.putAll F ts vs) ((ts.zip cs).foldl (fun tmps (p:Nat × Value)=>tmps.setIfInBounds p.1 p.2) tmps)∧((ts.zip cs).foldl (fun tmps (p:Nat × Value)=>tmps.setIfInBounds p.1 p.2) tmps).size=tmps.size
 | [],vs,cs,F,tmps,r,rv,hl,ht=>by
  have:vs=[]:=by cases vs <;> simp at hl ⊢
  subst this
  exact ⟨by simpa [Am.putAll] using r,by simp⟩
 | t::ts,[],cs,F,tmps,r,rv,hl,ht=>by simp at hl
 | t::ts,v::vs,[],F,tmps,r,rv,hl,ht=>by have:=rv.1;simp at this
 | t::ts,v::vs,c::cs,F,tmps,r,rv,hl,ht=>by
  have h0:VR κ v c:=by simpa using rv.2 0 v rfl
  have r1:=FR.set r (ht t (by simp)) h0
  have rv1:VRs κ vs cs:=⟨by have:=rv.1;simpa using this,fun j u hu=>by simpa using rv.2 (j+1) u (by simpa using hu)⟩
  obtain ⟨h1,h2⟩:=FR.putAll (ts:=ts) r1 rv1 (by simpa using hl) (fun t' h'=>by simp;exact ht t' (by simp [h']))
  simp only [List.zip_cons_cons,List.foldl_cons,Am.putAll]
  exact ⟨h1,by rw [h2];simp⟩
def y98 (id:Nat) (S:LpS) (R:V→Hp→Prop):y5i:=fun x F2 H2=>H2.get id=some (.obj (.lp S .busy))∧match x with
 | .normal=>R (.b true) (H2.upd id (.obj (.lp S .ready)))
 | .ret=>R (.b false) (H2.upd id (.obj (.lp S (.done .ret))))
 | .exit k=>R (.b false) (H2.upd id (.obj (.lp S (.done (.exit k)))))
theorem YC.of {P:Program} {id:Nat} {S:LpS} {args:List V} {H:Hp} {R:V→Hp→Prop} (hg:H.get id=some (.obj (.lp S .ready))) (hps:S.ps.size=args.length) (hpn:∀t∈S.ps.toList,t<S.n)
  (h:AW P S.n S.assign (y5i.then (fun F1 H1=>H1.get id=some (.obj (.lp S .ready))∧AW P S.n S.body (y98 id S R) F1 (H1.upd id (.obj (.lp S .busy)))) (fun _ _ _=>False)) (putAll S.F S.ps.toList args) H):YC P id args H R:=by
 intro κ cs Sm rv hok
 obtain ⟨⟨x,hx,ho⟩,hz⟩:=Sm.maps id _ hg
 cases ho with
 | ready _ r e1 e2 e3 e4 e5 e6 e7=>
  have hcl:cs.length=args.length:=rv.1.symm
  have hy:=run_yield (P:=P) (args:=cs.toArray) hx (by rw [e3];simp;omega)
  refine ⟨_,_,_,_,hy,roundIn_of_wpIn trivial ?_⟩
  let κ0:K:={ κ with base:=0 }
  have S0:Sim κ0 H:=Sm.rebase 0
  have e6':FR κ0 S.F r.tmps:=fun t=>(e6 t).rebase 0
  have rv0:VRs κ0 args cs:=⟨rv.1,fun j v hj=>(rv.2 j v hj).rebase 0⟩
  have hfr:=FR.putAll (ts:=S.ps.toList) e6' rv0 (by simpa using hps) (fun t ht=>Nat.lt_of_lt_of_le (hpn t ht) e7)
  have hfold:(r.params.zip cs.toArray).foldl (fun tmps (x:Tmp × Value)=>match x with | (t,a)=>tmps.setIfInBounds t a) r.tmps=(S.ps.toList.zip cs).foldl (fun tmps (p:Nat × Value)=>tmps.setIfInBounds p.1 p.2) r.tmps:=by
   rw [e3,←Array.foldl_toList];simp
  rw [hfold,e4,e5]
  have A:At κ0 (putAll S.F S.ps.toList args) H S.n (some (κ.pl id 0).1) { tmps:=(S.ps.toList.zip cs).foldl (fun tmps (p:Nat × Value)=>tmps.setIfInBounds p.1 p.2) r.tmps,defers:=[] }:=
   ⟨S0,hfr.1,by show S.n≤Array.size _;rw [hfr.2];exact e7,.nil _,fun l hl=>by injection hl with hl;subst hl;exact ⟨r,hx⟩,Nat.zero_le _⟩
  refine wpIn_mono (h (some (κ.pl id 0).1) κ0 _ A) fun e a' w ⟨κ1,F1,H1,x1,q1,q2,q3,q4,q5⟩=>?_
  subst q4;subst q1
  cases x1 with
  | exit k=>exact q5.elim
  | ret=>exact q5.elim
  | normal=>
   obtain ⟨g1,hb⟩:=q5
   have pl1:κ1.pl id 0=κ.pl id 0:=(q2.ok id 0 hok).2
   obtain ⟨⟨x2,hx2,ho2⟩,hz2⟩:=q3.S.maps id _ g1
   cases ho2 with
   | ready _ r1 f1 f2 f3 f4 f5 f6 f7=>
    have hbr:=run_beginRound (P:=P) hx2 f1
    rw [pl1] at hbr
    obtain ⟨le2,S2⟩:=q3.S.updObj g1 hx2 (o':=.lp S .busy) (x':=.loop { r1 with state:=.busy }) (.busy S { r1 with state:=.busy } rfl f3 f4 f5 f6 f7) (fun _ _=>⟨_,rfl⟩)
    rw [pl1] at le2 S2
    refine ⟨_,hbr,?_⟩
    have A2:=q3.on le2 S2 (q3.r.mono le2)
    refine wpIn_mono (hb (some (κ.pl id 0).1) _ _ A2) fun e a' w ⟨κ3,F3,H3,x3,p1,p2,p3,p4,g3,p5⟩=>?_
    subst p4;subst p1
    have ok3:κ3.ok id 0∧κ3.pl id 0=κ.pl id 0:=by
     have a1:=q2.ok id 0 hok
     have a2:=p2.ok id 0 a1.1
     exact ⟨a2.1,a2.2.trans a1.2⟩
    obtain ⟨⟨x4,hx4,ho4⟩,hz4⟩:=p3.S.maps id _ g3
    cases ho4 with
    | busy _ r3 u1 u3 u4 u5 u6 u7=>
     have fin:∀(jump:Option Code) (st:LpSt) (bb:Bool),OBok κ3 (.lp S st) (.loop { r3 with state:=if jump.isNone then .ready else .done,pending:=jump })→jump.isNone=bb→R (.b bb) (H3.upd id (.obj (.lp S st)))→
       ∃v w',(Instr.endRound (κ.pl id 0).1 jump).run P κ3.w=.ok v w'∧∃κ' v' cv H',Ending.returned v=.returned cv∧κ'.w=w'∧κ.Le κ'∧Sim κ' H'∧VR κ' v' cv∧R v' H':=fun jump st bb hob hbb hR=>by
      have hend:=run_endRound (P:=P) jump hx4
      rw [ok3.2] at hend
      obtain ⟨le4,S4⟩:=p3.S.updObj g3 hx4 hob (fun _ _=>⟨_,rfl⟩)
      rw [ok3.2] at le4 S4
      have leA:K.Le κ0 _:=q2.trans (le2.trans (p2.trans le4))
      refine ⟨_,_,hend,_,.b bb,_,_,rfl,rfl,leA.rebase,S4.rebase _,?_,hR⟩
      rw [hbb];exact .b bb
     cases x3 with
     | normal=>exact fin none .ready true (.ready S _ rfl rfl u3 u4 u5 u6 u7) rfl p5
     | ret=>exact fin (some .ret) (.done .ret) false (.done S .ret _ rfl rfl) rfl p5
     | exit k=>exact fin (some (.exit k)) (.done (.exit k)) false (.done S (.exit k) _ rfl rfl) rfl p5
def Hp.del (H:Hp) (id:Nat):Hp:={ H with get:=fun k=>if k=id then Option.none else H.get k }
theorem Hp.del_sub (H:Hp) (id:Nat):(H.del id).Sub H:=⟨fun k=>by simp only [Hp.del];split <;> simp,kG _⟩
def yj4 (id:Nat) (S:LpS) (Q:y5i) (F:Fr) (H':Hp):Prop:=
 (H'.get id=some (.obj (.lp S .ready))∧Q .normal F (H'.del id))∨(H'.get id=some (.obj (.lp S (.done .ret)))∧Q .ret F (H'.del id))∨∃k,H'.get id=some (.obj (.lp S (.done (.exit k))))∧Q (.exit k) F (H'.del id)
theorem AW.rangeFunc {P:Program} {n:Nat} {g:Operand} {gx:AO} {ps:Array Tmp} {assign body:Code} {Q:y5i} {F:Fr} {H:Hp} {f:FuncId} {caps:List V} (hgo:y3z g gx=true) (hgv:ev F gx=.fn f caps)
  (h:AC P f (.yl H.next::caps) (H.add (.obj (.lp ⟨n,ps,assign,body,F⟩ .ready))) (fun _ H'=>yj4 H.next ⟨n,ps,assign,body,F⟩ Q F H')):AW P n (.rangeFunc g ps assign body) Q F H:=by
 intro ro κ a A
 have hx:=y2b hgo A.r
 rw [hgv] at hx
 generalize hcx:a.eval g=c at hx
 cases hx with
 | fn _ _ cs g1 g2=>
  have main:∀(fn:FuncId) (κ1:K) (mark:List Deferred) (rc:Loop),κ.Le κ1→Sim κ1 H→(∀κ2,κ1.Le κ2→Marks κ2 (mark++a.defers))→rc.state=.ready→rc.pending=none→rc.params=ps→rc.assign=assign→rc.body=body→rc.tmps=a.tmps→
    (Instr.enterLoop fn a.tmps ps assign body ro).run P κ.w=.ok (κ1.w.heap.size,mark) (κ1.w.alloc (.loop rc))→
    ∃(l:Nat) (mark:List Deferred) (w₁:World) (d:Deferred) (w₁':World) (f:FuncId) (args:Array Value) (w₂:World),
     (Instr.enterLoop fn a.tmps ps assign body (FF ro).round).run P κ.w=.ok (l,mark) w₁∧(resolve a.eval (rangeCall g l) 0).run P w₁=.ok d w₁'∧(∀f',Target.leads P w₁' d.target d.args=some f'→(FF ro).fn f')∧
     (invoke d.target d.args).run P w₁'=.ok (.enter f args) w₂∧((FF ro).depth.isSome=true→1≤0)∧CallsIn (FF ro) (0-1) P f args w₂ (rangePost (FF ro) 0 P l (QC Q κ n ro) { a with defers:=mark++a.defers }):=fun fn κ1 mark rc le1 S1 hmk s1 s2 s3 s4 s5 s6 hent=>by
   have rF:FR κ1 F a.tmps:=A.r.mono le1
   have hob:OBok κ1 (.lp ⟨n,ps,assign,body,F⟩ .ready) (.loop rc):=.ready _ rc s1 s2 s3 s4 s5 (by rw [s6];exact rF) (by rw [s6];exact A.size)
   have S2:=S1.newObj hob
   have le2:=K.new_le S1 0 (.loop rc)
   have pl2:=K.new_pl κ1 H.next 0 (.loop rc) 0
   have ok2:(κ1.new H.next 0 (.loop rc)).ok H.next 0:=K.new_ok κ1 H.next 0 (.loop rc) (kG _)
   have vy:VR (κ1.new H.next 0 (.loop rc)) (.yl H.next) (.func (.yield κ1.w.heap.size) #[] #[]):=by
    have:=VR.yl (κ:=κ1.new H.next 0 (.loop rc)) H.next ok2
    rw [pl2] at this;exact this
   have rcaps:VRs (κ1.new H.next 0 (.loop rc)) caps cs:=⟨g1,fun j v hj=>((g2 j v hj).mono le1).mono le2⟩
   have rall:VRs (κ1.new H.next 0 (.loop rc)) (.yl H.next::caps) (.func (.yield κ1.w.heap.size) #[] #[]::cs):=⟨by simp [g1],fun j v hj=>by
    cases j with
    | zero=>simp at hj;subst hj;simpa using vy
    | succ j=>simpa using rcaps.2 j v (by simpa using hj)⟩
   have hcall:=h.2 _ _ S2 rall
   refine ⟨_,mark,_,{ target:=.fn (.func f) cs.toArray,args:=#[.func (.yield κ1.w.heap.size) #[] #[]] },κ1.w.alloc (.loop rc),f,#[.func (.yield κ1.w.heap.size) #[] #[]]++cs.toArray,κ1.w.alloc (.loop rc),hent,?_,fun _ _=>trivial,?_,(fun h=>by cases h),?_⟩
   ·simp only [resolve,hcx]
    simp [go_sem,Act.eval]
   ·have:=y4j (P:=P) (cs:=#[.func (.yield κ1.w.heap.size) #[] #[]]++cs.toArray) (w:=κ1.w.alloc (.loop rc)) h.1
    simpa [invoke] using this
   ·have e:(Value.func (.yield κ1.w.heap.size) #[] #[]::cs).toArray=#[.func (.yield κ1.w.heap.size) #[] #[]]++cs.toArray:=by apply Array.ext';simp
    rw [e] at hcall
    refine ykd (hcall.mono fun e w3 ⟨κ3,v,cv,H3,he,hw,le3,S3,rv,hend⟩=>?_)
    subst he;subst hw
    have le03:κ.Le κ3:=le1.trans (le2.trans le3)
    have ok3:=le3.ok H.next 0 ok2
    have pl3:κ3.pl H.next 0=(κ1.w.heap.size,0):=ok3.2.trans pl2
    have fin:∀(st:LpSt) (jump:Option Code),H3.get H.next=some (.obj (.lp ⟨n,ps,assign,body,F⟩ st))→(∀x,OBok κ3 (.lp ⟨n,ps,assign,body,F⟩ st) x→∃r:Loop,x=.loop r∧r.state≠.busy∧r.pending=jump)→
      ∃w4 κ4,(Instr.endLoop κ1.w.heap.size).run P κ3.w=.ok jump w4∧κ4.w=w4∧κ.Le κ4∧At κ4 F (H3.del H.next) n ro { a with defers:=mark++a.defers }:=fun st jump hg hst=>by
     obtain ⟨⟨x,hx,ho⟩,hz⟩:=S3.maps H.next _ hg
     obtain ⟨r,rfl,hr1,hr2⟩:=hst x ho
     rw [pl3] at hx
     have hrun:=run_endLoop (P:=P) hx hr1
     subst hr2
     simp only at hrun
     obtain ⟨le4,S4⟩:=S3.updObj (o':=.lp ⟨n,ps,assign,body,F⟩ (.done .ret)) (x':=.loop { r with state:=.done,pending:=some .ret }) hg (by rw [pl3];exact hx) (.done _ _ _ rfl rfl) (fun _ _=>⟨_,rfl⟩)
     have S5:Sim κ3 (H3.del H.next):=S3.weak (Hp.del_sub _ _)
     have far:∀{b x},κ3.w.heap[b]?=some x→b≠κ1.w.heap.size→(κ3.w.putObj κ1.w.heap.size (.loop { r with state:=.exhausted })).heap[b]?=some x:=fun {b x} hb hne=>(y4v hne).trans hb
     have hfz:¬κ3.fz κ1.w.heap.size:=by rw [pl3] at hz;exact hz
     let κ4:K:={ κ3 with w:=κ3.w.putObj κ1.w.heap.size (.loop { r with state:=.exhausted }) }
     have le5:κ3.Le κ4:=by
      refine ⟨fun _ _ h=>⟨h,rfl⟩,fun b h=>⟨h,y4v fun e=>hfz (e▸h)⟩,fun b h=>⟨h,y4v fun e=>hfz (e▸S3.ic b h)⟩,fun _ h=>.inl h,fun b n h=>?_,by simp [κ4],rfl,rfl,rfl,fun _ h=>⟨h,fun _ o=>o⟩,rfl,fun b r' h=>?_⟩
      ·have hne:b≠κ1.w.heap.size:=fun e=>by
        subst e
        unfold y2q at h
        rw [hx] at h
        simp at h
       unfold y2q at h ⊢
       show (match (κ3.w.putObj κ1.w.heap.size (.loop { r with state:=.exhausted })).heap[b]? with | some (.cells c t _)=>some (c.size,t) | _=>none)=some n
       rw [y4v hne];exact h
      ·by_cases e:b=κ1.w.heap.size
       ·subst e;exact ⟨_,World.putObj_heap_same (lt_of_some hx)⟩
       ·exact ⟨r',(y4v e).trans h⟩
     have S6:Sim κ4 (H3.del H.next):=by
      refine ⟨S5.ok,S5.hole,S5.lt,fun b h=>by simpa [κ4] using S5.fz b h,S5.ic,S5.le,fun id cs m hg' e h1 h2=>?_,fun id o hg'=>?_,S5.sep,S5.base,S5.sepm,S5.tb.mono le5⟩
      ·obtain ⟨⟨arr,t,fr,hb,hs,hv,hf⟩,hz'⟩:=S5.cells id cs m hg' e h1 h2
       refine ⟨⟨arr,t,fr,far hb fun e'=>?_,hs,fun j v a b=>(hv j v a b).mono le5,hf⟩,hz'⟩
       rw [e',hx] at hb;cases hb
      ·obtain ⟨⟨x,hb,ho'⟩,hz'⟩:=S5.maps id o hg'
       refine ⟨⟨x,far hb fun e'=>?_,ho'.mono le5⟩,hz'⟩
       have hne:id≠H.next:=fun e=>by subst e;simp [Hp.del] at hg'
       have hg2:H3.get id=some (.obj o):=by simpa [Hp.del,hne] using hg'
       exact hne (S3.sepm id H.next o _ hg2 hg (by rw [e',pl3]))
     have le04:=le03.trans le5
     refine ⟨_,κ4,hrun,rfl,le04,S6,A.r.mono le04,A.size,?_,A.ro.mono le04,by rw [le04.base];exact kV A.base le04.size⟩
     exact hmk κ4 (le2.trans (le3.trans le5))
    rcases hend with ⟨hg,hq⟩ | ⟨hg,hq⟩ | ⟨k,hg,hq⟩
    ·obtain ⟨w4,κ4,hrun,hw,le4,A4⟩:=fin .ready none hg (fun x ho=>by cases ho with | ready _ r a b c d e f g=>exact ⟨r,rfl,by rw [a];simp,b⟩)
     exact ⟨none,w4,hrun,κ4,F,_,.normal,hw,le4,A4,rfl,hq⟩
    ·obtain ⟨w4,κ4,hrun,hw,le4,A4⟩:=fin (.done .ret) (some .ret) hg (fun x ho=>by cases ho with | done _ j r a b=>exact ⟨r,rfl,by rw [a];simp,b⟩)
     exact ⟨some .ret,w4,hrun,wpIn_ret ⟨κ4,F,_,.ret,hw,le4,A4,rfl,hq⟩⟩
    ·obtain ⟨w4,κ4,hrun,hw,le4,A4⟩:=fin (.done (.exit k)) (some (.exit k)) hg (fun x ho=>by cases ho with | done _ j r a b=>exact ⟨r,rfl,by rw [a];simp,b⟩)
     exact ⟨some (.exit k),w4,hrun,wpIn_exit ⟨κ4,F,_,.exit k,hw,le4,A4,rfl,hq⟩⟩
  refine wpIn_rangeFunc ?_
  intro fn hfn
  cases ro with
  | none=>
   have S1:=A.S.frz (.deferred (some []))
   have le1:=K.frz_le A.S (.deferred (some []))
   have hsz:(κ.frz (.deferred (some []))).w.heap.size=κ.w.heap.size+1:=by simp [K.frz]
   refine main fn _ [{ target:=.collected κ.w.heap.size,args:=#[] }] { state:=.ready,pending:=none,fn,tmps:=a.tmps,params:=ps,assign,body,defers:=κ.w.heap.size } le1 S1 (fun κ2 le2=>?_) rfl rfl rfl rfl rfl rfl ?_
   ·have hD:κ.w.heap.size<(κ.frz (.deferred (some []))).w.heap.size:=by omega
    have hnew:(κ.frz (.deferred (some []))).w.heap[κ.w.heap.size]?=some (.deferred (some [])):=y23 κ.w _
    have m1:Marks (κ.frz (.deferred (some []))) ([{ target:=.collected κ.w.heap.size,args:=#[] }]++a.defers):=by
     obtain ⟨Ds,e,nd,hDs⟩:=(A.defers.mono le1).ex
     obtain ⟨Ds0,e0,_,hDs0⟩:=A.defers.ex
     have hD0:∀D∈Ds,D<κ.w.heap.size:=fun D hm=>by
      have hm0:D∈Ds0:=by
       have:({ target:=.collected D,args:=#[] }:Deferred)∈a.defers:=by rw [e];exact List.mem_map.2 ⟨D,hm,rfl⟩
       rw [e0] at this
       obtain ⟨D',h1,h2⟩:=List.mem_map.1 this
       injection h2 with h2;injection h2 with h2;subst h2;exact h1
      exact lt_of_some (hDs0 D hm0).2.2.2
     refine ⟨κ.w.heap.size::Ds,by rw [e];rfl,List.nodup_cons.2 ⟨fun hm=>Nat.lt_irrefl _ (hD0 _ hm),nd⟩,fun D hm=>?_⟩
     rcases List.mem_cons.1 hm with rfl | hm
     ·exact ⟨A.base,.inr rfl,fun hi=>by have:=A.S.fz _ (A.S.ic _ hi);omega,hnew⟩
     ·exact hDs D hm
    exact m1.mono le2
   ·rw [hsz]
    exact run_enterLoop_outer fn a.tmps ps assign body
  | some l0=>
   obtain ⟨r0,hr0⟩:=A.ro l0 rfl
   refine main fn κ [] { state:=.ready,pending:=none,fn,tmps:=a.tmps,params:=ps,assign,body,defers:=r0.defers } (.refl κ) A.S (fun κ2 le2=>by simpa using A.defers.mono le2) rfl rfl rfl rfl rfl rfl ?_
   exact run_enterLoop_inner hr0 fn a.tmps ps assign body
end Go.Proofs.YtikpijbeobeckaaGreatDoor.Am
