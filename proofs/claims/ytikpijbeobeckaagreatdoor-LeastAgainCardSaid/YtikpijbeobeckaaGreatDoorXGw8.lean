/- Part 8. -/
import Derived.OrdersIn
import Derived.TacticsIn
import Derived.RangeFuncLeaves
import Derived.Test.YtikpijbeobeckaaGreatDoorXGw7
set_option linter.unusedSimpArgs false
set_option linter.unusedVariables false
namespace Go.Proofs.YtikpijbeobeckaaGreatDoor.Am
open Go Go.RowKit
def okFn (P:Program) (f:FuncId):Bool:=match P.funcs[f]? with | some fn=>fn.body.isSome&&fn.name != "runtime.NumGoroutine" | none=>false
def AC (P:Program) (f:FuncId) (args:List V) (H:Hp) (R:V→Hp→Prop):Prop:=
 okFn P f=true∧∀(κ:K) (cs:List Value),Sim κ H→VRs κ args cs→
  Calls P f cs.toArray κ.w fun e w'=>∃κ' v cv H',e=.returned cv∧κ'.w=w'∧κ.Le κ'∧Sim κ' H'∧VR κ' v cv∧R v H'
theorem AC.mono {P:Program} {f:FuncId} {args:List V} {H:Hp} {R R':V→Hp→Prop} (h:AC P f args H R) (hr:∀v H',R v H'→R' v H'):AC P f args H R':=
 ⟨h.1,fun κ cs S r=>(h.2 κ cs S r).mono fun e w' ⟨κ',v,cv,H',a,b,c,d,e',f⟩=>⟨κ',v,cv,H',a,b,c,d,e',hr _ _ f⟩⟩
def YC (P:Program) (id:Nat) (args:List V) (H:Hp) (R:V→Hp→Prop):Prop:=
 ∀(κ:K) (cs:List Value),Sim κ H→VRs κ args cs→κ.ok id 0→∃fn tmps assign body,(Instr.yield (κ.pl id 0).1 cs.toArray).run P κ.w=.ok (.round (κ.pl id 0).1 fn tmps assign body) κ.w∧
  RoundIn Fence.wide 0 P (κ.pl id 0).1 fn tmps assign body κ.w fun e w'=>∃κ' v cv H',e=.returned cv∧κ'.w=w'∧κ.Le κ'∧Sim κ' H'∧VR κ' v cv∧R v H'
theorem YC.mono {P:Program} {id:Nat} {args:List V} {H:Hp} {R R':V→Hp→Prop} (h:YC P id args H R) (hr:∀v H',R v H'→R' v H'):YC P id args H R':=fun κ cs S r o=>by
 obtain ⟨fn,tmps,a,b,h1,h2⟩:=h κ cs S r o
 exact ⟨fn,tmps,a,b,h1,h2.mono fun e w' ⟨κ',v,cv,H',a,b,c,d,e',f⟩=>⟨κ',v,cv,H',a,b,c,d,e',hr _ _ f⟩⟩
def WkV (v:V) (H:Hp) (v':V) (H':Hp):Prop:=
 ∀κ c,Sim κ H→VR κ v c→∃κ',κ'.w=κ.w∧κ.Le κ'∧Sim κ' H'∧VR κ' v' c
def Wk (F:Fr) (H:Hp) (F':Fr) (H':Hp):Prop:=
 ∀κ tmps,Sim κ H→FR κ F tmps→∃κ',κ'.w=κ.w∧κ.Le κ'∧Sim κ' H'∧FR κ' F' tmps
theorem Wk.refl (F:Fr) (H:Hp):Wk F H F H:=fun κ c S r=>⟨κ,rfl,.refl κ,S,r⟩
theorem AC.wk {P:Program} {f:FuncId} {args:List V} {H:Hp} {R R':V→Hp→Prop} (h:AC P f args H R') (hr:∀v H',R' v H'→∃v' H'',WkV v H' v' H''∧R v' H''):AC P f args H R:=
 ⟨h.1,fun κ cs S r=>(h.2 κ cs S r).mono fun e w' ⟨κ',v,cv,H',a,b,c,d,e',f⟩=>by
  obtain ⟨v',H'',wk,q⟩:=hr v H' f
  obtain ⟨κ2,w2,l2,S2,r2⟩:=wk κ' cv d e'
  exact ⟨κ2,v',cv,H'',a,w2.trans b,c.trans l2,S2,r2,q⟩⟩
inductive ADo where
 | op (o:AOp)
 | call (f:FuncId) (args:List AO)
 | callv (fv:AO) (args:List AO)
 | nxt (it:AO)
structure AStep where
 dst:Option Nat
 g:Option (Nat × Bool)
 d:ADo
inductive ACode where
 | skip
 | region (ss:List AStep)
 | draw (bs:List Nat) (ss:List AStep)
 | drawA (bs als:List Nat) (ss:List AStep)
 | scope (c:ACode)
 | label
 | rangeFunc (g:AO) (ps:List Nat) (a b:ACode)
 | seq (a b:ACode)
 | cond (c:AO) (a b:ACode)
 | block (id:Nat) (c:ACode)
 | loop (c:ACode)
 | exit (id:Nat)
 | ret
 | post (ts:List Nat) (c:ACode)
inductive AEx where
 | normal
 | exit (id:Nat)
 | ret
def AEx.ex:AEx→Exit
 | .normal=>.normal
 | .exit id=>.exit id
 | .ret=>.ret
abbrev y5i:=AEx→Fr→Hp→Prop
abbrev FF (ro:Option Nat):Fence:={ Fence.wide with round:=ro }
theorem ykd {ro:Option Nat} {n:Nat} {P:Program} {f:FuncId} {args:Array Value} {w:World} {R:Ending→World→Prop} (h:Calls P f args w R):CallsIn (FF ro) n P f args w R:=by
 have h1:=(callsIn_wide (n:=n)).2 h
 exact h1
structure Marks (κ:K) (ds:List Deferred):Prop where
 ex:∃Ds:List Nat,ds=Ds.map (fun D=>{ target:=.collected D,args:=#[] })∧Ds.Nodup∧∀D∈Ds,κ.base≤D∧κ.fz D∧¬κ.ic D∧κ.w.heap[D]?=some (.deferred (some []))
theorem Marks.nil (κ:K):Marks κ []:=⟨[],rfl,List.nodup_nil,fun D h=>by cases h⟩
theorem Marks.mono {κ κ':K} (le:κ.Le κ') {ds:List Deferred} (h:Marks κ ds):Marks κ' ds:=by
 obtain ⟨Ds,e,nd,hD⟩:=h.ex
 refine ⟨Ds,e,nd,fun D hm=>?_⟩
 obtain ⟨h1,h2,h3,h4⟩:=hD D hm
 refine ⟨by rw [le.base];exact h1,(le.fz D h2).1,fun hi=>?_,by rw [(le.fz D h2).2];exact h4⟩
 rcases le.icn D hi with x | x | x
 ·exact h3 x
 ·have:=lt_of_some h4;omega
 ·exact x h2
def roOk (κ:K) (ro:Option Nat):Prop:=∀l,ro=some l→∃r:Loop,κ.w.heap[l]?=some (Obj.loop r)
theorem roOk.mono {κ κ':K} (le:κ.Le κ') {ro:Option Nat} (h:roOk κ ro):roOk κ' ro:=fun l hl=>let ⟨r,hr⟩:=h l hl;le.lps l r hr
structure At (κ:K) (F:Fr) (H:Hp) (n:Nat) (ro:Option Nat) (a:Act):Prop where
 S:Sim κ H
 r:FR κ F a.tmps
 size:n≤a.tmps.size
 defers:Marks κ a.defers
 ro:roOk κ ro
 base:κ.base≤κ.w.heap.size
theorem At.on {κ κ':K} {F F':Fr} {H H':Hp} {n:Nat} {ro:Option Nat} {a:Act} (A:At κ F H n ro a) (le:κ.Le κ') (S:Sim κ' H') (r:FR κ' F' a.tmps):At κ' F' H' n ro a:=
 ⟨S,r,A.size,A.defers.mono le,A.ro.mono le,by rw [le.base];exact kV A.base le.size⟩
def QC (Q:y5i) (κ0:K) (n:Nat) (ro:Option Nat):Exit→Act→World→Prop:=fun e a w=>∃κ F H x,κ.w=w∧κ0.Le κ∧At κ F H n ro a∧e=AEx.ex x∧Q x F H
def AW (P:Program) (n:Nat) (c:Code) (Q:y5i) (F:Fr) (H:Hp):Prop:=
 ∀ro κ a,At κ F H n ro a→c.wpIn (FF ro) 0 P (QC Q κ n ro) a κ.w
theorem AW.mono {P:Program} {n:Nat} {c:Code} {Q Q':y5i} {F:Fr} {H:Hp} (h:AW P n c Q F H) (hq:∀x F H,Q x F H→Q' x F H):AW P n c Q' F H:=
 fun ro κ a A=>wpIn_mono (h ro κ a A) fun e a w ⟨κ',F',H',x,h1,h2,h3,h4,h5⟩=>⟨κ',F',H',x,h1,h2,h3,h4,hq _ _ _ h5⟩
theorem AW.wk {P:Program} {n:Nat} {c:Code} {Q:y5i} {F F':Fr} {H H':Hp} (k:Wk F H F' H') (h:AW P n c Q F' H'):AW P n c Q F H:=
 fun ro κ a A=>by
  obtain ⟨κ1,w1,l1,S1,r1⟩:=k κ a.tmps A.S A.r
  have:=h ro κ1 a (A.on l1 S1 r1)
  rw [w1] at this
  exact wpIn_mono this fun e a w ⟨κ',F',H',x,h1,h2,h3,h4,h5⟩=>⟨κ',F',H',x,h1,l1.trans h2,h3,h4,h5⟩
def y5i.then (K:Fr→Hp→Prop) (Q:y5i):y5i
 | .normal,F,H=>K F H
 | x,F,H=>Q x F H
theorem AW.seq {P:Program} {n:Nat} {c d:Code} {Q:y5i} {F:Fr} {H:Hp} (h:AW P n c (y5i.then (AW P n d Q) Q) F H):AW P n (.seq c d) Q F H:=
 fun ro κ a A=>wpIn_seq (wpIn_mono (h ro κ a A) fun e a' w ⟨κ',F',H',x,h1,h2,h3,h4,h5⟩=>by
  subst h4;subst h1
  cases x with
  | normal=>
   refine wpIn_mono (h5 ro κ' a' h3) fun e a w ⟨κ2,F2,H2,x2,q1,q2,q3,q4,q5⟩=>⟨κ2,F2,H2,x2,q1,h2.trans q2,q3,q4,q5⟩
  | exit id=>exact ⟨κ',F',H',.exit id,rfl,h2,h3,rfl,h5⟩
  | ret=>exact ⟨κ',F',H',.ret,rfl,h2,h3,rfl,h5⟩)
theorem AW.skip {P:Program} {n:Nat} {Q:y5i} {F:Fr} {H:Hp} (h:Q .normal F H):AW P n .skip Q F H:=
 fun ro κ a A=>wpIn_skip ⟨κ,F,H,.normal,rfl,.refl κ,A,rfl,h⟩
theorem AW.exit {P:Program} {n id:Nat} {Q:y5i} {F:Fr} {H:Hp} (h:Q (.exit id) F H):AW P n (.exit id) Q F H:=
 fun ro κ a A=>wpIn_exit ⟨κ,F,H,.exit id,rfl,.refl κ,A,rfl,h⟩
theorem AW.ret {P:Program} {n:Nat} {Q:y5i} {F:Fr} {H:Hp} (h:Q .ret F H):AW P n .ret Q F H:=
 fun ro κ a A=>wpIn_ret ⟨κ,F,H,.ret,rfl,.refl κ,A,rfl,h⟩
theorem AW.cond {P:Program} {n:Nat} {o:Operand} {x:AO} {c d:Code} {Q:y5i} {F:Fr} {H:Hp} {b:Bool} (ho:y3z o x=true) (hb:ev F x=.b b) (h1:b=true→AW P n c Q F H) (h2:b=false→AW P n d Q F H):
  AW P n (.cond o c d) Q F H:=
 fun ro κ a A=>by
  have:=y2b ho A.r
  rw [hb] at this
  exact wpIn_cond_split (VR.inv_b this) (fun e=>h1 e ro κ a A) (fun e=>h2 e ro κ a A)
theorem AW.condJ {P:Program} {n:Nat} {o:Operand} {x:AO} {c d:Code} {Q:y5i} {F:Fr} {H:Hp} (ho:y3z o x=true) (hb:ev F x=.jb) (h1:AW P n c Q F H) (h2:AW P n d Q F H):
  AW P n (.cond o c d) Q F H:=
 fun ro κ a A=>by
  have:=y2b ho A.r
  rw [hb] at this
  generalize hv:a.eval o=v at this
  cases this with
  | jb b=>exact wpIn_cond_split hv (fun _=>h1 ro κ a A) (fun _=>h2 ro κ a A)
def y5i.block (id:Nat) (Q:y5i):y5i
 | .exit k,F,H=>if k=id then Q .normal F H else Q (.exit k) F H
 | x,F,H=>Q x F H
theorem AW.block {P:Program} {n id:Nat} {c:Code} {Q:y5i} {F:Fr} {H:Hp} (h:AW P n c (y5i.block id Q) F H):AW P n (.block id c) Q F H:=
 fun ro κ a A=>wpIn_block (wpIn_mono (h ro κ a A) fun e a' w ⟨κ',F',H',x,h1,h2,h3,h4,h5⟩=>by
  subst h4
  cases x with
  | normal=>exact ⟨κ',F',H',.normal,h1,h2,h3,rfl,h5⟩
  | exit k=>
   simp only [y5i.block] at h5
   show (if k=id then _ else _:Prop)
   split
   ·rename_i hk
    rw [if_pos hk] at h5
    exact ⟨κ',F',H',.normal,h1,h2,h3,rfl,h5⟩
   ·rename_i hk
    rw [if_neg hk] at h5
    exact ⟨κ',F',H',.exit k,h1,h2,h3,rfl,h5⟩
  | ret=>exact ⟨κ',F',H',.ret,h1,h2,h3,rfl,h5⟩)
theorem yej {Fc:Fence} {n0:Nat} {P:Program} {c:Code} {Q:Exit→Act→World→Prop} (I:Nat→Act→World→Prop):∀(m:Nat) (a:Act) (w:World),I m a w→
  (∀m a w,I m a w→c.wpIn Fc n0 P (Exit.then (fun a' w'=>∃m',m'<m∧I m' a' w') Q) a w)→(Code.loop c).wpIn Fc n0 P Q a w:=by
 intro m a w h0 round b k cs hro hb hr
 have key:∀m a w,I m a w→∃e a' w',Q e a' w'∧ArrivesIn (Machine.fenced P Fc) P (lone (b.atR a (.code c::.inLoop c::k)) cs w) b k cs e a' w':=by
  intro m
  induction m using Nat.strongRecOn with
  | _ m ih=>
   intro a w hI
   obtain ⟨e,a₁,w₁,hq,harr⟩:=round m a w hI b (.inLoop c::k) cs hro hb hr
   cases e with
   | normal=>
    obtain ⟨m',hlt,hI₁⟩:=hq
    obtain ⟨e₂,a₂,w₂,hq₂,harr₂⟩:=ih m' hlt a₁ w₁ hI₁
    exact ⟨e₂,a₂,w₂,hq₂,.of_steps (StepsIn.trans harr (.one (fenced_calm hb hr rfl) stepR_inLoop)) harr₂⟩
   | exit id=>exact ⟨_,a₁,w₁,hq,.pass (x:=.inLoop c) rfl (fun _ _=>.inl (by simp)) harr⟩
   | goto l=>exact ⟨_,a₁,w₁,hq,.pass (x:=.inLoop c) rfl (fun _ _=>.inl (by simp)) harr⟩
   | ret=>exact ⟨_,a₁,w₁,hq,.pass (x:=.inLoop c) rfl (fun _ _=>.inl (by simp)) harr⟩
   | panic ch=>exact ⟨_,a₁,w₁,hq,.pass (x:=.inLoop c) rfl (fun _ _=>.inl (by simp)) harr⟩
   | outgrown=>exact ⟨_,a₁,w₁,hq,.pass (x:=.inLoop c) rfl (fun _ _=>.inl (by simp)) harr⟩
 obtain ⟨e,a',w',hq,harr⟩:=key m a w h0
 exact ⟨e,a',w',hq,.of_steps (.one (fenced_calm hb hr rfl) stepR_loop) harr⟩
theorem AW.loop {P:Program} {n:Nat} {c:Code} {Q:y5i} {F:Fr} {H:Hp} (I:Nat→Fr→Hp→Prop) (m:Nat) (h0:I m F H)
  (hr:∀m F H,I m F H→AW P n c (y5i.then (fun F' H'=>∃m' F'' H'',m'<m∧Wk F' H' F'' H''∧I m' F'' H'') Q) F H):AW P n (.loop c) Q F H:=
 fun ro κ a A=>by
  refine yej (fun m' a' w'=>∃κ' F' H',κ'.w=w'∧κ.Le κ'∧At κ' F' H' n ro a'∧I m' F' H') m a κ.w ⟨κ,F,H,rfl,.refl κ,A,h0⟩ ?_
  rintro m1 a1 w1 ⟨κ1,F1,H1,rfl,l1,A1,i1⟩
  refine wpIn_mono (hr m1 F1 H1 i1 ro κ1 a1 A1) fun e a' w ⟨κ',F',H',x,h1,h2,h3,h4,h5⟩=>?_
  subst h4;subst h1
  cases x with
  | normal=>
   obtain ⟨m',F2,H2,hlt,wk,i2⟩:=h5
   obtain ⟨κ3,w3,l3,S3,r3⟩:=wk κ' a'.tmps h3.S h3.r
   exact ⟨m',hlt,κ3,F2,H2,w3,l1.trans (h2.trans l3),h3.on l3 S3 r3,i2⟩
  | exit id=>exact ⟨κ',F',H',.exit id,rfl,l1.trans h2,h3,rfl,h5⟩
  | ret=>exact ⟨κ',F',H',.ret,rfl,l1.trans h2,h3,rfl,h5⟩
theorem AW.post {P:Program} {n:Nat} {c:Code} {Q:y5i} {F:Fr} {H:Hp} (ts:List Nat) (h:AW P n c (y5i.then (fun F H=>Q .normal (y7l F ts) H) Q) F H):AW P n c Q F H:=
 fun ro κ a A=>wpIn_mono (h ro κ a A) fun e a' w ⟨κ',F',H',x,h1,h2,h3,h4,h5⟩=>by
  cases x with
  | normal=>exact ⟨κ',y7l F' ts,H',.normal,h1,h2,h3.on (.refl _) h3.S (h3.r.keep ts),h4,h5⟩
  | exit id=>exact ⟨κ',F',H',.exit id,h1,h2,h3,h4,h5⟩
  | ret=>exact ⟨κ',F',H',.ret,h1,h2,h3,h4,h5⟩
theorem AW.cut {P:Program} {n:Nat} {c d:Code} {Q:y5i} {F:Fr} {H:Hp} (J:Fr→Hp→Prop) (h1:AW P n c (y5i.then (fun F H=>∃F' H',Wk F H F' H'∧J F' H') Q) F H) (h2:∀F H,J F H→AW P n d Q F H):
  AW P n (.seq c d) Q F H:=
 .seq (h1.mono fun x F H h=>by
  cases x with
  | normal=>obtain ⟨F',H',wk,j⟩:=h;exact AW.wk wk (h2 F' H' j)
  | exit id=>exact h
  | ret=>exact h)
def put (F:Fr) (d:Option Nat) (v:V):Fr:=
 match d with
 | some t=>fset F t v
 | none=>F
def yen (n:Nat):Option Nat→Bool
 | some d=>decide (d<n)
 | none=>true
theorem At.put {κ κ':K} {F:Fr} {H H':Hp} {n:Nat} {ro:Option Nat} {a:Act} (A:At κ F H n ro a) (le:κ.Le κ') (S:Sim κ' H') {d:Option Nat} (hd:yen n d=true) {v:V} {c:Value} (r:VR κ' v c):At κ' (Am.put F d v) H' n ro (a.put d c):=by
 cases d with
 | none=>exact A.on le S (A.r.mono le)
 | some d=>
  simp only [yen,decide_eq_true_eq] at hd
  refine ⟨S,(A.r.mono le).set (by have:=A.size;omega) r,by simpa [Act.put] using A.size,A.defers.mono le,A.ro.mono le,by rw [le.base];exact kV A.base le.size⟩
theorem VR.und (κ:K):VR κ (.tup []) undef:=VR.tup (κ:=κ) [] [] rfl (fun j v h=>by simp at h)
theorem VR.inv_und {κ:K} {c:Value} (r:VR κ (.tup []) c):c=undef:=by
 cases r with
 | tup _ cs l _=>
  have:cs=[]:=by cases cs <;> simp at l ⊢
  subst this;rfl
def nxtS (v:V) (H:Hp) (K:V→Hp→Prop):Prop:=
 match v with
 | .it id=>match H.get id with
  | some (.obj (.iter m n seen))=>match H.get m with
   | some (.obj (.map es))=>n=es.length∧((∀j,j<es.length→j∈seen)→K (.tup [.b false]) H)∧
     ∀j k x,j∉seen→es[j]?=some (k,x)→K (.tup [.b true,.s k,x]) (H.upd id (.obj (.iter m n (seen++[j]))))
   | _=>False
  | _=>False
 | _=>False
def y9s (P:Program):List AStep→(Fr→Hp→Prop)→Fr→Hp→Prop
 | [],K,F,H=>K F H
 | s::r,K,F,H=>
  let go:Prop:=match s.d with
   | .op o=>match y2c o F H with
    | some (v,H')=>y9s P r K (put F s.dst v) H'
    | none=>False
   | .call f args=>AC P f (evs F args) H fun v H'=>y9s P r K (put F s.dst v) H'
   | .callv fv args=>match ev F fv with
    | .fn f caps=>AC P f (evs F args++caps) H fun v H'=>y9s P r K (put F s.dst v) H'
    | .fb f bs=>AC P f (bs++evs F args) H fun v H'=>y9s P r K (put F s.dst v) H'
    | .yl id=>YC P id (evs F args) H fun v H'=>y9s P r K (put F s.dst v) H'
    | _=>False
   | .nxt it=>nxtS (ev F it) H fun v H'=>y9s P r K (put F s.dst v) H'
  match s.g with
  | none=>go
  | some (t,b)=>match y6o F t with
   | .b x=>(x=b→go)∧(x≠b→y9s P r K (put F s.dst (.tup [])) H)
   | .tup []=>y9s P r K (put F s.dst (.tup [])) H
   | _=>False
def yii (ops:Array Oper) (g:Option (Nat × Bool)) (g':Option (Nat × Bool)):Bool:=
 match g,g' with
 | none,none=>true
 | some (j,b),some (t,b')=>((ops[j]?).bind (·.dst)) == some t&&b == b'
 | _,_=>false
def yhu (P:Program) (o:Op) (d:ADo):Bool:=
 match d with
 | .op a=>okOp P o a
 | .call f args=>match o with
  | .call ⟨.value (.func g),os,_⟩=>f == g&&ycd os.toList args
  | _=>false
 | .callv fv args=>match o with
  | .call ⟨.value x,os,_⟩=>y3z x fv&&ycd os.toList args
  | _=>false
 | .nxt x=>match o with
  | .next y false=>y3z y x
  | _=>false
def ygv (P:Program) (n:Nat) (ops:Array Oper) (o:Oper) (s:AStep):Bool:=
 o.dst == s.dst&&yen n s.dst&&yii ops o.guard s.g&&yhu P o.op s.d
def y4f (P:Program) (n:Nat) (ops:Array Oper):List Oper→List AStep→Bool
 | [],[]=>true
 | o::os,s::ss=>ygv P n ops o s&&y4f P n ops os ss
 | _,_=>false
theorem ybo {ops:Array Oper} {o:Oper} {a:Act} {κ:K} {F:Fr} (r:FR κ F a.tmps) {g':Option (Nat × Bool)} (h:yii ops o.guard g'=true):
  (g'=none∧Region.wanted o (yielded ops a.tmps)=true)∨∃t b,g'=some (t,b)∧(∀x,y6o F t=.b x→Region.wanted o (yielded ops a.tmps)=decide (x=b))∧(y6o F t=.tup []→Region.wanted o (yielded ops a.tmps)=false):=by
 unfold yii at h
 split at h
 ·rename_i h1;exact .inl ⟨rfl,by simp [Region.wanted,h1]⟩
 ·rename_i j b t b' h1
  simp only [kF,beq_iff_eq] at h
  obtain ⟨h2,rfl⟩:=h
  refine .inr ⟨t,b,rfl,fun x hx=>?_,fun hx=>?_⟩
  rotate_left
  ·have:=r t
   rw [hx] at this
   have hb:=VR.inv_und this
   have hy:yielded ops a.tmps j=none:=by
    unfold yielded
    rw [h2]
    simp only [Option.bind_some]
    cases hh:a.tmps[t]? with
    | none=>rfl
    | some c=>
     have:c=undef:=by simpa [kH,hh] using hb
     subst this;rfl
   simp [Region.wanted,h1,hy]
  have:=r t
  rw [hx] at this
  have hb:=VR.inv_b this
  have hy:yielded ops a.tmps j=some x:=by
   unfold yielded
   rw [h2]
   simp only [Option.bind_some]
   have hlt:t<a.tmps.size:=by
    rcases Nat.lt_or_ge t a.tmps.size with q | q
    ·exact q
    ·simp [kH,Array.getElem?_eq_none q,undef] at hb
   have:a.tmps[t]?=some (.bool x):=by
    rw [kH,Array.getElem?_eq_getElem hlt] at hb
    rw [Array.getElem?_eq_getElem hlt]
    simpa using hb
   rw [this]
  simp [Region.wanted,h1,hy]
  by_cases e:x=b <;> simp [e]
 ·cases h
theorem yir {P:Program} {f:FuncId} {vs:List V} {H:Hp} {R:V→Hp→Prop} (h:AC P f vs H R) {κ:K} (S:Sim κ H) {cs:Array Value} (r:VRs κ vs cs.toList):
  Calls P f cs κ.w fun e w'=>∃κ' v cv H',e=.returned cv∧κ'.w=w'∧κ.Le κ'∧Sim κ' H'∧VR κ' v cv∧R v H':=by
 have:=h.2 κ cs.toList S r
 simpa using this
theorem yb3 {ro:Option Nat} {P:Program} {o:Oper} {a:Act} {w:World} {J:Act→World→Prop} {Q:Exit→Act→World→Prop} (hd:∀c,o.op≠.defer c) (h:o.uponIn (FF ro) 0 P a J Q ((execOp a.eval o).run P w)):o.wpIn (FF ro) 0 P a w J Q:=
 ⟨fun _ _=>trivial,by rw [Oper.semAt_eq _ _ _ hd];exact h⟩
theorem yb2 {ro:Option Nat} {P:Program} {o:Oper} {a:Act} {J:Act→World→Prop} {Q:Exit→Act→World→Prop} {f:FuncId} {vs:List V} {H:Hp} {R:V→Hp→Prop} (h:AC P f vs H R) {κ:K} (S:Sim κ H) {cs:Array Value}
  (r:VRs κ vs cs.toList) (hnd:∀c,o.op≠.defer c) (hrun:(execOp a.eval o).run P κ.w=.ok (.enter f cs) κ.w) (hK:∀κ' v cv H',κ.Le κ'→Sim κ' H'→VR κ' v cv→R v H'→J (a.put o.dst cv) κ'.w):o.wpIn (FF ro) 0 P a κ.w J Q:=by
 refine yb3 hnd ?_
 rw [hrun]
 rw [Oper.uponIn_enter]
 refine ⟨(fun h=>by cases h),ykd ((yir h S r).mono fun e w' ⟨κ',v,cv,H',he,hw,le,S',rv,hR⟩=>?_)⟩
 subst he;subst hw
 exact hK κ' v cv H' le S' rv hR
theorem y4j {P:Program} {f:FuncId} {cs:Array Value} {w:World} (h:okFn P f=true):(callFunc f cs).run P w=.ok (.enter f cs) w:=by
 unfold okFn at h
 split at h
 ·rename_i fn hf
  simp only [kF,bne_iff_ne,ne_eq] at h
  have hb:¬(fn.body=none):=fun hb=>by simp [hb] at h
  simp [callFunc,hf,h.2,hb]
 ·cases h
theorem VRs.append {κ:K} {a b:List V} {c d:List Value} (h:VRs κ a c) (k:VRs κ b d):VRs κ (a++b) (c++d):=by
 refine .of_get (by simp [h.1,k.1]) fun j v hj=>?_
 have hl:=h.1
 by_cases hja:j<a.length
 ·rw [kR hja] at hj
  rw [kR (by omega)]
  exact h.get hj
 ·rw [kX (by omega)] at hj
  rw [kX (by omega),←hl]
  exact k.get hj
theorem yfl {P:Program} {o:Op} {d:ADo} (h:yhu P o d=true):∀c,o≠.defer c:=by
 rintro c rfl
 cases d with
 | op a=>cases a <;> simp [yhu,okOp] at h
 | call f args=>simp [yhu] at h
 | callv fv args=>simp [yhu] at h
 | nxt x=>simp [yhu] at h
def goS (P:Program) (s:AStep) (K:V→Hp→Prop) (F:Fr) (H:Hp):Prop:=
 match s.d with
 | .op o=>match y2c o F H with
  | some (v,H')=>K v H'
  | none=>False
 | .call f args=>AC P f (evs F args) H K
 | .callv fv args=>match ev F fv with
  | .fn f caps=>AC P f (evs F args++caps) H K
  | .fb f bs=>AC P f (bs++evs F args) H K
  | .yl id=>YC P id (evs F args) H K
  | _=>False
 | .nxt it=>nxtS (ev F it) H K
theorem next_ok {P:Program} {κ:K} {H:Hp} (S:Sim κ H) {c:Value} {v0:V} (hc:VR κ v0 c) {K0:V→Hp→Prop} (hg:nxtS v0 H K0) (ty:TypeId):
  ∃κ' v cv H',κ.Le κ'∧Sim κ' H'∧VR κ' v cv∧K0 v H'∧(Instr.next c false ty).run P κ.w=.ok cv κ'.w:=by
 unfold nxtS at hg
 split at hg
 rotate_left
 ·exact hg.elim
 rename_i id
 split at hg
 rotate_left
 ·exact hg.elim
 rename_i m n seen h1
 split at hg
 rotate_left
 ·exact hg.elim
 rename_i es h2
 obtain ⟨rfl,g1,g2⟩:=hg
 cases hc with
 | it _ hid=>
 obtain ⟨⟨x,hb,ho⟩,_⟩:=S.maps id _ h1
 obtain ⟨⟨x2,hb2,ho2⟩,_⟩:=S.maps m _ h2
 obtain ⟨arr,rfl,rel,born⟩:=ya9 ho2
 have hl:es.length=arr.size:=by have:=rel.1;simpa using this
 cases ho with
 | iter _ _ _ hm=>
 have hold:∀x∈arr.toList,x.born<es.length:=fun x hx=>by
  obtain ⟨j,hj⟩:=List.mem_iff_getElem?.1 hx
  have:=born j x (by simpa using hj)
  have:=(List.getElem?_eq_some_iff.1 hj).1
  simp at this;omega
 rcases run_next_at (P:=P) κ.w ty _ _ es.length es.length seen.toArray arr arr.size hb hb2 hold (kG _) with ⟨h0,hr⟩ | ⟨e,he,w1,hw,hr⟩
 ·refine ⟨κ,.tup [.b false],_,H,.refl κ,S,VR.tup' ⟨rfl,fun j u hj=>?_⟩,g1 fun j hj=>?_,hr⟩
  ·match j,hj with
   | 0,hj=>simp at hj;subst hj;exact .b false
   | j+1,hj=>simp at hj
  ·by_cases hs:j∈seen
   ·exact hs
   ·exfalso
    have hlt:j<arr.size:=by omega
    have hm':arr[j]∈leftOf arr seen.toArray:=by
     unfold leftOf
     rw [Array.mem_filter]
     exact ⟨Array.getElem_mem hlt,by rw [born j arr[j] (by simp [hlt])];simpa using hs⟩
    have:=Array.size_pos_of_mem hm'
    omega
 ·have hmem:e∈leftOf arr seen.toArray:=by simpa using he
  unfold leftOf at hmem
  rw [Array.mem_filter] at hmem
  obtain ⟨ha,hs⟩:=hmem
  obtain ⟨j,hj,hje⟩:=Array.mem_iff_getElem.1 ha
  have hj':arr[j]?=some e:=by rw [←hje];simp [hj]
  have hbj:=born j e hj'
  rw [hbj] at hs hr
  have hlt:j<es.length:=by omega
  obtain ⟨en,a1,a2,a3⟩:=rel.2 j es[j].1 es[j].2 (kC hlt)
  have:en=e:=by
   have:arr[j]?=some en:=by simpa using a1
   rw [hj'] at this;injection this with this;exact this.symm
  subst this
  have fin:∀κ1:K,κ.Le κ1→Sim κ1 H→κ1.w=w1→∃κ' v cv H',κ.Le κ'∧Sim κ' H'∧VR κ' v cv∧K0 v H'∧(Instr.next (.pointer (some ⟨(κ.pl id 0).1,0,none⟩)) false ty).run P κ.w=.ok cv κ'.w:=fun κ1 le S1 e1=>by
   obtain ⟨⟨x3,hb3,ho3⟩,_⟩:=S1.maps id _ h1
   cases ho3 with
   | iter _ _ _ hm3=>
   have hpl:=(le.ok id 0 hid).2
   have hpm:=(le.ok m 0 hm).2
   have hob:OBok κ1 (.iter m es.length (seen++[j])) (.mapIter (some (κ1.pl m 0).1) es.length (seen.toArray.push j) es.length):=by
    have:=OBok.iter (κ:=κ1) m es.length (seen++[j]) hm3
    simpa using this
   obtain ⟨le2,S2⟩:=S1.updObj h1 hb3 hob (fun r h=>by cases h)
   refine ⟨_,.tup [.b true,.s es[j].1,es[j].2],.tuple #[.bool true,en.key,en.val],_,le.trans le2,S2,VR.tup' ⟨rfl,fun i u hi=>?_⟩,g2 j es[j].1 es[j].2 (by simpa using hs) (kC hlt),?_⟩
   ·match i,hi with
    | 0,hi=>simp at hi;subst hi;exact .b true
    | 1,hi=>simp at hi;subst hi;rw [a2];exact .s _
    | 2,hi=>simp at hi;subst hi;exact (a3.mono le).mono le2
    | i+3,hi=>simp at hi
   ·rw [hr,←hpl,←hpm,←e1,←hl]
    rfl
  rcases hw with rfl | rfl
  ·exact fin κ (.refl κ) S rfl
  ·exact fin { κ with w:=κ.w.drew } κ.drew_le S.drew rfl
theorem go_ok {P:Program} {n:Nat} {o:Oper} {s:AStep} (hd:o.dst=s.dst) (hn:yen n s.dst=true) (ho:yhu P o.op s.d=true) {K0:V→Hp→Prop} {F:Fr} {H:Hp} (hg:goS P s K0 F H) {κ:K} {ro:Option Nat} {a:Act} (A:At κ F H n ro a)
  {J:Act→World→Prop} {Q:Exit→Act→World→Prop} (hK:∀κ' v cv H',κ.Le κ'→At κ' (Am.put F s.dst v) H' n ro (a.put o.dst cv)→K0 v H'→J (a.put o.dst cv) κ'.w):o.wpIn (FF ro) 0 P a κ.w J Q:=by
 have hnd:=yfl ho
 obtain ⟨sd,sg,sdo⟩:=s
 simp only at hd hn ho hK
 cases sdo with
 | op p=>
  simp only [goS] at hg
  simp only [yhu] at ho
  split at hg
  ·rename_i v H' hst
   obtain ⟨κ',nx,cv,le,S',rv,run,hnx⟩:=yi9 ho F H v H' hst κ a A.S A.r
   have A':=A.put le S' (d:=sd) hn rv
   rw [←hd] at A'
   have:=hK κ' v cv H' le (by rw [←hd];exact A') hg
   refine yb3 hnd ?_
   rw [run]
   rcases hnx with rfl | ⟨rfl,rfl⟩
   ·exact this
   ·exact this
  ·exact hg.elim
 | call f args=>
  simp only [goS] at hg
  simp only [yhu] at ho
  split at ho
  ·rename_i g os ts hop
   simp only [kF,beq_iff_eq] at ho
   obtain ⟨rfl,h2⟩:=ho
   have hv:=y5s h2 A.r
   refine yb2 hg A.S (cs:=os.map a.eval) (by rw [Array.toList_map];exact hv) hnd ?_ fun κ' v cv H' le S' rv hR=>hK κ' v cv H' le ?_ hR
   ·simp only [execOp,hop,resolve,Sem.run_bind,Act.eval,Deferred.ofValue,Sem.run_pure,Result.andThen_ok,invoke]
    simpa using y4j hg.1
   ·have:=A.put le S' (d:=sd) hn rv
    rw [hd];exact this
  ·cases ho
 | callv fv args=>
  simp only [goS] at hg
  simp only [yhu] at ho
  split at hg
  ·rename_i f caps hfv
   split at ho
   ·rename_i x os ts hop
    simp only [kF] at ho
    obtain ⟨h1,h2⟩:=ho
    have hv:=y5s h2 A.r
    have hx:=y2b h1 A.r
    rw [hfv] at hx
    generalize hcx:a.eval x=c at hx
    cases hx with
    | fn _ _ cs g1 g2=>
     refine yb2 hg A.S (cs:=os.map a.eval++cs.toArray) (by simpa using hv.append ⟨g1,g2⟩) hnd ?_ fun κ' v cv H' le S' rv hR=>hK κ' v cv H' le ?_ hR
     ·simp only [execOp,hop,resolve,Sem.run_bind,hcx,Deferred.ofValue,Sem.run_pure,Result.andThen_ok,invoke]
      simpa using y4j hg.1
     ·have:=A.put le S' (d:=sd) hn rv
      rw [hd];exact this
   ·cases ho
  ·rename_i f bs hfv
   split at ho
   ·rename_i x os ts hop
    simp only [kF] at ho
    obtain ⟨h1,h2⟩:=ho
    have hv:=y5s h2 A.r
    have hx:=y2b h1 A.r
    rw [hfv] at hx
    generalize hcx:a.eval x=c at hx
    cases hx with
    | fb _ _ cs g1 g2=>
     refine yb2 hg A.S (cs:=cs.toArray++os.map a.eval) (by simpa using VRs.append ⟨g1,g2⟩ hv) hnd ?_ fun κ' v cv H' le S' rv hR=>hK κ' v cv H' le ?_ hR
     ·simp only [execOp,hop,resolve,Sem.run_bind,hcx,Deferred.ofValue,Sem.run_pure,Result.andThen_ok,invoke]
      simpa using y4j hg.1
     ·have:=A.put le S' (d:=sd) hn rv
      rw [hd];exact this
   ·cases ho
  ·rename_i id hfv
   split at ho
   ·rename_i x os ts hop
    simp only [kF] at ho
    obtain ⟨h1,h2⟩:=ho
    have hv:=y5s h2 A.r
    have hx:=y2b h1 A.r
    rw [hfv] at hx
    generalize hcx:a.eval x=c at hx
    cases hx with
    | yl _ hok=>
     obtain ⟨fn,tmps,as,bd,hy,hR⟩:=hg κ (os.map a.eval).toList A.S (by rw [Array.toList_map];exact hv) hok
     refine yb3 hnd ?_
     have hrun:(execOp a.eval o).run P κ.w=.ok (.round (κ.pl id 0).1 fn tmps as bd) κ.w:=by
      simp only [execOp,hop,resolve,Sem.run_bind,hcx,Deferred.ofValue,Sem.run_pure,Result.andThen_ok,invoke]
      rw [Array.toArray_toList] at hy
      simpa using hy
     rw [hrun,Oper.uponIn_round]
     refine ⟨(fun h=>by cases h),?_⟩
     have hR':RoundIn (FF ro) (0-1) P (κ.pl id 0).1 fn tmps as bd κ.w _:=hR
     refine hR'.mono fun e w' ⟨κ',v,cv,H',he,hw,le,S',rv,hK0⟩=>?_
     subst he;subst hw
     have:=A.put le S' (d:=sd) hn rv
     exact hK κ' v cv H' le (by rw [hd];exact this) hK0
   ·cases ho
  ·exact hg.elim
 | nxt it=>
  simp only [goS] at hg
  simp only [yhu] at ho
  split at ho
  rotate_left
  ·cases ho
  rename_i y hop
  have hx:=y2b ho A.r
  obtain ⟨κ',v,cv,H',le,S',rv,hk,run⟩:=next_ok (P:=P) A.S hx hg o.type
  have A':=A.put le S' (d:=sd) hn rv
  rw [←hd] at A'
  have:=hK κ' v cv H' le (by rw [←hd];exact A') hk
  refine yb3 hnd ?_
  have hrun:(execOp a.eval o).run P κ.w=.ok (.value cv) κ'.w:=by
   simp only [execOp,hop,Sem.run_bind,run,Result.andThen_ok,Sem.run_pure]
  rw [hrun]
  exact this
theorem yhm {P:Program} {s:AStep} {r:List AStep} {K:Fr→Hp→Prop} {F:Fr} {H:Hp}:
  y9s P (s::r) K F H=match s.g with
   | none=>goS P s (fun v H'=>y9s P r K (put F s.dst v) H') F H
   | some (t,b)=>match y6o F t with
    | .b x=>(x=b→goS P s (fun v H'=>y9s P r K (put F s.dst v) H') F H)∧(x≠b→y9s P r K (put F s.dst (.tup [])) H)
    | .tup []=>y9s P r K (put F s.dst (.tup [])) H
    | _=>False:=by
 rfl
theorem ypk {P:Program} {n:Nat} {ops:Array Oper}:∀{os:List Oper} {ss:List AStep},y4f P n ops os ss=true→∀{J:Fr→Hp→Prop} {F:Fr} {H:Hp},y9s P ss J F H→∀{κ:K} {ro:Option Nat} {a:Act},At κ F H n ro a→
  ∀{Q:Exit→Act→World→Prop},(∀κ' F' H' a',κ.Le κ'→At κ' F' H' n ro a'→J F' H'→Q .normal a' κ'.w)→wpListIn (FF ro) 0 P ops Q os a κ.w
 | [],[],_,J,F,H,h,κ,ro,a,A,Q,hQ=>hQ κ F H a (.refl κ) A h
 | o::os,s::ss,hok,J,F,H,h,κ,ro,a,A,Q,hQ=>by
  simp only [y4f,ygv,kF,beq_iff_eq] at hok
  obtain ⟨⟨⟨⟨h1,h2⟩,h3⟩,h4⟩,h5⟩:=hok
  rw [yhm] at h
  have rest:∀κ' F' H' a',κ.Le κ'→At κ' F' H' n ro a'→y9s P ss J F' H'→wpListIn (FF ro) 0 P ops Q os a' κ'.w:=fun κ' F' H' a' le A' hr=>
   ypk h5 hr A' fun κ2 F2 H2 a2 le2 A2 k2=>hQ κ2 F2 H2 a2 (le.trans le2) A2 k2
  have go:goS P s (fun v H'=>y9s P ss J (put F s.dst v) H') F H→Region.wanted o (yielded ops a.tmps)=true→wpListIn (FF ro) 0 P ops Q (o::os) a κ.w:=fun hg hw=>by
   unfold wpListIn
   rw [if_pos hw]
   exact (go_ok h1 h2 h4 hg A fun κ' v cv H' le A' hr=>rest κ' _ H' _ le A' hr)
  rcases ybo A.r h3 with ⟨e,hw⟩ | ⟨t,b,e,hw⟩
  ·rw [e] at h
   exact go h hw
  ·rw [e] at h
   split at h
   ·rename_i e';cases e'
   ·rename_i t' b' e'
    injection e' with e';injection e' with e1 e2;subst e1;subst e2
    split at h
    ·rename_i x hx
     have hwx:=hw.1 x hx
     by_cases hxb:x=b
     ·exact go (h.1 hxb) (by rw [hwx];simp [hxb])
     ·unfold wpListIn
      rw [if_neg (by rw [hwx];simp [hxb])]
      refine ⟨fun _ _=>trivial,?_⟩
      have A':=A.put (.refl κ) A.S (d:=s.dst) h2 (.und κ)
      rw [←h1] at A'
      exact rest κ _ H _ (.refl κ) A' (by rw [h1];exact h.2 hxb)
    ·rename_i hx
     unfold wpListIn
     rw [if_neg (by rw [hw.2 hx];simp)]
     refine ⟨fun _ _=>trivial,?_⟩
     have A':=A.put (.refl κ) A.S (d:=s.dst) h2 (.und κ)
     rw [←h1] at A'
     exact rest κ _ H _ (.refl κ) A' (by rw [h1];exact h)
    ·exact h.elim
 | [],_::_,h,_,_,_,_,_,_,_,_,_,_=>by cases h
 | _::_,[],h,_,_,_,_,_,_,_,_,_,_=>by cases h
theorem AW.region {P:Program} {n id:Nat} {ops:Array Oper} {ss:List AStep} (hok:y4f P n ops ops.toList ss=true) {Q:y5i} {F:Fr} {H:Hp} (h:y9s P ss (Q .normal) F H):AW P n (.region id ops false) Q F H:=
 fun ro κ a A=>wpIn_region_list (ypk hok h A fun κ' F' H' a' le A' k=>⟨κ',F',H',.normal,rfl,le,A',rfl,k⟩)
end Go.Proofs.YtikpijbeobeckaaGreatDoor.Am
