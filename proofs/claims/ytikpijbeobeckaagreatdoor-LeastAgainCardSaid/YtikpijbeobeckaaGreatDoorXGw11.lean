/- Part 11. -/
import Derived.Test.YtikpijbeobeckaaGreatDoorXGw9
import Derived.Test.YtikpijbeobeckaaGreatDoorXGw10
set_option linter.unusedSimpArgs false
set_option linter.unusedVariables false
namespace Go.Proofs.YtikpijbeobeckaaGreatDoor.Am
open Go Go.RowKit
def LW (ss:List AStep) (vs:Nat→V) (z:V) (t:Nat) (p:Nat→Prop) (x:V):Prop:=
 (∃i s,p i∧ss[i]?=some s∧s.dst=some t∧x=vs i∧∀i' s',p i'→ss[i']?=some s'→s'.dst=some t→i'≤i) ∨
 ((∀i s,p i→ss[i]?=some s→s.dst≠some t)∧x=z)
theorem LW.eq {ss:List AStep} {vs:Nat→V} {z:V} {t:Nat} {p q:Nat→Prop} {x y:V} (h:LW ss vs z t p x) (k:LW ss vs z t q y) (e:∀i s,ss[i]?=some s→s.dst=some t→(p i↔q i)):x=y:=by
 rcases h with ⟨i,s,a1,a2,a3,a4,a5⟩ | ⟨a1,a2⟩ <;> rcases k with ⟨j,u,b1,b2,b3,b4,b5⟩ | ⟨b1,b2⟩
 ·have h1:=a5 j u ((e j u b2 b3).2 b1) b2 b3
  have h2:=b5 i s ((e i s a2 a3).1 a1) a2 a3
  have:i=j:=by omega
  subst this;rw [a4,b4]
 ·exact absurd a3 (b1 i s ((e i s a2 a3).1 a1) a2)
 ·exact absurd b3 (a1 j u ((e j u b2 b3).2 b1) b2)
 ·rw [a2,b2]
def LH (N:Nat) (cl:Nat→Cls) (Hs:Nat→Hp) (p:Nat→Prop) (X:Hp):Prop:=
 (∃i,p i∧i<N∧cl i=.eff∧X=Hs (i+1)∧∀i',p i'→i'<N→cl i'=.eff→i'≤i)∨((∀i,p i→i<N→cl i≠.eff)∧X=Hs 0)
theorem LH.eq {N:Nat} {cl:Nat→Cls} {Hs:Nat→Hp} {p q:Nat→Prop} {X Y:Hp} (h:LH N cl Hs p X) (k:LH N cl Hs q Y) (e:∀i,i<N→cl i=.eff→(p i↔q i)):X=Y:=by
 rcases h with ⟨i,a1,a2,a3,a4,a5⟩ | ⟨a1,a2⟩ <;> rcases k with ⟨j,b1,b2,b3,b4,b5⟩ | ⟨b1,b2⟩
 ·have h1:=a5 j ((e j b2 b3).2 b1) b2 b3
  have h2:=b5 i ((e i a2 a3).1 a1) a2 a3
  have:i=j:=by omega
  subst this;rw [a4,b4]
 ·exact absurd a3 (b1 i ((e i a2 a3).1 a1) a2)
 ·exact absurd b3 (a1 j ((e j b2 b3).2 b1) b2)
 ·rw [a2,b2]
theorem ydd (F:Fr) (d:Option Nat) (v:V) (t:Nat):y6o (put F d v) t=if d=some t then v else y6o F t:=by
 cases d with
 | none=>simp [put]
 | some d=>simp [put,fset,y6o,eq_comm]
section
variable {P:Program} {n:Nat} {ops:Array Oper} {ss:List AStep} {Fs:Nat→Fr} {Hs:Nat→Hp} {vs:Nat→V} {cl:Nat→Cls} {re:Nat→Hp→Prop}
theorem ymr (st:∀j s,ss[j]?=some s→StepR P n ops j s (Fs j) (Fs (j+1)) (Hs j) (Hs (j+1)) (vs j) (cl j) (re j)) (t:Nat):∀j,j≤ss.length→LW ss vs (y6o (Fs 0) t) t (·<j) (y6o (Fs j) t)
 | 0,_=>.inr ⟨fun i s h=>absurd h (by omega),rfl⟩
 | j+1,hj=>by
  have hs:ss[j]?=some ss[j]:=kC (by omega)
  have h:=st j _ hs
  rw [h.put,ydd]
  have ih:=ymr st t j (by omega)
  by_cases hd:(ss[j]).dst=some t
  ·rw [if_pos hd]
   exact .inl ⟨j,_,by omega,hs,hd,rfl,fun i' s' h1 _ _=>by omega⟩
  ·rw [if_neg hd]
   have no:∀i s,ss[i]?=some s→s.dst=some t→(i<j+1↔i<j):=fun i s h1 h2=>by
    constructor
    ·intro h3
     rcases Nat.lt_or_ge i j with h4 | h4
     ·exact h4
     ·have:i=j:=by omega
      subst this
      rw [hs] at h1;injection h1 with h1;subst h1
      exact absurd h2 hd
    ·intro;omega
   rcases ih with ⟨i,s,a1,a2,a3,a4,a5⟩ | ⟨a1,a2⟩
   ·exact .inl ⟨i,s,by omega,a2,a3,a4,fun i' s' h1 h2 h3=>a5 i' s' ((no i' s' h2 h3).1 h1) h2 h3⟩
   ·exact .inr ⟨fun i s h1 h2 h3=>a1 i s ((no i s h2 h3).1 h1) h2 h3,a2⟩
theorem ygg (st:∀j s,ss[j]?=some s→StepR P n ops j s (Fs j) (Fs (j+1)) (Hs j) (Hs (j+1)) (vs j) (cl j) (re j)):∀j,j≤ss.length→LH ss.length cl Hs (·<j) (Hs j)
 | 0,_=>.inr ⟨fun i h=>absurd h (by omega),rfl⟩
 | j+1,hj=>by
  have hs:ss[j]?=some ss[j]:=kC (by omega)
  have h:=st j _ hs
  have ih:=ygg st j (by omega)
  by_cases hd:cl j=.eff
  ·exact .inl ⟨j,by omega,by omega,hd,rfl,fun i' h1 _ _=>by omega⟩
  ·rw [h.same hd]
   have no:∀i,cl i=.eff→(i<j+1↔i<j):=fun i h2=>by
    constructor
    ·intro h3
     rcases Nat.lt_or_ge i j with h4 | h4
     ·exact h4
     ·have:i=j:=by omega
      subst this;exact absurd h2 hd
    ·intro;omega
   rcases ih with ⟨i,a1,a2,a3,a4,a5⟩ | ⟨a1,a2⟩
   ·exact .inl ⟨i,by omega,a2,a3,a4,fun i' h1 h2 h3=>a5 i' ((no i' h3).1 h1) h2 h3⟩
   ·exact .inr ⟨fun i h1 h2 h3=>a1 i ((no i h3).1 h1) h2 h3,a2⟩
def unl (S:Array Bool) (N:Nat):Nat:=(List.range N).countP fun j=>!S.getD j false
theorem ye2 {p q:Nat→Bool}:∀(l:List Nat),(∀x∈l,q x=true→p x=true)→(∃x∈l,p x=true∧q x=false)→l.countP q<l.countP p
 | [],_,h=>by obtain ⟨x,h,_⟩:=h;cases h
 | y::l,h1,h2=>by
  have le:l.countP q≤l.countP p:=List.countP_mono_left fun x hx=>h1 x (by simp [hx])
  obtain ⟨x,hx,hp,hq⟩:=h2
  rcases List.mem_cons.1 hx with rfl | hx
  ·rw [List.countP_cons_of_pos hp,List.countP_cons_of_neg (by simp [hq])];omega
  ·have ih:=ye2 l (fun z hz=>h1 z (by simp [hz])) ⟨x,hx,hp,hq⟩
   by_cases hqy:q y=true
   ·rw [List.countP_cons_of_pos hqy,List.countP_cons_of_pos (h1 y (by simp) hqy)];omega
   ·rw [List.countP_cons_of_neg hqy]
    by_cases hpy:p y=true
    ·rw [List.countP_cons_of_pos hpy];omega
    ·rw [List.countP_cons_of_neg hpy];exact ih
structure Inv (P:Program) (n:Nat) (ops:Array Oper) (ss:List AStep) (Fs:Nat→Fr) (Hs:Nat→Hp) (vs:Nat→V) (cl:Nat→Cls) (S:Array Bool) (κ:K) (ro:Option Nat) (a:Act):Prop where
 size:S.size=ops.size
 late:∀j,ss.length≤j→S.getD j false=false
 down:∀j,S.getD j false=true→∀i,Rch ops i j→S.getD i false=true
 ex:∃F2 H2,At κ F2 H2 n ro a∧(∀t,LW ss vs (y6o (Fs 0) t) t (fun i=>S.getD i false=true) (y6o F2 t))∧LH ss.length cl Hs (fun i=>S.getD i false=true) H2
theorem yog (hN:ss.length≤ops.size) (hlate:∀i j,i<ss.length→ss.length≤j→j<ops.size→Rch ops i j) (hback:∀j o,ops[j]?=some o→∀e∈o.after,Region.binds .any e=true→e.on<j)
  (htemps:∀i j x y,i<j→ss[i]?=some x→ss[j]?=some y→ybh x y=true→Rch ops i j)
  (hee:∀i j,i<j→j<ss.length→cl i=.eff→cl j=.eff→Rch ops i j)
  (hre:∀i j,i<j→j<ss.length→cl i=.rd→cl j=.eff→Rch ops i j∨re i (Hs (j+1)))
  (her:∀i j,i<j→j<ss.length→cl i=.eff→cl j=.rd→Rch ops i j∨re j (Hs i))
  (st:∀j s,ss[j]?=some s→StepR P n ops j s (Fs j) (Fs (j+1)) (Hs j) (Hs (j+1)) (vs j) (cl j) (re j)) {κ0:K} {ro:Option Nat} {Q:Exit→Act→World→Prop}
  (hQ:∀κ' a' S fuel,κ0.Le κ'→At κ' (Fs ss.length) (Hs ss.length) n ro a'→S.size=ops.size→(∀j,S.getD j false=true↔j<ss.length)→unl S ops.size≤fuel→wpAnyIn (FF ro) 0 P .any ops Q fuel S a' κ'.w):
  ∀(fuel:Nat) (S:Array Bool) (κ:K) (a:Act),κ0.Le κ→Inv P n ops ss Fs Hs vs cl S κ ro a→unl S ops.size≤fuel→wpAnyIn (FF ro) 0 P .any ops Q fuel S a κ.w:=by
 have behind:∀{S:Array Bool},(∀j,S.getD j false=true→∀i,Rch ops i j→S.getD i false=true)→∀{j},j∈Region.ready .any ops S→∀i,Rch ops i j→S.getD i false=true:=fun {S} down {j} hj i hr=>by
  obtain ⟨_,o,ho,hp⟩:=mem_ready.1 hj
  have gen:∀{i j'},Rch ops i j'→j'=j→S.getD i false=true:=fun {i j'} h=>by
   induction h with
   | edge j'' o' e ho' he hb=>
    intro e';subst e'
    rw [ho] at ho';injection ho' with ho';subst ho'
    exact hp e he hb
   | step i k j'' h1 h2 ih1 ih2=>intro e';exact down k (ih2 e') i h1
  exact gen hr rfl
 have all:∀{S:Array Bool},S.size=ops.size→Region.ready .any ops S=[]→∀j,j<ops.size→S.getD j false=true:=fun {S} hS hr j=>by
  induction j using Nat.strongRecOn with
  | _ j ih=>
   intro hj
   cases hc:S.getD j false with
   | true=>rfl
   | false=>
    exfalso
    have hjo:j<ops.size:=hj
    have:j∈Region.ready .any ops S:=mem_ready.2 ⟨by
      have hjs:j<S.size:=by omega
      simp [kH,hjs] at hc ⊢
      exact hc,ops[j],Array.getElem?_eq_getElem hjo,fun e he hb=>by
     have:=hback j _ (Array.getElem?_eq_getElem hjo) e he hb
     exact ih _ this (by omega)⟩
    rw [hr] at this;cases this
 have finish:∀{S κ a fuel},κ0.Le κ→Inv P n ops ss Fs Hs vs cl S κ ro a→(∀j,j<ss.length→S.getD j false=true)→unl S ops.size≤fuel→wpAnyIn (FF ro) 0 P .any ops Q fuel S a κ.w:=fun {S κ a fuel} le I hall hf=>by
  obtain ⟨F2,H2,A,hF,hH⟩:=I.ex
  have hlt:∀{i s},ss[i]?=some s→i<ss.length:=fun {i s} h=>(List.getElem?_eq_some_iff.1 h).1
  have e1:∀t,y6o F2 t=y6o (Fs ss.length) t:=fun t=>(hF t).eq (ymr st t _ (kG _)) fun i s h1 _=>⟨fun _=>hlt h1,fun h=>hall i h⟩
  have e2:H2=Hs ss.length:=hH.eq (ygg st _ (kG _)) fun i h1 _=>⟨fun _=>h1,fun h=>hall i h⟩
  subst e2
  refine hQ κ a S fuel le (A.on (.refl _) A.S fun t=>by rw [←e1 t];exact A.r t) I.size (fun j=>⟨fun h=>?_,hall j⟩) hf
  rcases Nat.lt_or_ge j ss.length with q | q
  ·exact q
  ·rw [I.late j q] at h;cases h
 have nready:∀{S κ a},Inv P n ops ss Fs Hs vs cl S κ ro a→¬(∀j,j<ss.length→S.getD j false=true)→Region.ready .any ops S≠[]:=fun {S κ a} I h hr=>h fun j hj=>all I.size hr j (by omega)
 intro fuel
 induction fuel with
 | zero=>
  intro S κ a le I hf
  by_cases hall:∀j,j<ss.length→S.getD j false=true
  ·exact finish le I hall hf
  exfalso
  obtain ⟨j,hj⟩:=List.exists_mem_of_ne_nil _ (nready I hall)
  obtain ⟨h1,o,ho,_⟩:=mem_ready.1 hj
  have hjl:j<ops.size:=(Array.getElem?_eq_some_iff.1 ho).1
  have hpos:0<unl S ops.size:=List.countP_pos_iff.2 ⟨j,by simpa using hjl,by
   have hjs:j<S.size:=by rw [I.size];exact hjl
   simp [kH,hjs] at h1 ⊢
   exact h1⟩
  omega
 | succ fuel ih=>
  intro S κ a le I hf
  by_cases hall:∀j,j<ss.length→S.getD j false=true
  ·exact finish le I hall hf
  refine ⟨fun hr=>absurd hr (nready I hall),fun j hj=>?_⟩
  obtain ⟨h1,o,ho,_⟩:=mem_ready.1 hj
  have hjo:j<ops.size:=(Array.getElem?_eq_some_iff.1 ho).1
  have hjl:j<ss.length:=by
   rcases Nat.lt_or_ge j ss.length with q | q
   ·exact q
   ·exact absurd (fun i hi=>behind I.down hj i (hlate i j hi q hjo)) hall
  have hjs:j<S.size:=by rw [I.size];exact hjo
  have hSj:S.getD j false=false:=by
   simp [kH,hjs] at h1 ⊢
   exact h1
  have hs:ss[j]?=some ss[j]:=kC hjl
  have hst:=st j _ hs
  obtain ⟨F2,H2,A,hF,hH⟩:=I.ex
  have bh:=behind I.down hj
  have told:∀{i s},ss[i]?=some s→i≠j→(ybh s ss[j]=true∧i<j∨ybh ss[j] s=true∧j<i)→(S.getD i false=true↔i<j):=fun {i s} hi hne hc=>by
   rcases hc with ⟨hc,hlt⟩ | ⟨hc,hlt⟩
   ·exact ⟨fun _=>hlt,fun _=>bh i (htemps i j s _ hlt hi hs hc)⟩
   ·refine ⟨fun h=>?_,fun h=>by omega⟩
    have:=I.down i h j (htemps j i _ s hlt hs hi hc)
    rw [hSj] at this;cases this
  have ag:y4c (otS ss[j]) F2 (Fs j):=fun t ht=>(hF t).eq (ymr st t j (by omega)) fun i s h2 h3=>by
   by_cases hij:i=j
   ·subst hij
    exact ⟨fun h=>(by rw [hSj] at h;cases h),fun h=>by omega⟩
   ·refine told h2 hij ?_
    rcases Nat.lt_or_gt_of_ne hij with hlt | hgt
    ·exact .inl ⟨by simp [ybh,h3,ht],hlt⟩
    ·exact .inr ⟨by simp [ybh,h3,ht],hgt⟩
  have notS:∀i,S.getD i false=true→¬Rch ops j i:=fun i h hr=>by
   have:=I.down i h j hr
   rw [hSj] at this;cases this
  have hHe:cl j=.eff→H2=Hs j:=fun hc=>hH.eq (ygg st j (by omega)) fun i h2 h3=>by
   by_cases hij:i=j
   ·subst hij
    exact ⟨fun h=>(by rw [hSj] at h;cases h),fun h=>by omega⟩
   ·rcases Nat.lt_or_gt_of_ne hij with hlt | hgt
    ·exact ⟨fun _=>hlt,fun _=>bh i (hee i j hlt hjl h3 hc)⟩
    ·exact ⟨fun h=>absurd (hee j i hgt h2 hc h3) (notS i h),fun h=>by omega⟩
  have hHr:cl j=.rd→re j H2:=fun hc=>by
   have seg:∀i i',i<ss.length→i'<ss.length→cl i=.eff→cl i'=.eff→S.getD i false=true→S.getD i' false=false→i<i':=fun i i' l1 l2 c1 c2 h1 h2=>by
    rcases Nat.lt_or_ge i i' with q | q
    ·exact q
    ·exfalso
     rcases Nat.lt_or_ge i' i with q2 | q2
     ·have:=I.down i h1 i' (hee i' i q2 l1 c2 c1)
      rw [h2] at this;cases this
     ·have:i=i':=by omega
      subst this;rw [h1] at h2;cases h2
   by_cases hmiss:∃i,i<j∧cl i=.eff∧S.getD i false=false
   ·
    obtain ⟨i1,h1,h2,h3,hmin⟩:∃i1,i1<j∧cl i1=.eff∧S.getD i1 false=false∧∀i,i<i1→cl i=.eff→S.getD i false=true:=by
     have wf:∀m,(∃i,i<m∧cl i=.eff∧S.getD i false=false)→∃i1,i1<m∧cl i1=.eff∧S.getD i1 false=false∧∀i,i<i1→cl i=.eff→S.getD i false=true:=fun m=>by
      induction m with
      | zero=>rintro ⟨i,h,_⟩;omega
      | succ m ihm=>
       rintro ⟨i,h,hc1,hc2⟩
       by_cases hm:∃i,i<m∧cl i=.eff∧S.getD i false=false
       ·obtain ⟨i1,q1,q2,q3,q4⟩:=ihm hm
        exact ⟨i1,by omega,q2,q3,q4⟩
       ·refine ⟨i,h,hc1,hc2,fun i' hi' hci'=>?_⟩
        cases hS':S.getD i' false with
        | true=>rfl
        | false=>exact absurd ⟨i',by omega,hci',hS'⟩ hm
     obtain ⟨i1,q1,q2,q3,q4⟩:=wf j hmiss
     exact ⟨i1,q1,q2,q3,q4⟩
    have e:H2=Hs i1:=hH.eq (ygg st i1 (by omega)) fun i g1 g2=>by
     constructor
     ·intro hS;exact seg i i1 g1 (by omega) g2 h2 hS h3
     ·intro hlt;exact hmin i hlt g2
    rcases her i1 j h1 hjl h2 hc with hr | hr
    ·have:=bh i1 hr
     rw [h3] at this;cases this
    ·rw [e];exact hr
   ·have hall:∀i,i<j→cl i=.eff→S.getD i false=true:=fun i h1 h2=>by
     cases hS':S.getD i false with
     | true=>rfl
     | false=>exact absurd ⟨i,h1,h2,hS'⟩ hmiss
    by_cases hlate:∃i,j<i∧i<ss.length∧cl i=.eff∧S.getD i false=true
    ·obtain ⟨i,q1,q2,q3,q4⟩:=hlate
     rcases hH with ⟨i0,a1,a2,a3,a4,a5⟩ | ⟨a1,a2⟩
     ·have:i≤i0:=a5 i q4 q2 q3
      rcases hre j i0 (by omega) a2 hc a3 with hr | hr
      ·exact absurd hr (notS i0 a1)
      ·rw [a4];exact hr
     ·exact absurd q3 (a1 i q4 q2)
    ·have e:H2=Hs j:=hH.eq (ygg st j (by omega)) fun i g1 g2=>by
      constructor
      ·intro hS
       rcases Nat.lt_or_ge i j with q | q
       ·exact q
       ·exfalso
        by_cases hij:i=j
        ·subst hij;rw [hSj] at hS;cases hS
        ·exact hlate ⟨i,by omega,g1,g2,hS⟩
      ·intro hlt;exact hall i hlt g2
     rw [e];exact hst.here hc
  refine hst.run ro κ a F2 H2 A ag hHe hHr _ Q fun κ' cv le' S' rv=>?_
  have set_get:∀i,(S.setIfInBounds j true).getD i false=true↔(S.getD i false=true∨i=j):=fun i=>by
   by_cases hij:i=j
   ·subst hij;simp [kH,hjs]
   ·rw [getD_set_ne false (Ne.symm hij)];simp [hij]
  refine ih _ κ' _ (le.trans le') ⟨by simpa using I.size,fun k hk=>by rw [getD_set_ne false (show j≠k by omega)];exact I.late k hk,fun k hk i hr=>?_,_,_,A.put le' S' hst.dok rv,fun t=>?_,?_⟩ ?_
  ·rw [set_get] at hk ⊢
   rcases hk with hk | rfl
   ·exact .inl (I.down k hk i hr)
   ·exact .inl (bh i hr)
  ·rw [ydd]
   by_cases hd:(ss[j]).dst=some t
   ·rw [if_pos hd]
    refine .inl ⟨j,_,(set_get j).2 (.inr rfl),hs,hd,rfl,fun i' s' h2 h3 h4=>?_⟩
    rcases (set_get i').1 h2 with h5 | h5
    ·by_cases hij:i'=j
     ·omega
     ·rcases Nat.lt_or_gt_of_ne hij with hlt | hgt
      ·omega
      ·have:=(told h3 hij (.inr ⟨by simp [ybh,hd,h4],hgt⟩)).1 h5
       omega
    ·omega
   ·rw [if_neg hd]
    have no:∀i s,ss[i]?=some s→s.dst=some t→((S.setIfInBounds j true).getD i false=true↔S.getD i false=true):=fun i s h2 h3=>by
     rw [set_get]
     refine ⟨fun h=>h.resolve_right fun e=>?_,.inl⟩
     subst e
     rw [hs] at h2;injection h2 with h2;subst h2
     exact hd h3
    rcases hF t with ⟨i,s,a1,a2,a3,a4,a5⟩ | ⟨a1,a2⟩
    ·exact .inl ⟨i,s,(no i s a2 a3).2 a1,a2,a3,a4,fun i' s' q1 q2 q3=>a5 i' s' ((no i' s' q2 q3).1 q1) q2 q3⟩
    ·exact .inr ⟨fun i s q1 q2 q3=>a1 i s ((no i s q2 q3).1 q1) q2 q3,a2⟩
  ·by_cases hc:cl j=.eff
   ·rw [if_pos hc]
    refine .inl ⟨j,(set_get j).2 (.inr rfl),hjl,hc,rfl,fun i' h2 h3 h4=>?_⟩
    rcases (set_get i').1 h2 with h5 | h5
    ·by_cases hij:i'=j
     ·omega
     ·rcases Nat.lt_or_gt_of_ne hij with hlt | hgt
      ·omega
      ·exact absurd (hee j i' hgt h3 hc h4) (notS i' h5)
    ·omega
   ·rw [if_neg hc]
    have no:∀i,cl i=.eff→((S.setIfInBounds j true).getD i false=true↔S.getD i false=true):=fun i h2=>by
     rw [set_get]
     refine ⟨fun h=>h.resolve_right fun e=>?_,.inl⟩
     subst e;exact hc h2
    rcases hH with ⟨i,a1,a2,a3,a4,a5⟩ | ⟨a1,a2⟩
    ·exact .inl ⟨i,(no i a3).2 a1,a2,a3,a4,fun i' q1 q2 q3=>a5 i' ((no i' q3).1 q1) q2 q3⟩
    ·exact .inr ⟨fun i q1 q2 q3=>a1 i ((no i q3).1 q1) q2 q3,a2⟩
  ·have:unl (S.setIfInBounds j true) ops.size<unl S ops.size:=by
    refine ye2 _ (fun x _ hx=>?_) ⟨j,by simpa using hjo,by rw [hSj];rfl,?_⟩
    ·cases h:S.getD x false with
     | false=>rfl
     | true=>
      have:=(set_get x).2 (.inl h)
      rw [this] at hx;exact hx
    ·rw [(set_get j).2 (.inr rfl)];rfl
   omega
end
def bef (bs:List Nat) (j:Nat) (l:List PendE):List PendE:=l.filter fun p=>y3g bs p.i j
def aft (bs:List Nat) (j:Nat) (l:List PendE):List PendE:=l.filter fun p=>!y3g bs p.i j
structure LogA where
 i:Nat
 c:Cls
 C0:Hp
 C1:Hp
 p0:List PendE
 p1:List PendE
 re:Hp→Prop
def ybs (bs:List Nat) (als:List PendE) (x y:LogA):Prop:=
 y3g bs x.i y.i=true∨match x.c,y.c with
  | .eff,.eff=>False
  | .rd,.eff=>x.re (y3s y.C1 (bef bs x.i y.p1))
  | .eff,.rd=>y.re (y3s x.C0 (bef bs y.i (x.p0++als.filter fun p=>decide (x.i<p.i))))
  | _,_=>True
def yax (bs:List Nat) (als:List PendE):List LogA→LogA→Prop
 | [],_=>True
 | x::l,y=>ybs bs als x y∧yax bs als l y
theorem yex {bs:List Nat} {als:List PendE} {y:LogA}:∀{l:List LogA},yax bs als l y→∀x∈l,ybs bs als x y
 | [],_,_,h=>by cases h
 | x::l,h,z,hz=>by
  rcases List.mem_cons.1 hz with rfl | hz
  ·exact h.1
  ·exact yex h.2 z hz
def nextA (bs:List Nat) (j:Nat) (c:Cls) (C H':Hp) (als pend:List PendE) (re:Hp→Prop) (log:List LogA) (k:List LogA→List PendE→Hp→Prop):Prop:=
 match c with
 | .pure=>k log pend C
 | .rd=>yax bs als log ⟨j,.rd,C,C,pend,pend,re⟩∧k (log++[⟨j,.rd,C,C,pend,pend,re⟩]) pend C
 | .eff=>yax bs als log ⟨j,.eff,C,H',pend,aft bs j pend,re⟩∧k (log++[⟨j,.eff,C,H',pend,aft bs j pend,re⟩]) (aft bs j pend) H'
def madeA (s:AStep) (F:Fr) (k:AlR→Prop):Prop:=match s.d with
 | .op o=>match alO o F with
  | some q=>k q
  | none=>False
 | _=>False
def yar (P:Program) (bs alx:List Nat) (N:Nat):Nat→List AStep→List LogA→List PendE→List PendE→(Fr→Hp→Prop)→Fr→Hp→Prop
 | _,[],_,als,pend,K,F,C=>als.length≤alx.length∧K F (y3s C pend)
 | j,s::r,log,als,pend,K,F,C=>
  let go:Prop:=if alx.contains j then madeA s F fun q=>yar P bs alx N (j+1) r log (als++[⟨j,N+als.length,q.cs,q.m⟩]) (pend++[⟨j,N+als.length,q.cs,q.m⟩]) K (put F s.dst (q.val (N+als.length))) C
   else goD P s (fun c v H' re=>nextA bs j c C H' als pend re log fun log' pend' C'=>yar P bs alx N (j+1) r log' als pend' K (put F s.dst v) C') F (y3s C (bef bs j pend))
  match s.g with
  | none=>go
  | some (t,b)=>match y6o F t with
   | .b x=>(x=b→go)∧(x≠b→yar P bs alx N (j+1) r log als pend K (put F s.dst (.tup [])) C)
   | .tup []=>yar P bs alx N (j+1) r log als pend K (put F s.dst (.tup [])) C
   | _=>False
structure StepB (P:Program) (n:Nat) (ops:Array Oper) (j:Nat) (s:AStep) (F F':Fr) (id:Nat) (q:AlR):Prop where
 ex:∃o,ops[j]?=some o∧o.dst=s.dst
 dok:yen n s.dst=true
 put:F'=Am.put F s.dst (q.val id)
 run:∀(ro:Option Nat) (κ:K) (a:Act) (F2:Fr) (H2:Hp),At κ F2 H2 n ro a→y4c (otS s) F2 F→κ.hole id→(∀e,¬κ.ok id e)→
  ∀(J:Act→World→Prop) (Q:Exit→Act→World→Prop),(∀κ2 cv,(∀κ0:K,κ0.Le κ→¬κ0.hole id→κ0.Le κ2)→(∀k,κ.hole k→k≠id→κ2.hole k)→(∀k e,k≠id→κ.hole k→κ2.ok k e→κ.ok k e)→
   Sim κ2 (H2.upd id (.cells q.cs q.m))→(∀v c,VR κ v c→VR κ2 v c)→VR κ2 (q.val id) cv→J (a.put s.dst cv) κ2.w)→wpOpIn (FF ro) 0 P ops Q j J a κ.w
theorem madeA_ok {P:Program} {n:Nat} {ops:Array Oper} {j:Nat} {o:Oper} {s:AStep} (ho:ops[j]?=some o) (hd:o.dst=s.dst) (hn:yen n s.dst=true) (hok:yhu P o.op s.d=true)
  {F:Fr} (hw:∀(κ:K) (a:Act) (F2:Fr),FR κ F2 a.tmps→y4c (otS s) F2 F→Region.wanted o (yielded ops a.tmps)=true) {k:AlR→Prop} (hg:madeA s F k) (id:Nat):
  ∃q,StepB P n ops j s F (put F s.dst (q.val id)) id q∧k q:=by
 obtain ⟨sd,sg,sdo⟩:=s
 cases sdo with
 | op p=>
  simp only [madeA] at hg
  split at hg
  ·rename_i q hq
   refine ⟨q,⟨⟨o,ho,hd⟩,hn,rfl,fun ro κ a F2 H2 A ag hh hno J Q hJ=>?_⟩,hg⟩
   have ag':y4c (ylt p) F2 F:=y4c.left (a:=ylt p) ag
   have hq2:alO p F2=some q:=by rw [ypt ag'];exact hq
   obtain ⟨κ',nx,cv,le,S',rv,run,hnx⟩:=yi9 hok F2 H2 _ _ (alO_step hq2 H2) κ a A.S A.r
   have hcs:=ypu hq2 (ok:=κ.ok) fun x _=>(A.r x).okv
   obtain ⟨κ2,e1,e2,e3,e4,e5,e6,e7,e8⟩:=fill A.S hh hno hcs le S'
   have rv2:VR κ2 (q.val id) cv:=by
    unfold AlR.val at rv ⊢
    split
    ·rename_i hsl;simp only [hsl] at rv;exact e7 _ _ _ rv
    ·rename_i n' sz hsl;simp only [hsl] at rv;exact e8 _ _ _ _ _ rv
   have:=hJ κ2 cv e2 e3 e4 e5 e6 rv2
   unfold wpOpIn
   simp only [ho]
   rw [if_pos (hw κ a F2 A.r ag)]
   refine yb3 (yfl hok) ?_
   rw [run,←e1]
   rcases hnx with rfl | ⟨rfl,rfl⟩
   ·simp only [Oper.uponIn_value];rw [hd];exact this
   ·simp only [Oper.uponIn_skip];rw [hd];exact this
  ·exact hg.elim
 | call=>exact hg.elim
 | callv=>exact hg.elim
 | nxt=>exact hg.elim
structure TxS where
 F:Fr
 C:Hp
 als:List PendE
 ps:List PendE
structure TxI where
 v:V
 cl:Option Cls
 re:Hp→Prop
 X:Hp
 q:AlR
def ybn (N j:Nat) (a:TxS) (i:TxI):PendE:=⟨j,N+a.als.length,i.q.cs,i.q.m⟩
def lgA (j:Nat) (a b:TxS) (i:TxI) (c:Cls):LogA:=⟨j,c,a.C,b.C,a.ps,b.ps,i.re⟩
def StA (P:Program) (n:Nat) (ops:Array Oper) (bs:List Nat) (N j:Nat) (s:AStep) (a b:TxS) (i:TxI):Prop:=
 match i.cl with
 | none=>StepB P n ops j s a.F b.F (N+a.als.length) i.q∧i.v=i.q.val (N+a.als.length)∧b.C=a.C∧b.als=a.als++[ybn N j a i]∧b.ps=a.ps++[ybn N j a i]
 | some c=>StepR P n ops j s a.F b.F (y3s a.C (bef bs j a.ps)) i.X i.v c i.re∧b.als=a.als∧(c=.eff→b.C=i.X∧b.ps=aft bs j a.ps)∧(c≠.eff→b.C=a.C∧b.ps=a.ps)
abbrev RunA (P:Program) (n:Nat) (ops:Array Oper) (bs alx:List Nat) (N k:Nat) (ss:List AStep) (log:List LogA) (als pend:List PendE) (F:Fr) (C:Hp) (J:Fr→Hp→Prop):Prop:=
  ∃(st:Nat→TxS) (inf:Nat→TxI),st k=⟨F,C,als,pend⟩∧
   (∀j s,ss[j]?=some s→StA P n ops bs N (k+j) s (st (k+j)) (st (k+j+1)) (inf (k+j)))∧
   (∀j c,j<ss.length→(inf (k+j)).cl=some c→c≠.pure→∀x∈log,ybs bs (st (k+j)).als x (lgA (k+j) (st (k+j)) (st (k+j+1)) (inf (k+j)) c))∧
   (∀i j c d,i<j→j<ss.length→(inf (k+i)).cl=some c→c≠.pure→(inf (k+j)).cl=some d→d≠.pure→
    ybs bs (st (k+j)).als (lgA (k+i) (st (k+i)) (st (k+i+1)) (inf (k+i)) c) (lgA (k+j) (st (k+j)) (st (k+j+1)) (inf (k+j)) d))∧
   (st (k+ss.length)).als.length≤alx.length∧J (st (k+ss.length)).F (y3s (st (k+ss.length)).C (st (k+ss.length)).ps)
theorem ykf {P:Program} {n:Nat} {ops:Array Oper} {bs alx:List Nat} {N:Nat}:∀{os:List Oper} {ss:List AStep} (k:Nat),y4f P n ops os ss=true→(∀j,os[j]?=ops[k+j]?)→
  ∀{log:List LogA} {als pend:List PendE} {J:Fr→Hp→Prop} {F:Fr} {C:Hp},yar P bs alx N k ss log als pend J F C→
  RunA P n ops bs alx N k ss log als pend F C J
 | [],[],k,_,_,log,als,pend,J,F,C,h=>⟨fun _=>⟨F,C,als,pend⟩,fun _=>⟨.junk,none,fun _=>True,C,⟨none,[],0⟩⟩,rfl,fun j s hj=>by simp at hj,fun j c hj=>by simp at hj,fun i j c d _ hj=>by simp at hj,by simpa [yar] using h⟩
 | o::os,s::ss,k,hok,hos,log,als,pend,J,F,C,h=>by
  simp only [y4f,ygv,kF,beq_iff_eq] at hok
  obtain ⟨⟨⟨⟨h1,h2⟩,h3⟩,h4⟩,h5⟩:=hok
  have h0:ops[k]?=some o:=by simpa using (hos 0).symm
  have cons:∀{b:TxS} {i:TxI} {log':List LogA},StA P n ops bs N k s ⟨F,C,als,pend⟩ b i→(∀x∈log,x∈log')→
    (∀c,i.cl=some c→c≠.pure→lgA k ⟨F,C,als,pend⟩ b i c∈log'∧yax bs als log (lgA k ⟨F,C,als,pend⟩ b i c))→yar P bs alx N (k+1) ss log' b.als b.ps J b.F b.C→
    RunA P n ops bs alx N k (s::ss) log als pend F C J:=fun {b i log'} hst hlog hself hr=>by
   obtain ⟨st,inf,e1,e3,e4,e5,e6⟩:=ykf (k+1) h5 (fun j=>by have:=hos (j+1);simpa [ki,Nat.add_comm 1 j] using this) hr
   have ne:∀j,k+(j+1)≠k:=fun j=>by omega
   have ne2:∀j,k+(j+1)+1≠k:=fun j=>by omega
   have sh:∀j,k+1+j=k+(j+1):=fun j=>by omega
   refine ⟨fun j=>if j=k then ⟨F,C,als,pend⟩ else st j,fun j=>if j=k then i else inf j,by simp,fun j t hj=>?_,fun j c hj hc hp x hx=>?_,fun i' j c d hij hj hci hcp hdj hdp=>?_,?_⟩
   ·cases j with
    | zero=>
     simp at hj;subst hj
     simp only [Nat.add_zero,if_true,show k+1≠k by omega,if_false,e1]
     exact hst
    | succ j=>
     have:=e3 j t (by simpa using hj)
     simp only [ne,ne2,if_false]
     simpa only [sh] using this
   ·cases j with
    | zero=>
     simp only [Nat.add_zero,if_true,show k+1≠k by omega,if_false,e1] at hc ⊢
     exact yex (hself c hc hp).2 x hx
    | succ j=>
     simp only [ne,ne2,if_false] at hc ⊢
     have:=e4 j c (by simpa using hj) (by rw [sh];exact hc) hp x (hlog x hx)
     simpa only [sh] using this
   ·cases j with
    | zero=>omega
    | succ j=>
     cases i' with
     | zero=>
      simp only [Nat.add_zero,if_true,show k+1≠k by omega,if_false,e1,ne,ne2] at hci hdj ⊢
      have:=e4 j d (by simpa using hj) (by rw [sh];exact hdj) hdp _ (hself c hci hcp).1
      simpa only [sh] using this
     | succ i'=>
      simp only [ne,ne2,if_false] at hci hdj ⊢
      have:=e5 i' j c d (by omega) (by simpa using hj) (by rw [sh];exact hci) hcp (by rw [sh];exact hdj) hdp
      simpa only [sh] using this
   ·simp only [kO,show k+(ss.length+1)≠k by omega,if_false]
    simpa only [sh] using e6
  have done:∀(hw:∀(κ:K) (a:Act) (F2:Fr),FR κ F2 a.tmps→y4c (otS s) F2 F→Region.wanted o (yielded ops a.tmps)=true),
    (if alx.contains k then madeA s F fun q=>yar P bs alx N (k+1) ss log (als++[⟨k,N+als.length,q.cs,q.m⟩]) (pend++[⟨k,N+als.length,q.cs,q.m⟩]) J (put F s.dst (q.val (N+als.length))) C
     else goD P s (fun c v H' re=>nextA bs k c C H' als pend re log fun log' pend' C'=>yar P bs alx N (k+1) ss log' als pend' J (put F s.dst v) C') F (y3s C (bef bs k pend)))→RunA P n ops bs alx N k (s::ss) log als pend F C J:=fun hw hg=>by
   split at hg
   ·obtain ⟨q,hb,hr⟩:=madeA_ok h0 h1 h2 h4 hw hg (N+als.length)
    exact cons (b:=⟨put F s.dst (q.val (N+als.length)),C,als++[⟨k,N+als.length,q.cs,q.m⟩],pend++[⟨k,N+als.length,q.cs,q.m⟩]⟩) (i:=⟨q.val (N+als.length),none,fun _=>True,C,q⟩) (log':=log)
     ⟨hb,rfl,rfl,rfl,rfl⟩ (fun _ h=>h) (fun c hc=>by cases hc) hr
   ·obtain ⟨c,v,H',r,hst,hr⟩:=yo6 h0 h1 h2 h4 hw hg
    cases c with
    | pure=>exact cons (b:=⟨put F s.dst v,C,als,pend⟩) (i:=⟨v,some .pure,r,H',⟨none,[],0⟩⟩) (log':=log) ⟨hst,rfl,(fun h=>by cases h),fun _=>⟨rfl,rfl⟩⟩ (fun _ h=>h) (fun c hc hp=>by injection hc with hc;exact absurd hc.symm hp) hr
    | rd=>exact cons (b:=⟨put F s.dst v,C,als,pend⟩) (i:=⟨v,some .rd,r,H',⟨none,[],0⟩⟩) ⟨hst,rfl,(fun h=>by cases h),fun _=>⟨rfl,rfl⟩⟩ (fun _ h=>by simp [h]) (fun c hc hp=>by injection hc with hc;subst hc;exact ⟨by simp [lgA],hr.1⟩) hr.2
    | eff=>exact cons (b:=⟨put F s.dst v,H',als,aft bs k pend⟩) (i:=⟨v,some .eff,r,H',⟨none,[],0⟩⟩) ⟨hst,rfl,fun _=>⟨rfl,rfl⟩,fun h=>absurd rfl h⟩ (fun _ h=>by simp [h]) (fun c hc hp=>by injection hc with hc;subst hc;exact ⟨by simp [lgA],hr.1⟩) hr.2
  have passed:∀(hw:∀(κ:K) (a:Act) (F2:Fr),FR κ F2 a.tmps→y4c (otS s) F2 F→Region.wanted o (yielded ops a.tmps)=false),
    yar P bs alx N (k+1) ss log als pend J (put F s.dst (.tup [])) C→RunA P n ops bs alx N k (s::ss) log als pend F C J:=fun hw hr=>
   cons (b:=⟨put F s.dst (.tup []),C,als,pend⟩) (i:=⟨.tup [],some .pure,fun _=>True,y3s C (bef bs k pend),⟨none,[],0⟩⟩) (log':=log) ⟨yhz h0 h1 h2 hw,rfl,(fun h=>by cases h),fun _=>⟨rfl,rfl⟩⟩ (fun _ h=>h) (fun c hc hp=>by injection hc with hc;exact absurd hc.symm hp) hr
  have wt:∀(κ:K) (a:Act) (F2:Fr),FR κ F2 a.tmps→(s.g=none∧Region.wanted o (yielded ops a.tmps)=true)∨∃t b,s.g=some (t,b)∧(∀x,y6o F2 t=.b x→Region.wanted o (yielded ops a.tmps)=decide (x=b))∧(y6o F2 t=.tup []→Region.wanted o (yielded ops a.tmps)=false):=fun κ a F2 r=>ybo r h3
  simp only [yar] at h
  split at h
  ·rename_i hgd
   exact done (fun κ a F2 r ag=>by
    rcases wt κ a F2 r with ⟨_,hw⟩ | ⟨t,b,e,_⟩
    ·exact hw
    ·rw [hgd] at e;cases e) h
  ·rename_i t b hgd
   have agt:∀{F2:Fr},y4c (otS s) F2 F→y6o F2 t=y6o F t:=fun {F2} ag=>ag t (by simp [otS,hgd])
   split at h
   ·rename_i x hx
    by_cases hxb:x=b
    ·exact done (fun κ a F2 r ag=>by
      rcases wt κ a F2 r with ⟨e,_⟩ | ⟨t',b',e,hw⟩
      ·rw [hgd] at e;cases e
      ·rw [hgd] at e;injection e with e;injection e with e1 e2;subst e1;subst e2
       rw [hw.1 x (by rw [agt ag];exact hx)];simp [hxb]) (h.1 hxb)
    ·exact passed (fun κ a F2 r ag=>by
      rcases wt κ a F2 r with ⟨e,_⟩ | ⟨t',b',e,hw⟩
      ·rw [hgd] at e;cases e
      ·rw [hgd] at e;injection e with e;injection e with e1 e2;subst e1;subst e2
       rw [hw.1 x (by rw [agt ag];exact hx)];simp [hxb]) (h.2 hxb)
   ·rename_i hx
    exact passed (fun κ a F2 r ag=>by
     rcases wt κ a F2 r with ⟨e,_⟩ | ⟨t',b',e,hw⟩
     ·rw [hgd] at e;cases e
     ·rw [hgd] at e;injection e with e;injection e with e1 e2;subst e1;subst e2
      exact hw.2 (by rw [agt ag];exact hx)) h
   ·exact h.elim
 | [],_::_,_,h,_,_,_,_,_,_,_,_=>by cases h
 | _::_,[],_,h,_,_,_,_,_,_,_,_=>by cases h
end Go.Proofs.YtikpijbeobeckaaGreatDoor.Am
