/- Part 13. -/
import Derived.Test.YtikpijbeobeckaaGreatDoorXGw12
set_option linter.unusedSimpArgs false
set_option linter.unusedVariables false
namespace Go.Proofs.YtikpijbeobeckaaGreatDoor.Am
open Go Go.RowKit
theorem Hp.ext' {A B:Hp} (h:∀k,A.get k=B.get k) (hn:A.next=B.next):A=B:=by
 cases A;cases B;simp only [Hp.mk.injEq];exact ⟨funext h,hn⟩
theorem yhb {l l':List PendE} (hd:l.Pairwise (fun a b=>a.id≠b.id)) (hd':l'.Pairwise (fun a b=>a.id≠b.id)) (C:Hp) (h:∀p,p∈l↔p∈l'):y3s C l=y3s C l':=by
 refine Hp.ext' (fun k=>?_) (by rw [y48,y48])
 rcases y3x (C:=C) hd k with ⟨p,hp,rfl,hg⟩ | ⟨hn,hg⟩
 ·rw [hg,y7u l' C hd' p ((h p).1 hp)]
 ·rw [hg,y7q l' C k fun p hp=>hn p ((h p).2 hp)]
section
variable {P:Program} {n:Nat} {ops:Array Oper} {bs:List Nat} {N:Nat} {ss:List AStep} {st:Nat→TxS} {inf:Nat→TxI}
theorem made_pw (hst:∀j s,ss[j]?=some s→StA P n ops bs N j s (st j) (st (j+1)) (inf j)) (h0:(st 0).als=[]) (j:Nat) (hj:j≤ss.length):(st j).als.Pairwise (fun a b=>a.id≠b.id):=by
 rw [List.pairwise_iff_getElem]
 intro i k hi hk hik
 have h1:=(y73 hst h0 j hj i _ (kC hi)).id
 have h2:=(y73 hst h0 j hj k _ (kC hk)).id
 omega
theorem yda (hst:∀j s,ss[j]?=some s→StA P n ops bs N j s (st j) (st (j+1)) (inf j)) (h0:(st 0).als=[]) (j:Nat) (hj:j≤ss.length) {p q:PendE} (hp:p∈(st j).als) (hq:q∈(st j).als) (h:p.id=q.id):p=q:=by
 obtain ⟨i,hi⟩:=List.mem_iff_getElem?.1 hp
 obtain ⟨k,hk⟩:=List.mem_iff_getElem?.1 hq
 have h1:=(y73 hst h0 j hj i _ hi).id
 have h2:=(y73 hst h0 j hj k _ hk).id
 have:i=k:=by omega
 subst this
 rw [hi] at hk;injection hk
structure InvA (P:Program) (n:Nat) (ops:Array Oper) (bs:List Nat) (ss:List AStep) (st:Nat→TxS) (inf:Nat→TxI) (S:Array Bool) (κ:K) (ro:Option Nat) (a:Act):Prop where
 size:S.size=ss.length
 down:∀j,S.getD j false=true→∀i,Rch ops i j→S.getD i false=true
 ex:∃F2 q,q≤ss.length∧(∀e,e<ss.length→y4p (inf e)=true→(S.getD e false=true↔e<q))∧
  At κ F2 (y3s (st q).C ((st ss.length).als.filter fun p=>S.getD p.i false&&!y86 inf bs q p.i)) n ro a∧(∀t,LW ss (fun j=>(inf j).v) (y6o (st 0).F t) t (fun i=>S.getD i false=true) (y6o F2 t))∧
  ∀p∈(st ss.length).als,S.getD p.i false=true→y86 inf bs q p.i=false→(st q).C.get p.id=none
 holes:∀p∈(st ss.length).als,S.getD p.i false=false→κ.hole p.id∧∀e,¬κ.ok p.id e
theorem yl5 (hN:ops.size=ss.length) (hback:∀j o,ops[j]?=some o→∀e∈o.after,Region.binds .any e=true→e.on<j)
  (htemps:∀i j x y,i<j→ss[i]?=some x→ss[j]?=some y→ybh x y=true→Rch ops i j) (rch:∀i j,y3g bs i j=true→Rch ops i j) (hbf:∀i j,y3g bs i j=true→i<j)
  (hst:∀j s,ss[j]?=some s→StA P n ops bs N j s (st j) (st (j+1)) (inf j)) (h0:(st 0).als=[]) (h1:(st 0).ps=[])
  (hpair:∀i j c d,i<j→j<ss.length→(inf i).cl=some c→c≠.pure→(inf j).cl=some d→d≠.pure→
   ybs bs (st j).als (lgA i (st i) (st (i+1)) (inf i) c) (lgA j (st j) (st (j+1)) (inf j) d)) {κ0:K} (hκ0:∀id,κ0.hole id→id<N) {ro:Option Nat} {Q:Exit→Act→World→Prop}
  (hQ:∀κ' a',κ0.Le κ'→At κ' (st ss.length).F (y3s (st ss.length).C (st ss.length).ps) n ro a'→Q .normal a' κ'.w):
  ∀(fuel:Nat) (S:Array Bool) (κ:K) (a:Act),κ0.Le κ→InvA P n ops bs ss st inf S κ ro a→unl S ss.length≤fuel→wpAnyIn (FF ro) 0 P .any ops Q fuel S a κ.w:=by
 have behind:∀{S:Array Bool},(∀j,S.getD j false=true→∀i,Rch ops i j→S.getD i false=true)→∀{j},j∈Region.ready .any ops S→∀i,Rch ops i j→S.getD i false=true:=fun {S} down {j} hj i hr=>by
  obtain ⟨_,o,ho,hp⟩:=mem_ready.1 hj
  have gen:∀{i j'},Rch ops i j'→j'=j→S.getD i false=true:=fun {i j'} h=>by
   induction h with
   | edge j'' o' e ho' he hb=>
    intro e';subst e'
    rw [ho] at ho';injection ho' with ho';subst ho'
    exact hp e he hb
   | step i k j'' h1 h2 ih1 ih2=>intro e';exact down k (ih2 e') i h1
  exact gen hr rfl
 have all:∀{S:Array Bool},S.size=ss.length→Region.ready .any ops S=[]→∀j,j<ss.length→S.getD j false=true:=fun {S} hS hr j=>by
  induction j using Nat.strongRecOn with
  | _ j ih=>
   intro hj
   cases hc:S.getD j false with
   | true=>rfl
   | false=>
    exfalso
    have hjo:j<ops.size:=by omega
    have:j∈Region.ready .any ops S:=mem_ready.2 ⟨by
      have hjs:j<S.size:=by omega
      simp [kH,hjs] at hc ⊢
      exact hc,ops[j],Array.getElem?_eq_getElem hjo,fun e he hb=>by
     have:=hback j _ (Array.getElem?_eq_getElem hjo) e he hb
     exact ih _ this (by omega)⟩
    rw [hr] at this;cases this
 have hput:∀j s,ss[j]?=some s→(st (j+1)).F=Am.put (st j).F s.dst (inf j).v:=fun j s hs=>by
  have:=hst j s hs
  unfold StA at this
  split at this
  ·rw [this.1.put,this.2.1]
  ·exact this.1.put
 have tF:=fun t j hj=>ymq (Fs:=fun j=>(st j).F) (vs:=fun j=>(inf j).v) hput t j hj
 have hpw:=made_pw hst h0 ss.length (kG _)
 have hmi:∀p∈(st ss.length).als,p.i<ss.length∧(inf p.i).cl=none:=fun p hp=>by
  obtain ⟨i,hi⟩:=List.mem_iff_getElem?.1 hp
  have:=y73 hst h0 ss.length (kG _) i p hi
  exact ⟨this.lt,this.cl⟩
 have hals:∀j,j≤ss.length→(st j).als=(st ss.length).als.filter fun p=>decide (p.i<j):=fun j hj=>by
  have:=yf5 hst h0 j (ss.length-j) (by omega)
  rwa [show j+(ss.length-j)=ss.length by omega] at this
 have hps:∀j,j≤ss.length→(st j).ps=(st ss.length).als.filter fun p=>decide (p.i<j)&&!y86 inf bs j p.i:=fun j hj=>by
  rw [ygr hst h0 h1 hbf j hj,hals j hj,List.filter_filter]
  apply List.filter_congr
  intro p _
  rw [Bool.and_comm]
 have hbef:∀j q,j≤ss.length→q≤ss.length→j≤q→bef bs j (st q).ps=(st ss.length).als.filter fun p=>y3g bs p.i j&&!y86 inf bs q p.i:=fun j q hj hq hjq=>by
  rw [hps q hq,bef,List.filter_filter]
  apply List.filter_congr
  intro p _
  cases hb:y3g bs p.i j with
  | false=>simp
  | true=>have:=hbf _ _ hb;simp [show p.i<q by omega]
 have finish:∀{S κ a},κ0.Le κ→InvA P n ops bs ss st inf S κ ro a→Region.ready .any ops S=[]→Q .normal a κ.w:=fun {S κ a} le I hr=>by
  obtain ⟨F2,q,hq,hchain,A,hF,hpd⟩:=I.ex
  have hall:=all I.size hr
  have hlt:∀{i s},ss[i]?=some s→i<ss.length:=fun {i s} h=>(List.getElem?_eq_some_iff.1 h).1
  have e1:∀t,y6o F2 t=y6o (st ss.length).F t:=fun t=>(hF t).eq (tF t _ (kG _)) fun i s h1 _=>⟨fun _=>hlt h1,fun h=>hall i h⟩
  obtain ⟨c1,c2⟩:=y96 hst hq (kG ss.length) fun e h1 h2=>⟨fun _=>h1,fun _=>(hchain e h1 h2).1 (hall e h1)⟩
  have e2:y3s (st q).C ((st ss.length).als.filter fun p=>S.getD p.i false&&!y86 inf bs q p.i)=y3s (st ss.length).C (st ss.length).ps:=by
   rw [c1,hps ss.length (kG _)]
   congr 1
   apply List.filter_congr
   intro p hp
   rw [c2,hall p.i (hmi p hp).1,show decide (p.i<ss.length)=true from decide_eq_true (hmi p hp).1]
  rw [e2] at A
  exact hQ κ a le (A.on (.refl _) A.S fun t=>by rw [←e1 t];exact A.r t)
 intro fuel
 induction fuel with
 | zero=>
  intro S κ a le I hf
  have hr:Region.ready .any ops S=[]:=by
   rw [List.eq_nil_iff_forall_not_mem]
   intro j hj
   obtain ⟨h1,o,ho,_⟩:=mem_ready.1 hj
   have hjl:j<ss.length:=by rw [←hN];exact (Array.getElem?_eq_some_iff.1 ho).1
   have hpos:0<unl S ss.length:=List.countP_pos_iff.2 ⟨j,by simpa using hjl,by
    have hjs:j<S.size:=by rw [I.size];exact hjl
    simp [kH,hjs] at h1 ⊢
    exact h1⟩
   omega
  exact ⟨hr,finish le I hr⟩
 | succ fuel ih=>
  intro S κ a le I hf
  refine ⟨fun hr=>finish le I hr,fun j hj=>?_⟩
  obtain ⟨hh1,o,ho,_⟩:=mem_ready.1 hj
  have hjo:j<ops.size:=(Array.getElem?_eq_some_iff.1 ho).1
  have hjl:j<ss.length:=by omega
  have hjs:j<S.size:=by rw [I.size];exact hjl
  have hSj:S.getD j false=false:=by
   simp [kH,hjs] at hh1 ⊢
   exact hh1
  have hs:ss[j]?=some ss[j]:=kC hjl
  have hsj:=hst j _ hs
  obtain ⟨F2,q,hq,hchain,A,hF,hpd⟩:=I.ex
  have bh:=behind I.down hj
  have told:∀{i s},ss[i]?=some s→i≠j→(ybh s ss[j]=true∧i<j∨ybh ss[j] s=true∧j<i)→(S.getD i false=true↔i<j):=fun {i s} hi hne hc=>by
   rcases hc with ⟨hc,hlt⟩ | ⟨hc,hlt⟩
   ·exact ⟨fun _=>hlt,fun _=>bh i (htemps i j s _ hlt hi hs hc)⟩
   ·refine ⟨fun h=>?_,fun h=>by omega⟩
    have:=I.down i h j (htemps j i _ s hlt hs hi hc)
    rw [hSj] at this;cases this
  have ag:y4c (otS ss[j]) F2 (st j).F:=fun t ht=>(hF t).eq (tF t j (by omega)) fun i s h2 h3=>by
   by_cases hij:i=j
   ·subst hij
    exact ⟨fun h=>(by rw [hSj] at h;cases h),fun h=>by omega⟩
   ·refine told h2 hij ?_
    rcases Nat.lt_or_gt_of_ne hij with hlt | hgt
    ·exact .inl ⟨by simp [ybh,h3,ht],hlt⟩
    ·exact .inr ⟨by simp [ybh,h3,ht],hgt⟩
  have notS:∀i,S.getD i false=true→¬Rch ops j i:=fun i h hr=>by
   have:=I.down i h j hr
   rw [hSj] at this;cases this
  have set_get:∀i,(S.setIfInBounds j true).getD i false=true↔(S.getD i false=true∨i=j):=fun i=>by
   by_cases hij:i=j
   ·subst hij;simp [kH,hjs]
   ·rw [getD_set_ne false (Ne.symm hij)];simp [hij]
  have set_ne:∀i,i≠j→(S.setIfInBounds j true).getD i false=S.getD i false:=fun i h=>getD_set_ne false (Ne.symm h)
  have set_j:(S.setIfInBounds j true).getD j false=true:=(set_get j).2 (.inr rfl)
  have hless:unl (S.setIfInBounds j true) ss.length<unl S ss.length:=by
   refine ye2 _ (fun x _ hx=>?_) ⟨j,by simpa using hjl,by rw [hSj];rfl,?_⟩
   ·cases h:S.getD x false with
    | false=>rfl
    | true=>
     have:=(set_get x).2 (.inl h)
     rw [this] at hx;exact hx
   ·rw [set_j];rfl
  have hdown:∀k,(S.setIfInBounds j true).getD k false=true→∀i,Rch ops i k→(S.setIfInBounds j true).getD i false=true:=fun k hk i hr=>by
   rw [set_get] at hk ⊢
   rcases hk with hk | rfl
   ·exact .inl (I.down k hk i hr)
   ·exact .inl (bh i hr)
  have hFnew:∀t,LW ss (fun j=>(inf j).v) (y6o (st 0).F t) t (fun i=>(S.setIfInBounds j true).getD i false=true) (y6o (Am.put F2 (ss[j]).dst (inf j).v) t):=fun t=>by
   rw [ydd]
   by_cases hd:(ss[j]).dst=some t
   ·rw [if_pos hd]
    refine .inl ⟨j,_,set_j,hs,hd,rfl,fun i' s' h2 h3 h4=>?_⟩
    rcases (set_get i').1 h2 with h5 | h5
    ·by_cases hij:i'=j
     ·omega
     ·rcases Nat.lt_or_gt_of_ne hij with hlt | hgt
      ·omega
      ·have:=(told h3 hij (.inr ⟨by simp [ybh,hd,h4],hgt⟩)).1 h5
       omega
    ·omega
   ·rw [if_neg hd]
    have no:∀i s,ss[i]?=some s→s.dst=some t→((S.setIfInBounds j true).getD i false=true↔S.getD i false=true):=fun i s h2 h3=>by
     rw [set_get]
     refine ⟨fun h=>h.resolve_right fun e=>?_,.inl⟩
     subst e
     rw [hs] at h2;injection h2 with h2;subst h2
     exact hd h3
    rcases hF t with ⟨i,s,a1,a2,a3,a4,a5⟩ | ⟨a1,a2⟩
    ·exact .inl ⟨i,s,(no i s a2 a3).2 a1,a2,a3,a4,fun i' s' q1 q2 q3=>a5 i' s' ((no i' s' q2 q3).1 q1) q2 q3⟩
    ·exact .inr ⟨fun i s q1 q2 q3=>a1 i s ((no i s q2 q3).1 q1) q2 q3,a2⟩
  have alj:∀p∈(st ss.length).als,(inf j).cl≠none→p.i≠j:=fun p hp hc e=>hc (e▸(hmi p hp).2)
  unfold StA at hsj
  cases hcl:(inf j).cl with
  | none=>
   simp only [hcl] at hsj
   obtain ⟨hB,hv,hC,hA,hP⟩:=hsj
   have hmem:ybn N j (st j) (inf j)∈(st ss.length).als:=by
    have h2:ybn N j (st j) (inf j)∈(st (j+1)).als:=by rw [hA];simp
    rw [hals (j+1) (by omega)] at h2
    exact (List.mem_filter.1 h2).1
   have hid:(ybn N j (st j) (inf j)).id=N+(st j).als.length:=rfl
   obtain ⟨hh,hno⟩:=I.holes _ hmem (by simpa [ybn] using hSj)
   rw [hid] at hh hno
   have hnabs:y86 inf bs q j=false:=by
    unfold y86
    rw [List.any_eq_false]
    intro e he
    simp only [kF,not_and,Bool.not_eq_true]
    intro h2
    cases hb:y3g bs j e with
    | false=>rfl
    | true=>
     have he':e<q:=by simpa using he
     have:=(hchain e (by omega) h2).2 he'
     exact absurd (rch _ _ hb) (notS e this)
   refine hB.run ro κ a F2 _ A ag hh hno _ Q fun κ2 cv f1 f2 f3 S2 f4 rv=>?_
   have le2:κ0.Le κ2:=f1 κ0 le fun h=>by have:=hκ0 _ h;omega
   refine ih _ κ2 _ le2 ⟨by simpa using I.size,hdown,⟨_,q,hq,fun e h2 h3=>?_,?_,hFnew,fun p hp hSp hab=>?_⟩,fun p hp hSp=>?_⟩ (by omega)
   ·rw [set_ne e (by rintro rfl;simp [y4p,hcl] at h3)];exact hchain e h2 h3
   ·have hS2:y3s (st q).C ((st ss.length).als.filter fun p=>(S.setIfInBounds j true).getD p.i false&&!y86 inf bs q p.i) =
      (y3s (st q).C ((st ss.length).als.filter fun p=>S.getD p.i false&&!y86 inf bs q p.i)).upd (N+(st j).als.length) (.cells (inf j).q.cs (inf j).q.m):=by
     refine Hp.ext' (fun k=>?_) (by simp [y48])
     simp only [Hp.get_upd]
     have hmem':ybn N j (st j) (inf j)∈(st ss.length).als.filter fun p=>(S.setIfInBounds j true).getD p.i false&&!y86 inf bs q p.i:=List.mem_filter.2 ⟨hmem,by simp [ybn,set_j,hnabs]⟩
     by_cases hk:k=N+(st j).als.length
     ·subst hk
      rw [if_pos rfl]
      exact y7u _ _ (hpw.filter _) _ hmem'
     ·rw [if_neg hk]
      rcases y3x (C:=(st q).C) (hpw.filter fun p=>S.getD p.i false&&!y86 inf bs q p.i) k with ⟨p,hp,rfl,hg⟩ | ⟨hn,hg⟩
      ·rw [hg]
       rw [ke] at hp
       refine y7u _ _ (hpw.filter _) p (List.mem_filter.2 ⟨hp.1,?_⟩)
       have hpj:p.i≠j:=fun e=>by
        have:=hp.2;rw [e,hSj] at this;simp at this
       rw [set_ne _ hpj];exact hp.2
      ·rw [hg]
       refine y7q _ _ _ fun p hp e=>?_
       rw [ke] at hp
       by_cases hpj:p.i=j
       ·
        obtain ⟨i1,hi1⟩:=List.mem_iff_getElem?.1 hp.1
        have hm1:=(y73 hst h0 ss.length (kG _) i1 p hi1).eq
        rw [hpj] at hm1
        rw [hm1] at e
        exact hk e.symm
       ·have:=hp.2
        rw [set_ne _ hpj] at this
        exact hn p (List.mem_filter.2 ⟨hp.1,this⟩) e
    rw [hS2]
    let κ1:K:={ κ with hole:=fun k=>κ.hole k∧k≠N+(st j).als.length }
    have l1:κ1.Le κ:=⟨fun _ _ h=>⟨h,rfl⟩,fun _ h=>⟨h,rfl⟩,fun _ h=>⟨h,rfl⟩,fun _ h=>.inl h,fun _ _ h=>h,kG _,rfl,rfl,rfl,fun _ h=>⟨h.1,fun _ o=>o⟩,rfl,fun _ r h=>⟨r,h⟩⟩
    have l2:κ1.Le κ2:=f1 κ1 l1 fun h=>h.2 rfl
    have m1:Marks κ1 a.defers:=⟨A.defers.ex⟩
    have ro1:roOk κ1 ro:=A.ro
    have b1:κ1.base≤κ1.w.heap.size:=A.base
    refine ⟨S2,?_,?_,(by cases (ss[j]).dst <;> exact m1.mono l2),ro1.mono l2,(by rw [l2.base];exact kV b1 l2.size)⟩
    ·intro t
     have hd:=hB.dok
     rw [hv]
     cases hdst:(ss[j]).dst with
     | none=>simp only [Am.put,Act.put];exact f4 _ _ (A.r t)
     | some d=>
      rw [hdst] at hd
      simp only [yen,decide_eq_true_eq] at hd
      have hsz:=A.size
      exact FR.set (F:=F2) (fun t=>f4 _ _ (A.r t)) (by omega) rv t
    ·have:=A.size
     cases (ss[j]).dst <;> simpa [Act.put] using this
   ·by_cases hpj:p.i=j
    ·obtain ⟨i1,hi1⟩:=List.mem_iff_getElem?.1 hp
     have hm1:=(y73 hst h0 ss.length (kG _) i1 p hi1).eq
     rw [hpj] at hm1
     have hX:=(A.S.hole _ hh).2
     rw [y7q _ _ _ fun x hx e=>?_] at hX
     ·rw [hm1];exact hX
     ·rw [ke] at hx
      have:=yda hst h0 ss.length (kG _) hx.1 hmem (by rw [e];rfl)
      have hx2:=hx.2
      rw [this] at hx2
      simp [ybn,hSj] at hx2
    ·rw [set_ne _ hpj] at hSp;exact hpd p hp hSp hab
   ·have hpj:p.i≠j:=fun e=>by rw [e,set_j] at hSp;cases hSp
    rw [set_ne _ hpj] at hSp
    obtain ⟨g1,g2⟩:=I.holes p hp hSp
    have hne:p.id≠N+(st j).als.length:=fun e=>by
     have:=yda hst h0 ss.length (kG _) hp hmem e
     exact hpj (by rw [this];rfl)
    exact ⟨f2 _ g1 hne,fun e o=>g2 e (f3 _ e hne g1 o)⟩
  | some c=>
   simp only [hcl] at hsj
   obtain ⟨hR,hA,hE,hnE⟩:=hsj
   have hcn:(inf j).cl≠none:=by rw [hcl];simp
   have hab:∀p∈(st ss.length).als,(S.setIfInBounds j true).getD p.i false=S.getD p.i false:=fun p hp=>set_ne _ (alj p hp hcn)
   have hbefs:∀p,p∈((st ss.length).als.filter fun p=>S.getD p.i false&&!y3g bs p.i j&&!y86 inf bs q p.i)→p∈(st ss.length).als∧S.getD p.i false=true∧y3g bs p.i j=false∧y86 inf bs q p.i=false:=fun p hp=>by
    rw [ke] at hp
    simp only [kF,Bool.not_eq_true'] at hp
    exact ⟨hp.1,hp.2.1.1,hp.2.1.2,hp.2.2⟩
   have hsplit:y3s (st q).C ((st ss.length).als.filter fun p=>S.getD p.i false&&!y86 inf bs q p.i) =
     y3s (y3s (st q).C ((st ss.length).als.filter fun p=>y3g bs p.i j&&!y86 inf bs q p.i)) ((st ss.length).als.filter fun p=>S.getD p.i false&&!y3g bs p.i j&&!y86 inf bs q p.i):=by
    refine (yhb (hpw.filter _) (hpw.filter _) _ fun p=>?_).trans (yoc hpw (st q).C (fun p=>y3g bs p.i j&&!y86 inf bs q p.i) (fun p=>S.getD p.i false&&!y3g bs p.i j&&!y86 inf bs q p.i)
     (fun p=>(y3g bs p.i j&&!y86 inf bs q p.i)||(S.getD p.i false&&!y3g bs p.i j&&!y86 inf bs q p.i)) (fun x=>rfl) (fun x _ hx=>by
      simp only [kF] at hx;simp [hx.1]))
    simp only [ke]
    refine and_congr_right fun _=>?_
    cases hb:y3g bs p.i j with
    | false=>simp
    | true=>have:=bh _ (rch _ _ hb);simp only [this];simp
   have apart:∀(X':Hp) (q':Nat),q'≤ss.length→(∀e,e<ss.length→y4p (inf e)=true→((S.setIfInBounds j true).getD e false=true↔e<q'))→
     (c=.eff→y3s (st q).C ((st ss.length).als.filter fun p=>y3g bs p.i j&&!y86 inf bs q p.i)=y3s (st j).C (bef bs j (st j).ps))→
     (c=.rd→(inf j).re (y3s (st q).C ((st ss.length).als.filter fun p=>y3g bs p.i j&&!y86 inf bs q p.i)))→
     (if c=.eff then (inf j).X else y3s (st q).C ((st ss.length).als.filter fun p=>y3g bs p.i j&&!y86 inf bs q p.i))=X'→
     y3s X' ((st ss.length).als.filter fun p=>S.getD p.i false&&!y3g bs p.i j&&!y86 inf bs q p.i)=y3s (st q').C ((st ss.length).als.filter fun p=>S.getD p.i false&&!y86 inf bs q' p.i)→
     ((∀p,p∈((st ss.length).als.filter fun p=>S.getD p.i false&&!y3g bs p.i j&&!y86 inf bs q p.i)→X'.get p.id=none)→∀p∈(st ss.length).als,S.getD p.i false=true→y86 inf bs q' p.i=false→(st q').C.get p.id=none)→
     wpOpIn (FF ro) 0 P ops Q j (fun a w=>wpAnyIn (FF ro) 0 P .any ops Q fuel (S.setIfInBounds j true) a w) a κ.w:=fun X' q' hq' hch' hce hcr hX' hfin hpend=>by
    have Aold:=A
    rw [hsplit] at A
    obtain ⟨κf,wf,lef,Sf,back⟩:=frame (hpw.filter _) (fun p hp=>by
     obtain ⟨g1,g2,g3,g4⟩:=hbefs p hp
     rw [y7q _ _ _ fun x hx e=>?_]
     ·exact hpd p g1 g2 g4
     ·rw [ke] at hx
      have:=yda hst h0 ss.length (kG _) hx.1 g1 e
      subst this
      simp [g3] at hx) A.S
    have run:=hR.run ro κf a F2 _ (A.on lef Sf (A.r.mono lef)) ag hce hcr (fun a w=>wpAnyIn (FF ro) 0 P .any ops Q fuel (S.setIfInBounds j true) a w) Q fun κ' cv le' S' rv=>by
     rw [hX'] at S'
     obtain ⟨κ2,w2,le2,S2,mv,hno⟩:=back κ' X' le' S'
     rw [←w2]
     refine ih _ κ2 _ (le.trans le2) ⟨by simpa using I.size,hdown,⟨_,q',hq',hch',?_,hFnew,fun p hp hSp hb=>?_⟩,fun p hp hSp=>?_⟩ (by omega)
     ·have hcong:((st ss.length).als.filter fun p=>(S.setIfInBounds j true).getD p.i false&&!y86 inf bs q' p.i)=((st ss.length).als.filter fun p=>S.getD p.i false&&!y86 inf bs q' p.i):=List.filter_congr fun p hp=>by rw [hab p hp]
      rw [hcong,←hfin]
      exact Aold.put le2 S2 hR.dok (mv _ _ rv)
     ·rw [hab p hp] at hSp;exact hpend hno p hp hSp hb
     ·rw [hab p hp] at hSp
      obtain ⟨g1,g2⟩:=I.holes p hp hSp
      exact ⟨(le2.hole _ g1).1,fun e o=>g2 e ((le2.hole _ g1).2 e o)⟩
    rw [wf] at run
    exact run
   have ee:∀i k,i<k→k<ss.length→y4p (inf i)=true→y4p (inf k)=true→y3g bs i k=true:=fun i k hik hk hi hk'=>by
    have ci:(inf i).cl=some .eff:=by
     unfold y4p at hi;split at hi
     ·assumption
     ·cases hi
    have ck:(inf k).cl=some .eff:=by
     unfold y4p at hk';split at hk'
     ·assumption
     ·cases hk'
    rcases hpair i k .eff .eff hik hk ci (by simp) ck (by simp) with h | h
    ·exact h
    ·exact h.elim
   by_cases hce:c=.eff
   ·subst hce
    have hej:y4p (inf j)=true:=by simp [y4p,hcl]
    obtain ⟨hE1,hE2⟩:=hE rfl
    have hnq:¬j<q:=fun h=>by have:=(hchain j hjl hej).2 h;rw [hSj] at this;cases this
    have key:∀e,e<ss.length→y4p (inf e)=true→(e<q↔e<j):=fun e h2 h3=>by
     constructor
     ·intro h4
      have hSe:=(hchain e h2 h3).2 h4
      rcases Nat.lt_or_ge e j with h5 | h5
      ·exact h5
      ·exfalso
       have hne:e≠j:=by rintro rfl;rw [hSj] at hSe;cases hSe
       exact notS e hSe (rch _ _ (ee j e (by omega) h2 hej h3))
     ·intro h4
      exact (hchain e h2 h3).1 (bh e (rch _ _ (ee e j h4 hjl h3 hej)))
    obtain ⟨c1,c2⟩:=y96 hst hq (show j≤ss.length by omega) key
    refine apart (inf j).X (j+1) (by omega) (fun e h2 h3=>?_) (fun _=>?_) (fun h=>by cases h) (if_pos rfl) ?_ (fun hno p hp hSp hb=>?_)
    ·rw [set_get]
     by_cases he:e=j
     ·subst he;simp
     ·rw [hchain e h2 h3,key e h2 h3];omega
    ·rw [hbef j j (by omega) (by omega) (kG _),c1]
     congr 1
     exact List.filter_congr fun p _=>by rw [c2]
    ·rw [hE1]
     congr 1
     refine List.filter_congr fun p _=>?_
     rw [y97,hej,c2]
     cases S.getD p.i false <;> cases y86 inf bs j p.i <;> cases y3g bs p.i j <;> rfl
    ·rw [hE1]
     rw [y97,hej,←c2] at hb
     refine hno p (List.mem_filter.2 ⟨hp,?_⟩)
     rw [Bool.or_eq_false_iff,Bool.true_and] at hb
     simp only [hSp,hb.1,hb.2];rfl
   ·have hnj:y4p (inf j)=false:=by
     unfold y4p;rw [hcl];cases c <;> first | rfl | exact absurd rfl hce
    refine apart _ q hq (fun e h2 h3=>?_) (fun h=>absurd h hce) (fun hcr=>?_) (if_neg hce) hsplit.symm (fun _=>hpd)
    ·rw [set_ne e (by rintro rfl;rw [hnj] at h3;cases h3)];exact hchain e h2 h3
    ·subst hcr
     have seg:∀i i',i<ss.length→i'<ss.length→y4p (inf i)=true→y4p (inf i')=true→S.getD i false=true→S.getD i' false=false→i<i':=fun i i' l1 l2 c1 c2 g1 g2=>by
      have a1:=(hchain i l1 c1).1 g1
      rcases Nat.lt_or_ge i i' with h | h
      ·exact h
      ·have:=(hchain i' l2 c2).2 (by omega)
       rw [g2] at this;cases this
     by_cases hmiss:∃i,i<j∧y4p (inf i)=true∧S.getD i false=false
     ·obtain ⟨i1,g1,g2,g3,hmin⟩:∃i1,i1<j∧y4p (inf i1)=true∧S.getD i1 false=false∧∀i,i<i1→y4p (inf i)=true→S.getD i false=true:=by
       have wf:∀m,(∃i,i<m∧y4p (inf i)=true∧S.getD i false=false)→∃i1,i1<m∧y4p (inf i1)=true∧S.getD i1 false=false∧∀i,i<i1→y4p (inf i)=true→S.getD i false=true:=fun m=>by
        induction m with
        | zero=>rintro ⟨i,h,_⟩;omega
        | succ m ihm=>
         rintro ⟨i,h,hc1,hc2⟩
         by_cases hm:∃i,i<m∧y4p (inf i)=true∧S.getD i false=false
         ·obtain ⟨i1,q1,q2,q3,q4⟩:=ihm hm
          exact ⟨i1,by omega,q2,q3,q4⟩
         ·refine ⟨i,h,hc1,hc2,fun i' hi' hci'=>?_⟩
          cases hS':S.getD i' false with
          | true=>rfl
          | false=>exact absurd ⟨i',by omega,hci',hS'⟩ hm
       exact wf j hmiss
      have key:∀e,e<ss.length→y4p (inf e)=true→(e<q↔e<i1):=fun e h2 h3=>by
       rw [←hchain e h2 h3]
       exact ⟨fun h=>seg e i1 h2 (by omega) h3 g2 h g3,fun h=>hmin e h h3⟩
      obtain ⟨c1,c2⟩:=y96 hst hq (show i1≤ss.length by omega) key
      have ci:(inf i1).cl=some .eff:=by
       unfold y4p at g2;split at g2
       ·assumption
       ·cases g2
      rcases hpair i1 j .eff .rd g1 hjl ci (by simp) hcl (by simp) with h | h
      ·have:=bh i1 (rch _ _ h)
       rw [g3] at this;cases this
      ·have h':(inf j).re (y3s (st i1).C (bef bs j ((st i1).ps++(st j).als.filter fun p=>decide (i1<p.i)))):=h
       have e:y3s (st q).C ((st ss.length).als.filter fun p=>y3g bs p.i j&&!y86 inf bs q p.i)=y3s (st i1).C (bef bs j ((st i1).ps++(st j).als.filter fun p=>decide (i1<p.i))):=by
        rw [c1]
        refine yhb (hpw.filter _) ?_ _ fun p=>?_
        ·refine List.Pairwise.filter _ ?_
         rw [hps i1 (by omega),hals j (by omega),List.filter_filter,List.pairwise_append]
         refine ⟨hpw.filter _,hpw.filter _,fun x hx y hy e=>?_⟩
         rw [ke] at hx hy
         have:=yda hst h0 ss.length (kG _) hx.1 hy.1 e
         subst this
         have a1:=hx.2;have a2:=hy.2
         simp at a1 a2;omega
        ·simp only [bef,ke,kZ]
         rw [hps i1 (by omega),hals j (by omega)]
         simp only [ke,kF,Bool.not_eq_true',decide_eq_true_eq,c2]
         constructor
         ·rintro ⟨a1,a2,a3⟩
          refine ⟨?_,a2⟩
          have hlt:=hbf _ _ a2
          rcases Nat.lt_trichotomy p.i i1 with h | h | h
          ·exact .inl ⟨a1,h,a3⟩
          ·exfalso
           have:=(hmi p a1).2
           rw [h,ci] at this;cases this
          ·exact .inr ⟨⟨a1,hlt⟩,h⟩
         ·rintro ⟨h,a2⟩
          rcases h with ⟨a1,h,a3⟩ | ⟨⟨a1,_⟩,h⟩
          ·exact ⟨a1,a2,a3⟩
          ·refine ⟨a1,a2,?_⟩
           unfold y86
           rw [List.any_eq_false]
           intro e he
           simp only [kF,not_and,Bool.not_eq_true]
           intro _
           cases hb:y3g bs p.i e with
           | false=>rfl
           | true=>
            have:=hbf _ _ hb
            have:e<i1:=by simpa using he
            omega
       rw [e];exact h'
     ·have hall:∀i,i<j→y4p (inf i)=true→S.getD i false=true:=fun i h1 h2=>by
       cases hS':S.getD i false with
       | true=>rfl
       | false=>exact absurd ⟨i,h1,h2,hS'⟩ hmiss
      by_cases hlate:∃i,j<i∧i<ss.length∧y4p (inf i)=true∧S.getD i false=true
      ·
       obtain ⟨i0,g1,g2,g3,g4,hmax⟩:∃i0,j<i0∧i0<ss.length∧y4p (inf i0)=true∧S.getD i0 false=true∧∀i,i0<i→i<ss.length→y4p (inf i)=true→S.getD i false=false:=by
        have wf:∀m,(∃i,ss.length≤i+m∧j<i∧i<ss.length∧y4p (inf i)=true∧S.getD i false=true)→∃i0,j<i0∧i0<ss.length∧y4p (inf i0)=true∧S.getD i0 false=true∧∀i,i0<i→i<ss.length→y4p (inf i)=true→S.getD i false=false:=fun m=>by
         induction m with
         | zero=>rintro ⟨i,h,h1,h2,_⟩;omega
         | succ m ihm=>
          rintro ⟨i,h,h1,h2,h3,h4⟩
          by_cases hm:∃i,ss.length≤i+m∧j<i∧i<ss.length∧y4p (inf i)=true∧S.getD i false=true
          ·exact ihm hm
          ·refine ⟨i,h1,h2,h3,h4,fun i' q1 q2 q3=>?_⟩
           cases hS':S.getD i' false with
           | false=>rfl
           | true=>exact absurd ⟨i',by omega,by omega,q2,q3,hS'⟩ hm
        obtain ⟨i,q1,q2,q3,q4⟩:=hlate
        exact wf ss.length ⟨i,by omega,q1,q2,q3,q4⟩
       have key:∀e,e<ss.length→y4p (inf e)=true→(e<q↔e<i0+1):=fun e h2 h3=>by
        rw [←hchain e h2 h3]
        constructor
        ·intro h
         rcases Nat.lt_or_ge e (i0+1) with h' | h'
         ·exact h'
         ·have:=hmax e (by omega) h2 h3
          rw [h] at this;cases this
        ·intro h
         have:e≤i0:=by omega
         exact (hchain e h2 h3).2 (Nat.lt_of_le_of_lt this ((hchain i0 g2 g3).1 g4))
       obtain ⟨c1,c2⟩:=y96 hst hq (show i0+1≤ss.length by omega) key
       have ci:(inf i0).cl=some .eff:=by
        unfold y4p at g3;split at g3
        ·assumption
        ·cases g3
       rcases hpair j i0 .rd .eff g1 g2 hcl (by simp) ci (by simp) with h | h
       ·exact absurd (rch _ _ h) (notS i0 g4)
       ·have h':(inf j).re (y3s (st (i0+1)).C (bef bs j (st (i0+1)).ps)):=h
        rw [hbef j (i0+1) (by omega) (by omega) (by omega)] at h'
        rw [c1]
        have hcong:((st ss.length).als.filter fun p=>y3g bs p.i j&&!y86 inf bs q p.i)=((st ss.length).als.filter fun p=>y3g bs p.i j&&!y86 inf bs (i0+1) p.i):=List.filter_congr fun p _=>by rw [c2]
        rw [hcong];exact h'
      ·have key:∀e,e<ss.length→y4p (inf e)=true→(e<q↔e<j):=fun e h2 h3=>by
        rw [←hchain e h2 h3]
        constructor
        ·intro h
         rcases Nat.lt_or_ge e j with h' | h'
         ·exact h'
         ·exfalso
          by_cases hej:e=j
          ·subst hej;rw [hSj] at h;cases h
          ·exact hlate ⟨e,by omega,h2,h3,h⟩
        ·intro h;exact hall e h h3
       obtain ⟨c1,c2⟩:=y96 hst hq (show j≤ss.length by omega) key
       have:=hR.here rfl
       rw [hbef j j (by omega) (by omega) (kG _)] at this
       rw [c1]
       have hcong:((st ss.length).als.filter fun p=>y3g bs p.i j&&!y86 inf bs q p.i)=((st ss.length).als.filter fun p=>y3g bs p.i j&&!y86 inf bs j p.i):=List.filter_congr fun p _=>by rw [c2]
       rw [hcong];exact this
end
end Go.Proofs.YtikpijbeobeckaaGreatDoor.Am
