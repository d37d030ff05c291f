/- Part 12. -/
import Derived.Test.YtikpijbeobeckaaGreatDoorXFw11
set_option linter.unusedSimpArgs false
set_option linter.unusedVariables false
namespace Go.Proofs.YtikpijbeobeckaaGreatDoor.Am
open Go Go.RowKit
def y5k (i:TxI):Bool:=match i.cl with
 | some .eff=>true
 | _=>false
def y9j (inf:Nat→TxI) (bs:List Nat) (j a:Nat):Bool:=(List.range j).any fun e=>y5k (inf e)&&y47 bs a e
theorem yay (inf:Nat→TxI) (bs:List Nat) (j a:Nat):y9j inf bs (j+1) a=(y9j inf bs j a||(y5k (inf j)&&y47 bs a j)):=by
 unfold y9j;rw [List.range_succ,List.any_append];simp
section
variable {P:Program} {n:Nat} {ops:Array Oper} {bs:List Nat} {N:Nat} {ss:List AStep} {st:Nat→TxS} {inf:Nat→TxI}
structure Made (N:Nat) (st:Nat→TxS) (inf:Nat→TxI) (j idx:Nat) (p:PendE):Prop where
 id:p.id=N+idx
 lt:p.i<j
 cl:(inf p.i).cl=none
 eq:p=yda N p.i (st p.i) (inf p.i)
theorem y8a (hst:∀j s,ss[j]?=some s→StA P n ops bs N j s (st j) (st (j+1)) (inf j)) (h0:(st 0).als=[]):∀j,j≤ss.length→∀idx p,(st j).als[idx]?=some p→Made N st inf j idx p
 | 0,_,idx,p,h=>by rw [h0] at h;simp at h
 | j+1,hj,idx,p,h=>by
  have hs:=hst j _ (kC (show j<ss.length by omega))
  have ih:=y8a hst h0 j (by omega)
  unfold StA at hs
  cases hc:(inf j).cl with
  | none=>
   simp only [hc] at hs
   rw [hs.2.2.2.1] at h
   by_cases hi:idx<(st j).als.length
   ·rw [kR hi] at h
    have:=ih idx p h
    exact ⟨this.id,by have:=this.lt;omega,this.cl,this.eq⟩
   ·rw [kX (by omega)] at h
    have hz:idx-(st j).als.length=0:=by
     have:=(List.getElem?_eq_some_iff.1 h).1
     simp at this;omega
    rw [hz] at h
    simp at h;subst h
    have:idx=(st j).als.length:=by omega
    exact ⟨by simp [yda,this],by simp [yda],hc,rfl⟩
  | some c=>
   simp only [hc] at hs
   rw [hs.2.1] at h
   have:=ih idx p h
   exact ⟨this.id,by have:=this.lt;omega,this.cl,this.eq⟩
theorem yh8 (hst:∀j s,ss[j]?=some s→StA P n ops bs N j s (st j) (st (j+1)) (inf j)) (h0:(st 0).als=[]) (j:Nat):∀d,j+d≤ss.length→(st j).als=(st (j+d)).als.filter fun p=>decide (p.i<j)
 | 0,h=>by
  symm
  rw [Nat.add_zero,List.filter_eq_self]
  intro p hp
  obtain ⟨idx,hi⟩:=List.mem_iff_getElem?.1 hp
  have:=(y8a hst h0 j h idx p hi).lt
  simpa using this
 | d+1,h=>by
  have ih:=yh8 hst h0 j d (by omega)
  have hs:=hst (j+d) _ (kC (show j+d<ss.length by omega))
  unfold StA at hs
  rw [show j+(d+1)=j+d+1 by omega]
  cases hc:(inf (j+d)).cl with
  | none=>
   simp only [hc] at hs
   rw [hs.2.2.2.1,List.filter_append,←ih]
   simp [yda]
  | some c=>
   simp only [hc] at hs
   rw [hs.2.1,←ih]
theorem yiz (hst:∀j s,ss[j]?=some s→StA P n ops bs N j s (st j) (st (j+1)) (inf j)) (h0:(st 0).als=[]) (h1:(st 0).ps=[]) (hbf:∀i j,y47 bs i j=true→i<j):
  ∀j,j≤ss.length→(st j).ps=(st j).als.filter fun p=>!y9j inf bs j p.i
 | 0,_=>by rw [h0,h1];rfl
 | j+1,hj=>by
  have ih:=yiz hst h0 h1 hbf j (by omega)
  have hs:=hst j _ (kC (show j<ss.length by omega))
  have hm:=y8a hst h0 j (by omega)
  unfold StA at hs
  cases hc:(inf j).cl with
  | none=>
   simp only [hc] at hs
   have he:y5k (inf j)=false:=by simp [y5k,hc]
   rw [hs.2.2.2.1,hs.2.2.2.2,List.filter_append,ih]
   congr 1
   ·apply List.filter_congr
    intro p _
    rw [yay,he];simp
   ·have:y9j inf bs (j+1) j=false:=by
     unfold y9j
     rw [List.any_eq_false]
     intro e he'
     cases hb:y47 bs j e with
     | false=>simp
     | true=>
      have:=hbf j e hb
      have:e<j+1:=by simpa using he'
      omega
    simp [yda,this]
  | some c=>
   simp only [hc] at hs
   rw [hs.2.1]
   by_cases hce:c=.eff
   ·subst hce
    have he:y5k (inf j)=true:=by simp [y5k,hc]
    rw [(hs.2.2.1 rfl).2,ih,aft,List.filter_filter]
    apply List.filter_congr
    intro p _
    rw [yay,he]
    cases y9j inf bs j p.i <;> cases y47 bs p.i j <;> rfl
   ·have he:y5k (inf j)=false:=by
     unfold y5k;rw [hc];cases c <;> first | rfl | exact absurd rfl hce
    rw [(hs.2.2.2 hce).2,ih]
    apply List.filter_congr
    intro p _
    rw [yay,he];simp
theorem ymo (hst:∀j s,ss[j]?=some s→StA P n ops bs N j s (st j) (st (j+1)) (inf j)) (i:Nat):∀d,i+d≤ss.length→(∀e,i≤e→e<i+d→y5k (inf e)=false)→(st (i+d)).C=(st i).C∧∀a,y9j inf bs (i+d) a=y9j inf bs i a
 | 0,_,_=>⟨rfl,fun _=>rfl⟩
 | d+1,h,he=>by
  have ih:=ymo hst i d (by omega) fun e h1 h2=>he e h1 (by omega)
  have hs:=hst (i+d) _ (kC (show i+d<ss.length by omega))
  have hf:=he (i+d) (by omega) (by omega)
  unfold StA at hs
  rw [show i+(d+1)=i+d+1 by omega]
  refine ⟨?_,fun a=>by rw [yay,hf,ih.2];simp⟩
  cases hc:(inf (i+d)).cl with
  | none=>simp only [hc] at hs;rw [hs.2.2.1];exact ih.1
  | some c=>
   simp only [hc] at hs
   have hce:c≠.eff:=by rintro rfl;simp [y5k,hc] at hf
   rw [(hs.2.2.2 hce).1];exact ih.1
theorem yax (hst:∀j s,ss[j]?=some s→StA P n ops bs N j s (st j) (st (j+1)) (inf j)) {i j:Nat} (hi:i≤ss.length) (hj:j≤ss.length) (h:∀e,e<ss.length→y5k (inf e)=true→(e<i↔e<j)):(st i).C=(st j).C∧∀a,y9j inf bs i a=y9j inf bs j a:=by
 have gen:∀{i j:Nat},i≤j→j≤ss.length→(∀e,e<ss.length→y5k (inf e)=true→(e<i↔e<j))→(st j).C=(st i).C∧∀a,y9j inf bs j a=y9j inf bs i a:=fun {i j} hij hj h=>by
  have:=ymo (bs:=bs) hst i (j-i) (by omega) fun e h1 h2=>by
   cases hc:y5k (inf e) with
   | false=>rfl
   | true=>have:=(h e (by omega) hc);omega
  rwa [show i+(j-i)=j by omega] at this
 rcases Nat.le_total i j with q | q
 ·have:=gen q hj h
  exact ⟨this.1.symm,fun a=>(this.2 a).symm⟩
 ·exact gen q hi fun e h1 h2=>(h e h1 h2).symm
theorem yoz {Fs:Nat→Fr} {vs:Nat→V} (hput:∀j s,ss[j]?=some s→Fs (j+1)=Am.put (Fs j) s.dst (vs j)) (t:Nat):∀j,j≤ss.length→LW ss vs (y76 (Fs 0) t) t (·<j) (y76 (Fs j) t)
 | 0,_=>.inr ⟨fun i s h=>absurd h (by omega),rfl⟩
 | j+1,hj=>by
  have hs:ss[j]?=some ss[j]:=kC (by omega)
  rw [hput j _ hs,yf6]
  have ih:=yoz hput t j (by omega)
  by_cases hd:(ss[j]).dst=some t
  ·rw [if_pos hd]
   exact .inl ⟨j,_,by omega,hs,hd,rfl,fun i' s' h1 _ _=>by omega⟩
  ·rw [if_neg hd]
   have no:∀i s,ss[i]?=some s→s.dst=some t→(i<j+1↔i<j):=fun i s h1 h2=>by
    constructor
    ·intro h3
     rcases Nat.lt_or_ge i j with h4 | h4
     ·exact h4
     ·have:i=j:=by omega
      subst this
      rw [hs] at h1;injection h1 with h1;subst h1
      exact absurd h2 hd
    ·intro;omega
   rcases ih with ⟨i,s,a1,a2,a3,a4,a5⟩ | ⟨a1,a2⟩
   ·exact .inl ⟨i,s,by omega,a2,a3,a4,fun i' s' h1 h2 h3=>a5 i' s' ((no i' s' h2 h3).1 h1) h2 h3⟩
   ·exact .inr ⟨fun i s h1 h2 h3=>a1 i s ((no i s h2 h3).1 h1) h2 h3,a2⟩
end
theorem yqh {l:List PendE} (hd:l.Pairwise (fun a b=>a.id≠b.id)) (C:Hp) (p q r:PendE→Bool) (h:∀x,r x=(p x||q x)) (hpq:∀x∈l,p x=true→q x=false):
  y4h C (l.filter r)=y4h (y4h C (l.filter p)) (l.filter q):=by
 have e1:∀k,(y4h C (l.filter r)).get k=(y4h (y4h C (l.filter p)) (l.filter q)).get k:=fun k=>by
  rcases y4l (C:=y4h C (l.filter p)) (hd.filter q) k with ⟨x,hx,rfl,hg⟩ | ⟨hn,hg⟩
  ·rw [hg]
   rw [ke] at hx
   exact y96 _ _ (hd.filter r) x (List.mem_filter.2 ⟨hx.1,by rw [h];simp [hx.2]⟩)
  ·rw [hg]
   rcases y4l (C:=C) (hd.filter p) k with ⟨x,hx,rfl,hg'⟩ | ⟨hn',hg'⟩
   ·rw [hg']
    rw [ke] at hx
    exact y96 _ _ (hd.filter r) x (List.mem_filter.2 ⟨hx.1,by rw [h];simp [hx.2]⟩)
   ·rw [hg']
    refine y90 _ _ _ fun x hx e=>?_
    rw [ke,h] at hx
    cases hp:p x with
    | true=>exact hn' x (List.mem_filter.2 ⟨hx.1,hp⟩) e
    | false=>exact hn x (List.mem_filter.2 ⟨hx.1,by simpa [hp] using hx.2⟩) e
 have e2:(y4h C (l.filter r)).next=(y4h (y4h C (l.filter p)) (l.filter q)).next:=by rw [y53,y53,y53]
 cases h1:y4h C (l.filter r) with
 | mk g1 n1=>
  cases h2:y4h (y4h C (l.filter p)) (l.filter q) with
  | mk g2 n2=>
   rw [h1,h2] at e1 e2
   simp only [Hp.mk.injEq]
   exact ⟨funext e1,e2⟩
end Go.Proofs.YtikpijbeobeckaaGreatDoor.Am
