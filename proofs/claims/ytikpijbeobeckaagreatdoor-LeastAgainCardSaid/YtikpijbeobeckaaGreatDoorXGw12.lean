/- Part 12. -/
import Derived.Test.YtikpijbeobeckaaGreatDoorXGw11
set_option linter.unusedSimpArgs false
set_option linter.unusedVariables false
namespace Go.Proofs.YtikpijbeobeckaaGreatDoor.Am
open Go Go.RowKit
def y4p (i:TxI):Bool:=match i.cl with
 | some .eff=>true
 | _=>false
def y86 (inf:Nat→TxI) (bs:List Nat) (j a:Nat):Bool:=(List.range j).any fun e=>y4p (inf e)&&y3g bs a e
theorem y97 (inf:Nat→TxI) (bs:List Nat) (j a:Nat):y86 inf bs (j+1) a=(y86 inf bs j a||(y4p (inf j)&&y3g bs a j)):=by
 unfold y86;rw [List.range_succ,List.any_append];simp
section
variable {P:Program} {n:Nat} {ops:Array Oper} {bs:List Nat} {N:Nat} {ss:List AStep} {st:Nat→TxS} {inf:Nat→TxI}
structure Made (N:Nat) (st:Nat→TxS) (inf:Nat→TxI) (j idx:Nat) (p:PendE):Prop where
 id:p.id=N+idx
 lt:p.i<j
 cl:(inf p.i).cl=none
 eq:p=ybn N p.i (st p.i) (inf p.i)
theorem y73 (hst:∀j s,ss[j]?=some s→StA P n ops bs N j s (st j) (st (j+1)) (inf j)) (h0:(st 0).als=[]):∀j,j≤ss.length→∀idx p,(st j).als[idx]?=some p→Made N st inf j idx p
 | 0,_,idx,p,h=>by rw [h0] at h;simp at h
 | j+1,hj,idx,p,h=>by
  have hs:=hst j _ (kC (show j<ss.length by omega))
  have ih:=y73 hst h0 j (by omega)
  unfold StA at hs
  cases hc:(inf j).cl with
  | none=>
   simp only [hc] at hs
   rw [hs.2.2.2.1] at h
   by_cases hi:idx<(st j).als.length
   ·rw [kR hi] at h
    have:=ih idx p h
    exact ⟨this.id,by have:=this.lt;omega,this.cl,this.eq⟩
   ·rw [kX (by omega)] at h
    have hz:idx-(st j).als.length=0:=by
     have:=(List.getElem?_eq_some_iff.1 h).1
     simp at this;omega
    rw [hz] at h
    simp at h;subst h
    have:idx=(st j).als.length:=by omega
    exact ⟨by simp [ybn,this],by simp [ybn],hc,rfl⟩
  | some c=>
   simp only [hc] at hs
   rw [hs.2.1] at h
   have:=ih idx p h
   exact ⟨this.id,by have:=this.lt;omega,this.cl,this.eq⟩
theorem yf5 (hst:∀j s,ss[j]?=some s→StA P n ops bs N j s (st j) (st (j+1)) (inf j)) (h0:(st 0).als=[]) (j:Nat):∀d,j+d≤ss.length→(st j).als=(st (j+d)).als.filter fun p=>decide (p.i<j)
 | 0,h=>by
  symm
  rw [Nat.add_zero,List.filter_eq_self]
  intro p hp
  obtain ⟨idx,hi⟩:=List.mem_iff_getElem?.1 hp
  have:=(y73 hst h0 j h idx p hi).lt
  simpa using this
 | d+1,h=>by
  have ih:=yf5 hst h0 j d (by omega)
  have hs:=hst (j+d) _ (kC (show j+d<ss.length by omega))
  unfold StA at hs
  rw [show j+(d+1)=j+d+1 by omega]
  cases hc:(inf (j+d)).cl with
  | none=>
   simp only [hc] at hs
   rw [hs.2.2.2.1,List.filter_append,←ih]
   simp [ybn]
  | some c=>
   simp only [hc] at hs
   rw [hs.2.1,←ih]
theorem ygr (hst:∀j s,ss[j]?=some s→StA P n ops bs N j s (st j) (st (j+1)) (inf j)) (h0:(st 0).als=[]) (h1:(st 0).ps=[]) (hbf:∀i j,y3g bs i j=true→i<j):
  ∀j,j≤ss.length→(st j).ps=(st j).als.filter fun p=>!y86 inf bs j p.i
 | 0,_=>by rw [h0,h1];rfl
 | j+1,hj=>by
  have ih:=ygr hst h0 h1 hbf j (by omega)
  have hs:=hst j _ (kC (show j<ss.length by omega))
  have hm:=y73 hst h0 j (by omega)
  unfold StA at hs
  cases hc:(inf j).cl with
  | none=>
   simp only [hc] at hs
   have he:y4p (inf j)=false:=by simp [y4p,hc]
   rw [hs.2.2.2.1,hs.2.2.2.2,List.filter_append,ih]
   congr 1
   ·apply List.filter_congr
    intro p _
    rw [y97,he];simp
   ·have:y86 inf bs (j+1) j=false:=by
     unfold y86
     rw [List.any_eq_false]
     intro e he'
     cases hb:y3g bs j e with
     | false=>simp
     | true=>
      have:=hbf j e hb
      have:e<j+1:=by simpa using he'
      omega
    simp [ybn,this]
  | some c=>
   simp only [hc] at hs
   rw [hs.2.1]
   by_cases hce:c=.eff
   ·subst hce
    have he:y4p (inf j)=true:=by simp [y4p,hc]
    rw [(hs.2.2.1 rfl).2,ih,aft,List.filter_filter]
    apply List.filter_congr
    intro p _
    rw [y97,he]
    cases y86 inf bs j p.i <;> cases y3g bs p.i j <;> rfl
   ·have he:y4p (inf j)=false:=by
     unfold y4p;rw [hc];cases c <;> first | rfl | exact absurd rfl hce
    rw [(hs.2.2.2 hce).2,ih]
    apply List.filter_congr
    intro p _
    rw [y97,he];simp
theorem ykc (hst:∀j s,ss[j]?=some s→StA P n ops bs N j s (st j) (st (j+1)) (inf j)) (i:Nat):∀d,i+d≤ss.length→(∀e,i≤e→e<i+d→y4p (inf e)=false)→(st (i+d)).C=(st i).C∧∀a,y86 inf bs (i+d) a=y86 inf bs i a
 | 0,_,_=>⟨rfl,fun _=>rfl⟩
 | d+1,h,he=>by
  have ih:=ykc hst i d (by omega) fun e h1 h2=>he e h1 (by omega)
  have hs:=hst (i+d) _ (kC (show i+d<ss.length by omega))
  have hf:=he (i+d) (by omega) (by omega)
  unfold StA at hs
  rw [show i+(d+1)=i+d+1 by omega]
  refine ⟨?_,fun a=>by rw [y97,hf,ih.2];simp⟩
  cases hc:(inf (i+d)).cl with
  | none=>simp only [hc] at hs;rw [hs.2.2.1];exact ih.1
  | some c=>
   simp only [hc] at hs
   have hce:c≠.eff:=by rintro rfl;simp [y4p,hc] at hf
   rw [(hs.2.2.2 hce).1];exact ih.1
theorem y96 (hst:∀j s,ss[j]?=some s→StA P n ops bs N j s (st j) (st (j+1)) (inf j)) {i j:Nat} (hi:i≤ss.length) (hj:j≤ss.length) (h:∀e,e<ss.length→y4p (inf e)=true→(e<i↔e<j)):(st i).C=(st j).C∧∀a,y86 inf bs i a=y86 inf bs j a:=by
 have gen:∀{i j:Nat},i≤j→j≤ss.length→(∀e,e<ss.length→y4p (inf e)=true→(e<i↔e<j))→(st j).C=(st i).C∧∀a,y86 inf bs j a=y86 inf bs i a:=fun {i j} hij hj h=>by
  have:=ykc (bs:=bs) hst i (j-i) (by omega) fun e h1 h2=>by
   cases hc:y4p (inf e) with
   | false=>rfl
   | true=>have:=(h e (by omega) hc);omega
  rwa [show i+(j-i)=j by omega] at this
 rcases Nat.le_total i j with q | q
 ·have:=gen q hj h
  exact ⟨this.1.symm,fun a=>(this.2 a).symm⟩
 ·exact gen q hi fun e h1 h2=>(h e h1 h2).symm
theorem ymq {Fs:Nat→Fr} {vs:Nat→V} (hput:∀j s,ss[j]?=some s→Fs (j+1)=Am.put (Fs j) s.dst (vs j)) (t:Nat):∀j,j≤ss.length→LW ss vs (y6o (Fs 0) t) t (·<j) (y6o (Fs j) t)
 | 0,_=>.inr ⟨fun i s h=>absurd h (by omega),rfl⟩
 | j+1,hj=>by
  have hs:ss[j]?=some ss[j]:=kC (by omega)
  rw [hput j _ hs,ydd]
  have ih:=ymq hput t j (by omega)
  by_cases hd:(ss[j]).dst=some t
  ·rw [if_pos hd]
   exact .inl ⟨j,_,by omega,hs,hd,rfl,fun i' s' h1 _ _=>by omega⟩
  ·rw [if_neg hd]
   have no:∀i s,ss[i]?=some s→s.dst=some t→(i<j+1↔i<j):=fun i s h1 h2=>by
    constructor
    ·intro h3
     rcases Nat.lt_or_ge i j with h4 | h4
     ·exact h4
     ·have:i=j:=by omega
      subst this
      rw [hs] at h1;injection h1 with h1;subst h1
      exact absurd h2 hd
    ·intro;omega
   rcases ih with ⟨i,s,a1,a2,a3,a4,a5⟩ | ⟨a1,a2⟩
   ·exact .inl ⟨i,s,by omega,a2,a3,a4,fun i' s' h1 h2 h3=>a5 i' s' ((no i' s' h2 h3).1 h1) h2 h3⟩
   ·exact .inr ⟨fun i s h1 h2 h3=>a1 i s ((no i s h2 h3).1 h1) h2 h3,a2⟩
end
theorem yoc {l:List PendE} (hd:l.Pairwise (fun a b=>a.id≠b.id)) (C:Hp) (p q r:PendE→Bool) (h:∀x,r x=(p x||q x)) (hpq:∀x∈l,p x=true→q x=false):
  y3s C (l.filter r)=y3s (y3s C (l.filter p)) (l.filter q):=by
 have e1:∀k,(y3s C (l.filter r)).get k=(y3s (y3s C (l.filter p)) (l.filter q)).get k:=fun k=>by
  rcases y3x (C:=y3s C (l.filter p)) (hd.filter q) k with ⟨x,hx,rfl,hg⟩ | ⟨hn,hg⟩
  ·rw [hg]
   rw [ke] at hx
   exact y7u _ _ (hd.filter r) x (List.mem_filter.2 ⟨hx.1,by rw [h];simp [hx.2]⟩)
  ·rw [hg]
   rcases y3x (C:=C) (hd.filter p) k with ⟨x,hx,rfl,hg'⟩ | ⟨hn',hg'⟩
   ·rw [hg']
    rw [ke] at hx
    exact y7u _ _ (hd.filter r) x (List.mem_filter.2 ⟨hx.1,by rw [h];simp [hx.2]⟩)
   ·rw [hg']
    refine y7q _ _ _ fun x hx e=>?_
    rw [ke,h] at hx
    cases hp:p x with
    | true=>exact hn' x (List.mem_filter.2 ⟨hx.1,hp⟩) e
    | false=>exact hn x (List.mem_filter.2 ⟨hx.1,by simpa [hp] using hx.2⟩) e
 have e2:(y3s C (l.filter r)).next=(y3s (y3s C (l.filter p)) (l.filter q)).next:=by rw [y48,y48,y48]
 cases h1:y3s C (l.filter r) with
 | mk g1 n1=>
  cases h2:y3s (y3s C (l.filter p)) (l.filter q) with
  | mk g2 n2=>
   rw [h1,h2] at e1 e2
   simp only [Hp.mk.injEq]
   exact ⟨funext e1,e2⟩
end Go.Proofs.YtikpijbeobeckaaGreatDoor.Am
