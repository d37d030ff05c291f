/- Part 12. -/
import Derived.Test.YthmkcebbeehbeaaGreatDoorXGw11
set_option linter.unusedSimpArgs false
set_option linter.unusedVariables false
namespace Go.Proofs.YthmkcebbeehbeaaGreatDoor.Am
open Go Go.RowKit
def y89 (i:TxI):Bool:=match i.cl with
 | some .eff=>true
 | _=>false
def ydm (inf:Nat→TxI) (bs:List Nat) (j a:Nat):Bool:=(List.range j).any fun e=>y89 (inf e)&&y6j bs a e
theorem yfh (inf:Nat→TxI) (bs:List Nat) (j a:Nat):ydm inf bs (j+1) a=(ydm inf bs j a||(y89 (inf j)&&y6j bs a j)):=by
 unfold ydm;rw [List.range_succ,List.any_append];simp
section
variable {P:Program} {n:Nat} {ops:Array Oper} {bs:List Nat} {N:Nat} {ss:List AStep} {st:Nat→TxS} {inf:Nat→TxI}
structure Made (N:Nat) (st:Nat→TxS) (inf:Nat→TxI) (j idx:Nat) (p:PendE):Prop where
 id:p.id=N+idx
 lt:p.i<j
 cl:(inf p.i).cl=none
 eq:p=yri N p.i (st p.i) (inf p.i)
theorem yc0 (hst:∀j s,ss[j]?=some s→StA P n ops bs N j s (st j) (st (j+1)) (inf j)) (h0:(st 0).als=[]):∀j,j≤ss.length→∀idx p,(st j).als[idx]?=some p→Made N st inf j idx p
 | 0,_,idx,p,h=>by rw [h0] at h;simp at h
 | j+1,hj,idx,p,h=>by
  have hs:=hst j _ (kB (show j<ss.length by omega))
  have ih:=yc0 hst h0 j (by omega)
  unfold StA at hs
  cases hc:(inf j).cl with
  | none=>
   simp only [hc] at hs
   rw [hs.2.2.2.1] at h
   by_cases hi:idx<(st j).als.length
   ·rw [kQ hi] at h
    have:=ih idx p h
    exact ⟨this.id,by have:=this.lt;omega,this.cl,this.eq⟩
   ·rw [kW (by omega)] at h
    have hz:idx-(st j).als.length=0:=by
     have:=(List.getElem?_eq_some_iff.1 h).1
     simp at this;omega
    rw [hz] at h
    simp at h;subst h
    have:idx=(st j).als.length:=by omega
    exact ⟨by simp [yri,this],by simp [yri],hc,rfl⟩
  | some c=>
   simp only [hc] at hs
   rw [hs.2.1] at h
   have:=ih idx p h
   exact ⟨this.id,by have:=this.lt;omega,this.cl,this.eq⟩
theorem ym0 (hst:∀j s,ss[j]?=some s→StA P n ops bs N j s (st j) (st (j+1)) (inf j)) (h0:(st 0).als=[]) (j:Nat):∀d,j+d≤ss.length→(st j).als=(st (j+d)).als.filter fun p=>decide (p.i<j)
 | 0,h=>by
  symm
  rw [Nat.add_zero,List.filter_eq_self]
  intro p hp
  obtain ⟨idx,hi⟩:=List.mem_iff_getElem?.1 hp
  have:=(yc0 hst h0 j h idx p hi).lt
  simpa using this
 | d+1,h=>by
  have ih:=ym0 hst h0 j d (by omega)
  have hs:=hst (j+d) _ (kB (show j+d<ss.length by omega))
  unfold StA at hs
  rw [show j+(d+1)=j+d+1 by omega]
  cases hc:(inf (j+d)).cl with
  | none=>
   simp only [hc] at hs
   rw [hs.2.2.2.1,List.filter_append,←ih]
   simp [yri]
  | some c=>
   simp only [hc] at hs
   rw [hs.2.1,←ih]
theorem yny (hst:∀j s,ss[j]?=some s→StA P n ops bs N j s (st j) (st (j+1)) (inf j)) (h0:(st 0).als=[]) (h1:(st 0).ps=[]) (hbf:∀i j,y6j bs i j=true→i<j):
  ∀j,j≤ss.length→(st j).ps=(st j).als.filter fun p=>!ydm inf bs j p.i
 | 0,_=>by rw [h0,h1];rfl
 | j+1,hj=>by
  have ih:=yny hst h0 h1 hbf j (by omega)
  have hs:=hst j _ (kB (show j<ss.length by omega))
  have hm:=yc0 hst h0 j (by omega)
  unfold StA at hs
  cases hc:(inf j).cl with
  | none=>
   simp only [hc] at hs
   have he:y89 (inf j)=false:=by simp [y89,hc]
   rw [hs.2.2.2.1,hs.2.2.2.2,List.filter_append,ih]
   congr 1
   ·apply List.filter_congr
    intro p _
    rw [yfh,he];simp
   ·have:ydm inf bs (j+1) j=false:=by
     unfold ydm
     rw [List.any_eq_false]
     intro e he'
     cases hb:y6j bs j e with
     | false=>simp
     | true=>
      have:=hbf j e hb
      have:e<j+1:=by simpa using he'
      omega
    simp [yri,this]
  | some c=>
   simp only [hc] at hs
   rw [hs.2.1]
   by_cases hce:c=.eff
   ·subst hce
    have he:y89 (inf j)=true:=by simp [y89,hc]
    rw [(hs.2.2.1 rfl).2,ih,aft,List.filter_filter]
    apply List.filter_congr
    intro p _
    rw [yfh,he]
    cases ydm inf bs j p.i <;> cases y6j bs p.i j <;> rfl
   ·have he:y89 (inf j)=false:=by
     unfold y89;rw [hc];cases c <;> first | rfl | exact absurd rfl hce
    rw [(hs.2.2.2 hce).2,ih]
    apply List.filter_congr
    intro p _
    rw [yfh,he];simp
theorem yrr (hst:∀j s,ss[j]?=some s→StA P n ops bs N j s (st j) (st (j+1)) (inf j)) (i:Nat):∀d,i+d≤ss.length→(∀e,i≤e→e<i+d→y89 (inf e)=false)→(st (i+d)).C=(st i).C∧∀a,ydm inf bs (i+d) a=ydm inf bs i a
 | 0,_,_=>⟨rfl,fun _=>rfl⟩
 | d+1,h,he=>by
  have ih:=yrr hst i d (by omega) fun e h1 h2=>he e h1 (by omega)
  have hs:=hst (i+d) _ (kB (show i+d<ss.length by omega))
  have hf:=he (i+d) (by omega) (by omega)
  unfold StA at hs
  rw [show i+(d+1)=i+d+1 by omega]
  refine ⟨?_,fun a=>by rw [yfh,hf,ih.2];simp⟩
  cases hc:(inf (i+d)).cl with
  | none=>simp only [hc] at hs;rw [hs.2.2.1];exact ih.1
  | some c=>
   simp only [hc] at hs
   have hce:c≠.eff:=by rintro rfl;simp [y89,hc] at hf
   rw [(hs.2.2.2 hce).1];exact ih.1
theorem yfg (hst:∀j s,ss[j]?=some s→StA P n ops bs N j s (st j) (st (j+1)) (inf j)) {i j:Nat} (hi:i≤ss.length) (hj:j≤ss.length) (h:∀e,e<ss.length→y89 (inf e)=true→(e<i↔e<j)):(st i).C=(st j).C∧∀a,ydm inf bs i a=ydm inf bs j a:=by
 have gen:∀{i j:Nat},i≤j→j≤ss.length→(∀e,e<ss.length→y89 (inf e)=true→(e<i↔e<j))→(st j).C=(st i).C∧∀a,ydm inf bs j a=ydm inf bs i a:=fun {i j} hij hj h=>by
  have:=yrr (bs:=bs) hst i (j-i) (by omega) fun e h1 h2=>by
   cases hc:y89 (inf e) with
   | false=>rfl
   | true=>have:=(h e (by omega) hc);omega
  rwa [show i+(j-i)=j by omega] at this
 rcases Nat.le_total i j with q | q
 ·have:=gen q hj h
  exact ⟨this.1.symm,fun a=>(this.2 a).symm⟩
 ·exact gen q hi fun e h1 h2=>(h e h1 h2).symm
theorem yu4 {Fs:Nat→Fr} {vs:Nat→V} (hput:∀j s,ss[j]?=some s→Fs (j+1)=Am.put (Fs j) s.dst (vs j)) (t:Nat):∀j,j≤ss.length→LW ss vs (ybg (Fs 0) t) t (·<j) (ybg (Fs j) t)
 | 0,_=>.inr ⟨fun i s h=>absurd h (by omega),rfl⟩
 | j+1,hj=>by
  have hs:ss[j]?=some ss[j]:=kB (by omega)
  rw [hput j _ hs,yjf]
  have ih:=yu4 hput t j (by omega)
  by_cases hd:(ss[j]).dst=some t
  ·rw [if_pos hd]
   exact .inl ⟨j,_,by omega,hs,hd,rfl,fun i' s' h1 _ _=>by omega⟩
  ·rw [if_neg hd]
   have no:∀i s,ss[i]?=some s→s.dst=some t→(i<j+1↔i<j):=fun i s h1 h2=>by
    constructor
    ·intro h3
     rcases Nat.lt_or_ge i j with h4 | h4
     ·exact h4
     ·have:i=j:=by omega
      subst this
      rw [hs] at h1;injection h1 with h1;subst h1
      exact absurd h2 hd
    ·intro;omega
   rcases ih with ⟨i,s,a1,a2,a3,a4,a5⟩ | ⟨a1,a2⟩
   ·exact .inl ⟨i,s,by omega,a2,a3,a4,fun i' s' h1 h2 h3=>a5 i' s' ((no i' s' h2 h3).1 h1) h2 h3⟩
   ·exact .inr ⟨fun i s h1 h2 h3=>a1 i s ((no i s h2 h3).1 h1) h2 h3,a2⟩
end
theorem yvp {l:List PendE} (hd:l.Pairwise (fun a b=>a.id≠b.id)) (C:Hp) (p q r:PendE→Bool) (h:∀x,r x=(p x||q x)) (hpq:∀x∈l,p x=true→q x=false):
  y6p C (l.filter r)=y6p (y6p C (l.filter p)) (l.filter q):=by
 have e1:∀k,(y6p C (l.filter r)).get k=(y6p (y6p C (l.filter p)) (l.filter q)).get k:=fun k=>by
  rcases y6w (C:=y6p C (l.filter p)) (hd.filter q) k with ⟨x,hx,rfl,hg⟩ | ⟨hn,hg⟩
  ·rw [hg]
   rw [kf] at hx
   exact yd3 _ _ (hd.filter r) x (List.mem_filter.2 ⟨hx.1,by rw [h];simp [hx.2]⟩)
  ·rw [hg]
   rcases y6w (C:=C) (hd.filter p) k with ⟨x,hx,rfl,hg'⟩ | ⟨hn',hg'⟩
   ·rw [hg']
    rw [kf] at hx
    exact yd3 _ _ (hd.filter r) x (List.mem_filter.2 ⟨hx.1,by rw [h];simp [hx.2]⟩)
   ·rw [hg']
    refine ycu _ _ _ fun x hx e=>?_
    rw [kf,h] at hx
    cases hp:p x with
    | true=>exact hn' x (List.mem_filter.2 ⟨hx.1,hp⟩) e
    | false=>exact hn x (List.mem_filter.2 ⟨hx.1,by simpa [hp] using hx.2⟩) e
 have e2:(y6p C (l.filter r)).next=(y6p (y6p C (l.filter p)) (l.filter q)).next:=by rw [y7k,y7k,y7k]
 cases h1:y6p C (l.filter r) with
 | mk g1 n1=>
  cases h2:y6p (y6p C (l.filter p)) (l.filter q) with
  | mk g2 n2=>
   rw [h1,h2] at e1 e2
   simp only [Hp.mk.injEq]
   exact ⟨funext e1,e2⟩
end Go.Proofs.YthmkcebbeehbeaaGreatDoor.Am
