/- Part 12 of the proof of the laws of the queries: AmI. -/
import Derived.Test.YtikpijbeobeckaaGreatDoorXLw11
set_option linter.unusedSimpArgs false
set_option linter.unusedVariables false
namespace Go.Proofs.YtikpijbeobeckaaGreatDoor.Am
open Go Go.RowKit
def y4i (i:TxI):Bool:=match i.cl with
  | some .eff=>true
  | _=>false
def y7j (inf:Nat→TxI) (bs:List Nat) (j a:Nat):Bool:=(List.range j).any fun e=>y4i (inf e)&&y3d bs a e
theorem y8m (inf:Nat→TxI) (bs:List Nat) (j a:Nat):y7j inf bs (j+1) a=(y7j inf bs j a||(y4i (inf j)&&y3d bs a j)):=by
  unfold y7j;rw [List.range_succ,List.any_append];simp
section
variable {P:Program} {n:Nat} {ops:Array Oper} {bs:List Nat} {N:Nat} {ss:List AStep} {st:Nat→TxS} {inf:Nat→TxI}
structure Made (N:Nat) (st:Nat→TxS) (inf:Nat→TxI) (j idx:Nat) (p:PendE):Prop where
  id:p.id=N+idx
  lt:p.i<j
  cl:(inf p.i).cl=none
  eq:p=yaq N p.i (st p.i) (inf p.i)
theorem y6o (hst:∀j s,ss[j]?=some s→StA P n ops bs N j s (st j) (st (j+1)) (inf j)) (h0:(st 0).als=[]):∀j,j≤ss.length→∀idx p,(st j).als[idx]?=some p→Made N st inf j idx p
  | 0,_,idx,p,h=>by rw [h0] at h;simp at h
  | j+1,hj,idx,p,h=>by
    have hs:=hst j _ (List.getElem?_eq_getElem (show j<ss.length by omega))
    have ih:=y6o hst h0 j (by omega)
    unfold StA at hs
    cases hc:(inf j).cl with
    | none=>
      simp only [hc] at hs
      rw [hs.2.2.2.1] at h
      by_cases hi:idx<(st j).als.length
      · rw [List.getElem?_append_left hi] at h
        have:=ih idx p h
        exact ⟨this.id,by have:=this.lt;omega,this.cl,this.eq⟩
      · rw [List.getElem?_append_right (by omega)] at h
        have hz:idx-(st j).als.length=0:=by
          have:=(List.getElem?_eq_some_iff.1 h).1
          simp at this;omega
        rw [hz] at h
        simp at h;subst h
        have:idx=(st j).als.length:=by omega
        exact ⟨by simp [yaq,this],by simp [yaq],hc,rfl⟩
    | some c=>
      simp only [hc] at hs
      rw [hs.2.1] at h
      have:=ih idx p h
      exact ⟨this.id,by have:=this.lt;omega,this.cl,this.eq⟩
theorem ye2 (hst:∀j s,ss[j]?=some s→StA P n ops bs N j s (st j) (st (j+1)) (inf j)) (h0:(st 0).als=[]) (j:Nat):∀d,j+d≤ss.length→(st j).als=(st (j+d)).als.filter fun p=>decide (p.i<j)
  | 0,h=>by
    symm
    rw [Nat.add_zero,List.filter_eq_self]
    intro p hp
    obtain ⟨idx,hi⟩:=List.mem_iff_getElem?.1 hp
    have:=(y6o hst h0 j h idx p hi).lt
    simpa using this
  | d+1,h=>by
    have ih:=ye2 hst h0 j d (by omega)
    have hs:=hst (j+d) _ (List.getElem?_eq_getElem (show j+d<ss.length by omega))
    unfold StA at hs
    rw [show j+(d+1)=j+d+1 by omega]
    cases hc:(inf (j+d)).cl with
    | none=>
      simp only [hc] at hs
      rw [hs.2.2.2.1,List.filter_append,←ih]
      simp [yaq]
    | some c=>
      simp only [hc] at hs
      rw [hs.2.1,←ih]
theorem yfl (hst:∀j s,ss[j]?=some s→StA P n ops bs N j s (st j) (st (j+1)) (inf j)) (h0:(st 0).als=[]) (h1:(st 0).ps=[]) (hbf:∀i j,y3d bs i j=true→i<j):
    ∀j,j≤ss.length→(st j).ps=(st j).als.filter fun p=>!y7j inf bs j p.i
  | 0,_=>by rw [h0,h1];rfl
  | j+1,hj=>by
    have ih:=yfl hst h0 h1 hbf j (by omega)
    have hs:=hst j _ (List.getElem?_eq_getElem (show j<ss.length by omega))
    have hm:=y6o hst h0 j (by omega)
    unfold StA at hs
    cases hc:(inf j).cl with
    | none=>
      simp only [hc] at hs
      have he:y4i (inf j)=false:=by simp [y4i,hc]
      rw [hs.2.2.2.1,hs.2.2.2.2,List.filter_append,ih]
      congr 1
      · apply List.filter_congr
        intro p _
        rw [y8m,he];simp
      · have:y7j inf bs (j+1) j=false:=by
          unfold y7j
          rw [List.any_eq_false]
          intro e he'
          cases hb:y3d bs j e with
          | false=>simp
          | true=>
            have:=hbf j e hb
            have:e<j+1:=by simpa using he'
            omega
        simp [yaq,this]
    | some c=>
      simp only [hc] at hs
      rw [hs.2.1]
      by_cases hce:c=.eff
      · subst hce
        have he:y4i (inf j)=true:=by simp [y4i,hc]
        rw [(hs.2.2.1 rfl).2,ih,aft,List.filter_filter]
        apply List.filter_congr
        intro p _
        rw [y8m,he]
        cases y7j inf bs j p.i <;> cases y3d bs p.i j <;> rfl
      · have he:y4i (inf j)=false:=by
          unfold y4i;rw [hc];cases c <;> first | rfl | exact absurd rfl hce
        rw [(hs.2.2.2 hce).2,ih]
        apply List.filter_congr
        intro p _
        rw [y8m,he];simp
theorem yiv (hst:∀j s,ss[j]?=some s→StA P n ops bs N j s (st j) (st (j+1)) (inf j)) (i:Nat):∀d,i+d≤ss.length→(∀e,i≤e→e<i+d→y4i (inf e)=false)→(st (i+d)).C=(st i).C∧∀a,y7j inf bs (i+d) a=y7j inf bs i a
  | 0,_,_=>⟨rfl,fun _=>rfl⟩
  | d+1,h,he=>by
    have ih:=yiv hst i d (by omega) fun e h1 h2=>he e h1 (by omega)
    have hs:=hst (i+d) _ (List.getElem?_eq_getElem (show i+d<ss.length by omega))
    have hf:=he (i+d) (by omega) (by omega)
    unfold StA at hs
    rw [show i+(d+1)=i+d+1 by omega]
    refine ⟨?_,fun a=>by rw [y8m,hf,ih.2];simp⟩
    cases hc:(inf (i+d)).cl with
    | none=>simp only [hc] at hs;rw [hs.2.2.1];exact ih.1
    | some c=>
      simp only [hc] at hs
      have hce:c≠.eff:=by rintro rfl;simp [y4i,hc] at hf
      rw [(hs.2.2.2 hce).1];exact ih.1
theorem y8l (hst:∀j s,ss[j]?=some s→StA P n ops bs N j s (st j) (st (j+1)) (inf j)) {i j:Nat} (hi:i≤ss.length) (hj:j≤ss.length) (h:∀e,e<ss.length→y4i (inf e)=true→(e<i↔e<j)):(st i).C=(st j).C∧∀a,y7j inf bs i a=y7j inf bs j a:=by
  have gen:∀{i j:Nat},i≤j→j≤ss.length→(∀e,e<ss.length→y4i (inf e)=true→(e<i↔e<j))→(st j).C=(st i).C∧∀a,y7j inf bs j a=y7j inf bs i a:=fun {i j} hij hj h=>by
    have:=yiv (bs:=bs) hst i (j-i) (by omega) fun e h1 h2=>by
      cases hc:y4i (inf e) with
      | false=>rfl
      | true=>have:=(h e (by omega) hc);omega
    rwa [show i+(j-i)=j by omega] at this
  rcases Nat.le_total i j with q | q
  · have:=gen q hj h
    exact ⟨this.1.symm,fun a=>(this.2 a).symm⟩
  · exact gen q hi fun e h1 h2=>(h e h1 h2).symm
theorem yl4 {Fs:Nat→Fr} {vs:Nat→V} (hput:∀j s,ss[j]?=some s→Fs (j+1)=Am.put (Fs j) s.dst (vs j)) (t:Nat):∀j,j≤ss.length→LW ss vs (y6c (Fs 0) t) t (·<j) (y6c (Fs j) t)
  | 0,_=>.inr ⟨fun i s h=>absurd h (by omega),rfl⟩
  | j+1,hj=>by
    have hs:ss[j]?=some ss[j]:=List.getElem?_eq_getElem (by omega)
    rw [hput j _ hs,ycc]
    have ih:=yl4 hput t j (by omega)
    by_cases hd:(ss[j]).dst=some t
    · rw [if_pos hd]
      exact .inl ⟨j,_,by omega,hs,hd,rfl,fun i' s' h1 _ _=>by omega⟩
    · rw [if_neg hd]
      have no:∀i s,ss[i]?=some s→s.dst=some t→(i<j+1↔i<j):=fun i s h1 h2=>by
        constructor
        · intro h3
          rcases Nat.lt_or_ge i j with h4 | h4
          · exact h4
          · have:i=j:=by omega
            subst this
            rw [hs] at h1;injection h1 with h1;subst h1
            exact absurd h2 hd
        · intro;omega
      rcases ih with ⟨i,s,a1,a2,a3,a4,a5⟩ | ⟨a1,a2⟩
      · exact .inl ⟨i,s,by omega,a2,a3,a4,fun i' s' h1 h2 h3=>a5 i' s' ((no i' s' h2 h3).1 h1) h2 h3⟩
      · exact .inr ⟨fun i s h1 h2 h3=>a1 i s ((no i s h2 h3).1 h1) h2 h3,a2⟩
end
theorem ymk {l:List PendE} (hd:l.Pairwise (fun a b=>a.id≠b.id)) (C:Hp) (p q r:PendE→Bool) (h:∀x,r x=(p x||q x)) (hpq:∀x∈l,p x=true→q x=false):
    y3o C (l.filter r)=y3o (y3o C (l.filter p)) (l.filter q):=by
  have e1:∀k,(y3o C (l.filter r)).get k=(y3o (y3o C (l.filter p)) (l.filter q)).get k:=fun k=>by
    rcases y3t (C:=y3o C (l.filter p)) (hd.filter q) k with ⟨x,hx,rfl,hg⟩ | ⟨hn,hg⟩
    · rw [hg]
      rw [List.mem_filter] at hx
      exact y7b _ _ (hd.filter r) x (List.mem_filter.2 ⟨hx.1,by rw [h];simp [hx.2]⟩)
    · rw [hg]
      rcases y3t (C:=C) (hd.filter p) k with ⟨x,hx,rfl,hg'⟩ | ⟨hn',hg'⟩
      · rw [hg']
        rw [List.mem_filter] at hx
        exact y7b _ _ (hd.filter r) x (List.mem_filter.2 ⟨hx.1,by rw [h];simp [hx.2]⟩)
      · rw [hg']
        refine y77 _ _ _ fun x hx e=>?_
        rw [List.mem_filter,h] at hx
        cases hp:p x with
        | true=>exact hn' x (List.mem_filter.2 ⟨hx.1,hp⟩) e
        | false=>exact hn x (List.mem_filter.2 ⟨hx.1,by simpa [hp] using hx.2⟩) e
  have e2:(y3o C (l.filter r)).next=(y3o (y3o C (l.filter p)) (l.filter q)).next:=by rw [y43,y43,y43]
  cases h1:y3o C (l.filter r) with
  | mk g1 n1=>
    cases h2:y3o (y3o C (l.filter p)) (l.filter q) with
    | mk g2 n2=>
      rw [h1,h2] at e1 e2
      simp only [Hp.mk.injEq]
      exact ⟨funext e1,e2⟩
end Go.Proofs.YtikpijbeobeckaaGreatDoor.Am
