/- Part 39 of the proof of the laws of the queries: RecP, RdP, RrW. -/
import Derived.Test.YthmkcebbeehbeaaGreatDoorXBw34
import Derived.Test.YthmkcebbeehbeaaGreatDoorXBw36
import Derived.Test.YthmkcebbeehbeaaGreatDoorXBw37
import Derived.Test.YthmkcebbeehbeaaGreatDoorXBw38
set_option linter.unusedSimpArgs false
set_option linter.unusedVariables false
namespace Go.Proofs.YthmkcebbeehbeaaGreatDoor
open Am C
theorem Am.free_fp {cs:List V} (off:Nat) (h:∀v∈cs,yd1 v):yd1 (.fp cs off):=.fp cs off (yir h)
theorem RW.start {B X:Hp} {id:Nat} {pv sv:V} {lid:Option Nat} (hB:∀k blk,B.get k=some blk→k<B.next) (hx:B.Ext X) (hl:∀k blk,X.get k=some blk→k<X.next) (lo:B.next≤id)
    (hg:X.get id=some (.cells [.pz 109 6 id 6,.sl none 0 0,.i .i64 0,pv,sv,.i .i64 0] 6)) (hk:∀k,lid=some k→X.get k=some (.cells [.sl none 0 0] 1)∧k≠id∧B.next≤k):RW B id pv sv lid (fun _=>none) ⟨0,[],0,[]⟩ X:=by
  have A:Acc B 1 (.sl none 0 0) X []:=Acc.nil 1 0 hx hl
  refine ⟨.sl none 0 0,.sl none 0 0,[],⟨hB,by kernel_rfl,rfl,lo,A,trivial,_,_,6,hg,by omega,.inr rfl,.inl ⟨rfl,0,rfl⟩⟩,A,fun j=>.inl trivial,trivial,fun k h=>?_,fun k blk h=>by cases h⟩
  obtain ⟨a,b,c⟩:=hk k h
  exact ⟨rfl,a,trivial,trivial,b,c⟩
theorem yj4 (s:Su) (hb:(evS s).length≤1000000) (H:Hp):AC Tryz.prog yb6 [.agg (y5u s)] H (fun v H'=>v=ss (y4f s)∧H'=H):=by
  refine AC.codeP y3i.at y3i.ok (ydy _) fun hlt=>?_
  simp only [y3i]
  apply jA
  simp [y3i.r0,y5u]
  apply jA
  simp [y3i.r1]
  apply jA
  simp [y3i.r2]
  have e1:=Am.Hp.Ext.add hlt (.cells [.sl none 0 0] 1)
  have l1:=Hp.add_lt hlt (.cells [.sl none 0 0] 1)
  have e2:=e1.trans (Am.Hp.Ext.add l1 (.cells [.pz 109 6 (H.next+1) 6,.sl none 0 0,.i .i64 0,.p none,.fn y60 [.p (some (H.next,0,1))],.i .i64 0] 6))
  have l2:=Hp.add_lt l1 (.cells [.pz 109 6 (H.next+1) 6,.sl none 0 0,.i .i64 0,.p none,.fn y60 [.p (some (H.next,0,1))],.i .i64 0] 6)
  have R0:RW H (H.next+1) (.p none) (.fn y60 [.p (some (H.next,0,1))]) (some H.next) (fun _=>none) ⟨0,[],0,[]⟩ ((H.add (.cells [.sl none 0 0] 1)).add (.cells [.pz 109 6 (H.next+1) 6,.sl none 0 0,.i .i64 0,.p none,.fn y60 [.p (some (H.next,0,1))],.i .i64 0] 6)):=
    RW.start hlt e2 l2 (by omega) (by simp) (fun k h=>by injection h with h;subst h;exact ⟨by simp,by omega,Nat.le_refl _⟩)
  generalize (H.add (.cells [.sl none 0 0] 1)).add (.cells [.pz 109 6 (H.next+1) 6,.sl none 0 0,.i .i64 0,.p none,.fn y60 [.p (some (H.next,0,1))],.i .i64 0] 6)=X0 at *
  apply jA
  simp [y3i.r3]
  have hp:yd0 [] (.p none):=⟨by simp [y4h],by simp,.inl ⟨rfl,rfl⟩⟩
  have hrun:=yul (pool:=[]) (.inl ⟨_,rfl,rfl⟩) hp s R0 (by unfold rwB;simp;omega)
  simp only [y5u] at hrun
  refine hrun.mono ?_
  rintro _ Y ⟨rfl,Z',R⟩
  simp
  obtain ⟨v,lv,es,W,A,d,sp,hk,hz⟩:=R.ex
  obtain ⟨rfl,gk,_,_,_,_⟩:=hk _ rfl
  have hl:(y8c [] ⟨0,[],0,[]⟩ (evS s)).l=txs (evS s):=by rw [yne];rfl
  rw [hl] at A
  have htl:∀es:List Ev,(txs es).length≤es.length:=fun es=>by
    induction es with
    | nil=>simp [txs]
    | cons x r ih=>cases x <;> simp [txs] <;> omega
  apply jA
  simp [y3i.r4,gk]
  refine AC.frz (fun j=>¬ye9 lv j) (AC.fix (ykc (txs (evS s)) (by have:=htl (evS s);omega) _) ?_) rfl (fun j a b ha hb=>by
    cases j with
    | zero=>simp at ha hb;subst ha;subst hb;exact A.frzS
    | succ j=>simp at ha)
  simp
  apply jD
  simp
  refine ⟨⟨A.ext.1,fun k blk h=>?_⟩,.refl _⟩
  exact Hp.wo_get (A.ext.2 _ _ h) (fun h2=>h2 (A.sepOld (hlt _ _ h)))
theorem POf_ok (l:List Str) (hl:l.length≤1000000) (H:Hp):AC Tryz.prog yil [ss l] H (fun v H'=>v=.fp [ss (y6y l)] 0∧H'=H):=by
  refine AC.codeP y7h.at y7h.ok (free_fp _ (fun v h=>by simp at h;subst h;exact ydy _)) fun hlt=>?_
  simp only [y7h]
  apply jA
  simp [y7h.r0]
  apply jA
  simp [y7h.r1]
  refine AC.fix (ykc l hl _) ?_
  simp [ss]
  apply jD
  simp
  exact ⟨.add hlt _,.p _ _ _ 1 [ss (y6y l)] [ss (y6y l)] (Nat.le_refl _) (by simp [ss]) (by omega) (by simp) (by simp) (fun j v u hj hu=>by rw [hj] at hu;injection hu with hu;subst hu;exact .refl _)⟩
theorem yjv (τ:Qw) (n:Int) (h:(yd7 τ n).e=0):τ.e=0∧τ.bs.length+1≤(yd7 τ n).bs.length:=by
  unfold yd7 at h ⊢
  split at h
  · rename_i he;exact (he h).elim
  · rename_i he
    rw [if_neg he]
    split at h
    · simp at h
    · rename_i hn
      rw [if_neg hn]
      have:=List.length_pos_iff.2 (yn8 n.toNat)
      simp at he ⊢
      exact ⟨he,by omega⟩
theorem ysg (pool:List Str) (τ:Qw) (x:Ev) (h:(yn5 pool τ x).e=0):τ.e=0∧τ.bs.length+1≤(yn5 pool τ x).bs.length:=by
  cases x with
  | num n=>exact yjv τ n h
  | txt s=>
    simp only [yn5,ynk] at h ⊢
    obtain ⟨h1,h2⟩:=yjv _ _ h
    refine ⟨?_,h2⟩
    simp only at h1
    split at h1
    · simp at h1
    · exact h1
theorem yjw (pool:List Str):∀(es:List Ev) (τ:Qw),(yf6 pool τ es).e=0→τ.e=0∧τ.bs.length+es.length≤(yf6 pool τ es).bs.length
  | [],τ,h=>⟨h,by simp⟩
  | x::es,τ,h=>by
    obtain ⟨h1,h2⟩:=yjw pool es _ h
    obtain ⟨h3,h4⟩:=ysg pool τ x h1
    exact ⟨h3,by rw [ybt,List.length_cons];omega⟩
theorem yoj (pool:List Str) (hr:y4h pool) (hl:pool.length≤1000000000) (s:Su) (hb:(evS s).length≤1000000) (H:Hp):
    AC Tryz.prog ycv [.fp [ss pool] 0,.agg (y5u s)] H (fun v H'=>v=.tup [.s (ylg pool s).1,.i .i64 (ylg pool s).2]∧H'=H):=by
  refine AC.codeP y38.at y38.ok (yf2 (by simp)) fun hlt=>?_
  simp only [y38]
  apply jA
  simp [y38.r0,y5u]
  apply jA
  simp [y38.r1]
  have e1:=Am.Hp.Ext.add hlt (.cells [.pz 109 6 H.next 6,.sl none 0 0,.i .i64 0,.fp [ss pool] 0,.fn y6o [],.i .i64 0] 6)
  have l1:=Hp.add_lt hlt (.cells [.pz 109 6 H.next 6,.sl none 0 0,.i .i64 0,.fp [ss pool] 0,.fn y6o [],.i .i64 0] 6)
  have R0:RW H H.next (.fp [ss pool] 0) (.fn y6o []) none (fun _=>none) ⟨0,[],0,[]⟩ (H.add (.cells [.pz 109 6 H.next 6,.sl none 0 0,.i .i64 0,.fp [ss pool] 0,.fn y6o [],.i .i64 0] 6)):=
    RW.start hlt e1 l1 (by omega) (by simp) (fun k h=>by cases h)
  simp only [y6o] at R0 e1 l1
  generalize H.add (.cells [.pz 109 6 H.next 6,.sl none 0 0,.i .i64 0,.fp [ss pool] 0,.fn 74 [],.i .i64 0] 6)=X0 at *
  apply jA
  simp [y38.r2]
  have hrun:=yul (pool:=pool) (.inr ⟨rfl,rfl⟩) ⟨hr,hl,.inr rfl⟩ s R0 (by unfold rwB;simp;omega)
  simp only [y5u] at hrun
  refine hrun.mono ?_
  rintro _ Y ⟨rfl,Z',R⟩
  have hRQ:=RQ.evs (pool:=pool) (evS s) RQ.start
  have hgr:=yjw pool (evS s) qw0
  generalize y8c pool ⟨0,[],0,[]⟩ (evS s)=σ at *
  unfold ylg
  generalize yf6 pool qw0 (evS s)=τ at *
  obtain ⟨q1,q2,q3⟩:=hRQ
  obtain ⟨v,lv,es,W,A,d,sp,hk,hz⟩:=R.ex
  obtain ⟨a,buf,m,hg,hm,h⟩:=W.ex
  simp
  apply jB
  simp [y38.r3,hg,hm]
  by_cases he:σ.e=0
  · have ht:τ.e=0:=by rw [←q1];exact he
    obtain ⟨q4,q5⟩:=q2 he
    refine jF (by simp [he]) (AX.skip ?_)
    simp
    apply jA
    simp [y38.r5,hg,hm]
    have hne:σ.bs≠[]:=fun h0=>by
      have:=(hgr ht).2
      rw [←q5,h0] at this
      simp [evS] at this
    refine (yla W hne).mono ?_
    rintro _ X2 ⟨rfl,n2,k2⟩
    rw [q4]
    simp
    apply jD
    simp [ht,q5]
    exact ⟨⟨by rw [n2];exact W.acc.ext.1,fun k blk h=>k2 _ _ (W.acc.ext.2 _ _ h) (W.acc.sepOld (hlt _ _ h))⟩,.refl _⟩
  · have ht:τ.e≠0:=by rw [←q1];exact he
    refine jG (by simp [he]) ?_
    refine AX.seq (AX.drw ?_)
    simp [y38.r4,hg,hm]
    apply jD
    simp [ht,q1]
    exact ⟨W.acc.ext,.refl _⟩
theorem ysy (last:Str) (k:Nat) (rest:Str) (first:Bool):(yc1 last k rest first).1.length≤1000∧0≤(yc1 last k rest first).2∧(yc1 last k rest first).2≤13∧(yc1 last k rest first).2≠6:=by
  unfold yc1
  split
  · simp
  · split
    · simp
    · split
      · simp
      · split
        · simp
        · rename_i h _ _;simp at h ⊢;omega
theorem PNext_ok (last:Str) (k:Nat) (rest:Str) (first:Bool) (hl:last.length≤1000) (hk:k≤268435456) (hr:rest.length≤1000000000) (H:Hp):
    AC Tryz.prog yfn [.s last,.i .i64 (k:Nat),.s rest,.b first] H (fun v H'=>v=.tup [.s (yc1 last k rest first).1,.i .i64 (yc1 last k rest first).2]∧H'=H):=by
  refine AC.code y2t.at y2t.ok ?_
  simp only [y2t]
  apply jA
  simp [y2t.r0]
  apply jB
  simp [y2t.r1]
  by_cases h1:last.length<k
  · have hn:yc1 last k rest first=([],2):=by unfold yc1;rw [if_pos h1]
    refine jG (by simp [h1]) ?_
    apply jA
    simp [y2t.r2]
    apply jD
    simp [hn]
  have hn:yc1 last k rest first=if 1000<(last.take k++rest).length then ([],9) else if first=false∧(ltB (last.take k++rest) last||(last.take k++rest == last))=true then ([],13)
      else if shN last (last.take k++rest)≠k then ([],3) else (last.take k++rest,0):=by unfold yc1;rw [if_neg h1]
  rw [hn]
  have hsl:(last.take k++rest).length≤1000001000:=by simp;omega
  have htk:min k last.length=k:=by omega
  refine jF (by simp;omega) (AX.skip ?_)
  simp
  apply jA
  simp [y2t.r3,show k≤last.length by omega]
  have hn2:(last.take k++rest).length=k+rest.length:=by simp;omega
  rw [←hn2]
  generalize last.take k++rest=s at *
  refine ⟨by omega,?_⟩
  apply jC
  simp [y2t.r4]
  by_cases h2:1000<s.length
  · rw [if_pos h2]
    refine jG (by simp [h2]) ?_
    apply jA
    simp [y2t.r5]
    apply jD
    simp
  rw [if_neg h2]
  refine jF (by simp [h2]) ?_
  refine AX.test (!first&&(ltB s last||s == last)) [(0,.s last),(1,.i .i64 (k:Nat)),(10,.s s),(24,.b (!first&&(ltB s last||s == last)))] ?_ rfl (fun h3=>?_) (fun h3=>?_)
  · cases first
    · simp [y2t.r6]
    · simp [y2t.r6]
  · rw [if_pos (by simpa using h3)]
    apply jA
    simp [y2t.r7]
    apply jD
    simp
  rw [if_neg (by rintro ⟨h5,h6⟩;subst h5;simp at h3 h6;exact h6.elim (fun h=>by rw [h] at h3;exact Bool.noConfusion h3.1) (fun h=>h3.2 h))]
  apply jA
  simp [y2t.r8]
  refine AC.fix (ylp _ _ (by omega) (by omega) _) ?_
  simp
  by_cases h4:shN last s=k
  · rw [if_pos h4]
    refine jF (by simp [h4]) (AX.skip ?_)
    simp
    apply jA
    simp [y2t.r10]
    apply jD
    simp
  · rw [if_neg h4]
    refine jG (by simp [h4]) ?_
    apply jA
    simp [y2t.r9]
    apply jD
    simp
theorem yly {t:Str} {σ:Rd} (h:σ.e≠0) (n:Nat) (f:Bool) (last:Str) (acc:List Str):y9i t n f last acc σ=(acc,σ):=by
  cases n with
  | zero=>rfl
  | succ n=>simp only [y9i];rw [if_pos h]
theorem ynj {t:Str} {σ:Rd} {n i:Nat} (hi:i<n) (h:σ.e=0) (f:Bool) (last:Str) (acc:List Str):
    y9i t (n-i) f last acc σ=if (y8t t (y41 t σ).2).2.e≠0 then (acc,(y8t t (y41 t σ).2).2) else
      y9i t (n-(i+1)) false (yc1 last (y41 t σ).1 (y8t t (y41 t σ).2).1 f).1 (acc++[(yc1 last (y41 t σ).1 (y8t t (y41 t σ).2).1 f).1]) (y6r (y8t t (y41 t σ).2).2 (yc1 last (y41 t σ).1 (y8t t (y41 t σ).2).1 f).2):=by
  rw [show n-i=(n-(i+1))+1 by omega]
  simp only [y9i]
  rw [if_neg (by simp [h])]
def ym5 (r:List Str × Rd):V:=if r.2.e=0 then .fp [ss r.1] 0 else .p none
theorem yk3 (r:List Str × Rd):yd1 (ym5 r):=by
  unfold ym5
  split
  · exact free_fp _ (fun v h=>by simp at h;subst h;exact ydy _)
  · exact free_p0
def PrInv (t:Str) (H:Hp) (id n:Nat) (R:List Str × Rd) (m:Nat) (F:Fr) (X:Hp):Prop:=
  ∃i last acc σ pid lv,i≤n∧m=n-i∧y8e t σ∧last.length≤1000∧acc.length≤i∧y9i t (n-i) (decide (i=0)) last acc σ=R∧RX H id t σ X∧Acc (H.del id) 1 lv X (tcl acc)∧ye9 lv pid∧H.next≤pid∧pid<X.next∧X.get pid=some (.cells [lv] 1)∧
    F=[(0,.p (some (id,0,3))),(4,.p (some (pid,0,1))),(5,.i .i64 (n:Nat)),(6,.s last),(7,.i .i64 i)]
theorem PRead_ok {t:Str} {σ0:Rd} {id:Nat} {H:Hp} (ho:y8e t σ0) (ht:t.length≤1000000000) (hg:H.get id=some (.cells (rdc t σ0) 3)):
    AC Tryz.prog yfo [.p (some (id,0,3))] H (fun v H'=>v=.tup [ym5 (y84 t σ0),.i .i64 (y84 t σ0).2.e]∧H'=H.upd id (.cells (rdc t (y84 t σ0).2) 3)):=by
  refine AC.codeU y19.at y19.ok hg (yez _ _) (yf2 (by simp [yk3])) fun hlt=>?_
  obtain ⟨R,hR⟩:∃R,R=y84 t σ0:=⟨_,rfl⟩
  rw [←hR]
  simp only [y19]
  apply jA
  simp [y19.r0]
  apply jB
  simp [y19.r1]
  refine jF rfl (AX.skip ?_)
  simp
  apply jA
  simp [y19.r3]
  have X0:=(RX.start hlt hg).more (.add hlt (.cells [.sl none 0 0] 1)) (Hp.add_lt hlt _)
  have gp:(H.add (.cells [.sl none 0 0] 1)).get H.next=some (.cells [.sl none 0 0] 1):=by simp
  have np:H.next<(H.add (.cells [.sl none 0 0] 1)).next:=by simp
  generalize H.add (.cells [.sl none 0 0] 1)=Y0 at *
  have hidp:H.next≠id:=by have:=hlt _ _ hg;omega
  apply jA
  simp [y19.r4]
  refine AC.fix (y97 ho (by omega) X0.get) ?_
  obtain ⟨ho1,hn1⟩:=y6h ho
  have X1:=X0.upd (y41 t σ0).2
  have gp1:(Y0.upd id (.cells (rdc t (y41 t σ0).2) 3)).get H.next=some (.cells [.sl none 0 0] 1):=by simp [hidp,gp]
  have np1:H.next<(Y0.upd id (.cells (rdc t (y41 t σ0).2) 3)).next:=by simpa using np
  generalize Y0.upd id (.cells (rdc t (y41 t σ0).2) 3)=Y1 at *
  simp
  have hcut:∃σ2,σ2=(if 6000<(y41 t σ0).1 then y6r (y41 t σ0).2 4 else (y41 t σ0).2)∧y8e t σ2:=by
    refine ⟨_,rfl,?_⟩
    split
    · exact yee ho1 (by omega) (by omega) (by omega)
    · exact ho1
  obtain ⟨σ2,hσ2,ho2⟩:=hcut
  have hR2:y9i t (y41 t σ0).1 true [] [] σ2=R:=by rw [hR,hσ2];rfl
  generalize (y41 t σ0).1=n at *
  refine AX.seq (AX.mono (Q:=y82.then (fun F X=>F=[(0,.p (some (id,0,3))),(4,.p (some (H.next,0,1))),(5,.i .i64 (n:Nat))]∧RX H id t σ2 X∧X.get H.next=some (.cells [.sl none 0 0] 1)∧H.next<X.next) fun _ _ _=>False) (jA ?_) ?_)
  · simp [y19.r5]
    by_cases h6:6000<n
    · rw [if_pos h6] at hσ2
      refine jG (by simp [h6]) (AX.reg ?_)
      simp [y19.r6]
      refine AC.fix (yet X1.get 4) ?_
      rw [←hσ2]
      simp
      exact ⟨X1.upd σ2,by simp [hidp,gp1],by simpa using np1⟩
    · rw [if_neg h6] at hσ2
      refine jF (by simp [h6]) (AX.skip ?_)
      simp
      rw [hσ2]
      exact ⟨X1,gp1,np1⟩
  intro x F X hx
  cases x with
  | exit k=>exact hx.elim
  | ret=>exact hx.elim
  | normal=>
  obtain ⟨rfl,X2,gp2,np2⟩:=hx
  simp only [y82.then]
  apply jA
  simp [y19.r7]
  apply jB
  simp [y19.r8]
  refine AX.pblock (AX.loop (PrInv t H id n R) n ⟨_,_,.refl _ _,0,[],[],σ2,H.next,.sl none 0 0,by omega,by omega,ho2,by simp,by simp,by simpa using hR2,X2,X2.accNil 1 0,trivial,Nat.le_refl _,np2,gp2,by simp⟩ ?_)
  rintro m F X ⟨i,last,acc,σ,pid,lv,hi,rfl,ho,hll,hal,hres,RXX,A,sp,lo,pn,gp,rfl⟩
  have hne:pid≠id:=by have:=RXX.hid;omega
  have hend:∀{σ':Rd} {Y:Hp},y8e t σ'→RX H id t σ' Y→Acc (H.del id) 1 lv Y (tcl acc)→Y.get pid=some (.cells [lv] 1)→R=(acc,σ')→
      AX Tryz.prog 69 ((((ACode.post [4,12] (.region y19.r17)).seq ((ACode.post [4,12,66] (.region y19.r18)).seq (ACode.post [4] (.cond (.t 66) ((ACode.post [2,3] (.region y19.r19)).seq .ret) .skip)))).seq ((ACode.post [2,3] (.region y19.r20)).seq .ret))
        ) (Am.Ends (fun v H'=>(H.upd id (.cells (rdc t R.2) 3)).Ext H'∧Frz H' (fun k=>H.next≤k) v (.tup [ym5 R,.i .i64 R.2.e])) [.t 2,.t 3]) [(0,.p (some (id,0,3))),(4,.p (some (pid,0,1)))] Y:=by
    intro σ' Y ho' RY AY gY hRe
    apply jB
    simp [y19.r17]
    refine AC.fix (yj7 ho' RY.get) ?_
    simp
    apply jA
    simp [y19.r18]
    by_cases he:σ'.e=0
    · refine jF (by simp [he]) (AX.skip ?_)
      simp
      apply jA
      simp [y19.r20]
      apply jD
      simp [hRe,ym5,he]
      refine ⟨RY.fin,?_⟩
      refine .tup _ _ rfl fun j u v hu hv=>?_
      match j with
      | 0=>
        simp at hu hv;subst hu;subst hv
        refine .p pid 0 1 1 [lv] [ss acc] lo gY (by omega) (by simp) (by simp) fun j u v hu hv=>?_
        cases j with
        | zero=>simp at hu hv;subst hu;subst hv;exact AY.frz
        | succ j=>simp at hu
      | 1=>simp at hu hv;subst hu;subst hv;exact .refl _
      | j+2=>simp at hu
    · refine jG (by simp [he]) ?_
      apply jA
      simp [y19.r19]
      apply jD
      simp [hRe,ym5,he]
      exact ⟨RY.fin,.refl _⟩
  simp only [y19.l0]
  refine AX.seq (AX.seq (AX.mono (Q:=y82.then (fun F Y=>F=[(0,.p (some (id,0,3))),(4,.p (some (pid,0,1))),(5,.i .i64 (n:Nat)),(6,.s last),(7,.i .i64 i),(30,.b (decide (i<n)&&decide (σ.e=0)))]∧Y=X) fun _ _ _=>False) (AX.reg ?_) ?_))
  · by_cases h1:i<n
    · simp [y19.r9,h1]
      refine AC.fix (yj7 ho RXX.get) ?_
      simp
    · simp [y19.r9,h1]
  intro x F Y hx
  cases x with
  | exit k=>exact hx.elim
  | ret=>exact hx.elim
  | normal=>
  obtain ⟨rfl,rfl⟩:=hx
  simp only [y82.then]
  refine AX.pcond rfl (fun hd=>AX.skip ?_) (fun hd=>AX.exit ?_)
  · simp at hd
    obtain ⟨hin,he⟩:=hd
    have hstep:=ynj (t:=t) hin he (decide (i=0)) last acc
    rw [hres] at hstep
    obtain ⟨ho1,hn1⟩:=y6h ho
    obtain ⟨ho2,hn2⟩:=yhk ho1
    simp
    apply jC
    simp [y19.r10]
    refine AC.fix (y97 ho (by omega) RXX.get) ?_
    have R1:=RXX.upd (y41 t σ).2
    have A1:=RXX.acc A (y41 t σ).2
    have g1:(Y.upd id (.cells (rdc t (y41 t σ).2) 3)).get pid=some (.cells [lv] 1):=by simp [hne,gp]
    have n1:pid<(Y.upd id (.cells (rdc t (y41 t σ).2) 3)).next:=by simpa using pn
    generalize Y.upd id (.cells (rdc t (y41 t σ).2) 3)=Y1 at *
    simp
    refine AC.fix (ymx ho1 (by omega) R1.get) ?_
    have R2:=R1.upd (y8t t (y41 t σ).2).2
    have A2:=R1.acc A1 (y8t t (y41 t σ).2).2
    have g2:(Y1.upd id (.cells (rdc t (y8t t (y41 t σ).2).2) 3)).get pid=some (.cells [lv] 1):=by simp [hne,g1]
    have n2:pid<(Y1.upd id (.cells (rdc t (y8t t (y41 t σ).2).2) 3)).next:=by simpa using n1
    generalize Y1.upd id (.cells (rdc t (y8t t (y41 t σ).2).2) 3)=Y2 at *
    generalize (y8t t (y41 t σ).2).2=σ' at *
    generalize (y8t t (y41 t σ).2).1=rest at *
    generalize (y41 t σ).1=k at *
    simp
    apply jB
    simp [y19.r11]
    refine AC.fix (yj7 ho2 R2.get) ?_
    simp
    by_cases he2:σ'.e=0
    · rw [if_neg (by simp [he2])] at hstep
      refine jF (by simp [he2]) (AX.skip ?_)
      have hx:=ysy last k rest (decide (i=0))
      simp
      apply jA
      simp [y19.r12]
      refine AC.fix (PNext_ok last k rest (decide (i=0)) hll hn1 (by omega) _) ?_
      generalize (yc1 last k rest (decide (i=0))).1=s at *
      generalize (yc1 last k rest (decide (i=0))).2=e at *
      simp
      apply jA
      simp [y19.r13]
      refine AC.fix (yet R2.get e) ?_
      have ho3:=yee ho2 (x:=e) (by omega) (by omega) (by omega)
      have R3:=R2.upd (y6r σ' e)
      have A3:=R2.acc A2 (y6r σ' e)
      have g3:(Y2.upd id (.cells (rdc t (y6r σ' e)) 3)).get pid=some (.cells [lv] 1):=by simp [hne,g2]
      have n3:pid<(Y2.upd id (.cells (rdc t (y6r σ' e)) 3)).next:=by simpa using n2
      generalize Y2.upd id (.cells (rdc t (y6r σ' e)) 3)=Y3 at *
      obtain ⟨a4,l4,s4,Y4,e4,R4,A4,K4⟩:=R3.app (bytes:=16) A3 [.s s] rfl (by omega) rfl (by simp [tcl,ycg];omega)
      obtain ⟨g4,sp4⟩:=K4 _ _ g3 sp
      simp
      apply jA
      simp [y19.r14,g3,ydj,-y56,e4,g4]
      have pn4:=R4.lt _ _ g4
      have R5:RX H id t (y6r σ' e) (Y4.upd pid (.cells [.sl a4 l4 s4] 1)):=⟨R4.ext.upd R4.dlt lo _,Hp.upd_lt R4.lt pn4 _,by rw [Hp.get_upd,if_neg (Ne.symm hne)];exact R4.get,R4.hlt,R4.hid⟩
      have A5:Acc (H.del id) 1 (.sl a4 l4 s4) (Y4.upd pid (.cells [.sl a4 l4 s4] 1)) (tcl (acc++[s])):=by
        have:=A4.upd R4.dlt sp4 lo pn4 (.cells [.sl a4 l4 s4] 1)
        simpa [tcl] using this
      apply jE
      simp [y19.r15]
      apply jE
      simp [y19.r16,y5n (show i≤9223372036854775000 by unfold y8e at ho;omega)]
      exact ⟨n-(i+1),by omega,_,_,.refl _ _,i+1,s,acc++[s],y6r σ' e,pid,.sl a4 l4 s4,by omega,rfl,ho3,hx.1,by simp;omega,by simpa using hstep.symm,R5,A5,sp4,lo,by simpa using pn4,by simp,by simp⟩
    · rw [if_pos he2] at hstep
      refine jG (by simp [he2]) (AX.exit ?_)
      simp
      exact hend ho2 R2 A2 g2 hstep
  · simp at hd
    have hRe:R=(acc,σ):=by
      rw [←hres]
      by_cases h1:i<n
      · exact yly (hd h1) _ _ _ _
      · rw [show n-i=0 by omega];rfl
    simp
    exact hend ho RXX A gp hRe
structure RC (t:Str) (pv:V) (rid id:Nat) (σ:Rd) (X:Hp):Prop where
  hr:X.get rid=some (.cells [.p (some (id,0,3)),pv] 2)
  hg:X.get id=some (.cells (rdc t σ) 3)
  ne:rid≠id
section
variable {t:Str} {pv:V} {rid id:Nat} {σ:Rd} {X Y H:Hp} {pool:List Str}
theorem RC.upd (R:RC t pv rid id σ X) (σ':Rd):RC t pv rid id σ' (X.upd id (.cells (rdc t σ') 3)):=⟨by rw [Hp.get_upd,if_neg R.ne];exact R.hr,by simp,R.ne⟩
theorem RX.rc {σ0:Rd} (R:RX H id t σ X) (C:RC t pv rid id σ0 H):RC t pv rid id σ X:=⟨R.ext.2 _ _ (by rw [yfs,if_neg C.ne];exact C.hr),R.get,C.ne⟩
theorem yv4 (ho:y8e t σ) (C:RC t pv rid id σ X):AC Tryz.prog y5a [.p (some (rid,0,2))] X (fun v X'=>v=.b (decide (σ.e=0))∧X'=X):=by
  have hr:=C.hr
  refine AC.code y34.at y34.ok ?_
  simp only [y34]
  apply jA
  simp [y34.r0]
  apply jA
  simp [y34.r1,hr]
  refine AC.fix (ygd C.hg) ?_
  simp
  refine AX.stp [(2,.b (decide (σ.e=0)))] ?_ ?_
  · unfold y8f
    by_cases he:σ.e=0
    · by_cases hp:σ.pos<t.length
      · simp [y34.r2,he,hp]
      · simp [y34.r2,he,hp]
    · have:=ho.2.2.2
      simp [y34.r2,he,this]
  apply jD
  simp
theorem PAt_ok (hp:yd0 pool pv) (n:Nat) (H:Hp):AC Tryz.prog ycw [pv,.i .i64 (n:Nat)] H (fun v H'=>v=.tup [.s ((pool[n]?).getD []),.b (decide (n<pool.length))]∧H'=H):=by
  refine AC.code y3j.at y3j.ok ?_
  simp only [y3j]
  apply jA
  simp [y3j.r0]
  apply jB
  simp [y3j.r1]
  refine AC.fix (yhy pool pv hp _) ?_
  simp
  apply jA
  simp [y3j.r2,ss]
  by_cases h:n<pool.length
  · refine jG (by simp [h]) ?_
    apply jA
    simp [y3j.r3,h]
    apply jD
    simp
  · refine jF (by simp [h]) (AX.skip ?_)
    simp
    apply jA
    simp [y3j.r4]
    apply jD
    simp [h]
theorem y8y (hp:yd0 pool pv) (ht:t.length≤1000000000) (ho:y8e t σ) (C:RC t pv rid id σ X):
    AC Tryz.prog y2v [.p (some (rid,0,2))] X (fun v X'=>v=.s (y3t pool t σ).1∧X'=X.upd id (.cells (rdc t (y3t pool t σ).2) 3)):=by
  have hr:=C.hr
  refine AC.code y1s.at y1s.ok ?_
  simp only [y1s]
  apply jA
  simp [y1s.r0]
  apply jA
  simp [y1s.r1,hr]
  refine AC.fix (y97 ho (by omega) C.hg) ?_
  obtain ⟨ho1,hn1⟩:=y6h ho
  have C1:=C.upd (y41 t σ).2
  unfold y3t
  generalize (y41 t σ).1=n at *
  generalize (y41 t σ).2=σ1 at *
  simp
  apply jB
  simp [y1s.r2]
  refine AC.fix (yv4 ho1 C1) ?_
  simp
  by_cases he:σ1.e=0
  · refine jF (by simp [he]) (AX.skip ?_)
    simp [he]
    apply jA
    simp [y1s.r4,hr,C.ne]
    refine AC.fix (PAt_ok hp n _) ?_
    simp
    apply jB
    simp [y1s.r5]
    by_cases h:n<pool.length
    · refine jF (by simp [h]) (AX.skip ?_)
      simp
      apply jA
      simp [y1s.r7]
      apply jD
      simp [h]
    · refine jG (by simp [h]) (AX.reg ?_)
      have hnn:pool[n]?=none:=List.getElem?_eq_none (by omega)
      simp [y1s.r6,hr,C.ne]
      refine AC.fix (yet C1.hg 2) ?_
      simp
      apply jA
      simp [y1s.r7]
      apply jD
      simp [hnn]
  · refine jG (by simp [he]) ?_
    apply jA
    simp [y1s.r3]
    apply jD
    simp [he]
def thF (k bytes:Nat) (zs:List V):AFunc:=⟨35,[.t 4],.seq (.post [0,1] (.region yh.r0)) (.seq (.post [0,1,5] (.region yh.r1)) (.seq (.seq (.post [0,1,5,14] (.region yh.r2)) (.post [0,1,5] (.cond (.t 14) (.post [0,1,5] (.region yh.r3)) (.skip)))) (.seq (.post [0,1,5,6] (.region yh.r4)) (.seq (.seq (.post [0,1,5,6,7] (.region yh.r5)) (.post [6] (.block 0 (.loop
  (.seq (.seq (.post [0,1,5,6,7,26] (.region yh.r6)) (.post [0,1,5,6,7] (.cond (.t 26) (.skip) (.exit 0)))) (.seq (.post [0,1,5,6,7] (.block 1 (.post [0,1,5,6,7] (.region [
  ab 29 6,
  ab 30 1,
  a2r 31 30,
  ⟨some 32,none,.op (.bfz 1 k zs [(0,k,.t 31)])⟩,
  ⟨some 33,none,.op (.app k bytes (.t 29) (.t 32))⟩,
  ⟨some 6,none,.op (.mov (.t 33))⟩])))) (.post [0,1,5,6,7] (.region yh.r8)))))))) (.seq (.post [4] (.region yh.r9)) (.ret))))))⟩
def ThInv {α:Type} (t:Str) (H:Hp) (rid id:Nat) (one:Rd→α × Rd) (enc:α→List V) (sz:Nat) (onev:V) (n:Nat) (R:List α × Rd) (m:Nat) (F:Fr) (X:Hp):Prop:=
  ∃i acc σ lv,i≤n∧m=n-i∧y8e t σ∧acc.length=i∧R=(acc++(yby one (n-i) σ).1,(yby one (n-i) σ).2)∧RX H id t σ X∧Acc (H.del id) sz lv X (acc.map enc)∧
    F=[(0,.p (some (rid,0,2))),(1,onev),(5,.i .i64 (n:Nat)),(6,lv),(7,.i .i64 i)]
theorem ybh {α:Type} (one:Rd→α × Rd) (ymm:α→V) (enc:α→List V) (k bytes:Nat) (zs:List V) (hev:∀x,y7e (ymm x)=some (enc x)) (hk:∀x,(enc x).length=k) (hz:zs.length=k) (h0:0<k) (hby:bytes≤200) (hcell:∀x,(enc x).all y7o=true) (hfree:∀x,∀v∈enc x,yd1 v)
    {f:Go.FuncId} {fn:Go.Func} (hf:Tryz.prog.funcs[f]?=some fn) (hok:y1x Tryz.prog fn (thF k bytes zs)=true) (onev:V) (h1:∀σ,y8e t σ→y8e t (one σ).2)
    (hone:∀σ X,y8e t σ→RC t pv rid id σ X→callv Tryz.prog onev [] X (fun v X'=>v=ymm (one σ).1∧X'=X.upd id (.cells (rdc t (one σ).2) 3)))
    (ht:t.length≤1000000000) (ho:y8e t σ) (C:RC t pv rid id σ H):
    AC Tryz.prog f [.p (some (rid,0,2)),onev] H (fun v H'=>v=.fs ((y3s t one σ).1.map enc)∧H'=H.upd id (.cells (rdc t (y3s t one σ).2) 3)):=by
  refine AC.codeU hf hok C.hg (yez _ _) (yem fun e he v hv=>by
    obtain ⟨x,_,rfl⟩:=List.mem_map.1 he
    exact hfree x v hv) fun hlt=>?_
  obtain ⟨R,hR⟩:∃R,R=y3s t one σ:=⟨_,rfl⟩
  rw [←hR]
  have X0:=RX.start hlt C.hg
  simp only [thF]
  apply jA
  simp [yh.r0]
  apply jA
  simp [yh.r1,C.hr]
  refine AC.fix (y97 ho (by omega) C.hg) ?_
  obtain ⟨ho1,hn1⟩:=y6h ho
  have ho2:=ykn ho
  have X1:=X0.upd (y41 t σ).2
  have C1:=X1.rc C
  unfold y3s at hR
  generalize (y41 t σ).1=n at *
  generalize (y41 t σ).2=σ1 at *
  generalize H.upd id (.cells (rdc t σ1) 3)=Y1 at X1 C1 ⊢
  simp
  generalize hs2:(if 6000<n then y6r σ1 4 else σ1)=σ2 at *
  refine AX.seq (AX.mono (Q:=y82.then (fun F X=>F=[(0,.p (some (rid,0,2))),(1,onev),(5,.i .i64 (n:Nat))]∧RX H id t σ2 X) fun _ _ _=>False) (jA ?_) ?_)
  · simp [yh.r2]
    by_cases h6:6000<n
    · rw [if_pos h6] at hs2
      refine jG (by simp [h6]) (AX.reg ?_)
      simp [yh.r3,C1.hr]
      refine AC.fix (yet C1.hg 4) ?_
      rw [hs2]
      simp
      exact X1.upd σ2
    · rw [if_neg h6] at hs2
      refine jF (by simp [h6]) (AX.skip ?_)
      simp
      rw [←hs2]
      exact X1
  intro x F X hx
  cases x with
  | exit k=>exact hx.elim
  | ret=>exact hx.elim
  | normal=>
  obtain ⟨rfl,X2⟩:=hx
  simp only [y82.then]
  apply jA
  simp [yh.r4]
  apply jB
  simp [yh.r5]
  refine AX.pblock (AX.loop (ThInv t H rid id one enc k onev n R) n ⟨_,_,.refl _ _,0,[],σ2,.sl none 0 0,by omega,by omega,ho2,rfl,by simpa using hR,X2,by simpa using X2.accNil k 0,by simp⟩ ?_)
  rintro m F X ⟨i,acc,σ,lv,hi,rfl,ho,hal,hres,RXX,A,rfl⟩
  have CX:=RXX.rc C
  refine AX.seq (AX.seq (AX.mono (Q:=y82.then (fun F Y=>F=[(0,.p (some (rid,0,2))),(1,onev),(5,.i .i64 (n:Nat)),(6,lv),(7,.i .i64 i),(26,.b (decide (i<n)&&decide (σ.e=0)))]∧Y=X) fun _ _ _=>False) (AX.reg ?_) ?_))
  · by_cases h1:i<n
    · simp [yh.r6,h1]
      refine AC.fix (yv4 ho CX) ?_
      simp
    · simp [yh.r6,h1]
  intro x F Y hx
  cases x with
  | exit k=>exact hx.elim
  | ret=>exact hx.elim
  | normal=>
  obtain ⟨rfl,rfl⟩:=hx
  simp only [y82.then]
  refine AX.pcond rfl (fun hd=>AX.skip ?_) (fun hd=>AX.exit ?_)
  · simp at hd
    obtain ⟨hin,he⟩:=hd
    rw [yq7 hin he] at hres
    simp
    refine AX.seq (AX.pblock (AX.reg ?_))
    simp
    refine callv_mono (hone σ Y ho CX) ?_
    have R1:=RXX.upd (one σ).2
    have A1:=RXX.acc A (one σ).2
    have ho1:=h1 σ ho
    have hv:=hev (one σ).1
    have hel:=hk (one σ).1
    have hcl:=hcell (one σ).1
    generalize (one σ).2=σ' at *
    generalize (one σ).1=x at *
    rintro _ _ ⟨rfl,rfl⟩
    generalize Y.upd id (.cells (rdc t σ') 3)=Y1 at *
    obtain ⟨a4,l4,s4,Y4,e4,R4,A4,K4⟩:=R1.app (bytes:=bytes) A1 (enc x) hel h0 hcl (by
      have:(acc.length+1)*bytes≤300000000*200:=Nat.mul_le_mul (by omega) hby
      simp [ycg];omega)
    have hsa:setAll zs 0 (enc x)=enc x:=ydm (by rw [hel,hz])
    have htk:(enc x).take k=enc x:=List.take_of_length_le (by omega)
    have hrp:ydj 1 zs=zs:=by
      unfold ydj
      split
      · rfl
      · simp
    simp [hrp,hv,hel,hz,hsa,htk,-y7e,-setAll,-y56,e4,show List.range 1=[0] from rfl]
    apply jE
    simp [yh.r8,y5n (show i≤9223372036854775000 by omega)]
    exact ⟨n-(i+1),by omega,_,_,.refl _ _,i+1,acc++[x],σ',.sl a4 l4 s4,by omega,rfl,ho1,by simp [hal],by rw [hres];simp,R4,by simpa using A4,by simp⟩
  · simp at hd
    have hRe:R=(acc,σ):=by
      rw [hres]
      by_cases h1:i<n
      · rw [yie (hd h1)];simp
      · rw [show n-i=0 by omega];simp [yby]
    simp
    apply jA
    simp [yh.r9]
    apply jD
    simp [hRe]
    exact ⟨RXX.fin,A.frz⟩
end
end Go.Proofs.YthmkcebbeehbeaaGreatDoor
