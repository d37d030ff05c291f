/- Part 37 of the proof of the laws of the queries: RdP, RrW. -/
import Derived.Test.YthmkcebbeehbeaaGreatDoorXTw31
import Derived.Test.YthmkcebbeehbeaaGreatDoorXTw34
import Derived.Test.YthmkcebbeehbeaaGreatDoorXTw35
import Derived.Test.YthmkcebbeehbeaaGreatDoorXTw36
set_option linter.unusedSimpArgs false
set_option linter.unusedVariables false
namespace Go.Proofs.YthmkcebbeehbeaaGreatDoor
open Am C
theorem ypq (last:Str) (k:Nat) (rest:Str) (first:Bool):(y9y last k rest first).1.length≤1000∧0≤(y9y last k rest first).2∧(y9y last k rest first).2≤13∧(y9y last k rest first).2≠6:=by
  unfold y9y
  split
  · simp
  · split
    · simp
    · split
      · simp
      · split
        · simp
        · rename_i h _ _;simp at h ⊢;omega
theorem PNext_ok (last:Str) (k:Nat) (rest:Str) (first:Bool) (hl:last.length≤1000) (hk:k≤268435456) (hr:rest.length≤1000000000) (H:Hp):
    AC Tryz.prog yd9 [.s last,.i .i64 (k:Nat),.s rest,.b first] H (fun v H'=>v=.tup [.s (y9y last k rest first).1,.i .i64 (y9y last k rest first).2]∧H'=H):=by
  refine AC.code y26.at y26.ok ?_
  simp only [y26]
  apply jA
  simp [y26.r0]
  apply jB
  simp [y26.r1]
  by_cases h1:last.length<k
  · have hn:y9y last k rest first=([],2):=by unfold y9y;rw [if_pos h1]
    refine jG (by simp [h1]) ?_
    apply jA
    simp [y26.r2]
    apply jD
    simp [hn]
  have hn:y9y last k rest first=if 1000<(last.take k++rest).length then ([],9) else if first=false∧(ltB (last.take k++rest) last||(last.take k++rest == last))=true then ([],13)
      else if shN last (last.take k++rest)≠k then ([],3) else (last.take k++rest,0):=by unfold y9y;rw [if_neg h1]
  rw [hn]
  have hsl:(last.take k++rest).length≤1000001000:=by simp;omega
  have htk:min k last.length=k:=by omega
  refine jF (by simp;omega) (AX.skip ?_)
  simp
  apply jA
  simp [y26.r3,show k≤last.length by omega]
  have hn2:(last.take k++rest).length=k+rest.length:=by simp;omega
  rw [←hn2]
  generalize last.take k++rest=s at *
  refine ⟨by omega,?_⟩
  apply jC
  simp [y26.r4]
  by_cases h2:1000<s.length
  · rw [if_pos h2]
    refine jG (by simp [h2]) ?_
    apply jA
    simp [y26.r5]
    apply jD
    simp
  rw [if_neg h2]
  refine jF (by simp [h2]) ?_
  refine AX.test (!first&&(ltB s last||s == last)) [(0,.s last),(1,.i .i64 (k:Nat)),(10,.s s),(24,.b (!first&&(ltB s last||s == last)))] ?_ rfl (fun h3=>?_) (fun h3=>?_)
  · cases first
    · simp [y26.r6]
    · simp [y26.r6]
  · rw [if_pos (by simpa using h3)]
    apply jA
    simp [y26.r7]
    apply jD
    simp
  rw [if_neg (by rintro ⟨h5,h6⟩;subst h5;simp at h3 h6;exact h6.elim (fun h=>by rw [h] at h3;exact Bool.noConfusion h3.1) (fun h=>h3.2 h))]
  apply jA
  simp [y26.r8]
  refine AC.fix (yit _ _ (by omega) (by omega) _) ?_
  simp
  by_cases h4:shN last s=k
  · rw [if_pos h4]
    refine jF (by simp [h4]) (AX.skip ?_)
    simp
    apply jA
    simp [y26.r10]
    apply jD
    simp
  · rw [if_neg h4]
    refine jG (by simp [h4]) ?_
    apply jA
    simp [y26.r9]
    apply jD
    simp
theorem yiz {t:Str} {σ:Rd} (h:σ.e≠0) (n:Nat) (f:Bool) (last:Str) (acc:List Str):y7q t n f last acc σ=(acc,σ):=by
  cases n with
  | zero=>rfl
  | succ n=>simp only [y7q];rw [if_pos h]
theorem ykn {t:Str} {σ:Rd} {n i:Nat} (hi:i<n) (h:σ.e=0) (f:Bool) (last:Str) (acc:List Str):
    y7q t (n-i) f last acc σ=if (y7c t (y3f t σ).2).2.e≠0 then (acc,(y7c t (y3f t σ).2).2) else
      y7q t (n-(i+1)) false (y9y last (y3f t σ).1 (y7c t (y3f t σ).2).1 f).1 (acc++[(y9y last (y3f t σ).1 (y7c t (y3f t σ).2).1 f).1]) (y5k (y7c t (y3f t σ).2).2 (y9y last (y3f t σ).1 (y7c t (y3f t σ).2).1 f).2):=by
  rw [show n-i=(n-(i+1))+1 by omega]
  simp only [y7q]
  rw [if_neg (by simp [h])]
def yj5 (r:List Str × Rd):V:=if r.2.e=0 then .fp [ss r.1] 0 else .p none
theorem yhb (r:List Str × Rd):yb5 (yj5 r):=by
  unfold yj5
  split
  · exact free_fp _ (fun v h=>by simp at h;subst h;exact ybo _)
  · exact free_p0
def PrInv (t:Str) (H:Hp) (id n:Nat) (R:List Str × Rd) (m:Nat) (F:Fr) (X:Hp):Prop:=
  ∃i last acc σ pid lv,i≤n∧m=n-i∧y6y t σ∧last.length≤1000∧acc.length≤i∧y7q t (n-i) (decide (i=0)) last acc σ=R∧RX H id t σ X∧Acc (H.del id) 1 lv X (tcl acc)∧yc2 lv pid∧H.next≤pid∧pid<X.next∧X.get pid=some (.cells [lv] 1)∧
    F=[(0,.p (some (id,0,3))),(4,.p (some (pid,0,1))),(5,.i .i64 (n:Nat)),(6,.s last),(7,.i .i64 i)]
theorem PRead_ok {t:Str} {σ0:Rd} {id:Nat} {H:Hp} (ho:y6y t σ0) (ht:t.length≤1000000000) (hg:H.get id=some (.cells (rdc t σ0) 3)):
    AC Tryz.prog yda [.p (some (id,0,3))] H (fun v H'=>v=.tup [yj5 (y6x t σ0),.i .i64 (y6x t σ0).2.e]∧H'=H.upd id (.cells (rdc t (y6x t σ0).2) 3)):=by
  refine AC.codeU yx.at yx.ok hg (ycp _ _) (ycs (by simp [yhb])) fun hlt=>?_
  obtain ⟨R,hR⟩:∃R,R=y6x t σ0:=⟨_,rfl⟩
  rw [←hR]
  simp only [yx]
  apply jA
  simp [yx.r0]
  apply jB
  simp [yx.r1]
  refine jF rfl (AX.skip ?_)
  simp
  apply jA
  simp [yx.r3]
  have X0:=(RX.start hlt hg).more (.add hlt (.cells [.sl none 0 0] 1)) (Hp.add_lt hlt _)
  have gp:(H.add (.cells [.sl none 0 0] 1)).get H.next=some (.cells [.sl none 0 0] 1):=by simp
  have np:H.next<(H.add (.cells [.sl none 0 0] 1)).next:=by simp
  generalize H.add (.cells [.sl none 0 0] 1)=Y0 at *
  have hidp:H.next≠id:=by have:=hlt _ _ hg;omega
  apply jA
  simp [yx.r4]
  refine AC.fix (y7j ho (by omega) X0.get) ?_
  obtain ⟨ho1,hn1⟩:=y5d ho
  have X1:=X0.upd (y3f t σ0).2
  have gp1:(Y0.upd id (.cells (rdc t (y3f t σ0).2) 3)).get H.next=some (.cells [.sl none 0 0] 1):=by simp [hidp,gp]
  have np1:H.next<(Y0.upd id (.cells (rdc t (y3f t σ0).2) 3)).next:=by simpa using np
  generalize Y0.upd id (.cells (rdc t (y3f t σ0).2) 3)=Y1 at *
  simp
  have hcut:∃σ2,σ2=(if 6000<(y3f t σ0).1 then y5k (y3f t σ0).2 4 else (y3f t σ0).2)∧y6y t σ2:=by
    refine ⟨_,rfl,?_⟩
    split
    · exact yc5 ho1 (by omega) (by omega) (by omega)
    · exact ho1
  obtain ⟨σ2,hσ2,ho2⟩:=hcut
  have hR2:y7q t (y3f t σ0).1 true [] [] σ2=R:=by rw [hR,hσ2];rfl
  generalize (y3f t σ0).1=n at *
  refine AX.seq (AX.mono (Q:=y6v.then (fun F X=>F=[(0,.p (some (id,0,3))),(4,.p (some (H.next,0,1))),(5,.i .i64 (n:Nat))]∧RX H id t σ2 X∧X.get H.next=some (.cells [.sl none 0 0] 1)∧H.next<X.next) fun _ _ _=>False) (jA ?_) ?_)
  · simp [yx.r5]
    by_cases h6:6000<n
    · rw [if_pos h6] at hσ2
      refine jG (by simp [h6]) (AX.reg ?_)
      simp [yx.r6]
      refine AC.fix (ycj X1.get 4) ?_
      rw [←hσ2]
      simp
      exact ⟨X1.upd σ2,by simp [hidp,gp1],by simpa using np1⟩
    · rw [if_neg h6] at hσ2
      refine jF (by simp [h6]) (AX.skip ?_)
      simp
      rw [hσ2]
      exact ⟨X1,gp1,np1⟩
  intro x F X hx
  cases x with
  | exit k=>exact hx.elim
  | ret=>exact hx.elim
  | normal=>
  obtain ⟨rfl,X2,gp2,np2⟩:=hx
  simp only [y6v.then]
  apply jA
  simp [yx.r7]
  apply jB
  simp [yx.r8]
  refine AX.pblock (AX.loop (PrInv t H id n R) n ⟨_,_,.refl _ _,0,[],[],σ2,H.next,.sl none 0 0,by omega,by omega,ho2,by simp,by simp,by simpa using hR2,X2,X2.accNil 1 0,trivial,Nat.le_refl _,np2,gp2,by simp⟩ ?_)
  rintro m F X ⟨i,last,acc,σ,pid,lv,hi,rfl,ho,hll,hal,hres,RXX,A,sp,lo,pn,gp,rfl⟩
  have hne:pid≠id:=by have:=RXX.hid;omega
  have hend:∀{σ':Rd} {Y:Hp},y6y t σ'→RX H id t σ' Y→Acc (H.del id) 1 lv Y (tcl acc)→Y.get pid=some (.cells [lv] 1)→R=(acc,σ')→
      AX Tryz.prog 69 ((((ACode.post [4,12] (.region yx.r17)).seq ((ACode.post [4,12,66] (.region yx.r18)).seq (ACode.post [4] (.cond (.t 66) ((ACode.post [2,3] (.region yx.r19)).seq .ret) .skip)))).seq ((ACode.post [2,3] (.region yx.r20)).seq .ret))
        ) (Am.Ends (fun v H'=>(H.upd id (.cells (rdc t R.2) 3)).Ext H'∧Frz H' (fun k=>H.next≤k) v (.tup [yj5 R,.i .i64 R.2.e])) [.t 2,.t 3]) [(0,.p (some (id,0,3))),(4,.p (some (pid,0,1)))] Y:=by
    intro σ' Y ho' RY AY gY hRe
    apply jB
    simp [yx.r17]
    refine AC.fix (ygh ho' RY.get) ?_
    simp
    apply jA
    simp [yx.r18]
    by_cases he:σ'.e=0
    · refine jF (by simp [he]) (AX.skip ?_)
      simp
      apply jA
      simp [yx.r20]
      apply jD
      simp [hRe,yj5,he]
      refine ⟨RY.fin,?_⟩
      refine .tup _ _ rfl fun j u v hu hv=>?_
      match j with
      | 0=>
        simp at hu hv;subst hu;subst hv
        refine .p pid 0 1 1 [lv] [ss acc] lo gY (by omega) (by simp) (by simp) fun j u v hu hv=>?_
        cases j with
        | zero=>simp at hu hv;subst hu;subst hv;exact AY.frz
        | succ j=>simp at hu
      | 1=>simp at hu hv;subst hu;subst hv;exact .refl _
      | j+2=>simp at hu
    · refine jG (by simp [he]) ?_
      apply jA
      simp [yx.r19]
      apply jD
      simp [hRe,yj5,he]
      exact ⟨RY.fin,.refl _⟩
  simp only [yx.l0]
  refine AX.seq (AX.seq (AX.mono (Q:=y6v.then (fun F Y=>F=[(0,.p (some (id,0,3))),(4,.p (some (pid,0,1))),(5,.i .i64 (n:Nat)),(6,.s last),(7,.i .i64 i),(30,.b (decide (i<n)&&decide (σ.e=0)))]∧Y=X) fun _ _ _=>False) (AX.reg ?_) ?_))
  · by_cases h1:i<n
    · simp [yx.r9,h1]
      refine AC.fix (ygh ho RXX.get) ?_
      simp
    · simp [yx.r9,h1]
  intro x F Y hx
  cases x with
  | exit k=>exact hx.elim
  | ret=>exact hx.elim
  | normal=>
  obtain ⟨rfl,rfl⟩:=hx
  simp only [y6v.then]
  refine AX.pcond rfl (fun hd=>AX.skip ?_) (fun hd=>AX.exit ?_)
  · simp at hd
    obtain ⟨hin,he⟩:=hd
    have hstep:=ykn (t:=t) hin he (decide (i=0)) last acc
    rw [hres] at hstep
    obtain ⟨ho1,hn1⟩:=y5d ho
    obtain ⟨ho2,hn2⟩:=yhv ho1
    simp
    apply jC
    simp [yx.r10]
    refine AC.fix (y7j ho (by omega) RXX.get) ?_
    have R1:=RXX.upd (y3f t σ).2
    have A1:=RXX.acc A (y3f t σ).2
    have g1:(Y.upd id (.cells (rdc t (y3f t σ).2) 3)).get pid=some (.cells [lv] 1):=by simp [hne,gp]
    have n1:pid<(Y.upd id (.cells (rdc t (y3f t σ).2) 3)).next:=by simpa using pn
    generalize Y.upd id (.cells (rdc t (y3f t σ).2) 3)=Y1 at *
    simp
    refine AC.fix (yk1 ho1 (by omega) R1.get) ?_
    have R2:=R1.upd (y7c t (y3f t σ).2).2
    have A2:=R1.acc A1 (y7c t (y3f t σ).2).2
    have g2:(Y1.upd id (.cells (rdc t (y7c t (y3f t σ).2).2) 3)).get pid=some (.cells [lv] 1):=by simp [hne,g1]
    have n2:pid<(Y1.upd id (.cells (rdc t (y7c t (y3f t σ).2).2) 3)).next:=by simpa using n1
    generalize Y1.upd id (.cells (rdc t (y7c t (y3f t σ).2).2) 3)=Y2 at *
    generalize (y7c t (y3f t σ).2).2=σ' at *
    generalize (y7c t (y3f t σ).2).1=rest at *
    generalize (y3f t σ).1=k at *
    simp
    apply jB
    simp [yx.r11]
    refine AC.fix (ygh ho2 R2.get) ?_
    simp
    by_cases he2:σ'.e=0
    · rw [if_neg (by simp [he2])] at hstep
      refine jF (by simp [he2]) (AX.skip ?_)
      have hx:=ypq last k rest (decide (i=0))
      simp
      apply jA
      simp [yx.r12]
      refine AC.fix (PNext_ok last k rest (decide (i=0)) hll hn1 (by omega) _) ?_
      generalize (y9y last k rest (decide (i=0))).1=s at *
      generalize (y9y last k rest (decide (i=0))).2=e at *
      simp
      apply jA
      simp [yx.r13]
      refine AC.fix (ycj R2.get e) ?_
      have ho3:=yc5 ho2 (x:=e) (by omega) (by omega) (by omega)
      have R3:=R2.upd (y5k σ' e)
      have A3:=R2.acc A2 (y5k σ' e)
      have g3:(Y2.upd id (.cells (rdc t (y5k σ' e)) 3)).get pid=some (.cells [lv] 1):=by simp [hne,g2]
      have n3:pid<(Y2.upd id (.cells (rdc t (y5k σ' e)) 3)).next:=by simpa using n2
      generalize Y2.upd id (.cells (rdc t (y5k σ' e)) 3)=Y3 at *
      obtain ⟨a4,l4,s4,Y4,e4,R4,A4,K4⟩:=R3.app (bytes:=16) A3 [.s s] rfl (by omega) rfl (by simp [tcl,yay];omega)
      obtain ⟨g4,sp4⟩:=K4 _ _ g3 sp
      simp
      apply jA
      simp [yx.r14,g3,yco,-y48,e4,g4]
      have pn4:=R4.lt _ _ g4
      have R5:RX H id t (y5k σ' e) (Y4.upd pid (.cells [.sl a4 l4 s4] 1)):=⟨R4.ext.upd R4.dlt lo _,Hp.upd_lt R4.lt pn4 _,by rw [Hp.get_upd,if_neg (Ne.symm hne)];exact R4.get,R4.hlt,R4.hid⟩
      have A5:Acc (H.del id) 1 (.sl a4 l4 s4) (Y4.upd pid (.cells [.sl a4 l4 s4] 1)) (tcl (acc++[s])):=by
        have:=A4.upd R4.dlt sp4 lo pn4 (.cells [.sl a4 l4 s4] 1)
        simpa [tcl] using this
      apply jE
      simp [yx.r15]
      apply jE
      simp [yx.r16,y7a (show i≤9223372036854775000 by unfold y6y at ho;omega)]
      exact ⟨n-(i+1),by omega,_,_,.refl _ _,i+1,s,acc++[s],y5k σ' e,pid,.sl a4 l4 s4,by omega,rfl,ho3,hx.1,by simp;omega,by simpa using hstep.symm,R5,A5,sp4,lo,by simpa using pn4,by simp,by simp⟩
    · rw [if_pos he2] at hstep
      refine jG (by simp [he2]) (AX.exit ?_)
      simp
      exact hend ho2 R2 A2 g2 hstep
  · simp at hd
    have hRe:R=(acc,σ):=by
      rw [←hres]
      by_cases h1:i<n
      · exact yiz (hd h1) _ _ _ _
      · rw [show n-i=0 by omega];rfl
    simp
    exact hend ho RXX A gp hRe
structure RC (t:Str) (pv:V) (rid id:Nat) (σ:Rd) (X:Hp):Prop where
  hr:X.get rid=some (.cells [.p (some (id,0,3)),pv] 2)
  hg:X.get id=some (.cells (rdc t σ) 3)
  ne:rid≠id
section
variable {t:Str} {pv:V} {rid id:Nat} {σ:Rd} {X Y H:Hp} {pool:List Str}
theorem RC.upd (R:RC t pv rid id σ X) (σ':Rd):RC t pv rid id σ' (X.upd id (.cells (rdc t σ') 3)):=⟨by rw [Hp.get_upd,if_neg R.ne];exact R.hr,by simp,R.ne⟩
theorem RX.rc {σ0:Rd} (R:RX H id t σ X) (C:RC t pv rid id σ0 H):RC t pv rid id σ X:=⟨R.ext.2 _ _ (by rw [yde,if_neg C.ne];exact C.hr),R.get,C.ne⟩
theorem yrw (ho:y6y t σ) (C:RC t pv rid id σ X):AC Tryz.prog y4a [.p (some (rid,0,2))] X (fun v X'=>v=.b (decide (σ.e=0))∧X'=X):=by
  have hr:=C.hr
  refine AC.code y2g.at y2g.ok ?_
  simp only [y2g]
  apply jA
  simp [y2g.r0]
  apply jA
  simp [y2g.r1,hr]
  refine AC.fix (ydv C.hg) ?_
  simp
  refine AX.stp [(2,.b (decide (σ.e=0)))] ?_ ?_
  · unfold y78
    by_cases he:σ.e=0
    · by_cases hp:σ.pos<t.length
      · simp [y2g.r2,he,hp]
      · simp [y2g.r2,he,hp]
    · have:=ho.2.2.2
      simp [y2g.r2,he,this]
  apply jD
  simp
theorem PAt_ok (hp:yav pool pv) (n:Nat) (H:Hp):AC Tryz.prog yas [pv,.i .i64 (n:Nat)] H (fun v H'=>v=.tup [.s ((pool[n]?).getD []),.b (decide (n<pool.length))]∧H'=H):=by
  refine AC.code y2t.at y2t.ok ?_
  simp only [y2t]
  apply jA
  simp [y2t.r0]
  apply jB
  simp [y2t.r1]
  refine AC.fix (yfa pool pv hp _) ?_
  simp
  apply jA
  simp [y2t.r2,ss]
  by_cases h:n<pool.length
  · refine jG (by simp [h]) ?_
    apply jA
    simp [y2t.r3,h]
    apply jD
    simp
  · refine jF (by simp [h]) (AX.skip ?_)
    simp
    apply jA
    simp [y2t.r4]
    apply jD
    simp [h]
theorem y7b (hp:yav pool pv) (ht:t.length≤1000000000) (ho:y6y t σ) (C:RC t pv rid id σ X):
    AC Tryz.prog y28 [.p (some (rid,0,2))] X (fun v X'=>v=.s (y31 pool t σ).1∧X'=X.upd id (.cells (rdc t (y31 pool t σ).2) 3)):=by
  have hr:=C.hr
  refine AC.code y1d.at y1d.ok ?_
  simp only [y1d]
  apply jA
  simp [y1d.r0]
  apply jA
  simp [y1d.r1,hr]
  refine AC.fix (y7j ho (by omega) C.hg) ?_
  obtain ⟨ho1,hn1⟩:=y5d ho
  have C1:=C.upd (y3f t σ).2
  unfold y31
  generalize (y3f t σ).1=n at *
  generalize (y3f t σ).2=σ1 at *
  simp
  apply jB
  simp [y1d.r2]
  refine AC.fix (yrw ho1 C1) ?_
  simp
  by_cases he:σ1.e=0
  · refine jF (by simp [he]) (AX.skip ?_)
    simp [he]
    apply jA
    simp [y1d.r4,hr,C.ne]
    refine AC.fix (PAt_ok hp n _) ?_
    simp
    apply jB
    simp [y1d.r5]
    by_cases h:n<pool.length
    · refine jF (by simp [h]) (AX.skip ?_)
      simp
      apply jA
      simp [y1d.r7]
      apply jD
      simp [h]
    · refine jG (by simp [h]) (AX.reg ?_)
      have hnn:pool[n]?=none:=List.getElem?_eq_none (by omega)
      simp [y1d.r6,hr,C.ne]
      refine AC.fix (ycj C1.hg 2) ?_
      simp
      apply jA
      simp [y1d.r7]
      apply jD
      simp [hnn]
  · refine jG (by simp [he]) ?_
    apply jA
    simp [y1d.r3]
    apply jD
    simp [he]
def thF (k bytes:Nat) (zs:List V):AFunc:=⟨35,[.t 4],.seq (.post [0,1] (.region yd.r0)) (.seq (.post [0,1,5] (.region yd.r1)) (.seq (.seq (.post [0,1,5,14] (.region yd.r2)) (.post [0,1,5] (.cond (.t 14) (.post [0,1,5] (.region yd.r3)) (.skip)))) (.seq (.post [0,1,5,6] (.region yd.r4)) (.seq (.seq (.post [0,1,5,6,7] (.region yd.r5)) (.post [6] (.block 0 (.loop
  (.seq (.seq (.post [0,1,5,6,7,26] (.region yd.r6)) (.post [0,1,5,6,7] (.cond (.t 26) (.skip) (.exit 0)))) (.seq (.post [0,1,5,6,7] (.block 1 (.post [0,1,5,6,7] (.region [
  ab 29 6,
  ab 30 1,
  a1u 31 30,
  ⟨some 32,none,.op (.bfz 1 k zs [(0,k,.t 31)])⟩,
  ⟨some 33,none,.op (.app k bytes (.t 29) (.t 32))⟩,
  ⟨some 6,none,.op (.mov (.t 33))⟩])))) (.post [0,1,5,6,7] (.region yd.r8)))))))) (.seq (.post [4] (.region yd.r9)) (.ret))))))⟩
def ThInv {α:Type} (t:Str) (H:Hp) (rid id:Nat) (one:Rd→α × Rd) (enc:α→List V) (sz:Nat) (onev:V) (n:Nat) (R:List α × Rd) (m:Nat) (F:Fr) (X:Hp):Prop:=
  ∃i acc σ lv,i≤n∧m=n-i∧y6y t σ∧acc.length=i∧R=(acc++(y9v one (n-i) σ).1,(y9v one (n-i) σ).2)∧RX H id t σ X∧Acc (H.del id) sz lv X (acc.map enc)∧
    F=[(0,.p (some (rid,0,2))),(1,onev),(5,.i .i64 (n:Nat)),(6,lv),(7,.i .i64 i)]
theorem y9g {α:Type} (one:Rd→α × Rd) (yjn:α→V) (enc:α→List V) (k bytes:Nat) (zs:List V) (hev:∀x,y65 (yjn x)=some (enc x)) (hk:∀x,(enc x).length=k) (hz:zs.length=k) (h0:0<k) (hby:bytes≤200) (hcell:∀x,(enc x).all y6d=true) (hfree:∀x,∀v∈enc x,yb5 v)
    {f:Go.FuncId} {fn:Go.Func} (hf:Tryz.prog.funcs[f]?=some fn) (hok:y1o Tryz.prog fn (thF k bytes zs)=true) (onev:V) (h1:∀σ,y6y t σ→y6y t (one σ).2)
    (hone:∀σ X,y6y t σ→RC t pv rid id σ X→callv Tryz.prog onev [] X (fun v X'=>v=yjn (one σ).1∧X'=X.upd id (.cells (rdc t (one σ).2) 3)))
    (ht:t.length≤1000000000) (ho:y6y t σ) (C:RC t pv rid id σ H):
    AC Tryz.prog f [.p (some (rid,0,2)),onev] H (fun v H'=>v=.fs ((y30 t one σ).1.map enc)∧H'=H.upd id (.cells (rdc t (y30 t one σ).2) 3)):=by
  refine AC.codeU hf hok C.hg (ycp _ _) (ycc fun e he v hv=>by
    obtain ⟨x,_,rfl⟩:=List.mem_map.1 he
    exact hfree x v hv) fun hlt=>?_
  obtain ⟨R,hR⟩:∃R,R=y30 t one σ:=⟨_,rfl⟩
  rw [←hR]
  have X0:=RX.start hlt C.hg
  simp only [thF]
  apply jA
  simp [yd.r0]
  apply jA
  simp [yd.r1,C.hr]
  refine AC.fix (y7j ho (by omega) C.hg) ?_
  obtain ⟨ho1,hn1⟩:=y5d ho
  have ho2:=yhx ho
  have X1:=X0.upd (y3f t σ).2
  have C1:=X1.rc C
  unfold y30 at hR
  generalize (y3f t σ).1=n at *
  generalize (y3f t σ).2=σ1 at *
  generalize H.upd id (.cells (rdc t σ1) 3)=Y1 at X1 C1 ⊢
  simp
  generalize hs2:(if 6000<n then y5k σ1 4 else σ1)=σ2 at *
  refine AX.seq (AX.mono (Q:=y6v.then (fun F X=>F=[(0,.p (some (rid,0,2))),(1,onev),(5,.i .i64 (n:Nat))]∧RX H id t σ2 X) fun _ _ _=>False) (jA ?_) ?_)
  · simp [yd.r2]
    by_cases h6:6000<n
    · rw [if_pos h6] at hs2
      refine jG (by simp [h6]) (AX.reg ?_)
      simp [yd.r3,C1.hr]
      refine AC.fix (ycj C1.hg 4) ?_
      rw [hs2]
      simp
      exact X1.upd σ2
    · rw [if_neg h6] at hs2
      refine jF (by simp [h6]) (AX.skip ?_)
      simp
      rw [←hs2]
      exact X1
  intro x F X hx
  cases x with
  | exit k=>exact hx.elim
  | ret=>exact hx.elim
  | normal=>
  obtain ⟨rfl,X2⟩:=hx
  simp only [y6v.then]
  apply jA
  simp [yd.r4]
  apply jB
  simp [yd.r5]
  refine AX.pblock (AX.loop (ThInv t H rid id one enc k onev n R) n ⟨_,_,.refl _ _,0,[],σ2,.sl none 0 0,by omega,by omega,ho2,rfl,by simpa using hR,X2,by simpa using X2.accNil k 0,by simp⟩ ?_)
  rintro m F X ⟨i,acc,σ,lv,hi,rfl,ho,hal,hres,RXX,A,rfl⟩
  have CX:=RXX.rc C
  refine AX.seq (AX.seq (AX.mono (Q:=y6v.then (fun F Y=>F=[(0,.p (some (rid,0,2))),(1,onev),(5,.i .i64 (n:Nat)),(6,lv),(7,.i .i64 i),(26,.b (decide (i<n)&&decide (σ.e=0)))]∧Y=X) fun _ _ _=>False) (AX.reg ?_) ?_))
  · by_cases h1:i<n
    · simp [yd.r6,h1]
      refine AC.fix (yrw ho CX) ?_
      simp
    · simp [yd.r6,h1]
  intro x F Y hx
  cases x with
  | exit k=>exact hx.elim
  | ret=>exact hx.elim
  | normal=>
  obtain ⟨rfl,rfl⟩:=hx
  simp only [y6v.then]
  refine AX.pcond rfl (fun hd=>AX.skip ?_) (fun hd=>AX.exit ?_)
  · simp at hd
    obtain ⟨hin,he⟩:=hd
    rw [yn9 hin he] at hres
    simp
    refine AX.seq (AX.pblock (AX.reg ?_))
    simp
    refine callv_mono (hone σ Y ho CX) ?_
    have R1:=RXX.upd (one σ).2
    have A1:=RXX.acc A (one σ).2
    have ho1:=h1 σ ho
    have hv:=hev (one σ).1
    have hel:=hk (one σ).1
    have hcl:=hcell (one σ).1
    generalize (one σ).2=σ' at *
    generalize (one σ).1=x at *
    rintro _ _ ⟨rfl,rfl⟩
    generalize Y.upd id (.cells (rdc t σ') 3)=Y1 at *
    obtain ⟨a4,l4,s4,Y4,e4,R4,A4,K4⟩:=R1.app (bytes:=bytes) A1 (enc x) hel h0 hcl (by
      have:(acc.length+1)*bytes≤300000000*200:=Nat.mul_le_mul (by omega) hby
      simp [yay];omega)
    have hsa:setAll zs 0 (enc x)=enc x:=ybd (by rw [hel,hz])
    have htk:(enc x).take k=enc x:=List.take_of_length_le (by omega)
    have hrp:yco 1 zs=zs:=by
      unfold yco
      split
      · rfl
      · simp
    simp [hrp,hv,hel,hz,hsa,htk,-y65,-setAll,-y48,e4,show List.range 1=[0] from rfl]
    apply jE
    simp [yd.r8,y7a (show i≤9223372036854775000 by omega)]
    exact ⟨n-(i+1),by omega,_,_,.refl _ _,i+1,acc++[x],σ',.sl a4 l4 s4,by omega,rfl,ho1,by simp [hal],by rw [hres];simp,R4,by simpa using A4,by simp⟩
  · simp at hd
    have hRe:R=(acc,σ):=by
      rw [hres]
      by_cases h1:i<n
      · rw [yfn (hd h1)];simp
      · rw [show n-i=0 by omega];simp [y9v]
    simp
    apply jA
    simp [yd.r9]
    apply jD
    simp [hRe]
    exact ⟨RXX.fin,A.frz⟩
end
end Go.Proofs.YthmkcebbeehbeaaGreatDoor
