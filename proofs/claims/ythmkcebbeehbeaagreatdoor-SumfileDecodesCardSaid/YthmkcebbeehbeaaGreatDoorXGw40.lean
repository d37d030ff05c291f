/- Part 40. -/
import Derived.Test.YthmkcebbeehbeaaGreatDoorXGw33
import Derived.Test.YthmkcebbeehbeaaGreatDoorXGw36
import Derived.Test.YthmkcebbeehbeaaGreatDoorXGw38
import Derived.Test.YthmkcebbeehbeaaGreatDoorXGw39
set_option linter.unusedSimpArgs false
set_option linter.unusedVariables false
namespace Go.Proofs.YthmkcebbeehbeaaGreatDoor
open Am C
theorem yv8 (last:Str) (k:Nat) (rest:Str) (first:Bool):(yc4 last k rest first).1.length≤1000∧0≤(yc4 last k rest first).2∧(yc4 last k rest first).2≤13∧(yc4 last k rest first).2≠6:=by
 unfold yc4
 split
 ·simp
 ·split
  ·simp
  ·split
   ·simp
   ·split
    ·simp
    ·rename_i h _ _;simp at h ⊢;omega
theorem PNext_ok (last:Str) (k:Nat) (rest:Str) (first:Bool) (hl:last.length≤1000) (hk:k≤268435456) (hr:rest.length≤1000000000) (H:Hp):
  AC Tryz.prog yhg [.s last,.i .i64 (k:Nat),.s rest,.b first] H (fun v H'=>v=.tup [.s (yc4 last k rest first).1,.i .i64 (yc4 last k rest first).2]∧H'=H):=by
 refine AC.code y3c.at y3c.ok ?_
 simp only [y3c]
 apply jA
 simp [y3c.r0]
 apply jB
 simp [y3c.r1]
 by_cases h1:last.length<k
 ·have hn:yc4 last k rest first=([],2):=by unfold yc4;rw [if_pos h1]
  refine jG (by simp [h1]) ?_
  apply jA
  simp [y3c.r2]
  apply jD
  simp [hn]
 have hn:yc4 last k rest first=if 1000<(last.take k++rest).length then ([],9) else if first=false∧(ltB (last.take k++rest) last||(last.take k++rest == last))=true then ([],13)
   else if shN last (last.take k++rest)≠k then ([],3) else (last.take k++rest,0):=by unfold yc4;rw [if_neg h1]
 rw [hn]
 have hsl:(last.take k++rest).length≤1000001000:=by simp;omega
 have htk:min k last.length=k:=by omega
 refine jF (by simp;omega) (AX.skip ?_)
 simp
 apply jA
 simp [y3c.r3,show k≤last.length by omega]
 have hn2:(last.take k++rest).length=k+rest.length:=by simp;omega
 rw [←hn2]
 generalize last.take k++rest=s at *
 refine ⟨by omega,?_⟩
 apply jC
 simp [y3c.r4]
 by_cases h2:1000<s.length
 ·rw [if_pos h2]
  refine jG (by simp [h2]) ?_
  apply jA
  simp [y3c.r5]
  apply jD
  simp
 rw [if_neg h2]
 refine jF (by simp [h2]) ?_
 refine AX.test (!first&&(ltB s last||s == last)) [(0,.s last),(1,.i .i64 (k:Nat)),(10,.s s),(24,.b (!first&&(ltB s last||s == last)))] ?_ rfl (fun h3=>?_) (fun h3=>?_)
 ·cases first
  ·simp [y3c.r6]
  ·simp [y3c.r6]
 ·rw [if_pos (by simpa using h3)]
  apply jA
  simp [y3c.r7]
  apply jD
  simp
 rw [if_neg (by rintro ⟨h5,h6⟩;subst h5;simp at h3 h6;exact h6.elim (fun h=>by rw [h] at h3;exact Bool.noConfusion h3.1) (fun h=>h3.2 h))]
 apply jA
 simp [y3c.r8]
 refine AC.fix (ynm _ _ (by omega) (by omega) _) ?_
 simp
 by_cases h4:shN last s=k
 ·rw [if_pos h4]
  refine jF (by simp [h4]) (AX.skip ?_)
  simp
  apply jA
  simp [y3c.r10]
  apply jD
  simp
 ·rw [if_neg h4]
  refine jG (by simp [h4]) ?_
  apply jA
  simp [y3c.r9]
  apply jD
  simp
theorem yeg {t:Str} {σ:Rd} (h:σ.e≠0) (n:Nat) (f:Bool) (last:Str) (acc:List Str):y9q t n f last acc σ=(acc,σ):=by
 cases n with
 | zero=>rfl
 | succ n=>simp only [y9q];rw [if_pos h]
theorem yk0 {t:Str} {σ:Rd} {n i:Nat} (hi:i<n) (h:σ.e=0) (f:Bool) (last:Str) (acc:List Str):
  y9q t (n-i) f last acc σ=if (y6y t (y33 t σ).2).2.e≠0 then (acc,(y6y t (y33 t σ).2).2) else
   y9q t (n-(i+1)) false (yc4 last (y33 t σ).1 (y6y t (y33 t σ).2).1 f).1 (acc++[(yc4 last (y33 t σ).1 (y6y t (y33 t σ).2).1 f).1]) (y6a (y6y t (y33 t σ).2).2 (yc4 last (y33 t σ).1 (y6y t (y33 t σ).2).1 f).2):=by
 rw [show n-i=(n-(i+1))+1 by omega]
 simp only [y9q]
 rw [if_neg (by simp [h])]
def yo0 (r:List Str × Rd):V:=if r.2.e=0 then .fp [ss r.1] 0 else .p none
def yo1 (r:List Str × Rd):V:=if r.2.e=0 then ss r.1 else ss []
theorem ylr (r:List Str × Rd):yey (yo0 r):=by
 unfold yo0
 split
 ·exact free_fp _ (fun v h=>by simp at h;subst h;exact ycp _)
 ·exact free_p0
def PrInv (t:Str) (H:Hp) (id n:Nat) (R:List Str × Rd) (m:Nat) (F:Fr) (X:Hp):Prop:=
 ∃i last acc σ pid lv,i≤n∧m=n-i∧y7q t σ∧last.length≤1000∧acc.length≤i∧y9q t (n-i) (decide (i=0)) last acc σ=R∧RX H id t σ X∧Acc (H.del id) 1 lv X (tcl acc)∧ydh lv pid∧H.next≤pid∧pid<X.next∧X.get pid=some (.cells [lv] 1)∧
  F=[(0,.p (some (id,0,3))),(4,.p (some (pid,0,1))),(5,.i .i64 (n:Nat)),(6,.s last),(7,.i .i64 i)]
theorem PRead_ok {t:Str} {σ0:Rd} {id:Nat} {H:Hp} (ho:y7q t σ0) (ht:t.length≤1000000000) (hg:H.get id=some (.cells (rdc t σ0) 3)):
  AC Tryz.prog yhh [.p (some (id,0,3))] H (fun v H'=>v=.tup [yo0 (y6t t σ0),.i .i64 (y6t t σ0).2.e]∧H'=H.upd id (.cells (rdc t (y6t t σ0).2) 3)):=by
 refine AC.codeU y1h.at y1h.ok hg (ydo _ _) (yc1 (by simp [ylr])) fun hlt=>?_
 obtain ⟨R,hR⟩:∃R,R=y6t t σ0:=⟨_,rfl⟩
 rw [←hR]
 simp only [y1h]
 apply jA
 simp [y1h.r0]
 apply jB
 simp [y1h.r1]
 refine jF rfl (AX.skip ?_)
 simp
 apply jA
 simp [y1h.r3]
 have X0:=(RX.start hlt hg).more (.add hlt (.cells [.sl none 0 0] 1)) (Hp.add_lt hlt _)
 have gp:(H.add (.cells [.sl none 0 0] 1)).get H.next=some (.cells [.sl none 0 0] 1):=by simp
 have np:H.next<(H.add (.cells [.sl none 0 0] 1)).next:=by simp
 generalize H.add (.cells [.sl none 0 0] 1)=Y0 at *
 have hidp:H.next≠id:=by have:=hlt _ _ hg;omega
 apply jA
 simp [y1h.r4]
 refine AC.fix (y9o ho (by omega) X0.get) ?_
 obtain ⟨ho1,hn1⟩:=y6d ho
 have X1:=X0.upd (y33 t σ0).2
 have gp1:(Y0.upd id (.cells (rdc t (y33 t σ0).2) 3)).get H.next=some (.cells [.sl none 0 0] 1):=by simp [hidp,gp]
 have np1:H.next<(Y0.upd id (.cells (rdc t (y33 t σ0).2) 3)).next:=by simpa using np
 generalize Y0.upd id (.cells (rdc t (y33 t σ0).2) 3)=Y1 at *
 simp
 have hcut:∃σ2,σ2=(if 6000<(y33 t σ0).1 then y6a (y33 t σ0).2 4 else (y33 t σ0).2)∧y7q t σ2:=by
  refine ⟨_,rfl,?_⟩
  split
  ·exact ydy ho1 (by omega) (by omega) (by omega)
  ·exact ho1
 obtain ⟨σ2,hσ2,ho2⟩:=hcut
 have hR2:y9q t (y33 t σ0).1 true [] [] σ2=R:=by rw [hR,hσ2];rfl
 generalize (y33 t σ0).1=n at *
 refine AX.seq (AX.mono (Q:=y8z.then (fun F X=>F=[(0,.p (some (id,0,3))),(4,.p (some (H.next,0,1))),(5,.i .i64 (n:Nat))]∧RX H id t σ2 X∧X.get H.next=some (.cells [.sl none 0 0] 1)∧H.next<X.next) fun _ _ _=>False) (jA ?_) ?_)
 ·simp [y1h.r5]
  by_cases h6:6000<n
  ·rw [if_pos h6] at hσ2
   refine jG (by simp [h6]) (AX.reg ?_)
   simp [y1h.r6]
   refine AC.fix (ygg X1.get 4) ?_
   rw [←hσ2]
   simp
   exact ⟨X1.upd σ2,by simp [hidp,gp1],by simpa using np1⟩
  ·rw [if_neg h6] at hσ2
   refine jF (by simp [h6]) (AX.skip ?_)
   simp
   rw [hσ2]
   exact ⟨X1,gp1,np1⟩
 intro x F X hx
 cases x with
 | exit k=>exact hx.elim
 | ret=>exact hx.elim
 | normal=>
 obtain ⟨rfl,X2,gp2,np2⟩:=hx
 simp only [y8z.then]
 apply jA
 simp [y1h.r7]
 apply jB
 simp [y1h.r8]
 refine AX.pblock (AX.loop (PrInv t H id n R) n ⟨_,_,.refl _ _,0,[],[],σ2,H.next,.sl none 0 0,by omega,by omega,ho2,by simp,by simp,by simpa using hR2,X2,X2.accNil 1 0,trivial,kF _,np2,gp2,by simp⟩ ?_)
 rintro m F X ⟨i,last,acc,σ,pid,lv,hi,rfl,ho,hll,hal,hres,RXX,A,sp,lo,pn,gp,rfl⟩
 have hne:pid≠id:=by have:=RXX.hid;omega
 have hend:∀{σ':Rd} {Y:Hp},y7q t σ'→RX H id t σ' Y→Acc (H.del id) 1 lv Y (tcl acc)→Y.get pid=some (.cells [lv] 1)→R=(acc,σ')→
   AX Tryz.prog 69 ((((ACode.post [4,12] (.region y1h.r17)).seq ((ACode.post [4,12,66] (.region y1h.r18)).seq (ACode.post [4] (.cond (.t 66) ((ACode.post [2,3] (.region y1h.r19)).seq .ret) .skip)))).seq ((ACode.post [2,3] (.region y1h.r20)).seq .ret))
    ) (Am.Ends (fun v H'=>(H.upd id (.cells (rdc t R.2) 3)).Ext H'∧Frz H' (fun k=>H.next≤k) v (.tup [yo0 R,.i .i64 R.2.e])) [.t 2,.t 3]) [(0,.p (some (id,0,3))),(4,.p (some (pid,0,1)))] Y:=by
  intro σ' Y ho' RY AY gY hRe
  apply jB
  simp [y1h.r17]
  refine AC.fix (ykw ho' RY.get) ?_
  simp
  apply jA
  simp [y1h.r18]
  by_cases he:σ'.e=0
  ·refine jF (by simp [he]) (AX.skip ?_)
   simp
   apply jA
   simp [y1h.r20]
   apply jD
   simp [hRe,yo0,he]
   refine ⟨RY.fin,?_⟩
   refine .tup _ _ rfl fun j u v hu hv=>?_
   match j with
   | 0=>
    simp at hu hv;subst hu;subst hv
    refine .p pid 0 1 1 [lv] [ss acc] lo gY (by omega) (by simp) (by simp) fun j u v hu hv=>?_
    cases j with
    | zero=>simp at hu hv;subst hu;subst hv;exact AY.frz
    | succ j=>simp at hu
   | 1=>simp at hu hv;subst hu;subst hv;exact .refl _
   | j+2=>simp at hu
  ·refine jG (by simp [he]) ?_
   apply jA
   simp [y1h.r19]
   apply jD
   simp [hRe,yo0,he]
   exact ⟨RY.fin,.refl _⟩
 simp only [y1h.l0]
 refine AX.seq (AX.seq (AX.mono (Q:=y8z.then (fun F Y=>F=[(0,.p (some (id,0,3))),(4,.p (some (pid,0,1))),(5,.i .i64 (n:Nat)),(6,.s last),(7,.i .i64 i),(30,.b (decide (i<n)&&decide (σ.e=0)))]∧Y=X) fun _ _ _=>False) (AX.reg ?_) ?_))
 ·by_cases h1:i<n
  ·simp [y1h.r9,h1]
   refine AC.fix (ykw ho RXX.get) ?_
   simp
  ·simp [y1h.r9,h1]
 intro x F Y hx
 cases x with
 | exit k=>exact hx.elim
 | ret=>exact hx.elim
 | normal=>
 obtain ⟨rfl,rfl⟩:=hx
 simp only [y8z.then]
 refine AX.pcond rfl (fun hd=>AX.skip ?_) (fun hd=>AX.exit ?_)
 ·simp at hd
  obtain ⟨hin,he⟩:=hd
  have hstep:=yk0 (t:=t) hin he (decide (i=0)) last acc
  rw [hres] at hstep
  obtain ⟨ho1,hn1⟩:=y6d ho
  obtain ⟨ho2,hn2⟩:=ygn ho1
  simp
  apply jC
  simp [y1h.r10]
  refine AC.fix (y9o ho (by omega) RXX.get) ?_
  have R1:=RXX.upd (y33 t σ).2
  have A1:=RXX.acc A (y33 t σ).2
  have g1:(Y.upd id (.cells (rdc t (y33 t σ).2) 3)).get pid=some (.cells [lv] 1):=by simp [hne,gp]
  have n1:pid<(Y.upd id (.cells (rdc t (y33 t σ).2) 3)).next:=by simpa using pn
  generalize Y.upd id (.cells (rdc t (y33 t σ).2) 3)=Y1 at *
  simp
  refine AC.fix (yov ho1 (by omega) R1.get) ?_
  have R2:=R1.upd (y6y t (y33 t σ).2).2
  have A2:=R1.acc A1 (y6y t (y33 t σ).2).2
  have g2:(Y1.upd id (.cells (rdc t (y6y t (y33 t σ).2).2) 3)).get pid=some (.cells [lv] 1):=by simp [hne,g1]
  have n2:pid<(Y1.upd id (.cells (rdc t (y6y t (y33 t σ).2).2) 3)).next:=by simpa using n1
  generalize Y1.upd id (.cells (rdc t (y6y t (y33 t σ).2).2) 3)=Y2 at *
  generalize (y6y t (y33 t σ).2).2=σ' at *
  generalize (y6y t (y33 t σ).2).1=rest at *
  generalize (y33 t σ).1=k at *
  simp
  apply jB
  simp [y1h.r11]
  refine AC.fix (ykw ho2 R2.get) ?_
  simp
  by_cases he2:σ'.e=0
  ·rw [if_neg (by simp [he2])] at hstep
   refine jF (by simp [he2]) (AX.skip ?_)
   have hx:=yv8 last k rest (decide (i=0))
   simp
   apply jA
   simp [y1h.r12]
   refine AC.fix (PNext_ok last k rest (decide (i=0)) hll hn1 (by omega) _) ?_
   generalize (yc4 last k rest (decide (i=0))).1=s at *
   generalize (yc4 last k rest (decide (i=0))).2=e at *
   simp
   apply jA
   simp [y1h.r13]
   refine AC.fix (ygg R2.get e) ?_
   have ho3:=ydy ho2 (x:=e) (by omega) (by omega) (by omega)
   have R3:=R2.upd (y6a σ' e)
   have A3:=R2.acc A2 (y6a σ' e)
   have g3:(Y2.upd id (.cells (rdc t (y6a σ' e)) 3)).get pid=some (.cells [lv] 1):=by simp [hne,g2]
   have n3:pid<(Y2.upd id (.cells (rdc t (y6a σ' e)) 3)).next:=by simpa using n2
   generalize Y2.upd id (.cells (rdc t (y6a σ' e)) 3)=Y3 at *
   obtain ⟨a4,l4,s4,Y4,e4,R4,A4,K4⟩:=R3.app (bytes:=16) A3 [.s s] rfl (by omega) rfl (by simp [tcl,yb7];omega)
   obtain ⟨g4,sp4⟩:=K4 _ _ g3 sp
   simp
   apply jA
   simp [y1h.r14,g3,ydi,-y59,e4,g4]
   have pn4:=R4.lt _ _ g4
   have R5:RX H id t (y6a σ' e) (Y4.upd pid (.cells [.sl a4 l4 s4] 1)):=⟨R4.ext.upd R4.dlt lo _,Hp.upd_lt R4.lt pn4 _,by rw [Hp.get_upd,if_neg (Ne.symm hne)];exact R4.get,R4.hlt,R4.hid⟩
   have A5:Acc (H.del id) 1 (.sl a4 l4 s4) (Y4.upd pid (.cells [.sl a4 l4 s4] 1)) (tcl (acc++[s])):=by
    have:=A4.upd R4.dlt sp4 lo pn4 (.cells [.sl a4 l4 s4] 1)
    simpa [tcl] using this
   apply jE
   simp [y1h.r15]
   apply jE
   simp [y1h.r16,y5p (show i≤9223372036854775000 by unfold y7q at ho;omega)]
   exact ⟨n-(i+1),by omega,_,_,.refl _ _,i+1,s,acc++[s],y6a σ' e,pid,.sl a4 l4 s4,by omega,rfl,ho3,hx.1,by simp;omega,by simpa using hstep.symm,R5,A5,sp4,lo,by simpa using pn4,by simp,by simp⟩
  ·rw [if_pos he2] at hstep
   refine jG (by simp [he2]) (AX.exit ?_)
   simp
   exact hend ho2 R2 A2 g2 hstep
 ·simp at hd
  have hRe:R=(acc,σ):=by
   rw [←hres]
   by_cases h1:i<n
   ·exact yeg (hd h1) _ _ _ _
   ·rw [show n-i=0 by omega];rfl
  simp
  exact hend ho RXX A gp hRe
theorem yun {t:Str} {σ:Rd} (h:0<(y33 t σ).1):(y33 t σ).2.e=0:=by
 unfold y33 at *
 split
 ·rename_i he;rw [if_pos he] at h;simp at h
 ·rename_i he
  rw [if_neg he] at h
  split
  ·rename_i h2;rw [if_pos h2] at h;simp at h
  ·simp at he ⊢;exact he
def QrInv (t:Str) (H:Hp) (id n:Nat) (R:List Str × Rd) (m:Nat) (F:Fr) (X:Hp):Prop:=
 ∃i last acc σ lv,i≤n∧m=n-i∧y7q t σ∧last.length≤1000000000∧(σ.e=0→last.length≤1000)∧acc.length≤i∧(σ.e=0→y9q t (n-i) (decide (i=0)) last acc σ=R)∧(σ.e≠0→R.2=σ)∧RX H id t σ X∧Acc (H.del id) 1 lv X (tcl acc)∧
  F=[(0,.p (some (id,0,3))),(4,.i .i64 (n:Nat)),(5,lv),(6,.s last),(7,.i .i64 i)]
theorem ysy {t:Str} {σ0:Rd} {id:Nat} {H:Hp} (ho:y7q t σ0) (ht:t.length≤1000000) (hg:H.get id=some (.cells (rdc t σ0) 3)):
  AC Tryz.prog yd7 [.p (some (id,0,3))] H (fun v H'=>v=.tup [yo1 (y6t t σ0),.i .i64 (y6t t σ0).2.e]∧H'=H.upd id (.cells (rdc t (y6t t σ0).2) 3)):=by
 have hfl:yey (yo1 (y6t t σ0)):=by unfold yo1;split <;> exact ycp _
 refine AC.codeU yc.at yc.ok hg (ydo _ _) (yc1 (by simp [hfl])) fun hlt=>?_
 clear hfl
 obtain ⟨R,hR⟩:∃R,R=y6t t σ0:=⟨_,rfl⟩
 rw [←hR]
 simp only [yc]
 apply jA
 simp [yc.r0]
 apply jA
 simp [yc.r1]
 have X0:=RX.start hlt hg
 refine AC.fix (y80 ho (by omega) X0.get) ?_
 obtain ⟨ho1,hn1⟩:=y6d ho
 have hpz:=yun (t:=t) (σ:=σ0)
 have X1:=X0.upd (y33 t σ0).2
 generalize H.upd id (.cells (rdc t (y33 t σ0).2) 3)=Y1 at X1 ⊢
 simp
 have hcut:∃σ2,σ2=(if 6000<(y33 t σ0).1 then y6a (y33 t σ0).2 4 else (y33 t σ0).2)∧y7q t σ2:=by
  refine ⟨_,rfl,?_⟩
  split
  ·exact ydy ho1 (by omega) (by omega) (by omega)
  ·exact ho1
 obtain ⟨σ2,hσ2,ho2⟩:=hcut
 have hR2:y9q t (y33 t σ0).1 true [] [] σ2=R:=by rw [hR,hσ2];rfl
 generalize (y33 t σ0).1=n at *
 generalize (y33 t σ0).2=σ1 at *
 have g1:=X1.get
 simp only [rdc] at g1
 refine AX.seq (AX.mono (Q:=y8z.then (fun F X=>F=[(0,.p (some (id,0,3))),(4,.i .i64 (n:Nat))]∧RX H id t σ2 X) fun _ _ _=>False) (AX.test (decide (σ1.e=0)&&decide (6000<n)) [(0,.p (some (id,0,3))),(4,.i .i64 (n:Nat)),(21,.b (decide (σ1.e=0)&&decide (6000<n)))] ?_ rfl (fun h1=>?_) (fun h1=>AX.skip ?_)) ?_)
 ·by_cases h1:σ1.e=0
  ·simp [yc.r2,g1,h1]
  ·simp [yc.r2,g1,h1]
 ·simp at h1
  rw [if_pos h1.2] at hσ2
  apply jE
  simp [yc.r3,g1]
  have:=X1.upd σ2
  rw [hσ2] at this ⊢
  simpa [rdc,y6a,h1.1] using this
 ·simp at h1
  have:σ2=σ1:=by
   rw [hσ2]
   by_cases h6:6000<n
   ·have:=hpz (by omega)
    have:=h1 this
    omega
   ·rw [if_neg h6]
  rw [this]
  simp
  exact X1
 intro x F X hx
 cases x with
 | exit k=>exact hx.elim
 | ret=>exact hx.elim
 | normal=>
 obtain ⟨rfl,X2⟩:=hx
 simp only [y8z.then]
 apply jA
 simp [yc.r4]
 apply jA
 simp [yc.r5]
 apply jB
 simp [yc.r6]
 refine AX.pblock (AX.loop (QrInv t H id n R) n ⟨_,_,.refl _ _,0,[],[],σ2,.sl none 0 0,by omega,by omega,ho2,by simp,by simp,by simp,fun _=>by simpa using hR2,fun he=>by rw [←hR2,yeg he],X2,X2.accNil 1 0,by simp⟩ ?_)
 rintro m F X ⟨i,last,acc,σ,lv,hi,rfl,ho,hll,hll2,hal,hres,hresE,RXX,A,rfl⟩
 have hend:∀{σ':Rd} {Y:Hp} {u:V} {acc':List Str},y7q t σ'→RX H id t σ' Y→Acc (H.del id) 1 u Y (tcl acc')→(σ'.e=0→R=(acc',σ'))→(σ'.e≠0→R.2=σ')→
   AX Tryz.prog 100 (((ACode.post [0,5,94] (.region yc.r23)).seq (ACode.post [5] (.cond (.t 94) ((ACode.post [2,3] (.draw [0,1,3,7,0,31] yc.r24)).seq .ret) .skip))).seq ((ACode.post [2,3] (.region yc.r25)).seq .ret))
    (Am.Ends (fun v H'=>(H.upd id (.cells (rdc t R.2) 3)).Ext H'∧Frz H' (fun k=>H.next≤k) v (.tup [yo1 R,.i .i64 R.2.e])) [.t 2,.t 3]) [(0,.p (some (id,0,3))),(5,u)] Y:=by
  intro σ' Y u acc' ho' RY AY hRe hRe2
  have gY:=RY.get
  simp only [rdc] at gY
  apply jB
  simp [yc.r23,gY]
  by_cases he:σ'.e=0
  ·have hRR:=hRe he
   refine jF (by simp [he]) (AX.skip ?_)
   simp
   apply jA
   simp [yc.r25]
   apply jD
   simp [hRR,yo1,he]
   refine ⟨RY.fin,.tup _ _ rfl fun j w v hw hv=>?_⟩
   match j with
   | 0=>simp at hw hv;subst hw;subst hv;exact AY.frz
   | 1=>simp at hw hv;subst hw;subst hv;exact .refl _
   | j+2=>simp at hw
  ·have hRR:=hRe2 he
   refine jG (by simp [he]) ?_
   refine AX.seq (AX.drw ?_)
   simp [yc.r24,gY]
   apply jD
   simp [yo1,hRR,he]
   refine ⟨RY.fin,.tup _ _ rfl fun j w v hw hv=>?_⟩
   match j with
   | 0=>simp [ss] at hw hv;subst hw;subst hv;exact .sl0 _
   | 1=>simp at hw hv;subst hw;subst hv;exact .refl _
   | j+2=>simp at hw
 have gX:=RXX.get
 simp only [rdc] at gX
 simp only [yc.l0]
 refine AX.seq (AX.test (decide (i<n)&&decide (σ.e=0)) [(0,.p (some (id,0,3))),(4,.i .i64 (n:Nat)),(5,lv),(6,.s last),(7,.i .i64 i),(34,.b (decide (i<n)&&decide (σ.e=0)))] ?_ rfl (fun hd=>AX.skip ?_) (fun hd=>AX.exit ?_))
 ·by_cases h1:i<n
  ·simp [yc.r7,h1,gX]
  ·simp [yc.r7,h1]
 ·simp at hd
  obtain ⟨hin,he⟩:=hd
  have hstep:=yk0 (t:=t) hin he (decide (i=0)) last acc
  have hl1000:=hll2 he
  rw [hres he] at hstep
  clear hres hresE hll2
  obtain ⟨ho1,hn1⟩:=y6d ho
  obtain ⟨ho2,hn2⟩:=ygn ho1
  simp
  apply jC
  simp [yc.r8]
  refine AC.fix (y80 ho (by omega) RXX.get) ?_
  have R1:=RXX.upd (y33 t σ).2
  have A1:=RXX.acc A (y33 t σ).2
  generalize X.upd id (.cells (rdc t (y33 t σ).2) 3)=Y1 at *
  simp
  apply jA
  simp [yc.r9]
  refine AC.fix (ym4 ho1 (by omega) R1.get) ?_
  have R2:=R1.upd (y6y t (y33 t σ).2).2
  have A2:=R1.acc A1 (y6y t (y33 t σ).2).2
  generalize Y1.upd id (.cells (rdc t (y6y t (y33 t σ).2).2) 3)=Y2 at *
  generalize (y6y t (y33 t σ).2).2=σ' at *
  generalize (y6y t (y33 t σ).2).1=rest at *
  generalize (y33 t σ).1=k at *
  have g2:=R2.get
  simp only [rdc] at g2
  simp
  apply jB
  simp [yc.r10,g2]
  by_cases he2:σ'.e=0
  ·rw [if_neg (by simp [he2])] at hstep
   refine jF (by simp [he2]) (AX.skip ?_)
   have hup:∀e:Int,Y2.upd id (.cells [.s t,.i .i64 σ'.pos,.i .i64 e] 3)=Y2.upd id (.cells (rdc t { σ' with e:=e }) 3):=fun e=>rfl
   simp
   apply jB
   simp [yc.r11]
   by_cases h1:last.length<k
   ·have hn:yc4 last k rest (decide (i=0))=([],2):=by unfold yc4;rw [if_pos h1]
    rw [hn] at hstep
    refine jG (by simp [h1]) ?_
    apply jA
    simp [yc.r12,g2]
    refine AX.exit ?_
    have hf:y6a σ' 2={ σ' with e:=2 }:=by simp [y6a,he2]
    rw [hup]
    simp
    refine hend (ydy ho2 (x:=2) (by omega) (by omega) (by omega)) (by rw [hf];exact R2.upd _) (by exact R2.acc A2 _) (fun h=>by rw [hf] at h;cases h) (fun _=>?_)
    rw [hstep,hf,yeg (by simp)]
   have hn:yc4 last k rest (decide (i=0))=if 1000<(last.take k++rest).length then ([],9) else if decide (i=0)=false∧(ltB (last.take k++rest) last||(last.take k++rest == last))=true then ([],13)
    else if shN last (last.take k++rest)≠k then ([],3) else (last.take k++rest,0):=by unfold yc4;rw [if_neg h1]
   have hsl:(last.take k++rest).length≤1001000:=by simp;omega
   have hn3:(last.take k++rest).length=k+rest.length:=by simp;omega
   have htk:min k last.length=k:=by omega
   refine jF (by simp;omega) (AX.skip ?_)
   simp
   apply jA
   simp [yc.r13,show k≤last.length by omega]
   generalize last.take k++rest=s at *
   refine ⟨by omega,?_⟩
   refine AX.seq (AX.mono (Q:=y8z.then (fun F Z=>∃e:Int,0≤e∧e≤100∧e≠6∧(e=0→s.length≤1000∧R=y9q t (n-(i+1)) false s (acc++[s]) { σ' with e:=e })∧(e≠0→R.2={ σ' with e:=e })∧Z=Y2.upd id (.cells (rdc t { σ' with e:=e }) 3)∧F=[(0,.p (some (id,0,3))),(4,.i .i64 (n:Nat)),(5,lv),(7,.i .i64 i),(10,.s s)]) fun _ _ _=>False) (AX.pblock (jA ?_)) ?_)
   ·simp [yc.r14]
    have herr:∀e:Int,e≠0→yc4 last k rest (decide (i=0))=([],e)→R.2={ σ' with e:=e }:=fun e hne hnx=>by
     rw [hnx] at hstep
     have hf:y6a σ' e={ σ' with e:=e }:=by simp [y6a,he2]
     rw [hstep,hf,yeg (by simpa using hne)]
    by_cases h2:1000<s.length
    ·rw [if_pos h2] at hn
     refine jG (by simp [h2]) ?_
     apply jE
     simp [yc.r15,g2]
     exact ⟨9,by omega,by omega,by omega,by omega,fun _=>herr 9 (by omega) hn,hup 9⟩
    rw [if_neg h2] at hn
    refine jF (by simp [h2]) ?_
    refine AX.test (decide (0<i)&&(ltB s last||s == last)) [(0,.p (some (id,0,3))),(4,.i .i64 (n:Nat)),(5,lv),(6,.s last),(7,.i .i64 i),(8,.i .i64 (k:Nat)),(10,.s s),(65,.b (decide (0<i)&&(ltB s last||s == last)))] ?_ rfl (fun h3=>?_) (fun h3=>?_)
    ·by_cases h0:0<i
     ·simp [yc.r16,h0]
     ·simp [yc.r16,h0]
    ·simp at h3
     rw [if_pos ⟨by simp;omega,by simpa using h3.2⟩] at hn
     apply jE
     simp [yc.r17,g2]
     exact ⟨13,by omega,by omega,by omega,by omega,fun _=>herr 13 (by omega) hn,hup 13⟩
    simp at h3
    rw [if_neg (by rintro ⟨h5,h6⟩;simp at h5 h6;have:=h3 (by omega);exact h6.elim (fun h=>by rw [h] at this;exact Bool.noConfusion this.1) (fun h=>this.2 h))] at hn
    apply jA
    simp [yc.r18]
    refine AC.fix (yp2 _ _ (by omega) (by omega) _) ?_
    simp
    by_cases h4:shN last s=k
    ·rw [if_neg (by simpa using h4)] at hn
     refine jF (by simp [h4]) (AX.skip ?_)
     simp
     have hs0:({ σ' with e:=0 }:Rd)=σ':=by cases σ';simp at he2 ⊢;exact he2.symm
     refine ⟨0,by omega,by omega,by omega,fun _=>⟨by omega,?_⟩,by omega,?_⟩
     ·rw [hn] at hstep
      have hf:y6a σ' 0=σ':=by simp [y6a,he2];exact hs0
      rw [hs0,hstep,hf]
     ·rw [hs0];exact (Hp.upd_self R2.get).symm
    ·rw [if_pos (by simpa using h4)] at hn
     refine jG (by simp [h4]) ?_
     apply jE
     simp [yc.r19,g2]
     exact ⟨3,by omega,by omega,by omega,by omega,fun _=>herr 3 (by omega) hn,hup 3⟩
   intro x F Z hx
   cases x with
   | exit k=>exact hx.elim
   | ret=>exact hx.elim
   | normal=>
   obtain ⟨e,e0,e100,e6,hz,hnz,rfl,rfl⟩:=hx
   simp only [y8z.then]
   have ho3:y7q t { σ' with e:=e }:=by unfold y7q at *;exact ⟨ho2.1,e0,e100,e6⟩
   have R3:=R2.upd { σ' with e:=e }
   have A3:=R2.acc A2 { σ' with e:=e }
   generalize Y2.upd id (.cells (rdc t { σ' with e:=e }) 3)=Y3 at *
   obtain ⟨a4,l4,s4,Y4,e4,R4,A4,K4⟩:=R3.app (bytes:=16) A3 [.s s] rfl (by omega) rfl (by simp [tcl,yb7];unfold y7q at ho;omega)
   apply jA
   simp [yc.r20,ydi,-y59,e4]
   apply jE
   simp [yc.r21]
   apply jE
   simp [yc.r22,y5p (show i≤9223372036854775000 by omega)]
   exact ⟨n-(i+1),by omega,_,_,.refl _ _,i+1,s,acc++[s],{ σ' with e:=e },.sl a4 l4 s4,by omega,rfl,ho3,by omega,fun h=>(hz h).1,by simp;omega,fun h=>by simpa using (hz h).2.symm,hnz,R4,by simpa [tcl] using A4,by simp⟩
  ·rw [if_pos he2] at hstep
   refine jG (by simp [he2]) (AX.exit ?_)
   simp
   exact hend ho2 R2 A2 (fun h=>(he2 h).elim) (fun _=>by rw [hstep])
 ·simp at hd
  simp
  refine hend ho RXX A (fun he=>?_) hresE
  rw [←hres he]
  by_cases h1:i<n
  ·exact (hd h1 he).elim
  ·rw [show n-i=0 by omega];rfl
structure RC (t:Str) (pv:V) (rid id:Nat) (σ:Rd) (X:Hp):Prop where
 hr:X.get rid=some (.cells [.p (some (id,0,3)),pv] 2)
 hg:X.get id=some (.cells (rdc t σ) 3)
 ne:rid≠id
section
variable {t:Str} {pv:V} {rid id:Nat} {σ:Rd} {X Y H:Hp} {pool:List Str}
theorem RC.upd (R:RC t pv rid id σ X) (σ':Rd):RC t pv rid id σ' (X.upd id (.cells (rdc t σ') 3)):=⟨by rw [Hp.get_upd,if_neg R.ne];exact R.hr,by simp,R.ne⟩
theorem RX.rc {σ0:Rd} (R:RX H id t σ X) (C:RC t pv rid id σ0 H):RC t pv rid id σ X:=⟨R.ext.2 _ _ (by rw [yez,if_neg C.ne];exact C.hr),R.get,C.ne⟩
theorem yx9 (ho:y7q t σ) (C:RC t pv rid id σ X):AC Tryz.prog y67 [.p (some (rid,0,2))] X (fun v X'=>v=.b (decide (σ.e=0))∧X'=X):=by
 have hr:=C.hr
 refine AC.code y3o.at y3o.ok ?_
 simp only [y3o]
 apply jA
 simp [y3o.r0]
 apply jA
 simp [y3o.r1,hr]
 refine AC.fix (yi7 C.hg) ?_
 simp
 refine AX.stp [(2,.b (decide (σ.e=0)))] ?_ ?_
 ·unfold y7y
  by_cases he:σ.e=0
  ·by_cases hp:σ.pos<t.length
   ·simp [y3o.r2,he,hp]
   ·simp [y3o.r2,he,hp]
  ·have:=ho.2.2.2
   simp [y3o.r2,he,this]
 apply jD
 simp
theorem PAt_ok (hp:yf1 pool pv) (n:Nat) (H:Hp):AC Tryz.prog yev [pv,.i .i64 (n:Nat)] H (fun v H'=>v=.tup [.s ((pool[n]?).getD []),.b (decide (n<pool.length))]∧H'=H):=by
 refine AC.code y49.at y49.ok ?_
 simp only [y49]
 apply jA
 simp [y49.r0]
 apply jB
 simp [y49.r1]
 refine AC.fix (yjl pool pv hp _) ?_
 simp
 apply jA
 simp [y49.r2,ss]
 by_cases h:n<pool.length
 ·refine jG (by simp [h]) ?_
  apply jA
  simp [y49.r3,h]
  apply jD
  simp
 ·refine jF (by simp [h]) (AX.skip ?_)
  simp
  apply jA
  simp [y49.r4]
  apply jD
  simp [h]
theorem ya1 (hp:yf1 pool pv) (ht:t.length≤1000000000) (ho:y7q t σ) (C:RC t pv rid id σ X):
  AC Tryz.prog y3e [.p (some (rid,0,2))] X (fun v X'=>v=.s (y2e pool t σ).1∧X'=X.upd id (.cells (rdc t (y2e pool t σ).2) 3)):=by
 have hr:=C.hr
 refine AC.code y21.at y21.ok ?_
 simp only [y21]
 apply jA
 simp [y21.r0]
 apply jA
 simp [y21.r1,hr]
 refine AC.fix (y9o ho (by omega) C.hg) ?_
 obtain ⟨ho1,hn1⟩:=y6d ho
 have C1:=C.upd (y33 t σ).2
 unfold y2e
 generalize (y33 t σ).1=n at *
 generalize (y33 t σ).2=σ1 at *
 simp
 apply jB
 simp [y21.r2]
 refine AC.fix (yx9 ho1 C1) ?_
 simp
 by_cases he:σ1.e=0
 ·refine jF (by simp [he]) (AX.skip ?_)
  simp [he]
  apply jA
  simp [y21.r4,hr,C.ne]
  refine AC.fix (PAt_ok hp n _) ?_
  simp
  apply jB
  simp [y21.r5]
  by_cases h:n<pool.length
  ·refine jF (by simp [h]) (AX.skip ?_)
   simp
   apply jA
   simp [y21.r7]
   apply jD
   simp [h]
  ·refine jG (by simp [h]) (AX.reg ?_)
   have hnn:pool[n]?=none:=List.getElem?_eq_none (by omega)
   simp [y21.r6,hr,C.ne]
   refine AC.fix (ygg C1.hg 2) ?_
   simp
   apply jA
   simp [y21.r7]
   apply jD
   simp [hnn]
 ·refine jG (by simp [he]) ?_
  apply jA
  simp [y21.r3]
  apply jD
  simp [he]
def thF (k bytes:Nat) (zs:List V):AFunc:=⟨35,[.t 4],.seq (.post [0,1] (.region yj.r0)) (.seq (.post [0,1,5] (.region yj.r1)) (.seq (.seq (.post [0,1,5,14] (.region yj.r2)) (.post [0,1,5] (.cond (.t 14) (.post [0,1,5] (.region yj.r3)) (.skip)))) (.seq (.post [0,1,5,6] (.region yj.r4)) (.seq (.seq (.post [0,1,5,6,7] (.region yj.r5)) (.post [6] (.block 0 (.loop
 (.seq (.seq (.post [0,1,5,6,7,26] (.region yj.r6)) (.post [0,1,5,6,7] (.cond (.t 26) (.skip) (.exit 0)))) (.seq (.post [0,1,5,6,7] (.block 1 (.post [0,1,5,6,7] (.region [
 ab 29 6,
 ab 30 1,
 a33 31 30,
 ⟨some 32,none,.op (.bfz 1 k zs [(0,k,.t 31)])⟩,
 ⟨some 33,none,.op (.app k bytes (.t 29) (.t 32))⟩,
 ⟨some 6,none,.op (.mov (.t 33))⟩])))) (.post [0,1,5,6,7] (.region yj.r8)))))))) (.seq (.post [4] (.region yj.r9)) (.ret))))))⟩
def ThInv {α:Type} (t:Str) (H:Hp) (rid id:Nat) (one:Rd→α × Rd) (enc:α→List V) (sz:Nat) (onev:V) (n:Nat) (R:List α × Rd) (m:Nat) (F:Fr) (X:Hp):Prop:=
 ∃i acc σ lv,i≤n∧m=n-i∧y7q t σ∧acc.length=i∧R=(acc++(ya7 one (n-i) σ).1,(ya7 one (n-i) σ).2)∧RX H id t σ X∧Acc (H.del id) sz lv X (acc.map enc)∧
  F=[(0,.p (some (rid,0,2))),(1,onev),(5,.i .i64 (n:Nat)),(6,lv),(7,.i .i64 i)]
theorem yd5 {α:Type} (one:Rd→α × Rd) (yog:α→V) (enc:α→List V) (k bytes:Nat) (zs:List V) (hev:∀x,y7z (yog x)=some (enc x)) (hk:∀x,(enc x).length=k) (hz:zs.length=k) (h0:0<k) (hby:bytes≤200) (hcell:∀x,(enc x).all y8i=true) (hfree:∀x,∀v∈enc x,yey v)
  {f:Go.FuncId} {fn:Go.Func} (hf:Tryz.prog.funcs[f]?=some fn) (hok:y1x Tryz.prog fn (thF k bytes zs)=true) (onev:V) (h1:∀σ,y7q t σ→y7q t (one σ).2)
  (hone:∀σ X,y7q t σ→RC t pv rid id σ X→callv Tryz.prog onev [] X (fun v X'=>v=yog (one σ).1∧X'=X.upd id (.cells (rdc t (one σ).2) 3)))
  (ht:t.length≤1000000000) (ho:y7q t σ) (C:RC t pv rid id σ H):
  AC Tryz.prog f [.p (some (rid,0,2)),onev] H (fun v H'=>v=.fs ((y3j t one σ).1.map enc)∧H'=H.upd id (.cells (rdc t (y3j t one σ).2) 3)):=by
 refine AC.codeU hf hok C.hg (ydo _ _) (yg8 fun e he v hv=>by
  obtain ⟨x,_,rfl⟩:=List.mem_map.1 he
  exact hfree x v hv) fun hlt=>?_
 obtain ⟨R,hR⟩:∃R,R=y3j t one σ:=⟨_,rfl⟩
 rw [←hR]
 have X0:=RX.start hlt C.hg
 simp only [thF]
 apply jA
 simp [yj.r0]
 apply jA
 simp [yj.r1,C.hr]
 refine AC.fix (y9o ho (by omega) C.hg) ?_
 obtain ⟨ho1,hn1⟩:=y6d ho
 have ho2:=yjb ho
 have X1:=X0.upd (y33 t σ).2
 have C1:=X1.rc C
 unfold y3j at hR
 generalize (y33 t σ).1=n at *
 generalize (y33 t σ).2=σ1 at *
 generalize H.upd id (.cells (rdc t σ1) 3)=Y1 at X1 C1 ⊢
 simp
 generalize hs2:(if 6000<n then y6a σ1 4 else σ1)=σ2 at *
 refine AX.seq (AX.mono (Q:=y8z.then (fun F X=>F=[(0,.p (some (rid,0,2))),(1,onev),(5,.i .i64 (n:Nat))]∧RX H id t σ2 X) fun _ _ _=>False) (jA ?_) ?_)
 ·simp [yj.r2]
  by_cases h6:6000<n
  ·rw [if_pos h6] at hs2
   refine jG (by simp [h6]) (AX.reg ?_)
   simp [yj.r3,C1.hr]
   refine AC.fix (ygg C1.hg 4) ?_
   rw [hs2]
   simp
   exact X1.upd σ2
  ·rw [if_neg h6] at hs2
   refine jF (by simp [h6]) (AX.skip ?_)
   simp
   rw [←hs2]
   exact X1
 intro x F X hx
 cases x with
 | exit k=>exact hx.elim
 | ret=>exact hx.elim
 | normal=>
 obtain ⟨rfl,X2⟩:=hx
 simp only [y8z.then]
 apply jA
 simp [yj.r4]
 apply jB
 simp [yj.r5]
 refine AX.pblock (AX.loop (ThInv t H rid id one enc k onev n R) n ⟨_,_,.refl _ _,0,[],σ2,.sl none 0 0,by omega,by omega,ho2,rfl,by simpa using hR,X2,by simpa using X2.accNil k 0,by simp⟩ ?_)
 rintro m F X ⟨i,acc,σ,lv,hi,rfl,ho,hal,hres,RXX,A,rfl⟩
 have CX:=RXX.rc C
 refine AX.seq (AX.seq (AX.mono (Q:=y8z.then (fun F Y=>F=[(0,.p (some (rid,0,2))),(1,onev),(5,.i .i64 (n:Nat)),(6,lv),(7,.i .i64 i),(26,.b (decide (i<n)&&decide (σ.e=0)))]∧Y=X) fun _ _ _=>False) (AX.reg ?_) ?_))
 ·by_cases h1:i<n
  ·simp [yj.r6,h1]
   refine AC.fix (yx9 ho CX) ?_
   simp
  ·simp [yj.r6,h1]
 intro x F Y hx
 cases x with
 | exit k=>exact hx.elim
 | ret=>exact hx.elim
 | normal=>
 obtain ⟨rfl,rfl⟩:=hx
 simp only [y8z.then]
 refine AX.pcond rfl (fun hd=>AX.skip ?_) (fun hd=>AX.exit ?_)
 ·simp at hd
  obtain ⟨hin,he⟩:=hd
  rw [yds hin he] at hres
  simp
  refine AX.seq (AX.pblock (AX.reg ?_))
  simp
  refine callv_mono (hone σ Y ho CX) ?_
  have R1:=RXX.upd (one σ).2
  have A1:=RXX.acc A (one σ).2
  have ho1:=h1 σ ho
  have hv:=hev (one σ).1
  have hel:=hk (one σ).1
  have hcl:=hcell (one σ).1
  generalize (one σ).2=σ' at *
  generalize (one σ).1=x at *
  rintro _ _ ⟨rfl,rfl⟩
  generalize Y.upd id (.cells (rdc t σ') 3)=Y1 at *
  obtain ⟨a4,l4,s4,Y4,e4,R4,A4,K4⟩:=R1.app (bytes:=bytes) A1 (enc x) hel h0 hcl (by
   have:(acc.length+1)*bytes≤300000000*200:=Nat.mul_le_mul (by omega) hby
   simp [yb7];omega)
  have hsa:setAll zs 0 (enc x)=enc x:=ydu (by rw [hel,hz])
  have htk:(enc x).take k=enc x:=kH (by omega)
  have hrp:ydi 1 zs=zs:=by
   unfold ydi
   split
   ·rfl
   ·simp
  simp [hrp,hv,hel,hz,hsa,htk,-y7z,-setAll,-y59,e4,show List.range 1=[0] from rfl]
  apply jE
  simp [yj.r8,y5p (show i≤9223372036854775000 by omega)]
  exact ⟨n-(i+1),by omega,_,_,.refl _ _,i+1,acc++[x],σ',.sl a4 l4 s4,by omega,rfl,ho1,by simp [hal],by rw [hres];simp,R4,by simpa using A4,by simp⟩
 ·simp at hd
  have hRe:R=(acc,σ):=by
   rw [hres]
   by_cases h1:i<n
   ·rw [yb8 (hd h1)];simp
   ·rw [show n-i=0 by omega];simp [ya7]
  simp
  apply jA
  simp [yj.r9]
  apply jD
  simp [hRe]
  exact ⟨RXX.fin,A.frz⟩
end
end Go.Proofs.YthmkcebbeehbeaaGreatDoor
