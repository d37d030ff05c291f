/- Part 42 of the proof of the laws of the queries: RrY, DecP, DecO, R6W, R26. -/
import Derived.Test.YthmkcebbeehbeaaGreatDoorXEw19
import Derived.Test.YthmkcebbeehbeaaGreatDoorXEw29
import Derived.Test.YthmkcebbeehbeaaGreatDoorXEw30
import Derived.Test.YthmkcebbeehbeaaGreatDoorXEw35
import Derived.Test.YthmkcebbeehbeaaGreatDoorXEw37
import Derived.Test.YthmkcebbeehbeaaGreatDoorXEw40
import Derived.Test.YthmkcebbeehbeaaGreatDoorXEw41
set_option linter.unusedSimpArgs false
set_option linter.unusedVariables false
namespace Go.Proofs.YthmkcebbeehbeaaGreatDoor
open Am C
theorem ygj {H:Hp} {S:Nat→Prop}:Frz H S (.agg [.s [],.sl none 0 0,.sl none 0 0,.sl none 0 0,.sl none 0 0,.sl none 0 0,.sl none 0 0]) (.agg (y5s su0)):=by
  refine .agg _ _ rfl fun j u v hu hv=>?_
  match j with
  | 0=>simp [y5s,su0] at hu hv;subst hu;subst hv;exact .refl _
  | 1=>simp [y5s,su0,ss] at hu hv;subst hu;subst hv;exact .sl0 _
  | 2=>simp [y5s,su0,ss] at hu hv;subst hu;subst hv;exact .sl0 _
  | 3=>simp [y5s,su0,ss] at hu hv;subst hu;subst hv;exact .sl0 _
  | 4=>simp [y5s,su0,ss] at hu hv;subst hu;subst hv;exact .sl0 _
  | 5=>simp [y5s,su0,ss] at hu hv;subst hu;subst hv;exact .sl0 _
  | 6=>simp [y5s,su0,ss] at hu hv;subst hu;subst hv;exact .sl0 _
  | j+7=>simp at hu
theorem yeo {H:Hp} {S:Nat→Prop} {a b c:V} (h:Frz H S a b):Frz H S (.tup [a,c]) (.tup [b,c]):=by
  refine .tup _ _ rfl fun j u v hu hv=>?_
  match j with
  | 0=>simp at hu hv;subst hu;subst hv;exact h
  | 1=>simp at hu hv;subst hu;subst hv;exact .refl _
  | j+2=>simp at hu
set_option maxHeartbeats 1000000 in
theorem yrw {pool:List Str} {pv:V} (hp:ydz pool pv) (t:Str) (ht:t.length≤1000000000) (H:Hp):
    AC Tryz.prog yej [pv,.s t] H (fun v H'=>v=.tup [.agg (y5s (yc6 pool t).1),.i .i64 (yc6 pool t).2]∧H'=H):=by
  refine AC.codeP y27.at y27.ok (ydj (by simp [yep (ymc _)])) fun hlt=>?_
  obtain ⟨S,hS⟩:∃S,S=ygv pool t ⟨0,0⟩:=⟨_,rfl⟩
  have hR:∀s σ,S=(s,σ)→yc6 pool t=if y97 t σ≠0 then (su0,y97 t σ) else (s,0):=fun s σ h=>by unfold yc6;rw [←hS,h]
  generalize yc6 pool t=R at *
  simp only [y27]
  apply jA
  simp [y27.r0]
  have e0:=Am.Hp.Ext.add hlt (.cells [.s [],.sl none 0 0,.sl none 0 0,.sl none 0 0,.sl none 0 0,.sl none 0 0,.sl none 0 0] 7)
  have l0:=Hp.add_lt hlt (.cells [.s [],.sl none 0 0,.sl none 0 0,.sl none 0 0,.sl none 0 0,.sl none 0 0,.sl none 0 0] 7)
  have q0:(H.add (.cells [.s [],.sl none 0 0,.sl none 0 0,.sl none 0 0,.sl none 0 0,.sl none 0 0,.sl none 0 0] 7)).get H.next=some (.cells [.s [],.sl none 0 0,.sl none 0 0,.sl none 0 0,.sl none 0 0,.sl none 0 0,.sl none 0 0] 7):=by simp
  have n0:H.next<(H.add (.cells [.s [],.sl none 0 0,.sl none 0 0,.sl none 0 0,.sl none 0 0,.sl none 0 0,.sl none 0 0] 7)).next:=by simp
  generalize H.add (.cells [.s [],.sl none 0 0,.sl none 0 0,.sl none 0 0,.sl none 0 0,.sl none 0 0,.sl none 0 0] 7)=W0 at *
  apply jA
  simp [y27.r1]
  refine AC.fix (yqz t W0) ?_
  have e1:=e0.trans (.add l0 (.cells (rdc t ⟨0,0⟩) 3))
  have l1:=Hp.add_lt l0 (.cells (rdc t ⟨0,0⟩) 3)
  have i1:(W0.add (.cells (rdc t ⟨0,0⟩) 3)).get W0.next=some (.cells (rdc t ⟨0,0⟩) 3):=by simp
  have q1:(W0.add (.cells (rdc t ⟨0,0⟩) 3)).get H.next=some (.cells [.s [],.sl none 0 0,.sl none 0 0,.sl none 0 0,.sl none 0 0,.sl none 0 0,.sl none 0 0] 7):=by rw [Hp.get_add,if_neg (by omega)];exact q0
  have n1:W0.next<(W0.add (.cells (rdc t ⟨0,0⟩) 3)).next:=by simp
  have hne:H.next≠W0.next:=by omega
  have hidl:H.next≤W0.next:=by omega
  generalize W0.add (.cells (rdc t ⟨0,0⟩) 3)=W1 at *
  generalize W0.next=id at *
  have hpi:y7v pv=true:=by rcases hp.2.2 with ⟨_,rfl⟩ | rfl <;> rfl
  have hpc:y89 pv=some [pv]:=by rcases hp.2.2 with ⟨_,rfl⟩ | rfl <;> rfl
  have hpp:y89 (.p (some (id,0,3)))=some [.p (some (id,0,3))]:=rfl
  have hpb:y89 (.agg [.p (some (id,0,3)),pv])=some [.p (some (id,0,3)),pv]:=by simp only [y89,List.all_cons,List.all_nil,hpi];rfl
  simp [-y89,hpc,hpp,hpb]
  have e2:=e1.trans (.add l1 (.cells [.p (some (id,0,3)),pv] 2))
  have l2:=Hp.add_lt l1 (.cells [.p (some (id,0,3)),pv] 2)
  have i2:(W1.add (.cells [.p (some (id,0,3)),pv] 2)).get id=some (.cells (rdc t ⟨0,0⟩) 3):=by rw [Hp.get_add,if_neg (by omega)];exact i1
  have r2:(W1.add (.cells [.p (some (id,0,3)),pv] 2)).get W1.next=some (.cells [.p (some (id,0,3)),pv] 2):=by simp
  have q2:(W1.add (.cells [.p (some (id,0,3)),pv] 2)).get H.next=some (.cells [.s [],.sl none 0 0,.sl none 0 0,.sl none 0 0,.sl none 0 0,.sl none 0 0,.sl none 0 0] 7):=by rw [Hp.get_add,if_neg (by omega)];exact q1
  have hnr:W1.next≠id:=by omega
  generalize W1.add (.cells [.p (some (id,0,3)),pv] 2)=B at *
  generalize W1.next=rid at *
  have C:RC t pv rid id ⟨0,0⟩ B:=⟨r2,i2,hnr⟩
  have X0:=RX.start l2 i2
  have ho:y8u t ⟨0,0⟩:=⟨Nat.zero_le _,by simp,by simp,by simp⟩
  have hfin:∀{σ:Rd} {X:Hp},RX B id t σ X→(∀blk,X.get H.next=some blk→True)→H.Ext (X.upd H.next (.cells [] 0)):=fun R _=>⟨Nat.le_trans e2.1 R.ext.1,fun k blk h=>by
    have hk:=hlt _ _ h
    rw [Hp.get_upd,if_neg (by omega)]
    exact R.ext.2 _ _ (by rw [ygl,if_neg (by omega)];exact e2.2 _ _ h)⟩
  have hfin2:∀{σ:Rd} {X:Hp} (b:Blk),RX B id t σ X→H.Ext (X.upd H.next b):=fun b R=>⟨Nat.le_trans e2.1 R.ext.1,fun k blk h=>by
    have hk:=hlt _ _ h
    rw [Hp.get_upd,if_neg (by omega)]
    exact R.ext.2 _ _ (by rw [ygl,if_neg (by omega)];exact e2.2 _ _ h)⟩
  clear hfin
  unfold ygv at hS
  dsimp only at hS
  apply jA
  simp [y27.r2]
  refine AC.fix (y9b hp ht ho C) ?_
  have ho1:=y52 (pool:=pool) ho
  have X1a:=X0.upd (y45 pool t ⟨0,0⟩).2
  have q1a:(B.upd id (.cells (rdc t (y45 pool t ⟨0,0⟩).2) 3)).get H.next=some (.cells [.s [],.sl none 0 0,.sl none 0 0,.sl none 0 0,.sl none 0 0,.sl none 0 0,.sl none 0 0] 7):=by simp [hne,q2]
  generalize B.upd id (.cells (rdc t (y45 pool t ⟨0,0⟩).2) 3)=Y1a at *
  generalize (y45 pool t ⟨0,0⟩).1=nm at *
  generalize (y45 pool t ⟨0,0⟩).2=s1 at *
  have hxn:B.next≤Y1a.next:=X1a.ext.1
  have hbn:=l2 _ _ i2
  have hbn2:=l2 _ _ q2
  have hne2:Y1a.next≠id:=by omega
  have hup:(Y1a.add (.cells [.s [],.sl none 0 0,.sl none 0 0,.sl none 0 0,.sl none 0 0,.sl none 0 0,.sl none 0 0] 7)).upd Y1a.next (.cells [.s nm,.sl none 0 0,.sl none 0 0,.sl none 0 0,.sl none 0 0,.sl none 0 0,.sl none 0 0] 7)=Y1a.add (.cells [.s nm,.sl none 0 0,.sl none 0 0,.sl none 0 0,.sl none 0 0,.sl none 0 0,.sl none 0 0] 7):=by
    refine Hp.ext' (fun j=>?_) rfl
    simp only [Hp.get_upd,Hp.get_add]
    split <;> rfl
  simp [hup]
  have X1:=X1a.add (.cells [.s nm,.sl none 0 0,.sl none 0 0,.sl none 0 0,.sl none 0 0,.sl none 0 0,.sl none 0 0] 7)
  have q1b:(Y1a.add (.cells [.s nm,.sl none 0 0,.sl none 0 0,.sl none 0 0,.sl none 0 0,.sl none 0 0,.sl none 0 0] 7)).get H.next=some (.cells [.s [],.sl none 0 0,.sl none 0 0,.sl none 0 0,.sl none 0 0,.sl none 0 0,.sl none 0 0] 7):=by rw [Hp.get_add,if_neg (by omega)];exact q1a
  have g1:(Y1a.add (.cells [.s nm,.sl none 0 0,.sl none 0 0,.sl none 0 0,.sl none 0 0,.sl none 0 0,.sl none 0 0] 7)).get Y1a.next=some (.cells [.s nm,.sl none 0 0,.sl none 0 0,.sl none 0 0,.sl none 0 0,.sl none 0 0,.sl none 0 0] 7):=by simp
  have lo2:B.next≤Y1a.next:=hxn
  have hnn:H.next≠Y1a.next:=by omega
  generalize Y1a.add (.cells [.s nm,.sl none 0 0,.sl none 0 0,.sl none 0 0,.sl none 0 0,.sl none 0 0,.sl none 0 0] 7)=Y1 at *
  generalize Y1a.next=ob at *
  have C1:=X1.rc C
  apply jA
  simp [y27.r3]
  refine AC.fix (yc4 (y45 pool t) V.s (fun x=>[.s x]) 1 16 [.s []] (fun _=>rfl) (fun _=>rfl) rfl (by omega) (by omega) (fun _=>rfl) (fun x v hv=>by simp at hv;subst hv;exact ycf _) yh.at yh.ok (.fb y33 [.p (some (rid,0,2))]) (fun _ h=>y52 h)
    (fun σ X o c=>by simpa using y9b hp ht o c) ht ho1 C1) ?_
  have ho2:=y83 (fun _ h=>y52 (pool:=pool) h) ho1
  have X2a:=X1.upd (y44 t (y45 pool t) s1).2
  have q2a:(Y1.upd id (.cells (rdc t (y44 t (y45 pool t) s1).2) 3)).get H.next=some (.cells [.s [],.sl none 0 0,.sl none 0 0,.sl none 0 0,.sl none 0 0,.sl none 0 0,.sl none 0 0] 7):=by simp [hne,q1b]
  have g2a:(Y1.upd id (.cells (rdc t (y44 t (y45 pool t) s1).2) 3)).get ob=some (.cells [.s nm,.sl none 0 0,.sl none 0 0,.sl none 0 0,.sl none 0 0,.sl none 0 0,.sl none 0 0] 7):=by simp [hne2,g1]
  generalize Y1.upd id (.cells (rdc t (y44 t (y45 pool t) s1).2) 3)=Y2a at *
  generalize (y44 t (y45 pool t) s1).1=gv at *
  generalize (y44 t (y45 pool t) s1).2=s2 at *
  simp [g2a]
  have X2:=X2a.put lo2 (X2a.lt _ _ g2a) (.cells [.s nm,.fs (gv.map fun x=>[.s x]),.sl none 0 0,.sl none 0 0,.sl none 0 0,.sl none 0 0,.sl none 0 0] 7)
  have g2:(Y2a.upd ob (.cells [.s nm,.fs (gv.map fun x=>[.s x]),.sl none 0 0,.sl none 0 0,.sl none 0 0,.sl none 0 0,.sl none 0 0] 7)).get ob=some (.cells [.s nm,.fs (gv.map fun x=>[.s x]),.sl none 0 0,.sl none 0 0,.sl none 0 0,.sl none 0 0,.sl none 0 0] 7):=by simp
  have q2b:(Y2a.upd ob (.cells [.s nm,.fs (gv.map fun x=>[.s x]),.sl none 0 0,.sl none 0 0,.sl none 0 0,.sl none 0 0,.sl none 0 0] 7)).get H.next=some (.cells [.s [],.sl none 0 0,.sl none 0 0,.sl none 0 0,.sl none 0 0,.sl none 0 0,.sl none 0 0] 7):=by simp [hnn,q2a]
  generalize Y2a.upd ob (.cells [.s nm,.fs (gv.map fun x=>[.s x]),.sl none 0 0,.sl none 0 0,.sl none 0 0,.sl none 0 0,.sl none 0 0] 7)=Y2 at *
  have C2:=X2.rc C
  apply jA
  simp [y27.r4]
  refine AC.fix (yc4 (y45 pool t) V.s (fun x=>[.s x]) 1 16 [.s []] (fun _=>rfl) (fun _=>rfl) rfl (by omega) (by omega) (fun _=>rfl) (fun x v hv=>by simp at hv;subst hv;exact ycf _) yh.at yh.ok (.fb y33 [.p (some (rid,0,2))]) (fun _ h=>y52 h)
    (fun σ X o c=>by simpa using y9b hp ht o c) ht ho2 C2) ?_
  have ho3:=y83 (fun _ h=>y52 (pool:=pool) h) ho2
  have X3a:=X2.upd (y44 t (y45 pool t) s2).2
  have q3a:(Y2.upd id (.cells (rdc t (y44 t (y45 pool t) s2).2) 3)).get H.next=some (.cells [.s [],.sl none 0 0,.sl none 0 0,.sl none 0 0,.sl none 0 0,.sl none 0 0,.sl none 0 0] 7):=by simp [hne,q2b]
  have g3a:(Y2.upd id (.cells (rdc t (y44 t (y45 pool t) s2).2) 3)).get ob=some (.cells [.s nm,.fs (gv.map fun x=>[.s x]),.sl none 0 0,.sl none 0 0,.sl none 0 0,.sl none 0 0,.sl none 0 0] 7):=by simp [hne2,g2]
  generalize Y2.upd id (.cells (rdc t (y44 t (y45 pool t) s2).2) 3)=Y3a at *
  generalize (y44 t (y45 pool t) s2).1=wn at *
  generalize (y44 t (y45 pool t) s2).2=s3 at *
  simp [g3a]
  have X3:=X3a.put lo2 (X3a.lt _ _ g3a) (.cells [.s nm,.fs (gv.map fun x=>[.s x]),.fs (wn.map fun x=>[.s x]),.sl none 0 0,.sl none 0 0,.sl none 0 0,.sl none 0 0] 7)
  have g3:(Y3a.upd ob (.cells [.s nm,.fs (gv.map fun x=>[.s x]),.fs (wn.map fun x=>[.s x]),.sl none 0 0,.sl none 0 0,.sl none 0 0,.sl none 0 0] 7)).get ob=some (.cells [.s nm,.fs (gv.map fun x=>[.s x]),.fs (wn.map fun x=>[.s x]),.sl none 0 0,.sl none 0 0,.sl none 0 0,.sl none 0 0] 7):=by simp
  have q3b:(Y3a.upd ob (.cells [.s nm,.fs (gv.map fun x=>[.s x]),.fs (wn.map fun x=>[.s x]),.sl none 0 0,.sl none 0 0,.sl none 0 0,.sl none 0 0] 7)).get H.next=some (.cells [.s [],.sl none 0 0,.sl none 0 0,.sl none 0 0,.sl none 0 0,.sl none 0 0,.sl none 0 0] 7):=by simp [hnn,q3a]
  generalize Y3a.upd ob (.cells [.s nm,.fs (gv.map fun x=>[.s x]),.fs (wn.map fun x=>[.s x]),.sl none 0 0,.sl none 0 0,.sl none 0 0,.sl none 0 0] 7)=Y3 at *
  have C3:=X3.rc C
  apply jA
  simp [y27.r5]
  refine AC.fix (yc4 (y45 pool t) V.s (fun x=>[.s x]) 1 16 [.s []] (fun _=>rfl) (fun _=>rfl) rfl (by omega) (by omega) (fun _=>rfl) (fun x v hv=>by simp at hv;subst hv;exact ycf _) yh.at yh.ok (.fb y33 [.p (some (rid,0,2))]) (fun _ h=>y52 h)
    (fun σ X o c=>by simpa using y9b hp ht o c) ht ho3 C3) ?_
  have ho4:=y83 (fun _ h=>y52 (pool:=pool) h) ho3
  have X4a:=X3.upd (y44 t (y45 pool t) s3).2
  have q4a:(Y3.upd id (.cells (rdc t (y44 t (y45 pool t) s3).2) 3)).get H.next=some (.cells [.s [],.sl none 0 0,.sl none 0 0,.sl none 0 0,.sl none 0 0,.sl none 0 0,.sl none 0 0] 7):=by simp [hne,q3b]
  have g4a:(Y3.upd id (.cells (rdc t (y44 t (y45 pool t) s3).2) 3)).get ob=some (.cells [.s nm,.fs (gv.map fun x=>[.s x]),.fs (wn.map fun x=>[.s x]),.sl none 0 0,.sl none 0 0,.sl none 0 0,.sl none 0 0] 7):=by simp [hne2,g3]
  generalize Y3.upd id (.cells (rdc t (y44 t (y45 pool t) s3).2) 3)=Y4a at *
  generalize (y44 t (y45 pool t) s3).1=kp at *
  generalize (y44 t (y45 pool t) s3).2=s4 at *
  simp [g4a]
  have X4:=X4a.put lo2 (X4a.lt _ _ g4a) (.cells [.s nm,.fs (gv.map fun x=>[.s x]),.fs (wn.map fun x=>[.s x]),.fs (kp.map fun x=>[.s x]),.sl none 0 0,.sl none 0 0,.sl none 0 0] 7)
  have g4:(Y4a.upd ob (.cells [.s nm,.fs (gv.map fun x=>[.s x]),.fs (wn.map fun x=>[.s x]),.fs (kp.map fun x=>[.s x]),.sl none 0 0,.sl none 0 0,.sl none 0 0] 7)).get ob=some (.cells [.s nm,.fs (gv.map fun x=>[.s x]),.fs (wn.map fun x=>[.s x]),.fs (kp.map fun x=>[.s x]),.sl none 0 0,.sl none 0 0,.sl none 0 0] 7):=by simp
  have q4b:(Y4a.upd ob (.cells [.s nm,.fs (gv.map fun x=>[.s x]),.fs (wn.map fun x=>[.s x]),.fs (kp.map fun x=>[.s x]),.sl none 0 0,.sl none 0 0,.sl none 0 0] 7)).get H.next=some (.cells [.s [],.sl none 0 0,.sl none 0 0,.sl none 0 0,.sl none 0 0,.sl none 0 0,.sl none 0 0] 7):=by simp [hnn,q4a]
  generalize Y4a.upd ob (.cells [.s nm,.fs (gv.map fun x=>[.s x]),.fs (wn.map fun x=>[.s x]),.fs (kp.map fun x=>[.s x]),.sl none 0 0,.sl none 0 0,.sl none 0 0] 7)=Y4 at *
  have C4:=X4.rc C
  apply jA
  simp [y27.r6]
  refine AC.fix (yc4 (yf4 pool t) (fun x=>.agg (y6a x)) y6a 3 56 [.s [],.s [],.sl none 0 0] (fun _=>rfl) (fun _=>rfl) rfl (by omega) (by omega) (fun _=>rfl) yj5 y1s.at y1s.ok (.fb y7q [.p (some (rid,0,2))]) (fun _ h=>yib h)
    (fun σ X o c=>by simpa using RdObj_ok hp ht o c) ht ho4 C4) ?_
  have ho5:=y83 (fun _ h=>yib (pool:=pool) h) ho4
  have X5a:=X4.upd (y44 t (yf4 pool t) s4).2
  have q5a:(Y4.upd id (.cells (rdc t (y44 t (yf4 pool t) s4).2) 3)).get H.next=some (.cells [.s [],.sl none 0 0,.sl none 0 0,.sl none 0 0,.sl none 0 0,.sl none 0 0,.sl none 0 0] 7):=by simp [hne,q4b]
  have g5a:(Y4.upd id (.cells (rdc t (y44 t (yf4 pool t) s4).2) 3)).get ob=some (.cells [.s nm,.fs (gv.map fun x=>[.s x]),.fs (wn.map fun x=>[.s x]),.fs (kp.map fun x=>[.s x]),.sl none 0 0,.sl none 0 0,.sl none 0 0] 7):=by simp [hne2,g4]
  generalize Y4.upd id (.cells (rdc t (y44 t (yf4 pool t) s4).2) 3)=Y5a at *
  generalize (y44 t (yf4 pool t) s4).1=os at *
  generalize (y44 t (yf4 pool t) s4).2=s5 at *
  simp [g5a]
  have X5:=X5a.put lo2 (X5a.lt _ _ g5a) (.cells [.s nm,.fs (gv.map fun x=>[.s x]),.fs (wn.map fun x=>[.s x]),.fs (kp.map fun x=>[.s x]),.fs (os.map y6a),.sl none 0 0,.sl none 0 0] 7)
  have g5:(Y5a.upd ob (.cells [.s nm,.fs (gv.map fun x=>[.s x]),.fs (wn.map fun x=>[.s x]),.fs (kp.map fun x=>[.s x]),.fs (os.map y6a),.sl none 0 0,.sl none 0 0] 7)).get ob=some (.cells [.s nm,.fs (gv.map fun x=>[.s x]),.fs (wn.map fun x=>[.s x]),.fs (kp.map fun x=>[.s x]),.fs (os.map y6a),.sl none 0 0,.sl none 0 0] 7):=by simp
  have q5b:(Y5a.upd ob (.cells [.s nm,.fs (gv.map fun x=>[.s x]),.fs (wn.map fun x=>[.s x]),.fs (kp.map fun x=>[.s x]),.fs (os.map y6a),.sl none 0 0,.sl none 0 0] 7)).get H.next=some (.cells [.s [],.sl none 0 0,.sl none 0 0,.sl none 0 0,.sl none 0 0,.sl none 0 0,.sl none 0 0] 7):=by simp [hnn,q5a]
  generalize Y5a.upd ob (.cells [.s nm,.fs (gv.map fun x=>[.s x]),.fs (wn.map fun x=>[.s x]),.fs (kp.map fun x=>[.s x]),.fs (os.map y6a),.sl none 0 0,.sl none 0 0] 7)=Y5 at *
  have C5:=X5.rc C
  apply jA
  simp [y27.r7]
  refine AC.fix (yc4 (ymp pool t) (fun x=>.agg (yaa x)) yaa 3 48 [.s [],.s [],.s []] (fun _=>rfl) (fun _=>rfl) rfl (by omega) (by omega) (fun _=>rfl) yjc y1y.at y1y.ok (.fb y6z [.p (some (rid,0,2))]) (fun _ h=>yl9 h)
    (fun σ X o c=>by simpa using RdFn_ok hp ht o c) ht ho5 C5) ?_
  have ho6:=y83 (fun _ h=>yl9 (pool:=pool) h) ho5
  have X6a:=X5.upd (y44 t (ymp pool t) s5).2
  have q6a:(Y5.upd id (.cells (rdc t (y44 t (ymp pool t) s5).2) 3)).get H.next=some (.cells [.s [],.sl none 0 0,.sl none 0 0,.sl none 0 0,.sl none 0 0,.sl none 0 0,.sl none 0 0] 7):=by simp [hne,q5b]
  have g6a:(Y5.upd id (.cells (rdc t (y44 t (ymp pool t) s5).2) 3)).get ob=some (.cells [.s nm,.fs (gv.map fun x=>[.s x]),.fs (wn.map fun x=>[.s x]),.fs (kp.map fun x=>[.s x]),.fs (os.map y6a),.sl none 0 0,.sl none 0 0] 7):=by simp [hne2,g5]
  generalize Y5.upd id (.cells (rdc t (y44 t (ymp pool t) s5).2) 3)=Y6a at *
  generalize (y44 t (ymp pool t) s5).1=fs at *
  generalize (y44 t (ymp pool t) s5).2=s6 at *
  simp [g6a]
  have X6:=X6a.put lo2 (X6a.lt _ _ g6a) (.cells [.s nm,.fs (gv.map fun x=>[.s x]),.fs (wn.map fun x=>[.s x]),.fs (kp.map fun x=>[.s x]),.fs (os.map y6a),.fs (fs.map yaa),.sl none 0 0] 7)
  have g6:(Y6a.upd ob (.cells [.s nm,.fs (gv.map fun x=>[.s x]),.fs (wn.map fun x=>[.s x]),.fs (kp.map fun x=>[.s x]),.fs (os.map y6a),.fs (fs.map yaa),.sl none 0 0] 7)).get ob=some (.cells [.s nm,.fs (gv.map fun x=>[.s x]),.fs (wn.map fun x=>[.s x]),.fs (kp.map fun x=>[.s x]),.fs (os.map y6a),.fs (fs.map yaa),.sl none 0 0] 7):=by simp
  have q6b:(Y6a.upd ob (.cells [.s nm,.fs (gv.map fun x=>[.s x]),.fs (wn.map fun x=>[.s x]),.fs (kp.map fun x=>[.s x]),.fs (os.map y6a),.fs (fs.map yaa),.sl none 0 0] 7)).get H.next=some (.cells [.s [],.sl none 0 0,.sl none 0 0,.sl none 0 0,.sl none 0 0,.sl none 0 0,.sl none 0 0] 7):=by simp [hnn,q6a]
  generalize Y6a.upd ob (.cells [.s nm,.fs (gv.map fun x=>[.s x]),.fs (wn.map fun x=>[.s x]),.fs (kp.map fun x=>[.s x]),.fs (os.map y6a),.fs (fs.map yaa),.sl none 0 0] 7)=Y6 at *
  have C6:=X6.rc C
  apply jA
  simp [y27.r8]
  refine AC.fix (yc4 (yf6 pool t) (fun x=>.agg (y64 x)) y64 6 88 [.i .i64 0,.s [],.s [],.i .i64 0,.s [],.sl none 0 0] (fun _=>rfl) (fun _=>rfl) rfl (by omega) (by omega) (fun _=>rfl) yjj y1t.at y1t.ok (.fb y8x [.p (some (rid,0,2))]) (fun _ h=>yic h)
    (fun σ X o c=>by simpa using RdCon_ok hp ht o c) ht ho6 C6) ?_
  have ho7:=y83 (fun _ h=>yic (pool:=pool) h) ho6
  have X7a:=X6.upd (y44 t (yf6 pool t) s6).2
  have q7a:(Y6.upd id (.cells (rdc t (y44 t (yf6 pool t) s6).2) 3)).get H.next=some (.cells [.s [],.sl none 0 0,.sl none 0 0,.sl none 0 0,.sl none 0 0,.sl none 0 0,.sl none 0 0] 7):=by simp [hne,q6b]
  have g7a:(Y6.upd id (.cells (rdc t (y44 t (yf6 pool t) s6).2) 3)).get ob=some (.cells [.s nm,.fs (gv.map fun x=>[.s x]),.fs (wn.map fun x=>[.s x]),.fs (kp.map fun x=>[.s x]),.fs (os.map y6a),.fs (fs.map yaa),.sl none 0 0] 7):=by simp [hne2,g6]
  generalize Y6.upd id (.cells (rdc t (y44 t (yf6 pool t) s6).2) 3)=Y7a at *
  generalize (y44 t (yf6 pool t) s6).1=cs at *
  generalize (y44 t (yf6 pool t) s6).2=s7 at *
  simp [g7a]
  have X7:=X7a.put lo2 (X7a.lt _ _ g7a) (.cells [.s nm,.fs (gv.map fun x=>[.s x]),.fs (wn.map fun x=>[.s x]),.fs (kp.map fun x=>[.s x]),.fs (os.map y6a),.fs (fs.map yaa),.fs (cs.map y64)] 7)
  have g7:(Y7a.upd ob (.cells [.s nm,.fs (gv.map fun x=>[.s x]),.fs (wn.map fun x=>[.s x]),.fs (kp.map fun x=>[.s x]),.fs (os.map y6a),.fs (fs.map yaa),.fs (cs.map y64)] 7)).get ob=some (.cells [.s nm,.fs (gv.map fun x=>[.s x]),.fs (wn.map fun x=>[.s x]),.fs (kp.map fun x=>[.s x]),.fs (os.map y6a),.fs (fs.map yaa),.fs (cs.map y64)] 7):=by simp
  have q7b:(Y7a.upd ob (.cells [.s nm,.fs (gv.map fun x=>[.s x]),.fs (wn.map fun x=>[.s x]),.fs (kp.map fun x=>[.s x]),.fs (os.map y6a),.fs (fs.map yaa),.fs (cs.map y64)] 7)).get H.next=some (.cells [.s [],.sl none 0 0,.sl none 0 0,.sl none 0 0,.sl none 0 0,.sl none 0 0,.sl none 0 0] 7):=by simp [hnn,q7a]
  generalize Y7a.upd ob (.cells [.s nm,.fs (gv.map fun x=>[.s x]),.fs (wn.map fun x=>[.s x]),.fs (kp.map fun x=>[.s x]),.fs (os.map y6a),.fs (fs.map yaa),.fs (cs.map y64)] 7)=Y7 at *
  have C7:=X7.rc C
  apply jB
  simp [y27.r9,C7.hr]
  refine AC.fix (yh4 C7.hg) ?_
  have hR2:=hR _ _ hS
  clear hR hS
  generalize y97 t s7=e at *
  simp
  apply jA
  simp [y27.r10]
  by_cases he:e=0
  · subst he
    refine jF (by simp) (AX.skip ?_)
    simp
    apply jA
    simp [y27.r12,g7,q7b]
    apply jD
    rw [if_neg (by simp)] at hR2
    simp [hR2,y5s,ss]
    exact ⟨hfin2 _ X7,.refl _⟩
  · refine jG (by simp [he]) ?_
    apply jA
    simp [y27.r11,q7b]
    apply jD
    rw [if_pos he] at hR2
    simp [hR2]
    exact ⟨hfin2 _ X7,yeo ygj⟩
structure Nb (H:Hp) (id:Nat) (b:Blk) (X:Hp):Prop where
  ext:H.Ext X
  lt:∀k blk,X.get k=some blk→k<X.next
  get:X.get id=some b
  hi:H.next≤id
  hlt:∀k blk,H.get k=some blk→k<H.next
theorem Nb.new {H:Hp} (hl:∀k blk,H.get k=some blk→k<H.next) (b:Blk):Nb H H.next b (H.add b):=⟨.add hl b,Hp.add_lt hl b,by simp,Nat.le_refl _,hl⟩
theorem Nb.upd {H X:Hp} {id:Nat} {b:Blk} (h:Nb H id b X) (c:Blk):Nb H id c (X.upd id c):=⟨h.ext.upd h.hlt h.hi c,Hp.upd_lt h.lt (h.lt _ _ h.get) c,by simp,h.hi,h.hlt⟩
theorem take4 {t:Str} (h:t.take 4=y8p):4≤t.length:=by
  have:=congrArg List.length h
  simp [y8p] at this;omega
theorem ynw (t:Str) (ht:t.length≤140737488351232) (H:Hp):AC Tryz.prog y6k [.s t,.s y8p] H (fun v H'=>v=.b (decide (t.take 4=y8p))∧H'=H):=by
  refine AC.code y2p.at y2p.ok ?_
  simp only [y2p,y8p]
  apply jA
  simp [y2p.r0]
  apply jA
  by_cases h4:4≤t.length
  · simp [y2p.r1,h4]
    apply jD
    simp
    exact decide_eq_decide.2 Iff.rfl
  · simp [y2p.r1,h4]
    apply jD
    simp
    refine decide_eq_false fun h=>?_
    exact h4 (take4 h)
theorem yny (t:Str) (ht:t.length≤140737488351232) (H:Hp):AC Tryz.prog yah [.s t,.s y8p] H (fun v H'=>v=.tup [.s (if t.take 4=y8p then t.drop 4 else t),.b (decide (t.take 4=y8p))]∧H'=H):=by
  have h0:∀H,AC Tryz.prog y6l [.s t,.s y8p] H (fun v H'=>v=.tup [.s (if t.take 4=y8p then t.drop 4 else t),.b (decide (t.take 4=y8p))]∧H'=H):=fun H=>by
    refine AC.code y1w.at y1w.ok ?_
    simp only [y1w]
    apply jA
    simp [y1w.r0]
    apply jB
    simp [y1w.r1]
    refine AC.fix (ynw t ht H) ?_
    by_cases h:t.take 4=y8p
    · have h4:=take4 h
      simp [h]
      refine jF rfl (AX.skip ?_)
      simp
      apply jA
      have e4:(y8p.length:Int)=4:=rfl
      simp [y1w.r3,y8p,h4]
      apply jD
      simp
    · simp [h]
      refine jG rfl (jA ?_)
      simp [y1w.r2]
      apply jD
      simp
  refine AC.code y4k.at y4k.ok ?_
  simp only [y4k]
  apply jA
  simp [y4k.r0]
  apply jA
  simp [y4k.r1]
  refine AC.fix (h0 H) ?_
  simp
  apply jD
  simp
theorem PLen_ok {pool:List Str} {pv:V} (hp:ydz pool pv) (H:Hp):AC Tryz.prog ycz [pv] H (fun v H'=>v=.i .i64 pool.length∧H'=H):=by
  refine AC.code y5h.at y5h.ok ?_
  simp only [y5h]
  apply jA
  simp [y5h.r0]
  apply jA
  simp [y5h.r1]
  refine AC.fix (yim pool pv hp H) ?_
  simp [ss]
  apply jD
  simp
theorem rd0 (u:Str):y8u u ⟨0,0⟩:=⟨by simp,by simp,by simp,by simp⟩
def OpR (t:Str) (v:V):Prop:=∃pv body e,v=.tup [pv,.s body,.i .i64 e]∧(e≠0→decT t=(su0,e))∧(e=0→∃l,ydz l pv∧(∀s∈l,s.length≤1000)∧l.length≤6000∧body.length≤1000000∧decT t=decR l body)
theorem SOpen_ok (t:Str) (ht:t.length≤200000) (H:Hp):AC Tryz.prog ydt [.s t] H (fun v H'=>OpR t v∧H'=H):=by
  refine AC.codeR y17.at y17.ok fun hlt=>?_
  simp only [y17]
  apply jA
  simp [y17.r0]
  apply jA
  simp [y17.r1]
  refine AC.fix (yny t (by omega) H) ?_
  simp
  apply jB
  simp [y17.r2]
  by_cases h:t.take 4=y8p
  case neg=>
    refine jG (by simp [h]) (jA ?_)
    simp [y17.r3]
    apply jD
    simp
    exact ⟨⟨_,_,_,rfl,fun _=>by unfold decT;rw [if_pos h],fun h=>by cases h⟩,.refl _⟩
  refine jF (by simp [h]) (AX.skip ?_)
  simp [h]
  have hD:decT t=decU (t.drop 4):=by unfold decT;rw [if_neg (by simp [h])]
  have hu:(t.drop 4).length≤200000:=by simp;omega
  generalize t.drop 4=u at *
  apply jA
  simp [y17.r4]
  refine AC.fix (yqz u H) ?_
  have N0:=Nb.new hlt (.cells (rdc u ⟨0,0⟩) 3)
  generalize H.add (.cells (rdc u ⟨0,0⟩) 3)=X at *
  generalize hid:H.next=id at *
  have o1:=(y6x (rd0 u)).1
  have N1:=N0.upd (.cells (rdc u (y4m u ⟨0,0⟩).2) 3)
  simp
  refine AX.seq (AX.mono (Q:=y8s.then (fun F X=>F=[(7,.p (some (id,0,3)))]∧Nb H id (.cells (rdc u (yex u)) 3) X) fun _ _ _=>False) (jA ?_) ?_)
  · simp [y17.r5]
    refine AC.fix (y9m (rd0 u) (by omega) N0.get) ?_
    generalize X.upd id (.cells (rdc u (y4m u ⟨0,0⟩).2) 3)=Y at *
    by_cases h1:(y4m u ⟨0,0⟩).1=1
    · have hv:yex u=(y4m u ⟨0,0⟩).2:=by unfold yex;rw [if_neg (by simp [h1])]
      simp [h1]
      apply jA
      simp [y17.r6]
      refine jF rfl (AX.skip ?_)
      simp
      rw [hv];exact N1
    · have hv:yex u=y77 (y4m u ⟨0,0⟩).2 5:=by unfold yex;rw [if_pos h1]
      have h1':((y4m u ⟨0,0⟩).1:Int)≠1:=by omega
      simp
      apply jA
      simp [y17.r6]
      refine jG (by simp;omega) (AX.reg ?_)
      simp [y17.r7]
      refine AC.fix (yfk N1.get 5) ?_
      simp
      rw [hv];exact N1.upd _
  intro x F X hx
  cases x with
  | exit k=>exact hx.elim
  | ret=>exact hx.elim
  | normal=>
  obtain ⟨rfl,N2⟩:=hx
  simp only [y8s.then]
  have o2:=rdVer_ok u
  clear N0 N1
  apply jB
  simp [y17.r8]
  refine AC.fix (yvk o2 N2.get) ?_
  simp
  apply jA
  simp [y17.r9]
  by_cases h2:(yex u).e=0
  case neg=>
    refine jG (by simp [h2]) (jA ?_)
    simp [y17.r10]
    apply jD
    simp
    exact ⟨⟨_,_,_,rfl,fun _=>by rw [hD];unfold decU;rw [if_pos h2],fun h=>(h2 h).elim⟩,N2.ext⟩
  refine jF (by simp [h2]) (AX.skip ?_)
  simp
  have hD2:decT t=decX u (y8t u (yex u)):=by rw [hD];unfold decU;rw [if_neg (by simp [h2])]
  apply jA
  simp [y17.r11]
  refine AC.fix (PRead_ok o2 (by omega) N2.get) ?_
  have gp:=ytm (t:=u) (σ:=yex u) o2
  have N3:=N2.upd (.cells (rdc u (y8t u (yex u)).2) 3)
  generalize X.upd id (.cells (rdc u (y8t u (yex u)).2) 3)=Y at *
  generalize y8t u (yex u)=l at *
  simp
  apply jB
  simp [y17.r12]
  by_cases h3:l.2.e=0
  case neg=>
    refine jG (by simp [h3]) (jA ?_)
    simp [y17.r13]
    apply jD
    simp
    exact ⟨⟨_,_,_,rfl,fun _=>by rw [hD2];unfold decX;rw [if_pos h3],fun h=>(h3 h).elim⟩,N3.ext⟩
  refine jF (by simp [h3]) (AX.skip ?_)
  simp
  obtain ⟨gb,hr,h1000,h6000,o3⟩:=gp h3
  have hpv:ymt l=.fp [ss l.1] 0:=by unfold ymt;rw [if_pos h3]
  rw [hpv]
  have hP:ydz l.1 (.fp [ss l.1] 0):=⟨hr,by omega,.inr rfl⟩
  apply jA
  simp [y17.r14]
  refine AC.fix (ynn o3 (by omega) N3.get) ?_
  have ot:=yl8 (t:=u) (σ:=l.2) o3
  have N4:=N3.upd (.cells (rdc u (y9c u l.2).2) 3)
  generalize Y.upd id (.cells (rdc u (y9c u l.2).2) 3)=Z at *
  simp
  apply jA
  simp [y17.r15]
  refine AC.fix (yh4 N4.get) ?_
  simp
  apply jA
  simp [y17.r16]
  apply jD
  simp
  refine ⟨⟨⟨_,_,_,rfl,fun h4=>?_,fun h4=>⟨l.1,hP,h1000,h6000,by omega,?_⟩⟩,(by rw [←hpv];exact ykq l)⟩,N4.ext⟩
  · rw [hD2];unfold decX;rw [if_neg (by simp [h3]),if_pos h4]
  · rw [hD2];unfold decX;rw [if_neg (by simp [h3]),if_neg (by simp [h4])]
structure R6 (t:Str) (pool:List Str) (xid id:Nat) (σ:Rd) (X:Hp):Prop where
  hr:X.get xid=some (.cells [ss pool,.p (some (id,0,3))] 2)
  hg:X.get id=some (.cells (rdc t σ) 3)
  ne:xid≠id
section
variable {t:Str} {xid id:Nat} {σ:Rd} {X Y H:Hp} {pool:List Str}
end
def qwc (pool:List Str) (τ:Qw):List V:=[ss pool,.s τ.bs,ss τ.all,.i .i64 τ.e]
def qwB (τ:Qw) (n:Nat):Prop:=τ.bs.length+5*n≤1000000000∧τ.all.length+n≤1000000
theorem ymq (τ:Qw) (n:Int):(y5k τ n).bs.length≤τ.bs.length+5∧(y5k τ n).all=τ.all:=by
  unfold y5k
  split
  · simp
  · split
    · simp
    · rename_i h
      have:=y7e (n:=n.toNat) (by omega)
      simp;omega
theorem yq3 (pool:List Str) (τ:Qw) (x:Ev):(yjy pool τ x).bs.length≤τ.bs.length+5∧(yjy pool τ x).all.length≤τ.all.length+1:=by
  cases x with
  | num n=>have:=ymq τ n;simp only [yjy];rw [this.2];exact ⟨this.1,by omega⟩
  | txt s=>
    simp only [yjy,y5b]
    have:=ymq { τ with all:=y9l τ.all s,e:=if s∉pool∧τ.e=0 then 7 else τ.e } (ycm pool s)
    rw [this.2];exact ⟨this.1,yi0 _ _⟩
theorem qwB.ev {τ:Qw} {n:Nat} (h:qwB τ (n+1)) (pool:List Str) (x:Ev):qwB (yjy pool τ x) n:=by
  have:=yq3 pool τ x
  unfold qwB at *
  omega
theorem qwB.evs {pool:List Str}:∀{es:List Ev} {τ:Qw} {n:Nat},qwB τ (es.length+n)→qwB (y58 pool τ es) n
  | [],τ,n,h=>by simpa using h
  | x::es,τ,n,h=>by
    rw [yak]
    refine qwB.evs ?_
    refine qwB.ev ?_ pool x
    simpa [Nat.add_assoc,Nat.add_comm,Nat.add_left_comm] using h
theorem qwB.le {τ:Qw} {m n:Nat} (h:qwB τ n) (hm:m≤n):qwB τ m:=by unfold qwB at *;omega
theorem ymh {pool:List Str} (hr:y4g pool) (s:Str):max (yj7 pool s) 0=(ycm pool s:Nat):=by
  unfold ycm
  by_cases h:s∈pool
  · rw [if_pos h,numV_pos hr h];omega
  · rw [if_neg h];have:=ydf.2 h;simp;omega
section
variable {pool:List Str} {id:Nat} {τ:Qw} {H:Hp}
theorem yab (hg:H.get id=some (.cells (qwc pool τ) 4)) (n:Int) (hb:τ.bs.length≤1000000000):
    AC Tryz.prog y3v [.p (some (id,0,4)),.i .i64 n] H (fun v H'=>v=.tup []∧H'=H.upd id (.cells (qwc pool (y5k τ n)) 4)):=by
  unfold qwc at hg
  refine AC.code y26.at y26.ok ?_
  simp only [y26]
  refine AX.seq (AX.test ((decide (n<0)||decide (268435456<n))&&decide (τ.e=0)) [(0,.p (some (id,0,4))),(1,.i .i64 n),(16,.b ((decide (n<0)||decide (268435456<n))&&decide (τ.e=0)))] ?_ rfl (fun h1=>?_) (fun h1=>AX.skip ?_))
  · by_cases h1:n<0
    · simp [y26.r0,h1,hg]
    · by_cases h2:268435456<n
      · simp [y26.r0,h1,h2,hg]
      · simp [y26.r0,h1,h2,hg]
  · simp at h1
    apply jE
    simp [y26.r1,hg]
    apply jA
    simp [y26.r2]
    refine jF rfl (AX.skip ?_)
    simp [qwc,y5k,h1.2]
    rw [if_pos h1.1]
  · simp at h1
    simp
    apply jA
    simp [y26.r2,hg]
    by_cases he:τ.e=0
    · have hn:¬(n<0∨n > 268435456):=fun h=>h1 h he
      obtain ⟨k,rfl⟩:∃k:Nat,n=k:=⟨n.toNat,by omega⟩
      have hv:=y7e (n:=k) (by omega)
      refine jG (by simp [he]) (AX.drw ?_)
      simp [y26.r3,hg]
      refine y57 _ (fun H2=>ybq k (by omega) H2) ?_
      simp
      rw [if_pos (by omega)]
      simp [hg]
      simp [qwc,y5k,he]
      rw [if_neg (by omega)]
    · refine jF (by simp [he]) (AX.skip ?_)
      simp [qwc,y5k,he]
      exact (Hp.upd_self hg).symm
theorem y9n (hr:y4g pool) (hp:pool.length≤1000000000) (hg:H.get id=some (.cells (qwc pool τ) 4)) (s:Str) (hb:qwB τ 1):
    AC Tryz.prog y3q [.p (some (id,0,4)),.s s] H (fun v H'=>v=.tup []∧H'=H.upd id (.cells (qwc pool (y5b pool τ s)) 4)):=by
  unfold qwc at hg
  refine AC.code y28.at y28.ok ?_
  simp only [y28]
  apply jA
  simp [y28.r0,hg]
  refine AC.fix (Into_ok _ _ (by unfold qwB at hb;omega) _) ?_
  simp [hg,ss]
  apply jA
  simp [y28.r1]
  refine AC.fix (ynv pool s (by unfold N63;omega) _) ?_
  simp
  refine AX.seq (AX.test (decide (s∉pool)&&decide (τ.e=0)) [(0,.p (some (id,0,4))),(4,.i .i64 (yj7 pool s)),(28,.b (decide (s∉pool)&&decide (τ.e=0)))] ?_ rfl (fun h1=>?_) (fun h1=>AX.skip ?_))
  · by_cases h1:s∈pool
    · have:¬yj7 pool s<0:=fun h=>ydf.1 h h1
      simp [y28.r2,h1,this]
    · have:=ydf.2 h1
      simp [y28.r2,h1,this]
  · simp at h1
    apply jE
    simp [y28.r3]
    apply jE
    simp [y28.r4,ymh hr]
    have:=yab (pool:=pool) (id:=id) (τ:={ τ with all:=y9l τ.all s,e:=7 }) (H:=H.upd id (.cells (qwc pool { τ with all:=y9l τ.all s,e:=7 }) 4)) (by simp) (ycm pool s) (by unfold qwB at hb;simp;omega)
    refine AC.fix (by simpa [qwc,ss] using this) ?_
    simp [y5b,h1,qwc,ss]
  · simp at h1
    simp
    apply jE
    simp [y28.r4,ymh hr]
    have:=yab (pool:=pool) (id:=id) (τ:={ τ with all:=y9l τ.all s }) (H:=H.upd id (.cells (qwc pool { τ with all:=y9l τ.all s }) 4)) (by simp) (ycm pool s) (by unfold qwB at hb;simp;omega)
    refine AC.fix (by simpa [qwc,ss] using this) ?_
    have:(if s∉pool∧τ.e=0 then 7 else τ.e)=τ.e:=if_neg (fun h=>h1 h.1 h.2)
    simp only [y5b,this]
    simp [qwc,ss]
end
end Go.Proofs.YthmkcebbeehbeaaGreatDoor
