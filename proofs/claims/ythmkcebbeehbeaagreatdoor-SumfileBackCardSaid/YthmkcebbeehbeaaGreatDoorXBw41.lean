/- Part 41 of the proof of the laws of the queries: RrY, DecP, DecO, R6W, R26, Sum2. -/
import Derived.Test.YthmkcebbeehbeaaGreatDoorXBw17
import Derived.Test.YthmkcebbeehbeaaGreatDoorXBw19
import Derived.Test.YthmkcebbeehbeaaGreatDoorXBw29
import Derived.Test.YthmkcebbeehbeaaGreatDoorXBw30
import Derived.Test.YthmkcebbeehbeaaGreatDoorXBw33
import Derived.Test.YthmkcebbeehbeaaGreatDoorXBw35
import Derived.Test.YthmkcebbeehbeaaGreatDoorXBw37
import Derived.Test.YthmkcebbeehbeaaGreatDoorXBw39
import Derived.Test.YthmkcebbeehbeaaGreatDoorXBw40
set_option linter.unusedSimpArgs false
set_option linter.unusedVariables false
namespace Go.Proofs.YthmkcebbeehbeaaGreatDoor
open Am C
theorem yfq {H:Hp} {S:Nat→Prop}:Frz H S (.agg [.s [],.sl none 0 0,.sl none 0 0,.sl none 0 0,.sl none 0 0,.sl none 0 0,.sl none 0 0]) (.agg (y5u su0)):=by
  refine .agg _ _ rfl fun j u v hu hv=>?_
  match j with
  | 0=>simp [y5u,su0] at hu hv;subst hu;subst hv;exact .refl _
  | 1=>simp [y5u,su0,ss] at hu hv;subst hu;subst hv;exact .sl0 _
  | 2=>simp [y5u,su0,ss] at hu hv;subst hu;subst hv;exact .sl0 _
  | 3=>simp [y5u,su0,ss] at hu hv;subst hu;subst hv;exact .sl0 _
  | 4=>simp [y5u,su0,ss] at hu hv;subst hu;subst hv;exact .sl0 _
  | 5=>simp [y5u,su0,ss] at hu hv;subst hu;subst hv;exact .sl0 _
  | 6=>simp [y5u,su0,ss] at hu hv;subst hu;subst hv;exact .sl0 _
  | j+7=>simp at hu
theorem ydx {H:Hp} {S:Nat→Prop} {a b c:V} (h:Frz H S a b):Frz H S (.tup [a,c]) (.tup [b,c]):=by
  refine .tup _ _ rfl fun j u v hu hv=>?_
  match j with
  | 0=>simp at hu hv;subst hu;subst hv;exact h
  | 1=>simp at hu hv;subst hu;subst hv;exact .refl _
  | j+2=>simp at hu
set_option maxHeartbeats 1000000 in
theorem yqw {pool:List Str} {pv:V} (hp:yd0 pool pv) (t:Str) (ht:t.length≤1000000000) (H:Hp):
    AC Tryz.prog yds [pv,.s t] H (fun v H'=>v=.tup [.agg (y5u (yar pool t).1),.i .i64 (yar pool t).2]∧H'=H):=by
  refine AC.codeP y23.at y23.ok (yf2 (by simp [ydz (yln _)])) fun hlt=>?_
  obtain ⟨S,hS⟩:∃S,S=yg3 pool t ⟨0,0⟩:=⟨_,rfl⟩
  have hR:∀s σ,S=(s,σ)→yar pool t=if y8f t σ≠0 then (su0,y8f t σ) else (s,0):=fun s σ h=>by unfold yar;rw [←hS,h]
  generalize yar pool t=R at *
  simp only [y23]
  apply jA
  simp [y23.r0]
  have e0:=Am.Hp.Ext.add hlt (.cells [.s [],.sl none 0 0,.sl none 0 0,.sl none 0 0,.sl none 0 0,.sl none 0 0,.sl none 0 0] 7)
  have l0:=Hp.add_lt hlt (.cells [.s [],.sl none 0 0,.sl none 0 0,.sl none 0 0,.sl none 0 0,.sl none 0 0,.sl none 0 0] 7)
  have q0:(H.add (.cells [.s [],.sl none 0 0,.sl none 0 0,.sl none 0 0,.sl none 0 0,.sl none 0 0,.sl none 0 0] 7)).get H.next=some (.cells [.s [],.sl none 0 0,.sl none 0 0,.sl none 0 0,.sl none 0 0,.sl none 0 0,.sl none 0 0] 7):=by simp
  have n0:H.next<(H.add (.cells [.s [],.sl none 0 0,.sl none 0 0,.sl none 0 0,.sl none 0 0,.sl none 0 0,.sl none 0 0] 7)).next:=by simp
  generalize H.add (.cells [.s [],.sl none 0 0,.sl none 0 0,.sl none 0 0,.sl none 0 0,.sl none 0 0,.sl none 0 0] 7)=W0 at *
  apply jA
  simp [y23.r1]
  refine AC.fix (ypz t W0) ?_
  have e1:=e0.trans (.add l0 (.cells (rdc t ⟨0,0⟩) 3))
  have l1:=Hp.add_lt l0 (.cells (rdc t ⟨0,0⟩) 3)
  have i1:(W0.add (.cells (rdc t ⟨0,0⟩) 3)).get W0.next=some (.cells (rdc t ⟨0,0⟩) 3):=by simp
  have q1:(W0.add (.cells (rdc t ⟨0,0⟩) 3)).get H.next=some (.cells [.s [],.sl none 0 0,.sl none 0 0,.sl none 0 0,.sl none 0 0,.sl none 0 0,.sl none 0 0] 7):=by rw [Hp.get_add,if_neg (by omega)];exact q0
  have n1:W0.next<(W0.add (.cells (rdc t ⟨0,0⟩) 3)).next:=by simp
  have hne:H.next≠W0.next:=by omega
  have hidl:H.next≤W0.next:=by omega
  generalize W0.add (.cells (rdc t ⟨0,0⟩) 3)=W1 at *
  generalize W0.next=id at *
  have hpi:y7o pv=true:=by rcases hp.2.2 with ⟨_,rfl⟩ | rfl <;> rfl
  have hpc:y7e pv=some [pv]:=by rcases hp.2.2 with ⟨_,rfl⟩ | rfl <;> rfl
  have hpp:y7e (.p (some (id,0,3)))=some [.p (some (id,0,3))]:=rfl
  have hpb:y7e (.agg [.p (some (id,0,3)),pv])=some [.p (some (id,0,3)),pv]:=by simp only [y7e,List.all_cons,List.all_nil,hpi];rfl
  simp [-y7e,hpc,hpp,hpb]
  have e2:=e1.trans (.add l1 (.cells [.p (some (id,0,3)),pv] 2))
  have l2:=Hp.add_lt l1 (.cells [.p (some (id,0,3)),pv] 2)
  have i2:(W1.add (.cells [.p (some (id,0,3)),pv] 2)).get id=some (.cells (rdc t ⟨0,0⟩) 3):=by rw [Hp.get_add,if_neg (by omega)];exact i1
  have r2:(W1.add (.cells [.p (some (id,0,3)),pv] 2)).get W1.next=some (.cells [.p (some (id,0,3)),pv] 2):=by simp
  have q2:(W1.add (.cells [.p (some (id,0,3)),pv] 2)).get H.next=some (.cells [.s [],.sl none 0 0,.sl none 0 0,.sl none 0 0,.sl none 0 0,.sl none 0 0,.sl none 0 0] 7):=by rw [Hp.get_add,if_neg (by omega)];exact q1
  have hnr:W1.next≠id:=by omega
  generalize W1.add (.cells [.p (some (id,0,3)),pv] 2)=B at *
  generalize W1.next=rid at *
  have C:RC t pv rid id ⟨0,0⟩ B:=⟨r2,i2,hnr⟩
  have X0:=RX.start l2 i2
  have ho:y8e t ⟨0,0⟩:=⟨Nat.zero_le _,by simp,by simp,by simp⟩
  have hfin:∀{σ:Rd} {X:Hp},RX B id t σ X→(∀blk,X.get H.next=some blk→True)→H.Ext (X.upd H.next (.cells [] 0)):=fun R _=>⟨Nat.le_trans e2.1 R.ext.1,fun k blk h=>by
    have hk:=hlt _ _ h
    rw [Hp.get_upd,if_neg (by omega)]
    exact R.ext.2 _ _ (by rw [yfs,if_neg (by omega)];exact e2.2 _ _ h)⟩
  have hfin2:∀{σ:Rd} {X:Hp} (b:Blk),RX B id t σ X→H.Ext (X.upd H.next b):=fun b R=>⟨Nat.le_trans e2.1 R.ext.1,fun k blk h=>by
    have hk:=hlt _ _ h
    rw [Hp.get_upd,if_neg (by omega)]
    exact R.ext.2 _ _ (by rw [yfs,if_neg (by omega)];exact e2.2 _ _ h)⟩
  clear hfin
  unfold yg3 at hS
  dsimp only at hS
  apply jA
  simp [y23.r2]
  refine AC.fix (y8y hp ht ho C) ?_
  have ho1:=y4r (pool:=pool) ho
  have X1a:=X0.upd (y3t pool t ⟨0,0⟩).2
  have q1a:(B.upd id (.cells (rdc t (y3t pool t ⟨0,0⟩).2) 3)).get H.next=some (.cells [.s [],.sl none 0 0,.sl none 0 0,.sl none 0 0,.sl none 0 0,.sl none 0 0,.sl none 0 0] 7):=by simp [hne,q2]
  generalize B.upd id (.cells (rdc t (y3t pool t ⟨0,0⟩).2) 3)=Y1a at *
  generalize (y3t pool t ⟨0,0⟩).1=nm at *
  generalize (y3t pool t ⟨0,0⟩).2=s1 at *
  have hxn:B.next≤Y1a.next:=X1a.ext.1
  have hbn:=l2 _ _ i2
  have hbn2:=l2 _ _ q2
  have hne2:Y1a.next≠id:=by omega
  have hup:(Y1a.add (.cells [.s [],.sl none 0 0,.sl none 0 0,.sl none 0 0,.sl none 0 0,.sl none 0 0,.sl none 0 0] 7)).upd Y1a.next (.cells [.s nm,.sl none 0 0,.sl none 0 0,.sl none 0 0,.sl none 0 0,.sl none 0 0,.sl none 0 0] 7)=Y1a.add (.cells [.s nm,.sl none 0 0,.sl none 0 0,.sl none 0 0,.sl none 0 0,.sl none 0 0,.sl none 0 0] 7):=by
    refine Hp.ext' (fun j=>?_) rfl
    simp only [Hp.get_upd,Hp.get_add]
    split <;> rfl
  simp [hup]
  have X1:=X1a.add (.cells [.s nm,.sl none 0 0,.sl none 0 0,.sl none 0 0,.sl none 0 0,.sl none 0 0,.sl none 0 0] 7)
  have q1b:(Y1a.add (.cells [.s nm,.sl none 0 0,.sl none 0 0,.sl none 0 0,.sl none 0 0,.sl none 0 0,.sl none 0 0] 7)).get H.next=some (.cells [.s [],.sl none 0 0,.sl none 0 0,.sl none 0 0,.sl none 0 0,.sl none 0 0,.sl none 0 0] 7):=by rw [Hp.get_add,if_neg (by omega)];exact q1a
  have g1:(Y1a.add (.cells [.s nm,.sl none 0 0,.sl none 0 0,.sl none 0 0,.sl none 0 0,.sl none 0 0,.sl none 0 0] 7)).get Y1a.next=some (.cells [.s nm,.sl none 0 0,.sl none 0 0,.sl none 0 0,.sl none 0 0,.sl none 0 0,.sl none 0 0] 7):=by simp
  have lo2:B.next≤Y1a.next:=hxn
  have hnn:H.next≠Y1a.next:=by omega
  generalize Y1a.add (.cells [.s nm,.sl none 0 0,.sl none 0 0,.sl none 0 0,.sl none 0 0,.sl none 0 0,.sl none 0 0] 7)=Y1 at *
  generalize Y1a.next=ob at *
  have C1:=X1.rc C
  apply jA
  simp [y23.r3]
  refine AC.fix (ybh (y3t pool t) V.s (fun x=>[.s x]) 1 16 [.s []] (fun _=>rfl) (fun _=>rfl) rfl (by omega) (by omega) (fun _=>rfl) (fun x v hv=>by simp at hv;subst hv;exact ycc _) yh.at yh.ok (.fb y2v [.p (some (rid,0,2))]) (fun _ h=>y4r h)
    (fun σ X o c=>by simpa using y8y hp ht o c) ht ho1 C1) ?_
  have ho2:=y7l (fun _ h=>y4r (pool:=pool) h) ho1
  have X2a:=X1.upd (y3s t (y3t pool t) s1).2
  have q2a:(Y1.upd id (.cells (rdc t (y3s t (y3t pool t) s1).2) 3)).get H.next=some (.cells [.s [],.sl none 0 0,.sl none 0 0,.sl none 0 0,.sl none 0 0,.sl none 0 0,.sl none 0 0] 7):=by simp [hne,q1b]
  have g2a:(Y1.upd id (.cells (rdc t (y3s t (y3t pool t) s1).2) 3)).get ob=some (.cells [.s nm,.sl none 0 0,.sl none 0 0,.sl none 0 0,.sl none 0 0,.sl none 0 0,.sl none 0 0] 7):=by simp [hne2,g1]
  generalize Y1.upd id (.cells (rdc t (y3s t (y3t pool t) s1).2) 3)=Y2a at *
  generalize (y3s t (y3t pool t) s1).1=gv at *
  generalize (y3s t (y3t pool t) s1).2=s2 at *
  simp [g2a]
  have X2:=X2a.put lo2 (X2a.lt _ _ g2a) (.cells [.s nm,.fs (gv.map fun x=>[.s x]),.sl none 0 0,.sl none 0 0,.sl none 0 0,.sl none 0 0,.sl none 0 0] 7)
  have g2:(Y2a.upd ob (.cells [.s nm,.fs (gv.map fun x=>[.s x]),.sl none 0 0,.sl none 0 0,.sl none 0 0,.sl none 0 0,.sl none 0 0] 7)).get ob=some (.cells [.s nm,.fs (gv.map fun x=>[.s x]),.sl none 0 0,.sl none 0 0,.sl none 0 0,.sl none 0 0,.sl none 0 0] 7):=by simp
  have q2b:(Y2a.upd ob (.cells [.s nm,.fs (gv.map fun x=>[.s x]),.sl none 0 0,.sl none 0 0,.sl none 0 0,.sl none 0 0,.sl none 0 0] 7)).get H.next=some (.cells [.s [],.sl none 0 0,.sl none 0 0,.sl none 0 0,.sl none 0 0,.sl none 0 0,.sl none 0 0] 7):=by simp [hnn,q2a]
  generalize Y2a.upd ob (.cells [.s nm,.fs (gv.map fun x=>[.s x]),.sl none 0 0,.sl none 0 0,.sl none 0 0,.sl none 0 0,.sl none 0 0] 7)=Y2 at *
  have C2:=X2.rc C
  apply jA
  simp [y23.r4]
  refine AC.fix (ybh (y3t pool t) V.s (fun x=>[.s x]) 1 16 [.s []] (fun _=>rfl) (fun _=>rfl) rfl (by omega) (by omega) (fun _=>rfl) (fun x v hv=>by simp at hv;subst hv;exact ycc _) yh.at yh.ok (.fb y2v [.p (some (rid,0,2))]) (fun _ h=>y4r h)
    (fun σ X o c=>by simpa using y8y hp ht o c) ht ho2 C2) ?_
  have ho3:=y7l (fun _ h=>y4r (pool:=pool) h) ho2
  have X3a:=X2.upd (y3s t (y3t pool t) s2).2
  have q3a:(Y2.upd id (.cells (rdc t (y3s t (y3t pool t) s2).2) 3)).get H.next=some (.cells [.s [],.sl none 0 0,.sl none 0 0,.sl none 0 0,.sl none 0 0,.sl none 0 0,.sl none 0 0] 7):=by simp [hne,q2b]
  have g3a:(Y2.upd id (.cells (rdc t (y3s t (y3t pool t) s2).2) 3)).get ob=some (.cells [.s nm,.fs (gv.map fun x=>[.s x]),.sl none 0 0,.sl none 0 0,.sl none 0 0,.sl none 0 0,.sl none 0 0] 7):=by simp [hne2,g2]
  generalize Y2.upd id (.cells (rdc t (y3s t (y3t pool t) s2).2) 3)=Y3a at *
  generalize (y3s t (y3t pool t) s2).1=wn at *
  generalize (y3s t (y3t pool t) s2).2=s3 at *
  simp [g3a]
  have X3:=X3a.put lo2 (X3a.lt _ _ g3a) (.cells [.s nm,.fs (gv.map fun x=>[.s x]),.fs (wn.map fun x=>[.s x]),.sl none 0 0,.sl none 0 0,.sl none 0 0,.sl none 0 0] 7)
  have g3:(Y3a.upd ob (.cells [.s nm,.fs (gv.map fun x=>[.s x]),.fs (wn.map fun x=>[.s x]),.sl none 0 0,.sl none 0 0,.sl none 0 0,.sl none 0 0] 7)).get ob=some (.cells [.s nm,.fs (gv.map fun x=>[.s x]),.fs (wn.map fun x=>[.s x]),.sl none 0 0,.sl none 0 0,.sl none 0 0,.sl none 0 0] 7):=by simp
  have q3b:(Y3a.upd ob (.cells [.s nm,.fs (gv.map fun x=>[.s x]),.fs (wn.map fun x=>[.s x]),.sl none 0 0,.sl none 0 0,.sl none 0 0,.sl none 0 0] 7)).get H.next=some (.cells [.s [],.sl none 0 0,.sl none 0 0,.sl none 0 0,.sl none 0 0,.sl none 0 0,.sl none 0 0] 7):=by simp [hnn,q3a]
  generalize Y3a.upd ob (.cells [.s nm,.fs (gv.map fun x=>[.s x]),.fs (wn.map fun x=>[.s x]),.sl none 0 0,.sl none 0 0,.sl none 0 0,.sl none 0 0] 7)=Y3 at *
  have C3:=X3.rc C
  apply jA
  simp [y23.r5]
  refine AC.fix (ybh (y3t pool t) V.s (fun x=>[.s x]) 1 16 [.s []] (fun _=>rfl) (fun _=>rfl) rfl (by omega) (by omega) (fun _=>rfl) (fun x v hv=>by simp at hv;subst hv;exact ycc _) yh.at yh.ok (.fb y2v [.p (some (rid,0,2))]) (fun _ h=>y4r h)
    (fun σ X o c=>by simpa using y8y hp ht o c) ht ho3 C3) ?_
  have ho4:=y7l (fun _ h=>y4r (pool:=pool) h) ho3
  have X4a:=X3.upd (y3s t (y3t pool t) s3).2
  have q4a:(Y3.upd id (.cells (rdc t (y3s t (y3t pool t) s3).2) 3)).get H.next=some (.cells [.s [],.sl none 0 0,.sl none 0 0,.sl none 0 0,.sl none 0 0,.sl none 0 0,.sl none 0 0] 7):=by simp [hne,q3b]
  have g4a:(Y3.upd id (.cells (rdc t (y3s t (y3t pool t) s3).2) 3)).get ob=some (.cells [.s nm,.fs (gv.map fun x=>[.s x]),.fs (wn.map fun x=>[.s x]),.sl none 0 0,.sl none 0 0,.sl none 0 0,.sl none 0 0] 7):=by simp [hne2,g3]
  generalize Y3.upd id (.cells (rdc t (y3s t (y3t pool t) s3).2) 3)=Y4a at *
  generalize (y3s t (y3t pool t) s3).1=kp at *
  generalize (y3s t (y3t pool t) s3).2=s4 at *
  simp [g4a]
  have X4:=X4a.put lo2 (X4a.lt _ _ g4a) (.cells [.s nm,.fs (gv.map fun x=>[.s x]),.fs (wn.map fun x=>[.s x]),.fs (kp.map fun x=>[.s x]),.sl none 0 0,.sl none 0 0,.sl none 0 0] 7)
  have g4:(Y4a.upd ob (.cells [.s nm,.fs (gv.map fun x=>[.s x]),.fs (wn.map fun x=>[.s x]),.fs (kp.map fun x=>[.s x]),.sl none 0 0,.sl none 0 0,.sl none 0 0] 7)).get ob=some (.cells [.s nm,.fs (gv.map fun x=>[.s x]),.fs (wn.map fun x=>[.s x]),.fs (kp.map fun x=>[.s x]),.sl none 0 0,.sl none 0 0,.sl none 0 0] 7):=by simp
  have q4b:(Y4a.upd ob (.cells [.s nm,.fs (gv.map fun x=>[.s x]),.fs (wn.map fun x=>[.s x]),.fs (kp.map fun x=>[.s x]),.sl none 0 0,.sl none 0 0,.sl none 0 0] 7)).get H.next=some (.cells [.s [],.sl none 0 0,.sl none 0 0,.sl none 0 0,.sl none 0 0,.sl none 0 0,.sl none 0 0] 7):=by simp [hnn,q4a]
  generalize Y4a.upd ob (.cells [.s nm,.fs (gv.map fun x=>[.s x]),.fs (wn.map fun x=>[.s x]),.fs (kp.map fun x=>[.s x]),.sl none 0 0,.sl none 0 0,.sl none 0 0] 7)=Y4 at *
  have C4:=X4.rc C
  apply jA
  simp [y23.r6]
  refine AC.fix (ybh (yed pool t) (fun x=>.agg (y5p x)) y5p 3 56 [.s [],.s [],.sl none 0 0] (fun _=>rfl) (fun _=>rfl) rfl (by omega) (by omega) (fun _=>rfl) yij y1q.at y1q.ok (.fb y79 [.p (some (rid,0,2))]) (fun _ h=>yhl h)
    (fun σ X o c=>by simpa using RdObj_ok hp ht o c) ht ho4 C4) ?_
  have ho5:=y7l (fun _ h=>yhl (pool:=pool) h) ho4
  have X5a:=X4.upd (y3s t (yed pool t) s4).2
  have q5a:(Y4.upd id (.cells (rdc t (y3s t (yed pool t) s4).2) 3)).get H.next=some (.cells [.s [],.sl none 0 0,.sl none 0 0,.sl none 0 0,.sl none 0 0,.sl none 0 0,.sl none 0 0] 7):=by simp [hne,q4b]
  have g5a:(Y4.upd id (.cells (rdc t (y3s t (yed pool t) s4).2) 3)).get ob=some (.cells [.s nm,.fs (gv.map fun x=>[.s x]),.fs (wn.map fun x=>[.s x]),.fs (kp.map fun x=>[.s x]),.sl none 0 0,.sl none 0 0,.sl none 0 0] 7):=by simp [hne2,g4]
  generalize Y4.upd id (.cells (rdc t (y3s t (yed pool t) s4).2) 3)=Y5a at *
  generalize (y3s t (yed pool t) s4).1=os at *
  generalize (y3s t (yed pool t) s4).2=s5 at *
  simp [g5a]
  have X5:=X5a.put lo2 (X5a.lt _ _ g5a) (.cells [.s nm,.fs (gv.map fun x=>[.s x]),.fs (wn.map fun x=>[.s x]),.fs (kp.map fun x=>[.s x]),.fs (os.map y5p),.sl none 0 0,.sl none 0 0] 7)
  have g5:(Y5a.upd ob (.cells [.s nm,.fs (gv.map fun x=>[.s x]),.fs (wn.map fun x=>[.s x]),.fs (kp.map fun x=>[.s x]),.fs (os.map y5p),.sl none 0 0,.sl none 0 0] 7)).get ob=some (.cells [.s nm,.fs (gv.map fun x=>[.s x]),.fs (wn.map fun x=>[.s x]),.fs (kp.map fun x=>[.s x]),.fs (os.map y5p),.sl none 0 0,.sl none 0 0] 7):=by simp
  have q5b:(Y5a.upd ob (.cells [.s nm,.fs (gv.map fun x=>[.s x]),.fs (wn.map fun x=>[.s x]),.fs (kp.map fun x=>[.s x]),.fs (os.map y5p),.sl none 0 0,.sl none 0 0] 7)).get H.next=some (.cells [.s [],.sl none 0 0,.sl none 0 0,.sl none 0 0,.sl none 0 0,.sl none 0 0,.sl none 0 0] 7):=by simp [hnn,q5a]
  generalize Y5a.upd ob (.cells [.s nm,.fs (gv.map fun x=>[.s x]),.fs (wn.map fun x=>[.s x]),.fs (kp.map fun x=>[.s x]),.fs (os.map y5p),.sl none 0 0,.sl none 0 0] 7)=Y5 at *
  have C5:=X5.rc C
  apply jA
  simp [y23.r7]
  refine AC.fix (ybh (ym0 pool t) (fun x=>.agg (ya5 x)) ya5 3 48 [.s [],.s [],.s []] (fun _=>rfl) (fun _=>rfl) rfl (by omega) (by omega) (fun _=>rfl) yip y1v.at y1v.ok (.fb y6j [.p (some (rid,0,2))]) (fun _ h=>ykl h)
    (fun σ X o c=>by simpa using RdFn_ok hp ht o c) ht ho5 C5) ?_
  have ho6:=y7l (fun _ h=>ykl (pool:=pool) h) ho5
  have X6a:=X5.upd (y3s t (ym0 pool t) s5).2
  have q6a:(Y5.upd id (.cells (rdc t (y3s t (ym0 pool t) s5).2) 3)).get H.next=some (.cells [.s [],.sl none 0 0,.sl none 0 0,.sl none 0 0,.sl none 0 0,.sl none 0 0,.sl none 0 0] 7):=by simp [hne,q5b]
  have g6a:(Y5.upd id (.cells (rdc t (y3s t (ym0 pool t) s5).2) 3)).get ob=some (.cells [.s nm,.fs (gv.map fun x=>[.s x]),.fs (wn.map fun x=>[.s x]),.fs (kp.map fun x=>[.s x]),.fs (os.map y5p),.sl none 0 0,.sl none 0 0] 7):=by simp [hne2,g5]
  generalize Y5.upd id (.cells (rdc t (y3s t (ym0 pool t) s5).2) 3)=Y6a at *
  generalize (y3s t (ym0 pool t) s5).1=fs at *
  generalize (y3s t (ym0 pool t) s5).2=s6 at *
  simp [g6a]
  have X6:=X6a.put lo2 (X6a.lt _ _ g6a) (.cells [.s nm,.fs (gv.map fun x=>[.s x]),.fs (wn.map fun x=>[.s x]),.fs (kp.map fun x=>[.s x]),.fs (os.map y5p),.fs (fs.map ya5),.sl none 0 0] 7)
  have g6:(Y6a.upd ob (.cells [.s nm,.fs (gv.map fun x=>[.s x]),.fs (wn.map fun x=>[.s x]),.fs (kp.map fun x=>[.s x]),.fs (os.map y5p),.fs (fs.map ya5),.sl none 0 0] 7)).get ob=some (.cells [.s nm,.fs (gv.map fun x=>[.s x]),.fs (wn.map fun x=>[.s x]),.fs (kp.map fun x=>[.s x]),.fs (os.map y5p),.fs (fs.map ya5),.sl none 0 0] 7):=by simp
  have q6b:(Y6a.upd ob (.cells [.s nm,.fs (gv.map fun x=>[.s x]),.fs (wn.map fun x=>[.s x]),.fs (kp.map fun x=>[.s x]),.fs (os.map y5p),.fs (fs.map ya5),.sl none 0 0] 7)).get H.next=some (.cells [.s [],.sl none 0 0,.sl none 0 0,.sl none 0 0,.sl none 0 0,.sl none 0 0,.sl none 0 0] 7):=by simp [hnn,q6a]
  generalize Y6a.upd ob (.cells [.s nm,.fs (gv.map fun x=>[.s x]),.fs (wn.map fun x=>[.s x]),.fs (kp.map fun x=>[.s x]),.fs (os.map y5p),.fs (fs.map ya5),.sl none 0 0] 7)=Y6 at *
  have C6:=X6.rc C
  apply jA
  simp [y23.r8]
  refine AC.fix (ybh (yef pool t) (fun x=>.agg (y5y x)) y5y 6 88 [.i .i64 0,.s [],.s [],.i .i64 0,.s [],.sl none 0 0] (fun _=>rfl) (fun _=>rfl) rfl (by omega) (by omega) (fun _=>rfl) yiw y1r.at y1r.ok (.fb y8k [.p (some (rid,0,2))]) (fun _ h=>yhm h)
    (fun σ X o c=>by simpa using RdCon_ok hp ht o c) ht ho6 C6) ?_
  have ho7:=y7l (fun _ h=>yhm (pool:=pool) h) ho6
  have X7a:=X6.upd (y3s t (yef pool t) s6).2
  have q7a:(Y6.upd id (.cells (rdc t (y3s t (yef pool t) s6).2) 3)).get H.next=some (.cells [.s [],.sl none 0 0,.sl none 0 0,.sl none 0 0,.sl none 0 0,.sl none 0 0,.sl none 0 0] 7):=by simp [hne,q6b]
  have g7a:(Y6.upd id (.cells (rdc t (y3s t (yef pool t) s6).2) 3)).get ob=some (.cells [.s nm,.fs (gv.map fun x=>[.s x]),.fs (wn.map fun x=>[.s x]),.fs (kp.map fun x=>[.s x]),.fs (os.map y5p),.fs (fs.map ya5),.sl none 0 0] 7):=by simp [hne2,g6]
  generalize Y6.upd id (.cells (rdc t (y3s t (yef pool t) s6).2) 3)=Y7a at *
  generalize (y3s t (yef pool t) s6).1=cs at *
  generalize (y3s t (yef pool t) s6).2=s7 at *
  simp [g7a]
  have X7:=X7a.put lo2 (X7a.lt _ _ g7a) (.cells [.s nm,.fs (gv.map fun x=>[.s x]),.fs (wn.map fun x=>[.s x]),.fs (kp.map fun x=>[.s x]),.fs (os.map y5p),.fs (fs.map ya5),.fs (cs.map y5y)] 7)
  have g7:(Y7a.upd ob (.cells [.s nm,.fs (gv.map fun x=>[.s x]),.fs (wn.map fun x=>[.s x]),.fs (kp.map fun x=>[.s x]),.fs (os.map y5p),.fs (fs.map ya5),.fs (cs.map y5y)] 7)).get ob=some (.cells [.s nm,.fs (gv.map fun x=>[.s x]),.fs (wn.map fun x=>[.s x]),.fs (kp.map fun x=>[.s x]),.fs (os.map y5p),.fs (fs.map ya5),.fs (cs.map y5y)] 7):=by simp
  have q7b:(Y7a.upd ob (.cells [.s nm,.fs (gv.map fun x=>[.s x]),.fs (wn.map fun x=>[.s x]),.fs (kp.map fun x=>[.s x]),.fs (os.map y5p),.fs (fs.map ya5),.fs (cs.map y5y)] 7)).get H.next=some (.cells [.s [],.sl none 0 0,.sl none 0 0,.sl none 0 0,.sl none 0 0,.sl none 0 0,.sl none 0 0] 7):=by simp [hnn,q7a]
  generalize Y7a.upd ob (.cells [.s nm,.fs (gv.map fun x=>[.s x]),.fs (wn.map fun x=>[.s x]),.fs (kp.map fun x=>[.s x]),.fs (os.map y5p),.fs (fs.map ya5),.fs (cs.map y5y)] 7)=Y7 at *
  have C7:=X7.rc C
  apply jB
  simp [y23.r9,C7.hr]
  refine AC.fix (ygd C7.hg) ?_
  have hR2:=hR _ _ hS
  clear hR hS
  generalize y8f t s7=e at *
  simp
  apply jA
  simp [y23.r10]
  by_cases he:e=0
  · subst he
    refine jF (by simp) (AX.skip ?_)
    simp
    apply jA
    simp [y23.r12,g7,q7b]
    apply jD
    rw [if_neg (by simp)] at hR2
    simp [hR2,y5u,ss]
    exact ⟨hfin2 _ X7,.refl _⟩
  · refine jG (by simp [he]) ?_
    apply jA
    simp [y23.r11,q7b]
    apply jD
    rw [if_pos he] at hR2
    simp [hR2]
    exact ⟨hfin2 _ X7,ydx yfq⟩
structure Nb (H:Hp) (id:Nat) (b:Blk) (X:Hp):Prop where
  ext:H.Ext X
  lt:∀k blk,X.get k=some blk→k<X.next
  get:X.get id=some b
  hi:H.next≤id
  hlt:∀k blk,H.get k=some blk→k<H.next
theorem Nb.new {H:Hp} (hl:∀k blk,H.get k=some blk→k<H.next) (b:Blk):Nb H H.next b (H.add b):=⟨.add hl b,Hp.add_lt hl b,by simp,Nat.le_refl _,hl⟩
theorem Nb.upd {H X:Hp} {id:Nat} {b:Blk} (h:Nb H id b X) (c:Blk):Nb H id c (X.upd id c):=⟨h.ext.upd h.hlt h.hi c,Hp.upd_lt h.lt (h.lt _ _ h.get) c,by simp,h.hi,h.hlt⟩
theorem take4 {t:Str} (h:t.take 4=y7t):4≤t.length:=by
  have:=congrArg List.length h
  simp [y7t] at this;omega
theorem yn2 (t:Str) (ht:t.length≤140737488351232) (H:Hp):AC Tryz.prog y64 [.s t,.s y7t] H (fun v H'=>v=.b (decide (t.take 4=y7t))∧H'=H):=by
  refine AC.code y2i.at y2i.ok ?_
  simp only [y2i,y7t]
  apply jA
  simp [y2i.r0]
  apply jA
  by_cases h4:4≤t.length
  · simp [y2i.r1,h4]
    apply jD
    simp
    exact decide_eq_decide.2 Iff.rfl
  · simp [y2i.r1,h4]
    apply jD
    simp
    refine decide_eq_false fun h=>?_
    exact h4 (take4 h)
theorem yn3 (t:Str) (ht:t.length≤140737488351232) (H:Hp):AC Tryz.prog y9z [.s t,.s y7t] H (fun v H'=>v=.tup [.s (if t.take 4=y7t then t.drop 4 else t),.b (decide (t.take 4=y7t))]∧H'=H):=by
  have h0:∀H,AC Tryz.prog y65 [.s t,.s y7t] H (fun v H'=>v=.tup [.s (if t.take 4=y7t then t.drop 4 else t),.b (decide (t.take 4=y7t))]∧H'=H):=fun H=>by
    refine AC.code y1t.at y1t.ok ?_
    simp only [y1t]
    apply jA
    simp [y1t.r0]
    apply jB
    simp [y1t.r1]
    refine AC.fix (yn2 t ht H) ?_
    by_cases h:t.take 4=y7t
    · have h4:=take4 h
      simp [h]
      refine jF rfl (AX.skip ?_)
      simp
      apply jA
      have e4:(y7t.length:Int)=4:=rfl
      simp [y1t.r3,y7t,h4]
      apply jD
      simp
    · simp [h]
      refine jG rfl (jA ?_)
      simp [y1t.r2]
      apply jD
      simp
  refine AC.code y47.at y47.ok ?_
  simp only [y47]
  apply jA
  simp [y47.r0]
  apply jA
  simp [y47.r1]
  refine AC.fix (h0 H) ?_
  simp
  apply jD
  simp
theorem PLen_ok {pool:List Str} {pv:V} (hp:yd0 pool pv) (H:Hp):AC Tryz.prog yc8 [pv] H (fun v H'=>v=.i .i64 pool.length∧H'=H):=by
  refine AC.code y53.at y53.ok ?_
  simp only [y53]
  apply jA
  simp [y53.r0]
  apply jA
  simp [y53.r1]
  refine AC.fix (yhy pool pv hp H) ?_
  simp [ss]
  apply jD
  simp
theorem rd0 (u:Str):y8e u ⟨0,0⟩:=⟨by simp,by simp,by simp,by simp⟩
def OpR (t:Str) (v:V):Prop:=∃pv body e,v=.tup [pv,.s body,.i .i64 e]∧(e≠0→ytx t=(su0,e))∧(e=0→∃l,yd0 l pv∧(∀s∈l,s.length≤1000)∧l.length≤6000∧body.length≤1000000∧ytx t=decR l body)
theorem SOpen_ok (t:Str) (ht:t.length≤200000) (H:Hp):AC Tryz.prog ycu [.s t] H (fun v H'=>OpR t v∧H'=H):=by
  refine AC.codeR y17.at y17.ok fun hlt=>?_
  simp only [y17]
  apply jA
  simp [y17.r0]
  apply jA
  simp [y17.r1]
  refine AC.fix (yn3 t (by omega) H) ?_
  simp
  apply jB
  simp [y17.r2]
  by_cases h:t.take 4=y7t
  case neg=>
    refine jG (by simp [h]) (jA ?_)
    simp [y17.r3]
    apply jD
    simp
    exact ⟨⟨_,_,_,rfl,fun _=>by unfold ytx;rw [if_pos h],fun h=>by cases h⟩,.refl _⟩
  refine jF (by simp [h]) (AX.skip ?_)
  simp [h]
  have hD:ytx t=decU (t.drop 4):=by unfold ytx;rw [if_neg (by simp [h])]
  have hu:(t.drop 4).length≤200000:=by simp;omega
  generalize t.drop 4=u at *
  apply jA
  simp [y17.r4]
  refine AC.fix (ypz u H) ?_
  have N0:=Nb.new hlt (.cells (rdc u ⟨0,0⟩) 3)
  generalize H.add (.cells (rdc u ⟨0,0⟩) 3)=X at *
  generalize hid:H.next=id at *
  have o1:=(y6h (rd0 u)).1
  have N1:=N0.upd (.cells (rdc u (y41 u ⟨0,0⟩).2) 3)
  simp
  refine AX.seq (AX.mono (Q:=y82.then (fun F X=>F=[(7,.p (some (id,0,3)))]∧Nb H id (.cells (rdc u (ybw u)) 3) X) fun _ _ _=>False) (jA ?_) ?_)
  · simp [y17.r5]
    refine AC.fix (y97 (rd0 u) (by omega) N0.get) ?_
    generalize X.upd id (.cells (rdc u (y41 u ⟨0,0⟩).2) 3)=Y at *
    by_cases h1:(y41 u ⟨0,0⟩).1=1
    · have hv:ybw u=(y41 u ⟨0,0⟩).2:=by unfold ybw;rw [if_neg (by simp [h1])]
      simp [h1]
      apply jA
      simp [y17.r6]
      refine jF rfl (AX.skip ?_)
      simp
      rw [hv];exact N1
    · have hv:ybw u=y6r (y41 u ⟨0,0⟩).2 5:=by unfold ybw;rw [if_pos h1]
      have h1':((y41 u ⟨0,0⟩).1:Int)≠1:=by omega
      simp
      apply jA
      simp [y17.r6]
      refine jG (by simp;omega) (AX.reg ?_)
      simp [y17.r7]
      refine AC.fix (yet N1.get 5) ?_
      simp
      rw [hv];exact N1.upd _
  intro x F X hx
  cases x with
  | exit k=>exact hx.elim
  | ret=>exact hx.elim
  | normal=>
  obtain ⟨rfl,N2⟩:=hx
  simp only [y82.then]
  have o2:=yp2 u
  clear N0 N1
  apply jB
  simp [y17.r8]
  refine AC.fix (yuo o2 N2.get) ?_
  simp
  apply jA
  simp [y17.r9]
  by_cases h2:(ybw u).e=0
  case neg=>
    refine jG (by simp [h2]) (jA ?_)
    simp [y17.r10]
    apply jD
    simp
    exact ⟨⟨_,_,_,rfl,fun _=>by rw [hD];unfold decU;rw [if_pos h2],fun h=>(h2 h).elim⟩,N2.ext⟩
  refine jF (by simp [h2]) (AX.skip ?_)
  simp
  have hD2:ytx t=decX u (y84 u (ybw u)):=by rw [hD];unfold decU;rw [if_neg (by simp [h2])]
  apply jA
  simp [y17.r11]
  refine AC.fix (PRead_ok o2 (by omega) N2.get) ?_
  have gp:=ym4 (t:=u) (σ:=ybw u) o2
  have N3:=N2.upd (.cells (rdc u (y84 u (ybw u)).2) 3)
  generalize X.upd id (.cells (rdc u (y84 u (ybw u)).2) 3)=Y at *
  generalize y84 u (ybw u)=l at *
  simp
  apply jB
  simp [y17.r12]
  by_cases h3:l.2.e=0
  case neg=>
    refine jG (by simp [h3]) (jA ?_)
    simp [y17.r13]
    apply jD
    simp
    exact ⟨⟨_,_,_,rfl,fun _=>by rw [hD2];unfold decX;rw [if_pos h3],fun h=>(h3 h).elim⟩,N3.ext⟩
  refine jF (by simp [h3]) (AX.skip ?_)
  simp
  obtain ⟨gb,hr,h1000,h6000,o3⟩:=gp h3
  have hpv:ym5 l=.fp [ss l.1] 0:=by unfold ym5;rw [if_pos h3]
  rw [hpv]
  have hP:yd0 l.1 (.fp [ss l.1] 0):=⟨hr,by omega,.inr rfl⟩
  apply jA
  simp [y17.r14]
  refine AC.fix (ymx o3 (by omega) N3.get) ?_
  have ot:=yhk (t:=u) (σ:=l.2) o3
  have N4:=N3.upd (.cells (rdc u (y8t u l.2).2) 3)
  generalize Y.upd id (.cells (rdc u (y8t u l.2).2) 3)=Z at *
  simp
  apply jA
  simp [y17.r15]
  refine AC.fix (ygd N4.get) ?_
  simp
  apply jA
  simp [y17.r16]
  apply jD
  simp
  refine ⟨⟨⟨_,_,_,rfl,fun h4=>?_,fun h4=>⟨l.1,hP,h1000,h6000,by omega,?_⟩⟩,(by rw [←hpv];exact yk3 l)⟩,N4.ext⟩
  · rw [hD2];unfold decX;rw [if_neg (by simp [h3]),if_pos h4]
  · rw [hD2];unfold decX;rw [if_neg (by simp [h3]),if_neg (by simp [h4])]
structure R6 (t:Str) (pool:List Str) (xid id:Nat) (σ:Rd) (X:Hp):Prop where
  hr:X.get xid=some (.cells [ss pool,.p (some (id,0,3))] 2)
  hg:X.get id=some (.cells (rdc t σ) 3)
  ne:xid≠id
section
variable {t:Str} {xid id:Nat} {σ:Rd} {X Y H:Hp} {pool:List Str}
end
def qwB (τ:Qw) (n:Nat):Prop:=τ.bs.length+5*n≤1000000000∧τ.all.length+n≤1000000
theorem ym1 (τ:Qw) (n:Int):(yd7 τ n).bs.length≤τ.bs.length+5∧(yd7 τ n).all=τ.all:=by
  unfold yd7
  split
  · simp
  · split
    · simp
    · rename_i h
      have:=y9o (n:=n.toNat) (by omega)
      simp;omega
theorem qwEv_len (pool:List Str) (τ:Qw) (x:Ev):(yn5 pool τ x).bs.length≤τ.bs.length+5∧(yn5 pool τ x).all.length≤τ.all.length+1:=by
  cases x with
  | num n=>have:=ym1 τ n;simp only [yn5];rw [this.2];exact ⟨this.1,by omega⟩
  | txt s=>
    simp only [yn5,ynk]
    have:=ym1 { τ with all:=ycb τ.all s,e:=if s∉pool∧τ.e=0 then 7 else τ.e } (ydn pool s)
    rw [this.2];exact ⟨this.1,yh9 _ _⟩
section
variable {pool:List Str} {id:Nat} {τ:Qw} {H:Hp}
end
theorem yug {α:Type} (p:α→Bool) (l:List α):(l.any fun x=>!p x)=!l.all p:=by
  induction l with
  | nil=>rfl
  | cons x r ih=>simp [ih,Bool.not_and]
def SckInv (s:Su) (id k:Nat) (X:Hp) (m:Nat) (F:Fr) (Y:Hp):Prop:=
  ∃i,i≤2∧m=2-i∧(0<i→ygm s.sys s.gives=0)∧(1<i→ygm s.sys s.wants=0)∧Y=X∧F=[(1,.p (some (id,0,7))),(4,.p (some (k,0,1))),(22,.fs [[ss s.gives],[ss s.wants]]),(23,.i .i64 2),(24,.i .i64 i)]
theorem yj3 (s:Su) (hs:suS s) (H:Hp):AC Tryz.prog yae [.agg (y5u s)] H (fun v H'=>v=.i .i64 (suE s)∧H'=H):=by
  have hs':=hs
  obtain ⟨q1,q2,q3,q4,q5,q6⟩:=hs'
  refine AC.codeP yg.at yg.ok (yis _ _) fun hlt=>?_
  simp only [yg]
  apply jA
  simp [yg.r0,y5u]
  have hb:(H.add (.cells [.s s.name,ss s.gives,ss s.wants,ss s.keeps,.fs (s.sys.objs.map y5p),.fs (s.sys.fns.map ya5),.fs (s.sys.cons.map y5y)] 7)).get H.next=some (.cells (y5u s) 7):=by simp [y5u]
  have hE:=Hp.Ext.add hlt (.cells [.s s.name,ss s.gives,ss s.wants,ss s.keeps,.fs (s.sys.objs.map y5p),.fs (s.sys.fns.map ya5),.fs (s.sys.cons.map y5y)] 7)
  have hL:=Hp.add_lt hlt (.cells [.s s.name,ss s.gives,ss s.wants,ss s.keeps,.fs (s.sys.objs.map y5p),.fs (s.sys.fns.map ya5),.fs (s.sys.cons.map y5y)] 7)
  generalize H.add (.cells [.s s.name,ss s.gives,ss s.wants,ss s.keeps,.fs (s.sys.objs.map y5p),.fs (s.sys.fns.map ya5),.fs (s.sys.cons.map y5y)] 7)=X at *
  generalize H.next=id at *
  apply jB
  simp [yg.r1,hb,y5u]
  refine AC.fix (ygk s.name (by omega) _) ?_
  simp
  refine AX.pcond rfl (fun h1=>?_) (fun h1=>AX.skip ?_)
  · simp at h1
    apply jA
    simp [yg.r2]
    apply jD
    simp [suE,h1]
    exact ⟨hE,.refl _⟩
  simp at h1
  simp
  apply jB
  simp [yg.r3,hb,y5u]
  refine AC.fix (yuq s.sys q6 _) ?_
  simp
  apply jA
  simp [yg.r4]
  refine AX.pcond rfl (fun h2=>?_) (fun h2=>AX.skip ?_)
  · simp at h2
    apply jA
    simp [yg.r5]
    apply jD
    simp [suE,h1,orI,h2]
    exact ⟨hE,.refl _⟩
  simp at h2
  simp
  apply jA
  simp [yg.r6]
  have hE2:=hE.trans (ye8 hL (.cells [.nf] 1) (.cells [.fn y59 [.p (some (id,0,7))]] 1))
  have hL2:=lt2 hL (.cells [.nf] 1) (.cells [.fn y59 [.p (some (id,0,7))]] 1)
  have hk:((X.add (.cells [.nf] 1)).upd X.next (.cells [.fn y59 [.p (some (id,0,7))]] 1)).get X.next=some (.cells [.fn y59 [.p (some (id,0,7))]] 1):=by simp
  have hb2:((X.add (.cells [.nf] 1)).upd X.next (.cells [.fn y59 [.p (some (id,0,7))]] 1)).get id=some (.cells (y5u s) 7):=by
    have:=hL _ _ hb
    simp [show id≠X.next by omega,hb]
  generalize (X.add (.cells [.nf] 1)).upd X.next (.cells [.fn y59 [.p (some (id,0,7))]] 1)=Y at *
  generalize X.next=k at *
  apply jB
  simp [yg.r7,hb2,y5u,ydj,show List.range 2=[0,1] from rfl]
  refine AX.pblock (AX.loop (SckInv s id k Y) 2 ⟨_,_,.refl _ _,0,by omega,by omega,by simp,by simp,rfl,rfl⟩ ?_)
  rintro m F Z ⟨i,hi,rfl,hg,hw,rfl,rfl⟩
  simp only [yg.l0]
  apply jA
  simp [yg.r8]
  refine AX.seq (AX.pcond rfl (fun hd=>AX.skip ?_) (fun hd=>AX.exit ?_))
  · simp at hd
    obtain ⟨l,hl,hll,hle⟩:∃l:List Str,[[ss s.gives],[ss s.wants]][i]?=some [ss l]∧l.length≤140737488355328∧(ygm s.sys l≠0→suE s=ygm s.sys l)∧(ygm s.sys l=0→(0<i+1→ygm s.sys s.gives=0)∧(1<i+1→ygm s.sys s.wants=0)):=by
      match i,hd with
      | 0,_=>exact ⟨s.gives,rfl,q2,fun h=>by simp [suE,h1,orI,h2,h],fun h=>⟨fun _=>h,fun h=>by omega⟩⟩
      | 1,_=>exact ⟨s.wants,rfl,q3,fun h=>by simp [suE,h1,orI,h2,h,hg (by omega)],fun h=>⟨fun _=>hg (by omega),fun _=>h⟩⟩
    simp
    apply jC
    simp [yg.r9,hl]
    refine AX.pblock (jA ?_)
    simp [yg.r10]
    refine AC.fix (yp0 l (by omega) _) ?_
    simp
    refine AX.pcond rfl (fun h3=>?_) (fun h3=>?_)
    · simp at h3
      apply jA
      simp [yg.r11]
      apply jD
      have:ygm s.sys l=13:=by simp [ygm,h3]
      simp [hle.1 (by rw [this];decide),this]
      exact ⟨hE2,.refl _⟩
    simp at h3
    have hcon:=ycf l y9e [.p (some (k,0,1))] (fun n=>!yfz s.sys n) (by omega) Z fun n _=>ck2_ok s hs n id k Z hb2 hk
    rw [yug] at hcon
    apply jA
    simp [yg.r12]
    refine AC.fix hcon ?_
    simp
    refine AX.pcond rfl (fun h4=>?_) (fun h4=>AX.skip ?_)
    · simp only [Bool.not_eq_true'] at h4
      apply jA
      simp [yg.r13]
      apply jD
      have:ygm s.sys l=7:=by simp only [ygm,h3,h4];rfl
      simp [hle.1 (by rw [this];decide),this]
      exact ⟨hE2,.refl _⟩
    simp only [Bool.not_eq_false'] at h4
    have h0:ygm s.sys l=0:=by simp only [ygm,h3,h4];rfl
    obtain ⟨n1,n2⟩:=hle.2 h0
    simp
    apply jE
    simp [yg.r14,y5n (i:=i) (by omega)]
    exact ⟨2-(i+1),by omega,_,_,.refl _ _,i+1,by omega,rfl,n1,n2,rfl,by simp⟩
  simp at hd
  have hg:=hg (by omega)
  have hw:=hw (by omega)
  simp
  apply jC
  have hcon:=ycf s.gives y9d [.p (some (id,0,7))] (fun n=>decide (n∈s.wants)) (by omega) Z fun n _=>ck3_ok s hs n id Z hb2
  simp [yg.r15,hb2,y5u]
  refine AC.fix hcon ?_
  generalize hx:(s.gives.any fun n=>decide (n∈s.wants))=x
  simp
  refine AX.pcond rfl (fun h5=>?_) (fun h5=>?_)
  · subst h5
    apply jA
    simp [yg.r16]
    apply jD
    simp only [suE,hx]
    simp [h1,orI,h2,hg,hw]
    exact ⟨hE2,.refl _⟩
  subst h5
  apply jA
  simp [yg.r17,hb2,y5u,ss]
  refine AX.pcond rfl (fun h6=>?_) (fun h6=>?_)
  · simp at h6
    apply jA
    simp [yg.r18]
    apply jD
    simp only [suE,hx]
    simp [h1,orI,h2,hg,hw,h6]
    exact ⟨hE2,.refl _⟩
  simp at h6
  apply jA
  simp [yg.r19,hb2,y5u]
  refine AC.fix (yp0 s.keeps (by omega) _) ?_
  simp
  refine AX.pcond rfl (fun h7=>?_) (fun h7=>?_)
  · simp at h7
    apply jA
    simp [yg.r20]
    apply jD
    simp only [suE,hx]
    simp [h1,orI,h2,hg,hw,h7,show ¬6000<s.keeps.length by omega]
    exact ⟨hE2,.refl _⟩
  simp at h7
  have hcon2:=ycf s.keeps yb0 [] (fun n=>!y9r n) (by omega) Z fun n hn=>ck4_ok n (by have:=q5 n hn;omega) Z
  rw [yug] at hcon2
  apply jA
  simp [yg.r21,hb2,y5u]
  refine AC.fix hcon2 ?_
  generalize hy:s.keeps.all y9r=y
  simp
  refine AX.pcond rfl (fun h8=>?_) (fun h8=>AX.skip ?_)
  · simp at h8
    subst h8
    apply jA
    simp [yg.r22]
    apply jD
    simp only [suE,hx,hy]
    simp [h1,orI,h2,hg,hw,h7,show ¬6000<s.keeps.length by omega]
    exact ⟨hE2,.refl _⟩
  simp at h8
  subst h8
  simp
  apply jA
  simp [yg.r23]
  apply jD
  simp only [suE,hx,hy]
  simp [h1,orI,h2,hg,hw,h7,show ¬6000<s.keeps.length by omega]
  exact ⟨hE2,.refl _⟩
end Go.Proofs.YthmkcebbeehbeaaGreatDoor
