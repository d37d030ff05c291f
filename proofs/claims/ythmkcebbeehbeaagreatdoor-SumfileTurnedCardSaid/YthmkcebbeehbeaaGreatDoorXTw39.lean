/- Part 39 of the proof of the laws of the queries: RrY, DecP, DecO, R6W, R26, Sum2. -/
import Derived.Test.YthmkcebbeehbeaaGreatDoorXTw17
import Derived.Test.YthmkcebbeehbeaaGreatDoorXTw19
import Derived.Test.YthmkcebbeehbeaaGreatDoorXTw27
import Derived.Test.YthmkcebbeehbeaaGreatDoorXTw30
import Derived.Test.YthmkcebbeehbeaaGreatDoorXTw33
import Derived.Test.YthmkcebbeehbeaaGreatDoorXTw35
import Derived.Test.YthmkcebbeehbeaaGreatDoorXTw37
import Derived.Test.YthmkcebbeehbeaaGreatDoorXTw38
set_option linter.unusedSimpArgs false
set_option linter.unusedVariables false
namespace Go.Proofs.YthmkcebbeehbeaaGreatDoor
open Am C
theorem ydc {H:Hp} {S:Nat→Prop}:Frz H S (.agg [.s [],.sl none 0 0,.sl none 0 0,.sl none 0 0,.sl none 0 0,.sl none 0 0,.sl none 0 0]) (.agg (y6i su0)):=by
  refine .agg _ _ rfl fun j u v hu hv=>?_
  match j with
  | 0=>simp [y6i,su0] at hu hv;subst hu;subst hv;exact .refl _
  | 1=>simp [y6i,su0,ss] at hu hv;subst hu;subst hv;exact .sl0 _
  | 2=>simp [y6i,su0,ss] at hu hv;subst hu;subst hv;exact .sl0 _
  | 3=>simp [y6i,su0,ss] at hu hv;subst hu;subst hv;exact .sl0 _
  | 4=>simp [y6i,su0,ss] at hu hv;subst hu;subst hv;exact .sl0 _
  | 5=>simp [y6i,su0,ss] at hu hv;subst hu;subst hv;exact .sl0 _
  | 6=>simp [y6i,su0,ss] at hu hv;subst hu;subst hv;exact .sl0 _
  | j+7=>simp at hu
theorem ybn {H:Hp} {S:Nat→Prop} {a b c:V} (h:Frz H S a b):Frz H S (.tup [a,c]) (.tup [b,c]):=by
  refine .tup _ _ rfl fun j u v hu hv=>?_
  match j with
  | 0=>simp at hu hv;subst hu;subst hv;exact h
  | 1=>simp at hu hv;subst hu;subst hv;exact .refl _
  | j+2=>simp at hu
set_option maxHeartbeats 1000000 in
theorem ynx {pool:List Str} {pv:V} (hp:yav pool pv) (t:Str) (ht:t.length≤1000000000) (H:Hp):
    AC Tryz.prog ybj [pv,.s t] H (fun v H'=>v=.tup [.agg (y6i (y9h pool t).1),.i .i64 (y9h pool t).2]∧H'=H):=by
  refine AC.codeP y1k.at y1k.ok (ycs (by simp [ybp (yiq _)])) fun hlt=>?_
  obtain ⟨S,hS⟩:∃S,S=ydm pool t ⟨0,0⟩:=⟨_,rfl⟩
  have hR:∀s σ,S=(s,σ)→y9h pool t=if y78 t σ≠0 then (su0,y78 t σ) else (s,0):=fun s σ h=>by unfold y9h;rw [←hS,h]
  generalize y9h pool t=R at *
  simp only [y1k]
  apply jA
  simp [y1k.r0]
  have e0:=Am.Hp.Ext.add hlt (.cells [.s [],.sl none 0 0,.sl none 0 0,.sl none 0 0,.sl none 0 0,.sl none 0 0,.sl none 0 0] 7)
  have l0:=Hp.add_lt hlt (.cells [.s [],.sl none 0 0,.sl none 0 0,.sl none 0 0,.sl none 0 0,.sl none 0 0,.sl none 0 0] 7)
  have q0:(H.add (.cells [.s [],.sl none 0 0,.sl none 0 0,.sl none 0 0,.sl none 0 0,.sl none 0 0,.sl none 0 0] 7)).get H.next=some (.cells [.s [],.sl none 0 0,.sl none 0 0,.sl none 0 0,.sl none 0 0,.sl none 0 0,.sl none 0 0] 7):=by simp
  have n0:H.next<(H.add (.cells [.s [],.sl none 0 0,.sl none 0 0,.sl none 0 0,.sl none 0 0,.sl none 0 0,.sl none 0 0] 7)).next:=by simp
  generalize H.add (.cells [.s [],.sl none 0 0,.sl none 0 0,.sl none 0 0,.sl none 0 0,.sl none 0 0,.sl none 0 0] 7)=W0 at *
  apply jA
  simp [y1k.r1]
  refine AC.fix (yn0 t W0) ?_
  have e1:=e0.trans (.add l0 (.cells (rdc t ⟨0,0⟩) 3))
  have l1:=Hp.add_lt l0 (.cells (rdc t ⟨0,0⟩) 3)
  have i1:(W0.add (.cells (rdc t ⟨0,0⟩) 3)).get W0.next=some (.cells (rdc t ⟨0,0⟩) 3):=by simp
  have q1:(W0.add (.cells (rdc t ⟨0,0⟩) 3)).get H.next=some (.cells [.s [],.sl none 0 0,.sl none 0 0,.sl none 0 0,.sl none 0 0,.sl none 0 0,.sl none 0 0] 7):=by rw [Hp.get_add,if_neg (by omega)];exact q0
  have n1:W0.next<(W0.add (.cells (rdc t ⟨0,0⟩) 3)).next:=by simp
  have hne:H.next≠W0.next:=by omega
  have hidl:H.next≤W0.next:=by omega
  generalize W0.add (.cells (rdc t ⟨0,0⟩) 3)=W1 at *
  generalize W0.next=id at *
  have hpi:y6d pv=true:=by rcases hp.2.2 with ⟨_,rfl⟩ | rfl <;> rfl
  have hpc:y65 pv=some [pv]:=by rcases hp.2.2 with ⟨_,rfl⟩ | rfl <;> rfl
  have hpp:y65 (.p (some (id,0,3)))=some [.p (some (id,0,3))]:=rfl
  have hpb:y65 (.agg [.p (some (id,0,3)),pv])=some [.p (some (id,0,3)),pv]:=by simp only [y65,List.all_cons,List.all_nil,hpi];rfl
  simp [-y65,hpc,hpp,hpb]
  have e2:=e1.trans (.add l1 (.cells [.p (some (id,0,3)),pv] 2))
  have l2:=Hp.add_lt l1 (.cells [.p (some (id,0,3)),pv] 2)
  have i2:(W1.add (.cells [.p (some (id,0,3)),pv] 2)).get id=some (.cells (rdc t ⟨0,0⟩) 3):=by rw [Hp.get_add,if_neg (by omega)];exact i1
  have r2:(W1.add (.cells [.p (some (id,0,3)),pv] 2)).get W1.next=some (.cells [.p (some (id,0,3)),pv] 2):=by simp
  have q2:(W1.add (.cells [.p (some (id,0,3)),pv] 2)).get H.next=some (.cells [.s [],.sl none 0 0,.sl none 0 0,.sl none 0 0,.sl none 0 0,.sl none 0 0,.sl none 0 0] 7):=by rw [Hp.get_add,if_neg (by omega)];exact q1
  have hnr:W1.next≠id:=by omega
  generalize W1.add (.cells [.p (some (id,0,3)),pv] 2)=B at *
  generalize W1.next=rid at *
  have C:RC t pv rid id ⟨0,0⟩ B:=⟨r2,i2,hnr⟩
  have X0:=RX.start l2 i2
  have ho:y6y t ⟨0,0⟩:=⟨Nat.zero_le _,by simp,by simp,by simp⟩
  have hfin:∀{σ:Rd} {X:Hp},RX B id t σ X→(∀blk,X.get H.next=some blk→True)→H.Ext (X.upd H.next (.cells [] 0)):=fun R _=>⟨Nat.le_trans e2.1 R.ext.1,fun k blk h=>by
    have hk:=hlt _ _ h
    rw [Hp.get_upd,if_neg (by omega)]
    exact R.ext.2 _ _ (by rw [yde,if_neg (by omega)];exact e2.2 _ _ h)⟩
  have hfin2:∀{σ:Rd} {X:Hp} (b:Blk),RX B id t σ X→H.Ext (X.upd H.next b):=fun b R=>⟨Nat.le_trans e2.1 R.ext.1,fun k blk h=>by
    have hk:=hlt _ _ h
    rw [Hp.get_upd,if_neg (by omega)]
    exact R.ext.2 _ _ (by rw [yde,if_neg (by omega)];exact e2.2 _ _ h)⟩
  clear hfin
  unfold ydm at hS
  dsimp only at hS
  apply jA
  simp [y1k.r2]
  refine AC.fix (y7b hp ht ho C) ?_
  have ho1:=y3u (pool:=pool) ho
  have X1a:=X0.upd (y31 pool t ⟨0,0⟩).2
  have q1a:(B.upd id (.cells (rdc t (y31 pool t ⟨0,0⟩).2) 3)).get H.next=some (.cells [.s [],.sl none 0 0,.sl none 0 0,.sl none 0 0,.sl none 0 0,.sl none 0 0,.sl none 0 0] 7):=by simp [hne,q2]
  generalize B.upd id (.cells (rdc t (y31 pool t ⟨0,0⟩).2) 3)=Y1a at *
  generalize (y31 pool t ⟨0,0⟩).1=nm at *
  generalize (y31 pool t ⟨0,0⟩).2=s1 at *
  have hxn:B.next≤Y1a.next:=X1a.ext.1
  have hbn:=l2 _ _ i2
  have hbn2:=l2 _ _ q2
  have hne2:Y1a.next≠id:=by omega
  have hup:(Y1a.add (.cells [.s [],.sl none 0 0,.sl none 0 0,.sl none 0 0,.sl none 0 0,.sl none 0 0,.sl none 0 0] 7)).upd Y1a.next (.cells [.s nm,.sl none 0 0,.sl none 0 0,.sl none 0 0,.sl none 0 0,.sl none 0 0,.sl none 0 0] 7)=Y1a.add (.cells [.s nm,.sl none 0 0,.sl none 0 0,.sl none 0 0,.sl none 0 0,.sl none 0 0,.sl none 0 0] 7):=by
    refine Hp.ext' (fun j=>?_) rfl
    simp only [Hp.get_upd,Hp.get_add]
    split <;> rfl
  simp [hup]
  have X1:=X1a.add (.cells [.s nm,.sl none 0 0,.sl none 0 0,.sl none 0 0,.sl none 0 0,.sl none 0 0,.sl none 0 0] 7)
  have q1b:(Y1a.add (.cells [.s nm,.sl none 0 0,.sl none 0 0,.sl none 0 0,.sl none 0 0,.sl none 0 0,.sl none 0 0] 7)).get H.next=some (.cells [.s [],.sl none 0 0,.sl none 0 0,.sl none 0 0,.sl none 0 0,.sl none 0 0,.sl none 0 0] 7):=by rw [Hp.get_add,if_neg (by omega)];exact q1a
  have g1:(Y1a.add (.cells [.s nm,.sl none 0 0,.sl none 0 0,.sl none 0 0,.sl none 0 0,.sl none 0 0,.sl none 0 0] 7)).get Y1a.next=some (.cells [.s nm,.sl none 0 0,.sl none 0 0,.sl none 0 0,.sl none 0 0,.sl none 0 0,.sl none 0 0] 7):=by simp
  have lo2:B.next≤Y1a.next:=hxn
  have hnn:H.next≠Y1a.next:=by omega
  generalize Y1a.add (.cells [.s nm,.sl none 0 0,.sl none 0 0,.sl none 0 0,.sl none 0 0,.sl none 0 0,.sl none 0 0] 7)=Y1 at *
  generalize Y1a.next=ob at *
  have C1:=X1.rc C
  apply jA
  simp [y1k.r3]
  refine AC.fix (y9g (y31 pool t) V.s (fun x=>[.s x]) 1 16 [.s []] (fun _=>rfl) (fun _=>rfl) rfl (by omega) (by omega) (fun _=>rfl) (fun x v hv=>by simp at hv;subst hv;exact yah _) yd.at yd.ok (.fb y28 [.p (some (rid,0,2))]) (fun _ h=>y3u h)
    (fun σ X o c=>by simpa using y7b hp ht o c) ht ho1 C1) ?_
  have ho2:=y6a (fun _ h=>y3u (pool:=pool) h) ho1
  have X2a:=X1.upd (y30 t (y31 pool t) s1).2
  have q2a:(Y1.upd id (.cells (rdc t (y30 t (y31 pool t) s1).2) 3)).get H.next=some (.cells [.s [],.sl none 0 0,.sl none 0 0,.sl none 0 0,.sl none 0 0,.sl none 0 0,.sl none 0 0] 7):=by simp [hne,q1b]
  have g2a:(Y1.upd id (.cells (rdc t (y30 t (y31 pool t) s1).2) 3)).get ob=some (.cells [.s nm,.sl none 0 0,.sl none 0 0,.sl none 0 0,.sl none 0 0,.sl none 0 0,.sl none 0 0] 7):=by simp [hne2,g1]
  generalize Y1.upd id (.cells (rdc t (y30 t (y31 pool t) s1).2) 3)=Y2a at *
  generalize (y30 t (y31 pool t) s1).1=gv at *
  generalize (y30 t (y31 pool t) s1).2=s2 at *
  simp [g2a]
  have X2:=X2a.put lo2 (X2a.lt _ _ g2a) (.cells [.s nm,.fs (gv.map fun x=>[.s x]),.sl none 0 0,.sl none 0 0,.sl none 0 0,.sl none 0 0,.sl none 0 0] 7)
  have g2:(Y2a.upd ob (.cells [.s nm,.fs (gv.map fun x=>[.s x]),.sl none 0 0,.sl none 0 0,.sl none 0 0,.sl none 0 0,.sl none 0 0] 7)).get ob=some (.cells [.s nm,.fs (gv.map fun x=>[.s x]),.sl none 0 0,.sl none 0 0,.sl none 0 0,.sl none 0 0,.sl none 0 0] 7):=by simp
  have q2b:(Y2a.upd ob (.cells [.s nm,.fs (gv.map fun x=>[.s x]),.sl none 0 0,.sl none 0 0,.sl none 0 0,.sl none 0 0,.sl none 0 0] 7)).get H.next=some (.cells [.s [],.sl none 0 0,.sl none 0 0,.sl none 0 0,.sl none 0 0,.sl none 0 0,.sl none 0 0] 7):=by simp [hnn,q2a]
  generalize Y2a.upd ob (.cells [.s nm,.fs (gv.map fun x=>[.s x]),.sl none 0 0,.sl none 0 0,.sl none 0 0,.sl none 0 0,.sl none 0 0] 7)=Y2 at *
  have C2:=X2.rc C
  apply jA
  simp [y1k.r4]
  refine AC.fix (y9g (y31 pool t) V.s (fun x=>[.s x]) 1 16 [.s []] (fun _=>rfl) (fun _=>rfl) rfl (by omega) (by omega) (fun _=>rfl) (fun x v hv=>by simp at hv;subst hv;exact yah _) yd.at yd.ok (.fb y28 [.p (some (rid,0,2))]) (fun _ h=>y3u h)
    (fun σ X o c=>by simpa using y7b hp ht o c) ht ho2 C2) ?_
  have ho3:=y6a (fun _ h=>y3u (pool:=pool) h) ho2
  have X3a:=X2.upd (y30 t (y31 pool t) s2).2
  have q3a:(Y2.upd id (.cells (rdc t (y30 t (y31 pool t) s2).2) 3)).get H.next=some (.cells [.s [],.sl none 0 0,.sl none 0 0,.sl none 0 0,.sl none 0 0,.sl none 0 0,.sl none 0 0] 7):=by simp [hne,q2b]
  have g3a:(Y2.upd id (.cells (rdc t (y30 t (y31 pool t) s2).2) 3)).get ob=some (.cells [.s nm,.fs (gv.map fun x=>[.s x]),.sl none 0 0,.sl none 0 0,.sl none 0 0,.sl none 0 0,.sl none 0 0] 7):=by simp [hne2,g2]
  generalize Y2.upd id (.cells (rdc t (y30 t (y31 pool t) s2).2) 3)=Y3a at *
  generalize (y30 t (y31 pool t) s2).1=wn at *
  generalize (y30 t (y31 pool t) s2).2=s3 at *
  simp [g3a]
  have X3:=X3a.put lo2 (X3a.lt _ _ g3a) (.cells [.s nm,.fs (gv.map fun x=>[.s x]),.fs (wn.map fun x=>[.s x]),.sl none 0 0,.sl none 0 0,.sl none 0 0,.sl none 0 0] 7)
  have g3:(Y3a.upd ob (.cells [.s nm,.fs (gv.map fun x=>[.s x]),.fs (wn.map fun x=>[.s x]),.sl none 0 0,.sl none 0 0,.sl none 0 0,.sl none 0 0] 7)).get ob=some (.cells [.s nm,.fs (gv.map fun x=>[.s x]),.fs (wn.map fun x=>[.s x]),.sl none 0 0,.sl none 0 0,.sl none 0 0,.sl none 0 0] 7):=by simp
  have q3b:(Y3a.upd ob (.cells [.s nm,.fs (gv.map fun x=>[.s x]),.fs (wn.map fun x=>[.s x]),.sl none 0 0,.sl none 0 0,.sl none 0 0,.sl none 0 0] 7)).get H.next=some (.cells [.s [],.sl none 0 0,.sl none 0 0,.sl none 0 0,.sl none 0 0,.sl none 0 0,.sl none 0 0] 7):=by simp [hnn,q3a]
  generalize Y3a.upd ob (.cells [.s nm,.fs (gv.map fun x=>[.s x]),.fs (wn.map fun x=>[.s x]),.sl none 0 0,.sl none 0 0,.sl none 0 0,.sl none 0 0] 7)=Y3 at *
  have C3:=X3.rc C
  apply jA
  simp [y1k.r5]
  refine AC.fix (y9g (y31 pool t) V.s (fun x=>[.s x]) 1 16 [.s []] (fun _=>rfl) (fun _=>rfl) rfl (by omega) (by omega) (fun _=>rfl) (fun x v hv=>by simp at hv;subst hv;exact yah _) yd.at yd.ok (.fb y28 [.p (some (rid,0,2))]) (fun _ h=>y3u h)
    (fun σ X o c=>by simpa using y7b hp ht o c) ht ho3 C3) ?_
  have ho4:=y6a (fun _ h=>y3u (pool:=pool) h) ho3
  have X4a:=X3.upd (y30 t (y31 pool t) s3).2
  have q4a:(Y3.upd id (.cells (rdc t (y30 t (y31 pool t) s3).2) 3)).get H.next=some (.cells [.s [],.sl none 0 0,.sl none 0 0,.sl none 0 0,.sl none 0 0,.sl none 0 0,.sl none 0 0] 7):=by simp [hne,q3b]
  have g4a:(Y3.upd id (.cells (rdc t (y30 t (y31 pool t) s3).2) 3)).get ob=some (.cells [.s nm,.fs (gv.map fun x=>[.s x]),.fs (wn.map fun x=>[.s x]),.sl none 0 0,.sl none 0 0,.sl none 0 0,.sl none 0 0] 7):=by simp [hne2,g3]
  generalize Y3.upd id (.cells (rdc t (y30 t (y31 pool t) s3).2) 3)=Y4a at *
  generalize (y30 t (y31 pool t) s3).1=kp at *
  generalize (y30 t (y31 pool t) s3).2=s4 at *
  simp [g4a]
  have X4:=X4a.put lo2 (X4a.lt _ _ g4a) (.cells [.s nm,.fs (gv.map fun x=>[.s x]),.fs (wn.map fun x=>[.s x]),.fs (kp.map fun x=>[.s x]),.sl none 0 0,.sl none 0 0,.sl none 0 0] 7)
  have g4:(Y4a.upd ob (.cells [.s nm,.fs (gv.map fun x=>[.s x]),.fs (wn.map fun x=>[.s x]),.fs (kp.map fun x=>[.s x]),.sl none 0 0,.sl none 0 0,.sl none 0 0] 7)).get ob=some (.cells [.s nm,.fs (gv.map fun x=>[.s x]),.fs (wn.map fun x=>[.s x]),.fs (kp.map fun x=>[.s x]),.sl none 0 0,.sl none 0 0,.sl none 0 0] 7):=by simp
  have q4b:(Y4a.upd ob (.cells [.s nm,.fs (gv.map fun x=>[.s x]),.fs (wn.map fun x=>[.s x]),.fs (kp.map fun x=>[.s x]),.sl none 0 0,.sl none 0 0,.sl none 0 0] 7)).get H.next=some (.cells [.s [],.sl none 0 0,.sl none 0 0,.sl none 0 0,.sl none 0 0,.sl none 0 0,.sl none 0 0] 7):=by simp [hnn,q4a]
  generalize Y4a.upd ob (.cells [.s nm,.fs (gv.map fun x=>[.s x]),.fs (wn.map fun x=>[.s x]),.fs (kp.map fun x=>[.s x]),.sl none 0 0,.sl none 0 0,.sl none 0 0] 7)=Y4 at *
  have C4:=X4.rc C
  apply jA
  simp [y1k.r6]
  refine AC.fix (y9g (yc4 pool t) (fun x=>.agg (y73 x)) y73 3 56 [.s [],.s [],.sl none 0 0] (fun _=>rfl) (fun _=>rfl) rfl (by omega) (by omega) (fun _=>rfl) yft y1b.at y1b.ok (.fb y61 [.p (some (rid,0,2))]) (fun _ h=>yf0 h)
    (fun σ X o c=>by simpa using RdObj_ok hp ht o c) ht ho4 C4) ?_
  have ho5:=y6a (fun _ h=>yf0 (pool:=pool) h) ho4
  have X5a:=X4.upd (y30 t (yc4 pool t) s4).2
  have q5a:(Y4.upd id (.cells (rdc t (y30 t (yc4 pool t) s4).2) 3)).get H.next=some (.cells [.s [],.sl none 0 0,.sl none 0 0,.sl none 0 0,.sl none 0 0,.sl none 0 0,.sl none 0 0] 7):=by simp [hne,q4b]
  have g5a:(Y4.upd id (.cells (rdc t (y30 t (yc4 pool t) s4).2) 3)).get ob=some (.cells [.s nm,.fs (gv.map fun x=>[.s x]),.fs (wn.map fun x=>[.s x]),.fs (kp.map fun x=>[.s x]),.sl none 0 0,.sl none 0 0,.sl none 0 0] 7):=by simp [hne2,g4]
  generalize Y4.upd id (.cells (rdc t (y30 t (yc4 pool t) s4).2) 3)=Y5a at *
  generalize (y30 t (yc4 pool t) s4).1=os at *
  generalize (y30 t (yc4 pool t) s4).2=s5 at *
  simp [g5a]
  have X5:=X5a.put lo2 (X5a.lt _ _ g5a) (.cells [.s nm,.fs (gv.map fun x=>[.s x]),.fs (wn.map fun x=>[.s x]),.fs (kp.map fun x=>[.s x]),.fs (os.map y73),.sl none 0 0,.sl none 0 0] 7)
  have g5:(Y5a.upd ob (.cells [.s nm,.fs (gv.map fun x=>[.s x]),.fs (wn.map fun x=>[.s x]),.fs (kp.map fun x=>[.s x]),.fs (os.map y73),.sl none 0 0,.sl none 0 0] 7)).get ob=some (.cells [.s nm,.fs (gv.map fun x=>[.s x]),.fs (wn.map fun x=>[.s x]),.fs (kp.map fun x=>[.s x]),.fs (os.map y73),.sl none 0 0,.sl none 0 0] 7):=by simp
  have q5b:(Y5a.upd ob (.cells [.s nm,.fs (gv.map fun x=>[.s x]),.fs (wn.map fun x=>[.s x]),.fs (kp.map fun x=>[.s x]),.fs (os.map y73),.sl none 0 0,.sl none 0 0] 7)).get H.next=some (.cells [.s [],.sl none 0 0,.sl none 0 0,.sl none 0 0,.sl none 0 0,.sl none 0 0,.sl none 0 0] 7):=by simp [hnn,q5a]
  generalize Y5a.upd ob (.cells [.s nm,.fs (gv.map fun x=>[.s x]),.fs (wn.map fun x=>[.s x]),.fs (kp.map fun x=>[.s x]),.fs (os.map y73),.sl none 0 0,.sl none 0 0] 7)=Y5 at *
  have C5:=X5.rc C
  apply jA
  simp [y1k.r7]
  refine AC.fix (y9g (yj1 pool t) (fun x=>.agg (yaa x)) yaa 3 48 [.s [],.s [],.s []] (fun _=>rfl) (fun _=>rfl) rfl (by omega) (by omega) (fun _=>rfl) yg1 y1f.at y1f.ok (.fb y5e [.p (some (rid,0,2))]) (fun _ h=>yhw h)
    (fun σ X o c=>by simpa using RdFn_ok hp ht o c) ht ho5 C5) ?_
  have ho6:=y6a (fun _ h=>yhw (pool:=pool) h) ho5
  have X6a:=X5.upd (y30 t (yj1 pool t) s5).2
  have q6a:(Y5.upd id (.cells (rdc t (y30 t (yj1 pool t) s5).2) 3)).get H.next=some (.cells [.s [],.sl none 0 0,.sl none 0 0,.sl none 0 0,.sl none 0 0,.sl none 0 0,.sl none 0 0] 7):=by simp [hne,q5b]
  have g6a:(Y5.upd id (.cells (rdc t (y30 t (yj1 pool t) s5).2) 3)).get ob=some (.cells [.s nm,.fs (gv.map fun x=>[.s x]),.fs (wn.map fun x=>[.s x]),.fs (kp.map fun x=>[.s x]),.fs (os.map y73),.sl none 0 0,.sl none 0 0] 7):=by simp [hne2,g5]
  generalize Y5.upd id (.cells (rdc t (y30 t (yj1 pool t) s5).2) 3)=Y6a at *
  generalize (y30 t (yj1 pool t) s5).1=fs at *
  generalize (y30 t (yj1 pool t) s5).2=s6 at *
  simp [g6a]
  have X6:=X6a.put lo2 (X6a.lt _ _ g6a) (.cells [.s nm,.fs (gv.map fun x=>[.s x]),.fs (wn.map fun x=>[.s x]),.fs (kp.map fun x=>[.s x]),.fs (os.map y73),.fs (fs.map yaa),.sl none 0 0] 7)
  have g6:(Y6a.upd ob (.cells [.s nm,.fs (gv.map fun x=>[.s x]),.fs (wn.map fun x=>[.s x]),.fs (kp.map fun x=>[.s x]),.fs (os.map y73),.fs (fs.map yaa),.sl none 0 0] 7)).get ob=some (.cells [.s nm,.fs (gv.map fun x=>[.s x]),.fs (wn.map fun x=>[.s x]),.fs (kp.map fun x=>[.s x]),.fs (os.map y73),.fs (fs.map yaa),.sl none 0 0] 7):=by simp
  have q6b:(Y6a.upd ob (.cells [.s nm,.fs (gv.map fun x=>[.s x]),.fs (wn.map fun x=>[.s x]),.fs (kp.map fun x=>[.s x]),.fs (os.map y73),.fs (fs.map yaa),.sl none 0 0] 7)).get H.next=some (.cells [.s [],.sl none 0 0,.sl none 0 0,.sl none 0 0,.sl none 0 0,.sl none 0 0,.sl none 0 0] 7):=by simp [hnn,q6a]
  generalize Y6a.upd ob (.cells [.s nm,.fs (gv.map fun x=>[.s x]),.fs (wn.map fun x=>[.s x]),.fs (kp.map fun x=>[.s x]),.fs (os.map y73),.fs (fs.map yaa),.sl none 0 0] 7)=Y6 at *
  have C6:=X6.rc C
  apply jA
  simp [y1k.r8]
  refine AC.fix (y9g (yc6 pool t) (fun x=>.agg (y85 x)) y85 6 88 [.i .i64 0,.s [],.s [],.i .i64 0,.s [],.sl none 0 0] (fun _=>rfl) (fun _=>rfl) rfl (by omega) (by omega) (fun _=>rfl) yg8 y1c.at y1c.ok (.fb y71 [.p (some (rid,0,2))]) (fun _ h=>yf1 h)
    (fun σ X o c=>by simpa using RdCon_ok hp ht o c) ht ho6 C6) ?_
  have ho7:=y6a (fun _ h=>yf1 (pool:=pool) h) ho6
  have X7a:=X6.upd (y30 t (yc6 pool t) s6).2
  have q7a:(Y6.upd id (.cells (rdc t (y30 t (yc6 pool t) s6).2) 3)).get H.next=some (.cells [.s [],.sl none 0 0,.sl none 0 0,.sl none 0 0,.sl none 0 0,.sl none 0 0,.sl none 0 0] 7):=by simp [hne,q6b]
  have g7a:(Y6.upd id (.cells (rdc t (y30 t (yc6 pool t) s6).2) 3)).get ob=some (.cells [.s nm,.fs (gv.map fun x=>[.s x]),.fs (wn.map fun x=>[.s x]),.fs (kp.map fun x=>[.s x]),.fs (os.map y73),.fs (fs.map yaa),.sl none 0 0] 7):=by simp [hne2,g6]
  generalize Y6.upd id (.cells (rdc t (y30 t (yc6 pool t) s6).2) 3)=Y7a at *
  generalize (y30 t (yc6 pool t) s6).1=cs at *
  generalize (y30 t (yc6 pool t) s6).2=s7 at *
  simp [g7a]
  have X7:=X7a.put lo2 (X7a.lt _ _ g7a) (.cells [.s nm,.fs (gv.map fun x=>[.s x]),.fs (wn.map fun x=>[.s x]),.fs (kp.map fun x=>[.s x]),.fs (os.map y73),.fs (fs.map yaa),.fs (cs.map y85)] 7)
  have g7:(Y7a.upd ob (.cells [.s nm,.fs (gv.map fun x=>[.s x]),.fs (wn.map fun x=>[.s x]),.fs (kp.map fun x=>[.s x]),.fs (os.map y73),.fs (fs.map yaa),.fs (cs.map y85)] 7)).get ob=some (.cells [.s nm,.fs (gv.map fun x=>[.s x]),.fs (wn.map fun x=>[.s x]),.fs (kp.map fun x=>[.s x]),.fs (os.map y73),.fs (fs.map yaa),.fs (cs.map y85)] 7):=by simp
  have q7b:(Y7a.upd ob (.cells [.s nm,.fs (gv.map fun x=>[.s x]),.fs (wn.map fun x=>[.s x]),.fs (kp.map fun x=>[.s x]),.fs (os.map y73),.fs (fs.map yaa),.fs (cs.map y85)] 7)).get H.next=some (.cells [.s [],.sl none 0 0,.sl none 0 0,.sl none 0 0,.sl none 0 0,.sl none 0 0,.sl none 0 0] 7):=by simp [hnn,q7a]
  generalize Y7a.upd ob (.cells [.s nm,.fs (gv.map fun x=>[.s x]),.fs (wn.map fun x=>[.s x]),.fs (kp.map fun x=>[.s x]),.fs (os.map y73),.fs (fs.map yaa),.fs (cs.map y85)] 7)=Y7 at *
  have C7:=X7.rc C
  apply jB
  simp [y1k.r9,C7.hr]
  refine AC.fix (ydv C7.hg) ?_
  have hR2:=hR _ _ hS
  clear hR hS
  generalize y78 t s7=e at *
  simp
  apply jA
  simp [y1k.r10]
  by_cases he:e=0
  · subst he
    refine jF (by simp) (AX.skip ?_)
    simp
    apply jA
    simp [y1k.r12,g7,q7b]
    apply jD
    rw [if_neg (by simp)] at hR2
    simp [hR2,y6i,ss]
    exact ⟨hfin2 _ X7,.refl _⟩
  · refine jG (by simp [he]) ?_
    apply jA
    simp [y1k.r11,q7b]
    apply jD
    rw [if_pos he] at hR2
    simp [hR2]
    exact ⟨hfin2 _ X7,ybn ydc⟩
structure Nb (H:Hp) (id:Nat) (b:Blk) (X:Hp):Prop where
  ext:H.Ext X
  lt:∀k blk,X.get k=some blk→k<X.next
  get:X.get id=some b
  hi:H.next≤id
  hlt:∀k blk,H.get k=some blk→k<H.next
theorem Nb.new {H:Hp} (hl:∀k blk,H.get k=some blk→k<H.next) (b:Blk):Nb H H.next b (H.add b):=⟨.add hl b,Hp.add_lt hl b,by simp,Nat.le_refl _,hl⟩
theorem Nb.upd {H X:Hp} {id:Nat} {b:Blk} (h:Nb H id b X) (c:Blk):Nb H id c (X.upd id c):=⟨h.ext.upd h.hlt h.hi c,Hp.upd_lt h.lt (h.lt _ _ h.get) c,by simp,h.hi,h.hlt⟩
theorem take4 {t:Str} (h:t.take 4=y6u):4≤t.length:=by
  have:=congrArg List.length h
  simp [y6u] at this;omega
theorem yk4 (t:Str) (ht:t.length≤140737488351232) (H:Hp):AC Tryz.prog y51 [.s t,.s y6u] H (fun v H'=>v=.b (decide (t.take 4=y6u))∧H'=H):=by
  refine AC.code y1v.at y1v.ok ?_
  simp only [y1v,y6u]
  apply jA
  simp [y1v.r0]
  apply jA
  by_cases h4:4≤t.length
  · simp [y1v.r1,h4]
    apply jD
    simp
    exact decide_eq_decide.2 Iff.rfl
  · simp [y1v.r1,h4]
    apply jD
    simp
    refine decide_eq_false fun h=>?_
    exact h4 (take4 h)
theorem yk6 (t:Str) (ht:t.length≤140737488351232) (H:Hp):AC Tryz.prog y88 [.s t,.s y6u] H (fun v H'=>v=.tup [.s (if t.take 4=y6u then t.drop 4 else t),.b (decide (t.take 4=y6u))]∧H'=H):=by
  have h0:∀H,AC Tryz.prog y52 [.s t,.s y6u] H (fun v H'=>v=.tup [.s (if t.take 4=y6u then t.drop 4 else t),.b (decide (t.take 4=y6u))]∧H'=H):=fun H=>by
    refine AC.code y1e.at y1e.ok ?_
    simp only [y1e]
    apply jA
    simp [y1e.r0]
    apply jB
    simp [y1e.r1]
    refine AC.fix (yk4 t ht H) ?_
    by_cases h:t.take 4=y6u
    · have h4:=take4 h
      simp [h]
      refine jF rfl (AX.skip ?_)
      simp
      apply jA
      have e4:(y6u.length:Int)=4:=rfl
      simp [y1e.r3,y6u,h4]
      apply jD
      simp
    · simp [h]
      refine jG rfl (jA ?_)
      simp [y1e.r2]
      apply jD
      simp
  refine AC.code y3d.at y3d.ok ?_
  simp only [y3d]
  apply jA
  simp [y3d.r0]
  apply jA
  simp [y3d.r1]
  refine AC.fix (h0 H) ?_
  simp
  apply jD
  simp
theorem PLen_ok {pool:List Str} {pv:V} (hp:yav pool pv) (H:Hp):AC Tryz.prog ya2 [pv] H (fun v H'=>v=.i .i64 pool.length∧H'=H):=by
  refine AC.code y42.at y42.ok ?_
  simp only [y42]
  apply jA
  simp [y42.r0]
  apply jA
  simp [y42.r1]
  refine AC.fix (yfa pool pv hp H) ?_
  simp [ss]
  apply jD
  simp
theorem rd0 (u:Str):y6y u ⟨0,0⟩:=⟨by simp,by simp,by simp,by simp⟩
def OpR (t:Str) (v:V):Prop:=∃pv body e,v=.tup [pv,.s body,.i .i64 e]∧(e≠0→decT t=(su0,e))∧(e=0→∃l,yav l pv∧(∀s∈l,s.length≤1000)∧l.length≤6000∧body.length≤1000000∧decT t=decR l body)
theorem SOpen_ok (t:Str) (ht:t.length≤200000) (H:Hp):AC Tryz.prog yaq [.s t] H (fun v H'=>OpR t v∧H'=H):=by
  refine AC.codeR yv.at yv.ok fun hlt=>?_
  simp only [yv]
  apply jA
  simp [yv.r0]
  apply jA
  simp [yv.r1]
  refine AC.fix (yk6 t (by omega) H) ?_
  simp
  apply jB
  simp [yv.r2]
  by_cases h:t.take 4=y6u
  case neg=>
    refine jG (by simp [h]) (jA ?_)
    simp [yv.r3]
    apply jD
    simp
    exact ⟨⟨_,_,_,rfl,fun _=>by unfold decT;rw [if_pos h],fun h=>by cases h⟩,.refl _⟩
  refine jF (by simp [h]) (AX.skip ?_)
  simp [h]
  have hD:decT t=decU (t.drop 4):=by unfold decT;rw [if_neg (by simp [h])]
  have hu:(t.drop 4).length≤200000:=by simp;omega
  generalize t.drop 4=u at *
  apply jA
  simp [yv.r4]
  refine AC.fix (yn0 u H) ?_
  have N0:=Nb.new hlt (.cells (rdc u ⟨0,0⟩) 3)
  generalize H.add (.cells (rdc u ⟨0,0⟩) 3)=X at *
  generalize hid:H.next=id at *
  have o1:=(y5d (rd0 u)).1
  have N1:=N0.upd (.cells (rdc u (y3f u ⟨0,0⟩).2) 3)
  simp
  refine AX.seq (AX.mono (Q:=y6v.then (fun F X=>F=[(7,.p (some (id,0,3)))]∧Nb H id (.cells (rdc u (ybz u)) 3) X) fun _ _ _=>False) (jA ?_) ?_)
  · simp [yv.r5]
    refine AC.fix (y7j (rd0 u) (by omega) N0.get) ?_
    generalize X.upd id (.cells (rdc u (y3f u ⟨0,0⟩).2) 3)=Y at *
    by_cases h1:(y3f u ⟨0,0⟩).1=1
    · have hv:ybz u=(y3f u ⟨0,0⟩).2:=by unfold ybz;rw [if_neg (by simp [h1])]
      simp [h1]
      apply jA
      simp [yv.r6]
      refine jF rfl (AX.skip ?_)
      simp
      rw [hv];exact N1
    · have hv:ybz u=y5k (y3f u ⟨0,0⟩).2 5:=by unfold ybz;rw [if_pos h1]
      have h1':((y3f u ⟨0,0⟩).1:Int)≠1:=by omega
      simp
      apply jA
      simp [yv.r6]
      refine jG (by simp;omega) (AX.reg ?_)
      simp [yv.r7]
      refine AC.fix (ycj N1.get 5) ?_
      simp
      rw [hv];exact N1.upd _
  intro x F X hx
  cases x with
  | exit k=>exact hx.elim
  | ret=>exact hx.elim
  | normal=>
  obtain ⟨rfl,N2⟩:=hx
  simp only [y6v.then]
  have o2:=rdVer_ok u
  clear N0 N1
  apply jB
  simp [yv.r8]
  refine AC.fix (yrl o2 N2.get) ?_
  simp
  apply jA
  simp [yv.r9]
  by_cases h2:(ybz u).e=0
  case neg=>
    refine jG (by simp [h2]) (jA ?_)
    simp [yv.r10]
    apply jD
    simp
    exact ⟨⟨_,_,_,rfl,fun _=>by rw [hD];unfold decU;rw [if_pos h2],fun h=>(h2 h).elim⟩,N2.ext⟩
  refine jF (by simp [h2]) (AX.skip ?_)
  simp
  have hD2:decT t=decX u (y6x u (ybz u)):=by rw [hD];unfold decU;rw [if_neg (by simp [h2])]
  apply jA
  simp [yv.r11]
  refine AC.fix (PRead_ok o2 (by omega) N2.get) ?_
  have gp:=yph (t:=u) (σ:=ybz u) o2
  have N3:=N2.upd (.cells (rdc u (y6x u (ybz u)).2) 3)
  generalize X.upd id (.cells (rdc u (y6x u (ybz u)).2) 3)=Y at *
  generalize y6x u (ybz u)=l at *
  simp
  apply jB
  simp [yv.r12]
  by_cases h3:l.2.e=0
  case neg=>
    refine jG (by simp [h3]) (jA ?_)
    simp [yv.r13]
    apply jD
    simp
    exact ⟨⟨_,_,_,rfl,fun _=>by rw [hD2];unfold decX;rw [if_pos h3],fun h=>(h3 h).elim⟩,N3.ext⟩
  refine jF (by simp [h3]) (AX.skip ?_)
  simp
  obtain ⟨gb,hr,h1000,h6000,o3⟩:=gp h3
  have hpv:yj5 l=.fp [ss l.1] 0:=by unfold yj5;rw [if_pos h3]
  rw [hpv]
  have hP:yav l.1 (.fp [ss l.1] 0):=⟨hr,by omega,.inr rfl⟩
  apply jA
  simp [yv.r14]
  refine AC.fix (yk1 o3 (by omega) N3.get) ?_
  have ot:=yhv (t:=u) (σ:=l.2) o3
  have N4:=N3.upd (.cells (rdc u (y7c u l.2).2) 3)
  generalize Y.upd id (.cells (rdc u (y7c u l.2).2) 3)=Z at *
  simp
  apply jA
  simp [yv.r15]
  refine AC.fix (ydv N4.get) ?_
  simp
  apply jA
  simp [yv.r16]
  apply jD
  simp
  refine ⟨⟨⟨_,_,_,rfl,fun h4=>?_,fun h4=>⟨l.1,hP,h1000,h6000,by omega,?_⟩⟩,(by rw [←hpv];exact yhb l)⟩,N4.ext⟩
  · rw [hD2];unfold decX;rw [if_neg (by simp [h3]),if_pos h4]
  · rw [hD2];unfold decX;rw [if_neg (by simp [h3]),if_neg (by simp [h4])]
structure R6 (t:Str) (pool:List Str) (xid id:Nat) (σ:Rd) (X:Hp):Prop where
  hr:X.get xid=some (.cells [ss pool,.p (some (id,0,3))] 2)
  hg:X.get id=some (.cells (rdc t σ) 3)
  ne:xid≠id
section
variable {t:Str} {xid id:Nat} {σ:Rd} {X Y H:Hp} {pool:List Str}
end
def qwB (τ:Qw) (n:Nat):Prop:=τ.bs.length+5*n≤1000000000∧τ.all.length+n≤1000000
theorem yj2 (τ:Qw) (n:Int):(yb1 τ n).bs.length≤τ.bs.length+5∧(yb1 τ n).all=τ.all:=by
  unfold yb1
  split
  · simp
  · split
    · simp
    · rename_i h
      have:=y7v (n:=n.toNat) (by omega)
      simp;omega
theorem qwEv_len (pool:List Str) (τ:Qw) (x:Ev):(yk8 pool τ x).bs.length≤τ.bs.length+5∧(yk8 pool τ x).all.length≤τ.all.length+1:=by
  cases x with
  | num n=>have:=yj2 τ n;simp only [yk8];rw [this.2];exact ⟨this.1,by omega⟩
  | txt s=>
    simp only [yk8,yko]
    have:=yj2 { τ with all:=ya6 τ.all s,e:=if s∉pool∧τ.e=0 then 7 else τ.e } (ybe pool s)
    rw [this.2];exact ⟨this.1,yep _ _⟩
section
variable {pool:List Str} {id:Nat} {τ:Qw} {H:Hp}
end
theorem yrg {α:Type} (p:α→Bool) (l:List α):(l.any fun x=>!p x)=!l.all p:=by
  induction l with
  | nil=>rfl
  | cons x r ih=>simp [ih,Bool.not_and]
def SckInv (s:Su) (id k:Nat) (X:Hp) (m:Nat) (F:Fr) (Y:Hp):Prop:=
  ∃i,i≤2∧m=2-i∧(0<i→yky s.sys s.gives=0)∧(1<i→yky s.sys s.wants=0)∧Y=X∧F=[(1,.p (some (id,0,7))),(4,.p (some (k,0,1))),(22,.fs [[ss s.gives],[ss s.wants]]),(23,.i .i64 2),(24,.i .i64 i)]
theorem ygf (s:Su) (hs:suS s) (H:Hp):AC Tryz.prog y8j [.agg (y6i s)] H (fun v H'=>v=.i .i64 (suE s)∧H'=H):=by
  have hs':=hs
  obtain ⟨q1,q2,q3,q4,q5,q6⟩:=hs'
  refine AC.codeP yc.at yc.ok (yg4 _ _) fun hlt=>?_
  simp only [yc]
  apply jA
  simp [yc.r0,y6i]
  have hb:(H.add (.cells [.s s.name,ss s.gives,ss s.wants,ss s.keeps,.fs (s.sys.objs.map y73),.fs (s.sys.fns.map yaa),.fs (s.sys.cons.map y85)] 7)).get H.next=some (.cells (y6i s) 7):=by simp [y6i]
  have hE:=Hp.Ext.add hlt (.cells [.s s.name,ss s.gives,ss s.wants,ss s.keeps,.fs (s.sys.objs.map y73),.fs (s.sys.fns.map yaa),.fs (s.sys.cons.map y85)] 7)
  have hL:=Hp.add_lt hlt (.cells [.s s.name,ss s.gives,ss s.wants,ss s.keeps,.fs (s.sys.objs.map y73),.fs (s.sys.fns.map yaa),.fs (s.sys.cons.map y85)] 7)
  generalize H.add (.cells [.s s.name,ss s.gives,ss s.wants,ss s.keeps,.fs (s.sys.objs.map y73),.fs (s.sys.fns.map yaa),.fs (s.sys.cons.map y85)] 7)=X at *
  generalize H.next=id at *
  apply jB
  simp [yc.r1,hb,y6i]
  refine AC.fix (ydz s.name (by omega) _) ?_
  simp
  refine AX.pcond rfl (fun h1=>?_) (fun h1=>AX.skip ?_)
  · simp at h1
    apply jA
    simp [yc.r2]
    apply jD
    simp [suE,h1]
    exact ⟨hE,.refl _⟩
  simp at h1
  simp
  apply jB
  simp [yc.r3,hb,y6i]
  refine AC.fix (yrn s.sys q6 _) ?_
  simp
  apply jA
  simp [yc.r4]
  refine AX.pcond rfl (fun h2=>?_) (fun h2=>AX.skip ?_)
  · simp at h2
    apply jA
    simp [yc.r5]
    apply jD
    simp [suE,h1,orI,h2]
    exact ⟨hE,.refl _⟩
  simp at h2
  simp
  apply jA
  simp [yc.r6]
  have hE2:=hE.trans (yjl hL (.cells [.nf] 1) (.cells [.fn y49 [.p (some (id,0,7))]] 1))
  have hL2:=lt2 hL (.cells [.nf] 1) (.cells [.fn y49 [.p (some (id,0,7))]] 1)
  have hk:((X.add (.cells [.nf] 1)).upd X.next (.cells [.fn y49 [.p (some (id,0,7))]] 1)).get X.next=some (.cells [.fn y49 [.p (some (id,0,7))]] 1):=by simp
  have hb2:((X.add (.cells [.nf] 1)).upd X.next (.cells [.fn y49 [.p (some (id,0,7))]] 1)).get id=some (.cells (y6i s) 7):=by
    have:=hL _ _ hb
    simp [show id≠X.next by omega,hb]
  generalize (X.add (.cells [.nf] 1)).upd X.next (.cells [.fn y49 [.p (some (id,0,7))]] 1)=Y at *
  generalize X.next=k at *
  apply jB
  simp [yc.r7,hb2,y6i,yco,show List.range 2=[0,1] from rfl]
  refine AX.pblock (AX.loop (SckInv s id k Y) 2 ⟨_,_,.refl _ _,0,by omega,by omega,by simp,by simp,rfl,rfl⟩ ?_)
  rintro m F Z ⟨i,hi,rfl,hg,hw,rfl,rfl⟩
  simp only [yc.l0]
  apply jA
  simp [yc.r8]
  refine AX.seq (AX.pcond rfl (fun hd=>AX.skip ?_) (fun hd=>AX.exit ?_))
  · simp at hd
    obtain ⟨l,hl,hll,hle⟩:∃l:List Str,[[ss s.gives],[ss s.wants]][i]?=some [ss l]∧l.length≤140737488355328∧(yky s.sys l≠0→suE s=yky s.sys l)∧(yky s.sys l=0→(0<i+1→yky s.sys s.gives=0)∧(1<i+1→yky s.sys s.wants=0)):=by
      match i,hd with
      | 0,_=>exact ⟨s.gives,rfl,q2,fun h=>by simp [suE,h1,orI,h2,h],fun h=>⟨fun _=>h,fun h=>by omega⟩⟩
      | 1,_=>exact ⟨s.wants,rfl,q3,fun h=>by simp [suE,h1,orI,h2,h,hg (by omega)],fun h=>⟨fun _=>hg (by omega),fun _=>h⟩⟩
    simp
    apply jC
    simp [yc.r9,hl]
    refine AX.pblock (jA ?_)
    simp [yc.r10]
    refine AC.fix (ym4 l (by omega) _) ?_
    simp
    refine AX.pcond rfl (fun h3=>?_) (fun h3=>?_)
    · simp at h3
      apply jA
      simp [yc.r11]
      apply jD
      have:yky s.sys l=13:=by simp [yky,h3]
      simp [hle.1 (by rw [this];decide),this]
      exact ⟨hE2,.refl _⟩
    simp at h3
    have hcon:=ya9 l y7n [.p (some (k,0,1))] (fun n=>!yki s.sys n) (by omega) Z fun n _=>ck2_ok s hs n id k Z hb2 hk
    rw [yrg] at hcon
    apply jA
    simp [yc.r12]
    refine AC.fix hcon ?_
    simp
    refine AX.pcond rfl (fun h4=>?_) (fun h4=>AX.skip ?_)
    · simp only [Bool.not_eq_true'] at h4
      apply jA
      simp [yc.r13]
      apply jD
      have:yky s.sys l=7:=by simp only [yky,h3,h4];rfl
      simp [hle.1 (by rw [this];decide),this]
      exact ⟨hE2,.refl _⟩
    simp only [Bool.not_eq_false'] at h4
    have h0:yky s.sys l=0:=by simp only [yky,h3,h4];rfl
    obtain ⟨n1,n2⟩:=hle.2 h0
    simp
    apply jE
    simp [yc.r14,y7a (i:=i) (by omega)]
    exact ⟨2-(i+1),by omega,_,_,.refl _ _,i+1,by omega,rfl,n1,n2,rfl,by simp⟩
  simp at hd
  have hg:=hg (by omega)
  have hw:=hw (by omega)
  simp
  apply jC
  have hcon:=ya9 s.gives y7m [.p (some (id,0,7))] (fun n=>decide (n∈s.wants)) (by omega) Z fun n _=>ck3_ok s hs n id Z hb2
  simp [yc.r15,hb2,y6i]
  refine AC.fix hcon ?_
  generalize hx:(s.gives.any fun n=>decide (n∈s.wants))=x
  simp
  refine AX.pcond rfl (fun h5=>?_) (fun h5=>?_)
  · subst h5
    apply jA
    simp [yc.r16]
    apply jD
    simp only [suE,hx]
    simp [h1,orI,h2,hg,hw]
    exact ⟨hE2,.refl _⟩
  subst h5
  apply jA
  simp [yc.r17,hb2,y6i,ss]
  refine AX.pcond rfl (fun h6=>?_) (fun h6=>?_)
  · simp at h6
    apply jA
    simp [yc.r18]
    apply jD
    simp only [suE,hx]
    simp [h1,orI,h2,hg,hw,h6]
    exact ⟨hE2,.refl _⟩
  simp at h6
  apply jA
  simp [yc.r19,hb2,y6i]
  refine AC.fix (ym4 s.keeps (by omega) _) ?_
  simp
  refine AX.pcond rfl (fun h7=>?_) (fun h7=>?_)
  · simp at h7
    apply jA
    simp [yc.r20]
    apply jD
    simp only [suE,hx]
    simp [h1,orI,h2,hg,hw,h7,show ¬6000<s.keeps.length by omega]
    exact ⟨hE2,.refl _⟩
  simp at h7
  have hcon2:=ya9 s.keeps y8z [] (fun n=>!y9p n) (by omega) Z fun n hn=>ck4_ok n (by have:=q5 n hn;omega) Z
  rw [yrg] at hcon2
  apply jA
  simp [yc.r21,hb2,y6i]
  refine AC.fix hcon2 ?_
  generalize hy:s.keeps.all y9p=y
  simp
  refine AX.pcond rfl (fun h8=>?_) (fun h8=>AX.skip ?_)
  · simp at h8
    subst h8
    apply jA
    simp [yc.r22]
    apply jD
    simp only [suE,hx,hy]
    simp [h1,orI,h2,hg,hw,h7,show ¬6000<s.keeps.length by omega]
    exact ⟨hE2,.refl _⟩
  simp at h8
  subst h8
  simp
  apply jA
  simp [yc.r23]
  apply jD
  simp only [suE,hx,hy]
  simp [h1,orI,h2,hg,hw,h7,show ¬6000<s.keeps.length by omega]
  exact ⟨hE2,.refl _⟩
end Go.Proofs.YthmkcebbeehbeaaGreatDoor
