/- Part 42. -/
import Derived.Test.YthmkcebbeehbeaaGreatDoorXGw29
import Derived.Test.YthmkcebbeehbeaaGreatDoorXGw35
import Derived.Test.YthmkcebbeehbeaaGreatDoorXGw40
import Derived.Test.YthmkcebbeehbeaaGreatDoorXGw41
set_option linter.unusedSimpArgs false
set_option linter.unusedVariables false
namespace Go.Proofs.YthmkcebbeehbeaaGreatDoor
open Am C
theorem yad {H:Hp} {S:Nat→Prop}:Frz H S (.agg [.s [],.sl none 0 0,.sl none 0 0,.sl none 0 0,.sl none 0 0,.sl none 0 0,.sl none 0 0]) (.agg (y61 su0)):=by
 refine .agg _ _ rfl fun j u v hu hv=>?_
 match j with
 | 0=>simp [y61,su0] at hu hv;subst hu;subst hv;exact .refl _
 | 1=>simp [y61,su0,ss] at hu hv;subst hu;subst hv;exact .sl0 _
 | 2=>simp [y61,su0,ss] at hu hv;subst hu;subst hv;exact .sl0 _
 | 3=>simp [y61,su0,ss] at hu hv;subst hu;subst hv;exact .sl0 _
 | 4=>simp [y61,su0,ss] at hu hv;subst hu;subst hv;exact .sl0 _
 | 5=>simp [y61,su0,ss] at hu hv;subst hu;subst hv;exact .sl0 _
 | 6=>simp [y61,su0,ss] at hu hv;subst hu;subst hv;exact .sl0 _
 | j+7=>simp at hu
theorem y8f {H:Hp} {S:Nat→Prop} {a b c:V} (h:Frz H S a b):Frz H S (.tup [a,c]) (.tup [b,c]):=by
 refine .tup _ _ rfl fun j u v hu hv=>?_
 match j with
 | 0=>simp at hu hv;subst hu;subst hv;exact h
 | 1=>simp at hu hv;subst hu;subst hv;exact .refl _
 | j+2=>simp at hu
set_option maxHeartbeats 1000000 in
theorem ysw {pool:List Str} {pv:V} (hp:yf1 pool pv) (t:Str) (ht:t.length≤1000000000) (H:Hp):
  AC Tryz.prog yfn [pv,.s t] H (fun v H'=>v=.tup [.agg (y61 (yaq pool t).1),.i .i64 (yaq pool t).2]∧H'=H):=by
 refine AC.codeP y2g.at y2g.ok (yc1 (by simp [yct (yhr _)])) fun hlt=>?_
 obtain ⟨S,hS⟩:∃S,S=ygv pool t ⟨0,0⟩:=⟨_,rfl⟩
 have hR:∀s σ,S=(s,σ)→yaq pool t=if y7y t σ≠0 then (su0,y7y t σ) else (s,0):=fun s σ h=>by unfold yaq;rw [←hS,h]
 generalize yaq pool t=R at *
 simp only [y2g]
 apply jA
 simp [y2g.r0]
 have e0:=Am.Hp.Ext.add hlt (.cells [.s [],.sl none 0 0,.sl none 0 0,.sl none 0 0,.sl none 0 0,.sl none 0 0,.sl none 0 0] 7)
 have l0:=Hp.add_lt hlt (.cells [.s [],.sl none 0 0,.sl none 0 0,.sl none 0 0,.sl none 0 0,.sl none 0 0,.sl none 0 0] 7)
 have q0:(H.add (.cells [.s [],.sl none 0 0,.sl none 0 0,.sl none 0 0,.sl none 0 0,.sl none 0 0,.sl none 0 0] 7)).get H.next=some (.cells [.s [],.sl none 0 0,.sl none 0 0,.sl none 0 0,.sl none 0 0,.sl none 0 0,.sl none 0 0] 7):=by simp
 have n0:H.next<(H.add (.cells [.s [],.sl none 0 0,.sl none 0 0,.sl none 0 0,.sl none 0 0,.sl none 0 0,.sl none 0 0] 7)).next:=by simp
 generalize H.add (.cells [.s [],.sl none 0 0,.sl none 0 0,.sl none 0 0,.sl none 0 0,.sl none 0 0,.sl none 0 0] 7)=W0 at *
 apply jA
 simp [y2g.r1]
 refine AC.fix (yn4 t W0) ?_
 have e1:=e0.trans (.add l0 (.cells (rdc t ⟨0,0⟩) 3))
 have l1:=Hp.add_lt l0 (.cells (rdc t ⟨0,0⟩) 3)
 have i1:(W0.add (.cells (rdc t ⟨0,0⟩) 3)).get W0.next=some (.cells (rdc t ⟨0,0⟩) 3):=by simp
 have q1:(W0.add (.cells (rdc t ⟨0,0⟩) 3)).get H.next=some (.cells [.s [],.sl none 0 0,.sl none 0 0,.sl none 0 0,.sl none 0 0,.sl none 0 0,.sl none 0 0] 7):=by rw [Hp.get_add,if_neg (by omega)];exact q0
 have n1:W0.next<(W0.add (.cells (rdc t ⟨0,0⟩) 3)).next:=by simp
 have hne:H.next≠W0.next:=by omega
 have hidl:H.next≤W0.next:=by omega
 generalize W0.add (.cells (rdc t ⟨0,0⟩) 3)=W1 at *
 generalize W0.next=id at *
 have hpi:y8i pv=true:=by rcases hp.2.2 with ⟨_,rfl⟩ | rfl <;> rfl
 have hpc:y7z pv=some [pv]:=by rcases hp.2.2 with ⟨_,rfl⟩ | rfl <;> rfl
 have hpp:y7z (.p (some (id,0,3)))=some [.p (some (id,0,3))]:=rfl
 have hpb:y7z (.agg [.p (some (id,0,3)),pv])=some [.p (some (id,0,3)),pv]:=by simp only [y7z,List.all_cons,List.all_nil,hpi];rfl
 simp [-y7z,hpc,hpp,hpb]
 have e2:=e1.trans (.add l1 (.cells [.p (some (id,0,3)),pv] 2))
 have l2:=Hp.add_lt l1 (.cells [.p (some (id,0,3)),pv] 2)
 have i2:(W1.add (.cells [.p (some (id,0,3)),pv] 2)).get id=some (.cells (rdc t ⟨0,0⟩) 3):=by rw [Hp.get_add,if_neg (by omega)];exact i1
 have r2:(W1.add (.cells [.p (some (id,0,3)),pv] 2)).get W1.next=some (.cells [.p (some (id,0,3)),pv] 2):=by simp
 have q2:(W1.add (.cells [.p (some (id,0,3)),pv] 2)).get H.next=some (.cells [.s [],.sl none 0 0,.sl none 0 0,.sl none 0 0,.sl none 0 0,.sl none 0 0,.sl none 0 0] 7):=by rw [Hp.get_add,if_neg (by omega)];exact q1
 have hnr:W1.next≠id:=by omega
 generalize W1.add (.cells [.p (some (id,0,3)),pv] 2)=B at *
 generalize W1.next=rid at *
 have C:RC t pv rid id ⟨0,0⟩ B:=⟨r2,i2,hnr⟩
 have X0:=RX.start l2 i2
 have ho:y7q t ⟨0,0⟩:=⟨Nat.zero_le _,by simp,by simp,by simp⟩
 have hfin:∀{σ:Rd} {X:Hp},RX B id t σ X→(∀blk,X.get H.next=some blk→True)→H.Ext (X.upd H.next (.cells [] 0)):=fun R _=>⟨kU e2.1 R.ext.1,fun k blk h=>by
  have hk:=hlt _ _ h
  rw [Hp.get_upd,if_neg (by omega)]
  exact R.ext.2 _ _ (by rw [yez,if_neg (by omega)];exact e2.2 _ _ h)⟩
 have hfin2:∀{σ:Rd} {X:Hp} (b:Blk),RX B id t σ X→H.Ext (X.upd H.next b):=fun b R=>⟨kU e2.1 R.ext.1,fun k blk h=>by
  have hk:=hlt _ _ h
  rw [Hp.get_upd,if_neg (by omega)]
  exact R.ext.2 _ _ (by rw [yez,if_neg (by omega)];exact e2.2 _ _ h)⟩
 clear hfin
 unfold ygv at hS
 dsimp only at hS
 apply jA
 simp [y2g.r2]
 refine AC.fix (ya1 hp ht ho C) ?_
 have ho1:=y47 (pool:=pool) ho
 have X1a:=X0.upd (y2e pool t ⟨0,0⟩).2
 have q1a:(B.upd id (.cells (rdc t (y2e pool t ⟨0,0⟩).2) 3)).get H.next=some (.cells [.s [],.sl none 0 0,.sl none 0 0,.sl none 0 0,.sl none 0 0,.sl none 0 0,.sl none 0 0] 7):=by simp [hne,q2]
 generalize B.upd id (.cells (rdc t (y2e pool t ⟨0,0⟩).2) 3)=Y1a at *
 generalize (y2e pool t ⟨0,0⟩).1=nm at *
 generalize (y2e pool t ⟨0,0⟩).2=s1 at *
 have hxn:B.next≤Y1a.next:=X1a.ext.1
 have hbn:=l2 _ _ i2
 have hbn2:=l2 _ _ q2
 have hne2:Y1a.next≠id:=by omega
 have hup:(Y1a.add (.cells [.s [],.sl none 0 0,.sl none 0 0,.sl none 0 0,.sl none 0 0,.sl none 0 0,.sl none 0 0] 7)).upd Y1a.next (.cells [.s nm,.sl none 0 0,.sl none 0 0,.sl none 0 0,.sl none 0 0,.sl none 0 0,.sl none 0 0] 7)=Y1a.add (.cells [.s nm,.sl none 0 0,.sl none 0 0,.sl none 0 0,.sl none 0 0,.sl none 0 0,.sl none 0 0] 7):=by
  refine Hp.ext' (fun j=>?_) rfl
  simp only [Hp.get_upd,Hp.get_add]
  split <;> rfl
 simp [hup]
 have X1:=X1a.add (.cells [.s nm,.sl none 0 0,.sl none 0 0,.sl none 0 0,.sl none 0 0,.sl none 0 0,.sl none 0 0] 7)
 have q1b:(Y1a.add (.cells [.s nm,.sl none 0 0,.sl none 0 0,.sl none 0 0,.sl none 0 0,.sl none 0 0,.sl none 0 0] 7)).get H.next=some (.cells [.s [],.sl none 0 0,.sl none 0 0,.sl none 0 0,.sl none 0 0,.sl none 0 0,.sl none 0 0] 7):=by rw [Hp.get_add,if_neg (by omega)];exact q1a
 have g1:(Y1a.add (.cells [.s nm,.sl none 0 0,.sl none 0 0,.sl none 0 0,.sl none 0 0,.sl none 0 0,.sl none 0 0] 7)).get Y1a.next=some (.cells [.s nm,.sl none 0 0,.sl none 0 0,.sl none 0 0,.sl none 0 0,.sl none 0 0,.sl none 0 0] 7):=by simp
 have lo2:B.next≤Y1a.next:=hxn
 have hnn:H.next≠Y1a.next:=by omega
 generalize Y1a.add (.cells [.s nm,.sl none 0 0,.sl none 0 0,.sl none 0 0,.sl none 0 0,.sl none 0 0,.sl none 0 0] 7)=Y1 at *
 generalize Y1a.next=ob at *
 have C1:=X1.rc C
 apply jA
 simp [y2g.r3]
 refine AC.fix (yd5 (y2e pool t) V.s (fun x=>[.s x]) 1 16 [.s []] (fun _=>rfl) (fun _=>rfl) rfl (by omega) (by omega) (fun _=>rfl) (fun x v hv=>by simp at hv;subst hv;exact ydk _) yj.at yj.ok (.fb y3e [.p (some (rid,0,2))]) (fun _ h=>y47 h)
  (fun σ X o c=>by simpa using ya1 hp ht o c) ht ho1 C1) ?_
 have ho2:=y6n (fun _ h=>y47 (pool:=pool) h) ho1
 have X2a:=X1.upd (y3j t (y2e pool t) s1).2
 have q2a:(Y1.upd id (.cells (rdc t (y3j t (y2e pool t) s1).2) 3)).get H.next=some (.cells [.s [],.sl none 0 0,.sl none 0 0,.sl none 0 0,.sl none 0 0,.sl none 0 0,.sl none 0 0] 7):=by simp [hne,q1b]
 have g2a:(Y1.upd id (.cells (rdc t (y3j t (y2e pool t) s1).2) 3)).get ob=some (.cells [.s nm,.sl none 0 0,.sl none 0 0,.sl none 0 0,.sl none 0 0,.sl none 0 0,.sl none 0 0] 7):=by simp [hne2,g1]
 generalize Y1.upd id (.cells (rdc t (y3j t (y2e pool t) s1).2) 3)=Y2a at *
 generalize (y3j t (y2e pool t) s1).1=gv at *
 generalize (y3j t (y2e pool t) s1).2=s2 at *
 simp [g2a]
 have X2:=X2a.put lo2 (X2a.lt _ _ g2a) (.cells [.s nm,.fs (gv.map fun x=>[.s x]),.sl none 0 0,.sl none 0 0,.sl none 0 0,.sl none 0 0,.sl none 0 0] 7)
 have g2:(Y2a.upd ob (.cells [.s nm,.fs (gv.map fun x=>[.s x]),.sl none 0 0,.sl none 0 0,.sl none 0 0,.sl none 0 0,.sl none 0 0] 7)).get ob=some (.cells [.s nm,.fs (gv.map fun x=>[.s x]),.sl none 0 0,.sl none 0 0,.sl none 0 0,.sl none 0 0,.sl none 0 0] 7):=by simp
 have q2b:(Y2a.upd ob (.cells [.s nm,.fs (gv.map fun x=>[.s x]),.sl none 0 0,.sl none 0 0,.sl none 0 0,.sl none 0 0,.sl none 0 0] 7)).get H.next=some (.cells [.s [],.sl none 0 0,.sl none 0 0,.sl none 0 0,.sl none 0 0,.sl none 0 0,.sl none 0 0] 7):=by simp [hnn,q2a]
 generalize Y2a.upd ob (.cells [.s nm,.fs (gv.map fun x=>[.s x]),.sl none 0 0,.sl none 0 0,.sl none 0 0,.sl none 0 0,.sl none 0 0] 7)=Y2 at *
 have C2:=X2.rc C
 apply jA
 simp [y2g.r4]
 refine AC.fix (yd5 (y2e pool t) V.s (fun x=>[.s x]) 1 16 [.s []] (fun _=>rfl) (fun _=>rfl) rfl (by omega) (by omega) (fun _=>rfl) (fun x v hv=>by simp at hv;subst hv;exact ydk _) yj.at yj.ok (.fb y3e [.p (some (rid,0,2))]) (fun _ h=>y47 h)
  (fun σ X o c=>by simpa using ya1 hp ht o c) ht ho2 C2) ?_
 have ho3:=y6n (fun _ h=>y47 (pool:=pool) h) ho2
 have X3a:=X2.upd (y3j t (y2e pool t) s2).2
 have q3a:(Y2.upd id (.cells (rdc t (y3j t (y2e pool t) s2).2) 3)).get H.next=some (.cells [.s [],.sl none 0 0,.sl none 0 0,.sl none 0 0,.sl none 0 0,.sl none 0 0,.sl none 0 0] 7):=by simp [hne,q2b]
 have g3a:(Y2.upd id (.cells (rdc t (y3j t (y2e pool t) s2).2) 3)).get ob=some (.cells [.s nm,.fs (gv.map fun x=>[.s x]),.sl none 0 0,.sl none 0 0,.sl none 0 0,.sl none 0 0,.sl none 0 0] 7):=by simp [hne2,g2]
 generalize Y2.upd id (.cells (rdc t (y3j t (y2e pool t) s2).2) 3)=Y3a at *
 generalize (y3j t (y2e pool t) s2).1=wn at *
 generalize (y3j t (y2e pool t) s2).2=s3 at *
 simp [g3a]
 have X3:=X3a.put lo2 (X3a.lt _ _ g3a) (.cells [.s nm,.fs (gv.map fun x=>[.s x]),.fs (wn.map fun x=>[.s x]),.sl none 0 0,.sl none 0 0,.sl none 0 0,.sl none 0 0] 7)
 have g3:(Y3a.upd ob (.cells [.s nm,.fs (gv.map fun x=>[.s x]),.fs (wn.map fun x=>[.s x]),.sl none 0 0,.sl none 0 0,.sl none 0 0,.sl none 0 0] 7)).get ob=some (.cells [.s nm,.fs (gv.map fun x=>[.s x]),.fs (wn.map fun x=>[.s x]),.sl none 0 0,.sl none 0 0,.sl none 0 0,.sl none 0 0] 7):=by simp
 have q3b:(Y3a.upd ob (.cells [.s nm,.fs (gv.map fun x=>[.s x]),.fs (wn.map fun x=>[.s x]),.sl none 0 0,.sl none 0 0,.sl none 0 0,.sl none 0 0] 7)).get H.next=some (.cells [.s [],.sl none 0 0,.sl none 0 0,.sl none 0 0,.sl none 0 0,.sl none 0 0,.sl none 0 0] 7):=by simp [hnn,q3a]
 generalize Y3a.upd ob (.cells [.s nm,.fs (gv.map fun x=>[.s x]),.fs (wn.map fun x=>[.s x]),.sl none 0 0,.sl none 0 0,.sl none 0 0,.sl none 0 0] 7)=Y3 at *
 have C3:=X3.rc C
 apply jA
 simp [y2g.r5]
 refine AC.fix (yd5 (y2e pool t) V.s (fun x=>[.s x]) 1 16 [.s []] (fun _=>rfl) (fun _=>rfl) rfl (by omega) (by omega) (fun _=>rfl) (fun x v hv=>by simp at hv;subst hv;exact ydk _) yj.at yj.ok (.fb y3e [.p (some (rid,0,2))]) (fun _ h=>y47 h)
  (fun σ X o c=>by simpa using ya1 hp ht o c) ht ho3 C3) ?_
 have ho4:=y6n (fun _ h=>y47 (pool:=pool) h) ho3
 have X4a:=X3.upd (y3j t (y2e pool t) s3).2
 have q4a:(Y3.upd id (.cells (rdc t (y3j t (y2e pool t) s3).2) 3)).get H.next=some (.cells [.s [],.sl none 0 0,.sl none 0 0,.sl none 0 0,.sl none 0 0,.sl none 0 0,.sl none 0 0] 7):=by simp [hne,q3b]
 have g4a:(Y3.upd id (.cells (rdc t (y3j t (y2e pool t) s3).2) 3)).get ob=some (.cells [.s nm,.fs (gv.map fun x=>[.s x]),.fs (wn.map fun x=>[.s x]),.sl none 0 0,.sl none 0 0,.sl none 0 0,.sl none 0 0] 7):=by simp [hne2,g3]
 generalize Y3.upd id (.cells (rdc t (y3j t (y2e pool t) s3).2) 3)=Y4a at *
 generalize (y3j t (y2e pool t) s3).1=kp at *
 generalize (y3j t (y2e pool t) s3).2=s4 at *
 simp [g4a]
 have X4:=X4a.put lo2 (X4a.lt _ _ g4a) (.cells [.s nm,.fs (gv.map fun x=>[.s x]),.fs (wn.map fun x=>[.s x]),.fs (kp.map fun x=>[.s x]),.sl none 0 0,.sl none 0 0,.sl none 0 0] 7)
 have g4:(Y4a.upd ob (.cells [.s nm,.fs (gv.map fun x=>[.s x]),.fs (wn.map fun x=>[.s x]),.fs (kp.map fun x=>[.s x]),.sl none 0 0,.sl none 0 0,.sl none 0 0] 7)).get ob=some (.cells [.s nm,.fs (gv.map fun x=>[.s x]),.fs (wn.map fun x=>[.s x]),.fs (kp.map fun x=>[.s x]),.sl none 0 0,.sl none 0 0,.sl none 0 0] 7):=by simp
 have q4b:(Y4a.upd ob (.cells [.s nm,.fs (gv.map fun x=>[.s x]),.fs (wn.map fun x=>[.s x]),.fs (kp.map fun x=>[.s x]),.sl none 0 0,.sl none 0 0,.sl none 0 0] 7)).get H.next=some (.cells [.s [],.sl none 0 0,.sl none 0 0,.sl none 0 0,.sl none 0 0,.sl none 0 0,.sl none 0 0] 7):=by simp [hnn,q4a]
 generalize Y4a.upd ob (.cells [.s nm,.fs (gv.map fun x=>[.s x]),.fs (wn.map fun x=>[.s x]),.fs (kp.map fun x=>[.s x]),.sl none 0 0,.sl none 0 0,.sl none 0 0] 7)=Y4 at *
 have C4:=X4.rc C
 apply jA
 simp [y2g.r6]
 refine AC.fix (yd5 (yc3 pool t) (fun x=>.agg (y62 x)) y62 3 56 [.s [],.s [],.sl none 0 0] (fun _=>rfl) (fun _=>rfl) rfl (by omega) (by omega) (fun _=>rfl) yhw y1z.at y1z.ok (.fb y8c [.p (some (rid,0,2))]) (fun _ h=>ygo h)
  (fun σ X o c=>by simpa using RdObj_ok hp ht o c) ht ho4 C4) ?_
 have ho5:=y6n (fun _ h=>ygo (pool:=pool) h) ho4
 have X5a:=X4.upd (y3j t (yc3 pool t) s4).2
 have q5a:(Y4.upd id (.cells (rdc t (y3j t (yc3 pool t) s4).2) 3)).get H.next=some (.cells [.s [],.sl none 0 0,.sl none 0 0,.sl none 0 0,.sl none 0 0,.sl none 0 0,.sl none 0 0] 7):=by simp [hne,q4b]
 have g5a:(Y4.upd id (.cells (rdc t (y3j t (yc3 pool t) s4).2) 3)).get ob=some (.cells [.s nm,.fs (gv.map fun x=>[.s x]),.fs (wn.map fun x=>[.s x]),.fs (kp.map fun x=>[.s x]),.sl none 0 0,.sl none 0 0,.sl none 0 0] 7):=by simp [hne2,g4]
 generalize Y4.upd id (.cells (rdc t (y3j t (yc3 pool t) s4).2) 3)=Y5a at *
 generalize (y3j t (yc3 pool t) s4).1=os at *
 generalize (y3j t (yc3 pool t) s4).2=s5 at *
 simp [g5a]
 have X5:=X5a.put lo2 (X5a.lt _ _ g5a) (.cells [.s nm,.fs (gv.map fun x=>[.s x]),.fs (wn.map fun x=>[.s x]),.fs (kp.map fun x=>[.s x]),.fs (os.map y62),.sl none 0 0,.sl none 0 0] 7)
 have g5:(Y5a.upd ob (.cells [.s nm,.fs (gv.map fun x=>[.s x]),.fs (wn.map fun x=>[.s x]),.fs (kp.map fun x=>[.s x]),.fs (os.map y62),.sl none 0 0,.sl none 0 0] 7)).get ob=some (.cells [.s nm,.fs (gv.map fun x=>[.s x]),.fs (wn.map fun x=>[.s x]),.fs (kp.map fun x=>[.s x]),.fs (os.map y62),.sl none 0 0,.sl none 0 0] 7):=by simp
 have q5b:(Y5a.upd ob (.cells [.s nm,.fs (gv.map fun x=>[.s x]),.fs (wn.map fun x=>[.s x]),.fs (kp.map fun x=>[.s x]),.fs (os.map y62),.sl none 0 0,.sl none 0 0] 7)).get H.next=some (.cells [.s [],.sl none 0 0,.sl none 0 0,.sl none 0 0,.sl none 0 0,.sl none 0 0,.sl none 0 0] 7):=by simp [hnn,q5a]
 generalize Y5a.upd ob (.cells [.s nm,.fs (gv.map fun x=>[.s x]),.fs (wn.map fun x=>[.s x]),.fs (kp.map fun x=>[.s x]),.fs (os.map y62),.sl none 0 0,.sl none 0 0] 7)=Y5 at *
 have C5:=X5.rc C
 apply jA
 simp [y2g.r7]
 refine AC.fix (yd5 (yli pool t) (fun x=>.agg (y9n x)) y9n 3 48 [.s [],.s [],.s []] (fun _=>rfl) (fun _=>rfl) rfl (by omega) (by omega) (fun _=>rfl) ykg y24.at y24.ok (.fb y7h [.p (some (rid,0,2))]) (fun _ h=>yk3 h)
  (fun σ X o c=>by simpa using RdFn_ok hp ht o c) ht ho5 C5) ?_
 have ho6:=y6n (fun _ h=>yk3 (pool:=pool) h) ho5
 have X6a:=X5.upd (y3j t (yli pool t) s5).2
 have q6a:(Y5.upd id (.cells (rdc t (y3j t (yli pool t) s5).2) 3)).get H.next=some (.cells [.s [],.sl none 0 0,.sl none 0 0,.sl none 0 0,.sl none 0 0,.sl none 0 0,.sl none 0 0] 7):=by simp [hne,q5b]
 have g6a:(Y5.upd id (.cells (rdc t (y3j t (yli pool t) s5).2) 3)).get ob=some (.cells [.s nm,.fs (gv.map fun x=>[.s x]),.fs (wn.map fun x=>[.s x]),.fs (kp.map fun x=>[.s x]),.fs (os.map y62),.sl none 0 0,.sl none 0 0] 7):=by simp [hne2,g5]
 generalize Y5.upd id (.cells (rdc t (y3j t (yli pool t) s5).2) 3)=Y6a at *
 generalize (y3j t (yli pool t) s5).1=fs at *
 generalize (y3j t (yli pool t) s5).2=s6 at *
 simp [g6a]
 have X6:=X6a.put lo2 (X6a.lt _ _ g6a) (.cells [.s nm,.fs (gv.map fun x=>[.s x]),.fs (wn.map fun x=>[.s x]),.fs (kp.map fun x=>[.s x]),.fs (os.map y62),.fs (fs.map y9n),.sl none 0 0] 7)
 have g6:(Y6a.upd ob (.cells [.s nm,.fs (gv.map fun x=>[.s x]),.fs (wn.map fun x=>[.s x]),.fs (kp.map fun x=>[.s x]),.fs (os.map y62),.fs (fs.map y9n),.sl none 0 0] 7)).get ob=some (.cells [.s nm,.fs (gv.map fun x=>[.s x]),.fs (wn.map fun x=>[.s x]),.fs (kp.map fun x=>[.s x]),.fs (os.map y62),.fs (fs.map y9n),.sl none 0 0] 7):=by simp
 have q6b:(Y6a.upd ob (.cells [.s nm,.fs (gv.map fun x=>[.s x]),.fs (wn.map fun x=>[.s x]),.fs (kp.map fun x=>[.s x]),.fs (os.map y62),.fs (fs.map y9n),.sl none 0 0] 7)).get H.next=some (.cells [.s [],.sl none 0 0,.sl none 0 0,.sl none 0 0,.sl none 0 0,.sl none 0 0,.sl none 0 0] 7):=by simp [hnn,q6a]
 generalize Y6a.upd ob (.cells [.s nm,.fs (gv.map fun x=>[.s x]),.fs (wn.map fun x=>[.s x]),.fs (kp.map fun x=>[.s x]),.fs (os.map y62),.fs (fs.map y9n),.sl none 0 0] 7)=Y6 at *
 have C6:=X6.rc C
 apply jA
 simp [y2g.r8]
 refine AC.fix (yd5 (yf7 pool t) (fun x=>.agg (y6i x)) y6i 6 88 [.i .i64 0,.s [],.s [],.i .i64 0,.s [],.sl none 0 0] (fun _=>rfl) (fun _=>rfl) rfl (by omega) (by omega) (fun _=>rfl) ykm y20.at y20.ok (.fb y9m [.p (some (rid,0,2))]) (fun _ h=>yhu h)
  (fun σ X o c=>by simpa using RdCon_ok hp ht o c) ht ho6 C6) ?_
 have ho7:=y6n (fun _ h=>yhu (pool:=pool) h) ho6
 have X7a:=X6.upd (y3j t (yf7 pool t) s6).2
 have q7a:(Y6.upd id (.cells (rdc t (y3j t (yf7 pool t) s6).2) 3)).get H.next=some (.cells [.s [],.sl none 0 0,.sl none 0 0,.sl none 0 0,.sl none 0 0,.sl none 0 0,.sl none 0 0] 7):=by simp [hne,q6b]
 have g7a:(Y6.upd id (.cells (rdc t (y3j t (yf7 pool t) s6).2) 3)).get ob=some (.cells [.s nm,.fs (gv.map fun x=>[.s x]),.fs (wn.map fun x=>[.s x]),.fs (kp.map fun x=>[.s x]),.fs (os.map y62),.fs (fs.map y9n),.sl none 0 0] 7):=by simp [hne2,g6]
 generalize Y6.upd id (.cells (rdc t (y3j t (yf7 pool t) s6).2) 3)=Y7a at *
 generalize (y3j t (yf7 pool t) s6).1=cs at *
 generalize (y3j t (yf7 pool t) s6).2=s7 at *
 simp [g7a]
 have X7:=X7a.put lo2 (X7a.lt _ _ g7a) (.cells [.s nm,.fs (gv.map fun x=>[.s x]),.fs (wn.map fun x=>[.s x]),.fs (kp.map fun x=>[.s x]),.fs (os.map y62),.fs (fs.map y9n),.fs (cs.map y6i)] 7)
 have g7:(Y7a.upd ob (.cells [.s nm,.fs (gv.map fun x=>[.s x]),.fs (wn.map fun x=>[.s x]),.fs (kp.map fun x=>[.s x]),.fs (os.map y62),.fs (fs.map y9n),.fs (cs.map y6i)] 7)).get ob=some (.cells [.s nm,.fs (gv.map fun x=>[.s x]),.fs (wn.map fun x=>[.s x]),.fs (kp.map fun x=>[.s x]),.fs (os.map y62),.fs (fs.map y9n),.fs (cs.map y6i)] 7):=by simp
 have q7b:(Y7a.upd ob (.cells [.s nm,.fs (gv.map fun x=>[.s x]),.fs (wn.map fun x=>[.s x]),.fs (kp.map fun x=>[.s x]),.fs (os.map y62),.fs (fs.map y9n),.fs (cs.map y6i)] 7)).get H.next=some (.cells [.s [],.sl none 0 0,.sl none 0 0,.sl none 0 0,.sl none 0 0,.sl none 0 0,.sl none 0 0] 7):=by simp [hnn,q7a]
 generalize Y7a.upd ob (.cells [.s nm,.fs (gv.map fun x=>[.s x]),.fs (wn.map fun x=>[.s x]),.fs (kp.map fun x=>[.s x]),.fs (os.map y62),.fs (fs.map y9n),.fs (cs.map y6i)] 7)=Y7 at *
 have C7:=X7.rc C
 apply jB
 simp [y2g.r9,C7.hr]
 refine AC.fix (yi7 C7.hg) ?_
 have hR2:=hR _ _ hS
 clear hR hS
 generalize y7y t s7=e at *
 simp
 apply jA
 simp [y2g.r10]
 by_cases he:e=0
 ·subst he
  refine jF (by simp) (AX.skip ?_)
  simp
  apply jA
  simp [y2g.r12,g7,q7b]
  apply jD
  rw [if_neg (by simp)] at hR2
  simp [hR2,y61,ss]
  exact ⟨hfin2 _ X7,.refl _⟩
 ·refine jG (by simp [he]) ?_
  apply jA
  simp [y2g.r11,q7b]
  apply jD
  rw [if_pos he] at hR2
  simp [hR2]
  exact ⟨hfin2 _ X7,y8f yad⟩
structure Nb (H:Hp) (id:Nat) (b:Blk) (X:Hp):Prop where
 ext:H.Ext X
 lt:∀k blk,X.get k=some blk→k<X.next
 get:X.get id=some b
 hi:H.next≤id
 hlt:∀k blk,H.get k=some blk→k<H.next
theorem Nb.new {H:Hp} (hl:∀k blk,H.get k=some blk→k<H.next) (b:Blk):Nb H H.next b (H.add b):=⟨.add hl b,Hp.add_lt hl b,by simp,kF _,hl⟩
theorem Nb.upd {H X:Hp} {id:Nat} {b:Blk} (h:Nb H id b X) (c:Blk):Nb H id c (X.upd id c):=⟨h.ext.upd h.hlt h.hi c,Hp.upd_lt h.lt (h.lt _ _ h.get) c,by simp,h.hi,h.hlt⟩
theorem yu7 {t:Str} (h:t.take 4=y7j):4≤t.length:=by
 have:=congrArg List.length h
 simp [y7j] at this;omega
theorem yp4 (t:Str) (ht:t.length≤140737488351232) (H:Hp):AC Tryz.prog y74 [.s t,.s y7j] H (fun v H'=>v=.b (decide (t.take 4=y7j))∧H'=H):=by
 refine AC.code y30.at y30.ok ?_
 simp only [y30,y7j]
 apply jA
 simp [y30.r0]
 apply jA
 by_cases h4:4≤t.length
 ·simp [y30.r1,h4]
  apply jD
  simp
  exact decide_eq_decide.2 Iff.rfl
 ·simp [y30.r1,h4]
  apply jD
  simp
  refine decide_eq_false fun h=>?_
  exact h4 (yu7 h)
theorem yj6 (t:Str) (ht:t.length≤140737488351232) (H:Hp):AC Tryz.prog y9l [.s t,.s y7j] H (fun v H'=>v=.tup [.s (if t.take 4=y7j then t.drop 4 else t),.b (decide (t.take 4=y7j))]∧H'=H):=by
 have h0:∀H,AC Tryz.prog y75 [.s t,.s y7j] H (fun v H'=>v=.tup [.s (if t.take 4=y7j then t.drop 4 else t),.b (decide (t.take 4=y7j))]∧H'=H):=fun H=>by
  refine AC.code y22.at y22.ok ?_
  simp only [y22]
  apply jA
  simp [y22.r0]
  apply jB
  simp [y22.r1]
  refine AC.fix (yp4 t ht H) ?_
  by_cases h:t.take 4=y7j
  ·have h4:=yu7 h
   simp [h]
   refine jF rfl (AX.skip ?_)
   simp
   apply jA
   have e4:(y7j.length:Int)=4:=rfl
   simp [y22.r3,y7j,h4]
   apply jD
   simp
  ·simp [h]
   refine jG rfl (jA ?_)
   simp [y22.r2]
   apply jD
   simp
 refine AC.code y4z.at y4z.ok ?_
 simp only [y4z]
 apply jA
 simp [y4z.r0]
 apply jA
 simp [y4z.r1]
 refine AC.fix (h0 H) ?_
 simp
 apply jD
 simp
theorem yop (t:Str) (ht:t.length≤140737488351232) (H:Hp):AC Tryz.prog y9x [.s t] H (fun v H'=>v=.b (decide (t.take 4=y7j))∧H'=H):=by
 refine AC.code y4r.at y4r.ok ?_
 simp only [y4r,y7j]
 apply jA
 simp [y4r.r0]
 apply jA
 by_cases h4:4≤t.length
 ·simp [y4r.r1,h4]
  apply jD
  simp
  exact decide_eq_decide.2 Iff.rfl
 ·simp [y4r.r1,h4]
  apply jD
  simp
  refine decide_eq_false fun h=>?_
  exact h4 (yu7 h)
theorem PLen_ok {pool:List Str} {pv:V} (hp:yf1 pool pv) (H:Hp):AC Tryz.prog ye5 [pv] H (fun v H'=>v=.i .i64 pool.length∧H'=H):=by
 refine AC.code y5x.at y5x.ok ?_
 simp only [y5x]
 apply jA
 simp [y5x.r0]
 apply jA
 simp [y5x.r1]
 refine AC.fix (yjl pool pv hp H) ?_
 simp [ss]
 apply jD
 simp
theorem rd0 (u:Str):y7q u ⟨0,0⟩:=⟨by simp,by simp,by simp,by simp⟩
def vrE (b:Str):Nat × Bool:=if b.take 4=y7j then ((y33 (b.drop 4) ⟨0,0⟩).1,decide ((y33 (b.drop 4) ⟨0,0⟩).2.e=0)) else (0,false)
theorem yqj (b:Str) (hb:b.length≤140737488351232) (H:Hp):AC Tryz.prog ycj [.s b] H (fun v H'=>v=.tup [.i .i64 (vrE b).1,.b (vrE b).2]∧H'=H):=by
 refine AC.codeP y2z.at y2z.ok (yc1 (by simp [yi4,yls])) fun hlt=>?_
 simp only [y2z]
 apply jA
 simp [y2z.r0]
 apply jA
 simp [y2z.r1]
 refine AC.fix (yj6 b hb H) ?_
 simp
 apply jB
 simp [y2z.r2]
 by_cases h:b.take 4=y7j
 ·refine jF (by simp [h]) (AX.skip ?_)
  simp [h]
  have hu:(b.drop 4).length≤140737488351232:=by simp;omega
  simp only [vrE,if_pos h]
  generalize b.drop 4=u at *
  apply jA
  simp [y2z.r4]
  refine AC.fix (yn4 u H) ?_
  have N0:=Nb.new hlt (.cells (rdc u ⟨0,0⟩) 3)
  generalize H.add (.cells (rdc u ⟨0,0⟩) 3)=X at *
  generalize H.next=id at *
  simp
  apply jA
  simp [y2z.r5]
  refine AC.fix (y9o (rd0 u) (by omega) N0.get) ?_
  have o1:=(y6d (rd0 u)).1
  have N1:=N0.upd (.cells (rdc u (y33 u ⟨0,0⟩).2) 3)
  generalize X.upd id (.cells (rdc u (y33 u ⟨0,0⟩).2) 3)=Y at *
  simp
  apply jA
  simp [y2z.r6]
  refine AC.fix (yoy o1 N1.get) ?_
  simp
  apply jD
  simp
  exact ⟨N1.ext,.refl _⟩
 ·refine jG (by simp [h]) (jA ?_)
  simp [y2z.r3]
  apply jD
  simp [vrE,h]
  exact ⟨.refl _,.refl _⟩
theorem yqm (b:Str) (hb:b.length≤140737488351232) (H:Hp):AC Tryz.prog yba [.s b] H (fun v H'=>v=.tup [.i .i64 (vrE b).1,.b (vrE b).2]∧H'=H):=by
 refine AC.codeP y2x.at y2x.ok (yc1 (by simp [yi4,yls])) fun hlt=>?_
 simp only [y2x]
 apply jA
 simp [y2x.r0]
 apply jB
 simp [y2x.r1]
 refine AC.fix (yop b hb H) ?_
 simp
 by_cases h:b.take 4=y7j
 ·refine jF (by simp [h]) (AX.skip ?_)
  have h4:=yu7 h
  simp [h]
  have hu:(b.drop 4).length≤140737488351232:=by simp;omega
  simp only [vrE,if_pos h]
  apply jA
  simp [y2x.r3,h4]
  generalize b.drop 4=u at *
  have N0:=Nb.new hlt (.cells (rdc u ⟨0,0⟩) 3)
  have e0:[V.s u,V.i .i64 0,V.i .i64 0]=rdc u ⟨0,0⟩:=rfl
  simp only [e0]
  generalize H.add (.cells (rdc u ⟨0,0⟩) 3)=X at *
  generalize H.next=id at *
  apply jA
  simp [y2x.r4]
  refine AC.fix (y80 (rd0 u) (by omega) N0.get) ?_
  have o1:=(y6d (rd0 u)).1
  have N1:=N0.upd (.cells (rdc u (y33 u ⟨0,0⟩).2) 3)
  generalize X.upd id (.cells (rdc u (y33 u ⟨0,0⟩).2) 3)=Y at *
  simp
  have g1:=N1.get
  simp only [rdc] at g1
  refine AX.seq (AX.drw ?_)
  simp [y2x.r5,g1]
  apply jD
  simp
  exact ⟨N1.ext,.refl _⟩
 ·refine jG (by simp [h]) (jA ?_)
  simp [y2x.r2]
  apply jD
  simp [vrE,h]
  exact ⟨.refl _,.refl _⟩
def OpR (t:Str) (v:V):Prop:=∃pv body e,v=.tup [pv,.s body,.i .i64 e]∧(e≠0→yp6 t=(su0,e))∧(e=0→∃l,yf1 l pv∧(∀s∈l,s.length≤1000)∧l.length≤6000∧body.length≤1000000∧yp6 t=decR l body)
theorem SOpen_ok (t:Str) (ht:t.length≤200000) (H:Hp):AC Tryz.prog yet [.s t] H (fun v H'=>OpR t v∧H'=H):=by
 refine AC.codeR y1f.at y1f.ok fun hlt=>?_
 simp only [y1f]
 apply jA
 simp [y1f.r0]
 apply jA
 simp [y1f.r1]
 refine AC.fix (yj6 t (by omega) H) ?_
 simp
 apply jB
 simp [y1f.r2]
 by_cases h:t.take 4=y7j
 case neg=>
  refine jG (by simp [h]) (jA ?_)
  simp [y1f.r3]
  apply jD
  simp
  exact ⟨⟨_,_,_,rfl,fun _=>by unfold yp6;rw [if_pos h],fun h=>by cases h⟩,.refl _⟩
 refine jF (by simp [h]) (AX.skip ?_)
 simp [h]
 have hD:yp6 t=ytb (t.drop 4):=by unfold yp6;rw [if_neg (by simp [h])]
 have hu:(t.drop 4).length≤200000:=by simp;omega
 generalize t.drop 4=u at *
 apply jA
 simp [y1f.r4]
 refine AC.fix (yn4 u H) ?_
 have N0:=Nb.new hlt (.cells (rdc u ⟨0,0⟩) 3)
 generalize H.add (.cells (rdc u ⟨0,0⟩) 3)=X at *
 generalize hid:H.next=id at *
 have o1:=(y6d (rd0 u)).1
 have N1:=N0.upd (.cells (rdc u (y33 u ⟨0,0⟩).2) 3)
 simp
 refine AX.seq (AX.mono (Q:=y8z.then (fun F X=>F=[(7,.p (some (id,0,3)))]∧Nb H id (.cells (rdc u (y9p u)) 3) X) fun _ _ _=>False) (jA ?_) ?_)
 ·simp [y1f.r5]
  refine AC.fix (y9o (rd0 u) (by omega) N0.get) ?_
  generalize X.upd id (.cells (rdc u (y33 u ⟨0,0⟩).2) 3)=Y at *
  by_cases h1:(y33 u ⟨0,0⟩).1=1
  ·have hv:y9p u=(y33 u ⟨0,0⟩).2:=by unfold y9p;rw [if_neg (by simp [h1])]
   simp [h1]
   apply jA
   simp [y1f.r6]
   refine jF rfl (AX.skip ?_)
   simp
   rw [hv];exact N1
  ·have hv:y9p u=y6a (y33 u ⟨0,0⟩).2 5:=by unfold y9p;rw [if_pos h1]
   have h1':((y33 u ⟨0,0⟩).1:Int)≠1:=by omega
   simp
   apply jA
   simp [y1f.r6]
   refine jG (by simp;omega) (AX.reg ?_)
   simp [y1f.r7]
   refine AC.fix (ygg N1.get 5) ?_
   simp
   rw [hv];exact N1.upd _
 intro x F X hx
 cases x with
 | exit k=>exact hx.elim
 | ret=>exact hx.elim
 | normal=>
 obtain ⟨rfl,N2⟩:=hx
 simp only [y8z.then]
 have o2:=ymg u
 clear N0 N1
 apply jB
 simp [y1f.r8]
 refine AC.fix (yoy o2 N2.get) ?_
 simp
 apply jA
 simp [y1f.r9]
 by_cases h2:(y9p u).e=0
 case neg=>
  refine jG (by simp [h2]) (jA ?_)
  simp [y1f.r10]
  apply jD
  simp
  exact ⟨⟨_,_,_,rfl,fun _=>by rw [hD];unfold ytb;rw [if_pos h2],fun h=>(h2 h).elim⟩,N2.ext⟩
 refine jF (by simp [h2]) (AX.skip ?_)
 simp
 have hD2:yp6 t=yq4 u (y6t u (y9p u)):=by rw [hD];unfold ytb;rw [if_neg (by simp [h2])]
 apply jA
 simp [y1f.r11]
 refine AC.fix (PRead_ok o2 (by omega) N2.get) ?_
 have gp:=yk4 (t:=u) (σ:=y9p u) o2
 have N3:=N2.upd (.cells (rdc u (y6t u (y9p u)).2) 3)
 generalize X.upd id (.cells (rdc u (y6t u (y9p u)).2) 3)=Y at *
 generalize y6t u (y9p u)=l at *
 simp
 apply jB
 simp [y1f.r12]
 by_cases h3:l.2.e=0
 case neg=>
  refine jG (by simp [h3]) (jA ?_)
  simp [y1f.r13]
  apply jD
  simp
  exact ⟨⟨_,_,_,rfl,fun _=>by rw [hD2];unfold yq4;rw [if_pos h3],fun h=>(h3 h).elim⟩,N3.ext⟩
 refine jF (by simp [h3]) (AX.skip ?_)
 simp
 obtain ⟨gb,hr,h1000,h6000,o3⟩:=gp h3
 have hpv:yo0 l=.fp [ss l.1] 0:=by unfold yo0;rw [if_pos h3]
 rw [hpv]
 have hP:yf1 l.1 (.fp [ss l.1] 0):=⟨hr,by omega,.inr rfl⟩
 apply jA
 simp [y1f.r14]
 refine AC.fix (yov o3 (by omega) N3.get) ?_
 have ot:=ygn (t:=u) (σ:=l.2) o3
 have N4:=N3.upd (.cells (rdc u (y6y u l.2).2) 3)
 generalize Y.upd id (.cells (rdc u (y6y u l.2).2) 3)=Z at *
 simp
 apply jA
 simp [y1f.r15]
 refine AC.fix (yi7 N4.get) ?_
 simp
 apply jA
 simp [y1f.r16]
 apply jD
 simp
 refine ⟨⟨⟨_,_,_,rfl,fun h4=>?_,fun h4=>⟨l.1,hP,h1000,h6000,by omega,?_⟩⟩,(by rw [←hpv];exact ylr l)⟩,N4.ext⟩
 ·rw [hD2];unfold yq4;rw [if_neg (by simp [h3]),if_pos h4]
 ·rw [hD2];unfold yq4;rw [if_neg (by simp [h3]),if_neg (by simp [h4])]
end Go.Proofs.YthmkcebbeehbeaaGreatDoor
