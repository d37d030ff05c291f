/- Part 38 of the proof of the laws of the queries: RrX. -/
import Derived.Test.YthmkcebbeehbeaaGreatDoorXTw27
import Derived.Test.YthmkcebbeehbeaaGreatDoorXTw37
set_option linter.unusedSimpArgs false
set_option linter.unusedVariables false
namespace Go.Proofs.YthmkcebbeehbeaaGreatDoor
open Am C
theorem yfx (m:Mk):∀v∈ya4 m,yb5 v:=fun v hv=>by simp [ya4] at hv;rcases hv with rfl | rfl;exact yg4 _ _;exact yah _
theorem yft (o:Ob):∀v∈y73 o,yb5 v:=fun v hv=>by
  simp [y73] at hv
  rcases hv with rfl | rfl | rfl
  · exact yah _
  · exact yah _
  · exact ycc fun e he v hv=>by obtain ⟨m,_,rfl⟩:=List.mem_map.1 he;exact yfx m v hv
theorem yg1 (f:Fu):∀v∈yaa f,yb5 v:=fun v hv=>by simp [yaa] at hv;rcases hv with rfl | rfl | rfl <;> exact yah _
theorem yg8 (c:Cn):∀v∈y85 c,yb5 v:=fun v hv=>by
  simp [y85] at hv
  rcases hv with rfl | rfl | rfl | rfl | rfl | rfl
  · exact yg4 _ _
  · exact yah _
  · exact yah _
  · exact yg4 _ _
  · exact yah _
  · exact ybo _
theorem yiq (s:Su):∀v∈y6i s,yb5 v:=fun v hv=>by
  simp [y6i] at hv
  rcases hv with rfl | rfl | rfl | rfl | rfl | rfl | rfl
  · exact yah _
  · exact ybo _
  · exact ybo _
  · exact ybo _
  · exact ycc fun e he v hv=>by obtain ⟨m,_,rfl⟩:=List.mem_map.1 he;exact yft m v hv
  · exact ycc fun e he v hv=>by obtain ⟨m,_,rfl⟩:=List.mem_map.1 he;exact yg1 m v hv
  · exact ycc fun e he v hv=>by obtain ⟨m,_,rfl⟩:=List.mem_map.1 he;exact yg8 m v hv
section
variable {t:Str} {pv:V} {rid id:Nat} {σ:Rd} {X Y H:Hp} {pool:List Str}
theorem RX.put (R:RX H id t σ X) {k:Nat} (hk:H.next≤k) (hx:k<X.next) (b:Blk):RX H id t σ (X.upd k b):=
  ⟨R.ext.upd R.dlt hk b,Hp.upd_lt R.lt hx b,by rw [Hp.get_upd,if_neg (by have:=R.hid;omega)];exact R.get,R.hlt,R.hid⟩
theorem RX.add (R:RX H id t σ X) (b:Blk):RX H id t σ (X.add b):=R.more (.add R.lt b) (Hp.add_lt R.lt b)
theorem yrp (hp:yav pool pv) (ht:t.length≤1000000000) (ho:y6y t σ) (C:RC t pv rid id σ H):
    AC Tryz.prog y6p [.p (some (rid,0,2))] H (fun v H'=>v=.agg (ya4 (y9w pool t σ).1)∧H'=H.upd id (.cells (rdc t (y9w pool t σ).2) 3)):=by
  refine AC.codeU y2o.at y2o.ok C.hg (ycp _ _) (ybp (yfx _)) fun hlt=>?_
  have X0:=(RX.start hlt C.hg).add (.cells [.i .i64 0,.s []] 2)
  have g0:(H.add (.cells [.i .i64 0,.s []] 2)).get H.next=some (.cells [.i .i64 0,.s []] 2):=by simp
  have hne:H.next≠id:=by have:=X0.hid;omega
  simp only [y2o]
  apply jA
  simp [y2o.r0]
  generalize H.add (.cells [.i .i64 0,.s []] 2)=Y0 at *
  have C0:=X0.rc C
  apply jA
  simp [y2o.r1,C0.hr]
  refine AC.fix (y7j ho (by omega) C0.hg) ?_
  have ho1:=(y5d ho).1
  have X1:=X0.upd (y3f t σ).2
  have g1:(Y0.upd id (.cells (rdc t (y3f t σ).2) 3)).get H.next=some (.cells [.i .i64 0,.s []] 2):=by simp [hne,g0]
  generalize Y0.upd id (.cells (rdc t (y3f t σ).2) 3)=Y1 at *
  have C1:=X1.rc C
  simp
  apply jA
  simp [y2o.r2]
  refine AC.fix (y7b hp ht ho1 C1) ?_
  have X2:=X1.upd (y31 pool t (y3f t σ).2).2
  have g2:(Y1.upd id (.cells (rdc t (y31 pool t (y3f t σ).2).2) 3)).get H.next=some (.cells [.i .i64 0,.s []] 2):=by simp [hne,g1]
  generalize Y1.upd id (.cells (rdc t (y31 pool t (y3f t σ).2).2) 3)=Y2 at *
  have X3:=X2.put (Nat.le_refl H.next) (X2.lt _ _ g2) (.cells (ya4 (y9w pool t σ).1) 2)
  simp [g2]
  apply jD
  simp
  exact ⟨X3.fin,.refl _⟩
theorem RdObj_ok (hp:yav pool pv) (ht:t.length≤1000000000) (ho:y6y t σ) (C:RC t pv rid id σ H):
    AC Tryz.prog y61 [.p (some (rid,0,2))] H (fun v H'=>v=.agg (y73 (yc4 pool t σ).1)∧H'=H.upd id (.cells (rdc t (yc4 pool t σ).2) 3)):=by
  refine AC.codeU y1q.at y1q.ok C.hg (ycp _ _) (ybp (yft _)) fun hlt=>?_
  have X0:=(RX.start hlt C.hg).add (.cells [.s [],.s [],.sl none 0 0] 3)
  have g0:(H.add (.cells [.s [],.s [],.sl none 0 0] 3)).get H.next=some (.cells [.s [],.s [],.sl none 0 0] 3):=by simp
  have hne:H.next≠id:=by have:=X0.hid;omega
  have n0:H.next<(H.add (.cells [.s [],.s [],.sl none 0 0] 3)).next:=by simp
  simp only [y1q]
  apply jA
  simp [y1q.r0]
  generalize H.add (.cells [.s [],.s [],.sl none 0 0] 3)=Y0 at *
  have C0:=X0.rc C
  apply jA
  simp [y1q.r1]
  refine AC.fix (y7b hp ht ho C0) ?_
  have ho1:=y3u (pool:=pool) ho
  have X1:=X0.upd (y31 pool t σ).2
  have g1:(Y0.upd id (.cells (rdc t (y31 pool t σ).2) 3)).get H.next=some (.cells [.s [],.s [],.sl none 0 0] 3):=by simp [hne,g0]
  have n1:H.next<(Y0.upd id (.cells (rdc t (y31 pool t σ).2) 3)).next:=by simpa using n0
  unfold yc4
  dsimp only
  generalize Y0.upd id (.cells (rdc t (y31 pool t σ).2) 3)=Y1 at *
  generalize (y31 pool t σ).1=nm at *
  generalize (y31 pool t σ).2=σ1 at *
  have hne2:Y1.next≠id:=by have h:H.next≤Y1.next:=X1.ext.1;have:=X1.hid;omega
  have hup:(Y1.add (.cells [.s [],.s [],.sl none 0 0] 3)).upd Y1.next (.cells [.s nm,.s [],.sl none 0 0] 3)=Y1.add (.cells [.s nm,.s [],.sl none 0 0] 3):=by
    refine Hp.ext' (fun j=>?_) rfl
    simp only [Hp.get_upd,Hp.get_add]
    split <;> rfl
  simp [hup]
  have X2:=X1.add (.cells [.s nm,.s [],.sl none 0 0] 3)
  have q2:(Y1.add (.cells [.s nm,.s [],.sl none 0 0] 3)).get H.next=some (.cells [.s [],.s [],.sl none 0 0] 3):=by rw [Hp.get_add,if_neg (by omega)];exact g1
  have g2:(Y1.add (.cells [.s nm,.s [],.sl none 0 0] 3)).get Y1.next=some (.cells [.s nm,.s [],.sl none 0 0] 3):=by simp
  have lo2:H.next≤Y1.next:=by omega
  have hnn:H.next≠Y1.next:=by omega
  generalize Y1.add (.cells [.s nm,.s [],.sl none 0 0] 3)=Y2 at *
  generalize Y1.next=ob at *
  have C2:=X2.rc C
  apply jA
  simp [y1q.r2]
  refine AC.fix (y7b hp ht ho1 C2) ?_
  have ho3:=y3u (pool:=pool) ho1
  have X3:=X2.upd (y31 pool t σ1).2
  have g3:(Y2.upd id (.cells (rdc t (y31 pool t σ1).2) 3)).get ob=some (.cells [.s nm,.s [],.sl none 0 0] 3):=by simp [hne2,g2]
  have q3:(Y2.upd id (.cells (rdc t (y31 pool t σ1).2) 3)).get H.next=some (.cells [.s [],.s [],.sl none 0 0] 3):=by simp [hne,q2]
  generalize Y2.upd id (.cells (rdc t (y31 pool t σ1).2) 3)=Y3 at *
  generalize (y31 pool t σ1).1=kd at *
  generalize (y31 pool t σ1).2=σ3 at *
  simp [g3]
  have X4:=X3.put lo2 (X3.lt _ _ g3) (.cells [.s nm,.s kd,.sl none 0 0] 3)
  have g4:(Y3.upd ob (.cells [.s nm,.s kd,.sl none 0 0] 3)).get ob=some (.cells [.s nm,.s kd,.sl none 0 0] 3):=by simp
  have q4:(Y3.upd ob (.cells [.s nm,.s kd,.sl none 0 0] 3)).get H.next=some (.cells [.s [],.s [],.sl none 0 0] 3):=by simp [hnn,q3]
  generalize Y3.upd ob (.cells [.s nm,.s kd,.sl none 0 0] 3)=Y4 at *
  have C4:=X4.rc C
  apply jA
  simp [y1q.r3]
  refine AC.fix (y9g (y9w pool t) (fun m=>.agg (ya4 m)) ya4 2 24 [.i .i64 0,.s []] (fun _=>rfl) (fun _=>rfl) rfl (by omega) (by omega) (fun _=>rfl) yfx y1a.at y1a.ok (.fb y6p [.p (some (rid,0,2))]) (fun _ h=>yfo h)
    (fun σ X o c=>by simpa using yrp hp ht o c) ht ho3 C4) ?_
  have X5:=X4.upd (y30 t (y9w pool t) σ3).2
  have g5:(Y4.upd id (.cells (rdc t (y30 t (y9w pool t) σ3).2) 3)).get ob=some (.cells [.s nm,.s kd,.sl none 0 0] 3):=by simp [hne2,g4]
  have q5:(Y4.upd id (.cells (rdc t (y30 t (y9w pool t) σ3).2) 3)).get H.next=some (.cells [.s [],.s [],.sl none 0 0] 3):=by simp [hne,q4]
  generalize Y4.upd id (.cells (rdc t (y30 t (y9w pool t) σ3).2) 3)=Y5 at *
  generalize (y30 t (y9w pool t) σ3).1=ml at *
  generalize (y30 t (y9w pool t) σ3).2=σ5 at *
  simp [g5]
  have X6:=X5.put lo2 (X5.lt _ _ g5) (.cells (y73 ⟨nm,kd,ml⟩) 3)
  have q6:(Y5.upd ob (.cells (y73 ⟨nm,kd,ml⟩) 3)).get H.next=some (.cells [.s [],.s [],.sl none 0 0] 3):=by simp [hnn,q5]
  have X7:=X6.put (Nat.le_refl _) (X6.lt _ _ q6) (.cells (y73 ⟨nm,kd,ml⟩) 3)
  simp only [y73] at X7 q6 ⊢
  apply jA
  simp [y1q.r4,q6,hnn,q5]
  apply jD
  simp
  exact ⟨X7.fin,.refl _⟩
theorem RdFn_ok (hp:yav pool pv) (ht:t.length≤1000000000) (ho:y6y t σ) (C:RC t pv rid id σ H):
    AC Tryz.prog y5e [.p (some (rid,0,2))] H (fun v H'=>v=.agg (yaa (yj1 pool t σ).1)∧H'=H.upd id (.cells (rdc t (yj1 pool t σ).2) 3)):=by
  refine AC.codeU y1l.at y1l.ok C.hg (ycp _ _) (ybp (yg1 _)) fun hlt=>?_
  have X0:=(RX.start hlt C.hg).add (.cells [.s [],.s [],.s []] 3)
  have g0:(H.add (.cells [.s [],.s [],.s []] 3)).get H.next=some (.cells [.s [],.s [],.s []] 3):=by simp
  have hne:H.next≠id:=by have:=X0.hid;omega
  have n0:H.next<(H.add (.cells [.s [],.s [],.s []] 3)).next:=by simp
  simp only [y1l]
  apply jA
  simp [y1l.r0]
  generalize H.add (.cells [.s [],.s [],.s []] 3)=Y0 at *
  have C0:=X0.rc C
  unfold yj1
  dsimp only
  apply jA
  simp [y1l.r1]
  refine AC.fix (y7b hp ht ho C0) ?_
  have ho1:=y3u (pool:=pool) ho
  have X1a:=X0.upd (y31 pool t σ).2
  have q1a:(Y0.upd id (.cells (rdc t (y31 pool t σ).2) 3)).get H.next=some (.cells [.s [],.s [],.s []] 3):=by simp [hne,g0]
  have n1a:H.next<(Y0.upd id (.cells (rdc t (y31 pool t σ).2) 3)).next:=by simpa using n0
  generalize Y0.upd id (.cells (rdc t (y31 pool t σ).2) 3)=Y1a at *
  generalize (y31 pool t σ).1=nm at *
  generalize (y31 pool t σ).2=σ1 at *
  have hne2:Y1a.next≠id:=by have h:H.next≤Y1a.next:=X1a.ext.1;have:=X1a.hid;omega
  have hup:(Y1a.add (.cells [.s [],.s [],.s []] 3)).upd Y1a.next (.cells [.s nm,.s [],.s []] 3)=Y1a.add (.cells [.s nm,.s [],.s []] 3):=by
    refine Hp.ext' (fun j=>?_) rfl
    simp only [Hp.get_upd,Hp.get_add]
    split <;> rfl
  simp [hup]
  have X1:=X1a.add (.cells [.s nm,.s [],.s []] 3)
  have q1:(Y1a.add (.cells [.s nm,.s [],.s []] 3)).get H.next=some (.cells [.s [],.s [],.s []] 3):=by rw [Hp.get_add,if_neg (by omega)];exact q1a
  have g1:(Y1a.add (.cells [.s nm,.s [],.s []] 3)).get Y1a.next=some (.cells [.s nm,.s [],.s []] 3):=by simp
  have lo2:H.next≤Y1a.next:=by omega
  have hnn:H.next≠Y1a.next:=by omega
  generalize Y1a.add (.cells [.s nm,.s [],.s []] 3)=Y1 at *
  generalize Y1a.next=ob at *
  have C1:=X1.rc C
  apply jA
  simp [y1l.r2]
  refine AC.fix (y7b hp ht ho1 C1) ?_
  have ho2:=y3u (pool:=pool) ho1
  have X2a:=X1.upd (y31 pool t σ1).2
  have q2a:(Y1.upd id (.cells (rdc t (y31 pool t σ1).2) 3)).get H.next=some (.cells [.s [],.s [],.s []] 3):=by simp [hne,q1]
  have g2a:(Y1.upd id (.cells (rdc t (y31 pool t σ1).2) 3)).get ob=some (.cells [.s nm,.s [],.s []] 3):=by simp [hne2,g1]
  generalize Y1.upd id (.cells (rdc t (y31 pool t σ1).2) 3)=Y2a at *
  generalize (y31 pool t σ1).1=kd at *
  generalize (y31 pool t σ1).2=σ2 at *
  simp [g2a]
  have X2:=X2a.put lo2 (X2a.lt _ _ g2a) (.cells [.s nm,.s kd,.s []] 3)
  have g2:(Y2a.upd ob (.cells [.s nm,.s kd,.s []] 3)).get ob=some (.cells [.s nm,.s kd,.s []] 3):=by simp
  have q2:(Y2a.upd ob (.cells [.s nm,.s kd,.s []] 3)).get H.next=some (.cells [.s [],.s [],.s []] 3):=by simp [hnn,q2a]
  generalize Y2a.upd ob (.cells [.s nm,.s kd,.s []] 3)=Y2 at *
  have C2:=X2.rc C
  apply jA
  simp [y1l.r3]
  refine AC.fix (y7b hp ht ho2 C2) ?_
  have ho3:=y3u (pool:=pool) ho2
  have X3a:=X2.upd (y31 pool t σ2).2
  have q3a:(Y2.upd id (.cells (rdc t (y31 pool t σ2).2) 3)).get H.next=some (.cells [.s [],.s [],.s []] 3):=by simp [hne,q2]
  have g3a:(Y2.upd id (.cells (rdc t (y31 pool t σ2).2) 3)).get ob=some (.cells [.s nm,.s kd,.s []] 3):=by simp [hne2,g2]
  generalize Y2.upd id (.cells (rdc t (y31 pool t σ2).2) 3)=Y3a at *
  generalize (y31 pool t σ2).1=rt at *
  generalize (y31 pool t σ2).2=σ3 at *
  simp [g3a]
  have X3:=X3a.put lo2 (X3a.lt _ _ g3a) (.cells [.s nm,.s kd,.s rt] 3)
  have g3:(Y3a.upd ob (.cells [.s nm,.s kd,.s rt] 3)).get ob=some (.cells [.s nm,.s kd,.s rt] 3):=by simp
  have q3:(Y3a.upd ob (.cells [.s nm,.s kd,.s rt] 3)).get H.next=some (.cells [.s [],.s [],.s []] 3):=by simp [hnn,q3a]
  generalize Y3a.upd ob (.cells [.s nm,.s kd,.s rt] 3)=Y3 at *
  have XF:=X3.put (Nat.le_refl _) (X3.lt _ _ q3) (.cells [.s nm,.s kd,.s rt] 3)
  apply jA
  simp [y1l.r4,g3,q3]
  apply jD
  simp
  exact ⟨XF.fin,.refl _⟩
theorem RdCon_ok (hp:yav pool pv) (ht:t.length≤1000000000) (ho:y6y t σ) (C:RC t pv rid id σ H):
    AC Tryz.prog y71 [.p (some (rid,0,2))] H (fun v H'=>v=.agg (y85 (yc6 pool t σ).1)∧H'=H.upd id (.cells (rdc t (yc6 pool t σ).2) 3)):=by
  refine AC.codeU y1h.at y1h.ok C.hg (ycp _ _) (ybp (yg8 _)) fun hlt=>?_
  have X0:=(RX.start hlt C.hg).add (.cells [.i .i64 0,.s [],.s [],.i .i64 0,.s [],.sl none 0 0] 6)
  have g0:(H.add (.cells [.i .i64 0,.s [],.s [],.i .i64 0,.s [],.sl none 0 0] 6)).get H.next=some (.cells [.i .i64 0,.s [],.s [],.i .i64 0,.s [],.sl none 0 0] 6):=by simp
  have hne:H.next≠id:=by have:=X0.hid;omega
  have n0:H.next<(H.add (.cells [.i .i64 0,.s [],.s [],.i .i64 0,.s [],.sl none 0 0] 6)).next:=by simp
  simp only [y1h]
  apply jA
  simp [y1h.r0]
  generalize H.add (.cells [.i .i64 0,.s [],.s [],.i .i64 0,.s [],.sl none 0 0] 6)=Y0 at *
  have C0:=X0.rc C
  unfold yc6
  dsimp only
  apply jA
  simp [y1h.r1,C0.hr]
  refine AC.fix (y7j ho (by omega) C0.hg) ?_
  have ho1:=(y5d ho).1
  have X1a:=X0.upd (y3f t σ).2
  have q1a:(Y0.upd id (.cells (rdc t (y3f t σ).2) 3)).get H.next=some (.cells [.i .i64 0,.s [],.s [],.i .i64 0,.s [],.sl none 0 0] 6):=by simp [hne,g0]
  have n1a:H.next<(Y0.upd id (.cells (rdc t (y3f t σ).2) 3)).next:=by simpa using n0
  generalize Y0.upd id (.cells (rdc t (y3f t σ).2) 3)=Y1a at *
  generalize (y3f t σ).1=op at *
  generalize (y3f t σ).2=σ1 at *
  have hne2:Y1a.next≠id:=by have h:H.next≤Y1a.next:=X1a.ext.1;have:=X1a.hid;omega
  have hup:(Y1a.add (.cells [.i .i64 0,.s [],.s [],.i .i64 0,.s [],.sl none 0 0] 6)).upd Y1a.next (.cells [.i .i64 (op:Nat),.s [],.s [],.i .i64 0,.s [],.sl none 0 0] 6)=Y1a.add (.cells [.i .i64 (op:Nat),.s [],.s [],.i .i64 0,.s [],.sl none 0 0] 6):=by
    refine Hp.ext' (fun j=>?_) rfl
    simp only [Hp.get_upd,Hp.get_add]
    split <;> rfl
  simp [hup]
  have X1:=X1a.add (.cells [.i .i64 (op:Nat),.s [],.s [],.i .i64 0,.s [],.sl none 0 0] 6)
  have q1:(Y1a.add (.cells [.i .i64 (op:Nat),.s [],.s [],.i .i64 0,.s [],.sl none 0 0] 6)).get H.next=some (.cells [.i .i64 0,.s [],.s [],.i .i64 0,.s [],.sl none 0 0] 6):=by rw [Hp.get_add,if_neg (by omega)];exact q1a
  have g1:(Y1a.add (.cells [.i .i64 (op:Nat),.s [],.s [],.i .i64 0,.s [],.sl none 0 0] 6)).get Y1a.next=some (.cells [.i .i64 (op:Nat),.s [],.s [],.i .i64 0,.s [],.sl none 0 0] 6):=by simp
  have lo2:H.next≤Y1a.next:=by omega
  have hnn:H.next≠Y1a.next:=by omega
  generalize Y1a.add (.cells [.i .i64 (op:Nat),.s [],.s [],.i .i64 0,.s [],.sl none 0 0] 6)=Y1 at *
  generalize Y1a.next=ob at *
  have C1:=X1.rc C
  apply jA
  simp [y1h.r2]
  refine AC.fix (y7b hp ht ho1 C1) ?_
  have ho2:=y3u (pool:=pool) ho1
  have X2a:=X1.upd (y31 pool t σ1).2
  have q2a:(Y1.upd id (.cells (rdc t (y31 pool t σ1).2) 3)).get H.next=some (.cells [.i .i64 0,.s [],.s [],.i .i64 0,.s [],.sl none 0 0] 6):=by simp [hne,q1]
  have g2a:(Y1.upd id (.cells (rdc t (y31 pool t σ1).2) 3)).get ob=some (.cells [.i .i64 (op:Nat),.s [],.s [],.i .i64 0,.s [],.sl none 0 0] 6):=by simp [hne2,g1]
  generalize Y1.upd id (.cells (rdc t (y31 pool t σ1).2) 3)=Y2a at *
  generalize (y31 pool t σ1).1=a at *
  generalize (y31 pool t σ1).2=σ2 at *
  simp [g2a]
  have X2:=X2a.put lo2 (X2a.lt _ _ g2a) (.cells [.i .i64 (op:Nat),.s a,.s [],.i .i64 0,.s [],.sl none 0 0] 6)
  have g2:(Y2a.upd ob (.cells [.i .i64 (op:Nat),.s a,.s [],.i .i64 0,.s [],.sl none 0 0] 6)).get ob=some (.cells [.i .i64 (op:Nat),.s a,.s [],.i .i64 0,.s [],.sl none 0 0] 6):=by simp
  have q2:(Y2a.upd ob (.cells [.i .i64 (op:Nat),.s a,.s [],.i .i64 0,.s [],.sl none 0 0] 6)).get H.next=some (.cells [.i .i64 0,.s [],.s [],.i .i64 0,.s [],.sl none 0 0] 6):=by simp [hnn,q2a]
  generalize Y2a.upd ob (.cells [.i .i64 (op:Nat),.s a,.s [],.i .i64 0,.s [],.sl none 0 0] 6)=Y2 at *
  have C2:=X2.rc C
  apply jA
  simp [y1h.r3]
  refine AC.fix (y7b hp ht ho2 C2) ?_
  have ho3:=y3u (pool:=pool) ho2
  have X3a:=X2.upd (y31 pool t σ2).2
  have q3a:(Y2.upd id (.cells (rdc t (y31 pool t σ2).2) 3)).get H.next=some (.cells [.i .i64 0,.s [],.s [],.i .i64 0,.s [],.sl none 0 0] 6):=by simp [hne,q2]
  have g3a:(Y2.upd id (.cells (rdc t (y31 pool t σ2).2) 3)).get ob=some (.cells [.i .i64 (op:Nat),.s a,.s [],.i .i64 0,.s [],.sl none 0 0] 6):=by simp [hne2,g2]
  generalize Y2.upd id (.cells (rdc t (y31 pool t σ2).2) 3)=Y3a at *
  generalize (y31 pool t σ2).1=b at *
  generalize (y31 pool t σ2).2=σ3 at *
  simp [g3a]
  have X3:=X3a.put lo2 (X3a.lt _ _ g3a) (.cells [.i .i64 (op:Nat),.s a,.s b,.i .i64 0,.s [],.sl none 0 0] 6)
  have g3:(Y3a.upd ob (.cells [.i .i64 (op:Nat),.s a,.s b,.i .i64 0,.s [],.sl none 0 0] 6)).get ob=some (.cells [.i .i64 (op:Nat),.s a,.s b,.i .i64 0,.s [],.sl none 0 0] 6):=by simp
  have q3:(Y3a.upd ob (.cells [.i .i64 (op:Nat),.s a,.s b,.i .i64 0,.s [],.sl none 0 0] 6)).get H.next=some (.cells [.i .i64 0,.s [],.s [],.i .i64 0,.s [],.sl none 0 0] 6):=by simp [hnn,q3a]
  generalize Y3a.upd ob (.cells [.i .i64 (op:Nat),.s a,.s b,.i .i64 0,.s [],.sl none 0 0] 6)=Y3 at *
  have C3:=X3.rc C
  apply jA
  simp [y1h.r4,C3.hr]
  refine AC.fix (y7j ho3 (by omega) C3.hg) ?_
  have ho4:=(y5d ho3).1
  have X4a:=X3.upd (y3f t σ3).2
  have q4a:(Y3.upd id (.cells (rdc t (y3f t σ3).2) 3)).get H.next=some (.cells [.i .i64 0,.s [],.s [],.i .i64 0,.s [],.sl none 0 0] 6):=by simp [hne,q3]
  have g4a:(Y3.upd id (.cells (rdc t (y3f t σ3).2) 3)).get ob=some (.cells [.i .i64 (op:Nat),.s a,.s b,.i .i64 0,.s [],.sl none 0 0] 6):=by simp [hne2,g3]
  generalize Y3.upd id (.cells (rdc t (y3f t σ3).2) 3)=Y4a at *
  generalize (y3f t σ3).1=kk at *
  generalize (y3f t σ3).2=σ4 at *
  simp [g4a]
  have X4:=X4a.put lo2 (X4a.lt _ _ g4a) (.cells [.i .i64 (op:Nat),.s a,.s b,.i .i64 (kk:Nat),.s [],.sl none 0 0] 6)
  have g4:(Y4a.upd ob (.cells [.i .i64 (op:Nat),.s a,.s b,.i .i64 (kk:Nat),.s [],.sl none 0 0] 6)).get ob=some (.cells [.i .i64 (op:Nat),.s a,.s b,.i .i64 (kk:Nat),.s [],.sl none 0 0] 6):=by simp
  have q4:(Y4a.upd ob (.cells [.i .i64 (op:Nat),.s a,.s b,.i .i64 (kk:Nat),.s [],.sl none 0 0] 6)).get H.next=some (.cells [.i .i64 0,.s [],.s [],.i .i64 0,.s [],.sl none 0 0] 6):=by simp [hnn,q4a]
  generalize Y4a.upd ob (.cells [.i .i64 (op:Nat),.s a,.s b,.i .i64 (kk:Nat),.s [],.sl none 0 0] 6)=Y4 at *
  have C4:=X4.rc C
  apply jA
  simp [y1h.r5]
  refine AC.fix (y7b hp ht ho4 C4) ?_
  have ho5:=y3u (pool:=pool) ho4
  have X5a:=X4.upd (y31 pool t σ4).2
  have q5a:(Y4.upd id (.cells (rdc t (y31 pool t σ4).2) 3)).get H.next=some (.cells [.i .i64 0,.s [],.s [],.i .i64 0,.s [],.sl none 0 0] 6):=by simp [hne,q4]
  have g5a:(Y4.upd id (.cells (rdc t (y31 pool t σ4).2) 3)).get ob=some (.cells [.i .i64 (op:Nat),.s a,.s b,.i .i64 (kk:Nat),.s [],.sl none 0 0] 6):=by simp [hne2,g4]
  generalize Y4.upd id (.cells (rdc t (y31 pool t σ4).2) 3)=Y5a at *
  generalize (y31 pool t σ4).1=tg at *
  generalize (y31 pool t σ4).2=σ5 at *
  simp [g5a]
  have X5:=X5a.put lo2 (X5a.lt _ _ g5a) (.cells [.i .i64 (op:Nat),.s a,.s b,.i .i64 (kk:Nat),.s tg,.sl none 0 0] 6)
  have g5:(Y5a.upd ob (.cells [.i .i64 (op:Nat),.s a,.s b,.i .i64 (kk:Nat),.s tg,.sl none 0 0] 6)).get ob=some (.cells [.i .i64 (op:Nat),.s a,.s b,.i .i64 (kk:Nat),.s tg,.sl none 0 0] 6):=by simp
  have q5:(Y5a.upd ob (.cells [.i .i64 (op:Nat),.s a,.s b,.i .i64 (kk:Nat),.s tg,.sl none 0 0] 6)).get H.next=some (.cells [.i .i64 0,.s [],.s [],.i .i64 0,.s [],.sl none 0 0] 6):=by simp [hnn,q5a]
  generalize Y5a.upd ob (.cells [.i .i64 (op:Nat),.s a,.s b,.i .i64 (kk:Nat),.s tg,.sl none 0 0] 6)=Y5 at *
  have C5:=X5.rc C
  apply jA
  simp [y1h.r6]
  refine AC.fix (y9g (y31 pool t) V.s (fun x=>[.s x]) 1 16 [.s []] (fun _=>rfl) (fun _=>rfl) rfl (by omega) (by omega) (fun _=>rfl) (fun x v hv=>by simp at hv;subst hv;exact yah _) yd.at yd.ok (.fb y28 [.p (some (rid,0,2))]) (fun _ h=>y3u h)
    (fun σ X o c=>by simpa using y7b hp ht o c) ht ho5 C5) ?_
  have X6a:=X5.upd (y30 t (y31 pool t) σ5).2
  have q6a:(Y5.upd id (.cells (rdc t (y30 t (y31 pool t) σ5).2) 3)).get H.next=some (.cells [.i .i64 0,.s [],.s [],.i .i64 0,.s [],.sl none 0 0] 6):=by simp [hne,q5]
  have g6a:(Y5.upd id (.cells (rdc t (y30 t (y31 pool t) σ5).2) 3)).get ob=some (.cells [.i .i64 (op:Nat),.s a,.s b,.i .i64 (kk:Nat),.s tg,.sl none 0 0] 6):=by simp [hne2,g5]
  generalize Y5.upd id (.cells (rdc t (y30 t (y31 pool t) σ5).2) 3)=Y6a at *
  generalize (y30 t (y31 pool t) σ5).1=al at *
  generalize (y30 t (y31 pool t) σ5).2=σ6 at *
  simp [g6a]
  have X6:=X6a.put lo2 (X6a.lt _ _ g6a) (.cells [.i .i64 (op:Nat),.s a,.s b,.i .i64 (kk:Nat),.s tg,.fs (al.map fun x=>[.s x])] 6)
  have g6:(Y6a.upd ob (.cells [.i .i64 (op:Nat),.s a,.s b,.i .i64 (kk:Nat),.s tg,.fs (al.map fun x=>[.s x])] 6)).get ob=some (.cells [.i .i64 (op:Nat),.s a,.s b,.i .i64 (kk:Nat),.s tg,.fs (al.map fun x=>[.s x])] 6):=by simp
  have q6:(Y6a.upd ob (.cells [.i .i64 (op:Nat),.s a,.s b,.i .i64 (kk:Nat),.s tg,.fs (al.map fun x=>[.s x])] 6)).get H.next=some (.cells [.i .i64 0,.s [],.s [],.i .i64 0,.s [],.sl none 0 0] 6):=by simp [hnn,q6a]
  generalize Y6a.upd ob (.cells [.i .i64 (op:Nat),.s a,.s b,.i .i64 (kk:Nat),.s tg,.fs (al.map fun x=>[.s x])] 6)=Y6 at *
  have XF:=X6.put (Nat.le_refl _) (X6.lt _ _ q6) (.cells [.i .i64 (op:Nat),.s a,.s b,.i .i64 (kk:Nat),.s tg,.fs (al.map fun x=>[.s x])] 6)
  apply jA
  simp [y1h.r7,g6,q6]
  apply jD
  simp
  exact ⟨XF.fin,.refl _⟩
end
end Go.Proofs.YthmkcebbeehbeaaGreatDoor
