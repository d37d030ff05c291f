/- Part 41. -/
import Derived.Test.YthmkcebbeehbeaaGreatDoorXGw29
import Derived.Test.YthmkcebbeehbeaaGreatDoorXGw40
set_option linter.unusedSimpArgs false
set_option linter.unusedVariables false
namespace Go.Proofs.YthmkcebbeehbeaaGreatDoor
open Am C
theorem ykc (m:Mk):∀v∈ycm m,yey v:=fun v hv=>by simp [ycm] at hv;rcases hv with rfl | rfl;exact yi4 _ _;exact ydk _
theorem yhw (o:Ob):∀v∈y62 o,yey v:=fun v hv=>by
 simp [y62] at hv
 rcases hv with rfl | rfl | rfl
 ·exact ydk _
 ·exact ydk _
 ·exact yg8 fun e he v hv=>by obtain ⟨m,_,rfl⟩:=List.mem_map.1 he;exact ykc m v hv
theorem ykg (f:Fu):∀v∈y9n f,yey v:=fun v hv=>by simp [y9n] at hv;rcases hv with rfl | rfl | rfl <;> exact ydk _
theorem ykm (c:Cn):∀v∈y6i c,yey v:=fun v hv=>by
 simp [y6i] at hv
 rcases hv with rfl | rfl | rfl | rfl | rfl | rfl
 ·exact yi4 _ _
 ·exact ydk _
 ·exact ydk _
 ·exact yi4 _ _
 ·exact ydk _
 ·exact ycp _
theorem yhr (s:Su):∀v∈y61 s,yey v:=fun v hv=>by
 simp [y61] at hv
 rcases hv with rfl | rfl | rfl | rfl | rfl | rfl | rfl
 ·exact ydk _
 ·exact ycp _
 ·exact ycp _
 ·exact ycp _
 ·exact yg8 fun e he v hv=>by obtain ⟨m,_,rfl⟩:=List.mem_map.1 he;exact yhw m v hv
 ·exact yg8 fun e he v hv=>by obtain ⟨m,_,rfl⟩:=List.mem_map.1 he;exact ykg m v hv
 ·exact yg8 fun e he v hv=>by obtain ⟨m,_,rfl⟩:=List.mem_map.1 he;exact ykm m v hv
section
variable {t:Str} {pv:V} {rid id:Nat} {σ:Rd} {X Y H:Hp} {pool:List Str}
theorem RX.put (R:RX H id t σ X) {k:Nat} (hk:H.next≤k) (hx:k<X.next) (b:Blk):RX H id t σ (X.upd k b):=
 ⟨R.ext.upd R.dlt hk b,Hp.upd_lt R.lt hx b,by rw [Hp.get_upd,if_neg (by have:=R.hid;omega)];exact R.get,R.hlt,R.hid⟩
theorem RX.add (R:RX H id t σ X) (b:Blk):RX H id t σ (X.add b):=R.more (.add R.lt b) (Hp.add_lt R.lt b)
theorem ywx (hp:yf1 pool pv) (ht:t.length≤1000000000) (ho:y7q t σ) (C:RC t pv rid id σ H):
  AC Tryz.prog y97 [.p (some (rid,0,2))] H (fun v H'=>v=.agg (ycm (ybj pool t σ).1)∧H'=H.upd id (.cells (rdc t (ybj pool t σ).2) 3)):=by
 refine AC.codeU y3z.at y3z.ok C.hg (ydo _ _) (yct (ykc _)) fun hlt=>?_
 have X0:=(RX.start hlt C.hg).add (.cells [.i .i64 0,.s []] 2)
 have g0:(H.add (.cells [.i .i64 0,.s []] 2)).get H.next=some (.cells [.i .i64 0,.s []] 2):=by simp
 have hne:H.next≠id:=by have:=X0.hid;omega
 simp only [y3z]
 apply jA
 simp [y3z.r0]
 generalize H.add (.cells [.i .i64 0,.s []] 2)=Y0 at *
 have C0:=X0.rc C
 apply jA
 simp [y3z.r1,C0.hr]
 refine AC.fix (y9o ho (by omega) C0.hg) ?_
 have ho1:=(y6d ho).1
 have X1:=X0.upd (y33 t σ).2
 have g1:(Y0.upd id (.cells (rdc t (y33 t σ).2) 3)).get H.next=some (.cells [.i .i64 0,.s []] 2):=by simp [hne,g0]
 generalize Y0.upd id (.cells (rdc t (y33 t σ).2) 3)=Y1 at *
 have C1:=X1.rc C
 simp
 apply jA
 simp [y3z.r2]
 refine AC.fix (ya1 hp ht ho1 C1) ?_
 have X2:=X1.upd (y2e pool t (y33 t σ).2).2
 have g2:(Y1.upd id (.cells (rdc t (y2e pool t (y33 t σ).2).2) 3)).get H.next=some (.cells [.i .i64 0,.s []] 2):=by simp [hne,g1]
 generalize Y1.upd id (.cells (rdc t (y2e pool t (y33 t σ).2).2) 3)=Y2 at *
 have X3:=X2.put (kF H.next) (X2.lt _ _ g2) (.cells (ycm (ybj pool t σ).1) 2)
 simp [g2]
 apply jD
 simp
 exact ⟨X3.fin,.refl _⟩
theorem RdObj_ok (hp:yf1 pool pv) (ht:t.length≤1000000000) (ho:y7q t σ) (C:RC t pv rid id σ H):
  AC Tryz.prog y8c [.p (some (rid,0,2))] H (fun v H'=>v=.agg (y62 (yc3 pool t σ).1)∧H'=H.upd id (.cells (rdc t (yc3 pool t σ).2) 3)):=by
 refine AC.codeU y2q.at y2q.ok C.hg (ydo _ _) (yct (yhw _)) fun hlt=>?_
 have X0:=(RX.start hlt C.hg).add (.cells [.s [],.s [],.sl none 0 0] 3)
 have g0:(H.add (.cells [.s [],.s [],.sl none 0 0] 3)).get H.next=some (.cells [.s [],.s [],.sl none 0 0] 3):=by simp
 have hne:H.next≠id:=by have:=X0.hid;omega
 have n0:H.next<(H.add (.cells [.s [],.s [],.sl none 0 0] 3)).next:=by simp
 simp only [y2q]
 apply jA
 simp [y2q.r0]
 generalize H.add (.cells [.s [],.s [],.sl none 0 0] 3)=Y0 at *
 have C0:=X0.rc C
 apply jA
 simp [y2q.r1]
 refine AC.fix (ya1 hp ht ho C0) ?_
 have ho1:=y47 (pool:=pool) ho
 have X1:=X0.upd (y2e pool t σ).2
 have g1:(Y0.upd id (.cells (rdc t (y2e pool t σ).2) 3)).get H.next=some (.cells [.s [],.s [],.sl none 0 0] 3):=by simp [hne,g0]
 have n1:H.next<(Y0.upd id (.cells (rdc t (y2e pool t σ).2) 3)).next:=by simpa using n0
 unfold yc3
 dsimp only
 generalize Y0.upd id (.cells (rdc t (y2e pool t σ).2) 3)=Y1 at *
 generalize (y2e pool t σ).1=nm at *
 generalize (y2e pool t σ).2=σ1 at *
 have hne2:Y1.next≠id:=by have h:H.next≤Y1.next:=X1.ext.1;have:=X1.hid;omega
 have hup:(Y1.add (.cells [.s [],.s [],.sl none 0 0] 3)).upd Y1.next (.cells [.s nm,.s [],.sl none 0 0] 3)=Y1.add (.cells [.s nm,.s [],.sl none 0 0] 3):=by
  refine Hp.ext' (fun j=>?_) rfl
  simp only [Hp.get_upd,Hp.get_add]
  split <;> rfl
 simp [hup]
 have X2:=X1.add (.cells [.s nm,.s [],.sl none 0 0] 3)
 have q2:(Y1.add (.cells [.s nm,.s [],.sl none 0 0] 3)).get H.next=some (.cells [.s [],.s [],.sl none 0 0] 3):=by rw [Hp.get_add,if_neg (by omega)];exact g1
 have g2:(Y1.add (.cells [.s nm,.s [],.sl none 0 0] 3)).get Y1.next=some (.cells [.s nm,.s [],.sl none 0 0] 3):=by simp
 have lo2:H.next≤Y1.next:=by omega
 have hnn:H.next≠Y1.next:=by omega
 generalize Y1.add (.cells [.s nm,.s [],.sl none 0 0] 3)=Y2 at *
 generalize Y1.next=ob at *
 have C2:=X2.rc C
 apply jA
 simp [y2q.r2]
 refine AC.fix (ya1 hp ht ho1 C2) ?_
 have ho3:=y47 (pool:=pool) ho1
 have X3:=X2.upd (y2e pool t σ1).2
 have g3:(Y2.upd id (.cells (rdc t (y2e pool t σ1).2) 3)).get ob=some (.cells [.s nm,.s [],.sl none 0 0] 3):=by simp [hne2,g2]
 have q3:(Y2.upd id (.cells (rdc t (y2e pool t σ1).2) 3)).get H.next=some (.cells [.s [],.s [],.sl none 0 0] 3):=by simp [hne,q2]
 generalize Y2.upd id (.cells (rdc t (y2e pool t σ1).2) 3)=Y3 at *
 generalize (y2e pool t σ1).1=kd at *
 generalize (y2e pool t σ1).2=σ3 at *
 simp [g3]
 have X4:=X3.put lo2 (X3.lt _ _ g3) (.cells [.s nm,.s kd,.sl none 0 0] 3)
 have g4:(Y3.upd ob (.cells [.s nm,.s kd,.sl none 0 0] 3)).get ob=some (.cells [.s nm,.s kd,.sl none 0 0] 3):=by simp
 have q4:(Y3.upd ob (.cells [.s nm,.s kd,.sl none 0 0] 3)).get H.next=some (.cells [.s [],.s [],.sl none 0 0] 3):=by simp [hnn,q3]
 generalize Y3.upd ob (.cells [.s nm,.s kd,.sl none 0 0] 3)=Y4 at *
 have C4:=X4.rc C
 apply jA
 simp [y2q.r3]
 refine AC.fix (yd5 (ybj pool t) (fun m=>.agg (ycm m)) ycm 2 24 [.i .i64 0,.s []] (fun _=>rfl) (fun _=>rfl) rfl (by omega) (by omega) (fun _=>rfl) ykc y1w.at y1w.ok (.fb y97 [.p (some (rid,0,2))]) (fun _ h=>yk2 h)
  (fun σ X o c=>by simpa using ywx hp ht o c) ht ho3 C4) ?_
 have X5:=X4.upd (y3j t (ybj pool t) σ3).2
 have g5:(Y4.upd id (.cells (rdc t (y3j t (ybj pool t) σ3).2) 3)).get ob=some (.cells [.s nm,.s kd,.sl none 0 0] 3):=by simp [hne2,g4]
 have q5:(Y4.upd id (.cells (rdc t (y3j t (ybj pool t) σ3).2) 3)).get H.next=some (.cells [.s [],.s [],.sl none 0 0] 3):=by simp [hne,q4]
 generalize Y4.upd id (.cells (rdc t (y3j t (ybj pool t) σ3).2) 3)=Y5 at *
 generalize (y3j t (ybj pool t) σ3).1=ml at *
 generalize (y3j t (ybj pool t) σ3).2=σ5 at *
 simp [g5]
 have X6:=X5.put lo2 (X5.lt _ _ g5) (.cells (y62 ⟨nm,kd,ml⟩) 3)
 have q6:(Y5.upd ob (.cells (y62 ⟨nm,kd,ml⟩) 3)).get H.next=some (.cells [.s [],.s [],.sl none 0 0] 3):=by simp [hnn,q5]
 have X7:=X6.put (kF _) (X6.lt _ _ q6) (.cells (y62 ⟨nm,kd,ml⟩) 3)
 simp only [y62] at X7 q6 ⊢
 apply jA
 simp [y2q.r4,q6,hnn,q5]
 apply jD
 simp
 exact ⟨X7.fin,.refl _⟩
theorem RdFn_ok (hp:yf1 pool pv) (ht:t.length≤1000000000) (ho:y7q t σ) (C:RC t pv rid id σ H):
  AC Tryz.prog y7h [.p (some (rid,0,2))] H (fun v H'=>v=.agg (y9n (yli pool t σ).1)∧H'=H.upd id (.cells (rdc t (yli pool t σ).2) 3)):=by
 refine AC.codeU y2j.at y2j.ok C.hg (ydo _ _) (yct (ykg _)) fun hlt=>?_
 have X0:=(RX.start hlt C.hg).add (.cells [.s [],.s [],.s []] 3)
 have g0:(H.add (.cells [.s [],.s [],.s []] 3)).get H.next=some (.cells [.s [],.s [],.s []] 3):=by simp
 have hne:H.next≠id:=by have:=X0.hid;omega
 have n0:H.next<(H.add (.cells [.s [],.s [],.s []] 3)).next:=by simp
 simp only [y2j]
 apply jA
 simp [y2j.r0]
 generalize H.add (.cells [.s [],.s [],.s []] 3)=Y0 at *
 have C0:=X0.rc C
 unfold yli
 dsimp only
 apply jA
 simp [y2j.r1]
 refine AC.fix (ya1 hp ht ho C0) ?_
 have ho1:=y47 (pool:=pool) ho
 have X1a:=X0.upd (y2e pool t σ).2
 have q1a:(Y0.upd id (.cells (rdc t (y2e pool t σ).2) 3)).get H.next=some (.cells [.s [],.s [],.s []] 3):=by simp [hne,g0]
 have n1a:H.next<(Y0.upd id (.cells (rdc t (y2e pool t σ).2) 3)).next:=by simpa using n0
 generalize Y0.upd id (.cells (rdc t (y2e pool t σ).2) 3)=Y1a at *
 generalize (y2e pool t σ).1=nm at *
 generalize (y2e pool t σ).2=σ1 at *
 have hne2:Y1a.next≠id:=by have h:H.next≤Y1a.next:=X1a.ext.1;have:=X1a.hid;omega
 have hup:(Y1a.add (.cells [.s [],.s [],.s []] 3)).upd Y1a.next (.cells [.s nm,.s [],.s []] 3)=Y1a.add (.cells [.s nm,.s [],.s []] 3):=by
  refine Hp.ext' (fun j=>?_) rfl
  simp only [Hp.get_upd,Hp.get_add]
  split <;> rfl
 simp [hup]
 have X1:=X1a.add (.cells [.s nm,.s [],.s []] 3)
 have q1:(Y1a.add (.cells [.s nm,.s [],.s []] 3)).get H.next=some (.cells [.s [],.s [],.s []] 3):=by rw [Hp.get_add,if_neg (by omega)];exact q1a
 have g1:(Y1a.add (.cells [.s nm,.s [],.s []] 3)).get Y1a.next=some (.cells [.s nm,.s [],.s []] 3):=by simp
 have lo2:H.next≤Y1a.next:=by omega
 have hnn:H.next≠Y1a.next:=by omega
 generalize Y1a.add (.cells [.s nm,.s [],.s []] 3)=Y1 at *
 generalize Y1a.next=ob at *
 have C1:=X1.rc C
 apply jA
 simp [y2j.r2]
 refine AC.fix (ya1 hp ht ho1 C1) ?_
 have ho2:=y47 (pool:=pool) ho1
 have X2a:=X1.upd (y2e pool t σ1).2
 have q2a:(Y1.upd id (.cells (rdc t (y2e pool t σ1).2) 3)).get H.next=some (.cells [.s [],.s [],.s []] 3):=by simp [hne,q1]
 have g2a:(Y1.upd id (.cells (rdc t (y2e pool t σ1).2) 3)).get ob=some (.cells [.s nm,.s [],.s []] 3):=by simp [hne2,g1]
 generalize Y1.upd id (.cells (rdc t (y2e pool t σ1).2) 3)=Y2a at *
 generalize (y2e pool t σ1).1=kd at *
 generalize (y2e pool t σ1).2=σ2 at *
 simp [g2a]
 have X2:=X2a.put lo2 (X2a.lt _ _ g2a) (.cells [.s nm,.s kd,.s []] 3)
 have g2:(Y2a.upd ob (.cells [.s nm,.s kd,.s []] 3)).get ob=some (.cells [.s nm,.s kd,.s []] 3):=by simp
 have q2:(Y2a.upd ob (.cells [.s nm,.s kd,.s []] 3)).get H.next=some (.cells [.s [],.s [],.s []] 3):=by simp [hnn,q2a]
 generalize Y2a.upd ob (.cells [.s nm,.s kd,.s []] 3)=Y2 at *
 have C2:=X2.rc C
 apply jA
 simp [y2j.r3]
 refine AC.fix (ya1 hp ht ho2 C2) ?_
 have ho3:=y47 (pool:=pool) ho2
 have X3a:=X2.upd (y2e pool t σ2).2
 have q3a:(Y2.upd id (.cells (rdc t (y2e pool t σ2).2) 3)).get H.next=some (.cells [.s [],.s [],.s []] 3):=by simp [hne,q2]
 have g3a:(Y2.upd id (.cells (rdc t (y2e pool t σ2).2) 3)).get ob=some (.cells [.s nm,.s kd,.s []] 3):=by simp [hne2,g2]
 generalize Y2.upd id (.cells (rdc t (y2e pool t σ2).2) 3)=Y3a at *
 generalize (y2e pool t σ2).1=rt at *
 generalize (y2e pool t σ2).2=σ3 at *
 simp [g3a]
 have X3:=X3a.put lo2 (X3a.lt _ _ g3a) (.cells [.s nm,.s kd,.s rt] 3)
 have g3:(Y3a.upd ob (.cells [.s nm,.s kd,.s rt] 3)).get ob=some (.cells [.s nm,.s kd,.s rt] 3):=by simp
 have q3:(Y3a.upd ob (.cells [.s nm,.s kd,.s rt] 3)).get H.next=some (.cells [.s [],.s [],.s []] 3):=by simp [hnn,q3a]
 generalize Y3a.upd ob (.cells [.s nm,.s kd,.s rt] 3)=Y3 at *
 have XF:=X3.put (kF _) (X3.lt _ _ q3) (.cells [.s nm,.s kd,.s rt] 3)
 apply jA
 simp [y2j.r4,g3,q3]
 apply jD
 simp
 exact ⟨XF.fin,.refl _⟩
theorem RdCon_ok (hp:yf1 pool pv) (ht:t.length≤1000000000) (ho:y7q t σ) (C:RC t pv rid id σ H):
  AC Tryz.prog y9m [.p (some (rid,0,2))] H (fun v H'=>v=.agg (y6i (yf7 pool t σ).1)∧H'=H.upd id (.cells (rdc t (yf7 pool t σ).2) 3)):=by
 refine AC.codeU y28.at y28.ok C.hg (ydo _ _) (yct (ykm _)) fun hlt=>?_
 have X0:=(RX.start hlt C.hg).add (.cells [.i .i64 0,.s [],.s [],.i .i64 0,.s [],.sl none 0 0] 6)
 have g0:(H.add (.cells [.i .i64 0,.s [],.s [],.i .i64 0,.s [],.sl none 0 0] 6)).get H.next=some (.cells [.i .i64 0,.s [],.s [],.i .i64 0,.s [],.sl none 0 0] 6):=by simp
 have hne:H.next≠id:=by have:=X0.hid;omega
 have n0:H.next<(H.add (.cells [.i .i64 0,.s [],.s [],.i .i64 0,.s [],.sl none 0 0] 6)).next:=by simp
 simp only [y28]
 apply jA
 simp [y28.r0]
 generalize H.add (.cells [.i .i64 0,.s [],.s [],.i .i64 0,.s [],.sl none 0 0] 6)=Y0 at *
 have C0:=X0.rc C
 unfold yf7
 dsimp only
 apply jA
 simp [y28.r1,C0.hr]
 refine AC.fix (y9o ho (by omega) C0.hg) ?_
 have ho1:=(y6d ho).1
 have X1a:=X0.upd (y33 t σ).2
 have q1a:(Y0.upd id (.cells (rdc t (y33 t σ).2) 3)).get H.next=some (.cells [.i .i64 0,.s [],.s [],.i .i64 0,.s [],.sl none 0 0] 6):=by simp [hne,g0]
 have n1a:H.next<(Y0.upd id (.cells (rdc t (y33 t σ).2) 3)).next:=by simpa using n0
 generalize Y0.upd id (.cells (rdc t (y33 t σ).2) 3)=Y1a at *
 generalize (y33 t σ).1=op at *
 generalize (y33 t σ).2=σ1 at *
 have hne2:Y1a.next≠id:=by have h:H.next≤Y1a.next:=X1a.ext.1;have:=X1a.hid;omega
 have hup:(Y1a.add (.cells [.i .i64 0,.s [],.s [],.i .i64 0,.s [],.sl none 0 0] 6)).upd Y1a.next (.cells [.i .i64 (op:Nat),.s [],.s [],.i .i64 0,.s [],.sl none 0 0] 6)=Y1a.add (.cells [.i .i64 (op:Nat),.s [],.s [],.i .i64 0,.s [],.sl none 0 0] 6):=by
  refine Hp.ext' (fun j=>?_) rfl
  simp only [Hp.get_upd,Hp.get_add]
  split <;> rfl
 simp [hup]
 have X1:=X1a.add (.cells [.i .i64 (op:Nat),.s [],.s [],.i .i64 0,.s [],.sl none 0 0] 6)
 have q1:(Y1a.add (.cells [.i .i64 (op:Nat),.s [],.s [],.i .i64 0,.s [],.sl none 0 0] 6)).get H.next=some (.cells [.i .i64 0,.s [],.s [],.i .i64 0,.s [],.sl none 0 0] 6):=by rw [Hp.get_add,if_neg (by omega)];exact q1a
 have g1:(Y1a.add (.cells [.i .i64 (op:Nat),.s [],.s [],.i .i64 0,.s [],.sl none 0 0] 6)).get Y1a.next=some (.cells [.i .i64 (op:Nat),.s [],.s [],.i .i64 0,.s [],.sl none 0 0] 6):=by simp
 have lo2:H.next≤Y1a.next:=by omega
 have hnn:H.next≠Y1a.next:=by omega
 generalize Y1a.add (.cells [.i .i64 (op:Nat),.s [],.s [],.i .i64 0,.s [],.sl none 0 0] 6)=Y1 at *
 generalize Y1a.next=ob at *
 have C1:=X1.rc C
 apply jA
 simp [y28.r2]
 refine AC.fix (ya1 hp ht ho1 C1) ?_
 have ho2:=y47 (pool:=pool) ho1
 have X2a:=X1.upd (y2e pool t σ1).2
 have q2a:(Y1.upd id (.cells (rdc t (y2e pool t σ1).2) 3)).get H.next=some (.cells [.i .i64 0,.s [],.s [],.i .i64 0,.s [],.sl none 0 0] 6):=by simp [hne,q1]
 have g2a:(Y1.upd id (.cells (rdc t (y2e pool t σ1).2) 3)).get ob=some (.cells [.i .i64 (op:Nat),.s [],.s [],.i .i64 0,.s [],.sl none 0 0] 6):=by simp [hne2,g1]
 generalize Y1.upd id (.cells (rdc t (y2e pool t σ1).2) 3)=Y2a at *
 generalize (y2e pool t σ1).1=a at *
 generalize (y2e pool t σ1).2=σ2 at *
 simp [g2a]
 have X2:=X2a.put lo2 (X2a.lt _ _ g2a) (.cells [.i .i64 (op:Nat),.s a,.s [],.i .i64 0,.s [],.sl none 0 0] 6)
 have g2:(Y2a.upd ob (.cells [.i .i64 (op:Nat),.s a,.s [],.i .i64 0,.s [],.sl none 0 0] 6)).get ob=some (.cells [.i .i64 (op:Nat),.s a,.s [],.i .i64 0,.s [],.sl none 0 0] 6):=by simp
 have q2:(Y2a.upd ob (.cells [.i .i64 (op:Nat),.s a,.s [],.i .i64 0,.s [],.sl none 0 0] 6)).get H.next=some (.cells [.i .i64 0,.s [],.s [],.i .i64 0,.s [],.sl none 0 0] 6):=by simp [hnn,q2a]
 generalize Y2a.upd ob (.cells [.i .i64 (op:Nat),.s a,.s [],.i .i64 0,.s [],.sl none 0 0] 6)=Y2 at *
 have C2:=X2.rc C
 apply jA
 simp [y28.r3]
 refine AC.fix (ya1 hp ht ho2 C2) ?_
 have ho3:=y47 (pool:=pool) ho2
 have X3a:=X2.upd (y2e pool t σ2).2
 have q3a:(Y2.upd id (.cells (rdc t (y2e pool t σ2).2) 3)).get H.next=some (.cells [.i .i64 0,.s [],.s [],.i .i64 0,.s [],.sl none 0 0] 6):=by simp [hne,q2]
 have g3a:(Y2.upd id (.cells (rdc t (y2e pool t σ2).2) 3)).get ob=some (.cells [.i .i64 (op:Nat),.s a,.s [],.i .i64 0,.s [],.sl none 0 0] 6):=by simp [hne2,g2]
 generalize Y2.upd id (.cells (rdc t (y2e pool t σ2).2) 3)=Y3a at *
 generalize (y2e pool t σ2).1=b at *
 generalize (y2e pool t σ2).2=σ3 at *
 simp [g3a]
 have X3:=X3a.put lo2 (X3a.lt _ _ g3a) (.cells [.i .i64 (op:Nat),.s a,.s b,.i .i64 0,.s [],.sl none 0 0] 6)
 have g3:(Y3a.upd ob (.cells [.i .i64 (op:Nat),.s a,.s b,.i .i64 0,.s [],.sl none 0 0] 6)).get ob=some (.cells [.i .i64 (op:Nat),.s a,.s b,.i .i64 0,.s [],.sl none 0 0] 6):=by simp
 have q3:(Y3a.upd ob (.cells [.i .i64 (op:Nat),.s a,.s b,.i .i64 0,.s [],.sl none 0 0] 6)).get H.next=some (.cells [.i .i64 0,.s [],.s [],.i .i64 0,.s [],.sl none 0 0] 6):=by simp [hnn,q3a]
 generalize Y3a.upd ob (.cells [.i .i64 (op:Nat),.s a,.s b,.i .i64 0,.s [],.sl none 0 0] 6)=Y3 at *
 have C3:=X3.rc C
 apply jA
 simp [y28.r4,C3.hr]
 refine AC.fix (y9o ho3 (by omega) C3.hg) ?_
 have ho4:=(y6d ho3).1
 have X4a:=X3.upd (y33 t σ3).2
 have q4a:(Y3.upd id (.cells (rdc t (y33 t σ3).2) 3)).get H.next=some (.cells [.i .i64 0,.s [],.s [],.i .i64 0,.s [],.sl none 0 0] 6):=by simp [hne,q3]
 have g4a:(Y3.upd id (.cells (rdc t (y33 t σ3).2) 3)).get ob=some (.cells [.i .i64 (op:Nat),.s a,.s b,.i .i64 0,.s [],.sl none 0 0] 6):=by simp [hne2,g3]
 generalize Y3.upd id (.cells (rdc t (y33 t σ3).2) 3)=Y4a at *
 generalize (y33 t σ3).1=kk at *
 generalize (y33 t σ3).2=σ4 at *
 simp [g4a]
 have X4:=X4a.put lo2 (X4a.lt _ _ g4a) (.cells [.i .i64 (op:Nat),.s a,.s b,.i .i64 (kk:Nat),.s [],.sl none 0 0] 6)
 have g4:(Y4a.upd ob (.cells [.i .i64 (op:Nat),.s a,.s b,.i .i64 (kk:Nat),.s [],.sl none 0 0] 6)).get ob=some (.cells [.i .i64 (op:Nat),.s a,.s b,.i .i64 (kk:Nat),.s [],.sl none 0 0] 6):=by simp
 have q4:(Y4a.upd ob (.cells [.i .i64 (op:Nat),.s a,.s b,.i .i64 (kk:Nat),.s [],.sl none 0 0] 6)).get H.next=some (.cells [.i .i64 0,.s [],.s [],.i .i64 0,.s [],.sl none 0 0] 6):=by simp [hnn,q4a]
 generalize Y4a.upd ob (.cells [.i .i64 (op:Nat),.s a,.s b,.i .i64 (kk:Nat),.s [],.sl none 0 0] 6)=Y4 at *
 have C4:=X4.rc C
 apply jA
 simp [y28.r5]
 refine AC.fix (ya1 hp ht ho4 C4) ?_
 have ho5:=y47 (pool:=pool) ho4
 have X5a:=X4.upd (y2e pool t σ4).2
 have q5a:(Y4.upd id (.cells (rdc t (y2e pool t σ4).2) 3)).get H.next=some (.cells [.i .i64 0,.s [],.s [],.i .i64 0,.s [],.sl none 0 0] 6):=by simp [hne,q4]
 have g5a:(Y4.upd id (.cells (rdc t (y2e pool t σ4).2) 3)).get ob=some (.cells [.i .i64 (op:Nat),.s a,.s b,.i .i64 (kk:Nat),.s [],.sl none 0 0] 6):=by simp [hne2,g4]
 generalize Y4.upd id (.cells (rdc t (y2e pool t σ4).2) 3)=Y5a at *
 generalize (y2e pool t σ4).1=tg at *
 generalize (y2e pool t σ4).2=σ5 at *
 simp [g5a]
 have X5:=X5a.put lo2 (X5a.lt _ _ g5a) (.cells [.i .i64 (op:Nat),.s a,.s b,.i .i64 (kk:Nat),.s tg,.sl none 0 0] 6)
 have g5:(Y5a.upd ob (.cells [.i .i64 (op:Nat),.s a,.s b,.i .i64 (kk:Nat),.s tg,.sl none 0 0] 6)).get ob=some (.cells [.i .i64 (op:Nat),.s a,.s b,.i .i64 (kk:Nat),.s tg,.sl none 0 0] 6):=by simp
 have q5:(Y5a.upd ob (.cells [.i .i64 (op:Nat),.s a,.s b,.i .i64 (kk:Nat),.s tg,.sl none 0 0] 6)).get H.next=some (.cells [.i .i64 0,.s [],.s [],.i .i64 0,.s [],.sl none 0 0] 6):=by simp [hnn,q5a]
 generalize Y5a.upd ob (.cells [.i .i64 (op:Nat),.s a,.s b,.i .i64 (kk:Nat),.s tg,.sl none 0 0] 6)=Y5 at *
 have C5:=X5.rc C
 apply jA
 simp [y28.r6]
 refine AC.fix (yd5 (y2e pool t) V.s (fun x=>[.s x]) 1 16 [.s []] (fun _=>rfl) (fun _=>rfl) rfl (by omega) (by omega) (fun _=>rfl) (fun x v hv=>by simp at hv;subst hv;exact ydk _) yj.at yj.ok (.fb y3e [.p (some (rid,0,2))]) (fun _ h=>y47 h)
  (fun σ X o c=>by simpa using ya1 hp ht o c) ht ho5 C5) ?_
 have X6a:=X5.upd (y3j t (y2e pool t) σ5).2
 have q6a:(Y5.upd id (.cells (rdc t (y3j t (y2e pool t) σ5).2) 3)).get H.next=some (.cells [.i .i64 0,.s [],.s [],.i .i64 0,.s [],.sl none 0 0] 6):=by simp [hne,q5]
 have g6a:(Y5.upd id (.cells (rdc t (y3j t (y2e pool t) σ5).2) 3)).get ob=some (.cells [.i .i64 (op:Nat),.s a,.s b,.i .i64 (kk:Nat),.s tg,.sl none 0 0] 6):=by simp [hne2,g5]
 generalize Y5.upd id (.cells (rdc t (y3j t (y2e pool t) σ5).2) 3)=Y6a at *
 generalize (y3j t (y2e pool t) σ5).1=al at *
 generalize (y3j t (y2e pool t) σ5).2=σ6 at *
 simp [g6a]
 have X6:=X6a.put lo2 (X6a.lt _ _ g6a) (.cells [.i .i64 (op:Nat),.s a,.s b,.i .i64 (kk:Nat),.s tg,.fs (al.map fun x=>[.s x])] 6)
 have g6:(Y6a.upd ob (.cells [.i .i64 (op:Nat),.s a,.s b,.i .i64 (kk:Nat),.s tg,.fs (al.map fun x=>[.s x])] 6)).get ob=some (.cells [.i .i64 (op:Nat),.s a,.s b,.i .i64 (kk:Nat),.s tg,.fs (al.map fun x=>[.s x])] 6):=by simp
 have q6:(Y6a.upd ob (.cells [.i .i64 (op:Nat),.s a,.s b,.i .i64 (kk:Nat),.s tg,.fs (al.map fun x=>[.s x])] 6)).get H.next=some (.cells [.i .i64 0,.s [],.s [],.i .i64 0,.s [],.sl none 0 0] 6):=by simp [hnn,q6a]
 generalize Y6a.upd ob (.cells [.i .i64 (op:Nat),.s a,.s b,.i .i64 (kk:Nat),.s tg,.fs (al.map fun x=>[.s x])] 6)=Y6 at *
 have XF:=X6.put (kF _) (X6.lt _ _ q6) (.cells [.i .i64 (op:Nat),.s a,.s b,.i .i64 (kk:Nat),.s tg,.fs (al.map fun x=>[.s x])] 6)
 apply jA
 simp [y28.r7,g6,q6]
 apply jD
 simp
 exact ⟨XF.fin,.refl _⟩
end
end Go.Proofs.YthmkcebbeehbeaaGreatDoor
