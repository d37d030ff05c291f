/- Part 43. -/
import Derived.Test.YthmkcebbeehbeaaGreatDoorXGw41
set_option linter.unusedSimpArgs false
set_option linter.unusedVariables false
namespace Go.Proofs.YthmkcebbeehbeaaGreatDoor
open Am C
structure R6 (t:Str) (pool:List Str) (xid id:Nat) (σ:Rd) (X:Hp):Prop where
 hr:X.get xid=some (.cells [ss pool,.p (some (id,0,3))] 2)
 hg:X.get id=some (.cells (rdc t σ) 3)
 ne:xid≠id
def yke (t:Str) (σ:Rd):Nat:=if 6000<(y33 t σ).1 then 0 else (y33 t σ).1
def ycn (t:Str) (σ:Rd):Rd:=if 6000<(y33 t σ).1 then y6a (y33 t σ).2 4 else (y33 t σ).2
theorem yi0 {α:Type} {t:Str} {one:Rd→α × Rd} {σ:Rd}:y3j t one σ=ya7 one (yke t σ) (ycn t σ):=by
 unfold y3j yke ycn
 split
 ·have:(y6a (y33 t σ).2 4).e≠0:=by unfold y6a;split <;> simp <;> assumption
  rw [yb8 this,yb8 this]
 ·rfl
theorem yi2 (t:Str) (σ:Rd):yke t σ≤6000:=by unfold yke;split <;> omega
theorem yi1 {t:Str} {σ:Rd} (h:y7q t σ):y7q t (ycn t σ):=yjb h
section
variable {t:Str} {xid id:Nat} {σ:Rd} {X Y H:Hp} {pool:List Str}
theorem RX.r6 {σ0:Rd} (R:RX H id t σ X) (C:R6 t pool xid id σ0 H):R6 t pool xid id σ X:=⟨R.ext.2 _ _ (by rw [yez,if_neg C.ne];exact C.hr),R.get,C.ne⟩
theorem yc2 (ht:t.length≤1000000000) (hp:pool.length≤1000000000) (ho:y7q t σ) (C:R6 t pool xid id σ X):
  AC Tryz.prog y45 [.p (some (xid,0,2))] X (fun v X'=>v=.s (y2e pool t σ).1∧X'=X.upd id (.cells (rdc t (y2e pool t σ).2) 3)):=by
 have hr:=C.hr
 have ne:=C.ne
 refine AC.code y1n.at y1n.ok ?_
 simp only [y1n]
 apply jA
 simp [y1n.r0]
 apply jA
 simp [y1n.r1,hr]
 refine AC.fix (y80 ho (by omega) C.hg) ?_
 unfold y2e
 generalize (y33 t σ).1=n at *
 generalize (y33 t σ).2=σ1 at *
 simp
 apply jB
 simp [y1n.r2,hr,ne,rdc]
 by_cases he:σ1.e=0
 ·refine jF (by simp [he]) (AX.skip ?_)
  simp [he]
  apply jB
  simp [y1n.r4,hr,ne,ss]
  by_cases h:n<pool.length
  ·refine jF (by simp;omega) (AX.skip ?_)
   simp
   apply jA
   simp [y1n.r7,hr,ne,h,ss]
   apply jD
   simp [h,he]
  ·refine jG (by simp;omega) ?_
   have hnn:pool[n]?=none:=List.getElem?_eq_none (by omega)
   apply jA
   simp [y1n.r5,hr,ne]
   apply jA
   simp [y1n.r6]
   apply jD
   simp [hnn,y6a,he]
 ·refine jG (by simp [he]) ?_
  apply jA
  simp [y1n.r3]
  apply jD
  simp [he]
theorem ygk (ht:t.length≤1000000000) (ho:y7q t σ) (C:R6 t pool xid id σ X):
  AC Tryz.prog y63 [.p (some (xid,0,2))] X (fun v X'=>v=.i .i64 (yke t σ:Nat)∧X'=X.upd id (.cells (rdc t (ycn t σ)) 3)):=by
 have hr:=C.hr
 have ne:=C.ne
 refine AC.code y29.at y29.ok ?_
 simp only [y29]
 apply jA
 simp [y29.r0]
 apply jA
 simp [y29.r1,hr]
 refine AC.fix (y80 ho (by omega) C.hg) ?_
 unfold yke ycn
 generalize (y33 t σ).1=n at *
 generalize (y33 t σ).2=σ1 at *
 simp
 apply jB
 simp [y29.r2]
 by_cases h:6000<n
 ·refine jG (by simp [h]) ?_
  apply jA
  simp [y29.r3,hr,ne]
  refine AC.fix (yt1 (t:=t) (σ:=σ1) (by simp) 4) ?_
  simp
  apply jA
  simp [y29.r4]
  apply jD
  simp [h]
 ·refine jF (by simp [h]) (AX.skip ?_)
  simp
  apply jA
  simp [y29.r5]
  apply jD
  simp [h]
def T6Inv (t:Str) (pool:List Str) (H:Hp) (xid id n:Nat) (R:List Str × Rd) (m:Nat) (F:Fr) (X:Hp):Prop:=
 ∃i acc σ lv,i≤n∧m=n-i∧y7q t σ∧acc.length=i∧R=(acc++(ya7 (y2e pool t) (n-i) σ).1,(ya7 (y2e pool t) (n-i) σ).2)∧RX H id t σ X∧Acc (H.del id) 1 lv X (tcl acc)∧
  F=[(0,.p (some (xid,0,2))),(3,lv),(4,.i .i64 (n:Nat)),(5,.i .i64 i)]
theorem ygu (ht:t.length≤1000000000) (hp:pool.length≤1000000000) (ho:y7q t σ) (C:R6 t pool xid id σ H):
  AC Tryz.prog y6c [.p (some (xid,0,2))] H (fun v X'=>v=ss (y3j t (y2e pool t) σ).1∧X'=H.upd id (.cells (rdc t (y3j t (y2e pool t) σ).2) 3)):=by
 refine AC.codeU y1b.at y1b.ok C.hg (ydo _ _) (ycp _) fun hlt=>?_
 have X0:=RX.start hlt C.hg
 obtain ⟨R,hR⟩:∃R,R=y3j t (y2e pool t) σ:=⟨_,rfl⟩
 rw [←hR]
 rw [yi0] at hR
 simp only [y1b]
 apply jA
 simp [y1b.r0]
 apply jA
 simp [y1b.r1]
 apply jA
 simp [y1b.r2]
 refine AC.fix (ygk ht ho C) ?_
 have ho1:=yi1 ho
 have hn:=yi2 t σ
 have X1:=X0.upd (ycn t σ)
 generalize yke t σ=n at *
 generalize ycn t σ=σ1 at *
 generalize H.upd id (.cells (rdc t σ1) 3)=Y1 at X1 ⊢
 simp
 apply jB
 simp [y1b.r3]
 refine AX.pblock (AX.loop (T6Inv t pool H xid id n R) n ⟨_,_,.refl _ _,0,[],σ1,.sl none 0 0,by omega,by omega,ho1,rfl,by simpa using hR,X1,by simpa [tcl] using X1.accNil 1 0,by simp⟩ ?_)
 rintro m F X ⟨i,acc,σ,lv,hi,rfl,ho,hal,hres,RXX,A,rfl⟩
 have CX:=RXX.r6 C
 have gX:=CX.hg
 simp only [rdc] at gX
 simp only [y1b.l0]
 refine AX.seq (AX.test (decide (i<n)&&decide (σ.e=0)) [(0,.p (some (xid,0,2))),(3,lv),(4,.i .i64 (n:Nat)),(5,.i .i64 i),(20,.b (decide (i<n)&&decide (σ.e=0)))] ?_ rfl (fun hd=>AX.skip ?_) (fun hd=>AX.exit ?_))
 ·by_cases h1:i<n
  ·simp [y1b.r4,h1,CX.hr,gX]
  ·simp [y1b.r4,h1]
 ·simp at hd
  obtain ⟨hin,he⟩:=hd
  rw [yds hin he] at hres
  simp
  refine AX.seq (AX.pblock (AX.reg ?_))
  simp [y1b.r5]
  refine AC.fix (yc2 ht hp ho CX) ?_
  have R1:=RXX.upd (y2e pool t σ).2
  have A1:=RXX.acc A (y2e pool t σ).2
  have ho1:=y47 (pool:=pool) ho
  generalize (y2e pool t σ).2=σ' at *
  generalize (y2e pool t σ).1=x at *
  generalize X.upd id (.cells (rdc t σ') 3)=Y1 at *
  obtain ⟨a4,l4,s4,Y4,e4,R4,A4,K4⟩:=R1.app (bytes:=16) A1 [.s x] rfl (by omega) rfl (by simp [tcl,yb7];omega)
  simp [ydi,-y59,e4]
  apply jE
  simp [y1b.r6,y5p (show i≤9223372036854775000 by omega)]
  exact ⟨n-(i+1),by omega,_,_,.refl _ _,i+1,acc++[x],σ',.sl a4 l4 s4,by omega,rfl,ho1,by simp [hal],by rw [hres];simp,R4,by simpa [tcl] using A4,by simp⟩
 ·simp at hd
  have hRe:R=(acc,σ):=by
   rw [hres]
   by_cases h1:i<n
   ·rw [yb8 (hd h1)];simp
   ·rw [show n-i=0 by omega];simp [ya7]
  simp
  apply jA
  simp [y1b.r7]
  apply jD
  simp [hRe]
  exact ⟨RXX.fin,A.frz⟩
def M6Inv (t:Str) (pool:List Str) (H:Hp) (xid id n k ob:Nat) (nm kd:Str) (R:List Mk × Rd) (m:Nat) (F:Fr) (X:Hp):Prop:=
 ∃i acc σ lv,i≤n∧m=n-i∧y7q t σ∧acc.length=i∧R=(acc++(ya7 (ybj pool t) (n-i) σ).1,(ya7 (ybj pool t) (n-i) σ).2)∧RX H id t σ X∧Acc (H.del id) 2 lv X (acc.map ycm)∧ydh lv ob∧ydh lv k∧
  X.get k=some (.cells [.s [],.s [],.sl none 0 0] 3)∧X.get ob=some (.cells [.s nm,.s kd,lv] 3)∧F=[(0,.p (some (xid,0,2))),(2,.p (some (k,0,3))),(3,.p (some (ob,0,3))),(4,.i .i64 (n:Nat)),(5,.i .i64 i)]
theorem R6Obj_ok (ht:t.length≤1000000000) (hp:pool.length≤1000000000) (ho:y7q t σ) (C:R6 t pool xid id σ H):
  AC Tryz.prog y8t [.p (some (xid,0,2))] H (fun v H'=>v=.agg (y62 (yc3 pool t σ).1)∧H'=H.upd id (.cells (rdc t (yc3 pool t σ).2) 3)):=by
 refine AC.codeU yr.at yr.ok C.hg (ydo _ _) (yct (yhw _)) fun hlt=>?_
 have X0:=(RX.start hlt C.hg).add (.cells [.s [],.s [],.sl none 0 0] 3)
 have g0:(H.add (.cells [.s [],.s [],.sl none 0 0] 3)).get H.next=some (.cells [.s [],.s [],.sl none 0 0] 3):=by simp
 have hne:H.next≠id:=by have:=X0.hid;omega
 have n0:H.next<(H.add (.cells [.s [],.s [],.sl none 0 0] 3)).next:=by simp
 simp only [yr]
 apply jA
 simp [yr.r0]
 generalize H.add (.cells [.s [],.s [],.sl none 0 0] 3)=Y0 at *
 have C0:=X0.r6 C
 apply jA
 simp [yr.r1]
 refine AC.fix (yc2 ht hp ho C0) ?_
 have ho1:=y47 (pool:=pool) ho
 have X1:=X0.upd (y2e pool t σ).2
 have g1:(Y0.upd id (.cells (rdc t (y2e pool t σ).2) 3)).get H.next=some (.cells [.s [],.s [],.sl none 0 0] 3):=by simp [hne,g0]
 have n1:H.next<(Y0.upd id (.cells (rdc t (y2e pool t σ).2) 3)).next:=by simpa using n0
 unfold yc3
 dsimp only
 generalize Y0.upd id (.cells (rdc t (y2e pool t σ).2) 3)=Y1 at *
 generalize (y2e pool t σ).1=nm at *
 generalize (y2e pool t σ).2=σ1 at *
 have hne2:Y1.next≠id:=by have h:H.next≤Y1.next:=X1.ext.1;have:=X1.hid;omega
 have hup:(Y1.add (.cells [.s [],.s [],.sl none 0 0] 3)).upd Y1.next (.cells [.s nm,.s [],.sl none 0 0] 3)=Y1.add (.cells [.s nm,.s [],.sl none 0 0] 3):=by
  refine Hp.ext' (fun j=>?_) rfl
  simp only [Hp.get_upd,Hp.get_add]
  split <;> rfl
 simp [hup]
 have X2:=X1.add (.cells [.s nm,.s [],.sl none 0 0] 3)
 have q2:(Y1.add (.cells [.s nm,.s [],.sl none 0 0] 3)).get H.next=some (.cells [.s [],.s [],.sl none 0 0] 3):=by rw [Hp.get_add,if_neg (by omega)];exact g1
 have g2:(Y1.add (.cells [.s nm,.s [],.sl none 0 0] 3)).get Y1.next=some (.cells [.s nm,.s [],.sl none 0 0] 3):=by simp
 have lo2:H.next≤Y1.next:=by omega
 have hnn:H.next≠Y1.next:=by omega
 generalize Y1.add (.cells [.s nm,.s [],.sl none 0 0] 3)=Y2 at *
 generalize Y1.next=ob at *
 have C2:=X2.r6 C
 apply jA
 simp [yr.r2]
 refine AC.fix (yc2 ht hp ho1 C2) ?_
 have ho3:=y47 (pool:=pool) ho1
 have X3:=X2.upd (y2e pool t σ1).2
 have g3:(Y2.upd id (.cells (rdc t (y2e pool t σ1).2) 3)).get ob=some (.cells [.s nm,.s [],.sl none 0 0] 3):=by simp [hne2,g2]
 have q3:(Y2.upd id (.cells (rdc t (y2e pool t σ1).2) 3)).get H.next=some (.cells [.s [],.s [],.sl none 0 0] 3):=by simp [hne,q2]
 generalize Y2.upd id (.cells (rdc t (y2e pool t σ1).2) 3)=Y3 at *
 generalize (y2e pool t σ1).1=kd at *
 generalize (y2e pool t σ1).2=σ3 at *
 simp [g3]
 have X4:=X3.put lo2 (X3.lt _ _ g3) (.cells [.s nm,.s kd,.sl none 0 0] 3)
 have g4:(Y3.upd ob (.cells [.s nm,.s kd,.sl none 0 0] 3)).get ob=some (.cells [.s nm,.s kd,.sl none 0 0] 3):=by simp
 have q4:(Y3.upd ob (.cells [.s nm,.s kd,.sl none 0 0] 3)).get H.next=some (.cells [.s [],.s [],.sl none 0 0] 3):=by simp [hnn,q3]
 generalize Y3.upd ob (.cells [.s nm,.s kd,.sl none 0 0] 3)=Y4 at *
 have C4:=X4.r6 C
 apply jA
 simp [yr.r3]
 refine AC.fix (ygk ht ho3 C4) ?_
 have ho5:=yi1 ho3
 have hn:=yi2 t σ3
 obtain ⟨R,hR⟩:∃R,R=y3j t (ybj pool t) σ3:=⟨_,rfl⟩
 rw [←hR]
 rw [yi0] at hR
 have X5:=X4.upd (ycn t σ3)
 have g5:(Y4.upd id (.cells (rdc t (ycn t σ3)) 3)).get ob=some (.cells [.s nm,.s kd,.sl none 0 0] 3):=by simp [hne2,g4]
 have q5:(Y4.upd id (.cells (rdc t (ycn t σ3)) 3)).get H.next=some (.cells [.s [],.s [],.sl none 0 0] 3):=by simp [hne,q4]
 generalize Y4.upd id (.cells (rdc t (ycn t σ3)) 3)=Y5 at *
 generalize yke t σ3=n at *
 generalize ycn t σ3=σ5 at *
 simp
 apply jB
 simp [yr.r4]
 refine AX.pblock (AX.loop (M6Inv t pool H xid id n H.next ob nm kd R) n ⟨_,_,.refl _ _,0,[],σ5,.sl none 0 0,by omega,by omega,ho5,rfl,by simpa using hR,X5,by simpa using X5.accNil 2 0,trivial,trivial,q5,g5,by simp⟩ ?_)
 rintro m F X ⟨i,acc,σ,lv,hi,rfl,ho,hal,hres,RXX,A,so,sk,gk,gob,rfl⟩
 have CX:=RXX.r6 C
 have gX:=CX.hg
 simp only [rdc] at gX
 simp only [yr.l0]
 refine AX.seq (AX.test (decide (i<n)&&decide (σ.e=0)) [(0,.p (some (xid,0,2))),(2,.p (some (H.next,0,3))),(3,.p (some (ob,0,3))),(4,.i .i64 (n:Nat)),(5,.i .i64 i),(27,.b (decide (i<n)&&decide (σ.e=0)))] ?_ rfl (fun hd=>AX.skip ?_) (fun hd=>AX.exit ?_))
 ·by_cases h1:i<n
  ·simp [yr.r5,h1,CX.hr,gX]
  ·simp [yr.r5,h1]
 ·simp at hd
  obtain ⟨hin,he⟩:=hd
  rw [yds hin he] at hres
  simp
  apply jC
  simp [yr.r6,CX.hr]
  refine AC.fix (y80 ho (by omega) CX.hg) ?_
  have hoA:=(y6d ho).1
  have RA:=RXX.upd (y33 t σ).2
  have AA:=RXX.acc A (y33 t σ).2
  have ga:(X.upd id (.cells (rdc t (y33 t σ).2) 3)).get ob=some (.cells [.s nm,.s kd,lv] 3):=by simp [hne2,gob]
  have ka:(X.upd id (.cells (rdc t (y33 t σ).2) 3)).get H.next=some (.cells [.s [],.s [],.sl none 0 0] 3):=by simp [hne,gk]
  rw [show ybj pool t σ=(⟨((y33 t σ).1:Nat),(y2e pool t (y33 t σ).2).1⟩,(y2e pool t (y33 t σ).2).2) from rfl] at hres
  generalize (y33 t σ).1=at1 at *
  generalize (y33 t σ).2=σa at *
  generalize X.upd id (.cells (rdc t σa) 3)=Ya at *
  have hmi:Ya.next≠id:=by have h:H.next≤Ya.next:=RA.ext.1;have:=RA.hid;omega
  have hup:(Ya.add (.cells [.i .i64 0,.s []] 2)).upd Ya.next (.cells [.i .i64 (at1:Nat),.s []] 2)=Ya.add (.cells [.i .i64 (at1:Nat),.s []] 2):=by
   refine Hp.ext' (fun j=>?_) rfl
   simp only [Hp.get_upd,Hp.get_add]
   split <;> rfl
  simp [hup]
  have obl:=RA.lt _ _ ga
  have kl:=RA.lt _ _ ka
  have RB:=RA.add (.cells [.i .i64 (at1:Nat),.s []] 2)
  have AB:=AA.more (.add RA.lt (.cells [.i .i64 (at1:Nat),.s []] 2)) (Hp.add_lt RA.lt _)
  have gb:(Ya.add (.cells [.i .i64 (at1:Nat),.s []] 2)).get ob=some (.cells [.s nm,.s kd,lv] 3):=by rw [Hp.get_add,if_neg (by omega)];exact ga
  have kb:(Ya.add (.cells [.i .i64 (at1:Nat),.s []] 2)).get H.next=some (.cells [.s [],.s [],.sl none 0 0] 3):=by rw [Hp.get_add,if_neg (by omega)];exact ka
  have mb:(Ya.add (.cells [.i .i64 (at1:Nat),.s []] 2)).get Ya.next=some (.cells [.i .i64 (at1:Nat),.s []] 2):=by simp
  have sm:ydh lv Ya.next:=AA.slLt (kF _)
  have lom:H.next≤Ya.next:=RA.ext.1
  have hom:ob≠Ya.next:=by omega
  have hkm:H.next≠Ya.next:=by omega
  generalize Ya.add (.cells [.i .i64 (at1:Nat),.s []] 2)=Yb at *
  generalize Ya.next=mb' at *
  have CB:=RB.r6 C
  apply jA
  simp [yr.r7]
  refine AC.fix (yc2 ht hp hoA CB) ?_
  have hoC:=y47 (pool:=pool) hoA
  have RC:=RB.upd (y2e pool t σa).2
  have AC':=RB.acc AB (y2e pool t σa).2
  have gc:(Yb.upd id (.cells (rdc t (y2e pool t σa).2) 3)).get ob=some (.cells [.s nm,.s kd,lv] 3):=by simp [hne2,gb]
  have kc:(Yb.upd id (.cells (rdc t (y2e pool t σa).2) 3)).get H.next=some (.cells [.s [],.s [],.sl none 0 0] 3):=by simp [hne,kb]
  have mc:(Yb.upd id (.cells (rdc t (y2e pool t σa).2) 3)).get mb'=some (.cells [.i .i64 (at1:Nat),.s []] 2):=by simp [hmi,mb]
  generalize (y2e pool t σa).1=tg at *
  generalize (y2e pool t σa).2=σc at *
  generalize Yb.upd id (.cells (rdc t σc) 3)=Yc at *
  simp [mc]
  have ml:=RC.lt _ _ mc
  have RD:=RC.put lom ml (.cells [.i .i64 (at1:Nat),.s tg] 2)
  have AD:=AC'.upd RC.dlt sm lom ml (.cells [.i .i64 (at1:Nat),.s tg] 2)
  have gd:(Yc.upd mb' (.cells [.i .i64 (at1:Nat),.s tg] 2)).get ob=some (.cells [.s nm,.s kd,lv] 3):=by simp [hom,gc]
  have kd':(Yc.upd mb' (.cells [.i .i64 (at1:Nat),.s tg] 2)).get H.next=some (.cells [.s [],.s [],.sl none 0 0] 3):=by simp [hkm,kc]
  have md:(Yc.upd mb' (.cells [.i .i64 (at1:Nat),.s tg] 2)).get mb'=some (.cells [.i .i64 (at1:Nat),.s tg] 2):=by simp
  generalize Yc.upd mb' (.cells [.i .i64 (at1:Nat),.s tg] 2)=Yd at *
  obtain ⟨a4,l4,s4,Y4,e4,R4,A4,K4⟩:=RD.app (bytes:=24) AD (ycm ⟨(at1:Nat),tg⟩) rfl (by omega) rfl (by simp [yb7];omega)
  obtain ⟨g4,so4⟩:=K4 _ _ gd so
  obtain ⟨k4,sk4⟩:=K4 _ _ kd' sk
  simp only [ycm] at e4
  apply jE
  simp [yr.r8,gd,md,ydi,-y59,e4,g4,show List.range 1=[0] from rfl]
  have ol:=R4.lt _ _ g4
  apply jE
  simp [yr.r9,y5p (show i≤9223372036854775000 by omega)]
  exact ⟨n-(i+1),by omega,_,_,.refl _ _,i+1,acc++[⟨(at1:Nat),tg⟩],σc,.sl a4 l4 s4,by omega,rfl,hoC,by simp [hal],by rw [hres];simp,R4.put lo2 ol _,by simpa using A4.upd R4.dlt so4 lo2 ol _,so4,sk4,by simp [hnn,k4],by simp,by simp⟩
 ·simp at hd
  have hRe:R=(acc,σ):=by
   rw [hres]
   by_cases h1:i<n
   ·rw [yb8 (hd h1)];simp
   ·rw [show n-i=0 by omega];simp [ya7]
  simp
  have il:=A.isSl
  obtain ⟨a4,l4,s4,rfl⟩:=il
  apply jA
  simp [yr.r10,gob,gk]
  apply jD
  simp [hRe]
  have XF:=RXX.put (kF H.next) (RXX.lt _ _ gk) (.cells [.s nm,.s kd,.sl a4 l4 s4] 3)
  have AF:=A.upd RXX.dlt sk (kF H.next) (RXX.lt _ _ gk) (.cells [.s nm,.s kd,.sl a4 l4 s4] 3)
  refine ⟨XF.fin,.agg _ _ rfl fun j u v hu hv=>?_⟩
  match j with
  | 0=>simp [y62] at hu hv;subst hu;subst hv;exact .refl _
  | 1=>simp [y62] at hu hv;subst hu;subst hv;exact .refl _
  | 2=>simp [y62] at hu hv;subst hu;subst hv;exact AF.frz
  | j+3=>simp at hu
end
end Go.Proofs.YthmkcebbeehbeaaGreatDoor
