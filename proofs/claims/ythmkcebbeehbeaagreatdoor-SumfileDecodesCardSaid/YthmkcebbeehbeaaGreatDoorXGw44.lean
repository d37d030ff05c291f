/- Part 44. -/
import Derived.Test.YthmkcebbeehbeaaGreatDoorXGw42
import Derived.Test.YthmkcebbeehbeaaGreatDoorXGw43
set_option linter.unusedSimpArgs false
set_option linter.unusedVariables false
namespace Go.Proofs.YthmkcebbeehbeaaGreatDoor
open Am C
theorem Am.Acc.kept {B X X2:Hp} {sz:Nat} {v u u2:V} {es:List (List V)} (A:Acc B sz v X es) (d:Dis v u) (K:∀k blk,X.get k=some blk→ydh u k→X2.get k=some blk∧ydh u2 k) (e:B.Ext X2) (l:∀k blk,X2.get k=some blk→k<X2.next):Acc B sz v X2 es∧Dis v u2:=by
 rcases A.sl with ⟨h0,z,rfl⟩ | ⟨j,m,a,rfl,c,f⟩
 ·exact ⟨⟨e,l,A.all,.inl ⟨h0,z,rfl⟩⟩,fun j=>.inl trivial⟩
 ·have su:ydh u j:=(d j).resolve_left fun h=>h rfl
  obtain ⟨g,s⟩:=K _ _ c su
  refine ⟨⟨e,l,A.all,.inr ⟨j,m,a,rfl,g,f⟩⟩,fun i=>?_⟩
  by_cases h:j=i
  ·subst h;exact .inr s
  ·exact .inl h
def AL (B:Hp) (ob:Nat) (ls:List (V × Nat × List (List V))) (lv:V) (X:Hp):Prop:=∀q∈ls,Acc B q.2.1 q.1 X q.2.2∧Dis q.1 lv∧ydh q.1 ob
section
variable {t:Str} {id ob:Nat} {σ:Rd} {B X Y:Hp} {ls:List (V × Nat × List (List V))} {lv:V}
theorem AL.rd (L:AL (B.del id) ob ls lv X) (R:RX B id t σ X) (σ':Rd):AL (B.del id) ob ls lv (X.upd id (.cells (rdc t σ') 3)):=fun q hq=>let ⟨a,b⟩:=L q hq;⟨R.acc a σ',b⟩
theorem AL.add (L:AL (B.del id) ob ls lv X) (R:RX B id t σ X) (b:Blk):AL (B.del id) ob ls lv (X.add b):=fun q hq=>let ⟨a,c⟩:=L q hq;⟨a.more (.add R.lt b) (Hp.add_lt R.lt b),c⟩
theorem AL.put (L:AL (B.del id) ob ls lv X) (R:RX B id t σ X) {k:Nat} (hk:B.next≤k) (hx:k<X.next) (hs:∀q∈ls,ydh q.1 k) (b:Blk):AL (B.del id) ob ls lv (X.upd k b):=fun q hq=>let ⟨a,c⟩:=L q hq;⟨a.upd R.dlt (hs q hq) hk hx b,c⟩
theorem AL.new (L:AL (B.del id) ob ls lv X) {k:Nat} (hk:X.next≤k):∀q∈ls,ydh q.1 k:=fun q hq=>(L q hq).1.slLt hk
theorem AL.besideOb (L:AL (B.del id) ob ls lv X):∀q∈ls,ydh q.1 ob:=fun q hq=>(L q hq).2.2
theorem AL.app {X2:Hp} {lv2:V} (L:AL (B.del id) ob ls lv X) (R2:RX B id t σ X2) (K:∀k blk,X.get k=some blk→ydh lv k→X2.get k=some blk∧ydh lv2 k):AL (B.del id) ob ls lv2 X2:=fun q hq=>by
 obtain ⟨a,d,s⟩:=L q hq
 obtain ⟨a2,d2⟩:=a.kept d K R2.ext R2.lt
 exact ⟨a2,d2,s⟩
end
def S6Inv {α:Type} (t:Str) (B:Hp) (id n ob:Nat) (one:Rd→α × Rd) (enc:α→List V) (sz:Nat) (R:List α × Rd) (cs:V→List V) (ls:List (V × Nat × List (List V))) (fr:Nat→Fr) (m:Nat) (F:Fr) (X:Hp):Prop:=
 ∃i acc σ lv,i≤n∧m=n-i∧y7q t σ∧acc.length=i∧R=(acc++(ya7 one (n-i) σ).1,(ya7 one (n-i) σ).2)∧RX B id t σ X∧Acc (B.del id) sz lv X (acc.map enc)∧ydh lv ob∧AL (B.del id) ob ls lv X∧ob<X.next∧X.get ob=some (.cells (cs lv) 7)∧F=fr i
theorem ypf {α:Type} {one:Rd→α × Rd} {n i:Nat} {σ:Rd} {acc:List α} {R:List α × Rd} (hres:R=(acc++(ya7 one (n-i) σ).1,(ya7 one (n-i) σ).2)) (hi:i≤n) (hd:i<n→σ.e≠0):R=(acc,σ):=by
 rw [hres]
 by_cases h1:i<n
 ·rw [yb8 (hd h1)];simp
 ·rw [show n-i=0 by omega];simp [ya7]
theorem ywp (X:Hp) (a b:Blk):(X.add a).upd X.next b=X.add b:=by
 refine Hp.ext' (fun j=>?_) rfl
 simp only [Hp.get_upd,Hp.get_add]
 split <;> rfl
set_option maxHeartbeats 1000000 in
theorem ysx (pool:List Str) (hpl:pool.length≤1000000000) (t:Str) (ht:t.length≤1000000000) (H:Hp):
  AC Tryz.prog yd6 [ss pool,.s t] H (fun v H'=>v=.tup [.agg (y61 (yaq pool t).1),.i .i64 (yaq pool t).2]∧H'=H):=by
 refine AC.codeP y6.at y6.ok (yc1 (by simp [yct (yhr _)])) fun hlt=>?_
 obtain ⟨S,hS⟩:∃S,S=ygv pool t ⟨0,0⟩:=⟨_,rfl⟩
 have hR:∀s σ,S=(s,σ)→yaq pool t=if y7y t σ≠0 then (su0,y7y t σ) else (s,0):=fun s σ h=>by unfold yaq;rw [←hS,h]
 generalize yaq pool t=R at *
 simp only [y6]
 apply jA
 simp [y6.r0]
 have e0:=Am.Hp.Ext.add hlt (.cells [.s [],.sl none 0 0,.sl none 0 0,.sl none 0 0,.sl none 0 0,.sl none 0 0,.sl none 0 0] 7)
 have l0:=Hp.add_lt hlt (.cells [.s [],.sl none 0 0,.sl none 0 0,.sl none 0 0,.sl none 0 0,.sl none 0 0,.sl none 0 0] 7)
 have q0:(H.add (.cells [.s [],.sl none 0 0,.sl none 0 0,.sl none 0 0,.sl none 0 0,.sl none 0 0,.sl none 0 0] 7)).get H.next=some (.cells [.s [],.sl none 0 0,.sl none 0 0,.sl none 0 0,.sl none 0 0,.sl none 0 0,.sl none 0 0] 7):=by simp
 have n0:H.next<(H.add (.cells [.s [],.sl none 0 0,.sl none 0 0,.sl none 0 0,.sl none 0 0,.sl none 0 0,.sl none 0 0] 7)).next:=by simp
 generalize H.add (.cells [.s [],.sl none 0 0,.sl none 0 0,.sl none 0 0,.sl none 0 0,.sl none 0 0,.sl none 0 0] 7)=W0 at *
 apply jA
 simp [y6.r1,ss]
 change AX _ _ _ _ [(4,.p (some (H.next,0,7))),(6,.p (some (W0.next+1,0,2)))] ((W0.add (.cells (rdc t ⟨0,0⟩) 3)).add (.cells [ss pool,.p (some (W0.next,0,3))] 2))
 have e1:=e0.trans (.add l0 (.cells (rdc t ⟨0,0⟩) 3))
 have l1:=Hp.add_lt l0 (.cells (rdc t ⟨0,0⟩) 3)
 have e2:=e1.trans (.add l1 (.cells [ss pool,.p (some (W0.next,0,3))] 2))
 have l2:=Hp.add_lt l1 (.cells [ss pool,.p (some (W0.next,0,3))] 2)
 have i2:((W0.add (.cells (rdc t ⟨0,0⟩) 3)).add (.cells [ss pool,.p (some (W0.next,0,3))] 2)).get W0.next=some (.cells (rdc t ⟨0,0⟩) 3):=by simp
 have r2:((W0.add (.cells (rdc t ⟨0,0⟩) 3)).add (.cells [ss pool,.p (some (W0.next,0,3))] 2)).get (W0.next+1)=some (.cells [ss pool,.p (some (W0.next,0,3))] 2):=by simp
 have q2:((W0.add (.cells (rdc t ⟨0,0⟩) 3)).add (.cells [ss pool,.p (some (W0.next,0,3))] 2)).get H.next=some (.cells [.s [],.sl none 0 0,.sl none 0 0,.sl none 0 0,.sl none 0 0,.sl none 0 0,.sl none 0 0] 7):=by
  rw [Hp.get_add,if_neg (by simp;omega),Hp.get_add,if_neg (by omega)];exact q0
 have hne:H.next≠W0.next:=by omega
 have hidl:H.next≤W0.next:=by omega
 have hnr:W0.next+1≠W0.next:=by omega
 generalize (W0.add (.cells (rdc t ⟨0,0⟩) 3)).add (.cells [ss pool,.p (some (W0.next,0,3))] 2)=B at *
 generalize W0.next+1=xid at *
 generalize W0.next=id at *
 have C:R6 t pool xid id ⟨0,0⟩ B:=⟨r2,i2,hnr⟩
 have X00:=RX.start l2 i2
 have ho:y7q t ⟨0,0⟩:=⟨Nat.zero_le _,by simp,by simp,by simp⟩
 have hbn:=l2 _ _ i2
 have hbn2:=l2 _ _ q2
 have hfin2:∀{σ:Rd} {X:Hp} (b:Blk),RX B id t σ X→H.Ext (X.upd H.next b):=fun b R=>⟨kU e2.1 R.ext.1,fun k blk h=>by
  have hk:=hlt _ _ h
  rw [Hp.get_upd,if_neg (by omega)]
  exact R.ext.2 _ _ (by rw [yez,if_neg (by omega)];exact e2.2 _ _ h)⟩
 have hq:∀{σ:Rd} {X:Hp},RX B id t σ X→X.get H.next=some (.cells [.s [],.sl none 0 0,.sl none 0 0,.sl none 0 0,.sl none 0 0,.sl none 0 0,.sl none 0 0] 7):=fun R=>R.ext.2 _ _ (by rw [yez,if_neg hne];exact q2)
 unfold ygv at hS
 dsimp only at hS
 apply jA
 simp [y6.r2]
 have X0:=X00.add (.cells [.s [],.sl none 0 0,.sl none 0 0,.sl none 0 0,.sl none 0 0,.sl none 0 0,.sl none 0 0] 7)
 have g0:(B.add (.cells [.s [],.sl none 0 0,.sl none 0 0,.sl none 0 0,.sl none 0 0,.sl none 0 0,.sl none 0 0] 7)).get B.next=some (.cells [.s [],.sl none 0 0,.sl none 0 0,.sl none 0 0,.sl none 0 0,.sl none 0 0,.sl none 0 0] 7):=by simp
 have n0b:B.next<(B.add (.cells [.s [],.sl none 0 0,.sl none 0 0,.sl none 0 0,.sl none 0 0,.sl none 0 0,.sl none 0 0] 7)).next:=by simp
 have hob:B.next≠id:=by omega
 generalize B.add (.cells [.s [],.sl none 0 0,.sl none 0 0,.sl none 0 0,.sl none 0 0,.sl none 0 0,.sl none 0 0] 7)=Y0 at *
 have C0:=X0.r6 C
 apply jA
 simp [y6.r3]
 refine AC.fix (yc2 ht hpl ho C0) ?_
 have ho1:=y47 (pool:=pool) ho
 have X1a:=X0.upd (y2e pool t ⟨0,0⟩).2
 have g1a:(Y0.upd id (.cells (rdc t (y2e pool t ⟨0,0⟩).2) 3)).get B.next=some (.cells [.s [],.sl none 0 0,.sl none 0 0,.sl none 0 0,.sl none 0 0,.sl none 0 0,.sl none 0 0] 7):=by simp [hob,g0]
 generalize Y0.upd id (.cells (rdc t (y2e pool t ⟨0,0⟩).2) 3)=Y1a at *
 generalize (y2e pool t ⟨0,0⟩).1=nm at *
 generalize (y2e pool t ⟨0,0⟩).2=s1 at *
 simp [g1a,ss]
 have X1:=X1a.put (kF _) (X1a.lt _ _ g1a) (.cells [.s nm,.sl none 0 0,.sl none 0 0,.sl none 0 0,.sl none 0 0,.sl none 0 0,.sl none 0 0] 7)
 have g1:(Y1a.upd B.next (.cells [.s nm,.sl none 0 0,.sl none 0 0,.sl none 0 0,.sl none 0 0,.sl none 0 0,.sl none 0 0] 7)).get B.next=some (.cells [.s nm,.sl none 0 0,.sl none 0 0,.sl none 0 0,.sl none 0 0,.sl none 0 0,.sl none 0 0] 7):=by simp
 generalize Y1a.upd B.next (.cells [.s nm,.sl none 0 0,.sl none 0 0,.sl none 0 0,.sl none 0 0,.sl none 0 0,.sl none 0 0] 7)=Y1 at *
 have C1:=X1.r6 C
 apply jA
 simp [y6.r4]
 refine AC.fix (ygu ht hpl ho1 C1) ?_
 have ho2:=y6n (fun _ h=>y47 (pool:=pool) h) ho1
 have X2a:=X1.upd (y3j t (y2e pool t) s1).2
 have g2a:(Y1.upd id (.cells (rdc t (y3j t (y2e pool t) s1).2) 3)).get B.next=some (.cells [.s nm,.sl none 0 0,.sl none 0 0,.sl none 0 0,.sl none 0 0,.sl none 0 0,.sl none 0 0] 7):=by simp [hob,g1]
 generalize Y1.upd id (.cells (rdc t (y3j t (y2e pool t) s1).2) 3)=Y2a at *
 generalize (y3j t (y2e pool t) s1).1=gv at *
 generalize (y3j t (y2e pool t) s1).2=s2 at *
 simp [g2a,ss]
 have X2:=X2a.put (kF _) (X2a.lt _ _ g2a) (.cells [.s nm,.fs (gv.map fun x=>[.s x]),.sl none 0 0,.sl none 0 0,.sl none 0 0,.sl none 0 0,.sl none 0 0] 7)
 have g2:(Y2a.upd B.next (.cells [.s nm,.fs (gv.map fun x=>[.s x]),.sl none 0 0,.sl none 0 0,.sl none 0 0,.sl none 0 0,.sl none 0 0] 7)).get B.next=some (.cells [.s nm,.fs (gv.map fun x=>[.s x]),.sl none 0 0,.sl none 0 0,.sl none 0 0,.sl none 0 0,.sl none 0 0] 7):=by simp
 generalize Y2a.upd B.next (.cells [.s nm,.fs (gv.map fun x=>[.s x]),.sl none 0 0,.sl none 0 0,.sl none 0 0,.sl none 0 0,.sl none 0 0] 7)=Y2 at *
 have C2:=X2.r6 C
 apply jA
 simp [y6.r5]
 refine AC.fix (ygu ht hpl ho2 C2) ?_
 have ho3:=y6n (fun _ h=>y47 (pool:=pool) h) ho2
 have X3a:=X2.upd (y3j t (y2e pool t) s2).2
 have g3a:(Y2.upd id (.cells (rdc t (y3j t (y2e pool t) s2).2) 3)).get B.next=some (.cells [.s nm,.fs (gv.map fun x=>[.s x]),.sl none 0 0,.sl none 0 0,.sl none 0 0,.sl none 0 0,.sl none 0 0] 7):=by simp [hob,g2]
 generalize Y2.upd id (.cells (rdc t (y3j t (y2e pool t) s2).2) 3)=Y3a at *
 generalize (y3j t (y2e pool t) s2).1=wn at *
 generalize (y3j t (y2e pool t) s2).2=s3 at *
 simp [g3a,ss]
 have X3:=X3a.put (kF _) (X3a.lt _ _ g3a) (.cells [.s nm,.fs (gv.map fun x=>[.s x]),.fs (wn.map fun x=>[.s x]),.sl none 0 0,.sl none 0 0,.sl none 0 0,.sl none 0 0] 7)
 have g3:(Y3a.upd B.next (.cells [.s nm,.fs (gv.map fun x=>[.s x]),.fs (wn.map fun x=>[.s x]),.sl none 0 0,.sl none 0 0,.sl none 0 0,.sl none 0 0] 7)).get B.next=some (.cells [.s nm,.fs (gv.map fun x=>[.s x]),.fs (wn.map fun x=>[.s x]),.sl none 0 0,.sl none 0 0,.sl none 0 0,.sl none 0 0] 7):=by simp
 generalize Y3a.upd B.next (.cells [.s nm,.fs (gv.map fun x=>[.s x]),.fs (wn.map fun x=>[.s x]),.sl none 0 0,.sl none 0 0,.sl none 0 0,.sl none 0 0] 7)=Y3 at *
 have C3:=X3.r6 C
 apply jA
 simp [y6.r6]
 refine AC.fix (ygu ht hpl ho3 C3) ?_
 have ho4:=y6n (fun _ h=>y47 (pool:=pool) h) ho3
 have X4a:=X3.upd (y3j t (y2e pool t) s3).2
 have g4a:(Y3.upd id (.cells (rdc t (y3j t (y2e pool t) s3).2) 3)).get B.next=some (.cells [.s nm,.fs (gv.map fun x=>[.s x]),.fs (wn.map fun x=>[.s x]),.sl none 0 0,.sl none 0 0,.sl none 0 0,.sl none 0 0] 7):=by simp [hob,g3]
 generalize Y3.upd id (.cells (rdc t (y3j t (y2e pool t) s3).2) 3)=Y4a at *
 generalize (y3j t (y2e pool t) s3).1=kp at *
 generalize (y3j t (y2e pool t) s3).2=s4 at *
 simp [g4a,ss]
 have X4:=X4a.put (kF _) (X4a.lt _ _ g4a) (.cells [.s nm,.fs (gv.map fun x=>[.s x]),.fs (wn.map fun x=>[.s x]),.fs (kp.map fun x=>[.s x]),.sl none 0 0,.sl none 0 0,.sl none 0 0] 7)
 have g4:(Y4a.upd B.next (.cells [.s nm,.fs (gv.map fun x=>[.s x]),.fs (wn.map fun x=>[.s x]),.fs (kp.map fun x=>[.s x]),.sl none 0 0,.sl none 0 0,.sl none 0 0] 7)).get B.next=some (.cells [.s nm,.fs (gv.map fun x=>[.s x]),.fs (wn.map fun x=>[.s x]),.fs (kp.map fun x=>[.s x]),.sl none 0 0,.sl none 0 0,.sl none 0 0] 7):=by simp
 generalize Y4a.upd B.next (.cells [.s nm,.fs (gv.map fun x=>[.s x]),.fs (wn.map fun x=>[.s x]),.fs (kp.map fun x=>[.s x]),.sl none 0 0,.sl none 0 0,.sl none 0 0] 7)=Y4 at *
 have C4:=X4.r6 C
 apply jA
 simp [y6.r7]
 refine AC.fix (ygk ht ho4 C4) ?_
 have hoM5:=yi1 ho4
 have hn5:=yi2 t s4
 obtain ⟨R5,hR5⟩:∃R,R=y3j t (yc3 pool t) s4:=⟨_,rfl⟩
 rw [←hR5] at hS
 have hoR5:y7q t R5.2:=by rw [hR5];exact y6n (fun _ h=>ygo (pool:=pool) h) ho4
 rw [yi0] at hR5
 have X5a:=X4.upd (ycn t s4)
 have g5a:(Y4.upd id (.cells (rdc t (ycn t s4)) 3)).get B.next=some (.cells [.s nm,.fs (gv.map fun x=>[.s x]),.fs (wn.map fun x=>[.s x]),.fs (kp.map fun x=>[.s x]),.sl none 0 0,.sl none 0 0,.sl none 0 0] 7):=by simp [hob,g4]
 generalize Y4.upd id (.cells (rdc t (ycn t s4)) 3)=Y5a at *
 generalize yke t s4=n5 at *
 generalize ycn t s4=t5 at *
 simp
 apply jB
 simp [y6.r8]
 have L5:AL (B.del id) B.next [] (.sl none 0 0) Y5a:=(fun q hq=>by simp at hq)
 refine AX.pblock (AX.loop (S6Inv t B id n5 B.next (yc3 pool t) y62 3 R5 (fun lv=>[.s nm,.fs (gv.map fun x=>[.s x]),.fs (wn.map fun x=>[.s x]),.fs (kp.map fun x=>[.s x]),lv,.sl none 0 0,.sl none 0 0]) [] (fun i=>[(4,.p (some (H.next,0,7))),(6,.p (some (xid,0,2))),(7,.p (some (B.next,0,7))),(8,.i .i64 (n5:Nat)),(9,.i .i64 (i:Nat))])) n5 ⟨_,_,.refl _ _,0,[],t5,.sl none 0 0,by omega,by omega,hoM5,rfl,by simpa using hR5,X5a,by simpa using X5a.accNil 3 0,trivial,L5,X5a.lt _ _ g5a,g5a,by simp⟩ ?_)
 rintro m F Y5 ⟨i,ac5,s5,lv5,hi,rfl,ho5,hal,hres,X5,A5_0,sob5_0,LX,obl,g5,rfl⟩
 have C5:=X5.r6 C
 have gX:=C5.hg
 simp only [rdc] at gX
 simp only [y6.l0]
 refine AX.seq (AX.test (decide (i<n5)&&decide (s5.e=0)) [(4,.p (some (H.next,0,7))),(6,.p (some (xid,0,2))),(7,.p (some (B.next,0,7))),(8,.i .i64 (n5:Nat)),(9,.i .i64 (i:Nat)),(48,.b (decide (i<n5)&&decide (s5.e=0)))] ?_ rfl (fun hd=>AX.skip ?_) (fun hd=>AX.exit ?_))
 ·by_cases h1:i<n5
  ·simp [y6.r9,h1,C5.hr,gX]
  ·simp [y6.r9,h1]
 ·simp at hd
  obtain ⟨hin,he⟩:=hd
  rw [yds hin he] at hres
  simp
  refine AX.seq (AX.pblock (AX.drw ?_))
  have RA:=X5.upd (yc3 pool t s5).2
  have AA:=X5.acc A5_0 (yc3 pool t s5).2
  have LA:=LX.rd X5 (yc3 pool t s5).2
  have ga:(Y5.upd id (.cells (rdc t (yc3 pool t s5).2) 3)).get B.next=some (.cells [.s nm,.fs (gv.map fun x=>[.s x]),.fs (wn.map fun x=>[.s x]),.fs (kp.map fun x=>[.s x]),lv5,.sl none 0 0,.sl none 0 0] 7):=by simp [hob,g5]
  have hoA:=ygo (pool:=pool) ho5
  simp [y6.r10,g5]
  refine ywc _ _ (R6Obj_ok ht hpl ho5 C5) ?_
  generalize (yc3 pool t s5).1=x at *
  generalize (yc3 pool t s5).2=σa at *
  generalize Y5.upd id (.cells (rdc t σa) 3)=Ya at *
  obtain ⟨a4,l4,s4,Y4,e4,R4,A4,K4⟩:=RA.app (bytes:=56) AA (y62 x) rfl (by omega) rfl (by simp [yb7];omega)
  obtain ⟨g4,so4⟩:=K4 _ _ ga sob5_0
  have LD:=LA.app R4 K4
  simp only [y62] at e4
  simp [ga,ydi,-y59,e4,g4,show List.range 1=[0] from rfl,y62]
  have ol:=R4.lt _ _ g4
  apply jE
  simp [y6.r11,y5p (show i≤9223372036854775000 by omega)]
  exact ⟨n5-(i+1),by omega,_,_,.refl _ _,i+1,ac5++[x],σa,.sl a4 l4 s4,by omega,rfl,hoA,by simp [hal],by rw [hres];simp,R4.put (kF _) ol _,by simpa using A4.upd R4.dlt so4 (kF _) ol _,so4,LD.put R4 (kF _) ol LD.besideOb _,by simpa using ol,by simp,by simp⟩
 simp at hd
 have hRe:=ypf hres hi hd
 rw [hRe] at hS
 clear hres hR5 hoR5 hRe hd
 clear LX hi hal obl
 simp
 apply jA
 simp [y6.r12]
 refine AC.fix (ygk ht ho5 C5) ?_
 have hoM6:=yi1 ho5
 have hn6:=yi2 t s5
 obtain ⟨R6,hR6⟩:∃R,R=y3j t (yli pool t) s5:=⟨_,rfl⟩
 rw [←hR6] at hS
 have hoR6:y7q t R6.2:=by rw [hR6];exact y6n (fun _ h=>yk3 (pool:=pool) h) ho5
 rw [yi0] at hR6
 have X6a:=X5.upd (ycn t s5)
 have g6a:(Y5.upd id (.cells (rdc t (ycn t s5)) 3)).get B.next=some (.cells [.s nm,.fs (gv.map fun x=>[.s x]),.fs (wn.map fun x=>[.s x]),.fs (kp.map fun x=>[.s x]),lv5,.sl none 0 0,.sl none 0 0] 7):=by simp [hob,g5]
 have A6_0a:=X5.acc A5_0 (ycn t s5)
 generalize Y5.upd id (.cells (rdc t (ycn t s5)) 3)=Y6a at *
 generalize yke t s5=n6 at *
 generalize ycn t s5=t6 at *
 simp
 apply jB
 simp [y6.r13]
 have L6:AL (B.del id) B.next [(lv5,3,ac5.map y62)] (.sl none 0 0) Y6a:=(fun q hq=>by
  simp only [kJ,List.not_mem_nil,or_false] at hq
  rcases hq with rfl
  exact ⟨A6_0a,fun _=>.inr trivial,sob5_0⟩)
 refine AX.pblock (AX.loop (S6Inv t B id n6 B.next (yli pool t) y9n 3 R6 (fun lv=>[.s nm,.fs (gv.map fun x=>[.s x]),.fs (wn.map fun x=>[.s x]),.fs (kp.map fun x=>[.s x]),lv5,lv,.sl none 0 0]) [(lv5,3,ac5.map y62)] (fun i=>[(4,.p (some (H.next,0,7))),(6,.p (some (xid,0,2))),(7,.p (some (B.next,0,7))),(8,.i .i64 (n6:Nat)),(10,.i .i64 (i:Nat))])) n6 ⟨_,_,.refl _ _,0,[],t6,.sl none 0 0,by omega,by omega,hoM6,rfl,by simpa using hR6,X6a,by simpa using X6a.accNil 3 0,trivial,L6,X6a.lt _ _ g6a,g6a,by simp⟩ ?_)
 rintro m F Y6 ⟨i,ac6,s6,lv6,hi,rfl,ho6,hal,hres,X6,A6_1,sob6_1,LX,obl,g6,rfl⟩
 have C6:=X6.r6 C
 have gX:=C6.hg
 simp only [rdc] at gX
 simp only [y6.l1]
 refine AX.seq (AX.test (decide (i<n6)&&decide (s6.e=0)) [(4,.p (some (H.next,0,7))),(6,.p (some (xid,0,2))),(7,.p (some (B.next,0,7))),(8,.i .i64 (n6:Nat)),(10,.i .i64 (i:Nat)),(74,.b (decide (i<n6)&&decide (s6.e=0)))] ?_ rfl (fun hd=>AX.skip ?_) (fun hd=>AX.exit ?_))
 ·by_cases h1:i<n6
  ·simp [y6.r14,h1,C6.hr,gX]
  ·simp [y6.r14,h1]
 ·simp at hd
  obtain ⟨hin,he⟩:=hd
  rw [yds hin he] at hres
  simp
  rw [show yli pool t s6=(⟨(y2e pool t s6).1,(y2e pool t (y2e pool t s6).2).1,(y2e pool t (y2e pool t (y2e pool t s6).2).2).1⟩,(y2e pool t (y2e pool t (y2e pool t s6).2).2).2) from rfl] at hres
  apply jC
  simp [y6.r15]
  refine AC.fix (yc2 ht hpl ho6 C6) ?_
  have hu0:=y47 (pool:=pool) ho6
  have RA0:=X6.upd (y2e pool t s6).2
  have AA0:=X6.acc A6_1 (y2e pool t s6).2
  have LA0:=LX.rd X6 (y2e pool t s6).2
  have ga0:(Y6.upd id (.cells (rdc t (y2e pool t s6).2) 3)).get B.next=some (.cells [.s nm,.fs (gv.map fun x=>[.s x]),.fs (wn.map fun x=>[.s x]),.fs (kp.map fun x=>[.s x]),lv5,lv6,.sl none 0 0] 7):=by simp [hob,g6]
  generalize Y6.upd id (.cells (rdc t (y2e pool t s6).2) 3)=Ya0 at *
  generalize (y2e pool t s6).1=nm2 at *
  generalize (y2e pool t s6).2=u0 at *
  have hfi:Ya0.next≠id:=by have h:B.next≤Ya0.next:=RA0.ext.1;have:=RA0.hid;omega
  have hup:=ywp Ya0 (.cells [.s [],.s [],.s []] 3) (.cells [.s nm2,.s [],.s []] 3)
  simp [hup]
  have obj:=RA0.lt _ _ ga0
  have RB0:=RA0.add (.cells [.s nm2,.s [],.s []] 3)
  have AB0:=AA0.more (.add RA0.lt (.cells [.s nm2,.s [],.s []] 3)) (Hp.add_lt RA0.lt _)
  have LB0:=LA0.add RA0 (.cells [.s nm2,.s [],.s []] 3)
  have gb0:(Ya0.add (.cells [.s nm2,.s [],.s []] 3)).get B.next=some (.cells [.s nm,.fs (gv.map fun x=>[.s x]),.fs (wn.map fun x=>[.s x]),.fs (kp.map fun x=>[.s x]),lv5,lv6,.sl none 0 0] 7):=by rw [Hp.get_add,if_neg (by omega)];exact ga0
  have mb0:(Ya0.add (.cells [.s nm2,.s [],.s []] 3)).get Ya0.next=some (.cells [.s nm2,.s [],.s []] 3):=by simp
  have sfb:ydh lv6 Ya0.next:=AA0.slLt (kF _)
  have sls:=LA0.new (kF Ya0.next)
  have lom:B.next≤Ya0.next:=RA0.ext.1
  have hom:B.next≠Ya0.next:=by omega
  clear hup
  generalize Ya0.add (.cells [.s nm2,.s [],.s []] 3)=Yb0 at *
  generalize Ya0.next=fb at *
  have CB0:=RB0.r6 C
  apply jA
  simp [y6.r16]
  refine AC.fix (yc2 ht hpl hu0 CB0) ?_
  have hu1:=y47 (pool:=pool) hu0
  have RA1:=RB0.upd (y2e pool t u0).2
  have AA1:=RB0.acc AB0 (y2e pool t u0).2
  have LA1:=LB0.rd RB0 (y2e pool t u0).2
  have ga1:(Yb0.upd id (.cells (rdc t (y2e pool t u0).2) 3)).get B.next=some (.cells [.s nm,.fs (gv.map fun x=>[.s x]),.fs (wn.map fun x=>[.s x]),.fs (kp.map fun x=>[.s x]),lv5,lv6,.sl none 0 0] 7):=by simp [hob,gb0]
  have ma1:(Yb0.upd id (.cells (rdc t (y2e pool t u0).2) 3)).get fb=some (.cells [.s nm2,.s [],.s []] 3):=by simp [hfi,mb0]
  generalize Yb0.upd id (.cells (rdc t (y2e pool t u0).2) 3)=Ya1 at *
  generalize (y2e pool t u0).1=kd2 at *
  generalize (y2e pool t u0).2=u1 at *
  simp [ma1,ss]
  have ml1:=RA1.lt _ _ ma1
  have RB1:=RA1.put lom ml1 (.cells [.s nm2,.s kd2,.s []] 3)
  have AB1:=AA1.upd RA1.dlt sfb lom ml1 (.cells [.s nm2,.s kd2,.s []] 3)
  have LB1:=LA1.put RA1 lom ml1 sls (.cells [.s nm2,.s kd2,.s []] 3)
  have gb1:(Ya1.upd fb (.cells [.s nm2,.s kd2,.s []] 3)).get B.next=some (.cells [.s nm,.fs (gv.map fun x=>[.s x]),.fs (wn.map fun x=>[.s x]),.fs (kp.map fun x=>[.s x]),lv5,lv6,.sl none 0 0] 7):=by simp [hom,ga1]
  have mb1:(Ya1.upd fb (.cells [.s nm2,.s kd2,.s []] 3)).get fb=some (.cells [.s nm2,.s kd2,.s []] 3):=by simp
  generalize Ya1.upd fb (.cells [.s nm2,.s kd2,.s []] 3)=Yb1 at *
  have CB1:=RB1.r6 C
  apply jA
  simp [y6.r17]
  refine AC.fix (yc2 ht hpl hu1 CB1) ?_
  have hu2:=y47 (pool:=pool) hu1
  have RA2:=RB1.upd (y2e pool t u1).2
  have AA2:=RB1.acc AB1 (y2e pool t u1).2
  have LA2:=LB1.rd RB1 (y2e pool t u1).2
  have ga2:(Yb1.upd id (.cells (rdc t (y2e pool t u1).2) 3)).get B.next=some (.cells [.s nm,.fs (gv.map fun x=>[.s x]),.fs (wn.map fun x=>[.s x]),.fs (kp.map fun x=>[.s x]),lv5,lv6,.sl none 0 0] 7):=by simp [hob,gb1]
  have ma2:(Yb1.upd id (.cells (rdc t (y2e pool t u1).2) 3)).get fb=some (.cells [.s nm2,.s kd2,.s []] 3):=by simp [hfi,mb1]
  generalize Yb1.upd id (.cells (rdc t (y2e pool t u1).2) 3)=Ya2 at *
  generalize (y2e pool t u1).1=rt2 at *
  generalize (y2e pool t u1).2=u2 at *
  simp [ma2,ss]
  have ml2:=RA2.lt _ _ ma2
  have RB2:=RA2.put lom ml2 (.cells [.s nm2,.s kd2,.s rt2] 3)
  have AB2:=AA2.upd RA2.dlt sfb lom ml2 (.cells [.s nm2,.s kd2,.s rt2] 3)
  have LB2:=LA2.put RA2 lom ml2 sls (.cells [.s nm2,.s kd2,.s rt2] 3)
  have gb2:(Ya2.upd fb (.cells [.s nm2,.s kd2,.s rt2] 3)).get B.next=some (.cells [.s nm,.fs (gv.map fun x=>[.s x]),.fs (wn.map fun x=>[.s x]),.fs (kp.map fun x=>[.s x]),lv5,lv6,.sl none 0 0] 7):=by simp [hom,ga2]
  have mb2:(Ya2.upd fb (.cells [.s nm2,.s kd2,.s rt2] 3)).get fb=some (.cells [.s nm2,.s kd2,.s rt2] 3):=by simp
  generalize Ya2.upd fb (.cells [.s nm2,.s kd2,.s rt2] 3)=Yb2 at *
  obtain ⟨a4,l4,s4,Y4,e4,R4,A4,K4⟩:=RB2.app (bytes:=48) AB2 (y9n ⟨nm2,kd2,rt2⟩) rfl (by omega) rfl (by simp [yb7];omega)
  obtain ⟨g4,so4⟩:=K4 _ _ gb2 sob6_1
  have LD:=LB2.app R4 K4
  simp only [y9n,ss] at e4
  apply jE
  simp [y6.r18,gb2,mb2,ydi,-y59,e4,g4,show List.range 1=[0] from rfl]
  have ol:=R4.lt _ _ g4
  apply jE
  simp [y6.r19,y5p (show i≤9223372036854775000 by omega)]
  exact ⟨n6-(i+1),by omega,_,_,.refl _ _,i+1,ac6++[⟨nm2,kd2,rt2⟩],u2,.sl a4 l4 s4,by omega,rfl,hu2,by simp [hal],by rw [hres];simp,R4.put (kF _) ol _,by simpa using A4.upd R4.dlt so4 (kF _) ol _,so4,LD.put R4 (kF _) ol LD.besideOb _,by simpa using ol,by simp,by simp⟩
 simp at hd
 have hRe:=ypf hres hi hd
 rw [hRe] at hS
 clear hres hR6 hoR6 hRe hd
 have A6_0:=(LX (lv5,3,ac5.map y62) (by simp)).1
 have sob6_0:=(LX (lv5,3,ac5.map y62) (by simp)).2.2
 have dis6_0:=(LX (lv5,3,ac5.map y62) (by simp)).2.1
 clear LX hi hal obl
 simp
 apply jA
 simp [y6.r20]
 refine AC.fix (ygk ht ho6 C6) ?_
 have hoM7:=yi1 ho6
 have hn7:=yi2 t s6
 obtain ⟨R7,hR7⟩:∃R,R=y3j t (yf7 pool t) s6:=⟨_,rfl⟩
 rw [←hR7] at hS
 have hoR7:y7q t R7.2:=by rw [hR7];exact y6n (fun _ h=>yhu (pool:=pool) h) ho6
 rw [yi0] at hR7
 have X7a:=X6.upd (ycn t s6)
 have g7a:(Y6.upd id (.cells (rdc t (ycn t s6)) 3)).get B.next=some (.cells [.s nm,.fs (gv.map fun x=>[.s x]),.fs (wn.map fun x=>[.s x]),.fs (kp.map fun x=>[.s x]),lv5,lv6,.sl none 0 0] 7):=by simp [hob,g6]
 have A7_0a:=X6.acc A6_0 (ycn t s6)
 have A7_1a:=X6.acc A6_1 (ycn t s6)
 generalize Y6.upd id (.cells (rdc t (ycn t s6)) 3)=Y7a at *
 generalize yke t s6=n7 at *
 generalize ycn t s6=t7 at *
 simp
 apply jB
 simp [y6.r21]
 have L7:AL (B.del id) B.next [(lv5,3,ac5.map y62),(lv6,3,ac6.map y9n)] (.sl none 0 0) Y7a:=(fun q hq=>by
  simp only [kJ,List.not_mem_nil,or_false] at hq
  rcases hq with rfl | rfl
  exact ⟨A7_0a,fun _=>.inr trivial,sob6_0⟩
  exact ⟨A7_1a,fun _=>.inr trivial,sob6_1⟩)
 refine AX.pblock (AX.loop (S6Inv t B id n7 B.next (yf7 pool t) y6i 6 R7 (fun lv=>[.s nm,.fs (gv.map fun x=>[.s x]),.fs (wn.map fun x=>[.s x]),.fs (kp.map fun x=>[.s x]),lv5,lv6,lv]) [(lv5,3,ac5.map y62),(lv6,3,ac6.map y9n)] (fun i=>[(4,.p (some (H.next,0,7))),(6,.p (some (xid,0,2))),(7,.p (some (B.next,0,7))),(8,.i .i64 (n7:Nat)),(12,.i .i64 (i:Nat))])) n7 ⟨_,_,.refl _ _,0,[],t7,.sl none 0 0,by omega,by omega,hoM7,rfl,by simpa using hR7,X7a,by simpa using X7a.accNil 6 0,trivial,L7,X7a.lt _ _ g7a,g7a,by simp⟩ ?_)
 rintro m F Y7 ⟨i,ac7,s7,lv7,hi,rfl,ho7,hal,hres,X7,A7_2,sob7_2,LX,obl,g7,rfl⟩
 have C7:=X7.r6 C
 have gX:=C7.hg
 simp only [rdc] at gX
 simp only [y6.l2]
 refine AX.seq (AX.test (decide (i<n7)&&decide (s7.e=0)) [(4,.p (some (H.next,0,7))),(6,.p (some (xid,0,2))),(7,.p (some (B.next,0,7))),(8,.i .i64 (n7:Nat)),(12,.i .i64 (i:Nat)),(108,.b (decide (i<n7)&&decide (s7.e=0)))] ?_ rfl (fun hd=>AX.skip ?_) (fun hd=>AX.exit ?_))
 ·by_cases h1:i<n7
  ·simp [y6.r22,h1,C7.hr,gX]
  ·simp [y6.r22,h1]
 ·simp at hd
  obtain ⟨hin,he⟩:=hd
  rw [yds hin he] at hres
  simp
  rw [show yf7 pool t s7=(⟨((y33 t s7).1:Nat),(y2e pool t (y33 t s7).2).1,(y2e pool t (y2e pool t (y33 t s7).2).2).1,((y33 t (y2e pool t (y2e pool t (y33 t s7).2).2).2).1:Nat),(y2e pool t (y33 t (y2e pool t (y2e pool t (y33 t s7).2).2).2).2).1,(y3j t (y2e pool t) (y2e pool t (y33 t (y2e pool t (y2e pool t (y33 t s7).2).2).2).2).2).1⟩,(y3j t (y2e pool t) (y2e pool t (y33 t (y2e pool t (y2e pool t (y33 t s7).2).2).2).2).2).2) from rfl] at hres
  apply jC
  simp [y6.r23,C7.hr]
  refine AC.fix (y80 ho7 (by omega) C7.hg) ?_
  have hu0:=(y6d ho7).1
  have RA0:=X7.upd (y33 t s7).2
  have AA0:=X7.acc A7_2 (y33 t s7).2
  have LA0:=LX.rd X7 (y33 t s7).2
  have ga0:(Y7.upd id (.cells (rdc t (y33 t s7).2) 3)).get B.next=some (.cells [.s nm,.fs (gv.map fun x=>[.s x]),.fs (wn.map fun x=>[.s x]),.fs (kp.map fun x=>[.s x]),lv5,lv6,lv7] 7):=by simp [hob,g7]
  generalize Y7.upd id (.cells (rdc t (y33 t s7).2) 3)=Ya0 at *
  generalize (y33 t s7).1=op2 at *
  generalize (y33 t s7).2=u0 at *
  have hfi:Ya0.next≠id:=by have h:B.next≤Ya0.next:=RA0.ext.1;have:=RA0.hid;omega
  have hup:=ywp Ya0 (.cells [.i .i64 0,.s [],.s [],.i .i64 0,.s [],.sl none 0 0] 6) (.cells [.i .i64 (op2:Nat),.s [],.s [],.i .i64 0,.s [],.sl none 0 0] 6)
  simp [hup]
  have obj:=RA0.lt _ _ ga0
  have RB0:=RA0.add (.cells [.i .i64 (op2:Nat),.s [],.s [],.i .i64 0,.s [],.sl none 0 0] 6)
  have AB0:=AA0.more (.add RA0.lt (.cells [.i .i64 (op2:Nat),.s [],.s [],.i .i64 0,.s [],.sl none 0 0] 6)) (Hp.add_lt RA0.lt _)
  have LB0:=LA0.add RA0 (.cells [.i .i64 (op2:Nat),.s [],.s [],.i .i64 0,.s [],.sl none 0 0] 6)
  have gb0:(Ya0.add (.cells [.i .i64 (op2:Nat),.s [],.s [],.i .i64 0,.s [],.sl none 0 0] 6)).get B.next=some (.cells [.s nm,.fs (gv.map fun x=>[.s x]),.fs (wn.map fun x=>[.s x]),.fs (kp.map fun x=>[.s x]),lv5,lv6,lv7] 7):=by rw [Hp.get_add,if_neg (by omega)];exact ga0
  have mb0:(Ya0.add (.cells [.i .i64 (op2:Nat),.s [],.s [],.i .i64 0,.s [],.sl none 0 0] 6)).get Ya0.next=some (.cells [.i .i64 (op2:Nat),.s [],.s [],.i .i64 0,.s [],.sl none 0 0] 6):=by simp
  have sfb:ydh lv7 Ya0.next:=AA0.slLt (kF _)
  have sls:=LA0.new (kF Ya0.next)
  have lom:B.next≤Ya0.next:=RA0.ext.1
  have hom:B.next≠Ya0.next:=by omega
  clear hup
  generalize Ya0.add (.cells [.i .i64 (op2:Nat),.s [],.s [],.i .i64 0,.s [],.sl none 0 0] 6)=Yb0 at *
  generalize Ya0.next=fb at *
  have CB0:=RB0.r6 C
  apply jA
  simp [y6.r24]
  refine AC.fix (yc2 ht hpl hu0 CB0) ?_
  have hu1:=y47 (pool:=pool) hu0
  have RA1:=RB0.upd (y2e pool t u0).2
  have AA1:=RB0.acc AB0 (y2e pool t u0).2
  have LA1:=LB0.rd RB0 (y2e pool t u0).2
  have ga1:(Yb0.upd id (.cells (rdc t (y2e pool t u0).2) 3)).get B.next=some (.cells [.s nm,.fs (gv.map fun x=>[.s x]),.fs (wn.map fun x=>[.s x]),.fs (kp.map fun x=>[.s x]),lv5,lv6,lv7] 7):=by simp [hob,gb0]
  have ma1:(Yb0.upd id (.cells (rdc t (y2e pool t u0).2) 3)).get fb=some (.cells [.i .i64 (op2:Nat),.s [],.s [],.i .i64 0,.s [],.sl none 0 0] 6):=by simp [hfi,mb0]
  generalize Yb0.upd id (.cells (rdc t (y2e pool t u0).2) 3)=Ya1 at *
  generalize (y2e pool t u0).1=a2 at *
  generalize (y2e pool t u0).2=u1 at *
  simp [ma1,ss]
  have ml1:=RA1.lt _ _ ma1
  have RB1:=RA1.put lom ml1 (.cells [.i .i64 (op2:Nat),.s a2,.s [],.i .i64 0,.s [],.sl none 0 0] 6)
  have AB1:=AA1.upd RA1.dlt sfb lom ml1 (.cells [.i .i64 (op2:Nat),.s a2,.s [],.i .i64 0,.s [],.sl none 0 0] 6)
  have LB1:=LA1.put RA1 lom ml1 sls (.cells [.i .i64 (op2:Nat),.s a2,.s [],.i .i64 0,.s [],.sl none 0 0] 6)
  have gb1:(Ya1.upd fb (.cells [.i .i64 (op2:Nat),.s a2,.s [],.i .i64 0,.s [],.sl none 0 0] 6)).get B.next=some (.cells [.s nm,.fs (gv.map fun x=>[.s x]),.fs (wn.map fun x=>[.s x]),.fs (kp.map fun x=>[.s x]),lv5,lv6,lv7] 7):=by simp [hom,ga1]
  have mb1:(Ya1.upd fb (.cells [.i .i64 (op2:Nat),.s a2,.s [],.i .i64 0,.s [],.sl none 0 0] 6)).get fb=some (.cells [.i .i64 (op2:Nat),.s a2,.s [],.i .i64 0,.s [],.sl none 0 0] 6):=by simp
  generalize Ya1.upd fb (.cells [.i .i64 (op2:Nat),.s a2,.s [],.i .i64 0,.s [],.sl none 0 0] 6)=Yb1 at *
  have CB1:=RB1.r6 C
  apply jA
  simp [y6.r25]
  refine AC.fix (yc2 ht hpl hu1 CB1) ?_
  have hu2:=y47 (pool:=pool) hu1
  have RA2:=RB1.upd (y2e pool t u1).2
  have AA2:=RB1.acc AB1 (y2e pool t u1).2
  have LA2:=LB1.rd RB1 (y2e pool t u1).2
  have ga2:(Yb1.upd id (.cells (rdc t (y2e pool t u1).2) 3)).get B.next=some (.cells [.s nm,.fs (gv.map fun x=>[.s x]),.fs (wn.map fun x=>[.s x]),.fs (kp.map fun x=>[.s x]),lv5,lv6,lv7] 7):=by simp [hob,gb1]
  have ma2:(Yb1.upd id (.cells (rdc t (y2e pool t u1).2) 3)).get fb=some (.cells [.i .i64 (op2:Nat),.s a2,.s [],.i .i64 0,.s [],.sl none 0 0] 6):=by simp [hfi,mb1]
  generalize Yb1.upd id (.cells (rdc t (y2e pool t u1).2) 3)=Ya2 at *
  generalize (y2e pool t u1).1=b2 at *
  generalize (y2e pool t u1).2=u2 at *
  simp [ma2,ss]
  have ml2:=RA2.lt _ _ ma2
  have RB2:=RA2.put lom ml2 (.cells [.i .i64 (op2:Nat),.s a2,.s b2,.i .i64 0,.s [],.sl none 0 0] 6)
  have AB2:=AA2.upd RA2.dlt sfb lom ml2 (.cells [.i .i64 (op2:Nat),.s a2,.s b2,.i .i64 0,.s [],.sl none 0 0] 6)
  have LB2:=LA2.put RA2 lom ml2 sls (.cells [.i .i64 (op2:Nat),.s a2,.s b2,.i .i64 0,.s [],.sl none 0 0] 6)
  have gb2:(Ya2.upd fb (.cells [.i .i64 (op2:Nat),.s a2,.s b2,.i .i64 0,.s [],.sl none 0 0] 6)).get B.next=some (.cells [.s nm,.fs (gv.map fun x=>[.s x]),.fs (wn.map fun x=>[.s x]),.fs (kp.map fun x=>[.s x]),lv5,lv6,lv7] 7):=by simp [hom,ga2]
  have mb2:(Ya2.upd fb (.cells [.i .i64 (op2:Nat),.s a2,.s b2,.i .i64 0,.s [],.sl none 0 0] 6)).get fb=some (.cells [.i .i64 (op2:Nat),.s a2,.s b2,.i .i64 0,.s [],.sl none 0 0] 6):=by simp
  generalize Ya2.upd fb (.cells [.i .i64 (op2:Nat),.s a2,.s b2,.i .i64 0,.s [],.sl none 0 0] 6)=Yb2 at *
  have CB2:=RB2.r6 C
  apply jA
  simp [y6.r26,CB2.hr]
  refine AC.fix (y80 hu2 (by omega) CB2.hg) ?_
  have hu3:=(y6d hu2).1
  have RA3:=RB2.upd (y33 t u2).2
  have AA3:=RB2.acc AB2 (y33 t u2).2
  have LA3:=LB2.rd RB2 (y33 t u2).2
  have ga3:(Yb2.upd id (.cells (rdc t (y33 t u2).2) 3)).get B.next=some (.cells [.s nm,.fs (gv.map fun x=>[.s x]),.fs (wn.map fun x=>[.s x]),.fs (kp.map fun x=>[.s x]),lv5,lv6,lv7] 7):=by simp [hob,gb2]
  have ma3:(Yb2.upd id (.cells (rdc t (y33 t u2).2) 3)).get fb=some (.cells [.i .i64 (op2:Nat),.s a2,.s b2,.i .i64 0,.s [],.sl none 0 0] 6):=by simp [hfi,mb2]
  generalize Yb2.upd id (.cells (rdc t (y33 t u2).2) 3)=Ya3 at *
  generalize (y33 t u2).1=kk2 at *
  generalize (y33 t u2).2=u3 at *
  simp [ma3,ss]
  have ml3:=RA3.lt _ _ ma3
  have RB3:=RA3.put lom ml3 (.cells [.i .i64 (op2:Nat),.s a2,.s b2,.i .i64 (kk2:Nat),.s [],.sl none 0 0] 6)
  have AB3:=AA3.upd RA3.dlt sfb lom ml3 (.cells [.i .i64 (op2:Nat),.s a2,.s b2,.i .i64 (kk2:Nat),.s [],.sl none 0 0] 6)
  have LB3:=LA3.put RA3 lom ml3 sls (.cells [.i .i64 (op2:Nat),.s a2,.s b2,.i .i64 (kk2:Nat),.s [],.sl none 0 0] 6)
  have gb3:(Ya3.upd fb (.cells [.i .i64 (op2:Nat),.s a2,.s b2,.i .i64 (kk2:Nat),.s [],.sl none 0 0] 6)).get B.next=some (.cells [.s nm,.fs (gv.map fun x=>[.s x]),.fs (wn.map fun x=>[.s x]),.fs (kp.map fun x=>[.s x]),lv5,lv6,lv7] 7):=by simp [hom,ga3]
  have mb3:(Ya3.upd fb (.cells [.i .i64 (op2:Nat),.s a2,.s b2,.i .i64 (kk2:Nat),.s [],.sl none 0 0] 6)).get fb=some (.cells [.i .i64 (op2:Nat),.s a2,.s b2,.i .i64 (kk2:Nat),.s [],.sl none 0 0] 6):=by simp
  generalize Ya3.upd fb (.cells [.i .i64 (op2:Nat),.s a2,.s b2,.i .i64 (kk2:Nat),.s [],.sl none 0 0] 6)=Yb3 at *
  have CB3:=RB3.r6 C
  apply jA
  simp [y6.r27]
  refine AC.fix (yc2 ht hpl hu3 CB3) ?_
  have hu4:=y47 (pool:=pool) hu3
  have RA4:=RB3.upd (y2e pool t u3).2
  have AA4:=RB3.acc AB3 (y2e pool t u3).2
  have LA4:=LB3.rd RB3 (y2e pool t u3).2
  have ga4:(Yb3.upd id (.cells (rdc t (y2e pool t u3).2) 3)).get B.next=some (.cells [.s nm,.fs (gv.map fun x=>[.s x]),.fs (wn.map fun x=>[.s x]),.fs (kp.map fun x=>[.s x]),lv5,lv6,lv7] 7):=by simp [hob,gb3]
  have ma4:(Yb3.upd id (.cells (rdc t (y2e pool t u3).2) 3)).get fb=some (.cells [.i .i64 (op2:Nat),.s a2,.s b2,.i .i64 (kk2:Nat),.s [],.sl none 0 0] 6):=by simp [hfi,mb3]
  generalize Yb3.upd id (.cells (rdc t (y2e pool t u3).2) 3)=Ya4 at *
  generalize (y2e pool t u3).1=tg2 at *
  generalize (y2e pool t u3).2=u4 at *
  simp [ma4,ss]
  have ml4:=RA4.lt _ _ ma4
  have RB4:=RA4.put lom ml4 (.cells [.i .i64 (op2:Nat),.s a2,.s b2,.i .i64 (kk2:Nat),.s tg2,.sl none 0 0] 6)
  have AB4:=AA4.upd RA4.dlt sfb lom ml4 (.cells [.i .i64 (op2:Nat),.s a2,.s b2,.i .i64 (kk2:Nat),.s tg2,.sl none 0 0] 6)
  have LB4:=LA4.put RA4 lom ml4 sls (.cells [.i .i64 (op2:Nat),.s a2,.s b2,.i .i64 (kk2:Nat),.s tg2,.sl none 0 0] 6)
  have gb4:(Ya4.upd fb (.cells [.i .i64 (op2:Nat),.s a2,.s b2,.i .i64 (kk2:Nat),.s tg2,.sl none 0 0] 6)).get B.next=some (.cells [.s nm,.fs (gv.map fun x=>[.s x]),.fs (wn.map fun x=>[.s x]),.fs (kp.map fun x=>[.s x]),lv5,lv6,lv7] 7):=by simp [hom,ga4]
  have mb4:(Ya4.upd fb (.cells [.i .i64 (op2:Nat),.s a2,.s b2,.i .i64 (kk2:Nat),.s tg2,.sl none 0 0] 6)).get fb=some (.cells [.i .i64 (op2:Nat),.s a2,.s b2,.i .i64 (kk2:Nat),.s tg2,.sl none 0 0] 6):=by simp
  generalize Ya4.upd fb (.cells [.i .i64 (op2:Nat),.s a2,.s b2,.i .i64 (kk2:Nat),.s tg2,.sl none 0 0] 6)=Yb4 at *
  have CB4:=RB4.r6 C
  apply jA
  simp [y6.r28]
  refine AC.fix (ygu ht hpl hu4 CB4) ?_
  have hu5:=y6n (fun _ h=>y47 (pool:=pool) h) hu4
  have RA5:=RB4.upd (y3j t (y2e pool t) u4).2
  have AA5:=RB4.acc AB4 (y3j t (y2e pool t) u4).2
  have LA5:=LB4.rd RB4 (y3j t (y2e pool t) u4).2
  have ga5:(Yb4.upd id (.cells (rdc t (y3j t (y2e pool t) u4).2) 3)).get B.next=some (.cells [.s nm,.fs (gv.map fun x=>[.s x]),.fs (wn.map fun x=>[.s x]),.fs (kp.map fun x=>[.s x]),lv5,lv6,lv7] 7):=by simp [hob,gb4]
  have ma5:(Yb4.upd id (.cells (rdc t (y3j t (y2e pool t) u4).2) 3)).get fb=some (.cells [.i .i64 (op2:Nat),.s a2,.s b2,.i .i64 (kk2:Nat),.s tg2,.sl none 0 0] 6):=by simp [hfi,mb4]
  generalize Yb4.upd id (.cells (rdc t (y3j t (y2e pool t) u4).2) 3)=Ya5 at *
  generalize (y3j t (y2e pool t) u4).1=al2 at *
  generalize (y3j t (y2e pool t) u4).2=u5 at *
  simp [ma5,ss]
  have ml5:=RA5.lt _ _ ma5
  have RB5:=RA5.put lom ml5 (.cells [.i .i64 (op2:Nat),.s a2,.s b2,.i .i64 (kk2:Nat),.s tg2,.fs (al2.map fun x=>[.s x])] 6)
  have AB5:=AA5.upd RA5.dlt sfb lom ml5 (.cells [.i .i64 (op2:Nat),.s a2,.s b2,.i .i64 (kk2:Nat),.s tg2,.fs (al2.map fun x=>[.s x])] 6)
  have LB5:=LA5.put RA5 lom ml5 sls (.cells [.i .i64 (op2:Nat),.s a2,.s b2,.i .i64 (kk2:Nat),.s tg2,.fs (al2.map fun x=>[.s x])] 6)
  have gb5:(Ya5.upd fb (.cells [.i .i64 (op2:Nat),.s a2,.s b2,.i .i64 (kk2:Nat),.s tg2,.fs (al2.map fun x=>[.s x])] 6)).get B.next=some (.cells [.s nm,.fs (gv.map fun x=>[.s x]),.fs (wn.map fun x=>[.s x]),.fs (kp.map fun x=>[.s x]),lv5,lv6,lv7] 7):=by simp [hom,ga5]
  have mb5:(Ya5.upd fb (.cells [.i .i64 (op2:Nat),.s a2,.s b2,.i .i64 (kk2:Nat),.s tg2,.fs (al2.map fun x=>[.s x])] 6)).get fb=some (.cells [.i .i64 (op2:Nat),.s a2,.s b2,.i .i64 (kk2:Nat),.s tg2,.fs (al2.map fun x=>[.s x])] 6):=by simp
  generalize Ya5.upd fb (.cells [.i .i64 (op2:Nat),.s a2,.s b2,.i .i64 (kk2:Nat),.s tg2,.fs (al2.map fun x=>[.s x])] 6)=Yb5 at *
  obtain ⟨a4,l4,s4,Y4,e4,R4,A4,K4⟩:=RB5.app (bytes:=88) AB5 (y6i ⟨(op2:Nat),a2,b2,(kk2:Nat),tg2,al2⟩) rfl (by omega) rfl (by simp [yb7];omega)
  obtain ⟨g4,so4⟩:=K4 _ _ gb5 sob7_2
  have LD:=LB5.app R4 K4
  simp only [y6i,ss] at e4
  apply jE
  simp [y6.r29,gb5,mb5,ydi,-y59,e4,g4,show List.range 1=[0] from rfl]
  have ol:=R4.lt _ _ g4
  apply jE
  simp [y6.r30,y5p (show i≤9223372036854775000 by omega)]
  exact ⟨n7-(i+1),by omega,_,_,.refl _ _,i+1,ac7++[⟨(op2:Nat),a2,b2,(kk2:Nat),tg2,al2⟩],u5,.sl a4 l4 s4,by omega,rfl,hu5,by simp [hal],by rw [hres];simp,R4.put (kF _) ol _,by simpa using A4.upd R4.dlt so4 (kF _) ol _,so4,LD.put R4 (kF _) ol LD.besideOb _,by simpa using ol,by simp,by simp⟩
 simp at hd
 have hRe:=ypf hres hi hd
 rw [hRe] at hS
 clear hres hR7 hoR7 hRe hd
 have A7_0:=(LX (lv5,3,ac5.map y62) (by simp)).1
 have sob7_0:=(LX (lv5,3,ac5.map y62) (by simp)).2.2
 have dis7_0:=(LX (lv5,3,ac5.map y62) (by simp)).2.1
 have A7_1:=(LX (lv6,3,ac6.map y9n) (by simp)).1
 have sob7_1:=(LX (lv6,3,ac6.map y9n) (by simp)).2.2
 have dis7_1:=(LX (lv6,3,ac6.map y9n) (by simp)).2.1
 clear LX hi hal obl
 simp
 apply jA
 simp [y6.r31,C7.hr]
 refine AC.fix (ym5 C7.hg) ?_
 have hR2:=hR _ _ hS
 clear hR hS
 generalize y7y t s7=e at *
 have q7:=hq X7
 obtain ⟨p5,n5',z5,rfl⟩:=A7_0.isSl
 obtain ⟨p6,n6',z6,rfl⟩:=A7_1.isSl
 obtain ⟨p7,n7',z7,rfl⟩:=A7_2.isSl
 simp
 apply jB
 simp [y6.r32]
 by_cases he:e=0
 ·subst he
  refine jF (by simp) (AX.skip ?_)
  simp
  apply jA
  simp [y6.r34,g7,q7]
  apply jD
  rw [if_neg (by simp)] at hR2
  simp [hR2]
  refine ⟨hfin2 _ X7,y8f (.agg _ _ rfl fun j u v hu hv=>?_)⟩
  have fz:∀{sz:Nat} {v:V} {es:List (List V)},Acc (B.del id) sz v Y7 es→Frz (Y7.upd H.next (.cells [.s nm,.fs (gv.map fun x=>[.s x]),.fs (wn.map fun x=>[.s x]),.fs (kp.map fun x=>[.s x]),.sl p5 n5' z5,.sl p6 n6' z6,.sl p7 n7' z7] 7)) (fun k=>H.next≤k) v (.fs es):=fun A=>by
   have:=(A.frz).mono (S':=fun k=>H.next≤k) (fun i (h:B.next≤i)=>by omega)
   rcases A.sl with ⟨h0,z,rfl⟩ | ⟨k,m,h1,rfl,h2,h3⟩
   ·subst h0;exact .sl0 z
   ·have h1':B.next≤k:=h1
    refine .sl k 0 _ _ _ m _ _ (by omega) (by rw [Hp.get_upd,if_neg (by omega)];exact h2) h3 (kF _) rfl A.all (fun i j e v hi hj=>?_) (fun i j e v u hi hj hu=>?_)
    ·have:=ydq A.all hi hj
     have:=(List.getElem?_eq_some_iff.1 this).1
     simpa using this
    ·have:=ydq A.all hi hj
     rw [Nat.zero_add,this] at hu;injection hu with hu;subst hu;exact .refl _
  match j with
  | 0=>simp [y61] at hu hv;subst hu;subst hv;exact .refl _
  | 1=>simp [y61,ss] at hu hv;subst hu;subst hv;exact .refl _
  | 2=>simp [y61,ss] at hu hv;subst hu;subst hv;exact .refl _
  | 3=>simp [y61,ss] at hu hv;subst hu;subst hv;exact .refl _
  | 4=>simp [y61] at hu hv;subst hu;subst hv;exact fz A7_0
  | 5=>simp [y61] at hu hv;subst hu;subst hv;exact fz A7_1
  | 6=>simp [y61] at hu hv;subst hu;subst hv;exact fz A7_2
  | j+7=>simp at hu
 ·refine jG (by simp [he]) ?_
  apply jA
  simp [y6.r33,q7]
  apply jD
  rw [if_pos he] at hR2
  simp [hR2]
  exact ⟨hfin2 _ X7,y8f yad⟩
end Go.Proofs.YthmkcebbeehbeaaGreatDoor
