/- Part 34 of the proof of the laws of the queries: RdC, RdX, Bld, BldS, BldA, BldW. -/
import Derived.Shelf.Strings.Builder1
import Derived.WalkKit
import Derived.BigCall
import Derived.Test.YthmkcebbeehbeaaGreatDoorXTw17
import Derived.Test.YthmkcebbeehbeaaGreatDoorXTw19
import Derived.Test.YthmkcebbeehbeaaGreatDoorXTw20
import Derived.Test.YthmkcebbeehbeaaGreatDoorXTw24
import Derived.Test.YthmkcebbeehbeaaGreatDoorXTw27
import Derived.Test.YthmkcebbeehbeaaGreatDoorXTw33
set_option linter.unusedSimpArgs false
set_option linter.unusedVariables false
namespace Go.Proofs.YthmkcebbeehbeaaGreatDoor
open Am C
section
variable {t:Str} {σ:Rd} {id:Nat} {H:Hp}
theorem Zero_ok (n:Nat) (X:Hp):AC Tryz.prog y6q [.i .i64 (n:Nat)] X (fun v X'=>v=.i .i64 ((0:Nat):Int)∧X'=X):=by
  refine AC.code y2p.at y2p.ok ?_
  simp only [y2p]
  apply jA
  simp [y2p.r0]
  apply jA
  simp [y2p.r1]
  apply jD
  simp
theorem Self_ok (n:Nat) (X:Hp):AC Tryz.prog y77 [.i .i64 (n:Nat)] X (fun v X'=>v=.i .i64 (n:Nat)∧X'=X):=by
  refine AC.code y2u.at y2u.ok ?_
  simp only [y2u]
  apply jA
  simp [y2u.r0]
  apply jA
  simp [y2u.r1]
  apply jD
  simp
theorem take_num (t:Str) (σ:Rd) (ho:y6y t σ):(y9u (fun _=>0) t σ).1=(y3f t σ).1∧(y9u (fun _=>0) t σ).2.2=(y3f t σ).2:=by
  have:=ye7 t σ ho.1
  unfold y9u y3f
  split
  · simp
  · split
    · simp
    · have h0:¬t.length<σ.pos+(rdL t σ).2.1+0:=by omega
      rw [if_neg h0];simp
theorem take_txt (t:Str) (σ:Rd):(y9u (fun n=>n) t σ).2.1=(y7c t σ).1∧(y9u (fun n=>n) t σ).2.2=(y7c t σ).2:=by
  unfold y9u y7c
  split
  · simp
  · split
    · simp
    · split <;> simp
theorem y7j (ho:y6y t σ) (ht:t.length≤140737488351232) (hg:H.get id=some (.cells (rdc t σ) 3)):
    AC Tryz.prog y2q [.p (some (id,0,3))] H (fun v H'=>v=.i .i64 ((y3f t σ).1:Nat)∧H'=H.upd id (.cells (rdc t (y3f t σ).2) 3)):=by
  refine AC.code y2i.at y2i.ok ?_
  simp only [y2i]
  apply jA
  simp [y2i.r0]
  apply jA
  simp [y2i.r1]
  refine AC.fix (yrk (fun _=>0) y6q Zero_ok (fun n=>Nat.zero_le _) ho ht hg) ?_
  obtain ⟨h1,h2⟩:=take_num t σ ho
  rw [h1,h2]
  simp
  apply jA
  simp [y2i.r2]
  apply jD
  simp
theorem yk1 (ho:y6y t σ) (ht:t.length≤140737488351232) (hg:H.get id=some (.cells (rdc t σ) 3)):
    AC Tryz.prog y6n [.p (some (id,0,3))] H (fun v H'=>v=.s (y7c t σ).1∧H'=H.upd id (.cells (rdc t (y7c t σ).2) 3)):=by
  refine AC.code y2n.at y2n.ok ?_
  simp only [y2n]
  apply jA
  simp [y2n.r0]
  apply jA
  simp [y2n.r1]
  refine AC.fix (yrk (fun n=>n) y77 Self_ok (fun n=>Nat.le_refl _) ho ht hg) ?_
  obtain ⟨h1,h2⟩:=take_txt t σ
  rw [h1,h2]
  simp
  apply jA
  simp [y2n.r2]
  apply jD
  simp
theorem yns {f:Go.FuncId} {fn:Go.Func} (hf:Tryz.prog.funcs[f]?=some fn) (hok:y1o Tryz.prog fn y2x=true) (hg:H.get id=some (.cells (rdc t σ) 3)) (x:Int):
    AC Tryz.prog f [.p (some (id,0,3)),.i .i64 x] H (fun v H'=>v=.tup []∧H'=H.upd id (.cells (rdc t (y5k σ x)) 3)):=by
  unfold rdc at hg
  refine AC.code hf hok ?_
  simp only [y2x]
  apply jA
  simp [y2x.r0,hg]
  by_cases he:σ.e=0
  · refine jG (by simp [he]) (AX.reg ?_)
    simp [y2x.r1,hg,y5k,he,rdc]
  · refine jF (by simp [he]) (AX.skip ?_)
    simp [y5k,he,rdc]
    exact (Hp.upd_self hg).symm
theorem ycj (hg:H.get id=some (.cells (rdc t σ) 3)) (x:Int):AC Tryz.prog y3m [.p (some (id,0,3)),.i .i64 x] H (fun v H'=>v=.tup []∧H'=H.upd id (.cells (rdc t (y5k σ x)) 3)):=
  yns y2x.at y2x.ok hg x
theorem ynt {f:Go.FuncId} {fn:Go.Func} (hf:Tryz.prog.funcs[f]?=some fn) (hok:y1o Tryz.prog fn y23=true) (hg:H.get id=some (.cells (rdc t σ) 3)):
    AC Tryz.prog f [.p (some (id,0,3))] H (fun v H'=>v=.tup [.i .i64 σ.pos,.i .i64 (y78 t σ)]∧H'=H):=by
  unfold rdc at hg
  refine AC.code hf hok ?_
  simp only [y23]
  apply jA
  simp [y23.r0]
  refine AX.seq (AX.testD (decide (σ.e=0)&&decide (σ.pos<t.length)) [(0,.p (some (id,0,3))),(20,.b (decide (σ.e=0)&&decide (σ.pos<t.length)))] ?_ rfl (fun h1=>?_) (fun h1=>AX.skip ?_))
  · by_cases h1:σ.e=0
    · simp [y23.r1,hg,h1]
    · simp [y23.r1,hg,h1]
  · simp at h1
    apply jA
    simp [y23.r2,hg]
    apply jD
    simp [y78,h1]
  · simp at h1
    have h2:y78 t σ=σ.e:=by unfold y78;rw [if_neg (fun h=>by have:=h1 h.1;omega)]
    simp
    refine AX.seq (AX.drw ?_)
    simp [y23.r3,hg]
    apply jD
    simp [h2]
theorem ydv (hg:H.get id=some (.cells (rdc t σ) 3)):AC Tryz.prog y4k [.p (some (id,0,3))] H (fun v H'=>v=.tup [.i .i64 σ.pos,.i .i64 (y78 t σ)]∧H'=H):=
  ynt y23.at y23.ok hg
theorem yn0 (t:Str) (H:Hp):AC Tryz.prog yae [.s t] H (fun v H'=>v=.p (some (H.next,0,3))∧H'=H.add (.cells (rdc t ⟨0,0⟩) 3)):=by
  refine AC.code y4n.at y4n.ok ?_
  simp only [y4n]
  apply jA
  simp [y4n.r0]
  apply jA
  simp [y4n.r1]
  apply jD
  simp [rdc]
theorem yjz {f:Go.FuncId} {fn:Go.Func} (hf:Tryz.prog.funcs[f]?=some fn) (hok:y1o Tryz.prog fn y35=true) (ho:y6y t σ) (hg:H.get id=some (.cells (rdc t σ) 3)):
    AC Tryz.prog f [.p (some (id,0,3))] H (fun v H'=>v=.i .i64 σ.e∧H'=H):=by
  refine AC.code hf hok ?_
  simp only [y35]
  apply jA
  simp [y35.r0]
  apply jB
  simp [y35.r1]
  refine AC.fix (ydv hg) ?_
  simp
  apply jA
  simp [y35.r2]
  by_cases h:y78 t σ=6
  · refine jF (by simp [h]) (AX.skip ?_)
    simp
    apply jA
    simp [y35.r4]
    apply jD
    have:σ.e=0:=by
      unfold y78 at h
      split at h
      · rename_i h';exact h'.1
      · exact (ho.2.2.2 h).elim
    simp [this]
  · refine jG (by simp [h]) ?_
    apply jA
    simp [y35.r3]
    apply jD
    have:y78 t σ=σ.e:=by
      unfold y78 at h ⊢
      split at h
      · exact (h rfl).elim
      · rename_i h';rw [if_neg h']
    simp [this]
theorem ygh (ho:y6y t σ) (hg:H.get id=some (.cells (rdc t σ) 3)):AC Tryz.prog y9d [.p (some (id,0,3))] H (fun v H'=>v=.i .i64 σ.e∧H'=H):=yjz y35.at y35.ok ho hg
theorem yrl (ho:y6y t σ) (hg:H.get id=some (.cells (rdc t σ) 3)):AC Tryz.prog ya0 [.p (some (id,0,3))] H (fun v H'=>v=.i .i64 σ.e∧H'=H):=yjz y3k.at y3k.ok ho hg
end
section
open Go Go.RowKit
theorem Am.AC.codeU {P:Program} {f:FuncId} {fn:Func} {a:AFunc} (hf:P.funcs[f]?=some fn) (hok:y1o P fn a=true) {args:List V} {H:Hp} {r:V} {id m:Nat} {cs:List V} {b0:Blk} (hid:H.get id=some b0) (hcs:∀v∈cs,yb5 v) (hr:yb5 r)
    (h:(∀id blk,H.get id=some blk→id<H.next)→AX P a.n a.body (Ends (fun v H'=>(H.upd id (.cells cs m)).Ext H'∧Frz H' (fun id=>H.next≤id) v r) a.res) (fr0 0 args) H):AC P f args H (fun v H'=>v=r∧H'=H.upd id (.cells cs m)):=
  AC.lt (yfs hf hok) fun hl=>by
    have hi:=hl _ _ hid
    have key:AC P f args H (fun v H'=>v=r∧∃X,(H.upd id (.cells cs m)).Ext X∧H'=X.wo fun id=>H.next≤id):=(AC.code hf hok (h hl)).wk fun v H' ⟨e,hz⟩=>⟨r,_,.freeze _ hz,rfl,H',e,rfl⟩
    refine key.trim ?_
    rintro v H' ⟨rfl,X,e,rfl⟩
    refine ⟨H.upd id (.cells cs m),⟨Nat.le_refl _,e.1,fun k blk hg=>?_,fun k cs' m' hg=>?_,fun k o hg=>?_⟩,hr.ok _,rfl,rfl⟩
    · have hk:k<H.next:=by
        rw [Hp.get_upd] at hg
        split at hg
        · rename_i e;subst e;exact hi
        · exact hl _ _ hg
      refine ⟨hk,?_⟩
      simp only [Hp.wo]
      rw [if_neg (by omega)]
      exact e.2 _ _ hg
    · rw [Hp.get_upd] at hg
      split at hg
      · injection hg with hg;injection hg with h1 h2
        subst h1
        exact .inr fun v hv=>(hcs v hv).ok _
      · exact .inl ⟨m',hg⟩
    · rw [Hp.get_upd] at hg
      split at hg
      · cases hg
      · exact .inl hg
end
theorem ycp (t:Str) (σ:Rd):∀v∈rdc t σ,yb5 v:=by
  intro v hv
  simp [rdc] at hv
  rcases hv with rfl | rfl | rfl
  · exact yah _
  · exact yg4 _ _
  · exact yg4 _ _
structure RX (H:Hp) (id:Nat) (t:Str) (σ:Rd) (X:Hp):Prop where
  ext:(H.del id).Ext X
  lt:∀k blk,X.get k=some blk→k<X.next
  get:X.get id=some (.cells (rdc t σ) 3)
  hlt:∀k blk,H.get k=some blk→k<H.next
  hid:id<H.next
section
variable {H X Y:Hp} {id:Nat} {t:Str} {σ:Rd}
theorem yde {H:Hp} {id k:Nat}:(H.del id).get k=if k=id then none else H.get k:=rfl
theorem RX.start (hl:∀k blk,H.get k=some blk→k<H.next) (hg:H.get id=some (.cells (rdc t σ) 3)):RX H id t σ H:=
  ⟨⟨Nat.le_refl _,fun k blk h=>by rw [yde] at h;split at h;cases h;exact h⟩,hl,hg,hl,hl _ _ hg⟩
theorem RX.upd (R:RX H id t σ X) (σ':Rd):RX H id t σ' (X.upd id (.cells (rdc t σ') 3)):=
  ⟨⟨R.ext.1,fun k blk h=>by
      have h2:=R.ext.2 k blk h
      rw [yde] at h
      rw [Hp.get_upd]
      split
      · rename_i e;rw [if_pos e] at h;cases h
      · exact h2⟩,Hp.upd_lt R.lt (R.lt _ _ R.get) _,by simp,R.hlt,R.hid⟩
theorem RX.more (R:RX H id t σ X) (e:X.Ext Y) (hl:∀k blk,Y.get k=some blk→k<Y.next):RX H id t σ Y:=⟨R.ext.trans e,hl,e.2 _ _ R.get,R.hlt,R.hid⟩
theorem RX.fin (R:RX H id t σ X):(H.upd id (.cells (rdc t σ) 3)).Ext X:=⟨R.ext.1,fun k blk h=>by
  rw [Hp.get_upd] at h
  split at h
  · rename_i e;subst e;injection h with h;subst h;exact R.get
  · rename_i e;exact R.ext.2 k blk (by rw [yde,if_neg e];exact h)⟩
theorem RX.dlt (R:RX H id t σ X):∀k blk,(H.del id).get k=some blk→k<(H.del id).next:=fun k blk h=>by
  rw [yde] at h
  split at h
  · cases h
  · exact R.hlt _ _ h
theorem RX.accNil (R:RX H id t σ X) (sz z:Nat):Acc (H.del id) sz (.sl none 0 z) X []:=Acc.nil sz z R.ext R.lt
theorem RX.acc (R:RX H id t σ X) {sz:Nat} {v:V} {es:List (List V)} (A:Acc (H.del id) sz v X es) (σ':Rd):Acc (H.del id) sz v (X.upd id (.cells (rdc t σ') 3)) es:=by
  have hs:yc2 v id:=A.sepOld R.hid
  have R':=R.upd σ'
  refine ⟨R'.ext,R'.lt,A.all,A.sl.imp (fun x=>x) ?_⟩
  rintro ⟨k,m,a,e,c,d⟩
  refine ⟨k,m,a,e,?_,d⟩
  subst e
  rw [Hp.get_upd,if_neg (show k≠id from hs)];exact c
theorem RX.app (R:RX H id t σ X) {sz bytes:Nat} {v:V} {es:List (List V)} (A:Acc (H.del id) sz v X es) (y:List V) (hy:y.length=sz) (hsz:0<sz) (hc:y.all y6d=true) (hb:(es.length+1)*bytes≤yay):
    ∃a l s X2,y48 X sz bytes v (.fs [y])=some (.sl a l s,X2)∧RX H id t σ X2∧Acc (H.del id) sz (.sl a l s) X2 (es++[y])∧∀k blk,X.get k=some blk→yc2 v k→X2.get k=some blk∧yc2 (.sl a l s) k:=by
  obtain ⟨v2,X2,e,A2,K⟩:=A.appK (bytes:=bytes) R.dlt y hy hsz hc hb
  obtain ⟨a,l,s,rfl⟩:=A2.isSl
  have hs:yc2 v id:=A.sepOld R.hid
  exact ⟨a,l,s,X2,e,⟨A2.ext,A2.lt,(K _ _ R.get hs).1,R.hlt,R.hid⟩,A2,K⟩
end
open Go Go.RowKit Go.Shelf
set_option maxHeartbeats 1000000 in
set_option maxRecDepth 100000 in
theorem bc_first (b n T:Nat) (w:World) (h0:w.cell? ⟨b,0,none⟩=some (.pointer none)) (hsh:w.shape? b=some (T,n)) (hn:0<n) (hfz:w.frozen? ⟨b,0,none⟩=false)
    (hl:liesAt Tryz.prog Tryz.prog.depth T (n / Tryz.prog.cellsOf T) 0 56 1=true):
    Calls Tryz.prog 143 #[.pointer (some ⟨b,0,none⟩)] w fun e w'=>e=.returned (.tuple #[])∧w'=w.setCell ⟨b,0,none⟩ (.pointer (some ⟨b,0,none⟩)):=by
  obtain ⟨j,hj,hjs⟩:=Option.map_eq_some_iff.1 (show (Tryz.prog.info? 56).map (·.size)=some 2 by kernel_rfl)
  go_enter Tryz.func143,Tryz.ntmps143
  go_wp2
  rw [Lib.run_to_unsafe w ⟨b,0,none⟩ Tryz.underlying54 Tryz.underlying218 hj (by rw [hjs];decide) hsh hn]
  simp only [Result.andThen]
  rw [Oper.upon_value]
  go_wp2
  rw [run_callFunc_extern Tryz.func186 (by kernel_rfl) (by kernel_rfl) (by kernel_rfl) (e:=Extern.AbiNoEscape.same) (by kernel_rfl)]
  rw [Lib.run_noEscape]
  simp only [Result.andThen]
  rw [Oper.upon_value]
  go_wp2
  rw [Lib.run_from_unsafe w ⟨b,0,none⟩ Tryz.underlying218 Tryz.underlying54 hj hsh hl]
  simp only [Result.andThen]
  rw [Oper.upon_value]
  go_wp2
  go_end0
  exact ⟨rfl,rfl⟩
set_option maxHeartbeats 1000000 in
set_option maxRecDepth 100000 in
theorem bc_again (b o:Nat) (w:World) (h0:w.cell? ⟨b,o,none⟩=some (.pointer (some ⟨b,o,none⟩))):
    Calls Tryz.prog 143 #[.pointer (some ⟨b,o,none⟩)] w fun e w'=>e=.returned (.tuple #[])∧w'=w:=by
  obtain ⟨j,hj,hjs⟩:=Option.map_eq_some_iff.1 (show (Tryz.prog.info? 56).map (·.size)=some 2 by kernel_rfl)
  go_enter Tryz.func143,Tryz.ntmps143
  go_wp2
  rw [Lib.run_neq_ptr_same w _ Tryz.underlying54 hj]
  go_wp2
  go_end0
  exact ⟨rfl,rfl⟩
namespace Am
theorem yla {T L id m:Nat} {cs:List V} {H:Hp} (hL:L=cs.length+1) (hg:H.get id=some (.cells (.pz T L id L::cs) m))
    (hl:liesAt Tryz.prog Tryz.prog.depth T (L / Tryz.prog.cellsOf T) 0 56 1=true):
    AC Tryz.prog 143 [.p (some (id,0,L))] H (fun v H'=>v=.tup []∧H'=H.upd id (.cells (.p (some (id,0,L))::cs) L)):=by
  subst hL
  refine ⟨by kernel_rfl,fun κ args S r=>?_⟩
  obtain ⟨c,rfl,rc⟩:=r.one'
  have hm:=S.le id _ m hg
  obtain ⟨⟨arr,t,fr,p1,p2,p3,p4⟩,p5⟩:=S.cells id _ m hg (cs.length+1) hm (by simp)
  cases rc with
  | p _ _ _ ok=>
  have h0:=p3 0 _ (by omega) rfl
  generalize hc:arr.getD ((κ.pl id (cs.length+1)).2+0) undef=c0 at h0
  cases h0 with
  | pz _ _ _ _ o hn hz=>
  have hv:VR κ (.p (some (id,0,cs.length+1))) (.pointer (some ⟨(κ.pl id (cs.length+1)).1,(κ.pl id (cs.length+1)).2+0,none⟩)):=.p id 0 (cs.length+1) ok
  obtain ⟨S',le,hcell,hfz⟩:=S.set hg (off:=0) (by simp) hv
  simp only [List.length_cons] at S' le hcell hfz
  rw [hz] at hc hfz hcell S' le hv p2
  rw [hz]
  simp only [y3n,p1] at hn
  injection hn with hn
  injection hn with hn1 hn2
  subst hn2
  have hcl:=y99 p1 (j:=0) (by omega)
  have key:=bc_first (κ.pl id (cs.length+1)).1 (cs.length+1) t κ.w (by rw [hcl];simpa using hc) (by simp [World.shape?,p1,hn1]) (by omega) (by simpa using hfz) hl
  refine key.mono fun e w' ⟨he,hw⟩=>?_
  subst hw
  exact ⟨_,.tup [],.tuple #[],_,he,rfl,by simpa using le,by simpa using S',VR.tup [] [] rfl (fun j v h=>by simp at h),rfl,by simp⟩
theorem ylb {L id m:Nat} {cs:List V} {H:Hp} (hL:L=cs.length+1) (hg:H.get id=some (.cells (.p (some (id,0,L))::cs) m)):
    AC Tryz.prog 143 [.p (some (id,0,L))] H (fun v H'=>v=.tup []∧H'=H):=by
  subst hL
  refine ⟨by kernel_rfl,fun κ args S r=>?_⟩
  obtain ⟨c,rfl,rc⟩:=r.one'
  have hm:=S.le id _ m hg
  obtain ⟨⟨arr,t,fr,p1,p2,p3,p4⟩,p5⟩:=S.cells id _ m hg (cs.length+1) hm (by simp)
  cases rc with
  | p _ _ _ ok=>
  have h0:=p3 0 _ (by omega) rfl
  have hcl:=y99 p1 (j:=(κ.pl id (cs.length+1)).2+0) (by omega)
  generalize hc:arr.getD ((κ.pl id (cs.length+1)).2+0) undef=c0 at h0 hcl
  cases h0 with
  | p _ _ _ _=>
  refine (bc_again _ _ κ.w hcl).mono fun e w' ⟨he,hw⟩=>?_
  subst hw
  exact ⟨κ,.tup [],.tuple #[],H,he,rfl,.refl κ,S,VR.tup [] [] rfl (fun j v h=>by simp at h),rfl,rfl⟩
end Am
variable {P:Program} {ρ:Ren}
set_option maxHeartbeats 2000000 in
set_option maxRecDepth 100000 in
theorem yng (L:Lays.n169 P ρ) (X:Builder.Extra P ρ) (b o g cap cells:Nat) (l:List UInt8) (w:World) (h0:l≠[]) (hc1:w.cell? ⟨b,o+1,none⟩=some (.slice (some ⟨g,0,none⟩) l.length cap)) (hcap:l.length≤cap) (hmax:cap≤9223372036854775807)
    (hsh:w.shape? g=some (ρ.t 5,cells)) (hcl:l.length≤cells) (hb:∀(j:Nat) x,l[j]?=some x→w.cell? ⟨g,j,none⟩=some (.int .u8 x.toNat)):
    Calls P (ρ.f 169) #[.pointer (some ⟨b,o,none⟩)] w fun e w'=>e=.returned (.string ⟨l.toArray⟩)∧w'=w.drew.freeze ⟨g,0,none⟩ l.length:=by
  have hl0:l.length≠0:=by simpa using h0
  have c1:w.drew.cell? ⟨b,o+1,none⟩=some (.slice (some ⟨g,0,none⟩) l.length cap):=hc1
  have hSD:(Builtin.unsafeSliceData_ #[(ρ.t 37)] (ρ.t 127) #[.slice (some ⟨g,0,none⟩) l.length cap]).run P w.drew=.ok (.pointer (some ⟨g,0,none⟩)) w.drew:=
    Lib.run_unsafeSliceData_row _ _ _ _ _ _ (by omega)
  have hUS:(Builtin.unsafeString_ #[(ρ.t 127),(ρ.t 3)] (ρ.t 9) #[.pointer (some ⟨g,0,none⟩),.int .i64 l.length]).run P w.drew=.ok (.string ⟨l.toArray⟩) (w.drew.freeze ⟨g,0,none⟩ l.length):=by
    refine Lib.run_unsafeString_row w.drew (ρ.t 127) (ρ.t 3) (ρ.t 9) (ρ.t 5) L.t127 X.cellsByte g cells hsh l h0 hcl (by omega) ?_
    intro j x hx
    have:=hb j x hx
    have e:((⟨g,0,none⟩:Addr).add j)=⟨g,j,none⟩:=by cases j <;> simp [Addr.add]
    rw [e];exact this
  have mixed:=L.mixed
  have t72:=L.t72;have a72:=L.a72;have z72:=L.z72;have v72:=L.v72;have u72:=run_underlying L.t72
  have t70:=L.t70;have a70:=L.a70;have z70:=L.z70;have v70:=L.v70;have u70:=run_underlying L.t70
  have t37:=L.t37;have a37:=L.a37;have z37:=L.z37;have v37:=L.v37;have u37:=run_underlying L.t37
  have t127:=L.t127;have a127:=L.a127;have z127:=L.z127;have v127:=L.v127;have u127:=run_underlying L.t127
  have t3:=L.t3;have a3:=L.a3;have z3:=L.z3;have v3:=L.v3;have u3:=run_underlying L.t3
  have t9:=L.t9;have a9:=L.a9;have z9:=L.z9;have v9:=L.v9;have u9:=run_underlying L.t9
  have t5:=X.t5;have a5:=X.a5;have z5:=X.z5;have v5:=X.v5;have u5:=run_underlying X.t5
  go_enter L.f169,Body.n169_ntmps ρ
  go_wp2
  go_region_o
  all_goals (go_wp2;go_ret;exact ⟨rfl,rfl⟩)
end Go.Proofs.YthmkcebbeehbeaaGreatDoor
namespace Go.Proofs.YthmkcebbeehbeaaGreatDoor.Am
open Go Go.RowKit Go.Shelf
theorem yl4 (w:World) (p:Addr) (n k:Nat) (h:k≠p.block):(w.freeze p n).heap[k]?=w.heap[k]?:=by
  unfold World.freeze
  split
  · rfl
  · simp [Array.getElem?_modify,Ne.symm h]
theorem yji (w:World) (p:Addr) (n k:Nat):y3n (w.freeze p n) k=y3n w k:=by
  unfold World.freeze
  split
  · rfl
  · simp only [y3n,Array.getElem?_modify]
    by_cases h:p.block=k
    · rw [if_pos h]
      cases hh:w.heap[k]? with
      | none=>rfl
      | some o=>cases o <;> rfl
    · rw [if_neg h]
theorem yl3 (w:World) (p:Addr) (n:Nat):(w.freeze p n).heap.size=w.heap.size∧(w.freeze p n).os=w.os∧(w.freeze p n).tape=w.tape∧(w.freeze p n).output=w.output:=by
  unfold World.freeze
  split <;> simp
theorem wo_sub {H:Hp} (S:Nat→Prop):(H.wo S).Sub H:=⟨fun id=>by
  by_cases e:S id
  · left;simp [Hp.wo,e]
  · right;simp [Hp.wo,e],Nat.le_refl _⟩
theorem yp2 {L id m g mg:Nat} {a:V} {cs:List V} {bs:List UInt8} {H:Hp} (hL:L=cs.length+2) (h0:bs≠[]) (hg:H.get id=some (.cells (a::.st 5 (some (g,0,bs.length)) bs.length 1::cs) m))
    (hb:H.get g=some (.cells (bs.map fun x=>V.i .u8 x.toNat) mg)):
    AC Tryz.prog 80 [.p (some (id,0,L))] H (fun v H'=>v=.s bs∧H'=H.wo (fun k=>k=g)):=by
  subst hL
  refine ⟨by kernel_rfl,fun κ args S r=>?_⟩
  obtain ⟨c,rfl,rc⟩:=r.one'
  have hm:=S.le id _ m hg
  have hmg:=S.le g _ mg hb
  obtain ⟨⟨arr,t,fr,p1,p2,p3,p4⟩,p5⟩:=S.cells id _ m hg (cs.length+2) hm (by simp)
  obtain ⟨⟨brr,bt,bf,q1,q2,q3,q4⟩,q5⟩:=S.cells g _ mg hb bs.length (by simpa using hmg) (by simp)
  cases rc with
  | p _ _ _ ok=>
  have hv:=p3 1 _ (by omega) rfl
  have hcl:=y99 p1 (j:=(κ.pl id (cs.length+2)).2+1) (by omega)
  generalize hc:arr.getD ((κ.pl id (cs.length+2)).2+1) undef=c0 at hv hcl
  cases hv with
  | st _ _ _ _ _ hsl hst=>
  obtain ⟨n,g1,g2⟩:=hst
  have hlen:0<bs.length:=List.length_pos_iff.2 h0
  cases hsl with
  | sl _ _ _ _ _ cap nn ad ok2 hz hlc hlo hhi hnc hroom ha=>
  obtain rfl:=ha (by omega)
  rw [g2] at hcl q2 q3
  simp only [y3n,q1] at g1
  injection g1 with g1
  injection g1 with g1 g3
  subst g3
  have hby:∀(j:Nat) x,bs[j]?=some x→κ.w.cell? ⟨(κ.pl g bs.length).1,j,none⟩=some (.int .u8 x.toNat):=fun j x hj=>by
    have hjl:=(List.getElem?_eq_some_iff.1 hj).1
    have h1:=q3 j (.i .u8 x.toNat) hjl (by simp [hj])
    rw [y99 q1 (by omega)]
    rw [Nat.zero_add] at h1
    generalize brr.getD j undef=u at h1
    cases h1;rfl
  have key:=yng Tryz.lays169 Tryz.Builder_Extra_169 (κ.pl id (cs.length+2)).1 ((κ.pl id (cs.length+2)).2+0) (κ.pl g bs.length).1 cap brr.size bs κ.w h0 (by simpa using hcl) hlc.1 hlc.2 (by simp [World.shape?,q1];rfl) (by omega) hby
  refine key.mono fun e w' ⟨he,hw⟩=>?_
  subst hw
  obtain ⟨r1,r2,r3,r4⟩:=yl3 κ.w.drew ⟨(κ.pl g bs.length).1,0,none⟩ bs.length
  obtain ⟨le,S2⟩:=Sim.other ((S.drew).weak (wo_sub (fun k=>k=g))) (b:=(κ.pl g bs.length).1) (w':=κ.w.drew.freeze ⟨(κ.pl g bs.length).1,0,none⟩ bs.length) q1 (fun k hk _=>yl4 _ _ _ k hk) (fun k n h=>by rw [yji];exact h) (by rw [r1];exact Nat.le_refl _) r2 r3 r4 q5
    (fun k cs' m' e hg' h1 h2 hp=>by
      simp only [Hp.wo] at hg'
      split at hg'
      · cases hg'
      · rename_i hne
        exact hne (S.sep k g e bs.length cs' m' _ mg hg' hb h1 h2 (by simpa using hmg) (by simp) hp))
  exact ⟨_,.s bs,.string ⟨bs.toArray⟩,_,he,rfl,κ.drew_le.trans le,S2,.s bs,rfl,rfl⟩
end Go.Proofs.YthmkcebbeehbeaaGreatDoor.Am
namespace Go.Proofs.YthmkcebbeehbeaaGreatDoor
open Am C
namespace Am
theorem AX.stpH {P:Go.Program} {n:Nat} {Q:y6v} {F:Fr} {H:Hp} {ts:List Nat} {ss:List AStep} {A:ACode} (F1:Fr) (H1:Hp) (h:ybv P ss (fun F X=>y9k F ts=F1∧X=H1) F H)
    (k:AX P n A Q F1 H1):AX P n (.seq (.post ts (.region ss)) A) Q F H:=by
  refine AX.seq (AX.mono (Q:=y6v.then (fun F X=>F=F1∧X=H1) fun _ _ _=>False) (AX.reg h) ?_)
  intro x F' H' hx
  cases x with
  | normal=>obtain ⟨rfl,rfl⟩:=hx;exact k
  | exit k=>exact hx.elim
  | ret=>exact hx.elim
def BufV (v buf:V):Prop:=(buf=v∧∃z,v=.sl none 0 z)∨∃a l s,v=.sl a l s∧buf=.st 5 a l s
structure WB (B:Hp) (T L id:Nat) (cs:List V) (bs:Str) (X:Hp) (v:V):Prop where
  hB:∀k blk,B.get k=some blk→k<B.next
  hl:liesAt Tryz.prog Tryz.prog.depth T (L / Tryz.prog.cellsOf T) 0 56 1=true
  hL:L=cs.length+2
  lo:B.next≤id
  acc:Acc B 1 v X (bcl bs)
  sep:yc2 v id
  ex:∃a buf m,X.get id=some (.cells (a::buf::cs) m)∧m≤L∧(a=.p (some (id,0,L))∨a=.pz T L id L)∧BufV v buf
def Kp (id:Nat) (v:V) (X:Hp) (v':V) (X':Hp):Prop:=X.next≤X'.next∧∀k blk,X.get k=some blk→k≠id→yc2 v k→X'.get k=some blk∧yc2 v' k
theorem Kp.refl (id:Nat) (v:V) (X:Hp):Kp id v X v X:=⟨Nat.le_refl _,fun k blk h _ s=>⟨h,s⟩⟩
theorem Kp.trans {id:Nat} {v v' v'':V} {X X' X'':Hp} (a:Kp id v X v' X') (b:Kp id v' X' v'' X''):Kp id v X v'' X'':=
  ⟨Nat.le_trans a.1 b.1,fun k blk h n s=>let ⟨h1,s1⟩:=a.2 k blk h n s;b.2 k blk h1 n s1⟩
theorem yjt {T L id m:Nat} {a:V} {cs:List V} {X:Hp} (hL:L=cs.length+1) (hg:X.get id=some (.cells (a::cs) m)) (hm:m≤L) (ha:a=.p (some (id,0,L))∨a=.pz T L id L)
    (hl:liesAt Tryz.prog Tryz.prog.depth T (L / Tryz.prog.cellsOf T) 0 56 1=true):
    AC Tryz.prog y5v [.p (some (id,0,L))] X (fun v H'=>v=.tup []∧∃m',m'≤L∧H'=X.upd id (.cells (.p (some (id,0,L))::cs) m')):=by
  rcases ha with rfl | rfl
  · exact (ylb hL hg).mono fun v H' ⟨e1,e2⟩=>⟨e1,m,hm,by rw [e2,Hp.upd_self hg]⟩
  · exact (yla hL hg hl).mono fun v H' ⟨e1,e2⟩=>⟨e1,L,Nat.le_refl _,e2⟩
theorem WB.put {B X:Hp} {T L id m:Nat} {cs:List V} {bs ys:Str} {v buf x:V} (W:WB B T L id cs bs X v) (hg:X.get id=some (.cells (.p (some (id,0,L))::buf::cs) m)) (hbuf:BufV v buf)
    (hx:∀Y,y7r Y 1 x=some (ys.length,(bcl ys).flatten)) (hb:bs.length+ys.length≤100000000000):
    ∃a2 l2 s2 X2 m2,y48 X 1 1 v x=some (.sl a2 l2 s2,X2)∧X2.get id=some (.cells (.p (some (id,0,L))::buf::cs) m)∧
      WB B T L id cs (bs++ys) (X2.upd id (.cells (.p (some (id,0,L))::.st 5 a2 l2 s2::cs) m2)) (.sl a2 l2 s2)∧Kp id v X (.sl a2 l2 s2) (X2.upd id (.cells (.p (some (id,0,L))::.st 5 a2 l2 s2::cs) m2))∧m2=cs.length+2:=by
  obtain ⟨v2,X2,e,A2,nx,K⟩:=W.acc.appKs (bytes:=1) (x:=x) W.hB (ys:=bcl ys) (by rw [hx];simp) (bcl_one _) (by omega) (yr7 _) (by simp [yay];omega)
  obtain ⟨a2,l2,s2,rfl⟩:=A2.isSl
  obtain ⟨g2,sp2⟩:=K id _ hg W.sep
  have hid:=A2.lt _ _ g2
  refine ⟨a2,l2,s2,X2,cs.length+2,e,g2,⟨W.hB,W.hl,W.hL,W.lo,?_,sp2,⟨.p (some (id,0,L)),.st 5 a2 l2 s2,cs.length+2,by simp,by rw [W.hL];exact Nat.le_refl _,.inl rfl,.inr ⟨a2,l2,s2,rfl,rfl⟩⟩⟩,⟨by simpa using nx,fun k blk h n s=>?_⟩,rfl⟩
  · rw [ynp]
    exact A2.upd W.hB sp2 W.lo hid _
  · obtain ⟨h1,s1⟩:=K k blk h s
    exact ⟨by rw [Hp.get_upd,if_neg n];exact h1,s1⟩
end Am
theorem yk0 {B X:Hp} {T L id:Nat} {cs:List V} {bs:Str} {v:V} (c:UInt8) (W:WB B T L id cs bs X v) (hb:bs.length≤10000000000):
    AC Tryz.prog y5w [.p (some (id,0,L)),.i .u8 c.toNat] X (fun r X'=>r=.nifc∧∃v',WB B T L id cs (bs++[c]) X' v'∧Kp id v X v' X'):=by
  obtain ⟨a,buf,m,hg,hm,ha,hbuf⟩:=W.ex
  have hL:=W.hL
  refine AC.code y1m.at y1m.ok ?_
  simp only [y1m]
  apply jA
  simp [y1m.r0]
  apply jA
  simp [y1m.r1]
  refine (yjt (T:=T) (by simpa using hL) hg hm ha W.hl).mono ?_
  rintro _ X1 ⟨rfl,m1,hm1,rfl⟩
  simp
  have hid:=W.acc.lt _ _ hg
  have W1:WB B T L id cs bs (X.upd id (.cells (.p (some (id,0,L))::buf::cs) m1)) v:=⟨W.hB,W.hl,hL,W.lo,W.acc.upd W.hB W.sep W.lo hid _,W.sep,⟨.p (some (id,0,L)),buf,m1,by simp,hm1,.inl rfl,hbuf⟩⟩
  have K1:Kp id v X v (X.upd id (.cells (.p (some (id,0,L))::buf::cs) m1)):=⟨by simp,fun k blk h n s=>⟨by rw [Hp.get_upd,if_neg n];exact h,s⟩⟩
  have g1:(X.upd id (.cells (.p (some (id,0,L))::buf::cs) m1)).get id=some (.cells (.p (some (id,0,L))::buf::cs) m1):=by simp
  generalize X.upd id (.cells (.p (some (id,0,L))::buf::cs) m1)=X1 at *
  obtain ⟨a2,l2,s2,X2,m2,e,g2,W2,K2,rfl⟩:=W1.put (ys:=[c]) (x:=.fs [[.i .u8 c.toNat]]) g1 hbuf (fun Y=>by simp [bcl]) (by simp;omega)
  subst hL
  refine AX.stpH [] (X2.upd id (.cells (.p (some (id,0,cs.length+2))::.st 5 a2 l2 s2::cs) (cs.length+2))) ?_ ?_
  · rcases hbuf with ⟨rfl,z,rfl⟩ | ⟨a,l,s,rfl,rfl⟩ <;> simp [y1m.r2,g1,hm1,yco,-y48,e,g2]
  apply jA
  simp [y1m.r3]
  apply jD
  simp
  exact ⟨_,W2,K1.trans K2⟩
theorem ygt {B X:Hp} {T L id:Nat} {cs:List V} {bs:Str} {v:V} (s:Str) (W:WB B T L id cs bs X v) (hb:bs.length≤10000000000) (hs:s.length≤10000000000):
    AC Tryz.prog y5h [.p (some (id,0,L)),.s s] X (fun r X'=>∃v',WB B T L id cs (bs++s) X' v'∧Kp id v X v' X'):=by
  obtain ⟨a,buf,m,hg,hm,ha,hbuf⟩:=W.ex
  have hL:=W.hL
  refine AC.code y1i.at y1i.ok ?_
  simp only [y1i]
  apply jA
  simp [y1i.r0]
  apply jA
  simp [y1i.r1]
  refine (yjt (T:=T) (by simpa using hL) hg hm ha W.hl).mono ?_
  rintro _ X1 ⟨rfl,m1,hm1,rfl⟩
  simp
  have hid:=W.acc.lt _ _ hg
  have W1:WB B T L id cs bs (X.upd id (.cells (.p (some (id,0,L))::buf::cs) m1)) v:=⟨W.hB,W.hl,hL,W.lo,W.acc.upd W.hB W.sep W.lo hid _,W.sep,⟨.p (some (id,0,L)),buf,m1,by simp,hm1,.inl rfl,hbuf⟩⟩
  have K1:Kp id v X v (X.upd id (.cells (.p (some (id,0,L))::buf::cs) m1)):=⟨by simp,fun k blk h n s=>⟨by rw [Hp.get_upd,if_neg n];exact h,s⟩⟩
  have g1:(X.upd id (.cells (.p (some (id,0,L))::buf::cs) m1)).get id=some (.cells (.p (some (id,0,L))::buf::cs) m1):=by simp
  generalize X.upd id (.cells (.p (some (id,0,L))::buf::cs) m1)=X1 at *
  obtain ⟨a2,l2,s2,X2,m2,e,g2,W2,K2,rfl⟩:=W1.put (ys:=s) (x:=.s s) g1 hbuf (fun Y=>by simp [yf7]) (by omega)
  subst hL
  refine AX.stpH [(1,.s s)] (X2.upd id (.cells (.p (some (id,0,cs.length+2))::.st 5 a2 l2 s2::cs) (cs.length+2))) ?_ ?_
  · rcases hbuf with ⟨rfl,z,rfl⟩ | ⟨a,l,s,rfl,rfl⟩ <;> simp [y1i.r2,g1,hm1,yco,-y48,e,g2]
  apply jA
  simp [y1i.r3]
  apply jD
  simp
  exact ⟨_,W2,K1.trans K2⟩
end Go.Proofs.YthmkcebbeehbeaaGreatDoor
