/- Part 18. -/
import Derived.RowKit
import Derived.OpenShut
import Derived.Carry
import Derived.WideShapes
import Derived.ChangeArms
import Derived.WalkKit
import Derived.ProofKit
import Derived.ChangeOld
import Derived.SizedLaws
import Derived.Test.YtikpijbeobeckaaGreatDoorXGw15
set_option linter.unusedSimpArgs false
set_option linter.unusedVariables false
namespace Go.Proofs.YtikpijbeobeckaaGreatDoor.Am
open Go Go.RowKit
attribute [simp] awp y5i.then y5i.block y7l y6o fset put ev evs y2c rd swr one yag y3w binV binI binS isSh shI eqK unV bound maxs maxL mins minL setAll resV resL res1 fr0 evp yck bytesOf y4e y28 yla AEx.ex
@[simp] theorem bits_i8:IntKind.i8.bits=8:=rfl
@[simp] theorem bits_u8:IntKind.u8.bits=8:=rfl
@[simp] theorem bits_i16:IntKind.i16.bits=16:=rfl
@[simp] theorem bits_u16:IntKind.u16.bits=16:=rfl
@[simp] theorem bits_i32:IntKind.i32.bits=32:=rfl
@[simp] theorem bits_u32:IntKind.u32.bits=32:=rfl
@[simp] theorem bits_i64:IntKind.i64.bits=64:=rfl
@[simp] theorem bits_u64:IntKind.u64.bits=64:=rfl
@[simp] theorem nlit_lt (a n:Nat):((a:Int)<no_index (OfNat.ofNat n:Int))=(a<OfNat.ofNat n):=propext Int.ofNat_lt
@[simp] theorem nlit_le (a n:Nat):((a:Int)≤no_index (OfNat.ofNat n:Int))=(a≤OfNat.ofNat n):=propext Int.ofNat_le
@[simp] theorem nlit_lt' (a n:Nat):(no_index (OfNat.ofNat n:Int)<(a:Int))=(OfNat.ofNat n<a):=propext Int.ofNat_lt
@[simp] theorem nlit_le' (a n:Nat):(no_index (OfNat.ofNat n:Int)≤(a:Int))=(OfNat.ofNat n≤a):=propext Int.ofNat_le
@[simp] theorem nlit_eq (a n:Nat):((a:Int)=no_index (OfNat.ofNat n:Int))=(a=OfNat.ofNat n):=propext Int.ofNat_inj
@[simp] theorem nlit_eq' (a n:Nat):(no_index (OfNat.ofNat n:Int)=(a:Int))=(OfNat.ofNat n=a):=propext Int.ofNat_inj
@[simp] theorem ncast_lt (a b:Nat):((a:Int)<(b:Int))=(a<b):=propext Int.ofNat_lt
@[simp] theorem ncast_le (a b:Nat):((a:Int)≤(b:Int))=(a≤b):=propext Int.ofNat_le
@[simp] theorem ncast_eq (a b:Nat):((a:Int)=(b:Int))=(a=b):=propext Int.ofNat_inj
@[simp] theorem V_beq (a b:Int):V.b (a == b)=V.b (decide (a=b)):=by rw [Bool.beq_eq_decide_eq]
@[simp] theorem V_bne (a b:Int):V.b (a != b)=V.b (!decide (a=b)):=by rw [bne,Bool.beq_eq_decide_eq]
@[simp] theorem V_beqL (a b:List UInt8):V.b (a == b)=V.b (decide (a=b)):=by rw [Bool.beq_eq_decide_eq]
@[simp] theorem V_bneL (a b:List UInt8):V.b (a != b)=V.b (!decide (a=b)):=by rw [bne,Bool.beq_eq_decide_eq]
def stp (x:Option (V × Hp)) (k:V→Hp→Prop):Prop:=match x with | some (v,H)=>k v H | none=>False
@[simp] theorem stp_some (v:V) (H:Hp) (k:V→Hp→Prop):stp (some (v,H)) k=k v H:=id rfl
@[simp] theorem stp_none (k:V→Hp→Prop):stp none k=False:=rfl
@[simp] theorem stp_ite (c:Prop) [Decidable c] (x y:Option (V × Hp)) (k:V→Hp→Prop):stp (if c then x else y) k=if c then stp x k else stp y k:=by split <;> rfl
section
variable {P:Program} {r:List AStep} {K:Fr→Hp→Prop} {F:Fr} {H:Hp} {d:Option Nat}
@[simp] theorem awpS_nil:y9s P [] K F H=K F H:=id rfl
def kS (P:Program) (r:List AStep) (K:Fr→Hp→Prop) (F:Fr) (d:Option Nat) (v:V) (H:Hp):Prop:=y9s P r K (put F d v) H
@[simp] theorem kS_eq (v:V) (H:Hp):kS P r K F d v H=y9s P r K (put F d v) H:=id rfl
@[simp] theorem awpS_op {o:AOp}:y9s P (⟨d,none,.op o⟩::r) K F H=stp (y2c o F H) (kS P r K F d):=id rfl
@[simp] theorem awpS_call {f:FuncId} {args:List AO}:y9s P (⟨d,none,.call f args⟩::r) K F H=AC P f (evs F args) H (kS P r K F d):=id rfl
def callv (P:Program) (v:V) (args:List V) (H:Hp) (k:V→Hp→Prop):Prop:=match v with | .fn f caps=>AC P f (args++caps) H k | .fb f bs=>AC P f (bs++args) H k | .yl id=>YC P id args H k | _=>False
@[simp] theorem callv_fb {f:FuncId} {bs args:List V} {k:V→Hp→Prop}:callv P (.fb f bs) args H k=AC P f (bs++args) H k:=id rfl
@[simp] theorem callv_yl {i:Nat} {args:List V} {k:V→Hp→Prop}:callv P (.yl i) args H k=YC P i args H k:=id rfl
@[simp] theorem callv_fn {f:FuncId} {caps args:List V} {k:V→Hp→Prop}:callv P (.fn f caps) args H k=AC P f (args++caps) H k:=id rfl
@[simp] theorem awpS_callv {fv:AO} {args:List AO}:y9s P (⟨d,none,.callv fv args⟩::r) K F H=callv P (ev F fv) (evs F args) H (kS P r K F d):=id rfl
attribute [simp] nxtS
@[simp] theorem awpS_nxt {it:AO}:y9s P (⟨d,none,.nxt it⟩::r) K F H=nxtS (ev F it) H (kS P r K F d):=id rfl
def yo3 (P:Program) (v:V) (t:Nat) (b:Bool) (d:Option Nat) (x:ADo) (r:List AStep) (K:Fr→Hp→Prop) (F:Fr) (H:Hp):Prop:=
 match v with | .b y=>(y=b→y9s P (⟨d,none,x⟩::r) K F H)∧(y≠b→y9s P r K (put F d (.tup [])) H) | .tup []=>y9s P r K (put F d (.tup [])) H | _=>False
@[simp] theorem grdS_tt {t:Nat} {x:ADo}:yo3 P (.b true) t true d x r K F H=y9s P (⟨d,none,x⟩::r) K F H:=by simp [yo3]
@[simp] theorem grdS_ff {t:Nat} {x:ADo}:yo3 P (.b false) t false d x r K F H=y9s P (⟨d,none,x⟩::r) K F H:=by simp [yo3]
@[simp] theorem grdS_tf {t:Nat} {x:ADo}:yo3 P (.b true) t false d x r K F H=y9s P r K (put F d (.tup [])) H:=by simp [yo3]
@[simp] theorem grdS_ft {t:Nat} {x:ADo}:yo3 P (.b false) t true d x r K F H=y9s P r K (put F d (.tup [])) H:=by simp [yo3]
@[simp] theorem grdS_u {t:Nat} {b:Bool} {x:ADo}:yo3 P (.tup []) t b d x r K F H=y9s P r K (put F d (.tup [])) H:=id rfl
@[simp] theorem awpS_guard {t:Nat} {b:Bool} {x:ADo}:y9s P (⟨d,some (t,b),x⟩::r) K F H=yo3 P (y6o F t) t b d x r K F H:=by
 unfold yo3;rw [yhm];dsimp only;generalize y6o F t=u;cases u <;> first | rfl | (rename_i vs;cases vs <;> rfl)
def stpD (c:Cls) (x:Option (V × Hp)) (k:Cls→V→Hp→(Hp→Prop)→Prop) (re:V→Hp→Prop):Prop:=match x with | some (v,H)=>k c v H (re v) | none=>False
@[simp] theorem stpD_some (c:Cls) (v:V) (H:Hp) (k:Cls→V→Hp→(Hp→Prop)→Prop) (re:V→Hp→Prop):stpD c (some (v,H)) k re=k c v H (re v):=id rfl
@[simp] theorem stpD_none (c:Cls) (k:Cls→V→Hp→(Hp→Prop)→Prop) (re:V→Hp→Prop):stpD c none k re=False:=rfl
def reOp (o:AOp) (F:Fr) (v:V) (H:Hp):Prop:=y2c o F H=some (v,H)
@[simp] theorem reOp_eq (o:AOp) (F:Fr) (v:V) (H:Hp):reOp o F v H=(y2c o F H=some (v,H)):=id rfl
def reCall (P:Program) (f:FuncId) (args:List V) (v:V) (H:Hp):Prop:=AC P f args H fun u H'=>u=v∧H'=H
@[simp] theorem reCall_eq (P:Program) (f:FuncId) (args:List V) (v:V) (H:Hp):reCall P f args v H=AC P f args H fun u H'=>u=v∧H'=H:=id rfl
theorem y7w (bs:List Nat) (i j:Nat):y3g bs i j=decide (bs.getD j 0 / 2 ^ i % 2=1):=by rw [y3g,Nat.testBit_eq_decide_div_mod_eq]
section
variable {bs:List Nat} {i j:Nat} {A B C D:Hp} {p q:Hp→Prop}
@[simp] theorem pairOk_ee:y8f bs ⟨i,.eff,A,B,p⟩ ⟨j,.eff,C,D,q⟩=(bs.getD j 0 / 2 ^ i % 2=1):=by simp [y8f,y7w]
@[simp] theorem pairOk_rr:y8f bs ⟨i,.rd,A,B,p⟩ ⟨j,.rd,C,D,q⟩=True:=by simp [y8f]
@[simp] theorem pairOk_re:y8f bs ⟨i,.rd,A,B,p⟩ ⟨j,.eff,C,D,q⟩=(bs.getD j 0 / 2 ^ i % 2=1∨p D):=by simp [y8f,y7w]
@[simp] theorem pairOk_er:y8f bs ⟨i,.eff,A,B,p⟩ ⟨j,.rd,C,D,q⟩=(bs.getD j 0 / 2 ^ i % 2=1∨q A):=by simp [y8f,y7w]
@[simp] theorem pairsOk_nil (y:LogE):y9e bs [] y=True:=rfl
@[simp] theorem pairsOk_cons (x:LogE) (l:List LogE) (y:LogE):y9e bs (x::l) y=(y8f bs x y∧y9e bs l y):=id rfl
end
variable {bs:List Nat} {j:Nat} {log:List LogE}
def kD (P:Program) (bs:List Nat) (j:Nat) (r:List AStep) (log:List LogE) (K:Fr→Hp→Prop) (F:Fr) (H:Hp) (d:Option Nat) (c:Cls) (v:V) (H':Hp) (re:Hp→Prop):Prop:=
 logD bs j c H H' re log fun log'=>yap P bs (j+1) r log' K (put F d v) H'
@[simp] theorem kD_pure (v:V) (H':Hp) (re:Hp→Prop):kD P bs j r log K F H d .pure v H' re=yap P bs (j+1) r log K (put F d v) H':=id rfl
@[simp] theorem kD_rd (v:V) (H':Hp) (re:Hp→Prop):kD P bs j r log K F H d .rd v H' re=(y9e bs log ⟨j,.rd,H,H',re⟩∧yap P bs (j+1) r (log++[⟨j,.rd,H,H',re⟩]) K (put F d v) H'):=id rfl
@[simp] theorem kD_eff (v:V) (H':Hp) (re:Hp→Prop):kD P bs j r log K F H d .eff v H' re=(y9e bs log ⟨j,.eff,H,H',re⟩∧yap P bs (j+1) r (log++[⟨j,.eff,H,H',re⟩]) K (put F d v) H'):=id rfl
@[simp] theorem awpD_nil:yap P bs j [] log K F H=K F H:=id rfl
@[simp] theorem awpD_op {o:AOp}:yap P bs j (⟨d,none,.op o⟩::r) log K F H=stpD (yla o F) (y2c o F H) (kD P bs j r log K F H d) (reOp o F):=id rfl
def yhj (P:Program) (f:FuncId) (args:List V) (H:Hp) (k:Cls→V→Hp→(Hp→Prop)→Prop):Prop:=yis P f args k H
@[simp] theorem awpD_call {f:FuncId} {args:List AO}:yap P bs j (⟨d,none,.call f args⟩::r) log K F H=yhj P f (evs F args) H (kD P bs j r log K F H d):=id rfl
def yhi (P:Program) (v:V) (args:List V) (H:Hp) (k:Cls→V→Hp→(Hp→Prop)→Prop):Prop:=match v with | .fn f caps=>yhj P f (args++caps) H k | .fb f bs=>yhj P f (bs++args) H k | .yl i=>yldC P i args k H | _=>False
@[simp] theorem callvD_yl {i:Nat} {args:List V} {k:Cls→V→Hp→(Hp→Prop)→Prop}:yhi P (.yl i) args H k=yldC P i args k H:=id rfl
@[simp] theorem callvD_fb {f:FuncId} {bs args:List V} {k:Cls→V→Hp→(Hp→Prop)→Prop}:yhi P (.fb f bs) args H k=yhj P f (bs++args) H k:=id rfl
@[simp] theorem callvD_fn {f:FuncId} {caps args:List V} {k:Cls→V→Hp→(Hp→Prop)→Prop}:yhi P (.fn f caps) args H k=yhj P f (args++caps) H k:=id rfl
@[simp] theorem awpD_callv {fv:AO} {args:List AO}:yap P bs j (⟨d,none,.callv fv args⟩::r) log K F H=yhi P (ev F fv) (evs F args) H (kD P bs j r log K F H d):=id rfl
def yo4 (P:Program) (v:V) (b:Bool) (d:Option Nat) (x:ADo) (bs:List Nat) (j:Nat) (r:List AStep) (log:List LogE) (K:Fr→Hp→Prop) (F:Fr) (H:Hp):Prop:=
 match v with | .b y=>(y=b→yap P bs j (⟨d,none,x⟩::r) log K F H)∧(y≠b→yap P bs (j+1) r log K (put F d (.tup [])) H) | .tup []=>yap P bs (j+1) r log K (put F d (.tup [])) H | _=>False
@[simp] theorem grdD_tt {x:ADo}:yo4 P (.b true) true d x bs j r log K F H=yap P bs j (⟨d,none,x⟩::r) log K F H:=by simp [yo4]
@[simp] theorem grdD_ff {x:ADo}:yo4 P (.b false) false d x bs j r log K F H=yap P bs j (⟨d,none,x⟩::r) log K F H:=by simp [yo4]
@[simp] theorem grdD_tf {x:ADo}:yo4 P (.b true) false d x bs j r log K F H=yap P bs (j+1) r log K (put F d (.tup [])) H:=by simp [yo4]
@[simp] theorem grdD_ft {x:ADo}:yo4 P (.b false) true d x bs j r log K F H=yap P bs (j+1) r log K (put F d (.tup [])) H:=by simp [yo4]
@[simp] theorem grdD_u {b:Bool} {x:ADo}:yo4 P (.tup []) b d x bs j r log K F H=yap P bs (j+1) r log K (put F d (.tup [])) H:=id rfl
@[simp] theorem awpD_guard {t:Nat} {b:Bool} {x:ADo}:yap P bs j (⟨d,some (t,b),x⟩::r) log K F H=yo4 P (y6o F t) b d x bs j r log K F H:=by
 unfold yo4;rw [yap];dsimp only;generalize y6o F t=u;cases u <;> first | rfl | (rename_i vs;cases vs <;> rfl)
theorem y32 {f:FuncId} {args:List V} {k:Cls→V→Hp→(Hp→Prop)→Prop} (v:V) (h:∀H2,AC P f args H2 fun u H'=>u=v∧H'=H2) (hk:k .pure v H (fun _=>True)):yhj P f args H k:=.inl ⟨v,h,hk⟩
theorem yg3 {f:FuncId} {args:List V} {k:Cls→V→Hp→(Hp→Prop)→Prop} (v:V) (h:AC P f args H fun u H'=>u=v∧H'=H) (hk:k .rd v H (reCall P f args v)):yhj P f args H k:=.inr (.inl ⟨v,h,hk⟩)
end
section
variable {P:Program} {n:Nat} {Q:y5i} {F:Fr} {H:Hp}
theorem AX.reg {ts:List Nat} {ss:List AStep} (h:y9s P ss (fun F H=>Q .normal (y7l F ts) H) F H):AX P n (.post ts (.region ss)) Q F H:=AX.post ts (AX.of (.region ss) h)
theorem AX.drw {ts bs:List Nat} {ss:List AStep} (h:yap P bs 0 ss [] (fun F H=>Q .normal (y7l F ts) H) F H):AX P n (.post ts (.draw bs ss)) Q F H:=AX.post ts (AX.of (.draw bs ss) h)
theorem AX.drwL {ts bs:List Nat} {ss:List AStep} {d:Option Nat} {f:FuncId} {args:List AO} (s1:List AStep) (hs:ss=s1++[⟨d,none,.call f args⟩]) (hl:bs.getD s1.length 0=2 ^ s1.length-1)
  (h:yap P bs 0 s1 [] (fun F H=>AC P f (evs F args) H fun v H'=>Q .normal (y7l (put F d v) ts) H') F H):AX P n (.post ts (.draw bs ss)) Q F H:=AX.post ts fun c hc=>by
 subst hs
 cases c <;> first | (simp only [y3c,kN] at hc;done) | skip
 rename_i id ops draw
 cases draw
 ·simp only [y3c,kN] at hc
 ·simp only [y3c,kF,beq_iff_eq] at hc
  obtain ⟨⟨⟨⟨h1,h2⟩,h3⟩,h4⟩,h5⟩:=hc
  exact AW.drawL h1 h2 h3 h4 h5 (fun i hi=>by unfold y3g;rw [hl,Nat.testBit_two_pow_sub_one];simpa using hi) h
theorem AX.ret (h:Q .ret F H):AX P n .ret Q F H:=AX.of .ret h
theorem AX.skip (h:Q .normal F H):AX P n .skip Q F H:=AX.of .skip h
theorem AX.sr {ts:List Nat} {ss:List AStep} {c:ACode} (h:y9s P ss (fun F H=>AX P n c Q (y7l F ts) H) F H):AX P n (.seq (.post ts (.region ss)) c) Q F H:=AX.seq (AX.reg h)
theorem AX.exit {id:Nat} (h:Q (.exit id) F H):AX P n (.exit id) Q F H:=AX.of (.exit id) h
theorem AX.pcond {ts:List Nat} {x:AO} {a b:ACode} {t:Bool} (hb:ev F x=.b t) (h1:t=true→AX P n a (y5i.then (fun F H=>Q .normal (y7l F ts) H) Q) F H) (h2:t=false→AX P n b (y5i.then (fun F H=>Q .normal (y7l F ts) H) Q) F H):
  AX P n (.post ts (.cond x a b)) Q F H:=AX.post ts (AX.cond hb h1 h2)
theorem AX.pcondJ {ts:List Nat} {x:AO} {a b:ACode} (hb:ev F x=.jb) (h1:AX P n a (y5i.then (fun F H=>Q .normal (y7l F ts) H) Q) F H) (h2:AX P n b (y5i.then (fun F H=>Q .normal (y7l F ts) H) Q) F H):
  AX P n (.post ts (.cond x a b)) Q F H:=AX.post ts (AX.condJ hb h1 h2)
theorem AX.prange {ts:List Nat} {g:AO} {ps:List Nat} {a b:ACode} {f:FuncId} {caps:List V} (hgv:ev F g=.fn f caps) (h:∀S:LpS,S.Is P n ps a b F→AC P f (.yl H.next::caps) (H.add (.obj (.lp S .ready))) (fun _ H'=>yj4 H.next S (y5i.then (fun F H=>Q .normal (y7l F ts) H) Q) F H')):
  AX P n (.post ts (.rangeFunc g ps a b)) Q F H:=AX.post ts (AX.rangeFunc hgv h)
theorem AX.pblock {ts:List Nat} {id:Nat} {a:ACode} (h:AX P n a (y5i.block id (y5i.then (fun F H=>Q .normal (y7l F ts) H) Q)) F H):AX P n (.post ts (.block id a)) Q F H:=AX.post ts (AX.block h)
theorem jA {ts:List Nat} {ss:List AStep} {c:ACode} (h:y9s P ss (fun F H=>AX P n c Q (y7l F ts) H) F H):AX P n (.seq (.post ts (.region ss)) c) Q F H:=AX.seq (AX.reg h)
theorem jB {ts:List Nat} {ss:List AStep} {c d:ACode} (h:y9s P ss (fun F H=>AX P n c (y5i.then (AX P n d Q) Q) (y7l F ts) H) F H):AX P n (.seq (.seq (.post ts (.region ss)) c) d) Q F H:=AX.seq (AX.seq (AX.reg h))
theorem jC {ts us:List Nat} {i:Nat} {ss:List AStep} {c d:ACode} (h:y9s P ss (fun F H=>AX P n c (y5i.block i (y5i.then (fun F H=>(y5i.then (AX P n d Q) Q) .normal (y7l F us) H) (y5i.then (AX P n d Q) Q))) (y7l F ts) H) F H):AX P n (.seq (.post us (.block i (.seq (.post ts (.region ss)) c))) d) Q F H:=AX.seq (AX.pblock (AX.seq (AX.reg h)))
theorem jD (h:Q .ret F H):AX P n .ret Q F H:=AX.ret h
theorem jE {ts:List Nat} {ss:List AStep} (h:y9s P ss (fun F H=>Q .normal (y7l F ts) H) F H):AX P n (.post ts (.region ss)) Q F H:=AX.reg h
theorem jF {ts:List Nat} {x:AO} {a b:ACode} (hb:ev F x=.b false) (h:AX P n b (y5i.then (fun F H=>Q .normal (y7l F ts) H) Q) F H):AX P n (.post ts (.cond x a b)) Q F H:=AX.pcond hb (fun h=>by cases h) (fun _=>h)
theorem jG {ts:List Nat} {x:AO} {a b:ACode} (hb:ev F x=.b true) (h:AX P n a (y5i.then (fun F H=>Q .normal (y7l F ts) H) Q) F H):AX P n (.post ts (.cond x a b)) Q F H:=AX.pcond hb (fun _=>h) (fun h=>by cases h)
end
section
variable {P:Program} {bs alx:List Nat} {N j:Nat} {r:List AStep} {log:List LogA} {als pend:List PendE} {K:Fr→Hp→Prop} {F:Fr} {C:Hp} {d:Option Nat}
@[simp] theorem bef_nil:bef bs j []=[]:=rfl
@[simp] theorem bef_cons (p:PendE) (l:List PendE):bef bs j (p::l)=if bs.getD j 0 / 2 ^ p.i % 2=1 then p::bef bs j l else bef bs j l:=by
 simp only [bef,List.filter_cons,y7w,decide_eq_true_eq]
@[simp] theorem aft_nil:aft bs j []=[]:=rfl
@[simp] theorem aft_cons (p:PendE) (l:List PendE):aft bs j (p::l)=if bs.getD j 0 / 2 ^ p.i % 2=1 then aft bs j l else p::aft bs j l:=by
 simp only [aft,List.filter_cons,y7w]
 by_cases h:bs.getD j 0 / 2 ^ p.i % 2=1
 ·rw [if_pos h,decide_eq_true h];rfl
 ·rw [if_neg h,decide_eq_false h];rfl
@[simp] theorem fillP_nil (C:Hp):y3s C []=C:=rfl
@[simp] theorem fillP_cons (C:Hp) (p:PendE) (l:List PendE):y3s C (p::l)=y3s (C.upd p.id (.cells p.cs p.m)) l:=rfl
@[simp] theorem Hp.res_zero (H:Hp):H.res 0=H:=rfl
@[simp] theorem Hp.res_upd (H:Hp) (k id:Nat) (b:Blk) (h:id=H.next):(H.res (k+1)).upd id b=(H.add b).res k:=by
 subst h;simp only [Hp.res,Hp.upd,Hp.add,Hp.mk.injEq,true_and];omega
section
variable {i j:Nat} {C0 C1 D0 D1:Hp} {p0 p1 q0 q1:List PendE} {x y:Hp→Prop}
@[simp] theorem pairA_ee:ybs bs als ⟨i,.eff,C0,C1,p0,p1,x⟩ ⟨j,.eff,D0,D1,q0,q1,y⟩=(bs.getD j 0 / 2 ^ i % 2=1):=by simp [ybs,y7w]
@[simp] theorem pairA_rr:ybs bs als ⟨i,.rd,C0,C1,p0,p1,x⟩ ⟨j,.rd,D0,D1,q0,q1,y⟩=True:=by simp [ybs]
@[simp] theorem pairA_re:ybs bs als ⟨i,.rd,C0,C1,p0,p1,x⟩ ⟨j,.eff,D0,D1,q0,q1,y⟩=(bs.getD j 0 / 2 ^ i % 2=1∨x (y3s D1 (bef bs i q1))):=by simp [ybs,y7w]
@[simp] theorem pairA_er:ybs bs als ⟨i,.eff,C0,C1,p0,p1,x⟩ ⟨j,.rd,D0,D1,q0,q1,y⟩=(bs.getD j 0 / 2 ^ i % 2=1∨y (y3s C0 (bef bs j (p0++als.filter fun p=>decide (i<p.i))))):=by simp [ybs,y7w]
@[simp] theorem pairsA_nil (y:LogA):yax bs als [] y=True:=rfl
@[simp] theorem pairsA_cons (x:LogA) (l:List LogA) (y:LogA):yax bs als (x::l) y=(ybs bs als x y∧yax bs als l y):=id rfl
end
def kA (P:Program) (bs alx:List Nat) (N j:Nat) (r:List AStep) (log:List LogA) (als pend:List PendE) (K:Fr→Hp→Prop) (F:Fr) (C:Hp) (d:Option Nat) (c:Cls) (v:V) (H':Hp) (re:Hp→Prop):Prop:=
 nextA bs j c C H' als pend re log fun log' pend' C'=>yar P bs alx N (j+1) r log' als pend' K (put F d v) C'
@[simp] theorem kA_pure (v:V) (H':Hp) (re:Hp→Prop):kA P bs alx N j r log als pend K F C d .pure v H' re=yar P bs alx N (j+1) r log als pend K (put F d v) C:=id rfl
@[simp] theorem kA_rd (v:V) (H':Hp) (re:Hp→Prop):kA P bs alx N j r log als pend K F C d .rd v H' re =
 (yax bs als log ⟨j,.rd,C,C,pend,pend,re⟩∧yar P bs alx N (j+1) r (log++[⟨j,.rd,C,C,pend,pend,re⟩]) als pend K (put F d v) C):=id rfl
@[simp] theorem kA_eff (v:V) (H':Hp) (re:Hp→Prop):kA P bs alx N j r log als pend K F C d .eff v H' re =
 (yax bs als log ⟨j,.eff,C,H',pend,aft bs j pend,re⟩∧yar P bs alx N (j+1) r (log++[⟨j,.eff,C,H',pend,aft bs j pend,re⟩]) als (aft bs j pend) K (put F d v) H'):=id rfl
def kM (P:Program) (bs alx:List Nat) (N j:Nat) (r:List AStep) (log:List LogA) (als pend:List PendE) (K:Fr→Hp→Prop) (F:Fr) (C:Hp) (d:Option Nat) (q:AlR):Prop:=
 yar P bs alx N (j+1) r log (als++[⟨j,N+als.length,q.cs,q.m⟩]) (pend++[⟨j,N+als.length,q.cs,q.m⟩]) K (put F d (q.val (N+als.length))) C
@[simp] theorem kM_eq (q:AlR):kM P bs alx N j r log als pend K F C d q=yar P bs alx N (j+1) r log (als++[⟨j,N+als.length,q.cs,q.m⟩]) (pend++[⟨j,N+als.length,q.cs,q.m⟩]) K (put F d (q.val (N+als.length))) C:=id rfl
def mkA (x:Option AlR) (k:AlR→Prop):Prop:=match x with | some q=>k q | none=>False
@[simp] theorem mkA_some (q:AlR) (k:AlR→Prop):mkA (some q) k=k q:=id rfl
@[simp] theorem mkA_ite (c:Prop) [Decidable c] (q:AlR) (k:AlR→Prop):mkA (if c then some q else none) k=(c∧k q):=by split <;> simp [mkA, *]
@[simp] theorem awpA_nil:yar P bs alx N j [] log als pend K F C=(als.length≤alx.length∧K F (y3s C pend)):=id rfl
@[simp] theorem awpA_op {o:AOp}:yar P bs alx N j (⟨d,none,.op o⟩::r) log als pend K F C=if alx.contains j then mkA (alO o F) (kM P bs alx N j r log als pend K F C d) else
  stpD (yla o F) (y2c o F (y3s C (bef bs j pend))) (kA P bs alx N j r log als pend K F C d) (reOp o F):=id rfl
@[simp] theorem awpA_call {f:FuncId} {args:List AO}:yar P bs alx N j (⟨d,none,.call f args⟩::r) log als pend K F C=if alx.contains j then False else
  yhj P f (evs F args) (y3s C (bef bs j pend)) (kA P bs alx N j r log als pend K F C d):=id rfl
@[simp] theorem awpA_callv {fv:AO} {args:List AO}:yar P bs alx N j (⟨d,none,.callv fv args⟩::r) log als pend K F C=if alx.contains j then False else
  yhi P (ev F fv) (evs F args) (y3s C (bef bs j pend)) (kA P bs alx N j r log als pend K F C d):=id rfl
def yo5 (P:Program) (v:V) (b:Bool) (d:Option Nat) (x:ADo) (bs alx:List Nat) (N j:Nat) (r:List AStep) (log:List LogA) (als pend:List PendE) (K:Fr→Hp→Prop) (F:Fr) (C:Hp):Prop:=
 match v with | .b y=>(y=b→yar P bs alx N j (⟨d,none,x⟩::r) log als pend K F C)∧(y≠b→yar P bs alx N (j+1) r log als pend K (put F d (.tup [])) C) | .tup []=>yar P bs alx N (j+1) r log als pend K (put F d (.tup [])) C | _=>False
@[simp] theorem grdA_tt {x:ADo}:yo5 P (.b true) true d x bs alx N j r log als pend K F C=yar P bs alx N j (⟨d,none,x⟩::r) log als pend K F C:=by simp [yo5]
@[simp] theorem grdA_ff {x:ADo}:yo5 P (.b false) false d x bs alx N j r log als pend K F C=yar P bs alx N j (⟨d,none,x⟩::r) log als pend K F C:=by simp [yo5]
@[simp] theorem grdA_tf {x:ADo}:yo5 P (.b true) false d x bs alx N j r log als pend K F C=yar P bs alx N (j+1) r log als pend K (put F d (.tup [])) C:=by simp [yo5]
@[simp] theorem grdA_ft {x:ADo}:yo5 P (.b false) true d x bs alx N j r log als pend K F C=yar P bs alx N (j+1) r log als pend K (put F d (.tup [])) C:=by simp [yo5]
@[simp] theorem grdA_u {b:Bool} {x:ADo}:yo5 P (.tup []) b d x bs alx N j r log als pend K F C=yar P bs alx N (j+1) r log als pend K (put F d (.tup [])) C:=id rfl
@[simp] theorem awpA_guard {t:Nat} {b:Bool} {x:ADo}:yar P bs alx N j (⟨d,some (t,b),x⟩::r) log als pend K F C=yo5 P (y6o F t) b d x bs alx N j r log als pend K F C:=by
 unfold yo5;rw [yar];dsimp only;generalize y6o F t=u;cases u <;> first | rfl | (rename_i vs;cases vs <;> rfl)
attribute [simp] alO AlR.val
end
theorem AX.join {P:Program} {n:Nat} {d:ACode} {Q:y5i} {F F1:Fr} {H H1:Hp} (h:AX P n d (fun x F H=>x=.normal∧F=F1∧H=H1) F H) (k:Q .normal F1 H1):AX P n d Q F H:=
 h.mono (by rintro _ _ _ ⟨rfl,rfl,rfl⟩;exact k)
@[simp] theorem Hp.upd_upd (H:Hp) (id:Nat) (a b:Blk):(H.upd id a).upd id b=H.upd id b:=by
 simp only [Hp.upd,Hp.mk.injEq,and_true]
 funext k
 split <;> rfl
theorem Hp.upd_self {H:Hp} {id:Nat} {b:Blk} (h:H.get id=some b):H.upd id b=H:=by
 cases H with
 | mk g nx=>
  simp only [Hp.upd,Hp.mk.injEq,and_true]
  funext k
  split
  ·rename_i e;subst e;exact h.symm
  ·rfl
def Ends (R:V→Hp→Prop) (rs:List ARes):y5i:=fun x F H'=>(∀k,x≠.exit k)∧∃v,resV F H' rs=some v∧R v H'
@[simp] theorem Ends_ret {R:V→Hp→Prop} {rs:List ARes} {F:Fr} {H:Hp}:Ends R rs .ret F H=∃v,resV F H rs=some v∧R v H:=by simp [Ends]
@[simp] theorem Ends_normal {R:V→Hp→Prop} {rs:List ARes} {F:Fr} {H:Hp}:Ends R rs .normal F H=∃v,resV F H rs=some v∧R v H:=by simp [Ends]
theorem AC.code {P:Program} {f:FuncId} {fn:Func} {a:AFunc} (hf:P.funcs[f]?=some fn) (hok:y25 P fn a=true) {args:List V} {H:Hp} {R:V→Hp→Prop} (h:AX P a.n a.body (Ends R a.res) (fr0 0 args) H):AC P f args H R:=AC.of hf hok h
theorem AC.fix {P:Program} {f:FuncId} {args:List V} {H H1:Hp} {v:V} {K:V→Hp→Prop} (h:AC P f args H (fun r H'=>r=v∧H'=H1)) (k:K v H1):AC P f args H K:=
 h.mono (by rintro _ _ ⟨rfl,rfl⟩;exact k)
theorem wrap_i64 {n:Int} (h0:-9223372036854775808≤n) (h1:n≤9223372036854775807):IntKind.i64.wrap n=n:=by
 simp [IntKind.wrap,IntKind.bits,IntKind.signed]
 split <;> omega
theorem y99 {n:Int} (h0:0≤n) (h1:n<18446744073709551616):IntKind.u64.wrap n=n:=by
 simp [IntKind.wrap,IntKind.bits,IntKind.signed];omega
def bcells (l:List UInt8):List V:=l.map fun b=>.i .u8 b.toNat
@[simp] theorem bcells_length (l:List UInt8):(bcells l).length=l.length:=by simp [bcells]
def nc (l:List Nat):List V:=l.map fun (n:Nat)=>.i .i64 ((n:Nat):Int)
@[simp] theorem nc_length (l:List Nat):(nc l).length=l.length:=by simp [nc]
def okH (H:Hp) (id e:Nat):Prop:=id<H.next∧∀cs m,H.get id=some (.cells cs m)→e≤cs.length
structure Trim (H H' H1:Hp):Prop where
 lo:H.next≤H1.next
 hi:H1.next≤H'.next
 get:∀id blk,H1.get id=some blk→id<H1.next∧H'.get id=some blk
 cells:∀id cs m,H1.get id=some (.cells cs m)→(∃m',H.get id=some (.cells cs m'))∨∀v∈cs,Okv (okH H1) v
 maps:∀id o,H1.get id=some (.obj o)→H.get id=some (.obj o)∨yj3 (okH H1) o
theorem AC.trim {P:Program} {f:FuncId} {args:List V} {H:Hp} {R R':V→Hp→Prop} (h:AC P f args H R') (hr:∀v H',R' v H'→∃H1,Trim H H' H1∧Okv (okH H1) v∧R v H1):AC P f args H R:=
 ⟨h.1,fun κ cs S r=>(h.2 κ cs S r).mono fun e w' ⟨κ',v,cv,H',he,hw,le,S',rv,q⟩=>by
  obtain ⟨H1,T,ov,hR⟩:=hr v H' q
  let ok2:Nat→Nat→Prop:=fun id e=>κ'.ok id e∧okH H1 id e
  have okle:∀id e,κ.ok id e→ok2 id e:=fun id e o=>by
   have o1:=(S.ok id e o).1
   have o3:=(le.ok id e o).1
   have o2:=(S'.ok id e o3).2
   exact ⟨o3,Nat.lt_of_lt_of_le o1 T.lo,fun cs m hg=>o2 cs m (T.get id _ hg).2⟩
  have le2:κ.Le { κ' with ok:=ok2,hole:=κ.hole }:=⟨fun id e o=>⟨okle id e o,(le.ok id e o).2⟩,le.fz,le.ic,le.icn,le.n,le.size,le.os,le.tape,le.output,fun id h=>⟨h,fun e o=>(le.hole id h).2 e o.1⟩,le.base,le.lps⟩
  refine ⟨{ κ' with ok:=ok2,hole:=κ.hole },v,cv,H1,he,hw,le2,⟨fun id e o=>o.2,fun id ho=>?_,fun id blk hg=>(T.get id blk hg).1,S'.fz,S'.ic,fun id cs m hg=>S'.le id cs m (T.get id _ hg).2,fun id cs m hg e h1 h2=>?_,fun id es hg=>?_,
   fun id id' e e' cs m cs' m' h1 h2=>S'.sep id id' e e' cs m cs' m' (T.get id _ h1).2 (T.get id' _ h2).2,fun id cs m e e' h1=>S'.base id cs m e e' (T.get id _ h1).2,
   fun id id' es es' h1 h2=>S'.sepm id id' es es' (T.get id _ h1).2 (T.get id' _ h2).2,S'.tb⟩,(rv.reok2 _ ov),hR⟩
  ·obtain ⟨_,g2⟩:=S'.hole id (le.hole id ho).1
   refine ⟨Nat.lt_of_lt_of_le (S.hole id ho).1 T.lo,?_⟩
   cases hh:H1.get id with
   | none=>rfl
   | some blk=>have:=(T.get id blk hh).2;rw [g2] at this;cases this
  ·obtain ⟨⟨arr,t,fr,hb,hs,hv,hf⟩,hz⟩:=S'.cells id cs m (T.get id _ hg).2 e h1 h2
   exact ⟨⟨arr,t,fr,hb,hs,fun j u hj hu=>by
    rcases T.cells id cs m hg with ⟨m',ho⟩ | ho
    ·obtain ⟨⟨arr0,t0,fr0,hb0,hs0,hv0,hf0⟩,hz0⟩:=S.cells id cs m' ho cs.length (S.le _ _ _ ho) (kG _)
     have hjl:=(List.getElem?_eq_some_iff.1 hu).1
     have:=(hv0 j u hjl hu).okv.mono okle
     exact (hv j u hj hu).reok κ.hole this
    ·exact (hv j u hj hu).reok2 _ (ho u (kY hu)),hf⟩,hz⟩
  ·obtain ⟨⟨x,hb,ho⟩,hz⟩:=S'.maps id es (T.get id _ hg).2
   exact ⟨⟨x,hb,by
    rcases T.maps id es hg with hold | hold
    ·obtain ⟨⟨x0,hb0,ho0⟩,hz0⟩:=S.maps id es hold
     exact ho.reok κ.hole (ho0.okv.mono okle)
    ·exact ho.reok2 _ hold⟩,hz⟩⟩
def y9w:V→Prop:=Okv (fun _ _=>False)
theorem y9w.ok {v:V} (h:y9w v) (ok:Nat→Nat→Prop):Okv ok v:=Okv.mono (fun _ _ h=>h.elim) h
theorem AC.clean {P:Program} {f:FuncId} {args:List V} {H:Hp} {v:V} (hf:y9w v) (h:AC P f args H (fun r H'=>r=v∧H.next≤H'.next∧∀id blk,H.get id=some blk→H'.get id=some blk)) (hn:∀id blk,H.get id=some blk→id<H.next):
  AC P f args H (fun r H'=>r=v∧H'=H):=
 h.trim fun r H' ⟨e,h1,h2⟩=>⟨H,⟨kG _,h1,fun id blk hg=>⟨hn id blk hg,h2 id blk hg⟩,fun id cs m hg=>.inl ⟨m,hg⟩,fun id es hg=>.inl hg⟩,by subst e;exact hf.ok _,e,rfl⟩
theorem AC.lt {P:Program} {f:FuncId} {args:List V} {H:Hp} {R:V→Hp→Prop} (hb:okFn P f=true) (h:(∀id blk,H.get id=some blk→id<H.next)→AC P f args H R):AC P f args H R:=
 ⟨hb,fun κ cs S r=>(h S.lt).2 κ cs S r⟩
theorem ynd {P:Program} {f:FuncId} {fn:Func} {a:AFunc} (hf:P.funcs[f]?=some fn) (hok:y25 P fn a=true):okFn P f=true:=by
 simp only [y25,kF,bne_iff_ne,ne_eq,decide_eq_true_eq] at hok
 obtain ⟨⟨⟨h1,h2⟩,h3⟩,h4⟩:=hok
 split at h4
 ·rename_i c hb;simp [okFn,hf,hb,h1]
 ·cases h4
@[simp] theorem free_b (x:Bool):y9w (.b x):=.b x
@[simp] theorem free_i (k:IntKind) (n:Int):y9w (.i k n):=.i k n
@[simp] theorem free_s (x:List UInt8):y9w (.s x):=.s x
@[simp] theorem free_sl0 (n sz:Nat):y9w (.sl none n sz):=.sl0 n sz
@[simp] theorem free_p0:y9w (.p none):=.p0
theorem yh5 {cs:List V} (h:∀v∈cs,y9w v):∀(j:Nat) v,cs[j]?=some v→Okv (fun _ _=>False) v:=fun _ v hj=>h v (kY hj)
theorem free_tup {cs:List V} (h:∀v∈cs,y9w v):y9w (.tup cs):=.tup cs (yh5 h)
theorem yk0 {cs:List V} (h:∀v∈cs,y9w v):y9w (.agg cs):=.agg cs (yh5 h)
theorem y9j {es:List (List V)} (h:∀e∈es,∀v∈e,y9w v):y9w (.fs es):=.fs es fun i j e v hi hj=>h e (kY hi) v (kY hj)
@[simp] theorem free_tup_iff {cs:List V}:y9w (.tup cs)↔∀v∈cs,y9w v:=⟨fun h v hv=>by
 cases h with | tup _ h=>obtain ⟨j,hj⟩:=List.mem_iff_getElem?.1 hv;exact h j v hj,free_tup⟩
@[simp] theorem free_agg_iff {cs:List V}:y9w (.agg cs)↔∀v∈cs,y9w v:=⟨fun h v hv=>by
 cases h with | agg _ h=>obtain ⟨j,hj⟩:=List.mem_iff_getElem?.1 hv;exact h j v hj,yk0⟩
@[simp] theorem free_fs_iff {es:List (List V)}:y9w (.fs es)↔∀e∈es,∀v∈e,y9w v:=⟨fun h e he v hv=>by
 cases h with | fs _ h=>obtain ⟨i,hi⟩:=List.mem_iff_getElem?.1 he;obtain ⟨j,hj⟩:=List.mem_iff_getElem?.1 hv;exact h i j e v hi hj,y9j⟩
open Go.WideShapes
inductive Ty where
 | bool
 | int (k:IntKind)
 | str
 | sl (e:Ty)
 | st (fs:List Ty)
def inInt (k:IntKind) (n:Int):Prop:=k.min≤n∧n≤k.max
theorem yfs {α β:Type} (f:α→Option β):∀(l:List α) (r:List β),l.mapM f=some r→r.length=l.length∧∀(i:Nat) x,l[i]?=some x→∃y,r[i]?=some y∧f x=some y
 | [],r,h=>by simp at h;subst h;exact ⟨rfl,fun i x h=>by simp at h⟩
 | a::l,r,h=>by
  simp only [List.mapM_cons,Option.bind_eq_bind,Option.pure_def] at h
  cases ha:f a with
  | none=>simp [ha] at h
  | some b=>
   cases hl:l.mapM f with
   | none=>simp [ha,hl] at h
   | some bs=>
    simp [ha,hl] at h
    subst h
    obtain ⟨h1,h2⟩:=yfs f l bs hl
    refine ⟨by simp [h1],fun i x hi=>?_⟩
    cases i with
    | zero=>simp at hi;subst hi;exact ⟨b,rfl,ha⟩
    | succ i=>simpa using h2 i x (by simpa using hi)
def K.start (w:World):K:={ pl:=fun _ _=>(0,0),ok:=fun _ _=>False,fz:=fun b=>b<w.heap.size,ic:=fun b=>b<w.heap.size,hole:=fun _=>False,base:=0,w:=w }
theorem Sim.start (w:World) (ht:TBok (K.start w)):Sim (K.start w) Hp.none where
 ok:=fun id e h=>h.elim
 hole:=fun id h=>h.elim
 lt:=by intro id blk h;cases h
 fz:=fun b h=>h
 ic:=fun b h=>h
 le:=by intro id cs m h;cases h
 cells:=by intro id cs m h;cases h
 maps:=by intro id es h;cases h
 sep:=by intro id id' e e' cs m cs' m' h;cases h
 base:=by intro id cs m e e' h;cases h
 sepm:=by intro id id' es es' h;cases h
 tb:=ht
theorem y76 {w:World} {base:Nat} {a:Addr} {n:Nat} {cs:List Value} (h:w.cells? base a n=some cs):cs.length=n∧∀(j:Nat) c,cs[j]?=some c→w.cell? (a.add j)=some c:=by
 unfold World.cells? at h
 split at h
 ·obtain ⟨h1,h2⟩:=yfs _ _ _ h
  simp at h1
  refine ⟨h1,fun j c hj=>?_⟩
  have hlt:j<n:=by rw [←h1];exact (List.getElem?_eq_some_iff.1 hj).1
  obtain ⟨y,q1,q2⟩:=h2 j j (by simp [hlt])
  rw [hj] at q1;injection q1 with q1;subst q1;exact q2
 ·cases h
theorem VRs.single {κ:K} {v:V} {c:Value} (h:VR κ v c):VRs κ [v] [c]:=⟨rfl,fun j u hj=>by
 cases j with
 | zero=>simp at hj;subst hj;exact h
 | succ j=>simp at hj⟩
theorem wf_in {k:IntKind} {n:Int} (h:(Lit.int k n).wf=true):inInt k n:=by
 simpa [Lit.wf,inInt] using h
section
variable {H:Type} {enc:TypeId × Value→H} {P:Program} {w:World} {spare:Nat→Bool} {held:Bool}
theorem ye5 {β:Type} (p:Nat→β→Prop):∀n,(∀i,i<n→∃b,p i b)→∃l:List β,l.length=n∧∀(i:Nat) b,l[i]?=some b→p i b
 | 0,_=>⟨[],rfl,fun i b h=>by simp at h⟩
 | n+1,h=>by
  obtain ⟨l,h1,h2⟩:=ye5 p n (fun i hi=>h i (by omega))
  obtain ⟨b,hb⟩:=h n (by omega)
  refine ⟨l++[b],by simp [h1],fun i b' hi=>?_⟩
  by_cases hil:i<l.length
  ·rw [kR hil] at hi;exact h2 i b' hi
  ·rw [kX (by omega)] at hi
   have:i=n:=by
    have:=(List.getElem?_eq_some_iff.1 hi).1
    simp at this;omega
   subst this
   simp [h1] at hi
   subst hi;exact hb
end
theorem ykm {P:Program} {f:FuncId} {args:List V} {w:World} {cs:List Value} (h:AC P f args Hp.none (fun r _=>r=.b true)) (r:VRs (K.start w) args cs) (ht:TBok (K.start w):=by intro p hp;simp [TBs] at hp):
  Calls P f cs.toArray w fun e w'=>e=.returned (.bool true)∧Below w.heap.size w w':=
 (h.2 (K.start w) cs (Sim.start w ht) r).mono fun e w' ⟨κ',v,cv,H',he,hw,le,S',rv,hR⟩=>by
  subst hR;subst hw
  rw [VR.inv_b rv] at he
  exact ⟨he,le.os,le.tape,le.output,le.size,fun k hk=>(le.fz k hk).2⟩
open Go.ChangeShapes Go.ChangeAt
theorem yiv {H:Type} {enc:TypeId × Value→H} {P:Program} {w:World}:∀{ts:List TypeId} {vs:List Value} {ds:List (DataW H)} {ps:List MemPlace},
  DataW.TrodAll enc P w 0 (fun _=>true) true ts vs ds ps→∀x∈ps,x.block<w.heap.size
 | [],vs,ds,ps,h=>by
  obtain ⟨rfl,rfl,rfl⟩:=trodAll_nil h
  simp
 | t::ts,vs,ds,ps,h=>by
  obtain ⟨v,vs',d,ds',p,q,rfl,rfl,rfl,h1,h2⟩:=trodAll_cons h
  intro x hx
  rcases List.mem_append.1 hx with hx | hx
  ·obtain ⟨m,hm⟩:=h1
   exact DataW.trod_lt m _ _ _ hm x hx
  ·exact yiv h2 x hx
def yb7 (P:Program) (ts:List TypeId):Bool:=ts.all fun t=>P.readableRec t&&decide (t<P.types.size)
theorem yhn {H:Type} {enc:TypeId × Value→H} {P:Program} (hl:laidOutB P=true) {w w':World} (hb:Below w.heap.size w w'):∀{ts:List TypeId} {vs:List Value} {ds:List (DataW H)} {ps:List MemPlace},
  yb7 P ts=true→DataW.TrodAll enc P w 0 (fun _=>true) true ts vs ds ps→DataW.TrodAll enc P w' 0 (fun b=>decide (b<w.heap.size)) true ts vs ds ps
 | [],vs,ds,ps,hr,h=>by
  obtain ⟨rfl,rfl,rfl⟩:=trodAll_nil h
  rfl
 | t::ts,vs,ds,ps,hr,h=>by
  have hlt:=yiv h
  obtain ⟨v,vs',d,ds',p,q,rfl,rfl,rfl,h1,h2⟩:=trodAll_cons h
  simp only [yb7,List.all_cons,kF,decide_eq_true_eq] at hr
  refine trodAll_cons_mk (Below.trod hl hr.1.1 hr.1.2 h1 hb (fun x hx=>hlt x (by simp [hx]))) (yhn hl hb ?_ h2)
  unfold yb7
  exact hr.2
end Go.Proofs.YtikpijbeobeckaaGreatDoor.Am
