/- Part 21. -/
import Derived.Test.YtikpijbeobeckaaGreatDoorXGw20
set_option linter.unusedSimpArgs false
set_option linter.unusedVariables false
namespace Go.Proofs.YtikpijbeobeckaaGreatDoor
open Am C
def clsN (c:UInt8):Int:=if ycy c then 1 else if ygc c then 2 else 0
theorem ydg (c:UInt8) (H:Hp):AC Tryz.prog y5m [.i .u8 c.toNat] H (fun v H'=>v=.i .i64 (clsN c)∧H'=H):=by
 refine AC.code y1q.at y1q.ok ?_
 simp only [y1q]
 apply jA
 simp [y1q.r0]
 apply jA
 simp [y1q.r1]
 refine AX.seq (AX.pblock (AX.seq (AX.pblock (AX.seq (AX.pblock (AX.seq (AX.seq (AX.test (ycy c) [(0,.i .u8 c.toNat),(3,.i .i64 2),(4,.b (ycy c))] ?_ rfl (fun hd=>AX.exit ?_) (fun hd=>AX.skip ?_)))))))))
 ·by_cases h:(48:Int)≤c.toNat <;> simp [y1q.r2,h,ycy]
  all_goals omega
 ·simp
  apply jE
  simp [y1q.r6]
  apply jB
  simp [y1q.r7]
  apply jD
  simp [clsN,hd]
 simp
 refine AX.seq (AX.join (F1:=[(3,.i .i64 2),(11,.b (ygc c))]) (H1:=H) ?_ ?_)
 ·refine AX.test (decide (65≤c.toNat∧c.toNat≤90)) [(0,.i .u8 c.toNat),(3,.i .i64 2),(11,.b (decide (65≤c.toNat∧c.toNat≤90)))] ?_ rfl (fun h1=>AX.skip ?_) (fun h1=>?_)
  ·by_cases h:(65:Int)≤c.toNat <;> simp [y1q.r3,h]
   all_goals omega
  ·simp at h1 ⊢;simp [ygc,h1]
  refine AX.test (decide (97≤c.toNat∧c.toNat≤122)) [(0,.i .u8 c.toNat),(3,.i .i64 2),(11,.b (decide (97≤c.toNat∧c.toNat≤122)))] ?_ rfl (fun h2=>AX.skip ?_) (fun h2=>AX.reg ?_)
  ·by_cases h:(97:Int)≤c.toNat <;> simp [y1q.r4,h]
   all_goals omega
  ·simp at h2 ⊢;simp [ygc,h2]
  ·simp only [decide_eq_false_iff_not] at h1 h2
   simp [y1q.r5,ygc,h1,h2]
 refine AX.pcond rfl (fun hb=>AX.exit ?_) (fun hb=>AX.skip ?_)
 ·simp
  apply jB
  simp [y1q.r7]
  apply jD
  simp [clsN,hd,hb]
 ·simp
  refine AX.exit ?_
  simp
  apply jA
  simp [y1q.r8]
  apply jD
  simp [clsN,hd,hb]
theorem cls1 (c:UInt8):(clsN c=1)=(ycy c=true):=by
 unfold clsN;by_cases h:ycy c=true
 ·simp [h]
 ·by_cases h2:ygc c=true <;> simp [h,h2]
theorem yox (c:UInt8) (h:ygc c=true):ycy c=false:=by
 simp [ygc,ycy] at *;omega
theorem cls2 (c:UInt8):(clsN c=2)=(ygc c=true):=by
 unfold clsN;by_cases h:ycy c=true
 ·have:¬ygc c=true:=fun h2=>by rw [yox c h2] at h;cases h
  simp [h,this]
 ·by_cases h2:ygc c=true <;> simp [h,h2]
theorem cls0 (c:UInt8):(clsN c<1)=(inB true c=false):=by
 unfold clsN inB;by_cases h:ycy c=true
 ·simp [h]
 ·by_cases h2:ygc c=true <;> simp [h,h2]
theorem yhd (s:Str) (h:s.all ycy=true) (acc:Nat):Go.Lib.decFrom acc s=some (s.foldl (fun n c=>10*n+(c.toNat-48)) acc):=by
 induction s generalizing acc with
 | nil=>rfl
 | cons c s ih=>
  simp only [List.all_cons,kF] at h
  have hd:=of_decide_eq_true h.1
  simp only [Go.Lib.decFrom,Go.Lib.digitVal,if_pos hd,List.foldl_cons]
  rw [ih h.2,Nat.mul_comm]
theorem ypl (s:Str) (h:s.all ycy=true) (hne:s≠[]):Go.Lib.atoi s=some (ymm s:Int):=by
 cases s with
 | nil=>exact absurd rfl hne
 | cons c s=>
  have hd:=h
  simp only [List.all_cons,kF] at hd
  have hd:=of_decide_eq_true hd.1
  have e1:(c == 45)=false:=by
   cases hh:c == 45 with
   | false=>rfl
   | true=>have:=eq_of_beq hh;subst this;simp at hd
  have e2:(c == 43)=false:=by
   cases hh:c == 43 with
   | false=>rfl
   | true=>have:=eq_of_beq hh;subst this;simp at hd
  simp only [Go.Lib.atoi,e1,e2,Go.Lib.decNat]
  rw [show (c::s).isEmpty=false from rfl,yhd _ h]
  rfl
theorem valD_big (s:Str) (h:s.all ycy=true):∀n k,10 ^ k≤n→10 ^ (k+s.length)≤s.foldl (fun n c=>10*n+(c.toNat-48)) n:=by
 induction s with
 | nil=>intro n k h;simpa using h
 | cons c s ih=>
  intro n k hk
  simp only [List.all_cons,kF] at h
  simp only [List.foldl_cons,kO]
  have:=ih h.2 (10*n+(c.toNat-48)) (k+1) (by rw [Nat.pow_succ];omega)
  rwa [show k+(s.length+1)=k+1+s.length by omega]
theorem yml (s:Str) (h:s.all ycy=true) (h0:s[0]?≠some 48) (hl:9<s.length):268435456<ymm s:=by
 cases s with
 | nil=>simp at hl
 | cons c s=>
  simp at h0 hl
  have hc:=h
  simp only [List.all_cons,kF] at hc
  have hd:=of_decide_eq_true hc.1
  have hne:c.toNat≠48:=fun hh=>h0 (UInt8.toNat_inj.1 (by rw [hh];rfl))
  have h1:=valD_big s hc.2 (10*0+(c.toNat-48)) 0 (by simp;omega)
  have h2:10 ^ 9≤10 ^ (0+s.length):=Nat.pow_le_pow_right (by omega) (by omega)
  unfold ymm;simp only [List.foldl_cons];omega
def DReadInv (s:Str) (H:Hp) (m:Nat) (F:Fr) (H':Hp):Prop:=
 ∃i,i≤s.length∧m=s.length-i∧(s.take i).all ycy=true∧H'=H∧F=[(0,.s s),(10,.i .i64 s.length),(11,.i .i64 i)]
theorem DRead_ok (s:Str) (hs:s.length≤9223372036854775807) (H:Hp):AC Tryz.prog y9g [.s s] H (fun v H'=>v=.tup [.i .i64 (y6n s).1,.i .i64 (y6n s).2]∧H'=H):=by
 refine AC.code y18.at y18.ok ?_
 simp only [y18]
 apply jA
 simp [y18.r0]
 apply jB
 simp [y18.r1]
 refine AX.pcond rfl (fun hb=>?_) (fun hb=>AX.skip ?_)
 ·simp at hb
  apply jA
  simp [y18.r2]
  apply jD
  simp [y6n,hb]
 simp at hb
 simp
 apply jB
 simp [y18.r3]
 refine AX.pblock (AX.loop (DReadInv s H) s.length ⟨_,_,.refl _ _,0,by omega,by omega,by simp,rfl,rfl⟩ ?_)
 rintro m F H' ⟨i,hi,rfl,hx,rfl,rfl⟩
 simp only [y18.l0]
 apply jA
 simp [y18.r4]
 refine AX.seq (AX.pcond rfl (fun hc=>AX.skip ?_) (fun hc=>AX.exit ?_))
 ·simp at hc
  simp
  apply jC
  simp [y18.r5]
  apply jA
  simp [y18.r6,hc]
  refine AC.fix (ydg _ _) ?_
  simp [cls1]
  refine AX.pcond rfl (fun hd=>?_) (fun hd=>AX.skip ?_)
  ·simp at hd
   apply jA
   simp [y18.r7]
   apply jD
   have:s.all ycy=false:=by
    rw [List.all_eq_false];exact ⟨_,kL hc,by simp [hd]⟩
   simp [y6n,hb,this]
  simp at hd
  simp
  apply jE
  simp [y18.r8,y2g hc hs]
  refine ⟨s.length-(i+1),by omega,_,_,.refl _ _,i+1,by omega,rfl,?_,rfl,by simp⟩
  rw [kJ,kC hc,List.all_append,hx]
  simp [hd]
 simp at hc
 have hall:s.all ycy=true:=by rwa [kI (by omega)] at hx
 have hp:0<s.length:=List.length_pos_iff.2 hb
 simp
 refine AX.seq (AX.pblock (AX.test (decide (s[0]?=some 48∧1<s.length)) [(0,.s s),(20,.b (decide (s[0]?=some 48∧1<s.length)))] ?_ rfl (fun hz=>jA ?_) (fun hz=>?_)))
 ·have e:((s[0].toNat:Int)=48)=(s[0]=48):=by
   refine propext ⟨fun h=>UInt8.toNat_inj.1 (by
                           have:s[0].toNat=48:=by omega
                           rw [this];rfl),fun h=>by rw [h];rfl⟩
  by_cases h:s[0]=48 <;> simp [y18.r9,hp,e,h]
 ·simp [y18.r10]
  apply jD
  simp only [decide_eq_true_eq] at hz
  have:y6n s=(0,3):=by unfold y6n;rw [if_neg hb,if_neg (by simp [hall]),if_pos hz]
  simp [this]
 simp only [decide_eq_false_iff_not] at hz
 have hr:y6n s=if 268435456<ymm s then (0,2) else (ymm s,0):=by unfold y6n;rw [if_neg hb,if_neg (by simp [hall]),if_neg hz]
 simp
 apply jA
 simp [y18.r11]
 refine AX.pcond rfl (fun hl=>?_) (fun hl=>AX.skip ?_)
 ·simp at hl
  apply jA
  simp [y18.r12]
  apply jD
  rw [hr,if_pos (yml s hall (fun h=>hz ⟨h,by omega⟩) (by omega))];simp
 simp at hl
 simp
 apply jA
 simp [y18.r13]
 refine AC.fix (Atoi_ok s _ (by omega) (ypl s hall hb) _) ?_
 simp
 apply jB
 simp [y18.r14]
 refine AX.pcond rfl (fun hv=>?_) (fun hv=>AX.skip ?_)
 ·simp at hv
  apply jA
  simp [y18.r15]
  apply jD
  rw [hr,if_pos (by omega)];simp
 simp at hv
 simp
 apply jA
 simp [y18.r16]
 apply jD
 rw [hr,if_neg (by omega)];simp
theorem ydy (s:Str) (hs:s.length≤9223372036854775807) (H:Hp):AC Tryz.prog y6d [.s s] H (fun v H'=>v=.tup [.i .i64 (y6n s).1,.b (decide ((y6n s).2=0))]∧H'=H):=by
 refine AC.code y2x.at y2x.ok ?_
 simp only [y2x]
 apply jA
 simp [y2x.r0]
 apply jA
 simp [y2x.r1]
 refine AC.fix (DRead_ok s hs _) ?_
 simp
 apply jA
 simp [y2x.r2]
 apply jD
 simp
def yqb (s:Str) (H:Hp) (m:Nat) (F:Fr) (H':Hp):Prop:=
 ∃i,i≤s.length∧m=s.length-i∧(s.take i).all (inB true)=true∧H'=H∧F=[(0,.s s),(4,.i .i64 1),(24,.i .i64 s.length),(25,.i .i64 i)]
theorem dig10 (c:UInt8):List.contains [48,49,50,51,52,53,54,55,56,57] c=ycy c:=by
 rw [Bool.eq_iff_iff]
 constructor
 ·intro h
  have:=List.mem_of_elem_eq_true h
  simp at this
  rcases this with h | h | h | h | h | h | h | h | h | h <;> (subst h;rfl)
 ·intro h
  have:=of_decide_eq_true h
  obtain ⟨k,hk,rfl⟩:∃k:Nat,k<10∧c=UInt8.ofNat (48+k):=⟨c.toNat-48,by omega,UInt8.toNat_inj.1 (by rw [UInt8.toNat_ofNat'];omega)⟩
  rcases (by omega:k=0∨k=1∨k=2∨k=3∨k=4∨k=5∨k=6∨k=7∨k=8∨k=9) with h | h | h | h | h | h | h | h | h | h <;> (subst h;rfl)
theorem y8b {α:Type} {p:α→Bool} {l:List α}:l.dropWhile p=[]↔l.all p=true:=by
 induction l with
 | nil=>simp
 | cons a l ih=>
  by_cases h:p a=true
  ·simp only [List.dropWhile_cons,h,if_true,List.all_cons,Bool.true_and];exact ih
  ·simp [h]
theorem yeg (s:Str) (hs:s.length≤9223372036854775807) (H:Hp):AC Tryz.prog y6e [.s s] H (fun v H'=>v=.tup [.s (y3t s).1,.s (y3t s).2]∧H'=H):=by
 refine AC.code y1a.at y1a.ok ?_
 simp only [y1a]
 apply jA
 simp [y1a.r0]
 apply jB
 simp [y1a.r1]
 refine AX.pcond rfl (fun hb=>?_) (fun hb=>AX.skip ?_)
 ·simp at hb;subst hb
  apply jA
  simp [y1a.r2]
  apply jD
  simp [y3t]
 simp at hb
 have hp:0<s.length:=List.length_pos_iff.2 hb
 have hw:y9t s=ygc s[0]:=by simp [y9t,hp]
 simp
 apply jA
 simp [y1a.r3]
 apply jB
 simp [y1a.r4,hp]
 refine AC.fix (ydg _ _) ?_
 simp [cls2]
 refine AX.pcond rfl (fun hd=>?_) (fun hd=>AX.skip ?_)
 ·simp at hd
  have e:inB (y9t s)=fun c=>List.contains [48,49,50,51,52,53,54,55,56,57] c:=by
   funext c;rw [dig10,hw,hd];simp [inB]
  apply jA
  simp [y1a.r5]
  refine AC.fix (yiw s [48,49,50,51,52,53,54,55,56,57] (by decide) (by decide) _) ?_
  rw [←e]
  have hl:=congrArg List.length (y87 s)
  rw [kT] at hl
  have hr:s.dropWhile (inB (y9t s))=(y3t s).2:=rfl
  rw [hr]
  have e1:Go.IntKind.i64.wrap ((s.length:Int)-((y3t s).2.length:Int))=((y3t s).1.length:Nat):=by rw [wrap_i64 (by omega) (by omega)];omega
  have e2:s.take (y3t s).1.length=(y3t s).1:=by
   conv=>lhs;arg 2;rw [←y87 s]
   simp
  simp
  apply jA
  simp [y1a.r6,e1,e2,show (y3t s).1.length≤s.length by omega]
  apply jD
  simp
 simp at hd
 have hw':y9t s=true:=by rw [hw,hd]
 simp
 apply jB
 simp [y1a.r7]
 refine AX.pblock (AX.loop (yqb s H) s.length ⟨_,_,.refl _ _,0,by omega,by omega,by simp,rfl,rfl⟩ ?_)
 rintro m F H' ⟨i,hi,rfl,hx,rfl,rfl⟩
 simp only [y1a.l0]
 apply jA
 simp [y1a.r8]
 refine AX.seq (AX.pcond rfl (fun hc=>AX.skip ?_) (fun hc=>AX.exit ?_))
 ·simp at hc
  simp
  apply jC
  simp [y1a.r9]
  apply jA
  simp [y1a.r10,hc]
  refine AC.fix (ydg _ _) ?_
  simp [cls0]
  refine AX.pcond rfl (fun hd=>?_) (fun hd=>AX.skip ?_)
  ·simp at hd
   have:=y9y (p:=inB true) hx hi fun x hx=>by
    obtain ⟨h1,h2⟩:=List.getElem?_eq_some_iff.1 hx
    rw [←h2];exact hd
   refine AX.seq (AX.drw ?_)
   simp [y1a.r11,hi]
   apply jD
   simp [y3t,hw',this]
  simp at hd
  simp
  apply jE
  simp [y1a.r12,y2g hc hs]
  refine ⟨s.length-(i+1),by omega,_,_,.refl _ _,i+1,by omega,rfl,?_,rfl,by simp⟩
  rw [kJ,kC hc,List.all_append,hx]
  simp [hd]
 simp at hc
 have:=y9y (p:=inB true) hx hi fun x hx=>by
  obtain ⟨h1,h2⟩:=List.getElem?_eq_some_iff.1 hx
  omega
 rw [kI hc,List.drop_of_length_le hc] at this
 simp
 apply jA
 simp [y1a.r13]
 apply jD
 simp [y3t,hw',this]
theorem ydj (s:Str) (hs:s.length≤9223372036854775807) (H:Hp):AC Tryz.prog y6z [.s s] H (fun v H'=>v=.b (y6k s)∧H'=H):=by
 refine AC.code y2o.at y2o.ok ?_
 simp only [y2o]
 apply jA
 simp [y2o.r0]
 apply jA
 simp [y2o.r1]
 refine AC.fix (yeg s hs _) ?_
 simp
 have h1:(y3t s).2=[]↔s.all (inB (y9t s))=true:=by
  exact y8b
 have h2:(y3t s).2=[]→(y3t s).1=s:=fun h=>by have:=y87 s;rwa [h,List.append_nil] at this
 generalize (y3t s).1=hd at h1 h2 ⊢
 generalize (y3t s).2=rs at h1 h2 ⊢
 refine AX.stp [(2,.b (y6k s))] ?_ ?_
 ·by_cases a2:rs=[]
  ·have a0:=h2 a2
   subst a0
   by_cases a1:hd=[]
   ·subst a1;simp [y2o.r2,y6k,y9t]
   have hp:0<hd.length:=List.length_pos_iff.2 a1
   have e:hd.isEmpty=false:=by simpa using a1
   by_cases a3:hd.length≤16
   ·simp [y2o.r2,a1,a2,a3,e,hp]
    refine AC.fix (ydg _ _) ?_
    have hw:y9t hd=ygc hd[0]:=by simp [y9t,hp]
    simp [cls2,y6k,a3,hw]
    intro hl
    rw [hw,hl] at h1
    simpa using (h1.1 a2)
   ·simp [y2o.r2,a1,a2,a3,e,y6k]
  ·have e:rs.isEmpty=false:=by simpa using a2
   have hn:y6k s=false:=by
    unfold y6k
    cases hw:y9t s with
    | false=>simp
    | true=>
     rw [hw] at h1
     have:s.all (inB true)=false:=by
      cases hh:s.all (inB true) with
      | false=>rfl
      | true=>exact absurd (h1.2 hh) a2
     simp [this]
   by_cases a1:hd=[]
   ·subst a1;simp [y2o.r2,hn]
   ·have e2:hd.isEmpty=false:=by simpa using a1
    simp [y2o.r2,a1,a2,e,e2,hn]
 apply jD
 simp
def yeo (c:Int):Bool:=decide (-1≤c∧c≤268435456)
theorem yah (d:Nd) (H:Hp):AC Tryz.prog y4q [nv d] H (fun v H'=>v=.b (yeo d.cell)∧H'=H):=by
 refine AC.code y2a.at y2a.ok ?_
 simp only [y2a]
 apply jA
 simp [y2a.r0,nv,Nd.cs]
 apply jA
 by_cases h:(-1:Int)≤d.cell <;> simp [y2a.r1,h]
 all_goals
  apply jD
  simp [yeo,h]
def y52 (d:Nd):Bool:=
 if d.kind=5 then decide (d.fn=[])&&decide (d.copy=0)&&y6k d.name&&decide (d.n=0)&&yeo d.cell
 else y6k d.fn&&y64 d.copy &&
  (if d.kind=6 then y6k d.name&&decide (d.n=0)&&yeo d.cell
  else if d.kind=1 then y6k d.name&&decide (d.n=0)&&decide (d.cell=-1)
  else if d.kind=7 then decide (1≤d.n∧d.n≤268435456)&&decide (d.name=[])&&yeo d.cell
  else if d.kind=4 then decide (d.name=[])&&decide (d.n=0)&&decide (d.cell=-1)
  else if d.kind=3 then decide (1≤d.n∧d.n≤268435456)&&decide (d.name=[])&&decide (d.cell=-1)
  else if d.kind=2 then decide (0≤d.n∧d.n≤268435456)&&decide (d.name=[])&&decide (d.cell=-1)
  else false)
theorem ymz (d:Nd):y52 d=y5r d:=by
 rw [Bool.eq_iff_iff,y55]
 obtain ⟨k,fn,cp,nm,n,cl⟩:=d
 by_cases hk:1≤k∧k≤7
 ·have hcl:∀c,yeo c=true↔c=-1∨y64 c=true:=fun c=>by simp [yeo,y64];omega
  rcases (by omega:k=1∨k=2∨k=3∨k=4∨k=5∨k=6∨k=7) with rfl | rfl | rfl | rfl | rfl | rfl | rfl
  all_goals
   constructor
   ·intro h
    simp [y52,yeo,y64] at h
    constructor <;> simp [yay,ylu,y64,yeo,h] <;> omega
   ·intro ⟨a1,a2,a3,a4,a5,a6,a7,a8⟩
    simp [yay,ylu,y64] at a3 a4 a5 a6 a7 a8
    simp [y52,a6,a7,a8,yeo,y64]
    try omega
 ·constructor
  ·intro h
   have h1:k≠1∧k≠2∧k≠3∧k≠4∧k≠5∧k≠6∧k≠7:=by omega
   simp [y52,h1] at h
  ·intro h
   exact absurd ⟨h.k1,h.k7⟩ hk
theorem yjg (d:Nd) (h1:d.fn.length≤9223372036854775807) (h2:d.name.length≤9223372036854775807) (H:Hp):AC Tryz.prog y5u [nv d] H (fun v H'=>v=.b (y5r d)∧H'=H):=by
 rw [←ymz]
 obtain ⟨k,fn,cp,nm,n,cl⟩:=d
 refine AC.codeP yb.at yb.ok (free_b _) fun hlt=>?_
 simp only [yb]
 apply jA
 simp [yb.r0,nv,Nd.cs]
 apply jA
 simp [yb.r1]
 refine AX.cut (fun F X=>H.Ext X∧X.get H.next=some (.cells [.i .i64 0,.s [],.i .i64 0,.s nm,.i .i64 n,.i .i64 cl] 6)∧F=[(1,.fp [.i .i64 k,.s fn,.i .i64 cp,.s nm,.i .i64 n,.i .i64 cl] 0),(3,.p (some (H.next,0,6)))]) ?_ ?_
 ·apply jE
  simp [yb.r2]
  exact ⟨_,_,.refl _ _,(Hp.Ext.add hlt _).upd hlt (kG _) _,by simp,rfl⟩
 rintro F X ⟨hx,hg,rfl⟩
 refine AX.seq (AX.test (decide (k≠5)&&(!y6k fn||!y64 cp)) [(1,.fp [.i .i64 k,.s fn,.i .i64 cp,.s nm,.i .i64 n,.i .i64 cl] 0),(3,.p (some (H.next,0,6))),(27,.b (decide (k≠5)&&(!y6k fn||!y64 cp)))] ?_ rfl (fun hz=>jA ?_) (fun hz=>AX.skip ?_))
 ·by_cases a1:k=5
  ·simp [yb.r3,a1]
  ·simp [yb.r3,a1]
   refine AC.fix (ydj _ h1 _) ?_
   by_cases a2:y6k fn=true
   ·by_cases a3:cp<0
    ·simp [a1,a2,a3,y64,show ¬0≤cp by omega]
    ·simp [a1,a2,a3,y64,show 0≤cp by omega]
     by_cases a4:268435456<cp <;> simp [a4] <;> omega
   ·simp [a1,a2]
 ·simp [yb.r4]
  apply jD
  simp only [kF,decide_eq_true_eq,Bool.or_eq_true,Bool.not_eq_true'] at hz
  have:y52 ⟨k,fn,cp,nm,n,cl⟩=false:=by
   unfold y52;simp only [if_neg hz.1]
   rcases hz.2 with h | h <;> simp [h]
  simp [this]
  exact ⟨hx,.refl _⟩
 simp
 apply jA
 simp [yb.r5]
 apply jB
 simp [yb.r6]
 refine AX.pblock (AX.seq (AX.pblock (AX.seq (AX.pblock (AX.seq (AX.pblock (AX.seq (AX.pblock (AX.seq (AX.pblock (AX.seq (AX.pblock (AX.seq (AX.pblock (AX.seq (AX.seq (jA ?_)))))))))))))))))
 have hz5:k≠5→y6k fn=true∧y64 cp=true:=fun h=>by
  simp [h] at hz;exact hz
 have en:(n == 0)=decide (n=0):=by by_cases h:n=0 <;> simp [h]
 have ec:(cl == -1)=decide (cl=-1):=by by_cases h:cl=-1 <;> simp [h]
 by_cases h5:k=5
 ·subst h5
  simp [yb.r7]
  refine jG rfl (AX.exit ?_)
  simp
  refine AX.test (decide (fn≠[])||decide (cp≠0)) ([(1,.fp [.i .i64 5,.s fn,.i .i64 cp,.s nm,.i .i64 n,.i .i64 cl] 0),(3,.p (some (H.next,0,6))),(51,.b (decide (fn≠[])||decide (cp≠0)))]) ?_ rfl (fun hf=>jA ?_) (fun hf=>AX.skip ?_)
  ·have e:fn.isEmpty=decide (fn=[]):=by cases fn <;> simp
   by_cases c1:fn=[] <;> simp [yb.r14,c1,e]
  ·simp [yb.r15]
   apply jD
   have:y52 ⟨5,fn,cp,nm,n,cl⟩=false:=by
    unfold y52;simp only [if_true]
    simp at hf
    rcases hf with h | h <;> simp [h]
   simp [this]
   exact ⟨hx,.refl _⟩
  have hf':fn=[]∧cp=0:=by simpa using hf
  simp
  apply jB
  simp [yb.r16]
  refine AC.fix (ydj _ h2 _) ?_
  by_cases b1:y6k nm=true
  case neg=>
   simp [b1]
   apply jD
   simp [y52,b1]
   exact ⟨hx,.refl _⟩
  by_cases b2:n=0
  case neg=>
   simp [b1,hg,y51,y8k,en,ec,b2]
   apply jD
   simp [y52,b2]
   exact ⟨hx,.refl _⟩
  subst b2
  simp [b1,hg,y51,y8k,en,ec]
  refine AC.fix (yah ⟨5,fn,cp,nm,0,cl⟩ _) ?_
  simp
  apply jD
  simp [y52,b1,hf']
  exact ⟨hx,.refl _⟩
 by_cases h6:k=6
 ·subst h6
  have hf:=hz5 (by omega)
  simp [yb.r7]
  refine jF rfl (AX.skip ?_)
  simp
  apply jB
  simp [yb.r8]
  refine jG rfl (AX.exit ?_)
  simp
  apply jB
  simp [yb.r16]
  refine AC.fix (ydj _ h2 _) ?_
  by_cases b1:y6k nm=true
  case neg=>
   simp [b1]
   apply jD
   simp [y52,b1]
   exact ⟨hx,.refl _⟩
  by_cases b2:n=0
  case neg=>
   simp [b1,hg,y51,y8k,en,ec,b2]
   apply jD
   simp [y52,b2]
   exact ⟨hx,.refl _⟩
  subst b2
  simp [b1,hg,y51,y8k,en,ec]
  refine AC.fix (yah ⟨6,fn,cp,nm,0,cl⟩ _) ?_
  simp
  apply jD
  simp [y52,b1,hf]
  exact ⟨hx,.refl _⟩
 by_cases h1:k=1
 ·subst h1
  have hf:=hz5 (by omega)
  simp [yb.r7]
  refine jF rfl (AX.skip ?_)
  simp
  apply jB
  simp [yb.r8]
  refine jF rfl (AX.skip ?_)
  simp
  apply jB
  simp [yb.r9]
  refine jG rfl (AX.exit ?_)
  simp
  apply jB
  simp [yb.r17]
  refine AC.fix (ydj _ h2 _) ?_
  by_cases b1:y6k nm=true
  case neg=>
   simp [b1]
   apply jD
   simp [y52,b1]
   exact ⟨hx,.refl _⟩
  by_cases b2:n=0 <;> by_cases b3:cl=-1 <;> simp [b1,hg,y51,y8k,en,ec,b2,b3]
  all_goals
   apply jD
   simp [y52,b1,b2,b3,hf]
   exact ⟨hx,.refl _⟩
 by_cases h7:k=7
 ·subst h7
  have hf:=hz5 (by omega)
  simp [yb.r7]
  refine jF rfl (AX.skip ?_)
  simp
  apply jB
  simp [yb.r8]
  refine jF rfl (AX.skip ?_)
  simp
  apply jB
  simp [yb.r9]
  refine jF rfl (AX.skip ?_)
  simp
  apply jB
  simp [yb.r10]
  refine jG rfl (AX.exit ?_)
  simp
  apply jB
  by_cases b1:1≤n
  case neg=>
   simp [yb.r18,b1]
   apply jD
   simp [y52,b1]
   exact ⟨hx,.refl _⟩
  by_cases b2:n≤268435456
  case neg=>
   simp [yb.r18,b1,b2]
   apply jD
   simp [y52,b1,b2]
   exact ⟨hx,.refl _⟩
  by_cases b3:nm=[]
  case neg=>
   simp [yb.r18,b1,b2,hg,y51,y8k,en,ec,b3,show nm.isEmpty=false by simpa using b3]
   apply jD
   simp [y52,b1,b2,b3]
   exact ⟨hx,.refl _⟩
  subst b3
  simp [yb.r18,b1,b2,hg,y51,y8k,en,ec]
  refine AC.fix (yah ⟨7,fn,cp,[],n,cl⟩ _) ?_
  simp
  apply jD
  simp [y52,b1,b2,hf]
  exact ⟨hx,.refl _⟩
 by_cases h4:k=4
 ·subst h4
  have hf:=hz5 (by omega)
  simp [yb.r7]
  refine jF rfl (AX.skip ?_)
  simp
  apply jB
  simp [yb.r8]
  refine jF rfl (AX.skip ?_)
  simp
  apply jB
  simp [yb.r9]
  refine jF rfl (AX.skip ?_)
  simp
  apply jB
  simp [yb.r10]
  refine jF rfl (AX.skip ?_)
  simp
  apply jB
  simp [yb.r11]
  refine jG rfl (AX.exit ?_)
  simp
  apply jB
  have e:nm.isEmpty=decide (nm=[]):=by cases nm <;> simp
  by_cases b1:nm=[] <;> by_cases b2:n=0 <;> by_cases b3:cl=-1 <;> simp [yb.r19,hg,y51,y8k,en,ec,b1,b2,b3,e]
  all_goals
   apply jD
   simp [y52,b1,b2,b3,hf]
   exact ⟨hx,.refl _⟩
 by_cases h3:k=3
 ·subst h3
  have hf:=hz5 (by omega)
  simp [yb.r7]
  refine jF rfl (AX.skip ?_)
  simp
  apply jB
  simp [yb.r8]
  refine jF rfl (AX.skip ?_)
  simp
  apply jB
  simp [yb.r9]
  refine jF rfl (AX.skip ?_)
  simp
  apply jB
  simp [yb.r10]
  refine jF rfl (AX.skip ?_)
  simp
  apply jB
  simp [yb.r11]
  refine jF rfl (AX.skip ?_)
  simp
  apply jB
  simp [yb.r12]
  refine jG rfl (AX.exit ?_)
  simp
  apply jE
  simp [yb.r20]
  apply jB
  have e:nm.isEmpty=decide (nm=[]):=by cases nm <;> simp
  by_cases b1:1≤n
  case neg=>
   simp [yb.r21,b1]
   apply jD
   simp [y52,b1]
   exact ⟨hx,.refl _⟩
  by_cases b2:n≤268435456
  case neg=>
   simp [yb.r21,b1,b2]
   apply jD
   simp [y52,b1,b2]
   exact ⟨hx,.refl _⟩
  by_cases b3:nm=[] <;> by_cases b4:cl=-1 <;> simp [yb.r21,b1,b2,hg,y51,y8k,en,ec,b3,b4,e]
  all_goals
   apply jD
   simp [y52,b1,b2,b3,b4,hf]
   exact ⟨hx,.refl _⟩
 by_cases h2:k=2
 ·subst h2
  have hf:=hz5 (by omega)
  simp [yb.r7]
  refine jF rfl (AX.skip ?_)
  simp
  apply jB
  simp [yb.r8]
  refine jF rfl (AX.skip ?_)
  simp
  apply jB
  simp [yb.r9]
  refine jF rfl (AX.skip ?_)
  simp
  apply jB
  simp [yb.r10]
  refine jF rfl (AX.skip ?_)
  simp
  apply jB
  simp [yb.r11]
  refine jF rfl (AX.skip ?_)
  simp
  apply jB
  simp [yb.r12]
  refine jF rfl (AX.skip ?_)
  simp
  apply jA
  simp [yb.r13]
  refine jG rfl (AX.exit ?_)
  simp
  apply jB
  have e:nm.isEmpty=decide (nm=[]):=by cases nm <;> simp
  by_cases b1:0≤n
  case neg=>
   simp [yb.r21,b1]
   apply jD
   simp [y52,b1]
   exact ⟨hx,.refl _⟩
  by_cases b2:n≤268435456
  case neg=>
   simp [yb.r21,b1,b2]
   apply jD
   simp [y52,b1,b2]
   exact ⟨hx,.refl _⟩
  by_cases b3:nm=[] <;> by_cases b4:cl=-1 <;> simp [yb.r21,b1,b2,hg,y51,y8k,en,ec,b3,b4,e]
  all_goals
   apply jD
   simp [y52,b1,b2,b3,b4,hf]
   exact ⟨hx,.refl _⟩
 simp [yb.r7,h5]
 refine jF rfl (AX.skip ?_)
 simp
 apply jB
 simp [yb.r8,h6]
 refine jF rfl (AX.skip ?_)
 simp
 apply jB
 simp [yb.r9,h1]
 refine jF rfl (AX.skip ?_)
 simp
 apply jB
 simp [yb.r10,h7]
 refine jF rfl (AX.skip ?_)
 simp
 apply jB
 simp [yb.r11,h4]
 refine jF rfl (AX.skip ?_)
 simp
 apply jB
 simp [yb.r12,h3]
 refine jF rfl (AX.skip ?_)
 simp
 apply jA
 simp [yb.r13,h2]
 refine jF rfl (AX.skip ?_)
 simp
 refine AX.exit ?_
 simp
 apply jA
 simp [yb.r22]
 apply jD
 simp [y52,h5,h6,h1,h7,h4,h3,h2]
 exact ⟨hx,.refl _⟩
end Go.Proofs.YtikpijbeobeckaaGreatDoor
