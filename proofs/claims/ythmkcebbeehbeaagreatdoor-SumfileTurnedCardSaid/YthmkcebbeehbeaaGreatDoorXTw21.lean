/- Part 21 of the proof of the laws of the queries: QDig, QDig2, QNam. -/
import Derived.Test.YthmkcebbeehbeaaGreatDoorXTw20
set_option linter.unusedSimpArgs false
set_option linter.unusedVariables false
namespace Go.Proofs.YthmkcebbeehbeaaGreatDoor
open Am C
def clsN (c:UInt8):Int:=if yhd c then 1 else if yka c then 2 else 0
theorem yf6 (c:UInt8) (H:Hp):AC Tryz.prog y75 [.i .u8 c.toNat] H (fun v H'=>v=.i .i64 (clsN c)∧H'=H):=by
  refine AC.code y1w.at y1w.ok ?_
  simp only [y1w]
  apply jA
  simp [y1w.r0]
  apply jA
  simp [y1w.r1]
  refine AX.seq (AX.pblock (AX.seq (AX.pblock (AX.seq (AX.pblock (AX.seq (AX.seq (AX.test (yhd c) [(0,.i .u8 c.toNat),(3,.i .i64 2),(4,.b (yhd c))] ?_ rfl (fun hd=>AX.exit ?_) (fun hd=>AX.skip ?_)))))))))
  · by_cases h:(48:Int)≤c.toNat <;> simp [y1w.r2,h,yhd]
    all_goals omega
  · simp
    apply jE
    simp [y1w.r6]
    apply jB
    simp [y1w.r7]
    apply jD
    simp [clsN,hd]
  simp
  refine AX.seq (AX.join (F1:=[(3,.i .i64 2),(11,.b (yka c))]) (H1:=H) ?_ ?_)
  · refine AX.test (decide (65≤c.toNat∧c.toNat≤90)) [(0,.i .u8 c.toNat),(3,.i .i64 2),(11,.b (decide (65≤c.toNat∧c.toNat≤90)))] ?_ rfl (fun h1=>AX.skip ?_) (fun h1=>?_)
    · by_cases h:(65:Int)≤c.toNat <;> simp [y1w.r3,h]
      all_goals omega
    · simp at h1 ⊢;simp [yka,h1]
    refine AX.test (decide (97≤c.toNat∧c.toNat≤122)) [(0,.i .u8 c.toNat),(3,.i .i64 2),(11,.b (decide (97≤c.toNat∧c.toNat≤122)))] ?_ rfl (fun h2=>AX.skip ?_) (fun h2=>AX.reg ?_)
    · by_cases h:(97:Int)≤c.toNat <;> simp [y1w.r4,h]
      all_goals omega
    · simp at h2 ⊢;simp [yka,h2]
    · simp only [decide_eq_false_iff_not] at h1 h2
      simp [y1w.r5,yka,h1,h2]
  refine AX.pcond rfl (fun hb=>AX.exit ?_) (fun hb=>AX.skip ?_)
  · simp
    apply jB
    simp [y1w.r7]
    apply jD
    simp [clsN,hd,hb]
  · simp
    refine AX.exit ?_
    simp
    apply jA
    simp [y1w.r8]
    apply jD
    simp [clsN,hd,hb]
theorem cls1 (c:UInt8):(clsN c=1)=(yhd c=true):=by
  unfold clsN;by_cases h:yhd c=true
  · simp [h]
  · by_cases h2:yka c=true <;> simp [h,h2]
theorem dig_let (c:UInt8) (h:yka c=true):yhd c=false:=by
  simp [yka,yhd] at *;omega
theorem cls2 (c:UInt8):(clsN c=2)=(yka c=true):=by
  unfold clsN;by_cases h:yhd c=true
  · have:¬yka c=true:=fun h2=>by rw [dig_let c h2] at h;cases h
    simp [h,this]
  · by_cases h2:yka c=true <;> simp [h,h2]
theorem cls0 (c:UInt8):(clsN c<1)=(inB true c=false):=by
  unfold clsN inB;by_cases h:yhd c=true
  · simp [h]
  · by_cases h2:yka c=true <;> simp [h,h2]
theorem yjo (s:Str) (h:s.all yhd=true) (acc:Nat):Go.Lib.decFrom acc s=some (s.foldl (fun n c=>10*n+(c.toNat-48)) acc):=by
  induction s generalizing acc with
  | nil=>rfl
  | cons c s ih=>
    simp only [List.all_cons,Bool.and_eq_true] at h
    have hd:=of_decide_eq_true h.1
    simp only [Go.Lib.decFrom,Go.Lib.digitVal,if_pos hd,List.foldl_cons]
    rw [ih h.2,Nat.mul_comm]
theorem yrc (s:Str) (h:s.all yhd=true) (hne:s≠[]):Go.Lib.atoi s=some (valD s:Int):=by
  cases s with
  | nil=>exact absurd rfl hne
  | cons c s=>
    have hd:=h
    simp only [List.all_cons,Bool.and_eq_true] at hd
    have hd:=of_decide_eq_true hd.1
    have e1:(c == 45)=false:=by
      cases hh:c == 45 with
      | false=>rfl
      | true=>have:=eq_of_beq hh;subst this;simp at hd
    have e2:(c == 43)=false:=by
      cases hh:c == 43 with
      | false=>rfl
      | true=>have:=eq_of_beq hh;subst this;simp at hd
    simp only [Go.Lib.atoi,e1,e2,Go.Lib.decNat]
    rw [show (c::s).isEmpty=false from rfl,yjo _ h]
    rfl
theorem valD_big (s:Str) (h:s.all yhd=true):∀n k,10 ^ k≤n→10 ^ (k+s.length)≤s.foldl (fun n c=>10*n+(c.toNat-48)) n:=by
  induction s with
  | nil=>intro n k h;simpa using h
  | cons c s ih=>
    intro n k hk
    simp only [List.all_cons,Bool.and_eq_true] at h
    simp only [List.foldl_cons,List.length_cons]
    have:=ih h.2 (10*n+(c.toNat-48)) (k+1) (by rw [Nat.pow_succ];omega)
    rwa [show k+(s.length+1)=k+1+s.length by omega]
theorem yos (s:Str) (h:s.all yhd=true) (h0:s[0]?≠some 48) (hl:9<s.length):268435456<valD s:=by
  cases s with
  | nil=>simp at hl
  | cons c s=>
    simp at h0 hl
    have hc:=h
    simp only [List.all_cons,Bool.and_eq_true] at hc
    have hd:=of_decide_eq_true hc.1
    have hne:c.toNat≠48:=fun hh=>h0 (UInt8.toNat_inj.1 (by rw [hh];rfl))
    have h1:=valD_big s hc.2 (10*0+(c.toNat-48)) 0 (by simp;omega)
    have h2:10 ^ 9≤10 ^ (0+s.length):=Nat.pow_le_pow_right (by omega) (by omega)
    unfold valD;simp only [List.foldl_cons];omega
def DReadInv (s:Str) (H:Hp) (m:Nat) (F:Fr) (H':Hp):Prop:=
  ∃i,i≤s.length∧m=s.length-i∧(s.take i).all yhd=true∧H'=H∧F=[(0,.s s),(10,.i .i64 s.length),(11,.i .i64 i)]
theorem DRead_ok (s:Str) (hs:s.length≤9223372036854775807) (H:Hp):AC Tryz.prog ybk [.s s] H (fun v H'=>v=.tup [.i .i64 (y8v s).1,.i .i64 (y8v s).2]∧H'=H):=by
  refine AC.code y11.at y11.ok ?_
  simp only [y11]
  apply jA
  simp [y11.r0]
  apply jB
  simp [y11.r1]
  refine AX.pcond rfl (fun hb=>?_) (fun hb=>AX.skip ?_)
  · simp at hb
    apply jA
    simp [y11.r2]
    apply jD
    simp [y8v,hb]
  simp at hb
  simp
  apply jB
  simp [y11.r3]
  refine AX.pblock (AX.loop (DReadInv s H) s.length ⟨_,_,.refl _ _,0,by omega,by omega,by simp,rfl,rfl⟩ ?_)
  rintro m F H' ⟨i,hi,rfl,hx,rfl,rfl⟩
  simp only [y11.l0]
  apply jA
  simp [y11.r4]
  refine AX.seq (AX.pcond rfl (fun hc=>AX.skip ?_) (fun hc=>AX.exit ?_))
  · simp at hc
    simp
    apply jC
    simp [y11.r5]
    apply jA
    simp [y11.r6,hc]
    refine AC.fix (yf6 _ _) ?_
    simp [cls1]
    refine AX.pcond rfl (fun hd=>?_) (fun hd=>AX.skip ?_)
    · simp at hd
      apply jA
      simp [y11.r7]
      apply jD
      have:s.all yhd=false:=by
        rw [List.all_eq_false];exact ⟨_,List.getElem_mem hc,by simp [hd]⟩
      simp [y8v,hb,this]
    simp at hd
    simp
    apply jE
    simp [y11.r8,y4v hc hs]
    refine ⟨s.length-(i+1),by omega,_,_,.refl _ _,i+1,by omega,rfl,?_,rfl,by simp⟩
    rw [List.take_add_one,List.getElem?_eq_getElem hc,List.all_append,hx]
    simp [hd]
  simp at hc
  have hall:s.all yhd=true:=by rwa [List.take_of_length_le (by omega)] at hx
  have hp:0<s.length:=List.length_pos_iff.2 hb
  simp
  refine AX.seq (AX.pblock (AX.test (decide (s[0]?=some 48∧1<s.length)) [(0,.s s),(20,.b (decide (s[0]?=some 48∧1<s.length)))] ?_ rfl (fun hz=>jA ?_) (fun hz=>?_)))
  · have e:((s[0].toNat:Int)=48)=(s[0]=48):=by
      refine propext ⟨fun h=>UInt8.toNat_inj.1 (by
                                                     have:s[0].toNat=48:=by omega
                                                     rw [this];rfl),fun h=>by rw [h];rfl⟩
    by_cases h:s[0]=48 <;> simp [y11.r9,hp,e,h]
  · simp [y11.r10]
    apply jD
    simp only [decide_eq_true_eq] at hz
    have:y8v s=(0,3):=by unfold y8v;rw [if_neg hb,if_neg (by simp [hall]),if_pos hz]
    simp [this]
  simp only [decide_eq_false_iff_not] at hz
  have hr:y8v s=if 268435456<valD s then (0,2) else (valD s,0):=by unfold y8v;rw [if_neg hb,if_neg (by simp [hall]),if_neg hz]
  simp
  apply jA
  simp [y11.r11]
  refine AX.pcond rfl (fun hl=>?_) (fun hl=>AX.skip ?_)
  · simp at hl
    apply jA
    simp [y11.r12]
    apply jD
    rw [hr,if_pos (yos s hall (fun h=>hz ⟨h,by omega⟩) (by omega))];simp
  simp at hl
  simp
  apply jA
  simp [y11.r13]
  refine AC.fix (Atoi_ok s _ (by omega) (yrc s hall hb) _) ?_
  simp
  apply jB
  simp [y11.r14]
  refine AX.pcond rfl (fun hv=>?_) (fun hv=>AX.skip ?_)
  · simp at hv
    apply jA
    simp [y11.r15]
    apply jD
    rw [hr,if_pos (by omega)];simp
  simp at hv
  simp
  apply jA
  simp [y11.r16]
  apply jD
  rw [hr,if_neg (by omega)];simp
theorem yfu (s:Str) (hs:s.length≤9223372036854775807) (H:Hp):AC Tryz.prog y80 [.s s] H (fun v H'=>v=.tup [.i .i64 (y8v s).1,.b (decide ((y8v s).2=0))]∧H'=H):=by
  refine AC.code y3w.at y3w.ok ?_
  simp only [y3w]
  apply jA
  simp [y3w.r0]
  apply jA
  simp [y3w.r1]
  refine AC.fix (DRead_ok s hs _) ?_
  simp
  apply jA
  simp [y3w.r2]
  apply jD
  simp
def yry (s:Str) (H:Hp) (m:Nat) (F:Fr) (H':Hp):Prop:=
  ∃i,i≤s.length∧m=s.length-i∧(s.take i).all (inB true)=true∧H'=H∧F=[(0,.s s),(4,.i .i64 1),(24,.i .i64 s.length),(25,.i .i64 i)]
theorem dig10 (c:UInt8):List.contains [48,49,50,51,52,53,54,55,56,57] c=yhd c:=by
  rw [Bool.eq_iff_iff]
  constructor
  · intro h
    have:=List.mem_of_elem_eq_true h
    simp at this
    rcases this with h | h | h | h | h | h | h | h | h | h <;> (subst h;rfl)
  · intro h
    have:=of_decide_eq_true h
    obtain ⟨k,hk,rfl⟩:∃k:Nat,k<10∧c=UInt8.ofNat (48+k):=⟨c.toNat-48,by omega,UInt8.toNat_inj.1 (by rw [UInt8.toNat_ofNat'];omega)⟩
    rcases (by omega:k=0∨k=1∨k=2∨k=3∨k=4∨k=5∨k=6∨k=7∨k=8∨k=9) with h | h | h | h | h | h | h | h | h | h <;> (subst h;rfl)
theorem y9r {α:Type} {p:α→Bool} {l:List α}:l.dropWhile p=[]↔l.all p=true:=by
  induction l with
  | nil=>simp
  | cons a l ih=>
    by_cases h:p a=true
    · simp only [List.dropWhile_cons,h,if_true,List.all_cons,Bool.true_and];exact ih
    · simp [h]
theorem ygi (s:Str) (hs:s.length≤9223372036854775807) (H:Hp):AC Tryz.prog y81 [.s s] H (fun v H'=>v=.tup [.s (y58 s).1,.s (y58 s).2]∧H'=H):=by
  refine AC.code y18.at y18.ok ?_
  simp only [y18]
  apply jA
  simp [y18.r0]
  apply jB
  simp [y18.r1]
  refine AX.pcond rfl (fun hb=>?_) (fun hb=>AX.skip ?_)
  · simp at hb;subst hb
    apply jA
    simp [y18.r2]
    apply jD
    simp [y58]
  simp at hb
  have hp:0<s.length:=List.length_pos_iff.2 hb
  have hw:ye2 s=yka s[0]:=by simp [ye2,hp]
  simp
  apply jA
  simp [y18.r3]
  apply jB
  simp [y18.r4,hp]
  refine AC.fix (yf6 _ _) ?_
  simp [cls2]
  refine AX.pcond rfl (fun hd=>?_) (fun hd=>AX.skip ?_)
  · simp at hd
    have e:inB (ye2 s)=fun c=>List.contains [48,49,50,51,52,53,54,55,56,57] c:=by
      funext c;rw [dig10,hw,hd];simp [inB]
    apply jA
    simp [y18.r5]
    refine AC.fix (ylj s [48,49,50,51,52,53,54,55,56,57] (by decide) (by decide) _) ?_
    rw [←e]
    have hl:=congrArg List.length (y9n s)
    rw [List.length_append] at hl
    have hr:s.dropWhile (inB (ye2 s))=(y58 s).2:=rfl
    rw [hr]
    have e1:Go.IntKind.i64.wrap ((s.length:Int)-((y58 s).2.length:Int))=((y58 s).1.length:Nat):=by rw [y2w (by omega) (by omega)];omega
    have e2:s.take (y58 s).1.length=(y58 s).1:=by
      conv=>lhs;arg 2;rw [←y9n s]
      simp
    simp
    apply jA
    simp [y18.r6,e1,e2,show (y58 s).1.length≤s.length by omega]
    apply jD
    simp
  simp at hd
  have hw':ye2 s=true:=by rw [hw,hd]
  simp
  apply jB
  simp [y18.r7]
  refine AX.pblock (AX.loop (yry s H) s.length ⟨_,_,.refl _ _,0,by omega,by omega,by simp,rfl,rfl⟩ ?_)
  rintro m F H' ⟨i,hi,rfl,hx,rfl,rfl⟩
  simp only [y18.l0]
  apply jA
  simp [y18.r8]
  refine AX.seq (AX.pcond rfl (fun hc=>AX.skip ?_) (fun hc=>AX.exit ?_))
  · simp at hc
    simp
    apply jC
    simp [y18.r9]
    apply jA
    simp [y18.r10,hc]
    refine AC.fix (yf6 _ _) ?_
    simp [cls0]
    refine AX.pcond rfl (fun hd=>?_) (fun hd=>AX.skip ?_)
    · simp at hd
      have:=yek (p:=inB true) hx hi fun x hx=>by
        obtain ⟨h1,h2⟩:=List.getElem?_eq_some_iff.1 hx
        rw [←h2];exact hd
      refine AX.seq (AX.drw ?_)
      simp [y18.r11,hi]
      apply jD
      simp [y58,hw',this]
    simp at hd
    simp
    apply jE
    simp [y18.r12,y4v hc hs]
    refine ⟨s.length-(i+1),by omega,_,_,.refl _ _,i+1,by omega,rfl,?_,rfl,by simp⟩
    rw [List.take_add_one,List.getElem?_eq_getElem hc,List.all_append,hx]
    simp [hd]
  simp at hc
  have:=yek (p:=inB true) hx hi fun x hx=>by
    obtain ⟨h1,h2⟩:=List.getElem?_eq_some_iff.1 hx
    omega
  rw [List.take_of_length_le hc,List.drop_of_length_le hc] at this
  simp
  apply jA
  simp [y18.r13]
  apply jD
  simp [y58,hw',this]
theorem ydz (s:Str) (hs:s.length≤9223372036854775807) (H:Hp):AC Tryz.prog y7o [.s s] H (fun v H'=>v=.b (y9j s)∧H'=H):=by
  refine AC.code y3e.at y3e.ok ?_
  simp only [y3e]
  apply jA
  simp [y3e.r0]
  apply jA
  simp [y3e.r1]
  refine AC.fix (ygi s hs _) ?_
  simp
  have h1:(y58 s).2=[]↔s.all (inB (ye2 s))=true:=by
    exact y9r
  have h2:(y58 s).2=[]→(y58 s).1=s:=fun h=>by have:=y9n s;rwa [h,List.append_nil] at this
  generalize (y58 s).1=hd at h1 h2 ⊢
  generalize (y58 s).2=rs at h1 h2 ⊢
  refine AX.stp [(2,.b (y9j s))] ?_ ?_
  · by_cases a2:rs=[]
    · have a0:=h2 a2
      subst a0
      by_cases a1:hd=[]
      · subst a1;simp [y3e.r2,y9j,ye2]
      have hp:0<hd.length:=List.length_pos_iff.2 a1
      have e:hd.isEmpty=false:=by simpa using a1
      by_cases a3:hd.length≤16
      · simp [y3e.r2,a1,a2,a3,e,hp]
        refine AC.fix (yf6 _ _) ?_
        have hw:ye2 hd=yka hd[0]:=by simp [ye2,hp]
        simp [cls2,y9j,a3,hw]
        intro hl
        rw [hw,hl] at h1
        simpa using (h1.1 a2)
      · simp [y3e.r2,a1,a2,a3,e,y9j]
    · have e:rs.isEmpty=false:=by simpa using a2
      have hn:y9j s=false:=by
        unfold y9j
        cases hw:ye2 s with
        | false=>simp
        | true=>
          rw [hw] at h1
          have:s.all (inB true)=false:=by
            cases hh:s.all (inB true) with
            | false=>rfl
            | true=>exact absurd (h1.2 hh) a2
          simp [this]
      by_cases a1:hd=[]
      · subst a1;simp [y3e.r2,hn]
      · have e2:hd.isEmpty=false:=by simpa using a1
        simp [y3e.r2,a1,a2,e,e2,hn]
  apply jD
  simp
def ygs (c:Int):Bool:=decide (-1≤c∧c≤268435456)
theorem ych (d:Nd) (H:Hp):AC Tryz.prog y62 [nv d] H (fun v H'=>v=.b (ygs d.cell)∧H'=H):=by
  refine AC.code y2v.at y2v.ok ?_
  simp only [y2v]
  apply jA
  simp [y2v.r0,nv,Nd.cs]
  apply jA
  by_cases h:(-1:Int)≤d.cell <;> simp [y2v.r1,h]
  all_goals
    apply jD
    simp [ygs,h]
def y6j (d:Nd):Bool:=
  if d.kind=5 then decide (d.fn=[])&&decide (d.copy=0)&&y9j d.name&&decide (d.n=0)&&ygs d.cell
  else y9j d.fn&&y8t d.copy &&
    (if d.kind=6 then y9j d.name&&decide (d.n=0)&&ygs d.cell
    else if d.kind=1 then y9j d.name&&decide (d.n=0)&&decide (d.cell=-1)
    else if d.kind=7 then decide (1≤d.n∧d.n≤268435456)&&decide (d.name=[])&&ygs d.cell
    else if d.kind=4 then decide (d.name=[])&&decide (d.n=0)&&decide (d.cell=-1)
    else if d.kind=3 then decide (1≤d.n∧d.n≤268435456)&&decide (d.name=[])&&decide (d.cell=-1)
    else if d.kind=2 then decide (0≤d.n∧d.n≤268435456)&&decide (d.name=[])&&decide (d.cell=-1)
    else false)
theorem yp9 (d:Nd):y6j d=yaz d:=by
  rw [Bool.eq_iff_iff,yh0]
  obtain ⟨k,fn,cp,nm,n,cl⟩:=d
  by_cases hk:1≤k∧k≤7
  · have hcl:∀c,ygs c=true↔c=-1∨y8t c=true:=fun c=>by simp [ygs,y8t];omega
    rcases (by omega:k=1∨k=2∨k=3∨k=4∨k=5∨k=6∨k=7) with rfl | rfl | rfl | rfl | rfl | rfl | rfl
    all_goals
      constructor
      · intro h
        simp [y6j,ygs,y8t] at h
        constructor <;> simp [yfv,numB,y8t,ygs,h] <;> omega
      · intro ⟨a1,a2,a3,a4,a5,a6,a7,a8⟩
        simp [yfv,numB,y8t] at a3 a4 a5 a6 a7 a8
        simp [y6j,a6,a7,a8,ygs,y8t]
        try omega
  · constructor
    · intro h
      have h1:k≠1∧k≠2∧k≠3∧k≠4∧k≠5∧k≠6∧k≠7:=by omega
      simp [y6j,h1] at h
    · intro h
      exact absurd ⟨h.k1,h.k7⟩ hk
theorem right_ok (d:Nd) (h1:d.fn.length≤9223372036854775807) (h2:d.name.length≤9223372036854775807) (H:Hp):AC Tryz.prog y8n [nv d] H (fun v H'=>v=.b (yaz d)∧H'=H):=by
  rw [←yp9]
  obtain ⟨k,fn,cp,nm,n,cl⟩:=d
  refine AC.codeP y4.at y4.ok (yqa _) fun hlt=>?_
  simp only [y4]
  apply jA
  simp [y4.r0,nv,Nd.cs]
  apply jA
  simp [y4.r1]
  refine AX.cut (fun F X=>H.Ext X∧X.get H.next=some (.cells [.i .i64 0,.s [],.i .i64 0,.s nm,.i .i64 n,.i .i64 cl] 6)∧F=[(1,.fp [.i .i64 k,.s fn,.i .i64 cp,.s nm,.i .i64 n,.i .i64 cl] 0),(3,.p (some (H.next,0,6)))]) ?_ ?_
  · apply jE
    simp [y4.r2]
    exact ⟨_,_,.refl _ _,(Hp.Ext.add hlt _).upd hlt (Nat.le_refl _) _,by simp,rfl⟩
  rintro F X ⟨hx,hg,rfl⟩
  refine AX.seq (AX.test (decide (k≠5)&&(!y9j fn||!y8t cp)) [(1,.fp [.i .i64 k,.s fn,.i .i64 cp,.s nm,.i .i64 n,.i .i64 cl] 0),(3,.p (some (H.next,0,6))),(27,.b (decide (k≠5)&&(!y9j fn||!y8t cp)))] ?_ rfl (fun hz=>jA ?_) (fun hz=>AX.skip ?_))
  · by_cases a1:k=5
    · simp [y4.r3,a1]
    · simp [y4.r3,a1]
      refine AC.fix (ydz _ h1 _) ?_
      by_cases a2:y9j fn=true
      · by_cases a3:cp<0
        · simp [a1,a2,a3,y8t,show ¬0≤cp by omega]
        · simp [a1,a2,a3,y8t,show 0≤cp by omega]
          by_cases a4:268435456<cp <;> simp [a4] <;> omega
      · simp [a1,a2]
  · simp [y4.r4]
    apply jD
    simp only [Bool.and_eq_true,decide_eq_true_eq,Bool.or_eq_true,Bool.not_eq_true'] at hz
    have:y6j ⟨k,fn,cp,nm,n,cl⟩=false:=by
      unfold y6j;simp only [if_neg hz.1]
      rcases hz.2 with h | h <;> simp [h]
    simp [this]
    exact ⟨hx,.refl _⟩
  simp
  apply jA
  simp [y4.r5]
  apply jB
  simp [y4.r6]
  refine AX.pblock (AX.seq (AX.pblock (AX.seq (AX.pblock (AX.seq (AX.pblock (AX.seq (AX.pblock (AX.seq (AX.pblock (AX.seq (AX.pblock (AX.seq (AX.pblock (AX.seq (AX.seq (jA ?_)))))))))))))))))
  have hz5:k≠5→y9j fn=true∧y8t cp=true:=fun h=>by
    simp [h] at hz;exact hz
  have en:(n == 0)=decide (n=0):=by by_cases h:n=0 <;> simp [h]
  have ec:(cl == -1)=decide (cl=-1):=by by_cases h:cl=-1 <;> simp [h]
  by_cases h5:k=5
  · subst h5
    simp [y4.r7]
    refine jG rfl (AX.exit ?_)
    simp
    refine AX.test (decide (fn≠[])||decide (cp≠0)) ([(1,.fp [.i .i64 5,.s fn,.i .i64 cp,.s nm,.i .i64 n,.i .i64 cl] 0),(3,.p (some (H.next,0,6))),(51,.b (decide (fn≠[])||decide (cp≠0)))]) ?_ rfl (fun hf=>jA ?_) (fun hf=>AX.skip ?_)
    · have e:fn.isEmpty=decide (fn=[]):=by cases fn <;> simp
      by_cases c1:fn=[] <;> simp [y4.r14,c1,e]
    · simp [y4.r15]
      apply jD
      have:y6j ⟨5,fn,cp,nm,n,cl⟩=false:=by
        unfold y6j;simp only [if_true]
        simp at hf
        rcases hf with h | h <;> simp [h]
      simp [this]
      exact ⟨hx,.refl _⟩
    have hf':fn=[]∧cp=0:=by simpa using hf
    simp
    apply jB
    simp [y4.r16]
    refine AC.fix (ydz _ h2 _) ?_
    by_cases b1:y9j nm=true
    case neg=>
      simp [b1]
      apply jD
      simp [y6j,b1]
      exact ⟨hx,.refl _⟩
    by_cases b2:n=0
    case neg=>
      simp [b1,hg,y72,yaj,en,ec,b2]
      apply jD
      simp [y6j,b2]
      exact ⟨hx,.refl _⟩
    subst b2
    simp [b1,hg,y72,yaj,en,ec]
    refine AC.fix (ych ⟨5,fn,cp,nm,0,cl⟩ _) ?_
    simp
    apply jD
    simp [y6j,b1,hf']
    exact ⟨hx,.refl _⟩
  by_cases h6:k=6
  · subst h6
    have hf:=hz5 (by omega)
    simp [y4.r7]
    refine jF rfl (AX.skip ?_)
    simp
    apply jB
    simp [y4.r8]
    refine jG rfl (AX.exit ?_)
    simp
    apply jB
    simp [y4.r16]
    refine AC.fix (ydz _ h2 _) ?_
    by_cases b1:y9j nm=true
    case neg=>
      simp [b1]
      apply jD
      simp [y6j,b1]
      exact ⟨hx,.refl _⟩
    by_cases b2:n=0
    case neg=>
      simp [b1,hg,y72,yaj,en,ec,b2]
      apply jD
      simp [y6j,b2]
      exact ⟨hx,.refl _⟩
    subst b2
    simp [b1,hg,y72,yaj,en,ec]
    refine AC.fix (ych ⟨6,fn,cp,nm,0,cl⟩ _) ?_
    simp
    apply jD
    simp [y6j,b1,hf]
    exact ⟨hx,.refl _⟩
  by_cases h1:k=1
  · subst h1
    have hf:=hz5 (by omega)
    simp [y4.r7]
    refine jF rfl (AX.skip ?_)
    simp
    apply jB
    simp [y4.r8]
    refine jF rfl (AX.skip ?_)
    simp
    apply jB
    simp [y4.r9]
    refine jG rfl (AX.exit ?_)
    simp
    apply jB
    simp [y4.r17]
    refine AC.fix (ydz _ h2 _) ?_
    by_cases b1:y9j nm=true
    case neg=>
      simp [b1]
      apply jD
      simp [y6j,b1]
      exact ⟨hx,.refl _⟩
    by_cases b2:n=0 <;> by_cases b3:cl=-1 <;> simp [b1,hg,y72,yaj,en,ec,b2,b3]
    all_goals
      apply jD
      simp [y6j,b1,b2,b3,hf]
      exact ⟨hx,.refl _⟩
  by_cases h7:k=7
  · subst h7
    have hf:=hz5 (by omega)
    simp [y4.r7]
    refine jF rfl (AX.skip ?_)
    simp
    apply jB
    simp [y4.r8]
    refine jF rfl (AX.skip ?_)
    simp
    apply jB
    simp [y4.r9]
    refine jF rfl (AX.skip ?_)
    simp
    apply jB
    simp [y4.r10]
    refine jG rfl (AX.exit ?_)
    simp
    apply jB
    by_cases b1:1≤n
    case neg=>
      simp [y4.r18,b1]
      apply jD
      simp [y6j,b1]
      exact ⟨hx,.refl _⟩
    by_cases b2:n≤268435456
    case neg=>
      simp [y4.r18,b1,b2]
      apply jD
      simp [y6j,b1,b2]
      exact ⟨hx,.refl _⟩
    by_cases b3:nm=[]
    case neg=>
      simp [y4.r18,b1,b2,hg,y72,yaj,en,ec,b3,show nm.isEmpty=false by simpa using b3]
      apply jD
      simp [y6j,b1,b2,b3]
      exact ⟨hx,.refl _⟩
    subst b3
    simp [y4.r18,b1,b2,hg,y72,yaj,en,ec]
    refine AC.fix (ych ⟨7,fn,cp,[],n,cl⟩ _) ?_
    simp
    apply jD
    simp [y6j,b1,b2,hf]
    exact ⟨hx,.refl _⟩
  by_cases h4:k=4
  · subst h4
    have hf:=hz5 (by omega)
    simp [y4.r7]
    refine jF rfl (AX.skip ?_)
    simp
    apply jB
    simp [y4.r8]
    refine jF rfl (AX.skip ?_)
    simp
    apply jB
    simp [y4.r9]
    refine jF rfl (AX.skip ?_)
    simp
    apply jB
    simp [y4.r10]
    refine jF rfl (AX.skip ?_)
    simp
    apply jB
    simp [y4.r11]
    refine jG rfl (AX.exit ?_)
    simp
    apply jB
    have e:nm.isEmpty=decide (nm=[]):=by cases nm <;> simp
    by_cases b1:nm=[] <;> by_cases b2:n=0 <;> by_cases b3:cl=-1 <;> simp [y4.r19,hg,y72,yaj,en,ec,b1,b2,b3,e]
    all_goals
      apply jD
      simp [y6j,b1,b2,b3,hf]
      exact ⟨hx,.refl _⟩
  by_cases h3:k=3
  · subst h3
    have hf:=hz5 (by omega)
    simp [y4.r7]
    refine jF rfl (AX.skip ?_)
    simp
    apply jB
    simp [y4.r8]
    refine jF rfl (AX.skip ?_)
    simp
    apply jB
    simp [y4.r9]
    refine jF rfl (AX.skip ?_)
    simp
    apply jB
    simp [y4.r10]
    refine jF rfl (AX.skip ?_)
    simp
    apply jB
    simp [y4.r11]
    refine jF rfl (AX.skip ?_)
    simp
    apply jB
    simp [y4.r12]
    refine jG rfl (AX.exit ?_)
    simp
    apply jE
    simp [y4.r20]
    apply jB
    have e:nm.isEmpty=decide (nm=[]):=by cases nm <;> simp
    by_cases b1:1≤n
    case neg=>
      simp [y4.r21,b1]
      apply jD
      simp [y6j,b1]
      exact ⟨hx,.refl _⟩
    by_cases b2:n≤268435456
    case neg=>
      simp [y4.r21,b1,b2]
      apply jD
      simp [y6j,b1,b2]
      exact ⟨hx,.refl _⟩
    by_cases b3:nm=[] <;> by_cases b4:cl=-1 <;> simp [y4.r21,b1,b2,hg,y72,yaj,en,ec,b3,b4,e]
    all_goals
      apply jD
      simp [y6j,b1,b2,b3,b4,hf]
      exact ⟨hx,.refl _⟩
  by_cases h2:k=2
  · subst h2
    have hf:=hz5 (by omega)
    simp [y4.r7]
    refine jF rfl (AX.skip ?_)
    simp
    apply jB
    simp [y4.r8]
    refine jF rfl (AX.skip ?_)
    simp
    apply jB
    simp [y4.r9]
    refine jF rfl (AX.skip ?_)
    simp
    apply jB
    simp [y4.r10]
    refine jF rfl (AX.skip ?_)
    simp
    apply jB
    simp [y4.r11]
    refine jF rfl (AX.skip ?_)
    simp
    apply jB
    simp [y4.r12]
    refine jF rfl (AX.skip ?_)
    simp
    apply jA
    simp [y4.r13]
    refine jG rfl (AX.exit ?_)
    simp
    apply jB
    have e:nm.isEmpty=decide (nm=[]):=by cases nm <;> simp
    by_cases b1:0≤n
    case neg=>
      simp [y4.r21,b1]
      apply jD
      simp [y6j,b1]
      exact ⟨hx,.refl _⟩
    by_cases b2:n≤268435456
    case neg=>
      simp [y4.r21,b1,b2]
      apply jD
      simp [y6j,b1,b2]
      exact ⟨hx,.refl _⟩
    by_cases b3:nm=[] <;> by_cases b4:cl=-1 <;> simp [y4.r21,b1,b2,hg,y72,yaj,en,ec,b3,b4,e]
    all_goals
      apply jD
      simp [y6j,b1,b2,b3,b4,hf]
      exact ⟨hx,.refl _⟩
  simp [y4.r7,h5]
  refine jF rfl (AX.skip ?_)
  simp
  apply jB
  simp [y4.r8,h6]
  refine jF rfl (AX.skip ?_)
  simp
  apply jB
  simp [y4.r9,h1]
  refine jF rfl (AX.skip ?_)
  simp
  apply jB
  simp [y4.r10,h7]
  refine jF rfl (AX.skip ?_)
  simp
  apply jB
  simp [y4.r11,h4]
  refine jF rfl (AX.skip ?_)
  simp
  apply jB
  simp [y4.r12,h3]
  refine jF rfl (AX.skip ?_)
  simp
  apply jA
  simp [y4.r13,h2]
  refine jF rfl (AX.skip ?_)
  simp
  refine AX.exit ?_
  simp
  apply jA
  simp [y4.r22]
  apply jD
  simp [y6j,h5,h6,h1,h7,h4,h3,h2]
  exact ⟨hx,.refl _⟩
end Go.Proofs.YthmkcebbeehbeaaGreatDoor
