/- Part 36 of the proof of the laws of the queries: CodeC, RdA, RdB, RdC, RdX, Bld, BldS, BldA. -/
import Derived.Shelf.Strings.Builder1
import Derived.WalkKit
import Derived.BigCall
import Derived.Test.YthmkcebbeehbeaaGreatDoorXEw17
import Derived.Test.YthmkcebbeehbeaaGreatDoorXEw19
import Derived.Test.YthmkcebbeehbeaaGreatDoorXEw21
import Derived.Test.YthmkcebbeehbeaaGreatDoorXEw25
import Derived.Test.YthmkcebbeehbeaaGreatDoorXEw30
import Derived.Test.YthmkcebbeehbeaaGreatDoorXEw34
set_option linter.unusedSimpArgs false
set_option linter.unusedVariables false
namespace Go.Proofs.YthmkcebbeehbeaaGreatDoor
open Am Go.Proofs
set_option maxRecDepth 100000
namespace C
def y3f.r0:jI:=[an 0]
def y3f.r1:jI:=[⟨some 6,none,.op (.build [.s [],.fs [],.fs [],.fs [],.fs [],.fs [],.fs []] [(0,1,.c (.s [97]))])⟩,⟨some 7,none,.call yad [.t 6]⟩,ab 5 7,ai 8 0 5,ai 9 1 5,ab 1 8,ab 2 9]
def y3f.r2:jI:=[ab 11 1,⟨some 12,none,.call ycc [.t 11]⟩,ab 10 12,ai 13 0 10,ai 14 1 10,a2z 3 0 0 0 0 0 0 0 0 0 0 0 0,ak 7 3 13,ab 4 14]
def y3f.r3:jI:=[ab 15 2,a12 16 15 0,ab 17 16,ah 18 17 4,a1o 19 17 18 0,aj 20 17 19,ab 21 20,ah 22 21 1,a1n 23 21 22,a1o 24 21 23 20,aj 25 21 24,ab 26 25,ah 27 26 1,⟨some 28,(some (26,true)),.op (.sls (.t 27) none (some (.c (.i .i64 9))))⟩,⟨some 29,(some (26,true)),.op (.bin .eql (.t 28) (.c (.s [119,101,102,116,1,1,0,1,97])))⟩,aj 30 26 29,ab 31 30,a13 32 31 0 3,a11 33 31 1 32,⟨some 34,(some (31,true)),.op (.bin .eql (.t 33) (.c (.s [97])))⟩,aj 35 31 34,ab 0 35]
def y3f:AFunc:=⟨36,[.t 0],jJ [] y3f.r0 (jJ [1,2] y3f.r1 (jJ [1,2,3,4] y3f.r2 (jJ [0] y3f.r3 (.ret))))⟩
theorem y3f.ok:y1v Tryz.prog Tryz.f10 y3f=true:=by kernel_rfl
theorem y3f.at:Tryz.prog.funcs[ybi]?=some Tryz.f10:=Tryz.func10
end C
open C
theorem u8_and (c:UInt8):yqq .u8 (c.toNat:Int) 127=((c.toNat % 128:Nat):Int)∧(yqq .u8 (c.toNat:Int) 128≠0↔128≤c.toNat):=by
  have key:∀n:Fin 256,yqq .u8 ((n.val:Nat):Int) 127=((n.val % 128:Nat):Int)∧(yqq .u8 ((n.val:Nat):Int) 128≠0↔128≤n.val):=by decide +kernel
  exact key ⟨c.toNat,c.toNat_lt⟩
theorem sh7 {d i:Nat} (hd:d<128) (hi:i≤4):Go.IntKind.i64.wrap ((d:Int)*2 ^ (min (Go.IntKind.i64.wrap (7*(i:Int))).toNat 64))=((d*128 ^ i:Nat):Int)∧0≤Go.IntKind.i64.wrap (7*(i:Int)):=by
  have h7:Go.IntKind.i64.wrap (7*(i:Int))=((7*i:Nat):Int):=by rw [y3i (by omega) (by omega)];omega
  rw [h7]
  match i,hi with
  | 0,_=>exact ⟨by rw [y3i (by simp <;> omega) (by simp <;> omega)];simp,by omega⟩
  | 1,_=>exact ⟨by rw [y3i (by simp <;> omega) (by simp <;> omega)];simp,by omega⟩
  | 2,_=>exact ⟨by rw [y3i (by simp <;> omega) (by simp <;> omega)];simp,by omega⟩
  | 3,_=>exact ⟨by rw [y3i (by simp <;> omega) (by simp <;> omega)];simp,by omega⟩
  | 4,_=>exact ⟨by rw [y3i (by simp <;> omega) (by simp <;> omega)];simp,by omega⟩
theorem pow128 {i:Nat} (hi:i≤4):128 ^ i≤268435456:=by
  match i,hi with
  | 0,_=>decide
  | 1,_=>decide
  | 2,_=>decide
  | 3,_=>decide
  | 4,_=>decide
theorem or_add {n d i:Nat} (hn:n<128 ^ i):n ||| d*128 ^ i=n+d*128 ^ i:=by
  have h:=Nat.two_pow_add_eq_or_of_lt (i:=7*i) (b:=n) (by rw [Nat.pow_mul];exact hn) d
  rw [Nat.pow_mul] at h
  rw [Nat.or_comm,Nat.mul_comm,←h,Nat.add_comm]
theorem rd_step {r:Str} {k n:Nat} {c:UInt8} {q:Str} (h:r.drop k=c::q):rdN k n (r.drop k)=if k=4∧1<c.toNat then (0,0,2) else if 128≤c.toNat then rdN (k+1) (n+c.toNat % 128*128 ^ k) (r.drop (k+1))
      else if c.toNat=0∧0<k then (0,0,3) else if 268435456<n+c.toNat % 128*128 ^ k then (0,0,2) else (n+c.toNat % 128*128 ^ k,k+1,0):=by
  have:r.drop (k+1)=q:=by rw [←List.drop_drop,h];rfl
  rw [h,this];rfl
theorem acc_lt {n k:Nat} (c:UInt8) (h:n<128 ^ k):n+c.toNat % 128*128 ^ k<128 ^ (k+1):=by
  have:c.toNat % 128*128 ^ k≤127*128 ^ k:=Nat.mul_le_mul_right _ (by omega)
  rw [Nat.pow_succ];omega
def LkInv (t:Str) (σ:Rd) (B:Str) (H:Hp) (m:Nat) (F:Fr) (X:Hp):Prop:=
  ∃i n,i≤4∧i≤B.length∧m=B.length-i∧n<128 ^ i∧rdL t σ=rdN i n ((t.drop σ.pos).drop i)∧X=H∧F=[(5,.i .i64 (n:Nat)),(28,.fs (bcl B)),(29,.i .i64 B.length),(30,.i .i64 i)]
theorem Look_ok (t:Str) (σ:Rd) (id:Nat) (hp:σ.pos≤t.length) (ht:t.length≤140737488351232) (H:Hp) {m:Nat} (hm:m≤3) (hg:H.get id=some (.cells [.s t,.i .i64 σ.pos,.i .i64 σ.e] m)):
    AC Tryz.prog ya1 [.p (some (id,0,3))] H (fun v H'=>v=.tup [.i .i64 ((rdL t σ).1:Nat),.i .i64 ((rdL t σ).2.1:Nat),.i .i64 (rdL t σ).2.2]∧H'=H):=by
  refine AC.code ye.at ye.ok ?_
  simp only [ye]
  apply jA
  simp [ye.r0]
  apply jA
  simp [ye.r1]
  have hmin:min (t.length:Int) (Go.IntKind.i64.wrap ((σ.pos:Int)+5))=((min t.length (σ.pos+5):Nat):Int):=by rw [y3i (by omega) (by omega)];omega
  obtain ⟨B,hB⟩:∃B,B=(t.drop σ.pos).take 5:=⟨_,rfl⟩
  have hsl:(t.take (min t.length (σ.pos+5))).drop σ.pos=B:=by
    rw [hB]
    apply List.ext_getElem?
    intro j
    simp only [List.getElem?_drop,List.getElem?_take]
    by_cases h1:j<5
    · by_cases h2:σ.pos+j<t.length
      · rw [if_pos (by omega),if_pos h1]
      · rw [if_neg (by omega),if_pos h1,List.getElem?_eq_none (by omega)]
    · rw [if_neg (by omega),if_neg h1]
  have hBl:B.length=min 5 (t.length-σ.pos):=by rw [hB];simp
  refine AX.seq (AX.seq (AX.drw ?_))
  simp [ye.r2,hg,hm,hmin]
  rw [if_pos ⟨by omega,by omega⟩,hsl]
  simp
  refine AX.pblock (AX.loop (LkInv t σ B H) B.length ⟨_,_,.refl _ _,0,0,by omega,by omega,by omega,by simp,by simp [rdL],rfl,by simp [bcl]⟩ ?_)
  rintro m F X ⟨i,n,hi,hib,rfl,hn,hr,rfl,rfl⟩
  simp only [ye.l0]
  apply jA
  simp [ye.r3]
  refine AX.seq (AX.pcond rfl (fun hd=>AX.skip ?_) (fun hd=>AX.exit ?_))
  · simp at hd
    have hd':i<t.length-σ.pos:=by omega
    have hBi:B[i]?=(t.drop σ.pos)[i]?:=by rw [hB,List.getElem?_take,if_pos (by omega)]
    obtain ⟨q,hq⟩:∃q,(t.drop σ.pos).drop i=B[i]::q:=by
      rw [List.getElem?_eq_getElem hd] at hBi
      have h1:i<(t.drop σ.pos).length:=by rw [List.length_drop];omega
      rw [List.getElem?_eq_getElem h1] at hBi
      injection hBi with hBi
      exact ⟨_,by rw [List.drop_eq_getElem_cons h1,hBi]⟩
    have hs:=rd_step (k:=i) (n:=n) hq
    rw [←hr] at hs
    have hbc:(bcl B)[i]?=some [.i .u8 B[i].toNat]:=by simp [bcl,hd]
    generalize B[i]=c at *
    have hc:=c.toNat_lt
    simp
    apply jC
    simp [ye.r4,hbc]
    obtain ⟨s1,s2⟩:=sh7 (d:=c.toNat % 128) (i:=i) (by omega) hi
    obtain ⟨a1,a2⟩:=u8_and c
    have hp4:=pow128 hi
    have hadd:=acc_lt c hn
    have hp5:128 ^ (i+1)≤34359738368:=by rw [Nat.pow_succ];omega
    have hor:bOr .i64 (n:Int) ((c.toNat % 128*128 ^ i:Nat):Int)=((n+c.toNat % 128*128 ^ i:Nat):Int):=by
      rw [yv7 (by omega) (by omega),or_add hn]
    have e0:Go.IntKind.i64.wrap ((c.toNat:Int) % 128)=(c.toNat:Int) % 128:=y3i (by omega) (by omega)
    rw [show ((c.toNat % 128:Nat):Int)=(c.toNat:Int) % 128 by omega] at s1 a1
    have s3:¬Go.IntKind.i64.wrap (7*(i:Int))<0:=by omega
    obtain ⟨N2,hN2⟩:∃N2,N2=n+c.toNat % 128*128 ^ i:=⟨_,rfl⟩
    rw [←hN2] at hs hadd hor
    generalize c.toNat % 128*128 ^ i=D at *
    refine AX.seq (AX.test (decide (i=4)&&decide (1<c.toNat)) [(5,.i .i64 (n:Nat)),(6,.i .i64 i),(7,.i .u8 c.toNat),(28,.fs (bcl B)),(29,.i .i64 B.length),(30,.i .i64 i),(40,.b (decide (i=4)&&decide (1<c.toNat)))] ?_ rfl (fun h1=>?_) (fun h1=>AX.skip ?_))
    · by_cases h4:i=4
      · simp [ye.r5,h4]
      · simp [ye.r5,h4]
    · simp at h1
      rw [if_pos h1] at hs
      apply jA
      simp [ye.r6]
      apply jD
      simp [hs]
    simp at h1
    rw [if_neg (fun h=>by have:=h1 h.1;omega)] at hs
    simp
    apply jA
    simp [ye.r7,a1,e0,s1,s3,hor]
    refine AX.pblock (jA ?_)
    simp [ye.r8]
    by_cases h2:128≤c.toNat
    · rw [if_pos h2] at hs
      refine jG (by simpa using a2.2 h2) (AX.skip ?_)
      simp
      apply jE
      simp [ye.r14,y5x (show i≤9223372036854775000 by omega)]
      refine ⟨B.length-(i+1),by omega,_,_,.refl _ _,i+1,N2,?_,by omega,rfl,hadd,hs,rfl,by simp⟩
      have:i≠4:=fun h=>by have:=h1 h;omega
      omega
    rw [if_neg h2] at hs
    refine jF (by simpa using fun h=>h2 (a2.1 h)) ?_
    refine AX.test (decide (c.toNat=0)&&decide (0<i)) [(5,.i .i64 (N2:Nat)),(6,.i .i64 i),(56,.b (decide (c.toNat=0)&&decide (0<i)))] ?_ rfl (fun h3=>?_) (fun h3=>?_)
    · by_cases h4:c.toNat=0
      · simp [ye.r9,h4]
      · simp [ye.r9,h4]
    · simp at h3
      rw [if_pos h3] at hs
      apply jA
      simp [ye.r10]
      apply jD
      simp [hs]
    simp at h3
    rw [if_neg (fun h=>by have:=h3 h.1;omega)] at hs
    apply jA
    simp [ye.r11]
    by_cases h5:268435456<N2
    · rw [if_pos h5] at hs
      refine jG (by simp [h5]) ?_
      apply jA
      simp [ye.r12]
      apply jD
      simp [hs]
    · rw [if_neg h5] at hs
      refine jF (by simp [h5]) ?_
      apply jA
      simp [ye.r13,y5x (show i≤9223372036854775000 by omega)]
      apply jD
      simp [hs]
  · simp at hd
    have hnil:(t.drop σ.pos).drop i=[]:=by rw [List.drop_drop];exact List.drop_of_length_le (by omega)
    rw [hnil] at hr
    simp
    apply jA
    simp [ye.r15]
    apply jD
    simp [hr,rdN]
def rdc (t:Str) (σ:Rd):List V:=[.s t,.i .i64 σ.pos,.i .i64 σ.e]
def yco (rest:Nat→Nat) (t:Str) (σ:Rd):Nat × Str × Rd:=
  if σ.e≠0 then (0,[],σ) else if (rdL t σ).2.2≠0 then (0,[],{ σ with e:=(rdL t σ).2.2 })
  else if t.length<σ.pos+(rdL t σ).2.1+rest (rdL t σ).1 then (0,[],{ σ with e:=1 })
  else ((rdL t σ).1,(t.drop (σ.pos+(rdL t σ).2.1)).take (rest (rdL t σ).1),{ σ with pos:=σ.pos+(rdL t σ).2.1+rest (rdL t σ).1 })
section
variable {t:Str} {σ:Rd} {id:Nat} {H:Hp}
theorem yvj (rest:Nat→Nat) (f:Go.FuncId) (hrest:∀(n:Nat) X,AC Tryz.prog f [.i .i64 (n:Nat)] X (fun v X'=>v=.i .i64 (rest n:Nat)∧X'=X)) (hrl:∀n,rest n≤n) (ho:y8u t σ) (ht:t.length≤140737488351232) (hg:H.get id=some (.cells (rdc t σ) 3)):
    AC Tryz.prog y8e [.p (some (id,0,3)),.fn f []] H (fun v H'=>v=.tup [.i .i64 ((yco rest t σ).1:Nat),.s (yco rest t σ).2.1]∧H'=H.upd id (.cells (rdc t (yco rest t σ).2.2) 3)):=by
  obtain ⟨hp,he0,he1,he6⟩:=ho
  have hL:=yhk t σ hp
  have hlook:=Look_ok t σ id hp ht H (by omega) hg
  unfold rdc at hg
  refine AC.code yv.at yv.ok ?_
  simp only [yv]
  apply jA
  simp [yv.r0]
  apply jB
  simp [yv.r1,hg]
  by_cases he:σ.e=0
  · refine jF (by simp [he]) (AX.skip ?_)
    simp
    apply jA
    simp [yv.r3]
    refine AC.fix hlook ?_
    have hr:=hrl (rdL t σ).1
    have hT:yco rest t σ=if (rdL t σ).2.2≠0 then (0,[],{ σ with e:=(rdL t σ).2.2 })
      else if t.length<σ.pos+(rdL t σ).2.1+rest (rdL t σ).1 then (0,[],{ σ with e:=1 })
      else ((rdL t σ).1,(t.drop (σ.pos+(rdL t σ).2.1)).take (rest (rdL t σ).1),{ σ with pos:=σ.pos+(rdL t σ).2.1+rest (rdL t σ).1 }):=by
      unfold yco;rw [if_neg (by simp [he])]
    generalize (rdL t σ).1=n at *
    generalize (rdL t σ).2.1=k at *
    generalize (rdL t σ).2.2=e at *
    have hs1:Go.IntKind.i64.wrap (Go.IntKind.i64.wrap ((t.length:Int)-σ.pos)-k)=((t.length-σ.pos-k:Nat):Int):=by
      rw [y3i (n:=(t.length:Int)-σ.pos) (by omega) (by omega),y3i (by omega) (by omega)];omega
    simp
    refine AX.seq (AX.testD (decide (e=0)&&decide (t.length-σ.pos-k<rest n)) [(0,.p (some (id,0,3))),(1,.fn f []),(6,.i .i64 (n:Nat)),(7,.i .i64 (k:Nat)),(8,.i .i64 e),(40,.b (decide (e=0)&&decide (t.length-σ.pos-k<rest n)))] ?_ rfl (fun h1=>?_) (fun h1=>AX.skip ?_))
    · by_cases h1:e=0
      · simp [yv.r4,h1]
        refine y57 _ (fun H2=>hrest n H2) ?_
        simp [hg,hs1]
      · simp [yv.r4,h1]
    · simp at h1
      obtain ⟨rfl,h1⟩:=h1
      apply jE
      simp [yv.r5]
      apply jB
      simp [yv.r6]
      refine jG rfl ?_
      apply jA
      simp [yv.r7,hg]
      apply jA
      simp [yv.r8]
      apply jD
      have hT2:yco rest t σ=(0,[],{ σ with e:=1 }):=by rw [hT,if_neg (show ¬((0:Int)≠0) by simp),if_pos (by omega)]
      simp [rdc,hT2]
    simp at h1
    simp
    apply jB
    simp [yv.r6]
    by_cases h2:e=0
    · subst h2
      have h3:=h1 rfl
      refine jF (by simp) (AX.skip ?_)
      have hpk:Go.IntKind.i64.wrap ((σ.pos:Int)+k)=((σ.pos+k:Nat):Int):=by rw [y3i (by omega) (by omega)];omega
      have hpr:Go.IntKind.i64.wrap (((σ.pos+k:Nat):Int)+(rest n:Nat))=((σ.pos+k+rest n:Nat):Int):=by rw [y3i (by omega) (by omega)];omega
      have hT2:=hT
      rw [if_neg (show ¬((0:Int)≠0) by simp),if_neg (by omega)] at hT2
      rw [hT2]
      obtain ⟨p,hp'⟩:∃p,p=σ.pos+k:=⟨_,rfl⟩
      rw [←hp'] at hpk hpr ⊢
      obtain ⟨p2,hp2⟩:∃p2,p2=p+rest n:=⟨_,rfl⟩
      rw [←hp2] at hpr ⊢
      have hsl:(t.take p2).drop p=(t.drop p).take (rest n):=by
        rw [hp2,List.take_add,List.drop_append_of_le_length (by simp;omega),List.drop_eq_nil_of_le (by simp;omega)];rfl
      simp
      apply jA
      simp [yv.r9,hg,hpk]
      apply jA
      simp [yv.r10]
      refine AC.fix (hrest n _) ?_
      simp [hpr,hg]
      refine AX.seq (AX.drw ?_)
      simp [yv.r11,show p≤p2∧p2≤t.length by omega,hsl]
      apply jD
      simp [rdc]
    · refine jG (by simp [h2]) ?_
      have hT2:yco rest t σ=(0,[],{ σ with e:=e }):=by rw [hT,if_pos h2]
      rw [hT2]
      apply jA
      simp [yv.r7,hg]
      apply jA
      simp [yv.r8]
      apply jD
      simp [rdc]
  · refine jG (by simp [he]) ?_
    apply jA
    simp [yv.r2]
    apply jD
    have hT:yco rest t σ=(0,[],σ):=by unfold yco;rw [if_pos he]
    simp [hT,rdc]
    exact (Hp.upd_self hg).symm
end
section
variable {t:Str} {σ:Rd} {id:Nat} {H:Hp}
theorem Zero_ok (n:Nat) (X:Hp):AC Tryz.prog y8n [.i .i64 (n:Nat)] X (fun v X'=>v=.i .i64 ((0:Nat):Int)∧X'=X):=by
  refine AC.code y3m.at y3m.ok ?_
  simp only [y3m]
  apply jA
  simp [y3m.r0]
  apply jA
  simp [y3m.r1]
  apply jD
  simp
theorem Self_ok (n:Nat) (X:Hp):AC Tryz.prog y96 [.i .i64 (n:Nat)] X (fun v X'=>v=.i .i64 (n:Nat)∧X'=X):=by
  refine AC.code y3w.at y3w.ok ?_
  simp only [y3w]
  apply jA
  simp [y3w.r0]
  apply jA
  simp [y3w.r1]
  apply jD
  simp
theorem take_num (t:Str) (σ:Rd) (ho:y8u t σ):(yco (fun _=>0) t σ).1=(y4m t σ).1∧(yco (fun _=>0) t σ).2.2=(y4m t σ).2:=by
  have:=yhk t σ ho.1
  unfold yco y4m
  split
  · simp
  · split
    · simp
    · have h0:¬t.length<σ.pos+(rdL t σ).2.1+0:=by omega
      rw [if_neg h0];simp
theorem take_txt (t:Str) (σ:Rd):(yco (fun n=>n) t σ).2.1=(y9c t σ).1∧(yco (fun n=>n) t σ).2.2=(y9c t σ).2:=by
  unfold yco y9c
  split
  · simp
  · split
    · simp
    · split <;> simp
theorem y9m (ho:y8u t σ) (ht:t.length≤140737488351232) (hg:H.get id=some (.cells (rdc t σ) 3)):
    AC Tryz.prog y3p [.p (some (id,0,3))] H (fun v H'=>v=.i .i64 ((y4m t σ).1:Nat)∧H'=H.upd id (.cells (rdc t (y4m t σ).2) 3)):=by
  refine AC.code y3e.at y3e.ok ?_
  simp only [y3e]
  apply jA
  simp [y3e.r0]
  apply jA
  simp [y3e.r1]
  refine AC.fix (yvj (fun _=>0) y8n Zero_ok (fun n=>Nat.zero_le _) ho ht hg) ?_
  obtain ⟨h1,h2⟩:=take_num t σ ho
  rw [h1,h2]
  simp
  apply jA
  simp [y3e.r2]
  apply jD
  simp
theorem ynn (ho:y8u t σ) (ht:t.length≤140737488351232) (hg:H.get id=some (.cells (rdc t σ) 3)):
    AC Tryz.prog y8f [.p (some (id,0,3))] H (fun v H'=>v=.s (y9c t σ).1∧H'=H.upd id (.cells (rdc t (y9c t σ).2) 3)):=by
  refine AC.code y3k.at y3k.ok ?_
  simp only [y3k]
  apply jA
  simp [y3k.r0]
  apply jA
  simp [y3k.r1]
  refine AC.fix (yvj (fun n=>n) y96 Self_ok (fun n=>Nat.le_refl _) ho ht hg) ?_
  obtain ⟨h1,h2⟩:=take_txt t σ
  rw [h1,h2]
  simp
  apply jA
  simp [y3k.r2]
  apply jD
  simp
theorem yrp {f:Go.FuncId} {fn:Go.Func} (hf:Tryz.prog.funcs[f]?=some fn) (hok:y1v Tryz.prog fn y41=true) (hg:H.get id=some (.cells (rdc t σ) 3)) (x:Int):
    AC Tryz.prog f [.p (some (id,0,3)),.i .i64 x] H (fun v H'=>v=.tup []∧H'=H.upd id (.cells (rdc t (y77 σ x)) 3)):=by
  unfold rdc at hg
  refine AC.code hf hok ?_
  simp only [y41]
  apply jA
  simp [y41.r0,hg]
  by_cases he:σ.e=0
  · refine jG (by simp [he]) (AX.reg ?_)
    simp [y41.r1,hg,y77,he,rdc]
  · refine jF (by simp [he]) (AX.skip ?_)
    simp [y77,he,rdc]
    exact (Hp.upd_self hg).symm
theorem yfk (hg:H.get id=some (.cells (rdc t σ) 3)) (x:Int):AC Tryz.prog y4t [.p (some (id,0,3)),.i .i64 x] H (fun v H'=>v=.tup []∧H'=H.upd id (.cells (rdc t (y77 σ x)) 3)):=
  yrp y41.at y41.ok hg x
theorem yrq {f:Go.FuncId} {fn:Go.Func} (hf:Tryz.prog.funcs[f]?=some fn) (hok:y1v Tryz.prog fn y2w=true) (hg:H.get id=some (.cells (rdc t σ) 3)):
    AC Tryz.prog f [.p (some (id,0,3))] H (fun v H'=>v=.tup [.i .i64 σ.pos,.i .i64 (y97 t σ)]∧H'=H):=by
  unfold rdc at hg
  refine AC.code hf hok ?_
  simp only [y2w]
  apply jA
  simp [y2w.r0]
  refine AX.seq (AX.testD (decide (σ.e=0)&&decide (σ.pos<t.length)) [(0,.p (some (id,0,3))),(20,.b (decide (σ.e=0)&&decide (σ.pos<t.length)))] ?_ rfl (fun h1=>?_) (fun h1=>AX.skip ?_))
  · by_cases h1:σ.e=0
    · simp [y2w.r1,hg,h1]
    · simp [y2w.r1,hg,h1]
  · simp at h1
    apply jA
    simp [y2w.r2,hg]
    apply jD
    simp [y97,h1]
  · simp at h1
    have h2:y97 t σ=σ.e:=by unfold y97;rw [if_neg (fun h=>by have:=h1 h.1;omega)]
    simp
    refine AX.seq (AX.drw ?_)
    simp [y2w.r3,hg]
    apply jD
    simp [h2]
theorem yh4 (hg:H.get id=some (.cells (rdc t σ) 3)):AC Tryz.prog y60 [.p (some (id,0,3))] H (fun v H'=>v=.tup [.i .i64 σ.pos,.i .i64 (y97 t σ)]∧H'=H):=
  yrq y2w.at y2w.ok hg
theorem yqz (t:Str) (H:Hp):AC Tryz.prog ydg [.s t] H (fun v H'=>v=.p (some (H.next,0,3))∧H'=H.add (.cells (rdc t ⟨0,0⟩) 3)):=by
  refine AC.code y65.at y65.ok ?_
  simp only [y65]
  apply jA
  simp [y65.r0]
  apply jA
  simp [y65.r1]
  apply jD
  simp [rdc]
theorem ynl {f:Go.FuncId} {fn:Go.Func} (hf:Tryz.prog.funcs[f]?=some fn) (hok:y1v Tryz.prog fn y4a=true) (ho:y8u t σ) (hg:H.get id=some (.cells (rdc t σ) 3)):
    AC Tryz.prog f [.p (some (id,0,3))] H (fun v H'=>v=.i .i64 σ.e∧H'=H):=by
  refine AC.code hf hok ?_
  simp only [y4a]
  apply jA
  simp [y4a.r0]
  apply jB
  simp [y4a.r1]
  refine AC.fix (yh4 hg) ?_
  simp
  apply jA
  simp [y4a.r2]
  by_cases h:y97 t σ=6
  · refine jF (by simp [h]) (AX.skip ?_)
    simp
    apply jA
    simp [y4a.r4]
    apply jD
    have:σ.e=0:=by
      unfold y97 at h
      split at h
      · rename_i h';exact h'.1
      · exact (ho.2.2.2 h).elim
    simp [this]
  · refine jG (by simp [h]) ?_
    apply jA
    simp [y4a.r3]
    apply jD
    have:y97 t σ=σ.e:=by
      unfold y97 at h ⊢
      split at h
      · exact (h rfl).elim
      · rename_i h';rw [if_neg h']
    simp [this]
theorem yjr (ho:y8u t σ) (hg:H.get id=some (.cells (rdc t σ) 3)):AC Tryz.prog yc1 [.p (some (id,0,3))] H (fun v H'=>v=.i .i64 σ.e∧H'=H):=ynl y4a.at y4a.ok ho hg
theorem yvk (ho:y8u t σ) (hg:H.get id=some (.cells (rdc t σ) 3)):AC Tryz.prog ycx [.p (some (id,0,3))] H (fun v H'=>v=.i .i64 σ.e∧H'=H):=ynl y4r.at y4r.ok ho hg
end
section
open Go Go.RowKit
theorem Am.AC.codeU {P:Program} {f:FuncId} {fn:Func} {a:AFunc} (hf:P.funcs[f]?=some fn) (hok:y1v P fn a=true) {args:List V} {H:Hp} {r:V} {id m:Nat} {cs:List V} {b0:Blk} (hid:H.get id=some b0) (hcs:∀v∈cs,ye0 v) (hr:ye0 r)
    (h:(∀id blk,H.get id=some blk→id<H.next)→AX P a.n a.body (Ends (fun v H'=>(H.upd id (.cells cs m)).Ext H'∧Frz H' (fun id=>H.next≤id) v r) a.res) (fr0 0 args) H):AC P f args H (fun v H'=>v=r∧H'=H.upd id (.cells cs m)):=
  AC.lt (yld hf hok) fun hl=>by
    have hi:=hl _ _ hid
    have key:AC P f args H (fun v H'=>v=r∧∃X,(H.upd id (.cells cs m)).Ext X∧H'=X.wo fun id=>H.next≤id):=(AC.code hf hok (h hl)).wk fun v H' ⟨e,hz⟩=>⟨r,_,.freeze _ hz,rfl,H',e,rfl⟩
    refine key.trim ?_
    rintro v H' ⟨rfl,X,e,rfl⟩
    refine ⟨H.upd id (.cells cs m),⟨Nat.le_refl _,e.1,fun k blk hg=>?_,fun k cs' m' hg=>?_,fun k o hg=>?_⟩,hr.ok _,rfl,rfl⟩
    · have hk:k<H.next:=by
        rw [Hp.get_upd] at hg
        split at hg
        · rename_i e;subst e;exact hi
        · exact hl _ _ hg
      refine ⟨hk,?_⟩
      simp only [Hp.wo]
      rw [if_neg (by omega)]
      exact e.2 _ _ hg
    · rw [Hp.get_upd] at hg
      split at hg
      · injection hg with hg;injection hg with h1 h2
        subst h1
        exact .inr fun v hv=>(hcs v hv).ok _
      · exact .inl ⟨m',hg⟩
    · rw [Hp.get_upd] at hg
      split at hg
      · cases hg
      · exact .inl hg
end
theorem yfq (t:Str) (σ:Rd):∀v∈rdc t σ,ye0 v:=by
  intro v hv
  simp [rdc] at hv
  rcases hv with rfl | rfl | rfl
  · exact ycf _
  · exact yjf _ _
  · exact yjf _ _
structure RX (H:Hp) (id:Nat) (t:Str) (σ:Rd) (X:Hp):Prop where
  ext:(H.del id).Ext X
  lt:∀k blk,X.get k=some blk→k<X.next
  get:X.get id=some (.cells (rdc t σ) 3)
  hlt:∀k blk,H.get k=some blk→k<H.next
  hid:id<H.next
section
variable {H X Y:Hp} {id:Nat} {t:Str} {σ:Rd}
theorem ygl {H:Hp} {id k:Nat}:(H.del id).get k=if k=id then none else H.get k:=rfl
theorem RX.start (hl:∀k blk,H.get k=some blk→k<H.next) (hg:H.get id=some (.cells (rdc t σ) 3)):RX H id t σ H:=
  ⟨⟨Nat.le_refl _,fun k blk h=>by rw [ygl] at h;split at h;cases h;exact h⟩,hl,hg,hl,hl _ _ hg⟩
theorem RX.upd (R:RX H id t σ X) (σ':Rd):RX H id t σ' (X.upd id (.cells (rdc t σ') 3)):=
  ⟨⟨R.ext.1,fun k blk h=>by
      have h2:=R.ext.2 k blk h
      rw [ygl] at h
      rw [Hp.get_upd]
      split
      · rename_i e;rw [if_pos e] at h;cases h
      · exact h2⟩,Hp.upd_lt R.lt (R.lt _ _ R.get) _,by simp,R.hlt,R.hid⟩
theorem RX.more (R:RX H id t σ X) (e:X.Ext Y) (hl:∀k blk,Y.get k=some blk→k<Y.next):RX H id t σ Y:=⟨R.ext.trans e,hl,e.2 _ _ R.get,R.hlt,R.hid⟩
theorem RX.fin (R:RX H id t σ X):(H.upd id (.cells (rdc t σ) 3)).Ext X:=⟨R.ext.1,fun k blk h=>by
  rw [Hp.get_upd] at h
  split at h
  · rename_i e;subst e;injection h with h;subst h;exact R.get
  · rename_i e;exact R.ext.2 k blk (by rw [ygl,if_neg e];exact h)⟩
theorem RX.dlt (R:RX H id t σ X):∀k blk,(H.del id).get k=some blk→k<(H.del id).next:=fun k blk h=>by
  rw [ygl] at h
  split at h
  · cases h
  · exact R.hlt _ _ h
theorem RX.accNil (R:RX H id t σ X) (sz z:Nat):Acc (H.del id) sz (.sl none 0 z) X []:=Acc.nil sz z R.ext R.lt
theorem RX.acc (R:RX H id t σ X) {sz:Nat} {v:V} {es:List (List V)} (A:Acc (H.del id) sz v X es) (σ':Rd):Acc (H.del id) sz v (X.upd id (.cells (rdc t σ') 3)) es:=by
  have hs:yez v id:=A.sepOld R.hid
  have R':=R.upd σ'
  refine ⟨R'.ext,R'.lt,A.all,A.sl.imp (fun x=>x) ?_⟩
  rintro ⟨k,m,a,e,c,d⟩
  refine ⟨k,m,a,e,?_,d⟩
  subst e
  rw [Hp.get_upd,if_neg (show k≠id from hs)];exact c
theorem RX.app (R:RX H id t σ X) {sz bytes:Nat} {v:V} {es:List (List V)} (A:Acc (H.del id) sz v X es) (y:List V) (hy:y.length=sz) (hsz:0<sz) (hc:y.all y7v=true) (hb:(es.length+1)*bytes≤yc5):
    ∃a l s X2,y5d X sz bytes v (.fs [y])=some (.sl a l s,X2)∧RX H id t σ X2∧Acc (H.del id) sz (.sl a l s) X2 (es++[y])∧∀k blk,X.get k=some blk→yez v k→X2.get k=some blk∧yez (.sl a l s) k:=by
  obtain ⟨v2,X2,e,A2,K⟩:=A.appK (bytes:=bytes) R.dlt y hy hsz hc hb
  obtain ⟨a,l,s,rfl⟩:=A2.isSl
  have hs:yez v id:=A.sepOld R.hid
  exact ⟨a,l,s,X2,e,⟨A2.ext,A2.lt,(K _ _ R.get hs).1,R.hlt,R.hid⟩,A2,K⟩
end
open Go Go.RowKit Go.Shelf
set_option maxHeartbeats 1000000 in
set_option maxRecDepth 100000 in
theorem bc_first (b n T:Nat) (w:World) (h0:w.cell? ⟨b,0,none⟩=some (.pointer none)) (hsh:w.shape? b=some (T,n)) (hn:0<n) (hfz:w.frozen? ⟨b,0,none⟩=false)
    (hl:liesAt Tryz.prog Tryz.prog.depth T (n / Tryz.prog.cellsOf T) 0 56 1=true):
    Calls Tryz.prog 143 #[.pointer (some ⟨b,0,none⟩)] w fun e w'=>e=.returned (.tuple #[])∧w'=w.setCell ⟨b,0,none⟩ (.pointer (some ⟨b,0,none⟩)):=by
  obtain ⟨j,hj,hjs⟩:=Option.map_eq_some_iff.1 (show (Tryz.prog.info? 56).map (·.size)=some 2 by kernel_rfl)
  go_enter Tryz.func143,Tryz.ntmps143
  go_wp2
  rw [Lib.run_to_unsafe w ⟨b,0,none⟩ Tryz.underlying54 Tryz.underlying218 hj (by rw [hjs];decide) hsh hn]
  simp only [Result.andThen]
  rw [Oper.upon_value]
  go_wp2
  rw [run_callFunc_extern Tryz.func186 (by kernel_rfl) (by kernel_rfl) (by kernel_rfl) (e:=Extern.AbiNoEscape.same) (by kernel_rfl)]
  rw [Lib.run_noEscape]
  simp only [Result.andThen]
  rw [Oper.upon_value]
  go_wp2
  rw [Lib.run_from_unsafe w ⟨b,0,none⟩ Tryz.underlying218 Tryz.underlying54 hj hsh hl]
  simp only [Result.andThen]
  rw [Oper.upon_value]
  go_wp2
  go_end0
  exact ⟨rfl,rfl⟩
set_option maxHeartbeats 1000000 in
set_option maxRecDepth 100000 in
theorem bc_again (b o:Nat) (w:World) (h0:w.cell? ⟨b,o,none⟩=some (.pointer (some ⟨b,o,none⟩))):
    Calls Tryz.prog 143 #[.pointer (some ⟨b,o,none⟩)] w fun e w'=>e=.returned (.tuple #[])∧w'=w:=by
  obtain ⟨j,hj,hjs⟩:=Option.map_eq_some_iff.1 (show (Tryz.prog.info? 56).map (·.size)=some 2 by kernel_rfl)
  go_enter Tryz.func143,Tryz.ntmps143
  go_wp2
  rw [Lib.run_neq_ptr_same w _ Tryz.underlying54 hj]
  go_wp2
  go_end0
  exact ⟨rfl,rfl⟩
namespace Am
theorem yoz {T L id m:Nat} {cs:List V} {H:Hp} (hL:L=cs.length+1) (hg:H.get id=some (.cells (.pz T L id L::cs) m))
    (hl:liesAt Tryz.prog Tryz.prog.depth T (L / Tryz.prog.cellsOf T) 0 56 1=true):
    AC Tryz.prog 143 [.p (some (id,0,L))] H (fun v H'=>v=.tup []∧H'=H.upd id (.cells (.p (some (id,0,L))::cs) L)):=by
  subst hL
  refine ⟨by kernel_rfl,fun κ args S r=>?_⟩
  obtain ⟨c,rfl,rc⟩:=r.one'
  have hm:=S.le id _ m hg
  obtain ⟨⟨arr,t,fr,p1,p2,p3,p4⟩,p5⟩:=S.cells id _ m hg (cs.length+1) hm (by simp)
  cases rc with
  | p _ _ _ ok=>
  have h0:=p3 0 _ (by omega) rfl
  generalize hc:arr.getD ((κ.pl id (cs.length+1)).2+0) undef=c0 at h0
  cases h0 with
  | pz _ _ _ _ o hn hz=>
  have hv:VR κ (.p (some (id,0,cs.length+1))) (.pointer (some ⟨(κ.pl id (cs.length+1)).1,(κ.pl id (cs.length+1)).2+0,none⟩)):=.p id 0 (cs.length+1) ok
  obtain ⟨S',le,hcell,hfz⟩:=S.set hg (off:=0) (by simp) hv
  simp only [List.length_cons] at S' le hcell hfz
  rw [hz] at hc hfz hcell S' le hv p2
  rw [hz]
  simp only [y5c,p1] at hn
  injection hn with hn
  injection hn with hn1 hn2
  subst hn2
  have hcl:=ybw p1 (j:=0) (by omega)
  have key:=bc_first (κ.pl id (cs.length+1)).1 (cs.length+1) t κ.w (by rw [hcl];simpa using hc) (by simp [World.shape?,p1,hn1]) (by omega) (by simpa using hfz) hl
  refine key.mono fun e w' ⟨he,hw⟩=>?_
  subst hw
  exact ⟨_,.tup [],.tuple #[],_,he,rfl,by simpa using le,by simpa using S',VR.tup [] [] rfl (fun j v h=>by simp at h),rfl,by simp⟩
theorem yp0 {L id m:Nat} {cs:List V} {H:Hp} (hL:L=cs.length+1) (hg:H.get id=some (.cells (.p (some (id,0,L))::cs) m)):
    AC Tryz.prog 143 [.p (some (id,0,L))] H (fun v H'=>v=.tup []∧H'=H):=by
  subst hL
  refine ⟨by kernel_rfl,fun κ args S r=>?_⟩
  obtain ⟨c,rfl,rc⟩:=r.one'
  have hm:=S.le id _ m hg
  obtain ⟨⟨arr,t,fr,p1,p2,p3,p4⟩,p5⟩:=S.cells id _ m hg (cs.length+1) hm (by simp)
  cases rc with
  | p _ _ _ ok=>
  have h0:=p3 0 _ (by omega) rfl
  have hcl:=ybw p1 (j:=(κ.pl id (cs.length+1)).2+0) (by omega)
  generalize hc:arr.getD ((κ.pl id (cs.length+1)).2+0) undef=c0 at h0 hcl
  cases h0 with
  | p _ _ _ _=>
  refine (bc_again _ _ κ.w hcl).mono fun e w' ⟨he,hw⟩=>?_
  subst hw
  exact ⟨κ,.tup [],.tuple #[],H,he,rfl,.refl κ,S,VR.tup [] [] rfl (fun j v h=>by simp at h),rfl,rfl⟩
end Am
variable {P:Program} {ρ:Ren}
set_option maxHeartbeats 2000000 in
set_option maxRecDepth 100000 in
theorem yrg (L:Lays.n169 P ρ) (X:Builder.Extra P ρ) (b o g cap cells:Nat) (l:List UInt8) (w:World) (h0:l≠[]) (hc1:w.cell? ⟨b,o+1,none⟩=some (.slice (some ⟨g,0,none⟩) l.length cap)) (hcap:l.length≤cap) (hmax:cap≤9223372036854775807)
    (hsh:w.shape? g=some (ρ.t 5,cells)) (hcl:l.length≤cells) (hb:∀(j:Nat) x,l[j]?=some x→w.cell? ⟨g,j,none⟩=some (.int .u8 x.toNat)):
    Calls P (ρ.f 169) #[.pointer (some ⟨b,o,none⟩)] w fun e w'=>e=.returned (.string ⟨l.toArray⟩)∧w'=w.drew.freeze ⟨g,0,none⟩ l.length:=by
  have hl0:l.length≠0:=by simpa using h0
  have c1:w.drew.cell? ⟨b,o+1,none⟩=some (.slice (some ⟨g,0,none⟩) l.length cap):=hc1
  have hSD:(Builtin.unsafeSliceData_ #[(ρ.t 37)] (ρ.t 127) #[.slice (some ⟨g,0,none⟩) l.length cap]).run P w.drew=.ok (.pointer (some ⟨g,0,none⟩)) w.drew:=
    Lib.run_unsafeSliceData_row _ _ _ _ _ _ (by omega)
  have hUS:(Builtin.unsafeString_ #[(ρ.t 127),(ρ.t 3)] (ρ.t 9) #[.pointer (some ⟨g,0,none⟩),.int .i64 l.length]).run P w.drew=.ok (.string ⟨l.toArray⟩) (w.drew.freeze ⟨g,0,none⟩ l.length):=by
    refine Lib.run_unsafeString_row w.drew (ρ.t 127) (ρ.t 3) (ρ.t 9) (ρ.t 5) L.t127 X.cellsByte g cells hsh l h0 hcl (by omega) ?_
    intro j x hx
    have:=hb j x hx
    have e:((⟨g,0,none⟩:Addr).add j)=⟨g,j,none⟩:=by cases j <;> simp [Addr.add]
    rw [e];exact this
  have mixed:=L.mixed
  have t72:=L.t72;have a72:=L.a72;have z72:=L.z72;have v72:=L.v72;have u72:=run_underlying L.t72
  have t70:=L.t70;have a70:=L.a70;have z70:=L.z70;have v70:=L.v70;have u70:=run_underlying L.t70
  have t37:=L.t37;have a37:=L.a37;have z37:=L.z37;have v37:=L.v37;have u37:=run_underlying L.t37
  have t127:=L.t127;have a127:=L.a127;have z127:=L.z127;have v127:=L.v127;have u127:=run_underlying L.t127
  have t3:=L.t3;have a3:=L.a3;have z3:=L.z3;have v3:=L.v3;have u3:=run_underlying L.t3
  have t9:=L.t9;have a9:=L.a9;have z9:=L.z9;have v9:=L.v9;have u9:=run_underlying L.t9
  have t5:=X.t5;have a5:=X.a5;have z5:=X.z5;have v5:=X.v5;have u5:=run_underlying X.t5
  go_enter L.f169,Body.n169_ntmps ρ
  go_wp2
  go_region_o
  all_goals (go_wp2;go_ret;exact ⟨rfl,rfl⟩)
end Go.Proofs.YthmkcebbeehbeaaGreatDoor
namespace Go.Proofs.YthmkcebbeehbeaaGreatDoor.Am
open Go Go.RowKit Go.Shelf
theorem you (w:World) (p:Addr) (n k:Nat) (h:k≠p.block):(w.freeze p n).heap[k]?=w.heap[k]?:=by
  unfold World.freeze
  split
  · rfl
  · simp [Array.getElem?_modify,Ne.symm h]
theorem yn6 (w:World) (p:Addr) (n k:Nat):y5c (w.freeze p n) k=y5c w k:=by
  unfold World.freeze
  split
  · rfl
  · simp only [y5c,Array.getElem?_modify]
    by_cases h:p.block=k
    · rw [if_pos h]
      cases hh:w.heap[k]? with
      | none=>rfl
      | some o=>cases o <;> rfl
    · rw [if_neg h]
theorem yot (w:World) (p:Addr) (n:Nat):(w.freeze p n).heap.size=w.heap.size∧(w.freeze p n).os=w.os∧(w.freeze p n).tape=w.tape∧(w.freeze p n).output=w.output:=by
  unfold World.freeze
  split <;> simp
theorem wo_sub {H:Hp} (S:Nat→Prop):(H.wo S).Sub H:=⟨fun id=>by
  by_cases e:S id
  · left;simp [Hp.wo,e]
  · right;simp [Hp.wo,e],Nat.le_refl _⟩
theorem yt2 {L id m g mg:Nat} {a:V} {cs:List V} {bs:List UInt8} {H:Hp} (hL:L=cs.length+2) (h0:bs≠[]) (hg:H.get id=some (.cells (a::.st 5 (some (g,0,bs.length)) bs.length 1::cs) m))
    (hb:H.get g=some (.cells (bs.map fun x=>V.i .u8 x.toNat) mg)):
    AC Tryz.prog 80 [.p (some (id,0,L))] H (fun v H'=>v=.s bs∧H'=H.wo (fun k=>k=g)):=by
  subst hL
  refine ⟨by kernel_rfl,fun κ args S r=>?_⟩
  obtain ⟨c,rfl,rc⟩:=r.one'
  have hm:=S.le id _ m hg
  have hmg:=S.le g _ mg hb
  obtain ⟨⟨arr,t,fr,p1,p2,p3,p4⟩,p5⟩:=S.cells id _ m hg (cs.length+2) hm (by simp)
  obtain ⟨⟨brr,bt,bf,q1,q2,q3,q4⟩,q5⟩:=S.cells g _ mg hb bs.length (by simpa using hmg) (by simp)
  cases rc with
  | p _ _ _ ok=>
  have hv:=p3 1 _ (by omega) rfl
  have hcl:=ybw p1 (j:=(κ.pl id (cs.length+2)).2+1) (by omega)
  generalize hc:arr.getD ((κ.pl id (cs.length+2)).2+1) undef=c0 at hv hcl
  cases hv with
  | st _ _ _ _ _ hsl hst=>
  obtain ⟨n,g1,g2⟩:=hst
  have hlen:0<bs.length:=List.length_pos_iff.2 h0
  cases hsl with
  | sl _ _ _ _ _ cap nn ad ok2 hz hlc hlo hhi hnc hroom ha=>
  obtain rfl:=ha (by omega)
  rw [g2] at hcl q2 q3
  simp only [y5c,q1] at g1
  injection g1 with g1
  injection g1 with g1 g3
  subst g3
  have hby:∀(j:Nat) x,bs[j]?=some x→κ.w.cell? ⟨(κ.pl g bs.length).1,j,none⟩=some (.int .u8 x.toNat):=fun j x hj=>by
    have hjl:=(List.getElem?_eq_some_iff.1 hj).1
    have h1:=q3 j (.i .u8 x.toNat) hjl (by simp [hj])
    rw [ybw q1 (by omega)]
    rw [Nat.zero_add] at h1
    generalize brr.getD j undef=u at h1
    cases h1;rfl
  have key:=yrg Tryz.lays169 Tryz.Builder_Extra_169 (κ.pl id (cs.length+2)).1 ((κ.pl id (cs.length+2)).2+0) (κ.pl g bs.length).1 cap brr.size bs κ.w h0 (by simpa using hcl) hlc.1 hlc.2 (by simp [World.shape?,q1];rfl) (by omega) hby
  refine key.mono fun e w' ⟨he,hw⟩=>?_
  subst hw
  obtain ⟨r1,r2,r3,r4⟩:=yot κ.w.drew ⟨(κ.pl g bs.length).1,0,none⟩ bs.length
  obtain ⟨le,S2⟩:=Sim.other ((S.drew).weak (wo_sub (fun k=>k=g))) (b:=(κ.pl g bs.length).1) (w':=κ.w.drew.freeze ⟨(κ.pl g bs.length).1,0,none⟩ bs.length) q1 (fun k hk _=>you _ _ _ k hk) (fun k n h=>by rw [yn6];exact h) (by rw [r1];exact Nat.le_refl _) r2 r3 r4 q5
    (fun k cs' m' e hg' h1 h2 hp=>by
      simp only [Hp.wo] at hg'
      split at hg'
      · cases hg'
      · rename_i hne
        exact hne (S.sep k g e bs.length cs' m' _ mg hg' hb h1 h2 (by simpa using hmg) (by simp) hp))
  exact ⟨_,.s bs,.string ⟨bs.toArray⟩,_,he,rfl,κ.drew_le.trans le,S2,.s bs,rfl,rfl⟩
end Go.Proofs.YthmkcebbeehbeaaGreatDoor.Am
