/- Part 36 of the proof of the laws of the queries: CodeC, RdA, RdB, RdC, RdX. -/
import Derived.Test.YthmkcebbeehbeaaGreatDoorXBw17
import Derived.Test.YthmkcebbeehbeaaGreatDoorXBw19
import Derived.Test.YthmkcebbeehbeaaGreatDoorXBw30
import Derived.Test.YthmkcebbeehbeaaGreatDoorXBw34
set_option linter.unusedSimpArgs false
set_option linter.unusedVariables false
namespace Go.Proofs.YthmkcebbeehbeaaGreatDoor
open Am Go.Proofs
set_option maxRecDepth 100000
namespace C
def y37.r0:jI:=[ap 0]
def y37.r1:jI:=[⟨some 6,none,.op (.build [.s [],.fs [],.fs [],.fs [],.fs [],.fs [],.fs []] [(0,1,.c (.s [97]))])⟩,⟨some 7,none,.call y7j [.t 6]⟩,ab 5 7,aj 8 0 5,aj 9 1 5,ab 1 8,ab 2 9]
def y37.r2:jI:=[ab 11 1,⟨some 12,none,.call y8r [.t 11]⟩,ab 10 12,aj 13 0 10,aj 14 1 10,a2i 3 0 0 0 0 0 0 0 0 0 0 0 0,ar 7 3 13,ab 4 14]
def y37.r3:jI:=[ab 15 2,a18 16 15 0,ab 17 16,am 18 17 4,a1q 19 17 18 0,aq 20 17 19,ab 21 20,am 22 21 1,a1u 23 21 22,a1q 24 21 23 20,aq 25 21 24,ab 26 25,am 27 26 1,⟨some 28,(some (26,true)),.op (.sls (.t 27) none (some (.c (.i .i64 9))))⟩,⟨some 29,(some (26,true)),.op (.bin .eql (.t 28) (.c (.s [119,101,102,116,1,1,0,1,97])))⟩,aq 30 26 29,ab 31 30,a16 32 31 0 3,a15 33 31 1 32,⟨some 34,(some (31,true)),.op (.bin .eql (.t 33) (.c (.s [97])))⟩,aq 35 31 34,ab 0 35]
def y37:AFunc:=⟨36,[.t 0],jJ [] y37.r0 (jJ [1,2] y37.r1 (jJ [1,2,3,4] y37.r2 (jJ [0] y37.r3 (.ret))))⟩
theorem y37.ok:y1x Tryz.prog Tryz.f10 y37=true:=by kernel_rfl
theorem y37.at:Tryz.prog.funcs[yay]?=some Tryz.f10:=Tryz.func10
def ya.r0:jI:=[a1a 3 0,a1a 4 1,ap 6]
def ya.r1:jI:=[⟨some 17,none,.call yay []⟩,a1d 18 17]
def ya.r2:jI:=[ap 6]
def ya.r3:jI:=[a14 19 7 3,⟨some 20,none,.call y9a [.t 19]⟩,ab 21 20,a2c 22 21 7 4,⟨some 23,(some (21,false)),.call y9a [.t 22]⟩,az 24 21 23,ab 25 24,a19 26 25 2,a1t 27 25 26,a1i 28 25 27 8000,az 29 25 28]
def ya.r4:jI:=[a1g 6]
def ya.r5:jI:=[a14 31 7 3,⟨some 32,none,.call y7j [.t 31]⟩,ab 30 32,aj 33 0 30,aj 34 1 30,ab 7 33,ab 8 34]
def ya.r6:jI:=[a14 36 7 4,⟨some 37,none,.call y7j [.t 36]⟩,ab 35 37,aj 38 0 35,aj 39 1 35,ab 9 38,ab 10 39]
def ya.r7:jI:=[ab 40 8,a18 41 40 0]
def ya.r8:jI:=[ab 43 7,⟨some 44,none,.call y8r [.t 43]⟩,ab 42 44,aj 45 0 42,aj 46 1 42,a2i 11 0 0 0 0 0 0 0 0 0 0 0 0,ar 7 11 45,ab 12 46]
def ya.r9:jI:=[ab 47 12,a1c 48 47 0,ab 49 48,a2c 50 49 7 11,a2c 51 49 7 3,⟨some 52,(some (49,false)),.call y8l [.t 50,.t 51]⟩,a1z 53 49 52,az 54 49 53]
def ya.r10:jI:=[ap 6]
def ya.r11:jI:=[ab 55 8,a18 56 55 0,ab 57 56,am 58 57 10,a1q 59 57 58 0,aq 60 57 59,ab 61 60,am 62 61 7,am 63 61 9,a2n 64 61 62 63,a1h 65 61 7 3,a1h 66 61 7 4,⟨some 67,(some (61,true)),.call y8l [.t 65,.t 66]⟩,⟨some 68,(some (61,true)),.op (.eqk .bool true (.t 64) (.t 67))⟩,aq 69 61 68]
def ya.r12:jI:=[ap 6]
def ya.r13:jI:=[ab 71 2,⟨some 72,none,.call y8r [.t 71]⟩,ab 70 72,aj 73 0 70,aj 74 1 70,a2i 13 0 0 0 0 0 0 0 0 0 0 0 0,ar 7 13 73,ab 14 74]
def ya.r14:jI:=[ab 75 14,a1c 76 75 0]
def ya.r15:jI:=[a14 77 7 13,⟨some 78,none,.op (.build [.s [],.fs [],.fs [],.fs [],.fs [],.fs [],.fs []] [])⟩,⟨some 79,none,.call y8l [.t 77,.t 78]⟩,ab 6 79]
def ya.r16:jI:=[a14 81 7 13,⟨some 82,none,.call y7j [.t 81]⟩,ab 80 82,aj 83 0 80,aj 84 1 80,ab 15 83,ab 16 84]
def ya.r17:jI:=[ab 85 16,a18 86 85 0,ab 87 86,am 88 87 15,am 89 87 2,a2n 90 87 88 89,aq 91 87 90,ab 92 91,a1h 93 92 7 13,⟨some 94,(some (92,true)),.call yat [.t 93]⟩,a1q 95 92 94 0,aq 96 92 95,ab 6 96]
def ya:AFunc:=⟨97,[.t 6],jJ [2,3,4] ya.r0 (.seq (jJ [2,3,4,18] ya.r1 (.post [2,3,4] (.cond (.t 18) (jJ [6] ya.r2 (.ret)) (.skip)))) (.seq (jJ [2,3,4,29] ya.r3 (.post [2,3,4] (.cond (.t 29) (jJ [6] ya.r4 (.ret)) (.skip)))) (jJ [2,3,4,7,8] ya.r5 (jJ [2,3,4,7,8,9,10] ya.r6 (.seq (jJ [2,3,4,7,8,9,10,41] ya.r7 (.post [2,3,4,7,8,9,10] (.cond (.t 41) (jJ [2,3,4,7,8,9,10,11,12] ya.r8 (jJ [2,3,4,7,8,9,10,54] ya.r9 (.post [2,3,4,7,8,9,10] (.cond (.t 54) (jJ [6] ya.r10 (.ret)) (.skip))))) (.skip)))) (.seq (jJ [2,69] ya.r11 (.post [2] (.cond (.t 69) (jJ [6] ya.r12 (.ret)) (.skip)))) (jJ [2,13,14] ya.r13 (.seq (jJ [2,13,76] ya.r14 (.post [2,13] (.cond (.t 76) (jJ [6] ya.r15 (.ret)) (.skip)))) (jJ [2,13,15,16] ya.r16 (jJ [6] ya.r17 (.ret)))))))))))⟩
theorem ya.ok:y1x Tryz.prog Tryz.f4 ya=true:=by kernel_rfl
theorem ya.at:Tryz.prog.funcs[y8h]?=some Tryz.f4:=Tryz.func4
end C
open C
theorem u8_and (c:UInt8):ypr .u8 (c.toNat:Int) 127=((c.toNat % 128:Nat):Int)∧(ypr .u8 (c.toNat:Int) 128≠0↔128≤c.toNat):=by
  have key:∀n:Fin 256,ypr .u8 ((n.val:Nat):Int) 127=((n.val % 128:Nat):Int)∧(ypr .u8 ((n.val:Nat):Int) 128≠0↔128≤n.val):=by decide +kernel
  exact key ⟨c.toNat,c.toNat_lt⟩
theorem sh7 {d i:Nat} (hd:d<128) (hi:i≤4):Go.IntKind.i64.wrap ((d:Int)*2 ^ (min (Go.IntKind.i64.wrap (7*(i:Int))).toNat 64))=((d*128 ^ i:Nat):Int)∧0≤Go.IntKind.i64.wrap (7*(i:Int)):=by
  have h7:Go.IntKind.i64.wrap (7*(i:Int))=((7*i:Nat):Int):=by rw [y3g (by omega) (by omega)];omega
  rw [h7]
  match i,hi with
  | 0,_=>exact ⟨by rw [y3g (by simp <;> omega) (by simp <;> omega)];simp,by omega⟩
  | 1,_=>exact ⟨by rw [y3g (by simp <;> omega) (by simp <;> omega)];simp,by omega⟩
  | 2,_=>exact ⟨by rw [y3g (by simp <;> omega) (by simp <;> omega)];simp,by omega⟩
  | 3,_=>exact ⟨by rw [y3g (by simp <;> omega) (by simp <;> omega)];simp,by omega⟩
  | 4,_=>exact ⟨by rw [y3g (by simp <;> omega) (by simp <;> omega)];simp,by omega⟩
theorem pow128 {i:Nat} (hi:i≤4):128 ^ i≤268435456:=by
  match i,hi with
  | 0,_=>decide
  | 1,_=>decide
  | 2,_=>decide
  | 3,_=>decide
  | 4,_=>decide
theorem or_add {n d i:Nat} (hn:n<128 ^ i):n ||| d*128 ^ i=n+d*128 ^ i:=by
  have h:=Nat.two_pow_add_eq_or_of_lt (i:=7*i) (b:=n) (by rw [Nat.pow_mul];exact hn) d
  rw [Nat.pow_mul] at h
  rw [Nat.or_comm,Nat.mul_comm,←h,Nat.add_comm]
theorem rd_step {r:Str} {k n:Nat} {c:UInt8} {q:Str} (h:r.drop k=c::q):rdN k n (r.drop k)=if k=4∧1<c.toNat then (0,0,2) else if 128≤c.toNat then rdN (k+1) (n+c.toNat % 128*128 ^ k) (r.drop (k+1))
      else if c.toNat=0∧0<k then (0,0,3) else if 268435456<n+c.toNat % 128*128 ^ k then (0,0,2) else (n+c.toNat % 128*128 ^ k,k+1,0):=by
  have:r.drop (k+1)=q:=by rw [←List.drop_drop,h];rfl
  rw [h,this];rfl
theorem acc_lt {n k:Nat} (c:UInt8) (h:n<128 ^ k):n+c.toNat % 128*128 ^ k<128 ^ (k+1):=by
  have:c.toNat % 128*128 ^ k≤127*128 ^ k:=Nat.mul_le_mul_right _ (by omega)
  rw [Nat.pow_succ];omega
def LkInv (t:Str) (σ:Rd) (B:Str) (H:Hp) (m:Nat) (F:Fr) (X:Hp):Prop:=
  ∃i n,i≤4∧i≤B.length∧m=B.length-i∧n<128 ^ i∧rdL t σ=rdN i n ((t.drop σ.pos).drop i)∧X=H∧F=[(5,.i .i64 (n:Nat)),(28,.fs (bcl B)),(29,.i .i64 B.length),(30,.i .i64 i)]
theorem Look_ok (t:Str) (σ:Rd) (id:Nat) (hp:σ.pos≤t.length) (ht:t.length≤140737488351232) (H:Hp) {m:Nat} (hm:m≤3) (hg:H.get id=some (.cells [.s t,.i .i64 σ.pos,.i .i64 σ.e] m)):
    AC Tryz.prog y9l [.p (some (id,0,3))] H (fun v H'=>v=.tup [.i .i64 ((rdL t σ).1:Nat),.i .i64 ((rdL t σ).2.1:Nat),.i .i64 (rdL t σ).2.2]∧H'=H):=by
  refine AC.code ye.at ye.ok ?_
  simp only [ye]
  apply jA
  simp [ye.r0]
  apply jA
  simp [ye.r1]
  have hmin:min (t.length:Int) (Go.IntKind.i64.wrap ((σ.pos:Int)+5))=((min t.length (σ.pos+5):Nat):Int):=by rw [y3g (by omega) (by omega)];omega
  obtain ⟨B,hB⟩:∃B,B=(t.drop σ.pos).take 5:=⟨_,rfl⟩
  have hsl:(t.take (min t.length (σ.pos+5))).drop σ.pos=B:=by
    rw [hB]
    apply List.ext_getElem?
    intro j
    simp only [List.getElem?_drop,List.getElem?_take]
    by_cases h1:j<5
    · by_cases h2:σ.pos+j<t.length
      · rw [if_pos (by omega),if_pos h1]
      · rw [if_neg (by omega),if_pos h1,List.getElem?_eq_none (by omega)]
    · rw [if_neg (by omega),if_neg h1]
  have hBl:B.length=min 5 (t.length-σ.pos):=by rw [hB];simp
  refine AX.seq (AX.seq (AX.drw ?_))
  simp [ye.r2,hg,hm,hmin]
  rw [if_pos ⟨by omega,by omega⟩,hsl]
  simp
  refine AX.pblock (AX.loop (LkInv t σ B H) B.length ⟨_,_,.refl _ _,0,0,by omega,by omega,by omega,by simp,by simp [rdL],rfl,by simp [bcl]⟩ ?_)
  rintro m F X ⟨i,n,hi,hib,rfl,hn,hr,rfl,rfl⟩
  simp only [ye.l0]
  apply jA
  simp [ye.r3]
  refine AX.seq (AX.pcond rfl (fun hd=>AX.skip ?_) (fun hd=>AX.exit ?_))
  · simp at hd
    have hd':i<t.length-σ.pos:=by omega
    have hBi:B[i]?=(t.drop σ.pos)[i]?:=by rw [hB,List.getElem?_take,if_pos (by omega)]
    obtain ⟨q,hq⟩:∃q,(t.drop σ.pos).drop i=B[i]::q:=by
      rw [List.getElem?_eq_getElem hd] at hBi
      have h1:i<(t.drop σ.pos).length:=by rw [List.length_drop];omega
      rw [List.getElem?_eq_getElem h1] at hBi
      injection hBi with hBi
      exact ⟨_,by rw [List.drop_eq_getElem_cons h1,hBi]⟩
    have hs:=rd_step (k:=i) (n:=n) hq
    rw [←hr] at hs
    have hbc:(bcl B)[i]?=some [.i .u8 B[i].toNat]:=by simp [bcl,hd]
    generalize B[i]=c at *
    have hc:=c.toNat_lt
    simp
    apply jC
    simp [ye.r4,hbc]
    obtain ⟨s1,s2⟩:=sh7 (d:=c.toNat % 128) (i:=i) (by omega) hi
    obtain ⟨a1,a2⟩:=u8_and c
    have hp4:=pow128 hi
    have hadd:=acc_lt c hn
    have hp5:128 ^ (i+1)≤34359738368:=by rw [Nat.pow_succ];omega
    have hor:bOr .i64 (n:Int) ((c.toNat % 128*128 ^ i:Nat):Int)=((n+c.toNat % 128*128 ^ i:Nat):Int):=by
      rw [yub (by omega) (by omega),or_add hn]
    have e0:Go.IntKind.i64.wrap ((c.toNat:Int) % 128)=(c.toNat:Int) % 128:=y3g (by omega) (by omega)
    rw [show ((c.toNat % 128:Nat):Int)=(c.toNat:Int) % 128 by omega] at s1 a1
    have s3:¬Go.IntKind.i64.wrap (7*(i:Int))<0:=by omega
    obtain ⟨N2,hN2⟩:∃N2,N2=n+c.toNat % 128*128 ^ i:=⟨_,rfl⟩
    rw [←hN2] at hs hadd hor
    generalize c.toNat % 128*128 ^ i=D at *
    refine AX.seq (AX.test (decide (i=4)&&decide (1<c.toNat)) [(5,.i .i64 (n:Nat)),(6,.i .i64 i),(7,.i .u8 c.toNat),(28,.fs (bcl B)),(29,.i .i64 B.length),(30,.i .i64 i),(40,.b (decide (i=4)&&decide (1<c.toNat)))] ?_ rfl (fun h1=>?_) (fun h1=>AX.skip ?_))
    · by_cases h4:i=4
      · simp [ye.r5,h4]
      · simp [ye.r5,h4]
    · simp at h1
      rw [if_pos h1] at hs
      apply jA
      simp [ye.r6]
      apply jD
      simp [hs]
    simp at h1
    rw [if_neg (fun h=>by have:=h1 h.1;omega)] at hs
    simp
    apply jA
    simp [ye.r7,a1,e0,s1,s3,hor]
    refine AX.pblock (jA ?_)
    simp [ye.r8]
    by_cases h2:128≤c.toNat
    · rw [if_pos h2] at hs
      refine jG (by simpa using a2.2 h2) (AX.skip ?_)
      simp
      apply jE
      simp [ye.r14,y5n (show i≤9223372036854775000 by omega)]
      refine ⟨B.length-(i+1),by omega,_,_,.refl _ _,i+1,N2,?_,by omega,rfl,hadd,hs,rfl,by simp⟩
      have:i≠4:=fun h=>by have:=h1 h;omega
      omega
    rw [if_neg h2] at hs
    refine jF (by simpa using fun h=>h2 (a2.1 h)) ?_
    refine AX.test (decide (c.toNat=0)&&decide (0<i)) [(5,.i .i64 (N2:Nat)),(6,.i .i64 i),(56,.b (decide (c.toNat=0)&&decide (0<i)))] ?_ rfl (fun h3=>?_) (fun h3=>?_)
    · by_cases h4:c.toNat=0
      · simp [ye.r9,h4]
      · simp [ye.r9,h4]
    · simp at h3
      rw [if_pos h3] at hs
      apply jA
      simp [ye.r10]
      apply jD
      simp [hs]
    simp at h3
    rw [if_neg (fun h=>by have:=h3 h.1;omega)] at hs
    apply jA
    simp [ye.r11]
    by_cases h5:268435456<N2
    · rw [if_pos h5] at hs
      refine jG (by simp [h5]) ?_
      apply jA
      simp [ye.r12]
      apply jD
      simp [hs]
    · rw [if_neg h5] at hs
      refine jF (by simp [h5]) ?_
      apply jA
      simp [ye.r13,y5n (show i≤9223372036854775000 by omega)]
      apply jD
      simp [hs]
  · simp at hd
    have hnil:(t.drop σ.pos).drop i=[]:=by rw [List.drop_drop];exact List.drop_of_length_le (by omega)
    rw [hnil] at hr
    simp
    apply jA
    simp [ye.r15]
    apply jD
    simp [hr,rdN]
def rdc (t:Str) (σ:Rd):List V:=[.s t,.i .i64 σ.pos,.i .i64 σ.e]
def ybx (rest:Nat→Nat) (t:Str) (σ:Rd):Nat × Str × Rd:=
  if σ.e≠0 then (0,[],σ) else if (rdL t σ).2.2≠0 then (0,[],{ σ with e:=(rdL t σ).2.2 })
  else if t.length<σ.pos+(rdL t σ).2.1+rest (rdL t σ).1 then (0,[],{ σ with e:=1 })
  else ((rdL t σ).1,(t.drop (σ.pos+(rdL t σ).2.1)).take (rest (rdL t σ).1),{ σ with pos:=σ.pos+(rdL t σ).2.1+rest (rdL t σ).1 })
section
variable {t:Str} {σ:Rd} {id:Nat} {H:Hp}
theorem yun (rest:Nat→Nat) (f:Go.FuncId) (hrest:∀(n:Nat) X,AC Tryz.prog f [.i .i64 (n:Nat)] X (fun v X'=>v=.i .i64 (rest n:Nat)∧X'=X)) (hrl:∀n,rest n≤n) (ho:y8e t σ) (ht:t.length≤140737488351232) (hg:H.get id=some (.cells (rdc t σ) 3)):
    AC Tryz.prog y7y [.p (some (id,0,3)),.fn f []] H (fun v H'=>v=.tup [.i .i64 ((ybx rest t σ).1:Nat),.s (ybx rest t σ).2.1]∧H'=H.upd id (.cells (rdc t (ybx rest t σ).2.2) 3)):=by
  obtain ⟨hp,he0,he1,he6⟩:=ho
  have hL:=ygs t σ hp
  have hlook:=Look_ok t σ id hp ht H (by omega) hg
  unfold rdc at hg
  refine AC.code yv.at yv.ok ?_
  simp only [yv]
  apply jA
  simp [yv.r0]
  apply jB
  simp [yv.r1,hg]
  by_cases he:σ.e=0
  · refine jF (by simp [he]) (AX.skip ?_)
    simp
    apply jA
    simp [yv.r3]
    refine AC.fix hlook ?_
    have hr:=hrl (rdL t σ).1
    have hT:ybx rest t σ=if (rdL t σ).2.2≠0 then (0,[],{ σ with e:=(rdL t σ).2.2 })
      else if t.length<σ.pos+(rdL t σ).2.1+rest (rdL t σ).1 then (0,[],{ σ with e:=1 })
      else ((rdL t σ).1,(t.drop (σ.pos+(rdL t σ).2.1)).take (rest (rdL t σ).1),{ σ with pos:=σ.pos+(rdL t σ).2.1+rest (rdL t σ).1 }):=by
      unfold ybx;rw [if_neg (by simp [he])]
    generalize (rdL t σ).1=n at *
    generalize (rdL t σ).2.1=k at *
    generalize (rdL t σ).2.2=e at *
    have hs1:Go.IntKind.i64.wrap (Go.IntKind.i64.wrap ((t.length:Int)-σ.pos)-k)=((t.length-σ.pos-k:Nat):Int):=by
      rw [y3g (n:=(t.length:Int)-σ.pos) (by omega) (by omega),y3g (by omega) (by omega)];omega
    simp
    refine AX.seq (AX.testD (decide (e=0)&&decide (t.length-σ.pos-k<rest n)) [(0,.p (some (id,0,3))),(1,.fn f []),(6,.i .i64 (n:Nat)),(7,.i .i64 (k:Nat)),(8,.i .i64 e),(40,.b (decide (e=0)&&decide (t.length-σ.pos-k<rest n)))] ?_ rfl (fun h1=>?_) (fun h1=>AX.skip ?_))
    · by_cases h1:e=0
      · simp [yv.r4,h1]
        refine y4y _ (fun H2=>hrest n H2) ?_
        simp [hg,hs1]
      · simp [yv.r4,h1]
    · simp at h1
      obtain ⟨rfl,h1⟩:=h1
      apply jE
      simp [yv.r5]
      apply jB
      simp [yv.r6]
      refine jG rfl ?_
      apply jA
      simp [yv.r7,hg]
      apply jA
      simp [yv.r8]
      apply jD
      have hT2:ybx rest t σ=(0,[],{ σ with e:=1 }):=by rw [hT,if_neg (show ¬((0:Int)≠0) by simp),if_pos (by omega)]
      simp [rdc,hT2]
    simp at h1
    simp
    apply jB
    simp [yv.r6]
    by_cases h2:e=0
    · subst h2
      have h3:=h1 rfl
      refine jF (by simp) (AX.skip ?_)
      have hpk:Go.IntKind.i64.wrap ((σ.pos:Int)+k)=((σ.pos+k:Nat):Int):=by rw [y3g (by omega) (by omega)];omega
      have hpr:Go.IntKind.i64.wrap (((σ.pos+k:Nat):Int)+(rest n:Nat))=((σ.pos+k+rest n:Nat):Int):=by rw [y3g (by omega) (by omega)];omega
      have hT2:=hT
      rw [if_neg (show ¬((0:Int)≠0) by simp),if_neg (by omega)] at hT2
      rw [hT2]
      obtain ⟨p,hp'⟩:∃p,p=σ.pos+k:=⟨_,rfl⟩
      rw [←hp'] at hpk hpr ⊢
      obtain ⟨p2,hp2⟩:∃p2,p2=p+rest n:=⟨_,rfl⟩
      rw [←hp2] at hpr ⊢
      have hsl:(t.take p2).drop p=(t.drop p).take (rest n):=by
        rw [hp2,List.take_add,List.drop_append_of_le_length (by simp;omega),List.drop_eq_nil_of_le (by simp;omega)];rfl
      simp
      apply jA
      simp [yv.r9,hg,hpk]
      apply jA
      simp [yv.r10]
      refine AC.fix (hrest n _) ?_
      simp [hpr,hg]
      refine AX.seq (AX.drw ?_)
      simp [yv.r11,show p≤p2∧p2≤t.length by omega,hsl]
      apply jD
      simp [rdc]
    · refine jG (by simp [h2]) ?_
      have hT2:ybx rest t σ=(0,[],{ σ with e:=e }):=by rw [hT,if_pos h2]
      rw [hT2]
      apply jA
      simp [yv.r7,hg]
      apply jA
      simp [yv.r8]
      apply jD
      simp [rdc]
  · refine jG (by simp [he]) ?_
    apply jA
    simp [yv.r2]
    apply jD
    have hT:ybx rest t σ=(0,[],σ):=by unfold ybx;rw [if_pos he]
    simp [hT,rdc]
    exact (Hp.upd_self hg).symm
end
section
variable {t:Str} {σ:Rd} {id:Nat} {H:Hp}
theorem Zero_ok (n:Nat) (X:Hp):AC Tryz.prog y89 [.i .i64 (n:Nat)] X (fun v X'=>v=.i .i64 ((0:Nat):Int)∧X'=X):=by
  refine AC.code y3d.at y3d.ok ?_
  simp only [y3d]
  apply jA
  simp [y3d.r0]
  apply jA
  simp [y3d.r1]
  apply jD
  simp
theorem Self_ok (n:Nat) (X:Hp):AC Tryz.prog y8v [.i .i64 (n:Nat)] X (fun v X'=>v=.i .i64 (n:Nat)∧X'=X):=by
  refine AC.code y3k.at y3k.ok ?_
  simp only [y3k]
  apply jA
  simp [y3k.r0]
  apply jA
  simp [y3k.r1]
  apply jD
  simp
theorem take_num (t:Str) (σ:Rd) (ho:y8e t σ):(ybx (fun _=>0) t σ).1=(y41 t σ).1∧(ybx (fun _=>0) t σ).2.2=(y41 t σ).2:=by
  have:=ygs t σ ho.1
  unfold ybx y41
  split
  · simp
  · split
    · simp
    · have h0:¬t.length<σ.pos+(rdL t σ).2.1+0:=by omega
      rw [if_neg h0];simp
theorem take_txt (t:Str) (σ:Rd):(ybx (fun n=>n) t σ).2.1=(y8t t σ).1∧(ybx (fun n=>n) t σ).2.2=(y8t t σ).2:=by
  unfold ybx y8t
  split
  · simp
  · split
    · simp
    · split <;> simp
theorem y97 (ho:y8e t σ) (ht:t.length≤140737488351232) (hg:H.get id=some (.cells (rdc t σ) 3)):
    AC Tryz.prog y3f [.p (some (id,0,3))] H (fun v H'=>v=.i .i64 ((y41 t σ).1:Nat)∧H'=H.upd id (.cells (rdc t (y41 t σ).2) 3)):=by
  refine AC.code y36.at y36.ok ?_
  simp only [y36]
  apply jA
  simp [y36.r0]
  apply jA
  simp [y36.r1]
  refine AC.fix (yun (fun _=>0) y89 Zero_ok (fun n=>Nat.zero_le _) ho ht hg) ?_
  obtain ⟨h1,h2⟩:=take_num t σ ho
  rw [h1,h2]
  simp
  apply jA
  simp [y36.r2]
  apply jD
  simp
theorem ymx (ho:y8e t σ) (ht:t.length≤140737488351232) (hg:H.get id=some (.cells (rdc t σ) 3)):
    AC Tryz.prog y7z [.p (some (id,0,3))] H (fun v H'=>v=.s (y8t t σ).1∧H'=H.upd id (.cells (rdc t (y8t t σ).2) 3)):=by
  refine AC.code y3b.at y3b.ok ?_
  simp only [y3b]
  apply jA
  simp [y3b.r0]
  apply jA
  simp [y3b.r1]
  refine AC.fix (yun (fun n=>n) y8v Self_ok (fun n=>Nat.le_refl _) ho ht hg) ?_
  obtain ⟨h1,h2⟩:=take_txt t σ
  rw [h1,h2]
  simp
  apply jA
  simp [y3b.r2]
  apply jD
  simp
theorem yqq {f:Go.FuncId} {fn:Go.Func} (hf:Tryz.prog.funcs[f]?=some fn) (hok:y1x Tryz.prog fn y3o=true) (hg:H.get id=some (.cells (rdc t σ) 3)) (x:Int):
    AC Tryz.prog f [.p (some (id,0,3)),.i .i64 x] H (fun v H'=>v=.tup []∧H'=H.upd id (.cells (rdc t (y6r σ x)) 3)):=by
  unfold rdc at hg
  refine AC.code hf hok ?_
  simp only [y3o]
  apply jA
  simp [y3o.r0,hg]
  by_cases he:σ.e=0
  · refine jG (by simp [he]) (AX.reg ?_)
    simp [y3o.r1,hg,y6r,he,rdc]
  · refine jF (by simp [he]) (AX.skip ?_)
    simp [y6r,he,rdc]
    exact (Hp.upd_self hg).symm
theorem yet (hg:H.get id=some (.cells (rdc t σ) 3)) (x:Int):AC Tryz.prog y4g [.p (some (id,0,3)),.i .i64 x] H (fun v H'=>v=.tup []∧H'=H.upd id (.cells (rdc t (y6r σ x)) 3)):=
  yqq y3o.at y3o.ok hg x
theorem yqr {f:Go.FuncId} {fn:Go.Func} (hf:Tryz.prog.funcs[f]?=some fn) (hok:y1x Tryz.prog fn y2p=true) (hg:H.get id=some (.cells (rdc t σ) 3)):
    AC Tryz.prog f [.p (some (id,0,3))] H (fun v H'=>v=.tup [.i .i64 σ.pos,.i .i64 (y8f t σ)]∧H'=H):=by
  unfold rdc at hg
  refine AC.code hf hok ?_
  simp only [y2p]
  apply jA
  simp [y2p.r0]
  refine AX.seq (AX.testD (decide (σ.e=0)&&decide (σ.pos<t.length)) [(0,.p (some (id,0,3))),(20,.b (decide (σ.e=0)&&decide (σ.pos<t.length)))] ?_ rfl (fun h1=>?_) (fun h1=>AX.skip ?_))
  · by_cases h1:σ.e=0
    · simp [y2p.r1,hg,h1]
    · simp [y2p.r1,hg,h1]
  · simp at h1
    apply jA
    simp [y2p.r2,hg]
    apply jD
    simp [y8f,h1]
  · simp at h1
    have h2:y8f t σ=σ.e:=by unfold y8f;rw [if_neg (fun h=>by have:=h1 h.1;omega)]
    simp
    refine AX.seq (AX.drw ?_)
    simp [y2p.r3,hg]
    apply jD
    simp [h2]
theorem ygd (hg:H.get id=some (.cells (rdc t σ) 3)):AC Tryz.prog y5j [.p (some (id,0,3))] H (fun v H'=>v=.tup [.i .i64 σ.pos,.i .i64 (y8f t σ)]∧H'=H):=
  yqr y2p.at y2p.ok hg
theorem ypz (t:Str) (H:Hp):AC Tryz.prog yck [.s t] H (fun v H'=>v=.p (some (H.next,0,3))∧H'=H.add (.cells (rdc t ⟨0,0⟩) 3)):=by
  refine AC.code y5m.at y5m.ok ?_
  simp only [y5m]
  apply jA
  simp [y5m.r0]
  apply jA
  simp [y5m.r1]
  apply jD
  simp [rdc]
theorem ymv {f:Go.FuncId} {fn:Go.Func} (hf:Tryz.prog.funcs[f]?=some fn) (hok:y1x Tryz.prog fn y3y=true) (ho:y8e t σ) (hg:H.get id=some (.cells (rdc t σ) 3)):
    AC Tryz.prog f [.p (some (id,0,3))] H (fun v H'=>v=.i .i64 σ.e∧H'=H):=by
  refine AC.code hf hok ?_
  simp only [y3y]
  apply jA
  simp [y3y.r0]
  apply jB
  simp [y3y.r1]
  refine AC.fix (ygd hg) ?_
  simp
  apply jA
  simp [y3y.r2]
  by_cases h:y8f t σ=6
  · refine jF (by simp [h]) (AX.skip ?_)
    simp
    apply jA
    simp [y3y.r4]
    apply jD
    have:σ.e=0:=by
      unfold y8f at h
      split at h
      · rename_i h';exact h'.1
      · exact (ho.2.2.2 h).elim
    simp [this]
  · refine jG (by simp [h]) ?_
    apply jA
    simp [y3y.r3]
    apply jD
    have:y8f t σ=σ.e:=by
      unfold y8f at h ⊢
      split at h
      · exact (h rfl).elim
      · rename_i h';rw [if_neg h']
    simp [this]
theorem yj7 (ho:y8e t σ) (hg:H.get id=some (.cells (rdc t σ) 3)):AC Tryz.prog ybd [.p (some (id,0,3))] H (fun v H'=>v=.i .i64 σ.e∧H'=H):=ymv y3y.at y3y.ok ho hg
theorem yuo (ho:y8e t σ) (hg:H.get id=some (.cells (rdc t σ) 3)):AC Tryz.prog yc6 [.p (some (id,0,3))] H (fun v H'=>v=.i .i64 σ.e∧H'=H):=ymv y4d.at y4d.ok ho hg
end
section
open Go Go.RowKit
theorem Am.AC.codeU {P:Program} {f:FuncId} {fn:Func} {a:AFunc} (hf:P.funcs[f]?=some fn) (hok:y1x P fn a=true) {args:List V} {H:Hp} {r:V} {id m:Nat} {cs:List V} {b0:Blk} (hid:H.get id=some b0) (hcs:∀v∈cs,yd1 v) (hr:yd1 r)
    (h:(∀id blk,H.get id=some blk→id<H.next)→AX P a.n a.body (Ends (fun v H'=>(H.upd id (.cells cs m)).Ext H'∧Frz H' (fun id=>H.next≤id) v r) a.res) (fr0 0 args) H):AC P f args H (fun v H'=>v=r∧H'=H.upd id (.cells cs m)):=
  AC.lt (ykq hf hok) fun hl=>by
    have hi:=hl _ _ hid
    have key:AC P f args H (fun v H'=>v=r∧∃X,(H.upd id (.cells cs m)).Ext X∧H'=X.wo fun id=>H.next≤id):=(AC.code hf hok (h hl)).wk fun v H' ⟨e,hz⟩=>⟨r,_,.freeze _ hz,rfl,H',e,rfl⟩
    refine key.trim ?_
    rintro v H' ⟨rfl,X,e,rfl⟩
    refine ⟨H.upd id (.cells cs m),⟨Nat.le_refl _,e.1,fun k blk hg=>?_,fun k cs' m' hg=>?_,fun k o hg=>?_⟩,hr.ok _,rfl,rfl⟩
    · have hk:k<H.next:=by
        rw [Hp.get_upd] at hg
        split at hg
        · rename_i e;subst e;exact hi
        · exact hl _ _ hg
      refine ⟨hk,?_⟩
      simp only [Hp.wo]
      rw [if_neg (by omega)]
      exact e.2 _ _ hg
    · rw [Hp.get_upd] at hg
      split at hg
      · injection hg with hg;injection hg with h1 h2
        subst h1
        exact .inr fun v hv=>(hcs v hv).ok _
      · exact .inl ⟨m',hg⟩
    · rw [Hp.get_upd] at hg
      split at hg
      · cases hg
      · exact .inl hg
end
theorem yez (t:Str) (σ:Rd):∀v∈rdc t σ,yd1 v:=by
  intro v hv
  simp [rdc] at hv
  rcases hv with rfl | rfl | rfl
  · exact ycc _
  · exact yis _ _
  · exact yis _ _
structure RX (H:Hp) (id:Nat) (t:Str) (σ:Rd) (X:Hp):Prop where
  ext:(H.del id).Ext X
  lt:∀k blk,X.get k=some blk→k<X.next
  get:X.get id=some (.cells (rdc t σ) 3)
  hlt:∀k blk,H.get k=some blk→k<H.next
  hid:id<H.next
section
variable {H X Y:Hp} {id:Nat} {t:Str} {σ:Rd}
theorem yfs {H:Hp} {id k:Nat}:(H.del id).get k=if k=id then none else H.get k:=rfl
theorem RX.start (hl:∀k blk,H.get k=some blk→k<H.next) (hg:H.get id=some (.cells (rdc t σ) 3)):RX H id t σ H:=
  ⟨⟨Nat.le_refl _,fun k blk h=>by rw [yfs] at h;split at h;cases h;exact h⟩,hl,hg,hl,hl _ _ hg⟩
theorem RX.upd (R:RX H id t σ X) (σ':Rd):RX H id t σ' (X.upd id (.cells (rdc t σ') 3)):=
  ⟨⟨R.ext.1,fun k blk h=>by
      have h2:=R.ext.2 k blk h
      rw [yfs] at h
      rw [Hp.get_upd]
      split
      · rename_i e;rw [if_pos e] at h;cases h
      · exact h2⟩,Hp.upd_lt R.lt (R.lt _ _ R.get) _,by simp,R.hlt,R.hid⟩
theorem RX.more (R:RX H id t σ X) (e:X.Ext Y) (hl:∀k blk,Y.get k=some blk→k<Y.next):RX H id t σ Y:=⟨R.ext.trans e,hl,e.2 _ _ R.get,R.hlt,R.hid⟩
theorem RX.fin (R:RX H id t σ X):(H.upd id (.cells (rdc t σ) 3)).Ext X:=⟨R.ext.1,fun k blk h=>by
  rw [Hp.get_upd] at h
  split at h
  · rename_i e;subst e;injection h with h;subst h;exact R.get
  · rename_i e;exact R.ext.2 k blk (by rw [yfs,if_neg e];exact h)⟩
theorem RX.dlt (R:RX H id t σ X):∀k blk,(H.del id).get k=some blk→k<(H.del id).next:=fun k blk h=>by
  rw [yfs] at h
  split at h
  · cases h
  · exact R.hlt _ _ h
theorem RX.accNil (R:RX H id t σ X) (sz z:Nat):Acc (H.del id) sz (.sl none 0 z) X []:=Acc.nil sz z R.ext R.lt
theorem RX.acc (R:RX H id t σ X) {sz:Nat} {v:V} {es:List (List V)} (A:Acc (H.del id) sz v X es) (σ':Rd):Acc (H.del id) sz v (X.upd id (.cells (rdc t σ') 3)) es:=by
  have hs:ye9 v id:=A.sepOld R.hid
  have R':=R.upd σ'
  refine ⟨R'.ext,R'.lt,A.all,A.sl.imp (fun x=>x) ?_⟩
  rintro ⟨k,m,a,e,c,d⟩
  refine ⟨k,m,a,e,?_,d⟩
  subst e
  rw [Hp.get_upd,if_neg (show k≠id from hs)];exact c
theorem RX.app (R:RX H id t σ X) {sz bytes:Nat} {v:V} {es:List (List V)} (A:Acc (H.del id) sz v X es) (y:List V) (hy:y.length=sz) (hsz:0<sz) (hc:y.all y7o=true) (hb:(es.length+1)*bytes≤ycg):
    ∃a l s X2,y56 X sz bytes v (.fs [y])=some (.sl a l s,X2)∧RX H id t σ X2∧Acc (H.del id) sz (.sl a l s) X2 (es++[y])∧∀k blk,X.get k=some blk→ye9 v k→X2.get k=some blk∧ye9 (.sl a l s) k:=by
  obtain ⟨v2,X2,e,A2,K⟩:=A.appK (bytes:=bytes) R.dlt y hy hsz hc hb
  obtain ⟨a,l,s,rfl⟩:=A2.isSl
  have hs:ye9 v id:=A.sepOld R.hid
  exact ⟨a,l,s,X2,e,⟨A2.ext,A2.lt,(K _ _ R.get hs).1,R.hlt,R.hid⟩,A2,K⟩
end
end Go.Proofs.YthmkcebbeehbeaaGreatDoor
