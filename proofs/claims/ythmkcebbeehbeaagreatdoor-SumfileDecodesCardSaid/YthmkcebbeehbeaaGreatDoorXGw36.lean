/- Part 36. -/
import Derived.Test.YthmkcebbeehbeaaGreatDoorXGw17
import Derived.Test.YthmkcebbeehbeaaGreatDoorXGw19
import Derived.Test.YthmkcebbeehbeaaGreatDoorXGw29
import Derived.Test.YthmkcebbeehbeaaGreatDoorXGw30
import Derived.Test.YthmkcebbeehbeaaGreatDoorXGw33
set_option linter.unusedSimpArgs false
set_option linter.unusedVariables false
namespace Go.Proofs.YthmkcebbeehbeaaGreatDoor
open Am C
theorem u8_and (c:UInt8):yrv .u8 (c.toNat:Int) 127=((c.toNat % 128:Nat):Int)∧(yrv .u8 (c.toNat:Int) 128≠0↔128≤c.toNat):=by
 have key:∀n:Fin 256,yrv .u8 ((n.val:Nat):Int) 127=((n.val % 128:Nat):Int)∧(yrv .u8 ((n.val:Nat):Int) 128≠0↔128≤n.val):=by decide +kernel
 exact key ⟨c.toNat,c.toNat_lt⟩
theorem sh7 {d i:Nat} (hd:d<128) (hi:i≤4):Go.IntKind.i64.wrap ((d:Int)*2 ^ (min (Go.IntKind.i64.wrap (7*(i:Int))).toNat 64))=((d*128 ^ i:Nat):Int)∧0≤Go.IntKind.i64.wrap (7*(i:Int)):=by
 have h7:Go.IntKind.i64.wrap (7*(i:Int))=((7*i:Nat):Int):=by rw [y4e (by omega) (by omega)];omega
 rw [h7]
 match i,hi with
 | 0,_=>exact ⟨by rw [y4e (by simp <;> omega) (by simp <;> omega)];simp,by omega⟩
 | 1,_=>exact ⟨by rw [y4e (by simp <;> omega) (by simp <;> omega)];simp,by omega⟩
 | 2,_=>exact ⟨by rw [y4e (by simp <;> omega) (by simp <;> omega)];simp,by omega⟩
 | 3,_=>exact ⟨by rw [y4e (by simp <;> omega) (by simp <;> omega)];simp,by omega⟩
 | 4,_=>exact ⟨by rw [y4e (by simp <;> omega) (by simp <;> omega)];simp,by omega⟩
theorem pow128 {i:Nat} (hi:i≤4):128 ^ i≤268435456:=by
 match i,hi with
 | 0,_=>decide
 | 1,_=>decide
 | 2,_=>decide
 | 3,_=>decide
 | 4,_=>decide
theorem or_add {n d i:Nat} (hn:n<128 ^ i):n ||| d*128 ^ i=n+d*128 ^ i:=by
 have h:=Nat.two_pow_add_eq_or_of_lt (i:=7*i) (b:=n) (by rw [Nat.pow_mul];exact hn) d
 rw [Nat.pow_mul] at h
 rw [Nat.or_comm,Nat.mul_comm,←h,Nat.add_comm]
theorem yum {r:Str} {k n:Nat} {c:UInt8} {q:Str} (h:r.drop k=c::q):rdN k n (r.drop k)=if k=4∧1<c.toNat then (0,0,2) else if 128≤c.toNat then rdN (k+1) (n+c.toNat % 128*128 ^ k) (r.drop (k+1))
   else if c.toNat=0∧0<k then (0,0,3) else if 268435456<n+c.toNat % 128*128 ^ k then (0,0,2) else (n+c.toNat % 128*128 ^ k,k+1,0):=by
 have:r.drop (k+1)=q:=by rw [←List.drop_drop,h];rfl
 rw [h,this];rfl
theorem acc_lt {n k:Nat} (c:UInt8) (h:n<128 ^ k):n+c.toNat % 128*128 ^ k<128 ^ (k+1):=by
 have:c.toNat % 128*128 ^ k≤127*128 ^ k:=Nat.mul_le_mul_right _ (by omega)
 rw [Nat.pow_succ];omega
def LkInv (t:Str) (σ:Rd) (B:Str) (H:Hp) (m:Nat) (F:Fr) (X:Hp):Prop:=
 ∃i n,i≤4∧i≤B.length∧m=B.length-i∧n<128 ^ i∧rdL t σ=rdN i n ((t.drop σ.pos).drop i)∧X=H∧F=[(5,.i .i64 (n:Nat)),(28,.fs (bcl B)),(29,.i .i64 B.length),(30,.i .i64 i)]
theorem Look_ok (t:Str) (σ:Rd) (id:Nat) (hp:σ.pos≤t.length) (ht:t.length≤140737488351232) (H:Hp) {m:Nat} (hm:m≤3) (hg:H.get id=some (.cells [.s t,.i .i64 σ.pos,.i .i64 σ.e] m)):
  AC Tryz.prog yas [.p (some (id,0,3))] H (fun v H'=>v=.tup [.i .i64 ((rdL t σ).1:Nat),.i .i64 ((rdL t σ).2.1:Nat),.i .i64 (rdL t σ).2.2]∧H'=H):=by
 refine AC.code yg.at yg.ok ?_
 simp only [yg]
 apply jA
 simp [yg.r0]
 apply jA
 simp [yg.r1]
 have hmin:min (t.length:Int) (Go.IntKind.i64.wrap ((σ.pos:Int)+5))=((min t.length (σ.pos+5):Nat):Int):=by rw [y4e (by omega) (by omega)];omega
 obtain ⟨B,hB⟩:∃B,B=(t.drop σ.pos).take 5:=⟨_,rfl⟩
 have hsl:(t.take (min t.length (σ.pos+5))).drop σ.pos=B:=by
  rw [hB]
  apply List.ext_getElem?
  intro j
  simp only [List.getElem?_drop,km]
  by_cases h1:j<5
  ·by_cases h2:σ.pos+j<t.length
   ·rw [if_pos (by omega),if_pos h1]
   ·rw [if_neg (by omega),if_pos h1,List.getElem?_eq_none (by omega)]
  ·rw [if_neg (by omega),if_neg h1]
 have hBl:B.length=min 5 (t.length-σ.pos):=by rw [hB];simp
 refine AX.seq (AX.seq (AX.drw ?_))
 simp [yg.r2,hg,hm,hmin]
 rw [if_pos ⟨by omega,by omega⟩,hsl]
 simp
 refine AX.pblock (AX.loop (LkInv t σ B H) B.length ⟨_,_,.refl _ _,0,0,by omega,by omega,by omega,by simp,by simp [rdL],rfl,by simp [bcl]⟩ ?_)
 rintro m F X ⟨i,n,hi,hib,rfl,hn,hr,rfl,rfl⟩
 simp only [yg.l0]
 apply jA
 simp [yg.r3]
 refine AX.seq (AX.pcond rfl (fun hd=>AX.skip ?_) (fun hd=>AX.exit ?_))
 ·simp at hd
  have hd':i<t.length-σ.pos:=by omega
  have hBi:B[i]?=(t.drop σ.pos)[i]?:=by rw [hB,km,if_pos (by omega)]
  obtain ⟨q,hq⟩:∃q,(t.drop σ.pos).drop i=B[i]::q:=by
   rw [kB hd] at hBi
   have h1:i<(t.drop σ.pos).length:=by rw [List.length_drop];omega
   rw [kB h1] at hBi
   injection hBi with hBi
   exact ⟨_,by rw [kO h1,hBi]⟩
  have hs:=yum (k:=i) (n:=n) hq
  rw [←hr] at hs
  have hbc:(bcl B)[i]?=some [.i .u8 B[i].toNat]:=by simp [bcl,hd]
  generalize B[i]=c at *
  have hc:=c.toNat_lt
  simp
  apply jC
  simp [yg.r4,hbc]
  obtain ⟨s1,s2⟩:=sh7 (d:=c.toNat % 128) (i:=i) (by omega) hi
  obtain ⟨a1,a2⟩:=u8_and c
  have hp4:=pow128 hi
  have hadd:=acc_lt c hn
  have hp5:128 ^ (i+1)≤34359738368:=by rw [Nat.pow_succ];omega
  have hor:bOr .i64 (n:Int) ((c.toNat % 128*128 ^ i:Nat):Int)=((n+c.toNat % 128*128 ^ i:Nat):Int):=by
   rw [ywg (by omega) (by omega),or_add hn]
  have e0:Go.IntKind.i64.wrap ((c.toNat:Int) % 128)=(c.toNat:Int) % 128:=y4e (by omega) (by omega)
  rw [show ((c.toNat % 128:Nat):Int)=(c.toNat:Int) % 128 by omega] at s1 a1
  have s3:¬Go.IntKind.i64.wrap (7*(i:Int))<0:=by omega
  obtain ⟨N2,hN2⟩:∃N2,N2=n+c.toNat % 128*128 ^ i:=⟨_,rfl⟩
  rw [←hN2] at hs hadd hor
  generalize c.toNat % 128*128 ^ i=D at *
  refine AX.seq (AX.test (decide (i=4)&&decide (1<c.toNat)) [(5,.i .i64 (n:Nat)),(6,.i .i64 i),(7,.i .u8 c.toNat),(28,.fs (bcl B)),(29,.i .i64 B.length),(30,.i .i64 i),(40,.b (decide (i=4)&&decide (1<c.toNat)))] ?_ rfl (fun h1=>?_) (fun h1=>AX.skip ?_))
  ·by_cases h4:i=4
   ·simp [yg.r5,h4]
   ·simp [yg.r5,h4]
  ·simp at h1
   rw [if_pos h1] at hs
   apply jA
   simp [yg.r6]
   apply jD
   simp [hs]
  simp at h1
  rw [if_neg (fun h=>by have:=h1 h.1;omega)] at hs
  simp
  apply jA
  simp [yg.r7,a1,e0,s1,s3,hor]
  refine AX.pblock (jA ?_)
  simp [yg.r8]
  by_cases h2:128≤c.toNat
  ·rw [if_pos h2] at hs
   refine jG (by simpa using a2.2 h2) (AX.skip ?_)
   simp
   apply jE
   simp [yg.r14,y5p (show i≤9223372036854775000 by omega)]
   refine ⟨B.length-(i+1),by omega,_,_,.refl _ _,i+1,N2,?_,by omega,rfl,hadd,hs,rfl,by simp⟩
   have:i≠4:=fun h=>by have:=h1 h;omega
   omega
  rw [if_neg h2] at hs
  refine jF (by simpa using fun h=>h2 (a2.1 h)) ?_
  refine AX.test (decide (c.toNat=0)&&decide (0<i)) [(5,.i .i64 (N2:Nat)),(6,.i .i64 i),(56,.b (decide (c.toNat=0)&&decide (0<i)))] ?_ rfl (fun h3=>?_) (fun h3=>?_)
  ·by_cases h4:c.toNat=0
   ·simp [yg.r9,h4]
   ·simp [yg.r9,h4]
  ·simp at h3
   rw [if_pos h3] at hs
   apply jA
   simp [yg.r10]
   apply jD
   simp [hs]
  simp at h3
  rw [if_neg (fun h=>by have:=h3 h.1;omega)] at hs
  apply jA
  simp [yg.r11]
  by_cases h5:268435456<N2
  ·rw [if_pos h5] at hs
   refine jG (by simp [h5]) ?_
   apply jA
   simp [yg.r12]
   apply jD
   simp [hs]
  ·rw [if_neg h5] at hs
   refine jF (by simp [h5]) ?_
   apply jA
   simp [yg.r13,y5p (show i≤9223372036854775000 by omega)]
   apply jD
   simp [hs]
 ·simp at hd
  have hnil:(t.drop σ.pos).drop i=[]:=by rw [List.drop_drop];exact List.drop_of_length_le (by omega)
  rw [hnil] at hr
  simp
  apply jA
  simp [yg.r15]
  apply jD
  simp [hr,rdN]
def N02Inv (t:Str) (σ:Rd) (H:Hp) (m:Nat) (F:Fr) (X:Hp):Prop:=
 ∃i n,i≤4∧m=5-i∧n<128 ^ i∧rdL t σ=rdN i n ((t.drop σ.pos).drop i)∧X=H∧F=[(0,.s t),(1,.i .i64 σ.pos),(7,.i .i64 (n:Nat)),(8,.i .i64 i)]
theorem yx2 (t:Str) (σ:Rd) (hp:σ.pos≤t.length) (ht:t.length≤140737488351232) (H:Hp):
  AC Tryz.prog ybn [.s t,.i .i64 σ.pos] H (fun v H'=>v=.tup [.i .i64 ((rdL t σ).1:Nat),.i .i64 (if (rdL t σ).2.2=0 then ((σ.pos+(rdL t σ).2.1:Nat):Int) else 0),.i .i64 (rdL t σ).2.2]∧H'=H):=by
 refine AC.code yn.at yn.ok ?_
 simp only [yn]
 apply jA
 simp [yn.r0]
 apply jA
 simp [yn.r1]
 apply jB
 simp [yn.r2]
 refine AX.pblock (AX.loop (N02Inv t σ H) 5 ⟨_,_,.refl _ _,0,0,by omega,by omega,by simp,by simp [rdL],rfl,by simp⟩ ?_)
 rintro m F X ⟨i,n,hi,rfl,hn,hr,rfl,rfl⟩
 simp only [yn.l0]
 apply jB
 simp [yn.r3]
 refine jG (by simp;omega) (AX.skip ?_)
 simp
 have hpi:Go.IntKind.i64.wrap ((σ.pos:Int)+i)=((σ.pos+i:Nat):Int):=by rw [y4e (by omega) (by omega)];omega
 obtain ⟨pi,hpie⟩:∃pi,pi=σ.pos+i:=⟨_,rfl⟩
 rw [←hpie] at hpi
 refine AX.seq (AX.pblock (AX.seq (jA ?_)))
 simp [yn.r4,hpi]
 by_cases hd:pi<t.length
 ·refine jF (by simp;omega) (AX.skip ?_)
  obtain ⟨q,hq⟩:∃q,(t.drop σ.pos).drop i=t[pi]::q:=by
   rw [List.drop_drop,←hpie]
   exact ⟨_,kO hd⟩
  have hs:=yum (k:=i) (n:=n) hq
  rw [←hr] at hs
  have hbc:t[pi]?=some t[pi]:=kB hd
  generalize t[pi]=c at *
  have hc:=c.toNat_lt
  obtain ⟨s1,s2⟩:=sh7 (d:=c.toNat % 128) (i:=i) (by omega) hi
  have hp4:=pow128 hi
  have hadd:=acc_lt c hn
  have hp5:128 ^ (i+1)≤34359738368:=by rw [Nat.pow_succ];omega
  have hsum:Go.IntKind.i64.wrap ((n:Int)+((c.toNat % 128*128 ^ i:Nat):Int))=((n+c.toNat % 128*128 ^ i:Nat):Int):=by rw [y4e (by omega) (by omega)];omega
  have hmod:(c.toNat:Int).tmod 128=((c.toNat % 128:Nat):Int):=yqz c.toNat 128
  have e0:Go.IntKind.i64.wrap (c.toNat:Int)=(c.toNat:Int):=y4e (by omega) (by omega)
  rw [show ((c.toNat % 128:Nat):Int)=(c.toNat:Int) % 128 by omega] at s1 hmod
  have s3:¬Go.IntKind.i64.wrap (7*(i:Int))<0:=by omega
  obtain ⟨N2,hN2⟩:∃N2,N2=n+c.toNat % 128*128 ^ i:=⟨_,rfl⟩
  rw [←hN2] at hs hadd hsum
  generalize c.toNat % 128*128 ^ i=D at *
  simp
  apply jA
  simp [yn.r6,hpi,hbc,e0]
  refine AX.seq (AX.test (decide (i=4)&&decide (1<c.toNat)) [(0,.s t),(1,.i .i64 σ.pos),(7,.i .i64 (n:Nat)),(8,.i .i64 i),(9,.i .i64 c.toNat),(31,.b (decide (i=4)&&decide (1<c.toNat)))] ?_ rfl (fun h1=>?_) (fun h1=>AX.skip ?_))
  ·by_cases h4:i=4
   ·simp [yn.r7,h4]
   ·simp [yn.r7,h4]
  ·simp at h1
   rw [if_pos h1] at hs
   apply jA
   simp [yn.r8]
   apply jD
   simp [hs]
  simp at h1
  rw [if_neg (fun h=>by have:=h1 h.1;omega)] at hs
  simp
  apply jA
  simp [yn.r9,hmod,s1,s3,hsum]
  apply jA
  simp [yn.r10]
  by_cases h2:128≤c.toNat
  ·rw [if_pos h2] at hs
   refine jF (by simp;omega) (AX.skip ?_)
   simp
   apply jE
   simp [yn.r16,y5p (show i≤9223372036854775000 by omega)]
   refine ⟨5-(i+1),by omega,_,_,.refl _ _,i+1,N2,?_,rfl,hadd,hs,rfl,by simp⟩
   have:i≠4:=fun h=>by have:=h1 h;omega
   omega
  rw [if_neg h2] at hs
  refine jG (by simp;omega) ?_
  refine AX.seq (AX.test (decide (c.toNat=0)&&decide (0<i)) [(1,.i .i64 σ.pos),(7,.i .i64 (N2:Nat)),(8,.i .i64 i),(46,.b (decide (c.toNat=0)&&decide (0<i)))] ?_ rfl (fun h3=>?_) (fun h3=>AX.skip ?_))
  ·by_cases h4:c.toNat=0
   ·simp [yn.r11,h4]
   ·simp [yn.r11,h4]
  ·simp at h3
   rw [if_pos h3] at hs
   apply jA
   simp [yn.r12]
   apply jD
   simp [hs]
  simp at h3
  rw [if_neg (fun h=>by have:=h3 h.1;omega)] at hs
  simp
  apply jB
  simp [yn.r13]
  by_cases h5:268435456<N2
  ·rw [if_pos h5] at hs
   refine jG (by simp [h5]) ?_
   apply jA
   simp [yn.r14]
   apply jD
   simp [hs]
  ·rw [if_neg h5] at hs
   refine jF (by simp [h5]) (AX.skip ?_)
   simp
   apply jA
   simp [yn.r15,hpi,y5p (show pi≤9223372036854775000 by omega)]
   apply jD
   simp [hs,hpie]
   omega
 ·refine jG (by simp;omega) ?_
  have hnil:(t.drop σ.pos).drop i=[]:=by rw [List.drop_drop];exact List.drop_of_length_le (by omega)
  rw [hnil] at hr
  apply jA
  simp [yn.r5]
  apply jD
  simp [hr,rdN]
def rdc (t:Str) (σ:Rd):List V:=[.s t,.i .i64 σ.pos,.i .i64 σ.e]
def ydx (rest:Nat→Nat) (t:Str) (σ:Rd):Nat × Str × Rd:=
 if σ.e≠0 then (0,[],σ) else if (rdL t σ).2.2≠0 then (0,[],{ σ with e:=(rdL t σ).2.2 })
 else if t.length<σ.pos+(rdL t σ).2.1+rest (rdL t σ).1 then (0,[],{ σ with e:=1 })
 else ((rdL t σ).1,(t.drop (σ.pos+(rdL t σ).2.1)).take (rest (rdL t σ).1),{ σ with pos:=σ.pos+(rdL t σ).2.1+rest (rdL t σ).1 })
section
variable {t:Str} {σ:Rd} {id:Nat} {H:Hp}
theorem yws (rest:Nat→Nat) (f:Go.FuncId) (hrest:∀(n:Nat) X,AC Tryz.prog f [.i .i64 (n:Nat)] X (fun v X'=>v=.i .i64 (rest n:Nat)∧X'=X)) (hrl:∀n,rest n≤n) (ho:y7q t σ) (ht:t.length≤140737488351232) (hg:H.get id=some (.cells (rdc t σ) 3)):
  AC Tryz.prog y94 [.p (some (id,0,3)),.fn f []] H (fun v H'=>v=.tup [.i .i64 ((ydx rest t σ).1:Nat),.s (ydx rest t σ).2.1]∧H'=H.upd id (.cells (rdc t (ydx rest t σ).2.2) 3)):=by
 obtain ⟨hp,he0,he1,he6⟩:=ho
 have hL:=yhc t σ hp
 have hlook:=Look_ok t σ id hp ht H (by omega) hg
 unfold rdc at hg
 refine AC.code y10.at y10.ok ?_
 simp only [y10]
 apply jA
 simp [y10.r0]
 apply jB
 simp [y10.r1,hg]
 by_cases he:σ.e=0
 ·refine jF (by simp [he]) (AX.skip ?_)
  simp
  apply jA
  simp [y10.r3]
  refine AC.fix hlook ?_
  have hr:=hrl (rdL t σ).1
  have hT:ydx rest t σ=if (rdL t σ).2.2≠0 then (0,[],{ σ with e:=(rdL t σ).2.2 })
   else if t.length<σ.pos+(rdL t σ).2.1+rest (rdL t σ).1 then (0,[],{ σ with e:=1 })
   else ((rdL t σ).1,(t.drop (σ.pos+(rdL t σ).2.1)).take (rest (rdL t σ).1),{ σ with pos:=σ.pos+(rdL t σ).2.1+rest (rdL t σ).1 }):=by
   unfold ydx;rw [if_neg (by simp [he])]
  generalize (rdL t σ).1=n at *
  generalize (rdL t σ).2.1=k at *
  generalize (rdL t σ).2.2=e at *
  have hs1:Go.IntKind.i64.wrap (Go.IntKind.i64.wrap ((t.length:Int)-σ.pos)-k)=((t.length-σ.pos-k:Nat):Int):=by
   rw [y4e (n:=(t.length:Int)-σ.pos) (by omega) (by omega),y4e (by omega) (by omega)];omega
  simp
  refine AX.seq (AX.testD (decide (e=0)&&decide (t.length-σ.pos-k<rest n)) [(0,.p (some (id,0,3))),(1,.fn f []),(6,.i .i64 (n:Nat)),(7,.i .i64 (k:Nat)),(8,.i .i64 e),(40,.b (decide (e=0)&&decide (t.length-σ.pos-k<rest n)))] ?_ rfl (fun h1=>?_) (fun h1=>AX.skip ?_))
  ·by_cases h1:e=0
   ·simp [y10.r4,h1]
    refine y5c _ (fun H2=>hrest n H2) ?_
    simp [hg,hs1]
   ·simp [y10.r4,h1]
  ·simp at h1
   obtain ⟨rfl,h1⟩:=h1
   apply jE
   simp [y10.r5]
   apply jB
   simp [y10.r6]
   refine jG rfl ?_
   apply jA
   simp [y10.r7,hg]
   apply jA
   simp [y10.r8]
   apply jD
   have hT2:ydx rest t σ=(0,[],{ σ with e:=1 }):=by rw [hT,if_neg (show ¬((0:Int)≠0) by simp),if_pos (by omega)]
   simp [rdc,hT2]
  simp at h1
  simp
  apply jB
  simp [y10.r6]
  by_cases h2:e=0
  ·subst h2
   have h3:=h1 rfl
   refine jF (by simp) (AX.skip ?_)
   have hpk:Go.IntKind.i64.wrap ((σ.pos:Int)+k)=((σ.pos+k:Nat):Int):=by rw [y4e (by omega) (by omega)];omega
   have hpr:Go.IntKind.i64.wrap (((σ.pos+k:Nat):Int)+(rest n:Nat))=((σ.pos+k+rest n:Nat):Int):=by rw [y4e (by omega) (by omega)];omega
   have hT2:=hT
   rw [if_neg (show ¬((0:Int)≠0) by simp),if_neg (by omega)] at hT2
   rw [hT2]
   obtain ⟨p,hp'⟩:∃p,p=σ.pos+k:=⟨_,rfl⟩
   rw [←hp'] at hpk hpr ⊢
   obtain ⟨p2,hp2⟩:∃p2,p2=p+rest n:=⟨_,rfl⟩
   rw [←hp2] at hpr ⊢
   have hsl:(t.take p2).drop p=(t.drop p).take (rest n):=by
    rw [hp2,List.take_add,List.drop_append_of_le_length (by simp;omega),List.drop_eq_nil_of_le (by simp;omega)];rfl
   simp
   apply jA
   simp [y10.r9,hg,hpk]
   apply jA
   simp [y10.r10]
   refine AC.fix (hrest n _) ?_
   simp [hpr,hg]
   refine AX.seq (AX.drw ?_)
   simp [y10.r11,show p≤p2∧p2≤t.length by omega,hsl]
   apply jD
   simp [rdc]
  ·refine jG (by simp [h2]) ?_
   have hT2:ydx rest t σ=(0,[],{ σ with e:=e }):=by rw [hT,if_pos h2]
   rw [hT2]
   apply jA
   simp [y10.r7,hg]
   apply jA
   simp [y10.r8]
   apply jD
   simp [rdc]
 ·refine jG (by simp [he]) ?_
  apply jA
  simp [y10.r2]
  apply jD
  have hT:ydx rest t σ=(0,[],σ):=by unfold ydx;rw [if_pos he]
  simp [hT,rdc]
  exact (Hp.upd_self hg).symm
end
section
variable {t:Str} {σ:Rd} {id:Nat} {H:Hp}
theorem Zero_ok (n:Nat) (X:Hp):AC Tryz.prog y9d [.i .i64 (n:Nat)] X (fun v X'=>v=.i .i64 ((0:Nat):Int)∧X'=X):=by
 refine AC.code y40.at y40.ok ?_
 simp only [y40]
 apply jA
 simp [y40.r0]
 apply jA
 simp [y40.r1]
 apply jD
 simp
theorem Self_ok (n:Nat) (X:Hp):AC Tryz.prog y9w [.i .i64 (n:Nat)] X (fun v X'=>v=.i .i64 (n:Nat)∧X'=X):=by
 refine AC.code y4b.at y4b.ok ?_
 simp only [y4b]
 apply jA
 simp [y4b.r0]
 apply jA
 simp [y4b.r1]
 apply jD
 simp
theorem take_num (t:Str) (σ:Rd) (ho:y7q t σ):(ydx (fun _=>0) t σ).1=(y33 t σ).1∧(ydx (fun _=>0) t σ).2.2=(y33 t σ).2:=by
 have:=yhc t σ ho.1
 unfold ydx y33
 split
 ·simp
 ·split
  ·simp
  ·have h0:¬t.length<σ.pos+(rdL t σ).2.1+0:=by omega
   rw [if_neg h0];simp
theorem take_txt (t:Str) (σ:Rd):(ydx (fun n=>n) t σ).2.1=(y6y t σ).1∧(ydx (fun n=>n) t σ).2.2=(y6y t σ).2:=by
 unfold ydx y6y
 split
 ·simp
 ·split
  ·simp
  ·split <;> simp
theorem y9o (ho:y7q t σ) (ht:t.length≤140737488351232) (hg:H.get id=some (.cells (rdc t σ) 3)):
  AC Tryz.prog y3s [.p (some (id,0,3))] H (fun v H'=>v=.i .i64 ((y33 t σ).1:Nat)∧H'=H.upd id (.cells (rdc t (y33 t σ).2) 3)):=by
 refine AC.code y3q.at y3q.ok ?_
 simp only [y3q]
 apply jA
 simp [y3q.r0]
 apply jA
 simp [y3q.r1]
 refine AC.fix (yws (fun _=>0) y9d Zero_ok (fun n=>Nat.zero_le _) ho ht hg) ?_
 obtain ⟨h1,h2⟩:=take_num t σ ho
 rw [h1,h2]
 simp
 apply jA
 simp [y3q.r2]
 apply jD
 simp
theorem yov (ho:y7q t σ) (ht:t.length≤140737488351232) (hg:H.get id=some (.cells (rdc t σ) 3)):
  AC Tryz.prog y95 [.p (some (id,0,3))] H (fun v H'=>v=.s (y6y t σ).1∧H'=H.upd id (.cells (rdc t (y6y t σ).2) 3)):=by
 refine AC.code y3y.at y3y.ok ?_
 simp only [y3y]
 apply jA
 simp [y3y.r0]
 apply jA
 simp [y3y.r1]
 refine AC.fix (yws (fun n=>n) y9w Self_ok (fun n=>kF _) ho ht hg) ?_
 obtain ⟨h1,h2⟩:=take_txt t σ
 rw [h1,h2]
 simp
 apply jA
 simp [y3y.r2]
 apply jD
 simp
theorem ym1 {f:Go.FuncId} {fn:Go.Func} (hf:Tryz.prog.funcs[f]?=some fn) (hok:y1x Tryz.prog fn y4h=true) (hg:H.get id=some (.cells (rdc t σ) 3)) (x:Int):
  AC Tryz.prog f [.p (some (id,0,3)),.i .i64 x] H (fun v H'=>v=.tup []∧H'=H.upd id (.cells (rdc t (y6a σ x)) 3)):=by
 unfold rdc at hg
 refine AC.code hf hok ?_
 simp only [y4h]
 apply jA
 simp [y4h.r0,hg]
 by_cases he:σ.e=0
 ·refine jG (by simp [he]) (AX.reg ?_)
  simp [y4h.r1,hg,y6a,he,rdc]
 ·refine jF (by simp [he]) (AX.skip ?_)
  simp [y6a,he,rdc]
  exact (Hp.upd_self hg).symm
theorem ygg (hg:H.get id=some (.cells (rdc t σ) 3)) (x:Int):AC Tryz.prog y58 [.p (some (id,0,3)),.i .i64 x] H (fun v H'=>v=.tup []∧H'=H.upd id (.cells (rdc t (y6a σ x)) 3)):=
 ym1 y4h.at y4h.ok hg x
theorem yt1 (hg:H.get id=some (.cells (rdc t σ) 3)) (x:Int):AC Tryz.prog y9i [.p (some (id,0,3)),.i .i64 x] H (fun v H'=>v=.tup []∧H'=H.upd id (.cells (rdc t (y6a σ x)) 3)):=
 ym1 y53.at y53.ok hg x
theorem ym2 {f:Go.FuncId} {fn:Go.Func} (hf:Tryz.prog.funcs[f]?=some fn) (hok:y1x Tryz.prog fn y38=true) (hg:H.get id=some (.cells (rdc t σ) 3)):
  AC Tryz.prog f [.p (some (id,0,3))] H (fun v H'=>v=.tup [.i .i64 σ.pos,.i .i64 (y7y t σ)]∧H'=H):=by
 unfold rdc at hg
 refine AC.code hf hok ?_
 simp only [y38]
 apply jA
 simp [y38.r0]
 refine AX.seq (AX.testD (decide (σ.e=0)&&decide (σ.pos<t.length)) [(0,.p (some (id,0,3))),(20,.b (decide (σ.e=0)&&decide (σ.pos<t.length)))] ?_ rfl (fun h1=>?_) (fun h1=>AX.skip ?_))
 ·by_cases h1:σ.e=0
  ·simp [y38.r1,hg,h1]
  ·simp [y38.r1,hg,h1]
 ·simp at h1
  apply jA
  simp [y38.r2,hg]
  apply jD
  simp [y7y,h1]
 ·simp at h1
  have h2:y7y t σ=σ.e:=by unfold y7y;rw [if_neg (fun h=>by have:=h1 h.1;omega)]
  simp
  refine AX.seq (AX.drw ?_)
  simp [y38.r3,hg]
  apply jD
  simp [h2]
theorem yi7 (hg:H.get id=some (.cells (rdc t σ) 3)):AC Tryz.prog y6k [.p (some (id,0,3))] H (fun v H'=>v=.tup [.i .i64 σ.pos,.i .i64 (y7y t σ)]∧H'=H):=
 ym2 y38.at y38.ok hg
theorem ym5 (hg:H.get id=some (.cells (rdc t σ) 3)):AC Tryz.prog y7s [.p (some (id,0,3))] H (fun v H'=>v=.tup [.i .i64 σ.pos,.i .i64 (y7y t σ)]∧H'=H):=
 ym2 y3w.at y3w.ok hg
theorem yn4 (t:Str) (H:Hp):AC Tryz.prog ycy [.s t] H (fun v H'=>v=.p (some (H.next,0,3))∧H'=H.add (.cells (rdc t ⟨0,0⟩) 3)):=by
 refine AC.code y6o.at y6o.ok ?_
 simp only [y6o]
 apply jA
 simp [y6o.r0]
 apply jA
 simp [y6o.r1]
 apply jD
 simp [rdc]
theorem yot {f:Go.FuncId} {fn:Go.Func} (hf:Tryz.prog.funcs[f]?=some fn) (hok:y1x Tryz.prog fn y4o=true) (ho:y7q t σ) (hg:H.get id=some (.cells (rdc t σ) 3)):
  AC Tryz.prog f [.p (some (id,0,3))] H (fun v H'=>v=.i .i64 σ.e∧H'=H):=by
 refine AC.code hf hok ?_
 simp only [y4o]
 apply jA
 simp [y4o.r0]
 apply jB
 simp [y4o.r1]
 refine AC.fix (yi7 hg) ?_
 simp
 apply jA
 simp [y4o.r2]
 by_cases h:y7y t σ=6
 ·refine jF (by simp [h]) (AX.skip ?_)
  simp
  apply jA
  simp [y4o.r4]
  apply jD
  have:σ.e=0:=by
   unfold y7y at h
   split at h
   ·rename_i h';exact h'.1
   ·exact (ho.2.2.2 h).elim
  simp [this]
 ·refine jG (by simp [h]) ?_
  apply jA
  simp [y4o.r3]
  apply jD
  have:y7y t σ=σ.e:=by
   unfold y7y at h ⊢
   split at h
   ·exact (h rfl).elim
   ·rename_i h';rw [if_neg h']
  simp [this]
theorem ykw (ho:y7q t σ) (hg:H.get id=some (.cells (rdc t σ) 3)):AC Tryz.prog yd2 [.p (some (id,0,3))] H (fun v H'=>v=.i .i64 σ.e∧H'=H):=yot y4o.at y4o.ok ho hg
theorem yoy (ho:y7q t σ) (hg:H.get id=some (.cells (rdc t σ) 3)):AC Tryz.prog ybt [.p (some (id,0,3))] H (fun v H'=>v=.i .i64 σ.e∧H'=H):=yot y56.at y56.ok ho hg
theorem y80 (ho:y7q t σ) (ht:t.length≤140737488351232) (hg:H.get id=some (.cells (rdc t σ) 3)):
  AC Tryz.prog y41 [.p (some (id,0,3))] H (fun v H'=>v=.i .i64 ((y33 t σ).1:Nat)∧H'=H.upd id (.cells (rdc t (y33 t σ).2) 3)):=by
 unfold rdc at hg
 refine AC.code y18.at y18.ok ?_
 simp only [y18]
 apply jA
 simp [y18.r0]
 refine AX.seq (AX.drw ?_)
 simp [y18.r1,hg]
 refine y5c _ (fun H2=>yx2 t σ ho.1 ht H2) ?_
 simp
 apply jB
 simp [y18.r2,hg]
 by_cases he:σ.e=0
 ·refine jF (by simp [he]) (AX.skip ?_)
  simp
  apply jB
  simp [y18.r4]
  by_cases h2:(rdL t σ).2.2=0
  ·refine jF (by simp [h2]) (AX.skip ?_)
   have hn:y33 t σ=((rdL t σ).1,{ σ with pos:=σ.pos+(rdL t σ).2.1 }):=by unfold y33;rw [if_neg (by simp [he]),if_neg (by simp [h2])]
   simp [h2]
   apply jA
   simp [y18.r7,hg]
   apply jA
   simp [y18.r8]
   apply jD
   simp [hn,rdc]
  ·refine jG (by simp [h2]) ?_
   have hn:y33 t σ=(0,{ σ with e:=(rdL t σ).2.2 }):=by unfold y33;rw [if_neg (by simp [he]),if_pos h2]
   apply jA
   simp [y18.r5,hg]
   apply jA
   simp [y18.r6]
   apply jD
   simp [hn,rdc]
 ·refine jG (by simp [he]) ?_
  apply jA
  simp [y18.r3]
  apply jD
  rw [yk1 he]
  simp [rdc]
  exact (Hp.upd_self hg).symm
theorem ym4 (ho:y7q t σ) (ht:t.length≤140737488351232) (hg:H.get id=some (.cells (rdc t σ) 3)):
  AC Tryz.prog y7r [.p (some (id,0,3))] H (fun v H'=>v=.s (y6y t σ).1∧H'=H.upd id (.cells (rdc t (y6y t σ).2) 3)):=by
 have hnum:=y80 ho ht hg
 have hL:=yhc t σ ho.1
 unfold rdc at hg
 refine AC.code yy.at yy.ok ?_
 simp only [yy]
 apply jA
 simp [yy.r0]
 apply jA
 simp [yy.r1,hg]
 apply jA
 simp [yy.r2]
 refine AC.fix hnum ?_
 simp
 apply jB
 simp [yy.r3,rdc]
 by_cases he:σ.e=0
 ·by_cases h2:(rdL t σ).2.2=0
  ·have hn:y33 t σ=((rdL t σ).1,{ σ with pos:=σ.pos+(rdL t σ).2.1 }):=by unfold y33;rw [if_neg (by simp [he]),if_neg (by simp [h2])]
   rw [hn]
   have hT:y6y t σ=if t.length<σ.pos+(rdL t σ).2.1+(rdL t σ).1 then ([],{ σ with e:=1 })
     else ((t.drop (σ.pos+(rdL t σ).2.1)).take (rdL t σ).1,{ σ with pos:=σ.pos+(rdL t σ).2.1+(rdL t σ).1 }):=by
    unfold y6y;rw [if_neg (by simp [he]),if_neg (by simp [h2])]
   generalize (rdL t σ).1=n at *
   generalize (rdL t σ).2.1=k at *
   obtain ⟨p,hp⟩:∃p,p=σ.pos+k:=⟨_,rfl⟩
   rw [←hp] at hT hL ⊢
   refine jF (by simp [he]) (AX.skip ?_)
   have hs1:Go.IntKind.i64.wrap ((t.length:Int)-p)=((t.length-p:Nat):Int):=by rw [y4e (by omega) (by omega)];omega
   simp
   refine AX.seq (AX.seq (AX.drw ?_))
   simp [yy.r5,hs1]
   by_cases h3:t.length<p+n
   ·rw [if_pos h3] at hT
    refine jG (by simp;omega) ?_
    apply jA
    simp [yy.r6]
    apply jA
    simp [yy.r7]
    apply jA
    simp [yy.r8]
    apply jD
    simp [hT]
   ·rw [if_neg h3] at hT
    refine jF (by simp;omega) (AX.skip ?_)
    have hpn:Go.IntKind.i64.wrap ((p:Int)+n)=((p+n:Nat):Int):=by rw [y4e (by omega) (by omega)];omega
    obtain ⟨p2,hp2⟩:∃p2,p2=p+n:=⟨_,rfl⟩
    rw [←hp2] at hpn hT
    have hsb:Go.IntKind.i64.wrap ((p2:Int)-n)=(p:Int):=by rw [y4e (by omega) (by omega)];omega
    have hsl:(t.take p2).drop p=(t.drop p).take n:=by
     rw [hp2,List.take_add,List.drop_append_of_le_length (by simp;omega),List.drop_eq_nil_of_le (by simp;omega)];rfl
    simp
    apply jA
    simp [yy.r9,hpn]
    refine AX.seq (AX.drw ?_)
    simp [yy.r10,hsb,show p≤p2∧p2≤t.length by omega,hsl]
    apply jD
    simp [hT]
  ·have hn:y33 t σ=(0,{ σ with e:=(rdL t σ).2.2 }):=by unfold y33;rw [if_neg (by simp [he]),if_pos h2]
   have hT:y6y t σ=([],{ σ with e:=(rdL t σ).2.2 }):=by unfold y6y;rw [if_neg (by simp [he]),if_pos h2]
   rw [hn]
   refine jG (by simp [h2]) ?_
   apply jA
   simp [yy.r4]
   apply jD
   simp [hT]
 ·rw [yk1 he]
  refine jG (by simp [he]) ?_
  apply jA
  simp [yy.r4]
  apply jD
  rw [ypm he]
  simp
end
section
open Go Go.RowKit
theorem Am.AC.codeU {P:Program} {f:FuncId} {fn:Func} {a:AFunc} (hf:P.funcs[f]?=some fn) (hok:y1x P fn a=true) {args:List V} {H:Hp} {r:V} {id m:Nat} {cs:List V} {b0:Blk} (hid:H.get id=some b0) (hcs:∀v∈cs,yey v) (hr:yey r)
  (h:(∀id blk,H.get id=some blk→id<H.next)→AX P a.n a.body (Ends (fun v H'=>(H.upd id (.cells cs m)).Ext H'∧Frz H' (fun id=>H.next≤id) v r) a.res) (fr0 0 args) H):AC P f args H (fun v H'=>v=r∧H'=H.upd id (.cells cs m)):=
 AC.lt (ymk hf hok) fun hl=>by
  have hi:=hl _ _ hid
  have key:AC P f args H (fun v H'=>v=r∧∃X,(H.upd id (.cells cs m)).Ext X∧H'=X.wo fun id=>H.next≤id):=(AC.code hf hok (h hl)).wk fun v H' ⟨e,hz⟩=>⟨r,_,.freeze _ hz,rfl,H',e,rfl⟩
  refine key.trim ?_
  rintro v H' ⟨rfl,X,e,rfl⟩
  refine ⟨H.upd id (.cells cs m),⟨kF _,e.1,fun k blk hg=>?_,fun k cs' m' hg=>?_,fun k o hg=>?_⟩,hr.ok _,rfl,rfl⟩
  ·have hk:k<H.next:=by
    rw [Hp.get_upd] at hg
    split at hg
    ·rename_i e;subst e;exact hi
    ·exact hl _ _ hg
   refine ⟨hk,?_⟩
   simp only [Hp.wo]
   rw [if_neg (by omega)]
   exact e.2 _ _ hg
  ·rw [Hp.get_upd] at hg
   split at hg
   ·injection hg with hg;injection hg with h1 h2
    subst h1
    exact .inr fun v hv=>(hcs v hv).ok _
   ·exact .inl ⟨m',hg⟩
  ·rw [Hp.get_upd] at hg
   split at hg
   ·cases hg
   ·exact .inl hg
end
theorem ydo (t:Str) (σ:Rd):∀v∈rdc t σ,yey v:=by
 intro v hv
 simp [rdc] at hv
 rcases hv with rfl | rfl | rfl
 ·exact ydk _
 ·exact yi4 _ _
 ·exact yi4 _ _
structure RX (H:Hp) (id:Nat) (t:Str) (σ:Rd) (X:Hp):Prop where
 ext:(H.del id).Ext X
 lt:∀k blk,X.get k=some blk→k<X.next
 get:X.get id=some (.cells (rdc t σ) 3)
 hlt:∀k blk,H.get k=some blk→k<H.next
 hid:id<H.next
section
variable {H X Y:Hp} {id:Nat} {t:Str} {σ:Rd}
theorem yez {H:Hp} {id k:Nat}:(H.del id).get k=if k=id then none else H.get k:=rfl
theorem RX.start (hl:∀k blk,H.get k=some blk→k<H.next) (hg:H.get id=some (.cells (rdc t σ) 3)):RX H id t σ H:=
 ⟨⟨kF _,fun k blk h=>by rw [yez] at h;split at h;cases h;exact h⟩,hl,hg,hl,hl _ _ hg⟩
theorem RX.upd (R:RX H id t σ X) (σ':Rd):RX H id t σ' (X.upd id (.cells (rdc t σ') 3)):=
 ⟨⟨R.ext.1,fun k blk h=>by
   have h2:=R.ext.2 k blk h
   rw [yez] at h
   rw [Hp.get_upd]
   split
   ·rename_i e;rw [if_pos e] at h;cases h
   ·exact h2⟩,Hp.upd_lt R.lt (R.lt _ _ R.get) _,by simp,R.hlt,R.hid⟩
theorem RX.more (R:RX H id t σ X) (e:X.Ext Y) (hl:∀k blk,Y.get k=some blk→k<Y.next):RX H id t σ Y:=⟨R.ext.trans e,hl,e.2 _ _ R.get,R.hlt,R.hid⟩
theorem RX.fin (R:RX H id t σ X):(H.upd id (.cells (rdc t σ) 3)).Ext X:=⟨R.ext.1,fun k blk h=>by
 rw [Hp.get_upd] at h
 split at h
 ·rename_i e;subst e;injection h with h;subst h;exact R.get
 ·rename_i e;exact R.ext.2 k blk (by rw [yez,if_neg e];exact h)⟩
theorem RX.dlt (R:RX H id t σ X):∀k blk,(H.del id).get k=some blk→k<(H.del id).next:=fun k blk h=>by
 rw [yez] at h
 split at h
 ·cases h
 ·exact R.hlt _ _ h
theorem RX.accNil (R:RX H id t σ X) (sz z:Nat):Acc (H.del id) sz (.sl none 0 z) X []:=Acc.nil sz z R.ext R.lt
theorem RX.acc (R:RX H id t σ X) {sz:Nat} {v:V} {es:List (List V)} (A:Acc (H.del id) sz v X es) (σ':Rd):Acc (H.del id) sz v (X.upd id (.cells (rdc t σ') 3)) es:=by
 have hs:ydh v id:=A.sepOld R.hid
 have R':=R.upd σ'
 refine ⟨R'.ext,R'.lt,A.all,A.sl.imp (fun x=>x) ?_⟩
 rintro ⟨k,m,a,e,c,d⟩
 refine ⟨k,m,a,e,?_,d⟩
 subst e
 rw [Hp.get_upd,if_neg (show k≠id from hs)];exact c
theorem RX.app (R:RX H id t σ X) {sz bytes:Nat} {v:V} {es:List (List V)} (A:Acc (H.del id) sz v X es) (y:List V) (hy:y.length=sz) (hsz:0<sz) (hc:y.all y8i=true) (hb:(es.length+1)*bytes≤yb7):
  ∃a l s X2,y59 X sz bytes v (.fs [y])=some (.sl a l s,X2)∧RX H id t σ X2∧Acc (H.del id) sz (.sl a l s) X2 (es++[y])∧∀k blk,X.get k=some blk→ydh v k→X2.get k=some blk∧ydh (.sl a l s) k:=by
 obtain ⟨v2,X2,e,A2,K⟩:=A.appK (bytes:=bytes) R.dlt y hy hsz hc hb
 obtain ⟨a,l,s,rfl⟩:=A2.isSl
 have hs:ydh v id:=A.sepOld R.hid
 exact ⟨a,l,s,X2,e,⟨A2.ext,A2.lt,(K _ _ R.get hs).1,R.hlt,R.hid⟩,A2,K⟩
end
end Go.Proofs.YthmkcebbeehbeaaGreatDoor
