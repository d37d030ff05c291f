/- Part 35. -/
import Derived.Test.YthmkcebbeehbeaaGreatDoorXGw17
import Derived.Test.YthmkcebbeehbeaaGreatDoorXGw18
import Derived.Test.YthmkcebbeehbeaaGreatDoorXGw30
import Derived.Test.YthmkcebbeehbeaaGreatDoorXGw33
import Derived.Test.YthmkcebbeehbeaaGreatDoorXGw34
set_option linter.unusedSimpArgs false
set_option linter.unusedVariables false
namespace Go.Proofs.YthmkcebbeehbeaaGreatDoor
open Am C
theorem yj4 (id:Nat) (v:Nat) (m:Nat) (hm:m≤1) (H:Hp) (hv:v<16777216) (hg:H.get id=some (.cells [.i .u32 ((v ^^^ 11994318:Nat):Int)] m)):
  AC Tryz.prog yby [.p (some (id,0,1))] H (fun r H'=>r=.i .u32 v∧H'=H):=by
 refine AC.code y5y.at y5y.ok ?_
 refine AX.of _ ?_
 have h1:v ^^^ 11994318<16777216:=Nat.xor_lt_two_pow (n:=24) hv (by decide)
 have h2:=ygt (a:=v ^^^ 11994318) (b:=11994318) (by omega) (by omega)
 rw [Nat.xor_assoc,Nat.xor_self,Nat.xor_zero] at h2
 simp [y5y,y5y.r0,y5y.r1,hg,hm]
 exact h2
theorem yoi (id:Nat) (v:Nat) (m:Nat) (hm:m≤1) (H:Hp) (hv:v<16777216) (bs:List UInt8) (hb:bs.length≤140737488351232) (hg:H.get id=some (.cells [.i .u32 ((v ^^^ 11994318:Nat):Int)] m)):
  AC Tryz.prog ye6 [.p (some (id,0,1)),.s bs] H (fun r H'=>r=.tup []∧H'=H.upd id (.cells [.i .u32 ((yh3 v bs ^^^ 11994318:Nat):Int)] 1)):=by
 refine AC.code y1i.at y1i.ok ?_
 simp only [y1i]
 apply jA
 simp [y1i.r0]
 refine AC.fix (yj4 id v m hm H hv hg) ?_
 apply jB
 simp [y1i.r1]
 refine AX.pblock (AX.loop (fun k F H'=>∃i:Nat,i≤bs.length∧k=bs.length-i∧H'=H∧
  F=[(0,.p (some (id,0,1))),(1,.s bs),(4,.i .u32 (yh3 v (bs.take i))),(9,.i .i64 bs.length),(10,.i .i64 i)]) bs.length ⟨_,_,.refl _ _,0,by omega,by omega,rfl,by simp [yh3]⟩ ?_)
 rintro k F H' ⟨i,hi,rfl,rfl,rfl⟩
 have hw:=ymw (bs.take i) hv
 simp only [y1i.l0]
 apply jA
 simp [y1i.r2]
 refine AX.seq (AX.pcond rfl (fun hlt=>AX.skip ?_) (fun hge=>AX.exit ?_))
 ·simp at hlt
  simp
  apply jC
  simp [y1i.r3]
  apply jA
  have hb1:=bs[i].toNat_lt
  have e1:IntKind.u32.wrap ((bs[i].toNat:Int))=((bs[i].toNat:Nat):Int):=yee (by omega) (by omega)
  have e2:IntKind.u32.wrap ((bs[i].toNat:Int)*65536)=((bs[i].toNat*65536:Nat):Int):=by rw [yee (by omega) (by omega)];simp
  have e3:=ygt (a:=yh3 v (bs.take i)) (b:=bs[i].toNat*65536) (by omega) (by omega)
  simp at e3
  simp [y1i.r4,hlt,e1,e2,e3]
  have hx:=yqc hw bs[i]
  apply jA
  simp [y1i.r5]
  refine AX.pblock (AX.loop (fun k F H''=>∃j:Nat,j≤8∧k=8-j∧H''=H'∧
   F=[(0,.p (some (id,0,1))),(1,.s bs),(4,.i .u32 (yrp j (yh3 v (bs.take i) ^^^ bs[i].toNat*65536))),(9,.i .i64 bs.length),(10,.i .i64 i),(20,.i .i64 j)]) 8 ⟨_,_,.refl _ _,0,by omega,by omega,rfl,by simp [yrp]⟩ ?_)
  rintro k F H'' ⟨j,hj,rfl,rfl,rfl⟩
  have hn:=ymv j hx
  simp only [y1i.l1]
  apply jA
  simp [y1i.r6]
  refine AX.seq (AX.pcond rfl (fun hlt=>AX.skip ?_) (fun hge=>AX.exit ?_))
  ·simp at hlt
   simp
   apply jC
   generalize hu:yrp j (yh3 v (bs.take i) ^^^ bs[i].toNat*65536)=u at *
   have e4:IntKind.u32.wrap ((u:Int)*2)=((u*2:Nat):Int):=by rw [yee (by omega) (by omega)];simp
   have e5:=yru (a:=u*2) (b:=16777216) (by omega) (by omega)
   have e6:=ygt (a:=u*2) (b:=25578747) (by omega) (by omega)
   simp at e5 e6
   simp [y1i.r7,e4]
   apply jA
   simp [y1i.r8,e5]
   have e7:IntKind.i64.wrap ((j:Int)+1)=((j+1:Nat):Int):=by rw [y4e (by omega) (by omega)];simp
   have hnext:yrp (j+1) (yh3 v (bs.take i) ^^^ bs[i].toNat*65536)=crc1 u:=by rw [yoj,hu]
   refine AX.pcond rfl (fun hbit=>AX.reg ?_) (fun hbit=>AX.skip ?_)
   ·simp at hbit
    have hbit':u*2 &&& 16777216≠0:=hbit
    simp [y1i.r9,e6]
    apply jE
    simp [y1i.r10,e7]
    exact ⟨8-(j+1),by omega,_,_,.refl _ _,j+1,by omega,rfl,rfl,by simp [hnext,crc1,hbit']⟩
   ·simp at hbit
    simp
    apply jE
    simp [y1i.r10,e7]
    exact ⟨8-(j+1),by omega,_,_,.refl _ _,j+1,by omega,rfl,rfl,by simp [hnext,crc1,hbit]⟩
  ·simp at hge
   have hj8:j=8:=by omega
   subst hj8
   simp
   apply jE
   have e8:IntKind.i64.wrap ((i:Int)+1)=((i+1:Nat):Int):=by rw [y4e (by omega) (by omega)];simp
   simp [y1i.r11,e8]
   exact ⟨bs.length-(i+1),by omega,_,_,.refl _ _,i+1,by omega,rfl,rfl,by simp [yok v bs i hlt,crcB]⟩
 ·simp at hge
  have hi':i=bs.length:=by omega
  subst hi'
  simp
  apply jE
  have e3:=ygt (a:=yh3 v bs) (b:=11994318) (by rw [List.take_length] at hw;omega) (by omega)
  simp at e3
  simp [y1i.r12,hg,e3,Am.Ends]
theorem yw7 (bs:List UInt8) (hb:bs.length≤140737488351232) (H:Hp):AC Tryz.prog yml [.s bs] H (fun r H'=>r=.i .u32 (yh3 11994318 bs)∧H'=H):=by
 refine AC.codeC y78.at y78.ok (by simp) fun hl=>?_
 simp only [y78]
 apply jA
 simp [y78.r0]
 apply jA
 simp [y78.r1]
 apply jA
 simp [y78.r2]
 refine AC.fix (yoi H.next 11994318 1 (by omega) _ (by omega) bs hb (by simp)) ?_
 apply jA
 simp [y78.r3]
 refine AC.fix (yj4 H.next (yh3 11994318 bs) 1 (by omega) _ (ymw bs (by omega)) (by simp)) ?_
 try simp
 apply jD
 simp
 intro id blk hg
 have:=hl id blk hg
 simp [show id≠H.next by omega,hg]
theorem yuk (bs:List UInt8) (hb:bs.length≤140737488351232) (H:Hp):AC Tryz.prog yeq [.s bs] H (fun r H'=>r=.i .u32 (yh3 11994318 bs)∧H'=H):=by
 refine AC.code y1t.at y1t.ok ?_
 simp only [y1t]
 apply jA
 simp [y1t.r0]
 apply jA
 simp [y1t.r1]
 apply jB
 simp [y1t.r2]
 refine AX.pblock (AX.loop (fun k F H'=>∃i:Nat,i≤bs.length∧k=bs.length-i∧H=H'∧
  F=[(0,.s bs),(3,.i .u32 (yh3 11994318 (bs.take i))),(4,.i .i64 i)]) bs.length ⟨_,_,.refl _ _,0,by omega,by omega,rfl,by simp [yh3]⟩ ?_)
 rintro k F H' ⟨i,hi,rfl,rfl,rfl⟩
 have hw:=ymw (bs.take i) (v:=11994318) (by omega)
 simp only [y1t.l0]
 apply jB
 simp [y1t.r3]
 refine AX.pcond rfl (fun hlt=>AX.skip ?_) (fun hge=>AX.exit ?_)
 ·simp at hlt
  simp
  apply jC
  have hb1:=bs[i].toNat_lt
  have e1:IntKind.u32.wrap ((bs[i].toNat:Int))=((bs[i].toNat:Nat):Int):=yee (by omega) (by omega)
  have e2:IntKind.u32.wrap ((bs[i].toNat:Int)*65536)=((bs[i].toNat*65536:Nat):Int):=by rw [yee (by omega) (by omega)];simp
  have e3:=ygt (a:=yh3 11994318 (bs.take i)) (b:=bs[i].toNat*65536) (by omega) (by omega)
  simp at e3
  simp [y1t.r4,hlt,e1,e2,e3]
  have hx:=yqc hw bs[i]
  apply jA
  simp [y1t.r5]
  refine AX.pblock (AX.loop (fun k F H''=>∃j:Nat,j≤8∧k=8-j∧H=H''∧
   F=[(0,.s bs),(3,.i .u32 (yrp j (yh3 11994318 (bs.take i) ^^^ bs[i].toNat*65536))),(4,.i .i64 i),(5,.i .i64 j)]) 8 ⟨_,_,.refl _ _,0,by omega,by omega,rfl,by simp [yrp]⟩ ?_)
  rintro k F H'' ⟨j,hj,rfl,rfl,rfl⟩
  have hn:=ymv j hx
  simp only [y1t.l1]
  apply jB
  simp [y1t.r6]
  refine AX.pcond rfl (fun hlt=>AX.skip ?_) (fun hge=>AX.exit ?_)
  ·simp at hlt
   simp
   apply jC
   generalize hu:yrp j (yh3 11994318 (bs.take i) ^^^ bs[i].toNat*65536)=u at *
   have e4:IntKind.u32.wrap ((u:Int)*2)=((u*2:Nat):Int):=by rw [yee (by omega) (by omega)];simp
   have e5:=yru (a:=u*2 / 16777216) (b:=1) (by omega) (by omega)
   have e6:=ygt (a:=u*2) (b:=25578747) (by omega) (by omega)
   have e9:((u:Int)*2).fdiv 16777216=((u*2 / 16777216:Nat):Int):=by
    rw [Int.fdiv_eq_ediv_of_nonneg _ (by omega)];simp
   simp at e5 e6 e9
   simp [y1t.r7,e4]
   apply jA
   simp [y1t.r8,e9,e5]
   have e7:IntKind.i64.wrap ((j:Int)+1)=((j+1:Nat):Int):=by rw [y4e (by omega) (by omega)];simp
   have hnext:yrp (j+1) (yh3 11994318 (bs.take i) ^^^ bs[i].toNat*65536)=crc1 u:=by rw [yoj,hu]
   have hbit:(u*2 &&& 16777216≠0)↔u*2 / 16777216=1:=by
    rw [yqh,yh6]
    simp;omega
   refine AX.pcond rfl (fun hb2=>AX.reg ?_) (fun hb2=>AX.skip ?_)
   ·simp at hb2
    have hbit':u*2 &&& 16777216≠0:=hbit.2 (by omega)
    simp [y1t.r9,e6]
    apply jE
    simp [y1t.r10,e7]
    exact ⟨8-(j+1),by omega,_,_,.refl _ _,j+1,by omega,rfl,rfl,by simp [hnext,crc1,hbit']⟩
   ·simp at hb2
    have hbit':¬(u*2 &&& 16777216≠0):=fun h=>by have:=hbit.1 h;omega
    simp
    apply jE
    simp [y1t.r10,e7]
    exact ⟨8-(j+1),by omega,_,_,.refl _ _,j+1,by omega,rfl,rfl,by simp [hnext,crc1,hbit']⟩
  ·simp at hge
   have hj8:j=8:=by omega
   subst hj8
   simp
   apply jE
   have e8:IntKind.i64.wrap ((i:Int)+1)=((i+1:Nat):Int):=by rw [y4e (by omega) (by omega)];simp
   simp [y1t.r11,e8]
   exact ⟨bs.length-(i+1),by omega,_,_,.refl _ _,i+1,by omega,rfl,rfl,by simp [yok 11994318 bs i hlt,crcB]⟩
 ·simp at hge
  have hi':i=bs.length:=by omega
  subst hi'
  simp
  apply jA
  simp [y1t.r12]
  apply jD
  simp
theorem ykk (bs:List UInt8) (hb:bs.length≤140737488351232) (H:Hp):AC Tryz.prog ygp [.s bs] H (fun r H'=>r=.s (bs++yt8 (yh3 11994318 bs))∧H'=H):=by
 refine AC.codeC y6s.at y6s.ok (by simp) fun hl=>?_
 simp only [y6s]
 apply jA
 simp [y6s.r0]
 apply jA
 simp [y6s.r1]
 refine AC.fix (yw7 bs hb H) ?_
 try simp
 apply jA
 have e1:=ynf (yh3 11994318 bs) 65536
 have e2:=ynf (yh3 11994318 bs) 256
 have e3:=u8_all (yh3 11994318 bs)
 simp at e1 e2 e3
 simp [y6s.r2,ydi,e1,e2,e3,yt8,show bs.length+3≤9223372036854775807 by omega]
 apply jD
 simp [yt8]
 intro id blk hg
 have:=hl id blk hg
 simp [show id≠H.next by omega,hg]
theorem ypi (bs:List UInt8) (hb:bs.length≤140737488351232) (H:Hp):AC Tryz.prog ydd [.s bs] H (fun r H'=>r=.s (bs++yt8 (yh3 11994318 bs))∧H'=H):=by
 refine AC.codeC y4s.at y4s.ok (by simp) fun hl=>?_
 simp only [y4s]
 apply jA
 simp [y4s.r0]
 apply jA
 simp [y4s.r1]
 refine AC.fix (yuk bs hb H) ?_
 try simp
 apply jA
 have e1:=ynf (yh3 11994318 bs) 65536
 have e2:=ynf (yh3 11994318 bs) 256
 have e3:=u8_all (yh3 11994318 bs)
 simp at e1 e2 e3
 simp [y4s.r2,ydi,e1,e2,e3,yt8,show bs.length+3≤9223372036854775807 by omega]
 apply jD
 simp [yt8]
 intro id blk hg
 have:=hl id blk hg
 simp [show id≠H.next by omega,hg]
def yjw (bs:List UInt8):List UInt8:=bs++yt8 (yh3 11994318 bs)
@[simp] theorem yno (bs:List UInt8):(yjw bs).length=bs.length+3:=by simp [yjw,yt8]
def ycw (bs:List UInt8):List UInt8 × Bool:=
 if bs.length<3 then ([],false) else if yjw (bs.take (bs.length-3))=bs then (bs.take (bs.length-3),true) else ([],false)
theorem yq5 (bs:List UInt8) (hb:bs.length≤140737488351232) (H:Hp):AC Tryz.prog yip [.s bs] H (fun r H'=>r=.tup [.s (ycw bs).1,.b (ycw bs).2]∧H'=H):=by
 refine AC.code y4t.at y4t.ok ?_
 simp only [y4t]
 apply jA
 simp [y4t.r0]
 apply jB
 simp [y4t.r1]
 refine AX.pcond rfl (fun hlt=>jA ?_) (fun hge=>AX.skip ?_)
 ·simp at hlt
  simp [y4t.r2]
  apply jD
  simp [ycw,hlt]
 ·simp at hge
  simp
  apply jA
  have e1:IntKind.i64.wrap ((bs.length:Int)-3)=((bs.length-3:Nat):Int):=by rw [y4e (by omega) (by omega)];omega
  simp [y4t.r3,e1]
  apply jB
  simp [y4t.r4]
  refine AC.fix (ykk (bs.take (bs.length-3)) (by simp;omega) H) ?_
  simp
  refine AX.pcond rfl (fun hne=>jA ?_) (fun heq=>AX.skip ?_)
  ·simp at hne
   simp [y4t.r5]
   apply jD
   simp [ycw,yjw,hne]
  ·simp at heq
   simp
   apply jA
   simp [y4t.r6]
   apply jD
   simp [ycw,yjw,heq,show ¬bs.length<3 by omega]
theorem ypj (bs:List UInt8) (hb:bs.length≤140737488351232) (H:Hp):AC Tryz.prog yde [.s bs] H (fun r H'=>r=.tup [.s (ycw bs).1,.b (ycw bs).2]∧H'=H):=by
 refine AC.code y3v.at y3v.ok ?_
 simp only [y3v]
 apply jA
 simp [y3v.r0]
 have e1:3≤bs.length→IntKind.i64.wrap ((bs.length:Int)-3)=((bs.length-3:Nat):Int):=fun h=>by rw [y4e (by omega) (by omega)];omega
 apply jB
 by_cases hlt:bs.length<3
 ·simp [y3v.r1,hlt]
  refine jG rfl (jA ?_)
  simp [y3v.r2]
  apply jD
  simp [ycw,hlt]
 ·have e1:IntKind.i64.wrap ((bs.length:Int)-3)=((bs.length-3:Nat):Int):=by rw [y4e (by omega) (by omega)];omega
  simp [y3v.r1,hlt,e1]
  refine AC.fix (ypi (bs.take (bs.length-3)) (by simp;omega) H) ?_
  simp
  refine AX.pcond rfl (fun hne=>jA ?_) (fun heq=>AX.skip ?_)
  ·simp at hne
   simp [y3v.r2]
   apply jD
   simp [ycw,yjw,hne]
  ·simp at heq
   simp
   apply jA
   simp [y3v.r3,e1]
   apply jD
   simp [ycw,yjw,heq,show ¬bs.length<3 by omega]
def decR (l:List Str) (x:Str):Su × Int:=
 if (yaq l x).2≠0 then (su0,(yaq l x).2) else if suE (yaq l x).1≠0 then (su0,suE (yaq l x).1) else if y4u (yaq l x).1≠l then (su0,3) else ((yaq l x).1,0)
def y9p (u:Str):Rd:=if (y33 u ⟨0,0⟩).1≠1 then y6a (y33 u ⟨0,0⟩).2 5 else (y33 u ⟨0,0⟩).2
def yq4 (u:Str) (l:List Str × Rd):Su × Int:=
 if l.2.e≠0 then (su0,l.2.e) else if y7y u (y6y u l.2).2≠0 then (su0,y7y u (y6y u l.2).2) else decR l.1 (y6y u l.2).1
def ytb (u:Str):Su × Int:=if (y9p u).e≠0 then (su0,(y9p u).e) else yq4 u (y6t u (y9p u))
def yp6 (t:Str):Su × Int:=if t.take 4≠y7j then (su0,5) else ytb (t.drop 4)
def yhk (b:Str):Su × Int:=if 200000<b.length then (su0,9) else if (ycw b).2=false then (su0,14) else yp6 (ycw b).1
theorem ymg (u:Str):y7q u (y9p u):=by
 have h:=(y6d (t:=u) (σ:=⟨0,0⟩) ⟨by simp,by simp,by simp,by simp⟩).1
 unfold y9p
 split
 ·exact ydy h (by omega) (by omega) (by omega)
 ·exact h
theorem yse (x:Str):ycw (yjv x)=(x,true):=by
 have e:yjv x=yjw x:=rfl
 unfold ycw
 rw [e,if_neg (by simp),yno,show x.length+3-3=x.length by omega]
 have:(yjw x).take x.length=x:=by simp [yjw]
 rw [this,if_pos rfl]
theorem yk7 {b:Str} (h:(ycw b).2=true):b=yjv (ycw b).1∧(ycw b).1.length≤b.length:=by
 unfold ycw at *
 by_cases h1:b.length<3
 ·rw [if_pos h1] at h;simp at h
 rw [if_neg h1] at h ⊢
 by_cases h2:yjw (b.take (b.length-3))=b
 ·rw [if_pos h2];exact ⟨h2.symm,by simp⟩
 ·rw [if_neg h2] at h;simp at h
theorem decR_no {l:List Str} {x:Str} (h:(decR l x).2≠0):(decR l x).1=su0:=by
 unfold decR at *
 split
 ·rfl
 ·rename_i h1
  rw [if_neg h1] at h
  split
  ·rfl
  ·rename_i h2
   rw [if_neg h2] at h
   split
   ·rfl
   ·rename_i h3;rw [if_neg h3] at h;simp at h
theorem decE_no {b:Str} (h:(yhk b).2≠0):(yhk b).1=su0:=by
 unfold yhk yp6 ytb yq4 at *
 split
 ·rfl
 rename_i h1;rw [if_neg h1] at h
 split
 ·rfl
 rename_i h2;rw [if_neg h2] at h
 split
 ·rfl
 rename_i h3;rw [if_neg h3] at h
 split
 ·rfl
 rename_i h4;rw [if_neg h4] at h
 split
 ·rfl
 rename_i h5;rw [if_neg h5] at h
 split
 ·rfl
 rename_i h6;rw [if_neg h6] at h
 exact decR_no h
theorem su_size {s:Su} {k:Nat} (hk:k≤140737488355328) (hb:(evS s).length≤1000000) (h:∀t,Ev.txt t∈evS s→t.length≤k):suF s:=by
 have hsz:(evS s).length=1+((evL evW s.gives).length+((evL evW s.wants).length+((evL evW s.keeps).length+((evL evO s.sys.objs).length+((evL evF s.sys.fns).length+(evL evC s.sys.cons).length))))):=by simp [evS];omega
 have lw:∀l:List Str,l.length≤(evL evW l).length:=fun l=>yex evW l (fun x=>by simp [evW])
 have lo:=yex evO s.sys.objs (fun x=>by simp [evO])
 have lf:=yex evF s.sys.fns (fun x=>by simp [evF])
 have lc:=yex evC s.sys.cons (fun x=>by simp [evC])
 have w1:=lw s.gives
 have w2:=lw s.wants
 have w3:=lw s.keeps
 have hn:Ev.txt s.name∈evS s:=by simp [evS]
 have hin:∀{α:Type} (f:α→List Ev) (l:List α) (a:α) (t:Str),a∈l→Ev.txt t∈f a→Ev.txt t∈evL f l:=fun f l a t ha ht=>by simp only [evL,kJ,List.mem_flatMap];exact .inr ⟨a,ha,ht⟩
 have hkp:∀t∈s.keeps,Ev.txt t∈evS s:=fun t ht=>by
  have:=hin evW s.keeps t t ht (by simp [evW])
  simp only [evS,kJ,kY];exact .inr (.inr (.inr (.inl this)))
 have ho:∀o∈s.sys.objs,∀t,Ev.txt t∈evO o→Ev.txt t∈evS s:=fun o ho t ht=>by
  have:=hin evO s.sys.objs o t ho ht
  simp only [evS,kJ,kY];exact .inr (.inr (.inr (.inr (.inl this))))
 have hf:∀f∈s.sys.fns,∀t,Ev.txt t∈evF f→Ev.txt t∈evS s:=fun f hf t ht=>by
  have:=hin evF s.sys.fns f t hf ht
  simp only [evS,kJ,kY];exact .inr (.inr (.inr (.inr (.inr (.inl this)))))
 have hc:∀c∈s.sys.cons,∀t,Ev.txt t∈evC c→Ev.txt t∈evS s:=fun c hc t ht=>by
  have:=hin evC s.sys.cons c t hc ht
  simp only [evS,kJ,kY];exact .inr (.inr (.inr (.inr (.inr (.inr this)))))
 refine ⟨⟨kU (h _ hn) hk,by omega,by omega,by omega,fun t ht=>kU (h _ (hkp t ht)) hk,by omega,by omega,by omega,fun o hom=>?_,fun f hfm=>?_,fun c hcm=>?_⟩,hb⟩
 ·have hol:=ymm (f:=evO) hom
  have hm1:=yex evM o.marks (fun x=>by simp [evM])
  have hm2:(evL evM o.marks).length≤(evO o).length:=by simp [evO];omega
  have q:=fun t ht=>h t (ho o hom t ht)
  refine ⟨kU (q _ (by simp [evO])) hk,kU (q _ (by simp [evO])) hk,by omega,fun m hm=>kU (q _ ?_) hk⟩
  have:=hin evM o.marks m m.tag hm (by simp [evM])
  simp only [evO,kJ];exact .inr (.inr this)
 ·have q:=fun t ht=>h t (hf f hfm t ht)
  exact ⟨kU (q _ (by simp [evF])) hk,kU (q _ (by simp [evF])) hk⟩
 ·have hcl:=ymm (f:=evC) hcm
  have ha1:=lw c.args
  have ha2:(evL evW c.args).length≤(evC c).length:=by simp [evC];omega
  have q:=fun t ht=>h t (hc c hcm t ht)
  refine ⟨kU (q _ (by simp [evC])) hk,kU (q _ (by simp [evC])) hk,kU (q _ (by simp [evC])) hk,by omega,fun a ha=>kU (q _ ?_) hk⟩
  have:=hin evW c.args a a ha (by simp [evW])
  simp only [evC,kJ];exact .inr (.inr (.inr (.inr (.inr this))))
theorem ypk {l:List Str} {x:Str} (hr:y51 l) (h:(yaq l x).2=0):x=y6e l (evS (yaq l x).1)∧(∀e∈evS (yaq l x).1,yta l e):=by
 obtain ⟨o,g⟩:=sum_got (t:=x) (σ:=⟨0,0⟩) hr ⟨by simp,by simp,by simp,by simp⟩
 unfold yaq at *
 by_cases h1:y7y x (ygv l x ⟨0,0⟩).2≠0
 ·rw [if_pos h1] at h;exact (h1 h).elim
 rw [if_neg h1]
 generalize ygv l x ⟨0,0⟩=S at *
 have he:S.2.e=0:=by
  unfold y7y at h1
  by_cases h2:S.2.e=0∧S.2.pos<x.length
  ·exact h2.1
  ·rw [if_neg h2] at h1;simpa using h1
 have hp:¬S.2.pos<x.length:=fun h3=>by
  unfold y7y at h1
  rw [if_pos ⟨he,h3⟩] at h1
  exact h1 (by decide)
 have g:=g he
 refine ⟨?_,g.ok⟩
 have:=g.bytes
 rw [List.drop_of_length_le (by omega:x.length≤S.2.pos)] at this
 simpa using this
theorem ymf {l:List Str} {x:Str} (hr:y51 l) (hl:∀s∈l,s.length≤1000) (hx:x.length≤1000000) (h:(yaq l x).2=0):suF (yaq l x).1:=by
 obtain ⟨h1,h2⟩:=ypk hr h
 have h3:=yof l (evS (yaq l x).1)
 rw [←h1] at h3
 exact su_size (k:=1000) (by omega) (by omega) (fun t ht=>hl t (h2 _ ht))
theorem ymi {pool:List Str} (hl:pool.length≤268435456) (hr:y51 pool):∀(es:List Ev) (τ:Qw),τ.e=0→(∀x∈es,yta pool x)→(y5q pool τ es).bs=τ.bs++y6e pool es∧(y5q pool τ es).e=0
 | [],τ,h,_=>by simp [h]
 | .num n::es,τ,h,ho=>by
  have h1:=ho _ (List.mem_cons_self ..)
  simp only [yta] at h1
  rw [ybd]
  have e1:yl2 pool τ (.num n)={ τ with bs:=τ.bs++y8x n.toNat }:=by simp only [yl2,y60];rw [if_neg (by simp [h]),if_neg (by omega)]
  rw [e1]
  have:=ymi hl hr es { τ with bs:=τ.bs++y8x n.toNat } h (fun x hx=>ho x (by simp [hx]))
  rw [this.1,ygq,←kV]
  exact ⟨rfl,this.2⟩
 | .txt s::es,τ,h,ho=>by
  have h1:=ho _ (List.mem_cons_self ..)
  simp only [yta] at h1
  have hp:=(List.getElem?_eq_some_iff.1 ((yeh hr s).1 h1)).1
  rw [ybd]
  have e1:yl2 pool τ (.txt s)={ bs:=τ.bs++y8x (ydv pool s),all:=yac τ.all s,e:=0 }:=by
   simp only [yl2,y5s,h1,not_true_eq_false,false_and,if_false,y60,h,ne_eq,ydv,if_true]
   rw [if_neg (by omega)]
   simp
  rw [e1]
  have:=ymi hl hr es { bs:=τ.bs++y8x (ydv pool s),all:=yac τ.all s,e:=0 } rfl (fun x hx=>ho x (by simp [hx]))
  rw [this.1,ygq,←kV]
  exact ⟨rfl,this.2⟩
theorem ypl {pool:List Str} (hl:pool.length≤268435456) (hr:y51 pool) {s:Su} (ho:∀x∈evS s,yta pool x):ync pool s=(y6e pool (evS s),0):=by
 have:=ymi hl hr (evS s) qw0 rfl ho
 unfold ync
 rw [if_neg (by simp [this.2]),this.1]
 simp [qw0]
theorem evS_ok {s:Su} (he:suE s=0) (hb:(evS s).length≤1000000):∀x∈evS s,yta (y4u s) x:=fun x hx=>by
 cases x with
 | num n=>exact yre s he hb n hx
 | txt t=>exact yfp.2 (yjo.1 hx)
theorem suG_of {pool:List Str} {s:Su} (h:suH s) (ho:∀x∈evS s,yta pool x):suG pool s:=by
 obtain ⟨_,h1,h2,h3,h4,h5,h6,h7,h8,h9⟩:=h
 have hin:∀{α:Type} (f:α→List Ev) (l:List α) (a:α) (x:Ev),a∈l→x∈f a→x∈evL f l:=fun f l a t ha ht=>by simp only [evL,kJ,List.mem_flatMap];exact .inr ⟨a,ha,ht⟩
 have hob:∀o∈s.sys.objs,∀x∈evO o,yta pool x:=fun o hom x hx=>ho x (by
  have:=hin evO s.sys.objs o x hom hx
  simp only [evS,kJ,kY];exact .inr (.inr (.inr (.inr (.inl this)))))
 have hfn:∀o∈s.sys.fns,∀x∈evF o,yta pool x:=fun o hom x hx=>ho x (by
  have:=hin evF s.sys.fns o x hom hx
  simp only [evS,kJ,kY];exact .inr (.inr (.inr (.inr (.inr (.inl this))))))
 have hcn:∀o∈s.sys.cons,∀x∈evC o,yta pool x:=fun o hom x hx=>ho x (by
  have:=hin evC s.sys.cons o x hom hx
  simp only [evS,kJ,kY];exact .inr (.inr (.inr (.inr (.inr (.inr this))))))
 refine ⟨ho (.txt s.name) (by simp [evS]),⟨by omega,fun a ha=>ho (.txt a) ?_⟩,⟨by omega,fun a ha=>ho (.txt a) ?_⟩,⟨by omega,fun a ha=>ho (.txt a) ?_⟩,⟨by omega,fun o hom=>?_⟩,⟨by omega,fun f hfm=>?_⟩,by omega,fun c hcm=>?_⟩
 ·have:=hin evW s.gives a (.txt a) ha (by simp [evW])
  simp only [evS,kJ,kY];exact .inr (.inl this)
 ·have:=hin evW s.wants a (.txt a) ha (by simp [evW])
  simp only [evS,kJ,kY];exact .inr (.inr (.inl this))
 ·have:=hin evW s.keeps a (.txt a) ha (by simp [evW])
  simp only [evS,kJ,kY];exact .inr (.inr (.inr (.inl this)))
 ·have q:=hob o hom
  refine ⟨q (.txt o.name) (by simp [evO]),q (.txt o.kinds) (by simp [evO]),by have:=h8 o hom;omega,fun m hm=>?_⟩
  have p1:=q (.num m.pos) (by have:=hin evM o.marks m (.num m.pos) hm (by simp [evM]);simp only [evO,kJ];exact .inr (.inr this))
  have p2:=q (.txt m.tag) (by have:=hin evM o.marks m (.txt m.tag) hm (by simp [evM]);simp only [evO,kJ];exact .inr (.inr this))
  exact ⟨p1.1,p1.2,p2⟩
 ·have q:=hfn f hfm
  exact ⟨q (.txt f.name) (by simp [evF]),q (.txt f.kinds) (by simp [evF]),q (.txt f.ret) (by simp [evF])⟩
 ·have q:=hcn c hcm
  refine ⟨q (.num c.op) (by simp [evC]),q (.txt c.a) (by simp [evC]),q (.txt c.b) (by simp [evC]),q (.num c.k) (by simp [evC]),q (.txt c.tag) (by simp [evC]),h9 c hcm,fun a ha=>q (.txt a) ?_⟩
  have:=hin evW c.args a (.txt a) ha (by simp [evW])
  simp only [evC,kJ];exact .inr (.inr (.inr (.inr (.inr this))))
theorem ylj {t:Str} {σ:Rd} (he:σ.e=0) (hp:¬σ.pos<t.length):y7y t σ=0:=by unfold y7y;rw [if_neg (fun h=>hp h.2)];exact he
theorem dec_ful {s:Su} (hs:suH s) (he:(yms s).2=0):yhk (yms s).1=(s,0):=by
 have hb:=hs.1.2
 have hsu:suE s=0:=by
  unfold yms at he
  by_cases h:suE s=0
  ·exact h
  ·rw [if_pos h] at he;exact (h he).elim
 unfold yms at he ⊢
 rw [if_neg (by simp [hsu])] at he ⊢
 by_cases h2:6000<(y4u s).length
 ·rw [if_pos h2] at he;simp at he
 rw [if_neg h2] at he ⊢
 by_cases h3:((y4u s).any fun t=>decide (1000<t.length))=true
 ·rw [if_pos h3] at he;simp at he
 rw [if_neg h3] at he ⊢
 by_cases h4:200000<(yfe s).length
 ·rw [if_pos h4] at he;simp at he
 rw [if_neg h4]
 have hr:y51 (y4u s):=yaw _
 have h1000:∀t∈y4u s,t.length≤1000:=fun t ht=>by
  by_cases h:t.length≤1000
  ·exact h
  ·exact (h3 (List.any_eq_true.2 ⟨t,ht,by simp;omega⟩)).elim
 have hok:=evS_ok hsu hb
 have hrec:=ypl (by omega) hr hok
 have hG:=suG_of hs hok
 unfold yhk
 rw [if_neg h4,yfe,yse]
 rw [if_neg (by simp)]
 simp only
 unfold yp6
 have e4:(y7j++yen (y4u s) (ync (y4u s) s).1).take 4=y7j:=by simp [y7j]
 have e5:(y7j++yen (y4u s) (ync (y4u s) s).1).drop 4=yen (y4u s) (ync (y4u s) s).1:=by simp [y7j]
 rw [if_neg (by simp [e4]),e5,hrec]
 have hlen:(y6e (y4u s) (evS s)).length≤200000:=by
  have:(yfe s).length=(yjv (y7j++yen (y4u s) (ync (y4u s) s).1)).length:=rfl
  rw [hrec] at this
  simp only [yjv,yen,kR] at this
  omega
 generalize hbody:y6e (y4u s) (evS s)=x at *
 generalize hu:yen (y4u s) x=u at *
 have d0:u.drop (⟨0,0⟩:Rd).pos=y8x 1++(yf9 (y4u s)++(y8x x.length++(x++[]))):=by simp [←hu,yen]
 have n1:=yhe (t:=u) (σ:=⟨0,0⟩) rfl (by omega) d0
 have d1:=y7w d0
 have n2:=yuv (t:=u) (by omega) h1000 hr (by exact rfl) d1
 have d2:=y7w d1
 have n3:=yu3 (t:=u) (by exact rfl) (by omega) d2
 rw [←kV] at d2
 have d3:=y7w d2
 have hv:y9p u=yec ⟨0,0⟩ (y8x 1):=by unfold y9p;rw [n1];simp
 unfold ytb
 rw [hv,if_neg (by simp [yec]),n2]
 unfold yq4
 rw [if_neg (by simp [yec]),n3]
 simp only
 have hend:=List.drop_eq_nil_iff.1 d3
 have hd:y7y u (yec (yec (yec ⟨0,0⟩ (y8x 1)) (yf9 (y4u s))) (y8x x.length++x))=0:=ylj rfl (by omega)
 rw [if_neg (by simp [hd])]
 have n4:=sum_ful (t:=x) (σ:=⟨0,0⟩) hr (by omega) hG (rest:=[]) rfl (by simp [hbody])
 have hrd:yaq (y4u s) x=(s,0):=by
  unfold yaq
  rw [n4]
  have:y7y x (yec ⟨0,0⟩ (y6e (y4u s) (evS s)))=0:=ylj rfl (by rw [hbody];simp [yec])
  rw [if_neg (by simp [this])]
 unfold decR
 rw [hrd]
 simp [hsu]
theorem dec_got {b:Str} (h:(yhk b).2=0):yms (yhk b).1=(b,0)∧suF (yhk b).1∧suE (yhk b).1=0:=by
 unfold yhk at h ⊢
 by_cases h1:200000<b.length
 ·rw [if_pos h1] at h;simp at h
 rw [if_neg h1] at h ⊢
 cases h2:(ycw b).2 with
 | false=>rw [h2] at h;simp at h
 | true=>
 obtain ⟨hb,hbl⟩:=yk7 h2
 rw [h2] at h
 simp only [Bool.true_eq_false,if_false] at h ⊢
 generalize (ycw b).1=t at *
 unfold yp6 at h ⊢
 by_cases h3:t.take 4=y7j
 rotate_left
 ·rw [if_pos h3] at h;simp at h
 rw [if_neg (by simp [h3])] at h ⊢
 have ht:t=y7j++t.drop 4:=by rw [←h3,List.take_append_drop]
 generalize hu:t.drop 4=u at *
 have hul:u.length≤200000:=by rw [←hu];simp;omega
 unfold ytb at h ⊢
 by_cases h4:(y9p u).e=0
 rotate_left
 ·rw [if_pos h4] at h;exact (h4 h).elim
 rw [if_neg (by simp [h4])] at h ⊢
 have o0:y7q u ⟨0,0⟩:=⟨by simp,by simp,by simp,by simp⟩
 have g1:y9p u=(y33 u ⟨0,0⟩).2∧(y33 u ⟨0,0⟩).1=1:=by
  unfold y9p at *
  by_cases h5:(y33 u ⟨0,0⟩).1=1
  ·rw [if_neg (by simp [h5])];exact ⟨rfl,h5⟩
  ·rw [if_pos h5] at h4;have:=(ymh h4).2.1;omega
 have o1:=ymg u
 have gb1:=yrf (t:=u) (σ:=⟨0,0⟩) o0
 rw [←g1.1,g1.2] at gb1
 have gb1:=gb1 h4
 unfold yq4 at h ⊢
 have gp:=yk4 (t:=u) (σ:=y9p u) o1
 generalize y6t u (y9p u)=l at *
 by_cases h5:l.2.e=0
 rotate_left
 ·rw [if_pos h5] at h;exact (h5 h).elim
 rw [if_neg (by simp [h5])] at h ⊢
 obtain ⟨gb2,hr,h1000,h6000,o2⟩:=gp h5
 have gt:=txt_gb (t:=u) (σ:=l.2) o2
 have o3:=(ygn (t:=u) (σ:=l.2) o2).1
 generalize y6y u l.2=x at *
 by_cases h6:y7y u x.2=0
 rotate_left
 ·rw [if_pos h6] at h;exact (h6 h).elim
 rw [if_neg (by simp [h6])] at h ⊢
 have hxe:x.2.e=0∧¬x.2.pos<u.length:=by
  unfold y7y at h6
  by_cases h7:x.2.e=0∧x.2.pos<u.length
  ·rw [if_pos h7] at h6;simp at h6
  ·rw [if_neg h7] at h6;exact ⟨h6,fun h8=>h7 ⟨h6,h8⟩⟩
 obtain ⟨gb3,hxl⟩:=gt hxe.1
 have hbytes:=(gb1.trans (gb2.trans gb3)).bytes
 rw [List.drop_of_length_le (by omega:u.length≤x.2.pos)] at hbytes
 have hrest:u=yen l.1 x.1:=by simpa [yen] using hbytes
 have hxu:x.1.length≤200000:=by have:=congrArg List.length hrest;simp [yen] at this;omega
 unfold decR at h ⊢
 by_cases h7:(yaq l.1 x.1).2=0
 rotate_left
 ·rw [if_pos h7] at h;exact (h7 h).elim
 rw [if_neg (by simp [h7])] at h ⊢
 obtain ⟨hx,hok⟩:=ypk hr h7
 have hsz:=ymf hr h1000 (by omega) h7
 generalize (yaq l.1 x.1).1=s at *
 by_cases h8:suE s=0
 rotate_left
 ·rw [if_pos h8] at h;exact (h8 h).elim
 rw [if_neg (by simp [h8])] at h ⊢
 by_cases h9:y4u s=l.1
 rotate_left
 ·rw [if_pos h9] at h;simp at h
 rw [if_neg (by simp [h9])]
 refine ⟨?_,hsz,h8⟩
 have hrec:=ypl (by omega) hr hok
 rw [←hx] at hrec
 have hfile:yfe s=b:=by rw [yfe,h9,hrec,hb,ht,hrest]
 unfold yms
 rw [if_neg (by simp [h8]),h9,if_neg (by omega),if_neg,hfile,if_neg h1]
 simp only [List.any_eq_true,decide_eq_true_eq,not_exists,not_and]
 intro t ht'
 have:=h1000 t ht'
 omega
def suA:Su:=⟨[97],[],[],[],⟨[],[],[]⟩⟩
theorem suA_h:suH suA:=by
 refine ⟨⟨⟨by simp [suA],by simp [suA],by simp [suA],by simp [suA],by simp [suA],by simp [suA],by simp [suA],by simp [suA],by simp [suA],by simp [suA],by simp [suA]⟩,by simp [suA,evS,evL]⟩,by simp [suA],by simp [suA],by simp [suA],⟨by simp [suA],by simp [suA],by simp [suA],by simp [suA],by simp [suA],by simp [suA]⟩,by simp [suA],by simp [suA],by simp [suA],by simp [suA],by simp [suA]⟩
theorem suA_e:suE suA=0:=by kernel_rfl
theorem suA_t:y4u suA=[[97]]:=by kernel_rfl
theorem suA_r:ync [[97]] suA=([0,0,0,0,0,0,0],0):=by
 have h:=ypl (pool:=[[97]]) (by simp) (by simp [y51]) (s:=suA) (by have:=evS_ok suA_e suA_h.1.2;rw [suA_t] at this;exact this)
 rw [h]
 have hp:ydv [[97]] [97]=0:=by kernel_rfl
 simp [y6e,yog,evS,evL,evW,suA,hp,yb6]
theorem suA_enc:(yms suA).2=0∧(yms suA).1.length=20∧(yms suA).1.take 9=[119,101,102,116,1,1,0,1,97]:=by
 have hs:shN [] [97]=0:=rfl
 have hf:yfe suA=yjv [119,101,102,116,1,1,0,1,97,7,0,0,0,0,0,0,0]:=by
  rw [yfe,suA_t,suA_r]
  simp [y7j,yen,yf9,yf8,hs,yb6]
 have hl:(yfe suA).length=20:=by rw [hf];simp [yjv,yt8]
 have he:yms suA=(yfe suA,0):=by
  unfold yms
  rw [if_neg (by simp [suA_e]),suA_t,if_neg (by simp),if_neg (by simp),if_neg (by omega)]
 rw [he]
 refine ⟨rfl,hl,?_⟩
 rw [hf]
 simp [yjv]
open Go.Proofs
set_option maxRecDepth 100000
namespace C
def y3r.r0:jI:=[av 0]
def y3r.r1:jI:=[⟨some 6,none,.op (.build [.s [],.fs [],.fs [],.fs [],.fs [],.fs [],.fs []] [(0,1,.c (.s [97]))])⟩,⟨some 7,none,.call ydf [.t 6]⟩,ab 5 7,am 8 0 5,am 9 1 5,ab 1 8,ab 2 9]
def y3r.r2:jI:=[ab 11 1,⟨some 12,none,.call yb4 [.t 11]⟩,ab 10 12,am 13 0 10,am 14 1 10,a28 3 0 0 0 0 0 0 0 0 0 0 0 0,aq 7 3 13,ab 4 14]
def y3r.r3:jI:=[ab 15 2,a17 16 15 0,ab 17 16,aj 18 17 4,a1k 19 17 18 0,ar 20 17 19,ab 21 20,aj 22 21 1,a1v 23 21 22,a1k 24 21 23 20,ar 25 21 24,ab 26 25,aj 27 26 1,⟨some 28,(some (26,true)),.op (.sls (.t 27) none (some (.c (.i .i64 9))))⟩,⟨some 29,(some (26,true)),.op (.bin .eql (.t 28) (.c (.s [119,101,102,116,1,1,0,1,97])))⟩,ar 30 26 29,ab 31 30,a11 32 31 0 3,a10 33 31 1 32,⟨some 34,(some (31,true)),.op (.bin .eql (.t 33) (.c (.s [97])))⟩,ar 35 31 34,ab 0 35]
def y3r:AFunc:=⟨36,[.t 0],jJ [] y3r.r0 (jJ [1,2] y3r.r1 (jJ [1,2,3,4] y3r.r2 (jJ [0] y3r.r3 (.ret))))⟩
theorem y3r.ok:y1x Tryz.prog Tryz.f10 y3r=true:=by kernel_rfl
theorem y3r.at:kn ych Tryz.f10:=Tryz.func10
end C
end Go.Proofs.YthmkcebbeehbeaaGreatDoor
