/- Part 38. -/
import Derived.Test.YthmkcebbeehbeaaGreatDoorXGw17
import Derived.Test.YthmkcebbeehbeaaGreatDoorXGw30
import Derived.Test.YthmkcebbeehbeaaGreatDoorXGw37
set_option linter.unusedSimpArgs false
set_option linter.unusedVariables false
namespace Go.Proofs.YthmkcebbeehbeaaGreatDoor
open Am C
def N2Inv (H:Hp) (n:Nat) (m:Nat) (F:Fr) (X:Hp):Prop:=
 ∃pre:Str,y8x n=pre++y8x m∧m≤n∧H.Ext X∧(∀k blk,X.get k=some blk→k<X.next)∧F=[(0,.i .i64 m),(3,.s pre)]
theorem yqo (n:Nat) (hn:n<9223372036854775808) (H:Hp):AC Tryz.prog ybo [.i .i64 (n:Nat)] H (fun v H'=>v=.s (y8x n)∧H'=H):=by
 refine AC.codeP y2o.at y2o.ok (ydk _) fun hlt=>?_
 simp only [y2o]
 apply jA
 simp [y2o.r0]
 apply jA
 simp [y2o.r1]
 refine AX.seq (AX.pblock (AX.loop (N2Inv H n) n ⟨_,_,.refl _ _,[],rfl,kF _,.refl _,hlt,rfl⟩ ?_))
 rintro m F X ⟨pre,hv,hm,hx,hl,rfl⟩
 have hp:pre.length≤9:=by have:=yty hn;rw [hv] at this;simp at this;omega
 simp only [y2o.l0]
 apply jB
 simp [y2o.r2]
 refine AX.pcond rfl (fun hd=>AX.skip ?_) (fun hd=>AX.exit ?_)
 ·simp at hd
  simp
  have e1:(m:Int).tmod 128=((m % 128:Nat):Int):=yqz m 128
  have eb:UInt8.ofNat (Go.IntKind.u8.wrap (Go.IntKind.u8.wrap ((m:Int) % 128)+128)).toNat=UInt8.ofNat (m % 128+128):=by
   rw [yfz (n:=(m:Int) % 128) (by omega) (by omega),yfz (by omega) (by omega)]
   congr 1 <;> omega
  have e4:(m:Int).tdiv 128=((m / 128:Nat):Int):=tdiv_nat m 128
  have e5:Go.IntKind.i64.wrap ((m:Int) / 128)=((m / 128:Nat):Int):=by rw [y4e (by omega) (by omega)];omega
  refine AX.pblock (jA ?_)
  simp [y2o.r3,ydi,e1]
  refine ⟨by omega,?_⟩
  rw [eb]
  have ha:=Am.Hp.Ext.add hl (.cells [V.i .u8 (Go.IntKind.u8.wrap (Go.IntKind.u8.wrap ((m:Int) % 128)+128))] 1)
  have hb:=Hp.add_lt hl (.cells [V.i .u8 (Go.IntKind.u8.wrap (Go.IntKind.u8.wrap ((m:Int) % 128)+128))] 1)
  generalize X.add (.cells [V.i .u8 (Go.IntKind.u8.wrap (Go.IntKind.u8.wrap ((m:Int) % 128)+128))] 1)=Y at *
  apply jE
  simp [y2o.r4,e4,e5]
  exact ⟨m / 128,by omega,_,_,.refl _ _,pre++[UInt8.ofNat (m % 128+128)],by rw [hv,yii (n:=m) (by omega)];simp,by omega,hx.trans ha,hb,by simp⟩
 ·simp at hd
  simp
  have eb:UInt8.ofNat (Go.IntKind.u8.wrap (m:Int)).toNat=UInt8.ofNat m:=by
   rw [yfz (by omega) (by omega)];simp
  apply jA
  simp [y2o.r5,ydi,eb]
  refine ⟨by omega,AX.ret ?_⟩
  simp
  rw [hv,yb6 hd]
  exact ⟨hx.trans (.add hl _),.refl _⟩
def yf1 (pool:List Str) (pv:V):Prop:=y51 pool∧pool.length≤1000000000∧((pool=[]∧pv=.p none)∨pv=.fp [ss pool] 0)
theorem yjl (pool:List Str) (pv:V) (hp:yf1 pool pv) (H:Hp):AC Tryz.prog y8q [pv] H (fun v H'=>v=ss pool∧H'=H):=by
 refine AC.codeP y3x.at y3x.ok (ycp _) fun hlt=>?_
 simp only [y3x]
 obtain ⟨hr,hl,⟨rfl,rfl⟩ | rfl⟩:=hp
 ·apply jA
  simp [y3x.r0]
  apply jB
  simp [y3x.r1]
  refine jG rfl (jA ?_)
  simp [y3x.r2]
  apply jD
  simp
  exact ⟨.refl _,.sl0 _⟩
 ·apply jA
  simp [y3x.r0]
  apply jB
  simp [y3x.r1]
  refine jF rfl (AX.skip ?_)
  simp
  apply jA
  simp [y3x.r3]
  apply jD
  simp
  exact ⟨.refl _,.refl _⟩
theorem yt2 (pool:List Str) (pv:V) (hp:yf1 pool pv) (s:Str) (H:Hp):AC Tryz.prog ybw [pv,.s s] H (fun v H'=>v=.tup [.i .i64 (ydv pool s:Nat),.b (decide (s∈pool))]∧H'=H):=by
 refine AC.code y3f.at y3f.ok ?_
 simp only [y3f]
 apply jA
 simp [y3f.r0]
 apply jA
 simp [y3f.r1]
 refine AC.fix (yjl pool pv hp _) ?_
 simp
 refine AC.fix (BinS_ok pool s hp.1 hp.2.1 _) ?_
 simp
 apply jB
 simp [y3f.r2]
 by_cases h:s∈pool
 ·refine jF (by simp [h]) (AX.skip ?_)
  simp
  apply jA
  simp [y3f.r4]
  apply jD
  simp [ydv,h]
 ·refine jG (by simp [h]) (jA ?_)
  simp [y3f.r3]
  apply jD
  simp [ydv,h]
theorem Am.callv_mono {P:Go.Program} {v:V} {args:List V} {H:Hp} {k k':V→Hp→Prop} (h:callv P v args H k) (hk:∀v H,k v H→k' v H):callv P v args H k':=by
 unfold callv at *
 split at h
 ·exact h.mono hk
 ·exact h.mono hk
 ·exact h.mono hk
 ·exact h.elim
def tcl (l:List Str):List (List V):=l.map fun x=>[.s x]
def Dis (v u:V):Prop:=∀j,ydh v j∨ydh u j
structure RW (B:Hp) (id:Nat) (pv sv:V) (lid:Option Nat) (Z:Nat→Option Blk) (σ:Rw) (X:Hp):Prop where
 ex:∃v lv es,WB B 109 6 id [.i .i64 σ.we,pv,sv,.i .i64 σ.e] σ.bs X v∧Acc B 1 lv X es∧Dis v lv∧ydh lv id∧
  (∀k,lid=some k→es=tcl σ.l∧X.get k=some (.cells [lv] 1)∧ydh v k∧ydh lv k∧k≠id∧B.next≤k)∧
  (∀k blk,Z k=some blk→X.get k=some blk∧k≠id∧lid≠some k∧ydh v k∧ydh lv k)
section
variable {B:Hp} {id:Nat} {pv sv:V} {lid:Option Nat} {Z:Nat→Option Blk} {σ:Rw} {X:Hp}
theorem RW.lt (R:RW B id pv sv lid Z σ X):∀k blk,X.get k=some blk→k<X.next:=let ⟨_,_,_,W,_⟩:=R.ex;W.acc.lt
theorem RW.z (R:RW B id pv sv lid Z σ X) {k:Nat} {blk:Blk} (h:Z k=some blk):X.get k=some blk:=let ⟨_,_,_,_,_,_,_,_,z⟩:=R.ex;(z k blk h).1
theorem RW.more {Y:Hp} (R:RW B id pv sv lid Z σ X) (e:X.Ext Y) (hl:∀k blk,Y.get k=some blk→k<Y.next):RW B id pv sv lid Z σ Y:=by
 obtain ⟨v,lv,es,W,A,d,s,hk,hz⟩:=R.ex
 exact ⟨v,lv,es,W.ext e hl,A.more e hl,d,s,fun k h=>let ⟨a,b,c⟩:=hk k h;⟨a,e.2 _ _ b,c⟩,fun k blk h=>let ⟨a,b⟩:=hz k blk h;⟨e.2 _ _ a,b⟩⟩
theorem RW.add {Y:Hp} {b:Blk} (R:RW B id pv sv lid Z σ X) (e:X.Ext Y) (hl:∀k blk,Y.get k=some blk→k<Y.next) (hg:Y.get X.next=some b):
  RW B id pv sv lid (fun j=>if j=X.next then some b else Z j) σ Y:=by
 obtain ⟨v,lv,es,W,A,d,s,hk,hz⟩:=R.ex
 obtain ⟨a,buf,m,hgi,_⟩:=W.ex
 have hid:=W.acc.lt _ _ hgi
 refine ⟨v,lv,es,W.ext e hl,A.more e hl,d,s,fun k h=>let ⟨a,b,c⟩:=hk k h;⟨a,e.2 _ _ b,c⟩,fun k blk h=>?_⟩
 by_cases hkx:k=X.next
 ·subst hkx
  simp at h;subst h
  refine ⟨hg,by omega,fun h=>?_,W.acc.slLt (kF _),A.slLt (kF _)⟩
  have:=W.acc.lt _ _ (hk _ h).2.1
  omega
 ·simp [hkx] at h
  exact let ⟨a,b⟩:=hz k blk h;⟨e.2 _ _ a,b⟩
theorem RW.get (R:RW B id pv sv lid Z σ X):∃a buf m,X.get id=some (.cells [a,buf,.i .i64 σ.we,pv,sv,.i .i64 σ.e] m)∧m≤6:=by
 obtain ⟨v,lv,es,W,_⟩:=R.ex
 obtain ⟨a,buf,m,hg,hm,_⟩:=W.ex
 exact ⟨a,buf,m,hg,hm⟩
theorem RW.turn {σ':Rw} {X':Hp} {v lv v':V} {es:List (List V)} (hl:σ'.l=σ.l) (W:WB B 109 6 id [.i .i64 σ.we,pv,sv,.i .i64 σ.e] σ.bs X v) (A:Acc B 1 lv X es) (d:Dis v lv) (s:ydh lv id)
  (hk:∀k,lid=some k→es=tcl σ.l∧X.get k=some (.cells [lv] 1)∧ydh v k∧ydh lv k∧k≠id∧B.next≤k) (hz:∀k blk,Z k=some blk→X.get k=some blk∧k≠id∧lid≠some k∧ydh v k∧ydh lv k)
  (W':WB B 109 6 id [.i .i64 σ'.we,pv,sv,.i .i64 σ'.e] σ'.bs X' v') (K:Kp id v X v' X'):RW B id pv sv lid Z σ' X':=by
 have A':Acc B 1 lv X' es:=by
  refine ⟨W'.acc.ext,W'.acc.lt,A.all,A.sl.imp (fun x=>x) ?_⟩
  rintro ⟨j,m,a,e,c,f⟩
  refine ⟨j,m,a,e,?_,f⟩
  subst e
  exact (K.2 j _ c s ((d j).resolve_right fun h=>h rfl)).1
 have d':Dis v' lv:=fun j=>by
  by_cases hj:ydh lv j
  ·exact .inr hj
  ·left
   rcases A.sl with ⟨_,z,rfl⟩ | ⟨i,m,a,rfl,c,f⟩
   ·exact (hj trivial).elim
   ·have:i=j:=by
     by_cases e:i=j
     ·exact e
     ·exact (hj e).elim
    subst this
    exact (K.2 i _ c s ((d i).resolve_right hj)).2
 refine ⟨v',lv,es,W',A',d',s,fun k h=>?_,fun k blk h=>?_⟩
 ·obtain ⟨a,b,s1,s2,n,lo⟩:=hk k h
  obtain ⟨g,s3⟩:=K.2 _ _ b n s1
  exact ⟨by rw [hl];exact a,g,s3,s2,n,lo⟩
 ·obtain ⟨b,n,n2,s1,s2⟩:=hz k blk h
  obtain ⟨g,s3⟩:=K.2 _ _ b n s1
  exact ⟨g,n,n2,s3,s2⟩
theorem ys3 (R:RW B id pv sv lid Z σ X) (x:Int):
  AC Tryz.prog y96 [.p (some (id,0,6)),.i .i64 x] X (fun r X'=>r=.tup []∧RW B id pv sv lid Z (yax σ x) X'):=by
 obtain ⟨v,lv,es,W,A,d,s,hk,hz⟩:=R.ex
 obtain ⟨a,buf,m,hg,hm,h⟩:=W.ex
 refine AC.code y4m.at y4m.ok ?_
 simp only [y4m]
 apply jA
 simp [y4m.r0,hg,hm]
 by_cases he:σ.e=0
 ·refine jG (by simp [he]) (AX.reg ?_)
  simp [y4m.r1,hg,hm]
  obtain ⟨W',K⟩:=W.cells hg (cs':=[.i .i64 σ.we,pv,sv,.i .i64 x]) rfl 6 (by omega)
  exact RW.turn (σ:=σ) (σ':=yax σ x) rfl W A d s hk hz (by simpa [yax,he] using W') K
 ·refine jF (by simp [he]) (AX.skip ?_)
  simp
  have:yax σ x=σ:=by simp [yax,he]
  rw [this];exact R
theorem yho (R:RW B id pv sv lid Z σ X) (n:Int) (hb:σ.bs.length≤1000000000):
  AC Tryz.prog y4q [.p (some (id,0,6)),.i .i64 n] X (fun r X'=>r=.tup []∧RW B id pv sv lid Z (ybi σ n) X'):=by
 refine AC.code y3l.at y3l.ok ?_
 simp only [y3l]
 refine AX.seq (AX.test (decide (n<0)||decide (268435456<n)) [(0,.p (some (id,0,6))),(1,.i .i64 n),(9,.b (decide (n<0)||decide (268435456<n)))] ?_ rfl (fun h1=>?_) (fun h1=>AX.skip ?_))
 ·by_cases h1:n<0
  ·simp [y3l.r0,h1]
  ·simp [y3l.r0,h1]
 ·simp at h1
  apply jA
  simp [y3l.r1]
  refine (ys3 R 2).mono ?_
  rintro _ X' ⟨rfl,R'⟩
  simp
  apply jD
  simp [ybi]
  rw [if_pos h1];exact R'
 ·simp at h1
  simp
  apply jE
  obtain ⟨v,lv,es,W,A,d,s,hk,hz⟩:=R.ex
  obtain ⟨a,buf,m,hg,hm,h⟩:=W.ex
  simp [y3l.r2]
  refine (yfi n W hb).mono ?_
  rintro _ X' ⟨rfl,v',W',K⟩
  simp
  refine RW.turn (σ:=σ) (σ':=ybi σ n) (yf4 σ n).2 W A d s hk hz ?_ K
  have:ybi σ n={ σ with we:=(yjn σ.we σ.bs n).1,bs:=(yjn σ.we σ.bs n).2 }:=by unfold ybi;rw [if_neg (by omega)]
  rw [this];exact W'
def yox (sv:V) (lid:Option Nat):Prop:=(∃k,lid=some k∧sv=.fn y70 [.p (some (k,0,1))])∨(lid=none∧sv=.fn y7n [])
theorem Seen_ok (R:RW B id pv sv lid Z σ X) (hs:yox sv lid) (t:Str) (hb:σ.l.length≤1000000000):
  callv Tryz.prog sv [.s t] X (fun r X'=>r=.tup []∧RW B id pv sv lid Z { σ with l:=σ.l++[t] } X'):=by
 obtain ⟨v,lv,es,W,A,d,s,hk,hz⟩:=R.ex
 rcases hs with ⟨k,rfl,rfl⟩ | ⟨rfl,rfl⟩
 ·obtain ⟨e,g,s1,s2,n,lo⟩:=hk k rfl
  subst e
  simp
  refine AC.code y6h.at y6h.ok ?_
  simp only [y6h]
  apply jE
  obtain ⟨v2,X2,e2,A2,nx,K⟩:=A.appKs (bytes:=16) (x:=.fs [[.s t]]) W.hB (ys:=[[.s t]]) (by simp) (by simp) (by omega) (by simp [y8i]) (by simp [tcl,yb7];omega)
  obtain ⟨g2,s3⟩:=K k _ g s2
  obtain ⟨p2,n2,z2,rfl⟩:=A2.isSl
  simp [y6h.r0,g,ydi,-y59,e2,g2]
  obtain ⟨a,buf,m,hg,hm,h⟩:=W.ex
  obtain ⟨hg2,s4⟩:=K id _ hg s
  have hkl:=A2.lt _ _ g2
  have d2:Dis v (.sl p2 n2 z2):=fun j=>by
   by_cases hj:ydh v j
   ·exact .inl hj
   ·right
    rcases W.acc.sl with ⟨_,z,rfl⟩ | ⟨i,m,a,rfl,c,f⟩
    ·exact (hj trivial).elim
    ·have:i=j:=by
      by_cases e:i=j
      ·exact e
      ·exact (hj e).elim
     subst this
     exact (K i _ c ((d i).resolve_left hj)).2
  have A':Acc B 1 v (X2.upd k (.cells [.sl p2 n2 z2] 1)) (bcl σ.bs):=by
   refine ⟨A2.ext.upd W.hB lo _,Hp.upd_lt A2.lt hkl _,W.acc.all,W.acc.sl.imp (fun x=>x) ?_⟩
   rintro ⟨j,m,a,e,c,f⟩
   refine ⟨j,m,a,e,?_,f⟩
   subst e
   rw [Hp.get_upd,if_neg (show j≠k from s1)]
   exact (K j _ c ((d j).resolve_left fun h=>h rfl)).1
  refine ⟨v,.sl p2 n2 z2,_,⟨W.hB,W.hl,W.hL,W.lo,A',W.sep,a,buf,m,by simpa [n.symm] using hg2,hm,h⟩,A2.upd W.hB s3 lo hkl _,d2,s4,fun j hj=>?_,fun j blk hj=>?_⟩
  ·injection hj with hj;subst hj
   exact ⟨by simp [tcl],by simp,s1,s3,n,lo⟩
  ·obtain ⟨b,n1,n2,s1,s2⟩:=hz j blk hj
   obtain ⟨g3,s5⟩:=K j _ b s2
   exact ⟨by rw [Hp.get_upd,if_neg (fun e=>n2 (by rw [e]))];exact g3,n1,n2,s1,s5⟩
 ·simp
  refine AC.code y79.at y79.ok ?_
  simp only [y79]
  first
  | (refine AX.skip ?_;simp)
  | (apply jE;simp [y79.r0])
  | (apply jD;simp)
  exact ⟨v,lv,es,W,A,d,s,(fun k h=>by cases h),hz⟩
theorem yea {pool:List Str} (R:RW B id pv sv lid Z σ X) (hs:yox sv lid) (hp:yf1 pool pv) (t:Str) (hb:σ.bs.length≤1000000000) (hl:σ.l.length≤1000000000):
  AC Tryz.prog y3p [.p (some (id,0,6)),.s t] X (fun r X'=>r=.tup []∧RW B id pv sv lid Z (ymc pool σ t) X'):=by
 obtain ⟨a,buf,m,hg,hm⟩:=R.get
 refine AC.code y32.at y32.ok ?_
 simp only [y32]
 apply jA
 simp [y32.r0,hg,hm]
 refine callv_mono (Seen_ok R hs t hl) ?_
 rintro _ X1 ⟨rfl,R1⟩
 simp
 obtain ⟨a1,buf1,m1,hg1,hm1⟩:=R1.get
 apply jA
 simp [y32.r1,hg1,hm1]
 refine AC.fix (yt2 pool pv hp t _) ?_
 simp
 apply jB
 simp [y32.r2]
 by_cases h:t∈pool
 ·refine jF (by simp [h]) (AX.skip ?_)
  simp
  apply jE
  simp [y32.r4]
  refine (yho R1 _ hb).mono ?_
  rintro _ X2 ⟨rfl,R2⟩
  simp [ymc,h];exact R2
 ·refine jG (by simp [h]) (AX.reg ?_)
  simp [y32.r3]
  refine (ys3 R1 7).mono ?_
  rintro _ X2 ⟨rfl,R2⟩
  simp
  apply jE
  simp [y32.r4]
  refine (yho R2 _ (by simpa [yax] using hb)).mono ?_
  rintro _ X3 ⟨rfl,R3⟩
  simp [ymc,h];exact R3
end
def ShInv (a b:Str) (H:Hp) (m:Nat) (F:Fr) (X:Hp):Prop:=
 ∃n,n≤a.length∧m=a.length-n∧shN a b=n+shN (a.drop n) (b.drop n)∧X=H∧F=[(0,.s a),(1,.s b),(5,.i .i64 n)]
theorem ynm (a b:Str) (ha:a.length≤9223372036854775807) (hb:b.length≤9223372036854775807) (H:Hp):AC Tryz.prog ydp [.s a,.s b] H (fun v H'=>v=.i .i64 (shN a b:Nat)∧H'=H):=by
 refine AC.code y3u.at y3u.ok ?_
 simp only [y3u]
 apply jA
 simp [y3u.r0]
 apply jA
 simp [y3u.r1]
 refine AX.seq (AX.pblock (AX.loop (ShInv a b H) a.length ⟨_,_,.refl _ _,0,by omega,by omega,by simp,rfl,rfl⟩ ?_))
 rintro m F X ⟨n,hn,rfl,hs,rfl,rfl⟩
 simp only [y3u.l0]
 obtain ⟨c,hc⟩:∃c,c=decide (∃(h1:n<a.length) (h2:n<b.length),a[n]=b[n]):=⟨_,rfl⟩
 refine AX.seq (AX.testD c [(0,.s a),(1,.s b),(5,.i .i64 n),(21,.b c)] ?_ rfl (fun hd=>AX.skip ?_) (fun hd=>AX.exit ?_))
 ·by_cases h1:n<a.length
  ·by_cases h2:n<b.length
   ·have h3:(n:Int)<min (a.length:Int) b.length:=by omega
    simp [y3u.r2,h1,h2,h3,hc,UInt8.toNat_inj]
   ·have h3:¬(n:Int)<min (a.length:Int) b.length:=by omega
    simp [y3u.r2,h1,h2,h3,hc]
  ·have h3:¬(n:Int)<min (a.length:Int) b.length:=by omega
   simp [y3u.r2,h1,h3,hc]
 ·subst hd
  obtain ⟨h1,h2,e⟩:=of_decide_eq_true hc.symm
  simp
  refine AX.pblock (AX.reg ?_)
  simp [y3u.r3,y4d h1 ha]
  exact ⟨a.length-(n+1),by omega,_,_,.refl _ _,n+1,by omega,rfl,by rw [hs,yr3 h1 h2 e];omega,rfl,by simp⟩
 ·subst hd
  have hno:=of_decide_eq_false hc.symm
  have h0:shN (a.drop n) (b.drop n)=0:=yr2 (by
   by_cases h:n<a.length∧n<b.length
   ·exact .inr ⟨h.1,h.2,fun e=>hno ⟨h.1,h.2,e⟩⟩
   ·exact .inl h)
  simp
  apply jA
  simp [y3u.r4]
  apply jD
  simp [hs,h0]
theorem yp2 (a b:Str) (ha:a.length≤9223372036854775807) (hb:b.length≤9223372036854775807) (H:Hp):AC Tryz.prog ybl [.s a,.s b] H (fun v H'=>v=.i .i64 (shN a b:Nat)∧H'=H):=by
 refine AC.code y2t.at y2t.ok ?_
 simp only [y2t]
 apply jA
 simp [y2t.r0]
 apply jA
 simp [y2t.r1]
 refine AX.seq (AX.pblock (AX.loop (ShInv a b H) a.length ⟨_,_,.refl _ _,0,by omega,by omega,by simp,rfl,rfl⟩ ?_))
 rintro m F X ⟨n,hn,rfl,hs,rfl,rfl⟩
 simp only [y2t.l0]
 obtain ⟨c,hc⟩:∃c,c=decide (∃(h1:n<a.length) (h2:n<b.length),a[n]=b[n]):=⟨_,rfl⟩
 refine AX.seq (AX.testD c [(0,.s a),(1,.s b),(5,.i .i64 n),(24,.b c)] ?_ rfl (fun hd=>AX.skip ?_) (fun hd=>AX.exit ?_))
 ·by_cases h1:n<a.length
  ·by_cases h2:n<b.length
   ·simp [y2t.r2,h1,h2,hc,UInt8.toNat_inj]
   ·simp [y2t.r2,h1,h2,hc]
  ·simp [y2t.r2,h1,hc]
 ·subst hd
  obtain ⟨h1,h2,e⟩:=of_decide_eq_true hc.symm
  simp
  refine AX.pblock (AX.reg ?_)
  simp [y2t.r3,y4d h1 ha]
  exact ⟨a.length-(n+1),by omega,_,_,.refl _ _,n+1,by omega,rfl,by rw [hs,yr3 h1 h2 e];omega,rfl,by simp⟩
 ·subst hd
  have hno:=of_decide_eq_false hc.symm
  have h0:shN (a.drop n) (b.drop n)=0:=yr2 (by
   by_cases h:n<a.length∧n<b.length
   ·exact .inr ⟨h.1,h.2,fun e=>hno ⟨h.1,h.2,e⟩⟩
   ·exact .inl h)
  simp
  apply jA
  simp [y2t.r4]
  apply jD
  simp [hs,h0]
section
variable {B X:Hp} {T L id:Nat} {cs:List V} {bs:Str} {v:V}
def PwInv (B X:Hp) (T L id:Nat) (cs:List V) (bs:Str) (v:V) (l:List Str) (m:Nat) (F:Fr) (Y:Hp):Prop:=
 ∃i v',i≤l.length∧m=l.length-i∧WB B T L id (.i .i64 0::cs) (bs++yo2 l i) Y v'∧Kp id v X v' Y∧F=[(1,.p (some (id,0,L))),(5,.s (yfy l i)),(15,ss l),(16,.i .i64 l.length),(17,.i .i64 i)]
theorem yx3 (l:List Str) (pv:V) (hp:yf1 l pv) (hl:l.length≤6000) (h1000:∀s∈l,s.length≤1000) (W:WB B T L id (.i .i64 0::cs) bs X v) (hb:bs.length≤1000):
  AC Tryz.prog yck [pv,.p (some (id,0,L))] X (fun r X'=>r=.tup []∧∃v',WB B T L id (.i .i64 0::cs) (bs++yf9 l) X' v'∧Kp id v X v' X'):=by
 refine AC.code y1q.at y1q.ok ?_
 simp only [y1q]
 apply jA
 simp [y1q.r0]
 refine AC.fix (yjl l pv hp _) ?_
 simp
 apply jA
 simp [y1q.r1,ss]
 refine (yfi _ W (by omega)).mono ?_
 rintro _ X1 ⟨rfl,v1,W1,K1⟩
 have hw:yjn 0 bs (l.length:Nat)=(0,bs++y8x l.length):=by simp only [yjn];rw [if_neg (by simp),if_neg (by omega)];simp
 rw [hw] at W1
 have hv:=ya3 (n:=l.length) (by omega)
 simp
 apply jA
 simp [y1q.r2]
 apply jA
 simp [y1q.r3]
 refine AX.pblock (AX.loop (PwInv B X1 T L id cs (bs++y8x l.length) v1 l) l.length ⟨_,_,.refl _ _,0,v1,by omega,by omega,by simpa [yo2,yf8] using W1,.refl _ _ _,by simp [yfy,ss]⟩ ?_)
 rintro m F Y ⟨i,v2,hi,rfl,W2,K2,rfl⟩
 have hpl:=yuw l h1000 i hi
 have hll:(yfy l i).length≤1000:=by
  unfold yfy
  cases hq:(l.take i).getLast? with
  | none=>simp
  | some x=>exact h1000 x (List.mem_of_mem_take (List.mem_of_getLast? hq))
 simp only [y1q.l0]
 apply jA
 simp [y1q.r4]
 refine AX.seq (AX.pcond rfl (fun hd=>AX.skip ?_) (fun hd=>AX.exit ?_))
 ·simp at hd
  have h1:=h1000 l[i] (kK hd)
  have h2:=ynn (yfy l i) l[i]
  simp
  apply jC
  simp [y1q.r5,ss,hd]
  apply jA
  simp [y1q.r6]
  refine AC.fix (ynm _ _ (by omega) (by omega) _) ?_
  simp
  apply jA
  simp [y1q.r7]
  refine (yfi _ W2 (by simp;omega)).mono ?_
  rintro _ X3 ⟨rfl,v3,W3,K3⟩
  have hw:∀q:Str,yjn 0 q (shN (yfy l i) l[i]:Nat)=(0,q++y8x (shN (yfy l i) l[i])):=fun q=>by simp only [yjn];rw [if_neg (by simp),if_neg (by omega)];simp
  rw [hw] at W3
  have hv3:=ya3 (n:=shN (yfy l i) l[i]) (by omega)
  simp
  apply jA
  simp [y1q.r8,h2.2]
  refine (ys2 (l[i].drop (shN (yfy l i) l[i])) W3 (by simp;omega)).mono ?_
  rintro _ X4 ⟨rfl,v4,W4,K4⟩
  have hw2:∀q:Str,yqx 0 q (l[i].drop (shN (yfy l i) l[i]))=(0,q++y8x (l[i].length-shN (yfy l i) l[i])++l[i].drop (shN (yfy l i) l[i])):=fun q=>by simp only [yqx];rw [if_neg (by simp),if_neg (by simp;omega)];simp
  rw [hw2] at W4
  simp
  apply jE
  simp [y1q.r9]
  apply jE
  simp [y1q.r10,y4d hd (show l.length≤9223372036854775807 by omega)]
  refine ⟨l.length-(i+1),by omega,_,_,.refl _ _,i+1,v4,by omega,rfl,?_,(K2.trans K3).trans K4,by simp [ysh l i hd,ss]⟩
  rw [ysd l i hd]
  simpa using W4
 ·simp at hd
  have:i=l.length:=by omega
  subst this
  simp
  refine ⟨v2,?_,K1.trans K2⟩
  have:yf9 l=y8x l.length++yo2 l l.length:=by simp [yf9,yo2]
  rw [this]
  simpa using W2
end
end Go.Proofs.YthmkcebbeehbeaaGreatDoor
