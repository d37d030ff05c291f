/- Part 38 of the proof of the laws of the queries: RecW, PolW. -/
import Derived.Test.YthmkcebbeehbeaaGreatDoorXEw30
import Derived.Test.YthmkcebbeehbeaaGreatDoorXEw37
set_option linter.unusedSimpArgs false
set_option linter.unusedVariables false
namespace Go.Proofs.YthmkcebbeehbeaaGreatDoor
open Am C
def ydz (pool:List Str) (pv:V):Prop:=y4g pool∧pool.length≤1000000000∧((pool=[]∧pv=.p none)∨pv=.fp [ss pool] 0)
theorem yim (pool:List Str) (pv:V) (hp:ydz pool pv) (H:Hp):AC Tryz.prog y82 [pv] H (fun v H'=>v=ss pool∧H'=H):=by
  refine AC.codeP y3j.at y3j.ok (yd3 _) fun hlt=>?_
  simp only [y3j]
  obtain ⟨hr,hl,⟨rfl,rfl⟩ | rfl⟩:=hp
  · apply jA
    simp [y3j.r0]
    apply jB
    simp [y3j.r1]
    refine jG rfl (jA ?_)
    simp [y3j.r2]
    apply jD
    simp
    exact ⟨.refl _,.sl0 _⟩
  · apply jA
    simp [y3j.r0]
    apply jB
    simp [y3j.r1]
    refine jF rfl (AX.skip ?_)
    simp
    apply jA
    simp [y3j.r3]
    apply jD
    simp
    exact ⟨.refl _,.refl _⟩
theorem yrx (pool:List Str) (pv:V) (hp:ydz pool pv) (s:Str) (H:Hp):AC Tryz.prog yaz [pv,.s s] H (fun v H'=>v=.tup [.i .i64 (ycm pool s:Nat),.b (decide (s∈pool))]∧H'=H):=by
  refine AC.code y34.at y34.ok ?_
  simp only [y34]
  apply jA
  simp [y34.r0]
  apply jA
  simp [y34.r1]
  refine AC.fix (yim pool pv hp _) ?_
  simp
  refine AC.fix (BinS_ok pool s hp.1 hp.2.1 _) ?_
  simp
  apply jB
  simp [y34.r2]
  by_cases h:s∈pool
  · refine jF (by simp [h]) (AX.skip ?_)
    simp
    apply jA
    simp [y34.r4]
    apply jD
    simp [ycm,h]
  · refine jG (by simp [h]) (jA ?_)
    simp [y34.r3]
    apply jD
    simp [ycm,h]
theorem Am.callv_mono {P:Go.Program} {v:V} {args:List V} {H:Hp} {k k':V→Hp→Prop} (h:callv P v args H k) (hk:∀v H,k v H→k' v H):callv P v args H k':=by
  unfold callv at *
  split at h
  · exact h.mono hk
  · exact h.mono hk
  · exact h.mono hk
  · exact h.elim
def tcl (l:List Str):List (List V):=l.map fun x=>[.s x]
def Dis (v u:V):Prop:=∀j,yez v j∨yez u j
structure RW (B:Hp) (id:Nat) (pv sv:V) (lid:Option Nat) (Z:Nat→Option Blk) (σ:Rw) (X:Hp):Prop where
  ex:∃v lv es,WB B 109 6 id [.i .i64 σ.we,pv,sv,.i .i64 σ.e] σ.bs X v∧Acc B 1 lv X es∧Dis v lv∧yez lv id∧
    (∀k,lid=some k→es=tcl σ.l∧X.get k=some (.cells [lv] 1)∧yez v k∧yez lv k∧k≠id∧B.next≤k)∧
    (∀k blk,Z k=some blk→X.get k=some blk∧k≠id∧lid≠some k∧yez v k∧yez lv k)
section
variable {B:Hp} {id:Nat} {pv sv:V} {lid:Option Nat} {Z:Nat→Option Blk} {σ:Rw} {X:Hp}
theorem RW.lt (R:RW B id pv sv lid Z σ X):∀k blk,X.get k=some blk→k<X.next:=let ⟨_,_,_,W,_⟩:=R.ex;W.acc.lt
theorem RW.z (R:RW B id pv sv lid Z σ X) {k:Nat} {blk:Blk} (h:Z k=some blk):X.get k=some blk:=let ⟨_,_,_,_,_,_,_,_,z⟩:=R.ex;(z k blk h).1
theorem RW.more {Y:Hp} (R:RW B id pv sv lid Z σ X) (e:X.Ext Y) (hl:∀k blk,Y.get k=some blk→k<Y.next):RW B id pv sv lid Z σ Y:=by
  obtain ⟨v,lv,es,W,A,d,s,hk,hz⟩:=R.ex
  exact ⟨v,lv,es,W.ext e hl,A.more e hl,d,s,fun k h=>let ⟨a,b,c⟩:=hk k h;⟨a,e.2 _ _ b,c⟩,fun k blk h=>let ⟨a,b⟩:=hz k blk h;⟨e.2 _ _ a,b⟩⟩
theorem RW.add {Y:Hp} {b:Blk} (R:RW B id pv sv lid Z σ X) (e:X.Ext Y) (hl:∀k blk,Y.get k=some blk→k<Y.next) (hg:Y.get X.next=some b):
    RW B id pv sv lid (fun j=>if j=X.next then some b else Z j) σ Y:=by
  obtain ⟨v,lv,es,W,A,d,s,hk,hz⟩:=R.ex
  obtain ⟨a,buf,m,hgi,_⟩:=W.ex
  have hid:=W.acc.lt _ _ hgi
  refine ⟨v,lv,es,W.ext e hl,A.more e hl,d,s,fun k h=>let ⟨a,b,c⟩:=hk k h;⟨a,e.2 _ _ b,c⟩,fun k blk h=>?_⟩
  by_cases hkx:k=X.next
  · subst hkx
    simp at h;subst h
    refine ⟨hg,by omega,fun h=>?_,W.acc.slLt (Nat.le_refl _),A.slLt (Nat.le_refl _)⟩
    have:=W.acc.lt _ _ (hk _ h).2.1
    omega
  · simp [hkx] at h
    exact let ⟨a,b⟩:=hz k blk h;⟨e.2 _ _ a,b⟩
theorem RW.get (R:RW B id pv sv lid Z σ X):∃a buf m,X.get id=some (.cells [a,buf,.i .i64 σ.we,pv,sv,.i .i64 σ.e] m)∧m≤6:=by
  obtain ⟨v,lv,es,W,_⟩:=R.ex
  obtain ⟨a,buf,m,hg,hm,_⟩:=W.ex
  exact ⟨a,buf,m,hg,hm⟩
theorem RW.turn {σ':Rw} {X':Hp} {v lv v':V} {es:List (List V)} (hl:σ'.l=σ.l) (W:WB B 109 6 id [.i .i64 σ.we,pv,sv,.i .i64 σ.e] σ.bs X v) (A:Acc B 1 lv X es) (d:Dis v lv) (s:yez lv id)
    (hk:∀k,lid=some k→es=tcl σ.l∧X.get k=some (.cells [lv] 1)∧yez v k∧yez lv k∧k≠id∧B.next≤k) (hz:∀k blk,Z k=some blk→X.get k=some blk∧k≠id∧lid≠some k∧yez v k∧yez lv k)
    (W':WB B 109 6 id [.i .i64 σ'.we,pv,sv,.i .i64 σ'.e] σ'.bs X' v') (K:Kp id v X v' X'):RW B id pv sv lid Z σ' X':=by
  have A':Acc B 1 lv X' es:=by
    refine ⟨W'.acc.ext,W'.acc.lt,A.all,A.sl.imp (fun x=>x) ?_⟩
    rintro ⟨j,m,a,e,c,f⟩
    refine ⟨j,m,a,e,?_,f⟩
    subst e
    exact (K.2 j _ c s ((d j).resolve_right fun h=>h rfl)).1
  have d':Dis v' lv:=fun j=>by
    by_cases hj:yez lv j
    · exact .inr hj
    · left
      rcases A.sl with ⟨_,z,rfl⟩ | ⟨i,m,a,rfl,c,f⟩
      · exact (hj trivial).elim
      · have:i=j:=by
          by_cases e:i=j
          · exact e
          · exact (hj e).elim
        subst this
        exact (K.2 i _ c s ((d i).resolve_right hj)).2
  refine ⟨v',lv,es,W',A',d',s,fun k h=>?_,fun k blk h=>?_⟩
  · obtain ⟨a,b,s1,s2,n,lo⟩:=hk k h
    obtain ⟨g,s3⟩:=K.2 _ _ b n s1
    exact ⟨by rw [hl];exact a,g,s3,s2,n,lo⟩
  · obtain ⟨b,n,n2,s1,s2⟩:=hz k blk h
    obtain ⟨g,s3⟩:=K.2 _ _ b n s1
    exact ⟨g,n,n2,s3,s2⟩
theorem yqy (R:RW B id pv sv lid Z σ X) (x:Int):
    AC Tryz.prog y8g [.p (some (id,0,6)),.i .i64 x] X (fun r X'=>r=.tup []∧RW B id pv sv lid Z (ya5 σ x) X'):=by
  obtain ⟨v,lv,es,W,A,d,s,hk,hz⟩:=R.ex
  obtain ⟨a,buf,m,hg,hm,h⟩:=W.ex
  refine AC.code y48.at y48.ok ?_
  simp only [y48]
  apply jA
  simp [y48.r0,hg,hm]
  by_cases he:σ.e=0
  · refine jG (by simp [he]) (AX.reg ?_)
    simp [y48.r1,hg,hm]
    obtain ⟨W',K⟩:=W.cells hg (cs':=[.i .i64 σ.we,pv,sv,.i .i64 x]) rfl 6 (by omega)
    exact RW.turn (σ:=σ) (σ':=ya5 σ x) rfl W A d s hk hz (by simpa [ya5,he] using W') K
  · refine jF (by simp [he]) (AX.skip ?_)
    simp
    have:ya5 σ x=σ:=by simp [ya5,he]
    rw [this];exact R
theorem ygp (R:RW B id pv sv lid Z σ X) (n:Int) (hb:σ.bs.length≤1000000000):
    AC Tryz.prog y4c [.p (some (id,0,6)),.i .i64 n] X (fun r X'=>r=.tup []∧RW B id pv sv lid Z (yap σ n) X'):=by
  refine AC.code y39.at y39.ok ?_
  simp only [y39]
  refine AX.seq (AX.test (decide (n<0)||decide (268435456<n)) [(0,.p (some (id,0,6))),(1,.i .i64 n),(9,.b (decide (n<0)||decide (268435456<n)))] ?_ rfl (fun h1=>?_) (fun h1=>AX.skip ?_))
  · by_cases h1:n<0
    · simp [y39.r0,h1]
    · simp [y39.r0,h1]
  · simp at h1
    apply jA
    simp [y39.r1]
    refine (yqy R 2).mono ?_
    rintro _ X' ⟨rfl,R'⟩
    simp
    apply jD
    simp [yap]
    rw [if_pos h1];exact R'
  · simp at h1
    simp
    apply jE
    obtain ⟨v,lv,es,W,A,d,s,hk,hz⟩:=R.ex
    obtain ⟨a,buf,m,hg,hm,h⟩:=W.ex
    simp [y39.r2]
    refine (yed n W hb).mono ?_
    rintro _ X' ⟨rfl,v',W',K⟩
    simp
    refine RW.turn (σ:=σ) (σ':=yap σ n) (ye3 σ n).2 W A d s hk hz ?_ K
    have:yap σ n={ σ with we:=(yio σ.we σ.bs n).1,bs:=(yio σ.we σ.bs n).2 }:=by unfold yap;rw [if_neg (by omega)]
    rw [this];exact W'
def ynp (sv:V) (lid:Option Nat):Prop:=(∃k,lid=some k∧sv=.fn y6g [.p (some (k,0,1))])∨(lid=none∧sv=.fn y74 [])
theorem Seen_ok (R:RW B id pv sv lid Z σ X) (hs:ynp sv lid) (t:Str) (hb:σ.l.length≤1000000000):
    callv Tryz.prog sv [.s t] X (fun r X'=>r=.tup []∧RW B id pv sv lid Z { σ with l:=σ.l++[t] } X'):=by
  obtain ⟨v,lv,es,W,A,d,s,hk,hz⟩:=R.ex
  rcases hs with ⟨k,rfl,rfl⟩ | ⟨rfl,rfl⟩
  · obtain ⟨e,g,s1,s2,n,lo⟩:=hk k rfl
    subst e
    simp
    refine AC.code y5w.at y5w.ok ?_
    simp only [y5w]
    apply jE
    obtain ⟨v2,X2,e2,A2,nx,K⟩:=A.appKs (bytes:=16) (x:=.fs [[.s t]]) W.hB (ys:=[[.s t]]) (by simp) (by simp) (by omega) (by simp [y7v]) (by simp [tcl,yc5];omega)
    obtain ⟨g2,s3⟩:=K k _ g s2
    obtain ⟨p2,n2,z2,rfl⟩:=A2.isSl
    simp [y5w.r0,g,ydc,-y5d,e2,g2]
    obtain ⟨a,buf,m,hg,hm,h⟩:=W.ex
    obtain ⟨hg2,s4⟩:=K id _ hg s
    have hkl:=A2.lt _ _ g2
    have d2:Dis v (.sl p2 n2 z2):=fun j=>by
      by_cases hj:yez v j
      · exact .inl hj
      · right
        rcases W.acc.sl with ⟨_,z,rfl⟩ | ⟨i,m,a,rfl,c,f⟩
        · exact (hj trivial).elim
        · have:i=j:=by
            by_cases e:i=j
            · exact e
            · exact (hj e).elim
          subst this
          exact (K i _ c ((d i).resolve_left hj)).2
    have A':Acc B 1 v (X2.upd k (.cells [.sl p2 n2 z2] 1)) (bcl σ.bs):=by
      refine ⟨A2.ext.upd W.hB lo _,Hp.upd_lt A2.lt hkl _,W.acc.all,W.acc.sl.imp (fun x=>x) ?_⟩
      rintro ⟨j,m,a,e,c,f⟩
      refine ⟨j,m,a,e,?_,f⟩
      subst e
      rw [Hp.get_upd,if_neg (show j≠k from s1)]
      exact (K j _ c ((d j).resolve_left fun h=>h rfl)).1
    refine ⟨v,.sl p2 n2 z2,_,⟨W.hB,W.hl,W.hL,W.lo,A',W.sep,a,buf,m,by simpa [n.symm] using hg2,hm,h⟩,A2.upd W.hB s3 lo hkl _,d2,s4,fun j hj=>?_,fun j blk hj=>?_⟩
    · injection hj with hj;subst hj
      exact ⟨by simp [tcl],by simp,s1,s3,n,lo⟩
    · obtain ⟨b,n1,n2,s1,s2⟩:=hz j blk hj
      obtain ⟨g3,s5⟩:=K j _ b s2
      exact ⟨by rw [Hp.get_upd,if_neg (fun e=>n2 (by rw [e]))];exact g3,n1,n2,s1,s5⟩
  · simp
    refine AC.code y6q.at y6q.ok ?_
    simp only [y6q]
    first
    | (refine AX.skip ?_;simp)
    | (apply jE;simp [y6q.r0])
    | (apply jD;simp)
    exact ⟨v,lv,es,W,A,d,s,(fun k h=>by cases h),hz⟩
theorem yd6 {pool:List Str} (R:RW B id pv sv lid Z σ X) (hs:ynp sv lid) (hp:ydz pool pv) (t:Str) (hb:σ.bs.length≤1000000000) (hl:σ.l.length≤1000000000):
    AC Tryz.prog y3d [.p (some (id,0,6)),.s t] X (fun r X'=>r=.tup []∧RW B id pv sv lid Z (yl5 pool σ t) X'):=by
  obtain ⟨a,buf,m,hg,hm⟩:=R.get
  refine AC.code y2r.at y2r.ok ?_
  simp only [y2r]
  apply jA
  simp [y2r.r0,hg,hm]
  refine callv_mono (Seen_ok R hs t hl) ?_
  rintro _ X1 ⟨rfl,R1⟩
  simp
  obtain ⟨a1,buf1,m1,hg1,hm1⟩:=R1.get
  apply jA
  simp [y2r.r1,hg1,hm1]
  refine AC.fix (yrx pool pv hp t _) ?_
  simp
  apply jB
  simp [y2r.r2]
  by_cases h:t∈pool
  · refine jF (by simp [h]) (AX.skip ?_)
    simp
    apply jE
    simp [y2r.r4]
    refine (ygp R1 _ hb).mono ?_
    rintro _ X2 ⟨rfl,R2⟩
    simp [yl5,h];exact R2
  · refine jG (by simp [h]) (AX.reg ?_)
    simp [y2r.r3]
    refine (yqy R1 7).mono ?_
    rintro _ X2 ⟨rfl,R2⟩
    simp
    apply jE
    simp [y2r.r4]
    refine (ygp R2 _ (by simpa [ya5] using hb)).mono ?_
    rintro _ X3 ⟨rfl,R3⟩
    simp [yl5,h];exact R3
end
def ShInv (a b:Str) (H:Hp) (m:Nat) (F:Fr) (X:Hp):Prop:=
  ∃n,n≤a.length∧m=a.length-n∧shN a b=n+shN (a.drop n) (b.drop n)∧X=H∧F=[(0,.s a),(1,.s b),(5,.i .i64 n)]
theorem yme (a b:Str) (ha:a.length≤9223372036854775807) (hb:b.length≤9223372036854775807) (H:Hp):AC Tryz.prog yci [.s a,.s b] H (fun v H'=>v=.i .i64 (shN a b:Nat)∧H'=H):=by
  refine AC.code y3h.at y3h.ok ?_
  simp only [y3h]
  apply jA
  simp [y3h.r0]
  apply jA
  simp [y3h.r1]
  refine AX.seq (AX.pblock (AX.loop (ShInv a b H) a.length ⟨_,_,.refl _ _,0,by omega,by omega,by simp,rfl,rfl⟩ ?_))
  rintro m F X ⟨n,hn,rfl,hs,rfl,rfl⟩
  simp only [y3h.l0]
  obtain ⟨c,hc⟩:∃c,c=decide (∃(h1:n<a.length) (h2:n<b.length),a[n]=b[n]):=⟨_,rfl⟩
  refine AX.seq (AX.testD c [(0,.s a),(1,.s b),(5,.i .i64 n),(21,.b c)] ?_ rfl (fun hd=>AX.skip ?_) (fun hd=>AX.exit ?_))
  · by_cases h1:n<a.length
    · by_cases h2:n<b.length
      · have h3:(n:Int)<min (a.length:Int) b.length:=by omega
        simp [y3h.r2,h1,h2,h3,hc,UInt8.toNat_inj]
      · have h3:¬(n:Int)<min (a.length:Int) b.length:=by omega
        simp [y3h.r2,h1,h2,h3,hc]
    · have h3:¬(n:Int)<min (a.length:Int) b.length:=by omega
      simp [y3h.r2,h1,h3,hc]
  · subst hd
    obtain ⟨h1,h2,e⟩:=of_decide_eq_true hc.symm
    simp
    refine AX.pblock (AX.reg ?_)
    simp [y3h.r3,y3y h1 ha]
    exact ⟨a.length-(n+1),by omega,_,_,.refl _ _,n+1,by omega,rfl,by rw [hs,ypu h1 h2 e];omega,rfl,by simp⟩
  · subst hd
    have hno:=of_decide_eq_false hc.symm
    have h0:shN (a.drop n) (b.drop n)=0:=ypt (by
      by_cases h:n<a.length∧n<b.length
      · exact .inr ⟨h.1,h.2,fun e=>hno ⟨h.1,h.2,e⟩⟩
      · exact .inl h)
    simp
    apply jA
    simp [y3h.r4]
    apply jD
    simp [hs,h0]
theorem ynu (a b:Str) (ha:a.length≤9223372036854775807) (hb:b.length≤9223372036854775807) (H:Hp):AC Tryz.prog yar [.s a,.s b] H (fun v H'=>v=.i .i64 (shN a b:Nat)∧H'=H):=by
  refine AC.code y2k.at y2k.ok ?_
  simp only [y2k]
  apply jA
  simp [y2k.r0]
  apply jA
  simp [y2k.r1]
  refine AX.seq (AX.pblock (AX.loop (ShInv a b H) a.length ⟨_,_,.refl _ _,0,by omega,by omega,by simp,rfl,rfl⟩ ?_))
  rintro m F X ⟨n,hn,rfl,hs,rfl,rfl⟩
  simp only [y2k.l0]
  obtain ⟨c,hc⟩:∃c,c=decide (∃(h1:n<a.length) (h2:n<b.length),a[n]=b[n]):=⟨_,rfl⟩
  refine AX.seq (AX.testD c [(0,.s a),(1,.s b),(5,.i .i64 n),(24,.b c)] ?_ rfl (fun hd=>AX.skip ?_) (fun hd=>AX.exit ?_))
  · by_cases h1:n<a.length
    · by_cases h2:n<b.length
      · simp [y2k.r2,h1,h2,hc,UInt8.toNat_inj]
      · simp [y2k.r2,h1,h2,hc]
    · simp [y2k.r2,h1,hc]
  · subst hd
    obtain ⟨h1,h2,e⟩:=of_decide_eq_true hc.symm
    simp
    refine AX.pblock (AX.reg ?_)
    simp [y2k.r3,y3y h1 ha]
    exact ⟨a.length-(n+1),by omega,_,_,.refl _ _,n+1,by omega,rfl,by rw [hs,ypu h1 h2 e];omega,rfl,by simp⟩
  · subst hd
    have hno:=of_decide_eq_false hc.symm
    have h0:shN (a.drop n) (b.drop n)=0:=ypt (by
      by_cases h:n<a.length∧n<b.length
      · exact .inr ⟨h.1,h.2,fun e=>hno ⟨h.1,h.2,e⟩⟩
      · exact .inl h)
    simp
    apply jA
    simp [y2k.r4]
    apply jD
    simp [hs,h0]
section
variable {B X:Hp} {T L id:Nat} {cs:List V} {bs:Str} {v:V}
def PwInv (B X:Hp) (T L id:Nat) (cs:List V) (bs:Str) (v:V) (l:List Str) (m:Nat) (F:Fr) (Y:Hp):Prop:=
  ∃i v',i≤l.length∧m=l.length-i∧WB B T L id (.i .i64 0::cs) (bs++yj2 l i) Y v'∧Kp id v X v' Y∧F=[(1,.p (some (id,0,L))),(5,.s (ybo l i)),(15,ss l),(16,.i .i64 l.length),(17,.i .i64 i)]
theorem yvt (l:List Str) (pv:V) (hp:ydz l pv) (hl:l.length≤6000) (h1000:∀s∈l,s.length≤1000) (W:WB B T L id (.i .i64 0::cs) bs X v) (hb:bs.length≤1000):
    AC Tryz.prog ybm [pv,.p (some (id,0,L))] X (fun r X'=>r=.tup []∧∃v',WB B T L id (.i .i64 0::cs) (bs++yc7 l) X' v'∧Kp id v X v' X'):=by
  refine AC.code y1g.at y1g.ok ?_
  simp only [y1g]
  apply jA
  simp [y1g.r0]
  refine AC.fix (yim l pv hp _) ?_
  simp
  apply jA
  simp [y1g.r1,ss]
  refine (yed _ W (by omega)).mono ?_
  rintro _ X1 ⟨rfl,v1,W1,K1⟩
  have hw:yio 0 bs (l.length:Nat)=(0,bs++y7w l.length):=by simp only [yio];rw [if_neg (by simp),if_neg (by omega)];simp
  rw [hw] at W1
  have hv:=y7e (n:=l.length) (by omega)
  simp
  apply jA
  simp [y1g.r2]
  apply jA
  simp [y1g.r3]
  refine AX.pblock (AX.loop (PwInv B X1 T L id cs (bs++y7w l.length) v1 l) l.length ⟨_,_,.refl _ _,0,v1,by omega,by omega,by simpa [yj2,ydn] using W1,.refl _ _ _,by simp [ybo,ss]⟩ ?_)
  rintro m F Y ⟨i,v2,hi,rfl,W2,K2,rfl⟩
  have hpl:=ymu l h1000 i hi
  have hll:(ybo l i).length≤1000:=by
    unfold ybo
    cases hq:(l.take i).getLast? with
    | none=>simp
    | some x=>exact h1000 x (List.mem_of_mem_take (List.mem_of_getLast? hq))
  simp only [y1g.l0]
  apply jA
  simp [y1g.r4]
  refine AX.seq (AX.pcond rfl (fun hd=>AX.skip ?_) (fun hd=>AX.exit ?_))
  · simp at hd
    have h1:=h1000 l[i] (List.getElem_mem hd)
    have h2:=yk9 (ybo l i) l[i]
    simp
    apply jC
    simp [y1g.r5,ss,hd]
    apply jA
    simp [y1g.r6]
    refine AC.fix (yme _ _ (by omega) (by omega) _) ?_
    simp
    apply jA
    simp [y1g.r7]
    refine (yed _ W2 (by simp;omega)).mono ?_
    rintro _ X3 ⟨rfl,v3,W3,K3⟩
    have hw:∀q:Str,yio 0 q (shN (ybo l i) l[i]:Nat)=(0,q++y7w (shN (ybo l i) l[i])):=fun q=>by simp only [yio];rw [if_neg (by simp),if_neg (by omega)];simp
    rw [hw] at W3
    have hv3:=y7e (n:=shN (ybo l i) l[i]) (by omega)
    simp
    apply jA
    simp [y1g.r8,h2.2]
    refine (yqx (l[i].drop (shN (ybo l i) l[i])) W3 (by simp;omega)).mono ?_
    rintro _ X4 ⟨rfl,v4,W4,K4⟩
    have hw2:∀q:Str,ypo 0 q (l[i].drop (shN (ybo l i) l[i]))=(0,q++y7w (l[i].length-shN (ybo l i) l[i])++l[i].drop (shN (ybo l i) l[i])):=fun q=>by simp only [ypo];rw [if_neg (by simp),if_neg (by simp;omega)];simp
    rw [hw2] at W4
    simp
    apply jE
    simp [y1g.r9]
    apply jE
    simp [y1g.r10,y3y hd (show l.length≤9223372036854775807 by omega)]
    refine ⟨l.length-(i+1),by omega,_,_,.refl _ _,i+1,v4,by omega,rfl,?_,(K2.trans K3).trans K4,by simp [ykn l i hd,ss]⟩
    rw [ykk l i hd]
    simpa using W4
  · simp at hd
    have:i=l.length:=by omega
    subst this
    simp
    refine ⟨v2,?_,K1.trans K2⟩
    have:yc7 l=y7w l.length++yj2 l l.length:=by simp [yc7,yj2]
    rw [this]
    simpa using W2
end
def PbInv (l:List Str) (H:Hp) (m:Nat) (F:Fr) (Y:Hp):Prop:=
  ∃i,i≤l.length∧m=l.length-i∧Y=H∧F=[(0,ss l),(3,.s (y7w l.length++yj2 l i)),(4,.s (ybo l i)),(5,.i .i64 i)]
theorem ypf (l:List Str) (hl:l.length≤6000) (h1000:∀s∈l,s.length≤1000) (H:Hp):AC Tryz.prog ybb [ss l] H (fun v H'=>v=.s (yc7 l)∧H'=H):=by
  refine AC.code y1q.at y1q.ok ?_
  simp only [y1q]
  apply jA
  simp [y1q.r0]
  apply jA
  simp [y1q.r1,ss]
  refine AC.fix (ybq l.length (by omega) _) ?_
  simp
  apply jA
  simp [y1q.r2]
  apply jB
  simp [y1q.r3]
  refine AX.pblock (AX.loop (PbInv l H) l.length ⟨_,_,.refl _ _,0,by omega,by omega,rfl,by simp [ybo,ss,yj2,ydn]⟩ ?_)
  rintro m F Y ⟨i,hi,rfl,rfl,rfl⟩
  have hpl:=ymu l h1000 i hi
  have hv:=y7e (n:=l.length) (by omega)
  have hll:(ybo l i).length≤1000:=by
    unfold ybo
    cases hq:(l.take i).getLast? with
    | none=>simp
    | some x=>exact h1000 x (List.mem_of_mem_take (List.mem_of_getLast? hq))
  simp only [y1q.l0]
  apply jB
  simp [y1q.r4,ss]
  refine AX.pcond rfl (fun hd=>AX.skip ?_) (fun hd=>AX.exit ?_)
  · simp at hd
    have h1:=h1000 l[i] (List.getElem_mem hd)
    have h2:=yk9 (ybo l i) l[i]
    have hv2:=y7e (n:=shN (ybo l i) l[i]) (by omega)
    have hv3:=y7e (n:=l[i].length-shN (ybo l i) l[i]) (by omega)
    simp
    apply jC
    simp [y1q.r5,ss,hd]
    refine AC.fix (ynu _ _ (by omega) (by omega) _) ?_
    simp
    have hsub:Go.IntKind.i64.wrap ((l[i].length:Int)-(shN (ybo l i) l[i]:Nat))=((l[i].length-shN (ybo l i) l[i]:Nat):Int):=by rw [y3i (by omega) (by omega)];omega
    refine AX.seq (AX.drw ?_)
    simp [y1q.r6,ss,hd]
    refine y57 _ (fun H2=>ybq _ (by omega) H2) ?_
    simp [hsub]
    rw [if_pos (by omega)]
    simp [ss,hd,hsub]
    refine y57 _ (fun H2=>ybq _ (by omega) H2) ?_
    simp
    rw [if_pos (by omega)]
    simp [ss,hd,h2.2]
    rw [if_pos (by omega)]
    simp
    apply jE
    simp [y1q.r7,ss,hd]
    apply jE
    simp [y1q.r8,y3y hd (show l.length≤9223372036854775807 by omega)]
    exact ⟨l.length-(i+1),by omega,_,_,.refl _ _,i+1,by omega,rfl,rfl,by simp [ykn l i hd,ss,ykk l i hd]⟩
  · simp at hd
    have:i=l.length:=by omega
    subst this
    simp
    apply jA
    simp [y1q.r9]
    apply jD
    simp [yc7,yj2]
end Go.Proofs.YthmkcebbeehbeaaGreatDoor
