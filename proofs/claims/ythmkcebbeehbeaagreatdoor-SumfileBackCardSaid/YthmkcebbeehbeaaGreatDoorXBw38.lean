/- Part 38 of the proof of the laws of the queries: RecW, PolW, RecS. -/
import Derived.Test.YthmkcebbeehbeaaGreatDoorXBw17
import Derived.Test.YthmkcebbeehbeaaGreatDoorXBw30
import Derived.Test.YthmkcebbeehbeaaGreatDoorXBw37
set_option linter.unusedSimpArgs false
set_option linter.unusedVariables false
namespace Go.Proofs.YthmkcebbeehbeaaGreatDoor
open Am C
def yd0 (pool:List Str) (pv:V):Prop:=y4h pool∧pool.length≤1000000000∧((pool=[]∧pv=.p none)∨pv=.fp [ss pool] 0)
theorem yhy (pool:List Str) (pv:V) (hp:yd0 pool pv) (H:Hp):AC Tryz.prog y7k [pv] H (fun v H'=>v=ss pool∧H'=H):=by
  refine AC.codeP y3a.at y3a.ok (ydy _) fun hlt=>?_
  simp only [y3a]
  obtain ⟨hr,hl,⟨rfl,rfl⟩ | rfl⟩:=hp
  · apply jA
    simp [y3a.r0]
    apply jB
    simp [y3a.r1]
    refine jG rfl (jA ?_)
    simp [y3a.r2]
    apply jD
    simp
    exact ⟨.refl _,.sl0 _⟩
  · apply jA
    simp [y3a.r0]
    apply jB
    simp [y3a.r1]
    refine jF rfl (AX.skip ?_)
    simp
    apply jA
    simp [y3a.r3]
    apply jD
    simp
    exact ⟨.refl _,.refl _⟩
theorem yqy (pool:List Str) (pv:V) (hp:yd0 pool pv) (s:Str) (H:Hp):AC Tryz.prog yah [pv,.s s] H (fun v H'=>v=.tup [.i .i64 (ydn pool s:Nat),.b (decide (s∈pool))]∧H'=H):=by
  refine AC.code y2w.at y2w.ok ?_
  simp only [y2w]
  apply jA
  simp [y2w.r0]
  apply jA
  simp [y2w.r1]
  refine AC.fix (yhy pool pv hp _) ?_
  simp
  refine AC.fix (BinS_ok pool s hp.1 hp.2.1 _) ?_
  simp
  apply jB
  simp [y2w.r2]
  by_cases h:s∈pool
  · refine jF (by simp [h]) (AX.skip ?_)
    simp
    apply jA
    simp [y2w.r4]
    apply jD
    simp [ydn,h]
  · refine jG (by simp [h]) (jA ?_)
    simp [y2w.r3]
    apply jD
    simp [ydn,h]
theorem Am.callv_mono {P:Go.Program} {v:V} {args:List V} {H:Hp} {k k':V→Hp→Prop} (h:callv P v args H k) (hk:∀v H,k v H→k' v H):callv P v args H k':=by
  unfold callv at *
  split at h
  · exact h.mono hk
  · exact h.mono hk
  · exact h.mono hk
  · exact h.elim
def tcl (l:List Str):List (List V):=l.map fun x=>[.s x]
def Dis (v u:V):Prop:=∀j,ye9 v j∨ye9 u j
structure RW (B:Hp) (id:Nat) (pv sv:V) (lid:Option Nat) (Z:Nat→Option Blk) (σ:Rw) (X:Hp):Prop where
  ex:∃v lv es,WB B 109 6 id [.i .i64 σ.we,pv,sv,.i .i64 σ.e] σ.bs X v∧Acc B 1 lv X es∧Dis v lv∧ye9 lv id∧
    (∀k,lid=some k→es=tcl σ.l∧X.get k=some (.cells [lv] 1)∧ye9 v k∧ye9 lv k∧k≠id∧B.next≤k)∧
    (∀k blk,Z k=some blk→X.get k=some blk∧k≠id∧lid≠some k∧ye9 v k∧ye9 lv k)
section
variable {B:Hp} {id:Nat} {pv sv:V} {lid:Option Nat} {Z:Nat→Option Blk} {σ:Rw} {X:Hp}
theorem RW.lt (R:RW B id pv sv lid Z σ X):∀k blk,X.get k=some blk→k<X.next:=let ⟨_,_,_,W,_⟩:=R.ex;W.acc.lt
theorem RW.z (R:RW B id pv sv lid Z σ X) {k:Nat} {blk:Blk} (h:Z k=some blk):X.get k=some blk:=let ⟨_,_,_,_,_,_,_,_,z⟩:=R.ex;(z k blk h).1
theorem RW.more {Y:Hp} (R:RW B id pv sv lid Z σ X) (e:X.Ext Y) (hl:∀k blk,Y.get k=some blk→k<Y.next):RW B id pv sv lid Z σ Y:=by
  obtain ⟨v,lv,es,W,A,d,s,hk,hz⟩:=R.ex
  exact ⟨v,lv,es,W.ext e hl,A.more e hl,d,s,fun k h=>let ⟨a,b,c⟩:=hk k h;⟨a,e.2 _ _ b,c⟩,fun k blk h=>let ⟨a,b⟩:=hz k blk h;⟨e.2 _ _ a,b⟩⟩
theorem RW.add {Y:Hp} {b:Blk} (R:RW B id pv sv lid Z σ X) (e:X.Ext Y) (hl:∀k blk,Y.get k=some blk→k<Y.next) (hg:Y.get X.next=some b):
    RW B id pv sv lid (fun j=>if j=X.next then some b else Z j) σ Y:=by
  obtain ⟨v,lv,es,W,A,d,s,hk,hz⟩:=R.ex
  obtain ⟨a,buf,m,hgi,_⟩:=W.ex
  have hid:=W.acc.lt _ _ hgi
  refine ⟨v,lv,es,W.ext e hl,A.more e hl,d,s,fun k h=>let ⟨a,b,c⟩:=hk k h;⟨a,e.2 _ _ b,c⟩,fun k blk h=>?_⟩
  by_cases hkx:k=X.next
  · subst hkx
    simp at h;subst h
    refine ⟨hg,by omega,fun h=>?_,W.acc.slLt (Nat.le_refl _),A.slLt (Nat.le_refl _)⟩
    have:=W.acc.lt _ _ (hk _ h).2.1
    omega
  · simp [hkx] at h
    exact let ⟨a,b⟩:=hz k blk h;⟨e.2 _ _ a,b⟩
theorem RW.get (R:RW B id pv sv lid Z σ X):∃a buf m,X.get id=some (.cells [a,buf,.i .i64 σ.we,pv,sv,.i .i64 σ.e] m)∧m≤6:=by
  obtain ⟨v,lv,es,W,_⟩:=R.ex
  obtain ⟨a,buf,m,hg,hm,_⟩:=W.ex
  exact ⟨a,buf,m,hg,hm⟩
theorem RW.turn {σ':Rw} {X':Hp} {v lv v':V} {es:List (List V)} (hl:σ'.l=σ.l) (W:WB B 109 6 id [.i .i64 σ.we,pv,sv,.i .i64 σ.e] σ.bs X v) (A:Acc B 1 lv X es) (d:Dis v lv) (s:ye9 lv id)
    (hk:∀k,lid=some k→es=tcl σ.l∧X.get k=some (.cells [lv] 1)∧ye9 v k∧ye9 lv k∧k≠id∧B.next≤k) (hz:∀k blk,Z k=some blk→X.get k=some blk∧k≠id∧lid≠some k∧ye9 v k∧ye9 lv k)
    (W':WB B 109 6 id [.i .i64 σ'.we,pv,sv,.i .i64 σ'.e] σ'.bs X' v') (K:Kp id v X v' X'):RW B id pv sv lid Z σ' X':=by
  have A':Acc B 1 lv X' es:=by
    refine ⟨W'.acc.ext,W'.acc.lt,A.all,A.sl.imp (fun x=>x) ?_⟩
    rintro ⟨j,m,a,e,c,f⟩
    refine ⟨j,m,a,e,?_,f⟩
    subst e
    exact (K.2 j _ c s ((d j).resolve_right fun h=>h rfl)).1
  have d':Dis v' lv:=fun j=>by
    by_cases hj:ye9 lv j
    · exact .inr hj
    · left
      rcases A.sl with ⟨_,z,rfl⟩ | ⟨i,m,a,rfl,c,f⟩
      · exact (hj trivial).elim
      · have:i=j:=by
          by_cases e:i=j
          · exact e
          · exact (hj e).elim
        subst this
        exact (K.2 i _ c s ((d i).resolve_right hj)).2
  refine ⟨v',lv,es,W',A',d',s,fun k h=>?_,fun k blk h=>?_⟩
  · obtain ⟨a,b,s1,s2,n,lo⟩:=hk k h
    obtain ⟨g,s3⟩:=K.2 _ _ b n s1
    exact ⟨by rw [hl];exact a,g,s3,s2,n,lo⟩
  · obtain ⟨b,n,n2,s1,s2⟩:=hz k blk h
    obtain ⟨g,s3⟩:=K.2 _ _ b n s1
    exact ⟨g,n,n2,s3,s2⟩
theorem ypy (R:RW B id pv sv lid Z σ X) (x:Int):
    AC Tryz.prog y80 [.p (some (id,0,6)),.i .i64 x] X (fun r X'=>r=.tup []∧RW B id pv sv lid Z (y9q σ x) X'):=by
  obtain ⟨v,lv,es,W,A,d,s,hk,hz⟩:=R.ex
  obtain ⟨a,buf,m,hg,hm,h⟩:=W.ex
  refine AC.code y3w.at y3w.ok ?_
  simp only [y3w]
  apply jA
  simp [y3w.r0,hg,hm]
  by_cases he:σ.e=0
  · refine jG (by simp [he]) (AX.reg ?_)
    simp [y3w.r1,hg,hm]
    obtain ⟨W',K⟩:=W.cells hg (cs':=[.i .i64 σ.we,pv,sv,.i .i64 x]) rfl 6 (by omega)
    exact RW.turn (σ:=σ) (σ':=y9q σ x) rfl W A d s hk hz (by simpa [y9q,he] using W') K
  · refine jF (by simp [he]) (AX.skip ?_)
    simp
    have:y9q σ x=σ:=by simp [y9q,he]
    rw [this];exact R
theorem yfw (R:RW B id pv sv lid Z σ X) (n:Int) (hb:σ.bs.length≤1000000000):
    AC Tryz.prog y40 [.p (some (id,0,6)),.i .i64 n] X (fun r X'=>r=.tup []∧RW B id pv sv lid Z (ya8 σ n) X'):=by
  refine AC.code y31.at y31.ok ?_
  simp only [y31]
  refine AX.seq (AX.test (decide (n<0)||decide (268435456<n)) [(0,.p (some (id,0,6))),(1,.i .i64 n),(9,.b (decide (n<0)||decide (268435456<n)))] ?_ rfl (fun h1=>?_) (fun h1=>AX.skip ?_))
  · by_cases h1:n<0
    · simp [y31.r0,h1]
    · simp [y31.r0,h1]
  · simp at h1
    apply jA
    simp [y31.r1]
    refine (ypy R 2).mono ?_
    rintro _ X' ⟨rfl,R'⟩
    simp
    apply jD
    simp [ya8]
    rw [if_pos h1];exact R'
  · simp at h1
    simp
    apply jE
    obtain ⟨v,lv,es,W,A,d,s,hk,hz⟩:=R.ex
    obtain ⟨a,buf,m,hg,hm,h⟩:=W.ex
    simp [y31.r2]
    refine (ydi n W hb).mono ?_
    rintro _ X' ⟨rfl,v',W',K⟩
    simp
    refine RW.turn (σ:=σ) (σ':=ya8 σ n) (yd4 σ n).2 W A d s hk hz ?_ K
    have:ya8 σ n={ σ with we:=(yi1 σ.we σ.bs n).1,bs:=(yi1 σ.we σ.bs n).2 }:=by unfold ya8;rw [if_neg (by omega)]
    rw [this];exact W'
def ymz (sv:V) (lid:Option Nat):Prop:=(∃k,lid=some k∧sv=.fn y60 [.p (some (k,0,1))])∨(lid=none∧sv=.fn y6o [])
theorem Seen_ok (R:RW B id pv sv lid Z σ X) (hs:ymz sv lid) (t:Str) (hb:σ.l.length≤1000000000):
    callv Tryz.prog sv [.s t] X (fun r X'=>r=.tup []∧RW B id pv sv lid Z { σ with l:=σ.l++[t] } X'):=by
  obtain ⟨v,lv,es,W,A,d,s,hk,hz⟩:=R.ex
  rcases hs with ⟨k,rfl,rfl⟩ | ⟨rfl,rfl⟩
  · obtain ⟨e,g,s1,s2,n,lo⟩:=hk k rfl
    subst e
    simp
    refine AC.code y5g.at y5g.ok ?_
    simp only [y5g]
    apply jE
    obtain ⟨v2,X2,e2,A2,nx,K⟩:=A.appKs (bytes:=16) (x:=.fs [[.s t]]) W.hB (ys:=[[.s t]]) (by simp) (by simp) (by omega) (by simp [y7o]) (by simp [tcl,ycg];omega)
    obtain ⟨g2,s3⟩:=K k _ g s2
    obtain ⟨p2,n2,z2,rfl⟩:=A2.isSl
    simp [y5g.r0,g,ydj,-y56,e2,g2]
    obtain ⟨a,buf,m,hg,hm,h⟩:=W.ex
    obtain ⟨hg2,s4⟩:=K id _ hg s
    have hkl:=A2.lt _ _ g2
    have d2:Dis v (.sl p2 n2 z2):=fun j=>by
      by_cases hj:ye9 v j
      · exact .inl hj
      · right
        rcases W.acc.sl with ⟨_,z,rfl⟩ | ⟨i,m,a,rfl,c,f⟩
        · exact (hj trivial).elim
        · have:i=j:=by
            by_cases e:i=j
            · exact e
            · exact (hj e).elim
          subst this
          exact (K i _ c ((d i).resolve_left hj)).2
    have A':Acc B 1 v (X2.upd k (.cells [.sl p2 n2 z2] 1)) (bcl σ.bs):=by
      refine ⟨A2.ext.upd W.hB lo _,Hp.upd_lt A2.lt hkl _,W.acc.all,W.acc.sl.imp (fun x=>x) ?_⟩
      rintro ⟨j,m,a,e,c,f⟩
      refine ⟨j,m,a,e,?_,f⟩
      subst e
      rw [Hp.get_upd,if_neg (show j≠k from s1)]
      exact (K j _ c ((d j).resolve_left fun h=>h rfl)).1
    refine ⟨v,.sl p2 n2 z2,_,⟨W.hB,W.hl,W.hL,W.lo,A',W.sep,a,buf,m,by simpa [n.symm] using hg2,hm,h⟩,A2.upd W.hB s3 lo hkl _,d2,s4,fun j hj=>?_,fun j blk hj=>?_⟩
    · injection hj with hj;subst hj
      exact ⟨by simp [tcl],by simp,s1,s3,n,lo⟩
    · obtain ⟨b,n1,n2,s1,s2⟩:=hz j blk hj
      obtain ⟨g3,s5⟩:=K j _ b s2
      exact ⟨by rw [Hp.get_upd,if_neg (fun e=>n2 (by rw [e]))];exact g3,n1,n2,s1,s5⟩
  · simp
    refine AC.code y69.at y69.ok ?_
    simp only [y69]
    first
    | (refine AX.skip ?_;simp)
    | (apply jE;simp [y69.r0])
    | (apply jD;simp)
    exact ⟨v,lv,es,W,A,d,s,(fun k h=>by cases h),hz⟩
theorem yce {pool:List Str} (R:RW B id pv sv lid Z σ X) (hs:ymz sv lid) (hp:yd0 pool pv) (t:Str) (hb:σ.bs.length≤1000000000) (hl:σ.l.length≤1000000000):
    AC Tryz.prog y35 [.p (some (id,0,6)),.s t] X (fun r X'=>r=.tup []∧RW B id pv sv lid Z (ykj pool σ t) X'):=by
  obtain ⟨a,buf,m,hg,hm⟩:=R.get
  refine AC.code y2k.at y2k.ok ?_
  simp only [y2k]
  apply jA
  simp [y2k.r0,hg,hm]
  refine callv_mono (Seen_ok R hs t hl) ?_
  rintro _ X1 ⟨rfl,R1⟩
  simp
  obtain ⟨a1,buf1,m1,hg1,hm1⟩:=R1.get
  apply jA
  simp [y2k.r1,hg1,hm1]
  refine AC.fix (yqy pool pv hp t _) ?_
  simp
  apply jB
  simp [y2k.r2]
  by_cases h:t∈pool
  · refine jF (by simp [h]) (AX.skip ?_)
    simp
    apply jE
    simp [y2k.r4]
    refine (yfw R1 _ hb).mono ?_
    rintro _ X2 ⟨rfl,R2⟩
    simp [ykj,h];exact R2
  · refine jG (by simp [h]) (AX.reg ?_)
    simp [y2k.r3]
    refine (ypy R1 7).mono ?_
    rintro _ X2 ⟨rfl,R2⟩
    simp
    apply jE
    simp [y2k.r4]
    refine (yfw R2 _ (by simpa [y9q] using hb)).mono ?_
    rintro _ X3 ⟨rfl,R3⟩
    simp [ykj,h];exact R3
end
def ShInv (a b:Str) (H:Hp) (m:Nat) (F:Fr) (X:Hp):Prop:=
  ∃n,n≤a.length∧m=a.length-n∧shN a b=n+shN (a.drop n) (b.drop n)∧X=H∧F=[(0,.s a),(1,.s b),(5,.i .i64 n)]
theorem ylp (a b:Str) (ha:a.length≤9223372036854775807) (hb:b.length≤9223372036854775807) (H:Hp):AC Tryz.prog ybr [.s a,.s b] H (fun v H'=>v=.i .i64 (shN a b:Nat)∧H'=H):=by
  refine AC.code y39.at y39.ok ?_
  simp only [y39]
  apply jA
  simp [y39.r0]
  apply jA
  simp [y39.r1]
  refine AX.seq (AX.pblock (AX.loop (ShInv a b H) a.length ⟨_,_,.refl _ _,0,by omega,by omega,by simp,rfl,rfl⟩ ?_))
  rintro m F X ⟨n,hn,rfl,hs,rfl,rfl⟩
  simp only [y39.l0]
  obtain ⟨c,hc⟩:∃c,c=decide (∃(h1:n<a.length) (h2:n<b.length),a[n]=b[n]):=⟨_,rfl⟩
  refine AX.seq (AX.testD c [(0,.s a),(1,.s b),(5,.i .i64 n),(21,.b c)] ?_ rfl (fun hd=>AX.skip ?_) (fun hd=>AX.exit ?_))
  · by_cases h1:n<a.length
    · by_cases h2:n<b.length
      · have h3:(n:Int)<min (a.length:Int) b.length:=by omega
        simp [y39.r2,h1,h2,h3,hc,UInt8.toNat_inj]
      · have h3:¬(n:Int)<min (a.length:Int) b.length:=by omega
        simp [y39.r2,h1,h2,h3,hc]
    · have h3:¬(n:Int)<min (a.length:Int) b.length:=by omega
      simp [y39.r2,h1,h3,hc]
  · subst hd
    obtain ⟨h1,h2,e⟩:=of_decide_eq_true hc.symm
    simp
    refine AX.pblock (AX.reg ?_)
    simp [y39.r3,y3q h1 ha]
    exact ⟨a.length-(n+1),by omega,_,_,.refl _ _,n+1,by omega,rfl,by rw [hs,shN_more h1 h2 e];omega,rfl,by simp⟩
  · subst hd
    have hno:=of_decide_eq_false hc.symm
    have h0:shN (a.drop n) (b.drop n)=0:=shN_stop (by
      by_cases h:n<a.length∧n<b.length
      · exact .inr ⟨h.1,h.2,fun e=>hno ⟨h.1,h.2,e⟩⟩
      · exact .inl h)
    simp
    apply jA
    simp [y39.r4]
    apply jD
    simp [hs,h0]
section
variable {B X:Hp} {T L id:Nat} {cs:List V} {bs:Str} {v:V}
def PwInv (B X:Hp) (T L id:Nat) (cs:List V) (bs:Str) (v:V) (l:List Str) (m:Nat) (F:Fr) (Y:Hp):Prop:=
  ∃i v',i≤l.length∧m=l.length-i∧WB B T L id (.i .i64 0::cs) (bs++ym6 l i) Y v'∧Kp id v X v' Y∧F=[(1,.p (some (id,0,L))),(5,.s (ye7 l i)),(15,ss l),(16,.i .i64 l.length),(17,.i .i64 i)]
theorem yux (l:List Str) (pv:V) (hp:yd0 l pv) (hl:l.length≤6000) (h1000:∀s∈l,s.length≤1000) (W:WB B T L id (.i .i64 0::cs) bs X v) (hb:bs.length≤1000):
    AC Tryz.prog yb1 [pv,.p (some (id,0,L))] X (fun r X'=>r=.tup []∧∃v',WB B T L id (.i .i64 0::cs) (bs++yd9 l) X' v'∧Kp id v X v' X'):=by
  refine AC.code y1h.at y1h.ok ?_
  simp only [y1h]
  apply jA
  simp [y1h.r0]
  refine AC.fix (yhy l pv hp _) ?_
  simp
  apply jA
  simp [y1h.r1,ss]
  refine (ydi _ W (by omega)).mono ?_
  rintro _ X1 ⟨rfl,v1,W1,K1⟩
  have hw:yi1 0 bs (l.length:Nat)=(0,bs++y8b l.length):=by simp only [yi1];rw [if_neg (by simp),if_neg (by omega)];simp
  rw [hw] at W1
  have hv:=y9o (n:=l.length) (by omega)
  simp
  apply jA
  simp [y1h.r2]
  apply jA
  simp [y1h.r3]
  refine AX.pblock (AX.loop (PwInv B X1 T L id cs (bs++y8b l.length) v1 l) l.length ⟨_,_,.refl _ _,0,v1,by omega,by omega,by simpa [ym6,yd8] using W1,.refl _ _ _,by simp [ye7,ss]⟩ ?_)
  rintro m F Y ⟨i,v2,hi,rfl,W2,K2,rfl⟩
  have hpl:=ysl l h1000 i hi
  have hll:(ye7 l i).length≤1000:=by
    unfold ye7
    cases hq:(l.take i).getLast? with
    | none=>simp
    | some x=>exact h1000 x (List.mem_of_mem_take (List.mem_of_getLast? hq))
  simp only [y1h.l0]
  apply jA
  simp [y1h.r4]
  refine AX.seq (AX.pcond rfl (fun hd=>AX.skip ?_) (fun hd=>AX.exit ?_))
  · simp at hd
    have h1:=h1000 l[i] (List.getElem_mem hd)
    have h2:=ylq (ye7 l i) l[i]
    simp
    apply jC
    simp [y1h.r5,ss,hd]
    apply jA
    simp [y1h.r6]
    refine AC.fix (ylp _ _ (by omega) (by omega) _) ?_
    simp
    apply jA
    simp [y1h.r7]
    refine (ydi _ W2 (by simp;omega)).mono ?_
    rintro _ X3 ⟨rfl,v3,W3,K3⟩
    have hw:∀q:Str,yi1 0 q (shN (ye7 l i) l[i]:Nat)=(0,q++y8b (shN (ye7 l i) l[i])):=fun q=>by simp only [yi1];rw [if_neg (by simp),if_neg (by omega)];simp
    rw [hw] at W3
    have hv3:=y9o (n:=shN (ye7 l i) l[i]) (by omega)
    simp
    apply jA
    simp [y1h.r8,h2.2]
    refine (ypx (l[i].drop (shN (ye7 l i) l[i])) W3 (by simp;omega)).mono ?_
    rintro _ X4 ⟨rfl,v4,W4,K4⟩
    have hw2:∀q:Str,yot 0 q (l[i].drop (shN (ye7 l i) l[i]))=(0,q++y8b (l[i].length-shN (ye7 l i) l[i])++l[i].drop (shN (ye7 l i) l[i])):=fun q=>by simp only [yot];rw [if_neg (by simp),if_neg (by simp;omega)];simp
    rw [hw2] at W4
    simp
    apply jE
    simp [y1h.r9]
    apply jE
    simp [y1h.r10,y3q hd (show l.length≤9223372036854775807 by omega)]
    refine ⟨l.length-(i+1),by omega,_,_,.refl _ _,i+1,v4,by omega,rfl,?_,(K2.trans K3).trans K4,by simp [yqe l i hd,ss]⟩
    rw [yqa l i hd]
    simpa using W4
  · simp at hd
    have:i=l.length:=by omega
    subst this
    simp
    refine ⟨v2,?_,K1.trans K2⟩
    have:yd9 l=y8b l.length++ym6 l l.length:=by simp [yd9,ym6]
    rw [this]
    simpa using W2
end
def rlF (k:Nat) (zs:List V):AFunc:=⟨22,[],.seq (.post [1,2] (.region y1g.r0)) (.seq (.post [2,12,13,14] (.region y1g.r1)) (.post [] (.block 0 (.loop
  (.seq (.post [2,12,13,14,15] (.region y1g.r2)) (.seq (.post [2,12,13,14] (.cond (.t 15) (.skip) (.exit 0))) (.seq (.post [2,12,13,14] (.block 1 (.seq (.post [2,7,12,13,14] (.region [
  ⟨some 16,none,.op (.iad k (.t 12) (.t 14))⟩,
  ⟨some 17,none,.op (.load true k (.t 16))⟩,
  ⟨some 7,none,.op (.new zs)⟩,
  ⟨none,none,.op (.store k (.t 7) (.t 17))⟩])) (.post [2,12,13,14] (.region [
  ab 18 2,
  ⟨some 19,none,.op (.load true k (.t 7))⟩,
  ⟨some 20,none,.callv (.t 18) [.t 19]⟩]))))) (.post [2,12,13,14] (.region y1g.r5)))))))))⟩
theorem rwB.bs {σ:Rw} {n:Nat} (h:rwB σ n):σ.bs.length≤1000000000:=by unfold rwB at h;omega
theorem rwB.ls {σ:Rw} {n:Nat} (h:rwB σ n):σ.l.length≤1000000000:=by unfold rwB at h;omega
theorem yh0 {α β:Type} (f:α→List β):∀(l:List α),(∀x,1≤(f x).length)→l.length≤(l.flatMap f).length
  | [],_=>by simp
  | x::l,h=>by
    have:=yh0 f l h
    have:=h x
    rw [List.flatMap_cons,List.length_append,List.length_cons];omega
theorem ydm {vs cs:List V} (h:vs.length=cs.length):setAll cs 0 vs=vs:=by
  apply List.ext_getElem?
  intro j
  rw [ygp _ _ _ _ (by omega)]
  by_cases hj:j<vs.length
  · rw [if_pos (by omega)];simp
  · rw [if_neg (by omega),List.getElem?_eq_none (by omega),List.getElem?_eq_none (by omega)]
section
variable {B:Hp} {id:Nat} {pv sv:V} {lid:Option Nat} {Z:Nat→Option Blk} {σ:Rw} {X:Hp}
def RlInv {α:Type} (B:Hp) (id:Nat) (pv sv:V) (lid:Option Nat) (Z:Nat→Option Blk) (pool:List Str) (enc:α→List V) (evf:α→List Ev) (one:V) (l:List α) (σ:Rw) (m:Nat) (F:Fr) (Y:Hp):Prop:=
  ∃i,i≤l.length∧m=l.length-i∧RW B id pv sv lid Z (y8c pool σ ((l.take i).flatMap evf)) Y∧rwB (y8c pool σ ((l.take i).flatMap evf)) ((l.drop i).flatMap evf).length∧F=[(2,one),(12,.fs (l.map enc)),(13,.i .i64 l.length),(14,.i .i64 i)]
theorem rlStep {α:Type} {pool:List Str} {evf:α→List Ev} {l:List α} {i:Nat} {σ:Rw} (h:i<l.length) (hb:rwB (y8c pool σ ((l.take i).flatMap evf)) ((l.drop i).flatMap evf).length):
    rwB (y8c pool σ ((l.take i).flatMap evf)) (evf l[i]).length∧y8c pool (y8c pool σ ((l.take i).flatMap evf)) (evf l[i])=y8c pool σ ((l.take (i+1)).flatMap evf)∧rwB (y8c pool σ ((l.take (i+1)).flatMap evf)) ((l.drop (i+1)).flatMap evf).length:=by
  have e1:y8c pool (y8c pool σ ((l.take i).flatMap evf)) (evf l[i])=y8c pool σ ((l.take (i+1)).flatMap evf):=by
    rw [←yh7,List.take_add_one,List.getElem?_eq_getElem h,Option.toList_some,List.flatMap_append,List.flatMap_cons,List.flatMap_nil,List.append_nil]
  have e2:(l.drop i).flatMap evf=evf l[i]++(l.drop (i+1)).flatMap evf:=by
    rw [List.drop_eq_getElem_cons h,List.flatMap_cons]
  rw [e2,List.length_append] at hb
  exact ⟨hb.le (by omega),e1,by rw [←e1];exact hb.evs⟩
theorem yhx {α:Type} (enc:α→List V) (evf:α→List Ev) (k:Nat) (zs:List V) (hk:∀x,(enc x).length=k) (hz:zs.length=k) (h0:0<k) (hc:∀x,(enc x).all y7o=true) {f:Go.FuncId} {fn:Go.Func} (hf:Tryz.prog.funcs[f]?=some fn) (hok:y1x Tryz.prog fn (rlF k zs)=true)
    {pool:List Str} (l:List α) (R:RW B id pv sv lid Z σ X) (one:V)
    (hone:∀x∈l,∀σ' X',RW B id pv sv lid Z σ' X'→rwB σ' (evf x).length→callv Tryz.prog one [.agg (enc x)] X' (fun r Y=>r=.tup []∧RW B id pv sv lid Z (y8c pool σ' (evf x)) Y)) (hb:rwB σ (evL evf l).length) (hll:l.length≤1000000000):
    AC Tryz.prog f [.p (some (id,0,6)),.fs (l.map enc),one] X (fun r Y=>r=.tup []∧RW B id pv sv lid Z (y8c pool σ (evL evf l)) Y):=by
  have hb1:rwB (ya8 σ l.length) (l.flatMap evf).length:=by
    have:(evL evf l).length=(l.flatMap evf).length+1:=by simp [evL]
    rw [this] at hb;exact hb.ev pool (.num l.length)
  have hb0:σ.bs.length≤1000000000:=by unfold rwB at hb;omega
  refine AC.code hf hok ?_
  simp only [rlF]
  apply jA
  simp [y1g.r0]
  refine (yfw R _ hb0).mono ?_
  rintro _ X1 ⟨rfl,R1⟩
  simp
  apply jA
  simp [y1g.r1]
  refine AX.pblock (AX.loop (RlInv B id pv sv lid Z pool enc evf one l (ya8 σ l.length)) l.length ⟨_,_,.refl _ _,0,by omega,by omega,by simpa using R1,by simpa using hb1,by simp⟩ ?_)
  rintro m F Y ⟨i,hi,rfl,RY,bY,rfl⟩
  apply jA
  simp [y1g.r2]
  refine AX.seq (AX.pcond rfl (fun hd=>AX.skip ?_) (fun hd=>AX.exit ?_))
  · simp at hd
    obtain ⟨b1,b2,b3⟩:=rlStep hd bY
    simp
    have hkl:=hk l[i]
    have hcl:=hc l[i]
    have hne:enc l[i]≠[]:=fun h=>by rw [h] at hkl;simp at hkl;omega
    have hcv:y7e (.agg (enc l[i]))=some (enc l[i]):=by simp only [y7e];rw [if_pos hcl]
    have hsa:setAll zs 0 (enc l[i])=enc l[i]:=ydm (by rw [hkl,hz])
    have htk:(enc l[i]).take k=enc l[i]:=List.take_of_length_le (by omega)
    have e1:=RY.lt
    have hup:(Y.add (.cells zs k)).upd Y.next (.cells (enc l[i]) k)=Y.add (.cells (enc l[i]) k):=by
      refine Hp.ext' (fun j=>?_) rfl
      simp only [Hp.get_upd,Hp.get_add]
      split <;> rfl
    have hgk:(Y.add (.cells (enc l[i]) k)).get Y.next=some (.cells (enc l[i]) k):=by simp
    apply jC
    simp [hd,hkl,hz,hcv,-y7e,-setAll,hsa,htk,hne,hup]
    have RY2:=RY.more (.add e1 (.cells (enc l[i]) k)) (Hp.add_lt e1 (.cells (enc l[i]) k))
    apply jE
    simp [htk]
    refine callv_mono (hone _ (List.getElem_mem hd) _ _ RY2 b1) ?_
    rintro _ Y3 ⟨rfl,R3⟩
    rw [b2] at R3
    simp
    apply jE
    simp [y1g.r5,y5n (show i≤9223372036854775000 by omega)]
    exact ⟨l.length-(i+1),by omega,_,_,.refl _ _,i+1,by omega,rfl,R3,b3,by simp⟩
  · simp at hd
    simp
    have:i=l.length:=by omega
    subst this
    simp at RY
    exact RY
theorem ygf {pool:List Str} (hs:ymz sv lid) (hp:yd0 pool pv) (l:List Str) (R:RW B id pv sv lid Z σ X) (hb:rwB σ (evL evW l).length):
    AC Tryz.prog y5x [.p (some (id,0,6)),ss l,.fb y35 [.p (some (id,0,6))]] X (fun r Y=>r=.tup []∧RW B id pv sv lid Z (y8c pool σ (evL evW l)) Y):=by
  have hb1:rwB (ya8 σ l.length) (l.flatMap evW).length:=by
    have:(evL evW l).length=(l.flatMap evW).length+1:=by simp [evL]
    rw [this] at hb;exact hb.ev pool (.num l.length)
  have hll:l.length≤100000000:=by
    have:l.length≤(l.flatMap evW).length:=yh0 evW l (fun x=>by simp [evW])
    unfold rwB at hb1;omega
  have hb0:σ.bs.length≤1000000000:=by unfold rwB at hb;omega
  refine AC.code y1g.at y1g.ok ?_
  simp only [y1g]
  apply jA
  simp [y1g.r0,ss]
  refine (yfw R _ hb0).mono ?_
  rintro _ X1 ⟨rfl,R1⟩
  simp
  apply jA
  simp [y1g.r1]
  refine AX.pblock (AX.loop (RlInv B id pv sv lid Z pool (fun x=>[.s x]) evW (.fb y35 [.p (some (id,0,6))]) l (ya8 σ l.length)) l.length ⟨_,_,.refl _ _,0,by omega,by omega,by simpa using R1,by simpa using hb1,by simp⟩ ?_)
  rintro m F Y ⟨i,hi,rfl,RY,bY,rfl⟩
  simp only [y1g.l0]
  apply jA
  simp [y1g.r2]
  refine AX.seq (AX.pcond rfl (fun hd=>AX.skip ?_) (fun hd=>AX.exit ?_))
  · simp at hd
    obtain ⟨b1,b2,b3⟩:=rlStep hd bY
    simp
    apply jC
    simp [y1g.r3,hd]
    apply jE
    simp [y1g.r4]
    refine (yce RY hs hp l[i] (by unfold rwB at b1;omega) (by unfold rwB at b1;omega)).mono ?_
    rintro _ Y3 ⟨rfl,R3⟩
    have b2':ykj pool (y8c pool (ya8 σ l.length) ((l.take i).flatMap evW)) l[i]=y8c pool (ya8 σ l.length) ((l.take (i+1)).flatMap evW):=b2
    rw [b2'] at R3
    simp
    apply jE
    simp [y1g.r5,y5n (show i≤9223372036854775000 by omega)]
    exact ⟨l.length-(i+1),by omega,_,_,.refl _ _,i+1,by omega,rfl,R3,b3,by simp⟩
  · simp at hd
    simp
    have:i=l.length:=by omega
    subst this
    simp at RY
    exact RY
variable {wb:Nat}
theorem WMark_ok {pool:List Str} (hs:ymz sv lid) (hp:yd0 pool pv) (m:Mk) (R:RW B id pv sv lid Z σ X) (hz:Z wb=some (.cells [.p (some (id,0,6))] 1)) (hb:rwB σ (evM m).length):
    AC Tryz.prog y5v [.agg (ybe m),.p (some (wb,0,1))] X (fun r Y=>r=.tup []∧RW B id pv sv lid Z (y8c pool σ (evM m)) Y):=by
  have hg:=R.z hz
  refine AC.code y2l.at y2l.ok ?_
  simp only [y2l]
  apply jA
  simp [y2l.r0,ybe]
  have b1:=hb.ev (n:=1) pool (.num m.pos)
  apply jA
  simp [y2l.r1,hg]
  refine (yfw R _ (by unfold rwB at hb;omega)).mono ?_
  rintro _ X1 ⟨rfl,R1⟩
  have hg1:=R1.z hz
  simp
  apply jE
  simp [y2l.r2,hg1]
  refine (yce R1 hs hp _ b1.bs b1.ls).mono ?_
  rintro _ X2 ⟨rfl,R2⟩
  simp
  exact R2
theorem WObj_ok {pool:List Str} (hs:ymz sv lid) (hp:yd0 pool pv) (o:Ob) (R:RW B id pv sv lid Z σ X) (hz:Z wb=some (.cells [.p (some (id,0,6))] 1)) (hb:rwB σ (evO o).length):
    AC Tryz.prog y6e [.agg (y5p o),.p (some (wb,0,1))] X (fun r Y=>r=.tup []∧RW B id pv sv lid Z (y8c pool σ (evO o)) Y):=by
  have hg:=R.z hz
  have hbl:o.marks.length≤1000000000:=by
    have:(evO o).length=3+(o.marks.flatMap evM).length:=by rw [evO,evL,List.length_cons,List.length_cons,List.length_cons];omega
    have h2:o.marks.length≤(o.marks.flatMap evM).length:=yh0 evM o.marks (fun x=>by simp [evM])
    unfold rwB at hb;omega
  refine AC.code y2d.at y2d.ok ?_
  simp only [y2d]
  apply jA
  simp [y2d.r0,y5p]
  have b1:=hb.ev pool (.txt o.name)
  have b2:=b1.ev pool (.txt o.kinds)
  apply jA
  simp [y2d.r1,hg]
  refine (yce R hs hp _ hb.bs hb.ls).mono ?_
  rintro _ X1 ⟨rfl,R1⟩
  have hg1:=R1.z hz
  simp
  apply jA
  simp [y2d.r2,hg1]
  refine (yce R1 hs hp _ b1.bs b1.ls).mono ?_
  rintro _ X2 ⟨rfl,R2⟩
  have hg2:=R2.z hz
  simp
  apply jE
  simp [y2d.r3,hg2]
  refine (yhx ybe evM 2 [.i .i64 0,.s []] (fun _=>rfl) rfl (by omega) (fun _=>by simp [ybe,y7o]) y2m.at y2m.ok o.marks R2 (.fn y5v [.p (some (wb,0,1))]) (fun m _ σ' X' R' b'=>by simpa using WMark_ok hs hp m R' hz b') b2 hbl).mono ?_
  rintro _ X3 ⟨rfl,R3⟩
  simp
  exact R3
theorem WFn_ok {pool:List Str} (hs:ymz sv lid) (hp:yd0 pool pv) (f:Fu) (R:RW B id pv sv lid Z σ X) (hz:Z wb=some (.cells [.p (some (id,0,6))] 1)) (hb:rwB σ (evF f).length):
    AC Tryz.prog y6d [.agg (ya5 f),.p (some (wb,0,1))] X (fun r Y=>r=.tup []∧RW B id pv sv lid Z (y8c pool σ (evF f)) Y):=by
  have hg:=R.z hz
  refine AC.code y2c.at y2c.ok ?_
  simp only [y2c]
  apply jA
  simp [y2c.r0,ya5]
  have b1:=hb.ev pool (.txt f.name)
  have b2:=b1.ev pool (.txt f.kinds)
  apply jA
  simp [y2c.r1,hg]
  refine (yce R hs hp _ hb.bs hb.ls).mono ?_
  rintro _ X1 ⟨rfl,R1⟩
  have hg1:=R1.z hz
  simp
  apply jA
  simp [y2c.r2,hg1]
  refine (yce R1 hs hp _ b1.bs b1.ls).mono ?_
  rintro _ X2 ⟨rfl,R2⟩
  have hg2:=R2.z hz
  simp
  apply jE
  simp [y2c.r3,hg2]
  refine (yce R2 hs hp _ b2.bs b2.ls).mono ?_
  rintro _ X3 ⟨rfl,R3⟩
  simp
  exact R3
theorem WCon_ok {pool:List Str} (hs:ymz sv lid) (hp:yd0 pool pv) (c:Cn) (R:RW B id pv sv lid Z σ X) (hz:Z wb=some (.cells [.p (some (id,0,6))] 1)) (hb:rwB σ (evC c).length):
    AC Tryz.prog y6c [.agg (y5y c),.p (some (wb,0,1))] X (fun r Y=>r=.tup []∧RW B id pv sv lid Z (y8c pool σ (evC c)) Y):=by
  have hg:=R.z hz
  refine AC.code y1j.at y1j.ok ?_
  simp only [y1j]
  apply jA
  simp [y1j.r0,y5y]
  have b1:=hb.ev pool (.num c.op)
  have b2:=b1.ev pool (.txt c.a)
  have b3:=b2.ev pool (.txt c.b)
  have b4:=b3.ev pool (.num c.k)
  have b5:=b4.ev pool (.txt c.tag)
  apply jA
  simp [y1j.r1,hg]
  refine (yfw R _ hb.bs).mono ?_
  rintro _ X1 ⟨rfl,R1⟩
  have hg1:=R1.z hz
  simp
  apply jA
  simp [y1j.r2,hg1]
  refine (yce R1 hs hp _ b1.bs b1.ls).mono ?_
  rintro _ X2 ⟨rfl,R2⟩
  have hg2:=R2.z hz
  simp
  apply jA
  simp [y1j.r3,hg2]
  refine (yce R2 hs hp _ b2.bs b2.ls).mono ?_
  rintro _ X3 ⟨rfl,R3⟩
  have hg3:=R3.z hz
  simp
  apply jA
  simp [y1j.r4,hg3]
  refine (yfw R3 _ b3.bs).mono ?_
  rintro _ X4 ⟨rfl,R4⟩
  have hg4:=R4.z hz
  simp
  apply jA
  simp [y1j.r5,hg4]
  refine (yce R4 hs hp _ b4.bs b4.ls).mono ?_
  rintro _ X5 ⟨rfl,R5⟩
  have hg5:=R5.z hz
  simp
  apply jE
  simp [y1j.r6,hg5]
  refine (ygf hs hp c.args R5 b5).mono ?_
  rintro _ X6 ⟨rfl,R6⟩
  simp
  exact R6
theorem yul {pool:List Str} (hs:ymz sv lid) (hp:yd0 pool pv) (s:Su) (R:RW B id pv sv lid Z σ X) (hb:rwB σ (evS s).length):
    AC Tryz.prog y6t [.p (some (id,0,6)),.agg (y5u s)] X (fun r Y=>r=.tup []∧∃Z',RW B id pv sv lid Z' (y8c pool σ (evS s)) Y):=by
  have hsz:(evS s).length=1+((evL evW s.gives).length+((evL evW s.wants).length+((evL evW s.keeps).length+((evL evO s.sys.objs).length+((evL evF s.sys.fns).length+(evL evC s.sys.cons).length))))):=by simp [evS];omega
  have lo:s.sys.objs.length≤(evL evO s.sys.objs).length:=Nat.le_trans (yh0 evO s.sys.objs (fun x=>by simp [evO])) (by rw [evL,List.length_cons];omega)
  have lf:s.sys.fns.length≤(evL evF s.sys.fns).length:=Nat.le_trans (yh0 evF s.sys.fns (fun x=>by simp [evF])) (by rw [evL,List.length_cons];omega)
  have lc:s.sys.cons.length≤(evL evC s.sys.cons).length:=Nat.le_trans (yh0 evC s.sys.cons (fun x=>by simp [evC])) (by rw [evL,List.length_cons];omega)
  have hbig:=hb.2
  have b0:rwB σ ((evL evW s.gives).length+((evL evW s.wants).length+((evL evW s.keeps).length+((evL evO s.sys.objs).length+((evL evF s.sys.fns).length+(evL evC s.sys.cons).length))))+1):=hb.le (by omega)
  have b1:=b0.ev pool (.txt s.name)
  have b2:=b1.evs (pool:=pool)
  have b3:=b2.evs (pool:=pool)
  have b4:=b3.evs (pool:=pool)
  have b5:=b4.evs (pool:=pool)
  have b6:=b5.evs (pool:=pool)
  refine AC.code y1f.at y1f.ok ?_
  simp only [y1f]
  apply jA
  simp [y1f.r0,y5u]
  have e1:=R.lt
  have R0:=R.add (.add e1 (.cells [.p (some (id,0,6))] 1)) (Hp.add_lt e1 (.cells [.p (some (id,0,6))] 1)) (b:=.cells [.p (some (id,0,6))] 1) (by simp)
  have hz:(fun j=>if j=X.next then some (Blk.cells [.p (some (id,0,6))] 1) else Z j) X.next=some (.cells [.p (some (id,0,6))] 1):=by simp
  generalize (fun j=>if j=X.next then some (Blk.cells [.p (some (id,0,6))] 1) else Z j)=Z1 at *
  generalize X.add (.cells [.p (some (id,0,6))] 1)=X0 at *
  generalize X.next=wb at *
  have hg0:=R0.z hz
  apply jA
  simp [y1f.r1,hg0]
  refine (yce R0 hs hp _ b0.bs b0.ls).mono ?_
  rintro _ X1 ⟨rfl,R1⟩
  have hg1:=R1.z hz
  simp
  apply jA
  simp [y1f.r2,hg1]
  refine (ygf hs hp s.gives R1 (b1.le (by omega))).mono ?_
  rintro _ X2 ⟨rfl,R2⟩
  have hg2:=R2.z hz
  simp
  apply jA
  simp [y1f.r3,hg2]
  refine (ygf hs hp s.wants R2 (b2.le (by omega))).mono ?_
  rintro _ X3 ⟨rfl,R3⟩
  have hg3:=R3.z hz
  simp
  apply jA
  simp [y1f.r4,hg3]
  refine (ygf hs hp s.keeps R3 (b3.le (by omega))).mono ?_
  rintro _ X4 ⟨rfl,R4⟩
  have hg4:=R4.z hz
  simp
  apply jA
  simp [y1f.r5,hg4]
  refine (yhx y5p evO 3 [.s [],.s [],.sl none 0 0] (fun _=>rfl) rfl (by omega) (fun _=>by simp [y5p,y7o]) y2n.at y2n.ok s.sys.objs R4 (.fn y6e [.p (some (wb,0,1))]) (fun m _ σ' X' R' b'=>by simpa using WObj_ok hs hp m R' hz b') (b4.le (by omega)) (by omega)).mono ?_
  rintro _ X5 ⟨rfl,R5⟩
  have hg5:=R5.z hz
  simp
  apply jA
  simp [y1f.r6,hg5]
  refine (yhx ya5 evF 3 [.s [],.s [],.s []] (fun _=>rfl) rfl (by omega) (fun _=>by simp [ya5,y7o]) y2u.at y2u.ok s.sys.fns R5 (.fn y6d [.p (some (wb,0,1))]) (fun m _ σ' X' R' b'=>by simpa using WFn_ok hs hp m R' hz b') (b5.le (by omega)) (by omega)).mono ?_
  rintro _ X6 ⟨rfl,R6⟩
  have hg6:=R6.z hz
  simp
  apply jE
  simp [y1f.r7,hg6]
  refine (yhx y5y evC 6 [.i .i64 0,.s [],.s [],.i .i64 0,.s [],.sl none 0 0] (fun _=>rfl) rfl (by omega) (fun _=>by simp [y5y,y7o,ss]) y2o.at y2o.ok s.sys.cons R6 (.fn y6c [.p (some (wb,0,1))]) (fun m _ σ' X' R' b'=>by simpa using WCon_ok hs hp m R' hz b') b6 (by omega)).mono ?_
  rintro _ X7 ⟨rfl,R7⟩
  simp
  refine ⟨Z1,?_⟩
  have:y8c pool σ (evS s)=y8c pool (y8c pool (y8c pool (y8c pool (y8c pool (y8c pool (rwEv pool σ (.txt s.name)) (evL evW s.gives)) (evL evW s.wants)) (evL evW s.keeps)) (evL evO s.sys.objs)) (evL evF s.sys.fns)) (evL evC s.sys.cons):=by
    simp only [evS,yex,yh7]
  rw [this];exact R7
end
end Go.Proofs.YthmkcebbeehbeaaGreatDoor
