/- Part 37 of the proof of the laws of the queries: BldW, GrpW, QBin, GrpT, R02. -/
import Derived.Test.YthmkcebbeehbeaaGreatDoorXEw17
import Derived.Test.YthmkcebbeehbeaaGreatDoorXEw27
import Derived.Test.YthmkcebbeehbeaaGreatDoorXEw30
import Derived.Test.YthmkcebbeehbeaaGreatDoorXEw36
set_option linter.unusedSimpArgs false
set_option linter.unusedVariables false
namespace Go.Proofs.YthmkcebbeehbeaaGreatDoor
open Am C
namespace Am
theorem AX.stpH {P:Go.Program} {n:Nat} {Q:y8s} {F:Fr} {H:Hp} {ts:List Nat} {ss:List AStep} {A:ACode} (F1:Fr) (H1:Hp) (h:yet P ss (fun F X=>ycd F ts=F1∧X=H1) F H)
    (k:AX P n A Q F1 H1):AX P n (.seq (.post ts (.region ss)) A) Q F H:=by
  refine AX.seq (AX.mono (Q:=y8s.then (fun F X=>F=F1∧X=H1) fun _ _ _=>False) (AX.reg h) ?_)
  intro x F' H' hx
  cases x with
  | normal=>obtain ⟨rfl,rfl⟩:=hx;exact k
  | exit k=>exact hx.elim
  | ret=>exact hx.elim
def BufV (v buf:V):Prop:=(buf=v∧∃z,v=.sl none 0 z)∨∃a l s,v=.sl a l s∧buf=.st 5 a l s
structure WB (B:Hp) (T L id:Nat) (cs:List V) (bs:Str) (X:Hp) (v:V):Prop where
  hB:∀k blk,B.get k=some blk→k<B.next
  hl:liesAt Tryz.prog Tryz.prog.depth T (L / Tryz.prog.cellsOf T) 0 56 1=true
  hL:L=cs.length+2
  lo:B.next≤id
  acc:Acc B 1 v X (bcl bs)
  sep:yez v id
  ex:∃a buf m,X.get id=some (.cells (a::buf::cs) m)∧m≤L∧(a=.p (some (id,0,L))∨a=.pz T L id L)∧BufV v buf
def Kp (id:Nat) (v:V) (X:Hp) (v':V) (X':Hp):Prop:=X.next≤X'.next∧∀k blk,X.get k=some blk→k≠id→yez v k→X'.get k=some blk∧yez v' k
theorem Kp.refl (id:Nat) (v:V) (X:Hp):Kp id v X v X:=⟨Nat.le_refl _,fun k blk h _ s=>⟨h,s⟩⟩
theorem Kp.trans {id:Nat} {v v' v'':V} {X X' X'':Hp} (a:Kp id v X v' X') (b:Kp id v' X' v'' X''):Kp id v X v'' X'':=
  ⟨Nat.le_trans a.1 b.1,fun k blk h n s=>let ⟨h1,s1⟩:=a.2 k blk h n s;b.2 k blk h1 n s1⟩
theorem yng {T L id m:Nat} {a:V} {cs:List V} {X:Hp} (hL:L=cs.length+1) (hg:X.get id=some (.cells (a::cs) m)) (hm:m≤L) (ha:a=.p (some (id,0,L))∨a=.pz T L id L)
    (hl:liesAt Tryz.prog Tryz.prog.depth T (L / Tryz.prog.cellsOf T) 0 56 1=true):
    AC Tryz.prog y7j [.p (some (id,0,L))] X (fun v H'=>v=.tup []∧∃m',m'≤L∧H'=X.upd id (.cells (.p (some (id,0,L))::cs) m')):=by
  rcases ha with rfl | rfl
  · exact (yp0 hL hg).mono fun v H' ⟨e1,e2⟩=>⟨e1,m,hm,by rw [e2,Hp.upd_self hg]⟩
  · exact (yoz hL hg hl).mono fun v H' ⟨e1,e2⟩=>⟨e1,L,Nat.le_refl _,e2⟩
theorem WB.put {B X:Hp} {T L id m:Nat} {cs:List V} {bs ys:Str} {v buf x:V} (W:WB B T L id cs bs X v) (hg:X.get id=some (.cells (.p (some (id,0,L))::buf::cs) m)) (hbuf:BufV v buf)
    (hx:∀Y,y9z Y 1 x=some (ys.length,(bcl ys).flatten)) (hb:bs.length+ys.length≤100000000000):
    ∃a2 l2 s2 X2 m2,y5d X 1 1 v x=some (.sl a2 l2 s2,X2)∧X2.get id=some (.cells (.p (some (id,0,L))::buf::cs) m)∧
      WB B T L id cs (bs++ys) (X2.upd id (.cells (.p (some (id,0,L))::.st 5 a2 l2 s2::cs) m2)) (.sl a2 l2 s2)∧Kp id v X (.sl a2 l2 s2) (X2.upd id (.cells (.p (some (id,0,L))::.st 5 a2 l2 s2::cs) m2))∧m2=cs.length+2:=by
  obtain ⟨v2,X2,e,A2,nx,K⟩:=W.acc.appKs (bytes:=1) (x:=x) W.hB (ys:=bcl ys) (by rw [hx];simp) (bcl_one _) (by omega) (yv5 _) (by simp [yc5];omega)
  obtain ⟨a2,l2,s2,rfl⟩:=A2.isSl
  obtain ⟨g2,sp2⟩:=K id _ hg W.sep
  have hid:=A2.lt _ _ g2
  refine ⟨a2,l2,s2,X2,cs.length+2,e,g2,⟨W.hB,W.hl,W.hL,W.lo,?_,sp2,⟨.p (some (id,0,L)),.st 5 a2 l2 s2,cs.length+2,by simp,by rw [W.hL];exact Nat.le_refl _,.inl rfl,.inr ⟨a2,l2,s2,rfl,rfl⟩⟩⟩,⟨by simpa using nx,fun k blk h n s=>?_⟩,rfl⟩
  · rw [yrn]
    exact A2.upd W.hB sp2 W.lo hid _
  · obtain ⟨h1,s1⟩:=K k blk h s
    exact ⟨by rw [Hp.get_upd,if_neg n];exact h1,s1⟩
end Am
theorem ynm {B X:Hp} {T L id:Nat} {cs:List V} {bs:Str} {v:V} (c:UInt8) (W:WB B T L id cs bs X v) (hb:bs.length≤10000000000):
    AC Tryz.prog y7k [.p (some (id,0,L)),.i .u8 c.toNat] X (fun r X'=>r=.nifc∧∃v',WB B T L id cs (bs++[c]) X' v'∧Kp id v X v' X'):=by
  obtain ⟨a,buf,m,hg,hm,ha,hbuf⟩:=W.ex
  have hL:=W.hL
  refine AC.code y2b.at y2b.ok ?_
  simp only [y2b]
  apply jA
  simp [y2b.r0]
  apply jA
  simp [y2b.r1]
  refine (yng (T:=T) (by simpa using hL) hg hm ha W.hl).mono ?_
  rintro _ X1 ⟨rfl,m1,hm1,rfl⟩
  simp
  have hid:=W.acc.lt _ _ hg
  have W1:WB B T L id cs bs (X.upd id (.cells (.p (some (id,0,L))::buf::cs) m1)) v:=⟨W.hB,W.hl,hL,W.lo,W.acc.upd W.hB W.sep W.lo hid _,W.sep,⟨.p (some (id,0,L)),buf,m1,by simp,hm1,.inl rfl,hbuf⟩⟩
  have K1:Kp id v X v (X.upd id (.cells (.p (some (id,0,L))::buf::cs) m1)):=⟨by simp,fun k blk h n s=>⟨by rw [Hp.get_upd,if_neg n];exact h,s⟩⟩
  have g1:(X.upd id (.cells (.p (some (id,0,L))::buf::cs) m1)).get id=some (.cells (.p (some (id,0,L))::buf::cs) m1):=by simp
  generalize X.upd id (.cells (.p (some (id,0,L))::buf::cs) m1)=X1 at *
  obtain ⟨a2,l2,s2,X2,m2,e,g2,W2,K2,rfl⟩:=W1.put (ys:=[c]) (x:=.fs [[.i .u8 c.toNat]]) g1 hbuf (fun Y=>by simp [bcl]) (by simp;omega)
  subst hL
  refine AX.stpH [] (X2.upd id (.cells (.p (some (id,0,cs.length+2))::.st 5 a2 l2 s2::cs) (cs.length+2))) ?_ ?_
  · rcases hbuf with ⟨rfl,z,rfl⟩ | ⟨a,l,s,rfl,rfl⟩ <;> simp [y2b.r2,g1,hm1,ydc,-y5d,e,g2]
  apply jA
  simp [y2b.r3]
  apply jD
  simp
  exact ⟨_,W2,K1.trans K2⟩
theorem yk6 {B X:Hp} {T L id:Nat} {cs:List V} {bs:Str} {v:V} (s:Str) (W:WB B T L id cs bs X v) (hb:bs.length≤10000000000) (hs:s.length≤10000000000):
    AC Tryz.prog y73 [.p (some (id,0,L)),.s s] X (fun r X'=>∃v',WB B T L id cs (bs++s) X' v'∧Kp id v X v' X'):=by
  obtain ⟨a,buf,m,hg,hm,ha,hbuf⟩:=W.ex
  have hL:=W.hL
  refine AC.code y24.at y24.ok ?_
  simp only [y24]
  apply jA
  simp [y24.r0]
  apply jA
  simp [y24.r1]
  refine (yng (T:=T) (by simpa using hL) hg hm ha W.hl).mono ?_
  rintro _ X1 ⟨rfl,m1,hm1,rfl⟩
  simp
  have hid:=W.acc.lt _ _ hg
  have W1:WB B T L id cs bs (X.upd id (.cells (.p (some (id,0,L))::buf::cs) m1)) v:=⟨W.hB,W.hl,hL,W.lo,W.acc.upd W.hB W.sep W.lo hid _,W.sep,⟨.p (some (id,0,L)),buf,m1,by simp,hm1,.inl rfl,hbuf⟩⟩
  have K1:Kp id v X v (X.upd id (.cells (.p (some (id,0,L))::buf::cs) m1)):=⟨by simp,fun k blk h n s=>⟨by rw [Hp.get_upd,if_neg n];exact h,s⟩⟩
  have g1:(X.upd id (.cells (.p (some (id,0,L))::buf::cs) m1)).get id=some (.cells (.p (some (id,0,L))::buf::cs) m1):=by simp
  generalize X.upd id (.cells (.p (some (id,0,L))::buf::cs) m1)=X1 at *
  obtain ⟨a2,l2,s2,X2,m2,e,g2,W2,K2,rfl⟩:=W1.put (ys:=s) (x:=.s s) g1 hbuf (fun Y=>by simp [yik]) (by omega)
  subst hL
  refine AX.stpH [(1,.s s)] (X2.upd id (.cells (.p (some (id,0,cs.length+2))::.st 5 a2 l2 s2::cs) (cs.length+2))) ?_ ?_
  · rcases hbuf with ⟨rfl,z,rfl⟩ | ⟨a,l,s,rfl,rfl⟩ <;> simp [y24.r2,g1,hm1,ydc,-y5d,e,g2]
  apply jA
  simp [y24.r3]
  apply jD
  simp
  exact ⟨_,W2,K1.trans K2⟩
theorem grp_byte (q:Nat) (hq:q≤268435456):Go.IntKind.u8.wrap (bOr .i64 (yqq .i64 (q:Int) 127) 128)=((UInt8.ofNat (q % 128+128)).toNat:Int):=by
  rw [show (127:Int)=((127:Nat):Int) from rfl,bAnd_i64 (by omega) (by omega),and127,show (128:Int)=((128:Nat):Int) from rfl,yv7 (by omega) (by omega),or128 (Nat.mod_lt _ (by omega)),yf0 (by omega) (by omega)]
  simp;omega
theorem grp_last (q:Nat) (hq:q<128):Go.IntKind.u8.wrap (q:Int)=((UInt8.ofNat q).toNat:Int):=by
  rw [yf0 (by omega) (by omega)]
  simp;omega
def GrpInv (y nb n:Nat) (J:Str→Nat→Hp→Prop) (m:Nat) (F:Fr) (X:Hp):Prop:=
  ∃pre,m≤n∧y7w n=pre++y7w m∧J pre m X∧F=[(0,.yl y),(1,.p (some (nb,0,1)))]
theorem yrz (y nb n:Nat) (hn:n≤268435456) (J:Str→Nat→Hp→Prop) (X:Hp) (h0:J [] n X)
    (hJ:∀pre q X,J pre q X→∃m,X.get nb=some (.cells [.i .i64 (q:Nat)] m)∧m≤1)
    (hs:∀pre q q' X,J pre q X→J pre q' (X.upd nb (.cells [.i .i64 (q':Nat)] 1)))
    (hy:∀pre q (c:UInt8) X,J pre q X→pre.length≤5→YC Tryz.prog y [.i .u8 c.toNat] X (fun v X'=>v=.b true∧J (pre++[c]) q X')):
    AC Tryz.prog y9q [.yl y,.p (some (nb,0,1))] X (fun _ X'=>∃q,J (y7w n) q X'):=by
  refine AC.code y37.at y37.ok ?_
  simp only [y37]
  refine AX.seq (AX.pblock (AX.loop (GrpInv y nb n J) n ⟨_,_,.refl _ _,[],Nat.le_refl _,rfl,h0,rfl⟩ ?_))
  rintro q F Y ⟨pre,hqn,hv,hj,rfl⟩
  obtain ⟨mb,gb,hmb⟩:=hJ _ _ _ hj
  have hlen:pre.length≤5:=by have:=y7e hn;rw [hv] at this;simp at this;omega
  simp only [y37.l0]
  by_cases hq:127<q
  · apply jB
    have hc:=grp_byte q (by omega)
    have hg:=yhg (n:=q) (by omega)
    generalize UInt8.ofNat (q % 128+128)=c at *
    simp [y37.r0,gb,hmb,hq,hc]
    refine (hy pre q c Y hj hlen).mono ?_
    rintro _ Y1 ⟨rfl,hj1⟩
    obtain ⟨mb1,gb1,hmb1⟩:=hJ _ _ _ hj1
    simp
    refine jG rfl (AX.skip ?_)
    simp
    refine AX.pblock (AX.reg ?_)
    have hsh:((q:Int).fdiv 128)=((q / 128:Nat):Int):=fdiv_nat q 128
    simp [y37.r1,gb1,hmb1,hsh]
    refine ⟨q / 128,by omega,_,_,.refl _ _,pre++[c],by omega,?_,hs _ _ (q / 128) _ hj1,by simp⟩
    rw [hv,hg];simp
  · apply jB
    simp [y37.r0,gb,hmb,hq]
    refine jF rfl (AX.exit ?_)
    simp
    apply jA
    simp [y37.r2,gb,hmb,show q≤127 by omega]
    refine jG rfl ?_
    apply jE
    have hc:=grp_last q (by omega)
    have hg:=y9y (n:=q) (by omega)
    generalize UInt8.ofNat q=c at *
    simp [y37.r3,gb,hmb,hc]
    refine (hy pre q c Y hj hlen).mono ?_
    rintro _ Y1 ⟨rfl,hj1⟩
    simp
    rw [hv,hg]
    exact ⟨q,hj1⟩
theorem Am.WB.beside {B X:Hp} {T L id k:Nat} {cs:List V} {bs:Str} {v:V} (W:WB B T L id cs bs X v) (hk:k≠id) (hs:yez v k) (lo:B.next≤k) (hi:k<X.next) (b:Blk):WB B T L id cs bs (X.upd k b) v:=by
  obtain ⟨a,buf,m,hg,h⟩:=W.ex
  exact ⟨W.hB,W.hl,W.hL,W.lo,W.acc.upd W.hB hs lo hi b,W.sep,a,buf,m,by rw [Hp.get_upd,if_neg (Ne.symm hk)];exact hg,h⟩
theorem Am.WB.ext {B X Y:Hp} {T L id:Nat} {cs:List V} {bs:Str} {v:V} (W:WB B T L id cs bs X v) (e:X.Ext Y) (hl:∀k blk,Y.get k=some blk→k<Y.next):WB B T L id cs bs Y v:=by
  obtain ⟨a,buf,m,hg,h⟩:=W.ex
  exact ⟨W.hB,W.hl,W.hL,W.lo,W.acc.more e hl,W.sep,a,buf,m,e.2 _ _ hg,h⟩
theorem Am.WB.cells {B X:Hp} {T L id m:Nat} {cs cs':List V} {bs:Str} {v a buf:V} (W:WB B T L id cs bs X v) (hg:X.get id=some (.cells (a::buf::cs) m)) (hc:cs'.length=cs.length) (m':Nat) (hm':m'≤L):
    WB B T L id cs' bs (X.upd id (.cells (a::buf::cs') m')) v∧Kp id v X v (X.upd id (.cells (a::buf::cs') m')):=by
  obtain ⟨a2,buf2,m2,hg2,h⟩:=W.ex
  rw [hg] at hg2;injection hg2 with hg2;injection hg2 with h1 h2;injection h1 with h1 h3;injection h3 with h3 h4
  subst h1;subst h3
  exact ⟨⟨W.hB,W.hl,by rw [hc];exact W.hL,W.lo,W.acc.upd W.hB W.sep W.lo (W.acc.lt _ _ hg) _,W.sep,a,buf,m',by simp,hm',h.2⟩,by simp,fun k blk h n s=>⟨by rw [Hp.get_upd,if_neg n];exact h,s⟩⟩
theorem yvy (k:Nat) (X:Hp):AC Tryz.prog ycw [.i .i64 k] X (fun r X'=>r=.fn y9q [.p (some (X.next,0,1))]∧X'=X.add (.cells [.i .i64 k] 1)):=by
  refine AC.code y5g.at y5g.ok ?_
  simp only [y5g]
  apply jA
  simp [y5g.r0]
  apply jA
  simp [y5g.r1]
  apply jD
  simp
theorem Am.Acc.slLt {H X:Hp} {sz:Nat} {v:V} {es:List (List V)} (A:Acc H sz v X es) {k:Nat} (h:X.next≤k):yez v k:=by
  rcases A.sl with ⟨_,z,rfl⟩ | ⟨j,m,h1,rfl,h2,h3⟩
  · trivial
  · have:=A.lt _ _ h2
    show j≠k;omega
theorem Am.WB.del {B X:Hp} {T L id k:Nat} {cs:List V} {bs:Str} {v:V} (W:WB B T L id cs bs X v) (hs:yez v k) (hk:k≠id) (lo:B.next≤k):WB B T L id cs bs (X.del k) v:=by
  obtain ⟨a,buf,m,hg,h⟩:=W.ex
  have hd:∀j,j≠k→(X.del k).get j=X.get j:=fun j h=>by simp only [Hp.del];rw [if_neg h]
  refine ⟨W.hB,W.hl,W.hL,W.lo,⟨⟨W.acc.ext.1,fun j blk g=>?_⟩,fun j blk g=>?_,W.acc.all,W.acc.sl.imp (fun x=>x) fun ⟨j,m,a,e,c,d⟩=>⟨j,m,a,e,?_,d⟩⟩,W.sep,a,buf,m,by rw [hd _ (Ne.symm hk)];exact hg,h⟩
  · have:=W.hB _ _ g
    rw [hd _ (by omega)];exact W.acc.ext.2 _ _ g
  · simp only [Hp.del] at g ⊢
    split at g
    · cases g
    · exact W.acc.lt _ _ g
  · subst e
    rw [hd _ (show j≠k from hs)];exact c
structure WnJ (B X0:Hp) (T L id nb lp:Nat) (S:LpS) (cs:List V) (bs:Str) (v:V) (pre:Str) (q:Nat) (Y:Hp):Prop where
  ex:∃v',WB B T L id cs (bs++pre) Y v'∧Kp id v X0 v' Y∧yez v' nb∧yez v' lp
  nb:Y.get nb=some (.cells [.i .i64 (q:Nat)] 1)
  lp:Y.get lp=some (.obj (.lp S .ready))
theorem yed {B X:Hp} {T L id:Nat} {we:Int} {cs:List V} {bs:Str} {v:V} (n:Int) (W:WB B T L id (.i .i64 we::cs) bs X v) (hb:bs.length≤1000000000):
    AC Tryz.prog y5p [.p (some (id,0,L)),.i .i64 n] X (fun r X'=>r=.tup []∧∃v',WB B T L id (.i .i64 (yio we bs n).1::cs) (yio we bs n).2 X' v'∧Kp id v X v' X'):=by
  obtain ⟨a,buf,m,hg,hm,ha,hbuf⟩:=W.ex
  have hL:=W.hL
  simp at hL
  subst hL
  refine AC.code y13.at y13.ok ?_
  simp only [y13]
  apply jA
  simp [y13.r0]
  refine AX.seq (AX.test (decide (we=0)&&(decide (n<0)||decide (268435456<n))) [(1,.i .i64 n),(2,.fp [.p (some (id,0,cs.length+1+2))] 0),(17,.b (decide (we=0)&&(decide (n<0)||decide (268435456<n))))] ?_ rfl (fun h1=>?_) (fun h1=>AX.skip ?_))
  · by_cases h0:we=0
    · by_cases h1:n<0
      · simp [y13.r1,hg,hm,h0,h1]
      · by_cases h2:268435456<n
        · simp [y13.r1,hg,hm,h0,h1,h2]
        · simp [y13.r1,hg,hm,h0,h1,h2]
    · simp [y13.r1,hg,hm,h0]
  · simp at h1
    obtain ⟨rfl,hn⟩:=h1
    have hw:yio 0 bs n=(2,bs):=by simp only [yio];rw [if_neg (by simp),if_pos hn]
    rw [hw]
    apply jE
    simp [y13.r2,hg,hm]
    apply jB
    simp [y13.r3]
    refine jG rfl (AX.ret ?_)
    simp
    have:=W.cells hg (cs':=.i .i64 2::cs) rfl (cs.length+1+2) (by omega)
    exact ⟨v,this⟩
  simp at h1
  simp
  by_cases hwe:we=0
  · subst hwe
    have hn:=h1 rfl
    have hw:yio 0 bs n=(0,bs++y7w n.toNat):=by simp only [yio];rw [if_neg (by simp),if_neg (by omega)]
    rw [hw]
    obtain ⟨k,rfl⟩:∃k:Nat,n=k:=⟨n.toNat,by omega⟩
    have hk:k≤268435456:=by omega
    simp only [Int.toNat_natCast]
    apply jB
    simp [y13.r3,hg,hm]
    refine jF rfl (AX.skip ?_)
    simp
    apply jA
    simp [y13.r4]
    refine (yvy k X).mono ?_
    rintro _ _ ⟨rfl,rfl⟩
    simp
    refine AX.pblock (AX.prange rfl fun S hS=>?_)
    have hid:=W.acc.lt _ _ hg
    have e1:=Am.Hp.Ext.add W.acc.lt (.cells [.i .i64 (k:Nat)] 1)
    have l1:=Hp.add_lt W.acc.lt (.cells [.i .i64 (k:Nat)] 1)
    have e2:=e1.trans (Am.Hp.Ext.add l1 (.obj (.lp S .ready)))
    have l2:=Hp.add_lt l1 (.obj (.lp S .ready))
    have hvn:=W.acc.slLt (Nat.le_refl X.next)
    have hvn1:=W.acc.slLt (k:=X.next+1) (by omega)
    refine (yrz (X.next+1) X.next k hk (WnJ B X T _ id X.next (X.next+1) S (.i .i64 0::cs) bs v) _ ⟨⟨v,by simpa using W.ext e2 l2,⟨by simp;omega,fun j blk h n s=>⟨e2.2 _ _ h,s⟩⟩,hvn,hvn1⟩,by simp,by simp⟩ (fun pre q Y J=>⟨1,J.nb,by omega⟩) (fun pre q q' Y J=>?_) (fun pre q c Y J hp=>?_)).mono ?_
    · obtain ⟨v',W',K',s1,s2⟩:=J.ex
      refine ⟨⟨v',W'.beside (by omega) s1 (by have:=W.acc.ext.1;omega) (W'.acc.lt _ _ J.nb) _,⟨by simpa using K'.1,fun j blk h n s=>?_⟩,s1,s2⟩,by simp,by simp [J.lp]⟩
      have hj:=W.acc.lt _ _ h
      obtain ⟨g,s'⟩:=K'.2 j blk h n s
      exact ⟨by rw [Hp.get_upd,if_neg (by omega)];exact g,s'⟩
    · obtain ⟨v',W',K',s1,s2⟩:=J.ex
      refine YC.walk hS J.lp rfl ?_
      simp only [y13.a0]
      apply jE
      simp [y13.r5,putAll]
      refine ⟨J.lp,?_⟩
      simp only [y13.b0]
      refine AX.pblock (AX.reg ?_)
      have W1:=W'.beside (k:=X.next+1) (by omega) s2 (by have:=W.acc.ext.1;omega) (W'.acc.lt _ _ J.lp) (.obj (.lp S .busy))
      simp [y13.r6]
      refine (ynm c W1 (by simp;omega)).mono ?_
      rintro _ Y1 ⟨rfl,v1,W2,K2⟩
      simp
      obtain ⟨lpb,s3⟩:=K2.2 (X.next+1) (.obj (.lp S .busy)) (by simp) (by omega) s2
      obtain ⟨nbb,s4⟩:=K2.2 X.next _ (by simp;exact J.nb) (by omega) s1
      simp [yfl]
      refine ⟨lpb,⟨v1,?_,⟨by have:=K'.1;have:=K2.1;simp at *;omega,fun j blk h n s=>?_⟩,s4,s3⟩,by simp [nbb],by simp⟩
      · rw [←List.append_assoc]
        exact W2.beside (by omega) s3 (by have:=W.acc.ext.1;omega) (W2.acc.lt _ _ lpb) _
      · have hj:=W.acc.lt _ _ h
        obtain ⟨g,s'⟩:=K'.2 j blk h n s
        obtain ⟨g2,s''⟩:=K2.2 j blk (by rw [Hp.get_upd,if_neg (by omega)];exact g) n s'
        exact ⟨by rw [Hp.get_upd,if_neg (by omega)];exact g2,s''⟩
    · rintro _ Y ⟨q,J⟩
      obtain ⟨v',W',K',s1,s2⟩:=J.ex
      refine .inl ⟨J.lp,?_⟩
      simp
      have hd:∀j,j≠X.next+1→(Y.del (X.next+1)).get j=Y.get j:=fun j h=>by simp only [Hp.del];rw [if_neg h]
      refine ⟨v',W'.del s2 (by omega) (by have:=W.acc.ext.1;omega),⟨by simpa [Hp.del] using K'.1,fun j blk h n s=>?_⟩⟩
      have hj:=W.acc.lt _ _ h
      obtain ⟨g,s'⟩:=K'.2 j blk h n s
      exact ⟨by rw [hd _ (by omega)];exact g,s'⟩
  · have hw:yio we bs n=(we,bs):=by simp only [yio];rw [if_pos hwe]
    rw [hw]
    apply jB
    simp [y13.r3,hg,hm,hwe]
    refine jG rfl (AX.ret ?_)
    simp
    exact ⟨v,W,.refl _ _ _⟩
theorem Less_ok (x y:Str) (H:Hp):AC Tryz.prog ybn [.s x,.s y] H (fun v H'=>v=.b (ltB x y)∧H'=H):=by
  refine AC.code y53.at y53.ok ?_
  simp only [y53]
  apply jA
  simp [y53.r0]
  refine AX.stp [(4,.b (ltB x y))] ?_ ?_
  · simp [y53.r1]
    refine AC.fix (ylh _ _) ?_
    simp
  apply jD
  simp
theorem yu7 (x:Str) (H:Hp):AC Tryz.prog y85 [.s x] H (fun v H'=>v=.b false∧H'=H):=by
  refine AC.code y42.at y42.ok ?_
  simp only [y42]
  apply jA
  simp [y42.r0]
  apply jA
  simp [y42.r1]
  apply jD
  simp
def BisInv (l:List Str) (x:Str) (H:Hp) (m:Nat) (F:Fr) (H':Hp):Prop:=
  ∃i j,i≤yde l x∧yde l x≤j∧j≤l.length∧m=j-i∧H'=H∧F=[(0,ss l),(1,.s x),(6,.i .i64 l.length),(7,.i .i64 i),(8,.i .i64 j)]
theorem BinS_ok (l:List Str) (x:Str) (hr:y4g l) (hl:l.length≤1000000000) (H:Hp):AC Tryz.prog y68 [ss l,.s x] H (fun v H'=>v=.tup [.i .i64 (yde l x:Nat),.b (decide (x∈l))]∧H'=H):=by
  refine AC.code yc.at yc.ok ?_
  simp only [yc]
  have hp:=yod l x
  apply jA
  simp [yc.r0]
  apply jA
  simp [yc.r1,ss]
  apply jA
  simp [yc.r2]
  refine AX.seq (AX.pblock (AX.loop (BisInv l x H) l.length ⟨_,_,.refl _ _,0,l.length,by omega,hp,by omega,by omega,rfl,rfl⟩ ?_))
  rintro m' F H' ⟨i,j,hi,hj,hjl,rfl,rfl,rfl⟩
  simp only [yc.l0]
  apply jB
  simp [yc.r3]
  refine AX.pcond rfl (fun hb=>AX.skip ?_) (fun hb=>AX.exit ?_)
  · simp at hb
    simp
    refine AX.pblock (jA ?_)
    obtain ⟨e,he⟩:∃e,e=(i+j) / 2:=⟨_,rfl⟩
    have hh:=half i j (by omega)
    rw [←he] at hh
    simp [yc.r4,hh]
    have hel:e<l.length:=by omega
    have hlt:=ygd hr x e l[e] (List.getElem?_eq_getElem hel)
    apply jA
    simp [yc.r5,hel,ss]
    refine AC.fix (Less_ok _ _ _) ?_
    simp
    by_cases hlt':e<yde l x
    · rw [decide_eq_true hlt'] at hlt
      refine jG (by simp [hlt]) (AX.reg ?_)
      simp [yc.r6,y5x (show e≤9223372036854775000 by omega)]
      exact ⟨j-(e+1),by omega,_,_,.refl _ _,e+1,j,by omega,hj,hjl,rfl,rfl,by simp [ss]⟩
    · rw [decide_eq_false hlt'] at hlt
      refine jF (by simp [hlt]) (AX.reg ?_)
      simp [yc.r7]
      exact ⟨e-i,by omega,_,_,.refl _ _,i,e,hi,by omega,by omega,rfl,rfl,by simp [ss]⟩
  simp at hb
  have e1:i=yde l x:=by omega
  subst e1
  have hm:=ydd hr x
  simp
  refine AX.stp [(4,.i .i64 (yde l x:Nat)),(5,.b (decide (x∈l)))] ?_ ?_
  · by_cases hlt:yde l x<l.length
    · have hg:l[yde l x]?=some l[yde l x]:=List.getElem?_eq_getElem hlt
      rw [hg] at hm
      by_cases hxe:l[yde l x]=x
      · have hmm:x∈l:=hm.2 (by rw [hxe])
        simp [yc.r8,hlt,ss,hxe,hmm]
      · have hmm:x∉l:=fun h=>hxe (by simpa using hm.1 h)
        simp [yc.r8,hlt,ss,hxe,hmm]
        refine AC.fix (yu7 _ _) ?_
        simp [hmm]
    · have hmm:x∉l:=fun h=>by
        have:=hm.1 h
        rw [List.getElem?_eq_none (by omega)] at this;cases this
      simp [yc.r8,hlt,ss,hmm]
  apply jD
  simp
theorem numV_pos {l:List Str} (hr:y4g l) {x:Str} (hx:x∈l):yj7 l x=(yde l x:Nat):=by
  refine yoi ((ydd hr x).1 hx) fun h=>?_
  obtain ⟨j,hj⟩:=List.mem_iff_getElem?.1 h
  rw [List.getElem?_take] at hj
  split at hj
  · rename_i hlt
    have:=ygd hr x j x hj
    rw [decide_eq_true hlt] at this
    exact yai x this
  · cases hj
section
variable {B X:Hp} {T L id:Nat} {we:Int} {cs:List V} {bs:Str} {v:V}
theorem yqx (s:Str) (W:WB B T L id (.i .i64 we::cs) bs X v) (hb:bs.length≤1000000000):
    AC Tryz.prog y8c [.p (some (id,0,L)),.s s] X (fun r X'=>r=.tup []∧∃v',WB B T L id (.i .i64 (ypo we bs s).1::cs) (ypo we bs s).2 X' v'∧Kp id v X v' X'):=by
  obtain ⟨a,buf,m,hg,hm,ha,hbuf⟩:=W.ex
  have hL:=W.hL
  simp at hL
  subst hL
  refine AC.code y2e.at y2e.ok ?_
  simp only [y2e]
  refine AX.seq (AX.test (decide (we=0)&&decide (200000<s.length)) [(0,.p (some (id,0,cs.length+1+2))),(1,.s s),(13,.b (decide (we=0)&&decide (200000<s.length)))] ?_ rfl (fun h1=>?_) (fun h1=>AX.skip ?_))
  · by_cases h0:we=0
    · simp [y2e.r0,hg,hm,h0]
    · simp [y2e.r0,hg,hm,h0]
  · simp at h1
    obtain ⟨rfl,hn⟩:=h1
    have hw:ypo 0 bs s=(9,bs):=by simp only [ypo];rw [if_neg (by simp),if_pos hn]
    rw [hw]
    apply jE
    simp [y2e.r1,hg,hm]
    apply jA
    simp [y2e.r2]
    refine jF rfl (AX.skip ?_)
    simp
    exact ⟨v,W.cells hg (cs':=.i .i64 9::cs) rfl (cs.length+1+2) (by omega)⟩
  simp at h1
  simp
  by_cases hwe:we=0
  · subst hwe
    have hn:=h1 rfl
    have hw:ypo 0 bs s=(0,bs++y7w s.length++s):=by simp only [ypo];rw [if_neg (by simp),if_neg (by omega)]
    have hw2:yio 0 bs (s.length:Nat)=(0,bs++y7w s.length):=by simp only [yio];rw [if_neg (by simp),if_neg (by omega)];simp
    rw [hw]
    apply jA
    simp [y2e.r2,hg,hm]
    refine jG rfl (jA ?_)
    simp [y2e.r3]
    refine (yed _ W hb).mono ?_
    rintro _ X1 ⟨rfl,v1,W1,K1⟩
    rw [hw2] at W1
    simp
    apply jE
    simp [y2e.r4]
    have hv:=y7e (n:=s.length) (by omega)
    refine (yk6 s W1 (by simp;omega) (by omega)).mono ?_
    rintro r X2 ⟨v2,W2,K2⟩
    simp
    exact ⟨v2,by simpa using W2,K1.trans K2⟩
  · have hw:ypo we bs s=(we,bs):=by simp only [ypo];rw [if_pos hwe]
    rw [hw]
    apply jA
    simp [y2e.r2,hg,hm,hwe]
    refine jF rfl (AX.skip ?_)
    simp
    exact ⟨v,W,.refl _ _ _⟩
theorem ylw (W:WB B T L id (.i .i64 we::cs) bs X v) (hne:bs≠[]):
    AC Tryz.prog y8d [.p (some (id,0,L))] X (fun r X'=>r=(if we≠0 then .tup [.s [],.i .i64 we] else .tup [.s bs,.i .i64 0])∧X'.next=X.next∧∀k blk,X.get k=some blk→yez v k→X'.get k=some blk):=by
  obtain ⟨a,buf,m,hg,hm,ha,hbuf⟩:=W.ex
  have hL:=W.hL
  simp at hL
  subst hL
  refine AC.code y38.at y38.ok ?_
  simp only [y38]
  apply jA
  simp [y38.r0]
  apply jB
  simp [y38.r1,hg,hm]
  by_cases hwe:we=0
  · refine jF (by simp [hwe]) (AX.skip ?_)
    simp
    have hA:=W.acc.sl
    rcases hA with ⟨h0,_⟩ | ⟨g,mg,hlo,rfl,hgg,hmg⟩
    · exfalso
      apply hne
      simpa [bcl] using h0
    have hb2:buf=.st 5 (some (g,0,bs.length)) bs.length 1:=by
      rcases hbuf with ⟨_,z,h⟩ | ⟨a2,l2,s2,h,rfl⟩
      · cases h
      · injection h with h1 h2 h3
        subst h1;subst h2;subst h3
        simp [yik]
    subst hb2
    rw [yik] at hgg
    apply jA
    simp [y38.r3]
    refine (yt2 (cs:=.i .i64 we::cs) (by simp) hne hg hgg).mono ?_
    rintro _ _ ⟨rfl,rfl⟩
    simp
    apply jD
    simp [hwe]
    refine ⟨rfl,fun k blk h s=>?_⟩
    exact Hp.wo_get h (fun e=>s e.symm)
  · refine jG (by simp [hwe]) ?_
    refine AX.seq (AX.drw ?_)
    simp [y38.r2,hg,hm]
    apply jD
    simp [hwe]
    exact fun k blk h _=>h
end
def N2Inv (H:Hp) (n:Nat) (m:Nat) (F:Fr) (X:Hp):Prop:=
  ∃pre:Str,y7w n=pre++y7w m∧m≤n∧H.Ext X∧(∀k blk,X.get k=some blk→k<X.next)∧F=[(0,.i .i64 m),(3,.s pre)]
theorem ybq (n:Nat) (hn:n<9223372036854775808) (H:Hp):AC Tryz.prog y62 [.i .i64 (n:Nat)] H (fun v H'=>v=.s (y7w n)∧H'=H):=by
  refine AC.codeP y2f.at y2f.ok (ycf _) fun hlt=>?_
  simp only [y2f]
  apply jA
  simp [y2f.r0]
  apply jA
  simp [y2f.r1]
  refine AX.seq (AX.pblock (AX.loop (N2Inv H n) n ⟨_,_,.refl _ _,[],rfl,Nat.le_refl _,.refl _,hlt,rfl⟩ ?_))
  rintro m F X ⟨pre,hv,hm,hx,hl,rfl⟩
  have hp:pre.length≤9:=by have:=yst hn;rw [hv] at this;simp at this;omega
  simp only [y2f.l0]
  apply jB
  simp [y2f.r2]
  refine AX.pcond rfl (fun hd=>AX.skip ?_) (fun hd=>AX.exit ?_)
  · simp at hd
    simp
    have e1:(m:Int).tmod 128=((m % 128:Nat):Int):=tmod_nat m 128
    have eb:UInt8.ofNat (Go.IntKind.u8.wrap (Go.IntKind.u8.wrap ((m:Int) % 128)+128)).toNat=UInt8.ofNat (m % 128+128):=by
      rw [yf0 (n:=(m:Int) % 128) (by omega) (by omega),yf0 (by omega) (by omega)]
      congr 1 <;> omega
    have e4:(m:Int).tdiv 128=((m / 128:Nat):Int):=tdiv_nat m 128
    have e5:Go.IntKind.i64.wrap ((m:Int) / 128)=((m / 128:Nat):Int):=by rw [y3i (by omega) (by omega)];omega
    refine AX.pblock (jA ?_)
    simp [y2f.r3,ydc,e1]
    refine ⟨by omega,?_⟩
    rw [eb]
    have ha:=Am.Hp.Ext.add hl (.cells [V.i .u8 (Go.IntKind.u8.wrap (Go.IntKind.u8.wrap ((m:Int) % 128)+128))] 1)
    have hb:=Hp.add_lt hl (.cells [V.i .u8 (Go.IntKind.u8.wrap (Go.IntKind.u8.wrap ((m:Int) % 128)+128))] 1)
    generalize X.add (.cells [V.i .u8 (Go.IntKind.u8.wrap (Go.IntKind.u8.wrap ((m:Int) % 128)+128))] 1)=Y at *
    apply jE
    simp [y2f.r4,e4,e5]
    exact ⟨m / 128,by omega,_,_,.refl _ _,pre++[UInt8.ofNat (m % 128+128)],by rw [hv,yhg (n:=m) (by omega)];simp,by omega,hx.trans ha,hb,by simp⟩
  · simp at hd
    simp
    have eb:UInt8.ofNat (Go.IntKind.u8.wrap (m:Int)).toNat=UInt8.ofNat m:=by
      rw [yf0 (by omega) (by omega)];simp
    apply jA
    simp [y2f.r5,ydc,eb]
    refine ⟨by omega,AX.ret ?_⟩
    simp
    rw [hv,y9y hd]
    exact ⟨hx.trans (.add hl _),.refl _⟩
end Go.Proofs.YthmkcebbeehbeaaGreatDoor
