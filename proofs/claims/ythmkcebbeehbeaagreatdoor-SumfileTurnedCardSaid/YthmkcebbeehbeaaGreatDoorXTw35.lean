/- Part 35 of the proof of the laws of the queries: GrpW, QBin, GrpT, RecW, PolW. -/
import Derived.Test.YthmkcebbeehbeaaGreatDoorXTw17
import Derived.Test.YthmkcebbeehbeaaGreatDoorXTw26
import Derived.Test.YthmkcebbeehbeaaGreatDoorXTw27
import Derived.Test.YthmkcebbeehbeaaGreatDoorXTw28
import Derived.Test.YthmkcebbeehbeaaGreatDoorXTw34
set_option linter.unusedSimpArgs false
set_option linter.unusedVariables false
namespace Go.Proofs.YthmkcebbeehbeaaGreatDoor
open Am C
theorem grp_byte (q:Nat) (hq:q≤268435456):Go.IntKind.u8.wrap (bOr .i64 (ymu .i64 (q:Int) 127) 128)=((UInt8.ofNat (q % 128+128)).toNat:Int):=by
  rw [show (127:Int)=((127:Nat):Int) from rfl,bAnd_i64 (by omega) (by omega),and127,show (128:Int)=((128:Nat):Int) from rfl,yra (by omega) (by omega),or128 (Nat.mod_lt _ (by omega)),ykd (by omega) (by omega)]
  simp;omega
theorem grp_last (q:Nat) (hq:q<128):Go.IntKind.u8.wrap (q:Int)=((UInt8.ofNat q).toNat:Int):=by
  rw [ykd (by omega) (by omega)]
  simp;omega
def GrpInv (y nb n:Nat) (J:Str→Nat→Hp→Prop) (m:Nat) (F:Fr) (X:Hp):Prop:=
  ∃pre,m≤n∧y6s n=pre++y6s m∧J pre m X∧F=[(0,.yl y),(1,.p (some (nb,0,1)))]
theorem yo0 (y nb n:Nat) (hn:n≤268435456) (J:Str→Nat→Hp→Prop) (X:Hp) (h0:J [] n X)
    (hJ:∀pre q X,J pre q X→∃m,X.get nb=some (.cells [.i .i64 (q:Nat)] m)∧m≤1)
    (hs:∀pre q q' X,J pre q X→J pre q' (X.upd nb (.cells [.i .i64 (q':Nat)] 1)))
    (hy:∀pre q (c:UInt8) X,J pre q X→pre.length≤5→YC Tryz.prog y [.i .u8 c.toNat] X (fun v X'=>v=.b true∧J (pre++[c]) q X')):
    AC Tryz.prog y7k [.yl y,.p (some (nb,0,1))] X (fun _ X'=>∃q,J (y6s n) q X'):=by
  refine AC.code y2b.at y2b.ok ?_
  simp only [y2b]
  refine AX.seq (AX.pblock (AX.loop (GrpInv y nb n J) n ⟨_,_,.refl _ _,[],Nat.le_refl _,rfl,h0,rfl⟩ ?_))
  rintro q F Y ⟨pre,hqn,hv,hj,rfl⟩
  obtain ⟨mb,gb,hmb⟩:=hJ _ _ _ hj
  have hlen:pre.length≤5:=by have:=y7v hn;rw [hv] at this;simp at this;omega
  simp only [y2b.l0]
  by_cases hq:127<q
  · apply jB
    have hc:=grp_byte q (by omega)
    have hg:=yfd (n:=q) (by omega)
    generalize UInt8.ofNat (q % 128+128)=c at *
    simp [y2b.r0,gb,hmb,hq,hc]
    refine (hy pre q c Y hj hlen).mono ?_
    rintro _ Y1 ⟨rfl,hj1⟩
    obtain ⟨mb1,gb1,hmb1⟩:=hJ _ _ _ hj1
    simp
    refine jG rfl (AX.skip ?_)
    simp
    refine AX.pblock (AX.reg ?_)
    have hsh:((q:Int).fdiv 128)=((q / 128:Nat):Int):=yi8 q 128
    simp [y2b.r1,gb1,hmb1,hsh]
    refine ⟨q / 128,by omega,_,_,.refl _ _,pre++[c],by omega,?_,hs _ _ (q / 128) _ hj1,by simp⟩
    rw [hv,hg];simp
  · apply jB
    simp [y2b.r0,gb,hmb,hq]
    refine jF rfl (AX.exit ?_)
    simp
    apply jA
    simp [y2b.r2,gb,hmb,show q≤127 by omega]
    refine jG rfl ?_
    apply jE
    have hc:=grp_last q (by omega)
    have hg:=y8d (n:=q) (by omega)
    generalize UInt8.ofNat q=c at *
    simp [y2b.r3,gb,hmb,hc]
    refine (hy pre q c Y hj hlen).mono ?_
    rintro _ Y1 ⟨rfl,hj1⟩
    simp
    rw [hv,hg]
    exact ⟨q,hj1⟩
theorem Am.WB.beside {B X:Hp} {T L id k:Nat} {cs:List V} {bs:Str} {v:V} (W:WB B T L id cs bs X v) (hk:k≠id) (hs:yc2 v k) (lo:B.next≤k) (hi:k<X.next) (b:Blk):WB B T L id cs bs (X.upd k b) v:=by
  obtain ⟨a,buf,m,hg,h⟩:=W.ex
  exact ⟨W.hB,W.hl,W.hL,W.lo,W.acc.upd W.hB hs lo hi b,W.sep,a,buf,m,by rw [Hp.get_upd,if_neg (Ne.symm hk)];exact hg,h⟩
theorem Am.WB.ext {B X Y:Hp} {T L id:Nat} {cs:List V} {bs:Str} {v:V} (W:WB B T L id cs bs X v) (e:X.Ext Y) (hl:∀k blk,Y.get k=some blk→k<Y.next):WB B T L id cs bs Y v:=by
  obtain ⟨a,buf,m,hg,h⟩:=W.ex
  exact ⟨W.hB,W.hl,W.hL,W.lo,W.acc.more e hl,W.sep,a,buf,m,e.2 _ _ hg,h⟩
theorem Am.WB.cells {B X:Hp} {T L id m:Nat} {cs cs':List V} {bs:Str} {v a buf:V} (W:WB B T L id cs bs X v) (hg:X.get id=some (.cells (a::buf::cs) m)) (hc:cs'.length=cs.length) (m':Nat) (hm':m'≤L):
    WB B T L id cs' bs (X.upd id (.cells (a::buf::cs') m')) v∧Kp id v X v (X.upd id (.cells (a::buf::cs') m')):=by
  obtain ⟨a2,buf2,m2,hg2,h⟩:=W.ex
  rw [hg] at hg2;injection hg2 with hg2;injection hg2 with h1 h2;injection h1 with h1 h3;injection h3 with h3 h4
  subst h1;subst h3
  exact ⟨⟨W.hB,W.hl,by rw [hc];exact W.hL,W.lo,W.acc.upd W.hB W.sep W.lo (W.acc.lt _ _ hg) _,W.sep,a,buf,m',by simp,hm',h.2⟩,by simp,fun k blk h n s=>⟨by rw [Hp.get_upd,if_neg n];exact h,s⟩⟩
theorem yrv (k:Nat) (X:Hp):AC Tryz.prog y9z [.i .i64 k] X (fun r X'=>r=.fn y7k [.p (some (X.next,0,1))]∧X'=X.add (.cells [.i .i64 k] 1)):=by
  refine AC.code y41.at y41.ok ?_
  simp only [y41]
  apply jA
  simp [y41.r0]
  apply jA
  simp [y41.r1]
  apply jD
  simp
theorem Am.Acc.slLt {H X:Hp} {sz:Nat} {v:V} {es:List (List V)} (A:Acc H sz v X es) {k:Nat} (h:X.next≤k):yc2 v k:=by
  rcases A.sl with ⟨_,z,rfl⟩ | ⟨j,m,h1,rfl,h2,h3⟩
  · trivial
  · have:=A.lt _ _ h2
    show j≠k;omega
theorem Am.WB.del {B X:Hp} {T L id k:Nat} {cs:List V} {bs:Str} {v:V} (W:WB B T L id cs bs X v) (hs:yc2 v k) (hk:k≠id) (lo:B.next≤k):WB B T L id cs bs (X.del k) v:=by
  obtain ⟨a,buf,m,hg,h⟩:=W.ex
  have hd:∀j,j≠k→(X.del k).get j=X.get j:=fun j h=>by simp only [Hp.del];rw [if_neg h]
  refine ⟨W.hB,W.hl,W.hL,W.lo,⟨⟨W.acc.ext.1,fun j blk g=>?_⟩,fun j blk g=>?_,W.acc.all,W.acc.sl.imp (fun x=>x) fun ⟨j,m,a,e,c,d⟩=>⟨j,m,a,e,?_,d⟩⟩,W.sep,a,buf,m,by rw [hd _ (Ne.symm hk)];exact hg,h⟩
  · have:=W.hB _ _ g
    rw [hd _ (by omega)];exact W.acc.ext.2 _ _ g
  · simp only [Hp.del] at g ⊢
    split at g
    · cases g
    · exact W.acc.lt _ _ g
  · subst e
    rw [hd _ (show j≠k from hs)];exact c
structure WnJ (B X0:Hp) (T L id nb lp:Nat) (S:LpS) (cs:List V) (bs:Str) (v:V) (pre:Str) (q:Nat) (Y:Hp):Prop where
  ex:∃v',WB B T L id cs (bs++pre) Y v'∧Kp id v X0 v' Y∧yc2 v' nb∧yc2 v' lp
  nb:Y.get nb=some (.cells [.i .i64 (q:Nat)] 1)
  lp:Y.get lp=some (.obj (.lp S .ready))
theorem yb9 {B X:Hp} {T L id:Nat} {we:Int} {cs:List V} {bs:Str} {v:V} (n:Int) (W:WB B T L id (.i .i64 we::cs) bs X v) (hb:bs.length≤1000000000):
    AC Tryz.prog y4b [.p (some (id,0,L)),.i .i64 n] X (fun r X'=>r=.tup []∧∃v',WB B T L id (.i .i64 (yfc we bs n).1::cs) (yfc we bs n).2 X' v'∧Kp id v X v' X'):=by
  obtain ⟨a,buf,m,hg,hm,ha,hbuf⟩:=W.ex
  have hL:=W.hL
  simp at hL
  subst hL
  refine AC.code yr.at yr.ok ?_
  simp only [yr]
  apply jA
  simp [yr.r0]
  refine AX.seq (AX.test (decide (we=0)&&(decide (n<0)||decide (268435456<n))) [(1,.i .i64 n),(2,.fp [.p (some (id,0,cs.length+1+2))] 0),(17,.b (decide (we=0)&&(decide (n<0)||decide (268435456<n))))] ?_ rfl (fun h1=>?_) (fun h1=>AX.skip ?_))
  · by_cases h0:we=0
    · by_cases h1:n<0
      · simp [yr.r1,hg,hm,h0,h1]
      · by_cases h2:268435456<n
        · simp [yr.r1,hg,hm,h0,h1,h2]
        · simp [yr.r1,hg,hm,h0,h1,h2]
    · simp [yr.r1,hg,hm,h0]
  · simp at h1
    obtain ⟨rfl,hn⟩:=h1
    have hw:yfc 0 bs n=(2,bs):=by simp only [yfc];rw [if_neg (by simp),if_pos hn]
    rw [hw]
    apply jE
    simp [yr.r2,hg,hm]
    apply jB
    simp [yr.r3]
    refine jG rfl (AX.ret ?_)
    simp
    have:=W.cells hg (cs':=.i .i64 2::cs) rfl (cs.length+1+2) (by omega)
    exact ⟨v,this⟩
  simp at h1
  simp
  by_cases hwe:we=0
  · subst hwe
    have hn:=h1 rfl
    have hw:yfc 0 bs n=(0,bs++y6s n.toNat):=by simp only [yfc];rw [if_neg (by simp),if_neg (by omega)]
    rw [hw]
    obtain ⟨k,rfl⟩:∃k:Nat,n=k:=⟨n.toNat,by omega⟩
    have hk:k≤268435456:=by omega
    simp only [Int.toNat_natCast]
    apply jB
    simp [yr.r3,hg,hm]
    refine jF rfl (AX.skip ?_)
    simp
    apply jA
    simp [yr.r4]
    refine (yrv k X).mono ?_
    rintro _ _ ⟨rfl,rfl⟩
    simp
    refine AX.pblock (AX.prange rfl fun S hS=>?_)
    have hid:=W.acc.lt _ _ hg
    have e1:=Am.Hp.Ext.add W.acc.lt (.cells [.i .i64 (k:Nat)] 1)
    have l1:=Hp.add_lt W.acc.lt (.cells [.i .i64 (k:Nat)] 1)
    have e2:=e1.trans (Am.Hp.Ext.add l1 (.obj (.lp S .ready)))
    have l2:=Hp.add_lt l1 (.obj (.lp S .ready))
    have hvn:=W.acc.slLt (Nat.le_refl X.next)
    have hvn1:=W.acc.slLt (k:=X.next+1) (by omega)
    refine (yo0 (X.next+1) X.next k hk (WnJ B X T _ id X.next (X.next+1) S (.i .i64 0::cs) bs v) _ ⟨⟨v,by simpa using W.ext e2 l2,⟨by simp;omega,fun j blk h n s=>⟨e2.2 _ _ h,s⟩⟩,hvn,hvn1⟩,by simp,by simp⟩ (fun pre q Y J=>⟨1,J.nb,by omega⟩) (fun pre q q' Y J=>?_) (fun pre q c Y J hp=>?_)).mono ?_
    · obtain ⟨v',W',K',s1,s2⟩:=J.ex
      refine ⟨⟨v',W'.beside (by omega) s1 (by have:=W.acc.ext.1;omega) (W'.acc.lt _ _ J.nb) _,⟨by simpa using K'.1,fun j blk h n s=>?_⟩,s1,s2⟩,by simp,by simp [J.lp]⟩
      have hj:=W.acc.lt _ _ h
      obtain ⟨g,s'⟩:=K'.2 j blk h n s
      exact ⟨by rw [Hp.get_upd,if_neg (by omega)];exact g,s'⟩
    · obtain ⟨v',W',K',s1,s2⟩:=J.ex
      refine YC.walk hS J.lp rfl ?_
      simp only [yr.a0]
      apply jE
      simp [yr.r5,putAll]
      refine ⟨J.lp,?_⟩
      simp only [yr.b0]
      refine AX.pblock (AX.reg ?_)
      have W1:=W'.beside (k:=X.next+1) (by omega) s2 (by have:=W.acc.ext.1;omega) (W'.acc.lt _ _ J.lp) (.obj (.lp S .busy))
      simp [yr.r6]
      refine (yk0 c W1 (by simp;omega)).mono ?_
      rintro _ Y1 ⟨rfl,v1,W2,K2⟩
      simp
      obtain ⟨lpb,s3⟩:=K2.2 (X.next+1) (.obj (.lp S .busy)) (by simp) (by omega) s2
      obtain ⟨nbb,s4⟩:=K2.2 X.next _ (by simp;exact J.nb) (by omega) s1
      simp [yck]
      refine ⟨lpb,⟨v1,?_,⟨by have:=K'.1;have:=K2.1;simp at *;omega,fun j blk h n s=>?_⟩,s4,s3⟩,by simp [nbb],by simp⟩
      · rw [←List.append_assoc]
        exact W2.beside (by omega) s3 (by have:=W.acc.ext.1;omega) (W2.acc.lt _ _ lpb) _
      · have hj:=W.acc.lt _ _ h
        obtain ⟨g,s'⟩:=K'.2 j blk h n s
        obtain ⟨g2,s''⟩:=K2.2 j blk (by rw [Hp.get_upd,if_neg (by omega)];exact g) n s'
        exact ⟨by rw [Hp.get_upd,if_neg (by omega)];exact g2,s''⟩
    · rintro _ Y ⟨q,J⟩
      obtain ⟨v',W',K',s1,s2⟩:=J.ex
      refine .inl ⟨J.lp,?_⟩
      simp
      have hd:∀j,j≠X.next+1→(Y.del (X.next+1)).get j=Y.get j:=fun j h=>by simp only [Hp.del];rw [if_neg h]
      refine ⟨v',W'.del s2 (by omega) (by have:=W.acc.ext.1;omega),⟨by simpa [Hp.del] using K'.1,fun j blk h n s=>?_⟩⟩
      have hj:=W.acc.lt _ _ h
      obtain ⟨g,s'⟩:=K'.2 j blk h n s
      exact ⟨by rw [hd _ (by omega)];exact g,s'⟩
  · have hw:yfc we bs n=(we,bs):=by simp only [yfc];rw [if_pos hwe]
    rw [hw]
    apply jB
    simp [yr.r3,hg,hm,hwe]
    refine jG rfl (AX.ret ?_)
    simp
    exact ⟨v,W,.refl _ _ _⟩
theorem Less_ok (x y:Str) (H:Hp):AC Tryz.prog y91 [.s x,.s y] H (fun v H'=>v=.b (ltB x y)∧H'=H):=by
  refine AC.code y3v.at y3v.ok ?_
  simp only [y3v]
  apply jA
  simp [y3v.r0]
  refine AX.stp [(4,.b (ltB x y))] ?_ ?_
  · simp [y3v.r1]
    refine AC.fix (yi3 _ _) ?_
    simp
  apply jD
  simp
theorem yq0 (x:Str) (H:Hp):AC Tryz.prog y6c [.s x] H (fun v H'=>v=.b false∧H'=H):=by
  refine AC.code y2y.at y2y.ok ?_
  simp only [y2y]
  apply jA
  simp [y2y.r0]
  apply jA
  simp [y2y.r1]
  apply jD
  simp
def BisInv (l:List Str) (x:Str) (H:Hp) (m:Nat) (F:Fr) (H':Hp):Prop:=
  ∃i j,i≤yam l x∧yam l x≤j∧j≤l.length∧m=j-i∧H'=H∧F=[(0,ss l),(1,.s x),(6,.i .i64 l.length),(7,.i .i64 i),(8,.i .i64 j)]
theorem BinS_ok (l:List Str) (x:Str) (hr:y3o l) (hl:l.length≤1000000000) (H:Hp):AC Tryz.prog y4q [ss l,.s x] H (fun v H'=>v=.tup [.i .i64 (yam l x:Nat),.b (decide (x∈l))]∧H'=H):=by
  refine AC.code y9.at y9.ok ?_
  simp only [y9]
  have hp:=ykp l x
  apply jA
  simp [y9.r0]
  apply jA
  simp [y9.r1,ss]
  apply jA
  simp [y9.r2]
  refine AX.seq (AX.pblock (AX.loop (BisInv l x H) l.length ⟨_,_,.refl _ _,0,l.length,by omega,hp,by omega,by omega,rfl,rfl⟩ ?_))
  rintro m' F H' ⟨i,j,hi,hj,hjl,rfl,rfl,rfl⟩
  simp only [y9.l0]
  apply jB
  simp [y9.r3]
  refine AX.pcond rfl (fun hb=>AX.skip ?_) (fun hb=>AX.exit ?_)
  · simp at hb
    simp
    refine AX.pblock (jA ?_)
    obtain ⟨e,he⟩:∃e,e=(i+j) / 2:=⟨_,rfl⟩
    have hh:=half i j (by omega)
    rw [←he] at hh
    simp [y9.r4,hh]
    have hel:e<l.length:=by omega
    have hlt:=ye9 hr x e l[e] (List.getElem?_eq_getElem hel)
    apply jA
    simp [y9.r5,hel,ss]
    refine AC.fix (Less_ok _ _ _) ?_
    simp
    by_cases hlt':e<yam l x
    · rw [decide_eq_true hlt'] at hlt
      refine jG (by simp [hlt]) (AX.reg ?_)
      simp [y9.r6,y7a (show e≤9223372036854775000 by omega)]
      exact ⟨j-(e+1),by omega,_,_,.refl _ _,e+1,j,by omega,hj,hjl,rfl,rfl,by simp [ss]⟩
    · rw [decide_eq_false hlt'] at hlt
      refine jF (by simp [hlt]) (AX.reg ?_)
      simp [y9.r7]
      exact ⟨e-i,by omega,_,_,.refl _ _,i,e,hi,by omega,by omega,rfl,rfl,by simp [ss]⟩
  simp at hb
  have e1:i=yam l x:=by omega
  subst e1
  have hm:=ybf hr x
  simp
  refine AX.stp [(4,.i .i64 (yam l x:Nat)),(5,.b (decide (x∈l)))] ?_ ?_
  · by_cases hlt:yam l x<l.length
    · have hg:l[yam l x]?=some l[yam l x]:=List.getElem?_eq_getElem hlt
      rw [hg] at hm
      by_cases hxe:l[yam l x]=x
      · have hmm:x∈l:=hm.2 (by rw [hxe])
        simp [y9.r8,hlt,ss,hxe,hmm]
      · have hmm:x∉l:=fun h=>hxe (by simpa using hm.1 h)
        simp [y9.r8,hlt,ss,hxe,hmm]
        refine AC.fix (yq0 _ _) ?_
        simp [hmm]
    · have hmm:x∉l:=fun h=>by
        have:=hm.1 h
        rw [List.getElem?_eq_none (by omega)] at this;cases this
      simp [y9.r8,hlt,ss,hmm]
  apply jD
  simp
section
variable {B X:Hp} {T L id:Nat} {we:Int} {cs:List V} {bs:Str} {v:V}
theorem ymy (s:Str) (W:WB B T L id (.i .i64 we::cs) bs X v) (hb:bs.length≤1000000000):
    AC Tryz.prog y6k [.p (some (id,0,L)),.s s] X (fun r X'=>r=.tup []∧∃v',WB B T L id (.i .i64 (ylv we bs s).1::cs) (ylv we bs s).2 X' v'∧Kp id v X v' X'):=by
  obtain ⟨a,buf,m,hg,hm,ha,hbuf⟩:=W.ex
  have hL:=W.hL
  simp at hL
  subst hL
  refine AC.code y1p.at y1p.ok ?_
  simp only [y1p]
  refine AX.seq (AX.test (decide (we=0)&&decide (200000<s.length)) [(0,.p (some (id,0,cs.length+1+2))),(1,.s s),(13,.b (decide (we=0)&&decide (200000<s.length)))] ?_ rfl (fun h1=>?_) (fun h1=>AX.skip ?_))
  · by_cases h0:we=0
    · simp [y1p.r0,hg,hm,h0]
    · simp [y1p.r0,hg,hm,h0]
  · simp at h1
    obtain ⟨rfl,hn⟩:=h1
    have hw:ylv 0 bs s=(9,bs):=by simp only [ylv];rw [if_neg (by simp),if_pos hn]
    rw [hw]
    apply jE
    simp [y1p.r1,hg,hm]
    apply jA
    simp [y1p.r2]
    refine jF rfl (AX.skip ?_)
    simp
    exact ⟨v,W.cells hg (cs':=.i .i64 9::cs) rfl (cs.length+1+2) (by omega)⟩
  simp at h1
  simp
  by_cases hwe:we=0
  · subst hwe
    have hn:=h1 rfl
    have hw:ylv 0 bs s=(0,bs++y6s s.length++s):=by simp only [ylv];rw [if_neg (by simp),if_neg (by omega)]
    have hw2:yfc 0 bs (s.length:Nat)=(0,bs++y6s s.length):=by simp only [yfc];rw [if_neg (by simp),if_neg (by omega)];simp
    rw [hw]
    apply jA
    simp [y1p.r2,hg,hm]
    refine jG rfl (jA ?_)
    simp [y1p.r3]
    refine (yb9 _ W hb).mono ?_
    rintro _ X1 ⟨rfl,v1,W1,K1⟩
    rw [hw2] at W1
    simp
    apply jE
    simp [y1p.r4]
    have hv:=y7v (n:=s.length) (by omega)
    refine (ygt s W1 (by simp;omega) (by omega)).mono ?_
    rintro r X2 ⟨v2,W2,K2⟩
    simp
    exact ⟨v2,by simpa using W2,K1.trans K2⟩
  · have hw:ylv we bs s=(we,bs):=by simp only [ylv];rw [if_pos hwe]
    rw [hw]
    apply jA
    simp [y1p.r2,hg,hm,hwe]
    refine jF rfl (AX.skip ?_)
    simp
    exact ⟨v,W,.refl _ _ _⟩
theorem yih (W:WB B T L id (.i .i64 we::cs) bs X v) (hne:bs≠[]):
    AC Tryz.prog y6l [.p (some (id,0,L))] X (fun r X'=>r=(if we≠0 then .tup [.s [],.i .i64 we] else .tup [.s bs,.i .i64 0])∧X'.next=X.next∧∀k blk,X.get k=some blk→yc2 v k→X'.get k=some blk):=by
  obtain ⟨a,buf,m,hg,hm,ha,hbuf⟩:=W.ex
  have hL:=W.hL
  simp at hL
  subst hL
  refine AC.code y2c.at y2c.ok ?_
  simp only [y2c]
  apply jA
  simp [y2c.r0]
  apply jB
  simp [y2c.r1,hg,hm]
  by_cases hwe:we=0
  · refine jF (by simp [hwe]) (AX.skip ?_)
    simp
    have hA:=W.acc.sl
    rcases hA with ⟨h0,_⟩ | ⟨g,mg,hlo,rfl,hgg,hmg⟩
    · exfalso
      apply hne
      simpa [bcl] using h0
    have hb2:buf=.st 5 (some (g,0,bs.length)) bs.length 1:=by
      rcases hbuf with ⟨_,z,h⟩ | ⟨a2,l2,s2,h,rfl⟩
      · cases h
      · injection h with h1 h2 h3
        subst h1;subst h2;subst h3
        simp [yf7]
    subst hb2
    rw [yf7] at hgg
    apply jA
    simp [y2c.r3]
    refine (yp2 (cs:=.i .i64 we::cs) (by simp) hne hg hgg).mono ?_
    rintro _ _ ⟨rfl,rfl⟩
    simp
    apply jD
    simp [hwe]
    refine ⟨rfl,fun k blk h s=>?_⟩
    exact Hp.wo_get h (fun e=>s e.symm)
  · refine jG (by simp [hwe]) ?_
    refine AX.seq (AX.drw ?_)
    simp [y2c.r2,hg,hm]
    apply jD
    simp [hwe]
    exact fun k blk h _=>h
end
def yav (pool:List Str) (pv:V):Prop:=y3o pool∧pool.length≤1000000000∧((pool=[]∧pv=.p none)∨pv=.fp [ss pool] 0)
theorem yfa (pool:List Str) (pv:V) (hp:yav pool pv) (H:Hp):AC Tryz.prog y69 [pv] H (fun v H'=>v=ss pool∧H'=H):=by
  refine AC.codeP y2m.at y2m.ok (ybo _) fun hlt=>?_
  simp only [y2m]
  obtain ⟨hr,hl,⟨rfl,rfl⟩ | rfl⟩:=hp
  · apply jA
    simp [y2m.r0]
    apply jB
    simp [y2m.r1]
    refine jG rfl (jA ?_)
    simp [y2m.r2]
    apply jD
    simp
    exact ⟨.refl _,.sl0 _⟩
  · apply jA
    simp [y2m.r0]
    apply jB
    simp [y2m.r1]
    refine jF rfl (AX.skip ?_)
    simp
    apply jA
    simp [y2m.r3]
    apply jD
    simp
    exact ⟨.refl _,.refl _⟩
theorem yny (pool:List Str) (pv:V) (hp:yav pool pv) (s:Str) (H:Hp):AC Tryz.prog y8m [pv,.s s] H (fun v H'=>v=.tup [.i .i64 (ybe pool s:Nat),.b (decide (s∈pool))]∧H'=H):=by
  refine AC.code y29.at y29.ok ?_
  simp only [y29]
  apply jA
  simp [y29.r0]
  apply jA
  simp [y29.r1]
  refine AC.fix (yfa pool pv hp _) ?_
  simp
  refine AC.fix (BinS_ok pool s hp.1 hp.2.1 _) ?_
  simp
  apply jB
  simp [y29.r2]
  by_cases h:s∈pool
  · refine jF (by simp [h]) (AX.skip ?_)
    simp
    apply jA
    simp [y29.r4]
    apply jD
    simp [ybe,h]
  · refine jG (by simp [h]) (jA ?_)
    simp [y29.r3]
    apply jD
    simp [ybe,h]
theorem Am.callv_mono {P:Go.Program} {v:V} {args:List V} {H:Hp} {k k':V→Hp→Prop} (h:callv P v args H k) (hk:∀v H,k v H→k' v H):callv P v args H k':=by
  unfold callv at *
  split at h
  · exact h.mono hk
  · exact h.mono hk
  · exact h.mono hk
  · exact h.elim
def tcl (l:List Str):List (List V):=l.map fun x=>[.s x]
def Dis (v u:V):Prop:=∀j,yc2 v j∨yc2 u j
structure RW (B:Hp) (id:Nat) (pv sv:V) (lid:Option Nat) (Z:Nat→Option Blk) (σ:Rw) (X:Hp):Prop where
  ex:∃v lv es,WB B 109 6 id [.i .i64 σ.we,pv,sv,.i .i64 σ.e] σ.bs X v∧Acc B 1 lv X es∧Dis v lv∧yc2 lv id∧
    (∀k,lid=some k→es=tcl σ.l∧X.get k=some (.cells [lv] 1)∧yc2 v k∧yc2 lv k∧k≠id∧B.next≤k)∧
    (∀k blk,Z k=some blk→X.get k=some blk∧k≠id∧lid≠some k∧yc2 v k∧yc2 lv k)
section
variable {B:Hp} {id:Nat} {pv sv:V} {lid:Option Nat} {Z:Nat→Option Blk} {σ:Rw} {X:Hp}
theorem RW.lt (R:RW B id pv sv lid Z σ X):∀k blk,X.get k=some blk→k<X.next:=let ⟨_,_,_,W,_⟩:=R.ex;W.acc.lt
theorem RW.z (R:RW B id pv sv lid Z σ X) {k:Nat} {blk:Blk} (h:Z k=some blk):X.get k=some blk:=let ⟨_,_,_,_,_,_,_,_,z⟩:=R.ex;(z k blk h).1
theorem RW.more {Y:Hp} (R:RW B id pv sv lid Z σ X) (e:X.Ext Y) (hl:∀k blk,Y.get k=some blk→k<Y.next):RW B id pv sv lid Z σ Y:=by
  obtain ⟨v,lv,es,W,A,d,s,hk,hz⟩:=R.ex
  exact ⟨v,lv,es,W.ext e hl,A.more e hl,d,s,fun k h=>let ⟨a,b,c⟩:=hk k h;⟨a,e.2 _ _ b,c⟩,fun k blk h=>let ⟨a,b⟩:=hz k blk h;⟨e.2 _ _ a,b⟩⟩
theorem RW.add {Y:Hp} {b:Blk} (R:RW B id pv sv lid Z σ X) (e:X.Ext Y) (hl:∀k blk,Y.get k=some blk→k<Y.next) (hg:Y.get X.next=some b):
    RW B id pv sv lid (fun j=>if j=X.next then some b else Z j) σ Y:=by
  obtain ⟨v,lv,es,W,A,d,s,hk,hz⟩:=R.ex
  obtain ⟨a,buf,m,hgi,_⟩:=W.ex
  have hid:=W.acc.lt _ _ hgi
  refine ⟨v,lv,es,W.ext e hl,A.more e hl,d,s,fun k h=>let ⟨a,b,c⟩:=hk k h;⟨a,e.2 _ _ b,c⟩,fun k blk h=>?_⟩
  by_cases hkx:k=X.next
  · subst hkx
    simp at h;subst h
    refine ⟨hg,by omega,fun h=>?_,W.acc.slLt (Nat.le_refl _),A.slLt (Nat.le_refl _)⟩
    have:=W.acc.lt _ _ (hk _ h).2.1
    omega
  · simp [hkx] at h
    exact let ⟨a,b⟩:=hz k blk h;⟨e.2 _ _ a,b⟩
theorem RW.get (R:RW B id pv sv lid Z σ X):∃a buf m,X.get id=some (.cells [a,buf,.i .i64 σ.we,pv,sv,.i .i64 σ.e] m)∧m≤6:=by
  obtain ⟨v,lv,es,W,_⟩:=R.ex
  obtain ⟨a,buf,m,hg,hm,_⟩:=W.ex
  exact ⟨a,buf,m,hg,hm⟩
theorem RW.turn {σ':Rw} {X':Hp} {v lv v':V} {es:List (List V)} (hl:σ'.l=σ.l) (W:WB B 109 6 id [.i .i64 σ.we,pv,sv,.i .i64 σ.e] σ.bs X v) (A:Acc B 1 lv X es) (d:Dis v lv) (s:yc2 lv id)
    (hk:∀k,lid=some k→es=tcl σ.l∧X.get k=some (.cells [lv] 1)∧yc2 v k∧yc2 lv k∧k≠id∧B.next≤k) (hz:∀k blk,Z k=some blk→X.get k=some blk∧k≠id∧lid≠some k∧yc2 v k∧yc2 lv k)
    (W':WB B 109 6 id [.i .i64 σ'.we,pv,sv,.i .i64 σ'.e] σ'.bs X' v') (K:Kp id v X v' X'):RW B id pv sv lid Z σ' X':=by
  have A':Acc B 1 lv X' es:=by
    refine ⟨W'.acc.ext,W'.acc.lt,A.all,A.sl.imp (fun x=>x) ?_⟩
    rintro ⟨j,m,a,e,c,f⟩
    refine ⟨j,m,a,e,?_,f⟩
    subst e
    exact (K.2 j _ c s ((d j).resolve_right fun h=>h rfl)).1
  have d':Dis v' lv:=fun j=>by
    by_cases hj:yc2 lv j
    · exact .inr hj
    · left
      rcases A.sl with ⟨_,z,rfl⟩ | ⟨i,m,a,rfl,c,f⟩
      · exact (hj trivial).elim
      · have:i=j:=by
          by_cases e:i=j
          · exact e
          · exact (hj e).elim
        subst this
        exact (K.2 i _ c s ((d i).resolve_right hj)).2
  refine ⟨v',lv,es,W',A',d',s,fun k h=>?_,fun k blk h=>?_⟩
  · obtain ⟨a,b,s1,s2,n,lo⟩:=hk k h
    obtain ⟨g,s3⟩:=K.2 _ _ b n s1
    exact ⟨by rw [hl];exact a,g,s3,s2,n,lo⟩
  · obtain ⟨b,n,n2,s1,s2⟩:=hz k blk h
    obtain ⟨g,s3⟩:=K.2 _ _ b n s1
    exact ⟨g,n,n2,s3,s2⟩
theorem ymz (R:RW B id pv sv lid Z σ X) (x:Int):
    AC Tryz.prog y6o [.p (some (id,0,6)),.i .i64 x] X (fun r X'=>r=.tup []∧RW B id pv sv lid Z (y7x σ x) X'):=by
  obtain ⟨v,lv,es,W,A,d,s,hk,hz⟩:=R.ex
  obtain ⟨a,buf,m,hg,hm,h⟩:=W.ex
  refine AC.code y33.at y33.ok ?_
  simp only [y33]
  apply jA
  simp [y33.r0,hg,hm]
  by_cases he:σ.e=0
  · refine jG (by simp [he]) (AX.reg ?_)
    simp [y33.r1,hg,hm]
    obtain ⟨W',K⟩:=W.cells hg (cs':=[.i .i64 σ.we,pv,sv,.i .i64 x]) rfl 6 (by omega)
    exact RW.turn (σ:=σ) (σ':=y7x σ x) rfl W A d s hk hz (by simpa [y7x,he] using W') K
  · refine jF (by simp [he]) (AX.skip ?_)
    simp
    have:y7x σ x=σ:=by simp [y7x,he]
    rw [this];exact R
theorem ydh (R:RW B id pv sv lid Z σ X) (n:Int) (hb:σ.bs.length≤1000000000):
    AC Tryz.prog y38 [.p (some (id,0,6)),.i .i64 n] X (fun r X'=>r=.tup []∧RW B id pv sv lid Z (y8f σ n) X'):=by
  refine AC.code y2d.at y2d.ok ?_
  simp only [y2d]
  refine AX.seq (AX.test (decide (n<0)||decide (268435456<n)) [(0,.p (some (id,0,6))),(1,.i .i64 n),(9,.b (decide (n<0)||decide (268435456<n)))] ?_ rfl (fun h1=>?_) (fun h1=>AX.skip ?_))
  · by_cases h1:n<0
    · simp [y2d.r0,h1]
    · simp [y2d.r0,h1]
  · simp at h1
    apply jA
    simp [y2d.r1]
    refine (ymz R 2).mono ?_
    rintro _ X' ⟨rfl,R'⟩
    simp
    apply jD
    simp [y8f]
    rw [if_pos h1];exact R'
  · simp at h1
    simp
    apply jE
    obtain ⟨v,lv,es,W,A,d,s,hk,hz⟩:=R.ex
    obtain ⟨a,buf,m,hg,hm,h⟩:=W.ex
    simp [y2d.r2]
    refine (yb9 n W hb).mono ?_
    rintro _ X' ⟨rfl,v',W',K⟩
    simp
    refine RW.turn (σ:=σ) (σ':=y8f σ n) (yax σ n).2 W A d s hk hz ?_ K
    have:y8f σ n={ σ with we:=(yfc σ.we σ.bs n).1,bs:=(yfc σ.we σ.bs n).2 }:=by unfold y8f;rw [if_neg (by omega)]
    rw [this];exact W'
def yk3 (sv:V) (lid:Option Nat):Prop:=(∃k,lid=some k∧sv=.fn y4x [.p (some (k,0,1))])∨(lid=none∧sv=.fn y5i [])
theorem Seen_ok (R:RW B id pv sv lid Z σ X) (hs:yk3 sv lid) (t:Str) (hb:σ.l.length≤1000000000):
    callv Tryz.prog sv [.s t] X (fun r X'=>r=.tup []∧RW B id pv sv lid Z { σ with l:=σ.l++[t] } X'):=by
  obtain ⟨v,lv,es,W,A,d,s,hk,hz⟩:=R.ex
  rcases hs with ⟨k,rfl,rfl⟩ | ⟨rfl,rfl⟩
  · obtain ⟨e,g,s1,s2,n,lo⟩:=hk k rfl
    subst e
    simp
    refine AC.code y4h.at y4h.ok ?_
    simp only [y4h]
    apply jE
    obtain ⟨v2,X2,e2,A2,nx,K⟩:=A.appKs (bytes:=16) (x:=.fs [[.s t]]) W.hB (ys:=[[.s t]]) (by simp) (by simp) (by omega) (by simp [y6d]) (by simp [tcl,yay];omega)
    obtain ⟨g2,s3⟩:=K k _ g s2
    obtain ⟨p2,n2,z2,rfl⟩:=A2.isSl
    simp [y4h.r0,g,yco,-y48,e2,g2]
    obtain ⟨a,buf,m,hg,hm,h⟩:=W.ex
    obtain ⟨hg2,s4⟩:=K id _ hg s
    have hkl:=A2.lt _ _ g2
    have d2:Dis v (.sl p2 n2 z2):=fun j=>by
      by_cases hj:yc2 v j
      · exact .inl hj
      · right
        rcases W.acc.sl with ⟨_,z,rfl⟩ | ⟨i,m,a,rfl,c,f⟩
        · exact (hj trivial).elim
        · have:i=j:=by
            by_cases e:i=j
            · exact e
            · exact (hj e).elim
          subst this
          exact (K i _ c ((d i).resolve_left hj)).2
    have A':Acc B 1 v (X2.upd k (.cells [.sl p2 n2 z2] 1)) (bcl σ.bs):=by
      refine ⟨A2.ext.upd W.hB lo _,Hp.upd_lt A2.lt hkl _,W.acc.all,W.acc.sl.imp (fun x=>x) ?_⟩
      rintro ⟨j,m,a,e,c,f⟩
      refine ⟨j,m,a,e,?_,f⟩
      subst e
      rw [Hp.get_upd,if_neg (show j≠k from s1)]
      exact (K j _ c ((d j).resolve_left fun h=>h rfl)).1
    refine ⟨v,.sl p2 n2 z2,_,⟨W.hB,W.hl,W.hL,W.lo,A',W.sep,a,buf,m,by simpa [n.symm] using hg2,hm,h⟩,A2.upd W.hB s3 lo hkl _,d2,s4,fun j hj=>?_,fun j blk hj=>?_⟩
    · injection hj with hj;subst hj
      exact ⟨by simp [tcl],by simp,s1,s3,n,lo⟩
    · obtain ⟨b,n1,n2,s1,s2⟩:=hz j blk hj
      obtain ⟨g3,s5⟩:=K j _ b s2
      exact ⟨by rw [Hp.get_upd,if_neg (fun e=>n2 (by rw [e]))];exact g3,n1,n2,s1,s5⟩
  · simp
    refine AC.code y56.at y56.ok ?_
    simp only [y56]
    first
    | (refine AX.skip ?_;simp)
    | (apply jE;simp [y56.r0])
    | (apply jD;simp)
    exact ⟨v,lv,es,W,A,d,s,(fun k h=>by cases h),hz⟩
theorem ya8 {pool:List Str} (R:RW B id pv sv lid Z σ X) (hs:yk3 sv lid) (hp:yav pool pv) (t:Str) (hb:σ.bs.length≤1000000000) (hl:σ.l.length≤1000000000):
    AC Tryz.prog y2h [.p (some (id,0,6)),.s t] X (fun r X'=>r=.tup []∧RW B id pv sv lid Z (yht pool σ t) X'):=by
  obtain ⟨a,buf,m,hg,hm⟩:=R.get
  refine AC.code y1y.at y1y.ok ?_
  simp only [y1y]
  apply jA
  simp [y1y.r0,hg,hm]
  refine callv_mono (Seen_ok R hs t hl) ?_
  rintro _ X1 ⟨rfl,R1⟩
  simp
  obtain ⟨a1,buf1,m1,hg1,hm1⟩:=R1.get
  apply jA
  simp [y1y.r1,hg1,hm1]
  refine AC.fix (yny pool pv hp t _) ?_
  simp
  apply jB
  simp [y1y.r2]
  by_cases h:t∈pool
  · refine jF (by simp [h]) (AX.skip ?_)
    simp
    apply jE
    simp [y1y.r4]
    refine (ydh R1 _ hb).mono ?_
    rintro _ X2 ⟨rfl,R2⟩
    simp [yht,h];exact R2
  · refine jG (by simp [h]) (AX.reg ?_)
    simp [y1y.r3]
    refine (ymz R1 7).mono ?_
    rintro _ X2 ⟨rfl,R2⟩
    simp
    apply jE
    simp [y1y.r4]
    refine (ydh R2 _ (by simpa [y7x] using hb)).mono ?_
    rintro _ X3 ⟨rfl,R3⟩
    simp [yht,h];exact R3
end
def ShInv (a b:Str) (H:Hp) (m:Nat) (F:Fr) (X:Hp):Prop:=
  ∃n,n≤a.length∧m=a.length-n∧shN a b=n+shN (a.drop n) (b.drop n)∧X=H∧F=[(0,.s a),(1,.s b),(5,.i .i64 n)]
theorem yit (a b:Str) (ha:a.length≤9223372036854775807) (hb:b.length≤9223372036854775807) (H:Hp):AC Tryz.prog y9q [.s a,.s b] H (fun v H'=>v=.i .i64 (shN a b:Nat)∧H'=H):=by
  refine AC.code y2l.at y2l.ok ?_
  simp only [y2l]
  apply jA
  simp [y2l.r0]
  apply jA
  simp [y2l.r1]
  refine AX.seq (AX.pblock (AX.loop (ShInv a b H) a.length ⟨_,_,.refl _ _,0,by omega,by omega,by simp,rfl,rfl⟩ ?_))
  rintro m F X ⟨n,hn,rfl,hs,rfl,rfl⟩
  simp only [y2l.l0]
  obtain ⟨c,hc⟩:∃c,c=decide (∃(h1:n<a.length) (h2:n<b.length),a[n]=b[n]):=⟨_,rfl⟩
  refine AX.seq (AX.testD c [(0,.s a),(1,.s b),(5,.i .i64 n),(21,.b c)] ?_ rfl (fun hd=>AX.skip ?_) (fun hd=>AX.exit ?_))
  · by_cases h1:n<a.length
    · by_cases h2:n<b.length
      · have h3:(n:Int)<min (a.length:Int) b.length:=by omega
        simp [y2l.r2,h1,h2,h3,hc,UInt8.toNat_inj]
      · have h3:¬(n:Int)<min (a.length:Int) b.length:=by omega
        simp [y2l.r2,h1,h2,h3,hc]
    · have h3:¬(n:Int)<min (a.length:Int) b.length:=by omega
      simp [y2l.r2,h1,h3,hc]
  · subst hd
    obtain ⟨h1,h2,e⟩:=of_decide_eq_true hc.symm
    simp
    refine AX.pblock (AX.reg ?_)
    simp [y2l.r3,y4v h1 ha]
    exact ⟨a.length-(n+1),by omega,_,_,.refl _ _,n+1,by omega,rfl,by rw [hs,shN_more h1 h2 e];omega,rfl,by simp⟩
  · subst hd
    have hno:=of_decide_eq_false hc.symm
    have h0:shN (a.drop n) (b.drop n)=0:=shN_stop (by
      by_cases h:n<a.length∧n<b.length
      · exact .inr ⟨h.1,h.2,fun e=>hno ⟨h.1,h.2,e⟩⟩
      · exact .inl h)
    simp
    apply jA
    simp [y2l.r4]
    apply jD
    simp [hs,h0]
section
variable {B X:Hp} {T L id:Nat} {cs:List V} {bs:Str} {v:V}
def PwInv (B X:Hp) (T L id:Nat) (cs:List V) (bs:Str) (v:V) (l:List Str) (m:Nat) (F:Fr) (Y:Hp):Prop:=
  ∃i v',i≤l.length∧m=l.length-i∧WB B T L id (.i .i64 0::cs) (bs++yj6 l i) Y v'∧Kp id v X v' Y∧F=[(1,.p (some (id,0,L))),(5,.s (yc0 l i)),(15,ss l),(16,.i .i64 l.length),(17,.i .i64 i)]
theorem yrq (l:List Str) (pv:V) (hp:yav l pv) (hl:l.length≤6000) (h1000:∀s∈l,s.length≤1000) (W:WB B T L id (.i .i64 0::cs) bs X v) (hb:bs.length≤1000):
    AC Tryz.prog y90 [pv,.p (some (id,0,L))] X (fun r X'=>r=.tup []∧∃v',WB B T L id (.i .i64 0::cs) (bs++yb3 l) X' v'∧Kp id v X v' X'):=by
  refine AC.code y14.at y14.ok ?_
  simp only [y14]
  apply jA
  simp [y14.r0]
  refine AC.fix (yfa l pv hp _) ?_
  simp
  apply jA
  simp [y14.r1,ss]
  refine (yb9 _ W (by omega)).mono ?_
  rintro _ X1 ⟨rfl,v1,W1,K1⟩
  have hw:yfc 0 bs (l.length:Nat)=(0,bs++y6s l.length):=by simp only [yfc];rw [if_neg (by simp),if_neg (by omega)];simp
  rw [hw] at W1
  have hv:=y7v (n:=l.length) (by omega)
  simp
  apply jA
  simp [y14.r2]
  apply jA
  simp [y14.r3]
  refine AX.pblock (AX.loop (PwInv B X1 T L id cs (bs++y6s l.length) v1 l) l.length ⟨_,_,.refl _ _,0,v1,by omega,by omega,by simpa [yj6,yb2] using W1,.refl _ _ _,by simp [yc0,ss]⟩ ?_)
  rintro m F Y ⟨i,v2,hi,rfl,W2,K2,rfl⟩
  have hpl:=ypj l h1000 i hi
  have hll:(yc0 l i).length≤1000:=by
    unfold yc0
    cases hq:(l.take i).getLast? with
    | none=>simp
    | some x=>exact h1000 x (List.mem_of_mem_take (List.mem_of_getLast? hq))
  simp only [y14.l0]
  apply jA
  simp [y14.r4]
  refine AX.seq (AX.pcond rfl (fun hd=>AX.skip ?_) (fun hd=>AX.exit ?_))
  · simp at hd
    have h1:=h1000 l[i] (List.getElem_mem hd)
    have h2:=yiu (yc0 l i) l[i]
    simp
    apply jC
    simp [y14.r5,ss,hd]
    apply jA
    simp [y14.r6]
    refine AC.fix (yit _ _ (by omega) (by omega) _) ?_
    simp
    apply jA
    simp [y14.r7]
    refine (yb9 _ W2 (by simp;omega)).mono ?_
    rintro _ X3 ⟨rfl,v3,W3,K3⟩
    have hw:∀q:Str,yfc 0 q (shN (yc0 l i) l[i]:Nat)=(0,q++y6s (shN (yc0 l i) l[i])):=fun q=>by simp only [yfc];rw [if_neg (by simp),if_neg (by omega)];simp
    rw [hw] at W3
    have hv3:=y7v (n:=shN (yc0 l i) l[i]) (by omega)
    simp
    apply jA
    simp [y14.r8,h2.2]
    refine (ymy (l[i].drop (shN (yc0 l i) l[i])) W3 (by simp;omega)).mono ?_
    rintro _ X4 ⟨rfl,v4,W4,K4⟩
    have hw2:∀q:Str,ylv 0 q (l[i].drop (shN (yc0 l i) l[i]))=(0,q++y6s (l[i].length-shN (yc0 l i) l[i])++l[i].drop (shN (yc0 l i) l[i])):=fun q=>by simp only [ylv];rw [if_neg (by simp),if_neg (by simp;omega)];simp
    rw [hw2] at W4
    simp
    apply jE
    simp [y14.r9]
    apply jE
    simp [y14.r10,y4v hd (show l.length≤9223372036854775807 by omega)]
    refine ⟨l.length-(i+1),by omega,_,_,.refl _ _,i+1,v4,by omega,rfl,?_,(K2.trans K3).trans K4,by simp [yne l i hd,ss]⟩
    rw [ynb l i hd]
    simpa using W4
  · simp at hd
    have:i=l.length:=by omega
    subst this
    simp
    refine ⟨v2,?_,K1.trans K2⟩
    have:yb3 l=y6s l.length++yj6 l l.length:=by simp [yb3,yj6]
    rw [this]
    simpa using W2
end
end Go.Proofs.YthmkcebbeehbeaaGreatDoor
