/- Part 45. -/
import Derived.Test.YthmkcebbeehbeaaGreatDoorXGw19
import Derived.Test.YthmkcebbeehbeaaGreatDoorXGw30
import Derived.Test.YthmkcebbeehbeaaGreatDoorXGw33
import Derived.Test.YthmkcebbeehbeaaGreatDoorXGw37
import Derived.Test.YthmkcebbeehbeaaGreatDoorXGw38
import Derived.Test.YthmkcebbeehbeaaGreatDoorXGw39
set_option linter.unusedSimpArgs false
set_option linter.unusedVariables false
namespace Go.Proofs.YthmkcebbeehbeaaGreatDoor
open Am C
def qwc (pool:List Str) (τ:Qw):List V:=[ss pool,.s τ.bs,ss τ.all,.i .i64 τ.e]
def qwB (τ:Qw) (n:Nat):Prop:=τ.bs.length+5*n≤1000000000∧τ.all.length+n≤1000000
theorem ynx (τ:Qw) (n:Int):(y60 τ n).bs.length≤τ.bs.length+5∧(y60 τ n).all=τ.all:=by
 unfold y60
 split
 ·simp
 ·split
  ·simp
  ·rename_i h
   have:=ya3 (n:=n.toNat) (by omega)
   simp;omega
theorem yr9 (pool:List Str) (τ:Qw) (x:Ev):(yl2 pool τ x).bs.length≤τ.bs.length+5∧(yl2 pool τ x).all.length≤τ.all.length+1:=by
 cases x with
 | num n=>have:=ynx τ n;simp only [yl2];rw [this.2];exact ⟨this.1,by omega⟩
 | txt s=>
  simp only [yl2,y5s]
  have:=ynx { τ with all:=yac τ.all s,e:=if s∉pool∧τ.e=0 then 7 else τ.e } (ydv pool s)
  rw [this.2];exact ⟨this.1,yj0 _ _⟩
theorem qwB.ev {τ:Qw} {n:Nat} (h:qwB τ (n+1)) (pool:List Str) (x:Ev):qwB (yl2 pool τ x) n:=by
 have:=yr9 pool τ x
 unfold qwB at *
 omega
theorem qwB.evs {pool:List Str}:∀{es:List Ev} {τ:Qw} {n:Nat},qwB τ (es.length+n)→qwB (y5q pool τ es) n
 | [],τ,n,h=>by simpa using h
 | x::es,τ,n,h=>by
  rw [ybd]
  refine qwB.evs ?_
  refine qwB.ev ?_ pool x
  simpa [kj,Nat.add_comm,Nat.add_left_comm] using h
theorem qwB.le {τ:Qw} {m n:Nat} (h:qwB τ n) (hm:m≤n):qwB τ m:=by unfold qwB at *;omega
theorem ynq {pool:List Str} (hr:y51 pool) (s:Str):max (yka pool s) 0=(ydv pool s:Nat):=by
 unfold ydv
 by_cases h:s∈pool
 ·rw [if_pos h,numV_pos hr h];omega
 ·rw [if_neg h];have:=yej.2 h;simp;omega
section
variable {pool:List Str} {id:Nat} {τ:Qw} {H:Hp}
theorem yb2 (hg:H.get id=some (.cells (qwc pool τ) 4)) (n:Int) (hb:τ.bs.length≤1000000000):
  AC Tryz.prog y4a [.p (some (id,0,4)),.i .i64 n] H (fun v H'=>v=.tup []∧H'=H.upd id (.cells (qwc pool (y60 τ n)) 4)):=by
 unfold qwc at hg
 refine AC.code y2f.at y2f.ok ?_
 simp only [y2f]
 refine AX.seq (AX.test ((decide (n<0)||decide (268435456<n))&&decide (τ.e=0)) [(0,.p (some (id,0,4))),(1,.i .i64 n),(16,.b ((decide (n<0)||decide (268435456<n))&&decide (τ.e=0)))] ?_ rfl (fun h1=>?_) (fun h1=>AX.skip ?_))
 ·by_cases h1:n<0
  ·simp [y2f.r0,h1,hg]
  ·by_cases h2:268435456<n
   ·simp [y2f.r0,h1,h2,hg]
   ·simp [y2f.r0,h1,h2,hg]
 ·simp at h1
  apply jE
  simp [y2f.r1,hg]
  apply jA
  simp [y2f.r2]
  refine jF rfl (AX.skip ?_)
  simp [qwc,y60,h1.2]
  rw [if_pos h1.1]
 ·simp at h1
  simp
  apply jA
  simp [y2f.r2,hg]
  by_cases he:τ.e=0
  ·have hn:¬(n<0∨n > 268435456):=fun h=>h1 h he
   obtain ⟨k,rfl⟩:∃k:Nat,n=k:=⟨n.toNat,by omega⟩
   have hv:=ya3 (n:=k) (by omega)
   refine jG (by simp [he]) (AX.drw ?_)
   simp [y2f.r3,hg]
   refine y5c _ (fun H2=>yqo k (by omega) H2) ?_
   simp
   rw [if_pos (by omega)]
   simp [hg]
   simp [qwc,y60,he]
   rw [if_neg (by omega)]
  ·refine jF (by simp [he]) (AX.skip ?_)
   simp [qwc,y60,he]
   exact (Hp.upd_self hg).symm
theorem yae (hr:y51 pool) (hp:pool.length≤1000000000) (hg:H.get id=some (.cells (qwc pool τ) 4)) (s:Str) (hb:qwB τ 1):
  AC Tryz.prog y44 [.p (some (id,0,4)),.s s] H (fun v H'=>v=.tup []∧H'=H.upd id (.cells (qwc pool (y5s pool τ s)) 4)):=by
 unfold qwc at hg
 refine AC.code y2h.at y2h.ok ?_
 simp only [y2h]
 apply jA
 simp [y2h.r0,hg]
 refine AC.fix (Into_ok _ _ (by unfold qwB at hb;omega) _) ?_
 simp [hg,ss]
 apply jA
 simp [y2h.r1]
 refine AC.fix (yp3 pool s (by unfold N63;omega) _) ?_
 simp
 refine AX.seq (AX.test (decide (s∉pool)&&decide (τ.e=0)) [(0,.p (some (id,0,4))),(4,.i .i64 (yka pool s)),(28,.b (decide (s∉pool)&&decide (τ.e=0)))] ?_ rfl (fun h1=>?_) (fun h1=>AX.skip ?_))
 ·by_cases h1:s∈pool
  ·have:¬yka pool s<0:=fun h=>yej.1 h h1
   simp [y2h.r2,h1,this]
  ·have:=yej.2 h1
   simp [y2h.r2,h1,this]
 ·simp at h1
  apply jE
  simp [y2h.r3]
  apply jE
  simp [y2h.r4,ynq hr]
  have:=yb2 (pool:=pool) (id:=id) (τ:={ τ with all:=yac τ.all s,e:=7 }) (H:=H.upd id (.cells (qwc pool { τ with all:=yac τ.all s,e:=7 }) 4)) (by simp) (ydv pool s) (by unfold qwB at hb;simp;omega)
  refine AC.fix (by simpa [qwc,ss] using this) ?_
  simp [y5s,h1,qwc,ss]
 ·simp at h1
  simp
  apply jE
  simp [y2h.r4,ynq hr]
  have:=yb2 (pool:=pool) (id:=id) (τ:={ τ with all:=yac τ.all s }) (H:=H.upd id (.cells (qwc pool { τ with all:=yac τ.all s }) 4)) (by simp) (ydv pool s) (by unfold qwB at hb;simp;omega)
  refine AC.fix (by simpa [qwc,ss] using this) ?_
  have:(if s∉pool∧τ.e=0 then 7 else τ.e)=τ.e:=if_neg (fun h=>h1 h.1 h.2)
  simp only [y5s,this]
  simp [qwc,ss]
end
theorem yur {α:Type} {pool:List Str} {evf:α→List Ev} {l:List α} {i:Nat} {τ:Qw} (h:i<l.length) (hb:qwB (y5q pool τ ((l.take i).flatMap evf)) ((l.drop i).flatMap evf).length):
  qwB (y5q pool τ ((l.take i).flatMap evf)) (evf l[i]).length∧y5q pool (y5q pool τ ((l.take i).flatMap evf)) (evf l[i])=y5q pool τ ((l.take (i+1)).flatMap evf)∧qwB (y5q pool τ ((l.take (i+1)).flatMap evf)) ((l.drop (i+1)).flatMap evf).length:=by
 have e1:y5q pool (y5q pool τ ((l.take i).flatMap evf)) (evf l[i])=y5q pool τ ((l.take (i+1)).flatMap evf):=by
  rw [←yiy,kI,kB h,Option.toList_some,List.flatMap_append,List.flatMap_cons,List.flatMap_nil,List.append_nil]
 have e2:(l.drop i).flatMap evf=evf l[i]++(l.drop (i+1)).flatMap evf:=by
  rw [kO h,List.flatMap_cons]
 rw [e2,kR] at hb
 exact ⟨hb.le (by omega),e1,by rw [←e1];exact hb.evs⟩
theorem qwB.bs {τ:Qw} {n:Nat} (h:qwB τ n):τ.bs.length≤1000000000:=by unfold qwB at h;omega
theorem qwB.head {α:Type} {evf:α→List Ev} {l:List α} {τ:Qw} {n:Nat} (h:qwB τ ((evL evf l).length+n)) (pool:List Str):qwB (y60 τ l.length) ((l.flatMap evf).length+n):=by
 have:(evL evf l).length+n=(l.flatMap evf).length+n+1:=by simp [evL];omega
 rw [this] at h;exact h.ev pool (.num l.length)
structure QWt (B:Hp) (id:Nat) (pool:List Str) (τ:Qw) (X:Hp):Prop where
 hB:∀k blk,B.get k=some blk→k<B.next
 ext:B.Ext X
 lt:∀k blk,X.get k=some blk→k<X.next
 lo:B.next≤id
 get:X.get id=some (.cells (qwc pool τ) 4)
section
variable {B X:Hp} {pool:List Str} {id:Nat} {τ:Qw} {H:Hp}
theorem QWt.upd (Q:QWt B id pool τ X) (τ':Qw):QWt B id pool τ' (X.upd id (.cells (qwc pool τ') 4)):=
 ⟨Q.hB,Q.ext.upd Q.hB Q.lo _,Hp.upd_lt Q.lt (Q.lt _ _ Q.get) _,Q.lo,by simp⟩
theorem QWt.add (Q:QWt B id pool τ X) (b:Blk):QWt B id pool τ (X.add b)∧X.next≠id:=by
 have:=Q.lt _ _ Q.get
 exact ⟨⟨Q.hB,Q.ext.trans (.add Q.lt b),Hp.add_lt Q.lt b,Q.lo,by rw [Hp.get_add,if_neg (by omega)];exact Q.get⟩,by omega⟩
def T26Inv (id:Nat) (pool:List Str) (l:List Str) (τ:Qw) (H:Hp) (m:Nat) (F:Fr) (Y:Hp):Prop:=
 ∃i,i≤l.length∧m=l.length-i∧Y=H.upd id (.cells (qwc pool (y5q pool τ ((l.take i).flatMap evW))) 4)∧qwB (y5q pool τ ((l.take i).flatMap evW)) ((l.drop i).flatMap evW).length∧F=[(0,.p (some (id,0,4))),(1,ss l),(4,.i .i64 i)]
theorem yfv (hr:y51 pool) (hp:pool.length≤1000000000) (hg:H.get id=some (.cells (qwc pool τ) 4)) (l:List Str) (hb:qwB τ (evL evW l).length):
  AC Tryz.prog y6b [.p (some (id,0,4)),ss l] H (fun v H'=>v=.tup []∧H'=H.upd id (.cells (qwc pool (y5q pool τ (evL evW l))) 4)):=by
 have hb1:=qwB.head (n:=0) (by simpa using hb) pool
 have hll:l.length≤1000000000:=by
  have:l.length≤(l.flatMap evW).length:=ye8 evW l (fun x=>by simp [evW])
  unfold qwB at hb1;omega
 refine AC.code y26.at y26.ok ?_
 simp only [y26]
 apply jA
 simp [y26.r0,ss]
 refine AC.fix (yb2 hg _ hb.bs) ?_
 simp
 apply jA
 simp [y26.r1]
 refine AX.pblock (AX.loop (T26Inv id pool l (y60 τ l.length) H) l.length ⟨_,_,.refl _ _,0,by omega,by omega,by simp,by simpa using hb1,by simp [ss]⟩ ?_)
 rintro m F Y ⟨i,hi,rfl,rfl,bY,rfl⟩
 simp only [y26.l0]
 apply jB
 simp [y26.r2,ss]
 refine AX.pcond rfl (fun hd=>AX.skip ?_) (fun hd=>AX.exit ?_)
 ·simp at hd
  obtain ⟨b1,b2,b3⟩:=yur hd bY
  simp
  refine AX.seq (AX.pblock (AX.reg ?_))
  simp [y26.r3,hd,ss]
  refine AC.fix (yae hr hp (by simp) l[i] b1) ?_
  have b2':y5s pool (y5q pool (y60 τ l.length) ((l.take i).flatMap evW)) l[i]=y5q pool (y60 τ l.length) ((l.take (i+1)).flatMap evW):=b2
  rw [b2']
  simp
  apply jE
  simp [y26.r4,y5p (show i≤9223372036854775000 by omega)]
  exact ⟨l.length-(i+1),by omega,_,_,.refl _ _,i+1,by omega,rfl,rfl,b3,by simp [ss]⟩
 ·simp at hd
  simp
  have:i=l.length:=by omega
  subst this
  simp [evL,yl2]
def O26Inv (B:Hp) (id:Nat) (pool:List Str) (s:Su) (τ:Qw) (m:Nat) (F:Fr) (Y:Hp):Prop:=
 ∃i,i≤s.sys.objs.length∧m=s.sys.objs.length-i∧QWt B id pool (y5q pool τ ((s.sys.objs.take i).flatMap evO)) Y∧qwB (y5q pool τ ((s.sys.objs.take i).flatMap evO)) ((s.sys.objs.drop i).flatMap evO).length∧F=[(0,.p (some (id,0,4))),(3,.fp (y61 s) 0),(4,.i .i64 i)]
def M26Inv (B:Hp) (id:Nat) (pool:List Str) (s:Su) (o:Ob) (ob j:Nat) (τ:Qw) (m:Nat) (F:Fr) (Y:Hp):Prop:=
 ∃i,i≤o.marks.length∧m=o.marks.length-i∧QWt B id pool (y5q pool τ ((o.marks.take i).flatMap evM)) Y∧ob≠id∧Y.get ob=some (.cells (y62 o) 3)∧qwB (y5q pool τ ((o.marks.take i).flatMap evM)) ((o.marks.drop i).flatMap evM).length∧F=[(0,.p (some (id,0,4))),(3,.fp (y61 s) 0),(4,.i .i64 j),(5,.p (some (ob,0,3))),(6,.i .i64 i)]
def F26Inv (B:Hp) (id:Nat) (pool:List Str) (s:Su) (τ:Qw) (m:Nat) (F:Fr) (Y:Hp):Prop:=
 ∃i,i≤s.sys.fns.length∧m=s.sys.fns.length-i∧QWt B id pool (y5q pool τ ((s.sys.fns.take i).flatMap evF)) Y∧qwB (y5q pool τ ((s.sys.fns.take i).flatMap evF)) ((s.sys.fns.drop i).flatMap evF).length∧F=[(0,.p (some (id,0,4))),(3,.fp (y61 s) 0),(7,.i .i64 i)]
def C26Inv (B:Hp) (id:Nat) (pool:List Str) (s:Su) (τ:Qw) (m:Nat) (F:Fr) (Y:Hp):Prop:=
 ∃i,i≤s.sys.cons.length∧m=s.sys.cons.length-i∧QWt B id pool (y5q pool τ ((s.sys.cons.take i).flatMap evC)) Y∧qwB (y5q pool τ ((s.sys.cons.take i).flatMap evC)) ((s.sys.cons.drop i).flatMap evC).length∧F=[(0,.p (some (id,0,4))),(3,.fp (y61 s) 0),(9,.i .i64 i)]
theorem yx1 (hr:y51 pool) (hp:pool.length≤1000000000) (Q:QWt B id pool τ X) (s:Su) (hb:qwB τ (evS s).length):
  AC Tryz.prog y8j [.p (some (id,0,4)),.agg (y61 s)] X (fun v Y=>v=.tup []∧QWt B id pool (y5q pool τ (evS s)) Y):=by
 have hsz:(evS s).length=(evL evW s.gives).length+((evL evW s.wants).length+((evL evW s.keeps).length+((evL evO s.sys.objs).length+((evL evF s.sys.fns).length+(evL evC s.sys.cons).length))))+1:=by simp [evS]
 rw [hsz] at hb
 have b1:=hb.ev pool (.txt s.name)
 have b2:=b1.evs (pool:=pool)
 have b3:=b2.evs (pool:=pool)
 have b4:=b3.evs (pool:=pool)
 have lo:s.sys.objs.length≤(s.sys.objs.flatMap evO).length:=ye8 evO s.sys.objs (fun x=>by simp [evO])
 have lf:s.sys.fns.length≤(s.sys.fns.flatMap evF).length:=ye8 evF s.sys.fns (fun x=>by simp [evF])
 have lc:s.sys.cons.length≤(s.sys.cons.flatMap evC).length:=ye8 evC s.sys.cons (fun x=>by simp [evC])
 have hev:y5q pool τ (evS s)=y5q pool (y5q pool (y5q pool (y5q pool (y5q pool (y5q pool (y5s pool τ s.name) (evL evW s.gives)) (evL evW s.wants)) (evL evW s.keeps)) (evL evO s.sys.objs)) (evL evF s.sys.fns)) (evL evC s.sys.cons):=by
  simp only [evS,ybd,yiy,yl2]
 rw [hev]
 simp only [yl2] at b1 b2 b3 b4
 refine AC.code y0.at y0.ok ?_
 simp only [y0]
 apply jA
 simp [y0.r0,y61]
 apply jA
 simp [y0.r1]
 refine AC.fix (yae hr hp Q.get s.name (hb.le (by omega))) ?_
 have Q1:=Q.upd (y5s pool τ s.name)
 generalize X.upd id (.cells (qwc pool (y5s pool τ s.name)) 4)=X1 at *
 generalize y5s pool τ s.name=τ1 at *
 simp
 apply jA
 simp [y0.r2]
 refine AC.fix (yfv hr hp Q1.get s.gives (b1.le (by omega))) ?_
 have Q2:=Q1.upd (y5q pool τ1 (evL evW s.gives))
 generalize X1.upd id (.cells (qwc pool (y5q pool τ1 (evL evW s.gives))) 4)=X2 at *
 generalize y5q pool τ1 (evL evW s.gives)=τ2 at *
 simp
 apply jA
 simp [y0.r3]
 refine AC.fix (yfv hr hp Q2.get s.wants (b2.le (by omega))) ?_
 have Q3:=Q2.upd (y5q pool τ2 (evL evW s.wants))
 generalize X2.upd id (.cells (qwc pool (y5q pool τ2 (evL evW s.wants))) 4)=X3 at *
 generalize y5q pool τ2 (evL evW s.wants)=τ3 at *
 simp
 apply jA
 simp [y0.r4]
 refine AC.fix (yfv hr hp Q3.get s.keeps (b3.le (by omega))) ?_
 have Q4:=Q3.upd (y5q pool τ3 (evL evW s.keeps))
 generalize X3.upd id (.cells (qwc pool (y5q pool τ3 (evL evW s.keeps))) 4)=X4 at *
 generalize y5q pool τ3 (evL evW s.keeps)=τ4 at *
 have b5:=b4.evs (pool:=pool)
 have b6:=b5.evs (pool:=pool)
 have c4:=qwB.head b4 pool
 have d4:qwB (y60 τ4 s.sys.objs.length) (s.sys.objs.flatMap evO).length:=c4.le (by omega)
 have e4:y5q pool (y60 τ4 s.sys.objs.length) (s.sys.objs.flatMap evO)=y5q pool τ4 (evL evO s.sys.objs):=rfl
 rw [←e4] at b5 b6 ⊢
 have big:=d4.2
 simp
 apply jA
 simp [y0.r5]
 refine AC.fix (yb2 Q4.get s.sys.objs.length b4.bs) ?_
 have Q5:=Q4.upd (y60 τ4 s.sys.objs.length)
 generalize X4.upd id (.cells (qwc pool (y60 τ4 s.sys.objs.length)) 4)=X5 at *
 generalize y60 τ4 s.sys.objs.length=τ5 at *
 simp
 apply jB
 simp [y0.r6]
 refine AX.pblock (AX.loop (O26Inv B id pool s τ5) s.sys.objs.length ⟨_,_,.refl _ _,0,by omega,by omega,by simpa using Q5,by simpa using d4,by simp [y61]⟩ ?_)
 rintro m F Y ⟨i,hi,rfl,QY,bY,rfl⟩
 simp only [y0.l0]
 apply jB
 simp [y0.r7,y61]
 refine AX.pcond rfl (fun hd=>AX.skip ?_) (fun hd=>AX.exit ?_)
 ·simp at hd
  obtain ⟨g1,g2,g3⟩:=yur hd bY
  generalize hτ:y5q pool τ5 ((s.sys.objs.take i).flatMap evO)=τi at *
  obtain ⟨QA,hne⟩:=QY.add (.cells (y62 s.sys.objs[i]) 3)
  have hup:(Y.add (.cells [.s [],.s [],.sl none 0 0] 3)).upd Y.next (.cells (y62 s.sys.objs[i]) 3)=Y.add (.cells (y62 s.sys.objs[i]) 3):=by
   refine Hp.ext' (fun j=>?_) rfl
   simp only [Hp.get_upd,Hp.get_add]
   split <;> rfl
  have hgo:(Y.add (.cells (y62 s.sys.objs[i]) 3)).get Y.next=some (.cells (y62 s.sys.objs[i]) 3):=by simp
  simp
  apply jC
  simp only [y62] at hup
  simp [y0.r8,y61,hd,y62,hup]
  change AX _ _ _ _ _ (Y.add (.cells (y62 s.sys.objs[i]) 3))
  generalize Y.add (.cells (y62 s.sys.objs[i]) 3)=Y1 at *
  generalize Y.next=ob at *
  generalize s.sys.objs[i]=o at *
  have h0:qwB τi ((evL evM o.marks).length+1+1):=g1
  have h1:=h0.ev pool (.txt o.name)
  have h2:=h1.ev pool (.txt o.kinds)
  apply jA
  simp [y0.r9,hgo,y62]
  refine AC.fix (yae hr hp QA.get o.name (h0.le (by omega))) ?_
  have QB:=QA.upd (y5s pool τi o.name)
  have hgb:(Y1.upd id (.cells (qwc pool (y5s pool τi o.name)) 4)).get ob=some (.cells (y62 o) 3):=by simp [hne,hgo]
  generalize Y1.upd id (.cells (qwc pool (y5s pool τi o.name)) 4)=Y2 at *
  simp
  apply jA
  simp [y0.r10,hgb,y62]
  refine AC.fix (yae hr hp QB.get o.kinds (h1.le (by omega))) ?_
  have QC:=QB.upd (y5s pool (y5s pool τi o.name) o.kinds)
  have hgc:(Y2.upd id (.cells (qwc pool (y5s pool (y5s pool τi o.name) o.kinds)) 4)).get ob=some (.cells (y62 o) 3):=by simp [hne,hgb]
  generalize Y2.upd id (.cells (qwc pool (y5s pool (y5s pool τi o.name) o.kinds)) 4)=Y3 at *
  simp
  apply jA
  simp [y0.r11,hgc,y62]
  refine AC.fix (yb2 QC.get o.marks.length h2.bs) ?_
  have QD:=QC.upd (y60 (y5s pool (y5s pool τi o.name) o.kinds) o.marks.length)
  have hgd:(Y3.upd id (.cells (qwc pool (y60 (y5s pool (y5s pool τi o.name) o.kinds) o.marks.length)) 4)).get ob=some (.cells (y62 o) 3):=by simp [hne,hgc]
  generalize Y3.upd id (.cells (qwc pool (y60 (y5s pool (y5s pool τi o.name) o.kinds) o.marks.length)) 4)=Y4 at *
  have h3:=qwB.head (n:=0) (by simpa [yl2] using h2) pool
  have hml:o.marks.length≤1000000000:=by
   have:o.marks.length≤(o.marks.flatMap evM).length:=ye8 evM o.marks (fun x=>by simp [evM])
   unfold qwB at h3;omega
  have h5:y5q pool (y60 (y5s pool (y5s pool τi o.name) o.kinds) o.marks.length) (o.marks.flatMap evM)=y5q pool τi (evO o):=rfl
  generalize y60 (y5s pool (y5s pool τi o.name) o.kinds) o.marks.length=τm at *
  simp
  apply jA
  simp [y0.r12]
  refine AX.pblock (AX.loop (M26Inv B id pool s o ob i τm) o.marks.length ⟨_,_,.refl _ _,0,by omega,by omega,by simpa using QD,hne,hgd,by simpa using h3,by simp [y61]⟩ ?_)
  rintro m F Z ⟨k,hk,rfl,QZ,hne,hgz,bZ,rfl⟩
  simp only [y0.l1]
  apply jB
  simp [y0.r13,hgz,y62]
  refine AX.pcond rfl (fun hd2=>AX.skip ?_) (fun hd2=>AX.exit ?_)
  ·simp at hd2
   obtain ⟨p1,p2,p3⟩:=yur hd2 bZ
   generalize y5q pool τm ((o.marks.take k).flatMap evM)=τk at *
   have p0:qwB τk (1+1):=p1
   have p4:=p0.ev pool (.num o.marks[k].pos)
   simp
   apply jC
   simp [y0.r14,hgz,y62,hd2,ycm]
   refine AC.fix (yb2 QZ.get o.marks[k].pos p0.bs) ?_
   have QE:=QZ.upd (y60 τk o.marks[k].pos)
   have hge:(Z.upd id (.cells (qwc pool (y60 τk o.marks[k].pos)) 4)).get ob=some (.cells (y62 o) 3):=by simp [hne,hgz]
   generalize Z.upd id (.cells (qwc pool (y60 τk o.marks[k].pos)) 4)=Z1 at *
   simp
   apply jE
   simp [y0.r15,hge,y62,hd2,ycm]
   refine AC.fix (yae hr hp QE.get o.marks[k].tag p4) ?_
   have QF:=QE.upd (y5s pool (y60 τk o.marks[k].pos) o.marks[k].tag)
   have hgf:(Z1.upd id (.cells (qwc pool (y5s pool (y60 τk o.marks[k].pos) o.marks[k].tag)) 4)).get ob=some (.cells (y62 o) 3):=by simp [hne,hge]
   generalize Z1.upd id (.cells (qwc pool (y5s pool (y60 τk o.marks[k].pos) o.marks[k].tag)) 4)=Z2 at *
   have p5:y5s pool (y60 τk o.marks[k].pos) o.marks[k].tag=y5q pool τm ((o.marks.take (k+1)).flatMap evM):=p2
   rw [p5] at QF
   simp
   apply jE
   simp [y0.r16,y5p (show k≤9223372036854775000 by omega)]
   exact ⟨o.marks.length-(k+1),by omega,_,_,.refl _ _,k+1,by omega,rfl,QF,hne,hgf,p3,by simp [y61]⟩
  ·simp at hd2
   have:k=o.marks.length:=by omega
   subst this
   simp at QZ
   rw [h5,g2] at QZ
   simp
   apply jE
   simp [y0.r17,y5p (show i≤9223372036854775000 by omega)]
   exact ⟨s.sys.objs.length-(i+1),by omega,_,_,.refl _ _,i+1,by omega,rfl,QZ,g3,by simp [y61]⟩
 simp at hd
 have:i=s.sys.objs.length:=by omega
 subst this
 simp at QY
 clear bY
 simp
 have c5:=qwB.head b5 pool
 have d5:qwB (y60 (y5q pool τ5 (s.sys.objs.flatMap evO)) s.sys.fns.length) (s.sys.fns.flatMap evF).length:=c5.le (by omega)
 have e5:y5q pool (y60 (y5q pool τ5 (s.sys.objs.flatMap evO)) s.sys.fns.length) (s.sys.fns.flatMap evF)=y5q pool (y5q pool τ5 (s.sys.objs.flatMap evO)) (evL evF s.sys.fns):=rfl
 rw [←e5] at b6 ⊢
 have big5:=d5.2
 apply jA
 simp [y0.r18]
 refine AC.fix (yb2 QY.get s.sys.fns.length b5.bs) ?_
 have Q6:=QY.upd (y60 (y5q pool τ5 (s.sys.objs.flatMap evO)) s.sys.fns.length)
 generalize Y.upd id (.cells (qwc pool (y60 (y5q pool τ5 (s.sys.objs.flatMap evO)) s.sys.fns.length)) 4)=X6 at *
 generalize y60 (y5q pool τ5 (s.sys.objs.flatMap evO)) s.sys.fns.length=τ6 at *
 simp
 apply jB
 simp [y0.r19]
 refine AX.pblock (AX.loop (F26Inv B id pool s τ6) s.sys.fns.length ⟨_,_,.refl _ _,0,by omega,by omega,by simpa using Q6,by simpa using d5,by simp [y61]⟩ ?_)
 rintro m F Z ⟨i,hi,rfl,QZ,bZ,rfl⟩
 simp only [y0.l2]
 apply jB
 simp [y0.r20,y61]
 refine AX.pcond rfl (fun hd=>AX.skip ?_) (fun hd=>AX.exit ?_)
 ·simp at hd
  obtain ⟨g1,g2,g3⟩:=yur hd bZ
  generalize hτ:y5q pool τ6 ((s.sys.fns.take i).flatMap evF)=τi at *
  obtain ⟨QA,hne⟩:=QZ.add (.cells (y9n s.sys.fns[i]) 3)
  have hup:(Z.add (.cells [.s [],.s [],.s []] 3)).upd Z.next (.cells (y9n s.sys.fns[i]) 3)=Z.add (.cells (y9n s.sys.fns[i]) 3):=by
   refine Hp.ext' (fun j=>?_) rfl
   simp only [Hp.get_upd,Hp.get_add]
   split <;> rfl
  have hgo:(Z.add (.cells (y9n s.sys.fns[i]) 3)).get Z.next=some (.cells (y9n s.sys.fns[i]) 3):=by simp
  simp
  apply jC
  simp only [y9n] at hup
  simp [y0.r21,y61,hd,y9n,hup]
  change AX _ _ _ _ _ (Z.add (.cells (y9n s.sys.fns[i]) 3))
  generalize Z.add (.cells (y9n s.sys.fns[i]) 3)=Y1 at *
  generalize Z.next=ob at *
  generalize s.sys.fns[i]=o at *
  have h0:qwB τi (1+1+1):=g1
  have h1:=h0.ev pool (.txt o.name)
  have h2:=h1.ev pool (.txt o.kinds)
  apply jA
  simp [y0.r22,hgo,y9n]
  refine AC.fix (yae hr hp QA.get o.name (h0.le (by omega))) ?_
  have QB:=QA.upd (y5s pool τi o.name)
  have hgb:(Y1.upd id (.cells (qwc pool (y5s pool τi o.name)) 4)).get ob=some (.cells (y9n o) 3):=by simp [hne,hgo]
  generalize Y1.upd id (.cells (qwc pool (y5s pool τi o.name)) 4)=Y2 at *
  simp
  apply jA
  simp [y0.r23,hgb,y9n]
  refine AC.fix (yae hr hp QB.get o.kinds (h1.le (by omega))) ?_
  have QC:=QB.upd (y5s pool (y5s pool τi o.name) o.kinds)
  have hgc:(Y2.upd id (.cells (qwc pool (y5s pool (y5s pool τi o.name) o.kinds)) 4)).get ob=some (.cells (y9n o) 3):=by simp [hne,hgb]
  generalize Y2.upd id (.cells (qwc pool (y5s pool (y5s pool τi o.name) o.kinds)) 4)=Y3 at *
  simp
  apply jE
  simp [y0.r24,hgc,y9n]
  refine AC.fix (yae hr hp QC.get o.ret h2) ?_
  have QD:=QC.upd (y5s pool (y5s pool (y5s pool τi o.name) o.kinds) o.ret)
  generalize Y3.upd id (.cells (qwc pool (y5s pool (y5s pool (y5s pool τi o.name) o.kinds) o.ret)) 4)=Y4 at *
  have g4:y5s pool (y5s pool (y5s pool τi o.name) o.kinds) o.ret=y5q pool τ6 ((s.sys.fns.take (i+1)).flatMap evF):=g2
  rw [g4] at QD
  simp
  apply jE
  simp [y0.r25,y5p (show i≤9223372036854775000 by omega)]
  exact ⟨s.sys.fns.length-(i+1),by omega,_,_,.refl _ _,i+1,by omega,rfl,QD,g3,by simp [y61]⟩
 simp at hd
 have:i=s.sys.fns.length:=by omega
 subst this
 simp at QZ
 clear bZ
 simp
 have c6:=qwB.head (n:=0) (by simpa using b6) pool
 have d6:qwB (y60 (y5q pool τ6 (s.sys.fns.flatMap evF)) s.sys.cons.length) (s.sys.cons.flatMap evC).length:=c6.le (by omega)
 have e6:y5q pool (y60 (y5q pool τ6 (s.sys.fns.flatMap evF)) s.sys.cons.length) (s.sys.cons.flatMap evC)=y5q pool (y5q pool τ6 (s.sys.fns.flatMap evF)) (evL evC s.sys.cons):=rfl
 rw [←e6]
 have big6:=d6.2
 apply jA
 simp [y0.r26]
 refine AC.fix (yb2 QZ.get s.sys.cons.length b6.bs) ?_
 have Q7:=QZ.upd (y60 (y5q pool τ6 (s.sys.fns.flatMap evF)) s.sys.cons.length)
 generalize Z.upd id (.cells (qwc pool (y60 (y5q pool τ6 (s.sys.fns.flatMap evF)) s.sys.cons.length)) 4)=X7 at *
 generalize y60 (y5q pool τ6 (s.sys.fns.flatMap evF)) s.sys.cons.length=τ7 at *
 simp
 apply jA
 simp [y0.r27]
 refine AX.pblock (AX.loop (C26Inv B id pool s τ7) s.sys.cons.length ⟨_,_,.refl _ _,0,by omega,by omega,by simpa using Q7,by simpa using d6,by simp [y61]⟩ ?_)
 rintro m F W ⟨i,hi,rfl,QW,bW,rfl⟩
 simp only [y0.l3]
 apply jB
 simp [y0.r28,y61]
 refine AX.pcond rfl (fun hd=>AX.skip ?_) (fun hd=>AX.exit ?_)
 ·simp at hd
  obtain ⟨g1,g2,g3⟩:=yur hd bW
  generalize hτ:y5q pool τ7 ((s.sys.cons.take i).flatMap evC)=τi at *
  obtain ⟨QA,hne⟩:=QW.add (.cells (y6i s.sys.cons[i]) 6)
  have hup:(W.add (.cells [.i .i64 0,.s [],.s [],.i .i64 0,.s [],.sl none 0 0] 6)).upd W.next (.cells (y6i s.sys.cons[i]) 6)=W.add (.cells (y6i s.sys.cons[i]) 6):=by
   refine Hp.ext' (fun j=>?_) rfl
   simp only [Hp.get_upd,Hp.get_add]
   split <;> rfl
  have hgo:(W.add (.cells (y6i s.sys.cons[i]) 6)).get W.next=some (.cells (y6i s.sys.cons[i]) 6):=by simp
  simp
  apply jC
  simp only [y6i,ss] at hup
  simp [y0.r29,y61,hd,y6i,hup,ss]
  change AX _ _ _ _ _ (W.add (.cells (y6i s.sys.cons[i]) 6))
  generalize W.add (.cells (y6i s.sys.cons[i]) 6)=Y1 at *
  generalize W.next=ob at *
  generalize s.sys.cons[i]=o at *
  have h0:qwB τi ((evL evW o.args).length+1+1+1+1+1):=g1
  have h1:=h0.ev pool (.num o.op)
  have h2:=h1.ev pool (.txt o.a)
  have h3:=h2.ev pool (.txt o.b)
  have h4:=h3.ev pool (.num o.k)
  have h5:=h4.ev pool (.txt o.tag)
  apply jA
  simp [y0.r30,hgo,y6i]
  refine AC.fix (yb2 QA.get o.op h0.bs) ?_
  have QB:=QA.upd (y60 τi o.op)
  have hgb:(Y1.upd id (.cells (qwc pool (y60 τi o.op)) 4)).get ob=some (.cells (y6i o) 6):=by simp [hne,hgo]
  generalize Y1.upd id (.cells (qwc pool (y60 τi o.op)) 4)=Y2 at *
  simp
  apply jA
  simp [y0.r31,hgb,y6i]
  refine AC.fix (yae hr hp QB.get o.a (h1.le (by omega))) ?_
  have QC:=QB.upd (y5s pool (y60 τi o.op) o.a)
  have hgc:(Y2.upd id (.cells (qwc pool (y5s pool (y60 τi o.op) o.a)) 4)).get ob=some (.cells (y6i o) 6):=by simp [hne,hgb]
  generalize Y2.upd id (.cells (qwc pool (y5s pool (y60 τi o.op) o.a)) 4)=Y3 at *
  simp
  apply jA
  simp [y0.r32,hgc,y6i]
  refine AC.fix (yae hr hp QC.get o.b (h2.le (by omega))) ?_
  have QD:=QC.upd (y5s pool (y5s pool (y60 τi o.op) o.a) o.b)
  have hgd:(Y3.upd id (.cells (qwc pool (y5s pool (y5s pool (y60 τi o.op) o.a) o.b)) 4)).get ob=some (.cells (y6i o) 6):=by simp [hne,hgc]
  generalize Y3.upd id (.cells (qwc pool (y5s pool (y5s pool (y60 τi o.op) o.a) o.b)) 4)=Y4 at *
  simp
  apply jA
  simp [y0.r33,hgd,y6i]
  refine AC.fix (yb2 QD.get o.k h3.bs) ?_
  have QE:=QD.upd (y60 (y5s pool (y5s pool (y60 τi o.op) o.a) o.b) o.k)
  have hge:(Y4.upd id (.cells (qwc pool (y60 (y5s pool (y5s pool (y60 τi o.op) o.a) o.b) o.k)) 4)).get ob=some (.cells (y6i o) 6):=by simp [hne,hgd]
  generalize Y4.upd id (.cells (qwc pool (y60 (y5s pool (y5s pool (y60 τi o.op) o.a) o.b) o.k)) 4)=Y5 at *
  simp
  apply jA
  simp [y0.r34,hge,y6i]
  refine AC.fix (yae hr hp QE.get o.tag (h4.le (by omega))) ?_
  have QF:=QE.upd (y5s pool (y60 (y5s pool (y5s pool (y60 τi o.op) o.a) o.b) o.k) o.tag)
  have hgf:(Y5.upd id (.cells (qwc pool (y5s pool (y60 (y5s pool (y5s pool (y60 τi o.op) o.a) o.b) o.k) o.tag)) 4)).get ob=some (.cells (y6i o) 6):=by simp [hne,hge]
  generalize Y5.upd id (.cells (qwc pool (y5s pool (y60 (y5s pool (y5s pool (y60 τi o.op) o.a) o.b) o.k) o.tag)) 4)=Y6 at *
  simp
  apply jE
  simp [y0.r35,hgf,y6i]
  refine AC.fix (yfv hr hp QF.get o.args h5) ?_
  have QG:=QF.upd (y5q pool (y5s pool (y60 (y5s pool (y5s pool (y60 τi o.op) o.a) o.b) o.k) o.tag) (evL evW o.args))
  generalize Y6.upd id (.cells (qwc pool (y5q pool (y5s pool (y60 (y5s pool (y5s pool (y60 τi o.op) o.a) o.b) o.k) o.tag) (evL evW o.args))) 4)=Y7 at *
  have g4:y5q pool (y5s pool (y60 (y5s pool (y5s pool (y60 τi o.op) o.a) o.b) o.k) o.tag) (evL evW o.args)=y5q pool τ7 ((s.sys.cons.take (i+1)).flatMap evC):=g2
  rw [g4] at QG
  simp
  apply jE
  simp [y0.r36,y5p (show i≤9223372036854775000 by omega)]
  exact ⟨s.sys.cons.length-(i+1),by omega,_,_,.refl _ _,i+1,by omega,rfl,QG,g3,by simp [y61,ss]⟩
 ·simp at hd
  have:i=s.sys.cons.length:=by omega
  subst this
  simp at QW
  simp
  exact QW
end
theorem yna (s:Su) (hb:(evS s).length≤1000000) (H:Hp):AC Tryz.prog yca [.agg (y61 s)] H (fun v H'=>v=ss (y4u s)∧H'=H):=by
 refine AC.codeP y42.at y42.ok (ycp _) fun hlt=>?_
 simp only [y42]
 apply jA
 simp [y42.r0,y61]
 apply jA
 simp [y42.r1]
 have Q0:QWt H H.next [] qw0 (H.add (.cells [.fs [],.s [],.fs [],.i .i64 0] 4)):=⟨hlt,.add hlt _,Hp.add_lt hlt _,kF _,by simp [qwc,qw0,ss]⟩
 generalize H.add (.cells [.fs [],.s [],.fs [],.i .i64 0] 4)=X0 at *
 apply jA
 simp [y42.r2]
 have hrun:=yx1 (pool:=[]) (by simp [y51]) (by simp) Q0 s (by unfold qwB;simp [qw0];omega)
 simp only [y61] at hrun
 refine hrun.mono ?_
 rintro _ Y ⟨rfl,Q⟩
 have hg:=Q.get
 simp only [qwc] at hg
 simp
 apply jA
 simp [y42.r3,hg]
 apply jD
 simp [yup]
 exact ⟨Q.ext,.refl _⟩
theorem ywl {α:Type} (p:α→Bool) (l:List α):(l.any fun x=>!p x)=!l.all p:=by
 induction l with
 | nil=>rfl
 | cons x r ih=>simp [ih,Bool.not_and]
def SckInv (s:Su) (id k:Nat) (X:Hp) (m:Nat) (F:Fr) (Y:Hp):Prop:=
 ∃i,i≤2∧m=2-i∧(0<i→yif s.sys s.gives=0)∧(1<i→yif s.sys s.wants=0)∧Y=X∧F=[(1,.p (some (id,0,7))),(4,.p (some (k,0,1))),(22,.fs [[ss s.gives],[ss s.wants]]),(23,.i .i64 2),(24,.i .i64 i)]
theorem yks (s:Su) (hs:suS s) (H:Hp):AC Tryz.prog ybs [.agg (y61 s)] H (fun v H'=>v=.i .i64 (suE s)∧H'=H):=by
 have hs':=hs
 obtain ⟨q1,q2,q3,q4,q5,q6⟩:=hs'
 refine AC.codeP yi.at yi.ok (yi4 _ _) fun hlt=>?_
 simp only [yi]
 apply jA
 simp [yi.r0,y61]
 have hb:(H.add (.cells [.s s.name,ss s.gives,ss s.wants,ss s.keeps,.fs (s.sys.objs.map y62),.fs (s.sys.fns.map y9n),.fs (s.sys.cons.map y6i)] 7)).get H.next=some (.cells (y61 s) 7):=by simp [y61]
 have hE:=Hp.Ext.add hlt (.cells [.s s.name,ss s.gives,ss s.wants,ss s.keeps,.fs (s.sys.objs.map y62),.fs (s.sys.fns.map y9n),.fs (s.sys.cons.map y6i)] 7)
 have hL:=Hp.add_lt hlt (.cells [.s s.name,ss s.gives,ss s.wants,ss s.keeps,.fs (s.sys.objs.map y62),.fs (s.sys.fns.map y9n),.fs (s.sys.cons.map y6i)] 7)
 generalize H.add (.cells [.s s.name,ss s.gives,ss s.wants,ss s.keeps,.fs (s.sys.objs.map y62),.fs (s.sys.fns.map y9n),.fs (s.sys.cons.map y6i)] 7)=X at *
 generalize H.next=id at *
 apply jB
 simp [yi.r1,hb,y61]
 refine AC.fix (yid s.name (by omega) _) ?_
 simp
 refine AX.pcond rfl (fun h1=>?_) (fun h1=>AX.skip ?_)
 ·simp at h1
  apply jA
  simp [yi.r2]
  apply jD
  simp [suE,h1]
  exact ⟨hE,.refl _⟩
 simp at h1
 simp
 apply jB
 simp [yi.r3,hb,y61]
 refine AC.fix (ywu s.sys q6 _) ?_
 simp
 apply jA
 simp [yi.r4]
 refine AX.pcond rfl (fun h2=>?_) (fun h2=>AX.skip ?_)
 ·simp at h2
  apply jA
  simp [yi.r5]
  apply jD
  simp [suE,h1,orI,h2]
  exact ⟨hE,.refl _⟩
 simp at h2
 simp
 apply jA
 simp [yi.r6]
 have hE2:=hE.trans (yga hL (.cells [.nf] 1) (.cells [.fn y66 [.p (some (id,0,7))]] 1))
 have hL2:=lt2 hL (.cells [.nf] 1) (.cells [.fn y66 [.p (some (id,0,7))]] 1)
 have hk:((X.add (.cells [.nf] 1)).upd X.next (.cells [.fn y66 [.p (some (id,0,7))]] 1)).get X.next=some (.cells [.fn y66 [.p (some (id,0,7))]] 1):=by simp
 have hb2:((X.add (.cells [.nf] 1)).upd X.next (.cells [.fn y66 [.p (some (id,0,7))]] 1)).get id=some (.cells (y61 s) 7):=by
  have:=hL _ _ hb
  simp [show id≠X.next by omega,hb]
 generalize (X.add (.cells [.nf] 1)).upd X.next (.cells [.fn y66 [.p (some (id,0,7))]] 1)=Y at *
 generalize X.next=k at *
 apply jB
 simp [yi.r7,hb2,y61,ydi,show List.range 2=[0,1] from rfl]
 refine AX.pblock (AX.loop (SckInv s id k Y) 2 ⟨_,_,.refl _ _,0,by omega,by omega,by simp,by simp,rfl,rfl⟩ ?_)
 rintro m F Z ⟨i,hi,rfl,hg,hw,rfl,rfl⟩
 simp only [yi.l0]
 apply jA
 simp [yi.r8]
 refine AX.seq (AX.pcond rfl (fun hd=>AX.skip ?_) (fun hd=>AX.exit ?_))
 ·simp at hd
  obtain ⟨l,hl,hll,hle⟩:∃l:List Str,[[ss s.gives],[ss s.wants]][i]?=some [ss l]∧l.length≤140737488355328∧(yif s.sys l≠0→suE s=yif s.sys l)∧(yif s.sys l=0→(0<i+1→yif s.sys s.gives=0)∧(1<i+1→yif s.sys s.wants=0)):=by
   match i,hd with
   | 0,_=>exact ⟨s.gives,rfl,q2,fun h=>by simp [suE,h1,orI,h2,h],fun h=>⟨fun _=>h,fun h=>by omega⟩⟩
   | 1,_=>exact ⟨s.wants,rfl,q3,fun h=>by simp [suE,h1,orI,h2,h,hg (by omega)],fun h=>⟨fun _=>hg (by omega),fun _=>h⟩⟩
  simp
  apply jC
  simp [yi.r9,hl]
  refine AX.pblock (jA ?_)
  simp [yi.r10]
  refine AC.fix (yr6 l (by omega) _) ?_
  simp
  refine AX.pcond rfl (fun h3=>?_) (fun h3=>?_)
  ·simp at h3
   apply jA
   simp [yi.r11]
   apply jD
   have:yif s.sys l=13:=by simp [yif,h3]
   simp [hle.1 (by rw [this];decide),this]
   exact ⟨hE2,.refl _⟩
  simp at h3
  have hcon:=yeb l yal [.p (some (k,0,1))] (fun n=>!yhq s.sys n) (by omega) Z fun n _=>ck2_ok s hs n id k Z hb2 hk
  rw [ywl] at hcon
  apply jA
  simp [yi.r12]
  refine AC.fix hcon ?_
  simp
  refine AX.pcond rfl (fun h4=>?_) (fun h4=>AX.skip ?_)
  ·simp only [Bool.not_eq_true'] at h4
   apply jA
   simp [yi.r13]
   apply jD
   have:yif s.sys l=7:=by simp only [yif,h3,h4];rfl
   simp [hle.1 (by rw [this];decide),this]
   exact ⟨hE2,.refl _⟩
  simp only [Bool.not_eq_false'] at h4
  have h0:yif s.sys l=0:=by simp only [yif,h3,h4];rfl
  obtain ⟨n1,n2⟩:=hle.2 h0
  simp
  apply jE
  simp [yi.r14,y5p (i:=i) (by omega)]
  exact ⟨2-(i+1),by omega,_,_,.refl _ _,i+1,by omega,rfl,n1,n2,rfl,by simp⟩
 simp at hd
 have hg:=hg (by omega)
 have hw:=hw (by omega)
 simp
 apply jC
 have hcon:=yeb s.gives yak [.p (some (id,0,7))] (fun n=>decide (n∈s.wants)) (by omega) Z fun n _=>ck3_ok s hs n id Z hb2
 simp [yi.r15,hb2,y61]
 refine AC.fix hcon ?_
 generalize hx:(s.gives.any fun n=>decide (n∈s.wants))=x
 simp
 refine AX.pcond rfl (fun h5=>?_) (fun h5=>?_)
 ·subst h5
  apply jA
  simp [yi.r16]
  apply jD
  simp only [suE,hx]
  simp [h1,orI,h2,hg,hw]
  exact ⟨hE2,.refl _⟩
 subst h5
 apply jA
 simp [yi.r17,hb2,y61,ss]
 refine AX.pcond rfl (fun h6=>?_) (fun h6=>?_)
 ·simp at h6
  apply jA
  simp [yi.r18]
  apply jD
  simp only [suE,hx]
  simp [h1,orI,h2,hg,hw,h6]
  exact ⟨hE2,.refl _⟩
 simp at h6
 apply jA
 simp [yi.r19,hb2,y61]
 refine AC.fix (yr6 s.keeps (by omega) _) ?_
 simp
 refine AX.pcond rfl (fun h7=>?_) (fun h7=>?_)
 ·simp at h7
  apply jA
  simp [yi.r20]
  apply jD
  simp only [suE,hx]
  simp [h1,orI,h2,hg,hw,h7,show ¬6000<s.keeps.length by omega]
  exact ⟨hE2,.refl _⟩
 simp at h7
 have hcon2:=yeb s.keeps yci [] (fun n=>!yay n) (by omega) Z fun n hn=>ck4_ok n (by have:=q5 n hn;omega) Z
 rw [ywl] at hcon2
 apply jA
 simp [yi.r21,hb2,y61]
 refine AC.fix hcon2 ?_
 generalize hy:s.keeps.all yay=y
 simp
 refine AX.pcond rfl (fun h8=>?_) (fun h8=>AX.skip ?_)
 ·simp at h8
  subst h8
  apply jA
  simp [yi.r22]
  apply jD
  simp only [suE,hx,hy]
  simp [h1,orI,h2,hg,hw,h7,show ¬6000<s.keeps.length by omega]
  exact ⟨hE2,.refl _⟩
 simp at h8
 subst h8
 simp
 apply jA
 simp [yi.r23]
 apply jD
 simp only [suE,hx,hy]
 simp [h1,orI,h2,hg,hw,h7,show ¬6000<s.keeps.length by omega]
 exact ⟨hE2,.refl _⟩
end Go.Proofs.YthmkcebbeehbeaaGreatDoor
