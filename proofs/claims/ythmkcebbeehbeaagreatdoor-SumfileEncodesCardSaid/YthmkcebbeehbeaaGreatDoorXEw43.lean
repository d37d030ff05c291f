/- Part 43 of the proof of the laws of the queries: R26S, R26T, Sum2. -/
import Derived.Test.YthmkcebbeehbeaaGreatDoorXEw33
import Derived.Test.YthmkcebbeehbeaaGreatDoorXEw39
import Derived.Test.YthmkcebbeehbeaaGreatDoorXEw42
set_option linter.unusedSimpArgs false
set_option linter.unusedVariables false
namespace Go.Proofs.YthmkcebbeehbeaaGreatDoor
open Am C
theorem yti {α:Type} {pool:List Str} {evf:α→List Ev} {l:List α} {i:Nat} {τ:Qw} (h:i<l.length) (hb:qwB (y58 pool τ ((l.take i).flatMap evf)) ((l.drop i).flatMap evf).length):
    qwB (y58 pool τ ((l.take i).flatMap evf)) (evf l[i]).length∧y58 pool (y58 pool τ ((l.take i).flatMap evf)) (evf l[i])=y58 pool τ ((l.take (i+1)).flatMap evf)∧qwB (y58 pool τ ((l.take (i+1)).flatMap evf)) ((l.drop (i+1)).flatMap evf).length:=by
  have e1:y58 pool (y58 pool τ ((l.take i).flatMap evf)) (evf l[i])=y58 pool τ ((l.take (i+1)).flatMap evf):=by
    rw [←yhy,List.take_add_one,List.getElem?_eq_getElem h,Option.toList_some,List.flatMap_append,List.flatMap_cons,List.flatMap_nil,List.append_nil]
  have e2:(l.drop i).flatMap evf=evf l[i]++(l.drop (i+1)).flatMap evf:=by
    rw [List.drop_eq_getElem_cons h,List.flatMap_cons]
  rw [e2,List.length_append] at hb
  exact ⟨hb.le (by omega),e1,by rw [←e1];exact hb.evs⟩
theorem qwB.bs {τ:Qw} {n:Nat} (h:qwB τ n):τ.bs.length≤1000000000:=by unfold qwB at h;omega
theorem qwB.head {α:Type} {evf:α→List Ev} {l:List α} {τ:Qw} {n:Nat} (h:qwB τ ((evL evf l).length+n)) (pool:List Str):qwB (y5k τ l.length) ((l.flatMap evf).length+n):=by
  have:(evL evf l).length+n=(l.flatMap evf).length+n+1:=by simp [evL];omega
  rw [this] at h;exact h.ev pool (.num l.length)
structure QWt (B:Hp) (id:Nat) (pool:List Str) (τ:Qw) (X:Hp):Prop where
  hB:∀k blk,B.get k=some blk→k<B.next
  ext:B.Ext X
  lt:∀k blk,X.get k=some blk→k<X.next
  lo:B.next≤id
  get:X.get id=some (.cells (qwc pool τ) 4)
section
variable {B X:Hp} {pool:List Str} {id:Nat} {τ:Qw} {H:Hp}
theorem QWt.upd (Q:QWt B id pool τ X) (τ':Qw):QWt B id pool τ' (X.upd id (.cells (qwc pool τ') 4)):=
  ⟨Q.hB,Q.ext.upd Q.hB Q.lo _,Hp.upd_lt Q.lt (Q.lt _ _ Q.get) _,Q.lo,by simp⟩
theorem QWt.add (Q:QWt B id pool τ X) (b:Blk):QWt B id pool τ (X.add b)∧X.next≠id:=by
  have:=Q.lt _ _ Q.get
  exact ⟨⟨Q.hB,Q.ext.trans (.add Q.lt b),Hp.add_lt Q.lt b,Q.lo,by rw [Hp.get_add,if_neg (by omega)];exact Q.get⟩,by omega⟩
def T26Inv (id:Nat) (pool:List Str) (l:List Str) (τ:Qw) (H:Hp) (m:Nat) (F:Fr) (Y:Hp):Prop:=
  ∃i,i≤l.length∧m=l.length-i∧Y=H.upd id (.cells (qwc pool (y58 pool τ ((l.take i).flatMap evW))) 4)∧qwB (y58 pool τ ((l.take i).flatMap evW)) ((l.drop i).flatMap evW).length∧F=[(0,.p (some (id,0,4))),(1,ss l),(4,.i .i64 i)]
theorem yeu (hr:y4g pool) (hp:pool.length≤1000000000) (hg:H.get id=some (.cells (qwc pool τ) 4)) (l:List Str) (hb:qwB τ (evL evW l).length):
    AC Tryz.prog y5r [.p (some (id,0,4)),ss l] H (fun v H'=>v=.tup []∧H'=H.upd id (.cells (qwc pool (y58 pool τ (evL evW l))) 4)):=by
  have hb1:=qwB.head (n:=0) (by simpa using hb) pool
  have hll:l.length≤1000000000:=by
    have:l.length≤(l.flatMap evW).length:=yd4 evW l (fun x=>by simp [evW])
    unfold qwB at hb1;omega
  refine AC.code y20.at y20.ok ?_
  simp only [y20]
  apply jA
  simp [y20.r0,ss]
  refine AC.fix (yab hg _ hb.bs) ?_
  simp
  apply jA
  simp [y20.r1]
  refine AX.pblock (AX.loop (T26Inv id pool l (y5k τ l.length) H) l.length ⟨_,_,.refl _ _,0,by omega,by omega,by simp,by simpa using hb1,by simp [ss]⟩ ?_)
  rintro m F Y ⟨i,hi,rfl,rfl,bY,rfl⟩
  simp only [y20.l0]
  apply jB
  simp [y20.r2,ss]
  refine AX.pcond rfl (fun hd=>AX.skip ?_) (fun hd=>AX.exit ?_)
  · simp at hd
    obtain ⟨b1,b2,b3⟩:=yti hd bY
    simp
    refine AX.seq (AX.pblock (AX.reg ?_))
    simp [y20.r3,hd,ss]
    refine AC.fix (y9n hr hp (by simp) l[i] b1) ?_
    have b2':y5b pool (y58 pool (y5k τ l.length) ((l.take i).flatMap evW)) l[i]=y58 pool (y5k τ l.length) ((l.take (i+1)).flatMap evW):=b2
    rw [b2']
    simp
    apply jE
    simp [y20.r4,y5x (show i≤9223372036854775000 by omega)]
    exact ⟨l.length-(i+1),by omega,_,_,.refl _ _,i+1,by omega,rfl,rfl,b3,by simp [ss]⟩
  · simp at hd
    simp
    have:i=l.length:=by omega
    subst this
    simp [evL,yjy]
def O26Inv (B:Hp) (id:Nat) (pool:List Str) (s:Su) (τ:Qw) (m:Nat) (F:Fr) (Y:Hp):Prop:=
  ∃i,i≤s.sys.objs.length∧m=s.sys.objs.length-i∧QWt B id pool (y58 pool τ ((s.sys.objs.take i).flatMap evO)) Y∧qwB (y58 pool τ ((s.sys.objs.take i).flatMap evO)) ((s.sys.objs.drop i).flatMap evO).length∧F=[(0,.p (some (id,0,4))),(3,.fp (y5s s) 0),(4,.i .i64 i)]
def M26Inv (B:Hp) (id:Nat) (pool:List Str) (s:Su) (o:Ob) (ob j:Nat) (τ:Qw) (m:Nat) (F:Fr) (Y:Hp):Prop:=
  ∃i,i≤o.marks.length∧m=o.marks.length-i∧QWt B id pool (y58 pool τ ((o.marks.take i).flatMap evM)) Y∧ob≠id∧Y.get ob=some (.cells (y6a o) 3)∧qwB (y58 pool τ ((o.marks.take i).flatMap evM)) ((o.marks.drop i).flatMap evM).length∧F=[(0,.p (some (id,0,4))),(3,.fp (y5s s) 0),(4,.i .i64 j),(5,.p (some (ob,0,3))),(6,.i .i64 i)]
def F26Inv (B:Hp) (id:Nat) (pool:List Str) (s:Su) (τ:Qw) (m:Nat) (F:Fr) (Y:Hp):Prop:=
  ∃i,i≤s.sys.fns.length∧m=s.sys.fns.length-i∧QWt B id pool (y58 pool τ ((s.sys.fns.take i).flatMap evF)) Y∧qwB (y58 pool τ ((s.sys.fns.take i).flatMap evF)) ((s.sys.fns.drop i).flatMap evF).length∧F=[(0,.p (some (id,0,4))),(3,.fp (y5s s) 0),(7,.i .i64 i)]
def C26Inv (B:Hp) (id:Nat) (pool:List Str) (s:Su) (τ:Qw) (m:Nat) (F:Fr) (Y:Hp):Prop:=
  ∃i,i≤s.sys.cons.length∧m=s.sys.cons.length-i∧QWt B id pool (y58 pool τ ((s.sys.cons.take i).flatMap evC)) Y∧qwB (y58 pool τ ((s.sys.cons.take i).flatMap evC)) ((s.sys.cons.drop i).flatMap evC).length∧F=[(0,.p (some (id,0,4))),(3,.fp (y5s s) 0),(9,.i .i64 i)]
theorem ynt (hr:y4g pool) (hp:pool.length≤1000000000) (Q:QWt B id pool τ X) (s:Su) (hb:qwB τ (evS s).length):
    AC Tryz.prog y6n [.p (some (id,0,4)),.agg (y5s s)] X (fun v Y=>v=.tup []∧QWt B id pool (y58 pool τ (evS s)) Y):=by
  have hsz:(evS s).length=(evL evW s.gives).length+((evL evW s.wants).length+((evL evW s.keeps).length+((evL evO s.sys.objs).length+((evL evF s.sys.fns).length+(evL evC s.sys.cons).length))))+1:=by simp [evS]
  rw [hsz] at hb
  have b1:=hb.ev pool (.txt s.name)
  have b2:=b1.evs (pool:=pool)
  have b3:=b2.evs (pool:=pool)
  have b4:=b3.evs (pool:=pool)
  have lo:s.sys.objs.length≤(s.sys.objs.flatMap evO).length:=yd4 evO s.sys.objs (fun x=>by simp [evO])
  have lf:s.sys.fns.length≤(s.sys.fns.flatMap evF).length:=yd4 evF s.sys.fns (fun x=>by simp [evF])
  have lc:s.sys.cons.length≤(s.sys.cons.flatMap evC).length:=yd4 evC s.sys.cons (fun x=>by simp [evC])
  have hev:y58 pool τ (evS s)=y58 pool (y58 pool (y58 pool (y58 pool (y58 pool (y58 pool (y5b pool τ s.name) (evL evW s.gives)) (evL evW s.wants)) (evL evW s.keeps)) (evL evO s.sys.objs)) (evL evF s.sys.fns)) (evL evC s.sys.cons):=by
    simp only [evS,yak,yhy,yjy]
  rw [hev]
  simp only [yjy] at b1 b2 b3 b4
  refine AC.code y0.at y0.ok ?_
  simp only [y0]
  apply jA
  simp [y0.r0,y5s]
  apply jA
  simp [y0.r1]
  refine AC.fix (y9n hr hp Q.get s.name (hb.le (by omega))) ?_
  have Q1:=Q.upd (y5b pool τ s.name)
  generalize X.upd id (.cells (qwc pool (y5b pool τ s.name)) 4)=X1 at *
  generalize y5b pool τ s.name=τ1 at *
  simp
  apply jA
  simp [y0.r2]
  refine AC.fix (yeu hr hp Q1.get s.gives (b1.le (by omega))) ?_
  have Q2:=Q1.upd (y58 pool τ1 (evL evW s.gives))
  generalize X1.upd id (.cells (qwc pool (y58 pool τ1 (evL evW s.gives))) 4)=X2 at *
  generalize y58 pool τ1 (evL evW s.gives)=τ2 at *
  simp
  apply jA
  simp [y0.r3]
  refine AC.fix (yeu hr hp Q2.get s.wants (b2.le (by omega))) ?_
  have Q3:=Q2.upd (y58 pool τ2 (evL evW s.wants))
  generalize X2.upd id (.cells (qwc pool (y58 pool τ2 (evL evW s.wants))) 4)=X3 at *
  generalize y58 pool τ2 (evL evW s.wants)=τ3 at *
  simp
  apply jA
  simp [y0.r4]
  refine AC.fix (yeu hr hp Q3.get s.keeps (b3.le (by omega))) ?_
  have Q4:=Q3.upd (y58 pool τ3 (evL evW s.keeps))
  generalize X3.upd id (.cells (qwc pool (y58 pool τ3 (evL evW s.keeps))) 4)=X4 at *
  generalize y58 pool τ3 (evL evW s.keeps)=τ4 at *
  have b5:=b4.evs (pool:=pool)
  have b6:=b5.evs (pool:=pool)
  have c4:=qwB.head b4 pool
  have d4:qwB (y5k τ4 s.sys.objs.length) (s.sys.objs.flatMap evO).length:=c4.le (by omega)
  have e4:y58 pool (y5k τ4 s.sys.objs.length) (s.sys.objs.flatMap evO)=y58 pool τ4 (evL evO s.sys.objs):=rfl
  rw [←e4] at b5 b6 ⊢
  have big:=d4.2
  simp
  apply jA
  simp [y0.r5]
  refine AC.fix (yab Q4.get s.sys.objs.length b4.bs) ?_
  have Q5:=Q4.upd (y5k τ4 s.sys.objs.length)
  generalize X4.upd id (.cells (qwc pool (y5k τ4 s.sys.objs.length)) 4)=X5 at *
  generalize y5k τ4 s.sys.objs.length=τ5 at *
  simp
  apply jB
  simp [y0.r6]
  refine AX.pblock (AX.loop (O26Inv B id pool s τ5) s.sys.objs.length ⟨_,_,.refl _ _,0,by omega,by omega,by simpa using Q5,by simpa using d4,by simp [y5s]⟩ ?_)
  rintro m F Y ⟨i,hi,rfl,QY,bY,rfl⟩
  simp only [y0.l0]
  apply jB
  simp [y0.r7,y5s]
  refine AX.pcond rfl (fun hd=>AX.skip ?_) (fun hd=>AX.exit ?_)
  · simp at hd
    obtain ⟨g1,g2,g3⟩:=yti hd bY
    generalize hτ:y58 pool τ5 ((s.sys.objs.take i).flatMap evO)=τi at *
    obtain ⟨QA,hne⟩:=QY.add (.cells (y6a s.sys.objs[i]) 3)
    have hup:(Y.add (.cells [.s [],.s [],.sl none 0 0] 3)).upd Y.next (.cells (y6a s.sys.objs[i]) 3)=Y.add (.cells (y6a s.sys.objs[i]) 3):=by
      refine Hp.ext' (fun j=>?_) rfl
      simp only [Hp.get_upd,Hp.get_add]
      split <;> rfl
    have hgo:(Y.add (.cells (y6a s.sys.objs[i]) 3)).get Y.next=some (.cells (y6a s.sys.objs[i]) 3):=by simp
    simp
    apply jC
    simp only [y6a] at hup
    simp [y0.r8,y5s,hd,y6a,hup]
    change AX _ _ _ _ _ (Y.add (.cells (y6a s.sys.objs[i]) 3))
    generalize Y.add (.cells (y6a s.sys.objs[i]) 3)=Y1 at *
    generalize Y.next=ob at *
    generalize s.sys.objs[i]=o at *
    have h0:qwB τi ((evL evM o.marks).length+1+1):=g1
    have h1:=h0.ev pool (.txt o.name)
    have h2:=h1.ev pool (.txt o.kinds)
    apply jA
    simp [y0.r9,hgo,y6a]
    refine AC.fix (y9n hr hp QA.get o.name (h0.le (by omega))) ?_
    have QB:=QA.upd (y5b pool τi o.name)
    have hgb:(Y1.upd id (.cells (qwc pool (y5b pool τi o.name)) 4)).get ob=some (.cells (y6a o) 3):=by simp [hne,hgo]
    generalize Y1.upd id (.cells (qwc pool (y5b pool τi o.name)) 4)=Y2 at *
    simp
    apply jA
    simp [y0.r10,hgb,y6a]
    refine AC.fix (y9n hr hp QB.get o.kinds (h1.le (by omega))) ?_
    have QC:=QB.upd (y5b pool (y5b pool τi o.name) o.kinds)
    have hgc:(Y2.upd id (.cells (qwc pool (y5b pool (y5b pool τi o.name) o.kinds)) 4)).get ob=some (.cells (y6a o) 3):=by simp [hne,hgb]
    generalize Y2.upd id (.cells (qwc pool (y5b pool (y5b pool τi o.name) o.kinds)) 4)=Y3 at *
    simp
    apply jA
    simp [y0.r11,hgc,y6a]
    refine AC.fix (yab QC.get o.marks.length h2.bs) ?_
    have QD:=QC.upd (y5k (y5b pool (y5b pool τi o.name) o.kinds) o.marks.length)
    have hgd:(Y3.upd id (.cells (qwc pool (y5k (y5b pool (y5b pool τi o.name) o.kinds) o.marks.length)) 4)).get ob=some (.cells (y6a o) 3):=by simp [hne,hgc]
    generalize Y3.upd id (.cells (qwc pool (y5k (y5b pool (y5b pool τi o.name) o.kinds) o.marks.length)) 4)=Y4 at *
    have h3:=qwB.head (n:=0) (by simpa [yjy] using h2) pool
    have hml:o.marks.length≤1000000000:=by
      have:o.marks.length≤(o.marks.flatMap evM).length:=yd4 evM o.marks (fun x=>by simp [evM])
      unfold qwB at h3;omega
    have h5:y58 pool (y5k (y5b pool (y5b pool τi o.name) o.kinds) o.marks.length) (o.marks.flatMap evM)=y58 pool τi (evO o):=rfl
    generalize y5k (y5b pool (y5b pool τi o.name) o.kinds) o.marks.length=τm at *
    simp
    apply jA
    simp [y0.r12]
    refine AX.pblock (AX.loop (M26Inv B id pool s o ob i τm) o.marks.length ⟨_,_,.refl _ _,0,by omega,by omega,by simpa using QD,hne,hgd,by simpa using h3,by simp [y5s]⟩ ?_)
    rintro m F Z ⟨k,hk,rfl,QZ,hne,hgz,bZ,rfl⟩
    simp only [y0.l1]
    apply jB
    simp [y0.r13,hgz,y6a]
    refine AX.pcond rfl (fun hd2=>AX.skip ?_) (fun hd2=>AX.exit ?_)
    · simp at hd2
      obtain ⟨p1,p2,p3⟩:=yti hd2 bZ
      generalize y58 pool τm ((o.marks.take k).flatMap evM)=τk at *
      have p0:qwB τk (1+1):=p1
      have p4:=p0.ev pool (.num o.marks[k].pos)
      simp
      apply jC
      simp [y0.r14,hgz,y6a,hd2,ybu]
      refine AC.fix (yab QZ.get o.marks[k].pos p0.bs) ?_
      have QE:=QZ.upd (y5k τk o.marks[k].pos)
      have hge:(Z.upd id (.cells (qwc pool (y5k τk o.marks[k].pos)) 4)).get ob=some (.cells (y6a o) 3):=by simp [hne,hgz]
      generalize Z.upd id (.cells (qwc pool (y5k τk o.marks[k].pos)) 4)=Z1 at *
      simp
      apply jE
      simp [y0.r15,hge,y6a,hd2,ybu]
      refine AC.fix (y9n hr hp QE.get o.marks[k].tag p4) ?_
      have QF:=QE.upd (y5b pool (y5k τk o.marks[k].pos) o.marks[k].tag)
      have hgf:(Z1.upd id (.cells (qwc pool (y5b pool (y5k τk o.marks[k].pos) o.marks[k].tag)) 4)).get ob=some (.cells (y6a o) 3):=by simp [hne,hge]
      generalize Z1.upd id (.cells (qwc pool (y5b pool (y5k τk o.marks[k].pos) o.marks[k].tag)) 4)=Z2 at *
      have p5:y5b pool (y5k τk o.marks[k].pos) o.marks[k].tag=y58 pool τm ((o.marks.take (k+1)).flatMap evM):=p2
      rw [p5] at QF
      simp
      apply jE
      simp [y0.r16,y5x (show k≤9223372036854775000 by omega)]
      exact ⟨o.marks.length-(k+1),by omega,_,_,.refl _ _,k+1,by omega,rfl,QF,hne,hgf,p3,by simp [y5s]⟩
    · simp at hd2
      have:k=o.marks.length:=by omega
      subst this
      simp at QZ
      rw [h5,g2] at QZ
      simp
      apply jE
      simp [y0.r17,y5x (show i≤9223372036854775000 by omega)]
      exact ⟨s.sys.objs.length-(i+1),by omega,_,_,.refl _ _,i+1,by omega,rfl,QZ,g3,by simp [y5s]⟩
  simp at hd
  have:i=s.sys.objs.length:=by omega
  subst this
  simp at QY
  clear bY
  simp
  have c5:=qwB.head b5 pool
  have d5:qwB (y5k (y58 pool τ5 (s.sys.objs.flatMap evO)) s.sys.fns.length) (s.sys.fns.flatMap evF).length:=c5.le (by omega)
  have e5:y58 pool (y5k (y58 pool τ5 (s.sys.objs.flatMap evO)) s.sys.fns.length) (s.sys.fns.flatMap evF)=y58 pool (y58 pool τ5 (s.sys.objs.flatMap evO)) (evL evF s.sys.fns):=rfl
  rw [←e5] at b6 ⊢
  have big5:=d5.2
  apply jA
  simp [y0.r18]
  refine AC.fix (yab QY.get s.sys.fns.length b5.bs) ?_
  have Q6:=QY.upd (y5k (y58 pool τ5 (s.sys.objs.flatMap evO)) s.sys.fns.length)
  generalize Y.upd id (.cells (qwc pool (y5k (y58 pool τ5 (s.sys.objs.flatMap evO)) s.sys.fns.length)) 4)=X6 at *
  generalize y5k (y58 pool τ5 (s.sys.objs.flatMap evO)) s.sys.fns.length=τ6 at *
  simp
  apply jB
  simp [y0.r19]
  refine AX.pblock (AX.loop (F26Inv B id pool s τ6) s.sys.fns.length ⟨_,_,.refl _ _,0,by omega,by omega,by simpa using Q6,by simpa using d5,by simp [y5s]⟩ ?_)
  rintro m F Z ⟨i,hi,rfl,QZ,bZ,rfl⟩
  simp only [y0.l2]
  apply jB
  simp [y0.r20,y5s]
  refine AX.pcond rfl (fun hd=>AX.skip ?_) (fun hd=>AX.exit ?_)
  · simp at hd
    obtain ⟨g1,g2,g3⟩:=yti hd bZ
    generalize hτ:y58 pool τ6 ((s.sys.fns.take i).flatMap evF)=τi at *
    obtain ⟨QA,hne⟩:=QZ.add (.cells (yaa s.sys.fns[i]) 3)
    have hup:(Z.add (.cells [.s [],.s [],.s []] 3)).upd Z.next (.cells (yaa s.sys.fns[i]) 3)=Z.add (.cells (yaa s.sys.fns[i]) 3):=by
      refine Hp.ext' (fun j=>?_) rfl
      simp only [Hp.get_upd,Hp.get_add]
      split <;> rfl
    have hgo:(Z.add (.cells (yaa s.sys.fns[i]) 3)).get Z.next=some (.cells (yaa s.sys.fns[i]) 3):=by simp
    simp
    apply jC
    simp only [yaa] at hup
    simp [y0.r21,y5s,hd,yaa,hup]
    change AX _ _ _ _ _ (Z.add (.cells (yaa s.sys.fns[i]) 3))
    generalize Z.add (.cells (yaa s.sys.fns[i]) 3)=Y1 at *
    generalize Z.next=ob at *
    generalize s.sys.fns[i]=o at *
    have h0:qwB τi (1+1+1):=g1
    have h1:=h0.ev pool (.txt o.name)
    have h2:=h1.ev pool (.txt o.kinds)
    apply jA
    simp [y0.r22,hgo,yaa]
    refine AC.fix (y9n hr hp QA.get o.name (h0.le (by omega))) ?_
    have QB:=QA.upd (y5b pool τi o.name)
    have hgb:(Y1.upd id (.cells (qwc pool (y5b pool τi o.name)) 4)).get ob=some (.cells (yaa o) 3):=by simp [hne,hgo]
    generalize Y1.upd id (.cells (qwc pool (y5b pool τi o.name)) 4)=Y2 at *
    simp
    apply jA
    simp [y0.r23,hgb,yaa]
    refine AC.fix (y9n hr hp QB.get o.kinds (h1.le (by omega))) ?_
    have QC:=QB.upd (y5b pool (y5b pool τi o.name) o.kinds)
    have hgc:(Y2.upd id (.cells (qwc pool (y5b pool (y5b pool τi o.name) o.kinds)) 4)).get ob=some (.cells (yaa o) 3):=by simp [hne,hgb]
    generalize Y2.upd id (.cells (qwc pool (y5b pool (y5b pool τi o.name) o.kinds)) 4)=Y3 at *
    simp
    apply jE
    simp [y0.r24,hgc,yaa]
    refine AC.fix (y9n hr hp QC.get o.ret h2) ?_
    have QD:=QC.upd (y5b pool (y5b pool (y5b pool τi o.name) o.kinds) o.ret)
    generalize Y3.upd id (.cells (qwc pool (y5b pool (y5b pool (y5b pool τi o.name) o.kinds) o.ret)) 4)=Y4 at *
    have g4:y5b pool (y5b pool (y5b pool τi o.name) o.kinds) o.ret=y58 pool τ6 ((s.sys.fns.take (i+1)).flatMap evF):=g2
    rw [g4] at QD
    simp
    apply jE
    simp [y0.r25,y5x (show i≤9223372036854775000 by omega)]
    exact ⟨s.sys.fns.length-(i+1),by omega,_,_,.refl _ _,i+1,by omega,rfl,QD,g3,by simp [y5s]⟩
  simp at hd
  have:i=s.sys.fns.length:=by omega
  subst this
  simp at QZ
  clear bZ
  simp
  have c6:=qwB.head (n:=0) (by simpa using b6) pool
  have d6:qwB (y5k (y58 pool τ6 (s.sys.fns.flatMap evF)) s.sys.cons.length) (s.sys.cons.flatMap evC).length:=c6.le (by omega)
  have e6:y58 pool (y5k (y58 pool τ6 (s.sys.fns.flatMap evF)) s.sys.cons.length) (s.sys.cons.flatMap evC)=y58 pool (y58 pool τ6 (s.sys.fns.flatMap evF)) (evL evC s.sys.cons):=rfl
  rw [←e6]
  have big6:=d6.2
  apply jA
  simp [y0.r26]
  refine AC.fix (yab QZ.get s.sys.cons.length b6.bs) ?_
  have Q7:=QZ.upd (y5k (y58 pool τ6 (s.sys.fns.flatMap evF)) s.sys.cons.length)
  generalize Z.upd id (.cells (qwc pool (y5k (y58 pool τ6 (s.sys.fns.flatMap evF)) s.sys.cons.length)) 4)=X7 at *
  generalize y5k (y58 pool τ6 (s.sys.fns.flatMap evF)) s.sys.cons.length=τ7 at *
  simp
  apply jA
  simp [y0.r27]
  refine AX.pblock (AX.loop (C26Inv B id pool s τ7) s.sys.cons.length ⟨_,_,.refl _ _,0,by omega,by omega,by simpa using Q7,by simpa using d6,by simp [y5s]⟩ ?_)
  rintro m F W ⟨i,hi,rfl,QW,bW,rfl⟩
  simp only [y0.l3]
  apply jB
  simp [y0.r28,y5s]
  refine AX.pcond rfl (fun hd=>AX.skip ?_) (fun hd=>AX.exit ?_)
  · simp at hd
    obtain ⟨g1,g2,g3⟩:=yti hd bW
    generalize hτ:y58 pool τ7 ((s.sys.cons.take i).flatMap evC)=τi at *
    obtain ⟨QA,hne⟩:=QW.add (.cells (y64 s.sys.cons[i]) 6)
    have hup:(W.add (.cells [.i .i64 0,.s [],.s [],.i .i64 0,.s [],.sl none 0 0] 6)).upd W.next (.cells (y64 s.sys.cons[i]) 6)=W.add (.cells (y64 s.sys.cons[i]) 6):=by
      refine Hp.ext' (fun j=>?_) rfl
      simp only [Hp.get_upd,Hp.get_add]
      split <;> rfl
    have hgo:(W.add (.cells (y64 s.sys.cons[i]) 6)).get W.next=some (.cells (y64 s.sys.cons[i]) 6):=by simp
    simp
    apply jC
    simp only [y64,ss] at hup
    simp [y0.r29,y5s,hd,y64,hup,ss]
    change AX _ _ _ _ _ (W.add (.cells (y64 s.sys.cons[i]) 6))
    generalize W.add (.cells (y64 s.sys.cons[i]) 6)=Y1 at *
    generalize W.next=ob at *
    generalize s.sys.cons[i]=o at *
    have h0:qwB τi ((evL evW o.args).length+1+1+1+1+1):=g1
    have h1:=h0.ev pool (.num o.op)
    have h2:=h1.ev pool (.txt o.a)
    have h3:=h2.ev pool (.txt o.b)
    have h4:=h3.ev pool (.num o.k)
    have h5:=h4.ev pool (.txt o.tag)
    apply jA
    simp [y0.r30,hgo,y64]
    refine AC.fix (yab QA.get o.op h0.bs) ?_
    have QB:=QA.upd (y5k τi o.op)
    have hgb:(Y1.upd id (.cells (qwc pool (y5k τi o.op)) 4)).get ob=some (.cells (y64 o) 6):=by simp [hne,hgo]
    generalize Y1.upd id (.cells (qwc pool (y5k τi o.op)) 4)=Y2 at *
    simp
    apply jA
    simp [y0.r31,hgb,y64]
    refine AC.fix (y9n hr hp QB.get o.a (h1.le (by omega))) ?_
    have QC:=QB.upd (y5b pool (y5k τi o.op) o.a)
    have hgc:(Y2.upd id (.cells (qwc pool (y5b pool (y5k τi o.op) o.a)) 4)).get ob=some (.cells (y64 o) 6):=by simp [hne,hgb]
    generalize Y2.upd id (.cells (qwc pool (y5b pool (y5k τi o.op) o.a)) 4)=Y3 at *
    simp
    apply jA
    simp [y0.r32,hgc,y64]
    refine AC.fix (y9n hr hp QC.get o.b (h2.le (by omega))) ?_
    have QD:=QC.upd (y5b pool (y5b pool (y5k τi o.op) o.a) o.b)
    have hgd:(Y3.upd id (.cells (qwc pool (y5b pool (y5b pool (y5k τi o.op) o.a) o.b)) 4)).get ob=some (.cells (y64 o) 6):=by simp [hne,hgc]
    generalize Y3.upd id (.cells (qwc pool (y5b pool (y5b pool (y5k τi o.op) o.a) o.b)) 4)=Y4 at *
    simp
    apply jA
    simp [y0.r33,hgd,y64]
    refine AC.fix (yab QD.get o.k h3.bs) ?_
    have QE:=QD.upd (y5k (y5b pool (y5b pool (y5k τi o.op) o.a) o.b) o.k)
    have hge:(Y4.upd id (.cells (qwc pool (y5k (y5b pool (y5b pool (y5k τi o.op) o.a) o.b) o.k)) 4)).get ob=some (.cells (y64 o) 6):=by simp [hne,hgd]
    generalize Y4.upd id (.cells (qwc pool (y5k (y5b pool (y5b pool (y5k τi o.op) o.a) o.b) o.k)) 4)=Y5 at *
    simp
    apply jA
    simp [y0.r34,hge,y64]
    refine AC.fix (y9n hr hp QE.get o.tag (h4.le (by omega))) ?_
    have QF:=QE.upd (y5b pool (y5k (y5b pool (y5b pool (y5k τi o.op) o.a) o.b) o.k) o.tag)
    have hgf:(Y5.upd id (.cells (qwc pool (y5b pool (y5k (y5b pool (y5b pool (y5k τi o.op) o.a) o.b) o.k) o.tag)) 4)).get ob=some (.cells (y64 o) 6):=by simp [hne,hge]
    generalize Y5.upd id (.cells (qwc pool (y5b pool (y5k (y5b pool (y5b pool (y5k τi o.op) o.a) o.b) o.k) o.tag)) 4)=Y6 at *
    simp
    apply jE
    simp [y0.r35,hgf,y64]
    refine AC.fix (yeu hr hp QF.get o.args h5) ?_
    have QG:=QF.upd (y58 pool (y5b pool (y5k (y5b pool (y5b pool (y5k τi o.op) o.a) o.b) o.k) o.tag) (evL evW o.args))
    generalize Y6.upd id (.cells (qwc pool (y58 pool (y5b pool (y5k (y5b pool (y5b pool (y5k τi o.op) o.a) o.b) o.k) o.tag) (evL evW o.args))) 4)=Y7 at *
    have g4:y58 pool (y5b pool (y5k (y5b pool (y5b pool (y5k τi o.op) o.a) o.b) o.k) o.tag) (evL evW o.args)=y58 pool τ7 ((s.sys.cons.take (i+1)).flatMap evC):=g2
    rw [g4] at QG
    simp
    apply jE
    simp [y0.r36,y5x (show i≤9223372036854775000 by omega)]
    exact ⟨s.sys.cons.length-(i+1),by omega,_,_,.refl _ _,i+1,by omega,rfl,QG,g3,by simp [y5s,ss]⟩
  · simp at hd
    have:i=s.sys.cons.length:=by omega
    subst this
    simp at QW
    simp
    exact QW
end
theorem ym1 (s:Su) (hb:(evS s).length≤1000000) (H:Hp):AC Tryz.prog yb9 [.agg (y5s s)] H (fun v H'=>v=ss (y3r s)∧H'=H):=by
  refine AC.codeP y3n.at y3n.ok (yd3 _) fun hlt=>?_
  simp only [y3n]
  apply jA
  simp [y3n.r0,y5s]
  apply jA
  simp [y3n.r1]
  have Q0:QWt H H.next [] qw0 (H.add (.cells [.fs [],.s [],.fs [],.i .i64 0] 4)):=⟨hlt,.add hlt _,Hp.add_lt hlt _,Nat.le_refl _,by simp [qwc,qw0,ss]⟩
  generalize H.add (.cells [.fs [],.s [],.fs [],.i .i64 0] 4)=X0 at *
  apply jA
  simp [y3n.r2]
  have hrun:=ynt (pool:=[]) (by simp [y4g]) (by simp) Q0 s (by unfold qwB;simp [qw0];omega)
  simp only [y5s] at hrun
  refine hrun.mono ?_
  rintro _ Y ⟨rfl,Q⟩
  have hg:=Q.get
  simp only [qwc] at hg
  simp
  apply jA
  simp [y3n.r3,hg]
  apply jD
  simp [ytg]
  exact ⟨Q.ext,.refl _⟩
theorem ym2 (pool:List Str) (hr:y4g pool) (hl:pool.length≤1000000000) (s:Su) (hb:(evS s).length≤1000000) (H:Hp):
    AC Tryz.prog yba [ss pool,.agg (y5s s)] H (fun v H'=>v=.tup [.s (yiw pool s).1,.i .i64 (yiw pool s).2]∧H'=H):=by
  refine AC.codeP y2y.at y2y.ok (ydj (by simp)) fun hlt=>?_
  simp only [y2y]
  apply jA
  simp [y2y.r0,y5s]
  apply jA
  simp [y2y.r1,ss]
  have Q0:QWt H H.next pool qw0 (H.add (.cells [.fs (pool.map fun x=>[.s x]),.s [],.fs [],.i .i64 0] 4)):=⟨hlt,.add hlt _,Hp.add_lt hlt _,Nat.le_refl _,by simp [qwc,qw0,ss]⟩
  generalize H.add (.cells [.fs (pool.map fun x=>[.s x]),.s [],.fs [],.i .i64 0] 4)=X0 at *
  apply jA
  simp [y2y.r2]
  have hrun:=ynt hr hl Q0 s (by unfold qwB;simp [qw0];omega)
  simp only [y5s,ss] at hrun
  refine hrun.mono ?_
  rintro _ Y ⟨rfl,Q⟩
  have hg:=Q.get
  simp only [qwc] at hg
  simp
  unfold yiw
  generalize y58 pool qw0 (evS s)=τ at *
  apply jB
  simp [y2y.r3,hg]
  by_cases ht:τ.e=0
  · refine jF (by simp [ht]) (AX.skip ?_)
    simp
    apply jA
    simp [y2y.r5,hg]
    apply jD
    simp [ht]
    exact ⟨Q.ext,.refl _⟩
  · refine jG (by simp [ht]) ?_
    refine AX.seq (AX.drw ?_)
    simp [y2y.r4,hg]
    apply jD
    simp [ht]
    exact ⟨Q.ext,.refl _⟩
theorem yvc {α:Type} (p:α→Bool) (l:List α):(l.any fun x=>!p x)=!l.all p:=by
  induction l with
  | nil=>rfl
  | cons x r ih=>simp [ih,Bool.not_and]
def SckInv (s:Su) (id k:Nat) (X:Hp) (m:Nat) (F:Fr) (Y:Hp):Prop:=
  ∃i,i≤2∧m=2-i∧(0<i→yhd s.sys s.gives=0)∧(1<i→yhd s.sys s.wants=0)∧Y=X∧F=[(1,.p (some (id,0,7))),(4,.p (some (k,0,1))),(22,.fs [[ss s.gives],[ss s.wants]]),(23,.i .i64 2),(24,.i .i64 i)]
theorem yjo (s:Su) (hs:suS s) (H:Hp):AC Tryz.prog yaw [.agg (y5s s)] H (fun v H'=>v=.i .i64 (suE s)∧H'=H):=by
  have hs':=hs
  obtain ⟨q1,q2,q3,q4,q5,q6⟩:=hs'
  refine AC.codeP yg.at yg.ok (yjf _ _) fun hlt=>?_
  simp only [yg]
  apply jA
  simp [yg.r0,y5s]
  have hb:(H.add (.cells [.s s.name,ss s.gives,ss s.wants,ss s.keeps,.fs (s.sys.objs.map y6a),.fs (s.sys.fns.map yaa),.fs (s.sys.cons.map y64)] 7)).get H.next=some (.cells (y5s s) 7):=by simp [y5s]
  have hE:=Hp.Ext.add hlt (.cells [.s s.name,ss s.gives,ss s.wants,ss s.keeps,.fs (s.sys.objs.map y6a),.fs (s.sys.fns.map yaa),.fs (s.sys.cons.map y64)] 7)
  have hL:=Hp.add_lt hlt (.cells [.s s.name,ss s.gives,ss s.wants,ss s.keeps,.fs (s.sys.objs.map y6a),.fs (s.sys.fns.map yaa),.fs (s.sys.cons.map y64)] 7)
  generalize H.add (.cells [.s s.name,ss s.gives,ss s.wants,ss s.keeps,.fs (s.sys.objs.map y6a),.fs (s.sys.fns.map yaa),.fs (s.sys.cons.map y64)] 7)=X at *
  generalize H.next=id at *
  apply jB
  simp [yg.r1,hb,y5s]
  refine AC.fix (yhb s.name (by omega) _) ?_
  simp
  refine AX.pcond rfl (fun h1=>?_) (fun h1=>AX.skip ?_)
  · simp at h1
    apply jA
    simp [yg.r2]
    apply jD
    simp [suE,h1]
    exact ⟨hE,.refl _⟩
  simp at h1
  simp
  apply jB
  simp [yg.r3,hb,y5s]
  refine AC.fix (yvm s.sys q6 _) ?_
  simp
  apply jA
  simp [yg.r4]
  refine AX.pcond rfl (fun h2=>?_) (fun h2=>AX.skip ?_)
  · simp at h2
    apply jA
    simp [yg.r5]
    apply jD
    simp [suE,h1,orI,h2]
    exact ⟨hE,.refl _⟩
  simp at h2
  simp
  apply jA
  simp [yg.r6]
  have hE2:=hE.trans (yey hL (.cells [.nf] 1) (.cells [.fn y5n [.p (some (id,0,7))]] 1))
  have hL2:=lt2 hL (.cells [.nf] 1) (.cells [.fn y5n [.p (some (id,0,7))]] 1)
  have hk:((X.add (.cells [.nf] 1)).upd X.next (.cells [.fn y5n [.p (some (id,0,7))]] 1)).get X.next=some (.cells [.fn y5n [.p (some (id,0,7))]] 1):=by simp
  have hb2:((X.add (.cells [.nf] 1)).upd X.next (.cells [.fn y5n [.p (some (id,0,7))]] 1)).get id=some (.cells (y5s s) 7):=by
    have:=hL _ _ hb
    simp [show id≠X.next by omega,hb]
  generalize (X.add (.cells [.nf] 1)).upd X.next (.cells [.fn y5n [.p (some (id,0,7))]] 1)=Y at *
  generalize X.next=k at *
  apply jB
  simp [yg.r7,hb2,y5s,ydc,show List.range 2=[0,1] from rfl]
  refine AX.pblock (AX.loop (SckInv s id k Y) 2 ⟨_,_,.refl _ _,0,by omega,by omega,by simp,by simp,rfl,rfl⟩ ?_)
  rintro m F Z ⟨i,hi,rfl,hg,hw,rfl,rfl⟩
  simp only [yg.l0]
  apply jA
  simp [yg.r8]
  refine AX.seq (AX.pcond rfl (fun hd=>AX.skip ?_) (fun hd=>AX.exit ?_))
  · simp at hd
    obtain ⟨l,hl,hll,hle⟩:∃l:List Str,[[ss s.gives],[ss s.wants]][i]?=some [ss l]∧l.length≤140737488355328∧(yhd s.sys l≠0→suE s=yhd s.sys l)∧(yhd s.sys l=0→(0<i+1→yhd s.sys s.gives=0)∧(1<i+1→yhd s.sys s.wants=0)):=by
      match i,hd with
      | 0,_=>exact ⟨s.gives,rfl,q2,fun h=>by simp [suE,h1,orI,h2,h],fun h=>⟨fun _=>h,fun h=>by omega⟩⟩
      | 1,_=>exact ⟨s.wants,rfl,q3,fun h=>by simp [suE,h1,orI,h2,h,hg (by omega)],fun h=>⟨fun _=>hg (by omega),fun _=>h⟩⟩
    simp
    apply jC
    simp [yg.r9,hl]
    refine AX.pblock (jA ?_)
    simp [yg.r10]
    refine AC.fix (ypx l (by omega) _) ?_
    simp
    refine AX.pcond rfl (fun h3=>?_) (fun h3=>?_)
    · simp at h3
      apply jA
      simp [yg.r11]
      apply jD
      have:yhd s.sys l=13:=by simp [yhd,h3]
      simp [hle.1 (by rw [this];decide),this]
      exact ⟨hE2,.refl _⟩
    simp at h3
    have hcon:=yd7 l y9t [.p (some (k,0,1))] (fun n=>!ygs s.sys n) (by omega) Z fun n _=>ck2_ok s hs n id k Z hb2 hk
    rw [yvc] at hcon
    apply jA
    simp [yg.r12]
    refine AC.fix hcon ?_
    simp
    refine AX.pcond rfl (fun h4=>?_) (fun h4=>AX.skip ?_)
    · simp only [Bool.not_eq_true'] at h4
      apply jA
      simp [yg.r13]
      apply jD
      have:yhd s.sys l=7:=by simp only [yhd,h3,h4];rfl
      simp [hle.1 (by rw [this];decide),this]
      exact ⟨hE2,.refl _⟩
    simp only [Bool.not_eq_false'] at h4
    have h0:yhd s.sys l=0:=by simp only [yhd,h3,h4];rfl
    obtain ⟨n1,n2⟩:=hle.2 h0
    simp
    apply jE
    simp [yg.r14,y5x (i:=i) (by omega)]
    exact ⟨2-(i+1),by omega,_,_,.refl _ _,i+1,by omega,rfl,n1,n2,rfl,by simp⟩
  simp at hd
  have hg:=hg (by omega)
  have hw:=hw (by omega)
  simp
  apply jC
  have hcon:=yd7 s.gives y9s [.p (some (id,0,7))] (fun n=>decide (n∈s.wants)) (by omega) Z fun n _=>ck3_ok s hs n id Z hb2
  simp [yg.r15,hb2,y5s]
  refine AC.fix hcon ?_
  generalize hx:(s.gives.any fun n=>decide (n∈s.wants))=x
  simp
  refine AX.pcond rfl (fun h5=>?_) (fun h5=>?_)
  · subst h5
    apply jA
    simp [yg.r16]
    apply jD
    simp only [suE,hx]
    simp [h1,orI,h2,hg,hw]
    exact ⟨hE2,.refl _⟩
  subst h5
  apply jA
  simp [yg.r17,hb2,y5s,ss]
  refine AX.pcond rfl (fun h6=>?_) (fun h6=>?_)
  · simp at h6
    apply jA
    simp [yg.r18]
    apply jD
    simp only [suE,hx]
    simp [h1,orI,h2,hg,hw,h6]
    exact ⟨hE2,.refl _⟩
  simp at h6
  apply jA
  simp [yg.r19,hb2,y5s]
  refine AC.fix (ypx s.keeps (by omega) _) ?_
  simp
  refine AX.pcond rfl (fun h7=>?_) (fun h7=>?_)
  · simp at h7
    apply jA
    simp [yg.r20]
    apply jD
    simp only [suE,hx]
    simp [h1,orI,h2,hg,hw,h7,show ¬6000<s.keeps.length by omega]
    exact ⟨hE2,.refl _⟩
  simp at h7
  have hcon2:=yd7 s.keeps ybl [] (fun n=>!ya6 n) (by omega) Z fun n hn=>ck4_ok n (by have:=q5 n hn;omega) Z
  rw [yvc] at hcon2
  apply jA
  simp [yg.r21,hb2,y5s]
  refine AC.fix hcon2 ?_
  generalize hy:s.keeps.all ya6=y
  simp
  refine AX.pcond rfl (fun h8=>?_) (fun h8=>AX.skip ?_)
  · simp at h8
    subst h8
    apply jA
    simp [yg.r22]
    apply jD
    simp only [suE,hx,hy]
    simp [h1,orI,h2,hg,hw,h7,show ¬6000<s.keeps.length by omega]
    exact ⟨hE2,.refl _⟩
  simp at h8
  subst h8
  simp
  apply jA
  simp [yg.r23]
  apply jD
  simp only [suE,hx,hy]
  simp [h1,orI,h2,hg,hw,h7,show ¬6000<s.keeps.length by omega]
  exact ⟨hE2,.refl _⟩
end Go.Proofs.YthmkcebbeehbeaaGreatDoor
