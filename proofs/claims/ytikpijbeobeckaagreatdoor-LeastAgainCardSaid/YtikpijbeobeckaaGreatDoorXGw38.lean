/- Part 38. -/
import Derived.Test.YtikpijbeobeckaaGreatDoorXGw33
import Derived.Test.YtikpijbeobeckaaGreatDoorXGw35
import Derived.Test.YtikpijbeobeckaaGreatDoorXGw37
set_option linter.unusedSimpArgs false
set_option linter.unusedVariables false
namespace Go.Proofs.YtikpijbeobeckaaGreatDoor
open Am C
theorem RkAd.refl {s:Sy} {id:Nat} {L:RkL} {m:Bool} {H:Hp} (R:RkOk s id L m H):RkAd s id L m H L m H fun _ _=>False:=
 ⟨R,.refl _ _,fun n p=>by simp,by simp,fun y hy=>.inl hy⟩
theorem RkAd.trans {s:Sy} {id:Nat} {L L1 L2:RkL} {m m1 m2:Bool} {H H1 H2:Hp} {q1 q2:Rel} (h:RkAd s id L m H L1 m1 H1 q1) (k:RkAd s id L1 m1 H1 L2 m2 H2 q2) (hl:Hp.Lt H):RkAd s id L m H L2 m2 H2 fun n p=>q1 n p∨q2 n p:=
 ⟨k.ok,h.to.trans k.to hl,fun n p=>by rw [k.rel,h.rel,or_assoc],by
  rw [k.more,h.more]
  constructor
  ·rintro ((h1 | ⟨n,p,h1,h2⟩) | ⟨n,p,h1,h2⟩)
   ·exact .inl h1
   ·exact .inr ⟨n,p,.inl h1,h2⟩
   ·exact .inr ⟨n,p,.inr h1,fun h3=>h2 ((h.rel n p).2 (.inl h3))⟩
  ·rintro (h1 | ⟨n,p,h1,h2⟩)
   ·exact .inl (.inl h1)
   ·by_cases h3:q1 n p
    ·exact .inl (.inr ⟨n,p,h3,h2⟩)
    ·exact .inr ⟨n,p,h1.resolve_left h3,fun h4=>((h.rel n p).1 h4).elim h2 h3⟩,fun y hy=>by
  rcases k.tsp y hy with h1 | ⟨n,h1⟩
  ·exact (h.tsp y h1).imp (fun x=>x) fun ⟨n,h2⟩=>⟨n,.inl h2⟩
  ·exact .inr ⟨n,.inr h1⟩⟩
theorem RkAd.congr {s:Sy} {id:Nat} {L L1:RkL} {m m1:Bool} {H H1:Hp} {q1 q2:Rel} (h:RkAd s id L m H L1 m1 H1 q1) (e:∀n p,q1 n p↔q2 n p):RkAd s id L m H L1 m1 H1 q2:=by
 have:q1=q2:=funext fun n=>funext fun p=>propext (e n p)
 rw [←this];exact h
theorem RkAd.ext {s:Sy} {id:Nat} {L L1:RkL} {m m1:Bool} {H H1 H2:Hp} {q:Rel} (h:RkAd s id L m H L1 m1 H1 q) (e:H1.Ext H2) (hl:Hp.Lt H2):RkAd s id L m H L1 m1 H2 q:=
 ⟨h.ok.move hl e.1 fun j blk _ g=>e.2 _ _ g,⟨kV h.to.nx e.1,h.to.ts,h.to.tag,fun k blk h0 g=>e.2 _ _ (h.to.keep k blk h0 g),h.to.es⟩,h.rel,h.more,h.tsp⟩
structure PlP (s:Sy) (P:List Str):Prop where
 big:P.length≤999999
 len:∀x∈P,x.length≤9223372036854775806
 cell:∀o∈s.objs,∀j,j<o.kinds.length→y90 o.name j∈P
 fn:∀f∈s.fns,f.name∈P
 adr:∀c∈s.cons,c.op=1→c.b∈P
theorem RkOk.tsl {s:Sy} {id:Nat} {L:RkL} {m:Bool} {H:Hp} (R:RkOk s id L m H) {P:List Str} (hP:P.length≤999999) (h:∀y∈L.ts,y∈P):L.ts.length≤1000000:=by
 have:=y6s R.tab.nod.1 h
 omega
theorem yn1:y56 []=none:=by rfl
theorem ymi {d:Nd} (h:RightN d):y2w d≠[]:=fun e=>by
 have:=y9d h
 rw [e,yn1] at this;cases this
theorem cell_ne {x o:Str} {k:Nat} (h:yd7 x=some (o,k)) (j:Nat) (hj:j≤268435456):y90 o j≠[]:=by
 unfold yd7 at h
 split at h
 ·rename_i d hd
  split at h
  ·cases h
  ·rename_i hc
   injection h with h;injection h with h1 h2
   obtain ⟨hr,_⟩:=y65 hd
   have hr0:=(y55 _).1 (ygm hr)
   have h5:5≤d.kind:=hr.cell.elim (fun h=>absurd h hc) fun h=>h.1
   have hrj:RightN { d with cell:=(j:Int) }:=⟨hr.k1,hr.k7,hr.cp,hr.n,.inr ⟨h5,by unfold y64;simp;omega⟩,hr.fn,hr.nm,hr.nn⟩
   rw [←h1]
   unfold y90
   rw [y9d hr0]
   simp only
   rw [if_neg (by simp;omega),if_pos ((y55 _).2 hrj)]
   exact ymi hrj
 ·cases h
theorem ydo {s:Sy} (h:SyN s) {x tag:Str} {by':Int} {i k:Nat} {ob:Ob} (hi:s.objs[i]?=some ob) (hx:yd7 x=some (ob.name,k)):
  y54 s x tag by'=if ⟨(k:Int),tag⟩∈ob.marks∧(k:Int)+by'<ob.kinds.length then y90 ob.name (k+by'.toNat) else []:=by
 unfold y54
 rw [hx]
 simp only
 rw [h.any hi fun o=>o.marks.any (fun m=>decide (m.pos=k∧m.tag=tag))&&decide ((k:Int)+by'<o.kinds.length)]
 have:(ob.marks.any fun m=>decide (m.pos=k∧m.tag=tag))=decide (⟨(k:Int),tag⟩∈ob.marks):=by
  rw [Bool.eq_iff_iff,List.any_eq_true]
  simp only [decide_eq_true_eq]
  constructor
  ·rintro ⟨m,h1,h2,h3⟩
   have:m=⟨(k:Int),tag⟩:=by cases m;simp_all
   rw [←this];exact h1
  ·exact fun h=>⟨_,h,rfl,rfl⟩
 rw [this]
 simp
theorem yni {x o:Str} {k:Nat} (h:yd7 x=some (o,k)):k≤268435456:=by
 unfold yd7 at h
 split at h
 ·rename_i d hd
  split at h
  ·cases h
  ·rename_i hc
   injection h with h;injection h with h1 h2
   obtain ⟨hr,_⟩:=y65 hd
   rcases hr.cell with h3 | ⟨_,h3⟩
   ·exact absurd h3 hc
   ·have:=of_decide_eq_true h3
    omega
 ·cases h
theorem ygh {s:Sy} {x tag:Str} {by':Int} (h:∀ob∈s.objs,∀k,yd7 x≠some (ob.name,k)):y54 s x tag by'=[]:=by
 unfold y54
 split
 ·rename_i o k hx
  rw [if_neg]
  intro hc
  rw [List.any_eq_true] at hc
  obtain ⟨ob,h1,h2⟩:=hc
  simp only [kF,decide_eq_true_eq] at h2
  exact h ob h1 k (by rw [hx,h2.1])
 ·rfl
theorem yfe {s:Sy} (h:SyN s) {P:List Str} (hP:PlP s P) {q tag:Str} {by':Int} (h0:0≤by') (hne:y54 s q tag by'≠[]):y54 s q tag by'∈P:=by
 rcases yeb s q with ⟨i,k,ob,_,h2,h3⟩ | ⟨_,h2⟩
 ·rw [ydo h h2 h3] at hne ⊢
  split at hne
  ·rename_i hc
   rw [if_pos hc]
   exact hP.cell ob (kY h2) _ (by have:=hc.2;omega)
  ·exact absurd rfl hne
 ·exact absurd (ygh h2) hne
def fldQ (s:Sy) (c:Cn) (ts:List Str) (l:List Nat):Rel:=fun n p=>n=c.a∧p≠[]∧∃k∈l,∃q,ts[k]?=some q∧y54 s q c.tag c.k=p
def FldI (s:Sy) (id:Nat) (L0:RkL) (m0:Bool) (X0:Hp) (c:Cn) (u:V) (l:List Nat) (mm:Nat) (F:Fr) (X:Hp):Prop:=
 ∃i L m,i≤l.length∧mm=l.length-i∧RkAd s id L0 m0 X0 L m X (fldQ s c L0.ts (l.take i))∧F=[(0,.p (some (id,0,10))),(3,.fp (y3n c) 0),(11,u),(12,.i .i64 l.length),(13,.i .i64 i)]
set_option maxHeartbeats 1000000 in
theorem yn3 {s:Sy} {id:Nat} {L:RkL} {m:Bool} {H:Hp} (R:RkOk s id L m H) (hN:SyN s) {P:List Str} (hP:PlP s P) (ht:∀y∈L.ts,y∈P) (c:Cn) (hc:0≤c.k∧c.k≤64):
  AC Tryz.prog y5o [.p (some (id,0,10)),.agg (y3n c)] H (fun _ X=>RkS s id L m H (fun n p=>n=c.a∧p≠[]∧∃q,y5x L c.b q∧y54 s q c.tag c.k=p) X):=by
 refine AC.code yw.at yw.ok ?_
 simp only [yw]
 apply jA
 simp [yw.r0,y3n]
 apply jA
 simp [yw.r1]
 refine (yfh R c.b).mono ?_
 rintro u X0 ⟨L0,l,ia,R0,T0,hts0,hr0,su,hia,hll,hl1,hl2⟩
 obtain ⟨pp,z,rfl,hrow⟩:=su.len
 simp
 refine AX.pblock (AX.loop (FldI s id L0 m X0 c (.sl pp l.length z) l) l.length ⟨_,_,.refl _ _,0,L0,m,by omega,by omega,(RkAd.refl R0).congr (fun n p=>by simp [fldQ]),rfl⟩ ?_)
 rintro mm F X ⟨i,L1,m1,hi,rfl,A,rfl⟩
 simp only [yw.l0]
 apply jA
 simp [yw.r2]
 refine AX.seq (AX.pcond rfl (fun hb=>AX.skip ?_) (fun hb=>AX.exit ?_))
 ·simp at hb
  simp
  have hne:l≠[]:=fun e=>by rw [e] at hb;exact absurd hb (by simp)
  obtain ⟨rfl,rfl,mr,gr,hmr⟩:=hrow hne
  have grX:=A.to.keep _ _ (hia hne) gr
  obtain ⟨k,hk⟩:∃k,l[i]?=some k:=⟨_,kC hb⟩
  obtain ⟨x,hx0,hxr⟩:=hl1 k (kY hk)
  have hx1:L1.ts[k]?=some x:=by
   obtain ⟨r,hr⟩:=A.to.ts
   rw [←hr,hts0]
   rw [kR (List.getElem?_eq_some_iff.1 hx0).1];exact hx0
  have R1:=A.ok
  obtain ⟨mb,hg,hm⟩:=R1.blk
  have hnl:=(List.getElem?_eq_some_iff.1 hx1).1
  have hts:L1.ts≠[]:=fun e=>by rw [e] at hnl;exact absurd hnl (by simp)
  obtain ⟨hav,ma,ga,hma⟩:L1.av=.sl (some (L1.ida,0,L1.ts.length*2)) L1.ts.length 2∧∃m,X.get L1.ida=some (.cells (ylf s L1.ts) m)∧m≤L1.ts.length*2:=by
   rcases R1.atr with ⟨e,_⟩ | ⟨_,h⟩
   ·exact absurd e hts
   ·exact h
  have hal:=yg7 s L1.ts
  have hat:=ypm (s:=s) hx1
  have ni:=R1.lt _ _ hg
  simp [atc] at hat
  have htk:l.take (i+1)=l.take i++[k]:=by rw [kJ,hk];rfl
  have hq:∀n p,fldQ s c L0.ts (l.take (i+1)) n p↔fldQ s c L0.ts (l.take i) n p∨(n=c.a∧p≠[]∧y54 s x c.tag c.k=p):=fun n p=>by
   have hx0':L0.ts[k]?=some x:=by rw [hts0];exact hx0
   unfold fldQ
   rw [htk]
   constructor
   ·rintro ⟨h1,h2,j,hj,q,h3,h4⟩
    rcases List.mem_append.1 hj with hj | hj
    ·exact .inl ⟨h1,h2,j,hj,q,h3,h4⟩
    ·simp at hj;subst hj
     rw [hx0'] at h3;injection h3 with h3;subst h3
     exact .inr ⟨h1,h2,h4⟩
   ·rintro (⟨h1,h2,j,hj,q,h3,h4⟩ | ⟨h1,h2,h4⟩)
    ·exact ⟨h1,h2,j,List.mem_append.2 (.inl hj),q,h3,h4⟩
    ·exact ⟨h1,h2,k,by simp,x,hx0',h4⟩
  have hld:=yd9 hk
  refine AX.cut (fun F X2=>F=[(0,.p (some (id,0,10))),(3,.fp (y3n c) 0),(11,.sl (some (ia,0,l.length)) l.length 1),(12,.i .i64 l.length),(13,.i .i64 i)]∧RkS s id L1 m1 X (fun n p=>n=c.a∧p≠[]∧y54 s x c.tag c.k=p) X2) ?_ ?_
  rotate_left
  ·rintro F X2 ⟨rfl,L2,m2,A2⟩
   apply jE
   simp [yw.r9,y2g hb (show l.length≤9223372036854775807 by omega)]
   exact ⟨l.length-(i+1),by omega,_,_,.refl _ _,i+1,L2,m2,by omega,rfl,(A.trans A2 R0.lt).congr fun n p=>(hq n p).symm,by simp⟩
  refine AX.pblock (jA ?_)
  simp [yw.r3,hb,grX,hmr,ygx,hld,show i+1≤l.length by omega]
  apply jA
  simp [yw.r4,hg,hm,yau,hav,ga,hal,hma,hat,hnl,show k*2+2≤L1.ts.length*2 by omega]
  have e1:X.Ext ((X.add (.cells [.i .i64 0,.i .i64 0] 2)).upd X.next (.cells [.i .i64 (atP s x).1,.i .i64 (atP s x).2] 2)):=(Hp.Ext.add R1.lt _).upd R1.lt (kG _) _
  have l1:=Hp.upd_lt (k:=X.next) (Hp.add_lt R1.lt (.cells [.i .i64 0,.i .i64 0] 2)) (by simp) (.cells [.i .i64 (atP s x).1,.i .i64 (atP s x).2] 2)
  have gp:((X.add (.cells [.i .i64 0,.i .i64 0] 2)).upd X.next (.cells [.i .i64 (atP s x).1,.i .i64 (atP s x).2] 2)).get X.next=some (.cells [.i .i64 (atP s x).1,.i .i64 (atP s x).2] 2):=by simp
  generalize (X.add (.cells [.i .i64 0,.i .i64 0] 2)).upd X.next (.cells [.i .i64 (atP s x).1,.i .i64 (atP s x).2] 2)=X1 at e1 l1 gp ⊢
  have gi:=e1.2 _ _ hg
  simp only [yau] at gi
  apply jB
  simp [yw.r5,gp]
  rcases yeb s x with ⟨j,kc,ob,h1,h2,h3⟩ | ⟨h1,h2⟩
  ·have hil:=(List.getElem?_eq_some_iff.1 h2).1
   have hie:=(List.getElem?_eq_some_iff.1 h2).2
   rw [h1] at gp ⊢
   refine jF (by simp) (AX.skip ?_)
   simp
   refine AX.seq (AX.drw ?_)
   have nX:=l1 _ _ gp
   simp [yw.r6,gi,gp,hm,hil,hie,y4l,show id≠X1.next by omega,show X.next≠X1.next by omega]
   have e2:X1.Ext ((X1.add (.cells [.s [],.s [],.sl none 0 0] 3)).upd X1.next (.cells [.s ob.name,.s ob.kinds,.fs (ob.marks.map y8a)] 3)):=(Hp.Ext.add l1 _).upd l1 (kG _) _
   have l2:Hp.Lt ((X1.add (.cells [.s [],.s [],.sl none 0 0] 3)).upd X1.next (.cells [.s ob.name,.s ob.kinds,.fs (ob.marks.map y8a)] 3)):=Hp.upd_lt (Hp.add_lt l1 _) (by simp) _
   have go:((X1.add (.cells [.s [],.s [],.sl none 0 0] 3)).upd X1.next (.cells [.s ob.name,.s ob.kinds,.fs (ob.marks.map y8a)] 3)).get X1.next=some (.cells [.s ob.name,.s ob.kinds,.fs (ob.marks.map y8a)] 3):=by simp
   generalize (X1.add (.cells [.s [],.s [],.sl none 0 0] 3)).upd X1.next (.cells [.s ob.name,.s ob.kinds,.fs (ob.marks.map y8a)] 3)=X2 at e2 l2 go ⊢
   have gp2:=e2.2 _ _ gp
   have A2:=((RkAd.refl R1).ext e1 l1).ext e2 l2
   have hkc:=yni h3
   have hmb:=hN.mb ob (kY h2)
   have hkb:=hN.kb ob (kY h2)
   have hw:Go.IntKind.i64.wrap ((kc:Int)+c.k)=(kc:Int)+c.k:=wrap_i64 (by omega) (by omega)
   have hcast:(kc:Int)+c.k=((kc+c.k.toNat:Nat):Int):=by omega
   refine AX.test (decide (⟨(kc:Int),c.tag⟩∈ob.marks)&&decide ((kc:Int)+c.k<ob.kinds.length)) [(0,.p (some (id,0,10))),(3,.fp (y3n c) 0),(6,.p (some (X.next,0,2))),(7,.p (some (X1.next,0,3))),(11,.sl (some (ia,0,l.length)) l.length 1),(12,.i .i64 l.length),(13,.i .i64 i),(54,.b (decide (⟨(kc:Int),c.tag⟩∈ob.marks)&&decide ((kc:Int)+c.k<ob.kinds.length)))] ?_ rfl (fun hcd=>?_) (fun hcd=>AX.skip ?_)
   ·simp [yw.r7,go,gp2,y3n]
    refine AC.fix (yd1 ob.marks ⟨(kc:Int),c.tag⟩ (by omega) X2) ?_
    by_cases hmk:(⟨(kc:Int),c.tag⟩:Mk)∈ob.marks
    ·simp [hmk,go,gp2,hw]
    ·simp [hmk]
   ·simp only [kF,decide_eq_true_eq] at hcd
    have hsh:y54 s x c.tag c.k=y90 ob.name (kc+c.k.toNat):=by rw [ydo hN h2 h3,if_pos hcd]
    have hinP:y90 ob.name (kc+c.k.toNat)∈P:=hP.cell ob (kY h2) _ (by have:=hcd.2;omega)
    have hne2:=cell_ne h3 (kc+c.k.toNat) (by have:=hcd.2;omega)
    refine AX.drwL (yw.r8.take 11) rfl rfl ?_
    simp [yw.r8,go,gp2,y3n,hw]
    rw [hcast]
    refine y32 _ (fun H2=>NCell_ok ob.name (kc+c.k.toNat) (by omega) H2) ?_
    simp
    have tsP:∀y∈L1.ts,y∈P:=fun y hy=>by
     rcases A.tsp y hy with h | ⟨n,h⟩
     ·exact ht y (by rw [←hts0];exact h)
     ·obtain ⟨_,hp0,k',hk',q,hq1,hq2⟩:=h
      subst hq2
      exact yfe hN hP hc.1 hp0
    refine (yi4 A2.ok c.a (y90 ob.name (kc+c.k.toNat)) (hP.len _ hinP) (R1.tsl hP.big tsP)).mono ?_
    rintro v X3 ⟨L3,m3,A3⟩
    refine ⟨_,_,.refl _ _,rfl,L3,m3,(A2.trans A3 R1.lt).congr fun n p=>?_⟩
    rw [hsh]
    constructor
    ·rintro (h | ⟨h4,h5⟩)
     ·exact h.elim
     ·exact ⟨h4,by rw [h5];exact hne2,h5.symm⟩
    ·rintro ⟨h4,_,h5⟩
     exact .inr ⟨h4,h5.symm⟩
   ·simp
    refine ⟨_,_,.refl _ _,by simp,L1,m1,A2.congr fun n p=>?_⟩
    rw [ydo hN h2 h3,if_neg (fun h=>by
     rw [decide_eq_true h.1,decide_eq_true h.2] at hcd;cases hcd)]
    constructor
    ·exact fun h=>h.elim
    ·rintro ⟨_,h4,h5⟩
     exact h4 h5.symm
  ·rw [h1] at gp ⊢
   refine jG (by simp) (AX.exit ?_)
   simp
   refine ⟨_,_,.refl _ _,by simp,L1,m1,((RkAd.refl R1).ext e1 l1).congr fun n p=>?_⟩
   rw [ygh h2]
   constructor
   ·exact fun h=>h.elim
   ·rintro ⟨_,h4,h5⟩
    exact h4 h5.symm
 ·simp at hb
  simp
  have hil:i=l.length:=by omega
  subst hil
  rw [List.take_length] at A
  have hq:∀n p,fldQ s c L0.ts l n p↔n=c.a∧p≠[]∧∃q,y5x L c.b q∧y54 s q c.tag c.k=p:=fun n p=>by
   unfold fldQ
   constructor
   ·rintro ⟨h1,h2,k,hk,q,h3,h4⟩
    obtain ⟨q',h5,h6⟩:=hl1 k hk
    rw [hts0,h5] at h3;injection h3 with h3;subst h3
    exact ⟨h1,h2,q',h6,h4⟩
   ·rintro ⟨h1,h2,q,h3,h4⟩
    obtain ⟨k,hk,h5⟩:=hl2 q h3
    exact ⟨h1,h2,k,hk,q,by rw [hts0];exact h5,h4⟩
  exact ⟨L1,m1,A.ok,T0.trans A.to R.lt,fun n p=>by rw [A.rel,hr0,hq],by
   rw [A.more]
   simp only [hr0,hq],fun y hy=>(A.tsp y hy).imp (fun h=>by rw [←hts0];exact h) fun ⟨n,h⟩=>⟨n,(hq n y).1 h⟩⟩
structure RkTr (s:Sy) (id:Nat) (P:List Str) (L:RkL) (m:Bool) (H:Hp) (L':RkL) (m':Bool) (X:Hp) (G:Rel→Prop):Prop where
 ok:RkOk s id L' m' X
 to:RkTo L L' H X
 tr:Tr s (y5x L) m (y5x L') m'
 tsp:(∀y∈L.ts,y∈P)→∀y∈L'.ts,y∈P
 fin:m'=false→G (y5x L)
def RkT (s:Sy) (id:Nat) (P:List Str) (L:RkL) (m:Bool) (H:Hp) (G:Rel→Prop) (X:Hp):Prop:=∃(L':RkL) (m':Bool),RkTr s id P L m H L' m' X G
theorem RkTr.refl {s:Sy} {id:Nat} {P:List Str} {L:RkL} {m:Bool} {H:Hp} {G:Rel→Prop} (R:RkOk s id L m H) (hG:∀X,G X):RkTr s id P L m H L m H G:=⟨R,.refl _ _,.refl _ _ _,fun h=>h,fun _=>hG _⟩
theorem yn0 {s:Sy} {L L':RkL} {m m':Bool} (h:Tr s (y5x L) m (y5x L') m') (e:m'=false):y5x L'=y5x L:=funext fun n=>funext fun p=>propext ⟨(h.same e).2 n p,h.mono n p⟩
theorem RkTr.trans {s:Sy} {id:Nat} {P:List Str} {L L1 L2:RkL} {m m1 m2:Bool} {H H1 H2:Hp} {G1 G2:Rel→Prop} (h:RkTr s id P L m H L1 m1 H1 G1) (k:RkTr s id P L1 m1 H1 L2 m2 H2 G2) (hl:Hp.Lt H):RkTr s id P L m H L2 m2 H2 fun X=>G1 X∧G2 X:=
 ⟨k.ok,h.to.trans k.to hl,h.tr.trans k.tr,fun x=>k.tsp (h.tsp x),fun e=>by
  have e1:=(k.tr.same e).1
  have:=k.fin e
  rw [yn0 h.tr e1] at this
  exact ⟨h.fin e1,this⟩⟩
theorem RkTr.to' {s:Sy} {id:Nat} {P:List Str} {L L1:RkL} {m m1:Bool} {H H1:Hp} {G G':Rel→Prop} (h:RkTr s id P L m H L1 m1 H1 G) (k:G (y5x L)→G' (y5x L)):RkTr s id P L m H L1 m1 H1 G':=⟨h.ok,h.to,h.tr,h.tsp,fun e=>k (h.fin e)⟩
theorem RkTr.ext {s:Sy} {id:Nat} {P:List Str} {L L1:RkL} {m m1:Bool} {H H1 H2:Hp} {G:Rel→Prop} (h:RkTr s id P L m H L1 m1 H1 G) (e:H1.Ext H2) (hl:Hp.Lt H2):RkTr s id P L m H L1 m1 H2 G:=
 ⟨h.ok.move hl e.1 fun j blk _ g=>e.2 _ _ g,⟨kV h.to.nx e.1,h.to.ts,h.to.tag,fun k blk h0 g=>e.2 _ _ (h.to.keep k blk h0 g),h.to.es⟩,h.tr,h.tsp,h.fin⟩
theorem RkAd.tr {s:Sy} {id:Nat} {P:List Str} {L L1:RkL} {m m1:Bool} {H H1:Hp} {q:Rel} (h:RkAd s id L m H L1 m1 H1 q) (hs:∀Y,Cl s Y→y7d (y5x L) Y→y7d q Y) (hq:(∀y∈L.ts,y∈P)→∀n y,q n y→y∈P):RkTr s id P L m H L1 m1 H1 fun X=>y7d q X:=by
 have hm:m1=false→m=false∧y7d q (y5x L):=fun e=>by
  have h1:¬(m=true∨∃n p,q n p∧¬y5x L n p):=fun h2=>by rw [h.more.2 h2] at e;cases e
  exact ⟨by cases m with | false=>rfl | true=>exact absurd (.inl rfl) h1,fun n p h2=>kg fun h3=>h1 (.inr ⟨n,p,h2,h3⟩)⟩
 exact ⟨h.ok,h.to,⟨fun n p x=>(h.rel n p).2 (.inl x),fun Y hY hX n p x=>((h.rel n p).1 x).elim (hX n p) (hs Y hY hX n p),fun e=>⟨(hm e).1,fun n p x=>((h.rel n p).1 x).elim (fun x=>x) ((hm e).2 n p)⟩,
  fun e=>(h.more.1 e).imp (fun x=>x) fun ⟨n,p,h1,h2⟩=>⟨n,p,(h.rel n p).2 (.inr h1),h2⟩⟩,fun x y hy=>(h.tsp y hy).elim (x y) fun ⟨n,h1⟩=>hq x n y h1,fun e=>(hm e).2⟩
theorem RkTr.from {s:Sy} {id:Nat} {P:List Str} {L L0 L1:RkL} {m m1:Bool} {H X0 H1:Hp} {G:Rel→Prop} (T:RkTo L L0 H X0) (ht:L0.ts=L.ts) (hr:∀n p,y5x L0 n p↔y5x L n p) (h:RkTr s id P L0 m X0 L1 m1 H1 G) (hl:Hp.Lt H):RkTr s id P L m H L1 m1 H1 G:=by
 have e:y5x L0=y5x L:=funext fun n=>funext fun p=>propext (hr n p)
 exact ⟨h.ok,T.trans h.to hl,by rw [←e];exact h.tr,fun x=>h.tsp (by rw [ht];exact x),by rw [←e];exact h.fin⟩
theorem efS_at {s:Sy} (h:SyN s) {f:Str}:(∃fu,fu∈s.fns∧fu.name=f∧yfp (efS s) f=some (.agg (y75 fu))∧∀q:Fu→Bool,(s.fns.any fun x=>decide (x.name=f)&&q x)=q fu)∨(yfp (efS s) f=none∧∀q:Fu→Bool,(s.fns.any fun x=>decide (x.name=f)&&q x)=false):=by
 rcases y94 (efS s) f with ⟨i,v,h1,h2⟩ | ⟨h1,h2,_⟩
 ·simp only [efS,List.getElem?_map,kd] at h1
  obtain ⟨fu,hf,he⟩:=h1
  injection he with e1 e2
  refine .inl ⟨fu,kY hf,e1,by rw [h2,e2],fun q=>?_⟩
  cases hq:q fu with
  | true=>rw [List.any_eq_true];exact ⟨fu,kY hf,by simp [hq,e1]⟩
  | false=>
   rw [List.any_eq_false]
   intro o ho hc
   simp only [kF,decide_eq_true_eq] at hc
   obtain ⟨j,hj⟩:=List.mem_iff_getElem?.1 ho
   have:=yd8 h.fn hj hf (hc.1.trans e1.symm)
   subst this
   rw [hj] at hf;injection hf with hf;subst hf
   rw [hq] at hc;exact absurd hc.2 (by simp)
 ·refine .inr ⟨h1,fun q=>?_⟩
  rw [List.any_eq_false]
  intro o ho hc
  simp only [kF,decide_eq_true_eq] at hc
  exact h2 (o.name,.agg (y75 o)) (by simp only [efS,List.mem_map];exact ⟨o,ho,rfl⟩) hc.1
theorem yk4 {s:Sy} {p tag l r:Str} (hs:ybm tag=some (l,r)):y82 s p tag=s.fns.any fun f=>decide (f.name=p)&&(decide (f.kinds=l)&&(decide (r=[])||decide (f.ret=r))):=by
 unfold y82
 rw [hs]
 simp only [Bool.decide_and,Bool.decide_or]
def GA (c:Cn) (q:Str) (j0:Nat) (X:Rel):Prop:=∀j a,j<j0→c.args[j]?=some a→a≠[]→(j=0→∀p,X (y50 q 0) p→X a p)∧(j≠0→∀p,X a p→X (y50 q j) p)
def GC (c:Cn) (q:Str) (X:Rel):Prop:=X c.a q∧GA c q c.args.length X
def CalJ (s:Sy) (id:Nat) (P:List Str) (L0:RkL) (m0:Bool) (X0:Hp) (c:Cn) (q lk r:Str) (u:V) (nl i:Nat) (mm:Nat) (F:Fr) (X:Hp):Prop:=
 ∃j L m,j≤c.args.length∧mm=c.args.length-j∧RkTr s id P L0 m0 X0 L m X (GA c q j)∧F=[(0,.p (some (id,0,10))),(3,.fp (y3n c) 0),(4,.s lk),(5,.s r),(9,.s q),(24,u),(25,.i .i64 nl),(26,.i .i64 i),(66,ss c.args),(67,.i .i64 c.args.length),(68,.i .i64 j)]
set_option maxHeartbeats 1000000 in
theorem callArgs {s:Sy} {id:Nat} {P:List Str} {L:RkL} {m:Bool} {H:Hp} (R:RkOk s id L m H) {c:Cn} (hc:c∈s.cons) (h6:c.op=6) {q:Str} (hql:q.length≤9223372036854775806) (hq:y5x L c.b q) (hf:y82 s q c.tag=true) (hal:c.args.length≤1000000) {lk r:Str} {u:V} {nl i:Nat} {Q:y5i}
  (hQ:∀L' m' X,RkTr s id P L m H L' m' X (GA c q c.args.length)→Q .normal [(0,.p (some (id,0,10))),(3,.fp (y3n c) 0),(4,.s lk),(5,.s r),(24,u),(25,.i .i64 nl),(26,.i .i64 i)] X):
  AX Tryz.prog 92 (.seq (.post [0,3,4,5,9,24,25,26,66,67,68] (.region yf.r9)) (.post [0,3,4,5,24,25,26] (.block 2 (.loop yf.l1)))) Q [(0,.p (some (id,0,10))),(3,.fp (y3n c) 0),(4,.s lk),(5,.s r),(9,.s q),(24,u),(25,.i .i64 nl),(26,.i .i64 i)] H:=by
 apply jA
 simp [yf.r9,y3n,ss]
 refine AX.pblock (AX.loop (CalJ s id P L m H c q lk r u nl i) c.args.length ⟨_,_,.refl _ _,0,L,m,by omega,by omega,.refl R (fun X j a hj=>absurd hj (by omega)),by simp [y3n,ss]⟩ ?_)
 rintro mm F X ⟨j,L1,m1,hj,rfl,A,rfl⟩
 simp only [yf.l1]
 apply jA
 simp [yf.r10]
 refine AX.seq (AX.pcond rfl (fun hb=>AX.skip ?_) (fun hb=>AX.exit ?_))
 rotate_left
 ·simp at hb
  simp
  have:j=c.args.length:=by omega
  subst this
  exact hQ L1 m1 X A
 simp at hb
 simp
 obtain ⟨a,ha⟩:∃a,c.args[j]?=some a:=⟨_,kC hb⟩
 have hae:c.args[j]=a:=(List.getElem?_eq_some_iff.1 ha).2
 have R1:=A.ok
 have hq1:y5x L1 c.b q:=A.tr.mono _ _ hq
 have stp:∀L2 m2 X2,RkTr s id P L1 m1 X L2 m2 X2 (fun X=>a≠[]→(j=0→∀p,X (y50 q 0) p→X a p)∧(j≠0→∀p,X a p→X (y50 q j) p))→RkTr s id P L m H L2 m2 X2 (GA c q (j+1)):=fun L2 m2 X2 A2=>
  (A.trans A2 R.lt).to' fun ⟨g1,g2⟩ j' a' hj' ha' hne=>by
   rcases Nat.lt_or_ge j' j with h | h
   ·exact g1 j' a' h ha' hne
   ·have:j'=j:=by omega
    subst this
    rw [ha] at ha';injection ha' with ha';subst ha'
    exact g2 hne
 refine AX.cut (fun F X2=>F=[(0,.p (some (id,0,10))),(3,.fp (y3n c) 0),(4,.s lk),(5,.s r),(9,.s q),(24,u),(25,.i .i64 nl),(26,.i .i64 i),(66,ss c.args),(67,.i .i64 c.args.length),(68,.i .i64 j)]∧RkT s id P L m H (GA c q (j+1)) X2) ?_ ?_
 rotate_left
 ·rintro F X2 ⟨rfl,L2,m2,A2⟩
  apply jE
  simp [yf.r16,y2g hb (show c.args.length≤9223372036854775807 by omega)]
  exact ⟨c.args.length-(j+1),by omega,_,_,.refl _ _,j+1,L2,m2,by omega,rfl,A2,by simp⟩
 refine AX.pblock (jA ?_)
 simp [yf.r11,ss,hb,hae]
 refine AX.pblock (jA ?_)
 simp [yf.r12]
 by_cases h0:a=[]
 ·refine jG (by simp [h0]) (AX.skip ?_)
  simp
  exact ⟨_,_,.refl _ _,by simp [ss],L1,m1,stp _ _ _ (.refl R1 fun X h=>absurd h0 h)⟩
 refine jF (by simp [h0]) (jA ?_)
 simp [yf.r13]
 by_cases hj0:j=0
 ·refine jG (by simp [hj0]) (AX.reg ?_)
  simp [yf.r14]
  refine AC.fix (yf7 q 0 hql X) ?_
  simp
  refine (ybr R1 a (y50 q 0)).mono ?_
  rintro v X2 ⟨L2,m2,A2⟩
  simp
  refine ⟨_,_,.refl _ _,by simp [ss],L2,m2,stp _ _ _ ((A2.tr (P:=P) (fun Y hY hX n p h=>?_) (fun hx n y h=>?_)).to' fun g hne=>⟨fun _ p hp=>g _ _ ⟨rfl,hp⟩,fun h=>absurd hj0 h⟩)⟩
  ·obtain ⟨rfl,h⟩:=h
   exact (ycl hc h6 (x:=(j,n)) ha hY (hX _ _ hq1) hf h0 p).1 hj0 (hX _ _ h)
  ·obtain ⟨_,e,he,_,k,_,h2⟩:=h
   exact hx y (kY h2)
 ·refine jF (by simp [hj0]) (AX.reg ?_)
  simp [yf.r15]
  refine AC.fix (yf7 q j hql X) ?_
  simp
  refine (ybr R1 (y50 q j) a).mono ?_
  rintro v X2 ⟨L2,m2,A2⟩
  simp
  refine ⟨_,_,.refl _ _,by simp [ss],L2,m2,stp _ _ _ ((A2.tr (P:=P) (fun Y hY hX n p h=>?_) (fun hx n y h=>?_)).to' fun g hne=>⟨fun h=>absurd h hj0,fun _ p hp=>g _ _ ⟨rfl,hp⟩⟩)⟩
  ·obtain ⟨rfl,h⟩:=h
   exact (ycl hc h6 (x:=(j,a)) ha hY (hX _ _ hq1) hf h0 p).2 hj0 (hX _ _ h)
  ·obtain ⟨_,e,he,_,k,_,h2⟩:=h
   exact hx y (kY h2)
def GL (s:Sy) (c:Cn) (ts:List Str) (l:List Nat) (X:Rel):Prop:=∀k∈l,∀q,ts[k]?=some q→y82 s q c.tag=true→GC c q X
def CalI (s:Sy) (id:Nat) (P:List Str) (L0:RkL) (m0:Bool) (X0:Hp) (c:Cn) (lk r:Str) (u:V) (l:List Nat) (mm:Nat) (F:Fr) (X:Hp):Prop:=
 ∃i L m,i≤l.length∧mm=l.length-i∧RkTr s id P L0 m0 X0 L m X (GL s c L0.ts (l.take i))∧F=[(0,.p (some (id,0,10))),(3,.fp (y3n c) 0),(4,.s lk),(5,.s r),(24,u),(25,.i .i64 l.length),(26,.i .i64 i)]
set_option maxHeartbeats 2000000 in
theorem rCall_ok {s:Sy} {id:Nat} {L:RkL} {m:Bool} {H:Hp} (R:RkOk s id L m H) (hN:SyN s) {P:List Str} (hP:PlP s P) (ht:∀y∈L.ts,y∈P) {c:Cn} (hc:c∈s.cons) (h6:c.op=6) {lk r:Str} (hsg:ybm c.tag=some (lk,r)) (hal:c.args.length≤1000000) (htl:c.tag.length≤9223372036854775806):
  AC Tryz.prog y63 [.p (some (id,0,10)),.agg (y3n c)] H (fun _ X=>RkT s id P L m H (fun X=>∀q,X c.b q→y82 s q c.tag=true→GC c q X) X):=by
 refine AC.code yf.at yf.ok ?_
 simp only [yf]
 apply jA
 simp [yf.r0,y3n]
 apply jA
 simp [yf.r1]
 refine AC.fix (Cut_ok c.tag (by omega) H) ?_
 simp [cutV,hsg]
 apply jA
 simp [yf.r2]
 refine (yfh R c.b).mono ?_
 rintro u X0 ⟨L0,l,ia,R0,T0,hts0,hr0,su,hia,hll,hl1,hl2⟩
 obtain ⟨pp,z,rfl,hrow⟩:=su.len
 simp
 refine AX.pblock (AX.loop (CalI s id P L0 m X0 c lk r (.sl pp l.length z) l) l.length ⟨_,_,.refl _ _,0,L0,m,by omega,by omega,.refl R0 (fun X k hk=>by simp at hk),by simp [y3n]⟩ ?_)
 rintro mm F X ⟨i,L1,m1,hi,rfl,A,rfl⟩
 simp only [yf.l0]
 apply jA
 simp [yf.r3]
 refine AX.seq (AX.pcond rfl (fun hb=>AX.skip ?_) (fun hb=>AX.exit ?_))
 rotate_left
 ·simp at hb
  simp
  have hil:i=l.length:=by omega
  subst hil
  rw [List.take_length] at A
  have A':=RkTr.from T0 hts0 hr0 A R.lt
  exact ⟨L1,m1,A'.to' fun g q hq hf=>by
   obtain ⟨k,hk,hx⟩:=hl2 q hq
   exact g k hk q (by rw [hts0];exact hx) hf⟩
 simp at hb
 simp
 have hne:l≠[]:=fun e=>by rw [e] at hb;exact absurd hb (by simp)
 obtain ⟨rfl,rfl,mr,gr,hmr⟩:=hrow hne
 have grX:=A.to.keep _ _ (hia hne) gr
 obtain ⟨k,hk⟩:∃k,l[i]?=some k:=⟨_,kC hb⟩
 obtain ⟨x,hx0,hxr⟩:=hl1 k (kY hk)
 have hx1:L1.ts[k]?=some x:=by
  obtain ⟨r,hr⟩:=A.to.ts
  rw [←hr,hts0]
  rw [kR (List.getElem?_eq_some_iff.1 hx0).1];exact hx0
 have R1:=A.ok
 have hq1:y5x L1 c.b x:=A.tr.mono _ _ ((hr0 _ _).2 hxr)
 have hxP:x∈P:=ht x (kY hx0)
 have tsP:∀y∈L1.ts,y∈P:=A.tsp fun y hy=>ht y (by rw [←hts0];exact hy)
 have hld:=yd9 hk
 have htk:l.take (i+1)=l.take i++[k]:=by rw [kJ,hk];rfl
 have stp:∀L2 m2 X2,RkTr s id P L1 m1 X L2 m2 X2 (fun X=>y82 s x c.tag=true→GC c x X)→RkTr s id P L0 m X0 L2 m2 X2 (GL s c L0.ts (l.take (i+1))):=fun L2 m2 X2 A2=>
  (A.trans A2 R0.lt).to' fun ⟨g1,g2⟩ k' hk' q hq hf=>by
   rw [htk] at hk'
   rcases List.mem_append.1 hk' with h | h
   ·exact g1 k' h q hq hf
   ·simp at h;subst h
    rw [hts0,hx0] at hq;injection hq with hq;subst hq
    exact g2 hf
 refine AX.cut (fun F X2=>F=[(0,.p (some (id,0,10))),(3,.fp (y3n c) 0),(4,.s lk),(5,.s r),(24,.sl (some (ia,0,l.length)) l.length 1),(25,.i .i64 l.length),(26,.i .i64 i)]∧RkT s id P L0 m X0 (GL s c L0.ts (l.take (i+1))) X2) ?_ ?_
 rotate_left
 ·rintro F X2 ⟨rfl,L2,m2,A2⟩
  apply jE
  simp [yf.r17,y2g hb (show l.length≤9223372036854775807 by omega)]
  exact ⟨l.length-(i+1),by omega,_,_,.refl _ _,i+1,L2,m2,by omega,rfl,A2,by simp⟩
 refine AX.pblock (jA ?_)
 simp [yf.r4,hb,grX,hmr,ygx,hld,show i+1≤l.length by omega]
 apply jA
 simp [yf.r5]
 refine AC.fix (yd6 R1 hx1) ?_
 simp
 obtain ⟨mb,hg,hm⟩:=R1.blk
 have ni:=R1.lt _ _ hg
 have gmf:=R1.mpf
 have nf:=R1.lt _ _ gmf
 apply jA
 have box:∀(cs:List V),X.Ext ((X.add (.cells [.s [],.s [],.s []] 3)).upd X.next (.cells cs 3))∧Hp.Lt ((X.add (.cells [.s [],.s [],.s []] 3)).upd X.next (.cells cs 3)):=fun cs=>⟨(Hp.Ext.add R1.lt _).upd R1.lt (kG _) _,Hp.upd_lt (Hp.add_lt R1.lt _) (by simp) _⟩
 rcases efS_at hN (f:=x) with ⟨fu,hfu,hfn,hmg,hany⟩ | ⟨hmg,hany⟩
 ·have hfit:y82 s x c.tag=(decide (fu.kinds=lk)&&(decide (r=[])||decide (fu.ret=r))):=by rw [yk4 hsg];exact hany _
  simp [yf.r6,hg,hm,yau,gmf,hmg,y75]
  obtain ⟨e1,l1⟩:=box [.s fu.name,.s fu.kinds,.s fu.ret]
  have gb:((X.add (.cells [.s [],.s [],.s []] 3)).upd X.next (.cells [.s fu.name,.s fu.kinds,.s fu.ret] 3)).get X.next=some (.cells [.s fu.name,.s fu.kinds,.s fu.ret] 3):=by simp
  clear box
  generalize (X.add (.cells [.s [],.s [],.s []] 3)).upd X.next (.cells [.s fu.name,.s fu.kinds,.s fu.ret] 3)=X1 at e1 l1 gb ⊢
  refine AX.seq (AX.test (!y82 s x c.tag) [(0,.p (some (id,0,10))),(3,.fp (y3n c) 0),(4,.s lk),(5,.s r),(9,.s x),(24,.sl (some (ia,0,l.length)) l.length 1),(25,.i .i64 l.length),(26,.i .i64 i),(59,.b (!y82 s x c.tag))] ?_ rfl (fun hcd=>AX.exit ?_) (fun hcd=>AX.skip ?_))
  ·rw [hfit]
   by_cases c1:fu.kinds=lk
   ·by_cases c2:r=[]
    ·simp [yf.r7,gb,c1,c2]
    ·have c4:r.isEmpty=false:=by
      cases r with
      | nil=>exact absurd rfl c2
      | cons a b=>rfl
     by_cases c3:fu.ret=r
     ·simp [yf.r7,gb,c1,c2,c3,c4]
     ·simp [yf.r7,gb,c1,c2,c3,c4]
   ·have c5:(fu.kinds == lk)=false:=by simpa using c1
    simp [yf.r7,gb,c1,c5]
  ·simp at hcd
   simp
   exact ⟨_,_,.refl _ _,by simp,L1,m1,stp _ _ _ ((RkTr.refl R1 fun X h=>(by rw [hcd] at h;cases h)).ext e1 l1)⟩
  ·simp at hcd
   simp
   apply jA
   simp [yf.r8,y3n]
   have Rx:=R1.move l1 e1.1 fun j blk _ g=>e1.2 _ _ g
   refine (yi4 Rx c.a x (hP.len x hxP) (Rx.tsl hP.big tsP)).mono ?_
   rintro v X2 ⟨L2,m2,A2⟩
   have T2:=A2.tr (P:=P) (fun Y hY hX n p h=>by
    obtain ⟨rfl,rfl⟩:=h
    exact hY c hc _ _ (.inr (.inr (.inr (.inr (.inr ⟨h6,p,hX _ _ hq1,hcd,.inl ⟨rfl,rfl⟩⟩)))))) (fun _ n y h=>by obtain ⟨_,rfl⟩:=h;exact hxP)
   simp
   refine callArgs (P:=P) A2.ok hc h6 (hP.len x hxP) (T2.tr.mono _ _ hq1) hcd hal fun L3 m3 X3 A3=>?_
   simp
   refine ⟨_,_,.refl _ _,rfl,L3,m3,stp _ _ _ ?_⟩
   have T1:RkTr s id P L1 m1 X L1 m1 X1 (fun _=>True):=(RkTr.refl R1 fun _=>trivial).ext e1 l1
   exact ((T1.trans (T2.trans A3 l1) R1.lt).to' fun g _=>⟨g.2.1 _ _ ⟨rfl,rfl⟩,g.2.2⟩)
 ·have hfit:y82 s x c.tag=false:=by rw [yk4 hsg];exact hany _
  simp [yf.r6,hg,hm,yau,gmf,hmg]
  obtain ⟨e1,l1⟩:=box [.s [],.s [],.s []]
  clear box
  generalize (X.add (.cells [.s [],.s [],.s []] 3)).upd X.next (.cells [.s [],.s [],.s []] 3)=X1 at e1 l1 ⊢
  refine AX.seq (AX.test true [(0,.p (some (id,0,10))),(3,.fp (y3n c) 0),(4,.s lk),(5,.s r),(9,.s x),(24,.sl (some (ia,0,l.length)) l.length 1),(25,.i .i64 l.length),(26,.i .i64 i),(59,.b true)] ?_ rfl (fun _=>AX.exit ?_) (fun h=>by simp at h))
  ·simp [yf.r7]
  ·simp
   exact ⟨_,_,.refl _ _,by simp,L1,m1,stp _ _ _ ((RkTr.refl R1 fun X h=>(by rw [hfit] at h;cases h)).ext e1 l1)⟩
end Go.Proofs.YtikpijbeobeckaaGreatDoor
