/- Part 22. -/
import Derived.Test.YtikpijbeobeckaaGreatDoorXGw20
import Derived.Test.YtikpijbeobeckaaGreatDoorXGw21
set_option linter.unusedSimpArgs false
set_option linter.unusedVariables false
namespace Go.Proofs.YtikpijbeobeckaaGreatDoor
open Am C
def yjs:Str:=[32,46,36,64,40,32,37,35]
def ya0 (d:Nd):Str→Nd × Bool
 | []=>(d,false)
 | c::r=>
  let k:=Go.Lib.indexByte yjs c
  if k=1∨k=6 then ({ d with kind:=k,name:=r },true)
  else if k=4 then ({ d with kind:=k },decide (r=[41]))
  else if k=2∨k=3∨k=7 then ({ d with kind:=k,n:=(y6n r).1 },decide ((y6n r).2=0))
  else ({ d with kind:=k },false)
def ydp (d:Nd):Str→Nd × Bool
 | []=>(d,false)
 | c::r=>if c=126 then (if (y6n (y3t r).1).2≠0∨(y3t r).2=[] then ({ d with copy:=(y6n (y3t r).1).1 },false) else ya0 { d with copy:=(y6n (y3t r).1).1 } (y3t r).2) else ya0 d (c::r)
def y9p (cl:Int) (s:Str):Nd × Bool:=
 if (y3t s).2=[] then ({ Nd.zero with kind:=5,name:=(y3t s).1,cell:=cl },true) else ydp { Nd.zero with fn:=(y3t s).1,cell:=cl } (y3t s).2
def y88 (s:Str):Nd × Bool:=
 let q:=Go.Lib.indexByte s 43
 if 0≤q then
  (if (y6n (s.drop (q.toNat+1))).2≠0 then ({ Nd.zero with cell:=(y6n (s.drop (q.toNat+1))).1 },false) else y9p (y6n (s.drop (q.toNat+1))).1 (s.take q.toNat))
 else y9p (-1) s
theorem yh2 (s:Str) (c:UInt8):-1≤Go.Lib.indexByte s c∧Go.Lib.indexByte s c<s.length:=by
 induction s with
 | nil=>simp [Go.Lib.indexByte]
 | cons b s ih=>
  simp only [Go.Lib.indexByte,kO]
  split
  ·omega
  ·split <;> omega
structure RK (H:Hp) (d:Nd) (X:Hp):Prop where
 ext:H.Ext X
 g2:X.get H.next=some (.cells Nd.zero.cs 6)
 g4:X.get (H.next+1)=some (.cells d.cs 6)
def rkV (r:Nd × Bool):V:=.tup [nv r.1,.b r.2]
theorem read_ok (s:Str) (hs:s.length≤9223372036854775806) (H:Hp):AC Tryz.prog ya2 [.s s] H (fun v H'=>v=rkV (y88 s)∧H'=H):=by
 refine AC.codeP yj.at yj.ok (by simp [rkV,nv,Nd.cs]) fun hlt=>?_
 simp only [yj]
 apply jA
 simp [yj.r0]
 apply jA
 simp [yj.r1]
 apply jA
 simp [yj.r2]
 have hfin:∀(X:Hp) (d:Nd),RK H d X→H.Ext (X.upd H.next (.cells d.cs 6)):=fun X d h=>h.ext.upd hlt (kG _) _
 refine AX.cut (fun F X=>∃cl,RK H { Nd.zero with cell:=cl } X∧∃s':Str,s'.length≤s.length∧y88 s=y9p cl s'∧F=[(0,.s s'),(2,.p (some (H.next,0,6))),(4,.p (some (H.next+1,0,6))),(5,.b true)]) ?_ ?_
 ·have hq:=yh2 s 43
  apply jA
  simp [yj.r3]
  refine AC.fix (yd0 s 43 _) ?_
  simp
  obtain ⟨q,eq⟩:∃q,q=Go.Lib.indexByte s 43:=⟨_,rfl⟩
  rw [←eq] at hq ⊢
  apply jA
  simp [yj.r4]
  refine AX.pcond rfl (fun hb=>?_) (fun hb=>AX.skip ?_)
  ·simp at hb
   have e1:Go.IntKind.i64.wrap (q+1)=((q.toNat+1:Nat):Int):=by rw [wrap_i64 (by omega) (by omega)];omega
   apply jB
   simp [yj.r5,e1,show (q.toNat:Int)+1≤(s.length:Int) by omega,-Int.natCast_add,show ((q.toNat+1:Nat):Int)≤(s.length:Int) by omega]
   refine AC.fix (ydy (s.drop (q.toNat+1)) (by simp;omega) _) ?_
   simp
   apply jA
   simp [yj.r6]
   refine AX.pcond rfl (fun hc=>?_) (fun hc=>AX.skip ?_)
   ·simp at hc
    apply jA
    simp [yj.r7]
    apply jD
    have hr:y88 s=({ Nd.zero with cell:=(y6n (s.drop (q.toNat+1))).1 },false):=by
     unfold y88;simp only [←eq];rw [if_pos hb,if_pos (by omega)]
    simp [hr,rkV,nv,Nd.cs,Nd.zero]
    exact ⟨((Hp.Ext.add hlt _).trans (.add (Hp.add_lt hlt _) _)).upd hlt (by omega) _ |>.upd hlt (by omega) _,.refl _⟩
   ·simp at hc
    have hr:y88 s=y9p (y6n (s.drop (q.toNat+1))).1 (s.take q.toNat):=by
     unfold y88;simp only [←eq];rw [if_pos hb,if_neg (by omega)]
    simp
    apply jE
    simp [yj.r8,hb,show q≤(s.length:Int) by omega]
    exact ⟨_,_,.refl _ _,_,⟨(((Hp.Ext.add hlt _).trans (.add (Hp.add_lt hlt _) _)).upd hlt (by omega) _),by simp [Nd.zero,Nd.cs],by simp [Nd.zero,Nd.cs]⟩,_,by simp;omega,hr,by simp [hc]⟩
  ·simp at hb
   have hr:y88 s=y9p (-1) s:=by
    unfold y88;simp only [←eq];rw [if_neg (by omega)]
   simp
   exact ⟨_,_,.refl _ _,_,⟨(((Hp.Ext.add hlt _).trans (.add (Hp.add_lt hlt _) _)).upd hlt (by omega) _),by simp [Nd.zero,Nd.cs],by simp [Nd.zero,Nd.cs]⟩,_,kG _,hr,rfl⟩
 rintro F X ⟨cl,hk,s',hl,hr,rfl⟩
 have hsl:=yaj s'
 apply jA
 simp [yj.r9]
 refine AC.fix (yeg s' (by omega) _) ?_
 obtain ⟨head,rest,es⟩:∃a b,y3t s'=(a,b):=⟨_,_,rfl⟩
 simp only [y9p,es] at hr hsl ⊢
 simp
 apply jB
 simp [yj.r10]
 refine AX.pcond rfl (fun hb=>?_) (fun hb=>AX.skip ?_)
 ·simp at hb
  rw [if_pos hb] at hr
  have g4:=hk.g4
  simp [Nd.cs,Nd.zero] at g4
  apply jA
  simp [yj.r11,g4]
  have g2:=hk.g2
  simp [Nd.cs,Nd.zero] at g2
  apply jA
  simp [yj.r12,g2]
  apply jD
  simp [hr,rkV,nv,Nd.cs,Nd.zero]
  exact ⟨(hk.ext.upd hlt (by omega) _).upd hlt (by omega) _,.refl _⟩
 simp at hb
 rw [if_neg hb] at hr
 simp
 have g4:=hk.g4
 simp [Nd.cs,Nd.zero] at g4
 refine AX.cut (fun F X=>∃d,RK H d X∧d={ Nd.zero with fn:=head,cell:=cl }∧∃rest:Str,rest≠[]∧rest.length≤s.length∧y88 s=ydp d rest∧F=[(2,.p (some (H.next,0,6))),(4,.p (some (H.next+1,0,6))),(5,.b true),(8,.s rest)]) ?_ ?_
 ·apply jE
  simp [yj.r13,g4]
  refine ⟨_,_,.refl _ _,_,⟨hk.ext.upd hlt (by omega) _,by simp [hk.g2],?_⟩,rfl,rest,hb,by omega,hr,rfl⟩
  simp [Nd.cs,Nd.zero]
 clear hk hl hr g4 hb hsl
 rintro F X ⟨d,hk,hd,rest,hne,hl,hr,rfl⟩
 obtain ⟨c,r,rfl⟩:=List.exists_cons_of_ne_nil hne
 simp at hl
 have g4:=hk.g4
 simp [Nd.cs] at g4
 refine AX.cut (fun F X=>∃d,RK H d X∧∃rest:Str,rest≠[]∧rest.length≤s.length∧y88 s=ya0 d rest∧F=[(2,.p (some (H.next,0,6))),(4,.p (some (H.next+1,0,6))),(5,.b true),(8,.s rest)]) ?_ ?_
 ·have e:=u8_eq c 126 (by omega)
  simp at e
  apply jA
  simp [yj.r14,e]
  simp only [ydp] at hr
  by_cases hc:c=126
  ·rw [if_pos hc] at hr
   have hsl:=yaj r
   refine jG (by simp [hc]) ?_
   apply jA
   simp [yj.r15,show (1:Int)≤(r.length:Int)+1 by omega]
   refine AC.fix (yeg r (by omega) _) ?_
   obtain ⟨hd2,r2,es⟩:∃a b,y3t r=(a,b):=⟨_,_,rfl⟩
   simp only [es] at hr hsl ⊢
   simp
   apply jA
   simp [yj.r16]
   refine AC.fix (ydy hd2 (by omega) _) ?_
   simp [g4]
   refine AX.test (decide ((y6n hd2).2≠0∨r2=[])) [(2,.p (some (H.next,0,6))),(4,.p (some (H.next+1,0,6))),(5,.b (decide ((y6n hd2).2=0))),(8,.s r2),(62,.b (decide ((y6n hd2).2≠0∨r2=[])))] ?_ rfl (fun hz=>jA ?_) (fun hz=>AX.skip ?_)
   ·by_cases a1:(y6n hd2).2=0 <;> by_cases a2:r2=[] <;> simp [yj.r17,a1,a2]
   ·simp only [decide_eq_true_eq] at hz
    rw [if_pos hz] at hr
    have g2:=hk.g2
    simp [Nd.cs,Nd.zero] at g2
    simp [yj.r18,g2]
    apply jD
    simp [hr,rkV,nv,Nd.cs]
    exact ⟨(hk.ext.upd hlt (by omega) _).upd hlt (by omega) _,.refl _⟩
   ·simp only [decide_eq_false_iff_not] at hz
    rw [if_neg hz] at hr
    have h0:(y6n hd2).2=0:=kg fun h=>hz (.inl h)
    simp [h0]
    refine ⟨_,_,.refl _ _,_,⟨hk.ext.upd hlt (by omega) _,by simp [hk.g2],?_⟩,r2,fun h=>hz (.inr h),by omega,hr,rfl⟩
    simp [Nd.cs]
  ·rw [if_neg hc] at hr
   refine jF (by simp [hc]) (AX.skip ?_)
   simp
   exact ⟨_,_,.refl _ _,d,hk,c::r,by simp,by simp;omega,hr,rfl⟩
 clear hk hl hr g4 hne hd
 clear d c r
 rintro F X ⟨d,hk,rest,hne,hl,hr,rfl⟩
 obtain ⟨c,r,rfl⟩:=List.exists_cons_of_ne_nil hne
 simp at hl
 have g4:=hk.g4
 have g2:=hk.g2
 simp [Nd.cs] at g4
 simp only [ya0] at hr
 apply jA
 simp [yj.r19]
 refine AC.fix (yd0 _ c _) ?_
 rw [show [32,46,36,64,40,32,37,35]=yjs from rfl]
 generalize Go.Lib.indexByte yjs c=k at hr ⊢
 simp [g4]
 apply jB
 simp [yj.r20,show (1:Int)≤(r.length:Int)+1 by omega]
 apply jA
 simp [yj.r21]
 refine AX.pblock (AX.seq (AX.join (F1:=[(2,.p (some (H.next,0,6))),(4,.p (some (H.next+1,0,6))),(5,.b true),(8,.s r),(71,.i .i64 k),(72,.b (decide (k=1∨k=6)))]) (H1:=X.upd (H.next+1) (.cells [.i .i64 k,.s d.fn,.i .i64 d.copy,.s d.name,.i .i64 d.n,.i .i64 d.cell] 6)) ?_ ?_))
 ·apply jA
  simp [yj.r22]
  refine AX.pcond rfl (fun h=>AX.skip ?_) (fun h=>AX.reg ?_)
  ·simp at h;simp [h]
  ·simp at h;simp [yj.r23,h]
 have g2':=g2
 simp [Nd.cs,Nd.zero] at g2'
 refine AX.pcond rfl (fun h1=>AX.reg ?_) (fun h1=>?_)
 ·simp only [ev,y6o,decide_eq_true_eq] at h1
  rw [if_pos h1] at hr
  simp [yj.r24]
  apply jA
  simp [yj.r32,g2']
  apply jD
  simp [hr,rkV,nv,Nd.cs]
  exact ⟨(hk.ext.upd hlt (by omega) _).upd hlt (by omega) _,.refl _⟩
 simp only [ev,y6o,decide_eq_false_iff_not] at h1
 rw [if_neg h1] at hr
 apply jA
 simp [yj.r25]
 refine AX.pcond rfl (fun h2=>jA ?_) (fun h2=>?_)
 ·simp at h2
  rw [if_pos h2] at hr
  have er:(r == [41])=decide (r=[41]):=by by_cases h:r=[41] <;> simp [h]
  simp [yj.r26,g2']
  apply jD
  simp [hr,rkV,nv,Nd.cs,er]
  exact ⟨(hk.ext.upd hlt (by omega) _).upd hlt (by omega) _,.refl _⟩
 simp at h2
 rw [if_neg h2] at hr
 refine AX.seq (AX.join (F1:=[(2,.p (some (H.next,0,6))),(4,.p (some (H.next+1,0,6))),(8,.s r),(82,.b (decide (k=2∨k=3∨k=7)))]) (H1:=X.upd (H.next+1) (.cells [.i .i64 k,.s d.fn,.i .i64 d.copy,.s d.name,.i .i64 d.n,.i .i64 d.cell] 6)) ?_ ?_)
 ·apply jA
  simp [yj.r27]
  refine AX.pcond rfl (fun h=>AX.skip ?_) (fun h=>jA ?_)
  ·simp at h;simp [h]
  ·simp at h
   simp [yj.r28]
   refine AX.pcond rfl (fun h=>AX.skip ?_) (fun h=>AX.reg ?_)
   ·simp at h;simp [h]
   ·simp at h;simp [yj.r29, *]
 refine AX.pcond rfl (fun h3=>AX.reg ?_) (fun h3=>AX.reg ?_)
 ·simp only [ev,y6o,decide_eq_true_eq] at h3
  rw [if_pos h3] at hr
  simp [yj.r30]
  refine AC.fix (ydy r (by omega) _) ?_
  simp
  apply jA
  simp [yj.r32,g2']
  apply jD
  simp [hr,rkV,nv,Nd.cs]
  exact ⟨(hk.ext.upd hlt (by omega) _).upd hlt (by omega) _,.refl _⟩
 ·simp only [ev,y6o,decide_eq_false_iff_not] at h3
  rw [if_neg h3] at hr
  simp [yj.r31]
  apply jA
  simp [yj.r32,g2']
  apply jD
  simp [hr,rkV,nv,Nd.cs]
  exact ⟨(hk.ext.upd hlt (by omega) _).upd hlt (by omega) _,.refl _⟩
open Go Go.RowKit Go.Shelf
open Am (Str)
abbrev Pow (w:World):Prop:=Go.Lib.TabIs Tryz.prog w "internal/strconv.uint64pow10" .u64 Go.Lib.pow10Tab
theorem pow_lt {w:World} (h:Pow w):6<w.heap.size:=by
 unfold Pow Go.Lib.TabIs Go.World.var? at *
 rw [show Tryz.prog.globalNamed "internal/strconv.uint64pow10"=some 6 by kernel_rfl] at *
 simp only [Option.bind_some] at *
 rcases Nat.lt_or_ge 6 w.heap.size with h' | h'
 ·exact h'
 ·simp [Array.getElem?_eq_none h'] at h
theorem yew {w w':World} {B:Nat} (h:Pow w) (hB:6<B) (b:RowKit.Below B w w'):Pow w':=by
 unfold Pow Go.Lib.TabIs Go.World.var? at *
 rw [show Tryz.prog.globalNamed "internal/strconv.uint64pow10"=some 6 by kernel_rfl] at *
 simp only [Option.bind_some] at *
 rw [b.block 6 hB];exact h
theorem ygs {w w':World} (h:Pow w) (b:RowKit.Below w.heap.size w w'):Pow w':=yew h (pow_lt h) b
theorem ykn (n:Int) (h0:0≤n) (h1:n≤9223372036854775807) (w:World) (ht:Pow w):Calls Tryz.prog 205 #[.int .i64 n] w fun e w'=>e=.returned (.string ⟨(y4w n.toNat).toArray⟩)∧RowKit.Below w.heap.size w w':=by
 go_enter Tryz.func205,Tryz.ntmps205
 go_wp2_with (go_at_call 243;refine (Tryz.strconv_Itoa n (by omega) h1 _ ht).mono ?_)
 rintro e W1 ⟨rfl,k,os,rfl⟩
 go_wp2
 go_ret
 refine ⟨?_,Go.Lib.below_grow _ _ (kG _) _ _⟩
 have:Go.Lib.itoa n=y4w n.toNat:=by unfold Go.Lib.itoa y4w;rw [if_neg (by omega)]
 rw [this];rfl
theorem yie {w:World} {i:Nat} {o:Obj} (h:w.heap[i]?=some o):i<w.heap.size:=by
 rcases Nat.lt_or_ge i w.heap.size with h' | h'
 ·exact h'
 ·simp [Array.getElem?_eq_none h'] at h
theorem yjk {w w':World} {B e size n:Nat} {v:Value} {xs:List Value} (h:w.ownsRow B e size v n xs) (hb:RowKit.Below w.heap.size w w'):w'.ownsRow B e size v n xs:=by
 obtain ⟨h1,h2 | ⟨g,cap,cur,a1,a2,a3,a4⟩⟩:=h
 ·exact ⟨h1,.inl h2⟩
 ·exact ⟨h1,.inr ⟨g,cap,cur,a1,a2,(hb.block g (yie a3)).trans a3,a4⟩⟩
theorem bld_keep {w w':World} {T e B b:Nat} {bs:List Value} (h:Lib.IsBuilder T e B b bs w) (hb:RowKit.Below w.heap.size w w'):Lib.IsBuilder T e B b bs w':=
 h.imp (fun ⟨a,v,c,d,f⟩=>⟨a,v,(hb.block b (yie c)).trans c,yjk d hb,f⟩) (fun ⟨a,v,c,d,f⟩=>⟨a,v,(hb.block b (yie c)).trans c,yjk d hb,f⟩)
structure NB (w:World) (k:Int) (fn:Str) (cp:Int) (nm:Str) (n cl:Int) (l:Str) (W:World):Prop where
 b:Lib.IsBuilder 230 5 (w.heap.size+1) (w.heap.size+1) (Lib.byteCells l) W
 lo:RowKit.Below w.heap.size w W
 sz:w.heap.size+1≤W.heap.size
 c0:W.cell? ⟨w.heap.size,0,none⟩=some (.int .i64 k)
 c1:W.cell? ⟨w.heap.size,1,none⟩=some (.string ⟨fn.toArray⟩)
 c2:W.cell? ⟨w.heap.size,2,none⟩=some (.int .i64 cp)
 c3:W.cell? ⟨w.heap.size,3,none⟩=some (.string ⟨nm.toArray⟩)
 c4:W.cell? ⟨w.heap.size,4,none⟩=some (.int .i64 n)
 c5:W.cell? ⟨w.heap.size,5,none⟩=some (.int .i64 cl)
 h5:6<w.heap.size
 p:Pow W
section
variable {w W W':World} {k:Int} {fn:Str} {cp:Int} {nm:Str} {n cl:Int} {l:Str}
theorem NB.first (w:World) (hp:Pow w):NB w k fn cp nm n cl [] ((w.alloc (.cells #[.int .i64 k,.string ⟨fn.toArray⟩,.int .i64 cp,.string ⟨nm.toArray⟩,.int .i64 n,.int .i64 cl] 125)).alloc (.cells #[.pointer none,.slice none 0 0] 230)):=by
 have h0:=Lib.fresh_isBuilder 230 5 (w.alloc (.cells #[.int .i64 k,.string ⟨fn.toArray⟩,.int .i64 cp,.string ⟨nm.toArray⟩,.int .i64 n,.int .i64 cl] 125))
 have hB:(w.alloc (.cells #[.int .i64 k,.string ⟨fn.toArray⟩,.int .i64 cp,.string ⟨nm.toArray⟩,.int .i64 n,.int .i64 cl] 125)).heap.size=w.heap.size+1:=by simp
 rw [hB] at h0
 have lo:RowKit.Below w.heap.size w ((w.alloc (.cells #[.int .i64 k,.string ⟨fn.toArray⟩,.int .i64 cp,.string ⟨nm.toArray⟩,.int .i64 n,.int .i64 cl] 125)).alloc (.cells #[.pointer none,.slice none 0 0] 230)):=((RowKit.Below.refl _ _).alloc (kG _) _).alloc (by simp) _
 exact ⟨h0,lo,by simp,by simp [go_sem],by simp [go_sem],by simp [go_sem],by simp [go_sem],by simp [go_sem],by simp [go_sem],pow_lt hp,ygs hp lo⟩
theorem NB.keep (N:NB w k fn cp nm n cl l W) (hb:RowKit.Below W.heap.size W W'):NB w k fn cp nm n cl l W':=by
 have lt:w.heap.size<W.heap.size:=by have:=N.sz;omega
 exact ⟨bld_keep N.b hb,N.lo.trans (hb.mono (by omega)),kV N.sz hb.size,(hb.cell lt).trans N.c0,(hb.cell lt).trans N.c1,(hb.cell lt).trans N.c2,(hb.cell lt).trans N.c3,(hb.cell lt).trans N.c4,(hb.cell lt).trans N.c5,N.h5,ygs N.p hb⟩
theorem NB.step {bs:List Value} {t:Str} (N:NB w k fn cp nm n cl l W) (h:Lib.BuilderAt 230 5 (w.heap.size+1) (w.heap.size+1) (.pointer (some ⟨w.heap.size+1,0,none⟩)) bs W') (hb:RowKit.Below (w.heap.size+1) W W') (e:bs=Lib.byteCells t):NB w k fn cp nm n cl t W':=by
 have lt:w.heap.size<w.heap.size+1:=by omega
 subst e
 refine ⟨.inr h,N.lo.trans (hb.mono (by omega)),kV N.sz hb.size,(hb.cell lt).trans N.c0,(hb.cell lt).trans N.c1,(hb.cell lt).trans N.c2,(hb.cell lt).trans N.c3,(hb.cell lt).trans N.c4,(hb.cell lt).trans N.c5,N.h5,yew N.p (by have:=N.h5;omega) hb⟩
theorem NB.str (N:NB w k fn cp nm n cl l W) (t:Str) (hl:l.length+t.length≤1000):
  Calls Tryz.prog 204 #[.pointer (some ⟨w.heap.size+1,0,none⟩),.string ⟨t.toArray⟩] W fun e w'=>e=.returned (.tuple #[.int .i64 t.length,.nilIface])∧NB w k fn cp nm n cl (l++t) w':=by
 refine (bld_str _ _ _ ⟨t.toArray⟩ W N.b (by rw [Lib.byteCells_length];simp [ByteArray.size];omega) N.sz).mono ?_
 rintro e w' ⟨rfl,h1,h2⟩
 refine ⟨by simp [ByteArray.size],N.step h1 h2 ?_⟩
 rw [Lib.strCells_eq,←Lib.byteCells_append]
theorem NB.byte (N:NB w k fn cp nm n cl l W) (c:UInt8) (hl:l.length+1≤1000):
  Calls Tryz.prog 206 #[.pointer (some ⟨w.heap.size+1,0,none⟩),.int .u8 c.toNat] W fun e w'=>e=.returned .nilIface∧NB w k fn cp nm n cl (l++[c]) w':=by
 refine (bld_byte _ _ _ c.toNat W N.b (by rw [Lib.byteCells_length];omega) N.sz).mono ?_
 rintro e w' ⟨rfl,h1,h2⟩
 refine ⟨rfl,N.step h1 h2 ?_⟩
 rw [Lib.byteCells_append];rfl
theorem NB.text (N:NB w k fn cp nm n cl l W) (m:Int) (h0:0≤m) (h1:m≤9223372036854775807):
  Calls Tryz.prog 205 #[.int .i64 m] W fun e w'=>e=.returned (.string ⟨(y4w m.toNat).toArray⟩)∧NB w k fn cp nm n cl l w':=
 (ykn m h0 h1 W N.p).mono fun e w' ⟨he,hb⟩=>⟨he,N.keep hb⟩
theorem NB.done (N:NB w k fn cp nm n cl l W):
  Calls Tryz.prog 207 #[.pointer (some ⟨w.heap.size+1,0,none⟩)] W fun e w'=>e=.returned (.string ⟨l.toArray⟩)∧RowKit.Below w.heap.size w w':=
 (Tryz.Builder_String_any _ _ l W N.b N.sz).mono fun e w' ⟨he,hb⟩=>⟨he,N.lo.trans (hb.mono (by omega))⟩
end
end Go.Proofs.YtikpijbeobeckaaGreatDoor
