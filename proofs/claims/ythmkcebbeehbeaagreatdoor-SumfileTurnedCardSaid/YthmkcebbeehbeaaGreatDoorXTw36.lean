/- Part 36 of the proof of the laws of the queries: RecS, RecP. -/
import Derived.Test.YthmkcebbeehbeaaGreatDoorXTw35
set_option linter.unusedSimpArgs false
set_option linter.unusedVariables false
namespace Go.Proofs.YthmkcebbeehbeaaGreatDoor
open Am C
def rlF (k:Nat) (zs:List V):AFunc:=⟨22,[],.seq (.post [1,2] (.region y13.r0)) (.seq (.post [2,12,13,14] (.region y13.r1)) (.post [] (.block 0 (.loop
  (.seq (.post [2,12,13,14,15] (.region y13.r2)) (.seq (.post [2,12,13,14] (.cond (.t 15) (.skip) (.exit 0))) (.seq (.post [2,12,13,14] (.block 1 (.seq (.post [2,7,12,13,14] (.region [
  ⟨some 16,none,.op (.iad k (.t 12) (.t 14))⟩,
  ⟨some 17,none,.op (.load true k (.t 16))⟩,
  ⟨some 7,none,.op (.new zs)⟩,
  ⟨none,none,.op (.store k (.t 7) (.t 17))⟩])) (.post [2,12,13,14] (.region [
  ab 18 2,
  ⟨some 19,none,.op (.load true k (.t 7))⟩,
  ⟨some 20,none,.callv (.t 18) [.t 19]⟩]))))) (.post [2,12,13,14] (.region y13.r5)))))))))⟩
theorem rwB.bs {σ:Rw} {n:Nat} (h:rwB σ n):σ.bs.length≤1000000000:=by unfold rwB at h;omega
theorem rwB.ls {σ:Rw} {n:Nat} (h:rwB σ n):σ.l.length≤1000000000:=by unfold rwB at h;omega
theorem yef {α β:Type} (f:α→List β):∀(l:List α),(∀x,1≤(f x).length)→l.length≤(l.flatMap f).length
  | [],_=>by simp
  | x::l,h=>by
    have:=yef f l h
    have:=h x
    rw [List.flatMap_cons,List.length_append,List.length_cons];omega
theorem ybd {vs cs:List V} (h:vs.length=cs.length):setAll cs 0 vs=vs:=by
  apply List.ext_getElem?
  intro j
  rw [ye4 _ _ _ _ (by omega)]
  by_cases hj:j<vs.length
  · rw [if_pos (by omega)];simp
  · rw [if_neg (by omega),List.getElem?_eq_none (by omega),List.getElem?_eq_none (by omega)]
section
variable {B:Hp} {id:Nat} {pv sv:V} {lid:Option Nat} {Z:Nat→Option Blk} {σ:Rw} {X:Hp}
def RlInv {α:Type} (B:Hp) (id:Nat) (pv sv:V) (lid:Option Nat) (Z:Nat→Option Blk) (pool:List Str) (enc:α→List V) (evf:α→List Ev) (one:V) (l:List α) (σ:Rw) (m:Nat) (F:Fr) (Y:Hp):Prop:=
  ∃i,i≤l.length∧m=l.length-i∧RW B id pv sv lid Z (y6t pool σ ((l.take i).flatMap evf)) Y∧rwB (y6t pool σ ((l.take i).flatMap evf)) ((l.drop i).flatMap evf).length∧F=[(2,one),(12,.fs (l.map enc)),(13,.i .i64 l.length),(14,.i .i64 i)]
theorem rlStep {α:Type} {pool:List Str} {evf:α→List Ev} {l:List α} {i:Nat} {σ:Rw} (h:i<l.length) (hb:rwB (y6t pool σ ((l.take i).flatMap evf)) ((l.drop i).flatMap evf).length):
    rwB (y6t pool σ ((l.take i).flatMap evf)) (evf l[i]).length∧y6t pool (y6t pool σ ((l.take i).flatMap evf)) (evf l[i])=y6t pool σ ((l.take (i+1)).flatMap evf)∧rwB (y6t pool σ ((l.take (i+1)).flatMap evf)) ((l.drop (i+1)).flatMap evf).length:=by
  have e1:y6t pool (y6t pool σ ((l.take i).flatMap evf)) (evf l[i])=y6t pool σ ((l.take (i+1)).flatMap evf):=by
    rw [←yem,List.take_add_one,List.getElem?_eq_getElem h,Option.toList_some,List.flatMap_append,List.flatMap_cons,List.flatMap_nil,List.append_nil]
  have e2:(l.drop i).flatMap evf=evf l[i]++(l.drop (i+1)).flatMap evf:=by
    rw [List.drop_eq_getElem_cons h,List.flatMap_cons]
  rw [e2,List.length_append] at hb
  exact ⟨hb.le (by omega),e1,by rw [←e1];exact hb.evs⟩
theorem yf9 {α:Type} (enc:α→List V) (evf:α→List Ev) (k:Nat) (zs:List V) (hk:∀x,(enc x).length=k) (hz:zs.length=k) (h0:0<k) (hc:∀x,(enc x).all y6d=true) {f:Go.FuncId} {fn:Go.Func} (hf:Tryz.prog.funcs[f]?=some fn) (hok:y1o Tryz.prog fn (rlF k zs)=true)
    {pool:List Str} (l:List α) (R:RW B id pv sv lid Z σ X) (one:V)
    (hone:∀x∈l,∀σ' X',RW B id pv sv lid Z σ' X'→rwB σ' (evf x).length→callv Tryz.prog one [.agg (enc x)] X' (fun r Y=>r=.tup []∧RW B id pv sv lid Z (y6t pool σ' (evf x)) Y)) (hb:rwB σ (evL evf l).length) (hll:l.length≤1000000000):
    AC Tryz.prog f [.p (some (id,0,6)),.fs (l.map enc),one] X (fun r Y=>r=.tup []∧RW B id pv sv lid Z (y6t pool σ (evL evf l)) Y):=by
  have hb1:rwB (y8f σ l.length) (l.flatMap evf).length:=by
    have:(evL evf l).length=(l.flatMap evf).length+1:=by simp [evL]
    rw [this] at hb;exact hb.ev pool (.num l.length)
  have hb0:σ.bs.length≤1000000000:=by unfold rwB at hb;omega
  refine AC.code hf hok ?_
  simp only [rlF]
  apply jA
  simp [y13.r0]
  refine (ydh R _ hb0).mono ?_
  rintro _ X1 ⟨rfl,R1⟩
  simp
  apply jA
  simp [y13.r1]
  refine AX.pblock (AX.loop (RlInv B id pv sv lid Z pool enc evf one l (y8f σ l.length)) l.length ⟨_,_,.refl _ _,0,by omega,by omega,by simpa using R1,by simpa using hb1,by simp⟩ ?_)
  rintro m F Y ⟨i,hi,rfl,RY,bY,rfl⟩
  apply jA
  simp [y13.r2]
  refine AX.seq (AX.pcond rfl (fun hd=>AX.skip ?_) (fun hd=>AX.exit ?_))
  · simp at hd
    obtain ⟨b1,b2,b3⟩:=rlStep hd bY
    simp
    have hkl:=hk l[i]
    have hcl:=hc l[i]
    have hne:enc l[i]≠[]:=fun h=>by rw [h] at hkl;simp at hkl;omega
    have hcv:y65 (.agg (enc l[i]))=some (enc l[i]):=by simp only [y65];rw [if_pos hcl]
    have hsa:setAll zs 0 (enc l[i])=enc l[i]:=ybd (by rw [hkl,hz])
    have htk:(enc l[i]).take k=enc l[i]:=List.take_of_length_le (by omega)
    have e1:=RY.lt
    have hup:(Y.add (.cells zs k)).upd Y.next (.cells (enc l[i]) k)=Y.add (.cells (enc l[i]) k):=by
      refine Hp.ext' (fun j=>?_) rfl
      simp only [Hp.get_upd,Hp.get_add]
      split <;> rfl
    have hgk:(Y.add (.cells (enc l[i]) k)).get Y.next=some (.cells (enc l[i]) k):=by simp
    apply jC
    simp [hd,hkl,hz,hcv,-y65,-setAll,hsa,htk,hne,hup]
    have RY2:=RY.more (.add e1 (.cells (enc l[i]) k)) (Hp.add_lt e1 (.cells (enc l[i]) k))
    apply jE
    simp [htk]
    refine callv_mono (hone _ (List.getElem_mem hd) _ _ RY2 b1) ?_
    rintro _ Y3 ⟨rfl,R3⟩
    rw [b2] at R3
    simp
    apply jE
    simp [y13.r5,y7a (show i≤9223372036854775000 by omega)]
    exact ⟨l.length-(i+1),by omega,_,_,.refl _ _,i+1,by omega,rfl,R3,b3,by simp⟩
  · simp at hd
    simp
    have:i=l.length:=by omega
    subst this
    simp at RY
    exact RY
theorem ydw {pool:List Str} (hs:yk3 sv lid) (hp:yav pool pv) (l:List Str) (R:RW B id pv sv lid Z σ X) (hb:rwB σ (evL evW l).length):
    AC Tryz.prog y4w [.p (some (id,0,6)),ss l,.fb y2h [.p (some (id,0,6))]] X (fun r Y=>r=.tup []∧RW B id pv sv lid Z (y6t pool σ (evL evW l)) Y):=by
  have hb1:rwB (y8f σ l.length) (l.flatMap evW).length:=by
    have:(evL evW l).length=(l.flatMap evW).length+1:=by simp [evL]
    rw [this] at hb;exact hb.ev pool (.num l.length)
  have hll:l.length≤100000000:=by
    have:l.length≤(l.flatMap evW).length:=yef evW l (fun x=>by simp [evW])
    unfold rwB at hb1;omega
  have hb0:σ.bs.length≤1000000000:=by unfold rwB at hb;omega
  refine AC.code y13.at y13.ok ?_
  simp only [y13]
  apply jA
  simp [y13.r0,ss]
  refine (ydh R _ hb0).mono ?_
  rintro _ X1 ⟨rfl,R1⟩
  simp
  apply jA
  simp [y13.r1]
  refine AX.pblock (AX.loop (RlInv B id pv sv lid Z pool (fun x=>[.s x]) evW (.fb y2h [.p (some (id,0,6))]) l (y8f σ l.length)) l.length ⟨_,_,.refl _ _,0,by omega,by omega,by simpa using R1,by simpa using hb1,by simp⟩ ?_)
  rintro m F Y ⟨i,hi,rfl,RY,bY,rfl⟩
  simp only [y13.l0]
  apply jA
  simp [y13.r2]
  refine AX.seq (AX.pcond rfl (fun hd=>AX.skip ?_) (fun hd=>AX.exit ?_))
  · simp at hd
    obtain ⟨b1,b2,b3⟩:=rlStep hd bY
    simp
    apply jC
    simp [y13.r3,hd]
    apply jE
    simp [y13.r4]
    refine (ya8 RY hs hp l[i] (by unfold rwB at b1;omega) (by unfold rwB at b1;omega)).mono ?_
    rintro _ Y3 ⟨rfl,R3⟩
    have b2':yht pool (y6t pool (y8f σ l.length) ((l.take i).flatMap evW)) l[i]=y6t pool (y8f σ l.length) ((l.take (i+1)).flatMap evW):=b2
    rw [b2'] at R3
    simp
    apply jE
    simp [y13.r5,y7a (show i≤9223372036854775000 by omega)]
    exact ⟨l.length-(i+1),by omega,_,_,.refl _ _,i+1,by omega,rfl,R3,b3,by simp⟩
  · simp at hd
    simp
    have:i=l.length:=by omega
    subst this
    simp at RY
    exact RY
variable {wb:Nat}
theorem WMark_ok {pool:List Str} (hs:yk3 sv lid) (hp:yav pool pv) (m:Mk) (R:RW B id pv sv lid Z σ X) (hz:Z wb=some (.cells [.p (some (id,0,6))] 1)) (hb:rwB σ (evM m).length):
    AC Tryz.prog y4t [.agg (ya4 m),.p (some (wb,0,1))] X (fun r Y=>r=.tup []∧RW B id pv sv lid Z (y6t pool σ (evM m)) Y):=by
  have hg:=R.z hz
  refine AC.code y1z.at y1z.ok ?_
  simp only [y1z]
  apply jA
  simp [y1z.r0,ya4]
  have b1:=hb.ev (n:=1) pool (.num m.pos)
  apply jA
  simp [y1z.r1,hg]
  refine (ydh R _ (by unfold rwB at hb;omega)).mono ?_
  rintro _ X1 ⟨rfl,R1⟩
  have hg1:=R1.z hz
  simp
  apply jE
  simp [y1z.r2,hg1]
  refine (ya8 R1 hs hp _ b1.bs b1.ls).mono ?_
  rintro _ X2 ⟨rfl,R2⟩
  simp
  exact R2
theorem WObj_ok {pool:List Str} (hs:yk3 sv lid) (hp:yav pool pv) (o:Ob) (R:RW B id pv sv lid Z σ X) (hz:Z wb=some (.cells [.p (some (id,0,6))] 1)) (hb:rwB σ (evO o).length):
    AC Tryz.prog y5b [.agg (y73 o),.p (some (wb,0,1))] X (fun r Y=>r=.tup []∧RW B id pv sv lid Z (y6t pool σ (evO o)) Y):=by
  have hg:=R.z hz
  have hbl:o.marks.length≤1000000000:=by
    have:(evO o).length=3+(o.marks.flatMap evM).length:=by rw [evO,evL,List.length_cons,List.length_cons,List.length_cons];omega
    have h2:o.marks.length≤(o.marks.flatMap evM).length:=yef evM o.marks (fun x=>by simp [evM])
    unfold rwB at hb;omega
  refine AC.code y1s.at y1s.ok ?_
  simp only [y1s]
  apply jA
  simp [y1s.r0,y73]
  have b1:=hb.ev pool (.txt o.name)
  have b2:=b1.ev pool (.txt o.kinds)
  apply jA
  simp [y1s.r1,hg]
  refine (ya8 R hs hp _ hb.bs hb.ls).mono ?_
  rintro _ X1 ⟨rfl,R1⟩
  have hg1:=R1.z hz
  simp
  apply jA
  simp [y1s.r2,hg1]
  refine (ya8 R1 hs hp _ b1.bs b1.ls).mono ?_
  rintro _ X2 ⟨rfl,R2⟩
  have hg2:=R2.z hz
  simp
  apply jE
  simp [y1s.r3,hg2]
  refine (yf9 ya4 evM 2 [.i .i64 0,.s []] (fun _=>rfl) rfl (by omega) (fun _=>by simp [ya4,y6d]) y20.at y20.ok o.marks R2 (.fn y4t [.p (some (wb,0,1))]) (fun m _ σ' X' R' b'=>by simpa using WMark_ok hs hp m R' hz b') b2 hbl).mono ?_
  rintro _ X3 ⟨rfl,R3⟩
  simp
  exact R3
theorem WFn_ok {pool:List Str} (hs:yk3 sv lid) (hp:yav pool pv) (f:Fu) (R:RW B id pv sv lid Z σ X) (hz:Z wb=some (.cells [.p (some (id,0,6))] 1)) (hb:rwB σ (evF f).length):
    AC Tryz.prog y5a [.agg (yaa f),.p (some (wb,0,1))] X (fun r Y=>r=.tup []∧RW B id pv sv lid Z (y6t pool σ (evF f)) Y):=by
  have hg:=R.z hz
  refine AC.code y1r.at y1r.ok ?_
  simp only [y1r]
  apply jA
  simp [y1r.r0,yaa]
  have b1:=hb.ev pool (.txt f.name)
  have b2:=b1.ev pool (.txt f.kinds)
  apply jA
  simp [y1r.r1,hg]
  refine (ya8 R hs hp _ hb.bs hb.ls).mono ?_
  rintro _ X1 ⟨rfl,R1⟩
  have hg1:=R1.z hz
  simp
  apply jA
  simp [y1r.r2,hg1]
  refine (ya8 R1 hs hp _ b1.bs b1.ls).mono ?_
  rintro _ X2 ⟨rfl,R2⟩
  have hg2:=R2.z hz
  simp
  apply jE
  simp [y1r.r3,hg2]
  refine (ya8 R2 hs hp _ b2.bs b2.ls).mono ?_
  rintro _ X3 ⟨rfl,R3⟩
  simp
  exact R3
theorem WCon_ok {pool:List Str} (hs:yk3 sv lid) (hp:yav pool pv) (c:Cn) (R:RW B id pv sv lid Z σ X) (hz:Z wb=some (.cells [.p (some (id,0,6))] 1)) (hb:rwB σ (evC c).length):
    AC Tryz.prog y59 [.agg (y85 c),.p (some (wb,0,1))] X (fun r Y=>r=.tup []∧RW B id pv sv lid Z (y6t pool σ (evC c)) Y):=by
  have hg:=R.z hz
  refine AC.code y15.at y15.ok ?_
  simp only [y15]
  apply jA
  simp [y15.r0,y85]
  have b1:=hb.ev pool (.num c.op)
  have b2:=b1.ev pool (.txt c.a)
  have b3:=b2.ev pool (.txt c.b)
  have b4:=b3.ev pool (.num c.k)
  have b5:=b4.ev pool (.txt c.tag)
  apply jA
  simp [y15.r1,hg]
  refine (ydh R _ hb.bs).mono ?_
  rintro _ X1 ⟨rfl,R1⟩
  have hg1:=R1.z hz
  simp
  apply jA
  simp [y15.r2,hg1]
  refine (ya8 R1 hs hp _ b1.bs b1.ls).mono ?_
  rintro _ X2 ⟨rfl,R2⟩
  have hg2:=R2.z hz
  simp
  apply jA
  simp [y15.r3,hg2]
  refine (ya8 R2 hs hp _ b2.bs b2.ls).mono ?_
  rintro _ X3 ⟨rfl,R3⟩
  have hg3:=R3.z hz
  simp
  apply jA
  simp [y15.r4,hg3]
  refine (ydh R3 _ b3.bs).mono ?_
  rintro _ X4 ⟨rfl,R4⟩
  have hg4:=R4.z hz
  simp
  apply jA
  simp [y15.r5,hg4]
  refine (ya8 R4 hs hp _ b4.bs b4.ls).mono ?_
  rintro _ X5 ⟨rfl,R5⟩
  have hg5:=R5.z hz
  simp
  apply jE
  simp [y15.r6,hg5]
  refine (ydw hs hp c.args R5 b5).mono ?_
  rintro _ X6 ⟨rfl,R6⟩
  simp
  exact R6
theorem yrj {pool:List Str} (hs:yk3 sv lid) (hp:yav pool pv) (s:Su) (R:RW B id pv sv lid Z σ X) (hb:rwB σ (evS s).length):
    AC Tryz.prog y5m [.p (some (id,0,6)),.agg (y6i s)] X (fun r Y=>r=.tup []∧∃Z',RW B id pv sv lid Z' (y6t pool σ (evS s)) Y):=by
  have hsz:(evS s).length=1+((evL evW s.gives).length+((evL evW s.wants).length+((evL evW s.keeps).length+((evL evO s.sys.objs).length+((evL evF s.sys.fns).length+(evL evC s.sys.cons).length))))):=by simp [evS];omega
  have lo:s.sys.objs.length≤(evL evO s.sys.objs).length:=Nat.le_trans (yef evO s.sys.objs (fun x=>by simp [evO])) (by rw [evL,List.length_cons];omega)
  have lf:s.sys.fns.length≤(evL evF s.sys.fns).length:=Nat.le_trans (yef evF s.sys.fns (fun x=>by simp [evF])) (by rw [evL,List.length_cons];omega)
  have lc:s.sys.cons.length≤(evL evC s.sys.cons).length:=Nat.le_trans (yef evC s.sys.cons (fun x=>by simp [evC])) (by rw [evL,List.length_cons];omega)
  have hbig:=hb.2
  have b0:rwB σ ((evL evW s.gives).length+((evL evW s.wants).length+((evL evW s.keeps).length+((evL evO s.sys.objs).length+((evL evF s.sys.fns).length+(evL evC s.sys.cons).length))))+1):=hb.le (by omega)
  have b1:=b0.ev pool (.txt s.name)
  have b2:=b1.evs (pool:=pool)
  have b3:=b2.evs (pool:=pool)
  have b4:=b3.evs (pool:=pool)
  have b5:=b4.evs (pool:=pool)
  have b6:=b5.evs (pool:=pool)
  refine AC.code y12.at y12.ok ?_
  simp only [y12]
  apply jA
  simp [y12.r0,y6i]
  have e1:=R.lt
  have R0:=R.add (.add e1 (.cells [.p (some (id,0,6))] 1)) (Hp.add_lt e1 (.cells [.p (some (id,0,6))] 1)) (b:=.cells [.p (some (id,0,6))] 1) (by simp)
  have hz:(fun j=>if j=X.next then some (Blk.cells [.p (some (id,0,6))] 1) else Z j) X.next=some (.cells [.p (some (id,0,6))] 1):=by simp
  generalize (fun j=>if j=X.next then some (Blk.cells [.p (some (id,0,6))] 1) else Z j)=Z1 at *
  generalize X.add (.cells [.p (some (id,0,6))] 1)=X0 at *
  generalize X.next=wb at *
  have hg0:=R0.z hz
  apply jA
  simp [y12.r1,hg0]
  refine (ya8 R0 hs hp _ b0.bs b0.ls).mono ?_
  rintro _ X1 ⟨rfl,R1⟩
  have hg1:=R1.z hz
  simp
  apply jA
  simp [y12.r2,hg1]
  refine (ydw hs hp s.gives R1 (b1.le (by omega))).mono ?_
  rintro _ X2 ⟨rfl,R2⟩
  have hg2:=R2.z hz
  simp
  apply jA
  simp [y12.r3,hg2]
  refine (ydw hs hp s.wants R2 (b2.le (by omega))).mono ?_
  rintro _ X3 ⟨rfl,R3⟩
  have hg3:=R3.z hz
  simp
  apply jA
  simp [y12.r4,hg3]
  refine (ydw hs hp s.keeps R3 (b3.le (by omega))).mono ?_
  rintro _ X4 ⟨rfl,R4⟩
  have hg4:=R4.z hz
  simp
  apply jA
  simp [y12.r5,hg4]
  refine (yf9 y73 evO 3 [.s [],.s [],.sl none 0 0] (fun _=>rfl) rfl (by omega) (fun _=>by simp [y73,y6d]) y21.at y21.ok s.sys.objs R4 (.fn y5b [.p (some (wb,0,1))]) (fun m _ σ' X' R' b'=>by simpa using WObj_ok hs hp m R' hz b') (b4.le (by omega)) (by omega)).mono ?_
  rintro _ X5 ⟨rfl,R5⟩
  have hg5:=R5.z hz
  simp
  apply jA
  simp [y12.r6,hg5]
  refine (yf9 yaa evF 3 [.s [],.s [],.s []] (fun _=>rfl) rfl (by omega) (fun _=>by simp [yaa,y6d]) y27.at y27.ok s.sys.fns R5 (.fn y5a [.p (some (wb,0,1))]) (fun m _ σ' X' R' b'=>by simpa using WFn_ok hs hp m R' hz b') (b5.le (by omega)) (by omega)).mono ?_
  rintro _ X6 ⟨rfl,R6⟩
  have hg6:=R6.z hz
  simp
  apply jE
  simp [y12.r7,hg6]
  refine (yf9 y85 evC 6 [.i .i64 0,.s [],.s [],.i .i64 0,.s [],.sl none 0 0] (fun _=>rfl) rfl (by omega) (fun _=>by simp [y85,y6d,ss]) y22.at y22.ok s.sys.cons R6 (.fn y59 [.p (some (wb,0,1))]) (fun m _ σ' X' R' b'=>by simpa using WCon_ok hs hp m R' hz b') b6 (by omega)).mono ?_
  rintro _ X7 ⟨rfl,R7⟩
  simp
  refine ⟨Z1,?_⟩
  have:y6t pool σ (evS s)=y6t pool (y6t pool (y6t pool (y6t pool (y6t pool (y6t pool (rwEv pool σ (.txt s.name)) (evL evW s.gives)) (evL evW s.wants)) (evL evW s.keeps)) (evL evO s.sys.objs)) (evL evF s.sys.fns)) (evL evC s.sys.cons):=by
    simp only [evS,ycm,yem]
  rw [this];exact R7
end
theorem Am.free_fp {cs:List V} (off:Nat) (h:∀v∈cs,yb5 v):yb5 (.fp cs off):=.fp cs off (yg3 h)
theorem RW.start {B X:Hp} {id:Nat} {pv sv:V} {lid:Option Nat} (hB:∀k blk,B.get k=some blk→k<B.next) (hx:B.Ext X) (hl:∀k blk,X.get k=some blk→k<X.next) (lo:B.next≤id)
    (hg:X.get id=some (.cells [.pz 109 6 id 6,.sl none 0 0,.i .i64 0,pv,sv,.i .i64 0] 6)) (hk:∀k,lid=some k→X.get k=some (.cells [.sl none 0 0] 1)∧k≠id∧B.next≤k):RW B id pv sv lid (fun _=>none) ⟨0,[],0,[]⟩ X:=by
  have A:Acc B 1 (.sl none 0 0) X []:=Acc.nil 1 0 hx hl
  refine ⟨.sl none 0 0,.sl none 0 0,[],⟨hB,by kernel_rfl,rfl,lo,A,trivial,_,_,6,hg,by omega,.inr rfl,.inl ⟨rfl,0,rfl⟩⟩,A,fun j=>.inl trivial,trivial,fun k h=>?_,fun k blk h=>by cases h⟩
  obtain ⟨a,b,c⟩:=hk k h
  exact ⟨rfl,a,trivial,trivial,b,c⟩
theorem ygg (s:Su) (hb:(evS s).length≤1000000) (H:Hp):AC Tryz.prog y97 [.agg (y6i s)] H (fun v H'=>v=ss (y3i s)∧H'=H):=by
  refine AC.codeP y2s.at y2s.ok (ybo _) fun hlt=>?_
  simp only [y2s]
  apply jA
  simp [y2s.r0,y6i]
  apply jA
  simp [y2s.r1]
  apply jA
  simp [y2s.r2]
  have e1:=Am.Hp.Ext.add hlt (.cells [.sl none 0 0] 1)
  have l1:=Hp.add_lt hlt (.cells [.sl none 0 0] 1)
  have e2:=e1.trans (Am.Hp.Ext.add l1 (.cells [.pz 109 6 (H.next+1) 6,.sl none 0 0,.i .i64 0,.p none,.fn y4x [.p (some (H.next,0,1))],.i .i64 0] 6))
  have l2:=Hp.add_lt l1 (.cells [.pz 109 6 (H.next+1) 6,.sl none 0 0,.i .i64 0,.p none,.fn y4x [.p (some (H.next,0,1))],.i .i64 0] 6)
  have R0:RW H (H.next+1) (.p none) (.fn y4x [.p (some (H.next,0,1))]) (some H.next) (fun _=>none) ⟨0,[],0,[]⟩ ((H.add (.cells [.sl none 0 0] 1)).add (.cells [.pz 109 6 (H.next+1) 6,.sl none 0 0,.i .i64 0,.p none,.fn y4x [.p (some (H.next,0,1))],.i .i64 0] 6)):=
    RW.start hlt e2 l2 (by omega) (by simp) (fun k h=>by injection h with h;subst h;exact ⟨by simp,by omega,Nat.le_refl _⟩)
  generalize (H.add (.cells [.sl none 0 0] 1)).add (.cells [.pz 109 6 (H.next+1) 6,.sl none 0 0,.i .i64 0,.p none,.fn y4x [.p (some (H.next,0,1))],.i .i64 0] 6)=X0 at *
  apply jA
  simp [y2s.r3]
  have hp:yav [] (.p none):=⟨by simp [y3o],by simp,.inl ⟨rfl,rfl⟩⟩
  have hrun:=yrj (pool:=[]) (.inl ⟨_,rfl,rfl⟩) hp s R0 (by unfold rwB;simp;omega)
  simp only [y6i] at hrun
  refine hrun.mono ?_
  rintro _ Y ⟨rfl,Z',R⟩
  simp
  obtain ⟨v,lv,es,W,A,d,sp,hk,hz⟩:=R.ex
  obtain ⟨rfl,gk,_,_,_,_⟩:=hk _ rfl
  have hl:(y6t [] ⟨0,[],0,[]⟩ (evS s)).l=txs (evS s):=by rw [ykl];rfl
  rw [hl] at A
  have htl:∀es:List Ev,(txs es).length≤es.length:=fun es=>by
    induction es with
    | nil=>simp [txs]
    | cons x r ih=>cases x <;> simp [txs] <;> omega
  apply jA
  simp [y2s.r4,gk]
  refine AC.frz (fun j=>¬yc2 lv j) (AC.fix (yhn (txs (evS s)) (by have:=htl (evS s);omega) _) ?_) rfl (fun j a b ha hb=>by
    cases j with
    | zero=>simp at ha hb;subst ha;subst hb;exact A.frzS
    | succ j=>simp at ha)
  simp
  apply jD
  simp
  refine ⟨⟨A.ext.1,fun k blk h=>?_⟩,.refl _⟩
  exact Hp.wo_get (A.ext.2 _ _ h) (fun h2=>h2 (A.sepOld (hlt _ _ h)))
theorem POf_ok (l:List Str) (hl:l.length≤1000000) (H:Hp):AC Tryz.prog yfw [ss l] H (fun v H'=>v=.fp [ss (y5r l)] 0∧H'=H):=by
  refine AC.codeP y68.at y68.ok (free_fp _ (fun v h=>by simp at h;subst h;exact ybo _)) fun hlt=>?_
  simp only [y68]
  apply jA
  simp [y68.r0]
  apply jA
  simp [y68.r1]
  refine AC.fix (yhn l hl _) ?_
  simp [ss]
  apply jD
  simp
  exact ⟨.add hlt _,.p _ _ _ 1 [ss (y5r l)] [ss (y5r l)] (Nat.le_refl _) (by simp [ss]) (by omega) (by simp) (by simp) (fun j v u hj hu=>by rw [hj] at hu;injection hu with hu;subst hu;exact .refl _)⟩
theorem yh3 (τ:Qw) (n:Int) (h:(yb1 τ n).e=0):τ.e=0∧τ.bs.length+1≤(yb1 τ n).bs.length:=by
  unfold yb1 at h ⊢
  split at h
  · rename_i he;exact (he h).elim
  · rename_i he
    rw [if_neg he]
    split at h
    · simp at h
    · rename_i hn
      rw [if_neg hn]
      have:=List.length_pos_iff.2 (ykf n.toNat)
      simp at he ⊢
      exact ⟨he,by omega⟩
theorem ype (pool:List Str) (τ:Qw) (x:Ev) (h:(yk8 pool τ x).e=0):τ.e=0∧τ.bs.length+1≤(yk8 pool τ x).bs.length:=by
  cases x with
  | num n=>exact yh3 τ n h
  | txt s=>
    simp only [yk8,yko] at h ⊢
    obtain ⟨h1,h2⟩:=yh3 _ _ h
    refine ⟨?_,h2⟩
    simp only at h1
    split at h1
    · simp at h1
    · exact h1
theorem yh4 (pool:List Str):∀(es:List Ev) (τ:Qw),(ycw pool τ es).e=0→τ.e=0∧τ.bs.length+es.length≤(ycw pool τ es).bs.length
  | [],τ,h=>⟨h,by simp⟩
  | x::es,τ,h=>by
    obtain ⟨h1,h2⟩:=yh4 pool es _ h
    obtain ⟨h3,h4⟩:=ype pool τ x h1
    exact ⟨h3,by rw [y9t,List.length_cons];omega⟩
theorem ylm (pool:List Str) (hr:y3o pool) (hl:pool.length≤1000000000) (s:Su) (hb:(evS s).length≤1000000) (H:Hp):
    AC Tryz.prog yar [.fp [ss pool] 0,.agg (y6i s)] H (fun v H'=>v=.tup [.s (yij pool s).1,.i .i64 (yij pool s).2]∧H'=H):=by
  refine AC.codeP y2k.at y2k.ok (ycs (by simp)) fun hlt=>?_
  simp only [y2k]
  apply jA
  simp [y2k.r0,y6i]
  apply jA
  simp [y2k.r1]
  have e1:=Am.Hp.Ext.add hlt (.cells [.pz 109 6 H.next 6,.sl none 0 0,.i .i64 0,.fp [ss pool] 0,.fn y5i [],.i .i64 0] 6)
  have l1:=Hp.add_lt hlt (.cells [.pz 109 6 H.next 6,.sl none 0 0,.i .i64 0,.fp [ss pool] 0,.fn y5i [],.i .i64 0] 6)
  have R0:RW H H.next (.fp [ss pool] 0) (.fn y5i []) none (fun _=>none) ⟨0,[],0,[]⟩ (H.add (.cells [.pz 109 6 H.next 6,.sl none 0 0,.i .i64 0,.fp [ss pool] 0,.fn y5i [],.i .i64 0] 6)):=
    RW.start hlt e1 l1 (by omega) (by simp) (fun k h=>by cases h)
  simp only [y5i] at R0 e1 l1
  generalize H.add (.cells [.pz 109 6 H.next 6,.sl none 0 0,.i .i64 0,.fp [ss pool] 0,.fn 74 [],.i .i64 0] 6)=X0 at *
  apply jA
  simp [y2k.r2]
  have hrun:=yrj (pool:=pool) (.inr ⟨rfl,rfl⟩) ⟨hr,hl,.inr rfl⟩ s R0 (by unfold rwB;simp;omega)
  simp only [y6i] at hrun
  refine hrun.mono ?_
  rintro _ Y ⟨rfl,Z',R⟩
  have hRQ:=RQ.evs (pool:=pool) (evS s) RQ.start
  have hgr:=yh4 pool (evS s) qw0
  generalize y6t pool ⟨0,[],0,[]⟩ (evS s)=σ at *
  unfold yij
  generalize ycw pool qw0 (evS s)=τ at *
  obtain ⟨q1,q2,q3⟩:=hRQ
  obtain ⟨v,lv,es,W,A,d,sp,hk,hz⟩:=R.ex
  obtain ⟨a,buf,m,hg,hm,h⟩:=W.ex
  simp
  apply jB
  simp [y2k.r3,hg,hm]
  by_cases he:σ.e=0
  · have ht:τ.e=0:=by rw [←q1];exact he
    obtain ⟨q4,q5⟩:=q2 he
    refine jF (by simp [he]) (AX.skip ?_)
    simp
    apply jA
    simp [y2k.r5,hg,hm]
    have hne:σ.bs≠[]:=fun h0=>by
      have:=(hgr ht).2
      rw [←q5,h0] at this
      simp [evS] at this
    refine (yih W hne).mono ?_
    rintro _ X2 ⟨rfl,n2,k2⟩
    rw [q4]
    simp
    apply jD
    simp [ht,q5]
    exact ⟨⟨by rw [n2];exact W.acc.ext.1,fun k blk h=>k2 _ _ (W.acc.ext.2 _ _ h) (W.acc.sepOld (hlt _ _ h))⟩,.refl _⟩
  · have ht:τ.e≠0:=by rw [←q1];exact he
    refine jG (by simp [he]) ?_
    refine AX.seq (AX.drw ?_)
    simp [y2k.r4,hg,hm]
    apply jD
    simp [ht,q1]
    exact ⟨W.acc.ext,.refl _⟩
end Go.Proofs.YthmkcebbeehbeaaGreatDoor
