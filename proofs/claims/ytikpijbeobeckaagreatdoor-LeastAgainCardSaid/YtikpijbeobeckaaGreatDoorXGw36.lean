/- Part 36. -/
import Derived.Test.YtikpijbeobeckaaGreatDoorXGw20
import Derived.Test.YtikpijbeobeckaaGreatDoorXGw26
set_option linter.unusedSimpArgs false
set_option linter.unusedVariables false
namespace Go.Proofs.YtikpijbeobeckaaGreatDoor
open Am C
theorem Trim_ok (s t:Str) (hs:s.length≤9223372036854775807) (ht:t.length<4294967281) (ha:t.all (fun b=>decide (b.toNat<128))=true) (H:Hp):AC Tryz.prog yaz [.s s,.s t] H (fun v H'=>v=.s (Go.Lib.trimS s t)∧H'=H):=by
 refine AC.below (by kernel_rfl) fun κ cs r=>?_
 obtain ⟨a,b,rfl,ra,rb⟩:=r.two'
 obtain rfl:=ymk ra
 obtain rfl:=ymk rb
 refine ⟨_,fun κ'=>.s _,?_⟩
 refine (Go.Proofs.Any.strings_Trim_laid Tryz.lays160 (by kernel_rfl) ⟨s.toArray⟩ ⟨t.toArray⟩ κ.w (show s.toArray.size≤9223372036854775807 by simpa using hs) (show t.toArray.size<4294967281 by simpa using ht) (by simpa using Go.Proofs.ascii_of_all ha)).mono fun e w' ⟨he,hw⟩=>⟨?_,hw⟩
 rw [he]
theorem yq7 (s:Str) (c:UInt8) (H:Hp):AC Tryz.prog y5v [.s s,.s [c]] H (fun v H'=>v=.i .i64 (Go.Lib.indexByte s c)∧H'=H):=by
 refine AC.below (by kernel_rfl) fun κ cs r=>?_
 obtain ⟨a,b,rfl,ra,rb⟩:=r.two'
 obtain rfl:=ymk ra
 obtain rfl:=ymk rb
 refine ⟨_,fun κ'=>.i _ _,?_⟩
 refine (Tryz.stringslite_Index_one ⟨s.toArray⟩ c κ.w).mono fun e w' ⟨he,hw⟩=>⟨?_,?_⟩
 ·rw [he]
 ·rw [hw];exact .refl _ _
theorem trim_nil (s:Str):(Go.Lib.trimS s [105,112]=[])=(kpB s=true):=by
 have hp:∀l:Str,l.all (List.contains [105,112])=kpB l:=fun l=>by
  unfold kpB
  congr 1
  funext c
  simp [List.contains,List.elem]
  cases c == 105 <;> cases c == 112 <;> rfl
 apply propext
 unfold Go.Lib.trimS Go.Lib.trimLeftS Go.Lib.trimRightS
 rw [y8b,←hp s]
 constructor
 ·intro h
  rw [List.all_reverse] at h
  have hd:s.reverse.dropWhile (List.contains [105,112])=[]:=by
   cases hx:s.reverse.dropWhile (List.contains [105,112]) with
   | nil=>rfl
   | cons c r=>
    have h1:=List.head_dropWhile_not (List.contains [105,112]) (l:=s.reverse) (by rw [hx];simp)
    rw [hx] at h
    simp only [hx,List.head_cons] at h1
    simp only [List.all_cons,kF] at h
    rw [h1] at h;exact absurd h.1 (by simp)
  rw [y8b,List.all_reverse] at hd
  exact hd
 ·intro h
  have:s.reverse.dropWhile (List.contains [105,112])=[]:=by rw [y8b,List.all_reverse];exact h
  rw [this];rfl
theorem y9i (s:Str) (n:Int) (hs:s.length≤9223372036854775807) (H:Hp):AC Tryz.prog y4n [.s s,.i .i64 n] H (fun v H'=>v=.b (kpB s&&decide ((s.length:Int)≤n))∧H'=H):=by
 refine AC.code y2i.at y2i.ok ?_
 simp only [y2i]
 apply jA
 simp [y2i.r0]
 apply jA
 simp [y2i.r1]
 refine AC.fix (Trim_ok s [105,112] hs (by simp) (by rfl) _) ?_
 have ht:=trim_nil s
 by_cases h:Go.Lib.trimS s [105,112]=[]
 ·have hk:kpB s=true:=by rw [←ht];exact h
  simp [h]
  apply jD
  simp [hk]
 ·have hk:kpB s=false:=by
   cases e:kpB s
   ·rfl
   ·exact absurd (by rw [ht];exact e) h
  simp [h,show (Go.Lib.trimS s [105,112] == [])=false by simpa using h]
  apply jD
  simp [hk]
theorem ydm (s:Str) (hs:s.length≤9223372036854775807) (H:Hp):AC Tryz.prog y66 [.s s] H (fun v H'=>v=.b (yko s)∧H'=H):=by
 refine AC.code y2r.at y2r.ok ?_
 simp only [y2r]
 apply jA
 simp [y2r.r0]
 apply jA
 by_cases h:s=[]
 ·simp [y2r.r1,h]
  apply jD
  simp [yko]
 ·have h1:1≤s.length:=by cases s <;> simp_all
  simp [y2r.r1,h,show (s == [])=false by simpa using h]
  apply jD
  simp [yko,h1]
theorem y77 (s:Str) (hs:s.length≤9223372036854775806) (H:Hp):AC Tryz.prog y5f [.s s] H (fun v H'=>v=.b (y6t s)∧H'=H):=by
 refine AC.codeP y2t.at y2t.ok (by simp) fun hlt=>?_
 simp only [y2t]
 apply jA
 simp [y2t.r0]
 apply jA
 simp [y2t.r1]
 refine AC.fix (y8q s hs _) ?_
 cases hr:y56 s with
 | none=>
  simp [rdV,nv,Nd.cs,Nd.zero]
  apply jA
  simp [y2t.r2]
  apply jD
  simp [y6t,hr]
  exact ⟨(Hp.Ext.add hlt _).upd hlt (kG _) _,.refl _⟩
 | some d=>
  simp [rdV,nv,Nd.cs]
  apply jA
  by_cases hk:d.kind≤3
  ·simp [y2t.r2,hk]
   apply jD
   simp [y6t,hr,hk]
   exact ⟨(Hp.Ext.add hlt _).upd hlt (kG _) _,.refl _⟩
  ·simp [y2t.r2,hk]
   apply jD
   simp [y6t,hr,hk]
   exact ⟨(Hp.Ext.add hlt _).upd hlt (kG _) _,.refl _⟩
theorem ypz (s:Str) (hs:s.length≤9223372036854775806) (H:Hp):AC Tryz.prog y8s [.s s] H (fun v H'=>v=.b (y85 s)∧H'=H):=by
 refine AC.codeP y2p.at y2p.ok (by simp) fun hlt=>?_
 simp only [y2p]
 apply jA
 simp [y2p.r0]
 apply jA
 simp [y2p.r1]
 refine AC.fix (y8q s hs _) ?_
 cases hr:y56 s with
 | none=>
  simp [rdV,nv,Nd.cs,Nd.zero]
  apply jA
  simp [y2p.r2]
  apply jD
  simp [y85,hr]
  exact ⟨(Hp.Ext.add hlt _).upd hlt (kG _) _,.refl _⟩
 | some d=>
  simp [rdV,nv,Nd.cs]
  apply jA
  by_cases hk:d.kind=4
  ·simp [y2p.r2,hk]
   apply jD
   simp [y85,hr,hk]
   exact ⟨(Hp.Ext.add hlt _).upd hlt (kG _) _,.refl _⟩
  ·simp [y2p.r2,hk]
   apply jD
   simp [y85,hr,hk]
   exact ⟨(Hp.Ext.add hlt _).upd hlt (kG _) _,.refl _⟩
theorem ykq (t:Str):(ybm t=none→Go.Lib.indexByte t 62=-1)∧∀l r,ybm t=some (l,r)→Go.Lib.indexByte t 62=l.length∧t=l++62::r:=by
 refine ⟨fun h=>?_,fun l r h=>?_⟩
 ·refine ycu fun hm=>?_
  obtain ⟨i,hi,he⟩:=List.mem_iff_getElem.1 hm
  have:∀{q:Str},(62:UInt8)∈q→ybm q≠none:=by
   intro q
   induction q with
   | nil=>intro h;cases h
   | cons a q ih=>
    intro h
    unfold ybm
    split
    ·simp
    ·rename_i ha
     have:(62:UInt8)∈q:=(List.mem_cons.1 h).resolve_left fun e=>ha e.symm
     have:=ih this
     cases hq:ybm q with
     | none=>exact absurd hq this
     | some x=>simp
  exact this hm h
 ·have:∀{q l r:Str},ybm q=some (l,r)→(62:UInt8)∉l∧q=l++62::r:=by
   intro q
   induction q with
   | nil=>intro l r h;simp [ybm] at h
   | cons a q ih=>
    intro l r h
    unfold ybm at h
    split at h
    ·rename_i ha
     injection h with h;injection h with h1 h2
     subst h1;subst h2;subst ha;simp
    ·rename_i ha
     cases hq:ybm q with
     | none=>rw [hq] at h;cases h
     | some x=>
      rw [hq] at h;injection h with h;injection h with h1 h2
      obtain ⟨g1,g2⟩:=ih (l:=x.1) (r:=x.2) (by rw [hq])
      subst h1;subst h2
      refine ⟨?_,by rw [List.cons_append,←g2]⟩
      simp only [kK,not_or]
      exact ⟨fun e=>ha e.symm,g1⟩
  obtain ⟨h1,h2⟩:=this h
  refine ⟨?_,h2⟩
  rw [h2]
  exact ycv h1
def cutV (t:Str):V:=match ybm t with
 | none=>.tup [.s t,.s [],.b false]
 | some (l,r)=>.tup [.s l,.s r,.b true]
theorem Cut0_ok (t:Str) (ht:t.length≤9223372036854775807) (H:Hp):AC Tryz.prog y4u [.s t,.s [62]] H (fun v H'=>v=cutV t∧H'=H):=by
 refine AC.code y1d.at y1d.ok ?_
 simp only [y1d]
 apply jA
 simp [y1d.r0]
 apply jB
 simp [y1d.r1]
 refine AC.fix (yq7 t 62 _) ?_
 have hi:=ykq t
 unfold cutV
 cases hs:ybm t with
 | none=>
  rw [hi.1 hs]
  simp
  apply jA
  simp [y1d.r2]
  refine jF rfl (AX.skip ?_)
  simp
  apply jA
  simp [y1d.r4]
  apply jD
  simp
 | some x=>
  obtain ⟨l,r⟩:=x
  obtain ⟨h1,h2⟩:=hi.2 l r hs
  rw [h1]
  simp
  apply jA
  simp [y1d.r2]
  refine jG rfl ?_
  have hlen:t.length=l.length+r.length+1:=by rw [h2];simp;omega
  have w1:IntKind.i64.wrap ((l.length:Int)+1)=(l.length:Int)+1:=wrap_i64 (by omega) (by omega)
  have e1:t.take l.length=l:=by rw [h2];simp
  have e2:t.drop (l.length+1)=r:=by rw [h2];simp
  refine AX.seq (AX.drw ?_)
  simp [y1d.r3,w1,e1,show l.length≤t.length by omega,show (0:Int)≤(l.length:Int)+1 by omega,show (l.length:Int)+1≤(t.length:Int) by omega,show ((l.length:Int)+1).toNat=l.length+1 by omega,e2]
  apply jD
  simp
theorem Cut_ok (t:Str) (ht:t.length≤9223372036854775807) (H:Hp):AC Tryz.prog y89 [.s t,.s [62]] H (fun v H'=>v=cutV t∧H'=H):=by
 refine AC.code y3j.at y3j.ok ?_
 simp only [y3j]
 apply jA
 simp [y3j.r0]
 apply jA
 simp [y3j.r1]
 refine AC.fix (Cut0_ok t ht _) ?_
 unfold cutV
 cases hs:ybm t with
 | none=>simp;apply jD;simp
 | some x=>simp;apply jD;simp
theorem yh1 (x:Int) (H:Hp):AC Tryz.prog y70 [.i .i64 x] H (fun v H'=>v=.b false∧H'=H):=by
 refine AC.code y38.at y38.ok ?_
 simp only [y38]
 apply jA
 simp [y38.r0]
 apply jA
 simp [y38.r1]
 apply jD
 simp
theorem yeh (x y:Int) (H:Hp):AC Tryz.prog y67 [.i .i64 x,.i .i64 y] H (fun v H'=>v=.i .i64 (yad x y)∧H'=H):=by
 refine AC.code y16.at y16.ok ?_
 simp only [y16]
 apply jA
 simp [y16.r0]
 apply jA
 simp [y16.r1]
 refine AC.fix (yh1 _ _) ?_
 simp
 apply jA
 simp [y16.r2]
 refine AC.fix (yh1 _ _) ?_
 simp
 apply jB
 simp [y16.r3]
 refine jF rfl (AX.skip ?_)
 simp
 apply jB
 simp [y16.r7]
 refine jF rfl (AX.skip ?_)
 simp
 apply jB
 simp [y16.r9]
 refine AX.pcond rfl (fun h=>jA ?_) (fun h=>AX.skip ?_)
 ·simp at h
  simp [y16.r10]
  apply jD
  simp [yad,h]
 simp at h
 simp
 apply jB
 simp [y16.r11]
 refine AX.pcond rfl (fun h2=>jA ?_) (fun h2=>AX.skip ?_)
 ·simp at h2
  simp [y16.r12]
  apply jD
  simp [yad,show ¬x<y by omega,show ¬x=y by omega]
 simp at h2
 simp
 apply jA
 simp [y16.r13]
 apply jD
 simp [yad,show ¬x<y by omega,show x=y by omega]
def OrInv (R:List Int) (H:Hp) (m:Nat) (F:Fr) (X:Hp):Prop:=
 ∃i,i≤R.length∧m=R.length-i∧orI (R.take i)=0∧X=H∧F=[(3,.i .i64 0),(6,.fs (zi R)),(7,.i .i64 R.length),(8,.i .i64 i)]
theorem Or_ok (R:List Int) (hR:R.length≤1000) (H:Hp):AC Tryz.prog ya6 [.fs (zi R)] H (fun v H'=>v=.i .i64 (orI R)∧H'=H):=by
 refine AC.code y1x.at y1x.ok ?_
 simp only [y1x]
 apply jA
 simp [y1x.r0]
 apply jA
 simp [y1x.r1]
 apply jB
 simp [y1x.r2]
 refine AX.pblock (AX.loop (OrInv R H) R.length ⟨_,_,.refl _ _,0,by omega,by omega,rfl,rfl,by simp [zi]⟩ ?_)
 rintro m F X ⟨i,hi,rfl,ho,rfl,rfl⟩
 simp only [y1x.l0]
 apply jA
 simp [y1x.r3]
 refine AX.seq (AX.pcond rfl (fun hd=>AX.skip ?_) (fun hd=>AX.exit ?_))
 case refine_2=>
  simp at hd
  rw [kI hd] at ho
  simp
  apply jA
  simp [y1x.r8]
  apply jD
  simp [ho]
 simp at hd
 have hg:R[i]?=some R[i]:=kC hd
 have hsp:orI R=if R[i]≠0 then R[i] else orI (R.drop (i+1)):=by
  conv=>lhs;rw [←List.take_append_drop i R,kP hd]
  rw [y93]
  simp [ho,orI]
 have hst:orI (R.take (i+1))=R[i]:=by
  rw [kJ,hg,y93]
  simp [ho,orI]
  exact fun h=>h.symm
 simp
 apply jC
 simp [y1x.r4,hd,zi,hg]
 apply jA
 simp [y1x.r5]
 refine AX.pcond rfl (fun he=>?_) (fun he=>AX.skip ?_)
 ·simp at he
  apply jA
  simp [y1x.r6]
  apply jD
  simp [hsp,he]
 simp at he
 simp
 apply jE
 simp [y1x.r7,y2g hd (show R.length≤9223372036854775807 by omega)]
 exact ⟨R.length-(i+1),by omega,_,_,.refl _ _,i+1,by omega,rfl,by rw [hst,he],rfl,by simp [zi]⟩
def CmLInv (a b:List Str) (H:Hp) (m:Nat) (F:Fr) (X:Hp):Prop:=
 ∃i,i≤a.length∧i≤b.length∧m=a.length-i∧ycz a b=ycz (a.drop i) (b.drop i)∧X=H∧F=[(0,ss a),(1,ss b),(9,ss a),(10,.i .i64 a.length),(11,.i .i64 i)]
theorem yj5 (a b:List Str) (ha:a.length≤9223372036854775807) (hb:b.length≤9223372036854775807) (H:Hp):AC Tryz.prog y45 [ss a,ss b] H (fun v H'=>v=.i .i64 (ycz a b)∧H'=H):=by
 refine AC.code ye.at ye.ok ?_
 simp only [ye]
 apply jA
 simp [ye.r0]
 apply jB
 simp [ye.r1,ss]
 refine AX.pblock (AX.loop (CmLInv a b H) a.length ⟨_,_,.refl _ _,0,by omega,by omega,by omega,rfl,rfl,by simp [ss]⟩ ?_)
 rintro m F X ⟨i,hia,hib,rfl,hc,rfl,rfl⟩
 simp only [ye.l0]
 apply jA
 simp [ye.r2]
 refine AX.seq (AX.pcond rfl (fun hd=>AX.skip ?_) (fun hd=>AX.exit ?_))
 case refine_2=>
  simp at hd
  rw [List.drop_eq_nil_of_le hd] at hc
  have e:ycz a b=if a.length<b.length then -1 else 0:=by
   rw [hc]
   simp only [ycz,cmpN,List.length_drop]
   by_cases h:a.length<b.length
   ·rw [if_pos (by omega),if_pos h]
   ·rw [if_neg (by omega),if_neg h,if_pos (by omega)]
  simp
  apply jB
  simp [ye.r11,ss]
  refine AX.pcond rfl (fun he=>?_) (fun he=>AX.skip ?_)
  ·simp at he
   apply jA
   simp [ye.r12]
   apply jD
   simp [e,he]
  simp at he
  simp
  apply jA
  simp [ye.r13]
  apply jD
  simp [e,show ¬a.length<b.length by omega]
 simp at hd
 simp
 rw [kP hd] at hc
 apply jC
 simp [ye.r3,ss,hd]
 apply jB
 simp [ye.r4]
 refine AX.pcond rfl (fun he=>?_) (fun he=>AX.skip ?_)
 ·simp at he
  rw [List.drop_eq_nil_of_le he] at hc
  apply jA
  simp [ye.r5]
  apply jD
  simp [hc,ycz]
 simp at he
 rw [kP he] at hc
 simp only [ycz] at hc
 simp
 apply jA
 simp [ye.r6,he]
 apply jA
 simp [ye.r7]
 refine AC.fix (y7n _ _ _) ?_
 simp
 apply jA
 simp [ye.r8]
 refine AX.pcond rfl (fun hf=>?_) (fun hf=>AX.skip ?_)
 ·simp at hf
  apply jA
  simp [ye.r9]
  apply jD
  simp [hc,hf]
 simp at hf
 simp
 apply jE
 simp [ye.r10,y2g hd ha]
 exact ⟨a.length-(i+1),by omega,_,_,.refl _ _,i+1,by omega,by omega,rfl,by rw [hc];simp [hf],rfl,by simp [ss]⟩
theorem yiz (a b:Cn) (ha:a.args.length≤9223372036854775807) (hb:b.args.length≤9223372036854775807) (H:Hp):AC Tryz.prog y5k [.agg (y3n a),.agg (y3n b)] H (fun v H'=>v=.i .i64 (yae a b)∧H'=H):=by
 refine AC.code y34.at y34.ok ?_
 simp only [y34]
 apply jA
 simp [y34.r0,y3n]
 refine AX.seq (AX.drw ?_)
 simp [y34.r1]
 refine y32 _ (fun H2=>yeh a.op b.op H2) ?_
 simp
 refine y32 _ (fun H2=>y7n a.a b.a H2) ?_
 simp
 refine y32 _ (fun H2=>y7n a.b b.b H2) ?_
 simp
 refine y32 _ (fun H2=>yeh a.k b.k H2) ?_
 simp
 refine y32 _ (fun H2=>y7n a.tag b.tag H2) ?_
 simp
 refine y32 _ (fun H2=>yj5 a.args b.args ha hb H2) ?_
 simp [show y7x 6 [V.i .i64 0]=[.i .i64 0,.i .i64 0,.i .i64 0,.i .i64 0,.i .i64 0,.i .i64 0] from rfl]
 refine y32 _ (fun H2=>Or_ok [yad a.op b.op,y7v a.a b.a,y7v a.b b.b,yad a.k b.k,y7v a.tag b.tag,ycz a.args b.args] (by simp) H2) ?_
 simp
 apply jD
 simp [yae]
def yia:List Mk→Mk→Int
 | [],_=>-1
 | y::r,x=>if y=x then 0 else if yia r x<0 then -1 else yia r x+1
theorem yjn {l:List Mk} {x:Mk}:yia l x<0↔x∉l:=by
 induction l with
 | nil=>simp [yia]
 | cons y r ih=>
  simp only [yia]
  by_cases h:y=x
  ·simp [h]
  ·rw [if_neg h]
   by_cases h2:yia r x<0
   ·rw [if_pos h2];simp [ih.1 h2,Ne.symm h]
   ·rw [if_neg h2]
    have:x∈r:=kg fun hc=>h2 (ih.2 hc)
    simp [this];omega
theorem numM_at {l:List Mk} {x:Mk} {i:Nat} (h:l[i]?=some x) (hn:x∉l.take i):yia l x=i:=by
 induction l generalizing i with
 | nil=>simp at h
 | cons y r ih=>
  cases i with
  | zero=>simp at h;simp [yia,h]
  | succ i=>
   simp at h hn
   have:=ih h hn.2
   simp only [yia]
   rw [if_neg (Ne.symm hn.1),this,if_neg (by omega)];omega
theorem numM_ge (l:List Mk) (x:Mk):-1≤yia l x∧yia l x<l.length:=by
 induction l with
 | nil=>simp [yia]
 | cons y r ih=>
  simp only [yia,kO]
  split
  ·omega
  ·split <;> omega
def IxInv (l:List Mk) (x:Mk) (H:Hp) (m:Nat) (F:Fr) (X:Hp):Prop:=
 ∃i,i≤l.length∧m=l.length-i∧x∉l.take i∧X=H∧F=[(0,.fs (l.map y8a)),(3,.fp (y8a x) 0),(7,.i .i64 l.length),(8,.i .i64 i)]
theorem yq6 (l:List Mk) (x:Mk) (hl:l.length≤9223372036854775807) (H:Hp):AC Tryz.prog y40 [.fs (l.map y8a),.agg (y8a x)] H (fun v H'=>v=.i .i64 (yia l x)∧H'=H):=by
 refine AC.code yo.at yo.ok ?_
 simp only [yo]
 apply jA
 simp [yo.r0,y8a]
 apply jB
 simp [yo.r1]
 refine AX.pblock (AX.loop (IxInv l x H) l.length ⟨_,_,.refl _ _,0,by omega,by omega,by simp,rfl,by simp [y8a]⟩ ?_)
 rintro m F X ⟨i,hi,rfl,hn,rfl,rfl⟩
 simp only [yo.l0]
 apply jA
 simp [yo.r2]
 refine AX.seq (AX.pcond rfl (fun hd=>AX.skip ?_) (fun hd=>AX.exit ?_))
 case refine_2=>
  simp at hd
  rw [kI hd] at hn
  simp
  apply jA
  simp [yo.r7]
  apply jD
  have h1:=yjn.2 hn
  have h2:=numM_ge l x
  simp;omega
 simp at hd
 have hg:l[i]?=some l[i]:=kC hd
 have htk:l.take (i+1)=l.take i++[l[i]]:=by rw [kJ,hg];rfl
 have hmem:=kL hd
 generalize l[i]=q at *
 simp
 apply jC
 simp [yo.r3]
 refine AX.testD (decide (x=q)) [(0,.fs (l.map y8a)),(3,.fp (y8a x) 0),(5,.i .i64 i),(7,.i .i64 l.length),(8,.i .i64 i),(16,.b (decide (x=q)))] ?_ rfl (fun hb2=>?_) (fun hb2=>AX.skip ?_)
 ·simp [yo.r4,hg,y8a]
  rw [mk_eq]
  simp [y8a]
 ·simp at hb2
  apply jA
  simp [yo.r5]
  apply jD
  simp
  exact (numM_at (by rw [hg,hb2]) hn).symm
 simp at hb2
 simp
 apply jE
 simp [yo.r6,y2g hd hl]
 refine ⟨l.length-(i+1),by omega,_,_,.refl _ _,i+1,by omega,rfl,?_,rfl,by simp [y8a]⟩
 rw [htk]
 simp [hn,hb2]
theorem yd1 (l:List Mk) (x:Mk) (hl:l.length≤9223372036854775807) (H:Hp):AC Tryz.prog y2y [.fs (l.map y8a),.agg (y8a x)] H (fun v H'=>v=.b (decide (x∈l))∧H'=H):=by
 refine AC.code y1p.at y1p.ok ?_
 simp only [y1p]
 apply jA
 simp [y1p.r0,y8a]
 apply jA
 simp [y1p.r1]
 refine AC.fix (yq6 l x hl _) ?_
 simp
 apply jD
 have h:=@yjn l x
 by_cases hm:x∈l
 ·have:¬yia l x<0:=fun e=>(h.1 e) hm
  simp [hm];omega
 ·have:=h.2 hm
  simp [hm];omega
theorem byObj_ok (a b:Ob) (H:Hp):AC Tryz.prog y6c [.agg (y4l a),.agg (y4l b)] H (fun v H'=>v=.i .i64 (y7v a.name b.name)∧H'=H):=by
 refine AC.code y3d.at y3d.ok ?_
 simp only [y3d]
 apply jA
 simp [y3d.r0,y4l]
 apply jA
 simp [y3d.r1]
 refine AC.fix (y7n _ _ _) ?_
 simp
 apply jD
 simp
theorem byFn_ok (a b:Fu) (H:Hp):AC Tryz.prog y6w [.agg (y75 a),.agg (y75 b)] H (fun v H'=>v=.i .i64 (y7v a.name b.name)∧H'=H):=by
 refine AC.code y3i.at y3i.ok ?_
 simp only [y3i]
 apply jA
 simp [y3i.r0,y75]
 apply jA
 simp [y3i.r1]
 refine AC.fix (y7n _ _ _) ?_
 simp
 apply jD
 simp
theorem yhr (f:Fu) (h1:f.name.length≤9223372036854775806) (h2:f.kinds.length≤9223372036854775807) (H:Hp):AC Tryz.prog y57 [.agg (y75 f)] H (fun v H'=>v=.i .i64 (fuE f)∧H'=H):=by
 refine AC.codeP y1f.at y1f.ok (by simp) fun hlt=>?_
 simp only [y1f]
 apply jA
 simp [y1f.r0,y75]
 apply jA
 simp [y1f.r1]
 refine AC.fix (y8q f.name h1 _) ?_
 cases hr:y56 f.name with
 | none=>
  simp [rdV,nv,Nd.cs,Nd.zero]
  apply jC
  simp [y1f.r2]
  refine jG rfl ?_
  apply jA
  simp [y1f.r3]
  apply jD
  simp [fuE,hr]
  exact ⟨yfy hlt _ _,.refl _⟩
 | some d=>
  simp [rdV,nv,Nd.cs]
  apply jC
  by_cases hk:d.kind=4
  ·simp [y1f.r2,hk]
   refine jF rfl ?_
   apply jA
   simp [y1f.r4]
   refine AC.fix (y9i f.kinds 6 h2 _) ?_
   have eB:(kpB f.kinds&&decide ((f.kinds.length:Int)≤6))=decide (kpB f.kinds=true∧f.kinds.length≤6):=by
    cases kpB f.kinds <;> simp
   rw [eB]
   by_cases hb:kpB f.kinds=true∧f.kinds.length≤6
   ·simp only [hb,decide_true]
    by_cases r1:f.ret=[105]
    ·simp [r1]
     refine jF rfl (AX.skip ?_)
     simp
     apply jA
     simp [y1f.r6]
     apply jD
     simp [fuE,hr,hk,hb,retB,r1]
     exact ⟨yfy hlt _ _,.refl _⟩
    by_cases r2:f.ret=[112]
    ·simp [r1,r2]
     refine jF rfl (AX.skip ?_)
     simp
     apply jA
     simp [y1f.r6]
     apply jD
     simp [fuE,hr,hk,hb,retB,r2]
     exact ⟨yfy hlt _ _,.refl _⟩
    by_cases r3:f.ret=[118]
    ·simp [r1,r2,r3]
     refine jF rfl (AX.skip ?_)
     simp
     apply jA
     simp [y1f.r6]
     apply jD
     simp [fuE,hr,hk,hb,retB,r3]
     exact ⟨yfy hlt _ _,.refl _⟩
    simp [r1,r2,r3,show (f.ret == [105])=false by simpa using r1,show (f.ret == [112])=false by simpa using r2,show (f.ret == [118])=false by simpa using r3]
    refine jG rfl ?_
    apply jA
    simp [y1f.r5]
    apply jD
    simp [fuE,hr,hk,hb,retB,r1,r2,r3]
    exact ⟨yfy hlt _ _,.refl _⟩
   ·simp only [hb,decide_false]
    simp
    refine jG rfl ?_
    apply jA
    simp [y1f.r5]
    apply jD
    have:fuE f=5:=by unfold fuE;rw [hr];simp only [hk];rw [if_neg (by simp),if_pos (.inl hb)]
    simp [this]
    exact ⟨yfy hlt _ _,.refl _⟩
  ·simp [y1f.r2,hk]
   refine jG rfl ?_
   apply jA
   simp [y1f.r3]
   apply jD
   simp [fuE,hr,hk]
   exact ⟨yfy hlt _ _,.refl _⟩
def CldInv (c:Cn) (l r:Str) (H:Hp) (m:Nat) (F:Fr) (X:Hp):Prop:=
 ∃i,i≤c.args.length∧m=c.args.length-i∧(∀j,j<i→argB (ptrB l r j) (c.args.getD j [])=true)∧X=H∧F=[(3,.s l),(4,.s r),(50,ss c.args),(51,.i .i64 c.args.length),(52,.i .i64 i)]
theorem ypa (c:Cn) (ht:c.tag.length≤9223372036854775807) (ha:c.args.length≤9223372036854775807) (hx:∀a∈c.args,a.length≤9223372036854775806) (H:Hp):AC Tryz.prog y6v [.agg (y3n c)] H (fun v H'=>v=.b (yai c)∧H'=H):=by
 refine AC.code y12.at y12.ok ?_
 simp only [y12]
 apply jA
 simp [y12.r0,y3n]
 apply jA
 simp [y12.r1]
 refine AC.fix (Cut_ok c.tag ht _) ?_
 rw [ycm]
 unfold cutV
 cases hs:ybm c.tag with
 | none=>
  simp
  apply jB
  simp [y12.r2]
  refine jG rfl ?_
  apply jA
  simp [y12.r3]
  apply jD
  simp
 | some x=>
  obtain ⟨l,r⟩:=x
  have hll:=yjd hs
  simp
  refine AX.seq ?_
  refine AX.test (!(ybp l r&&decide (c.k=0)&&decide (c.args.length=l.length+1))) [(1,.fp (y3n c) 0),(3,.s l),(4,.s r),(48,.b (!(ybp l r&&decide (c.k=0)&&decide (c.args.length=l.length+1))))] ?_ rfl (fun hb=>?_) (fun hb=>AX.skip ?_)
  ·have hw:IntKind.i64.wrap ((l.length:Int)+1)=(l.length:Int)+1:=wrap_i64 (by omega) (by omega)
   have eB:(kpB l&&decide ((l.length:Int)≤6))=decide (kpB l=true∧l.length≤6):=by
    cases kpB l <;> simp
   by_cases hk:c.k=0
   ·simp [y12.r2,hk]
    refine AC.fix (y9i l 6 (by omega) _) ?_
    rw [eB]
    by_cases hq:kpB l=true∧l.length≤6
    ·by_cases r0:r=[]
     ·by_cases hl:c.args.length=l.length+1
      ·simp [hq,r0,ybp,ss,hl,hw,y3n,hk]
      ·simp [hq,r0,ybp,ss,hl,hw,y3n,hk,show ¬(c.args.length:Int)=(l.length:Int)+1 by omega]
     have q0:(r == [])=false:=by simpa using r0
     by_cases r1:r=[105]
     ·by_cases hl:c.args.length=l.length+1
      ·simp [hq,r1,ybp,ss,hl,hw,y3n,hk]
      ·simp [hq,r1,ybp,ss,hl,hw,y3n,hk,show ¬(c.args.length:Int)=(l.length:Int)+1 by omega]
     have q1:(r == [105])=false:=by simpa using r1
     by_cases r2:r=[112]
     ·by_cases hl:c.args.length=l.length+1
      ·simp [hq,r2,ybp,ss,hl,hw,y3n,hk]
      ·simp [hq,r2,ybp,ss,hl,hw,y3n,hk,show ¬(c.args.length:Int)=(l.length:Int)+1 by omega]
     have q2:(r == [112])=false:=by simpa using r2
     simp [hq,r0,r1,r2,q0,q1,q2,ybp,y3n,hk]
    ·have hsf:ybp l r=false:=by
      unfold ybp
      have:(kpB l&&decide (l.length≤6))=false:=by
       cases hkp:kpB l
       ·rfl
       ·simp only [hkp,true_and] at hq;simp [hq]
      rw [this];rfl
     simp only [hq,decide_false]
     simp [hsf,y3n,hk]
   ·simp [y12.r2,hk,y3n]
  ·apply jA
   simp [y12.r3]
   apply jD
   simp at hb
   simp
   rcases hb with (h | h) | h <;> simp [h]
  simp at hb
  obtain ⟨⟨h1,h2⟩,h3⟩:=hb
  simp [h1,h2,h3]
  apply jB
  simp [y12.r4,y3n,ss]
  refine AX.pblock (AX.loop (CldInv c l r H) c.args.length ⟨_,_,.refl _ _,0,by omega,by omega,fun j hj=>by omega,rfl,by simp [ss,h3]⟩ ?_)
  rintro m F X ⟨i,hi,rfl,hn,rfl,rfl⟩
  simp only [y12.l0]
  apply jA
  simp [y12.r5]
  refine AX.seq (AX.pcond rfl (fun hb=>AX.skip ?_) (fun hb=>AX.exit ?_))
  case refine_2=>
   simp at hb
   have:ypo l r c.args=true:=List.all_eq_true.2 fun j hj=>hn j (by have:=List.mem_range.1 hj;omega)
   simp
   apply jA
   simp [y12.r13]
   apply jD
   simp [this]
  simp at hb
  simp
  apply jC
  simp [y12.r6,ss,hb]
  apply jA
  simp [y12.r7]
  have hgd:c.args.getD i []=c.args[i]:=by simp [hb]
  have hxa:=hx _ (kL hb)
  generalize c.args[i]=a at *
  refine AX.seq (AX.join (F1:=[(3,.s l),(4,.s r),(7,.s a),(8,.b (ptrB l r i)),(50,ss c.args),(51,.i .i64 c.args.length),(52,.i .i64 i)]) (H1:=X) ?_ ?_)
  ·apply jA
   simp [y12.r8]
   refine AX.pcond rfl (fun hc=>?_) (fun hc=>AX.skip ?_)
   ·simp at hc
    have hi1:i-1<l.length:=by omega
    have e1:((l[i-1].toNat:Int)=112)=(l[i-1]=112):=u8_ne l[i-1] 112 (by omega)
    have e0:((i:Int)-1).toNat=i-1:=by omega
    apply jE
    simp [y12.r9,show (0:Int)≤(i:Int)-1 by omega,show 1≤i by omega,e0,hi1,e1,show IntKind.i64.wrap ((i:Int)-1)=(i:Int)-1 from wrap_i64 (by omega) (by omega),ss]
    simp [ptrB,show ¬i=0 by omega,hi1]
   ·simp at hc
    subst hc
    simp [ptrB,ss]
  simp
  obtain ⟨p,hp⟩:∃p,p=ptrB l r i:=⟨_,rfl⟩
  rw [←hp]
  refine AX.test (!argB p a) [(3,.s l),(4,.s r),(50,ss c.args),(51,.i .i64 c.args.length),(52,.i .i64 i),(76,.b (!argB p a))] ?_ rfl (fun hc=>?_) (fun hc=>AX.skip ?_)
  ·by_cases h0:a=[]
   ·simp [y12.r10,h0,argB,ss]
   ·have h0':(a == [])=false:=by simpa using h0
    cases p
    ·simp [y12.r10,h0,h0',argB,ss]
    ·simp [y12.r10,h0,h0',argB,ss]
     refine AC.fix (y77 a hxa _) ?_
     simp
  ·apply jA
   simp [y12.r11]
   apply jD
   simp at hc
   simp [argsB_no hb (by rw [hgd,←hp];exact hc)]
  simp at hc
  simp
  apply jE
  simp [y12.r12,y2g hb ha]
  refine ⟨c.args.length-(i+1),by omega,_,_,.refl _ _,i+1,by omega,rfl,fun j hj=>?_,rfl,by simp⟩
  by_cases hj2:j=i
  ·subst hj2;rw [hgd,←hp];exact hc
  ·exact hn j (by omega)
end Go.Proofs.YtikpijbeobeckaaGreatDoor
