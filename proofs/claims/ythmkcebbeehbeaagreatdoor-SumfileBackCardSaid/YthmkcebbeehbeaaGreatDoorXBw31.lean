/- Part 31 of the proof of the laws of the queries: S20a, S20b, S20c. -/
import Derived.Test.YthmkcebbeehbeaaGreatDoorXBw21
import Derived.Test.YthmkcebbeehbeaaGreatDoorXBw28
import Derived.Test.YthmkcebbeehbeaaGreatDoorXBw29
set_option linter.unusedSimpArgs false
set_option linter.unusedVariables false
namespace Go.Proofs.YthmkcebbeehbeaaGreatDoor
open Am C
theorem Trim_ok (s t:Str) (hs:s.length≤9223372036854775807) (ht:t.length<4294967281) (ha:t.all (fun b=>decide (b.toNat<128))=true) (H:Hp):AC Tryz.prog yfc [.s s,.s t] H (fun v H'=>v=.s (Go.Lib.trimS s t)∧H'=H):=by
  refine AC.below (by kernel_rfl) fun κ cs r=>?_
  obtain ⟨a,b,rfl,ra,rb⟩:=r.two'
  obtain rfl:=vr_s ra
  obtain rfl:=vr_s rb
  refine ⟨_,fun κ'=>.s _,?_⟩
  refine (Go.Proofs.Any.strings_Trim_laid Tryz.lays160 (by kernel_rfl) ⟨s.toArray⟩ ⟨t.toArray⟩ κ.w (show s.toArray.size≤9223372036854775807 by simpa using hs) (show t.toArray.size<4294967281 by simpa using ht) (by simpa using Go.Proofs.ascii_of_all ha)).mono fun e w' ⟨he,hw⟩=>⟨?_,hw⟩
  rw [he]
theorem yv2 (s:Str) (c:UInt8) (H:Hp):AC Tryz.prog y8w [.s s,.s [c]] H (fun v H'=>v=.i .i64 (Go.Lib.indexByte s c)∧H'=H):=by
  refine AC.below (by kernel_rfl) fun κ cs r=>?_
  obtain ⟨a,b,rfl,ra,rb⟩:=r.two'
  obtain rfl:=vr_s ra
  obtain rfl:=vr_s rb
  refine ⟨_,fun κ'=>.i _ _,?_⟩
  refine (Tryz.stringslite_Index_one ⟨s.toArray⟩ c κ.w).mono fun e w' ⟨he,hw⟩=>⟨?_,?_⟩
  · rw [he]
  · rw [hw];exact .refl _ _
theorem trim_nil (s:Str):(Go.Lib.trimS s [105,112]=[])=(kpB s=true):=by
  have hp:∀l:Str,l.all (List.contains [105,112])=kpB l:=fun l=>by
    unfold kpB
    congr 1
    funext c
    simp [List.contains,List.elem]
    cases c == 105 <;> cases c == 112 <;> rfl
  apply propext
  unfold Go.Lib.trimS Go.Lib.trimLeftS Go.Lib.trimRightS
  rw [ybs,←hp s]
  constructor
  · intro h
    rw [List.all_reverse] at h
    have hd:s.reverse.dropWhile (List.contains [105,112])=[]:=by
      cases hx:s.reverse.dropWhile (List.contains [105,112]) with
      | nil=>rfl
      | cons c r=>
        have h1:=List.head_dropWhile_not (List.contains [105,112]) (l:=s.reverse) (by rw [hx];simp)
        rw [hx] at h
        simp only [hx,List.head_cons] at h1
        simp only [List.all_cons,Bool.and_eq_true] at h
        rw [h1] at h;exact absurd h.1 (by simp)
    rw [ybs,List.all_reverse] at hd
    exact hd
  · intro h
    have:s.reverse.dropWhile (List.contains [105,112])=[]:=by rw [ybs,List.all_reverse];exact h
    rw [this];rfl
theorem ydw (s:Str) (n:Int) (hs:s.length≤9223372036854775807) (H:Hp):AC Tryz.prog y71 [.s s,.i .i64 n] H (fun v H'=>v=.b (kpB s&&decide ((s.length:Int)≤n))∧H'=H):=by
  refine AC.code y44.at y44.ok ?_
  simp only [y44]
  apply jA
  simp [y44.r0]
  apply jA
  simp [y44.r1]
  refine AC.fix (Trim_ok s [105,112] hs (by simp) (by rfl) _) ?_
  have ht:=trim_nil s
  by_cases h:Go.Lib.trimS s [105,112]=[]
  · have hk:kpB s=true:=by rw [←ht];exact h
    simp [h]
    apply jD
    simp [hk]
  · have hk:kpB s=false:=by
      cases e:kpB s
      · rfl
      · exact absurd (by rw [ht];exact e) h
    simp [h,show (Go.Lib.trimS s [105,112] == [])=false by simpa using h]
    apply jD
    simp [hk]
theorem yi7 (s:Str) (hs:s.length≤9223372036854775807) (H:Hp):AC Tryz.prog y9c [.s s] H (fun v H'=>v=.b (ylm s)∧H'=H):=by
  refine AC.code y4b.at y4b.ok ?_
  simp only [y4b]
  apply jA
  simp [y4b.r0]
  apply jA
  by_cases h:s=[]
  · simp [y4b.r1,h]
    apply jD
    simp [ylm]
  · have h1:1≤s.length:=by cases s <;> simp_all
    simp [y4b.r1,h,show (s == [])=false by simpa using h]
    apply jD
    simp [ylm,h1]
theorem y9w (s:Str) (hs:s.length≤9223372036854775806) (H:Hp):AC Tryz.prog y7m [.s s] H (fun v H'=>v=.b (y9r s)∧H'=H):=by
  refine AC.codeP y4i.at y4i.ok (by simp) fun hlt=>?_
  simp only [y4i]
  apply jA
  simp [y4i.r0]
  apply jA
  simp [y4i.r1]
  refine AC.fix (ygh s hs _) ?_
  cases hr:ybv s with
  | none=>
    simp [rdV,nv,Nd.cs,Nd.zero]
    apply jA
    simp [y4i.r2]
    apply jD
    simp [y9r,hr]
    exact ⟨(Hp.Ext.add hlt _).upd hlt (Nat.le_refl _) _,.refl _⟩
  | some d=>
    simp [rdV,nv,Nd.cs]
    apply jA
    by_cases hk:d.kind≤3
    · simp [y4i.r2,hk]
      apply jD
      simp [y9r,hr,hk]
      exact ⟨(Hp.Ext.add hlt _).upd hlt (Nat.le_refl _) _,.refl _⟩
    · simp [y4i.r2,hk]
      apply jD
      simp [y9r,hr,hk]
      exact ⟨(Hp.Ext.add hlt _).upd hlt (Nat.le_refl _) _,.refl _⟩
theorem yup (s:Str) (hs:s.length≤9223372036854775806) (H:Hp):AC Tryz.prog ycs [.s s] H (fun v H'=>v=.b (yda s)∧H'=H):=by
  refine AC.codeP y49.at y49.ok (by simp) fun hlt=>?_
  simp only [y49]
  apply jA
  simp [y49.r0]
  apply jA
  simp [y49.r1]
  refine AC.fix (ygh s hs _) ?_
  cases hr:ybv s with
  | none=>
    simp [rdV,nv,Nd.cs,Nd.zero]
    apply jA
    simp [y49.r2]
    apply jD
    simp [yda,hr]
    exact ⟨(Hp.Ext.add hlt _).upd hlt (Nat.le_refl _) _,.refl _⟩
  | some d=>
    simp [rdV,nv,Nd.cs]
    apply jA
    by_cases hk:d.kind=4
    · simp [y49.r2,hk]
      apply jD
      simp [yda,hr,hk]
      exact ⟨(Hp.Ext.add hlt _).upd hlt (Nat.le_refl _) _,.refl _⟩
    · simp [y49.r2,hk]
      apply jD
      simp [yda,hr,hk]
      exact ⟨(Hp.Ext.add hlt _).upd hlt (Nat.le_refl _) _,.refl _⟩
theorem yq4 (t:Str):(ygl t=none→Go.Lib.indexByte t 62=-1)∧∀l r,ygl t=some (l,r)→Go.Lib.indexByte t 62=l.length∧t=l++62::r:=by
  refine ⟨fun h=>?_,fun l r h=>?_⟩
  · refine yha fun hm=>?_
    obtain ⟨i,hi,he⟩:=List.mem_iff_getElem.1 hm
    have:∀{q:Str},(62:UInt8)∈q→ygl q≠none:=by
      intro q
      induction q with
      | nil=>intro h;cases h
      | cons a q ih=>
        intro h
        unfold ygl
        split
        · simp
        · rename_i ha
          have:(62:UInt8)∈q:=(List.mem_cons.1 h).resolve_left fun e=>ha e.symm
          have:=ih this
          cases hq:ygl q with
          | none=>exact absurd hq this
          | some x=>simp
    exact this hm h
  · have:∀{q l r:Str},ygl q=some (l,r)→(62:UInt8)∉l∧q=l++62::r:=by
      intro q
      induction q with
      | nil=>intro l r h;simp [ygl] at h
      | cons a q ih=>
        intro l r h
        unfold ygl at h
        split at h
        · rename_i ha
          injection h with h;injection h with h1 h2
          subst h1;subst h2;subst ha;simp
        · rename_i ha
          cases hq:ygl q with
          | none=>rw [hq] at h;cases h
          | some x=>
            rw [hq] at h;injection h with h;injection h with h1 h2
            obtain ⟨g1,g2⟩:=ih (l:=x.1) (r:=x.2) (by rw [hq])
            subst h1;subst h2
            refine ⟨?_,by rw [List.cons_append,←g2]⟩
            simp only [List.mem_cons,not_or]
            exact ⟨fun e=>ha e.symm,g1⟩
    obtain ⟨h1,h2⟩:=this h
    refine ⟨?_,h2⟩
    rw [h2]
    exact yhb h1
def cutV (t:Str):V:=match ygl t with
  | none=>.tup [.s t,.s [],.b false]
  | some (l,r)=>.tup [.s l,.s r,.b true]
theorem Cut0_ok (t:Str) (ht:t.length≤9223372036854775807) (H:Hp):AC Tryz.prog y7f [.s t,.s [62]] H (fun v H'=>v=cutV t∧H'=H):=by
  refine AC.code y1w.at y1w.ok ?_
  simp only [y1w]
  apply jA
  simp [y1w.r0]
  apply jB
  simp [y1w.r1]
  refine AC.fix (yv2 t 62 _) ?_
  have hi:=yq4 t
  unfold cutV
  cases hs:ygl t with
  | none=>
    rw [hi.1 hs]
    simp
    apply jA
    simp [y1w.r2]
    refine jF rfl (AX.skip ?_)
    simp
    apply jA
    simp [y1w.r4]
    apply jD
    simp
  | some x=>
    obtain ⟨l,r⟩:=x
    obtain ⟨h1,h2⟩:=hi.2 l r hs
    rw [h1]
    simp
    apply jA
    simp [y1w.r2]
    refine jG rfl ?_
    have hlen:t.length=l.length+r.length+1:=by rw [h2];simp;omega
    have w1:IntKind.i64.wrap ((l.length:Int)+1)=(l.length:Int)+1:=y3g (by omega) (by omega)
    have e1:t.take l.length=l:=by rw [h2];simp
    have e2:t.drop (l.length+1)=r:=by rw [h2];simp
    refine AX.seq (AX.drw ?_)
    simp [y1w.r3,w1,e1,show l.length≤t.length by omega,show (0:Int)≤(l.length:Int)+1 by omega,show (l.length:Int)+1≤(t.length:Int) by omega,show ((l.length:Int)+1).toNat=l.length+1 by omega,e2]
    apply jD
    simp
theorem Cut_ok (t:Str) (ht:t.length≤9223372036854775807) (H:Hp):AC Tryz.prog ydq [.s t,.s [62]] H (fun v H'=>v=cutV t∧H'=H):=by
  refine AC.code y5f.at y5f.ok ?_
  simp only [y5f]
  apply jA
  simp [y5f.r0]
  apply jA
  simp [y5f.r1]
  refine AC.fix (Cut0_ok t ht _) ?_
  unfold cutV
  cases hs:ygl t with
  | none=>simp;apply jD;simp
  | some x=>simp;apply jD;simp
theorem ymf (x:Int) (H:Hp):AC Tryz.prog yak [.i .i64 x] H (fun v H'=>v=.b false∧H'=H):=by
  refine AC.code y55.at y55.ok ?_
  simp only [y55]
  apply jA
  simp [y55.r0]
  apply jA
  simp [y55.r1]
  apply jD
  simp
theorem yj9 (x y:Int) (H:Hp):AC Tryz.prog y9g [.i .i64 x,.i .i64 y] H (fun v H'=>v=.i .i64 (yfe x y)∧H'=H):=by
  refine AC.code y1c.at y1c.ok ?_
  simp only [y1c]
  apply jA
  simp [y1c.r0]
  apply jA
  simp [y1c.r1]
  refine AC.fix (ymf _ _) ?_
  simp
  apply jA
  simp [y1c.r2]
  refine AC.fix (ymf _ _) ?_
  simp
  apply jB
  simp [y1c.r3]
  refine jF rfl (AX.skip ?_)
  simp
  apply jB
  simp [y1c.r7]
  refine jF rfl (AX.skip ?_)
  simp
  apply jB
  simp [y1c.r9]
  refine AX.pcond rfl (fun h=>jA ?_) (fun h=>AX.skip ?_)
  · simp at h
    simp [y1c.r10]
    apply jD
    simp [yfe,h]
  simp at h
  simp
  apply jB
  simp [y1c.r11]
  refine AX.pcond rfl (fun h2=>jA ?_) (fun h2=>AX.skip ?_)
  · simp at h2
    simp [y1c.r12]
    apply jD
    simp [yfe,show ¬x<y by omega,show ¬x=y by omega]
  simp at h2
  simp
  apply jA
  simp [y1c.r13]
  apply jD
  simp [yfe,show ¬x<y by omega,show x=y by omega]
def OrInv (R:List Int) (H:Hp) (m:Nat) (F:Fr) (X:Hp):Prop:=
  ∃i,i≤R.length∧m=R.length-i∧orI (R.take i)=0∧X=H∧F=[(3,.i .i64 0),(6,.fs (zi R)),(7,.i .i64 R.length),(8,.i .i64 i)]
theorem Or_ok (R:List Int) (hR:R.length≤1000) (H:Hp):AC Tryz.prog yeh [.fs (zi R)] H (fun v H'=>v=.i .i64 (orI R)∧H'=H):=by
  refine AC.code y2s.at y2s.ok ?_
  simp only [y2s]
  apply jA
  simp [y2s.r0]
  apply jA
  simp [y2s.r1]
  apply jB
  simp [y2s.r2]
  refine AX.pblock (AX.loop (OrInv R H) R.length ⟨_,_,.refl _ _,0,by omega,by omega,rfl,rfl,by simp [zi]⟩ ?_)
  rintro m F X ⟨i,hi,rfl,ho,rfl,rfl⟩
  simp only [y2s.l0]
  apply jA
  simp [y2s.r3]
  refine AX.seq (AX.pcond rfl (fun hd=>AX.skip ?_) (fun hd=>AX.exit ?_))
  case refine_2=>
    simp at hd
    rw [List.take_of_length_le hd] at ho
    simp
    apply jA
    simp [y2s.r8]
    apply jD
    simp [ho]
  simp at hd
  have hg:R[i]?=some R[i]:=List.getElem?_eq_getElem hd
  have hsp:orI R=if R[i]≠0 then R[i] else orI (R.drop (i+1)):=by
    conv=>lhs;rw [←List.take_append_drop i R,List.drop_eq_getElem_cons hd]
    rw [ydc]
    simp [ho,orI]
  have hst:orI (R.take (i+1))=R[i]:=by
    rw [List.take_add_one,hg,ydc]
    simp [ho,orI]
    exact fun h=>h.symm
  simp
  apply jC
  simp [y2s.r4,hd,zi,hg]
  apply jA
  simp [y2s.r5]
  refine AX.pcond rfl (fun he=>?_) (fun he=>AX.skip ?_)
  · simp at he
    apply jA
    simp [y2s.r6]
    apply jD
    simp [hsp,he]
  simp at he
  simp
  apply jE
  simp [y2s.r7,y3q hd (show R.length≤9223372036854775807 by omega)]
  exact ⟨R.length-(i+1),by omega,_,_,.refl _ _,i+1,by omega,rfl,by rw [hst,he],rfl,by simp [zi]⟩
def CmLInv (a b:List Str) (H:Hp) (m:Nat) (F:Fr) (X:Hp):Prop:=
  ∃i,i≤a.length∧i≤b.length∧m=a.length-i∧yk6 a b=yk6 (a.drop i) (b.drop i)∧X=H∧F=[(0,ss a),(1,ss b),(9,ss a),(10,.i .i64 a.length),(11,.i .i64 i)]
theorem yoo (a b:List Str) (ha:a.length≤9223372036854775807) (hb:b.length≤9223372036854775807) (H:Hp):AC Tryz.prog y6f [ss a,ss b] H (fun v H'=>v=.i .i64 (yk6 a b)∧H'=H):=by
  refine AC.code y9.at y9.ok ?_
  simp only [y9]
  apply jA
  simp [y9.r0]
  apply jB
  simp [y9.r1,ss]
  refine AX.pblock (AX.loop (CmLInv a b H) a.length ⟨_,_,.refl _ _,0,by omega,by omega,by omega,rfl,rfl,by simp [ss]⟩ ?_)
  rintro m F X ⟨i,hia,hib,rfl,hc,rfl,rfl⟩
  simp only [y9.l0]
  apply jA
  simp [y9.r2]
  refine AX.seq (AX.pcond rfl (fun hd=>AX.skip ?_) (fun hd=>AX.exit ?_))
  case refine_2=>
    simp at hd
    rw [List.drop_eq_nil_of_le hd] at hc
    have e:yk6 a b=if a.length<b.length then -1 else 0:=by
      rw [hc]
      simp only [yk6,cmpN,List.length_drop]
      by_cases h:a.length<b.length
      · rw [if_pos (by omega),if_pos h]
      · rw [if_neg (by omega),if_neg h,if_pos (by omega)]
    simp
    apply jB
    simp [y9.r11,ss]
    refine AX.pcond rfl (fun he=>?_) (fun he=>AX.skip ?_)
    · simp at he
      apply jA
      simp [y9.r12]
      apply jD
      simp [e,he]
    simp at he
    simp
    apply jA
    simp [y9.r13]
    apply jD
    simp [e,show ¬a.length<b.length by omega]
  simp at hd
  simp
  rw [List.drop_eq_getElem_cons hd] at hc
  apply jC
  simp [y9.r3,ss,hd]
  apply jB
  simp [y9.r4]
  refine AX.pcond rfl (fun he=>?_) (fun he=>AX.skip ?_)
  · simp at he
    rw [List.drop_eq_nil_of_le he] at hc
    apply jA
    simp [y9.r5]
    apply jD
    simp [hc,yk6]
  simp at he
  rw [List.drop_eq_getElem_cons he] at hc
  simp only [yk6] at hc
  simp
  apply jA
  simp [y9.r6,he]
  apply jA
  simp [y9.r7]
  refine AC.fix (yb4 _ _ _) ?_
  simp
  apply jA
  simp [y9.r8]
  refine AX.pcond rfl (fun hf=>?_) (fun hf=>AX.skip ?_)
  · simp at hf
    apply jA
    simp [y9.r9]
    apply jD
    simp [hc,hf]
  simp at hf
  simp
  apply jE
  simp [y9.r10,y3q hd ha]
  exact ⟨a.length-(i+1),by omega,_,_,.refl _ _,i+1,by omega,by omega,rfl,by rw [hc];simp [hf],rfl,by simp [ss]⟩
theorem yoi (a b:Cn) (ha:a.args.length≤9223372036854775807) (hb:b.args.length≤9223372036854775807) (H:Hp):AC Tryz.prog y8q [.agg (y5y a),.agg (y5y b)] H (fun v H'=>v=.i .i64 (yht a b)∧H'=H):=by
  refine AC.code y4x.at y4x.ok ?_
  simp only [y4x]
  apply jA
  simp [y4x.r0,y5y]
  refine AX.seq (AX.drw ?_)
  simp [y4x.r1]
  refine y4y _ (fun H2=>yj9 a.op b.op H2) ?_
  simp
  refine y4y _ (fun H2=>yb4 a.a b.a H2) ?_
  simp
  refine y4y _ (fun H2=>yb4 a.b b.b H2) ?_
  simp
  refine y4y _ (fun H2=>yj9 a.k b.k H2) ?_
  simp
  refine y4y _ (fun H2=>yb4 a.tag b.tag H2) ?_
  simp
  refine y4y _ (fun H2=>yoo a.args b.args ha hb H2) ?_
  simp [show ydj 6 [V.i .i64 0]=[.i .i64 0,.i .i64 0,.i .i64 0,.i .i64 0,.i .i64 0,.i .i64 0] from rfl]
  refine y4y _ (fun H2=>Or_ok [yfe a.op b.op,ybo a.a b.a,ybo a.b b.b,yfe a.k b.k,ybo a.tag b.tag,yk6 a.args b.args] (by simp) H2) ?_
  simp
  apply jD
  simp [yht]
def ynq:List Mk→Mk→Int
  | [],_=>-1
  | y::r,x=>if y=x then 0 else if ynq r x<0 then -1 else ynq r x+1
theorem ypb {l:List Mk} {x:Mk}:ynq l x<0↔x∉l:=by
  induction l with
  | nil=>simp [ynq]
  | cons y r ih=>
    simp only [ynq]
    by_cases h:y=x
    · simp [h]
    · rw [if_neg h]
      by_cases h2:ynq r x<0
      · rw [if_pos h2];simp [ih.1 h2,Ne.symm h]
      · rw [if_neg h2]
        have:x∈r:=Classical.byContradiction fun hc=>h2 (ih.2 hc)
        simp [this];omega
theorem numM_at {l:List Mk} {x:Mk} {i:Nat} (h:l[i]?=some x) (hn:x∉l.take i):ynq l x=i:=by
  induction l generalizing i with
  | nil=>simp at h
  | cons y r ih=>
    cases i with
    | zero=>simp at h;simp [ynq,h]
    | succ i=>
      simp at h hn
      have:=ih h hn.2
      simp only [ynq]
      rw [if_neg (Ne.symm hn.1),this,if_neg (by omega)];omega
theorem numM_ge (l:List Mk) (x:Mk):-1≤ynq l x∧ynq l x<l.length:=by
  induction l with
  | nil=>simp [ynq]
  | cons y r ih=>
    simp only [ynq,List.length_cons]
    split
    · omega
    · split <;> omega
def IxInv (l:List Mk) (x:Mk) (H:Hp) (m:Nat) (F:Fr) (X:Hp):Prop:=
  ∃i,i≤l.length∧m=l.length-i∧x∉l.take i∧X=H∧F=[(0,.fs (l.map ybe)),(3,.fp (ybe x) 0),(7,.i .i64 l.length),(8,.i .i64 i)]
theorem yv1 (l:List Mk) (x:Mk) (hl:l.length≤9223372036854775807) (H:Hp):AC Tryz.prog y61 [.fs (l.map ybe),.agg (ybe x)] H (fun v H'=>v=.i .i64 (ynq l x)∧H'=H):=by
  refine AC.code ym.at ym.ok ?_
  simp only [ym]
  apply jA
  simp [ym.r0,ybe]
  apply jB
  simp [ym.r1]
  refine AX.pblock (AX.loop (IxInv l x H) l.length ⟨_,_,.refl _ _,0,by omega,by omega,by simp,rfl,by simp [ybe]⟩ ?_)
  rintro m F X ⟨i,hi,rfl,hn,rfl,rfl⟩
  simp only [ym.l0]
  apply jA
  simp [ym.r2]
  refine AX.seq (AX.pcond rfl (fun hd=>AX.skip ?_) (fun hd=>AX.exit ?_))
  case refine_2=>
    simp at hd
    rw [List.take_of_length_le hd] at hn
    simp
    apply jA
    simp [ym.r7]
    apply jD
    have h1:=ypb.2 hn
    have h2:=numM_ge l x
    simp;omega
  simp at hd
  have hg:l[i]?=some l[i]:=List.getElem?_eq_getElem hd
  have htk:l.take (i+1)=l.take i++[l[i]]:=by rw [List.take_add_one,hg];rfl
  have hmem:=List.getElem_mem hd
  generalize l[i]=q at *
  simp
  apply jC
  simp [ym.r3]
  refine AX.testD (decide (x=q)) [(0,.fs (l.map ybe)),(3,.fp (ybe x) 0),(5,.i .i64 i),(7,.i .i64 l.length),(8,.i .i64 i),(16,.b (decide (x=q)))] ?_ rfl (fun hb2=>?_) (fun hb2=>AX.skip ?_)
  · simp [ym.r4,hg,ybe]
    rw [mk_eq]
    simp [ybe]
  · simp at hb2
    apply jA
    simp [ym.r5]
    apply jD
    simp
    exact (numM_at (by rw [hg,hb2]) hn).symm
  simp at hb2
  simp
  apply jE
  simp [ym.r6,y3q hd hl]
  refine ⟨l.length-(i+1),by omega,_,_,.refl _ _,i+1,by omega,rfl,?_,rfl,by simp [ybe]⟩
  rw [htk]
  simp [hn,hb2]
theorem yn4 (l:List Mk) (x:Mk) (hl:l.length≤9223372036854775807) (H:Hp):AC Tryz.prog y57 [.fs (l.map ybe),.agg (ybe x)] H (fun v H'=>v=.b (decide (x∈l))∧H'=H):=by
  refine AC.code y2f.at y2f.ok ?_
  simp only [y2f]
  apply jA
  simp [y2f.r0,ybe]
  apply jA
  simp [y2f.r1]
  refine AC.fix (yv1 l x hl _) ?_
  simp
  apply jD
  have h:=@ypb l x
  by_cases hm:x∈l
  · have:¬ynq l x<0:=fun e=>(h.1 e) hm
    simp [hm];omega
  · have:=h.2 hm
    simp [hm];omega
theorem byObj_ok (a b:Ob) (H:Hp):AC Tryz.prog y9s [.agg (y5p a),.agg (y5p b)] H (fun v H'=>v=.i .i64 (ybo a.name b.name)∧H'=H):=by
  refine AC.code y58.at y58.ok ?_
  simp only [y58]
  apply jA
  simp [y58.r0,y5p]
  apply jA
  simp [y58.r1]
  refine AC.fix (yb4 _ _ _) ?_
  simp
  apply jD
  simp
theorem byFn_ok (a b:Fu) (H:Hp):AC Tryz.prog yac [.agg (ya5 a),.agg (ya5 b)] H (fun v H'=>v=.i .i64 (ybo a.name b.name)∧H'=H):=by
  refine AC.code y5e.at y5e.ok ?_
  simp only [y5e]
  apply jA
  simp [y5e.r0,ya5]
  apply jA
  simp [y5e.r1]
  refine AC.fix (yb4 _ _ _) ?_
  simp
  apply jD
  simp
theorem ymy (f:Fu) (h1:f.name.length≤9223372036854775806) (h2:f.kinds.length≤9223372036854775807) (H:Hp):AC Tryz.prog y8a [.agg (ya5 f)] H (fun v H'=>v=.i .i64 (fuE f)∧H'=H):=by
  refine AC.codeP y22.at y22.ok (by simp) fun hlt=>?_
  simp only [y22]
  apply jA
  simp [y22.r0,ya5]
  apply jA
  simp [y22.r1]
  refine AC.fix (ygh f.name h1 _) ?_
  cases hr:ybv f.name with
  | none=>
    simp [rdV,nv,Nd.cs,Nd.zero]
    apply jC
    simp [y22.r2]
    refine jG rfl ?_
    apply jA
    simp [y22.r3]
    apply jD
    simp [fuE,hr]
    exact ⟨ye8 hlt _ _,.refl _⟩
  | some d=>
    simp [rdV,nv,Nd.cs]
    apply jC
    by_cases hk:d.kind=4
    · simp [y22.r2,hk]
      refine jF rfl ?_
      apply jA
      simp [y22.r4]
      refine AC.fix (ydw f.kinds 6 h2 _) ?_
      have eB:(kpB f.kinds&&decide ((f.kinds.length:Int)≤6))=decide (kpB f.kinds=true∧f.kinds.length≤6):=by
        cases kpB f.kinds <;> simp
      rw [eB]
      by_cases hb:kpB f.kinds=true∧f.kinds.length≤6
      · simp only [hb,decide_true]
        by_cases r1:f.ret=[105]
        · simp [r1]
          refine jF rfl (AX.skip ?_)
          simp
          apply jA
          simp [y22.r6]
          apply jD
          simp [fuE,hr,hk,hb,retB,r1]
          exact ⟨ye8 hlt _ _,.refl _⟩
        by_cases r2:f.ret=[112]
        · simp [r1,r2]
          refine jF rfl (AX.skip ?_)
          simp
          apply jA
          simp [y22.r6]
          apply jD
          simp [fuE,hr,hk,hb,retB,r2]
          exact ⟨ye8 hlt _ _,.refl _⟩
        by_cases r3:f.ret=[118]
        · simp [r1,r2,r3]
          refine jF rfl (AX.skip ?_)
          simp
          apply jA
          simp [y22.r6]
          apply jD
          simp [fuE,hr,hk,hb,retB,r3]
          exact ⟨ye8 hlt _ _,.refl _⟩
        simp [r1,r2,r3,show (f.ret == [105])=false by simpa using r1,show (f.ret == [112])=false by simpa using r2,show (f.ret == [118])=false by simpa using r3]
        refine jG rfl ?_
        apply jA
        simp [y22.r5]
        apply jD
        simp [fuE,hr,hk,hb,retB,r1,r2,r3]
        exact ⟨ye8 hlt _ _,.refl _⟩
      · simp only [hb,decide_false]
        simp
        refine jG rfl ?_
        apply jA
        simp [y22.r5]
        apply jD
        have:fuE f=5:=by unfold fuE;rw [hr];simp only [hk];rw [if_neg (by simp),if_pos (.inl hb)]
        simp [this]
        exact ⟨ye8 hlt _ _,.refl _⟩
    · simp [y22.r2,hk]
      refine jG rfl ?_
      apply jA
      simp [y22.r3]
      apply jD
      simp [fuE,hr,hk]
      exact ⟨ye8 hlt _ _,.refl _⟩
def CldInv (c:Cn) (l r:Str) (H:Hp) (m:Nat) (F:Fr) (X:Hp):Prop:=
  ∃i,i≤c.args.length∧m=c.args.length-i∧(∀j,j<i→yof (yq9 l r j) (c.args.getD j [])=true)∧X=H∧F=[(3,.s l),(4,.s r),(50,ss c.args),(51,.i .i64 c.args.length),(52,.i .i64 i)]
theorem yu6 (c:Cn) (ht:c.tag.length≤9223372036854775807) (ha:c.args.length≤9223372036854775807) (hx:∀a∈c.args,a.length≤9223372036854775806) (H:Hp):AC Tryz.prog yab [.agg (y5y c)] H (fun v H'=>v=.b (ycz c)∧H'=H):=by
  refine AC.code y15.at y15.ok ?_
  simp only [y15]
  apply jA
  simp [y15.r0,y5y]
  apply jA
  simp [y15.r1]
  refine AC.fix (Cut_ok c.tag ht _) ?_
  rw [yk9]
  unfold cutV
  cases hs:ygl c.tag with
  | none=>
    simp
    apply jB
    simp [y15.r2]
    refine jG rfl ?_
    apply jA
    simp [y15.r3]
    apply jD
    simp
  | some x=>
    obtain ⟨l,r⟩:=x
    have hll:=ykh hs
    simp
    refine AX.seq ?_
    refine AX.test (!(yd3 l r&&decide (c.k=0)&&decide (c.args.length=l.length+1))) [(1,.fp (y5y c) 0),(3,.s l),(4,.s r),(48,.b (!(yd3 l r&&decide (c.k=0)&&decide (c.args.length=l.length+1))))] ?_ rfl (fun hb=>?_) (fun hb=>AX.skip ?_)
    · have hw:IntKind.i64.wrap ((l.length:Int)+1)=(l.length:Int)+1:=y3g (by omega) (by omega)
      have eB:(kpB l&&decide ((l.length:Int)≤6))=decide (kpB l=true∧l.length≤6):=by
        cases kpB l <;> simp
      by_cases hk:c.k=0
      · simp [y15.r2,hk]
        refine AC.fix (ydw l 6 (by omega) _) ?_
        rw [eB]
        by_cases hq:kpB l=true∧l.length≤6
        · by_cases r0:r=[]
          · by_cases hl:c.args.length=l.length+1
            · simp [hq,r0,yd3,ss,hl,hw,y5y,hk]
            · simp [hq,r0,yd3,ss,hl,hw,y5y,hk,show ¬(c.args.length:Int)=(l.length:Int)+1 by omega]
          have q0:(r == [])=false:=by simpa using r0
          by_cases r1:r=[105]
          · by_cases hl:c.args.length=l.length+1
            · simp [hq,r1,yd3,ss,hl,hw,y5y,hk]
            · simp [hq,r1,yd3,ss,hl,hw,y5y,hk,show ¬(c.args.length:Int)=(l.length:Int)+1 by omega]
          have q1:(r == [105])=false:=by simpa using r1
          by_cases r2:r=[112]
          · by_cases hl:c.args.length=l.length+1
            · simp [hq,r2,yd3,ss,hl,hw,y5y,hk]
            · simp [hq,r2,yd3,ss,hl,hw,y5y,hk,show ¬(c.args.length:Int)=(l.length:Int)+1 by omega]
          have q2:(r == [112])=false:=by simpa using r2
          simp [hq,r0,r1,r2,q0,q1,q2,yd3,y5y,hk]
        · have hsf:yd3 l r=false:=by
            unfold yd3
            have:(kpB l&&decide (l.length≤6))=false:=by
              cases hkp:kpB l
              · rfl
              · simp only [hkp,true_and] at hq;simp [hq]
            rw [this];rfl
          simp only [hq,decide_false]
          simp [hsf,y5y,hk]
      · simp [y15.r2,hk,y5y]
    · apply jA
      simp [y15.r3]
      apply jD
      simp at hb
      simp
      rcases hb with (h | h) | h <;> simp [h]
    simp at hb
    obtain ⟨⟨h1,h2⟩,h3⟩:=hb
    simp [h1,h2,h3]
    apply jB
    simp [y15.r4,y5y,ss]
    refine AX.pblock (AX.loop (CldInv c l r H) c.args.length ⟨_,_,.refl _ _,0,by omega,by omega,fun j hj=>by omega,rfl,by simp [ss,h3]⟩ ?_)
    rintro m F X ⟨i,hi,rfl,hn,rfl,rfl⟩
    simp only [y15.l0]
    apply jA
    simp [y15.r5]
    refine AX.seq (AX.pcond rfl (fun hb=>AX.skip ?_) (fun hb=>AX.exit ?_))
    case refine_2=>
      simp at hb
      have:yqp l r c.args=true:=List.all_eq_true.2 fun j hj=>hn j (by have:=List.mem_range.1 hj;omega)
      simp
      apply jA
      simp [y15.r13]
      apply jD
      simp [this]
    simp at hb
    simp
    apply jC
    simp [y15.r6,ss,hb]
    apply jA
    simp [y15.r7]
    have hgd:c.args.getD i []=c.args[i]:=by simp [hb]
    have hxa:=hx _ (List.getElem_mem hb)
    generalize c.args[i]=a at *
    refine AX.seq (AX.join (F1:=[(3,.s l),(4,.s r),(7,.s a),(8,.b (yq9 l r i)),(50,ss c.args),(51,.i .i64 c.args.length),(52,.i .i64 i)]) (H1:=X) ?_ ?_)
    · apply jA
      simp [y15.r8]
      refine AX.pcond rfl (fun hc=>?_) (fun hc=>AX.skip ?_)
      · simp at hc
        have hi1:i-1<l.length:=by omega
        have e1:((l[i-1].toNat:Int)=112)=(l[i-1]=112):=yru l[i-1] 112 (by omega)
        have e0:((i:Int)-1).toNat=i-1:=by omega
        apply jE
        simp [y15.r9,show (0:Int)≤(i:Int)-1 by omega,show 1≤i by omega,e0,hi1,e1,show IntKind.i64.wrap ((i:Int)-1)=(i:Int)-1 from y3g (by omega) (by omega),ss]
        simp [yq9,show ¬i=0 by omega,hi1]
      · simp at hc
        subst hc
        simp [yq9,ss]
    simp
    obtain ⟨p,hp⟩:∃p,p=yq9 l r i:=⟨_,rfl⟩
    rw [←hp]
    refine AX.test (!yof p a) [(3,.s l),(4,.s r),(50,ss c.args),(51,.i .i64 c.args.length),(52,.i .i64 i),(76,.b (!yof p a))] ?_ rfl (fun hc=>?_) (fun hc=>AX.skip ?_)
    · by_cases h0:a=[]
      · simp [y15.r10,h0,yof,ss]
      · have h0':(a == [])=false:=by simpa using h0
        cases p
        · simp [y15.r10,h0,h0',yof,ss]
        · simp [y15.r10,h0,h0',yof,ss]
          refine AC.fix (y9w a hxa _) ?_
          simp
    · apply jA
      simp [y15.r11]
      apply jD
      simp at hc
      simp [ypv hb (by rw [hgd,←hp];exact hc)]
    simp at hc
    simp
    apply jE
    simp [y15.r12,y3q hb ha]
    refine ⟨c.args.length-(i+1),by omega,_,_,.refl _ _,i+1,by omega,rfl,fun j hj=>?_,rfl,by simp⟩
    by_cases hj2:j=i
    · subst hj2;rw [hgd,←hp];exact hc
    · exact hn j (by omega)
end Go.Proofs.YthmkcebbeehbeaaGreatDoor
