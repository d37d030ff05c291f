/- Part 28 of the proof of the laws of the queries: CrcMath, Q17, QAl, Gen1, S20a, S20b. -/
import Derived.Test.YthmkcebbeehbeaaGreatDoorXTw18
import Derived.Test.YthmkcebbeehbeaaGreatDoorXTw20
import Derived.Test.YthmkcebbeehbeaaGreatDoorXTw24
import Derived.Test.YthmkcebbeehbeaaGreatDoorXTw27
set_option linter.unusedSimpArgs false
set_option linter.unusedVariables false
namespace Go.Proofs.YthmkcebbeehbeaaGreatDoor
open Am
def yil (v:Nat):Nat:=if (v*2) &&& 16777216≠0 then (v*2) ^^^ 25578747 else v*2
def ykb:Nat→Nat→Nat
  | 0,v=>v
  | k+1,v=>ykb k (yil v)
def yr0 (v:Nat) (b:UInt8):Nat:=ykb 8 (v ^^^ (b.toNat*65536))
def yce (v:Nat) (l:List UInt8):Nat:=l.foldl yr0 v
theorem yif (w:Nat):(w &&& 16777216≠0)↔w.testBit 24=true:=by
  have h:(16777216:Nat)=2 ^ 24:=by decide
  rw [h]
  constructor
  · intro hne
    cases hb:w.testBit 24 with
    | true=>rfl
    | false=>
      exfalso
      apply hne
      apply Nat.eq_of_testBit_eq
      intro i
      rw [Nat.testBit_and,Nat.testBit_two_pow,Nat.zero_testBit]
      by_cases hi:24=i
      · subst hi;simp [hb]
      · simp [hi]
  · intro hb h0
    have:(w &&& 2 ^ 24).testBit 24=true:=by rw [Nat.testBit_and,hb,Nat.testBit_two_pow];simp
    rw [h0] at this
    simp at this
theorem yba (w:Nat):w.testBit 24=decide (w / 16777216 % 2=1):=by
  have h:(16777216:Nat)=2 ^ 24:=by decide
  rw [Nat.testBit_eq_decide_div_mod_eq,h]
theorem yib {v:Nat} (h:v<16777216):yil v<16777216:=by
  unfold yil
  split
  · rename_i hb
    rw [yif] at hb
    have h1:v*2<2 ^ 25:=by omega
    have h2:v*2 ^^^ 25578747<2 ^ 25:=Nat.xor_lt_two_pow h1 (by decide)
    have h3:(v*2 ^^^ 25578747).testBit 24=false:=by
      rw [Nat.testBit_xor,hb];decide
    rw [yba] at h3
    simp at h3
    omega
  · rename_i hb
    have:¬((v*2).testBit 24=true):=fun h=>hb ((yif _).2 h)
    rw [yba] at this
    simp at this
    omega
theorem yl7:∀(k:Nat) {v:Nat},v<16777216→ykb k v<16777216
  | 0,_,h=>h
  | k+1,_,h=>yl7 k (yib h)
theorem yr5 {v:Nat} (h:v<16777216) (b:UInt8):v ^^^ (b.toNat*65536)<16777216:=by
  have:=b.toNat_lt
  exact Nat.xor_lt_two_pow (n:=24) h (by omega)
theorem crcB_lt {v:Nat} (h:v<16777216) (b:UInt8):yr0 v b<16777216:=yl7 8 (yr5 h b)
theorem yi9:∀(l:List UInt8) {v:Nat},v<16777216→yce v l<16777216
  | [],_,h=>h
  | b::l,_,h=>yi9 l (crcB_lt h b)
theorem yqx (v:Nat) (l:List UInt8) (i:Nat) (h:i<l.length):yce v (l.take (i+1))=yr0 (yce v (l.take i)) l[i]:=by
  unfold yce
  rw [List.take_succ_eq_append_getElem h,List.foldl_append]
  rfl
theorem yqw (k:Nat) (v:Nat):ykb (k+1) v=yil (ykb k v):=by
  induction k generalizing v with
  | zero=>rfl
  | succ k ih=>rw [ykb,ih];rfl
def yo4 (v:Nat):List UInt8:=[UInt8.ofNat (v / 65536),UInt8.ofNat (v / 256),UInt8.ofNat v]
theorem yot (v k:Nat):UInt8.ofNat (IntKind.u8.wrap ((v:Int).fdiv (k:Int))).toNat=UInt8.ofNat (v / k):=by
  rw [ykc,Int.fdiv_eq_ediv_of_nonneg _ (by omega)]
  have:((v:Int) / (k:Int) % 256).toNat=v / k % 256:=by
    rw [←Int.natCast_ediv];omega
  rw [this]
  apply UInt8.toNat_inj.1
  simp
theorem u8_all (v:Nat):UInt8.ofNat (IntKind.u8.wrap (v:Int)).toNat=UInt8.ofNat v:=by
  have:=yot v 1
  simpa using this
open C
abbrev Fact:=Str × List Str
def fcs (f:Fact):List V:=[.s f.1,ss f.2]
def IdxInv (l:List Str) (x:Str) (H:Hp) (m:Nat) (F:Fr) (H':Hp):Prop:=
  ∃i,i≤l.length∧m=l.length-i∧x∉l.take i∧H'=H∧F=[(0,ss l),(1,.s x),(7,.i .i64 l.length),(8,.i .i64 i)]
theorem Index_ok (l:List Str) (x:Str) (hl:l.length≤9223372036854775807) (H:Hp):AC Tryz.prog y5l [ss l,.s x] H (fun v H'=>v=.i .i64 (yk9 l x)∧H'=H):=by
  refine AC.code yj.at yj.ok ?_
  simp only [yj]
  apply jA
  simp [yj.r0]
  apply jB
  simp [yj.r1,ss]
  refine AX.pblock (AX.loop (IdxInv l x H) l.length ⟨_,_,.refl _ _,0,by omega,by omega,by simp,rfl,rfl⟩ ?_)
  rintro m F H' ⟨i,hi,rfl,hx,rfl,rfl⟩
  simp only [yj.l0]
  apply jA
  simp [yj.r2]
  refine AX.seq (AX.pcond rfl (fun hc=>AX.skip ?_) (fun hc=>AX.exit ?_))
  · simp at hc
    simp
    apply jC
    simp [yj.r3]
    apply jA
    simp [yj.r4,ss,hc]
    refine AX.pcond rfl (fun hd=>?_) (fun hd=>AX.skip ?_)
    · simp at hd
      apply jA
      simp [yj.r5]
      apply jD
      simp
      exact (numV_at (by rw [List.getElem?_eq_getElem hc,hd]) hx).symm
    simp at hd
    simp
    apply jE
    simp [yj.r6,y4v hc hl]
    refine ⟨l.length-(i+1),by omega,_,_,.refl _ _,i+1,by omega,rfl,?_,rfl,by simp [ss]⟩
    rw [List.take_add_one,List.getElem?_eq_getElem hc]
    intro hm
    rcases List.mem_append.1 hm with hm | hm
    · exact hx hm
    · simp at hm;exact hd hm
  simp at hc
  rw [List.take_of_length_le hc] at hx
  have h1:=yhz.2 hx
  have h2:=ypp l x
  simp
  apply jA
  simp [yj.r7]
  apply jD
  simp;omega
theorem numV_in (l:List Str) (x:Str):(0≤yk9 l x)=(x∈l):=by
  have h2:=ypp l x
  refine propext ⟨fun h=>Classical.byContradiction fun hc=>by have:=yhz.2 hc;omega,fun h=>?_⟩
  rcases Int.lt_or_le (yk9 l x) 0 with h3 | h3
  · exact absurd h (yhz.1 h3)
  · exact h3
theorem ylp (l:List Str) (x:Str) (hl:l.length≤9223372036854775807) (H:Hp):AC Tryz.prog y57 [ss l,.s x] H (fun v H'=>v=.b (decide (x∈l))∧H'=H):=by
  refine AC.code y24.at y24.ok ?_
  simp only [y24]
  apply jA
  simp [y24.r0]
  apply jA
  simp [y24.r1]
  refine AC.fix (Index_ok l x hl _) ?_
  simp [numV_in]
  apply jD
  simp
@[simp] theorem fcs_len (f:Fact):(fcs f).length=2:=rfl
@[simp] theorem fcs_take (f:Fact):(fcs f).take 2=fcs f:=rfl
def yl0 {α:Type} (p:α→Bool):List α→Int
  | []=>-1
  | y::r=>if p y then 0 else if yl0 p r<0 then -1 else yl0 p r+1
theorem ydq {α:Type} {p:α→Bool} {l:List α} (h:l.find? p=none):yl0 p l=-1:=by
  induction l with
  | nil=>rfl
  | cons y r ih=>
    simp only [List.find?_cons] at h
    cases hp:p y with
    | true=>rw [hp] at h;cases h
    | false=>rw [hp] at h;simp [yl0,hp,ih h]
theorem yq3 {α:Type} {p:α→Bool} {l:List α} {i:Nat} {x:α} (h:l[i]?=some x) (hp:p x=true) (hn:(l.take i).find? p=none):yl0 p l=i:=by
  induction l generalizing i with
  | nil=>simp at h
  | cons y r ih=>
    cases i with
    | zero=>simp at h;subst h;simp [yl0,hp]
    | succ i=>
      simp only [List.getElem?_cons_succ] at h
      simp only [List.take_succ_cons,List.find?_cons] at hn
      cases hy:p y with
      | true=>rw [hy] at hn;cases hn
      | false=>
        rw [hy] at hn
        have:=ih h hn
        simp only [yl0,hy,this]
        simp
theorem yqc {α:Type} {p:α→Bool} {l:List α} {x:α} (h:l.find? p=some x):∃i:Nat,i<l.length∧l[i]?=some x∧yl0 p l=i:=by
  induction l with
  | nil=>cases h
  | cons y r ih=>
    simp only [List.find?_cons] at h
    cases hp:p y with
    | true=>rw [hp] at h;injection h with h;subst h;exact ⟨0,by simp,rfl,by simp [yl0,hp]⟩
    | false=>
      rw [hp] at h
      obtain ⟨i,h1,h2,h3⟩:=ih h
      exact ⟨i+1,by simp;omega,by simpa using h2,by simp only [yl0,hp,h3];simp⟩
def IdxGInv (l:List Str) (g:V) (p:Str→Bool) (H:Hp) (m:Nat) (F:Fr) (H':Hp):Prop:=
  ∃i,i≤l.length∧m=l.length-i∧(l.take i).find? p=none∧H'=H∧F=[(0,ss l),(1,g),(7,.i .i64 l.length),(8,.i .i64 i)]
theorem yii (l:List Str) (f:Go.FuncId) (caps:List V) (p:Str→Bool) (hl:l.length≤9223372036854775807) (H:Hp) (hf:∀x∈l,AC Tryz.prog f (.s x::caps) H (fun v H'=>v=.b (p x)∧H'=H)):
    AC Tryz.prog y4z [ss l,.fn f caps] H (fun v H'=>v=.i .i64 (yl0 p l)∧H'=H):=by
  refine AC.code yh.at yh.ok ?_
  simp only [yh]
  apply jA
  simp [yh.r0]
  apply jB
  simp [yh.r1,ss]
  refine AX.pblock (AX.loop (IdxGInv l (.fn f caps) p H) l.length ⟨_,_,.refl _ _,0,by omega,by omega,by simp,rfl,rfl⟩ ?_)
  rintro m F H' ⟨i,hi,rfl,hx,rfl,rfl⟩
  simp only [yh.l0]
  apply jA
  simp [yh.r2]
  refine AX.seq (AX.pcond rfl (fun hc=>AX.skip ?_) (fun hc=>AX.exit ?_))
  · simp at hc
    simp
    apply jC
    simp [yh.r3]
    apply jA
    simp [yh.r4,ss,hc]
    refine AC.fix (hf _ (List.getElem_mem hc)) ?_
    simp
    refine AX.pcond rfl (fun hd=>?_) (fun hd=>AX.skip ?_)
    · apply jA
      simp [yh.r5]
      apply jD
      simp
      exact (yq3 (List.getElem?_eq_getElem hc) hd hx).symm
    simp
    apply jE
    simp [yh.r6,y4v hc hl]
    refine ⟨l.length-(i+1),by omega,_,_,.refl _ _,i+1,by omega,rfl,?_,rfl,by simp [ss]⟩
    rw [List.take_add_one,List.getElem?_eq_getElem hc,List.find?_append,hx]
    simp [hd]
  simp at hc
  rw [List.take_of_length_le hc] at hx
  simp
  apply jA
  simp [yh.r7]
  apply jD
  simp [ydq hx]
theorem ya9 (l:List Str) (f:Go.FuncId) (caps:List V) (p:Str→Bool) (hl:l.length≤9223372036854775807) (H:Hp) (hf:∀x∈l,AC Tryz.prog f (.s x::caps) H (fun v H'=>v=.b (p x)∧H'=H)):
    AC Tryz.prog y3x [ss l,.fn f caps] H (fun v H'=>v=.b (l.any p)∧H'=H):=by
  refine AC.code y1u.at y1u.ok ?_
  simp only [y1u]
  apply jA
  simp [y1u.r0]
  apply jA
  simp [y1u.r1]
  refine AC.fix (yii l f caps p hl _ hf) ?_
  simp
  apply jD
  have e:decide (0≤yl0 p l)=l.any p:=by
    cases hf:l.find? p with
    | none=>
      rw [ydq hf]
      have:l.any p=false:=by rw [List.any_eq_false];intro x hx;exact List.find?_eq_none.1 hf x hx
      rw [this];rfl
    | some x=>
      obtain ⟨i,h1,h2,h3⟩:=yqc hf
      rw [h3]
      have:l.any p=true:=List.any_eq_true.2 ⟨x,List.mem_of_find?_eq_some hf,List.find?_some hf⟩
      rw [this];simp
  simp [e]
def elV (ag:Bool) (cs:List V):V:=if ag then .agg cs else cs.headD .junk
theorem one_el {ag:Bool} {cs:List V} {sz:Nat} (h1:cs.length=sz) (h2:ag=false→sz=1):one ag cs=some (elV ag cs):=by
  cases ag with
  | true=>simp [elV]
  | false=>
    have:=h2 rfl
    match cs,h1 with
    | [v],_=>simp [elV]
    | [],h=>simp at h;omega
    | _::_::_,h=>simp at h;omega
def ydb.r0:List AStep:=[⟨some 4,none,.op (.mov (.c (.i .i64 0)))⟩]
def ydb.r1:List AStep:=[ab 6 0,ap 7 6,af 8 0]
def ydb.r2:List AStep:=[⟨some 9,none,.op (.bin .lss (.t 8) (.t 7))⟩]
def ydb.r3:List AStep:=[⟨some 10,none,.op (.mov (.t 8))⟩,⟨some 5,none,.op (.mov (.t 10))⟩]
def ydb.r4 (sz:Nat) (ag:Bool):List AStep:=[ab 11 1,ab 12 0,ab 13 5,⟨some 14,none,.op (.iad sz (.t 12) (.t 13))⟩,⟨some 15,none,.op (.load ag sz (.t 14))⟩,a1c 16 11 15]
def ydb.r5:List AStep:=[⟨some 17,none,.op (.mov (.t 5))⟩,⟨some 4,none,.op (.mov (.t 17))⟩]
def ydb.r6:List AStep:=[⟨some 18,none,.op (.bin .add (.t 8) (.c (.i .i64 1)))⟩,⟨some 8,none,.op (.mov (.t 18))⟩]
def ydb.r7:List AStep:=[⟨some 4,none,.op (.mov (.c (.i .i64 (-1))))⟩]
def ydb.l0 (sz:Nat) (ag:Bool):ACode:=.seq (.post [0,1,7,8,9] (.region ydb.r2)) (.seq (.post [0,1,7,8] (.cond (.t 9) (.skip) (.exit 0))) (.seq (.post [0,1,7,8] (.block 1 (.seq (.post [0,1,5,7,8] (.region ydb.r3)) (.seq (.post [0,1,5,7,8,16] (.region (ydb.r4 sz ag))) (.post [0,1,7,8] (.cond (.t 16) (.seq (.post [4] (.region ydb.r5)) (.ret)) (.skip))))))) (.post [0,1,7,8] (.region ydb.r6))))
def ydb (sz:Nat) (ag:Bool):AFunc:=⟨19,[.t 4],.seq (.post [0,1] (.region ydb.r0)) (.seq (.seq (.post [0,1,7,8] (.region ydb.r1)) (.post [] (.block 0 (.loop (ydb.l0 sz ag))))) (.seq (.post [4] (.region ydb.r7)) (.ret)))⟩
section
variable {α:Type}
def IdxAInv (es:List (List V)) (g:V) (p:α→Bool) (l:List α) (H:Hp) (m:Nat) (F:Fr) (H':Hp):Prop:=
  ∃i,i≤l.length∧m=l.length-i∧(l.take i).find? p=none∧H'=H∧F=[(0,.fs es),(1,g),(7,.i .i64 l.length),(8,.i .i64 i)]
theorem yq4 {fid:Go.FuncId} {fn:Go.Func} {sz:Nat} {ag:Bool} (hf:Tryz.prog.funcs[fid]?=some fn) (hok:y1o Tryz.prog fn (ydb sz ag)=true) (l:List α) (enc:α→List V) (he:∀x∈l,(enc x).length=sz) (ha:ag=false→sz=1) (f:Go.FuncId) (caps:List V) (p:α→Bool)
    (hl:l.length≤9223372036854775807) (H:Hp) (hc:∀x∈l,AC Tryz.prog f (elV ag (enc x)::caps) H (fun v H'=>v=.b (p x)∧H'=H)):
    AC Tryz.prog fid [.fs (l.map enc),.fn f caps] H (fun v H'=>v=.i .i64 (yl0 p l)∧H'=H):=by
  refine AC.code hf hok ?_
  simp only [ydb]
  apply jA
  simp [ydb.r0]
  apply jB
  simp [ydb.r1]
  refine AX.pblock (AX.loop (IdxAInv (l.map enc) (.fn f caps) p l H) l.length ⟨_,_,.refl _ _,0,by omega,by omega,by simp,rfl,rfl⟩ ?_)
  rintro m F H' ⟨i,hi,rfl,hx,rfl,rfl⟩
  simp only [ydb.l0]
  apply jA
  simp [ydb.r2]
  refine AX.seq (AX.pcond rfl (fun hd=>AX.skip ?_) (fun hd=>AX.exit ?_))
  · simp at hd
    simp
    have hg:l[i]?=some l[i]:=List.getElem?_eq_getElem hd
    have hm:=List.getElem_mem hd
    have h1:=he _ hm
    have h2:=hc _ hm
    have h3:=one_el h1 ha
    have htk:List.take sz (enc l[i])=enc l[i]:=List.take_of_length_le (by omega)
    apply jC
    simp [ydb.r3]
    apply jA
    simp [ydb.r4,hd,hg,h1,htk,h3,-one]
    refine AC.fix h2 ?_
    simp
    refine AX.pcond rfl (fun hb=>?_) (fun hb=>AX.skip ?_)
    · apply jA
      simp [ydb.r5]
      apply jD
      simp
      exact (yq3 hg hb hx).symm
    simp
    apply jE
    simp [ydb.r6,y4v hd hl]
    refine ⟨l.length-(i+1),by omega,_,_,.refl _ _,i+1,by omega,rfl,?_,rfl,by simp⟩
    rw [List.take_add_one,hg,List.find?_append,hx]
    simp [hb]
  simp at hd
  rw [List.take_of_length_le hd] at hx
  simp
  apply jA
  simp [ydb.r7]
  apply jD
  simp [ydq hx]
def conF.r0:List AStep:=[⟨some 4,none,.op (.mov (.c (.b false)))⟩]
def conF.r1 (ix:Go.FuncId):List AStep:=[ab 5 0,ab 6 1,⟨some 7,none,.call ix [.t 5,.t 6]⟩,a1f 8 7 0,ab 4 8]
def conF (ix:Go.FuncId):AFunc:=⟨9,[.t 4],.seq (.post [0,1] (.region conF.r0)) (.seq (.post [4] (.region (conF.r1 ix))) (.ret))⟩
theorem idxP_any (p:α→Bool) (l:List α):decide (0≤yl0 p l)=l.any p:=by
  cases hf:l.find? p with
  | none=>
    rw [ydq hf]
    have:l.any p=false:=by rw [List.any_eq_false];intro x hx;exact List.find?_eq_none.1 hf x hx
    rw [this];rfl
  | some x=>
    obtain ⟨i,h1,h2,h3⟩:=yqc hf
    rw [h3]
    have:l.any p=true:=List.any_eq_true.2 ⟨x,List.mem_of_find?_eq_some hf,List.find?_some hf⟩
    rw [this];simp
theorem yr1 {fid ix:Go.FuncId} {fn:Go.Func} (hf:Tryz.prog.funcs[fid]?=some fn) (hok:y1o Tryz.prog fn (conF ix)=true) {a g:V} {p:α→Bool} {l:List α} {H:Hp}
    (h:AC Tryz.prog ix [a,g] H (fun v H'=>v=.i .i64 (yl0 p l)∧H'=H)):AC Tryz.prog fid [a,g] H (fun v H'=>v=.b (l.any p)∧H'=H):=by
  refine AC.code hf hok ?_
  simp only [conF]
  apply jA
  simp [conF.r0]
  apply jA
  simp [conF.r1]
  refine AC.fix h ?_
  simp
  apply jD
  simp [idxP_any]
end
theorem Trim_ok (s t:Str) (hs:s.length≤9223372036854775807) (ht:t.length<4294967281) (ha:t.all (fun b=>decide (b.toNat<128))=true) (H:Hp):AC Tryz.prog yd0 [.s s,.s t] H (fun v H'=>v=.s (Go.Lib.trimS s t)∧H'=H):=by
  refine AC.below (by kernel_rfl) fun κ cs r=>?_
  obtain ⟨a,b,rfl,ra,rb⟩:=r.two'
  obtain rfl:=vr_s ra
  obtain rfl:=vr_s rb
  refine ⟨_,fun κ'=>.s _,?_⟩
  refine (Go.Proofs.Any.strings_Trim_laid Tryz.lays160 (by kernel_rfl) ⟨s.toArray⟩ ⟨t.toArray⟩ κ.w (show s.toArray.size≤9223372036854775807 by simpa using hs) (show t.toArray.size<4294967281 by simpa using ht) (by simpa using Go.Proofs.ascii_of_all ha)).mono fun e w' ⟨he,hw⟩=>⟨?_,hw⟩
  rw [he]
theorem yru (s:Str) (c:UInt8) (H:Hp):AC Tryz.prog y79 [.s s,.s [c]] H (fun v H'=>v=.i .i64 (Go.Lib.indexByte s c)∧H'=H):=by
  refine AC.below (by kernel_rfl) fun κ cs r=>?_
  obtain ⟨a,b,rfl,ra,rb⟩:=r.two'
  obtain rfl:=vr_s ra
  obtain rfl:=vr_s rb
  refine ⟨_,fun κ'=>.i _ _,?_⟩
  refine (Tryz.stringslite_Index_one ⟨s.toArray⟩ c κ.w).mono fun e w' ⟨he,hw⟩=>⟨?_,?_⟩
  · rw [he]
  · rw [hw];exact .refl _ _
theorem trim_nil (s:Str):(Go.Lib.trimS s [105,112]=[])=(kpB s=true):=by
  have hp:∀l:Str,l.all (List.contains [105,112])=kpB l:=fun l=>by
    unfold kpB
    congr 1
    funext c
    simp [List.contains,List.elem]
    cases c == 105 <;> cases c == 112 <;> rfl
  apply propext
  unfold Go.Lib.trimS Go.Lib.trimLeftS Go.Lib.trimRightS
  rw [y9r,←hp s]
  constructor
  · intro h
    rw [List.all_reverse] at h
    have hd:s.reverse.dropWhile (List.contains [105,112])=[]:=by
      cases hx:s.reverse.dropWhile (List.contains [105,112]) with
      | nil=>rfl
      | cons c r=>
        have h1:=List.head_dropWhile_not (List.contains [105,112]) (l:=s.reverse) (by rw [hx];simp)
        rw [hx] at h
        simp only [hx,List.head_cons] at h1
        simp only [List.all_cons,Bool.and_eq_true] at h
        rw [h1] at h;exact absurd h.1 (by simp)
    rw [y9r,List.all_reverse] at hd
    exact hd
  · intro h
    have:s.reverse.dropWhile (List.contains [105,112])=[]:=by rw [y9r,List.all_reverse];exact h
    rw [this];rfl
theorem ybm (s:Str) (n:Int) (hs:s.length≤9223372036854775807) (H:Hp):AC Tryz.prog y5u [.s s,.i .i64 n] H (fun v H'=>v=.b (kpB s&&decide ((s.length:Int)≤n))∧H'=H):=by
  refine AC.code y3a.at y3a.ok ?_
  simp only [y3a]
  apply jA
  simp [y3a.r0]
  apply jA
  simp [y3a.r1]
  refine AC.fix (Trim_ok s [105,112] hs (by simp) (by rfl) _) ?_
  have ht:=trim_nil s
  by_cases h:Go.Lib.trimS s [105,112]=[]
  · have hk:kpB s=true:=by rw [←ht];exact h
    simp [h]
    apply jD
    simp [hk]
  · have hk:kpB s=false:=by
      cases e:kpB s
      · rfl
      · exact absurd (by rw [ht];exact e) h
    simp [h,show (Go.Lib.trimS s [105,112] == [])=false by simpa using h]
    apply jD
    simp [hk]
theorem yfj (s:Str) (hs:s.length≤9223372036854775807) (H:Hp):AC Tryz.prog y7l [.s s] H (fun v H'=>v=.b (ylz s)∧H'=H):=by
  refine AC.code y3j.at y3j.ok ?_
  simp only [y3j]
  apply jA
  simp [y3j.r0]
  apply jA
  by_cases h:s=[]
  · simp [y3j.r1,h]
    apply jD
    simp [ylz]
  · have h1:1≤s.length:=by cases s <;> simp_all
    simp [y3j.r1,h,show (s == [])=false by simpa using h]
    apply jD
    simp [ylz,h1]
theorem y86 (s:Str) (hs:s.length≤9223372036854775806) (H:Hp):AC Tryz.prog y6b [.s s] H (fun v H'=>v=.b (y9p s)∧H'=H):=by
  refine AC.codeP y3p.at y3p.ok (by simp) fun hlt=>?_
  simp only [y3p]
  apply jA
  simp [y3p.r0]
  apply jA
  simp [y3p.r1]
  refine AC.fix (ydx s hs _) ?_
  cases hr:yd7 s with
  | none=>
    simp [rdV,nv,Nd.cs,Nd.zero]
    apply jA
    simp [y3p.r2]
    apply jD
    simp [y9p,hr]
    exact ⟨(Hp.Ext.add hlt _).upd hlt (Nat.le_refl _) _,.refl _⟩
  | some d=>
    simp [rdV,nv,Nd.cs]
    apply jA
    by_cases hk:d.kind≤3
    · simp [y3p.r2,hk]
      apply jD
      simp [y9p,hr,hk]
      exact ⟨(Hp.Ext.add hlt _).upd hlt (Nat.le_refl _) _,.refl _⟩
    · simp [y3p.r2,hk]
      apply jD
      simp [y9p,hr,hk]
      exact ⟨(Hp.Ext.add hlt _).upd hlt (Nat.le_refl _) _,.refl _⟩
theorem yrm (s:Str) (hs:s.length≤9223372036854775806) (H:Hp):AC Tryz.prog yao [.s s] H (fun v H'=>v=.b (yen s)∧H'=H):=by
  refine AC.codeP y3g.at y3g.ok (by simp) fun hlt=>?_
  simp only [y3g]
  apply jA
  simp [y3g.r0]
  apply jA
  simp [y3g.r1]
  refine AC.fix (ydx s hs _) ?_
  cases hr:yd7 s with
  | none=>
    simp [rdV,nv,Nd.cs,Nd.zero]
    apply jA
    simp [y3g.r2]
    apply jD
    simp [yen,hr]
    exact ⟨(Hp.Ext.add hlt _).upd hlt (Nat.le_refl _) _,.refl _⟩
  | some d=>
    simp [rdV,nv,Nd.cs]
    apply jA
    by_cases hk:d.kind=4
    · simp [y3g.r2,hk]
      apply jD
      simp [yen,hr,hk]
      exact ⟨(Hp.Ext.add hlt _).upd hlt (Nat.le_refl _) _,.refl _⟩
    · simp [y3g.r2,hk]
      apply jD
      simp [yen,hr,hk]
      exact ⟨(Hp.Ext.add hlt _).upd hlt (Nat.le_refl _) _,.refl _⟩
theorem yn6 (t:Str):(ygo t=none→Go.Lib.indexByte t 62=-1)∧∀l r,ygo t=some (l,r)→Go.Lib.indexByte t 62=l.length∧t=l++62::r:=by
  refine ⟨fun h=>?_,fun l r h=>?_⟩
  · refine yjf fun hm=>?_
    obtain ⟨i,hi,he⟩:=List.mem_iff_getElem.1 hm
    have:∀{q:Str},(62:UInt8)∈q→ygo q≠none:=by
      intro q
      induction q with
      | nil=>intro h;cases h
      | cons a q ih=>
        intro h
        unfold ygo
        split
        · simp
        · rename_i ha
          have:(62:UInt8)∈q:=(List.mem_cons.1 h).resolve_left fun e=>ha e.symm
          have:=ih this
          cases hq:ygo q with
          | none=>exact absurd hq this
          | some x=>simp
    exact this hm h
  · have:∀{q l r:Str},ygo q=some (l,r)→(62:UInt8)∉l∧q=l++62::r:=by
      intro q
      induction q with
      | nil=>intro l r h;simp [ygo] at h
      | cons a q ih=>
        intro l r h
        unfold ygo at h
        split at h
        · rename_i ha
          injection h with h;injection h with h1 h2
          subst h1;subst h2;subst ha;simp
        · rename_i ha
          cases hq:ygo q with
          | none=>rw [hq] at h;cases h
          | some x=>
            rw [hq] at h;injection h with h;injection h with h1 h2
            obtain ⟨g1,g2⟩:=ih (l:=x.1) (r:=x.2) (by rw [hq])
            subst h1;subst h2
            refine ⟨?_,by rw [List.cons_append,←g2]⟩
            simp only [List.mem_cons,not_or]
            exact ⟨fun e=>ha e.symm,g1⟩
    obtain ⟨h1,h2⟩:=this h
    refine ⟨?_,h2⟩
    rw [h2]
    exact yjh h1
def cutV (t:Str):V:=match ygo t with
  | none=>.tup [.s t,.s [],.b false]
  | some (l,r)=>.tup [.s l,.s r,.b true]
theorem Cut0_ok (t:Str) (ht:t.length≤9223372036854775807) (H:Hp):AC Tryz.prog y66 [.s t,.s [62]] H (fun v H'=>v=cutV t∧H'=H):=by
  refine AC.code y1g.at y1g.ok ?_
  simp only [y1g]
  apply jA
  simp [y1g.r0]
  apply jB
  simp [y1g.r1]
  refine AC.fix (yru t 62 _) ?_
  have hi:=yn6 t
  unfold cutV
  cases hs:ygo t with
  | none=>
    rw [hi.1 hs]
    simp
    apply jA
    simp [y1g.r2]
    refine jF rfl (AX.skip ?_)
    simp
    apply jA
    simp [y1g.r4]
    apply jD
    simp
  | some x=>
    obtain ⟨l,r⟩:=x
    obtain ⟨h1,h2⟩:=hi.2 l r hs
    rw [h1]
    simp
    apply jA
    simp [y1g.r2]
    refine jG rfl ?_
    have hlen:t.length=l.length+r.length+1:=by rw [h2];simp;omega
    have w1:IntKind.i64.wrap ((l.length:Int)+1)=(l.length:Int)+1:=y2w (by omega) (by omega)
    have e1:t.take l.length=l:=by rw [h2];simp
    have e2:t.drop (l.length+1)=r:=by rw [h2];simp
    refine AX.seq (AX.drw ?_)
    simp [y1g.r3,w1,e1,show l.length≤t.length by omega,show (0:Int)≤(l.length:Int)+1 by omega,show (l.length:Int)+1≤(t.length:Int) by omega,show ((l.length:Int)+1).toNat=l.length+1 by omega,e2]
    apply jD
    simp
theorem Cut_ok (t:Str) (ht:t.length≤9223372036854775807) (H:Hp):AC Tryz.prog ybh [.s t,.s [62]] H (fun v H'=>v=cutV t∧H'=H):=by
  refine AC.code y4f.at y4f.ok ?_
  simp only [y4f]
  apply jA
  simp [y4f.r0]
  apply jA
  simp [y4f.r1]
  refine AC.fix (Cut0_ok t ht _) ?_
  unfold cutV
  cases hs:ygo t with
  | none=>simp;apply jD;simp
  | some x=>simp;apply jD;simp
theorem yjd (x:Int) (H:Hp):AC Tryz.prog y8p [.i .i64 x] H (fun v H'=>v=.b false∧H'=H):=by
  refine AC.code y44.at y44.ok ?_
  simp only [y44]
  apply jA
  simp [y44.r0]
  apply jA
  simp [y44.r1]
  apply jD
  simp
theorem ygj (x y:Int) (H:Hp):AC Tryz.prog y7p [.i .i64 x,.i .i64 y] H (fun v H'=>v=.i .i64 (cmpI x y)∧H'=H):=by
  refine AC.code yz.at yz.ok ?_
  simp only [yz]
  apply jA
  simp [yz.r0]
  apply jA
  simp [yz.r1]
  refine AC.fix (yjd _ _) ?_
  simp
  apply jA
  simp [yz.r2]
  refine AC.fix (yjd _ _) ?_
  simp
  apply jB
  simp [yz.r3]
  refine jF rfl (AX.skip ?_)
  simp
  apply jB
  simp [yz.r7]
  refine jF rfl (AX.skip ?_)
  simp
  apply jB
  simp [yz.r9]
  refine AX.pcond rfl (fun h=>jA ?_) (fun h=>AX.skip ?_)
  · simp at h
    simp [yz.r10]
    apply jD
    simp [cmpI,h]
  simp at h
  simp
  apply jB
  simp [yz.r11]
  refine AX.pcond rfl (fun h2=>jA ?_) (fun h2=>AX.skip ?_)
  · simp at h2
    simp [yz.r12]
    apply jD
    simp [cmpI,show ¬x<y by omega,show ¬x=y by omega]
  simp at h2
  simp
  apply jA
  simp [yz.r13]
  apply jD
  simp [cmpI,show ¬x<y by omega,show x=y by omega]
def OrInv (R:List Int) (H:Hp) (m:Nat) (F:Fr) (X:Hp):Prop:=
  ∃i,i≤R.length∧m=R.length-i∧orI (R.take i)=0∧X=H∧F=[(3,.i .i64 0),(6,.fs (zi R)),(7,.i .i64 R.length),(8,.i .i64 i)]
theorem Or_ok (R:List Int) (hR:R.length≤1000) (H:Hp):AC Tryz.prog yc8 [.fs (zi R)] H (fun v H'=>v=.i .i64 (orI R)∧H'=H):=by
  refine AC.code y25.at y25.ok ?_
  simp only [y25]
  apply jA
  simp [y25.r0]
  apply jA
  simp [y25.r1]
  apply jB
  simp [y25.r2]
  refine AX.pblock (AX.loop (OrInv R H) R.length ⟨_,_,.refl _ _,0,by omega,by omega,rfl,rfl,by simp [zi]⟩ ?_)
  rintro m F X ⟨i,hi,rfl,ho,rfl,rfl⟩
  simp only [y25.l0]
  apply jA
  simp [y25.r3]
  refine AX.seq (AX.pcond rfl (fun hd=>AX.skip ?_) (fun hd=>AX.exit ?_))
  case refine_2=>
    simp at hd
    rw [List.take_of_length_le hd] at ho
    simp
    apply jA
    simp [y25.r8]
    apply jD
    simp [ho]
  simp at hd
  have hg:R[i]?=some R[i]:=List.getElem?_eq_getElem hd
  have hsp:orI R=if R[i]≠0 then R[i] else orI (R.drop (i+1)):=by
    conv=>lhs;rw [←List.take_append_drop i R,List.drop_eq_getElem_cons hd]
    rw [yh8]
    simp [ho,orI]
  have hst:orI (R.take (i+1))=R[i]:=by
    rw [List.take_add_one,hg,yh8]
    simp [ho,orI]
    exact fun h=>h.symm
  simp
  apply jC
  simp [y25.r4,hd,zi,hg]
  apply jA
  simp [y25.r5]
  refine AX.pcond rfl (fun he=>?_) (fun he=>AX.skip ?_)
  · simp at he
    apply jA
    simp [y25.r6]
    apply jD
    simp [hsp,he]
  simp at he
  simp
  apply jE
  simp [y25.r7,y4v hd (show R.length≤9223372036854775807 by omega)]
  exact ⟨R.length-(i+1),by omega,_,_,.refl _ _,i+1,by omega,rfl,by rw [hst,he],rfl,by simp [zi]⟩
def CmLInv (a b:List Str) (H:Hp) (m:Nat) (F:Fr) (X:Hp):Prop:=
  ∃i,i≤a.length∧i≤b.length∧m=a.length-i∧cmpL a b=cmpL (a.drop i) (b.drop i)∧X=H∧F=[(0,ss a),(1,ss b),(9,ss a),(10,.i .i64 a.length),(11,.i .i64 i)]
theorem ylq (a b:List Str) (ha:a.length≤9223372036854775807) (hb:b.length≤9223372036854775807) (H:Hp):AC Tryz.prog y5c [ss a,ss b] H (fun v H'=>v=.i .i64 (cmpL a b)∧H'=H):=by
  refine AC.code y7.at y7.ok ?_
  simp only [y7]
  apply jA
  simp [y7.r0]
  apply jB
  simp [y7.r1,ss]
  refine AX.pblock (AX.loop (CmLInv a b H) a.length ⟨_,_,.refl _ _,0,by omega,by omega,by omega,rfl,rfl,by simp [ss]⟩ ?_)
  rintro m F X ⟨i,hia,hib,rfl,hc,rfl,rfl⟩
  simp only [y7.l0]
  apply jA
  simp [y7.r2]
  refine AX.seq (AX.pcond rfl (fun hd=>AX.skip ?_) (fun hd=>AX.exit ?_))
  case refine_2=>
    simp at hd
    rw [List.drop_eq_nil_of_le hd] at hc
    have e:cmpL a b=if a.length<b.length then -1 else 0:=by
      rw [hc]
      simp only [cmpL,cmpN,List.length_drop]
      by_cases h:a.length<b.length
      · rw [if_pos (by omega),if_pos h]
      · rw [if_neg (by omega),if_neg h,if_pos (by omega)]
    simp
    apply jB
    simp [y7.r11,ss]
    refine AX.pcond rfl (fun he=>?_) (fun he=>AX.skip ?_)
    · simp at he
      apply jA
      simp [y7.r12]
      apply jD
      simp [e,he]
    simp at he
    simp
    apply jA
    simp [y7.r13]
    apply jD
    simp [e,show ¬a.length<b.length by omega]
  simp at hd
  simp
  rw [List.drop_eq_getElem_cons hd] at hc
  apply jC
  simp [y7.r3,ss,hd]
  apply jB
  simp [y7.r4]
  refine AX.pcond rfl (fun he=>?_) (fun he=>AX.skip ?_)
  · simp at he
    rw [List.drop_eq_nil_of_le he] at hc
    apply jA
    simp [y7.r5]
    apply jD
    simp [hc,cmpL]
  simp at he
  rw [List.drop_eq_getElem_cons he] at hc
  simp only [cmpL] at hc
  simp
  apply jA
  simp [y7.r6,he]
  apply jA
  simp [y7.r7]
  refine AC.fix (y95 _ _ _) ?_
  simp
  apply jA
  simp [y7.r8]
  refine AX.pcond rfl (fun hf=>?_) (fun hf=>AX.skip ?_)
  · simp at hf
    apply jA
    simp [y7.r9]
    apply jD
    simp [hc,hf]
  simp at hf
  simp
  apply jE
  simp [y7.r10,y4v hd ha]
  exact ⟨a.length-(i+1),by omega,_,_,.refl _ _,i+1,by omega,by omega,rfl,by rw [hc];simp [hf],rfl,by simp [ss]⟩
theorem yll (a b:Cn) (ha:a.args.length≤9223372036854775807) (hb:b.args.length≤9223372036854775807) (H:Hp):AC Tryz.prog y74 [.agg (y85 a),.agg (y85 b)] H (fun v H'=>v=.i .i64 (ynk a b)∧H'=H):=by
  refine AC.code y3z.at y3z.ok ?_
  simp only [y3z]
  apply jA
  simp [y3z.r0,y85]
  refine AX.seq (AX.drw ?_)
  simp [y3z.r1]
  refine y5q _ (fun H2=>ygj a.op b.op H2) ?_
  simp
  refine y5q _ (fun H2=>y95 a.a b.a H2) ?_
  simp
  refine y5q _ (fun H2=>y95 a.b b.b H2) ?_
  simp
  refine y5q _ (fun H2=>ygj a.k b.k H2) ?_
  simp
  refine y5q _ (fun H2=>y95 a.tag b.tag H2) ?_
  simp
  refine y5q _ (fun H2=>ylq a.args b.args ha hb H2) ?_
  simp [show yco 6 [V.i .i64 0]=[.i .i64 0,.i .i64 0,.i .i64 0,.i .i64 0,.i .i64 0,.i .i64 0] from rfl]
  refine y5q _ (fun H2=>Or_ok [cmpI a.op b.op,yg9 a.a b.a,yg9 a.b b.b,cmpI a.k b.k,yg9 a.tag b.tag,cmpL a.args b.args] (by simp) H2) ?_
  simp
  apply jD
  simp [ynk]
def yku:List Mk→Mk→Int
  | [],_=>-1
  | y::r,x=>if y=x then 0 else if yku r x<0 then -1 else yku r x+1
theorem ymd {l:List Mk} {x:Mk}:yku l x<0↔x∉l:=by
  induction l with
  | nil=>simp [yku]
  | cons y r ih=>
    simp only [yku]
    by_cases h:y=x
    · simp [h]
    · rw [if_neg h]
      by_cases h2:yku r x<0
      · rw [if_pos h2];simp [ih.1 h2,Ne.symm h]
      · rw [if_neg h2]
        have:x∈r:=Classical.byContradiction fun hc=>h2 (ih.2 hc)
        simp [this];omega
theorem numM_at {l:List Mk} {x:Mk} {i:Nat} (h:l[i]?=some x) (hn:x∉l.take i):yku l x=i:=by
  induction l generalizing i with
  | nil=>simp at h
  | cons y r ih=>
    cases i with
    | zero=>simp at h;simp [yku,h]
    | succ i=>
      simp at h hn
      have:=ih h hn.2
      simp only [yku]
      rw [if_neg (Ne.symm hn.1),this,if_neg (by omega)];omega
theorem numM_ge (l:List Mk) (x:Mk):-1≤yku l x∧yku l x<l.length:=by
  induction l with
  | nil=>simp [yku]
  | cons y r ih=>
    simp only [yku,List.length_cons]
    split
    · omega
    · split <;> omega
def IxInv (l:List Mk) (x:Mk) (H:Hp) (m:Nat) (F:Fr) (X:Hp):Prop:=
  ∃i,i≤l.length∧m=l.length-i∧x∉l.take i∧X=H∧F=[(0,.fs (l.map ya4)),(3,.fp (ya4 x) 0),(7,.i .i64 l.length),(8,.i .i64 i)]
theorem yrt (l:List Mk) (x:Mk) (hl:l.length≤9223372036854775807) (H:Hp):AC Tryz.prog y4y [.fs (l.map ya4),.agg (ya4 x)] H (fun v H'=>v=.i .i64 (yku l x)∧H'=H):=by
  refine AC.code yg.at yg.ok ?_
  simp only [yg]
  apply jA
  simp [yg.r0,ya4]
  apply jB
  simp [yg.r1]
  refine AX.pblock (AX.loop (IxInv l x H) l.length ⟨_,_,.refl _ _,0,by omega,by omega,by simp,rfl,by simp [ya4]⟩ ?_)
  rintro m F X ⟨i,hi,rfl,hn,rfl,rfl⟩
  simp only [yg.l0]
  apply jA
  simp [yg.r2]
  refine AX.seq (AX.pcond rfl (fun hd=>AX.skip ?_) (fun hd=>AX.exit ?_))
  case refine_2=>
    simp at hd
    rw [List.take_of_length_le hd] at hn
    simp
    apply jA
    simp [yg.r7]
    apply jD
    have h1:=ymd.2 hn
    have h2:=numM_ge l x
    simp;omega
  simp at hd
  have hg:l[i]?=some l[i]:=List.getElem?_eq_getElem hd
  have htk:l.take (i+1)=l.take i++[l[i]]:=by rw [List.take_add_one,hg];rfl
  have hmem:=List.getElem_mem hd
  generalize l[i]=q at *
  simp
  apply jC
  simp [yg.r3]
  refine AX.testD (decide (x=q)) [(0,.fs (l.map ya4)),(3,.fp (ya4 x) 0),(5,.i .i64 i),(7,.i .i64 l.length),(8,.i .i64 i),(16,.b (decide (x=q)))] ?_ rfl (fun hb2=>?_) (fun hb2=>AX.skip ?_)
  · simp [yg.r4,hg,ya4]
    rw [mk_eq]
    simp [ya4]
  · simp at hb2
    apply jA
    simp [yg.r5]
    apply jD
    simp
    exact (numM_at (by rw [hg,hb2]) hn).symm
  simp at hb2
  simp
  apply jE
  simp [yg.r6,y4v hd hl]
  refine ⟨l.length-(i+1),by omega,_,_,.refl _ _,i+1,by omega,rfl,?_,rfl,by simp [ya4]⟩
  rw [htk]
  simp [hn,hb2]
theorem yk7 (l:List Mk) (x:Mk) (hl:l.length≤9223372036854775807) (H:Hp):AC Tryz.prog y46 [.fs (l.map ya4),.agg (ya4 x)] H (fun v H'=>v=.b (decide (x∈l))∧H'=H):=by
  refine AC.code y1t.at y1t.ok ?_
  simp only [y1t]
  apply jA
  simp [y1t.r0,ya4]
  apply jA
  simp [y1t.r1]
  refine AC.fix (yrt l x hl _) ?_
  simp
  apply jD
  have h:=@ymd l x
  by_cases hm:x∈l
  · have:¬yku l x<0:=fun e=>(h.1 e) hm
    simp [hm];omega
  · have:=h.2 hm
    simp [hm];omega
end Go.Proofs.YthmkcebbeehbeaaGreatDoor
