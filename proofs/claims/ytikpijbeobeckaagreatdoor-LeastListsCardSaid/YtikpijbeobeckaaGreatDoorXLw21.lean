/- Part 21 of the proof of the laws of the queries: Q17, QBld, QDig, QDig2. -/
import Derived.Shelf.Strings.Builder1
import Derived.WalkKit
import Derived.BigCall
import Derived.Test.YtikpijbeobeckaaGreatDoorXLw20
set_option linter.unusedSimpArgs false
set_option linter.unusedVariables false
namespace Go.Proofs.YtikpijbeobeckaaGreatDoor
open Am C
abbrev y58:=Str × List Str
def fcs (f:y58):List V:=[.s f.1,ss f.2]
def fsV (l:List y58):V:=.fs (l.map fcs)
def ofS (l:List y58) (node:Str):List Str:=((l.find? fun f=>decide (f.1=node)).map (·.2)).getD []
def IdxInv (l:List Str) (x:Str) (H:Hp) (m:Nat) (F:Fr) (H':Hp):Prop:=
  ∃i,i≤l.length∧m=l.length-i∧x∉l.take i∧H'=H∧F=[(0,ss l),(1,.s x),(7,.i .i64 l.length),(8,.i .i64 i)]
theorem Index_ok (l:List Str) (x:Str) (hl:l.length≤9223372036854775807) (H:Hp):AC Tryz.prog y49 [ss l,.s x] H (fun v H'=>v=.i .i64 (ydw l x)∧H'=H):=by
  refine AC.code yn.at yn.ok ?_
  simp only [yn]
  apply jA
  simp [yn.r0]
  apply jB
  simp [yn.r1,ss]
  refine AX.pblock (AX.loop (IdxInv l x H) l.length ⟨_,_,.refl _ _,0,by omega,by omega,by simp,rfl,rfl⟩ ?_)
  rintro m F H' ⟨i,hi,rfl,hx,rfl,rfl⟩
  simp only [yn.l0]
  apply jA
  simp [yn.r2]
  refine AX.seq (AX.pcond rfl (fun hc=>AX.skip ?_) (fun hc=>AX.exit ?_))
  · simp at hc
    simp
    apply jC
    simp [yn.r3]
    apply jA
    simp [yn.r4,ss,hc]
    refine AX.pcond rfl (fun hd=>?_) (fun hd=>AX.skip ?_)
    · simp at hd
      apply jA
      simp [yn.r5]
      apply jD
      simp
      exact (ylr (by rw [List.getElem?_eq_getElem hc,hd]) hx).symm
    simp at hd
    simp
    apply jE
    simp [yn.r6,y28 hc hl]
    refine ⟨l.length-(i+1),by omega,_,_,.refl _ _,i+1,by omega,rfl,?_,rfl,by simp [ss]⟩
    rw [List.take_add_one,List.getElem?_eq_getElem hc]
    intro hm
    rcases List.mem_append.1 hm with hm | hm
    · exact hx hm
    · simp at hm;exact hd hm
  simp at hc
  rw [List.take_of_length_le hc] at hx
  have h1:=y9r.2 hx
  have h2:=yh1 l x
  simp
  apply jA
  simp [yn.r7]
  apply jD
  simp;omega
theorem numV_in (l:List Str) (x:Str):(0≤ydw l x)=(x∈l):=by
  have h2:=yh1 l x
  refine propext ⟨fun h=>Classical.byContradiction fun hc=>by have:=y9r.2 hc;omega,fun h=>?_⟩
  rcases Int.lt_or_le (ydw l x) 0 with h3 | h3
  · exact absurd h (y9r.1 h3)
  · exact h3
theorem ydb (l:List Str) (x:Str) (hl:l.length≤9223372036854775807) (H:Hp):AC Tryz.prog y3i [ss l,.s x] H (fun v H'=>v=.b (decide (x∈l))∧H'=H):=by
  refine AC.code y1r.at y1r.ok ?_
  simp only [y1r]
  apply jA
  simp [y1r.r0]
  apply jA
  simp [y1r.r1]
  refine AC.fix (Index_ok l x hl _) ?_
  simp [numV_in]
  apply jD
  simp
@[simp] theorem fcs_len (f:y58):(fcs f).length=2:=rfl
@[simp] theorem fcs_take (f:y58):(fcs f).take 2=fcs f:=rfl
def ymb {α:Type} (p:α→Bool):List α→Int
  | []=>-1
  | y::r=>if p y then 0 else if ymb p r<0 then -1 else ymb p r+1
theorem yfz {α:Type} {p:α→Bool} {l:List α} (h:l.find? p=none):ymb p l=-1:=by
  induction l with
  | nil=>rfl
  | cons y r ih=>
    simp only [List.find?_cons] at h
    cases hp:p y with
    | true=>rw [hp] at h;cases h
    | false=>rw [hp] at h;simp [ymb,hp,ih h]
theorem idxP_at {α:Type} {p:α→Bool} {l:List α} {i:Nat} {x:α} (h:l[i]?=some x) (hp:p x=true) (hn:(l.take i).find? p=none):ymb p l=i:=by
  induction l generalizing i with
  | nil=>simp at h
  | cons y r ih=>
    cases i with
    | zero=>simp at h;subst h;simp [ymb,hp]
    | succ i=>
      simp only [List.getElem?_cons_succ] at h
      simp only [List.take_succ_cons,List.find?_cons] at hn
      cases hy:p y with
      | true=>rw [hy] at hn;cases hn
      | false=>
        rw [hy] at hn
        have:=ih h hn
        simp only [ymb,hy,this]
        simp
theorem find_at {α:Type} {p:α→Bool} {l:List α} {x:α} (h:l.find? p=some x):∃i:Nat,i<l.length∧l[i]?=some x∧ymb p l=i:=by
  induction l with
  | nil=>cases h
  | cons y r ih=>
    simp only [List.find?_cons] at h
    cases hp:p y with
    | true=>rw [hp] at h;injection h with h;subst h;exact ⟨0,by simp,rfl,by simp [ymb,hp]⟩
    | false=>
      rw [hp] at h
      obtain ⟨i,h1,h2,h3⟩:=ih h
      exact ⟨i+1,by simp;omega,by simpa using h2,by simp only [ymb,hp,h3];simp⟩
theorem find1_ok (f:y58) (id:Nat) (node:Str) (H:Hp) (hb:H.get id=some (.cells [.s node] 1)):AC Tryz.prog y8b [.agg (fcs f),.p (some (id,0,1))] H (fun v H'=>v=.b (decide (f.1=node))∧H'=H):=by
  refine AC.code y3b.at y3b.ok ?_
  simp only [y3b]
  apply jA
  simp [y3b.r0,fcs]
  apply jA
  simp [y3b.r1,hb]
  apply jD
  by_cases h:f.1=node
  · simp [h]
  · simp [h]
def IdxFInv (l:List y58) (g:V) (p:y58→Bool) (H:Hp) (m:Nat) (F:Fr) (H':Hp):Prop:=
  ∃i,i≤l.length∧m=l.length-i∧(l.take i).find? p=none∧H'=H∧F=[(0,fsV l),(1,g),(7,.i .i64 l.length),(8,.i .i64 i)]
theorem ygi (l:List y58) (f:Go.FuncId) (caps:List V) (p:y58→Bool) (hl:l.length≤9223372036854775807) (H:Hp) (hf:∀x∈l,AC Tryz.prog f (.agg (fcs x)::caps) H (fun v H'=>v=.b (p x)∧H'=H)):
    AC Tryz.prog y3l [fsV l,.fn f caps] H (fun v H'=>v=.i .i64 (ymb p l)∧H'=H):=by
  refine AC.code yg.at yg.ok ?_
  simp only [yg]
  apply jA
  simp [yg.r0]
  apply jB
  simp [yg.r1,fsV]
  refine AX.pblock (AX.loop (IdxFInv l (.fn f caps) p H) l.length ⟨_,_,.refl _ _,0,by omega,by omega,by simp,rfl,rfl⟩ ?_)
  rintro m F H' ⟨i,hi,rfl,hx,rfl,rfl⟩
  simp only [yg.l0]
  apply jA
  simp [yg.r2]
  refine AX.seq (AX.pcond rfl (fun hc=>AX.skip ?_) (fun hc=>AX.exit ?_))
  · simp at hc
    simp
    apply jC
    simp [yg.r3]
    apply jA
    simp [yg.r4,fsV,hc]
    refine AC.fix (hf _ (List.getElem_mem hc)) ?_
    simp
    refine AX.pcond rfl (fun hd=>?_) (fun hd=>AX.skip ?_)
    · apply jA
      simp [yg.r5]
      apply jD
      simp
      exact (idxP_at (List.getElem?_eq_getElem hc) hd hx).symm
    simp
    apply jE
    simp [yg.r6,y28 hc hl]
    refine ⟨l.length-(i+1),by omega,_,_,.refl _ _,i+1,by omega,rfl,?_,rfl,by simp [fsV]⟩
    rw [List.take_add_one,List.getElem?_eq_getElem hc,List.find?_append,hx]
    simp [hd]
  simp at hc
  rw [List.take_of_length_le hc] at hx
  simp
  apply jA
  simp [yg.r7]
  apply jD
  simp [yfz hx]
theorem ymj (l:List y58) (node:Str) (hl:l.length≤9223372036854775807) (H:Hp):AC Tryz.prog y80 [fsV l,.s node] H (fun v H'=>v=ss (ofS l node)∧H'=H):=by
  refine AC.codeP y2g.at y2g.ok (ymg _) fun hlt=>?_
  simp only [y2g]
  apply jA
  simp [y2g.r0]
  apply jA
  simp [y2g.r1]
  refine AC.fix (ygi l _ _ (fun f=>decide (f.1=node)) hl _ fun x _=>find1_ok x _ node _ (by simp)) ?_
  simp
  apply jB
  simp [y2g.r2]
  cases hf:l.find? (fun f=>decide (f.1=node)) with
  | none=>
    have e:=yfz hf
    simp only [e]
    refine jG rfl (jA ?_)
    simp [y2g.r3]
    apply jD
    simp [ofS,hf]
    exact ⟨.add hlt _,.sl0 _⟩
  | some x=>
    obtain ⟨i,h1,h2,h3⟩:=find_at hf
    simp only [h3]
    refine jF (by simp) (AX.skip ?_)
    simp
    apply jA
    simp [y2g.r4,fsV,h2,fcs]
    apply jD
    simp [ofS,hf]
    exact ⟨.add hlt _,.refl _⟩
theorem LOf_ok (l:List y58) (node:Str) (hl:l.length≤9223372036854775807) (hm:∀f∈l,f.2.length≤1000000) (H:Hp):AC Tryz.prog y9s [fsV l,.s node] H (fun v H'=>v=ss (ofS l node)∧H'=H):=by
  refine AC.code y45.at y45.ok ?_
  simp only [y45]
  apply jA
  simp [y45.r0]
  apply jA
  simp [y45.r1]
  refine AC.fix (ymj l node hl _) ?_
  simp
  refine AC.fix (ygj _ ?_ _) ?_
  · unfold ofS
    cases hf:l.find? (fun f=>decide (f.1=node)) with
    | none=>simp
    | some x=>have:=hm x (List.mem_of_find?_eq_some hf);simp;omega
  simp
  apply jD
  simp
open Go Go.RowKit Go.Shelf
set_option maxHeartbeats 1000000 in
set_option maxRecDepth 100000 in
theorem yga (B b:Nat) (bs:List Value) (w:World) (h:Lib.IsBuilder 230 5 B b bs w):
    Calls Tryz.prog 242 #[.pointer (some ⟨b,0,none⟩)] w fun e w'=>e=.returned (.tuple #[])∧(Lib.BuilderAt 230 5 B b (.pointer (some ⟨b,0,none⟩)) bs w'∧RowKit.Below B w w'):=by
  obtain ⟨j,hj,hjs⟩:=Option.map_eq_some_iff.1 (show (Tryz.prog.info? 230).map (·.size)=some 2 by kernel_rfl)
  rcases h with h | h
  · have h0:=h.cell0
    have hsh:=h.shape
    have hfz:=h.frozen0
    have key:Calls Tryz.prog 242 #[.pointer (some ⟨b,0,none⟩)] w fun e w'=>e=.returned (.tuple #[])∧w'=w.setCell ⟨b,0,none⟩ (.pointer (some ⟨b,0,none⟩)):=by
      go_enter Tryz.func242,Tryz.ntmps242
      go_wp2
      rw [Lib.run_to_unsafe w ⟨b,0,none⟩ Tryz.underlying227 Tryz.underlying280 hj (by rw [hjs];decide) hsh (Nat.zero_lt_succ 1)]
      simp only [Result.andThen]
      rw [Oper.upon_value]
      go_wp2
      rw [run_callFunc_extern Tryz.func264 (by kernel_rfl) (by kernel_rfl) (by kernel_rfl) (e:=Extern.AbiNoEscape.same) (by kernel_rfl)]
      rw [Lib.run_noEscape]
      simp only [Result.andThen]
      rw [Oper.upon_value]
      go_wp2
      rw [Lib.run_from_unsafe w ⟨b,0,none⟩ Tryz.underlying280 Tryz.underlying227 hj hsh (by kernel_rfl)]
      simp only [Result.andThen]
      rw [Oper.upon_value]
      go_wp2
      go_end0
      exact ⟨rfl,rfl⟩
    refine key.mono ?_
    rintro e w' ⟨rfl,rfl⟩
    exact ⟨rfl,h.used _,(Below.refl B w).setCell (p:=⟨b,0,none⟩) h.1 _⟩
  · have h0:=h.cell0
    have key:Calls Tryz.prog 242 #[.pointer (some ⟨b,0,none⟩)] w fun e w'=>e=.returned (.tuple #[])∧w'=w:=by
      go_enter Tryz.func242,Tryz.ntmps242
      go_wp2
      rw [Lib.run_neq_ptr_same w _ Tryz.underlying227 hj]
      go_wp2
      go_end0
      exact ⟨rfl,rfl⟩
    refine key.mono ?_
    rintro e w' ⟨rfl,rfl⟩
    exact ⟨rfl,h,Below.refl B _⟩
set_option maxHeartbeats 2000000 in
set_option maxRecDepth 100000 in
theorem bld_byte (B b:Nat) (bs:List Value) (c:Int) (w:World) (h:Lib.IsBuilder 230 5 B b bs w) (hlen:bs.length+1≤140737488355328) (hBw:B≤w.heap.size):
    Calls Tryz.prog 206 #[.pointer (some ⟨b,0,none⟩),.int .u8 c] w fun e w'=>e=.returned .nilIface∧(Lib.BuilderAt 230 5 B b (.pointer (some ⟨b,0,none⟩)) (bs++[.int .u8 c]) w'∧RowKit.Below B w w'):=by
  obtain ⟨i0,hi,hz0,hz1,hz2⟩:=info_parts (show (Tryz.prog.info? 5).map (fun i=>(i.zero,i.size,i.bytes))=some (some (.int .u8 0),1,1) by kernel_rfl)
  have ecc:∀args w,(callFunc 242 args).run Tryz.prog w=.ok (.enter 242 args) w:=enters_of Tryz.func242 (by kernel_rfl) rfl
  go_enter Tryz.func206,Tryz.ntmps206
  go_wp2_with (go_at_fn 242;refine (yga B b bs _ h).mono ?_)
  rintro e w1 ⟨rfl,h1,hb1⟩
  obtain ⟨hB,v,hbk,hown,hne⟩:=h1
  have c0:w1.cell? ⟨b,0,none⟩=some (.pointer (some ⟨b,0,none⟩)):=by rw [Lib.cell_of_heap hbk];rfl
  have c1:w1.cell? ⟨b,1,none⟩=some v:=by rw [Lib.cell_of_heap hbk];rfl
  go_wp2_with (at_builtin;refine wpList_append_own _ rfl _ _ 228 rfl B 5 i0 (.int .u8 0) 1 1 Tryz.underlying228 hi hz0 hz1 hz2 rfl (by decide) _ _ _ rfl (hown.alloc _) ⟨w1.heap.size,0,none⟩ 1 1 [.int .u8 c] rfl rfl ?c1 ?c2 ?c3 ?c4 ?c5 ?_)
  case c1=>
    intro j u hj
    match j,hj with
    | 0,hj=>simp at hj;subst hj;simp [Addr.add]
  case c2=>intro u hu;simp at hu;subst hu;rfl
  case c3=>unfold maxLen;omega
  case c4=>omega
  case c5=>have:=hb1.size;simp;omega
  intro v' w2 hown' hgrow _
  have hlt:b<w1.heap.size:=by
    rcases Nat.lt_or_ge b w1.heap.size with h' | h'
    · exact h'
    · simp [Array.getElem?_eq_none h'] at hbk
  have hb2:w2.heap[b]?=some (.cells #[.pointer (some ⟨b,0,none⟩),v] 230 (0,0)):=by
    rw [hgrow.block b (by simp;omega) (fun e=>hne e.symm),Lib.alloc_old w1 _ b hlt]
    exact hbk
  have d0:w2.cell? ⟨b,0,none⟩=some (.pointer (some ⟨b,0,none⟩)):=by rw [Lib.cell_of_heap hb2];rfl
  have d1:w2.cell? ⟨b,1,none⟩=some v:=by rw [Lib.cell_of_heap hb2];rfl
  have f1:w2.frozen? ⟨b,1,none⟩=false:=Lib.frozen_of_heap hb2 1
  obtain ⟨g,cap,rfl⟩:∃g cap,v'=.slice (some ⟨g,0,none⟩) (bs.length+1) cap:=by
    rcases hown'.2 with ⟨_,h0⟩ | ⟨g,cap,cur,hv,_⟩
    · omega
    · exact ⟨g,cap,hv⟩
  go_wp2
  go_ret
  refine ⟨rfl,?_,?_⟩
  · exact Lib.BuilderAt.put (T:=230) (e:=5) hB hb2 (bs':=bs++[.int .u8 c]) (by simpa using hown') (by decide)
  · exact ((hb1.alloc (by have:=hb1.size;omega) _).grown hgrow (by have:=hb1.size;simp;omega) (fun k hk=>(hown.lt k hk).1)).setCell (p:=⟨b,1,none⟩) hB _
set_option maxHeartbeats 2000000 in
set_option maxRecDepth 100000 in
theorem bld_str (B b:Nat) (bs:List Value) (s:ByteArray) (w:World) (h:Lib.IsBuilder 230 5 B b bs w) (hlen:bs.length+s.size≤140737488355328) (hBw:B≤w.heap.size):
    Calls Tryz.prog 204 #[.pointer (some ⟨b,0,none⟩),.string s] w fun e w'=>e=.returned (.tuple #[.int .i64 s.size,.nilIface])∧(Lib.BuilderAt 230 5 B b (.pointer (some ⟨b,0,none⟩)) (bs++Lib.strCells s) w'∧RowKit.Below B w w'):=by
  obtain ⟨i0,hi,hz0,hz1,hz2⟩:=info_parts (show (Tryz.prog.info? 5).map (fun i=>(i.zero,i.size,i.bytes))=some (some (.int .u8 0),1,1) by kernel_rfl)
  have ecc:∀args w,(callFunc 242 args).run Tryz.prog w=.ok (.enter 242 args) w:=enters_of Tryz.func242 (by kernel_rfl) rfl
  go_enter Tryz.func204,Tryz.ntmps204
  go_wp2_with (go_at_fn 242;refine (yga B b bs _ h).mono ?_)
  rintro e w1 ⟨rfl,h1,hb1⟩
  obtain ⟨hB,v,hbk,hown,hne⟩:=h1
  have c0:w1.cell? ⟨b,0,none⟩=some (.pointer (some ⟨b,0,none⟩)):=by rw [Lib.cell_of_heap hbk];rfl
  have c1:w1.cell? ⟨b,1,none⟩=some v:=by rw [Lib.cell_of_heap hbk];rfl
  go_wp2_with (at_builtin;refine Lib.wpList_append_own_string _ rfl _ _ 228 9 rfl B 5 i0 Tryz.underlying228 Tryz.underlying9 hi hz0 hz1 hz2 _ _ _ rfl hown s rfl ?c3 ?c4 ?c5 ?_)
  case c3=>unfold maxLen;omega
  case c4=>omega
  case c5=>have:=hb1.size;omega
  intro v' w2 hown' hgrow _
  have hlt:b<w1.heap.size:=by
    rcases Nat.lt_or_ge b w1.heap.size with h' | h'
    · exact h'
    · simp [Array.getElem?_eq_none h'] at hbk
  have hb2:w2.heap[b]?=some (.cells #[.pointer (some ⟨b,0,none⟩),v] 230 (0,0)):=by
    rw [hgrow.block b hlt (fun e=>hne e.symm)]
    exact hbk
  have d0:w2.cell? ⟨b,0,none⟩=some (.pointer (some ⟨b,0,none⟩)):=by rw [Lib.cell_of_heap hb2];rfl
  have d1:w2.cell? ⟨b,1,none⟩=some v:=by rw [Lib.cell_of_heap hb2];rfl
  have f1:w2.frozen? ⟨b,1,none⟩=false:=Lib.frozen_of_heap hb2 1
  obtain ⟨ao,n',cap,rfl⟩:∃ao n' cap,v'=.slice ao n' cap:=by
    rcases hown'.2 with ⟨hv,_⟩ | ⟨g,cap,cur,hv,_⟩
    · exact ⟨_,_,_,hv⟩
    · exact ⟨_,_,_,hv⟩
  go_wp2
  go_ret2
  refine ⟨rfl,?_,?_⟩
  · exact Lib.BuilderAt.put (T:=230) (e:=5) hB hb2 (bs':=bs++Lib.strCells s) (by simpa [Lib.strCells_length] using hown') (by decide)
  · exact (hb1.grown hgrow (by have:=hb1.size;omega) (fun k hk=>(hown.lt k hk).1)).setCell (p:=⟨b,1,none⟩) hB _
def clsN (c:UInt8):Int:=if ybz c then 1 else if yf7 c then 2 else 0
theorem yce (c:UInt8) (H:Hp):AC Tryz.prog y5d [.i .u8 c.toNat] H (fun v H'=>v=.i .i64 (clsN c)∧H'=H):=by
  refine AC.code y1j.at y1j.ok ?_
  simp only [y1j]
  apply jA
  simp [y1j.r0]
  apply jA
  simp [y1j.r1]
  refine AX.seq (AX.pblock (AX.seq (AX.pblock (AX.seq (AX.pblock (AX.seq (AX.seq (AX.test (ybz c) [(0,.i .u8 c.toNat),(3,.i .i64 2),(4,.b (ybz c))] ?_ rfl (fun hd=>AX.exit ?_) (fun hd=>AX.skip ?_)))))))))
  · by_cases h:(48:Int)≤c.toNat <;> simp [y1j.r2,h,ybz]
    all_goals omega
  · simp
    apply jE
    simp [y1j.r6]
    apply jB
    simp [y1j.r7]
    apply jD
    simp [clsN,hd]
  simp
  refine AX.seq (AX.join (F1:=[(3,.i .i64 2),(11,.b (yf7 c))]) (H1:=H) ?_ ?_)
  · refine AX.test (decide (65≤c.toNat∧c.toNat≤90)) [(0,.i .u8 c.toNat),(3,.i .i64 2),(11,.b (decide (65≤c.toNat∧c.toNat≤90)))] ?_ rfl (fun h1=>AX.skip ?_) (fun h1=>?_)
    · by_cases h:(65:Int)≤c.toNat <;> simp [y1j.r3,h]
      all_goals omega
    · simp at h1 ⊢;simp [yf7,h1]
    refine AX.test (decide (97≤c.toNat∧c.toNat≤122)) [(0,.i .u8 c.toNat),(3,.i .i64 2),(11,.b (decide (97≤c.toNat∧c.toNat≤122)))] ?_ rfl (fun h2=>AX.skip ?_) (fun h2=>AX.reg ?_)
    · by_cases h:(97:Int)≤c.toNat <;> simp [y1j.r4,h]
      all_goals omega
    · simp at h2 ⊢;simp [yf7,h2]
    · simp only [decide_eq_false_iff_not] at h1 h2
      simp [y1j.r5,yf7,h1,h2]
  refine AX.pcond rfl (fun hb=>AX.exit ?_) (fun hb=>AX.skip ?_)
  · simp
    apply jB
    simp [y1j.r7]
    apply jD
    simp [clsN,hd,hb]
  · simp
    refine AX.exit ?_
    simp
    apply jA
    simp [y1j.r8]
    apply jD
    simp [clsN,hd,hb]
theorem cls1 (c:UInt8):(clsN c=1)=(ybz c=true):=by
  unfold clsN;by_cases h:ybz c=true
  · simp [h]
  · by_cases h2:yf7 c=true <;> simp [h,h2]
theorem yn5 (c:UInt8) (h:yf7 c=true):ybz c=false:=by
  simp [yf7,ybz] at *;omega
theorem cls2 (c:UInt8):(clsN c=2)=(yf7 c=true):=by
  unfold clsN;by_cases h:ybz c=true
  · have:¬yf7 c=true:=fun h2=>by rw [yn5 c h2] at h;cases h
    simp [h,this]
  · by_cases h2:yf7 c=true <;> simp [h,h2]
theorem cls0 (c:UInt8):(clsN c<1)=(inB true c=false):=by
  unfold clsN inB;by_cases h:ybz c=true
  · simp [h]
  · by_cases h2:yf7 c=true <;> simp [h,h2]
theorem yg7 (s:Str) (h:s.all ybz=true) (acc:Nat):Go.Lib.decFrom acc s=some (s.foldl (fun n c=>10*n+(c.toNat-48)) acc):=by
  induction s generalizing acc with
  | nil=>rfl
  | cons c s ih=>
    simp only [List.all_cons,Bool.and_eq_true] at h
    have hd:=of_decide_eq_true h.1
    simp only [Go.Lib.decFrom,Go.Lib.digitVal,if_pos hd,List.foldl_cons]
    rw [ih h.2,Nat.mul_comm]
theorem ynq (s:Str) (h:s.all ybz=true) (hne:s≠[]):Go.Lib.atoi s=some (yl0 s:Int):=by
  cases s with
  | nil=>exact absurd rfl hne
  | cons c s=>
    have hd:=h
    simp only [List.all_cons,Bool.and_eq_true] at hd
    have hd:=of_decide_eq_true hd.1
    have e1:(c == 45)=false:=by
      cases hh:c == 45 with
      | false=>rfl
      | true=>have:=eq_of_beq hh;subst this;simp at hd
    have e2:(c == 43)=false:=by
      cases hh:c == 43 with
      | false=>rfl
      | true=>have:=eq_of_beq hh;subst this;simp at hd
    simp only [Go.Lib.atoi,e1,e2,Go.Lib.decNat]
    rw [show (c::s).isEmpty=false from rfl,yg7 _ h]
    rfl
theorem valD_big (s:Str) (h:s.all ybz=true):∀n k,10 ^ k≤n→10 ^ (k+s.length)≤s.foldl (fun n c=>10*n+(c.toNat-48)) n:=by
  induction s with
  | nil=>intro n k h;simpa using h
  | cons c s ih=>
    intro n k hk
    simp only [List.all_cons,Bool.and_eq_true] at h
    simp only [List.foldl_cons,List.length_cons]
    have:=ih h.2 (10*n+(c.toNat-48)) (k+1) (by rw [Nat.pow_succ];omega)
    rwa [show k+(s.length+1)=k+1+s.length by omega]
theorem ykz (s:Str) (h:s.all ybz=true) (h0:s[0]?≠some 48) (hl:9<s.length):268435456<yl0 s:=by
  cases s with
  | nil=>simp at hl
  | cons c s=>
    simp at h0 hl
    have hc:=h
    simp only [List.all_cons,Bool.and_eq_true] at hc
    have hd:=of_decide_eq_true hc.1
    have hne:c.toNat≠48:=fun hh=>h0 (UInt8.toNat_inj.1 (by rw [hh];rfl))
    have h1:=valD_big s hc.2 (10*0+(c.toNat-48)) 0 (by simp;omega)
    have h2:10 ^ 9≤10 ^ (0+s.length):=Nat.pow_le_pow_right (by omega) (by omega)
    unfold yl0;simp only [List.foldl_cons];omega
def DReadInv (s:Str) (H:Hp) (m:Nat) (F:Fr) (H':Hp):Prop:=
  ∃i,i≤s.length∧m=s.length-i∧(s.take i).all ybz=true∧H'=H∧F=[(0,.s s),(10,.i .i64 s.length),(11,.i .i64 i)]
theorem DRead_ok (s:Str) (hs:s.length≤9223372036854775807) (H:Hp):AC Tryz.prog y8v [.s s] H (fun v H'=>v=.tup [.i .i64 (y6b s).1,.i .i64 (y6b s).2]∧H'=H):=by
  refine AC.code y13.at y13.ok ?_
  simp only [y13]
  apply jA
  simp [y13.r0]
  apply jB
  simp [y13.r1]
  refine AX.pcond rfl (fun hb=>?_) (fun hb=>AX.skip ?_)
  · simp at hb
    apply jA
    simp [y13.r2]
    apply jD
    simp [y6b,hb]
  simp at hb
  simp
  apply jB
  simp [y13.r3]
  refine AX.pblock (AX.loop (DReadInv s H) s.length ⟨_,_,.refl _ _,0,by omega,by omega,by simp,rfl,rfl⟩ ?_)
  rintro m F H' ⟨i,hi,rfl,hx,rfl,rfl⟩
  simp only [y13.l0]
  apply jA
  simp [y13.r4]
  refine AX.seq (AX.pcond rfl (fun hc=>AX.skip ?_) (fun hc=>AX.exit ?_))
  · simp at hc
    simp
    apply jC
    simp [y13.r5]
    apply jA
    simp [y13.r6,hc]
    refine AC.fix (yce _ _) ?_
    simp [cls1]
    refine AX.pcond rfl (fun hd=>?_) (fun hd=>AX.skip ?_)
    · simp at hd
      apply jA
      simp [y13.r7]
      apply jD
      have:s.all ybz=false:=by
        rw [List.all_eq_false];exact ⟨_,List.getElem_mem hc,by simp [hd]⟩
      simp [y6b,hb,this]
    simp at hd
    simp
    apply jE
    simp [y13.r8,y28 hc hs]
    refine ⟨s.length-(i+1),by omega,_,_,.refl _ _,i+1,by omega,rfl,?_,rfl,by simp⟩
    rw [List.take_add_one,List.getElem?_eq_getElem hc,List.all_append,hx]
    simp [hd]
  simp at hc
  have hall:s.all ybz=true:=by rwa [List.take_of_length_le (by omega)] at hx
  have hp:0<s.length:=List.length_pos_iff.2 hb
  simp
  refine AX.seq (AX.pblock (AX.test (decide (s[0]?=some 48∧1<s.length)) [(0,.s s),(20,.b (decide (s[0]?=some 48∧1<s.length)))] ?_ rfl (fun hz=>jA ?_) (fun hz=>?_)))
  · have e:((s[0].toNat:Int)=48)=(s[0]=48):=by
      refine propext ⟨fun h=>UInt8.toNat_inj.1 (by
                                                     have:s[0].toNat=48:=by omega
                                                     rw [this];rfl),fun h=>by rw [h];rfl⟩
    by_cases h:s[0]=48 <;> simp [y13.r9,hp,e,h]
  · simp [y13.r10]
    apply jD
    simp only [decide_eq_true_eq] at hz
    have:y6b s=(0,3):=by unfold y6b;rw [if_neg hb,if_neg (by simp [hall]),if_pos hz]
    simp [this]
  simp only [decide_eq_false_iff_not] at hz
  have hr:y6b s=if 268435456<yl0 s then (0,2) else (yl0 s,0):=by unfold y6b;rw [if_neg hb,if_neg (by simp [hall]),if_neg hz]
  simp
  apply jA
  simp [y13.r11]
  refine AX.pcond rfl (fun hl=>?_) (fun hl=>AX.skip ?_)
  · simp at hl
    apply jA
    simp [y13.r12]
    apply jD
    rw [hr,if_pos (ykz s hall (fun h=>hz ⟨h,by omega⟩) (by omega))];simp
  simp at hl
  simp
  apply jA
  simp [y13.r13]
  refine AC.fix (Atoi_ok s _ (by omega) (ynq s hall hb) _) ?_
  simp
  apply jB
  simp [y13.r14]
  refine AX.pcond rfl (fun hv=>?_) (fun hv=>AX.skip ?_)
  · simp at hv
    apply jA
    simp [y13.r15]
    apply jD
    rw [hr,if_pos (by omega)];simp
  simp at hv
  simp
  apply jA
  simp [y13.r16]
  apply jD
  rw [hr,if_neg (by omega)];simp
theorem ycx (s:Str) (hs:s.length≤9223372036854775807) (H:Hp):AC Tryz.prog y63 [.s s] H (fun v H'=>v=.tup [.i .i64 (y6b s).1,.b (decide ((y6b s).2=0))]∧H'=H):=by
  refine AC.code y2u.at y2u.ok ?_
  simp only [y2u]
  apply jA
  simp [y2u.r0]
  apply jA
  simp [y2u.r1]
  refine AC.fix (DRead_ok s hs _) ?_
  simp
  apply jA
  simp [y2u.r2]
  apply jD
  simp
def yoc (s:Str) (H:Hp) (m:Nat) (F:Fr) (H':Hp):Prop:=
  ∃i,i≤s.length∧m=s.length-i∧(s.take i).all (inB true)=true∧H'=H∧F=[(0,.s s),(4,.i .i64 1),(24,.i .i64 s.length),(25,.i .i64 i)]
theorem dig10 (c:UInt8):List.contains [48,49,50,51,52,53,54,55,56,57] c=ybz c:=by
  rw [Bool.eq_iff_iff]
  constructor
  · intro h
    have:=List.mem_of_elem_eq_true h
    simp at this
    rcases this with h | h | h | h | h | h | h | h | h | h <;> (subst h;rfl)
  · intro h
    have:=of_decide_eq_true h
    obtain ⟨k,hk,rfl⟩:∃k:Nat,k<10∧c=UInt8.ofNat (48+k):=⟨c.toNat-48,by omega,UInt8.toNat_inj.1 (by rw [UInt8.toNat_ofNat'];omega)⟩
    rcases (by omega:k=0∨k=1∨k=2∨k=3∨k=4∨k=5∨k=6∨k=7∨k=8∨k=9) with h | h | h | h | h | h | h | h | h | h <;> (subst h;rfl)
theorem y7o {α:Type} {p:α→Bool} {l:List α}:l.dropWhile p=[]↔l.all p=true:=by
  induction l with
  | nil=>simp
  | cons a l ih=>
    by_cases h:p a=true
    · simp only [List.dropWhile_cons,h,if_true,List.all_cons,Bool.true_and];exact ih
    · simp [h]
theorem yda (s:Str) (hs:s.length≤9223372036854775807) (H:Hp):AC Tryz.prog y64 [.s s] H (fun v H'=>v=.tup [.s (y3p s).1,.s (y3p s).2]∧H'=H):=by
  refine AC.code y16.at y16.ok ?_
  simp only [y16]
  apply jA
  simp [y16.r0]
  apply jB
  simp [y16.r1]
  refine AX.pcond rfl (fun hb=>?_) (fun hb=>AX.skip ?_)
  · simp at hb;subst hb
    apply jA
    simp [y16.r2]
    apply jD
    simp [y3p]
  simp at hb
  have hp:0<s.length:=List.length_pos_iff.2 hb
  have hw:y96 s=yf7 s[0]:=by simp [y96,hp]
  simp
  apply jA
  simp [y16.r3]
  apply jB
  simp [y16.r4,hp]
  refine AC.fix (yce _ _) ?_
  simp [cls2]
  refine AX.pcond rfl (fun hd=>?_) (fun hd=>AX.skip ?_)
  · simp at hd
    have e:inB (y96 s)=fun c=>List.contains [48,49,50,51,52,53,54,55,56,57] c:=by
      funext c;rw [dig10,hw,hd];simp [inB]
    apply jA
    simp [y16.r5]
    refine AC.fix (yhm s [48,49,50,51,52,53,54,55,56,57] (by decide) (by decide) _) ?_
    rw [←e]
    have hl:=congrArg List.length (y7k s)
    rw [List.length_append] at hl
    have hr:s.dropWhile (inB (y96 s))=(y3p s).2:=rfl
    rw [hr]
    have e1:Go.IntKind.i64.wrap ((s.length:Int)-((y3p s).2.length:Int))=((y3p s).1.length:Nat):=by rw [wrap_i64 (by omega) (by omega)];omega
    have e2:s.take (y3p s).1.length=(y3p s).1:=by
      conv=>lhs;arg 2;rw [←y7k s]
      simp
    simp
    apply jA
    simp [y16.r6,e1,e2,show (y3p s).1.length≤s.length by omega]
    apply jD
    simp
  simp at hd
  have hw':y96 s=true:=by rw [hw,hd]
  simp
  apply jB
  simp [y16.r7]
  refine AX.pblock (AX.loop (yoc s H) s.length ⟨_,_,.refl _ _,0,by omega,by omega,by simp,rfl,rfl⟩ ?_)
  rintro m F H' ⟨i,hi,rfl,hx,rfl,rfl⟩
  simp only [y16.l0]
  apply jA
  simp [y16.r8]
  refine AX.seq (AX.pcond rfl (fun hc=>AX.skip ?_) (fun hc=>AX.exit ?_))
  · simp at hc
    simp
    apply jC
    simp [y16.r9]
    apply jA
    simp [y16.r10,hc]
    refine AC.fix (yce _ _) ?_
    simp [cls0]
    refine AX.pcond rfl (fun hd=>?_) (fun hd=>AX.skip ?_)
    · simp at hd
      have:=y9a (p:=inB true) hx hi fun x hx=>by
        obtain ⟨h1,h2⟩:=List.getElem?_eq_some_iff.1 hx
        rw [←h2];exact hd
      refine AX.seq (AX.drw ?_)
      simp [y16.r11,hi]
      apply jD
      simp [y3p,hw',this]
    simp at hd
    simp
    apply jE
    simp [y16.r12,y28 hc hs]
    refine ⟨s.length-(i+1),by omega,_,_,.refl _ _,i+1,by omega,rfl,?_,rfl,by simp⟩
    rw [List.take_add_one,List.getElem?_eq_getElem hc,List.all_append,hx]
    simp [hd]
  simp at hc
  have:=y9a (p:=inB true) hx hi fun x hx=>by
    obtain ⟨h1,h2⟩:=List.getElem?_eq_some_iff.1 hx
    omega
  rw [List.take_of_length_le hc,List.drop_of_length_le hc] at this
  simp
  apply jA
  simp [y16.r13]
  apply jD
  simp [y3p,hw',this]
theorem ych (s:Str) (hs:s.length≤9223372036854775807) (H:Hp):AC Tryz.prog y6k [.s s] H (fun v H'=>v=.b (y6a s)∧H'=H):=by
  refine AC.code y2h.at y2h.ok ?_
  simp only [y2h]
  apply jA
  simp [y2h.r0]
  apply jA
  simp [y2h.r1]
  refine AC.fix (yda s hs _) ?_
  simp
  have h1:(y3p s).2=[]↔s.all (inB (y96 s))=true:=by
    exact y7o
  have h2:(y3p s).2=[]→(y3p s).1=s:=fun h=>by have:=y7k s;rwa [h,List.append_nil] at this
  generalize (y3p s).1=hd at h1 h2 ⊢
  generalize (y3p s).2=rs at h1 h2 ⊢
  refine AX.stp [(2,.b (y6a s))] ?_ ?_
  · by_cases a2:rs=[]
    · have a0:=h2 a2
      subst a0
      by_cases a1:hd=[]
      · subst a1;simp [y2h.r2,y6a,y96]
      have hp:0<hd.length:=List.length_pos_iff.2 a1
      have e:hd.isEmpty=false:=by simpa using a1
      by_cases a3:hd.length≤16
      · simp [y2h.r2,a1,a2,a3,e,hp]
        refine AC.fix (yce _ _) ?_
        have hw:y96 hd=yf7 hd[0]:=by simp [y96,hp]
        simp [cls2,y6a,a3,hw]
        intro hl
        rw [hw,hl] at h1
        simpa using (h1.1 a2)
      · simp [y2h.r2,a1,a2,a3,e,y6a]
    · have e:rs.isEmpty=false:=by simpa using a2
      have hn:y6a s=false:=by
        unfold y6a
        cases hw:y96 s with
        | false=>simp
        | true=>
          rw [hw] at h1
          have:s.all (inB true)=false:=by
            cases hh:s.all (inB true) with
            | false=>rfl
            | true=>exact absurd (h1.2 hh) a2
          simp [this]
      by_cases a1:hd=[]
      · subst a1;simp [y2h.r2,hn]
      · have e2:hd.isEmpty=false:=by simpa using a1
        simp [y2h.r2,a1,a2,e,e2,hn]
  apply jD
  simp
end Go.Proofs.YtikpijbeobeckaaGreatDoor
