/- Part 40. -/
import Derived.Test.YtikpijbeobeckaaGreatDoorXGw19
import Derived.Test.YtikpijbeobeckaaGreatDoorXGw26
import Derived.Test.YtikpijbeobeckaaGreatDoorXGw39
set_option linter.unusedSimpArgs false
set_option linter.unusedVariables false
namespace Go.Proofs.YtikpijbeobeckaaGreatDoor
open Am C
structure LsR (s:Sy) (N P:List Str):Prop where
 nm:SyN s
 cn:CnR s
 cl:Cl s (ydi N P)
 bd:Bnd N P
 so:s.objs.length≤1000000000
 sf:s.fns.length≤1000000000
theorem okF_arg {s:Sy} {N P:List Str} (hcl:Cl s (ydi N P)) {c:Cn} (hc:c∈s.cons) (h6:c.op=6) {q:Str} (hq:ydi N P c.b q) (hf:y82 s q c.tag=true) {x:Nat × Str} (hx:x∈numd c.args) {st:St} (h:OkF N P st.1):OkF N P (argP q st x).1:=by
 have hx:=yfq.1 hx
 unfold argP
 by_cases ha:x.2=[]
 ·rw [if_pos ha];exact h
 rw [if_neg ha]
 have hd:=fun p=>ycl hc h6 hx hcl hq hf ha p
 by_cases e:x.1=0
 ·rw [if_pos e];exact ydu h fun p hp=>((hd p).1 e (h.sub _ _ hp)).1
 ·rw [if_neg e];exact ydu h fun p hp=>((hd p).2 e (h.sub _ _ hp)).1
theorem okF_call {s:Sy} {N P:List Str} (hcl:Cl s (ydi N P)) {c:Cn} (hc:c∈s.cons) (h6:c.op=6) {q:Str} (hq:ydi N P c.b q) (hf:y82 s q c.tag=true) {st:St} (h:OkF N P st.1):OkF N P (ypc c st q).1:=by
 have h1:ydi N P c.a q:=hcl c hc _ _ (.inr (.inr (.inr (.inr (.inr ⟨h6,q,hq,hf,.inl ⟨rfl,rfl⟩⟩)))))
 unfold ypc
 exact y9l (C:=fun s:St=>OkF N P s.1) (h.add h1.1 h1.2) fun b x hx hb=>okF_arg hcl hc h6 hq hf hx hb
def yp9 (s:Sy) (c:Cn) (st:St) (q:Str):St:=if y82 s q c.tag then ypc c st q else st
theorem ynf {s:Sy} {N P:List Str} (hcl:Cl s (ydi N P)) {c:Cn} (hc:c∈s.cons) (h6:c.op=6) {q:Str} (hq:ydi N P c.b q) {st:St} (h:OkF N P st.1):OkF N P (yp9 s c st q).1:=by
 unfold yp9
 by_cases e:y82 s q c.tag=true
 ·rw [if_pos e];exact okF_call hcl hc h6 hq e h
 ·rw [if_neg e];exact h
def loadP (s:Sy) (c:Cn) (st:St) (q:Str):St:=if yav s q then yps st c.a q else st
def storP (s:Sy) (c:Cn) (st:St) (q:Str):St:=if yav s q then yps st q c.b else st
def fielP (s:Sy) (c:Cn) (st:St) (q:Str):St:=if y54 s q c.tag c.k≠[] then yhp st c.a (y54 s q c.tag c.k) else st
theorem ypp (s:Sy) (st:St) (c:Cn):yc7 s st c=if c.op=1 then yhp st c.a c.b
 else if c.op=2 then yps st c.a c.b
 else if c.op=3 then (ofS st.1 c.b).foldl (loadP s c) st
 else if c.op=4 then (ofS st.1 c.a).foldl (storP s c) st
 else if c.op=5 then (ofS st.1 c.b).foldl (fielP s c) st
 else if c.op=6 then (ofS st.1 c.b).foldl (yp9 s c) st
 else st:=rfl
section
variable {s:Sy} {N P:List Str} (hcl:Cl s (ydi N P)) {c:Cn} (hc:c∈s.cons) {q:Str} {st:St} (h:OkF N P st.1)
include hcl hc h
theorem okF_load (h3:c.op=3) (hq:ydi N P c.b q):OkF N P (loadP s c st q).1:=by
 unfold loadP
 by_cases e:yav s q=true
 ·rw [if_pos e];exact ydu h fun p hp=>(hcl c hc c.a p (.inr (.inr (.inl ⟨h3,rfl,q,hq,e,h.sub _ _ hp⟩)))).1
 ·rw [if_neg e];exact h
theorem okF_stor (h4:c.op=4) (hq:ydi N P c.a q):OkF N P (storP s c st q).1:=by
 unfold storP
 by_cases e:yav s q=true
 ·rw [if_pos e];exact ydu h fun p hp=>(hcl c hc q p (.inr (.inr (.inr (.inl ⟨h4,hq,e,h.sub _ _ hp⟩))))).1
 ·rw [if_neg e];exact h
theorem okF_fiel (h5:c.op=5) (hq:ydi N P c.b q):OkF N P (fielP s c st q).1:=by
 unfold fielP
 by_cases e:y54 s q c.tag c.k≠[]
 ·rw [if_pos e]
  have:=hcl c hc c.a _ (.inr (.inr (.inr (.inr (.inl ⟨h5,rfl,e,q,hq,rfl⟩)))))
  exact h.add this.1 this.2
 ·rw [if_neg e];exact h
end
theorem yng {s:Sy} {N P:List Str} (hcl:Cl s (ydi N P)) {c:Cn} (hc:c∈s.cons) {st:St} (h:OkF N P st.1):OkF N P (yc7 s st c).1:=by
 rw [ypp]
 have hs:=h.sub
 by_cases h1:c.op=1
 ·rw [if_pos h1];have:=hcl c hc _ _ (.inl ⟨h1,rfl,rfl⟩);exact h.add this.1 this.2
 rw [if_neg h1]
 by_cases h2:c.op=2
 ·rw [if_pos h2];exact ydu h fun p hp=>(hcl c hc c.a p (.inr (.inl ⟨h2,rfl,h.sub _ _ hp⟩))).1
 rw [if_neg h2]
 by_cases h3:c.op=3
 ·rw [if_pos h3];exact y9l (C:=fun s:St=>OkF N P s.1) h fun b q hq hb=>okF_load hcl hc hb h3 (hs _ _ hq)
 rw [if_neg h3]
 by_cases h4:c.op=4
 ·rw [if_pos h4];exact y9l (C:=fun s:St=>OkF N P s.1) h fun b q hq hb=>okF_stor hcl hc hb h4 (hs _ _ hq)
 rw [if_neg h4]
 by_cases h5:c.op=5
 ·rw [if_pos h5];exact y9l (C:=fun s:St=>OkF N P s.1) h fun b q hq hb=>okF_fiel hcl hc hb h5 (hs _ _ hq)
 rw [if_neg h5]
 by_cases h6:c.op=6
 ·rw [if_pos h6];exact y9l (C:=fun s:St=>OkF N P s.1) h fun b q hq hb=>ynf hcl hc h6 (hs _ _ hq) hb
 rw [if_neg h6];exact h
theorem yne {s:Sy} {N P:List Str} (hcl:Cl s (ydi N P)) {l:List y6b} (h:OkF N P l):OkF N P (y9o s l).1:=
 y9l (C:=fun s:St=>OkF N P s.1) h fun b c hc hb=>yng hcl hc hb
theorem ex_isL {s:Sy} {N P:List Str} (hU:Cl s (ydi N P)):∃l,IsL s l:=by
 have key:∀(m:Nat) (l:List y6b),N.length*P.length-crd N P (y6p l)=m→OkF N P l→(∀Y,Cl s Y→y7d (y6p l) Y)→∃l,IsL s l:=by
  intro m
  induction m using Nat.strongRecOn with
  | _ m ih=>
   intro l hm hl h0
   obtain ⟨c1,t1⟩:=yd5 (s:=s) hl.can
   cases hf:(y9o s l).2 with
   | false=>exact ⟨_,ygj hl.can h0 hf⟩
   | true=>
    rw [hf] at t1
    have hlt:=t1.lt (m:=false) hU hl.sub
    have hle:=crd_le N P (y6p (y9o s l).1)
    exact ih _ (by omega) (y9o s l).1 rfl (yne hU hl) fun Y hY=>t1.snd Y hY (h0 Y hY)
 exact key _ [] rfl (OkF.nil N P) fun Y hY n p h=>by simp [y6p,ofS] at h
theorem lsR {s:Sy} (h:ybl s=0) (hs:syS s):LsR s (y9u s) (y41 s):=by
 have U:=sysR h hs
 obtain ⟨s1,s2,s3,_⟩:=hs
 exact ⟨U.nm,U.cn,U.cl,⟨U.len,by have:=U.pl.big;omega,U.pl.len⟩,by omega,by omega⟩
theorem fu_eq (a b:Fu):y51 [1,1,1] (y75 a) (y75 b)=some (decide (a=b)):=by
 obtain ⟨a1,a2,a3⟩:=a
 obtain ⟨b1,b2,b3⟩:=b
 simp only [y75,y51,y8k,Fu.mk.injEq,Bool.beq_eq_decide_eq,Bool.decide_and]
 cases decide (a1=b1) <;> cases decide (a2=b2) <;> cases decide (a3=b3) <;> rfl
theorem yp2 (x y:Str):y7v x y=0↔x=y:=by
 unfold y7v
 by_cases h:ltB x y=true
 ·rw [if_pos h]
  refine ⟨fun h=>(by cases h),fun e=>?_⟩
  subst e
  exact (y4z _ h).elim
 ·rw [if_neg h]
  by_cases e:x=y
  ·simp [e]
  ·simp [e]
theorem cmpI_0 (x y:Int):yad x y=0↔x=y:=by
 unfold yad
 split
 ·exact ⟨fun h=>(by cases h),fun e=>by omega⟩
 ·split
  ·rename_i h;simp [h]
  ·rename_i h;simp [h]
theorem cmpL_0:∀a b:List Str,ycz a b=0↔a=b
 | [],[]=>by simp [ycz,cmpN]
 | [],y::b=>by simp [ycz,cmpN]
 | x::a,[]=>by simp [ycz]
 | x::a,y::b=>by
  simp only [ycz]
  by_cases h:y7v x y=0
  ·rw [if_neg (by simp [h]),cmpL_0 a b,(yp2 x y).1 h];simp
  ·rw [if_pos h]
   refine ⟨fun e=>(h e).elim,fun e=>?_⟩
   injection e with e1 _
   exact (h ((yp2 x y).2 e1)).elim
theorem orI_0:∀l:List Int,orI l=0↔∀x∈l,x=0
 | []=>by simp [orI]
 | x::l=>by
  simp only [orI]
  by_cases h:x=0
  ·rw [if_neg (by simp [h]),orI_0 l];simp [h]
  ·rw [if_pos h];simp [h]
theorem cmpC_0 (a b:Cn):yae a b=0↔a=b:=by
 obtain ⟨a1,a2,a3,a4,a5,a6⟩:=a
 obtain ⟨b1,b2,b3,b4,b5,b6⟩:=b
 unfold yae
 rw [orI_0]
 simp [yp2,cmpI_0,cmpL_0]
def SoI0 (a b:Ob) (H:Hp) (m:Nat) (F:Fr) (X:Hp):Prop:=
 ∃k,k≤a.marks.length∧m=a.marks.length-k∧a.marks.take k=b.marks.take k∧X=H∧F=[(2,.fp (y4l a) 0),(3,.fp (y4l b) 0),(5,.i .i64 k)]
theorem yj0 (a b:Ob) (ha:a.marks.length≤140737488355328) (hb:b.marks.length≤140737488355328) (H:Hp):AC Tryz.prog y6m [.agg (y4l a),.agg (y4l b)] H (fun v H'=>v=.b (decide (a=b))∧H'=H):=by
 refine AC.code y15.at y15.ok ?_
 simp only [y15]
 apply jA
 simp [y15.r0,y4l]
 obtain ⟨w,hw⟩:∃w:Bool,w=decide (a.name≠b.name∨a.kinds≠b.kinds∨a.marks.length≠b.marks.length):=⟨_,rfl⟩
 refine AX.seq (AX.seq (AX.join (F1:=[(2,.fp (y4l a) 0),(3,.fp (y4l b) 0),(26,.b w)]) (H1:=H) (AX.reg ?_) ?_))
 ·by_cases h1:a.name=b.name
  ·by_cases h2:a.kinds=b.kinds
   ·simp [y15.r1,y4l,h1,h2,hw]
   ·have h2':(a.kinds == b.kinds)=false:=by simpa using h2
    simp [y15.r1,y4l,h1,h2',hw,h2]
  ·have h1':(a.name == b.name)=false:=by simpa using h1
   simp [y15.r1,y4l,h1',hw,h1]
 refine AX.pcond rfl (fun h1=>?_) (fun h1=>AX.skip ?_)
 ·subst h1
  have hw:=of_decide_eq_true hw.symm
  have:a≠b:=fun e=>by subst e;simp at hw
  apply jA
  simp [y15.r2]
  apply jD
  simp [this]
 subst h1
 have hw:=of_decide_eq_false hw.symm
 have hw1:a.name=b.name:=kg fun h=>hw (.inl h)
 have hw2:a.kinds=b.kinds:=kg fun h=>hw (.inr (.inl h))
 have hw3:a.marks.length=b.marks.length:=kg fun h=>hw (.inr (.inr h))
 simp
 apply jB
 simp [y15.r3]
 refine AX.pblock (AX.loop (SoI0 a b H) a.marks.length ⟨_,_,.refl _ _,0,by omega,by omega,by simp,rfl,by simp [y4l]⟩ ?_)
 rintro m F Y ⟨k,hk,rfl,hf,rfl,rfl⟩
 simp only [y15.l0]
 refine AX.seq (AX.seq (AX.join (F1:=[(2,.fp (y4l a) 0),(3,.fp (y4l b) 0),(5,.i .i64 k),(38,.b (decide (k<a.marks.length)))]) (H1:=Y) (AX.reg ?_) ?_))
 ·by_cases h1:k<a.marks.length
  ·have:k<b.marks.length:=by omega
   simp [y15.r4,y4l,h1,this]
  ·simp [y15.r4,y4l,h1]
 refine AX.pcond rfl (fun hd=>AX.skip ?_) (fun hd=>AX.exit ?_)
 ·simp at hd
  have hg:a.marks[k]?=some a.marks[k]:=kC hd
  have hd2:k<b.marks.length:=by omega
  have hg2:b.marks[k]?=some b.marks[k]:=kC hd2
  have e1:a.marks[k]=b.marks[k]→a.marks.take (k+1)=b.marks.take (k+1):=fun e=>by rw [kJ,kJ,hg,hg2,hf,e]
  have e2:a=b→a.marks[k]=b.marks[k]:=fun e=>by subst e;rfl
  generalize a.marks[k]=q1 at *
  generalize b.marks[k]=q2 at *
  simp
  refine AX.seq (AX.pblock (AX.seq (AX.drw ?_)))
  simp [y15.r5,y4l,hg,hg2,y8a,mk_eq]
  refine AX.pcond rfl (fun hb=>?_) (fun hb=>AX.skip ?_)
  ·simp at hb
   have:a≠b:=fun e=>hb (e2 e)
   apply jA
   simp [y15.r6]
   apply jD
   simp [this]
  simp at hb
  simp
  apply jE
  simp [y15.r7,ybz (i:=k) (by omega)]
  exact ⟨a.marks.length-(k+1),by omega,_,_,.refl _ _,k+1,by omega,rfl,e1 hb,rfl,by simp [y4l]⟩
 simp at hd
 rw [kI hd,kI (by omega)] at hf
 have hab:a=b:=by
  obtain ⟨x1,x2,x3⟩:=a
  obtain ⟨y1,y2,y3⟩:=b
  simp at hw1 hw2 hf
  subst hw1;subst hw2;subst hf;rfl
 simp
 apply jA
 simp [y15.r8]
 apply jD
 simp [hab]
theorem ykz {n:Str} (h:y6t n=true):∃d,y56 n=some d∧RightN d∧y2w d=n:=by
 unfold y6t at h
 cases hr:y56 n with
 | none=>rw [hr] at h;cases h
 | some d=>exact ⟨d,rfl,y65 hr⟩
theorem yi7 {n:Str} (h:y85 n=true):∃d,y56 n=some d∧RightN d∧y2w d=n:=by
 unfold y85 at h
 cases hr:y56 n with
 | none=>rw [hr] at h;cases h
 | some d=>exact ⟨d,rfl,y65 hr⟩
theorem ynl {n:Str} (h:y6t n=true):n.length≤100:=by
 obtain ⟨d,_,h1,rfl⟩:=ykz h;exact ycb h1
theorem ykx {n:Str} (h:y85 n=true):n.length≤100:=by
 obtain ⟨d,_,h1,rfl⟩:=yi7 h;exact ycb h1
theorem ptr_node {s:Sy} {n:Str} (h:yav s n=true):y6t n=true:=by
 unfold yav at h
 cases ho:yd7 n with
 | none=>rw [ho] at h;cases h
 | some ok=>
  unfold yd7 at ho
  unfold y6t
  cases hr:y56 n with
  | none=>rw [hr] at ho;cases ho
  | some d=>
   rw [hr] at ho
   simp only at ho ⊢
   split at ho
   ·cases ho
   rename_i hc
   have:=(y65 hr).1.cell
   rcases this with h | ⟨_,h⟩
   ·exact absurd h hc
   ·unfold y64 at h
    simp only [decide_eq_true_eq] at h
    simp [h.1]
theorem yld {o:Str} {d:Nd} {k:Nat} (hd:y56 o=some d) (h1:¬(d.kind<5∨d.cell≠-1)) (hk:k≤268435456):y85 (y90 o k)=true:=by
 have hR:=(y65 hd).1
 have hR2:RightN { d with cell:=(k:Int) }:=⟨hR.k1,hR.k7,hR.cp,hR.n,.inr ⟨by simp only;omega,by simp [y64];omega⟩,hR.fn,hR.nm,hR.nn⟩
 unfold y90
 rw [hd]
 simp only [if_neg h1,if_pos ((y55 _).2 hR2)]
 unfold y85
 rw [y9d hR2]
 simp
theorem yi0 {s:Sy} (h:ybl s=0) (hN:SyN s) {q tag:Str} {by':Int} (hby:0≤by'∧by'≤64) (hne:y54 s q tag by'≠[]):y85 (y54 s q tag by')=true:=by
 have h4:=(y9z h).2.2.2.1
 unfold y54 at hne ⊢
 cases ho:yd7 q with
 | none=>rw [ho] at hne;exact absurd rfl hne
 | some ok=>
  obtain ⟨o,k⟩:=ok
  rw [ho] at hne
  simp only at hne ⊢
  have hk:=yni ho
  split at hne
  ·rename_i hany
   rw [if_pos hany]
   obtain ⟨ob,hob,hc⟩:=List.any_eq_true.1 hany
   simp only [kF,decide_eq_true_eq] at hc
   obtain ⟨rfl,_,hlt⟩:=hc
   have he:=h4 ob hob
   have hkl:=yfm he
   unfold obE at he
   cases hr:y56 ob.name with
   | none=>rw [hr] at he;cases he
   | some d=>
    rw [hr] at he
    simp only at he
    split at he
    ·cases he
    rename_i h1
    refine yld hr (fun hx=>?_) (by omega)
    rcases hx with hx | hx
    ·exact h1 (.inl hx)
    ·rcases (y65 hr).1.cell with h | ⟨_,h⟩
     ·exact hx h
     ·unfold y64 at h
      simp only [decide_eq_true_eq] at h
      exact h1 (.inr h.1)
  ·exact absurd rfl hne
theorem yim {s:Sy} (h:ybl s=0) {q tag:Str} {k:Nat} (hk:k≤268435456) (hf:y82 s q tag=true):y6t (y50 q k)=true:=by
 have h5:=(y9z h).2.2.2.2.1
 unfold y82 at hf
 cases hs:ybm tag with
 | none=>rw [hs] at hf;cases hf
 | some x=>
  rw [hs] at hf
  obtain ⟨f,hfm,hc⟩:=List.any_eq_true.1 hf
  simp only [decide_eq_true_eq] at hc
  obtain ⟨rfl,_⟩:=hc
  have he:=h5 f hfm
  unfold fuE at he
  cases hr:y56 f.name with
  | none=>rw [hr] at he;cases he
  | some d=>
   rw [hr] at he
   simp only at he
   split at he
   ·cases he
   rename_i h4
   have h4:d.kind=4:=Classical.not_not.1 h4
   have hR:=(y65 hr).1
   have hR2:RightN { d with kind:=2,n:=(k:Int) }:=by
    refine ⟨by simp,by simp,hR.cp,by simp [y64];omega,?_,?_,?_,?_⟩
    ·rcases hR.cell with h | ⟨h,_⟩
     ·exact .inl h
     ·omega
    ·rcases hR.fn with ⟨h,_⟩ | ⟨_,h⟩
     ·omega
     ·exact .inr ⟨by simp,h⟩
    ·rcases hR.nm with ⟨h,_⟩ | ⟨_,h⟩
     ·simp [yay,h4] at h
     ·exact .inr ⟨by simp [yay],h⟩
    ·exact .inl ⟨by simp [ylu],by simp⟩
   unfold y50
   rw [hr]
   simp only [if_pos ((y55 _).2 hR2)]
   unfold y6t
   rw [y9d hR2]
   simp
theorem ypb {c:Cn} (h:cnE c=0) (h6:c.op=6) {k:Nat} {a:Str} (hk:c.args[k]?=some a) (ha:a≠[]):y6t a=true:=by
 rw [yhf] at h
 rw [if_neg (by omega)] at h
 split at h
 ·cases h
 split at h
 ·rename_i hc
  rw [ycm] at hc
  cases hs:ybm c.tag with
  | none=>rw [hs] at hc;cases hc
  | some x=>
   obtain ⟨l,r⟩:=x
   rw [hs] at hc
   simp only [kF] at hc
   have:=List.all_eq_true.1 hc.2 k (List.mem_range.2 (List.getElem?_eq_some_iff.1 hk).1)
   rw [kQ,hk] at this
   simp only [Option.getD_some,argB,Bool.or_eq_true,decide_eq_true_eq,kF] at this
   rcases this with h | h
   ·exact absurd h ha
   ·exact h.2
 ·cases h
theorem con_a {c:Cn} (h:cnE c=0):y6t c.a=true∧(c.op=1→y85 c.b=true):=by
 rw [yhf] at h
 split at h
 ·cases h
 split at h
 ·cases h
 rename_i h2
 have h2:cnB c=true:=by simpa using h2
 unfold cnB at h2
 simp only [kF] at h2
 refine ⟨h2.1.1,fun h1=>?_⟩
 have:=h2.2
 rwa [if_pos h1] at this
theorem yhc {s:Sy} (h:ybl s=0) (hs:syS s) {n p:Str} (hd:Der s n p):y6t n=true∧y85 p=true:=by
 have U:=sysR h hs
 have hc:=(y9z h).2.2.2.2.2
 refine hd (fun n p=>y6t n=true∧y85 p=true) fun c hcm n p hr=>?_
 have ha:=con_a (hc c hcm)
 rcases hr with ⟨o,rfl,rfl⟩ | ⟨o,rfl,x⟩ | ⟨o,rfl,q,x,y,z⟩ | ⟨o,x,y,z⟩ | ⟨o,rfl,e,q,x,rfl⟩ | ⟨o,q,x,y,⟨rfl,rfl⟩ | ⟨k,a,z1,z2,⟨rfl,rfl,z⟩ | ⟨z0,rfl,z⟩⟩⟩
 ·exact ⟨ha.1,ha.2 o⟩
 ·exact ⟨ha.1,x.2⟩
 ·exact ⟨ha.1,z.2⟩
 ·exact ⟨ptr_node y,z.2⟩
 ·exact ⟨ha.1,yi0 h U.nm (U.nm.cb c hcm) e⟩
 ·exact ⟨ha.1,x.2⟩
 ·exact ⟨ypb (hc c hcm) o z1 z2,z.2⟩
 ·refine ⟨yim h ?_ y,z.2⟩
  have:=(List.getElem?_eq_some_iff.1 z1).1
  have:=yp0 (hc c hcm)
  omega
theorem yka (x y:Int):yad y x=- yad x y:=by
 unfold yad
 split <;> split <;> (try split) <;> omega
theorem ydf (x y:Str):y7v y x=- y7v x y:=by
 unfold y7v
 rcases y8j x y with h | h | h
 ·have h2:=y74 h
  have h3:y≠x:=fun e=>by subst e;exact y4z _ h
  simp [h,h2,h3]
 ·subst h;simp [y4z]
 ·have h2:=y74 h
  have h3:x≠y:=fun e=>by subst e;exact y4z _ h
  simp [h,h2,h3]
theorem yk9:∀a b:List Str,ycz b a=- ycz a b
 | [],[]=>by simp [ycz,cmpN]
 | [],y::b=>by simp [ycz,cmpN]
 | x::a,[]=>by simp [ycz,cmpN]
 | x::a,y::b=>by
  simp only [ycz]
  rw [ydf x y,yk9 a b]
  by_cases h:y7v x y=0
  ·simp [h]
  ·rw [if_pos (by omega),if_pos h]
theorem ync:∀l:List Int,orI (l.map fun x=>-x)=- orI l
 | []=>rfl
 | x::l=>by
  simp only [List.map_cons,orI]
  rw [ync l]
  by_cases h:x=0
  ·simp [h]
  ·rw [if_pos (by omega),if_pos h]
theorem cmpC_neg (a b:Cn):yae b a=- yae a b:=by
 unfold yae
 rw [←ync]
 simp only [List.map_cons,List.map_nil,yka a.op,ydf a.a,ydf a.b,yka a.k,ydf a.tag,yk9 a.args]
def y3m:List Cn→Cn→List Cn
 | [],c=>[c]
 | y::r,c=>if yae y c<0 then y::y3m r c else if yae y c=0 then y::r else c::y::r
def y49:List Ob→Ob→List Ob
 | [],o=>[o]
 | y::r,o=>if ltB o.name y.name then o::y::r else if y=o then y::r else y::y49 r o
def y6g:List Fu→Fu→List Fu
 | [],o=>[o]
 | y::r,o=>if ltB o.name y.name then o::y::r else if y=o then y::r else y::y6g r o
def yhh (s:Sy):Sy:=⟨s.objs.foldl y49 [],s.fns.foldl y6g [],s.cons.foldl y3m []⟩
def Asc:List Cn→Prop
 | []=>True
 | [_]=>True
 | a::b::r=>yae a b<0∧Asc (b::r)
theorem Asc.tail {a:Cn}:∀{l:List Cn},Asc (a::l)→Asc l
 | [],_=>trivial
 | _::_,h=>h.2
theorem ykg {a:Cn} {l:List Cn} (h:Asc l) (hd:∀b,l.head?=some b→yae a b<0):Asc (a::l):=by
 cases l with
 | nil=>trivial
 | cons b r=>exact ⟨hd b rfl,h⟩
theorem yhe (c:Cn):∀l:List Cn,(y3m l c).head?=some c∨(y3m l c).head?=l.head?
 | []=>.inl rfl
 | y::r=>by
  unfold y3m
  split
  ·exact .inr rfl
  ·split
   ·exact .inr rfl
   ·exact .inl rfl
theorem ye4 (c:Cn):∀{l:List Cn},Asc l→Asc (y3m l c)
 | [],_=>trivial
 | y::r,h=>by
  unfold y3m
  split
  ·rename_i h1
   refine ykg (ye4 c h.tail) fun b hb=>?_
   rcases yhe c r with e | e
   ·rw [e] at hb;injection hb with hb;subst hb;exact h1
   ·rw [e] at hb
    cases r with
    | nil=>cases hb
    | cons z r=>injection hb with hb;subst hb;exact h.1
  ·rename_i h1
   split
   ·exact h
   ·rename_i h2
    refine ykg h fun b hb=>?_
    injection hb with hb;subst hb
    rw [cmpC_neg];omega
theorem ybe (c x:Cn):∀{l:List Cn},x∈y3m l c↔x∈l∨x=c
 | []=>by simp [y3m]
 | y::r=>by
  unfold y3m
  split
  ·rw [kK,ybe c x (l:=r),kK]
   exact or_assoc.symm
  ·split
   ·rename_i h
    have:=(cmpC_0 y c).1 h
    subst this
    simp only [kK]
    constructor
    ·exact .inl
    ·rintro (h | h)
     ·exact h
     ·exact .inl h
   ·simp only [kK]
    constructor
    ·rintro (h | h | h)
     ·exact .inr h
     ·exact .inl (.inl h)
     ·exact .inl (.inr h)
    ·rintro ((h | h) | h)
     ·exact .inr (.inl h)
     ·exact .inr (.inr h)
     ·exact .inl h
theorem ye3 (c:Cn):∀l:List Cn,(y3m l c).length≤l.length+1
 | []=>by simp [y3m]
 | y::r=>by
  unfold y3m
  split
  ·have:=ye3 c r;simp;omega
  ·split <;> simp
theorem y9k:∀(l a:List Cn),Asc a→Asc (l.foldl y3m a)∧(∀x,x∈l.foldl y3m a↔x∈a∨x∈l)
 | [],a,h=>⟨h,by simp⟩
 | c::l,a,h=>by
  obtain ⟨h1,h2⟩:=y9k l (y3m a c) (ye4 c h)
  refine ⟨h1,fun x=>?_⟩
  rw [List.foldl_cons,h2,ybe,kK,or_assoc]
theorem yc2 (l:List Cn) (i:Nat):((l.take i).foldl y3m []).length≤i:=by
 induction i with
 | zero=>simp
 | succ i ih=>
  by_cases h:i<l.length
  ·rw [yac _ _ h]
   have:=ye3 l[i] ((l.take i).foldl y3m [])
   omega
  ·rw [y9m _ _ (by omega)]
   rw [y9m _ _ (by omega)] at ih
   omega
theorem yp4:∀{l:List Cn} {p:Option Cn},(∀x∈l,cnE x=0)→Asc l→(∀a b,p=some a→l.head?=some b→yae a b<0)→chk cnE yae p l=0
 | [],_,_,_,_=>rfl
 | x::r,p,h,ha,hp=>by
  unfold chk
  rw [if_neg (by simp [h x (by simp)])]
  have tl:chk cnE yae (some x) r=0:=yp4 (fun y hy=>h y (by simp [hy])) ha.tail fun a b e1 e2=>by
   injection e1 with e1;subst e1
   cases r with
   | nil=>cases e2
   | cons z r=>injection e2 with e2;subst e2;exact ha.1
  cases p with
  | none=>simpa using tl
  | some y=>
   have:=hp y x rfl rfl
   rw [if_neg (by simp;omega)]
   exact tl
theorem ydx (o:Ob):∀{l:List Ob},(∀y∈l,ltB y.name o.name=true)→y49 l o=l++[o]
 | [],_=>rfl
 | y::r,h=>by
  have h1:=h y (by simp)
  have hne:y≠o:=fun e=>by subst e;exact y4z _ h1
  unfold y49
  rw [y74 h1,if_neg (by simp),if_neg hne,ydx o fun z hz=>h z (by simp [hz])]
  rfl
theorem yf2 (o:Fu):∀{l:List Fu},(∀y∈l,ltB y.name o.name=true)→y6g l o=l++[o]
 | [],_=>rfl
 | y::r,h=>by
  have h1:=h y (by simp)
  have hne:y≠o:=fun e=>by subst e;exact y4z _ h1
  unfold y6g
  rw [y74 h1,if_neg (by simp),if_neg hne,yf2 o fun z hz=>h z (by simp [hz])]
  rfl
theorem yh7:∀(l a:List Ob),y3o ((a++l).map Ob.name)→l.foldl y49 a=a++l
 | [],a,_=>by simp
 | o::l,a,h=>by
  rw [List.foldl_cons,ydx o fun y hy=>?_,yh7 l (a++[o]) (by simpa using h),kW]
  ·rfl
  ·rw [List.map_append,y3o,List.pairwise_append] at h
   exact h.2.2 _ (List.mem_map.2 ⟨y,hy,rfl⟩) _ (by simp)
theorem yk1:∀(l a:List Fu),y3o ((a++l).map Fu.name)→l.foldl y6g a=a++l
 | [],a,_=>by simp
 | o::l,a,h=>by
  rw [List.foldl_cons,yf2 o fun y hy=>?_,yk1 l (a++[o]) (by simpa using h),kW]
  ·rfl
  ·rw [List.map_append,y3o,List.pairwise_append] at h
   exact h.2.2 _ (List.mem_map.2 ⟨y,hy,rfl⟩) _ (by simp)
theorem yms {s:Sy} (h:ybl s=0):(s.objs.length≤600∧s.fns.length≤600∧s.cons.length≤6000)∧chk obE ylv none s.objs=0∧chk fuE ylw none s.fns=0∧chk cnE yae none s.cons=0:=by
 have h1:=y9z h
 unfold ybl at h
 split at h
 ·cases h
 obtain ⟨q1,h⟩:=ya1 h
 obtain ⟨q2,h⟩:=ya1 h
 obtain ⟨q3,h⟩:=ya1 h
 exact ⟨⟨h1.1,h1.2.1,h1.2.2.1⟩,q1,q2,q3⟩
def ybk (n p:Str):Cn:=⟨1,n,p,0,[],[]⟩
def y7c (l:List y6b):List Cn:=l.flatMap fun f=>f.2.map (ybk f.1)
def y7y (s:Sy) (l:List y6b):Sy:=⟨s.objs,s.fns,s.cons++y7c l⟩
theorem ybw {l:List y6b} {c:Cn}:c∈y7c l↔∃f∈l,∃p∈f.2,c=ybk f.1 p:=by
 unfold y7c
 simp only [List.mem_flatMap,List.mem_map]
 exact ⟨fun ⟨f,h1,p,h2,h3⟩=>⟨f,h1,p,h2,h3.symm⟩,fun ⟨f,h1,p,h2,h3⟩=>⟨f,h1,p,h2,h3.symm⟩⟩
theorem ye7 {s:Sy} (h:ybl s=0) (l:List y6b):(yhh (y7y s l)).objs=s.objs∧(yhh (y7y s l)).fns=s.fns∧Asc (yhh (y7y s l)).cons∧∀x,x∈(yhh (y7y s l)).cons↔x∈s.cons∨x∈y7c l:=by
 obtain ⟨_,q1,q2,_⟩:=yms h
 refine ⟨yh7 s.objs [] (yhg (nm:=Ob.name) q1).2,yk1 s.fns [] (yhg (nm:=Fu.name) q2).2,(y9k (s.cons++y7c l) [] trivial).1,fun x=>?_⟩
 have:=(y9k (s.cons++y7c l) [] trivial).2 x
 simpa [yhh,y7y] using this
theorem canS_e {s:Sy} (h:ybl s=0) (hs:syS s) {l:List y6b} (hl:IsL s l):ybl (yhh (y7y s l))=if 6000<(yhh (y7y s l)).cons.length then 4 else 0:=by
 obtain ⟨e1,e2,e3,e4⟩:=ye7 h l
 obtain ⟨⟨b1,b2,_⟩,q1,q2,q3⟩:=yms h
 unfold ybl
 rw [e1,e2]
 by_cases hb:6000<(yhh (y7y s l)).cons.length
 ·rw [if_pos (.inr (.inr hb)),if_pos hb]
 rw [if_neg (by omega),if_neg hb,q1,q2]
 have:chk cnE yae none (yhh (y7y s l)).cons=0:=by
  refine yp4 (fun x hx=>?_) e3 fun a b h=>by cases h
  rcases (e4 x).1 hx with hx | hx
  ·exact (y9z h).2.2.2.2.2 x hx
  ·obtain ⟨f,hf,p,hp,rfl⟩:=ybw.1 hx
   have hd:Der s f.1 p:=(hl.has f.1 p).1 (by unfold y6p;rw [ydv hl.can hf];exact hp)
   obtain ⟨n1,n2⟩:=yhc h hs hd
   simp [cnE,ybk,n1,n2]
 rw [this]
 simp [orI]
theorem ymy {s t:Sy} (ho:t.objs=s.objs) (hf:t.fns=s.fns) (c:Cn) (X:Rel):Rl t c X=Rl s c X:=by
 have h1:∀q,yav t q=yav s q:=fun q=>by unfold yav;rw [ho]
 have h2:∀q tag b,y54 t q tag b=y54 s q tag b:=fun q tag b=>by unfold y54;rw [ho]
 have h3:∀q tag,y82 t q tag=y82 s q tag:=fun q tag=>by unfold y82;rw [hf]
 unfold Rl
 simp only [h1,h2,h3]
theorem canS_der {s:Sy} (h:ybl s=0) {l:List y6b} (hl:IsL s l) (n p:Str):Der (yhh (y7y s l)) n p↔Der s n p:=by
 obtain ⟨e1,e2,e3,e4⟩:=ye7 h l
 constructor
 ·refine fun hd=>hd (Der s) fun c hc n p hr=>?_
  rw [ymy e1 e2] at hr
  rcases (e4 c).1 hc with hc | hc
  ·exact Der.cl s c hc n p hr
  ·obtain ⟨f,hf,q,hq,rfl⟩:=ybw.1 hc
   have hd:Der s f.1 q:=(hl.has f.1 q).1 (by unfold y6p;rw [ydv hl.can hf];exact hq)
   rcases hr with ⟨_,rfl,rfl⟩ | ⟨o,_⟩ | ⟨o,_⟩ | ⟨o,_⟩ | ⟨o,_⟩ | ⟨o,_⟩
   ·exact hd
   all_goals simp [ybk] at o
 ·refine fun hd X hX=>hd X fun c hc n p hr=>?_
  rw [←ymy e1 e2] at hr
  exact hX c ((e4 c).2 (.inl hc)) n p hr
end Go.Proofs.YtikpijbeobeckaaGreatDoor
namespace Go.Proofs.YtikpijbeobeckaaGreatDoor.Am
open Go Go.RowKit
def SepV (v:V) (id:Nat):Prop:=match v with
 | .sl (some (k,_,_)) _ _=>k≠id
 | _=>True
theorem Acc.sepOld {H X:Hp} {sz:Nat} {v:V} {es:List (List V)} (A:Acc H sz v X es) {id:Nat} (h:id<H.next):SepV v id:=by
 rcases A.sl with ⟨_,z,rfl⟩ | ⟨k,m,h1,rfl,h2,h3⟩
 ·trivial
 ·show k≠id;omega
theorem Acc.isSl {H X:Hp} {sz:Nat} {v:V} {es:List (List V)} (A:Acc H sz v X es):∃a n z,v=.sl a n z:=by
 rcases A.sl with ⟨_,z,rfl⟩ | ⟨k,m,h1,rfl,h2,h3⟩ <;> exact ⟨_,_,_,rfl⟩
theorem AC.frz {P:Program} {f:FuncId} {args args':List V} {H:Hp} {R:V→Hp→Prop} (S:Nat→Prop) (h:AC P f args' (H.wo S) R) (hl:args.length=args'.length) (hv:∀(j:Nat) v v',args[j]?=some v→args'[j]?=some v'→Frz H S v v'):AC P f args H R:=
 ⟨h.1,fun κ cs Sm r=>by
  obtain ⟨κ',ew,le,S',hf⟩:=ye1 S Sm
  have r':VRs κ' args' cs:=⟨by rw [←hl];exact r.1,fun j v' hj=>by
   have hlt:j<args.length:=by rw [hl];exact (List.getElem?_eq_some_iff.1 hj).1
   exact hf _ _ (hv j args[j] v' (kC hlt) hj) _ (r.2 j args[j] (kC hlt))⟩
  have:=h.2 κ' cs S' r'
  rw [ew] at this
  exact this.mono fun e w' ⟨κ2,v,cv,H',a,b,c,d,e',g⟩=>⟨κ2,v,cv,H',a,b,le.trans c,d,e',g⟩⟩
end Go.Proofs.YtikpijbeobeckaaGreatDoor.Am
