/- Part 25. -/
import Derived.Shelf.Spec.SlicesInsert
import Derived.Shelf.Spec.SlicesInsertGrow
import Derived.Test.YtikpijbeobeckaaGreatDoorXFw21
import Derived.Test.YtikpijbeobeckaaGreatDoorXFw24
set_option linter.unusedSimpArgs false
set_option linter.unusedVariables false
namespace Go.Proofs.YtikpijbeobeckaaGreatDoor
open Am C
theorem yo7 (d:Nd) (hr:y4x d=true) (w:Go.World) (ht:Pow w):
  Go.Calls Tryz.prog 150 #[.agg #[.int .i64 d.kind,.string ⟨d.fn.toArray⟩,.int .i64 d.copy,.string ⟨d.name.toArray⟩,.int .i64 d.n,.int .i64 d.cell]] w fun e w'=>e=.returned (.string ⟨(y34 d).toArray⟩)∧Go.RowKit.Below w.heap.size w w':=by
 obtain ⟨k1,k7,hcp,hn,hcell,hfn,hnm,hnn⟩:=(y50 d).1 hr
 obtain ⟨k,fn,cp,nm,n,cl⟩:=d
 simp only at *
 have lfn:fn.length≤16:=by
  rcases hfn with ⟨a,b,c⟩ | ⟨a,b⟩
  ·subst b;simp
  ·exact yav b
 have lnm:nm.length≤16:=by
  rcases hnm with ⟨a,b⟩ | ⟨a,b⟩
  ·exact yav b
  ·subst b;simp
 have hcp':=of_decide_eq_true hcp
 have hn':=of_decide_eq_true hn
 have hcl:cl=-1∨(5≤k∧cl≠-1∧0≤cl∧cl≤268435456):=by
  rcases hcell with c | ⟨c,h⟩
  ·exact .inl c
  ·have:=of_decide_eq_true h
   exact .inr ⟨c,by omega,this⟩
 have hc0:cp=0∨0<cp:=by omega
 rcases (by omega:k=1∨k=2∨k=3∨k=4∨k=5∨k=6∨k=7) with rfl | rfl | rfl | rfl | rfl | rfl | rfl
 ·rcases hcl with rfl | hl
  ·rcases hc0 with rfl | hc
   ·exact yop fn nm n lfn lnm hn' w ht
   ·exact yoo fn cp nm n lfn lnm hn' hc (by omega) w ht
  ·omega
 ·rcases hcl with rfl | hl
  ·rcases hc0 with rfl | hc
   ·exact yon fn nm n lfn lnm hn' w ht
   ·exact yom fn cp nm n lfn lnm hn' hc (by omega) w ht
  ·omega
 ·rcases hcl with rfl | hl
  ·rcases hc0 with rfl | hc
   ·exact yol fn nm n lfn lnm hn' w ht
   ·exact yok fn cp nm n lfn lnm hn' hc (by omega) w ht
  ·omega
 ·rcases hcl with rfl | hl
  ·rcases hc0 with rfl | hc
   ·exact yoj fn nm n lfn lnm hn' w ht
   ·exact yoi fn cp nm n lfn lnm hn' hc (by omega) w ht
  ·omega
 ·obtain ⟨hf0,h0⟩:fn=[]∧cp=0:=by
   rcases hfn with ⟨a,b,c⟩ | ⟨a,b⟩
   ·exact ⟨b,c⟩
   ·exact absurd rfl a
  subst h0
  rcases hcl with rfl | hl
  ·exact yoh fn nm n lfn lnm hn' hf0 w ht
  ·exact yog fn nm n cl lfn lnm hn' hf0 hl.2.1 hl.2.2 w ht
 ·rcases hcl with rfl | hl
  ·rcases hc0 with rfl | hc
   ·exact yof fn nm n lfn lnm hn' w ht
   ·exact yod fn cp nm n lfn lnm hn' hc (by omega) w ht
  ·rcases hc0 with rfl | hc
   ·exact yoe fn nm n cl lfn lnm hn' hl.2.1 hl.2.2 w ht
   ·exact yoc fn cp nm n cl lfn lnm hn' hc (by omega) hl.2.1 hl.2.2 w ht
 ·rcases hcl with rfl | hl
  ·rcases hc0 with rfl | hc
   ·exact yob fn nm n lfn lnm hn' w ht
   ·exact yo9 fn cp nm n lfn lnm hn' hc (by omega) w ht
  ·rcases hc0 with rfl | hc
   ·exact yoa fn nm n cl lfn lnm hn' hl.2.1 hl.2.2 w ht
   ·exact yo8 fn cp nm n cl lfn lnm hn' hc (by omega) hl.2.1 hl.2.2 w ht
theorem vr_nv {κ:K} {d:Nd} {c:Go.Value} (h:VR κ (nv d) c):c=.agg #[.int .i64 d.kind,.string ⟨d.fn.toArray⟩,.int .i64 d.copy,.string ⟨d.name.toArray⟩,.int .i64 d.n,.int .i64 d.cell]:=by
 unfold nv at h
 cases h with
 | agg _ cs hl hv=>
  have hl':cs.length=6:=hl.symm
  match cs,hl' with
  | [a0,a1,a2,a3,a4,a5],_=>
   have e0:=ylh (hv 0 _ rfl)
   have e1:=yos (hv 1 _ rfl)
   have e2:=ylh (hv 2 _ rfl)
   have e3:=yos (hv 3 _ rfl)
   have e4:=ylh (hv 4 _ rfl)
   have e5:=ylh (hv 5 _ rfl)
   simp at e0 e1 e2 e3 e4 e5
   subst e0 e1 e2 e3 e4 e5
   rfl
theorem yhf (d:Nd) (hr:y4x d=true) (H:Hp):AC Tryz.prog 150 [nv d] H (fun v H'=>v=.s (y34 d)∧H'=H):=by
 refine AC.belowS (by kernel_rfl) fun κ cs S r=>?_
 obtain ⟨a,rfl,ra⟩:=r.one'
 obtain rfl:=vr_nv ra
 exact ⟨_,fun κ'=>.s _,yo7 d hr κ.w (pow10_of S)⟩
def y5t (s:Str):Option Nd:=if (y8j s).2=true∧y4x (y8j s).1=true∧y34 (y8j s).1=s then some (y8j s).1 else none
theorem yiy (s:Str):(y8j s).1.fn.length≤s.length∧(y8j s).1.name.length≤s.length:=by
 have ht:∀(d:Nd) (r:Str),(ybo d r).1.fn=d.fn∧((ybo d r).1.name=d.name∨(ybo d r).1.name.length≤r.length):=by
  intro d r
  cases r with
  | nil=>simp [ybo]
  | cons c r=>
   simp only [ybo]
   repeat' split
   all_goals simp
 have hm:∀(d:Nd) (r:Str),(yfj d r).1.fn=d.fn∧((yfj d r).1.name=d.name∨(yfj d r).1.name.length≤r.length):=by
  intro d r
  cases r with
  | nil=>simp [yfj]
  | cons c r=>
   have hs:=y5z r
   simp only [yfj]
   repeat' split
   ·simp
   ·have:=ht { d with copy:=(y5x (y3m r).1).1 } (y3m r).2
    refine ⟨this.1,this.2.imp id fun h=>?_⟩
    simp;omega
   ·exact ht _ _
 have hh:∀(cl:Int) (r:Str),(ybg cl r).1.fn.length≤r.length∧(ybg cl r).1.name.length≤r.length:=by
  intro cl r
  have hs:=y5z r
  simp only [ybg]
  split
  ·simp [Nd.zero];omega
  ·have:=hm { Nd.zero with fn:=(y3m r).1,cell:=cl } (y3m r).2
   refine ⟨by rw [this.1];exact hs.1,?_⟩
   rcases this.2 with h | h
   ·exact kV (Nat.le_of_eq (congrArg List.length h)) (by simp [Nd.zero])
   ·exact kV h hs.2
 simp only [y8j]
 repeat' split
 ·simp [Nd.zero]
 ·rename_i h1 h2
  have:=hh (y5x (s.drop ((Go.Lib.indexByte s 43).toNat+1))).1 (s.take (Go.Lib.indexByte s 43).toNat)
  simp at this
  omega
 ·exact hh _ _
theorem yae (s:Str) (hs:s.length≤9223372036854775806) (H:Hp):AC Tryz.prog y5c [.s s] H (fun v H'=>v=rdV (y5t s)∧H'=H):=by
 have hfr:ycp (rdV (y5t s)):=by
  unfold rdV;split <;> simp [nv,Nd.cs]
 have hl:=yiy s
 refine AC.codeP y39.at y39.ok hfr fun hlt=>?_
 simp only [y39]
 apply jA
 simp [y39.r0]
 apply jA
 simp [y39.r1]
 refine AC.fix (read_ok s hs _) ?_
 have hrd:y5t s=if (y8j s).2=true∧y4x (y8j s).1=true∧y34 (y8j s).1=s then some (y8j s).1 else none:=rfl
 rw [hrd]
 clear hrd hfr
 generalize y8j s=q at hl ⊢
 obtain ⟨⟨k,fn,cp,nm,n,cl⟩,ok⟩:=q
 simp only at hl ⊢
 simp [rkV,nv,Nd.cs]
 have e1:H.Ext (((H.add (.cells [.i .i64 0,.s [],.i .i64 0,.s [],.i .i64 0,.i .i64 0] 6)).add (.cells [.i .i64 0,.s [],.i .i64 0,.s [],.i .i64 0,.i .i64 0] 6)).upd (H.next+1) (.cells [.i .i64 k,.s fn,.i .i64 cp,.s nm,.i .i64 n,.i .i64 cl] 6)):=
  (((Hp.Ext.add hlt _).trans (.add (Hp.add_lt hlt _) _)).upd hlt (by omega) _)
 obtain ⟨X,hX⟩:∃X,X=((H.add (.cells [.i .i64 0,.s [],.i .i64 0,.s [],.i .i64 0,.i .i64 0] 6)).add (.cells [.i .i64 0,.s [],.i .i64 0,.s [],.i .i64 0,.i .i64 0] 6)).upd (H.next+1) (.cells [.i .i64 k,.s fn,.i .i64 cp,.s nm,.i .i64 n,.i .i64 cl] 6):=⟨_,rfl⟩
 have g2:X.get H.next=some (.cells [.i .i64 0,.s [],.i .i64 0,.s [],.i .i64 0,.i .i64 0] 6):=by rw [hX];simp
 have g4:X.get (H.next+1)=some (.cells [.i .i64 k,.s fn,.i .i64 cp,.s nm,.i .i64 n,.i .i64 cl] 6):=by rw [hX];simp
 rw [←hX] at e1 ⊢
 clear hX
 refine AX.seq (AX.test (!(ok&&y4x ⟨k,fn,cp,nm,n,cl⟩&&decide (y34 ⟨k,fn,cp,nm,n,cl⟩=s))) [(2,.p (some (H.next,0,6))),(4,.p (some (H.next+1,0,6))),(23,.b (!(ok&&y4x ⟨k,fn,cp,nm,n,cl⟩&&decide (y34 ⟨k,fn,cp,nm,n,cl⟩=s))))] ?_ rfl (fun hz=>jA ?_) (fun hz=>AX.skip ?_))
 ·by_cases b1:ok=true
  case neg=>simp [y39.r2,b1]
  simp [y39.r2,b1,g4]
  refine AC.fix (ylo ⟨k,fn,cp,nm,n,cl⟩ (by simp only;omega) (by simp only;omega) _) ?_
  by_cases b2:y4x ⟨k,fn,cp,nm,n,cl⟩=true
  case neg=>simp [b1,b2]
  simp [b1,b2,g4]
  refine AC.fix (yhf ⟨k,fn,cp,nm,n,cl⟩ b2 _) ?_
  by_cases b3:y34 ⟨k,fn,cp,nm,n,cl⟩=s
  ·simp [b3]
  ·simp [b3,show (y34 ⟨k,fn,cp,nm,n,cl⟩ == s)=false by simpa using b3]
 ·simp [y39.r3,g2]
  apply jD
  have hn:¬(ok=true∧y4x ⟨k,fn,cp,nm,n,cl⟩=true∧y34 ⟨k,fn,cp,nm,n,cl⟩=s):=by
   rintro ⟨b1,b2,b3⟩;rw [b1,b2,decide_eq_true b3] at hz;cases hz
  rw [if_neg hn]
  simp [rdV,nv,Nd.cs,Nd.zero]
  exact ⟨e1.upd hlt (kG _) _,.refl _⟩
 have hn:ok=true∧y4x ⟨k,fn,cp,nm,n,cl⟩=true∧y34 ⟨k,fn,cp,nm,n,cl⟩=s:=by
  simp only [Bool.not_eq_false',kF,decide_eq_true_eq] at hz
  exact ⟨hz.1.1,hz.1.2,hz.2⟩
 rw [if_pos hn]
 simp
 apply jA
 simp [y39.r4,g2,g4]
 apply jD
 simp [rdV,nv,Nd.cs]
 exact ⟨e1.upd hlt (kG _) _,.refl _⟩
theorem yeq {l:Str} {c:UInt8} (h:c∉l):Go.Lib.indexByte l c=-1:=by
 induction l with
 | nil=>rfl
 | cons b l ih=>
  simp only [kK,not_or] at h
  have e:(b == c)=false:=by simpa using fun hh:b=c=>h.1 hh.symm
  simp [Go.Lib.indexByte,e,ih h.2]
theorem yer {l r:Str} {c:UInt8} (h:c∉l):Go.Lib.indexByte (l++c::r) c=l.length:=by
 induction l with
 | nil=>simp [Go.Lib.indexByte]
 | cons b l ih=>
  simp only [kK,not_or] at h
  have e:(b == c)=false:=by simpa using fun hh:b=c=>h.1 hh.symm
  simp only [List.cons_append,Go.Lib.indexByte,e,ih h.2]
  have:((l.length:Int) == -1)=false:=by simp
  simp [this]
theorem yll {a b:Str} (w:Bool) (hw:y7n (a++b)=w) (ha:a.all (inB w)=true) (hb:∀c r,b=c::r→inB w c=false):y3m (a++b)=(a,b):=by
 unfold y3m
 rw [hw]
 have:(a++b).takeWhile (inB w)=a∧(a++b).dropWhile (inB w)=b:=by
  have:=ya7 (p:=inB w) (l:=a++b) (i:=a.length) (by simpa using ha) (by simp) (fun x hx=>by
   rw [kX (kG _),Nat.sub_self] at hx
   cases b with
   | nil=>simp at hx
   | cons c r=>simp at hx;subst hx;exact hb _ _ rfl)
  simpa using this
 rw [this.1,this.2]
theorem yd0 {s:Str} (h:y69 s=true):s.length≤16∧y7n s=true∧s.all (inB true)=true∧s≠[]:=by
 unfold y69 at h;simp only [kF,decide_eq_true_eq] at h
 refine ⟨h.1.1,h.1.2,h.2,fun e=>?_⟩
 subst e;exact absurd h.1.2 (by decide)
theorem yek {a b:Str} (h:a≠[]):y7n (a++b)=y7n a:=by
 cases a with
 | nil=>exact absurd rfl h
 | cons c r=>rfl
theorem yaq {a b:Str} (h:y69 a=true) (hb:∀c r,b=c::r→inB true c=false):y3m (a++b)=(a,b):=by
 obtain ⟨_,h2,h3,h4⟩:=yd0 h
 exact yll true (by rw [yek h4,h2]) h3 hb
theorem yf8 (n:Nat):(y54 n).all ycf=true:=by
 induction n using Nat.strongRecOn with
 | ind n ih=>
  have hd:ycf (dgB n)=true:=by simp [ycf,yc1];omega
  by_cases h:n<10
  ·rw [y7i h];simp [hd]
  ·rw [ybe h,List.all_append,ih (n / 10) (by omega)];simp [hd]
theorem yi4 (n:Nat):y54 n≠[]:=by
 by_cases h:n<10
 ·rw [y7i h];simp
 ·rw [ybe h];simp
theorem yor (n:Nat):y7n (y54 n)=false:=by
 have h:=yf8 n
 have h2:=yi4 n
 cases hd:y54 n with
 | nil=>exact absurd hd h2
 | cons c r=>
  rw [hd] at h
  simp only [List.all_cons,kF] at h
  show ygj c=false
  cases hl:ygj c with
  | false=>rfl
  | true=>rw [yr1 c hl] at h;exact absurd h.1 (by decide)
theorem yfw:inB false=ycf:=by funext c;simp [inB]
theorem yfg {n:Nat} {b:Str} (hb:∀c r,b=c::r→ycf c=false):y3m (y54 n++b)=(y54 n,b):=
 yll false (by rw [yek (yi4 n),yor]) (by rw [yfw];exact yf8 n) (by rw [yfw];exact hb)
theorem yk7 (l:Str) (c:UInt8):ydd (l++[c])=10*ydd l+(c.toNat-48):=by unfold ydd;rw [List.foldl_append];rfl
theorem valD_dec (n:Nat):ydd (y54 n)=n:=by
 induction n using Nat.strongRecOn with
 | ind n ih=>
  by_cases h:n<10
  ·rw [y7i h]
   show 10*0+((dgB n).toNat-48)=n
   rw [yc1];omega
  ·rw [ybe h,yk7,ih (n / 10) (by omega),yc1];omega
theorem yr2 (n:Nat) (h0:0<n):(y54 n)[0]?≠some 48:=by
 induction n using Nat.strongRecOn with
 | ind n ih=>
  by_cases h:n<10
  ·rw [y7i h]
   intro hh;simp at hh
   have:=yc1 n
   rw [hh] at this
   have e:(48:UInt8).toNat=48:=rfl
   omega
  ·rw [ybe h,kR (List.length_pos_iff.2 (yi4 _))]
   exact ih (n / 10) (by omega) (by omega)
theorem yas {n:Nat} (h:n≤268435456):y5x (y54 n)=(n,0):=by
 have hz:¬((y54 n)[0]?=some 48∧1<(y54 n).length):=by
  rintro ⟨h1,h2⟩
  rcases Nat.eq_zero_or_pos n with h0 | h0
  ·subst h0;rw [y7i (by omega)] at h2;simp at h2
  ·exact yr2 n h0 h1
 unfold y5x
 rw [if_neg (yi4 n),if_neg (by rw [yf8];simp),if_neg hz,valD_dec,if_neg (by omega)]
theorem yj6 {s:Str} (h:s.all (inB true)=true):(43:UInt8)∉s:=fun hm=>by
 have:=List.all_eq_true.1 h _ hm
 exact absurd this (by decide)
theorem ym3 (n:Nat):(43:UInt8)∉y54 n:=fun hm=>by
 have:=List.all_eq_true.1 (yf8 n) _ hm
 exact absurd this (by decide)
def ya1 (k:Int):UInt8:=if k=1 then 46 else if k=2 then 36 else if k=3 then 64 else if k=4 then 40 else if k=6 then 37 else 35
def y9t (d:Nd):Str:=if d.kind=4 then [41] else if ygh d.kind then y54 d.n.toNat else d.name
theorem yl1 {d:Nd} (h:RightN d) (hk:d.kind≠5):y5f d=d.fn++(y4m d.copy++ya1 d.kind::y9t d):=by
 have h1:=h.k1;have h7:=h.k7
 obtain ⟨k,fn,cp,nm,n,cl⟩:=d
 simp only at *
 rcases (by omega:k=1∨k=2∨k=3∨k=4∨k=6∨k=7) with rfl | rfl | rfl | rfl | rfl | rfl <;> rfl
theorem yeg {c:Int}:∀x r,y5a c=x::r→x=43:=by
 intro x r h;unfold y5a at h;split at h
 ·simp at h;exact h.1.symm
 ·cases h
theorem yi6 {d:Nd} (h:RightN d):0≤d.copy∧d.copy≤268435456:=of_decide_eq_true h.cp
theorem ypu {d:Nd} (h:RightN d):0≤d.n∧d.n≤268435456:=of_decide_eq_true h.n
theorem ypy (c:Int):(43:UInt8)∉y4m c:=by
 unfold y4m;split
 ·simp only [kK,not_or];exact ⟨by decide,ym3 _⟩
 ·simp
theorem yh2 {d:Nd} (h:RightN d):d.name=[]∨y69 d.name=true:=h.nm.elim (fun x=>.inr x.2) (fun x=>.inl x.2)
theorem ypx {d:Nd} (h:RightN d):(43:UInt8)∉d.name:=by
 rcases yh2 h with e | e
 ·rw [e];simp
 ·exact yj6 (yd0 e).2.2.1
theorem no43_fn {d:Nd} (h:RightN d):(43:UInt8)∉d.fn:=by
 rcases h.fn with ⟨_,e,_⟩ | ⟨_,e⟩
 ·rw [e];simp
 ·exact yj6 (yd0 e).2.2.1
theorem ypw {d:Nd} (h:RightN d):(43:UInt8)∉y9t d:=by
 unfold y9t;split
 ·decide
 ·split
  ·exact ym3 _
  ·exact ypx h
theorem ypz {d:Nd} (h:RightN d):(43:UInt8)∉y5f d:=by
 by_cases hk:d.kind=5
 ·have:y5f d=d.name:=by unfold y5f;simp [hk]
  rw [this];exact ypx h
 ·rw [yl1 h hk]
  simp only [kZ,kK,not_or]
  refine ⟨no43_fn h,ypy _,?_,ypw h⟩
  unfold ya1;repeat' split
  all_goals decide
theorem kind5 {d:Nd} (h:RightN d) (hk:d.kind=5):d.fn=[]∧d.copy=0∧y69 d.name=true∧d.n=0:=by
 rcases h.fn with ⟨_,a,b⟩ | ⟨a,_⟩
 ·refine ⟨a,b,?_,?_⟩
  ·rcases h.nm with ⟨_,x⟩ | ⟨x,_⟩
   ·exact x
   ·rw [hk] at x;exact absurd x (by decide)
  ·rcases h.nn with ⟨x,_⟩ | ⟨_,x⟩
   ·rw [hk] at x;exact absurd x (by decide)
   ·exact x
 ·exact absurd hk a
theorem kindN {d:Nd} (h:RightN d) (hk:d.kind≠5):y69 d.fn=true:=by
 rcases h.fn with ⟨x,_⟩ | ⟨_,x⟩
 ·exact absurd x hk
 ·exact x
theorem yh5 (cp:Int) (m:UInt8) (r:Str) (hm:inB true m=false):∀c q,y4m cp++m::r=c::q→inB true c=false:=by
 intro c q h;unfold y4m at h;split at h
 ·simp at h;rw [←h.1];decide
 ·simp at h;rw [←h.1];exact hm
theorem yb8 {k:Int}:inB true (ya1 k)=false∧ycf (ya1 k)=false∧ya1 k≠126∧ya1 k≠43:=by
 unfold ya1;repeat' split
 all_goals decide
theorem tail_ne {d:Nd} (h:RightN d):d.kind=1∨d.kind=6→y69 d.name=true:=fun hk=>by
 rcases h.nm with ⟨_,e⟩ | ⟨e,_⟩
 ·exact e
 ·rcases hk with hk | hk <;> (rw [hk] at e;exact absurd e (by decide))
theorem yiu {d:Nd} (h:RightN d) (hk:d.kind≠5):ybo ⟨0,d.fn,d.copy,[],0,d.cell⟩ (ya1 d.kind::y9t d)=(d,true):=by
 have h1:=h.k1;have h7:=h.k7;have hn:=ypu h
 have hnm:=h.nm;have hnn:=h.nn
 obtain ⟨k,fn,cp,nm,n,cl⟩:=d
 simp only at *
 have rd:y5x (y54 n.toNat)=(n.toNat,0):=yas (by omega)
 have en:((n.toNat:Nat):Int)=n:=by omega
 rcases (by omega:k=1∨k=2∨k=3∨k=4∨k=6∨k=7) with rfl | rfl | rfl | rfl | rfl | rfl <;>
  simp [y9w,ygh] at hnm hnn <;>
  simp [ybo,ya1,y9t,ym6,Go.Lib.indexByte,ygh,rd,en,hnm,hnn]
theorem ykc {d:Nd} (h:RightN d) (hk:d.kind≠5):yfj ⟨0,d.fn,0,[],0,d.cell⟩ (y4m d.copy++ya1 d.kind::y9t d)=(d,true):=by
 have hc:=yi6 h
 have ht:=yiu h hk
 by_cases h0:0<d.copy
 ·have e:y4m d.copy=126::y54 d.copy.toNat:=by unfold y4m;rw [if_pos h0]
  have es:y3m (y54 d.copy.toNat++ya1 d.kind::y9t d)=(y54 d.copy.toNat,ya1 d.kind::y9t d):=yfg fun c r hh=>by injection hh with hh _;rw [←hh];exact yb8.2.1
  rw [e,List.cons_append]
  simp only [yfj,if_true,es,yas (show d.copy.toNat≤268435456 by omega)]
  rw [if_neg (by simp),show ((d.copy.toNat:Nat):Int)=d.copy by omega]
  exact ht
 ·have e:y4m d.copy=[]:=by unfold y4m;rw [if_neg h0]
  have e0:d.copy=0:=by omega
  rw [e,List.nil_append]
  simp only [yfj]
  rw [if_neg yb8.2.2.1]
  rw [e0] at ht
  exact ht
theorem yiv {d:Nd} (h:RightN d):ybg d.cell (y5f d)=(d,true):=by
 by_cases hk:d.kind=5
 ·obtain ⟨a,b,c,e⟩:=kind5 h hk
  have eb:y5f d=d.name++[]:=by unfold y5f;simp [hk]
  have es:=yaq (b:=[]) c (by simp)
  rw [eb]
  simp only [ybg,es]
  rw [if_pos trivial]
  obtain ⟨k,fn,cp,nm,n,cl⟩:=d
  simp only at *
  subst hk a b e;rfl
 ·have es:y3m (y5f d)=(d.fn,y4m d.copy++ya1 d.kind::y9t d):=by
   rw [yl1 h hk]
   exact yaq (kindN h hk) (yh5 _ _ _ yb8.1)
  simp only [ybg,es]
  rw [if_neg (by simp)]
  exact ykc h hk
theorem ycx {d:Nd} (h:RightN d):y8j (y34 d)=(d,true):=by
 have hb:=ypz h
 have hh:=yiv h
 unfold y8j y34
 by_cases hc:0≤d.cell
 ·have hc2:d.cell≤268435456:=by
   rcases h.cell with c | ⟨_,c⟩
   ·omega
   ·exact (of_decide_eq_true c).2
  have e:y5a d.cell=43::y54 d.cell.toNat:=by unfold y5a;rw [if_pos hc]
  rw [e,yer hb]
  have e1:(y5f d++43::y54 d.cell.toNat).drop ((y5f d).length+1)=y54 d.cell.toNat:=by
   rw [←List.drop_drop];simp
  have e2:(y5f d++43::y54 d.cell.toNat).take (y5f d).length=y5f d:=by simp
  simp only [Int.toNat_natCast,e1,e2,yas (show d.cell.toNat≤268435456 by omega)]
  rw [if_pos (by omega),if_neg (by simp),show ((d.cell.toNat:Nat):Int)=d.cell by omega]
  exact hh
 ·have e:y5a d.cell=[]:=by unfold y5a;rw [if_neg hc]
  have e1:d.cell=-1:=by
   rcases h.cell with c | ⟨_,c⟩
   ·exact c
   ·have:=of_decide_eq_true c;omega
  rw [e,List.append_nil,yeq hb]
  simp only
  rw [if_neg (by omega),←e1]
  exact hh
theorem ygz {d:Nd} (h:RightN d):yhr (y5a d.cell)=d.cell:=by
 unfold y5a
 by_cases hc:0≤d.cell
 ·have hc2:d.cell≤268435456:=by
   rcases h.cell with c | ⟨_,c⟩
   ·omega
   ·exact (of_decide_eq_true c).2
  rw [if_pos hc]
  simp only [yhr,if_true,yas (show d.cell.toNat≤268435456 by omega)]
  omega
 ·rw [if_neg hc]
  simp only [yhr]
  rcases h.cell with c | ⟨_,c⟩
  ·exact c.symm
  ·have:=of_decide_eq_true c;omega
theorem yi8 {d:Nd} (w:Bool):∀c r,y5a d.cell=c::r→inB w c=false:=fun c r h=>by
 rw [yeg c r h];cases w <;> decide
theorem ypg {d:Nd} (h:RightN d):ygg (y34 d)=if d.kind=5 then ⟨d.name,0,[],[],d.cell⟩ else ⟨d.fn,d.copy.toNat,[ya1 d.kind],if d.kind=4 then [] else y9t d,d.cell⟩:=by
 by_cases hk:d.kind=5
 ·obtain ⟨a,b,c,e⟩:=kind5 h hk
  have eb:y5f d=d.name:=by unfold y5f;simp [hk]
  have es:y3m (y34 d)=(d.name,y5a d.cell):=by
   unfold y34;rw [eb];exact yaq c (yi8 true)
  rw [if_pos hk]
  have ea:yat (y5a d.cell)=(0,y5a d.cell):=by
   cases hh:y5a d.cell with
   | nil=>rfl
   | cons x r=>
    have:=yeg x r hh;subst this
    simp only [yat];rw [if_neg (by decide)]
  have eb2:ya6 (y5a d.cell)=([],[],y5a d.cell):=by
   cases hh:y5a d.cell with
   | nil=>rfl
   | cons x r=>
    have:=yeg x r hh;subst this
    simp [ya6]
  simp only [ygg,es,ea,eb2,ygz h]
 ·rw [if_neg hk]
  have hc:=yi6 h
  have es:y3m (y34 d)=(d.fn,y4m d.copy++ya1 d.kind::(y9t d++y5a d.cell)):=by
   unfold y34;rw [yl1 h hk,kW,kW,List.cons_append]
   exact yaq (kindN h hk) (yh5 _ _ _ yb8.1)
  have ea:yat (y4m d.copy++ya1 d.kind::(y9t d++y5a d.cell))=(d.copy.toNat,ya1 d.kind::(y9t d++y5a d.cell)):=by
   by_cases h0:0<d.copy
   ·have e:y4m d.copy=126::y54 d.copy.toNat:=by unfold y4m;rw [if_pos h0]
    have es:y3m (y54 d.copy.toNat++ya1 d.kind::(y9t d++y5a d.cell))=(y54 d.copy.toNat,ya1 d.kind::(y9t d++y5a d.cell)):=yfg fun c r hh=>by injection hh with hh _;rw [←hh];exact yb8.2.1
    rw [e,List.cons_append]
    simp only [yat,if_true,es,yas (show d.copy.toNat≤268435456 by omega)]
   ·have e:y4m d.copy=[]:=by unfold y4m;rw [if_neg h0]
    have e0:d.copy.toNat=0:=by omega
    rw [e,List.nil_append,e0]
    simp only [yat]
    rw [if_neg yb8.2.2.1]
  have eb:ya6 (ya1 d.kind::(y9t d++y5a d.cell))=([ya1 d.kind],if d.kind=4 then [] else y9t d,y5a d.cell):=by
   simp only [ya6]
   rw [if_neg yb8.2.2.2]
   by_cases h4:d.kind=4
   ·have ec:y5a d.cell=[]:=by
     rcases h.cell with c | ⟨c,_⟩
     ·rw [c];rfl
     ·omega
    have et:y9t d=[41]:=by unfold y9t;rw [if_pos h4]
    rw [ec,et,if_pos h4,show ya1 d.kind=40 by rw [h4];rfl]
    decide
   ·rw [if_neg h4]
    have hm:ya1 d.kind≠40:=by
     have h1:=h.k1;have h7:=h.k7
     rcases (by omega:d.kind=1∨d.kind=2∨d.kind=3∨d.kind=6∨d.kind=7) with e | e | e | e | e <;> (rw [e];decide)
    rw [if_neg (fun x=>hm x.1)]
    have:y3m (y9t d++y5a d.cell)=(y9t d,y5a d.cell):=by
     unfold y9t;rw [if_neg h4]
     split
     ·exact yfg (by have:=yi8 (d:=d) false;rw [yfw] at this;exact this)
     ·rename_i hn
      refine yaq (tail_ne h ?_) (yi8 true)
      have h1:=h.k1;have h7:=h.k7
      simp [ygh] at hn;omega
    rw [this]
  simp only [ygg,es,ea,eb,ygz h]
theorem ynp {d:Nd} (h:RightN d):d∈yd7 (y34 d)∧yng (y34 d) d=true:=by
 have hp:=ypg h
 have h1:=h.k1;have h7:=h.k7;have hn:=ypu h;have hc:=yi6 h
 have hnm:=h.nm;have hnn:=h.nn;have hcl:=h.cell
 have h5:d.kind=5→_:=kind5 h
 have hr:=(y50 d).2 h
 refine ⟨?_,?_⟩
 ·unfold yd7
  rw [hp]
  obtain ⟨k,fn,cp,nm,n,cl⟩:=d
  simp only at *
  have rd:y5x (y54 n.toNat)=(n.toNat,0):=yas (by omega)
  have en:((n.toNat:Nat):Int)=n:=by omega
  have ec:((cp.toNat:Nat):Int)=cp:=by omega
  rcases (by omega:k=1∨k=2∨k=3∨k=4∨k=5∨k=6∨k=7) with rfl | rfl | rfl | rfl | rfl | rfl | rfl <;>
   simp [y9w,ygh] at hnm hnn hcl h5 <;>
   simp [y9t,ygh,rd,en,ec,hnm,hnn,hcl,h5]
 ·unfold yng
  rw [hr,hp]
  by_cases hk:d.kind=5 <;> simp [hk]
theorem ya8 (s:Str):ybp s=y5t s:=by
 unfold y5t
 by_cases hc:(y8j s).2=true∧y4x (y8j s).1=true∧y34 (y8j s).1=s
 ·rw [if_pos hc]
  obtain ⟨_,h2,h3⟩:=hc
  have hR:=(y50 _).1 h2
  have:=ynp hR
  rw [h3] at this
  unfold ybp
  obtain ⟨d,hd⟩:∃d,(yd7 s).find? (yng s)=some d:=by
   cases hf:(yd7 s).find? (yng s) with
   | some d=>exact ⟨d,rfl⟩
   | none=>exact absurd this.2 (List.find?_eq_none.1 hf _ this.1)
  rw [hd]
  have hfit:=List.find?_some hd
  simp only [yng,kF,decide_eq_true_eq] at hfit
  have k1:=ycx ((y50 _).1 hfit.1.1)
  rw [hfit.1.2] at k1
  rw [k1]
 ·rw [if_neg hc]
  cases hf:ybp s with
  | none=>rfl
  | some d=>
   have hfit:=List.find?_some hf
   simp only [yng,kF,decide_eq_true_eq] at hfit
   have k1:=ycx ((y50 _).1 hfit.1.1)
   rw [hfit.1.2] at k1
   exact absurd ⟨by rw [k1],by rw [k1];exact hfit.1.1,by rw [k1];exact hfit.1.2⟩ hc
section
open Go Go.RowKit
theorem Am.AC.row {P:Program} {f:FuncId} {args:List V} {H:Hp} {es:List (List V)} {T sz:Nat} (hok:okFn P f=true) (hes:∀e∈es,e.length=sz)
  (h:∀(κ:K) (cs:List Value),Sim κ H→VRs κ args cs→∃cv:Nat→Nat→Value,(∀(κ':K) (i j:Nat) e v,es[i]?=some e→e[j]?=some v→VR κ' v (cv i j))∧
   Calls P f cs.toArray κ.w (fun e w'=>∃v' xs,e=.returned v'∧w'.ownsRow κ.w.heap.size T sz v' es.length xs∧(∀(i j:Nat) e v,es[i]?=some e→e[j]?=some v→xs[i*sz+j]?=some (cv i j))∧RowKit.Below κ.w.heap.size κ.w w')):
  AC P f args H (fun r H'=>r=.fs es∧H'=H):=by
 refine ⟨hok,fun κ cs S r=>?_⟩
 obtain ⟨cv,hv,hc⟩:=h κ cs S r
 refine hc.mono fun e w' ⟨v',xs,he,ho,hx,hb⟩=>?_
 obtain ⟨hlen,⟨rfl,h0⟩ | ⟨g,cap,cur,rfl,hg,hgb,hcap,hmax,hsz,htake⟩⟩:=ho
 ·have hnil:es=[]:=List.length_eq_zero_iff.1 h0
  subst hnil
  exact ⟨{ κ with w:=w' },.fs [],.slice none 0 0,H,he,rfl,K.below_le S hb,S.below hb,.fs (κ:={ κ with w:=w' }) [] 0 sz 0 0 none (fun _ _=>undef) (kG _) (fun e h=>by simp at h) (fun _=>rfl) (fun h=>absurd rfl h) (fun i j e v h=>by simp at h) (fun i j e v h=>by simp at h),rfl,rfl⟩
 ·have S':=S.below hb
  have le:=K.below_le S hb
  let κ2:K:={ κ with w:=w',fz:=fun b=>κ.fz b∨b=g,ic:=fun b=>κ.ic b∨b=g }
  have gl:g<w'.heap.size:=lt_of_some hgb
  have le2:κ.Le κ2:=⟨le.ok,fun b h=>⟨.inl h,(le.fz b h).2⟩,fun b h=>⟨.inl h,(le.ic b h).2⟩,fun b h=>h.elim .inl fun h=>.inr (.inl (by rw [h];exact hg)),le.n,le.size,le.os,le.tape,le.output,le.hole,le.base,le.lps⟩
  have le3:K.Le { κ with w:=w' } κ2:=⟨fun _ _ h=>⟨h,rfl⟩,fun _ h=>⟨.inl h,rfl⟩,fun _ h=>⟨.inl h,rfl⟩,fun b h=>h.elim .inl fun h=>.inr (.inr (by subst h;intro hf;have:=S.fz _ hf;omega)),fun _ _ h=>h,kG _,rfl,rfl,rfl,fun _ h=>⟨h,fun _ o=>o⟩,rfl,fun _ r h=>⟨r,h⟩⟩
  have plt:∀{id e cs},Placed κ id e cs→(κ.pl id e).1<κ.w.heap.size:=fun ⟨⟨arr,t,fr,hb,_⟩,_⟩=>lt_of_some hb
  refine ⟨κ2,.fs es,_,H,he,rfl,le2,⟨S'.ok,S'.hole,S'.lt,fun b h=>h.elim (S'.fz b) fun h=>by rw [h];exact gl,fun b h=>h.elim (fun h=>.inl (S'.ic b h)) .inr,S'.le,fun id cs m hm e h1 h2=>?_,fun id o ho=>?_,S'.sep,S'.base,S'.sepm,S'.tb.mono le3⟩,?_,rfl,rfl⟩
  ·have P0:=S.cells id cs m hm e h1 h2
   have hlt:=plt P0
   obtain ⟨⟨arr,t,fr,hb',hs,hv',hf⟩,hz⟩:=S'.cells id cs m hm e h1 h2
   refine ⟨⟨arr,t,fr,hb',hs,fun j v a b=>(hv' j v a b).mono le3,hf⟩,?_⟩
   rintro (h | h)
   ·exact hz h
   ·have:(κ.pl id e).1=g:=h
    omega
  ·obtain ⟨⟨x0,hb0,_⟩,_⟩:=S.maps id o ho
   obtain ⟨⟨x,hb',ho'⟩,hz⟩:=S'.maps id o ho
   refine ⟨⟨x,hb',ho'.mono le3⟩,?_⟩
   rintro (h | h)
   ·exact hz h
   ·have h1:(κ.pl id 0).1=g:=h
    have:=lt_of_some hb0
    omega
  ·refine .fs (κ:=κ2) es cap sz g 0 (some ⟨g,0,none⟩) cv hcap hes (fun h=>by cases h) (fun _=>⟨rfl,.inr rfl⟩) (fun i j e v hi hj=>?_) (fun i j e v hi hj=>hv κ2 i j e v hi hj)
   have h1:=hx i j e v hi hj
   rw [←htake,kj] at h1
   split at h1
   ·show w'.cell? ⟨g,0+i*sz+j,none⟩=some (cv i j)
    simp only [World.cell?,hgb,Nat.zero_add]
    rw [←Array.getElem?_toList]
    exact h1
   ·cases h1
end
theorem ss_len (l:List Str):∀e∈l.map (fun x=>[V.s x]),e.length=1:=fun e he=>by
 obtain ⟨x,_,rfl⟩:=List.mem_map.1 he;rfl
theorem vr_fs1 {κ:K} {α:Type} {l:List α} {f:α→V} {c:Go.Value} (h:VR κ (.fs (l.map fun x=>[f x])) c):
  ∃a cap,c=.slice a l.length cap∧(a=none→l=[])∧(l≠[]→∃b o,a=some ⟨b,o,none⟩∧∀(i:Nat) x,l[i]?=some x→∃c,κ.w.cell? ⟨b,o+i,none⟩=some c∧VR κ (f x) c):=by
 cases h with
 | fs _ cap sz b o a cv hcap hsz hn hne hc hv=>
  refine ⟨a,cap,by simp,fun h=>?_,fun h=>?_⟩
  ·have:=hn h
   have:l.length=0:=by simpa [this] using hcap
   exact List.length_eq_zero_iff.1 this
  ·have hne':=hne (by simpa using h)
   have hs:sz=1:=by
    obtain ⟨x,r,rfl⟩:=List.exists_cons_of_ne_nil h
    exact (hsz [f x] (by simp)).symm
   subst hs
   refine ⟨b,o,hne'.1,fun i x hi=>?_⟩
   have hi':(l.map fun x=>[f x])[i]?=some [f x]:=by simp [hi]
   have h1:=hc i 0 _ _ hi' rfl
   have h2:=hv i 0 _ _ hi' rfl
   exact ⟨_,by simpa using h1,h2⟩
theorem ys9 (l:List Str) (hl:l.length≤8000000000000) (H:Hp):AC Tryz.prog y6z [ss l] H (fun v H'=>v=ss l∧H'=H):=by
 refine AC.row (T:=9) (sz:=1) (by kernel_rfl) (ss_len l) fun κ cs S r=>?_
 obtain ⟨c,rfl,rc⟩:=r.one'
 refine ⟨fun i _=>.string ⟨((l[i]?).getD []).toArray⟩,fun κ' i j e v he hv=>?_,?_⟩
 ·simp only [List.getElem?_map,kd] at he
  obtain ⟨x,hx,rfl⟩:=he
  cases j with
  | zero=>simp at hv;subst hv;simp only [hx,Option.getD_some];exact .s x
  | succ j=>simp at hv
 obtain ⟨a,cap,rfl,h0,h1⟩:=vr_fs1 rc
 have hfin:∀(xs:List Go.Value),xs=l.map (fun x=>Go.Value.string ⟨x.toArray⟩)→∀(i j:Nat) e v,(l.map fun x=>[V.s x])[i]?=some e→e[j]?=some v→xs[i*1+j]?=some (.string ⟨((l[i]?).getD []).toArray⟩):=by
  rintro _ rfl i j e v he hv
  simp only [List.getElem?_map,kd] at he
  obtain ⟨x,hx,rfl⟩:=he
  cases j with
  | zero=>simp [hx]
  | succ j=>simp at hv
 by_cases hn:l=[]
 ·subst hn
  cases a with
  | none=>exact (Tryz.slices_Clone_string_nil 0 cap κ.w).mono fun e w' ⟨he,hw⟩=>⟨_,[],he,by rw [hw];exact Go.World.ownsRow_nil _ _ _ _,fun i j e v he=>by simp at he,by rw [hw];exact .refl _ _⟩
  | some a=>exact (Tryz.slices_Clone_string_zero a cap κ.w).mono fun e w' ⟨v',he,ho,_,hb⟩=>⟨v',[],he,ho,fun i j e v he=>by simp at he,hb⟩
 ·obtain ⟨b,o,rfl,hc⟩:=h1 hn
  refine (Tryz.slices_Clone_string b o l.length cap (l.map fun x=>⟨x.toArray⟩) κ.w (by simp) (by omega) fun j hj=>?_).mono fun e w' ⟨v',he,ho,_,hb⟩=>⟨v',_,he,by simpa using ho,hfin _ ?_,hb⟩
  ·simp at hj
   obtain ⟨c,h1,h2⟩:=hc j _ (kC hj)
   rw [h1,yos h2]
   simp [kQ,hj]
  ·rfl
namespace Am
open Go Go.RowKit
theorem Sim.adopt {κ:K} {H:Hp} (S:Sim κ H) {b o:Nat} {ds:List V} {arr:Array Value} {t:TypeId} {fr:Nat × Nat} (hb:κ.w.heap[b]?=some (.cells arr t fr)) (hsz:o+ds.length≤arr.size)
  (hv:∀(j:Nat) v,ds[j]?=some v→VR κ v (arr.getD (o+j) undef)) (hfr:fr.2≤fr.1∨(arr.size≤fr.1∧t=5)) (hz:¬κ.fz b)
  (hno:∀id cs m e,H.get id=some (.cells cs m)→m≤e→e≤cs.length→(κ.pl id e).1≠b):
  ∃κ':K,κ'.w=κ.w∧κ.Le κ'∧Sim κ' (H.add (.cells ds ds.length))∧κ'.pl H.next ds.length=(b,o)∧κ'.ok H.next ds.length:=by
 let κ2:K:={ κ with pl:=fun k e=>if k=H.next then (b,o) else κ.pl k e,ok:=fun k e=>κ.ok k e∨(k=H.next∧e≤ds.length) }
 have plo:∀{k e},k≠H.next→κ2.pl k e=κ.pl k e:=fun h=>if_neg h
 have pln:∀{e},κ2.pl H.next e=(b,o):=if_pos rfl
 have le:κ.Le κ2:=⟨fun k e h=>⟨.inl h,plo (by have:=(S.ok k e h).1;omega)⟩,fun b h=>⟨h,rfl⟩,fun b h=>⟨h,rfl⟩,fun b h=>.inl h,fun b n h=>h,kG _,rfl,rfl,rfl,
  fun k h=>⟨h,fun e o=>o.elim id fun x=>by have:=(S.hole k h).1;omega⟩,rfl,fun b r h=>⟨r,h⟩⟩
 have gne:∀{k},k≠H.next→(H.add (.cells ds ds.length)).get k=H.get k:=fun h=>by simp [h]
 have geq:(H.add (.cells ds ds.length)).get H.next=some (.cells ds ds.length):=by simp
 refine ⟨κ2,rfl,le,⟨fun k e h=>?_,fun k h=>?_,Hp.add_lt S.lt _,S.fz,S.ic,fun k cs m h=>?_,fun k cs m h e h1 h2=>?_,fun k o' h=>?_,fun k k' e e' cs1 m1 cs2 m2 g1 g2 a1 a2 b1 b2 hp=>?_,fun k cs' m' e e' h a1 a2 b1 b2 hp=>?_,fun k k' es es' g1 g2 hp=>?_,S.tb.mono le⟩,pln,.inr ⟨rfl,kG _⟩⟩
 ·rcases h with h | ⟨rfl,h⟩
  ·obtain ⟨h1,h2⟩:=S.ok k e h
   exact ⟨by simp;omega,fun cs m hg=>h2 cs m (by rw [gne (by omega)] at hg;exact hg)⟩
  ·refine ⟨by simp,fun cs m hg=>?_⟩
   rw [geq] at hg;injection hg with hg;injection hg with x y;subst x;exact h
 ·obtain ⟨h1,h2⟩:=S.hole k h
  exact ⟨by simp;omega,by rw [gne (by omega)];exact h2⟩
 ·by_cases hk:k=H.next
  ·subst hk;rw [geq] at h;injection h with h;injection h with x y;subst x;subst y;exact kG _
  ·rw [gne hk] at h;exact S.le k cs m h
 ·by_cases hk:k=H.next
  ·subst hk;rw [geq] at h;injection h with h;injection h with x y;subst x;subst y
   have:e=ds.length:=by omega
   subst this
   exact ⟨⟨arr,t,fr,by rw [pln];exact hb,by rw [pln];exact hsz,fun j v _ hj=>by rw [pln];exact (hv j v hj).mono le,hfr⟩,by rw [pln];exact hz⟩
  ·rw [gne hk] at h
   obtain ⟨⟨arr0,t0,fr0,q1,q2,q3,q4⟩,q5⟩:=S.cells k cs m h e h1 h2
   exact ⟨⟨arr0,t0,fr0,by rw [plo hk];exact q1,by rw [plo hk];exact q2,fun j v hj hv=>by rw [plo hk];exact (q3 j v hj hv).mono le,q4⟩,by rw [plo hk];exact q5⟩
 ·by_cases hk:k=H.next
  ·subst hk;rw [geq] at h;injection h with h;cases h
  ·rw [gne hk] at h
   obtain ⟨⟨x,q1,q2⟩,q3⟩:=S.maps k o' h
   exact ⟨⟨x,by rw [plo hk];exact q1,q2.mono le⟩,by rw [plo hk];exact q3⟩
 ·by_cases hk:k=H.next <;> by_cases hk':k'=H.next
  ·rw [hk,hk']
  ·rw [gne hk'] at g2
   rw [plo hk'] at hp;subst hk;rw [pln] at hp
   exact absurd hp.symm (hno k' cs2 m2 e' g2 b1 b2)
  ·rw [gne hk] at g1
   rw [plo hk] at hp;subst hk';rw [pln] at hp
   exact absurd hp (hno k cs1 m1 e g1 a1 a2)
  ·rw [gne hk] at g1;rw [gne hk'] at g2
   rw [plo hk,plo hk'] at hp
   exact S.sep k k' e e' cs1 m1 cs2 m2 g1 g2 a1 a2 b1 b2 hp
 ·by_cases hk:k=H.next
  ·subst hk;rw [pln,pln]
  ·rw [gne hk] at h
   rw [plo hk,plo hk] at hp ⊢
   exact S.base k cs' m' e e' h a1 a2 b1 b2 hp
 ·by_cases hk:k=H.next
  ·subst hk;rw [geq] at g1;injection g1 with g1;cases g1
  ·by_cases hk':k'=H.next
   ·subst hk';rw [geq] at g2;injection g2 with g2;cases g2
   ·rw [gne hk] at g1;rw [gne hk'] at g2
    rw [plo hk,plo hk'] at hp
    exact S.sepm k k' es es' g1 g2 hp
theorem Sim.other {κ:K} {H:Hp} (S:Sim κ H) {b:Nat} {w':World} {arr:Array Value} {t:TypeId} {fr:Nat × Nat} (hb:κ.w.heap[b]?=some (.cells arr t fr))
  (hk:∀k,k≠b→k<κ.w.heap.size→w'.heap[k]?=κ.w.heap[k]?) (hn:∀k n,y3f κ.w k=some n→y3f w' k=some n) (hsz:κ.w.heap.size≤w'.heap.size)
  (hos:w'.os=κ.w.os) (hta:w'.tape=κ.w.tape) (hou:w'.output=κ.w.output) (hz:¬κ.fz b)
  (hno:∀id cs m e,H.get id=some (.cells cs m)→m≤e→e≤cs.length→(κ.pl id e).1≠b):
  κ.Le { κ with w:=w' }∧Sim { κ with w:=w' } H:=by
 have le:κ.Le { κ with w:=w' }:=⟨fun _ _ h=>⟨h,rfl⟩,fun k h=>⟨h,hk k (fun e=>hz (e▸h)) (S.fz k h)⟩,fun k h=>⟨h,hk k (fun e=>hz (e▸S.ic k h)) (S.fz k (S.ic k h))⟩,fun _ h=>.inl h,hn,hsz,hos,hta,hou,fun _ h=>⟨h,fun _ o=>o⟩,rfl,
  fun k r h=>⟨r,(hk k (fun e=>by subst e;rw [hb] at h;cases h) (lt_of_some h)).trans h⟩⟩
 refine ⟨le,⟨S.ok,S.hole,S.lt,fun k h=>Nat.lt_of_lt_of_le (S.fz k h) hsz,S.ic,S.le,fun id cs m hg e h1 h2=>?_,fun id o hg=>?_,S.sep,S.base,S.sepm,S.tb.mono le⟩⟩
 ·obtain ⟨⟨arr0,t0,fr0,q1,q2,q3,q4⟩,q5⟩:=S.cells id cs m hg e h1 h2
  exact ⟨⟨arr0,t0,fr0,(hk _ (hno id cs m e hg h1 h2) (lt_of_some q1)).trans q1,q2,fun j v a b=>(q3 j v a b).mono le,q4⟩,q5⟩
 ·obtain ⟨⟨x,q1,q2⟩,q3⟩:=S.maps id o hg
  exact ⟨⟨x,(hk _ (fun e=>by rw [e,hb] at q1;injection q1 with q1;subst q1;exact q2.not_cells) (lt_of_some q1)).trans q1,q2.mono le⟩,q3⟩
end Am
end Go.Proofs.YtikpijbeobeckaaGreatDoor
