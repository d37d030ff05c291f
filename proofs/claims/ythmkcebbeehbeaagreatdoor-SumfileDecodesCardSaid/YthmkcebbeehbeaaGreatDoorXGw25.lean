/- Part 25. -/
import Derived.Shelf.Spec.SlicesInsert
import Derived.Shelf.Spec.SlicesInsertGrow
import Derived.Test.YthmkcebbeehbeaaGreatDoorXGw21
import Derived.Test.YthmkcebbeehbeaaGreatDoorXGw24
set_option linter.unusedSimpArgs false
set_option linter.unusedVariables false
namespace Go.Proofs.YthmkcebbeehbeaaGreatDoor
open Am C
theorem yte (d:Nd) (hr:ya4 d=true) (w:Go.World) (ht:Pow w):
  Go.Calls Tryz.prog 179 #[.agg #[.int .i64 d.kind,.string ⟨d.fn.toArray⟩,.int .i64 d.copy,.string ⟨d.name.toArray⟩,.int .i64 d.n,.int .i64 d.cell]] w fun e w'=>e=.returned (.string ⟨(y5l d).toArray⟩)∧Go.RowKit.Below w.heap.size w w':=by
 obtain ⟨k1,k7,hcp,hn,hcell,hfn,hnm,hnn⟩:=(yc8 d).1 hr
 obtain ⟨k,fn,cp,nm,n,cl⟩:=d
 simp only at *
 have lfn:fn.length≤16:=by
  rcases hfn with ⟨a,b,c⟩ | ⟨a,b⟩
  ·subst b;simp
  ·exact yhx b
 have lnm:nm.length≤16:=by
  rcases hnm with ⟨a,b⟩ | ⟨a,b⟩
  ·exact yhx b
  ·subst b;simp
 have hcp':=of_decide_eq_true hcp
 have hn':=of_decide_eq_true hn
 have hcl:cl=-1∨(5≤k∧cl≠-1∧0≤cl∧cl≤268435456):=by
  rcases hcell with c | ⟨c,h⟩
  ·exact .inl c
  ·have:=of_decide_eq_true h
   exact .inr ⟨c,by omega,this⟩
 have hc0:cp=0∨0<cp:=by omega
 rcases (by omega:k=1∨k=2∨k=3∨k=4∨k=5∨k=6∨k=7) with rfl | rfl | rfl | rfl | rfl | rfl | rfl
 ·rcases hcl with rfl | hl
  ·rcases hc0 with rfl | hc
   ·exact ytw fn nm n lfn lnm hn' w ht
   ·exact ytv fn cp nm n lfn lnm hn' hc (by omega) w ht
  ·omega
 ·rcases hcl with rfl | hl
  ·rcases hc0 with rfl | hc
   ·exact ytu fn nm n lfn lnm hn' w ht
   ·exact ytt fn cp nm n lfn lnm hn' hc (by omega) w ht
  ·omega
 ·rcases hcl with rfl | hl
  ·rcases hc0 with rfl | hc
   ·exact yts fn nm n lfn lnm hn' w ht
   ·exact ytr fn cp nm n lfn lnm hn' hc (by omega) w ht
  ·omega
 ·rcases hcl with rfl | hl
  ·rcases hc0 with rfl | hc
   ·exact ytq fn nm n lfn lnm hn' w ht
   ·exact ytp fn cp nm n lfn lnm hn' hc (by omega) w ht
  ·omega
 ·obtain ⟨hf0,h0⟩:fn=[]∧cp=0:=by
   rcases hfn with ⟨a,b,c⟩ | ⟨a,b⟩
   ·exact ⟨b,c⟩
   ·exact absurd rfl a
  subst h0
  rcases hcl with rfl | hl
  ·exact yto fn nm n lfn lnm hn' hf0 w ht
  ·exact ytn fn nm n cl lfn lnm hn' hf0 hl.2.1 hl.2.2 w ht
 ·rcases hcl with rfl | hl
  ·rcases hc0 with rfl | hc
   ·exact ytm fn nm n lfn lnm hn' w ht
   ·exact ytk fn cp nm n lfn lnm hn' hc (by omega) w ht
  ·rcases hc0 with rfl | hc
   ·exact ytl fn nm n cl lfn lnm hn' hl.2.1 hl.2.2 w ht
   ·exact ytj fn cp nm n cl lfn lnm hn' hc (by omega) hl.2.1 hl.2.2 w ht
 ·rcases hcl with rfl | hl
  ·rcases hc0 with rfl | hc
   ·exact yti fn nm n lfn lnm hn' w ht
   ·exact ytg fn cp nm n lfn lnm hn' hc (by omega) w ht
  ·rcases hc0 with rfl | hc
   ·exact yth fn nm n cl lfn lnm hn' hl.2.1 hl.2.2 w ht
   ·exact ytf fn cp nm n cl lfn lnm hn' hc (by omega) hl.2.1 hl.2.2 w ht
theorem vr_nv {κ:K} {d:Nd} {c:Go.Value} (h:VR κ (nv d) c):c=.agg #[.int .i64 d.kind,.string ⟨d.fn.toArray⟩,.int .i64 d.copy,.string ⟨d.name.toArray⟩,.int .i64 d.n,.int .i64 d.cell]:=by
 unfold nv at h
 cases h with
 | agg _ cs hl hv=>
  have hl':cs.length=6:=hl.symm
  match cs,hl' with
  | [a0,a1,a2,a3,a4,a5],_=>
   have e0:=vr_i (hv 0 _ rfl)
   have e1:=vr_s (hv 1 _ rfl)
   have e2:=vr_i (hv 2 _ rfl)
   have e3:=vr_s (hv 3 _ rfl)
   have e4:=vr_i (hv 4 _ rfl)
   have e5:=vr_i (hv 5 _ rfl)
   simp at e0 e1 e2 e3 e4 e5
   subst e0 e1 e2 e3 e4 e5
   rfl
theorem write_ok (d:Nd) (hr:ya4 d=true) (H:Hp):AC Tryz.prog 179 [nv d] H (fun v H'=>v=.s (y5l d)∧H'=H):=by
 refine AC.belowS (by kernel_rfl) fun κ cs S r=>?_
 obtain ⟨a,rfl,ra⟩:=r.one'
 obtain rfl:=vr_nv ra
 exact ⟨_,fun κ'=>.s _,yte d hr κ.w (pow10_of S)⟩
def ydw (s:Str):Option Nd:=if (yc9 s).2=true∧ya4 (yc9 s).1=true∧y5l (yc9 s).1=s then some (yc9 s).1 else none
theorem yul (s:Str):(yc9 s).1.fn.length≤s.length∧(yc9 s).1.name.length≤s.length:=by
 have ht:∀(d:Nd) (r:Str),(yg1 d r).1.fn=d.fn∧((yg1 d r).1.name=d.name∨(yg1 d r).1.name.length≤r.length):=by
  intro d r
  cases r with
  | nil=>simp [yg1]
  | cons c r=>
   simp only [yg1]
   repeat' split
   all_goals simp
 have hm:∀(d:Nd) (r:Str),(yjx d r).1.fn=d.fn∧((yjx d r).1.name=d.name∨(yjx d r).1.name.length≤r.length):=by
  intro d r
  cases r with
  | nil=>simp [yjx]
  | cons c r=>
   have hs:=y98 r
   simp only [yjx]
   repeat' split
   ·simp
   ·have:=ht { d with copy:=(y90 (y5j r).1).1 } (y5j r).2
    refine ⟨this.1,this.2.imp id fun h=>?_⟩
    simp;omega
   ·exact ht _ _
 have hh:∀(cl:Int) (r:Str),(yfw cl r).1.fn.length≤r.length∧(yfw cl r).1.name.length≤r.length:=by
  intro cl r
  have hs:=y98 r
  simp only [yfw]
  split
  ·simp [Nd.zero];omega
  ·have:=hm { Nd.zero with fn:=(y5j r).1,cell:=cl } (y5j r).2
   refine ⟨by rw [this.1];exact hs.1,?_⟩
   rcases this.2 with h | h
   ·exact kU (Nat.le_of_eq (congrArg List.length h)) (by simp [Nd.zero])
   ·exact kU h hs.2
 simp only [yc9]
 repeat' split
 ·simp [Nd.zero]
 ·rename_i h1 h2
  have:=hh (y90 (s.drop ((Go.Lib.indexByte s 43).toNat+1))).1 (s.take (Go.Lib.indexByte s 43).toNat)
  simp at this
  omega
 ·exact hh _ _
theorem yic (s:Str) (hs:s.length≤9223372036854775806) (H:Hp):AC Tryz.prog yab [.s s] H (fun v H'=>v=rdV (ydw s)∧H'=H):=by
 have hfr:yey (rdV (ydw s)):=by
  unfold rdV;split <;> simp [nv,Nd.cs]
 have hl:=yul s
 refine AC.codeP y4p.at y4p.ok hfr fun hlt=>?_
 simp only [y4p]
 apply jA
 simp [y4p.r0]
 apply jA
 simp [y4p.r1]
 refine AC.fix (read_ok s hs _) ?_
 have hrd:ydw s=if (yc9 s).2=true∧ya4 (yc9 s).1=true∧y5l (yc9 s).1=s then some (yc9 s).1 else none:=rfl
 rw [hrd]
 clear hrd hfr
 generalize yc9 s=q at hl ⊢
 obtain ⟨⟨k,fn,cp,nm,n,cl⟩,ok⟩:=q
 simp only at hl ⊢
 simp [rkV,nv,Nd.cs]
 have e1:H.Ext (((H.add (.cells [.i .i64 0,.s [],.i .i64 0,.s [],.i .i64 0,.i .i64 0] 6)).add (.cells [.i .i64 0,.s [],.i .i64 0,.s [],.i .i64 0,.i .i64 0] 6)).upd (H.next+1) (.cells [.i .i64 k,.s fn,.i .i64 cp,.s nm,.i .i64 n,.i .i64 cl] 6)):=
  (((Hp.Ext.add hlt _).trans (.add (Hp.add_lt hlt _) _)).upd hlt (by omega) _)
 obtain ⟨X,hX⟩:∃X,X=((H.add (.cells [.i .i64 0,.s [],.i .i64 0,.s [],.i .i64 0,.i .i64 0] 6)).add (.cells [.i .i64 0,.s [],.i .i64 0,.s [],.i .i64 0,.i .i64 0] 6)).upd (H.next+1) (.cells [.i .i64 k,.s fn,.i .i64 cp,.s nm,.i .i64 n,.i .i64 cl] 6):=⟨_,rfl⟩
 have g2:X.get H.next=some (.cells [.i .i64 0,.s [],.i .i64 0,.s [],.i .i64 0,.i .i64 0] 6):=by rw [hX];simp
 have g4:X.get (H.next+1)=some (.cells [.i .i64 k,.s fn,.i .i64 cp,.s nm,.i .i64 n,.i .i64 cl] 6):=by rw [hX];simp
 rw [←hX] at e1 ⊢
 clear hX
 refine AX.seq (AX.test (!(ok&&ya4 ⟨k,fn,cp,nm,n,cl⟩&&decide (y5l ⟨k,fn,cp,nm,n,cl⟩=s))) [(2,.p (some (H.next,0,6))),(4,.p (some (H.next+1,0,6))),(23,.b (!(ok&&ya4 ⟨k,fn,cp,nm,n,cl⟩&&decide (y5l ⟨k,fn,cp,nm,n,cl⟩=s))))] ?_ rfl (fun hz=>jA ?_) (fun hz=>AX.skip ?_))
 ·by_cases b1:ok=true
  case neg=>simp [y4p.r2,b1]
  simp [y4p.r2,b1,g4]
  refine AC.fix (right_ok ⟨k,fn,cp,nm,n,cl⟩ (by simp only;omega) (by simp only;omega) _) ?_
  by_cases b2:ya4 ⟨k,fn,cp,nm,n,cl⟩=true
  case neg=>simp [b1,b2]
  simp [b1,b2,g4]
  refine AC.fix (write_ok ⟨k,fn,cp,nm,n,cl⟩ b2 _) ?_
  by_cases b3:y5l ⟨k,fn,cp,nm,n,cl⟩=s
  ·simp [b3]
  ·simp [b3,show (y5l ⟨k,fn,cp,nm,n,cl⟩ == s)=false by simpa using b3]
 ·simp [y4p.r3,g2]
  apply jD
  have hn:¬(ok=true∧ya4 ⟨k,fn,cp,nm,n,cl⟩=true∧y5l ⟨k,fn,cp,nm,n,cl⟩=s):=by
   rintro ⟨b1,b2,b3⟩;rw [b1,b2,decide_eq_true b3] at hz;cases hz
  rw [if_neg hn]
  simp [rdV,nv,Nd.cs,Nd.zero]
  exact ⟨e1.upd hlt (kF _) _,.refl _⟩
 have hn:ok=true∧ya4 ⟨k,fn,cp,nm,n,cl⟩=true∧y5l ⟨k,fn,cp,nm,n,cl⟩=s:=by
  simp only [Bool.not_eq_false',kE,decide_eq_true_eq] at hz
  exact ⟨hz.1.1,hz.1.2,hz.2⟩
 rw [if_pos hn]
 simp
 apply jA
 simp [y4p.r4,g2,g4]
 apply jD
 simp [rdV,nv,Nd.cs]
 exact ⟨e1.upd hlt (kF _) _,.refl _⟩
theorem yj1 {l:Str} {c:UInt8} (h:c∉l):Go.Lib.indexByte l c=-1:=by
 induction l with
 | nil=>rfl
 | cons b l ih=>
  simp only [kJ,not_or] at h
  have e:(b == c)=false:=by simpa using fun hh:b=c=>h.1 hh.symm
  simp [Go.Lib.indexByte,e,ih h.2]
theorem yj2 {l r:Str} {c:UInt8} (h:c∉l):Go.Lib.indexByte (l++c::r) c=l.length:=by
 induction l with
 | nil=>simp [Go.Lib.indexByte]
 | cons b l ih=>
  simp only [kJ,not_or] at h
  have e:(b == c)=false:=by simpa using fun hh:b=c=>h.1 hh.symm
  simp only [List.cons_append,Go.Lib.indexByte,e,ih h.2]
  have:((l.length:Int) == -1)=false:=by simp
  simp [this]
theorem yr0 {a b:Str} (w:Bool) (hw:yav (a++b)=w) (ha:a.all (inB w)=true) (hb:∀c r,b=c::r→inB w c=false):y5j (a++b)=(a,b):=by
 unfold y5j
 rw [hw]
 have:(a++b).takeWhile (inB w)=a∧(a++b).dropWhile (inB w)=b:=by
  have:=yef (p:=inB w) (l:=a++b) (i:=a.length) (by simpa using ha) (by simp) (fun x hx=>by
   rw [kW (kF _),Nat.sub_self] at hx
   cases b with
   | nil=>simp at hx
   | cons c r=>simp at hx;subst hx;exact hb _ _ rfl)
  simpa using this
 rw [this.1,this.2]
theorem yhf {s:Str} (h:y9g s=true):s.length≤16∧yav s=true∧s.all (inB true)=true∧s≠[]:=by
 unfold y9g at h;simp only [kE,decide_eq_true_eq] at h
 refine ⟨h.1.1,h.1.2,h.2,fun e=>?_⟩
 subst e;exact absurd h.1.2 (by decide)
theorem yiv {a b:Str} (h:a≠[]):yav (a++b)=yav a:=by
 cases a with
 | nil=>exact absurd rfl h
 | cons c r=>rfl
theorem yf2 {a b:Str} (h:y9g a=true) (hb:∀c r,b=c::r→inB true c=false):y5j (a++b)=(a,b):=by
 obtain ⟨_,h2,h3,h4⟩:=yhf h
 exact yr0 true (by rw [yiv h4,h2]) h3 hb
theorem yjg (n:Nat):(y7p n).all ygw=true:=by
 induction n using Nat.strongRecOn with
 | ind n ih=>
  have hd:ygw (dgB n)=true:=by simp [ygw,ygc];omega
  by_cases h:n<10
  ·rw [yao h];simp [hd]
  ·rw [yft h,List.all_append,ih (n / 10) (by omega)];simp [hd]
theorem ymu (n:Nat):y7p n≠[]:=by
 by_cases h:n<10
 ·rw [yao h];simp
 ·rw [yft h];simp
theorem ytx (n:Nat):yav (y7p n)=false:=by
 have h:=yjg n
 have h2:=ymu n
 cases hd:y7p n with
 | nil=>exact absurd hd h2
 | cons c r=>
  rw [hd] at h
  simp only [List.all_cons,kE] at h
  show yl6 c=false
  cases hl:yl6 c with
  | false=>rfl
  | true=>rw [yw5 c hl] at h;exact absurd h.1 (by decide)
theorem ykf:inB false=ygw:=by funext c;simp [inB]
theorem yjt {n:Nat} {b:Str} (hb:∀c r,b=c::r→ygw c=false):y5j (y7p n++b)=(y7p n,b):=
 yr0 false (by rw [yiv (ymu n),ytx]) (by rw [ykf];exact yjg n) (by rw [ykf];exact hb)
theorem ypa (l:Str) (c:UInt8):yhp (l++[c])=10*yhp l+(c.toNat-48):=by unfold yhp;rw [List.foldl_append];rfl
theorem valD_dec (n:Nat):yhp (y7p n)=n:=by
 induction n using Nat.strongRecOn with
 | ind n ih=>
  by_cases h:n<10
  ·rw [yao h]
   show 10*0+((dgB n).toNat-48)=n
   rw [ygc];omega
  ·rw [yft h,ypa,ih (n / 10) (by omega),ygc];omega
theorem yw6 (n:Nat) (h0:0<n):(y7p n)[0]?≠some 48:=by
 induction n using Nat.strongRecOn with
 | ind n ih=>
  by_cases h:n<10
  ·rw [yao h]
   intro hh;simp at hh
   have:=ygc n
   rw [hh] at this
   have e:(48:UInt8).toNat=48:=rfl
   omega
  ·rw [yft h,kQ (List.length_pos_iff.2 (ymu _))]
   exact ih (n / 10) (by omega) (by omega)
theorem yf5 {n:Nat} (h:n≤268435456):y90 (y7p n)=(n,0):=by
 have hz:¬((y7p n)[0]?=some 48∧1<(y7p n).length):=by
  rintro ⟨h1,h2⟩
  rcases Nat.eq_zero_or_pos n with h0 | h0
  ·subst h0;rw [yao (by omega)] at h2;simp at h2
  ·exact yw6 n h0 h1
 unfold y90
 rw [if_neg (ymu n),if_neg (by rw [yjg];simp),if_neg hz,valD_dec,if_neg (by omega)]
theorem yo4 {s:Str} (h:s.all (inB true)=true):(43:UInt8)∉s:=fun hm=>by
 have:=List.all_eq_true.1 h _ hm
 exact absurd this (by decide)
theorem yrh (n:Nat):(43:UInt8)∉y7p n:=fun hm=>by
 have:=List.all_eq_true.1 (yjg n) _ hm
 exact absurd this (by decide)
def ye7 (k:Int):UInt8:=if k=1 then 46 else if k=2 then 36 else if k=3 then 64 else if k=4 then 40 else if k=6 then 37 else 35
def ydt (d:Nd):Str:=if d.kind=4 then [41] else if yl4 d.kind then y7p d.n.toNat else d.name
theorem yqd {d:Nd} (h:RightN d) (hk:d.kind≠5):y8h d=d.fn++(y76 d.copy++ye7 d.kind::ydt d):=by
 have h1:=h.k1;have h7:=h.k7
 obtain ⟨k,fn,cp,nm,n,cl⟩:=d
 simp only at *
 rcases (by omega:k=1∨k=2∨k=3∨k=4∨k=6∨k=7) with rfl | rfl | rfl | rfl | rfl | rfl <;> rfl
theorem yit {c:Int}:∀x r,y8a c=x::r→x=43:=by
 intro x r h;unfold y8a at h;split at h
 ·simp at h;exact h.1.symm
 ·cases h
theorem yq6 {d:Nd} (h:RightN d):0≤d.copy∧d.copy≤268435456:=of_decide_eq_true h.cp
theorem num_fn {d:Nd} (h:RightN d):0≤d.n∧d.n≤268435456:=of_decide_eq_true h.n
theorem yv6 (c:Int):(43:UInt8)∉y76 c:=by
 unfold y76;split
 ·simp only [kJ,not_or];exact ⟨by decide,yrh _⟩
 ·simp
theorem ysf {d:Nd} (h:RightN d):d.name=[]∨y9g d.name=true:=h.nm.elim (fun x=>.inr x.2) (fun x=>.inl x.2)
theorem yv5 {d:Nd} (h:RightN d):(43:UInt8)∉d.name:=by
 rcases ysf h with e | e
 ·rw [e];simp
 ·exact yo4 (yhf e).2.2.1
theorem no43_fn {d:Nd} (h:RightN d):(43:UInt8)∉d.fn:=by
 rcases h.fn with ⟨_,e,_⟩ | ⟨_,e⟩
 ·rw [e];simp
 ·exact yo4 (yhf e).2.2.1
theorem yv4 {d:Nd} (h:RightN d):(43:UInt8)∉ydt d:=by
 unfold ydt;split
 ·decide
 ·split
  ·exact yrh _
  ·exact yv5 h
theorem yv7 {d:Nd} (h:RightN d):(43:UInt8)∉y8h d:=by
 by_cases hk:d.kind=5
 ·have:y8h d=d.name:=by unfold y8h;simp [hk]
  rw [this];exact yv5 h
 ·rw [yqd h hk]
  simp only [kY,kJ,not_or]
  refine ⟨no43_fn h,yv6 _,?_,yv4 h⟩
  unfold ye7;repeat' split
  all_goals decide
theorem kind5 {d:Nd} (h:RightN d) (hk:d.kind=5):d.fn=[]∧d.copy=0∧y9g d.name=true∧d.n=0:=by
 rcases h.fn with ⟨_,a,b⟩ | ⟨a,_⟩
 ·refine ⟨a,b,?_,?_⟩
  ·rcases h.nm with ⟨_,x⟩ | ⟨x,_⟩
   ·exact x
   ·rw [hk] at x;exact absurd x (by decide)
  ·rcases h.nn with ⟨x,_⟩ | ⟨_,x⟩
   ·rw [hk] at x;exact absurd x (by decide)
   ·exact x
 ·exact absurd hk a
theorem kindN {d:Nd} (h:RightN d) (hk:d.kind≠5):y9g d.fn=true:=by
 rcases h.fn with ⟨x,_⟩ | ⟨_,x⟩
 ·exact absurd x hk
 ·exact x
theorem ylu (cp:Int) (m:UInt8) (r:Str) (hm:inB true m=false):∀c q,y76 cp++m::r=c::q→inB true c=false:=by
 intro c q h;unfold y76 at h;split at h
 ·simp at h;rw [←h.1];decide
 ·simp at h;rw [←h.1];exact hm
theorem yfq {k:Int}:inB true (ye7 k)=false∧ygw (ye7 k)=false∧ye7 k≠126∧ye7 k≠43:=by
 unfold ye7;repeat' split
 all_goals decide
theorem tail_ne {d:Nd} (h:RightN d):d.kind=1∨d.kind=6→y9g d.name=true:=fun hk=>by
 rcases h.nm with ⟨_,e⟩ | ⟨e,_⟩
 ·exact e
 ·rcases hk with hk | hk <;> (rw [hk] at e;exact absurd e (by decide))
theorem ynr {d:Nd} (h:RightN d) (hk:d.kind≠5):yg1 ⟨0,d.fn,d.copy,[],0,d.cell⟩ (ye7 d.kind::ydt d)=(d,true):=by
 have h1:=h.k1;have h7:=h.k7;have hn:=num_fn h
 have hnm:=h.nm;have hnn:=h.nn
 obtain ⟨k,fn,cp,nm,n,cl⟩:=d
 simp only at *
 have rd:y90 (y7p n.toNat)=(n.toNat,0):=yf5 (by omega)
 have en:((n.toNat:Nat):Int)=n:=by omega
 rcases (by omega:k=1∨k=2∨k=3∨k=4∨k=6∨k=7) with rfl | rfl | rfl | rfl | rfl | rfl <;>
  simp [ye0,yl4] at hnm hnn <;>
  simp [yg1,ye7,ydt,yrl,Go.Lib.indexByte,yl4,rd,en,hnm,hnn]
theorem yph {d:Nd} (h:RightN d) (hk:d.kind≠5):yjx ⟨0,d.fn,0,[],0,d.cell⟩ (y76 d.copy++ye7 d.kind::ydt d)=(d,true):=by
 have hc:=yq6 h
 have ht:=ynr h hk
 by_cases h0:0<d.copy
 ·have e:y76 d.copy=126::y7p d.copy.toNat:=by unfold y76;rw [if_pos h0]
  have es:y5j (y7p d.copy.toNat++ye7 d.kind::ydt d)=(y7p d.copy.toNat,ye7 d.kind::ydt d):=yjt fun c r hh=>by injection hh with hh _;rw [←hh];exact yfq.2.1
  rw [e,List.cons_append]
  simp only [yjx,if_true,es,yf5 (show d.copy.toNat≤268435456 by omega)]
  rw [if_neg (by simp),show ((d.copy.toNat:Nat):Int)=d.copy by omega]
  exact ht
 ·have e:y76 d.copy=[]:=by unfold y76;rw [if_neg h0]
  have e0:d.copy=0:=by omega
  rw [e,List.nil_append]
  simp only [yjx]
  rw [if_neg yfq.2.2.1]
  rw [e0] at ht
  exact ht
theorem yns {d:Nd} (h:RightN d):yfw d.cell (y8h d)=(d,true):=by
 by_cases hk:d.kind=5
 ·obtain ⟨a,b,c,e⟩:=kind5 h hk
  have eb:y8h d=d.name++[]:=by unfold y8h;simp [hk]
  have es:=yf2 (b:=[]) c (by simp)
  rw [eb]
  simp only [yfw,es]
  rw [if_pos trivial]
  obtain ⟨k,fn,cp,nm,n,cl⟩:=d
  simp only at *
  subst hk a b e;rfl
 ·have es:y5j (y8h d)=(d.fn,y76 d.copy++ye7 d.kind::ydt d):=by
   rw [yqd h hk]
   exact yf2 (kindN h hk) (ylu _ _ _ yfq.1)
  simp only [yfw,es]
  rw [if_neg (by simp)]
  exact yph h hk
theorem yjy {d:Nd} (h:RightN d):yc9 (y5l d)=(d,true):=by
 have hb:=yv7 h
 have hh:=yns h
 unfold yc9 y5l
 by_cases hc:0≤d.cell
 ·have hc2:d.cell≤268435456:=by
   rcases h.cell with c | ⟨_,c⟩
   ·omega
   ·exact (of_decide_eq_true c).2
  have e:y8a d.cell=43::y7p d.cell.toNat:=by unfold y8a;rw [if_pos hc]
  rw [e,yj2 hb]
  have e1:(y8h d++43::y7p d.cell.toNat).drop ((y8h d).length+1)=y7p d.cell.toNat:=by
   rw [←List.drop_drop];simp
  have e2:(y8h d++43::y7p d.cell.toNat).take (y8h d).length=y8h d:=by simp
  simp only [Int.toNat_natCast,e1,e2,yf5 (show d.cell.toNat≤268435456 by omega)]
  rw [if_pos (by omega),if_neg (by simp),show ((d.cell.toNat:Nat):Int)=d.cell by omega]
  exact hh
 ·have e:y8a d.cell=[]:=by unfold y8a;rw [if_neg hc]
  have e1:d.cell=-1:=by
   rcases h.cell with c | ⟨_,c⟩
   ·exact c
   ·have:=of_decide_eq_true c;omega
  rw [e,List.append_nil,yj1 hb]
  simp only
  rw [if_neg (by omega),←e1]
  exact hh
theorem ylo {d:Nd} (h:RightN d):ymj (y8a d.cell)=d.cell:=by
 unfold y8a
 by_cases hc:0≤d.cell
 ·have hc2:d.cell≤268435456:=by
   rcases h.cell with c | ⟨_,c⟩
   ·omega
   ·exact (of_decide_eq_true c).2
  rw [if_pos hc]
  simp only [ymj,if_true,yf5 (show d.cell.toNat≤268435456 by omega)]
  omega
 ·rw [if_neg hc]
  simp only [ymj]
  rcases h.cell with c | ⟨_,c⟩
  ·exact c.symm
  ·have:=of_decide_eq_true c;omega
theorem ymy {d:Nd} (w:Bool):∀c r,y8a d.cell=c::r→inB w c=false:=fun c r h=>by
 rw [yit c r h];cases w <;> decide
theorem yuu {d:Nd} (h:RightN d):yl3 (y5l d)=if d.kind=5 then ⟨d.name,0,[],[],d.cell⟩ else ⟨d.fn,d.copy.toNat,[ye7 d.kind],if d.kind=4 then [] else ydt d,d.cell⟩:=by
 by_cases hk:d.kind=5
 ·obtain ⟨a,b,c,e⟩:=kind5 h hk
  have eb:y8h d=d.name:=by unfold y8h;simp [hk]
  have es:y5j (y5l d)=(d.name,y8a d.cell):=by
   unfold y5l;rw [eb];exact yf2 c (ymy true)
  rw [if_pos hk]
  have ea:yfb (y8a d.cell)=(0,y8a d.cell):=by
   cases hh:y8a d.cell with
   | nil=>rfl
   | cons x r=>
    have:=yit x r hh;subst this
    simp only [yfb];rw [if_neg (by decide)]
  have eb2:yed (y8a d.cell)=([],[],y8a d.cell):=by
   cases hh:y8a d.cell with
   | nil=>rfl
   | cons x r=>
    have:=yit x r hh;subst this
    simp [yed]
  simp only [yl3,es,ea,eb2,ylo h]
 ·rw [if_neg hk]
  have hc:=yq6 h
  have es:y5j (y5l d)=(d.fn,y76 d.copy++ye7 d.kind::(ydt d++y8a d.cell)):=by
   unfold y5l;rw [yqd h hk,kV,kV,List.cons_append]
   exact yf2 (kindN h hk) (ylu _ _ _ yfq.1)
  have ea:yfb (y76 d.copy++ye7 d.kind::(ydt d++y8a d.cell))=(d.copy.toNat,ye7 d.kind::(ydt d++y8a d.cell)):=by
   by_cases h0:0<d.copy
   ·have e:y76 d.copy=126::y7p d.copy.toNat:=by unfold y76;rw [if_pos h0]
    have es:y5j (y7p d.copy.toNat++ye7 d.kind::(ydt d++y8a d.cell))=(y7p d.copy.toNat,ye7 d.kind::(ydt d++y8a d.cell)):=yjt fun c r hh=>by injection hh with hh _;rw [←hh];exact yfq.2.1
    rw [e,List.cons_append]
    simp only [yfb,if_true,es,yf5 (show d.copy.toNat≤268435456 by omega)]
   ·have e:y76 d.copy=[]:=by unfold y76;rw [if_neg h0]
    have e0:d.copy.toNat=0:=by omega
    rw [e,List.nil_append,e0]
    simp only [yfb]
    rw [if_neg yfq.2.2.1]
  have eb:yed (ye7 d.kind::(ydt d++y8a d.cell))=([ye7 d.kind],if d.kind=4 then [] else ydt d,y8a d.cell):=by
   simp only [yed]
   rw [if_neg yfq.2.2.2]
   by_cases h4:d.kind=4
   ·have ec:y8a d.cell=[]:=by
     rcases h.cell with c | ⟨c,_⟩
     ·rw [c];rfl
     ·omega
    have et:ydt d=[41]:=by unfold ydt;rw [if_pos h4]
    rw [ec,et,if_pos h4,show ye7 d.kind=40 by rw [h4];rfl]
    decide
   ·rw [if_neg h4]
    have hm:ye7 d.kind≠40:=by
     have h1:=h.k1;have h7:=h.k7
     rcases (by omega:d.kind=1∨d.kind=2∨d.kind=3∨d.kind=6∨d.kind=7) with e | e | e | e | e <;> (rw [e];decide)
    rw [if_neg (fun x=>hm x.1)]
    have:y5j (ydt d++y8a d.cell)=(ydt d,y8a d.cell):=by
     unfold ydt;rw [if_neg h4]
     split
     ·exact yjt (by have:=ymy (d:=d) false;rw [ykf] at this;exact this)
     ·rename_i hn
      refine yf2 (tail_ne h ?_) (ymy true)
      have h1:=h.k1;have h7:=h.k7
      simp [yl4] at hn;omega
    rw [this]
  simp only [yl3,es,ea,eb,ylo h]
theorem ysq {d:Nd} (h:RightN d):d∈yhl (y5l d)∧ysj (y5l d) d=true:=by
 have hp:=yuu h
 have h1:=h.k1;have h7:=h.k7;have hn:=num_fn h;have hc:=yq6 h
 have hnm:=h.nm;have hnn:=h.nn;have hcl:=h.cell
 have h5:d.kind=5→_:=kind5 h
 have hr:=(yc8 d).2 h
 refine ⟨?_,?_⟩
 ·unfold yhl
  rw [hp]
  obtain ⟨k,fn,cp,nm,n,cl⟩:=d
  simp only at *
  have rd:y90 (y7p n.toNat)=(n.toNat,0):=yf5 (by omega)
  have en:((n.toNat:Nat):Int)=n:=by omega
  have ec:((cp.toNat:Nat):Int)=cp:=by omega
  rcases (by omega:k=1∨k=2∨k=3∨k=4∨k=5∨k=6∨k=7) with rfl | rfl | rfl | rfl | rfl | rfl | rfl <;>
   simp [ye0,yl4] at hnm hnn hcl h5 <;>
   simp [ydt,yl4,rd,en,ec,hnm,hnn,hcl,h5]
 ·unfold ysj
  rw [hr,hp]
  by_cases hk:d.kind=5 <;> simp [hk]
theorem yht (s:Str):yg2 s=ydw s:=by
 unfold ydw
 by_cases hc:(yc9 s).2=true∧ya4 (yc9 s).1=true∧y5l (yc9 s).1=s
 ·rw [if_pos hc]
  obtain ⟨_,h2,h3⟩:=hc
  have hR:=(yc8 _).1 h2
  have:=ysq hR
  rw [h3] at this
  unfold yg2
  obtain ⟨d,hd⟩:∃d,(yhl s).find? (ysj s)=some d:=by
   cases hf:(yhl s).find? (ysj s) with
   | some d=>exact ⟨d,rfl⟩
   | none=>exact absurd this.2 (List.find?_eq_none.1 hf _ this.1)
  rw [hd]
  have hfit:=List.find?_some hd
  simp only [ysj,kE,decide_eq_true_eq] at hfit
  have k1:=yjy ((yc8 _).1 hfit.1.1)
  rw [hfit.1.2] at k1
  rw [k1]
 ·rw [if_neg hc]
  cases hf:yg2 s with
  | none=>rfl
  | some d=>
   have hfit:=List.find?_some hf
   simp only [ysj,kE,decide_eq_true_eq] at hfit
   have k1:=yjy ((yc8 _).1 hfit.1.1)
   rw [hfit.1.2] at k1
   exact absurd ⟨by rw [k1],by rw [k1];exact hfit.1.1,by rw [k1];exact hfit.1.2⟩ hc
section
open Go Go.RowKit
theorem Am.AC.row {P:Program} {f:FuncId} {args:List V} {H:Hp} {es:List (List V)} {T sz:Nat} (hok:okFn P f=true) (hes:∀e∈es,e.length=sz)
  (h:∀(κ:K) (cs:List Value),Sim κ H→VRs κ args cs→∃cv:Nat→Nat→Value,(∀(κ':K) (i j:Nat) e v,es[i]?=some e→e[j]?=some v→VR κ' v (cv i j))∧
   Calls P f cs.toArray κ.w (fun e w'=>∃v' xs,e=.returned v'∧w'.ownsRow κ.w.heap.size T sz v' es.length xs∧(∀(i j:Nat) e v,es[i]?=some e→e[j]?=some v→xs[i*sz+j]?=some (cv i j))∧RowKit.Below κ.w.heap.size κ.w w')):
  AC P f args H (fun r H'=>r=.fs es∧H'=H):=by
 refine ⟨hok,fun κ cs S r=>?_⟩
 obtain ⟨cv,hv,hc⟩:=h κ cs S r
 refine hc.mono fun e w' ⟨v',xs,he,ho,hx,hb⟩=>?_
 obtain ⟨hlen,⟨rfl,h0⟩ | ⟨g,cap,cur,rfl,hg,hgb,hcap,hmax,hsz,htake⟩⟩:=ho
 ·have hnil:es=[]:=List.length_eq_zero_iff.1 h0
  subst hnil
  exact ⟨{ κ with w:=w' },.fs [],.slice none 0 0,H,he,rfl,K.below_le S hb,S.below hb,.fs (κ:={ κ with w:=w' }) [] 0 sz 0 0 none (fun _ _=>undef) (kF _) (fun e h=>by simp at h) (fun _=>rfl) (fun h=>absurd rfl h) (fun i j e v h=>by simp at h) (fun i j e v h=>by simp at h),rfl,rfl⟩
 ·have S':=S.below hb
  have le:=K.below_le S hb
  let κ2:K:={ κ with w:=w',fz:=fun b=>κ.fz b∨b=g,ic:=fun b=>κ.ic b∨b=g }
  have gl:g<w'.heap.size:=lt_of_some hgb
  have le2:κ.Le κ2:=⟨le.ok,fun b h=>⟨.inl h,(le.fz b h).2⟩,fun b h=>⟨.inl h,(le.ic b h).2⟩,fun b h=>h.elim .inl fun h=>.inr (.inl (by rw [h];exact hg)),le.n,le.size,le.os,le.tape,le.output,le.hole,le.base,le.lps⟩
  have le3:K.Le { κ with w:=w' } κ2:=⟨fun _ _ h=>⟨h,rfl⟩,fun _ h=>⟨.inl h,rfl⟩,fun _ h=>⟨.inl h,rfl⟩,fun b h=>h.elim .inl fun h=>.inr (.inr (by subst h;intro hf;have:=S.fz _ hf;omega)),fun _ _ h=>h,kF _,rfl,rfl,rfl,fun _ h=>⟨h,fun _ o=>o⟩,rfl,fun _ r h=>⟨r,h⟩⟩
  have plt:∀{id e cs},Placed κ id e cs→(κ.pl id e).1<κ.w.heap.size:=fun ⟨⟨arr,t,fr,hb,_⟩,_⟩=>lt_of_some hb
  refine ⟨κ2,.fs es,_,H,he,rfl,le2,⟨S'.ok,S'.hole,S'.lt,fun b h=>h.elim (S'.fz b) fun h=>by rw [h];exact gl,fun b h=>h.elim (fun h=>.inl (S'.ic b h)) .inr,S'.le,fun id cs m hm e h1 h2=>?_,fun id o ho=>?_,S'.sep,S'.base,S'.sepm,S'.tb.mono le3⟩,?_,rfl,rfl⟩
  ·have P0:=S.cells id cs m hm e h1 h2
   have hlt:=plt P0
   obtain ⟨⟨arr,t,fr,hb',hs,hv',hf⟩,hz⟩:=S'.cells id cs m hm e h1 h2
   refine ⟨⟨arr,t,fr,hb',hs,fun j v a b=>(hv' j v a b).mono le3,hf⟩,?_⟩
   rintro (h | h)
   ·exact hz h
   ·have:(κ.pl id e).1=g:=h
    omega
  ·obtain ⟨⟨x0,hb0,_⟩,_⟩:=S.maps id o ho
   obtain ⟨⟨x,hb',ho'⟩,hz⟩:=S'.maps id o ho
   refine ⟨⟨x,hb',ho'.mono le3⟩,?_⟩
   rintro (h | h)
   ·exact hz h
   ·have h1:(κ.pl id 0).1=g:=h
    have:=lt_of_some hb0
    omega
  ·refine .fs (κ:=κ2) es cap sz g 0 (some ⟨g,0,none⟩) cv hcap hes (fun h=>by cases h) (fun _=>⟨rfl,.inr rfl⟩) (fun i j e v hi hj=>?_) (fun i j e v hi hj=>hv κ2 i j e v hi hj)
   have h1:=hx i j e v hi hj
   rw [←htake,km] at h1
   split at h1
   ·show w'.cell? ⟨g,0+i*sz+j,none⟩=some (cv i j)
    simp only [World.cell?,hgb,Nat.zero_add]
    rw [←Array.getElem?_toList]
    exact h1
   ·cases h1
end
theorem yuc (l:List Str):∀e∈l.map (fun x=>[V.s x]),e.length=1:=fun e he=>by
 obtain ⟨x,_,rfl⟩:=List.mem_map.1 he;rfl
theorem ns_len (l:List Nat):∀e∈l.map (fun n=>[V.i .i64 (n:Nat)]),e.length=1:=fun e he=>by
 obtain ⟨x,_,rfl⟩:=List.mem_map.1 he;rfl
namespace Am
open Go Go.RowKit
theorem Sim.adopt {κ:K} {H:Hp} (S:Sim κ H) {b o:Nat} {ds:List V} {arr:Array Value} {t:TypeId} {fr:Nat × Nat} (hb:κ.w.heap[b]?=some (.cells arr t fr)) (hsz:o+ds.length≤arr.size)
  (hv:∀(j:Nat) v,ds[j]?=some v→VR κ v (arr.getD (o+j) undef)) (hfr:fr.2≤fr.1∨arr.size<0) (hz:¬κ.fz b)
  (hno:∀id cs m e,H.get id=some (.cells cs m)→m≤e→e≤cs.length→(κ.pl id e).1≠b):
  ∃κ':K,κ'.w=κ.w∧κ.Le κ'∧Sim κ' (H.add (.cells ds ds.length))∧κ'.pl H.next ds.length=(b,o)∧κ'.ok H.next ds.length:=by
 let κ2:K:={ κ with pl:=fun k e=>if k=H.next then (b,o) else κ.pl k e,ok:=fun k e=>κ.ok k e∨(k=H.next∧e≤ds.length) }
 have plo:∀{k e},k≠H.next→κ2.pl k e=κ.pl k e:=fun h=>if_neg h
 have pln:∀{e},κ2.pl H.next e=(b,o):=if_pos rfl
 have le:κ.Le κ2:=⟨fun k e h=>⟨.inl h,plo (by have:=(S.ok k e h).1;omega)⟩,fun b h=>⟨h,rfl⟩,fun b h=>⟨h,rfl⟩,fun b h=>.inl h,fun b n h=>h,kF _,rfl,rfl,rfl,
  fun k h=>⟨h,fun e o=>o.elim id fun x=>by have:=(S.hole k h).1;omega⟩,rfl,fun b r h=>⟨r,h⟩⟩
 have gne:∀{k},k≠H.next→(H.add (.cells ds ds.length)).get k=H.get k:=fun h=>by simp [h]
 have geq:(H.add (.cells ds ds.length)).get H.next=some (.cells ds ds.length):=by simp
 refine ⟨κ2,rfl,le,⟨fun k e h=>?_,fun k h=>?_,Hp.add_lt S.lt _,S.fz,S.ic,fun k cs m h=>?_,fun k cs m h e h1 h2=>?_,fun k o' h=>?_,fun k k' e e' cs1 m1 cs2 m2 g1 g2 a1 a2 b1 b2 hp=>?_,fun k cs' m' e e' h a1 a2 b1 b2 hp=>?_,fun k k' es es' g1 g2 hp=>?_,S.tb.mono le⟩,pln,.inr ⟨rfl,kF _⟩⟩
 ·rcases h with h | ⟨rfl,h⟩
  ·obtain ⟨h1,h2⟩:=S.ok k e h
   exact ⟨by simp;omega,fun cs m hg=>h2 cs m (by rw [gne (by omega)] at hg;exact hg)⟩
  ·refine ⟨by simp,fun cs m hg=>?_⟩
   rw [geq] at hg;injection hg with hg;injection hg with x y;subst x;exact h
 ·obtain ⟨h1,h2⟩:=S.hole k h
  exact ⟨by simp;omega,by rw [gne (by omega)];exact h2⟩
 ·by_cases hk:k=H.next
  ·subst hk;rw [geq] at h;injection h with h;injection h with x y;subst x;subst y;exact kF _
  ·rw [gne hk] at h;exact S.le k cs m h
 ·by_cases hk:k=H.next
  ·subst hk;rw [geq] at h;injection h with h;injection h with x y;subst x;subst y
   have:e=ds.length:=by omega
   subst this
   exact ⟨⟨arr,t,fr,by rw [pln];exact hb,by rw [pln];exact hsz,fun j v _ hj=>by rw [pln];exact (hv j v hj).mono le,hfr⟩,by rw [pln];exact hz⟩
  ·rw [gne hk] at h
   obtain ⟨⟨arr0,t0,fr0,q1,q2,q3,q4⟩,q5⟩:=S.cells k cs m h e h1 h2
   exact ⟨⟨arr0,t0,fr0,by rw [plo hk];exact q1,by rw [plo hk];exact q2,fun j v hj hv=>by rw [plo hk];exact (q3 j v hj hv).mono le,q4⟩,by rw [plo hk];exact q5⟩
 ·by_cases hk:k=H.next
  ·subst hk;rw [geq] at h;injection h with h;cases h
  ·rw [gne hk] at h
   obtain ⟨⟨x,q1,q2⟩,q3⟩:=S.maps k o' h
   exact ⟨⟨x,by rw [plo hk];exact q1,q2.mono le⟩,by rw [plo hk];exact q3⟩
 ·by_cases hk:k=H.next <;> by_cases hk':k'=H.next
  ·rw [hk,hk']
  ·rw [gne hk'] at g2
   rw [plo hk'] at hp;subst hk;rw [pln] at hp
   exact absurd hp.symm (hno k' cs2 m2 e' g2 b1 b2)
  ·rw [gne hk] at g1
   rw [plo hk] at hp;subst hk';rw [pln] at hp
   exact absurd hp (hno k cs1 m1 e g1 a1 a2)
  ·rw [gne hk] at g1;rw [gne hk'] at g2
   rw [plo hk,plo hk'] at hp
   exact S.sep k k' e e' cs1 m1 cs2 m2 g1 g2 a1 a2 b1 b2 hp
 ·by_cases hk:k=H.next
  ·subst hk;rw [pln,pln]
  ·rw [gne hk] at h
   rw [plo hk,plo hk] at hp ⊢
   exact S.base k cs' m' e e' h a1 a2 b1 b2 hp
 ·by_cases hk:k=H.next
  ·subst hk;rw [geq] at g1;injection g1 with g1;cases g1
  ·by_cases hk':k'=H.next
   ·subst hk';rw [geq] at g2;injection g2 with g2;cases g2
   ·rw [gne hk] at g1;rw [gne hk'] at g2
    rw [plo hk,plo hk'] at hp
    exact S.sepm k k' es es' g1 g2 hp
theorem Sim.other {κ:K} {H:Hp} (S:Sim κ H) {b:Nat} {w':World} {arr:Array Value} {t:TypeId} {fr:Nat × Nat} (hb:κ.w.heap[b]?=some (.cells arr t fr))
  (hk:∀k,k≠b→k<κ.w.heap.size→w'.heap[k]?=κ.w.heap[k]?) (hn:∀k n,y5t κ.w k=some n→y5t w' k=some n) (hsz:κ.w.heap.size≤w'.heap.size)
  (hos:w'.os=κ.w.os) (hta:w'.tape=κ.w.tape) (hou:w'.output=κ.w.output) (hz:¬κ.fz b)
  (hno:∀id cs m e,H.get id=some (.cells cs m)→m≤e→e≤cs.length→(κ.pl id e).1≠b):
  κ.Le { κ with w:=w' }∧Sim { κ with w:=w' } H:=by
 have le:κ.Le { κ with w:=w' }:=⟨fun _ _ h=>⟨h,rfl⟩,fun k h=>⟨h,hk k (fun e=>hz (e▸h)) (S.fz k h)⟩,fun k h=>⟨h,hk k (fun e=>hz (e▸S.ic k h)) (S.fz k (S.ic k h))⟩,fun _ h=>.inl h,hn,hsz,hos,hta,hou,fun _ h=>⟨h,fun _ o=>o⟩,rfl,
  fun k r h=>⟨r,(hk k (fun e=>by subst e;rw [hb] at h;cases h) (lt_of_some h)).trans h⟩⟩
 refine ⟨le,⟨S.ok,S.hole,S.lt,fun k h=>Nat.lt_of_lt_of_le (S.fz k h) hsz,S.ic,S.le,fun id cs m hg e h1 h2=>?_,fun id o hg=>?_,S.sep,S.base,S.sepm,S.tb.mono le⟩⟩
 ·obtain ⟨⟨arr0,t0,fr0,q1,q2,q3,q4⟩,q5⟩:=S.cells id cs m hg e h1 h2
  exact ⟨⟨arr0,t0,fr0,(hk _ (hno id cs m e hg h1 h2) (lt_of_some q1)).trans q1,q2,fun j v a b=>(q3 j v a b).mono le,q4⟩,q5⟩
 ·obtain ⟨⟨x,q1,q2⟩,q3⟩:=S.maps id o hg
  exact ⟨⟨x,(hk _ (fun e=>by rw [e,hb] at q1;injection q1 with q1;subst q1;exact q2.not_cells) (lt_of_some q1)).trans q1,q2.mono le⟩,q3⟩
end Am
end Go.Proofs.YthmkcebbeehbeaaGreatDoor
