/- Part 24. -/
import Derived.Shelf.Spec.SlicesInsert
import Derived.Shelf.Spec.SlicesInsertGrow
import Derived.Ground.Names2Prog
import Derived.Test.YtikpijbeobeckaaGreatDoorXGw20
import Derived.Test.YtikpijbeobeckaaGreatDoorXGw23
set_option linter.unusedSimpArgs false
set_option linter.unusedVariables false
namespace Go.Proofs.YtikpijbeobeckaaGreatDoor
open Am C
theorem ylz (d:Nd) (hr:y5r d=true) (w:Go.World) (ht:Pow w):
  Go.Calls Tryz.prog 150 #[.agg #[.int .i64 d.kind,.string ⟨d.fn.toArray⟩,.int .i64 d.copy,.string ⟨d.name.toArray⟩,.int .i64 d.n,.int .i64 d.cell]] w fun e w'=>e=.returned (.string ⟨(y2w d).toArray⟩)∧Go.RowKit.Below w.heap.size w w':=by
 obtain ⟨k1,k7,hcp,hn,hcell,hfn,hnm,hnn⟩:=(y55 d).1 hr
 obtain ⟨k,fn,cp,nm,n,cl⟩:=d
 simp only at *
 have lfn:fn.length≤16:=by
  rcases hfn with ⟨a,b,c⟩ | ⟨a,b⟩
  ·subst b;simp
  ·exact ybt b
 have lnm:nm.length≤16:=by
  rcases hnm with ⟨a,b⟩ | ⟨a,b⟩
  ·exact ybt b
  ·subst b;simp
 have hcp':=of_decide_eq_true hcp
 have hn':=of_decide_eq_true hn
 have hcl:cl=-1∨(5≤k∧cl≠-1∧0≤cl∧cl≤268435456):=by
  rcases hcell with c | ⟨c,h⟩
  ·exact .inl c
  ·have:=of_decide_eq_true h
   exact .inr ⟨c,by omega,this⟩
 have hc0:cp=0∨0<cp:=by omega
 rcases (by omega:k=1∨k=2∨k=3∨k=4∨k=5∨k=6∨k=7) with rfl | rfl | rfl | rfl | rfl | rfl | rfl
 ·rcases hcl with rfl | hl
  ·rcases hc0 with rfl | hc
   ·exact ymh fn nm n lfn lnm hn' w ht
   ·exact ymg fn cp nm n lfn lnm hn' hc (by omega) w ht
  ·omega
 ·rcases hcl with rfl | hl
  ·rcases hc0 with rfl | hc
   ·exact ymf fn nm n lfn lnm hn' w ht
   ·exact yme fn cp nm n lfn lnm hn' hc (by omega) w ht
  ·omega
 ·rcases hcl with rfl | hl
  ·rcases hc0 with rfl | hc
   ·exact ymd fn nm n lfn lnm hn' w ht
   ·exact ymc fn cp nm n lfn lnm hn' hc (by omega) w ht
  ·omega
 ·rcases hcl with rfl | hl
  ·rcases hc0 with rfl | hc
   ·exact ymb fn nm n lfn lnm hn' w ht
   ·exact yma fn cp nm n lfn lnm hn' hc (by omega) w ht
  ·omega
 ·obtain ⟨hf0,h0⟩:fn=[]∧cp=0:=by
   rcases hfn with ⟨a,b,c⟩ | ⟨a,b⟩
   ·exact ⟨b,c⟩
   ·exact absurd rfl a
  subst h0
  rcases hcl with rfl | hl
  ·exact ym9 fn nm n lfn lnm hn' hf0 w ht
  ·exact ym8 fn nm n cl lfn lnm hn' hf0 hl.2.1 hl.2.2 w ht
 ·rcases hcl with rfl | hl
  ·rcases hc0 with rfl | hc
   ·exact ym7 fn nm n lfn lnm hn' w ht
   ·exact ym5 fn cp nm n lfn lnm hn' hc (by omega) w ht
  ·rcases hc0 with rfl | hc
   ·exact ym6 fn nm n cl lfn lnm hn' hl.2.1 hl.2.2 w ht
   ·exact ym4 fn cp nm n cl lfn lnm hn' hc (by omega) hl.2.1 hl.2.2 w ht
 ·rcases hcl with rfl | hl
  ·rcases hc0 with rfl | hc
   ·exact ym3 fn nm n lfn lnm hn' w ht
   ·exact ym1 fn cp nm n lfn lnm hn' hc (by omega) w ht
  ·rcases hc0 with rfl | hc
   ·exact ym2 fn nm n cl lfn lnm hn' hl.2.1 hl.2.2 w ht
   ·exact ym0 fn cp nm n cl lfn lnm hn' hc (by omega) hl.2.1 hl.2.2 w ht
theorem vr_nv {κ:K} {d:Nd} {c:Go.Value} (h:VR κ (nv d) c):c=.agg #[.int .i64 d.kind,.string ⟨d.fn.toArray⟩,.int .i64 d.copy,.string ⟨d.name.toArray⟩,.int .i64 d.n,.int .i64 d.cell]:=by
 unfold nv at h
 cases h with
 | agg _ cs hl hv=>
  have hl':cs.length=6:=hl.symm
  match cs,hl' with
  | [a0,a1,a2,a3,a4,a5],_=>
   have e0:=yja (hv 0 _ rfl)
   have e1:=ymk (hv 1 _ rfl)
   have e2:=yja (hv 2 _ rfl)
   have e3:=ymk (hv 3 _ rfl)
   have e4:=yja (hv 4 _ rfl)
   have e5:=yja (hv 5 _ rfl)
   simp at e0 e1 e2 e3 e4 e5
   subst e0 e1 e2 e3 e4 e5
   rfl
theorem yf8 (d:Nd) (hr:y5r d=true) (H:Hp):AC Tryz.prog 150 [nv d] H (fun v H'=>v=.s (y2w d)∧H'=H):=by
 refine AC.belowS (by kernel_rfl) fun κ cs S r=>?_
 obtain ⟨a,rfl,ra⟩:=r.one'
 obtain rfl:=vr_nv ra
 exact ⟨_,fun κ'=>.s _,ylz d hr κ.w (pow10_of S)⟩
def y56 (s:Str):Option Nd:=if (y88 s).2=true∧y5r (y88 s).1=true∧y2w (y88 s).1=s then some (y88 s).1 else none
theorem ygq (s:Str):(y88 s).1.fn.length≤s.length∧(y88 s).1.name.length≤s.length:=by
 have ht:∀(d:Nd) (r:Str),(ya0 d r).1.fn=d.fn∧((ya0 d r).1.name=d.name∨(ya0 d r).1.name.length≤r.length):=by
  intro d r
  cases r with
  | nil=>simp [ya0]
  | cons c r=>
   simp only [ya0]
   repeat' split
   all_goals simp
 have hm:∀(d:Nd) (r:Str),(ydp d r).1.fn=d.fn∧((ydp d r).1.name=d.name∨(ydp d r).1.name.length≤r.length):=by
  intro d r
  cases r with
  | nil=>simp [ydp]
  | cons c r=>
   have hs:=yaj r
   simp only [ydp]
   repeat' split
   ·simp
   ·have:=ht { d with copy:=(y6n (y3t r).1).1 } (y3t r).2
    refine ⟨this.1,this.2.imp id fun h=>?_⟩
    simp;omega
   ·exact ht _ _
 have hh:∀(cl:Int) (r:Str),(y9p cl r).1.fn.length≤r.length∧(y9p cl r).1.name.length≤r.length:=by
  intro cl r
  have hs:=yaj r
  simp only [y9p]
  split
  ·simp [Nd.zero];omega
  ·have:=hm { Nd.zero with fn:=(y3t r).1,cell:=cl } (y3t r).2
   refine ⟨by rw [this.1];exact hs.1,?_⟩
   rcases this.2 with h | h
   ·exact kV (Nat.le_of_eq (congrArg List.length h)) (by simp [Nd.zero])
   ·exact kV h hs.2
 simp only [y88]
 repeat' split
 ·simp [Nd.zero]
 ·rename_i h1 h2
  have:=hh (y6n (s.drop ((Go.Lib.indexByte s 43).toNat+1))).1 (s.take (Go.Lib.indexByte s 43).toNat)
  simp at this
  omega
 ·exact hh _ _
theorem y8q (s:Str) (hs:s.length≤9223372036854775806) (H:Hp):AC Tryz.prog y4i [.s s] H (fun v H'=>v=rdV (y56 s)∧H'=H):=by
 have hfr:y9w (rdV (y56 s)):=by
  unfold rdV;split <;> simp [nv,Nd.cs]
 have hl:=ygq s
 refine AC.codeP y2h.at y2h.ok hfr fun hlt=>?_
 simp only [y2h]
 apply jA
 simp [y2h.r0]
 apply jA
 simp [y2h.r1]
 refine AC.fix (read_ok s hs _) ?_
 have hrd:y56 s=if (y88 s).2=true∧y5r (y88 s).1=true∧y2w (y88 s).1=s then some (y88 s).1 else none:=rfl
 rw [hrd]
 clear hrd hfr
 generalize y88 s=q at hl ⊢
 obtain ⟨⟨k,fn,cp,nm,n,cl⟩,ok⟩:=q
 simp only at hl ⊢
 simp [rkV,nv,Nd.cs]
 have e1:H.Ext (((H.add (.cells [.i .i64 0,.s [],.i .i64 0,.s [],.i .i64 0,.i .i64 0] 6)).add (.cells [.i .i64 0,.s [],.i .i64 0,.s [],.i .i64 0,.i .i64 0] 6)).upd (H.next+1) (.cells [.i .i64 k,.s fn,.i .i64 cp,.s nm,.i .i64 n,.i .i64 cl] 6)):=
  (((Hp.Ext.add hlt _).trans (.add (Hp.add_lt hlt _) _)).upd hlt (by omega) _)
 obtain ⟨X,hX⟩:∃X,X=((H.add (.cells [.i .i64 0,.s [],.i .i64 0,.s [],.i .i64 0,.i .i64 0] 6)).add (.cells [.i .i64 0,.s [],.i .i64 0,.s [],.i .i64 0,.i .i64 0] 6)).upd (H.next+1) (.cells [.i .i64 k,.s fn,.i .i64 cp,.s nm,.i .i64 n,.i .i64 cl] 6):=⟨_,rfl⟩
 have g2:X.get H.next=some (.cells [.i .i64 0,.s [],.i .i64 0,.s [],.i .i64 0,.i .i64 0] 6):=by rw [hX];simp
 have g4:X.get (H.next+1)=some (.cells [.i .i64 k,.s fn,.i .i64 cp,.s nm,.i .i64 n,.i .i64 cl] 6):=by rw [hX];simp
 rw [←hX] at e1 ⊢
 clear hX
 refine AX.seq (AX.test (!(ok&&y5r ⟨k,fn,cp,nm,n,cl⟩&&decide (y2w ⟨k,fn,cp,nm,n,cl⟩=s))) [(2,.p (some (H.next,0,6))),(4,.p (some (H.next+1,0,6))),(23,.b (!(ok&&y5r ⟨k,fn,cp,nm,n,cl⟩&&decide (y2w ⟨k,fn,cp,nm,n,cl⟩=s))))] ?_ rfl (fun hz=>jA ?_) (fun hz=>AX.skip ?_))
 ·by_cases b1:ok=true
  case neg=>simp [y2h.r2,b1]
  simp [y2h.r2,b1,g4]
  refine AC.fix (yjg ⟨k,fn,cp,nm,n,cl⟩ (by simp only;omega) (by simp only;omega) _) ?_
  by_cases b2:y5r ⟨k,fn,cp,nm,n,cl⟩=true
  case neg=>simp [b1,b2]
  simp [b1,b2,g4]
  refine AC.fix (yf8 ⟨k,fn,cp,nm,n,cl⟩ b2 _) ?_
  by_cases b3:y2w ⟨k,fn,cp,nm,n,cl⟩=s
  ·simp [b3]
  ·simp [b3,show (y2w ⟨k,fn,cp,nm,n,cl⟩ == s)=false by simpa using b3]
 ·simp [y2h.r3,g2]
  apply jD
  have hn:¬(ok=true∧y5r ⟨k,fn,cp,nm,n,cl⟩=true∧y2w ⟨k,fn,cp,nm,n,cl⟩=s):=by
   rintro ⟨b1,b2,b3⟩;rw [b1,b2,decide_eq_true b3] at hz;cases hz
  rw [if_neg hn]
  simp [rdV,nv,Nd.cs,Nd.zero]
  exact ⟨e1.upd hlt (kG _) _,.refl _⟩
 have hn:ok=true∧y5r ⟨k,fn,cp,nm,n,cl⟩=true∧y2w ⟨k,fn,cp,nm,n,cl⟩=s:=by
  simp only [Bool.not_eq_false',kF,decide_eq_true_eq] at hz
  exact ⟨hz.1.1,hz.1.2,hz.2⟩
 rw [if_pos hn]
 simp
 apply jA
 simp [y2h.r4,g2,g4]
 apply jD
 simp [rdV,nv,Nd.cs]
 exact ⟨e1.upd hlt (kG _) _,.refl _⟩
theorem ycu {l:Str} {c:UInt8} (h:c∉l):Go.Lib.indexByte l c=-1:=by
 induction l with
 | nil=>rfl
 | cons b l ih=>
  simp only [kK,not_or] at h
  have e:(b == c)=false:=by simpa using fun hh:b=c=>h.1 hh.symm
  simp [Go.Lib.indexByte,e,ih h.2]
theorem ycv {l r:Str} {c:UInt8} (h:c∉l):Go.Lib.indexByte (l++c::r) c=l.length:=by
 induction l with
 | nil=>simp [Go.Lib.indexByte]
 | cons b l ih=>
  simp only [kK,not_or] at h
  have e:(b == c)=false:=by simpa using fun hh:b=c=>h.1 hh.symm
  simp only [List.cons_append,Go.Lib.indexByte,e,ih h.2]
  have:((l.length:Int) == -1)=false:=by simp
  simp [this]
theorem yjc {a b:Str} (w:Bool) (hw:y9t (a++b)=w) (ha:a.all (inB w)=true) (hb:∀c r,b=c::r→inB w c=false):y3t (a++b)=(a,b):=by
 unfold y3t
 rw [hw]
 have:(a++b).takeWhile (inB w)=a∧(a++b).dropWhile (inB w)=b:=by
  have:=y9y (p:=inB w) (l:=a++b) (i:=a.length) (by simpa using ha) (by simp) (fun x hx=>by
   rw [kX (kG _),Nat.sub_self] at hx
   cases b with
   | nil=>simp at hx
   | cons c r=>simp at hx;subst hx;exact hb _ _ rfl)
  simpa using this
 rw [this.1,this.2]
theorem ybb {s:Str} (h:y6k s=true):s.length≤16∧y9t s=true∧s.all (inB true)=true∧s≠[]:=by
 unfold y6k at h;simp only [kF,decide_eq_true_eq] at h
 refine ⟨h.1.1,h.1.2,h.2,fun e=>?_⟩
 subst e;exact absurd h.1.2 (by decide)
theorem yco {a b:Str} (h:a≠[]):y9t (a++b)=y9t a:=by
 cases a with
 | nil=>exact absurd rfl h
 | cons c r=>rfl
theorem yer {a b:Str} (h:y6k a=true) (hb:∀c r,b=c::r→inB true c=false):y3t (a++b)=(a,b):=by
 obtain ⟨_,h2,h3,h4⟩:=ybb h
 exact yjc true (by rw [yco h4,h2]) h3 hb
theorem yde (n:Nat):(y4w n).all ycy=true:=by
 induction n using Nat.strongRecOn with
 | ind n ih=>
  have hd:ycy (dgB n)=true:=by simp [ycy,yc3];omega
  by_cases h:n<10
  ·rw [y7m h];simp [hd]
  ·rw [yc4 h,List.all_append,ih (n / 10) (by omega)];simp [hd]
theorem yg0 (n:Nat):y4w n≠[]:=by
 by_cases h:n<10
 ·rw [y7m h];simp
 ·rw [yc4 h];simp
theorem ymj (n:Nat):y9t (y4w n)=false:=by
 have h:=yde n
 have h2:=yg0 n
 cases hd:y4w n with
 | nil=>exact absurd hd h2
 | cons c r=>
  rw [hd] at h
  simp only [List.all_cons,kF] at h
  show ygc c=false
  cases hl:ygc c with
  | false=>rfl
  | true=>rw [yox c hl] at h;exact absurd h.1 (by decide)
theorem yh3:inB false=ycy:=by funext c;simp [inB]
theorem ymt {n:Nat} {b:Str} (hb:∀c r,b=c::r→ycy c=false):y3t (y4w n++b)=(y4w n,b):=
 yjc false (by rw [yco (yg0 n),ymj]) (by rw [yh3];exact yde n) (by rw [yh3];exact hb)
theorem yhw (l:Str) (c:UInt8):ymm (l++[c])=10*ymm l+(c.toNat-48):=by unfold ymm;rw [List.foldl_append];rfl
theorem valD_dec (n:Nat):ymm (y4w n)=n:=by
 induction n using Nat.strongRecOn with
 | ind n ih=>
  by_cases h:n<10
  ·rw [y7m h]
   show 10*0+((dgB n).toNat-48)=n
   rw [yc3];omega
  ·rw [yc4 h,yhw,ih (n / 10) (by omega),yc3];omega
theorem yoy (n:Nat) (h0:0<n):(y4w n)[0]?≠some 48:=by
 induction n using Nat.strongRecOn with
 | ind n ih=>
  by_cases h:n<10
  ·rw [y7m h]
   intro hh;simp at hh
   have:=yc3 n
   rw [hh] at this
   have e:(48:UInt8).toNat=48:=rfl
   omega
  ·rw [yc4 h,kR (List.length_pos_iff.2 (yg0 _))]
   exact ih (n / 10) (by omega) (by omega)
theorem ydq {n:Nat} (h:n≤268435456):y6n (y4w n)=(n,0):=by
 have hz:¬((y4w n)[0]?=some 48∧1<(y4w n).length):=by
  rintro ⟨h1,h2⟩
  rcases Nat.eq_zero_or_pos n with h0 | h0
  ·subst h0;rw [y7m (by omega)] at h2;simp at h2
  ·exact yoy n h0 h1
 unfold y6n
 rw [if_neg (yg0 n),if_neg (by rw [yde];simp),if_neg hz,valD_dec,if_neg (by omega)]
theorem ygw {s:Str} (h:s.all (inB true)=true):(43:UInt8)∉s:=fun hm=>by
 have:=List.all_eq_true.1 h _ hm
 exact absurd this (by decide)
theorem yjo (n:Nat):(43:UInt8)∉y4w n:=fun hm=>by
 have:=List.all_eq_true.1 (yde n) _ hm
 exact absurd this (by decide)
def ych (k:Int):UInt8:=if k=1 then 46 else if k=2 then 36 else if k=3 then 64 else if k=4 then 40 else if k=6 then 37 else 35
def yfb (d:Nd):Str:=if d.kind=4 then [41] else if ylu d.kind then y4w d.n.toNat else d.name
theorem ypd {d:Nd} (h:RightN d) (hk:d.kind≠5):y68 d=d.fn++(y5q d.copy++ych d.kind::yfb d):=by
 have h1:=h.k1;have h7:=h.k7
 obtain ⟨k,fn,cp,nm,n,cl⟩:=d
 simp only at *
 rcases (by omega:k=1∨k=2∨k=3∨k=4∨k=6∨k=7) with rfl | rfl | rfl | rfl | rfl | rfl <;> rfl
theorem yoz {d:Nd} (h:RightN d):0≤d.copy∧d.copy≤268435456:=of_decide_eq_true h.cp
theorem num_fn {d:Nd} (h:RightN d):0≤d.n∧d.n≤268435456:=of_decide_eq_true h.n
theorem yno (c:Int):(43:UInt8)∉y5q c:=by
 unfold y5q;split
 ·simp only [kK,not_or];exact ⟨by decide,yjo _⟩
 ·simp
theorem yez {d:Nd} (h:RightN d):d.name=[]∨y6k d.name=true:=h.nm.elim (fun x=>.inr x.2) (fun x=>.inl x.2)
theorem ynn {d:Nd} (h:RightN d):(43:UInt8)∉d.name:=by
 rcases yez h with e | e
 ·rw [e];simp
 ·exact ygw (ybb e).2.2.1
theorem no43_fn {d:Nd} (h:RightN d):(43:UInt8)∉d.fn:=by
 rcases h.fn with ⟨_,e,_⟩ | ⟨_,e⟩
 ·rw [e];simp
 ·exact ygw (ybb e).2.2.1
theorem ynm {d:Nd} (h:RightN d):(43:UInt8)∉yfb d:=by
 unfold yfb;split
 ·decide
 ·split
  ·exact yjo _
  ·exact ynn h
theorem ynp {d:Nd} (h:RightN d):(43:UInt8)∉y68 d:=by
 by_cases hk:d.kind=5
 ·have:y68 d=d.name:=by unfold y68;simp [hk]
  rw [this];exact ynn h
 ·rw [ypd h hk]
  simp only [kZ,kK,not_or]
  refine ⟨no43_fn h,yno _,?_,ynm h⟩
  unfold ych;repeat' split
  all_goals decide
theorem kind5 {d:Nd} (h:RightN d) (hk:d.kind=5):d.fn=[]∧d.copy=0∧y6k d.name=true∧d.n=0:=by
 rcases h.fn with ⟨_,a,b⟩ | ⟨a,_⟩
 ·refine ⟨a,b,?_,?_⟩
  ·rcases h.nm with ⟨_,x⟩ | ⟨x,_⟩
   ·exact x
   ·rw [hk] at x;exact absurd x (by decide)
  ·rcases h.nn with ⟨x,_⟩ | ⟨_,x⟩
   ·rw [hk] at x;exact absurd x (by decide)
   ·exact x
 ·exact absurd hk a
theorem kindN {d:Nd} (h:RightN d) (hk:d.kind≠5):y6k d.fn=true:=by
 rcases h.fn with ⟨x,_⟩ | ⟨_,x⟩
 ·exact absurd x hk
 ·exact x
theorem yl8 (cp:Int) (m:UInt8) (r:Str) (hm:inB true m=false):∀c q,y5q cp++m::r=c::q→inB true c=false:=by
 intro c q h;unfold y5q at h;split at h
 ·simp at h;rw [←h.1];decide
 ·simp at h;rw [←h.1];exact hm
theorem yfr {k:Int}:inB true (ych k)=false∧ycy (ych k)=false∧ych k≠126∧ych k≠43:=by
 unfold ych;repeat' split
 all_goals decide
theorem ygk {d:Nd} (h:RightN d) (hk:d.kind≠5):ya0 ⟨0,d.fn,d.copy,[],0,d.cell⟩ (ych d.kind::yfb d)=(d,true):=by
 have h1:=h.k1;have h7:=h.k7;have hn:=num_fn h
 have hnm:=h.nm;have hnn:=h.nn
 obtain ⟨k,fn,cp,nm,n,cl⟩:=d
 simp only at *
 have rd:y6n (y4w n.toNat)=(n.toNat,0):=ydq (by omega)
 have en:((n.toNat:Nat):Int)=n:=by omega
 rcases (by omega:k=1∨k=2∨k=3∨k=4∨k=6∨k=7) with rfl | rfl | rfl | rfl | rfl | rfl <;>
  simp [yay,ylu] at hnm hnn <;>
  simp [ya0,ych,yfb,yjs,Go.Lib.indexByte,ylu,rd,en,hnm,hnn]
theorem yi2 {d:Nd} (h:RightN d) (hk:d.kind≠5):ydp ⟨0,d.fn,0,[],0,d.cell⟩ (y5q d.copy++ych d.kind::yfb d)=(d,true):=by
 have hc:=yoz h
 have ht:=ygk h hk
 by_cases h0:0<d.copy
 ·have e:y5q d.copy=126::y4w d.copy.toNat:=by unfold y5q;rw [if_pos h0]
  have es:y3t (y4w d.copy.toNat++ych d.kind::yfb d)=(y4w d.copy.toNat,ych d.kind::yfb d):=ymt fun c r hh=>by injection hh with hh _;rw [←hh];exact yfr.2.1
  rw [e,List.cons_append]
  simp only [ydp,if_true,es,ydq (show d.copy.toNat≤268435456 by omega)]
  rw [if_neg (by simp),show ((d.copy.toNat:Nat):Int)=d.copy by omega]
  exact ht
 ·have e:y5q d.copy=[]:=by unfold y5q;rw [if_neg h0]
  have e0:d.copy=0:=by omega
  rw [e,List.nil_append]
  simp only [ydp]
  rw [if_neg yfr.2.2.1]
  rw [e0] at ht
  exact ht
theorem ygl {d:Nd} (h:RightN d):y9p d.cell (y68 d)=(d,true):=by
 by_cases hk:d.kind=5
 ·obtain ⟨a,b,c,e⟩:=kind5 h hk
  have eb:y68 d=d.name++[]:=by unfold y68;simp [hk]
  have es:=yer (b:=[]) c (by simp)
  rw [eb]
  simp only [y9p,es]
  rw [if_pos trivial]
  obtain ⟨k,fn,cp,nm,n,cl⟩:=d
  simp only at *
  subst hk a b e;rfl
 ·have es:y3t (y68 d)=(d.fn,y5q d.copy++ych d.kind::yfb d):=by
   rw [ypd h hk]
   exact yer (kindN h hk) (yl8 _ _ _ yfr.1)
  simp only [y9p,es]
  rw [if_neg (by simp)]
  exact yi2 h hk
theorem yi3 {d:Nd} (h:RightN d):y88 (y2w d)=(d,true):=by
 have hb:=ynp h
 have hh:=ygl h
 unfold y88 y2w
 by_cases hc:0≤d.cell
 ·have hc2:d.cell≤268435456:=by
   rcases h.cell with c | ⟨_,c⟩
   ·omega
   ·exact (of_decide_eq_true c).2
  have e:y84 d.cell=43::y4w d.cell.toNat:=by unfold y84;rw [if_pos hc]
  rw [e,ycv hb]
  have e1:(y68 d++43::y4w d.cell.toNat).drop ((y68 d).length+1)=y4w d.cell.toNat:=by
   rw [←List.drop_drop];simp
  have e2:(y68 d++43::y4w d.cell.toNat).take (y68 d).length=y68 d:=by simp
  simp only [Int.toNat_natCast,e1,e2,ydq (show d.cell.toNat≤268435456 by omega)]
  rw [if_pos (by omega),if_neg (by simp),show ((d.cell.toNat:Nat):Int)=d.cell by omega]
  exact hh
 ·have e:y84 d.cell=[]:=by unfold y84;rw [if_neg hc]
  have e1:d.cell=-1:=by
   rcases h.cell with c | ⟨_,c⟩
   ·exact c
   ·have:=of_decide_eq_true c;omega
  rw [e,List.append_nil,ycu hb]
  simp only
  rw [if_neg (by omega),←e1]
  exact hh
section
open Go Go.RowKit
theorem Am.AC.row {P:Program} {f:FuncId} {args:List V} {H:Hp} {es:List (List V)} {T sz:Nat} (hok:okFn P f=true) (hes:∀e∈es,e.length=sz)
  (h:∀(κ:K) (cs:List Value),Sim κ H→VRs κ args cs→∃cv:Nat→Nat→Value,(∀(κ':K) (i j:Nat) e v,es[i]?=some e→e[j]?=some v→VR κ' v (cv i j))∧
   Calls P f cs.toArray κ.w (fun e w'=>∃v' xs,e=.returned v'∧w'.ownsRow κ.w.heap.size T sz v' es.length xs∧(∀(i j:Nat) e v,es[i]?=some e→e[j]?=some v→xs[i*sz+j]?=some (cv i j))∧RowKit.Below κ.w.heap.size κ.w w')):
  AC P f args H (fun r H'=>r=.fs es∧H'=H):=by
 refine ⟨hok,fun κ cs S r=>?_⟩
 obtain ⟨cv,hv,hc⟩:=h κ cs S r
 refine hc.mono fun e w' ⟨v',xs,he,ho,hx,hb⟩=>?_
 obtain ⟨hlen,⟨rfl,h0⟩ | ⟨g,cap,cur,rfl,hg,hgb,hcap,hmax,hsz,htake⟩⟩:=ho
 ·have hnil:es=[]:=List.length_eq_zero_iff.1 h0
  subst hnil
  exact ⟨{ κ with w:=w' },.fs [],.slice none 0 0,H,he,rfl,K.below_le S hb,S.below hb,.fs (κ:={ κ with w:=w' }) [] 0 sz 0 0 none (fun _ _=>undef) (kG _) (fun e h=>by simp at h) (fun _=>rfl) (fun h=>absurd rfl h) (fun i j e v h=>by simp at h) (fun i j e v h=>by simp at h),rfl,rfl⟩
 ·have S':=S.below hb
  have le:=K.below_le S hb
  let κ2:K:={ κ with w:=w',fz:=fun b=>κ.fz b∨b=g,ic:=fun b=>κ.ic b∨b=g }
  have gl:g<w'.heap.size:=lt_of_some hgb
  have le2:κ.Le κ2:=⟨le.ok,fun b h=>⟨.inl h,(le.fz b h).2⟩,fun b h=>⟨.inl h,(le.ic b h).2⟩,fun b h=>h.elim .inl fun h=>.inr (.inl (by rw [h];exact hg)),le.n,le.size,le.os,le.tape,le.output,le.hole,le.base,le.lps⟩
  have le3:K.Le { κ with w:=w' } κ2:=⟨fun _ _ h=>⟨h,rfl⟩,fun _ h=>⟨.inl h,rfl⟩,fun _ h=>⟨.inl h,rfl⟩,fun b h=>h.elim .inl fun h=>.inr (.inr (by subst h;intro hf;have:=S.fz _ hf;omega)),fun _ _ h=>h,kG _,rfl,rfl,rfl,fun _ h=>⟨h,fun _ o=>o⟩,rfl,fun _ r h=>⟨r,h⟩⟩
  have plt:∀{id e cs},Placed κ id e cs→(κ.pl id e).1<κ.w.heap.size:=fun ⟨⟨arr,t,fr,hb,_⟩,_⟩=>lt_of_some hb
  refine ⟨κ2,.fs es,_,H,he,rfl,le2,⟨S'.ok,S'.hole,S'.lt,fun b h=>h.elim (S'.fz b) fun h=>by rw [h];exact gl,fun b h=>h.elim (fun h=>.inl (S'.ic b h)) .inr,S'.le,fun id cs m hm e h1 h2=>?_,fun id o ho=>?_,S'.sep,S'.base,S'.sepm,S'.tb.mono le3⟩,?_,rfl,rfl⟩
  ·have P0:=S.cells id cs m hm e h1 h2
   have hlt:=plt P0
   obtain ⟨⟨arr,t,fr,hb',hs,hv',hf⟩,hz⟩:=S'.cells id cs m hm e h1 h2
   refine ⟨⟨arr,t,fr,hb',hs,fun j v a b=>(hv' j v a b).mono le3,hf⟩,?_⟩
   rintro (h | h)
   ·exact hz h
   ·have:(κ.pl id e).1=g:=h
    omega
  ·obtain ⟨⟨x0,hb0,_⟩,_⟩:=S.maps id o ho
   obtain ⟨⟨x,hb',ho'⟩,hz⟩:=S'.maps id o ho
   refine ⟨⟨x,hb',ho'.mono le3⟩,?_⟩
   rintro (h | h)
   ·exact hz h
   ·have h1:(κ.pl id 0).1=g:=h
    have:=lt_of_some hb0
    omega
  ·refine .fs (κ:=κ2) es cap sz g 0 (some ⟨g,0,none⟩) cv hcap hes (fun h=>by cases h) (fun _=>⟨rfl,.inr rfl⟩) (fun i j e v hi hj=>?_) (fun i j e v hi hj=>hv κ2 i j e v hi hj)
   have h1:=hx i j e v hi hj
   rw [←htake,kj] at h1
   split at h1
   ·show w'.cell? ⟨g,0+i*sz+j,none⟩=some (cv i j)
    simp only [World.cell?,hgb,Nat.zero_add]
    rw [←Array.getElem?_toList]
    exact h1
   ·cases h1
end
theorem ss_len (l:List Str):∀e∈l.map (fun x=>[V.s x]),e.length=1:=fun e he=>by
 obtain ⟨x,_,rfl⟩:=List.mem_map.1 he;rfl
theorem vr_fs1 {κ:K} {α:Type} {l:List α} {f:α→V} {c:Go.Value} (h:VR κ (.fs (l.map fun x=>[f x])) c):
  ∃a cap,c=.slice a l.length cap∧(a=none→l=[])∧(l≠[]→∃b o,a=some ⟨b,o,none⟩∧∀(i:Nat) x,l[i]?=some x→∃c,κ.w.cell? ⟨b,o+i,none⟩=some c∧VR κ (f x) c):=by
 cases h with
 | fs _ cap sz b o a cv hcap hsz hn hne hc hv=>
  refine ⟨a,cap,by simp,fun h=>?_,fun h=>?_⟩
  ·have:=hn h
   have:l.length=0:=by simpa [this] using hcap
   exact List.length_eq_zero_iff.1 this
  ·have hne':=hne (by simpa using h)
   have hs:sz=1:=by
    obtain ⟨x,r,rfl⟩:=List.exists_cons_of_ne_nil h
    exact (hsz [f x] (by simp)).symm
   subst hs
   refine ⟨b,o,hne'.1,fun i x hi=>?_⟩
   have hi':(l.map fun x=>[f x])[i]?=some [f x]:=by simp [hi]
   have h1:=hc i 0 _ _ hi' rfl
   have h2:=hv i 0 _ _ hi' rfl
   exact ⟨_,by simpa using h1,h2⟩
theorem yqc (l:List Str) (hl:l.length≤8000000000000) (H:Hp):AC Tryz.prog y5t [ss l] H (fun v H'=>v=ss l∧H'=H):=by
 refine AC.row (T:=9) (sz:=1) (by kernel_rfl) (ss_len l) fun κ cs S r=>?_
 obtain ⟨c,rfl,rc⟩:=r.one'
 refine ⟨fun i _=>.string ⟨((l[i]?).getD []).toArray⟩,fun κ' i j e v he hv=>?_,?_⟩
 ·simp only [List.getElem?_map,kd] at he
  obtain ⟨x,hx,rfl⟩:=he
  cases j with
  | zero=>simp at hv;subst hv;simp only [hx,Option.getD_some];exact .s x
  | succ j=>simp at hv
 obtain ⟨a,cap,rfl,h0,h1⟩:=vr_fs1 rc
 have hfin:∀(xs:List Go.Value),xs=l.map (fun x=>Go.Value.string ⟨x.toArray⟩)→∀(i j:Nat) e v,(l.map fun x=>[V.s x])[i]?=some e→e[j]?=some v→xs[i*1+j]?=some (.string ⟨((l[i]?).getD []).toArray⟩):=by
  rintro _ rfl i j e v he hv
  simp only [List.getElem?_map,kd] at he
  obtain ⟨x,hx,rfl⟩:=he
  cases j with
  | zero=>simp [hx]
  | succ j=>simp at hv
 by_cases hn:l=[]
 ·subst hn
  cases a with
  | none=>exact (Tryz.slices_Clone_string_nil 0 cap κ.w).mono fun e w' ⟨he,hw⟩=>⟨_,[],he,by rw [hw];exact Go.World.ownsRow_nil _ _ _ _,fun i j e v he=>by simp at he,by rw [hw];exact .refl _ _⟩
  | some a=>exact (Tryz.slices_Clone_string_zero a cap κ.w).mono fun e w' ⟨v',he,ho,_,hb⟩=>⟨v',[],he,ho,fun i j e v he=>by simp at he,hb⟩
 ·obtain ⟨b,o,rfl,hc⟩:=h1 hn
  refine (Tryz.slices_Clone_string b o l.length cap (l.map fun x=>⟨x.toArray⟩) κ.w (by simp) (by omega) fun j hj=>?_).mono fun e w' ⟨v',he,ho,_,hb⟩=>⟨v',_,he,by simpa using ho,hfin _ ?_,hb⟩
  ·simp at hj
   obtain ⟨c,h1,h2⟩:=hc j _ (kC hj)
   rw [h1,ymk h2]
   simp [kQ,hj]
  ·rfl
namespace Am
open Go Go.RowKit
theorem Sim.adopt {κ:K} {H:Hp} (S:Sim κ H) {b o:Nat} {ds:List V} {arr:Array Value} {t:TypeId} {fr:Nat × Nat} (hb:κ.w.heap[b]?=some (.cells arr t fr)) (hsz:o+ds.length≤arr.size)
  (hv:∀(j:Nat) v,ds[j]?=some v→VR κ v (arr.getD (o+j) undef)) (hfr:fr.2≤fr.1∨(arr.size≤fr.1∧t=5)) (hz:¬κ.fz b)
  (hno:∀id cs m e,H.get id=some (.cells cs m)→m≤e→e≤cs.length→(κ.pl id e).1≠b):
  ∃κ':K,κ'.w=κ.w∧κ.Le κ'∧Sim κ' (H.add (.cells ds ds.length))∧κ'.pl H.next ds.length=(b,o)∧κ'.ok H.next ds.length:=by
 let κ2:K:={ κ with pl:=fun k e=>if k=H.next then (b,o) else κ.pl k e,ok:=fun k e=>κ.ok k e∨(k=H.next∧e≤ds.length) }
 have plo:∀{k e},k≠H.next→κ2.pl k e=κ.pl k e:=fun h=>if_neg h
 have pln:∀{e},κ2.pl H.next e=(b,o):=if_pos rfl
 have le:κ.Le κ2:=⟨fun k e h=>⟨.inl h,plo (by have:=(S.ok k e h).1;omega)⟩,fun b h=>⟨h,rfl⟩,fun b h=>⟨h,rfl⟩,fun b h=>.inl h,fun b n h=>h,kG _,rfl,rfl,rfl,
  fun k h=>⟨h,fun e o=>o.elim id fun x=>by have:=(S.hole k h).1;omega⟩,rfl,fun b r h=>⟨r,h⟩⟩
 have gne:∀{k},k≠H.next→(H.add (.cells ds ds.length)).get k=H.get k:=fun h=>by simp [h]
 have geq:(H.add (.cells ds ds.length)).get H.next=some (.cells ds ds.length):=by simp
 refine ⟨κ2,rfl,le,⟨fun k e h=>?_,fun k h=>?_,Hp.add_lt S.lt _,S.fz,S.ic,fun k cs m h=>?_,fun k cs m h e h1 h2=>?_,fun k o' h=>?_,fun k k' e e' cs1 m1 cs2 m2 g1 g2 a1 a2 b1 b2 hp=>?_,fun k cs' m' e e' h a1 a2 b1 b2 hp=>?_,fun k k' es es' g1 g2 hp=>?_,S.tb.mono le⟩,pln,.inr ⟨rfl,kG _⟩⟩
 ·rcases h with h | ⟨rfl,h⟩
  ·obtain ⟨h1,h2⟩:=S.ok k e h
   exact ⟨by simp;omega,fun cs m hg=>h2 cs m (by rw [gne (by omega)] at hg;exact hg)⟩
  ·refine ⟨by simp,fun cs m hg=>?_⟩
   rw [geq] at hg;injection hg with hg;injection hg with x y;subst x;exact h
 ·obtain ⟨h1,h2⟩:=S.hole k h
  exact ⟨by simp;omega,by rw [gne (by omega)];exact h2⟩
 ·by_cases hk:k=H.next
  ·subst hk;rw [geq] at h;injection h with h;injection h with x y;subst x;subst y;exact kG _
  ·rw [gne hk] at h;exact S.le k cs m h
 ·by_cases hk:k=H.next
  ·subst hk;rw [geq] at h;injection h with h;injection h with x y;subst x;subst y
   have:e=ds.length:=by omega
   subst this
   exact ⟨⟨arr,t,fr,by rw [pln];exact hb,by rw [pln];exact hsz,fun j v _ hj=>by rw [pln];exact (hv j v hj).mono le,hfr⟩,by rw [pln];exact hz⟩
  ·rw [gne hk] at h
   obtain ⟨⟨arr0,t0,fr0,q1,q2,q3,q4⟩,q5⟩:=S.cells k cs m h e h1 h2
   exact ⟨⟨arr0,t0,fr0,by rw [plo hk];exact q1,by rw [plo hk];exact q2,fun j v hj hv=>by rw [plo hk];exact (q3 j v hj hv).mono le,q4⟩,by rw [plo hk];exact q5⟩
 ·by_cases hk:k=H.next
  ·subst hk;rw [geq] at h;injection h with h;cases h
  ·rw [gne hk] at h
   obtain ⟨⟨x,q1,q2⟩,q3⟩:=S.maps k o' h
   exact ⟨⟨x,by rw [plo hk];exact q1,q2.mono le⟩,by rw [plo hk];exact q3⟩
 ·by_cases hk:k=H.next <;> by_cases hk':k'=H.next
  ·rw [hk,hk']
  ·rw [gne hk'] at g2
   rw [plo hk'] at hp;subst hk;rw [pln] at hp
   exact absurd hp.symm (hno k' cs2 m2 e' g2 b1 b2)
  ·rw [gne hk] at g1
   rw [plo hk] at hp;subst hk';rw [pln] at hp
   exact absurd hp (hno k cs1 m1 e g1 a1 a2)
  ·rw [gne hk] at g1;rw [gne hk'] at g2
   rw [plo hk,plo hk'] at hp
   exact S.sep k k' e e' cs1 m1 cs2 m2 g1 g2 a1 a2 b1 b2 hp
 ·by_cases hk:k=H.next
  ·subst hk;rw [pln,pln]
  ·rw [gne hk] at h
   rw [plo hk,plo hk] at hp ⊢
   exact S.base k cs' m' e e' h a1 a2 b1 b2 hp
 ·by_cases hk:k=H.next
  ·subst hk;rw [geq] at g1;injection g1 with g1;cases g1
  ·by_cases hk':k'=H.next
   ·subst hk';rw [geq] at g2;injection g2 with g2;cases g2
   ·rw [gne hk] at g1;rw [gne hk'] at g2
    rw [plo hk,plo hk'] at hp
    exact S.sepm k k' es es' g1 g2 hp
theorem Sim.other {κ:K} {H:Hp} (S:Sim κ H) {b:Nat} {w':World} {arr:Array Value} {t:TypeId} {fr:Nat × Nat} (hb:κ.w.heap[b]?=some (.cells arr t fr))
  (hk:∀k,k≠b→k<κ.w.heap.size→w'.heap[k]?=κ.w.heap[k]?) (hn:∀k n,y2q κ.w k=some n→y2q w' k=some n) (hsz:κ.w.heap.size≤w'.heap.size)
  (hos:w'.os=κ.w.os) (hta:w'.tape=κ.w.tape) (hou:w'.output=κ.w.output) (hz:¬κ.fz b)
  (hno:∀id cs m e,H.get id=some (.cells cs m)→m≤e→e≤cs.length→(κ.pl id e).1≠b):
  κ.Le { κ with w:=w' }∧Sim { κ with w:=w' } H:=by
 have le:κ.Le { κ with w:=w' }:=⟨fun _ _ h=>⟨h,rfl⟩,fun k h=>⟨h,hk k (fun e=>hz (e▸h)) (S.fz k h)⟩,fun k h=>⟨h,hk k (fun e=>hz (e▸S.ic k h)) (S.fz k (S.ic k h))⟩,fun _ h=>.inl h,hn,hsz,hos,hta,hou,fun _ h=>⟨h,fun _ o=>o⟩,rfl,
  fun k r h=>⟨r,(hk k (fun e=>by subst e;rw [hb] at h;cases h) (lt_of_some h)).trans h⟩⟩
 refine ⟨le,⟨S.ok,S.hole,S.lt,fun k h=>Nat.lt_of_lt_of_le (S.fz k h) hsz,S.ic,S.le,fun id cs m hg e h1 h2=>?_,fun id o hg=>?_,S.sep,S.base,S.sepm,S.tb.mono le⟩⟩
 ·obtain ⟨⟨arr0,t0,fr0,q1,q2,q3,q4⟩,q5⟩:=S.cells id cs m hg e h1 h2
  exact ⟨⟨arr0,t0,fr0,(hk _ (hno id cs m e hg h1 h2) (lt_of_some q1)).trans q1,q2,fun j v a b=>(q3 j v a b).mono le,q4⟩,q5⟩
 ·obtain ⟨⟨x,q1,q2⟩,q3⟩:=S.maps id o hg
  exact ⟨⟨x,(hk _ (fun e=>by rw [e,hb] at q1;injection q1 with q1;subst q1;exact q2.not_cells) (lt_of_some q1)).trans q1,q2.mono le⟩,q3⟩
end Am
end Go.Proofs.YtikpijbeobeckaaGreatDoor
namespace Go.Proofs
open Go.Shelf Go.RowKit Go.Sort Go.Lib
def Tryz.laysNm221_ren:Go.Shelf.Ren:=⟨fun | 21=>220 | 27=>251 | 28=>252 | 35=>270 | 39=>279 | n=>n,fun | 22=>67 | 3=>3 | 4=>4 | 0=>0 | n=>n,fun | n=>n⟩
theorem Tryz.laysNm221:Go.Proofs.Lays2.n21 Tryz.prog Tryz.laysNm221_ren:={
 mixed:=by kernel_rfl
 f21:=Tryz.func220.trans (congrArg some (by kernel_rfl))
 f27:=Tryz.func251.trans (congrArg some (by kernel_rfl))
 f28:=Tryz.func252.trans (congrArg some (by kernel_rfl))
 f35:=Tryz.func270.trans (congrArg some (by kernel_rfl))
 f39:=Tryz.func279.trans (congrArg some (by kernel_rfl))
 t0:=Tryz.underlying0
 a0:=Tryz.isAgg0
 z0:=Tryz.sizeOf0
 v0:=Tryz.zeroValue0
 t3:=Tryz.underlying3
 a3:=Tryz.isAgg3
 z3:=Tryz.sizeOf3
 v3:=Tryz.zeroValue3
 t4:=Tryz.underlying4
 a4:=Tryz.isAgg4
 z4:=Tryz.sizeOf4
 v4:=Tryz.zeroValue4
 t22:=Tryz.underlying67
 a22:=Tryz.isAgg67
 z22:=Tryz.sizeOf67
 v22:=Tryz.zeroValue67
 i3:=by kernel_rfl }
end Go.Proofs
namespace Go.Proofs.YtikpijbeobeckaaGreatDoor
open Am C
namespace Am
open Go Go.RowKit
theorem y44 (b:Nat) (t:TypeId) (fr:Nat × Nat):∀(vs:List Value) (o:Nat) (arr:Array Value) (w:World),w.heap[b]?=some (.cells arr t fr)→o+vs.length≤arr.size→
  ∃arr',(w.setCells b o vs).heap[b]?=some (.cells arr' t fr)∧arr'.size=arr.size∧(∀q,q<o∨o+vs.length≤q→arr'.getD q undef=arr.getD q undef)∧(∀j,j<vs.length→arr'.getD (o+j) undef=vs.getD j undef)∧
   (∀k,k≠b→(w.setCells b o vs).heap[k]?=w.heap[k]?)∧(∀k,y2q (w.setCells b o vs) k=y2q w k)∧(w.setCells b o vs).heap.size=w.heap.size∧(w.setCells b o vs).os=w.os∧(w.setCells b o vs).tape=w.tape∧(w.setCells b o vs).output=w.output
 | [],o,arr,w,hg,hl=>⟨arr,hg,rfl,fun _ _=>rfl,fun j hj=>by simp at hj,fun _ _=>rfl,fun _=>rfl,rfl,rfl,rfl,rfl⟩
 | v::r,o,arr,w,hg,hl=>by
  simp only [kO] at hl
  obtain ⟨arr',h1,h2,h3,h4,h5,h6,h7,h8,h9,h10⟩:=y44 b t fr r (o+1) (arr.setIfInBounds o v) (w.setCell ⟨b,o,none⟩ v) (y7k v hg) (by simp;omega)
  refine ⟨arr',h1,by simpa using h2,fun q hq=>?_,fun j hj=>?_,fun k hk=>(h5 k hk).trans (Below.heap_setCell w _ v k hk),fun k=>(h6 k).trans (y8y w _ v k),by rw [World.setCells,h7];simp [World.setCell],h8,h9,h10⟩
  ·simp only [kO] at hq
   rw [h3 q (by omega)]
   simp [kH,Array.getElem?_setIfInBounds_ne (show o≠q by omega)]
  ·cases j with
   | zero=>
    rw [h3 _ (by omega)]
    simp [kH,show o<arr.size by omega]
   | succ j=>
    have:=h4 j (by simpa using hj)
    rw [show o+(j+1)=o+1+j by omega,this]
    simp
theorem ins_fin {κ:K} {H:Hp} (S:Sim κ H) {id m:Nat} {cs:List V} (hg:H.get id=some (.cells cs m)) {w':World} {b' o' cap:Nat} {arr:Array Value} {t:TypeId} {fr:Nat × Nat} {ds:List V}
  (hb:w'.heap[b']?=some (.cells arr t fr)) (ho:o'+cap≤arr.size) (hcap:ds.length≤cap∧cap≤9223372036854775807) (hd:∀(j:Nat) v,ds[j]?=some v→∃k n,v=.i k n∧arr.getD (o'+j) undef=.int k n) (hfr:fr.2≤fr.1∨(arr.size≤fr.1∧t=5))
  (hk:∀k,k≠(κ.pl id cs.length).1→k<κ.w.heap.size→w'.heap[k]?=κ.w.heap[k]?) (hn:∀k n,y2q κ.w k=some n→y2q w' k=some n) (hsz:κ.w.heap.size≤w'.heap.size)
  (hos:w'.os=κ.w.os) (hta:w'.tape=κ.w.tape) (hou:w'.output=κ.w.output) (hb':b'=(κ.pl id cs.length).1∨κ.w.heap.size≤b'):
  ∃κ':K,κ'.w=w'∧κ.Le κ'∧Sim κ' ((H.del id).add (.cells ds ds.length))∧VR κ' (.sl (some (H.next,0,ds.length)) ds.length 1) (.slice (some ⟨b',o',none⟩) ds.length cap):=by
 have hm:=S.le id cs m hg
 have hP:=S.cells id cs m hg cs.length hm (kG _)
 obtain ⟨⟨arr0,t0,fr0,q1,_⟩,qz⟩:=hP
 have S1:Sim κ (H.del id):=S.weak (Hp.del_sub H id)
 have hget:∀{k x},(H.del id).get k=some x→k≠id∧H.get k=some x:=fun {k x} h=>by
  simp only [Hp.del] at h
  split at h
  ·cases h
  ·rename_i hne;exact ⟨hne,h⟩
 have hno:∀k cs' m' e,(H.del id).get k=some (.cells cs' m')→m'≤e→e≤cs'.length→(κ.pl k e).1≠(κ.pl id cs.length).1:=fun k cs' m' e h h1 h2 hp=>by
  obtain ⟨hne,h⟩:=hget h
  exact hne (S.sep k id e cs.length cs' m' cs m h hg h1 h2 hm (kG _) hp)
 obtain ⟨le,S2⟩:=Sim.other S1 q1 hk hn hsz hos hta hou qz hno
 have hno2:∀k cs' m' e,(H.del id).get k=some (.cells cs' m')→m'≤e→e≤cs'.length→(κ.pl k e).1≠b':=fun k cs' m' e h h1 h2 hp=>by
  rcases hb' with hb' | hb'
  ·exact hno k cs' m' e h h1 h2 (hp.trans hb')
  ·obtain ⟨⟨a0,t1,f1,r1,_⟩,_⟩:=S1.cells k cs' m' h e h1 h2
   have:=lt_of_some r1
   omega
 have hz2:¬κ.fz b':=fun h=>by
  rcases hb' with hb' | hb'
  ·exact qz (hb'▸h)
  ·have:=S.fz b' h;omega
 obtain ⟨κ',e1,le2,S3,e2,e3⟩:=Sim.adopt S2 (ds:=ds) (o:=o') hb (by omega) (fun j v hj=>by obtain ⟨k,n,rfl,h⟩:=hd j v hj;rw [h];exact .i k n) hfr hz2 hno2
 have e2':κ'.pl H.next ds.length=(b',o'):=e2
 refine ⟨κ',e1,le.trans le2,S3,?_⟩
 refine .sl H.next 0 ds.length ds.length 1 cap (arr.size,t) _ e3 (by omega) hcap (by omega) (by omega) ?_ (by rw [e2'];simp;omega) (fun _=>by rw [e2'];rfl)
 rw [e2',e1]
 simp only [y2q,hb]
end Am
def nc (l:List Nat):List V:=l.map fun v=>.i .i64 (v:Nat)
def yem (l:List Nat) (i x:Nat):List Nat:=l.take i++x::l.drop i
theorem yfu {l:List Nat} {i x:Nat} (h:i≤l.length):(yem l i x).length=l.length+1:=by simp [yem];omega
end Go.Proofs.YtikpijbeobeckaaGreatDoor
