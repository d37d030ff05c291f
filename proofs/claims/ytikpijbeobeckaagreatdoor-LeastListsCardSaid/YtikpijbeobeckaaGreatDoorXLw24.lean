/- Part 24 of the proof of the laws of the queries: QWr3, QNamM, QIns, QIns2. -/
import Derived.Shelf.Spec.SlicesInsert
import Derived.Shelf.Spec.SlicesInsertGrow
import Derived.Ground.Names2Prog
import Derived.Test.YtikpijbeobeckaaGreatDoorXLw20
import Derived.Test.YtikpijbeobeckaaGreatDoorXLw23
set_option linter.unusedSimpArgs false
set_option linter.unusedVariables false
namespace Go.Proofs.YtikpijbeobeckaaGreatDoor
open Am C
theorem ykd (d:Nd) (hr:y5i d=true) (w:Go.World) (ht:Pow w):
    Go.Calls Tryz.prog 150 #[.agg #[.int .i64 d.kind,.string ⟨d.fn.toArray⟩,.int .i64 d.copy,.string ⟨d.name.toArray⟩,.int .i64 d.n,.int .i64 d.cell]] w fun e w'=>e=.returned (.string ⟨(y2z d).toArray⟩)∧Go.RowKit.Below w.heap.size w w':=by
  obtain ⟨k1,k7,hcp,hn,hcell,hfn,hnm,hnn⟩:=(y5v d).1 hr
  obtain ⟨k,fn,cp,nm,n,cl⟩:=d
  simp only at *
  have lfn:fn.length≤16:=by
    rcases hfn with ⟨a,b,c⟩ | ⟨a,b⟩
    · subst b;simp
    · exact yax b
  have lnm:nm.length≤16:=by
    rcases hnm with ⟨a,b⟩ | ⟨a,b⟩
    · exact yax b
    · subst b;simp
  have hcp':=of_decide_eq_true hcp
  have hn':=of_decide_eq_true hn
  have hcl:cl=-1∨(5≤k∧cl≠-1∧0≤cl∧cl≤268435456):=by
    rcases hcell with c | ⟨c,h⟩
    · exact .inl c
    · have:=of_decide_eq_true h
      exact .inr ⟨c,by omega,this⟩
  have hc0:cp=0∨0<cp:=by omega
  rcases (by omega:k=1∨k=2∨k=3∨k=4∨k=5∨k=6∨k=7) with rfl | rfl | rfl | rfl | rfl | rfl | rfl
  · rcases hcl with rfl | hl
    · rcases hc0 with rfl | hc
      · exact ykv fn nm n lfn lnm hn' w ht
      · exact yku fn cp nm n lfn lnm hn' hc (by omega) w ht
    · omega
  · rcases hcl with rfl | hl
    · rcases hc0 with rfl | hc
      · exact ykt fn nm n lfn lnm hn' w ht
      · exact yks fn cp nm n lfn lnm hn' hc (by omega) w ht
    · omega
  · rcases hcl with rfl | hl
    · rcases hc0 with rfl | hc
      · exact ykr fn nm n lfn lnm hn' w ht
      · exact ykq fn cp nm n lfn lnm hn' hc (by omega) w ht
    · omega
  · rcases hcl with rfl | hl
    · rcases hc0 with rfl | hc
      · exact ykp fn nm n lfn lnm hn' w ht
      · exact yko fn cp nm n lfn lnm hn' hc (by omega) w ht
    · omega
  · obtain ⟨hf0,h0⟩:fn=[]∧cp=0:=by
      rcases hfn with ⟨a,b,c⟩ | ⟨a,b⟩
      · exact ⟨b,c⟩
      · exact absurd rfl a
    subst h0
    rcases hcl with rfl | hl
    · exact ykn fn nm n lfn lnm hn' hf0 w ht
    · exact ykm fn nm n cl lfn lnm hn' hf0 hl.2.1 hl.2.2 w ht
  · rcases hcl with rfl | hl
    · rcases hc0 with rfl | hc
      · exact ykl fn nm n lfn lnm hn' w ht
      · exact ykj fn cp nm n lfn lnm hn' hc (by omega) w ht
    · rcases hc0 with rfl | hc
      · exact ykk fn nm n cl lfn lnm hn' hl.2.1 hl.2.2 w ht
      · exact yki fn cp nm n cl lfn lnm hn' hc (by omega) hl.2.1 hl.2.2 w ht
  · rcases hcl with rfl | hl
    · rcases hc0 with rfl | hc
      · exact ykh fn nm n lfn lnm hn' w ht
      · exact ykf fn cp nm n lfn lnm hn' hc (by omega) w ht
    · rcases hc0 with rfl | hc
      · exact ykg fn nm n cl lfn lnm hn' hl.2.1 hl.2.2 w ht
      · exact yke fn cp nm n cl lfn lnm hn' hc (by omega) hl.2.1 hl.2.2 w ht
theorem vr_nv {κ:K} {d:Nd} {c:Go.Value} (h:VR κ (nv d) c):c=.agg #[.int .i64 d.kind,.string ⟨d.fn.toArray⟩,.int .i64 d.copy,.string ⟨d.name.toArray⟩,.int .i64 d.n,.int .i64 d.cell]:=by
  unfold nv at h
  cases h with
  | agg _ cs hl hv=>
    have hl':cs.length=6:=hl.symm
    match cs,hl' with
    | [a0,a1,a2,a3,a4,a5],_=>
      have e0:=yhw (hv 0 _ rfl)
      have e1:=yky (hv 1 _ rfl)
      have e2:=yhw (hv 2 _ rfl)
      have e3:=yky (hv 3 _ rfl)
      have e4:=yhw (hv 4 _ rfl)
      have e5:=yhw (hv 5 _ rfl)
      simp at e0 e1 e2 e3 e4 e5
      subst e0 e1 e2 e3 e4 e5
      rfl
theorem ye6 (d:Nd) (hr:y5i d=true) (H:Hp):AC Tryz.prog 150 [nv d] H (fun v H'=>v=.s (y2z d)∧H'=H):=by
  refine AC.belowS (by kernel_rfl) fun κ cs S r=>?_
  obtain ⟨a,rfl,ra⟩:=r.one'
  obtain rfl:=vr_nv ra
  exact ⟨_,fun κ'=>.s _,ykd d hr κ.w (pow10_of S)⟩
def y5z (s:Str):Option Nd:=if (y7l s).2=true∧y5i (y7l s).1=true∧y2z (y7l s).1=s then some (y7l s).1 else none
theorem yfk (s:Str):(y7l s).1.fn.length≤s.length∧(y7l s).1.name.length≤s.length:=by
  have ht:∀(d:Nd) (r:Str),(y9b d r).1.fn=d.fn∧((y9b d r).1.name=d.name∨(y9b d r).1.name.length≤r.length):=by
    intro d r
    cases r with
    | nil=>simp [y9b]
    | cons c r=>
      simp only [y9b]
      repeat' split
      all_goals simp
  have hm:∀(d:Nd) (r:Str),(ycn d r).1.fn=d.fn∧((ycn d r).1.name=d.name∨(ycn d r).1.name.length≤r.length):=by
    intro d r
    cases r with
    | nil=>simp [ycn]
    | cons c r=>
      have hs:=y9n r
      simp only [ycn]
      repeat' split
      · simp
      · have:=ht { d with copy:=(y6b (y3p r).1).1 } (y3p r).2
        refine ⟨this.1,this.2.imp id fun h=>?_⟩
        simp;omega
      · exact ht _ _
  have hh:∀(cl:Int) (r:Str),(y92 cl r).1.fn.length≤r.length∧(y92 cl r).1.name.length≤r.length:=by
    intro cl r
    have hs:=y9n r
    simp only [y92]
    split
    · simp [Nd.zero];omega
    · have:=hm { Nd.zero with fn:=(y3p r).1,cell:=cl } (y3p r).2
      refine ⟨by rw [this.1];exact hs.1,?_⟩
      rcases this.2 with h | h
      · exact Nat.le_trans (Nat.le_of_eq (congrArg List.length h)) (by simp [Nd.zero])
      · exact Nat.le_trans h hs.2
  simp only [y7l]
  repeat' split
  · simp [Nd.zero]
  · rename_i h1 h2
    have:=hh (y6b (s.drop ((Go.Lib.indexByte s 43).toNat+1))).1 (s.take (Go.Lib.indexByte s 43).toNat)
    simp at this
    omega
  · exact hh _ _
theorem y86 (s:Str) (hs:s.length≤9223372036854775806) (H:Hp):AC Tryz.prog y4d [.s s] H (fun v H'=>v=rdV (y5z s)∧H'=H):=by
  have hfr:yar (rdV (y5z s)):=by
    unfold rdV;split <;> simp [nv,Nd.cs]
  have hl:=yfk s
  refine AC.codeP y2e.at y2e.ok hfr fun hlt=>?_
  simp only [y2e]
  apply jA
  simp [y2e.r0]
  apply jA
  simp [y2e.r1]
  refine AC.fix (read_ok s hs _) ?_
  have hrd:y5z s=if (y7l s).2=true∧y5i (y7l s).1=true∧y2z (y7l s).1=s then some (y7l s).1 else none:=rfl
  rw [hrd]
  clear hrd hfr
  generalize y7l s=q at hl ⊢
  obtain ⟨⟨k,fn,cp,nm,n,cl⟩,ok⟩:=q
  simp only at hl ⊢
  simp [rkV,nv,Nd.cs]
  have e1:H.Ext (((H.add (.cells [.i .i64 0,.s [],.i .i64 0,.s [],.i .i64 0,.i .i64 0] 6)).add (.cells [.i .i64 0,.s [],.i .i64 0,.s [],.i .i64 0,.i .i64 0] 6)).upd (H.next+1) (.cells [.i .i64 k,.s fn,.i .i64 cp,.s nm,.i .i64 n,.i .i64 cl] 6)):=
    (((Hp.Ext.add hlt _).trans (.add (Hp.add_lt hlt _) _)).upd hlt (by omega) _)
  obtain ⟨X,hX⟩:∃X,X=((H.add (.cells [.i .i64 0,.s [],.i .i64 0,.s [],.i .i64 0,.i .i64 0] 6)).add (.cells [.i .i64 0,.s [],.i .i64 0,.s [],.i .i64 0,.i .i64 0] 6)).upd (H.next+1) (.cells [.i .i64 k,.s fn,.i .i64 cp,.s nm,.i .i64 n,.i .i64 cl] 6):=⟨_,rfl⟩
  have g2:X.get H.next=some (.cells [.i .i64 0,.s [],.i .i64 0,.s [],.i .i64 0,.i .i64 0] 6):=by rw [hX];simp
  have g4:X.get (H.next+1)=some (.cells [.i .i64 k,.s fn,.i .i64 cp,.s nm,.i .i64 n,.i .i64 cl] 6):=by rw [hX];simp
  rw [←hX] at e1 ⊢
  clear hX
  refine AX.seq (AX.test (!(ok&&y5i ⟨k,fn,cp,nm,n,cl⟩&&decide (y2z ⟨k,fn,cp,nm,n,cl⟩=s))) [(2,.p (some (H.next,0,6))),(4,.p (some (H.next+1,0,6))),(23,.b (!(ok&&y5i ⟨k,fn,cp,nm,n,cl⟩&&decide (y2z ⟨k,fn,cp,nm,n,cl⟩=s))))] ?_ rfl (fun hz=>jA ?_) (fun hz=>AX.skip ?_))
  · by_cases b1:ok=true
    case neg=>simp [y2e.r2,b1]
    simp [y2e.r2,b1,g4]
    refine AC.fix (yi4 ⟨k,fn,cp,nm,n,cl⟩ (by simp only;omega) (by simp only;omega) _) ?_
    by_cases b2:y5i ⟨k,fn,cp,nm,n,cl⟩=true
    case neg=>simp [b1,b2]
    simp [b1,b2,g4]
    refine AC.fix (ye6 ⟨k,fn,cp,nm,n,cl⟩ b2 _) ?_
    by_cases b3:y2z ⟨k,fn,cp,nm,n,cl⟩=s
    · simp [b3]
    · simp [b3,show (y2z ⟨k,fn,cp,nm,n,cl⟩ == s)=false by simpa using b3]
  · simp [y2e.r3,g2]
    apply jD
    have hn:¬(ok=true∧y5i ⟨k,fn,cp,nm,n,cl⟩=true∧y2z ⟨k,fn,cp,nm,n,cl⟩=s):=by
      rintro ⟨b1,b2,b3⟩;rw [b1,b2,decide_eq_true b3] at hz;cases hz
    rw [if_neg hn]
    simp [rdV,nv,Nd.cs,Nd.zero]
    exact ⟨e1.upd hlt (Nat.le_refl _) _,.refl _⟩
  have hn:ok=true∧y5i ⟨k,fn,cp,nm,n,cl⟩=true∧y2z ⟨k,fn,cp,nm,n,cl⟩=s:=by
    simp only [Bool.not_eq_false',Bool.and_eq_true,decide_eq_true_eq] at hz
    exact ⟨hz.1.1,hz.1.2,hz.2⟩
  rw [if_pos hn]
  simp
  apply jA
  simp [y2e.r4,g2,g4]
  apply jD
  simp [rdV,nv,Nd.cs]
  exact ⟨e1.upd hlt (Nat.le_refl _) _,.refl _⟩
theorem ybv {l:Str} {c:UInt8} (h:c∉l):Go.Lib.indexByte l c=-1:=by
  induction l with
  | nil=>rfl
  | cons b l ih=>
    simp only [List.mem_cons,not_or] at h
    have e:(b == c)=false:=by simpa using fun hh:b=c=>h.1 hh.symm
    simp [Go.Lib.indexByte,e,ih h.2]
theorem ybw {l r:Str} {c:UInt8} (h:c∉l):Go.Lib.indexByte (l++c::r) c=l.length:=by
  induction l with
  | nil=>simp [Go.Lib.indexByte]
  | cons b l ih=>
    simp only [List.mem_cons,not_or] at h
    have e:(b == c)=false:=by simpa using fun hh:b=c=>h.1 hh.symm
    simp only [List.cons_append,Go.Lib.indexByte,e,ih h.2]
    have:((l.length:Int) == -1)=false:=by simp
    simp [this]
theorem yhz {a b:Str} (w:Bool) (hw:y96 (a++b)=w) (ha:a.all (inB w)=true) (hb:∀c r,b=c::r→inB w c=false):y3p (a++b)=(a,b):=by
  unfold y3p
  rw [hw]
  have:(a++b).takeWhile (inB w)=a∧(a++b).dropWhile (inB w)=b:=by
    have:=y9a (p:=inB w) (l:=a++b) (i:=a.length) (by simpa using ha) (by simp) (fun x hx=>by
      rw [List.getElem?_append_right (Nat.le_refl _),Nat.sub_self] at hx
      cases b with
      | nil=>simp at hx
      | cons c r=>simp at hx;subst hx;exact hb _ _ rfl)
    simpa using this
  rw [this.1,this.2]
theorem yah {s:Str} (h:y6a s=true):s.length≤16∧y96 s=true∧s.all (inB true)=true∧s≠[]:=by
  unfold y6a at h;simp only [Bool.and_eq_true,decide_eq_true_eq] at h
  refine ⟨h.1.1,h.1.2,h.2,fun e=>?_⟩
  subst e;exact absurd h.1.2 (by decide)
theorem ybn {a b:Str} (h:a≠[]):y96 (a++b)=y96 a:=by
  cases a with
  | nil=>exact absurd rfl h
  | cons c r=>rfl
theorem ydm {a b:Str} (h:y6a a=true) (hb:∀c r,b=c::r→inB true c=false):y3p (a++b)=(a,b):=by
  obtain ⟨_,h2,h3,h4⟩:=yah h
  exact yhz true (by rw [ybn h4,h2]) h3 hb
theorem ycd (n:Nat):(y4s n).all ybz=true:=by
  induction n using Nat.strongRecOn with
  | ind n ih=>
    have hd:ybz (dgB n)=true:=by simp [ybz,yb4];omega
    by_cases h:n<10
    · rw [y72 h];simp [hd]
    · rw [yb5 h,List.all_append,ih (n / 10) (by omega)];simp [hd]
theorem yew (n:Nat):y4s n≠[]:=by
  by_cases h:n<10
  · rw [y72 h];simp
  · rw [yb5 h];simp
theorem ykx (n:Nat):y96 (y4s n)=false:=by
  have h:=ycd n
  have h2:=yew n
  cases hd:y4s n with
  | nil=>exact absurd hd h2
  | cons c r=>
    rw [hd] at h
    simp only [List.all_cons,Bool.and_eq_true] at h
    show yf7 c=false
    cases hl:yf7 c with
    | false=>rfl
    | true=>rw [yn5 c hl] at h;exact absurd h.1 (by decide)
theorem yfy:inB false=ybz:=by funext c;simp [inB]
theorem yl6 {n:Nat} {b:Str} (hb:∀c r,b=c::r→ybz c=false):y3p (y4s n++b)=(y4s n,b):=
  yhz false (by rw [ybn (yew n),ykx]) (by rw [yfy];exact ycd n) (by rw [yfy];exact hb)
theorem ygn (l:Str) (c:UInt8):yl0 (l++[c])=10*yl0 l+(c.toNat-48):=by unfold yl0;rw [List.foldl_append];rfl
theorem valD_dec (n:Nat):yl0 (y4s n)=n:=by
  induction n using Nat.strongRecOn with
  | ind n ih=>
    by_cases h:n<10
    · rw [y72 h]
      show 10*0+((dgB n).toNat-48)=n
      rw [yb4];omega
    · rw [yb5 h,ygn,ih (n / 10) (by omega),yb4];omega
theorem yn6 (n:Nat) (h0:0<n):(y4s n)[0]?≠some 48:=by
  induction n using Nat.strongRecOn with
  | ind n ih=>
    by_cases h:n<10
    · rw [y72 h]
      intro hh;simp at hh
      have:=yb4 n
      rw [hh] at this
      have e:(48:UInt8).toNat=48:=rfl
      omega
    · rw [yb5 h,List.getElem?_append_left (List.length_pos_iff.2 (yew _))]
      exact ih (n / 10) (by omega) (by omega)
theorem yco {n:Nat} (h:n≤268435456):y6b (y4s n)=(n,0):=by
  have hz:¬((y4s n)[0]?=some 48∧1<(y4s n).length):=by
    rintro ⟨h1,h2⟩
    rcases Nat.eq_zero_or_pos n with h0 | h0
    · subst h0;rw [y72 (by omega)] at h2;simp at h2
    · exact yn6 n h0 h1
  unfold y6b
  rw [if_neg (yew n),if_neg (by rw [ycd];simp),if_neg hz,valD_dec,if_neg (by omega)]
theorem yfq {s:Str} (h:s.all (inB true)=true):(43:UInt8)∉s:=fun hm=>by
  have:=List.all_eq_true.1 h _ hm
  exact absurd this (by decide)
theorem yie (n:Nat):(43:UInt8)∉y4s n:=fun hm=>by
  have:=List.all_eq_true.1 (ycd n) _ hm
  exact absurd this (by decide)
def ybi (k:Int):UInt8:=if k=1 then 46 else if k=2 then 36 else if k=3 then 64 else if k=4 then 40 else if k=6 then 37 else 35
def ye9 (d:Nd):Str:=if d.kind=4 then [41] else if ylt d.kind then y4s d.n.toNat else d.name
theorem yni {d:Nd} (h:RightN d) (hk:d.kind≠5):y5y d=d.fn++(y5h d.copy++ybi d.kind::ye9 d):=by
  have h1:=h.k1;have h7:=h.k7
  obtain ⟨k,fn,cp,nm,n,cl⟩:=d
  simp only at *
  rcases (by omega:k=1∨k=2∨k=3∨k=4∨k=6∨k=7) with rfl | rfl | rfl | rfl | rfl | rfl <;> rfl
theorem yn7 {d:Nd} (h:RightN d):0≤d.copy∧d.copy≤268435456:=of_decide_eq_true h.cp
theorem num_fn {d:Nd} (h:RightN d):0≤d.n∧d.n≤268435456:=of_decide_eq_true h.n
theorem ylw (c:Int):(43:UInt8)∉y5h c:=by
  unfold y5h;split
  · simp only [List.mem_cons,not_or];exact ⟨by decide,yie _⟩
  · simp
theorem ydx {d:Nd} (h:RightN d):d.name=[]∨y6a d.name=true:=h.nm.elim (fun x=>.inr x.2) (fun x=>.inl x.2)
theorem ylv {d:Nd} (h:RightN d):(43:UInt8)∉d.name:=by
  rcases ydx h with e | e
  · rw [e];simp
  · exact yfq (yah e).2.2.1
theorem no43_fn {d:Nd} (h:RightN d):(43:UInt8)∉d.fn:=by
  rcases h.fn with ⟨_,e,_⟩ | ⟨_,e⟩
  · rw [e];simp
  · exact yfq (yah e).2.2.1
theorem ylu {d:Nd} (h:RightN d):(43:UInt8)∉ye9 d:=by
  unfold ye9;split
  · decide
  · split
    · exact yie _
    · exact ylv h
theorem ylx {d:Nd} (h:RightN d):(43:UInt8)∉y5y d:=by
  by_cases hk:d.kind=5
  · have:y5y d=d.name:=by unfold y5y;simp [hk]
    rw [this];exact ylv h
  · rw [yni h hk]
    simp only [List.mem_append,List.mem_cons,not_or]
    refine ⟨no43_fn h,ylw _,?_,ylu h⟩
    unfold ybi;repeat' split
    all_goals decide
theorem kind5 {d:Nd} (h:RightN d) (hk:d.kind=5):d.fn=[]∧d.copy=0∧y6a d.name=true∧d.n=0:=by
  rcases h.fn with ⟨_,a,b⟩ | ⟨a,_⟩
  · refine ⟨a,b,?_,?_⟩
    · rcases h.nm with ⟨_,x⟩ | ⟨x,_⟩
      · exact x
      · rw [hk] at x;exact absurd x (by decide)
    · rcases h.nn with ⟨x,_⟩ | ⟨_,x⟩
      · rw [hk] at x;exact absurd x (by decide)
      · exact x
  · exact absurd hk a
theorem kindN {d:Nd} (h:RightN d) (hk:d.kind≠5):y6a d.fn=true:=by
  rcases h.fn with ⟨x,_⟩ | ⟨_,x⟩
  · exact absurd x hk
  · exact x
theorem yjr (cp:Int) (m:UInt8) (r:Str) (hm:inB true m=false):∀c q,y5h cp++m::r=c::q→inB true c=false:=by
  intro c q h;unfold y5h at h;split at h
  · simp at h;rw [←h.1];decide
  · simp at h;rw [←h.1];exact hm
theorem yeo {k:Int}:inB true (ybi k)=false∧ybz (ybi k)=false∧ybi k≠126∧ybi k≠43:=by
  unfold ybi;repeat' split
  all_goals decide
theorem yfe {d:Nd} (h:RightN d) (hk:d.kind≠5):y9b ⟨0,d.fn,d.copy,[],0,d.cell⟩ (ybi d.kind::ye9 d)=(d,true):=by
  have h1:=h.k1;have h7:=h.k7;have hn:=num_fn h
  have hnm:=h.nm;have hnn:=h.nn
  obtain ⟨k,fn,cp,nm,n,cl⟩:=d
  simp only at *
  have rd:y6b (y4s n.toNat)=(n.toNat,0):=yco (by omega)
  have en:((n.toNat:Nat):Int)=n:=by omega
  rcases (by omega:k=1∨k=2∨k=3∨k=4∨k=6∨k=7) with rfl | rfl | rfl | rfl | rfl | rfl <;>
    simp [ybs,ylt] at hnm hnn <;>
    simp [y9b,ybi,ye9,yii,Go.Lib.indexByte,ylt,rd,en,hnm,hnn]
theorem ygu {d:Nd} (h:RightN d) (hk:d.kind≠5):ycn ⟨0,d.fn,0,[],0,d.cell⟩ (y5h d.copy++ybi d.kind::ye9 d)=(d,true):=by
  have hc:=yn7 h
  have ht:=yfe h hk
  by_cases h0:0<d.copy
  · have e:y5h d.copy=126::y4s d.copy.toNat:=by unfold y5h;rw [if_pos h0]
    have es:y3p (y4s d.copy.toNat++ybi d.kind::ye9 d)=(y4s d.copy.toNat,ybi d.kind::ye9 d):=yl6 fun c r hh=>by injection hh with hh _;rw [←hh];exact yeo.2.1
    rw [e,List.cons_append]
    simp only [ycn,if_true,es,yco (show d.copy.toNat≤268435456 by omega)]
    rw [if_neg (by simp),show ((d.copy.toNat:Nat):Int)=d.copy by omega]
    exact ht
  · have e:y5h d.copy=[]:=by unfold y5h;rw [if_neg h0]
    have e0:d.copy=0:=by omega
    rw [e,List.nil_append]
    simp only [ycn]
    rw [if_neg yeo.2.2.1]
    rw [e0] at ht
    exact ht
theorem yff {d:Nd} (h:RightN d):y92 d.cell (y5y d)=(d,true):=by
  by_cases hk:d.kind=5
  · obtain ⟨a,b,c,e⟩:=kind5 h hk
    have eb:y5y d=d.name++[]:=by unfold y5y;simp [hk]
    have es:=ydm (b:=[]) c (by simp)
    rw [eb]
    simp only [y92,es]
    rw [if_pos trivial]
    obtain ⟨k,fn,cp,nm,n,cl⟩:=d
    simp only at *
    subst hk a b e;rfl
  · have es:y3p (y5y d)=(d.fn,y5h d.copy++ybi d.kind::ye9 d):=by
      rw [yni h hk]
      exact ydm (kindN h hk) (yjr _ _ _ yeo.1)
    simp only [y92,es]
    rw [if_neg (by simp)]
    exact ygu h hk
theorem ygv {d:Nd} (h:RightN d):y7l (y2z d)=(d,true):=by
  have hb:=ylx h
  have hh:=yff h
  unfold y7l y2z
  by_cases hc:0≤d.cell
  · have hc2:d.cell≤268435456:=by
      rcases h.cell with c | ⟨_,c⟩
      · omega
      · exact (of_decide_eq_true c).2
    have e:y7i d.cell=43::y4s d.cell.toNat:=by unfold y7i;rw [if_pos hc]
    rw [e,ybw hb]
    have e1:(y5y d++43::y4s d.cell.toNat).drop ((y5y d).length+1)=y4s d.cell.toNat:=by
      rw [←List.drop_drop];simp
    have e2:(y5y d++43::y4s d.cell.toNat).take (y5y d).length=y5y d:=by simp
    simp only [Int.toNat_natCast,e1,e2,yco (show d.cell.toNat≤268435456 by omega)]
    rw [if_pos (by omega),if_neg (by simp),show ((d.cell.toNat:Nat):Int)=d.cell by omega]
    exact hh
  · have e:y7i d.cell=[]:=by unfold y7i;rw [if_neg hc]
    have e1:d.cell=-1:=by
      rcases h.cell with c | ⟨_,c⟩
      · exact c
      · have:=of_decide_eq_true c;omega
    rw [e,List.append_nil,ybv hb]
    simp only
    rw [if_neg (by omega),←e1]
    exact hh
namespace Am
open Go Go.RowKit
theorem Sim.adopt {κ:K} {H:Hp} (S:Sim κ H) {b o:Nat} {ds:List V} {arr:Array Value} {t:TypeId} {fr:Nat × Nat} (hb:κ.w.heap[b]?=some (.cells arr t fr)) (hsz:o+ds.length≤arr.size)
    (hv:∀(j:Nat) v,ds[j]?=some v→VR κ v (arr.getD (o+j) undef)) (hfr:fr.2≤fr.1∨(arr.size≤fr.1∧t=5)) (hz:¬κ.fz b)
    (hno:∀id cs m e,H.get id=some (.cells cs m)→m≤e→e≤cs.length→(κ.pl id e).1≠b):
    ∃κ':K,κ'.w=κ.w∧κ.Le κ'∧Sim κ' (H.add (.cells ds ds.length))∧κ'.pl H.next ds.length=(b,o)∧κ'.ok H.next ds.length:=by
  let κ2:K:={ κ with pl:=fun k e=>if k=H.next then (b,o) else κ.pl k e,ok:=fun k e=>κ.ok k e∨(k=H.next∧e≤ds.length) }
  have plo:∀{k e},k≠H.next→κ2.pl k e=κ.pl k e:=fun h=>if_neg h
  have pln:∀{e},κ2.pl H.next e=(b,o):=if_pos rfl
  have le:κ.Le κ2:=⟨fun k e h=>⟨.inl h,plo (by have:=(S.ok k e h).1;omega)⟩,fun b h=>⟨h,rfl⟩,fun b h=>⟨h,rfl⟩,fun b h=>.inl h,fun b n h=>h,Nat.le_refl _,rfl,rfl,rfl,
    fun k h=>⟨h,fun e o=>o.elim id fun x=>by have:=(S.hole k h).1;omega⟩,rfl,fun b r h=>⟨r,h⟩⟩
  have gne:∀{k},k≠H.next→(H.add (.cells ds ds.length)).get k=H.get k:=fun h=>by simp [h]
  have geq:(H.add (.cells ds ds.length)).get H.next=some (.cells ds ds.length):=by simp
  refine ⟨κ2,rfl,le,⟨fun k e h=>?_,fun k h=>?_,Hp.add_lt S.lt _,S.fz,S.ic,fun k cs m h=>?_,fun k cs m h e h1 h2=>?_,fun k o' h=>?_,fun k k' e e' cs1 m1 cs2 m2 g1 g2 a1 a2 b1 b2 hp=>?_,fun k cs' m' e e' h a1 a2 b1 b2 hp=>?_,fun k k' es es' g1 g2 hp=>?_,S.tb.mono le⟩,pln,.inr ⟨rfl,Nat.le_refl _⟩⟩
  · rcases h with h | ⟨rfl,h⟩
    · obtain ⟨h1,h2⟩:=S.ok k e h
      exact ⟨by simp;omega,fun cs m hg=>h2 cs m (by rw [gne (by omega)] at hg;exact hg)⟩
    · refine ⟨by simp,fun cs m hg=>?_⟩
      rw [geq] at hg;injection hg with hg;injection hg with x y;subst x;exact h
  · obtain ⟨h1,h2⟩:=S.hole k h
    exact ⟨by simp;omega,by rw [gne (by omega)];exact h2⟩
  · by_cases hk:k=H.next
    · subst hk;rw [geq] at h;injection h with h;injection h with x y;subst x;subst y;exact Nat.le_refl _
    · rw [gne hk] at h;exact S.le k cs m h
  · by_cases hk:k=H.next
    · subst hk;rw [geq] at h;injection h with h;injection h with x y;subst x;subst y
      have:e=ds.length:=by omega
      subst this
      exact ⟨⟨arr,t,fr,by rw [pln];exact hb,by rw [pln];exact hsz,fun j v _ hj=>by rw [pln];exact (hv j v hj).mono le,hfr⟩,by rw [pln];exact hz⟩
    · rw [gne hk] at h
      obtain ⟨⟨arr0,t0,fr0,q1,q2,q3,q4⟩,q5⟩:=S.cells k cs m h e h1 h2
      exact ⟨⟨arr0,t0,fr0,by rw [plo hk];exact q1,by rw [plo hk];exact q2,fun j v hj hv=>by rw [plo hk];exact (q3 j v hj hv).mono le,q4⟩,by rw [plo hk];exact q5⟩
  · by_cases hk:k=H.next
    · subst hk;rw [geq] at h;injection h with h;cases h
    · rw [gne hk] at h
      obtain ⟨⟨x,q1,q2⟩,q3⟩:=S.maps k o' h
      exact ⟨⟨x,by rw [plo hk];exact q1,q2.mono le⟩,by rw [plo hk];exact q3⟩
  · by_cases hk:k=H.next <;> by_cases hk':k'=H.next
    · rw [hk,hk']
    · rw [gne hk'] at g2
      rw [plo hk'] at hp;subst hk;rw [pln] at hp
      exact absurd hp.symm (hno k' cs2 m2 e' g2 b1 b2)
    · rw [gne hk] at g1
      rw [plo hk] at hp;subst hk';rw [pln] at hp
      exact absurd hp (hno k cs1 m1 e g1 a1 a2)
    · rw [gne hk] at g1;rw [gne hk'] at g2
      rw [plo hk,plo hk'] at hp
      exact S.sep k k' e e' cs1 m1 cs2 m2 g1 g2 a1 a2 b1 b2 hp
  · by_cases hk:k=H.next
    · subst hk;rw [pln,pln]
    · rw [gne hk] at h
      rw [plo hk,plo hk] at hp ⊢
      exact S.base k cs' m' e e' h a1 a2 b1 b2 hp
  · by_cases hk:k=H.next
    · subst hk;rw [geq] at g1;injection g1 with g1;cases g1
    · by_cases hk':k'=H.next
      · subst hk';rw [geq] at g2;injection g2 with g2;cases g2
      · rw [gne hk] at g1;rw [gne hk'] at g2
        rw [plo hk,plo hk'] at hp
        exact S.sepm k k' es es' g1 g2 hp
theorem Sim.other {κ:K} {H:Hp} (S:Sim κ H) {b:Nat} {w':World} {arr:Array Value} {t:TypeId} {fr:Nat × Nat} (hb:κ.w.heap[b]?=some (.cells arr t fr))
    (hk:∀k,k≠b→k<κ.w.heap.size→w'.heap[k]?=κ.w.heap[k]?) (hn:∀k n,y2j κ.w k=some n→y2j w' k=some n) (hsz:κ.w.heap.size≤w'.heap.size)
    (hos:w'.os=κ.w.os) (hta:w'.tape=κ.w.tape) (hou:w'.output=κ.w.output) (hz:¬κ.fz b)
    (hno:∀id cs m e,H.get id=some (.cells cs m)→m≤e→e≤cs.length→(κ.pl id e).1≠b):
    κ.Le { κ with w:=w' }∧Sim { κ with w:=w' } H:=by
  have le:κ.Le { κ with w:=w' }:=⟨fun _ _ h=>⟨h,rfl⟩,fun k h=>⟨h,hk k (fun e=>hz (e▸h)) (S.fz k h)⟩,fun k h=>⟨h,hk k (fun e=>hz (e▸S.ic k h)) (S.fz k (S.ic k h))⟩,fun _ h=>.inl h,hn,hsz,hos,hta,hou,fun _ h=>⟨h,fun _ o=>o⟩,rfl,
    fun k r h=>⟨r,(hk k (fun e=>by subst e;rw [hb] at h;cases h) (lt_of_some h)).trans h⟩⟩
  refine ⟨le,⟨S.ok,S.hole,S.lt,fun k h=>Nat.lt_of_lt_of_le (S.fz k h) hsz,S.ic,S.le,fun id cs m hg e h1 h2=>?_,fun id o hg=>?_,S.sep,S.base,S.sepm,S.tb.mono le⟩⟩
  · obtain ⟨⟨arr0,t0,fr0,q1,q2,q3,q4⟩,q5⟩:=S.cells id cs m hg e h1 h2
    exact ⟨⟨arr0,t0,fr0,(hk _ (hno id cs m e hg h1 h2) (lt_of_some q1)).trans q1,q2,fun j v a b=>(q3 j v a b).mono le,q4⟩,q5⟩
  · obtain ⟨⟨x,q1,q2⟩,q3⟩:=S.maps id o hg
    exact ⟨⟨x,(hk _ (fun e=>by rw [e,hb] at q1;injection q1 with q1;subst q1;exact q2.not_cells) (lt_of_some q1)).trans q1,q2.mono le⟩,q3⟩
end Am
end Go.Proofs.YtikpijbeobeckaaGreatDoor
namespace Go.Proofs
open Go.Shelf Go.RowKit Go.Sort Go.Lib
def Tryz.laysNm221_ren:Go.Shelf.Ren:=⟨fun | 21=>220 | 27=>251 | 28=>252 | 35=>270 | 39=>279 | n=>n,fun | 22=>67 | 3=>3 | 4=>4 | 0=>0 | n=>n,fun | n=>n⟩
theorem Tryz.laysNm221:Go.Proofs.Lays2.n21 Tryz.prog Tryz.laysNm221_ren:={
  mixed:=by kernel_rfl
  f21:=Tryz.func220.trans (congrArg some (by kernel_rfl))
  f27:=Tryz.func251.trans (congrArg some (by kernel_rfl))
  f28:=Tryz.func252.trans (congrArg some (by kernel_rfl))
  f35:=Tryz.func270.trans (congrArg some (by kernel_rfl))
  f39:=Tryz.func279.trans (congrArg some (by kernel_rfl))
  t0:=Tryz.underlying0
  a0:=Tryz.isAgg0
  z0:=Tryz.sizeOf0
  v0:=Tryz.zeroValue0
  t3:=Tryz.underlying3
  a3:=Tryz.isAgg3
  z3:=Tryz.sizeOf3
  v3:=Tryz.zeroValue3
  t4:=Tryz.underlying4
  a4:=Tryz.isAgg4
  z4:=Tryz.sizeOf4
  v4:=Tryz.zeroValue4
  t22:=Tryz.underlying67
  a22:=Tryz.isAgg67
  z22:=Tryz.sizeOf67
  v22:=Tryz.zeroValue67
  i3:=by kernel_rfl }
end Go.Proofs
namespace Go.Proofs.YtikpijbeobeckaaGreatDoor
open Am C
namespace Am
open Go Go.RowKit
theorem y3z (b:Nat) (t:TypeId) (fr:Nat × Nat):∀(vs:List Value) (o:Nat) (arr:Array Value) (w:World),w.heap[b]?=some (.cells arr t fr)→o+vs.length≤arr.size→
    ∃arr',(w.setCells b o vs).heap[b]?=some (.cells arr' t fr)∧arr'.size=arr.size∧(∀q,q<o∨o+vs.length≤q→arr'.getD q undef=arr.getD q undef)∧(∀j,j<vs.length→arr'.getD (o+j) undef=vs.getD j undef)∧
      (∀k,k≠b→(w.setCells b o vs).heap[k]?=w.heap[k]?)∧(∀k,y2j (w.setCells b o vs) k=y2j w k)∧(w.setCells b o vs).heap.size=w.heap.size∧(w.setCells b o vs).os=w.os∧(w.setCells b o vs).tape=w.tape∧(w.setCells b o vs).output=w.output
  | [],o,arr,w,hg,hl=>⟨arr,hg,rfl,fun _ _=>rfl,fun j hj=>by simp at hj,fun _ _=>rfl,fun _=>rfl,rfl,rfl,rfl,rfl⟩
  | v::r,o,arr,w,hg,hl=>by
    simp only [List.length_cons] at hl
    obtain ⟨arr',h1,h2,h3,h4,h5,h6,h7,h8,h9,h10⟩:=y3z b t fr r (o+1) (arr.setIfInBounds o v) (w.setCell ⟨b,o,none⟩ v) (y70 v hg) (by simp;omega)
    refine ⟨arr',h1,by simpa using h2,fun q hq=>?_,fun j hj=>?_,fun k hk=>(h5 k hk).trans (Below.heap_setCell w _ v k hk),fun k=>(h6 k).trans (y8f w _ v k),by rw [World.setCells,h7];simp [World.setCell],h8,h9,h10⟩
    · simp only [List.length_cons] at hq
      rw [h3 q (by omega)]
      simp [Array.getD_eq_getD_getElem?,Array.getElem?_setIfInBounds_ne (show o≠q by omega)]
    · cases j with
      | zero=>
        rw [h3 _ (by omega)]
        simp [Array.getD_eq_getD_getElem?,show o<arr.size by omega]
      | succ j=>
        have:=h4 j (by simpa using hj)
        rw [show o+(j+1)=o+1+j by omega,this]
        simp
theorem ins_fin {κ:K} {H:Hp} (S:Sim κ H) {id m:Nat} {cs:List V} (hg:H.get id=some (.cells cs m)) {w':World} {b' o' cap:Nat} {arr:Array Value} {t:TypeId} {fr:Nat × Nat} {ds:List V}
    (hb:w'.heap[b']?=some (.cells arr t fr)) (ho:o'+cap≤arr.size) (hcap:ds.length≤cap∧cap≤9223372036854775807) (hd:∀(j:Nat) v,ds[j]?=some v→∃k n,v=.i k n∧arr.getD (o'+j) undef=.int k n) (hfr:fr.2≤fr.1∨(arr.size≤fr.1∧t=5))
    (hk:∀k,k≠(κ.pl id cs.length).1→k<κ.w.heap.size→w'.heap[k]?=κ.w.heap[k]?) (hn:∀k n,y2j κ.w k=some n→y2j w' k=some n) (hsz:κ.w.heap.size≤w'.heap.size)
    (hos:w'.os=κ.w.os) (hta:w'.tape=κ.w.tape) (hou:w'.output=κ.w.output) (hb':b'=(κ.pl id cs.length).1∨κ.w.heap.size≤b'):
    ∃κ':K,κ'.w=w'∧κ.Le κ'∧Sim κ' ((H.del id).add (.cells ds ds.length))∧VR κ' (.sl (some (H.next,0,ds.length)) ds.length 1) (.slice (some ⟨b',o',none⟩) ds.length cap):=by
  have hm:=S.le id cs m hg
  have hP:=S.cells id cs m hg cs.length hm (Nat.le_refl _)
  obtain ⟨⟨arr0,t0,fr0,q1,_⟩,qz⟩:=hP
  have S1:Sim κ (H.del id):=S.weak (Hp.del_sub H id)
  have hget:∀{k x},(H.del id).get k=some x→k≠id∧H.get k=some x:=fun {k x} h=>by
    simp only [Hp.del] at h
    split at h
    · cases h
    · rename_i hne;exact ⟨hne,h⟩
  have hno:∀k cs' m' e,(H.del id).get k=some (.cells cs' m')→m'≤e→e≤cs'.length→(κ.pl k e).1≠(κ.pl id cs.length).1:=fun k cs' m' e h h1 h2 hp=>by
    obtain ⟨hne,h⟩:=hget h
    exact hne (S.sep k id e cs.length cs' m' cs m h hg h1 h2 hm (Nat.le_refl _) hp)
  obtain ⟨le,S2⟩:=Sim.other S1 q1 hk hn hsz hos hta hou qz hno
  have hno2:∀k cs' m' e,(H.del id).get k=some (.cells cs' m')→m'≤e→e≤cs'.length→(κ.pl k e).1≠b':=fun k cs' m' e h h1 h2 hp=>by
    rcases hb' with hb' | hb'
    · exact hno k cs' m' e h h1 h2 (hp.trans hb')
    · obtain ⟨⟨a0,t1,f1,r1,_⟩,_⟩:=S1.cells k cs' m' h e h1 h2
      have:=lt_of_some r1
      omega
  have hz2:¬κ.fz b':=fun h=>by
    rcases hb' with hb' | hb'
    · exact qz (hb'▸h)
    · have:=S.fz b' h;omega
  obtain ⟨κ',e1,le2,S3,e2,e3⟩:=Sim.adopt S2 (ds:=ds) (o:=o') hb (by omega) (fun j v hj=>by obtain ⟨k,n,rfl,h⟩:=hd j v hj;rw [h];exact .i k n) hfr hz2 hno2
  have e2':κ'.pl H.next ds.length=(b',o'):=e2
  refine ⟨κ',e1,le.trans le2,S3,?_⟩
  refine .sl H.next 0 ds.length ds.length 1 cap (arr.size,t) _ e3 (by omega) hcap (by omega) (by omega) ?_ (by rw [e2'];simp;omega) (fun _=>by rw [e2'];rfl)
  rw [e2',e1]
  simp only [y2j,hb]
end Am
def nc (l:List Nat):List V:=l.map fun v=>.i .i64 (v:Nat)
def ydh (l:List Nat) (i x:Nat):List Nat:=l.take i++x::l.drop i
theorem yer {l:List Nat} {i x:Nat} (h:i≤l.length):(ydh l i x).length=l.length+1:=by simp [ydh];omega
end Go.Proofs.YtikpijbeobeckaaGreatDoor
