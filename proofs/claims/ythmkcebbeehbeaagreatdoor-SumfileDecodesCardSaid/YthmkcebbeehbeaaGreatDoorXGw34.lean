/- Part 34. -/
import Derived.Test.YthmkcebbeehbeaaGreatDoorXGw33
set_option linter.unusedSimpArgs false
set_option linter.unusedVariables false
namespace Go.Proofs.YthmkcebbeehbeaaGreatDoor
open Am C
theorem u8_of (c:UInt8):UInt8.ofNat c.toNat=c:=by simp
theorem ynw:∀(r:Str) (k n:Nat),(rdN k n r).2.2=0→∃q,(rdN k n r).1=n+128 ^ k*q∧(0<k→q≠0)∧k≤(rdN k n r).2.1∧r=y8x q++r.drop ((rdN k n r).2.1-k)∧(y8x q).length=(rdN k n r).2.1-k
 | [],k,n,h=>by simp [rdN] at h
 | c::r,k,n,h=>by
  have hc:=c.toNat_lt
  simp only [rdN] at h ⊢
  by_cases h1:k=4∧1<c.toNat
  ·rw [if_pos h1] at h;simp at h
  rw [if_neg h1] at h ⊢
  by_cases h2:128≤c.toNat
  ·rw [if_pos h2] at h ⊢
   obtain ⟨q,e1,e2,e3,e4,e5⟩:=ynw r (k+1) (n+c.toNat % 128*128 ^ k) h
   generalize rdN (k+1) (n+c.toNat % 128*128 ^ k) r=R at *
   have hq:=e2 (by omega)
   have hv:y8x (c.toNat % 128+128*q)=c::y8x q:=by
    rw [yii (by omega),show (c.toNat % 128+128*q) % 128+128=c.toNat by omega,show (c.toNat % 128+128*q) / 128=q by omega,u8_of]
   refine ⟨c.toNat % 128+128*q,?_,fun _=>by omega,by omega,?_,?_⟩
   ·rw [e1,Nat.pow_succ,Nat.mul_add,←Nat.mul_assoc,Nat.mul_comm (128 ^ k) (c.toNat % 128)];omega
   ·rw [hv,show R.2.1-k=(R.2.1-(k+1))+1 by omega,List.drop_succ_cons,List.cons_append,←e4]
   ·rw [hv,kN,e5];omega
  ·rw [if_neg h2] at h ⊢
   by_cases h3:c.toNat=0∧0<k
   ·rw [if_pos h3] at h;simp at h
   rw [if_neg h3] at h ⊢
   by_cases h4:268435456<n+c.toNat % 128*128 ^ k
   ·rw [if_pos h4] at h;simp at h
   rw [if_neg h4]
   have hv:y8x c.toNat=[c]:=by rw [yb6 (by omega),u8_of]
   refine ⟨c.toNat,?_,fun h=>by omega,by simp,?_,?_⟩
   ·simp only
    rw [Nat.mod_eq_of_lt (by omega),Nat.mul_comm]
   ·rw [hv];simp
   ·rw [hv];simp
theorem yr8:∀(q k n:Nat) (rest:Str),k≤4→(0<k→q≠0)→n+128 ^ k*q≤268435456→rdN k n (y8x q++rest)=(n+128 ^ k*q,k+(y8x q).length,0):=by
 intro q
 induction q using Nat.strongRecOn with
 | _ q ih=>
  intro k n rest hk hq hb
  have hp:k=4→128 ^ k=268435456:=fun h=>by subst h;rfl
  by_cases h1:q<128
  ·have ht:(UInt8.ofNat q).toNat=q:=by simp;omega
   rw [yb6 h1]
   simp only [List.cons_append,List.nil_append,rdN,ht]
   rw [if_neg (fun h=>by
    have h5:=hp h.1
    rw [h5] at hb
    have:=h.2
    omega),if_neg (by omega),if_neg (fun h=>hq h.2 h.1),Nat.mod_eq_of_lt h1,if_neg (by rw [Nat.mul_comm];omega),Nat.mul_comm]
   simp
  ·have hb2:(UInt8.ofNat (q % 128+128)).toNat=q % 128+128:=by simp;omega
   have hk4:k≠4:=fun h=>by
    have h5:=hp h
    rw [h5] at hb
    omega
   rw [yii h1]
   simp only [List.cons_append,rdN,hb2]
   rw [if_neg (fun h=>hk4 h.1),if_pos (by omega)]
   have hmul:128 ^ k*q=q % 128*128 ^ k+128 ^ (k+1)*(q / 128):=by
    conv=>lhs;rw [←Nat.mod_add_div q 128]
    rw [Nat.mul_add,Nat.pow_succ,Nat.mul_assoc,Nat.mul_comm (128 ^ k) (q % 128)]
   rw [show (q % 128+128) % 128=q % 128 by omega,ih (q / 128) (by omega) (k+1) _ rest (by omega) (fun _=>by omega) (by rw [hmul] at hb;omega),hmul]
   simp
   constructor
   ·omega
   ·omega
def yog (pool:List Str):Ev→Str
 | .num n=>y8x n.toNat
 | .txt s=>y8x (ydv pool s)
def y6e (pool:List Str) (es:List Ev):Str:=es.flatMap (yog pool)
theorem ygb (pool:List Str) (a b:List Ev):y6e pool (a++b)=y6e pool a++y6e pool b:=by simp [y6e,List.flatMap_append]
@[simp] theorem encVs_nil (pool:List Str):y6e pool []=[]:=rfl
theorem ygq (pool:List Str) (x:Ev) (es:List Ev):y6e pool (x::es)=yog pool x++y6e pool es:=by simp [y6e]
def yta (pool:List Str):Ev→Prop
 | .num n=>0≤n∧n≤268435456
 | .txt s=>s∈pool
theorem encV_len (pool:List Str) (x:Ev):1≤(yog pool x).length:=by
 cases x <;> exact List.length_pos_iff.2 (yp9 _)
theorem yof (pool:List Str):∀es:List Ev,es.length≤(y6e pool es).length
 | []=>by simp
 | x::es=>by
  have:=encV_len pool x
  have:=yof pool es
  rw [ygq,kR,kN];omega
structure Got (t:Str) (pool:List Str) (σ σ':Rd) (es:List Ev):Prop where
 e:σ.e=0
 le:σ.pos≤σ'.pos
 hi:σ'.pos≤t.length
 bytes:t.drop σ.pos=y6e pool es++t.drop σ'.pos
 ok:∀x∈es,yta pool x
theorem Got.nil {t:Str} {pool:List Str} {σ:Rd} (h:y7q t σ) (he:σ.e=0):Got t pool σ σ []:=⟨he,kF _,h.1,by simp,fun x h=>by cases h⟩
theorem Got.trans {t:Str} {pool:List Str} {a b c:Rd} {x y:List Ev} (h:Got t pool a b x) (k:Got t pool b c y):Got t pool a c (x++y):=
 ⟨h.e,kU h.le k.le,k.hi,by rw [h.bytes,k.bytes,ygb,kV],fun z hz=>(List.mem_append.1 hz).elim (h.ok z) (k.ok z)⟩
theorem yf6 {t:Str} {pool:List Str} {σ:Rd} (ho:y7q t σ) (he:(y33 t σ).2.e=0):Got t pool σ (y33 t σ).2 [.num ((y33 t σ).1:Nat)]:=by
 have hb:=yhc t σ ho.1
 unfold y33 at he ⊢
 by_cases h1:σ.e=0
 ·rw [if_neg (by simp [h1])] at he ⊢
  by_cases h2:(rdL t σ).2.2=0
  ·rw [if_neg (by simp [h2])] at he ⊢
   obtain ⟨q,e1,_,_,e4,_⟩:=ynw (t.drop σ.pos) 0 0 h2
   simp only [Nat.pow_zero,Nat.one_mul,Nat.zero_add,Nat.sub_zero] at e1 e4
   refine ⟨h1,by simp,by simp;omega,?_,fun x hx=>?_⟩
   ·have e1':(rdL t σ).1=q:=e1
    simp only [y6e,yog,List.flatMap_cons,List.flatMap_nil,List.append_nil,Int.toNat_natCast,e1']
    rw [List.drop_drop] at e4
    exact e4
   ·simp at hx;subst hx
    simp only [yta];omega
  ·rw [if_pos h2] at he;exact (h2 he).elim
 ·rw [if_pos h1] at he;exact (h1 he).elim
theorem yil {t:Str} {σ:Rd} {n:Nat} {rest:Str} (he:σ.e=0) (hn:n≤268435456) (h:t.drop σ.pos=y8x n++rest):y33 t σ=(n,{ σ with pos:=σ.pos+(y8x n).length }):=by
 have hf:=yr8 n 0 0 rest (by omega) (fun h=>by omega) (by simpa using hn)
 simp at hf
 have hL:rdL t σ=(n,(y8x n).length,0):=by unfold rdL;rw [h];exact hf
 unfold y33
 rw [if_neg (by simp [he]),hL]
 simp
theorem pos_get {pool:List Str} (hr:y51 pool) {i:Nat} {s:Str} (h:pool[i]?=some s):ydv pool s=i:=by
 have hm:s∈pool:=kX h
 have h1:=yhd hr s i s h
 have h2:=(yeh hr s).1 hm
 unfold ydv
 rw [if_pos hm]
 by_cases hlt:i<yei pool s
 ·have:=yhd hr s i s h
  rw [decide_eq_true hlt] at this
  exact (yau s this).elim
 ·by_cases hgt:yei pool s<i
  ·have hp:=hr
   unfold y51 at hp
   rw [List.pairwise_iff_getElem] at hp
   obtain ⟨a1,a2⟩:=List.getElem?_eq_some_iff.1 h
   obtain ⟨b1,b2⟩:=List.getElem?_eq_some_iff.1 h2
   have:=hp _ _ b1 a1 hgt
   rw [a2,b2] at this
   exact (yau s this).elim
  ·omega
section
variable {t:Str} {pool:List Str} {σ:Rd}
theorem ya6 (hr:y51 pool) (ho:y7q t σ) (he:(y2e pool t σ).2.e=0):Got t pool σ (y2e pool t σ).2 [.txt (y2e pool t σ).1]:=by
 have hg:=yf6 (pool:=pool) ho
 have ho1:=(y6d ho).2
 unfold y2e at he ⊢
 by_cases h1:(y33 t σ).2.e=0
 ·rw [if_neg (by simp [h1])] at he ⊢
  have g:=hg h1
  cases hp:pool[(y33 t σ).1]? with
  | none=>
   rw [hp] at he
   simp [y6a,h1] at he
  | some s=>
   refine ⟨g.e,g.le,g.hi,?_,fun x hx=>?_⟩
   ·have:=g.bytes
    simp only [y6e,yog,List.flatMap_cons,List.flatMap_nil,List.append_nil,Int.toNat_natCast] at this ⊢
    rw [pos_get hr hp];exact this
   ·simp at hx;subst hx;exact kX hp
 ·rw [if_pos h1] at he;exact (h1 he).elim
theorem ysa (hr:y51 pool) (hl:pool.length≤268435456) {s:Str} {rest:Str} (he:σ.e=0) (hs:s∈pool) (h:t.drop σ.pos=yog pool (.txt s)++rest):y2e pool t σ=(s,{ σ with pos:=σ.pos+(yog pool (.txt s)).length }):=by
 have hp:=(yeh hr s).1 hs
 have hlt:=(List.getElem?_eq_some_iff.1 hp).1
 have e:ydv pool s=yei pool s:=by unfold ydv;rw [if_pos hs]
 simp only [yog] at h ⊢
 have hn:=yil (t:=t) (σ:=σ) (n:=ydv pool s) he (by omega) h
 unfold y2e
 rw [hn]
 simp only [he]
 rw [e,hp]
 simp
def Snd {α:Type} (t:Str) (pool:List Str) (one:Rd→α × Rd) (ev:α→List Ev):Prop:=∀σ,y7q t σ→y7q t (one σ).2∧((one σ).2.e=0→Got t pool σ (one σ).2 (ev (one σ).1))
theorem yuh {α:Type} {one:Rd→α × Rd} {ev:α→List Ev} (h:Snd t pool one ev):∀(n:Nat) {σ:Rd},y7q t σ→(ya7 one n σ).2.e=0→(ya7 one n σ).1.length=n∧Got t pool σ (ya7 one n σ).2 ((ya7 one n σ).1.flatMap ev)
 | 0,σ,ho,he=>⟨rfl,by simpa [ya7] using Got.nil ho he⟩
 | n+1,σ,ho,he=>by
  simp only [ya7] at he ⊢
  by_cases h1:σ.e=0
  ·rw [if_neg (by simp [h1])] at he ⊢
   obtain ⟨o1,g1⟩:=h σ ho
   obtain ⟨l2,g2⟩:=yuh h n o1 he
   refine ⟨by simp [l2],?_⟩
   rw [List.flatMap_cons]
   exact (g1 g2.e).trans g2
  ·rw [if_pos h1] at he;exact (h1 he).elim
theorem yek {α:Type} {one:Rd→α × Rd} {ev:α→List Ev} (h:Snd t pool one ev) (ho:y7q t σ) (he:(y3j t one σ).2.e=0):(y3j t one σ).1.length≤6000∧Got t pool σ (y3j t one σ).2 (evL ev (y3j t one σ).1):=by
 have hg:=yf6 (pool:=pool) ho
 have hcut:=yjb ho
 unfold y3j at he ⊢
 by_cases h6:6000<(y33 t σ).1
 ·rw [if_pos h6] at he
  exfalso
  have:(y6a (y33 t σ).2 4).e≠0:=by unfold y6a;split <;> simp <;> assumption
  rw [yb8 this] at he
  exact this he
 ·rw [if_neg h6] at he hcut ⊢
  obtain ⟨l,g⟩:=yuh h _ hcut he
  refine ⟨by omega,?_⟩
  have:=(hg g.e).trans g
  unfold evL
  rw [l]
  simpa using this
theorem yma (hr:y51 pool):Snd t pool (y2e pool t) evW:=fun σ ho=>⟨y47 ho,fun he=>ya6 hr ho he⟩
theorem snd_mark (hr:y51 pool):Snd t pool (ybj pool t) evM:=fun σ ho=>⟨yk2 ho,fun he=>by
 have g2:=ya6 hr (y6d ho).1 he
 exact (yf6 ho g2.e).trans g2⟩
theorem snd_obj (hr:y51 pool):Snd t pool (yc3 pool t) evO:=fun σ ho=>⟨ygo ho,fun he=>by
 have o1:=y47 (pool:=pool) ho
 have o2:=y47 (pool:=pool) o1
 have g3:=(yek (snd_mark hr) o2 he).2
 have g2:=ya6 hr o1 g3.e
 have g1:=ya6 hr ho g2.e
 exact g1.trans (g2.trans g3)⟩
theorem snd_fn (hr:y51 pool):Snd t pool (yli pool t) evF:=fun σ ho=>⟨yk3 ho,fun he=>by
 have o1:=y47 (pool:=pool) ho
 have o2:=y47 (pool:=pool) o1
 have g3:=ya6 hr o2 he
 have g2:=ya6 hr o1 g3.e
 have g1:=ya6 hr ho g2.e
 exact g1.trans (g2.trans g3)⟩
theorem snd_con (hr:y51 pool):Snd t pool (yf7 pool t) evC:=fun σ ho=>⟨yhu ho,fun he=>by
 have o1:=(y6d ho).1
 have o2:=y47 (pool:=pool) o1
 have o3:=y47 (pool:=pool) o2
 have o4:=(y6d o3).1
 have o5:=y47 (pool:=pool) o4
 have g6:=(yek (yma hr) o5 he).2
 have g5:=ya6 hr o4 g6.e
 have g4:=yf6 (pool:=pool) o3 g5.e
 have g3:=ya6 hr o2 g4.e
 have g2:=ya6 hr o1 g3.e
 have g1:=yf6 (pool:=pool) ho g2.e
 exact g1.trans (g2.trans (g3.trans (g4.trans (g5.trans g6))))⟩
theorem sum_got0 (hr:y51 pool) (ho:y7q t σ) {n:Str × Rd} {g w k:List Str × Rd} {o:List Ob × Rd} {f:List Fu × Rd} {c:List Cn × Rd} (hn:n=y2e pool t σ) (hg:g=y3j t (y2e pool t) n.2) (hw:w=y3j t (y2e pool t) g.2) (hk:k=y3j t (y2e pool t) w.2)
  (hob:o=y3j t (yc3 pool t) k.2) (hf:f=y3j t (yli pool t) o.2) (hc:c=y3j t (yf7 pool t) f.2):y7q t c.2∧(c.2.e=0→Got t pool σ c.2 (evS ⟨n.1,g.1,w.1,k.1,⟨o.1,f.1,c.1⟩⟩)∧g.1.length≤6000):=by
 have o1:y7q t n.2:=by rw [hn];exact y47 ho
 have o2:y7q t g.2:=by rw [hg];exact y6n (fun _ h=>y47 (pool:=pool) h) o1
 have o3:y7q t w.2:=by rw [hw];exact y6n (fun _ h=>y47 (pool:=pool) h) o2
 have o4:y7q t k.2:=by rw [hk];exact y6n (fun _ h=>y47 (pool:=pool) h) o3
 have o5:y7q t o.2:=by rw [hob];exact y6n (fun _ h=>ygo (pool:=pool) h) o4
 have o6:y7q t f.2:=by rw [hf];exact y6n (fun _ h=>yk3 (pool:=pool) h) o5
 have o7:y7q t c.2:=by rw [hc];exact y6n (fun _ h=>yhu (pool:=pool) h) o6
 refine ⟨o7,fun he=>?_⟩
 have g7:Got t pool f.2 c.2 (evL evC c.1):=by rw [hc] at he ⊢;exact (yek (snd_con hr) o6 he).2
 have g6:Got t pool o.2 f.2 (evL evF f.1):=by have:=g7.e;rw [hf] at this ⊢;exact (yek (snd_fn hr) o5 this).2
 have g5:Got t pool k.2 o.2 (evL evO o.1):=by have:=g6.e;rw [hob] at this ⊢;exact (yek (snd_obj hr) o4 this).2
 have g4:Got t pool w.2 k.2 (evL evW k.1):=by have:=g5.e;rw [hk] at this ⊢;exact (yek (yma hr) o3 this).2
 have g3:Got t pool g.2 w.2 (evL evW w.1):=by have:=g4.e;rw [hw] at this ⊢;exact (yek (yma hr) o2 this).2
 have g2:g.1.length≤6000∧Got t pool n.2 g.2 (evL evW g.1):=by have:=g3.e;rw [hg] at this ⊢;exact yek (yma hr) o1 this
 have g1:Got t pool σ n.2 [.txt n.1]:=by have:=g2.2.e;rw [hn] at this ⊢;exact ya6 hr ho this
 exact ⟨g1.trans (g2.2.trans (g3.trans (g4.trans (g5.trans (g6.trans g7))))),g2.1⟩
theorem yjz (pool:List Str) (t:Str) (σ:Rd):∃(n:Str × Rd) (g w k:List Str × Rd) (o:List Ob × Rd) (f:List Fu × Rd) (c:List Cn × Rd),n=y2e pool t σ∧g=y3j t (y2e pool t) n.2∧w=y3j t (y2e pool t) g.2∧k=y3j t (y2e pool t) w.2∧
  o=y3j t (yc3 pool t) k.2∧f=y3j t (yli pool t) o.2∧c=y3j t (yf7 pool t) f.2∧ygv pool t σ=(⟨n.1,g.1,w.1,k.1,⟨o.1,f.1,c.1⟩⟩,c.2):=by
 refine ⟨_,_,_,_,_,_,_,rfl,rfl,rfl,rfl,rfl,rfl,rfl,?_⟩
 simp only [ygv]
theorem sum_got (hr:y51 pool) (ho:y7q t σ):y7q t (ygv pool t σ).2∧((ygv pool t σ).2.e=0→Got t pool σ (ygv pool t σ).2 (evS (ygv pool t σ).1)):=by
 obtain ⟨n,g,w,k,o,f,c,h1,h2,h3,h4,h5,h6,h7,e⟩:=yjz pool t σ
 have:=sum_got0 hr ho h1 h2 h3 h4 h5 h6 h7
 rw [e]
 exact ⟨this.1,fun he=>(this.2 he).1⟩
end
def yec (σ:Rd) (b:Str):Rd:={ σ with pos:=σ.pos+b.length }
theorem y84 (σ:Rd) (a b:Str):yec (yec σ a) b=yec σ (a++b):=by simp [yec,kj]
theorem y7w {t:Str} {σ:Rd} {a b:Str} (h:t.drop σ.pos=a++b):t.drop (yec σ a).pos=b:=by
 simp only [yec]
 rw [←List.drop_drop,h];simp
def Ful {α:Type} (t:Str) (pool:List Str) (one:Rd→α × Rd) (ev:α→List Ev) (P:α→Prop):Prop:=∀x σ rest,P x→σ.e=0→t.drop σ.pos=y6e pool (ev x)++rest→one σ=(x,yec σ (y6e pool (ev x)))
section
variable {t:Str} {pool:List Str} {σ:Rd}
theorem yhe {n:Nat} {rest:Str} (he:σ.e=0) (hn:n≤268435456) (h:t.drop σ.pos=y8x n++rest):y33 t σ=(n,yec σ (y8x n)):=yil he hn h
theorem ybh (hr:y51 pool) (hl:pool.length≤268435456):Ful t pool (y2e pool t) evW (fun s=>s∈pool):=fun s σ rest hs he h=>by
 have h':t.drop σ.pos=yog pool (.txt s)++rest:=by simpa [evW,y6e] using h
 have:=ysa hr hl he hs h'
 simpa [evW,y6e,yec] using this
theorem yui {α:Type} {one:Rd→α × Rd} {ev:α→List Ev} {P:α→Prop} (h:Ful t pool one ev P):∀(l:List α) {σ:Rd} {rest:Str},(∀x∈l,P x)→σ.e=0→t.drop σ.pos=y6e pool (l.flatMap ev)++rest→ya7 one l.length σ=(l,yec σ (y6e pool (l.flatMap ev)))
 | [],σ,rest,_,he,hd=>by simp [ya7,yec]
 | x::l,σ,rest,hP,he,hd=>by
  rw [List.flatMap_cons,ygb,kV] at hd
  have h1:=h x σ _ (hP x (by simp)) he hd
  have h2:=yui h l (σ:=yec σ (y6e pool (ev x))) (fun y hy=>hP y (by simp [hy])) he (y7w hd)
  simp only [kN,ya7]
  rw [if_neg (by simp [he]),h1,h2,y84,List.flatMap_cons,ygb]
theorem yel {α:Type} {one:Rd→α × Rd} {ev:α→List Ev} {P:α→Prop} (h:Ful t pool one ev P) {l:List α} {rest:Str} (hl:l.length≤6000) (hP:∀x∈l,P x) (he:σ.e=0) (hd:t.drop σ.pos=y6e pool (evL ev l)++rest):
  y3j t one σ=(l,yec σ (y6e pool (evL ev l))):=by
 have e1:y6e pool (evL ev l)=y8x l.length++y6e pool (l.flatMap ev):=by rw [evL,ygq];simp [yog]
 rw [e1,kV] at hd
 have h1:=yhe he (by omega) hd
 unfold y3j
 rw [h1]
 simp only
 rw [if_neg (by omega),yui h l (σ:=yec σ (y8x l.length)) hP he (y7w hd),y84,e1]
theorem mark_ful (hr:y51 pool) (hl:pool.length≤268435456):Ful t pool (ybj pool t) evM (fun m=>0≤m.pos∧m.pos≤268435456∧m.tag∈pool):=fun m σ rest ⟨h0,h1,h2⟩ he h=>by
 have e1:y6e pool (evM m)=y8x m.pos.toNat++y6e pool (evW m.tag):=by simp [evM,evW,y6e,yog]
 rw [e1,kV] at h
 have n1:=yhe he (by omega) h
 have n2:=ybh hr hl m.tag (yec σ (y8x m.pos.toNat)) rest h2 he (y7w h)
 unfold ybj
 rw [n1]
 simp only
 rw [n2,y84,e1]
 have:((m.pos.toNat:Nat):Int)=m.pos:=by omega
 rw [this]
def obG (pool:List Str) (o:Ob):Prop:=o.name∈pool∧o.kinds∈pool∧o.marks.length≤6000∧∀m∈o.marks,0≤m.pos∧m.pos≤268435456∧m.tag∈pool
theorem obj_ful (hr:y51 pool) (hl:pool.length≤268435456):Ful t pool (yc3 pool t) evO (obG pool):=fun o σ rest ⟨h1,h2,h3,h4⟩ he h=>by
 have e1:y6e pool (evO o)=y6e pool (evW o.name)++(y6e pool (evW o.kinds)++y6e pool (evL evM o.marks)):=by simp [evO,evW,y6e]
 rw [e1] at h
 have n1:=ybh hr hl o.name σ _ h1 he (by rw [h,kV])
 have d1:t.drop (yec σ (y6e pool (evW o.name))).pos=y6e pool (evW o.kinds)++(y6e pool (evL evM o.marks)++rest):=y7w (by rw [h];simp)
 have n2:=ybh hr hl o.kinds _ _ h2 (by exact he) d1
 have n3:=yel (mark_ful hr hl) h3 h4 (σ:=yec (yec σ (y6e pool (evW o.name))) (y6e pool (evW o.kinds))) (by exact he) (y7w d1)
 unfold yc3
 dsimp only
 rw [n1,n2,n3,y84,y84,e1]
 simp
def fnG (pool:List Str) (f:Fu):Prop:=f.name∈pool∧f.kinds∈pool∧f.ret∈pool
theorem fn_ful (hr:y51 pool) (hl:pool.length≤268435456):Ful t pool (yli pool t) evF (fnG pool):=fun f σ rest ⟨h1,h2,h3⟩ he h=>by
 have e1:y6e pool (evF f)=y6e pool (evW f.name)++(y6e pool (evW f.kinds)++y6e pool (evW f.ret)):=by simp [evF,evW,y6e]
 rw [e1] at h
 have n1:=ybh hr hl f.name σ _ h1 he (by rw [h,kV])
 have d1:t.drop (yec σ (y6e pool (evW f.name))).pos=y6e pool (evW f.kinds)++(y6e pool (evW f.ret)++rest):=y7w (by rw [h];simp)
 have n2:=ybh hr hl f.kinds _ _ h2 (by exact he) d1
 have n3:=ybh hr hl f.ret (yec (yec σ (y6e pool (evW f.name))) (y6e pool (evW f.kinds))) rest h3 (by exact he) (y7w d1)
 unfold yli
 dsimp only
 rw [n1,n2,n3,y84,y84,e1]
 simp
def cnGd (pool:List Str) (c:Cn):Prop:=(0≤c.op∧c.op≤268435456)∧c.a∈pool∧c.b∈pool∧(0≤c.k∧c.k≤268435456)∧c.tag∈pool∧c.args.length≤6000∧∀a∈c.args,a∈pool
theorem con_ful (hr:y51 pool) (hl:pool.length≤268435456):Ful t pool (yf7 pool t) evC (cnGd pool):=fun c σ rest ⟨h1,h2,h3,h4,h5,h6,h7⟩ he h=>by
 have e1:y6e pool (evC c)=y8x c.op.toNat++(y6e pool (evW c.a)++(y6e pool (evW c.b)++(y8x c.k.toNat++(y6e pool (evW c.tag)++y6e pool (evL evW c.args))))):=by simp [evC,evW,y6e,yog]
 rw [e1] at h
 simp only [kV] at h
 have n1:=yhe he (by omega) h
 have d1:=y7w h
 have n2:=ybh hr hl c.a _ _ h2 (by exact he) d1
 have d2:=y7w d1
 have n3:=ybh hr hl c.b _ _ h3 (by exact he) d2
 have d3:=y7w d2
 have n4:=yhe (t:=t) (n:=c.k.toNat) (by exact he) (by omega) d3
 have d4:=y7w d3
 have n5:=ybh hr hl c.tag _ _ h5 (by exact he) d4
 have d5:=y7w d4
 have n6:=yel (ybh hr hl) h6 h7 (by exact he) d5
 unfold yf7
 dsimp only
 rw [n1]
 dsimp only
 rw [n2]
 dsimp only
 rw [n3]
 dsimp only
 rw [n4]
 dsimp only
 rw [n5]
 dsimp only
 rw [n6]
 simp only [y84,e1]
 have q1:((c.op.toNat:Nat):Int)=c.op:=by omega
 have q2:((c.k.toNat:Nat):Int)=c.k:=by omega
 rw [q1,q2]
 simp
def suG (pool:List Str) (s:Su):Prop:=s.name∈pool∧(s.gives.length≤6000∧∀a∈s.gives,a∈pool)∧(s.wants.length≤6000∧∀a∈s.wants,a∈pool)∧(s.keeps.length≤6000∧∀a∈s.keeps,a∈pool)∧
 (s.sys.objs.length≤6000∧∀o∈s.sys.objs,obG pool o)∧(s.sys.fns.length≤6000∧∀f∈s.sys.fns,fnG pool f)∧(s.sys.cons.length≤6000∧∀c∈s.sys.cons,cnGd pool c)
theorem sum_ful (hr:y51 pool) (hl:pool.length≤268435456) {s:Su} (hs:suG pool s) {rest:Str} (he:σ.e=0) (h:t.drop σ.pos=y6e pool (evS s)++rest):ygv pool t σ=(s,yec σ (y6e pool (evS s))):=by
 obtain ⟨h1,⟨h2,h2'⟩,⟨h3,h3'⟩,⟨h4,h4'⟩,⟨h5,h5'⟩,⟨h6,h6'⟩,h7,h7'⟩:=hs
 have e1:y6e pool (evS s)=y6e pool (evW s.name)++(y6e pool (evL evW s.gives)++(y6e pool (evL evW s.wants)++(y6e pool (evL evW s.keeps)++(y6e pool (evL evO s.sys.objs)++(y6e pool (evL evF s.sys.fns)++y6e pool (evL evC s.sys.cons)))))):=by simp [evS,evW,y6e]
 rw [e1] at h
 simp only [kV] at h
 obtain ⟨n,g,w,k,o,f,c,q1,q2,q3,q4,q5,q6,q7,e⟩:=yjz pool t σ
 have n1:=ybh hr hl s.name _ _ h1 he h
 rw [n1] at q1;subst q1
 have d1:=y7w h
 have n2:=yel (ybh hr hl) h2 h2' (by exact he) d1
 rw [n2] at q2;subst q2
 have d2:=y7w d1
 have n3:=yel (ybh hr hl) h3 h3' (by exact he) d2
 rw [n3] at q3;subst q3
 have d3:=y7w d2
 have n4:=yel (ybh hr hl) h4 h4' (by exact he) d3
 rw [n4] at q4;subst q4
 have d4:=y7w d3
 have n5:=yel (obj_ful hr hl) h5 h5' (by exact he) d4
 rw [n5] at q5;subst q5
 have d5:=y7w d4
 have n6:=yel (fn_ful hr hl) h6 h6' (by exact he) d5
 rw [n6] at q6;subst q6
 have d6:=y7w d5
 have n7:=yel (con_ful hr hl) h7 h7' (by exact he) d6
 rw [n7] at q7;subst q7
 rw [e]
 simp only [y84,e1]
 simp
end
structure Gb (t:Str) (σ σ':Rd) (bs:Str):Prop where
 e:σ.e=0
 le:σ.pos≤σ'.pos
 hi:σ'.pos≤t.length
 bytes:t.drop σ.pos=bs++t.drop σ'.pos
theorem Gb.trans {t:Str} {a b c:Rd} {x y:Str} (h:Gb t a b x) (k:Gb t b c y):Gb t a c (x++y):=⟨h.e,kU h.le k.le,k.hi,by rw [h.bytes,k.bytes,kV]⟩
section
variable {t:Str} {σ:Rd}
theorem yrf (ho:y7q t σ) (he:(y33 t σ).2.e=0):Gb t σ (y33 t σ).2 (y8x (y33 t σ).1):=by
 have g:=yf6 (pool:=[]) ho he
 refine ⟨g.e,g.le,g.hi,?_⟩
 have:=g.bytes
 simpa [y6e,yog] using this
theorem txt_gb (ho:y7q t σ) (he:(y6y t σ).2.e=0):Gb t σ (y6y t σ).2 (y8x (y6y t σ).1.length++(y6y t σ).1)∧(y6y t σ).1.length≤268435456:=by
 have hb:=yhc t σ ho.1
 have hn:=yrf (t:=t) (σ:=σ) ho
 unfold y33 at hn
 unfold y6y at he ⊢
 by_cases h1:σ.e=0
 ·rw [if_neg (by simp [h1])] at he hn ⊢
  by_cases h2:(rdL t σ).2.2=0
  ·rw [if_neg (by simp [h2])] at he hn ⊢
   have hn:=hn h1
   by_cases h3:t.length<σ.pos+(rdL t σ).2.1+(rdL t σ).1
   ·rw [if_pos h3] at he;simp at he
   rw [if_neg h3] at he ⊢
   generalize (rdL t σ).2.1=w at *
   generalize (rdL t σ).1=n at *
   have hl:(List.take n (t.drop (σ.pos+w))).length=n:=by simp;omega
   refine ⟨⟨h1,by simp;omega,by simp;omega,?_⟩,by simp only;rw [hl];exact hb.1⟩
   have:=hn.bytes
   simp only at this ⊢
   rw [hl,this,kV,←List.drop_drop (i:=n),List.take_append_drop]
  ·rw [if_pos h2] at he;exact (h2 he).elim
 ·rw [if_pos h1] at he;exact (h1 he).elim
theorem yu3 {x:Str} {rest:Str} (he:σ.e=0) (hx:x.length≤268435456) (h:t.drop σ.pos=y8x x.length++(x++rest)):y6y t σ=(x,yec σ (y8x x.length++x)):=by
 have hn:=yil he hx h
 have hL:=yr8 x.length 0 0 (x++rest) (by omega) (fun h=>by omega) (by simpa using hx)
 rw [←h] at hL
 simp at hL
 have hL':rdL t σ=(x.length,(y8x x.length).length,0):=hL
 have hlen:t.length-σ.pos=(y8x x.length).length+(x.length+rest.length):=by have:=congrArg List.length h;simpa using this
 have hv:=List.length_pos_iff.2 (yp9 x.length)
 unfold y6y
 rw [if_neg (by simp [he]),hL',if_neg (by simp),if_neg (by simp only;omega)]
 simp only [yec,kR]
 have:t.drop (σ.pos+(y8x x.length).length)=x++rest:=by rw [←List.drop_drop,h];simp
 rw [this]
 simp [kj]
theorem next_got {last:Str} {k:Nat} {rest:Str} {first:Bool} (h:(yc4 last k rest first).2=0):∃s,yc4 last k rest first=(s,0)∧s.length≤1000∧shN last s=k∧s.length-k=rest.length∧k≤s.length∧s.drop k=rest∧(first=false→ltB last s=true):=by
 unfold yc4 at h ⊢
 by_cases h1:last.length<k
 ·rw [if_pos h1] at h;simp at h
 rw [if_neg h1] at h ⊢
 by_cases h2:1000<(last.take k++rest).length
 ·rw [if_pos h2] at h;simp at h
 rw [if_neg h2] at h ⊢
 by_cases h3:first=false∧(ltB (last.take k++rest) last||(last.take k++rest == last))=true
 ·rw [if_pos h3] at h;simp at h
 rw [if_neg h3] at h ⊢
 by_cases h4:shN last (last.take k++rest)≠k
 ·rw [if_pos h4] at h;simp at h
 rw [if_neg h4]
 have hk:(last.take k).length=k:=by rw [List.length_take];omega
 refine ⟨_,rfl,by omega,by simpa using h4,by rw [kR,hk];omega,by rw [kR,hk];omega,?_,fun hf=>?_⟩
 ·have:=List.drop_left (l₁:=last.take k) (l₂:=rest)
  rw [hk] at this;exact this
 ·rcases ypx last (last.take k++rest) with q | q | q
  ·exact q
  ·exact (h3 ⟨hf,by simp [←q]⟩).elim
  ·exact (h3 ⟨hf,by simp [q]⟩).elim
theorem next_ful {last s:Str} {first:Bool} (hs:s.length≤1000) (hf:first=false→ltB last s=true):yc4 last (shN last s) (s.drop (shN last s)) first=(s,0):=by
 have h1:=ynn last s
 have h2:=yr1 last s
 have e:last.take (shN last s)++s.drop (shN last s)=s:=by rw [h2,List.take_append_drop]
 unfold yc4
 rw [if_neg (by omega),e,if_neg (by omega),if_neg,if_neg (by simp)]
 rintro ⟨h3,h4⟩
 have h5:=hf h3
 have h6:=yje h5
 rw [h6] at h4
 simp at h4
 rw [h4] at h5
 exact yau _ h5
theorem ylh:∀(n:Nat) {first:Bool} {last:Str} {acc:List Str} {σ:Rd},σ.e≠0→y9q t n first last acc σ=(acc,σ)
 | 0,_,_,_,_,_=>rfl
 | n+1,_,_,_,_,h=>by simp only [y9q];rw [if_pos h]
theorem ymh {σ:Rd} {x:Int} (h:(y6a σ x).e=0):σ.e=0∧x=0∧y6a σ x=σ:=by
 unfold y6a at *
 by_cases h1:σ.e=0
 ·rw [if_pos h1] at h ⊢
  simp at h
  refine ⟨h1,h,?_⟩
  cases σ;simp_all
 ·rw [if_neg h1] at h;exact (h1 h).elim
theorem yra:∀(n:Nat) {first:Bool} {last:Str} {acc:List Str} {σ:Rd},y7q t σ→(y9q t n first last acc σ).2.e=0→
  ∃l,(y9q t n first last acc σ).1=acc++l∧l.length=n∧Gb t σ (y9q t n first last acc σ).2 (yf8 last l)∧(∀s∈l,s.length≤1000)∧y51 (if first then l else last::l)∧y7q t (y9q t n first last acc σ).2
 | 0,first,last,acc,σ,ho,he=>⟨[],by simp [y9q],rfl,by simpa [y9q,yf8] using ⟨he,kF _,ho.1,by simp⟩,by simp,by cases first <;> simp [y51],by simpa [y9q] using ho⟩
 | n+1,first,last,acc,σ,ho,he=>by
  simp only [y9q] at he ⊢
  by_cases h1:σ.e=0
  ·rw [if_neg (by simp [h1])] at he ⊢
   have g1:=yrf (t:=t) (σ:=σ) ho
   have o1:=(y6d ho).1
   generalize y33 t σ=k at *
   have g2:=txt_gb (t:=t) (σ:=k.2) o1
   have o2:=(ygn o1).1
   generalize y6y t k.2=r at *
   by_cases h2:r.2.e=0
   ·rw [if_neg (by simp [h2])] at he ⊢
    obtain ⟨g2,g2l⟩:=g2 h2
    have g1:=g1 g2.e
    by_cases h3:(y6a r.2 (yc4 last k.1 r.1 first).2).e=0
    ·obtain ⟨_,h4,h5⟩:=ymh h3
     obtain ⟨s,q0,q1,q2,q3,q4,q5,q6⟩:=next_got h4
     rw [h5,q0] at he ⊢
     obtain ⟨l,p1,p2,p3,p4,p5,p6⟩:=yra n o2 he
     refine ⟨s::l,by rw [p1];simp,by simp [p2],?_,fun x hx=>(List.mem_cons.1 hx).elim (fun h=>h▸q1) (p4 x),?_,p6⟩
     ·have:=g1.trans (g2.trans p3)
      simp only [yf8,q2,q3,q5]
      simpa [kV] using this
     ·simp at p5
      cases first with
      | true=>simpa using p5
      | false=>
       simp only [kL,if_false,y51,kg] at p5 ⊢
       refine ⟨fun x hx=>?_,p5⟩
       have h6:=q6 rfl
       rcases List.mem_cons.1 hx with rfl | hx
       ·exact h6
       ·exact yg6 h6 (p5.1 x hx)
    ·rw [ylh n h3] at he
     exact (h3 he).elim
   ·rw [if_pos h2] at he;exact (h2 he).elim
  ·rw [if_pos h1] at he;exact (h1 he).elim
theorem yrb:∀(l:List Str) {first:Bool} {last:Str} {acc:List Str} {σ:Rd} {rest:Str},(∀s∈l,s.length≤1000)→y51 (if first then l else last::l)→σ.e=0→t.drop σ.pos=yf8 last l++rest→
  y9q t l.length first last acc σ=(acc++l,yec σ (yf8 last l))
 | [],first,last,acc,σ,rest,_,_,_,_=>by simp [y9q,yec,yf8]
 | s::l,first,last,acc,σ,rest,hs,hr,he,hd=>by
  have hsl:=hs s (by simp)
  have hsh:=ynn last s
  simp only [yf8,kV] at hd
  have n1:=yhe he (by omega) hd
  have d1:=y7w hd
  have hdl:(s.drop (shN last s)).length=s.length-shN last s:=by simp
  rw [←hdl] at d1
  have n2:=yu3 (t:=t) (σ:=yec σ (y8x (shN last s))) he (by omega) d1
  rw [←kV] at d1
  have d2:=y7w d1
  have hlt:first=false→ltB last s=true:=fun hf=>by
   subst hf
   simp only [kL,if_false,y51,kg] at hr
   exact hr.1 s (by simp)
  have hr2:y51 (s::l):=by
   cases first with
   | true=>simpa using hr
   | false=>
    simp only [kL,if_false,y51,kg] at hr
    simp only [y51,kg]
    exact hr.2
  simp only [kN,y9q]
  rw [if_neg (by simp [he]),n1]
  simp only
  rw [n2]
  simp only
  rw [if_neg (by simp [he,yec]),next_ful hsl hlt]
  simp only
  have hf0:y6a (yec (yec σ (y8x (shN last s))) (y8x (s.drop (shN last s)).length++s.drop (shN last s))) 0=yec (yec σ (y8x (shN last s))) (y8x (s.drop (shN last s)).length++s.drop (shN last s)):=by
   unfold y6a
   split
   ·rename_i h;simp [yec,he]
   ·rfl
  rw [hf0,yrb l (first:=false) (last:=s) (σ:=yec (yec σ (y8x (shN last s))) (y8x (s.drop (shN last s)).length++s.drop (shN last s))) (fun x hx=>hs x (by simp [hx])) (by simpa using hr2) he d2]
  simp [yf8,y84]
theorem yk4 (ho:y7q t σ) (he:(y6t t σ).2.e=0):Gb t σ (y6t t σ).2 (yf9 (y6t t σ).1)∧y51 (y6t t σ).1∧(∀s∈(y6t t σ).1,s.length≤1000)∧(y6t t σ).1.length≤6000∧y7q t (y6t t σ).2:=by
 have g1:=yrf (t:=t) (σ:=σ) ho
 have o1:=(y6d ho).1
 unfold y6t at he ⊢
 generalize y33 t σ=n at *
 by_cases h6:6000<n.1
 ·simp only [if_pos h6] at he
  have:(y6a n.2 4).e≠0:=fun h=>by have:=(ymh h).2.1;omega
  rw [ylh _ this] at he
  exact (this he).elim
 ·simp only [if_neg h6] at he ⊢
  obtain ⟨l,p1,p2,p3,p4,p5,p6⟩:=yra n.1 o1 he
  simp at p1 p5
  rw [p1]
  refine ⟨?_,p5,p4,by omega,p6⟩
  have:=(g1 p3.e).trans p3
  rw [←p2] at this
  simpa [yf9,p2] using this
theorem yuv {l:List Str} {rest:Str} (hl:l.length≤6000) (hs:∀s∈l,s.length≤1000) (hr:y51 l) (he:σ.e=0) (hd:t.drop σ.pos=yf9 l++rest):y6t t σ=(l,yec σ (yf9 l)):=by
 simp only [yf9,kV] at hd
 have n1:=yhe he (by omega) hd
 unfold y6t
 rw [n1]
 simp only
 rw [if_neg (by omega),yrb l (σ:=yec σ (y8x l.length)) hs (by simpa using hr) he (y7w hd)]
 simp [yf9,y84]
end
end Go.Proofs.YthmkcebbeehbeaaGreatDoor
