/- Part 32 of the proof of the laws of the queries: RsM, RsF, PsM, KrW. -/
import Derived.Test.YthmkcebbeehbeaaGreatDoorXTw17
import Derived.Test.YthmkcebbeehbeaaGreatDoorXTw18
import Derived.Test.YthmkcebbeehbeaaGreatDoorXTw28
import Derived.Test.YthmkcebbeehbeaaGreatDoorXTw30
import Derived.Test.YthmkcebbeehbeaaGreatDoorXTw31
set_option linter.unusedSimpArgs false
set_option linter.unusedVariables false
namespace Go.Proofs.YthmkcebbeehbeaaGreatDoor
open Am C
theorem u8_of (c:UInt8):UInt8.ofNat c.toNat=c:=by simp
theorem yj0:∀(r:Str) (k n:Nat),(rdN k n r).2.2=0→∃q,(rdN k n r).1=n+128 ^ k*q∧(0<k→q≠0)∧k≤(rdN k n r).2.1∧r=y6s q++r.drop ((rdN k n r).2.1-k)∧(y6s q).length=(rdN k n r).2.1-k
  | [],k,n,h=>by simp [rdN] at h
  | c::r,k,n,h=>by
    have hc:=c.toNat_lt
    simp only [rdN] at h ⊢
    by_cases h1:k=4∧1<c.toNat
    · rw [if_pos h1] at h;simp at h
    rw [if_neg h1] at h ⊢
    by_cases h2:128≤c.toNat
    · rw [if_pos h2] at h ⊢
      obtain ⟨q,e1,e2,e3,e4,e5⟩:=yj0 r (k+1) (n+c.toNat % 128*128 ^ k) h
      generalize rdN (k+1) (n+c.toNat % 128*128 ^ k) r=R at *
      have hq:=e2 (by omega)
      have hv:y6s (c.toNat % 128+128*q)=c::y6s q:=by
        rw [yfd (by omega),show (c.toNat % 128+128*q) % 128+128=c.toNat by omega,show (c.toNat % 128+128*q) / 128=q by omega,u8_of]
      refine ⟨c.toNat % 128+128*q,?_,fun _=>by omega,by omega,?_,?_⟩
      · rw [e1,Nat.pow_succ,Nat.mul_add,←Nat.mul_assoc,Nat.mul_comm (128 ^ k) (c.toNat % 128)];omega
      · rw [hv,show R.2.1-k=(R.2.1-(k+1))+1 by omega,List.drop_succ_cons,List.cons_append,←e4]
      · rw [hv,List.length_cons,e5];omega
    · rw [if_neg h2] at h ⊢
      by_cases h3:c.toNat=0∧0<k
      · rw [if_pos h3] at h;simp at h
      rw [if_neg h3] at h ⊢
      by_cases h4:268435456<n+c.toNat % 128*128 ^ k
      · rw [if_pos h4] at h;simp at h
      rw [if_neg h4]
      have hv:y6s c.toNat=[c]:=by rw [y8d (by omega),u8_of]
      refine ⟨c.toNat,?_,fun h=>by omega,by simp,?_,?_⟩
      · simp only
        rw [Nat.mod_eq_of_lt (by omega),Nat.mul_comm]
      · rw [hv];simp
      · rw [hv];simp
theorem ym6:∀(q k n:Nat) (rest:Str),k≤4→(0<k→q≠0)→n+128 ^ k*q≤268435456→rdN k n (y6s q++rest)=(n+128 ^ k*q,k+(y6s q).length,0):=by
  intro q
  induction q using Nat.strongRecOn with
  | _ q ih=>
    intro k n rest hk hq hb
    have hp:k=4→128 ^ k=268435456:=fun h=>by subst h;rfl
    by_cases h1:q<128
    · have ht:(UInt8.ofNat q).toNat=q:=by simp;omega
      rw [y8d h1]
      simp only [List.cons_append,List.nil_append,rdN,ht]
      rw [if_neg (fun h=>by
        have h5:=hp h.1
        rw [h5] at hb
        have:=h.2
        omega),if_neg (by omega),if_neg (fun h=>hq h.2 h.1),Nat.mod_eq_of_lt h1,if_neg (by rw [Nat.mul_comm];omega),Nat.mul_comm]
      simp
    · have hb2:(UInt8.ofNat (q % 128+128)).toNat=q % 128+128:=by simp;omega
      have hk4:k≠4:=fun h=>by
        have h5:=hp h
        rw [h5] at hb
        omega
      rw [yfd h1]
      simp only [List.cons_append,rdN,hb2]
      rw [if_neg (fun h=>hk4 h.1),if_pos (by omega)]
      have hmul:128 ^ k*q=q % 128*128 ^ k+128 ^ (k+1)*(q / 128):=by
        conv=>lhs;rw [←Nat.mod_add_div q 128]
        rw [Nat.mul_add,Nat.pow_succ,Nat.mul_assoc,Nat.mul_comm (128 ^ k) (q % 128)]
      rw [show (q % 128+128) % 128=q % 128 by omega,ih (q / 128) (by omega) (k+1) _ rest (by omega) (fun _=>by omega) (by rw [hmul] at hb;omega),hmul]
      simp
      constructor
      · omega
      · omega
def yjn (pool:List Str):Ev→Str
  | .num n=>y6s n.toNat
  | .txt s=>y6s (ybe pool s)
def y4d (pool:List Str) (es:List Ev):Str:=es.flatMap (yjn pool)
theorem ycd (pool:List Str) (a b:List Ev):y4d pool (a++b)=y4d pool a++y4d pool b:=by simp [y4d,List.flatMap_append]
@[simp] theorem encVs_nil (pool:List Str):y4d pool []=[]:=rfl
theorem yct (pool:List Str) (x:Ev) (es:List Ev):y4d pool (x::es)=yjn pool x++y4d pool es:=by simp [y4d]
def yo6 (pool:List Str):Ev→Prop
  | .num n=>0≤n∧n≤268435456
  | .txt s=>s∈pool
theorem encV_len (pool:List Str) (x:Ev):1≤(yjn pool x).length:=by
  cases x <;> exact List.length_pos_iff.2 (ykf _)
theorem yjm (pool:List Str):∀es:List Ev,es.length≤(y4d pool es).length
  | []=>by simp
  | x::es=>by
    have:=encV_len pool x
    have:=yjm pool es
    rw [yct,List.length_append,List.length_cons];omega
structure Got (t:Str) (pool:List Str) (σ σ':Rd) (es:List Ev):Prop where
  e:σ.e=0
  le:σ.pos≤σ'.pos
  hi:σ'.pos≤t.length
  bytes:t.drop σ.pos=y4d pool es++t.drop σ'.pos
  ok:∀x∈es,yo6 pool x
theorem Got.nil {t:Str} {pool:List Str} {σ:Rd} (h:y6y t σ) (he:σ.e=0):Got t pool σ σ []:=⟨he,Nat.le_refl _,h.1,by simp,fun x h=>by cases h⟩
theorem Got.trans {t:Str} {pool:List Str} {a b c:Rd} {x y:List Ev} (h:Got t pool a b x) (k:Got t pool b c y):Got t pool a c (x++y):=
  ⟨h.e,Nat.le_trans h.le k.le,k.hi,by rw [h.bytes,k.bytes,ycd,List.append_assoc],fun z hz=>(List.mem_append.1 hz).elim (h.ok z) (k.ok z)⟩
theorem yb0 {t:Str} {pool:List Str} {σ:Rd} (ho:y6y t σ) (he:(y3f t σ).2.e=0):Got t pool σ (y3f t σ).2 [.num ((y3f t σ).1:Nat)]:=by
  have hb:=ye7 t σ ho.1
  unfold y3f at he ⊢
  by_cases h1:σ.e=0
  · rw [if_neg (by simp [h1])] at he ⊢
    by_cases h2:(rdL t σ).2.2=0
    · rw [if_neg (by simp [h2])] at he ⊢
      obtain ⟨q,e1,_,_,e4,_⟩:=yj0 (t.drop σ.pos) 0 0 h2
      simp only [Nat.pow_zero,Nat.one_mul,Nat.zero_add,Nat.sub_zero] at e1 e4
      refine ⟨h1,by simp,by simp;omega,?_,fun x hx=>?_⟩
      · have e1':(rdL t σ).1=q:=e1
        simp only [y4d,yjn,List.flatMap_cons,List.flatMap_nil,List.append_nil,Int.toNat_natCast,e1']
        rw [List.drop_drop] at e4
        exact e4
      · simp at hx;subst hx
        simp only [yo6];omega
    · rw [if_pos h2] at he;exact (h2 he).elim
  · rw [if_pos h1] at he;exact (h1 he).elim
theorem ye6 {t:Str} {σ:Rd} {n:Nat} {rest:Str} (he:σ.e=0) (hn:n≤268435456) (h:t.drop σ.pos=y6s n++rest):y3f t σ=(n,{ σ with pos:=σ.pos+(y6s n).length }):=by
  have hf:=ym6 n 0 0 rest (by omega) (fun h=>by omega) (by simpa using hn)
  simp at hf
  have hL:rdL t σ=(n,(y6s n).length,0):=by unfold rdL;rw [h];exact hf
  unfold y3f
  rw [if_neg (by simp [he]),hL]
  simp
theorem pos_get {pool:List Str} (hr:y3o pool) {i:Nat} {s:Str} (h:pool[i]?=some s):ybe pool s=i:=by
  have hm:s∈pool:=List.mem_of_getElem? h
  have h1:=ye9 hr s i s h
  have h2:=(ybf hr s).1 hm
  unfold ybe
  rw [if_pos hm]
  by_cases hlt:i<yam pool s
  · have:=ye9 hr s i s h
    rw [decide_eq_true hlt] at this
    exact (y92 s this).elim
  · by_cases hgt:yam pool s<i
    · have hp:=hr
      unfold y3o at hp
      rw [List.pairwise_iff_getElem] at hp
      obtain ⟨a1,a2⟩:=List.getElem?_eq_some_iff.1 h
      obtain ⟨b1,b2⟩:=List.getElem?_eq_some_iff.1 h2
      have:=hp _ _ b1 a1 hgt
      rw [a2,b2] at this
      exact (y92 s this).elim
    · omega
section
variable {t:Str} {pool:List Str} {σ:Rd}
theorem y7e (hr:y3o pool) (ho:y6y t σ) (he:(y31 pool t σ).2.e=0):Got t pool σ (y31 pool t σ).2 [.txt (y31 pool t σ).1]:=by
  have hg:=yb0 (pool:=pool) ho
  have ho1:=(y5d ho).2
  unfold y31 at he ⊢
  by_cases h1:(y3f t σ).2.e=0
  · rw [if_neg (by simp [h1])] at he ⊢
    have g:=hg h1
    cases hp:pool[(y3f t σ).1]? with
    | none=>
      rw [hp] at he
      simp [y5k,h1] at he
    | some s=>
      refine ⟨g.e,g.le,g.hi,?_,fun x hx=>?_⟩
      · have:=g.bytes
        simp only [y4d,yjn,List.flatMap_cons,List.flatMap_nil,List.append_nil,Int.toNat_natCast] at this ⊢
        rw [pos_get hr hp];exact this
      · simp at hx;subst hx;exact List.mem_of_getElem? hp
  · rw [if_pos h1] at he;exact (h1 he).elim
theorem yn8 (hr:y3o pool) (hl:pool.length≤268435456) {s:Str} {rest:Str} (he:σ.e=0) (hs:s∈pool) (h:t.drop σ.pos=yjn pool (.txt s)++rest):y31 pool t σ=(s,{ σ with pos:=σ.pos+(yjn pool (.txt s)).length }):=by
  have hp:=(ybf hr s).1 hs
  have hlt:=(List.getElem?_eq_some_iff.1 hp).1
  have e:ybe pool s=yam pool s:=by unfold ybe;rw [if_pos hs]
  simp only [yjn] at h ⊢
  have hn:=ye6 (t:=t) (σ:=σ) (n:=ybe pool s) he (by omega) h
  unfold y31
  rw [hn]
  simp only [he]
  rw [e,hp]
  simp
def Snd {α:Type} (t:Str) (pool:List Str) (one:Rd→α × Rd) (ev:α→List Ev):Prop:=∀σ,y6y t σ→y6y t (one σ).2∧((one σ).2.e=0→Got t pool σ (one σ).2 (ev (one σ).1))
theorem yp6 {α:Type} {one:Rd→α × Rd} {ev:α→List Ev} (h:Snd t pool one ev):∀(n:Nat) {σ:Rd},y6y t σ→(y9v one n σ).2.e=0→(y9v one n σ).1.length=n∧Got t pool σ (y9v one n σ).2 ((y9v one n σ).1.flatMap ev)
  | 0,σ,ho,he=>⟨rfl,by simpa [y9v] using Got.nil ho he⟩
  | n+1,σ,ho,he=>by
    simp only [y9v] at he ⊢
    by_cases h1:σ.e=0
    · rw [if_neg (by simp [h1])] at he ⊢
      obtain ⟨o1,g1⟩:=h σ ho
      obtain ⟨l2,g2⟩:=yp6 h n o1 he
      refine ⟨by simp [l2],?_⟩
      rw [List.flatMap_cons]
      exact (g1 g2.e).trans g2
    · rw [if_pos h1] at he;exact (h1 he).elim
theorem yaf {α:Type} {one:Rd→α × Rd} {ev:α→List Ev} (h:Snd t pool one ev) (ho:y6y t σ) (he:(y30 t one σ).2.e=0):(y30 t one σ).1.length≤6000∧Got t pool σ (y30 t one σ).2 (evL ev (y30 t one σ).1):=by
  have hg:=yb0 (pool:=pool) ho
  have hcut:=yhx ho
  unfold y30 at he ⊢
  by_cases h6:6000<(y3f t σ).1
  · rw [if_pos h6] at he
    exfalso
    have:(y5k (y3f t σ).2 4).e≠0:=by unfold y5k;split <;> simp <;> assumption
    rw [yfn this] at he
    exact this he
  · rw [if_neg h6] at he hcut ⊢
    obtain ⟨l,g⟩:=yp6 h _ hcut he
    refine ⟨by omega,?_⟩
    have:=(hg g.e).trans g
    unfold evL
    rw [l]
    simpa using this
theorem yhs (hr:y3o pool):Snd t pool (y31 pool t) evW:=fun σ ho=>⟨y3u ho,fun he=>y7e hr ho he⟩
theorem snd_mark (hr:y3o pool):Snd t pool (y9w pool t) evM:=fun σ ho=>⟨yfo ho,fun he=>by
  have g2:=y7e hr (y5d ho).1 he
  exact (yb0 ho g2.e).trans g2⟩
theorem snd_obj (hr:y3o pool):Snd t pool (yc4 pool t) evO:=fun σ ho=>⟨yf0 ho,fun he=>by
  have o1:=y3u (pool:=pool) ho
  have o2:=y3u (pool:=pool) o1
  have g3:=(yaf (snd_mark hr) o2 he).2
  have g2:=y7e hr o1 g3.e
  have g1:=y7e hr ho g2.e
  exact g1.trans (g2.trans g3)⟩
theorem snd_fn (hr:y3o pool):Snd t pool (yj1 pool t) evF:=fun σ ho=>⟨yhw ho,fun he=>by
  have o1:=y3u (pool:=pool) ho
  have o2:=y3u (pool:=pool) o1
  have g3:=y7e hr o2 he
  have g2:=y7e hr o1 g3.e
  have g1:=y7e hr ho g2.e
  exact g1.trans (g2.trans g3)⟩
theorem snd_con (hr:y3o pool):Snd t pool (yc6 pool t) evC:=fun σ ho=>⟨yf1 ho,fun he=>by
  have o1:=(y5d ho).1
  have o2:=y3u (pool:=pool) o1
  have o3:=y3u (pool:=pool) o2
  have o4:=(y5d o3).1
  have o5:=y3u (pool:=pool) o4
  have g6:=(yaf (yhs hr) o5 he).2
  have g5:=y7e hr o4 g6.e
  have g4:=yb0 (pool:=pool) o3 g5.e
  have g3:=y7e hr o2 g4.e
  have g2:=y7e hr o1 g3.e
  have g1:=yb0 (pool:=pool) ho g2.e
  exact g1.trans (g2.trans (g3.trans (g4.trans (g5.trans g6))))⟩
theorem sum_got0 (hr:y3o pool) (ho:y6y t σ) {n:Str × Rd} {g w k:List Str × Rd} {o:List Ob × Rd} {f:List Fu × Rd} {c:List Cn × Rd} (hn:n=y31 pool t σ) (hg:g=y30 t (y31 pool t) n.2) (hw:w=y30 t (y31 pool t) g.2) (hk:k=y30 t (y31 pool t) w.2)
    (hob:o=y30 t (yc4 pool t) k.2) (hf:f=y30 t (yj1 pool t) o.2) (hc:c=y30 t (yc6 pool t) f.2):y6y t c.2∧(c.2.e=0→Got t pool σ c.2 (evS ⟨n.1,g.1,w.1,k.1,⟨o.1,f.1,c.1⟩⟩)∧g.1.length≤6000):=by
  have o1:y6y t n.2:=by rw [hn];exact y3u ho
  have o2:y6y t g.2:=by rw [hg];exact y6a (fun _ h=>y3u (pool:=pool) h) o1
  have o3:y6y t w.2:=by rw [hw];exact y6a (fun _ h=>y3u (pool:=pool) h) o2
  have o4:y6y t k.2:=by rw [hk];exact y6a (fun _ h=>y3u (pool:=pool) h) o3
  have o5:y6y t o.2:=by rw [hob];exact y6a (fun _ h=>yf0 (pool:=pool) h) o4
  have o6:y6y t f.2:=by rw [hf];exact y6a (fun _ h=>yhw (pool:=pool) h) o5
  have o7:y6y t c.2:=by rw [hc];exact y6a (fun _ h=>yf1 (pool:=pool) h) o6
  refine ⟨o7,fun he=>?_⟩
  have g7:Got t pool f.2 c.2 (evL evC c.1):=by rw [hc] at he ⊢;exact (yaf (snd_con hr) o6 he).2
  have g6:Got t pool o.2 f.2 (evL evF f.1):=by have:=g7.e;rw [hf] at this ⊢;exact (yaf (snd_fn hr) o5 this).2
  have g5:Got t pool k.2 o.2 (evL evO o.1):=by have:=g6.e;rw [hob] at this ⊢;exact (yaf (snd_obj hr) o4 this).2
  have g4:Got t pool w.2 k.2 (evL evW k.1):=by have:=g5.e;rw [hk] at this ⊢;exact (yaf (yhs hr) o3 this).2
  have g3:Got t pool g.2 w.2 (evL evW w.1):=by have:=g4.e;rw [hw] at this ⊢;exact (yaf (yhs hr) o2 this).2
  have g2:g.1.length≤6000∧Got t pool n.2 g.2 (evL evW g.1):=by have:=g3.e;rw [hg] at this ⊢;exact yaf (yhs hr) o1 this
  have g1:Got t pool σ n.2 [.txt n.1]:=by have:=g2.2.e;rw [hn] at this ⊢;exact y7e hr ho this
  exact ⟨g1.trans (g2.2.trans (g3.trans (g4.trans (g5.trans (g6.trans g7))))),g2.1⟩
theorem yfm (pool:List Str) (t:Str) (σ:Rd):∃(n:Str × Rd) (g w k:List Str × Rd) (o:List Ob × Rd) (f:List Fu × Rd) (c:List Cn × Rd),n=y31 pool t σ∧g=y30 t (y31 pool t) n.2∧w=y30 t (y31 pool t) g.2∧k=y30 t (y31 pool t) w.2∧
    o=y30 t (yc4 pool t) k.2∧f=y30 t (yj1 pool t) o.2∧c=y30 t (yc6 pool t) f.2∧ydm pool t σ=(⟨n.1,g.1,w.1,k.1,⟨o.1,f.1,c.1⟩⟩,c.2):=by
  refine ⟨_,_,_,_,_,_,_,rfl,rfl,rfl,rfl,rfl,rfl,rfl,?_⟩
  simp only [ydm]
theorem sum_got (hr:y3o pool) (ho:y6y t σ):y6y t (ydm pool t σ).2∧((ydm pool t σ).2.e=0→Got t pool σ (ydm pool t σ).2 (evS (ydm pool t σ).1)):=by
  obtain ⟨n,g,w,k,o,f,c,h1,h2,h3,h4,h5,h6,h7,e⟩:=yfm pool t σ
  have:=sum_got0 hr ho h1 h2 h3 h4 h5 h6 h7
  rw [e]
  exact ⟨this.1,fun he=>(this.2 he).1⟩
end
def yac (σ:Rd) (b:Str):Rd:={ σ with pos:=σ.pos+b.length }
theorem y5t (σ:Rd) (a b:Str):yac (yac σ a) b=yac σ (a++b):=by simp [yac,Nat.add_assoc]
theorem y5o {t:Str} {σ:Rd} {a b:Str} (h:t.drop σ.pos=a++b):t.drop (yac σ a).pos=b:=by
  simp only [yac]
  rw [←List.drop_drop,h];simp
def Ful {α:Type} (t:Str) (pool:List Str) (one:Rd→α × Rd) (ev:α→List Ev) (P:α→Prop):Prop:=∀x σ rest,P x→σ.e=0→t.drop σ.pos=y4d pool (ev x)++rest→one σ=(x,yac σ (y4d pool (ev x)))
section
variable {t:Str} {pool:List Str} {σ:Rd}
theorem yd8 {n:Nat} {rest:Str} (he:σ.e=0) (hn:n≤268435456) (h:t.drop σ.pos=y6s n++rest):y3f t σ=(n,yac σ (y6s n)):=ye6 he hn h
theorem y8e (hr:y3o pool) (hl:pool.length≤268435456):Ful t pool (y31 pool t) evW (fun s=>s∈pool):=fun s σ rest hs he h=>by
  have h':t.drop σ.pos=yjn pool (.txt s)++rest:=by simpa [evW,y4d] using h
  have:=yn8 hr hl he hs h'
  simpa [evW,y4d,yac] using this
theorem yp7 {α:Type} {one:Rd→α × Rd} {ev:α→List Ev} {P:α→Prop} (h:Ful t pool one ev P):∀(l:List α) {σ:Rd} {rest:Str},(∀x∈l,P x)→σ.e=0→t.drop σ.pos=y4d pool (l.flatMap ev)++rest→y9v one l.length σ=(l,yac σ (y4d pool (l.flatMap ev)))
  | [],σ,rest,_,he,hd=>by simp [y9v,yac]
  | x::l,σ,rest,hP,he,hd=>by
    rw [List.flatMap_cons,ycd,List.append_assoc] at hd
    have h1:=h x σ _ (hP x (by simp)) he hd
    have h2:=yp7 h l (σ:=yac σ (y4d pool (ev x))) (fun y hy=>hP y (by simp [hy])) he (y5o hd)
    simp only [List.length_cons,y9v]
    rw [if_neg (by simp [he]),h1,h2,y5t,List.flatMap_cons,ycd]
theorem yag {α:Type} {one:Rd→α × Rd} {ev:α→List Ev} {P:α→Prop} (h:Ful t pool one ev P) {l:List α} {rest:Str} (hl:l.length≤6000) (hP:∀x∈l,P x) (he:σ.e=0) (hd:t.drop σ.pos=y4d pool (evL ev l)++rest):
    y30 t one σ=(l,yac σ (y4d pool (evL ev l))):=by
  have e1:y4d pool (evL ev l)=y6s l.length++y4d pool (l.flatMap ev):=by rw [evL,yct];simp [yjn]
  rw [e1,List.append_assoc] at hd
  have h1:=yd8 he (by omega) hd
  unfold y30
  rw [h1]
  simp only
  rw [if_neg (by omega),yp7 h l (σ:=yac σ (y6s l.length)) hP he (y5o hd),y5t,e1]
theorem mark_ful (hr:y3o pool) (hl:pool.length≤268435456):Ful t pool (y9w pool t) evM (fun m=>0≤m.pos∧m.pos≤268435456∧m.tag∈pool):=fun m σ rest ⟨h0,h1,h2⟩ he h=>by
  have e1:y4d pool (evM m)=y6s m.pos.toNat++y4d pool (evW m.tag):=by simp [evM,evW,y4d,yjn]
  rw [e1,List.append_assoc] at h
  have n1:=yd8 he (by omega) h
  have n2:=y8e hr hl m.tag (yac σ (y6s m.pos.toNat)) rest h2 he (y5o h)
  unfold y9w
  rw [n1]
  simp only
  rw [n2,y5t,e1]
  have:((m.pos.toNat:Nat):Int)=m.pos:=by omega
  rw [this]
def obG (pool:List Str) (o:Ob):Prop:=o.name∈pool∧o.kinds∈pool∧o.marks.length≤6000∧∀m∈o.marks,0≤m.pos∧m.pos≤268435456∧m.tag∈pool
theorem obj_ful (hr:y3o pool) (hl:pool.length≤268435456):Ful t pool (yc4 pool t) evO (obG pool):=fun o σ rest ⟨h1,h2,h3,h4⟩ he h=>by
  have e1:y4d pool (evO o)=y4d pool (evW o.name)++(y4d pool (evW o.kinds)++y4d pool (evL evM o.marks)):=by simp [evO,evW,y4d]
  rw [e1] at h
  have n1:=y8e hr hl o.name σ _ h1 he (by rw [h,List.append_assoc])
  have d1:t.drop (yac σ (y4d pool (evW o.name))).pos=y4d pool (evW o.kinds)++(y4d pool (evL evM o.marks)++rest):=y5o (by rw [h];simp)
  have n2:=y8e hr hl o.kinds _ _ h2 (by exact he) d1
  have n3:=yag (mark_ful hr hl) h3 h4 (σ:=yac (yac σ (y4d pool (evW o.name))) (y4d pool (evW o.kinds))) (by exact he) (y5o d1)
  unfold yc4
  dsimp only
  rw [n1,n2,n3,y5t,y5t,e1]
  simp
def fnG (pool:List Str) (f:Fu):Prop:=f.name∈pool∧f.kinds∈pool∧f.ret∈pool
theorem fn_ful (hr:y3o pool) (hl:pool.length≤268435456):Ful t pool (yj1 pool t) evF (fnG pool):=fun f σ rest ⟨h1,h2,h3⟩ he h=>by
  have e1:y4d pool (evF f)=y4d pool (evW f.name)++(y4d pool (evW f.kinds)++y4d pool (evW f.ret)):=by simp [evF,evW,y4d]
  rw [e1] at h
  have n1:=y8e hr hl f.name σ _ h1 he (by rw [h,List.append_assoc])
  have d1:t.drop (yac σ (y4d pool (evW f.name))).pos=y4d pool (evW f.kinds)++(y4d pool (evW f.ret)++rest):=y5o (by rw [h];simp)
  have n2:=y8e hr hl f.kinds _ _ h2 (by exact he) d1
  have n3:=y8e hr hl f.ret (yac (yac σ (y4d pool (evW f.name))) (y4d pool (evW f.kinds))) rest h3 (by exact he) (y5o d1)
  unfold yj1
  dsimp only
  rw [n1,n2,n3,y5t,y5t,e1]
  simp
def cnGd (pool:List Str) (c:Cn):Prop:=(0≤c.op∧c.op≤268435456)∧c.a∈pool∧c.b∈pool∧(0≤c.k∧c.k≤268435456)∧c.tag∈pool∧c.args.length≤6000∧∀a∈c.args,a∈pool
theorem con_ful (hr:y3o pool) (hl:pool.length≤268435456):Ful t pool (yc6 pool t) evC (cnGd pool):=fun c σ rest ⟨h1,h2,h3,h4,h5,h6,h7⟩ he h=>by
  have e1:y4d pool (evC c)=y6s c.op.toNat++(y4d pool (evW c.a)++(y4d pool (evW c.b)++(y6s c.k.toNat++(y4d pool (evW c.tag)++y4d pool (evL evW c.args))))):=by simp [evC,evW,y4d,yjn]
  rw [e1] at h
  simp only [List.append_assoc] at h
  have n1:=yd8 he (by omega) h
  have d1:=y5o h
  have n2:=y8e hr hl c.a _ _ h2 (by exact he) d1
  have d2:=y5o d1
  have n3:=y8e hr hl c.b _ _ h3 (by exact he) d2
  have d3:=y5o d2
  have n4:=yd8 (t:=t) (n:=c.k.toNat) (by exact he) (by omega) d3
  have d4:=y5o d3
  have n5:=y8e hr hl c.tag _ _ h5 (by exact he) d4
  have d5:=y5o d4
  have n6:=yag (y8e hr hl) h6 h7 (by exact he) d5
  unfold yc6
  dsimp only
  rw [n1]
  dsimp only
  rw [n2]
  dsimp only
  rw [n3]
  dsimp only
  rw [n4]
  dsimp only
  rw [n5]
  dsimp only
  rw [n6]
  simp only [y5t,e1]
  have q1:((c.op.toNat:Nat):Int)=c.op:=by omega
  have q2:((c.k.toNat:Nat):Int)=c.k:=by omega
  rw [q1,q2]
  simp
def suG (pool:List Str) (s:Su):Prop:=s.name∈pool∧(s.gives.length≤6000∧∀a∈s.gives,a∈pool)∧(s.wants.length≤6000∧∀a∈s.wants,a∈pool)∧(s.keeps.length≤6000∧∀a∈s.keeps,a∈pool)∧
  (s.sys.objs.length≤6000∧∀o∈s.sys.objs,obG pool o)∧(s.sys.fns.length≤6000∧∀f∈s.sys.fns,fnG pool f)∧(s.sys.cons.length≤6000∧∀c∈s.sys.cons,cnGd pool c)
theorem sum_ful (hr:y3o pool) (hl:pool.length≤268435456) {s:Su} (hs:suG pool s) {rest:Str} (he:σ.e=0) (h:t.drop σ.pos=y4d pool (evS s)++rest):ydm pool t σ=(s,yac σ (y4d pool (evS s))):=by
  obtain ⟨h1,⟨h2,h2'⟩,⟨h3,h3'⟩,⟨h4,h4'⟩,⟨h5,h5'⟩,⟨h6,h6'⟩,h7,h7'⟩:=hs
  have e1:y4d pool (evS s)=y4d pool (evW s.name)++(y4d pool (evL evW s.gives)++(y4d pool (evL evW s.wants)++(y4d pool (evL evW s.keeps)++(y4d pool (evL evO s.sys.objs)++(y4d pool (evL evF s.sys.fns)++y4d pool (evL evC s.sys.cons)))))):=by simp [evS,evW,y4d]
  rw [e1] at h
  simp only [List.append_assoc] at h
  obtain ⟨n,g,w,k,o,f,c,q1,q2,q3,q4,q5,q6,q7,e⟩:=yfm pool t σ
  have n1:=y8e hr hl s.name _ _ h1 he h
  rw [n1] at q1;subst q1
  have d1:=y5o h
  have n2:=yag (y8e hr hl) h2 h2' (by exact he) d1
  rw [n2] at q2;subst q2
  have d2:=y5o d1
  have n3:=yag (y8e hr hl) h3 h3' (by exact he) d2
  rw [n3] at q3;subst q3
  have d3:=y5o d2
  have n4:=yag (y8e hr hl) h4 h4' (by exact he) d3
  rw [n4] at q4;subst q4
  have d4:=y5o d3
  have n5:=yag (obj_ful hr hl) h5 h5' (by exact he) d4
  rw [n5] at q5;subst q5
  have d5:=y5o d4
  have n6:=yag (fn_ful hr hl) h6 h6' (by exact he) d5
  rw [n6] at q6;subst q6
  have d6:=y5o d5
  have n7:=yag (con_ful hr hl) h7 h7' (by exact he) d6
  rw [n7] at q7;subst q7
  rw [e]
  simp only [y5t,e1]
  simp
end
structure Gb (t:Str) (σ σ':Rd) (bs:Str):Prop where
  e:σ.e=0
  le:σ.pos≤σ'.pos
  hi:σ'.pos≤t.length
  bytes:t.drop σ.pos=bs++t.drop σ'.pos
theorem Gb.trans {t:Str} {a b c:Rd} {x y:Str} (h:Gb t a b x) (k:Gb t b c y):Gb t a c (x++y):=⟨h.e,Nat.le_trans h.le k.le,k.hi,by rw [h.bytes,k.bytes,List.append_assoc]⟩
section
variable {t:Str} {σ:Rd}
theorem ypo (ho:y6y t σ) (he:(y3f t σ).2.e=0):Gb t σ (y3f t σ).2 (y6s (y3f t σ).1):=by
  have g:=yb0 (pool:=[]) ho he
  refine ⟨g.e,g.le,g.hi,?_⟩
  have:=g.bytes
  simpa [y4d,yjn] using this
theorem txt_gb (ho:y6y t σ) (he:(y7c t σ).2.e=0):Gb t σ (y7c t σ).2 (y6s (y7c t σ).1.length++(y7c t σ).1)∧(y7c t σ).1.length≤268435456:=by
  have hb:=ye7 t σ ho.1
  have hn:=ypo (t:=t) (σ:=σ) ho
  unfold y3f at hn
  unfold y7c at he ⊢
  by_cases h1:σ.e=0
  · rw [if_neg (by simp [h1])] at he hn ⊢
    by_cases h2:(rdL t σ).2.2=0
    · rw [if_neg (by simp [h2])] at he hn ⊢
      have hn:=hn h1
      by_cases h3:t.length<σ.pos+(rdL t σ).2.1+(rdL t σ).1
      · rw [if_pos h3] at he;simp at he
      rw [if_neg h3] at he ⊢
      generalize (rdL t σ).2.1=w at *
      generalize (rdL t σ).1=n at *
      have hl:(List.take n (t.drop (σ.pos+w))).length=n:=by simp;omega
      refine ⟨⟨h1,by simp;omega,by simp;omega,?_⟩,by simp only;rw [hl];exact hb.1⟩
      have:=hn.bytes
      simp only at this ⊢
      rw [hl,this,List.append_assoc,←List.drop_drop (i:=n),List.take_append_drop]
    · rw [if_pos h2] at he;exact (h2 he).elim
  · rw [if_pos h1] at he;exact (h1 he).elim
theorem yov {x:Str} {rest:Str} (he:σ.e=0) (hx:x.length≤268435456) (h:t.drop σ.pos=y6s x.length++(x++rest)):y7c t σ=(x,yac σ (y6s x.length++x)):=by
  have hn:=ye6 he hx h
  have hL:=ym6 x.length 0 0 (x++rest) (by omega) (fun h=>by omega) (by simpa using hx)
  rw [←h] at hL
  simp at hL
  have hL':rdL t σ=(x.length,(y6s x.length).length,0):=hL
  have hlen:t.length-σ.pos=(y6s x.length).length+(x.length+rest.length):=by have:=congrArg List.length h;simpa using this
  have hv:=List.length_pos_iff.2 (ykf x.length)
  unfold y7c
  rw [if_neg (by simp [he]),hL',if_neg (by simp),if_neg (by simp only;omega)]
  simp only [yac,List.length_append]
  have:t.drop (σ.pos+(y6s x.length).length)=x++rest:=by rw [←List.drop_drop,h];simp
  rw [this]
  simp [Nat.add_assoc]
theorem next_got {last:Str} {k:Nat} {rest:Str} {first:Bool} (h:(y9y last k rest first).2=0):∃s,y9y last k rest first=(s,0)∧s.length≤1000∧shN last s=k∧s.length-k=rest.length∧k≤s.length∧s.drop k=rest∧(first=false→ltB last s=true):=by
  unfold y9y at h ⊢
  by_cases h1:last.length<k
  · rw [if_pos h1] at h;simp at h
  rw [if_neg h1] at h ⊢
  by_cases h2:1000<(last.take k++rest).length
  · rw [if_pos h2] at h;simp at h
  rw [if_neg h2] at h ⊢
  by_cases h3:first=false∧(ltB (last.take k++rest) last||(last.take k++rest == last))=true
  · rw [if_pos h3] at h;simp at h
  rw [if_neg h3] at h ⊢
  by_cases h4:shN last (last.take k++rest)≠k
  · rw [if_pos h4] at h;simp at h
  rw [if_neg h4]
  have hk:(last.take k).length=k:=by rw [List.length_take];omega
  refine ⟨_,rfl,by omega,by simpa using h4,by rw [List.length_append,hk];omega,by rw [List.length_append,hk];omega,?_,fun hf=>?_⟩
  · have:=List.drop_left (l₁:=last.take k) (l₂:=rest)
    rw [hk] at this;exact this
  · rcases ykx last (last.take k++rest) with q | q | q
    · exact q
    · exact (h3 ⟨hf,by simp [←q]⟩).elim
    · exact (h3 ⟨hf,by simp [q]⟩).elim
theorem next_ful {last s:Str} {first:Bool} (hs:s.length≤1000) (hf:first=false→ltB last s=true):y9y last (shN last s) (s.drop (shN last s)) first=(s,0):=by
  have h1:=yiu last s
  have h2:=ym1 last s
  have e:last.take (shN last s)++s.drop (shN last s)=s:=by rw [h2,List.take_append_drop]
  unfold y9y
  rw [if_neg (by omega),e,if_neg (by omega),if_neg,if_neg (by simp)]
  rintro ⟨h3,h4⟩
  have h5:=hf h3
  have h6:=yf4 h5
  rw [h6] at h4
  simp at h4
  rw [h4] at h5
  exact y92 _ h5
theorem yh1:∀(n:Nat) {first:Bool} {last:Str} {acc:List Str} {σ:Rd},σ.e≠0→y7q t n first last acc σ=(acc,σ)
  | 0,_,_,_,_,_=>rfl
  | n+1,_,_,_,_,h=>by simp only [y7q];rw [if_pos h]
theorem ym7 {σ:Rd} {x:Int} (h:(y5k σ x).e=0):σ.e=0∧x=0∧y5k σ x=σ:=by
  unfold y5k at *
  by_cases h1:σ.e=0
  · rw [if_pos h1] at h ⊢
    simp at h
    refine ⟨h1,h,?_⟩
    cases σ;simp_all
  · rw [if_neg h1] at h;exact (h1 h).elim
theorem ym8:∀(n:Nat) {first:Bool} {last:Str} {acc:List Str} {σ:Rd},y6y t σ→(y7q t n first last acc σ).2.e=0→
    ∃l,(y7q t n first last acc σ).1=acc++l∧l.length=n∧Gb t σ (y7q t n first last acc σ).2 (yb2 last l)∧(∀s∈l,s.length≤1000)∧y3o (if first then l else last::l)∧y6y t (y7q t n first last acc σ).2
  | 0,first,last,acc,σ,ho,he=>⟨[],by simp [y7q],rfl,by simpa [y7q,yb2] using ⟨he,Nat.le_refl _,ho.1,by simp⟩,by simp,by cases first <;> simp [y3o],by simpa [y7q] using ho⟩
  | n+1,first,last,acc,σ,ho,he=>by
    simp only [y7q] at he ⊢
    by_cases h1:σ.e=0
    · rw [if_neg (by simp [h1])] at he ⊢
      have g1:=ypo (t:=t) (σ:=σ) ho
      have o1:=(y5d ho).1
      generalize y3f t σ=k at *
      have g2:=txt_gb (t:=t) (σ:=k.2) o1
      have o2:=(yhv o1).1
      generalize y7c t k.2=r at *
      by_cases h2:r.2.e=0
      · rw [if_neg (by simp [h2])] at he ⊢
        obtain ⟨g2,g2l⟩:=g2 h2
        have g1:=g1 g2.e
        by_cases h3:(y5k r.2 (y9y last k.1 r.1 first).2).e=0
        · obtain ⟨_,h4,h5⟩:=ym7 h3
          obtain ⟨s,q0,q1,q2,q3,q4,q5,q6⟩:=next_got h4
          rw [h5,q0] at he ⊢
          obtain ⟨l,p1,p2,p3,p4,p5,p6⟩:=ym8 n o2 he
          refine ⟨s::l,by rw [p1];simp,by simp [p2],?_,fun x hx=>(List.mem_cons.1 hx).elim (fun h=>h▸q1) (p4 x),?_,p6⟩
          · have:=g1.trans (g2.trans p3)
            simp only [yb2,q2,q3,q5]
            simpa [List.append_assoc] using this
          · simp at p5
            cases first with
            | true=>simpa using p5
            | false=>
              simp only [Bool.false_eq_true,if_false,y3o,List.pairwise_cons] at p5 ⊢
              refine ⟨fun x hx=>?_,p5⟩
              have h6:=q6 rfl
              rcases List.mem_cons.1 hx with rfl | hx
              · exact h6
              · exact yca h6 (p5.1 x hx)
        · rw [yh1 n h3] at he
          exact (h3 he).elim
      · rw [if_pos h2] at he;exact (h2 he).elim
    · rw [if_pos h1] at he;exact (h1 he).elim
theorem ym9:∀(l:List Str) {first:Bool} {last:Str} {acc:List Str} {σ:Rd} {rest:Str},(∀s∈l,s.length≤1000)→y3o (if first then l else last::l)→σ.e=0→t.drop σ.pos=yb2 last l++rest→
    y7q t l.length first last acc σ=(acc++l,yac σ (yb2 last l))
  | [],first,last,acc,σ,rest,_,_,_,_=>by simp [y7q,yac,yb2]
  | s::l,first,last,acc,σ,rest,hs,hr,he,hd=>by
    have hsl:=hs s (by simp)
    have hsh:=yiu last s
    simp only [yb2,List.append_assoc] at hd
    have n1:=yd8 he (by omega) hd
    have d1:=y5o hd
    have hdl:(s.drop (shN last s)).length=s.length-shN last s:=by simp
    rw [←hdl] at d1
    have n2:=yov (t:=t) (σ:=yac σ (y6s (shN last s))) he (by omega) d1
    rw [←List.append_assoc] at d1
    have d2:=y5o d1
    have hlt:first=false→ltB last s=true:=fun hf=>by
      subst hf
      simp only [Bool.false_eq_true,if_false,y3o,List.pairwise_cons] at hr
      exact hr.1 s (by simp)
    have hr2:y3o (s::l):=by
      cases first with
      | true=>simpa using hr
      | false=>
        simp only [Bool.false_eq_true,if_false,y3o,List.pairwise_cons] at hr
        simp only [y3o,List.pairwise_cons]
        exact hr.2
    simp only [List.length_cons,y7q]
    rw [if_neg (by simp [he]),n1]
    simp only
    rw [n2]
    simp only
    rw [if_neg (by simp [he,yac]),next_ful hsl hlt]
    simp only
    have hf0:y5k (yac (yac σ (y6s (shN last s))) (y6s (s.drop (shN last s)).length++s.drop (shN last s))) 0=yac (yac σ (y6s (shN last s))) (y6s (s.drop (shN last s)).length++s.drop (shN last s)):=by
      unfold y5k
      split
      · rename_i h;simp [yac,he]
      · rfl
    rw [hf0,ym9 l (first:=false) (last:=s) (σ:=yac (yac σ (y6s (shN last s))) (y6s (s.drop (shN last s)).length++s.drop (shN last s))) (fun x hx=>hs x (by simp [hx])) (by simpa using hr2) he d2]
    simp [yb2,y5t]
theorem yph (ho:y6y t σ) (he:(y6x t σ).2.e=0):Gb t σ (y6x t σ).2 (yb3 (y6x t σ).1)∧y3o (y6x t σ).1∧(∀s∈(y6x t σ).1,s.length≤1000)∧(y6x t σ).1.length≤6000∧y6y t (y6x t σ).2:=by
  have g1:=ypo (t:=t) (σ:=σ) ho
  have o1:=(y5d ho).1
  unfold y6x at he ⊢
  generalize y3f t σ=n at *
  by_cases h6:6000<n.1
  · simp only [if_pos h6] at he
    have:(y5k n.2 4).e≠0:=fun h=>by have:=(ym7 h).2.1;omega
    rw [yh1 _ this] at he
    exact (this he).elim
  · simp only [if_neg h6] at he ⊢
    obtain ⟨l,p1,p2,p3,p4,p5,p6⟩:=ym8 n.1 o1 he
    simp at p1 p5
    rw [p1]
    refine ⟨?_,p5,p4,by omega,p6⟩
    have:=(g1 p3.e).trans p3
    rw [←p2] at this
    simpa [yb3,p2] using this
theorem ypi {l:List Str} {rest:Str} (hl:l.length≤6000) (hs:∀s∈l,s.length≤1000) (hr:y3o l) (he:σ.e=0) (hd:t.drop σ.pos=yb3 l++rest):y6x t σ=(l,yac σ (yb3 l)):=by
  simp only [yb3,List.append_assoc] at hd
  have n1:=yd8 he (by omega) hd
  unfold y6x
  rw [n1]
  simp only
  rw [if_neg (by omega),ym9 l (σ:=yac σ (y6s l.length)) hs (by simpa using hr) he (y5o hd)]
  simp [yb3,y5t]
end
theorem yes (id:Nat) (v:Nat) (m:Nat) (hm:m≤1) (H:Hp) (hv:v<16777216) (hg:H.get id=some (.cells [.i .u32 ((v ^^^ 11994318:Nat):Int)] m)):
    AC Tryz.prog y8o [.p (some (id,0,1))] H (fun r H'=>r=.i .u32 v∧H'=H):=by
  refine AC.code y43.at y43.ok ?_
  refine AX.of _ ?_
  have h1:v ^^^ 11994318<16777216:=Nat.xor_lt_two_pow (n:=24) hv (by decide)
  have h2:=yf8 (a:=v ^^^ 11994318) (b:=11994318) (by omega) (by omega)
  rw [Nat.xor_assoc,Nat.xor_self,Nat.xor_zero] at h2
  simp [y43,y43.r0,y43.r1,hg,hm]
  exact h2
theorem yjp (id:Nat) (v:Nat) (m:Nat) (hm:m≤1) (H:Hp) (hv:v<16777216) (bs:List UInt8) (hb:bs.length≤140737488351232) (hg:H.get id=some (.cells [.i .u32 ((v ^^^ 11994318:Nat):Int)] m)):
    AC Tryz.prog ya3 [.p (some (id,0,1)),.s bs] H (fun r H'=>r=.tup []∧H'=H.upd id (.cells [.i .u32 ((yce v bs ^^^ 11994318:Nat):Int)] 1)):=by
  refine AC.code yy.at yy.ok ?_
  simp only [yy]
  apply jA
  simp [yy.r0]
  refine AC.fix (yes id v m hm H hv hg) ?_
  apply jB
  simp [yy.r1]
  refine AX.pblock (AX.loop (fun k F H'=>∃i:Nat,i≤bs.length∧k=bs.length-i∧H'=H∧
    F=[(0,.p (some (id,0,1))),(1,.s bs),(4,.i .u32 (yce v (bs.take i))),(9,.i .i64 bs.length),(10,.i .i64 i)]) bs.length ⟨_,_,.refl _ _,0,by omega,by omega,rfl,by simp [yce]⟩ ?_)
  rintro k F H' ⟨i,hi,rfl,rfl,rfl⟩
  have hw:=yi9 (bs.take i) hv
  simp only [yy.l0]
  apply jA
  simp [yy.r2]
  refine AX.seq (AX.pcond rfl (fun hlt=>AX.skip ?_) (fun hge=>AX.exit ?_))
  · simp at hlt
    simp
    apply jC
    simp [yy.r3]
    apply jA
    have hb1:=bs[i].toNat_lt
    have e1:IntKind.u32.wrap ((bs[i].toNat:Int))=((bs[i].toNat:Nat):Int):=ydi (by omega) (by omega)
    have e2:IntKind.u32.wrap ((bs[i].toNat:Int)*65536)=((bs[i].toNat*65536:Nat):Int):=by rw [ydi (by omega) (by omega)];simp
    have e3:=yf8 (a:=yce v (bs.take i)) (b:=bs[i].toNat*65536) (by omega) (by omega)
    simp at e3
    simp [yy.r4,hlt,e1,e2,e3]
    have hx:=yr5 hw bs[i]
    apply jA
    simp [yy.r5]
    refine AX.pblock (AX.loop (fun k F H''=>∃j:Nat,j≤8∧k=8-j∧H''=H'∧
      F=[(0,.p (some (id,0,1))),(1,.s bs),(4,.i .u32 (ykb j (yce v (bs.take i) ^^^ bs[i].toNat*65536))),(9,.i .i64 bs.length),(10,.i .i64 i),(20,.i .i64 j)]) 8 ⟨_,_,.refl _ _,0,by omega,by omega,rfl,by simp [ykb]⟩ ?_)
    rintro k F H'' ⟨j,hj,rfl,rfl,rfl⟩
    have hn:=yl7 j hx
    simp only [yy.l1]
    apply jA
    simp [yy.r6]
    refine AX.seq (AX.pcond rfl (fun hlt=>AX.skip ?_) (fun hge=>AX.exit ?_))
    · simp at hlt
      simp
      apply jC
      generalize hu:ykb j (yce v (bs.take i) ^^^ bs[i].toNat*65536)=u at *
      have e4:IntKind.u32.wrap ((u:Int)*2)=((u*2:Nat):Int):=by rw [ydi (by omega) (by omega)];simp
      have e5:=ymt (a:=u*2) (b:=16777216) (by omega) (by omega)
      have e6:=yf8 (a:=u*2) (b:=25578747) (by omega) (by omega)
      simp at e5 e6
      simp [yy.r7,e4]
      apply jA
      simp [yy.r8,e5]
      have e7:IntKind.i64.wrap ((j:Int)+1)=((j+1:Nat):Int):=by rw [y2w (by omega) (by omega)];simp
      have hnext:ykb (j+1) (yce v (bs.take i) ^^^ bs[i].toNat*65536)=yil u:=by rw [yqw,hu]
      refine AX.pcond rfl (fun hbit=>AX.reg ?_) (fun hbit=>AX.skip ?_)
      · simp at hbit
        have hbit':u*2 &&& 16777216≠0:=hbit
        simp [yy.r9,e6]
        apply jE
        simp [yy.r10,e7]
        exact ⟨8-(j+1),by omega,_,_,.refl _ _,j+1,by omega,rfl,rfl,by simp [hnext,yil,hbit']⟩
      · simp at hbit
        simp
        apply jE
        simp [yy.r10,e7]
        exact ⟨8-(j+1),by omega,_,_,.refl _ _,j+1,by omega,rfl,rfl,by simp [hnext,yil,hbit]⟩
    · simp at hge
      have hj8:j=8:=by omega
      subst hj8
      simp
      apply jE
      have e8:IntKind.i64.wrap ((i:Int)+1)=((i+1:Nat):Int):=by rw [y2w (by omega) (by omega)];simp
      simp [yy.r11,e8]
      exact ⟨bs.length-(i+1),by omega,_,_,.refl _ _,i+1,by omega,rfl,rfl,by simp [yqx v bs i hlt,yr0]⟩
  · simp at hge
    have hi':i=bs.length:=by omega
    subst hi'
    simp
    apply jE
    have e3:=yf8 (a:=yce v bs) (b:=11994318) (by rw [List.take_length] at hw;omega) (by omega)
    simp at e3
    simp [yy.r12,hg,e3,Am.Ends]
theorem yqv (bs:List UInt8) (hb:bs.length≤140737488351232) (H:Hp):AC Tryz.prog yi0 [.s bs] H (fun r H'=>r=.i .u32 (yce 11994318 bs)∧H'=H):=by
  refine AC.codeC y55.at y55.ok (by simp) fun hl=>?_
  simp only [y55]
  apply jA
  simp [y55.r0]
  apply jA
  simp [y55.r1]
  apply jA
  simp [y55.r2]
  refine AC.fix (yjp H.next 11994318 1 (by omega) _ (by omega) bs hb (by simp)) ?_
  apply jA
  simp [y55.r3]
  refine AC.fix (yes H.next (yce 11994318 bs) 1 (by omega) _ (yi9 bs (by omega)) (by simp)) ?_
  try simp
  apply jD
  simp
  intro id blk hg
  have:=hl id blk hg
  simp [show id≠H.next by omega,hg]
theorem yg6 (bs:List UInt8) (hb:bs.length≤140737488351232) (H:Hp):AC Tryz.prog ycq [.s bs] H (fun r H'=>r=.s (bs++yo4 (yce 11994318 bs))∧H'=H):=by
  refine AC.codeC y4r.at y4r.ok (by simp) fun hl=>?_
  simp only [y4r]
  apply jA
  simp [y4r.r0]
  apply jA
  simp [y4r.r1]
  refine AC.fix (yqv bs hb H) ?_
  try simp
  apply jA
  have e1:=yot (yce 11994318 bs) 65536
  have e2:=yot (yce 11994318 bs) 256
  have e3:=u8_all (yce 11994318 bs)
  simp at e1 e2 e3
  simp [y4r.r2,yco,e1,e2,e3,yo4,show bs.length+3≤9223372036854775807 by omega]
  apply jD
  simp [yo4]
  intro id blk hg
  have:=hl id blk hg
  simp [show id≠H.next by omega,hg]
end Go.Proofs.YthmkcebbeehbeaaGreatDoor
