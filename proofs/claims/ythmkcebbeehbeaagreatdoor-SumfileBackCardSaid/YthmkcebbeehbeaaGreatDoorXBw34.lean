/- Part 34 of the proof of the laws of the queries: RdM, RrM, RsM, RsF. -/
import Derived.Test.YthmkcebbeehbeaaGreatDoorXBw30
import Derived.Test.YthmkcebbeehbeaaGreatDoorXBw33
set_option linter.unusedSimpArgs false
set_option linter.unusedVariables false
namespace Go.Proofs.YthmkcebbeehbeaaGreatDoor
open Am
def rdN:Nat→Nat→Str→Nat × Nat × Int
  | _,_,[]=>(0,0,1)
  | k,n,c::r=>if k=4∧1<c.toNat then (0,0,2) else if 128≤c.toNat then rdN (k+1) (n+c.toNat % 128*128 ^ k) r
      else if c.toNat=0∧0<k then (0,0,3) else if 268435456<n+c.toNat % 128*128 ^ k then (0,0,2) else (n+c.toNat % 128*128 ^ k,k+1,0)
structure Rd where
  pos:Nat
  e:Int
def rdL (t:Str) (σ:Rd):Nat × Nat × Int:=rdN 0 0 (t.drop σ.pos)
def y41 (t:Str) (σ:Rd):Nat × Rd:=if σ.e≠0 then (0,σ) else if (rdL t σ).2.2≠0 then (0,{ σ with e:=(rdL t σ).2.2 }) else ((rdL t σ).1,{ σ with pos:=σ.pos+(rdL t σ).2.1 })
def y8t (t:Str) (σ:Rd):Str × Rd:=
  if σ.e≠0 then ([],σ) else if (rdL t σ).2.2≠0 then ([],{ σ with e:=(rdL t σ).2.2 })
  else if t.length<σ.pos+(rdL t σ).2.1+(rdL t σ).1 then ([],{ σ with e:=1 })
  else ((t.drop (σ.pos+(rdL t σ).2.1)).take (rdL t σ).1,{ σ with pos:=σ.pos+(rdL t σ).2.1+(rdL t σ).1 })
def y6r (σ:Rd) (x:Int):Rd:=if σ.e=0 then { σ with e:=x } else σ
def y8f (t:Str) (σ:Rd):Int:=if σ.e=0∧σ.pos<t.length then 6 else σ.e
theorem ysf:∀(r:Str) (k n:Nat),(rdN k n r).1≤268435456∧(rdN k n r).2.1≤k+r.length∧0≤(rdN k n r).2.2∧(rdN k n r).2.2≤3∧((rdN k n r).2.2=0→k<(rdN k n r).2.1)
  | [],k,n=>by simp [rdN]
  | c::r,k,n=>by
    have ih:=ysf r (k+1) (n+c.toNat % 128*128 ^ k)
    simp only [rdN,List.length_cons]
    split
    · simp
    · split
      · exact ⟨ih.1,by omega,ih.2.2.1,ih.2.2.2.1,fun h=>by have:=ih.2.2.2.2 h;omega⟩
      · split
        · simp
        · split
          · simp
          · simp;omega
def y8e (t:Str) (σ:Rd):Prop:=σ.pos≤t.length∧0≤σ.e∧σ.e≤100∧σ.e≠6
theorem ygs (t:Str) (σ:Rd) (h:σ.pos≤t.length):(rdL t σ).1≤268435456∧σ.pos+(rdL t σ).2.1≤t.length∧0≤(rdL t σ).2.2∧(rdL t σ).2.2≤3:=by
  have:=ysf (t.drop σ.pos) 0 0
  unfold rdL
  rw [List.length_drop] at this
  omega
theorem y6h {t:Str} {σ:Rd} (h:y8e t σ):y8e t (y41 t σ).2∧(y41 t σ).1≤268435456:=by
  have:=ygs t σ h.1
  unfold y8e at *
  unfold y41
  split
  · simp;omega
  · split <;> simp <;> omega
theorem yhk {t:Str} {σ:Rd} (h:y8e t σ):y8e t (y8t t σ).2∧(y8t t σ).1.length≤t.length:=by
  have:=ygs t σ h.1
  unfold y8e at *
  unfold y8t
  split
  · simp;omega
  · split
    · simp;omega
    · split
      · simp;omega
      · simp;omega
theorem yee {t:Str} {σ:Rd} (h:y8e t σ) {x:Int} (h0:0≤x) (h1:x≤100) (h6:x≠6):y8e t (y6r σ x):=by
  unfold y8e y6r at *
  split <;> simp <;> omega
def yc1 (last:Str) (k:Nat) (rest:Str) (first:Bool):Str × Int:=
  if last.length<k then ([],2) else if 1000<(last.take k++rest).length then ([],9) else if first=false∧(ltB (last.take k++rest) last||(last.take k++rest == last))=true then ([],13)
  else if shN last (last.take k++rest)≠k then ([],3) else (last.take k++rest,0)
def y9i (t:Str):Nat→Bool→Str→List Str→Rd→List Str × Rd
  | 0,_,_,acc,σ=>(acc,σ)
  | n+1,first,last,acc,σ=>if σ.e≠0 then (acc,σ) else
    let k:=y41 t σ
    let r:=y8t t k.2
    if r.2.e≠0 then (acc,r.2) else
    let x:=yc1 last k.1 r.1 first
    y9i t n false x.1 (acc++[x.1]) (y6r r.2 x.2)
def y84 (t:Str) (σ:Rd):List Str × Rd:=
  let n:=y41 t σ
  y9i t n.1 true [] [] (if 6000<n.1 then y6r n.2 4 else n.2)
open C
def y3t (pool:List Str) (t:Str) (σ:Rd):Str × Rd:=
  if (y41 t σ).2.e≠0 then ([],(y41 t σ).2) else match pool[(y41 t σ).1]? with
    | some s=>(s,(y41 t σ).2)
    | none=>([],y6r (y41 t σ).2 2)
def yby {α:Type} (one:Rd→α × Rd):Nat→Rd→List α × Rd
  | 0,σ=>([],σ)
  | n+1,σ=>if σ.e≠0 then ([],σ) else ((one σ).1::(yby one n (one σ).2).1,(yby one n (one σ).2).2)
def y3s {α:Type} (t:Str) (one:Rd→α × Rd) (σ:Rd):List α × Rd:=
  yby one (y41 t σ).1 (if 6000<(y41 t σ).1 then y6r (y41 t σ).2 4 else (y41 t σ).2)
def ybz (pool:List Str) (t:Str) (σ:Rd):Mk × Rd:=(⟨((y41 t σ).1:Nat),(y3t pool t (y41 t σ).2).1⟩,(y3t pool t (y41 t σ).2).2)
def yed (pool:List Str) (t:Str) (σ:Rd):Ob × Rd:=
  let a:=y3t pool t σ
  let b:=y3t pool t a.2
  let c:=y3s t (ybz pool t) b.2
  (⟨a.1,b.1,c.1⟩,c.2)
def ym0 (pool:List Str) (t:Str) (σ:Rd):Fu × Rd:=
  let a:=y3t pool t σ
  let b:=y3t pool t a.2
  let c:=y3t pool t b.2
  (⟨a.1,b.1,c.1⟩,c.2)
def yef (pool:List Str) (t:Str) (σ:Rd):Cn × Rd:=
  let o:=y41 t σ
  let a:=y3t pool t o.2
  let b:=y3t pool t a.2
  let k:=y41 t b.2
  let g:=y3t pool t k.2
  let l:=y3s t (y3t pool t) g.2
  (⟨(o.1:Nat),a.1,b.1,(k.1:Nat),g.1,l.1⟩,l.2)
def yg3 (pool:List Str) (t:Str) (σ:Rd):Su × Rd:=
  let n:=y3t pool t σ
  let g:=y3s t (y3t pool t) n.2
  let w:=y3s t (y3t pool t) g.2
  let k:=y3s t (y3t pool t) w.2
  let o:=y3s t (yed pool t) k.2
  let f:=y3s t (ym0 pool t) o.2
  let c:=y3s t (yef pool t) f.2
  (⟨n.1,g.1,w.1,k.1,⟨o.1,f.1,c.1⟩⟩,c.2)
def su0:Su:=⟨[],[],[],[],⟨[],[],[]⟩⟩
def yar (pool:List Str) (t:Str):Su × Int:=if y8f t (yg3 pool t ⟨0,0⟩).2≠0 then (su0,y8f t (yg3 pool t ⟨0,0⟩).2) else ((yg3 pool t ⟨0,0⟩).1,0)
section
variable {pool:List Str} {t:Str} {σ:Rd}
theorem y4r (h:y8e t σ):y8e t (y3t pool t σ).2:=by
  have h1:=(y6h h).1
  unfold y3t
  split
  · exact h1
  · split
    · exact h1
    · exact yee h1 (by omega) (by omega) (by omega)
theorem yp3 {α:Type} {one:Rd→α × Rd} (h1:∀σ,y8e t σ→y8e t (one σ).2):∀(n:Nat) {σ:Rd},y8e t σ→y8e t (yby one n σ).2
  | 0,σ,h=>h
  | n+1,σ,h=>by
    simp only [yby]
    split
    · exact h
    · exact yp3 h1 n (h1 σ h)
theorem ykn (h:y8e t σ):y8e t (if 6000<(y41 t σ).1 then y6r (y41 t σ).2 4 else (y41 t σ).2):=by
  have h1:=(y6h h).1
  split
  · exact yee h1 (by omega) (by omega) (by omega)
  · exact h1
theorem y7l {α:Type} {one:Rd→α × Rd} (h1:∀σ,y8e t σ→y8e t (one σ).2) (h:y8e t σ):y8e t (y3s t one σ).2:=yp3 h1 _ (ykn h)
theorem yif (h:y8e t σ):y8e t (ybz pool t σ).2:=y4r (y6h h).1
theorem yhl (h:y8e t σ):y8e t (yed pool t σ).2:=y7l (fun _=>yif) (y4r (y4r h))
theorem ykl (h:y8e t σ):y8e t (ym0 pool t σ).2:=y4r (y4r (y4r h))
theorem yhm (h:y8e t σ):y8e t (yef pool t σ).2:=y7l (fun _=>y4r) (y4r (y6h (y4r (y4r (y6h h).1))).1)
theorem yie {α:Type} {one:Rd→α × Rd} (h:σ.e≠0) (n:Nat):yby one n σ=([],σ):=by
  cases n with
  | zero=>rfl
  | succ n=>simp only [yby];rw [if_pos h]
theorem yq7 {α:Type} {one:Rd→α × Rd} {n i:Nat} (hi:i<n) (h:σ.e=0):yby one (n-i) σ=((one σ).1::(yby one (n-(i+1)) (one σ).2).1,(yby one (n-(i+1)) (one σ).2).2):=by
  rw [show n-i=(n-(i+1))+1 by omega]
  simp only [yby]
  rw [if_neg (by simp [h])]
end
theorem u8_of (c:UInt8):UInt8.ofNat c.toNat=c:=by simp
theorem ylz:∀(r:Str) (k n:Nat),(rdN k n r).2.2=0→∃q,(rdN k n r).1=n+128 ^ k*q∧(0<k→q≠0)∧k≤(rdN k n r).2.1∧r=y8b q++r.drop ((rdN k n r).2.1-k)∧(y8b q).length=(rdN k n r).2.1-k
  | [],k,n,h=>by simp [rdN] at h
  | c::r,k,n,h=>by
    have hc:=c.toNat_lt
    simp only [rdN] at h ⊢
    by_cases h1:k=4∧1<c.toNat
    · rw [if_pos h1] at h;simp at h
    rw [if_neg h1] at h ⊢
    by_cases h2:128≤c.toNat
    · rw [if_pos h2] at h ⊢
      obtain ⟨q,e1,e2,e3,e4,e5⟩:=ylz r (k+1) (n+c.toNat % 128*128 ^ k) h
      generalize rdN (k+1) (n+c.toNat % 128*128 ^ k) r=R at *
      have hq:=e2 (by omega)
      have hv:y8b (c.toNat % 128+128*q)=c::y8b q:=by
        rw [yi2 (by omega),show (c.toNat % 128+128*q) % 128+128=c.toNat by omega,show (c.toNat % 128+128*q) / 128=q by omega,u8_of]
      refine ⟨c.toNat % 128+128*q,?_,fun _=>by omega,by omega,?_,?_⟩
      · rw [e1,Nat.pow_succ,Nat.mul_add,←Nat.mul_assoc,Nat.mul_comm (128 ^ k) (c.toNat % 128)];omega
      · rw [hv,show R.2.1-k=(R.2.1-(k+1))+1 by omega,List.drop_succ_cons,List.cons_append,←e4]
      · rw [hv,List.length_cons,e5];omega
    · rw [if_neg h2] at h ⊢
      by_cases h3:c.toNat=0∧0<k
      · rw [if_pos h3] at h;simp at h
      rw [if_neg h3] at h ⊢
      by_cases h4:268435456<n+c.toNat % 128*128 ^ k
      · rw [if_pos h4] at h;simp at h
      rw [if_neg h4]
      have hv:y8b c.toNat=[c]:=by rw [ya6 (by omega),u8_of]
      refine ⟨c.toNat,?_,fun h=>by omega,by simp,?_,?_⟩
      · simp only
        rw [Nat.mod_eq_of_lt (by omega),Nat.mul_comm]
      · rw [hv];simp
      · rw [hv];simp
theorem yp4:∀(q k n:Nat) (rest:Str),k≤4→(0<k→q≠0)→n+128 ^ k*q≤268435456→rdN k n (y8b q++rest)=(n+128 ^ k*q,k+(y8b q).length,0):=by
  intro q
  induction q using Nat.strongRecOn with
  | _ q ih=>
    intro k n rest hk hq hb
    have hp:k=4→128 ^ k=268435456:=fun h=>by subst h;rfl
    by_cases h1:q<128
    · have ht:(UInt8.ofNat q).toNat=q:=by simp;omega
      rw [ya6 h1]
      simp only [List.cons_append,List.nil_append,rdN,ht]
      rw [if_neg (fun h=>by
        have h5:=hp h.1
        rw [h5] at hb
        have:=h.2
        omega),if_neg (by omega),if_neg (fun h=>hq h.2 h.1),Nat.mod_eq_of_lt h1,if_neg (by rw [Nat.mul_comm];omega),Nat.mul_comm]
      simp
    · have hb2:(UInt8.ofNat (q % 128+128)).toNat=q % 128+128:=by simp;omega
      have hk4:k≠4:=fun h=>by
        have h5:=hp h
        rw [h5] at hb
        omega
      rw [yi2 h1]
      simp only [List.cons_append,rdN,hb2]
      rw [if_neg (fun h=>hk4 h.1),if_pos (by omega)]
      have hmul:128 ^ k*q=q % 128*128 ^ k+128 ^ (k+1)*(q / 128):=by
        conv=>lhs;rw [←Nat.mod_add_div q 128]
        rw [Nat.mul_add,Nat.pow_succ,Nat.mul_assoc,Nat.mul_comm (128 ^ k) (q % 128)]
      rw [show (q % 128+128) % 128=q % 128 by omega,ih (q / 128) (by omega) (k+1) _ rest (by omega) (fun _=>by omega) (by rw [hmul] at hb;omega),hmul]
      simp
      constructor
      · omega
      · omega
def ymm (pool:List Str):Ev→Str
  | .num n=>y8b n.toNat
  | .txt s=>y8b (ydn pool s)
def y5d (pool:List Str) (es:List Ev):Str:=es.flatMap (ymm pool)
theorem yeo (pool:List Str) (a b:List Ev):y5d pool (a++b)=y5d pool a++y5d pool b:=by simp [y5d,List.flatMap_append]
@[simp] theorem encVs_nil (pool:List Str):y5d pool []=[]:=rfl
theorem yf3 (pool:List Str) (x:Ev) (es:List Ev):y5d pool (x::es)=ymm pool x++y5d pool es:=by simp [y5d]
def yr5 (pool:List Str):Ev→Prop
  | .num n=>0≤n∧n≤268435456
  | .txt s=>s∈pool
theorem encV_len (pool:List Str) (x:Ev):1≤(ymm pool x).length:=by
  cases x <;> exact List.length_pos_iff.2 (yn8 _)
theorem yml (pool:List Str):∀es:List Ev,es.length≤(y5d pool es).length
  | []=>by simp
  | x::es=>by
    have:=encV_len pool x
    have:=yml pool es
    rw [yf3,List.length_append,List.length_cons];omega
structure Got (t:Str) (pool:List Str) (σ σ':Rd) (es:List Ev):Prop where
  e:σ.e=0
  le:σ.pos≤σ'.pos
  hi:σ'.pos≤t.length
  bytes:t.drop σ.pos=y5d pool es++t.drop σ'.pos
  ok:∀x∈es,yr5 pool x
theorem Got.nil {t:Str} {pool:List Str} {σ:Rd} (h:y8e t σ) (he:σ.e=0):Got t pool σ σ []:=⟨he,Nat.le_refl _,h.1,by simp,fun x h=>by cases h⟩
theorem Got.trans {t:Str} {pool:List Str} {a b c:Rd} {x y:List Ev} (h:Got t pool a b x) (k:Got t pool b c y):Got t pool a c (x++y):=
  ⟨h.e,Nat.le_trans h.le k.le,k.hi,by rw [h.bytes,k.bytes,yeo,List.append_assoc],fun z hz=>(List.mem_append.1 hz).elim (h.ok z) (k.ok z)⟩
theorem yd6 {t:Str} {pool:List Str} {σ:Rd} (ho:y8e t σ) (he:(y41 t σ).2.e=0):Got t pool σ (y41 t σ).2 [.num ((y41 t σ).1:Nat)]:=by
  have hb:=ygs t σ ho.1
  unfold y41 at he ⊢
  by_cases h1:σ.e=0
  · rw [if_neg (by simp [h1])] at he ⊢
    by_cases h2:(rdL t σ).2.2=0
    · rw [if_neg (by simp [h2])] at he ⊢
      obtain ⟨q,e1,_,_,e4,_⟩:=ylz (t.drop σ.pos) 0 0 h2
      simp only [Nat.pow_zero,Nat.one_mul,Nat.zero_add,Nat.sub_zero] at e1 e4
      refine ⟨h1,by simp,by simp;omega,?_,fun x hx=>?_⟩
      · have e1':(rdL t σ).1=q:=e1
        simp only [y5d,ymm,List.flatMap_cons,List.flatMap_nil,List.append_nil,Int.toNat_natCast,e1']
        rw [List.drop_drop] at e4
        exact e4
      · simp at hx;subst hx
        simp only [yr5];omega
    · rw [if_pos h2] at he;exact (h2 he).elim
  · rw [if_pos h1] at he;exact (h1 he).elim
theorem ygr {t:Str} {σ:Rd} {n:Nat} {rest:Str} (he:σ.e=0) (hn:n≤268435456) (h:t.drop σ.pos=y8b n++rest):y41 t σ=(n,{ σ with pos:=σ.pos+(y8b n).length }):=by
  have hf:=yp4 n 0 0 rest (by omega) (fun h=>by omega) (by simpa using hn)
  simp at hf
  have hL:rdL t σ=(n,(y8b n).length,0):=by unfold rdL;rw [h];exact hf
  unfold y41
  rw [if_neg (by simp [he]),hL]
  simp
theorem pos_get {pool:List Str} (hr:y4h pool) {i:Nat} {s:Str} (h:pool[i]?=some s):ydn pool s=i:=by
  have hm:s∈pool:=List.mem_of_getElem? h
  have h1:=ygu hr s i s h
  have h2:=(ydo hr s).1 hm
  unfold ydn
  rw [if_pos hm]
  by_cases hlt:i<ycp pool s
  · have:=ygu hr s i s h
    rw [decide_eq_true hlt] at this
    exact (ya0 s this).elim
  · by_cases hgt:ycp pool s<i
    · have hp:=hr
      unfold y4h at hp
      rw [List.pairwise_iff_getElem] at hp
      obtain ⟨a1,a2⟩:=List.getElem?_eq_some_iff.1 h
      obtain ⟨b1,b2⟩:=List.getElem?_eq_some_iff.1 h2
      have:=hp _ _ b1 a1 hgt
      rw [a2,b2] at this
      exact (ya0 s this).elim
    · omega
section
variable {t:Str} {pool:List Str} {σ:Rd}
theorem y92 (hr:y4h pool) (ho:y8e t σ) (he:(y3t pool t σ).2.e=0):Got t pool σ (y3t pool t σ).2 [.txt (y3t pool t σ).1]:=by
  have hg:=yd6 (pool:=pool) ho
  have ho1:=(y6h ho).2
  unfold y3t at he ⊢
  by_cases h1:(y41 t σ).2.e=0
  · rw [if_neg (by simp [h1])] at he ⊢
    have g:=hg h1
    cases hp:pool[(y41 t σ).1]? with
    | none=>
      rw [hp] at he
      simp [y6r,h1] at he
    | some s=>
      refine ⟨g.e,g.le,g.hi,?_,fun x hx=>?_⟩
      · have:=g.bytes
        simp only [y5d,ymm,List.flatMap_cons,List.flatMap_nil,List.append_nil,Int.toNat_natCast] at this ⊢
        rw [pos_get hr hp];exact this
      · simp at hx;subst hx;exact List.mem_of_getElem? hp
  · rw [if_pos h1] at he;exact (h1 he).elim
theorem yq6 (hr:y4h pool) (hl:pool.length≤268435456) {s:Str} {rest:Str} (he:σ.e=0) (hs:s∈pool) (h:t.drop σ.pos=ymm pool (.txt s)++rest):y3t pool t σ=(s,{ σ with pos:=σ.pos+(ymm pool (.txt s)).length }):=by
  have hp:=(ydo hr s).1 hs
  have hlt:=(List.getElem?_eq_some_iff.1 hp).1
  have e:ydn pool s=ycp pool s:=by unfold ydn;rw [if_pos hs]
  simp only [ymm] at h ⊢
  have hn:=ygr (t:=t) (σ:=σ) (n:=ydn pool s) he (by omega) h
  unfold y3t
  rw [hn]
  simp only [he]
  rw [e,hp]
  simp
def Snd {α:Type} (t:Str) (pool:List Str) (one:Rd→α × Rd) (ev:α→List Ev):Prop:=∀σ,y8e t σ→y8e t (one σ).2∧((one σ).2.e=0→Got t pool σ (one σ).2 (ev (one σ).1))
theorem ysb {α:Type} {one:Rd→α × Rd} {ev:α→List Ev} (h:Snd t pool one ev):∀(n:Nat) {σ:Rd},y8e t σ→(yby one n σ).2.e=0→(yby one n σ).1.length=n∧Got t pool σ (yby one n σ).2 ((yby one n σ).1.flatMap ev)
  | 0,σ,ho,he=>⟨rfl,by simpa [yby] using Got.nil ho he⟩
  | n+1,σ,ho,he=>by
    simp only [yby] at he ⊢
    by_cases h1:σ.e=0
    · rw [if_neg (by simp [h1])] at he ⊢
      obtain ⟨o1,g1⟩:=h σ ho
      obtain ⟨l2,g2⟩:=ysb h n o1 he
      refine ⟨by simp [l2],?_⟩
      rw [List.flatMap_cons]
      exact (g1 g2.e).trans g2
    · rw [if_pos h1] at he;exact (h1 he).elim
theorem ycl {α:Type} {one:Rd→α × Rd} {ev:α→List Ev} (h:Snd t pool one ev) (ho:y8e t σ) (he:(y3s t one σ).2.e=0):(y3s t one σ).1.length≤6000∧Got t pool σ (y3s t one σ).2 (evL ev (y3s t one σ).1):=by
  have hg:=yd6 (pool:=pool) ho
  have hcut:=ykn ho
  unfold y3s at he ⊢
  by_cases h6:6000<(y41 t σ).1
  · rw [if_pos h6] at he
    exfalso
    have:(y6r (y41 t σ).2 4).e≠0:=by unfold y6r;split <;> simp <;> assumption
    rw [yie this] at he
    exact this he
  · rw [if_neg h6] at he hcut ⊢
    obtain ⟨l,g⟩:=ysb h _ hcut he
    refine ⟨by omega,?_⟩
    have:=(hg g.e).trans g
    unfold evL
    rw [l]
    simpa using this
theorem ykg (hr:y4h pool):Snd t pool (y3t pool t) evW:=fun σ ho=>⟨y4r ho,fun he=>y92 hr ho he⟩
theorem snd_mark (hr:y4h pool):Snd t pool (ybz pool t) evM:=fun σ ho=>⟨yif ho,fun he=>by
  have g2:=y92 hr (y6h ho).1 he
  exact (yd6 ho g2.e).trans g2⟩
theorem snd_obj (hr:y4h pool):Snd t pool (yed pool t) evO:=fun σ ho=>⟨yhl ho,fun he=>by
  have o1:=y4r (pool:=pool) ho
  have o2:=y4r (pool:=pool) o1
  have g3:=(ycl (snd_mark hr) o2 he).2
  have g2:=y92 hr o1 g3.e
  have g1:=y92 hr ho g2.e
  exact g1.trans (g2.trans g3)⟩
theorem snd_fn (hr:y4h pool):Snd t pool (ym0 pool t) evF:=fun σ ho=>⟨ykl ho,fun he=>by
  have o1:=y4r (pool:=pool) ho
  have o2:=y4r (pool:=pool) o1
  have g3:=y92 hr o2 he
  have g2:=y92 hr o1 g3.e
  have g1:=y92 hr ho g2.e
  exact g1.trans (g2.trans g3)⟩
theorem snd_con (hr:y4h pool):Snd t pool (yef pool t) evC:=fun σ ho=>⟨yhm ho,fun he=>by
  have o1:=(y6h ho).1
  have o2:=y4r (pool:=pool) o1
  have o3:=y4r (pool:=pool) o2
  have o4:=(y6h o3).1
  have o5:=y4r (pool:=pool) o4
  have g6:=(ycl (ykg hr) o5 he).2
  have g5:=y92 hr o4 g6.e
  have g4:=yd6 (pool:=pool) o3 g5.e
  have g3:=y92 hr o2 g4.e
  have g2:=y92 hr o1 g3.e
  have g1:=yd6 (pool:=pool) ho g2.e
  exact g1.trans (g2.trans (g3.trans (g4.trans (g5.trans g6))))⟩
theorem sum_got0 (hr:y4h pool) (ho:y8e t σ) {n:Str × Rd} {g w k:List Str × Rd} {o:List Ob × Rd} {f:List Fu × Rd} {c:List Cn × Rd} (hn:n=y3t pool t σ) (hg:g=y3s t (y3t pool t) n.2) (hw:w=y3s t (y3t pool t) g.2) (hk:k=y3s t (y3t pool t) w.2)
    (hob:o=y3s t (yed pool t) k.2) (hf:f=y3s t (ym0 pool t) o.2) (hc:c=y3s t (yef pool t) f.2):y8e t c.2∧(c.2.e=0→Got t pool σ c.2 (evS ⟨n.1,g.1,w.1,k.1,⟨o.1,f.1,c.1⟩⟩)∧g.1.length≤6000):=by
  have o1:y8e t n.2:=by rw [hn];exact y4r ho
  have o2:y8e t g.2:=by rw [hg];exact y7l (fun _ h=>y4r (pool:=pool) h) o1
  have o3:y8e t w.2:=by rw [hw];exact y7l (fun _ h=>y4r (pool:=pool) h) o2
  have o4:y8e t k.2:=by rw [hk];exact y7l (fun _ h=>y4r (pool:=pool) h) o3
  have o5:y8e t o.2:=by rw [hob];exact y7l (fun _ h=>yhl (pool:=pool) h) o4
  have o6:y8e t f.2:=by rw [hf];exact y7l (fun _ h=>ykl (pool:=pool) h) o5
  have o7:y8e t c.2:=by rw [hc];exact y7l (fun _ h=>yhm (pool:=pool) h) o6
  refine ⟨o7,fun he=>?_⟩
  have g7:Got t pool f.2 c.2 (evL evC c.1):=by rw [hc] at he ⊢;exact (ycl (snd_con hr) o6 he).2
  have g6:Got t pool o.2 f.2 (evL evF f.1):=by have:=g7.e;rw [hf] at this ⊢;exact (ycl (snd_fn hr) o5 this).2
  have g5:Got t pool k.2 o.2 (evL evO o.1):=by have:=g6.e;rw [hob] at this ⊢;exact (ycl (snd_obj hr) o4 this).2
  have g4:Got t pool w.2 k.2 (evL evW k.1):=by have:=g5.e;rw [hk] at this ⊢;exact (ycl (ykg hr) o3 this).2
  have g3:Got t pool g.2 w.2 (evL evW w.1):=by have:=g4.e;rw [hw] at this ⊢;exact (ycl (ykg hr) o2 this).2
  have g2:g.1.length≤6000∧Got t pool n.2 g.2 (evL evW g.1):=by have:=g3.e;rw [hg] at this ⊢;exact ycl (ykg hr) o1 this
  have g1:Got t pool σ n.2 [.txt n.1]:=by have:=g2.2.e;rw [hn] at this ⊢;exact y92 hr ho this
  exact ⟨g1.trans (g2.2.trans (g3.trans (g4.trans (g5.trans (g6.trans g7))))),g2.1⟩
theorem yid (pool:List Str) (t:Str) (σ:Rd):∃(n:Str × Rd) (g w k:List Str × Rd) (o:List Ob × Rd) (f:List Fu × Rd) (c:List Cn × Rd),n=y3t pool t σ∧g=y3s t (y3t pool t) n.2∧w=y3s t (y3t pool t) g.2∧k=y3s t (y3t pool t) w.2∧
    o=y3s t (yed pool t) k.2∧f=y3s t (ym0 pool t) o.2∧c=y3s t (yef pool t) f.2∧yg3 pool t σ=(⟨n.1,g.1,w.1,k.1,⟨o.1,f.1,c.1⟩⟩,c.2):=by
  refine ⟨_,_,_,_,_,_,_,rfl,rfl,rfl,rfl,rfl,rfl,rfl,?_⟩
  simp only [yg3]
theorem sum_got (hr:y4h pool) (ho:y8e t σ):y8e t (yg3 pool t σ).2∧((yg3 pool t σ).2.e=0→Got t pool σ (yg3 pool t σ).2 (evS (yg3 pool t σ).1)):=by
  obtain ⟨n,g,w,k,o,f,c,h1,h2,h3,h4,h5,h6,h7,e⟩:=yid pool t σ
  have:=sum_got0 hr ho h1 h2 h3 h4 h5 h6 h7
  rw [e]
  exact ⟨this.1,fun he=>(this.2 he).1⟩
end
def ych (σ:Rd) (b:Str):Rd:={ σ with pos:=σ.pos+b.length }
theorem y70 (σ:Rd) (a b:Str):ych (ych σ a) b=ych σ (a++b):=by simp [ych,Nat.add_assoc]
theorem y6v {t:Str} {σ:Rd} {a b:Str} (h:t.drop σ.pos=a++b):t.drop (ych σ a).pos=b:=by
  simp only [ych]
  rw [←List.drop_drop,h];simp
def Ful {α:Type} (t:Str) (pool:List Str) (one:Rd→α × Rd) (ev:α→List Ev) (P:α→Prop):Prop:=∀x σ rest,P x→σ.e=0→t.drop σ.pos=y5d pool (ev x)++rest→one σ=(x,ych σ (y5d pool (ev x)))
section
variable {t:Str} {pool:List Str} {σ:Rd}
theorem yfl {n:Nat} {rest:Str} (he:σ.e=0) (hn:n≤268435456) (h:t.drop σ.pos=y8b n++rest):y41 t σ=(n,ych σ (y8b n)):=ygr he hn h
theorem ya7 (hr:y4h pool) (hl:pool.length≤268435456):Ful t pool (y3t pool t) evW (fun s=>s∈pool):=fun s σ rest hs he h=>by
  have h':t.drop σ.pos=ymm pool (.txt s)++rest:=by simpa [evW,y5d] using h
  have:=yq6 hr hl he hs h'
  simpa [evW,y5d,ych] using this
theorem ysc {α:Type} {one:Rd→α × Rd} {ev:α→List Ev} {P:α→Prop} (h:Ful t pool one ev P):∀(l:List α) {σ:Rd} {rest:Str},(∀x∈l,P x)→σ.e=0→t.drop σ.pos=y5d pool (l.flatMap ev)++rest→yby one l.length σ=(l,ych σ (y5d pool (l.flatMap ev)))
  | [],σ,rest,_,he,hd=>by simp [yby,ych]
  | x::l,σ,rest,hP,he,hd=>by
    rw [List.flatMap_cons,yeo,List.append_assoc] at hd
    have h1:=h x σ _ (hP x (by simp)) he hd
    have h2:=ysc h l (σ:=ych σ (y5d pool (ev x))) (fun y hy=>hP y (by simp [hy])) he (y6v hd)
    simp only [List.length_cons,yby]
    rw [if_neg (by simp [he]),h1,h2,y70,List.flatMap_cons,yeo]
theorem ycm {α:Type} {one:Rd→α × Rd} {ev:α→List Ev} {P:α→Prop} (h:Ful t pool one ev P) {l:List α} {rest:Str} (hl:l.length≤6000) (hP:∀x∈l,P x) (he:σ.e=0) (hd:t.drop σ.pos=y5d pool (evL ev l)++rest):
    y3s t one σ=(l,ych σ (y5d pool (evL ev l))):=by
  have e1:y5d pool (evL ev l)=y8b l.length++y5d pool (l.flatMap ev):=by rw [evL,yf3];simp [ymm]
  rw [e1,List.append_assoc] at hd
  have h1:=yfl he (by omega) hd
  unfold y3s
  rw [h1]
  simp only
  rw [if_neg (by omega),ysc h l (σ:=ych σ (y8b l.length)) hP he (y6v hd),y70,e1]
theorem mark_ful (hr:y4h pool) (hl:pool.length≤268435456):Ful t pool (ybz pool t) evM (fun m=>0≤m.pos∧m.pos≤268435456∧m.tag∈pool):=fun m σ rest ⟨h0,h1,h2⟩ he h=>by
  have e1:y5d pool (evM m)=y8b m.pos.toNat++y5d pool (evW m.tag):=by simp [evM,evW,y5d,ymm]
  rw [e1,List.append_assoc] at h
  have n1:=yfl he (by omega) h
  have n2:=ya7 hr hl m.tag (ych σ (y8b m.pos.toNat)) rest h2 he (y6v h)
  unfold ybz
  rw [n1]
  simp only
  rw [n2,y70,e1]
  have:((m.pos.toNat:Nat):Int)=m.pos:=by omega
  rw [this]
def obG (pool:List Str) (o:Ob):Prop:=o.name∈pool∧o.kinds∈pool∧o.marks.length≤6000∧∀m∈o.marks,0≤m.pos∧m.pos≤268435456∧m.tag∈pool
theorem obj_ful (hr:y4h pool) (hl:pool.length≤268435456):Ful t pool (yed pool t) evO (obG pool):=fun o σ rest ⟨h1,h2,h3,h4⟩ he h=>by
  have e1:y5d pool (evO o)=y5d pool (evW o.name)++(y5d pool (evW o.kinds)++y5d pool (evL evM o.marks)):=by simp [evO,evW,y5d]
  rw [e1] at h
  have n1:=ya7 hr hl o.name σ _ h1 he (by rw [h,List.append_assoc])
  have d1:t.drop (ych σ (y5d pool (evW o.name))).pos=y5d pool (evW o.kinds)++(y5d pool (evL evM o.marks)++rest):=y6v (by rw [h];simp)
  have n2:=ya7 hr hl o.kinds _ _ h2 (by exact he) d1
  have n3:=ycm (mark_ful hr hl) h3 h4 (σ:=ych (ych σ (y5d pool (evW o.name))) (y5d pool (evW o.kinds))) (by exact he) (y6v d1)
  unfold yed
  dsimp only
  rw [n1,n2,n3,y70,y70,e1]
  simp
def fnG (pool:List Str) (f:Fu):Prop:=f.name∈pool∧f.kinds∈pool∧f.ret∈pool
theorem fn_ful (hr:y4h pool) (hl:pool.length≤268435456):Ful t pool (ym0 pool t) evF (fnG pool):=fun f σ rest ⟨h1,h2,h3⟩ he h=>by
  have e1:y5d pool (evF f)=y5d pool (evW f.name)++(y5d pool (evW f.kinds)++y5d pool (evW f.ret)):=by simp [evF,evW,y5d]
  rw [e1] at h
  have n1:=ya7 hr hl f.name σ _ h1 he (by rw [h,List.append_assoc])
  have d1:t.drop (ych σ (y5d pool (evW f.name))).pos=y5d pool (evW f.kinds)++(y5d pool (evW f.ret)++rest):=y6v (by rw [h];simp)
  have n2:=ya7 hr hl f.kinds _ _ h2 (by exact he) d1
  have n3:=ya7 hr hl f.ret (ych (ych σ (y5d pool (evW f.name))) (y5d pool (evW f.kinds))) rest h3 (by exact he) (y6v d1)
  unfold ym0
  dsimp only
  rw [n1,n2,n3,y70,y70,e1]
  simp
def cnGd (pool:List Str) (c:Cn):Prop:=(0≤c.op∧c.op≤268435456)∧c.a∈pool∧c.b∈pool∧(0≤c.k∧c.k≤268435456)∧c.tag∈pool∧c.args.length≤6000∧∀a∈c.args,a∈pool
theorem con_ful (hr:y4h pool) (hl:pool.length≤268435456):Ful t pool (yef pool t) evC (cnGd pool):=fun c σ rest ⟨h1,h2,h3,h4,h5,h6,h7⟩ he h=>by
  have e1:y5d pool (evC c)=y8b c.op.toNat++(y5d pool (evW c.a)++(y5d pool (evW c.b)++(y8b c.k.toNat++(y5d pool (evW c.tag)++y5d pool (evL evW c.args))))):=by simp [evC,evW,y5d,ymm]
  rw [e1] at h
  simp only [List.append_assoc] at h
  have n1:=yfl he (by omega) h
  have d1:=y6v h
  have n2:=ya7 hr hl c.a _ _ h2 (by exact he) d1
  have d2:=y6v d1
  have n3:=ya7 hr hl c.b _ _ h3 (by exact he) d2
  have d3:=y6v d2
  have n4:=yfl (t:=t) (n:=c.k.toNat) (by exact he) (by omega) d3
  have d4:=y6v d3
  have n5:=ya7 hr hl c.tag _ _ h5 (by exact he) d4
  have d5:=y6v d4
  have n6:=ycm (ya7 hr hl) h6 h7 (by exact he) d5
  unfold yef
  dsimp only
  rw [n1]
  dsimp only
  rw [n2]
  dsimp only
  rw [n3]
  dsimp only
  rw [n4]
  dsimp only
  rw [n5]
  dsimp only
  rw [n6]
  simp only [y70,e1]
  have q1:((c.op.toNat:Nat):Int)=c.op:=by omega
  have q2:((c.k.toNat:Nat):Int)=c.k:=by omega
  rw [q1,q2]
  simp
def suG (pool:List Str) (s:Su):Prop:=s.name∈pool∧(s.gives.length≤6000∧∀a∈s.gives,a∈pool)∧(s.wants.length≤6000∧∀a∈s.wants,a∈pool)∧(s.keeps.length≤6000∧∀a∈s.keeps,a∈pool)∧
  (s.sys.objs.length≤6000∧∀o∈s.sys.objs,obG pool o)∧(s.sys.fns.length≤6000∧∀f∈s.sys.fns,fnG pool f)∧(s.sys.cons.length≤6000∧∀c∈s.sys.cons,cnGd pool c)
theorem sum_ful (hr:y4h pool) (hl:pool.length≤268435456) {s:Su} (hs:suG pool s) {rest:Str} (he:σ.e=0) (h:t.drop σ.pos=y5d pool (evS s)++rest):yg3 pool t σ=(s,ych σ (y5d pool (evS s))):=by
  obtain ⟨h1,⟨h2,h2'⟩,⟨h3,h3'⟩,⟨h4,h4'⟩,⟨h5,h5'⟩,⟨h6,h6'⟩,h7,h7'⟩:=hs
  have e1:y5d pool (evS s)=y5d pool (evW s.name)++(y5d pool (evL evW s.gives)++(y5d pool (evL evW s.wants)++(y5d pool (evL evW s.keeps)++(y5d pool (evL evO s.sys.objs)++(y5d pool (evL evF s.sys.fns)++y5d pool (evL evC s.sys.cons)))))):=by simp [evS,evW,y5d]
  rw [e1] at h
  simp only [List.append_assoc] at h
  obtain ⟨n,g,w,k,o,f,c,q1,q2,q3,q4,q5,q6,q7,e⟩:=yid pool t σ
  have n1:=ya7 hr hl s.name _ _ h1 he h
  rw [n1] at q1;subst q1
  have d1:=y6v h
  have n2:=ycm (ya7 hr hl) h2 h2' (by exact he) d1
  rw [n2] at q2;subst q2
  have d2:=y6v d1
  have n3:=ycm (ya7 hr hl) h3 h3' (by exact he) d2
  rw [n3] at q3;subst q3
  have d3:=y6v d2
  have n4:=ycm (ya7 hr hl) h4 h4' (by exact he) d3
  rw [n4] at q4;subst q4
  have d4:=y6v d3
  have n5:=ycm (obj_ful hr hl) h5 h5' (by exact he) d4
  rw [n5] at q5;subst q5
  have d5:=y6v d4
  have n6:=ycm (fn_ful hr hl) h6 h6' (by exact he) d5
  rw [n6] at q6;subst q6
  have d6:=y6v d5
  have n7:=ycm (con_ful hr hl) h7 h7' (by exact he) d6
  rw [n7] at q7;subst q7
  rw [e]
  simp only [y70,e1]
  simp
end
end Go.Proofs.YthmkcebbeehbeaaGreatDoor
