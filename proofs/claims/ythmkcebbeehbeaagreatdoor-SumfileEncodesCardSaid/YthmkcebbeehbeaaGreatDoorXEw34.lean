/- Part 34 of the proof of the laws of the queries: RdM, RrM, RsM, RsF. -/
import Derived.Test.YthmkcebbeehbeaaGreatDoorXEw30
import Derived.Test.YthmkcebbeehbeaaGreatDoorXEw33
set_option linter.unusedSimpArgs false
set_option linter.unusedVariables false
namespace Go.Proofs.YthmkcebbeehbeaaGreatDoor
open Am
def rdN:Nat→Nat→Str→Nat × Nat × Int
  | _,_,[]=>(0,0,1)
  | k,n,c::r=>if k=4∧1<c.toNat then (0,0,2) else if 128≤c.toNat then rdN (k+1) (n+c.toNat % 128*128 ^ k) r
      else if c.toNat=0∧0<k then (0,0,3) else if 268435456<n+c.toNat % 128*128 ^ k then (0,0,2) else (n+c.toNat % 128*128 ^ k,k+1,0)
structure Rd where
  pos:Nat
  e:Int
def rdL (t:Str) (σ:Rd):Nat × Nat × Int:=rdN 0 0 (t.drop σ.pos)
def y4m (t:Str) (σ:Rd):Nat × Rd:=if σ.e≠0 then (0,σ) else if (rdL t σ).2.2≠0 then (0,{ σ with e:=(rdL t σ).2.2 }) else ((rdL t σ).1,{ σ with pos:=σ.pos+(rdL t σ).2.1 })
def y9c (t:Str) (σ:Rd):Str × Rd:=
  if σ.e≠0 then ([],σ) else if (rdL t σ).2.2≠0 then ([],{ σ with e:=(rdL t σ).2.2 })
  else if t.length<σ.pos+(rdL t σ).2.1+(rdL t σ).1 then ([],{ σ with e:=1 })
  else ((t.drop (σ.pos+(rdL t σ).2.1)).take (rdL t σ).1,{ σ with pos:=σ.pos+(rdL t σ).2.1+(rdL t σ).1 })
def y77 (σ:Rd) (x:Int):Rd:=if σ.e=0 then { σ with e:=x } else σ
def y97 (t:Str) (σ:Rd):Int:=if σ.e=0∧σ.pos<t.length then 6 else σ.e
theorem ytf:∀(r:Str) (k n:Nat),(rdN k n r).1≤268435456∧(rdN k n r).2.1≤k+r.length∧0≤(rdN k n r).2.2∧(rdN k n r).2.2≤3∧((rdN k n r).2.2=0→k<(rdN k n r).2.1)
  | [],k,n=>by simp [rdN]
  | c::r,k,n=>by
    have ih:=ytf r (k+1) (n+c.toNat % 128*128 ^ k)
    simp only [rdN,List.length_cons]
    split
    · simp
    · split
      · exact ⟨ih.1,by omega,ih.2.2.1,ih.2.2.2.1,fun h=>by have:=ih.2.2.2.2 h;omega⟩
      · split
        · simp
        · split
          · simp
          · simp;omega
def y8u (t:Str) (σ:Rd):Prop:=σ.pos≤t.length∧0≤σ.e∧σ.e≤100∧σ.e≠6
theorem yhk (t:Str) (σ:Rd) (h:σ.pos≤t.length):(rdL t σ).1≤268435456∧σ.pos+(rdL t σ).2.1≤t.length∧0≤(rdL t σ).2.2∧(rdL t σ).2.2≤3:=by
  have:=ytf (t.drop σ.pos) 0 0
  unfold rdL
  rw [List.length_drop] at this
  omega
theorem y6x {t:Str} {σ:Rd} (h:y8u t σ):y8u t (y4m t σ).2∧(y4m t σ).1≤268435456:=by
  have:=yhk t σ h.1
  unfold y8u at *
  unfold y4m
  split
  · simp;omega
  · split <;> simp <;> omega
theorem yl8 {t:Str} {σ:Rd} (h:y8u t σ):y8u t (y9c t σ).2∧(y9c t σ).1.length≤t.length:=by
  have:=yhk t σ h.1
  unfold y8u at *
  unfold y9c
  split
  · simp;omega
  · split
    · simp;omega
    · split
      · simp;omega
      · simp;omega
theorem yf5 {t:Str} {σ:Rd} (h:y8u t σ) {x:Int} (h0:0≤x) (h1:x≤100) (h6:x≠6):y8u t (y77 σ x):=by
  unfold y8u y77 at *
  split <;> simp <;> omega
def ycs (last:Str) (k:Nat) (rest:Str) (first:Bool):Str × Int:=
  if last.length<k then ([],2) else if 1000<(last.take k++rest).length then ([],9) else if first=false∧(ltB (last.take k++rest) last||(last.take k++rest == last))=true then ([],13)
  else if shN last (last.take k++rest)≠k then ([],3) else (last.take k++rest,0)
def y9x (t:Str):Nat→Bool→Str→List Str→Rd→List Str × Rd
  | 0,_,_,acc,σ=>(acc,σ)
  | n+1,first,last,acc,σ=>if σ.e≠0 then (acc,σ) else
    let k:=y4m t σ
    let r:=y9c t k.2
    if r.2.e≠0 then (acc,r.2) else
    let x:=ycs last k.1 r.1 first
    y9x t n false x.1 (acc++[x.1]) (y77 r.2 x.2)
def y8t (t:Str) (σ:Rd):List Str × Rd:=
  let n:=y4m t σ
  y9x t n.1 true [] [] (if 6000<n.1 then y77 n.2 4 else n.2)
open C
def y45 (pool:List Str) (t:Str) (σ:Rd):Str × Rd:=
  if (y4m t σ).2.e≠0 then ([],(y4m t σ).2) else match pool[(y4m t σ).1]? with
    | some s=>(s,(y4m t σ).2)
    | none=>([],y77 (y4m t σ).2 2)
def ycp {α:Type} (one:Rd→α × Rd):Nat→Rd→List α × Rd
  | 0,σ=>([],σ)
  | n+1,σ=>if σ.e≠0 then ([],σ) else ((one σ).1::(ycp one n (one σ).2).1,(ycp one n (one σ).2).2)
def y44 {α:Type} (t:Str) (one:Rd→α × Rd) (σ:Rd):List α × Rd:=
  ycp one (y4m t σ).1 (if 6000<(y4m t σ).1 then y77 (y4m t σ).2 4 else (y4m t σ).2)
def ycq (pool:List Str) (t:Str) (σ:Rd):Mk × Rd:=(⟨((y4m t σ).1:Nat),(y45 pool t (y4m t σ).2).1⟩,(y45 pool t (y4m t σ).2).2)
def yf4 (pool:List Str) (t:Str) (σ:Rd):Ob × Rd:=
  let a:=y45 pool t σ
  let b:=y45 pool t a.2
  let c:=y44 t (ycq pool t) b.2
  (⟨a.1,b.1,c.1⟩,c.2)
def ymp (pool:List Str) (t:Str) (σ:Rd):Fu × Rd:=
  let a:=y45 pool t σ
  let b:=y45 pool t a.2
  let c:=y45 pool t b.2
  (⟨a.1,b.1,c.1⟩,c.2)
def yf6 (pool:List Str) (t:Str) (σ:Rd):Cn × Rd:=
  let o:=y4m t σ
  let a:=y45 pool t o.2
  let b:=y45 pool t a.2
  let k:=y4m t b.2
  let g:=y45 pool t k.2
  let l:=y44 t (y45 pool t) g.2
  (⟨(o.1:Nat),a.1,b.1,(k.1:Nat),g.1,l.1⟩,l.2)
def ygv (pool:List Str) (t:Str) (σ:Rd):Su × Rd:=
  let n:=y45 pool t σ
  let g:=y44 t (y45 pool t) n.2
  let w:=y44 t (y45 pool t) g.2
  let k:=y44 t (y45 pool t) w.2
  let o:=y44 t (yf4 pool t) k.2
  let f:=y44 t (ymp pool t) o.2
  let c:=y44 t (yf6 pool t) f.2
  (⟨n.1,g.1,w.1,k.1,⟨o.1,f.1,c.1⟩⟩,c.2)
def su0:Su:=⟨[],[],[],[],⟨[],[],[]⟩⟩
def yc6 (pool:List Str) (t:Str):Su × Int:=if y97 t (ygv pool t ⟨0,0⟩).2≠0 then (su0,y97 t (ygv pool t ⟨0,0⟩).2) else ((ygv pool t ⟨0,0⟩).1,0)
section
variable {pool:List Str} {t:Str} {σ:Rd}
theorem y52 (h:y8u t σ):y8u t (y45 pool t σ).2:=by
  have h1:=(y6x h).1
  unfold y45
  split
  · exact h1
  · split
    · exact h1
    · exact yf5 h1 (by omega) (by omega) (by omega)
theorem yq0 {α:Type} {one:Rd→α × Rd} (h1:∀σ,y8u t σ→y8u t (one σ).2):∀(n:Nat) {σ:Rd},y8u t σ→y8u t (ycp one n σ).2
  | 0,σ,h=>h
  | n+1,σ,h=>by
    simp only [ycp]
    split
    · exact h
    · exact yq0 h1 n (h1 σ h)
theorem yla (h:y8u t σ):y8u t (if 6000<(y4m t σ).1 then y77 (y4m t σ).2 4 else (y4m t σ).2):=by
  have h1:=(y6x h).1
  split
  · exact yf5 h1 (by omega) (by omega) (by omega)
  · exact h1
theorem y83 {α:Type} {one:Rd→α × Rd} (h1:∀σ,y8u t σ→y8u t (one σ).2) (h:y8u t σ):y8u t (y44 t one σ).2:=yq0 h1 _ (yla h)
theorem yj0 (h:y8u t σ):y8u t (ycq pool t σ).2:=y52 (y6x h).1
theorem yib (h:y8u t σ):y8u t (yf4 pool t σ).2:=y83 (fun _=>yj0) (y52 (y52 h))
theorem yl9 (h:y8u t σ):y8u t (ymp pool t σ).2:=y52 (y52 (y52 h))
theorem yic (h:y8u t σ):y8u t (yf6 pool t σ).2:=y83 (fun _=>y52) (y52 (y6x (y52 (y52 (y6x h).1))).1)
theorem yiz {α:Type} {one:Rd→α × Rd} (h:σ.e≠0) (n:Nat):ycp one n σ=([],σ):=by
  cases n with
  | zero=>rfl
  | succ n=>simp only [ycp];rw [if_pos h]
theorem yr8 {α:Type} {one:Rd→α × Rd} {n i:Nat} (hi:i<n) (h:σ.e=0):ycp one (n-i) σ=((one σ).1::(ycp one (n-(i+1)) (one σ).2).1,(ycp one (n-(i+1)) (one σ).2).2):=by
  rw [show n-i=(n-(i+1))+1 by omega]
  simp only [ycp]
  rw [if_neg (by simp [h])]
end
theorem u8_of (c:UInt8):UInt8.ofNat c.toNat=c:=by simp
theorem ymo:∀(r:Str) (k n:Nat),(rdN k n r).2.2=0→∃q,(rdN k n r).1=n+128 ^ k*q∧(0<k→q≠0)∧k≤(rdN k n r).2.1∧r=y7w q++r.drop ((rdN k n r).2.1-k)∧(y7w q).length=(rdN k n r).2.1-k
  | [],k,n,h=>by simp [rdN] at h
  | c::r,k,n,h=>by
    have hc:=c.toNat_lt
    simp only [rdN] at h ⊢
    by_cases h1:k=4∧1<c.toNat
    · rw [if_pos h1] at h;simp at h
    rw [if_neg h1] at h ⊢
    by_cases h2:128≤c.toNat
    · rw [if_pos h2] at h ⊢
      obtain ⟨q,e1,e2,e3,e4,e5⟩:=ymo r (k+1) (n+c.toNat % 128*128 ^ k) h
      generalize rdN (k+1) (n+c.toNat % 128*128 ^ k) r=R at *
      have hq:=e2 (by omega)
      have hv:y7w (c.toNat % 128+128*q)=c::y7w q:=by
        rw [yhg (by omega),show (c.toNat % 128+128*q) % 128+128=c.toNat by omega,show (c.toNat % 128+128*q) / 128=q by omega,u8_of]
      refine ⟨c.toNat % 128+128*q,?_,fun _=>by omega,by omega,?_,?_⟩
      · rw [e1,Nat.pow_succ,Nat.mul_add,←Nat.mul_assoc,Nat.mul_comm (128 ^ k) (c.toNat % 128)];omega
      · rw [hv,show R.2.1-k=(R.2.1-(k+1))+1 by omega,List.drop_succ_cons,List.cons_append,←e4]
      · rw [hv,List.length_cons,e5];omega
    · rw [if_neg h2] at h ⊢
      by_cases h3:c.toNat=0∧0<k
      · rw [if_pos h3] at h;simp at h
      rw [if_neg h3] at h ⊢
      by_cases h4:268435456<n+c.toNat % 128*128 ^ k
      · rw [if_pos h4] at h;simp at h
      rw [if_neg h4]
      have hv:y7w c.toNat=[c]:=by rw [y9y (by omega),u8_of]
      refine ⟨c.toNat,?_,fun h=>by omega,by simp,?_,?_⟩
      · simp only
        rw [Nat.mod_eq_of_lt (by omega),Nat.mul_comm]
      · rw [hv];simp
      · rw [hv];simp
theorem yq1:∀(q k n:Nat) (rest:Str),k≤4→(0<k→q≠0)→n+128 ^ k*q≤268435456→rdN k n (y7w q++rest)=(n+128 ^ k*q,k+(y7w q).length,0):=by
  intro q
  induction q using Nat.strongRecOn with
  | _ q ih=>
    intro k n rest hk hq hb
    have hp:k=4→128 ^ k=268435456:=fun h=>by subst h;rfl
    by_cases h1:q<128
    · have ht:(UInt8.ofNat q).toNat=q:=by simp;omega
      rw [y9y h1]
      simp only [List.cons_append,List.nil_append,rdN,ht]
      rw [if_neg (fun h=>by
        have h5:=hp h.1
        rw [h5] at hb
        have:=h.2
        omega),if_neg (by omega),if_neg (fun h=>hq h.2 h.1),Nat.mod_eq_of_lt h1,if_neg (by rw [Nat.mul_comm];omega),Nat.mul_comm]
      simp
    · have hb2:(UInt8.ofNat (q % 128+128)).toNat=q % 128+128:=by simp;omega
      have hk4:k≠4:=fun h=>by
        have h5:=hp h
        rw [h5] at hb
        omega
      rw [yhg h1]
      simp only [List.cons_append,rdN,hb2]
      rw [if_neg (fun h=>hk4 h.1),if_pos (by omega)]
      have hmul:128 ^ k*q=q % 128*128 ^ k+128 ^ (k+1)*(q / 128):=by
        conv=>lhs;rw [←Nat.mod_add_div q 128]
        rw [Nat.mul_add,Nat.pow_succ,Nat.mul_assoc,Nat.mul_comm (128 ^ k) (q % 128)]
      rw [show (q % 128+128) % 128=q % 128 by omega,ih (q / 128) (by omega) (k+1) _ rest (by omega) (fun _=>by omega) (by rw [hmul] at hb;omega),hmul]
      simp
      constructor
      · omega
      · omega
def yna (pool:List Str):Ev→Str
  | .num n=>y7w n.toNat
  | .txt s=>y7w (ycm pool s)
def y5t (pool:List Str) (es:List Ev):Str:=es.flatMap (yna pool)
theorem yff (pool:List Str) (a b:List Ev):y5t pool (a++b)=y5t pool a++y5t pool b:=by simp [y5t,List.flatMap_append]
@[simp] theorem encVs_nil (pool:List Str):y5t pool []=[]:=rfl
theorem yft (pool:List Str) (x:Ev) (es:List Ev):y5t pool (x::es)=yna pool x++y5t pool es:=by simp [y5t]
def ys5 (pool:List Str):Ev→Prop
  | .num n=>0≤n∧n≤268435456
  | .txt s=>s∈pool
theorem encV_len (pool:List Str) (x:Ev):1≤(yna pool x).length:=by
  cases x <;> exact List.length_pos_iff.2 (yo2 _)
theorem yn9 (pool:List Str):∀es:List Ev,es.length≤(y5t pool es).length
  | []=>by simp
  | x::es=>by
    have:=encV_len pool x
    have:=yn9 pool es
    rw [yft,List.length_append,List.length_cons];omega
structure Got (t:Str) (pool:List Str) (σ σ':Rd) (es:List Ev):Prop where
  e:σ.e=0
  le:σ.pos≤σ'.pos
  hi:σ'.pos≤t.length
  bytes:t.drop σ.pos=y5t pool es++t.drop σ'.pos
  ok:∀x∈es,ys5 pool x
theorem Got.nil {t:Str} {pool:List Str} {σ:Rd} (h:y8u t σ) (he:σ.e=0):Got t pool σ σ []:=⟨he,Nat.le_refl _,h.1,by simp,fun x h=>by cases h⟩
theorem Got.trans {t:Str} {pool:List Str} {a b c:Rd} {x y:List Ev} (h:Got t pool a b x) (k:Got t pool b c y):Got t pool a c (x++y):=
  ⟨h.e,Nat.le_trans h.le k.le,k.hi,by rw [h.bytes,k.bytes,yff,List.append_assoc],fun z hz=>(List.mem_append.1 hz).elim (h.ok z) (k.ok z)⟩
theorem ye5 {t:Str} {pool:List Str} {σ:Rd} (ho:y8u t σ) (he:(y4m t σ).2.e=0):Got t pool σ (y4m t σ).2 [.num ((y4m t σ).1:Nat)]:=by
  have hb:=yhk t σ ho.1
  unfold y4m at he ⊢
  by_cases h1:σ.e=0
  · rw [if_neg (by simp [h1])] at he ⊢
    by_cases h2:(rdL t σ).2.2=0
    · rw [if_neg (by simp [h2])] at he ⊢
      obtain ⟨q,e1,_,_,e4,_⟩:=ymo (t.drop σ.pos) 0 0 h2
      simp only [Nat.pow_zero,Nat.one_mul,Nat.zero_add,Nat.sub_zero] at e1 e4
      refine ⟨h1,by simp,by simp;omega,?_,fun x hx=>?_⟩
      · have e1':(rdL t σ).1=q:=e1
        simp only [y5t,yna,List.flatMap_cons,List.flatMap_nil,List.append_nil,Int.toNat_natCast,e1']
        rw [List.drop_drop] at e4
        exact e4
      · simp at hx;subst hx
        simp only [ys5];omega
    · rw [if_pos h2] at he;exact (h2 he).elim
  · rw [if_pos h1] at he;exact (h1 he).elim
theorem yhj {t:Str} {σ:Rd} {n:Nat} {rest:Str} (he:σ.e=0) (hn:n≤268435456) (h:t.drop σ.pos=y7w n++rest):y4m t σ=(n,{ σ with pos:=σ.pos+(y7w n).length }):=by
  have hf:=yq1 n 0 0 rest (by omega) (fun h=>by omega) (by simpa using hn)
  simp at hf
  have hL:rdL t σ=(n,(y7w n).length,0):=by unfold rdL;rw [h];exact hf
  unfold y4m
  rw [if_neg (by simp [he]),hL]
  simp
theorem pos_get {pool:List Str} (hr:y4g pool) {i:Nat} {s:Str} (h:pool[i]?=some s):ycm pool s=i:=by
  have hm:s∈pool:=List.mem_of_getElem? h
  have h1:=ygd hr s i s h
  have h2:=(ydd hr s).1 hm
  unfold ycm
  rw [if_pos hm]
  by_cases hlt:i<yde pool s
  · have:=ygd hr s i s h
    rw [decide_eq_true hlt] at this
    exact (yai s this).elim
  · by_cases hgt:yde pool s<i
    · have hp:=hr
      unfold y4g at hp
      rw [List.pairwise_iff_getElem] at hp
      obtain ⟨a1,a2⟩:=List.getElem?_eq_some_iff.1 h
      obtain ⟨b1,b2⟩:=List.getElem?_eq_some_iff.1 h2
      have:=hp _ _ b1 a1 hgt
      rw [a2,b2] at this
      exact (yai s this).elim
    · omega
section
variable {t:Str} {pool:List Str} {σ:Rd}
theorem y9g (hr:y4g pool) (ho:y8u t σ) (he:(y45 pool t σ).2.e=0):Got t pool σ (y45 pool t σ).2 [.txt (y45 pool t σ).1]:=by
  have hg:=ye5 (pool:=pool) ho
  have ho1:=(y6x ho).2
  unfold y45 at he ⊢
  by_cases h1:(y4m t σ).2.e=0
  · rw [if_neg (by simp [h1])] at he ⊢
    have g:=hg h1
    cases hp:pool[(y4m t σ).1]? with
    | none=>
      rw [hp] at he
      simp [y77,h1] at he
    | some s=>
      refine ⟨g.e,g.le,g.hi,?_,fun x hx=>?_⟩
      · have:=g.bytes
        simp only [y5t,yna,List.flatMap_cons,List.flatMap_nil,List.append_nil,Int.toNat_natCast] at this ⊢
        rw [pos_get hr hp];exact this
      · simp at hx;subst hx;exact List.mem_of_getElem? hp
  · rw [if_pos h1] at he;exact (h1 he).elim
theorem yr7 (hr:y4g pool) (hl:pool.length≤268435456) {s:Str} {rest:Str} (he:σ.e=0) (hs:s∈pool) (h:t.drop σ.pos=yna pool (.txt s)++rest):y45 pool t σ=(s,{ σ with pos:=σ.pos+(yna pool (.txt s)).length }):=by
  have hp:=(ydd hr s).1 hs
  have hlt:=(List.getElem?_eq_some_iff.1 hp).1
  have e:ycm pool s=yde pool s:=by unfold ycm;rw [if_pos hs]
  simp only [yna] at h ⊢
  have hn:=yhj (t:=t) (σ:=σ) (n:=ycm pool s) he (by omega) h
  unfold y45
  rw [hn]
  simp only [he]
  rw [e,hp]
  simp
def Snd {α:Type} (t:Str) (pool:List Str) (one:Rd→α × Rd) (ev:α→List Ev):Prop:=∀σ,y8u t σ→y8u t (one σ).2∧((one σ).2.e=0→Got t pool σ (one σ).2 (ev (one σ).1))
theorem yt8 {α:Type} {one:Rd→α × Rd} {ev:α→List Ev} (h:Snd t pool one ev):∀(n:Nat) {σ:Rd},y8u t σ→(ycp one n σ).2.e=0→(ycp one n σ).1.length=n∧Got t pool σ (ycp one n σ).2 ((ycp one n σ).1.flatMap ev)
  | 0,σ,ho,he=>⟨rfl,by simpa [ycp] using Got.nil ho he⟩
  | n+1,σ,ho,he=>by
    simp only [ycp] at he ⊢
    by_cases h1:σ.e=0
    · rw [if_neg (by simp [h1])] at he ⊢
      obtain ⟨o1,g1⟩:=h σ ho
      obtain ⟨l2,g2⟩:=yt8 h n o1 he
      refine ⟨by simp [l2],?_⟩
      rw [List.flatMap_cons]
      exact (g1 g2.e).trans g2
    · rw [if_pos h1] at he;exact (h1 he).elim
theorem ydh {α:Type} {one:Rd→α × Rd} {ev:α→List Ev} (h:Snd t pool one ev) (ho:y8u t σ) (he:(y44 t one σ).2.e=0):(y44 t one σ).1.length≤6000∧Got t pool σ (y44 t one σ).2 (evL ev (y44 t one σ).1):=by
  have hg:=ye5 (pool:=pool) ho
  have hcut:=yla ho
  unfold y44 at he ⊢
  by_cases h6:6000<(y4m t σ).1
  · rw [if_pos h6] at he
    exfalso
    have:(y77 (y4m t σ).2 4).e≠0:=by unfold y77;split <;> simp <;> assumption
    rw [yiz this] at he
    exact this he
  · rw [if_neg h6] at he hcut ⊢
    obtain ⟨l,g⟩:=yt8 h _ hcut he
    refine ⟨by omega,?_⟩
    have:=(hg g.e).trans g
    unfold evL
    rw [l]
    simpa using this
theorem yl2 (hr:y4g pool):Snd t pool (y45 pool t) evW:=fun σ ho=>⟨y52 ho,fun he=>y9g hr ho he⟩
theorem snd_mark (hr:y4g pool):Snd t pool (ycq pool t) evM:=fun σ ho=>⟨yj0 ho,fun he=>by
  have g2:=y9g hr (y6x ho).1 he
  exact (ye5 ho g2.e).trans g2⟩
theorem snd_obj (hr:y4g pool):Snd t pool (yf4 pool t) evO:=fun σ ho=>⟨yib ho,fun he=>by
  have o1:=y52 (pool:=pool) ho
  have o2:=y52 (pool:=pool) o1
  have g3:=(ydh (snd_mark hr) o2 he).2
  have g2:=y9g hr o1 g3.e
  have g1:=y9g hr ho g2.e
  exact g1.trans (g2.trans g3)⟩
theorem snd_fn (hr:y4g pool):Snd t pool (ymp pool t) evF:=fun σ ho=>⟨yl9 ho,fun he=>by
  have o1:=y52 (pool:=pool) ho
  have o2:=y52 (pool:=pool) o1
  have g3:=y9g hr o2 he
  have g2:=y9g hr o1 g3.e
  have g1:=y9g hr ho g2.e
  exact g1.trans (g2.trans g3)⟩
theorem snd_con (hr:y4g pool):Snd t pool (yf6 pool t) evC:=fun σ ho=>⟨yic ho,fun he=>by
  have o1:=(y6x ho).1
  have o2:=y52 (pool:=pool) o1
  have o3:=y52 (pool:=pool) o2
  have o4:=(y6x o3).1
  have o5:=y52 (pool:=pool) o4
  have g6:=(ydh (yl2 hr) o5 he).2
  have g5:=y9g hr o4 g6.e
  have g4:=ye5 (pool:=pool) o3 g5.e
  have g3:=y9g hr o2 g4.e
  have g2:=y9g hr o1 g3.e
  have g1:=ye5 (pool:=pool) ho g2.e
  exact g1.trans (g2.trans (g3.trans (g4.trans (g5.trans g6))))⟩
theorem sum_got0 (hr:y4g pool) (ho:y8u t σ) {n:Str × Rd} {g w k:List Str × Rd} {o:List Ob × Rd} {f:List Fu × Rd} {c:List Cn × Rd} (hn:n=y45 pool t σ) (hg:g=y44 t (y45 pool t) n.2) (hw:w=y44 t (y45 pool t) g.2) (hk:k=y44 t (y45 pool t) w.2)
    (hob:o=y44 t (yf4 pool t) k.2) (hf:f=y44 t (ymp pool t) o.2) (hc:c=y44 t (yf6 pool t) f.2):y8u t c.2∧(c.2.e=0→Got t pool σ c.2 (evS ⟨n.1,g.1,w.1,k.1,⟨o.1,f.1,c.1⟩⟩)∧g.1.length≤6000):=by
  have o1:y8u t n.2:=by rw [hn];exact y52 ho
  have o2:y8u t g.2:=by rw [hg];exact y83 (fun _ h=>y52 (pool:=pool) h) o1
  have o3:y8u t w.2:=by rw [hw];exact y83 (fun _ h=>y52 (pool:=pool) h) o2
  have o4:y8u t k.2:=by rw [hk];exact y83 (fun _ h=>y52 (pool:=pool) h) o3
  have o5:y8u t o.2:=by rw [hob];exact y83 (fun _ h=>yib (pool:=pool) h) o4
  have o6:y8u t f.2:=by rw [hf];exact y83 (fun _ h=>yl9 (pool:=pool) h) o5
  have o7:y8u t c.2:=by rw [hc];exact y83 (fun _ h=>yic (pool:=pool) h) o6
  refine ⟨o7,fun he=>?_⟩
  have g7:Got t pool f.2 c.2 (evL evC c.1):=by rw [hc] at he ⊢;exact (ydh (snd_con hr) o6 he).2
  have g6:Got t pool o.2 f.2 (evL evF f.1):=by have:=g7.e;rw [hf] at this ⊢;exact (ydh (snd_fn hr) o5 this).2
  have g5:Got t pool k.2 o.2 (evL evO o.1):=by have:=g6.e;rw [hob] at this ⊢;exact (ydh (snd_obj hr) o4 this).2
  have g4:Got t pool w.2 k.2 (evL evW k.1):=by have:=g5.e;rw [hk] at this ⊢;exact (ydh (yl2 hr) o3 this).2
  have g3:Got t pool g.2 w.2 (evL evW w.1):=by have:=g4.e;rw [hw] at this ⊢;exact (ydh (yl2 hr) o2 this).2
  have g2:g.1.length≤6000∧Got t pool n.2 g.2 (evL evW g.1):=by have:=g3.e;rw [hg] at this ⊢;exact ydh (yl2 hr) o1 this
  have g1:Got t pool σ n.2 [.txt n.1]:=by have:=g2.2.e;rw [hn] at this ⊢;exact y9g hr ho this
  exact ⟨g1.trans (g2.2.trans (g3.trans (g4.trans (g5.trans (g6.trans g7))))),g2.1⟩
theorem yiy (pool:List Str) (t:Str) (σ:Rd):∃(n:Str × Rd) (g w k:List Str × Rd) (o:List Ob × Rd) (f:List Fu × Rd) (c:List Cn × Rd),n=y45 pool t σ∧g=y44 t (y45 pool t) n.2∧w=y44 t (y45 pool t) g.2∧k=y44 t (y45 pool t) w.2∧
    o=y44 t (yf4 pool t) k.2∧f=y44 t (ymp pool t) o.2∧c=y44 t (yf6 pool t) f.2∧ygv pool t σ=(⟨n.1,g.1,w.1,k.1,⟨o.1,f.1,c.1⟩⟩,c.2):=by
  refine ⟨_,_,_,_,_,_,_,rfl,rfl,rfl,rfl,rfl,rfl,rfl,?_⟩
  simp only [ygv]
theorem sum_got (hr:y4g pool) (ho:y8u t σ):y8u t (ygv pool t σ).2∧((ygv pool t σ).2.e=0→Got t pool σ (ygv pool t σ).2 (evS (ygv pool t σ).1)):=by
  obtain ⟨n,g,w,k,o,f,c,h1,h2,h3,h4,h5,h6,h7,e⟩:=yiy pool t σ
  have:=sum_got0 hr ho h1 h2 h3 h4 h5 h6 h7
  rw [e]
  exact ⟨this.1,fun he=>(this.2 he).1⟩
end
def yd8 (σ:Rd) (b:Str):Rd:={ σ with pos:=σ.pos+b.length }
theorem y7h (σ:Rd) (a b:Str):yd8 (yd8 σ a) b=yd8 σ (a++b):=by simp [yd8,Nat.add_assoc]
theorem y7b {t:Str} {σ:Rd} {a b:Str} (h:t.drop σ.pos=a++b):t.drop (yd8 σ a).pos=b:=by
  simp only [yd8]
  rw [←List.drop_drop,h];simp
def Ful {α:Type} (t:Str) (pool:List Str) (one:Rd→α × Rd) (ev:α→List Ev) (P:α→Prop):Prop:=∀x σ rest,P x→σ.e=0→t.drop σ.pos=y5t pool (ev x)++rest→one σ=(x,yd8 σ (y5t pool (ev x)))
section
variable {t:Str} {pool:List Str} {σ:Rd}
theorem yge {n:Nat} {rest:Str} (he:σ.e=0) (hn:n≤268435456) (h:t.drop σ.pos=y7w n++rest):y4m t σ=(n,yd8 σ (y7w n)):=yhj he hn h
theorem yao (hr:y4g pool) (hl:pool.length≤268435456):Ful t pool (y45 pool t) evW (fun s=>s∈pool):=fun s σ rest hs he h=>by
  have h':t.drop σ.pos=yna pool (.txt s)++rest:=by simpa [evW,y5t] using h
  have:=yr7 hr hl he hs h'
  simpa [evW,y5t,yd8] using this
theorem yt9 {α:Type} {one:Rd→α × Rd} {ev:α→List Ev} {P:α→Prop} (h:Ful t pool one ev P):∀(l:List α) {σ:Rd} {rest:Str},(∀x∈l,P x)→σ.e=0→t.drop σ.pos=y5t pool (l.flatMap ev)++rest→ycp one l.length σ=(l,yd8 σ (y5t pool (l.flatMap ev)))
  | [],σ,rest,_,he,hd=>by simp [ycp,yd8]
  | x::l,σ,rest,hP,he,hd=>by
    rw [List.flatMap_cons,yff,List.append_assoc] at hd
    have h1:=h x σ _ (hP x (by simp)) he hd
    have h2:=yt9 h l (σ:=yd8 σ (y5t pool (ev x))) (fun y hy=>hP y (by simp [hy])) he (y7b hd)
    simp only [List.length_cons,ycp]
    rw [if_neg (by simp [he]),h1,h2,y7h,List.flatMap_cons,yff]
theorem ydi {α:Type} {one:Rd→α × Rd} {ev:α→List Ev} {P:α→Prop} (h:Ful t pool one ev P) {l:List α} {rest:Str} (hl:l.length≤6000) (hP:∀x∈l,P x) (he:σ.e=0) (hd:t.drop σ.pos=y5t pool (evL ev l)++rest):
    y44 t one σ=(l,yd8 σ (y5t pool (evL ev l))):=by
  have e1:y5t pool (evL ev l)=y7w l.length++y5t pool (l.flatMap ev):=by rw [evL,yft];simp [yna]
  rw [e1,List.append_assoc] at hd
  have h1:=yge he (by omega) hd
  unfold y44
  rw [h1]
  simp only
  rw [if_neg (by omega),yt9 h l (σ:=yd8 σ (y7w l.length)) hP he (y7b hd),y7h,e1]
theorem mark_ful (hr:y4g pool) (hl:pool.length≤268435456):Ful t pool (ycq pool t) evM (fun m=>0≤m.pos∧m.pos≤268435456∧m.tag∈pool):=fun m σ rest ⟨h0,h1,h2⟩ he h=>by
  have e1:y5t pool (evM m)=y7w m.pos.toNat++y5t pool (evW m.tag):=by simp [evM,evW,y5t,yna]
  rw [e1,List.append_assoc] at h
  have n1:=yge he (by omega) h
  have n2:=yao hr hl m.tag (yd8 σ (y7w m.pos.toNat)) rest h2 he (y7b h)
  unfold ycq
  rw [n1]
  simp only
  rw [n2,y7h,e1]
  have:((m.pos.toNat:Nat):Int)=m.pos:=by omega
  rw [this]
def obG (pool:List Str) (o:Ob):Prop:=o.name∈pool∧o.kinds∈pool∧o.marks.length≤6000∧∀m∈o.marks,0≤m.pos∧m.pos≤268435456∧m.tag∈pool
theorem obj_ful (hr:y4g pool) (hl:pool.length≤268435456):Ful t pool (yf4 pool t) evO (obG pool):=fun o σ rest ⟨h1,h2,h3,h4⟩ he h=>by
  have e1:y5t pool (evO o)=y5t pool (evW o.name)++(y5t pool (evW o.kinds)++y5t pool (evL evM o.marks)):=by simp [evO,evW,y5t]
  rw [e1] at h
  have n1:=yao hr hl o.name σ _ h1 he (by rw [h,List.append_assoc])
  have d1:t.drop (yd8 σ (y5t pool (evW o.name))).pos=y5t pool (evW o.kinds)++(y5t pool (evL evM o.marks)++rest):=y7b (by rw [h];simp)
  have n2:=yao hr hl o.kinds _ _ h2 (by exact he) d1
  have n3:=ydi (mark_ful hr hl) h3 h4 (σ:=yd8 (yd8 σ (y5t pool (evW o.name))) (y5t pool (evW o.kinds))) (by exact he) (y7b d1)
  unfold yf4
  dsimp only
  rw [n1,n2,n3,y7h,y7h,e1]
  simp
def fnG (pool:List Str) (f:Fu):Prop:=f.name∈pool∧f.kinds∈pool∧f.ret∈pool
theorem fn_ful (hr:y4g pool) (hl:pool.length≤268435456):Ful t pool (ymp pool t) evF (fnG pool):=fun f σ rest ⟨h1,h2,h3⟩ he h=>by
  have e1:y5t pool (evF f)=y5t pool (evW f.name)++(y5t pool (evW f.kinds)++y5t pool (evW f.ret)):=by simp [evF,evW,y5t]
  rw [e1] at h
  have n1:=yao hr hl f.name σ _ h1 he (by rw [h,List.append_assoc])
  have d1:t.drop (yd8 σ (y5t pool (evW f.name))).pos=y5t pool (evW f.kinds)++(y5t pool (evW f.ret)++rest):=y7b (by rw [h];simp)
  have n2:=yao hr hl f.kinds _ _ h2 (by exact he) d1
  have n3:=yao hr hl f.ret (yd8 (yd8 σ (y5t pool (evW f.name))) (y5t pool (evW f.kinds))) rest h3 (by exact he) (y7b d1)
  unfold ymp
  dsimp only
  rw [n1,n2,n3,y7h,y7h,e1]
  simp
def cnGd (pool:List Str) (c:Cn):Prop:=(0≤c.op∧c.op≤268435456)∧c.a∈pool∧c.b∈pool∧(0≤c.k∧c.k≤268435456)∧c.tag∈pool∧c.args.length≤6000∧∀a∈c.args,a∈pool
theorem con_ful (hr:y4g pool) (hl:pool.length≤268435456):Ful t pool (yf6 pool t) evC (cnGd pool):=fun c σ rest ⟨h1,h2,h3,h4,h5,h6,h7⟩ he h=>by
  have e1:y5t pool (evC c)=y7w c.op.toNat++(y5t pool (evW c.a)++(y5t pool (evW c.b)++(y7w c.k.toNat++(y5t pool (evW c.tag)++y5t pool (evL evW c.args))))):=by simp [evC,evW,y5t,yna]
  rw [e1] at h
  simp only [List.append_assoc] at h
  have n1:=yge he (by omega) h
  have d1:=y7b h
  have n2:=yao hr hl c.a _ _ h2 (by exact he) d1
  have d2:=y7b d1
  have n3:=yao hr hl c.b _ _ h3 (by exact he) d2
  have d3:=y7b d2
  have n4:=yge (t:=t) (n:=c.k.toNat) (by exact he) (by omega) d3
  have d4:=y7b d3
  have n5:=yao hr hl c.tag _ _ h5 (by exact he) d4
  have d5:=y7b d4
  have n6:=ydi (yao hr hl) h6 h7 (by exact he) d5
  unfold yf6
  dsimp only
  rw [n1]
  dsimp only
  rw [n2]
  dsimp only
  rw [n3]
  dsimp only
  rw [n4]
  dsimp only
  rw [n5]
  dsimp only
  rw [n6]
  simp only [y7h,e1]
  have q1:((c.op.toNat:Nat):Int)=c.op:=by omega
  have q2:((c.k.toNat:Nat):Int)=c.k:=by omega
  rw [q1,q2]
  simp
def suG (pool:List Str) (s:Su):Prop:=s.name∈pool∧(s.gives.length≤6000∧∀a∈s.gives,a∈pool)∧(s.wants.length≤6000∧∀a∈s.wants,a∈pool)∧(s.keeps.length≤6000∧∀a∈s.keeps,a∈pool)∧
  (s.sys.objs.length≤6000∧∀o∈s.sys.objs,obG pool o)∧(s.sys.fns.length≤6000∧∀f∈s.sys.fns,fnG pool f)∧(s.sys.cons.length≤6000∧∀c∈s.sys.cons,cnGd pool c)
theorem sum_ful (hr:y4g pool) (hl:pool.length≤268435456) {s:Su} (hs:suG pool s) {rest:Str} (he:σ.e=0) (h:t.drop σ.pos=y5t pool (evS s)++rest):ygv pool t σ=(s,yd8 σ (y5t pool (evS s))):=by
  obtain ⟨h1,⟨h2,h2'⟩,⟨h3,h3'⟩,⟨h4,h4'⟩,⟨h5,h5'⟩,⟨h6,h6'⟩,h7,h7'⟩:=hs
  have e1:y5t pool (evS s)=y5t pool (evW s.name)++(y5t pool (evL evW s.gives)++(y5t pool (evL evW s.wants)++(y5t pool (evL evW s.keeps)++(y5t pool (evL evO s.sys.objs)++(y5t pool (evL evF s.sys.fns)++y5t pool (evL evC s.sys.cons)))))):=by simp [evS,evW,y5t]
  rw [e1] at h
  simp only [List.append_assoc] at h
  obtain ⟨n,g,w,k,o,f,c,q1,q2,q3,q4,q5,q6,q7,e⟩:=yiy pool t σ
  have n1:=yao hr hl s.name _ _ h1 he h
  rw [n1] at q1;subst q1
  have d1:=y7b h
  have n2:=ydi (yao hr hl) h2 h2' (by exact he) d1
  rw [n2] at q2;subst q2
  have d2:=y7b d1
  have n3:=ydi (yao hr hl) h3 h3' (by exact he) d2
  rw [n3] at q3;subst q3
  have d3:=y7b d2
  have n4:=ydi (yao hr hl) h4 h4' (by exact he) d3
  rw [n4] at q4;subst q4
  have d4:=y7b d3
  have n5:=ydi (obj_ful hr hl) h5 h5' (by exact he) d4
  rw [n5] at q5;subst q5
  have d5:=y7b d4
  have n6:=ydi (fn_ful hr hl) h6 h6' (by exact he) d5
  rw [n6] at q6;subst q6
  have d6:=y7b d5
  have n7:=ydi (con_ful hr hl) h7 h7' (by exact he) d6
  rw [n7] at q7;subst q7
  rw [e]
  simp only [y7h,e1]
  simp
end
end Go.Proofs.YthmkcebbeehbeaaGreatDoor
