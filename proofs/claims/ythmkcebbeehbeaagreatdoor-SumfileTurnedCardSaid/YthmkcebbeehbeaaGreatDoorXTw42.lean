/- Part 42 of the proof of the laws of the queries: CrcBits, TrnM, LwT, ZTrn, LawSumfileTurned. -/
import Derived.Test.YthmkcebbeehbeaaGreatDoorXTw28
import Derived.Test.YthmkcebbeehbeaaGreatDoorXTw33
import Derived.Test.YthmkcebbeehbeaaGreatDoorXTw40
import Derived.Test.YthmkcebbeehbeaaGreatDoorXTw41
set_option linter.unusedSimpArgs false
set_option linter.unusedVariables false
namespace Go.Proofs.YthmkcebbeehbeaaGreatDoor
theorem ycv (v:Nat):yil v=if (v*2).testBit 24=true then v*2 ^^^ 25578747 else v*2:=by
  unfold yil
  by_cases h:(v*2).testBit 24=true
  · rw [if_pos ((yif _).2 h),if_pos h]
  · rw [if_neg (fun k=>h ((yif _).1 k)),if_neg h]
theorem ykg (a b:Nat):(a ^^^ b)*2=a*2 ^^^ b*2:=by
  have:=Nat.shiftLeft_xor_distrib (a:=a) (b:=b) (i:=1)
  simpa [Nat.shiftLeft_eq] using this
theorem ymn (a b:Nat):yil (a ^^^ b)=yil a ^^^ yil b:=by
  rw [ycv,ycv a,ycv b,ykg,Nat.testBit_xor]
  cases (a*2).testBit 24 <;> cases (b*2).testBit 24 <;> simp
  · ac_rfl
  · ac_rfl
  · rw [show a*2 ^^^ 25578747 ^^^ (b*2 ^^^ 25578747)=a*2 ^^^ b*2 ^^^ (25578747 ^^^ 25578747) by ac_rfl,Nat.xor_self,Nat.xor_zero]
theorem yjs {y z:Nat} (hy:y<16777216) (hz:z<16777216) (he:z % 2=0) (h:yil y=z):y=z / 2:=by
  rw [ycv] at h
  split at h
  · rename_i hb
    exfalso
    have h0:(y*2 ^^^ 25578747).testBit 0=z.testBit 0:=by rw [h]
    rw [Nat.testBit_xor] at h0
    simp [Nat.testBit_zero,he] at h0
  · omega
def yhk (c:Bool):Nat:=if c then 8388608 else 0
def yc1 (v:Nat) (cs:List Bool):Nat:=cs.foldl (fun v c=>yil (v ^^^ yhk c)) v
theorem y94 (v:Nat) (c:Bool) (cs:List Bool):yc1 v (c::cs)=yc1 (yil (v ^^^ yhk c)) cs:=rfl
theorem yci (v:Nat) (cs ds:List Bool):yc1 v (cs++ds)=yc1 (yc1 v cs) ds:=by simp [yc1]
theorem yr6 (c:Bool):yhk c<16777216:=by cases c <;> decide
theorem bitV_xor (c d:Bool):yhk (c ^^ d)=yhk c ^^^ yhk d:=by cases c <;> cases d <;> decide
theorem ylt {a b:Nat} (ha:a<16777216) (hb:b<16777216):a ^^^ b<16777216:=Nat.xor_lt_two_pow (n:=24) ha hb
theorem yms:∀(cs:List Bool) {v:Nat},v<16777216→yc1 v cs<16777216
  | [],_,h=>h
  | c::cs,v,h=>yms cs (yib (ylt h (yr6 c)))
theorem yjv:∀(cs ds:List Bool) (u v:Nat),cs.length=ds.length→yc1 (u ^^^ v) (List.zipWith (fun a b=>a ^^ b) cs ds)=yc1 u cs ^^^ yc1 v ds
  | [],[],u,v,_=>rfl
  | c::cs,d::ds,u,v,h=>by
    rw [List.zipWith_cons_cons,y94,y94,y94,←yjv cs ds _ _ (by simpa using h),←ymn,bitV_xor]
    congr 2
    ac_rfl
  | [],_::_,_,_,h=>by simp at h
  | _::_,[],_,_,h=>by simp at h
def yff:List Bool→Nat
  | []=>0
  | c::cs=>yff cs / 2+yhk c
theorem yho:∀cs,yff cs<16777216
  | []=>by decide
  | c::cs=>by
    have:=yho cs
    have:yhk c≤8388608:=by cases c <;> decide
    unfold yff;omega
theorem ylx:∀cs:List Bool,cs.length≤24→2 ^ (24-cs.length)∣yff cs
  | [],_=>⟨0,rfl⟩
  | c::cs,h=>by
    have h':cs.length≤23:=by simpa using h
    obtain ⟨q,hq⟩:=ylx cs (by omega)
    have e:24-cs.length=(23-cs.length)+1:=by omega
    rw [e,Nat.pow_succ] at hq
    have h2:yff cs / 2=2 ^ (23-cs.length)*q:=by
      rw [hq,show 2 ^ (23-cs.length)*2*q=2*(2 ^ (23-cs.length)*q) by ac_rfl,Nat.mul_div_cancel_left _ (by decide)]
    unfold yff
    rw [h2,List.length_cons,show 24-(cs.length+1)=23-cs.length by omega]
    refine Nat.dvd_add ⟨q,rfl⟩ ?_
    cases c with
    | false=>exact ⟨0,rfl⟩
    | true=>
      refine ⟨2 ^ cs.length,?_⟩
      rw [←Nat.pow_add,show 23-cs.length+cs.length=23 by omega]
      decide
theorem yfe {cs:List Bool} (h:cs.length≤23):yff cs % 2=0:=by
  obtain ⟨q,hq⟩:=ylx cs (by omega)
  rw [show 24-cs.length=(23-cs.length)+1 by omega,Nat.pow_succ] at hq
  rw [hq,show 2 ^ (23-cs.length)*2*q=2*(2 ^ (23-cs.length)*q) by ac_rfl]
  omega
theorem yeq {w:Nat} (hw:w<8388608) (c:Bool):w ^^^ yhk c=w+yhk c:=by
  cases c with
  | false=>simp [yhk]
  | true=>
    have h:yhk true=2 ^ 23*1:=by decide
    have:=Nat.two_pow_add_eq_or_of_lt (i:=23) (b:=w) (by simpa using hw) 1
    rw [h,Nat.add_comm,this,Nat.xor_comm]
    apply Nat.eq_of_testBit_eq
    intro i
    rw [Nat.testBit_xor,Nat.testBit_or,Nat.mul_one,Nat.testBit_two_pow]
    by_cases hi:23=i
    · subst hi
      have:w.testBit 23=false:=Nat.testBit_lt_two_pow (by simpa using hw)
      simp [this]
    · simp [hi]
theorem yhj:∀(cs:List Bool) {v:Nat},cs.length≤24→v<16777216→yc1 v cs=0→v=yff cs
  | [],v,_,_,h=>h
  | c::cs,v,hl,hv,h=>by
    have hl':cs.length≤23:=by simpa using hl
    rw [y94] at h
    have hx:=ylt hv (yr6 c)
    have h1:=yhj cs (by omega) (yib hx) h
    have h2:=yjs hx (yho cs) (yfe hl') h1
    have h3:v=yff cs / 2 ^^^ yhk c:=by rw [←h2,Nat.xor_assoc,Nat.xor_self,Nat.xor_zero]
    rw [h3,yeq (by have:=yho cs;omega)]
    rfl
theorem yim:∀cs:List Bool,cs.length≤24→yff cs=0→∀c∈cs,c=false
  | [],_,_=>by simp
  | c::cs,hl,h=>by
    have hl':cs.length≤23:=by simpa using hl
    unfold yff at h
    have he:=yfe hl'
    have h1:yff cs=0:=by omega
    have h2:yhk c=0:=by omega
    intro d hd
    rcases List.mem_cons.1 hd with rfl | hd
    · cases d with
      | false=>rfl
      | true=>exact absurd h2 (by decide)
    · exact yim cs (by omega) h1 d hd
theorem ygb:∀(cs:List Bool) {v:Nat},v<16777216→(∀c∈cs,c=false)→yc1 v cs=0→v=0
  | [],v,_,_,h=>h
  | c::cs,v,hv,hc,h=>by
    have:c=false:=hc c (by simp)
    subst this
    rw [y94] at h
    have hx:v ^^^ yhk false=v:=by simp [yhk]
    rw [hx] at h
    have h1:=ygb cs (yib hv) (fun d hd=>hc d (by simp [hd])) h
    have:=yjs hv (by decide) (by decide) h1
    simpa using this
theorem yhi:∀(cs:List Bool),(∀c∈cs,c=false)→yc1 0 cs=0
  | [],_=>rfl
  | c::cs,hc=>by
    have:c=false:=hc c (by simp)
    subst this
    rw [y94]
    have:yil (0 ^^^ yhk false)=0:=by decide
    rw [this]
    exact yhi cs (fun d hd=>hc d (by simp [hd]))
theorem burst (cs:List Bool) (first:Nat) (hb:∀i,cs[i]?=some true→first≤i∧i<first+24) (h:yc1 0 cs=0):∀c∈cs,c=false:=by
  have e:cs=cs.take first++((cs.drop first).take 24++(cs.drop first).drop 24):=by rw [List.take_append_drop,List.take_append_drop]
  have h1:∀c∈cs.take first,c=false:=fun c hc=>by
    obtain ⟨i,hi⟩:=List.mem_iff_getElem?.1 hc
    rw [List.getElem?_take] at hi
    split at hi
    · cases c with
      | false=>rfl
      | true=>have:=hb i hi;omega
    · cases hi
  have h3:∀c∈(cs.drop first).drop 24,c=false:=fun c hc=>by
    obtain ⟨i,hi⟩:=List.mem_iff_getElem?.1 hc
    rw [List.getElem?_drop,List.getElem?_drop] at hi
    cases c with
    | false=>rfl
    | true=>have:=hb _ hi;omega
  rw [e,yci,yhi _ h1,yci] at h
  have h4:=ygb _ (yms _ (by decide)) h3 h
  have h5:=yhj _ (by simp;omega) (by decide) h4
  have h2:=yim _ (by simp;omega) h5.symm
  intro c hc
  rw [e] at hc
  rcases List.mem_append.1 hc with hc | hc
  · exact h1 c hc
  · rcases List.mem_append.1 hc with hc | hc
    · exact h2 c hc
    · exact h3 c hc
def ylg (b:UInt8):List Bool:=[b.toNat.testBit 7,b.toNat.testBit 6,b.toNat.testBit 5,b.toNat.testBit 4,b.toNat.testBit 3,b.toNat.testBit 2,b.toNat.testBit 1,b.toNat.testBit 0]
def yet (l:List UInt8):List Bool:=l.flatMap ylg
theorem yjq:∀(cs:List Bool) (v:Nat),cs.length≤24→ykb cs.length (v ^^^ yff cs)=yc1 v cs
  | [],v,_=>by simp [ykb,yc1,yff]
  | c::cs,v,hl=>by
    have hl':cs.length≤23:=by simpa using hl
    have hlt:=yho cs
    have hh:yff cs / 2<8388608:=by omega
    have e1:yil (yff cs / 2)=yff cs:=by
      rw [ycv,if_neg]
      · have:=yfe hl';omega
      · rw [yba];simp;omega
    rw [y94,List.length_cons,ykb,←yjq cs _ (by omega)]
    congr 1
    have ev:yff (c::cs)=yff cs / 2+yhk c:=rfl
    rw [ev,←yeq hh,show v ^^^ (yff cs / 2 ^^^ yhk c)=(v ^^^ yhk c) ^^^ yff cs / 2 by ac_rfl,ymn,e1]
theorem ygn:∀n:Fin 256,yff [n.val.testBit 7,n.val.testBit 6,n.val.testBit 5,n.val.testBit 4,n.val.testBit 3,n.val.testBit 2,n.val.testBit 1,n.val.testBit 0]=n.val*65536:=by decide +kernel
theorem yn4 (b:UInt8):yff (ylg b)=b.toNat*65536:=ygn ⟨b.toNat,b.toNat_lt⟩
theorem yqz (v:Nat) (b:UInt8):yr0 v b=yc1 v (ylg b):=by
  rw [←yjq (ylg b) v (by simp [ylg]),yn4]
  rfl
theorem yjr:∀(l:List UInt8) (v:Nat),yce v l=yc1 v (yet l)
  | [],_=>rfl
  | b::l,v=>by
    have:yce v (b::l)=yce (yr0 v b) l:=rfl
    have e:yet (b::l)=ylg b++yet l:=rfl
    rw [this,yjr l,yqz,e,yci]
theorem yhf:∀(k w:Nat),w*2 ^ k<16777216→ykb k w=w*2 ^ k
  | 0,w,_=>by simp [ykb]
  | k+1,w,h=>by
    have h1:w*2 ^ (k+1)=w*2*2 ^ k:=by rw [Nat.pow_succ];ac_rfl
    rw [h1] at h
    have h2:w*2<16777216:=Nat.lt_of_le_of_lt (Nat.le_mul_of_pos_right _ (Nat.two_pow_pos k)) h
    have e:yil w=w*2:=by
      rw [ycv,if_neg]
      rw [yba];simp;omega
    rw [ykb,e,yhf k _ h,h1]
theorem xor_high {v:Nat}:v ^^^ (v / 65536*65536)=v % 65536:=by
  apply Nat.eq_of_testBit_eq
  intro i
  have h:(65536:Nat)=2 ^ 16:=by decide
  rw [Nat.testBit_xor,h,Nat.testBit_mod_two_pow,Nat.testBit_mul_two_pow,Nat.testBit_div_two_pow]
  by_cases hi:16≤i
  · simp [hi,show i-16+16=i by omega,show ¬i<16 by omega]
  · simp [hi,show i<16 by omega]
theorem yia {v:Nat} (hv:v<16777216):yr0 v (UInt8.ofNat (v / 65536))=v % 65536*256:=by
  unfold yr0
  have:(UInt8.ofNat (v / 65536)).toNat=v / 65536:=by simp;omega
  rw [this,xor_high,yhf]
  omega
theorem yqy {v:Nat} (hv:v<16777216):yce v (yo4 v)=0:=by
  have e1:yce v (yo4 v)=yr0 (yr0 (yr0 v (UInt8.ofNat (v / 65536))) (UInt8.ofNat (v / 256))) (UInt8.ofNat v):=rfl
  rw [e1,yia hv]
  have e2:UInt8.ofNat (v / 256)=UInt8.ofNat (v % 65536*256 / 65536):=by
    apply UInt8.toNat_inj.1;simp;omega
  rw [e2,yia (by omega)]
  have e3:UInt8.ofNat v=UInt8.ofNat (v % 65536*256 % 65536*256 / 65536):=by
    apply UInt8.toNat_inj.1;simp;omega
  rw [e3,yia (by omega)]
  omega
def yg0 (l:List UInt8) (k:Nat):Bool:=(l.getD (k / 8) 0).toNat.testBit (7-k % 8)
theorem ya7:∀l:List UInt8,yet l=(List.range (8*l.length)).map (yg0 l)
  | []=>rfl
  | b::l=>by
    have e:yet (b::l)=ylg b++yet l:=rfl
    rw [e,ya7 l,List.length_cons,show 8*(l.length+1)=8+8*l.length by omega,List.range_add,List.map_append,List.map_map]
    congr 1
    apply List.map_congr_left
    intro i _
    simp only [Function.comp,yg0]
    rw [show (8+i) / 8=i / 8+1 by omega,show (8+i) % 8=i % 8 by omega]
    simp
theorem yno {x l:List UInt8} (hlen:l.length=x.length) (first v0:Nat) (hx:yce v0 x=0) (hl:yce v0 l=0)
    (hb:∀i,i<8*x.length→yg0 l i≠yg0 x i→first≤i∧i<first+24):∀i,i<8*x.length→yg0 l i=yg0 x i:=by
  rw [yjr] at hx hl
  have h:=yjv (yet l) (yet x) v0 v0 (by rw [ya7,ya7,hlen];simp)
  rw [hx,hl,Nat.xor_self,Nat.xor_self,ya7,ya7,hlen] at h
  have e:List.zipWith (fun a b=>a ^^ b) ((List.range (8*x.length)).map (yg0 l)) ((List.range (8*x.length)).map (yg0 x))=(List.range (8*x.length)).map fun i=>yg0 l i ^^ yg0 x i:=by
    apply List.ext_getElem
    · simp
    · intro i h1 h2;simp
  rw [e] at h
  have:=burst _ first (fun i hi=>by
    have hlt:i<8*x.length:=by
      have:=(List.getElem?_eq_some_iff.1 hi).1
      simpa using this
    rw [List.getElem?_map,List.getElem?_range hlt] at hi
    simp at hi
    exact hb i hlt (fun e=>by rw [e] at hi;simp at hi)) h
  intro i hi
  have:=this (yg0 l i ^^ yg0 x i) (List.mem_map.2 ⟨i,by simpa using hi,rfl⟩)
  revert this
  cases yg0 l i <;> cases yg0 x i <;> simp
theorem mask_fin:∀q r:Fin 8,(128 / 2 ^ q.val).testBit (7-r.val)=decide (r=q):=by decide
theorem yq9 (l:List UInt8) (i:Nat) (hi:i<8*l.length) (c:UInt8) (hc:c.toNat=(l.getD (i / 8) 0).toNat ^^^ 128 / 2 ^ (i % 8)) (k:Nat):yg0 (l.set (i / 8) c) k=(yg0 l k ^^ decide (k=i)):=by
  unfold yg0
  by_cases h:i / 8=k / 8
  · rw [←h]
    have h1:(l.set (i / 8) c).getD (i / 8) 0=c:=by
      rw [List.getD_eq_getElem?_getD,List.getElem?_set_self (by omega)];rfl
    rw [h1,hc,Nat.testBit_xor]
    congr 1
    have:=mask_fin ⟨i % 8,by omega⟩ ⟨k % 8,by omega⟩
    simp only at this
    rw [this]
    apply decide_eq_decide.2
    simp only [Fin.mk.injEq]
    omega
  · have h1:(l.set (i / 8) c).getD (k / 8) 0=l.getD (k / 8) 0:=by
      rw [List.getD_eq_getElem?_getD,List.getElem?_set_ne h,←List.getD_eq_getElem?_getD]
    rw [h1]
    have:decide (k=i)=false:=by simp;omega
    rw [this];simp
open Am C
structure Turned (x l:List UInt8) (B first k:Nat) (t:Bool):Prop where
  len:l.length=x.length
  bits:∀i,i<8*x.length→yg0 l i=(yg0 x i ^^ (decide (first≤i∧i<first+k)&&B.testBit (i-first)))
  same:t=false→l=x
  some':t=true→∃i,i<8*x.length∧yg0 l i≠yg0 x i
theorem ygw (bs:List UInt8):yce 11994318 (ybx bs)=0:=by
  have:yce 11994318 (ybx bs)=yce (yce 11994318 bs) (yo4 (yce 11994318 bs)):=by simp [ybx,yce]
  rw [this]
  exact yqy (yi9 bs (by omega))
theorem ykq (bs:List UInt8):(y9o (ybx bs)).2=true:=by
  have h:(ybx bs).take ((ybx bs).length-3)=bs:=by rw [yel];simp [ybx]
  unfold y9o
  rw [if_neg (by simp),h,if_pos rfl]
theorem ync {l:List UInt8} (h:(y9o l).2=true):yce 11994318 l=0:=by
  unfold y9o at h
  split at h
  · cases h
  · split at h
    · rename_i e
      rw [←e];exact ygw _
    · cases h
theorem Turned.end {s l:List UInt8} {B first k:Nat} {t:Bool} (T:Turned (ybx s) l B first k t) (hk:k≤24):(y9o l).2=!t:=by
  cases t with
  | false=>rw [T.same rfl];exact ykq s
  | true=>
    cases h:(y9o l).2 with
    | false=>rfl
    | true=>
      exfalso
      obtain ⟨i,hi,hne⟩:=T.some' rfl
      exact hne (yno T.len first 11994318 (ygw s) (ync h) (fun i hi hne=>by
        rw [T.bits i hi] at hne
        by_cases hw:first≤i∧i<first+k
        · omega
        · exfalso;apply hne;simp [hw]) i hi)
theorem Turned.zero (x:List UInt8) (B first:Nat):Turned x x B first 0 false:=
  ⟨rfl,fun i hi=>by
    have:decide (first≤i∧i<first+0)=false:=decide_eq_false (by omega)
    rw [this];simp,fun _=>rfl,fun h=>by cases h⟩
theorem Turned.stay {x l:List UInt8} {B first k:Nat} {t:Bool} (T:Turned x l B first k t) (hb:B.testBit k=false):Turned x l B first (k+1) t:=
  ⟨T.len,fun i hi=>by
    rw [T.bits i hi]
    congr 1
    by_cases h:i=first+k
    · subst h;simp [hb]
    · have:(first≤i∧i<first+(k+1))↔(first≤i∧i<first+k):=by omega
      simp only [this],T.same,T.some'⟩
theorem Turned.flip {x l:List UInt8} {B first k:Nat} {t:Bool} (T:Turned x l B first k t) (hb:B.testBit k=true) (hi:first+k<8*x.length) {c:UInt8} (hc:c.toNat=(l.getD ((first+k) / 8) 0).toNat ^^^ 128 / 2 ^ ((first+k) % 8)):
    Turned x (l.set ((first+k) / 8) c) B first (k+1) true:=by
  have hlen:=T.len
  have key:∀i,i<8*x.length→yg0 (l.set ((first+k) / 8) c) i=(yg0 x i ^^ (decide (first≤i∧i<first+(k+1))&&B.testBit (i-first))):=fun i hi'=>by
    rw [yq9 l (first+k) (by omega) c hc,T.bits i hi']
    by_cases h:i=first+k
    · subst h;simp [hb]
    · have:(first≤i∧i<first+(k+1))↔(first≤i∧i<first+k):=by omega
      simp only [this,h,decide_false,Bool.xor_false]
  refine ⟨by simp [hlen],key,(fun h=>by cases h),fun _=>⟨first+k,hi,?_⟩⟩
  rw [key _ hi]
  simp [hb]
theorem enc_file {s:Su} (h:(ygl s).2=0):∃x,(ygl s).1=ybx x∧(ygl s).1.length≤200000:=by
  unfold ygl at h ⊢
  by_cases h1:suE s≠0
  · rw [if_pos h1] at h;exact (h1 h).elim
  rw [if_neg h1] at h ⊢
  by_cases h2:6000<(y3i s).length
  · rw [if_pos h2] at h;cases h
  rw [if_neg h2] at h ⊢
  by_cases h3:((y3i s).any fun t=>decide (1000<t.length))=true
  · rw [if_pos h3] at h;cases h
  rw [if_neg h3] at h ⊢
  by_cases h4:200000<(yb6 s).length
  · rw [if_pos h4] at h;cases h
  rw [if_neg h4]
  exact ⟨_,rfl,by show (yb6 s).length≤200000;omega⟩
theorem yl5 {b:Str} (hb:b.length≤200000) (h:(y9o b).2=false):ymm b=(su0,14):=by
  unfold ymm
  rw [if_neg (by omega),if_pos h]
def TnInv (x:List UInt8) (B first n id:Nat) (m:Nat) (F:Fr) (H':Hp):Prop:=∃(k:Nat) (l:List UInt8) (t:Bool),k≤24∧m=24-k∧Turned x l B first k t∧
    H'.get id=some (.cells (yak l) n)∧F=[(2,.i .u32 B),(9,.sl (some (id,0,n)) n 1),(10,.i .i64 first),(11,.b t),(12,.i .i64 k)]
theorem tn_bit (B k:Nat) (hB:B<16777216) (hk:k<24):((B / 2 ^ (min k 32)) &&& 1=1)=(B.testBit k=true):=by
  rw [Nat.and_one_is_mod,Nat.testBit_eq_decide_div_mod_eq,show min k 32=k by omega]
  simp
set_option maxRecDepth 100000 in
set_option maxHeartbeats 1000000 in
theorem yex (s:Su) (hs:suZ s) (a:Int) (b:Nat) (hb:b<4294967296) (H:Hp):AC Tryz.prog y6e [.agg (y6i s),.i .i64 a,.i .u32 b] H (fun r _=>r=.b true):=by
  refine AC.codeL y6.at y6.ok fun hl=>?_
  simp only [y6]
  apply jA
  simp [-y65,su_cv,y6.r0]
  apply jB
  simp [y6.r1]
  refine AC.fix (yn2 H) ?_
  simp
  refine jF rfl (AX.skip ?_)
  simp
  apply jB
  simp [y6.r3,yir,yp0]
  refine (ylk s hs H).mono ?_
  rintro _ H' ⟨⟨g,rfl,hg⟩,hH⟩
  obtain rfl:=hH.symm
  cases g with
  | true=>
    simp
    refine jG rfl (jA ?_)
    simp [y6.r4]
    apply jD
    simp
  | false=>
  simp
  refine jF rfl (AX.skip ?_)
  have hs:=hg rfl
  simp
  apply jA
  simp [y6.r5,yir,yp0]
  refine AC.fix (yk5 s hs.1 H) ?_
  simp
  have hful:=yqu hs
  have hfile:=enc_file (s:=s)
  obtain ⟨E,hE⟩:∃E,E=ygl s:=⟨_,rfl⟩
  rw [←hE] at hful hfile ⊢
  clear hE
  obtain ⟨x,e⟩:=E
  simp only at hful hfile
  by_cases he:e=0
  case neg=>
    apply jB
    simp [y6.r6,he]
    refine jG rfl (jA ?_)
    simp [y6.r7,he]
    apply jD
    simp [he]
  subst he
  have hful:=hful rfl
  obtain ⟨y,hx,hxb⟩:=hfile rfl
  have hx3:3≤x.length:=by rw [hx];simp
  have hx0:¬(x.length:Int)=0:=by omega
  have hx0':x≠[]:=fun h=>by rw [h] at hx3;simp at hx3
  apply jB
  simp [y6.r6,hx0,hx0']
  refine jF rfl (AX.skip ?_)
  simp
  apply jA
  simp [y6.r8,show x.length≤9223372036854775807 by omega]
  rw [show (x.map fun b=>V.i .u8 b.toNat)=yak x from rfl]
  apply jA
  have e2:=yhq b 16777216
  simp at e2
  simp [y6.r9,e2]
  obtain ⟨B,hB,eB⟩:∃B:Nat,B<16777216∧B=b % 16777216:=⟨_,by omega,rfl⟩
  have eB':(b:Int) % 16777216=(B:Int):=by omega
  simp only [eB']
  apply jA
  obtain ⟨A,eA⟩:∃A:Nat,Go.IntKind.u64.wrap a=(A:Int):=⟨(Go.IntKind.u64.wrap a).toNat,by rw [yei];omega⟩
  have hA:A<18446744073709551616:=by rw [yei] at eA;omega
  obtain ⟨n,hn⟩:∃n,n=x.length:=⟨_,rfl⟩
  have e3:Go.IntKind.i64.wrap (8*(n:Int))=((8*n:Nat):Int):=by rw [y2w (by omega) (by omega)];omega
  have e4:Go.IntKind.u64.wrap ((8*n:Nat):Int)=((8*n:Nat):Int):=ylu (by omega) (by omega)
  have e5:=yhq A (8*n)
  have hF:A % (8*n)<8*n:=Nat.mod_lt _ (by omega)
  generalize A % (8*n)=first at *
  have e6:Go.IntKind.i64.wrap (first:Int)=first:=y2w (by omega) (by omega)
  simp at e3 e4 e5
  have e7:¬(8*(n:Int)=0):=by omega
  have e8:¬((n:Int)=0):=by omega
  have e9:¬(n=0):=by omega
  rw [←hn]
  simp [y6.r10,eA,e3,e4,e5,e6,e7,e8,e9]
  apply jA
  simp [y6.r11]
  apply jB
  simp [y6.r12]
  refine AX.pblock (AX.loop (TnInv x B first n H.next) 24 ⟨_,_,.refl _ _,0,x,false,by omega,by omega,Turned.zero x B first,by simp,by simp⟩ ?_)
  rintro m F H' ⟨k,l,t,hk,rfl,T,hg,rfl⟩
  have hll:l.length=n:=by rw [T.len,hn]
  simp only [y6.l0]
  obtain ⟨p,hp⟩:∃p:Nat,p=first+k:=⟨_,rfl⟩
  have f1:Go.IntKind.i64.wrap ((first:Int)+k)=(p:Int):=by rw [y2w (by omega) (by omega)];omega
  have done:AX Tryz.prog 101 ((ACode.post [11,14] (ACode.region y6.r18)).seq ((ACode.post [6] (ACode.region y6.r19)).seq ACode.ret)) (Am.Ends (fun r x=>r=V.b true) [ARes.t 6])
      [(9,.sl (some (H.next,0,n)) n 1),(11,.b t)] H':=by
    apply jA
    have hbo:=yd2 l
    simp [y6.r18,hg,hll]
    rw [show List.take n (yak l)=yak l from List.take_of_length_le (by simp [hll])]
    simp [hbo]
    refine AC.fix (yhm l (by omega) H') ?_
    have hT:(y9o l).2=!t:=by rw [hx] at T;exact T.end hk
    cases t with
    | true=>
      rw [yl5 (by omega) hT]
      simp [-y65,su_cv,yir,su_ne,yig,yp1]
      apply jA
      simp [y6.r19]
      apply jD
      simp
    | false=>
      rw [T.same rfl,hful]
      simp [-y65,su_cv,yir,su_ne,yig,yp1]
      apply jA
      simp [y6.r19]
      apply jD
      simp
  apply jB
  by_cases hk2:k<24
  case neg=>
    simp [y6.r13,hk2]
    refine jF rfl (AX.exit ?_)
    simp
    exact done
  simp [y6.r13,hk2,f1,e3]
  refine AX.pcond rfl (fun hin=>AX.skip ?_) (fun _=>AX.exit ?_)
  rotate_left
  · simp
    exact done
  simp at hin
  have hin':p<8*n:=by omega
  simp
  have g1:Go.IntKind.i64.wrap ((k:Int)+1)=((k+1:Nat):Int):=by rw [y2w (by omega) (by omega)];omega
  have g2:=yi8 B (2 ^ (min k 32))
  have g3:=ymt (a:=B / 2 ^ (min k 32)) (b:=1) (Nat.lt_of_le_of_lt (Nat.div_le_self _ _) (by omega)) (by omega)
  have g4:=tn_bit B k hB hk2
  simp at g2 g3
  apply jC
  simp [y6.r14,g2,g3]
  refine AX.pcond rfl (fun h=>AX.seq (AX.drw ?_)) (fun h=>AX.skip ?_)
  rotate_left
  · simp at h
    have hbit:B.testBit k=false:=by
      cases hh:B.testBit k with
      | false=>rfl
      | true=>
        exfalso
        rw [hh,Nat.and_one_is_mod] at g4
        have:=g4.mpr rfl
        have:((B / 2 ^ min k 32 % 2:Nat):Int)=1:=by rw [this];rfl
        simp at this
        exact h this
    simp
    apply jE
    simp [y6.r17,g1]
    exact ⟨24-(k+1),by omega,_,_,.refl _ _,k+1,l,t,by omega,rfl,T.stay hbit,hg,rfl⟩
  simp at h
  have hbit:B.testBit k=true:=by
    rw [←g4,Nat.and_one_is_mod]
    have:((B / 2 ^ min k 32 % 2:Nat):Int)=1:=by simpa using h
    omega
  clear done
  obtain ⟨j,hj⟩:∃j:Nat,j=p / 8:=⟨_,rfl⟩
  obtain ⟨r,hr⟩:∃r:Nat,r=p % 8:=⟨_,rfl⟩
  have q1:(p:Int).tdiv 8=(j:Int):=by rw [hj];exact tdiv_nat p 8
  have q2:(p:Int).tmod 8=(r:Int):=by rw [hr];exact yhq p 8
  have q3:Go.IntKind.i64.wrap (j:Int)=j:=y2w (by omega) (by omega)
  obtain ⟨M,hM⟩:∃M:Nat,M=128 / 2 ^ r:=⟨_,rfl⟩
  have hM8:M<256:=by rw [hM];exact Nat.lt_of_le_of_lt (Nat.div_le_self _ _) (by omega)
  have q4:Int.fdiv 128 (2 ^ (min r 8))=(M:Int):=by
    have:=yi8 128 (2 ^ (min r 8))
    rw [show min r 8=r by omega] at this ⊢
    rw [hM]
    simpa using this
  have hjl:j<l.length:=by omega
  obtain ⟨c0,hc0⟩:∃c0:UInt8,c0=l.getD j 0:=⟨_,rfl⟩
  have hx8:c0.toNat ^^^ M<256:=Nat.xor_lt_two_pow (n:=8) c0.toNat_lt hM8
  obtain ⟨c,hc⟩:∃c:UInt8,c.toNat=c0.toNat ^^^ M:=⟨UInt8.ofNat (c0.toNat ^^^ M),by rw [UInt8.toNat_ofNat'];exact Nat.mod_eq_of_lt hx8⟩
  have q5:=ynr hjl
  rw [←hc0] at q5
  have q6:=bXor_u8 (a:=c0.toNat) (b:=M) c0.toNat_lt hM8
  rw [←hc] at q6
  have q7:(j:Int)<(n:Int):=by omega
  have q8:j+1≤n:=by omega
  have q9:List.take 1 (List.drop j (yak l))=[.i .u8 c0.toNat]:=by
    rw [List.drop_eq_getElem_cons (by simpa using hjl),List.take_succ_cons,List.take_zero]
    have:=(List.getElem?_eq_some_iff.1 q5).2
    rw [this]
  have q0:¬((r:Int)<0):=by omega
  simp only [y6.r15]
  simp [f1,q1,q2,q3,q4,q6,q7,q8,q9,q0,hg,hll,ynq]
  apply jE
  simp [y6.r16]
  apply jE
  simp [y6.r17,g1]
  have T':=T.flip hbit (by omega) (c:=c) (by rw [hc,hc0,hM,hr,hj,hp])
  rw [←hp,←hj] at T'
  exact ⟨24-(k+1),by omega,_,_,.refl _ _,k+1,l.set j c,true,by omega,rfl,T',by simp,by simp⟩
open Go.Proofs
theorem yeh (us:List V) (h:ArgsZ [TSu,.int .i64,.int .u32] us):AC Tryz.prog y6e us Hp.none (fun r _=>r=.b true):=by
  obtain ⟨u,us',rfl,⟨vs,e,hu⟩,u2,us2,rfl,hu2,u3,us3,rfl,hu3,rfl⟩:=h
  obtain ⟨s,rfl,hs⟩:=suArg e hu
  obtain ⟨a,ha,_⟩:=yfz hu2
  injection ha with ha;subst ha
  obtain ⟨b,hb,lb⟩:=yfz hu3
  injection hb with hb;subst hb
  simp [yq2,Go.IntKind.min,Go.IntKind.max,Go.IntKind.signed] at lb
  have e:b=((b.toNat:Nat):Int):=by omega
  rw [e]
  exact yex s hs a b.toNat (by omega) _
end Go.Proofs.YthmkcebbeehbeaaGreatDoor
namespace Go.Proofs.YthmkcebbeehbeaaGreatDoor.sumfileTurned
open Go Go.RowKit Go.ChangeShapes Go.WideShapes Go.ChangeAt Go.Proofs.YthmkcebbeehbeaaGreatDoor.Am
def yo7:Array Value:=#[.agg #[.string ⟨#[]⟩,.slice none 0 0,.slice none 0 0,.slice none 0 0,.slice none 0 0,.slice none 0 0,.slice none 0 0],.int .i64 0,.int .u32 0]
theorem yke (os:Os) {H:Type} (enc:TypeId × Value→H):
    (OpenSpec.ofChange Rows.sumfileTurnedSpec).preRow enc Tryz.prog Tryz.f5 Rows.sumfileTurnedRow.domain false Rows.sumfileTurnedRow.laid ((rw.laidWorld os).forCall (fun _ _=>0) ⟨#[],yo7,[]⟩).memory yo7:=by
  have hw:(DataW.whole enc Tryz.prog ((rw.laidWorld os).forCall (fun _ _=>0) ⟨#[],yo7,[]⟩).memory Tryz.f5.params.toList (OpenSpec.ofChange Rows.sumfileTurnedSpec).vars false yo7.toList 8).map (fun x=>(x.1,x.2.1)) =
      some ([.agg [.lit (.string []),.nil,.nil,.nil,.agg [.nil,.nil,.nil]],.lit (.int .i64 0),.lit (.int .u32 0)],[]):=by kernel_rfl
  obtain ⟨⟨x1,x2,x3⟩,hx,hx1⟩:=Option.map_eq_some_iff.1 hw
  simp only [Prod.mk.injEq] at hx1
  obtain ⟨rfl,rfl⟩:=hx1
  exact OpenSpec.preRow_of_cond 8 hx (by kernel_rfl) (fun k hk=>by cases hk) (by kernel_rfl) (rw.laid_met os _)
set_option maxRecDepth 100000 in
theorem lifted (os:Os) (started:os.Started) (H:Type) (enc:TypeId × Value→H) (F:Stop.Interp):
    ReturnsInHanded {} Tryz.checked os 5 .any ((OpenSpec.ofChange Rows.sumfileTurnedSpec).preRow enc Tryz.prog Tryz.f5 Rows.sumfileTurnedRow.domain false Rows.sumfileTurnedRow.laid) (((OpenSpec.ofChange Rows.sumfileTurnedSpec).at F).post enc Tryz.prog Tryz.f5 false true false false):=by
  refine returnsInHanded_of_row (C:=Tryz.checked) (s:=OpenSpec.ofChange Rows.sumfileTurnedSpec) rw.own started (by kernel_rfl) Tryz.func5
    (witness_row_atRef (enc:=enc) (C:=Tryz.checked) false (rw.laidWorld os) yo7 rfl (by kernel_rfl) (by kernel_rfl) (by kernel_rfl) (yke os enc)) ?_
  intro W base args ds gs y4j hval0 hW hcnd _ hsz hL _ _
  have hval:∀(j:Nat) t v,Tryz.f5.params[j]?=some t→args[j]?=some v→Value.okWide Tryz.prog W .any base t v:=hval0
  have hW':=hW
  obtain ⟨p,q,hA0,hV,rfl,hfz,hnd⟩:=hW
  have hA:DataW.TrodAll enc Tryz.prog W 0 (fun _=>true) true Tryz.f5.params.toList args.toList ds p:=hA0
  rw [Tryz.params5] at hA hval
  obtain ⟨rfl,rfl⟩:=trodVars_none hV
  have hsz1:(DataW.weightsEach Tryz.prog Tryz.f5.params.toList ds).all (·≤reachBytes)=true:=by
    have h:(DataW.weightsEach Tryz.prog (Tryz.f5.params.toList++[]) (ds++[])).all (·≤reachBytes)=true:=hsz
    rwa [List.append_nil,List.append_nil] at h
  rw [Tryz.params5] at hsz1
  obtain ⟨us,ru,au⟩:=ymx 12 (ts:=[29,3,40]) (Ts:=[TSu,.int .i64,.int .u32]) (by kernel_rfl) (fun j t v h1 h2=>hval j t v (by simpa using h1) (by simpa using h2)) hA
    (fun m hm=>by
      have:=List.all_eq_true.1 hsz1 m hm
      have h2:m≤reachBytes:=by simpa using this
      exact h2)
  have hlt:=yli hA
  have key:=yn3 (yeh us au) ru (rw.tb_of hL)
  rw [Array.toArray_toList] at key
  refine key.mono fun e W' ⟨he,bel⟩=>?_
  subst he
  have hB:=yjy rw.laidOut bel (ts:=[29,3,40]) (by kernel_rfl) hA
  obtain ⟨v0,vs0,d0,ds0,p0,q0,hargs,rfl,rfl,h0,r0⟩:=trodAll_cons hA
  obtain ⟨v1,vs1,d1,ds1,p1,q1,rfl,rfl,rfl,h1,r1⟩:=trodAll_cons r0
  obtain ⟨v2,vs2,d2,ds2,p2,q2,rfl,rfl,rfl,h2,r2⟩:=trodAll_cons r1
  obtain ⟨rfl,rfl,rfl⟩:=trodAll_nil r2
  exact ⟨_,rfl,_,_,_,[],_,[],hW',trodAll_mk1 (shut_bool Tryz.underlying4 _),hB,rfl,bel.frame _,fun h=>by cases h⟩
theorem said:Rows.SumfileTurnedSaid:=
  OpenClaim.holds_of_cond 5 Tryz.f5 rfl rfl rfl rfl rfl rfl rfl ⟨rfl,rfl,rfl,rfl,rfl⟩ rfl rfl rfl rfl rfl (by kernel_rfl) Tryz.func5 (by kernel_rfl)
    (of_decide_eq_true (by kernel_rfl)) (by unfold Func.isWrapper;first | (rw [if_pos (by decide +kernel)];kernel_rfl) | (rw [if_neg (by decide +kernel)];exact ⟨rfl,rfl⟩))
    (fun os started H enc _ F=>by rw [OpenClaim.pre_eq_preRow];exact lifted os started H enc F)
theorem plain (f:FuncId) (fn:Func) (hf:Tryz.pinned.checked.prog.funcNamed "weft/weftlaw27.SumfileTurned"=some f) (hfn:Tryz.pinned.checked.prog.funcs[f]?=some fn):
    true=Tryz.pinned.checked.prog.looks []∧∀(j:Nat) t,fn.params[j]?=some t→Tryz.pinned.checked.prog.wantsStandIn t=false:=by
  obtain rfl:f=5:=Option.some.inj ((show Tryz.prog.funcNamed "weft/weftlaw27.SumfileTurned"=some 5 by kernel_rfl).symm.trans hf) |>.symm
  obtain rfl:fn=Tryz.f5:=(Option.some.inj (Tryz.func5.symm.trans hfn)).symm
  refine ⟨by kernel_rfl,fun j t ht=>?_⟩
  rw [Tryz.params5] at ht
  have hm:t=29∨t=3∨t=40:=by simpa using Array.mem_of_getElem? ht
  rcases hm with rfl | rfl | rfl
  · exact (show Tryz.prog.wantsStandIn 29=false by kernel_rfl)
  · exact (show Tryz.prog.wantsStandIn 3=false by kernel_rfl)
  · exact (show Tryz.prog.wantsStandIn 40=false by kernel_rfl)
theorem card:Rows.SumfileTurnedCardSaid:=
  Claim7.holds_tied_plain_at .later [] _ _ _ _ said (fun _ h=>by cases h) (by kernel_rfl) (fun _ h=>by cases h) sumfileTurned_row_tie rfl ⟨rfl,rfl⟩ (by kernel_rfl) rfl plain (by kernel_rfl)
end Go.Proofs.YthmkcebbeehbeaaGreatDoor.sumfileTurned
namespace Go.Proofs.YthmkcebbeehbeaaGreatDoor
theorem sumfileTurned_holds:Rows.SumfileTurnedCardSaid:=sumfileTurned.card
end Go.Proofs.YthmkcebbeehbeaaGreatDoor
