/- Part 30 of the proof of the laws of the queries: AccK, VnM, EvM, PolM, CrcMath, Q17, QAl, Gen1. -/
import Derived.Test.YthmkcebbeehbeaaGreatDoorXBw18
import Derived.Test.YthmkcebbeehbeaaGreatDoorXBw19
import Derived.Test.YthmkcebbeehbeaaGreatDoorXBw25
import Derived.Test.YthmkcebbeehbeaaGreatDoorXBw29
set_option linter.unusedSimpArgs false
set_option linter.unusedVariables false
namespace Go.Proofs.YthmkcebbeehbeaaGreatDoor.Am
open Go Go.RowKit
def ye9 (v:V) (id:Nat):Prop:=match v with
  | .sl (some (k,_,_)) _ _=>k≠id
  | _=>True
theorem Acc.sepOld {H X:Hp} {sz:Nat} {v:V} {es:List (List V)} (A:Acc H sz v X es) {id:Nat} (h:id<H.next):ye9 v id:=by
  rcases A.sl with ⟨_,z,rfl⟩ | ⟨k,m,h1,rfl,h2,h3⟩
  · trivial
  · show k≠id;omega
theorem Acc.isSl {H X:Hp} {sz:Nat} {v:V} {es:List (List V)} (A:Acc H sz v X es):∃a n z,v=.sl a n z:=by
  rcases A.sl with ⟨_,z,rfl⟩ | ⟨k,m,h1,rfl,h2,h3⟩ <;> exact ⟨_,_,_,rfl⟩
theorem Acc.appK {H X:Hp} {sz bytes:Nat} {v:V} {es:List (List V)} (A:Acc H sz v X es) (hl:∀id blk,H.get id=some blk→id<H.next) (y:List V) (hy:y.length=sz) (hsz:0<sz) (hc:y.all y7o=true) (hb:(es.length+1)*bytes≤ycg):
    ∃v2 X2,y56 X sz bytes v (.fs [y])=some (v2,X2)∧Acc H sz v2 X2 (es++[y])∧∀id blk,X.get id=some blk→ye9 v id→X2.get id=some blk∧ye9 v2 id:=by
  obtain ⟨v2,X2,e,A2⟩:=A.app (bytes:=bytes) (ys:=[y]) hl (by simpa using hy) hsz (by simpa using hc) (by simpa using hb)
  refine ⟨v2,X2,e,A2,fun id blk hg hs=>?_⟩
  have hid:=A.lt id blk hg
  have hsc:y9j X sz (.fs [y])=some (1,y):=by simp [y9j,hsz,hy]
  rcases A.sl with ⟨h0,z,rfl⟩ | ⟨k,m,h1,rfl,h2,h3⟩
  · simp only [y56,hsc] at e
    rw [if_neg (by decide)] at e
    split at e
    · injection e with e;injection e with e1 e2;subst e1;subst e2
      exact ⟨by simp only [Hp.get_add];rw [if_neg (by omega)];exact hg,by show X.next≠id;omega⟩
    · cases e
  · have hk:k≠id:=hs
    simp only [y56,hsc,h2] at e
    split at e
    · rw [if_neg (by decide)] at e
      split at e
      · injection e with e;injection e with e1 e2;subst e1;subst e2
        exact ⟨by simp only [Hp.get_upd];rw [if_neg (Ne.symm hk)];exact hg,hk⟩
      · split at e
        · injection e with e;injection e with e1 e2;subst e1;subst e2
          exact ⟨by simp only [Hp.get_upd];rw [if_neg (Ne.symm hk)];exact hg,hk⟩
        · cases e
    · cases e
theorem Acc.frzS {H H':Hp} {sz:Nat} {v:V} {es:List (List V)} (A:Acc H sz v H' es):Frz H' (fun k=>¬ye9 v k) v (.fs es):=by
  rcases A.sl with ⟨rfl,z,rfl⟩ | ⟨id,m,h1,rfl,h2,h3⟩
  · exact .sl0 z
  · refine .sl id 0 es.flatten.length es.length sz m es.flatten es (fun h=>h rfl) h2 h3 (Nat.le_refl _) rfl A.all (fun i j e v hi hj=>?_) (fun i j e v u hi hj hu=>?_)
    · have:=ye1 A.all hi hj
      have:=(List.getElem?_eq_some_iff.1 this).1
      simpa using this
    · have:=ye1 A.all hi hj
      rw [Nat.zero_add,this] at hu;injection hu with hu;subst hu;exact .refl _
theorem AC.frz {P:Program} {f:FuncId} {args args':List V} {H:Hp} {R:V→Hp→Prop} (S:Nat→Prop) (h:AC P f args' (H.wo S) R) (hl:args.length=args'.length) (hv:∀(j:Nat) v v',args[j]?=some v→args'[j]?=some v'→Frz H S v v'):AC P f args H R:=
  ⟨h.1,fun κ cs Sm r=>by
    obtain ⟨κ',ew,le,S',hf⟩:=yiq S Sm
    have r':VRs κ' args' cs:=⟨by rw [←hl];exact r.1,fun j v' hj=>by
      have hlt:j<args.length:=by rw [hl];exact (List.getElem?_eq_some_iff.1 hj).1
      exact hf _ _ (hv j args[j] v' (List.getElem?_eq_getElem hlt) hj) _ (r.2 j args[j] (List.getElem?_eq_getElem hlt))⟩
    have:=h.2 κ' cs S' r'
    rw [ew] at this
    exact this.mono fun e w' ⟨κ2,v,cv,H',a,b,c,d,e',g⟩=>⟨κ2,v,cv,H',a,b,le.trans c,d,e',g⟩⟩
theorem Hp.wo_get {H:Hp} {S:Nat→Prop} {id:Nat} {blk:Blk} (h:H.get id=some blk) (hs:¬S id):(H.wo S).get id=some blk:=by simp only [Hp.wo];rw [if_neg hs];exact h
end Go.Proofs.YthmkcebbeehbeaaGreatDoor.Am
namespace Go.Proofs.YthmkcebbeehbeaaGreatDoor
open Am
def y8b (n:Nat):Str:=if h:n<128 then [UInt8.ofNat n] else UInt8.ofNat (n % 128+128)::y8b (n / 128)
 termination_by n
 decreasing_by omega
theorem ya6 {n:Nat} (h:n<128):y8b n=[UInt8.ofNat n]:=by rw [y8b,dif_pos h]
theorem yi2 {n:Nat} (h:¬n<128):y8b n=UInt8.ofNat (n % 128+128)::y8b (n / 128):=by rw [y8b,dif_neg h]
theorem you:∀(k n:Nat),n<128 ^ (k+1)→(y8b n).length≤k+1
  | 0,n,h=>by rw [ya6 (by simpa using h)];simp
  | k+1,n,h=>by
    by_cases h1:n<128
    · rw [ya6 h1];simp
    · rw [yi2 h1]
      have:=you k (n / 128) (by rw [Nat.div_lt_iff_lt_mul (by omega)];rwa [Nat.pow_succ] at h)
      simp;omega
theorem yn8 (n:Nat):y8b n≠[]:=by
  by_cases h1:n<128
  · rw [ya6 h1];simp
  · rw [yi2 h1];simp
theorem y9o {n:Nat} (h:n≤268435456):(y8b n).length≤5:=you 4 n (by omega)
def yi1 (we:Int) (bs:Str) (n:Int):Int × Str:=if we≠0 then (we,bs) else if n<0∨n > 268435456 then (2,bs) else (0,bs++y8b n.toNat)
def yot (we:Int) (bs:Str) (s:Str):Int × Str:=if we≠0 then (we,bs) else if s.length > 200000 then (9,bs) else (0,bs++y8b s.length++s)
namespace Am
theorem bAnd_i64 {a b:Nat} (ha:a<9223372036854775808) (hb:b<9223372036854775808):ypr .i64 a b=((a &&& b:Nat):Int):=by
  have h:a &&& b≤a:=Nat.and_le_left
  unfold ypr
  rw [yb9,yb9]
  have:(BitVec.ofNat IntKind.i64.bits a &&& BitVec.ofNat IntKind.i64.bits b).toNat=a &&& b:=by
    rw [BitVec.toNat_and,BitVec.toNat_ofNat,BitVec.toNat_ofNat]
    rw [Nat.mod_eq_of_lt (by simp [IntKind.bits];omega),Nat.mod_eq_of_lt (by simp [IntKind.bits];omega)]
  rw [this,y3g (by omega) (by omega)]
theorem yub {a b:Nat} (ha:a<9223372036854775808) (hb:b<9223372036854775808):bOr .i64 a b=((a ||| b:Nat):Int):=by
  have h:a ||| b<2 ^ 63:=Nat.or_lt_two_pow (by omega) (by omega)
  unfold bOr
  rw [yb9,yb9]
  have:(BitVec.ofNat IntKind.i64.bits a ||| BitVec.ofNat IntKind.i64.bits b).toNat=a ||| b:=by
    rw [BitVec.toNat_or,BitVec.toNat_ofNat,BitVec.toNat_ofNat]
    rw [Nat.mod_eq_of_lt (by simp [IntKind.bits];omega),Nat.mod_eq_of_lt (by simp [IntKind.bits];omega)]
  rw [this,y3g (by omega) (by omega)]
theorem and127 (n:Nat):n &&& 127=n % 128:=Nat.and_two_pow_sub_one_eq_mod n 7
theorem or128 {m:Nat} (h:m<128):m ||| 128=m+128:=by
  have:=Nat.two_pow_add_eq_or_of_lt (i:=7) (b:=m) (by omega) 1
  rw [Nat.or_comm]
  simp at this
  omega
def bcl (l:Str):List (List V):=l.map fun b=>[.i .u8 b.toNat]
@[simp] theorem bcl_length (l:Str):(bcl l).length=l.length:=by simp [bcl]
theorem yhv (l:Str):(bcl l).flatten=l.map fun b=>V.i .u8 b.toNat:=by
  unfold bcl
  induction l with
  | nil=>rfl
  | cons a r ih=>simp [ih]
theorem yqo (a b:Str):bcl (a++b)=bcl a++bcl b:=by simp [bcl]
theorem bcl_one (l:Str):∀e∈bcl l,e.length=1:=fun e he=>by
  obtain ⟨x,_,rfl⟩:=List.mem_map.1 he;rfl
theorem yu9 (l:Str):(bcl l).flatten.all y7o=true:=by rw [yhv];simp [y7o]
theorem Acc.upd {B X:Hp} {sz:Nat} {v:V} {es:List (List V)} (A:Acc B sz v X es) (hB:∀k blk,B.get k=some blk→k<B.next) {id:Nat} (h:ye9 v id) (lo:B.next≤id) (hi:id<X.next) (b:Blk):Acc B sz v (X.upd id b) es:=
  ⟨A.ext.upd hB lo b,Hp.upd_lt A.lt hi b,A.all,A.sl.imp (fun x=>x) fun ⟨k,m,a,e,c,d⟩=>⟨k,m,a,e,by
    subst e
    rw [Hp.get_upd,if_neg (show k≠id from h)];exact c,d⟩⟩
theorem Acc.appKs {H X:Hp} {sz bytes:Nat} {v x:V} {es ys:List (List V)} (A:Acc H sz v X es) (hl:∀id blk,H.get id=some blk→id<H.next) (hx:y9j X sz x=some (ys.length,ys.flatten)) (hy:∀e∈ys,e.length=sz) (hsz:0<sz) (hc:ys.flatten.all y7o=true) (hb:(es.length+ys.length)*bytes≤ycg):
    ∃v2 X2,y56 X sz bytes v x=some (v2,X2)∧Acc H sz v2 X2 (es++ys)∧X.next≤X2.next∧∀id blk,X.get id=some blk→ye9 v id→X2.get id=some blk∧ye9 v2 id:=by
  obtain ⟨v2,X2,e,A2⟩:=A.appC (bytes:=bytes) (x:=x) hl hx hy hsz hc hb
  refine ⟨v2,X2,e,A2,?_⟩
  rcases A.sl with ⟨h0,z,rfl⟩ | ⟨k,m,h1,rfl,h2,h3⟩
  · simp only [y56,hx] at e
    split at e
    · injection e with e;injection e with e1 e2;subst e1;subst e2
      exact ⟨Nat.le_refl _,fun id blk hg _=>⟨hg,trivial⟩⟩
    · split at e
      · injection e with e;injection e with e1 e2;subst e1;subst e2
        refine ⟨by simp,fun id blk hg hs=>?_⟩
        have hid:=A.lt id blk hg
        exact ⟨by simp only [Hp.get_add];rw [if_neg (by omega)];exact hg,by show X.next≠id;omega⟩
      · cases e
  · simp only [y56,hx,h2] at e
    split at e
    · split at e
      · injection e with e;injection e with e1 e2;subst e1;subst e2
        exact ⟨Nat.le_refl _,fun id blk hg hs=>⟨hg,hs⟩⟩
      · split at e
        · injection e with e;injection e with e1 e2;subst e1;subst e2
          exact ⟨by simp,fun id blk hg hs=>⟨by simp only [Hp.get_upd];rw [if_neg (Ne.symm hs)];exact hg,hs⟩⟩
        · split at e
          · injection e with e;injection e with e1 e2;subst e1;subst e2
            exact ⟨by simp,fun id blk hg hs=>⟨by simp only [Hp.get_upd];rw [if_neg (Ne.symm hs)];exact hg,hs⟩⟩
          · cases e
    · cases e
end Am
open C
inductive Ev where
  | num (n:Int)
  | txt (s:Str)
def evL {α:Type} (f:α→List Ev) (l:List α):List Ev:=.num l.length::l.flatMap f
def evW (s:Str):List Ev:=[.txt s]
def evM (m:Mk):List Ev:=[.num m.pos,.txt m.tag]
def evO (o:Ob):List Ev:=.txt o.name::.txt o.kinds::evL evM o.marks
def evF (f:Fu):List Ev:=[.txt f.name,.txt f.kinds,.txt f.ret]
def evC (c:Cn):List Ev:=.num c.op::.txt c.a::.txt c.b::.num c.k::.txt c.tag::evL evW c.args
def evS (s:Su):List Ev:=.txt s.name::(evL evW s.gives++(evL evW s.wants++(evL evW s.keeps++(evL evO s.sys.objs++(evL evF s.sys.fns++evL evC s.sys.cons)))))
structure Rw where
  we:Int
  bs:Str
  e:Int
  l:List Str
def y9q (σ:Rw) (x:Int):Rw:={ σ with e:=if σ.e=0 then x else σ.e }
def ya8 (σ:Rw) (n:Int):Rw:=if n<0∨n > 268435456 then y9q σ 2 else { σ with we:=(yi1 σ.we σ.bs n).1,bs:=(yi1 σ.we σ.bs n).2 }
def ydn (pool:List Str) (s:Str):Nat:=if s∈pool then ycp pool s else 0
def ykj (pool:List Str) (σ:Rw) (s:Str):Rw:=
  ya8 (if s∈pool then { σ with l:=σ.l++[s] } else y9q { σ with l:=σ.l++[s] } 7) (ydn pool s)
def rwEv (pool:List Str) (σ:Rw):Ev→Rw
  | .num n=>ya8 σ n
  | .txt s=>ykj pool σ s
def y8c (pool:List Str) (σ:Rw) (es:List Ev):Rw:=es.foldl (rwEv pool) σ
@[simp] theorem rwEvs_nil (pool:List Str) (σ:Rw):y8c pool σ []=σ:=rfl
@[simp] theorem yex (pool:List Str) (σ:Rw) (x:Ev) (es:List Ev):y8c pool σ (x::es)=y8c pool (rwEv pool σ x) es:=rfl
theorem yh7 (pool:List Str) (σ:Rw) (a b:List Ev):y8c pool σ (a++b)=y8c pool (y8c pool σ a) b:=by simp [y8c,List.foldl_append]
def rwB (σ:Rw) (n:Nat):Prop:=σ.bs.length+5*n≤1000000000∧σ.l.length+n≤100000000
theorem wNum_len (we:Int) (bs:Str) (n:Int):(yi1 we bs n).2.length≤bs.length+5:=by
  unfold yi1
  split
  · simp
  · split
    · simp
    · rename_i h
      have:=y9o (n:=n.toNat) (by omega)
      simp;omega
theorem yd4 (σ:Rw) (n:Int):(ya8 σ n).bs.length≤σ.bs.length+5∧(ya8 σ n).l=σ.l:=by
  unfold ya8
  split
  · simp [y9q]
  · exact ⟨wNum_len _ _ _,rfl⟩
theorem rwEv_len (pool:List Str) (σ:Rw) (x:Ev):(rwEv pool σ x).bs.length≤σ.bs.length+5∧(rwEv pool σ x).l.length≤σ.l.length+1:=by
  cases x with
  | num n=>have:=yd4 σ n;simp only [rwEv];rw [this.2];exact ⟨this.1,by omega⟩
  | txt s=>
    simp only [rwEv,ykj]
    split
    · have:=yd4 { σ with l:=σ.l++[s] } (ydn pool s)
      rw [this.2];exact ⟨this.1,by simp⟩
    · have:=yd4 (y9q { σ with l:=σ.l++[s] } 7) (ydn pool s)
      rw [this.2];exact ⟨this.1,by simp [y9q]⟩
theorem rwB.ev {σ:Rw} {n:Nat} (h:rwB σ (n+1)) (pool:List Str) (x:Ev):rwB (rwEv pool σ x) n:=by
  have:=rwEv_len pool σ x
  unfold rwB at *
  omega
theorem rwB.evs {pool:List Str}:∀{es:List Ev} {σ:Rw} {n:Nat},rwB σ (es.length+n)→rwB (y8c pool σ es) n
  | [],σ,n,h=>by simpa using h
  | x::es,σ,n,h=>by
    rw [yex]
    refine rwB.evs ?_
    refine rwB.ev ?_ pool x
    simpa [Nat.add_assoc,Nat.add_comm,Nat.add_left_comm] using h
theorem rwB.le {σ:Rw} {m n:Nat} (h:rwB σ n) (hm:m≤n):rwB σ m:=by unfold rwB at *;omega
def txs:List Ev→List Str
  | []=>[]
  | .num _::r=>txs r
  | .txt s::r=>s::txs r
theorem yne (pool:List Str):∀(es:List Ev) (σ:Rw),(y8c pool σ es).l=σ.l++txs es
  | [],σ=>by simp [txs]
  | .num n::es,σ=>by rw [yex,yne pool es,rwEv,(yd4 σ n).2];rfl
  | .txt s::es,σ=>by
    rw [yex,yne pool es,rwEv,ykj,(yd4 _ _).2]
    split <;> simp [txs,y9q]
structure Qw where
  bs:Str
  all:List Str
  e:Int
def yd7 (τ:Qw) (n:Int):Qw:=if τ.e≠0 then τ else if n<0∨n > 268435456 then { τ with e:=2 } else { τ with bs:=τ.bs++y8b n.toNat }
def ynk (pool:List Str) (τ:Qw) (s:Str):Qw:=yd7 { τ with all:=ycb τ.all s,e:=if s∉pool∧τ.e=0 then 7 else τ.e } (ydn pool s)
def yn5 (pool:List Str) (τ:Qw):Ev→Qw
  | .num n=>yd7 τ n
  | .txt s=>ynk pool τ s
def yf6 (pool:List Str) (τ:Qw) (es:List Ev):Qw:=es.foldl (yn5 pool) τ
@[simp] theorem qwEvs_nil (pool:List Str) (τ:Qw):yf6 pool τ []=τ:=rfl
@[simp] theorem ybt (pool:List Str) (τ:Qw) (x:Ev) (es:List Ev):yf6 pool τ (x::es)=yf6 pool (yn5 pool τ x) es:=rfl
def RQ (σ:Rw) (τ:Qw):Prop:=σ.e=τ.e∧(σ.e=0→σ.we=0∧σ.bs=τ.bs)∧τ.all=y6y σ.l
theorem RQ.num {σ:Rw} {τ:Qw} (h:RQ σ τ) (n:Int):RQ (ya8 σ n) (yd7 τ n):=by
  obtain ⟨h1,h2,h3⟩:=h
  by_cases he:σ.e=0
  · have ht:τ.e=0:=by rw [←h1];exact he
    obtain ⟨h4,h5⟩:=h2 he
    by_cases hn:n<0∨n > 268435456
    · refine ⟨?_,fun h=>?_,?_⟩
      · simp [ya8,yd7,y9q,hn,he,ht]
      · simp [ya8,y9q,hn,he] at h
      · simp [ya8,yd7,y9q,hn,he,ht,h3]
    · refine ⟨?_,fun h=>?_,?_⟩
      · simp [ya8,yd7,hn,he,ht]
      · simp [ya8,yd7,yi1,hn,he,ht,h4,h5]
      · simp [ya8,yd7,hn,he,ht,h3]
  · have ht:τ.e≠0:=by rw [←h1];exact he
    have hq:yd7 τ n=τ:=by simp [yd7,ht]
    rw [hq]
    by_cases hn:n<0∨n > 268435456
    · refine ⟨?_,fun h=>?_,?_⟩
      · simp [ya8,y9q,hn,he,h1];exact fun h=>(ht h).elim
      · simp [ya8,y9q,hn,he] at h
      · simp [ya8,y9q,hn,h3]
    · refine ⟨?_,fun h=>?_,?_⟩
      · simp [ya8,hn,h1]
      · simp [ya8,hn] at h;exact (he h).elim
      · simp [ya8,hn,h3]
theorem yi9 (l:List Str) (s:Str):y6y (l++[s])=ycb (y6y l) s:=by simp [y6y,List.foldl_append]
theorem RQ.txt {pool:List Str} {σ:Rw} {τ:Qw} (h:RQ σ τ) (s:Str):RQ (ykj pool σ s) (ynk pool τ s):=by
  obtain ⟨h1,h2,h3⟩:=h
  unfold ykj ynk
  refine RQ.num ?_ _
  by_cases hs:s∈pool
  · simp only [hs,if_true,not_true_eq_false,false_and,if_false]
    exact ⟨h1,h2,by simp [yi9,h3]⟩
  · simp only [hs,if_false,not_false_eq_true,true_and]
    refine ⟨by simp [y9q,h1],fun h=>?_,by simp [y9q,yi9,h3]⟩
    exfalso
    simp only [y9q] at h
    split at h
    · cases h
    · rename_i h';exact h' h
theorem RQ.evs {pool:List Str}:∀(es:List Ev) {σ:Rw} {τ:Qw},RQ σ τ→RQ (y8c pool σ es) (yf6 pool τ es)
  | [],σ,τ,h=>h
  | .num n::es,σ,τ,h=>RQ.evs es (h.num n)
  | .txt s::es,σ,τ,h=>RQ.evs es (h.txt s)
def y4f (s:Su):List Str:=y6y (txs (evS s))
def qw0:Qw:=⟨[],[],0⟩
def ylg (pool:List Str) (s:Su):Str × Int:=if (yf6 pool qw0 (evS s)).e≠0 then ([],(yf6 pool qw0 (evS s)).e) else ((yf6 pool qw0 (evS s)).bs,0)
theorem RQ.start:RQ ⟨0,[],0,[]⟩ qw0:=⟨rfl,fun _=>⟨rfl,rfl⟩,rfl⟩
def shN:Str→Str→Nat
  | x::a,y::b=>if x=y then shN a b+1 else 0
  | _,_=>0
theorem ylq:∀a b:Str,shN a b≤a.length∧shN a b≤b.length
  | [],b=>by simp [shN]
  | x::a,[]=>by simp [shN]
  | x::a,y::b=>by
    have:=ylq a b
    simp only [shN]
    split <;> simp <;> omega
theorem yox:∀a b:Str,a.take (shN a b)=b.take (shN a b)
  | [],b=>by simp [shN]
  | x::a,[]=>by simp [shN]
  | x::a,y::b=>by
    simp only [shN]
    split
    · rename_i h;simp [h,yox a b]
    · simp
theorem shN_more {a b:Str} {n:Nat} (ha:n<a.length) (hb:n<b.length) (e:a[n]=b[n]):shN (a.drop n) (b.drop n)=shN (a.drop (n+1)) (b.drop (n+1))+1:=by
  rw [List.drop_eq_getElem_cons ha,List.drop_eq_getElem_cons hb]
  simp [shN,e]
theorem shN_stop {a b:Str} {n:Nat} (h:¬(n<a.length∧n<b.length)∨∃(ha:n<a.length) (hb:n<b.length),a[n]≠b[n]):shN (a.drop n) (b.drop n)=0:=by
  rcases h with h | ⟨ha,hb,e⟩
  · by_cases ha:n<a.length
    · rw [List.drop_of_length_le (l:=b) (by omega)]
      cases a.drop n <;> rfl
    · rw [List.drop_of_length_le (l:=a) (by omega)]
      rfl
  · rw [List.drop_eq_getElem_cons ha,List.drop_eq_getElem_cons hb]
    simp [shN,e]
def yd8 (last:Str):List Str→Str
  | []=>[]
  | s::r=>y8b (shN last s)++(y8b (s.length-shN last s)++(s.drop (shN last s)++yd8 s r))
def yd9 (l:List Str):Str:=y8b l.length++yd8 [] l
theorem yig:∀(l:List Str) (last:Str),(∀s∈l,s.length≤1000)→(yd8 last l).length≤l.length*1020
  | [],last,h=>by simp [yd8]
  | s::r,last,h=>by
    have h1:=yig r s fun x hx=>h x (by simp [hx])
    have h2:=h s (by simp)
    have h3:=ylq last s
    have h4:=y9o (n:=shN last s) (by omega)
    have h5:=y9o (n:=s.length-shN last s) (by omega)
    simp [yd8];omega
def ym6 (l:List Str) (i:Nat):Str:=yd8 [] (l.take i)
def ye7 (l:List Str) (i:Nat):Str:=((l.take i).getLast?).getD []
theorem yjy:∀(l:List Str) (last s:Str),yd8 last (l++[s])=yd8 last l++(y8b (shN ((l.getLast?).getD last) s)++(y8b (s.length-shN ((l.getLast?).getD last) s)++s.drop (shN ((l.getLast?).getD last) s)))
  | [],last,s=>by simp [yd8]
  | x::r,last,s=>by
    have h:=yjy r x s
    have:((x::r).getLast?).getD last=(r.getLast?).getD x:=by simp only [List.getLast?_cons,Option.getD_some]
    simp only [List.cons_append,yd8,h,this,List.append_assoc]
theorem yqa (l:List Str) (i:Nat) (h:i<l.length):ym6 l (i+1)=ym6 l i++(y8b (shN (ye7 l i) l[i])++(y8b (l[i].length-shN (ye7 l i) l[i])++l[i].drop (shN (ye7 l i) l[i]))):=by
  unfold ym6 ye7
  rw [List.take_add_one,List.getElem?_eq_getElem h]
  exact yjy _ _ _
theorem yqe (l:List Str) (i:Nat) (h:i<l.length):ye7 l (i+1)=l[i]:=by
  unfold ye7
  rw [List.take_add_one,List.getElem?_eq_getElem h,Option.toList_some,List.getLast?_concat]
  rfl
theorem ysl (l:List Str) (h:∀s∈l,s.length≤1000) (i:Nat) (hi:i≤l.length):(ym6 l i).length≤l.length*1020:=by
  have:=yig (l.take i) [] fun s hs=>h s (List.mem_of_mem_take hs)
  exact Nat.le_trans this (Nat.mul_le_mul_right _ (by rw [List.length_take];omega))
def crc1 (v:Nat):Nat:=if (v*2) &&& 16777216≠0 then (v*2) ^^^ 25578747 else v*2
def crcN:Nat→Nat→Nat
  | 0,v=>v
  | k+1,v=>crcN k (crc1 v)
def crcB (v:Nat) (b:UInt8):Nat:=crcN 8 (v ^^^ (b.toNat*65536))
def yjj (v:Nat) (l:List UInt8):Nat:=l.foldl crcB v
theorem yui (w:Nat):(w &&& 16777216≠0)↔w.testBit 24=true:=by
  have h:(16777216:Nat)=2 ^ 24:=by decide
  rw [h]
  constructor
  · intro hne
    cases hb:w.testBit 24 with
    | true=>rfl
    | false=>
      exfalso
      apply hne
      apply Nat.eq_of_testBit_eq
      intro i
      rw [Nat.testBit_and,Nat.testBit_two_pow,Nat.zero_testBit]
      by_cases hi:24=i
      · subst hi;simp [hb]
      · simp [hi]
  · intro hb h0
    have:(w &&& 2 ^ 24).testBit 24=true:=by rw [Nat.testBit_and,hb,Nat.testBit_two_pow];simp
    rw [h0] at this
    simp at this
theorem yi5 (w:Nat):w.testBit 24=decide (w / 16777216 % 2=1):=by
  have h:(16777216:Nat)=2 ^ 24:=by decide
  rw [Nat.testBit_eq_decide_div_mod_eq,h]
theorem crc1_lt {v:Nat} (h:v<16777216):crc1 v<16777216:=by
  unfold crc1
  split
  · rename_i hb
    rw [yui] at hb
    have h1:v*2<2 ^ 25:=by omega
    have h2:v*2 ^^^ 25578747<2 ^ 25:=Nat.xor_lt_two_pow h1 (by decide)
    have h3:(v*2 ^^^ 25578747).testBit 24=false:=by
      rw [Nat.testBit_xor,hb];decide
    rw [yi5] at h3
    simp at h3
    omega
  · rename_i hb
    have:¬((v*2).testBit 24=true):=fun h=>hb ((yui _).2 h)
    rw [yi5] at this
    simp at this
    omega
theorem yo3:∀(k:Nat) {v:Nat},v<16777216→crcN k v<16777216
  | 0,_,h=>h
  | k+1,_,h=>yo3 k (crc1_lt h)
theorem yu7 {v:Nat} (h:v<16777216) (b:UInt8):v ^^^ (b.toNat*65536)<16777216:=by
  have:=b.toNat_lt
  exact Nat.xor_lt_two_pow (n:=24) h (by omega)
theorem crcB_lt {v:Nat} (h:v<16777216) (b:UInt8):crcB v b<16777216:=yo3 8 (yu7 h b)
theorem yo4:∀(l:List UInt8) {v:Nat},v<16777216→yjj v l<16777216
  | [],_,h=>h
  | b::l,_,h=>yo4 l (crcB_lt h b)
theorem yu2 (v:Nat) (l:List UInt8) (i:Nat) (h:i<l.length):yjj v (l.take (i+1))=crcB (yjj v (l.take i)) l[i]:=by
  unfold yjj
  rw [List.take_succ_eq_append_getElem h,List.foldl_append]
  rfl
theorem yu1 (k:Nat) (v:Nat):crcN (k+1) v=crc1 (crcN k v):=by
  induction k generalizing v with
  | zero=>rfl
  | succ k ih=>rw [crcN,ih];rfl
def sum3 (v:Nat):List UInt8:=[UInt8.ofNat (v / 65536),UInt8.ofNat (v / 256),UInt8.ofNat v]
theorem yrv (v k:Nat):UInt8.ofNat (IntKind.u8.wrap ((v:Int).fdiv (k:Int))).toNat=UInt8.ofNat (v / k):=by
  rw [yn6,Int.fdiv_eq_ediv_of_nonneg _ (by omega)]
  have:((v:Int) / (k:Int) % 256).toNat=v / k % 256:=by
    rw [←Int.natCast_ediv];omega
  rw [this]
  apply UInt8.toNat_inj.1
  simp
theorem u8_all (v:Nat):UInt8.ofNat (IntKind.u8.wrap (v:Int)).toNat=UInt8.ofNat v:=by
  have:=yrv v 1
  simpa using this
abbrev Fact:=Str × List Str
def fcs (f:Fact):List V:=[.s f.1,ss f.2]
def IdxInv (l:List Str) (x:Str) (H:Hp) (m:Nat) (F:Fr) (H':Hp):Prop:=
  ∃i,i≤l.length∧m=l.length-i∧x∉l.take i∧H'=H∧F=[(0,ss l),(1,.s x),(7,.i .i64 l.length),(8,.i .i64 i)]
theorem Index_ok (l:List Str) (x:Str) (hl:l.length≤9223372036854775807) (H:Hp):AC Tryz.prog y6s [ss l,.s x] H (fun v H'=>v=.i .i64 (ykr l x)∧H'=H):=by
  refine AC.code yt.at yt.ok ?_
  simp only [yt]
  apply jA
  simp [yt.r0]
  apply jB
  simp [yt.r1,ss]
  refine AX.pblock (AX.loop (IdxInv l x H) l.length ⟨_,_,.refl _ _,0,by omega,by omega,by simp,rfl,rfl⟩ ?_)
  rintro m F H' ⟨i,hi,rfl,hx,rfl,rfl⟩
  simp only [yt.l0]
  apply jA
  simp [yt.r2]
  refine AX.seq (AX.pcond rfl (fun hc=>AX.skip ?_) (fun hc=>AX.exit ?_))
  · simp at hc
    simp
    apply jC
    simp [yt.r3]
    apply jA
    simp [yt.r4,ss,hc]
    refine AX.pcond rfl (fun hd=>?_) (fun hd=>AX.skip ?_)
    · simp at hd
      apply jA
      simp [yt.r5]
      apply jD
      simp
      exact (yst (by rw [List.getElem?_eq_getElem hc,hd]) hx).symm
    simp at hd
    simp
    apply jE
    simp [yt.r6,y3q hc hl]
    refine ⟨l.length-(i+1),by omega,_,_,.refl _ _,i+1,by omega,rfl,?_,rfl,by simp [ss]⟩
    rw [List.take_add_one,List.getElem?_eq_getElem hc]
    intro hm
    rcases List.mem_append.1 hm with hm | hm
    · exact hx hm
    · simp at hm;exact hd hm
  simp at hc
  rw [List.take_of_length_le hc] at hx
  have h1:=yg5.2 hx
  have h2:=ynp l x
  simp
  apply jA
  simp [yt.r7]
  apply jD
  simp;omega
theorem numV_in (l:List Str) (x:Str):(0≤ykr l x)=(x∈l):=by
  have h2:=ynp l x
  refine propext ⟨fun h=>Classical.byContradiction fun hc=>by have:=yg5.2 hc;omega,fun h=>?_⟩
  rcases Int.lt_or_le (ykr l x) 0 with h3 | h3
  · exact absurd h (yg5.1 h3)
  · exact h3
theorem yon (l:List Str) (x:Str) (hl:l.length≤9223372036854775807) (H:Hp):AC Tryz.prog y6b [ss l,.s x] H (fun v H'=>v=.b (decide (x∈l))∧H'=H):=by
  refine AC.code y2q.at y2q.ok ?_
  simp only [y2q]
  apply jA
  simp [y2q.r0]
  apply jA
  simp [y2q.r1]
  refine AC.fix (Index_ok l x hl _) ?_
  simp [numV_in]
  apply jD
  simp
@[simp] theorem fcs_len (f:Fact):(fcs f).length=2:=rfl
@[simp] theorem fcs_take (f:Fact):(fcs f).take 2=fcs f:=rfl
def ynx {α:Type} (p:α→Bool):List α→Int
  | []=>-1
  | y::r=>if p y then 0 else if ynx p r<0 then -1 else ynx p r+1
theorem yg9 {α:Type} {p:α→Bool} {l:List α} (h:l.find? p=none):ynx p l=-1:=by
  induction l with
  | nil=>rfl
  | cons y r ih=>
    simp only [List.find?_cons] at h
    cases hp:p y with
    | true=>rw [hp] at h;cases h
    | false=>rw [hp] at h;simp [ynx,hp,ih h]
theorem yt7 {α:Type} {p:α→Bool} {l:List α} {i:Nat} {x:α} (h:l[i]?=some x) (hp:p x=true) (hn:(l.take i).find? p=none):ynx p l=i:=by
  induction l generalizing i with
  | nil=>simp at h
  | cons y r ih=>
    cases i with
    | zero=>simp at h;subst h;simp [ynx,hp]
    | succ i=>
      simp only [List.getElem?_cons_succ] at h
      simp only [List.take_succ_cons,List.find?_cons] at hn
      cases hy:p y with
      | true=>rw [hy] at hn;cases hn
      | false=>
        rw [hy] at hn
        have:=ih h hn
        simp only [ynx,hy,this]
        simp
theorem yte {α:Type} {p:α→Bool} {l:List α} {x:α} (h:l.find? p=some x):∃i:Nat,i<l.length∧l[i]?=some x∧ynx p l=i:=by
  induction l with
  | nil=>cases h
  | cons y r ih=>
    simp only [List.find?_cons] at h
    cases hp:p y with
    | true=>rw [hp] at h;injection h with h;subst h;exact ⟨0,by simp,rfl,by simp [ynx,hp]⟩
    | false=>
      rw [hp] at h
      obtain ⟨i,h1,h2,h3⟩:=ih h
      exact ⟨i+1,by simp;omega,by simpa using h2,by simp only [ynx,hp,h3];simp⟩
def IdxGInv (l:List Str) (g:V) (p:Str→Bool) (H:Hp) (m:Nat) (F:Fr) (H':Hp):Prop:=
  ∃i,i≤l.length∧m=l.length-i∧(l.take i).find? p=none∧H'=H∧F=[(0,ss l),(1,g),(7,.i .i64 l.length),(8,.i .i64 i)]
theorem ylf (l:List Str) (f:Go.FuncId) (caps:List V) (p:Str→Bool) (hl:l.length≤9223372036854775807) (H:Hp) (hf:∀x∈l,AC Tryz.prog f (.s x::caps) H (fun v H'=>v=.b (p x)∧H'=H)):
    AC Tryz.prog y62 [ss l,.fn f caps] H (fun v H'=>v=.i .i64 (ynx p l)∧H'=H):=by
  refine AC.code yn.at yn.ok ?_
  simp only [yn]
  apply jA
  simp [yn.r0]
  apply jB
  simp [yn.r1,ss]
  refine AX.pblock (AX.loop (IdxGInv l (.fn f caps) p H) l.length ⟨_,_,.refl _ _,0,by omega,by omega,by simp,rfl,rfl⟩ ?_)
  rintro m F H' ⟨i,hi,rfl,hx,rfl,rfl⟩
  simp only [yn.l0]
  apply jA
  simp [yn.r2]
  refine AX.seq (AX.pcond rfl (fun hc=>AX.skip ?_) (fun hc=>AX.exit ?_))
  · simp at hc
    simp
    apply jC
    simp [yn.r3]
    apply jA
    simp [yn.r4,ss,hc]
    refine AC.fix (hf _ (List.getElem_mem hc)) ?_
    simp
    refine AX.pcond rfl (fun hd=>?_) (fun hd=>AX.skip ?_)
    · apply jA
      simp [yn.r5]
      apply jD
      simp
      exact (yt7 (List.getElem?_eq_getElem hc) hd hx).symm
    simp
    apply jE
    simp [yn.r6,y3q hc hl]
    refine ⟨l.length-(i+1),by omega,_,_,.refl _ _,i+1,by omega,rfl,?_,rfl,by simp [ss]⟩
    rw [List.take_add_one,List.getElem?_eq_getElem hc,List.find?_append,hx]
    simp [hd]
  simp at hc
  rw [List.take_of_length_le hc] at hx
  simp
  apply jA
  simp [yn.r7]
  apply jD
  simp [yg9 hx]
theorem ycf (l:List Str) (f:Go.FuncId) (caps:List V) (p:Str→Bool) (hl:l.length≤9223372036854775807) (H:Hp) (hf:∀x∈l,AC Tryz.prog f (.s x::caps) H (fun v H'=>v=.b (p x)∧H'=H)):
    AC Tryz.prog y4v [ss l,.fn f caps] H (fun v H'=>v=.b (l.any p)∧H'=H):=by
  refine AC.code y2g.at y2g.ok ?_
  simp only [y2g]
  apply jA
  simp [y2g.r0]
  apply jA
  simp [y2g.r1]
  refine AC.fix (ylf l f caps p hl _ hf) ?_
  simp
  apply jD
  have e:decide (0≤ynx p l)=l.any p:=by
    cases hf:l.find? p with
    | none=>
      rw [yg9 hf]
      have:l.any p=false:=by rw [List.any_eq_false];intro x hx;exact List.find?_eq_none.1 hf x hx
      rw [this];rfl
    | some x=>
      obtain ⟨i,h1,h2,h3⟩:=yte hf
      rw [h3]
      have:l.any p=true:=List.any_eq_true.2 ⟨x,List.mem_of_find?_eq_some hf,List.find?_some hf⟩
      rw [this];simp
  simp [e]
def elV (ag:Bool) (cs:List V):V:=if ag then .agg cs else cs.headD .junk
theorem one_el {ag:Bool} {cs:List V} {sz:Nat} (h1:cs.length=sz) (h2:ag=false→sz=1):one ag cs=some (elV ag cs):=by
  cases ag with
  | true=>simp [elV]
  | false=>
    have:=h2 rfl
    match cs,h1 with
    | [v],_=>simp [elV]
    | [],h=>simp at h;omega
    | _::_::_,h=>simp at h;omega
def yfp.r0:List AStep:=[⟨some 4,none,.op (.mov (.c (.i .i64 0)))⟩]
def yfp.r1:List AStep:=[ab 6 0,av 7 6,ai 8 0]
def yfp.r2:List AStep:=[⟨some 9,none,.op (.bin .lss (.t 8) (.t 7))⟩]
def yfp.r3:List AStep:=[⟨some 10,none,.op (.mov (.t 8))⟩,⟨some 5,none,.op (.mov (.t 10))⟩]
def yfp.r4 (sz:Nat) (ag:Bool):List AStep:=[ab 11 1,ab 12 0,ab 13 5,⟨some 14,none,.op (.iad sz (.t 12) (.t 13))⟩,⟨some 15,none,.op (.load ag sz (.t 14))⟩,a1l 16 11 15]
def yfp.r5:List AStep:=[⟨some 17,none,.op (.mov (.t 5))⟩,⟨some 4,none,.op (.mov (.t 17))⟩]
def yfp.r6:List AStep:=[⟨some 18,none,.op (.bin .add (.t 8) (.c (.i .i64 1)))⟩,⟨some 8,none,.op (.mov (.t 18))⟩]
def yfp.r7:List AStep:=[⟨some 4,none,.op (.mov (.c (.i .i64 (-1))))⟩]
def yfp.l0 (sz:Nat) (ag:Bool):ACode:=.seq (.post [0,1,7,8,9] (.region yfp.r2)) (.seq (.post [0,1,7,8] (.cond (.t 9) (.skip) (.exit 0))) (.seq (.post [0,1,7,8] (.block 1 (.seq (.post [0,1,5,7,8] (.region yfp.r3)) (.seq (.post [0,1,5,7,8,16] (.region (yfp.r4 sz ag))) (.post [0,1,7,8] (.cond (.t 16) (.seq (.post [4] (.region yfp.r5)) (.ret)) (.skip))))))) (.post [0,1,7,8] (.region yfp.r6))))
def yfp (sz:Nat) (ag:Bool):AFunc:=⟨19,[.t 4],.seq (.post [0,1] (.region yfp.r0)) (.seq (.seq (.post [0,1,7,8] (.region yfp.r1)) (.post [] (.block 0 (.loop (yfp.l0 sz ag))))) (.seq (.post [4] (.region yfp.r7)) (.ret)))⟩
section
variable {α:Type}
def IdxAInv (es:List (List V)) (g:V) (p:α→Bool) (l:List α) (H:Hp) (m:Nat) (F:Fr) (H':Hp):Prop:=
  ∃i,i≤l.length∧m=l.length-i∧(l.take i).find? p=none∧H'=H∧F=[(0,.fs es),(1,g),(7,.i .i64 l.length),(8,.i .i64 i)]
theorem yt8 {fid:Go.FuncId} {fn:Go.Func} {sz:Nat} {ag:Bool} (hf:Tryz.prog.funcs[fid]?=some fn) (hok:y1x Tryz.prog fn (yfp sz ag)=true) (l:List α) (enc:α→List V) (he:∀x∈l,(enc x).length=sz) (ha:ag=false→sz=1) (f:Go.FuncId) (caps:List V) (p:α→Bool)
    (hl:l.length≤9223372036854775807) (H:Hp) (hc:∀x∈l,AC Tryz.prog f (elV ag (enc x)::caps) H (fun v H'=>v=.b (p x)∧H'=H)):
    AC Tryz.prog fid [.fs (l.map enc),.fn f caps] H (fun v H'=>v=.i .i64 (ynx p l)∧H'=H):=by
  refine AC.code hf hok ?_
  simp only [yfp]
  apply jA
  simp [yfp.r0]
  apply jB
  simp [yfp.r1]
  refine AX.pblock (AX.loop (IdxAInv (l.map enc) (.fn f caps) p l H) l.length ⟨_,_,.refl _ _,0,by omega,by omega,by simp,rfl,rfl⟩ ?_)
  rintro m F H' ⟨i,hi,rfl,hx,rfl,rfl⟩
  simp only [yfp.l0]
  apply jA
  simp [yfp.r2]
  refine AX.seq (AX.pcond rfl (fun hd=>AX.skip ?_) (fun hd=>AX.exit ?_))
  · simp at hd
    simp
    have hg:l[i]?=some l[i]:=List.getElem?_eq_getElem hd
    have hm:=List.getElem_mem hd
    have h1:=he _ hm
    have h2:=hc _ hm
    have h3:=one_el h1 ha
    have htk:List.take sz (enc l[i])=enc l[i]:=List.take_of_length_le (by omega)
    apply jC
    simp [yfp.r3]
    apply jA
    simp [yfp.r4,hd,hg,h1,htk,h3,-one]
    refine AC.fix h2 ?_
    simp
    refine AX.pcond rfl (fun hb=>?_) (fun hb=>AX.skip ?_)
    · apply jA
      simp [yfp.r5]
      apply jD
      simp
      exact (yt7 hg hb hx).symm
    simp
    apply jE
    simp [yfp.r6,y3q hd hl]
    refine ⟨l.length-(i+1),by omega,_,_,.refl _ _,i+1,by omega,rfl,?_,rfl,by simp⟩
    rw [List.take_add_one,hg,List.find?_append,hx]
    simp [hb]
  simp at hd
  rw [List.take_of_length_le hd] at hx
  simp
  apply jA
  simp [yfp.r7]
  apply jD
  simp [yg9 hx]
def conF.r0:List AStep:=[⟨some 4,none,.op (.mov (.c (.b false)))⟩]
def conF.r1 (ix:Go.FuncId):List AStep:=[ab 5 0,ab 6 1,⟨some 7,none,.call ix [.t 5,.t 6]⟩,a1k 8 7 0,ab 4 8]
def conF (ix:Go.FuncId):AFunc:=⟨9,[.t 4],.seq (.post [0,1] (.region conF.r0)) (.seq (.post [4] (.region (conF.r1 ix))) (.ret))⟩
theorem idxP_any (p:α→Bool) (l:List α):decide (0≤ynx p l)=l.any p:=by
  cases hf:l.find? p with
  | none=>
    rw [yg9 hf]
    have:l.any p=false:=by rw [List.any_eq_false];intro x hx;exact List.find?_eq_none.1 hf x hx
    rw [this];rfl
  | some x=>
    obtain ⟨i,h1,h2,h3⟩:=yte hf
    rw [h3]
    have:l.any p=true:=List.any_eq_true.2 ⟨x,List.mem_of_find?_eq_some hf,List.find?_some hf⟩
    rw [this];simp
theorem yu3 {fid ix:Go.FuncId} {fn:Go.Func} (hf:Tryz.prog.funcs[fid]?=some fn) (hok:y1x Tryz.prog fn (conF ix)=true) {a g:V} {p:α→Bool} {l:List α} {H:Hp}
    (h:AC Tryz.prog ix [a,g] H (fun v H'=>v=.i .i64 (ynx p l)∧H'=H)):AC Tryz.prog fid [a,g] H (fun v H'=>v=.b (l.any p)∧H'=H):=by
  refine AC.code hf hok ?_
  simp only [conF]
  apply jA
  simp [conF.r0]
  apply jA
  simp [conF.r1]
  refine AC.fix h ?_
  simp
  apply jD
  simp [idxP_any]
end
end Go.Proofs.YthmkcebbeehbeaaGreatDoor
