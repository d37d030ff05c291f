/- Part 30 of the proof of the laws of the queries: AccK, VnM, EvM, PolM, CrcMath, Q17, QAl, Gen1. -/
import Derived.Test.YthmkcebbeehbeaaGreatDoorXEw18
import Derived.Test.YthmkcebbeehbeaaGreatDoorXEw19
import Derived.Test.YthmkcebbeehbeaaGreatDoorXEw25
import Derived.Test.YthmkcebbeehbeaaGreatDoorXEw29
set_option linter.unusedSimpArgs false
set_option linter.unusedVariables false
namespace Go.Proofs.YthmkcebbeehbeaaGreatDoor.Am
open Go Go.RowKit
def yez (v:V) (id:Nat):Prop:=match v with
  | .sl (some (k,_,_)) _ _=>k≠id
  | _=>True
theorem Acc.sepOld {H X:Hp} {sz:Nat} {v:V} {es:List (List V)} (A:Acc H sz v X es) {id:Nat} (h:id<H.next):yez v id:=by
  rcases A.sl with ⟨_,z,rfl⟩ | ⟨k,m,h1,rfl,h2,h3⟩
  · trivial
  · show k≠id;omega
theorem Acc.isSl {H X:Hp} {sz:Nat} {v:V} {es:List (List V)} (A:Acc H sz v X es):∃a n z,v=.sl a n z:=by
  rcases A.sl with ⟨_,z,rfl⟩ | ⟨k,m,h1,rfl,h2,h3⟩ <;> exact ⟨_,_,_,rfl⟩
theorem Acc.appK {H X:Hp} {sz bytes:Nat} {v:V} {es:List (List V)} (A:Acc H sz v X es) (hl:∀id blk,H.get id=some blk→id<H.next) (y:List V) (hy:y.length=sz) (hsz:0<sz) (hc:y.all y7v=true) (hb:(es.length+1)*bytes≤yc5):
    ∃v2 X2,y5d X sz bytes v (.fs [y])=some (v2,X2)∧Acc H sz v2 X2 (es++[y])∧∀id blk,X.get id=some blk→yez v id→X2.get id=some blk∧yez v2 id:=by
  obtain ⟨v2,X2,e,A2⟩:=A.app (bytes:=bytes) (ys:=[y]) hl (by simpa using hy) hsz (by simpa using hc) (by simpa using hb)
  refine ⟨v2,X2,e,A2,fun id blk hg hs=>?_⟩
  have hid:=A.lt id blk hg
  have hsc:y9z X sz (.fs [y])=some (1,y):=by simp [y9z,hsz,hy]
  rcases A.sl with ⟨h0,z,rfl⟩ | ⟨k,m,h1,rfl,h2,h3⟩
  · simp only [y5d,hsc] at e
    rw [if_neg (by decide)] at e
    split at e
    · injection e with e;injection e with e1 e2;subst e1;subst e2
      exact ⟨by simp only [Hp.get_add];rw [if_neg (by omega)];exact hg,by show X.next≠id;omega⟩
    · cases e
  · have hk:k≠id:=hs
    simp only [y5d,hsc,h2] at e
    split at e
    · rw [if_neg (by decide)] at e
      split at e
      · injection e with e;injection e with e1 e2;subst e1;subst e2
        exact ⟨by simp only [Hp.get_upd];rw [if_neg (Ne.symm hk)];exact hg,hk⟩
      · split at e
        · injection e with e;injection e with e1 e2;subst e1;subst e2
          exact ⟨by simp only [Hp.get_upd];rw [if_neg (Ne.symm hk)];exact hg,hk⟩
        · cases e
    · cases e
theorem Acc.frzS {H H':Hp} {sz:Nat} {v:V} {es:List (List V)} (A:Acc H sz v H' es):Frz H' (fun k=>¬yez v k) v (.fs es):=by
  rcases A.sl with ⟨rfl,z,rfl⟩ | ⟨id,m,h1,rfl,h2,h3⟩
  · exact .sl0 z
  · refine .sl id 0 es.flatten.length es.length sz m es.flatten es (fun h=>h rfl) h2 h3 (Nat.le_refl _) rfl A.all (fun i j e v hi hj=>?_) (fun i j e v u hi hj hu=>?_)
    · have:=yer A.all hi hj
      have:=(List.getElem?_eq_some_iff.1 this).1
      simpa using this
    · have:=yer A.all hi hj
      rw [Nat.zero_add,this] at hu;injection hu with hu;subst hu;exact .refl _
theorem AC.frz {P:Program} {f:FuncId} {args args':List V} {H:Hp} {R:V→Hp→Prop} (S:Nat→Prop) (h:AC P f args' (H.wo S) R) (hl:args.length=args'.length) (hv:∀(j:Nat) v v',args[j]?=some v→args'[j]?=some v'→Frz H S v v'):AC P f args H R:=
  ⟨h.1,fun κ cs Sm r=>by
    obtain ⟨κ',ew,le,S',hf⟩:=yjd S Sm
    have r':VRs κ' args' cs:=⟨by rw [←hl];exact r.1,fun j v' hj=>by
      have hlt:j<args.length:=by rw [hl];exact (List.getElem?_eq_some_iff.1 hj).1
      exact hf _ _ (hv j args[j] v' (List.getElem?_eq_getElem hlt) hj) _ (r.2 j args[j] (List.getElem?_eq_getElem hlt))⟩
    have:=h.2 κ' cs S' r'
    rw [ew] at this
    exact this.mono fun e w' ⟨κ2,v,cv,H',a,b,c,d,e',g⟩=>⟨κ2,v,cv,H',a,b,le.trans c,d,e',g⟩⟩
theorem Hp.wo_get {H:Hp} {S:Nat→Prop} {id:Nat} {blk:Blk} (h:H.get id=some blk) (hs:¬S id):(H.wo S).get id=some blk:=by simp only [Hp.wo];rw [if_neg hs];exact h
end Go.Proofs.YthmkcebbeehbeaaGreatDoor.Am
namespace Go.Proofs.YthmkcebbeehbeaaGreatDoor
open Am
def y7w (n:Nat):Str:=if h:n<128 then [UInt8.ofNat n] else UInt8.ofNat (n % 128+128)::y7w (n / 128)
 termination_by n
 decreasing_by omega
theorem y9y {n:Nat} (h:n<128):y7w n=[UInt8.ofNat n]:=by rw [y7w,dif_pos h]
theorem yhg {n:Nat} (h:¬n<128):y7w n=UInt8.ofNat (n % 128+128)::y7w (n / 128):=by rw [y7w,dif_neg h]
theorem ykz:∀(k n:Nat),n<128 ^ (k+1)→(y7w n).length≤k+1
  | 0,n,h=>by rw [y9y (by simpa using h)];simp
  | k+1,n,h=>by
    by_cases h1:n<128
    · rw [y9y h1];simp
    · rw [yhg h1]
      have:=ykz k (n / 128) (by rw [Nat.div_lt_iff_lt_mul (by omega)];rwa [Nat.pow_succ] at h)
      simp;omega
theorem yo2 (n:Nat):y7w n≠[]:=by
  by_cases h1:n<128
  · rw [y9y h1];simp
  · rw [yhg h1];simp
theorem y7e {n:Nat} (h:n≤268435456):(y7w n).length≤5:=ykz 4 n (by omega)
theorem yst {n:Nat} (h:n<9223372036854775808):(y7w n).length≤9:=ykz 8 n (by omega)
def yio (we:Int) (bs:Str) (n:Int):Int × Str:=if we≠0 then (we,bs) else if n<0∨n > 268435456 then (2,bs) else (0,bs++y7w n.toNat)
def ypo (we:Int) (bs:Str) (s:Str):Int × Str:=if we≠0 then (we,bs) else if s.length > 200000 then (9,bs) else (0,bs++y7w s.length++s)
namespace Am
theorem bAnd_i64 {a b:Nat} (ha:a<9223372036854775808) (hb:b<9223372036854775808):yqq .i64 a b=((a &&& b:Nat):Int):=by
  have h:a &&& b≤a:=Nat.and_le_left
  unfold yqq
  rw [ybx,ybx]
  have:(BitVec.ofNat IntKind.i64.bits a &&& BitVec.ofNat IntKind.i64.bits b).toNat=a &&& b:=by
    rw [BitVec.toNat_and,BitVec.toNat_ofNat,BitVec.toNat_ofNat]
    rw [Nat.mod_eq_of_lt (by simp [IntKind.bits];omega),Nat.mod_eq_of_lt (by simp [IntKind.bits];omega)]
  rw [this,y3i (by omega) (by omega)]
theorem yv7 {a b:Nat} (ha:a<9223372036854775808) (hb:b<9223372036854775808):bOr .i64 a b=((a ||| b:Nat):Int):=by
  have h:a ||| b<2 ^ 63:=Nat.or_lt_two_pow (by omega) (by omega)
  unfold bOr
  rw [ybx,ybx]
  have:(BitVec.ofNat IntKind.i64.bits a ||| BitVec.ofNat IntKind.i64.bits b).toNat=a ||| b:=by
    rw [BitVec.toNat_or,BitVec.toNat_ofNat,BitVec.toNat_ofNat]
    rw [Nat.mod_eq_of_lt (by simp [IntKind.bits];omega),Nat.mod_eq_of_lt (by simp [IntKind.bits];omega)]
  rw [this,y3i (by omega) (by omega)]
theorem and127 (n:Nat):n &&& 127=n % 128:=Nat.and_two_pow_sub_one_eq_mod n 7
theorem or128 {m:Nat} (h:m<128):m ||| 128=m+128:=by
  have:=Nat.two_pow_add_eq_or_of_lt (i:=7) (b:=m) (by omega) 1
  rw [Nat.or_comm]
  simp at this
  omega
def bcl (l:Str):List (List V):=l.map fun b=>[.i .u8 b.toNat]
@[simp] theorem bcl_length (l:Str):(bcl l).length=l.length:=by simp [bcl]
theorem yik (l:Str):(bcl l).flatten=l.map fun b=>V.i .u8 b.toNat:=by
  unfold bcl
  induction l with
  | nil=>rfl
  | cons a r ih=>simp [ih]
theorem yrn (a b:Str):bcl (a++b)=bcl a++bcl b:=by simp [bcl]
theorem bcl_one (l:Str):∀e∈bcl l,e.length=1:=fun e he=>by
  obtain ⟨x,_,rfl⟩:=List.mem_map.1 he;rfl
theorem yv5 (l:Str):(bcl l).flatten.all y7v=true:=by rw [yik];simp [y7v]
theorem Acc.upd {B X:Hp} {sz:Nat} {v:V} {es:List (List V)} (A:Acc B sz v X es) (hB:∀k blk,B.get k=some blk→k<B.next) {id:Nat} (h:yez v id) (lo:B.next≤id) (hi:id<X.next) (b:Blk):Acc B sz v (X.upd id b) es:=
  ⟨A.ext.upd hB lo b,Hp.upd_lt A.lt hi b,A.all,A.sl.imp (fun x=>x) fun ⟨k,m,a,e,c,d⟩=>⟨k,m,a,e,by
    subst e
    rw [Hp.get_upd,if_neg (show k≠id from h)];exact c,d⟩⟩
theorem Acc.appKs {H X:Hp} {sz bytes:Nat} {v x:V} {es ys:List (List V)} (A:Acc H sz v X es) (hl:∀id blk,H.get id=some blk→id<H.next) (hx:y9z X sz x=some (ys.length,ys.flatten)) (hy:∀e∈ys,e.length=sz) (hsz:0<sz) (hc:ys.flatten.all y7v=true) (hb:(es.length+ys.length)*bytes≤yc5):
    ∃v2 X2,y5d X sz bytes v x=some (v2,X2)∧Acc H sz v2 X2 (es++ys)∧X.next≤X2.next∧∀id blk,X.get id=some blk→yez v id→X2.get id=some blk∧yez v2 id:=by
  obtain ⟨v2,X2,e,A2⟩:=A.appC (bytes:=bytes) (x:=x) hl hx hy hsz hc hb
  refine ⟨v2,X2,e,A2,?_⟩
  rcases A.sl with ⟨h0,z,rfl⟩ | ⟨k,m,h1,rfl,h2,h3⟩
  · simp only [y5d,hx] at e
    split at e
    · injection e with e;injection e with e1 e2;subst e1;subst e2
      exact ⟨Nat.le_refl _,fun id blk hg _=>⟨hg,trivial⟩⟩
    · split at e
      · injection e with e;injection e with e1 e2;subst e1;subst e2
        refine ⟨by simp,fun id blk hg hs=>?_⟩
        have hid:=A.lt id blk hg
        exact ⟨by simp only [Hp.get_add];rw [if_neg (by omega)];exact hg,by show X.next≠id;omega⟩
      · cases e
  · simp only [y5d,hx,h2] at e
    split at e
    · split at e
      · injection e with e;injection e with e1 e2;subst e1;subst e2
        exact ⟨Nat.le_refl _,fun id blk hg hs=>⟨hg,hs⟩⟩
      · split at e
        · injection e with e;injection e with e1 e2;subst e1;subst e2
          exact ⟨by simp,fun id blk hg hs=>⟨by simp only [Hp.get_upd];rw [if_neg (Ne.symm hs)];exact hg,hs⟩⟩
        · split at e
          · injection e with e;injection e with e1 e2;subst e1;subst e2
            exact ⟨by simp,fun id blk hg hs=>⟨by simp only [Hp.get_upd];rw [if_neg (Ne.symm hs)];exact hg,hs⟩⟩
          · cases e
    · cases e
end Am
open C
inductive Ev where
  | num (n:Int)
  | txt (s:Str)
def evL {α:Type} (f:α→List Ev) (l:List α):List Ev:=.num l.length::l.flatMap f
def evW (s:Str):List Ev:=[.txt s]
def evM (m:Mk):List Ev:=[.num m.pos,.txt m.tag]
def evO (o:Ob):List Ev:=.txt o.name::.txt o.kinds::evL evM o.marks
def evF (f:Fu):List Ev:=[.txt f.name,.txt f.kinds,.txt f.ret]
def evC (c:Cn):List Ev:=.num c.op::.txt c.a::.txt c.b::.num c.k::.txt c.tag::evL evW c.args
def evS (s:Su):List Ev:=.txt s.name::(evL evW s.gives++(evL evW s.wants++(evL evW s.keeps++(evL evO s.sys.objs++(evL evF s.sys.fns++evL evC s.sys.cons)))))
structure Rw where
  we:Int
  bs:Str
  e:Int
  l:List Str
def ya5 (σ:Rw) (x:Int):Rw:={ σ with e:=if σ.e=0 then x else σ.e }
def yap (σ:Rw) (n:Int):Rw:=if n<0∨n > 268435456 then ya5 σ 2 else { σ with we:=(yio σ.we σ.bs n).1,bs:=(yio σ.we σ.bs n).2 }
def ycm (pool:List Str) (s:Str):Nat:=if s∈pool then yde pool s else 0
def yl5 (pool:List Str) (σ:Rw) (s:Str):Rw:=
  yap (if s∈pool then { σ with l:=σ.l++[s] } else ya5 { σ with l:=σ.l++[s] } 7) (ycm pool s)
def rwEv (pool:List Str) (σ:Rw):Ev→Rw
  | .num n=>yap σ n
  | .txt s=>yl5 pool σ s
def y8q (pool:List Str) (σ:Rw) (es:List Ev):Rw:=es.foldl (rwEv pool) σ
@[simp] theorem rwEvs_nil (pool:List Str) (σ:Rw):y8q pool σ []=σ:=rfl
@[simp] theorem yfo (pool:List Str) (σ:Rw) (x:Ev) (es:List Ev):y8q pool σ (x::es)=y8q pool (rwEv pool σ x) es:=rfl
theorem yhx (pool:List Str) (σ:Rw) (a b:List Ev):y8q pool σ (a++b)=y8q pool (y8q pool σ a) b:=by simp [y8q,List.foldl_append]
def rwB (σ:Rw) (n:Nat):Prop:=σ.bs.length+5*n≤1000000000∧σ.l.length+n≤100000000
theorem wNum_len (we:Int) (bs:Str) (n:Int):(yio we bs n).2.length≤bs.length+5:=by
  unfold yio
  split
  · simp
  · split
    · simp
    · rename_i h
      have:=y7e (n:=n.toNat) (by omega)
      simp;omega
theorem ye3 (σ:Rw) (n:Int):(yap σ n).bs.length≤σ.bs.length+5∧(yap σ n).l=σ.l:=by
  unfold yap
  split
  · simp [ya5]
  · exact ⟨wNum_len _ _ _,rfl⟩
theorem rwEv_len (pool:List Str) (σ:Rw) (x:Ev):(rwEv pool σ x).bs.length≤σ.bs.length+5∧(rwEv pool σ x).l.length≤σ.l.length+1:=by
  cases x with
  | num n=>have:=ye3 σ n;simp only [rwEv];rw [this.2];exact ⟨this.1,by omega⟩
  | txt s=>
    simp only [rwEv,yl5]
    split
    · have:=ye3 { σ with l:=σ.l++[s] } (ycm pool s)
      rw [this.2];exact ⟨this.1,by simp⟩
    · have:=ye3 (ya5 { σ with l:=σ.l++[s] } 7) (ycm pool s)
      rw [this.2];exact ⟨this.1,by simp [ya5]⟩
theorem rwB.ev {σ:Rw} {n:Nat} (h:rwB σ (n+1)) (pool:List Str) (x:Ev):rwB (rwEv pool σ x) n:=by
  have:=rwEv_len pool σ x
  unfold rwB at *
  omega
theorem rwB.evs {pool:List Str}:∀{es:List Ev} {σ:Rw} {n:Nat},rwB σ (es.length+n)→rwB (y8q pool σ es) n
  | [],σ,n,h=>by simpa using h
  | x::es,σ,n,h=>by
    rw [yfo]
    refine rwB.evs ?_
    refine rwB.ev ?_ pool x
    simpa [Nat.add_assoc,Nat.add_comm,Nat.add_left_comm] using h
theorem rwB.le {σ:Rw} {m n:Nat} (h:rwB σ n) (hm:m≤n):rwB σ m:=by unfold rwB at *;omega
def txs:List Ev→List Str
  | []=>[]
  | .num _::r=>txs r
  | .txt s::r=>s::txs r
theorem yl6 (pool:List Str):∀(es:List Ev) (σ:Rw),(y8q pool σ es).l=σ.l++txs es
  | [],σ=>by simp [txs]
  | .num n::es,σ=>by rw [yfo,yl6 pool es,rwEv,(ye3 σ n).2];rfl
  | .txt s::es,σ=>by
    rw [yfo,yl6 pool es,rwEv,yl5,(ye3 _ _).2]
    split <;> simp [txs,ya5]
structure Qw where
  bs:Str
  all:List Str
  e:Int
def y5k (τ:Qw) (n:Int):Qw:=if τ.e≠0 then τ else if n<0∨n > 268435456 then { τ with e:=2 } else { τ with bs:=τ.bs++y7w n.toNat }
def y5b (pool:List Str) (τ:Qw) (s:Str):Qw:=y5k { τ with all:=y9l τ.all s,e:=if s∉pool∧τ.e=0 then 7 else τ.e } (ycm pool s)
def yjy (pool:List Str) (τ:Qw):Ev→Qw
  | .num n=>y5k τ n
  | .txt s=>y5b pool τ s
def y58 (pool:List Str) (τ:Qw) (es:List Ev):Qw:=es.foldl (yjy pool) τ
@[simp] theorem qwEvs_nil (pool:List Str) (τ:Qw):y58 pool τ []=τ:=rfl
@[simp] theorem yak (pool:List Str) (τ:Qw) (x:Ev) (es:List Ev):y58 pool τ (x::es)=y58 pool (yjy pool τ x) es:=rfl
theorem yhy (pool:List Str) (τ:Qw) (a b:List Ev):y58 pool τ (a++b)=y58 pool (y58 pool τ a) b:=by simp [y58,List.foldl_append]
def RQ (σ:Rw) (τ:Qw):Prop:=σ.e=τ.e∧(σ.e=0→σ.we=0∧σ.bs=τ.bs)∧τ.all=y7f σ.l
theorem RQ.num {σ:Rw} {τ:Qw} (h:RQ σ τ) (n:Int):RQ (yap σ n) (y5k τ n):=by
  obtain ⟨h1,h2,h3⟩:=h
  by_cases he:σ.e=0
  · have ht:τ.e=0:=by rw [←h1];exact he
    obtain ⟨h4,h5⟩:=h2 he
    by_cases hn:n<0∨n > 268435456
    · refine ⟨?_,fun h=>?_,?_⟩
      · simp [yap,y5k,ya5,hn,he,ht]
      · simp [yap,ya5,hn,he] at h
      · simp [yap,y5k,ya5,hn,he,ht,h3]
    · refine ⟨?_,fun h=>?_,?_⟩
      · simp [yap,y5k,hn,he,ht]
      · simp [yap,y5k,yio,hn,he,ht,h4,h5]
      · simp [yap,y5k,hn,he,ht,h3]
  · have ht:τ.e≠0:=by rw [←h1];exact he
    have hq:y5k τ n=τ:=by simp [y5k,ht]
    rw [hq]
    by_cases hn:n<0∨n > 268435456
    · refine ⟨?_,fun h=>?_,?_⟩
      · simp [yap,ya5,hn,he,h1];exact fun h=>(ht h).elim
      · simp [yap,ya5,hn,he] at h
      · simp [yap,ya5,hn,h3]
    · refine ⟨?_,fun h=>?_,?_⟩
      · simp [yap,hn,h1]
      · simp [yap,hn] at h;exact (he h).elim
      · simp [yap,hn,h3]
theorem yiu (l:List Str) (s:Str):y7f (l++[s])=y9l (y7f l) s:=by simp [y7f,List.foldl_append]
theorem RQ.txt {pool:List Str} {σ:Rw} {τ:Qw} (h:RQ σ τ) (s:Str):RQ (yl5 pool σ s) (y5b pool τ s):=by
  obtain ⟨h1,h2,h3⟩:=h
  unfold yl5 y5b
  refine RQ.num ?_ _
  by_cases hs:s∈pool
  · simp only [hs,if_true,not_true_eq_false,false_and,if_false]
    exact ⟨h1,h2,by simp [yiu,h3]⟩
  · simp only [hs,if_false,not_false_eq_true,true_and]
    refine ⟨by simp [ya5,h1],fun h=>?_,by simp [ya5,yiu,h3]⟩
    exfalso
    simp only [ya5] at h
    split at h
    · cases h
    · rename_i h';exact h' h
theorem RQ.evs {pool:List Str}:∀(es:List Ev) {σ:Rw} {τ:Qw},RQ σ τ→RQ (y8q pool σ es) (y58 pool τ es)
  | [],σ,τ,h=>h
  | .num n::es,σ,τ,h=>RQ.evs es (h.num n)
  | .txt s::es,σ,τ,h=>RQ.evs es (h.txt s)
def y3r (s:Su):List Str:=y7f (txs (evS s))
def qw0:Qw:=⟨[],[],0⟩
def yiw (pool:List Str) (s:Su):Str × Int:=if (y58 pool qw0 (evS s)).e≠0 then ([],(y58 pool qw0 (evS s)).e) else ((y58 pool qw0 (evS s)).bs,0)
theorem RQ.start:RQ ⟨0,[],0,[]⟩ qw0:=⟨rfl,fun _=>⟨rfl,rfl⟩,rfl⟩
theorem ytg (pool:List Str) (s:Su):(y58 pool qw0 (evS s)).all=y3r s:=by
  have:=(RQ.evs (pool:=pool) (evS s) RQ.start).2.2
  rw [this,yl6];rfl
def shN:Str→Str→Nat
  | x::a,y::b=>if x=y then shN a b+1 else 0
  | _,_=>0
theorem yk9:∀a b:Str,shN a b≤a.length∧shN a b≤b.length
  | [],b=>by simp [shN]
  | x::a,[]=>by simp [shN]
  | x::a,y::b=>by
    have:=yk9 a b
    simp only [shN]
    split <;> simp <;> omega
theorem yps:∀a b:Str,a.take (shN a b)=b.take (shN a b)
  | [],b=>by simp [shN]
  | x::a,[]=>by simp [shN]
  | x::a,y::b=>by
    simp only [shN]
    split
    · rename_i h;simp [h,yps a b]
    · simp
theorem ypu {a b:Str} {n:Nat} (ha:n<a.length) (hb:n<b.length) (e:a[n]=b[n]):shN (a.drop n) (b.drop n)=shN (a.drop (n+1)) (b.drop (n+1))+1:=by
  rw [List.drop_eq_getElem_cons ha,List.drop_eq_getElem_cons hb]
  simp [shN,e]
theorem ypt {a b:Str} {n:Nat} (h:¬(n<a.length∧n<b.length)∨∃(ha:n<a.length) (hb:n<b.length),a[n]≠b[n]):shN (a.drop n) (b.drop n)=0:=by
  rcases h with h | ⟨ha,hb,e⟩
  · by_cases ha:n<a.length
    · rw [List.drop_of_length_le (l:=b) (by omega)]
      cases a.drop n <;> rfl
    · rw [List.drop_of_length_le (l:=a) (by omega)]
      rfl
  · rw [List.drop_eq_getElem_cons ha,List.drop_eq_getElem_cons hb]
    simp [shN,e]
def ydn (last:Str):List Str→Str
  | []=>[]
  | s::r=>y7w (shN last s)++(y7w (s.length-shN last s)++(s.drop (shN last s)++ydn s r))
def yc7 (l:List Str):Str:=y7w l.length++ydn [] l
theorem yj1:∀(l:List Str) (last:Str),(∀s∈l,s.length≤1000)→(ydn last l).length≤l.length*1020
  | [],last,h=>by simp [ydn]
  | s::r,last,h=>by
    have h1:=yj1 r s fun x hx=>h x (by simp [hx])
    have h2:=h s (by simp)
    have h3:=yk9 last s
    have h4:=y7e (n:=shN last s) (by omega)
    have h5:=y7e (n:=s.length-shN last s) (by omega)
    simp [ydn];omega
def yj2 (l:List Str) (i:Nat):Str:=ydn [] (l.take i)
def ybo (l:List Str) (i:Nat):Str:=((l.take i).getLast?).getD []
theorem ykj:∀(l:List Str) (last s:Str),ydn last (l++[s])=ydn last l++(y7w (shN ((l.getLast?).getD last) s)++(y7w (s.length-shN ((l.getLast?).getD last) s)++s.drop (shN ((l.getLast?).getD last) s)))
  | [],last,s=>by simp [ydn]
  | x::r,last,s=>by
    have h:=ykj r x s
    have:((x::r).getLast?).getD last=(r.getLast?).getD x:=by simp only [List.getLast?_cons,Option.getD_some]
    simp only [List.cons_append,ydn,h,this,List.append_assoc]
theorem ykk (l:List Str) (i:Nat) (h:i<l.length):yj2 l (i+1)=yj2 l i++(y7w (shN (ybo l i) l[i])++(y7w (l[i].length-shN (ybo l i) l[i])++l[i].drop (shN (ybo l i) l[i]))):=by
  unfold yj2 ybo
  rw [List.take_add_one,List.getElem?_eq_getElem h]
  exact ykj _ _ _
theorem ykn (l:List Str) (i:Nat) (h:i<l.length):ybo l (i+1)=l[i]:=by
  unfold ybo
  rw [List.take_add_one,List.getElem?_eq_getElem h,Option.toList_some,List.getLast?_concat]
  rfl
theorem ymu (l:List Str) (h:∀s∈l,s.length≤1000) (i:Nat) (hi:i≤l.length):(yj2 l i).length≤l.length*1020:=by
  have:=yj1 (l.take i) [] fun s hs=>h s (List.mem_of_mem_take hs)
  exact Nat.le_trans this (Nat.mul_le_mul_right _ (by rw [List.length_take];omega))
def crc1 (v:Nat):Nat:=if (v*2) &&& 16777216≠0 then (v*2) ^^^ 25578747 else v*2
def yqk:Nat→Nat→Nat
  | 0,v=>v
  | k+1,v=>yqk k (crc1 v)
def crcB (v:Nat) (b:UInt8):Nat:=yqk 8 (v ^^^ (b.toNat*65536))
def yfz (v:Nat) (l:List UInt8):Nat:=l.foldl crcB v
theorem yp9 (w:Nat):(w &&& 16777216≠0)↔w.testBit 24=true:=by
  have h:(16777216:Nat)=2 ^ 24:=by decide
  rw [h]
  constructor
  · intro hne
    cases hb:w.testBit 24 with
    | true=>rfl
    | false=>
      exfalso
      apply hne
      apply Nat.eq_of_testBit_eq
      intro i
      rw [Nat.testBit_and,Nat.testBit_two_pow,Nat.zero_testBit]
      by_cases hi:24=i
      · subst hi;simp [hb]
      · simp [hi]
  · intro hb h0
    have:(w &&& 2 ^ 24).testBit 24=true:=by rw [Nat.testBit_and,hb,Nat.testBit_two_pow];simp
    rw [h0] at this
    simp at this
theorem yg7 (w:Nat):w.testBit 24=decide (w / 16777216 % 2=1):=by
  have h:(16777216:Nat)=2 ^ 24:=by decide
  rw [Nat.testBit_eq_decide_div_mod_eq,h]
theorem crc1_lt {v:Nat} (h:v<16777216):crc1 v<16777216:=by
  unfold crc1
  split
  · rename_i hb
    rw [yp9] at hb
    have h1:v*2<2 ^ 25:=by omega
    have h2:v*2 ^^^ 25578747<2 ^ 25:=Nat.xor_lt_two_pow h1 (by decide)
    have h3:(v*2 ^^^ 25578747).testBit 24=false:=by
      rw [Nat.testBit_xor,hb];decide
    rw [yg7] at h3
    simp at h3
    omega
  · rename_i hb
    have:¬((v*2).testBit 24=true):=fun h=>hb ((yp9 _).2 h)
    rw [yg7] at this
    simp at this
    omega
theorem ylo:∀(k:Nat) {v:Nat},v<16777216→yqk k v<16777216
  | 0,_,h=>h
  | k+1,_,h=>ylo k (crc1_lt h)
theorem yp4 {v:Nat} (h:v<16777216) (b:UInt8):v ^^^ (b.toNat*65536)<16777216:=by
  have:=b.toNat_lt
  exact Nat.xor_lt_two_pow (n:=24) h (by omega)
theorem crcB_lt {v:Nat} (h:v<16777216) (b:UInt8):crcB v b<16777216:=ylo 8 (yp4 h b)
theorem ylp:∀(l:List UInt8) {v:Nat},v<16777216→yfz v l<16777216
  | [],_,h=>h
  | b::l,_,h=>ylp l (crcB_lt h b)
theorem yne (v:Nat) (l:List UInt8) (i:Nat) (h:i<l.length):yfz v (l.take (i+1))=crcB (yfz v (l.take i)) l[i]:=by
  unfold yfz
  rw [List.take_succ_eq_append_getElem h,List.foldl_append]
  rfl
theorem ynd (k:Nat) (v:Nat):yqk (k+1) v=crc1 (yqk k v):=by
  induction k generalizing v with
  | zero=>rfl
  | succ k ih=>rw [yqk,ih];rfl
def yr4 (v:Nat):List UInt8:=[UInt8.ofNat (v / 65536),UInt8.ofNat (v / 256),UInt8.ofNat v]
theorem ym6 (v k:Nat):UInt8.ofNat (IntKind.u8.wrap ((v:Int).fdiv (k:Int))).toNat=UInt8.ofNat (v / k):=by
  rw [yo0,Int.fdiv_eq_ediv_of_nonneg _ (by omega)]
  have:((v:Int) / (k:Int) % 256).toNat=v / k % 256:=by
    rw [←Int.natCast_ediv];omega
  rw [this]
  apply UInt8.toNat_inj.1
  simp
theorem u8_all (v:Nat):UInt8.ofNat (IntKind.u8.wrap (v:Int)).toNat=UInt8.ofNat v:=by
  have:=ym6 v 1
  simpa using this
abbrev Fact:=Str × List Str
def fcs (f:Fact):List V:=[.s f.1,ss f.2]
def IdxInv (l:List Str) (x:Str) (H:Hp) (m:Nat) (F:Fr) (H':Hp):Prop:=
  ∃i,i≤l.length∧m=l.length-i∧x∉l.take i∧H'=H∧F=[(0,ss l),(1,.s x),(7,.i .i64 l.length),(8,.i .i64 i)]
theorem Index_ok (l:List Str) (x:Str) (hl:l.length≤9223372036854775807) (H:Hp):AC Tryz.prog y78 [ss l,.s x] H (fun v H'=>v=.i .i64 (yj7 l x)∧H'=H):=by
  refine AC.code yt.at yt.ok ?_
  simp only [yt]
  apply jA
  simp [yt.r0]
  apply jB
  simp [yt.r1,ss]
  refine AX.pblock (AX.loop (IdxInv l x H) l.length ⟨_,_,.refl _ _,0,by omega,by omega,by simp,rfl,rfl⟩ ?_)
  rintro m F H' ⟨i,hi,rfl,hx,rfl,rfl⟩
  simp only [yt.l0]
  apply jA
  simp [yt.r2]
  refine AX.seq (AX.pcond rfl (fun hc=>AX.skip ?_) (fun hc=>AX.exit ?_))
  · simp at hc
    simp
    apply jC
    simp [yt.r3]
    apply jA
    simp [yt.r4,ss,hc]
    refine AX.pcond rfl (fun hd=>?_) (fun hd=>AX.skip ?_)
    · simp at hd
      apply jA
      simp [yt.r5]
      apply jD
      simp
      exact (yoi (by rw [List.getElem?_eq_getElem hc,hd]) hx).symm
    simp at hd
    simp
    apply jE
    simp [yt.r6,y3y hc hl]
    refine ⟨l.length-(i+1),by omega,_,_,.refl _ _,i+1,by omega,rfl,?_,rfl,by simp [ss]⟩
    rw [List.take_add_one,List.getElem?_eq_getElem hc]
    intro hm
    rcases List.mem_append.1 hm with hm | hm
    · exact hx hm
    · simp at hm;exact hd hm
  simp at hc
  rw [List.take_of_length_le hc] at hx
  have h1:=ydf.2 hx
  have h2:=yoh l x
  simp
  apply jA
  simp [yt.r7]
  apply jD
  simp;omega
theorem numV_in (l:List Str) (x:Str):(0≤yj7 l x)=(x∈l):=by
  have h2:=yoh l x
  refine propext ⟨fun h=>Classical.byContradiction fun hc=>by have:=ydf.2 hc;omega,fun h=>?_⟩
  rcases Int.lt_or_le (yj7 l x) 0 with h3 | h3
  · exact absurd h (ydf.1 h3)
  · exact h3
theorem ypi (l:List Str) (x:Str) (hl:l.length≤9223372036854775807) (H:Hp):AC Tryz.prog y6s [ss l,.s x] H (fun v H'=>v=.b (decide (x∈l))∧H'=H):=by
  refine AC.code y2x.at y2x.ok ?_
  simp only [y2x]
  apply jA
  simp [y2x.r0]
  apply jA
  simp [y2x.r1]
  refine AC.fix (Index_ok l x hl _) ?_
  simp [numV_in]
  apply jD
  simp
@[simp] theorem fcs_len (f:Fact):(fcs f).length=2:=rfl
@[simp] theorem fcs_take (f:Fact):(fcs f).take 2=fcs f:=rfl
def yoq {α:Type} (p:α→Bool):List α→Int
  | []=>-1
  | y::r=>if p y then 0 else if yoq p r<0 then -1 else yoq p r+1
theorem yh0 {α:Type} {p:α→Bool} {l:List α} (h:l.find? p=none):yoq p l=-1:=by
  induction l with
  | nil=>rfl
  | cons y r ih=>
    simp only [List.find?_cons] at h
    cases hp:p y with
    | true=>rw [hp] at h;cases h
    | false=>rw [hp] at h;simp [yoq,hp,ih h]
theorem yu9 {α:Type} {p:α→Bool} {l:List α} {i:Nat} {x:α} (h:l[i]?=some x) (hp:p x=true) (hn:(l.take i).find? p=none):yoq p l=i:=by
  induction l generalizing i with
  | nil=>simp at h
  | cons y r ih=>
    cases i with
    | zero=>simp at h;subst h;simp [yoq,hp]
    | succ i=>
      simp only [List.getElem?_cons_succ] at h
      simp only [List.take_succ_cons,List.find?_cons] at hn
      cases hy:p y with
      | true=>rw [hy] at hn;cases hn
      | false=>
        rw [hy] at hn
        have:=ih h hn
        simp only [yoq,hy,this]
        simp
theorem yuh {α:Type} {p:α→Bool} {l:List α} {x:α} (h:l.find? p=some x):∃i:Nat,i<l.length∧l[i]?=some x∧yoq p l=i:=by
  induction l with
  | nil=>cases h
  | cons y r ih=>
    simp only [List.find?_cons] at h
    cases hp:p y with
    | true=>rw [hp] at h;injection h with h;subst h;exact ⟨0,by simp,rfl,by simp [yoq,hp]⟩
    | false=>
      rw [hp] at h
      obtain ⟨i,h1,h2,h3⟩:=ih h
      exact ⟨i+1,by simp;omega,by simpa using h2,by simp only [yoq,hp,h3];simp⟩
def IdxGInv (l:List Str) (g:V) (p:Str→Bool) (H:Hp) (m:Nat) (F:Fr) (H':Hp):Prop:=
  ∃i,i≤l.length∧m=l.length-i∧(l.take i).find? p=none∧H'=H∧F=[(0,ss l),(1,g),(7,.i .i64 l.length),(8,.i .i64 i)]
theorem ym3 (l:List Str) (f:Go.FuncId) (caps:List V) (p:Str→Bool) (hl:l.length≤9223372036854775807) (H:Hp) (hf:∀x∈l,AC Tryz.prog f (.s x::caps) H (fun v H'=>v=.b (p x)∧H'=H)):
    AC Tryz.prog y6i [ss l,.fn f caps] H (fun v H'=>v=.i .i64 (yoq p l)∧H'=H):=by
  refine AC.code ym.at ym.ok ?_
  simp only [ym]
  apply jA
  simp [ym.r0]
  apply jB
  simp [ym.r1,ss]
  refine AX.pblock (AX.loop (IdxGInv l (.fn f caps) p H) l.length ⟨_,_,.refl _ _,0,by omega,by omega,by simp,rfl,rfl⟩ ?_)
  rintro m F H' ⟨i,hi,rfl,hx,rfl,rfl⟩
  simp only [ym.l0]
  apply jA
  simp [ym.r2]
  refine AX.seq (AX.pcond rfl (fun hc=>AX.skip ?_) (fun hc=>AX.exit ?_))
  · simp at hc
    simp
    apply jC
    simp [ym.r3]
    apply jA
    simp [ym.r4,ss,hc]
    refine AC.fix (hf _ (List.getElem_mem hc)) ?_
    simp
    refine AX.pcond rfl (fun hd=>?_) (fun hd=>AX.skip ?_)
    · apply jA
      simp [ym.r5]
      apply jD
      simp
      exact (yu9 (List.getElem?_eq_getElem hc) hd hx).symm
    simp
    apply jE
    simp [ym.r6,y3y hc hl]
    refine ⟨l.length-(i+1),by omega,_,_,.refl _ _,i+1,by omega,rfl,?_,rfl,by simp [ss]⟩
    rw [List.take_add_one,List.getElem?_eq_getElem hc,List.find?_append,hx]
    simp [hd]
  simp at hc
  rw [List.take_of_length_le hc] at hx
  simp
  apply jA
  simp [ym.r7]
  apply jD
  simp [yh0 hx]
theorem yd7 (l:List Str) (f:Go.FuncId) (caps:List V) (p:Str→Bool) (hl:l.length≤9223372036854775807) (H:Hp) (hf:∀x∈l,AC Tryz.prog f (.s x::caps) H (fun v H'=>v=.b (p x)∧H'=H)):
    AC Tryz.prog y56 [ss l,.fn f caps] H (fun v H'=>v=.b (l.any p)∧H'=H):=by
  refine AC.code y2n.at y2n.ok ?_
  simp only [y2n]
  apply jA
  simp [y2n.r0]
  apply jA
  simp [y2n.r1]
  refine AC.fix (ym3 l f caps p hl _ hf) ?_
  simp
  apply jD
  have e:decide (0≤yoq p l)=l.any p:=by
    cases hf:l.find? p with
    | none=>
      rw [yh0 hf]
      have:l.any p=false:=by rw [List.any_eq_false];intro x hx;exact List.find?_eq_none.1 hf x hx
      rw [this];rfl
    | some x=>
      obtain ⟨i,h1,h2,h3⟩:=yuh hf
      rw [h3]
      have:l.any p=true:=List.any_eq_true.2 ⟨x,List.mem_of_find?_eq_some hf,List.find?_some hf⟩
      rw [this];simp
  simp [e]
def elV (ag:Bool) (cs:List V):V:=if ag then .agg cs else cs.headD .junk
theorem one_el {ag:Bool} {cs:List V} {sz:Nat} (h1:cs.length=sz) (h2:ag=false→sz=1):one ag cs=some (elV ag cs):=by
  cases ag with
  | true=>simp [elV]
  | false=>
    have:=h2 rfl
    match cs,h1 with
    | [v],_=>simp [elV]
    | [],h=>simp at h;omega
    | _::_::_,h=>simp at h;omega
def ygi.r0:List AStep:=[⟨some 4,none,.op (.mov (.c (.i .i64 0)))⟩]
def ygi.r1:List AStep:=[ab 6 0,am 7 6,af 8 0]
def ygi.r2:List AStep:=[⟨some 9,none,.op (.bin .lss (.t 8) (.t 7))⟩]
def ygi.r3:List AStep:=[⟨some 10,none,.op (.mov (.t 8))⟩,⟨some 5,none,.op (.mov (.t 10))⟩]
def ygi.r4 (sz:Nat) (ag:Bool):List AStep:=[ab 11 1,ab 12 0,ab 13 5,⟨some 14,none,.op (.iad sz (.t 12) (.t 13))⟩,⟨some 15,none,.op (.load ag sz (.t 14))⟩,a1f 16 11 15]
def ygi.r5:List AStep:=[⟨some 17,none,.op (.mov (.t 5))⟩,⟨some 4,none,.op (.mov (.t 17))⟩]
def ygi.r6:List AStep:=[⟨some 18,none,.op (.bin .add (.t 8) (.c (.i .i64 1)))⟩,⟨some 8,none,.op (.mov (.t 18))⟩]
def ygi.r7:List AStep:=[⟨some 4,none,.op (.mov (.c (.i .i64 (-1))))⟩]
def ygi.l0 (sz:Nat) (ag:Bool):ACode:=.seq (.post [0,1,7,8,9] (.region ygi.r2)) (.seq (.post [0,1,7,8] (.cond (.t 9) (.skip) (.exit 0))) (.seq (.post [0,1,7,8] (.block 1 (.seq (.post [0,1,5,7,8] (.region ygi.r3)) (.seq (.post [0,1,5,7,8,16] (.region (ygi.r4 sz ag))) (.post [0,1,7,8] (.cond (.t 16) (.seq (.post [4] (.region ygi.r5)) (.ret)) (.skip))))))) (.post [0,1,7,8] (.region ygi.r6))))
def ygi (sz:Nat) (ag:Bool):AFunc:=⟨19,[.t 4],.seq (.post [0,1] (.region ygi.r0)) (.seq (.seq (.post [0,1,7,8] (.region ygi.r1)) (.post [] (.block 0 (.loop (ygi.l0 sz ag))))) (.seq (.post [4] (.region ygi.r7)) (.ret)))⟩
section
variable {α:Type}
def IdxAInv (es:List (List V)) (g:V) (p:α→Bool) (l:List α) (H:Hp) (m:Nat) (F:Fr) (H':Hp):Prop:=
  ∃i,i≤l.length∧m=l.length-i∧(l.take i).find? p=none∧H'=H∧F=[(0,.fs es),(1,g),(7,.i .i64 l.length),(8,.i .i64 i)]
theorem yua {fid:Go.FuncId} {fn:Go.Func} {sz:Nat} {ag:Bool} (hf:Tryz.prog.funcs[fid]?=some fn) (hok:y1v Tryz.prog fn (ygi sz ag)=true) (l:List α) (enc:α→List V) (he:∀x∈l,(enc x).length=sz) (ha:ag=false→sz=1) (f:Go.FuncId) (caps:List V) (p:α→Bool)
    (hl:l.length≤9223372036854775807) (H:Hp) (hc:∀x∈l,AC Tryz.prog f (elV ag (enc x)::caps) H (fun v H'=>v=.b (p x)∧H'=H)):
    AC Tryz.prog fid [.fs (l.map enc),.fn f caps] H (fun v H'=>v=.i .i64 (yoq p l)∧H'=H):=by
  refine AC.code hf hok ?_
  simp only [ygi]
  apply jA
  simp [ygi.r0]
  apply jB
  simp [ygi.r1]
  refine AX.pblock (AX.loop (IdxAInv (l.map enc) (.fn f caps) p l H) l.length ⟨_,_,.refl _ _,0,by omega,by omega,by simp,rfl,rfl⟩ ?_)
  rintro m F H' ⟨i,hi,rfl,hx,rfl,rfl⟩
  simp only [ygi.l0]
  apply jA
  simp [ygi.r2]
  refine AX.seq (AX.pcond rfl (fun hd=>AX.skip ?_) (fun hd=>AX.exit ?_))
  · simp at hd
    simp
    have hg:l[i]?=some l[i]:=List.getElem?_eq_getElem hd
    have hm:=List.getElem_mem hd
    have h1:=he _ hm
    have h2:=hc _ hm
    have h3:=one_el h1 ha
    have htk:List.take sz (enc l[i])=enc l[i]:=List.take_of_length_le (by omega)
    apply jC
    simp [ygi.r3]
    apply jA
    simp [ygi.r4,hd,hg,h1,htk,h3,-one]
    refine AC.fix h2 ?_
    simp
    refine AX.pcond rfl (fun hb=>?_) (fun hb=>AX.skip ?_)
    · apply jA
      simp [ygi.r5]
      apply jD
      simp
      exact (yu9 hg hb hx).symm
    simp
    apply jE
    simp [ygi.r6,y3y hd hl]
    refine ⟨l.length-(i+1),by omega,_,_,.refl _ _,i+1,by omega,rfl,?_,rfl,by simp⟩
    rw [List.take_add_one,hg,List.find?_append,hx]
    simp [hb]
  simp at hd
  rw [List.take_of_length_le hd] at hx
  simp
  apply jA
  simp [ygi.r7]
  apply jD
  simp [yh0 hx]
def conF.r0:List AStep:=[⟨some 4,none,.op (.mov (.c (.b false)))⟩]
def conF.r1 (ix:Go.FuncId):List AStep:=[ab 5 0,ab 6 1,⟨some 7,none,.call ix [.t 5,.t 6]⟩,a1c 8 7 0,ab 4 8]
def conF (ix:Go.FuncId):AFunc:=⟨9,[.t 4],.seq (.post [0,1] (.region conF.r0)) (.seq (.post [4] (.region (conF.r1 ix))) (.ret))⟩
theorem idxP_any (p:α→Bool) (l:List α):decide (0≤yoq p l)=l.any p:=by
  cases hf:l.find? p with
  | none=>
    rw [yh0 hf]
    have:l.any p=false:=by rw [List.any_eq_false];intro x hx;exact List.find?_eq_none.1 hf x hx
    rw [this];rfl
  | some x=>
    obtain ⟨i,h1,h2,h3⟩:=yuh hf
    rw [h3]
    have:l.any p=true:=List.any_eq_true.2 ⟨x,List.mem_of_find?_eq_some hf,List.find?_some hf⟩
    rw [this];simp
theorem yv1 {fid ix:Go.FuncId} {fn:Go.Func} (hf:Tryz.prog.funcs[fid]?=some fn) (hok:y1v Tryz.prog fn (conF ix)=true) {a g:V} {p:α→Bool} {l:List α} {H:Hp}
    (h:AC Tryz.prog ix [a,g] H (fun v H'=>v=.i .i64 (yoq p l)∧H'=H)):AC Tryz.prog fid [a,g] H (fun v H'=>v=.b (l.any p)∧H'=H):=by
  refine AC.code hf hok ?_
  simp only [conF]
  apply jA
  simp [conF.r0]
  apply jA
  simp [conF.r1]
  refine AC.fix h ?_
  simp
  apply jD
  simp [idxP_any]
end
end Go.Proofs.YthmkcebbeehbeaaGreatDoor
