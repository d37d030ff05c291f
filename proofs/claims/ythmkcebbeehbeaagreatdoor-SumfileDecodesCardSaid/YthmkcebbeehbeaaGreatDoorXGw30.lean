/- Part 30. -/
import Derived.Test.YthmkcebbeehbeaaGreatDoorXGw18
import Derived.Test.YthmkcebbeehbeaaGreatDoorXGw25
import Derived.Test.YthmkcebbeehbeaaGreatDoorXGw29
set_option linter.unusedSimpArgs false
set_option linter.unusedVariables false
namespace Go.Proofs.YthmkcebbeehbeaaGreatDoor
open Am
def y8x (n:Nat):Str:=if h:n<128 then [UInt8.ofNat n] else UInt8.ofNat (n % 128+128)::y8x (n / 128)
 termination_by n
 decreasing_by omega
theorem yb6 {n:Nat} (h:n<128):y8x n=[UInt8.ofNat n]:=by rw [y8x,dif_pos h]
theorem yii {n:Nat} (h:¬n<128):y8x n=UInt8.ofNat (n % 128+128)::y8x (n / 128):=by rw [y8x,dif_neg h]
theorem ym8:∀(k n:Nat),n<128 ^ (k+1)→(y8x n).length≤k+1
 | 0,n,h=>by rw [yb6 (by simpa using h)];simp
 | k+1,n,h=>by
  by_cases h1:n<128
  ·rw [yb6 h1];simp
  ·rw [yii h1]
   have:=ym8 k (n / 128) (by rw [Nat.div_lt_iff_lt_mul (by omega)];rwa [Nat.pow_succ] at h)
   simp;omega
theorem yp9 (n:Nat):y8x n≠[]:=by
 by_cases h1:n<128
 ·rw [yb6 h1];simp
 ·rw [yii h1];simp
theorem ya3 {n:Nat} (h:n≤268435456):(y8x n).length≤5:=ym8 4 n (by omega)
theorem yty {n:Nat} (h:n<9223372036854775808):(y8x n).length≤9:=ym8 8 n (by omega)
def yjn (we:Int) (bs:Str) (n:Int):Int × Str:=if we≠0 then (we,bs) else if n<0∨n > 268435456 then (2,bs) else (0,bs++y8x n.toNat)
def yqx (we:Int) (bs:Str) (s:Str):Int × Str:=if we≠0 then (we,bs) else if s.length > 200000 then (9,bs) else (0,bs++y8x s.length++s)
namespace Am
theorem bAnd_i64 {a b:Nat} (ha:a<9223372036854775808) (hb:b<9223372036854775808):yrv .i64 a b=((a &&& b:Nat):Int):=by
 have h:a &&& b≤a:=Nat.and_le_left
 unfold yrv
 rw [ycx,ycx]
 have:(BitVec.ofNat IntKind.i64.bits a &&& BitVec.ofNat IntKind.i64.bits b).toNat=a &&& b:=by
  rw [BitVec.toNat_and,BitVec.toNat_ofNat,BitVec.toNat_ofNat]
  rw [Nat.mod_eq_of_lt (by simp [IntKind.bits];omega),Nat.mod_eq_of_lt (by simp [IntKind.bits];omega)]
 rw [this,y4e (by omega) (by omega)]
theorem ywg {a b:Nat} (ha:a<9223372036854775808) (hb:b<9223372036854775808):bOr .i64 a b=((a ||| b:Nat):Int):=by
 have h:a ||| b<2 ^ 63:=Nat.or_lt_two_pow (by omega) (by omega)
 unfold bOr
 rw [ycx,ycx]
 have:(BitVec.ofNat IntKind.i64.bits a ||| BitVec.ofNat IntKind.i64.bits b).toNat=a ||| b:=by
  rw [BitVec.toNat_or,BitVec.toNat_ofNat,BitVec.toNat_ofNat]
  rw [Nat.mod_eq_of_lt (by simp [IntKind.bits];omega),Nat.mod_eq_of_lt (by simp [IntKind.bits];omega)]
 rw [this,y4e (by omega) (by omega)]
theorem and127 (n:Nat):n &&& 127=n % 128:=Nat.and_two_pow_sub_one_eq_mod n 7
theorem or128 {m:Nat} (h:m<128):m ||| 128=m+128:=by
 have:=Nat.two_pow_add_eq_or_of_lt (i:=7) (b:=m) (by omega) 1
 rw [Nat.or_comm]
 simp at this
 omega
def bcl (l:Str):List (List V):=l.map fun b=>[.i .u8 b.toNat]
@[simp] theorem bcl_length (l:Str):(bcl l).length=l.length:=by simp [bcl]
theorem yjj (l:Str):(bcl l).flatten=l.map fun b=>V.i .u8 b.toNat:=by
 unfold bcl
 induction l with
 | nil=>rfl
 | cons a r ih=>simp [ih]
theorem ysr (a b:Str):bcl (a++b)=bcl a++bcl b:=by simp [bcl]
theorem bcl_one (l:Str):∀e∈bcl l,e.length=1:=fun e he=>by
 obtain ⟨x,_,rfl⟩:=List.mem_map.1 he;rfl
theorem ywe (l:Str):(bcl l).flatten.all y8i=true:=by rw [yjj];simp [y8i]
theorem Acc.upd {B X:Hp} {sz:Nat} {v:V} {es:List (List V)} (A:Acc B sz v X es) (hB:∀k blk,B.get k=some blk→k<B.next) {id:Nat} (h:ydh v id) (lo:B.next≤id) (hi:id<X.next) (b:Blk):Acc B sz v (X.upd id b) es:=
 ⟨A.ext.upd hB lo b,Hp.upd_lt A.lt hi b,A.all,A.sl.imp (fun x=>x) fun ⟨k,m,a,e,c,d⟩=>⟨k,m,a,e,by
  subst e
  rw [Hp.get_upd,if_neg (show k≠id from h)];exact c,d⟩⟩
theorem Acc.appKs {H X:Hp} {sz bytes:Nat} {v x:V} {es ys:List (List V)} (A:Acc H sz v X es) (hl:∀id blk,H.get id=some blk→id<H.next) (hx:yap X sz x=some (ys.length,ys.flatten)) (hy:∀e∈ys,e.length=sz) (hsz:0<sz) (hc:ys.flatten.all y8i=true) (hb:(es.length+ys.length)*bytes≤yb7):
  ∃v2 X2,y59 X sz bytes v x=some (v2,X2)∧Acc H sz v2 X2 (es++ys)∧X.next≤X2.next∧∀id blk,X.get id=some blk→ydh v id→X2.get id=some blk∧ydh v2 id:=by
 obtain ⟨v2,X2,e,A2⟩:=A.appC (bytes:=bytes) (x:=x) hl hx hy hsz hc hb
 refine ⟨v2,X2,e,A2,?_⟩
 rcases A.sl with ⟨h0,z,rfl⟩ | ⟨k,m,h1,rfl,h2,h3⟩
 ·simp only [y59,hx] at e
  split at e
  ·injection e with e;injection e with e1 e2;subst e1;subst e2
   exact ⟨kF _,fun id blk hg _=>⟨hg,trivial⟩⟩
  ·split at e
   ·injection e with e;injection e with e1 e2;subst e1;subst e2
    refine ⟨by simp,fun id blk hg hs=>?_⟩
    have hid:=A.lt id blk hg
    exact ⟨by simp only [Hp.get_add];rw [if_neg (by omega)];exact hg,by show X.next≠id;omega⟩
   ·cases e
 ·simp only [y59,hx,h2] at e
  split at e
  ·split at e
   ·injection e with e;injection e with e1 e2;subst e1;subst e2
    exact ⟨kF _,fun id blk hg hs=>⟨hg,hs⟩⟩
   ·split at e
    ·injection e with e;injection e with e1 e2;subst e1;subst e2
     exact ⟨by simp,fun id blk hg hs=>⟨by simp only [Hp.get_upd];rw [if_neg (Ne.symm hs)];exact hg,hs⟩⟩
    ·split at e
     ·injection e with e;injection e with e1 e2;subst e1;subst e2
      exact ⟨by simp,fun id blk hg hs=>⟨by simp only [Hp.get_upd];rw [if_neg (Ne.symm hs)];exact hg,hs⟩⟩
     ·cases e
  ·cases e
end Am
open C
inductive Ev where
 | num (n:Int)
 | txt (s:Str)
def evL {α:Type} (f:α→List Ev) (l:List α):List Ev:=.num l.length::l.flatMap f
def evW (s:Str):List Ev:=[.txt s]
def evM (m:Mk):List Ev:=[.num m.pos,.txt m.tag]
def evO (o:Ob):List Ev:=.txt o.name::.txt o.kinds::evL evM o.marks
def evF (f:Fu):List Ev:=[.txt f.name,.txt f.kinds,.txt f.ret]
def evC (c:Cn):List Ev:=.num c.op::.txt c.a::.txt c.b::.num c.k::.txt c.tag::evL evW c.args
def evS (s:Su):List Ev:=.txt s.name::(evL evW s.gives++(evL evW s.wants++(evL evW s.keeps++(evL evO s.sys.objs++(evL evF s.sys.fns++evL evC s.sys.cons)))))
structure Rw where
 we:Int
 bs:Str
 e:Int
 l:List Str
def yax (σ:Rw) (x:Int):Rw:={ σ with e:=if σ.e=0 then x else σ.e }
def ybi (σ:Rw) (n:Int):Rw:=if n<0∨n > 268435456 then yax σ 2 else { σ with we:=(yjn σ.we σ.bs n).1,bs:=(yjn σ.we σ.bs n).2 }
def ydv (pool:List Str) (s:Str):Nat:=if s∈pool then yei pool s else 0
def ymc (pool:List Str) (σ:Rw) (s:Str):Rw:=
 ybi (if s∈pool then { σ with l:=σ.l++[s] } else yax { σ with l:=σ.l++[s] } 7) (ydv pool s)
def rwEv (pool:List Str) (σ:Rw):Ev→Rw
 | .num n=>ybi σ n
 | .txt s=>ymc pool σ s
def y9f (pool:List Str) (σ:Rw) (es:List Ev):Rw:=es.foldl (rwEv pool) σ
@[simp] theorem rwEvs_nil (pool:List Str) (σ:Rw):y9f pool σ []=σ:=rfl
@[simp] theorem ygl (pool:List Str) (σ:Rw) (x:Ev) (es:List Ev):y9f pool σ (x::es)=y9f pool (rwEv pool σ x) es:=rfl
theorem yix (pool:List Str) (σ:Rw) (a b:List Ev):y9f pool σ (a++b)=y9f pool (y9f pool σ a) b:=by simp [y9f,List.foldl_append]
def rwB (σ:Rw) (n:Nat):Prop:=σ.bs.length+5*n≤1000000000∧σ.l.length+n≤100000000
theorem wNum_len (we:Int) (bs:Str) (n:Int):(yjn we bs n).2.length≤bs.length+5:=by
 unfold yjn
 split
 ·simp
 ·split
  ·simp
  ·rename_i h
   have:=ya3 (n:=n.toNat) (by omega)
   simp;omega
theorem yf4 (σ:Rw) (n:Int):(ybi σ n).bs.length≤σ.bs.length+5∧(ybi σ n).l=σ.l:=by
 unfold ybi
 split
 ·simp [yax]
 ·exact ⟨wNum_len _ _ _,rfl⟩
theorem rwEv_len (pool:List Str) (σ:Rw) (x:Ev):(rwEv pool σ x).bs.length≤σ.bs.length+5∧(rwEv pool σ x).l.length≤σ.l.length+1:=by
 cases x with
 | num n=>have:=yf4 σ n;simp only [rwEv];rw [this.2];exact ⟨this.1,by omega⟩
 | txt s=>
  simp only [rwEv,ymc]
  split
  ·have:=yf4 { σ with l:=σ.l++[s] } (ydv pool s)
   rw [this.2];exact ⟨this.1,by simp⟩
  ·have:=yf4 (yax { σ with l:=σ.l++[s] } 7) (ydv pool s)
   rw [this.2];exact ⟨this.1,by simp [yax]⟩
theorem rwB.ev {σ:Rw} {n:Nat} (h:rwB σ (n+1)) (pool:List Str) (x:Ev):rwB (rwEv pool σ x) n:=by
 have:=rwEv_len pool σ x
 unfold rwB at *
 omega
theorem rwB.evs {pool:List Str}:∀{es:List Ev} {σ:Rw} {n:Nat},rwB σ (es.length+n)→rwB (y9f pool σ es) n
 | [],σ,n,h=>by simpa using h
 | x::es,σ,n,h=>by
  rw [ygl]
  refine rwB.evs ?_
  refine rwB.ev ?_ pool x
  simpa [kj,Nat.add_comm,Nat.add_left_comm] using h
theorem rwB.le {σ:Rw} {m n:Nat} (h:rwB σ n) (hm:m≤n):rwB σ m:=by unfold rwB at *;omega
def txs:List Ev→List Str
 | []=>[]
 | .num _::r=>txs r
 | .txt s::r=>s::txs r
theorem ymd (pool:List Str):∀(es:List Ev) (σ:Rw),(y9f pool σ es).l=σ.l++txs es
 | [],σ=>by simp [txs]
 | .num n::es,σ=>by rw [ygl,ymd pool es,rwEv,(yf4 σ n).2];rfl
 | .txt s::es,σ=>by
  rw [ygl,ymd pool es,rwEv,ymc,(yf4 _ _).2]
  split <;> simp [txs,yax]
structure Qw where
 bs:Str
 all:List Str
 e:Int
def y60 (τ:Qw) (n:Int):Qw:=if τ.e≠0 then τ else if n<0∨n > 268435456 then { τ with e:=2 } else { τ with bs:=τ.bs++y8x n.toNat }
def y5s (pool:List Str) (τ:Qw) (s:Str):Qw:=y60 { τ with all:=yac τ.all s,e:=if s∉pool∧τ.e=0 then 7 else τ.e } (ydv pool s)
def yl2 (pool:List Str) (τ:Qw):Ev→Qw
 | .num n=>y60 τ n
 | .txt s=>y5s pool τ s
def y5q (pool:List Str) (τ:Qw) (es:List Ev):Qw:=es.foldl (yl2 pool) τ
@[simp] theorem qwEvs_nil (pool:List Str) (τ:Qw):y5q pool τ []=τ:=rfl
@[simp] theorem ybd (pool:List Str) (τ:Qw) (x:Ev) (es:List Ev):y5q pool τ (x::es)=y5q pool (yl2 pool τ x) es:=rfl
theorem yiy (pool:List Str) (τ:Qw) (a b:List Ev):y5q pool τ (a++b)=y5q pool (y5q pool τ a) b:=by simp [y5q,List.foldl_append]
def RQ (σ:Rw) (τ:Qw):Prop:=σ.e=τ.e∧(σ.e=0→σ.we=0∧σ.bs=τ.bs)∧τ.all=y82 σ.l
theorem RQ.num {σ:Rw} {τ:Qw} (h:RQ σ τ) (n:Int):RQ (ybi σ n) (y60 τ n):=by
 obtain ⟨h1,h2,h3⟩:=h
 by_cases he:σ.e=0
 ·have ht:τ.e=0:=by rw [←h1];exact he
  obtain ⟨h4,h5⟩:=h2 he
  by_cases hn:n<0∨n > 268435456
  ·refine ⟨?_,fun h=>?_,?_⟩
   ·simp [ybi,y60,yax,hn,he,ht]
   ·simp [ybi,yax,hn,he] at h
   ·simp [ybi,y60,yax,hn,he,ht,h3]
  ·refine ⟨?_,fun h=>?_,?_⟩
   ·simp [ybi,y60,hn,he,ht]
   ·simp [ybi,y60,yjn,hn,he,ht,h4,h5]
   ·simp [ybi,y60,hn,he,ht,h3]
 ·have ht:τ.e≠0:=by rw [←h1];exact he
  have hq:y60 τ n=τ:=by simp [y60,ht]
  rw [hq]
  by_cases hn:n<0∨n > 268435456
  ·refine ⟨?_,fun h=>?_,?_⟩
   ·simp [ybi,yax,hn,he,h1];exact fun h=>(ht h).elim
   ·simp [ybi,yax,hn,he] at h
   ·simp [ybi,yax,hn,h3]
  ·refine ⟨?_,fun h=>?_,?_⟩
   ·simp [ybi,hn,h1]
   ·simp [ybi,hn] at h;exact (he h).elim
   ·simp [ybi,hn,h3]
theorem yju (l:List Str) (s:Str):y82 (l++[s])=yac (y82 l) s:=by simp [y82,List.foldl_append]
theorem RQ.txt {pool:List Str} {σ:Rw} {τ:Qw} (h:RQ σ τ) (s:Str):RQ (ymc pool σ s) (y5s pool τ s):=by
 obtain ⟨h1,h2,h3⟩:=h
 unfold ymc y5s
 refine RQ.num ?_ _
 by_cases hs:s∈pool
 ·simp only [hs,if_true,not_true_eq_false,false_and,if_false]
  exact ⟨h1,h2,by simp [yju,h3]⟩
 ·simp only [hs,if_false,not_false_eq_true,true_and]
  refine ⟨by simp [yax,h1],fun h=>?_,by simp [yax,yju,h3]⟩
  exfalso
  simp only [yax] at h
  split at h
  ·cases h
  ·rename_i h';exact h' h
theorem RQ.evs {pool:List Str}:∀(es:List Ev) {σ:Rw} {τ:Qw},RQ σ τ→RQ (y9f pool σ es) (y5q pool τ es)
 | [],σ,τ,h=>h
 | .num n::es,σ,τ,h=>RQ.evs es (h.num n)
 | .txt s::es,σ,τ,h=>RQ.evs es (h.txt s)
def y4u (s:Su):List Str:=y82 (txs (evS s))
def qw0:Qw:=⟨[],[],0⟩
def ync (pool:List Str) (s:Su):Str × Int:=if (y5q pool qw0 (evS s)).e≠0 then ([],(y5q pool qw0 (evS s)).e) else ((y5q pool qw0 (evS s)).bs,0)
theorem RQ.start:RQ ⟨0,[],0,[]⟩ qw0:=⟨rfl,fun _=>⟨rfl,rfl⟩,rfl⟩
theorem yup (pool:List Str) (s:Su):(y5q pool qw0 (evS s)).all=y4u s:=by
 have:=(RQ.evs (pool:=pool) (evS s) RQ.start).2.2
 rw [this,ymd];rfl
def shN:Str→Str→Nat
 | x::a,y::b=>if x=y then shN a b+1 else 0
 | _,_=>0
theorem ynn:∀a b:Str,shN a b≤a.length∧shN a b≤b.length
 | [],b=>by simp [shN]
 | x::a,[]=>by simp [shN]
 | x::a,y::b=>by
  have:=ynn a b
  simp only [shN]
  split <;> simp <;> omega
theorem yr1:∀a b:Str,a.take (shN a b)=b.take (shN a b)
 | [],b=>by simp [shN]
 | x::a,[]=>by simp [shN]
 | x::a,y::b=>by
  simp only [shN]
  split
  ·rename_i h;simp [h,yr1 a b]
  ·simp
theorem yr3 {a b:Str} {n:Nat} (ha:n<a.length) (hb:n<b.length) (e:a[n]=b[n]):shN (a.drop n) (b.drop n)=shN (a.drop (n+1)) (b.drop (n+1))+1:=by
 rw [kO ha,kO hb]
 simp [shN,e]
theorem yr2 {a b:Str} {n:Nat} (h:¬(n<a.length∧n<b.length)∨∃(ha:n<a.length) (hb:n<b.length),a[n]≠b[n]):shN (a.drop n) (b.drop n)=0:=by
 rcases h with h | ⟨ha,hb,e⟩
 ·by_cases ha:n<a.length
  ·rw [List.drop_of_length_le (l:=b) (by omega)]
   cases a.drop n <;> rfl
  ·rw [List.drop_of_length_le (l:=a) (by omega)]
   rfl
 ·rw [kO ha,kO hb]
  simp [shN,e]
def yf8 (last:Str):List Str→Str
 | []=>[]
 | s::r=>y8x (shN last s)++(y8x (s.length-shN last s)++(s.drop (shN last s)++yf8 s r))
def yf9 (l:List Str):Str:=y8x l.length++yf8 [] l
theorem yk5:∀(l:List Str) (last:Str),(∀s∈l,s.length≤1000)→(yf8 last l).length≤l.length*1020
 | [],last,h=>by simp [yf8]
 | s::r,last,h=>by
  have h1:=yk5 r s fun x hx=>h x (by simp [hx])
  have h2:=h s (by simp)
  have h3:=ynn last s
  have h4:=ya3 (n:=shN last s) (by omega)
  have h5:=ya3 (n:=s.length-shN last s) (by omega)
  simp [yf8];omega
def yo2 (l:List Str) (i:Nat):Str:=yf8 [] (l.take i)
def yfy (l:List Str) (i:Nat):Str:=((l.take i).getLast?).getD []
theorem yln:∀(l:List Str) (last s:Str),yf8 last (l++[s])=yf8 last l++(y8x (shN ((l.getLast?).getD last) s)++(y8x (s.length-shN ((l.getLast?).getD last) s)++s.drop (shN ((l.getLast?).getD last) s)))
 | [],last,s=>by simp [yf8]
 | x::r,last,s=>by
  have h:=yln r x s
  have:((x::r).getLast?).getD last=(r.getLast?).getD x:=by simp only [List.getLast?_cons,Option.getD_some]
  simp only [List.cons_append,yf8,h,this,kV]
theorem ysd (l:List Str) (i:Nat) (h:i<l.length):yo2 l (i+1)=yo2 l i++(y8x (shN (yfy l i) l[i])++(y8x (l[i].length-shN (yfy l i) l[i])++l[i].drop (shN (yfy l i) l[i]))):=by
 unfold yo2 yfy
 rw [kI,kB h]
 exact yln _ _ _
theorem ysh (l:List Str) (i:Nat) (h:i<l.length):yfy l (i+1)=l[i]:=by
 unfold yfy
 rw [kI,kB h,Option.toList_some,List.getLast?_concat]
 rfl
theorem yuw (l:List Str) (h:∀s∈l,s.length≤1000) (i:Nat) (hi:i≤l.length):(yo2 l i).length≤l.length*1020:=by
 have:=yk5 (l.take i) [] fun s hs=>h s (List.mem_of_mem_take hs)
 exact kU this (Nat.mul_le_mul_right _ (by rw [List.length_take];omega))
def crc1 (v:Nat):Nat:=if (v*2) &&& 16777216≠0 then (v*2) ^^^ 25578747 else v*2
def yrp:Nat→Nat→Nat
 | 0,v=>v
 | k+1,v=>yrp k (crc1 v)
def crcB (v:Nat) (b:UInt8):Nat:=yrp 8 (v ^^^ (b.toNat*65536))
def yh3 (v:Nat) (l:List UInt8):Nat:=l.foldl crcB v
theorem yqh (w:Nat):(w &&& 16777216≠0)↔w.testBit 24=true:=by
 have h:(16777216:Nat)=2 ^ 24:=by decide
 rw [h]
 constructor
 ·intro hne
  cases hb:w.testBit 24 with
  | true=>rfl
  | false=>
   exfalso
   apply hne
   apply Nat.eq_of_testBit_eq
   intro i
   rw [Nat.testBit_and,Nat.testBit_two_pow,Nat.zero_testBit]
   by_cases hi:24=i
   ·subst hi;simp [hb]
   ·simp [hi]
 ·intro hb h0
  have:(w &&& 2 ^ 24).testBit 24=true:=by rw [Nat.testBit_and,hb,Nat.testBit_two_pow];simp
  rw [h0] at this
  simp at this
theorem yh6 (w:Nat):w.testBit 24=decide (w / 16777216 % 2=1):=by
 have h:(16777216:Nat)=2 ^ 24:=by decide
 rw [Nat.testBit_eq_decide_div_mod_eq,h]
theorem crc1_lt {v:Nat} (h:v<16777216):crc1 v<16777216:=by
 unfold crc1
 split
 ·rename_i hb
  rw [yqh] at hb
  have h1:v*2<2 ^ 25:=by omega
  have h2:v*2 ^^^ 25578747<2 ^ 25:=Nat.xor_lt_two_pow h1 (by decide)
  have h3:(v*2 ^^^ 25578747).testBit 24=false:=by
   rw [Nat.testBit_xor,hb];decide
  rw [yh6] at h3
  simp at h3
  omega
 ·rename_i hb
  have:¬((v*2).testBit 24=true):=fun h=>hb ((yqh _).2 h)
  rw [yh6] at this
  simp at this
  omega
theorem ymv:∀(k:Nat) {v:Nat},v<16777216→yrp k v<16777216
 | 0,_,h=>h
 | k+1,_,h=>ymv k (crc1_lt h)
theorem yqc {v:Nat} (h:v<16777216) (b:UInt8):v ^^^ (b.toNat*65536)<16777216:=by
 have:=b.toNat_lt
 exact Nat.xor_lt_two_pow (n:=24) h (by omega)
theorem crcB_lt {v:Nat} (h:v<16777216) (b:UInt8):crcB v b<16777216:=ymv 8 (yqc h b)
theorem ymw:∀(l:List UInt8) {v:Nat},v<16777216→yh3 v l<16777216
 | [],_,h=>h
 | b::l,_,h=>ymw l (crcB_lt h b)
theorem yok (v:Nat) (l:List UInt8) (i:Nat) (h:i<l.length):yh3 v (l.take (i+1))=crcB (yh3 v (l.take i)) l[i]:=by
 unfold yh3
 rw [List.take_succ_eq_append_getElem h,List.foldl_append]
 rfl
theorem yoj (k:Nat) (v:Nat):yrp (k+1) v=crc1 (yrp k v):=by
 induction k generalizing v with
 | zero=>rfl
 | succ k ih=>rw [yrp,ih];rfl
def yt8 (v:Nat):List UInt8:=[UInt8.ofNat (v / 65536),UInt8.ofNat (v / 256),UInt8.ofNat v]
theorem ynf (v k:Nat):UInt8.ofNat (IntKind.u8.wrap ((v:Int).fdiv (k:Int))).toNat=UInt8.ofNat (v / k):=by
 rw [yp7,Int.fdiv_eq_ediv_of_nonneg _ (by omega)]
 have:((v:Int) / (k:Int) % 256).toNat=v / k % 256:=by
  rw [←Int.natCast_ediv];omega
 rw [this]
 apply UInt8.toNat_inj.1
 simp
theorem u8_all (v:Nat):UInt8.ofNat (IntKind.u8.wrap (v:Int)).toNat=UInt8.ofNat v:=by
 have:=ynf v 1
 simpa using this
abbrev Fact:=Str × List Str
def fcs (f:Fact):List V:=[.s f.1,ss f.2]
def IdxInv (l:List Str) (x:Str) (H:Hp) (m:Nat) (F:Fr) (H':Hp):Prop:=
 ∃i,i≤l.length∧m=l.length-i∧x∉l.take i∧H'=H∧F=[(0,ss l),(1,.s x),(7,.i .i64 l.length),(8,.i .i64 i)]
theorem Index_ok (l:List Str) (x:Str) (hl:l.length≤9223372036854775807) (H:Hp):AC Tryz.prog y7t [ss l,.s x] H (fun v H'=>v=.i .i64 (yka l x)∧H'=H):=by
 refine AC.code yx.at yx.ok ?_
 simp only [yx]
 apply jA
 simp [yx.r0]
 apply jB
 simp [yx.r1,ss]
 refine AX.pblock (AX.loop (IdxInv l x H) l.length ⟨_,_,.refl _ _,0,by omega,by omega,by simp,rfl,rfl⟩ ?_)
 rintro m F H' ⟨i,hi,rfl,hx,rfl,rfl⟩
 simp only [yx.l0]
 apply jA
 simp [yx.r2]
 refine AX.seq (AX.pcond rfl (fun hc=>AX.skip ?_) (fun hc=>AX.exit ?_))
 ·simp at hc
  simp
  apply jC
  simp [yx.r3]
  apply jA
  simp [yx.r4,ss,hc]
  refine AX.pcond rfl (fun hd=>?_) (fun hd=>AX.skip ?_)
  ·simp at hd
   apply jA
   simp [yx.r5]
   apply jD
   simp
   exact (yps (by rw [kB hc,hd]) hx).symm
  simp at hd
  simp
  apply jE
  simp [yx.r6,y4d hc hl]
  refine ⟨l.length-(i+1),by omega,_,_,.refl _ _,i+1,by omega,rfl,?_,rfl,by simp [ss]⟩
  rw [kI,kB hc]
  intro hm
  rcases List.mem_append.1 hm with hm | hm
  ·exact hx hm
  ·simp at hm;exact hd hm
 simp at hc
 rw [kH hc] at hx
 have h1:=yej.2 hx
 have h2:=ypr l x
 simp
 apply jA
 simp [yx.r7]
 apply jD
 simp;omega
theorem numV_in (l:List Str) (x:Str):(0≤yka l x)=(x∈l):=by
 have h2:=ypr l x
 refine propext ⟨fun h=>ki fun hc=>by have:=yej.2 hc;omega,fun h=>?_⟩
 rcases Int.lt_or_le (yka l x) 0 with h3 | h3
 ·exact absurd h (yej.1 h3)
 ·exact h3
theorem yqr (l:List Str) (x:Str) (hl:l.length≤9223372036854775807) (H:Hp):AC Tryz.prog y7b [ss l,.s x] H (fun v H'=>v=.b (decide (x∈l))∧H'=H):=by
 refine AC.code y39.at y39.ok ?_
 simp only [y39]
 apply jA
 simp [y39.r0]
 apply jA
 simp [y39.r1]
 refine AC.fix (Index_ok l x hl _) ?_
 simp [numV_in]
 apply jD
 simp
@[simp] theorem fcs_len (f:Fact):(fcs f).length=2:=rfl
@[simp] theorem fcs_take (f:Fact):(fcs f).take 2=fcs f:=rfl
def ypz {α:Type} (p:α→Bool):List α→Int
 | []=>-1
 | y::r=>if p y then 0 else if ypz p r<0 then -1 else ypz p r+1
theorem yi3 {α:Type} {p:α→Bool} {l:List α} (h:l.find? p=none):ypz p l=-1:=by
 induction l with
 | nil=>rfl
 | cons y r ih=>
  simp only [List.find?_cons] at h
  cases hp:p y with
  | true=>rw [hp] at h;cases h
  | false=>rw [hp] at h;simp [ypz,hp,ih h]
theorem yvh {α:Type} {p:α→Bool} {l:List α} {i:Nat} {x:α} (h:l[i]?=some x) (hp:p x=true) (hn:(l.take i).find? p=none):ypz p l=i:=by
 induction l generalizing i with
 | nil=>simp at h
 | cons y r ih=>
  cases i with
  | zero=>simp at h;subst h;simp [ypz,hp]
  | succ i=>
   simp only [List.getElem?_cons_succ] at h
   simp only [List.take_succ_cons,List.find?_cons] at hn
   cases hy:p y with
   | true=>rw [hy] at hn;cases hn
   | false=>
    rw [hy] at hn
    have:=ih h hn
    simp only [ypz,hy,this]
    simp
theorem yvo {α:Type} {p:α→Bool} {l:List α} {x:α} (h:l.find? p=some x):∃i:Nat,i<l.length∧l[i]?=some x∧ypz p l=i:=by
 induction l with
 | nil=>cases h
 | cons y r ih=>
  simp only [List.find?_cons] at h
  cases hp:p y with
  | true=>rw [hp] at h;injection h with h;subst h;exact ⟨0,by simp,rfl,by simp [ypz,hp]⟩
  | false=>
   rw [hp] at h
   obtain ⟨i,h1,h2,h3⟩:=ih h
   exact ⟨i+1,by simp;omega,by simpa using h2,by simp only [ypz,hp,h3];simp⟩
def IdxGInv (l:List Str) (g:V) (p:Str→Bool) (H:Hp) (m:Nat) (F:Fr) (H':Hp):Prop:=
 ∃i,i≤l.length∧m=l.length-i∧(l.take i).find? p=none∧H'=H∧F=[(0,ss l),(1,g),(7,.i .i64 l.length),(8,.i .i64 i)]
theorem ynb (l:List Str) (f:Go.FuncId) (caps:List V) (p:Str→Bool) (hl:l.length≤9223372036854775807) (H:Hp) (hf:∀x∈l,AC Tryz.prog f (.s x::caps) H (fun v H'=>v=.b (p x)∧H'=H)):
  AC Tryz.prog y72 [ss l,.fn f caps] H (fun v H'=>v=.i .i64 (ypz p l)∧H'=H):=by
 refine AC.code yq.at yq.ok ?_
 simp only [yq]
 apply jA
 simp [yq.r0]
 apply jB
 simp [yq.r1,ss]
 refine AX.pblock (AX.loop (IdxGInv l (.fn f caps) p H) l.length ⟨_,_,.refl _ _,0,by omega,by omega,by simp,rfl,rfl⟩ ?_)
 rintro m F H' ⟨i,hi,rfl,hx,rfl,rfl⟩
 simp only [yq.l0]
 apply jA
 simp [yq.r2]
 refine AX.seq (AX.pcond rfl (fun hc=>AX.skip ?_) (fun hc=>AX.exit ?_))
 ·simp at hc
  simp
  apply jC
  simp [yq.r3]
  apply jA
  simp [yq.r4,ss,hc]
  refine AC.fix (hf _ (kK hc)) ?_
  simp
  refine AX.pcond rfl (fun hd=>?_) (fun hd=>AX.skip ?_)
  ·apply jA
   simp [yq.r5]
   apply jD
   simp
   exact (yvh (kB hc) hd hx).symm
  simp
  apply jE
  simp [yq.r6,y4d hc hl]
  refine ⟨l.length-(i+1),by omega,_,_,.refl _ _,i+1,by omega,rfl,?_,rfl,by simp [ss]⟩
  rw [kI,kB hc,List.find?_append,hx]
  simp [hd]
 simp at hc
 rw [kH hc] at hx
 simp
 apply jA
 simp [yq.r7]
 apply jD
 simp [yi3 hx]
theorem yeb (l:List Str) (f:Go.FuncId) (caps:List V) (p:Str→Bool) (hl:l.length≤9223372036854775807) (H:Hp) (hf:∀x∈l,AC Tryz.prog f (.s x::caps) H (fun v H'=>v=.b (p x)∧H'=H)):
  AC Tryz.prog y5n [ss l,.fn f caps] H (fun v H'=>v=.b (l.any p)∧H'=H):=by
 refine AC.code y2w.at y2w.ok ?_
 simp only [y2w]
 apply jA
 simp [y2w.r0]
 apply jA
 simp [y2w.r1]
 refine AC.fix (ynb l f caps p hl _ hf) ?_
 simp
 apply jD
 have e:decide (0≤ypz p l)=l.any p:=by
  cases hf:l.find? p with
  | none=>
   rw [yi3 hf]
   have:l.any p=false:=by rw [List.any_eq_false];intro x hx;exact List.find?_eq_none.1 hf x hx
   rw [this];rfl
  | some x=>
   obtain ⟨i,h1,h2,h3⟩:=yvo hf
   rw [h3]
   have:l.any p=true:=List.any_eq_true.2 ⟨x,List.mem_of_find?_eq_some hf,List.find?_some hf⟩
   rw [this];simp
 simp [e]
def elV (ag:Bool) (cs:List V):V:=if ag then .agg cs else cs.headD .junk
theorem one_el {ag:Bool} {cs:List V} {sz:Nat} (h1:cs.length=sz) (h2:ag=false→sz=1):one ag cs=some (elV ag cs):=by
 cases ag with
 | true=>simp [elV]
 | false=>
  have:=h2 rfl
  match cs,h1 with
  | [v],_=>simp [elV]
  | [],h=>simp at h;omega
  | _::_::_,h=>simp at h;omega
def yhi.r0:List AStep:=[⟨some 4,none,.op (.mov (.c (.i .i64 0)))⟩]
def yhi.r1:List AStep:=[ab 6 0,az 7 6,ai 8 0]
def yhi.r2:List AStep:=[⟨some 9,none,.op (.bin .lss (.t 8) (.t 7))⟩]
def yhi.r3:List AStep:=[⟨some 10,none,.op (.mov (.t 8))⟩,⟨some 5,none,.op (.mov (.t 10))⟩]
def yhi.r4 (sz:Nat) (ag:Bool):List AStep:=[ab 11 1,ab 12 0,ab 13 5,⟨some 14,none,.op (.iad sz (.t 12) (.t 13))⟩,⟨some 15,none,.op (.load ag sz (.t 14))⟩,a1o 16 11 15]
def yhi.r5:List AStep:=[⟨some 17,none,.op (.mov (.t 5))⟩,⟨some 4,none,.op (.mov (.t 17))⟩]
def yhi.r6:List AStep:=[⟨some 18,none,.op (.bin .add (.t 8) (.c (.i .i64 1)))⟩,⟨some 8,none,.op (.mov (.t 18))⟩]
def yhi.r7:List AStep:=[⟨some 4,none,.op (.mov (.c (.i .i64 (-1))))⟩]
def yhi.l0 (sz:Nat) (ag:Bool):ACode:=.seq (.post [0,1,7,8,9] (.region yhi.r2)) (.seq (.post [0,1,7,8] (.cond (.t 9) (.skip) (.exit 0))) (.seq (.post [0,1,7,8] (.block 1 (.seq (.post [0,1,5,7,8] (.region yhi.r3)) (.seq (.post [0,1,5,7,8,16] (.region (yhi.r4 sz ag))) (.post [0,1,7,8] (.cond (.t 16) (.seq (.post [4] (.region yhi.r5)) (.ret)) (.skip))))))) (.post [0,1,7,8] (.region yhi.r6))))
def yhi (sz:Nat) (ag:Bool):AFunc:=⟨19,[.t 4],.seq (.post [0,1] (.region yhi.r0)) (.seq (.seq (.post [0,1,7,8] (.region yhi.r1)) (.post [] (.block 0 (.loop (yhi.l0 sz ag))))) (.seq (.post [4] (.region yhi.r7)) (.ret)))⟩
section
variable {α:Type}
def IdxAInv (es:List (List V)) (g:V) (p:α→Bool) (l:List α) (H:Hp) (m:Nat) (F:Fr) (H':Hp):Prop:=
 ∃i,i≤l.length∧m=l.length-i∧(l.take i).find? p=none∧H'=H∧F=[(0,.fs es),(1,g),(7,.i .i64 l.length),(8,.i .i64 i)]
theorem yvi {fid:Go.FuncId} {fn:Go.Func} {sz:Nat} {ag:Bool} (hf:Tryz.prog.funcs[fid]?=some fn) (hok:y1x Tryz.prog fn (yhi sz ag)=true) (l:List α) (enc:α→List V) (he:∀x∈l,(enc x).length=sz) (ha:ag=false→sz=1) (f:Go.FuncId) (caps:List V) (p:α→Bool)
  (hl:l.length≤9223372036854775807) (H:Hp) (hc:∀x∈l,AC Tryz.prog f (elV ag (enc x)::caps) H (fun v H'=>v=.b (p x)∧H'=H)):
  AC Tryz.prog fid [.fs (l.map enc),.fn f caps] H (fun v H'=>v=.i .i64 (ypz p l)∧H'=H):=by
 refine AC.code hf hok ?_
 simp only [yhi]
 apply jA
 simp [yhi.r0]
 apply jB
 simp [yhi.r1]
 refine AX.pblock (AX.loop (IdxAInv (l.map enc) (.fn f caps) p l H) l.length ⟨_,_,.refl _ _,0,by omega,by omega,by simp,rfl,rfl⟩ ?_)
 rintro m F H' ⟨i,hi,rfl,hx,rfl,rfl⟩
 simp only [yhi.l0]
 apply jA
 simp [yhi.r2]
 refine AX.seq (AX.pcond rfl (fun hd=>AX.skip ?_) (fun hd=>AX.exit ?_))
 ·simp at hd
  simp
  have hg:l[i]?=some l[i]:=kB hd
  have hm:=kK hd
  have h1:=he _ hm
  have h2:=hc _ hm
  have h3:=one_el h1 ha
  have htk:List.take sz (enc l[i])=enc l[i]:=kH (by omega)
  apply jC
  simp [yhi.r3]
  apply jA
  simp [yhi.r4,hd,hg,h1,htk,h3,-one]
  refine AC.fix h2 ?_
  simp
  refine AX.pcond rfl (fun hb=>?_) (fun hb=>AX.skip ?_)
  ·apply jA
   simp [yhi.r5]
   apply jD
   simp
   exact (yvh hg hb hx).symm
  simp
  apply jE
  simp [yhi.r6,y4d hd hl]
  refine ⟨l.length-(i+1),by omega,_,_,.refl _ _,i+1,by omega,rfl,?_,rfl,by simp⟩
  rw [kI,hg,List.find?_append,hx]
  simp [hb]
 simp at hd
 rw [kH hd] at hx
 simp
 apply jA
 simp [yhi.r7]
 apply jD
 simp [yi3 hx]
def conF.r0:List AStep:=[⟨some 4,none,.op (.mov (.c (.b false)))⟩]
def conF.r1 (ix:Go.FuncId):List AStep:=[ab 5 0,ab 6 1,⟨some 7,none,.call ix [.t 5,.t 6]⟩,a1m 8 7 0,ab 4 8]
def conF (ix:Go.FuncId):AFunc:=⟨9,[.t 4],.seq (.post [0,1] (.region conF.r0)) (.seq (.post [4] (.region (conF.r1 ix))) (.ret))⟩
theorem idxP_any (p:α→Bool) (l:List α):decide (0≤ypz p l)=l.any p:=by
 cases hf:l.find? p with
 | none=>
  rw [yi3 hf]
  have:l.any p=false:=by rw [List.any_eq_false];intro x hx;exact List.find?_eq_none.1 hf x hx
  rw [this];rfl
 | some x=>
  obtain ⟨i,h1,h2,h3⟩:=yvo hf
  rw [h3]
  have:l.any p=true:=List.any_eq_true.2 ⟨x,List.mem_of_find?_eq_some hf,List.find?_some hf⟩
  rw [this];simp
theorem yw8 {fid ix:Go.FuncId} {fn:Go.Func} (hf:Tryz.prog.funcs[fid]?=some fn) (hok:y1x Tryz.prog fn (conF ix)=true) {a g:V} {p:α→Bool} {l:List α} {H:Hp}
  (h:AC Tryz.prog ix [a,g] H (fun v H'=>v=.i .i64 (ypz p l)∧H'=H)):AC Tryz.prog fid [a,g] H (fun v H'=>v=.b (l.any p)∧H'=H):=by
 refine AC.code hf hok ?_
 simp only [conF]
 apply jA
 simp [conF.r0]
 apply jA
 simp [conF.r1]
 refine AC.fix h ?_
 simp
 apply jD
 simp [idxP_any]
end
end Go.Proofs.YthmkcebbeehbeaaGreatDoor
