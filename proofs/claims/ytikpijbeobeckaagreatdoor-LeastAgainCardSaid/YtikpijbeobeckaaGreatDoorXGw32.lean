/- Part 32. -/
import Derived.Test.YtikpijbeobeckaaGreatDoorXGw26
import Derived.Test.YtikpijbeobeckaaGreatDoorXGw31
set_option linter.unusedSimpArgs false
set_option linter.unusedVariables false
namespace Go.Proofs.YtikpijbeobeckaaGreatDoor
open Am C
def ypy (bs:List Bk) (n:Nat):List Bk:=match bs[yb8 bs (n / 64)]? with
 | some x=>if x.1=n / 64 then bs.set (yb8 bs (n / 64)) (x.1,x.2 ||| 2 ^ (n % 64)) else bs.take (yb8 bs (n / 64))++(n / 64,2 ^ (n % 64))::bs.drop (yb8 bs (n / 64))
 | none=>bs.take (yb8 bs (n / 64))++(n / 64,2 ^ (n % 64))::bs.drop (yb8 bs (n / 64))
theorem pow64 (n:Nat):0<2 ^ (n % 64)∧2 ^ (n % 64)<18446744073709551616:=⟨Nat.two_pow_pos _,by
 have:2 ^ (n % 64)<2 ^ 64:=Nat.pow_lt_pow_right (by omega) (by omega)
 exact this⟩
theorem yg5 (n j:Nat):(2 ^ (n % 64)).testBit (j % 64)=decide (n % 64=j % 64):=by rw [Nat.testBit_two_pow]
theorem yfk {bs:List Bk} (h:OkB bs) {a:Nat} {x:Bk} (hx:x∈bs) (e:x.1=a):bs[yb8 bs a]?=some x:=by
 obtain ⟨j,hj⟩:=List.mem_iff_getElem?.1 hx
 have h1:=yfj h a j x hj
 have hjl:=(List.getElem?_eq_some_iff.1 hj).1
 have h2:¬j<yb8 bs a:=fun hl=>by have:=h1.2 hl;omega
 rcases Nat.lt_or_ge (yb8 bs a) j with h3 | h3
 ·have hp:bs[yb8 bs a]?=some bs[yb8 bs a]:=kC (by omega)
  have h4:=yfj h a _ _ hp
  have:=List.pairwise_iff_getElem.1 h.rise (yb8 bs a) j (by omega) hjl h3
  rw [(List.getElem?_eq_some_iff.1 hj).2] at this
  omega
 ·rw [show yb8 bs a=j by omega];exact hj
theorem ypx {bs:List Bk} (h:OkB bs) {n:Nat} (hn:n≤268435456):OkB (ypy bs n)∧∀k,k∈elB (ypy bs n)↔k=n∨k∈elB bs:=by
 have hp:=pow64 n
 have hle:=yi6 bs (n / 64)
 obtain ⟨p,ep⟩:∃p,p=yb8 bs (n / 64):=⟨_,rfl⟩
 have hlt:=fun j x hj=>yfj h (n / 64) j x hj
 rw [←ep] at hle
 simp only [←ep] at hlt
 have ins:(∀x,bs[p]?=some x→x.1≠n / 64)→OkB (bs.take p++(n / 64,2 ^ (n % 64))::bs.drop p)∧∀k,k∈elB (bs.take p++(n / 64,2 ^ (n % 64))::bs.drop p)↔k=n∨k∈elB bs:=fun hne=>by
  have hlo:∀x∈bs.take p,x.1<n / 64:=fun x hx=>by
   obtain ⟨j,hj⟩:=List.mem_iff_getElem?.1 hx
   rw [kj] at hj
   split at hj
   ·rename_i hjp;exact (hlt j x hj).2 hjp
   ·cases hj
  have hhi:∀x∈bs.drop p,n / 64<x.1:=fun x hx=>by
   obtain ⟨j,hj⟩:=List.mem_iff_getElem?.1 hx
   rw [List.getElem?_drop] at hj
   have h1:¬x.1<n / 64:=fun hl=>by have:=(hlt _ x hj).1 hl;omega
   have h2:x.1≠n / 64:=fun e=>by
    have:=yfk h (kY hj) e
    rw [←ep] at this
    exact hne x this e
   omega
  refine ⟨⟨?_,fun x hx=>?_⟩,fun k=>?_⟩
  ·rw [List.pairwise_append]
   refine ⟨h.rise.sublist (List.take_sublist _ _),List.pairwise_cons.2 ⟨fun y hy=>hhi y hy,h.rise.sublist (List.drop_sublist _ _)⟩,fun x hx y hy=>?_⟩
   rcases List.mem_cons.1 hy with rfl | hy
   ·exact hlo x hx
   ·exact Nat.lt_trans (hlo x hx) (hhi y hy)
  ·simp only [kZ,kK] at hx
   rcases hx with hx | rfl | hx
   ·exact h.bit x (List.mem_of_mem_take hx)
   ·exact ⟨hp.1,hp.2,by simp only;omega⟩
   ·exact h.bit x (List.mem_of_mem_drop hx)
  ·rw [ya7,ya7]
   constructor
   ·rintro ⟨x,hx,h1,h2⟩
    simp only [kZ,kK] at hx
    rcases hx with hx | rfl | hx
    ·exact .inr ⟨x,List.mem_of_mem_take hx,h1,h2⟩
    ·simp only at h1 h2
     rw [yg5] at h2
     simp at h2
     left;omega
    ·exact .inr ⟨x,List.mem_of_mem_drop hx,h1,h2⟩
   ·rintro (rfl | ⟨x,hx,h1,h2⟩)
    ·exact ⟨(k / 64,2 ^ (k % 64)),by simp,rfl,by simp only;rw [yg5];simp⟩
    ·refine ⟨x,?_,h1,h2⟩
     rw [←List.take_append_drop p bs] at hx
     simp only [kZ,kK] at hx ⊢
     rcases hx with hx | hx
     ·exact .inl hx
     ·exact .inr (.inr hx)
 unfold ypy
 rw [←ep]
 split
 ·rename_i x hx
  by_cases e:x.1=n / 64
  ·rw [if_pos e]
   have hpl:=(List.getElem?_eq_some_iff.1 hx).1
   have hxm:=kY hx
   have hxb:=h.bit x hxm
   have hset:bs.set p (x.1,x.2 ||| 2 ^ (n % 64))=bs.take p++(x.1,x.2 ||| 2 ^ (n % 64))::bs.drop (p+1):=by
    rw [List.set_eq_take_append_cons_drop,if_pos hpl]
   have hsp:bs=bs.take p++x::bs.drop (p+1):=by
    conv=>lhs;rw [←List.take_append_drop p bs,kP hpl,(List.getElem?_eq_some_iff.1 hx).2]
   have hr:=h.rise
   rw [hsp,List.pairwise_append,kf] at hr
   refine ⟨⟨?_,fun y hy=>?_⟩,fun k=>?_⟩
   ·rw [hset,List.pairwise_append,kf]
    refine ⟨hr.1,⟨fun y hy=>hr.2.1.1 y hy,hr.2.1.2⟩,fun a ha y hy=>?_⟩
    rcases List.mem_cons.1 hy with rfl | hy
    ·exact hr.2.2 a ha x (by simp)
    ·exact hr.2.2 a ha y (by simp [hy])
   ·rw [hset] at hy
    simp only [kZ,kK] at hy
    rcases hy with hy | rfl | hy
    ·exact h.bit y (List.mem_of_mem_take hy)
    ·refine ⟨?_,yi8 hxb.2.1 hp.2,hxb.2.2⟩
     have:x.2≤x.2 ||| 2 ^ (n % 64):=Nat.left_le_or
     simp only;omega
    ·exact h.bit y (List.mem_of_mem_drop hy)
   ·rw [ya7,ya7,hset]
    constructor
    ·rintro ⟨y,hy,h1,h2⟩
     simp only [kZ,kK] at hy
     rcases hy with hy | rfl | hy
     ·exact .inr ⟨y,List.mem_of_mem_take hy,h1,h2⟩
     ·simp only at h1 h2
      rw [Nat.testBit_or,yg5,Bool.or_eq_true] at h2
      rcases h2 with h2 | h2
      ·exact .inr ⟨x,hxm,h1,h2⟩
      ·simp at h2;left;omega
     ·exact .inr ⟨y,List.mem_of_mem_drop hy,h1,h2⟩
    ·rintro (rfl | ⟨y,hy,h1,h2⟩)
     ·refine ⟨(x.1,x.2 ||| 2 ^ (k % 64)),by simp,e,?_⟩
      simp only
      rw [Nat.testBit_or,yg5];simp
     ·by_cases ey:y=x
      ·subst ey
       refine ⟨(y.1,y.2 ||| 2 ^ (n % 64)),by simp,h1,?_⟩
       simp only
       rw [Nat.testBit_or,h2];rfl
      ·refine ⟨y,?_,h1,h2⟩
       rw [hsp] at hy
       simp only [kZ,kK] at hy ⊢
       rcases hy with hy | hy | hy
       ·exact .inl hy
       ·exact absurd hy ey
       ·exact .inr (.inr hy)
  ·rw [if_neg e]
   exact ins fun y hy=>by rw [hx] at hy;injection hy with hy;subst hy;exact e
 ·rename_i hx
  exact ins fun y hy=>by rw [hx] at hy;cases hy
theorem Hp.del_lt {H:Hp} (hl:Hp.Lt H) (b:Nat):Hp.Lt (H.del b):=fun k blk h=>by
 simp only [Hp.del] at h ⊢
 split at h
 ·cases h
 ·exact hl k blk h
def yd3 (X:Hp) (v:V) (bs:List Bk) (b:Nat):Prop:=(bs=[]∧∃z,v=.sl none 0 z)∨(v=.sl (some (b,0,(y6q bs).length)) bs.length 2∧∃m,X.get b=some (.cells (y6q bs) m)∧m≤(y6q bs).length)
theorem yd3.row {X:Hp} {v:V} {bs:List Bk} {b:Nat} (h:yd3 X v bs b):RowB X v bs:=by
 rcases h with ⟨rfl,z,rfl⟩ | ⟨rfl,m,g,hm⟩
 ·exact .nil z
 ·exact .own g hm
theorem y78.at {n:Nat} {X:Hp} {v:V} {bs:List Bk} (h:y78 n X v bs):∃b,n≤b∧yd3 X v bs b:=by
 rcases h with ⟨rfl,z,rfl⟩ | ⟨id,m,h1,rfl,g,hm⟩
 ·exact ⟨n,kG _,.inl ⟨rfl,z,rfl⟩⟩
 ·exact ⟨id,h1,.inr ⟨rfl,m,g,hm⟩⟩
theorem bkcs_ins (bs:List Bk) (p:Nat) (y:Bk):yih (y6q bs) (p*2) (bkc y)=y6q (bs.take p++y::bs.drop p):=by
 have h1:∀(bs:List Bk) p,(y6q bs).take (p*2)=y6q (bs.take p)∧(y6q bs).drop (p*2)=y6q (bs.drop p):=by
  intro bs
  induction bs with
  | nil=>intro p;simp [y6q]
  | cons a r ih=>
   intro p
   cases p with
   | zero=>simp [y6q]
   | succ p=>
    obtain ⟨i1,i2⟩:=ih p
    have e:y6q (a::r)=bkc a++y6q r:=rfl
    rw [e,show (p+1)*2=2+p*2 by omega]
    have la:(bkc a).length=2:=rfl
    constructor
    ·rw [List.take_append,la,show 2+p*2-2=p*2 by omega,i1,kI (by rw [la];omega)];rfl
    ·rw [List.drop_append,la,show 2+p*2-2=p*2 by omega,i2,List.drop_of_length_le (by rw [la];omega)];rfl
 unfold yih
 rw [(h1 bs p).1,(h1 bs p).2]
 simp [y6q]
theorem bkcs_set (bs:List Bk) (p:Nat) (y:Bk) (x:Bk) (hx:bs[p]?=some x) (e:y.1=x.1):(y6q bs).set (p*2+1) (.i .u64 (y.2:Nat))=y6q (bs.set p y):=by
 induction bs generalizing p with
 | nil=>simp at hx
 | cons a r ih=>
  have ea:y6q (a::r)=.i .i64 (a.1:Nat)::.i .u64 (a.2:Nat)::y6q r:=rfl
  cases p with
  | zero=>
   simp at hx;subst hx
   rw [ea]
   simp [y6q,bkc,e]
  | succ p=>
   simp at hx
   have:=ih p hx
   rw [ea,show (p+1)*2+1=(p*2+1)+1+1 by omega,List.set_cons_succ,List.set_cons_succ,this]
   rfl
set_option maxHeartbeats 1000000 in
theorem BAdd_ok (id off m b n:Nat) (cs:List V) (v:V) (bs:List Bk) (H:Hp) (hlt:Hp.Lt H) (hn:n≤268435456) (hb:OkB bs) (hg:H.get id=some (.cells cs m)) (hm:m≤cs.length) (hv:cs[off]?=some v) (ho:yd3 H v bs b) (hbne:b≠id):
  AC Tryz.prog y8x [.p (some (id,off,cs.length)),.i .i64 (n:Nat)] H (fun r X=>r=.b (decide (n∉elB bs))∧Hp.Lt X∧H.next≤X.next∧∃v' b' m',X.get id=some (.cells (cs.set off v') m')∧m'≤cs.length∧yd3 X v' (ypy bs n) b'∧(b'=b∨H.next≤b')∧
   ∀k blk,k≠id→(k=b→∃z,v=.sl none 0 z)→H.get k=some blk→X.get k=some blk):=by
 have hl:=(List.getElem?_eq_some_iff.1 hv).1
 have hid:=hlt _ _ hg
 have hp2:=pow64 n
 have hbl:=hb.len
 have hple:=yi6 bs (n / 64)
 have hset:cs.set off v=cs:=by
  have:=(List.getElem?_eq_some_iff.1 hv).2
  rw [←this];exact List.set_getElem_self hl
 have e1:¬((n:Int) % 64<0):=by omega
 have e2:Go.IntKind.i64.wrap ((n:Int) / 64)=((n / 64:Nat):Int):=by rw [wrap_i64 (by omega) (by omega)];omega
 have e3:min ((n:Int) % 64).toNat 64=n % 64:=by omega
 have e4:Go.IntKind.u64.wrap ((2:Int) ^ (n % 64))=((2 ^ (n % 64):Nat):Int):=by
  rw [show ((2:Int) ^ (n % 64))=((2 ^ (n % 64):Nat):Int) by simp,ygd hp2.2]
 refine AC.code y1g.at y1g.ok ?_
 simp only [y1g]
 apply jA
 simp [y1g.r0]
 refine AX.seq (AX.test false [(0,.p (some (id,off,cs.length))),(1,.i .i64 (n:Nat)),(18,.b false)] ?_ rfl (fun h=>by simp at h) (fun _=>AX.skip ?_))
 ·simp [y1g.r1,show ¬(n:Int)<0 by omega,show ¬(268435456:Int)<(n:Int) by omega]
 simp
 obtain ⟨q,hq⟩:∃q,q=2 ^ (n % 64):=⟨_,rfl⟩
 rw [←hq] at hp2 e4
 refine AX.stp [(0,.p (some (id,off,cs.length))),(1,.i .i64 (n:Nat)),(5,.i .u64 (q:Nat))] ?_ ?_
 ·simp [y1g.r3,e1,e3,e4]
  rw [Int.tmod_eq_emod_of_nonneg (by omega),e3,e4,if_neg e1]
  simp
 apply jA
 simp [y1g.r4,e2]
 refine AC.fix (BFind_ok id off m cs v bs (n / 64) (by omega) H hg hm hv ho.row hb) ?_
 obtain ⟨p,hp⟩:∃p,p=yb8 bs (n / 64):=⟨_,rfl⟩
 rw [←hp] at hple ⊢
 obtain ⟨A1,A2⟩:=ypx hb hn
 by_cases hth:∃x,bs[p]?=some x∧x.1=n / 64
 ·obtain ⟨x,hx,hxa⟩:=hth
  have hxb:=hb.bit x (kY hx)
  have hpl:=(List.getElem?_eq_some_iff.1 hx).1
  have ea:ypy bs n=bs.set p (x.1,x.2 ||| q):=by unfold ypy;rw [←hp,hx];simp only;rw [if_pos hxa,hq]
  have hd:decide (∃x,bs[p]?=some x∧x.1=n / 64)=true:=decide_eq_true ⟨x,hx,hxa⟩
  rw [hd]
  rcases ho with ⟨rfl,_⟩ | ⟨rfl,mb,gb,hmb⟩
  ·simp at hx
  have hbl2:=y8p bs
  have hbid:=hlt _ _ gb
  have hat:=ypf hx
  have h1:((y6q bs).drop (p*2+1)).take 1=[.i .u64 (x.2:Nat)]:=by
   have:((y6q bs).drop (p*2+1)).take 1=(((y6q bs).drop (p*2)).take 2).drop 1:=by
    rw [List.drop_take,List.drop_drop]
   rw [this,hat];rfl
  simp
  refine AX.seq (AX.test false [(0,.p (some (id,off,cs.length))),(1,.i .i64 (n:Nat)),(5,.i .u64 (q:Nat)),(6,.i .i64 (p:Nat)),(30,.b false)] ?_ rfl (fun h=>by simp at h) (fun _=>AX.skip ?_))
  ·simp [y1g.r5]
  simp
  have h2:p*2+1<(y6q bs).length:=by omega
  have h3:(y6q bs).length=bs.length*2:=hbl2
  apply jA
  simp [y1g.r8,hg,hm,y53 hv,show off+1≤cs.length by omega,gb,hmb,hpl,h1,show p*2+1+1≤(y6q bs).length by omega]
  apply jA
  simp [y1g.r9,hg,hm,y53 hv,show off+1≤cs.length by omega,gb,hmb,hpl,h1,show p*2+1+1≤(y6q bs).length by omega,bOr64 hxb.2.1 hp2.2]
  apply jA
  simp [y1g.r10,yea hxb.2.1 hp2.2]
  apply jD
  have hset':=bkcs_set bs p (x.1,x.2 ||| q) x hx rfl
  simp only at hset'
  have hfl:decide ((x.2 &&& q)=0)=!decide (n∈elB bs):=by
   have:(x.2 &&& q)=0↔n∉elB bs:=by
    have hm1:n∈elB bs↔x.2.testBit (n % 64)=true:=by
     rw [ya7]
     constructor
     ·rintro ⟨y,hy,h1,h2⟩
      have:=yfk hb hy h1
      rw [←hp,hx] at this
      injection this with this;subst this;exact h2
     ·intro h;exact ⟨x,kY hx,hxa,h⟩
    rw [hm1,hq]
    constructor
    ·intro h h2
     have:=congrArg (fun y=>y.testBit (n % 64)) h
     simp [Nat.testBit_and,h2] at this
    ·intro h
     refine Nat.eq_of_testBit_eq fun j=>?_
     rw [Nat.testBit_and,Nat.testBit_two_pow,Nat.zero_testBit]
     by_cases e:n % 64=j
     ·subst e;simpa using h
     ·simp [e]
   by_cases e:n∈elB bs
   ·have:¬(x.2 &&& q)=0:=fun h=>this.1 h e
    simp [e,this]
   ·have:=this.2 e
    simp [e,this]
  simp [hfl,hset']
  refine ⟨Hp.upd_lt hlt hbid _,.sl (some (b,0,(y6q bs).length)) bs.length 2,b,m,by rw [if_neg (Ne.symm hbne),hset,hg],hm,?_,.inl rfl,fun k blk h1 h2 h3=>by rw [if_neg h2];exact h3⟩
  rw [ea]
  have hl2:(y6q (bs.set p (x.1,x.2 ||| q))).length=(y6q bs).length:=by rw [y8p,y8p,List.length_set]
  exact .inr ⟨by rw [hl2,List.length_set],(y6q bs).length,by simp,by rw [hl2];exact kG _⟩
 ·have hd:decide (∃x,bs[p]?=some x∧x.1=n / 64)=false:=decide_eq_false hth
  rw [hd]
  have ea:ypy bs n=bs.take p++(n / 64,q)::bs.drop p:=by
   unfold ypy
   rw [←hp,hq]
   split
   ·rename_i x hx
    rw [if_neg fun e=>hth ⟨x,hx,e⟩]
   ·rfl
  have hnin:n∉elB bs:=fun h=>by
   obtain ⟨y,hy,h1,_⟩:=ya7.1 h
   exact hth ⟨y,by rw [hp];exact yfk hb hy h1,h1⟩
  simp
  refine AX.seq (AX.test true [(0,.p (some (id,off,cs.length))),(1,.i .i64 (n:Nat)),(5,.i .u64 (q:Nat)),(6,.i .i64 (p:Nat)),(30,.b true)] ?_ rfl (fun _=>jA ?_) (fun h=>by simp at h))
  ·simp [y1g.r5]
  have hnl:(bkc (n / 64,q)).length=2:=rfl
  have hfin:∀(v':V) (X:Hp) (b':Nat),Hp.Lt X→H.next≤X.next→X.get id=some (.cells cs m)→yd3 X v' (bs.take p++(n / 64,q)::bs.drop p) b'→H.next≤b'→(∀k blk,k≠id→(k=b→∃z,v=.sl none 0 z)→H.get k=some blk→X.get k=some blk)→
    (Hp.Lt (X.upd id (.cells (cs.set off v') cs.length))∧H.next≤(X.upd id (.cells (cs.set off v') cs.length)).next∧∃v'' b'' m',(X.upd id (.cells (cs.set off v') cs.length)).get id=some (.cells (cs.set off v'') m')∧m'≤cs.length∧yd3 (X.upd id (.cells (cs.set off v') cs.length)) v'' (ypy bs n) b''∧(b''=b∨H.next≤b'')∧
     ∀k blk,k≠id→(k=b→∃z,v=.sl none 0 z)→H.get k=some blk→(X.upd id (.cells (cs.set off v') cs.length)).get k=some blk):=by
   intro v' X b' x1 x2 x3 x4 x5 x6
   refine ⟨Hp.upd_lt x1 (by omega) _,by simpa using x2,v',b',cs.length,by simp,kG _,?_,.inr x5,fun k blk h1 h2 h3=>by simp [h1];exact x6 k blk h1 h2 h3⟩
   rw [ea]
   rcases x4 with h | ⟨h1,mm,h2,h3⟩
   ·exact .inl h
   ·exact .inr ⟨h1,mm,by simp [show b'≠id by omega];exact h2,h3⟩
  have hl0:=Hp.add_lt hlt (.cells (bkc (n / 64,q)) 2)
  rcases ho with ⟨rfl,z,rfl⟩ | ⟨rfl,mb,gb,hmb⟩
  ·have hp0:p=0:=by simpa using hple
   subst hp0
   have hI:=InsB0_ok (bkc (n / 64,q)) H.next 2 z (yph _) rfl (H.add (.cells (bkc (n / 64,q)) 2)) (by simp)
   simp [y1g.r6,hg,hm,y53 hv,show off+1≤cs.length by omega,e2,y7x]
   refine AC.fix (by simpa [bkc] using hI) ?_
   simp [hg,show id≠H.next by omega,show id≠H.next+1 by omega]
   refine ⟨by omega,jA ?_⟩
   simp [y1g.r7]
   apply jD
   have:=hfin (.sl (some (H.next+1,0,2)) 1 2) ((H.add (.cells (bkc (n / 64,q)) 2)).add (.cells (bkc (n / 64,q)) 2)) (H.next+1) (Hp.add_lt hl0 _) (by simp;omega) (by simp [hg,show id≠H.next by omega,show id≠H.next+1 by omega]) (.inr ⟨by simp [y6q,bkc],2,by simp [y6q,bkc],by simp [y6q,bkc]⟩) (by omega) (fun k blk h1 h2 h3=>by
    have:=hlt _ _ h3
    simp [show k≠H.next by omega,show k≠H.next+1 by omega,h3])
   simp [hnin]
   simpa [bkc] using this
  ·have hbl2:=y8p bs
   have hbid:=hlt _ _ gb
   have hI:=InsB_ok (y6q bs) (bkc (n / 64,q)) bs.length p b H.next mb 2 (bkcs_all bs) (yph _) rfl hbl2 (by omega) hple (by omega) (H.add (.cells (bkc (n / 64,q)) 2)) (by simp [gb,show b≠H.next by omega]) (by simp)
   rw [bkcs_ins] at hI
   simp [y1g.r6,hg,hm,y53 hv,show off+1≤cs.length by omega,e2,y7x]
   refine AC.fix (by simpa [bkc] using hI) ?_
   have dg:∀k,k≠b→k≠H.next→k≠H.next+1→(((H.add (.cells (bkc (n / 64,q)) 2)).del b).add (.cells (y6q (bs.take p++(n / 64,q)::bs.drop p)) ((y6q bs).length+2))).get k=H.get k:=fun k h1 h2 h3=>by simp [Hp.del,h1,h2,h3]
   have g1:=dg id (Ne.symm hbne) (by omega) (by omega)
   simp [bkc] at g1
   simp [g1,hg]
   refine ⟨by omega,jA ?_⟩
   simp [y1g.r7]
   apply jD
   have hLl:(y6q (bs.take p++(n / 64,q)::bs.drop p)).length=(y6q bs).length+2:=by rw [y8p,y8p];simp;omega
   have hNl:(bs.take p++(n / 64,q)::bs.drop p).length=bs.length+1:=by simp;omega
   have:=hfin (.sl (some (H.next+1,0,(y6q bs).length+2)) (bs.length+1) 2) (((H.add (.cells (bkc (n / 64,q)) 2)).del b).add (.cells (y6q (bs.take p++(n / 64,q)::bs.drop p)) ((y6q bs).length+2))) (H.next+1) (Hp.add_lt (Hp.del_lt hl0 b) _) (by simp [Hp.del];omega) ((dg id (Ne.symm hbne) (by omega) (by omega)).trans hg) (.inr ⟨by rw [hLl,hNl],(y6q bs).length+2,by simp [Hp.del],by rw [hLl];exact kG _⟩) (by omega) (fun k blk h1 h2 h3=>by
    have:=hlt _ _ h3
    by_cases hkb:k=b
    ·obtain ⟨z,hz⟩:=h2 hkb;cases hz
    ·exact (dg k hkb (by omega) (by omega)).trans h3)
   simp [hnin]
   simpa [bkc] using this
structure TabG (H:Hp) (tv ov:V) (idt ido:Nat) (ts:List Str) (os:List Nat):Prop where
 t:yiy H (tcs ts) tv idt
 o:yiy H (nc os) ov ido
 len:os.length=ts.length
 all:∀n∈os,n<ts.length
 big:ts.length≤1000000000
 ris:y3o (y79 ts os)
 nod:ts.Nodup∧∀x∈ts,x∈y79 ts os
theorem ykw (n:Nat) (x y:Str) (bx id off idt:Nat) (cs:List V) (m m2 mt:Nat) (ts:List Str) (H:Hp) (hb:H.get bx=some (.cells [.p (some (id,off,cs.length))] m)) (hm:m≤1) (hi:H.get id=some (.cells cs m2)) (hm2:m2≤cs.length)
  (hv:cs[off]?=some (.sl (some (idt,0,ts.length)) ts.length 1)) (ht:H.get idt=some (.cells (tcs ts) mt)) (hmt:mt≤ts.length) (hn:ts[n]?=some y) (hl:ts.length≤1000000000):AC Tryz.prog y4a [.i .i64 (n:Nat),.s x,.p (some (bx,0,1))] H (fun v H'=>v=.i .i64 (y7v y x)∧H'=H):=by
 have hnl:=(List.getElem?_eq_some_iff.1 hn).1
 have hol:=(List.getElem?_eq_some_iff.1 hv).1
 refine AC.code y1z.at y1z.ok ?_
 simp only [y1z]
 apply jA
 simp [y1z.r0]
 apply jA
 have ht1:((tcs ts).drop n).take 1=[.s y]:=y9a (by simp [tcs,hn])
 simp [y1z.r1,hb,hm,hi,hm2,ht,hmt,hnl,ht1,show n+1≤ts.length by omega,y53 hv,show off+1≤cs.length by omega]
 refine AC.fix (y7n _ _ _) ?_
 simp
 apply jD
 simp
theorem yna (id off idt ido m:Nat) (cs:List V) (tv ov:V) (ts:List Str) (os:List Nat) (x:Str) (H:Hp) (hi:H.get id=some (.cells cs m)) (hm:m≤cs.length) (h0:cs[off]?=some tv) (h1:cs[off+1]?=some ov) (T:TabG H tv ov idt ido ts os):
  AC Tryz.prog y4o [.p (some (id,off,cs.length)),.s x] H (fun v H'=>v=.tup [.i .i64 (yaw (y79 ts os) x:Nat),.b (decide (x∈y79 ts os))]∧H'=H):=by
 have hR:y3o (y79 ts os):=T.ris
 have hRl:(y79 ts os).length=os.length:=by simp [y79]
 have hfr:y9w (.tup [.i .i64 (yaw (y79 ts os) x:Nat),.b (decide (x∈y79 ts os))]):=by simp
 have hol:=(List.getElem?_eq_some_iff.1 h1).1
 refine AC.codeP y22.at y22.ok hfr fun hlt=>?_
 have ht:=T.t
 have ho:=T.o
 have hil:=hlt _ _ hi
 simp only [y22]
 apply jA
 simp [y22.r0]
 apply jA
 have hi':(H.add (.cells [.p (some (id,off,cs.length))] 1)).get id=some (.cells cs m):=(Hp.Ext.add hlt _).2 _ _ hi
 simp [y22.r1,hi,hm,show id≠H.next by omega,y53 h1,show off+1+1≤cs.length by omega]
 rcases ho with ⟨e,z,rfl⟩ | ⟨hne,rfl,mo,go,hmo⟩
 ·have e0:os=[]:=by simpa [nc] using e
  subst e0
  refine AC.fix (BSF0_ok x z _ _ _) ?_
  simp
  apply jD
  simp [y79,yaw]
  exact ⟨.add hlt _,.refl _⟩
 ·have hne':os≠[]:=by simpa [nc] using hne
  have hol2:(nc os).length=os.length:=by simp [nc]
  rw [hol2] at hmo ⊢
  rcases ht with ⟨e,z,rfl⟩ | ⟨hnt,rfl,mt,gt,hmt⟩
  ·have e0:ts=[]:=by simpa [tcs] using e
   have:=T.len
   rw [e0] at this
   exact absurd (List.length_eq_zero_iff.1 this) hne'
  have htl:(tcs ts).length=ts.length:=by simp [tcs]
  rw [htl] at hmt h0
  refine AC.fix (BSF_ok os x ido mo _ _ (fun j=>y7v ((y79 ts os).getD j []) x) (yaw (y79 ts os) x) _ hne' ((Hp.Ext.add hlt _).2 _ _ go) hmo (by have:=T.len;have:=T.big;omega) (by have:=yn7 (y79 ts os) x;omega) (fun j hj=>?_) (fun j n hn=>?_)) ?_
  ·have hj':(y79 ts os)[j]?=some (y79 ts os)[j]:=kC (by omega)
   have:=yi5 hR x j _ hj'
   rw [yp1,kQ,hj',Option.getD_some,this];simp
  ·have hnl:=T.all n (kY hn)
   have e1:(y79 ts os).getD j []=ts[n]:=by
    rw [kQ];simp [y79,hn,hnl]
   rw [e1]
   exact ykw n x ts[n] H.next id off idt cs 1 m mt ts _ (by simp) (by omega) hi' hm h0 ((Hp.Ext.add hlt _).2 _ _ gt) hmt (kC hnl) T.big
  simp
  apply jD
  have ef:decide (yaw (y79 ts os) x<os.length∧y7v ((y79 ts os).getD (yaw (y79 ts os) x) []) x=0)=decide (x∈y79 ts os):=by
   apply decide_eq_decide.2
   rw [cmp_zero,yfi hR x]
   constructor
   ·rintro ⟨h1,h2⟩
    rw [kC (by omega)]
    rw [kQ,kC (by omega)] at h2
    simpa using h2
   ·intro h
    have h1:=(List.getElem?_eq_some_iff.1 h).1
    exact ⟨by omega,by rw [kQ,h];rfl⟩
  rw [Bool.decide_and] at ef
  rw [kQ] at ef
  simp [ef]
  exact ⟨.add hlt _,.refl _⟩
def ynk (ts:List Str) (os:List Nat) (x:Str):Nat:=if x∈y79 ts os then os.getD (yaw (y79 ts os) x) 0 else ts.length
theorem TabG.num {H:Hp} {tv ov:V} {idt ido:Nat} {ts:List Str} {os:List Nat} (T:TabG H tv ov idt ido ts os) (x:Str):(ycq ts os x)[ynk ts os x]?=some x:=by
 unfold ycq ynk
 have hpm:=yfi T.ris x
 by_cases hx:x∈y79 ts os
 ·rw [if_pos hx,if_pos hx]
  have h:=hpm.1 hx
  obtain ⟨n,h1,h2⟩:∃n,os[yaw (y79 ts os) x]?=some n∧ts.getD n []=x:=by
   have h':=h
   rw [show ∀k,(y79 ts os)[k]?=(os[k]?).map (fun n=>ts.getD n []) from fun k=>by simp [y79]] at h'
   cases ho:os[yaw (y79 ts os) x]? with
   | none=>rw [ho] at h';cases h'
   | some n=>rw [ho] at h';injection h' with h';exact ⟨n,rfl,h'⟩
  rw [kQ,h1,Option.getD_some]
  have hl:=T.all n (kY h1)
  rw [kQ,kC hl,Option.getD_some] at h2
  rw [kC hl,h2]
 ·rw [if_neg hx,if_neg hx];simp
set_option maxHeartbeats 1000000 in
theorem PutG_ok (id off idt ido m:Nat) (cs:List V) (tv ov:V) (ts:List Str) (os:List Nat) (x:Str) (H:Hp) (hlt:Hp.Lt H) (hbig:ts.length≤1000000) (hi:H.get id=some (.cells cs m)) (hm:m≤cs.length) (h0:cs[off]?=some tv) (h1:cs[off+1]?=some ov) (T:TabG H tv ov idt ido ts os)
  (hd:ts≠[]→id≠idt∧id≠ido):
  AC Tryz.prog y4y [.p (some (id,off,cs.length)),.s x] H (fun v X=>v=.tup [.i .i64 (ynk ts os x:Nat),.b (decide (x∉y79 ts os))]∧Hp.Lt X∧H.next≤X.next∧∃tv' ov' idt' ido' m',X.get id=some (.cells ((cs.set off tv').set (off+1) ov') m')∧m'≤cs.length∧TabG X tv' ov' idt' ido' (ycq ts os x) (putO ts os x)∧
   (ts≠[]∧idt'=idt∨H.next≤idt')∧(ts≠[]∧ido'=ido∨H.next≤ido')∧∀k blk,k≠id→(ts≠[]→k≠idt∧k≠ido)→H.get k=some blk→X.get k=some blk):=by
 have hR:y3o (y79 ts os):=T.ris
 have hRl:(y79 ts os).length=os.length:=by simp [y79]
 have hpl:=yn7 (y79 ts os) x
 have hpm:=yfi hR x
 have hTl:=T.len
 have ht:=T.t
 have ho:=T.o
 have hol:=(List.getElem?_eq_some_iff.1 h1).1
 have hil:=hlt _ _ hi
 have t0:=y53 h0
 have t1:=y53 h1
 have hs0:cs.set off tv=cs:=by
  have:=(List.getElem?_eq_some_iff.1 h0).2
  rw [←this];exact List.set_getElem_self _
 have hs1:cs.set (off+1) ov=cs:=by
  have:=(List.getElem?_eq_some_iff.1 h1).2
  rw [←this];exact List.set_getElem_self _
 refine AC.code yy.at yy.ok ?_
 simp only [yy]
 apply jA
 simp [yy.r0]
 apply jA
 simp [yy.r1]
 refine AC.fix (yna id off idt ido m cs tv ov ts os x H hi hm h0 h1 T) ?_
 obtain ⟨p,hp⟩:∃p,p=yaw (y79 ts os) x:=⟨_,rfl⟩
 rw [←hp] at hpl hpm ⊢
 simp
 apply jB
 simp [yy.r2]
 by_cases hx:x∈y79 ts os
 ·refine jG (by simp [hx]) (jA ?_)
  have hpos:=(List.getElem?_eq_some_iff.1 (hpm.1 hx)).1
  have hte:ts≠[]:=fun e=>by
   rw [e] at hTl
   rw [List.length_eq_zero_iff.1 hTl] at hpos;simp [y79] at hpos
  rcases ho with ⟨e,z,rfl⟩ | ⟨hne,rfl,mo,go,hmo⟩
  ·have e0:os=[]:=by simpa [nc] using e
   subst e0;simp [y79] at hx
  have hol2:(nc os).length=os.length:=by simp [nc]
  rw [hol2] at hmo t1 h1 hs1
  obtain ⟨n,hn⟩:∃n,os[p]?=some n:=⟨_,kC (by omega)⟩
  have hld:((nc os).drop p).take 1=[.i .i64 (n:Nat)]:=y9a (by simp [nc,hn])
  have hnum:ynk ts os x=n:=by unfold ynk;rw [if_pos hx,←hp,kQ,hn];rfl
  simp [yy.r3,hi,hm,t1,show off+1+1≤cs.length by omega,go,hmo,hld,show p<os.length by omega,show p+1≤os.length by omega]
  apply jD
  simp [ycq,putO,hx,hnum]
  refine ⟨hlt,tv,_,idt,ido,m,by rw [hs0,hs1];exact hi,hm,⟨ht,.inr ⟨hne,by rw [hol2],mo,go,by rw [hol2];exact hmo⟩,T.len,T.all,T.big,T.ris,T.nod⟩,.inl ⟨hte,rfl⟩,.inl ⟨hte,rfl⟩⟩
 refine jF (by simp [hx]) (AX.skip ?_)
 simp
 have hput:ycq ts os x=ts++[x]:=by unfold ycq;rw [if_neg hx]
 have hpuo:putO ts os x=yem os p ts.length:=by unfold putO;rw [if_neg hx,hp]
 have hnum:ynk ts os x=ts.length:=by unfold ynk;rw [if_neg hx]
 rw [hput,hpuo,hnum]
 have hfin:∀(H':Hp) (idt' ido':Nat),(∃m',H'.get idt'=some (.cells (tcs (ts++[x])) m')∧m'≤ts.length+1)→(∃m',H'.get ido'=some (.cells (nc (yem os p ts.length)) m')∧m'≤ts.length+1)→
   TabG H' (.sl (some (idt',0,ts.length+1)) (ts.length+1) 1) (.sl (some (ido',0,ts.length+1)) (ts.length+1) 1) idt' ido' (ts++[x]) (yem os p ts.length):=by
  rintro H' idt' ido' ⟨m3,h3,h4⟩ ⟨m5,h5,h6⟩
  have l1:(tcs (ts++[x])).length=ts.length+1:=by simp [tcs]
  have l2:(nc (yem os p ts.length)).length=ts.length+1:=by simp [nc,yfu (show p≤os.length by omega)];exact hTl
  refine ⟨.inr ⟨by simp [tcs],by rw [l1],m3,h3,by rw [l1];exact h4⟩,.inr ⟨by simp [nc,yem],by rw [l2],m5,h5,by rw [l2];exact h6⟩,?_,fun n hn=>?_,?_,?_,?_⟩
  ·rw [yfu (show p≤os.length by omega)];simp [hTl]
  ·simp only [yem,kZ,kK] at hn
   simp only [kT,kO,List.length_nil]
   rcases hn with hn | rfl | hn
   ·have:=T.all n (List.mem_of_mem_take hn);omega
   ·omega
   ·have:=T.all n (List.mem_of_mem_drop hn);omega
  ·simp;omega
  ·have:=yn5 T.all hx
   rw [←hp] at this
   rw [this]
   have h7:=y8n hR x
   rw [yo0 hR,if_neg hx,←hp] at h7
   exact h7
  ·have h8:=yn5 T.all hx
   rw [←hp] at h8
   rw [h8]
   have hin:∀y,y∈y79 ts os→y∈(y79 ts os).take p++x::(y79 ts os).drop p:=fun y hy=>by
    rw [←List.take_append_drop p (y79 ts os)] at hy
    simp only [kZ,kK] at hy ⊢
    exact hy.elim .inl fun h=>.inr (.inr h)
   refine ⟨List.nodup_append.2 ⟨T.nod.1,by simp,fun a ha b hb e=>?_⟩,fun y hy=>?_⟩
   ·simp at hb;subst hb;subst e
    exact hx (T.nod.2 _ ha)
   ·simp only [kZ,List.mem_singleton] at hy
    rcases hy with hy | rfl
    ·exact hin y (T.nod.2 y hy)
    ·simp
 have k1:∀v:V,(cs.set off v).length=cs.length:=fun v=>List.length_set
 have k2:∀v:V,(cs.set off v)[off+1]?=some ov:=fun v=>by rw [List.getElem?_set_ne (by omega),h1]
 have k3:∀v:V,((cs.set off v).drop (off+1)).take 1=[ov]:=fun v=>y9a (k2 v)
 by_cases he:ts=[]
 ·subst he
  have he2:os=[]:=List.length_eq_zero_iff.1 hTl
  subst he2
  have hp0:p=0:=by
              have h0:(y79 [] []).length=0:=rfl
              omega
  subst hp0
  obtain ⟨z,rfl⟩:∃z,tv=.sl none 0 z:=ht.elim (fun h=>h.2) (fun h=>absurd rfl h.1)
  obtain ⟨z2,rfl⟩:∃z,ov=.sl none 0 z:=ho.elim (fun h=>h.2) (fun h=>absurd rfl h.1)
  apply jA
  simp [yy.r4,hi,hm,t0,show off+1≤cs.length by omega]
  apply jA
  have e1:y28 H 1 16 (.sl none 0 z) (.fs [[.s x]])=some (.sl (some (H.next,0,1)) 1 1,H.add (.cells [.s x] 1)):=by simp [y28,y4e,y4x]
  simp [yy.r5,hi,hm,t0,y7x,-y28,e1,show id≠H.next by omega,show off+1≤cs.length by omega]
  apply jA
  simp [yy.r6,hm,y7x,show id≠H.next by omega,show id≠H.next+1 by omega,k3,hol,show off+1+1≤cs.length by omega]
  refine AC.fix (ylp 0 (H.next+1) 1 z2 _ (by simp)) ?_
  simp [hm,show id≠H.next by omega,show id≠H.next+1 by omega,show id≠H.next+1+1 by omega,y7x,show off+1+1≤cs.length by omega]
  apply jA
  simp [yy.r7]
  apply jD
  simp [hx]
  refine ⟨Hp.upd_lt (Hp.add_lt (Hp.add_lt (Hp.upd_lt (Hp.add_lt hlt _) (by simp;omega) _) _) _) (by simp;omega) _,by omega,_,_,H.next,H.next+1+1,cs.length,by simp,by omega,hfin _ _ _ ⟨1,by simp [tcs,show H.next≠id by omega,show H.next≠H.next+1+1 by omega],by simp⟩ ⟨1,by simp [yem,show H.next+1+1≠id by omega],by simp⟩,by omega,by omega,fun k blk h1 h=>?_⟩
  have hk:=hlt _ _ h
  simp [h1,show k≠H.next by omega,show k≠H.next+1 by omega,show k≠H.next+1+1 by omega]
  exact h
 ·have hoe:os≠[]:=fun h=>he (List.length_eq_zero_iff.1 (by rw [←hTl,h];rfl))
  obtain ⟨d1,d2⟩:=hd he
  obtain ⟨rfl,mt,gt,hmt⟩:tv=.sl (some (idt,0,ts.length)) ts.length 1∧∃m,H.get idt=some (.cells (tcs ts) m)∧m≤ts.length:=by
   rcases ht with ⟨e,_⟩ | ⟨_,h,mt,gt,hmt⟩
   ·exact absurd (by simpa [tcs] using e) he
   ·have:(tcs ts).length=ts.length:=by simp [tcs]
    rw [this] at h hmt
    exact ⟨h,mt,gt,hmt⟩
  obtain ⟨rfl,mo,go,hmo⟩:ov=.sl (some (ido,0,os.length)) os.length 1∧∃m,H.get ido=some (.cells (nc os) m)∧m≤os.length:=by
   rcases ho with ⟨e,_⟩ | ⟨_,h,mo,go,hmo⟩
   ·exact absurd (by simpa [nc] using e) hoe
   ·have:(nc os).length=os.length:=by simp [nc]
    rw [this] at h hmo
    exact ⟨h,mo,go,hmo⟩
  have d3:idt≠ido:=fun e=>by
   rw [e,go] at gt;injection gt with gt;injection gt with gt
   cases ts with
   | nil=>exact he rfl
   | cons a r=>cases os with
    | nil=>exact hoe rfl
    | cons b q=>simp [tcs,nc] at gt
  have l1:=hlt _ _ gt
  have l2:=hlt _ _ go
  apply jA
  simp [yy.r4,hi,hm,t0,show off+1≤cs.length by omega]
  apply jA
  have e1:y28 H 1 16 (.sl (some (idt,0,ts.length)) ts.length 1) (.fs [[.s x]])=some (.sl (some (idt,0,ts.length+1)) (ts.length+1) 1,H.upd idt (.cells (tcs ts++[.s x]) mt)):=by
   have:(tcs ts).length=ts.length:=by simp [tcs]
   simp [y28,y4e,y4x,gt,this,y3w]
   omega
  simp [yy.r5,hi,hm,y7x,-y28,e1,d1,t0,show off+1≤cs.length by omega]
  have g5:∀w,((H.upd idt (.cells (tcs ts++[.s x]) mt)).upd id w).get ido=some (.cells (nc os) mo):=fun w=>by
   simp [Ne.symm d2,Ne.symm d3,go]
  apply jA
  simp [yy.r6,hm,y7x,k3,hol,show off+1+1≤cs.length by omega]
  refine AC.fix (yq5 os p ts.length ido H.next mo 1 (by omega) (by omega) (by omega) _ ?_ (by simp)) ?_
  ·rw [show ∀b w,(((H.upd idt (.cells (tcs ts++[.s x]) mt)).upd id w).add b).get ido=((H.upd idt (.cells (tcs ts++[.s x]) mt)).upd id w).get ido from fun b w=>by simp [show ido≠H.next by omega]]
   exact g5 _
  simp [Hp.del,d2,show id≠H.next by omega,show id≠H.next+1 by omega,hTl,y7x,show off+1+1≤cs.length by omega]
  apply jA
  simp [yy.r7]
  apply jD
  simp [hx]
  refine ⟨fun k blk h=>?_,by omega,_,_,idt,H.next+1,cs.length,by simp,by omega,hfin _ _ _ ⟨mt,?_,by omega⟩ ⟨ts.length+1,?_,by omega⟩,.inl ⟨he,rfl⟩,.inr (by omega),fun k blk h1 h2 h=>?_⟩
  ·by_cases k1:k=id
   ·simp;omega
   ·by_cases k2:k=H.next+1
    ·simp;omega
    ·by_cases k3:k=H.next
     ·simp;omega
     ·by_cases k4:k=idt
      ·simp;omega
      ·by_cases k5:k=ido
       ·simp;omega
       ·simp [k1,k2,k3,k4,k5] at h
        have:=hlt _ _ h
        simp;omega
  ·simp [Ne.symm d1,show idt≠H.next+1 by omega,d3,show idt≠H.next by omega,tcs]
  ·simp [show H.next+1≠id by omega]
  ·have hk:=hlt _ _ h
   have h4:=h2 he
   simp [h1,h4.1,h4.2,show k≠H.next by omega,show k≠H.next+1 by omega]
   exact h
theorem TabG.ne {H:Hp} {tv ov:V} {idt ido:Nat} {ts:List Str} {os:List Nat} (T:TabG H tv ov idt ido ts os) (h:ts≠[]):idt≠ido:=fun e=>by
 have hos:os≠[]:=fun h0=>h (List.length_eq_zero_iff.1 (by rw [←T.len,h0];rfl))
 rcases T.t with ⟨e1,_⟩ | ⟨_,_,m1,g1,_⟩
 ·exact h (by simpa [tcs] using e1)
 rcases T.o with ⟨e1,_⟩ | ⟨_,_,m2,g2,_⟩
 ·exact hos (by simpa [nc] using e1)
 rw [e,g2] at g1
 injection g1 with g1;injection g1 with g1
 cases ts with
 | nil=>exact h rfl
 | cons a r=>cases os with
  | nil=>exact hos rfl
  | cons b q=>simp [tcs,nc] at g1
theorem TabG.lts {H:Hp} {tv ov:V} {idt ido:Nat} {ts:List Str} {os:List Nat} (T:TabG H tv ov idt ido ts os) (h:ts≠[]) (hl:Hp.Lt H):idt<H.next∧ido<H.next:=by
 have hos:os≠[]:=fun h0=>h (List.length_eq_zero_iff.1 (by rw [←T.len,h0];rfl))
 rcases T.t with ⟨e1,_⟩ | ⟨_,_,m1,g1,_⟩
 ·exact absurd (by simpa [tcs] using e1) h
 rcases T.o with ⟨e1,_⟩ | ⟨_,_,m2,g2,_⟩
 ·exact absurd (by simpa [nc] using e1) hos
 exact ⟨hl _ _ g1,hl _ _ g2⟩
theorem AtG_ok (id off idt ido m n:Nat) (cs:List V) (tv ov:V) (ts:List Str) (os:List Nat) (x:Str) (H:Hp) (hi:H.get id=some (.cells cs m)) (hm:m≤cs.length) (h0:cs[off]?=some tv) (h1:cs[off+1]?=some ov) (T:TabG H tv ov idt ido ts os) (hx:ts[n]?=some x):
  AC Tryz.prog y58 [.p (some (id,off,cs.length)),.i .i64 (n:Nat)] H (fun v X=>v=.tup [.s x,.b true]∧X=H):=by
 have hnl:=(List.getElem?_eq_some_iff.1 hx).1
 have hol:=(List.getElem?_eq_some_iff.1 h1).1
 obtain ⟨rfl,mt,gt,hmt⟩:tv=.sl (some (idt,0,ts.length)) ts.length 1∧∃m,H.get idt=some (.cells (tcs ts) m)∧m≤ts.length:=by
  rcases T.t with ⟨e,_⟩ | ⟨_,h,mt,gt,hmt⟩
  ·rw [show ts=[] by simpa [tcs] using e] at hx;cases hx
  ·have:(tcs ts).length=ts.length:=by simp [tcs]
   rw [this] at h hmt
   exact ⟨h,mt,gt,hmt⟩
 have t0:=y53 h0
 have ht1:((tcs ts).drop n).take 1=[.s x]:=y9a (by simp [tcs,hx])
 refine AC.code y1o.at y1o.ok ?_
 simp only [y1o]
 apply jA
 simp [y1o.r0]
 refine AX.seq (AX.test false [(0,.p (some (id,off,cs.length))),(1,.i .i64 (n:Nat)),(17,.b false)] ?_ rfl (fun h=>by simp at h) (fun _=>AX.skip ?_))
 ·simp [y1o.r1,hi,hm,t0,show off+1≤cs.length by omega,show ¬(n:Int)<0 by omega,show ¬ts.length≤n by omega]
 simp
 apply jA
 simp [y1o.r4,hi,hm,t0,show off+1≤cs.length by omega,gt,hmt,ht1,hnl,show n+1≤ts.length by omega]
 apply jD
 simp
def adB (c:Cn):Option Str:=if c.op=1 then some c.b else none
theorem ykv (s:Sy):y41 s=obP s true s.objs.length++s.fns.map Fu.name++s.cons.filterMap adB:=by
 unfold y41 obP
 rw [List.take_length,kW]
 rfl
end Go.Proofs.YtikpijbeobeckaaGreatDoor
