/- Part 29. -/
import Derived.Shelf.Spec.TrailingZeros
import Derived.Ground.Names7Prog
import Derived.Test.YtikpijbeobeckaaGreatDoorXGw17
import Derived.Test.YtikpijbeobeckaaGreatDoorXGw19
import Derived.Test.YtikpijbeobeckaaGreatDoorXGw20
import Derived.Test.YtikpijbeobeckaaGreatDoorXGw28
set_option linter.unusedSimpArgs false
set_option linter.unusedVariables false
namespace Go.Proofs
open Go.Shelf
def Tryz.lays7n29_ren:Go.Shelf.Ren:=⟨fun | 29=>164 | n=>n,fun | 22=>47 | 3=>3 | 4=>4 | 25=>155 | 54=>250 | 0=>0 | 5=>5 | n=>n,fun | 1=>1 | n=>n⟩
theorem Tryz.lays7n29:Go.Proofs.Lays7.n29 Tryz.prog Tryz.lays7n29_ren:={
 mixed:=by kernel_rfl
 f29:=Tryz.func164.trans (congrArg some (by kernel_rfl))
 t0:=Tryz.underlying0
 a0:=Tryz.isAgg0
 z0:=Tryz.sizeOf0
 v0:=Tryz.zeroValue0
 i0:=by kernel_rfl
 t3:=Tryz.underlying3
 a3:=Tryz.isAgg3
 z3:=Tryz.sizeOf3
 v3:=Tryz.zeroValue3
 i3:=by kernel_rfl
 t4:=Tryz.underlying4
 a4:=Tryz.isAgg4
 z4:=Tryz.sizeOf4
 v4:=Tryz.zeroValue4
 i4:=by kernel_rfl
 t5:=Tryz.underlying5
 a5:=Tryz.isAgg5
 z5:=Tryz.sizeOf5
 v5:=Tryz.zeroValue5
 i5:=by kernel_rfl
 t22:=Tryz.underlying47
 a22:=Tryz.isAgg47
 z22:=Tryz.sizeOf47
 v22:=Tryz.zeroValue47
 i22:=by kernel_rfl
 t25:=Tryz.underlying155
 a25:=Tryz.isAgg155
 z25:=Tryz.sizeOf155
 v25:=Tryz.zeroValue155
 i25:=by kernel_rfl
 t54:=Tryz.underlying250
 a54:=Tryz.isAgg250
 z54:=Tryz.sizeOf250
 g1:=by kernel_rfl }
end Go.Proofs
namespace Go.Proofs.YtikpijbeobeckaaGreatDoor
open Am C
theorem tz_tab {κ:K} {H:Hp} (S:Sim κ H):Go.Proofs.TabAt 1 Go.Lib.deBruijn64tab κ.w:=by
 obtain ⟨_,ty,fr,h⟩:=S.tb (TBs[1]'(by decide)) (kL _)
 have h':κ.w.heap[1]?=some (Go.Obj.cells (TBs[1]'(by decide)).2.toArray ty fr):=h
 intro j hj
 have e:(TBs[1]'(by decide)).2=Go.Lib.deBruijn64tab.map (fun k:Nat=>Go.Value.int .u8 (k:Int)):=rfl
 simp only [Go.World.cell?,h',e]
 simp [hj,kQ]
theorem Tz_ok (x:Nat) (hx:x<18446744073709551616) (h0:x≠0) (H:Hp):AC Tryz.prog y62 [.i .u64 (x:Nat)] H (fun v H'=>v=.i .i64 (Go.Lib.ctz 64 x:Nat)∧H'=H):=by
 refine AC.belowS (by kernel_rfl) fun κ cs S r=>?_
 obtain ⟨a,rfl,ra⟩:=r.one'
 obtain rfl:=yja ra
 refine ⟨_,fun κ'=>.i _ _,?_⟩
 refine (Go.Proofs.Any7.bits_TrailingZeros64 Tryz.lays7n29 x hx κ.w fun _=>tz_tab S).mono fun e w' ⟨he,hw⟩=>⟨he,?_⟩
 rw [hw];exact .refl _ _
def yip.r0:List AStep:=[⟨some 2,none,.op (.mov (.c (.sl none 0 0)))⟩]
def yip.r1:List AStep:=[⟨some 3,none,.op (.mov (.t 0))⟩,⟨some 4,none,.op (.nilq (.t 3))⟩]
def yip.r3 (sz bytes:Nat):List AStep:=[⟨some 5,none,.op (.bz sz)⟩,⟨some 6,none,.op (.mov (.t 0))⟩,⟨some 7,none,.op (.app sz bytes (.t 5) (.t 6))⟩,⟨some 2,none,.op (.mov (.t 7))⟩]
def yip (sz bytes:Nat):AFunc:=⟨8,[.t 2],.seq (.post [0] (.region yip.r0)) (.seq (.seq (.post [0,4] (.region yip.r1)) (.post [0] (.cond (.t 4) (.seq (.post [2] (.region yip.r0)) (.ret)) (.skip)))) (.seq (.post [2] (.region (yip.r3 sz bytes))) (.ret)))⟩
def LstV (H:Hp) (sz:Nat) (v:V) (es:List (List V)):Prop:=y4e H sz v=some (es.length,es.flatten)∧((es=[]∧∃z,v=.sl none 0 z)∨(∃a l s,v=.sl (some a) l s)∨v=.fs es)
theorem clnF_ok {fid:Go.FuncId} {fn:Go.Func} {sz bytes:Nat} (hf:Tryz.prog.funcs[fid]?=some fn) (hok:y25 Tryz.prog fn (yip sz bytes)=true) {v:V} {es:List (List V)} {H:Hp} (hv:LstV H sz v es)
  (hl:∀e∈es,e.length=sz) (hz:0<sz) (hc:es.flatten.all y3w=true) (hb:es.length*bytes≤y4x) (hfr:y9w (.fs es)):AC Tryz.prog fid [v] H (fun r H'=>r=.fs es∧H'=H):=by
 obtain ⟨hcs,hsh⟩:=hv
 refine AC.codeP hf hok hfr fun hlt=>?_
 simp only [yip]
 apply jA
 simp [yip.r0]
 have A0:Acc H sz (.sl none 0 sz) H []:=.nil sz sz (.refl _) hlt
 obtain ⟨v1,H1,e1,A1⟩:=A0.appC (bytes:=bytes) hlt hcs hl hz hc (by simpa using hb)
 have hsh':(es=[]∧((∃z,v=.sl none 0 z)∨v=.fs []))∨((∃a l s,v=.sl (some a) l s)∨∃e r,v=.fs (e::r)):=by
  rcases hsh with ⟨e,z,hz⟩ | h | h
  ·exact .inl ⟨e,.inl ⟨z,hz⟩⟩
  ·exact .inr (.inl h)
  ·cases hes:es with
   | nil=>exact .inl ⟨rfl,.inr (by rw [h,hes])⟩
   | cons a r=>exact .inr (.inr ⟨a,r,by rw [h,hes]⟩)
 rcases hsh' with ⟨e,h⟩ | h
 ·refine AX.seq (AX.stp [(0,v),(4,.jb)] ?_ ?_)
  ·rcases h with ⟨z,rfl⟩ | rfl <;> simp [yip.r1]
  refine AX.pcondJ rfl (jA ?_) (AX.skip ?_)
  ·simp
   apply jD
   simp
   rw [e]
   exact ⟨.refl _,.sl0 _⟩
  simp
  apply jA
  simp [yip.r3,-y28,e1]
  apply jD
  simp
  exact ⟨A1.ext,A1.frz⟩
 ·refine AX.seq (AX.stp [(0,v),(4,.b false)] ?_ ?_)
  ·rcases h with ⟨a,l,s,rfl⟩ | ⟨a,r,rfl⟩ <;> simp [yip.r1]
  refine jF rfl (AX.skip ?_)
  simp
  apply jA
  simp [yip.r3,-y28,e1]
  apply jD
  simp
  exact ⟨A1.ext,A1.frz⟩
def EachInv (x:Bk) (y:Nat) (J:Nat→Hp→Prop) (k0:Nat) (m:Nat) (F:Fr) (X:Hp):Prop:=
 ∃k left,k≤(y6i x.2).length∧m=(y6i x.2).length-k∧left<18446744073709551616∧y6i left=(y6i x.2).drop k∧J (k0+k) X∧F=[(1,.yl y),(2,.fp (bkc x) 0),(5,.i .u64 (left:Nat))]
theorem bEach_ok (x:Bk) (hx:x.2<18446744073709551616∧x.1≤4194304) (y:Nat) (stp:Nat→Hp→Hp) (J:Nat→Hp→Prop) (k0:Nat) (X0:Hp) (h0:J k0 X0)
  (hs:∀k X j,(y6i x.2)[k]?=some j→J (k0+k) X→J (k0+k+1) (stp (x.1*64+j) X)∧YC Tryz.prog y [.i .i64 ((x.1*64+j:Nat):Int)] X (fun v X'=>v=.b true∧X'=stp (x.1*64+j) X)):
  AC Tryz.prog y7i [.agg (bkc x),.yl y] X0 (fun v X'=>v=.b true∧J (k0+(y6i x.2).length) X'):=by
 refine AC.code y1j.at y1j.ok ?_
 simp only [y1j]
 apply jA
 simp [y1j.r0,bkc]
 apply jB
 simp [y1j.r1]
 refine AX.pblock (AX.loop (EachInv x y J k0) (y6i x.2).length ⟨_,_,.refl _ _,0,x.2,by omega,by omega,hx.1,by simp,h0,by simp [bkc]⟩ ?_)
 rintro m F X ⟨k,left,hk,rfl,hl,hb,hJ,rfl⟩
 simp only [y1j.l0]
 apply jB
 simp [y1j.r2]
 by_cases hz:left=0
 ·subst hz
  rw [yle] at hb
  have:(y6i x.2).length≤k:=by
   have:=congrArg List.length hb
   simp at this;omega
  have:k=(y6i x.2).length:=by omega
  subst this
  refine jF (by simp) (AX.exit ?_)
  simp
  apply jA
  simp [y1j.r6]
  apply jD
  simp
  exact hJ
 ·refine jG (by simp [hz]) (AX.skip ?_)
  simp
  have hlow:=ypi hz hl
  rw [hb] at hlow
  have hkl:k<(y6i x.2).length:=kg fun hn=>by
   rw [List.drop_eq_nil_of_le (by omega)] at hlow;cases hlow
  rw [kP hkl] at hlow
  injection hlow with e1 e2
  have hkj:(y6i x.2)[k]?=some (Go.Lib.ctz 64 left):=by rw [kC hkl,e1]
  have hj64:Go.Lib.ctz 64 left<64:=(ya8.1 (kY hkj)).1
  obtain ⟨s1,s2⟩:=hs k X _ hkj hJ
  refine AX.seq (AX.pblock (AX.seq (AX.drw ?_)))
  have w1:Go.IntKind.i64.wrap ((x.1:Int)*64)=((x.1*64:Nat):Int):=by rw [wrap_i64 (by omega) (by omega)];simp
  have w2:Go.IntKind.i64.wrap (((x.1*64:Nat):Int)+(Go.Lib.ctz 64 left:Int))=((x.1*64+Go.Lib.ctz 64 left:Nat):Int):=by rw [wrap_i64 (by omega) (by omega)];simp
  simp [y1j.r3,bkc]
  refine y32 _ (fun H2=>Tz_ok left hl hz H2) ?_
  simp [w1]
  rw [show ((x.1:Int)*64+(Go.Lib.ctz 64 left:Int))=((x.1*64:Nat):Int)+(Go.Lib.ctz 64 left:Int) by simp,w2]
  refine ⟨_,_,s2,?_⟩
  simp
  refine jF (by simp) (AX.skip ?_)
  simp
  apply jE
  have w3:Go.IntKind.u64.wrap ((left:Int)-1)=((left-1:Nat):Int):=by rw [y99 (by omega) (by omega)];omega
  simp [y1j.r5,w3,yea hl (show left-1<18446744073709551616 by omega)]
  exact ⟨(y6i x.2).length-(k+1),by omega,_,_,.refl _ _,k+1,left &&& (left-1),by omega,rfl,low_lt hl,e2.symm,s1,by simp [bkc]⟩
@[simp] theorem free_bk (bs:List Bk):y9w (.fs (bs.map bkc)):=y9j fun e he v hv=>by
 obtain ⟨x,_,rfl⟩:=List.mem_map.1 he
 simp [bkc] at hv
 rcases hv with rfl | rfl <;> simp
theorem clnBk.ok:y25 Tryz.prog Tryz.f113 (yip 2 16)=true:=by kernel_rfl
theorem RowB.cells {H:Hp} {v:V} {bs:List Bk} (h:RowB H v bs):LstV H 2 v (bs.map bkc):=by
 cases h with
 | nil z=>exact ⟨rfl,.inl ⟨rfl,z,rfl⟩⟩
 | row id off m cs bs g h1 h2 h3=>
  refine ⟨?_,.inr (.inl ⟨_,_,_,rfl⟩)⟩
  have:(cs.drop off).take (bs.length*2)=(bs.map bkc).flatten:=by
   clear g h1
   induction bs generalizing off with
   | nil=>simp
   | cons a r ih=>
    have ha:=h3 0 a rfl
    simp only [Nat.zero_mul,Nat.add_zero] at ha
    have:=ih (off+2) (by simp at h2;omega) (fun i x hx=>by
     have:=h3 (i+1) x (by simpa using hx)
     rwa [show off+(i+1)*2=off+2+i*2 by omega] at this)
    rw [List.map_cons,List.flatten_cons,←this,←ha,kO,show (r.length+1)*2=2+r.length*2 by omega,List.take_add,List.drop_drop]
  simp only [y4e,g]
  rw [if_pos ⟨trivial,h1,h2⟩,this,List.length_map]
theorem yqd (v:V) (bs:List Bk) (H:Hp) (hr:RowB H v bs) (hl:bs.length≤8000000):AC Tryz.prog y3q [v] H (fun r H'=>r=.fs (bs.map bkc)∧H'=H):=
 clnF_ok y1v.at clnBk.ok hr.cells (ypg bs) (by omega) (ype bs) (by simp [y4x];omega) (free_bk bs)
def EachKInv (bs:List Bk) (y:Nat) (J:Nat→Hp→Prop) (m:Nat) (F:Fr) (X:Hp):Prop:=
 ∃i,i≤bs.length∧m=bs.length-i∧J (elB (bs.take i)).length X∧F=[(0,.yl y),(7,.fs (bs.map bkc)),(8,.i .i64 bs.length),(9,.i .i64 i)]
theorem ykj (y bx id off m mb:Nat) (cs:List V) (v:V) (bs:List Bk) (stp:Nat→Hp→Hp) (J:Nat→Hp→Prop) (X0:Hp) (hb:OkB bs) (hbx:X0.get bx=some (.cells [.p (some (id,off,cs.length))] mb)) (hmb:mb≤1)
  (hg:X0.get id=some (.cells cs m)) (hm:m≤cs.length) (hv:cs[off]?=some v) (hr:RowB X0 v bs) (h0:J 0 X0) (hJ:∀k X b,J k X→J k (X.add b)) (hJ2:∀k X b c,J k X→J k ((X.add b).upd X.next c))
  (hs:∀k X n,(elB bs)[k]?=some n→J k X→J (k+1) (stp n X)∧YC Tryz.prog y [.i .i64 (n:Nat)] X (fun v X'=>v=.b true∧X'=stp n X)):
  AC Tryz.prog y43 [.yl y,.p (some (bx,0,1))] X0 (fun _ X'=>J (elB bs).length X'):=by
 have hbl:=hb.len
 refine AC.code y1u.at y1u.ok ?_
 simp only [y1u]
 apply jA
 simp [y1u.r0,hbx,hmb]
 refine AC.fix (yft id off m cs v X0 hg hm hv) ?_
 simp
 refine AC.fix (yqd v bs X0 hr (by omega)) ?_
 simp
 refine AX.pblock (AX.loop (EachKInv bs y J) bs.length ⟨_,_,.refl _ _,0,by omega,by omega,by simpa [elB] using h0,by simp⟩ ?_)
 rintro m' F X ⟨i,hi,rfl,hJi,rfl⟩
 simp only [y1u.l0]
 apply jA
 simp [y1u.r1]
 refine AX.seq (AX.pcond rfl (fun hc=>AX.skip ?_) (fun hc=>AX.exit ?_))
 ·simp at hc
  obtain ⟨x,hx1⟩:∃x,bs[i]?=some x:=⟨_,kC hc⟩
  have hxe:bs[i]=x:=(List.getElem?_eq_some_iff.1 hx1).2
  have hxb:=hb.bit x (kY hx1)
  have e1:=yk6 hx1
  have e2:(elB (bs.take (i+1))).length=(elB (bs.take i)).length+(y6i x.2).length:=by rw [e1];simp
  have e3:∀k j,(y6i x.2)[k]?=some j→(elB bs)[(elB (bs.take i)).length+k]?=some (x.1*64+j):=fun k j hj=>by
   have:elB bs=elB (bs.take (i+1))++elB (bs.drop (i+1)):=by
    unfold elB
    rw [←List.flatMap_append,List.take_append_drop]
   have hk:=(List.getElem?_eq_some_iff.1 hj).1
   rw [this,kR (by omega),e1,kX (by omega)]
   simp [hj]
  simp
  apply jC
  simp [y1u.r2,hc,hxe,bkc]
  apply jA
  simp [y1u.r3]
  have hea:=bEach_ok x ⟨hxb.2.1,hxb.2.2⟩ y stp J (elB (bs.take i)).length ((X.add (.cells [.i .i64 0,.i .u64 0] 2)).upd X.next (.cells [.i .i64 (x.1:Nat),.i .u64 (x.2:Nat)] 2)) (hJ2 _ _ _ _ hJi) fun k X2 j hj hJ'=>by
   have:=hs _ X2 _ (e3 k j hj) hJ'
   exact this
  refine hea.mono ?_
  rintro u X2 ⟨rfl,hJ3⟩
  simp
  refine jF rfl (AX.skip ?_)
  simp
  apply jE
  simp [y1u.r4,ybz (show i≤9223372036854775000 by omega)]
  exact ⟨bs.length-(i+1),by omega,_,_,.refl _ _,i+1,by omega,rfl,by rw [e2];exact hJ3,by simp⟩
 simp at hc
 have:i=bs.length:=by omega
 subst this
 rw [List.take_length] at hJi
 simp
 exact hJi
theorem yq9 (a:Option (Nat × Nat × Nat)) (H:Hp):AC Tryz.prog y72 [.p a] H (fun v H'=>v=.fn y43 [.p (some (H.next,0,1))]∧H'=H.add (.cells [.p a] 1)):=by
 refine AC.code y3a.at y3a.ok ?_
 simp only [y3a]
 apply jA
 simp [y3a.r0]
 apply jA
 simp [y3a.r1]
 apply jD
 simp
def y7a:List Bk→List Bk→List (Bk × Bk)
 | [],[]=>[]
 | x::a,[]=>(x,(x.1,0))::y7a a []
 | [],y::b=>((y.1,0),y)::y7a [] b
 | x::a,y::b=>if x.1<y.1 then (x,(x.1,0))::y7a a (y::b) else if y.1<x.1 then ((y.1,0),y)::y7a (x::a) b else (x,y)::y7a a b
 termination_by a b=>a.length+b.length
theorem ycg:∀(a b:List Bk),(y7a a b).length≤a.length+b.length
 | [],[]=>by simp [y7a]
 | x::a,[]=>by have:=ycg a [];simp [y7a] at this ⊢;omega
 | [],y::b=>by have:=ycg [] b;simp [y7a] at this ⊢;omega
 | x::a,y::b=>by
  rw [y7a]
  have h1:=ycg a (y::b)
  have h2:=ycg (x::a) b
  have h3:=ycg a b
  simp only [kO] at h1 h2 ⊢
  split
  ·simp;omega
  ·split
   ·simp;omega
   ·simp;omega
 termination_by a b=>a.length+b.length
def atB (bs:List Bk) (k:Nat):Nat:=((bs.find? fun x=>x.1 == k).map (·.2)).getD 0
theorem y4r (x:Bk) (bs:List Bk) (k:Nat):atB (x::bs) k=if x.1=k then x.2 else atB bs k:=by
 unfold atB
 rw [List.find?_cons]
 by_cases h:x.1=k
 ·simp [h]
 ·have:(x.1 == k)=false:=by simpa using h
  simp [h,this]
theorem ydh {bs:List Bk} {k:Nat} (h:∀x∈bs,x.1≠k):atB bs k=0:=by
 induction bs with
 | nil=>rfl
 | cons x r ih=>rw [y4r,if_neg (h x (by simp)),ih fun y hy=>h y (by simp [hy])]
theorem OkB.gt {x:Bk} {bs:List Bk} (h:OkB (x::bs)) {k:Nat} (hk:k≤x.1):∀y∈bs,y.1≠k:=fun y hy e=>by
 have:=(List.pairwise_cons.1 h.rise).1 y hy
 omega
theorem yic {bs:List Bk} (h:OkB bs) (n:Nat):n∈elB bs↔(atB bs (n / 64)).testBit (n % 64)=true:=by
 rw [ya7]
 induction bs with
 | nil=>simp [atB]
 | cons x r ih=>
  rw [y4r]
  by_cases e:x.1=n / 64
  ·rw [if_pos e]
   constructor
   ·rintro ⟨y,hy,h1,h2⟩
    rcases List.mem_cons.1 hy with rfl | hy
    ·exact h2
    ·exact absurd h1 (h.gt (by omega) y hy)
   ·intro hb;exact ⟨x,by simp,e,hb⟩
  ·rw [if_neg e,←ih h.tail]
   constructor
   ·rintro ⟨y,hy,h1,h2⟩
    rcases List.mem_cons.1 hy with rfl | hy
    ·exact absurd h1 e
    ·exact ⟨y,hy,h1,h2⟩
   ·rintro ⟨y,hy,h1,h2⟩;exact ⟨y,by simp [hy],h1,h2⟩
def yct (f:Nat→Nat→Nat) (l:List (Bk × Bk)):List Bk:=l.filterMap fun q=>if f q.1.2 q.2.2≠0 then some (q.1.1,f q.1.2 q.2.2) else none
theorem mkB_cons (f:Nat→Nat→Nat) (q:Bk × Bk) (l:List (Bk × Bk)):yct f (q::l)=(if f q.1.2 q.2.2≠0 then [(q.1.1,f q.1.2 q.2.2)] else [])++yct f l:=by
 unfold yct
 rw [List.filterMap_cons]
 by_cases h:f q.1.2 q.2.2≠0
 ·simp [h]
 ·simp [h]
theorem mkB_snoc (f:Nat→Nat→Nat) (q:Bk × Bk) (l:List (Bk × Bk)):yct f (l++[q])=yct f l++(if f q.1.2 q.2.2≠0 then [(q.1.1,f q.1.2 q.2.2)] else []):=by
 unfold yct
 rw [List.filterMap_append]
 by_cases h:f q.1.2 q.2.2≠0 <;> simp [h]
theorem ycs:∀(a b:List Bk),OkB a→OkB b→(y7a a b).Pairwise (fun p q=>p.1.1<q.1.1)∧∀q∈y7a a b,q.1.1=q.2.1∧((∃x∈a,x.1=q.1.1)∨∃y∈b,y.1=q.1.1)∧q.1.2=atB a q.1.1∧q.2.2=atB b q.1.1
 | [],[],_,_=>by simp [y7a]
 | x::a,[],ha,hb=>by
  have ih:=ycs a [] ha.tail hb
  rw [y7a]
  have hx:=(List.pairwise_cons.1 ha.rise).1
  refine ⟨List.pairwise_cons.2 ⟨fun q hq=>?_,ih.1⟩,fun q hq=>?_⟩
  ·rcases (ih.2 q hq).2.1 with ⟨y,hy,e⟩ | ⟨y,hy,_⟩
   ·rw [←e];exact hx y hy
   ·cases hy
  ·rcases List.mem_cons.1 hq with rfl | hq
   ·exact ⟨rfl,.inl ⟨x,by simp,rfl⟩,by rw [y4r,if_pos rfl],rfl⟩
   ·obtain ⟨h1,h2,h3,h4⟩:=ih.2 q hq
    refine ⟨h1,h2.imp (fun ⟨y,hy,e⟩=>⟨y,by simp [hy],e⟩) id,?_,h4⟩
    rcases h2 with ⟨y,hy,e⟩ | ⟨y,hy,_⟩
    ·have:=hx y hy
     rw [y4r,if_neg (by omega)];exact h3
    ·cases hy
 | [],y::b,ha,hb=>by
  have ih:=ycs [] b ha hb.tail
  rw [y7a]
  have hx:=(List.pairwise_cons.1 hb.rise).1
  refine ⟨List.pairwise_cons.2 ⟨fun q hq=>?_,ih.1⟩,fun q hq=>?_⟩
  ·rcases (ih.2 q hq).2.1 with ⟨z,hz,_⟩ | ⟨z,hz,e⟩
   ·cases hz
   ·rw [←e];exact hx z hz
  ·rcases List.mem_cons.1 hq with rfl | hq
   ·exact ⟨rfl,.inr ⟨y,by simp,rfl⟩,rfl,by rw [y4r,if_pos rfl]⟩
   ·obtain ⟨h1,h2,h3,h4⟩:=ih.2 q hq
    refine ⟨h1,h2.imp id (fun ⟨y,hy,e⟩=>⟨y,by simp [hy],e⟩),h3,?_⟩
    rcases h2 with ⟨z,hz,_⟩ | ⟨z,hz,e⟩
    ·cases hz
    ·have:=hx z hz
     rw [y4r,if_neg (by omega)];exact h4
 | x::a,y::b,ha,hb=>by
  have hx:=(List.pairwise_cons.1 ha.rise).1
  have hy:=(List.pairwise_cons.1 hb.rise).1
  rw [y7a]
  by_cases c1:x.1<y.1
  ·rw [if_pos c1]
   have ih:=ycs a (y::b) ha.tail hb
   have hlt:∀q∈y7a a (y::b),x.1<q.1.1:=fun q hq=>by
    rcases (ih.2 q hq).2.1 with ⟨z,hz,e⟩ | ⟨z,hz,e⟩
    ·rw [←e];exact hx z hz
    ·rcases List.mem_cons.1 hz with rfl | hz
     ·omega
     ·have:=hy z hz;omega
   refine ⟨List.pairwise_cons.2 ⟨hlt,ih.1⟩,fun q hq=>?_⟩
   rcases List.mem_cons.1 hq with rfl | hq
   ·exact ⟨rfl,.inl ⟨x,by simp,rfl⟩,by rw [y4r,if_pos rfl],by rw [y4r,if_neg (show ¬y.1=x.1 by omega),ydh (hb.gt (show x.1≤y.1 by omega))]⟩
   ·obtain ⟨h1,h2,h3,h4⟩:=ih.2 q hq
    have:=hlt q hq
    exact ⟨h1,h2.imp (fun ⟨y,hy,e⟩=>⟨y,by simp [hy],e⟩) id,by rw [y4r,if_neg (by omega)];exact h3,h4⟩
  ·rw [if_neg c1]
   by_cases c2:y.1<x.1
   ·rw [if_pos c2]
    have ih:=ycs (x::a) b ha hb.tail
    have hlt:∀q∈y7a (x::a) b,y.1<q.1.1:=fun q hq=>by
     rcases (ih.2 q hq).2.1 with ⟨z,hz,e⟩ | ⟨z,hz,e⟩
     ·rcases List.mem_cons.1 hz with rfl | hz
      ·omega
      ·have:=hx z hz;omega
     ·rw [←e];exact hy z hz
    refine ⟨List.pairwise_cons.2 ⟨hlt,ih.1⟩,fun q hq=>?_⟩
    rcases List.mem_cons.1 hq with rfl | hq
    ·exact ⟨rfl,.inr ⟨y,by simp,rfl⟩,by rw [y4r,if_neg (show ¬x.1=y.1 by omega),ydh (ha.gt (show y.1≤x.1 by omega))],by rw [y4r,if_pos rfl]⟩
    ·obtain ⟨h1,h2,h3,h4⟩:=ih.2 q hq
     have:=hlt q hq
     exact ⟨h1,h2.imp id (fun ⟨y,hy,e⟩=>⟨y,by simp [hy],e⟩),h3,by rw [y4r,if_neg (by omega)];exact h4⟩
   ·rw [if_neg c2]
    have exy:x.1=y.1:=by omega
    have ih:=ycs a b ha.tail hb.tail
    have hlt:∀q∈y7a a b,x.1<q.1.1:=fun q hq=>by
     rcases (ih.2 q hq).2.1 with ⟨z,hz,e⟩ | ⟨z,hz,e⟩
     ·rw [←e];exact hx z hz
     ·have:=hy z hz;omega
    refine ⟨List.pairwise_cons.2 ⟨hlt,ih.1⟩,fun q hq=>?_⟩
    rcases List.mem_cons.1 hq with rfl | hq
    ·exact ⟨exy,.inl ⟨x,by simp,rfl⟩,by rw [y4r,if_pos rfl],by rw [y4r,if_pos exy.symm]⟩
    ·obtain ⟨h1,h2,h3,h4⟩:=ih.2 q hq
     have:=hlt q hq
     exact ⟨h1,h2.imp (fun ⟨y,hy,e⟩=>⟨y,by simp [hy],e⟩) (fun ⟨y,hy,e⟩=>⟨y,by simp [hy],e⟩),by rw [y4r,if_neg (by omega)];exact h3,by rw [y4r,if_neg (by omega)];exact h4⟩
 termination_by a b=>a.length+b.length
theorem ybd:∀(a b:List Bk) (z:Bk),z∈a∨z∈b→∃q∈y7a a b,q.1.1=z.1
 | [],[],z,h=>by simp at h
 | x::a,[],z,h=>by
  rw [y7a]
  rcases h with h | h
  ·rcases List.mem_cons.1 h with rfl | h
   ·exact ⟨_,List.mem_cons_self,rfl⟩
   ·obtain ⟨q,hq,e⟩:=ybd a [] z (.inl h);exact ⟨q,by simp [hq],e⟩
  ·cases h
 | [],y::b,z,h=>by
  rw [y7a]
  rcases h with h | h
  ·cases h
  ·rcases List.mem_cons.1 h with rfl | h
   ·exact ⟨_,List.mem_cons_self,rfl⟩
   ·obtain ⟨q,hq,e⟩:=ybd [] b z (.inr h);exact ⟨q,by simp [hq],e⟩
 | x::a,y::b,z,h=>by
  rw [y7a]
  by_cases c1:x.1<y.1
  ·rw [if_pos c1]
   by_cases e:z=x
   ·subst e;exact ⟨_,List.mem_cons_self,rfl⟩
   ·obtain ⟨q,hq,e⟩:=ybd a (y::b) z (h.imp (fun h=>(List.mem_cons.1 h).resolve_left e) id);exact ⟨q,by simp [hq],e⟩
  ·rw [if_neg c1]
   by_cases c2:y.1<x.1
   ·rw [if_pos c2]
    by_cases e:z=y
    ·subst e;exact ⟨_,List.mem_cons_self,rfl⟩
    ·obtain ⟨q,hq,e⟩:=ybd (x::a) b z (h.imp id (fun h=>(List.mem_cons.1 h).resolve_left e));exact ⟨q,by simp [hq],e⟩
   ·rw [if_neg c2]
    by_cases e:z=x
    ·subst e;exact ⟨_,List.mem_cons_self,rfl⟩
    ·by_cases e2:z=y
     ·subst e2;exact ⟨_,List.mem_cons_self,by simp only;omega⟩
     ·obtain ⟨q,hq,e⟩:=ybd a b z (h.imp (fun h=>(List.mem_cons.1 h).resolve_left e) (fun h=>(List.mem_cons.1 h).resolve_left e2));exact ⟨q,by simp [hq],e⟩
 termination_by a b=>a.length+b.length
theorem mkB_mem {f:Nat→Nat→Nat} {l:List (Bk × Bk)} {z:Bk}:z∈yct f l↔∃q∈l,f q.1.2 q.2.2≠0∧z=(q.1.1,f q.1.2 q.2.2):=by
 unfold yct
 simp only [List.mem_filterMap]
 constructor
 ·rintro ⟨q,hq,h⟩
  by_cases e:f q.1.2 q.2.2≠0
  ·rw [if_pos e] at h;injection h with h;exact ⟨q,hq,e,h.symm⟩
  ·rw [if_neg e] at h;cases h
 ·rintro ⟨q,hq,e,rfl⟩
  exact ⟨q,hq,by rw [if_pos e]⟩
theorem mk_ok {f:Nat→Nat→Nat} (hf:∀x y,x<18446744073709551616→y<18446744073709551616→f x y<18446744073709551616) {a b:List Bk} (ha:OkB a) (hb:OkB b):OkB (yct f (y7a a b)):=by
 obtain ⟨h1,h2⟩:=ycs a b ha hb
 have at64:∀{bs:List Bk},OkB bs→∀k,atB bs k<18446744073709551616:=fun {bs} h k=>by
  unfold atB
  cases hf:bs.find? fun x=>x.1 == k with
  | none=>simp
  | some x=>exact (h.bit x (List.mem_of_find?_eq_some hf)).2.1
 refine ⟨?_,fun z hz=>?_⟩
 ·unfold yct
  rw [List.pairwise_filterMap]
  refine h1.imp fun {p q} hpq x hx y hy=>?_
  split at hx
  ·split at hy
   ·injection hx with hx;injection hy with hy;subst hx;subst hy;exact hpq
   ·cases hy
  ·cases hx
 ·obtain ⟨q,hq,h0,rfl⟩:=mkB_mem.1 hz
  obtain ⟨e1,e2,e3,e4⟩:=h2 q hq
  refine ⟨by simp only;omega,?_,?_⟩
  ·simp only;rw [e3,e4];exact hf _ _ (at64 ha _) (at64 hb _)
  ·simp only
   rcases e2 with ⟨x,hx,e⟩ | ⟨x,hx,e⟩
   ·rw [←e];exact (ha.bit x hx).2.2
   ·rw [←e];exact (hb.bit x hx).2.2
theorem mk_at {f:Nat→Nat→Nat} (h0:f 0 0=0) {a b:List Bk} (ha:OkB a) (hb:OkB b) (k:Nat):atB (yct f (y7a a b)) k=f (atB a k) (atB b k):=by
 obtain ⟨h1,h2⟩:=ycs a b ha hb
 have key:∀l:List (Bk × Bk),l.Pairwise (fun p q=>p.1.1<q.1.1)→(∀q∈l,q.1.2=atB a q.1.1∧q.2.2=atB b q.1.1)→atB (yct f l) k=if ∃q∈l,q.1.1=k then f (atB a k) (atB b k) else 0:=by
  intro l
  induction l with
  | nil=>intro _ _;simp [yct,atB]
  | cons q l ih=>
   intro hp hq
   obtain ⟨p1,p2⟩:=List.pairwise_cons.1 hp
   have ih:=ih p2 fun x hx=>hq x (by simp [hx])
   obtain ⟨e1,e2⟩:=hq q (by simp)
   rw [mkB_cons]
   by_cases e:q.1.1=k
   ·have hex:∃x∈q::l,x.1.1=k:=⟨q,List.mem_cons_self,e⟩
    rw [if_pos hex]
    have hn:¬∃x∈l,x.1.1=k:=fun ⟨x,hx,ex⟩=>by have:=p1 x hx;omega
    rw [if_neg hn] at ih
    rw [e] at e1 e2
    by_cases c:f q.1.2 q.2.2≠0
    ·rw [if_pos c]
     show atB ((q.1.1,f q.1.2 q.2.2)::yct f l) k=_
     rw [y4r,if_pos e,e1,e2]
    ·rw [if_neg c]
     show atB (yct f l) k=_
     rw [ih,←e1,←e2]
     exact (Classical.not_not.1 c).symm
   ·have hi:(∃x∈q::l,x.1.1=k)↔∃x∈l,x.1.1=k:=⟨fun ⟨x,hx,ex⟩=>by
     rcases List.mem_cons.1 hx with rfl | hx
     ·exact absurd ex e
     ·exact ⟨x,hx,ex⟩,fun ⟨x,hx,ex⟩=>⟨x,by simp [hx],ex⟩⟩
    simp only [hi]
    rw [←ih]
    by_cases c:f q.1.2 q.2.2≠0
    ·rw [if_pos c]
     show atB ((q.1.1,f q.1.2 q.2.2)::yct f l) k=_
     rw [y4r,if_neg e]
    ·rw [if_neg c];rfl
 rw [key _ h1 fun q hq=>⟨(h2 q hq).2.2.1,(h2 q hq).2.2.2⟩]
 by_cases h:∃q∈y7a a b,q.1.1=k
 ·rw [if_pos h]
 ·rw [if_neg h,ydh (bs:=a) fun x hx e=>h ?_,ydh (bs:=b) fun x hx e=>h ?_,h0]
  ·obtain ⟨q,hq,e'⟩:=ybd a b x (.inr hx);exact ⟨q,hq,e'.trans e⟩
  ·obtain ⟨q,hq,e'⟩:=ybd a b x (.inl hx);exact ⟨q,hq,e'.trans e⟩
theorem mem_or {a b:List Bk} (ha:OkB a) (hb:OkB b) (n:Nat):n∈elB (yct (· ||| ·) (y7a a b))↔n∈elB a∨n∈elB b:=by
 rw [yic (mk_ok (fun x y hx hy=>Nat.or_lt_two_pow (n:=64) hx hy) ha hb),mk_at (by simp) ha hb,yic ha,yic hb,Nat.testBit_or,Bool.or_eq_true]
def y8l:V→Nat→V
 | .sl (some (id,off,ext)) len sz,i=>.sl (some (id,off+i*sz,ext)) (len-i) sz
 | v,_=>v
theorem RowB.sufLen {H:Hp} {v:V} {bs:List Bk} (h:RowB H v bs) (i:Nat):∃a z,y8l v i=.sl a (bs.length-i) z:=by
 cases h with
 | nil z=>exact ⟨_,_,by simp [y8l];exact ⟨rfl,rfl⟩⟩
 | row id off m cs bs g h1 h2 h3=>exact ⟨_,_,rfl⟩
abbrev Hp.Lt (X:Hp):Prop:=∀k blk,X.get k=some blk→k<X.next
def MgInv (va vb:V) (a b:List Bk) (y:Nat) (J:Nat→Hp→Prop) (m:Nat) (F:Fr) (X:Hp):Prop:=
 ∃i j k,i≤a.length∧j≤b.length∧k≤(y7a a b).length∧m=(a.length-i)+(b.length-j)∧y7a (a.drop i) (b.drop j)=(y7a a b).drop k∧J k X∧F=[(0,.yl y),(4,y8l va i),(5,y8l vb j)]
set_option maxHeartbeats 1000000 in
theorem ylo (y bxa bxb ma mb:Nat) (va vb:V) (a b:List Bk) (J:Nat→Hp→Prop) (X0:Hp) (hal:OkB a) (hbl:OkB b) (ha:X0.get bxa=some (.cells [va] ma)) (hma:ma≤1) (hb:X0.get bxb=some (.cells [vb] mb)) (hmb:mb≤1)
  (h0:J 0 X0) (hJl:∀k X,J k X→Hp.Lt X) (hJe:∀k X X',J k X→X.Ext X'→Hp.Lt X'→J k X') (hR:∀k X,J k X→RowB X va a∧RowB X vb b)
  (hy:∀k X q,(y7a a b)[k]?=some q→J k X→YC Tryz.prog y [.agg (bkc q.1),.agg (bkc q.2)] X (fun v X'=>v=.b true∧J (k+1) X')):
  AC Tryz.prog y71 [.yl y,.p (some (bxa,0,1)),.p (some (bxb,0,1))] X0 (fun _ X'=>J (y7a a b).length X'):=by
 have la:=hal.len
 have lb:=hbl.len
 refine AC.code y14.at y14.ok ?_
 simp only [y14]
 refine AX.seq (AX.drw ?_)
 simp [y14.r0,ha,hma,hb,hmb]
 obtain ⟨ra0,rb0⟩:=hR 0 X0 h0
 have s0:∀v bs,RowB X0 v bs→y8l v 0=v:=fun v bs h=>by
  cases h with
  | nil z=>rfl
  | row id off m cs bs g h1 h2 h3=>simp [y8l]
 refine AX.pblock (AX.loop (MgInv va vb a b y J) (a.length+b.length) ⟨_,_,.refl _ _,0,0,0,by omega,by omega,by omega,by omega,by simp,h0,by rw [s0 va a ra0,s0 vb b rb0]⟩ ?_)
 rintro m F X ⟨i,j,k,hi,hj,hk,rfl,hm,hJ,rfl⟩
 obtain ⟨ra,rb⟩:=hR k X hJ
 have hlt:=hJl k X hJ
 obtain ⟨pa,za,ea⟩:=ra.sufLen i
 obtain ⟨pb,zb,eb⟩:=rb.sufLen j
 simp only [y14.l0]
 have hw:Go.IntKind.i64.wrap (((a.length-i:Nat):Int)+((b.length-j:Nat):Int))=((a.length-i+(b.length-j):Nat):Int):=by rw [wrap_i64 (by omega) (by omega)];simp
 refine AX.seq (AX.test (decide (0<a.length-i+(b.length-j))) [(0,.yl y),(4,y8l va i),(5,y8l vb j),(15,.b (decide (0<a.length-i+(b.length-j))))] ?_ rfl (fun hc=>AX.skip ?_) (fun hc=>AX.exit ?_))
 ·rw [ea,eb]
  simp [y14.r1,hw]
  omega
 rotate_left
 ·simp at hc
  have e1:i=a.length:=by omega
  have e2:j=b.length:=by omega
  subst e1;subst e2
  have:(y7a a b).length≤k:=by
   have:=congrArg List.length hm
   simp [y7a] at this;omega
  have:k=(y7a a b).length:=by omega
  subst this
  simp
  exact hJ
 simp at hc
 simp
 refine AX.pblock (jA ?_)
 simp [y14.r2]
 refine AX.seq (AX.mono (Q:=y5i.then (fun F' X2=>∃q i' j' V4 V5,(y7a a b)[k]?=some q∧i'≤a.length∧j'≤b.length∧(a.length-i')+(b.length-j')<(a.length-i)+(b.length-j)∧y7a (a.drop i') (b.drop j')=(y7a a b).drop (k+1)∧
  V4=y8l va i'∧V5=y8l vb j'∧X.Ext X2∧Hp.Lt X2∧X2.get X.next=some (.cells (bkc q.1) 2)∧X2.get (X.next+1)=some (.cells (bkc q.2) 2)∧F'=[(0,.yl y),(4,V4),(5,V5),(6,.p (some (X.next,0,2))),(7,.p (some (X.next+1,0,2)))]) fun _ _ _=>False) ?_ ?_)
 rotate_left
 ·intro z F' X' hz
  cases z with
  | exit k=>exact hz.elim
  | ret=>exact hz.elim
  | normal=>
  obtain ⟨q,i',j',V4,V5,hq,hi',hj',hlt',hm',rfl,rfl,hx,hxl,hg1,hg2,rfl⟩:=hz
  apply jA
  simp [y14.r11,hg1,hg2,bkc]
  have hyy:=hy k X' q hq (hJe k X X' hJ hx hxl)
  simp [bkc] at hyy
  refine hyy.mono ?_
  rintro u X3 ⟨rfl,hJ3⟩
  simp
  refine jF rfl (AX.skip ?_)
  simp
  have:=(List.getElem?_eq_some_iff.1 hq).1
  exact ⟨_,hlt',_,_,.refl _ _,i',j',k+1,hi',hj',by omega,rfl,hm',hJ3,rfl⟩
 have hdk:∀q r,(y7a a b).drop k=q::r→(y7a a b)[k]?=some q∧(y7a a b).drop (k+1)=r:=fun q r h=>by
  have hkl:k<(y7a a b).length:=kg fun hn=>by rw [List.drop_eq_nil_of_le (by omega)] at h;cases h
  rw [kP hkl] at h
  injection h with h1 h2
  exact ⟨by rw [kC hkl,h1],h2⟩
 rw [←hm] at hdk
 have ext:∀(A B C D:List V),X.Ext ((((X.add (.cells A 2)).add (.cells B 2)).upd X.next (.cells C 2)).upd (X.next+1) (.cells D 2)):=fun A B C D=>
  ((((Hp.Ext.add hlt _).trans (.add (Hp.add_lt hlt _) _)).upd hlt (kG _) _).upd hlt (by omega) _)
 have exl:∀(A B C D:List V),Hp.Lt ((((X.add (.cells A 2)).add (.cells B 2)).upd X.next (.cells C 2)).upd (X.next+1) (.cells D 2)):=fun A B C D=>
  Hp.upd_lt (Hp.upd_lt (Hp.add_lt (Hp.add_lt hlt _) _) (by simp;omega) _) (by simp) _
 refine AX.pblock ?_
 by_cases hbj:j<b.length
 ·obtain ⟨z,hz⟩:∃z,b[j]?=some z:=⟨_,kC hbj⟩
  have hdb:b.drop j=z::b.drop (j+1):=by rw [kP hbj,(List.getElem?_eq_some_iff.1 hz).2]
  obtain ⟨idb,ofb,mB,csb,rfl,gb,hmb',hlb,htb,hob⟩:=rb.at hz
  have nb:=hlt _ _ gb
  have b1:((csb.drop (ofb+j*2)).take 1)=[.i .i64 (z.1:Nat)]:=by
   have:=congrArg (List.take 1) htb
   simpa [List.take_take,bkc] using this
  have ejb:b.length-j≠0:=by omega
  by_cases hai:i<a.length
  ·obtain ⟨x,hx⟩:∃x,a[i]?=some x:=⟨_,kC hai⟩
   have hda:a.drop i=x::a.drop (i+1):=by rw [kP hai,(List.getElem?_eq_some_iff.1 hx).2]
   obtain ⟨ida,ofa,mA,csa,rfl,ga,hma',hla,hta,hoa⟩:=ra.at hx
   have na:=hlt _ _ ga
   have a1:((csa.drop (ofa+i*2)).take 1)=[.i .i64 (x.1:Nat)]:=by
    have:=congrArg (List.take 1) hta
    simpa [List.take_take,bkc] using this
   rw [hda,hdb,y7a] at hdk
   have f1:ida≠X.next:=by omega
   have f2:ida≠X.next+1:=by omega
   have f3:idb≠X.next:=by omega
   have f4:idb≠X.next+1:=by omega
   have f5:ofa+i*2+1≤csa.length:=by omega
   have f6:ofb+j*2+1≤csb.length:=by omega
   have f7:0<a.length-i:=by omega
   have f8:0<b.length-j:=by omega
   refine AX.testD (decide (x.1<z.1)) [(0,.yl y),(4,y8l (.sl (some (ida,ofa,csa.length)) a.length 2) i),(5,y8l (.sl (some (idb,ofb,csb.length)) b.length 2) j),(6,.p (some (X.next,0,2))),(7,.p (some (X.next+1,0,2))),(26,.b (decide (x.1<z.1)))] ?_ rfl (fun hc=>?_) (fun hc=>?_)
   ·simp [y14.r3,y8l,ejb,ga,gb,hma',hmb',a1,b1,f1,f2,f3,f4,f5,f6,f7,f8]
   ·simp at hc
    rw [if_pos hc] at hdk
    obtain ⟨hq,hm'⟩:=hdk _ _ rfl
    refine AX.seq (AX.drw ?_)
    simp [y14.r4,y8l,ga,gb,hma',hmb',hta,a1,f1,f2,f5,f7,hla,bkc]
    apply jE
    simp [y14.r5]
    refine ⟨⟨by omega,by omega⟩,_,_,_,_,hq,i+1,by omega,j,by omega,by omega,by rw [hm',hdb],ext _ _ _ _,exl _ _ _ _,by simp [bkc],by simp [bkc],by first | omega | (simp [y8l];done) | (simp;omega) | (simp [y8l];omega),by first | omega | (simp [y8l];done) | (simp;omega) | (simp [y8l];omega)⟩
   ·simp at hc
    rw [if_neg (show ¬x.1<z.1 by omega)] at hdk
    refine AX.testD (decide (z.1<x.1)) [(0,.yl y),(4,y8l (.sl (some (ida,ofa,csa.length)) a.length 2) i),(5,y8l (.sl (some (idb,ofb,csb.length)) b.length 2) j),(6,.p (some (X.next,0,2))),(7,.p (some (X.next+1,0,2))),(56,.b (decide (z.1<x.1)))] ?_ rfl (fun hc2=>?_) (fun hc2=>?_)
    ·simp [y14.r6,y8l,show a.length-i≠0 by omega,ga,gb,hma',hmb',a1,b1,f1,f2,f3,f4,f5,f6,f7,f8]
    ·simp at hc2
     rw [if_pos hc2] at hdk
     obtain ⟨hq,hm'⟩:=hdk _ _ rfl
     refine AX.seq (AX.drw ?_)
     simp [y14.r7,y8l,ga,gb,hma',hmb',htb,b1,f3,f4,f6,f8,hlb,bkc]
     apply jE
     simp [y14.r8]
     refine ⟨⟨by omega,by omega⟩,_,_,_,_,hq,i,by omega,j+1,by omega,by omega,by rw [hm',hda],ext _ _ _ _,exl _ _ _ _,by simp [bkc],by simp [bkc],by first | omega | (simp [y8l];done) | (simp;omega) | (simp [y8l];omega),by first | omega | (simp [y8l];done) | (simp;omega) | (simp [y8l];omega)⟩
    ·simp at hc2
     rw [if_neg (show ¬z.1<x.1 by omega)] at hdk
     obtain ⟨hq,hm'⟩:=hdk _ _ rfl
     refine AX.seq (AX.drw ?_)
     simp [y14.r9,y8l,ga,gb,hma',hmb',hta,htb,f1,f2,f3,f4,f7,f8,hla,hlb,bkc]
     refine AX.drw ?_
     simp [y14.r10,show 1≤a.length-i by omega,show 1≤b.length-j by omega,show ofa+i*2+(a.length-i)*2≤csa.length by omega,show ofb+j*2+(b.length-j)*2≤csb.length by omega]
     refine ⟨_,_,_,_,hq,i+1,by omega,j+1,by omega,by omega,hm'.symm,ext _ _ _ _,exl _ _ _ _,by simp [bkc],by simp [bkc],by first | omega | (simp [y8l];done) | (simp;omega) | (simp [y8l];omega),by first | omega | (simp [y8l];done) | (simp;omega) | (simp [y8l];omega)⟩
  ·
   have hda:a.drop i=[]:=List.drop_eq_nil_of_le (by omega)
   rw [hda,hdb,y7a] at hdk
   obtain ⟨hq,hm'⟩:=hdk _ _ rfl
   have e0:a.length-i=0:=by omega
   rw [e0] at ea
   have f3:idb≠X.next:=by omega
   have f4:idb≠X.next+1:=by omega
   have f6:ofb+j*2+1≤csb.length:=by omega
   have f8:0<b.length-j:=by omega
   refine AX.testD false [(0,.yl y),(4,y8l va i),(5,y8l (.sl (some (idb,ofb,csb.length)) b.length 2) j),(6,.p (some (X.next,0,2))),(7,.p (some (X.next+1,0,2))),(26,.b false)] ?_ rfl (fun hc=>by simp at hc) (fun _=>?_)
   ·rw [ea]
    simp [y14.r3,y8l,ejb]
   refine AX.testD true [(0,.yl y),(4,y8l va i),(5,y8l (.sl (some (idb,ofb,csb.length)) b.length 2) j),(6,.p (some (X.next,0,2))),(7,.p (some (X.next+1,0,2))),(56,.b true)] ?_ rfl (fun _=>?_) (fun hc=>by simp at hc)
   ·rw [ea]
    simp [y14.r6,y8l]
   refine AX.seq (AX.drw ?_)
   simp [y14.r7,y8l,gb,hmb',htb,b1,f3,f4,f6,f8,hlb,bkc]
   apply jE
   simp [y14.r8]
   refine ⟨⟨by omega,by omega⟩,_,_,_,_,hq,i,by omega,j+1,by omega,by omega,by rw [hm',hda],ext _ _ _ _,exl _ _ _ _,by simp [bkc],by simp [bkc],rfl,by first | omega | (simp [y8l];done) | (simp;omega) | (simp [y8l];omega)⟩
 ·
  have hdb:b.drop j=[]:=List.drop_eq_nil_of_le (by omega)
  have hai:i<a.length:=by omega
  obtain ⟨x,hx⟩:∃x,a[i]?=some x:=⟨_,kC hai⟩
  have hda:a.drop i=x::a.drop (i+1):=by rw [kP hai,(List.getElem?_eq_some_iff.1 hx).2]
  obtain ⟨ida,ofa,mA,csa,rfl,ga,hma',hla,hta,hoa⟩:=ra.at hx
  have na:=hlt _ _ ga
  have a1:((csa.drop (ofa+i*2)).take 1)=[.i .i64 (x.1:Nat)]:=by
   have:=congrArg (List.take 1) hta
   simpa [List.take_take,bkc] using this
  rw [hda,hdb,y7a] at hdk
  obtain ⟨hq,hm'⟩:=hdk _ _ rfl
  have e0:b.length-j=0:=by omega
  rw [e0] at eb
  have f1:ida≠X.next:=by omega
  have f2:ida≠X.next+1:=by omega
  have f5:ofa+i*2+1≤csa.length:=by omega
  have f7:0<a.length-i:=by omega
  refine AX.testD true [(0,.yl y),(4,y8l (.sl (some (ida,ofa,csa.length)) a.length 2) i),(5,y8l vb j),(6,.p (some (X.next,0,2))),(7,.p (some (X.next+1,0,2))),(26,.b true)] ?_ rfl (fun _=>?_) (fun hc=>by simp at hc)
  ·rw [eb]
   simp [y14.r3,y8l]
  refine AX.seq (AX.drw ?_)
  simp [y14.r4,y8l,ga,hma',hta,a1,f1,f2,f5,f7,hla,bkc]
  apply jE
  simp [y14.r5]
  refine ⟨⟨by omega,by omega⟩,_,_,_,_,hq,i+1,by omega,j,by omega,by omega,by rw [hm',hdb],ext _ _ _ _,exl _ _ _ _,by simp [bkc],by simp [bkc],by first | omega | (simp [y8l];done) | (simp;omega) | (simp [y8l];omega),rfl⟩
end Go.Proofs.YtikpijbeobeckaaGreatDoor
