/- Part 33. -/
import Derived.Test.YthmkcebbeehbeaaGreatDoorXGw29
import Derived.Test.YthmkcebbeehbeaaGreatDoorXGw30
import Derived.Test.YthmkcebbeehbeaaGreatDoorXGw32
set_option linter.unusedSimpArgs false
set_option linter.unusedVariables false
namespace Go.Proofs.YthmkcebbeehbeaaGreatDoor
open Am C
theorem yvd (a b:Str):(ltB a b||a == b)=!ltB b a:=by
 rcases ypx a b with h | h | h
 ·rw [h,yje h];rfl
 ·subst h
  have:ltB a a=false:=by cases hh:ltB a a with | false=>rfl | true=>exact absurd hh (yau a)
  rw [this];simp
 ·rw [h,yje h]
  have:a≠b:=fun e=>by subst e;exact yau _ h
  simp [this]
def RsInv (l:List Str) (H:Hp) (m:Nat) (F:Fr) (X:Hp):Prop:=
 ∃i,1≤i∧(i≤l.length∨i=1)∧m=l.length+1-i∧(∀j,j+1<i→ltB (l.getD j []) (l.getD (j+1) [])=true)∧X=H∧F=[(0,ss l),(3,.i .i64 i)]
theorem ynt {fid:Go.FuncId} {fn:Go.Func} (hf:Tryz.prog.funcs[fid]?=some fn) (hok:y1x Tryz.prog fn y2u=true) (l:List Str) (hl:l.length≤9223372036854775000) (H:Hp):AC Tryz.prog fid [ss l] H (fun v H'=>v=.b (risB l)∧H'=H):=by
 refine AC.code hf hok ?_
 simp only [y2u]
 apply jA
 simp [y2u.r0]
 apply jB
 simp [y2u.r1]
 refine AX.pblock (AX.loop (RsInv l H) l.length ⟨_,_,.refl _ _,1,by omega,.inr rfl,by omega,by omega,rfl,rfl⟩ ?_)
 rintro m F X ⟨i,h1,hi,rfl,hx,rfl,rfl⟩
 simp only [y2u.l0]
 apply jB
 simp [y2u.r2,ss]
 refine AX.pcond rfl (fun hd=>AX.skip ?_) (fun hd=>AX.exit ?_)
 case refine_2=>
  simp at hd
  simp
  apply jA
  simp [y2u.r6]
  apply jD
  have:risB l=true:=decide_eq_true fun j hj=>hx j (by omega)
  simp [this]
 simp at hd
 simp
 have w1:Go.IntKind.i64.wrap ((i:Int)-1)=((i-1:Nat):Int):=by rw [y4e (by omega) (by omega)];omega
 have hd1:i-1<l.length:=by omega
 refine AX.seq (AX.pblock (AX.seq (AX.drw ?_)))
 simp [y2u.r3,hd,w1,hd1]
 refine AX.pcond rfl (fun hb=>?_) (fun hb=>AX.skip ?_)
 ·apply jA
  simp [y2u.r4]
  apply jD
  have hb':ltB l[i-1] l[i]=false:=by
   have:=yvd l[i] l[i-1]
   cases hh:ltB l[i-1] l[i] with
   | false=>rfl
   | true=>rw [hh] at this;simp at this hb;simp [this] at hb
  have:risB l=false:=decide_eq_false fun hh=>by
   have:=hh (i-1) (by omega)
   simp [show i-1+1=i by omega,hd,hd1,hb'] at this
  simp [this]
 simp
 have hb':ltB l[i-1] l[i]=true:=by
  have:=yvd l[i] l[i-1]
  cases hh:ltB l[i-1] l[i] with
  | true=>rfl
  | false=>rw [hh] at this;simp at this hb;simp [hb] at this
 apply jE
 simp [y2u.r5,y5p (i:=i) (by omega)]
 refine ⟨l.length+1-(i+1),by omega,_,_,.refl _ _,i+1,by omega,by omega,rfl,fun j hj=>?_,rfl,by simp [ss]⟩
 by_cases e:j+1<i
 ·exact hx j e
 ·have:j=i-1:=by omega
  subst this
  simpa [show i-1+1=i by omega,hd,hd1] using hb'
theorem yr6 (l:List Str) (hl:l.length≤9223372036854775000) (H:Hp):AC Tryz.prog ybr [ss l] H (fun v H'=>v=.b (risB l)∧H'=H):=ynt y2u.at y2u.ok l hl H
theorem rises24.ok:y1x Tryz.prog Tryz.f42 y2u=true:=by kernel_rfl
theorem ylg (l:List Str) (hl:l.length≤9223372036854775000) (H:Hp):AC Tryz.prog yag [ss l] H (fun v H'=>v=.b (risB l)∧H'=H):=ynt y43.at rises24.ok l hl H
theorem idxOb.ok:y1x Tryz.prog Tryz.f124 (yhi 3 true)=true:=by kernel_rfl
theorem conOb.ok:y1x Tryz.prog Tryz.f60 (conF y6u)=true:=by kernel_rfl
theorem idxFu.ok:y1x Tryz.prog Tryz.f125 (yhi 3 true)=true:=by kernel_rfl
theorem conFu.ok:y1x Tryz.prog Tryz.f62 (conF y73)=true:=by kernel_rfl
theorem conOb_ok (l:List Ob) (f:Go.FuncId) (caps:List V) (p:Ob→Bool) (hl:l.length≤9223372036854775807) (H:Hp) (hc:∀x∈l,AC Tryz.prog f (.agg (y62 x)::caps) H (fun v H'=>v=.b (p x)∧H'=H)):
  AC Tryz.prog y6l [.fs (l.map y62),.fn f caps] H (fun v H'=>v=.b (l.any p)∧H'=H):=
 yw8 y4j.at conOb.ok (yvi y1l.at idxOb.ok l y62 (fun x _=>rfl) (fun h=>by cases h) f caps p hl H hc)
theorem conFu_ok (l:List Fu) (f:Go.FuncId) (caps:List V) (p:Fu→Bool) (hl:l.length≤9223372036854775807) (H:Hp) (hc:∀x∈l,AC Tryz.prog f (.agg (y9n x)::caps) H (fun v H'=>v=.b (p x)∧H'=H)):
  AC Tryz.prog y6q [.fs (l.map y9n),.fn f caps] H (fun v H'=>v=.b (l.any p)∧H'=H):=
 yw8 y4n.at conFu.ok (yvi y1u.at idxFu.ok l y9n (fun x _=>rfl) (fun h=>by cases h) f caps p hl H hc)
theorem ck11_ok (o:Ob) (id:Nat) (n:Str) (H:Hp) (hb:H.get id=some (.cells [.s n] 1)):AC Tryz.prog y9k [.agg (y62 o),.p (some (id,0,1))] H (fun v H'=>v=.b (decide (o.name=n))∧H'=H):=by
 refine AC.code y4y.at y4y.ok ?_
 simp only [y4y]
 apply jA
 simp [y4y.r0,y62]
 apply jA
 simp [y4y.r1,hb]
 apply jD
 simp
theorem ck12_ok (o:Fu) (id:Nat) (n:Str) (H:Hp) (hb:H.get id=some (.cells [.s n] 1)):AC Tryz.prog y9j [.agg (y9n o),.p (some (id,0,1))] H (fun v H'=>v=.b (decide (o.name=n))∧H'=H):=by
 refine AC.code y4x.at y4x.ok ?_
 simp only [y4x]
 apply jA
 simp [y4x.r0,y9n]
 apply jA
 simp [y4x.r1,hb]
 apply jD
 simp
def suS (s:Su):Prop:=s.name.length≤140737488355328∧s.gives.length≤140737488355328∧s.wants.length≤140737488355328∧s.keeps.length≤140737488355328∧(∀k∈s.keeps,k.length≤140737488355328)∧syS s.sys
theorem ck1_ok (s:Su) (hs:suS s) (n:Str) (id:Nat) (H:Hp) (hb:H.get id=some (.cells (y61 s) 7)):AC Tryz.prog y66 [.s n,.p (some (id,0,7))] H (fun v H'=>v=.b (yhq s.sys n)∧H'=H):=by
 obtain ⟨_,_,_,_,_,q1,q2,_⟩:=hs
 refine AC.codeP y5i.at y5i.ok (yls _) fun hlt=>?_
 simp only [y5i]
 apply jA
 simp [y5i.r0]
 have hne:id≠H.next:=by have:=hlt _ _ hb;omega
 have hb':(H.add (.cells [.s n] 1)).get id=some (.cells (y61 s) 7):=by simp [hne,hb]
 have hb2:(H.add (.cells [.s n] 1)).get H.next=some (.cells [.s n] 1):=by simp
 have hE:=Hp.Ext.add hlt (.cells [.s n] 1)
 generalize H.add (.cells [.s n] 1)=X at *
 generalize H.next=k at *
 refine AX.seq (AX.join (F1:=[(3,.b (yhq s.sys n))]) (H1:=X) (AX.reg ?_) ?_)
 ·have h1:=conOb_ok s.sys.objs y9k [.p (some (k,0,1))] (fun o=>decide (o.name=n)) (by omega) X (fun o _=>ck11_ok o k n X hb2)
  have h2:=conFu_ok s.sys.fns y9j [.p (some (k,0,1))] (fun o=>decide (o.name=n)) (by omega) X (fun o _=>ck12_ok o k n X hb2)
  simp [y5i.r1,hb',y61]
  refine AC.fix h1 ?_
  by_cases ha:s.sys.objs.any (fun o=>decide (o.name=n))=true
  ·simp [ha,yhq]
  ·simp only [Bool.not_eq_true] at ha
   simp [ha,hb',y61]
   refine AC.fix h2 ?_
   simp [yhq,ha]
 apply jD
 simp
 exact ⟨hE,.refl _⟩
theorem ck2_ok (s:Su) (hs:suS s) (n:Str) (id k:Nat) (H:Hp) (hb:H.get id=some (.cells (y61 s) 7)) (hk:H.get k=some (.cells [.fn y66 [.p (some (id,0,7))]] 1)):
  AC Tryz.prog yal [.s n,.p (some (k,0,1))] H (fun v H'=>v=.b (!yhq s.sys n)∧H'=H):=by
 refine AC.code y5h.at y5h.ok ?_
 simp only [y5h]
 apply jA
 simp [y5h.r0]
 apply jA
 simp [y5h.r1,hk]
 refine AC.fix (ck1_ok s hs n id H hb) ?_
 simp
 apply jD
 simp
theorem ck3_ok (s:Su) (hs:suS s) (n:Str) (id:Nat) (H:Hp) (hb:H.get id=some (.cells (y61 s) 7)):AC Tryz.prog yak [.s n,.p (some (id,0,7))] H (fun v H'=>v=.b (decide (n∈s.wants))∧H'=H):=by
 obtain ⟨_,_,q,_⟩:=hs
 refine AC.code y5g.at y5g.ok ?_
 simp only [y5g]
 apply jA
 simp [y5g.r0]
 apply jA
 simp [y5g.r1,hb,y61]
 refine AC.fix (yqr s.wants n (by omega) _) ?_
 simp
 apply jD
 simp
theorem ck4_ok (n:Str) (hn:n.length≤140737488355328) (H:Hp):AC Tryz.prog yci [.s n] H (fun v H'=>v=.b (!yay n)∧H'=H):=by
 refine AC.code y5f.at y5f.ok ?_
 simp only [y5f]
 apply jA
 simp [y5f.r0]
 apply jA
 simp [y5f.r1]
 refine AC.fix (yb5 n (by omega) _) ?_
 simp
 apply jD
 simp
def yjv (bs:Str):Str:=bs++yt8 (yh3 11994318 bs)
def y7j:Str:=[119,101,102,116]
def yen (T:List Str) (b:Str):Str:=y8x 1++(yf9 T++(y8x b.length++b))
def yfe (s:Su):Str:=yjv (y7j++yen (y4u s) (ync (y4u s) s).1)
def yms (s:Su):Str × Int:=if suE s≠0 then ([],suE s) else if 6000<(y4u s).length then ([],4) else if (y4u s).any (fun t=>decide (1000<t.length)) then ([],9) else if 200000<(yfe s).length then ([],9) else (yfe s,0)
def suF (s:Su):Prop:=suS s∧(evS s).length≤1000000
theorem yim {pool:List Str} (hl:pool.length≤268435456) (hr:y51 pool):∀(es:List Ev) (τ:Qw),τ.e=0→(∀n,Ev.num n∈es→0≤n∧n≤268435456)→(∀t,Ev.txt t∈es→t∈pool)→(y5q pool τ es).e=0
 | [],τ,h,_,_=>h
 | .num n::es,τ,h,hn,ht=>by
  rw [ybd]
  refine yim hl hr es _ ?_ (fun m hm=>hn m (by simp [hm])) (fun t hm=>ht t (by simp [hm]))
  have:=hn n (by simp)
  simp only [yl2,y60,h,ne_eq,not_true_eq_false,if_false]
  rw [if_neg (by omega)]
 | .txt t::es,τ,h,hn,ht=>by
  rw [ybd]
  refine yim hl hr es _ ?_ (fun m hm=>hn m (by simp [hm])) (fun t hm=>ht t (by simp [hm]))
  have hm:=ht t (by simp)
  have hp:=(List.getElem?_eq_some_iff.1 ((yeh hr t).1 hm)).1
  simp only [yl2,y5s,hm,not_true_eq_false,false_and,if_false,y60,h,ne_eq,ydv,if_true]
  rw [if_neg (by omega)]
theorem ykj {α:Type} {f:α→List Ev} {l:List α} {x:Ev} (h:x∈evL f l):x=.num l.length∨∃a∈l,x∈f a:=by
 simp only [evL,kJ,List.mem_flatMap] at h
 exact h
theorem yrj {n:Nat}:∀{l p:List Mk},ypu n p l=true→∀m∈l,0≤m.pos∧m.pos<n
 | [],_,_,m,h=>by cases h
 | a::r,p,h,m,hm=>by
  simp only [ypu,kE] at h
  rcases List.mem_cons.1 hm with rfl | hm
  ·have:=h.1
   simp only [mkB,kE,decide_eq_true_eq] at this
   exact ⟨this.1.1.1.1,this.1.1.1.2⟩
  ·exact yrj h.2 m hm
theorem yex {α:Type} (f:α→List Ev) (l:List α) (hf:∀x,1≤(f x).length):l.length≤(evL f l).length:=by
 have:l.length≤(l.flatMap f).length:=by
  induction l with
  | nil=>simp
  | cons a r ih=>
   have:=hf a
   rw [List.flatMap_cons,kR,kN];omega
 rw [evL,kN];omega
theorem ymm {α:Type} {f:α→List Ev} {l:List α} {x:α} (h:x∈l):(f x).length≤(evL f l).length:=by
 have:(f x).length≤(l.flatMap f).length:=by
  induction l with
  | nil=>cases h
  | cons a r ih=>
   rw [List.flatMap_cons,kR]
   rcases List.mem_cons.1 h with rfl | h
   ·omega
   ·have:=ih h;omega
 rw [evL,kN];omega
theorem yre (s:Su) (he:suE s=0) (hb:(evS s).length≤1000000):∀n,Ev.num n∈evS s→0≤n∧n≤268435456:=by
 have hsy:yu8 s.sys=0:=by
  simp only [suE] at he
  split at he
  ·cases he
  ·simp only [orI] at he
   split at he
   ·rename_i h1;exact (h1 he).elim
   ·rename_i h1;simpa using h1
 have h3:chk obE yne none s.sys.objs=0∧chk cnE yjh none s.sys.cons=0:=by
  simp only [yu8] at hsy
  split at hsy
  ·cases hsy
  ·simp only [orI] at hsy
   split at hsy
   ·rename_i h1;exact (h1 hsy).elim
   ·rename_i h1
    split at hsy
    ·rename_i h2;exact (h2 hsy).elim
    ·split at hsy
     ·rename_i h4;exact (h4 hsy).elim
     ·rename_i h4;exact ⟨by simpa using h1,by simpa using h4⟩
 have ho:=yq7 h3.1
 have hc:=yq7 h3.2
 have hsz:(evS s).length=1+((evL evW s.gives).length+((evL evW s.wants).length+((evL evW s.keeps).length+((evL evO s.sys.objs).length+((evL evF s.sys.fns).length+(evL evC s.sys.cons).length))))):=by simp [evS];omega
 have lw:∀l:List Str,l.length≤(evL evW l).length:=fun l=>yex evW l (fun x=>by simp [evW])
 have lo:=yex evO s.sys.objs (fun x=>by simp [evO])
 have lf:=yex evF s.sys.fns (fun x=>by simp [evF])
 have lc:=yex evC s.sys.cons (fun x=>by simp [evC])
 intro n hn
 simp only [evS,kJ,kY] at hn
 have tw:∀l:List Str,l.length≤1000000→Ev.num n∈evL evW l→0≤n∧n≤268435456:=fun l hl h=>by
  rcases ykj h with h | ⟨a,_,h⟩
  ·injection h with h;subst h;omega
  ·simp [evW] at h
 have w1:=lw s.gives
 have w2:=lw s.wants
 have w3:=lw s.keeps
 rcases hn with h | h | h | h | h | h | h
 ·cases h
 ·exact tw _ (by omega) h
 ·exact tw _ (by omega) h
 ·exact tw _ (by omega) h
 ·rcases ykj h with h | ⟨o,hmo,h⟩
  ·injection h with h;subst h;omega
  ·have hol:=ymm (f:=evO) hmo
   simp only [evO,kJ] at h
   rcases h with h | h | h
   ·cases h
   ·cases h
   ·have hm1:=yex evM o.marks (fun x=>by simp [evM])
    have hm2:(evL evM o.marks).length≤(evO o).length:=by simp [evO];omega
    rcases ykj h with h | ⟨m,hmm,h⟩
    ·injection h with h;subst h;omega
    ·have:=ho o hmo
     simp only [obE] at this
     split at this
     ·cases this
     ·split at this
      ·cases this
      ·split at this
       ·cases this
       ·rename_i hk
        split at this
        ·rename_i hmk
         have hp:=yrj hmk m hmm
         simp only [evM,kJ,List.not_mem_nil,or_false] at h
         rcases h with h | h
         ·injection h with h;subst h
          have:o.kinds.length≤64:=by
           by_cases hq:kpB o.kinds=true∧1≤o.kinds.length∧o.kinds.length≤64
           ·exact hq.2.2
           ·exact (hk hq).elim
          omega
         ·cases h
        ·cases this
 ·rcases ykj h with h | ⟨f,hmf,h⟩
  ·injection h with h;subst h;omega
  ·simp [evF] at h
 ·rcases ykj h with h | ⟨c,hmc,h⟩
  ·injection h with h;subst h;omega
  ·have hcl:=ymm (f:=evC) hmc
   have hce:=hc c hmc
   have ha1:=lw c.args
   have ha2:(evL evW c.args).length≤(evC c).length:=by simp [evC];omega
   simp only [evC,kJ] at h
   have hop:1≤c.op∧c.op≤6∧0≤c.k∧c.k≤64:=by
    unfold cnE at hce
    by_cases h1:c.op<1∨6<c.op
    ·rw [if_pos h1] at hce;cases hce
    rw [if_neg h1] at hce
    by_cases h2:¬(yay c.a=true∧(c.op=6→yh9 c.a=true)∧(if c.op=1 then yfa c.b=true else yay c.b=true))
    ·rw [if_pos h2] at hce;cases hce
    rw [if_neg h2] at hce
    by_cases h6:c.op=6
    ·rw [if_pos h6] at hce
     by_cases hcb:yf0 c=true
     ·simp only [yf0] at hcb
      split at hcb
      ·cases hcb
      ·simp only [kE,decide_eq_true_eq] at hcb
       have:=hcb.1.1.1.1.1
       omega
     ·rw [if_neg hcb] at hce;cases hce
    rw [if_neg h6] at hce
    by_cases h5:c.op=5
    ·rw [if_pos h5] at hce
     by_cases h7:c.args=[]∧0≤c.k∧c.k≤64∧ynk c.tag=true
     ·omega
     ·rw [if_neg h7] at hce;cases hce
    rw [if_neg h5] at hce
    by_cases h7:c.args=[]∧c.k=0∧c.tag=[]
    ·omega
    ·rw [if_neg h7] at hce;cases hce
   rcases h with h | h | h | h | h | h
   ·injection h with h;subst h;omega
   ·cases h
   ·cases h
   ·injection h with h;subst h;omega
   ·cases h
   ·exact tw _ (by omega) h
theorem yjo:∀{es:List Ev} {t:Str},Ev.txt t∈es↔t∈txs es
 | [],t=>by simp [txs]
 | .num n::es,t=>by simp [txs,yjo (es:=es)]
 | .txt s::es,t=>by simp [txs,yjo (es:=es)]
theorem yjp:∀es:List Ev,(txs es).length≤es.length
 | []=>by simp [txs]
 | .num n::es=>by have:=yjp es;simp [txs];omega
 | .txt s::es=>by have:=yjp es;simp [txs];omega
theorem rec_good (s:Su) (he:suE s=0) (hb:(evS s).length≤1000000):(ync (y4u s) s).2=0∧(y5q (y4u s) qw0 (evS s)).e=0:=by
 have h0:(y5q (y4u s) qw0 (evS s)).e=0:=by
  refine yim ?_ (yaw _) _ _ rfl (yre s he hb) (fun t ht=>yfp.2 (yjo.1 ht))
  have h1:=yg0 (txs (evS s)) (txs (evS s)).length
  rw [List.take_length] at h1
  have h2:=yjp (evS s)
  omega
 exact ⟨by simp only [ync,h0];rfl,h0⟩
def syF (n:Nat) (s:Sy):Prop:=syS s∧s.objs.length≤n∧s.fns.length≤n∧s.cons.length≤n∧(∀o∈s.objs,o.marks.length≤3000)∧∀c∈s.cons,c.args.length≤6000
def suH (s:Su):Prop:=suF s∧s.gives.length≤60∧s.wants.length≤60∧s.keeps.length≤200∧syF 80 s.sys
def rdN:Nat→Nat→Str→Nat × Nat × Int
 | _,_,[]=>(0,0,1)
 | k,n,c::r=>if k=4∧1<c.toNat then (0,0,2) else if 128≤c.toNat then rdN (k+1) (n+c.toNat % 128*128 ^ k) r
   else if c.toNat=0∧0<k then (0,0,3) else if 268435456<n+c.toNat % 128*128 ^ k then (0,0,2) else (n+c.toNat % 128*128 ^ k,k+1,0)
structure Rd where
 pos:Nat
 e:Int
def rdL (t:Str) (σ:Rd):Nat × Nat × Int:=rdN 0 0 (t.drop σ.pos)
def y33 (t:Str) (σ:Rd):Nat × Rd:=if σ.e≠0 then (0,σ) else if (rdL t σ).2.2≠0 then (0,{ σ with e:=(rdL t σ).2.2 }) else ((rdL t σ).1,{ σ with pos:=σ.pos+(rdL t σ).2.1 })
def y6y (t:Str) (σ:Rd):Str × Rd:=
 if σ.e≠0 then ([],σ) else if (rdL t σ).2.2≠0 then ([],{ σ with e:=(rdL t σ).2.2 })
 else if t.length<σ.pos+(rdL t σ).2.1+(rdL t σ).1 then ([],{ σ with e:=1 })
 else ((t.drop (σ.pos+(rdL t σ).2.1)).take (rdL t σ).1,{ σ with pos:=σ.pos+(rdL t σ).2.1+(rdL t σ).1 })
def y6a (σ:Rd) (x:Int):Rd:=if σ.e=0 then { σ with e:=x } else σ
def y7y (t:Str) (σ:Rd):Int:=if σ.e=0∧σ.pos<t.length then 6 else σ.e
theorem yuo:∀(r:Str) (k n:Nat),(rdN k n r).1≤268435456∧(rdN k n r).2.1≤k+r.length∧0≤(rdN k n r).2.2∧(rdN k n r).2.2≤3∧((rdN k n r).2.2=0→k<(rdN k n r).2.1)
 | [],k,n=>by simp [rdN]
 | c::r,k,n=>by
  have ih:=yuo r (k+1) (n+c.toNat % 128*128 ^ k)
  simp only [rdN,kN]
  split
  ·simp
  ·split
   ·exact ⟨ih.1,by omega,ih.2.2.1,ih.2.2.2.1,fun h=>by have:=ih.2.2.2.2 h;omega⟩
   ·split
    ·simp
    ·split
     ·simp
     ·simp;omega
def y7q (t:Str) (σ:Rd):Prop:=σ.pos≤t.length∧0≤σ.e∧σ.e≤100∧σ.e≠6
theorem yhc (t:Str) (σ:Rd) (h:σ.pos≤t.length):(rdL t σ).1≤268435456∧σ.pos+(rdL t σ).2.1≤t.length∧0≤(rdL t σ).2.2∧(rdL t σ).2.2≤3:=by
 have:=yuo (t.drop σ.pos) 0 0
 unfold rdL
 rw [List.length_drop] at this
 omega
theorem y6d {t:Str} {σ:Rd} (h:y7q t σ):y7q t (y33 t σ).2∧(y33 t σ).1≤268435456:=by
 have:=yhc t σ h.1
 unfold y7q at *
 unfold y33
 split
 ·simp;omega
 ·split <;> simp <;> omega
theorem ygn {t:Str} {σ:Rd} (h:y7q t σ):y7q t (y6y t σ).2∧(y6y t σ).1.length≤t.length:=by
 have:=yhc t σ h.1
 unfold y7q at *
 unfold y6y
 split
 ·simp;omega
 ·split
  ·simp;omega
  ·split
   ·simp;omega
   ·simp;omega
theorem ydy {t:Str} {σ:Rd} (h:y7q t σ) {x:Int} (h0:0≤x) (h1:x≤100) (h6:x≠6):y7q t (y6a σ x):=by
 unfold y7q y6a at *
 split <;> simp <;> omega
theorem yk1 {t:Str} {σ:Rd} (h:σ.e≠0):y33 t σ=(0,σ):=by unfold y33;rw [if_pos h]
theorem ypm {t:Str} {σ:Rd} (h:σ.e≠0):y6y t σ=([],σ):=by unfold y6y;rw [if_pos h]
def yc4 (last:Str) (k:Nat) (rest:Str) (first:Bool):Str × Int:=
 if last.length<k then ([],2) else if 1000<(last.take k++rest).length then ([],9) else if first=false∧(ltB (last.take k++rest) last||(last.take k++rest == last))=true then ([],13)
 else if shN last (last.take k++rest)≠k then ([],3) else (last.take k++rest,0)
def y9q (t:Str):Nat→Bool→Str→List Str→Rd→List Str × Rd
 | 0,_,_,acc,σ=>(acc,σ)
 | n+1,first,last,acc,σ=>if σ.e≠0 then (acc,σ) else
  let k:=y33 t σ
  let r:=y6y t k.2
  if r.2.e≠0 then (acc,r.2) else
  let x:=yc4 last k.1 r.1 first
  y9q t n false x.1 (acc++[x.1]) (y6a r.2 x.2)
def y6t (t:Str) (σ:Rd):List Str × Rd:=
 let n:=y33 t σ
 y9q t n.1 true [] [] (if 6000<n.1 then y6a n.2 4 else n.2)
def y2e (pool:List Str) (t:Str) (σ:Rd):Str × Rd:=
 if (y33 t σ).2.e≠0 then ([],(y33 t σ).2) else match pool[(y33 t σ).1]? with
  | some s=>(s,(y33 t σ).2)
  | none=>([],y6a (y33 t σ).2 2)
def ya7 {α:Type} (one:Rd→α × Rd):Nat→Rd→List α × Rd
 | 0,σ=>([],σ)
 | n+1,σ=>if σ.e≠0 then ([],σ) else ((one σ).1::(ya7 one n (one σ).2).1,(ya7 one n (one σ).2).2)
def y3j {α:Type} (t:Str) (one:Rd→α × Rd) (σ:Rd):List α × Rd:=
 ya7 one (y33 t σ).1 (if 6000<(y33 t σ).1 then y6a (y33 t σ).2 4 else (y33 t σ).2)
def ybj (pool:List Str) (t:Str) (σ:Rd):Mk × Rd:=(⟨((y33 t σ).1:Nat),(y2e pool t (y33 t σ).2).1⟩,(y2e pool t (y33 t σ).2).2)
def yc3 (pool:List Str) (t:Str) (σ:Rd):Ob × Rd:=
 let a:=y2e pool t σ
 let b:=y2e pool t a.2
 let c:=y3j t (ybj pool t) b.2
 (⟨a.1,b.1,c.1⟩,c.2)
def yli (pool:List Str) (t:Str) (σ:Rd):Fu × Rd:=
 let a:=y2e pool t σ
 let b:=y2e pool t a.2
 let c:=y2e pool t b.2
 (⟨a.1,b.1,c.1⟩,c.2)
def yf7 (pool:List Str) (t:Str) (σ:Rd):Cn × Rd:=
 let o:=y33 t σ
 let a:=y2e pool t o.2
 let b:=y2e pool t a.2
 let k:=y33 t b.2
 let g:=y2e pool t k.2
 let l:=y3j t (y2e pool t) g.2
 (⟨(o.1:Nat),a.1,b.1,(k.1:Nat),g.1,l.1⟩,l.2)
def ygv (pool:List Str) (t:Str) (σ:Rd):Su × Rd:=
 let n:=y2e pool t σ
 let g:=y3j t (y2e pool t) n.2
 let w:=y3j t (y2e pool t) g.2
 let k:=y3j t (y2e pool t) w.2
 let o:=y3j t (yc3 pool t) k.2
 let f:=y3j t (yli pool t) o.2
 let c:=y3j t (yf7 pool t) f.2
 (⟨n.1,g.1,w.1,k.1,⟨o.1,f.1,c.1⟩⟩,c.2)
def su0:Su:=⟨[],[],[],[],⟨[],[],[]⟩⟩
def yaq (pool:List Str) (t:Str):Su × Int:=if y7y t (ygv pool t ⟨0,0⟩).2≠0 then (su0,y7y t (ygv pool t ⟨0,0⟩).2) else ((ygv pool t ⟨0,0⟩).1,0)
section
variable {pool:List Str} {t:Str} {σ:Rd}
theorem y47 (h:y7q t σ):y7q t (y2e pool t σ).2:=by
 have h1:=(y6d h).1
 unfold y2e
 split
 ·exact h1
 ·split
  ·exact h1
  ·exact ydy h1 (by omega) (by omega) (by omega)
theorem yr7 {α:Type} {one:Rd→α × Rd} (h1:∀σ,y7q t σ→y7q t (one σ).2):∀(n:Nat) {σ:Rd},y7q t σ→y7q t (ya7 one n σ).2
 | 0,σ,h=>h
 | n+1,σ,h=>by
  simp only [ya7]
  split
  ·exact h
  ·exact yr7 h1 n (h1 σ h)
theorem yjb (h:y7q t σ):y7q t (if 6000<(y33 t σ).1 then y6a (y33 t σ).2 4 else (y33 t σ).2):=by
 have h1:=(y6d h).1
 split
 ·exact ydy h1 (by omega) (by omega) (by omega)
 ·exact h1
theorem y6n {α:Type} {one:Rd→α × Rd} (h1:∀σ,y7q t σ→y7q t (one σ).2) (h:y7q t σ):y7q t (y3j t one σ).2:=yr7 h1 _ (yjb h)
theorem yk2 (h:y7q t σ):y7q t (ybj pool t σ).2:=y47 (y6d h).1
theorem ygo (h:y7q t σ):y7q t (yc3 pool t σ).2:=y6n (fun _=>yk2) (y47 (y47 h))
theorem yk3 (h:y7q t σ):y7q t (yli pool t σ).2:=y47 (y47 (y47 h))
theorem yhu (h:y7q t σ):y7q t (yf7 pool t σ).2:=y6n (fun _=>y47) (y47 (y6d (y47 (y47 (y6d h).1))).1)
theorem yb8 {α:Type} {one:Rd→α × Rd} (h:σ.e≠0) (n:Nat):ya7 one n σ=([],σ):=by
 cases n with
 | zero=>rfl
 | succ n=>simp only [ya7];rw [if_pos h]
theorem yds {α:Type} {one:Rd→α × Rd} {n i:Nat} (hi:i<n) (h:σ.e=0):ya7 one (n-i) σ=((one σ).1::(ya7 one (n-(i+1)) (one σ).2).1,(ya7 one (n-(i+1)) (one σ).2).2):=by
 rw [show n-i=(n-(i+1))+1 by omega]
 simp only [ya7]
 rw [if_neg (by simp [h])]
end
end Go.Proofs.YthmkcebbeehbeaaGreatDoor
