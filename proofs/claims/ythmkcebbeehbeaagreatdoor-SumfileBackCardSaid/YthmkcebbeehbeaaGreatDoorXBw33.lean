/- Part 33 of the proof of the laws of the queries: Sum1, EncM, GrF. -/
import Derived.Test.YthmkcebbeehbeaaGreatDoorXBw29
import Derived.Test.YthmkcebbeehbeaaGreatDoorXBw30
import Derived.Test.YthmkcebbeehbeaaGreatDoorXBw32
set_option linter.unusedSimpArgs false
set_option linter.unusedVariables false
namespace Go.Proofs.YthmkcebbeehbeaaGreatDoor
open Am C
theorem yt3 (a b:Str):(ltB a b||a == b)=!ltB b a:=by
  rcases ynu a b with h | h | h
  · rw [h,yhp h];rfl
  · subst h
    have:ltB a a=false:=by cases hh:ltB a a with | false=>rfl | true=>exact absurd hh (ya0 a)
    rw [this];simp
  · rw [h,yhp h]
    have:a≠b:=fun e=>by subst e;exact ya0 _ h
    simp [this]
def RsInv (l:List Str) (H:Hp) (m:Nat) (F:Fr) (X:Hp):Prop:=
  ∃i,1≤i∧(i≤l.length∨i=1)∧m=l.length+1-i∧(∀j,j+1<i→ltB (l.getD j []) (l.getD (j+1) [])=true)∧X=H∧F=[(0,ss l),(3,.i .i64 i)]
theorem ylv {fid:Go.FuncId} {fn:Go.Func} (hf:Tryz.prog.funcs[fid]?=some fn) (hok:y1x Tryz.prog fn y2e=true) (l:List Str) (hl:l.length≤9223372036854775000) (H:Hp):AC Tryz.prog fid [ss l] H (fun v H'=>v=.b (risB l)∧H'=H):=by
  refine AC.code hf hok ?_
  simp only [y2e]
  apply jA
  simp [y2e.r0]
  apply jB
  simp [y2e.r1]
  refine AX.pblock (AX.loop (RsInv l H) l.length ⟨_,_,.refl _ _,1,by omega,.inr rfl,by omega,by omega,rfl,rfl⟩ ?_)
  rintro m F X ⟨i,h1,hi,rfl,hx,rfl,rfl⟩
  simp only [y2e.l0]
  apply jB
  simp [y2e.r2,ss]
  refine AX.pcond rfl (fun hd=>AX.skip ?_) (fun hd=>AX.exit ?_)
  case refine_2=>
    simp at hd
    simp
    apply jA
    simp [y2e.r6]
    apply jD
    have:risB l=true:=decide_eq_true fun j hj=>hx j (by omega)
    simp [this]
  simp at hd
  simp
  have w1:Go.IntKind.i64.wrap ((i:Int)-1)=((i-1:Nat):Int):=by rw [y3g (by omega) (by omega)];omega
  have hd1:i-1<l.length:=by omega
  refine AX.seq (AX.pblock (AX.seq (AX.drw ?_)))
  simp [y2e.r3,hd,w1,hd1]
  refine AX.pcond rfl (fun hb=>?_) (fun hb=>AX.skip ?_)
  · apply jA
    simp [y2e.r4]
    apply jD
    have hb':ltB l[i-1] l[i]=false:=by
      have:=yt3 l[i] l[i-1]
      cases hh:ltB l[i-1] l[i] with
      | false=>rfl
      | true=>rw [hh] at this;simp at this hb;simp [this] at hb
    have:risB l=false:=decide_eq_false fun hh=>by
      have:=hh (i-1) (by omega)
      simp [show i-1+1=i by omega,hd,hd1,hb'] at this
    simp [this]
  simp
  have hb':ltB l[i-1] l[i]=true:=by
    have:=yt3 l[i] l[i-1]
    cases hh:ltB l[i-1] l[i] with
    | true=>rfl
    | false=>rw [hh] at this;simp at this hb;simp [hb] at this
  apply jE
  simp [y2e.r5,y5n (i:=i) (by omega)]
  refine ⟨l.length+1-(i+1),by omega,_,_,.refl _ _,i+1,by omega,by omega,rfl,fun j hj=>?_,rfl,by simp [ss]⟩
  by_cases e:j+1<i
  · exact hx j e
  · have:j=i-1:=by omega
    subst this
    simpa [show i-1+1=i by omega,hd,hd1] using hb'
theorem yp0 (l:List Str) (hl:l.length≤9223372036854775000) (H:Hp):AC Tryz.prog yad [ss l] H (fun v H'=>v=.b (risB l)∧H'=H):=ylv y2e.at y2e.ok l hl H
theorem rises24.ok:y1x Tryz.prog Tryz.f42 y2e=true:=by kernel_rfl
theorem yjs (l:List Str) (hl:l.length≤9223372036854775000) (H:Hp):AC Tryz.prog y98 [ss l] H (fun v H'=>v=.b (risB l)∧H'=H):=ylv y3e.at rises24.ok l hl H
theorem idxOb.ok:y1x Tryz.prog Tryz.f124 (yfp 3 true)=true:=by kernel_rfl
theorem conOb.ok:y1x Tryz.prog Tryz.f60 (conF y5t)=true:=by kernel_rfl
theorem idxFu.ok:y1x Tryz.prog Tryz.f125 (yfp 3 true)=true:=by kernel_rfl
theorem conFu.ok:y1x Tryz.prog Tryz.f62 (conF y63)=true:=by kernel_rfl
theorem conOb_ok (l:List Ob) (f:Go.FuncId) (caps:List V) (p:Ob→Bool) (hl:l.length≤9223372036854775807) (H:Hp) (hc:∀x∈l,AC Tryz.prog f (.agg (y5p x)::caps) H (fun v H'=>v=.b (p x)∧H'=H)):
    AC Tryz.prog y5k [.fs (l.map y5p),.fn f caps] H (fun v H'=>v=.b (l.any p)∧H'=H):=
  yu3 y3r.at conOb.ok (yt8 y1d.at idxOb.ok l y5p (fun x _=>rfl) (fun h=>by cases h) f caps p hl H hc)
theorem conFu_ok (l:List Fu) (f:Go.FuncId) (caps:List V) (p:Fu→Bool) (hl:l.length≤9223372036854775807) (H:Hp) (hc:∀x∈l,AC Tryz.prog f (.agg (ya5 x)::caps) H (fun v H'=>v=.b (p x)∧H'=H)):
    AC Tryz.prog y5q [.fs (l.map ya5),.fn f caps] H (fun v H'=>v=.b (l.any p)∧H'=H):=
  yu3 y3x.at conFu.ok (yt8 y1l.at idxFu.ok l ya5 (fun x _=>rfl) (fun h=>by cases h) f caps p hl H hc)
theorem ck11_ok (o:Ob) (id:Nat) (n:Str) (H:Hp) (hb:H.get id=some (.cells [.s n] 1)):AC Tryz.prog y8j [.agg (y5p o),.p (some (id,0,1))] H (fun v H'=>v=.b (decide (o.name=n))∧H'=H):=by
  refine AC.code y46.at y46.ok ?_
  simp only [y46]
  apply jA
  simp [y46.r0,y5p]
  apply jA
  simp [y46.r1,hb]
  apply jD
  simp
theorem ck12_ok (o:Fu) (id:Nat) (n:Str) (H:Hp) (hb:H.get id=some (.cells [.s n] 1)):AC Tryz.prog y8i [.agg (ya5 o),.p (some (id,0,1))] H (fun v H'=>v=.b (decide (o.name=n))∧H'=H):=by
  refine AC.code y45.at y45.ok ?_
  simp only [y45]
  apply jA
  simp [y45.r0,ya5]
  apply jA
  simp [y45.r1,hb]
  apply jD
  simp
def suS (s:Su):Prop:=s.name.length≤140737488355328∧s.gives.length≤140737488355328∧s.wants.length≤140737488355328∧s.keeps.length≤140737488355328∧(∀k∈s.keeps,k.length≤140737488355328)∧syS s.sys
theorem ck1_ok (s:Su) (hs:suS s) (n:Str) (id:Nat) (H:Hp) (hb:H.get id=some (.cells (y5u s) 7)):AC Tryz.prog y59 [.s n,.p (some (id,0,7))] H (fun v H'=>v=.b (yfz s.sys n)∧H'=H):=by
  obtain ⟨_,_,_,_,_,q1,q2,_⟩:=hs
  refine AC.codeP y4p.at y4p.ok (ypj _) fun hlt=>?_
  simp only [y4p]
  apply jA
  simp [y4p.r0]
  have hne:id≠H.next:=by have:=hlt _ _ hb;omega
  have hb':(H.add (.cells [.s n] 1)).get id=some (.cells (y5u s) 7):=by simp [hne,hb]
  have hb2:(H.add (.cells [.s n] 1)).get H.next=some (.cells [.s n] 1):=by simp
  have hE:=Hp.Ext.add hlt (.cells [.s n] 1)
  generalize H.add (.cells [.s n] 1)=X at *
  generalize H.next=k at *
  refine AX.seq (AX.join (F1:=[(3,.b (yfz s.sys n))]) (H1:=X) (AX.reg ?_) ?_)
  · have h1:=conOb_ok s.sys.objs y8j [.p (some (k,0,1))] (fun o=>decide (o.name=n)) (by omega) X (fun o _=>ck11_ok o k n X hb2)
    have h2:=conFu_ok s.sys.fns y8i [.p (some (k,0,1))] (fun o=>decide (o.name=n)) (by omega) X (fun o _=>ck12_ok o k n X hb2)
    simp [y4p.r1,hb',y5u]
    refine AC.fix h1 ?_
    by_cases ha:s.sys.objs.any (fun o=>decide (o.name=n))=true
    · simp [ha,yfz]
    · simp only [Bool.not_eq_true] at ha
      simp [ha,hb',y5u]
      refine AC.fix h2 ?_
      simp [yfz,ha]
  apply jD
  simp
  exact ⟨hE,.refl _⟩
theorem ck2_ok (s:Su) (hs:suS s) (n:Str) (id k:Nat) (H:Hp) (hb:H.get id=some (.cells (y5u s) 7)) (hk:H.get k=some (.cells [.fn y59 [.p (some (id,0,7))]] 1)):
    AC Tryz.prog y9e [.s n,.p (some (k,0,1))] H (fun v H'=>v=.b (!yfz s.sys n)∧H'=H):=by
  refine AC.code y4o.at y4o.ok ?_
  simp only [y4o]
  apply jA
  simp [y4o.r0]
  apply jA
  simp [y4o.r1,hk]
  refine AC.fix (ck1_ok s hs n id H hb) ?_
  simp
  apply jD
  simp
theorem ck3_ok (s:Su) (hs:suS s) (n:Str) (id:Nat) (H:Hp) (hb:H.get id=some (.cells (y5u s) 7)):AC Tryz.prog y9d [.s n,.p (some (id,0,7))] H (fun v H'=>v=.b (decide (n∈s.wants))∧H'=H):=by
  obtain ⟨_,_,q,_⟩:=hs
  refine AC.code y4n.at y4n.ok ?_
  simp only [y4n]
  apply jA
  simp [y4n.r0]
  apply jA
  simp [y4n.r1,hb,y5u]
  refine AC.fix (yon s.wants n (by omega) _) ?_
  simp
  apply jD
  simp
theorem ck4_ok (n:Str) (hn:n.length≤140737488355328) (H:Hp):AC Tryz.prog yb0 [.s n] H (fun v H'=>v=.b (!y9r n)∧H'=H):=by
  refine AC.code y4m.at y4m.ok ?_
  simp only [y4m]
  apply jA
  simp [y4m.r0]
  apply jA
  simp [y4m.r1]
  refine AC.fix (y9w n (by omega) _) ?_
  simp
  apply jD
  simp
def yia (bs:Str):Str:=bs++sum3 (yjj 11994318 bs)
def y7t:Str:=[119,101,102,116]
def yco (T:List Str) (b:Str):Str:=y8b 1++(yd9 T++(y8b b.length++b))
def yde (s:Su):Str:=yia (y7t++yco (y4f s) (ylg (y4f s) s).1)
def yhh (s:Su):Str × Int:=if suE s≠0 then ([],suE s) else if 6000<(y4f s).length then ([],4) else if (y4f s).any (fun t=>decide (1000<t.length)) then ([],9) else if 200000<(yde s).length then ([],9) else (yde s,0)
def suF (s:Su):Prop:=suS s∧(evS s).length≤1000000
theorem ygt {pool:List Str} (hl:pool.length≤268435456) (hr:y4h pool):∀(es:List Ev) (τ:Qw),τ.e=0→(∀n,Ev.num n∈es→0≤n∧n≤268435456)→(∀t,Ev.txt t∈es→t∈pool)→(yf6 pool τ es).e=0
  | [],τ,h,_,_=>h
  | .num n::es,τ,h,hn,ht=>by
    rw [ybt]
    refine ygt hl hr es _ ?_ (fun m hm=>hn m (by simp [hm])) (fun t hm=>ht t (by simp [hm]))
    have:=hn n (by simp)
    simp only [yn5,yd7,h,ne_eq,not_true_eq_false,if_false]
    rw [if_neg (by omega)]
  | .txt t::es,τ,h,hn,ht=>by
    rw [ybt]
    refine ygt hl hr es _ ?_ (fun m hm=>hn m (by simp [hm])) (fun t hm=>ht t (by simp [hm]))
    have hm:=ht t (by simp)
    have hp:=(List.getElem?_eq_some_iff.1 ((ydo hr t).1 hm)).1
    simp only [yn5,ynk,hm,not_true_eq_false,false_and,if_false,yd7,h,ne_eq,ydn,if_true]
    rw [if_neg (by omega)]
theorem yit {α:Type} {f:α→List Ev} {l:List α} {x:Ev} (h:x∈evL f l):x=.num l.length∨∃a∈l,x∈f a:=by
  simp only [evL,List.mem_cons,List.mem_flatMap] at h
  exact h
theorem ype {n:Nat}:∀{l p:List Mk},ynr n p l=true→∀m∈l,0≤m.pos∧m.pos<n
  | [],_,_,m,h=>by cases h
  | a::r,p,h,m,hm=>by
    simp only [ynr,Bool.and_eq_true] at h
    rcases List.mem_cons.1 hm with rfl | hm
    · have:=h.1
      simp only [mkB,Bool.and_eq_true,decide_eq_true_eq] at this
      exact ⟨this.1.1.1.1,this.1.1.1.2⟩
    · exact ype h.2 m hm
theorem ycy {α:Type} (f:α→List Ev) (l:List α) (hf:∀x,1≤(f x).length):l.length≤(evL f l).length:=by
  have:l.length≤(l.flatMap f).length:=by
    induction l with
    | nil=>simp
    | cons a r ih=>
      have:=hf a
      rw [List.flatMap_cons,List.length_append,List.length_cons];omega
  rw [evL,List.length_cons];omega
theorem ykt {α:Type} {f:α→List Ev} {l:List α} {x:α} (h:x∈l):(f x).length≤(evL f l).length:=by
  have:(f x).length≤(l.flatMap f).length:=by
    induction l with
    | nil=>cases h
    | cons a r ih=>
      rw [List.flatMap_cons,List.length_append]
      rcases List.mem_cons.1 h with rfl | h
      · omega
      · have:=ih h;omega
  rw [evL,List.length_cons];omega
theorem yp9 (s:Su) (he:suE s=0) (hb:(evS s).length≤1000000):∀n,Ev.num n∈evS s→0≤n∧n≤268435456:=by
  have hsy:ys3 s.sys=0:=by
    simp only [suE] at he
    split at he
    · cases he
    · simp only [orI] at he
      split at he
      · rename_i h1;exact (h1 he).elim
      · rename_i h1;simpa using h1
  have h3:chk obE yli none s.sys.objs=0∧chk cnE yht none s.sys.cons=0:=by
    simp only [ys3] at hsy
    split at hsy
    · cases hsy
    · simp only [orI] at hsy
      split at hsy
      · rename_i h1;exact (h1 hsy).elim
      · rename_i h1
        split at hsy
        · rename_i h2;exact (h2 hsy).elim
        · split at hsy
          · rename_i h4;exact (h4 hsy).elim
          · rename_i h4;exact ⟨by simpa using h1,by simpa using h4⟩
  have ho:=yo6 h3.1
  have hc:=yo6 h3.2
  have hsz:(evS s).length=1+((evL evW s.gives).length+((evL evW s.wants).length+((evL evW s.keeps).length+((evL evO s.sys.objs).length+((evL evF s.sys.fns).length+(evL evC s.sys.cons).length))))):=by simp [evS];omega
  have lw:∀l:List Str,l.length≤(evL evW l).length:=fun l=>ycy evW l (fun x=>by simp [evW])
  have lo:=ycy evO s.sys.objs (fun x=>by simp [evO])
  have lf:=ycy evF s.sys.fns (fun x=>by simp [evF])
  have lc:=ycy evC s.sys.cons (fun x=>by simp [evC])
  intro n hn
  simp only [evS,List.mem_cons,List.mem_append] at hn
  have tw:∀l:List Str,l.length≤1000000→Ev.num n∈evL evW l→0≤n∧n≤268435456:=fun l hl h=>by
    rcases yit h with h | ⟨a,_,h⟩
    · injection h with h;subst h;omega
    · simp [evW] at h
  have w1:=lw s.gives
  have w2:=lw s.wants
  have w3:=lw s.keeps
  rcases hn with h | h | h | h | h | h | h
  · cases h
  · exact tw _ (by omega) h
  · exact tw _ (by omega) h
  · exact tw _ (by omega) h
  · rcases yit h with h | ⟨o,hmo,h⟩
    · injection h with h;subst h;omega
    · have hol:=ykt (f:=evO) hmo
      simp only [evO,List.mem_cons] at h
      rcases h with h | h | h
      · cases h
      · cases h
      · have hm1:=ycy evM o.marks (fun x=>by simp [evM])
        have hm2:(evL evM o.marks).length≤(evO o).length:=by simp [evO];omega
        rcases yit h with h | ⟨m,hmm,h⟩
        · injection h with h;subst h;omega
        · have:=ho o hmo
          simp only [obE] at this
          split at this
          · cases this
          · split at this
            · cases this
            · split at this
              · cases this
              · rename_i hk
                split at this
                · rename_i hmk
                  have hp:=ype hmk m hmm
                  simp only [evM,List.mem_cons,List.not_mem_nil,or_false] at h
                  rcases h with h | h
                  · injection h with h;subst h
                    have:o.kinds.length≤64:=by
                      by_cases hq:kpB o.kinds=true∧1≤o.kinds.length∧o.kinds.length≤64
                      · exact hq.2.2
                      · exact (hk hq).elim
                    omega
                  · cases h
                · cases this
  · rcases yit h with h | ⟨f,hmf,h⟩
    · injection h with h;subst h;omega
    · simp [evF] at h
  · rcases yit h with h | ⟨c,hmc,h⟩
    · injection h with h;subst h;omega
    · have hcl:=ykt (f:=evC) hmc
      have hce:=hc c hmc
      have ha1:=lw c.args
      have ha2:(evL evW c.args).length≤(evC c).length:=by simp [evC];omega
      simp only [evC,List.mem_cons] at h
      have hop:1≤c.op∧c.op≤6∧0≤c.k∧c.k≤64:=by
        unfold cnE at hce
        by_cases h1:c.op<1∨6<c.op
        · rw [if_pos h1] at hce;cases hce
        rw [if_neg h1] at hce
        by_cases h2:¬(y9r c.a=true∧(c.op=6→yfi c.a=true)∧(if c.op=1 then yda c.b=true else y9r c.b=true))
        · rw [if_pos h2] at hce;cases hce
        rw [if_neg h2] at hce
        by_cases h6:c.op=6
        · rw [if_pos h6] at hce
          by_cases hcb:ycz c=true
          · simp only [ycz] at hcb
            split at hcb
            · cases hcb
            · simp only [Bool.and_eq_true,decide_eq_true_eq] at hcb
              have:=hcb.1.1.1.1.1
              omega
          · rw [if_neg hcb] at hce;cases hce
        rw [if_neg h6] at hce
        by_cases h5:c.op=5
        · rw [if_pos h5] at hce
          by_cases h7:c.args=[]∧0≤c.k∧c.k≤64∧ylm c.tag=true
          · omega
          · rw [if_neg h7] at hce;cases hce
        rw [if_neg h5] at hce
        by_cases h7:c.args=[]∧c.k=0∧c.tag=[]
        · omega
        · rw [if_neg h7] at hce;cases hce
      rcases h with h | h | h | h | h | h
      · injection h with h;subst h;omega
      · cases h
      · cases h
      · injection h with h;subst h;omega
      · cases h
      · exact tw _ (by omega) h
theorem yi3:∀{es:List Ev} {t:Str},Ev.txt t∈es↔t∈txs es
  | [],t=>by simp [txs]
  | .num n::es,t=>by simp [txs,yi3 (es:=es)]
  | .txt s::es,t=>by simp [txs,yi3 (es:=es)]
theorem yke:∀es:List Ev,(txs es).length≤es.length
  | []=>by simp [txs]
  | .num n::es=>by have:=yke es;simp [txs];omega
  | .txt s::es=>by have:=yke es;simp [txs];omega
theorem rec_good (s:Su) (he:suE s=0) (hb:(evS s).length≤1000000):(ylg (y4f s) s).2=0∧(yf6 (y4f s) qw0 (evS s)).e=0:=by
  have h0:(yf6 (y4f s) qw0 (evS s)).e=0:=by
    refine ygt ?_ (y9p _) _ _ rfl (yp9 s he hb) (fun t ht=>ydu.2 (yi3.1 ht))
    have h1:=yea (txs (evS s)) (txs (evS s)).length
    rw [List.take_length] at h1
    have h2:=yke (evS s)
    omega
  exact ⟨by simp only [ylg,h0];rfl,h0⟩
def GfInv (s:Sy) (H:Hp) (m:Nat) (F:Fr) (X:Hp):Prop:=
  ∃i n,i≤s.objs.length∧m=s.objs.length-i∧n≤30000∧(∀(j:Nat) o,j<i→s.objs[j]?=some o→o.marks.length≤3000)∧X=H∧F=[(2,.fp (y6g s) 0),(5,.i .i64 (n:Nat)),(6,.i .i64 i)]
def GfIn (s:Sy) (i n0:Nat) (ms:List Mk) (H:Hp) (m:Nat) (F:Fr) (X:Hp):Prop:=
  ∃k n,k≤ms.length∧k≤100∧m=ms.length-k∧n0≤n∧n≤n0+k*140737488355328∧X=H∧F=[(2,.fp (y6g s) 0),(5,.i .i64 (n:Nat)),(6,.i .i64 i),(7,.i .i64 k)]
def syF (n:Nat) (s:Sy):Prop:=syS s∧s.objs.length≤n∧s.fns.length≤n∧s.cons.length≤n∧(∀o∈s.objs,o.marks.length≤3000)∧∀c∈s.cons,c.args.length≤6000
theorem yqt (most:Nat) (hm:most≤100) (s:Sy) (hs:syZ s) (H:Hp):AC Tryz.prog yaz [.agg (y6g s),.i .i64 (most:Nat)] H (fun v H'=>(∃b,v=.b b∧(b=false→syF most s))∧H'=H):=by
  obtain ⟨z1,z2,z3,zo,zf,zc⟩:=hs
  refine AC.codeR y0.at y0.ok fun hlt=>?_
  simp only [y0]
  apply jA
  simp [y0.r0,y6g]
  refine AX.seq ?_
  refine AX.test (decide (most<s.objs.length)||decide (most<s.fns.length)||decide (most<s.cons.length)) [(2,.fp (y6g s) 0),(30,.b (decide (most<s.objs.length)||decide (most<s.fns.length)||decide (most<s.cons.length)))] ?_ rfl (fun hb=>?_) (fun hb=>AX.skip ?_)
  · by_cases h1:most<s.objs.length
    · simp [y0.r1,y6g,h1]
    by_cases h2:most<s.fns.length
    · simp [y0.r1,y6g,h1,h2]
    · simp [y0.r1,y6g,h1,h2]
  · apply jA
    simp [y0.r2]
    apply jD
    simp
    exact .refl _
  simp at hb
  simp
  apply jA
  simp [y0.r3]
  apply jB
  simp [y0.r4]
  refine AX.pblock (AX.loop (GfInv s H) s.objs.length ⟨_,_,.refl _ _,0,0,by omega,by omega,by omega,fun j o h=>by omega,rfl,by simp [y6g]⟩ ?_)
  rintro m F X ⟨i,n,hi,rfl,hn,hmk,hX,rfl⟩
  obtain rfl:=hX.symm
  simp only [y0.l0]
  apply jB
  simp [y0.r5,y6g]
  refine AX.pcond rfl (fun hc=>AX.skip ?_) (fun hc=>AX.exit ?_)
  · simp at hc
    obtain ⟨b1,b2,b3,b4⟩:=zo _ (List.getElem_mem hc)
    have hg:s.objs[i]?=some s.objs[i]:=List.getElem?_eq_getElem hc
    simp
    generalize s.objs[i]=o at *
    have w1:Go.IntKind.i64.wrap ((n:Int)+o.name.length)=(n:Int)+o.name.length:=y3g (by omega) (by omega)
    have w2:Go.IntKind.i64.wrap ((n:Int)+o.name.length+o.kinds.length)=(n:Int)+o.name.length+o.kinds.length:=y3g (by omega) (by omega)
    have w3:Go.IntKind.i64.wrap (10*(o.marks.length:Int))=10*(o.marks.length:Int):=y3g (by omega) (by omega)
    have w4:Go.IntKind.i64.wrap ((n:Int)+o.name.length+o.kinds.length+10*o.marks.length)=(n:Int)+o.name.length+o.kinds.length+10*o.marks.length:=y3g (by omega) (by omega)
    refine AX.seq (AX.pblock (AX.seq (AX.drw ?_)))
    simp [y0.r6,y6g,hg,y5p,w1,w2,w3,w4]
    obtain ⟨n0,hn0⟩:∃n0,n0=n+o.name.length+o.kinds.length+10*o.marks.length:=⟨_,rfl⟩
    rw [show ((n:Int)+o.name.length+o.kinds.length+10*o.marks.length)=((n0:Nat):Int) by omega]
    apply jB
    simp [y0.r7]
    refine AX.pblock (AX.loop (GfIn s i n0 o.marks H) o.marks.length ⟨_,_,.refl _ _,0,n0,by omega,by omega,by omega,by omega,by omega,rfl,by simp [y6g]⟩ ?_)
    rintro m F Y ⟨k,n1,hkl,hk5,rfl,h0,h1,hY,rfl⟩
    obtain rfl:=hY.symm
    simp only [y0.l1]
    refine AX.seq (AX.test (decide (k<o.marks.length∧k<100)) [(2,.fp (y6g s) 0),(5,.i .i64 (n1:Nat)),(6,.i .i64 i),(7,.i .i64 k),(76,.b (decide (k<o.marks.length∧k<100)))] ?_ rfl (fun h=>AX.skip ?_) (fun h=>AX.exit ?_))
    · by_cases hkk:k<o.marks.length
      · simp [y0.r8,y6g,hg,y5p,hkk]
      · simp [y0.r8,y6g,hg,y5p,hkk]
    · simp at h
      have b5:=b4 _ (List.getElem_mem h.1)
      have hgk:o.marks[k]?=some (o.marks[k]'h.1):=List.getElem?_eq_getElem h.1
      generalize o.marks[k]'h.1=mk at *
      have w5:Go.IntKind.i64.wrap ((n1:Int)+mk.tag.length)=(n1:Int)+mk.tag.length:=y3g (by omega) (by omega)
      simp
      refine AX.seq (AX.pblock (AX.reg ?_))
      simp [y0.r9,y6g,hg,hgk,y5p,ybe,w5]
      rw [show ((n1:Int)+mk.tag.length)=((n1+mk.tag.length:Nat):Int) by omega]
      apply jE
      simp [y0.r10,yel (show k≤9223372036854775000 by omega)]
      refine ⟨o.marks.length-(k+1),by omega,_,_,.refl _ _,k+1,n1+mk.tag.length,by omega,by omega,rfl,by omega,?_,rfl,by simp [y6g]⟩
      rw [Nat.succ_mul];omega
    · simp
      apply jA
      simp [y0.r11]
      by_cases hbig:30000<n1
      · refine jG (by simp;omega) (jA ?_)
        simp [y0.r12]
        apply jD
        simp
        exact .refl _
      · refine jF (by simp;omega) (AX.skip ?_)
        simp
        apply jE
        simp [y0.r13,yel (show i≤9223372036854775000 by omega)]
        refine ⟨s.objs.length-(i+1),by omega,_,_,.refl _ _,i+1,n1,by omega,rfl,by omega,fun j o' hj' ho'=>?_,rfl,by simp [y6g]⟩
        by_cases e:j=i
        · subst e
          rw [hg] at ho';injection ho' with ho';subst ho';omega
        · exact hmk j o' (by omega) ho'
  simp at hc
  simp
  apply jB
  simp [y0.r14]
  refine AX.pblock (AX.loop (GrInv2 s H) s.fns.length ⟨_,_,.refl _ _,0,n,by omega,by omega,by omega,rfl,by simp [y6g]⟩ ?_)
  rintro m F X ⟨j,n2,hj,rfl,hn2,hX,rfl⟩
  obtain rfl:=hX.symm
  simp only [y0.l2]
  apply jB
  simp [y0.r15,y6g]
  refine AX.pcond rfl (fun hd=>AX.skip ?_) (fun hd=>AX.exit ?_)
  · simp at hd
    obtain ⟨⟨b1,b2⟩,b3⟩:=zf _ (List.getElem_mem hd)
    have hg:s.fns[j]?=some s.fns[j]:=List.getElem?_eq_getElem hd
    simp
    generalize s.fns[j]=f at *
    have w1:Go.IntKind.i64.wrap ((n2:Int)+f.name.length)=(n2:Int)+f.name.length:=y3g (by omega) (by omega)
    have w2:Go.IntKind.i64.wrap ((n2:Int)+f.name.length+f.kinds.length)=(n2:Int)+f.name.length+f.kinds.length:=y3g (by omega) (by omega)
    have w3:Go.IntKind.i64.wrap ((n2:Int)+f.name.length+f.kinds.length+f.ret.length)=(n2:Int)+f.name.length+f.kinds.length+f.ret.length:=y3g (by omega) (by omega)
    refine AX.seq (AX.pblock (AX.seq (AX.drw ?_)))
    simp [y0.r16,y6g,hg,ya5,w1,w2,w3]
    obtain ⟨n1,hn1⟩:∃n1,n1=n2+f.name.length+f.kinds.length+f.ret.length:=⟨_,rfl⟩
    rw [show ((n2:Int)+f.name.length+f.kinds.length+f.ret.length)=((n1:Nat):Int) by omega]
    apply jA
    simp [y0.r17]
    by_cases hbig:30000<n1
    · refine jG (by simp;omega) (jA ?_)
      simp [y0.r18]
      apply jD
      simp
      exact .refl _
    · refine jF (by simp;omega) (AX.skip ?_)
      simp
      apply jE
      simp [y0.r19,yel (show j≤9223372036854775000 by omega)]
      exact ⟨s.fns.length-(j+1),by omega,_,_,.refl _ _,j+1,n1,by omega,rfl,by omega,rfl,by simp [y6g]⟩
  simp at hd
  simp
  apply jB
  simp [y0.r20]
  refine AX.pblock (AX.loop (GrInv3 s H) s.cons.length ⟨_,_,.refl _ _,0,n2,by omega,by omega,by omega,fun j c h=>by omega,.refl _,hlt,by simp [y6g]⟩ ?_)
  rintro m F X ⟨q,n3,hq,rfl,hn3,hall,X1,L1,rfl⟩
  simp only [y0.l3]
  apply jB
  simp [y0.r21,y6g]
  refine AX.pcond rfl (fun he=>AX.skip ?_) (fun he=>AX.exit ?_)
  case refine_2=>
    simp at he
    simp
    apply jA
    simp [y0.r31]
    apply jD
    simp
    refine ⟨⟨⟨by omega,by omega,by omega,zo,fun f hf=>(zf f hf).1,fun c hcm=>?_⟩,by omega,by omega,by omega,fun o hom=>?_,fun c hcm=>?_⟩,X1⟩
    rotate_left
    · obtain ⟨k,hk⟩:=List.mem_iff_getElem?.1 hom
      exact hmk k o (by have:=(List.getElem?_eq_some_iff.1 hk).1;omega) hk
    · obtain ⟨k,hk⟩:=List.mem_iff_getElem?.1 hcm
      exact hall k c (by have:=(List.getElem?_eq_some_iff.1 hk).1;omega) hk
    obtain ⟨g1,g2,g3,g4,g5⟩:=zc c hcm
    obtain ⟨k,hk⟩:=List.mem_iff_getElem?.1 hcm
    have:=hall k c (by have:=(List.getElem?_eq_some_iff.1 hk).1;omega) hk
    exact ⟨g1,g2,g3,by omega,g5⟩
  simp at he
  obtain ⟨g1,g2,g3,g4,g5⟩:=zc _ (List.getElem_mem he)
  have hg:s.cons[q]?=some s.cons[q]:=List.getElem?_eq_getElem he
  simp
  generalize s.cons[q]=c at *
  apply jC
  simp [y0.r22,hg,y5y,ss]
  have X4:=X1.trans (ye8 L1 (.cells [.i .i64 0,.s [],.s [],.i .i64 0,.s [],.sl none 0 0] 6) (.cells [.i .i64 c.op,.s c.a,.s c.b,.i .i64 c.k,.s c.tag,.fs (c.args.map fun x=>[.s x])] 6))
  have L4:=lt2 L1 (.cells [.i .i64 0,.s [],.s [],.i .i64 0,.s [],.sl none 0 0] 6) (.cells [.i .i64 c.op,.s c.a,.s c.b,.i .i64 c.k,.s c.tag,.fs (c.args.map fun x=>[.s x])] 6)
  have G4:((X.add (.cells [.i .i64 0,.s [],.s [],.i .i64 0,.s [],.sl none 0 0] 6)).upd X.next (.cells [.i .i64 c.op,.s c.a,.s c.b,.i .i64 c.k,.s c.tag,.fs (c.args.map fun x=>[.s x])] 6)).get X.next=some (.cells [.i .i64 c.op,.s c.a,.s c.b,.i .i64 c.k,.s c.tag,.fs (c.args.map fun x=>[.s x])] 6):=by simp
  generalize (X.add (.cells [.i .i64 0,.s [],.s [],.i .i64 0,.s [],.sl none 0 0] 6)).upd X.next (.cells [.i .i64 c.op,.s c.a,.s c.b,.i .i64 c.k,.s c.tag,.fs (c.args.map fun x=>[.s x])] 6)=Z at *
  generalize X.next=id at *
  have w1:Go.IntKind.i64.wrap ((n3:Int)+c.a.length)=(n3:Int)+c.a.length:=y3g (by omega) (by omega)
  have w2:Go.IntKind.i64.wrap ((n3:Int)+c.a.length+c.b.length)=(n3:Int)+c.a.length+c.b.length:=y3g (by omega) (by omega)
  have w3:Go.IntKind.i64.wrap ((n3:Int)+c.a.length+c.b.length+c.tag.length)=(n3:Int)+c.a.length+c.b.length+c.tag.length:=y3g (by omega) (by omega)
  have w4:Go.IntKind.i64.wrap (10*(c.args.length:Int))=10*(c.args.length:Int):=y3g (by omega) (by omega)
  have w5:Go.IntKind.i64.wrap ((n3:Int)+c.a.length+c.b.length+c.tag.length+10*c.args.length)=(n3:Int)+c.a.length+c.b.length+c.tag.length+10*c.args.length:=y3g (by omega) (by omega)
  apply jA
  simp [y0.r23,G4,w1,w2,w3,w4,w5]
  obtain ⟨n0,hn0⟩:∃n0,n0=n3+c.a.length+c.b.length+c.tag.length+10*c.args.length:=⟨_,rfl⟩
  rw [show ((n3:Int)+c.a.length+c.b.length+c.tag.length+10*c.args.length)=((n0:Nat):Int) by omega]
  apply jB
  simp [y0.r24]
  refine AX.pblock (AX.loop (GrIn3 s q n0 id c.args Z) c.args.length ⟨_,_,.refl _ _,0,n0,by omega,by omega,by omega,by omega,by omega,rfl,by simp [y6g]⟩ ?_)
  rintro m F Y ⟨k,n1,hkl,hk5,rfl,h0,h1,hY,rfl⟩
  obtain rfl:=hY.symm
  simp only [y0.l4]
  refine AX.seq (AX.test (decide (k<c.args.length∧k<100)) [(2,.fp (y6g s) 0),(5,.i .i64 (n1:Nat)),(9,.i .i64 q),(10,.p (some (id,0,6))),(11,.i .i64 k),(166,.b (decide (k<c.args.length∧k<100)))] ?_ rfl (fun h=>AX.skip ?_) (fun h=>AX.exit ?_))
  · by_cases hkk:k<c.args.length
    · simp [y0.r25,y6g,G4,hkk]
    · simp [y0.r25,y6g,G4,hkk]
  · simp at h
    have b5:=g5 _ (List.getElem_mem h.1)
    have hgk:c.args[k]?=some (c.args[k]'h.1):=List.getElem?_eq_getElem h.1
    generalize c.args[k]'h.1=a at *
    have w6:Go.IntKind.i64.wrap ((n1:Int)+a.length)=(n1:Int)+a.length:=y3g (by omega) (by omega)
    simp
    refine AX.seq (AX.pblock (AX.reg ?_))
    simp [y0.r26,G4,hgk,w6]
    rw [show ((n1:Int)+a.length)=((n1+a.length:Nat):Int) by omega]
    apply jE
    simp [y0.r27,yel (show k≤9223372036854775000 by omega)]
    refine ⟨c.args.length-(k+1),by omega,_,_,.refl _ _,k+1,n1+a.length,by omega,by omega,rfl,by omega,?_,rfl,by simp [y6g]⟩
    rw [Nat.succ_mul];omega
  · simp
    apply jA
    simp [y0.r28]
    by_cases hbig:60000<n1
    · refine jG (by simp;omega) (jA ?_)
      simp [y0.r29]
      apply jD
      simp
      exact X4
    · refine jF (by simp;omega) (AX.skip ?_)
      simp
      apply jE
      simp [y0.r30,yel (show q≤9223372036854775000 by omega)]
      refine ⟨s.cons.length-(q+1),by omega,_,_,.refl _ _,q+1,n1,by omega,rfl,by omega,fun j c' hj' hc'=>?_,X4,L4,by simp [y6g]⟩
      by_cases e:j=q
      · subst e
        rw [hg] at hc';injection hc' with hc';subst hc';omega
      · exact hall j c' (by omega) hc'
theorem yga {α:Type} (f:α→List Ev) (k:Nat):∀l:List α,(∀x∈l,(f x).length≤k)→(evL f l).length≤1+l.length*k
  | [],_=>by simp [evL]
  | x::l,h=>by
    have h1:=h x (by simp)
    have h2:=yga f k l fun y hy=>h y (by simp [hy])
    simp only [evL,List.length_cons,List.flatMap_cons,List.length_append] at h2 ⊢
    rw [Nat.succ_mul];omega
def suH (s:Su):Prop:=suF s∧s.gives.length≤60∧s.wants.length≤60∧s.keeps.length≤200∧syF 80 s.sys
theorem evS_len {s:Su} (h:syF 80 s.sys) (hg:s.gives.length≤60) (hw:s.wants.length≤60) (hk:s.keeps.length≤200):(evS s).length≤1000000:=by
  obtain ⟨_,h1,h2,h3,h4,h5⟩:=h
  have e1:=yga evW 1 s.gives (fun x _=>by simp [evW])
  have e2:=yga evW 1 s.wants (fun x _=>by simp [evW])
  have e3:=yga evW 1 s.keeps (fun x _=>by simp [evW])
  have e4:=yga evO 6003 s.sys.objs (fun o ho=>by
    have:=yga evM 2 o.marks (fun x _=>by simp [evM])
    have:=h4 o ho
    simp [evO];omega)
  have e5:=yga evF 3 s.sys.fns (fun x _=>by simp [evF])
  have e6:=yga evC 6006 s.sys.cons (fun c hc=>by
    have:=yga evW 1 c.args (fun x _=>by simp [evW])
    have:=h5 c hc
    simp [evC];omega)
  have h1':=Nat.mul_le_mul_right 6003 h1
  have h2':=Nat.mul_le_mul_right 6006 h3
  simp only [evS,List.length_cons,List.length_append]
  omega
def suZ (s:Su):Prop:=s.name.length≤140737488355328∧s.gives.length≤140737488355328∧s.wants.length≤140737488355328∧s.keeps.length≤140737488355328∧(∀k∈s.keeps,k.length≤140737488355328)∧syZ s.sys
def GtInv (l:List Str) (H:Hp) (m:Nat) (F:Fr) (X:Hp):Prop:=
  ∃i,i≤l.length∧i≤60∧m=l.length-i∧X=H∧F=[(0,ss l),(3,.i .i64 i)]
theorem ygi (l:List Str) (H:Hp):AC Tryz.prog y77 [ss l] H (fun v H'=>(∃b,v=.b b∧(b=false→l.length≤60))∧H'=H):=by
  refine AC.code y1k.at y1k.ok ?_
  simp only [y1k]
  apply jA
  simp [y1k.r0]
  apply jB
  simp [y1k.r1]
  refine AX.pblock (AX.loop (GtInv l H) l.length ⟨_,_,.refl _ _,0,by omega,by omega,by omega,rfl,rfl⟩ ?_)
  rintro m F X ⟨i,hi,hi60,rfl,rfl,rfl⟩
  simp only [y1k.l0]
  apply jB
  simp [y1k.r2,ss]
  refine AX.pcond rfl (fun hc=>AX.skip ?_) (fun hc=>AX.exit ?_)
  · simp at hc
    simp
    obtain ⟨tb,htb⟩:∃tb,tb=(decide (60≤i)||decide (100<l[i].length)):=⟨_,rfl⟩
    refine AX.seq (AX.pblock (AX.test tb [(0,ss l),(3,.i .i64 i),(19,.b tb)] ?_ rfl (fun h=>jA ?_) (fun h=>AX.skip ?_)))
    · by_cases h60:60≤i
      · simp [y1k.r3,h60,htb,ss]
      · simp [y1k.r3,h60,htb,ss,hc]
    · simp [y1k.r4]
      apply jD
      simp
    · rw [htb] at h
      simp at h
      simp
      apply jE
      simp [y1k.r5,y5n (show i≤9223372036854775000 by omega)]
      exact ⟨l.length-(i+1),by omega,_,_,.refl _ _,i+1,by omega,by omega,rfl,rfl,by simp [ss]⟩
  simp
  apply jA
  simp [y1k.r6]
  apply jD
  simp at hc ⊢
  omega
def GkInv (l:List Str) (H:Hp) (m:Nat) (F:Fr) (X:Hp):Prop:=
  ∃i,i≤l.length∧m=l.length-i∧X=H∧F=[(0,ss l),(3,.i .i64 i)]
theorem ykx (l:List Str) (hl:l.length≤140737488355328) (H:Hp):AC Tryz.prog y8u [ss l] H (fun v H'=>(∃b,v=.b b)∧H'=H):=by
  refine AC.code y1n.at y1n.ok ?_
  simp only [y1n]
  apply jA
  simp [y1n.r0]
  apply jB
  simp [y1n.r1]
  refine AX.pblock (AX.loop (GkInv l H) l.length ⟨_,_,.refl _ _,0,by omega,by omega,rfl,rfl⟩ ?_)
  rintro m F X ⟨i,hi,rfl,rfl,rfl⟩
  simp only [y1n.l0]
  apply jB
  simp [y1n.r2,ss]
  refine AX.pcond rfl (fun hc=>AX.skip ?_) (fun hc=>AX.exit ?_)
  · simp at hc
    simp
    apply jC
    simp [y1n.r3,hc]
    refine AX.pcond rfl (fun h=>jA ?_) (fun h=>AX.skip ?_)
    · simp [y1n.r4]
      apply jD
      simp
    · simp
      apply jE
      simp [y1n.r5,y5n (show i≤9223372036854775000 by omega)]
      exact ⟨l.length-(i+1),by omega,_,_,.refl _ _,i+1,by omega,rfl,rfl,by simp [ss]⟩
  simp
  apply jA
  simp [y1n.r6]
  apply jD
  simp
theorem yj2 (s:Su) (hs:suZ s) (H:Hp):AC Tryz.prog y9a [.agg (y5u s)] H (fun v H'=>(∃b,v=.b b∧(b=false→suH s))∧H'=H):=by
  obtain ⟨z1,z2,z3,z4,z5,z6⟩:=hs
  have hS:syF 80 s.sys→s.gives.length≤60→s.wants.length≤60→s.keeps.length≤200→suH s:=fun h h1 h2 h3=>⟨⟨⟨z1,z2,z3,z4,z5,h.1⟩,evS_len h h1 h2 h3⟩,h1,h2,h3,h⟩
  refine AC.code y4a.at y4a.ok ?_
  simp only [y4a]
  apply jA
  simp [y4a.r0,y5u]
  apply jA
  by_cases h1:100<s.name.length
  · simp [y4a.r1,y5u,h1]
    apply jD
    simp
  simp [y4a.r1,y5u,h1]
  refine (yqt 80 (by omega) s.sys z6 H).mono ?_
  rintro _ _ ⟨⟨b,rfl,hb⟩,rfl⟩
  cases b with
  | true=>
    simp
    apply jD
    simp
  | false=>
  have hS:=hS (hb rfl)
  simp
  refine (ygi s.gives _).mono ?_
  rintro _ _ ⟨⟨b,rfl,hgv⟩,rfl⟩
  cases b with
  | true=>
    simp
    apply jD
    simp
  | false=>
  simp
  refine (ygi s.wants _).mono ?_
  rintro _ _ ⟨⟨b,rfl,hwt⟩,rfl⟩
  cases b with
  | true=>
    simp
    apply jD
    simp
  | false=>
  by_cases h2:200<s.keeps.length
  · simp [h2,ss]
    apply jD
    simp
  simp [h2,ss]
  refine (ykx s.keeps z4 _).mono ?_
  rintro _ _ ⟨⟨b,rfl⟩,rfl⟩
  simp
  apply jD
  simp
  cases b <;> simp [hS (hgv rfl) (hwt rfl) (by omega)]
end Go.Proofs.YthmkcebbeehbeaaGreatDoor
