/- Part 10. -/
import Derived.Test.YtikpijbeobeckaaGreatDoorXGw9
set_option linter.unusedSimpArgs false
set_option linter.unusedVariables false
namespace Go.Proofs.YtikpijbeobeckaaGreatDoor.Am
open Go Go.RowKit
inductive Rch (ops:Array Oper):Nat→Nat→Prop
 | edge (j:Nat) (o:Oper) (e:Edge):ops[j]?=some o→e∈o.after→Region.binds .any e=true→Rch ops e.on j
 | step (i k j:Nat):Rch ops i k→Rch ops k j→Rch ops i j
def ygz (acc:List Nat) (es:List Edge):Nat:=
 match es with
 | []=>0
 | e::r=>if Region.binds .any e then (2 ^ e.on ||| (acc.getD e.on 0 ||| ygz acc r)) else ygz acc r
def befs (acc:List Nat):List Oper→List Nat
 | []=>acc
 | o::r=>befs (acc++[ygz acc o.after.toList]) r
theorem ye0 {ops:Array Oper} {acc:List Nat} {j:Nat} {o:Oper} (ho:ops[j]?=some o) (hacc:∀k m,acc[k]?=some m→∀i,m.testBit i=true→Rch ops i k):
  ∀(es:List Edge),(∀e∈es,e∈o.after)→∀i,(ygz acc es).testBit i=true→Rch ops i j
 | [],_,i,h=>by simp [ygz] at h
 | e::r,hes,i,h=>by
  simp only [ygz] at h
  split at h
  ·rename_i hb
   simp only [Nat.testBit_or,Bool.or_eq_true] at h
   have he:Rch ops e.on j:=.edge j o e ho (hes e (by simp)) hb
   rcases h with h | h | h
   ·rw [Nat.testBit_two_pow] at h
    simp at h;subst h;exact he
   ·cases ha:acc[e.on]? with
    | none=>simp [List.getD,ha] at h
    | some m=>simp [List.getD,ha] at h;exact .step _ _ _ (hacc _ _ ha i h) he
   ·exact ye0 ho hacc r (fun e he=>hes e (by simp [he])) i h
  ·exact ye0 ho hacc r (fun e he=>hes e (by simp [he])) i h
theorem yg6 {ops:Array Oper}:∀(os:List Oper) (acc:List Nat),(∀j,os[j]?=ops[acc.length+j]?)→(∀k m,acc[k]?=some m→∀i,m.testBit i=true→Rch ops i k)→
  ∀(j m:Nat),(befs acc os)[j]?=some m→∀i,m.testBit i=true→Rch ops i j
 | [],acc,_,hacc,j,m,h=>hacc j m h
 | o::r,acc,hos,hacc,j,m,h=>by
  have h0:ops[acc.length]?=some o:=by simpa using (hos 0).symm
  refine yg6 r (acc++[ygz acc o.after.toList]) (fun j=>?_) (fun k m hk=>?_) j m h
  ·have:=hos (j+1)
   simpa [ki,Nat.add_comm 1 j] using this
  ·by_cases hka:k<acc.length
   ·rw [kR hka] at hk;exact hacc k m hk
   ·rw [kX (by omega)] at hk
    have:k=acc.length:=by
     rcases Nat.lt_or_ge (k-acc.length) 1 with q | q
     ·omega
     ·simp [List.getElem?_eq_none (show ([ygz acc o.after.toList]:List Nat).length≤k-acc.length by simpa using q)] at hk
    subst this
    simp at hk;subst hk
    exact ye0 h0 hacc _ (fun e he=>by simpa using he)
def y3g (bs:List Nat) (i j:Nat):Bool:=(bs.getD j 0).testBit i
def ye8 (ops:List Oper):Bool:=ops.zipIdx.all fun (o,j)=>o.after.all fun e=>!Region.binds .any e||decide (e.on<j)
def ybh (x y:AStep):Bool:=
 (match x.dst with | some d=>(otS y).contains d||y.dst == some d | none=>false)||(match y.dst with | some d=>(otS x).contains d | none=>false)
def y9x (bs:List Nat) (ss:List AStep):Bool:=
 ss.zipIdx.all fun (y,j)=>(ss.take j).zipIdx.all fun (x,i)=>!ybh x y||y3g bs i j
structure LogE where
 i:Nat
 c:Cls
 H0:Hp
 H1:Hp
 re:Hp→Prop
def y8f (bs:List Nat) (x y:LogE):Prop:=
 y3g bs x.i y.i=true∨match x.c,y.c with
  | .eff,.eff=>False
  | .rd,.eff=>x.re y.H1
  | .eff,.rd=>y.re x.H0
  | _,_=>True
def y9e (bs:List Nat):List LogE→LogE→Prop
 | [],_=>True
 | x::l,y=>y8f bs x y∧y9e bs l y
theorem yds {bs:List Nat} {y:LogE}:∀{l:List LogE},y9e bs l y→∀x∈l,y8f bs x y
 | [],_,_,h=>by cases h
 | x::l,h,z,hz=>by
  rcases List.mem_cons.1 hz with rfl | hz
  ·exact h.1
  ·exact yds h.2 z hz
theorem ycp {bs:List Nat} {ss:List AStep} (h:y9x bs ss=true) {i j:Nat} {x y:AStep} (hij:i<j) (hi:ss[i]?=some x) (hj:ss[j]?=some y) (hc:ybh x y=true):y3g bs i j=true:=by
 have hm:(y,j)∈ss.zipIdx:=by rw [List.mem_zipIdx_iff_getElem?];simpa using hj
 have h1:=List.all_eq_true.1 h _ hm
 have hm2:(x,i)∈(ss.take j).zipIdx:=by
  rw [List.mem_zipIdx_iff_getElem?]
  simp [hij,hi]
 have:=List.all_eq_true.1 h1 _ hm2
 simpa [hc] using this
structure StepR (P:Program) (n:Nat) (ops:Array Oper) (j:Nat) (s:AStep) (F F':Fr) (H H':Hp) (v:V) (c:Cls) (re:Hp→Prop):Prop where
 ex:∃o,ops[j]?=some o∧o.dst=s.dst
 dok:yen n s.dst=true
 put:F'=Am.put F s.dst v
 same:c≠.eff→H'=H
 here:c=.rd→re H
 run:∀(ro:Option Nat) (κ:K) (a:Act) (F2:Fr) (H2:Hp),At κ F2 H2 n ro a→y4c (otS s) F2 F→(c=.eff→H2=H)→(c=.rd→re H2)→
  ∀(J:Act→World→Prop) (Q:Exit→Act→World→Prop),(∀κ' cv,κ.Le κ'→Sim κ' (if c=.eff then H' else H2)→VR κ' v cv→J (a.put s.dst cv) κ'.w)→wpOpIn (FF ro) 0 P ops Q j J a κ.w
def yis (P:Program) (f:FuncId) (args:List V) (K:Cls→V→Hp→(Hp→Prop)→Prop) (H:Hp):Prop:=
 (∃v,(∀H2,AC P f args H2 fun u H'=>u=v∧H'=H2)∧K .pure v H (fun _=>True)) ∨
 (∃v,AC P f args H (fun u H'=>u=v∧H'=H)∧K .rd v H (fun H2=>AC P f args H2 fun u H'=>u=v∧H'=H2)) ∨
 ∃v H1,AC P f args H (fun u H'=>u=v∧H'=H1)∧K .eff v H1 (fun _=>True)
def yldC (P:Program) (id:Nat) (args:List V) (K:Cls→V→Hp→(Hp→Prop)→Prop) (H:Hp):Prop:=∃v H1,YC P id args H (fun u H'=>u=v∧H'=H1)∧K .eff v H1 (fun _=>True)
def goD (P:Program) (s:AStep) (K:Cls→V→Hp→(Hp→Prop)→Prop) (F:Fr) (H:Hp):Prop:=
 match s.d with
 | .op o=>match y2c o F H with
  | some (v,H')=>K (yla o F) v H' (fun H2=>y2c o F H2=some (v,H2))
  | none=>False
 | .call f args=>yis P f (evs F args) K H
 | .callv fv args=>match ev F fv with
  | .fn f caps=>yis P f (evs F args++caps) K H
  | .fb f bs=>yis P f (bs++evs F args) K H
  | .yl id=>yldC P id (evs F args) K H
  | _=>False
 | .nxt _=>False
def logD (bs:List Nat) (j:Nat) (c:Cls) (H H':Hp) (re:Hp→Prop) (log:List LogE) (k:List LogE→Prop):Prop:=
 match c with
 | .pure=>k log
 | c=>y9e bs log ⟨j,c,H,H',re⟩∧k (log++[⟨j,c,H,H',re⟩])
def yap (P:Program) (bs:List Nat):Nat→List AStep→List LogE→(Fr→Hp→Prop)→Fr→Hp→Prop
 | _,[],_,K,F,H=>K F H
 | j,s::r,log,K,F,H=>
  match s.g with
  | none=>goD P s (fun c v H' re=>logD bs j c H H' re log fun log'=>yap P bs (j+1) r log' K (put F s.dst v) H') F H
  | some (t,b)=>match y6o F t with
   | .b x=>(x=b→goD P s (fun c v H' re=>logD bs j c H H' re log fun log'=>yap P bs (j+1) r log' K (put F s.dst v) H') F H)∧(x≠b→yap P bs (j+1) r log K (put F s.dst (.tup [])) H)
   | .tup []=>yap P bs (j+1) r log K (put F s.dst (.tup [])) H
   | _=>False
theorem yo6 {P:Program} {n:Nat} {ops:Array Oper} {j:Nat} {o:Oper} {s:AStep} (ho:ops[j]?=some o) (hd:o.dst=s.dst) (hn:yen n s.dst=true) (hok:yhu P o.op s.d=true)
  {F:Fr} {H:Hp} (hw:∀(κ:K) (a:Act) (F2:Fr),FR κ F2 a.tmps→y4c (otS s) F2 F→Region.wanted o (yielded ops a.tmps)=true) {J0:Cls→V→Hp→(Hp→Prop)→Prop} (hg:goD P s J0 F H):
  ∃c v H' re,StepR P n ops j s F (put F s.dst v) H H' v c re∧J0 c v H' re:=by
 have hnd:=yfl hok
 have wpo:∀{ro:Option Nat} {κ:K} {a:Act} {F2:Fr} {J:Act→World→Prop} {Q:Exit→Act→World→Prop},FR κ F2 a.tmps→y4c (otS s) F2 F→o.wpIn (FF ro) 0 P a κ.w J Q→wpOpIn (FF ro) 0 P ops Q j J a κ.w:=fun {ro κ a F2 J Q} r ag h=>by
  unfold wpOpIn
  simp only [ho]
  rw [if_pos (hw κ a F2 r ag)]
  exact h
 obtain ⟨sd,sg,sdo⟩:=s
 cases sdo with
 | op p=>
  simp only [goD] at hg
  split at hg
  ·rename_i v H' hst
   have same:yla p F≠.eff→H'=H:=fun hne=>by
    cases hc:yla p F with
    | pure=>exact (ykb hc hst).1
    | rd=>exact cls_rd hc hst
    | eff=>exact absurd hc hne
   refine ⟨yla p F,v,H',_,⟨⟨o,ho,hd⟩,hn,rfl,same,fun hr=>?_,fun ro κ a F2 H2 A ag hH hR J Q hJ=>?_⟩,hg⟩
   ·have e:=same (by rw [hr];simp)
    rw [e] at hst;exact hst
   ·refine wpo A.r ag ?_
    have ag':y4c (ylt p) F2 F:=y4c.left (a:=ylt p) ag
    have hst2:y2c p F2 H2=some (v,if yla p F=.eff then H' else H2):=by
     rw [yiu ag']
     cases hc:yla p F with
     | pure=>simpa using (ykb hc hst).2 H2
     | rd=>simpa using hR hc
     | eff=>have:=hH hc;subst this;simpa using hst
    obtain ⟨κ',nx,cv,le,S',rv,run,hnx⟩:=yi9 hok F2 H2 v _ hst2 κ a A.S A.r
    have:=hJ κ' cv le S' rv
    refine yb3 hnd ?_
    rw [run]
    rcases hnx with rfl | ⟨rfl,rfl⟩
    ·simp only [Oper.uponIn_value];rw [hd];exact this
    ·simp only [Oper.uponIn_skip];rw [hd];exact this
  ·exact hg.elim
 | call f args=>
  simp only [goD] at hg
  simp only [yhu] at hok
  split at hok
  ·rename_i g os ts hop
   simp only [kF,beq_iff_eq] at hok
   obtain ⟨rfl,h2⟩:=hok
   have run:∀{ro:Option Nat} {κ:K} {a:Act} {F2:Fr} {H2:Hp} {R:V→Hp→Prop} {J:Act→World→Prop} {Q:Exit→Act→World→Prop},At κ F2 H2 n ro a→y4c (yey args) F2 F→AC P f (evs F args) H2 R→
     (∀κ' v cv H',κ.Le κ'→Sim κ' H'→VR κ' v cv→R v H'→J (a.put o.dst cv) κ'.w)→o.wpIn (FF ro) 0 P a κ.w J Q:=fun {ro κ a F2 H2 R J Q} A ag hac hK=>by
    have hv:=y5s h2 A.r
    rw [ag.evs] at hv
    refine yb2 hac A.S (cs:=os.map a.eval) (by rw [Array.toList_map];exact hv) hnd ?_ hK
    simp only [execOp,hop,resolve,Sem.run_bind,Act.eval,Deferred.ofValue,Sem.run_pure,Result.andThen_ok,invoke]
    simpa using y4j hac.1
   simp only [yis] at hg
   rcases hg with ⟨v,hac,k⟩ | ⟨v,hac,k⟩ | ⟨v,H1,hac,k⟩
   ·refine ⟨.pure,v,H,_,⟨⟨o,ho,hd⟩,hn,rfl,fun _=>rfl,(fun h=>by cases h),fun ro κ a F2 H2 A ag hH hR J Q hJ=>?_⟩,k⟩
    refine wpo A.r ag (run A (y4c.left (a:=yey args) ag) (hac H2) fun κ' u cv H' le S' rv hR=>?_)
    obtain ⟨rfl,rfl⟩:=hR
    rw [hd];exact hJ κ' cv le (by simpa using S') rv
   ·refine ⟨.rd,v,H,_,⟨⟨o,ho,hd⟩,hn,rfl,fun _=>rfl,(fun _=>hac),fun ro κ a F2 H2 A ag hH hR J Q hJ=>?_⟩,k⟩
    refine wpo A.r ag (run A (y4c.left (a:=yey args) ag) (hR rfl) fun κ' u cv H' le S' rv hR=>?_)
    obtain ⟨rfl,rfl⟩:=hR
    rw [hd];exact hJ κ' cv le (by simpa using S') rv
   ·refine ⟨.eff,v,H1,_,⟨⟨o,ho,hd⟩,hn,rfl,fun h=>absurd rfl h,(fun h=>by cases h),fun ro κ a F2 H2 A ag hH hR J Q hJ=>?_⟩,k⟩
    have:=hH rfl;subst this
    refine wpo A.r ag (run A (y4c.left (a:=yey args) ag) hac fun κ' u cv H' le S' rv hR=>?_)
    obtain ⟨rfl,rfl⟩:=hR
    rw [hd];exact hJ κ' cv le (by simpa using S') rv
  ·cases hok
 | nxt x=>simp only [goD] at hg
 | callv fv args=>
  simp only [goD] at hg
  simp only [yhu] at hok
  split at hg
  ·rename_i f caps hfv
   split at hok
   ·rename_i x os ts hop
    simp only [kF] at hok
    obtain ⟨h1,h2⟩:=hok
    have run:∀{ro:Option Nat} {κ:K} {a:Act} {F2:Fr} {H2:Hp} {R:V→Hp→Prop} {J:Act→World→Prop} {Q:Exit→Act→World→Prop},At κ F2 H2 n ro a→y4c (otA fv++yey args) F2 F→AC P f (evs F args++caps) H2 R→
      (∀κ' v cv H',κ.Le κ'→Sim κ' H'→VR κ' v cv→R v H'→J (a.put o.dst cv) κ'.w)→o.wpIn (FF ro) 0 P a κ.w J Q:=fun {ro κ a F2 H2 R J Q} A ag hac hK=>by
     have hv:=y5s h2 A.r
     rw [ag.right.evs] at hv
     have hx:=y2b h1 A.r
     rw [ag.left.ev,hfv] at hx
     generalize hcx:a.eval x=c at hx
     cases hx with
     | fn _ _ cs g1 g2=>
      refine yb2 hac A.S (cs:=os.map a.eval++cs.toArray) (by simpa using hv.append ⟨g1,g2⟩) hnd ?_ hK
      simp only [execOp,hop,resolve,Sem.run_bind,hcx,Deferred.ofValue,Sem.run_pure,Result.andThen_ok,invoke]
      simpa using y4j hac.1
    simp only [yis] at hg
    rcases hg with ⟨v,hac,k⟩ | ⟨v,hac,k⟩ | ⟨v,H1,hac,k⟩
    ·refine ⟨.pure,v,H,_,⟨⟨o,ho,hd⟩,hn,rfl,fun _=>rfl,(fun h=>by cases h),fun ro κ a F2 H2 A ag hH hR J Q hJ=>?_⟩,k⟩
     refine wpo A.r ag (run A (y4c.left (a:=otA fv++yey args) ag) (hac H2) fun κ' u cv H' le S' rv hR=>?_)
     obtain ⟨rfl,rfl⟩:=hR
     rw [hd];exact hJ κ' cv le (by simpa using S') rv
    ·refine ⟨.rd,v,H,_,⟨⟨o,ho,hd⟩,hn,rfl,fun _=>rfl,(fun _=>hac),fun ro κ a F2 H2 A ag hH hR J Q hJ=>?_⟩,k⟩
     refine wpo A.r ag (run A (y4c.left (a:=otA fv++yey args) ag) (hR rfl) fun κ' u cv H' le S' rv hR=>?_)
     obtain ⟨rfl,rfl⟩:=hR
     rw [hd];exact hJ κ' cv le (by simpa using S') rv
    ·refine ⟨.eff,v,H1,_,⟨⟨o,ho,hd⟩,hn,rfl,fun h=>absurd rfl h,(fun h=>by cases h),fun ro κ a F2 H2 A ag hH hR J Q hJ=>?_⟩,k⟩
     have:=hH rfl;subst this
     refine wpo A.r ag (run A (y4c.left (a:=otA fv++yey args) ag) hac fun κ' u cv H' le S' rv hR=>?_)
     obtain ⟨rfl,rfl⟩:=hR
     rw [hd];exact hJ κ' cv le (by simpa using S') rv
   ·cases hok
  ·rename_i f bs hfv
   split at hok
   ·rename_i x os ts hop
    simp only [kF] at hok
    obtain ⟨h1,h2⟩:=hok
    have run:∀{ro:Option Nat} {κ:K} {a:Act} {F2:Fr} {H2:Hp} {R:V→Hp→Prop} {J:Act→World→Prop} {Q:Exit→Act→World→Prop},At κ F2 H2 n ro a→y4c (otA fv++yey args) F2 F→AC P f (bs++evs F args) H2 R→
      (∀κ' v cv H',κ.Le κ'→Sim κ' H'→VR κ' v cv→R v H'→J (a.put o.dst cv) κ'.w)→o.wpIn (FF ro) 0 P a κ.w J Q:=fun {ro κ a F2 H2 R J Q} A ag hac hK=>by
     have hv:=y5s h2 A.r
     rw [ag.right.evs] at hv
     have hx:=y2b h1 A.r
     rw [ag.left.ev,hfv] at hx
     generalize hcx:a.eval x=c at hx
     cases hx with
     | fb _ _ cs g1 g2=>
      refine yb2 hac A.S (cs:=cs.toArray++os.map a.eval) (by simpa using VRs.append ⟨g1,g2⟩ hv) hnd ?_ hK
      simp only [execOp,hop,resolve,Sem.run_bind,hcx,Deferred.ofValue,Sem.run_pure,Result.andThen_ok,invoke]
      simpa using y4j hac.1
    simp only [yis] at hg
    rcases hg with ⟨v,hac,k⟩ | ⟨v,hac,k⟩ | ⟨v,H1,hac,k⟩
    ·refine ⟨.pure,v,H,_,⟨⟨o,ho,hd⟩,hn,rfl,fun _=>rfl,(fun h=>by cases h),fun ro κ a F2 H2 A ag hH hR J Q hJ=>?_⟩,k⟩
     refine wpo A.r ag (run A (y4c.left (a:=otA fv++yey args) ag) (hac H2) fun κ' u cv H' le S' rv hR=>?_)
     obtain ⟨rfl,rfl⟩:=hR
     rw [hd];exact hJ κ' cv le (by simpa using S') rv
    ·refine ⟨.rd,v,H,_,⟨⟨o,ho,hd⟩,hn,rfl,fun _=>rfl,(fun _=>hac),fun ro κ a F2 H2 A ag hH hR J Q hJ=>?_⟩,k⟩
     refine wpo A.r ag (run A (y4c.left (a:=otA fv++yey args) ag) (hR rfl) fun κ' u cv H' le S' rv hR=>?_)
     obtain ⟨rfl,rfl⟩:=hR
     rw [hd];exact hJ κ' cv le (by simpa using S') rv
    ·refine ⟨.eff,v,H1,_,⟨⟨o,ho,hd⟩,hn,rfl,fun h=>absurd rfl h,(fun h=>by cases h),fun ro κ a F2 H2 A ag hH hR J Q hJ=>?_⟩,k⟩
     have:=hH rfl;subst this
     refine wpo A.r ag (run A (y4c.left (a:=otA fv++yey args) ag) hac fun κ' u cv H' le S' rv hR=>?_)
     obtain ⟨rfl,rfl⟩:=hR
     rw [hd];exact hJ κ' cv le (by simpa using S') rv
   ·cases hok
  ·rename_i id hfv
   split at hok
   ·rename_i x os ts hop
    simp only [kF] at hok
    obtain ⟨h1,h2⟩:=hok
    obtain ⟨v,H1,hy,k⟩:=hg
    refine ⟨.eff,v,H1,_,⟨⟨o,ho,hd⟩,hn,rfl,fun h=>absurd rfl h,(fun h=>by cases h),fun ro κ a F2 H2 A ag hH hR J Q hJ=>?_⟩,k⟩
    have:=hH rfl;subst this
    refine wpo A.r ag ?_
    have ag':y4c (otA fv++yey args) F2 F:=y4c.left (a:=otA fv++yey args) ag
    have hv:=y5s h2 A.r
    rw [ag'.right.evs] at hv
    have hx:=y2b h1 A.r
    rw [ag'.left.ev,hfv] at hx
    generalize hcx:a.eval x=c at hx
    cases hx with
    | yl _ hid=>
     obtain ⟨fn,tmps,as,bd,hy',hR⟩:=hy κ (os.map a.eval).toList A.S (by rw [Array.toList_map];exact hv) hid
     refine yb3 hnd ?_
     have hrun:(execOp a.eval o).run P κ.w=.ok (.round (κ.pl id 0).1 fn tmps as bd) κ.w:=by
      simp only [execOp,hop,resolve,Sem.run_bind,hcx,Deferred.ofValue,Sem.run_pure,Result.andThen_ok,invoke]
      rw [Array.toArray_toList] at hy'
      simpa using hy'
     rw [hrun,Oper.uponIn_round]
     refine ⟨(fun h=>by cases h),?_⟩
     have hR':RoundIn (FF ro) (0-1) P (κ.pl id 0).1 fn tmps as bd κ.w _:=hR
     refine hR'.mono fun e w' ⟨κ',u,cv,H',he,hw,le,S',rv,hu,hH'⟩=>?_
     subst he;subst hw;subst hu;subst hH'
     rw [hd];exact hJ κ' cv le (by simpa using S') rv
   ·cases hok
  ·exact hg.elim
theorem yhz {P:Program} {n:Nat} {ops:Array Oper} {j:Nat} {o:Oper} {s:AStep} (ho:ops[j]?=some o) (hd:o.dst=s.dst) (hn:yen n s.dst=true) {F:Fr} {H:Hp}
  (hw:∀(κ:K) (a:Act) (F2:Fr),FR κ F2 a.tmps→y4c (otS s) F2 F→Region.wanted o (yielded ops a.tmps)=false):StepR P n ops j s F (put F s.dst (.tup [])) H H (.tup []) .pure (fun _=>True):=
 ⟨⟨o,ho,hd⟩,hn,rfl,fun _=>rfl,(fun h=>by cases h),fun ro κ a F2 H2 A ag hH hR J Q hJ=>by
  unfold wpOpIn
  simp only [ho]
  rw [if_neg (by rw [hw κ a F2 A.r ag];simp),hd]
  refine ⟨fun _ _=>trivial,?_⟩
  exact hJ κ undef (.refl κ) (by simpa using A.S) (.und κ)⟩
theorem yke {P:Program} {n:Nat} {ops:Array Oper} {bs:List Nat}:∀{os:List Oper} {ss:List AStep} (k:Nat),y4f P n ops os ss=true→(∀j o,os[j]?=some o→ops[k+j]?=some o)→
  ∀{log:List LogE} {J:Fr→Hp→Prop} {F:Fr} {H:Hp},yap P bs k ss log J F H→
  ∃(Fs:Nat→Fr) (Hs:Nat→Hp) (vs:Nat→V) (cl:Nat→Cls) (re:Nat→Hp→Prop),Fs k=F∧Hs k=H∧
   (∀j s,ss[j]?=some s→StepR P n ops (k+j) s (Fs (k+j)) (Fs (k+j+1)) (Hs (k+j)) (Hs (k+j+1)) (vs (k+j)) (cl (k+j)) (re (k+j)))∧
   (∀j,j<ss.length→cl (k+j)≠.pure→∀x∈log,y8f bs x ⟨k+j,cl (k+j),Hs (k+j),Hs (k+j+1),re (k+j)⟩)∧
   (∀i j,i<j→j<ss.length→cl (k+i)≠.pure→cl (k+j)≠.pure→y8f bs ⟨k+i,cl (k+i),Hs (k+i),Hs (k+i+1),re (k+i)⟩ ⟨k+j,cl (k+j),Hs (k+j),Hs (k+j+1),re (k+j)⟩)∧
   J (Fs (k+ss.length)) (Hs (k+ss.length))
 | [],[],k,_,_,log,J,F,H,h=>⟨fun _=>F,fun _=>H,fun _=>.junk,fun _=>.pure,fun _ _=>True,rfl,rfl,fun j s hj=>by simp at hj,fun j hj=>by simp at hj,fun i j _ hj=>by simp at hj,by simpa [yap] using h⟩
 | o::os,s::ss,k,hok,hos,log,J,F,H,h=>by
  simp only [y4f,ygv,kF,beq_iff_eq] at hok
  obtain ⟨⟨⟨⟨h1,h2⟩,h3⟩,h4⟩,h5⟩:=hok
  have h0:ops[k]?=some o:=by simpa using hos 0 o rfl
  have cons:∀{v:V} {H':Hp} {c:Cls} {r:Hp→Prop},StepR P n ops k s F (put F s.dst v) H H' v c r→logD bs k c H H' r log (fun log'=>yap P bs (k+1) ss log' J (put F s.dst v) H')→
    ∃(Fs:Nat→Fr) (Hs:Nat→Hp) (vs:Nat→V) (cl:Nat→Cls) (re:Nat→Hp→Prop),Fs k=F∧Hs k=H∧
     (∀j t,(s::ss)[j]?=some t→StepR P n ops (k+j) t (Fs (k+j)) (Fs (k+j+1)) (Hs (k+j)) (Hs (k+j+1)) (vs (k+j)) (cl (k+j)) (re (k+j)))∧
     (∀j,j<(s::ss).length→cl (k+j)≠.pure→∀x∈log,y8f bs x ⟨k+j,cl (k+j),Hs (k+j),Hs (k+j+1),re (k+j)⟩)∧
     (∀i j,i<j→j<(s::ss).length→cl (k+i)≠.pure→cl (k+j)≠.pure→y8f bs ⟨k+i,cl (k+i),Hs (k+i),Hs (k+i+1),re (k+i)⟩ ⟨k+j,cl (k+j),Hs (k+j),Hs (k+j+1),re (k+j)⟩)∧
     J (Fs (k+(s::ss).length)) (Hs (k+(s::ss).length)):=fun {v H' c r} st hr=>by
   obtain ⟨log',hlog,hself,hr'⟩:∃log',(∀x∈log,x∈log')∧(c≠.pure→(⟨k,c,H,H',r⟩:LogE)∈log'∧y9e bs log ⟨k,c,H,H',r⟩)∧yap P bs (k+1) ss log' J (put F s.dst v) H':=by
    cases c with
    | pure=>exact ⟨log,fun _ h=>h,fun h=>absurd rfl h,hr⟩
    | rd=>exact ⟨_,fun _ h=>by simp [h],fun _=>⟨by simp,hr.1⟩,hr.2⟩
    | eff=>exact ⟨_,fun _ h=>by simp [h],fun _=>⟨by simp,hr.1⟩,hr.2⟩
   obtain ⟨Fs,Hs,vs,cl,re,e1,e2,e3,e4,e5,e6⟩:=yke (k+1) h5 (fun j o hj=>by have:=hos (j+1) o (by simpa using hj);simpa [ki,Nat.add_comm 1 j] using this) hr'
   have ne:∀j,k+(j+1)≠k:=fun j=>by omega
   have ne2:∀j,k+(j+1)+1≠k:=fun j=>by omega
   have sh:∀j,k+1+j=k+(j+1):=fun j=>by omega
   refine ⟨fun j=>if j=k then F else Fs j,fun j=>if j=k then H else Hs j,fun j=>if j=k then v else vs j,fun j=>if j=k then c else cl j,fun j=>if j=k then r else re j,by simp,by simp,fun j t hj=>?_,fun j hj hc x hx=>?_,fun i j hij hj hci hcj=>?_,?_⟩
   ·cases j with
    | zero=>
     simp at hj;subst hj
     simp only [Nat.add_zero,if_true,show k+1≠k by omega,if_false,e1,e2]
     exact st
    | succ j=>
     have:=e3 j t (by simpa using hj)
     simp only [ne,ne2,if_false]
     simpa only [sh] using this
   ·cases j with
    | zero=>
     simp only [Nat.add_zero,if_true,show k+1≠k by omega,if_false,e2] at hc ⊢
     exact yds (hself hc).2 x hx
    | succ j=>
     simp only [ne,ne2,if_false] at hc ⊢
     have:=e4 j (by simpa using hj) (by rw [sh];exact hc) x (hlog x hx)
     simpa only [sh] using this
   ·cases j with
    | zero=>omega
    | succ j=>
     cases i with
     | zero=>
      simp only [Nat.add_zero,if_true,show k+1≠k by omega,if_false,e2,ne,ne2] at hci hcj ⊢
      have:=e4 j (by simpa using hj) (by rw [sh];exact hcj) _ (hself hci).1
      simpa only [sh] using this
     | succ i=>
      simp only [ne,ne2,if_false] at hci hcj ⊢
      have:=e5 i j (by omega) (by simpa using hj) (by rw [sh];exact hci) (by rw [sh];exact hcj)
      simpa only [sh] using this
   ·simp only [kO,show k+(ss.length+1)≠k by omega,if_false]
    simpa only [sh] using e6
  have wt:∀(κ:K) (a:Act) (F2:Fr),FR κ F2 a.tmps→(s.g=none∧Region.wanted o (yielded ops a.tmps)=true)∨∃t b,s.g=some (t,b)∧(∀x,y6o F2 t=.b x→Region.wanted o (yielded ops a.tmps)=decide (x=b))∧(y6o F2 t=.tup []→Region.wanted o (yielded ops a.tmps)=false):=fun κ a F2 r=>ybo r h3
  simp only [yap] at h
  split at h
  ·rename_i hgd
   obtain ⟨c,v,H',r,st,hr⟩:=yo6 h0 h1 h2 h4 (fun κ a F2 r ag=>by
    rcases wt κ a F2 r with ⟨_,hw⟩ | ⟨t,b,e,_⟩
    ·exact hw
    ·rw [hgd] at e;cases e) h
   exact cons st hr
  ·rename_i t b hgd
   have agt:∀{F2:Fr},y4c (otS s) F2 F→y6o F2 t=y6o F t:=fun {F2} ag=>ag t (by simp [otS,hgd])
   split at h
   ·rename_i x hx
    by_cases hxb:x=b
    ·obtain ⟨c,v,H',r,st,hr⟩:=yo6 h0 h1 h2 h4 (fun κ a F2 r ag=>by
      rcases wt κ a F2 r with ⟨e,_⟩ | ⟨t',b',e,hw⟩
      ·rw [hgd] at e;cases e
      ·rw [hgd] at e;injection e with e;injection e with e1 e2;subst e1;subst e2
       rw [hw.1 x (by rw [agt ag];exact hx)];simp [hxb]) (h.1 hxb)
     exact cons st hr
    ·refine cons (r:=fun _=>True) (yhz h0 h1 h2 (fun κ a F2 r ag=>?_)) (h.2 hxb)
     rcases wt κ a F2 r with ⟨e,_⟩ | ⟨t',b',e,hw⟩
     ·rw [hgd] at e;cases e
     ·rw [hgd] at e;injection e with e;injection e with e1 e2;subst e1;subst e2
      rw [hw.1 x (by rw [agt ag];exact hx)];simp [hxb]
   ·rename_i hx
    refine cons (r:=fun _=>True) (yhz h0 h1 h2 (fun κ a F2 r ag=>?_)) h
    rcases wt κ a F2 r with ⟨e,_⟩ | ⟨t',b',e,hw⟩
    ·rw [hgd] at e;cases e
    ·rw [hgd] at e;injection e with e;injection e with e1 e2;subst e1;subst e2
     exact hw.2 (by rw [agt ag];exact hx)
   ·exact h.elim
 | [],_::_,_,h,_,_,_,_,_,_=>by cases h
 | _::_,[],_,h,_,_,_,_,_,_=>by cases h
end Go.Proofs.YtikpijbeobeckaaGreatDoor.Am
