/- Part 41. -/
import Derived.Test.YtikpijbeobeckaaGreatDoorXGw40
set_option linter.unusedSimpArgs false
set_option linter.unusedVariables false
namespace Go.Proofs.YtikpijbeobeckaaGreatDoor
open Am C
theorem Am.Acc.frzE {H H':Hp} {sz:Nat} {v:V} {es es':List (List V)} (A:Acc H sz v H' es) (hl:es'.length=es.length) (hs:∀e∈es',e.length=sz)
  (h:∀(i j:Nat) e e' u w,es[i]?=some e→es'[i]?=some e'→e[j]?=some u→e'[j]?=some w→Frz H' (fun id=>H.next≤id) u w):Frz H' (fun id=>H.next≤id) v (.fs es'):=by
 rcases A.sl with ⟨rfl,z,rfl⟩ | ⟨id,m,h1,rfl,h2,h3⟩
 ·have:es'=[]:=by cases es' with
   | nil=>rfl
   | cons a b=>simp at hl
  subst this;exact .sl0 z
 ·have get:∀(i j:Nat) e' w,es'[i]?=some e'→e'[j]?=some w→∃e u,es[i]?=some e∧e[j]?=some u∧es.flatten[i*sz+j]?=some u:=fun i j e' w hi hj=>by
   have hi':i<es.length:=by rw [←hl];exact (List.getElem?_eq_some_iff.1 hi).1
   have he:=kC hi'
   have hj':j<es[i].length:=by rw [A.all _ (kL hi'),←hs e' (kY hi)];exact (List.getElem?_eq_some_iff.1 hj).1
   have hu:=kC hj'
   exact ⟨_,_,he,hu,yam A.all he hu⟩
  refine .sl id 0 es.flatten.length es.length sz m es.flatten es' h1 h2 h3 (kG _) hl hs (fun i j e w hi hj=>?_) (fun i j e w u hi hj hu=>?_)
  ·obtain ⟨_,u,_,_,hf⟩:=get i j e w hi hj
   have:=(List.getElem?_eq_some_iff.1 hf).1
   simpa using this
  ·obtain ⟨e0,u0,a,b,hf⟩:=get i j e w hi hj
   rw [Nat.zero_add,hf] at hu;injection hu with hu;subst hu
   exact h i j e0 e u0 w a hi b hj
theorem Am.Acc.low {X0 X H X':Hp} {sz:Nat} {v:V} {es:List (List V)} (A:Acc X0 sz v X es) (e:H.Ext X') (hl:∀id blk,X'.get id=some blk→id<X'.next) (hn:H.next≤X0.next) (keep:∀id blk,X0.next≤id→SepV v id=False→X.get id=some blk→X'.get id=some blk):Acc H sz v X' es:=
 ⟨e,hl,A.all,A.sl.imp (fun h=>h) fun ⟨k,m,a,b,d,f⟩=>⟨k,m,kV hn a,b,keep _ _ a (by subst b;simp [SepV]) d,f⟩⟩
theorem Am.Acc.appL {H X:Hp} {sz bytes:Nat} {v:V} {es ys:List (List V)} (A:Acc H sz v X es) (hl:∀id blk,H.get id=some blk→id<H.next) (hy:∀e∈ys,e.length=sz) (hsz:0<sz) (hc:ys.flatten.all y3w=true) (hb:(es.length+ys.length)*bytes≤y4x):
  ∃v2 X2,y28 X sz bytes v (.fs ys)=some (v2,X2)∧Acc H sz v2 X2 (es++ys)∧∀id blk,X.get id=some blk→SepV v id→X2.get id=some blk∧SepV v2 id:=by
 obtain ⟨v2,X2,e,A2⟩:=A.app (bytes:=bytes) hl hy hsz hc hb
 refine ⟨v2,X2,e,A2,fun id blk hg hs=>?_⟩
 have hid:=A.lt id blk hg
 have hsc:y4e X sz (.fs ys)=some (ys.length,ys.flatten):=by
  simp only [y4e]
  rw [if_pos ⟨hsz,by rw [ka];intro e he;simpa using hy e he⟩]
 by_cases h0:ys.length=0
 ·rcases A.sl with ⟨_,z,rfl⟩ | ⟨k,m,h1,rfl,h2,h3⟩
  ·simp only [y28,hsc] at e
   rw [if_pos h0] at e
   injection e with e;injection e with e1 e2;subst e1;subst e2
   exact ⟨hg,trivial⟩
  ·have hk:k≠id:=hs
   simp only [y28,hsc,h2] at e
   split at e
   ·injection e with e;injection e with e1 e2;subst e1;subst e2
    exact ⟨hg,hk⟩
   ·cases e
 rcases A.sl with ⟨_,z,rfl⟩ | ⟨k,m,h1,rfl,h2,h3⟩
 ·simp only [y28,hsc] at e
  rw [if_neg h0] at e
  split at e
  ·injection e with e;injection e with e1 e2;subst e1;subst e2
   exact ⟨by simp only [Hp.get_add];rw [if_neg (by omega)];exact hg,by show X.next≠id;omega⟩
  ·cases e
 ·have hk:k≠id:=hs
  simp only [y28,hsc,h2] at e
  split at e
  ·split at e
   ·injection e with e;injection e with e1 e2;subst e1;subst e2
    exact ⟨by simp only [Hp.get_upd];rw [if_neg (Ne.symm hk)];exact hg,hk⟩
   ·split at e
    ·injection e with e;injection e with e1 e2;subst e1;subst e2
     exact ⟨by simp only [Hp.get_upd];rw [if_neg (Ne.symm hk)];exact hg,hk⟩
    ·cases e
  ·cases e
theorem Am.Acc.keepsFrz {H H1 Ha H3:Hp} {va:V} {es:List (List V)} {sz:Nat} (Aa:Acc H1 sz va Ha es) (hn:H.next≤H1.next) (keep:∀id blk,H1.next≤id→Ha.get id=some blk→H3.get id=some blk):Frz H3 (fun id=>H.next≤id) va (.fs es):=by
 rcases Aa.sl with ⟨rfl,z,rfl⟩ | ⟨id,m,h1,rfl,h2,h3⟩
 ·exact .sl0 z
 ·refine .sl id 0 es.flatten.length es.length sz m es.flatten es (kV hn h1) (keep _ _ h1 h2) h3 (kG _) rfl Aa.all (fun i j e v hi hj=>?_) (fun i j e v u hi hj hu=>?_)
  ·have:=yam Aa.all hi hj
   have:=(List.getElem?_eq_some_iff.1 this).1
   simpa using this
  ·have:=yam Aa.all hi hj
   rw [Nat.zero_add,this] at hu;injection hu with hu;subst hu;exact .refl _
theorem yo7 {H:Hp} {S:Nat→Prop} {A B:List (List V)} {x x':List V} (hx:x'.length=x.length) (h:∀(j:Nat) u w,x[j]?=some u→x'[j]?=some w→Frz H S u w):
  ∀(i j:Nat) e e' u w,(A++([x]++B))[i]?=some e→(A++([x']++B))[i]?=some e'→e[j]?=some u→e'[j]?=some w→Frz H S u w:=by
 intro i j e e' u w hi hi' hu hw
 have same:∀{e e':List V},some e=some e'→e[j]?=some u→e'[j]?=some w→Frz H S u w:=fun h1 h2 h3=>by
  injection h1 with h1;subst h1;rw [h2] at h3;injection h3 with h3;subst h3;exact .refl _
 by_cases h1:i<A.length
 ·rw [kR h1] at hi hi'
  exact same (hi.symm.trans hi') hu hw
 ·rw [kX (by omega)] at hi hi'
  cases hk:i-A.length with
  | zero=>
   rw [hk] at hi hi'
   simp at hi hi'
   subst hi;subst hi'
   exact h j u w hu hw
  | succ k=>
   rw [hk] at hi hi'
   simp at hi hi'
   exact same (hi.symm.trans hi') hu hw
@[simp] theorem cncs_len (c:Cn):(y3n c).length=6:=rfl
@[simp] theorem cncs_take (c:Cn):(y3n c).take 6=y3n c:=rfl
@[simp] theorem obcs_len (c:Ob):(y4l c).length=3:=rfl
@[simp] theorem obcs_take (c:Ob):(y4l c).take 3=y4l c:=rfl
@[simp] theorem fucs_len (c:Fu):(y75 c).length=3:=rfl
@[simp] theorem fucs_take (c:Fu):(y75 c).take 3=y75 c:=rfl
def cnV (l:List Cn):V:=.fs (l.map y3n)
def obV (l:List Ob):V:=.fs (l.map y4l)
def fuV (l:List Fu):V:=.fs (l.map y75)
@[simp] theorem free_cnV (l:List Cn):y9w (cnV l):=y9j fun e he v hv=>by
 obtain ⟨f,_,rfl⟩:=List.mem_map.1 he
 simp [y3n] at hv
 rcases hv with rfl | rfl | rfl | rfl | rfl | rfl <;> simp
@[simp] theorem free_fuV (l:List Fu):y9w (fuV l):=y9j fun e he v hv=>by
 obtain ⟨f,_,rfl⟩:=List.mem_map.1 he
 simp [y75] at hv
 rcases hv with rfl | rfl | rfl <;> simp
theorem free_mks (l:List Mk):y9w (.fs (l.map y8a)):=y9j fun e he v hv=>by
 obtain ⟨f,_,rfl⟩:=List.mem_map.1 he
 simp [y8a] at hv
 rcases hv with rfl | rfl <;> simp
@[simp] theorem free_obV (l:List Ob):y9w (obV l):=y9j fun e he v hv=>by
 obtain ⟨f,_,rfl⟩:=List.mem_map.1 he
 simp [y4l] at hv
 rcases hv with rfl | rfl | rfl
 ·simp
 ·simp
 ·exact free_mks _
theorem y76 {α:Type} (f:α→List V) (hf:∀a,(f a).all y3w=true) (l:List α):(l.map f).flatten.all y3w=true:=by
 rw [ka];intro v hv
 obtain ⟨e,he,hv⟩:=List.mem_flatten.1 hv
 obtain ⟨x,_,rfl⟩:=List.mem_map.1 he
 exact List.all_eq_true.1 (hf x) v hv
theorem yij (f:Fu):(y75 f).all y3w=true:=rfl
theorem ynj (f:Ob):(y4l f).all y3w=true:=rfl
theorem yio (f:Cn):(y3n f).all y3w=true:=rfl
theorem yaa {α:Type} (f:α→List V) (n:Nat) (hf:∀a,(f a).length=n) (l:List α):∀e∈l.map f,e.length=n:=fun e he=>by obtain ⟨x,_,rfl⟩:=List.mem_map.1 he;exact hf x
theorem yl9 {l:List Cn} {c:Cn}:∀{i:Nat},(∀y∈l.take i,yae y c<0)→y3m l c=l.take i++y3m (l.drop i) c:=by
 induction l with
 | nil=>intro i _;simp
 | cons y r ih=>
  intro i h
  cases i with
  | zero=>simp
  | succ i=>
   have h1:=h y (by simp)
   rw [y3m,if_pos h1,ih (i:=i) fun z hz=>h z (by simp [hz])]
   rfl
def CiI (l:List Cn) (c:Cn) (id:Nat) (H:Hp) (m:Nat) (F:Fr) (X:Hp):Prop:=
 ∃i,i≤l.length∧m=l.length-i∧(∀y∈l.take i,yae y c<0)∧X=H∧F=[(0,cnV l),(3,.p (some (id,0,6))),(5,.i .i64 i)]
theorem yj2 (l:List Cn) (c:Cn) (hl:l.length≤1000000000000) (hx:∀y∈l,y.args.length≤1000000) (hc:c.args.length≤1000000) (H:Hp):
  AC Tryz.prog y80 [cnV l,.agg (y3n c)] H (fun v H'=>v=cnV (y3m l c)∧H'=H):=by
 refine AC.codeP y1c.at y1c.ok (by simp) fun hlt=>?_
 simp only [y1c]
 apply jA
 simp [y1c.r0,y3n]
 apply jA
 simp [y1c.r1]
 have l0:=Hp.add_lt hlt (.cells (y3n c) 6)
 have e0:=Hp.Ext.add hlt (.cells (y3n c) 6)
 have g0:(H.add (.cells (y3n c) 6)).get H.next=some (.cells (y3n c) 6):=by simp
 have n0:(H.add (.cells (y3n c) 6)).next=H.next+1:=by simp
 obtain ⟨X0,hX0⟩:∃X0,X0=H.add (.cells (y3n c) 6):=⟨_,rfl⟩
 have hX0':H.add (.cells [.i .i64 c.op,.s c.a,.s c.b,.i .i64 c.k,.s c.tag,ss c.args] 6)=X0:=hX0.symm
 rw [hX0']
 rw [←hX0] at l0 e0 g0 n0
 clear hX0' hX0
 refine AX.seq (AX.pblock (AX.loop (CiI l c H.next X0) l.length ⟨_,_,.refl _ _,0,by omega,by omega,by simp,rfl,rfl⟩ ?_))
 rintro m F X ⟨i,hi,rfl,ha,rfl,rfl⟩
 simp only [y1c.l0]
 obtain ⟨b,hb0⟩:∃b,b=decide (∃h:i<l.length,yae l[i] c<0):=⟨_,rfl⟩
 refine AX.seq (AX.testD b [(0,cnV l),(3,.p (some (H.next,0,6))),(5,.i .i64 i),(19,.b b)] ?_ rfl (fun hb=>AX.skip ?_) (fun hb=>AX.exit ?_))
 ·by_cases hia:i<l.length
  ·have hxi:=hx _ (kL hia)
   simp [y1c.r2,cnV,hia,g0]
   refine y32 (.i .i64 (yae l[i] c)) (fun H2=>by
    have:=yee l[i] c hxi (by omega) H2
    simpa using this) ?_
   simp [hb0,hia]
  ·simp [y1c.r2,cnV,hia,hb0]
 ·subst hb
  obtain ⟨hia,hlt'⟩:=of_decide_eq_true hb0.symm
  simp
  refine AX.pblock (AX.reg ?_)
  simp [y1c.r3,y2g hia (show l.length≤9223372036854775807 by omega)]
  refine ⟨l.length-(i+1),by omega,_,_,.refl _ _,i+1,by omega,rfl,fun y hy=>?_,rfl,by simp [cnV]⟩
  rw [kJ,kC hia] at hy
  rcases List.mem_append.1 hy with h | h
  ·exact ha y h
  ·simp at h;subst h;exact hlt'
 subst hb
 have hnl:=of_decide_eq_false hb0.symm
 clear hb0
 simp
 have hsp:=yl9 ha
 obtain ⟨b,hb0⟩:∃b,b=decide (∃h:i<l.length,yae l[i] c=0):=⟨_,rfl⟩
 refine AX.seq (AX.testD b [(0,cnV l),(3,.p (some (H.next,0,6))),(5,.i .i64 i),(34,.b b)] ?_ rfl (fun hb=>jA ?_) (fun hb=>AX.skip ?_))
 ·by_cases hia:i<l.length
  ·have hxi:=hx _ (kL hia)
   simp [y1c.r4,cnV,hia,g0]
   refine y32 (.i .i64 (yae l[i] c)) (fun H2=>by
    have:=yee l[i] c hxi (by omega) H2
    simpa using this) ?_
   simp [hb0,hia]
  ·simp [y1c.r4,cnV,hia,hb0]
 ·subst hb
  obtain ⟨hia,he⟩:=of_decide_eq_true hb0.symm
  simp [y1c.r5]
  apply jD
  have:y3m l c=l:=by
   rw [hsp,kP hia,y3m,if_neg (by omega),if_pos he,←kP hia,List.take_append_drop]
  rw [this]
  simp
  exact ⟨e0,.refl _⟩
 subst hb
 have hne:=of_decide_eq_false hb0.symm
 clear hb0
 have hxx:y3m l c=l.take i++([c]++l.drop i):=by
  rw [hsp]
  by_cases hia:i<l.length
  ·rw [kP hia,y3m,if_neg (fun h=>hnl ⟨hia,h⟩),if_neg (fun h=>hne ⟨hia,h⟩)];rfl
  ·rw [List.drop_of_length_le (by omega)];rfl
 simp
 have A0:Acc X 6 (.sl none 0 6) X []:=.nil 6 6 (.refl _) l0
 obtain ⟨v1,H1,e1,A1⟩:=A0.app (bytes:=88) l0 (yaa y3n 6 (fun _=>rfl) (l.take i)) (by omega) (y76 y3n yio _) (by simp [y4x];omega)
 rw [List.map_take] at e1
 apply jA
 simp [y1c.r6,cnV,hi,-y28,e1]
 have B0:Acc H1 1 (.sl none 0 1) H1 []:=.nil 1 1 (.refl _) A1.lt
 obtain ⟨va,Ha,ea,Aa⟩:=B0.app (bytes:=16) A1.lt (en1 c.args) (by omega) (ec1 _) (by simp [y4x];omega)
 obtain ⟨xa,xn,xz,rfl⟩:=Aa.isSl
 have g1:=A1.ext.2 _ _ g0
 have ga:=Aa.ext.2 _ _ g1
 apply jA
 simp [y1c.r7,g1,y3n,ss,-y28,ea,ga]
 have e1':H.Ext Ha:=e0.trans (A1.ext.trans Aa.ext)
 have A2:Acc H 6 v1 (Ha.upd H.next (.cells [.i .i64 c.op,.s c.a,.s c.b,.i .i64 c.k,.s c.tag,.sl xa xn xz] 6)) ((l.take i).map y3n):=
  A1.low (e1'.upd hlt (kG _) _) (Hp.upd_lt Aa.lt (Aa.lt _ _ ga) _) (by omega) fun id blk h1 _ h2=>by
   rw [Hp.get_upd,if_neg (by omega)];exact Aa.ext.2 _ _ h2
 obtain ⟨v2,H2,e2,A3,k2⟩:=A2.appL (bytes:=88) (ys:=[[.i .i64 c.op,.s c.a,.s c.b,.i .i64 c.k,.s c.tag,.sl xa xn xz]]) hlt (by simp) (by omega) (by simp [y3w]) (by simp [y4x];omega)
 obtain ⟨v3,H3,e3,A4,k3⟩:=A3.appL (bytes:=88) hlt (yaa y3n 6 (fun _=>rfl) (l.drop i)) (by omega) (y76 y3n yio _) (by simp [y4x];omega)
 rw [List.map_drop] at e3
 apply jA
 simp [y1c.r8,y7x,-y28,e2]
 apply jA
 simp [y1c.r9,cnV,hi,-y28,e3]
 apply jD
 simp
 refine ⟨A4.ext,?_⟩
 rw [hxx]
 have hfa:Frz H3 (fun id=>H.next≤id) (.sl xa xn xz) (ss c.args):=Aa.keepsFrz (by have:=A1.ext.1;omega) fun id blk h1 h2=>by
  have s1:SepV v1 id:=by
   rcases A1.sl with ⟨_,z,rfl⟩ | ⟨k,m,a,rfl,d,f⟩
   ·trivial
   ·have:=A1.lt _ _ d
    show k≠id;omega
  have q1:(Ha.upd H.next (.cells [.i .i64 c.op,.s c.a,.s c.b,.i .i64 c.k,.s c.tag,.sl xa xn xz] 6)).get id=some blk:=by rw [Hp.get_upd,if_neg (by have:=A1.ext.1;omega)];exact h2
  obtain ⟨q2,s2⟩:=k2 id blk q1 s1
  exact (k3 id blk q2 s2).1
 have:=A4.frzE (es':=(l.take i).map y3n++([y3n c]++(l.drop i).map y3n)) (by simp) (fun e he=>?_) (by
  rw [kW]
  refine yo7 rfl fun j u w h1 h2=>?_
  match j,h1,h2 with
  | 0,h1,h2=>injection h1 with h1;injection h2 with h2;subst h1;subst h2;exact .refl _
  | 1,h1,h2=>injection h1 with h1;injection h2 with h2;subst h1;subst h2;exact .refl _
  | 2,h1,h2=>injection h1 with h1;injection h2 with h2;subst h1;subst h2;exact .refl _
  | 3,h1,h2=>injection h1 with h1;injection h2 with h2;subst h1;subst h2;exact .refl _
  | 4,h1,h2=>injection h1 with h1;injection h2 with h2;subst h1;subst h2;exact .refl _
  | 5,h1,h2=>injection h1 with h1;injection h2 with h2;subst h1;subst h2;exact hfa
  | j+6,h1,h2=>cases h1)
 ·simpa [cnV] using this
 ·have:((l.take i).map y3n++([y3n c]++(l.drop i).map y3n))=(l.take i++([c]++l.drop i)).map y3n:=by simp
  rw [this] at he
  exact yaa y3n 6 (fun _=>rfl) _ e he
def OiI (l:List Ob) (o:Ob) (id:Nat) (H:Hp) (m:Nat) (F:Fr) (X:Hp):Prop:=
 ∃i,i≤l.length∧m=l.length-i∧(∀y∈l.take i,ltB o.name y.name=false∧y≠o)∧X=H∧F=[(0,obV l),(3,.p (some (id,0,3))),(5,.i .i64 i)]
theorem yky {l:List Ob} {o:Ob}:∀{i:Nat},(∀y∈l.take i,ltB o.name y.name=false∧y≠o)→y49 l o=l.take i++y49 (l.drop i) o:=by
 induction l with
 | nil=>intro i _;simp
 | cons y r ih=>
  intro i h
  cases i with
  | zero=>simp
  | succ i=>
   have h1:=h y (by simp)
   rw [y49,h1.1,if_neg (by simp),if_neg h1.2,ih (i:=i) fun z hz=>h z (by simp [hz])]
   rfl
theorem yoa {l:List Fu} {o:Fu}:∀{i:Nat},(∀y∈l.take i,ltB o.name y.name=false∧y≠o)→y6g l o=l.take i++y6g (l.drop i) o:=by
 induction l with
 | nil=>intro i _;simp
 | cons y r ih=>
  intro i h
  cases i with
  | zero=>simp
  | succ i=>
   have h1:=h y (by simp)
   rw [y6g,h1.1,if_neg (by simp),if_neg h1.2,ih (i:=i) fun z hz=>h z (by simp [hz])]
   rfl
theorem leB (x y:Str):(ltB x y||x == y)=!ltB y x:=by
 rcases y8j x y with h | h | h
 ·simp [h,y74 h]
 ·subst h
  have:ltB x x=false:=by
   cases h:ltB x x
   ·rfl
   ·exact absurd h (y4z x)
  simp [this]
 ·have h3:x≠y:=fun e=>by subst e;exact y4z _ h
  simp [h,y74 h,h3]
theorem yj1 (l:List Ob) (o:Ob) (hl:l.length≤1000000000000) (hx:∀y∈l,y.marks.length≤140737488355328) (ho:o.marks.length≤1000000000000) (H:Hp):
  AC Tryz.prog y6l [obV l,.agg (y4l o)] H (fun v H'=>v=obV (y49 l o)∧H'=H):=by
 refine AC.codeP y13.at y13.ok (by simp) fun hlt=>?_
 simp only [y13]
 apply jA
 simp [y13.r0,y4l]
 apply jA
 simp [y13.r1]
 have l0:=Hp.add_lt hlt (.cells (y4l o) 3)
 have e0:=Hp.Ext.add hlt (.cells (y4l o) 3)
 have g0:(H.add (.cells (y4l o) 3)).get H.next=some (.cells (y4l o) 3):=by simp
 have n0:(H.add (.cells (y4l o) 3)).next=H.next+1:=by simp
 obtain ⟨X0,hX0⟩:∃X0,X0=H.add (.cells (y4l o) 3):=⟨_,rfl⟩
 have hX0':H.add (.cells [.s o.name,.s o.kinds,.fs (o.marks.map y8a)] 3)=X0:=hX0.symm
 rw [hX0']
 rw [←hX0] at l0 e0 g0 n0
 clear hX0' hX0
 refine AX.cut (fun F X=>∃i,i≤l.length∧y49 l o=l.take i++([o]++l.drop i)∧X=X0∧F=[(0,obV l),(3,.p (some (H.next,0,3))),(5,.i .i64 i)]) ?_ ?_
 ·refine AX.pblock (AX.loop (OiI l o H.next X0) l.length ⟨_,_,.refl _ _,0,by omega,by omega,by simp,rfl,rfl⟩ ?_)
  rintro m F X ⟨i,hi,rfl,ha,rfl,rfl⟩
  have hsp:=yky ha
  simp only [y13.l0]
  obtain ⟨b,hb0⟩:∃b,b=decide (∃h:i<l.length,ltB o.name l[i].name=false):=⟨_,rfl⟩
  refine AX.seq (AX.testD b [(0,obV l),(3,.p (some (H.next,0,3))),(5,.i .i64 i),(20,.b b)] ?_ rfl (fun hb=>AX.skip ?_) (fun hb=>AX.exit ?_))
  ·by_cases hia:i<l.length
   ·simp [y13.r2,obV,hia,g0,y4l,leB]
    simp [hb0,hia]
   ·simp [y13.r2,obV,hia,hb0]
  rotate_left
  ·subst hb
   have hnl:=of_decide_eq_false hb0.symm
   simp
   refine ⟨_,_,.refl _ _,i,hi,?_,rfl,rfl⟩
   rw [hsp]
   by_cases hia:i<l.length
   ·have h2:ltB o.name l[i].name=true:=by
     cases hh:ltB o.name l[i].name
     ·exact absurd ⟨hia,hh⟩ hnl
     ·rfl
    rw [kP hia,y49,if_pos h2]
   ·rw [List.drop_of_length_le (by omega)];rfl
  subst hb
  obtain ⟨hia,hle⟩:=of_decide_eq_true hb0.symm
  simp
  refine AX.pblock (AX.seq (AX.testD (decide (l[i]=o)) [(0,obV l),(3,.p (some (H.next,0,3))),(5,.i .i64 i),(26,.b (decide (l[i]=o)))] ?_ rfl (fun hc=>jA ?_) (fun hc=>AX.skip ?_)))
  ·simp [y13.r3,obV,hia,g0]
   refine y32 (.b (decide (l[i]=o))) (fun H2=>by
    have:=yj0 l[i] o (hx _ (kL hia)) (by omega) H2
    simpa using this) ?_
   simp
  ·simp only [decide_eq_true_eq] at hc
   simp [y13.r4]
   apply jD
   have:y49 l o=l:=by
    rw [hsp,kP hia,y49,hle,if_neg (by simp),if_pos hc,←kP hia,List.take_append_drop]
   rw [this]
   simp
   exact ⟨e0,.refl _⟩
  ·simp only [decide_eq_false_iff_not] at hc
   simp
   apply jE
   simp [y13.r5,y2g hia (show l.length≤9223372036854775807 by omega)]
   refine ⟨l.length-(i+1),by omega,_,_,.refl _ _,i+1,by omega,rfl,fun y hy=>?_,rfl,by simp [obV]⟩
   rw [kJ,kC hia] at hy
   rcases List.mem_append.1 hy with h | h
   ·exact ha y h
   ·simp at h;subst h;exact ⟨hle,hc⟩
 rintro F X ⟨i,hi,hxx,rfl,rfl⟩
 have B0:Acc X 2 (.sl none 0 2) X []:=.nil 2 2 (.refl _) l0
 obtain ⟨va,Ha,ea,Aa⟩:=B0.app (bytes:=24) l0 (yaa y8a 2 (fun _=>rfl) o.marks) (by omega) (y76 y8a (fun _=>rfl) _) (by simp [y4x];omega)
 obtain ⟨xa,xn,xz,rfl⟩:=Aa.isSl
 have ga:=Aa.ext.2 _ _ g0
 apply jA
 simp [y13.r6,g0,y4l,-y28,ea,ga]
 have e1':H.Ext Ha:=e0.trans Aa.ext
 have A0:Acc H 3 (.sl none 0 3) (Ha.upd H.next (.cells [.s o.name,.s o.kinds,.sl xa xn xz] 3)) []:=.nil 3 3 (e1'.upd hlt (kG _) _) (Hp.upd_lt Aa.lt (Aa.lt _ _ ga) _)
 obtain ⟨v1,H1,e1,A1,k1⟩:=A0.appL (bytes:=56) hlt (yaa y4l 3 (fun _=>rfl) (l.take i)) (by omega) (y76 y4l ynj _) (by simp [y4x];omega)
 obtain ⟨v2,H2,e2,A2,k2⟩:=A1.appL (bytes:=56) (ys:=[[.s o.name,.s o.kinds,.sl xa xn xz]]) hlt (by simp) (by omega) (by simp [y3w]) (by simp [y4x];omega)
 obtain ⟨v3,H3,e3,A3,k3⟩:=A2.appL (bytes:=56) hlt (yaa y4l 3 (fun _=>rfl) (l.drop i)) (by omega) (y76 y4l ynj _) (by simp [y4x];omega)
 rw [List.map_take] at e1
 rw [List.map_drop] at e3
 have gc:=k1 H.next (.cells [.s o.name,.s o.kinds,.sl xa xn xz] 3) (by simp) trivial
 apply jA
 simp [y13.r7,obV,hi,-y28,e1]
 apply jA
 simp [y13.r8,y7x,-y28,gc.1,e2]
 apply jA
 simp [y13.r9,obV,hi,-y28,e3]
 apply jD
 simp
 refine ⟨A3.ext,?_⟩
 rw [hxx]
 have hfa:Frz H3 (fun id=>H.next≤id) (.sl xa xn xz) (.fs (o.marks.map y8a)):=Aa.keepsFrz (by omega) fun id blk h1 h2=>by
  have q0:(Ha.upd H.next (.cells [.s o.name,.s o.kinds,.sl xa xn xz] 3)).get id=some blk:=by rw [Hp.get_upd,if_neg (by omega)];exact h2
  obtain ⟨q1,s1⟩:=k1 id blk q0 trivial
  obtain ⟨q2,s2⟩:=k2 id blk q1 s1
  exact (k3 id blk q2 s2).1
 have:=A3.frzE (es':=(l.take i).map y4l++([y4l o]++(l.drop i).map y4l)) (by simp) (fun e he=>?_) (by
  rw [List.nil_append,kW]
  refine yo7 rfl fun j u w h1 h2=>?_
  match j,h1,h2 with
  | 0,h1,h2=>injection h1 with h1;injection h2 with h2;subst h1;subst h2;exact .refl _
  | 1,h1,h2=>injection h1 with h1;injection h2 with h2;subst h1;subst h2;exact .refl _
  | 2,h1,h2=>injection h1 with h1;injection h2 with h2;subst h1;subst h2;exact hfa
  | j+3,h1,h2=>cases h1)
 ·simpa [obV] using this
 ·have:((l.take i).map y4l++([y4l o]++(l.drop i).map y4l))=(l.take i++([o]++l.drop i)).map y4l:=by simp
  rw [this] at he
  exact yaa y4l 3 (fun _=>rfl) _ e he
def FiI (l:List Fu) (o:Fu) (H:Hp) (m:Nat) (F:Fr) (X:Hp):Prop:=
 ∃i,i≤l.length∧m=l.length-i∧(∀y∈l.take i,ltB o.name y.name=false∧y≠o)∧X=H∧F=[(0,fuV l),(3,.fp (y75 o) 0),(5,.i .i64 i)]
theorem ylm (l:List Fu) (o:Fu) (hl:l.length≤1000000000000) (H:Hp):
  AC Tryz.prog y6u [fuV l,.agg (y75 o)] H (fun v H'=>v=fuV (y6g l o)∧H'=H):=by
 refine AC.codeP y1b.at y1b.ok (by simp) fun hlt=>?_
 simp only [y1b]
 apply jA
 simp [y1b.r0,y75]
 apply jA
 simp [y1b.r1]
 refine AX.cut (fun F X=>∃i,i≤l.length∧y6g l o=l.take i++([o]++l.drop i)∧X=H∧F=[(0,fuV l),(3,.fp (y75 o) 0),(5,.i .i64 i)]) ?_ ?_
 ·refine AX.pblock (AX.loop (FiI l o H) l.length ⟨_,_,.refl _ _,0,by omega,by omega,by simp,rfl,by simp [y75]⟩ ?_)
  rintro m F X ⟨i,hi,rfl,ha,rfl,rfl⟩
  have hsp:=yoa ha
  simp only [y1b.l0]
  obtain ⟨b,hb0⟩:∃b,b=decide (∃h:i<l.length,ltB o.name l[i].name=false):=⟨_,rfl⟩
  refine AX.seq (AX.testD b [(0,fuV l),(3,.fp (y75 o) 0),(5,.i .i64 i),(20,.b b)] ?_ rfl (fun hb=>AX.skip ?_) (fun hb=>AX.exit ?_))
  ·by_cases hia:i<l.length
   ·simp [y1b.r2,fuV,hia,y75,leB]
    simp [hb0,hia]
   ·simp [y1b.r2,fuV,hia,hb0]
  rotate_left
  ·subst hb
   have hnl:=of_decide_eq_false hb0.symm
   simp
   refine ⟨_,_,.refl _ _,i,hi,?_,rfl,rfl⟩
   rw [hsp]
   by_cases hia:i<l.length
   ·have h2:ltB o.name l[i].name=true:=by
     cases hh:ltB o.name l[i].name
     ·exact absurd ⟨hia,hh⟩ hnl
     ·rfl
    rw [kP hia,y6g,if_pos h2]
   ·rw [List.drop_of_length_le (by omega)];rfl
  subst hb
  obtain ⟨hia,hle⟩:=of_decide_eq_true hb0.symm
  simp
  refine AX.pblock (AX.seq (AX.testD (decide (l[i]=o)) [(0,fuV l),(3,.fp (y75 o) 0),(5,.i .i64 i),(26,.b (decide (l[i]=o)))] ?_ rfl (fun hc=>jA ?_) (fun hc=>AX.skip ?_)))
  ·simp [y1b.r3,fuV,hia,fu_eq]
  ·simp only [decide_eq_true_eq] at hc
   simp [y1b.r4]
   apply jD
   have:y6g l o=l:=by
    rw [hsp,kP hia,y6g,hle,if_neg (by simp),if_pos hc,←kP hia,List.take_append_drop]
   rw [this]
   simp
   exact ⟨.refl _,.refl _⟩
  ·simp only [decide_eq_false_iff_not] at hc
   simp
   apply jE
   simp [y1b.r5,y2g hia (show l.length≤9223372036854775807 by omega)]
   refine ⟨l.length-(i+1),by omega,_,_,.refl _ _,i+1,by omega,rfl,fun y hy=>?_,rfl,by simp [fuV]⟩
   rw [kJ,kC hia] at hy
   rcases List.mem_append.1 hy with h | h
   ·exact ha y h
   ·simp at h;subst h;exact ⟨hle,hc⟩
 rintro F X ⟨i,hi,hxx,rfl,rfl⟩
 have A0:Acc X 3 (.sl none 0 3) X []:=.nil 3 3 (.refl _) hlt
 obtain ⟨v1,H1,e1,A1⟩:=A0.app (bytes:=48) hlt (yaa y75 3 (fun _=>rfl) (l.take i)) (by omega) (y76 y75 yij _) (by simp [y4x];omega)
 obtain ⟨v2,H2,e2,A2⟩:=A1.app (bytes:=48) hlt (yaa y75 3 (fun _=>rfl) [o]) (by omega) (y76 y75 yij _) (by simp [y4x];omega)
 obtain ⟨v3,H3,e3,A3⟩:=A2.app (bytes:=48) hlt (yaa y75 3 (fun _=>rfl) (l.drop i)) (by omega) (y76 y75 yij _) (by simp [y4x];omega)
 rw [List.map_take] at e1
 rw [List.map_drop] at e3
 simp only [List.map_cons,List.map_nil,y75] at e2
 apply jA
 simp [y1b.r6,fuV,hi,-y28,e1]
 apply jA
 simp [y1b.r7,y75,y7x,-y28,e2]
 apply jA
 simp [y1b.r8,fuV,hi,-y28,e3]
 apply jD
 simp
 refine ⟨A3.ext,?_⟩
 have:=A3.frz
 rw [hxx]
 simpa [fuV] using this
def Nl (w:V) (es:List (List V)):Prop:=w=.fs es∨(es=[]∧w=.sl none 0 0)
theorem Nl.frz {w:V} {es:List (List V)} (h:Nl w es) {H:Hp} {S:Nat→Prop}:Frz H S w (.fs es):=by
 rcases h with rfl | ⟨rfl,rfl⟩
 ·exact .refl _
 ·exact .sl0 0
theorem Nl.args {P:Program} {f:FuncId} {w u:V} {es:List (List V)} {H:Hp} {R:V→Hp→Prop} (h:Nl w es) (k:AC P f [.fs es,u] H R):AC P f [w,u] H R:=
 AC.frz (args':=[.fs es,u]) (fun _=>False) (by rw [Hp.wo_none];exact k) rfl fun j v v' h1 h2=>by
  match j,h1,h2 with
  | 0,h1,h2=>injection h1 with h1;injection h2 with h2;subst h1;subst h2;exact h.frz
  | 1,h1,h2=>injection h1 with h1;injection h2 with h2;subst h1;subst h2;exact .refl _
  | j+2,h1,h2=>cases h1
theorem Nl.cell {w:V} {es:List (List V)} (h:Nl w es):y3w w=true:=by
 rcases h with rfl | ⟨rfl,rfl⟩ <;> rfl
theorem Nl.nil:Nl (.sl none 0 0) []:=.inr ⟨rfl,rfl⟩
structure CaB (H:Hp) (a b c:V) (X:Hp):Prop where
 ext:H.Ext X
 lt:∀id blk,X.get id=some blk→id<X.next
 z:X.get H.next=some (.cells [.sl none 0 0,.sl none 0 0,.sl none 0 0] 3)
 o:X.get (H.next+1)=some (.cells [a,b,c] 3)
theorem CaB.upd {H X:Hp} {a b c:V} (h:CaB H a b c X) (hl:∀id blk,H.get id=some blk→id<H.next) (a' b' c':V):CaB H a' b' c' (X.upd (H.next+1) (.cells [a',b',c'] 3)):=
 ⟨h.ext.upd hl (by omega) _,Hp.upd_lt h.lt (h.lt _ _ h.o) _,by simp [h.z],by simp⟩
theorem ydw (o:Ob):∀l:List Ob,(y49 l o).length≤l.length+1
 | []=>by simp [y49]
 | y::r=>by
  unfold y49
  split
  ·simp
  ·split
   ·simp
   ·have:=ydw o r;simp;omega
theorem yf1 (o:Fu):∀l:List Fu,(y6g l o).length≤l.length+1
 | []=>by simp [y6g]
 | y::r=>by
  unfold y6g
  split
  ·simp
  ·split
   ·simp
   ·have:=yf1 o r;simp;omega
theorem yk2 {α:Type} {f:List α→α→List α} (hf:∀l x,(f l x).length≤l.length+1) (l:List α) (i:Nat):((l.take i).foldl f []).length≤i:=by
 induction i with
 | zero=>simp
 | succ i ih=>
  by_cases h:i<l.length
  ·rw [yac _ _ h]
   have:=hf ((l.take i).foldl f []) l[i]
   omega
  ·rw [y9m _ _ (by omega)]
   rw [y9m _ _ (by omega)] at ih
   omega
theorem ydz (o x:Ob):∀{l:List Ob},x∈y49 l o→x∈l∨x=o
 | [],h=>by simp [y49] at h;exact .inr h
 | y::r,h=>by
  unfold y49 at h
  split at h
  ·simp at h;rcases h with h | h | h
   ·exact .inr h
   ·exact .inl (by simp [h])
   ·exact .inl (by simp [h])
  ·split at h
   ·exact .inl h
   ·rcases List.mem_cons.1 h with h | h
    ·exact .inl (by simp [h])
    ·rcases ydz o x h with h | h
     ·exact .inl (by simp [h])
     ·exact .inr h
theorem yjr {α:Type} {f:List α→α→List α} (hf:∀{o x l},x∈f l o→x∈l∨x=o) {l:List α} {i:Nat}:∀x∈(l.take i).foldl f [],x∈l:=by
 have:=yfw (f:=f) (C:=fun b=>∀x∈b,x∈l) (l:=l) (b:=[]) (by simp) (fun b x hx hb y hy=>by
  rcases hf hy with h | h
  ·exact hb y h
  ·subst h;exact hx) i
 exact this
def CaO (s:Sy) (H:Hp) (m:Nat) (F:Fr) (X:Hp):Prop:=
 ∃i w,i≤s.objs.length∧m=s.objs.length-i∧Nl w (((s.objs.take i).foldl y49 []).map y4l)∧CaB H w (.sl none 0 0) (.sl none 0 0) X∧F=[(1,.fp (y5b s) 0),(2,.p (some (H.next,0,3))),(3,.p (some (H.next+1,0,3))),(4,.i .i64 i)]
def CaF (s:Sy) (a:V) (H:Hp) (m:Nat) (F:Fr) (X:Hp):Prop:=
 ∃i w,i≤s.fns.length∧m=s.fns.length-i∧Nl w (((s.fns.take i).foldl y6g []).map y75)∧CaB H a w (.sl none 0 0) X∧F=[(1,.fp (y5b s) 0),(2,.p (some (H.next,0,3))),(3,.p (some (H.next+1,0,3))),(5,.i .i64 i)]
def CaC (s:Sy) (a b:V) (H:Hp) (m:Nat) (F:Fr) (X:Hp):Prop:=
 ∃i w,i≤s.cons.length∧m=s.cons.length-i∧Nl w (((s.cons.take i).foldl y3m []).map y3n)∧CaB H a b w X∧F=[(1,.fp (y5b s) 0),(2,.p (some (H.next,0,3))),(3,.p (some (H.next+1,0,3))),(6,.i .i64 i)]
structure CaS (s:Sy):Prop where
 o:s.objs.length≤1000000000000
 f:s.fns.length≤1000000000000
 c:s.cons.length≤1000000000000
 m:∀x∈s.objs,x.marks.length≤1000000000000
 a:∀x∈s.cons,x.args.length≤1000000
@[simp] theorem yo8 (s:Sy):y9w (.agg (y5b s)):=yk0 fun v hv=>by
 simp only [y5b,kK,List.not_mem_nil,or_false] at hv
 rcases hv with rfl | rfl | rfl
 ·exact free_obV s.objs
 ·exact free_fuV s.fns
 ·exact free_cnV s.cons
theorem yq1 (s:Sy) (hs:CaS s) (H:Hp):AC Tryz.prog y7f [.agg (y5b s)] H (fun v H'=>v=.agg (y5b (yhh s))∧H'=H):=by
 obtain ⟨so,sf,sc,sm,sa⟩:=hs
 refine AC.codeP yq.at yq.ok (yo8 _) fun hlt=>?_
 simp only [yq]
 apply jA
 simp [yq.r0,y5b]
 apply jA
 simp [yq.r1]
 have l1:=Hp.add_lt hlt (.cells [.sl none 0 0,.sl none 0 0,.sl none 0 0] 3)
 have C0:CaB H (.sl none 0 0) (.sl none 0 0) (.sl none 0 0) ((H.add (.cells [.sl none 0 0,.sl none 0 0,.sl none 0 0] 3)).add (.cells [.sl none 0 0,.sl none 0 0,.sl none 0 0] 3)):=
  ⟨(Hp.Ext.add hlt _).trans (.add l1 _),Hp.add_lt l1 _,by simp,by simp⟩
 refine AX.cut (fun F X=>∃w,Nl w ((yhh s).objs.map y4l)∧CaB H w (.sl none 0 0) (.sl none 0 0) X∧F=[(1,.fp (y5b s) 0),(2,.p (some (H.next,0,3))),(3,.p (some (H.next+1,0,3)))]) ?_ ?_
 ·apply jA
  simp [yq.r2]
  refine AX.pblock (AX.loop (CaO s H) s.objs.length ⟨_,_,.refl _ _,0,_,by omega,by omega,.nil,C0,by simp [y5b]⟩ ?_)
  rintro m F X ⟨i,w,hi,rfl,hw,C,rfl⟩
  simp only [yq.l0]
  apply jB
  simp [yq.r3,y5b]
  refine AX.pcond rfl (fun hb=>AX.skip ?_) (fun hb=>AX.exit ?_)
  rotate_left
  ·simp at hb
   simp
   rw [y9m _ _ hb] at hw
   exact ⟨_,_,.refl _ _,w,hw,C,by simp [y5b]⟩
  simp at hb
  simp
  refine AX.seq (AX.pblock (AX.drw ?_))
  simp [yq.r4,y5b,C.o,hb]
  have hk:=yk2 (fun l x=>ydw x l) s.objs i
  have hmm:=yjr (f:=y49) (fun {o x l} h=>ydz o x h) (l:=s.objs) (i:=i)
  refine y32 (obV (y49 ((s.objs.take i).foldl y49 []) s.objs[i])) (fun H2=>hw.args (yj1 _ s.objs[i] (by omega) (fun y hy=>by have:=sm y (hmm y hy);omega) (sm _ (kL hb)) H2)) ?_
  simp [C.o,obV]
  apply jE
  simp [yq.r5,y2g hb (show s.objs.length≤9223372036854775807 by omega)]
  refine ⟨s.objs.length-(i+1),by omega,_,_,.refl _ _,i+1,_,by omega,rfl,?_,C.upd hlt (obV (y49 ((s.objs.take i).foldl y49 []) s.objs[i])) _ _,by simp [y5b]⟩
  rw [yac _ _ hb];exact .inl rfl
 rintro F X ⟨w1,hw1,C1,rfl⟩
 refine AX.cut (fun F X=>∃w,Nl w ((yhh s).fns.map y75)∧CaB H w1 w (.sl none 0 0) X∧F=[(1,.fp (y5b s) 0),(2,.p (some (H.next,0,3))),(3,.p (some (H.next+1,0,3)))]) ?_ ?_
 ·apply jA
  simp [yq.r6]
  refine AX.pblock (AX.loop (CaF s w1 H) s.fns.length ⟨_,_,.refl _ _,0,_,by omega,by omega,.nil,C1,by simp [y5b]⟩ ?_)
  rintro m F X ⟨i,w,hi,rfl,hw,C,rfl⟩
  simp only [yq.l1]
  apply jB
  simp [yq.r7,y5b]
  refine AX.pcond rfl (fun hb=>AX.skip ?_) (fun hb=>AX.exit ?_)
  rotate_left
  ·simp at hb
   simp
   rw [y9m _ _ hb] at hw
   exact ⟨_,_,.refl _ _,w,hw,C,by simp [y5b]⟩
  simp at hb
  simp
  refine AX.seq (AX.pblock (AX.drw ?_))
  simp [yq.r8,y5b,C.o,hb]
  have hk:=yk2 (fun l x=>yf1 x l) s.fns i
  refine y32 (fuV (y6g ((s.fns.take i).foldl y6g []) s.fns[i])) (fun H2=>hw.args (ylm _ s.fns[i] (by omega) H2)) ?_
  simp [C.o,fuV]
  apply jE
  simp [yq.r9,y2g hb (show s.fns.length≤9223372036854775807 by omega)]
  refine ⟨s.fns.length-(i+1),by omega,_,_,.refl _ _,i+1,_,by omega,rfl,?_,C.upd hlt _ (fuV (y6g ((s.fns.take i).foldl y6g []) s.fns[i])) _,by simp [y5b]⟩
  rw [yac _ _ hb];exact .inl rfl
 rintro F X ⟨w2,hw2,C2,rfl⟩
 refine AX.cut (fun F X=>∃w,Nl w ((yhh s).cons.map y3n)∧CaB H w1 w2 w X∧F=[(2,.p (some (H.next,0,3))),(3,.p (some (H.next+1,0,3)))]) ?_ ?_
 ·apply jA
  simp [yq.r10]
  refine AX.pblock (AX.loop (CaC s w1 w2 H) s.cons.length ⟨_,_,.refl _ _,0,_,by omega,by omega,.nil,C2,by simp [y5b]⟩ ?_)
  rintro m F X ⟨i,w,hi,rfl,hw,C,rfl⟩
  simp only [yq.l2]
  apply jB
  simp [yq.r11,y5b]
  refine AX.pcond rfl (fun hb=>AX.skip ?_) (fun hb=>AX.exit ?_)
  rotate_left
  ·simp at hb
   simp
   rw [y9m _ _ hb] at hw
   exact ⟨_,_,.refl _ _,w,hw,C,by simp⟩
  simp at hb
  simp
  refine AX.seq (AX.pblock (AX.drw ?_))
  simp [yq.r12,y5b,C.o,hb]
  have hk:=yc2 s.cons i
  have hmm:=yjr (f:=y3m) (fun {o x l} h=>(ybe o x).1 h) (l:=s.cons) (i:=i)
  refine y32 (cnV (y3m ((s.cons.take i).foldl y3m []) s.cons[i])) (fun H2=>hw.args (yj2 _ s.cons[i] (by omega) (fun y hy=>sa y (hmm y hy)) (sa _ (kL hb)) H2)) ?_
  simp [C.o,cnV]
  apply jE
  simp [yq.r13,y2g hb (show s.cons.length≤9223372036854775807 by omega)]
  refine ⟨s.cons.length-(i+1),by omega,_,_,.refl _ _,i+1,_,by omega,rfl,?_,C.upd hlt _ _ (cnV (y3m ((s.cons.take i).foldl y3m []) s.cons[i])),by simp [y5b]⟩
  rw [yac _ _ hb];exact .inl rfl
 rintro F X ⟨w3,hw3,C3,rfl⟩
 apply jA
 simp [yq.r14,C3.o,C3.z,-y3w,hw1.cell,hw2.cell,hw3.cell]
 apply jD
 simp
 refine ⟨C3.ext.upd hlt (kG _) _,.agg _ _ rfl fun j u v h1 h2=>?_⟩
 match j,h1,h2 with
 | 0,h1,h2=>injection h1 with h1;injection h2 with h2;subst h1;subst h2;exact hw1.frz
 | 1,h1,h2=>injection h1 with h1;injection h2 with h2;subst h1;subst h2;exact hw2.frz
 | 2,h1,h2=>injection h1 with h1;injection h2 with h2;subst h1;subst h2;exact hw3.frz
 | j+3,h1,h2=>cases h1
end Go.Proofs.YtikpijbeobeckaaGreatDoor
