/- Part 28. -/
import Derived.Test.YtikpijbeobeckaaGreatDoorXFw27
set_option linter.unusedSimpArgs false
set_option linter.unusedVariables false
namespace Go.Proofs.YtikpijbeobeckaaGreatDoor
open Am C
def cnB (c:Cn):Bool:=y9v c.a&&(!decide (c.op=6)||yde c.a)&&(if c.op=1 then ybi c.b else y9v c.b)
theorem ymm (c:Cn):cnE c=if c.op<1∨6<c.op then 5 else if cnB c=false then 11 else if c.op=6 then (if ybf c then 0 else 3)
  else if ¬c.args=[] then 3 else if c.op=5 then (if 0≤c.k∧c.k≤64∧1≤c.tag.length∧c.tag.length≤60 then 0 else 3) else if c.k=0∧c.tag=[] then 0 else 3:=by
 unfold cnE
 by_cases h1:c.op<1∨6<c.op
 ·rw [if_pos h1,if_pos h1]
 rw [if_neg h1,if_neg h1]
 have e:(y9v c.a=true∧(c.op=6→yde c.a=true)∧(if c.op=1 then ybi c.b=true else y9v c.b=true))↔cnB c=true:=by
  unfold cnB
  by_cases h6:c.op=6
  ·simp [h6,and_assoc]
  ·by_cases h1:c.op=1 <;> simp [h6,h1]
 by_cases h2:cnB c=true
 ·rw [if_neg (Classical.not_not.2 (e.2 h2)),if_neg (show ¬cnB c=false by simp [h2])]
  by_cases h6:c.op=6
  ·rw [if_pos h6,if_pos h6]
  rw [if_neg h6,if_neg h6]
  by_cases ha:c.args=[]
  ·by_cases h5:c.op=5
   ·simp [ha,h5,yk2,and_assoc]
   ·simp [ha,h5]
  ·by_cases h5:c.op=5
   ·simp [ha,h5]
   ·simp [ha,h5]
 ·rw [if_pos (fun h=>h2 (e.1 h)),if_pos (by simpa using h2)]
theorem RCon_ok (c:Cn) (h1:c.a.length≤9223372036854775807) (h2:c.b.length≤9223372036854775807) (ht:c.tag.length≤9223372036854775807) (ha:c.args.length≤9223372036854775807) (hx:∀a∈c.args,a.length≤9223372036854775807) (H:Hp):AC Tryz.prog y9x [.agg (y3z c)] H (fun v H'=>v=.i .i64 (cnE c)∧H'=H):=by
 refine AC.codeP yv.at yv.ok (by simp) fun hlt=>?_
 rw [ymm]
 simp only [yv]
 apply jA
 simp [yv.r0,y3z]
 refine AX.seq ?_
 refine AX.test (decide (c.op<1)||decide (6<c.op)) [(1,.fp (y3z c) 0),(12,.b (decide (c.op<1)||decide (6<c.op)))] ?_ rfl (fun hb=>?_) (fun hb=>AX.skip ?_)
 ·by_cases h:c.op<1
  ·simp [yv.r1,y3z,h]
  ·simp [yv.r1,y3z,h]
 ·apply jA
  simp [yv.r2]
  apply jD
  simp at hb
  simp [hb]
  exact ⟨.refl _,.refl _⟩
 simp at hb
 have hop:¬(c.op<1∨6<c.op):=by omega
 rw [if_neg hop]
 simp
 apply jA
 simp [yv.r3,y3z]
 refine AC.fix (y99 c.a h1 _) ?_
 rw [ya8]
 obtain ⟨er,d,hrd,hsite,hnode⟩:∃(er:Int) (d:Nd),rdV (y5t c.a)=.tup [nv d,.i .i64 er]∧yde c.a=(decide (er=0)&&decide (d.kind=3))∧True:=by
  cases hr:y5t c.a with
  | none=>exact ⟨11,Nd.zero,rfl,by simp [yde,hr],trivial⟩
  | some d=>exact ⟨0,d,rfl,by simp [yde,hr],trivial⟩
 rw [hrd]
 simp [nv,Nd.cs]
 refine AX.seq ?_
 refine AX.test (!cnB c) [(1,.fp (y3z c) 0),(58,.b (!cnB c))] ?_ rfl (fun hb=>?_) (fun hb=>AX.skip ?_)
 ·simp [yv.r4]
  refine AC.fix (yfb c.a h1 _) ?_
  cases hA:y9v c.a
  ·simp [cnB,hA,y3z]
  by_cases h6:c.op=6
  ·by_cases he:er=0
   ·by_cases hk:d.kind=3
    ·simp [h6,he,hk]
     refine AC.fix (yfb c.b h2 _) ?_
     simp [cnB,hA,h6,hsite,he,hk,y3z]
    ·simp [h6,he,hk]
     simp [cnB,hA,h6,hsite,he,hk,y3z]
   ·simp [h6,he]
    simp [cnB,hA,h6,hsite,he,y3z]
  ·by_cases hq:c.op=1
   ·simp [h6,hq]
    refine AC.fix (yrv c.b h2 _) ?_
    cases hB:ybi c.b <;> simp [cnB,hA,hq,hB,y3z]
   ·simp [h6,hq]
    refine AC.fix (yfb c.b h2 _) ?_
    simp [cnB,hA,h6,hq,y3z]
 ·apply jA
  simp [yv.r5]
  apply jD
  simp at hb
  simp [hb]
  exact ⟨yc0 hlt _ _,.refl _⟩
 simp at hb
 simp [hb]
 apply jC
 simp [yv.r6,y3z]
 refine AX.pcond rfl (fun hc=>?_) (fun hc=>?_)
 ·simp at hc
  apply jA
  simp [yv.r7]
  refine AC.fix (Rcall_ok c ht ha hx _) ?_
  simp
  apply jD
  simp [hc]
  exact ⟨yc0 hlt _ _,.refl _⟩
 simp at hc
 simp [hc]
 apply jA
 simp [yv.r8,ss]
 have hlen:(0<c.args.length)↔¬c.args=[]:=by cases c.args <;> simp
 refine AX.pcond rfl (fun hd=>?_) (fun hd=>?_)
 ·simp at hd
  have hd':¬c.args=[]:=hlen.1 (by first | exact hd | (cases h:c.args <;> simp_all))
  apply jA
  simp [yv.r9]
  apply jD
  simp [hd']
  exact ⟨yc0 hlt _ _,.refl _⟩
 simp at hd
 simp [hd]
 apply jA
 simp [yv.r10]
 refine AX.pcond rfl (fun he=>?_) (fun he=>?_)
 ·simp at he
  simp [he]
  refine AX.seq ?_
  refine AX.test (!(decide (0≤c.k)&&decide (c.k≤64)&&decide (1≤c.tag.length)&&decide (c.tag.length≤60))) [(93,.b (!(decide (0≤c.k)&&decide (c.k≤64)&&decide (1≤c.tag.length)&&decide (c.tag.length≤60))))] ?_ rfl (fun hb=>?_) (fun hb=>AX.skip ?_)
  ·by_cases k1:c.k<0
   ·simp [yv.r11,k1,show ¬0≤c.k by omega]
   by_cases k2:64<c.k
   ·simp [yv.r11,k1,k2,show 0≤c.k by omega,show ¬c.k≤64 by omega]
   by_cases k3:c.tag.length<1
   ·simp [yv.r11,k1,k2,k3,show 0≤c.k by omega,show c.k≤64 by omega]
   by_cases k4:60<c.tag.length
   ·simp [yv.r11,k1,k2,k3,k4,show 0≤c.k by omega,show c.k≤64 by omega]
   ·simp [yv.r11,k1,k2,k3,k4,show 0≤c.k by omega,show c.k≤64 by omega,show 1≤c.tag.length by omega,show c.tag.length≤60 by omega]
  ·apply jA
   simp [yv.r12]
   apply jD
   have:¬(0≤c.k∧c.k≤64∧1≤c.tag.length∧c.tag.length≤60):=by
    intro ⟨g1,g2,g3,g4⟩
    simp [g1,g2,g3,g4] at hb
   simp [this]
   exact ⟨yc0 hlt _ _,.refl _⟩
  ·simp at hb
   simp
   apply jA
   simp [yv.r13]
   apply jD
   simp [hb]
   exact ⟨yc0 hlt _ _,.refl _⟩
 simp at he
 simp [he]
 apply jA
 by_cases k1:c.k=0
 ·by_cases k2:c.tag=[]
  ·simp [yv.r14,k1,k2]
   refine jF rfl (AX.skip ?_)
   simp
   apply jA
   simp [yv.r16]
   apply jD
   simp
   exact ⟨yc0 hlt _ _,.refl _⟩
  ·simp [yv.r14,k1,k2,show (c.tag == [])=false by simpa using k2]
   refine jG rfl ?_
   apply jA
   simp [yv.r15]
   apply jD
   simp
   exact ⟨yc0 hlt _ _,.refl _⟩
 ·simp [yv.r14,k1]
  refine jG rfl ?_
  apply jA
  simp [yv.r15]
  apply jD
  simp
  exact ⟨yc0 hlt _ _,.refl _⟩
def ynd (n:Nat) (l:List Mk) (m:Mk):Bool:=decide (0≤m.pos)&&decide (m.pos<n)&&yk2 m.tag&&decide (∀x,l.getLast?=some x→x.pos≤m.pos)
theorem mkB_eq (n:Nat) (l:List Mk) (m:Mk):mkB n l m=(ynd n l m&&decide (m∉l)):=rfl
theorem yj8 {n:Nat} {ms:List Mk} {i:Nat} (h:i<ms.length):ync n (ms.take i) (ms.drop i)=(mkB n (ms.take i) ms[i]&&ync n (ms.take (i+1)) (ms.drop (i+1))):=by
 rw [kP h]
 simp only [ync]
 rw [List.take_append_getElem h]
theorem mk_eq (q mk:Mk):y6h [0,1] [.i .i64 q.pos,.s q.tag] [.i .i64 mk.pos,.s mk.tag]=some (decide (q=mk)):=by
 have:decide (q=mk)=(decide (q.pos=mk.pos)&&decide (q.tag=mk.tag)):=by
  cases q;cases mk;simp
 rw [this]
 have e1:(q.pos == mk.pos)=decide (q.pos=mk.pos):=rfl
 have e2:(q.tag == mk.tag)=decide (q.tag=mk.tag):=by rw [Bool.eq_iff_iff];simp
 simp only [y6h,yac,if_true,e1,e2]
 cases decide (q.pos=mk.pos) <;> cases decide (q.tag=mk.tag) <;> rfl
def ObInv (o:Ob) (H:Hp) (m:Nat) (F:Fr) (X:Hp):Prop:=
 ∃i,i≤o.marks.length∧m=o.marks.length-i∧ync o.kinds.length [] o.marks=ync o.kinds.length (o.marks.take i) (o.marks.drop i)∧H.Ext X∧(∀id blk,X.get id=some blk→id<X.next)∧F=[(1,.fp (y68 o) 0),(5,.i .i64 i)]
def Ob1Inv (o:Ob) (i:Nat) (mk:Mk) (id:Nat) (Y:Hp) (m:Nat) (F:Fr) (X:Hp):Prop:=
 ∃k,k≤i∧m=i-k∧mk∉o.marks.take k∧X=Y∧F=[(1,.fp (y68 o) 0),(5,.i .i64 i),(6,.p (some (id,0,2))),(7,.i .i64 k)]
theorem ynx (o:Ob) (h1:o.name.length≤9223372036854775807) (h2:o.kinds.length≤9223372036854775807) (h3:o.marks.length≤9223372036854775807) (h4:∀m∈o.marks,m.tag.length≤9223372036854775807) (H:Hp):
  AC Tryz.prog y81 [.agg (y68 o)] H (fun v H'=>v=.i .i64 (obE o)∧H'=H):=by
 refine AC.codeP yj.at yj.ok (by simp) fun hlt=>?_
 simp only [yj]
 apply jA
 simp [yj.r0,y68]
 apply jA
 simp [yj.r1]
 refine AC.fix (y99 o.name h1 _) ?_
 rw [ya8]
 cases hr:y5t o.name with
 | none=>
  simp [rdV,nv,Nd.cs,Nd.zero]
  apply jB
  simp [yj.r2]
  refine jG rfl ?_
  apply jA
  simp [yj.r3]
  apply jD
  simp [obE,hr]
  exact ⟨yc0 hlt _ _,.refl _⟩
 | some d=>
  simp [rdV,nv,Nd.cs]
  refine AX.seq ?_
  refine AX.test (decide (d.kind<5)||decide (0≤d.cell)) [(1,.fp (y68 o) 0),(25,.b (decide (d.kind<5)||decide (0≤d.cell)))] ?_ rfl (fun hb=>?_) (fun hb=>AX.skip ?_)
  ·by_cases k:d.kind<5
   ·simp [yj.r2,y68,k]
   ·simp [yj.r2,y68,k]
  ·apply jA
   simp [yj.r3]
   apply jD
   simp at hb
   simp [obE,hr,hb]
   exact ⟨yc0 hlt _ _,.refl _⟩
  simp at hb
  have hb':¬(d.kind<5∨0≤d.cell):=by omega
  have X2:=yc0 hlt (.cells [.i .i64 0,.s [],.i .i64 0,.s [],.i .i64 0,.i .i64 0] 6) (.cells [.i .i64 d.kind,.s d.fn,.i .i64 d.copy,.s d.name,.i .i64 d.n,.i .i64 d.cell] 6)
  have L2:=lt2 hlt (.cells [.i .i64 0,.s [],.i .i64 0,.s [],.i .i64 0,.i .i64 0] 6) (.cells [.i .i64 d.kind,.s d.fn,.i .i64 d.copy,.s d.name,.i .i64 d.n,.i .i64 d.cell] 6)
  generalize (H.add (.cells [.i .i64 0,.s [],.i .i64 0,.s [],.i .i64 0,.i .i64 0] 6)).upd H.next (.cells [.i .i64 d.kind,.s d.fn,.i .i64 d.copy,.s d.name,.i .i64 d.n,.i .i64 d.cell] 6)=X at *
  simp
  apply jB
  simp [yj.r4,y68]
  refine AC.fix (yga o.kinds 1 64 h2 _) ?_
  have eB:(kpB o.kinds&&(decide ((1:Int)≤o.kinds.length)&&decide ((o.kinds.length:Int)≤64)))=decide (kpB o.kinds=true∧1≤o.kinds.length∧o.kinds.length≤64):=by
   rw [Bool.eq_iff_iff];simp
  rw [eB]
  by_cases hk:kpB o.kinds=true∧1≤o.kinds.length∧o.kinds.length≤64
  case neg=>
   simp only [hk,decide_false]
   simp
   refine jG rfl ?_
   apply jA
   simp [yj.r5]
   apply jD
   have:obE o=5:=by unfold obE;rw [hr];simp only;rw [if_neg hb',if_pos hk]
   simp [this]
   exact ⟨X2,.refl _⟩
  have eo:obE o=if ync o.kinds.length [] o.marks then 0 else 3:=by unfold obE;rw [hr];simp only;rw [if_neg hb',if_neg (Classical.not_not.2 hk)]
  simp only [hk,decide_true]
  simp
  refine jF rfl (AX.skip ?_)
  simp
  apply jB
  simp [yj.r6]
  refine AX.pblock (AX.loop (ObInv o H) o.marks.length ⟨_,_,.refl _ _,0,by omega,by omega,rfl,X2,L2,by simp [y68]⟩ ?_)
  rintro m F Y ⟨i,hi,rfl,hm,X3,L3,rfl⟩
  simp only [yj.l0]
  apply jB
  simp [yj.r7,y68]
  refine AX.pcond rfl (fun hc=>AX.skip ?_) (fun hc=>AX.exit ?_)
  case refine_2=>
   simp at hc
   rw [List.drop_eq_nil_of_le hc] at hm
   simp only [ync] at hm
   simp
   apply jA
   simp [yj.r17]
   apply jD
   simp [eo,hm]
   exact ⟨X3,.refl _⟩
  simp at hc
  rw [yj8 hc,mkB_eq] at hm
  simp
  have hmt:=h4 _ (kL hc)
  generalize hmk:o.marks[i]=mk at *
  have hg:o.marks[i]?=some mk:=by rw [kC hc,hmk]
  apply jC
  simp [yj.r8,hg,y9h]
  have X4:=X3.trans (yc0 L3 (.cells [.i .i64 0,.s []] 2) (.cells [.i .i64 mk.pos,.s mk.tag] 2))
  have L4:=lt2 L3 (.cells [.i .i64 0,.s []] 2) (.cells [.i .i64 mk.pos,.s mk.tag] 2)
  have G4:((Y.add (.cells [.i .i64 0,.s []] 2)).upd Y.next (.cells [.i .i64 mk.pos,.s mk.tag] 2)).get Y.next=some (.cells [.i .i64 mk.pos,.s mk.tag] 2):=by simp
  generalize (Y.add (.cells [.i .i64 0,.s []] 2)).upd Y.next (.cells [.i .i64 mk.pos,.s mk.tag] 2)=Z at *
  generalize Y.next=id at *
  refine AX.seq ?_
  refine AX.testD (!ynd o.kinds.length (o.marks.take i) mk) [(1,.fp (y68 o) 0),(5,.i .i64 i),(6,.p (some (id,0,2))),(80,.b (!ynd o.kinds.length (o.marks.take i) mk))] ?_ rfl (fun hb=>?_) (fun hb=>AX.skip ?_)
  ·by_cases c1:mk.pos<0
   ·simp [yj.r9,y68,G4,c1,ynd,show ¬0≤mk.pos by omega]
   by_cases c2:(o.kinds.length:Int)≤mk.pos
   ·simp [yj.r9,y68,G4,c1,c2,ynd,show ¬mk.pos<o.kinds.length by omega]
   by_cases c3:mk.tag.length<1
   ·simp [yj.r9,y68,G4,c1,c2,c3,ynd,yk2,show ¬1≤mk.tag.length by omega]
   by_cases c4:60<mk.tag.length
   ·simp [yj.r9,y68,G4,c1,c2,c3,c4,ynd,yk2,show ¬mk.tag.length≤60 by omega]
   have t0:ynd o.kinds.length (o.marks.take i) mk=decide (∀x,(o.marks.take i).getLast?=some x→x.pos≤mk.pos):=by
    unfold ynd yk2
    rw [decide_eq_true (show 0≤mk.pos by omega),decide_eq_true (show mk.pos<o.kinds.length by omega),decide_eq_true (show 1≤mk.tag.length by omega),decide_eq_true (show mk.tag.length≤60 by omega)]
    simp
   cases i with
   | zero=>
    have t00:ynd o.kinds.length [] mk=true:=by simpa using t0
    simp [yj.r9,y68,G4,c1,c2,c3,c4,t00]
   | succ j=>
    have hj:j<o.marks.length:=by omega
    have t1:ynd o.kinds.length (o.marks.take (j+1)) mk=decide (o.marks[j].pos≤mk.pos):=by
     rw [t0]
     have:(o.marks.take (j+1)).getLast?=some o.marks[j]:=by
      rw [List.getLast?_eq_getElem?,List.length_take,Nat.min_eq_left (by omega)]
      simp [kj,hj]
     simp [this]
    have hgj:o.marks[j]?=some o.marks[j]:=kC hj
    generalize o.marks[j]=pm at *
    have hwj:IntKind.i64.wrap (j:Int)=(j:Int):=wrap_i64 (by omega) (by omega)
    by_cases c5:mk.pos<pm.pos
    ·simp [yj.r9,y68,G4,c1,c2,c3,c4,t1,hgj,y9h,c5,hwj,show ¬pm.pos≤mk.pos by omega]
    ·simp [yj.r9,y68,G4,c1,c2,c3,c4,t1,hgj,y9h,c5,hwj,show pm.pos≤mk.pos by omega]
  ·apply jA
   simp [yj.r10]
   apply jD
   simp at hb
   simp [eo,hm,hb]
   exact ⟨X4,.refl _⟩
  simp at hb
  simp
  apply jA
  simp [yj.r11]
  refine AX.pblock (AX.loop (Ob1Inv o i mk id Z) i ⟨_,_,.refl _ _,0,by omega,by omega,by simp,rfl,by simp [y68]⟩ ?_)
  rintro m F X' ⟨k,hk2,rfl,hnk,rfl,rfl⟩
  simp only [yj.l1]
  apply jB
  simp [yj.r12]
  refine AX.pcond rfl (fun hd=>AX.skip ?_) (fun hd=>AX.exit ?_)
  case refine_2=>
   simp at hd
   have:k=i:=by omega
   subst this
   simp
   apply jE
   simp [yj.r16,y2c hc h3]
   refine ⟨o.marks.length-(k+1),by omega,_,_,.refl _ _,k+1,by omega,rfl,?_,X4,L4,by simp [y68]⟩
   rw [hm,hb];simp [hnk]
  simp at hd
  simp
  have hk3:k<o.marks.length:=by omega
  have hgk:o.marks[k]?=some o.marks[k]:=kC hk3
  have htk:o.marks.take (k+1)=o.marks.take k++[o.marks[k]]:=by rw [kJ,hgk];rfl
  generalize hmq:o.marks[k]=q at *
  refine AX.seq (AX.pblock ?_)
  refine AX.testD (decide (q=mk)) [(1,.fp (y68 o) 0),(5,.i .i64 i),(6,.p (some (id,0,2))),(7,.i .i64 k),(92,.b (decide (q=mk)))] ?_ rfl (fun hb2=>?_) (fun hb2=>AX.skip ?_)
  ·simp [yj.r13,y68,G4,hgk,y9h]
   rw [mk_eq]
   simp [y68,y9h]
  ·simp at hb2
   apply jA
   simp [yj.r14]
   apply jD
   have:mk∈o.marks.take i:=kY (i:=k) (by rw [kj,if_pos hd,hgk,hb2])
   simp [eo,hm,this]
   exact ⟨X4,.refl _⟩
  simp at hb2
  simp
  apply jE
  simp [yj.r15,y2c hd (show i≤9223372036854775807 by omega)]
  refine ⟨i-(k+1),by omega,_,_,.refl _ _,k+1,by omega,rfl,?_,rfl,by simp [y68]⟩
  rw [htk]
  simp [hnk]
  exact fun h=>hb2 h.symm
def zi (l:List Int):List (List V):=l.map fun x=>[V.i .i64 x]
def yge:List Str→List Str→List Int
 | a::r,b::q=>y9i a b::yge r q
 | _,_=>[]
theorem yau (x:List Int) (y:List Int):orI (x++y)=if orI x≠0 then orI x else orI y:=by
 induction x with
 | nil=>simp [orI]
 | cons a r ih=>
  by_cases h:a=0
  ·simp [orI,h,ih]
  ·simp [orI,h]
theorem ypp:∀(a b:List Str),orI (yge a b++[ydb a.length b.length])=ykw a b
 | [],b=>by
  simp only [yge,ykw,orI,List.nil_append,ydb,cmpN]
  cases b <;> simp
 | a::r,[]=>by
  have:¬((r.length:Int)+1<0):=by omega
  have h2:¬((r.length:Int)+1=0):=by omega
  simp [yge,ykw,orI,ydb,this,h2]
 | a::r,b::q=>by
  have ih:=ypp r q
  have e:ydb ((a::r).length:Nat) ((b::q).length:Nat)=ydb r.length q.length:=by
   unfold ydb;simp
  simp only [yge,List.cons_append,orI,ykw,e,ih]
def cmpR (a b:Cn):List Int:=[ydb a.op b.op,y9i a.a b.a,y9i a.b b.b,ydb a.k b.k,y9i a.tag b.tag]++yge a.args b.args++[ydb a.args.length b.args.length]
theorem cmpR_eq (a b:Cn):orI (cmpR a b)=ygn a b:=by
 unfold cmpR ygn
 rw [kW,yau,ypp]
 simp only [orI]
 by_cases h:ykw a.args b.args=0 <;> simp [h,orI] <;> (repeat' split) <;> simp_all
theorem zi_flat (l:List Int):(zi l).flatten=l.map fun x=>V.i .i64 x:=by
 induction l with
 | nil=>rfl
 | cons a r ih=>simp [zi] at ih ⊢;exact ih
def CmInv (a b:Cn) (c5:List Int) (H:Hp) (m:Nat) (F:Fr) (X:Hp):Prop:=
 ∃i v,i≤a.args.length∧i≤b.args.length∧m=a.args.length-i∧Acc H 1 v X (zi (c5++(yge a.args b.args).take i))∧F=[(2,.fp (y3z a) 0),(3,.fp (y3z b) 0),(5,v),(6,.i .i64 i)]
theorem yld:∀(a b:List Str),(yge a b).length=min a.length b.length
 | [],b=>by simp [yge]
 | a::r,[]=>by simp [yge]
 | a::r,b::q=>by simp [yge,yld r q]
theorem yle:∀{a b:List Str} {i:Nat} (h:i<a.length) (h2:i<b.length),(yge a b)[i]?=some (y9i a[i] b[i])
 | [],b,i,h,_=>by simp at h
 | a::r,[],i,_,h=>by simp at h
 | a::r,b::q,0,_,_=>by simp [yge]
 | a::r,b::q,i+1,h,h2=>by
  simp at h h2
  simp [yge,yle h h2]
def CmInv1 (R:List Int) (v:V) (X:Hp) (m:Nat) (F:Fr) (Y:Hp):Prop:=
 ∃k,k≤R.length∧m=R.length-k∧orI (R.take k)=0∧Y=X∧F=[(5,v),(7,.i .i64 k)]
theorem yl9 (a b:Cn) (ha:a.args.length≤1000000) (hb:b.args.length≤9223372036854775807) (H:Hp):AC Tryz.prog y7w [.agg (y3z a),.agg (y3z b)] H (fun v H'=>v=.i .i64 (ygn a b)∧H'=H):=by
 refine AC.codeP yt.at yt.ok (by simp) fun hlt=>?_
 simp only [yt]
 apply jA
 simp [yt.r0,y3z]
 refine AX.seq (AX.drw ?_)
 simp [yt.r1]
 refine y33 _ (fun H2=>yig a.op b.op H2) ?_
 simp
 refine y33 _ (fun H2=>ye0 a.a b.a H2) ?_
 simp
 refine y33 _ (fun H2=>ye0 a.b b.b H2) ?_
 simp
 refine y33 _ (fun H2=>yig a.k b.k H2) ?_
 simp
 refine y33 _ (fun H2=>ye0 a.tag b.tag H2) ?_
 simp [show y91 5 [V.i .i64 0]=[.i .i64 0,.i .i64 0,.i .i64 0,.i .i64 0,.i .i64 0] from rfl]
 let c5:List Int:=[ydb a.op b.op,y9i a.a b.a,y9i a.b b.b,ydb a.k b.k,y9i a.tag b.tag]
 have A0:Acc H 1 (.sl (some (H.next,0,5)) 5 1) (H.add (.cells [.i .i64 (ydb a.op b.op),.i .i64 (y9i a.a b.a),.i .i64 (y9i a.b b.b),.i .i64 (ydb a.k b.k),.i .i64 (y9i a.tag b.tag)] 5)) (zi (c5++(yge a.args b.args).take 0)):=
  ⟨Hp.Ext.add hlt _,Hp.add_lt hlt _,fun e he=>by obtain ⟨x,_,rfl⟩:=List.mem_map.1 he;rfl,.inr ⟨H.next,5,kG _,rfl,by simp [zi,c5],by simp [zi,c5]⟩⟩
 have hc5:c5.length=5:=rfl
 have eR:cmpR a b=c5++yge a.args b.args++[ydb a.args.length b.args.length]:=rfl
 generalize H.add (.cells [.i .i64 (ydb a.op b.op),.i .i64 (y9i a.a b.a),.i .i64 (y9i a.b b.b),.i .i64 (ydb a.k b.k),.i .i64 (y9i a.tag b.tag)] 5)=X0 at *
 generalize V.sl (some (H.next,0,5)) 5 1=v0 at *
 clear_value c5
 apply jB
 simp [yt.r2]
 refine AX.pblock (AX.loop (CmInv a b c5 H) a.args.length ⟨_,_,.refl _ _,0,v0,by omega,by omega,by omega,A0,by simp [y3z]⟩ ?_)
 rintro m F X ⟨i,v,hia,hib,rfl,A,rfl⟩
 simp only [yt.l0]
 have hzl:=yld a.args b.args
 refine AX.seq (AX.test (decide (i<a.args.length)&&decide (i<b.args.length)) [(2,.fp (y3z a) 0),(3,.fp (y3z b) 0),(5,v),(6,.i .i64 i),(45,.b (decide (i<a.args.length)&&decide (i<b.args.length)))] ?_ rfl (fun hc=>AX.skip ?_) (fun hc=>AX.exit ?_))
 ·by_cases h1:i<a.args.length
  ·simp [yt.r3,y3z,ss,h1]
  ·simp [yt.r3,y3z,ss,h1]
 ·simp at hc
  obtain ⟨h1,h2⟩:=hc
  simp
  have hz:=yle h1 h2
  have hA:(zi (c5++(yge a.args b.args).take (i+1)))=zi (c5++(yge a.args b.args).take i)++[[V.i .i64 (y9i a.args[i] b.args[i])]]:=by
   rw [kJ,hz]
   simp [zi]
  obtain ⟨v1,X1,e1,A1⟩:=A.app (bytes:=8) (ys:=[[V.i .i64 (y9i a.args[i] b.args[i])]]) hlt (by simp) (by omega) (by simp) (by simp [zi,y74,hc5];omega)
  rw [←hA] at A1
  refine AX.seq (AX.pblock (AX.drw ?_))
  simp [yt.r4,y3z,ss,h1,h2]
  refine y33 _ (fun H2=>ye0 a.args[i] b.args[i] H2) ?_
  simp [y91,-y3a,e1]
  apply jE
  simp [yt.r5,y2c h1 (show a.args.length≤9223372036854775807 by omega)]
  exact ⟨a.args.length-(i+1),by omega,_,_,.refl _ _,i+1,v1,by omega,by omega,rfl,A1,by simp [y3z,ss]⟩
 simp at hc
 have hA:(yge a.args b.args).take i=yge a.args b.args:=kI (by rw [hzl];omega)
 rw [hA] at A
 have hA2:zi (cmpR a b)=zi (c5++yge a.args b.args)++[[V.i .i64 (ydb a.args.length b.args.length)]]:=by rw [eR];simp [zi]
 obtain ⟨v1,X1,e1,A1⟩:=A.app (bytes:=8) (ys:=[[V.i .i64 (ydb a.args.length b.args.length)]]) hlt (by simp) (by omega) (by simp) (by simp [zi,y74,hc5,hzl];omega)
 rw [←hA2] at A1
 rw [←cmpR_eq]
 have hRl:(cmpR a b).length≤1000010:=by rw [eR];simp [hc5,hzl];omega
 have hRn:cmpR a b≠[]:=by rw [eR];simp
 generalize cmpR a b=R at *
 simp
 apply jA
 simp [yt.r6,y3z,ss]
 refine AC.fix (yig a.args.length b.args.length _) ?_
 simp [y91,-y3a,e1]
 apply jB
 simp [yt.r7]
 have hR0:R≠[]:=hRn
 obtain ⟨id,mm,h1,rfl,h2,h3⟩:∃id m,H.next≤id∧v1=.sl (some (id,0,R.length)) R.length 1∧X1.get id=some (.cells (R.map fun x=>V.i .i64 x) m)∧m≤R.length:=by
  have hf:=zi_flat R
  rcases A1.sl with ⟨h,_⟩ | ⟨id,m,h1,h2,h3,h4⟩
  ·exact absurd (by simpa [zi] using h) hR0
  ·rw [hf] at h2 h3 h4
   exact ⟨id,m,h1,by simpa [zi] using h2,h3,by simpa using h4⟩
 refine AX.pblock (AX.loop (CmInv1 R (.sl (some (id,0,R.length)) R.length 1) X1) R.length ⟨_,_,.refl _ _,0,by omega,by omega,by simp [orI],rfl,rfl⟩ ?_)
 rintro m F Y ⟨k,hk,rfl,ho,rfl,rfl⟩
 simp only [yt.l1]
 apply jB
 simp [yt.r8]
 refine AX.pcond rfl (fun hd=>AX.skip ?_) (fun hd=>AX.exit ?_)
 case refine_2=>
  simp at hd
  rw [kI hd] at ho
  simp
  apply jA
  simp [yt.r12]
  apply jD
  simp [ho]
  exact ⟨A1.ext,.refl _⟩
 simp at hd
 have hsp:orI R=if R[k]≠0 then R[k] else orI (R.drop (k+1)):=by
  conv=>lhs;rw [←List.take_append_drop k R,kP hd]
  rw [yau]
  simp [ho,orI]
 have hst:orI (R.take (k+1))=R[k]:=by
  rw [kJ,kC hd,yau]
  simp [ho,orI]
  exact fun h=>h.symm
 simp
 apply jC
 have hdk:List.take 1 (List.drop k (R.map fun x=>V.i .i64 x))=[V.i .i64 R[k]]:=by
  rw [←List.map_drop,kP hd];rfl
 simp [yt.r9,hd,h2,h3,show k+1≤R.length from hd,hdk]
 refine AX.pcond rfl (fun he=>?_) (fun he=>AX.skip ?_)
 ·simp at he
  apply jA
  simp [yt.r10,hd,h2,h3,show k+1≤R.length from hd,hdk]
  apply jD
  simp [hsp,he]
  exact ⟨A1.ext,.refl _⟩
 simp at he
 simp
 apply jE
 simp [yt.r11,y2c hd (show R.length≤9223372036854775807 by omega)]
 exact ⟨R.length-(k+1),by omega,_,_,.refl _ _,k+1,by omega,rfl,by rw [hst,he],rfl,by simp⟩
def obS (o:Ob):Prop:=o.name.length≤140737488355328∧o.kinds.length≤140737488355328∧o.marks.length≤1000000∧∀m∈o.marks,m.tag.length≤140737488355328
def fuS (f:Fu):Prop:=f.name.length≤140737488355328∧f.kinds.length≤140737488355328
def cnS (c:Cn):Prop:=c.a.length≤140737488355328∧c.b.length≤140737488355328∧c.tag.length≤140737488355328∧c.args.length≤1000000∧∀a∈c.args,a.length≤140737488355328
def syS (s:Sy):Prop:=s.objs.length≤1000000∧s.fns.length≤1000000∧s.cons.length≤1000000000000∧(∀o∈s.objs,obS o)∧(∀f∈s.fns,fuS f)∧∀c∈s.cons,cnS c
def pv {α:Type} (l:List α) (i:Nat):Option α:=if i=0 then none else l[i-1]?
def ycm {α:Type} (cmp:α→α→Int) (p:Option α) (x:α):Bool:=match p with
 | some y=>decide (0≤cmp y x)
 | none=>false
theorem ycb {α:Type} {ask:α→Int} {cmp:α→α→Int} {l:List α} {i:Nat} (h:i<l.length):
  chk ask cmp (pv l i) (l.drop i)=if ask l[i]≠0 then ask l[i] else if ycm cmp (pv l i) l[i] then 13 else chk ask cmp (pv l (i+1)) (l.drop (i+1)):=by
 rw [kP h]
 have:pv l (i+1)=some l[i]:=by simp [pv,h]
 rw [this]
 rfl
theorem yef {α:Type} {ask:α→Int} {cmp:α→α→Int} {l:List α} {i:Nat} (h:l.length≤i):chk ask cmp (pv l i) (l.drop i)=0:=by
 rw [List.drop_eq_nil_of_le h]
 cases pv l i <;> rfl
theorem ge_cmp (a b:Str):decide (0≤y9i a b)=!ltB a b:=by
 unfold y9i
 cases h:ltB a b
 ·by_cases e:a=b <;> simp [e]
 ·simp
def ChInv {α:Type} (ask:α→Int) (cmp:α→α→Int) (l:List α) (s:Sy) (t:Nat) (H:Hp) (m:Nat) (F:Fr) (X:Hp):Prop:=
 ∃i,i≤l.length∧m=l.length-i∧chk ask cmp none l=chk ask cmp (pv l i) (l.drop i)∧X=H∧F=[(1,.fp (y3p s) 0),(t,.i .i64 i)]
theorem or0 (x:Int) (r:List Int) (h:x=0):orI (x::r)=orI r:=by simp [orI,h]
theorem or1 (x:Int) (r:List Int) (h:¬x=0):orI (x::r)=x:=by simp [orI,h]
theorem yry (s:Sy) (hs:syS s) (H:Hp):AC Tryz.prog y8o [.agg (y3p s)] H (fun v H'=>v=.i .i64 (ye2 s)∧H'=H):=by
 obtain ⟨lo,lf,lc,ho,hf,hcn⟩:=hs
 refine AC.code yd.at yd.ok ?_
 simp only [yd]
 apply jA
 simp [yd.r0,y3p]
 refine AX.seq ?_
 refine AX.test (decide (600<s.objs.length)||decide (600<s.fns.length)||decide (6000<s.cons.length)) [(1,.fp (y3p s) 0),(24,.b (decide (600<s.objs.length)||decide (600<s.fns.length)||decide (6000<s.cons.length)))] ?_ rfl (fun hb=>?_) (fun hb=>AX.skip ?_)
 ·by_cases h1:600<s.objs.length
  ·simp [yd.r1,y3p,h1]
  by_cases h2:600<s.fns.length
  ·simp [yd.r1,y3p,h1,h2]
  ·simp [yd.r1,y3p,h1,h2]
 ·apply jA
  simp [yd.r2]
  apply jD
  simp at hb
  have:600<s.objs.length∨600<s.fns.length∨6000<s.cons.length:=by omega
  simp [ye2,this]
 simp at hb
 have hn:¬(600<s.objs.length∨600<s.fns.length∨6000<s.cons.length):=by omega
 have eS:ye2 s=orI [chk obE yin none s.objs,chk fuE yio none s.fns,chk cnE ygn none s.cons]:=by unfold ye2;rw [if_neg hn]
 rw [eS]
 simp
 apply jB
 simp [yd.r3]
 refine AX.pblock (AX.loop (ChInv obE yin s.objs s 3 H) s.objs.length ⟨_,_,.refl _ _,0,by omega,by omega,rfl,rfl,by simp [y3p]⟩ ?_)
 rintro m F X ⟨i,hi,rfl,hch,hX,rfl⟩
 obtain rfl:=hX.symm
 simp only [yd.l0]
 apply jB
 simp [yd.r4,y3p]
 refine AX.pcond rfl (fun hc=>AX.skip ?_) (fun hc=>AX.exit ?_)
 ·simp at hc
  have hx:=ho _ (kL hc)
  rw [ycb hc] at hch
  have hg:s.objs[i]?=some s.objs[i]:=kC hc
  simp
  apply jC
  generalize hxx:s.objs[i]=x at *
  simp [yd.r5,hg,y68]
  refine AC.fix (ynx x (by have:=hx.1;omega) (by have:=hx.2.1;omega) (by have:=hx.2.2.1;omega) (fun m hm=>by have:=hx.2.2.2 m hm;omega) _) ?_
  simp
  apply jB
  simp [yd.r6]
  refine AX.pcond rfl (fun hd=>?_) (fun hd=>AX.skip ?_)
  ·simp at hd
   rw [if_pos hd] at hch
   apply jA
   simp [yd.r7]
   apply jD
   simp
   simp [hch,or1 _ _ hd]
  simp at hd
  rw [if_neg (by simp [hd])] at hch
  simp
  refine AX.testD (ycm yin (pv s.objs i) x) [(1,.fp (y3p s) 0),(3,.i .i64 i),(58,.b (ycm yin (pv s.objs i) x))] ?_ rfl (fun he=>?_) (fun he=>AX.skip ?_)
  ·cases i with
   | zero=>simp [yd.r8,y3p,pv,ycm]
   | succ j=>
    have hj:s.objs[j]?=some s.objs[j]:=kC (by omega)
    have hwj:IntKind.i64.wrap (j:Int)=(j:Int):=wrap_i64 (by omega) (by omega)
    have e1:ycm yin (pv s.objs (j+1)) x=decide (0≤yin s.objs[j] x):=by simp [pv,ycm,hj]
    have hy:=ho _ (kL (show j<s.objs.length by omega))
    generalize s.objs[j]=y at *
    rw [e1,show yin y x=y9i y.name x.name from rfl,ge_cmp]
    simp [yd.r8,y3p,y68,hwj,hj,hg,show (0:Int)≤(j:Int)+1 by omega]
  ·apply jA
   simp [yd.r9]
   apply jD
   rw [if_pos he] at hch
   simp
   simp [hch,orI]
  rw [if_neg (by simp [he])] at hch
  simp
  apply jE
  simp [yd.r10,y2c hc (show s.objs.length≤9223372036854775807 by omega)]
  exact ⟨s.objs.length-(i+1),by omega,_,_,.refl _ _,i+1,by omega,rfl,hch,rfl,by simp [y3p]⟩
 simp at hc
 rw [yef hc] at hch
 simp
 have h0:=hch
 clear hch
 apply jB
 simp [yd.r11]
 refine AX.pblock (AX.loop (ChInv fuE yio s.fns s 5 H) s.fns.length ⟨_,_,.refl _ _,0,by omega,by omega,rfl,rfl,by simp [y3p]⟩ ?_)
 rintro m F X ⟨i,hi,rfl,hch,hX,rfl⟩
 obtain rfl:=hX.symm
 simp only [yd.l1]
 apply jB
 simp [yd.r12,y3p]
 refine AX.pcond rfl (fun hc=>AX.skip ?_) (fun hc=>AX.exit ?_)
 ·simp at hc
  have hx:=hf _ (kL hc)
  rw [ycb hc] at hch
  have hg:s.fns[i]?=some s.fns[i]:=kC hc
  simp
  apply jC
  generalize hxx:s.fns[i]=x at *
  simp [yd.r13,hg,yb0]
  refine AC.fix (yjx x (by have:=hx.1;omega) (by have:=hx.2;omega) _) ?_
  simp
  apply jB
  simp [yd.r14]
  refine AX.pcond rfl (fun hd=>?_) (fun hd=>AX.skip ?_)
  ·simp at hd
   rw [if_pos hd] at hch
   apply jA
   simp [yd.r15]
   apply jD
   simp
   rw [or0 _ _ h0]
   simp [hch,or1 _ _ hd]
  simp at hd
  rw [if_neg (by simp [hd])] at hch
  simp
  refine AX.testD (ycm yio (pv s.fns i) x) [(1,.fp (y3p s) 0),(5,.i .i64 i),(92,.b (ycm yio (pv s.fns i) x))] ?_ rfl (fun he=>?_) (fun he=>AX.skip ?_)
  ·cases i with
   | zero=>simp [yd.r16,y3p,pv,ycm]
   | succ j=>
    have hj:s.fns[j]?=some s.fns[j]:=kC (by omega)
    have hwj:IntKind.i64.wrap (j:Int)=(j:Int):=wrap_i64 (by omega) (by omega)
    have e1:ycm yio (pv s.fns (j+1)) x=decide (0≤yio s.fns[j] x):=by simp [pv,ycm,hj]
    have hy:=hf _ (kL (show j<s.fns.length by omega))
    generalize s.fns[j]=y at *
    rw [e1,show yio y x=y9i y.name x.name from rfl,ge_cmp]
    simp [yd.r16,y3p,yb0,hwj,hj,hg,show (0:Int)≤(j:Int)+1 by omega]
  ·apply jA
   simp [yd.r17]
   apply jD
   rw [if_pos he] at hch
   simp
   rw [or0 _ _ h0]
   simp [hch,orI]
  rw [if_neg (by simp [he])] at hch
  simp
  apply jE
  simp [yd.r18,y2c hc (show s.fns.length≤9223372036854775807 by omega)]
  exact ⟨s.fns.length-(i+1),by omega,_,_,.refl _ _,i+1,by omega,rfl,hch,rfl,by simp [y3p]⟩
 simp at hc
 rw [yef hc] at hch
 simp
 have h1:=hch
 clear hch
 apply jB
 simp [yd.r19]
 refine AX.pblock (AX.loop (ChInv cnE ygn s.cons s 7 H) s.cons.length ⟨_,_,.refl _ _,0,by omega,by omega,rfl,rfl,by simp [y3p]⟩ ?_)
 rintro m F X ⟨i,hi,rfl,hch,hX,rfl⟩
 obtain rfl:=hX.symm
 simp only [yd.l2]
 apply jB
 simp [yd.r20,y3p]
 refine AX.pcond rfl (fun hc=>AX.skip ?_) (fun hc=>AX.exit ?_)
 ·simp at hc
  have hx:=hcn _ (kL hc)
  rw [ycb hc] at hch
  have hg:s.cons[i]?=some s.cons[i]:=kC hc
  simp
  apply jC
  generalize hxx:s.cons[i]=x at *
  simp [yd.r21,hg,y3z]
  refine AC.fix (RCon_ok x (by have:=hx.1;omega) (by have:=hx.2.1;omega) (by have:=hx.2.2.1;omega) (by have:=hx.2.2.2.1;omega) (fun a ha=>by have:=hx.2.2.2.2 a ha;omega) _) ?_
  simp
  apply jB
  simp [yd.r22]
  refine AX.pcond rfl (fun hd=>?_) (fun hd=>AX.skip ?_)
  ·simp at hd
   rw [if_pos hd] at hch
   apply jA
   simp [yd.r23]
   apply jD
   simp
   rw [or0 _ _ h0,or0 _ _ h1]
   simp [hch,or1 _ _ hd]
  simp at hd
  rw [if_neg (by simp [hd])] at hch
  simp
  refine AX.testD (ycm ygn (pv s.cons i) x) [(1,.fp (y3p s) 0),(7,.i .i64 i),(125,.b (ycm ygn (pv s.cons i) x))] ?_ rfl (fun he=>?_) (fun he=>AX.skip ?_)
  ·cases i with
   | zero=>simp [yd.r24,y3p,pv,ycm]
   | succ j=>
    have hj:s.cons[j]?=some s.cons[j]:=kC (by omega)
    have hwj:IntKind.i64.wrap (j:Int)=(j:Int):=wrap_i64 (by omega) (by omega)
    have e1:ycm ygn (pv s.cons (j+1)) x=decide (0≤ygn s.cons[j] x):=by simp [pv,ycm,hj]
    have hy:=hcn _ (kL (show j<s.cons.length by omega))
    generalize s.cons[j]=y at *
    rw [e1]
    simp [yd.r24,y3p,y3z,hwj,hj,hg,show (0:Int)≤(j:Int)+1 by omega]
    refine y33 _ (fun H2=>yl9 y x (by have:=hy.2.2.2.1;omega) (by have:=hx.2.2.2.1;omega) H2) ?_
    simp [y3p,y3z]
  ·apply jA
   simp [yd.r25]
   apply jD
   rw [if_pos he] at hch
   simp
   rw [or0 _ _ h0,or0 _ _ h1]
   simp [hch,orI]
  rw [if_neg (by simp [he])] at hch
  simp
  apply jE
  simp [yd.r26,y2c hc (show s.cons.length≤9223372036854775807 by omega)]
  exact ⟨s.cons.length-(i+1),by omega,_,_,.refl _ _,i+1,by omega,rfl,hch,rfl,by simp [y3p]⟩
 simp at hc
 rw [yef hc] at hch
 simp
 apply jA
 simp [yd.r27]
 apply jD
 simp [h0,h1,hch,orI]
end Go.Proofs.YtikpijbeobeckaaGreatDoor
