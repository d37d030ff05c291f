/- Part 22 of the proof of the laws of the queries: QNam, QNam2, QWr. -/
import Derived.Test.YtikpijbeobeckaaGreatDoorXLw21
set_option linter.unusedSimpArgs false
set_option linter.unusedVariables false
namespace Go.Proofs.YtikpijbeobeckaaGreatDoor
open Am C
def ydj (c:Int):Bool:=decide (-1≤c∧c≤268435456)
theorem y9l (d:Nd) (H:Hp):AC Tryz.prog y4l [nv d] H (fun v H'=>v=.b (ydj d.cell)∧H'=H):=by
  refine AC.code y27.at y27.ok ?_
  simp only [y27]
  apply jA
  simp [y27.r0,nv,Nd.cs]
  apply jA
  by_cases h:(-1:Int)≤d.cell <;> simp [y27.r1,h]
  all_goals
    apply jD
    simp [ydj,h]
def y4u (d:Nd):Bool:=
  if d.kind=5 then decide (d.fn=[])&&decide (d.copy=0)&&y6a d.name&&decide (d.n=0)&&ydj d.cell
  else y6a d.fn&&y6p d.copy &&
    (if d.kind=6 then y6a d.name&&decide (d.n=0)&&ydj d.cell
    else if d.kind=1 then y6a d.name&&decide (d.n=0)&&decide (d.cell=-1)
    else if d.kind=7 then decide (1≤d.n∧d.n≤268435456)&&decide (d.name=[])&&ydj d.cell
    else if d.kind=4 then decide (d.name=[])&&decide (d.n=0)&&decide (d.cell=-1)
    else if d.kind=3 then decide (1≤d.n∧d.n≤268435456)&&decide (d.name=[])&&decide (d.cell=-1)
    else if d.kind=2 then decide (0≤d.n∧d.n≤268435456)&&decide (d.name=[])&&decide (d.cell=-1)
    else false)
theorem ylc (d:Nd):y4u d=y5i d:=by
  rw [Bool.eq_iff_iff,y5v]
  obtain ⟨k,fn,cp,nm,n,cl⟩:=d
  by_cases hk:1≤k∧k≤7
  · have hcl:∀c,ydj c=true↔c=-1∨y6p c=true:=fun c=>by simp [ydj,y6p];omega
    rcases (by omega:k=1∨k=2∨k=3∨k=4∨k=5∨k=6∨k=7) with rfl | rfl | rfl | rfl | rfl | rfl | rfl
    all_goals
      constructor
      · intro h
        simp [y4u,ydj,y6p] at h
        constructor <;> simp [ybs,ylt,y6p,ydj,h] <;> omega
      · intro ⟨a1,a2,a3,a4,a5,a6,a7,a8⟩
        simp [ybs,ylt,y6p] at a3 a4 a5 a6 a7 a8
        simp [y4u,a6,a7,a8,ydj,y6p]
        try omega
  · constructor
    · intro h
      have h1:k≠1∧k≠2∧k≠3∧k≠4∧k≠5∧k≠6∧k≠7:=by omega
      simp [y4u,h1] at h
    · intro h
      exact absurd ⟨h.k1,h.k7⟩ hk
theorem yi4 (d:Nd) (h1:d.fn.length≤9223372036854775807) (h2:d.name.length≤9223372036854775807) (H:Hp):AC Tryz.prog y5l [nv d] H (fun v H'=>v=.b (y5i d)∧H'=H):=by
  rw [←ylc]
  obtain ⟨k,fn,cp,nm,n,cl⟩:=d
  refine AC.codeP y9.at y9.ok (free_b _) fun hlt=>?_
  simp only [y9]
  apply jA
  simp [y9.r0,nv,Nd.cs]
  apply jA
  simp [y9.r1]
  refine AX.cut (fun F X=>H.Ext X∧X.get H.next=some (.cells [.i .i64 0,.s [],.i .i64 0,.s nm,.i .i64 n,.i .i64 cl] 6)∧F=[(1,.fp [.i .i64 k,.s fn,.i .i64 cp,.s nm,.i .i64 n,.i .i64 cl] 0),(3,.p (some (H.next,0,6)))]) ?_ ?_
  · apply jE
    simp [y9.r2]
    exact ⟨_,_,.refl _ _,(Hp.Ext.add hlt _).upd hlt (Nat.le_refl _) _,by simp,rfl⟩
  rintro F X ⟨hx,hg,rfl⟩
  refine AX.seq (AX.test (decide (k≠5)&&(!y6a fn||!y6p cp)) [(1,.fp [.i .i64 k,.s fn,.i .i64 cp,.s nm,.i .i64 n,.i .i64 cl] 0),(3,.p (some (H.next,0,6))),(27,.b (decide (k≠5)&&(!y6a fn||!y6p cp)))] ?_ rfl (fun hz=>jA ?_) (fun hz=>AX.skip ?_))
  · by_cases a1:k=5
    · simp [y9.r3,a1]
    · simp [y9.r3,a1]
      refine AC.fix (ych _ h1 _) ?_
      by_cases a2:y6a fn=true
      · by_cases a3:cp<0
        · simp [a1,a2,a3,y6p,show ¬0≤cp by omega]
        · simp [a1,a2,a3,y6p,show 0≤cp by omega]
          by_cases a4:268435456<cp <;> simp [a4] <;> omega
      · simp [a1,a2]
  · simp [y9.r4]
    apply jD
    simp only [Bool.and_eq_true,decide_eq_true_eq,Bool.or_eq_true,Bool.not_eq_true'] at hz
    have:y4u ⟨k,fn,cp,nm,n,cl⟩=false:=by
      unfold y4u;simp only [if_neg hz.1]
      rcases hz.2 with h | h <;> simp [h]
    simp [this]
    exact ⟨hx,.refl _⟩
  simp
  apply jA
  simp [y9.r5]
  apply jB
  simp [y9.r6]
  refine AX.pblock (AX.seq (AX.pblock (AX.seq (AX.pblock (AX.seq (AX.pblock (AX.seq (AX.pblock (AX.seq (AX.pblock (AX.seq (AX.pblock (AX.seq (AX.pblock (AX.seq (AX.seq (jA ?_)))))))))))))))))
  have hz5:k≠5→y6a fn=true∧y6p cp=true:=fun h=>by
    simp [h] at hz;exact hz
  have en:(n == 0)=decide (n=0):=by by_cases h:n=0 <;> simp [h]
  have ec:(cl == -1)=decide (cl=-1):=by by_cases h:cl=-1 <;> simp [h]
  by_cases h5:k=5
  · subst h5
    simp [y9.r7]
    refine jG rfl (AX.exit ?_)
    simp
    refine AX.test (decide (fn≠[])||decide (cp≠0)) ([(1,.fp [.i .i64 5,.s fn,.i .i64 cp,.s nm,.i .i64 n,.i .i64 cl] 0),(3,.p (some (H.next,0,6))),(51,.b (decide (fn≠[])||decide (cp≠0)))]) ?_ rfl (fun hf=>jA ?_) (fun hf=>AX.skip ?_)
    · have e:fn.isEmpty=decide (fn=[]):=by cases fn <;> simp
      by_cases c1:fn=[] <;> simp [y9.r14,c1,e]
    · simp [y9.r15]
      apply jD
      have:y4u ⟨5,fn,cp,nm,n,cl⟩=false:=by
        unfold y4u;simp only [if_true]
        simp at hf
        rcases hf with h | h <;> simp [h]
      simp [this]
      exact ⟨hx,.refl _⟩
    have hf':fn=[]∧cp=0:=by simpa using hf
    simp
    apply jB
    simp [y9.r16]
    refine AC.fix (ych _ h2 _) ?_
    by_cases b1:y6a nm=true
    case neg=>
      simp [b1]
      apply jD
      simp [y4u,b1]
      exact ⟨hx,.refl _⟩
    by_cases b2:n=0
    case neg=>
      simp [b1,hg,y57,y84,en,ec,b2]
      apply jD
      simp [y4u,b2]
      exact ⟨hx,.refl _⟩
    subst b2
    simp [b1,hg,y57,y84,en,ec]
    refine AC.fix (y9l ⟨5,fn,cp,nm,0,cl⟩ _) ?_
    simp
    apply jD
    simp [y4u,b1,hf']
    exact ⟨hx,.refl _⟩
  by_cases h6:k=6
  · subst h6
    have hf:=hz5 (by omega)
    simp [y9.r7]
    refine jF rfl (AX.skip ?_)
    simp
    apply jB
    simp [y9.r8]
    refine jG rfl (AX.exit ?_)
    simp
    apply jB
    simp [y9.r16]
    refine AC.fix (ych _ h2 _) ?_
    by_cases b1:y6a nm=true
    case neg=>
      simp [b1]
      apply jD
      simp [y4u,b1]
      exact ⟨hx,.refl _⟩
    by_cases b2:n=0
    case neg=>
      simp [b1,hg,y57,y84,en,ec,b2]
      apply jD
      simp [y4u,b2]
      exact ⟨hx,.refl _⟩
    subst b2
    simp [b1,hg,y57,y84,en,ec]
    refine AC.fix (y9l ⟨6,fn,cp,nm,0,cl⟩ _) ?_
    simp
    apply jD
    simp [y4u,b1,hf]
    exact ⟨hx,.refl _⟩
  by_cases h1:k=1
  · subst h1
    have hf:=hz5 (by omega)
    simp [y9.r7]
    refine jF rfl (AX.skip ?_)
    simp
    apply jB
    simp [y9.r8]
    refine jF rfl (AX.skip ?_)
    simp
    apply jB
    simp [y9.r9]
    refine jG rfl (AX.exit ?_)
    simp
    apply jB
    simp [y9.r17]
    refine AC.fix (ych _ h2 _) ?_
    by_cases b1:y6a nm=true
    case neg=>
      simp [b1]
      apply jD
      simp [y4u,b1]
      exact ⟨hx,.refl _⟩
    by_cases b2:n=0 <;> by_cases b3:cl=-1 <;> simp [b1,hg,y57,y84,en,ec,b2,b3]
    all_goals
      apply jD
      simp [y4u,b1,b2,b3,hf]
      exact ⟨hx,.refl _⟩
  by_cases h7:k=7
  · subst h7
    have hf:=hz5 (by omega)
    simp [y9.r7]
    refine jF rfl (AX.skip ?_)
    simp
    apply jB
    simp [y9.r8]
    refine jF rfl (AX.skip ?_)
    simp
    apply jB
    simp [y9.r9]
    refine jF rfl (AX.skip ?_)
    simp
    apply jB
    simp [y9.r10]
    refine jG rfl (AX.exit ?_)
    simp
    apply jB
    by_cases b1:1≤n
    case neg=>
      simp [y9.r18,b1]
      apply jD
      simp [y4u,b1]
      exact ⟨hx,.refl _⟩
    by_cases b2:n≤268435456
    case neg=>
      simp [y9.r18,b1,b2]
      apply jD
      simp [y4u,b1,b2]
      exact ⟨hx,.refl _⟩
    by_cases b3:nm=[]
    case neg=>
      simp [y9.r18,b1,b2,hg,y57,y84,en,ec,b3,show nm.isEmpty=false by simpa using b3]
      apply jD
      simp [y4u,b1,b2,b3]
      exact ⟨hx,.refl _⟩
    subst b3
    simp [y9.r18,b1,b2,hg,y57,y84,en,ec]
    refine AC.fix (y9l ⟨7,fn,cp,[],n,cl⟩ _) ?_
    simp
    apply jD
    simp [y4u,b1,b2,hf]
    exact ⟨hx,.refl _⟩
  by_cases h4:k=4
  · subst h4
    have hf:=hz5 (by omega)
    simp [y9.r7]
    refine jF rfl (AX.skip ?_)
    simp
    apply jB
    simp [y9.r8]
    refine jF rfl (AX.skip ?_)
    simp
    apply jB
    simp [y9.r9]
    refine jF rfl (AX.skip ?_)
    simp
    apply jB
    simp [y9.r10]
    refine jF rfl (AX.skip ?_)
    simp
    apply jB
    simp [y9.r11]
    refine jG rfl (AX.exit ?_)
    simp
    apply jB
    have e:nm.isEmpty=decide (nm=[]):=by cases nm <;> simp
    by_cases b1:nm=[] <;> by_cases b2:n=0 <;> by_cases b3:cl=-1 <;> simp [y9.r19,hg,y57,y84,en,ec,b1,b2,b3,e]
    all_goals
      apply jD
      simp [y4u,b1,b2,b3,hf]
      exact ⟨hx,.refl _⟩
  by_cases h3:k=3
  · subst h3
    have hf:=hz5 (by omega)
    simp [y9.r7]
    refine jF rfl (AX.skip ?_)
    simp
    apply jB
    simp [y9.r8]
    refine jF rfl (AX.skip ?_)
    simp
    apply jB
    simp [y9.r9]
    refine jF rfl (AX.skip ?_)
    simp
    apply jB
    simp [y9.r10]
    refine jF rfl (AX.skip ?_)
    simp
    apply jB
    simp [y9.r11]
    refine jF rfl (AX.skip ?_)
    simp
    apply jB
    simp [y9.r12]
    refine jG rfl (AX.exit ?_)
    simp
    apply jE
    simp [y9.r20]
    apply jB
    have e:nm.isEmpty=decide (nm=[]):=by cases nm <;> simp
    by_cases b1:1≤n
    case neg=>
      simp [y9.r21,b1]
      apply jD
      simp [y4u,b1]
      exact ⟨hx,.refl _⟩
    by_cases b2:n≤268435456
    case neg=>
      simp [y9.r21,b1,b2]
      apply jD
      simp [y4u,b1,b2]
      exact ⟨hx,.refl _⟩
    by_cases b3:nm=[] <;> by_cases b4:cl=-1 <;> simp [y9.r21,b1,b2,hg,y57,y84,en,ec,b3,b4,e]
    all_goals
      apply jD
      simp [y4u,b1,b2,b3,b4,hf]
      exact ⟨hx,.refl _⟩
  by_cases h2:k=2
  · subst h2
    have hf:=hz5 (by omega)
    simp [y9.r7]
    refine jF rfl (AX.skip ?_)
    simp
    apply jB
    simp [y9.r8]
    refine jF rfl (AX.skip ?_)
    simp
    apply jB
    simp [y9.r9]
    refine jF rfl (AX.skip ?_)
    simp
    apply jB
    simp [y9.r10]
    refine jF rfl (AX.skip ?_)
    simp
    apply jB
    simp [y9.r11]
    refine jF rfl (AX.skip ?_)
    simp
    apply jB
    simp [y9.r12]
    refine jF rfl (AX.skip ?_)
    simp
    apply jA
    simp [y9.r13]
    refine jG rfl (AX.exit ?_)
    simp
    apply jB
    have e:nm.isEmpty=decide (nm=[]):=by cases nm <;> simp
    by_cases b1:0≤n
    case neg=>
      simp [y9.r21,b1]
      apply jD
      simp [y4u,b1]
      exact ⟨hx,.refl _⟩
    by_cases b2:n≤268435456
    case neg=>
      simp [y9.r21,b1,b2]
      apply jD
      simp [y4u,b1,b2]
      exact ⟨hx,.refl _⟩
    by_cases b3:nm=[] <;> by_cases b4:cl=-1 <;> simp [y9.r21,b1,b2,hg,y57,y84,en,ec,b3,b4,e]
    all_goals
      apply jD
      simp [y4u,b1,b2,b3,b4,hf]
      exact ⟨hx,.refl _⟩
  simp [y9.r7,h5]
  refine jF rfl (AX.skip ?_)
  simp
  apply jB
  simp [y9.r8,h6]
  refine jF rfl (AX.skip ?_)
  simp
  apply jB
  simp [y9.r9,h1]
  refine jF rfl (AX.skip ?_)
  simp
  apply jB
  simp [y9.r10,h7]
  refine jF rfl (AX.skip ?_)
  simp
  apply jB
  simp [y9.r11,h4]
  refine jF rfl (AX.skip ?_)
  simp
  apply jB
  simp [y9.r12,h3]
  refine jF rfl (AX.skip ?_)
  simp
  apply jA
  simp [y9.r13,h2]
  refine jF rfl (AX.skip ?_)
  simp
  refine AX.exit ?_
  simp
  apply jA
  simp [y9.r22]
  apply jD
  simp [y4u,h5,h6,h1,h7,h4,h3,h2]
  exact ⟨hx,.refl _⟩
def yii:Str:=[32,46,36,64,40,32,37,35]
def y9b (d:Nd):Str→Nd × Bool
  | []=>(d,false)
  | c::r=>
    let k:=Go.Lib.indexByte yii c
    if k=1∨k=6 then ({ d with kind:=k,name:=r },true)
    else if k=4 then ({ d with kind:=k },decide (r=[41]))
    else if k=2∨k=3∨k=7 then ({ d with kind:=k,n:=(y6b r).1 },decide ((y6b r).2=0))
    else ({ d with kind:=k },false)
def ycn (d:Nd):Str→Nd × Bool
  | []=>(d,false)
  | c::r=>if c=126 then (if (y6b (y3p r).1).2≠0∨(y3p r).2=[] then ({ d with copy:=(y6b (y3p r).1).1 },false) else y9b { d with copy:=(y6b (y3p r).1).1 } (y3p r).2) else y9b d (c::r)
def y92 (cl:Int) (s:Str):Nd × Bool:=
  if (y3p s).2=[] then ({ Nd.zero with kind:=5,name:=(y3p s).1,cell:=cl },true) else ycn { Nd.zero with fn:=(y3p s).1,cell:=cl } (y3p s).2
def y7l (s:Str):Nd × Bool:=
  let q:=Go.Lib.indexByte s 43
  if 0≤q then
    (if (y6b (s.drop (q.toNat+1))).2≠0 then ({ Nd.zero with cell:=(y6b (s.drop (q.toNat+1))).1 },false) else y92 (y6b (s.drop (q.toNat+1))).1 (s.take q.toNat))
  else y92 (-1) s
theorem yfx (s:Str) (c:UInt8):-1≤Go.Lib.indexByte s c∧Go.Lib.indexByte s c<s.length:=by
  induction s with
  | nil=>simp [Go.Lib.indexByte]
  | cons b s ih=>
    simp only [Go.Lib.indexByte,List.length_cons]
    split
    · omega
    · split <;> omega
structure RK (H:Hp) (d:Nd) (X:Hp):Prop where
  ext:H.Ext X
  g2:X.get H.next=some (.cells Nd.zero.cs 6)
  g4:X.get (H.next+1)=some (.cells d.cs 6)
def rkV (r:Nd × Bool):V:=.tup [nv r.1,.b r.2]
theorem read_ok (s:Str) (hs:s.length≤9223372036854775806) (H:Hp):AC Tryz.prog y9c [.s s] H (fun v H'=>v=rkV (y7l s)∧H'=H):=by
  refine AC.codeP yh.at yh.ok (by simp [rkV,nv,Nd.cs]) fun hlt=>?_
  simp only [yh]
  apply jA
  simp [yh.r0]
  apply jA
  simp [yh.r1]
  apply jA
  simp [yh.r2]
  have hfin:∀(X:Hp) (d:Nd),RK H d X→H.Ext (X.upd H.next (.cells d.cs 6)):=fun X d h=>h.ext.upd hlt (Nat.le_refl _) _
  refine AX.cut (fun F X=>∃cl,RK H { Nd.zero with cell:=cl } X∧∃s':Str,s'.length≤s.length∧y7l s=y92 cl s'∧F=[(0,.s s'),(2,.p (some (H.next,0,6))),(4,.p (some (H.next+1,0,6))),(5,.b true)]) ?_ ?_
  · have hq:=yfx s 43
    apply jA
    simp [yh.r3]
    refine AC.fix (yc1 s 43 _) ?_
    simp
    obtain ⟨q,eq⟩:∃q,q=Go.Lib.indexByte s 43:=⟨_,rfl⟩
    rw [←eq] at hq ⊢
    apply jA
    simp [yh.r4]
    refine AX.pcond rfl (fun hb=>?_) (fun hb=>AX.skip ?_)
    · simp at hb
      have e1:Go.IntKind.i64.wrap (q+1)=((q.toNat+1:Nat):Int):=by rw [wrap_i64 (by omega) (by omega)];omega
      apply jB
      simp [yh.r5,e1,show (q.toNat:Int)+1≤(s.length:Int) by omega,-Int.natCast_add,show ((q.toNat+1:Nat):Int)≤(s.length:Int) by omega]
      refine AC.fix (ycx (s.drop (q.toNat+1)) (by simp;omega) _) ?_
      simp
      apply jA
      simp [yh.r6]
      refine AX.pcond rfl (fun hc=>?_) (fun hc=>AX.skip ?_)
      · simp at hc
        apply jA
        simp [yh.r7]
        apply jD
        have hr:y7l s=({ Nd.zero with cell:=(y6b (s.drop (q.toNat+1))).1 },false):=by
          unfold y7l;simp only [←eq];rw [if_pos hb,if_pos (by omega)]
        simp [hr,rkV,nv,Nd.cs,Nd.zero]
        exact ⟨((Hp.Ext.add hlt _).trans (.add (Hp.add_lt hlt _) _)).upd hlt (by omega) _ |>.upd hlt (by omega) _,.refl _⟩
      · simp at hc
        have hr:y7l s=y92 (y6b (s.drop (q.toNat+1))).1 (s.take q.toNat):=by
          unfold y7l;simp only [←eq];rw [if_pos hb,if_neg (by omega)]
        simp
        apply jE
        simp [yh.r8,hb,show q≤(s.length:Int) by omega]
        exact ⟨_,_,.refl _ _,_,⟨(((Hp.Ext.add hlt _).trans (.add (Hp.add_lt hlt _) _)).upd hlt (by omega) _),by simp [Nd.zero,Nd.cs],by simp [Nd.zero,Nd.cs]⟩,_,by simp;omega,hr,by simp [hc]⟩
    · simp at hb
      have hr:y7l s=y92 (-1) s:=by
        unfold y7l;simp only [←eq];rw [if_neg (by omega)]
      simp
      exact ⟨_,_,.refl _ _,_,⟨(((Hp.Ext.add hlt _).trans (.add (Hp.add_lt hlt _) _)).upd hlt (by omega) _),by simp [Nd.zero,Nd.cs],by simp [Nd.zero,Nd.cs]⟩,_,Nat.le_refl _,hr,rfl⟩
  rintro F X ⟨cl,hk,s',hl,hr,rfl⟩
  have hsl:=y9n s'
  apply jA
  simp [yh.r9]
  refine AC.fix (yda s' (by omega) _) ?_
  obtain ⟨head,rest,es⟩:∃a b,y3p s'=(a,b):=⟨_,_,rfl⟩
  simp only [y92,es] at hr hsl ⊢
  simp
  apply jB
  simp [yh.r10]
  refine AX.pcond rfl (fun hb=>?_) (fun hb=>AX.skip ?_)
  · simp at hb
    rw [if_pos hb] at hr
    have g4:=hk.g4
    simp [Nd.cs,Nd.zero] at g4
    apply jA
    simp [yh.r11,g4]
    have g2:=hk.g2
    simp [Nd.cs,Nd.zero] at g2
    apply jA
    simp [yh.r12,g2]
    apply jD
    simp [hr,rkV,nv,Nd.cs,Nd.zero]
    exact ⟨(hk.ext.upd hlt (by omega) _).upd hlt (by omega) _,.refl _⟩
  simp at hb
  rw [if_neg hb] at hr
  simp
  have g4:=hk.g4
  simp [Nd.cs,Nd.zero] at g4
  refine AX.cut (fun F X=>∃d,RK H d X∧d={ Nd.zero with fn:=head,cell:=cl }∧∃rest:Str,rest≠[]∧rest.length≤s.length∧y7l s=ycn d rest∧F=[(2,.p (some (H.next,0,6))),(4,.p (some (H.next+1,0,6))),(5,.b true),(8,.s rest)]) ?_ ?_
  · apply jE
    simp [yh.r13,g4]
    refine ⟨_,_,.refl _ _,_,⟨hk.ext.upd hlt (by omega) _,by simp [hk.g2],?_⟩,rfl,rest,hb,by omega,hr,rfl⟩
    simp [Nd.cs,Nd.zero]
  clear hk hl hr g4 hb hsl
  rintro F X ⟨d,hk,hd,rest,hne,hl,hr,rfl⟩
  obtain ⟨c,r,rfl⟩:=List.exists_cons_of_ne_nil hne
  simp at hl
  have g4:=hk.g4
  simp [Nd.cs] at g4
  refine AX.cut (fun F X=>∃d,RK H d X∧∃rest:Str,rest≠[]∧rest.length≤s.length∧y7l s=y9b d rest∧F=[(2,.p (some (H.next,0,6))),(4,.p (some (H.next+1,0,6))),(5,.b true),(8,.s rest)]) ?_ ?_
  · have e:=u8_eq c 126 (by omega)
    simp at e
    apply jA
    simp [yh.r14,e]
    simp only [ycn] at hr
    by_cases hc:c=126
    · rw [if_pos hc] at hr
      have hsl:=y9n r
      refine jG (by simp [hc]) ?_
      apply jA
      simp [yh.r15,show (1:Int)≤(r.length:Int)+1 by omega]
      refine AC.fix (yda r (by omega) _) ?_
      obtain ⟨hd2,r2,es⟩:∃a b,y3p r=(a,b):=⟨_,_,rfl⟩
      simp only [es] at hr hsl ⊢
      simp
      apply jA
      simp [yh.r16]
      refine AC.fix (ycx hd2 (by omega) _) ?_
      simp [g4]
      refine AX.test (decide ((y6b hd2).2≠0∨r2=[])) [(2,.p (some (H.next,0,6))),(4,.p (some (H.next+1,0,6))),(5,.b (decide ((y6b hd2).2=0))),(8,.s r2),(62,.b (decide ((y6b hd2).2≠0∨r2=[])))] ?_ rfl (fun hz=>jA ?_) (fun hz=>AX.skip ?_)
      · by_cases a1:(y6b hd2).2=0 <;> by_cases a2:r2=[] <;> simp [yh.r17,a1,a2]
      · simp only [decide_eq_true_eq] at hz
        rw [if_pos hz] at hr
        have g2:=hk.g2
        simp [Nd.cs,Nd.zero] at g2
        simp [yh.r18,g2]
        apply jD
        simp [hr,rkV,nv,Nd.cs]
        exact ⟨(hk.ext.upd hlt (by omega) _).upd hlt (by omega) _,.refl _⟩
      · simp only [decide_eq_false_iff_not] at hz
        rw [if_neg hz] at hr
        have h0:(y6b hd2).2=0:=Classical.byContradiction fun h=>hz (.inl h)
        simp [h0]
        refine ⟨_,_,.refl _ _,_,⟨hk.ext.upd hlt (by omega) _,by simp [hk.g2],?_⟩,r2,fun h=>hz (.inr h),by omega,hr,rfl⟩
        simp [Nd.cs]
    · rw [if_neg hc] at hr
      refine jF (by simp [hc]) (AX.skip ?_)
      simp
      exact ⟨_,_,.refl _ _,d,hk,c::r,by simp,by simp;omega,hr,rfl⟩
  clear hk hl hr g4 hne hd
  clear d c r
  rintro F X ⟨d,hk,rest,hne,hl,hr,rfl⟩
  obtain ⟨c,r,rfl⟩:=List.exists_cons_of_ne_nil hne
  simp at hl
  have g4:=hk.g4
  have g2:=hk.g2
  simp [Nd.cs] at g4
  simp only [y9b] at hr
  apply jA
  simp [yh.r19]
  refine AC.fix (yc1 _ c _) ?_
  rw [show [32,46,36,64,40,32,37,35]=yii from rfl]
  generalize Go.Lib.indexByte yii c=k at hr ⊢
  simp [g4]
  apply jB
  simp [yh.r20,show (1:Int)≤(r.length:Int)+1 by omega]
  apply jA
  simp [yh.r21]
  refine AX.pblock (AX.seq (AX.join (F1:=[(2,.p (some (H.next,0,6))),(4,.p (some (H.next+1,0,6))),(5,.b true),(8,.s r),(71,.i .i64 k),(72,.b (decide (k=1∨k=6)))]) (H1:=X.upd (H.next+1) (.cells [.i .i64 k,.s d.fn,.i .i64 d.copy,.s d.name,.i .i64 d.n,.i .i64 d.cell] 6)) ?_ ?_))
  · apply jA
    simp [yh.r22]
    refine AX.pcond rfl (fun h=>AX.skip ?_) (fun h=>AX.reg ?_)
    · simp at h;simp [h]
    · simp at h;simp [yh.r23,h]
  have g2':=g2
  simp [Nd.cs,Nd.zero] at g2'
  refine AX.pcond rfl (fun h1=>AX.reg ?_) (fun h1=>?_)
  · simp only [ev,y6c,decide_eq_true_eq] at h1
    rw [if_pos h1] at hr
    simp [yh.r24]
    apply jA
    simp [yh.r32,g2']
    apply jD
    simp [hr,rkV,nv,Nd.cs]
    exact ⟨(hk.ext.upd hlt (by omega) _).upd hlt (by omega) _,.refl _⟩
  simp only [ev,y6c,decide_eq_false_iff_not] at h1
  rw [if_neg h1] at hr
  apply jA
  simp [yh.r25]
  refine AX.pcond rfl (fun h2=>jA ?_) (fun h2=>?_)
  · simp at h2
    rw [if_pos h2] at hr
    have er:(r == [41])=decide (r=[41]):=by by_cases h:r=[41] <;> simp [h]
    simp [yh.r26,g2']
    apply jD
    simp [hr,rkV,nv,Nd.cs,er]
    exact ⟨(hk.ext.upd hlt (by omega) _).upd hlt (by omega) _,.refl _⟩
  simp at h2
  rw [if_neg h2] at hr
  refine AX.seq (AX.join (F1:=[(2,.p (some (H.next,0,6))),(4,.p (some (H.next+1,0,6))),(8,.s r),(82,.b (decide (k=2∨k=3∨k=7)))]) (H1:=X.upd (H.next+1) (.cells [.i .i64 k,.s d.fn,.i .i64 d.copy,.s d.name,.i .i64 d.n,.i .i64 d.cell] 6)) ?_ ?_)
  · apply jA
    simp [yh.r27]
    refine AX.pcond rfl (fun h=>AX.skip ?_) (fun h=>jA ?_)
    · simp at h;simp [h]
    · simp at h
      simp [yh.r28]
      refine AX.pcond rfl (fun h=>AX.skip ?_) (fun h=>AX.reg ?_)
      · simp at h;simp [h]
      · simp at h;simp [yh.r29, *]
  refine AX.pcond rfl (fun h3=>AX.reg ?_) (fun h3=>AX.reg ?_)
  · simp only [ev,y6c,decide_eq_true_eq] at h3
    rw [if_pos h3] at hr
    simp [yh.r30]
    refine AC.fix (ycx r (by omega) _) ?_
    simp
    apply jA
    simp [yh.r32,g2']
    apply jD
    simp [hr,rkV,nv,Nd.cs]
    exact ⟨(hk.ext.upd hlt (by omega) _).upd hlt (by omega) _,.refl _⟩
  · simp only [ev,y6c,decide_eq_false_iff_not] at h3
    rw [if_neg h3] at hr
    simp [yh.r31]
    apply jA
    simp [yh.r32,g2']
    apply jD
    simp [hr,rkV,nv,Nd.cs]
    exact ⟨(hk.ext.upd hlt (by omega) _).upd hlt (by omega) _,.refl _⟩
open Go Go.RowKit Go.Shelf
open Am (Str)
abbrev Pow (w:World):Prop:=Go.Lib.TabIs Tryz.prog w "internal/strconv.uint64pow10" .u64 Go.Lib.pow10Tab
theorem pow_lt {w:World} (h:Pow w):6<w.heap.size:=by
  unfold Pow Go.Lib.TabIs Go.World.var? at *
  rw [show Tryz.prog.globalNamed "internal/strconv.uint64pow10"=some 6 by kernel_rfl] at *
  simp only [Option.bind_some] at *
  rcases Nat.lt_or_ge 6 w.heap.size with h' | h'
  · exact h'
  · simp [Array.getElem?_eq_none h'] at h
theorem ydr {w w':World} {B:Nat} (h:Pow w) (hB:6<B) (b:RowKit.Below B w w'):Pow w':=by
  unfold Pow Go.Lib.TabIs Go.World.var? at *
  rw [show Tryz.prog.globalNamed "internal/strconv.uint64pow10"=some 6 by kernel_rfl] at *
  simp only [Option.bind_some] at *
  rw [b.block 6 hB];exact h
theorem yfm {w w':World} (h:Pow w) (b:RowKit.Below w.heap.size w w'):Pow w':=ydr h (pow_lt h) b
theorem yj8 (n:Int) (h0:0≤n) (h1:n≤9223372036854775807) (w:World) (ht:Pow w):Calls Tryz.prog 205 #[.int .i64 n] w fun e w'=>e=.returned (.string ⟨(y4s n.toNat).toArray⟩)∧RowKit.Below w.heap.size w w':=by
  go_enter Tryz.func205,Tryz.ntmps205
  go_wp2_with (go_at_call 243;refine (Tryz.strconv_Itoa n (by omega) h1 _ ht).mono ?_)
  rintro e W1 ⟨rfl,k,os,rfl⟩
  go_wp2
  go_ret
  refine ⟨?_,Go.Lib.below_grow _ _ (Nat.le_refl _) _ _⟩
  have:Go.Lib.itoa n=y4s n.toNat:=by unfold Go.Lib.itoa y4s;rw [if_neg (by omega)]
  rw [this];rfl
theorem yh6 {w:World} {i:Nat} {o:Obj} (h:w.heap[i]?=some o):i<w.heap.size:=by
  rcases Nat.lt_or_ge i w.heap.size with h' | h'
  · exact h'
  · simp [Array.getElem?_eq_none h'] at h
theorem yi8 {w w':World} {B e size n:Nat} {v:Value} {xs:List Value} (h:w.ownsRow B e size v n xs) (hb:RowKit.Below w.heap.size w w'):w'.ownsRow B e size v n xs:=by
  obtain ⟨h1,h2 | ⟨g,cap,cur,a1,a2,a3,a4⟩⟩:=h
  · exact ⟨h1,.inl h2⟩
  · exact ⟨h1,.inr ⟨g,cap,cur,a1,a2,(hb.block g (yh6 a3)).trans a3,a4⟩⟩
theorem bld_keep {w w':World} {T e B b:Nat} {bs:List Value} (h:Lib.IsBuilder T e B b bs w) (hb:RowKit.Below w.heap.size w w'):Lib.IsBuilder T e B b bs w':=
  h.imp (fun ⟨a,v,c,d,f⟩=>⟨a,v,(hb.block b (yh6 c)).trans c,yi8 d hb,f⟩) (fun ⟨a,v,c,d,f⟩=>⟨a,v,(hb.block b (yh6 c)).trans c,yi8 d hb,f⟩)
structure NB (w:World) (k:Int) (fn:Str) (cp:Int) (nm:Str) (n cl:Int) (l:Str) (W:World):Prop where
  b:Lib.IsBuilder 230 5 (w.heap.size+1) (w.heap.size+1) (Lib.byteCells l) W
  lo:RowKit.Below w.heap.size w W
  sz:w.heap.size+1≤W.heap.size
  c0:W.cell? ⟨w.heap.size,0,none⟩=some (.int .i64 k)
  c1:W.cell? ⟨w.heap.size,1,none⟩=some (.string ⟨fn.toArray⟩)
  c2:W.cell? ⟨w.heap.size,2,none⟩=some (.int .i64 cp)
  c3:W.cell? ⟨w.heap.size,3,none⟩=some (.string ⟨nm.toArray⟩)
  c4:W.cell? ⟨w.heap.size,4,none⟩=some (.int .i64 n)
  c5:W.cell? ⟨w.heap.size,5,none⟩=some (.int .i64 cl)
  h5:6<w.heap.size
  p:Pow W
section
variable {w W W':World} {k:Int} {fn:Str} {cp:Int} {nm:Str} {n cl:Int} {l:Str}
theorem NB.first (w:World) (hp:Pow w):NB w k fn cp nm n cl [] ((w.alloc (.cells #[.int .i64 k,.string ⟨fn.toArray⟩,.int .i64 cp,.string ⟨nm.toArray⟩,.int .i64 n,.int .i64 cl] 125)).alloc (.cells #[.pointer none,.slice none 0 0] 230)):=by
  have h0:=Lib.fresh_isBuilder 230 5 (w.alloc (.cells #[.int .i64 k,.string ⟨fn.toArray⟩,.int .i64 cp,.string ⟨nm.toArray⟩,.int .i64 n,.int .i64 cl] 125))
  have hB:(w.alloc (.cells #[.int .i64 k,.string ⟨fn.toArray⟩,.int .i64 cp,.string ⟨nm.toArray⟩,.int .i64 n,.int .i64 cl] 125)).heap.size=w.heap.size+1:=by simp
  rw [hB] at h0
  have lo:RowKit.Below w.heap.size w ((w.alloc (.cells #[.int .i64 k,.string ⟨fn.toArray⟩,.int .i64 cp,.string ⟨nm.toArray⟩,.int .i64 n,.int .i64 cl] 125)).alloc (.cells #[.pointer none,.slice none 0 0] 230)):=((RowKit.Below.refl _ _).alloc (Nat.le_refl _) _).alloc (by simp) _
  exact ⟨h0,lo,by simp,by simp [go_sem],by simp [go_sem],by simp [go_sem],by simp [go_sem],by simp [go_sem],by simp [go_sem],pow_lt hp,yfm hp lo⟩
theorem NB.keep (N:NB w k fn cp nm n cl l W) (hb:RowKit.Below W.heap.size W W'):NB w k fn cp nm n cl l W':=by
  have lt:w.heap.size<W.heap.size:=by have:=N.sz;omega
  exact ⟨bld_keep N.b hb,N.lo.trans (hb.mono (by omega)),Nat.le_trans N.sz hb.size,(hb.cell lt).trans N.c0,(hb.cell lt).trans N.c1,(hb.cell lt).trans N.c2,(hb.cell lt).trans N.c3,(hb.cell lt).trans N.c4,(hb.cell lt).trans N.c5,N.h5,yfm N.p hb⟩
theorem NB.step {bs:List Value} {t:Str} (N:NB w k fn cp nm n cl l W) (h:Lib.BuilderAt 230 5 (w.heap.size+1) (w.heap.size+1) (.pointer (some ⟨w.heap.size+1,0,none⟩)) bs W') (hb:RowKit.Below (w.heap.size+1) W W') (e:bs=Lib.byteCells t):NB w k fn cp nm n cl t W':=by
  have lt:w.heap.size<w.heap.size+1:=by omega
  subst e
  refine ⟨.inr h,N.lo.trans (hb.mono (by omega)),Nat.le_trans N.sz hb.size,(hb.cell lt).trans N.c0,(hb.cell lt).trans N.c1,(hb.cell lt).trans N.c2,(hb.cell lt).trans N.c3,(hb.cell lt).trans N.c4,(hb.cell lt).trans N.c5,N.h5,ydr N.p (by have:=N.h5;omega) hb⟩
theorem NB.str (N:NB w k fn cp nm n cl l W) (t:Str) (hl:l.length+t.length≤1000):
    Calls Tryz.prog 204 #[.pointer (some ⟨w.heap.size+1,0,none⟩),.string ⟨t.toArray⟩] W fun e w'=>e=.returned (.tuple #[.int .i64 t.length,.nilIface])∧NB w k fn cp nm n cl (l++t) w':=by
  refine (bld_str _ _ _ ⟨t.toArray⟩ W N.b (by rw [Lib.byteCells_length];simp [ByteArray.size];omega) N.sz).mono ?_
  rintro e w' ⟨rfl,h1,h2⟩
  refine ⟨by simp [ByteArray.size],N.step h1 h2 ?_⟩
  rw [Lib.strCells_eq,←Lib.byteCells_append]
theorem NB.byte (N:NB w k fn cp nm n cl l W) (c:UInt8) (hl:l.length+1≤1000):
    Calls Tryz.prog 206 #[.pointer (some ⟨w.heap.size+1,0,none⟩),.int .u8 c.toNat] W fun e w'=>e=.returned .nilIface∧NB w k fn cp nm n cl (l++[c]) w':=by
  refine (bld_byte _ _ _ c.toNat W N.b (by rw [Lib.byteCells_length];omega) N.sz).mono ?_
  rintro e w' ⟨rfl,h1,h2⟩
  refine ⟨rfl,N.step h1 h2 ?_⟩
  rw [Lib.byteCells_append];rfl
theorem NB.text (N:NB w k fn cp nm n cl l W) (m:Int) (h0:0≤m) (h1:m≤9223372036854775807):
    Calls Tryz.prog 205 #[.int .i64 m] W fun e w'=>e=.returned (.string ⟨(y4s m.toNat).toArray⟩)∧NB w k fn cp nm n cl l w':=
  (yj8 m h0 h1 W N.p).mono fun e w' ⟨he,hb⟩=>⟨he,N.keep hb⟩
theorem NB.done (N:NB w k fn cp nm n cl l W):
    Calls Tryz.prog 207 #[.pointer (some ⟨w.heap.size+1,0,none⟩)] W fun e w'=>e=.returned (.string ⟨l.toArray⟩)∧RowKit.Below w.heap.size w w':=
  (Tryz.Builder_String_any _ _ l W N.b N.sz).mono fun e w' ⟨he,hb⟩=>⟨he,N.lo.trans (hb.mono (by omega))⟩
end
end Go.Proofs.YtikpijbeobeckaaGreatDoor
