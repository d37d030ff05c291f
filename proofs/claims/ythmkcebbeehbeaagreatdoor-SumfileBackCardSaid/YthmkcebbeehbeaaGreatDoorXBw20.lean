/- Part 20 of the proof of the laws of the queries: Q01c, Q14a, Q14b, Q14c. -/
import Derived.Test.YthmkcebbeehbeaaGreatDoorXBw19
set_option linter.unusedSimpArgs false
set_option linter.unusedVariables false
namespace Go.Proofs.YthmkcebbeehbeaaGreatDoor
open Am C
theorem RText_ok (n:Nat) (hn:n≤9223372036854775807) (H:Hp):AC Tryz.prog y5z [.i .i64 n] H (fun v H'=>v=.s (y6q n)∧H'=H):=by
  refine AC.code y3n.at y3n.ok ?_
  simp only [y3n]
  apply jA
  simp [y3n.r0]
  apply jB
  simp [y3n.r1]
  refine jG rfl (jA ?_)
  simp [y3n.r2,ykd (show 0≤(n:Int) by omega) (by omega)]
  refine AC.fix (plain_ok n (by omega) _) ?_
  simp
  apply jD
  simp
def yfy (s:Str):Nat:=s.foldl (fun n c=>10*n+(c.toNat-48)) 0
def y7u (s:Str):Nat × Nat:=
  if s=[] then (0,1) else if s.all yf7=false then (0,3) else if s[0]?=some 48∧1<s.length then (0,3) else if 268435456<yfy s then (0,2) else (yfy s,0)
theorem valD_ge (n:Nat) (s:Str):n≤s.foldl (fun n c=>10*n+(c.toNat-48)) n:=by
  induction s generalizing n with
  | nil=>simp
  | cons c s ih=>simp only [List.foldl_cons];exact Nat.le_trans (by omega) (ih _)
theorem yrs (s:Str) (i:Nat):yfy (s.take i)≤yfy s:=by
  have:yfy s=(s.drop i).foldl (fun n c=>10*n+(c.toNat-48)) (yfy (s.take i)):=by
    unfold yfy;rw [←List.foldl_append,List.take_append_drop]
  rw [this];exact valD_ge _ _
def RReadInv (s:Str) (H:Hp) (m:Nat) (F:Fr) (H':Hp):Prop:=
  ∃i,i≤s.length∧m=s.length-i∧(s.take i).all yf7=true∧H'=H∧F=[(0,.s s),(4,.i .i64 i)]
def yuu (s:Str) (H:Hp) (m:Nat) (F:Fr) (H':Hp):Prop:=
  ∃i,i≤s.length∧m=s.length-i∧yfy (s.take i)≤268435456∧H'=H∧F=[(0,.s s),(5,.i .i64 (yfy (s.take i))),(6,.i .i64 i)]
theorem yld (s:Str) (hs:s.length≤9223372036854775807) (H:Hp):AC Tryz.prog y8o [.s s] H (fun v H'=>v=.tup [.i .i64 (y7u s).1,.i .i64 (y7u s).2]∧H'=H):=by
  refine AC.code yo.at yo.ok ?_
  simp only [yo]
  apply jA
  simp [yo.r0]
  apply jB
  simp [yo.r1]
  refine AX.pcond rfl (fun hb=>?_) (fun hb=>AX.skip ?_)
  · simp at hb
    apply jA
    simp [yo.r2]
    apply jD
    simp [y7u,hb]
  simp at hb
  simp
  apply jB
  simp [yo.r3]
  refine AX.pblock (AX.loop (RReadInv s H) s.length ⟨_,_,.refl _ _,0,by omega,by omega,by simp,rfl,rfl⟩ ?_)
  rintro m F H' ⟨i,hi,rfl,hx,rfl,rfl⟩
  simp only [yo.l0]
  apply jB
  simp [yo.r4]
  refine AX.pcond rfl (fun hc=>AX.skip ?_) (fun hc=>AX.exit ?_)
  · simp at hc
    simp
    apply jC
    simp [yo.r5,hc]
    refine AC.fix (yl0 _ _) ?_
    simp
    refine AX.pcond rfl (fun hd=>?_) (fun hd=>AX.skip ?_)
    · simp at hd
      apply jA
      simp [yo.r6]
      apply jD
      have:s.all yf7=false:=by
        rw [List.all_eq_false];exact ⟨_,List.getElem_mem hc,by simp [hd]⟩
      simp [y7u,hb,this]
    simp at hd
    simp
    apply jE
    simp [yo.r7,y3q hc hs]
    refine ⟨s.length-(i+1),by omega,_,_,.refl _ _,i+1,by omega,rfl,?_,rfl,by simp⟩
    rw [List.take_add_one,List.getElem?_eq_getElem hc,List.all_append,hx]
    simp [hd]
  simp at hc
  have hall:s.all yf7=true:=by rwa [List.take_of_length_le (by omega)] at hx
  have hp:0<s.length:=List.length_pos_iff.2 hb
  simp
  refine AX.seq (AX.test (decide (s[0]?=some 48∧1<s.length)) [(0,.s s),(27,.b (decide (s[0]?=some 48∧1<s.length)))] ?_ rfl (fun hz=>jA ?_) (fun hz=>AX.skip ?_))
  · have e:((s[0].toNat:Int)=48)=(s[0]=48):=by
      refine propext ⟨fun h=>UInt8.toNat_inj.1 (by
                                                     have:s[0].toNat=48:=by omega
                                                     rw [this];rfl),fun h=>by rw [h];rfl⟩
    by_cases h:s[0]=48 <;> simp [yo.r8,hp,e,h]
  · simp [yo.r9]
    apply jD
    simp only [decide_eq_true_eq] at hz
    have:y7u s=(0,3):=by unfold y7u;rw [if_neg hb,if_neg (by simp [hall]),if_pos hz]
    simp [this]
  simp only [decide_eq_false_iff_not] at hz
  have hr:y7u s=if 268435456<yfy s then (0,2) else (yfy s,0):=by unfold y7u;rw [if_neg hb,if_neg (by simp [hall]),if_neg hz]
  simp
  apply jA
  simp [yo.r10]
  apply jB
  simp [yo.r11]
  refine AX.pblock (AX.loop (yuu s H') s.length ⟨_,_,.refl _ _,0,by omega,by omega,by simp [yfy],rfl,by simp [yfy]⟩ ?_)
  clear hx hi hc
  rintro m F H ⟨i,hi,rfl,hx,rfl,rfl⟩
  simp only [yo.l1]
  apply jB
  simp [yo.r12]
  refine AX.pcond rfl (fun hc=>AX.skip ?_) (fun hc=>AX.exit ?_)
  case refine_2=>
    simp at hc
    have e:s.take i=s:=List.take_of_length_le hc
    rw [e] at hx
    simp
    apply jA
    simp [yo.r17]
    apply jD
    rw [hr,if_neg (by omega),e];simp
  simp at hc
  have hd:yf7 s[i]=true:=List.all_eq_true.1 hall _ (List.getElem_mem hc)
  have hd':48≤s[i].toNat∧s[i].toNat≤57:=of_decide_eq_true hd
  have ev:yfy (s.take (i+1))=10*yfy (s.take i)+(s[i].toNat-48):=by
    unfold yfy;rw [List.take_add_one,List.getElem?_eq_getElem hc,List.foldl_append];rfl
  have e1:Go.IntKind.i64.wrap (10*(yfy (s.take i):Int))=((10*yfy (s.take i):Nat):Int):=by rw [y3g (by omega) (by omega)];omega
  have e2:Go.IntKind.u8.wrap ((s[i].toNat:Int)-48)=((s[i].toNat-48:Nat):Int):=by rw [yhz (by omega) (by omega)];omega
  have e3:Go.IntKind.i64.wrap ((s[i].toNat-48:Nat):Int)=((s[i].toNat-48:Nat):Int):=by rw [y3g (by omega) (by omega)]
  have e4:Go.IntKind.i64.wrap (((10*yfy (s.take i):Nat):Int)+((s[i].toNat-48:Nat):Int))=((yfy (s.take (i+1)):Nat):Int):=by rw [ev,y3g (by omega) (by omega)];omega
  simp
  apply jC
  simp only [yo.r13]
  simp [hc,-Int.natCast_mul,-Int.natCast_add,e1,e2,e3,e4]
  apply jA
  simp [yo.r14]
  refine AX.pcond rfl (fun hd=>?_) (fun hd=>AX.skip ?_)
  · simp at hd
    apply jA
    simp [yo.r15]
    apply jD
    have:=yrs s (i+1)
    rw [hr,if_pos (by omega)];simp
  simp at hd
  simp
  apply jE
  simp [yo.r16,y3q hc hs]
  exact ⟨s.length-(i+1),by omega,_,_,.refl _ _,i+1,by omega,rfl,by omega,rfl,by simp⟩
def y8d (s:Str):Bool:=decide (s.length≤16)&&y9n s&&s.all (inB true)
def RNameInv (s:Str) (H:Hp) (m:Nat) (F:Fr) (H':Hp):Prop:=
  ∃i,i≤s.length∧m=s.length-i∧(s.take i).all (inB true)=true∧H'=H∧F=[(0,.s s),(3,.i .i64 i)]
theorem yle (s:Str) (hs:s.length≤9223372036854775807) (H:Hp):AC Tryz.prog y8p [.s s] H (fun v H'=>v=.b (y8d s)∧H'=H):=by
  refine AC.code y1u.at y1u.ok ?_
  simp only [y1u]
  apply jA
  simp [y1u.r0]
  refine AX.seq (AX.test (!(decide (s.length≤16)&&y9n s)) [(0,.s s),(16,.b (!(decide (s.length≤16)&&y9n s)))] ?_ rfl (fun hz=>jA ?_) (fun hz=>AX.skip ?_))
  · by_cases h0:s=[]
    · subst h0;simp [y1u.r1,y9n]
    · have hp:0<s.length:=List.length_pos_iff.2 h0
      have h0':s.isEmpty=false:=by simpa using h0
      by_cases h1:s.length≤16
      · simp [y1u.r1,h0,h0',h1,hp,show ¬16<s.length by omega]
        refine AC.fix (yek _ _) ?_
        simp [y9n,hp]
      · simp [y1u.r1,h0,h0',h1,hp,show 16<s.length by omega]
  · simp [y1u.r2]
    apply jD
    have:y8d s=false:=by unfold y8d;simp only [Bool.not_eq_true'] at hz;rw [hz];rfl
    simp [this]
  have hz':(decide (s.length≤16)&&y9n s)=true:=by simpa only [Bool.not_eq_false'] using hz
  simp
  apply jB
  simp [y1u.r3]
  refine AX.pblock (AX.loop (RNameInv s H) s.length ⟨_,_,.refl _ _,0,by omega,by omega,by simp,rfl,rfl⟩ ?_)
  rintro m F H' ⟨i,hi,rfl,hx,rfl,rfl⟩
  simp only [y1u.l0]
  apply jB
  simp [y1u.r4]
  refine AX.pcond rfl (fun hc=>AX.skip ?_) (fun hc=>AX.exit ?_)
  case refine_2=>
    simp at hc
    rw [List.take_of_length_le hc] at hx
    simp
    apply jA
    simp [y1u.r8]
    apply jD
    have:y8d s=true:=by unfold y8d;rw [hz',hx];rfl
    simp [this]
  simp at hc
  simp
  refine AX.seq (AX.pblock (AX.test (!(inB true s[i])) [(0,.s s),(3,.i .i64 i),(34,.b (!(inB true s[i])))] ?_ rfl (fun hz=>jA ?_) (fun hz=>AX.skip ?_)))
  · by_cases h1:yjg s[i]=true
    · simp [y1u.r5,hc]
      refine AC.fix (yek _ _) ?_
      simp [h1,inB]
    · simp [y1u.r5,hc]
      refine AC.fix (yek _ _) ?_
      simp [h1,hc]
      refine AC.fix (yl0 _ _) ?_
      simp [h1,inB]
  · simp [y1u.r6]
    apply jD
    have:y8d s=false:=by
      unfold y8d
      have:s.all (inB true)=false:=by rw [List.all_eq_false];exact ⟨_,List.getElem_mem hc,by simpa using hz⟩
      rw [this,Bool.and_false]
    simp [this]
  · simp
    apply jE
    simp [y1u.r7,y3q hc hs]
    refine ⟨s.length-(i+1),by omega,_,_,.refl _ _,i+1,by omega,rfl,?_,rfl,by simp⟩
    rw [List.take_add_one,List.getElem?_eq_getElem hc,List.all_append,hx]
    simpa using hz
structure Nd where
  kind:Int
  fn:Str
  copy:Int
  name:Str
  n:Int
  cell:Int
  deriving DecidableEq
def Nd.cs (d:Nd):List V:=[.i .i64 d.kind,.s d.fn,.i .i64 d.copy,.s d.name,.i .i64 d.n,.i .i64 d.cell]
def nv (d:Nd):V:=.agg d.cs
def Nd.zero:Nd:=⟨0,[],0,[],0,0⟩
def y8x (n:Int):Bool:=decide (0≤n∧n≤268435456)
theorem yl3 (n:Int) (H:Hp):AC Tryz.prog y86 [.i .i64 n] H (fun v H'=>v=.b (y8x n)∧H'=H):=by
  refine AC.code y4k.at y4k.ok ?_
  simp only [y4k]
  apply jA
  simp [y4k.r0]
  apply jA
  by_cases h:(0:Int)≤n <;> simp [y4k.r1,h]
  all_goals
    apply jD
    simp [y8x,h]
def yc2 (k:Int):Bool:=decide (k=1∨k=5∨k=6)
def yje (k:Int):Bool:=decide (k=2∨k=3∨k=7)
def bad1 (d:Nd):Bool:=decide (d.kind<1∨7<d.kind)||!y8x d.copy||!y8x d.n||(decide (d.cell≠-1)&&!y8x d.cell)
def bad2 (d:Nd):Bool:=(decide (d.kind=5) != decide (d.fn=[]))||(decide (d.fn≠[])&&!y8d d.fn)||(decide (d.kind=5)&&decide (d.copy≠0))
def bad3 (d:Nd):Bool:=(yc2 d.kind != decide (d.name≠[]))||(yc2 d.kind&&!y8d d.name)
def bad4 (d:Nd):Bool:=(!yje d.kind&&decide (d.n≠0))||(decide (d.n=0)&&decide (d.kind=3∨d.kind=7))
def y90 (d:Nd):Bool:=!bad1 d&&!bad2 d&&!bad3 d&&!bad4 d&&decide (5≤d.kind∨d.cell=-1)
theorem Right_ok (d:Nd) (h1:d.fn.length≤9223372036854775807) (h2:d.name.length≤9223372036854775807) (H:Hp):AC Tryz.prog yax [nv d] H (fun v H'=>v=.b (y90 d)∧H'=H):=by
  obtain ⟨k,fn,cp,nm,n,cl⟩:=d
  refine AC.code yy.at yy.ok ?_
  simp only [yy]
  apply jA
  simp [yy.r0,nv,Nd.cs]
  refine AX.seq (AX.test (bad1 ⟨k,fn,cp,nm,n,cl⟩) [(1,.fp [.i .i64 k,.s fn,.i .i64 cp,.s nm,.i .i64 n,.i .i64 cl] 0),(35,.b (bad1 ⟨k,fn,cp,nm,n,cl⟩))] ?_ rfl (fun hz=>jA ?_) (fun hz=>AX.skip ?_))
  · by_cases a1:k<1
    · simp [yy.r1,a1,bad1]
    by_cases a2:7<k
    · simp [yy.r1,a1,a2,bad1]
    simp [yy.r1,a1,a2]
    refine AC.fix (yl3 _ _) ?_
    by_cases a3:y8x cp=true
    case neg=>simp [a3,bad1]
    simp [a3]
    refine AC.fix (yl3 _ _) ?_
    by_cases a4:y8x n=true
    case neg=>simp [a4,bad1]
    by_cases a5:cl=-1
    · simp [a4,a5,bad1,a1,a2,a3]
    simp [a4,a5]
    refine AC.fix (yl3 _ _) ?_
    simp [bad1,a1,a2,a3,a4,a5]
  · simp [yy.r2]
    apply jD
    simp [y90,hz]
  simp
  refine AX.stp [(1,.fp [.i .i64 k,.s fn,.i .i64 cp,.s nm,.i .i64 n,.i .i64 cl] 0),(3,.b (yc2 k))] ?_ ?_
  · by_cases a1:k=1
    · simp [yy.r3,a1,yc2]
    by_cases a2:k=5 <;> simp [yy.r3,a1,a2,yc2]
  refine AX.stp [(1,.fp [.i .i64 k,.s fn,.i .i64 cp,.s nm,.i .i64 n,.i .i64 cl] 0),(3,.b (yc2 k)),(4,.b (yje k))] ?_ ?_
  · by_cases a1:k=2
    · simp [yy.r4,a1,yje]
    by_cases a2:k=3 <;> simp [yy.r4,a1,a2,yje]
  refine AX.seq (AX.pblock (AX.test (bad2 ⟨k,fn,cp,nm,n,cl⟩) [(1,.fp [.i .i64 k,.s fn,.i .i64 cp,.s nm,.i .i64 n,.i .i64 cl] 0),(3,.b (yc2 k)),(4,.b (yje k)),(62,.b (bad2 ⟨k,fn,cp,nm,n,cl⟩))] ?_ rfl (fun hz2=>jA ?_) (fun hz2=>?_)))
  · have e:fn.isEmpty=decide (fn=[]):=by cases fn <;> simp
    by_cases a1:k=5 <;> by_cases a2:fn=[]
    · by_cases a3:cp=0 <;> simp [yy.r5,a1,a2,a3,bad2]
    · simp [yy.r5,a1,a2,e,bad2]
    · simp [yy.r5,a1,a2,e,bad2]
    · simp [yy.r5,a1,a2,e]
      refine AC.fix (yle _ h1 _) ?_
      by_cases a3:y8d fn=true <;> simp [a1,a2,a3,e,bad2]
  · simp [yy.r6]
    apply jD
    simp [y90,hz2]
  simp
  refine AX.test (bad3 ⟨k,fn,cp,nm,n,cl⟩) [(1,.fp [.i .i64 k,.s fn,.i .i64 cp,.s nm,.i .i64 n,.i .i64 cl] 0),(4,.b (yje k)),(91,.b (bad3 ⟨k,fn,cp,nm,n,cl⟩))] ?_ rfl (fun hz3=>jA ?_) (fun hz3=>?_)
  · have e:nm.isEmpty=decide (nm=[]):=by cases nm <;> simp
    by_cases a1:yc2 k=true <;> by_cases a2:nm=[]
    · simp [yy.r7,a1,a2,bad3]
    · simp [yy.r7,a1,a2,e]
      refine AC.fix (yle _ h2 _) ?_
      simp [a1,a2,e,bad3]
    · simp [yy.r7,a1,a2,e,bad3]
    · simp [yy.r7,a1,a2,e,bad3]
  · simp [yy.r8]
    apply jD
    simp [y90,hz3]
  simp
  refine AX.test (bad4 ⟨k,fn,cp,nm,n,cl⟩) [(1,.fp [.i .i64 k,.s fn,.i .i64 cp,.s nm,.i .i64 n,.i .i64 cl] 0),(106,.b (bad4 ⟨k,fn,cp,nm,n,cl⟩))] ?_ rfl (fun hz4=>jA ?_) (fun hz4=>AX.skip ?_)
  · by_cases a3:k=3
    · subst a3
      by_cases a2:n=0 <;> simp [yy.r9,show yje 3=true from rfl,a2,bad4]
    · by_cases a1:yje k=true <;> by_cases a2:n=0 <;> simp [yy.r9,a1,a2,a3,bad4]
  · simp [yy.r10]
    apply jD
    simp [y90,hz4]
  simp
  apply jA
  by_cases a1:5≤k <;> simp [yy.r11,a1]
  all_goals
    apply jD
    simp [y90,hz,hz2,hz3,hz4,a1]
def ydb:Str→Nat × Str
  | []=>(0,[])
  | c::r=>if c=126 then ((y7u (y4q r).1).1,(y4q r).2) else (0,c::r)
def yci:Str→Str × Str × Str
  | []=>([],[],[])
  | c::r=>if c=43 then ([],[],c::r) else ([c],(y4q r).1,if c=40∧(y4q r).2=[41] then [] else (y4q r).2)
def ykp:Str→Int
  | []=>-1
  | c::r=>if c=43 then (y7u r).1 else -1
def ysq (s:Str):V:=
  let a:=y4q s
  let b:=ydb a.2
  let c:=yci b.2
  .tup [.s a.1,.i .i64 b.1,.s c.1,.s c.2.1,.i .i64 (ykp c.2.2)]
theorem y83 (s:Str):(y4q s).1.length≤s.length∧(y4q s).2.length≤s.length:=by
  have:=congrArg List.length (ybq s)
  rw [List.length_append] at this;omega
theorem ym7 (s:Str):(ydb s).2.length≤s.length:=by
  cases s with
  | nil=>simp [ydb]
  | cons c r=>
                simp only [ydb];split
                · have:=y83 r;simp;omega
                · simp
theorem ysr (s:Str):(yci s).2.2.length≤s.length:=by
  cases s with
  | nil=>simp [yci]
  | cons c r=>
                simp only [yci];split
                · simp
                · have:=y83 r
                  split
                  · simp
                  · simp;omega
theorem u8_eq (c:UInt8) (k:Nat) (hk:k<256):((c.toNat:Int)=(k:Int))=(c=UInt8.ofNat k):=by
  refine propext ⟨fun h=>UInt8.toNat_inj.1 (by rw [UInt8.toNat_ofNat'];omega),fun h=>by rw [h,UInt8.toNat_ofNat'];omega⟩
theorem parts_ok (s:Str) (hs:s.length≤9223372036854775807) (H:Hp):AC Tryz.prog yaw [.s s] H (fun v H'=>v=ysq s∧H'=H):=by
  refine AC.code yr.at yr.ok ?_
  simp only [yr]
  apply jA
  simp [yr.r0]
  apply jA
  simp [yr.r1]
  refine AC.fix (ylb s hs _) ?_
  simp
  have hr:=(y83 s).2
  unfold ysq
  rcases ea:y4q s with ⟨fn,rest⟩
  rw [ea] at hr
  simp only at hr ⊢
  apply jA
  simp [yr.r2]
  refine AX.seq (AX.join (F1:=[(7,.s fn),(8,.s (ydb rest).2),(9,.i .i64 (ydb rest).1),(10,.i .i64 (-1))]) (H1:=H) ?_ ?_)
  · cases rest with
    | nil=>
      apply jA
      simp [yr.r3]
      refine jF rfl (AX.skip ?_)
      simp [ydb]
    | cons c r=>
      have e:=u8_eq c 126 (by omega)
      simp at e hr
      apply jA
      simp [yr.r3,e]
      by_cases hc:c=126
      · refine jG (by simp [hc]) ?_
        apply jA
        simp [yr.r4,show (1:Int)≤(r.length:Int)+1 by omega]
        refine AC.fix (ylb r (by omega) _) ?_
        simp
        have hl:=y83 r
        apply jA
        simp [yr.r5]
        refine AC.fix (yld _ (by omega) _) ?_
        simp
        apply jE
        simp [yr.r6,ydb,hc]
      · refine jF (by simp [hc]) (AX.skip ?_)
        simp [ydb,hc]
  have hr2:=ym7 rest
  rcases eb:ydb rest with ⟨cp,r2⟩
  rw [eb] at hr2
  simp only at hr2 ⊢
  apply jA
  simp [yr.r7]
  refine AX.seq (AX.join (F1:=[(7,.s fn),(8,.s (yci r2).2.2),(9,.i .i64 cp),(10,.i .i64 (-1)),(13,.s (yci r2).1),(14,.s (yci r2).2.1)]) (H1:=H) ?_ ?_)
  · cases r2 with
    | nil=>
      apply jA
      simp [yr.r8]
      refine jF rfl (AX.skip ?_)
      simp [yci]
    | cons c r=>
      have e:=u8_eq c 43 (by omega)
      simp at e hr2
      apply jA
      simp [yr.r8,e]
      by_cases hc:c=43
      · refine jF (by simp [hc]) (AX.skip ?_)
        simp [yci,hc]
      · refine jG (by simp [hc]) ?_
        apply jA
        simp [yr.r9,show (1:Int)≤(r.length:Int)+1 by omega]
        apply jA
        simp [yr.r10,show (1:Int)≤(r.length:Int)+1 by omega]
        refine AC.fix (ylb r (by omega) _) ?_
        simp
        rcases es:y4q r with ⟨tl,r3⟩
        refine AX.test (decide (c=40∧r3=[41])) [(7,.s fn),(8,.s r3),(9,.i .i64 cp),(10,.i .i64 (-1)),(13,.s [c]),(14,.s tl),(59,.b (decide (c=40∧r3=[41])))] ?_ rfl (fun hz=>AX.reg ?_) (fun hz=>AX.skip ?_)
        · by_cases h1:c=40
          · simp [yr.r11,h1]
          · simp [yr.r11,h1,show (c == 40)=false by simpa using h1]
        · simp at hz
          simp [yr.r12,yci,hc,es,hz]
        · simp only [decide_eq_false_iff_not] at hz
          simp [yci,hc,es]
          intro h1 h2;exact absurd ⟨h1,h2⟩ hz
  have hr3:=ysr r2
  rcases ec:yci r2 with ⟨mk,tl,r3⟩
  rw [ec] at hr3
  simp only at hr3 ⊢
  refine AX.seq (AX.join (F1:=[(7,.s fn),(9,.i .i64 cp),(10,.i .i64 (ykp r3)),(13,.s mk),(14,.s tl)]) (H1:=H) ?_ ?_)
  · cases r3 with
    | nil=>
      apply jA
      simp [yr.r13]
      refine jF rfl (AX.skip ?_)
      simp [ykp]
    | cons c r=>
      have e:=u8_eq c 43 (by omega)
      simp at e hr3
      apply jA
      simp [yr.r13,e]
      by_cases hc:c=43
      · refine jG (by simp [hc]) ?_
        apply jE
        simp [yr.r14,show (1:Int)≤(r.length:Int)+1 by omega]
        refine AC.fix (yld _ (by omega) _) ?_
        simp [ykp,hc]
      · refine jF (by simp [hc]) (AX.skip ?_)
        simp [ykp,hc]
  apply jA
  simp [yr.r15]
  apply jD
  simp
def y66 (c:Int):Str:=if 0<c then 126::y6q c.toNat else []
def y7d (d:Nd):Str:=
  if d.kind=1 then d.fn++(y66 d.copy++46::d.name)
  else if d.kind=2 then d.fn++(y66 d.copy++36::y6q d.n.toNat)
  else if d.kind=3 then d.fn++(y66 d.copy++64::y6q d.n.toNat)
  else if d.kind=4 then d.fn++(y66 d.copy++[40,41])
  else if d.kind=5 then d.name
  else if d.kind=6 then d.fn++(y66 d.copy++37::d.name)
  else d.fn++(y66 d.copy++35::y6q d.n.toNat)
def y76 (c:Int):Str:=if 0≤c then 43::y6q c.toNat else []
def y4t (d:Nd):Str:=y7d d++y76 d.cell
def ynb (d:Nd):V:=if y90 d then .tup [.s (y4t d),.i .i64 0] else .tup [.s [],.i .i64 11]
theorem yg6 {s:Str} (h:y8d s=true):s.length≤16:=by
  unfold y8d at h;simp only [Bool.and_eq_true,decide_eq_true_eq] at h;exact h.1.1
structure RightN (d:Nd):Prop where
  k1:1≤d.kind
  k7:d.kind≤7
  cp:y8x d.copy=true
  n:y8x d.n=true
  cell:d.cell=-1∨(5≤d.kind∧y8x d.cell=true)
  fn:(d.kind=5∧d.fn=[]∧d.copy=0)∨(d.kind≠5∧y8d d.fn=true)
  nm:(yc2 d.kind=true∧y8d d.name=true)∨(yc2 d.kind=false∧d.name=[])
  nn:(yje d.kind=true∧(d.kind=2∨d.n≠0))∨(yje d.kind=false∧d.n=0)
theorem yap (d:Nd):y90 d=true↔RightN d:=by
  unfold y90 bad1 bad2 bad3 bad4
  constructor
  · intro h
    simp only [Bool.and_eq_true,Bool.not_eq_true',Bool.or_eq_false_iff,Bool.and_eq_false_iff,decide_eq_true_eq,decide_eq_false_iff_not,Bool.not_eq_false',bne_eq_false_iff_eq] at h
    obtain ⟨⟨⟨⟨⟨⟨⟨a1,a2⟩,a3⟩,a4⟩,⟨⟨b1,b2⟩,b3⟩⟩,⟨c1,c2⟩⟩,⟨d1,d2⟩⟩,e⟩:=h
    refine ⟨by omega,by omega,a2,a3,?_,?_,?_,?_⟩
    · rcases a4 with a4 | a4
      · exact .inl (by simpa using a4)
      · rcases e with e | e
        · exact .inr ⟨e,a4⟩
        · exact .inl e
    · by_cases hk:d.kind=5
      · simp [hk] at b1 b3
        exact .inl ⟨hk,b1,b3⟩
      · simp [hk] at b1
        simp [b1] at b2
        exact .inr ⟨hk,b2⟩
    · cases hn:yc2 d.kind with
      | true=>rw [hn] at c2;simp at c2;exact .inl ⟨rfl,c2⟩
      | false=>rw [hn] at c1;simp at c1;exact .inr ⟨rfl,c1⟩
    · cases hn:yje d.kind with
      | true=>
        refine .inl ⟨rfl,?_⟩
        simp [yje] at hn
        by_cases h0:d.n=0
        · simp [h0] at d2;omega
        · exact .inr h0
      | false=>rw [hn] at d1;simp at d1;exact .inr ⟨rfl,d1⟩
  · intro ⟨k1,k7,cp,n,cell,fn,nm,nn⟩
    simp only [Bool.and_eq_true,Bool.not_eq_true',Bool.or_eq_false_iff,Bool.and_eq_false_iff,decide_eq_true_eq,decide_eq_false_iff_not,Bool.not_eq_false',bne_eq_false_iff_eq]
    refine ⟨⟨⟨⟨⟨⟨⟨by omega,cp⟩,n⟩,?_⟩,⟨⟨?_,?_⟩,?_⟩⟩,⟨?_,?_⟩⟩,⟨?_,?_⟩⟩,?_⟩
    · rcases cell with c | c
      · exact .inl (by simpa using c)
      · exact .inr c.2
    · rcases fn with ⟨a,b,c⟩ | ⟨a,b⟩
      · simp [a,b]
      · have:d.fn≠[]:=fun h=>by rw [h] at b;exact absurd b (by decide)
        simp [a,this]
    · rcases fn with ⟨a,b,c⟩ | ⟨a,b⟩
      · exact .inl (by simpa using b)
      · exact .inr b
    · rcases fn with ⟨a,b,c⟩ | ⟨a,b⟩
      · exact .inr (by simpa using c)
      · exact .inl a
    · rcases nm with ⟨a,b⟩ | ⟨a,b⟩
      · have:d.name≠[]:=fun h=>by rw [h] at b;exact absurd b (by decide)
        simp [a,this]
      · simp [a,b]
    · rcases nm with ⟨a,b⟩ | ⟨a,b⟩
      · exact .inr b
      · exact .inl a
    · rcases nn with ⟨a,b⟩ | ⟨a,b⟩
      · exact .inl a
      · exact .inr (by simpa using b)
    · rcases nn with ⟨a,b⟩ | ⟨a,b⟩
      · by_cases h0:d.n=0
        · right;rcases b with b | b
          · omega
          · exact absurd h0 b
        · exact .inl h0
      · right;simp [yje] at a;omega
    · rcases cell with c | c
      · exact .inr c
      · exact .inl c.1
theorem yew (n:Int) (h0:0≤n) (hn:n≤9223372036854775807) (H:Hp):AC Tryz.prog y5z [.i .i64 n] H (fun v H'=>v=.s (y6q n.toNat)∧H'=H):=by
  have:=RText_ok n.toNat (by omega) H
  rwa [Int.toNat_of_nonneg h0] at this
theorem yum (d:Nd) (h1:d.fn.length≤9223372036854775807) (h2:d.name.length≤9223372036854775807) (H:Hp):AC Tryz.prog ybk [nv d] H (fun v H'=>v=ynb d∧H'=H):=by
  refine AC.code y8.at y8.ok ?_
  simp only [y8]
  apply jA
  simp [y8.r0,nv]
  apply jB
  simp [y8.r1,Nd.cs]
  refine AC.fix (Right_ok d h1 h2 _) ?_
  simp
  refine AX.pcond rfl (fun hb=>jA ?_) (fun hb=>AX.skip ?_)
  · simp at hb
    simp [y8.r2]
    apply jD
    simp [ynb,hb]
  simp at hb
  obtain ⟨k1,k7,hcp,hn,hcell,hfn,hnm,hnn⟩:=(yap d).1 hb
  have ht:ynb d=.tup [.s (y4t d),.i .i64 0]:=by unfold ynb;rw [if_pos hb]
  rw [ht]
  obtain ⟨k,fn,cp,nm,n,cl⟩:=d
  simp only [Nd.cs] at *
  have lfn:fn.length≤16:=by
    rcases hfn with ⟨a,b,c⟩ | ⟨a,b⟩
    · subst b;simp
    · exact yg6 b
  have lnm:nm.length≤16:=by
    rcases hnm with ⟨a,b⟩ | ⟨a,b⟩
    · exact yg6 b
    · subst b;simp
  have dl:∀x:Int,y8x x=true→(y6q x.toNat).length≤9:=fun x hx=>by
    have:=of_decide_eq_true hx
    exact y50 8 _ (by omega)
  have lcp:=dl _ hcp
  have ln:=dl _ hn
  have hcp':=of_decide_eq_true hcp
  have hn':=of_decide_eq_true hn
  simp
  apply jA
  simp [y8.r3]
  refine AX.seq (AX.join (F1:=[(1,.fp [.i .i64 k,.s fn,.i .i64 cp,.s nm,.i .i64 n,.i .i64 cl] 0),(4,.s (fn++y66 cp))]) (H1:=H) ?_ ?_)
  · apply jA
    simp [y8.r4]
    refine AX.pcond rfl (fun hb=>?_) (fun hb=>AX.skip ?_)
    · simp at hb
      apply jE
      simp [y8.r5,show fn.length+1≤9223372036854775807 by omega]
      refine AC.fix (yew cp (by omega) (by omega) _) ?_
      simp [y66,hb,show fn.length+1+(y6q cp.toNat).length≤9223372036854775807 by omega]
    · simp at hb
      simp [y66,show ¬0<cp by omega]
  have lc:(y66 cp).length≤10:=by unfold y66;split <;> simp;omega
  have lb:(y7d ⟨k,fn,cp,nm,n,cl⟩).length≤60:=by
    unfold y7d
    repeat' split
    all_goals simp
    all_goals omega
  refine AX.seq (AX.join (F1:=[(1,.fp [.i .i64 k,.s fn,.i .i64 cp,.s nm,.i .i64 n,.i .i64 cl] 0),(4,.s (y7d ⟨k,fn,cp,nm,n,cl⟩))]) (H1:=H) ?_ ?_)
  · clear ht
    rcases (by omega:k=1∨k=2∨k=3∨k=4∨k=5∨k=6∨k=7) with rfl | rfl | rfl | rfl | rfl | rfl | rfl
    · apply jA
      simp [y8.r6]
      refine AX.pblock ?_
      apply jA
      simp [y8.r7]
      refine jG rfl ?_
      apply jE
      simp [y8.r8,y7d,show fn.length+(y66 cp).length≤9223372036854775806 by omega,show fn.length+((y66 cp).length+1)+nm.length≤9223372036854775807 by omega]
    · apply jA
      simp [y8.r6]
      refine AX.pblock ?_
      apply jA
      simp [y8.r7]
      refine jF rfl ?_
      apply jA
      simp [y8.r9]
      refine jG rfl ?_
      apply jE
      simp [y8.r10,show fn.length+(y66 cp).length≤9223372036854775806 by omega]
      refine AC.fix (yew n (by omega) (by omega) _) ?_
      simp [y7d,show fn.length+((y66 cp).length+1)+(y6q n.toNat).length≤9223372036854775807 by omega]
    · apply jA
      simp [y8.r6]
      refine AX.pblock ?_
      apply jA
      simp [y8.r7]
      refine jF rfl ?_
      apply jA
      simp [y8.r9]
      refine jF rfl ?_
      apply jA
      simp [y8.r11]
      refine jG rfl ?_
      apply jE
      simp [y8.r12,show fn.length+(y66 cp).length≤9223372036854775806 by omega]
      refine AC.fix (yew n (by omega) (by omega) _) ?_
      simp [y7d,show fn.length+((y66 cp).length+1)+(y6q n.toNat).length≤9223372036854775807 by omega]
    · apply jA
      simp [y8.r6]
      refine AX.pblock ?_
      apply jA
      simp [y8.r7]
      refine jF rfl ?_
      apply jA
      simp [y8.r9]
      refine jF rfl ?_
      apply jA
      simp [y8.r11]
      refine jF rfl ?_
      apply jA
      simp [y8.r13]
      refine jG rfl ?_
      apply jE
      simp [y8.r14,y7d,show fn.length+(y66 cp).length≤9223372036854775805 by omega]
    · apply jA
      simp [y8.r6]
      refine AX.pblock ?_
      apply jA
      simp [y8.r7]
      refine jF rfl ?_
      apply jA
      simp [y8.r9]
      refine jF rfl ?_
      apply jA
      simp [y8.r11]
      refine jF rfl ?_
      apply jA
      simp [y8.r13]
      refine jF rfl ?_
      apply jA
      simp [y8.r15]
      refine jG rfl ?_
      apply jE
      simp [y8.r16,y7d]
    · apply jA
      simp [y8.r6]
      refine AX.pblock ?_
      apply jA
      simp [y8.r7]
      refine jF rfl ?_
      apply jA
      simp [y8.r9]
      refine jF rfl ?_
      apply jA
      simp [y8.r11]
      refine jF rfl ?_
      apply jA
      simp [y8.r13]
      refine jF rfl ?_
      apply jA
      simp [y8.r15]
      refine jF rfl ?_
      apply jA
      simp [y8.r17]
      refine jG rfl ?_
      apply jE
      simp [y8.r18,y7d,show fn.length+(y66 cp).length≤9223372036854775806 by omega,show fn.length+((y66 cp).length+1)+nm.length≤9223372036854775807 by omega]
    · apply jA
      simp [y8.r6]
      refine AX.pblock ?_
      apply jA
      simp [y8.r7]
      refine jF rfl ?_
      apply jA
      simp [y8.r9]
      refine jF rfl ?_
      apply jA
      simp [y8.r11]
      refine jF rfl ?_
      apply jA
      simp [y8.r13]
      refine jF rfl ?_
      apply jA
      simp [y8.r15]
      refine jF rfl ?_
      apply jA
      simp [y8.r17]
      refine jF rfl ?_
      apply jA
      simp [y8.r19]
      refine jG rfl ?_
      apply jE
      simp [y8.r20,show fn.length+(y66 cp).length≤9223372036854775806 by omega]
      refine AC.fix (yew n (by omega) (by omega) _) ?_
      simp [y7d,show fn.length+((y66 cp).length+1)+(y6q n.toNat).length≤9223372036854775807 by omega]
  refine AX.seq (AX.join (F1:=[(4,.s (y4t ⟨k,fn,cp,nm,n,cl⟩))]) (H1:=H) ?_ ?_)
  · apply jA
    simp [y8.r21]
    refine AX.pcond rfl (fun hb=>?_) (fun hb=>AX.skip ?_)
    · simp at hb
      have hcl:y8x cl=true:=by
        rcases hcell with c | c
        · omega
        · exact c.2
      have lcl:=dl _ hcl
      have hcl':=of_decide_eq_true hcl
      apply jE
      simp [y8.r22,show (y7d ⟨k,fn,cp,nm,n,cl⟩).length+1≤9223372036854775807 by omega]
      refine AC.fix (yew cl (by omega) (by omega) _) ?_
      simp [y4t,y76,hb,show (y7d ⟨k,fn,cp,nm,n,cl⟩).length+1+(y6q cl.toNat).length≤9223372036854775807 by omega]
    · simp at hb
      simp [y4t,y76,show ¬0≤cl by omega]
  apply jA
  simp [y8.r23]
  apply jD
  simp
end Go.Proofs.YthmkcebbeehbeaaGreatDoor
