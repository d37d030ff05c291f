/- Part 20. -/
import Derived.Test.YtikpijbeobeckaaGreatDoorXFw19
set_option linter.unusedSimpArgs false
set_option linter.unusedVariables false
namespace Go.Proofs.YtikpijbeobeckaaGreatDoor
open Am C
theorem RText_ok (n:Nat) (hn:n≤9223372036854775807) (H:Hp):AC Tryz.prog y4q [.i .i64 n] H (fun v H'=>v=.s (y54 n)∧H'=H):=by
 refine AC.code y31.at y31.ok ?_
 simp only [y31]
 apply jA
 simp [y31.r0]
 apply jB
 simp [y31.r1]
 refine jG rfl (jA ?_)
 simp [y31.r2,y9k (show 0≤(n:Int) by omega) (by omega)]
 refine AC.fix (plain_ok n (by omega) _) ?_
 simp
 apply jD
 simp
def ydd (s:Str):Nat:=s.foldl (fun n c=>10*n+(c.toNat-48)) 0
def y5x (s:Str):Nat × Nat:=
 if s=[] then (0,1) else if s.all ycf=false then (0,3) else if s[0]?=some 48∧1<s.length then (0,3) else if 268435456<ydd s then (0,2) else (ydd s,0)
theorem valD_ge (n:Nat) (s:Str):n≤s.foldl (fun n c=>10*n+(c.toNat-48)) n:=by
 induction s generalizing n with
 | nil=>simp
 | cons c s ih=>simp only [List.foldl_cons];exact kV (by omega) (ih _)
theorem yot (s:Str) (i:Nat):ydd (s.take i)≤ydd s:=by
 have:ydd s=(s.drop i).foldl (fun n c=>10*n+(c.toNat-48)) (ydd (s.take i)):=by
  unfold ydd;rw [←List.foldl_append,List.take_append_drop]
 rw [this];exact valD_ge _ _
def RReadInv (s:Str) (H:Hp) (m:Nat) (F:Fr) (H':Hp):Prop:=
 ∃i,i≤s.length∧m=s.length-i∧(s.take i).all ycf=true∧H'=H∧F=[(0,.s s),(4,.i .i64 i)]
def yru (s:Str) (H:Hp) (m:Nat) (F:Fr) (H':Hp):Prop:=
 ∃i,i≤s.length∧m=s.length-i∧ydd (s.take i)≤268435456∧H'=H∧F=[(0,.s s),(5,.i .i64 (ydd (s.take i))),(6,.i .i64 i)]
theorem yih (s:Str) (hs:s.length≤9223372036854775807) (H:Hp):AC Tryz.prog y6l [.s s] H (fun v H'=>v=.tup [.i .i64 (y5x s).1,.i .i64 (y5x s).2]∧H'=H):=by
 refine AC.code yr.at yr.ok ?_
 simp only [yr]
 apply jA
 simp [yr.r0]
 apply jB
 simp [yr.r1]
 refine AX.pcond rfl (fun hb=>?_) (fun hb=>AX.skip ?_)
 ·simp at hb
  apply jA
  simp [yr.r2]
  apply jD
  simp [y5x,hb]
 simp at hb
 simp
 apply jB
 simp [yr.r3]
 refine AX.pblock (AX.loop (RReadInv s H) s.length ⟨_,_,.refl _ _,0,by omega,by omega,by simp,rfl,rfl⟩ ?_)
 rintro m F H' ⟨i,hi,rfl,hx,rfl,rfl⟩
 simp only [yr.l0]
 apply jB
 simp [yr.r4]
 refine AX.pcond rfl (fun hc=>AX.skip ?_) (fun hc=>AX.exit ?_)
 ·simp at hc
  simp
  apply jC
  simp [yr.r5,hc]
  refine AC.fix (yi3 _ _) ?_
  simp
  refine AX.pcond rfl (fun hd=>?_) (fun hd=>AX.skip ?_)
  ·simp at hd
   apply jA
   simp [yr.r6]
   apply jD
   have:s.all ycf=false:=by
    rw [List.all_eq_false];exact ⟨_,kL hc,by simp [hd]⟩
   simp [y5x,hb,this]
  simp at hd
  simp
  apply jE
  simp [yr.r7,y2c hc hs]
  refine ⟨s.length-(i+1),by omega,_,_,.refl _ _,i+1,by omega,rfl,?_,rfl,by simp⟩
  rw [kJ,kC hc,List.all_append,hx]
  simp [hd]
 simp at hc
 have hall:s.all ycf=true:=by rwa [kI (by omega)] at hx
 have hp:0<s.length:=List.length_pos_iff.2 hb
 simp
 refine AX.seq (AX.test (decide (s[0]?=some 48∧1<s.length)) [(0,.s s),(27,.b (decide (s[0]?=some 48∧1<s.length)))] ?_ rfl (fun hz=>jA ?_) (fun hz=>AX.skip ?_))
 ·have e:((s[0].toNat:Int)=48)=(s[0]=48):=by
   refine propext ⟨fun h=>UInt8.toNat_inj.1 (by
                           have:s[0].toNat=48:=by omega
                           rw [this];rfl),fun h=>by rw [h];rfl⟩
  by_cases h:s[0]=48 <;> simp [yr.r8,hp,e,h]
 ·simp [yr.r9]
  apply jD
  simp only [decide_eq_true_eq] at hz
  have:y5x s=(0,3):=by unfold y5x;rw [if_neg hb,if_neg (by simp [hall]),if_pos hz]
  simp [this]
 simp only [decide_eq_false_iff_not] at hz
 have hr:y5x s=if 268435456<ydd s then (0,2) else (ydd s,0):=by unfold y5x;rw [if_neg hb,if_neg (by simp [hall]),if_neg hz]
 simp
 apply jA
 simp [yr.r10]
 apply jB
 simp [yr.r11]
 refine AX.pblock (AX.loop (yru s H') s.length ⟨_,_,.refl _ _,0,by omega,by omega,by simp [ydd],rfl,by simp [ydd]⟩ ?_)
 clear hx hi hc
 rintro m F H ⟨i,hi,rfl,hx,rfl,rfl⟩
 simp only [yr.l1]
 apply jB
 simp [yr.r12]
 refine AX.pcond rfl (fun hc=>AX.skip ?_) (fun hc=>AX.exit ?_)
 case refine_2=>
  simp at hc
  have e:s.take i=s:=kI hc
  rw [e] at hx
  simp
  apply jA
  simp [yr.r17]
  apply jD
  rw [hr,if_neg (by omega),e];simp
 simp at hc
 have hd:ycf s[i]=true:=List.all_eq_true.1 hall _ (kL hc)
 have hd':48≤s[i].toNat∧s[i].toNat≤57:=of_decide_eq_true hd
 have ev:ydd (s.take (i+1))=10*ydd (s.take i)+(s[i].toNat-48):=by
  unfold ydd;rw [kJ,kC hc,List.foldl_append];rfl
 have e1:Go.IntKind.i64.wrap (10*(ydd (s.take i):Int))=((10*ydd (s.take i):Nat):Int):=by rw [wrap_i64 (by omega) (by omega)];omega
 have e2:Go.IntKind.u8.wrap ((s[i].toNat:Int)-48)=((s[i].toNat-48:Nat):Int):=by rw [yk5 (by omega) (by omega)];omega
 have e3:Go.IntKind.i64.wrap ((s[i].toNat-48:Nat):Int)=((s[i].toNat-48:Nat):Int):=by rw [wrap_i64 (by omega) (by omega)]
 have e4:Go.IntKind.i64.wrap (((10*ydd (s.take i):Nat):Int)+((s[i].toNat-48:Nat):Int))=((ydd (s.take (i+1)):Nat):Int):=by rw [ev,wrap_i64 (by omega) (by omega)];omega
 simp
 apply jC
 simp only [yr.r13]
 simp [hc,-Int.natCast_mul,-Int.natCast_add,e1,e2,e3,e4]
 apply jA
 simp [yr.r14]
 refine AX.pcond rfl (fun hd=>?_) (fun hd=>AX.skip ?_)
 ·simp at hd
  apply jA
  simp [yr.r15]
  apply jD
  have:=yot s (i+1)
  rw [hr,if_pos (by omega)];simp
 simp at hd
 simp
 apply jE
 simp [yr.r16,y2c hc hs]
 exact ⟨s.length-(i+1),by omega,_,_,.refl _ _,i+1,by omega,rfl,by omega,rfl,by simp⟩
def y69 (s:Str):Bool:=decide (s.length≤16)&&y7n s&&s.all (inB true)
def RNameInv (s:Str) (H:Hp) (m:Nat) (F:Fr) (H':Hp):Prop:=
 ∃i,i≤s.length∧m=s.length-i∧(s.take i).all (inB true)=true∧H'=H∧F=[(0,.s s),(3,.i .i64 i)]
theorem ymu (s:Str) (hs:s.length≤9223372036854775807) (H:Hp):AC Tryz.prog y7v [.s s] H (fun v H'=>v=.b (y69 s)∧H'=H):=by
 refine AC.code y1j.at y1j.ok ?_
 simp only [y1j]
 apply jA
 simp [y1j.r0]
 refine AX.seq (AX.test (!(decide (s.length≤16)&&y7n s)) [(0,.s s),(16,.b (!(decide (s.length≤16)&&y7n s)))] ?_ rfl (fun hz=>jA ?_) (fun hz=>AX.skip ?_))
 ·by_cases h0:s=[]
  ·subst h0;simp [y1j.r1,y7n]
  ·have hp:0<s.length:=List.length_pos_iff.2 h0
   have h0':s.isEmpty=false:=by simpa using h0
   by_cases h1:s.length≤16
   ·simp [y1j.r1,h0,h0',h1,hp,show ¬16<s.length by omega]
    refine AC.fix (yby _ _) ?_
    simp [y7n,hp]
   ·simp [y1j.r1,h0,h0',h1,hp,show 16<s.length by omega]
 ·simp [y1j.r2]
  apply jD
  have:y69 s=false:=by unfold y69;simp only [Bool.not_eq_true'] at hz;rw [hz];rfl
  simp [this]
 have hz':(decide (s.length≤16)&&y7n s)=true:=by simpa only [Bool.not_eq_false'] using hz
 simp
 apply jB
 simp [y1j.r3]
 refine AX.pblock (AX.loop (RNameInv s H) s.length ⟨_,_,.refl _ _,0,by omega,by omega,by simp,rfl,rfl⟩ ?_)
 rintro m F H' ⟨i,hi,rfl,hx,rfl,rfl⟩
 simp only [y1j.l0]
 apply jB
 simp [y1j.r4]
 refine AX.pcond rfl (fun hc=>AX.skip ?_) (fun hc=>AX.exit ?_)
 case refine_2=>
  simp at hc
  rw [kI hc] at hx
  simp
  apply jA
  simp [y1j.r8]
  apply jD
  have:y69 s=true:=by unfold y69;rw [hz',hx];rfl
  simp [this]
 simp at hc
 simp
 refine AX.seq (AX.pblock (AX.test (!(inB true s[i])) [(0,.s s),(3,.i .i64 i),(34,.b (!(inB true s[i])))] ?_ rfl (fun hz=>jA ?_) (fun hz=>AX.skip ?_)))
 ·by_cases h1:ygj s[i]=true
  ·simp [y1j.r5,hc]
   refine AC.fix (yby _ _) ?_
   simp [h1,inB]
  ·simp [y1j.r5,hc]
   refine AC.fix (yby _ _) ?_
   simp [h1,hc]
   refine AC.fix (yi3 _ _) ?_
   simp [h1,inB]
 ·simp [y1j.r6]
  apply jD
  have:y69 s=false:=by
   unfold y69
   have:s.all (inB true)=false:=by rw [List.all_eq_false];exact ⟨_,kL hc,by simpa using hz⟩
   rw [this,Bool.and_false]
  simp [this]
 ·simp
  apply jE
  simp [y1j.r7,y2c hc hs]
  refine ⟨s.length-(i+1),by omega,_,_,.refl _ _,i+1,by omega,rfl,?_,rfl,by simp⟩
  rw [kJ,kC hc,List.all_append,hx]
  simpa using hz
structure Nd where
 kind:Int
 fn:Str
 copy:Int
 name:Str
 n:Int
 cell:Int
 deriving DecidableEq
def Nd.cs (d:Nd):List V:=[.i .i64 d.kind,.s d.fn,.i .i64 d.copy,.s d.name,.i .i64 d.n,.i .i64 d.cell]
def nv (d:Nd):V:=.agg d.cs
def Nd.zero:Nd:=⟨0,[],0,[],0,0⟩
def y6n (n:Int):Bool:=decide (0≤n∧n≤268435456)
theorem yi5 (n:Int) (H:Hp):AC Tryz.prog y61 [.i .i64 n] H (fun v H'=>v=.b (y6n n)∧H'=H):=by
 refine AC.code y3k.at y3k.ok ?_
 simp only [y3k]
 apply jA
 simp [y3k.r0]
 apply jA
 by_cases h:(0:Int)≤n <;> simp [y3k.r1,h]
 all_goals
  apply jD
  simp [y6n,h]
def y9w (k:Int):Bool:=decide (k=1∨k=5∨k=6)
def ygh (k:Int):Bool:=decide (k=2∨k=3∨k=7)
def bad1 (d:Nd):Bool:=decide (d.kind<1∨7<d.kind)||!y6n d.copy||!y6n d.n||(decide (d.cell≠-1)&&!y6n d.cell)
def bad2 (d:Nd):Bool:=(decide (d.kind=5) != decide (d.fn=[]))||(decide (d.fn≠[])&&!y69 d.fn)||(decide (d.kind=5)&&decide (d.copy≠0))
def bad3 (d:Nd):Bool:=(y9w d.kind != decide (d.name≠[]))||(y9w d.kind&&!y69 d.name)
def bad4 (d:Nd):Bool:=(!ygh d.kind&&decide (d.n≠0))||(decide (d.n=0)&&decide (d.kind=3∨d.kind=7))
def y4x (d:Nd):Bool:=!bad1 d&&!bad2 d&&!bad3 d&&!bad4 d&&decide (5≤d.kind∨d.cell=-1)
theorem Right_ok (d:Nd) (h1:d.fn.length≤9223372036854775807) (h2:d.name.length≤9223372036854775807) (H:Hp):AC Tryz.prog y8q [nv d] H (fun v H'=>v=.b (y4x d)∧H'=H):=by
 obtain ⟨k,fn,cp,nm,n,cl⟩:=d
 refine AC.code y11.at y11.ok ?_
 simp only [y11]
 apply jA
 simp [y11.r0,nv,Nd.cs]
 refine AX.seq (AX.test (bad1 ⟨k,fn,cp,nm,n,cl⟩) [(1,.fp [.i .i64 k,.s fn,.i .i64 cp,.s nm,.i .i64 n,.i .i64 cl] 0),(35,.b (bad1 ⟨k,fn,cp,nm,n,cl⟩))] ?_ rfl (fun hz=>jA ?_) (fun hz=>AX.skip ?_))
 ·by_cases a1:k<1
  ·simp [y11.r1,a1,bad1]
  by_cases a2:7<k
  ·simp [y11.r1,a1,a2,bad1]
  simp [y11.r1,a1,a2]
  refine AC.fix (yi5 _ _) ?_
  by_cases a3:y6n cp=true
  case neg=>simp [a3,bad1]
  simp [a3]
  refine AC.fix (yi5 _ _) ?_
  by_cases a4:y6n n=true
  case neg=>simp [a4,bad1]
  by_cases a5:cl=-1
  ·simp [a4,a5,bad1,a1,a2,a3]
  simp [a4,a5]
  refine AC.fix (yi5 _ _) ?_
  simp [bad1,a1,a2,a3,a4,a5]
 ·simp [y11.r2]
  apply jD
  simp [y4x,hz]
 simp
 refine AX.stp [(1,.fp [.i .i64 k,.s fn,.i .i64 cp,.s nm,.i .i64 n,.i .i64 cl] 0),(3,.b (y9w k))] ?_ ?_
 ·by_cases a1:k=1
  ·simp [y11.r3,a1,y9w]
  by_cases a2:k=5 <;> simp [y11.r3,a1,a2,y9w]
 refine AX.stp [(1,.fp [.i .i64 k,.s fn,.i .i64 cp,.s nm,.i .i64 n,.i .i64 cl] 0),(3,.b (y9w k)),(4,.b (ygh k))] ?_ ?_
 ·by_cases a1:k=2
  ·simp [y11.r4,a1,ygh]
  by_cases a2:k=3 <;> simp [y11.r4,a1,a2,ygh]
 refine AX.seq (AX.pblock (AX.test (bad2 ⟨k,fn,cp,nm,n,cl⟩) [(1,.fp [.i .i64 k,.s fn,.i .i64 cp,.s nm,.i .i64 n,.i .i64 cl] 0),(3,.b (y9w k)),(4,.b (ygh k)),(62,.b (bad2 ⟨k,fn,cp,nm,n,cl⟩))] ?_ rfl (fun hz2=>jA ?_) (fun hz2=>?_)))
 ·have e:fn.isEmpty=decide (fn=[]):=by cases fn <;> simp
  by_cases a1:k=5 <;> by_cases a2:fn=[]
  ·by_cases a3:cp=0 <;> simp [y11.r5,a1,a2,a3,bad2]
  ·simp [y11.r5,a1,a2,e,bad2]
  ·simp [y11.r5,a1,a2,e,bad2]
  ·simp [y11.r5,a1,a2,e]
   refine AC.fix (ymu _ h1 _) ?_
   by_cases a3:y69 fn=true <;> simp [a1,a2,a3,e,bad2]
 ·simp [y11.r6]
  apply jD
  simp [y4x,hz2]
 simp
 refine AX.test (bad3 ⟨k,fn,cp,nm,n,cl⟩) [(1,.fp [.i .i64 k,.s fn,.i .i64 cp,.s nm,.i .i64 n,.i .i64 cl] 0),(4,.b (ygh k)),(91,.b (bad3 ⟨k,fn,cp,nm,n,cl⟩))] ?_ rfl (fun hz3=>jA ?_) (fun hz3=>?_)
 ·have e:nm.isEmpty=decide (nm=[]):=by cases nm <;> simp
  by_cases a1:y9w k=true <;> by_cases a2:nm=[]
  ·simp [y11.r7,a1,a2,bad3]
  ·simp [y11.r7,a1,a2,e]
   refine AC.fix (ymu _ h2 _) ?_
   simp [a1,a2,e,bad3]
  ·simp [y11.r7,a1,a2,e,bad3]
  ·simp [y11.r7,a1,a2,e,bad3]
 ·simp [y11.r8]
  apply jD
  simp [y4x,hz3]
 simp
 refine AX.test (bad4 ⟨k,fn,cp,nm,n,cl⟩) [(1,.fp [.i .i64 k,.s fn,.i .i64 cp,.s nm,.i .i64 n,.i .i64 cl] 0),(106,.b (bad4 ⟨k,fn,cp,nm,n,cl⟩))] ?_ rfl (fun hz4=>jA ?_) (fun hz4=>AX.skip ?_)
 ·by_cases a3:k=3
  ·subst a3
   by_cases a2:n=0 <;> simp [y11.r9,show ygh 3=true from rfl,a2,bad4]
  ·by_cases a1:ygh k=true <;> by_cases a2:n=0 <;> simp [y11.r9,a1,a2,a3,bad4]
 ·simp [y11.r10]
  apply jD
  simp [y4x,hz4]
 simp
 apply jA
 by_cases a1:5≤k <;> simp [y11.r11,a1]
 all_goals
  apply jD
  simp [y4x,hz,hz2,hz3,hz4,a1]
def yat:Str→Nat × Str
 | []=>(0,[])
 | c::r=>if c=126 then ((y5x (y3m r).1).1,(y3m r).2) else (0,c::r)
def ya6:Str→Str × Str × Str
 | []=>([],[],[])
 | c::r=>if c=43 then ([],[],c::r) else ([c],(y3m r).1,if c=40∧(y3m r).2=[41] then [] else (y3m r).2)
def yhr:Str→Int
 | []=>-1
 | c::r=>if c=43 then (y5x r).1 else -1
def ypn (s:Str):V:=
 let a:=y3m s
 let b:=yat a.2
 let c:=ya6 b.2
 .tup [.s a.1,.i .i64 b.1,.s c.1,.s c.2.1,.i .i64 (yhr c.2.2)]
theorem y5z (s:Str):(y3m s).1.length≤s.length∧(y3m s).2.length≤s.length:=by
 have:=congrArg List.length (y9l s)
 rw [kT] at this;omega
theorem yj2 (s:Str):(yat s).2.length≤s.length:=by
 cases s with
 | nil=>simp [yat]
 | cons c r=>
        simp only [yat];split
        ·have:=y5z r;simp;omega
        ·simp
theorem ypo (s:Str):(ya6 s).2.2.length≤s.length:=by
 cases s with
 | nil=>simp [ya6]
 | cons c r=>
        simp only [ya6];split
        ·simp
        ·have:=y5z r
         split
         ·simp
         ·simp;omega
theorem yn0 (c:UInt8) (k:Nat) (hk:k<256):((c.toNat:Int)=(k:Int))=(c=UInt8.ofNat k):=by
 refine propext ⟨fun h=>UInt8.toNat_inj.1 (by rw [UInt8.toNat_ofNat'];omega),fun h=>by rw [h,UInt8.toNat_ofNat'];omega⟩
theorem parts_ok (s:Str) (hs:s.length≤9223372036854775807) (H:Hp):AC Tryz.prog y8p [.s s] H (fun v H'=>v=ypn s∧H'=H):=by
 refine AC.code yu.at yu.ok ?_
 simp only [yu]
 apply jA
 simp [yu.r0]
 apply jA
 simp [yu.r1]
 refine AC.fix (yif s hs _) ?_
 simp
 have hr:=(y5z s).2
 unfold ypn
 rcases ea:y3m s with ⟨fn,rest⟩
 rw [ea] at hr
 simp only at hr ⊢
 apply jA
 simp [yu.r2]
 refine AX.seq (AX.join (F1:=[(7,.s fn),(8,.s (yat rest).2),(9,.i .i64 (yat rest).1),(10,.i .i64 (-1))]) (H1:=H) ?_ ?_)
 ·cases rest with
  | nil=>
   apply jA
   simp [yu.r3]
   refine jF rfl (AX.skip ?_)
   simp [yat]
  | cons c r=>
   have e:=yn0 c 126 (by omega)
   simp at e hr
   apply jA
   simp [yu.r3,e]
   by_cases hc:c=126
   ·refine jG (by simp [hc]) ?_
    apply jA
    simp [yu.r4,show (1:Int)≤(r.length:Int)+1 by omega]
    refine AC.fix (yif r (by omega) _) ?_
    simp
    have hl:=y5z r
    apply jA
    simp [yu.r5]
    refine AC.fix (yih _ (by omega) _) ?_
    simp
    apply jE
    simp [yu.r6,yat,hc]
   ·refine jF (by simp [hc]) (AX.skip ?_)
    simp [yat,hc]
 have hr2:=yj2 rest
 rcases eb:yat rest with ⟨cp,r2⟩
 rw [eb] at hr2
 simp only at hr2 ⊢
 apply jA
 simp [yu.r7]
 refine AX.seq (AX.join (F1:=[(7,.s fn),(8,.s (ya6 r2).2.2),(9,.i .i64 cp),(10,.i .i64 (-1)),(13,.s (ya6 r2).1),(14,.s (ya6 r2).2.1)]) (H1:=H) ?_ ?_)
 ·cases r2 with
  | nil=>
   apply jA
   simp [yu.r8]
   refine jF rfl (AX.skip ?_)
   simp [ya6]
  | cons c r=>
   have e:=yn0 c 43 (by omega)
   simp at e hr2
   apply jA
   simp [yu.r8,e]
   by_cases hc:c=43
   ·refine jF (by simp [hc]) (AX.skip ?_)
    simp [ya6,hc]
   ·refine jG (by simp [hc]) ?_
    apply jA
    simp [yu.r9,show (1:Int)≤(r.length:Int)+1 by omega]
    apply jA
    simp [yu.r10,show (1:Int)≤(r.length:Int)+1 by omega]
    refine AC.fix (yif r (by omega) _) ?_
    simp
    rcases es:y3m r with ⟨tl,r3⟩
    refine AX.test (decide (c=40∧r3=[41])) [(7,.s fn),(8,.s r3),(9,.i .i64 cp),(10,.i .i64 (-1)),(13,.s [c]),(14,.s tl),(59,.b (decide (c=40∧r3=[41])))] ?_ rfl (fun hz=>AX.reg ?_) (fun hz=>AX.skip ?_)
    ·by_cases h1:c=40
     ·simp [yu.r11,h1]
     ·simp [yu.r11,h1,show (c == 40)=false by simpa using h1]
    ·simp at hz
     simp [yu.r12,ya6,hc,es,hz]
    ·simp only [decide_eq_false_iff_not] at hz
     simp [ya6,hc,es]
     intro h1 h2;exact absurd ⟨h1,h2⟩ hz
 have hr3:=ypo r2
 rcases ec:ya6 r2 with ⟨mk,tl,r3⟩
 rw [ec] at hr3
 simp only at hr3 ⊢
 refine AX.seq (AX.join (F1:=[(7,.s fn),(9,.i .i64 cp),(10,.i .i64 (yhr r3)),(13,.s mk),(14,.s tl)]) (H1:=H) ?_ ?_)
 ·cases r3 with
  | nil=>
   apply jA
   simp [yu.r13]
   refine jF rfl (AX.skip ?_)
   simp [yhr]
  | cons c r=>
   have e:=yn0 c 43 (by omega)
   simp at e hr3
   apply jA
   simp [yu.r13,e]
   by_cases hc:c=43
   ·refine jG (by simp [hc]) ?_
    apply jE
    simp [yu.r14,show (1:Int)≤(r.length:Int)+1 by omega]
    refine AC.fix (yih _ (by omega) _) ?_
    simp [yhr,hc]
   ·refine jF (by simp [hc]) (AX.skip ?_)
    simp [yhr,hc]
 apply jA
 simp [yu.r15]
 apply jD
 simp
def y4m (c:Int):Str:=if 0<c then 126::y54 c.toNat else []
def y5f (d:Nd):Str:=
 if d.kind=1 then d.fn++(y4m d.copy++46::d.name)
 else if d.kind=2 then d.fn++(y4m d.copy++36::y54 d.n.toNat)
 else if d.kind=3 then d.fn++(y4m d.copy++64::y54 d.n.toNat)
 else if d.kind=4 then d.fn++(y4m d.copy++[40,41])
 else if d.kind=5 then d.name
 else if d.kind=6 then d.fn++(y4m d.copy++37::d.name)
 else d.fn++(y4m d.copy++35::y54 d.n.toNat)
def y5a (c:Int):Str:=if 0≤c then 43::y54 c.toNat else []
def y34 (d:Nd):Str:=y5f d++y5a d.cell
def yag (d:Nd):V:=if y4x d then .tup [.s (y34 d),.i .i64 0] else .tup [.s [],.i .i64 11]
theorem yav {s:Str} (h:y69 s=true):s.length≤16:=by
 unfold y69 at h;simp only [kF,decide_eq_true_eq] at h;exact h.1.1
structure RightN (d:Nd):Prop where
 k1:1≤d.kind
 k7:d.kind≤7
 cp:y6n d.copy=true
 n:y6n d.n=true
 cell:d.cell=-1∨(5≤d.kind∧y6n d.cell=true)
 fn:(d.kind=5∧d.fn=[]∧d.copy=0)∨(d.kind≠5∧y69 d.fn=true)
 nm:(y9w d.kind=true∧y69 d.name=true)∨(y9w d.kind=false∧d.name=[])
 nn:(ygh d.kind=true∧(d.kind=2∨d.n≠0))∨(ygh d.kind=false∧d.n=0)
theorem y50 (d:Nd):y4x d=true↔RightN d:=by
 unfold y4x bad1 bad2 bad3 bad4
 constructor
 ·intro h
  simp only [kF,Bool.not_eq_true',Bool.or_eq_false_iff,Bool.and_eq_false_iff,decide_eq_true_eq,decide_eq_false_iff_not,Bool.not_eq_false',bne_eq_false_iff_eq] at h
  obtain ⟨⟨⟨⟨⟨⟨⟨a1,a2⟩,a3⟩,a4⟩,⟨⟨b1,b2⟩,b3⟩⟩,⟨c1,c2⟩⟩,⟨d1,d2⟩⟩,e⟩:=h
  refine ⟨by omega,by omega,a2,a3,?_,?_,?_,?_⟩
  ·rcases a4 with a4 | a4
   ·exact .inl (by simpa using a4)
   ·rcases e with e | e
    ·exact .inr ⟨e,a4⟩
    ·exact .inl e
  ·by_cases hk:d.kind=5
   ·simp [hk] at b1 b3
    exact .inl ⟨hk,b1,b3⟩
   ·simp [hk] at b1
    simp [b1] at b2
    exact .inr ⟨hk,b2⟩
  ·cases hn:y9w d.kind with
   | true=>rw [hn] at c2;simp at c2;exact .inl ⟨rfl,c2⟩
   | false=>rw [hn] at c1;simp at c1;exact .inr ⟨rfl,c1⟩
  ·cases hn:ygh d.kind with
   | true=>
    refine .inl ⟨rfl,?_⟩
    simp [ygh] at hn
    by_cases h0:d.n=0
    ·simp [h0] at d2;omega
    ·exact .inr h0
   | false=>rw [hn] at d1;simp at d1;exact .inr ⟨rfl,d1⟩
 ·intro ⟨k1,k7,cp,n,cell,fn,nm,nn⟩
  simp only [kF,Bool.not_eq_true',Bool.or_eq_false_iff,Bool.and_eq_false_iff,decide_eq_true_eq,decide_eq_false_iff_not,Bool.not_eq_false',bne_eq_false_iff_eq]
  refine ⟨⟨⟨⟨⟨⟨⟨by omega,cp⟩,n⟩,?_⟩,⟨⟨?_,?_⟩,?_⟩⟩,⟨?_,?_⟩⟩,⟨?_,?_⟩⟩,?_⟩
  ·rcases cell with c | c
   ·exact .inl (by simpa using c)
   ·exact .inr c.2
  ·rcases fn with ⟨a,b,c⟩ | ⟨a,b⟩
   ·simp [a,b]
   ·have:d.fn≠[]:=fun h=>by rw [h] at b;exact absurd b (by decide)
    simp [a,this]
  ·rcases fn with ⟨a,b,c⟩ | ⟨a,b⟩
   ·exact .inl (by simpa using b)
   ·exact .inr b
  ·rcases fn with ⟨a,b,c⟩ | ⟨a,b⟩
   ·exact .inr (by simpa using c)
   ·exact .inl a
  ·rcases nm with ⟨a,b⟩ | ⟨a,b⟩
   ·have:d.name≠[]:=fun h=>by rw [h] at b;exact absurd b (by decide)
    simp [a,this]
   ·simp [a,b]
  ·rcases nm with ⟨a,b⟩ | ⟨a,b⟩
   ·exact .inr b
   ·exact .inl a
  ·rcases nn with ⟨a,b⟩ | ⟨a,b⟩
   ·exact .inl a
   ·exact .inr (by simpa using b)
  ·rcases nn with ⟨a,b⟩ | ⟨a,b⟩
   ·by_cases h0:d.n=0
    ·right;rcases b with b | b
     ·omega
     ·exact absurd h0 b
    ·exact .inl h0
   ·right;simp [ygh] at a;omega
  ·rcases cell with c | c
   ·exact .inr c
   ·exact .inl c.1
theorem yc5 (n:Int) (h0:0≤n) (hn:n≤9223372036854775807) (H:Hp):AC Tryz.prog y4q [.i .i64 n] H (fun v H'=>v=.s (y54 n.toNat)∧H'=H):=by
 have:=RText_ok n.toNat (by omega) H
 rwa [Int.toNat_of_nonneg h0] at this
theorem ydz (d:Nd) (h1:d.fn.length≤9223372036854775807) (h2:d.name.length≤9223372036854775807) (H:Hp):AC Tryz.prog y5s [nv d] H (fun v H'=>v=yag d∧H'=H):=by
 refine AC.code ye.at ye.ok ?_
 simp only [ye]
 apply jA
 simp [ye.r0,nv]
 apply jB
 simp [ye.r1,Nd.cs]
 refine AC.fix (Right_ok d h1 h2 _) ?_
 simp
 refine AX.pcond rfl (fun hb=>jA ?_) (fun hb=>AX.skip ?_)
 ·simp at hb
  simp [ye.r2]
  apply jD
  simp [yag,hb]
 simp at hb
 obtain ⟨k1,k7,hcp,hn,hcell,hfn,hnm,hnn⟩:=(y50 d).1 hb
 have ht:yag d=.tup [.s (y34 d),.i .i64 0]:=by unfold yag;rw [if_pos hb]
 rw [ht]
 obtain ⟨k,fn,cp,nm,n,cl⟩:=d
 simp only [Nd.cs] at *
 have lfn:fn.length≤16:=by
  rcases hfn with ⟨a,b,c⟩ | ⟨a,b⟩
  ·subst b;simp
  ·exact yav b
 have lnm:nm.length≤16:=by
  rcases hnm with ⟨a,b⟩ | ⟨a,b⟩
  ·exact yav b
  ·subst b;simp
 have dl:∀x:Int,y6n x=true→(y54 x.toNat).length≤9:=fun x hx=>by
  have:=of_decide_eq_true hx
  exact y3v 8 _ (by omega)
 have lcp:=dl _ hcp
 have ln:=dl _ hn
 have hcp':=of_decide_eq_true hcp
 have hn':=of_decide_eq_true hn
 simp
 apply jA
 simp [ye.r3]
 refine AX.seq (AX.join (F1:=[(1,.fp [.i .i64 k,.s fn,.i .i64 cp,.s nm,.i .i64 n,.i .i64 cl] 0),(4,.s (fn++y4m cp))]) (H1:=H) ?_ ?_)
 ·apply jA
  simp [ye.r4]
  refine AX.pcond rfl (fun hb=>?_) (fun hb=>AX.skip ?_)
  ·simp at hb
   apply jE
   simp [ye.r5,show fn.length+1≤9223372036854775807 by omega]
   refine AC.fix (yc5 cp (by omega) (by omega) _) ?_
   simp [y4m,hb,show fn.length+1+(y54 cp.toNat).length≤9223372036854775807 by omega]
  ·simp at hb
   simp [y4m,show ¬0<cp by omega]
 have lc:(y4m cp).length≤10:=by unfold y4m;split <;> simp;omega
 have lb:(y5f ⟨k,fn,cp,nm,n,cl⟩).length≤60:=by
  unfold y5f
  repeat' split
  all_goals simp
  all_goals omega
 refine AX.seq (AX.join (F1:=[(1,.fp [.i .i64 k,.s fn,.i .i64 cp,.s nm,.i .i64 n,.i .i64 cl] 0),(4,.s (y5f ⟨k,fn,cp,nm,n,cl⟩))]) (H1:=H) ?_ ?_)
 ·clear ht
  rcases (by omega:k=1∨k=2∨k=3∨k=4∨k=5∨k=6∨k=7) with rfl | rfl | rfl | rfl | rfl | rfl | rfl
  ·apply jA
   simp [ye.r6]
   refine AX.pblock ?_
   apply jA
   simp [ye.r7]
   refine jG rfl ?_
   apply jE
   simp [ye.r8,y5f,show fn.length+(y4m cp).length≤9223372036854775806 by omega,show fn.length+((y4m cp).length+1)+nm.length≤9223372036854775807 by omega]
  ·apply jA
   simp [ye.r6]
   refine AX.pblock ?_
   apply jA
   simp [ye.r7]
   refine jF rfl ?_
   apply jA
   simp [ye.r9]
   refine jG rfl ?_
   apply jE
   simp [ye.r10,show fn.length+(y4m cp).length≤9223372036854775806 by omega]
   refine AC.fix (yc5 n (by omega) (by omega) _) ?_
   simp [y5f,show fn.length+((y4m cp).length+1)+(y54 n.toNat).length≤9223372036854775807 by omega]
  ·apply jA
   simp [ye.r6]
   refine AX.pblock ?_
   apply jA
   simp [ye.r7]
   refine jF rfl ?_
   apply jA
   simp [ye.r9]
   refine jF rfl ?_
   apply jA
   simp [ye.r11]
   refine jG rfl ?_
   apply jE
   simp [ye.r12,show fn.length+(y4m cp).length≤9223372036854775806 by omega]
   refine AC.fix (yc5 n (by omega) (by omega) _) ?_
   simp [y5f,show fn.length+((y4m cp).length+1)+(y54 n.toNat).length≤9223372036854775807 by omega]
  ·apply jA
   simp [ye.r6]
   refine AX.pblock ?_
   apply jA
   simp [ye.r7]
   refine jF rfl ?_
   apply jA
   simp [ye.r9]
   refine jF rfl ?_
   apply jA
   simp [ye.r11]
   refine jF rfl ?_
   apply jA
   simp [ye.r13]
   refine jG rfl ?_
   apply jE
   simp [ye.r14,y5f,show fn.length+(y4m cp).length≤9223372036854775805 by omega]
  ·apply jA
   simp [ye.r6]
   refine AX.pblock ?_
   apply jA
   simp [ye.r7]
   refine jF rfl ?_
   apply jA
   simp [ye.r9]
   refine jF rfl ?_
   apply jA
   simp [ye.r11]
   refine jF rfl ?_
   apply jA
   simp [ye.r13]
   refine jF rfl ?_
   apply jA
   simp [ye.r15]
   refine jG rfl ?_
   apply jE
   simp [ye.r16,y5f]
  ·apply jA
   simp [ye.r6]
   refine AX.pblock ?_
   apply jA
   simp [ye.r7]
   refine jF rfl ?_
   apply jA
   simp [ye.r9]
   refine jF rfl ?_
   apply jA
   simp [ye.r11]
   refine jF rfl ?_
   apply jA
   simp [ye.r13]
   refine jF rfl ?_
   apply jA
   simp [ye.r15]
   refine jF rfl ?_
   apply jA
   simp [ye.r17]
   refine jG rfl ?_
   apply jE
   simp [ye.r18,y5f,show fn.length+(y4m cp).length≤9223372036854775806 by omega,show fn.length+((y4m cp).length+1)+nm.length≤9223372036854775807 by omega]
  ·apply jA
   simp [ye.r6]
   refine AX.pblock ?_
   apply jA
   simp [ye.r7]
   refine jF rfl ?_
   apply jA
   simp [ye.r9]
   refine jF rfl ?_
   apply jA
   simp [ye.r11]
   refine jF rfl ?_
   apply jA
   simp [ye.r13]
   refine jF rfl ?_
   apply jA
   simp [ye.r15]
   refine jF rfl ?_
   apply jA
   simp [ye.r17]
   refine jF rfl ?_
   apply jA
   simp [ye.r19]
   refine jG rfl ?_
   apply jE
   simp [ye.r20,show fn.length+(y4m cp).length≤9223372036854775806 by omega]
   refine AC.fix (yc5 n (by omega) (by omega) _) ?_
   simp [y5f,show fn.length+((y4m cp).length+1)+(y54 n.toNat).length≤9223372036854775807 by omega]
 refine AX.seq (AX.join (F1:=[(4,.s (y34 ⟨k,fn,cp,nm,n,cl⟩))]) (H1:=H) ?_ ?_)
 ·apply jA
  simp [ye.r21]
  refine AX.pcond rfl (fun hb=>?_) (fun hb=>AX.skip ?_)
  ·simp at hb
   have hcl:y6n cl=true:=by
    rcases hcell with c | c
    ·omega
    ·exact c.2
   have lcl:=dl _ hcl
   have hcl':=of_decide_eq_true hcl
   apply jE
   simp [ye.r22,show (y5f ⟨k,fn,cp,nm,n,cl⟩).length+1≤9223372036854775807 by omega]
   refine AC.fix (yc5 cl (by omega) (by omega) _) ?_
   simp [y34,y5a,hb,show (y5f ⟨k,fn,cp,nm,n,cl⟩).length+1+(y54 cl.toNat).length≤9223372036854775807 by omega]
  ·simp at hb
   simp [y34,y5a,show ¬0≤cl by omega]
 apply jA
 simp [ye.r23]
 apply jD
 simp
end Go.Proofs.YtikpijbeobeckaaGreatDoor
