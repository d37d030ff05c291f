/- Part 20. -/
import Derived.Test.YthmkcebbeehbeaaGreatDoorXGw19
set_option linter.unusedSimpArgs false
set_option linter.unusedVariables false
namespace Go.Proofs.YthmkcebbeehbeaaGreatDoor
open Am C
theorem RText_ok (n:Nat) (hn:n≤9223372036854775807) (H:Hp):AC Tryz.prog y6z [.i .i64 n] H (fun v H'=>v=.s (y7p n)∧H'=H):=by
 refine AC.code y4g.at y4g.ok ?_
 simp only [y4g]
 apply jA
 simp [y4g.r0]
 apply jB
 simp [y4g.r1]
 refine jG rfl (jA ?_)
 simp [y4g.r2,ym7 (show 0≤(n:Int) by omega) (by omega)]
 refine AC.fix (plain_ok n (by omega) _) ?_
 simp
 apply jD
 simp
def yhp (s:Str):Nat:=s.foldl (fun n c=>10*n+(c.toNat-48)) 0
def y90 (s:Str):Nat × Nat:=
 if s=[] then (0,1) else if s.all ygw=false then (0,3) else if s[0]?=some 48∧1<s.length then (0,3) else if 268435456<yhp s then (0,2) else (yhp s,0)
theorem valD_ge (n:Nat) (s:Str):n≤s.foldl (fun n c=>10*n+(c.toNat-48)) n:=by
 induction s generalizing n with
 | nil=>simp
 | cons c s ih=>simp only [List.foldl_cons];exact kU (by omega) (ih _)
theorem ytz (s:Str) (i:Nat):yhp (s.take i)≤yhp s:=by
 have:yhp s=(s.drop i).foldl (fun n c=>10*n+(c.toNat-48)) (yhp (s.take i)):=by
  unfold yhp;rw [←List.foldl_append,List.take_append_drop]
 rw [this];exact valD_ge _ _
def RReadInv (s:Str) (H:Hp) (m:Nat) (F:Fr) (H':Hp):Prop:=
 ∃i,i≤s.length∧m=s.length-i∧(s.take i).all ygw=true∧H'=H∧F=[(0,.s s),(4,.i .i64 i)]
def ywy (s:Str) (H:Hp) (m:Nat) (F:Fr) (H':Hp):Prop:=
 ∃i,i≤s.length∧m=s.length-i∧yhp (s.take i)≤268435456∧H'=H∧F=[(0,.s s),(5,.i .i64 (yhp (s.take i))),(6,.i .i64 i)]
theorem yn8 (s:Str) (hs:s.length≤9223372036854775807) (H:Hp):AC Tryz.prog y9s [.s s] H (fun v H'=>v=.tup [.i .i64 (y90 s).1,.i .i64 (y90 s).2]∧H'=H):=by
 refine AC.code yt.at yt.ok ?_
 simp only [yt]
 apply jA
 simp [yt.r0]
 apply jB
 simp [yt.r1]
 refine AX.pcond rfl (fun hb=>?_) (fun hb=>AX.skip ?_)
 ·simp at hb
  apply jA
  simp [yt.r2]
  apply jD
  simp [y90,hb]
 simp at hb
 simp
 apply jB
 simp [yt.r3]
 refine AX.pblock (AX.loop (RReadInv s H) s.length ⟨_,_,.refl _ _,0,by omega,by omega,by simp,rfl,rfl⟩ ?_)
 rintro m F H' ⟨i,hi,rfl,hx,rfl,rfl⟩
 simp only [yt.l0]
 apply jB
 simp [yt.r4]
 refine AX.pcond rfl (fun hc=>AX.skip ?_) (fun hc=>AX.exit ?_)
 ·simp at hc
  simp
  apply jC
  simp [yt.r5,hc]
  refine AC.fix (ymt _ _) ?_
  simp
  refine AX.pcond rfl (fun hd=>?_) (fun hd=>AX.skip ?_)
  ·simp at hd
   apply jA
   simp [yt.r6]
   apply jD
   have:s.all ygw=false:=by
    rw [List.all_eq_false];exact ⟨_,kK hc,by simp [hd]⟩
   simp [y90,hb,this]
  simp at hd
  simp
  apply jE
  simp [yt.r7,y4d hc hs]
  refine ⟨s.length-(i+1),by omega,_,_,.refl _ _,i+1,by omega,rfl,?_,rfl,by simp⟩
  rw [kI,kB hc,List.all_append,hx]
  simp [hd]
 simp at hc
 have hall:s.all ygw=true:=by rwa [kH (by omega)] at hx
 have hp:0<s.length:=List.length_pos_iff.2 hb
 simp
 refine AX.seq (AX.test (decide (s[0]?=some 48∧1<s.length)) [(0,.s s),(27,.b (decide (s[0]?=some 48∧1<s.length)))] ?_ rfl (fun hz=>jA ?_) (fun hz=>AX.skip ?_))
 ·have e:((s[0].toNat:Int)=48)=(s[0]=48):=by
   refine propext ⟨fun h=>UInt8.toNat_inj.1 (by
                           have:s[0].toNat=48:=by omega
                           rw [this];rfl),fun h=>by rw [h];rfl⟩
  by_cases h:s[0]=48 <;> simp [yt.r8,hp,e,h]
 ·simp [yt.r9]
  apply jD
  simp only [decide_eq_true_eq] at hz
  have:y90 s=(0,3):=by unfold y90;rw [if_neg hb,if_neg (by simp [hall]),if_pos hz]
  simp [this]
 simp only [decide_eq_false_iff_not] at hz
 have hr:y90 s=if 268435456<yhp s then (0,2) else (yhp s,0):=by unfold y90;rw [if_neg hb,if_neg (by simp [hall]),if_neg hz]
 simp
 apply jA
 simp [yt.r10]
 apply jB
 simp [yt.r11]
 refine AX.pblock (AX.loop (ywy s H') s.length ⟨_,_,.refl _ _,0,by omega,by omega,by simp [yhp],rfl,by simp [yhp]⟩ ?_)
 clear hx hi hc
 rintro m F H ⟨i,hi,rfl,hx,rfl,rfl⟩
 simp only [yt.l1]
 apply jB
 simp [yt.r12]
 refine AX.pcond rfl (fun hc=>AX.skip ?_) (fun hc=>AX.exit ?_)
 case refine_2=>
  simp at hc
  have e:s.take i=s:=kH hc
  rw [e] at hx
  simp
  apply jA
  simp [yt.r17]
  apply jD
  rw [hr,if_neg (by omega),e];simp
 simp at hc
 have hd:ygw s[i]=true:=List.all_eq_true.1 hall _ (kK hc)
 have hd':48≤s[i].toNat∧s[i].toNat≤57:=of_decide_eq_true hd
 have ev:yhp (s.take (i+1))=10*yhp (s.take i)+(s[i].toNat-48):=by
  unfold yhp;rw [kI,kB hc,List.foldl_append];rfl
 have e1:Go.IntKind.i64.wrap (10*(yhp (s.take i):Int))=((10*yhp (s.take i):Nat):Int):=by rw [y4e (by omega) (by omega)];omega
 have e2:Go.IntKind.u8.wrap ((s[i].toNat:Int)-48)=((s[i].toNat-48:Nat):Int):=by rw [yfz (by omega) (by omega)];omega
 have e3:Go.IntKind.i64.wrap ((s[i].toNat-48:Nat):Int)=((s[i].toNat-48:Nat):Int):=by rw [y4e (by omega) (by omega)]
 have e4:Go.IntKind.i64.wrap (((10*yhp (s.take i):Nat):Int)+((s[i].toNat-48:Nat):Int))=((yhp (s.take (i+1)):Nat):Int):=by rw [ev,y4e (by omega) (by omega)];omega
 simp
 apply jC
 simp only [yt.r13]
 simp [hc,-Int.natCast_mul,-Int.natCast_add,e1,e2,e3,e4]
 apply jA
 simp [yt.r14]
 refine AX.pcond rfl (fun hd=>?_) (fun hd=>AX.skip ?_)
 ·simp at hd
  apply jA
  simp [yt.r15]
  apply jD
  have:=ytz s (i+1)
  rw [hr,if_pos (by omega)];simp
 simp at hd
 simp
 apply jE
 simp [yt.r16,y4d hc hs]
 exact ⟨s.length-(i+1),by omega,_,_,.refl _ _,i+1,by omega,rfl,by omega,rfl,by simp⟩
def y9g (s:Str):Bool:=decide (s.length≤16)&&yav s&&s.all (inB true)
def RNameInv (s:Str) (H:Hp) (m:Nat) (F:Fr) (H':Hp):Prop:=
 ∃i,i≤s.length∧m=s.length-i∧(s.take i).all (inB true)=true∧H'=H∧F=[(0,.s s),(3,.i .i64 i)]
theorem yn9 (s:Str) (hs:s.length≤9223372036854775807) (H:Hp):AC Tryz.prog y9t [.s s] H (fun v H'=>v=.b (y9g s)∧H'=H):=by
 refine AC.code y23.at y23.ok ?_
 simp only [y23]
 apply jA
 simp [y23.r0]
 refine AX.seq (AX.test (!(decide (s.length≤16)&&yav s)) [(0,.s s),(16,.b (!(decide (s.length≤16)&&yav s)))] ?_ rfl (fun hz=>jA ?_) (fun hz=>AX.skip ?_))
 ·by_cases h0:s=[]
  ·subst h0;simp [y23.r1,yav]
  ·have hp:0<s.length:=List.length_pos_iff.2 h0
   have h0':s.isEmpty=false:=by simpa using h0
   by_cases h1:s.length≤16
   ·simp [y23.r1,h0,h0',h1,hp,show ¬16<s.length by omega]
    refine AC.fix (yg7 _ _) ?_
    simp [yav,hp]
   ·simp [y23.r1,h0,h0',h1,hp,show 16<s.length by omega]
 ·simp [y23.r2]
  apply jD
  have:y9g s=false:=by unfold y9g;simp only [Bool.not_eq_true'] at hz;rw [hz];rfl
  simp [this]
 have hz':(decide (s.length≤16)&&yav s)=true:=by simpa only [Bool.not_eq_false'] using hz
 simp
 apply jB
 simp [y23.r3]
 refine AX.pblock (AX.loop (RNameInv s H) s.length ⟨_,_,.refl _ _,0,by omega,by omega,by simp,rfl,rfl⟩ ?_)
 rintro m F H' ⟨i,hi,rfl,hx,rfl,rfl⟩
 simp only [y23.l0]
 apply jB
 simp [y23.r4]
 refine AX.pcond rfl (fun hc=>AX.skip ?_) (fun hc=>AX.exit ?_)
 case refine_2=>
  simp at hc
  rw [kH hc] at hx
  simp
  apply jA
  simp [y23.r8]
  apply jD
  have:y9g s=true:=by unfold y9g;rw [hz',hx];rfl
  simp [this]
 simp at hc
 simp
 refine AX.seq (AX.pblock (AX.test (!(inB true s[i])) [(0,.s s),(3,.i .i64 i),(34,.b (!(inB true s[i])))] ?_ rfl (fun hz=>jA ?_) (fun hz=>AX.skip ?_)))
 ·by_cases h1:yl6 s[i]=true
  ·simp [y23.r5,hc]
   refine AC.fix (yg7 _ _) ?_
   simp [h1,inB]
  ·simp [y23.r5,hc]
   refine AC.fix (yg7 _ _) ?_
   simp [h1,hc]
   refine AC.fix (ymt _ _) ?_
   simp [h1,inB]
 ·simp [y23.r6]
  apply jD
  have:y9g s=false:=by
   unfold y9g
   have:s.all (inB true)=false:=by rw [List.all_eq_false];exact ⟨_,kK hc,by simpa using hz⟩
   rw [this,Bool.and_false]
  simp [this]
 ·simp
  apply jE
  simp [y23.r7,y4d hc hs]
  refine ⟨s.length-(i+1),by omega,_,_,.refl _ _,i+1,by omega,rfl,?_,rfl,by simp⟩
  rw [kI,kB hc,List.all_append,hx]
  simpa using hz
structure Nd where
 kind:Int
 fn:Str
 copy:Int
 name:Str
 n:Int
 cell:Int
 deriving DecidableEq
def Nd.cs (d:Nd):List V:=[.i .i64 d.kind,.s d.fn,.i .i64 d.copy,.s d.name,.i .i64 d.n,.i .i64 d.cell]
def nv (d:Nd):V:=.agg d.cs
def Nd.zero:Nd:=⟨0,[],0,[],0,0⟩
def ya0 (n:Int):Bool:=decide (0≤n∧n≤268435456)
theorem ymx (n:Int) (H:Hp):AC Tryz.prog y9a [.i .i64 n] H (fun v H'=>v=.b (ya0 n)∧H'=H):=by
 refine AC.code y5d.at y5d.ok ?_
 simp only [y5d]
 apply jA
 simp [y5d.r0]
 apply jA
 by_cases h:(0:Int)≤n <;> simp [y5d.r1,h]
 all_goals
  apply jD
  simp [ya0,h]
def ye0 (k:Int):Bool:=decide (k=1∨k=5∨k=6)
def yl4 (k:Int):Bool:=decide (k=2∨k=3∨k=7)
def bad1 (d:Nd):Bool:=decide (d.kind<1∨7<d.kind)||!ya0 d.copy||!ya0 d.n||(decide (d.cell≠-1)&&!ya0 d.cell)
def bad2 (d:Nd):Bool:=(decide (d.kind=5) != decide (d.fn=[]))||(decide (d.fn≠[])&&!y9g d.fn)||(decide (d.kind=5)&&decide (d.copy≠0))
def bad3 (d:Nd):Bool:=(ye0 d.kind != decide (d.name≠[]))||(ye0 d.kind&&!y9g d.name)
def bad4 (d:Nd):Bool:=(!yl4 d.kind&&decide (d.n≠0))||(decide (d.n=0)&&decide (d.kind=3∨d.kind=7))
def ya4 (d:Nd):Bool:=!bad1 d&&!bad2 d&&!bad3 d&&!bad4 d&&decide (5≤d.kind∨d.cell=-1)
theorem Right_ok (d:Nd) (h1:d.fn.length≤9223372036854775807) (h2:d.name.length≤9223372036854775807) (H:Hp):AC Tryz.prog ycg [nv d] H (fun v H'=>v=.b (ya4 d)∧H'=H):=by
 obtain ⟨k,fn,cp,nm,n,cl⟩:=d
 refine AC.code y13.at y13.ok ?_
 simp only [y13]
 apply jA
 simp [y13.r0,nv,Nd.cs]
 refine AX.seq (AX.test (bad1 ⟨k,fn,cp,nm,n,cl⟩) [(1,.fp [.i .i64 k,.s fn,.i .i64 cp,.s nm,.i .i64 n,.i .i64 cl] 0),(35,.b (bad1 ⟨k,fn,cp,nm,n,cl⟩))] ?_ rfl (fun hz=>jA ?_) (fun hz=>AX.skip ?_))
 ·by_cases a1:k<1
  ·simp [y13.r1,a1,bad1]
  by_cases a2:7<k
  ·simp [y13.r1,a1,a2,bad1]
  simp [y13.r1,a1,a2]
  refine AC.fix (ymx _ _) ?_
  by_cases a3:ya0 cp=true
  case neg=>simp [a3,bad1]
  simp [a3]
  refine AC.fix (ymx _ _) ?_
  by_cases a4:ya0 n=true
  case neg=>simp [a4,bad1]
  by_cases a5:cl=-1
  ·simp [a4,a5,bad1,a1,a2,a3]
  simp [a4,a5]
  refine AC.fix (ymx _ _) ?_
  simp [bad1,a1,a2,a3,a4,a5]
 ·simp [y13.r2]
  apply jD
  simp [ya4,hz]
 simp
 refine AX.stp [(1,.fp [.i .i64 k,.s fn,.i .i64 cp,.s nm,.i .i64 n,.i .i64 cl] 0),(3,.b (ye0 k))] ?_ ?_
 ·by_cases a1:k=1
  ·simp [y13.r3,a1,ye0]
  by_cases a2:k=5 <;> simp [y13.r3,a1,a2,ye0]
 refine AX.stp [(1,.fp [.i .i64 k,.s fn,.i .i64 cp,.s nm,.i .i64 n,.i .i64 cl] 0),(3,.b (ye0 k)),(4,.b (yl4 k))] ?_ ?_
 ·by_cases a1:k=2
  ·simp [y13.r4,a1,yl4]
  by_cases a2:k=3 <;> simp [y13.r4,a1,a2,yl4]
 refine AX.seq (AX.pblock (AX.test (bad2 ⟨k,fn,cp,nm,n,cl⟩) [(1,.fp [.i .i64 k,.s fn,.i .i64 cp,.s nm,.i .i64 n,.i .i64 cl] 0),(3,.b (ye0 k)),(4,.b (yl4 k)),(62,.b (bad2 ⟨k,fn,cp,nm,n,cl⟩))] ?_ rfl (fun hz2=>jA ?_) (fun hz2=>?_)))
 ·have e:fn.isEmpty=decide (fn=[]):=by cases fn <;> simp
  by_cases a1:k=5 <;> by_cases a2:fn=[]
  ·by_cases a3:cp=0 <;> simp [y13.r5,a1,a2,a3,bad2]
  ·simp [y13.r5,a1,a2,e,bad2]
  ·simp [y13.r5,a1,a2,e,bad2]
  ·simp [y13.r5,a1,a2,e]
   refine AC.fix (yn9 _ h1 _) ?_
   by_cases a3:y9g fn=true <;> simp [a1,a2,a3,e,bad2]
 ·simp [y13.r6]
  apply jD
  simp [ya4,hz2]
 simp
 refine AX.test (bad3 ⟨k,fn,cp,nm,n,cl⟩) [(1,.fp [.i .i64 k,.s fn,.i .i64 cp,.s nm,.i .i64 n,.i .i64 cl] 0),(4,.b (yl4 k)),(91,.b (bad3 ⟨k,fn,cp,nm,n,cl⟩))] ?_ rfl (fun hz3=>jA ?_) (fun hz3=>?_)
 ·have e:nm.isEmpty=decide (nm=[]):=by cases nm <;> simp
  by_cases a1:ye0 k=true <;> by_cases a2:nm=[]
  ·simp [y13.r7,a1,a2,bad3]
  ·simp [y13.r7,a1,a2,e]
   refine AC.fix (yn9 _ h2 _) ?_
   simp [a1,a2,e,bad3]
  ·simp [y13.r7,a1,a2,e,bad3]
  ·simp [y13.r7,a1,a2,e,bad3]
 ·simp [y13.r8]
  apply jD
  simp [ya4,hz3]
 simp
 refine AX.test (bad4 ⟨k,fn,cp,nm,n,cl⟩) [(1,.fp [.i .i64 k,.s fn,.i .i64 cp,.s nm,.i .i64 n,.i .i64 cl] 0),(106,.b (bad4 ⟨k,fn,cp,nm,n,cl⟩))] ?_ rfl (fun hz4=>jA ?_) (fun hz4=>AX.skip ?_)
 ·by_cases a3:k=3
  ·subst a3
   by_cases a2:n=0 <;> simp [y13.r9,show yl4 3=true from rfl,a2,bad4]
  ·by_cases a1:yl4 k=true <;> by_cases a2:n=0 <;> simp [y13.r9,a1,a2,a3,bad4]
 ·simp [y13.r10]
  apply jD
  simp [ya4,hz4]
 simp
 apply jA
 by_cases a1:5≤k <;> simp [y13.r11,a1]
 all_goals
  apply jD
  simp [ya4,hz,hz2,hz3,hz4,a1]
def yfb:Str→Nat × Str
 | []=>(0,[])
 | c::r=>if c=126 then ((y90 (y5j r).1).1,(y5j r).2) else (0,c::r)
def yed:Str→Str × Str × Str
 | []=>([],[],[])
 | c::r=>if c=43 then ([],[],c::r) else ([c],(y5j r).1,if c=40∧(y5j r).2=[41] then [] else (y5j r).2)
def ymj:Str→Int
 | []=>-1
 | c::r=>if c=43 then (y90 r).1 else -1
def yv1 (s:Str):V:=
 let a:=y5j s
 let b:=yfb a.2
 let c:=yed b.2
 .tup [.s a.1,.i .i64 b.1,.s c.1,.s c.2.1,.i .i64 (ymj c.2.2)]
theorem y98 (s:Str):(y5j s).1.length≤s.length∧(y5j s).2.length≤s.length:=by
 have:=congrArg List.length (ydn s)
 rw [kR] at this;omega
theorem yo3 (s:Str):(yfb s).2.length≤s.length:=by
 cases s with
 | nil=>simp [yfb]
 | cons c r=>
        simp only [yfb];split
        ·have:=y98 r;simp;omega
        ·simp
theorem yv2 (s:Str):(yed s).2.2.length≤s.length:=by
 cases s with
 | nil=>simp [yed]
 | cons c r=>
        simp only [yed];split
        ·simp
        ·have:=y98 r
         split
         ·simp
         ·simp;omega
theorem u8_eq (c:UInt8) (k:Nat) (hk:k<256):((c.toNat:Int)=(k:Int))=(c=UInt8.ofNat k):=by
 refine propext ⟨fun h=>UInt8.toNat_inj.1 (by rw [UInt8.toNat_ofNat'];omega),fun h=>by rw [h,UInt8.toNat_ofNat'];omega⟩
theorem parts_ok (s:Str) (hs:s.length≤9223372036854775807) (H:Hp):AC Tryz.prog ycf [.s s] H (fun v H'=>v=yv1 s∧H'=H):=by
 refine AC.code yw.at yw.ok ?_
 simp only [yw]
 apply jA
 simp [yw.r0]
 apply jA
 simp [yw.r1]
 refine AC.fix (yn5 s hs _) ?_
 simp
 have hr:=(y98 s).2
 unfold yv1
 rcases ea:y5j s with ⟨fn,rest⟩
 rw [ea] at hr
 simp only at hr ⊢
 apply jA
 simp [yw.r2]
 refine AX.seq (AX.join (F1:=[(7,.s fn),(8,.s (yfb rest).2),(9,.i .i64 (yfb rest).1),(10,.i .i64 (-1))]) (H1:=H) ?_ ?_)
 ·cases rest with
  | nil=>
   apply jA
   simp [yw.r3]
   refine jF rfl (AX.skip ?_)
   simp [yfb]
  | cons c r=>
   have e:=u8_eq c 126 (by omega)
   simp at e hr
   apply jA
   simp [yw.r3,e]
   by_cases hc:c=126
   ·refine jG (by simp [hc]) ?_
    apply jA
    simp [yw.r4,show (1:Int)≤(r.length:Int)+1 by omega]
    refine AC.fix (yn5 r (by omega) _) ?_
    simp
    have hl:=y98 r
    apply jA
    simp [yw.r5]
    refine AC.fix (yn8 _ (by omega) _) ?_
    simp
    apply jE
    simp [yw.r6,yfb,hc]
   ·refine jF (by simp [hc]) (AX.skip ?_)
    simp [yfb,hc]
 have hr2:=yo3 rest
 rcases eb:yfb rest with ⟨cp,r2⟩
 rw [eb] at hr2
 simp only at hr2 ⊢
 apply jA
 simp [yw.r7]
 refine AX.seq (AX.join (F1:=[(7,.s fn),(8,.s (yed r2).2.2),(9,.i .i64 cp),(10,.i .i64 (-1)),(13,.s (yed r2).1),(14,.s (yed r2).2.1)]) (H1:=H) ?_ ?_)
 ·cases r2 with
  | nil=>
   apply jA
   simp [yw.r8]
   refine jF rfl (AX.skip ?_)
   simp [yed]
  | cons c r=>
   have e:=u8_eq c 43 (by omega)
   simp at e hr2
   apply jA
   simp [yw.r8,e]
   by_cases hc:c=43
   ·refine jF (by simp [hc]) (AX.skip ?_)
    simp [yed,hc]
   ·refine jG (by simp [hc]) ?_
    apply jA
    simp [yw.r9,show (1:Int)≤(r.length:Int)+1 by omega]
    apply jA
    simp [yw.r10,show (1:Int)≤(r.length:Int)+1 by omega]
    refine AC.fix (yn5 r (by omega) _) ?_
    simp
    rcases es:y5j r with ⟨tl,r3⟩
    refine AX.test (decide (c=40∧r3=[41])) [(7,.s fn),(8,.s r3),(9,.i .i64 cp),(10,.i .i64 (-1)),(13,.s [c]),(14,.s tl),(59,.b (decide (c=40∧r3=[41])))] ?_ rfl (fun hz=>AX.reg ?_) (fun hz=>AX.skip ?_)
    ·by_cases h1:c=40
     ·simp [yw.r11,h1]
     ·simp [yw.r11,h1,show (c == 40)=false by simpa using h1]
    ·simp at hz
     simp [yw.r12,yed,hc,es,hz]
    ·simp only [decide_eq_false_iff_not] at hz
     simp [yed,hc,es]
     intro h1 h2;exact absurd ⟨h1,h2⟩ hz
 have hr3:=yv2 r2
 rcases ec:yed r2 with ⟨mk,tl,r3⟩
 rw [ec] at hr3
 simp only at hr3 ⊢
 refine AX.seq (AX.join (F1:=[(7,.s fn),(9,.i .i64 cp),(10,.i .i64 (ymj r3)),(13,.s mk),(14,.s tl)]) (H1:=H) ?_ ?_)
 ·cases r3 with
  | nil=>
   apply jA
   simp [yw.r13]
   refine jF rfl (AX.skip ?_)
   simp [ymj]
  | cons c r=>
   have e:=u8_eq c 43 (by omega)
   simp at e hr3
   apply jA
   simp [yw.r13,e]
   by_cases hc:c=43
   ·refine jG (by simp [hc]) ?_
    apply jE
    simp [yw.r14,show (1:Int)≤(r.length:Int)+1 by omega]
    refine AC.fix (yn8 _ (by omega) _) ?_
    simp [ymj,hc]
   ·refine jF (by simp [hc]) (AX.skip ?_)
    simp [ymj,hc]
 apply jA
 simp [yw.r15]
 apply jD
 simp
def y76 (c:Int):Str:=if 0<c then 126::y7p c.toNat else []
def y8h (d:Nd):Str:=
 if d.kind=1 then d.fn++(y76 d.copy++46::d.name)
 else if d.kind=2 then d.fn++(y76 d.copy++36::y7p d.n.toNat)
 else if d.kind=3 then d.fn++(y76 d.copy++64::y7p d.n.toNat)
 else if d.kind=4 then d.fn++(y76 d.copy++[40,41])
 else if d.kind=5 then d.name
 else if d.kind=6 then d.fn++(y76 d.copy++37::d.name)
 else d.fn++(y76 d.copy++35::y7p d.n.toNat)
def y8a (c:Int):Str:=if 0≤c then 43::y7p c.toNat else []
def y5l (d:Nd):Str:=y8h d++y8a d.cell
def ypc (d:Nd):V:=if ya4 d then .tup [.s (y5l d),.i .i64 0] else .tup [.s [],.i .i64 11]
theorem yhx {s:Str} (h:y9g s=true):s.length≤16:=by
 unfold y9g at h;simp only [kE,decide_eq_true_eq] at h;exact h.1.1
structure RightN (d:Nd):Prop where
 k1:1≤d.kind
 k7:d.kind≤7
 cp:ya0 d.copy=true
 n:ya0 d.n=true
 cell:d.cell=-1∨(5≤d.kind∧ya0 d.cell=true)
 fn:(d.kind=5∧d.fn=[]∧d.copy=0)∨(d.kind≠5∧y9g d.fn=true)
 nm:(ye0 d.kind=true∧y9g d.name=true)∨(ye0 d.kind=false∧d.name=[])
 nn:(yl4 d.kind=true∧(d.kind=2∨d.n≠0))∨(yl4 d.kind=false∧d.n=0)
theorem yc8 (d:Nd):ya4 d=true↔RightN d:=by
 unfold ya4 bad1 bad2 bad3 bad4
 constructor
 ·intro h
  simp only [kE,Bool.not_eq_true',Bool.or_eq_false_iff,Bool.and_eq_false_iff,decide_eq_true_eq,decide_eq_false_iff_not,Bool.not_eq_false',bne_eq_false_iff_eq] at h
  obtain ⟨⟨⟨⟨⟨⟨⟨a1,a2⟩,a3⟩,a4⟩,⟨⟨b1,b2⟩,b3⟩⟩,⟨c1,c2⟩⟩,⟨d1,d2⟩⟩,e⟩:=h
  refine ⟨by omega,by omega,a2,a3,?_,?_,?_,?_⟩
  ·rcases a4 with a4 | a4
   ·exact .inl (by simpa using a4)
   ·rcases e with e | e
    ·exact .inr ⟨e,a4⟩
    ·exact .inl e
  ·by_cases hk:d.kind=5
   ·simp [hk] at b1 b3
    exact .inl ⟨hk,b1,b3⟩
   ·simp [hk] at b1
    simp [b1] at b2
    exact .inr ⟨hk,b2⟩
  ·cases hn:ye0 d.kind with
   | true=>rw [hn] at c2;simp at c2;exact .inl ⟨rfl,c2⟩
   | false=>rw [hn] at c1;simp at c1;exact .inr ⟨rfl,c1⟩
  ·cases hn:yl4 d.kind with
   | true=>
    refine .inl ⟨rfl,?_⟩
    simp [yl4] at hn
    by_cases h0:d.n=0
    ·simp [h0] at d2;omega
    ·exact .inr h0
   | false=>rw [hn] at d1;simp at d1;exact .inr ⟨rfl,d1⟩
 ·intro ⟨k1,k7,cp,n,cell,fn,nm,nn⟩
  simp only [kE,Bool.not_eq_true',Bool.or_eq_false_iff,Bool.and_eq_false_iff,decide_eq_true_eq,decide_eq_false_iff_not,Bool.not_eq_false',bne_eq_false_iff_eq]
  refine ⟨⟨⟨⟨⟨⟨⟨by omega,cp⟩,n⟩,?_⟩,⟨⟨?_,?_⟩,?_⟩⟩,⟨?_,?_⟩⟩,⟨?_,?_⟩⟩,?_⟩
  ·rcases cell with c | c
   ·exact .inl (by simpa using c)
   ·exact .inr c.2
  ·rcases fn with ⟨a,b,c⟩ | ⟨a,b⟩
   ·simp [a,b]
   ·have:d.fn≠[]:=fun h=>by rw [h] at b;exact absurd b (by decide)
    simp [a,this]
  ·rcases fn with ⟨a,b,c⟩ | ⟨a,b⟩
   ·exact .inl (by simpa using b)
   ·exact .inr b
  ·rcases fn with ⟨a,b,c⟩ | ⟨a,b⟩
   ·exact .inr (by simpa using c)
   ·exact .inl a
  ·rcases nm with ⟨a,b⟩ | ⟨a,b⟩
   ·have:d.name≠[]:=fun h=>by rw [h] at b;exact absurd b (by decide)
    simp [a,this]
   ·simp [a,b]
  ·rcases nm with ⟨a,b⟩ | ⟨a,b⟩
   ·exact .inr b
   ·exact .inl a
  ·rcases nn with ⟨a,b⟩ | ⟨a,b⟩
   ·exact .inl a
   ·exact .inr (by simpa using b)
  ·rcases nn with ⟨a,b⟩ | ⟨a,b⟩
   ·by_cases h0:d.n=0
    ·right;rcases b with b | b
     ·omega
     ·exact absurd h0 b
    ·exact .inl h0
   ·right;simp [yl4] at a;omega
  ·rcases cell with c | c
   ·exact .inr c
   ·exact .inl c.1
theorem ygj (n:Int) (h0:0≤n) (hn:n≤9223372036854775807) (H:Hp):AC Tryz.prog y6z [.i .i64 n] H (fun v H'=>v=.s (y7p n.toNat)∧H'=H):=by
 have:=RText_ok n.toNat (by omega) H
 rwa [Int.toNat_of_nonneg h0] at this
theorem ywr (d:Nd) (h1:d.fn.length≤9223372036854775807) (h2:d.name.length≤9223372036854775807) (H:Hp):AC Tryz.prog ydb [nv d] H (fun v H'=>v=ypc d∧H'=H):=by
 refine AC.code ya.at ya.ok ?_
 simp only [ya]
 apply jA
 simp [ya.r0,nv]
 apply jB
 simp [ya.r1,Nd.cs]
 refine AC.fix (Right_ok d h1 h2 _) ?_
 simp
 refine AX.pcond rfl (fun hb=>jA ?_) (fun hb=>AX.skip ?_)
 ·simp at hb
  simp [ya.r2]
  apply jD
  simp [ypc,hb]
 simp at hb
 obtain ⟨k1,k7,hcp,hn,hcell,hfn,hnm,hnn⟩:=(yc8 d).1 hb
 have ht:ypc d=.tup [.s (y5l d),.i .i64 0]:=by unfold ypc;rw [if_pos hb]
 rw [ht]
 obtain ⟨k,fn,cp,nm,n,cl⟩:=d
 simp only [Nd.cs] at *
 have lfn:fn.length≤16:=by
  rcases hfn with ⟨a,b,c⟩ | ⟨a,b⟩
  ·subst b;simp
  ·exact yhx b
 have lnm:nm.length≤16:=by
  rcases hnm with ⟨a,b⟩ | ⟨a,b⟩
  ·exact yhx b
  ·subst b;simp
 have dl:∀x:Int,ya0 x=true→(y7p x.toNat).length≤9:=fun x hx=>by
  have:=of_decide_eq_true hx
  exact y5u 8 _ (by omega)
 have lcp:=dl _ hcp
 have ln:=dl _ hn
 have hcp':=of_decide_eq_true hcp
 have hn':=of_decide_eq_true hn
 simp
 apply jA
 simp [ya.r3]
 refine AX.seq (AX.join (F1:=[(1,.fp [.i .i64 k,.s fn,.i .i64 cp,.s nm,.i .i64 n,.i .i64 cl] 0),(4,.s (fn++y76 cp))]) (H1:=H) ?_ ?_)
 ·apply jA
  simp [ya.r4]
  refine AX.pcond rfl (fun hb=>?_) (fun hb=>AX.skip ?_)
  ·simp at hb
   apply jE
   simp [ya.r5,show fn.length+1≤9223372036854775807 by omega]
   refine AC.fix (ygj cp (by omega) (by omega) _) ?_
   simp [y76,hb,show fn.length+1+(y7p cp.toNat).length≤9223372036854775807 by omega]
  ·simp at hb
   simp [y76,show ¬0<cp by omega]
 have lc:(y76 cp).length≤10:=by unfold y76;split <;> simp;omega
 have lb:(y8h ⟨k,fn,cp,nm,n,cl⟩).length≤60:=by
  unfold y8h
  repeat' split
  all_goals simp
  all_goals omega
 refine AX.seq (AX.join (F1:=[(1,.fp [.i .i64 k,.s fn,.i .i64 cp,.s nm,.i .i64 n,.i .i64 cl] 0),(4,.s (y8h ⟨k,fn,cp,nm,n,cl⟩))]) (H1:=H) ?_ ?_)
 ·clear ht
  rcases (by omega:k=1∨k=2∨k=3∨k=4∨k=5∨k=6∨k=7) with rfl | rfl | rfl | rfl | rfl | rfl | rfl
  ·apply jA
   simp [ya.r6]
   refine AX.pblock ?_
   apply jA
   simp [ya.r7]
   refine jG rfl ?_
   apply jE
   simp [ya.r8,y8h,show fn.length+(y76 cp).length≤9223372036854775806 by omega,show fn.length+((y76 cp).length+1)+nm.length≤9223372036854775807 by omega]
  ·apply jA
   simp [ya.r6]
   refine AX.pblock ?_
   apply jA
   simp [ya.r7]
   refine jF rfl ?_
   apply jA
   simp [ya.r9]
   refine jG rfl ?_
   apply jE
   simp [ya.r10,show fn.length+(y76 cp).length≤9223372036854775806 by omega]
   refine AC.fix (ygj n (by omega) (by omega) _) ?_
   simp [y8h,show fn.length+((y76 cp).length+1)+(y7p n.toNat).length≤9223372036854775807 by omega]
  ·apply jA
   simp [ya.r6]
   refine AX.pblock ?_
   apply jA
   simp [ya.r7]
   refine jF rfl ?_
   apply jA
   simp [ya.r9]
   refine jF rfl ?_
   apply jA
   simp [ya.r11]
   refine jG rfl ?_
   apply jE
   simp [ya.r12,show fn.length+(y76 cp).length≤9223372036854775806 by omega]
   refine AC.fix (ygj n (by omega) (by omega) _) ?_
   simp [y8h,show fn.length+((y76 cp).length+1)+(y7p n.toNat).length≤9223372036854775807 by omega]
  ·apply jA
   simp [ya.r6]
   refine AX.pblock ?_
   apply jA
   simp [ya.r7]
   refine jF rfl ?_
   apply jA
   simp [ya.r9]
   refine jF rfl ?_
   apply jA
   simp [ya.r11]
   refine jF rfl ?_
   apply jA
   simp [ya.r13]
   refine jG rfl ?_
   apply jE
   simp [ya.r14,y8h,show fn.length+(y76 cp).length≤9223372036854775805 by omega]
  ·apply jA
   simp [ya.r6]
   refine AX.pblock ?_
   apply jA
   simp [ya.r7]
   refine jF rfl ?_
   apply jA
   simp [ya.r9]
   refine jF rfl ?_
   apply jA
   simp [ya.r11]
   refine jF rfl ?_
   apply jA
   simp [ya.r13]
   refine jF rfl ?_
   apply jA
   simp [ya.r15]
   refine jG rfl ?_
   apply jE
   simp [ya.r16,y8h]
  ·apply jA
   simp [ya.r6]
   refine AX.pblock ?_
   apply jA
   simp [ya.r7]
   refine jF rfl ?_
   apply jA
   simp [ya.r9]
   refine jF rfl ?_
   apply jA
   simp [ya.r11]
   refine jF rfl ?_
   apply jA
   simp [ya.r13]
   refine jF rfl ?_
   apply jA
   simp [ya.r15]
   refine jF rfl ?_
   apply jA
   simp [ya.r17]
   refine jG rfl ?_
   apply jE
   simp [ya.r18,y8h,show fn.length+(y76 cp).length≤9223372036854775806 by omega,show fn.length+((y76 cp).length+1)+nm.length≤9223372036854775807 by omega]
  ·apply jA
   simp [ya.r6]
   refine AX.pblock ?_
   apply jA
   simp [ya.r7]
   refine jF rfl ?_
   apply jA
   simp [ya.r9]
   refine jF rfl ?_
   apply jA
   simp [ya.r11]
   refine jF rfl ?_
   apply jA
   simp [ya.r13]
   refine jF rfl ?_
   apply jA
   simp [ya.r15]
   refine jF rfl ?_
   apply jA
   simp [ya.r17]
   refine jF rfl ?_
   apply jA
   simp [ya.r19]
   refine jG rfl ?_
   apply jE
   simp [ya.r20,show fn.length+(y76 cp).length≤9223372036854775806 by omega]
   refine AC.fix (ygj n (by omega) (by omega) _) ?_
   simp [y8h,show fn.length+((y76 cp).length+1)+(y7p n.toNat).length≤9223372036854775807 by omega]
 refine AX.seq (AX.join (F1:=[(4,.s (y5l ⟨k,fn,cp,nm,n,cl⟩))]) (H1:=H) ?_ ?_)
 ·apply jA
  simp [ya.r21]
  refine AX.pcond rfl (fun hb=>?_) (fun hb=>AX.skip ?_)
  ·simp at hb
   have hcl:ya0 cl=true:=by
    rcases hcell with c | c
    ·omega
    ·exact c.2
   have lcl:=dl _ hcl
   have hcl':=of_decide_eq_true hcl
   apply jE
   simp [ya.r22,show (y8h ⟨k,fn,cp,nm,n,cl⟩).length+1≤9223372036854775807 by omega]
   refine AC.fix (ygj cl (by omega) (by omega) _) ?_
   simp [y5l,y8a,hb,show (y8h ⟨k,fn,cp,nm,n,cl⟩).length+1+(y7p cl.toNat).length≤9223372036854775807 by omega]
  ·simp at hb
   simp [y5l,y8a,show ¬0≤cl by omega]
 apply jA
 simp [ya.r23]
 apply jD
 simp
end Go.Proofs.YthmkcebbeehbeaaGreatDoor
