/- Part 43. -/
import Derived.Test.YtikpijbeobeckaaGreatDoorXFw17
import Derived.Test.YtikpijbeobeckaaGreatDoorXFw42
set_option linter.unusedSimpArgs false
set_option linter.unusedVariables false
namespace Go.Proofs.YtikpijbeobeckaaGreatDoor
open Am C
def FtI (s:Sy) (p l r:Str) (H:Hp) (m:Nat) (F:Fr) (X:Hp):Prop:=
 ∃i,i≤s.fns.length∧m=s.fns.length-i∧(∀f∈s.fns.take i,f.name≠p)∧X=H∧F=[(1,.s p),(3,.fp (y3p s) 0),(7,.s l),(8,.s r),(10,.i .i64 i)]
theorem RFits_ok (s:Sy) (hN:SyN s) (hl:s.fns.length≤1000000000) (p tag:Str) {l r:Str} (hsg:ybm tag=some (l,r)) (ht:tag.length≤9223372036854775807) (H:Hp):AC Tryz.prog y9c [.agg (y3p s),.s p,.s tag] H (fun v H'=>v=.b (y95 s p tag)∧H'=H):=by
 refine AC.code y1u.at y1u.ok ?_
 simp only [y1u]
 apply jA
 simp [y1u.r0,y3p]
 apply jA
 simp [y1u.r1]
 refine AC.fix (Sig_ok tag ht H) ?_
 simp [sigV,hsg]
 apply jB
 simp [y1u.r2]
 refine AX.pblock (AX.loop (FtI s p l r H) s.fns.length ⟨_,_,.refl _ _,0,by omega,by omega,by simp,rfl,by simp [y3p]⟩ ?_)
 rintro m F X ⟨i,hi,rfl,hno,rfl,rfl⟩
 simp only [y1u.l0]
 apply jB
 simp [y1u.r3,y3p]
 refine AX.pcond rfl (fun hb=>AX.skip ?_) (fun hb=>AX.exit ?_)
 rotate_left
 ·simp at hb
  simp
  apply jA
  simp [y1u.r7]
  apply jD
  rw [kI (by omega)] at hno
  have:y95 s p tag=false:=by
   rw [yf5 hsg,List.any_eq_false]
   intro f hf hc
   simp only [kF,decide_eq_true_eq] at hc
   exact hno f hf hc.1
  simp [this]
 simp at hb
 obtain ⟨f,hfi⟩:∃f,s.fns[i]?=some f:=⟨_,kC hb⟩
 have hfe:s.fns[i]=f:=(List.getElem?_eq_some_iff.1 hfi).2
 simp
 apply jC
 simp [y1u.r4,y3p,hb,hfe,yb0]
 refine AX.pcond rfl (fun hd=>jA ?_) (fun hd=>AX.skip ?_)
 ·simp at hd
  have hft:y95 s p tag=(decide (f.kinds=l)&&(decide (r=[])||decide (f.ret=r))):=by
   rw [yf5 hsg]
   rcases efS_at hN (f:=p) with ⟨fu,h1,h2,_,h4⟩ | ⟨_,h4⟩
   ·obtain ⟨j,hj⟩:=List.mem_iff_getElem?.1 h1
    have:=ydm hN.fn hj hfi (h2.trans hd.symm)
    subst this
    rw [hfi] at hj;injection hj with hj;subst hj
    exact h4 _
   ·have:=h4 fun _=>true
    rw [List.any_eq_false] at this
    exact absurd (by simp [hd]) (this f (kY hfi))
  rw [hft]
  by_cases c1:f.kinds=l
  ·by_cases c2:r=[]
   ·simp [y1u.r5,y3p,hb,hfe,yb0,c1,c2]
    apply jD
    simp
   ·have c4:r.isEmpty=false:=by
     cases r with
     | nil=>exact absurd rfl c2
     | cons a b=>rfl
    by_cases c3:f.ret=r
    ·simp [y1u.r5,y3p,hb,hfe,yb0,c1,c2,c3,c4]
     apply jD
     simp [c2,c4]
    ·have c6:(f.ret == r)=false:=by simpa using c3
     simp [y1u.r5,y3p,hb,hfe,yb0,c1,c2,c3,c4,c6]
     apply jD
     simp [c2,c3,c4,c6]
  ·have c5:(f.kinds == l)=false:=by simpa using c1
   simp [y1u.r5,y3p,hb,hfe,yb0,c1,c5]
   apply jD
   simp [c1,c5]
 ·simp at hd
  simp
  apply jE
  simp [y1u.r6,y2c hb (show s.fns.length≤9223372036854775807 by omega)]
  refine ⟨s.fns.length-(i+1),by omega,_,_,.refl _ _,i+1,by omega,rfl,fun x hx=>?_,rfl,by simp [y3p]⟩
  rw [kJ,hfi] at hx
  rcases List.mem_append.1 hx with h | h
  ·exact hno x h
  ·simp at h;subst h;exact hd
def ShI (s:Sy) (p tag:Str) (by':Int) (o:Str) (k:Nat) (H:Hp) (m:Nat) (F:Fr) (X:Hp):Prop:=
 ∃i,i≤s.objs.length∧m=s.objs.length-i∧((∀ob∈s.objs.take i,ob.name≠o)∨y5g s p tag by'=[])∧X=H∧F=[(2,.s tag),(3,.i .i64 by'),(4,.fp (y3p s) 0),(9,.s o),(10,.i .i64 (k:Nat)),(11,.b true),(12,.i .i64 i)]
def ShJ (s:Sy) (tag:Str) (by':Int) (o:Str) (k i:Nat) (ob:Ob) (H:Hp) (m:Nat) (F:Fr) (X:Hp):Prop:=
 ∃j,j≤ob.marks.length∧m=ob.marks.length-j∧(∀mk∈ob.marks.take j,¬(mk=⟨(k:Int),tag⟩∧(k:Int)+by'<ob.kinds.length))∧X=H∧F=[(2,.s tag),(3,.i .i64 by'),(4,.fp (y3p s) 0),(9,.s o),(10,.i .i64 (k:Nat)),(11,.b true),(12,.i .i64 i),(13,.i .i64 j)]
theorem yrt (s:Sy) (hN:SyN s) (hl:s.objs.length≤1000000000) (p tag:Str) (by':Int) (hby:0≤by'∧by'≤64) (hp:p.length≤9223372036854775806) (H:Hp):AC Tryz.prog y8k [.agg (y3p s),.s p,.s tag,.i .i64 by'] H (fun v H'=>v=.s (y5g s p tag by')∧H'=H):=by
 refine AC.code yw.at yw.ok ?_
 simp only [yw]
 apply jA
 simp [yw.r0,y3p]
 apply jA
 simp [yw.r1]
 refine AC.fix (yhc p hp H) ?_
 cases ho:ydl p with
 | none=>
  have hpt:y5g s p tag by'=[]:=by unfold y5g;rw [ho]
  simp [yk4]
  apply jB
  simp [yw.r2]
  refine AX.pblock (AX.loop (fun m F X=>m=0∧X=H∧F=[(2,.s tag),(3,.i .i64 by'),(4,.fp (y3p s) 0),(9,.s []),(10,.i .i64 0),(11,.b false),(12,.i .i64 0)]) 0 ⟨_,_,.refl _ _,rfl,rfl,by simp [y3p]⟩ ?_)
  rintro m F X ⟨rfl,rfl,rfl⟩
  simp only [yw.l0]
  refine AX.seq (AX.test false [(2,.s tag),(3,.i .i64 by'),(4,.fp (y3p s) 0),(9,.s []),(10,.i .i64 0),(11,.b false),(12,.i .i64 0),(27,.b false)] ?_ rfl (fun h=>by cases h) (fun _=>AX.exit ?_))
  ·by_cases h0:0<s.objs.length
   ·simp [yw.r3,y3p,h0]
   ·simp [yw.r3,y3p,h0]
  simp
  apply jA
  simp [yw.r11]
  apply jD
  simp [hpt]
 | some ok=>
  obtain ⟨o,k⟩:=ok
  have hkb:=ypt ho
  simp [yk4]
  apply jB
  simp [yw.r2]
  refine AX.pblock (AX.loop (ShI s p tag by' o k H) s.objs.length ⟨_,_,.refl _ _,0,by omega,by omega,.inl (by simp),rfl,by simp [y3p]⟩ ?_)
  rintro m F X ⟨i,hi,rfl,hno,rfl,rfl⟩
  simp only [yw.l0]
  by_cases hb:i<s.objs.length
  rotate_left
  ·refine AX.seq (AX.test false [(2,.s tag),(3,.i .i64 by'),(4,.fp (y3p s) 0),(9,.s o),(10,.i .i64 (k:Nat)),(11,.b true),(12,.i .i64 i),(27,.b false)] ?_ rfl (fun h=>by cases h) (fun _=>AX.exit ?_))
   ·simp [yw.r3,y3p,hb]
   simp
   apply jA
   simp [yw.r11]
   apply jD
   have:y5g s p tag by'=[]:=by
    rcases hno with h | h
    ·rw [kI (by omega)] at h
     exact yfh fun ob hob k' h'=>by rw [ho] at h';injection h' with h';injection h' with h1 _;exact h ob hob h1.symm
    ·exact h
   simp [this]
  obtain ⟨ob,hoi⟩:∃ob,s.objs[i]?=some ob:=⟨_,kC hb⟩
  have hoe:s.objs[i]=ob:=(List.getElem?_eq_some_iff.1 hoi).2
  have hmb:=hN.mb ob (kY hoi)
  refine AX.seq (AX.test true [(2,.s tag),(3,.i .i64 by'),(4,.fp (y3p s) 0),(9,.s o),(10,.i .i64 (k:Nat)),(11,.b true),(12,.i .i64 i),(27,.b true)] ?_ rfl (fun _=>AX.skip ?_) (fun h=>by cases h))
  ·simp [yw.r3,y3p,hb]
  simp
  refine AX.cut (fun F Y=>F=[(2,.s tag),(3,.i .i64 by'),(4,.fp (y3p s) 0),(9,.s o),(10,.i .i64 (k:Nat)),(11,.b true),(12,.i .i64 i)]∧Y=X∧((∀ob∈s.objs.take (i+1),ob.name≠o)∨y5g s p tag by'=[])) ?_ ?_
  rotate_left
  ·rintro F Y ⟨rfl,rfl,hno'⟩
   apply jE
   simp [yw.r10,y2c hb (show s.objs.length≤9223372036854775807 by omega)]
   exact ⟨s.objs.length-(i+1),by omega,_,_,.refl _ _,i+1,by omega,rfl,hno',rfl,by simp⟩
  refine AX.pblock (AX.seq (jA ?_))
  simp [yw.r4,y3p,hb,hoe,y68]
  by_cases hd:ob.name=o
  rotate_left
  ·refine jG (by simp [hd]) (AX.exit ?_)
   simp
   refine ⟨_,_,.refl _ _,by simp [y3p],rfl,hno.imp (fun h x hx=>?_) fun h=>h⟩
   rw [kJ,hoi] at hx
   rcases List.mem_append.1 hx with h' | h'
   ·exact h x h'
   ·simp at h';subst h';exact hd
  refine jF (by simp [hd]) (AX.skip ?_)
  have hsh:=ydf hN (tag:=tag) (by':=by') hoi (x:=p) (k:=k) (by rw [ho,hd])
  have hw:Go.IntKind.i64.wrap ((k:Int)+by')=(k:Int)+by':=wrap_i64 (by omega) (by omega)
  simp
  apply jA
  simp [yw.r5]
  refine AX.pblock (AX.loop (ShJ s tag by' o k i ob X) ob.marks.length ⟨_,_,.refl _ _,0,by omega,by omega,by simp,rfl,by simp [y3p]⟩ ?_)
  rintro m F Y ⟨j,hj,rfl,hnm,rfl,rfl⟩
  simp only [yw.l1]
  apply jB
  simp [yw.r6,y3p,hb,hoe,y68]
  refine AX.pcond rfl (fun hc=>AX.skip ?_) (fun hc=>AX.exit ?_)
  rotate_left
  ·simp at hc
   rw [kI hc] at hnm
   have:y5g s p tag by'=[]:=by
    rw [hsh,if_neg]
    exact fun h=>hnm _ h.1 ⟨rfl,h.2⟩
   simp
   exact ⟨_,_,.refl _ _,by simp [y3p],rfl,.inr this⟩
  simp at hc
  simp
  obtain ⟨mk,hmj⟩:∃mk,ob.marks[j]?=some mk:=⟨_,kC hc⟩
  have hme:ob.marks[j]=mk:=(List.getElem?_eq_some_iff.1 hmj).2
  refine AX.seq (AX.pblock (AX.test (decide (mk.pos=k)&&(decide (mk.tag=tag)&&decide ((k:Int)+by'<ob.kinds.length))) [(2,.s tag),(3,.i .i64 by'),(4,.fp (y3p s) 0),(9,.s o),(10,.i .i64 (k:Nat)),(11,.b true),(12,.i .i64 i),(13,.i .i64 j),(87,.b (decide (mk.pos=k)&&(decide (mk.tag=tag)&&decide ((k:Int)+by'<ob.kinds.length))))] ?_ rfl (fun hq=>jA ?_) (fun hq=>AX.skip ?_)))
  ·by_cases c1:mk.pos=k
   ·by_cases c2:mk.tag=tag
    ·simp [yw.r7,y3p,hb,hoe,y68,hc,hme,y9h,c1,c2,hw]
    ·have c3:(mk.tag == tag)=false:=by simpa using c2
     simp [yw.r7,y3p,hb,hoe,y68,hc,hme,y9h,c1,c2,c3]
   ·simp [yw.r7,y3p,hb,hoe,y68,hc,hme,y9h,c1]
  ·simp only [kF,decide_eq_true_eq] at hq
   have hin:(⟨(k:Int),tag⟩:Mk)∈ob.marks:=by
    have:mk=⟨(k:Int),tag⟩:=by cases mk;simp_all
    rw [←this];exact kY hmj
   have hcast:(k:Int)+by'=((k+by'.toNat:Nat):Int):=by omega
   simp [yw.r8,hw]
   rw [hcast]
   refine AC.fix (RCell_ok o (k+by'.toNat) (by rw [←hd];omega) Y) ?_
   simp
   apply jD
   rw [hsh,if_pos ⟨hin,hq.2.2⟩,hd]
   simp
  ·simp
   apply jE
   simp [yw.r9,y2c hc (show ob.marks.length≤9223372036854775807 by omega)]
   refine ⟨ob.marks.length-(j+1),by omega,_,_,.refl _ _,j+1,by omega,rfl,fun x hx=>?_,rfl,by simp [y3p]⟩
   rw [kJ,hmj] at hx
   rcases List.mem_append.1 hx with h | h
   ·exact hnm x h
   ·simp at h;subst h
    rintro ⟨rfl,h2⟩
    simp [h2] at hq
open Go.Proofs
set_option maxRecDepth 100000
namespace C
def yo.r0:jI:=[a1b 6 0 0,ak 7]
def yo.r1:jI:=[ah 8 0]
def yo.r2:jI:=[ac 12 8,ac 13 0,aq 14 13,a11 15 12 14,ac 16 15,aj 17 16 0,aj 18 16 8,a1d 19 16 2 17 18,az 20 16 0 19,ay 21 16 1 20,aj 22 16 1,a1t 23 16 21 22,an 24 16 23]
def yo.r3:jI:=[ac 25 8,a12 26 25 1,ac 8 26]
def yo.l0:ACode:=.seq (jJ [0,1,2,8,24] yo.r2 (.post [0,1,2,8] (.cond (.t 24) (.skip) (.exit 0)))) (.post [0,1,2,8] (.block 1 (jK [0,1,2,8] yo.r3)))
def yo.r4:jI:=[ac 27 8,ac 28 0,aq 29 28,a29 30 27 29,ac 31 30,a10 32 31 0,a10 33 31 8,a2m 34 31 2 32 33,ax 35 31 0 34,ar 36 31 1 35,a10 37 31 1,a2w 38 31 36 37,am 39 31 38]
def yo.r5:jI:=[a2k 40 2,ac 41 0,ac 42 8,⟨some 43,none,.op (.slc 2 (.t 41) none (some (.t 42)))⟩,a1h 44 2 40 40 43,ac 9 44]
def yo.r6:jI:=[ac 45 9,ac 46 1,⟨some 47,none,.op (.build [.s [],.fs []] [(0,1,.t 46)])⟩,⟨some 48,none,.op (.bfz 1 2 [.s [],.sl none 0 0] [(0,2,.t 47)])⟩,a1h 49 2 40 45 48,ac 9 49]
def yo.r7:jI:=[ac 50 9,ac 51 0,ac 52 8,⟨some 53,none,.op (.slc 2 (.t 51) (some (.t 52)) none)⟩,a1h 54 2 40 50 53,ac 0 54]
def yo.r8:jI:=[ac 55 0,ac 56 8,al 57 2 55 56,af 58 1 57,ae 59 1 58,ac 60 2,⟨some 61,none,.call y9f [.t 59,.t 60]⟩,ac 10 61]
def yo.r9:jI:=[ac 62 10,aq 63 62,ac 64 0,ac 65 8,al 66 2 64 65,af 67 1 66,ae 68 1 67,aq 69 68,a29 70 63 69]
def yo.r10:jI:=[ac 71 0,ac 6 71,ak 7]
def yo.r11:jI:=[a2k 72 2,ac 73 0,a1h 74 2 40 72 73,ac 11 74]
def yo.r12:jI:=[ac 75 11,ac 76 8,ac 77 1,ac 78 10,⟨some 79,none,.op (.build [.s [],.fs []] [(0,1,.t 77),(1,1,.t 78)])⟩,al 80 2 75 76,ap 2 80 79]
def yo.r13:jI:=[ac 81 11,ac 6 81,a1e 7]
def yo:AFunc:=⟨82,[.t 6,.t 7],jJ [0,1,2] yo.r0 (jJ [0,1,2,8] yo.r1 (.seq (.post [0,1,2,8] (.block 0 (.loop yo.l0))) (.seq (jJ [0,1,2,8,39] yo.r4 (.post [0,1,2,8] (.cond (.t 39) (jJ [0,1,2,8,9] yo.r5 (jJ [0,1,2,8,9] yo.r6 (jK [0,1,2,8] yo.r7))) (.skip)))) (jJ [0,1,8,10] yo.r8 (.seq (jJ [0,1,8,10,70] yo.r9 (.post [0,1,8,10] (.cond (.t 70) (jJ [6,7] yo.r10 (.ret)) (.skip)))) (jJ [1,8,10,11] yo.r11 (jJ [11] yo.r12 (jJ [6,7] yo.r13 (.ret)))))))))⟩
theorem yo.ok:y2b Tryz.prog Tryz.f125 yo=true:=by kernel_rfl
theorem yo.at:km y4n Tryz.f125:=Tryz.func125
end C
theorem yh9:∀{l:List y73} {n p:Str} {k:Nat},k≤l.length→(∀f∈l.take k,ltB f.1 n=true)→yg8 l n p=l.take k++yg8 (l.drop k) n p
 | l,n,p,0,_,_=>by simp
 | [],n,p,k+1,h,_=>by simp at h
 | f::l,n,p,k+1,h,ha=>by
  have h1:=ha f (by simp)
  have ih:=yh9 (l:=l) (n:=n) (p:=p) (k:=k) (by simpa using h) fun g hg=>ha g (by simp [hg])
  simp only [List.take_succ_cons,List.drop_succ_cons,List.cons_append,yg8,if_pos h1,ih]
theorem ylx:∀{l:List y73} {n:Str} {k:Nat},(∀f∈l.take k,ltB f.1 n=true)→ofS l n=ofS (l.drop k) n
 | l,n,0,_=>by simp
 | [],n,k+1,_=>by simp
 | f::l,n,k+1,ha=>by
  have h1:=ha f (by simp)
  have hne:f.1≠n:=fun e=>by rw [e] at h1;exact y7x _ h1
  rw [y6w,if_neg hne,List.drop_succ_cons]
  exact ylx fun g hg=>ha g (by simp [hg])
theorem yc9 (l:List y73):∀e∈l.map fcs,e.length=2:=fun e he=>by obtain ⟨f,_,rfl⟩:=List.mem_map.1 he;rfl
theorem yf7 (l:List y73):(l.map fcs).flatten.all y6b=true:=by
 rw [ka];intro v hv
 obtain ⟨e,he,hv⟩:=List.mem_flatten.1 hv
 obtain ⟨x,_,rfl⟩:=List.mem_map.1 he
 simp [fcs] at hv;rcases hv with rfl | rfl <;> simp [ss,y6b]
theorem yjh (f:y73):∀(l2:List y73) (i:Nat),(((l2.map fcs).flatten.set (i*2) (.s f.1)).set (i*2+1) (ss f.2))=((l2.set i f).map fcs).flatten
 | [],i=>by simp
 | a::l,0=>by simp [fcs]
 | a::l,i+1=>by
  have ih:=yjh f l i
  have e:(i+1)*2=i*2+1+1:=by omega
  simp only [List.map_cons,List.flatten_cons,List.set_cons_succ,e]
  rw [←ih]
  simp [fcs]
def AdI (l:List y73) (n p:Str) (H:Hp) (m:Nat) (F:Fr) (X:Hp):Prop:=∃i,i≤l.length∧m=l.length-i∧(∀f∈l.take i,ltB f.1 n=true)∧X=H∧F=[(0,fsV l),(1,.s n),(2,.s p),(8,.i .i64 i)]
structure AdL (l l2:List y73) (n p:Str) (k:Nat) (x:List Str):Prop where
 hk:l2[k]?=some (n,x)
 ad:yg8 l n p=l2.set k (n,y6u x p)
 of:ofS l n=x
 le:l2.length≤l.length+1
 lx:x.length≤999999
 rs:y4i x
theorem yii (l:List y73) (n p:Str) (hc:CanF l) (hl:l.length≤100000000) (hx:∀f∈l,f.2.length≤999999) (H:Hp):AC Tryz.prog y4n [fsV l,.s n,.s p] H (fun v H'=>v=.tup [fsV (yg8 l n p),.b (decide (p∉ofS l n))]∧H'=H):=by
 refine AC.codeP yo.at yo.ok (by simp) fun hlt=>?_
 simp only [yo]
 apply jA
 simp [yo.r0]
 apply jA
 simp [yo.r1]
 refine AX.seq (AX.pblock (AX.loop (AdI l n p H) l.length ⟨_,_,.refl _ _,0,by omega,by omega,by simp,rfl,rfl⟩ ?_))
 rintro m F X ⟨i,hi,rfl,ha,rfl,rfl⟩
 simp only [yo.l0]
 obtain ⟨b,hb0⟩:∃b,b=decide (i<l.length∧ltB (l.getD i ([],[])).1 n=true):=⟨_,rfl⟩
 refine AX.seq (AX.test b [(0,fsV l),(1,.s n),(2,.s p),(8,.i .i64 i),(24,.b b)] ?_ rfl (fun hb=>AX.skip ?_) (fun hb=>AX.exit ?_))
 ·by_cases hia:i<l.length <;> simp [yo.r2,fsV,fcs,hia,hb0,kQ]
 ·subst hb
  obtain ⟨hia,hlt'⟩:=of_decide_eq_true hb0.symm
  rw [kQ,kC hia] at hlt'
  simp only [Option.getD_some] at hlt'
  simp
  refine AX.pblock (AX.reg ?_)
  simp [yo.r3,y2c hia (show l.length≤9223372036854775807 by omega)]
  refine ⟨l.length-(i+1),by omega,_,_,.refl _ _,i+1,by omega,rfl,fun f hf=>?_,rfl,by simp [fsV]⟩
  rw [kJ,kC hia] at hf
  rcases List.mem_append.1 hf with h | h
  ·exact ha f h
  ·simp at h;subst h;exact hlt'
 subst hb
 have hnl:¬(i<l.length∧ltB (l.getD i ([],[])).1 n=true):=of_decide_eq_false hb0.symm
 clear hb0
 simp
 have hsp:=yh9 (p:=p) hi ha
 have hso:=ylx ha
 refine AX.cut (fun F Y=>∃l2 x,F=[(0,fsV l2),(1,.s n),(2,.s p),(8,.i .i64 i)]∧AdL l l2 n p i x∧X.Ext Y∧Hp.Lt Y) ?_ ?_
 ·obtain ⟨b,hb0⟩:∃b,b=decide (¬(i<l.length∧(l.getD i ([],[])).1=n)):=⟨_,rfl⟩
  refine AX.test b [(0,fsV l),(1,.s n),(2,.s p),(8,.i .i64 i),(39,.b b)] ?_ rfl (fun hb=>?_) (fun hb=>AX.skip ?_)
  ·by_cases hia:i<l.length
   ·have:i≠l.length:=by omega
    by_cases e:l[i].1=n
    ·simp [yo.r4,fsV,fcs,hia,hb0,this,kQ,e]
    ·have e2:(l[i].1 == n)=false:=by simpa using e
     simp [yo.r4,fsV,fcs,hia,hb0,this,kQ,e,e2]
   ·have:i=l.length:=by omega
    simp [yo.r4,fsV,fcs,hia,hb0,this,kQ]
  ·subst hb
   have hne:=of_decide_eq_true hb0.symm
   have hd:yg8 (l.drop i) n p=(n,[p])::l.drop i∧ofS (l.drop i) n=[]:=by
    by_cases hia:i<l.length
    ·rw [kQ,kC hia] at hnl hne
     simp only [Option.getD_some] at hnl hne
     have q1:¬ltB l[i].1 n=true:=fun h=>hnl ⟨hia,h⟩
     have q2:¬l[i].1=n:=fun h=>hne ⟨hia,h⟩
     rw [kP hia]
     refine ⟨by rw [yg8,if_neg q1,if_neg q2],yly fun f hf e=>?_⟩
     rcases List.mem_cons.1 hf with rfl | hf
     ·exact q2 e
     ·obtain ⟨j,hj,rfl⟩:=List.mem_iff_getElem.1 hf
      rw [List.getElem_drop] at e
      simp only [List.length_drop] at hj
      have:=List.pairwise_iff_getElem.1 hc.rise i (i+1+j) (by simpa using hia) (by simp;omega) (by omega)
      simp only [List.getElem_map,e] at this
      exact q1 this
    ·rw [List.drop_of_length_le (by omega)];exact ⟨rfl,rfl⟩
   have A0:Acc X 2 (.sl none 0 2) X []:=.nil 2 2 (.refl _) hlt
   obtain ⟨v1,H1,e1,A1⟩:=A0.app (bytes:=40) hlt (yc9 (l.take i)) (by omega) (yf7 _) (by simp [y74];omega)
   obtain ⟨v2,H2,e2,A2⟩:=A1.app (bytes:=40) hlt (yc9 [(n,[])]) (by omega) (yf7 _) (by simp [y74];omega)
   obtain ⟨v3,H3,e3,A3⟩:=A2.app (bytes:=40) hlt (yc9 (l.drop i)) (by omega) (yf7 _) (by simp [y74];omega)
   rw [List.map_take] at e1
   rw [List.map_drop] at e3
   simp only [List.map_cons,List.map_nil,fcs,ss] at e2
   apply jA
   simp [yo.r5,fsV,hi,-y3a,e1]
   apply jA
   simp [yo.r6,y91,-y3a,e2]
   apply jE
   simp [yo.r7,fsV,hi,-y3a,e3]
   refine ⟨_,_,Wk.freeze (fun id=>X.next≤id) (ya2 A3.frz (ya2 (.refl _) (ya2 (.refl _) (ya2 (.refl _) ymf)))),l.take i++[(n,[])]++l.drop i,?_,⟨[],?_,?_,?_,?_,?_,?_⟩,Hp.wo_new A3.ext hlt,Hp.wo_lt A3.lt _⟩
   ·simp [fsV]
   ·simp [kX,hi]
   ·rw [hsp,hd.1];simp [List.set_append,hi,y6u]
   ·rw [hso,hd.2]
   ·simp;omega
   ·simp
   ·simp [y4i]
  ·subst hb
   have hne:i<l.length∧(l.getD i ([],[])).1=n:=by simpa using hb0
   obtain ⟨hia,he⟩:=hne
   rw [kQ,kC hia] at he
   simp only [Option.getD_some] at he
   have q0:ltB l[i].1 n≠true:=by rw [he];exact y7x _
   simp
   refine ⟨_,_,.refl _ _,l,rfl,⟨l[i].2,?_,?_,?_,by omega,?_,(hc.locs _ (kL hia)).1⟩,.refl _,hlt⟩
   ·rw [kC hia,←he]
   ·rw [hsp,kP hia,yg8,if_neg q0,if_pos he,List.set_eq_take_append_cons_drop,if_pos hia]
   ·rw [hso,kP hia,y6w,if_pos he]
   ·have:=hx _ (kL hia);omega
 rintro F Y ⟨l2,x,rfl,L,eY,lY⟩
 obtain ⟨hk,he⟩:=List.getElem?_eq_some_iff.1 L.hk
 apply jA
 simp [yo.r8,fsV,fcs,hk,he]
 refine AC.fix (Into_ok x p (by have:=L.lx;omega) Y) ?_
 simp
 have hlen:(y6u x p).length=x.length↔p∈x:=by
  rw [yfv L.rs]
  split
  ·simp [*]
  ·rename_i h
   simp only [h,iff_false]
   have:=ykf x p
   simp;omega
 refine AX.seq (AX.test (decide (p∈x)) [(0,fsV l2),(1,.s n),(8,.i .i64 i),(10,ss (y6u x p)),(70,.b (decide (p∈x)))] ?_ rfl (fun hb=>?_) (fun hb=>AX.skip ?_))
 ·simp [yo.r9,fsV,fcs,hk,he,ss,←hlen]
 ·simp only [decide_eq_true_eq] at hb
  apply jA
  simp [yo.r10]
  apply jD
  have hin:y6u x p=x:=by rw [yfv L.rs,if_pos hb]
  have e2:yg8 l n p=l2:=by rw [L.ad,hin,←he];exact List.set_getElem_self hk
  simp [e2,L.of,hb]
  exact ⟨eY,.refl _⟩
 ·simp only [decide_eq_false_iff_not] at hb
  simp
  have A0:Acc X 2 (.sl none 0 2) Y []:=.nil 2 2 eY lY
  obtain ⟨v1,H1,e1,A1⟩:=A0.app (bytes:=40) hlt (yc9 l2) (by omega) (yf7 _) (by have:=L.le;simp [y74];omega)
  have fl:=yc8 (yc9 l2)
  rw [List.length_map] at fl
  obtain ⟨id,m,h1,hv,h2,h3⟩:∃id m,X.next≤id∧v1=.sl (some (id,0,l2.length*2)) l2.length 2∧H1.get id=some (.cells (l2.map fcs).flatten m)∧m≤l2.length*2:=by
   rcases A1.sl with ⟨h0,_⟩ | ⟨id,m,h1,h,h2,h3⟩
   ·simp at h0;subst h0;simp at hk
   ·rw [List.nil_append,fl] at h h3
    rw [List.length_map] at h
    exact ⟨id,m,h1,h,by simpa using h2,h3⟩
  subst hv
  have fs2:=yjh (n,y6u x p) l2 i
  have A2l:=yc9 (l2.set i (n,y6u x p))
  have fl2:=yc8 A2l
  rw [List.length_map,List.length_set] at fl2
  apply jA
  simp [yo.r11,fsV,-y3a,e1]
  generalize (l2.map fcs).flatten=cs at h2 fl fs2
  apply jA
  have hle:i*2+2≤l2.length*2:=by omega
  simp only [ss] at fs2
  simp [yo.r12,hk,ss,h2,fl,hle]
  apply jA
  simp [yo.r13]
  apply jD
  rw [fs2]
  have hin:ofS l n=x:=L.of
  simp [hin,hb]
  refine ⟨A1.ext.upd hlt h1 _,yme ?_⟩
  have A3:Acc X 2 (.sl (some (id,0,l2.length*2)) l2.length 2) (H1.upd id (.cells ((l2.set i (n,y6u x p)).map fcs).flatten (l2.length*2))) ((l2.set i (n,y6u x p)).map fcs):=
   ⟨A1.ext.upd hlt h1 _,Hp.upd_lt A1.lt (A1.lt _ _ h2) _,A2l,.inr ⟨id,l2.length*2,h1,by rw [fl2];simp,by simp,by omega⟩⟩
  have:=A3.frz
  rw [L.ad]
  rw [List.map_set] at this ⊢;exact this
structure OkF (N P:List Str) (l:List y73):Prop where
 can:CanF l
 sub:y8f (y7h l) (ye1 N P)
structure Bnd (N P:List Str):Prop where
 n:N.length≤9999999
 p:P.length≤999999
 len:∀x∈P,x.length≤9223372036854775806
theorem OkF.add {N P:List Str} {l:List y73} (h:OkF N P l) {n p:Str} (hn:n∈N) (hp:p∈P):OkF N P (yg8 l n p):=⟨h.can.add n p,fun a b x=>by
 rcases (ymd h.can n p a b).1 x with x | ⟨rfl,rfl⟩
 ·exact h.sub a b x
 ·exact ⟨hn,hp⟩⟩
theorem OkF.len {N P:List Str} {l:List y73} (h:OkF N P l) (B:Bnd N P):l.length≤9999999∧(∀f∈l,f.2.length≤999999)∧∀n,(ofS l n).length≤999999:=by
 have h1:=h.can.len h.sub
 refine ⟨by have:=B.n;omega,fun f hf=>?_,fun n=>by have:=h1.2 n;have:=B.p;omega⟩
 have:=h1.2 f.1
 rw [ylz h.can hf] at this
 have:=B.p;omega
theorem OkF.nil (N P:List Str):OkF N P []:=⟨.nil,fun n p h=>by simp [y7h,ofS] at h⟩
def Fl (f:St→St):Prop:=∀l m,f (l,m)=((f (l,false)).1,m||(f (l,false)).2)
theorem Fl.id:Fl fun st=>st:=fun l m=>by simp
theorem Fl.add (n p:Str):Fl fun st=>yap st n p:=fun l m=>by simp [yap]
theorem Fl.fold {α:Type} {f:St→α→St} (h:∀x,Fl fun st=>f st x):∀ys:List α,Fl fun st=>ys.foldl f st
 | []=>.id
 | y::ys=>fun l m=>by
  have h1:=h y l m
  simp only at h1
  have h2:=Fl.fold h ys
  simp only [List.foldl_cons]
  rw [h1]
  obtain ⟨l1,b⟩:=f (l,false) y
  have e1:=h2 l1 (m||b)
  have e2:=h2 l1 b
  simp only at e1 e2 ⊢
  rw [e1,e2]
  simp [Bool.or_assoc]
theorem Fl.all (to frm:Str):Fl fun st=>yej st to frm:=fun l m=>Fl.fold (f:=fun st q=>yap st to q) (fun q=>Fl.add to q) (ofS l frm) l m
theorem Fl.ite {b:Prop} [Decidable b] {f g:St→St} (hf:Fl f) (hg:Fl g):Fl fun st=>if b then f st else g st:=by
 by_cases e:b
 ·simp only [if_pos e];exact hf
 ·simp only [if_neg e];exact hg
theorem Fl.arg (q:Str) (x:Nat × Str):Fl fun st=>ygp q st x:=by
 unfold ygp
 exact .ite .id (.ite (.all _ _) (.all _ _))
theorem Fl.one {f:St→St} (h:Fl f) (st:St):f st=((f (st.1,false)).1,st.2||(f (st.1,false)).2):=h st.1 st.2
theorem ya3 {α β:Type} (f:β→α→β) (b:β) {l:List α} {i:Nat} (h:i<l.length):(l.take (i+1)).foldl f b=f ((l.take i).foldl f b) l[i]:=by
 rw [kJ,kC h,List.foldl_append];rfl
theorem ybc {α β:Type} (f:β→α→β) (b:β) {l:List α} {i:Nat} (h:l.length≤i):(l.take i).foldl f b=l.foldl f b:=by rw [kI h]
theorem y9o {α β:Type} {f:β→α→β} {C:β→Prop}:∀{l:List α} {b:β},C b→(∀b x,x∈l→C b→C (f b x))→∀i,C ((l.take i).foldl f b)
 | [],b,h,_,i=>by simpa using h
 | x::l,b,h,hs,0=>by simpa using h
 | x::l,b,h,hs,i+1=>by
  rw [List.take_succ_cons,List.foldl_cons]
  exact y9o (hs b x (by simp) h) (fun b y hy=>hs b y (by simp [hy])) i
theorem ybb {α β:Type} {f:β→α→β} {C:β→Prop} {l:List α} {b:β} (h:C b) (hs:∀b x,x∈l→C b→C (f b x)):C (l.foldl f b):=by
 have:=y9o h hs l.length
 rwa [List.take_length] at this
theorem yfs {N P:List Str} {st:St} (h:OkF N P st.1) {to frm:Str} (hto:∀p,y7h st.1 frm p→to∈N):OkF N P (yej st to frm).1:=
 ybb (C:=fun s:St=>OkF N P s.1) h fun b x hx hb=>hb.add (hto x hx) (h.sub frm x hx).2
def AlI (l:List y73) (to:Str) (x:List Str) (H:Hp) (m:Nat) (F:Fr) (X:Hp):Prop:=
 ∃i,∃st:St,i≤x.length∧m=x.length-i∧st=(x.take i).foldl (fun st q=>yap st to q) (l,false)∧X=H∧F=[(0,fsV st.1),(1,.s to),(8,ss x),(9,.b st.2),(10,.i .i64 i)]
theorem ygb {N P:List Str} (B:Bnd N P) (l:List y73) (hl:OkF N P l) (to frm:Str) (hto:∀p,y7h l frm p→to∈N) (H:Hp):AC Tryz.prog y4d [fsV l,.s to,.s frm] H (fun v H'=>v=.tup [fsV (yej (l,false) to frm).1,.b (yej (l,false) to frm).2]∧H'=H):=by
 obtain ⟨b1,b2,b3⟩:=hl.len B
 refine AC.code y18.at y18.ok ?_
 simp only [y18]
 apply jA
 simp [y18.r0]
 apply jA
 simp [y18.r1]
 refine AC.fix (yjy l frm (by omega) (fun f hf=>by have:=b2 f hf;omega) H) ?_
 simp
 apply jA
 simp [y18.r2]
 have b4:=b3 frm
 have hC:∀i,OkF N P (((ofS l frm).take i).foldl (fun st q=>yap st to q) (l,false)).1:=y9o (C:=fun s:St=>OkF N P s.1) hl fun b x hx hb=>hb.add (hto x hx) (hl.sub frm x hx).2
 have hall:yej (l,false) to frm=(ofS l frm).foldl (fun st q=>yap st to q) (l,false):=rfl
 rw [hall]
 obtain ⟨x,hx⟩:∃x,x=ofS l frm:=⟨_,rfl⟩
 rw [←hx] at hC b4 ⊢
 apply jB
 simp [y18.r3]
 refine AX.pblock (AX.loop (AlI l to x H) x.length ⟨_,_,.refl _ _,0,(l,false),by omega,by omega,by simp,rfl,rfl⟩ ?_)
 rintro m F X ⟨i,st,hi,rfl,hst,rfl,rfl⟩
 have hok:=hC i
 rw [←hst] at hok
 obtain ⟨c1,c2,c3⟩:=hok.len B
 simp only [y18.l0]
 apply jB
 simp [y18.r4,ss]
 refine AX.pcond rfl (fun hb=>AX.skip ?_) (fun hb=>AX.exit ?_)
 rotate_left
 ·simp at hb
  simp
  apply jA
  simp [y18.r9]
  apply jD
  rw [ybc _ _ hb] at hst
  simp [←hst]
 simp at hb
 simp
 apply jC
 simp [y18.r5,hb]
 refine AC.fix (yii st.1 to x[i] hok.can (by omega) c2 X) ?_
 simp
 apply jA
 simp [y18.r6]
 apply jE
 obtain ⟨l1,m1⟩:=st
 simp only at *
 have hn:yap (l1,m1) to x[i]=(x.take (i+1)).foldl (fun st q=>yap st to q) (l,false):=by rw [ya3 _ _ hb,←hst]
 have hw:X.next=X.next:=rfl
 cases m1 with
 | true=>
  simp [y18.r7]
  apply jE
  simp [y18.r8,y2c hb (show x.length≤9223372036854775807 by omega)]
  exact ⟨x.length-(i+1),by omega,_,_,.refl _ _,i+1,_,by omega,rfl,hn,rfl,by simp [yap,ss]⟩
 | false=>
  simp [y18.r7]
  apply jE
  simp [y18.r8,y2c hb (show x.length≤9223372036854775807 by omega)]
  exact ⟨x.length-(i+1),by omega,_,_,.refl _ _,i+1,_,by omega,rfl,hn,rfl,by simp [yap,ss]⟩
end Go.Proofs.YtikpijbeobeckaaGreatDoor
