/- Part 31 of the proof of the laws of the queries: GrF, RdM, RrM. -/
import Derived.Test.YthmkcebbeehbeaaGreatDoorXTw27
import Derived.Test.YthmkcebbeehbeaaGreatDoorXTw30
set_option linter.unusedSimpArgs false
set_option linter.unusedVariables false
namespace Go.Proofs.YthmkcebbeehbeaaGreatDoor
open Am C
def GfInv (s:Sy) (H:Hp) (m:Nat) (F:Fr) (X:Hp):Prop:=
  ∃i n,i≤s.objs.length∧m=s.objs.length-i∧n≤30000∧(∀(j:Nat) o,j<i→s.objs[j]?=some o→o.marks.length≤3000)∧X=H∧F=[(2,.fp (yaw s) 0),(5,.i .i64 (n:Nat)),(6,.i .i64 i)]
def GfIn (s:Sy) (i n0:Nat) (ms:List Mk) (H:Hp) (m:Nat) (F:Fr) (X:Hp):Prop:=
  ∃k n,k≤ms.length∧k≤100∧m=ms.length-k∧n0≤n∧n≤n0+k*140737488355328∧X=H∧F=[(2,.fp (yaw s) 0),(5,.i .i64 (n:Nat)),(6,.i .i64 i),(7,.i .i64 k)]
def syF (n:Nat) (s:Sy):Prop:=syS s∧s.objs.length≤n∧s.fns.length≤n∧s.cons.length≤n∧(∀o∈s.objs,o.marks.length≤3000)∧∀c∈s.cons,c.args.length≤6000
theorem ynv (most:Nat) (hm:most≤100) (s:Sy) (hs:syZ s) (H:Hp):AC Tryz.prog y8y [.agg (yaw s),.i .i64 (most:Nat)] H (fun v H'=>(∃b,v=.b b∧(b=false→syF most s))∧H'=H):=by
  obtain ⟨z1,z2,z3,zo,zf,zc⟩:=hs
  refine AC.codeR y0.at y0.ok fun hlt=>?_
  simp only [y0]
  apply jA
  simp [y0.r0,yaw]
  refine AX.seq ?_
  refine AX.test (decide (most<s.objs.length)||decide (most<s.fns.length)||decide (most<s.cons.length)) [(2,.fp (yaw s) 0),(30,.b (decide (most<s.objs.length)||decide (most<s.fns.length)||decide (most<s.cons.length)))] ?_ rfl (fun hb=>?_) (fun hb=>AX.skip ?_)
  · by_cases h1:most<s.objs.length
    · simp [y0.r1,yaw,h1]
    by_cases h2:most<s.fns.length
    · simp [y0.r1,yaw,h1,h2]
    · simp [y0.r1,yaw,h1,h2]
  · apply jA
    simp [y0.r2]
    apply jD
    simp
    exact .refl _
  simp at hb
  simp
  apply jA
  simp [y0.r3]
  apply jB
  simp [y0.r4]
  refine AX.pblock (AX.loop (GfInv s H) s.objs.length ⟨_,_,.refl _ _,0,0,by omega,by omega,by omega,fun j o h=>by omega,rfl,by simp [yaw]⟩ ?_)
  rintro m F X ⟨i,n,hi,rfl,hn,hmk,hX,rfl⟩
  obtain rfl:=hX.symm
  simp only [y0.l0]
  apply jB
  simp [y0.r5,yaw]
  refine AX.pcond rfl (fun hc=>AX.skip ?_) (fun hc=>AX.exit ?_)
  · simp at hc
    obtain ⟨b1,b2,b3,b4⟩:=zo _ (List.getElem_mem hc)
    have hg:s.objs[i]?=some s.objs[i]:=List.getElem?_eq_getElem hc
    simp
    generalize s.objs[i]=o at *
    have w1:Go.IntKind.i64.wrap ((n:Int)+o.name.length)=(n:Int)+o.name.length:=y2w (by omega) (by omega)
    have w2:Go.IntKind.i64.wrap ((n:Int)+o.name.length+o.kinds.length)=(n:Int)+o.name.length+o.kinds.length:=y2w (by omega) (by omega)
    have w3:Go.IntKind.i64.wrap (10*(o.marks.length:Int))=10*(o.marks.length:Int):=y2w (by omega) (by omega)
    have w4:Go.IntKind.i64.wrap ((n:Int)+o.name.length+o.kinds.length+10*o.marks.length)=(n:Int)+o.name.length+o.kinds.length+10*o.marks.length:=y2w (by omega) (by omega)
    refine AX.seq (AX.pblock (AX.seq (AX.drw ?_)))
    simp [y0.r6,yaw,hg,y73,w1,w2,w3,w4]
    obtain ⟨n0,hn0⟩:∃n0,n0=n+o.name.length+o.kinds.length+10*o.marks.length:=⟨_,rfl⟩
    rw [show ((n:Int)+o.name.length+o.kinds.length+10*o.marks.length)=((n0:Nat):Int) by omega]
    apply jB
    simp [y0.r7]
    refine AX.pblock (AX.loop (GfIn s i n0 o.marks H) o.marks.length ⟨_,_,.refl _ _,0,n0,by omega,by omega,by omega,by omega,by omega,rfl,by simp [yaw]⟩ ?_)
    rintro m F Y ⟨k,n1,hkl,hk5,rfl,h0,h1,hY,rfl⟩
    obtain rfl:=hY.symm
    simp only [y0.l1]
    refine AX.seq (AX.test (decide (k<o.marks.length∧k<100)) [(2,.fp (yaw s) 0),(5,.i .i64 (n1:Nat)),(6,.i .i64 i),(7,.i .i64 k),(76,.b (decide (k<o.marks.length∧k<100)))] ?_ rfl (fun h=>AX.skip ?_) (fun h=>AX.exit ?_))
    · by_cases hkk:k<o.marks.length
      · simp [y0.r8,yaw,hg,y73,hkk]
      · simp [y0.r8,yaw,hg,y73,hkk]
    · simp at h
      have b5:=b4 _ (List.getElem_mem h.1)
      have hgk:o.marks[k]?=some (o.marks[k]'h.1):=List.getElem?_eq_getElem h.1
      generalize o.marks[k]'h.1=mk at *
      have w5:Go.IntKind.i64.wrap ((n1:Int)+mk.tag.length)=(n1:Int)+mk.tag.length:=y2w (by omega) (by omega)
      simp
      refine AX.seq (AX.pblock (AX.reg ?_))
      simp [y0.r9,yaw,hg,hgk,y73,ya4,w5]
      rw [show ((n1:Int)+mk.tag.length)=((n1+mk.tag.length:Nat):Int) by omega]
      apply jE
      simp [y0.r10,ycb (show k≤9223372036854775000 by omega)]
      refine ⟨o.marks.length-(k+1),by omega,_,_,.refl _ _,k+1,n1+mk.tag.length,by omega,by omega,rfl,by omega,?_,rfl,by simp [yaw]⟩
      rw [Nat.succ_mul];omega
    · simp
      apply jA
      simp [y0.r11]
      by_cases hbig:30000<n1
      · refine jG (by simp;omega) (jA ?_)
        simp [y0.r12]
        apply jD
        simp
        exact .refl _
      · refine jF (by simp;omega) (AX.skip ?_)
        simp
        apply jE
        simp [y0.r13,ycb (show i≤9223372036854775000 by omega)]
        refine ⟨s.objs.length-(i+1),by omega,_,_,.refl _ _,i+1,n1,by omega,rfl,by omega,fun j o' hj' ho'=>?_,rfl,by simp [yaw]⟩
        by_cases e:j=i
        · subst e
          rw [hg] at ho';injection ho' with ho';subst ho';omega
        · exact hmk j o' (by omega) ho'
  simp at hc
  simp
  apply jB
  simp [y0.r14]
  refine AX.pblock (AX.loop (GrInv2 s H) s.fns.length ⟨_,_,.refl _ _,0,n,by omega,by omega,by omega,rfl,by simp [yaw]⟩ ?_)
  rintro m F X ⟨j,n2,hj,rfl,hn2,hX,rfl⟩
  obtain rfl:=hX.symm
  simp only [y0.l2]
  apply jB
  simp [y0.r15,yaw]
  refine AX.pcond rfl (fun hd=>AX.skip ?_) (fun hd=>AX.exit ?_)
  · simp at hd
    obtain ⟨⟨b1,b2⟩,b3⟩:=zf _ (List.getElem_mem hd)
    have hg:s.fns[j]?=some s.fns[j]:=List.getElem?_eq_getElem hd
    simp
    generalize s.fns[j]=f at *
    have w1:Go.IntKind.i64.wrap ((n2:Int)+f.name.length)=(n2:Int)+f.name.length:=y2w (by omega) (by omega)
    have w2:Go.IntKind.i64.wrap ((n2:Int)+f.name.length+f.kinds.length)=(n2:Int)+f.name.length+f.kinds.length:=y2w (by omega) (by omega)
    have w3:Go.IntKind.i64.wrap ((n2:Int)+f.name.length+f.kinds.length+f.ret.length)=(n2:Int)+f.name.length+f.kinds.length+f.ret.length:=y2w (by omega) (by omega)
    refine AX.seq (AX.pblock (AX.seq (AX.drw ?_)))
    simp [y0.r16,yaw,hg,yaa,w1,w2,w3]
    obtain ⟨n1,hn1⟩:∃n1,n1=n2+f.name.length+f.kinds.length+f.ret.length:=⟨_,rfl⟩
    rw [show ((n2:Int)+f.name.length+f.kinds.length+f.ret.length)=((n1:Nat):Int) by omega]
    apply jA
    simp [y0.r17]
    by_cases hbig:30000<n1
    · refine jG (by simp;omega) (jA ?_)
      simp [y0.r18]
      apply jD
      simp
      exact .refl _
    · refine jF (by simp;omega) (AX.skip ?_)
      simp
      apply jE
      simp [y0.r19,ycb (show j≤9223372036854775000 by omega)]
      exact ⟨s.fns.length-(j+1),by omega,_,_,.refl _ _,j+1,n1,by omega,rfl,by omega,rfl,by simp [yaw]⟩
  simp at hd
  simp
  apply jB
  simp [y0.r20]
  refine AX.pblock (AX.loop (GrInv3 s H) s.cons.length ⟨_,_,.refl _ _,0,n2,by omega,by omega,by omega,fun j c h=>by omega,.refl _,hlt,by simp [yaw]⟩ ?_)
  rintro m F X ⟨q,n3,hq,rfl,hn3,hall,X1,L1,rfl⟩
  simp only [y0.l3]
  apply jB
  simp [y0.r21,yaw]
  refine AX.pcond rfl (fun he=>AX.skip ?_) (fun he=>AX.exit ?_)
  case refine_2=>
    simp at he
    simp
    apply jA
    simp [y0.r31]
    apply jD
    simp
    refine ⟨⟨⟨by omega,by omega,by omega,zo,fun f hf=>(zf f hf).1,fun c hcm=>?_⟩,by omega,by omega,by omega,fun o hom=>?_,fun c hcm=>?_⟩,X1⟩
    rotate_left
    · obtain ⟨k,hk⟩:=List.mem_iff_getElem?.1 hom
      exact hmk k o (by have:=(List.getElem?_eq_some_iff.1 hk).1;omega) hk
    · obtain ⟨k,hk⟩:=List.mem_iff_getElem?.1 hcm
      exact hall k c (by have:=(List.getElem?_eq_some_iff.1 hk).1;omega) hk
    obtain ⟨g1,g2,g3,g4,g5⟩:=zc c hcm
    obtain ⟨k,hk⟩:=List.mem_iff_getElem?.1 hcm
    have:=hall k c (by have:=(List.getElem?_eq_some_iff.1 hk).1;omega) hk
    exact ⟨g1,g2,g3,by omega,g5⟩
  simp at he
  obtain ⟨g1,g2,g3,g4,g5⟩:=zc _ (List.getElem_mem he)
  have hg:s.cons[q]?=some s.cons[q]:=List.getElem?_eq_getElem he
  simp
  generalize s.cons[q]=c at *
  apply jC
  simp [y0.r22,hg,y85,ss]
  have X4:=X1.trans (yjl L1 (.cells [.i .i64 0,.s [],.s [],.i .i64 0,.s [],.sl none 0 0] 6) (.cells [.i .i64 c.op,.s c.a,.s c.b,.i .i64 c.k,.s c.tag,.fs (c.args.map fun x=>[.s x])] 6))
  have L4:=lt2 L1 (.cells [.i .i64 0,.s [],.s [],.i .i64 0,.s [],.sl none 0 0] 6) (.cells [.i .i64 c.op,.s c.a,.s c.b,.i .i64 c.k,.s c.tag,.fs (c.args.map fun x=>[.s x])] 6)
  have G4:((X.add (.cells [.i .i64 0,.s [],.s [],.i .i64 0,.s [],.sl none 0 0] 6)).upd X.next (.cells [.i .i64 c.op,.s c.a,.s c.b,.i .i64 c.k,.s c.tag,.fs (c.args.map fun x=>[.s x])] 6)).get X.next=some (.cells [.i .i64 c.op,.s c.a,.s c.b,.i .i64 c.k,.s c.tag,.fs (c.args.map fun x=>[.s x])] 6):=by simp
  generalize (X.add (.cells [.i .i64 0,.s [],.s [],.i .i64 0,.s [],.sl none 0 0] 6)).upd X.next (.cells [.i .i64 c.op,.s c.a,.s c.b,.i .i64 c.k,.s c.tag,.fs (c.args.map fun x=>[.s x])] 6)=Z at *
  generalize X.next=id at *
  have w1:Go.IntKind.i64.wrap ((n3:Int)+c.a.length)=(n3:Int)+c.a.length:=y2w (by omega) (by omega)
  have w2:Go.IntKind.i64.wrap ((n3:Int)+c.a.length+c.b.length)=(n3:Int)+c.a.length+c.b.length:=y2w (by omega) (by omega)
  have w3:Go.IntKind.i64.wrap ((n3:Int)+c.a.length+c.b.length+c.tag.length)=(n3:Int)+c.a.length+c.b.length+c.tag.length:=y2w (by omega) (by omega)
  have w4:Go.IntKind.i64.wrap (10*(c.args.length:Int))=10*(c.args.length:Int):=y2w (by omega) (by omega)
  have w5:Go.IntKind.i64.wrap ((n3:Int)+c.a.length+c.b.length+c.tag.length+10*c.args.length)=(n3:Int)+c.a.length+c.b.length+c.tag.length+10*c.args.length:=y2w (by omega) (by omega)
  apply jA
  simp [y0.r23,G4,w1,w2,w3,w4,w5]
  obtain ⟨n0,hn0⟩:∃n0,n0=n3+c.a.length+c.b.length+c.tag.length+10*c.args.length:=⟨_,rfl⟩
  rw [show ((n3:Int)+c.a.length+c.b.length+c.tag.length+10*c.args.length)=((n0:Nat):Int) by omega]
  apply jB
  simp [y0.r24]
  refine AX.pblock (AX.loop (GrIn3 s q n0 id c.args Z) c.args.length ⟨_,_,.refl _ _,0,n0,by omega,by omega,by omega,by omega,by omega,rfl,by simp [yaw]⟩ ?_)
  rintro m F Y ⟨k,n1,hkl,hk5,rfl,h0,h1,hY,rfl⟩
  obtain rfl:=hY.symm
  simp only [y0.l4]
  refine AX.seq (AX.test (decide (k<c.args.length∧k<100)) [(2,.fp (yaw s) 0),(5,.i .i64 (n1:Nat)),(9,.i .i64 q),(10,.p (some (id,0,6))),(11,.i .i64 k),(166,.b (decide (k<c.args.length∧k<100)))] ?_ rfl (fun h=>AX.skip ?_) (fun h=>AX.exit ?_))
  · by_cases hkk:k<c.args.length
    · simp [y0.r25,yaw,G4,hkk]
    · simp [y0.r25,yaw,G4,hkk]
  · simp at h
    have b5:=g5 _ (List.getElem_mem h.1)
    have hgk:c.args[k]?=some (c.args[k]'h.1):=List.getElem?_eq_getElem h.1
    generalize c.args[k]'h.1=a at *
    have w6:Go.IntKind.i64.wrap ((n1:Int)+a.length)=(n1:Int)+a.length:=y2w (by omega) (by omega)
    simp
    refine AX.seq (AX.pblock (AX.reg ?_))
    simp [y0.r26,G4,hgk,w6]
    rw [show ((n1:Int)+a.length)=((n1+a.length:Nat):Int) by omega]
    apply jE
    simp [y0.r27,ycb (show k≤9223372036854775000 by omega)]
    refine ⟨c.args.length-(k+1),by omega,_,_,.refl _ _,k+1,n1+a.length,by omega,by omega,rfl,by omega,?_,rfl,by simp [yaw]⟩
    rw [Nat.succ_mul];omega
  · simp
    apply jA
    simp [y0.r28]
    by_cases hbig:60000<n1
    · refine jG (by simp;omega) (jA ?_)
      simp [y0.r29]
      apply jD
      simp
      exact X4
    · refine jF (by simp;omega) (AX.skip ?_)
      simp
      apply jE
      simp [y0.r30,ycb (show q≤9223372036854775000 by omega)]
      refine ⟨s.cons.length-(q+1),by omega,_,_,.refl _ _,q+1,n1,by omega,rfl,by omega,fun j c' hj' hc'=>?_,X4,L4,by simp [yaw]⟩
      by_cases e:j=q
      · subst e
        rw [hg] at hc';injection hc' with hc';subst hc';omega
      · exact hall j c' (by omega) hc'
theorem ydr {α:Type} (f:α→List Ev) (k:Nat):∀l:List α,(∀x∈l,(f x).length≤k)→(evL f l).length≤1+l.length*k
  | [],_=>by simp [evL]
  | x::l,h=>by
    have h1:=h x (by simp)
    have h2:=ydr f k l fun y hy=>h y (by simp [hy])
    simp only [evL,List.length_cons,List.flatMap_cons,List.length_append] at h2 ⊢
    rw [Nat.succ_mul];omega
def suH (s:Su):Prop:=suF s∧s.gives.length≤60∧s.wants.length≤60∧s.keeps.length≤200∧syF 80 s.sys
theorem evS_len {s:Su} (h:syF 80 s.sys) (hg:s.gives.length≤60) (hw:s.wants.length≤60) (hk:s.keeps.length≤200):(evS s).length≤1000000:=by
  obtain ⟨_,h1,h2,h3,h4,h5⟩:=h
  have e1:=ydr evW 1 s.gives (fun x _=>by simp [evW])
  have e2:=ydr evW 1 s.wants (fun x _=>by simp [evW])
  have e3:=ydr evW 1 s.keeps (fun x _=>by simp [evW])
  have e4:=ydr evO 6003 s.sys.objs (fun o ho=>by
    have:=ydr evM 2 o.marks (fun x _=>by simp [evM])
    have:=h4 o ho
    simp [evO];omega)
  have e5:=ydr evF 3 s.sys.fns (fun x _=>by simp [evF])
  have e6:=ydr evC 6006 s.sys.cons (fun c hc=>by
    have:=ydr evW 1 c.args (fun x _=>by simp [evW])
    have:=h5 c hc
    simp [evC];omega)
  have h1':=Nat.mul_le_mul_right 6003 h1
  have h2':=Nat.mul_le_mul_right 6006 h3
  simp only [evS,List.length_cons,List.length_append]
  omega
def suZ (s:Su):Prop:=s.name.length≤140737488355328∧s.gives.length≤140737488355328∧s.wants.length≤140737488355328∧s.keeps.length≤140737488355328∧(∀k∈s.keeps,k.length≤140737488355328)∧syZ s.sys
def GtInv (l:List Str) (H:Hp) (m:Nat) (F:Fr) (X:Hp):Prop:=
  ∃i,i≤l.length∧i≤60∧m=l.length-i∧X=H∧F=[(0,ss l),(3,.i .i64 i)]
theorem ydy (l:List Str) (H:Hp):AC Tryz.prog y5z [ss l] H (fun v H'=>(∃b,v=.b b∧(b=false→l.length≤60))∧H'=H):=by
  refine AC.code y16.at y16.ok ?_
  simp only [y16]
  apply jA
  simp [y16.r0]
  apply jB
  simp [y16.r1]
  refine AX.pblock (AX.loop (GtInv l H) l.length ⟨_,_,.refl _ _,0,by omega,by omega,by omega,rfl,rfl⟩ ?_)
  rintro m F X ⟨i,hi,hi60,rfl,rfl,rfl⟩
  simp only [y16.l0]
  apply jB
  simp [y16.r2,ss]
  refine AX.pcond rfl (fun hc=>AX.skip ?_) (fun hc=>AX.exit ?_)
  · simp at hc
    simp
    obtain ⟨tb,htb⟩:∃tb,tb=(decide (60≤i)||decide (100<l[i].length)):=⟨_,rfl⟩
    refine AX.seq (AX.pblock (AX.test tb [(0,ss l),(3,.i .i64 i),(19,.b tb)] ?_ rfl (fun h=>jA ?_) (fun h=>AX.skip ?_)))
    · by_cases h60:60≤i
      · simp [y16.r3,h60,htb,ss]
      · simp [y16.r3,h60,htb,ss,hc]
    · simp [y16.r4]
      apply jD
      simp
    · rw [htb] at h
      simp at h
      simp
      apply jE
      simp [y16.r5,y7a (show i≤9223372036854775000 by omega)]
      exact ⟨l.length-(i+1),by omega,_,_,.refl _ _,i+1,by omega,by omega,rfl,rfl,by simp [ss]⟩
  simp
  apply jA
  simp [y16.r6]
  apply jD
  simp at hc ⊢
  omega
def GkInv (l:List Str) (H:Hp) (m:Nat) (F:Fr) (X:Hp):Prop:=
  ∃i,i≤l.length∧m=l.length-i∧X=H∧F=[(0,ss l),(3,.i .i64 i)]
theorem yi5 (l:List Str) (hl:l.length≤140737488355328) (H:Hp):AC Tryz.prog y76 [ss l] H (fun v H'=>(∃b,v=.b b)∧H'=H):=by
  refine AC.code y19.at y19.ok ?_
  simp only [y19]
  apply jA
  simp [y19.r0]
  apply jB
  simp [y19.r1]
  refine AX.pblock (AX.loop (GkInv l H) l.length ⟨_,_,.refl _ _,0,by omega,by omega,rfl,rfl⟩ ?_)
  rintro m F X ⟨i,hi,rfl,rfl,rfl⟩
  simp only [y19.l0]
  apply jB
  simp [y19.r2,ss]
  refine AX.pcond rfl (fun hc=>AX.skip ?_) (fun hc=>AX.exit ?_)
  · simp at hc
    simp
    apply jC
    simp [y19.r3,hc]
    refine AX.pcond rfl (fun h=>jA ?_) (fun h=>AX.skip ?_)
    · simp [y19.r4]
      apply jD
      simp
    · simp
      apply jE
      simp [y19.r5,y7a (show i≤9223372036854775000 by omega)]
      exact ⟨l.length-(i+1),by omega,_,_,.refl _ _,i+1,by omega,rfl,rfl,by simp [ss]⟩
  simp
  apply jA
  simp [y19.r6]
  apply jD
  simp
theorem ylk (s:Su) (hs:suZ s) (H:Hp):AC Tryz.prog y8x [.agg (y6i s)] H (fun v H'=>(∃b,v=.b b∧(b=false→suH s))∧H'=H):=by
  obtain ⟨z1,z2,z3,z4,z5,z6⟩:=hs
  have hS:syF 80 s.sys→s.gives.length≤60→s.wants.length≤60→s.keeps.length≤200→suH s:=fun h h1 h2 h3=>⟨⟨⟨z1,z2,z3,z4,z5,h.1⟩,evS_len h h1 h2 h3⟩,h1,h2,h3,h⟩
  refine AC.code y3h.at y3h.ok ?_
  simp only [y3h]
  apply jA
  simp [y3h.r0,y6i]
  apply jA
  by_cases h1:100<s.name.length
  · simp [y3h.r1,y6i,h1]
    apply jD
    simp
  simp [y3h.r1,y6i,h1]
  refine (ynv 80 (by omega) s.sys z6 H).mono ?_
  rintro _ _ ⟨⟨b,rfl,hb⟩,rfl⟩
  cases b with
  | true=>
    simp
    apply jD
    simp
  | false=>
  have hS:=hS (hb rfl)
  simp
  refine (ydy s.gives _).mono ?_
  rintro _ _ ⟨⟨b,rfl,hgv⟩,rfl⟩
  cases b with
  | true=>
    simp
    apply jD
    simp
  | false=>
  simp
  refine (ydy s.wants _).mono ?_
  rintro _ _ ⟨⟨b,rfl,hwt⟩,rfl⟩
  cases b with
  | true=>
    simp
    apply jD
    simp
  | false=>
  by_cases h2:200<s.keeps.length
  · simp [h2,ss]
    apply jD
    simp
  simp [h2,ss]
  refine (yi5 s.keeps z4 _).mono ?_
  rintro _ _ ⟨⟨b,rfl⟩,rfl⟩
  simp
  apply jD
  simp
  cases b <;> simp [hS (hgv rfl) (hwt rfl) (by omega)]
def rdN:Nat→Nat→Str→Nat × Nat × Int
  | _,_,[]=>(0,0,1)
  | k,n,c::r=>if k=4∧1<c.toNat then (0,0,2) else if 128≤c.toNat then rdN (k+1) (n+c.toNat % 128*128 ^ k) r
      else if c.toNat=0∧0<k then (0,0,3) else if 268435456<n+c.toNat % 128*128 ^ k then (0,0,2) else (n+c.toNat % 128*128 ^ k,k+1,0)
structure Rd where
  pos:Nat
  e:Int
def rdL (t:Str) (σ:Rd):Nat × Nat × Int:=rdN 0 0 (t.drop σ.pos)
def y3f (t:Str) (σ:Rd):Nat × Rd:=if σ.e≠0 then (0,σ) else if (rdL t σ).2.2≠0 then (0,{ σ with e:=(rdL t σ).2.2 }) else ((rdL t σ).1,{ σ with pos:=σ.pos+(rdL t σ).2.1 })
def y7c (t:Str) (σ:Rd):Str × Rd:=
  if σ.e≠0 then ([],σ) else if (rdL t σ).2.2≠0 then ([],{ σ with e:=(rdL t σ).2.2 })
  else if t.length<σ.pos+(rdL t σ).2.1+(rdL t σ).1 then ([],{ σ with e:=1 })
  else ((t.drop (σ.pos+(rdL t σ).2.1)).take (rdL t σ).1,{ σ with pos:=σ.pos+(rdL t σ).2.1+(rdL t σ).1 })
def y5k (σ:Rd) (x:Int):Rd:=if σ.e=0 then { σ with e:=x } else σ
def y78 (t:Str) (σ:Rd):Int:=if σ.e=0∧σ.pos<t.length then 6 else σ.e
theorem ypd:∀(r:Str) (k n:Nat),(rdN k n r).1≤268435456∧(rdN k n r).2.1≤k+r.length∧0≤(rdN k n r).2.2∧(rdN k n r).2.2≤3∧((rdN k n r).2.2=0→k<(rdN k n r).2.1)
  | [],k,n=>by simp [rdN]
  | c::r,k,n=>by
    have ih:=ypd r (k+1) (n+c.toNat % 128*128 ^ k)
    simp only [rdN,List.length_cons]
    split
    · simp
    · split
      · exact ⟨ih.1,by omega,ih.2.2.1,ih.2.2.2.1,fun h=>by have:=ih.2.2.2.2 h;omega⟩
      · split
        · simp
        · split
          · simp
          · simp;omega
def y6y (t:Str) (σ:Rd):Prop:=σ.pos≤t.length∧0≤σ.e∧σ.e≤100∧σ.e≠6
theorem ye7 (t:Str) (σ:Rd) (h:σ.pos≤t.length):(rdL t σ).1≤268435456∧σ.pos+(rdL t σ).2.1≤t.length∧0≤(rdL t σ).2.2∧(rdL t σ).2.2≤3:=by
  have:=ypd (t.drop σ.pos) 0 0
  unfold rdL
  rw [List.length_drop] at this
  omega
theorem y5d {t:Str} {σ:Rd} (h:y6y t σ):y6y t (y3f t σ).2∧(y3f t σ).1≤268435456:=by
  have:=ye7 t σ h.1
  unfold y6y at *
  unfold y3f
  split
  · simp;omega
  · split <;> simp <;> omega
theorem yhv {t:Str} {σ:Rd} (h:y6y t σ):y6y t (y7c t σ).2∧(y7c t σ).1.length≤t.length:=by
  have:=ye7 t σ h.1
  unfold y6y at *
  unfold y7c
  split
  · simp;omega
  · split
    · simp;omega
    · split
      · simp;omega
      · simp;omega
theorem yc5 {t:Str} {σ:Rd} (h:y6y t σ) {x:Int} (h0:0≤x) (h1:x≤100) (h6:x≠6):y6y t (y5k σ x):=by
  unfold y6y y5k at *
  split <;> simp <;> omega
def y9y (last:Str) (k:Nat) (rest:Str) (first:Bool):Str × Int:=
  if last.length<k then ([],2) else if 1000<(last.take k++rest).length then ([],9) else if first=false∧(ltB (last.take k++rest) last||(last.take k++rest == last))=true then ([],13)
  else if shN last (last.take k++rest)≠k then ([],3) else (last.take k++rest,0)
def y7q (t:Str):Nat→Bool→Str→List Str→Rd→List Str × Rd
  | 0,_,_,acc,σ=>(acc,σ)
  | n+1,first,last,acc,σ=>if σ.e≠0 then (acc,σ) else
    let k:=y3f t σ
    let r:=y7c t k.2
    if r.2.e≠0 then (acc,r.2) else
    let x:=y9y last k.1 r.1 first
    y7q t n false x.1 (acc++[x.1]) (y5k r.2 x.2)
def y6x (t:Str) (σ:Rd):List Str × Rd:=
  let n:=y3f t σ
  y7q t n.1 true [] [] (if 6000<n.1 then y5k n.2 4 else n.2)
def y31 (pool:List Str) (t:Str) (σ:Rd):Str × Rd:=
  if (y3f t σ).2.e≠0 then ([],(y3f t σ).2) else match pool[(y3f t σ).1]? with
    | some s=>(s,(y3f t σ).2)
    | none=>([],y5k (y3f t σ).2 2)
def y9v {α:Type} (one:Rd→α × Rd):Nat→Rd→List α × Rd
  | 0,σ=>([],σ)
  | n+1,σ=>if σ.e≠0 then ([],σ) else ((one σ).1::(y9v one n (one σ).2).1,(y9v one n (one σ).2).2)
def y30 {α:Type} (t:Str) (one:Rd→α × Rd) (σ:Rd):List α × Rd:=
  y9v one (y3f t σ).1 (if 6000<(y3f t σ).1 then y5k (y3f t σ).2 4 else (y3f t σ).2)
def y9w (pool:List Str) (t:Str) (σ:Rd):Mk × Rd:=(⟨((y3f t σ).1:Nat),(y31 pool t (y3f t σ).2).1⟩,(y31 pool t (y3f t σ).2).2)
def yc4 (pool:List Str) (t:Str) (σ:Rd):Ob × Rd:=
  let a:=y31 pool t σ
  let b:=y31 pool t a.2
  let c:=y30 t (y9w pool t) b.2
  (⟨a.1,b.1,c.1⟩,c.2)
def yj1 (pool:List Str) (t:Str) (σ:Rd):Fu × Rd:=
  let a:=y31 pool t σ
  let b:=y31 pool t a.2
  let c:=y31 pool t b.2
  (⟨a.1,b.1,c.1⟩,c.2)
def yc6 (pool:List Str) (t:Str) (σ:Rd):Cn × Rd:=
  let o:=y3f t σ
  let a:=y31 pool t o.2
  let b:=y31 pool t a.2
  let k:=y3f t b.2
  let g:=y31 pool t k.2
  let l:=y30 t (y31 pool t) g.2
  (⟨(o.1:Nat),a.1,b.1,(k.1:Nat),g.1,l.1⟩,l.2)
def ydm (pool:List Str) (t:Str) (σ:Rd):Su × Rd:=
  let n:=y31 pool t σ
  let g:=y30 t (y31 pool t) n.2
  let w:=y30 t (y31 pool t) g.2
  let k:=y30 t (y31 pool t) w.2
  let o:=y30 t (yc4 pool t) k.2
  let f:=y30 t (yj1 pool t) o.2
  let c:=y30 t (yc6 pool t) f.2
  (⟨n.1,g.1,w.1,k.1,⟨o.1,f.1,c.1⟩⟩,c.2)
def su0:Su:=⟨[],[],[],[],⟨[],[],[]⟩⟩
def y9h (pool:List Str) (t:Str):Su × Int:=if y78 t (ydm pool t ⟨0,0⟩).2≠0 then (su0,y78 t (ydm pool t ⟨0,0⟩).2) else ((ydm pool t ⟨0,0⟩).1,0)
section
variable {pool:List Str} {t:Str} {σ:Rd}
theorem y3u (h:y6y t σ):y6y t (y31 pool t σ).2:=by
  have h1:=(y5d h).1
  unfold y31
  split
  · exact h1
  · split
    · exact h1
    · exact yc5 h1 (by omega) (by omega) (by omega)
theorem ym5 {α:Type} {one:Rd→α × Rd} (h1:∀σ,y6y t σ→y6y t (one σ).2):∀(n:Nat) {σ:Rd},y6y t σ→y6y t (y9v one n σ).2
  | 0,σ,h=>h
  | n+1,σ,h=>by
    simp only [y9v]
    split
    · exact h
    · exact ym5 h1 n (h1 σ h)
theorem yhx (h:y6y t σ):y6y t (if 6000<(y3f t σ).1 then y5k (y3f t σ).2 4 else (y3f t σ).2):=by
  have h1:=(y5d h).1
  split
  · exact yc5 h1 (by omega) (by omega) (by omega)
  · exact h1
theorem y6a {α:Type} {one:Rd→α × Rd} (h1:∀σ,y6y t σ→y6y t (one σ).2) (h:y6y t σ):y6y t (y30 t one σ).2:=ym5 h1 _ (yhx h)
theorem yfo (h:y6y t σ):y6y t (y9w pool t σ).2:=y3u (y5d h).1
theorem yf0 (h:y6y t σ):y6y t (yc4 pool t σ).2:=y6a (fun _=>yfo) (y3u (y3u h))
theorem yhw (h:y6y t σ):y6y t (yj1 pool t σ).2:=y3u (y3u (y3u h))
theorem yf1 (h:y6y t σ):y6y t (yc6 pool t σ).2:=y6a (fun _=>y3u) (y3u (y5d (y3u (y3u (y5d h).1))).1)
theorem yfn {α:Type} {one:Rd→α × Rd} (h:σ.e≠0) (n:Nat):y9v one n σ=([],σ):=by
  cases n with
  | zero=>rfl
  | succ n=>simp only [y9v];rw [if_pos h]
theorem yn9 {α:Type} {one:Rd→α × Rd} {n i:Nat} (hi:i<n) (h:σ.e=0):y9v one (n-i) σ=((one σ).1::(y9v one (n-(i+1)) (one σ).2).1,(y9v one (n-(i+1)) (one σ).2).2):=by
  rw [show n-i=(n-(i+1))+1 by omega]
  simp only [y9v]
  rw [if_neg (by simp [h])]
end
end Go.Proofs.YthmkcebbeehbeaaGreatDoor
