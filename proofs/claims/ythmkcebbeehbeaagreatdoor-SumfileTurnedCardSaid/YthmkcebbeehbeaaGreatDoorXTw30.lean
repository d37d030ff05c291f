/- Part 30 of the proof of the laws of the queries: S20f, Sum1, EncM. -/
import Derived.Test.YthmkcebbeehbeaaGreatDoorXTw27
import Derived.Test.YthmkcebbeehbeaaGreatDoorXTw28
import Derived.Test.YthmkcebbeehbeaaGreatDoorXTw29
set_option linter.unusedSimpArgs false
set_option linter.unusedVariables false
namespace Go.Proofs.YthmkcebbeehbeaaGreatDoor
open Am C
def EaInv {α:Type} (ask:α→Int) (cmp:α→α→Int) (enc:α→List V) (l:List α) (f g:Go.FuncId) (H:Hp) (m:Nat) (F:Fr) (X:Hp):Prop:=
  ∃i,i≤l.length∧m=l.length-i∧chk ask cmp none l=chk ask cmp (pv l i) (l.drop i)∧H.Ext X∧(∀id blk,X.get id=some blk→id<X.next)∧
    F=[(0,.fs (l.map enc)),(1,.fn f []),(2,.fn g []),(10,.fs (l.map enc)),(11,.i .i64 l.length),(12,.i .i64 i)]
theorem yo1 (l:List Ob) (hl:l.length≤9223372036854775807) (hs:∀x∈l,obS x) (H:Hp):AC Tryz.prog y7g [.fs (l.map y73),.fn y7f [],.fn y7z []] H (fun v H'=>v=.i .i64 (chk obE yr2 none l)∧H'=H):=by
  refine AC.codeP ym.at ym.ok (by simp) fun hlt=>?_
  simp only [ym]
  apply jA
  simp [ym.r0]
  apply jB
  simp [ym.r1]
  refine AX.pblock (AX.loop (EaInv obE yr2 y73 l y7f y7z H) l.length ⟨_,_,.refl _ _,0,by omega,by omega,rfl,.refl _,hlt,by simp⟩ ?_)
  rintro m F X ⟨i,hi,rfl,hch,X1,L1,rfl⟩
  simp only [ym.l0]
  apply jA
  simp [ym.r2]
  refine AX.seq (AX.pcond rfl (fun hd=>AX.skip ?_) (fun hd=>AX.exit ?_))
  case refine_2=>
    simp at hd
    rw [yl8 hd] at hch
    simp
    apply jA
    simp [ym.r10]
    apply jD
    simp [hch]
    exact ⟨X1,.refl _⟩
  simp at hd
  have hx:=hs _ (List.getElem_mem hd)
  rw [yic hd] at hch
  have hg:l[i]?=some l[i]:=List.getElem?_eq_getElem hd
  simp
  generalize l[i]=x at *
  apply jC
  simp [ym.r3,hg,y73,ya4,ss]
  have X4:=X1.trans (yjl L1 (.cells [.s [],.s [],.sl none 0 0] 3) (.cells [.s x.name,.s x.kinds,.fs (x.marks.map ya4)] 3))
  have L4:=lt2 L1 (.cells [.s [],.s [],.sl none 0 0] 3) (.cells [.s x.name,.s x.kinds,.fs (x.marks.map ya4)] 3)
  have G4:((X.add (.cells [.s [],.s [],.sl none 0 0] 3)).upd X.next (.cells [.s x.name,.s x.kinds,.fs (x.marks.map ya4)] 3)).get X.next=some (.cells [.s x.name,.s x.kinds,.fs (x.marks.map ya4)] 3):=by simp
  generalize (X.add (.cells [.s [],.s [],.sl none 0 0] 3)).upd X.next (.cells [.s x.name,.s x.kinds,.fs (x.marks.map ya4)] 3)=Z at *
  generalize X.next=id at *
  apply jB
  simp [ym.r4,G4]
  refine AC.fix (ynu x (by have:=hx.1;omega) (by have:=hx.2.1;omega) (by have:=hx.2.2.1;omega) (fun m hm=>by have:=hx.2.2.2 m hm;omega) _) ?_
  simp
  apply jA
  simp [ym.r5]
  refine AX.pcond rfl (fun he=>?_) (fun he=>AX.skip ?_)
  · simp at he
    rw [if_pos he] at hch
    apply jA
    simp [ym.r6]
    apply jD
    simp [hch]
    exact ⟨X4,.refl _⟩
  simp at he
  rw [if_neg (by simp [he])] at hch
  simp
  refine AX.testD (yj7 yr2 (pv l i) x) [(0,.fs (l.map y73)),(1,.fn y7f []),(2,.fn y7z []),(10,.fs (l.map y73)),(11,.i .i64 l.length),(12,.i .i64 i),(35,.b (yj7 yr2 (pv l i) x))] ?_ rfl (fun hf=>?_) (fun hf=>AX.skip ?_)
  · cases i with
    | zero=>simp [ym.r7,pv,yj7]
    | succ j=>
      have hj:l[j]?=some l[j]:=List.getElem?_eq_getElem (by omega)
      have hwj:IntKind.i64.wrap (j:Int)=(j:Int):=y2w (by omega) (by omega)
      have e1:yj7 yr2 (pv l (j+1)) x=decide (0≤yr2 l[j] x):=by simp [pv,yj7,hj]
      have hy:=hs _ (List.getElem_mem (show j<l.length by omega))
      generalize l[j]=y at *
      rw [e1]
      simp [ym.r7,hwj,hj,hg,G4,y73,ya4,ss]
      refine y5q _ (fun H2=>byObj_ok y x H2) ?_
      simp [yr2,y73]
      all_goals rfl
  · apply jA
    simp [ym.r8]
    apply jD
    rw [if_pos hf] at hch
    simp [hch]
    exact ⟨X4,.refl _⟩
  rw [if_neg (by simp [hf])] at hch
  simp
  apply jE
  simp [ym.r9,y4v hd hl]
  exact ⟨l.length-(i+1),by omega,_,_,.refl _ _,i+1,by omega,rfl,hch,X4,L4,by simp⟩
theorem yrx (l:List Fu) (hl:l.length≤9223372036854775807) (hs:∀x∈l,fuS x) (H:Hp):AC Tryz.prog y7t [.fs (l.map yaa),.fn y6r [],.fn y8h []] H (fun v H'=>v=.i .i64 (chk fuE cmpF none l)∧H'=H):=by
  refine AC.codeP yq.at yq.ok (by simp) fun hlt=>?_
  simp only [yq]
  apply jA
  simp [yq.r0]
  apply jB
  simp [yq.r1]
  refine AX.pblock (AX.loop (EaInv fuE cmpF yaa l y6r y8h H) l.length ⟨_,_,.refl _ _,0,by omega,by omega,rfl,.refl _,hlt,by simp⟩ ?_)
  rintro m F X ⟨i,hi,rfl,hch,X1,L1,rfl⟩
  simp only [yq.l0]
  apply jA
  simp [yq.r2]
  refine AX.seq (AX.pcond rfl (fun hd=>AX.skip ?_) (fun hd=>AX.exit ?_))
  case refine_2=>
    simp at hd
    rw [yl8 hd] at hch
    simp
    apply jA
    simp [yq.r10]
    apply jD
    simp [hch]
    exact ⟨X1,.refl _⟩
  simp at hd
  have hx:=hs _ (List.getElem_mem hd)
  rw [yic hd] at hch
  have hg:l[i]?=some l[i]:=List.getElem?_eq_getElem hd
  simp
  generalize l[i]=x at *
  apply jC
  simp [yq.r3,hg,yaa,ya4,ss]
  have X4:=X1.trans (yjl L1 (.cells [.s [],.s [],.s []] 3) (.cells [.s x.name,.s x.kinds,.s x.ret] 3))
  have L4:=lt2 L1 (.cells [.s [],.s [],.s []] 3) (.cells [.s x.name,.s x.kinds,.s x.ret] 3)
  have G4:((X.add (.cells [.s [],.s [],.s []] 3)).upd X.next (.cells [.s x.name,.s x.kinds,.s x.ret] 3)).get X.next=some (.cells [.s x.name,.s x.kinds,.s x.ret] 3):=by simp
  generalize (X.add (.cells [.s [],.s [],.s []] 3)).upd X.next (.cells [.s x.name,.s x.kinds,.s x.ret] 3)=Z at *
  generalize X.next=id at *
  apply jB
  simp [yq.r4,G4]
  refine AC.fix (yk2 x (by have:=hx.1;omega) (by have:=hx.2;omega) _) ?_
  simp
  apply jA
  simp [yq.r5]
  refine AX.pcond rfl (fun he=>?_) (fun he=>AX.skip ?_)
  · simp at he
    rw [if_pos he] at hch
    apply jA
    simp [yq.r6]
    apply jD
    simp [hch]
    exact ⟨X4,.refl _⟩
  simp at he
  rw [if_neg (by simp [he])] at hch
  simp
  refine AX.testD (yj7 cmpF (pv l i) x) [(0,.fs (l.map yaa)),(1,.fn y6r []),(2,.fn y8h []),(10,.fs (l.map yaa)),(11,.i .i64 l.length),(12,.i .i64 i),(35,.b (yj7 cmpF (pv l i) x))] ?_ rfl (fun hf=>?_) (fun hf=>AX.skip ?_)
  · cases i with
    | zero=>simp [yq.r7,pv,yj7]
    | succ j=>
      have hj:l[j]?=some l[j]:=List.getElem?_eq_getElem (by omega)
      have hwj:IntKind.i64.wrap (j:Int)=(j:Int):=y2w (by omega) (by omega)
      have e1:yj7 cmpF (pv l (j+1)) x=decide (0≤cmpF l[j] x):=by simp [pv,yj7,hj]
      have hy:=hs _ (List.getElem_mem (show j<l.length by omega))
      generalize l[j]=y at *
      rw [e1]
      simp [yq.r7,hwj,hj,hg,G4,yaa,ya4,ss]
      refine y5q _ (fun H2=>byFn_ok y x H2) ?_
      simp [cmpF,yaa]
      all_goals rfl
  · apply jA
    simp [yq.r8]
    apply jD
    rw [if_pos hf] at hch
    simp [hch]
    exact ⟨X4,.refl _⟩
  rw [if_neg (by simp [hf])] at hch
  simp
  apply jE
  simp [yq.r9,y4v hd hl]
  exact ⟨l.length-(i+1),by omega,_,_,.refl _ _,i+1,by omega,rfl,hch,X4,L4,by simp⟩
theorem yo2 (l:List Cn) (hl:l.length≤9223372036854775807) (hs:∀x∈l,cnS x) (H:Hp):AC Tryz.prog y7h [.fs (l.map y85),.fn y9a [],.fn y74 []] H (fun v H'=>v=.i .i64 (chk cnE ynk none l)∧H'=H):=by
  refine AC.codeP yn.at yn.ok (by simp) fun hlt=>?_
  simp only [yn]
  apply jA
  simp [yn.r0]
  apply jB
  simp [yn.r1]
  refine AX.pblock (AX.loop (EaInv cnE ynk y85 l y9a y74 H) l.length ⟨_,_,.refl _ _,0,by omega,by omega,rfl,.refl _,hlt,by simp⟩ ?_)
  rintro m F X ⟨i,hi,rfl,hch,X1,L1,rfl⟩
  simp only [yn.l0]
  apply jA
  simp [yn.r2]
  refine AX.seq (AX.pcond rfl (fun hd=>AX.skip ?_) (fun hd=>AX.exit ?_))
  case refine_2=>
    simp at hd
    rw [yl8 hd] at hch
    simp
    apply jA
    simp [yn.r10]
    apply jD
    simp [hch]
    exact ⟨X1,.refl _⟩
  simp at hd
  have hx:=hs _ (List.getElem_mem hd)
  rw [yic hd] at hch
  have hg:l[i]?=some l[i]:=List.getElem?_eq_getElem hd
  simp
  generalize l[i]=x at *
  apply jC
  simp [yn.r3,hg,y85,ya4,ss]
  have X4:=X1.trans (yjl L1 (.cells [.i .i64 0,.s [],.s [],.i .i64 0,.s [],.sl none 0 0] 6) (.cells [.i .i64 x.op,.s x.a,.s x.b,.i .i64 x.k,.s x.tag,.fs (x.args.map fun a=>[.s a])] 6))
  have L4:=lt2 L1 (.cells [.i .i64 0,.s [],.s [],.i .i64 0,.s [],.sl none 0 0] 6) (.cells [.i .i64 x.op,.s x.a,.s x.b,.i .i64 x.k,.s x.tag,.fs (x.args.map fun a=>[.s a])] 6)
  have G4:((X.add (.cells [.i .i64 0,.s [],.s [],.i .i64 0,.s [],.sl none 0 0] 6)).upd X.next (.cells [.i .i64 x.op,.s x.a,.s x.b,.i .i64 x.k,.s x.tag,.fs (x.args.map fun a=>[.s a])] 6)).get X.next=some (.cells [.i .i64 x.op,.s x.a,.s x.b,.i .i64 x.k,.s x.tag,.fs (x.args.map fun a=>[.s a])] 6):=by simp
  generalize (X.add (.cells [.i .i64 0,.s [],.s [],.i .i64 0,.s [],.sl none 0 0] 6)).upd X.next (.cells [.i .i64 x.op,.s x.a,.s x.b,.i .i64 x.k,.s x.tag,.fs (x.args.map fun a=>[.s a])] 6)=Z at *
  generalize X.next=id at *
  apply jB
  simp [yn.r4,G4]
  refine AC.fix (con_ok x (by have:=hx.1;omega) (by have:=hx.2.1;omega) (by have:=hx.2.2.1;omega) (by have:=hx.2.2.2.1;omega) (fun a ha=>by have:=hx.2.2.2.2 a ha;omega) _) ?_
  simp
  apply jA
  simp [yn.r5]
  refine AX.pcond rfl (fun he=>?_) (fun he=>AX.skip ?_)
  · simp at he
    rw [if_pos he] at hch
    apply jA
    simp [yn.r6]
    apply jD
    simp [hch]
    exact ⟨X4,.refl _⟩
  simp at he
  rw [if_neg (by simp [he])] at hch
  simp
  refine AX.testD (yj7 ynk (pv l i) x) [(0,.fs (l.map y85)),(1,.fn y9a []),(2,.fn y74 []),(10,.fs (l.map y85)),(11,.i .i64 l.length),(12,.i .i64 i),(35,.b (yj7 ynk (pv l i) x))] ?_ rfl (fun hf=>?_) (fun hf=>AX.skip ?_)
  · cases i with
    | zero=>simp [yn.r7,pv,yj7]
    | succ j=>
      have hj:l[j]?=some l[j]:=List.getElem?_eq_getElem (by omega)
      have hwj:IntKind.i64.wrap (j:Int)=(j:Int):=y2w (by omega) (by omega)
      have e1:yj7 ynk (pv l (j+1)) x=decide (0≤ynk l[j] x):=by simp [pv,yj7,hj]
      have hy:=hs _ (List.getElem_mem (show j<l.length by omega))
      generalize l[j]=y at *
      rw [e1]
      simp [yn.r7,hwj,hj,hg,G4,y85,ya4,ss]
      refine y5q _ (fun H2=>yll y x (by have:=hy.2.2.2.1;omega) (by have:=hx.2.2.2.1;omega) H2) ?_
      simp [ynk,y85]
      all_goals rfl
  · apply jA
    simp [yn.r8]
    apply jD
    rw [if_pos hf] at hch
    simp [hch]
    exact ⟨X4,.refl _⟩
  rw [if_neg (by simp [hf])] at hch
  simp
  apply jE
  simp [yn.r9,y4v hd hl]
  exact ⟨l.length-(i+1),by omega,_,_,.refl _ _,i+1,by omega,rfl,hch,X4,L4,by simp⟩
theorem yrn (s:Sy) (hs:syS s) (H:Hp):AC Tryz.prog yap [.agg (yaw s)] H (fun v H'=>v=.i .i64 (sysE s)∧H'=H):=by
  obtain ⟨lo,lf,lc,ho,hf,hcn⟩:=hs
  refine AC.code y1n.at y1n.ok ?_
  simp only [y1n]
  apply jA
  simp [y1n.r0,yaw]
  refine AX.seq ?_
  refine AX.test (decide (600<s.objs.length)||decide (600<s.fns.length)||decide (6000<s.cons.length)) [(1,.fp (yaw s) 0),(20,.b (decide (600<s.objs.length)||decide (600<s.fns.length)||decide (6000<s.cons.length)))] ?_ rfl (fun hb=>?_) (fun hb=>AX.skip ?_)
  · by_cases h1:600<s.objs.length
    · simp [y1n.r1,yaw,h1]
    by_cases h2:600<s.fns.length
    · simp [y1n.r1,yaw,h1,h2]
    · simp [y1n.r1,yaw,h1,h2]
  · apply jA
    simp [y1n.r2]
    apply jD
    simp at hb
    have:600<s.objs.length∨600<s.fns.length∨6000<s.cons.length:=by omega
    simp [sysE,this]
  simp at hb
  have hn:¬(600<s.objs.length∨600<s.fns.length∨6000<s.cons.length):=by omega
  have eS:sysE s=orI [chk obE yr2 none s.objs,chk fuE cmpF none s.fns,chk cnE ynk none s.cons]:=by unfold sysE;rw [if_neg hn]
  rw [eS]
  simp
  apply jB
  simp [y1n.r3,yaw]
  refine AC.fix (yo1 s.objs (by omega) ho _) ?_
  generalize chk obE yr2 none s.objs=a
  simp
  apply jA
  simp [y1n.r4]
  refine AX.pcond rfl (fun hd=>?_) (fun hd=>AX.skip ?_)
  · simp at hd
    apply jA
    simp [y1n.r5]
    apply jD
    simp [or1 _ _ hd]
  simp at hd
  rw [or0 _ _ hd]
  simp
  apply jB
  simp [y1n.r6]
  refine AC.fix (yrx s.fns (by omega) hf _) ?_
  generalize chk fuE cmpF none s.fns=b
  simp
  apply jA
  simp [y1n.r7]
  refine AX.pcond rfl (fun he=>?_) (fun he=>AX.skip ?_)
  · simp at he
    apply jA
    simp [y1n.r8]
    apply jD
    simp [or1 _ _ he]
  simp at he
  rw [or0 _ _ he]
  simp
  apply jA
  simp [y1n.r9]
  refine AC.fix (yo2 s.cons (by omega) hcn _) ?_
  generalize chk cnE ynk none s.cons=c
  simp
  apply jD
  by_cases h:c=0 <;> simp [orI,h]
theorem ypy (a b:Str):(ltB a b||a == b)=!ltB b a:=by
  rcases ykx a b with h | h | h
  · rw [h,yf4 h];rfl
  · subst h
    have:ltB a a=false:=by cases hh:ltB a a with | false=>rfl | true=>exact absurd hh (y92 a)
    rw [this];simp
  · rw [h,yf4 h]
    have:a≠b:=fun e=>by subst e;exact y92 _ h
    simp [this]
def RsInv (l:List Str) (H:Hp) (m:Nat) (F:Fr) (X:Hp):Prop:=
  ∃i,1≤i∧(i≤l.length∨i=1)∧m=l.length+1-i∧(∀j,j+1<i→ltB (l.getD j []) (l.getD (j+1) [])=true)∧X=H∧F=[(0,ss l),(3,.i .i64 i)]
theorem yp8 {fid:Go.FuncId} {fn:Go.Func} (hf:Tryz.prog.funcs[fid]?=some fn) (hok:y1o Tryz.prog fn y1x=true) (l:List Str) (hl:l.length≤9223372036854775000) (H:Hp):AC Tryz.prog fid [ss l] H (fun v H'=>v=.b (risB l)∧H'=H):=by
  refine AC.code hf hok ?_
  simp only [y1x]
  apply jA
  simp [y1x.r0]
  apply jB
  simp [y1x.r1]
  refine AX.pblock (AX.loop (RsInv l H) l.length ⟨_,_,.refl _ _,1,by omega,.inr rfl,by omega,by omega,rfl,rfl⟩ ?_)
  rintro m F X ⟨i,h1,hi,rfl,hx,rfl,rfl⟩
  simp only [y1x.l0]
  apply jB
  simp [y1x.r2,ss]
  refine AX.pcond rfl (fun hd=>AX.skip ?_) (fun hd=>AX.exit ?_)
  case refine_2=>
    simp at hd
    simp
    apply jA
    simp [y1x.r6]
    apply jD
    have:risB l=true:=decide_eq_true fun j hj=>hx j (by omega)
    simp [this]
  simp at hd
  simp
  have w1:Go.IntKind.i64.wrap ((i:Int)-1)=((i-1:Nat):Int):=by rw [y2w (by omega) (by omega)];omega
  have hd1:i-1<l.length:=by omega
  refine AX.seq (AX.pblock (AX.seq (AX.drw ?_)))
  simp [y1x.r3,hd,w1,hd1]
  refine AX.pcond rfl (fun hb=>?_) (fun hb=>AX.skip ?_)
  · apply jA
    simp [y1x.r4]
    apply jD
    have hb':ltB l[i-1] l[i]=false:=by
      have:=ypy l[i] l[i-1]
      cases hh:ltB l[i-1] l[i] with
      | false=>rfl
      | true=>rw [hh] at this;simp at this hb;simp [this] at hb
    have:risB l=false:=decide_eq_false fun hh=>by
      have:=hh (i-1) (by omega)
      simp [show i-1+1=i by omega,hd,hd1,hb'] at this
    simp [this]
  simp
  have hb':ltB l[i-1] l[i]=true:=by
    have:=ypy l[i] l[i-1]
    cases hh:ltB l[i-1] l[i] with
    | true=>rfl
    | false=>rw [hh] at this;simp at this hb;simp [hb] at this
  apply jE
  simp [y1x.r5,y7a (i:=i) (by omega)]
  refine ⟨l.length+1-(i+1),by omega,_,_,.refl _ _,i+1,by omega,by omega,rfl,fun j hj=>?_,rfl,by simp [ss]⟩
  by_cases e:j+1<i
  · exact hx j e
  · have:j=i-1:=by omega
    subst this
    simpa [show i-1+1=i by omega,hd,hd1] using hb'
theorem ym4 (l:List Str) (hl:l.length≤9223372036854775000) (H:Hp):AC Tryz.prog y8i [ss l] H (fun v H'=>v=.b (risB l)∧H'=H):=yp8 y1x.at y1x.ok l hl H
theorem idxOb.ok:y1o Tryz.prog Tryz.f124 (ydb 3 true)=true:=by kernel_rfl
theorem conOb.ok:y1o Tryz.prog Tryz.f60 (conF y4s)=true:=by kernel_rfl
theorem idxFu.ok:y1o Tryz.prog Tryz.f125 (ydb 3 true)=true:=by kernel_rfl
theorem conFu.ok:y1o Tryz.prog Tryz.f62 (conF y50)=true:=by kernel_rfl
theorem conOb_ok (l:List Ob) (f:Go.FuncId) (caps:List V) (p:Ob→Bool) (hl:l.length≤9223372036854775807) (H:Hp) (hc:∀x∈l,AC Tryz.prog f (.agg (y73 x)::caps) H (fun v H'=>v=.b (p x)∧H'=H)):
    AC Tryz.prog y4l [.fs (l.map y73),.fn f caps] H (fun v H'=>v=.b (l.any p)∧H'=H):=
  yr1 y2z.at conOb.ok (yq4 y10.at idxOb.ok l y73 (fun x _=>rfl) (fun h=>by cases h) f caps p hl H hc)
theorem conFu_ok (l:List Fu) (f:Go.FuncId) (caps:List V) (p:Fu→Bool) (hl:l.length≤9223372036854775807) (H:Hp) (hc:∀x∈l,AC Tryz.prog f (.agg (yaa x)::caps) H (fun v H'=>v=.b (p x)∧H'=H)):
    AC Tryz.prog y4p [.fs (l.map yaa),.fn f caps] H (fun v H'=>v=.b (l.any p)∧H'=H):=
  yr1 y34.at conFu.ok (yq4 y17.at idxFu.ok l yaa (fun x _=>rfl) (fun h=>by cases h) f caps p hl H hc)
theorem ck11_ok (o:Ob) (id:Nat) (n:Str) (H:Hp) (hb:H.get id=some (.cells [.s n] 1)):AC Tryz.prog y70 [.agg (y73 o),.p (some (id,0,1))] H (fun v H'=>v=.b (decide (o.name=n))∧H'=H):=by
  refine AC.code y3c.at y3c.ok ?_
  simp only [y3c]
  apply jA
  simp [y3c.r0,y73]
  apply jA
  simp [y3c.r1,hb]
  apply jD
  simp
theorem ck12_ok (o:Fu) (id:Nat) (n:Str) (H:Hp) (hb:H.get id=some (.cells [.s n] 1)):AC Tryz.prog y6z [.agg (yaa o),.p (some (id,0,1))] H (fun v H'=>v=.b (decide (o.name=n))∧H'=H):=by
  refine AC.code y3b.at y3b.ok ?_
  simp only [y3b]
  apply jA
  simp [y3b.r0,yaa]
  apply jA
  simp [y3b.r1,hb]
  apply jD
  simp
def suS (s:Su):Prop:=s.name.length≤140737488355328∧s.gives.length≤140737488355328∧s.wants.length≤140737488355328∧s.keeps.length≤140737488355328∧(∀k∈s.keeps,k.length≤140737488355328)∧syS s.sys
theorem ck1_ok (s:Su) (hs:suS s) (n:Str) (id:Nat) (H:Hp) (hb:H.get id=some (.cells (y6i s) 7)):AC Tryz.prog y49 [.s n,.p (some (id,0,7))] H (fun v H'=>v=.b (yki s.sys n)∧H'=H):=by
  obtain ⟨_,_,_,_,_,q1,q2,_⟩:=hs
  refine AC.codeP y3t.at y3t.ok (yqa _) fun hlt=>?_
  simp only [y3t]
  apply jA
  simp [y3t.r0]
  have hne:id≠H.next:=by have:=hlt _ _ hb;omega
  have hb':(H.add (.cells [.s n] 1)).get id=some (.cells (y6i s) 7):=by simp [hne,hb]
  have hb2:(H.add (.cells [.s n] 1)).get H.next=some (.cells [.s n] 1):=by simp
  have hE:=Hp.Ext.add hlt (.cells [.s n] 1)
  generalize H.add (.cells [.s n] 1)=X at *
  generalize H.next=k at *
  refine AX.seq (AX.join (F1:=[(3,.b (yki s.sys n))]) (H1:=X) (AX.reg ?_) ?_)
  · have h1:=conOb_ok s.sys.objs y70 [.p (some (k,0,1))] (fun o=>decide (o.name=n)) (by omega) X (fun o _=>ck11_ok o k n X hb2)
    have h2:=conFu_ok s.sys.fns y6z [.p (some (k,0,1))] (fun o=>decide (o.name=n)) (by omega) X (fun o _=>ck12_ok o k n X hb2)
    simp [y3t.r1,hb',y6i]
    refine AC.fix h1 ?_
    by_cases ha:s.sys.objs.any (fun o=>decide (o.name=n))=true
    · simp [ha,yki]
    · simp only [Bool.not_eq_true] at ha
      simp [ha,hb',y6i]
      refine AC.fix h2 ?_
      simp [yki,ha]
  apply jD
  simp
  exact ⟨hE,.refl _⟩
theorem ck2_ok (s:Su) (hs:suS s) (n:Str) (id k:Nat) (H:Hp) (hb:H.get id=some (.cells (y6i s) 7)) (hk:H.get k=some (.cells [.fn y49 [.p (some (id,0,7))]] 1)):
    AC Tryz.prog y7n [.s n,.p (some (k,0,1))] H (fun v H'=>v=.b (!yki s.sys n)∧H'=H):=by
  refine AC.code y3s.at y3s.ok ?_
  simp only [y3s]
  apply jA
  simp [y3s.r0]
  apply jA
  simp [y3s.r1,hk]
  refine AC.fix (ck1_ok s hs n id H hb) ?_
  simp
  apply jD
  simp
theorem ck3_ok (s:Su) (hs:suS s) (n:Str) (id:Nat) (H:Hp) (hb:H.get id=some (.cells (y6i s) 7)):AC Tryz.prog y7m [.s n,.p (some (id,0,7))] H (fun v H'=>v=.b (decide (n∈s.wants))∧H'=H):=by
  obtain ⟨_,_,q,_⟩:=hs
  refine AC.code y3r.at y3r.ok ?_
  simp only [y3r]
  apply jA
  simp [y3r.r0]
  apply jA
  simp [y3r.r1,hb,y6i]
  refine AC.fix (ylp s.wants n (by omega) _) ?_
  simp
  apply jD
  simp
theorem ck4_ok (n:Str) (hn:n.length≤140737488355328) (H:Hp):AC Tryz.prog y8z [.s n] H (fun v H'=>v=.b (!y9p n)∧H'=H):=by
  refine AC.code y3q.at y3q.ok ?_
  simp only [y3q]
  apply jA
  simp [y3q.r0]
  apply jA
  simp [y3q.r1]
  refine AC.fix (y86 n (by omega) _) ?_
  simp
  apply jD
  simp
def yfl (bs:Str):Str:=bs++yo4 (yce 11994318 bs)
def y6u:Str:=[119,101,102,116]
def yby (T:List Str) (b:Str):Str:=y6s 1++(yb3 T++(y6s b.length++b))
def yb6 (s:Su):Str:=yfl (y6u++yby (y3i s) (yij (y3i s) s).1)
def ygl (s:Su):Str × Int:=if suE s≠0 then ([],suE s) else if 6000<(y3i s).length then ([],4) else if (y3i s).any (fun t=>decide (1000<t.length)) then ([],9) else if 200000<(yb6 s).length then ([],9) else (yb6 s,0)
def suF (s:Su):Prop:=suS s∧(evS s).length≤1000000
theorem ye8 {pool:List Str} (hl:pool.length≤268435456) (hr:y3o pool):∀(es:List Ev) (τ:Qw),τ.e=0→(∀n,Ev.num n∈es→0≤n∧n≤268435456)→(∀t,Ev.txt t∈es→t∈pool)→(ycw pool τ es).e=0
  | [],τ,h,_,_=>h
  | .num n::es,τ,h,hn,ht=>by
    rw [y9t]
    refine ye8 hl hr es _ ?_ (fun m hm=>hn m (by simp [hm])) (fun t hm=>ht t (by simp [hm]))
    have:=hn n (by simp)
    simp only [yk8,yb1,h,ne_eq,not_true_eq_false,if_false]
    rw [if_neg (by omega)]
  | .txt t::es,τ,h,hn,ht=>by
    rw [y9t]
    refine ye8 hl hr es _ ?_ (fun m hm=>hn m (by simp [hm])) (fun t hm=>ht t (by simp [hm]))
    have hm:=ht t (by simp)
    have hp:=(List.getElem?_eq_some_iff.1 ((ybf hr t).1 hm)).1
    simp only [yk8,yko,hm,not_true_eq_false,false_and,if_false,yb1,h,ne_eq,ybe,if_true]
    rw [if_neg (by omega)]
theorem yg5 {α:Type} {f:α→List Ev} {l:List α} {x:Ev} (h:x∈evL f l):x=.num l.length∨∃a∈l,x∈f a:=by
  simp only [evL,List.mem_cons,List.mem_flatMap] at h
  exact h
theorem ymf {n:Nat}:∀{l p:List Mk},ypt n p l=true→∀m∈l,0≤m.pos∧m.pos<n
  | [],_,_,m,h=>by cases h
  | a::r,p,h,m,hm=>by
    simp only [ypt,Bool.and_eq_true] at h
    rcases List.mem_cons.1 hm with rfl | hm
    · have:=h.1
      simp only [mkB,Bool.and_eq_true,decide_eq_true_eq] at this
      exact ⟨this.1.1.1.1,this.1.1.1.2⟩
    · exact ymf h.2 m hm
theorem yau {α:Type} (f:α→List Ev) (l:List α) (hf:∀x,1≤(f x).length):l.length≤(evL f l).length:=by
  have:l.length≤(l.flatMap f).length:=by
    induction l with
    | nil=>simp
    | cons a r ih=>
      have:=hf a
      rw [List.flatMap_cons,List.length_append,List.length_cons];omega
  rw [evL,List.length_cons];omega
theorem yi1 {α:Type} {f:α→List Ev} {l:List α} {x:α} (h:x∈l):(f x).length≤(evL f l).length:=by
  have:(f x).length≤(l.flatMap f).length:=by
    induction l with
    | nil=>cases h
    | cons a r ih=>
      rw [List.flatMap_cons,List.length_append]
      rcases List.mem_cons.1 h with rfl | h
      · omega
      · have:=ih h;omega
  rw [evL,List.length_cons];omega
theorem ymc (s:Su) (he:suE s=0) (hb:(evS s).length≤1000000):∀n,Ev.num n∈evS s→0≤n∧n≤268435456:=by
  have hsy:sysE s.sys=0:=by
    simp only [suE] at he
    split at he
    · cases he
    · simp only [orI] at he
      split at he
      · rename_i h1;exact (h1 he).elim
      · rename_i h1;simpa using h1
  have h3:chk obE yr2 none s.sys.objs=0∧chk cnE ynk none s.sys.cons=0:=by
    simp only [sysE] at hsy
    split at hsy
    · cases hsy
    · simp only [orI] at hsy
      split at hsy
      · rename_i h1;exact (h1 hsy).elim
      · rename_i h1
        split at hsy
        · rename_i h2;exact (h2 hsy).elim
        · split at hsy
          · rename_i h4;exact (h4 hsy).elim
          · rename_i h4;exact ⟨by simpa using h1,by simpa using h4⟩
  have ho:=yl9 h3.1
  have hc:=yl9 h3.2
  have hsz:(evS s).length=1+((evL evW s.gives).length+((evL evW s.wants).length+((evL evW s.keeps).length+((evL evO s.sys.objs).length+((evL evF s.sys.fns).length+(evL evC s.sys.cons).length))))):=by simp [evS];omega
  have lw:∀l:List Str,l.length≤(evL evW l).length:=fun l=>yau evW l (fun x=>by simp [evW])
  have lo:=yau evO s.sys.objs (fun x=>by simp [evO])
  have lf:=yau evF s.sys.fns (fun x=>by simp [evF])
  have lc:=yau evC s.sys.cons (fun x=>by simp [evC])
  intro n hn
  simp only [evS,List.mem_cons,List.mem_append] at hn
  have tw:∀l:List Str,l.length≤1000000→Ev.num n∈evL evW l→0≤n∧n≤268435456:=fun l hl h=>by
    rcases yg5 h with h | ⟨a,_,h⟩
    · injection h with h;subst h;omega
    · simp [evW] at h
  have w1:=lw s.gives
  have w2:=lw s.wants
  have w3:=lw s.keeps
  rcases hn with h | h | h | h | h | h | h
  · cases h
  · exact tw _ (by omega) h
  · exact tw _ (by omega) h
  · exact tw _ (by omega) h
  · rcases yg5 h with h | ⟨o,hmo,h⟩
    · injection h with h;subst h;omega
    · have hol:=yi1 (f:=evO) hmo
      simp only [evO,List.mem_cons] at h
      rcases h with h | h | h
      · cases h
      · cases h
      · have hm1:=yau evM o.marks (fun x=>by simp [evM])
        have hm2:(evL evM o.marks).length≤(evO o).length:=by simp [evO];omega
        rcases yg5 h with h | ⟨m,hmm,h⟩
        · injection h with h;subst h;omega
        · have:=ho o hmo
          simp only [obE] at this
          split at this
          · cases this
          · split at this
            · cases this
            · split at this
              · cases this
              · rename_i hk
                split at this
                · rename_i hmk
                  have hp:=ymf hmk m hmm
                  simp only [evM,List.mem_cons,List.not_mem_nil,or_false] at h
                  rcases h with h | h
                  · injection h with h;subst h
                    have:o.kinds.length≤64:=by
                      by_cases hq:kpB o.kinds=true∧1≤o.kinds.length∧o.kinds.length≤64
                      · exact hq.2.2
                      · exact (hk hq).elim
                    omega
                  · cases h
                · cases this
  · rcases yg5 h with h | ⟨f,hmf,h⟩
    · injection h with h;subst h;omega
    · simp [evF] at h
  · rcases yg5 h with h | ⟨c,hmc,h⟩
    · injection h with h;subst h;omega
    · have hcl:=yi1 (f:=evC) hmc
      have hce:=hc c hmc
      have ha1:=lw c.args
      have ha2:(evL evW c.args).length≤(evC c).length:=by simp [evC];omega
      simp only [evC,List.mem_cons] at h
      have hop:1≤c.op∧c.op≤6∧0≤c.k∧c.k≤64:=by
        unfold cnE at hce
        by_cases h1:c.op<1∨6<c.op
        · rw [if_pos h1] at hce;cases hce
        rw [if_neg h1] at hce
        by_cases h2:¬(y9p c.a=true∧(c.op=6→yev c.a=true)∧(if c.op=1 then yen c.b=true else y9p c.b=true))
        · rw [if_pos h2] at hce;cases hce
        rw [if_neg h2] at hce
        by_cases h6:c.op=6
        · rw [if_pos h6] at hce
          by_cases hcb:ybt c=true
          · simp only [ybt] at hcb
            split at hcb
            · cases hcb
            · simp only [Bool.and_eq_true,decide_eq_true_eq] at hcb
              have:=hcb.1.1.1.1.1
              omega
          · rw [if_neg hcb] at hce;cases hce
        rw [if_neg h6] at hce
        by_cases h5:c.op=5
        · rw [if_pos h5] at hce
          by_cases h7:c.args=[]∧0≤c.k∧c.k≤64∧ylz c.tag=true
          · omega
          · rw [if_neg h7] at hce;cases hce
        rw [if_neg h5] at hce
        by_cases h7:c.args=[]∧c.k=0∧c.tag=[]
        · omega
        · rw [if_neg h7] at hce;cases hce
      rcases h with h | h | h | h | h | h
      · injection h with h;subst h;omega
      · cases h
      · cases h
      · injection h with h;subst h;omega
      · cases h
      · exact tw _ (by omega) h
theorem yfg:∀{es:List Ev} {t:Str},Ev.txt t∈es↔t∈txs es
  | [],t=>by simp [txs]
  | .num n::es,t=>by simp [txs,yfg (es:=es)]
  | .txt s::es,t=>by simp [txs,yfg (es:=es)]
theorem yhp:∀es:List Ev,(txs es).length≤es.length
  | []=>by simp [txs]
  | .num n::es=>by have:=yhp es;simp [txs];omega
  | .txt s::es=>by have:=yhp es;simp [txs];omega
theorem rec_good (s:Su) (he:suE s=0) (hb:(evS s).length≤1000000):(yij (y3i s) s).2=0∧(ycw (y3i s) qw0 (evS s)).e=0:=by
  have h0:(ycw (y3i s) qw0 (evS s)).e=0:=by
    refine ye8 ?_ (y7w _) _ _ rfl (ymc s he hb) (fun t ht=>ybl.2 (yfg.1 ht))
    have h1:=yc3 (txs (evS s)) (txs (evS s)).length
    rw [List.take_length] at h1
    have h2:=yhp (evS s)
    omega
  exact ⟨by simp only [yij,h0];rfl,h0⟩
end Go.Proofs.YthmkcebbeehbeaaGreatDoor
