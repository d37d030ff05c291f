/- Part 29 of the proof of the laws of the queries: S20c, S20d, S20e. -/
import Derived.Test.YthmkcebbeehbeaaGreatDoorXTw27
import Derived.Test.YthmkcebbeehbeaaGreatDoorXTw28
set_option linter.unusedSimpArgs false
set_option linter.unusedVariables false
namespace Go.Proofs.YthmkcebbeehbeaaGreatDoor
open Am C
theorem byObj_ok (a b:Ob) (H:Hp):AC Tryz.prog y7z [.agg (y73 a),.agg (y73 b)] H (fun v H'=>v=.i .i64 (yg9 a.name b.name)∧H'=H):=by
  refine AC.code y47.at y47.ok ?_
  simp only [y47]
  apply jA
  simp [y47.r0,y73]
  apply jA
  simp [y47.r1]
  refine AC.fix (y95 _ _ _) ?_
  simp
  apply jD
  simp
theorem byFn_ok (a b:Fu) (H:Hp):AC Tryz.prog y8h [.agg (yaa a),.agg (yaa b)] H (fun v H'=>v=.i .i64 (yg9 a.name b.name)∧H'=H):=by
  refine AC.code y4e.at y4e.ok ?_
  simp only [y4e]
  apply jA
  simp [y4e.r0,yaa]
  apply jA
  simp [y4e.r1]
  refine AC.fix (y95 _ _ _) ?_
  simp
  apply jD
  simp
theorem yk2 (f:Fu) (h1:f.name.length≤9223372036854775806) (h2:f.kinds.length≤9223372036854775807) (H:Hp):AC Tryz.prog y6r [.agg (yaa f)] H (fun v H'=>v=.i .i64 (fuE f)∧H'=H):=by
  refine AC.codeP y1j.at y1j.ok (by simp) fun hlt=>?_
  simp only [y1j]
  apply jA
  simp [y1j.r0,yaa]
  apply jA
  simp [y1j.r1]
  refine AC.fix (ydx f.name h1 _) ?_
  cases hr:yd7 f.name with
  | none=>
    simp [rdV,nv,Nd.cs,Nd.zero]
    apply jC
    simp [y1j.r2]
    refine jG rfl ?_
    apply jA
    simp [y1j.r3]
    apply jD
    simp [fuE,hr]
    exact ⟨yjl hlt _ _,.refl _⟩
  | some d=>
    simp [rdV,nv,Nd.cs]
    apply jC
    by_cases hk:d.kind=4
    · simp [y1j.r2,hk]
      refine jF rfl ?_
      apply jA
      simp [y1j.r4]
      refine AC.fix (ybm f.kinds 6 h2 _) ?_
      have eB:(kpB f.kinds&&decide ((f.kinds.length:Int)≤6))=decide (kpB f.kinds=true∧f.kinds.length≤6):=by
        cases kpB f.kinds <;> simp
      rw [eB]
      by_cases hb:kpB f.kinds=true∧f.kinds.length≤6
      · simp only [hb,decide_true]
        by_cases r1:f.ret=[105]
        · simp [r1]
          refine jF rfl (AX.skip ?_)
          simp
          apply jA
          simp [y1j.r6]
          apply jD
          simp [fuE,hr,hk,hb,retB,r1]
          exact ⟨yjl hlt _ _,.refl _⟩
        by_cases r2:f.ret=[112]
        · simp [r1,r2]
          refine jF rfl (AX.skip ?_)
          simp
          apply jA
          simp [y1j.r6]
          apply jD
          simp [fuE,hr,hk,hb,retB,r2]
          exact ⟨yjl hlt _ _,.refl _⟩
        by_cases r3:f.ret=[118]
        · simp [r1,r2,r3]
          refine jF rfl (AX.skip ?_)
          simp
          apply jA
          simp [y1j.r6]
          apply jD
          simp [fuE,hr,hk,hb,retB,r3]
          exact ⟨yjl hlt _ _,.refl _⟩
        simp [r1,r2,r3,show (f.ret == [105])=false by simpa using r1,show (f.ret == [112])=false by simpa using r2,show (f.ret == [118])=false by simpa using r3]
        refine jG rfl ?_
        apply jA
        simp [y1j.r5]
        apply jD
        simp [fuE,hr,hk,hb,retB,r1,r2,r3]
        exact ⟨yjl hlt _ _,.refl _⟩
      · simp only [hb,decide_false]
        simp
        refine jG rfl ?_
        apply jA
        simp [y1j.r5]
        apply jD
        have:fuE f=5:=by unfold fuE;rw [hr];simp only [hk];rw [if_neg (by simp),if_pos (.inl hb)]
        simp [this]
        exact ⟨yjl hlt _ _,.refl _⟩
    · simp [y1j.r2,hk]
      refine jG rfl ?_
      apply jA
      simp [y1j.r3]
      apply jD
      simp [fuE,hr,hk]
      exact ⟨yjl hlt _ _,.refl _⟩
def CldInv (c:Cn) (l r:Str) (H:Hp) (m:Nat) (F:Fr) (X:Hp):Prop:=
  ∃i,i≤c.args.length∧m=c.args.length-i∧(∀j,j<i→argB (ptrB l r j) (c.args.getD j [])=true)∧X=H∧F=[(3,.s l),(4,.s r),(50,ss c.args),(51,.i .i64 c.args.length),(52,.i .i64 i)]
theorem yr4 (c:Cn) (ht:c.tag.length≤9223372036854775807) (ha:c.args.length≤9223372036854775807) (hx:∀a∈c.args,a.length≤9223372036854775806) (H:Hp):AC Tryz.prog y8g [.agg (y85 c)] H (fun v H'=>v=.b (ybt c)∧H'=H):=by
  refine AC.code yu.at yu.ok ?_
  simp only [yu]
  apply jA
  simp [yu.r0,y85]
  apply jA
  simp [yu.r1]
  refine AC.fix (Cut_ok c.tag ht _) ?_
  rw [ynn]
  unfold cutV
  cases hs:ygo c.tag with
  | none=>
    simp
    apply jB
    simp [yu.r2]
    refine jG rfl ?_
    apply jA
    simp [yu.r3]
    apply jD
    simp
  | some x=>
    obtain ⟨l,r⟩:=x
    have hll:=ym0 hs
    simp
    refine AX.seq ?_
    refine AX.test (!(ye3 l r&&decide (c.k=0)&&decide (c.args.length=l.length+1))) [(1,.fp (y85 c) 0),(3,.s l),(4,.s r),(48,.b (!(ye3 l r&&decide (c.k=0)&&decide (c.args.length=l.length+1))))] ?_ rfl (fun hb=>?_) (fun hb=>AX.skip ?_)
    · have hw:IntKind.i64.wrap ((l.length:Int)+1)=(l.length:Int)+1:=y2w (by omega) (by omega)
      have eB:(kpB l&&decide ((l.length:Int)≤6))=decide (kpB l=true∧l.length≤6):=by
        cases kpB l <;> simp
      by_cases hk:c.k=0
      · simp [yu.r2,hk]
        refine AC.fix (ybm l 6 (by omega) _) ?_
        rw [eB]
        by_cases hq:kpB l=true∧l.length≤6
        · by_cases r0:r=[]
          · by_cases hl:c.args.length=l.length+1
            · simp [hq,r0,ye3,ss,hl,hw,y85,hk]
            · simp [hq,r0,ye3,ss,hl,hw,y85,hk,show ¬(c.args.length:Int)=(l.length:Int)+1 by omega]
          have q0:(r == [])=false:=by simpa using r0
          by_cases r1:r=[105]
          · by_cases hl:c.args.length=l.length+1
            · simp [hq,r1,ye3,ss,hl,hw,y85,hk]
            · simp [hq,r1,ye3,ss,hl,hw,y85,hk,show ¬(c.args.length:Int)=(l.length:Int)+1 by omega]
          have q1:(r == [105])=false:=by simpa using r1
          by_cases r2:r=[112]
          · by_cases hl:c.args.length=l.length+1
            · simp [hq,r2,ye3,ss,hl,hw,y85,hk]
            · simp [hq,r2,ye3,ss,hl,hw,y85,hk,show ¬(c.args.length:Int)=(l.length:Int)+1 by omega]
          have q2:(r == [112])=false:=by simpa using r2
          simp [hq,r0,r1,r2,q0,q1,q2,ye3,y85,hk]
        · have hsf:ye3 l r=false:=by
            unfold ye3
            have:(kpB l&&decide (l.length≤6))=false:=by
              cases hkp:kpB l
              · rfl
              · simp only [hkp,true_and] at hq;simp [hq]
            rw [this];rfl
          simp only [hq,decide_false]
          simp [hsf,y85,hk]
      · simp [yu.r2,hk,y85]
    · apply jA
      simp [yu.r3]
      apply jD
      simp at hb
      simp
      rcases hb with (h | h) | h <;> simp [h]
    simp at hb
    obtain ⟨⟨h1,h2⟩,h3⟩:=hb
    simp [h1,h2,h3]
    apply jB
    simp [yu.r4,y85,ss]
    refine AX.pblock (AX.loop (CldInv c l r H) c.args.length ⟨_,_,.refl _ _,0,by omega,by omega,fun j hj=>by omega,rfl,by simp [ss,h3]⟩ ?_)
    rintro m F X ⟨i,hi,rfl,hn,rfl,rfl⟩
    simp only [yu.l0]
    apply jA
    simp [yu.r5]
    refine AX.seq (AX.pcond rfl (fun hb=>AX.skip ?_) (fun hb=>AX.exit ?_))
    case refine_2=>
      simp at hb
      have:yre l r c.args=true:=List.all_eq_true.2 fun j hj=>hn j (by have:=List.mem_range.1 hj;omega)
      simp
      apply jA
      simp [yu.r13]
      apply jD
      simp [this]
    simp at hb
    simp
    apply jC
    simp [yu.r6,ss,hb]
    apply jA
    simp [yu.r7]
    have hgd:c.args.getD i []=c.args[i]:=by simp [hb]
    have hxa:=hx _ (List.getElem_mem hb)
    generalize c.args[i]=a at *
    refine AX.seq (AX.join (F1:=[(3,.s l),(4,.s r),(7,.s a),(8,.b (ptrB l r i)),(50,ss c.args),(51,.i .i64 c.args.length),(52,.i .i64 i)]) (H1:=X) ?_ ?_)
    · apply jA
      simp [yu.r8]
      refine AX.pcond rfl (fun hc=>?_) (fun hc=>AX.skip ?_)
      · simp at hc
        have hi1:i-1<l.length:=by omega
        have e1:((l[i-1].toNat:Int)=112)=(l[i-1]=112):=u8_ne l[i-1] 112 (by omega)
        have e0:((i:Int)-1).toNat=i-1:=by omega
        apply jE
        simp [yu.r9,show (0:Int)≤(i:Int)-1 by omega,show 1≤i by omega,e0,hi1,e1,show IntKind.i64.wrap ((i:Int)-1)=(i:Int)-1 from y2w (by omega) (by omega),ss]
        simp [ptrB,show ¬i=0 by omega,hi1]
      · simp at hc
        subst hc
        simp [ptrB,ss]
    simp
    obtain ⟨p,hp⟩:∃p,p=ptrB l r i:=⟨_,rfl⟩
    rw [←hp]
    refine AX.test (!argB p a) [(3,.s l),(4,.s r),(50,ss c.args),(51,.i .i64 c.args.length),(52,.i .i64 i),(76,.b (!argB p a))] ?_ rfl (fun hc=>?_) (fun hc=>AX.skip ?_)
    · by_cases h0:a=[]
      · simp [yu.r10,h0,argB,ss]
      · have h0':(a == [])=false:=by simpa using h0
        cases p
        · simp [yu.r10,h0,h0',argB,ss]
        · simp [yu.r10,h0,h0',argB,ss]
          refine AC.fix (y86 a hxa _) ?_
          simp
    · apply jA
      simp [yu.r11]
      apply jD
      simp at hc
      simp [argsB_no hb (by rw [hgd,←hp];exact hc)]
    simp at hc
    simp
    apply jE
    simp [yu.r12,y4v hb ha]
    refine ⟨c.args.length-(i+1),by omega,_,_,.refl _ _,i+1,by omega,rfl,fun j hj=>?_,rfl,by simp⟩
    by_cases hj2:j=i
    · subst hj2;rw [hgd,←hp];exact hc
    · exact hn j (by omega)
theorem yp4 {s:Str} (h:yev s=true):y9p s=true:=by
  unfold yev at h
  unfold y9p
  cases hr:yd7 s with
  | none=>rw [hr] at h;cases h
  | some d=>
    rw [hr] at h
    have:d.kind=3:=by simpa using h
    simp [this]
def cnG (c:Cn):Bool:=if c.op=6 then ybt c else if c.op=5 then decide (c.args=[])&&(decide (0≤c.k)&&(decide (c.k≤64)&&ylz c.tag)) else decide (c.args=[])&&(decide (c.k=0)&&decide (c.tag=[]))
theorem cnE_eq2 (c:Cn):cnE c=if c.op<1∨6<c.op then 5 else if cnB c=false then 11 else if cnG c then 0 else 3:=by
  rw [cnE_eq]
  unfold cnG ylz
  by_cases h6:c.op=6
  · simp [h6]
  by_cases h5:c.op=5
  · by_cases h0:c.args=[] <;> simp [h5,h0,and_assoc]
  · by_cases h0:c.args=[] <;> simp [h6,h5,h0]
theorem con_ok (c:Cn) (h1:c.a.length≤9223372036854775806) (h2:c.b.length≤9223372036854775806) (ht:c.tag.length≤9223372036854775807) (ha:c.args.length≤9223372036854775807) (hx:∀a∈c.args,a.length≤9223372036854775806) (H:Hp):AC Tryz.prog y9a [.agg (y85 c)] H (fun v H'=>v=.i .i64 (cnE c)∧H'=H):=by
  refine AC.codeP yf.at yf.ok (by simp) fun hlt=>?_
  rw [cnE_eq2]
  simp only [yf]
  apply jA
  simp [yf.r0,y85]
  apply jA
  simp [yf.r1]
  refine AX.cut (fun F X=>F=[(1,.fp (y85 c) 0),(3,.b (cnB c))]∧(1≤c.op∧c.op≤6)∧H.Ext X) ?_ ?_
  · apply jA
    simp [yf.r2]
    refine AX.pblock (jA ?_)
    by_cases o1:c.op=1
    · simp [yf.r3,o1]
      refine jG rfl (AX.reg ?_)
      simp [yf.r4]
      refine AC.fix (y86 c.a h1 _) ?_
      cases hA:y9p c.a
      · simp
        exact ⟨_,_,.refl _ _,by simp [cnB,hA,y85,o1],.refl _⟩
      · simp
        refine AC.fix (yrm c.b h2 _) ?_
        simp
        exact ⟨_,_,.refl _ _,by simp [cnB,hA,y85,o1],.refl _⟩
    simp [yf.r3,o1]
    refine jF rfl ?_
    by_cases o2:c.op=2
    · refine AX.seq ?_
      apply jA
      simp [yf.r5,o2]
      refine jG rfl (AX.skip ?_)
      simp
      refine jG rfl (AX.reg ?_)
      simp [yf.r9]
      refine AC.fix (y86 c.a h1 _) ?_
      cases hA:y9p c.a
      · simp
        exact ⟨_,_,.refl _ _,by simp [cnB,hA,y85,o2],.refl _⟩
      · simp
        refine AC.fix (y86 c.b h2 _) ?_
        simp
        exact ⟨_,_,.refl _ _,by simp [cnB,hA,y85,o2],.refl _⟩
    by_cases o3:c.op=3
    · refine AX.seq ?_
      apply jA
      simp [yf.r5,o3]
      refine jF rfl ?_
      apply jA
      simp [yf.r6,o3]
      refine jG rfl (AX.skip ?_)
      simp
      refine jG rfl (AX.reg ?_)
      simp [yf.r9]
      refine AC.fix (y86 c.a h1 _) ?_
      cases hA:y9p c.a
      · simp
        exact ⟨_,_,.refl _ _,by simp [cnB,hA,y85,o3],.refl _⟩
      · simp
        refine AC.fix (y86 c.b h2 _) ?_
        simp
        exact ⟨_,_,.refl _ _,by simp [cnB,hA,y85,o3],.refl _⟩
    by_cases o4:c.op=4
    · refine AX.seq ?_
      apply jA
      simp [yf.r5,o4]
      refine jF rfl ?_
      apply jA
      simp [yf.r6,o4]
      refine jF rfl ?_
      apply jA
      simp [yf.r7,o4]
      refine jG rfl (AX.skip ?_)
      simp
      refine jG rfl (AX.reg ?_)
      simp [yf.r9]
      refine AC.fix (y86 c.a h1 _) ?_
      cases hA:y9p c.a
      · simp
        exact ⟨_,_,.refl _ _,by simp [cnB,hA,y85,o4],.refl _⟩
      · simp
        refine AC.fix (y86 c.b h2 _) ?_
        simp
        exact ⟨_,_,.refl _ _,by simp [cnB,hA,y85,o4],.refl _⟩
    refine AX.seq ?_
    apply jA
    simp [yf.r5,o2]
    refine jF rfl ?_
    apply jA
    simp [yf.r6,o3]
    refine jF rfl ?_
    apply jA
    simp [yf.r7,o4]
    refine jF rfl ?_
    apply jE
    by_cases o5:c.op=5
    · simp [yf.r8,o5]
      refine jG rfl (AX.reg ?_)
      simp [yf.r9]
      refine AC.fix (y86 c.a h1 _) ?_
      cases hA:y9p c.a
      · simp
        exact ⟨_,_,.refl _ _,by simp [cnB,hA,y85,o5],.refl _⟩
      · simp
        refine AC.fix (y86 c.b h2 _) ?_
        simp
        exact ⟨_,_,.refl _ _,by simp [cnB,hA,y85,o5],.refl _⟩
    simp [yf.r8,o5]
    refine jF rfl ?_
    apply jA
    by_cases o6:c.op=6
    · simp [yf.r10,o6]
      refine jG rfl ?_
      apply jA
      simp [yf.r11]
      refine AC.fix (ydx c.a h1 _) ?_
      cases hr:yd7 c.a with
      | none=>
        have hs:yev c.a=false:=by unfold yev;rw [hr]
        simp [rdV,nv,Nd.cs,Nd.zero]
        apply jE
        simp [yf.r12]
        exact ⟨_,_,.refl _ _,by simp [cnB,o6,hs,y85],yjl hlt _ _⟩
      | some d=>
        simp [rdV,nv,Nd.cs]
        apply jE
        by_cases hk:d.kind=3
        · have hs:yev c.a=true:=by unfold yev;rw [hr];simp [hk]
          simp [yf.r12,hk]
          refine AC.fix (y86 c.b h2 _) ?_
          simp
          exact ⟨_,_,.refl _ _,by simp [cnB,o6,hs,yp4 hs,y85],yjl hlt _ _⟩
        · have hs:yev c.a=false:=by unfold yev;rw [hr];simp [hk]
          simp [yf.r12,hk]
          exact ⟨_,_,.refl _ _,by simp [cnB,o6,hs,y85],yjl hlt _ _⟩
    simp [yf.r10,o6]
    refine jF rfl ?_
    apply jA
    simp [yf.r13]
    apply jD
    have:c.op<1∨6<c.op:=by omega
    simp [this]
    exact ⟨.refl _,.refl _⟩
  rintro F X ⟨rfl,hop,X1⟩
  have hop':¬(c.op<1∨6<c.op):=by omega
  rw [if_neg hop']
  apply jB
  simp [yf.r14]
  refine AX.pcond rfl (fun hb=>?_) (fun hb=>AX.skip ?_)
  · simp at hb
    apply jA
    simp [yf.r15]
    apply jD
    simp [hb]
    exact ⟨X1,.refl _⟩
  simp at hb
  rw [if_neg (show ¬cnB c=false by simp [hb])]
  simp
  refine AX.seq (AX.join (F1:=[(3,.b (cnG c))]) (H1:=X) ?_ ?_)
  · apply jA
    simp [yf.r16,y85]
    refine AX.pblock (jA ?_)
    by_cases h6:c.op=6
    · simp [yf.r17,h6]
      refine jG rfl (AX.reg ?_)
      simp [yf.r18,h6]
      refine AC.fix (show AC Tryz.prog y8g [.agg [.i .i64 6,.s c.a,.s c.b,.i .i64 c.k,.s c.tag,ss c.args]] X (fun v H'=>v=.b (ybt c)∧H'=X) from by have:=yr4 c ht ha hx X;unfold y85 at this;rwa [h6] at this) ?_
      simp [cnG,h6]
    simp [yf.r17,h6]
    refine jF rfl ?_
    apply jA
    by_cases h5:c.op=5
    · simp [yf.r19,h5]
      refine jG rfl (AX.reg ?_)
      by_cases h0:c.args=[]
      · by_cases k1:0≤c.k
        · by_cases k2:c.k≤64
          · simp [yf.r20,ss,h0,k1,k2]
            refine AC.fix (yfj c.tag ht _) ?_
            simp [cnG,h5,h0,k1,k2]
          · simp [yf.r20,ss,h0,k1,k2,cnG,h5]
        · simp [yf.r20,ss,h0,k1,cnG,h5]
      · have:¬c.args.length=0:=by simpa using h0
        simp [yf.r20,ss,h0,this,cnG,h5]
    simp [yf.r19,h5]
    refine jF rfl (AX.reg ?_)
    by_cases h0:c.args=[]
    · by_cases k1:c.k=0
      · by_cases k2:c.tag=[]
        · simp [yf.r21,ss,h0,k1,k2,cnG,h5,h6]
        · simp [yf.r21,ss,h0,k1,k2,cnG,h5,h6,show (c.tag == [])=false by simpa using k2]
      · simp [yf.r21,ss,h0,k1,cnG,h5,h6]
    · have:¬c.args.length=0:=by simpa using h0
      simp [yf.r21,ss,h0,this,cnG,h5,h6]
  simp
  apply jB
  simp [yf.r22]
  refine AX.pcond rfl (fun hd=>?_) (fun hd=>AX.skip ?_)
  · simp at hd
    apply jA
    simp [yf.r23]
    apply jD
    simp [hd]
    exact ⟨X1,.refl _⟩
  simp at hd
  simp
  apply jA
  simp [yf.r24]
  apply jD
  simp [hd]
  exact ⟨X1,.refl _⟩
def ygq (l:List Mk):Int:=match l.getLast? with
  | some x=>x.pos
  | none=>0
theorem mk1_last {n:Nat} {l:List Mk} {m:Mk} (h:0≤ygq l):mk1B n l m=(decide (ygq l≤m.pos)&&decide (m.pos<n)&&ylz m.tag):=by
  unfold mk1B
  unfold ygq at h ⊢
  cases hl:l.getLast? with
  | none=>
    cases ylz m.tag <;> simp
  | some x=>
    rw [hl] at h
    simp only at h
    have e:decide (∀y,some x=some y→y.pos≤m.pos)=decide (x.pos≤m.pos):=by
      congr 1
      apply propext
      exact ⟨fun hh=>hh x rfl,fun hh y hy=>by injection hy with hy;subst hy;exact hh⟩
    rw [e]
    by_cases h1:x.pos≤m.pos
    · have:0≤m.pos:=by omega
      simp [h1,this]
    · simp [h1]
theorem ynf {ms:List Mk} {i:Nat} (h:i<ms.length):ygq (ms.take (i+1))=ms[i].pos:=by
  unfold ygq
  rw [List.getLast?_eq_getElem?,List.length_take,Nat.min_eq_left (by omega)]
  simp [List.getElem?_take,h]
def SObInv (o:Ob) (H:Hp) (m:Nat) (F:Fr) (X:Hp):Prop:=
  ∃i,i≤o.marks.length∧m=o.marks.length-i∧ypt o.kinds.length [] o.marks=ypt o.kinds.length (o.marks.take i) (o.marks.drop i)∧0≤ygq (o.marks.take i)∧H.Ext X∧(∀id blk,X.get id=some blk→id<X.next)∧
    F=[(1,.fp (y73 o) 0),(5,.i .i64 (ygq (o.marks.take i))),(38,.fs (o.marks.map ya4)),(39,.i .i64 o.marks.length),(40,.i .i64 i)]
theorem ynu (o:Ob) (h1:o.name.length≤9223372036854775806) (h2:o.kinds.length≤9223372036854775807) (h3:o.marks.length≤9223372036854775807) (h4:∀m∈o.marks,m.tag.length≤9223372036854775807) (H:Hp):
    AC Tryz.prog y7f [.agg (y73 o)] H (fun v H'=>v=.i .i64 (obE o)∧H'=H):=by
  refine AC.codeP yt.at yt.ok (by simp) fun hlt=>?_
  simp only [yt]
  apply jA
  simp [yt.r0,y73]
  apply jA
  simp [yt.r1]
  refine AC.fix (ydx o.name h1 _) ?_
  obtain ⟨er,d,hrd,hbad⟩:∃(er:Int) (d:Nd),rdV (yd7 o.name)=.tup [nv d,.i .i64 er]∧obE o=if (decide (er≠0)||(decide (d.kind<5)||decide (0≤d.cell)))=true then 11 else if ¬(kpB o.kinds=true∧1≤o.kinds.length∧o.kinds.length≤64) then 5 else if ypt o.kinds.length [] o.marks then 0 else 3:=by
    unfold obE
    cases hr:yd7 o.name with
    | none=>exact ⟨11,Nd.zero,rfl,by simp⟩
    | some d=>exact ⟨0,d,rfl,by simp⟩
  rw [hrd]
  simp [nv,Nd.cs]
  have X2:=yjl hlt (.cells [.i .i64 0,.s [],.i .i64 0,.s [],.i .i64 0,.i .i64 0] 6) (.cells [.i .i64 d.kind,.s d.fn,.i .i64 d.copy,.s d.name,.i .i64 d.n,.i .i64 d.cell] 6)
  have L2:=lt2 hlt (.cells [.i .i64 0,.s [],.i .i64 0,.s [],.i .i64 0,.i .i64 0] 6) (.cells [.i .i64 d.kind,.s d.fn,.i .i64 d.copy,.s d.name,.i .i64 d.n,.i .i64 d.cell] 6)
  have G2:((H.add (.cells [.i .i64 0,.s [],.i .i64 0,.s [],.i .i64 0,.i .i64 0] 6)).upd H.next (.cells [.i .i64 d.kind,.s d.fn,.i .i64 d.copy,.s d.name,.i .i64 d.n,.i .i64 d.cell] 6)).get H.next=some (.cells [.i .i64 d.kind,.s d.fn,.i .i64 d.copy,.s d.name,.i .i64 d.n,.i .i64 d.cell] 6):=by simp
  generalize (H.add (.cells [.i .i64 0,.s [],.i .i64 0,.s [],.i .i64 0,.i .i64 0] 6)).upd H.next (.cells [.i .i64 d.kind,.s d.fn,.i .i64 d.copy,.s d.name,.i .i64 d.n,.i .i64 d.cell] 6)=X at *
  refine AX.seq (AX.pblock ?_)
  obtain ⟨b,hb⟩:∃b,b=(decide (er≠0)||(decide (d.kind<5)||decide (0≤d.cell))):=⟨_,rfl⟩
  rw [←hb] at hbad
  refine AX.test b [(1,.fp (y73 o) 0),(14,.b b)] ?_ rfl (fun hc=>?_) (fun hc=>?_)
  · by_cases e:er=0
    · by_cases k:d.kind<5
      · simp [yt.r2,y73,e,k,hb,G2]
      · simp [yt.r2,y73,e,k,hb,G2]
    · simp [yt.r2,y73,e,hb]
  · rw [if_pos hc] at hbad
    apply jA
    simp [yt.r3]
    apply jD
    simp [hbad]
    exact ⟨X2,.refl _⟩
  rw [if_neg (by simp [hc])] at hbad
  clear hb hc
  obtain ⟨b2,hb2⟩:∃b2,b2=decide (¬(kpB o.kinds=true∧1≤o.kinds.length∧o.kinds.length≤64)):=⟨_,rfl⟩
  refine AX.test b2 [(1,.fp (y73 o) 0),(27,.b b2)] ?_ rfl (fun hc=>?_) (fun hc=>AX.skip ?_)
  · by_cases e:o.kinds=[]
    · simp [yt.r4,y73,e,hb2]
    · have e1:1≤o.kinds.length:=by cases h:o.kinds <;> simp_all
      have e2:(o.kinds == [])=false:=by simpa using e
      simp [yt.r4,y73,e,e2]
      refine AC.fix (ybm o.kinds 64 h2 _) ?_
      have:(!(kpB o.kinds&&decide ((o.kinds.length:Int)≤64)))=b2:=by
        rw [hb2]
        by_cases h64:o.kinds.length≤64
        · cases kpB o.kinds <;> simp [e1,h64,show ¬64<o.kinds.length by omega]
        · cases kpB o.kinds <;> simp [e1,h64,show 64<o.kinds.length by omega]
      simp [this,y73]
      simp [←this]
  · have hc':=of_decide_eq_true (hb2▸hc)
    rw [if_pos hc'] at hbad
    apply jA
    simp [yt.r5]
    apply jD
    simp [hbad]
    exact ⟨X2,.refl _⟩
  have hc':=of_decide_eq_false (hb2▸hc)
  rw [if_neg hc'] at hbad
  simp
  apply jA
  simp [yt.r6]
  apply jB
  simp [yt.r7,y73]
  refine AX.pblock (AX.loop (SObInv o H) o.marks.length ⟨_,_,.refl _ _,0,by omega,by omega,rfl,by simp [ygq],X2,L2,by simp [y73,ygq]⟩ ?_)
  rintro m F Y ⟨i,hi,rfl,hm,hla,X3,L3,rfl⟩
  simp only [yt.l0]
  apply jA
  simp [yt.r8]
  refine AX.seq (AX.pcond rfl (fun hd=>AX.skip ?_) (fun hd=>AX.exit ?_))
  case refine_2=>
    simp at hd
    rw [List.drop_eq_nil_of_le hd] at hm
    simp only [ypt] at hm
    simp
    apply jA
    simp [yt.r14]
    apply jD
    simp [hbad,hm]
    exact ⟨X3,.refl _⟩
  simp at hd
  rw [yps hd,mkB_eq,mk1_last hla] at hm
  have hlt1:=ynf hd
  have hmt:=h4 _ (List.getElem_mem hd)
  have hg:o.marks[i]?=some o.marks[i]:=List.getElem?_eq_getElem hd
  simp
  generalize o.marks[i]=mk at *
  generalize hlp:ygq (o.marks.take i)=lp at *
  apply jC
  simp [yt.r9,hg,ya4]
  have X4:=X3.trans (yjl L3 (.cells [.i .i64 0,.s []] 2) (.cells [.i .i64 mk.pos,.s mk.tag] 2))
  have L4:=lt2 L3 (.cells [.i .i64 0,.s []] 2) (.cells [.i .i64 mk.pos,.s mk.tag] 2)
  have G4:((Y.add (.cells [.i .i64 0,.s []] 2)).upd Y.next (.cells [.i .i64 mk.pos,.s mk.tag] 2)).get Y.next=some (.cells [.i .i64 mk.pos,.s mk.tag] 2):=by simp
  generalize (Y.add (.cells [.i .i64 0,.s []] 2)).upd Y.next (.cells [.i .i64 mk.pos,.s mk.tag] 2)=Z at *
  generalize Y.next=id at *
  obtain ⟨g,hgg⟩:∃g,g=(decide (lp≤mk.pos)&&decide (mk.pos<o.kinds.length)&&ylz mk.tag&&decide (mk∉o.marks.take i)):=⟨_,rfl⟩
  rw [←hgg] at hm
  refine AX.seq ?_
  refine AX.testD (!g) [(1,.fp (y73 o) 0),(7,.p (some (id,0,2))),(38,.fs (o.marks.map ya4)),(39,.i .i64 o.marks.length),(40,.i .i64 i),(70,.b (!g))] ?_ rfl (fun hb=>?_) (fun hb=>AX.skip ?_)
  · by_cases c1:mk.pos<lp
    · simp [yt.r10,y73,G4,c1,hgg,show ¬lp≤mk.pos by omega]
    by_cases c2:(o.kinds.length:Int)≤mk.pos
    · simp [yt.r10,y73,G4,c1,c2,hgg,show ¬mk.pos<o.kinds.length by omega]
    have c1':lp≤mk.pos:=by omega
    have c2':mk.pos<o.kinds.length:=by omega
    simp [yt.r10,y73,G4,c1,c2]
    refine y5q _ (fun H2=>yfj mk.tag hmt H2) ?_
    cases htg:ylz mk.tag
    · simp [hgg,htg]
    have hm2:∀x:Mk,x∈o.marks→(ya4 x).length=2:=fun x _=>rfl
    have hcon:∀H2,AC Tryz.prog y46 [.fs (List.take i (List.map ya4 o.marks)),.agg [.i .i64 mk.pos,.s mk.tag]] H2 (fun v H'=>v=.b (decide (mk∈o.marks.take i))∧H'=H2):=fun H2=>by
      have:=yk7 (o.marks.take i) mk (by simp;omega) H2
      rw [List.map_take] at this
      exact this
    simp [hm2,show i≤o.marks.length by omega,G4]
    rw [if_pos hm2]
    simp [G4]
    refine y5q _ hcon ?_
    by_cases hin:mk∈o.marks.take i
    · simp [hgg,c1',c2',htg,hin,y73,ya4]
    · simp [hgg,c1',c2',htg,hin,y73,ya4]
  · simp at hb
    apply jA
    simp [yt.r11]
    apply jD
    simp [hbad,hm,hb]
    exact ⟨X4,.refl _⟩
  simp at hb
  rw [hb] at hgg
  have hpos:0≤mk.pos:=by
    have:lp≤mk.pos:=by
      have:=hgg.symm
      simp at this
      exact this.1.1.1
    omega
  simp
  apply jE
  simp [yt.r12,G4]
  apply jE
  simp [yt.r13,y4v hd h3]
  exact ⟨o.marks.length-(i+1),by omega,_,_,.refl _ _,i+1,by omega,rfl,by rw [hm,hb];simp,by rw [hlt1];exact hpos,X4,L4,by rw [hlt1];simp [y73,ya4]⟩
end Go.Proofs.YthmkcebbeehbeaaGreatDoor
