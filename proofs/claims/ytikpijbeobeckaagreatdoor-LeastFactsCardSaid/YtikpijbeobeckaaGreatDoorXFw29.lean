/- Part 29. -/
import Derived.Test.YtikpijbeobeckaaGreatDoorXFw28
set_option linter.unusedSimpArgs false
set_option linter.unusedVariables false
namespace Go.Proofs.YtikpijbeobeckaaGreatDoor
open Am C
theorem yi7 {α:Type} {ask:α→Int} {cmp:α→α→Int}:∀{l:List α} {p:Option α},chk ask cmp p l=0→∀x∈l,ask x=0
 | [],_,_,x,hx=>by cases hx
 | a::r,p,h,x,hx=>by
  rw [show chk ask cmp p (a::r)=if ask a≠0 then ask a else if ycm cmp p a then 13 else chk ask cmp (some a) r from rfl] at h
  split at h
  ·rename_i h1;exact absurd h h1
  rename_i h1
  split at h
  ·exact absurd h (by decide)
  rcases List.mem_cons.1 hx with rfl | hx
  ·exact Classical.not_not.1 h1
  ·exact yi7 h x hx
theorem yfp {x:Int} {r:List Int} (h:orI (x::r)=0):x=0∧orI r=0:=by
 by_cases e:x=0
 ·rw [or0 _ _ e] at h;exact ⟨e,h⟩
 ·rw [or1 _ _ e] at h;exact absurd h e
theorem ylk {s:Sy} (h:ye2 s=0):s.objs.length≤600∧s.fns.length≤600∧s.cons.length≤6000∧(∀o∈s.objs,obE o=0)∧(∀f∈s.fns,fuE f=0)∧∀c∈s.cons,cnE c=0:=by
 unfold ye2 at h
 split at h
 ·cases h
 rename_i hn
 obtain ⟨h1,h⟩:=yfp h
 obtain ⟨h2,h⟩:=yfp h
 obtain ⟨h3,h⟩:=yfp h
 exact ⟨by omega,by omega,by omega,yi7 h1,yi7 h2,yi7 h3⟩
theorem ym1 {o:Ob} (h:obE o=0):o.kinds.length≤64:=by
 unfold obE at h
 cases hr:y5t o.name with
 | none=>rw [hr] at h;cases h
 | some d=>
  rw [hr] at h
  simp only at h
  split at h
  ·cases h
  split at h
  ·cases h
  rename_i _ h2
  exact (Classical.not_not.1 h2).2.2
theorem cn_args {c:Cn} (h:cnE c=0):c.args.length≤7:=by
 rw [ymm] at h
 split at h
 ·cases h
 split at h
 ·cases h
 split at h
 ·split at h
  ·rename_i hc
   rw [yeh] at hc
   cases hs:ybm c.tag with
   | none=>rw [hs] at hc;cases hc
   | some x=>
    obtain ⟨l,r⟩:=x
    rw [hs] at hc
    simp [yah] at hc
    omega
  ·cases h
 split at h
 ·cases h
 rename_i ha
 rw [Classical.not_not.1 ha];simp
def yr7 (o:Ob) (all:Bool) (i:Nat):List Str:=((List.range i).filter (yma o all)).map (y97 o.name)
theorem yno (o:Ob) (all:Bool) (i:Nat):(yr7 o all i).length≤i:=by
 unfold yr7
 rw [List.length_map]
 have:=List.length_filter_le (yma o all) (List.range i)
 simpa using this
theorem yqg {α β:Type} {f:α→List β} {n:Nat}:∀{l:List α},(∀x∈l,(f x).length≤n)→(l.flatMap f).length≤n*l.length
 | [],_=>by simp
 | a::r,h=>by
  have h1:=h a (by simp)
  have h2:=yqg (l:=r) fun x hx=>h x (by simp [hx])
  simp only [List.flatMap_cons,kT,kO,Nat.mul_succ]
  omega
def obP (s:Sy) (all:Bool) (i:Nat):List Str:=(s.objs.take i).flatMap fun o=>yg1 o all
theorem yr6 {o:Ob} (all:Bool) (h:obE o=0):(yg1 o all).length≤64:=by
 have h1:=ym1 h
 have h2:=yno o all o.kinds.length
 have:yg1 o all=yr7 o all o.kinds.length:=rfl
 rw [this];omega
theorem obP_len {s:Sy} (all:Bool) (h:ye2 s=0) (i:Nat):(obP s all i).length≤38400:=by
 obtain ⟨h1,_,_,h4,_,_⟩:=ylk h
 have:=yqg (f:=fun o=>yg1 o all) (n:=64) (l:=s.objs.take i) fun o ho=>yr6 all (h4 o (List.mem_of_mem_take ho))
 have h2:(s.objs.take i).length≤600:=by simp;omega
 unfold obP;omega
section
open Go Go.RowKit
theorem Am.AC.codeR {P:Program} {f:FuncId} {fn:Func} {a:AFunc} (hf:P.funcs[f]?=some fn) (hok:y2b P fn a=true) {args:List V} {H:Hp} {R:V→Prop}
  (h:(∀id blk,H.get id=some blk→id<H.next)→AX P a.n a.body (Ends (fun r H'=>(R r∧ycp r)∧H.Ext H') a.res) (fr0 0 args) H):AC P f args H (fun r H'=>R r∧H'=H):=
 AC.lt (ypq hf hok) fun hl=>(AC.code hf hok (h hl)).trim fun r H' ⟨⟨e,hfr⟩,h1,h2⟩=>
  ⟨H,⟨kG _,h1,fun id blk hg=>⟨hl id blk hg,h2 id blk hg⟩,fun id cs m hg=>.inl ⟨m,hg⟩,fun id es hg=>.inl hg⟩,hfr.ok _,e,rfl⟩
end
theorem ybz {i:Nat} (h:i≤9223372036854775000):Go.IntKind.i64.wrap ((i:Int)+1)=((i+1:Nat):Int):=by rw [wrap_i64 (by omega) (by omega)];omega
def obZ (o:Ob):Prop:=o.name.length≤140737488355328∧o.kinds.length≤140737488355328∧o.marks.length≤140737488355328∧∀m∈o.marks,m.tag.length≤140737488355328
def syZ (s:Sy):Prop:=s.objs.length≤140737488355328∧s.fns.length≤140737488355328∧s.cons.length≤140737488355328∧(∀o∈s.objs,obZ o)∧(∀f∈s.fns,fuS f∧f.ret.length≤140737488355328)∧
 ∀c∈s.cons,c.a.length≤140737488355328∧c.b.length≤140737488355328∧c.tag.length≤140737488355328∧c.args.length≤140737488355328∧∀a∈c.args,a.length≤140737488355328
def GrInv (s:Sy) (H:Hp) (m:Nat) (F:Fr) (X:Hp):Prop:=
 ∃i n,i≤s.objs.length∧m=s.objs.length-i∧n≤30000∧(∀(j:Nat) o,j<i→s.objs[j]?=some o→o.marks.length≤3000)∧X=H∧F=[(2,.fp (y3p s) 0),(5,.i .i64 (n:Nat)),(6,.i .i64 i)]
def GrIn (s:Sy) (i n0:Nat) (ms:List Mk) (H:Hp) (m:Nat) (F:Fr) (X:Hp):Prop:=
 ∃k n,k≤ms.length∧k≤100∧m=ms.length-k∧n0≤n∧n≤n0+k*140737488355328∧X=H∧F=[(2,.fp (y3p s) 0),(5,.i .i64 (n:Nat)),(6,.i .i64 i),(7,.i .i64 k)]
def GrInv2 (s:Sy) (H:Hp) (m:Nat) (F:Fr) (X:Hp):Prop:=
 ∃i n,i≤s.fns.length∧m=s.fns.length-i∧n≤30000∧X=H∧F=[(2,.fp (y3p s) 0),(5,.i .i64 (n:Nat)),(8,.i .i64 i)]
def GrInv3 (s:Sy) (H:Hp) (m:Nat) (F:Fr) (X:Hp):Prop:=
 ∃i n,i≤s.cons.length∧m=s.cons.length-i∧n≤60000∧(∀(j:Nat) c,j<i→s.cons[j]?=some c→c.args.length≤6000)∧H.Ext X∧(∀id blk,X.get id=some blk→id<X.next)∧F=[(2,.fp (y3p s) 0),(5,.i .i64 (n:Nat)),(9,.i .i64 i)]
def GrIn3 (s:Sy) (i n0 id:Nat) (args:List Str) (H:Hp) (m:Nat) (F:Fr) (X:Hp):Prop:=
 ∃k n,k≤args.length∧k≤100∧m=args.length-k∧n0≤n∧n≤n0+k*140737488355328∧X=H∧F=[(2,.fp (y3p s) 0),(5,.i .i64 (n:Nat)),(9,.i .i64 i),(10,.p (some (id,0,6))),(11,.i .i64 k)]
theorem ynw (most:Nat) (hm:most≤100) (s:Sy) (hs:syZ s) (H:Hp):AC Tryz.prog y8s [.agg (y3p s),.i .i64 (most:Nat)] H (fun v H'=>(∃b,v=.b b∧(b=false→syS s))∧H'=H):=by
 obtain ⟨z1,z2,z3,zo,zf,zc⟩:=hs
 refine AC.codeR ya.at ya.ok fun hlt=>?_
 simp only [ya]
 apply jA
 simp [ya.r0,y3p]
 refine AX.seq ?_
 refine AX.test (decide (most<s.objs.length)||decide (most<s.fns.length)||decide (most<s.cons.length)) [(2,.fp (y3p s) 0),(30,.b (decide (most<s.objs.length)||decide (most<s.fns.length)||decide (most<s.cons.length)))] ?_ rfl (fun hb=>?_) (fun hb=>AX.skip ?_)
 ·by_cases h1:most<s.objs.length
  ·simp [ya.r1,y3p,h1]
  by_cases h2:most<s.fns.length
  ·simp [ya.r1,y3p,h1,h2]
  ·simp [ya.r1,y3p,h1,h2]
 ·apply jA
  simp [ya.r2]
  apply jD
  simp
  exact .refl _
 simp at hb
 simp
 apply jA
 simp [ya.r3]
 apply jB
 simp [ya.r4]
 refine AX.pblock (AX.loop (GrInv s H) s.objs.length ⟨_,_,.refl _ _,0,0,by omega,by omega,by omega,fun j o h=>by omega,rfl,by simp [y3p]⟩ ?_)
 rintro m F X ⟨i,n,hi,rfl,hn,hmk,hX,rfl⟩
 obtain rfl:=hX.symm
 simp only [ya.l0]
 apply jB
 simp [ya.r5,y3p]
 refine AX.pcond rfl (fun hc=>AX.skip ?_) (fun hc=>AX.exit ?_)
 ·simp at hc
  obtain ⟨b1,b2,b3,b4⟩:=zo _ (kL hc)
  have hg:s.objs[i]?=some s.objs[i]:=kC hc
  simp
  generalize s.objs[i]=o at *
  have w1:Go.IntKind.i64.wrap ((n:Int)+o.name.length)=(n:Int)+o.name.length:=wrap_i64 (by omega) (by omega)
  have w2:Go.IntKind.i64.wrap ((n:Int)+o.name.length+o.kinds.length)=(n:Int)+o.name.length+o.kinds.length:=wrap_i64 (by omega) (by omega)
  have w3:Go.IntKind.i64.wrap (10*(o.marks.length:Int))=10*(o.marks.length:Int):=wrap_i64 (by omega) (by omega)
  have w4:Go.IntKind.i64.wrap ((n:Int)+o.name.length+o.kinds.length+10*o.marks.length)=(n:Int)+o.name.length+o.kinds.length+10*o.marks.length:=wrap_i64 (by omega) (by omega)
  refine AX.seq (AX.pblock (AX.seq (AX.drw ?_)))
  simp [ya.r6,y3p,hg,y68,w1,w2,w3,w4]
  obtain ⟨n0,hn0⟩:∃n0,n0=n+o.name.length+o.kinds.length+10*o.marks.length:=⟨_,rfl⟩
  rw [show ((n:Int)+o.name.length+o.kinds.length+10*o.marks.length)=((n0:Nat):Int) by omega]
  apply jB
  simp [ya.r7]
  refine AX.pblock (AX.loop (GrIn s i n0 o.marks H) o.marks.length ⟨_,_,.refl _ _,0,n0,by omega,by omega,by omega,by omega,by omega,rfl,by simp [y3p]⟩ ?_)
  rintro m F Y ⟨k,n1,hkl,hk5,rfl,h0,h1,hY,rfl⟩
  obtain rfl:=hY.symm
  simp only [ya.l1]
  refine AX.seq (AX.test (decide (k<o.marks.length∧k<100)) [(2,.fp (y3p s) 0),(5,.i .i64 (n1:Nat)),(6,.i .i64 i),(7,.i .i64 k),(76,.b (decide (k<o.marks.length∧k<100)))] ?_ rfl (fun h=>AX.skip ?_) (fun h=>AX.exit ?_))
  ·by_cases hkk:k<o.marks.length
   ·simp [ya.r8,y3p,hg,y68,hkk]
   ·simp [ya.r8,y3p,hg,y68,hkk]
  ·simp at h
   have b5:=b4 _ (kL h.1)
   have hgk:o.marks[k]?=some (o.marks[k]'h.1):=kC h.1
   generalize o.marks[k]'h.1=mk at *
   have w5:Go.IntKind.i64.wrap ((n1:Int)+mk.tag.length)=(n1:Int)+mk.tag.length:=wrap_i64 (by omega) (by omega)
   simp
   refine AX.seq (AX.pblock (AX.reg ?_))
   simp [ya.r9,y3p,hg,hgk,y68,y9h,w5]
   rw [show ((n1:Int)+mk.tag.length)=((n1+mk.tag.length:Nat):Int) by omega]
   apply jE
   simp [ya.r10,ybz (show k≤9223372036854775000 by omega)]
   refine ⟨o.marks.length-(k+1),by omega,_,_,.refl _ _,k+1,n1+mk.tag.length,by omega,by omega,rfl,by omega,?_,rfl,by simp [y3p]⟩
   rw [Nat.succ_mul];omega
  ·simp
   apply jA
   simp [ya.r11]
   by_cases hbig:30000<n1
   ·refine jG (by simp;omega) (jA ?_)
    simp [ya.r12]
    apply jD
    simp
    exact .refl _
   ·refine jF (by simp;omega) (AX.skip ?_)
    simp
    apply jE
    simp [ya.r13,ybz (show i≤9223372036854775000 by omega)]
    refine ⟨s.objs.length-(i+1),by omega,_,_,.refl _ _,i+1,n1,by omega,rfl,by omega,fun j o' hj' ho'=>?_,rfl,by simp [y3p]⟩
    by_cases e:j=i
    ·subst e
     rw [hg] at ho';injection ho' with ho';subst ho';omega
    ·exact hmk j o' (by omega) ho'
 simp at hc
 simp
 apply jB
 simp [ya.r14]
 refine AX.pblock (AX.loop (GrInv2 s H) s.fns.length ⟨_,_,.refl _ _,0,n,by omega,by omega,by omega,rfl,by simp [y3p]⟩ ?_)
 rintro m F X ⟨j,n2,hj,rfl,hn2,hX,rfl⟩
 obtain rfl:=hX.symm
 simp only [ya.l2]
 apply jB
 simp [ya.r15,y3p]
 refine AX.pcond rfl (fun hd=>AX.skip ?_) (fun hd=>AX.exit ?_)
 ·simp at hd
  obtain ⟨⟨b1,b2⟩,b3⟩:=zf _ (kL hd)
  have hg:s.fns[j]?=some s.fns[j]:=kC hd
  simp
  generalize s.fns[j]=f at *
  have w1:Go.IntKind.i64.wrap ((n2:Int)+f.name.length)=(n2:Int)+f.name.length:=wrap_i64 (by omega) (by omega)
  have w2:Go.IntKind.i64.wrap ((n2:Int)+f.name.length+f.kinds.length)=(n2:Int)+f.name.length+f.kinds.length:=wrap_i64 (by omega) (by omega)
  have w3:Go.IntKind.i64.wrap ((n2:Int)+f.name.length+f.kinds.length+f.ret.length)=(n2:Int)+f.name.length+f.kinds.length+f.ret.length:=wrap_i64 (by omega) (by omega)
  refine AX.seq (AX.pblock (AX.seq (AX.drw ?_)))
  simp [ya.r16,y3p,hg,yb0,w1,w2,w3]
  obtain ⟨n1,hn1⟩:∃n1,n1=n2+f.name.length+f.kinds.length+f.ret.length:=⟨_,rfl⟩
  rw [show ((n2:Int)+f.name.length+f.kinds.length+f.ret.length)=((n1:Nat):Int) by omega]
  apply jA
  simp [ya.r17]
  by_cases hbig:30000<n1
  ·refine jG (by simp;omega) (jA ?_)
   simp [ya.r18]
   apply jD
   simp
   exact .refl _
  ·refine jF (by simp;omega) (AX.skip ?_)
   simp
   apply jE
   simp [ya.r19,ybz (show j≤9223372036854775000 by omega)]
   exact ⟨s.fns.length-(j+1),by omega,_,_,.refl _ _,j+1,n1,by omega,rfl,by omega,rfl,by simp [y3p]⟩
 simp at hd
 simp
 apply jB
 simp [ya.r20]
 refine AX.pblock (AX.loop (GrInv3 s H) s.cons.length ⟨_,_,.refl _ _,0,n2,by omega,by omega,by omega,fun j c h=>by omega,.refl _,hlt,by simp [y3p]⟩ ?_)
 rintro m F X ⟨q,n3,hq,rfl,hn3,hall,X1,L1,rfl⟩
 simp only [ya.l3]
 apply jB
 simp [ya.r21,y3p]
 refine AX.pcond rfl (fun he=>AX.skip ?_) (fun he=>AX.exit ?_)
 case refine_2=>
  simp at he
  simp
  apply jA
  simp [ya.r31]
  apply jD
  simp
  refine ⟨⟨by omega,by omega,by omega,fun o hom=>?_,fun f hf=>(zf f hf).1,fun c hcm=>?_⟩,X1⟩
  ·obtain ⟨g1,g2,g3,g4⟩:=zo o hom
   obtain ⟨k,hk⟩:=List.mem_iff_getElem?.1 hom
   have:=hmk k o (by have:=(List.getElem?_eq_some_iff.1 hk).1;omega) hk
   exact ⟨g1,g2,by omega,g4⟩
  obtain ⟨g1,g2,g3,g4,g5⟩:=zc c hcm
  obtain ⟨k,hk⟩:=List.mem_iff_getElem?.1 hcm
  have:=hall k c (by have:=(List.getElem?_eq_some_iff.1 hk).1;omega) hk
  exact ⟨g1,g2,g3,by omega,g5⟩
 simp at he
 obtain ⟨g1,g2,g3,g4,g5⟩:=zc _ (kL he)
 have hg:s.cons[q]?=some s.cons[q]:=kC he
 simp
 generalize s.cons[q]=c at *
 apply jC
 simp [ya.r22,hg,y3z,ss]
 have X4:=X1.trans (yc0 L1 (.cells [.i .i64 0,.s [],.s [],.i .i64 0,.s [],.sl none 0 0] 6) (.cells [.i .i64 c.op,.s c.a,.s c.b,.i .i64 c.k,.s c.tag,.fs (c.args.map fun x=>[.s x])] 6))
 have L4:=lt2 L1 (.cells [.i .i64 0,.s [],.s [],.i .i64 0,.s [],.sl none 0 0] 6) (.cells [.i .i64 c.op,.s c.a,.s c.b,.i .i64 c.k,.s c.tag,.fs (c.args.map fun x=>[.s x])] 6)
 have G4:((X.add (.cells [.i .i64 0,.s [],.s [],.i .i64 0,.s [],.sl none 0 0] 6)).upd X.next (.cells [.i .i64 c.op,.s c.a,.s c.b,.i .i64 c.k,.s c.tag,.fs (c.args.map fun x=>[.s x])] 6)).get X.next=some (.cells [.i .i64 c.op,.s c.a,.s c.b,.i .i64 c.k,.s c.tag,.fs (c.args.map fun x=>[.s x])] 6):=by simp
 generalize (X.add (.cells [.i .i64 0,.s [],.s [],.i .i64 0,.s [],.sl none 0 0] 6)).upd X.next (.cells [.i .i64 c.op,.s c.a,.s c.b,.i .i64 c.k,.s c.tag,.fs (c.args.map fun x=>[.s x])] 6)=Z at *
 generalize X.next=id at *
 have w1:Go.IntKind.i64.wrap ((n3:Int)+c.a.length)=(n3:Int)+c.a.length:=wrap_i64 (by omega) (by omega)
 have w2:Go.IntKind.i64.wrap ((n3:Int)+c.a.length+c.b.length)=(n3:Int)+c.a.length+c.b.length:=wrap_i64 (by omega) (by omega)
 have w3:Go.IntKind.i64.wrap ((n3:Int)+c.a.length+c.b.length+c.tag.length)=(n3:Int)+c.a.length+c.b.length+c.tag.length:=wrap_i64 (by omega) (by omega)
 have w4:Go.IntKind.i64.wrap (10*(c.args.length:Int))=10*(c.args.length:Int):=wrap_i64 (by omega) (by omega)
 have w5:Go.IntKind.i64.wrap ((n3:Int)+c.a.length+c.b.length+c.tag.length+10*c.args.length)=(n3:Int)+c.a.length+c.b.length+c.tag.length+10*c.args.length:=wrap_i64 (by omega) (by omega)
 apply jA
 simp [ya.r23,G4,w1,w2,w3,w4,w5]
 obtain ⟨n0,hn0⟩:∃n0,n0=n3+c.a.length+c.b.length+c.tag.length+10*c.args.length:=⟨_,rfl⟩
 rw [show ((n3:Int)+c.a.length+c.b.length+c.tag.length+10*c.args.length)=((n0:Nat):Int) by omega]
 apply jB
 simp [ya.r24]
 refine AX.pblock (AX.loop (GrIn3 s q n0 id c.args Z) c.args.length ⟨_,_,.refl _ _,0,n0,by omega,by omega,by omega,by omega,by omega,rfl,by simp [y3p]⟩ ?_)
 rintro m F Y ⟨k,n1,hkl,hk5,rfl,h0,h1,hY,rfl⟩
 obtain rfl:=hY.symm
 simp only [ya.l4]
 refine AX.seq (AX.test (decide (k<c.args.length∧k<100)) [(2,.fp (y3p s) 0),(5,.i .i64 (n1:Nat)),(9,.i .i64 q),(10,.p (some (id,0,6))),(11,.i .i64 k),(166,.b (decide (k<c.args.length∧k<100)))] ?_ rfl (fun h=>AX.skip ?_) (fun h=>AX.exit ?_))
 ·by_cases hkk:k<c.args.length
  ·simp [ya.r25,y3p,G4,hkk]
  ·simp [ya.r25,y3p,G4,hkk]
 ·simp at h
  have b5:=g5 _ (kL h.1)
  have hgk:c.args[k]?=some (c.args[k]'h.1):=kC h.1
  generalize c.args[k]'h.1=a at *
  have w6:Go.IntKind.i64.wrap ((n1:Int)+a.length)=(n1:Int)+a.length:=wrap_i64 (by omega) (by omega)
  simp
  refine AX.seq (AX.pblock (AX.reg ?_))
  simp [ya.r26,G4,hgk,w6]
  rw [show ((n1:Int)+a.length)=((n1+a.length:Nat):Int) by omega]
  apply jE
  simp [ya.r27,ybz (show k≤9223372036854775000 by omega)]
  refine ⟨c.args.length-(k+1),by omega,_,_,.refl _ _,k+1,n1+a.length,by omega,by omega,rfl,by omega,?_,rfl,by simp [y3p]⟩
  rw [Nat.succ_mul];omega
 ·simp
  apply jA
  simp [ya.r28]
  by_cases hbig:60000<n1
  ·refine jG (by simp;omega) (jA ?_)
   simp [ya.r29]
   apply jD
   simp
   exact X4
  ·refine jF (by simp;omega) (AX.skip ?_)
   simp
   apply jE
   simp [ya.r30,ybz (show q≤9223372036854775000 by omega)]
   refine ⟨s.cons.length-(q+1),by omega,_,_,.refl _ _,q+1,n1,by omega,rfl,by omega,fun j c' hj' hc'=>?_,X4,L4,by simp [y3p]⟩
   by_cases e:j=q
   ·subst e
    rw [hg] at hc';injection hc' with hc';subst hc';omega
   ·exact hall j c' (by omega) hc'
end Go.Proofs.YtikpijbeobeckaaGreatDoor
