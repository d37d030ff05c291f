/- Part 27. -/
import Derived.Test.YtikpijbeobeckaaGreatDoorXGw18
import Derived.Test.YtikpijbeobeckaaGreatDoorXGw26
set_option linter.unusedSimpArgs false
set_option linter.unusedVariables false
namespace Go.Proofs.YtikpijbeobeckaaGreatDoor
open Am C
section
open Go Go.RowKit
theorem Am.AC.codeR {P:Program} {f:FuncId} {fn:Func} {a:AFunc} (hf:P.funcs[f]?=some fn) (hok:y25 P fn a=true) {args:List V} {H:Hp} {R:V→Prop}
  (h:(∀id blk,H.get id=some blk→id<H.next)→AX P a.n a.body (Ends (fun r H'=>(R r∧y9w r)∧H.Ext H') a.res) (fr0 0 args) H):AC P f args H (fun r H'=>R r∧H'=H):=
 AC.lt (ynd hf hok) fun hl=>(AC.code hf hok (h hl)).trim fun r H' ⟨⟨e,hfr⟩,h1,h2⟩=>
  ⟨H,⟨kG _,h1,fun id blk hg=>⟨hl id blk hg,h2 id blk hg⟩,fun id cs m hg=>.inl ⟨m,hg⟩,fun id es hg=>.inl hg⟩,hfr.ok _,e,rfl⟩
end
theorem yab {i:Nat} (h:i≤9223372036854775000):Go.IntKind.i64.wrap ((i:Int)+1)=((i+1:Nat):Int):=by rw [wrap_i64 (by omega) (by omega)];omega
def obZ (o:Ob):Prop:=o.name.length≤140737488355328∧o.kinds.length≤140737488355328∧o.marks.length≤140737488355328∧∀m∈o.marks,m.tag.length≤140737488355328
def syZ (s:Sy):Prop:=s.objs.length≤140737488355328∧s.fns.length≤140737488355328∧s.cons.length≤140737488355328∧(∀o∈s.objs,obZ o)∧(∀f∈s.fns,fuS f∧f.ret.length≤140737488355328)∧
 ∀c∈s.cons,c.a.length≤140737488355328∧c.b.length≤140737488355328∧c.tag.length≤140737488355328∧c.args.length≤140737488355328∧∀a∈c.args,a.length≤140737488355328
def GrInv (s:Sy) (H:Hp) (m:Nat) (F:Fr) (X:Hp):Prop:=
 ∃i n,i≤s.objs.length∧m=s.objs.length-i∧n≤30000∧(∀(j:Nat) o,j<i→s.objs[j]?=some o→o.marks.length≤3000)∧X=H∧F=[(2,.fp (y5b s) 0),(5,.i .i64 (n:Nat)),(6,.i .i64 i)]
def GrIn (s:Sy) (i n0:Nat) (ms:List Mk) (H:Hp) (m:Nat) (F:Fr) (X:Hp):Prop:=
 ∃k n,k≤ms.length∧k≤100∧m=ms.length-k∧n0≤n∧n≤n0+k*140737488355328∧X=H∧F=[(2,.fp (y5b s) 0),(5,.i .i64 (n:Nat)),(6,.i .i64 i),(7,.i .i64 k)]
def GrInv2 (s:Sy) (H:Hp) (m:Nat) (F:Fr) (X:Hp):Prop:=
 ∃i n,i≤s.fns.length∧m=s.fns.length-i∧n≤30000∧X=H∧F=[(2,.fp (y5b s) 0),(5,.i .i64 (n:Nat)),(8,.i .i64 i)]
def GrInv3 (s:Sy) (H:Hp) (m:Nat) (F:Fr) (X:Hp):Prop:=
 ∃i n,i≤s.cons.length∧m=s.cons.length-i∧n≤60000∧(∀(j:Nat) c,j<i→s.cons[j]?=some c→c.args.length≤6000)∧H.Ext X∧(∀id blk,X.get id=some blk→id<X.next)∧F=[(2,.fp (y5b s) 0),(5,.i .i64 (n:Nat)),(9,.i .i64 i)]
def GrIn3 (s:Sy) (i n0 id:Nat) (args:List Str) (H:Hp) (m:Nat) (F:Fr) (X:Hp):Prop:=
 ∃k n,k≤args.length∧k≤100∧m=args.length-k∧n0≤n∧n≤n0+k*140737488355328∧X=H∧F=[(2,.fp (y5b s) 0),(5,.i .i64 (n:Nat)),(9,.i .i64 i),(10,.p (some (id,0,6))),(11,.i .i64 k)]
theorem yll (most:Nat) (hm:most≤100) (s:Sy) (hs:syZ s) (H:Hp):AC Tryz.prog y7h [.agg (y5b s),.i .i64 (most:Nat)] H (fun v H'=>(∃b,v=.b b∧(b=false→syS s))∧H'=H):=by
 obtain ⟨z1,z2,z3,zo,zf,zc⟩:=hs
 refine AC.codeR y9.at y9.ok fun hlt=>?_
 simp only [y9]
 apply jA
 simp [y9.r0,y5b]
 refine AX.seq ?_
 refine AX.test (decide (most<s.objs.length)||decide (most<s.fns.length)||decide (most<s.cons.length)) [(2,.fp (y5b s) 0),(30,.b (decide (most<s.objs.length)||decide (most<s.fns.length)||decide (most<s.cons.length)))] ?_ rfl (fun hb=>?_) (fun hb=>AX.skip ?_)
 ·by_cases h1:most<s.objs.length
  ·simp [y9.r1,y5b,h1]
  by_cases h2:most<s.fns.length
  ·simp [y9.r1,y5b,h1,h2]
  ·simp [y9.r1,y5b,h1,h2]
 ·apply jA
  simp [y9.r2]
  apply jD
  simp
  exact .refl _
 simp at hb
 simp
 apply jA
 simp [y9.r3]
 apply jB
 simp [y9.r4]
 refine AX.pblock (AX.loop (GrInv s H) s.objs.length ⟨_,_,.refl _ _,0,0,by omega,by omega,by omega,fun j o h=>by omega,rfl,by simp [y5b]⟩ ?_)
 rintro m F X ⟨i,n,hi,rfl,hn,hmk,hX,rfl⟩
 obtain rfl:=hX.symm
 simp only [y9.l0]
 apply jB
 simp [y9.r5,y5b]
 refine AX.pcond rfl (fun hc=>AX.skip ?_) (fun hc=>AX.exit ?_)
 ·simp at hc
  obtain ⟨b1,b2,b3,b4⟩:=zo _ (kL hc)
  have hg:s.objs[i]?=some s.objs[i]:=kC hc
  simp
  generalize s.objs[i]=o at *
  have w1:Go.IntKind.i64.wrap ((n:Int)+o.name.length)=(n:Int)+o.name.length:=wrap_i64 (by omega) (by omega)
  have w2:Go.IntKind.i64.wrap ((n:Int)+o.name.length+o.kinds.length)=(n:Int)+o.name.length+o.kinds.length:=wrap_i64 (by omega) (by omega)
  have w3:Go.IntKind.i64.wrap (10*(o.marks.length:Int))=10*(o.marks.length:Int):=wrap_i64 (by omega) (by omega)
  have w4:Go.IntKind.i64.wrap ((n:Int)+o.name.length+o.kinds.length+10*o.marks.length)=(n:Int)+o.name.length+o.kinds.length+10*o.marks.length:=wrap_i64 (by omega) (by omega)
  refine AX.seq (AX.pblock (AX.seq (AX.drw ?_)))
  simp [y9.r6,y5b,hg,y4l,w1,w2,w3,w4]
  obtain ⟨n0,hn0⟩:∃n0,n0=n+o.name.length+o.kinds.length+10*o.marks.length:=⟨_,rfl⟩
  rw [show ((n:Int)+o.name.length+o.kinds.length+10*o.marks.length)=((n0:Nat):Int) by omega]
  apply jB
  simp [y9.r7]
  refine AX.pblock (AX.loop (GrIn s i n0 o.marks H) o.marks.length ⟨_,_,.refl _ _,0,n0,by omega,by omega,by omega,by omega,by omega,rfl,by simp [y5b]⟩ ?_)
  rintro m F Y ⟨k,n1,hkl,hk5,rfl,h0,h1,hY,rfl⟩
  obtain rfl:=hY.symm
  simp only [y9.l1]
  refine AX.seq (AX.test (decide (k<o.marks.length∧k<100)) [(2,.fp (y5b s) 0),(5,.i .i64 (n1:Nat)),(6,.i .i64 i),(7,.i .i64 k),(76,.b (decide (k<o.marks.length∧k<100)))] ?_ rfl (fun h=>AX.skip ?_) (fun h=>AX.exit ?_))
  ·by_cases hkk:k<o.marks.length
   ·simp [y9.r8,y5b,hg,y4l,hkk]
   ·simp [y9.r8,y5b,hg,y4l,hkk]
  ·simp at h
   have b5:=b4 _ (kL h.1)
   have hgk:o.marks[k]?=some (o.marks[k]'h.1):=kC h.1
   generalize o.marks[k]'h.1=mk at *
   have w5:Go.IntKind.i64.wrap ((n1:Int)+mk.tag.length)=(n1:Int)+mk.tag.length:=wrap_i64 (by omega) (by omega)
   simp
   refine AX.seq (AX.pblock (AX.reg ?_))
   simp [y9.r9,y5b,hg,hgk,y4l,y8a,w5]
   rw [show ((n1:Int)+mk.tag.length)=((n1+mk.tag.length:Nat):Int) by omega]
   apply jE
   simp [y9.r10,yab (show k≤9223372036854775000 by omega)]
   refine ⟨o.marks.length-(k+1),by omega,_,_,.refl _ _,k+1,n1+mk.tag.length,by omega,by omega,rfl,by omega,?_,rfl,by simp [y5b]⟩
   rw [Nat.succ_mul];omega
  ·simp
   apply jA
   simp [y9.r11]
   by_cases hbig:30000<n1
   ·refine jG (by simp;omega) (jA ?_)
    simp [y9.r12]
    apply jD
    simp
    exact .refl _
   ·refine jF (by simp;omega) (AX.skip ?_)
    simp
    apply jE
    simp [y9.r13,yab (show i≤9223372036854775000 by omega)]
    refine ⟨s.objs.length-(i+1),by omega,_,_,.refl _ _,i+1,n1,by omega,rfl,by omega,fun j o' hj' ho'=>?_,rfl,by simp [y5b]⟩
    by_cases e:j=i
    ·subst e
     rw [hg] at ho';injection ho' with ho';subst ho';omega
    ·exact hmk j o' (by omega) ho'
 simp at hc
 simp
 apply jB
 simp [y9.r14]
 refine AX.pblock (AX.loop (GrInv2 s H) s.fns.length ⟨_,_,.refl _ _,0,n,by omega,by omega,by omega,rfl,by simp [y5b]⟩ ?_)
 rintro m F X ⟨j,n2,hj,rfl,hn2,hX,rfl⟩
 obtain rfl:=hX.symm
 simp only [y9.l2]
 apply jB
 simp [y9.r15,y5b]
 refine AX.pcond rfl (fun hd=>AX.skip ?_) (fun hd=>AX.exit ?_)
 ·simp at hd
  obtain ⟨⟨b1,b2⟩,b3⟩:=zf _ (kL hd)
  have hg:s.fns[j]?=some s.fns[j]:=kC hd
  simp
  generalize s.fns[j]=f at *
  have w1:Go.IntKind.i64.wrap ((n2:Int)+f.name.length)=(n2:Int)+f.name.length:=wrap_i64 (by omega) (by omega)
  have w2:Go.IntKind.i64.wrap ((n2:Int)+f.name.length+f.kinds.length)=(n2:Int)+f.name.length+f.kinds.length:=wrap_i64 (by omega) (by omega)
  have w3:Go.IntKind.i64.wrap ((n2:Int)+f.name.length+f.kinds.length+f.ret.length)=(n2:Int)+f.name.length+f.kinds.length+f.ret.length:=wrap_i64 (by omega) (by omega)
  refine AX.seq (AX.pblock (AX.seq (AX.drw ?_)))
  simp [y9.r16,y5b,hg,y75,w1,w2,w3]
  obtain ⟨n1,hn1⟩:∃n1,n1=n2+f.name.length+f.kinds.length+f.ret.length:=⟨_,rfl⟩
  rw [show ((n2:Int)+f.name.length+f.kinds.length+f.ret.length)=((n1:Nat):Int) by omega]
  apply jA
  simp [y9.r17]
  by_cases hbig:30000<n1
  ·refine jG (by simp;omega) (jA ?_)
   simp [y9.r18]
   apply jD
   simp
   exact .refl _
  ·refine jF (by simp;omega) (AX.skip ?_)
   simp
   apply jE
   simp [y9.r19,yab (show j≤9223372036854775000 by omega)]
   exact ⟨s.fns.length-(j+1),by omega,_,_,.refl _ _,j+1,n1,by omega,rfl,by omega,rfl,by simp [y5b]⟩
 simp at hd
 simp
 apply jB
 simp [y9.r20]
 refine AX.pblock (AX.loop (GrInv3 s H) s.cons.length ⟨_,_,.refl _ _,0,n2,by omega,by omega,by omega,fun j c h=>by omega,.refl _,hlt,by simp [y5b]⟩ ?_)
 rintro m F X ⟨q,n3,hq,rfl,hn3,hall,X1,L1,rfl⟩
 simp only [y9.l3]
 apply jB
 simp [y9.r21,y5b]
 refine AX.pcond rfl (fun he=>AX.skip ?_) (fun he=>AX.exit ?_)
 case refine_2=>
  simp at he
  simp
  apply jA
  simp [y9.r31]
  apply jD
  simp
  refine ⟨⟨by omega,by omega,by omega,fun o hom=>?_,fun f hf=>(zf f hf).1,fun c hcm=>?_⟩,X1⟩
  ·obtain ⟨g1,g2,g3,g4⟩:=zo o hom
   obtain ⟨k,hk⟩:=List.mem_iff_getElem?.1 hom
   have:=hmk k o (by have:=(List.getElem?_eq_some_iff.1 hk).1;omega) hk
   exact ⟨g1,g2,by omega,g4⟩
  obtain ⟨g1,g2,g3,g4,g5⟩:=zc c hcm
  obtain ⟨k,hk⟩:=List.mem_iff_getElem?.1 hcm
  have:=hall k c (by have:=(List.getElem?_eq_some_iff.1 hk).1;omega) hk
  exact ⟨g1,g2,g3,by omega,g5⟩
 simp at he
 obtain ⟨g1,g2,g3,g4,g5⟩:=zc _ (kL he)
 have hg:s.cons[q]?=some s.cons[q]:=kC he
 simp
 generalize s.cons[q]=c at *
 apply jC
 simp [y9.r22,hg,y3n,ss]
 have X4:=X1.trans (yfy L1 (.cells [.i .i64 0,.s [],.s [],.i .i64 0,.s [],.sl none 0 0] 6) (.cells [.i .i64 c.op,.s c.a,.s c.b,.i .i64 c.k,.s c.tag,.fs (c.args.map fun x=>[.s x])] 6))
 have L4:=lt2 L1 (.cells [.i .i64 0,.s [],.s [],.i .i64 0,.s [],.sl none 0 0] 6) (.cells [.i .i64 c.op,.s c.a,.s c.b,.i .i64 c.k,.s c.tag,.fs (c.args.map fun x=>[.s x])] 6)
 have G4:((X.add (.cells [.i .i64 0,.s [],.s [],.i .i64 0,.s [],.sl none 0 0] 6)).upd X.next (.cells [.i .i64 c.op,.s c.a,.s c.b,.i .i64 c.k,.s c.tag,.fs (c.args.map fun x=>[.s x])] 6)).get X.next=some (.cells [.i .i64 c.op,.s c.a,.s c.b,.i .i64 c.k,.s c.tag,.fs (c.args.map fun x=>[.s x])] 6):=by simp
 generalize (X.add (.cells [.i .i64 0,.s [],.s [],.i .i64 0,.s [],.sl none 0 0] 6)).upd X.next (.cells [.i .i64 c.op,.s c.a,.s c.b,.i .i64 c.k,.s c.tag,.fs (c.args.map fun x=>[.s x])] 6)=Z at *
 generalize X.next=id at *
 have w1:Go.IntKind.i64.wrap ((n3:Int)+c.a.length)=(n3:Int)+c.a.length:=wrap_i64 (by omega) (by omega)
 have w2:Go.IntKind.i64.wrap ((n3:Int)+c.a.length+c.b.length)=(n3:Int)+c.a.length+c.b.length:=wrap_i64 (by omega) (by omega)
 have w3:Go.IntKind.i64.wrap ((n3:Int)+c.a.length+c.b.length+c.tag.length)=(n3:Int)+c.a.length+c.b.length+c.tag.length:=wrap_i64 (by omega) (by omega)
 have w4:Go.IntKind.i64.wrap (10*(c.args.length:Int))=10*(c.args.length:Int):=wrap_i64 (by omega) (by omega)
 have w5:Go.IntKind.i64.wrap ((n3:Int)+c.a.length+c.b.length+c.tag.length+10*c.args.length)=(n3:Int)+c.a.length+c.b.length+c.tag.length+10*c.args.length:=wrap_i64 (by omega) (by omega)
 apply jA
 simp [y9.r23,G4,w1,w2,w3,w4,w5]
 obtain ⟨n0,hn0⟩:∃n0,n0=n3+c.a.length+c.b.length+c.tag.length+10*c.args.length:=⟨_,rfl⟩
 rw [show ((n3:Int)+c.a.length+c.b.length+c.tag.length+10*c.args.length)=((n0:Nat):Int) by omega]
 apply jB
 simp [y9.r24]
 refine AX.pblock (AX.loop (GrIn3 s q n0 id c.args Z) c.args.length ⟨_,_,.refl _ _,0,n0,by omega,by omega,by omega,by omega,by omega,rfl,by simp [y5b]⟩ ?_)
 rintro m F Y ⟨k,n1,hkl,hk5,rfl,h0,h1,hY,rfl⟩
 obtain rfl:=hY.symm
 simp only [y9.l4]
 refine AX.seq (AX.test (decide (k<c.args.length∧k<100)) [(2,.fp (y5b s) 0),(5,.i .i64 (n1:Nat)),(9,.i .i64 q),(10,.p (some (id,0,6))),(11,.i .i64 k),(166,.b (decide (k<c.args.length∧k<100)))] ?_ rfl (fun h=>AX.skip ?_) (fun h=>AX.exit ?_))
 ·by_cases hkk:k<c.args.length
  ·simp [y9.r25,y5b,G4,hkk]
  ·simp [y9.r25,y5b,G4,hkk]
 ·simp at h
  have b5:=g5 _ (kL h.1)
  have hgk:c.args[k]?=some (c.args[k]'h.1):=kC h.1
  generalize c.args[k]'h.1=a at *
  have w6:Go.IntKind.i64.wrap ((n1:Int)+a.length)=(n1:Int)+a.length:=wrap_i64 (by omega) (by omega)
  simp
  refine AX.seq (AX.pblock (AX.reg ?_))
  simp [y9.r26,G4,hgk,w6]
  rw [show ((n1:Int)+a.length)=((n1+a.length:Nat):Int) by omega]
  apply jE
  simp [y9.r27,yab (show k≤9223372036854775000 by omega)]
  refine ⟨c.args.length-(k+1),by omega,_,_,.refl _ _,k+1,n1+a.length,by omega,by omega,rfl,by omega,?_,rfl,by simp [y5b]⟩
  rw [Nat.succ_mul];omega
 ·simp
  apply jA
  simp [y9.r28]
  by_cases hbig:60000<n1
  ·refine jG (by simp;omega) (jA ?_)
   simp [y9.r29]
   apply jD
   simp
   exact X4
  ·refine jF (by simp;omega) (AX.skip ?_)
   simp
   apply jE
   simp [y9.r30,yab (show q≤9223372036854775000 by omega)]
   refine ⟨s.cons.length-(q+1),by omega,_,_,.refl _ _,q+1,n1,by omega,rfl,by omega,fun j c' hj' hc'=>?_,X4,L4,by simp [y5b]⟩
   by_cases e:j=q
   ·subst e
    rw [hg] at hc';injection hc' with hc';subst hc';omega
   ·exact hall j c' (by omega) hc'
end Go.Proofs.YtikpijbeobeckaaGreatDoor
namespace Go.Proofs.YtikpijbeobeckaaGreatDoor.Am
open Go Go.RowKit Go.WideShapes Go.ChangeShapes Go.ChangeAt
mutual
inductive IsZ:Ty→List V→Prop
 | bool (x:Bool):IsZ .bool [.b x]
 | int (k:IntKind) (n:Int):inInt k n→IsZ (.int k) [.i k n]
 | str (x:List UInt8):x.length≤140737488351232→IsZ .str [.s x]
 | sl (e:Ty) (es:List (List V)):es.length≤140737488351232→(∀x,x∈es→IsZ e x)→IsZ (.sl e) [.fs es]
 | st (fs:List Ty) (vs:List V):IsZs fs vs→IsZ (.st fs) vs
inductive IsZs:List Ty→List V→Prop
 | nil:IsZs [] []
 | cons (t:Ty) (ts:List Ty) (a b:List V):IsZ t a→IsZs ts b→IsZs (t::ts) (a++b)
end
def ymn (P:Program) (go:TypeId→Option Ty) (off:Nat):List Field→Option (List Ty × Nat)
 | []=>some ([],off)
 | f::fs=>
  if f.offset=off then
   match go f.type,ymn P go (off+P.cellsOf f.type) fs with
   | some T,some (Ts,n)=>some (T::Ts,n)
   | _,_=>none
  else none
def yb4 (P:Program):Nat→TypeId→Option Ty
 | 0,_=>none
 | d+1,t=>
  match P.underlying t with
  | some .bool=>some .bool
  | some (.int k)=>some (.int k)
  | some .string=>some .str
  | some (.slice e)=>if 0<P.cellsOf e∧0<P.bytesOf e then (yb4 P d e).map .sl else none
  | some (.struct fs)=>match ymn P (yb4 P d) 0 fs.toList with
   | some (ts,n)=>if n=P.cellsOf t then some (.st ts) else none
   | none=>none
  | some (.array n e)=>match yb4 P d e with
   | some T=>if n*P.cellsOf e=P.cellsOf t∧n≤64 then some (.st (List.replicate n T)) else none
   | none=>none
  | _=>none
theorem y8r {H:Type} {P:Program} {e:TypeId}:∀{l:List (DataW H)} {d:DataW H},d∈l→∀{n:Nat},n∈d.weights P e→n∈DataW.weightsAll P e l
 | x::l,d,h,n,hn=>by
  simp only [DataW.weightsAll,kZ]
  rcases List.mem_cons.1 h with rfl | h
  ·exact .inl hn
  ·exact .inr (y8r h hn)
section
variable {H:Type} {enc:TypeId × Value→H} {P:Program} {w:World} {spare:Nat→Bool} {held:Bool}
theorem yhx {t e:TypeId} {n fuel:Nat} {cs:List Value} {x:DataW H × List MemPlace} (ht:P.underlying t=some (.array n e)) (h:DataW.trod enc P w 0 spare held fuel t cs=some x):
  ∃(xs:List (DataW H × List MemPlace)) (m:Nat),fuel=m+1∧x.1=.agg (xs.map (·.1))∧cs.length=P.cellsOf t∧xs.length=n∧∀i,i<n→DataW.trod enc P w 0 spare held m e ((cs.drop (i*P.cellsOf e)).take (P.cellsOf e))=xs[i]?:=by
 cases fuel with
 | zero=>simp [DataW.trod] at h
 | succ m=>
  unfold DataW.trod at h
  rw [ht] at h
  split at h <;> simp_all
  obtain ⟨hl,xs,hp,hd⟩:=h
  obtain ⟨h1,h2⟩:=yfs _ _ _ hp
  refine ⟨xs,by rw [←hd],by simpa using h1,fun i hi=>?_⟩
  obtain ⟨y,q1,q2⟩:=h2 i i (by simp [hi])
  rw [q2,q1]
theorem yjb (fuel d:Nat) (cs:List Value) (ih:∀(t:TypeId) (T:Ty) (cs:List Value) (x:DataW H × List MemPlace),yb4 P d t=some T→DataW.trod enc P w 0 spare held fuel t cs=some x→(∀n∈x.1.weights P t,n≤140737488351232)→∃vs,VRs (K.start w) vs cs∧IsZ T vs):
  ∀(fs:List Field) (off:Nat) (Ts:List Ty) (n:Nat),ymn P (yb4 P d) off fs=some (Ts,n)→(∀f∈fs,∃x,DataW.trod enc P w 0 spare held fuel f.type ((cs.drop f.offset).take (P.cellsOf f.type))=some x∧∀n∈x.1.weights P f.type,n≤140737488351232)→
   ∃vs,VRs (K.start w) vs ((cs.drop off).take (n-off))∧IsZs Ts vs∧off≤n
 | [],off,Ts,n,h,_=>by
  unfold ymn at h
  injection h with h;injection h with h1 h2;subst h1;subst h2
  exact ⟨[],⟨by simp,fun j v h=>by simp at h⟩,.nil,kG _⟩
 | f::fs,off,Ts,n,h,hx=>by
  unfold ymn at h
  split at h
  ·rename_i hoff
   split at h
   ·rename_i T Ts' n' h1 h2
    injection h with h;injection h with e1 e2;subst e1;subst e2
    obtain ⟨x,hx0,hxB⟩:=hx f (by simp)
    obtain ⟨va,ra,ia⟩:=ih _ _ _ _ h1 hx0 hxB
    obtain ⟨vb,rb,ib,hle⟩:=yjb fuel d cs ih fs _ _ _ h2 (fun g hg=>hx g (by simp [hg]))
    refine ⟨va++vb,?_,.cons _ _ _ _ ia ib,by omega⟩
    rw [hoff] at ra
    have e:(cs.drop off).take (n'-off)=(cs.drop off).take (P.cellsOf f.type)++(cs.drop (off+P.cellsOf f.type)).take (n'-(off+P.cellsOf f.type)):=by
     have:n'-off=P.cellsOf f.type+(n'-(off+P.cellsOf f.type)):=by omega
     rw [this,List.take_add,List.drop_drop]
     try (congr 2;omega)
    rw [e]
    exact ra.append rb
   ·cases h
  ·cases h
theorem ypn {T:Ty} (cs:List Value) (n c:Nat) (h:∀i,i<n→∃vs,VRs (K.start w) vs ((cs.drop (i*c)).take c)∧IsZ T vs):∀k,k≤n→∃vs,VRs (K.start w) vs ((cs.drop ((n-k)*c)).take (k*c))∧IsZs (List.replicate k T) vs
 | 0,_=>⟨[],⟨by simp,fun j v h=>by simp at h⟩,.nil⟩
 | k+1,hk=>by
  obtain ⟨va,ra,ia⟩:=h (n-(k+1)) (by omega)
  obtain ⟨vb,rb,ib⟩:=ypn cs n c h k (by omega)
  refine ⟨va++vb,?_,by rw [List.replicate_succ];exact .cons _ _ _ _ ia ib⟩
  have e1:(n-k)*c=(n-(k+1))*c+c:=by rw [←Nat.succ_mul];congr 1;omega
  rw [e1] at rb
  have e:(cs.drop ((n-(k+1))*c)).take ((k+1)*c)=(cs.drop ((n-(k+1))*c)).take c++(cs.drop ((n-(k+1))*c+c)).take (k*c):=by
   rw [show (k+1)*c=c+k*c by rw [Nat.succ_mul,Nat.add_comm],List.take_add,List.drop_drop]
  rw [e]
  exact ra.append rb
theorem yd4:∀(fuel d:Nat) (t:TypeId) (T:Ty) (cs:List Value) (x:DataW H × List MemPlace),yb4 P d t=some T→DataW.trod enc P w 0 spare held fuel t cs=some x→(∀n∈x.1.weights P t,n≤140737488351232)→
  ∃vs,VRs (K.start w) vs cs∧IsZ T vs
 | 0,_,_,_,_,_,_,h,_=>by simp [DataW.trod] at h
 | fuel+1,0,_,_,_,_,h,_,_=>by simp [yb4] at h
 | fuel+1,d+1,t,T,cs,x,hT,h,hB=>by
  unfold yb4 at hT
  cases hu:P.underlying t with
  | none=>simp [hu] at hT
  | some desc=>
   simp only [hu] at hT
   cases desc <;> simp only [reduceCtorEq] at hT
   case bool=>
    injection hT with hT;subst hT
    obtain ⟨b,rfl,_⟩:=DataW.trod_bool hu h
    exact ⟨[.b b],.single (.b b),.bool b⟩
   case int k=>
    injection hT with hT;subst hT
    obtain ⟨n,rfl,_,hw⟩:=DataW.trod_int hu h
    exact ⟨[.i k n],.single (.i k n),.int k n (wf_in hw)⟩
   case string=>
    injection hT with hT;subst hT
    obtain ⟨s,rfl,hxs,hs⟩:=DataW.trod_string hu h
    rw [hxs] at hB
    refine ⟨[.s s.data.toList],.single ?_,.str _ ?_⟩
    ·have:=VR.s (κ:=K.start w) s.data.toList
     simpa using this
    ·exact hB _ (by simp only [DataW.weights];simp)
   case slice e=>
    split at hT
    ·rename_i hc
     cases hTe:yb4 P d e with
     | none=>simp [hTe] at hT
     | some Te=>
      simp [hTe] at hT;subst hT
      rcases DataW.trod_slice hu h with ⟨rfl,_⟩ | ⟨a,len,cap,elems,rest,n,hn,rfl,hxs,_,hlc,hcm,hel,hE,_⟩
      ·refine ⟨[.fs []],.single ?_,.sl _ _ (by simp) (fun x hx=>by simp at hx)⟩
       exact VR.fs (κ:=K.start w) [] 0 1 0 0 none (fun _ _=>undef) (kG _) (fun e he=>by simp at he) (fun _=>rfl) (fun h=>absurd rfl h) (fun i j e v hi=>by simp at hi) (fun i j e v hi=>by simp at hi)
      ·injection hn with hn;subst hn
       rw [hxs] at hB
       have hB0:=hB ((elems.length+rest.length)*P.bytesOf e) (by simp [DataW.weights,hu])
       have hB1:∀(i:Nat) y,elems[i]?=some y→∀n∈y.1.weights P e,n≤140737488351232:=fun i y hy n hn=>hB n (by
        simp only [DataW.weights,hu,kK,kZ]
        exact .inr (.inl (y8r (List.mem_map.2 ⟨y,kY hy,rfl⟩) hn)))
       have each:∀i,i<len→∃q:List V × List Value,q.2.length=P.cellsOf e∧(∀(j:Nat) c,q.2[j]?=some c→w.cell? ((a.add (i*P.cellsOf e)).add j)=some c)∧VRs (K.start w) q.1 q.2∧IsZ Te q.1:=fun i hi=>by
        have h1:=hE i hi
        rw [kC (by omega)] at h1
        cases hcs:w.cells? 0 (a.add (i*P.cellsOf e)) (P.cellsOf e) with
        | none=>simp [hcs] at h1
        | some ecs=>
         simp [hcs] at h1
         obtain ⟨vs,r,it⟩:=yd4 fuel d e Te ecs _ hTe h1 (hB1 i _ (kC (by omega)))
         obtain ⟨q1,q2⟩:=y76 hcs
         exact ⟨(vs,ecs),q1,q2,r,it⟩
       obtain ⟨l,hl,hp⟩:=ye5 _ len each
       have hmax:len≤140737488351232:=by
        have:=Nat.le_mul_of_pos_right (elems.length+rest.length) hc.2
        omega
       have spot:0<len→a.spot=none:=fun h0=>by
        have hl0:0<l.length:=by omega
        obtain ⟨b1,b2,b3,b4⟩:=hp 0 _ (kC hl0)
        have hlt:0<(l[0]).2.length:=by have:=hc.1;omega
        have:=b2 0 _ (kC hlt)
        simp only [Nat.zero_mul] at this
        rw [show (a.add 0).add 0=a from by simp [Addr.add]] at this
        unfold World.cell? at this
        split at this
        ·split at this
         ·cases this
         ·rename_i hs;simpa using hs
        ·cases this
       have addr:∀i j,0<len→(a.add (i*P.cellsOf e)).add j=⟨a.block,a.off+i*P.cellsOf e+j,none⟩:=fun i j h0=>by
        have hs:=spot h0
        have ha:a=⟨a.block,a.off,none⟩:=by cases a;simp only at hs;subst hs;rfl
        rw [ha,y4h,y4h]
       have key:=VR.fs (κ:=K.start w) (l.map (·.1)) cap (P.cellsOf e) a.block a.off (some a) (fun i j=>((l.getD i ([],[])).2).getD j undef) (by simpa [hl] using hlc)
        (fun x hx=>by
         simp only [List.mem_map] at hx
         obtain ⟨q,hq,rfl⟩:=hx
         obtain ⟨i,hi⟩:=List.mem_iff_getElem?.1 hq
         obtain ⟨b1,b2,b3,b4⟩:=hp i q hi
         rw [b3.1,b1]) (fun h=>by cases h)
        (fun hne=>by
         have h0:0<len:=by
          rcases Nat.eq_zero_or_pos len with h | h
          ·exfalso;apply hne;have:l=[]:=by cases l <;> simp at hl ⊢;omega
           rw [this];rfl
          ·exact h
         refine ⟨?_,?_⟩
         ·have hs:=spot h0
          cases a;simp only at hs;subst hs;rfl
         ·have hl0:0<l.length:=by omega
          obtain ⟨b1,b2,b3,b4⟩:=hp 0 _ (kC hl0)
          have hlt:0<(l[0]).2.length:=by have:=hc.1;omega
          have:=b2 0 _ (kC hlt)
          rw [addr 0 0 h0] at this
          exact World.block_lt_of_cell? w ⟨a.block,_,none⟩ this)
        (fun i j x v hi hj=>by
         have h0:0<len:=by
          have:=(List.getElem?_eq_some_iff.1 hi).1
          simp at this;omega
         simp only [List.getElem?_map] at hi
         cases hq:l[i]? with
         | none=>simp [hq] at hi
         | some q=>
          simp [hq] at hi;subst hi
          obtain ⟨b1,b2,b3,b4⟩:=hp i q hq
          obtain ⟨c,c1,c2⟩:=b3.get hj
          have:=b2 j c c1
          rw [addr i j h0] at this
          simp only [List.getD,hq,Option.getD_some,c1]
          exact this)
        (fun i j x v hi hj=>by
         simp only [List.getElem?_map] at hi
         cases hq:l[i]? with
         | none=>simp [hq] at hi
         | some q=>
          simp [hq] at hi;subst hi
          obtain ⟨b1,b2,b3,b4⟩:=hp i q hq
          have:=b3.2 j v hj
          simp only [List.getD,hq,Option.getD_some] at this ⊢
          exact this)
       rw [List.length_map,hl] at key
       refine ⟨[.fs (l.map (·.1))],.single key,.sl _ _ (by simpa [hl] using hmax) (fun x hx=>?_)⟩
       simp only [List.mem_map] at hx
       obtain ⟨q,hq,rfl⟩:=hx
       obtain ⟨i,hi⟩:=List.mem_iff_getElem?.1 hq
       exact (hp i q hi).2.2.2
    ·cases hT
   case array n e=>
    split at hT
    ·rename_i Te hTe
     split at hT
     ·rename_i hc
      injection hT with hT;subst hT
      obtain ⟨xs,m,hm,hxs,hl,hxl,hx⟩:=yhx hu h
      rw [hxs] at hB
      injection hm with hm;subst hm
      obtain ⟨vs,r,it⟩:=ypn (w:=w) (T:=Te) cs n (P.cellsOf e) (fun i hi=>by
       have h1:=hx i hi
       rw [kC (by omega)] at h1
       exact yd4 fuel d e Te _ _ hTe h1 fun n hn=>hB n (by
        simp only [DataW.weights,hu]
        exact y8r (List.mem_map.2 ⟨_,kL (by omega),rfl⟩) hn)) n (kG _)
      simp only [Nat.sub_self,Nat.zero_mul,List.drop_zero] at r
      rw [kI (by omega)] at r
      exact ⟨vs,r,.st _ _ it⟩
     ·cases hT
    ·cases hT
   case struct fs=>
    split at hT
    ·rename_i Ts n hTs
     split at hT
     ·rename_i hc
      injection hT with hT;subst hT
      obtain ⟨xs,m,hm,hxs,hl,hxl,hx⟩:=DataW.trod_struct hu h
      rw [hxs] at hB
      injection hm with hm;subst hm
      obtain ⟨vs,r,it,_⟩:=yjb fuel d cs (fun t T cs x h1 h2 h3=>yd4 fuel d t T cs x h1 h2 h3) fs.toList 0 Ts n hTs (fun f hf=>by
       obtain ⟨i,hi⟩:=List.mem_iff_getElem?.1 hf
       have hi':fs[i]?=some f:=by simpa using hi
       have h1:=hx i f hi'
       have hlt:i<xs.length:=by rw [hxl];exact (Array.getElem?_eq_some_iff.1 hi').1
       rw [kC hlt] at h1
       refine ⟨_,h1,fun n hn=>hB n ?_⟩
       simp only [DataW.weights,hu]
       exact DataW.weights_mem_each (j:=i) (t:=f.type) (d:=(xs[i]).1) (by simp [hi']) (by simp [hlt]) n hn)
      simp only [List.drop_zero,Nat.sub_zero] at r
      rw [kI (by omega)] at r
      exact ⟨vs,r,.st _ _ it⟩
     ·cases hT
    ·cases hT
   all_goals cases hT
end
def asZ (T:Ty) (v:V):Prop:=match T with
 | .st fs=>∃vs,v=.agg vs∧IsZs fs vs
 | T=>IsZ T [v]
theorem argZ_VR {H:Type} {enc:TypeId × Value→H} {P:Program} {w:World} {t:TypeId} {T:Ty} {v:Value} {d:DataW H} {ps:List MemPlace} (k:Nat) (hT:yb4 P k t=some T) {base:Nat} (hval:Value.okWide P w .any base t v)
  (h:DataW.Trod enc P w 0 (fun _=>true) true t v d ps) (hB:∀n∈d.weights P t,n≤140737488351232):∃u,VR (K.start w) u v∧asZ T u:=by
 obtain ⟨fuel,hf⟩:=h
 obtain ⟨vs,r,it⟩:=yd4 fuel k t T _ _ hT hf hB
 cases k with
 | zero=>simp [yb4] at hT
 | succ k=>
  unfold yb4 at hT
  cases hu:P.underlying t with
  | none=>simp [hu] at hT
  | some desc=>
   simp only [hu] at hT
   cases desc <;> simp only [reduceCtorEq] at hT
   case bool=>
    injection hT with hT;subst hT
    obtain ⟨b,rfl⟩:=okWide_bool hu hval
    cases it with | bool x=>
    obtain ⟨c,h1,h2⟩:=r.one
    simp [Value.cells] at h1;subst h1
    exact ⟨_,h2,.bool x⟩
   case int q=>
    injection hT with hT;subst hT
    obtain ⟨b,rfl⟩:=okWide_int hu hval
    cases it with | int _ n hn=>
    obtain ⟨c,h1,h2⟩:=r.one
    simp [Value.cells] at h1;subst h1
    exact ⟨_,h2,.int q n hn⟩
   case string=>
    injection hT with hT;subst hT
    obtain ⟨b,rfl⟩:=okWide_string hu hval
    cases it with | str x hx=>
    obtain ⟨c,h1,h2⟩:=r.one
    simp [Value.cells] at h1;subst h1
    exact ⟨_,h2,.str x hx⟩
   case slice e=>
    split at hT
    ·cases hh:yb4 P k e with
     | none=>simp [hh] at hT
     | some Te=>
      simp [hh] at hT;subst hT
      obtain ⟨a,len,cap,rfl⟩:=okWide_slice hu hval
      cases it with | sl _ es h1 h2=>
      obtain ⟨c,h1',h2'⟩:=r.one
      simp [Value.cells] at h1';subst h1'
      exact ⟨_,h2',.sl _ es h1 h2⟩
    ·cases hT
   case array n e=>
    have hagg:∃cs,v=.agg cs:=by
     unfold Value.okWide at hval
     simp only [hu] at hval
     obtain ⟨cs,h1,_⟩:=hval;exact ⟨cs,h1⟩
    obtain ⟨cs,rfl⟩:=hagg
    split at hT
    ·split at hT
     ·injection hT with hT;subst hT
      cases it with | st _ _ its=>
      exact ⟨.agg vs,VR.agg' (by simpa [Value.cells] using r),vs,rfl,its⟩
     ·cases hT
    ·cases hT
   case struct fs=>
    have hagg:∃cs,v=.agg cs:=by
     unfold Value.okWide at hval
     simp only [hu] at hval
     obtain ⟨cs,h1,_⟩:=hval;exact ⟨cs,h1⟩
    obtain ⟨cs,rfl⟩:=hagg
    split at hT
    ·split at hT
     ·injection hT with hT;subst hT
      cases it with | st _ _ its=>
      exact ⟨.agg vs,VR.agg' (by simpa [Value.cells] using r),vs,rfl,its⟩
     ·cases hT
    ·cases hT
   all_goals cases hT
theorem yju {α:Type} {T:Ty} (enc:α→List V) (ok:α→Prop) (h:∀vs,IsZ T vs→∃x,vs=enc x∧ok x):∀(es:List (List V)),(∀x,x∈es→IsZ T x)→∃l:List α,es=l.map enc∧∀x∈l,ok x
 | [],_=>⟨[],rfl,fun x hx=>by simp at hx⟩
 | e::es,he=>by
  obtain ⟨x,hx,ox⟩:=h e (he e (by simp))
  obtain ⟨l,hl,ol⟩:=yju enc ok h es (fun y hy=>he y (by simp [hy]))
  refine ⟨x::l,by simp [hx,hl],fun y hy=>?_⟩
  rcases List.mem_cons.1 hy with rfl | hy
  ·exact ox
  ·exact ol y hy
theorem y8z {vs:List V} (h:IsZ .str vs):∃x:List UInt8,vs=[.s x]∧x.length≤140737488351232:=by cases h with | str x hx=>exact ⟨x,rfl,hx⟩
theorem yif {k:IntKind} {vs:List V} (h:IsZ (.int k) vs):∃n:Int,vs=[.i k n]∧inInt k n:=by cases h with | int _ n hn=>exact ⟨n,rfl,hn⟩
theorem yh0 {α:Type} {T:Ty} {vs:List V} (enc:α→List V) (ok:α→Prop) (hT:∀vs,IsZ T vs→∃x,vs=enc x∧ok x) (h:IsZ (.sl T) vs):
  ∃l:List α,vs=[.fs (l.map enc)]∧l.length≤140737488351232∧∀x∈l,ok x:=by
 cases h with
 | sl _ es h1 h2=>
  obtain ⟨l,hl,ol⟩:=yju enc ok hT es h2
  exact ⟨l,by rw [hl],by rw [hl] at h1;simpa using h1,ol⟩
theorem ybx {vs:List V} (h:IsZs [] vs):vs=[]:=by cases h;rfl
theorem y46 {t:Ty} {ts:List Ty} {vs:List V} (h:IsZs (t::ts) vs):∃a b,vs=a++b∧IsZ t a∧IsZs ts b:=by cases h with | cons _ _ a b ha hb=>exact ⟨a,b,rfl,ha,hb⟩
theorem yjx {ts:List Ty} {vs:List V} (h:IsZ (.st ts) vs):IsZs ts vs:=by cases h with | st _ _ h=>exact h
def yge (P:Program) (k:Nat):List TypeId→Option (List Ty)
 | []=>some []
 | t::ts=>match yb4 P k t,yge P k ts with
  | some T,some Ts=>some (T::Ts)
  | _,_=>none
def ArgsZ:List Ty→List V→Prop
 | [],us=>us=[]
 | T::Ts,us=>∃u us',us=u::us'∧asZ T u∧ArgsZ Ts us'
theorem ykh {H:Type} {enc:TypeId × Value→H} {P:Program} {w:World} (k:Nat):∀{ts:List TypeId} {Ts:List Ty} {vs:List Value} {ds:List (DataW H)} {ps:List MemPlace} {base:Nat},
  yge P k ts=some Ts→(∀(j:Nat) t v,ts[j]?=some t→vs[j]?=some v→Value.okWide P w .any base t v)→
  DataW.TrodAll enc P w 0 (fun _=>true) true ts vs ds ps→(∀n∈DataW.weightsEach P ts ds,n≤140737488351232)→∃us,VRs (K.start w) us vs∧ArgsZ Ts us
 | [],Ts,vs,ds,ps,base,hT,hv,h,_=>by
  obtain ⟨rfl,rfl,rfl⟩:=trodAll_nil h
  simp [yge] at hT;subst hT
  exact ⟨[],⟨rfl,fun j v h=>by simp at h⟩,rfl⟩
 | t::ts,Ts,vs,ds,ps,base,hT,hv,h,hB=>by
  obtain ⟨v,vs',d,ds',p,q,rfl,rfl,rfl,h1,h2⟩:=trodAll_cons h
  unfold yge at hT
  cases e1:yb4 P k t with
  | none=>simp [e1] at hT
  | some T=>
   cases e2:yge P k ts with
   | none=>simp [e1,e2] at hT
   | some Ts'=>
    simp [e1,e2] at hT;subst hT
    simp only [DataW.weightsEach,kZ] at hB
    obtain ⟨u,r1,a1⟩:=argZ_VR k e1 (hv 0 t v rfl rfl) h1 (fun n hn=>hB n (.inl hn))
    obtain ⟨us,r2,a2⟩:=ykh k e2 (fun j t' v' g1 g2=>hv (j+1) t' v' (by simpa using g1) (by simpa using g2)) h2 (fun n hn=>hB n (.inr hn))
    exact ⟨u::us,(VRs.single r1).append r2,u,us,rfl,a1,a2⟩
end Go.Proofs.YtikpijbeobeckaaGreatDoor.Am
