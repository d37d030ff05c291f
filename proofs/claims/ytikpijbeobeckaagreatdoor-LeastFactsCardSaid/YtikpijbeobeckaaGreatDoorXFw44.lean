/- Part 44. -/
import Derived.Shelf.Sort.Plain
import Derived.Shelf.Slices.In.SortNone
import Derived.Lib.RowBridge
import Derived.Test.YtikpijbeobeckaaGreatDoorXFw21
import Derived.Test.YtikpijbeobeckaaGreatDoorXFw43
set_option linter.unusedSimpArgs false
set_option linter.unusedVariables false
namespace Go.Proofs.YtikpijbeobeckaaGreatDoor
open Am C
structure LsR (s:Sy) (N P:List Str):Prop where
 nm:SyN s
 cn:CnR s
 cl:Cl s (ye1 N P)
 bd:Bnd N P
 so:s.objs.length≤1000000000
 sf:s.fns.length≤1000000000
theorem Am.Wk.of_eq {F F':Fr} {H:Hp} (h:F=F'):Wk F H F' H:=h▸Wk.refl F H
theorem yf0 (l:List Str):(yim l).length=l.length:=by simp [yim]
theorem numd_get {l:List Str} {k:Nat} (h:k<(yim l).length):(yim l)[k]=(k,l[k]'(by rwa [yf0] at h)):=by
 have h':=h
 rw [yf0] at h'
 simp [yim,kQ,h']
theorem ypr {s:Sy} {N P:List Str} (hcl:Cl s (ye1 N P)) {c:Cn} (hc:c∈s.cons) (h6:c.op=6) {q:Str} (hq:ye1 N P c.b q) (hf:y95 s q c.tag=true) {x:Nat × Str} (hx:x∈yim c.args) {st:St} (h:OkF N P st.1):OkF N P (ygp q st x).1:=by
 have hx:=yf2.1 hx
 unfold ygp
 by_cases ha:x.2=[]
 ·rw [if_pos ha];exact h
 rw [if_neg ha]
 have hd:=fun p=>yd5 hc h6 hx hcl hq hf ha p
 by_cases e:x.1=0
 ·rw [if_pos e];exact yfs h fun p hp=>((hd p).1 e (h.sub _ _ hp)).1
 ·rw [if_neg e];exact yfs h fun p hp=>((hd p).2 e (h.sub _ _ hp)).1
theorem okF_call {s:Sy} {N P:List Str} (hcl:Cl s (ye1 N P)) {c:Cn} (hc:c∈s.cons) (h6:c.op=6) {q:Str} (hq:ye1 N P c.b q) (hf:y95 s q c.tag=true) {st:St} (h:OkF N P st.1):OkF N P (yjo c st q).1:=by
 have h1:ye1 N P c.a q:=hcl c hc _ _ (.inr (.inr (.inr (.inr (.inr ⟨h6,q,hq,hf,.inl ⟨rfl,rfl⟩⟩)))))
 unfold yjo
 exact ybb (C:=fun s:St=>OkF N P s.1) (h.add h1.1 h1.2) fun b x hx hb=>ypr hcl hc h6 hq hf hx hb
def ya4 (s:Sy) (c:Cn) (st:St) (q:Str):St:=if y95 s q c.tag then yjo c st q else st
theorem yj4 {s:Sy} {N P:List Str} (hcl:Cl s (ye1 N P)) {c:Cn} (hc:c∈s.cons) (h6:c.op=6) {q:Str} (hq:ye1 N P c.b q) {st:St} (h:OkF N P st.1):OkF N P (ya4 s c st q).1:=by
 unfold ya4
 by_cases e:y95 s q c.tag=true
 ·rw [if_pos e];exact okF_call hcl hc h6 hq e h
 ·rw [if_neg e];exact h
def ClO (s:Sy) (c:Cn) (l:List y73) (x:List Str) (H:Hp) (m:Nat) (F:Fr) (X:Hp):Prop:=
 ∃i,∃st:St,i≤x.length∧m=x.length-i∧st=(x.take i).foldl (ya4 s c) (l,false)∧X=H∧F=[(0,fsV st.1),(4,.fp (y3p s) 0),(5,.fp (y3z c) 0),(8,.b st.2),(10,ss x),(11,.i .i64 i)]
def ClA (s:Sy) (c:Cn) (q:Str) (st0:St) (x:List Str) (i:Nat) (H:Hp) (m:Nat) (F:Fr) (X:Hp):Prop:=
 ∃k,∃st:St,k≤c.args.length∧m=c.args.length-k∧st=((yim c.args).take k).foldl (ygp q) st0∧X=H∧F=[(0,fsV st.1),(4,.fp (y3p s) 0),(5,.fp (y3z c) 0),(8,.b st.2),(10,ss x),(11,.i .i64 i),(12,.i .i64 k)]
theorem RCall_ok {s:Sy} {N P:List Str} (R:LsR s N P) {c:Cn} (hc:c∈s.cons) (h6:c.op=6) (l:List y73) (hl:OkF N P l) (H:Hp):
  AC Tryz.prog y77 [fsV l,.agg (y3p s),.agg (y3z c)] H (fun v H'=>v=.tup [fsV ((ofS l c.b).foldl (ya4 s c) (l,false)).1,.b ((ofS l c.b).foldl (ya4 s c) (l,false)).2]∧H'=H):=by
 have B:=R.bd
 obtain ⟨b1,b2,b3⟩:=hl.len B
 obtain ⟨lk,rr,hsg⟩:=R.cn.sig c hc h6
 have htag:=R.cn.tag c hc
 have hargs:=R.cn.args c hc
 refine AC.code yh.at yh.ok ?_
 simp only [yh]
 apply jA
 simp [yh.r0,y3p,y3z]
 apply jA
 simp [yh.r1]
 apply jA
 simp [yh.r2]
 refine AC.fix (yjy l c.b (by omega) (fun f hf=>by have:=b2 f hf;omega) H) ?_
 simp
 have b4:=b3 c.b
 have hin:∀q∈ofS l c.b,ye1 N P c.b q:=fun q hq=>hl.sub _ _ hq
 have hC:∀i,OkF N P (((ofS l c.b).take i).foldl (ya4 s c) (l,false)).1:=y9o (C:=fun s:St=>OkF N P s.1) hl fun b x hx hb=>yj4 R.cl hc h6 (hin x hx) hb
 obtain ⟨x,hx⟩:∃x,x=ofS l c.b:=⟨_,rfl⟩
 rw [←hx] at hC b4 hin ⊢
 apply jB
 simp [yh.r3]
 refine AX.pblock (AX.loop (ClO s c l x H) x.length ⟨_,_,.refl _ _,0,(l,false),by omega,by omega,by simp,rfl,by simp [y3p,y3z]⟩ ?_)
 rintro m F X ⟨i,st,hi,rfl,hst,rfl,rfl⟩
 have hok:=hC i
 rw [←hst] at hok
 obtain ⟨c1,c2,c3⟩:=hok.len B
 simp only [yh.l0]
 apply jB
 simp [yh.r4,ss]
 refine AX.pcond rfl (fun hb=>AX.skip ?_) (fun hb=>AX.exit ?_)
 rotate_left
 ·simp at hb
  simp
  apply jA
  simp [yh.r17]
  apply jD
  rw [ybc _ _ hb] at hst
  simp [←hst]
 simp at hb
 simp
 have hq:=hin _ (kL hb)
 have hql:=B.len _ hq.2
 obtain ⟨q,hqe⟩:∃q,q=x[i]:=⟨_,rfl⟩
 have hxi:x[i]?=some q:=by rw [hqe];exact kC hb
 rw [←hqe] at hq hql
 have hnx:ya4 s c st q=(x.take (i+1)).foldl (ya4 s c) (l,false):=by rw [ya3 _ _ hb,←hst,hqe]
 refine AX.cut (fun F Y=>F=[(0,fsV (ya4 s c st q).1),(4,.fp (y3p s) 0),(5,.fp (y3z c) 0),(8,.b (ya4 s c st q).2),(10,ss x),(11,.i .i64 i)]∧Y=X) ?_ ?_
 rotate_left
 ·rintro F Y ⟨rfl,rfl⟩
  apply jE
  simp [yh.r16,y2c hb (show x.length≤9223372036854775807 by omega)]
  exact ⟨x.length-(i+1),by omega,_,_,.refl _ _,i+1,_,by omega,rfl,hnx,rfl,by simp [ss]⟩
 refine AX.pblock (AX.seq (AX.testD (!y95 s q c.tag) [(0,fsV st.1),(4,.fp (y3p s) 0),(5,.fp (y3z c) 0),(8,.b st.2),(10,ss x),(11,.i .i64 i),(31,.b (!y95 s q c.tag))] ?_ rfl (fun hf=>AX.exit ?_) (fun hf=>AX.skip ?_)))
 ·simp [yh.r5,y3p,y3z,ss,hb,←hqe]
  refine y33 (.b (y95 s q c.tag)) (fun H2=>by
   have:=RFits_ok s R.nm R.sf q c.tag hsg (by omega) H2
   simpa [y3p] using this) ?_
  simp [ss]
 ·simp at hf
  simp
  exact Wk.of_eq (by simp [ya4,hf])
 simp at hf
 simp
 have e1:ya4 s c st q=(yim c.args).foldl (ygp q) (yap st c.a q):=by simp [ya4,hf,yjo]
 have ha:ye1 N P c.a q:=R.cl c hc _ _ (.inr (.inr (.inr (.inr (.inr ⟨h6,q,hq,hf,.inl ⟨rfl,rfl⟩⟩)))))
 refine AX.seq (AX.drw ?_)
 simp [yh.r6,y3p,y3z,ss,hb,←hqe]
 refine y33 (.tup [fsV (yg8 st.1 c.a q),.b (decide (q∉ofS st.1 c.a))]) (fun H2=>yii st.1 c.a q hok.can (by omega) c2 H2) ?_
 simp
 refine AX.cut (fun F Y=>F=[(0,fsV (yap st c.a q).1),(4,.fp (y3p s) 0),(5,.fp (y3z c) 0),(8,.b (yap st c.a q).2),(10,ss x),(11,.i .i64 i)]∧Y=X) ?_ ?_
 ·apply jE
  obtain ⟨l1,m1⟩:=st
  cases m1 with
  | true=>
   simp [yh.r7]
   exact Wk.of_eq (by simp [yap,y3p,y3z,ss])
  | false=>
   simp [yh.r7]
   exact Wk.of_eq (by simp [yap,y3p,y3z,ss])
 rintro F Y ⟨rfl,rfl⟩
 rw [e1]
 have hA:∀k,OkF N P (((yim c.args).take k).foldl (ygp q) (yap st c.a q)).1:=y9o (C:=fun s:St=>OkF N P s.1) (hok.add ha.1 ha.2) fun b x hx hb=>ypr R.cl hc h6 hq hf hx hb
 apply jA
 simp [yh.r8]
 refine AX.pblock (AX.loop (ClA s c q (yap st c.a q) x i Y) c.args.length ⟨_,_,.refl _ _,0,yap st c.a q,by omega,by omega,by simp,rfl,by simp [y3p,y3z]⟩ ?_)
 rintro m F Z ⟨k,sk,hk,rfl,hsk,rfl,rfl⟩
 have hok2:=hA k
 rw [←hsk] at hok2
 obtain ⟨d1,d2,d3⟩:=hok2.len B
 simp only [yh.l1]
 apply jB
 simp [yh.r9,y3z,ss]
 refine AX.pcond rfl (fun hd=>AX.skip ?_) (fun hd=>AX.exit ?_)
 rotate_left
 ·simp at hd
  simp
  rw [ybc _ _ (by rw [yf0];exact hd)] at hsk
  rw [←hsk]
  exact Wk.of_eq (by simp [y3z,ss,y3p])
 simp at hd
 simp
 have hkn:k<(yim c.args).length:=by rw [yf0];exact hd
 have hnk:ygp q sk (k,c.args[k])=((yim c.args).take (k+1)).foldl (ygp q) (yap st c.a q):=by rw [ya3 _ _ hkn,←hsk,numd_get hkn]
 have hmem:(k,c.args[k])∈yim c.args:=yf2.2 (kC hd)
 refine AX.cut (fun F Y=>F=[(0,fsV (ygp q sk (k,c.args[k])).1),(4,.fp (y3p s) 0),(5,.fp (y3z c) 0),(8,.b (ygp q sk (k,c.args[k])).2),(10,ss x),(11,.i .i64 i),(12,.i .i64 k)]∧Y=Z) ?_ ?_
 rotate_left
 ·rintro F Y ⟨rfl,rfl⟩
  apply jE
  simp [yh.r15,y2c hd (show c.args.length≤9223372036854775807 by omega)]
  exact ⟨c.args.length-(k+1),by omega,_,_,.refl _ _,k+1,_,by omega,rfl,hnk,rfl,by simp [ss]⟩
 refine AX.pblock (AX.seq (jA ?_))
 simp [yh.r10,y3z,ss,hd]
 by_cases hv:c.args[k]=[]
 ·refine AX.pcond (t:=true) (by simp [hv]) (fun _=>AX.exit ?_) (fun h=>by simp [hv] at h)
  simp
  exact Wk.of_eq (by simp [ygp,hv,y3z,ss])
 refine AX.pcond (t:=false) (by simp [hv]) (fun h=>by simp [hv] at h) (fun _=>AX.skip ?_)
 simp
 have hdr:=fun p=>yd5 hc h6 (x:=(k,c.args[k])) (kC hd) R.cl hq hf hv p
 refine AX.cut (fun F Y=>∃st2:St,st2=ygp q (sk.1,false) (k,c.args[k])∧F=[(0,fsV st2.1),(4,.fp (y3p s) 0),(5,.fp (y3z c) 0),(8,.b sk.2),(9,.b st2.2),(10,ss x),(11,.i .i64 i),(12,.i .i64 k)]∧Y=Z) ?_ ?_
 ·apply jA
  simp [yh.r11]
  by_cases hk0:k=0
  ·subst hk0
   refine jG (by simp) (AX.drw ?_)
   simp [yh.r12,y3z,ss,hd,hb,←hqe]
   refine y33 (.s (y4s q 0)) (fun H2=>by simpa using yhd q 0 hql H2) ?_
   simp
   have hto:∀p,y7h sk.1 (y4s q 0) p→c.args[0]∈N:=fun p hp=>((hdr p).1 rfl (hok2.sub _ _ hp)).1
   refine y33 (.tup [fsV (yej (sk.1,false) c.args[0] (y4s q 0)).1,.b (yej (sk.1,false) c.args[0] (y4s q 0)).2]) (fun H2=>ygb B sk.1 hok2 _ _ hto H2) ?_
   simp
   exact Wk.of_eq (by simp [ygp,hv])
  ·refine jF (by simp;omega) (AX.drw ?_)
   simp [yh.r13,y3z,ss,hd,hb,←hqe]
   refine y33 (.s (y4s q k)) (fun H2=>yhd q k hql H2) ?_
   simp [hd]
   have hto:∀p,y7h sk.1 c.args[k] p→y4s q k∈N:=fun p hp=>((hdr p).2 hk0 (hok2.sub _ _ hp)).1
   refine y33 (.tup [fsV (yej (sk.1,false) (y4s q k) c.args[k]).1,.b (yej (sk.1,false) (y4s q k) c.args[k]).2]) (fun H2=>ygb B sk.1 hok2 _ _ hto H2) ?_
   simp
   exact Wk.of_eq (by simp [ygp,hv,hk0])
 rintro F Y ⟨st2,hs2,rfl,rfl⟩
 have hone:=Fl.one (Fl.arg q (k,c.args[k])) sk
 rw [hone,←hs2]
 apply jE
 obtain ⟨l1,m1⟩:=sk
 cases m1 with
 | true=>
  simp [yh.r14]
  exact Wk.of_eq (by simp [ss,y3z])
 | false=>
  simp [yh.r14]
  exact Wk.of_eq (by simp [ss,y3z])
def yea (s:Sy) (c:Cn) (st:St) (q:Str):St:=if ybh s q then yej st c.a q else st
def ye3 (s:Sy) (c:Cn) (st:St) (q:Str):St:=if ybh s q then yej st q c.b else st
def yee (s:Sy) (c:Cn) (st:St) (q:Str):St:=if y5g s q c.tag c.k≠[] then yap st c.a (y5g s q c.tag c.k) else st
theorem ydx (s:Sy) (st:St) (c:Cn):y7j s st c=if c.op=1 then yap st c.a c.b
 else if c.op=2 then yej st c.a c.b
 else if c.op=3 then (ofS st.1 c.b).foldl (yea s c) st
 else if c.op=4 then (ofS st.1 c.a).foldl (ye3 s c) st
 else if c.op=5 then (ofS st.1 c.b).foldl (yee s c) st
 else if c.op=6 then (ofS st.1 c.b).foldl (ya4 s c) st
 else st:=rfl
section
variable {s:Sy} {N P:List Str} (hcl:Cl s (ye1 N P)) {c:Cn} (hc:c∈s.cons) {q:Str} {st:St} (h:OkF N P st.1)
include hcl hc h
theorem ylv (h3:c.op=3) (hq:ye1 N P c.b q):OkF N P (yea s c st q).1:=by
 unfold yea
 by_cases e:ybh s q=true
 ·rw [if_pos e];exact yfs h fun p hp=>(hcl c hc c.a p (.inr (.inr (.inl ⟨h3,rfl,q,hq,e,h.sub _ _ hp⟩)))).1
 ·rw [if_neg e];exact h
theorem ylu (h4:c.op=4) (hq:ye1 N P c.a q):OkF N P (ye3 s c st q).1:=by
 unfold ye3
 by_cases e:ybh s q=true
 ·rw [if_pos e];exact yfs h fun p hp=>(hcl c hc q p (.inr (.inr (.inr (.inl ⟨h4,hq,e,h.sub _ _ hp⟩))))).1
 ·rw [if_neg e];exact h
theorem ylw (h5:c.op=5) (hq:ye1 N P c.b q):OkF N P (yee s c st q).1:=by
 unfold yee
 by_cases e:y5g s q c.tag c.k≠[]
 ·rw [if_pos e]
  have:=hcl c hc c.a _ (.inr (.inr (.inr (.inr (.inl ⟨h5,rfl,e,q,hq,rfl⟩)))))
  exact h.add this.1 this.2
 ·rw [if_neg e];exact h
end
theorem yj5 {s:Sy} {N P:List Str} (hcl:Cl s (ye1 N P)) {c:Cn} (hc:c∈s.cons) {st:St} (h:OkF N P st.1):OkF N P (y7j s st c).1:=by
 rw [ydx]
 have hs:=h.sub
 by_cases h1:c.op=1
 ·rw [if_pos h1];have:=hcl c hc _ _ (.inl ⟨h1,rfl,rfl⟩);exact h.add this.1 this.2
 rw [if_neg h1]
 by_cases h2:c.op=2
 ·rw [if_pos h2];exact yfs h fun p hp=>(hcl c hc c.a p (.inr (.inl ⟨h2,rfl,h.sub _ _ hp⟩))).1
 rw [if_neg h2]
 by_cases h3:c.op=3
 ·rw [if_pos h3];exact ybb (C:=fun s:St=>OkF N P s.1) h fun b q hq hb=>ylv hcl hc hb h3 (hs _ _ hq)
 rw [if_neg h3]
 by_cases h4:c.op=4
 ·rw [if_pos h4];exact ybb (C:=fun s:St=>OkF N P s.1) h fun b q hq hb=>ylu hcl hc hb h4 (hs _ _ hq)
 rw [if_neg h4]
 by_cases h5:c.op=5
 ·rw [if_pos h5];exact ybb (C:=fun s:St=>OkF N P s.1) h fun b q hq hb=>ylw hcl hc hb h5 (hs _ _ hq)
 rw [if_neg h5]
 by_cases h6:c.op=6
 ·rw [if_pos h6];exact ybb (C:=fun s:St=>OkF N P s.1) h fun b q hq hb=>yj4 hcl hc h6 (hs _ _ hq) hb
 rw [if_neg h6];exact h
theorem Fl.apply (s:Sy) (c:Cn) (l:List y73) (m:Bool):y7j s (l,m) c=((y7j s (l,false) c).1,m||(y7j s (l,false) c).2):=by
 rw [ydx,ydx]
 by_cases h1:c.op=1
 ·simp only [if_pos h1];exact Fl.add c.a c.b l m
 simp only [if_neg h1]
 by_cases h2:c.op=2
 ·simp only [if_pos h2];exact Fl.all c.a c.b l m
 simp only [if_neg h2]
 by_cases h3:c.op=3
 ·simp only [if_pos h3];exact Fl.fold (f:=yea s c) (fun q=>Fl.ite (Fl.all _ _) .id) _ l m
 simp only [if_neg h3]
 by_cases h4:c.op=4
 ·simp only [if_pos h4];exact Fl.fold (f:=ye3 s c) (fun q=>Fl.ite (Fl.all _ _) .id) _ l m
 simp only [if_neg h4]
 by_cases h5:c.op=5
 ·simp only [if_pos h5];exact Fl.fold (f:=yee s c) (fun q=>Fl.ite (Fl.add _ _) .id) _ l m
 simp only [if_neg h5]
 by_cases h6:c.op=6
 ·simp only [if_pos h6]
  refine Fl.fold (f:=ya4 s c) (fun q=>Fl.ite (f:=fun st=>yjo c st q) ?_ .id) _ l m
  intro l m
  have h1:=Fl.fold (f:=ygp q) (fun x=>Fl.arg q x) (yim c.args)
  simp only [yjo]
  rw [Fl.one h1 (yap (l,m) c.a q),Fl.one h1 (yap (l,false) c.a q)]
  simp [yap,Bool.or_assoc]
 simp only [if_neg h6]
 simp
def LpI (s:Sy) (c:Cn) (g:St→Str→St) (tx ti:Nat) (st0:St) (x:List Str) (H:Hp) (m:Nat) (F:Fr) (X:Hp):Prop:=
 ∃i,∃st:St,i≤x.length∧m=x.length-i∧st=(x.take i).foldl g st0∧X=H∧F=[(0,fsV st.1),(4,.fp (y3p s) 0),(5,.fp (y3z c) 0),(8,.b st.2),(tx,ss x),(ti,.i .i64 i)]
theorem yrz {s:Sy} {N P:List Str} (R:LsR s N P) {c:Cn} (hc:c∈s.cons) (l:List y73) (hl:OkF N P l) (H:Hp):
  AC Tryz.prog y6q [fsV l,.agg (y3p s),.agg (y3z c)] H (fun v H'=>v=.tup [fsV (y7j s (l,false) c).1,.b (y7j s (l,false) c).2]∧H'=H):=by
 have B:=R.bd
 obtain ⟨b1,b2,b3⟩:=hl.len B
 have b2':∀f∈l,f.2.length≤1000000:=fun f hf=>by have:=b2 f hf;omega
 refine AC.code y0.at y0.ok ?_
 simp only [y0]
 apply jA
 simp [y0.r0,y3p,y3z]
 apply jA
 simp [y0.r1]
 refine AX.cut (fun F Y=>F=[(0,fsV (y7j s (l,false) c).1),(8,.b (y7j s (l,false) c).2)]∧Y=H) ?_ ?_
 rotate_left
 ·rintro F Y ⟨rfl,rfl⟩
  apply jA
  simp [y0.r34]
  apply jD
  simp
 rw [ydx]
 apply jA
 simp [y0.r2]
 refine AX.pblock (jA ?_)
 simp [y0.r3]
 by_cases h1:c.op=1
 ·simp only [if_pos h1]
  have hin:=R.cl c hc _ _ (.inl ⟨h1,rfl,rfl⟩)
  refine jG (by simp [h1]) (jA ?_)
  simp [y0.r4]
  refine AC.fix (yii l c.a c.b hl.can (by omega) b2 H) ?_
  simp
  apply jD
  simp [yap]
 simp only [if_neg h1]
 refine jF (by simp [h1]) (jA ?_)
 simp [y0.r5]
 by_cases h2:c.op=2
 ·simp only [if_pos h2]
  refine jG (by simp [h2]) (jA ?_)
  simp [y0.r6]
  refine AC.fix (ygb B l hl c.a c.b (fun p hp=>(R.cl c hc c.a p (.inr (.inl ⟨h2,rfl,hl.sub _ _ hp⟩))).1) H) ?_
  simp
  apply jD
  simp
 simp only [if_neg h2]
 refine jF (by simp [h2]) (jA ?_)
 simp [y0.r7]
 by_cases h3:c.op=3
 ·simp only [if_pos h3]
  refine jG (by simp [h3]) (jA ?_)
  simp [y0.r8]
  refine AC.fix (yjy l c.b (by omega) b2' H) ?_
  simp
  have b4:=b3 c.b
  have hin:∀q∈ofS l c.b,ye1 N P c.b q:=fun q hq=>hl.sub _ _ hq
  have hC:∀i,OkF N P (((ofS l c.b).take i).foldl (yea s c) (l,false)).1:=y9o (C:=fun s:St=>OkF N P s.1) hl fun b x hx hb=>ylv R.cl hc hb h3 (hin x hx)
  obtain ⟨x,hx⟩:∃x,x=ofS l c.b:=⟨_,rfl⟩
  rw [←hx] at hC b4 hin ⊢
  apply jA
  simp [y0.r9]
  refine AX.pblock (AX.loop (LpI s c (yea s c) 10 11 (l,false) x H) x.length ⟨_,_,.refl _ _,0,(l,false),by omega,by omega,by simp,rfl,by simp [y3p,y3z]⟩ ?_)
  rintro m F X ⟨i,st,hi,rfl,hst,rfl,rfl⟩
  have hok:=hC i
  rw [←hst] at hok
  obtain ⟨c1,c2,c3⟩:=hok.len B
  simp only [y0.l0]
  apply jB
  simp [y0.r10,ss]
  refine AX.pcond rfl (fun hb=>AX.skip ?_) (fun hb=>AX.exit ?_)
  rotate_left
  ·simp at hb
   simp
   rw [ybc _ _ hb] at hst
   rw [←hst]
   exact Wk.of_eq (by simp [ss])
  simp at hb
  simp
  have hq:=hin _ (kL hb)
  have hql:=B.len _ hq.2
  obtain ⟨q,hqe⟩:∃q,q=x[i]:=⟨_,rfl⟩
  rw [←hqe] at hq hql
  have hnx:yea s c st q=(x.take (i+1)).foldl (yea s c) (l,false):=by rw [ya3 _ _ hb,←hst,hqe]
  refine AX.cut (fun F Y=>F=[(0,fsV (yea s c st q).1),(4,.fp (y3p s) 0),(5,.fp (y3z c) 0),(8,.b (yea s c st q).2),(10,ss x),(11,.i .i64 i)]∧Y=X) ?_ ?_
  rotate_left
  ·rintro F Y ⟨rfl,rfl⟩
   apply jE
   simp [y0.r14,y2c hb (show x.length≤9223372036854775807 by omega)]
   exact ⟨x.length-(i+1),by omega,_,_,.refl _ _,i+1,_,by omega,rfl,hnx,rfl,by simp [ss]⟩
  refine AX.pblock (AX.testD (ybh s q) [(0,fsV st.1),(4,.fp (y3p s) 0),(5,.fp (y3z c) 0),(8,.b st.2),(10,ss x),(11,.i .i64 i),(56,.b (ybh s q))] ?_ rfl (fun hf=>?_) (fun hf=>AX.skip ?_))
  ·simp [y0.r11,y3p,ss,hb,←hqe]
   refine y33 (.b (ybh s q)) (fun H2=>by
    have:=yg9 s R.nm R.so q hql H2
    simpa [y3p] using this) ?_
   simp
  ·refine AX.seq (AX.drw ?_)
   simp [y0.r12,y3p,y3z,ss,hb,←hqe]
   have hto:∀p,y7h st.1 q p→c.a∈N:=fun p hp=>(R.cl c hc c.a p (.inr (.inr (.inl ⟨h3,rfl,q,hq,hf,hok.sub _ _ hp⟩)))).1
   refine y33 (.tup [fsV (yej (st.1,false) c.a q).1,.b (yej (st.1,false) c.a q).2]) (fun H2=>ygb B st.1 hok _ _ hto H2) ?_
   simp
   have hone:yea s c st q=((yej (st.1,false) c.a q).1,st.2||(yej (st.1,false) c.a q).2):=by rw [←Fl.one (Fl.all c.a q) st];simp [yea,hf]
   rw [hone]
   apply jE
   obtain ⟨l1,m1⟩:=st
   cases m1 with
   | true=>
    simp [y0.r13]
    exact Wk.of_eq (by simp [y3p,y3z,ss])
   | false=>
    simp [y0.r13]
    exact Wk.of_eq (by simp [y3p,y3z,ss])
  ·simp
   exact Wk.of_eq (by simp [yea,hf,ss])
 simp only [if_neg h3]
 refine jF (by simp [h3]) (jA ?_)
 simp [y0.r15]
 by_cases h4:c.op=4
 ·simp only [if_pos h4]
  refine jG (by simp [h4]) (jA ?_)
  simp [y0.r16]
  refine AC.fix (yjy l c.a (by omega) b2' H) ?_
  simp
  have b4:=b3 c.a
  have hin:∀q∈ofS l c.a,ye1 N P c.a q:=fun q hq=>hl.sub _ _ hq
  have hC:∀i,OkF N P (((ofS l c.a).take i).foldl (ye3 s c) (l,false)).1:=y9o (C:=fun s:St=>OkF N P s.1) hl fun b x hx hb=>ylu R.cl hc hb h4 (hin x hx)
  obtain ⟨x,hx⟩:∃x,x=ofS l c.a:=⟨_,rfl⟩
  rw [←hx] at hC b4 hin ⊢
  apply jA
  simp [y0.r17]
  refine AX.pblock (AX.loop (LpI s c (ye3 s c) 12 13 (l,false) x H) x.length ⟨_,_,.refl _ _,0,(l,false),by omega,by omega,by simp,rfl,by simp [y3p,y3z]⟩ ?_)
  rintro m F X ⟨i,st,hi,rfl,hst,rfl,rfl⟩
  have hok:=hC i
  rw [←hst] at hok
  obtain ⟨c1,c2,c3⟩:=hok.len B
  simp only [y0.l1]
  apply jB
  simp [y0.r18,ss]
  refine AX.pcond rfl (fun hb=>AX.skip ?_) (fun hb=>AX.exit ?_)
  rotate_left
  ·simp at hb
   simp
   rw [ybc _ _ hb] at hst
   rw [←hst]
   exact Wk.of_eq (by simp [ss])
  simp at hb
  simp
  have hq:=hin _ (kL hb)
  have hql:=B.len _ hq.2
  obtain ⟨q,hqe⟩:∃q,q=x[i]:=⟨_,rfl⟩
  rw [←hqe] at hq hql
  have hnx:ye3 s c st q=(x.take (i+1)).foldl (ye3 s c) (l,false):=by rw [ya3 _ _ hb,←hst,hqe]
  refine AX.cut (fun F Y=>F=[(0,fsV (ye3 s c st q).1),(4,.fp (y3p s) 0),(5,.fp (y3z c) 0),(8,.b (ye3 s c st q).2),(12,ss x),(13,.i .i64 i)]∧Y=X) ?_ ?_
  rotate_left
  ·rintro F Y ⟨rfl,rfl⟩
   apply jE
   simp [y0.r22,y2c hb (show x.length≤9223372036854775807 by omega)]
   exact ⟨x.length-(i+1),by omega,_,_,.refl _ _,i+1,_,by omega,rfl,hnx,rfl,by simp [ss]⟩
  refine AX.pblock (AX.testD (ybh s q) [(0,fsV st.1),(4,.fp (y3p s) 0),(5,.fp (y3z c) 0),(8,.b st.2),(12,ss x),(13,.i .i64 i),(89,.b (ybh s q))] ?_ rfl (fun hf=>?_) (fun hf=>AX.skip ?_))
  ·simp [y0.r19,y3p,ss,hb,←hqe]
   refine y33 (.b (ybh s q)) (fun H2=>by
    have:=yg9 s R.nm R.so q hql H2
    simpa [y3p] using this) ?_
   simp
  ·refine AX.seq (AX.drw ?_)
   simp [y0.r20,y3p,y3z,ss,hb,←hqe]
   have hto:∀p,y7h st.1 c.b p→q∈N:=fun p hp=>(R.cl c hc q p (.inr (.inr (.inr (.inl ⟨h4,hq,hf,hok.sub _ _ hp⟩))))).1
   refine y33 (.tup [fsV (yej (st.1,false) q c.b).1,.b (yej (st.1,false) q c.b).2]) (fun H2=>ygb B st.1 hok _ _ hto H2) ?_
   simp
   have hone:ye3 s c st q=((yej (st.1,false) q c.b).1,st.2||(yej (st.1,false) q c.b).2):=by rw [←Fl.one (Fl.all q c.b) st];simp [ye3,hf]
   rw [hone]
   apply jE
   obtain ⟨l1,m1⟩:=st
   cases m1 with
   | true=>
    simp [y0.r21]
    exact Wk.of_eq (by simp [y3p,y3z,ss])
   | false=>
    simp [y0.r21]
    exact Wk.of_eq (by simp [y3p,y3z,ss])
  ·simp
   exact Wk.of_eq (by simp [ye3,hf,ss])
 simp only [if_neg h4]
 refine jF (by simp [h4]) (jA ?_)
 simp [y0.r23]
 by_cases h5:c.op=5
 ·simp only [if_pos h5]
  refine jG (by simp [h5]) (jA ?_)
  simp [y0.r24]
  refine AC.fix (yjy l c.b (by omega) b2' H) ?_
  simp
  have b4:=b3 c.b
  have hin:∀q∈ofS l c.b,ye1 N P c.b q:=fun q hq=>hl.sub _ _ hq
  have hC:∀i,OkF N P (((ofS l c.b).take i).foldl (yee s c) (l,false)).1:=y9o (C:=fun s:St=>OkF N P s.1) hl fun b x hx hb=>ylw R.cl hc hb h5 (hin x hx)
  obtain ⟨x,hx⟩:∃x,x=ofS l c.b:=⟨_,rfl⟩
  rw [←hx] at hC b4 hin ⊢
  apply jA
  simp [y0.r25]
  refine AX.pblock (AX.loop (LpI s c (yee s c) 14 15 (l,false) x H) x.length ⟨_,_,.refl _ _,0,(l,false),by omega,by omega,by simp,rfl,by simp [y3p,y3z]⟩ ?_)
  rintro m F X ⟨i,st,hi,rfl,hst,rfl,rfl⟩
  have hok:=hC i
  rw [←hst] at hok
  obtain ⟨c1,c2,c3⟩:=hok.len B
  simp only [y0.l2]
  apply jB
  simp [y0.r26,ss]
  refine AX.pcond rfl (fun hb=>AX.skip ?_) (fun hb=>AX.exit ?_)
  rotate_left
  ·simp at hb
   simp
   rw [ybc _ _ hb] at hst
   rw [←hst]
   exact Wk.of_eq (by simp [ss])
  simp at hb
  simp
  have hq:=hin _ (kL hb)
  have hql:=B.len _ hq.2
  obtain ⟨q,hqe⟩:∃q,q=x[i]:=⟨_,rfl⟩
  rw [←hqe] at hq hql
  have hnx:yee s c st q=(x.take (i+1)).foldl (yee s c) (l,false):=by rw [ya3 _ _ hb,←hst,hqe]
  refine AX.cut (fun F Y=>F=[(0,fsV (yee s c st q).1),(4,.fp (y3p s) 0),(5,.fp (y3z c) 0),(8,.b (yee s c st q).2),(14,ss x),(15,.i .i64 i)]∧Y=X) ?_ ?_
  rotate_left
  ·rintro F Y ⟨rfl,rfl⟩
   apply jE
   simp [y0.r31,y2c hb (show x.length≤9223372036854775807 by omega)]
   exact ⟨x.length-(i+1),by omega,_,_,.refl _ _,i+1,_,by omega,rfl,hnx,rfl,by simp [ss]⟩
  refine AX.pblock (AX.seq (AX.drw ?_))
  simp [y0.r27,y3p,y3z,ss,hb,←hqe]
  refine y33 (.s (y5g s q c.tag c.k)) (fun H2=>by
   have:=yrt s R.nm R.so q c.tag c.k (R.nm.cb c hc) hql H2
   simpa [y3p] using this) ?_
  simp
  apply jA
  simp [y0.r28]
  by_cases hf:y5g s q c.tag c.k=[]
  ·refine jF (by simp [hf]) (AX.skip ?_)
   simp
   exact Wk.of_eq (by simp [yee,hf,y3p,y3z,ss])
  ·refine jG (by simp [hf]) (jA ?_)
   simp [y0.r29]
   refine AC.fix (yii st.1 c.a (y5g s q c.tag c.k) hok.can (by omega) c2 X) ?_
   simp
   apply jE
   obtain ⟨l1,m1⟩:=st
   cases m1 with
   | true=>
    simp [y0.r30]
    exact Wk.of_eq (by simp [yee,hf,yap,y3p,y3z,ss])
   | false=>
    simp [y0.r30]
    exact Wk.of_eq (by simp [yee,hf,yap,y3p,y3z,ss])
 simp only [if_neg h5]
 refine jF (by simp [h5]) (jA ?_)
 simp [y0.r32]
 have h6:c.op=6:=by have:=R.cn.op c hc;omega
 simp only [if_pos h6]
 refine jG (by simp [h6]) (jA ?_)
 simp [y0.r33]
 refine AC.fix (by
  have:=RCall_ok R hc h6 l hl H
  simpa [y3p,y3z] using this) ?_
 simp
 apply jD
 simp
theorem yfr {s:Sy} {N P:List Str} (hcl:Cl s (ye1 N P)) {l:List y73} (h:OkF N P l):OkF N P (y8g s l).1:=
 ybb (C:=fun s:St=>OkF N P s.1) h fun b c hc hb=>yj5 hcl hc hb
theorem ex_isL {s:Sy} {N P:List Str} (hU:Cl s (ye1 N P)):∃l,IsL s l:=by
 have key:∀(m:Nat) (l:List y73),N.length*P.length-crd N P (y7h l)=m→OkF N P l→(∀Y,Cl s Y→y8f (y7h l) Y)→∃l,IsL s l:=by
  intro m
  induction m using Nat.strongRecOn with
  | _ m ih=>
   intro l hm hl h0
   obtain ⟨c1,t1⟩:=ydh (s:=s) hl.can
   cases hf:(y8g s l).2 with
   | false=>exact ⟨_,yfi hl.can h0 hf⟩
   | true=>
    rw [hf] at t1
    have hlt:=t1.lt (m:=false) hU hl.sub
    have hle:=yml N P (y7h (y8g s l).1)
    exact ih _ (by omega) (y8g s l).1 rfl (yfr hU hl) fun Y hY=>t1.snd Y hY (h0 Y hY)
 exact key _ [] rfl (OkF.nil N P) fun Y hY n p h=>by simp [y7h,ofS] at h
def LrO (s:Sy) (N P:List Str) (H:Hp) (m:Nat) (F:Fr) (X:Hp):Prop:=
 ∃(l:List y73) (b:Bool),OkF N P l∧(∀Y,Cl s Y→y8f (y7h l) Y)∧(b=false→IsL s l)∧m=(if b then N.length*P.length+1-crd N P (y7h l) else 0)∧X=H∧F=[(1,.fp (y3p s) 0),(3,fsV l),(4,.b b)]
def LrI (s:Sy) (l:List y73) (H:Hp) (m:Nat) (F:Fr) (X:Hp):Prop:=
 ∃i,∃st:St,i≤s.cons.length∧m=s.cons.length-i∧st=(s.cons.take i).foldl (y7j s) (l,false)∧X=H∧F=[(1,.fp (y3p s) 0),(3,fsV st.1),(4,.b st.2),(5,.i .i64 i)]
theorem yrw {s:Sy} {N P:List Str} (R:LsR s N P) {l:List y73} (hl:IsL s l) (H:Hp):AC Tryz.prog y8l [.agg (y3p s)] H (fun v H'=>v=fsV l∧H'=H):=by
 have hbig:=R.cn.big
 refine AC.codeP y17.at y17.ok (by simp) fun hlt=>?_
 simp only [y17]
 apply jA
 simp [y17.r0,y3p]
 apply jA
 simp [y17.r1]
 apply jB
 simp [y17.r2]
 refine AX.pblock (AX.loop (LrO s N P H) (N.length*P.length+1-crd N P (y7h [])) ⟨_,_,Wk.frz0 (ya2 (.refl _) (ya2 (.sl0 _) (ya2 (.refl _) ymf))),[],true,.nil N P,(fun Y hY n p h=>by simp [y7h,ofS] at h),(fun h=>by cases h),by simp,rfl,by simp [y3p,fsV]⟩ ?_)
 rintro m F X ⟨l0,b,hok,h0,hb0,rfl,rfl,rfl⟩
 simp only [y17.l0]
 apply jB
 simp [y17.r3]
 cases b with
 | false=>
  refine jF rfl (AX.exit ?_)
  simp
  apply jA
  simp [y17.r11]
  apply jD
  have:=hl.one (hb0 rfl)
  subst this
  simp
  exact ⟨.refl _,.refl _⟩
 | true=>
  refine jG rfl (AX.skip ?_)
  simp
  refine AX.pblock (jA ?_)
  simp [y17.r4]
  apply jA
  simp [y17.r5]
  have hC:∀i,OkF N P ((s.cons.take i).foldl (y7j s) (l0,false)).1:=y9o (C:=fun s:St=>OkF N P s.1) hok fun b c hc hb=>yj5 R.cl hc hb
  refine AX.pblock (AX.loop (LrI s l0 X) s.cons.length ⟨_,_,.refl _ _,0,(l0,false),by omega,by omega,by simp,rfl,by simp [y3p]⟩ ?_)
  rintro m F Y ⟨i,st,hi,rfl,hst,rfl,rfl⟩
  have hok2:=hC i
  rw [←hst] at hok2
  simp only [y17.l1]
  apply jB
  simp [y17.r6,y3p]
  refine AX.pcond rfl (fun hb=>AX.skip ?_) (fun hb=>AX.exit ?_)
  rotate_left
  ·simp at hb
   rw [ybc _ _ hb] at hst
   simp
   have hr:st=y8g s l0:=hst
   obtain ⟨c1,t1⟩:=ydh (s:=s) hok.can
   cases hf:(y8g s l0).2 with
   | false=>
    have hend:=yfi hok.can h0 hf
    have hlt:=yml N P (y7h l0)
    refine ⟨0,by omega,_,_,.refl _ _,(y8g s l0).1,false,yfr R.cl hok,fun Y hY=>t1.snd Y hY (h0 Y hY),fun _=>hend,by simp,rfl,?_⟩
    rw [hr,hf];simp [y3p]
   | true=>
    rw [hf] at t1
    have hlt:=t1.lt (m:=false) R.cl hok.sub
    have hle:=yml N P (y7h (y8g s l0).1)
    refine ⟨N.length*P.length+1-crd N P (y7h (y8g s l0).1),by omega,_,_,.refl _ _,(y8g s l0).1,true,yfr R.cl hok,fun Y hY=>t1.snd Y hY (h0 Y hY),(fun h=>by cases h),by simp,rfl,?_⟩
    rw [hr,hf];simp [y3p]
  simp at hb
  simp
  have hci:s.cons[i]∈s.cons:=kL hb
  have hnx:y7j s st s.cons[i]=(s.cons.take (i+1)).foldl (y7j s) (l0,false):=by rw [ya3 _ _ hb,←hst]
  obtain ⟨c,hce⟩:∃c,s.cons[i]=c:=⟨_,rfl⟩
  rw [hce] at hci hnx
  refine AX.seq (AX.pblock (AX.seq (AX.drw ?_)))
  simp [y17.r7,y3p,hb,hce,y3z]
  refine y33 (.tup [fsV (y7j s (st.1,false) c).1,.b (y7j s (st.1,false) c).2]) (fun H2=>by
   have:=yrz R hci st.1 hok2 H2
   simpa [y3p,y3z] using this) ?_
  simp
  apply jA
  simp [y17.r8]
  have hone:=Fl.apply s c st.1 st.2
  rw [show (st.1,st.2)=st from rfl,hnx] at hone
  apply jE
  obtain ⟨l1,m1⟩:=st
  cases m1 with
  | true=>
   simp [y17.r9]
   apply jE
   simp [y17.r10,y2c hb (show s.cons.length≤9223372036854775807 by omega)]
   exact ⟨s.cons.length-(i+1),by omega,_,_,.refl _ _,i+1,_,by omega,rfl,rfl,rfl,by simp [hone,y3p]⟩
  | false=>
   simp [y17.r9]
   apply jE
   simp [y17.r10,y2c hb (show s.cons.length≤9223372036854775807 by omega)]
   exact ⟨s.cons.length-(i+1),by omega,_,_,.refl _ _,i+1,_,by omega,rfl,rfl,rfl,by simp [hone,y3p]⟩
theorem lsR {s:Sy} (h:ye2 s=0) (hs:syS s):LsR s (ybq s) (y4t s):=by
 have U:=sysR h hs
 obtain ⟨s1,s2,s3,_⟩:=hs
 exact ⟨U.nm,U.cn,U.cl,⟨U.len,by have:=U.pl.big;omega,U.pl.len⟩,by omega,by omega⟩
theorem yrx {s:Sy} (hs:syS s) {l:List y73} (hl:ye2 s=0→IsL s l) (H:Hp):AC Tryz.prog y8m [.agg (y3p s)] H (fun v H'=>v=(if ye2 s=0 then .tup [fsV l,.i .i64 0] else .tup [.fs [],.i .i64 (ye2 s)])∧H'=H):=by
 refine AC.codeP y2q.at y2q.ok (by split <;> simp) fun hlt=>?_
 simp only [y2q]
 apply jA
 simp [y2q.r0,y3p]
 apply jA
 simp [y2q.r1]
 refine AC.fix (by
  have:=yry s hs H
  simpa [y3p] using this) ?_
 simp
 apply jB
 simp [y2q.r2]
 by_cases he:ye2 s=0
 rotate_left
 ·refine jG (by simp [he]) (jA ?_)
  simp [y2q.r3]
  apply jD
  simp [he]
  exact ⟨.refl _,yme (.sl0 _)⟩
 refine jF (by simp [he]) (AX.skip ?_)
 simp
 apply jA
 simp [y2q.r4]
 refine AC.fix (by
  have:=yrw (lsR he hs) (hl he) H
  simpa [y3p] using this) ?_
 simp
 apply jD
 simp [he]
 exact ⟨.refl _,.refl _⟩
end Go.Proofs.YtikpijbeobeckaaGreatDoor
namespace Go.Proofs
open Go.Shelf Go.RowKit Go.Sort Go.Lib
def Tryz.lays190_ren:Go.Shelf.Ren:=⟨fun | 190=>65 | 125=>116 | 258=>115 | 128=>174 | 129=>175 | 302=>165 | 303=>166 | 304=>167 | 305=>168 | 306=>169 | 307=>170 | 308=>171 | 309=>172 | 310=>173 | 333=>223 | 329=>224 | 330=>225 | 334=>226 | 335=>227 | 336=>153 | 344=>257 | n=>n,fun | 31=>35 | 9=>9 | 3=>3 | 46=>155 | 0=>0 | 51=>208 | 53=>47 | 4=>4 | 183=>201 | 182=>200 | 131=>187 | 5=>5 | 218=>251 | 222=>255 | 228=>276 | 229=>277 | n=>n,fun | n=>n⟩
theorem Tryz.lays190:Go.Proofs.Lays.n190 Tryz.prog Tryz.lays190_ren:={
 mixed:=by kernel_rfl
 f125:=Tryz.func116.trans (congrArg some (by kernel_rfl))
 f128:=Tryz.func174.trans (congrArg some (by kernel_rfl))
 f129:=Tryz.func175.trans (congrArg some (by kernel_rfl))
 f190:=Tryz.func65.trans (congrArg some (by kernel_rfl))
 f258:=Tryz.func115.trans (congrArg some (by kernel_rfl))
 f302:=Tryz.func165.trans (congrArg some (by kernel_rfl))
 f303:=Tryz.func166.trans (congrArg some (by kernel_rfl))
 f304:=Tryz.func167.trans (congrArg some (by kernel_rfl))
 f305:=Tryz.func168.trans (congrArg some (by kernel_rfl))
 f306:=Tryz.func169.trans (congrArg some (by kernel_rfl))
 f307:=Tryz.func170.trans (congrArg some (by kernel_rfl))
 f308:=Tryz.func171.trans (congrArg some (by kernel_rfl))
 f309:=Tryz.func172.trans (congrArg some (by kernel_rfl))
 f310:=Tryz.func173.trans (congrArg some (by kernel_rfl))
 f329:=Tryz.func224.trans (congrArg some (by kernel_rfl))
 f330:=Tryz.func225.trans (congrArg some (by kernel_rfl))
 f333:=Tryz.func223.trans (congrArg some (by kernel_rfl))
 f334:=Tryz.func226.trans (congrArg some (by kernel_rfl))
 f335:=Tryz.func227.trans (congrArg some (by kernel_rfl))
 f336:=Tryz.func153.trans (congrArg some (by kernel_rfl))
 f344:=Tryz.func257.trans (congrArg some (by kernel_rfl))
 t0:=Tryz.underlying0
 a0:=Tryz.isAgg0
 z0:=Tryz.sizeOf0
 v0:=Tryz.zeroValue0
 t3:=Tryz.underlying3
 a3:=Tryz.isAgg3
 z3:=Tryz.sizeOf3
 v3:=Tryz.zeroValue3
 t4:=Tryz.underlying4
 a4:=Tryz.isAgg4
 z4:=Tryz.sizeOf4
 v4:=Tryz.zeroValue4
 t5:=Tryz.underlying5
 a5:=Tryz.isAgg5
 z5:=Tryz.sizeOf5
 v5:=Tryz.zeroValue5
 t9:=Tryz.underlying9
 a9:=Tryz.isAgg9
 z9:=Tryz.sizeOf9
 v9:=Tryz.zeroValue9
 t31:=Tryz.underlying35
 a31:=Tryz.isAgg35
 z31:=Tryz.sizeOf35
 v31:=Tryz.zeroValue35
 t46:=Tryz.underlying155
 a46:=Tryz.isAgg155
 z46:=Tryz.sizeOf155
 v46:=Tryz.zeroValue155
 t51:=Tryz.underlying208
 a51:=Tryz.isAgg208
 z51:=Tryz.sizeOf208
 v51:=Tryz.zeroValue208
 t53:=Tryz.underlying47
 a53:=Tryz.isAgg47
 z53:=Tryz.sizeOf47
 v53:=Tryz.zeroValue47
 t131:=Tryz.underlying187
 a131:=Tryz.isAgg187
 z131:=Tryz.sizeOf187
 v131:=Tryz.zeroValue187
 t182:=Tryz.underlying200
 a182:=Tryz.isAgg200
 z182:=Tryz.sizeOf200
 v182:=Tryz.zeroValue200
 t183:=Tryz.underlying201
 a183:=Tryz.isAgg201
 z183:=Tryz.sizeOf201
 v183:=Tryz.zeroValue201
 t218:=Tryz.underlying251
 a218:=Tryz.isAgg251
 z218:=Tryz.sizeOf251
 v218:=Tryz.zeroValue251
 t222:=Tryz.underlying255
 a222:=Tryz.isAgg255
 z222:=Tryz.sizeOf255
 v222:=Tryz.zeroValue255
 t228:=Tryz.underlying276
 a228:=Tryz.isAgg276
 z228:=Tryz.sizeOf276
 v228:=Tryz.zeroValue276
 t229:=Tryz.underlying277
 a229:=Tryz.isAgg277
 z229:=Tryz.sizeOf277
 v229:=Tryz.zeroValue277 }
open Go.RowKit in
theorem Tryz.slices_Sort_string (blk off cap:Nat) (ss:List (List UInt8)) (w:World) (hH:Holds encStr w blk off ss.toArray) (hblk:blk<w.heap.size) (hsz:ss.length<4611686018427387904):
  Calls Tryz.prog 65 #[.slice (some ⟨blk,off,none⟩) ss.length cap] w fun e w'=>
   e=.returned (.tuple #[])∧∃n os,w'=grow (putRow encStr (Sort.ahead w n) blk off (ss.mergeSort fun x y=>decide (x≤y)).toArray) os:=Any.slices_Sort_string Tryz.lays190 blk off cap ss w hH hblk hsz
end Go.Proofs
