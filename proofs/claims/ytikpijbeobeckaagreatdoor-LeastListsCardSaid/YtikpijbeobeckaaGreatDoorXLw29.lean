/- Part 29 of the proof of the laws of the queries: LwI, GFt, BtW5, BtW6. -/
import Derived.Test.YtikpijbeobeckaaGreatDoorXLw25
import Derived.Test.YtikpijbeobeckaaGreatDoorXLw27
import Derived.Test.YtikpijbeobeckaaGreatDoorXLw28
set_option linter.unusedSimpArgs false
set_option linter.unusedVariables false
namespace Go.Proofs.YtikpijbeobeckaaGreatDoor
open Am C
def inB1 (b:List y58) (f:y58):Bool:=f.2.all fun p=>decide (p∈ofS b f.1)
def yj6 (a b:List y58):Bool:=a.all (inB1 b)
theorem ycg {α:Type} {l:List α} {q:α→Bool} {i:Nat} (h:i<l.length):(l.take (i+1)).all q=((l.take i).all q&&q l[i]):=by
  rw [List.take_add_one,List.getElem?_eq_getElem h,List.all_append];simp
theorem yb9 {α:Type} {l:List α} {q:α→Bool} {i:Nat} (h:i<l.length) (hq:q l[i]=false):l.all q=false:=by
  rw [List.all_eq_false]
  exact ⟨l[i],List.getElem_mem h,by simp [hq]⟩
def LwtI (a b:List y58) (H:Hp) (m:Nat) (F:Fr) (X:Hp):Prop:=
  ∃i,i≤a.length∧m=a.length-i∧(a.take i).all (inB1 b)=true∧H.Ext X∧Hp.Lt X∧F=[(1,fsV b),(10,fsV a),(11,.i .i64 a.length),(12,.i .i64 i)]
def LwtJ (a b:List y58) (f:y58) (i:Nat) (X0:Hp) (m:Nat) (F:Fr) (X:Hp):Prop:=
  ∃k,k≤f.2.length∧m=f.2.length-k∧((f.2.take k).all fun p=>decide (p∈ofS b f.1))=true∧X=X0∧F=[(1,fsV b),(7,ss (ofS b f.1)),(10,fsV a),(11,.i .i64 a.length),(12,.i .i64 i),(21,ss f.2),(22,.i .i64 f.2.length),(23,.i .i64 k)]
theorem ylp {b:List y58} {n:Str} {k:Nat} (h:∀f∈b,f.2.length≤k):(ofS b n).length≤k:=by
  unfold ofS
  cases hf:b.find? (fun f=>decide (f.1=n)) with
  | none=>simp
  | some x=>have:=h x (List.mem_of_find?_eq_some hf);simpa using this
theorem yk3 (a b:List y58) (ha:a.length≤1000000) (hb:b.length≤1000000) (hxa:∀f∈a,f.2.length≤1000000) (hxb:∀f∈b,f.2.length≤1000000) (H:Hp):AC Tryz.prog y8c [fsV a,fsV b] H (fun v H'=>v=.b (yj6 a b)∧H'=H):=by
  refine AC.codeP y15.at y15.ok (by simp) fun hlt=>?_
  simp only [y15]
  apply jA
  simp [y15.r0]
  apply jB
  simp [y15.r1,fsV]
  refine AX.pblock (AX.loop (LwtI a b H) a.length ⟨_,_,.refl _ _,0,by omega,by omega,by simp,.refl _,hlt,by simp [fsV]⟩ ?_)
  rintro m F X ⟨i,hi,rfl,hal,E,hXl,rfl⟩
  simp only [y15.l0]
  apply jA
  simp [y15.r2]
  refine AX.seq (AX.pcond rfl (fun hc=>AX.skip ?_) (fun hc=>AX.exit ?_))
  rotate_left
  · simp at hc
    simp
    apply jA
    simp [y15.r12]
    apply jD
    rw [List.take_of_length_le hc] at hal
    simp [yj6,hal,E]
    exact .refl _
  simp at hc
  simp
  have hxi:=hxa _ (List.getElem_mem hc)
  obtain ⟨f,hf⟩:∃f,f=a[i]:=⟨_,rfl⟩
  rw [←hf] at hxi
  apply jC
  simp [y15.r3,fsV,hc,fcs,ss,←hf]
  have E1:=E.trans ((Hp.Ext.add hXl (.cells [.s [],.sl none 0 0] 2)).upd hXl (Nat.le_refl _) (.cells [.s f.1,.fs (f.2.map fun x=>[.s x])] 2))
  have l1:=Hp.upd_lt (k:=X.next) (Hp.add_lt hXl (.cells [.s [],.sl none 0 0] 2)) (by simp) (.cells [.s f.1,.fs (f.2.map fun x=>[.s x])] 2)
  have gb:((X.add (.cells [.s [],.sl none 0 0] 2)).upd X.next (.cells [.s f.1,.fs (f.2.map fun x=>[.s x])] 2)).get X.next=some (.cells [.s f.1,.fs (f.2.map fun x=>[.s x])] 2):=by simp
  generalize (X.add (.cells [.s [],.sl none 0 0] 2)).upd X.next (.cells [.s f.1,.fs (f.2.map fun x=>[.s x])] 2)=X1 at E1 l1 gb ⊢
  apply jA
  simp [y15.r4,gb]
  refine AC.fix (ymj b f.1 (by omega) X1) ?_
  simp
  apply jA
  simp [y15.r5,gb]
  refine AX.pblock (AX.loop (LwtJ a b f i X1) f.2.length ⟨_,_,.refl _ _,0,by omega,by omega,by simp,rfl,by simp [fsV,ss,fcs]⟩ ?_)
  rintro m F X2 ⟨k,hk,rfl,hkl,rfl,rfl⟩
  simp only [y15.l1]
  apply jA
  simp [y15.r6]
  refine AX.seq (AX.pcond rfl (fun hd=>AX.skip ?_) (fun hd=>AX.exit ?_))
  rotate_left
  · simp at hd
    rw [List.take_of_length_le hd] at hkl
    simp
    apply jE
    simp [y15.r11,y28 hc (show a.length≤9223372036854775807 by omega)]
    exact ⟨a.length-(i+1),by omega,_,_,.refl _ _,i+1,by omega,rfl,by rw [ycg hc,hal,←hf];exact hkl,E1,l1,by simp [fsV]⟩
  simp at hd
  simp
  apply jC
  simp [y15.r7,ss,hd]
  apply jA
  simp [y15.r8]
  refine AC.fix (ydb (ofS b f.1) f.2[k] (by have:=ylp (n:=f.1) hxb;omega) X2) ?_
  simp
  refine AX.pcond (t:=!decide (f.2[k]∈ofS b f.1)) rfl (fun hq=>jA ?_) (fun hq=>AX.skip ?_)
  · simp [y15.r9]
    apply jD
    simp at hq
    have:yj6 a b=false:=yb9 hc (by rw [←hf];exact yb9 hd (by simpa using hq))
    simp [this,E1]
    exact .refl _
  · simp at hq
    simp
    apply jE
    simp [y15.r10,y28 hd (show f.2.length≤9223372036854775807 by omega)]
    exact ⟨f.2.length-(k+1),by omega,_,_,.refl _ _,k+1,by omega,rfl,by rw [ycg hd,hkl];simpa using hq,rfl,by simp [fsV,ss]⟩
def RwtI (a b:List y58) (H:Hp) (m:Nat) (F:Fr) (X:Hp):Prop:=
  ∃i,i≤a.length∧m=a.length-i∧(a.take i).all (inB1 b)=true∧X=H∧F=[(0,fsV a),(1,fsV b),(5,.i .i64 i)]
def RwtJ (a b:List y58) (f:y58) (i:Nat) (H:Hp) (m:Nat) (F:Fr) (X:Hp):Prop:=
  ∃k,k≤f.2.length∧m=f.2.length-k∧((f.2.take k).all fun p=>decide (p∈ofS b f.1))=true∧X=H∧F=[(0,fsV a),(1,fsV b),(5,.i .i64 i),(6,ss (ofS b f.1)),(7,.i .i64 k)]
theorem yk0 (a b:List y58) (ha:a.length≤1000000) (hb:b.length≤1000000) (hxa:∀f∈a,f.2.length≤1000000) (hxb:∀f∈b,f.2.length≤1000000) (H:Hp):AC Tryz.prog y6g [fsV a,fsV b] H (fun v H'=>v=.b (yj6 a b)∧H'=H):=by
  refine AC.code yz.at yz.ok ?_
  simp only [yz]
  apply jA
  simp [yz.r0]
  apply jB
  simp [yz.r1]
  refine AX.pblock (AX.loop (RwtI a b H) a.length ⟨_,_,.refl _ _,0,by omega,by omega,by simp,rfl,rfl⟩ ?_)
  rintro m F X ⟨i,hi,rfl,hal,rfl,rfl⟩
  simp only [yz.l0]
  apply jB
  simp [yz.r2,fsV]
  refine AX.pcond rfl (fun hc=>AX.skip ?_) (fun hc=>AX.exit ?_)
  rotate_left
  · simp at hc
    simp
    apply jA
    simp [yz.r10]
    apply jD
    rw [List.take_of_length_le hc] at hal
    simp [yj6,hal]
  simp at hc
  simp
  have hxi:=hxa _ (List.getElem_mem hc)
  obtain ⟨f,hf⟩:∃f,f=a[i]:=⟨_,rfl⟩
  rw [←hf] at hxi
  apply jC
  simp [yz.r3,fsV,hc,fcs,←hf]
  refine AC.fix (ROf_ok b f.1 (by omega) hxb X) ?_
  simp
  apply jA
  simp [yz.r4]
  refine AX.pblock (AX.loop (RwtJ a b f i X) f.2.length ⟨_,_,.refl _ _,0,by omega,by omega,by simp,rfl,by simp [fsV,fcs]⟩ ?_)
  rintro m F X2 ⟨k,hk,rfl,hkl,rfl,rfl⟩
  simp only [yz.l1]
  apply jB
  simp [yz.r5,fsV,hc,fcs,ss,←hf]
  refine AX.pcond rfl (fun hd=>AX.skip ?_) (fun hd=>AX.exit ?_)
  rotate_left
  · simp at hd
    rw [List.take_of_length_le hd] at hkl
    simp
    apply jE
    simp [yz.r9,y28 hc (show a.length≤9223372036854775807 by omega)]
    exact ⟨a.length-(i+1),by omega,_,_,.refl _ _,i+1,by omega,rfl,by rw [ycg hc,hal,←hf];exact hkl,rfl,by simp [fsV,fcs,ss]⟩
  simp at hd
  simp
  apply jC
  simp [yz.r6,fsV,hc,fcs,ss,←hf,hd]
  refine AC.fix (ygh (ofS b f.1) f.2[k] (by have:=ylp (n:=f.1) hxb;unfold N63;omega) X2) ?_
  simp
  have hnum:=y9r (l:=ofS b f.1) (x:=f.2[k])
  refine AX.pcond (t:=decide (ydw (ofS b f.1) f.2[k]<0)) rfl (fun hq=>jA ?_) (fun hq=>AX.skip ?_)
  · simp [yz.r7]
    apply jD
    simp at hq
    have:yj6 a b=false:=yb9 hc (by rw [←hf];exact yb9 hd (by simpa using hnum.1 hq))
    simp [this]
  · simp at hq
    simp
    apply jE
    simp [yz.r8,y28 hd (show f.2.length≤9223372036854775807 by omega)]
    exact ⟨f.2.length-(k+1),by omega,_,_,.refl _ _,k+1,by omega,rfl,by rw [ycg hd,hkl];simp;exact Classical.byContradiction fun h=>by have:=hnum.2 h;omega,rfl,by simp [fsV,fcs,ss]⟩
def yi0 (l:List y58):Prop:=l.length≤140737488355328∧∀f∈l,f.1.length≤140737488355328∧f.2.length≤140737488355328∧∀t∈f.2,t.length≤140737488355328
def GfInv (l:List y58) (H:Hp) (m:Nat) (F:Fr) (X:Hp):Prop:=
  ∃i n,i≤l.length∧m=l.length-i∧n≤50000∧(∀(k:Nat) f,k<i→l[k]?=some f→f.2.length≤5000)∧X=H∧F=[(0,fsV l),(3,.i .i64 (n:Nat)),(4,.i .i64 i)]
def GfIn (l:List y58) (i n0:Nat) (ts:List Str) (H:Hp) (m:Nat) (F:Fr) (X:Hp):Prop:=
  ∃k n,k≤ts.length∧k≤500∧m=ts.length-k∧n0≤n∧n≤n0+k*140737488355328∧X=H∧F=[(0,fsV l),(3,.i .i64 (n:Nat)),(4,.i .i64 i),(5,.i .i64 k)]
theorem yba (l:List y58) (hs:yi0 l) (H:Hp):AC Tryz.prog y4k [fsV l] H (fun v H'=>(∃b,v=.b b∧(b=false→l.length≤100∧∀f∈l,f.2.length≤5000))∧H'=H):=by
  refine AC.code yf.at yf.ok ?_
  simp only [yf]
  apply jA
  simp [yf.r0]
  apply jB
  simp [yf.r1,fsV]
  by_cases hl:100<l.length
  · refine jG (by simp [hl]) (jA ?_)
    simp [yf.r2]
    apply jD
    simp
  refine jF (by simp [hl]) (AX.skip ?_)
  simp
  apply jA
  simp [yf.r3]
  apply jB
  simp [yf.r4]
  refine AX.pblock (AX.loop (GfInv l H) l.length ⟨_,_,.refl _ _,0,0,by omega,by omega,by omega,fun k f h=>by omega,rfl,by simp [fsV]⟩ ?_)
  rintro m F X ⟨i,n,hi,rfl,hn,hk,rfl,rfl⟩
  simp only [yf.l0]
  apply jB
  simp [yf.r5,fsV]
  refine AX.pcond rfl (fun hc=>AX.skip ?_) (fun hc=>AX.exit ?_)
  · simp at hc
    obtain ⟨b1,b2,b3⟩:=hs.2 _ (List.getElem_mem hc)
    have hg:l[i]?=some l[i]:=List.getElem?_eq_getElem hc
    have w1:Go.IntKind.i64.wrap ((n:Int)+l[i].1.length)=((n+l[i].1.length:Nat):Int):=by rw [wrap_i64 (by omega) (by omega)];omega
    have w2:Go.IntKind.i64.wrap (10*(l[i].2.length:Int))=((10*l[i].2.length:Nat):Int):=by rw [wrap_i64 (by omega) (by omega)];omega
    have w3:Go.IntKind.i64.wrap (((n:Nat)+l[i].1.length:Int)+10*l[i].2.length)=((n+l[i].1.length+10*l[i].2.length:Nat):Int):=by rw [wrap_i64 (by omega) (by omega)];omega
    simp
    refine AX.seq (AX.pblock (AX.seq (AX.drw ?_)))
    simp [yf.r6,fsV,hc,fcs,ss,w1,w2,w3]
    obtain ⟨n0,hn0⟩:∃n0,n0=n+l[i].1.length+10*l[i].2.length:=⟨_,rfl⟩
    rw [show ((n:Int)+l[i].1.length+10*l[i].2.length)=((n0:Nat):Int) by omega]
    apply jB
    simp [yf.r7]
    refine AX.pblock (AX.loop (GfIn l i n0 l[i].2 X) l[i].2.length ⟨_,_,.refl _ _,0,n0,by omega,by omega,by omega,by omega,by omega,rfl,by simp [fsV,fcs,ss]⟩ ?_)
    rintro m F Y ⟨k,n1,hkl,hk5,rfl,h0,h1,rfl,rfl⟩
    simp only [yf.l1]
    refine AX.seq (AX.test (decide (k<l[i].2.length∧k<500)) [(0,fsV l),(3,.i .i64 (n1:Nat)),(4,.i .i64 i),(5,.i .i64 k),(42,.b (decide (k<l[i].2.length∧k<500)))] ?_ rfl (fun h=>AX.skip ?_) (fun h=>AX.exit ?_))
    · by_cases hkk:k<l[i].2.length
      · simp [yf.r8,fsV,hc,fcs,ss,hkk]
      · simp [yf.r8,fsV,hc,fcs,ss,hkk]
    · simp at h
      have b4:=b3 _ (List.getElem_mem h.1)
      have w4:Go.IntKind.i64.wrap ((n1:Int)+(l[i].2[k]'h.1).length)=((n1+(l[i].2[k]'h.1).length:Nat):Int):=by rw [wrap_i64 (by omega) (by omega)];omega
      simp
      refine AX.seq (AX.pblock (AX.reg ?_))
      simp [yf.r9,fsV,hc,fcs,ss,h.1,w4]
      rw [show ((n1:Int)+(l[i].2[k]'h.1).length)=((n1+(l[i].2[k]'h.1).length:Nat):Int) by omega]
      apply jE
      simp [yf.r10,y9t (show k≤9223372036854775000 by omega)]
      refine ⟨l[i].2.length-(k+1),by omega,_,_,.refl _ _,k+1,n1+(l[i].2[k]'h.1).length,by omega,by omega,rfl,by omega,?_,rfl,by simp [fsV,fcs,ss]⟩
      rw [Nat.succ_mul];omega
    · simp
      apply jA
      simp [yf.r11]
      by_cases hbig:50000<n1
      · refine jG (by simp;omega) (jA ?_)
        simp [yf.r12]
        apply jD
        simp
      · refine jF (by simp;omega) (AX.skip ?_)
        simp
        apply jE
        simp [yf.r13,y9t (show i≤9223372036854775000 by omega)]
        refine ⟨l.length-(i+1),by omega,_,_,.refl _ _,i+1,n1,by omega,rfl,by omega,fun k' f hk' hf'=>?_,rfl,by simp [fsV,fcs,ss]⟩
        by_cases e:k'=i
        · subst e
          rw [hg] at hf';injection hf' with hf';subst hf';omega
        · exact hk k' f (by omega) hf'
  simp at hc
  have e:i=l.length:=by omega
  rw [e] at hk
  simp
  apply jA
  simp [yf.r14]
  apply jD
  simp
  refine ⟨by omega,fun a b h=>?_⟩
  obtain ⟨k,hk'⟩:=List.mem_iff_getElem?.1 h
  exact hk k _ (List.getElem?_eq_some_iff.1 hk').1 hk'
def y6r (n:Nat) (X:Hp) (v:V) (bs:List Bk):Prop:=(bs=[]∧∃z,v=.sl none 0 z)∨∃id m,n≤id∧v=.sl (some (id,0,(y6d bs).length)) bs.length 2∧X.get id=some (.cells (y6d bs) m)∧m≤(y6d bs).length
theorem y6r.row {n:Nat} {X:Hp} {v:V} {bs:List Bk} (h:y6r n X v bs):RowB X v bs:=by
  rcases h with ⟨rfl,z,rfl⟩ | ⟨id,m,_,rfl,g,hm⟩
  · exact .nil z
  · exact .own g hm
theorem y6r.to {n:Nat} {X X':Hp} {v:V} {bs:List Bk} (h:y6r n X v bs) (k:∀i blk,n≤i→X.get i=some blk→X'.get i=some blk):y6r n X' v bs:=
  h.imp id fun ⟨i,m,a,b,c,d⟩=>⟨i,m,a,b,k i _ a c,d⟩
theorem y6r.app {n:Nat} {X:Hp} {v:V} {bs:List Bk} (h:y6r n X v bs) (hl:Hp.Lt X) (hn:n≤X.next) (hb:bs.length≤16000000) (q:Bk):
    ∃v2 X2,y2p X 2 16 v (.fs [bkc q])=some (v2,X2)∧y6r n X2 v2 (bs++[q])∧Hp.Lt X2∧X.next≤X2.next∧∀k,k<n→X2.get k=X.get k:=by
  have e0:y6d (bs++[q])=y6d bs++bkc q:=by simp [y6d]
  have l0:=y85 bs
  rcases h with ⟨rfl,z,rfl⟩ | ⟨id,m,h1,rfl,g,hm⟩
  · refine ⟨.sl (some (X.next,0,2)) 1 2,X.add (.cells (bkc q) 2),by simp [y2p,y4o,y6f,bkc],.inr ⟨X.next,2,hn,rfl,by simp [y6d,bkc],by simp [y6d,bkc]⟩,Hp.add_lt hl _,by simp,fun k hk=>?_⟩
    simp [show k≠X.next by omega]
  · have hid:=hl _ _ g
    refine ⟨.sl (some (id,0,(y6d bs).length+2)) (bs.length+1) 2,X.upd id (.cells (y6d bs++bkc q) m),?_,.inr ⟨id,m,h1,?_,by rw [e0];simp,by rw [e0];simp;omega⟩,Hp.upd_lt hl hid _,by simp,fun k hk=>?_⟩
    · simp [y2p,y4o,y6f,g,bkc,y4j,l0]
      omega
    · rw [e0];simp [bkc]
    · simp [show k≠id by omega]
theorem ym2 (a1 a2:Option (Nat × Nat × Nat)) (l1 l2 s1 s2:Nat) (H:Hp):AC Tryz.prog y8w [.sl a1 l1 s1,.sl a2 l2 s2] H (fun v H'=>v=.fn y6m [.p (some (H.next,0,1)),.p (some (H.next+1,0,1))]∧H'=(H.add (.cells [.sl a1 l1 s1] 1)).add (.cells [.sl a2 l2 s2] 1)):=by
  refine AC.code y3h.at y3h.ok ?_
  simp only [y3h]
  apply jA
  simp [y3h.r0]
  apply jA
  simp [y3h.r1]
  apply jD
  simp
structure MkJ (H:Hp) (f:Nat→Nat→Nat) (l:List (Bk × Bk)) (va vb:V) (lp:OB) (k:Nat) (X:Hp):Prop where
  lt:Hp.Lt X
  nx:H.next+5≤X.next
  ext:∀i blk,H.get i=some blk→X.get i=some blk
  out:∃v,X.get H.next=some (.cells [v] 1)∧y6r (H.next+5) X v (ybu f (l.take k))
  bo:X.get (H.next+1)=some (.cells [.p (some (H.next,0,1))] 1)
  ba:X.get (H.next+2)=some (.cells [va] 1)
  bb:X.get (H.next+3)=some (.cells [vb] 1)
  lp:X.get (H.next+4)=some (.obj lp)
theorem MkJ.up {H:Hp} {f:Nat→Nat→Nat} {l:List (Bk × Bk)} {va vb:V} {lp:OB} {k:Nat} {X X':Hp} (J:MkJ H f l va vb lp k X) (e:X.Ext X') (hl:Hp.Lt X'):MkJ H f l va vb lp k X':=by
  obtain ⟨v,h1,h2⟩:=J.out
  exact ⟨hl,Nat.le_trans J.nx e.1,fun i blk h=>e.2 _ _ (J.ext i blk h),⟨v,e.2 _ _ h1,h2.to fun i blk _ h=>e.2 _ _ h⟩,e.2 _ _ J.bo,e.2 _ _ J.ba,e.2 _ _ J.bb,e.2 _ _ J.lp⟩
set_option maxHeartbeats 1000000 in
theorem made_ok (ids ofs ms idt oft mt:Nat) (css cst:List V) (va vb:V) (a b:List Bk) (fo:Go.FuncId) (f:Nat→Nat→Nat) (H:Hp) (hlt:Hp.Lt H) (ha:OkB a) (hb:OkB b)
    (gs:H.get ids=some (.cells css ms)) (hms:ms≤css.length) (hvs:css[ofs]?=some va) (ra:RowB H va a) (gt:H.get idt=some (.cells cst mt)) (hmt:mt≤cst.length) (hvt:cst[oft]?=some vb) (rb:RowB H vb b)
    (hf:∀x y,x<18446744073709551616→y<18446744073709551616→f x y<18446744073709551616)
    (hof:∀x y,x<18446744073709551616→y<18446744073709551616→∀X,AC Tryz.prog fo [.i .u64 (x:Nat),.i .u64 (y:Nat)] X (fun v X'=>v=.i .u64 (f x y:Nat)∧X'=X)):
    AC Tryz.prog yai [.p (some (ids,ofs,css.length)),.p (some (idt,oft,cst.length)),.fn fo []] H (fun r X=>r=.p (some (H.next,0,1))∧H.Ext X∧Hp.Lt X∧∃v,X.get H.next=some (.cells [v] 1)∧y6r (H.next+1) X v (ybu f (y6t a b))):=by
  have ns:=hlt _ _ gs
  have nt:=hlt _ _ gt
  have hlen:=ybh a b
  have la:=ha.len
  have lb:=hb.len
  obtain ⟨a1,z1,rfl⟩:=ra.len
  obtain ⟨a2,z2,rfl⟩:=rb.len
  refine AC.code y1x.at y1x.ok ?_
  simp only [y1x]
  apply jA
  simp [y1x.r0]
  apply jA
  simp [y1x.r1]
  apply jB
  simp [y1x.r2]
  refine AC.fix (yeq ids ofs ms css _ _ (by simp [show ids≠H.next by omega,show ids≠H.next+1 by omega,gs]) hms hvs) ?_
  simp
  refine AC.fix (yeq idt oft mt cst _ _ (by simp [show idt≠H.next by omega,show idt≠H.next+1 by omega,gt]) hmt hvt) ?_
  simp
  refine AC.fix (ym2 _ _ _ _ _ _ _) ?_
  simp
  have x1:H.Ext (H.add (.cells [.sl none 0 0] 1)):=.add hlt _
  have t1:=Hp.add_lt hlt (.cells [.sl none 0 0] 1)
  have x2:=x1.trans (.add t1 (.cells [.p none] 1))
  have t2:=Hp.add_lt t1 (.cells [.p none] 1)
  have x3:=x2.upd hlt (k:=H.next+1) (by omega) (.cells [.p (some (H.next,0,1))] 1)
  have t3:=Hp.upd_lt t2 (k:=H.next+1) (by simp) (.cells [.p (some (H.next,0,1))] 1)
  have x4:=x3.trans (.add t3 (.cells [.sl a1 a.length z1] 1))
  have t4:=Hp.add_lt t3 (.cells [.sl a1 a.length z1] 1)
  have x5:=x4.trans (.add t4 (.cells [.sl a2 b.length z2] 1))
  have t5:=Hp.add_lt t4 (.cells [.sl a2 b.length z2] 1)
  refine AX.pblock (AX.prange rfl fun S hS=>?_)
  refine (yk2 (H.next+4) (H.next+2) (H.next+3) 1 1 _ _ a b (MkJ H f (y6t a b) (.sl a1 a.length z1) (.sl a2 b.length z2) (.lp S .ready)) _ ha hb (by simp) (by omega) (by simp) (by omega) ⟨Hp.add_lt t5 _,by simp,(x5.trans (.add t5 _)).2,⟨.sl none 0 0,by simp [show H.next≠H.next+1+1+1+1 by omega,show H.next≠H.next+1+1+1 by omega,show H.next≠H.next+1+1 by omega],.inl ⟨rfl,0,rfl⟩⟩,by simp,by simp,by simp,by simp⟩ (fun k X J=>J.lt) (fun k X X' J e hl=>J.up e hl)
    (fun k X J=>⟨ra.ext ⟨by have:=J.nx;omega,J.ext⟩,rb.ext ⟨by have:=J.nx;omega,J.ext⟩⟩) ?_).mono ?_
  · intro k X q hq J
    refine YC.walk hS J.lp rfl ?_
    simp only [y1x.a0]
    apply jA
    simp [y1x.r3,putAll,bkc]
    apply jE
    have nx:=J.nx
    have e1:X.Ext ((((X.add (.cells [.i .i64 0,.i .u64 0] 2)).upd X.next (.cells [.i .i64 (q.1.1:Nat),.i .u64 (q.1.2:Nat)] 2)).add (.cells [.i .i64 0,.i .u64 0] 2)).upd (X.next+1) (.cells [.i .i64 (q.2.1:Nat),.i .u64 (q.2.2:Nat)] 2)):=
      ((((Hp.Ext.add J.lt _).upd J.lt (Nat.le_refl _) _).trans (.add (Hp.upd_lt (Hp.add_lt J.lt _) (by simp) _) _)).upd J.lt (by omega) _)
    have l1:=Hp.upd_lt (k:=X.next+1) (Hp.add_lt (Hp.upd_lt (k:=X.next) (Hp.add_lt J.lt (.cells [.i .i64 0,.i .u64 0] 2)) (by simp) (.cells [.i .i64 (q.1.1:Nat),.i .u64 (q.1.2:Nat)] 2)) (.cells [.i .i64 0,.i .u64 0] 2)) (by simp) (.cells [.i .i64 (q.2.1:Nat),.i .u64 (q.2.2:Nat)] 2)
    simp [y1x.r4]
    obtain ⟨X1,hX1⟩:∃X1,X1=((((X.add (.cells [.i .i64 0,.i .u64 0] 2)).upd X.next (.cells [.i .i64 (q.1.1:Nat),.i .u64 (q.1.2:Nat)] 2)).add (.cells [.i .i64 0,.i .u64 0] 2)).upd (X.next+1) (.cells [.i .i64 (q.2.1:Nat),.i .u64 (q.2.2:Nat)] 2)):=⟨_,rfl⟩
    have g8:X1.get X.next=some (.cells [.i .i64 (q.1.1:Nat),.i .u64 (q.1.2:Nat)] 2):=by rw [hX1];simp
    have g9:X1.get (X.next+1)=some (.cells [.i .i64 (q.2.1:Nat),.i .u64 (q.2.2:Nat)] 2):=by rw [hX1];simp
    rw [←hX1] at e1 l1 ⊢
    have J1:=J.up e1 l1
    refine ⟨by rw [if_neg (by omega),if_neg (by omega),if_neg (by omega),if_neg (by omega)];exact J.lp,?_⟩
    obtain ⟨h1,h2⟩:=ybt a b ha hb
    have hqm:=List.mem_of_getElem? hq
    have hq1:q.1.2<18446744073709551616∧q.2.2<18446744073709551616:=by
      have at64:∀{bs:List Bk},OkB bs→∀k,atB bs k<18446744073709551616:=fun {bs} h k=>by
        unfold atB
        cases hf:bs.find? fun x=>x.1 == k with
        | none=>simp
        | some x=>exact (h.bit x (List.mem_of_find?_eq_some hf)).2.1
      have:=h2 q hqm
      rw [this.2.2.1,this.2.2.2]
      exact ⟨at64 ha _,at64 hb _⟩
    have hkl:=(List.getElem?_eq_some_iff.1 hq).1
    have hmk:ybu f ((y6t a b).take (k+1))=ybu f ((y6t a b).take k)++(if f q.1.2 q.2.2≠0 then [(q.1.1,f q.1.2 q.2.2)] else []):=by
      rw [List.take_add_one,hq];exact mkB_snoc f q _
    have hmkl:(ybu f ((y6t a b).take k)).length≤16000000:=by
      have:(ybu f ((y6t a b).take k)).length≤((y6t a b).take k).length:=List.length_filterMap_le _ _
      rw [List.length_take] at this
      omega
    have ne1:X.next≠H.next+4:=by omega
    have ne2:X.next+1≠H.next+4:=by omega
    have ne3:H.next≠H.next+4:=by omega
    have ne4:H.next+1≠H.next+4:=by omega
    have ne5:X.next≠H.next+3:=by omega
    simp only [y1x.b0]
    refine AX.pblock (jA ?_)
    simp [y1x.r5,g8,g9,ne1,ne2,ne5]
    refine AC.fix (hof _ _ hq1.1 hq1.2 _) ?_
    simp
    refine AX.test (decide (f q.1.2 q.2.2≠0)) [(7,.p (some (H.next+1,0,1))),(8,.p (some (X.next,0,2))),(10,.i .u64 (f q.1.2 q.2.2:Nat)),(27,.b (decide (f q.1.2 q.2.2≠0)))] ?_ rfl (fun hc=>?_) (fun hc=>AX.skip ?_)
    · simp [y1x.r6]
    · simp at hc
      rw [if_pos hc] at hmk
      obtain ⟨v,o1,o2⟩:=J1.out
      obtain ⟨v2,X3,s1,s2,s3,s4,s5⟩:=(o2.to (X':=X1.upd (H.next+4) (.obj (.lp S .busy))) (fun i blk hi h=>by simp [show i≠H.next+4 by omega,h])).app (Hp.upd_lt l1 (by have:=J1.nx;omega) _) (by simpa using J1.nx) hmkl (q.1.1,f q.1.2 q.2.2)
      obtain ⟨p2,z3,rfl⟩:=s2.row.len
      simp [bkc,-y2p] at s1
      have hx3:H.next+5≤X3.next:=Nat.le_trans J1.nx (by simpa using s4)
      have k0:X3.get H.next=some (.cells [v] 1):=by rw [s5 _ (by omega)];simp [ne3,o1]
      have k1:X3.get (H.next+1)=some (.cells [.p (some (H.next,0,1))] 1):=by rw [s5 _ (by omega)];simp [J1.bo]
      refine AX.drw ?_
      have o1':(X1.upd (H.next+4) (.obj (.lp S .busy))).get H.next=some (.cells [v] 1):=by simp [ne3,o1]
      simp [y1x.r7,g8,g9,ne1,ne2,ne3,ne5,J1.bo,o1,-y2p,s1,y7s,k0,k1]
      have k4:X3.get (H.next+4)=some (.obj (.lp S .busy)):=by rw [s5 _ (by omega)];simp
      simp [y8n,k4]
      have hlk:∀i blk,H.get i=some blk→i<H.next:=hlt
      have kk:∀i blk,i<H.next+4→i≠H.next→X1.get i=some blk→((X3.upd H.next (.cells [.sl p2 ((ybu f (List.take k (y6t a b))).length+1) z3] 1)).upd (H.next+4) (.obj (.lp S .ready))).get i=some blk:=fun i blk h1 h2 h3=>by
        simp [show i≠H.next+4 by omega,h2]
        rw [s5 _ (by omega)]
        simp [show i≠H.next+4 by omega,h3]
      refine ⟨Hp.upd_lt (Hp.upd_lt s3 (by omega) _) (by simp;omega) _,by simpa using hx3,fun i blk h=>kk i blk (by have:=hlt _ _ h;omega) (by have:=hlt _ _ h;omega) (J1.ext i blk h),⟨_,by simp [ne3];rfl,?_⟩,kk _ _ (by omega) (by omega) J1.bo,kk _ _ (by omega) (by omega) J1.ba,kk _ _ (by omega) (by omega) J1.bb,by simp⟩
      rw [hmk]
      have:=s2.to (X':=(X3.upd H.next (.cells [.sl p2 ((ybu f (List.take k (y6t a b))).length+1) z3] 1)).upd (H.next+4) (.obj (.lp S .ready))) fun i blk hi h=>by
        simp [show i≠H.next+4 by omega,show i≠H.next by omega,h]
      simpa using this
    · have hc':f q.1.2 q.2.2=0:=by simpa using hc
      rw [if_neg (by simp [hc'])] at hmk
      rw [List.append_nil] at hmk
      simp [y8n]
      have eu:X1.upd (H.next+4) (.obj (.lp S .ready))=X1:=Hp.upd_self J1.lp
      rw [eu]
      obtain ⟨v,o1,o2⟩:=J1.out
      exact ⟨J1.lt,J1.nx,J1.ext,⟨v,o1,by rw [hmk];exact o2⟩,J1.bo,J1.ba,J1.bb,J1.lp⟩
  · rintro v X J
    obtain ⟨w,o1,o2⟩:=J.out
    have hfull:(y6t a b).take (y6t a b).length=y6t a b:=List.take_length
    rw [hfull] at o2
    refine .inl ⟨J.lp,?_⟩
    simp
    apply jA
    have hd:∀j,j≠H.next+4→(X.del (H.next+4)).get j=X.get j:=fun j h=>by simp only [Hp.del];rw [if_neg h]
    have b1:(X.del (H.next+1+1+1+1)).get (H.next+1)=some (.cells [.p (some (H.next,0,1))] 1):=(hd _ (by omega)).trans J.bo
    simp [y1x.r8,b1]
    apply jD
    simp
    have nx:=J.nx
    refine ⟨⟨by simp only [Hp.del];omega,fun i blk h=>(hd i (by have:=hlt _ _ h;omega)).trans (J.ext i blk h)⟩,fun i blk h=>?_,w,(hd _ (by omega)).trans o1,?_⟩
    · by_cases hi:i=H.next+4
      · subst hi;simp [Hp.del] at h
      · exact J.lt i blk ((hd i hi).symm.trans h)
    · rcases o2 with ⟨e,z,rfl⟩ | ⟨id,m,h1,rfl,g,hm⟩
      · exact .inl ⟨e,z,rfl⟩
      · exact .inr ⟨id,m,by omega,rfl,(hd _ (by omega)).trans g,hm⟩
theorem ygz {x y:Nat} (hx:x<18446744073709551616) (hy:y<18446744073709551616):(x ||| y)<18446744073709551616:=Nat.or_lt_two_pow (n:=64) hx hy
theorem Join1_ok (x y:Nat) (hx:x<18446744073709551616) (hy:y<18446744073709551616) (X:Hp):AC Tryz.prog y6z [.i .u64 (x:Nat),.i .u64 (y:Nat)] X (fun v X'=>v=.i .u64 ((x ||| y:Nat):Nat)∧X'=X):=by
  refine AC.code y2t.at y2t.ok ?_
  simp only [y2t]
  apply jA
  simp [y2t.r0]
  apply jA
  simp [y2t.r1,bOr64 hx hy]
  apply jD
  simp
abbrev orB (a b:List Bk):List Bk:=ybu (· ||| ·) (y6t a b)
theorem orB_ok {a b:List Bk} (ha:OkB a) (hb:OkB b):OkB (orB a b):=mk_ok (fun x y hx hy=>ygz hx hy) ha hb
set_option maxHeartbeats 1000000 in
theorem BJoin_ok (ids ofs ms idt oft mt:Nat) (css cst:List V) (va vb:V) (a b:List Bk) (H:Hp) (hlt:Hp.Lt H) (ha:OkB a) (hb:OkB b)
    (gs:H.get ids=some (.cells css ms)) (hms:ms≤css.length) (hvs:css[ofs]?=some va) (ra:RowB H va a) (gt:H.get idt=some (.cells cst mt)) (hmt:mt≤cst.length) (hvt:cst[oft]?=some vb) (rb:RowB H vb b):
    AC Tryz.prog y7x [.p (some (ids,ofs,css.length)),.p (some (idt,oft,cst.length))] H (fun r X=>r=.i .i64 (((elB (orB a b)).length:Int)-((elB a).length:Int))∧Hp.Lt X∧H.next≤X.next∧
      (∀k blk,k≠ids→H.get k=some blk→X.get k=some blk)∧∃v,X.get ids=some (.cells (css.set ofs v) css.length)∧y6r H.next X v (orB a b)):=by
  have hos:=(List.getElem?_eq_some_iff.1 hvs).1
  have ns:=hlt _ _ gs
  have hO:=orB_ok ha hb
  have l1:=yam a
  have l2:=yam (orB a b)
  have la:=ha.len
  have lo:=hO.len
  refine AC.code y22.at y22.ok ?_
  simp only [y22]
  apply jA
  simp [y22.r0]
  apply jB
  simp [y22.r1]
  refine jF rfl (AX.skip ?_)
  simp
  apply jA
  simp [y22.r3]
  refine AC.fix (yo3 ids ofs ms css va a H gs hms hvs ra ha) ?_
  simp
  apply jA
  simp [y22.r4]
  refine (made_ok ids ofs ms idt oft mt css cst va vb a b y6z (· ||| ·) H hlt ha hb gs hms hvs ra gt hmt hvt rb (fun x y hx hy=>ygz hx hy) (fun x y hx hy X=>Join1_ok x y hx hy X)).mono ?_
  rintro r X ⟨rfl,hx,hxl,v,g0,ho⟩
  have gs':=hx.2 _ _ gs
  obtain ⟨p,z,hv⟩:=ho.row.len
  subst hv
  simp [g0,gs',show ofs+1≤css.length by omega]
  have hset:(css.set ofs (.sl p (orB a b).length z)).length=css.length:=List.length_set
  have hx1:=Hp.upd_lt hxl (k:=ids) (by have:=hx.1;omega) (.cells (css.set ofs (.sl p (orB a b).length z)) css.length)
  have own:y6r H.next (X.upd ids (.cells (css.set ofs (.sl p (orB a b).length z)) css.length)) (.sl p (orB a b).length z) (orB a b):=by
    have:=ho.to (X':=X.upd ids (.cells (css.set ofs (.sl p (orB a b).length z)) css.length)) fun i blk hi h=>by simp [show i≠ids by omega,h]
    rcases this with h | ⟨id,m,h1,h2,h3,h4⟩
    · exact .inl h
    · exact .inr ⟨id,m,by omega,h2,h3,h4⟩
  apply jA
  simp [y22.r5]
  have hl:=yo3 ids ofs css.length (css.set ofs (.sl p (orB a b).length z)) (.sl p (orB a b).length z) (orB a b) (X.upd ids (.cells (css.set ofs (.sl p (orB a b).length z)) css.length)) (by simp) (by simp) (by simp [hos]) own.row hO
  rw [hset] at hl
  refine AC.fix hl ?_
  have hw:Go.IntKind.i64.wrap (((elB (orB a b)).length:Int)-((elB a).length:Int))=((elB (orB a b)).length:Int)-((elB a).length:Int):=by
    rw [wrap_i64 (by omega) (by omega)]
  simp [hw]
  apply jD
  simp
  refine ⟨hx1,hx.1,fun k blk hk h=>?_,_,rfl,own⟩
  simp [hk]
  exact hx.2 _ _ h
end Go.Proofs.YtikpijbeobeckaaGreatDoor
