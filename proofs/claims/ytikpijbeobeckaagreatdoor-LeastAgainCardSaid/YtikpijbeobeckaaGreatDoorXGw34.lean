/- Part 34. -/
import Derived.Test.YtikpijbeobeckaaGreatDoorXGw32
import Derived.Test.YtikpijbeobeckaaGreatDoorXGw33
set_option linter.unusedSimpArgs false
set_option linter.unusedVariables false
namespace Go.Proofs.YtikpijbeobeckaaGreatDoor
open Am C
def objV (r:Option (Str × Nat)):V:=match r with
 | some (o,k)=>.tup [.s o,.i .i64 (k:Nat),.b true]
 | none=>.tup [.s [],.i .i64 0,.b false]
theorem cell_nat {d:Nd} (h:RightN d) (hc:d.cell≠-1):((d.cell.toNat:Nat):Int)=d.cell:=by
 rcases h.cell with h1 | ⟨_,h1⟩
 ·exact absurd h1 hc
 ·have:=of_decide_eq_true h1
  omega
theorem ygm {d:Nd} (h:RightN d):y5r { d with cell:=-1 }=true:=(y55 _).2 ⟨h.k1,h.k7,h.cp,h.n,.inl rfl,h.fn,h.nm,h.nn⟩
theorem yln (p:Str) (hs:p.length≤9223372036854775806) (H:Hp):AC Tryz.prog y8u [.s p] H (fun v H'=>v=objV (yd7 p)∧H'=H):=by
 refine AC.codeP y1w.at y1w.ok (by unfold objV;split <;> simp) fun hlt=>?_
 simp only [y1w]
 apply jA
 simp [y1w.r0]
 apply jA
 simp [y1w.r1]
 refine AC.fix (y8q p hs _) ?_
 cases hr:y56 p with
 | none=>
  simp [rdV,nv,Nd.cs,Nd.zero]
  apply jB
  simp [y1w.r2]
  refine jG rfl ?_
  apply jA
  simp [y1w.r3]
  apply jD
  simp [yd7,hr,objV]
  exact ⟨(Hp.Ext.add hlt _).upd hlt (kG _) _,.refl _⟩
 | some d=>
  obtain ⟨hd,hw⟩:=y65 hr
  simp [rdV,nv,Nd.cs]
  apply jB
  by_cases h2:d.cell=-1
  ·have e:yd7 p=none:=by unfold yd7;rw [hr];simp only;rw [if_pos h2]
   simp [y1w.r2,h2]
   refine jG rfl ?_
   apply jA
   simp [y1w.r3]
   apply jD
   simp [e,objV]
   exact ⟨(Hp.Ext.add hlt _).upd hlt (kG _) _,.refl _⟩
  ·have e:yd7 p=some (y2w { d with cell:=-1 },d.cell.toNat):=by unfold yd7;rw [hr];simp only;rw [if_neg h2]
   simp [y1w.r2,h2]
   refine jF rfl (AX.skip ?_)
   simp
   apply jA
   simp [y1w.r4]
   apply jA
   simp [y1w.r5]
   apply jA
   simp [y1w.r6]
   refine AC.fix (yf8 { d with cell:=-1 } (ygm hd) _) ?_
   simp
   apply jD
   simp [e,objV,cell_nat hd h2]
   exact ⟨(Hp.Ext.add hlt _).upd hlt (kG _) _,.refl _⟩
theorem text_fit (d:Nd):∃tx er,yfa d=.tup [.s tx,.i .i64 er]∧tx=if y5r d then y2w d else []:=by
 by_cases hr:y5r d=true
 ·exact ⟨_,0,by unfold yfa;rw [if_pos hr],by rw [if_pos hr]⟩
 ·exact ⟨[],11,by unfold yfa;rw [if_neg hr],by rw [if_neg hr]⟩
theorem yil (i:Nat):y5r { Nd.zero with kind:=2,n:=(i:Int) }=false:=by
 cases h:y5r { Nd.zero with kind:=2,n:=(i:Int) } with
 | false=>rfl
 | true=>
  have:=((y55 _).1 h).fn
  rcases this with h | h
  ·exact absurd h.1 (show ¬((2:Int)=5) by decide)
  ·exact absurd h.2 (show ¬y6k []=true by decide)
def rdN (p:Str):Nd:=(y56 p).getD Nd.zero
theorem yl3 (p:Str) (i:Nat):y50 p i=if y5r { rdN p with kind:=2,n:=(i:Int) } then y2w { rdN p with kind:=2,n:=(i:Int) } else []:=by
 unfold y50 rdN
 cases y56 p with
 | none=>simp [yil]
 | some d=>rfl
theorem rdN_len (p:Str):(rdN p).fn.length≤p.length∧(rdN p).name.length≤p.length:=by
 unfold rdN
 cases h:y56 p with
 | none=>exact ⟨Nat.zero_le _,Nat.zero_le _⟩
 | some d=>exact ygp h
theorem rdV_eq (p:Str):∃e,rdV (y56 p)=.tup [nv (rdN p),.i .i64 e]:=by
 unfold rdN
 cases y56 p with
 | none=>exact ⟨11,rfl⟩
 | some d=>exact ⟨0,rfl⟩
theorem yf7 (p:Str) (i:Nat) (hs:p.length≤9223372036854775806) (H:Hp):AC Tryz.prog y7p [.s p,.i .i64 (i:Nat)] H (fun v H'=>v=.s (y50 p i)∧H'=H):=by
 refine AC.codeP y29.at y29.ok (by simp) fun hlt=>?_
 simp only [y29]
 apply jA
 simp [y29.r0]
 apply jA
 simp [y29.r1]
 refine AC.fix (y8q p hs _) ?_
 obtain ⟨e,he⟩:=rdV_eq p
 rw [he,yl3]
 have hdl:=rdN_len p
 generalize rdN p=d at hdl ⊢
 simp [nv,Nd.cs]
 apply jA
 simp [y29.r2]
 apply jA
 simp [y29.r3]
 refine AC.fix (yki { d with kind:=2,n:=(i:Int) } (by have:=hdl.1;simp;omega) (by have:=hdl.2;simp;omega) _) ?_
 obtain ⟨tx,er,e1,e2⟩:=text_fit { d with kind:=2,n:=(i:Int) }
 rw [e1,←e2]
 simp
 apply jA
 simp [y29.r4]
 apply jD
 simp
 exact ⟨((Hp.Ext.add hlt _).upd hlt (kG _) _),.refl _⟩
theorem y94 (es:List (Str × V)) (k:Str):(∃(i:Nat) (v:V),es[i]?=some (k,v)∧yfp es k=some v)∨(yfp es k=none∧(∀p∈es,p.1≠k)∧∀v,mput es k v=es++[(k,v)]):=by
 induction es with
 | nil=>exact .inr ⟨rfl,fun p h=>(by cases h),fun v=>rfl⟩
 | cons p r ih=>
  obtain ⟨k',u⟩:=p
  by_cases e:k'=k
  ·exact .inl ⟨0,u,by simp [e],by simp [yfp,e]⟩
  ·rcases ih with ⟨i,v,h1,h2⟩ | ⟨h1,h2,h3⟩
   ·exact .inl ⟨i+1,v,by simpa using h1,by simp [yfp,e,h2]⟩
   ·exact .inr ⟨by simp [yfp,e,h1],fun p hp=>(List.mem_cons.1 hp).elim (fun h=>by rw [h];exact e) (h2 p),fun v=>by simp [mput,e,h3]⟩
structure RkE where
 node:Str
 sid:Nat
 v:V
 bs:List Bk
 b:Nat
structure RkL where
 tag:Nat→Nat
 ts:List Str
 os:List Nat
 tv:V
 ov:V
 av:V
 idt:Nat
 ido:Nat
 ida:Nat
 mf:Nat
 mo:Nat
 mS:Nat
 es:List RkE
def nn (v:V):Prop:=¬∃z,v=.sl none 0 z
def esM (es:List RkE):List (Str × V):=es.map fun e=>(e.node,.p (some (e.sid,0,1)))
def efS (s:Sy):List (Str × V):=s.fns.map fun f=>(f.name,.agg (y75 f))
def eoS (s:Sy):List (Str × V):=s.objs.zipIdx.map fun p=>(p.1.name,.i .i64 (p.2:Nat))
def atP (s:Sy) (p:Str):Int × Int:=match yd7 p with
 | some (o,k)=>match yfp (eoS s) o with
  | some (.i .i64 i)=>(i,k)
  | _=>(-1,0)
 | none=>(-1,0)
def atc (s:Sy) (p:Str):List V:=[.i .i64 (atP s p).1,.i .i64 (atP s p).2]
def ylf (s:Sy) (ts:List Str):List V:=ts.flatMap (atc s)
theorem yg7 (s:Sy) (ts:List Str):(ylf s ts).length=ts.length*2:=by
 induction ts with
 | nil=>rfl
 | cons a r ih=>simp only [ylf,List.flatMap_cons,kT,kO] at ih ⊢;rw [ih];simp [atc];omega
theorem ypm {s:Sy} {ts:List Str} {n:Nat} {p:Str} (h:ts[n]?=some p):((ylf s ts).drop (n*2)).take 2=atc s p:=by
 induction ts generalizing n with
 | nil=>cases h
 | cons a r ih=>
  have e:ylf s (a::r)=atc s a++ylf s r:=rfl
  have la:(atc s a).length=2:=rfl
  rw [e]
  cases n with
  | zero=>
   simp at h;subst h
   simp [atc]
  | succ n=>
   rw [show (n+1)*2=(atc s a).length+n*2 by rw [la];omega,List.drop_append,List.drop_of_length_le (by omega),List.nil_append,Nat.add_sub_cancel_left]
   exact ih (by simpa using h)
def AtR (H:Hp) (s:Sy) (v:V) (ida:Nat) (ts:List Str):Prop:=(ts=[]∧∃z,v=.sl none 0 z)∨(ts≠[]∧v=.sl (some (ida,0,ts.length*2)) ts.length 2∧∃m,H.get ida=some (.cells (ylf s ts) m)∧m≤ts.length*2)
structure SetR (H:Hp) (e:RkE) (n:Nat):Prop where
 box:∃m,H.get e.sid=some (.cells [e.v] m)∧m≤1
 own:yd3 H e.v e.bs e.b
 ok:OkB e.bs
 lt:∀k∈elB e.bs,k<n
def yau (s:Sy) (L:RkL) (m:Bool):List V:=[.fs (s.objs.map y4l),.fs (s.fns.map y75),.fs (s.cons.map y3n),L.tv,L.ov,L.av,.mp (some L.mf),.mp (some L.mo),.mp (some L.mS),.b m]
structure RkOk (s:Sy) (id:Nat) (L:RkL) (m:Bool) (H:Hp):Prop where
 lt:Hp.Lt H
 blk:∃mm,H.get id=some (.cells (yau s L m) mm)∧mm≤10
 tab:TabG H L.tv L.ov L.idt L.ido L.ts L.os
 atr:AtR H s L.av L.ida L.ts
 mpf:H.get L.mf=some (.obj (.map (efS s)))
 mpo:H.get L.mo=some (.obj (.map (eoS s)))
 mps:H.get L.mS=some (.obj (.map (esM L.es)))
 set:∀(i:Nat) e,L.es[i]?=some e→SetR H e L.ts.length
 tid:L.tag id=1
 tmf:L.tag L.mf=5
 tmo:L.tag L.mo=6
 tms:L.tag L.mS=7
 tts:L.ts≠[]→L.tag L.idt=2∧L.tag L.ido=3∧L.tag L.ida=4
 tse:∀(i:Nat) e,L.es[i]?=some e→L.tag e.sid=10+2*i∧(nn e.v→L.tag e.b=11+2*i)
 tlt:∀k,L.tag k≠0→k<H.next
 keys:(L.es.map RkE.node).Nodup
def y5x (L:RkL):Rel:=fun n p=>∃e∈L.es,e.node=n∧∃k∈elB e.bs,L.ts[k]?=some p
theorem TabG.keep {H H':Hp} {tv ov:V} {idt ido:Nat} {ts:List Str} {os:List Nat} (T:TabG H tv ov idt ido ts os) (k:ts≠[]→(∀blk,H.get idt=some blk→H'.get idt=some blk)∧∀blk,H.get ido=some blk→H'.get ido=some blk):TabG H' tv ov idt ido ts os:=
 ⟨T.t.imp id fun ⟨a,b,m,c,d⟩=>⟨a,b,m,(k (fun e=>a (by rw [e];rfl))).1 _ c,d⟩,T.o.imp id fun ⟨a,b,m,c,d⟩=>⟨a,b,m,(k (fun e=>a (by
  have:=T.len
  rw [e] at this
  rw [List.length_eq_zero_iff.1 this];rfl))).2 _ c,d⟩,T.len,T.all,T.big,T.ris,T.nod⟩
theorem AtR.keep {H H':Hp} {s:Sy} {v:V} {ida:Nat} {ts:List Str} (h:AtR H s v ida ts) (k:ts≠[]→∀blk,H.get ida=some blk→H'.get ida=some blk):AtR H' s v ida ts:=
 h.imp id fun ⟨a,b,m,c,d⟩=>⟨a,b,m,k a _ c,d⟩
theorem yd3.keep {H H':Hp} {v:V} {bs:List Bk} {b:Nat} (h:yd3 H v bs b) (k:nn v→∀blk,H.get b=some blk→H'.get b=some blk):yd3 H' v bs b:=
 h.imp id fun ⟨a,m,c,d⟩=>⟨a,m,k (by rw [a];rintro ⟨z,h⟩;cases h) _ c,d⟩
theorem SetR.keep {H H':Hp} {e:RkE} {n n':Nat} (h:SetR H e n) (hn:n≤n') (k1:∀blk,H.get e.sid=some blk→H'.get e.sid=some blk) (k2:nn e.v→∀blk,H.get e.b=some blk→H'.get e.b=some blk):SetR H' e n':=
 ⟨h.box.imp fun m ⟨a,b⟩=>⟨k1 _ a,b⟩,h.own.keep k2,h.ok,fun k hk=>Nat.lt_of_lt_of_le (h.lt k hk) hn⟩
theorem SetR.lts {H:Hp} {e:RkE} {n:Nat} (h:SetR H e n) (hl:Hp.Lt H):e.sid<H.next:=by
 obtain ⟨m,g,_⟩:=h.box
 exact hl _ _ g
theorem RkOk.move {s:Sy} {id:Nat} {L:RkL} {m:Bool} {H H':Hp} (R:RkOk s id L m H) (hl:Hp.Lt H') (hn:H.next≤H'.next) (k:∀j blk,L.tag j≠0→H.get j=some blk→H'.get j=some blk):RkOk s id L m H':=
 ⟨hl,R.blk.imp fun mm ⟨a,b⟩=>⟨k _ _ (by rw [R.tid];simp) a,b⟩,R.tab.keep fun h=>⟨fun blk=>k _ _ (by rw [(R.tts h).1];simp),fun blk=>k _ _ (by rw [(R.tts h).2.1];simp)⟩,
  R.atr.keep fun h blk=>k _ _ (by rw [(R.tts h).2.2];simp),k _ _ (by rw [R.tmf];simp) R.mpf,k _ _ (by rw [R.tmo];simp) R.mpo,k _ _ (by rw [R.tms];simp) R.mps,
  fun i e h=>(R.set i e h).keep (kG _) (fun blk=>k _ _ (by rw [(R.tse i e h).1];omega)) fun hv blk=>k _ _ (by rw [(R.tse i e h).2 hv];omega),
  R.tid,R.tmf,R.tmo,R.tms,R.tts,R.tse,fun j hj=>Nat.lt_of_lt_of_le (R.tlt j hj) hn,R.keys⟩
structure RkTo (L L':RkL) (H H':Hp):Prop where
 nx:H.next≤H'.next
 ts:L.ts <+: L'.ts
 tag:∀k,k<H.next→L'.tag k=L.tag k
 keep:∀k blk,L.tag k=0→H.get k=some blk→H'.get k=some blk
 es:∀(i:Nat) e,L.es[i]?=some e→∃e',L'.es[i]?=some e'∧e'.node=e.node∧e'.sid=e.sid
theorem RkTo.refl (L:RkL) (H:Hp):RkTo L L H H:=⟨kG _,List.prefix_refl _,fun _ _=>rfl,fun _ _ _ h=>h,fun i e h=>⟨e,h,rfl,rfl⟩⟩
theorem RkTo.trans {L1 L2 L3:RkL} {H1 H2 H3:Hp} (h:RkTo L1 L2 H1 H2) (k:RkTo L2 L3 H2 H3) (hl:Hp.Lt H1):RkTo L1 L3 H1 H3:=
 ⟨kV h.nx k.nx,h.ts.trans k.ts,fun j hj=>by rw [k.tag j (Nat.lt_of_lt_of_le hj h.nx),h.tag j hj],fun j blk ht hg=>k.keep j blk (by rw [h.tag j (hl _ _ hg),ht]) (h.keep j blk ht hg),
  fun i e he=>by
   obtain ⟨e1,a1,a2,a3⟩:=h.es i e he
   obtain ⟨e2,b1,b2,b3⟩:=k.es i e1 a1
   exact ⟨e2,b1,by rw [b2,a2],by rw [b3,a3]⟩⟩
theorem RkOk.one {s:Sy} {id:Nat} {L:RkL} {m:Bool} {H:Hp} (R:RkOk s id L m H) {i j:Nat} {a b:RkE} (ha:L.es[i]?=some a) (hb:L.es[j]?=some b) (h:a.node=b.node):i=j:=by
 have h1:(L.es.map RkE.node)[i]?=some a.node:=by simp [ha]
 have h2:(L.es.map RkE.node)[j]?=some a.node:=by simp [hb,h]
 obtain ⟨q1,q2⟩:=List.getElem?_eq_some_iff.1 h1
 obtain ⟨r1,r2⟩:=List.getElem?_eq_some_iff.1 h2
 have:=R.keys
 rw [List.nodup_iff_pairwise_ne] at this
 rcases Nat.lt_trichotomy i j with h | h | h
 ·exact absurd (q2.trans r2.symm) (List.pairwise_iff_getElem.1 this i j q1 r1 h)
 ·exact h
 ·exact absurd (r2.trans q2.symm) (List.pairwise_iff_getElem.1 this j i r1 q1 h)
theorem RkOk.rel_at {s:Sy} {id:Nat} {L:RkL} {m:Bool} {H:Hp} (R:RkOk s id L m H) {i:Nat} {e:RkE} (he:L.es[i]?=some e) (p:Str):y5x L e.node p↔∃k∈elB e.bs,L.ts[k]?=some p:=by
 constructor
 ·rintro ⟨e',h1,h2,h3⟩
  obtain ⟨j,hj⟩:=List.mem_iff_getElem?.1 h1
  have:=R.one hj he h2
  subst this
  rw [hj] at he;injection he with he;subst he
  exact h3
 ·exact fun h=>⟨e,kY he,rfl,h⟩
theorem yd6 {s:Sy} {id:Nat} {L:RkL} {m:Bool} {H:Hp} (R:RkOk s id L m H) {n:Nat} {x:Str} (hx:L.ts[n]?=some x):AC Tryz.prog y3v [.p (some (id,0,10)),.i .i64 (n:Nat)] H (fun v H'=>v=.s x∧H'=H):=by
 obtain ⟨mm,hg,hm⟩:=R.blk
 refine AC.code y27.at y27.ok ?_
 simp only [y27]
 apply jA
 simp [y27.r0]
 apply jA
 simp [y27.r1]
 refine AC.fix (AtG_ok id 3 L.idt L.ido mm n (yau s L m) L.tv L.ov L.ts L.os x H hg hm rfl rfl R.tab hx) ?_
 simp
 apply jA
 simp [y27.r2]
 apply jD
 simp
def ybn (L:RkL) (node:Str) (k:Nat):RkL:={ L with tag:=fun j=>if j=k then 10+2*L.es.length else L.tag j,es:=L.es++[⟨node,k,.sl none 0 0,[],0⟩] }
theorem yji {s:Sy} {id:Nat} {L:RkL} {m:Bool} {H:Hp} (R:RkOk s id L m H) (node:Str):AC Tryz.prog y42 [.p (some (id,0,10)),.s node] H (fun v X=>∃(L':RkL) (i:Nat) (e:RkE),v=.p (some (e.sid,0,1))∧L'.es[i]?=some e∧e.node=node∧RkOk s id L' m X∧RkTo L L' H X∧L'.ts=L.ts∧∀n p,y5x L' n p↔y5x L n p):=by
 obtain ⟨mm,hg,hm⟩:=R.blk
 have hms:=R.mps
 refine AC.code y1h.at y1h.ok ?_
 simp only [y1h]
 apply jA
 simp [y1h.r0]
 apply jA
 rcases y94 (esM L.es) node with ⟨i,v,h1,h2⟩ | ⟨h1,h2,h3⟩
 ·obtain ⟨e,he,hn,rfl⟩:∃e,L.es[i]?=some e∧e.node=node∧v=.p (some (e.sid,0,1)):=by
   simp only [esM,List.getElem?_map,kd] at h1
   obtain ⟨e,he,h⟩:=h1
   injection h with ha hb
   exact ⟨e,he,ha,hb.symm⟩
  simp [y1h.r1,hg,hm,yau,hms,h2]
  apply jB
  simp [y1h.r2]
  refine jF rfl (AX.skip ?_)
  simp
  apply jA
  simp [y1h.r5]
  apply jD
  simp
  exact ⟨L,i,e,⟨rfl,he,hn,R,.refl _ _,rfl,fun _ _=>Iff.rfl⟩⟩
 ·simp [y1h.r1,hg,hm,yau,hms,h1]
  apply jB
  simp [y1h.r2]
  refine jG rfl (jA ?_)
  simp [y1h.r3]
  have ni:=R.lt _ _ hg
  have nS:=R.lt _ _ hms
  apply jE
  simp [y1h.r4,hg,hm,yau,hms,h3,show id≠H.next by omega,show L.mS≠H.next by omega]
  apply jA
  simp [y1h.r5]
  apply jD
  simp
  have hk:∀j blk,j≠L.mS→H.get j=some blk→((H.add (.cells [.sl none 0 0] 1)).upd L.mS (.obj (.map (esM L.es++[(node,.p (some (H.next,0,1)))])))).get j=some blk:=fun j blk hj h=>by
   have:=R.lt _ _ h
   simp [hj,show j≠H.next by omega,h]
  have ht:∀j t,L.tag j=t→t≠0→(ybn L node H.next).tag j=t:=fun j t h hj=>by
   have:=R.tlt j (by rw [h];exact hj)
   simp [ybn,show j≠H.next by omega,h]
  have hto:RkTo L (ybn L node H.next) H ((H.add (.cells [.sl none 0 0] 1)).upd L.mS (.obj (.map (esM L.es++[(node,.p (some (H.next,0,1)))])))):=
   ⟨by simp,List.prefix_refl _,fun j hj=>by simp [ybn,show j≠H.next by omega],fun j blk h hj=>hk j blk (fun e=>by rw [e,R.tms] at h;cases h) hj,fun i e he=>⟨e,by
    have:=(List.getElem?_eq_some_iff.1 he).1
    simp only [ybn];rw [kR this];exact he,rfl,rfl⟩⟩
  refine ⟨ybn L node H.next,L.es.length,⟨node,H.next,.sl none 0 0,[],0⟩,rfl,by simp [ybn],rfl,?_,hto,rfl,fun n p=>?_⟩
  ·have tg:∀j t,L.tag j=t→t≠0→j≠L.mS∨t=7:=fun j t h h0=>by
    by_cases e:j=L.mS
    ·right;rw [←h,e,R.tms]
    ·exact .inl e
   have tk:∀j t blk,L.tag j=t→t≠0→t≠7→H.get j=some blk→((H.add (.cells [.sl none 0 0] 1)).upd L.mS (.obj (.map (esM L.es++[(node,.p (some (H.next,0,1)))])))).get j=some blk:=fun j t blk h h0 h7=>hk j blk ((tg j t h h0).resolve_right h7)
   refine ⟨Hp.upd_lt (Hp.add_lt R.lt _) (by simp;omega) _,⟨mm,tk id 1 _ R.tid (by omega) (by omega) hg,hm⟩,?_,?_,tk _ 5 _ R.tmf (by omega) (by omega) R.mpf,tk _ 6 _ R.tmo (by omega) (by omega) R.mpo,?_,fun i e he=>?_,
    ht _ 1 R.tid (by omega),ht _ 5 R.tmf (by omega),ht _ 6 R.tmo (by omega),ht _ 7 R.tms (by omega),fun h=>?_,fun i e he=>?_,fun j hj=>?_,?_⟩
   ·exact R.tab.keep fun h=>⟨fun blk=>tk _ 2 _ (R.tts h).1 (by omega) (by omega),fun blk=>tk _ 3 _ (R.tts h).2.1 (by omega) (by omega)⟩
   ·exact R.atr.keep fun h blk=>tk _ 4 _ (R.tts h).2.2 (by omega) (by omega)
   ·simp [ybn,esM]
   ·simp only [ybn] at he
    rcases Nat.lt_or_ge i L.es.length with hi | hi
    ·rw [kR hi] at he
     exact (R.set i e he).keep (kG _) (fun blk=>tk _ _ _ (R.tse i e he).1 (by omega) (by omega)) fun hv blk=>tk _ _ _ ((R.tse i e he).2 hv) (by omega) (by omega)
    ·rw [kX hi] at he
     have hi0:i-L.es.length=0:=by
      have:=(List.getElem?_eq_some_iff.1 he).1
      simp at this;omega
     rw [hi0] at he
     simp at he;subst he
     exact ⟨⟨1,by simp [show H.next≠L.mS by omega],by omega⟩,.inl ⟨rfl,0,rfl⟩,.nil,fun k hk=>by simp [elB] at hk⟩
   ·obtain ⟨a,b,c⟩:=R.tts h
    exact ⟨ht _ _ a (by omega),ht _ _ b (by omega),ht _ _ c (by omega)⟩
   ·simp only [ybn] at he
    rcases Nat.lt_or_ge i L.es.length with hi | hi
    ·rw [kR hi] at he
     obtain ⟨a,b⟩:=R.tse i e he
     exact ⟨ht _ _ a (by omega),fun hv=>ht _ _ (b hv) (by omega)⟩
    ·rw [kX hi] at he
     have hi0:i-L.es.length=0:=by
      have:=(List.getElem?_eq_some_iff.1 he).1
      simp at this;omega
     rw [hi0] at he
     simp at he;subst he
     exact ⟨by simp [ybn];omega,fun hv=>absurd ⟨0,rfl⟩ hv⟩
   ·simp only [ybn] at hj
    by_cases e:j=H.next
    ·simp [e]
    ·rw [if_neg e] at hj
     have:=R.tlt j hj
     simp;omega
   ·simp only [ybn,List.map_append,List.map_cons,List.map_nil]
    rw [List.nodup_append]
    refine ⟨R.keys,by simp,fun a ha b hb=>?_⟩
    simp at hb;subst hb
    obtain ⟨e,he,rfl⟩:=List.mem_map.1 ha
    exact fun q=>h2 (e.node,.p (some (e.sid,0,1))) (List.mem_map.2 ⟨e,he,rfl⟩) q
  ·constructor
   ·rintro ⟨e,h1,h2,h3⟩
    simp only [ybn,kZ,List.mem_singleton] at h1
    rcases h1 with h1 | rfl
    ·exact ⟨e,h1,h2,h3⟩
    ·obtain ⟨k,hk,_⟩:=h3
     simp [elB] at hk
   ·rintro ⟨e,h1,h2,h3⟩
    exact ⟨e,by simp [ybn,h1],h2,h3⟩
theorem yn6 (ts:List Str) (os:List Nat) (x:Str) (hl:os.length=ts.length):ycq ts os x≠[]:=by
 unfold ycq
 split
 ·rename_i h
  intro e
  rw [e] at hl
  rw [List.length_eq_zero_iff.1 hl] at h;simp [y79] at h
 ·simp
theorem putT_pre (ts:List Str) (os:List Nat) (x:Str):ts <+: ycq ts os x:=by
 unfold ycq
 split
 ·exact List.prefix_refl _
 ·exact List.prefix_append _ _
def yjj (L:RkL) (n0:Nat) (x:Str) (tv ov av:V) (idt ido ida:Nat):RkL:=
 { L with tag:=fun k=>if k<n0 then L.tag k else if k=idt then 2 else if k=ido then 3 else if k=ida then 4 else 0,ts:=ycq L.ts L.os x,os:=putO L.ts L.os x,tv:=tv,ov:=ov,av:=av,idt:=idt,ido:=ido,ida:=ida }
theorem RkOk.put {s:Sy} {id:Nat} {L:RkL} {m:Bool} {H Y:Hp} (R:RkOk s id L m H) (x:Str) {tv ov av:V} {idt ido ida:Nat} (hl:Hp.Lt Y) (hn:H.next≤Y.next)
  (hb:∃mm,Y.get id=some (.cells (yau s (yjj L H.next x tv ov av idt ido ida) m) mm)∧mm≤10) (T:TabG Y tv ov idt ido (ycq L.ts L.os x) (putO L.ts L.os x)) (A:AtR Y s av ida (ycq L.ts L.os x))
  (ht:L.ts≠[]∧idt=L.idt∨H.next≤idt) (ho:L.ts≠[]∧ido=L.ido∨H.next≤ido) (ha:L.ts≠[]∧ida=L.ida∨H.next≤ida) (d1:idt≠ida) (d2:ido≠ida)
  (keep:∀k blk,k≠id→(L.ts≠[]→k≠L.idt∧k≠L.ido∧k≠L.ida)→H.get k=some blk→Y.get k=some blk):
  RkOk s id (yjj L H.next x tv ov av idt ido ida) m Y∧RkTo L (yjj L H.next x tv ov av idt ido ida) H Y∧∀n p,y5x (yjj L H.next x tv ov av idt ido ida) n p↔y5x L n p:=by
 have hne:=yn6 L.ts L.os x R.tab.len
 have hpre:=putT_pre L.ts L.os x
 have d3:=T.ne hne
 obtain ⟨l1,l2⟩:=T.lts hne hl
 have l3:ida<Y.next:=by
  rcases A with ⟨e,_⟩ | ⟨_,_,mm,g,_⟩
  ·exact absurd e hne
  ·exact hl _ _ g
 have tk:∀j t blk,L.tag j=t→5≤t→H.get j=some blk→Y.get j=some blk:=fun j t blk h h5 hg=>keep j blk (fun e=>by rw [e,R.tid] at h;omega) (fun hts=>by
  obtain ⟨a,b,c⟩:=R.tts hts
  exact ⟨fun e=>by rw [e,a] at h;omega,fun e=>by rw [e,b] at h;omega,fun e=>by rw [e,c] at h;omega⟩) hg
 have tg:∀j,j<H.next→(yjj L H.next x tv ov av idt ido ida).tag j=L.tag j:=fun j hj=>by simp [yjj,hj]
 have tz:∀j t,L.tag j=t→t≠0→(yjj L H.next x tv ov av idt ido ida).tag j=t:=fun j t h h0=>(tg j (R.tlt j (by rw [h];exact h0))).trans h
 refine ⟨⟨hl,hb,T,A,tk _ 5 _ R.tmf (by omega) R.mpf,tk _ 6 _ R.tmo (by omega) R.mpo,tk _ 7 _ R.tms (by omega) R.mps,
  fun i e he=>(R.set i e he).keep (List.IsPrefix.length_le hpre) (fun blk=>tk _ _ _ (R.tse i e he).1 (by omega)) fun hv blk=>tk _ _ _ ((R.tse i e he).2 hv) (by omega),
  tz _ _ R.tid (by omega),tz _ _ R.tmf (by omega),tz _ _ R.tmo (by omega),tz _ _ R.tms (by omega),fun _=>⟨?_,?_,?_⟩,fun i e he=>⟨tz _ _ (R.tse i e he).1 (by omega),fun hv=>tz _ _ ((R.tse i e he).2 hv) (by omega)⟩,fun j hj=>?_,R.keys⟩,
  ⟨hn,hpre,tg,fun k blk h0 hg=>keep k blk (fun e=>by rw [e,R.tid] at h0;omega) (fun hts=>by
   obtain ⟨a,b,c⟩:=R.tts hts
   exact ⟨fun e=>by rw [e,a] at h0;omega,fun e=>by rw [e,b] at h0;omega,fun e=>by rw [e,c] at h0;omega⟩) hg,fun i e he=>⟨e,he,rfl,rfl⟩⟩,fun n p=>?_⟩
 ·show (yjj L H.next x tv ov av idt ido ida).tag idt=2
  rcases ht with ⟨h,rfl⟩ | h
  ·exact tz _ _ (R.tts h).1 (by omega)
  ·simp [yjj,show ¬idt<H.next by omega]
 ·show (yjj L H.next x tv ov av idt ido ida).tag ido=3
  rcases ho with ⟨h,rfl⟩ | h
  ·exact tz _ _ (R.tts h).2.1 (by omega)
  ·simp [yjj,show ¬ido<H.next by omega,Ne.symm d3]
 ·show (yjj L H.next x tv ov av idt ido ida).tag ida=4
  rcases ha with ⟨h,rfl⟩ | h
  ·exact tz _ _ (R.tts h).2.2 (by omega)
  ·simp [yjj,show ¬ida<H.next by omega,Ne.symm d1,Ne.symm d2]
 ·rcases Nat.lt_or_ge j H.next with h | h
  ·omega
  ·simp only [yjj,show ¬j<H.next by omega,if_false] at hj
   split at hj
   ·omega
   ·split at hj
    ·omega
    ·split at hj
     ·omega
     ·exact absurd rfl hj
 ·have:∀e∈L.es,∀k∈elB e.bs,(ycq L.ts L.os x)[k]?=L.ts[k]?:=fun e he k hk=>by
   obtain ⟨i,hi⟩:=List.mem_iff_getElem?.1 he
   have hlt:=(R.set i e hi).lt k hk
   obtain ⟨r,hr⟩:=hpre
   rw [←hr,kR hlt]
  constructor
  ·rintro ⟨e,h1,h2,k,h3,h4⟩
   exact ⟨e,h1,h2,k,h3,by rw [←this e h1 k h3];exact h4⟩
  ·rintro ⟨e,h1,h2,k,h3,h4⟩
   exact ⟨e,h1,h2,k,h3,by show (ycq L.ts L.os x)[k]?=some p;rw [this e h1 k h3];exact h4⟩
theorem yof {s:Sy} {o:Str} {v:V} (h:yfp (eoS s) o=some v):∃i:Nat,v=.i .i64 (i:Nat)∧∃ob,s.objs[i]?=some ob∧ob.name=o:=by
 rcases y94 (eoS s) o with ⟨j,u,h1,h2⟩ | ⟨h1,_⟩
 ·rw [h2] at h;injection h with h;subst h
  simp only [eoS,List.getElem?_map,kd] at h1
  obtain ⟨⟨ob,i⟩,hp,hq⟩:=h1
  injection hq with hq1 hq2
  have:=kY hp
  rw [List.mem_zipIdx_iff_getElem?] at this
  exact ⟨i,hq2.symm,ob,this,hq1⟩
 ·rw [h1] at h;cases h
set_option maxHeartbeats 1000000 in
theorem ykt {s:Sy} {id:Nat} {L:RkL} {m:Bool} {H:Hp} (R:RkOk s id L m H) (x:Str) (hx:x.length≤9223372036854775806) (hbig:L.ts.length≤1000000):
  AC Tryz.prog y5h [.p (some (id,0,10)),.s x] H (fun v X=>∃(L':RkL) (k:Nat),v=.i .i64 (k:Nat)∧L'.ts[k]?=some x∧RkOk s id L' m X∧RkTo L L' H X∧L'.es=L.es∧(∀n p,y5x L' n p↔y5x L n p)∧L'.ts.length≤L.ts.length+1∧∀y∈L'.ts,y=x∨y∈L.ts):=by
 obtain ⟨mm,hg,hm⟩:=R.blk
 have ni:=R.lt _ _ hg
 have hpin:∀y∈ycq L.ts L.os x,y=x∨y∈L.ts:=fun y hy=>by
  unfold ycq at hy
  split at hy
  ·exact .inr hy
  ·simp at hy;exact hy.symm
 have hpl:(ycq L.ts L.os x).length≤L.ts.length+1:=by unfold ycq;split <;> simp
 refine AC.code yp.at yp.ok ?_
 simp only [yp]
 apply jA
 simp [yp.r0]
 apply jA
 simp [yp.r1]
 refine (PutG_ok id 3 L.idt L.ido mm (yau s L m) L.tv L.ov L.ts L.os x H R.lt hbig hg hm rfl rfl R.tab (fun h=>⟨fun e=>by have:=(R.tts h).1;rw [←e,R.tid] at this;omega,fun e=>by have:=(R.tts h).2.1;rw [←e,R.tid] at this;omega⟩)).mono ?_
 rintro v X ⟨rfl,hXl,hXn,tv,ov,idt,ido,mm',gX,hmX,T,ht,ho,hk⟩
 simp only [yau,List.set_cons_succ,List.set_cons_zero] at gX
 simp [yau] at hmX
 have hnum:=R.tab.num x
 have kt:∀j t blk,L.tag j=t→4≤t→H.get j=some blk→X.get j=some blk:=fun j t blk h h5 hgj=>hk j blk (fun e=>by rw [e,R.tid] at h;omega) (fun hts=>by
  obtain ⟨a,b,c⟩:=R.tts hts
  exact ⟨fun e=>by rw [e,a] at h;omega,fun e=>by rw [e,b] at h;omega⟩) hgj
 have dA:L.ts≠[]→idt≠L.ida∧ido≠L.ida:=fun hts=>by
  obtain ⟨a,b,c⟩:=R.tts hts
  have hla:=R.tlt L.ida (by rw [c];omega)
  refine ⟨fun e=>?_,fun e=>?_⟩
  ·rcases ht with ⟨_,h⟩ | h
   ·rw [←e,h,a] at c;omega
   ·omega
  ·rcases ho with ⟨_,h⟩ | h
   ·rw [←e,h,b] at c;omega
   ·omega
 have dI:idt≠id∧ido≠id:=⟨fun e=>by
  rcases ht with ⟨h,e2⟩ | h
  ·have:=(R.tts h).1;rw [←e2,e,R.tid] at this;omega
  ·omega,fun e=>by
  rcases ho with ⟨h,e2⟩ | h
  ·have:=(R.tts h).2.1;rw [←e2,e,R.tid] at this;omega
  ·omega⟩
 simp
 apply jB
 simp [yp.r2]
 by_cases hin:x∈y79 L.ts L.os
 ·have hts:L.ts≠[]:=fun e=>by
   have:=R.tab.len
   rw [e] at this
   rw [List.length_eq_zero_iff.1 this] at hin;simp [y79] at hin
  have epT:ycq L.ts L.os x=L.ts:=by unfold ycq;rw [if_pos hin]
  refine jG (by simp [hin]) (jA ?_)
  simp [yp.r3]
  apply jD
  simp
  have A':AtR X s L.av L.ida (ycq L.ts L.os x):=by
   rw [epT]
   exact R.atr.keep fun h blk=>kt _ 4 _ (R.tts h).2.2 (by omega)
  obtain ⟨q1,q2,q3⟩:=R.put x hXl hXn (av:=L.av) (ida:=L.ida) ⟨mm',gX,hmX⟩ T A' ht ho (.inl ⟨hts,rfl⟩) (dA hts).1 (dA hts).2 fun k blk h1 h2 h3=>hk k blk h1 (fun h=>⟨(h2 h).1,(h2 h).2.1⟩) h3
  exact ⟨_,hnum,q1,q2,rfl,q3,hpl,hpin⟩
 refine jF (by simp [hin]) (AX.skip ?_)
 have epT:ycq L.ts L.os x=L.ts++[x]:=by unfold ycq;rw [if_neg hin]
 have enum:ynk L.ts L.os x=L.ts.length:=by unfold ynk;rw [if_neg hin]
 simp
 apply jA
 simp [yp.r4]
 have nX:id<X.next:=hXl _ _ gX
 refine AX.cut (fun F Z=>F=[(0,.p (some (id,0,10))),(5,.i .i64 (ynk L.ts L.os x:Nat)),(7,.p (some (X.next,0,2)))]∧Z.get X.next=some (.cells (atc s x) 2)∧(∀k,k≠X.next→Z.get k=X.get k)∧Z.next=X.next+1) ?_ ?_
 ·apply jA
  simp [yp.r5]
  refine AC.fix (yln x hx _) ?_
  have gmo:=kt _ 6 _ R.tmo (by omega) R.mpo
  have nmo:=hXl _ _ gmo
  cases ho2:yd7 x with
  | none=>
   have ea:atc s x=[.i .i64 (-1),.i .i64 0]:=by simp [atc,atP,ho2]
   simp [objV]
   apply jA
   simp [yp.r6]
   refine jF rfl (AX.skip ?_)
   simp
   refine ⟨_,_,.refl _ _,rfl,by simp [ea],fun k hk=>by simp [hk],by simp⟩
  | some ok=>
   obtain ⟨o,k⟩:=ok
   simp [objV]
   apply jA
   simp [yp.r6]
   refine jG rfl (jA ?_)
   cases hmg:yfp (eoS s) o with
   | none=>
    have ea:atc s x=[.i .i64 (-1),.i .i64 0]:=by simp [atc,atP,ho2,hmg]
    simp [yp.r7,gX,hmX,show id≠X.next by omega,show L.mo≠X.next by omega,gmo,hmg]
    apply jA
    simp [yp.r8]
    refine jF rfl (AX.skip ?_)
    simp
    refine ⟨_,_,.refl _ _,rfl,by simp [ea],fun k hk=>by simp [hk],by simp⟩
   | some v=>
    obtain ⟨i,rfl,_⟩:=yof hmg
    have ea:atc s x=[.i .i64 (i:Nat),.i .i64 (k:Nat)]:=by simp [atc,atP,ho2,hmg]
    simp [yp.r7,gX,hmX,show id≠X.next by omega,show L.mo≠X.next by omega,gmo,hmg]
    apply jA
    simp [yp.r8]
    refine jG rfl (AX.reg ?_)
    simp [yp.r9,y7x]
    refine ⟨_,_,.refl _ _,rfl,by simp [ea],fun k hk=>by simp [hk],by simp⟩
 ·rintro F Z ⟨rfl,gZ,hZ,nZ⟩
  have gZi:Z.get id=some (.cells [.fs (s.objs.map y4l),.fs (s.fns.map y75),.fs (s.cons.map y3n),tv,ov,L.av,.mp (some L.mf),.mp (some L.mo),.mp (some L.mS),.b m] mm'):=by rw [hZ _ (by omega)];exact gX
  have hZl:Hp.Lt Z:=fun k blk h=>by
   by_cases e:k=X.next
   ·omega
   ·rw [hZ k e] at h;have:=hXl _ _ h;omega
  refine AX.seq (AX.drw ?_)
  have hfin:∀(Y:Hp) (ida:Nat) (av:V),Hp.Lt Y→X.next≤Y.next→(L.ts≠[]∧ida=L.ida∨X.next≤ida)→av=.sl (some (ida,0,(L.ts.length+1)*2)) (L.ts.length+1) 2→(∃ma,Y.get ida=some (.cells (ylf s (L.ts++[x])) ma)∧ma≤(L.ts.length+1)*2)→
    (∃my,Y.get id=some (.cells [.fs (s.objs.map y4l),.fs (s.fns.map y75),.fs (s.cons.map y3n),tv,ov,av,.mp (some L.mf),.mp (some L.mo),.mp (some L.mS),.b m] my)∧my≤10)→
    (∀k blk,k≠id→(L.ts≠[]→k≠L.ida)→X.get k=some blk→Y.get k=some blk)→
    ∃L',L'.ts[ynk L.ts L.os x]?=some x∧RkOk s id L' m Y∧RkTo L L' H Y∧L'.es=L.es∧(∀n p,y5x L' n p↔y5x L n p)∧L'.ts.length≤L.ts.length+1∧∀y∈L'.ts,y=x∨y∈L.ts:=by
   intro Y ida av y1 y2 y3 y4 y5 y6 y7
   have lT:=T.lts (yn6 _ _ _ R.tab.len) hXl
   have T':TabG Y tv ov idt ido (ycq L.ts L.os x) (putO L.ts L.os x):=T.keep fun _=>⟨fun blk h=>y7 _ blk dI.1 (fun h1=>(dA h1).1) h,fun blk h=>y7 _ blk dI.2 (fun h1=>(dA h1).2) h⟩
   have A':AtR Y s av ida (ycq L.ts L.os x):=by
    rw [epT]
    exact .inr ⟨by simp,by rw [y4];simp,by simpa using y5⟩
   have dd:idt≠ida∧ido≠ida:=by
    rcases y3 with ⟨h,e⟩ | h
    ·rw [e];exact dA h
    ·exact ⟨by omega,by omega⟩
   obtain ⟨q1,q2,q3⟩:=R.put x y1 (kV hXn y2) (av:=av) (ida:=ida) y6 T' A' ht ho (y3.imp (fun h=>h) fun h=>kV hXn h) dd.1 dd.2 fun k blk h1 h2 h3=>y7 k blk h1 (fun h=>(h2 h).2.2) (hk k blk h1 (fun h=>⟨(h2 h).1,(h2 h).2.1⟩) h3)
   exact ⟨_,hnum,q1,q2,rfl,q3,hpl,hpin⟩
  have hatc:atc s x=[.i .i64 (atP s x).1,.i .i64 (atP s x).2]:=rfl
  have gZ2:=gZ
  rw [hatc] at gZ
  rcases R.atr with ⟨e0,z,hz⟩ | ⟨hts,hav,ma,ga,hma⟩
  ·rw [hz] at gZi gX
   have e1:y28 Z 2 16 (.sl none 0 z) (.fs [[.i .i64 (atP s x).1,.i .i64 (atP s x).2]])=some (.sl (some (Z.next,0,2)) 1 2,Z.add (.cells [.i .i64 (atP s x).1,.i .i64 (atP s x).2] 2)):=by simp [y28,y4e,y4x]
   simp [yp.r10,gZi,hmX,gZ,-y28,e1,y7x,show id≠Z.next by omega]
   apply jA
   simp [yp.r11]
   apply jD
   simp
   refine hfin _ Z.next (.sl (some (Z.next,0,2)) 1 2) (Hp.upd_lt (Hp.add_lt hZl _) (by simp;omega) _) (by simp;omega) (.inr (by omega)) (by simp [e0]) ⟨2,by simp [show Z.next≠id by omega,e0,ylf,atc],by omega⟩ ⟨10,by simp,by omega⟩ fun k blk h1 h2 h3=>?_
   have:=hXl _ _ h3
   simp [h1,show k≠Z.next by omega,hZ k (by omega),h3]
  ·rw [hav] at gZi gX
   have ga1:=kt _ 4 _ (R.tts hts).2.2 (by omega) ga
   have na:=hXl _ _ ga1
   have gaZ:Z.get L.ida=some (.cells (ylf s L.ts) ma):=by rw [hZ _ (by omega)];exact ga1
   have dai:L.ida≠id:=fun e=>by have:=(R.tts hts).2.2;rw [e,R.tid] at this;omega
   have hal:=yg7 s L.ts
   have e1:y28 Z 2 16 (.sl (some (L.ida,0,L.ts.length*2)) L.ts.length 2) (.fs [[.i .i64 (atP s x).1,.i .i64 (atP s x).2]])=some (.sl (some (L.ida,0,L.ts.length*2+2)) (L.ts.length+1) 2,Z.upd L.ida (.cells (ylf s L.ts++[.i .i64 (atP s x).1,.i .i64 (atP s x).2]) ma)):=by
    simp [y28,y4e,y4x,gaZ,hal,y3w]
    omega
   simp [yp.r10,gZi,hmX,gZ,-y28,e1,y7x,Ne.symm dai]
   apply jA
   simp [yp.r11]
   apply jD
   simp
   refine hfin _ L.ida (.sl (some (L.ida,0,L.ts.length*2+2)) (L.ts.length+1) 2) (Hp.upd_lt (Hp.upd_lt hZl (by omega) _) (by simp;omega) _) (by simp;omega) (.inl ⟨hts,rfl⟩) (by rw [show (L.ts.length+1)*2=L.ts.length*2+2 by omega]) ⟨ma,by simp [dai,ylf,atc],by omega⟩ ⟨10,by simp,by omega⟩ fun k blk h1 h2 h3=>?_
   have:=hXl _ _ h3
   simp [h1,h2 hts,hZ k (by omega),h3]
end Go.Proofs.YtikpijbeobeckaaGreatDoor
