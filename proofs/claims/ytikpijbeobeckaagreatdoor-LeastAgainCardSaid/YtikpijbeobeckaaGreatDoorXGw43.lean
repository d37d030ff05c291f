/- Part 43. -/
import Derived.Test.YtikpijbeobeckaaGreatDoorXGw42
set_option linter.unusedSimpArgs false
set_option linter.unusedVariables false
namespace Go.Proofs.YtikpijbeobeckaaGreatDoor
open Am C
def y8e (L:RkL) (e:RkE):List Str:=(elB e.bs).map fun k=>L.ts.getD k []
structure FOk (L:RkL) (n0:Nat) (X:Hp) (f:Str × V):Prop where
 ex:∃e∈L.es,e.node=f.1∧elB e.bs≠[]∧∃ia m,n0≤ia∧f.2=.sl (some (ia,0,(yb0 (y8e L e)).length)) (yb0 (y8e L e)).length 1∧X.get ia=some (.cells (tcs (yb0 (y8e L e))) m)∧m≤(yb0 (y8e L e)).length
theorem yfo (l:List Str):(yb0 l).length=l.length:=List.length_mergeSort l
theorem FOk.ne {L:RkL} {n0:Nat} {X:Hp} {f:Str × V} (h:FOk L n0 X f) {iw mw:Nat} {fs:List (Str × V)} (hw:X.get iw=some (.cells (ycw fs) mw)) (hsl:∀g∈fs,∃a n z,g.2=.sl a n z):∀e∈L.es,∀ia m,elB e.bs≠[]→X.get ia=some (.cells (tcs (yb0 (y8e L e))) m)→ia≠iw:=by
 intro e _ ia m hne hg q
 rw [q,hw] at hg
 injection hg with hg;injection hg with hg _
 have hl:(yb0 (y8e L e)).length=(elB e.bs).length:=by rw [yfo];simp [y8e]
 have hp:0<(elB e.bs).length:=List.length_pos_iff.2 hne
 have hlen:=congrArg List.length hg
 rw [yc0,ydl,hl] at hlen
 cases fs with
 | nil=>simp at hlen;omega
 | cons g r=>
  obtain ⟨a,n,z,hgz⟩:=hsl g (by simp)
  have h1:=(yc1 (l:=g::r) (i:=0) rfl).2
  rw [hg,hgz] at h1
  simp [tcs] at h1
theorem FOk.keep {L:RkL} {n0:Nat} {X X':Hp} {f:Str × V} (h:FOk L n0 X f) (k:∀e∈L.es,∀ia m,elB e.bs≠[]→X.get ia=some (.cells (tcs (yb0 (y8e L e))) m)→X'.get ia=some (.cells (tcs (yb0 (y8e L e))) m)):FOk L n0 X' f:=by
 obtain ⟨e,h1,h2,h3,ia,m,h4,h5,h6,h7⟩:=h.ex
 exact ⟨e,h1,h2,h3,ia,m,h4,h5,k e h1 ia m h3 h6,h7⟩
theorem FOk.sl {L:RkL} {n0:Nat} {X:Hp} {f:Str × V} (h:FOk L n0 X f):∃a n z,f.2=.sl a n z:=by
 obtain ⟨e,_,_,_,ia,m,_,h5,_⟩:=h.ex
 exact ⟨_,_,_,h5⟩
def OwnW (n0:Nat) (X:Hp) (w:V) (fs:List (Str × V)):Prop:=(fs=[]∧w=.sl none 0 0)∨(fs≠[]∧∃iw mw,n0≤iw∧w=.sl (some (iw,0,fs.length*2)) fs.length 2∧X.get iw=some (.cells (ycw fs) mw)∧mw≤fs.length*2)
structure FctAt (L:RkL) (H:Hp) (w:V) (seen:List Nat) (fs:List (Str × V)) (X:Hp):Prop where
 ext:H.Ext X
 lt:Hp.Lt X
 own:OwnW H.next X w fs
 ok:∀f∈fs,FOk L H.next X f
 nod:(fs.map (·.1)).Nodup
 frm:∀f∈fs,∃j∈seen,∃e,L.es[j]?=some e∧e.node=f.1
 all:∀j∈seen,∀e,L.es[j]?=some e→elB e.bs≠[]→∃f∈fs,f.1=e.node
theorem FctAt.to {L:RkL} {H:Hp} {w:V} {seen:List Nat} {fs:List (Str × V)} {X X':Hp} (A:FctAt L H w seen fs X) (hn:X.next≤X'.next) (hl:Hp.Lt X') (k:∀j cs m,X.get j=some (.cells cs m)→X'.get j=some (.cells cs m)) (kh:∀j blk,H.get j=some blk→X'.get j=some blk):FctAt L H w seen fs X':=
 ⟨⟨kV A.ext.1 hn,kh⟩,hl,A.own.imp (fun x=>x) fun ⟨a,iw,mw,b,c,d,e⟩=>⟨a,iw,mw,b,c,k _ _ _ d,e⟩,fun f hf=>(A.ok f hf).keep fun e _ ia m _ g=>k _ _ _ g,A.nod,A.frm,A.all⟩
theorem FctAt.app {L:RkL} {H:Hp} {w:V} {seen:List Nat} {fs:List (Str × V)} {X:Hp} (A:FctAt L H w seen fs X) (hlt:Hp.Lt H) (hb:fs.length≤10000000) {f:Str × V} (hf:FOk L H.next X f) (hnw:∀g∈fs,g.1≠f.1) {j:Nat} {e:RkE} (he:L.es[j]?=some e) (hen:e.node=f.1):
  ∃w' X',y28 X 2 40 w (.fs [[.s f.1,f.2]])=some (w',X')∧FctAt L H w' (seen++[j]) (fs++[f]) X'∧∀i o,X.get i=some (.obj o)→X'.get i=some (.obj o):=by
 obtain ⟨fa,fn,fz,hfs⟩:=hf.sl
 have hnod:((fs++[f]).map (·.1)).Nodup:=by
  rw [List.map_append,List.nodup_append]
  refine ⟨A.nod,by simp,fun a ha b hb'=>?_⟩
  simp at hb';subst hb'
  obtain ⟨g,hg,rfl⟩:=List.mem_map.1 ha
  exact hnw g hg
 have hfrm:∀g∈fs++[f],∃j'∈seen++[j],∃e,L.es[j']?=some e∧e.node=g.1:=fun g hg=>by
  rcases List.mem_append.1 hg with hg | hg
  ·obtain ⟨j',h1,h2⟩:=A.frm g hg
   exact ⟨j',List.mem_append.2 (.inl h1),h2⟩
  ·simp at hg;subst hg
   exact ⟨j,by simp,e,he,hen⟩
 have hall:∀j'∈seen++[j],∀d,L.es[j']?=some d→elB d.bs≠[]→∃g∈fs++[f],g.1=d.node:=fun j' hj' d hd hne=>by
  rcases List.mem_append.1 hj' with h | h
  ·obtain ⟨g,h1,h2⟩:=A.all j' h d hd hne
   exact ⟨g,List.mem_append.2 (.inl h1),h2⟩
  ·simp at h;subst h
   rw [he] at hd;injection hd with hd;subst hd
   exact ⟨f,by simp,hen.symm⟩
 have hfv:ycw (fs++[f])=ycw fs++[.s f.1,f.2]:=by simp [ycw]
 rcases A.own with ⟨rfl,rfl⟩ | ⟨hne,iw,mw,h1,rfl,gw,hmw⟩
 ·refine ⟨.sl (some (X.next,0,2)) 1 2,X.add (.cells [.s f.1,f.2] 2),by simp [y28,y4e,y4x],⟨A.ext.trans (.add A.lt _),Hp.add_lt A.lt _,.inr ⟨by simp,X.next,2,A.ext.1,by simp,by simp [ycw],by simp⟩,fun g hg=>?_,hnod,hfrm,hall⟩,fun i o g=>by have:=A.lt _ _ g;simp [show i≠X.next by omega,g]⟩
  simp at hg;subst hg
  exact hf.keep fun e _ ia m _ g=>by have:=A.lt _ _ g;simp [show ia≠X.next by omega,g]
 ·have hfl:=yc0 fs
  have hiw:=A.lt _ _ gw
  have hsl:∀g∈fs,∃a n z,g.2=.sl a n z:=fun g hg=>(A.ok g hg).sl
  have hnew:=hf.ne gw hsl
  refine ⟨.sl (some (iw,0,fs.length*2+2)) (fs.length+1) 2,X.upd iw (.cells (ycw fs++[.s f.1,f.2]) mw),?_,⟨⟨by simpa using A.ext.1,fun i blk g=>?_⟩,Hp.upd_lt A.lt hiw _,.inr ⟨by simp,iw,mw,h1,by simp [Nat.add_mul],by simp [hfv],by simp;omega⟩,fun g hg=>?_,hnod,hfrm,hall⟩,fun i o g=>?_⟩
  ·have hk4:(fs.length+1)*40≤y4x:=by unfold y4x;omega
   rw [hfs]
   generalize ycw fs=row at gw hfl ⊢
   simp [y28,y4e,gw,hfl,y3w,hk4]
  ·have:=hlt _ _ g
   simp [show i≠iw by omega]
   exact A.ext.2 _ _ g
  ·have hk:FOk L H.next X g:=by
    rcases List.mem_append.1 hg with h | h
    ·exact A.ok g h
    ·simp at h;subst h;exact hf
   exact hk.keep fun e he' ia m hne' g'=>by simp [hnew e he' ia m hne' g',g']
  ·have:i≠iw:=fun q=>by rw [q,gw] at g;cases g
   simp [this,g]
def FctI (id:Nat) (L:RkL) (H:Hp) (iid:Nat) (mm:Nat) (F:Fr) (X:Hp):Prop:=
 ∃seen w fs,seen.Nodup∧(∀j∈seen,j<L.es.length)∧mm=L.es.length-seen.length∧FctAt L H w seen fs X∧X.get iid=some (.obj (.iter L.mS L.es.length seen))∧F=[(1,.fp [.p (some (id,0,10))] 0),(2,.sl none 0 0),(3,w),(12,.it iid)]
theorem ymx {l:List Nat} {n:Nat} (h:l.Nodup) (k:∀j∈l,j<n):l.length≤n:=by
 have:=y6s (b:=List.range n) h fun j hj=>List.mem_range.2 (k j hj)
 simpa using this
theorem txt_of {s:Sy} {id:Nat} {L:RkL} {m:Bool} {H:Hp} (R:RkOk s id L m H) {i:Nat} {e:RkE} (he:L.es[i]?=some e) (p:Str):p∈y8e L e↔y5x L e.node p:=by
 rw [R.rel_at he]
 unfold y8e
 rw [List.mem_map]
 have hlt:=(R.set i e he).lt
 constructor
 ·rintro ⟨k,hk,rfl⟩
  exact ⟨k,hk,by rw [kQ,kC (hlt k hk)];rfl⟩
 ·rintro ⟨k,hk,h⟩
  exact ⟨k,hk,by rw [kQ,h];rfl⟩
theorem ymo {s:Sy} {id:Nat} {L:RkL} {m:Bool} {H:Hp} (R:RkOk s id L m H) {i:Nat} {e:RkE} (he:L.es[i]?=some e):(y8e L e).Nodup:=by
 have S:=R.set i e he
 unfold y8e
 rw [List.nodup_iff_pairwise_ne,List.pairwise_map]
 refine List.Pairwise.imp_of_mem (fun {a b} ha hb hab e=>?_) (yfz S.ok)
 have h1:=S.lt a ha
 have h2:=S.lt b hb
 rw [kQ,kQ,kC h1,kC h2] at e
 have:=ymp R (kC h1) (j:=b) (by rw [kC h2];exact congrArg some e.symm)
 omega
set_option maxHeartbeats 2000000 in
theorem yku {s:Sy} {id:Nat} {L:RkL} {m:Bool} {H:Hp} (R:RkOk s id L m H) {NN:List Str} (hNN:NN.length≤9999999) (hrN:∀n p,y5x L n p→n∈NN) {Q:y5i}
  (hQ:∀w fs X,FctAt L H w (List.range L.es.length) fs X→Q .normal [(3,w)] X):
  AX Tryz.prog 44 (.seq (.post [1,2,3,12] (.region yh.r2)) (.post [3] (.block 0 (.loop yh.l0)))) Q [(1,.fp [.p (some (id,0,10))] 0),(2,.sl none 0 0),(3,.sl none 0 0)] H:=by
 obtain ⟨mm,hg,hm⟩:=R.blk
 have hlt:=R.lt
 have hmS:=R.mps
 have hel:(esM L.es).length=L.es.length:=by simp [esM]
 have nS:=hlt _ _ hmS
 apply jA
 simp [yh.r2,hg,hm,yau,hmS,hel]
 refine AX.pblock (AX.loop (FctI id L H H.next) L.es.length ⟨_,_,.refl _ _,[],.sl none 0 0,[],List.nodup_nil,by simp,by simp,⟨.add hlt _,Hp.add_lt hlt _,.inl ⟨rfl,rfl⟩,by simp,by simp,by simp,by simp⟩,by simp,rfl⟩ ?_)
 rintro m' F X ⟨seen,w,fs,hnd,hsl,rfl,A,hI,rfl⟩
 have hM:X.get L.mS=some (.obj (.map (esM L.es))):=A.ext.2 _ _ hmS
 have hsn:=ymx hnd hsl
 have hmi:L.mS≠H.next:=by omega
 simp only [yh.l0]
 apply jA
 simp [yh.r3,hI,hM,hel]
 refine ⟨fun hall=>?_,fun j key x hj hx=>?_⟩
 ·refine AX.seq (jF rfl (AX.exit ?_))
  simp
  refine hQ w fs X ⟨A.ext,A.lt,A.own,A.ok,A.nod,fun f hf=>?_,fun j hj e he hne=>A.all j (hall j (by simpa [hel] using hj)) e he hne⟩
  obtain ⟨j,h1,h2⟩:=A.frm f hf
  exact ⟨j,by simpa using hsl j h1,h2⟩
 ·have hjl:j<L.es.length:=by have:=(List.getElem?_eq_some_iff.1 hx).1;omega
  obtain ⟨e,he,rfl,rfl⟩:∃e,L.es[j]?=some e∧key=e.node∧x=.p (some (e.sid,0,1)):=by
   simp only [esM,List.getElem?_map,kd] at hx
   obtain ⟨e,he,h⟩:=hx
   injection h with ha hb
   exact ⟨e,he,ha.symm,hb.symm⟩
  refine AX.seq (jG rfl (AX.skip ?_))
  simp
  have hni:=A.lt _ _ hI
  have A1:FctAt L H w seen fs (X.upd H.next (.obj (.iter L.mS L.es.length (seen++[j])))):=A.to (by simp) (Hp.upd_lt A.lt hni _) (fun i cs mc g=>by
   have:i≠H.next:=fun q=>by rw [q,hI] at g;cases g
   simp [this,g]) (fun i blk g=>by have:=hlt _ _ g;simp [show i≠H.next by omega];exact A.ext.2 _ _ g)
  have hM1:(X.upd H.next (.obj (.iter L.mS L.es.length (seen++[j])))).get L.mS=some (.obj (.map (esM L.es))):=by simp [hmi,hM]
  have hI1:(X.upd H.next (.obj (.iter L.mS L.es.length (seen++[j])))).get H.next=some (.obj (.iter L.mS L.es.length (seen++[j]))):=by simp
  generalize X.upd H.next (.obj (.iter L.mS L.es.length (seen++[j])))=X1 at A1 hM1 hI1 ⊢
  have hn2:(seen++[j]).Nodup:=List.nodup_append.2 ⟨hnd,by simp,fun a ha b hb e=>by simp at hb;subst hb;subst e;exact hj ha⟩
  have hl2:∀k∈seen++[j],k<L.es.length:=fun k hk=>by
   rcases List.mem_append.1 hk with hk | hk
   ·exact hsl k hk
   ·simp at hk;omega
  have hln:=ymx hn2 hl2
  simp at hln
  have R1:=R.move A1.lt A1.ext.1 fun i blk _ g=>A1.ext.2 _ _ g
  have S1:=R1.set j e he
  obtain ⟨ms,gs,hms⟩:=S1.box
  refine AX.pblock (jA ?_)
  simp [yh.r4,hI1,hM1,hx,hel]
  apply jB
  simp [yh.r5]
  refine AC.fix (yq3 e.sid 0 ms [e.v] e.v e.bs X1 gs hms rfl S1.own.row S1.ok) ?_
  simp
  by_cases h0:elB e.bs=[]
  ·refine jG (by simp [h0]) (AX.exit ?_)
   simp
   refine ⟨L.es.length-(seen++[j]).length,by simp;omega,_,_,.refl _ _,seen++[j],w,fs,hn2,hl2,rfl,⟨A1.ext,A1.lt,A1.own,A1.ok,A1.nod,fun f hf=>?_,fun j' hj' d hd hne=>?_⟩,hI1,by simp⟩
   ·obtain ⟨k,h1,h2⟩:=A1.frm f hf
    exact ⟨k,List.mem_append.2 (.inl h1),h2⟩
   ·rcases List.mem_append.1 hj' with h | h
    ·exact A1.all j' h d hd hne
    ·simp at h;subst h
     rw [he] at hd;injection hd with hd;subst hd
     exact absurd h0 hne
  have h0l:0<(elB e.bs).length:=List.length_pos_iff.2 h0
  refine jF (by simp [h0]) (AX.skip ?_)
  simp
  apply jA
  simp [yh.r6]
  have x2:X1.Ext ((X1.add (.cells [.s [],.sl none 0 0] 2)).upd X1.next (.cells [.s e.node,.sl none 0 0] 2)):=(Hp.Ext.add A1.lt _).upd A1.lt (kG _) _
  have l2:Hp.Lt ((X1.add (.cells [.s [],.sl none 0 0] 2)).upd X1.next (.cells [.s e.node,.sl none 0 0] 2)):=Hp.upd_lt (Hp.add_lt A1.lt _) (by simp) _
  have gb2:((X1.add (.cells [.s [],.sl none 0 0] 2)).upd X1.next (.cells [.s e.node,.sl none 0 0] 2)).get X1.next=some (.cells [.s e.node,.sl none 0 0] 2):=by simp
  generalize (X1.add (.cells [.s [],.sl none 0 0] 2)).upd X1.next (.cells [.s e.node,.sl none 0 0] 2)=X2 at x2 l2 gb2 ⊢
  apply jB
  simp [yh.r7]
  refine AC.fix (yq9 _ X2) ?_
  have x3:=Hp.Ext.add l2 (.cells [.p (some (e.sid,0,1))] 1)
  have l3:=Hp.add_lt l2 (.cells [.p (some (e.sid,0,1))] 1)
  have gc3:(X2.add (.cells [.p (some (e.sid,0,1))] 1)).get X2.next=some (.cells [.p (some (e.sid,0,1))] 1):=by simp
  have gb3:=x3.2 _ _ gb2
  have nb2:=l2 _ _ gb2
  have n3:(X2.add (.cells [.p (some (e.sid,0,1))] 1)).next=X2.next+1:=by simp
  simp
  generalize X2.add (.cells [.p (some (e.sid,0,1))] 1)=X3 at x3 l3 gc3 gb3 n3 ⊢
  have x13:=x2.trans x3
  have R3:=R1.move l3 x13.1 fun i blk _ g=>x13.2 _ _ g
  have tz:∀i,X1.next≤i→L.tag i=0:=fun i hi=>kg fun h=>by have:=R1.tlt i h;omega
  refine locs_ok R3 he (tz _ (kG _)) (by omega) gb3 gc3 (by omega) (tz _ (by omega)) fun X4 v ia l4 n4 k4 gb4 so hia=>?_
  have hia:=hia h0
  have htne:tcs (y8e L e)≠[]:=fun h=>by have:=congrArg List.length h;rw [ydl] at this;simp [y8e] at this;exact h0 (by simpa using this)
  obtain ⟨rfl,ma,ga,hma⟩:v=.sl (some (ia,0,(y8e L e).length)) (y8e L e).length 1∧∃ma,X4.get ia=some (.cells ((y8e L e).map V.s) ma)∧ma≤(y8e L e).length:=by
   rcases so with ⟨h,_⟩ | ⟨_,h1,ma,h2,h3⟩
   ·exact absurd h htne
   ·rw [ydl] at h1 h3
    exact ⟨h1,ma,h2,h3⟩
  simp
  apply jA
  simp [yh.r10,gb4]
  have htl:(y8e L e).length=(elB e.bs).length:=by simp [y8e]
  have hel2:=ybg e.bs
  have hbl:=S1.ok.len
  refine AC.fix (SortS_ok (y8e L e) (by omega) (fun h=>htne (by rw [h];rfl)) ia ma X4 ga) ?_
  simp
  have hml:=yfo (y8e L e)
  have hia4:=l4 _ _ ga
  have l5:Hp.Lt (X4.upd ia (.cells ((yb0 (y8e L e)).map V.s) (y8e L e).length)):=Hp.upd_lt l4 hia4 _
  have k5:∀i blk,i<X1.next→X1.get i=some blk→(X4.upd ia (.cells ((yb0 (y8e L e)).map V.s) (y8e L e).length)).get i=some blk:=fun i blk hi g=>by
   have:=x13.1
   simp [show i≠ia by omega]
   exact k4 i blk (by omega) (x13.2 _ _ g)
  have gb5:(X4.upd ia (.cells ((yb0 (y8e L e)).map V.s) (y8e L e).length)).get X1.next=some (.cells [.s e.node,.sl (some (ia,0,(y8e L e).length)) (y8e L e).length 1] 2):=by
   simp [show X1.next≠ia by omega,gb4]
  have A5:FctAt L H w seen fs (X4.upd ia (.cells ((yb0 (y8e L e)).map V.s) (y8e L e).length)):=A1.to (by simp;have:=x13.1;omega) l5 (fun i cs mc g=>k5 i _ (A1.lt _ _ g) g) (fun i blk g=>by
   have:=hlt _ _ g
   have:=A1.ext.1
   exact k5 i _ (by omega) (A1.ext.2 _ _ g))
  have hf:FOk L H.next (X4.upd ia (.cells ((yb0 (y8e L e)).map V.s) (y8e L e).length)) (e.node,.sl (some (ia,0,(y8e L e).length)) (y8e L e).length 1):=⟨e,kY he,rfl,h0,ia,(y8e L e).length,by have:=A1.ext.1;have:=x13.1;omega,by rw [hml],by simp [tcs],by omega⟩
  have hI5:(X4.upd ia (.cells ((yb0 (y8e L e)).map V.s) (y8e L e).length)).get H.next=some (.obj (.iter L.mS L.es.length (seen++[j]))):=k5 _ _ (A1.lt _ _ hI1) hI1
  generalize X4.upd ia (.cells ((yb0 (y8e L e)).map V.s) (y8e L e).length)=X5 at l5 gb5 A5 hf hI5 ⊢
  have hfsl:fs.length≤10000000:=by
   have:=y6s A5.nod (b:=NN) fun x hx=>by
    obtain ⟨f,hf,rfl⟩:=List.mem_map.1 hx
    obtain ⟨d,h1,h2,h3,_⟩:=(A5.ok f hf).ex
    obtain ⟨jd,hjd⟩:=List.mem_iff_getElem?.1 h1
    obtain ⟨k,r,hkr⟩:=List.exists_cons_of_ne_nil h3
    have hk:k∈elB d.bs:=by rw [hkr];simp
    have hkl:=(R.set jd d hjd).lt k hk
    rw [←h2]
    exact hrN _ L.ts[k] ⟨d,h1,rfl,k,hk,kC hkl⟩
   rw [List.length_map] at this
   omega
  obtain ⟨w',X6,q1,q2,q3⟩:=A5.app hlt hfsl hf (fun g hg q=>by
   obtain ⟨k,h1,d,h2,h3⟩:=A5.frm g hg
   have:=R.one h2 he (h3.trans q)
   subst this
   exact hj h1) he rfl
  dsimp only at q1
  apply jE
  simp [yh.r11,gb5,q1,-y28,y7x]
  exact ⟨L.es.length-(seen++[j]).length,by simp;omega,_,_,.refl _ _,seen++[j],w',_,hn2,hl2,rfl,q2,q3 _ _ hI5,by simp⟩
def ymu (fs:List (Str × V)):List (Str × V):=fs.mergeSort fun a b=>!ltB b.1 a.1
theorem yes (fs:List (Str × V)):(ymu fs).Perm fs:=List.mergeSort_perm fs _
theorem ykp {fs:List (Str × V)} (h:(fs.map (·.1)).Nodup):y3o ((ymu fs).map (·.1)):=by
 have hs:(ymu fs).Pairwise fun a b=>(!ltB b.1 a.1)=true:=List.pairwise_mergeSort (fun a b c h1 h2=>by
   cases hh:ltB c.1 a.1 with
   | false=>rfl
   | true=>
    rcases y8j a.1 b.1 with k | k | k
    ·have:=y7s hh k;rw [this] at h2;simp at h2
    ·rw [←k,hh] at h2;simp at h2
    ·rw [k] at h1;simp at h1)
  (fun a b=>by
   rcases y8j a.1 b.1 with k | k | k
   ·rw [y74 k];simp
   ·have:ltB a.1 a.1=false:=by cases hh:ltB a.1 a.1 with | false=>rfl | true=>exact absurd hh (y4z _)
    rw [←k,this];simp
   ·rw [y74 k];simp) fs
 have hn:((ymu fs).map (·.1)).Nodup:=((yes fs).map _).nodup_iff.2 h
 rw [y3o,List.pairwise_map]
 rw [List.nodup_iff_pairwise_ne,List.pairwise_map] at hn
 refine (hs.and hn).imp fun {a b} hab=>?_
 have h1:=hab.1
 rcases y8j a.1 b.1 with k | k | k
 ·exact k
 ·exact absurd k hab.2
 ·rw [k] at h1;simp at h1
set_option maxHeartbeats 1000000 in
theorem yn4 {s:Sy} {id:Nat} {L:RkL} {m:Bool} {H:Hp} (R:RkOk s id L m H) {NN:List Str} (hNN:NN.length≤9999999) (hrN:∀n p,y5x L n p→n∈NN):
  AC Tryz.prog y5p [.p (some (id,0,10))] H (fun v X=>∃l,CanF l∧(∀n p,y6p l n p↔y5x L n p)∧H.Ext X∧Frz X (fun k=>H.next≤k) v (fsV l)):=by
 have hlt:=R.lt
 refine AC.code yh.at yh.ok ?_
 simp only [yh]
 apply jA
 simp [yh.r0]
 apply jA
 simp [yh.r1]
 refine AX.seq (yku R hNN hrN fun w fs X A=>?_)
 simp
 have hex:∀f:Str × V,∃lc:List Str,f∈fs→∃e∈L.es,e.node=f.1∧elB e.bs≠[]∧lc=yb0 (y8e L e)∧∃ia mi,H.next≤ia∧f.2=.sl (some (ia,0,lc.length)) lc.length 1∧X.get ia=some (.cells (tcs lc) mi)∧mi≤lc.length:=fun f=>by
  by_cases hf:f∈fs
  ·obtain ⟨e,h1,h2,h3,ia,mi,h4,h5,h6,h7⟩:=(A.ok f hf).ex
   exact ⟨yb0 (y8e L e),fun _=>⟨e,h1,h2,h3,rfl,ia,mi,h4,h5,h6,h7⟩⟩
  ·exact ⟨[],fun h=>absurd h hf⟩
 obtain ⟨g,hg⟩:=Classical.axiomOfChoice hex
 obtain ⟨fs',hfs'⟩:∃fs',fs'=ymu fs:=⟨_,rfl⟩
 have hp:fs'.Perm fs:=by rw [hfs'];exact yes fs
 have hr:y3o (fs'.map (·.1)):=by rw [hfs'];exact ykp A.nod
 obtain ⟨l,hl⟩:∃l:List y6b,l=fs'.map fun f=>(f.1,g f):=⟨_,rfl⟩
 have hcan:CanF l:=by
  refine ⟨?_,fun f hf=>?_⟩
  ·rw [hl,List.map_map];exact hr
  ·rw [hl] at hf
   obtain ⟨f0,h0,rfl⟩:=List.mem_map.1 hf
   obtain ⟨e,h1,h2,h3,h4,_⟩:=hg f0 (hp.mem_iff.1 h0)
   obtain ⟨j,hj⟩:=List.mem_iff_getElem?.1 h1
   refine ⟨?_,fun q=>?_⟩
   ·show y3o (g f0)
    rw [h4,yl0 (ymo R hj)];exact yat _
   ·have:(g f0).length=0:=by rw [show g f0=[] from q];rfl
    rw [h4,yfo] at this
    exact h3 (by simpa [y8e] using this)
 have hhas:∀n p,y6p l n p↔y5x L n p:=fun n p=>by
  constructor
  ·intro h
   obtain ⟨f,hf,h1,h2⟩:=ynh h
   rw [hl] at hf
   obtain ⟨f0,h0,rfl⟩:=List.mem_map.1 hf
   obtain ⟨e,h3,h4,h5,h6,_⟩:=hg f0 (hp.mem_iff.1 h0)
   obtain ⟨j,hj⟩:=List.mem_iff_getElem?.1 h3
   have h2':p∈g f0:=h2
   rw [h6] at h2'
   have:=(List.mergeSort_perm (y8e L e) _).mem_iff.1 h2'
   rw [←h1,←h4]
   exact (txt_of R hj p).1 this
  ·rintro ⟨e,h1,h2,k,h3,h4⟩
   obtain ⟨j,hj⟩:=List.mem_iff_getElem?.1 h1
   have hne:elB e.bs≠[]:=fun q=>by rw [q] at h3;cases h3
   obtain ⟨f,hf,hfn⟩:=A.all j (List.mem_range.2 (List.getElem?_eq_some_iff.1 hj).1) e hj hne
   obtain ⟨d,q1,q2,q3,q4,_⟩:=hg f hf
   obtain ⟨jd,hjd⟩:=List.mem_iff_getElem?.1 q1
   have:=R.one hjd hj (q2.trans hfn)
   subst this
   rw [hjd] at hj;injection hj with hj;subst hj
   have hm:(f.1,g f)∈l:=by rw [hl];exact List.mem_map.2 ⟨f,hp.mem_iff.2 hf,rfl⟩
   have:=ydv hcan hm
   show p∈ofS l n
   rw [←h2,←hfn]
   rw [show f.1=(f.1,g f).1 from rfl,this]
   show p∈g f
   rw [q4]
   exact (List.mergeSort_perm (y8e L d) _).mem_iff.2 ((txt_of R hjd p).2 ⟨d,h1,rfl,k,h3,h4⟩)
 apply jA
 simp [yh.r12]
 rcases A.own with ⟨e0,rfl⟩ | ⟨hne,iw,mw,hiw,rfl,gw,hmw⟩
 ·refine AC.fix (yix 0 X) ?_
  simp
  apply jA
  simp [yh.r13]
  apply jD
  simp
  have:l=[]:=by
   have:=hp.length_eq
   rw [e0] at this
   rw [hl,List.length_eq_zero_iff.1 this];rfl
  subst this
  exact ⟨[],hcan,hhas,A.ext,.sl0 _⟩
 ·have hsl:∀f∈fs,∃a n z,f.2=.sl a n z:=fun f hf=>(A.ok f hf).sl
  have hNl:fs.length≤10000000:=by
   have:=y6s A.nod (b:=NN) fun x hx=>by
    obtain ⟨f,hf,rfl⟩:=List.mem_map.1 hx
    obtain ⟨d,h1,h2,h3,_⟩:=(A.ok f hf).ex
    obtain ⟨jd,hjd⟩:=List.mem_iff_getElem?.1 h1
    obtain ⟨k,r,hkr⟩:=List.exists_cons_of_ne_nil h3
    have hk:k∈elB d.bs:=by rw [hkr];simp
    have hkl:=(R.set jd d hjd).lt k hk
    rw [←h2]
    exact hrN _ L.ts[k] ⟨d,h1,rfl,k,hk,kC hkl⟩
   rw [List.length_map] at this
   omega
  refine AC.fix (ylj fs fs' (by omega) hne iw mw X gw (List.all_eq_true.2 fun v hv=>?_) (fun f hf κ c hc=>?_) hp hr) ?_
  ·unfold ycw at hv
   obtain ⟨f,hf,hv⟩:=List.mem_flatMap.1 hv
   obtain ⟨a,n,z,hz⟩:=hsl f (hp.mem_iff.1 hf)
   simp at hv
   rcases hv with rfl | rfl
   ·rfl
   ·rw [hz];rfl
  ·obtain ⟨a,n,z,hz⟩:=hsl f hf
   rw [hz] at hc
   cases hc with
   | sl=>exact ⟨_,_,_,rfl⟩
   | sl0=>exact ⟨_,_,_,rfl⟩
  have hpl:fs'.length=fs.length:=hp.length_eq
  have hiwX:=A.lt _ _ gw
  simp
  apply jA
  simp [yh.r13]
  apply jD
  simp
  refine ⟨l,hcan,hhas,⟨by simpa using A.ext.1,fun k blk gk=>?_⟩,?_⟩
  ·have:=hlt _ _ gk
   simp [show k≠iw by omega]
   exact A.ext.2 _ _ gk
  ·refine .sl iw 0 (fs.length*2) fs.length 2 (fs.length*2) (ycw fs') (l.map fcs) hiw (by simp) (kG _) (by rw [yc0,hpl];exact kG _) (by rw [hl];simp [hpl]) (fun e he=>?_) (fun i j e v hi hj=>?_) (fun i j e v u hi hj hu=>?_)
   ·obtain ⟨f,_,rfl⟩:=List.mem_map.1 he;rfl
   ·have h1:=(List.getElem?_eq_some_iff.1 hi).1
    have h2:e.length=2:=by obtain ⟨f,_,rfl⟩:=List.mem_map.1 (kY hi);rfl
    have h3:=(List.getElem?_eq_some_iff.1 hj).1
    rw [hl] at h1
    simp [hpl] at h1
    omega
   ·rw [hl] at hi
    simp only [List.map_map,List.getElem?_map,kd] at hi
    obtain ⟨f,hf,rfl⟩:=hi
    have hff:=hp.mem_iff.1 (kY hf)
    obtain ⟨c1,c2⟩:=yc1 hf
    match j,hj with
    | 0,hj=>
     simp [fcs] at hj;subst hj
     rw [show 0+i*2+0=i*2 by omega,c1] at hu;injection hu with hu;subst hu
     exact .refl _
    | 1,hj=>
     simp [fcs] at hj;subst hj
     rw [show 0+i*2+1=i*2+1 by omega,c2] at hu;injection hu with hu;subst hu
     obtain ⟨e,h1,h2,h3,h4,ia,mi,h5,h6,h7,h8⟩:=hg f hff
     rw [h6]
     have hia:ia≠iw:=by
      rw [h4] at h7
      exact (A.ok f hff).ne gw hsl e h1 ia mi h3 h7
     refine .sl ia 0 _ _ 1 mi (tcs (g f)) ((g f).map fun x=>[.s x]) h5 (by simp [hia];exact h7) h8 (by rw [ydl];exact kG _) (by simp) (fun e he=>?_) (fun i j e v hi hj=>?_) (fun i j e v u hi hj hu=>?_)
     ·obtain ⟨x,_,rfl⟩:=List.mem_map.1 he;rfl
     ·have h1:=(List.getElem?_eq_some_iff.1 hi).1
      have h2:e.length=1:=by obtain ⟨x,_,rfl⟩:=List.mem_map.1 (kY hi);rfl
      have h3:=(List.getElem?_eq_some_iff.1 hj).1
      simp at h1
      omega
     ·simp only [List.getElem?_map,kd] at hi
      obtain ⟨x,hx,rfl⟩:=hi
      have hj0:j=0:=by have:=(List.getElem?_eq_some_iff.1 hj).1;simp at this;exact this
      subst hj0
      simp at hj;subst hj
      simp [tcs,hx] at hu;subst hu
      exact .refl _
    | j+2,hj=>simp [fcs] at hj
end Go.Proofs.YtikpijbeobeckaaGreatDoor
