/- Part 41 of the proof of the laws of the queries: RkL3, RkL4, LsU. -/
import Derived.Test.YtikpijbeobeckaaGreatDoorXLw33
import Derived.Test.YtikpijbeobeckaaGreatDoorXLw39
import Derived.Test.YtikpijbeobeckaaGreatDoorXLw40
set_option linter.unusedSimpArgs false
set_option linter.unusedVariables false
namespace Go.Proofs.YtikpijbeobeckaaGreatDoor
open Am C
def FctI (id:Nat) (L:RkL) (H:Hp) (iid:Nat) (mm:Nat) (F:Fr) (X:Hp):Prop:=
  ∃seen w fs,seen.Nodup∧(∀j∈seen,j<L.es.length)∧mm=L.es.length-seen.length∧FctAt L H w seen fs X∧X.get iid=some (.obj (.iter L.mS L.es.length seen))∧F=[(1,.fp [.p (some (id,0,10))] 0),(2,.sl none 0 0),(3,w),(12,.it iid)]
theorem yla {l:List Nat} {n:Nat} (h:l.Nodup) (k:∀j∈l,j<n):l.length≤n:=by
  have:=y7u (b:=List.range n) h fun j hj=>List.mem_range.2 (k j hj)
  simpa using this
theorem txt_of {s:Sy} {id:Nat} {L:RkL} {m:Bool} {H:Hp} (R:RkOk s id L m H) {i:Nat} {e:RkE} (he:L.es[i]?=some e) (p:Str):p∈y7r L e↔y5o L e.node p:=by
  rw [R.rel_at he]
  unfold y7r
  rw [List.mem_map]
  have hlt:=(R.set i e he).lt
  constructor
  · rintro ⟨k,hk,rfl⟩
    exact ⟨k,hk,by rw [List.getD_eq_getElem?_getD,List.getElem?_eq_getElem (hlt k hk)];rfl⟩
  · rintro ⟨k,hk,h⟩
    exact ⟨k,hk,by rw [List.getD_eq_getElem?_getD,h];rfl⟩
theorem yl2 {s:Sy} {id:Nat} {L:RkL} {m:Bool} {H:Hp} (R:RkOk s id L m H) {i:Nat} {e:RkE} (he:L.es[i]?=some e):(y7r L e).Nodup:=by
  have S:=R.set i e he
  unfold y7r
  rw [List.nodup_iff_pairwise_ne,List.pairwise_map]
  refine List.Pairwise.imp_of_mem (fun {a b} ha hb hab e=>?_) (yev S.ok)
  have h1:=S.lt a ha
  have h2:=S.lt b hb
  rw [List.getD_eq_getElem?_getD,List.getD_eq_getElem?_getD,List.getElem?_eq_getElem h1,List.getElem?_eq_getElem h2] at e
  have:=yl3 R (List.getElem?_eq_getElem h1) (j:=b) (by rw [List.getElem?_eq_getElem h2];exact congrArg some e.symm)
  omega
set_option maxHeartbeats 2000000 in
theorem yjf {s:Sy} {id:Nat} {L:RkL} {m:Bool} {H:Hp} (R:RkOk s id L m H) {NN:List Str} (hNN:NN.length≤9999999) (hrN:∀n p,y5o L n p→n∈NN) {Q:y59}
    (hQ:∀w fs X,FctAt L H w (List.range L.es.length) fs X→Q .normal [(3,w)] X):
    AX Tryz.prog 44 (.seq (.post [1,2,3,12] (.region ye.r2)) (.post [3] (.block 0 (.loop ye.l0)))) Q [(1,.fp [.p (some (id,0,10))] 0),(2,.sl none 0 0),(3,.sl none 0 0)] H:=by
  obtain ⟨mm,hg,hm⟩:=R.blk
  have hlt:=R.lt
  have hmS:=R.mps
  have hel:(esM L.es).length=L.es.length:=by simp [esM]
  have nS:=hlt _ _ hmS
  apply jA
  simp [ye.r2,hg,hm,ya3,hmS,hel]
  refine AX.pblock (AX.loop (FctI id L H H.next) L.es.length ⟨_,_,.refl _ _,[],.sl none 0 0,[],List.nodup_nil,by simp,by simp,⟨.add hlt _,Hp.add_lt hlt _,.inl ⟨rfl,rfl⟩,by simp,by simp,by simp,by simp⟩,by simp,rfl⟩ ?_)
  rintro m' F X ⟨seen,w,fs,hnd,hsl,rfl,A,hI,rfl⟩
  have hM:X.get L.mS=some (.obj (.map (esM L.es))):=A.ext.2 _ _ hmS
  have hsn:=yla hnd hsl
  have hmi:L.mS≠H.next:=by omega
  simp only [ye.l0]
  apply jA
  simp [ye.r3,hI,hM,hel]
  refine ⟨fun hall=>?_,fun j key x hj hx=>?_⟩
  · refine AX.seq (jF rfl (AX.exit ?_))
    simp
    refine hQ w fs X ⟨A.ext,A.lt,A.own,A.ok,A.nod,fun f hf=>?_,fun j hj e he hne=>A.all j (hall j (by simpa [hel] using hj)) e he hne⟩
    obtain ⟨j,h1,h2⟩:=A.frm f hf
    exact ⟨j,by simpa using hsl j h1,h2⟩
  · have hjl:j<L.es.length:=by have:=(List.getElem?_eq_some_iff.1 hx).1;omega
    obtain ⟨e,he,rfl,rfl⟩:∃e,L.es[j]?=some e∧key=e.node∧x=.p (some (e.sid,0,1)):=by
      simp only [esM,List.getElem?_map,Option.map_eq_some_iff] at hx
      obtain ⟨e,he,h⟩:=hx
      injection h with ha hb
      exact ⟨e,he,ha.symm,hb.symm⟩
    refine AX.seq (jG rfl (AX.skip ?_))
    simp
    have hni:=A.lt _ _ hI
    have A1:FctAt L H w seen fs (X.upd H.next (.obj (.iter L.mS L.es.length (seen++[j])))):=A.to (by simp) (Hp.upd_lt A.lt hni _) (fun i cs mc g=>by
      have:i≠H.next:=fun q=>by rw [q,hI] at g;cases g
      simp [this,g]) (fun i blk g=>by have:=hlt _ _ g;simp [show i≠H.next by omega];exact A.ext.2 _ _ g)
    have hM1:(X.upd H.next (.obj (.iter L.mS L.es.length (seen++[j])))).get L.mS=some (.obj (.map (esM L.es))):=by simp [hmi,hM]
    have hI1:(X.upd H.next (.obj (.iter L.mS L.es.length (seen++[j])))).get H.next=some (.obj (.iter L.mS L.es.length (seen++[j]))):=by simp
    generalize X.upd H.next (.obj (.iter L.mS L.es.length (seen++[j])))=X1 at A1 hM1 hI1 ⊢
    have hn2:(seen++[j]).Nodup:=List.nodup_append.2 ⟨hnd,by simp,fun a ha b hb e=>by simp at hb;subst hb;subst e;exact hj ha⟩
    have hl2:∀k∈seen++[j],k<L.es.length:=fun k hk=>by
      rcases List.mem_append.1 hk with hk | hk
      · exact hsl k hk
      · simp at hk;omega
    have hln:=yla hn2 hl2
    simp at hln
    have R1:=R.move A1.lt A1.ext.1 fun i blk _ g=>A1.ext.2 _ _ g
    have S1:=R1.set j e he
    obtain ⟨ms,gs,hms⟩:=S1.box
    refine AX.pblock (jA ?_)
    simp [ye.r4,hI1,hM1,hx,hel]
    apply jB
    simp [ye.r5]
    refine AC.fix (yo3 e.sid 0 ms [e.v] e.v e.bs X1 gs hms rfl S1.own.row S1.ok) ?_
    simp
    by_cases h0:elB e.bs=[]
    · refine jG (by simp [h0]) (AX.exit ?_)
      simp
      refine ⟨L.es.length-(seen++[j]).length,by simp;omega,_,_,.refl _ _,seen++[j],w,fs,hn2,hl2,rfl,⟨A1.ext,A1.lt,A1.own,A1.ok,A1.nod,fun f hf=>?_,fun j' hj' d hd hne=>?_⟩,hI1,by simp⟩
      · obtain ⟨k,h1,h2⟩:=A1.frm f hf
        exact ⟨k,List.mem_append.2 (.inl h1),h2⟩
      · rcases List.mem_append.1 hj' with h | h
        · exact A1.all j' h d hd hne
        · simp at h;subst h
          rw [he] at hd;injection hd with hd;subst hd
          exact absurd h0 hne
    have h0l:0<(elB e.bs).length:=List.length_pos_iff.2 h0
    refine jF (by simp [h0]) (AX.skip ?_)
    simp
    apply jA
    simp [ye.r6]
    have x2:X1.Ext ((X1.add (.cells [.s [],.sl none 0 0] 2)).upd X1.next (.cells [.s e.node,.sl none 0 0] 2)):=(Hp.Ext.add A1.lt _).upd A1.lt (Nat.le_refl _) _
    have l2:Hp.Lt ((X1.add (.cells [.s [],.sl none 0 0] 2)).upd X1.next (.cells [.s e.node,.sl none 0 0] 2)):=Hp.upd_lt (Hp.add_lt A1.lt _) (by simp) _
    have gb2:((X1.add (.cells [.s [],.sl none 0 0] 2)).upd X1.next (.cells [.s e.node,.sl none 0 0] 2)).get X1.next=some (.cells [.s e.node,.sl none 0 0] 2):=by simp
    generalize (X1.add (.cells [.s [],.sl none 0 0] 2)).upd X1.next (.cells [.s e.node,.sl none 0 0] 2)=X2 at x2 l2 gb2 ⊢
    apply jB
    simp [ye.r7]
    refine AC.fix (yoa _ X2) ?_
    have x3:=Hp.Ext.add l2 (.cells [.p (some (e.sid,0,1))] 1)
    have l3:=Hp.add_lt l2 (.cells [.p (some (e.sid,0,1))] 1)
    have gc3:(X2.add (.cells [.p (some (e.sid,0,1))] 1)).get X2.next=some (.cells [.p (some (e.sid,0,1))] 1):=by simp
    have gb3:=x3.2 _ _ gb2
    have nb2:=l2 _ _ gb2
    have n3:(X2.add (.cells [.p (some (e.sid,0,1))] 1)).next=X2.next+1:=by simp
    simp
    generalize X2.add (.cells [.p (some (e.sid,0,1))] 1)=X3 at x3 l3 gc3 gb3 n3 ⊢
    have x13:=x2.trans x3
    have R3:=R1.move l3 x13.1 fun i blk _ g=>x13.2 _ _ g
    have tz:∀i,X1.next≤i→L.tag i=0:=fun i hi=>Classical.byContradiction fun h=>by have:=R1.tlt i h;omega
    refine locs_ok R3 he (tz _ (Nat.le_refl _)) (by omega) gb3 gc3 (by omega) (tz _ (by omega)) fun X4 v ia l4 n4 k4 gb4 so hia=>?_
    have hia:=hia h0
    have htne:tcs (y7r L e)≠[]:=fun h=>by have:=congrArg List.length h;rw [ycj] at this;simp [y7r] at this;exact h0 (by simpa using this)
    obtain ⟨rfl,ma,ga,hma⟩:v=.sl (some (ia,0,(y7r L e).length)) (y7r L e).length 1∧∃ma,X4.get ia=some (.cells ((y7r L e).map V.s) ma)∧ma≤(y7r L e).length:=by
      rcases so with ⟨h,_⟩ | ⟨_,h1,ma,h2,h3⟩
      · exact absurd h htne
      · rw [ycj] at h1 h3
        exact ⟨h1,ma,h2,h3⟩
    simp
    apply jA
    simp [ye.r10,gb4]
    have htl:(y7r L e).length=(elB e.bs).length:=by simp [y7r]
    have hel2:=yam e.bs
    have hbl:=S1.ok.len
    refine AC.fix (SortS_ok (y7r L e) (by omega) (fun h=>htne (by rw [h];rfl)) ia ma X4 ga) ?_
    simp
    have hml:=yem (y7r L e)
    have hia4:=l4 _ _ ga
    have l5:Hp.Lt (X4.upd ia (.cells ((ya7 (y7r L e)).map V.s) (y7r L e).length)):=Hp.upd_lt l4 hia4 _
    have k5:∀i blk,i<X1.next→X1.get i=some blk→(X4.upd ia (.cells ((ya7 (y7r L e)).map V.s) (y7r L e).length)).get i=some blk:=fun i blk hi g=>by
      have:=x13.1
      simp [show i≠ia by omega]
      exact k4 i blk (by omega) (x13.2 _ _ g)
    have gb5:(X4.upd ia (.cells ((ya7 (y7r L e)).map V.s) (y7r L e).length)).get X1.next=some (.cells [.s e.node,.sl (some (ia,0,(y7r L e).length)) (y7r L e).length 1] 2):=by
      simp [show X1.next≠ia by omega,gb4]
    have A5:FctAt L H w seen fs (X4.upd ia (.cells ((ya7 (y7r L e)).map V.s) (y7r L e).length)):=A1.to (by simp;have:=x13.1;omega) l5 (fun i cs mc g=>k5 i _ (A1.lt _ _ g) g) (fun i blk g=>by
      have:=hlt _ _ g
      have:=A1.ext.1
      exact k5 i _ (by omega) (A1.ext.2 _ _ g))
    have hf:FOk L H.next (X4.upd ia (.cells ((ya7 (y7r L e)).map V.s) (y7r L e).length)) (e.node,.sl (some (ia,0,(y7r L e).length)) (y7r L e).length 1):=⟨e,List.mem_of_getElem? he,rfl,h0,ia,(y7r L e).length,by have:=A1.ext.1;have:=x13.1;omega,by rw [hml],by simp [tcs],by omega⟩
    have hI5:(X4.upd ia (.cells ((ya7 (y7r L e)).map V.s) (y7r L e).length)).get H.next=some (.obj (.iter L.mS L.es.length (seen++[j]))):=k5 _ _ (A1.lt _ _ hI1) hI1
    generalize X4.upd ia (.cells ((ya7 (y7r L e)).map V.s) (y7r L e).length)=X5 at l5 gb5 A5 hf hI5 ⊢
    have hfsl:fs.length≤10000000:=by
      have:=y7u A5.nod (b:=NN) fun x hx=>by
        obtain ⟨f,hf,rfl⟩:=List.mem_map.1 hx
        obtain ⟨d,h1,h2,h3,_⟩:=(A5.ok f hf).ex
        obtain ⟨jd,hjd⟩:=List.mem_iff_getElem?.1 h1
        obtain ⟨k,r,hkr⟩:=List.exists_cons_of_ne_nil h3
        have hk:k∈elB d.bs:=by rw [hkr];simp
        have hkl:=(R.set jd d hjd).lt k hk
        rw [←h2]
        exact hrN _ L.ts[k] ⟨d,h1,rfl,k,hk,List.getElem?_eq_getElem hkl⟩
      rw [List.length_map] at this
      omega
    obtain ⟨w',X6,q1,q2,q3⟩:=A5.app hlt hfsl hf (fun g hg q=>by
      obtain ⟨k,h1,d,h2,h3⟩:=A5.frm g hg
      have:=R.one h2 he (h3.trans q)
      subst this
      exact hj h1) he rfl
    dsimp only at q1
    apply jE
    simp [ye.r11,gb5,q1,-y2p,y7s]
    exact ⟨L.es.length-(seen++[j]).length,by simp;omega,_,_,.refl _ _,seen++[j],w',_,hn2,hl2,rfl,q2,q3 _ _ hI5,by simp⟩
def yl7 (fs:List (Str × V)):List (Str × V):=fs.mergeSort fun a b=>!ltB b.1 a.1
theorem ydn (fs:List (Str × V)):(yl7 fs).Perm fs:=List.mergeSort_perm fs _
theorem yja {fs:List (Str × V)} (h:(fs.map (·.1)).Nodup):y3s ((yl7 fs).map (·.1)):=by
  have hs:(yl7 fs).Pairwise fun a b=>(!ltB b.1 a.1)=true:=List.pairwise_mergeSort (fun a b c h1 h2=>by
      cases hh:ltB c.1 a.1 with
      | false=>rfl
      | true=>
        rcases y8y a.1 b.1 with k | k | k
        · have:=y79 hh k;rw [this] at h2;simp at h2
        · rw [←k,hh] at h2;simp at h2
        · rw [k] at h1;simp at h1)
    (fun a b=>by
      rcases y8y a.1 b.1 with k | k | k
      · rw [yb0 k];simp
      · have:ltB a.1 a.1=false:=by cases hh:ltB a.1 a.1 with | false=>rfl | true=>exact absurd hh (y7g _)
        rw [←k,this];simp
      · rw [yb0 k];simp) fs
  have hn:((yl7 fs).map (·.1)).Nodup:=((ydn fs).map _).nodup_iff.2 h
  rw [y3s,List.pairwise_map]
  rw [List.nodup_iff_pairwise_ne,List.pairwise_map] at hn
  refine (hs.and hn).imp fun {a b} hab=>?_
  have h1:=hab.1
  rcases y8y a.1 b.1 with k | k | k
  · exact k
  · exact absurd k hab.2
  · rw [k] at h1;simp at h1
set_option maxHeartbeats 1000000 in
theorem ylh {s:Sy} {id:Nat} {L:RkL} {m:Bool} {H:Hp} (R:RkOk s id L m H) {NN:List Str} (hNN:NN.length≤9999999) (hrN:∀n p,y5o L n p→n∈NN):
    AC Tryz.prog y5g [.p (some (id,0,10))] H (fun v X=>∃l,CanF l∧(∀n p,y7n l n p↔y5o L n p)∧H.Ext X∧Frz X (fun k=>H.next≤k) v (fsV l)):=by
  have hlt:=R.lt
  refine AC.code ye.at ye.ok ?_
  simp only [ye]
  apply jA
  simp [ye.r0]
  apply jA
  simp [ye.r1]
  refine AX.seq (yjf R hNN hrN fun w fs X A=>?_)
  simp
  have hex:∀f:Str × V,∃lc:List Str,f∈fs→∃e∈L.es,e.node=f.1∧elB e.bs≠[]∧lc=ya7 (y7r L e)∧∃ia mi,H.next≤ia∧f.2=.sl (some (ia,0,lc.length)) lc.length 1∧X.get ia=some (.cells (tcs lc) mi)∧mi≤lc.length:=fun f=>by
    by_cases hf:f∈fs
    · obtain ⟨e,h1,h2,h3,ia,mi,h4,h5,h6,h7⟩:=(A.ok f hf).ex
      exact ⟨ya7 (y7r L e),fun _=>⟨e,h1,h2,h3,rfl,ia,mi,h4,h5,h6,h7⟩⟩
    · exact ⟨[],fun h=>absurd h hf⟩
  obtain ⟨g,hg⟩:=Classical.axiomOfChoice hex
  obtain ⟨fs',hfs'⟩:∃fs',fs'=yl7 fs:=⟨_,rfl⟩
  have hp:fs'.Perm fs:=by rw [hfs'];exact ydn fs
  have hr:y3s (fs'.map (·.1)):=by rw [hfs'];exact yja A.nod
  obtain ⟨l,hl⟩:∃l:List y58,l=fs'.map fun f=>(f.1,g f):=⟨_,rfl⟩
  have hcan:CanF l:=by
    refine ⟨?_,fun f hf=>?_⟩
    · rw [hl,List.map_map];exact hr
    · rw [hl] at hf
      obtain ⟨f0,h0,rfl⟩:=List.mem_map.1 hf
      obtain ⟨e,h1,h2,h3,h4,_⟩:=hg f0 (hp.mem_iff.1 h0)
      obtain ⟨j,hj⟩:=List.mem_iff_getElem?.1 h1
      refine ⟨?_,fun q=>?_⟩
      · show y3s (g f0)
        rw [h4,yji (yl2 R hj)];exact ya2 _
      · have:(g f0).length=0:=by rw [show g f0=[] from q];rfl
        rw [h4,yem] at this
        exact h3 (by simpa [y7r] using this)
  have hhas:∀n p,y7n l n p↔y5o L n p:=fun n p=>by
    constructor
    · intro h
      obtain ⟨f,hf,h1,h2⟩:=ylo h
      rw [hl] at hf
      obtain ⟨f0,h0,rfl⟩:=List.mem_map.1 hf
      obtain ⟨e,h3,h4,h5,h6,_⟩:=hg f0 (hp.mem_iff.1 h0)
      obtain ⟨j,hj⟩:=List.mem_iff_getElem?.1 h3
      have h2':p∈g f0:=h2
      rw [h6] at h2'
      have:=(List.mergeSort_perm (y7r L e) _).mem_iff.1 h2'
      rw [←h1,←h4]
      exact (txt_of R hj p).1 this
    · rintro ⟨e,h1,h2,k,h3,h4⟩
      obtain ⟨j,hj⟩:=List.mem_iff_getElem?.1 h1
      have hne:elB e.bs≠[]:=fun q=>by rw [q] at h3;cases h3
      obtain ⟨f,hf,hfn⟩:=A.all j (List.mem_range.2 (List.getElem?_eq_some_iff.1 hj).1) e hj hne
      obtain ⟨d,q1,q2,q3,q4,_⟩:=hg f hf
      obtain ⟨jd,hjd⟩:=List.mem_iff_getElem?.1 q1
      have:=R.one hjd hj (q2.trans hfn)
      subst this
      rw [hjd] at hj;injection hj with hj;subst hj
      have hm:(f.1,g f)∈l:=by rw [hl];exact List.mem_map.2 ⟨f,hp.mem_iff.2 hf,rfl⟩
      have:=ylq hcan hm
      show p∈ofS l n
      rw [←h2,←hfn]
      rw [show f.1=(f.1,g f).1 from rfl,this]
      show p∈g f
      rw [q4]
      exact (List.mergeSort_perm (y7r L d) _).mem_iff.2 ((txt_of R hjd p).2 ⟨d,h1,rfl,k,h3,h4⟩)
  apply jA
  simp [ye.r12]
  rcases A.own with ⟨e0,rfl⟩ | ⟨hne,iw,mw,hiw,rfl,gw,hmw⟩
  · refine AC.fix (yhn 0 X) ?_
    simp
    apply jA
    simp [ye.r13]
    apply jD
    simp
    have:l=[]:=by
      have:=hp.length_eq
      rw [e0] at this
      rw [hl,List.length_eq_zero_iff.1 this];rfl
    subst this
    exact ⟨[],hcan,hhas,A.ext,.sl0 _⟩
  · have hsl:∀f∈fs,∃a n z,f.2=.sl a n z:=fun f hf=>(A.ok f hf).sl
    have hNl:fs.length≤10000000:=by
      have:=y7u A.nod (b:=NN) fun x hx=>by
        obtain ⟨f,hf,rfl⟩:=List.mem_map.1 hx
        obtain ⟨d,h1,h2,h3,_⟩:=(A.ok f hf).ex
        obtain ⟨jd,hjd⟩:=List.mem_iff_getElem?.1 h1
        obtain ⟨k,r,hkr⟩:=List.exists_cons_of_ne_nil h3
        have hk:k∈elB d.bs:=by rw [hkr];simp
        have hkl:=(R.set jd d hjd).lt k hk
        rw [←h2]
        exact hrN _ L.ts[k] ⟨d,h1,rfl,k,hk,List.getElem?_eq_getElem hkl⟩
      rw [List.length_map] at this
      omega
    refine AC.fix (yjy fs fs' (by omega) hne iw mw X gw (List.all_eq_true.2 fun v hv=>?_) (fun f hf κ c hc=>?_) hp hr) ?_
    · unfold ybx at hv
      obtain ⟨f,hf,hv⟩:=List.mem_flatMap.1 hv
      obtain ⟨a,n,z,hz⟩:=hsl f (hp.mem_iff.1 hf)
      simp at hv
      rcases hv with rfl | rfl
      · rfl
      · rw [hz];rfl
    · obtain ⟨a,n,z,hz⟩:=hsl f hf
      rw [hz] at hc
      cases hc with
      | sl=>exact ⟨_,_,_,rfl⟩
      | sl0=>exact ⟨_,_,_,rfl⟩
    have hpl:fs'.length=fs.length:=hp.length_eq
    have hiwX:=A.lt _ _ gw
    simp
    apply jA
    simp [ye.r13]
    apply jD
    simp
    refine ⟨l,hcan,hhas,⟨by simpa using A.ext.1,fun k blk gk=>?_⟩,?_⟩
    · have:=hlt _ _ gk
      simp [show k≠iw by omega]
      exact A.ext.2 _ _ gk
    · refine .sl iw 0 (fs.length*2) fs.length 2 (fs.length*2) (ybx fs') (l.map fcs) hiw (by simp) (Nat.le_refl _) (by rw [yb2,hpl];exact Nat.le_refl _) (by rw [hl];simp [hpl]) (fun e he=>?_) (fun i j e v hi hj=>?_) (fun i j e v u hi hj hu=>?_)
      · obtain ⟨f,_,rfl⟩:=List.mem_map.1 he;rfl
      · have h1:=(List.getElem?_eq_some_iff.1 hi).1
        have h2:e.length=2:=by obtain ⟨f,_,rfl⟩:=List.mem_map.1 (List.mem_of_getElem? hi);rfl
        have h3:=(List.getElem?_eq_some_iff.1 hj).1
        rw [hl] at h1
        simp [hpl] at h1
        omega
      · rw [hl] at hi
        simp only [List.map_map,List.getElem?_map,Option.map_eq_some_iff] at hi
        obtain ⟨f,hf,rfl⟩:=hi
        have hff:=hp.mem_iff.1 (List.mem_of_getElem? hf)
        obtain ⟨c1,c2⟩:=yb3 hf
        match j,hj with
        | 0,hj=>
          simp [fcs] at hj;subst hj
          rw [show 0+i*2+0=i*2 by omega,c1] at hu;injection hu with hu;subst hu
          exact .refl _
        | 1,hj=>
          simp [fcs] at hj;subst hj
          rw [show 0+i*2+1=i*2+1 by omega,c2] at hu;injection hu with hu;subst hu
          obtain ⟨e,h1,h2,h3,h4,ia,mi,h5,h6,h7,h8⟩:=hg f hff
          rw [h6]
          have hia:ia≠iw:=by
            rw [h4] at h7
            exact (A.ok f hff).ne gw hsl e h1 ia mi h3 h7
          refine .sl ia 0 _ _ 1 mi (tcs (g f)) ((g f).map fun x=>[.s x]) h5 (by simp [hia];exact h7) h8 (by rw [ycj];exact Nat.le_refl _) (by simp) (fun e he=>?_) (fun i j e v hi hj=>?_) (fun i j e v u hi hj hu=>?_)
          · obtain ⟨x,_,rfl⟩:=List.mem_map.1 he;rfl
          · have h1:=(List.getElem?_eq_some_iff.1 hi).1
            have h2:e.length=1:=by obtain ⟨x,_,rfl⟩:=List.mem_map.1 (List.mem_of_getElem? hi);rfl
            have h3:=(List.getElem?_eq_some_iff.1 hj).1
            simp at h1
            omega
          · simp only [List.getElem?_map,Option.map_eq_some_iff] at hi
            obtain ⟨x,hx,rfl⟩:=hi
            have hj0:j=0:=by have:=(List.getElem?_eq_some_iff.1 hj).1;simp at this;exact this
            subst hj0
            simp at hj;subst hj
            simp [tcs,hx] at hu;subst hu
            exact .refl _
        | j+2,hj=>simp [fcs] at hj
theorem yj3 {d:Nd} (h:RightN d):(y2z d).length≤100:=by
  have hc:=yn7 h
  have hn:=num_fn h
  have h1:(y4s d.n.toNat).length≤9:=y33 8 _ (by omega)
  have h2:(y5h d.copy).length≤10:=by
    unfold y5h
    split
    · have:=y33 8 d.copy.toNat (by omega)
      simp;omega
    · simp
  have h3:(y7i d.cell).length≤10:=by
    unfold y7i
    split
    · have hcl:d.cell.toNat≤268435456:=by
        rcases h.cell with e | ⟨_,e⟩
        · omega
        · have:=of_decide_eq_true e;omega
      have:=y33 8 d.cell.toNat (by omega)
      simp;omega
    · simp
  have h4:d.fn.length≤16:=by
    rcases h.fn with ⟨_,e,_⟩ | ⟨_,e⟩
    · rw [e];simp
    · exact yax e
  have h5:d.name.length≤16:=by
    rcases ydx h with e | e
    · rw [e];simp
    · exact yax e
  have hb:(y5y d).length≤60:=by
    unfold y5y
    repeat' split
    all_goals first | omega | (simp;omega)
  unfold y2z
  rw [List.length_append];omega
theorem yng (o:Str) (k:Nat):(y91 o k).length≤100:=by
  unfold y91
  split
  · split
    · simp
    · split
      · rename_i hr;exact yj3 ((y5v _).1 hr)
      · simp
  · simp
theorem ge_cmpS (x y:Str):(0≤yc0 x y)=(¬ltB x y=true):=by
  rw [←yn9];exact propext ⟨fun h=>by omega,fun h=>by omega⟩
theorem ynd {α:Type} {ask:α→Int} {nm:α→Str}:∀{l:List α} {p:Option α},chk ask (fun a b=>yc0 (nm a) (nm b)) p l=0→(∀y,p=some y→∀x∈l,ltB (nm y) (nm x)=true)∧y3s (l.map nm)
  | [],_,_=>⟨fun _ _ x h=>(by cases h),by simp [y3s]⟩
  | x::r,p,h=>by
    simp only [chk] at h
    by_cases h1:ask x=0
    rotate_left
    · rw [if_pos h1] at h;exact absurd h h1
    rw [if_neg (by simpa using h1)] at h
    have key:(∀y,p=some y→ltB (nm y) (nm x)=true)∧chk ask (fun a b=>yc0 (nm a) (nm b)) (some x) r=0:=by
      cases p with
      | none=>exact ⟨fun y hy=>(by cases hy),by simpa using h⟩
      | some y=>
        simp only [ge_cmpS] at h
        by_cases h2:ltB (nm y) (nm x)=true
        · exact ⟨fun z hz=>by injection hz with hz;subst hz;exact h2,by simpa [h2] using h⟩
        · simp [h2] at h
    obtain ⟨hx,h⟩:=key
    obtain ⟨a,b⟩:=ynd h
    refine ⟨fun y hy z hz=>?_,?_⟩
    · rcases List.mem_cons.1 hz with rfl | hz
      · exact hx y hy
      · exact y79 (hx y hy) (a x rfl z hz)
    · rw [List.map_cons]
      refine List.pairwise_cons.2 ⟨fun z hz=>?_,b⟩
      obtain ⟨w,hw,rfl⟩:=List.mem_map.1 hz
      exact a x rfl w hw
theorem yhd {c:Cn} (h:cnE c=0):(1≤c.op∧c.op≤6)∧(0≤c.k∧c.k≤64)∧(c.op=6→∃l r,ybb c.tag=some (l,r)):=by
  rw [yn8] at h
  split at h
  · cases h
  rename_i h1
  refine ⟨by omega,?_⟩
  split at h
  · cases h
  split at h
  · rename_i h6
    split at h
    · rename_i hcd
      unfold y9m at hcd
      cases hs:ybb c.tag with
      | none=>rw [hs] at hcd;cases hcd
      | some x=>
        obtain ⟨l,r⟩:=x
        rw [hs] at hcd
        simp only [Bool.and_eq_true,decide_eq_true_eq] at hcd
        have:c.k=0:=hcd.1.1.1.1.1
        exact ⟨by omega,fun _=>⟨l,r,rfl⟩⟩
    · cases h
  · rename_i h6
    split at h
    · cases h
    split at h
    · split at h
      · rename_i h5
        exact ⟨⟨h5.1,h5.2.1⟩,fun h=>absurd h h6⟩
      · cases h
    · split at h
      · rename_i h5
        have:=h5.1
        exact ⟨by omega,fun h=>absurd h h6⟩
      · cases h
def y9y (s:Sy):List Str:=(s.cons.flatMap fun c=>c.a::c.b::c.args)++(y40 s++(y40 s).flatMap fun q=>(List.range 8).map (y56 q))
structure SysR (s:Sy):Prop where
  nm:SyN s
  cn:CnR s
  pl:PlP s (y40 s)
  cl:Cl s (InNP (y9y s) (y40 s))
  len:(y9y s).length≤9999999
theorem sysR {s:Sy} (h:ygq s=0) (hs:syS s):SysR s:=by
  obtain ⟨h1,h2,h3,h4,h5,h6⟩:=yhy h
  obtain ⟨s1,s2,s3,so,sf,sc⟩:=hs
  have hch:chk obE yna none s.objs=0∧chk fuE ynb none s.fns=0:=by
    have h':=h
    unfold ygq at h'
    split at h'
    · cases h'
    obtain ⟨q1,h'⟩:=ycv h'
    obtain ⟨q2,h'⟩:=ycv h'
    exact ⟨q1,q2⟩
  have nm:SyN s:=⟨(ynd (nm:=Ob.name) hch.1).2.nodup,(ynd (nm:=Fu.name) hch.2).2.nodup,fun o ho=>yib (h4 o ho),fun c hc=>(yhd (h6 c hc)).2.1,fun o ho=>⟨(so o ho).2.2.1,(so o ho).1⟩⟩
  have hargs:∀c∈s.cons,c.args.length≤7:=fun c hc=>cn_args (h6 c hc)
  have pl:PlP s (y40 s):=by
    refine ⟨by have:=ycs h;omega,fun x hx=>?_,fun o ho j hj=>?_,fun f hf=>?_,fun c hc ho=>?_⟩
    · unfold y40 at hx
      simp only [List.mem_append,List.mem_flatMap,List.mem_map,List.mem_filterMap] at hx
      rcases hx with ⟨o,_,hx⟩ | ⟨f,hf,rfl⟩ | ⟨c,hc,hx⟩
      · unfold yd2 at hx
        obtain ⟨j,_,rfl⟩:=List.mem_map.1 hx
        have:=yng o.name j;omega
      · have:=(sf f hf).1;omega
      · split at hx
        · injection hx with hx;subst hx
          have:=(sc c hc).2.1;omega
        · cases hx
    · unfold y40
      refine List.mem_append.2 (.inl (List.mem_flatMap.2 ⟨o,ho,?_⟩))
      unfold yd2
      exact List.mem_map.2 ⟨j,List.mem_filter.2 ⟨List.mem_range.2 hj,by simp [yim]⟩,rfl⟩
    · unfold y40
      exact List.mem_append.2 (.inr (List.mem_append.2 (.inl (List.mem_map.2 ⟨f,hf,rfl⟩))))
    · unfold y40
      exact List.mem_append.2 (.inr (List.mem_append.2 (.inr (List.mem_filterMap.2 ⟨c,hc,by simp [ho]⟩))))
  have cn:CnR s:=⟨fun c hc=>(yhd (h6 c hc)).1,fun c hc=>(yhd (h6 c hc)).2.2,fun c hc=>by have:=hargs c hc;omega,fun c hc=>by have:=(sc c hc).2.2.1;omega,by omega⟩
  refine ⟨nm,cn,pl,fun c hc n p hr=>?_,?_⟩
  · have ca:c.a∈y9y s:=List.mem_append.2 (.inl (List.mem_flatMap.2 ⟨c,hc,by simp⟩))
    have cx:∀a∈c.args,a∈y9y s:=fun a ha=>List.mem_append.2 (.inl (List.mem_flatMap.2 ⟨c,hc,by simp [ha]⟩))
    have pn:∀q∈y40 s,q∈y9y s:=fun q hq=>List.mem_append.2 (.inr (List.mem_append.2 (.inl hq)))
    have fn:∀q∈y40 s,∀k,k<8→y56 q k∈y9y s:=fun q hq k hk=>List.mem_append.2 (.inr (List.mem_append.2 (.inr (List.mem_flatMap.2 ⟨q,hq,List.mem_map.2 ⟨k,List.mem_range.2 hk,rfl⟩⟩))))
    rcases hr with ⟨o,rfl,rfl⟩ | ⟨o,rfl,x⟩ | ⟨o,rfl,q,x,y,z⟩ | ⟨o,x,y,z⟩ | ⟨o,rfl,e,q,x,rfl⟩ | ⟨o,q,x,y,⟨rfl,rfl⟩ | ⟨k,a,z1,z2,⟨rfl,rfl,z⟩ | ⟨z0,rfl,z⟩⟩⟩
    · exact ⟨ca,pl.adr c hc o⟩
    · exact ⟨ca,x.2⟩
    · exact ⟨ca,z.2⟩
    · exact ⟨pn _ x.2,z.2⟩
    · exact ⟨ca,yec nm pl (nm.cb c hc).1 e⟩
    · exact ⟨ca,x.2⟩
    · exact ⟨cx _ (List.mem_of_getElem? z1),z.2⟩
    · refine ⟨fn q x.2 k ?_,z.2⟩
      have:=(List.getElem?_eq_some_iff.1 z1).1
      have:=hargs c hc
      omega
  · unfold y9y
    have hp:=ycs h
    have e1:(s.cons.flatMap fun c=>c.a::c.b::c.args).length≤s.cons.length*9:=by
      have:∀l:List Cn,(∀c∈l,c.args.length≤7)→(l.flatMap fun c=>c.a::c.b::c.args).length≤l.length*9:=fun l=>by
        induction l with
        | nil=>intro _;simp
        | cons a r ih=>
          intro hl
          have q1:=ih fun c hc=>hl c (by simp [hc])
          have q2:=hl a (by simp)
          simp only [List.flatMap_cons,List.length_append,List.length_cons] at q1 ⊢
          omega
      exact this _ hargs
    have e2:((y40 s).flatMap fun q=>(List.range 8).map (y56 q)).length=(y40 s).length*8:=by
      have:∀l:List Str,(l.flatMap fun q=>(List.range 8).map (y56 q)).length=l.length*8:=fun l=>by
        induction l with
        | nil=>rfl
        | cons a r ih=>simp only [List.flatMap_cons,List.length_append,List.length_cons,ih,List.length_map,List.length_range];omega
      exact this _
    simp only [List.length_append,e2]
    omega
end Go.Proofs.YtikpijbeobeckaaGreatDoor
