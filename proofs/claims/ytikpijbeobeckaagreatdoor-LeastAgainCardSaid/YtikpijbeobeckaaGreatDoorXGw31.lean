/- Part 31. -/
import Derived.Test.YtikpijbeobeckaaGreatDoorXGw30
set_option linter.unusedSimpArgs false
set_option linter.unusedVariables false
namespace Go.Proofs.YtikpijbeobeckaaGreatDoor
open Am C
open Go Go.RowKit
namespace Am
theorem insK_fin {κ:K} {H:Hp} (S:Sim κ H) {id m:Nat} {cs:List V} (hg:H.get id=some (.cells cs m)) {w':World} {b' o':Nat} {arr:Array Value} {t:TypeId} {fr:Nat × Nat} {ds:List V}
  (hb:w'.heap[b']?=some (.cells arr t fr)) (ho:o'+ds.length≤arr.size) (hd:∀(j:Nat) v,ds[j]?=some v→∃k n,v=.i k n∧arr.getD (o'+j) undef=.int k n) (hfr:fr.2≤fr.1∨(arr.size≤fr.1∧t=5))
  (hk:∀k,k≠(κ.pl id cs.length).1→k<κ.w.heap.size→w'.heap[k]?=κ.w.heap[k]?) (hn:∀k n,y2q κ.w k=some n→y2q w' k=some n) (hsz:κ.w.heap.size≤w'.heap.size)
  (hos:w'.os=κ.w.os) (hta:w'.tape=κ.w.tape) (hou:w'.output=κ.w.output) (hb':b'=(κ.pl id cs.length).1∨κ.w.heap.size≤b'):
  ∃κ':K,κ'.w=w'∧κ.Le κ'∧Sim κ' ((H.del id).add (.cells ds ds.length))∧κ'.pl H.next ds.length=(b',o')∧κ'.ok H.next ds.length:=by
 have hm:=S.le id cs m hg
 have hP:=S.cells id cs m hg cs.length hm (kG _)
 obtain ⟨⟨arr0,t0,fr0,q1,_⟩,qz⟩:=hP
 have S1:Sim κ (H.del id):=S.weak (Hp.del_sub H id)
 have hget:∀{k x},(H.del id).get k=some x→k≠id∧H.get k=some x:=fun {k x} h=>by
  simp only [Hp.del] at h
  split at h
  ·cases h
  ·rename_i hne;exact ⟨hne,h⟩
 have hno:∀k cs' m' e,(H.del id).get k=some (.cells cs' m')→m'≤e→e≤cs'.length→(κ.pl k e).1≠(κ.pl id cs.length).1:=fun k cs' m' e h h1 h2 hp=>by
  obtain ⟨hne,h⟩:=hget h
  exact hne (S.sep k id e cs.length cs' m' cs m h hg h1 h2 hm (kG _) hp)
 obtain ⟨le,S2⟩:=Sim.other S1 q1 hk hn hsz hos hta hou qz hno
 have hno2:∀k cs' m' e,(H.del id).get k=some (.cells cs' m')→m'≤e→e≤cs'.length→(κ.pl k e).1≠b':=fun k cs' m' e h h1 h2 hp=>by
  rcases hb' with hb' | hb'
  ·exact hno k cs' m' e h h1 h2 (hp.trans hb')
  ·obtain ⟨⟨a0,t1,f1,r1,_⟩,_⟩:=S1.cells k cs' m' h e h1 h2
   have:=lt_of_some r1
   omega
 have hz2:¬κ.fz b':=fun h=>by
  rcases hb' with hb' | hb'
  ·exact qz (hb'▸h)
  ·have:=S.fz b' h;omega
 obtain ⟨κ',e1,le2,S3,e2,e3⟩:=Sim.adopt S2 (ds:=ds) (o:=o') hb ho (fun j v hj=>by obtain ⟨k,n,rfl,h⟩:=hd j v hj;rw [h];exact .i k n) hfr hz2 hno2
 exact ⟨κ',e1,le.trans le2,S3,e2,e3⟩
end Am
def tv:V→Value
 | .i k n=>.int k n
 | _=>undef
def AllI (l:List V):Prop:=∀v∈l,∃k n,v=.i k n
theorem vr_tv {κ:K} {v:V} {c:Value} (h:∃k n,v=.i k n) (r:VR κ v c):c=tv v:=by
 obtain ⟨k,n,rfl⟩:=h
 exact yja r
theorem yjl {l:List V} (h:AllI l):∀v∈l.map tv,v.oneCell'=true:=fun v hv=>by
 obtain ⟨u,hu,rfl⟩:=List.mem_map.1 hv
 obtain ⟨k,n,rfl⟩:=h u hu
 rfl
theorem ygf {l:List V} {j:Nat} {v:V} (h:l[j]?=some v):(l.map tv)[j]?=some (tv v):=by simp [h]
theorem bkcs_all (bs:List Bk):AllI (y6q bs):=fun v hv=>by
 obtain ⟨e,he,hv⟩:=List.mem_flatten.1 hv
 obtain ⟨x,_,rfl⟩:=List.mem_map.1 he
 simp [bkc] at hv
 rcases hv with rfl | rfl
 ·exact ⟨_,_,rfl⟩
 ·exact ⟨_,_,rfl⟩
theorem yph (x:Bk):AllI (bkc x):=fun v hv=>by
 simp [bkc] at hv
 rcases hv with rfl | rfl
 ·exact ⟨_,_,rfl⟩
 ·exact ⟨_,_,rfl⟩
theorem yff {κ:K} {H:Hp} (S:Sim κ H) {id m:Nat} {l:List V} (ha:AllI l) (hg:H.get id=some (.cells l m)):∃arr t fr,κ.w.heap[(κ.pl id l.length).1]?=some (.cells arr t fr)∧(κ.pl id l.length).2+l.length≤arr.size∧
  (∀(j:Nat) v,l[j]?=some v→arr.getD ((κ.pl id l.length).2+j) undef=tv v)∧(fr.2≤fr.1∨(arr.size≤fr.1∧t=5))∧¬κ.fz (κ.pl id l.length).1:=by
 have hm:=S.le id _ m hg
 obtain ⟨⟨arr,t,fr,h1,h2,h3,h4⟩,h5⟩:=S.cells id _ m hg l.length hm (by omega)
 exact ⟨arr,t,fr,h1,h2,fun j v hj=>vr_tv (ha v (kY hj)) (h3 j v (List.getElem?_eq_some_iff.1 hj).1 hj),h4,h5⟩
def yih (l:List V) (p:Nat) (x:List V):List V:=l.take p++(x++l.drop p)
theorem insL_len {l x:List V} {p:Nat} (h:p≤l.length):(yih l p x).length=l.length+x.length:=by simp [yih];omega
set_option maxHeartbeats 2000000 in
theorem InsB_ok (l x:List V) (n i id idv m mv:Nat) (hL:AllI l) (hX:AllI x) (hxl:x.length=2) (hln:l.length=n*2) (hne:idv≠id) (hi:i≤n) (hn:n≤1000000000) (H:Hp) (hg:H.get id=some (.cells l m)) (hv:H.get idv=some (.cells x mv)):
  AC Tryz.prog y3l [.sl (some (id,0,l.length)) n 2,.i .i64 (i:Nat),.st 149 (some (idv,0,2)) 1 2] H (fun v H'=>v=.sl (some (H.next,0,l.length+2)) (n+1) 2∧H'=(H.del id).add (.cells (yih l (i*2) x) (l.length+2))):=by
 refine ⟨by kernel_rfl,fun κ cs S r=>?_⟩
 obtain ⟨hlen,hr⟩:=r
 match cs,hlen with
 | [c0,c1,c2],_=>
  have r0:VR κ _ c0:=hr 0 _ rfl
  have r1:VR κ _ c1:=hr 1 _ rfl
  have r2:VR κ _ c2:=hr 2 _ rfl
  obtain rfl:=yja r1
  obtain ⟨arr,t,fr,p1,p2,p3,p4,p5⟩:=yff S hL hg
  have hvm:mv≤2:=by have:=S.le idv _ mv hv;omega
  obtain ⟨arv,tv0,frv,u1,u2,u3,u4,u5⟩:=yff S hX hv
  rw [hxl] at u1 u2 u3 u5
  have hbb:(κ.pl idv 2).1≠(κ.pl id l.length).1:=fun h=>hne (S.sep idv id 2 l.length _ mv _ m hv hg hvm (by omega) (S.le id _ m hg) (kG _) h)
  cases r2 with
  | st _ _ _ _ _ r2 hty=>
  obtain ⟨hn3,hty,_⟩:=hty
  have htv:tv0=149:=by
   simp only [y2q,u1] at hty
   injection hty with hty;injection hty
  cases r2 with
  | sl _ _ _ _ _ vcap vn va vok vz vlc vlo vhi vnc vroom vaddr=>
  obtain rfl:=vaddr (by omega)
  cases r0 with
  | sl _ _ _ _ _ cap nn a ok hz hlc hlo hhi hnc hroom ha=>
  have hnn:nn.1=arr.size:=by simp only [y2q,p1] at hnc;injection hnc with hnc;rw [←hnc]
  have hvs:∀(j:Nat) v,(x.map tv)[j]?=some v→κ.w.cell? ⟨(κ.pl idv 2).1,(κ.pl idv 2).2+0+j,none⟩=some v:=fun j v hj=>by
   simp only [List.getElem?_map,kd] at hj
   obtain ⟨u,hu,rfl⟩:=hj
   have:=(List.getElem?_eq_some_iff.1 hu).1
   rw [Nat.add_zero,y6h u1 (by omega),u3 j u hu]
  have h1v:=yjl hX
  have hvl:(x.map tv).length=1*2:=by simp [hxl]
  have hil:(l.map tv).length=n*2:=by simp [hln]
  have hcs:∀(j:Nat) v,(l.map tv)[j]?=some v→κ.w.cell? ⟨(κ.pl id l.length).1,(κ.pl id l.length).2+j,none⟩=some v:=fun j v hj=>by
   simp only [List.getElem?_map,kd] at hj
   obtain ⟨u,hu,rfl⟩:=hj
   have hjl:=(List.getElem?_eq_some_iff.1 hu).1
   rw [y6h p1 (by omega),p3 j u hu]
  have hIa:AllI (yih l (i*2) x):=fun v hv=>by
   simp only [yih,kZ] at hv
   rcases hv with hv | hv | hv
   ·exact hL v (List.mem_of_mem_take hv)
   ·exact hX v hv
   ·exact hL v (List.mem_of_mem_drop hv)
  have hdl:(yih l (i*2) x).length=l.length+2:=by rw [insL_len (by omega),hxl]
  have hkn:∀(w':World) (b' o' cap':Nat) (arr':Array Value) (t':TypeId) (fr':Nat × Nat),w'.heap[b']?=some (.cells arr' t' fr')→o'+cap'*2≤arr'.size→n+1≤cap'∧cap'≤9223372036854775807→
    (∀(j:Nat) v,(yih l (i*2) x)[j]?=some v→arr'.getD (o'+j) undef=tv v)→(fr'.2≤fr'.1∨(arr'.size≤fr'.1∧t'=5))→
    (∀k,k≠(κ.pl id l.length).1→k<κ.w.heap.size→w'.heap[k]?=κ.w.heap[k]?)→(∀k n,y2q κ.w k=some n→y2q w' k=some n)→κ.w.heap.size≤w'.heap.size→
    w'.os=κ.w.os→w'.tape=κ.w.tape→w'.output=κ.w.output→(b'=(κ.pl id l.length).1∨κ.w.heap.size≤b')→
    ∃κ' v cv H',Ending.returned (.slice (some ⟨b',o',none⟩) (n+1) cap')=Ending.returned cv∧κ'.w=w'∧κ.Le κ'∧Sim κ' H'∧VR κ' v cv∧v=.sl (some (H.next,0,l.length+2)) (n+1) 2∧H'=(H.del id).add (.cells (yih l (i*2) x) (l.length+2)):=by
   intro w' b' o' cap' arr' t' fr' q1 q2 q3 q4 q5 q6 q7 q8 q9 q10 q11 q12
   obtain ⟨κ',e1,e2,e3,e4,e5⟩:=insK_fin S hg (ds:=yih l (i*2) x) (o':=o') q1 (by rw [hdl];omega) (fun j v hj=>by
    obtain ⟨k,n,rfl⟩:=hIa v (kY hj)
    exact ⟨_,_,rfl,q4 j _ hj⟩) q5 q6 q7 q8 q9 q10 q11 q12
   rw [hdl] at e3 e4 e5
   refine ⟨κ',_,_,_,rfl,e1,e2,e3,?_,rfl,rfl⟩
   refine .sl H.next 0 (l.length+2) (n+1) 2 cap' (arr'.size,t') _ e5 (by omega) q3 (by omega) (by omega) ?_ (by rw [e4];simp;omega) (fun _=>by rw [e4];rfl)
   rw [e4,e1]
   simp only [y2q,q1]
  by_cases hroomy:n+1≤cap
  ·obtain rfl:=ha (by omega)
   simp only [Nat.add_zero] at hroom ⊢
   have hsome:∀q,q<arr.size→(κ.w.cell? ⟨(κ.pl id l.length).1,q,none⟩).isSome=true:=fun q hq=>by rw [y6h p1 hq];rfl
   have hfro:∀q,q<arr.size→κ.w.frozen? ⟨(κ.pl id l.length).1,q,none⟩=false:=fun q hq=>y8c p1 p4 hq
   by_cases hend:i=n
   ·subst hend
    refine (yfv (κ.pl id l.length).1 (κ.pl id l.length).2 i cap (κ.pl idv 2).1 ((κ.pl idv 2).2+0) 1 vcap (x.map tv) κ.w (by omega) (by omega) (by omega) hvl (fun j hj=>hsome _ (by omega)) (fun j hj=>hfro _ (by omega)) hvs h1v).mono ?_
    rintro e w' ⟨rfl,rfl⟩
    obtain ⟨arr',s1,s2,s3,s4,s5,s6,s7,s8,s9,s10⟩:=y44 (κ.pl id l.length).1 t fr (x.map tv) ((κ.pl id l.length).2+i*2) arr κ.w p1 (by rw [hvl];omega)
    refine hkn _ _ _ _ arr' t fr s1 (by omega) (by omega) (fun j v hj=>?_) (by rw [s2];exact p4) (fun k hk _=>s5 k hk) (fun k n h=>by rw [s6];exact h) (by omega) s8 s9 s10 (.inl rfl)
    simp only [yih,←hln,List.take_length,List.drop_length,List.append_nil] at hj
    by_cases hjl:j<l.length
    ·rw [kR hjl] at hj
     rw [s3 _ (by omega)];exact p3 j v hj
    ·rw [kX (by omega)] at hj
     have hj2:=(List.getElem?_eq_some_iff.1 hj).1
     have:=s4 (j-l.length) (by rw [hvl];omega)
     rw [show (κ.pl id l.length).2+i*2+(j-l.length)=(κ.pl id l.length).2+j by omega] at this
     rw [this,kQ,ygf hj];rfl
   ·have hlt:i<n:=by omega
    have hsh:κ.w.shape? (κ.pl id l.length).1=some (t,arr.size):=by simp [World.shape?,p1]
    have hsv:κ.w.shape? (κ.pl idv 2).1=some (tv0,arv.size):=by simp [World.shape?,u1]
    refine (yl2 (κ.pl id l.length).1 (κ.pl id l.length).2 n cap i (κ.pl idv 2).1 ((κ.pl idv 2).2+0) 1 vcap (l.map tv) (x.map tv) κ.w hlt (by omega) (by omega) hlc.2 hbb hil hvl hcs (fun j hj=>hsome _ (by omega)) (fun j hj=>hfro _ (by omega)) hvs (yjl hL) h1v tv0 t arv.size arr.size hsv hsh (by omega) (y8c u1 u4 (by omega)) ?_).mono ?_
    ·simp only [World.frozen?,u1]
     rcases u4 with hf | hf
     ·simp;omega
     ·exact absurd (hf.2.symm.trans htv) (by decide)
    rintro e w' ⟨rfl,rfl⟩
    have p1d:κ.w.drew.heap[(κ.pl id l.length).1]?=some (.cells arr t fr):=p1
    obtain ⟨arr1,s1,s2,s3,s4,s5,s6,s7,s8,s9,s10⟩:=y44 (κ.pl id l.length).1 t fr ((l.map tv).drop (i*2)) ((κ.pl id l.length).2+(i+1)*2) arr κ.w.drew p1d (by simp;omega)
    obtain ⟨arr2,v1,v2,v3,v4,v5,v6,v7,v8,v9,v10⟩:=y44 (κ.pl id l.length).1 t fr (x.map tv) ((κ.pl id l.length).2+i*2) arr1 _ s1 (by rw [hvl];omega)
    refine hkn _ _ _ _ arr2 t fr v1 (by omega) (by omega) (fun j v hj=>?_) (by rw [v2,s2];exact p4) (fun k hk _=>(v5 k hk).trans (s5 k hk)) (fun k n h=>by rw [v6,s6];exact h) (by rw [v7,s7];exact kG _) (v8.trans s8) (v9.trans s9) (v10.trans s10) (.inl rfl)
    have hti:(l.take (i*2)).length=i*2:=by simp;omega
    simp only [yih] at hj
    by_cases hj1:j<i*2
    ·rw [kR (by omega),kj,if_pos hj1] at hj
     rw [v3 _ (by omega),s3 _ (by omega)];exact p3 j v hj
    ·rw [kX (by omega),hti] at hj
     by_cases hj2:j<i*2+2
     ·rw [kR (by omega)] at hj
      have:=v4 (j-i*2) (by rw [hvl];omega)
      rw [show (κ.pl id l.length).2+i*2+(j-i*2)=(κ.pl id l.length).2+j by omega] at this
      rw [this,kQ,ygf hj];rfl
     ·rw [kX (by omega),hxl,List.getElem?_drop] at hj
      have hjl:=(List.getElem?_eq_some_iff.1 hj).1
      rw [v3 _ (by rw [hvl];omega)]
      have:=s4 (j-i*2-2) (by simp;omega)
      rw [show (κ.pl id l.length).2+(i+1)*2+(j-i*2-2)=(κ.pl id l.length).2+j by omega] at this
      rw [this,kQ,List.getElem?_drop,ygf hj];rfl
  ·have hcap:cap=n:=by omega
   have g1:=grownCap_ge κ.w (n+1) cap 149
   have g2:=grownCap_le_maxLen κ.w (n+1) cap 149 (by unfold maxLen;omega)
   have g3:grownCap κ.w (n+1) cap 149≤9223372036854775807:=g2
   by_cases hend:i=n
   ·subst hend
    refine (yby (some a) i cap (κ.pl idv 2).1 ((κ.pl idv 2).2+0) 1 vcap (l.map tv) (x.map tv) κ.w (by omega) (by omega) (by omega) (by omega) hil hvl (fun h=>by cases h) (fun a' ha' j v hj=>?_) hvs h1v).mono ?_
    ·injection ha' with ha';subst ha'
     have hjl:=(List.getElem?_eq_some_iff.1 hj).1
     obtain rfl:=ha (by rw [hil] at hjl;omega)
     have:=hcs j v hj
     rw [y4h];simpa using this
    rintro e w' ⟨rfl,rfl⟩
    have hsz:(((l.map tv)++(x.map tv)).toArray++Builtin.zeroCells (Value.cells (.agg #[.int .i64 0,.int .u64 0])) (grownCap κ.w (i+1) cap 149-(i+1))).size=grownCap κ.w (i+1) cap 149*2:=by
     rw [Array.size_append,y8d,List.size_toArray,kT,hil,hvl];omega
    refine hkn _ _ _ _ _ 149 (0,0) (y23 _ _) (by rw [hsz];omega) ⟨g1,g3⟩ (fun j v hj=>?_) (.inl (kG _)) (fun k _ hk=>Below.heap_alloc _ _ _ hk) (fun k n h=>y5c h) (by simp) rfl rfl rfl (.inr (kG _))
    simp only [yih,←hln,List.take_length,List.drop_length,List.append_nil] at hj
    have hj':((l.map tv)++(x.map tv))[j]?=some (tv v):=by
     rw [←List.map_append];exact ygf hj
    have hjl:=(List.getElem?_eq_some_iff.1 hj').1
    rw [Nat.zero_add,kH,Array.getElem?_append_left (by simpa using hjl)]
    simp only [List.getElem?_toArray,hj',Option.getD_some]
   ·have hlt:i<n:=by omega
    obtain rfl:=ha (by omega)
    refine (yo1 (κ.pl id l.length).1 ((κ.pl id l.length).2+0) n cap i (κ.pl idv 2).1 ((κ.pl idv 2).2+0) 1 vcap (l.map tv) (x.map tv) κ.w hlt (by omega) (by omega) (by omega) (by omega) hil hvl (by simpa using hcs) hvs (yjl hL) h1v).mono ?_
    rintro e w' ⟨rfl,rfl⟩
    obtain ⟨ROW,hROW⟩:∃ROW,ROW=(((l.map tv).take (i*2)).toArray++Builtin.zeroCells (Value.cells (.agg #[.int .i64 0,.int .u64 0])) (n+1-i)++Builtin.zeroCells (Value.cells (.agg #[.int .i64 0,.int .u64 0])) (grownCap κ.w (n+1) cap 149-(n+1))):=⟨_,rfl⟩
    have hti:((l.map tv).take (i*2)).length=i*2:=by rw [List.length_take,hil];omega
    have hsz:ROW.size=grownCap κ.w (n+1) cap 149*2:=by
     rw [hROW,Array.size_append,Array.size_append,y8d,y8d,List.size_toArray,hti];omega
    have hrow:∀j v,j<i*2→(l.map tv)[j]?=some v→ROW.getD j undef=v:=fun j v h1 h2=>by
     rw [hROW,kH,Array.append_assoc,Array.getElem?_append_left (by rw [List.size_toArray,hti];exact h1),List.getElem?_toArray,kj,if_pos h1,h2];rfl
    rw [←hROW]
    have q0:∀W:World,(W.alloc (.cells ROW 149)).drew.heap[W.heap.size]?=some (.cells ROW 149 (0,0)):=fun W=>y23 _ _
    obtain ⟨arr1,s1,s2,s3,s4,s5,s6,s7,s8,s9,s10⟩:=y44 κ.w.heap.size 149 (0,0) (x.map tv) (i*2) _ _ (q0 κ.w) (by rw [hsz,hvl];omega)
    obtain ⟨arr2,v1,v2,v3,v4,v5,v6,v7,v8,v9,v10⟩:=y44 κ.w.heap.size 149 (0,0) ((l.map tv).drop (i*2)) ((i+1)*2) arr1 _ (show ((((κ.w.alloc _).drew.setCells κ.w.heap.size (i*2) (x.map tv)).drew).heap[κ.w.heap.size]?)=_ from s1) (by rw [s2,hsz,List.length_drop,hil];omega)
    refine hkn _ _ _ _ arr2 149 (0,0) v1 (by rw [v2,s2,hsz];omega) ⟨g1,g3⟩ (fun j v hj=>?_) (.inl (kG _)) (fun k hk hlt'=>?_) (fun k n h=>?_) ?_ (v8.trans s8) (v9.trans s9) (v10.trans s10) (.inr (kG _))
    ·have htl:(l.take (i*2)).length=i*2:=by simp;omega
     simp only [yih] at hj
     rw [Nat.zero_add]
     by_cases hj1:j<i*2
     ·rw [kR (by omega),kj,if_pos hj1] at hj
      rw [v3 _ (by omega),s3 _ (by omega)]
      exact hrow j _ hj1 (ygf hj)
     ·rw [kX (by omega),htl] at hj
      by_cases hj2:j<i*2+2
      ·rw [kR (by omega)] at hj
       rw [v3 _ (by omega)]
       have:=s4 (j-i*2) (by rw [hvl];omega)
       rw [show i*2+(j-i*2)=j by omega] at this
       rw [this,kQ,ygf hj];rfl
      ·rw [kX (by omega),hxl,List.getElem?_drop] at hj
       have hjl:=(List.getElem?_eq_some_iff.1 hj).1
       have:=v4 (j-i*2-2) (by rw [List.length_drop,hil];omega)
       rw [show (i+1)*2+(j-i*2-2)=j by omega] at this
       rw [this,kQ,List.getElem?_drop,ygf hj];rfl
    ·have hne':k≠κ.w.heap.size:=by omega
     exact (v5 k hne').trans ((s5 k hne').trans (Below.heap_alloc _ _ _ hlt'))
    ·rw [v6]
     show y2q ((κ.w.alloc _).drew.setCells κ.w.heap.size (i*2) (x.map tv)) k=some n
     rw [s6]
     exact y5c h
    ·rw [v7]
     show κ.w.heap.size≤((κ.w.alloc _).drew.setCells κ.w.heap.size (i*2) (x.map tv)).heap.size
     rw [s7];simp
theorem InsB0_ok (x:List V) (idv mv z:Nat) (hX:AllI x) (hxl:x.length=2) (H:Hp) (hv:H.get idv=some (.cells x mv)):
  AC Tryz.prog y3l [.sl none 0 z,.i .i64 ((0:Nat):Int),.st 149 (some (idv,0,2)) 1 2] H (fun v H'=>v=.sl (some (H.next,0,2)) 1 2∧H'=H.add (.cells x 2)):=by
 refine ⟨by kernel_rfl,fun κ cs S r=>?_⟩
 obtain ⟨hlen,hr⟩:=r
 match cs,hlen with
 | [c0,c1,c2],_=>
  have r0:VR κ _ c0:=hr 0 _ rfl
  have r1:VR κ _ c1:=hr 1 _ rfl
  have r2:VR κ _ c2:=hr 2 _ rfl
  obtain rfl:=yja r1
  have hvm:mv≤2:=by have:=S.le idv _ mv hv;omega
  obtain ⟨arv,tv0,frv,u1,u2,u3,u4,u5⟩:=yff S hX hv
  rw [hxl] at u1 u2 u3 u5
  cases r2 with
  | st _ _ _ _ _ r2 _=>
  cases r2 with
  | sl _ _ _ _ _ vcap vn va vok vz vlc vlo vhi vnc vroom vaddr=>
  obtain rfl:=vaddr (by omega)
  cases r0 with
  | sl0 _ a=>
  have hvs:∀(j:Nat) v,(x.map tv)[j]?=some v→κ.w.cell? ⟨(κ.pl idv 2).1,(κ.pl idv 2).2+0+j,none⟩=some v:=fun j v hj=>by
   simp only [List.getElem?_map,kd] at hj
   obtain ⟨u,hu,rfl⟩:=hj
   have:=(List.getElem?_eq_some_iff.1 hu).1
   rw [Nat.add_zero,y6h u1 (by omega),u3 j u hu]
  have hvl:(x.map tv).length=1*2:=by simp [hxl]
  refine (yby a 0 0 (κ.pl idv 2).1 ((κ.pl idv 2).2+0) 1 vcap [] (x.map tv) κ.w (by omega) (by omega) (by omega) (by omega) rfl hvl (fun _=>rfl) (fun a' _ j v hj=>by simp at hj) hvs (yjl hX)).mono ?_
  rintro e w' ⟨rfl,rfl⟩
  have g1:=grownCap_ge κ.w (0+1) 0 149
  have g2:=grownCap_le_maxLen κ.w (0+1) 0 149 (by unfold maxLen;omega)
  have g3:grownCap κ.w (0+1) 0 149≤9223372036854775807:=g2
  obtain ⟨ROW,hROW⟩:∃ROW,ROW=(([]++x.map tv).toArray++Builtin.zeroCells (Value.cells (.agg #[.int .i64 0,.int .u64 0])) (grownCap κ.w (0+1) 0 149-(0+1))):=⟨_,rfl⟩
  rw [←hROW]
  have hsz:ROW.size=grownCap κ.w (0+1) 0 149*2:=by
   rw [hROW,Array.size_append,y8d,List.size_toArray,List.nil_append,hvl];omega
  have hrow:∀j v,x[j]?=some v→ROW.getD (0+j) undef=tv v:=fun j v h=>by
   have hjl:=(List.getElem?_eq_some_iff.1 h).1
   rw [hROW,show 0+j=j by omega,kH,Array.getElem?_append_left (by simp;omega),List.getElem?_toArray,List.nil_append,ygf h];rfl
  have hb:RowKit.Below κ.w.heap.size κ.w (κ.w.drew.alloc (.cells ROW 149)):=(Below.refl _ _).drew.alloc (kG _) _
  have S2:=S.below hb
  have le:=K.below_le S hb
  obtain ⟨κ',e1,le2,S3,e2,e3⟩:=Sim.adopt S2 (b:=κ.w.heap.size) (o:=0) (ds:=x) (y23 _ _) (by rw [hsz];omega) (fun j v hj=>by
   obtain ⟨k,n,hk⟩:=hX v (kY hj)
   subst hk
   rw [hrow j _ hj];exact .i _ _) (.inl (kG _)) (fun hf=>by have:=S.fz _ hf;omega) (fun k cs m e hg h1 h2 hp=>by
    obtain ⟨⟨a0,t1,f1,q1,_⟩,_⟩:=S.cells k cs m hg e h1 h2
    have:=lt_of_some q1
    have hp':(κ.pl k e).1=κ.w.heap.size:=hp
    omega)
  rw [hxl] at S3 e2 e3
  have e2':κ'.pl H.next 2=(κ.w.heap.size,0):=e2
  refine ⟨κ',_,_,_,rfl,e1,le.trans le2,S3,?_,rfl,rfl⟩
  refine .sl H.next 0 2 1 2 (grownCap κ.w (0+1) 0 149) (grownCap κ.w (0+1) 0 149*2,149) _ e3 (by omega) ⟨by omega,g3⟩ (by omega) (by omega) ?_ (by rw [e2'];simp) (fun _=>by rw [e2'])
  rw [e2',e1]
  have hself:(κ.w.drew.alloc (.cells ROW 149)).heap[κ.w.heap.size]?=_:=y23 κ.w.drew (.cells ROW 149)
  simp only [y2q]
  rw [hself]
  exact congrArg some (Prod.ext hsz rfl)
def yb8 (bs:List Bk) (a:Nat):Nat:=(bs.takeWhile fun x=>decide (x.1<a)).length
theorem yi6 (bs:List Bk) (a:Nat):yb8 bs a≤bs.length:=by
 unfold yb8
 have:=congrArg List.length (List.takeWhile_append_dropWhile (p:=fun x:Bk=>decide (x.1<a)) (l:=bs))
 rw [kT] at this;omega
theorem yfj {bs:List Bk} (h:OkB bs) (a:Nat) (j:Nat) (x:Bk) (hj:bs[j]?=some x):x.1<a↔j<yb8 bs a:=by
 induction bs generalizing j with
 | nil=>simp at hj
 | cons z r ih=>
  have hz:=(List.pairwise_cons.1 h.rise).1
  unfold yb8
  rw [List.takeWhile_cons]
  by_cases h1:z.1<a
  ·simp only [h1,decide_true,if_true,kO]
   cases j with
   | zero=>simp at hj;subst hj;simp [h1]
   | succ j=>
    simp at hj
    have:=ih h.tail j hj
    unfold yb8 at this
    rw [this];omega
  ·simp only [h1,decide_false]
   cases j with
   | zero=>simp at hj;subst hj;simpa using h1
   | succ j=>
    simp at hj
    have:=hz x (kY hj)
    simp;omega
theorem yha (x:Bk) (a:Nat) (hx:x.1≤4194304) (ha:a≤4194304) (H:Hp):AC Tryz.prog y5a [.agg (bkc x),.i .i64 (a:Nat)] H (fun v H'=>v=.i .i64 ((x.1:Int)-(a:Int))∧H'=H):=by
 refine AC.code y2u.at y2u.ok ?_
 simp only [y2u]
 apply jA
 simp [y2u.r0,bkc]
 apply jA
 have:Go.IntKind.i64.wrap ((x.1:Int)-(a:Int))=(x.1:Int)-(a:Int):=by rw [wrap_i64 (by omega) (by omega)]
 simp [y2u.r1,this]
 apply jD
 simp
def BsKInv (arr:V) (a:Nat) (len p:Nat) (H:Hp) (m:Nat) (F:Fr) (H':Hp):Prop:=
 ∃i j,i≤p∧p≤j∧j≤len∧m=j-i∧H'=H∧F=[(0,arr),(1,.i .i64 (a:Nat)),(2,.fn y5a []),(8,.i .i64 len),(9,.i .i64 i),(10,.i .i64 j)]
theorem BSFK_ok (v:V) (bs:List Bk) (a:Nat) (ha:a≤4194304) (H:Hp) (hr:RowB H v bs) (hb:OkB bs):
  AC Tryz.prog y2z [v,.i .i64 (a:Nat),.fn y5a []] H (fun r H'=>r=.tup [.i .i64 (yb8 bs a:Nat),.b (decide (∃x,bs[yb8 bs a]?=some x∧x.1=a))]∧H'=H):=by
 have hlen:=hb.len
 have hp:=yi6 bs a
 obtain ⟨pa,za,ev⟩:=hr.len
 refine AC.code y8.at y8.ok ?_
 simp only [y8]
 apply jA
 simp [y8.r0]
 refine AX.stp [(0,v),(1,.i .i64 (a:Nat)),(2,.fn y5a []),(8,.i .i64 bs.length)] ?_ ?_
 ·rw [ev];simp [y8.r1]
 apply jA
 simp [y8.r2]
 refine AX.seq (AX.pblock (AX.loop (BsKInv v a bs.length (yb8 bs a) H) bs.length ⟨_,_,.refl _ _,0,bs.length,by omega,hp,by omega,by omega,rfl,rfl⟩ ?_))
 rintro m' F H' ⟨i,j,hi,hj,hjl,rfl,rfl,rfl⟩
 simp only [y8.l0]
 apply jB
 simp [y8.r3]
 refine AX.pcond rfl (fun hb=>AX.skip ?_) (fun hb=>AX.exit ?_)
 ·simp at hb
  simp
  refine AX.pblock (jA ?_)
  obtain ⟨e,he⟩:∃e,e=(i+j) / 2:=⟨_,rfl⟩
  have hh:=half i j (by omega)
  rw [←he] at hh
  simp [y8.r4,hh]
  have hel:e<bs.length:=by omega
  obtain ⟨x,hx⟩:∃x,bs[e]?=some x:=⟨_,kC hel⟩
  have hxb:=(by assumption:OkB bs).bit x (kY hx)
  obtain ⟨id,off,m,cs,rfl,g,hm,hl2,ht2,_⟩:=hr.at hx
  apply jA
  simp [y8.r5,hel,g,hm,hl2,ht2]
  refine AC.fix (yha x a hxb.2.2 ha _) ?_
  have hlt:=yfj (by assumption:OkB bs) a e x hx
  simp
  refine AX.pcond rfl (fun h=>AX.reg ?_) (fun h=>AX.reg ?_)
  ·simp at h
   have:=hlt.1 (by omega)
   simp [y8.r6,ybz (show e≤9223372036854775000 by omega)]
   exact ⟨j-(e+1),by omega,_,_,.refl _ _,e+1,j,by omega,hj,hjl,rfl,rfl,by simp⟩
  ·simp at h
   have:¬e<yb8 bs a:=fun hh=>by have:=hlt.2 hh;omega
   simp [y8.r7]
   exact ⟨e-i,by omega,_,_,.refl _ _,i,e,hi,by omega,by omega,rfl,rfl,rfl⟩
 simp at hb
 have e1:i=yb8 bs a:=by omega
 subst e1
 simp
 by_cases hlt:yb8 bs a<bs.length
 ·obtain ⟨x,hx⟩:∃x,bs[yb8 bs a]?=some x:=⟨_,kC hlt⟩
  have hxb:=(by assumption:OkB bs).bit x (kY hx)
  obtain ⟨id,off,m,cs,rfl,g,hm,hl2,ht2,_⟩:=hr.at hx
  apply jA
  simp [y8.r8,hlt,g,hm,hl2,ht2]
  refine AC.fix (yha x a hxb.2.2 ha _) ?_
  simp [hlt]
  apply jD
  have e2:bs[yb8 bs a]=x:=(List.getElem?_eq_some_iff.1 hx).2
  simp [e2]
  omega
 ·have hn:bs[yb8 bs a]?=none:=List.getElem?_eq_none (by omega)
  apply jA
  simp [y8.r8,hlt]
  apply jD
  simp [hn]
theorem BFind_ok (id off m:Nat) (cs:List V) (v:V) (bs:List Bk) (a:Nat) (ha:a≤4194304) (H:Hp) (hg:H.get id=some (.cells cs m)) (hm:m≤cs.length) (hv:cs[off]?=some v) (hr:RowB H v bs) (hb:OkB bs):
  AC Tryz.prog y8h [.p (some (id,off,cs.length)),.i .i64 (a:Nat)] H (fun r H'=>r=.tup [.i .i64 (yb8 bs a:Nat),.b (decide (∃x,bs[yb8 bs a]?=some x∧x.1=a))]∧H'=H):=by
 have hl:=(List.getElem?_eq_some_iff.1 hv).1
 refine AC.code y39.at y39.ok ?_
 simp only [y39]
 apply jA
 simp [y39.r0]
 apply jA
 simp [y39.r1,hg,hm,y53 hv,show off+1≤cs.length by omega]
 refine AC.fix (BSFK_ok v bs a ha H hr hb) ?_
 simp
 apply jD
 simp
end Go.Proofs.YtikpijbeobeckaaGreatDoor
