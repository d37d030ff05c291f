/- Part 25. -/
import Derived.Test.YtikpijbeobeckaaGreatDoorXGw24
set_option linter.unusedSimpArgs false
set_option linter.unusedVariables false
namespace Go.Proofs.YtikpijbeobeckaaGreatDoor
open Am C
open Go Go.RowKit
def iv (l:List Nat):List Value:=l.map fun n=>Value.int .i64 (n:Nat)
theorem one_iv (l:List Nat):∀v∈iv l,v.oneCell'=true:=fun v hv=>by
 obtain ⟨n,_,rfl⟩:=List.mem_map.1 hv;rfl
theorem nc_at {l:List Nat} {j:Nat} {v:V} (h:(nc l)[j]?=some v):∃n,l[j]?=some n∧v=.i .i64 (n:Nat):=by
 simp only [nc,List.getElem?_map,kd] at h
 obtain ⟨n,h1,h2⟩:=h;exact ⟨n,h1,h2.symm⟩
theorem iv_at {l:List Nat} {j:Nat} {n:Nat} (h:l[j]?=some n):(iv l)[j]?=some (.int .i64 (n:Nat)):=by simp [iv,h]
theorem row_nums {κ:K} {H:Hp} (S:Sim κ H) {id m:Nat} {l:List Nat} (hg:H.get id=some (.cells (nc l) m)):∃arr t fr,κ.w.heap[(κ.pl id l.length).1]?=some (.cells arr t fr)∧(κ.pl id l.length).2+l.length≤arr.size∧
  (∀(j:Nat) n,l[j]?=some n→arr.getD ((κ.pl id l.length).2+j) undef=.int .i64 (n:Nat))∧(fr.2≤fr.1∨(arr.size≤fr.1∧t=5))∧¬κ.fz (κ.pl id l.length).1:=by
 have e:(nc l).length=l.length:=by simp [nc]
 have hm:=S.le id _ m hg
 rw [e] at hm
 obtain ⟨⟨arr,t,fr,h1,h2,h3,h4⟩,h5⟩:=S.cells id _ m hg l.length hm (by omega)
 exact ⟨arr,t,fr,h1,h2,fun j n hj=>by
  have hjl:=(List.getElem?_eq_some_iff.1 hj).1
  have:=h3 j (.i .i64 (n:Nat)) hjl (by simp [nc,hj])
  exact yja this,h4,h5⟩
theorem y6h {w:World} {b q:Nat} {arr:Array Value} {t:TypeId} {fr:Nat × Nat} (h:w.heap[b]?=some (.cells arr t fr)) (hq:q<arr.size):w.cell? ⟨b,q,none⟩=some (arr.getD q undef):=by
 simp [World.cell?,h,kH,hq]
theorem y8c {w:World} {b q:Nat} {arr:Array Value} {t:TypeId} {fr:Nat × Nat} (h:w.heap[b]?=some (.cells arr t fr)) (hf:fr.2≤fr.1∨(arr.size≤fr.1∧t=5)) (hq:q<arr.size):w.frozen? ⟨b,q,none⟩=false:=by
 simp only [World.frozen?,h]
 rcases hf with hf | hf
 ·simp;omega
 ·simp;omega
set_option maxHeartbeats 1000000 in
theorem yq5 (l:List Nat) (i x id idv m mv:Nat) (hne:idv≠id) (hi:i≤l.length) (hl:l.length≤1000000000) (H:Hp) (hg:H.get id=some (.cells (nc l) m)) (hv:H.get idv=some (.cells [.i .i64 (x:Nat)] mv)):
  AC Tryz.prog 220 [.sl (some (id,0,l.length)) l.length 1,.i .i64 (i:Nat),.st 3 (some (idv,0,1)) 1 1] H (fun v H'=>v=.sl (some (H.next,0,l.length+1)) (l.length+1) 1∧H'=(H.del id).add (.cells (nc (yem l i x)) (l.length+1))):=by
 refine ⟨by kernel_rfl,fun κ cs S r=>?_⟩
 obtain ⟨hlen,hr⟩:=r
 match cs,hlen with
 | [c0,c1,c2],_=>
  have r0:VR κ _ c0:=hr 0 _ rfl
  have r1:VR κ _ c1:=hr 1 _ rfl
  have r2:VR κ _ c2:=hr 2 _ rfl
  obtain rfl:=yja r1
  have hgl:(nc l).length=l.length:=by simp [nc]
  obtain ⟨arr,t,fr,p1,p2,p3,p4,p5⟩:=row_nums S hg
  have hvm:mv≤1:=S.le idv _ mv hv
  obtain ⟨⟨arv,tv,frv,u1,u2,u3,u4⟩,u5⟩:=S.cells idv _ mv hv 1 hvm (by simp)
  have hx:arv.getD (κ.pl idv 1).2 undef=.int .i64 (x:Nat):=yja (u3 0 _ (by omega) rfl)
  have hbb:(κ.pl idv 1).1≠(κ.pl id l.length).1:=fun h=>hne (S.sep idv id 1 l.length _ mv _ m hv hg hvm (by simp) (by have:=S.le id _ m hg;omega) (by omega) h)
  cases r2 with
  | st _ _ _ _ _ r2 hty=>
  obtain ⟨hn3,hty,_⟩:=hty
  have htv:tv=3:=by
   simp only [y2q,u1] at hty
   injection hty with hty;injection hty
  cases r2 with
  | sl _ _ _ _ _ vcap vn va vok vz vlc vlo vhi vnc vroom vaddr=>
  obtain rfl:=vaddr (by omega)
  cases r0 with
  | sl _ _ _ _ _ cap nn a ok hz hlc hlo hhi hnc hroom ha=>
  have hnn:nn.1=arr.size:=by simp only [y2q,p1] at hnc;injection hnc with hnc;rw [←hnc]
  have hvs:∀(j:Nat) v,[Value.int .i64 (x:Nat)][j]?=some v→κ.w.cell? ⟨(κ.pl idv 1).1,(κ.pl idv 1).2+0+j,none⟩=some v:=fun j v hj=>by
   cases j with
   | zero=>
    simp at hj;subst hj
    rw [show (κ.pl idv 1).2+0+0=(κ.pl idv 1).2 by omega,y6h u1 (by omega),hx]
   | succ j=>simp at hj
  have h1v:∀v∈[Value.int .i64 (x:Nat)],v.oneCell'=true:=fun v hv=>by simp at hv;subst hv;rfl
  have hil:(iv l).length=l.length:=by simp [iv]
  have hcs:∀(j:Nat) v,(iv l)[j]?=some v→κ.w.cell? ⟨(κ.pl id l.length).1,(κ.pl id l.length).2+j,none⟩=some v:=fun j v hj=>by
   simp only [iv,List.getElem?_map,kd] at hj
   obtain ⟨n,hn,rfl⟩:=hj
   have hjl:=(List.getElem?_eq_some_iff.1 hn).1
   rw [y6h p1 (by omega),p3 j n hn]
  have hdl:(nc (yem l i x)).length=l.length+1:=by simp [nc,yfu hi]
  have hkn:∀(w':World) (b' o' cap':Nat) (arr':Array Value) (t':TypeId) (fr':Nat × Nat),w'.heap[b']?=some (.cells arr' t' fr')→o'+cap'≤arr'.size→l.length+1≤cap'∧cap'≤9223372036854775807→
    (∀(j:Nat) n,(yem l i x)[j]?=some n→arr'.getD (o'+j) undef=.int .i64 (n:Nat))→(fr'.2≤fr'.1∨(arr'.size≤fr'.1∧t'=5))→
    (∀k,k≠(κ.pl id l.length).1→k<κ.w.heap.size→w'.heap[k]?=κ.w.heap[k]?)→(∀k n,y2q κ.w k=some n→y2q w' k=some n)→κ.w.heap.size≤w'.heap.size→
    w'.os=κ.w.os→w'.tape=κ.w.tape→w'.output=κ.w.output→(b'=(κ.pl id l.length).1∨κ.w.heap.size≤b')→
    ∃κ' v cv H',Ending.returned (.slice (some ⟨b',o',none⟩) (l.length+1) cap')=Ending.returned cv∧κ'.w=w'∧κ.Le κ'∧Sim κ' H'∧VR κ' v cv∧v=.sl (some (H.next,0,l.length+1)) (l.length+1) 1∧H'=(H.del id).add (.cells (nc (yem l i x)) (l.length+1)):=by
   intro w' b' o' cap' arr' t' fr' q1 q2 q3 q4 q5 q6 q7 q8 q9 q10 q11 q12
   obtain ⟨κ',e1,e2,e3,e4⟩:=ins_fin S hg (ds:=nc (yem l i x)) (cap:=cap') q1 q2 (by omega) (fun j v hj=>by
    obtain ⟨n,hn,rfl⟩:=nc_at hj
    exact ⟨_,_,rfl,q4 j n hn⟩) q5 (by rw [hgl];exact q6) q7 q8 q9 q10 q11 (by rw [hgl];exact q12)
   rw [hdl] at e3 e4
   exact ⟨κ',_,_,_,rfl,e1,e2,e3,e4,rfl,rfl⟩
  by_cases hroomy:l.length+1≤cap
  ·obtain rfl:=ha (by omega)
   simp only [Nat.add_zero] at hroom ⊢
   have hsome:∀q,q<arr.size→(κ.w.cell? ⟨(κ.pl id l.length).1,q,none⟩).isSome=true:=fun q hq=>by rw [y6h p1 hq];rfl
   have hfro:∀q,q<arr.size→κ.w.frozen? ⟨(κ.pl id l.length).1,q,none⟩=false:=fun q hq=>y8c p1 p4 hq
   by_cases hend:i=l.length
   ·subst hend
    refine (Any2.slices_Insert_int_end_room Tryz.laysNm221 (κ.pl id l.length).1 (κ.pl id l.length).2 l.length cap (κ.pl idv 1).1 ((κ.pl idv 1).2+0) 1 vcap [.int .i64 (x:Nat)] κ.w (by omega) (by omega) (by omega) rfl (fun j hj=>hsome _ (by omega)) (fun j hj=>hfro _ (by omega)) hvs h1v).mono ?_
    rintro e w' ⟨rfl,rfl⟩
    obtain ⟨arr',s1,s2,s3,s4,s5,s6,s7,s8,s9,s10⟩:=y44 (κ.pl id l.length).1 t fr [.int .i64 (x:Nat)] ((κ.pl id l.length).2+l.length) arr κ.w p1 (by simp;omega)
    refine hkn _ _ _ _ arr' t fr s1 (by omega) (by omega) (fun j n hj=>?_) (by rw [s2];exact p4) (fun k hk _=>s5 k hk) (fun k n h=>by rw [s6];exact h) (by omega) s8 s9 s10 (.inl rfl)
    simp only [yem,List.take_length,List.drop_length] at hj
    by_cases hjl:j<l.length
    ·rw [kR hjl] at hj
     rw [s3 _ (by omega)];exact p3 j n hj
    ·rw [kX (by omega)] at hj
     have:j=l.length:=by
      have:=(List.getElem?_eq_some_iff.1 hj).1
      simp at this;omega
     subst this
     simp at hj;subst hj
     have:=s4 0 (by simp)
     simpa using this
   ·have hlt:i<l.length:=by omega
    have hsh:κ.w.shape? (κ.pl id l.length).1=some (t,arr.size):=by simp [World.shape?,p1]
    have hsv:κ.w.shape? (κ.pl idv 1).1=some (tv,arv.size):=by simp [World.shape?,u1]
    refine (Any2.slices_Insert_int_shift Tryz.laysNm221 (κ.pl id l.length).1 (κ.pl id l.length).2 l.length cap i (κ.pl idv 1).1 ((κ.pl idv 1).2+0) 1 vcap (iv l) [.int .i64 (x:Nat)] κ.w hlt (by omega) (by omega) (by omega) hbb hil rfl hcs (fun j hj=>hsome _ (by omega)) (fun j hj=>hfro _ (by omega)) hvs (one_iv l) h1v tv t arv.size arr.size hsv hsh (by omega) (y8c u1 u4 (by omega)) ?_).mono ?_
    ·simp only [World.frozen?,u1]
     rcases u4 with hf | hf
     ·simp;omega
     ·exact absurd (hf.2.symm.trans htv) (by decide)
    rintro e w' ⟨rfl,rfl⟩
    have p1d:κ.w.drew.heap[(κ.pl id l.length).1]?=some (.cells arr t fr):=p1
    obtain ⟨arr1,s1,s2,s3,s4,s5,s6,s7,s8,s9,s10⟩:=y44 (κ.pl id l.length).1 t fr ((iv l).drop i) ((κ.pl id l.length).2+(i+1)) arr κ.w.drew p1d (by simp [hil];omega)
    obtain ⟨arr2,v1,v2,v3,v4,v5,v6,v7,v8,v9,v10⟩:=y44 (κ.pl id l.length).1 t fr [.int .i64 (x:Nat)] ((κ.pl id l.length).2+i) arr1 _ s1 (by simp;omega)
    refine hkn _ _ _ _ arr2 t fr v1 (by omega) (by omega) (fun j n hj=>?_) (by rw [v2,s2];exact p4) (fun k hk _=>(v5 k hk).trans (s5 k hk)) (fun k n h=>by rw [v6,s6];exact h) (by rw [v7,s7];exact kG _) (v8.trans s8) (v9.trans s9) (v10.trans s10) (.inl rfl)
    have hti:(l.take i).length=i:=by simp;omega
    simp only [yem] at hj
    by_cases hj1:j<i
    ·rw [kR (by omega),kj,if_pos hj1] at hj
     rw [v3 _ (by omega),s3 _ (by omega)];exact p3 j n hj
    ·rw [kX (by omega),hti] at hj
     by_cases hj2:j=i
     ·subst hj2
      simp at hj;subst hj
      have:=v4 0 (by simp)
      simpa using this
     ·rw [show j-i=(j-i-1)+1 by omega,List.getElem?_cons_succ,List.getElem?_drop] at hj
      have hjl:=(List.getElem?_eq_some_iff.1 hj).1
      rw [v3 _ (by simp;omega)]
      have:=s4 (j-i-1) (by simp [hil];omega)
      rw [show (κ.pl id l.length).2+(i+1)+(j-i-1)=(κ.pl id l.length).2+j by omega] at this
      rw [this,kQ,List.getElem?_drop,iv_at hj];rfl
  ·have hcap:cap=l.length:=by omega
   have g1:=grownCap_ge κ.w (l.length+1) cap (Tryz.laysNm221_ren.t 3)
   have g2:=grownCap_le_maxLen κ.w (l.length+1) cap (Tryz.laysNm221_ren.t 3) (by unfold maxLen;omega)
   have g3:grownCap κ.w (l.length+1) cap (Tryz.laysNm221_ren.t 3)≤9223372036854775807:=g2
   have hz1:∀k,(Builtin.zeroCells (Value.int .i64 0).cells k).size=k:=fun k=>by rw [y7o];simp [Value.cells]
   by_cases hend:i=l.length
   ·subst hend
    refine (Any2.slices_Insert_int_end_grow Tryz.laysNm221 (some a) l.length cap (κ.pl idv 1).1 ((κ.pl idv 1).2+0) 1 vcap (iv l) [.int .i64 (x:Nat)] κ.w (by omega) (by omega) (by omega) (by omega) hil rfl (fun h=>by cases h) (fun a' ha' j v hj=>?_) hvs h1v).mono ?_
    ·injection ha' with ha';subst ha'
     have hjl:=(List.getElem?_eq_some_iff.1 hj).1
     obtain rfl:=ha (by omega)
     have:=hcs j v hj
     rw [y4h];simpa using this
    rintro e w' ⟨rfl,rfl⟩
    have hsz:((iv l++[Value.int .i64 (x:Nat)]).toArray++Builtin.zeroCells (Value.int .i64 0).cells (grownCap κ.w (l.length+1) cap (Tryz.laysNm221_ren.t 3)-(l.length+1))).size=grownCap κ.w (l.length+1) cap (Tryz.laysNm221_ren.t 3):=by
     rw [Array.size_append,hz1];simp [hil];omega
    refine hkn _ _ _ _ _ (Tryz.laysNm221_ren.t 3) (0,0) (y23 _ _) (by rw [hsz];omega) ⟨g1,g3⟩ (fun j n hj=>?_) (.inl (kG _)) (fun k _ hk=>Below.heap_alloc _ _ _ hk) (fun k n h=>y5c h) (by simp) rfl rfl rfl (.inr (kG _))
    simp only [yem,List.take_length,List.drop_length] at hj
    have hj':(iv l++[Value.int .i64 (x:Nat)])[j]?=some (.int .i64 (n:Nat)):=by
     have:=iv_at hj
     simpa [iv] using this
    have hjl:=(List.getElem?_eq_some_iff.1 hj').1
    rw [Nat.zero_add,kH,Array.getElem?_append_left (by simpa using hjl)]
    simp only [List.getElem?_toArray,hj',Option.getD_some]
   ·have hlt:i<l.length:=by omega
    obtain rfl:=ha (by omega)
    refine (Any2.slices_Insert_int_grow Tryz.laysNm221 (κ.pl id l.length).1 ((κ.pl id l.length).2+0) l.length cap i (κ.pl idv 1).1 ((κ.pl idv 1).2+0) 1 vcap (iv l) [.int .i64 (x:Nat)] κ.w hlt (by omega) (by omega) (by omega) (by omega) hil rfl (by simpa using hcs) hvs (one_iv l) h1v).mono ?_
    rintro e w' ⟨rfl,rfl⟩
    have hti:((iv l).take i).length=i:=by simp [hil];omega
    have hsz:(((iv l).take i).toArray++Builtin.zeroCells (Value.int .i64 0).cells (l.length+1-i)++Builtin.zeroCells (Value.int .i64 0).cells (grownCap κ.w (l.length+1) cap (Tryz.laysNm221_ren.t 3)-(l.length+1))).size=grownCap κ.w (l.length+1) cap (Tryz.laysNm221_ren.t 3):=by
     rw [Array.size_append,Array.size_append,hz1,hz1];simp [hil];omega
    have q0:∀W:World,(W.alloc (.cells (((iv l).take i).toArray++Builtin.zeroCells (Value.int .i64 0).cells (l.length+1-i)++Builtin.zeroCells (Value.int .i64 0).cells (grownCap κ.w (l.length+1) cap (Tryz.laysNm221_ren.t 3)-(l.length+1))) (Tryz.laysNm221_ren.t 3))).drew.heap[W.heap.size]?=some (.cells (((iv l).take i).toArray++Builtin.zeroCells (Value.int .i64 0).cells (l.length+1-i)++Builtin.zeroCells (Value.int .i64 0).cells (grownCap κ.w (l.length+1) cap (Tryz.laysNm221_ren.t 3)-(l.length+1))) (Tryz.laysNm221_ren.t 3) (0,0)):=fun W=>y23 _ _
    obtain ⟨arr1,s1,s2,s3,s4,s5,s6,s7,s8,s9,s10⟩:=y44 κ.w.heap.size (Tryz.laysNm221_ren.t 3) (0,0) [.int .i64 (x:Nat)] i _ _ (q0 κ.w) (by rw [hsz];simp;omega)
    obtain ⟨arr2,v1,v2,v3,v4,v5,v6,v7,v8,v9,v10⟩:=y44 κ.w.heap.size (Tryz.laysNm221_ren.t 3) (0,0) ((iv l).drop i) (i+1) arr1 _ (show ((((κ.w.alloc _).drew.setCells κ.w.heap.size i [.int .i64 (x:Nat)]).drew).heap[κ.w.heap.size]?)=_ from s1) (by rw [s2,hsz];simp [hil];omega)
    refine hkn _ _ _ _ arr2 (Tryz.laysNm221_ren.t 3) (0,0) v1 (by rw [v2,s2,hsz];omega) ⟨g1,g3⟩ (fun j n hj=>?_) (.inl (kG _)) (fun k hk hlt'=>?_) (fun k n h=>?_) ?_ (v8.trans s8) (v9.trans s9) (v10.trans s10) (.inr (kG _))
    ·have htl:(l.take i).length=i:=by simp;omega
     simp only [yem] at hj
     rw [Nat.zero_add]
     by_cases hj1:j<i
     ·rw [kR (by omega)] at hj
      rw [v3 _ (by omega),s3 _ (by omega)]
      have hj':((iv l).take i)[j]?=some (.int .i64 (n:Nat)):=by
       rw [kj,if_pos hj1] at hj ⊢;exact iv_at hj
      rw [kH,Array.append_assoc,Array.getElem?_append_left (by simpa [hil] using (by omega:j<min i l.length))]
      simp only [List.getElem?_toArray,hj',Option.getD_some]
     ·rw [kX (by omega),htl] at hj
      by_cases hj2:j=i
      ·subst hj2
       simp at hj;subst hj
       rw [v3 _ (by omega)]
       have:=s4 0 (by simp)
       simpa using this
      ·rw [show j-i=(j-i-1)+1 by omega,List.getElem?_cons_succ,List.getElem?_drop] at hj
       have hjl:=(List.getElem?_eq_some_iff.1 hj).1
       have:=v4 (j-i-1) (by simp [hil];omega)
       rw [show i+1+(j-i-1)=j by omega] at this
       rw [this,kQ,List.getElem?_drop,iv_at hj];rfl
    ·have hne':k≠κ.w.heap.size:=by omega
     exact (v5 k hne').trans ((s5 k hne').trans (Below.heap_alloc _ _ _ hlt'))
    ·rw [v6]
     show y2q ((κ.w.alloc _).drew.setCells κ.w.heap.size i [.int .i64 (x:Nat)]) k=some n
     rw [s6]
     exact y5c h
    ·rw [v7]
     show κ.w.heap.size≤((κ.w.alloc _).drew.setCells κ.w.heap.size i [.int .i64 (x:Nat)]).heap.size
     rw [s7];simp
theorem ylp (x idv mv z:Nat) (H:Hp) (hv:H.get idv=some (.cells [.i .i64 (x:Nat)] mv)):
  AC Tryz.prog 220 [.sl none 0 z,.i .i64 ((0:Nat):Int),.st 3 (some (idv,0,1)) 1 1] H (fun v H'=>v=.sl (some (H.next,0,1)) 1 1∧H'=H.add (.cells (nc [x]) 1)):=by
 refine ⟨by kernel_rfl,fun κ cs S r=>?_⟩
 obtain ⟨hlen,hr⟩:=r
 match cs,hlen with
 | [c0,c1,c2],_=>
  have r0:VR κ _ c0:=hr 0 _ rfl
  have r1:VR κ _ c1:=hr 1 _ rfl
  have r2:VR κ _ c2:=hr 2 _ rfl
  obtain rfl:=yja r1
  have hvm:mv≤1:=S.le idv _ mv hv
  obtain ⟨⟨arv,tv,frv,u1,u2,u3,u4⟩,u5⟩:=S.cells idv _ mv hv 1 hvm (by simp)
  have hx:arv.getD (κ.pl idv 1).2 undef=.int .i64 (x:Nat):=yja (u3 0 _ (by omega) rfl)
  cases r2 with
  | st _ _ _ _ _ r2 _=>
  cases r2 with
  | sl _ _ _ _ _ vcap vn va vok vz vlc vlo vhi vnc vroom vaddr=>
  obtain rfl:=vaddr (by omega)
  cases r0 with
  | sl0 _ a=>
  have hvs:∀(j:Nat) v,[Value.int .i64 (x:Nat)][j]?=some v→κ.w.cell? ⟨(κ.pl idv 1).1,(κ.pl idv 1).2+0+j,none⟩=some v:=fun j v hj=>by
   cases j with
   | zero=>
    simp at hj;subst hj
    rw [show (κ.pl idv 1).2+0+0=(κ.pl idv 1).2 by omega,y6h u1 (by omega),hx]
   | succ j=>simp at hj
  have h1v:∀v∈[Value.int .i64 (x:Nat)],v.oneCell'=true:=fun v hv=>by simp at hv;subst hv;rfl
  refine (Any2.slices_Insert_int_end_grow Tryz.laysNm221 a 0 0 (κ.pl idv 1).1 ((κ.pl idv 1).2+0) 1 vcap [] [.int .i64 (x:Nat)] κ.w (by omega) (by omega) (by omega) (by omega) rfl rfl (fun _=>rfl) (fun a' _ j v hj=>by simp at hj) hvs h1v).mono ?_
  rintro e w' ⟨rfl,rfl⟩
  have g1:=grownCap_ge κ.w (0+1) 0 (Tryz.laysNm221_ren.t 3)
  have g2:=grownCap_le_maxLen κ.w (0+1) 0 (Tryz.laysNm221_ren.t 3) (by unfold maxLen;omega)
  have g3:grownCap κ.w (0+1) 0 (Tryz.laysNm221_ren.t 3)≤9223372036854775807:=g2
  have hz1:∀k,(Builtin.zeroCells (Value.int .i64 0).cells k).size=k:=fun k=>by rw [y7o];simp [Value.cells]
  have hsz:(([]++[Value.int .i64 (x:Nat)]).toArray++Builtin.zeroCells (Value.int .i64 0).cells (grownCap κ.w (0+1) 0 (Tryz.laysNm221_ren.t 3)-(0+1))).size=grownCap κ.w (0+1) 0 (Tryz.laysNm221_ren.t 3):=by
   rw [Array.size_append,hz1];show 1+(_-(0+1))=_;omega
  have hb:RowKit.Below κ.w.heap.size κ.w (κ.w.drew.alloc (.cells (([]++[Value.int .i64 (x:Nat)]).toArray++Builtin.zeroCells (Value.int .i64 0).cells (grownCap κ.w (0+1) 0 (Tryz.laysNm221_ren.t 3)-(0+1))) (Tryz.laysNm221_ren.t 3))):=(Below.refl _ _).drew.alloc (kG _) _
  have S2:=S.below hb
  have le:=K.below_le S hb
  obtain ⟨κ',e1,le2,S3,e2,e3⟩:=Sim.adopt S2 (b:=κ.w.heap.size) (o:=0) (ds:=nc [x]) (y23 _ _) (by rw [hsz];simp [nc];omega) (fun j v hj=>by
   obtain ⟨n,hn,rfl⟩:=nc_at hj
   have:j=0:=by have:=(List.getElem?_eq_some_iff.1 hn).1;simpa using this
   subst this
   simp at hn;subst hn
   have hgd:(([]++[Value.int .i64 (x:Nat)]).toArray++Builtin.zeroCells (Value.int .i64 0).cells (grownCap κ.w (0+1) 0 (Tryz.laysNm221_ren.t 3)-(0+1))).getD (0+0) undef=.int .i64 (x:Nat):=by
    rw [kH,Array.getElem?_append_left (by simp)];rfl
   rw [hgd]
   exact .i _ _) (.inl (kG _)) (fun hf=>by have:=S.fz _ hf;omega) (fun k cs m e hg h1 h2 hp=>by
    obtain ⟨⟨a0,t1,f1,q1,_⟩,_⟩:=S.cells k cs m hg e h1 h2
    have:=lt_of_some q1
    have hp':(κ.pl k e).1=κ.w.heap.size:=hp
    omega)
  have e2':κ'.pl H.next 1=(κ.w.heap.size,0):=e2
  refine ⟨κ',_,_,_,rfl,e1,le.trans le2,S3,?_,rfl,rfl⟩
  refine .sl H.next 0 1 1 1 (grownCap κ.w (0+1) 0 (Tryz.laysNm221_ren.t 3)) (grownCap κ.w (0+1) 0 (Tryz.laysNm221_ren.t 3),Tryz.laysNm221_ren.t 3) _ e3 (by omega) ⟨by omega,g3⟩ (by omega) (by omega) ?_ (by rw [e2'];simp) (fun _=>by rw [e2'])
  rw [e2',e1]
  have hself:=y23 κ.w.drew (.cells (([]++[Value.int .i64 (x:Nat)]).toArray++Builtin.zeroCells (Value.int .i64 0).cells (grownCap κ.w (0+1) 0 (Tryz.laysNm221_ren.t 3)-(0+1))) (Tryz.laysNm221_ren.t 3))
  have hself':(κ.w.drew.alloc (.cells (([]++[Value.int .i64 (x:Nat)]).toArray++Builtin.zeroCells (Value.int .i64 0).cells (grownCap κ.w (0+1) 0 (Tryz.laysNm221_ren.t 3)-(0+1))) (Tryz.laysNm221_ren.t 3))).heap[κ.w.heap.size]?=_:=hself
  simp only [y2q]
  rw [hself']
  exact congrArg some (Prod.ext hsz rfl)
def y7v (x y:Str):Int:=if ltB x y then -1 else if x=y then 0 else 1
theorem yjy (x:Str) (H:Hp):AC Tryz.prog y5w [.s x] H (fun v H'=>v=.b false∧H'=H):=by
 refine AC.code y2s.at y2s.ok ?_
 simp only [y2s]
 apply jA
 simp [y2s.r0]
 apply jA
 simp [y2s.r1]
 apply jD
 simp
theorem y7n (x y:Str) (H:Hp):AC Tryz.prog y37 [.s x,.s y] H (fun v H'=>v=.i .i64 (y7v x y)∧H'=H):=by
 refine AC.code yx.at yx.ok ?_
 simp only [yx]
 apply jA
 simp [yx.r0]
 apply jA
 simp [yx.r1]
 refine AC.fix (yjy _ _) ?_
 simp
 apply jA
 simp [yx.r2]
 refine AC.fix (yjy _ _) ?_
 simp
 apply jB
 simp [yx.r3]
 refine jF rfl (AX.skip ?_)
 simp
 apply jB
 simp [yx.r7]
 refine jF rfl (AX.skip ?_)
 simp
 apply jB
 simp [yx.r9]
 refine AX.pcond rfl (fun h=>jA ?_) (fun h=>AX.skip ?_)
 ·simp [yx.r10]
  apply jD
  have h':ltB x y=true:=h
  simp [y7v,h']
 have h':ltB x y=false:=h
 simp
 apply jB
 simp [yx.r11]
 by_cases he:x=y
 ·refine jF (by simp [h',he]) (AX.skip ?_)
  simp
  apply jA
  simp [yx.r13]
  apply jD
  unfold y7v;rw [h',if_pos he];simp
 ·refine jG (by simp [h',he]) (jA ?_)
  simp [yx.r12]
  apply jD
  unfold y7v;rw [h',if_neg he];simp
theorem ydb (a b:UInt8) (x y:Str):ltB (a::x) (b::y)=true↔a.toNat<b.toNat∨(a=b∧ltB x y=true):=by
 unfold ltB
 simp only [Go.Op.bytesLess,Bool.or_eq_true,kF,decide_eq_true_eq,beq_iff_eq,UInt8.lt_iff_toNat_lt]
theorem y4z (x:Str):¬ltB x x=true:=by
 induction x with
 | nil=>intro h;cases h
 | cons a x ih=>
          rw [ydb];rintro (h | ⟨_,h⟩)
          ·omega
          ·exact ih h
theorem y8j (x y:Str):ltB x y=true∨x=y∨ltB y x=true:=by
 induction x generalizing y with
 | nil=>cases y with
  | nil=>exact .inr (.inl rfl)
  | cons b y=>exact .inl rfl
 | cons a x ih=>
  cases y with
  | nil=>exact .inr (.inr rfl)
  | cons b y=>
   rw [ydb,ydb]
   rcases Nat.lt_trichotomy a.toNat b.toNat with h | h | h
   ·exact .inl (.inl h)
   ·have e:a=b:=UInt8.toNat_inj.1 h
    subst e
    rcases ih y with h1 | h1 | h1
    ·exact .inl (.inr ⟨rfl,h1⟩)
    ·exact .inr (.inl (by rw [h1]))
    ·exact .inr (.inr (.inr ⟨rfl,h1⟩))
   ·exact .inr (.inr (.inl h))
theorem y7s {x y z:Str} (h1:ltB x y=true) (h2:ltB y z=true):ltB x z=true:=by
 induction x generalizing y z with
 | nil=>
  cases z with
  | nil=>cases y <;> cases h2
  | cons c z=>rfl
 | cons a x ih=>
  cases y with
  | nil=>cases h1
  | cons b y=>
   cases z with
   | nil=>cases h2
   | cons c z=>
    rw [ydb] at h1 h2 ⊢
    rcases h1 with h1 | ⟨rfl,h1⟩
    ·rcases h2 with h2 | ⟨rfl,h2⟩
     ·exact .inl (by omega)
     ·exact .inl h1
    ·rcases h2 with h2 | ⟨rfl,h2⟩
     ·exact .inl h2
     ·exact .inr ⟨rfl,ih h1 h2⟩
theorem y74 {x y:Str} (h:ltB x y=true):ltB y x=false:=by
 cases h2:ltB y x with
 | false=>rfl
 | true=>exact absurd (y7s h h2) (y4z x)
def y3o (l:List Str):Prop:=l.Pairwise fun x y=>ltB x y=true
def yaw (l:List Str) (x:Str):Nat:=(l.takeWhile fun y=>ltB y x).length
theorem yo0 {l:List Str} (h:y3o l) (x:Str):y95 l x=if x∈l then l else l.take (yaw l x)++x::l.drop (yaw l x):=by
 induction l with
 | nil=>rfl
 | cons y r ih=>
  have hr:y3o r:=(List.pairwise_cons.1 h).2
  have hy:=(List.pairwise_cons.1 h).1
  simp only [y95,yaw,List.takeWhile_cons]
  by_cases h1:ltB y x=true
  ·have hne:x≠y:=fun e=>by subst e;exact y4z _ h1
   rw [if_pos h1,if_pos h1,ih hr]
   by_cases hm:x∈r
   ·simp [hm]
   ·simp [hm,hne,yaw]
  ·rw [if_neg h1,if_neg h1]
   by_cases h2:y=x
   ·subst h2;simp
   ·have hm:x∉r:=fun hm=>h1 (hy x hm)
    rw [if_neg h2,if_neg (by simp [hm,Ne.symm h2])]
    simp
theorem ybv {l:List Str} {x z:Str}:z∈y95 l x↔z=x∨z∈l:=by
 induction l with
 | nil=>simp [y95]
 | cons y r ih=>
  simp only [y95]
  split
  ·simp [ih];constructor
   ·rintro (h | h | h) <;> simp [h]
   ·rintro (h | h | h) <;> simp [h]
  ·split
   ·rename_i h;subst h;simp
   ·simp
theorem y8n {l:List Str} (h:y3o l) (x:Str):y3o (y95 l x):=by
 induction l with
 | nil=>simp [y95,y3o]
 | cons y r ih=>
  have hr:y3o r:=(List.pairwise_cons.1 h).2
  have hy:=(List.pairwise_cons.1 h).1
  simp only [y95]
  split
  ·rename_i h1
   refine List.pairwise_cons.2 ⟨fun z hz=>?_,ih hr⟩
   rcases ybv.1 hz with rfl | hz
   ·exact h1
   ·exact hy z hz
  ·rename_i h1
   split
   ·exact h
   ·rename_i h2
    have h3:ltB x y=true:=by
     rcases y8j x y with h | h | h
     ·exact h
     ·exact absurd h.symm h2
     ·exact absurd h h1
    refine List.pairwise_cons.2 ⟨fun z hz=>?_,h⟩
    rcases List.mem_cons.1 hz with rfl | hz
    ·exact h3
    ·exact y7s h3 (hy z hz)
theorem yat (l:List Str):y3o (yfd l):=by
 have:∀(l acc:List Str),y3o acc→y3o (l.foldl y95 acc):=by
  intro l
  induction l with
  | nil=>intro acc h;exact h
  | cons x r ih=>intro acc h;exact ih _ (y8n h x)
 exact this l [] (by simp [y3o])
theorem yib {l:List Str} {z:Str}:z∈yfd l↔z∈l:=by
 have:∀(l acc:List Str),z∈l.foldl y95 acc↔z∈acc∨z∈l:=by
  intro l
  induction l with
  | nil=>intro acc;simp
  | cons x r ih=>
           intro acc;rw [List.foldl_cons,ih,ybv];simp;constructor
           ·rintro ((h | h) | h) <;> simp [h]
           ·rintro (h | h | h) <;> simp [h]
 rw [yfd,this];simp
theorem yi5 {l:List Str} (h:y3o l) (x:Str) (j:Nat) (y:Str) (hj:l[j]?=some y):ltB y x=decide (j<yaw l x):=by
 induction l generalizing j with
 | nil=>simp at hj
 | cons z r ih=>
  have hr:y3o r:=(List.pairwise_cons.1 h).2
  have hz:=(List.pairwise_cons.1 h).1
  simp only [yaw,List.takeWhile_cons]
  by_cases h1:ltB z x=true
  ·rw [if_pos h1]
   cases j with
   | zero=>simp at hj;subst hj;simp [h1]
   | succ j=>simp at hj;rw [ih hr j hj];exact decide_eq_decide.2 (by unfold yaw;rw [kO];omega)
  ·rw [if_neg h1]
   cases j with
   | zero=>simp at hj;subst hj;simpa using h1
   | succ j=>
    simp at hj
    have:ltB z y=true:=hz y (kY hj)
    have:¬ltB y x=true:=fun h2=>h1 (y7s this h2)
    simpa using this
theorem yn7 (l:List Str) (x:Str):yaw l x≤l.length:=by
 unfold yaw
 have:=congrArg List.length (List.takeWhile_append_dropWhile (p:=fun y=>ltB y x) (l:=l))
 rw [kT] at this;omega
theorem yfi {l:List Str} (h:y3o l) (x:Str):x∈l↔l[yaw l x]?=some x:=by
 constructor
 ·intro hm
  obtain ⟨j,hj⟩:=List.mem_iff_getElem?.1 hm
  have h1:=yi5 h x j x hj
  have h2:¬j<yaw l x:=fun hlt=>by rw [decide_eq_true hlt] at h1;exact y4z x h1
  rcases Nat.lt_or_ge (yaw l x) j with h3 | h3
  ·have hl:=(List.getElem?_eq_some_iff.1 hj).1
   have hp:l[yaw l x]?=some l[yaw l x]:=kC (by omega)
   have h4:=yi5 h x _ _ hp
   have h5:ltB l[yaw l x] x=true:=by
    have:=List.pairwise_iff_getElem.1 h (yaw l x) j (by omega) hl h3
    rwa [(List.getElem?_eq_some_iff.1 hj).2] at this
   rw [h5] at h4;simp at h4
  ·have:j=yaw l x:=by omega
   rwa [←this]
 ·exact fun h=>kY h
def tcs (l:List Str):List V:=l.map fun x=>.s x
def yiy (H:Hp) (cs:List V) (v:V) (id:Nat):Prop:=(cs=[]∧∃z,v=.sl none 0 z)∨(cs≠[]∧v=.sl (some (id,0,cs.length)) cs.length 1∧∃m,H.get id=some (.cells cs m)∧m≤cs.length)
theorem y9a {α:Type} {l:List α} {n:Nat} {v:α} (h:l[n]?=some v):(l.drop n).take 1=[v]:=by
 obtain ⟨h1,h2⟩:=List.getElem?_eq_some_iff.1 h
 rw [kP h1,h2];rfl
def BsInv (arr:V) (x:Str) (g:V) (len p:Nat) (H:Hp) (m:Nat) (F:Fr) (H':Hp):Prop:=
 ∃i j,i≤p∧p≤j∧j≤len∧m=j-i∧H'=H∧F=[(0,arr),(1,.s x),(2,g),(8,.i .i64 len),(9,.i .i64 i),(10,.i .i64 j)]
theorem half (i j:Nat) (h:i+j≤4611686018427387904):Go.IntKind.i64.wrap ((Go.IntKind.u64.wrap (Go.IntKind.i64.wrap ((i:Int)+j))).fdiv 2)=(((i+j) / 2:Nat):Int):=by
 rw [wrap_i64 (n:=(i:Int)+j) (by omega) (by omega),y99 (by omega) (by omega),Int.fdiv_eq_ediv_of_nonneg _ (by omega),wrap_i64 (by omega) (by omega)];omega
theorem BSF_ok (os:List Nat) (x:Str) (ido m:Nat) (f:Go.FuncId) (caps:List V) (c:Nat→Int) (p:Nat) (H:Hp) (hne:os≠[]) (hg:H.get ido=some (.cells (nc os) m)) (hm:m≤os.length) (hl:os.length≤1000000000) (hp:p≤os.length)
  (hc:∀j,j<os.length→(c j<0↔j<p)) (hf:∀j n,os[j]?=some n→AC Tryz.prog f (.i .i64 (n:Nat)::.s x::caps) H (fun v H'=>v=.i .i64 (c j)∧H'=H)):
  AC Tryz.prog y33 [.sl (some (ido,0,os.length)) os.length 1,.s x,.fn f caps] H (fun v H'=>v=.tup [.i .i64 (p:Nat),.b (decide (p<os.length∧c p=0))]∧H'=H):=by
 refine AC.code yc.at yc.ok ?_
 simp only [yc]
 have hld:∀j n,os[j]?=some n→((nc os).drop j).take 1=[.i .i64 (n:Nat)]:=fun j n h=>y9a (by simp [nc,h])
 apply jA
 simp [yc.r0]
 apply jA
 simp [yc.r1]
 apply jA
 simp [yc.r2]
 refine AX.seq (AX.pblock (AX.loop (BsInv (.sl (some (ido,0,os.length)) os.length 1) x (.fn f caps) os.length p H) os.length ⟨_,_,.refl _ _,0,os.length,by omega,hp,by omega,by omega,rfl,rfl⟩ ?_))
 rintro m' F H' ⟨i,j,hi,hj,hjl,rfl,rfl,rfl⟩
 simp only [yc.l0]
 apply jB
 simp [yc.r3]
 refine AX.pcond rfl (fun hb=>AX.skip ?_) (fun hb=>AX.exit ?_)
 ·simp at hb
  simp
  refine AX.pblock (jA ?_)
  obtain ⟨e,he⟩:∃e,e=(i+j) / 2:=⟨_,rfl⟩
  have hh:=half i j (by omega)
  rw [←he] at hh
  simp [yc.r4,hh]
  have hel:e<os.length:=by omega
  obtain ⟨n,hn⟩:∃n,os[e]?=some n:=⟨_,kC hel⟩
  apply jA
  simp [yc.r5,hel,hg,hm,hld e n hn,show e+1≤os.length by omega]
  refine AC.fix (hf e n hn) ?_
  simp
  refine AX.pcond rfl (fun h=>AX.reg ?_) (fun h=>AX.reg ?_)
  ·simp at h
   have:=(hc e hel).1 h
   simp [yc.r6,ybz (show e≤9223372036854775000 by omega)]
   exact ⟨j-(e+1),by omega,_,_,.refl _ _,e+1,j,by omega,hj,hjl,rfl,rfl,by simp⟩
  ·simp at h
   have:¬e<p:=fun hlt=>by have:=(hc e hel).2 hlt;omega
   simp [yc.r7]
   exact ⟨e-i,by omega,_,_,.refl _ _,i,e,hi,by omega,by omega,rfl,rfl,rfl⟩
 simp at hb
 have e1:i=p:=by omega
 subst e1
 simp
 apply jA
 by_cases hlt:i<os.length
 ·obtain ⟨n,hn⟩:∃n,os[i]?=some n:=⟨_,kC hlt⟩
  simp [yc.r8,hlt,hg,hm,hld i n hn,show i+1≤os.length by omega]
  refine AC.fix (hf i n hn) ?_
  simp [hlt]
  apply jD
  simp
 ·simp [yc.r8,hlt]
  apply jD
  simp
theorem BSF0_ok (x:Str) (z:Nat) (f:Go.FuncId) (caps:List V) (H:Hp):
  AC Tryz.prog y33 [.sl none 0 z,.s x,.fn f caps] H (fun v H'=>v=.tup [.i .i64 ((0:Nat):Int),.b false]∧H'=H):=by
 refine AC.code yc.at yc.ok ?_
 simp only [yc]
 apply jA
 simp [yc.r0]
 apply jA
 simp [yc.r1]
 apply jA
 simp [yc.r2]
 refine AX.seq (AX.pblock (AX.loop (fun m F X=>m=0∧X=H∧F=[(0,.sl none 0 z),(1,.s x),(2,.fn f caps),(8,.i .i64 0),(9,.i .i64 0),(10,.i .i64 0)]) 0 ⟨_,_,.refl _ _,rfl,rfl,rfl⟩ ?_))
 rintro m F X ⟨rfl,rfl,rfl⟩
 simp only [yc.l0]
 apply jB
 simp [yc.r3]
 refine jF rfl (AX.exit ?_)
 simp
 apply jA
 simp [yc.r8]
 apply jD
 simp
def y79 (ts:List Str) (os:List Nat):List Str:=os.map fun n=>ts.getD n []
theorem yp1 (x y:Str):(y7v x y<0)=(ltB x y=true):=by
 unfold y7v
 by_cases h:ltB x y=true
 ·simp [h]
 ·rw [if_neg h];by_cases h2:x=y
  ·rw [if_pos h2];simp [h]
  ·rw [if_neg h2];simp [h]
theorem cmp_zero (x y:Str):(y7v x y=0)=(x=y):=by
 unfold y7v
 by_cases h:ltB x y=true
 ·rw [if_pos h]
  have:x≠y:=fun e=>by rw [e] at h;exact absurd h (y4z _)
  simp [this]
 ·rw [if_neg h];by_cases h2:x=y
  ·rw [if_pos h2];simp [h2]
  ·rw [if_neg h2];simp [h2]
def ycq (ts:List Str) (os:List Nat) (x:Str):List Str:=if x∈y79 ts os then ts else ts++[x]
def putO (ts:List Str) (os:List Nat) (x:Str):List Nat:=if x∈y79 ts os then os else yem os (yaw (y79 ts os) x) ts.length
theorem yn5 {ts:List Str} {os:List Nat} {x:Str} (hall:∀n∈os,n<ts.length) (h:x∉y79 ts os):y79 (ts++[x]) (yem os (yaw (y79 ts os) x) ts.length)=(y79 ts os).take (yaw (y79 ts os) x)++x::(y79 ts os).drop (yaw (y79 ts os) x):=by
 have e:∀l:List Nat,(∀n∈l,n<ts.length)→(l.map fun n=>(ts++[x]).getD n [])=l.map fun n=>ts.getD n []:=fun l hl=>by
  apply List.map_congr_left
  intro n hn
  rw [kQ,kQ,kR (hl n hn)]
 unfold yem
 generalize yaw (y79 ts os) x=p
 unfold y79
 rw [List.map_append,List.map_cons,e _ (fun n hn=>hall n (List.mem_of_mem_take hn)),e _ (fun n hn=>hall n (List.mem_of_mem_drop hn)),List.map_take,List.map_drop]
 simp [kQ]
end Go.Proofs.YtikpijbeobeckaaGreatDoor
