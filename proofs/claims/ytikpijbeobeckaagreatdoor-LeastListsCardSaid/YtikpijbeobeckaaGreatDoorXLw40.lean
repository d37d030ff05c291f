/- Part 40 of the proof of the laws of the queries: QSrF, RkL1, RkL2. -/
import Derived.Test.YtikpijbeobeckaaGreatDoorXLw33
import Derived.Test.YtikpijbeobeckaaGreatDoorXLw39
set_option linter.unusedSimpArgs false
set_option linter.unusedVariables false
namespace Go.Proofs.YtikpijbeobeckaaGreatDoor
open Am C
theorem cmpB_lt:∀a b:Str,(Go.Lib.compareBytes a b<0)↔ltB a b=true:=by
  have key:∀a b:Str,(Go.Lib.compareBytes a b<0)↔a<b:=by
    intro a
    induction a with
    | nil=>intro b;cases b <;> simp [Go.Lib.compareBytes]
    | cons x a ih=>
      intro b
      cases b with
      | nil=>simp [Go.Lib.compareBytes]
      | cons y b=>
        rw [List.cons_lt_cons_iff]
        unfold Go.Lib.compareBytes
        by_cases h1:x<y
        · simp [h1]
        · rw [if_neg h1]
          by_cases h2:y<x
          · rw [if_pos h2]
            have:x≠y:=fun e=>by subst e;exact h1 h2
            simp [h1,this]
          · rw [if_neg h2]
            have:x=y:=by
              have h3:¬x.toNat<y.toNat:=h1
              have h4:¬y.toNat<x.toNat:=h2
              exact UInt8.toNat_inj.1 (by omega)
            rw [ih];simp [h1,this]
  intro a b
  rw [key]
  unfold ltB
  rw [Go.Proofs.bytesLess_eq]
  simp
abbrev Sl3:=Option Go.Addr × Nat × Nat
theorem ltF (x y:Str × Sl3):ltOf (fun x y:Str × Sl3=>Go.Lib.compareBytes x.1 y.1) x y=ltB x.1 y.1:=by
  unfold ltOf
  rw [Bool.eq_iff_iff,decide_eq_true_eq]
  exact cmpB_lt _ _
theorem swoF:Go.Sort.SWO (ltOf fun x y:Str × Sl3=>Go.Lib.compareBytes x.1 y.1) where
  irrefl x:=by rw [ltF];cases h:ltB x.1 x.1 with | false=>rfl | true=>exact absurd h (y7g _)
  trans x y z h1 h2:=by rw [ltF] at *;exact y79 h1 h2
  ntrans x y z h1 h2:=by
    rw [ltF] at *
    cases h:ltB x.1 z.1 with
    | false=>rfl
    | true=>
      rcases y8y x.1 y.1 with k | k | k
      · rw [h1] at k;cases k
      · rw [←k,h] at h2;cases h2
      · have:=y79 k h;rw [h2] at this;cases this
def ybx (l:List (Str × V)):List V:=l.flatMap fun f=>[.s f.1,f.2]
theorem yb2 (l:List (Str × V)):(ybx l).length=l.length*2:=by
  induction l with
  | nil=>rfl
  | cons a r ih=>simp only [ybx,List.flatMap_cons,List.length_append,List.length_cons] at ih ⊢;rw [ih];simp;omega
theorem yb3 {l:List (Str × V)} {i:Nat} {f:Str × V} (h:l[i]?=some f):(ybx l)[i*2]?=some (.s f.1)∧(ybx l)[i*2+1]?=some f.2:=by
  induction l generalizing i with
  | nil=>cases h
  | cons a r ih=>
    have e:ybx (a::r)=.s a.1::a.2::ybx r:=rfl
    cases i with
    | zero=>simp at h;subst h;simp [e]
    | succ i=>
      have:=ih (by simpa using h)
      rw [e,show (i+1)*2=i*2+1+1 by omega,show i*2+1+1+1=(i*2+1)+1+1 by omega]
      simpa using this
theorem perm_one {l l':List (Str × Sl3)} (hp:l.Perm l') (h:y3s (l.map (·.1))) (h':l'.Pairwise fun x y=>ltB y.1 x.1=false):l'=l:=by
  have hn:(l.map (·.1)).Nodup:=h.nodup
  have hn':(l'.map (·.1)).Nodup:=(hp.map _).nodup_iff.1 hn
  have hr':y3s (l'.map (·.1)):=by
    rw [y3s,List.pairwise_map]
    rw [List.nodup_iff_pairwise_ne,List.pairwise_map] at hn'
    refine (h'.and hn').imp fun {a b} hab=>?_
    rcases y8y a.1 b.1 with k | k | k
    · exact k
    · exact absurd k hab.2
    · rw [hab.1] at k;cases k
  have he:l'.map (·.1)=l.map (·.1):=y8i hr' h fun x=>(hp.map _).mem_iff.symm
  apply List.ext_getElem?
  intro i
  have hlen:l'.length=l.length:=hp.length_eq.symm
  cases hi:l'[i]? with
  | none=>
    have:=List.getElem?_eq_none_iff.1 hi
    exact (List.getElem?_eq_none (by omega)).symm
  | some x=>
    have hx:x∈l:=hp.mem_iff.2 (List.mem_of_getElem? hi)
    obtain ⟨j,hj⟩:=List.mem_iff_getElem?.1 hx
    have h1:(l.map (·.1))[i]?=some x.1:=by rw [←he];simp [hi]
    have h2:(l.map (·.1))[j]?=some x.1:=by simp [hj]
    obtain ⟨q1,q2⟩:=List.getElem?_eq_some_iff.1 h1
    obtain ⟨r1,r2⟩:=List.getElem?_eq_some_iff.1 h2
    rw [List.nodup_iff_pairwise_ne] at hn
    have:i=j:=by
      rcases Nat.lt_trichotomy i j with h | h | h
      · exact absurd (q2.trans r2.symm) (List.pairwise_iff_getElem.1 hn i j q1 r1 h)
      · exact h
      · exact absurd (r2.trans q2.symm) (List.pairwise_iff_getElem.1 hn j i r1 q1 h)
    rw [this,hj]
theorem yg3 (l:List (Str × Sl3)):∀t,(l.flatMap y94)[t]! = (y94 l[t / 2]!)[t % 2]! ∨ l.length*2≤t:=by
  induction l with
  | nil=>intro t;exact .inr (Nat.zero_le _)
  | cons a r ih=>
    intro t
    have e:(a::r).flatMap y94=y94 a++r.flatMap y94:=rfl
    have la:(y94 a).length=2:=rfl
    rcases Nat.lt_or_ge t 2 with h | h
    · left
      rw [e,show t / 2=0 by omega,show t % 2=t by omega]
      match t,h with
      | 0,_=>rfl
      | 1,_=>rfl
    · obtain ⟨u,rfl⟩:∃u,t=u+2:=⟨t-2,by omega⟩
      rcases ih u with h1 | h1
      · left
        rw [e,show (u+2) / 2=u / 2+1 by omega,show (u+2) % 2=u % 2 by omega]
        show (Go.Value.string _::Go.Value.slice _ _ _::r.flatMap y94)[u+2]! = _
        simpa using h1
      · right;simp;omega
theorem yg2 (l:List (Str × Sl3)):Go.Sort.flatK y94 2 l.toArray=(l.flatMap y94).toArray:=by
  have hl:(l.flatMap y94).length=l.length*2:=by
    induction l with
    | nil=>rfl
    | cons a r ih=>simp only [List.flatMap_cons,List.length_append,ih,List.length_cons];show 2+r.length*2=_;omega
  refine Go.Sort.ext_get! (by simp [hl]) fun t ht=>?_
  have ht':t<l.length*2:=by simpa using ht
  rw [Go.Sort.get_flatK _ _ _ _ (by simpa using ht')]
  rcases yg3 l t with h | h
  · simpa using h.symm
  · omega
namespace Am
open Go Go.RowKit Go.Proofs Go.Sort
theorem ye7 {κ:K} (cn:Str→Sl3):∀(l:List (Str × V)),(∀f∈l,VR κ f.2 (.slice (cn f.1).1 (cn f.1).2.1 (cn f.1).2.2))→VRs κ (ybx l) ((l.map fun f=>(f.1,cn f.1)).flatMap y94)
  | [],_=>⟨rfl,fun j v h=>by simp [ybx] at h⟩
  | f::l,h=>by
    have ih:=ye7 cn l fun g hg=>h g (by simp [hg])
    have h0:VRs κ [.s f.1,f.2] (y94 (f.1,cn f.1)):=⟨rfl,fun j v hj=>by
      match j,hj with
      | 0,hj=>simp at hj;subst hj;exact .s f.1
      | 1,hj=>simp at hj;subst hj;exact h f (by simp)
      | j+2,hj=>simp at hj⟩
    have:=VRs.append h0 ih
    simpa [ybx] using this
theorem yjy (fs fs':List (Str × V)) (hl:fs.length≤1000000000) (hn:fs≠[]) (id m:Nat) (H:Hp) (hg:H.get id=some (.cells (ybx fs) m)) (hc:(ybx fs').all y4j=true) (hsl:∀f∈fs,∀κ c,VR κ f.2 c→∃p n k,c=.slice p n k) (hp:fs'.Perm fs) (hr:y3s (fs'.map (·.1))):
    AC Tryz.prog y3q [.sl (some (id,0,fs.length*2)) fs.length 2,.fn 67 []] H (fun v H'=>v=.tup []∧H'=H.upd id (.cells (ybx fs') (fs.length*2))):=by
  refine ⟨by kernel_rfl,fun κ cs S r=>?_⟩
  obtain ⟨hlen,hr0⟩:=r
  match cs,hlen with
  | [c0,c1],_=>
  have rc:VR κ _ c0:=hr0 0 _ rfl
  have rf:VR κ _ c1:=hr0 1 _ rfl
  cases rf with
  | fn _ _ c3 g1 g2=>
  have:c3=[]:=List.length_eq_zero_iff.1 g1.symm
  subst this
  have hfl:=yb2 fs
  have hm:=S.le id _ m hg
  have hP:=S.cells id _ m hg (fs.length*2) (by rw [←hfl];exact hm) (by omega)
  obtain ⟨⟨arr,t,fr,p1,p2,p3,p4⟩,p5⟩:=hP
  have hpos:0<fs.length:=List.length_pos_iff.2 hn
  cases rc with
  | sl _ _ _ _ _ cap n a ok hsz hcap hext hext2 hn' hroom ha=>
  have ha:=ha (by omega)
  subst ha
  have hnd:(fs.map (·.1)).Nodup:=(hp.map _).nodup_iff.1 hr.nodup
  obtain ⟨T,hT⟩:=Classical.axiomOfChoice (r:=fun (j:Nat) (x:Sl3)=>∀f,fs[j]?=some f→arr.getD ((κ.pl id (fs.length*2)).2+(j*2+1)) undef=.slice x.1 x.2.1 x.2.2) (fun j=>by
    cases hj:fs[j]? with
    | none=>exact ⟨(none,0,0),fun f h=>by cases h⟩
    | some f=>
      have hjl:=(List.getElem?_eq_some_iff.1 hj).1
      obtain ⟨p,n,k,e⟩:=hsl f (List.mem_of_getElem? hj) κ _ (p3 (j*2+1) f.2 (by omega) (yb3 hj).2)
      exact ⟨(p,n,k),fun g hg=>by cases hg;exact e⟩)
  obtain ⟨cn,hcn⟩:=Classical.axiomOfChoice (r:=fun (x:Str) (y:Sl3)=>∀j f,fs[j]?=some f→f.1=x→T j=y) (fun x=>by
    by_cases h:∃(j:Nat) (f:Str × V),fs[j]?=some f∧f.1=x
    · obtain ⟨j,f,h1,h2⟩:=h
      refine ⟨T j,fun j' f' h3 h4=>?_⟩
      have q1:(fs.map (·.1))[j]?=some x:=by simp [h1,h2]
      have q2:(fs.map (·.1))[j']?=some x:=by simp [h3,h4]
      obtain ⟨r1,r2⟩:=List.getElem?_eq_some_iff.1 q1
      obtain ⟨t1,t2⟩:=List.getElem?_eq_some_iff.1 q2
      rw [List.nodup_iff_pairwise_ne] at hnd
      rcases Nat.lt_trichotomy j j' with h | h | h
      · exact absurd (r2.trans t2.symm) (List.pairwise_iff_getElem.1 hnd j j' r1 t1 h)
      · rw [h]
      · exact absurd (t2.trans r2.symm) (List.pairwise_iff_getElem.1 hnd j' j t1 r1 h)
    · exact ⟨(none,0,0),fun j f h1 h2=>absurd ⟨j,f,h1,h2⟩ h⟩)
  have hvr:∀f∈fs,VR κ f.2 (.slice (cn f.1).1 (cn f.1).2.1 (cn f.1).2.2):=fun f hf=>by
    obtain ⟨j,hj⟩:=List.mem_iff_getElem?.1 hf
    have hjl:=(List.getElem?_eq_some_iff.1 hj).1
    have h1:=p3 (j*2+1) f.2 (by omega) (yb3 hj).2
    rw [hT j f hj,hcn f.1 j f hj rfl] at h1
    exact h1
  obtain ⟨e1,e2⟩:=ye7 cn fs hvr
  have hln:∀l:List (Str × V),((l.map fun f=>(f.1,cn f.1)).flatMap y94).length=l.length*2:=fun l=>by
    induction l with
    | nil=>rfl
    | cons a r ih=>simp only [List.map_cons,List.flatMap_cons,List.length_append,ih,List.length_cons];show 2+r.length*2=_;omega
  obtain ⟨xs,hxs⟩:∃xs,xs=fs.map fun f=>(f.1,cn f.1):=⟨_,rfl⟩
  obtain ⟨xs',hxs'⟩:∃xs,xs=fs'.map fun f=>(f.1,cn f.1):=⟨_,rfl⟩
  have hxl:xs.length=fs.length:=by rw [hxs,List.length_map]
  have hyl:(xs.flatMap y94).length=fs.length*2:=by rw [hxs];exact hln fs
  have hpl:fs'.length=fs.length:=hp.length_eq
  have hyl':(xs'.flatMap y94).length=fs.length*2:=by rw [hxs',hln,hpl]
  have hcell:∀j,j<fs.length*2→κ.w.cell? ⟨(κ.pl id (fs.length*2)).1,(κ.pl id (fs.length*2)).2+0+j,none⟩=some ((xs.flatMap y94).getD j undef):=fun j hj=>by
    rw [y66 p1 (by omega)]
    rw [Nat.add_zero]
    congr 1
    have hi:j / 2<fs.length:=by omega
    obtain ⟨f,hf⟩:∃f,fs[j / 2]?=some f:=⟨_,List.getElem?_eq_getElem hi⟩
    have hx:xs[j / 2]! = (f.1,cn f.1):=by
      have:xs[j / 2]?=some (f.1,cn f.1):=by rw [hxs];simp [hf]
      rw [List.getElem!_eq_getElem?_getD,this];rfl
    have hy:(xs.flatMap y94).getD j undef=(y94 (f.1,cn f.1))[j % 2]! := by
      rcases yg3 xs j with h | h
      · rw [←hx,←h,List.getD_eq_getElem?_getD,List.getElem!_eq_getElem?_getD,List.getElem?_eq_getElem (by omega)];rfl
      · omega
    rw [hy]
    rcases Nat.mod_two_eq_zero_or_one j with h | h
    · have h1:=VR.inv_s (p3 (j / 2*2) (.s f.1) (by omega) (yb3 hf).1)
      rw [show j / 2*2=j by omega] at h1
      rw [h1,h];rfl
    · have h1:=hT (j / 2) f hf
      rw [show j / 2*2+1=j by omega,hcn f.1 (j / 2) f hf rfl] at h1
      rw [h1,h];rfl
  have hfro:∀j,j<fs.length*2→κ.w.frozen? ⟨(κ.pl id (fs.length*2)).1,(κ.pl id (fs.length*2)).2+0+j,none⟩=false:=fun j hj=>y7p p1 p4 (by omega)
  have hH:Holds (fun v:Value=>v) κ.w (κ.pl id (fs.length*2)).1 ((κ.pl id (fs.length*2)).2+0) (xs.flatMap y94).toArray:=fun j hj=>by
    have hj':j<fs.length*2:=by rw [←hyl];simpa using hj
    refine ⟨?_,hfro j hj'⟩
    rw [hcell j hj']
    rw [List.getD_eq_getElem?_getD,List.getElem?_eq_getElem (show j<(xs.flatMap y94).length by omega)]
    simp only [Option.getD_some,List.getElem!_toArray,List.getElem!_eq_getElem?_getD]
    rw [List.getElem?_eq_getElem (show j<(xs.flatMap y94).length by omega)];rfl
  have hHK:HoldsK y94 2 κ.w (κ.pl id (fs.length*2)).1 ((κ.pl id (fs.length*2)).2+0) xs.toArray:=by
    unfold HoldsK
    rw [yg2]
    exact hH
  have eg:∀args w,(callFunc 67 args).run Tryz.prog w=.ok (.enter 67 args) w:=enters_of Tryz.func67 (by kernel_rfl) rfl
  have hcon:=AnyQ.slices_SortFunc Tryz.laysSlF06_f66 2 Tryz.isAgg37 Tryz.sizeOf37 y94 (fun _=>rfl) (fun x v hv=>by simp [y94] at hv;rcases hv with rfl | rfl <;> rfl) (fun x y=>Lib.compareBytes x.1 y.1) swoF 67 #[] (κ.pl id (fs.length*2)).1 ((κ.pl id (fs.length*2)).2+0) cap xs.toArray κ.w eg (Tryz.cmpLaysF _ _ _ κ.w) hHK (lt_of_some p1) (by rw [List.size_toArray,hxl];omega)
  have hsz2:xs.toArray.size=fs.length:=by simpa using hxl
  rw [hsz2] at hcon
  refine hcon.mono fun e w' ⟨he,d',q,os,⟨hsd,_,hpm⟩,hso,hw⟩=>?_
  have hd'l:d'.size=fs.length:=hsd.trans hsz2
  have hpm':xs'.Perm d'.toList:=by
    have h1:(xs.toArray.extract 0 fs.length).toList=xs:=by rw [←hsz2,Array.extract_size]
    have h2:(d'.extract 0 fs.length).toList=d'.toList:=by rw [←hd'l,Array.extract_size]
    rw [h1,h2] at hpm
    exact (show xs'.Perm xs by rw [hxs,hxs'];exact hp.map _).trans hpm.symm
  have hd':d'.toList=xs':=perm_one hpm' (by rw [hxs'];simpa [List.map_map,Function.comp_def] using hr) (by
    rw [List.pairwise_iff_getElem]
    intro i j hi hj hij
    have:=hso i j (Nat.zero_le _) hij (by rw [←hd'l];simpa using hj)
    rw [ltF] at this
    simpa [show i<d'.size by simpa using hi,show j<d'.size by simpa using hj] using this)
  have ed:d'=xs'.toArray:=by rw [←hd']
  have hsc:=Lib.putRow_eq_setCells (fun v:Value=>v) κ.w (κ.pl id (fs.length*2)).1 ((κ.pl id (fs.length*2)).2+0) (xs.flatMap y94).toArray (xs'.flatMap y94) q hH (by simp only [List.size_toArray];omega)
  have hw2:w'=grow ((κ.w.drewN q).setCells (κ.pl id (fs.length*2)).1 ((κ.pl id (fs.length*2)).2+0) (xs'.flatMap y94)) os:=by
    rw [hw,ed]
    unfold sortWorldK putRowK
    rw [yg2]
    have:(xs'.flatMap y94).map (fun v:Value=>v)=xs'.flatMap y94:=List.map_id _
    rw [this] at hsc
    rw [←hsc];rfl
  have bd:Below κ.w.heap.size κ.w (κ.w.drewN q):=by have:=Lib.below_grow κ.w.heap.size κ.w (Nat.le_refl _) q #[];simpa using this
  have le1:=K.below_le S bd
  have S1:=S.below bd
  have hvr':VRs κ (ybx fs') (xs'.flatMap y94):=by rw [hxs'];exact ye7 cn fs' fun f hf=>hvr f (hp.mem_iff.1 hf)
  have hvr1:VRs { κ with w:=κ.w.drewN q } (ybx fs') (xs'.flatMap y94):=⟨hvr'.1,fun j v hj=>(hvr'.2 j v hj).mono le1⟩
  have hfl':(ybx fs').length=fs.length*2:=by rw [yb2,hpl]
  obtain ⟨κ2,le2,S2,run,pl2,ok2⟩:=Sim.setAll_ok (P:=Tryz.prog) (ybx fs') (xs'.flatMap y94) S1 hg (fun e=>by have:=congrArg List.length e;simp only [hfl',List.length_nil] at this;omega) (off:=0) (i:=0) (by omega) (fun v hv=>List.all_eq_true.1 hc v hv) hvr1
  have run2:=run_storeCells_cells (P:=Tryz.prog) (κ.pl id (fs.length*2)).1 ((κ.pl id (fs.length*2)).2+0) (xs'.flatMap y94) 0 (κ.w.drewN q)
    (fun j hj=>by
      have hj':j<fs.length*2:=by omega
      have:=hcell j hj'
      simp only [Nat.add_zero] at this ⊢
      show (κ.w.cell? _).isSome=true
      rw [this];rfl)
    (fun j hj=>by
      have hj':j<fs.length*2:=by omega
      have:=hfro j hj'
      simp only [Nat.add_zero] at this ⊢
      exact this)
    (fun v hv=>by
      obtain ⟨x,_,hx⟩:=List.mem_flatMap.1 hv
      simp [y94] at hx
      rcases hx with rfl | rfl <;> rfl)
  have ew:κ2.w=(κ.w.drewN q).setCells (κ.pl id (fs.length*2)).1 ((κ.pl id (fs.length*2)).2+0) (xs'.flatMap y94):=by
    rw [hfl] at run
    have:=run.symm.trans run2
    injection this with _ h
  have bg:Below κ2.w.heap.size κ2.w w':=by
    rw [hw2,←ew]
    exact Lib.below_grow κ2.w.heap.size κ2.w (Nat.le_refl _) 0 os
  have le3:=K.below_le S2 bg
  have S3:=S2.below bg
  refine ⟨{ κ2 with w:=w' },.tup [],_,_,he,rfl,le1.trans (le2.trans le3),S3,VR.tup (κ:={ κ2 with w:=w' }) [] [] rfl (fun j v h=>by simp at h),rfl,?_⟩
  rw [y8h _ _ (by omega)]
  rw [hfl]
theorem yhn (z:Nat) (H:Hp):AC Tryz.prog y3q [.sl none 0 z,.fn 67 []] H (fun v H'=>v=.tup []∧H'=H):=by
  refine AC.below (by kernel_rfl) fun κ cs r=>?_
  obtain ⟨hlen,hr0⟩:=r
  match cs,hlen with
  | [c0,c1],_=>
  have rc:VR κ _ c0:=hr0 0 _ rfl
  have rf:VR κ _ c1:=hr0 1 _ rfl
  cases rc with
  | sl0 _ a=>
  refine ⟨.tuple #[],fun κ'=>VR.tup (κ:=κ') [] [] rfl (fun j v h=>by simp at h),?_⟩
  exact (AnyF.slices_SortFunc_none Tryz.laysSlF06_f66 a 0 c1 κ.w).mono fun e w' ⟨he,hw⟩=>⟨he,by rw [hw];exact .refl _ _⟩
end Am
def locS (ts:List Str) (bx n0:Nat) (S:LpS) (n:Nat) (X:Hp):Hp:=match X.get bx with
  | some (.cells [a,v] _)=>match y2p (X.upd n0 (.obj (.lp S .busy))) 1 16 v (.fs [[.s (ts.getD n [])]]) with
    | some (v2,X2)=>(X2.upd bx (.cells [a,v2] 2)).upd n0 (.obj (.lp S .ready))
    | none=>X
  | _=>X
structure LocJ (X0:Hp) (S:LpS) (bx:Nat) (node:Str) (l:List Str) (k:Nat) (Y:Hp):Prop where
  lt:Hp.Lt Y
  nx:X0.next+1≤Y.next
  ext:∀j blk,j≠bx→X0.get j=some blk→Y.get j=some blk
  lp:Y.get X0.next=some (.obj (.lp S .ready))
  out:∃v ia,Y.get bx=some (.cells [.s node,v] 2)∧yho Y (tcs (l.take k)) v ia∧(l.take k≠[]→X0.next+1≤ia)
theorem LocJ.to {X0:Hp} {S:LpS} {bx:Nat} {node:Str} {l:List Str} {k:Nat} {Y Y':Hp} (J:LocJ X0 S bx node l k Y) (hl:Hp.Lt Y') (hn:Y.next≤Y'.next) (h:∀j blk,Y.get j=some blk→Y'.get j=some blk):LocJ X0 S bx node l k Y':=by
  obtain ⟨v,ia,a,b,c⟩:=J.out
  exact ⟨hl,Nat.le_trans J.nx hn,fun j blk hj g=>h _ _ (J.ext j blk hj g),h _ _ J.lp,v,ia,h _ _ a,b.imp (fun x=>x) fun ⟨p,q,m,r,t⟩=>⟨p,q,m,h _ _ r,t⟩,c⟩
theorem ycj (l:List Str):(tcs l).length=l.length:=by simp [tcs]
theorem tcs_app {X:Hp} {n1:Nat} {l:List Str} {v:V} {ia:Nat} (hl:Hp.Lt X) (hb:l.length≤500000000) (h:yho X (tcs l) v ia) (hia:l≠[]→n1≤ia) (hn:n1≤X.next) (x:Str):
    ∃pp X2 ia2,y2p X 1 16 v (.fs [[.s x]])=some (.sl pp (l.length+1) 1,X2)∧Hp.Lt X2∧X.next≤X2.next∧yho X2 (tcs (l++[x])) (.sl pp (l.length+1) 1) ia2∧n1≤ia2∧∀j blk,j<n1→X.get j=some blk→X2.get j=some blk:=by
  rcases h with ⟨e,z,rfl⟩ | ⟨hne,rfl,ma,ga,hma⟩
  · have e0:l=[]:=by simpa [tcs] using e
    subst e0
    refine ⟨some (X.next,0,1),X.add (.cells [.s x] 1),X.next,by simp [y2p,y4o,y6f],Hp.add_lt hl _,by simp,.inr ⟨by simp [tcs],by simp [tcs],1,by simp [tcs],by simp [tcs]⟩,hn,fun j blk hj g=>?_⟩
    simp [show j≠X.next by omega,g]
  · have hne':l≠[]:=fun h=>hne (by rw [h];rfl)
    have h1:=hia hne'
    have h2:=hl _ _ ga
    have htl:=ycj l
    rw [htl] at hma
    refine ⟨some (ia,0,l.length+1),X.upd ia (.cells (tcs l++[.s x]) ma),ia,?_,Hp.upd_lt hl h2 _,by simp,.inr ⟨by simp [tcs],by simp [tcs],ma,by simp [tcs],by simp [tcs];omega⟩,h1,fun j blk hj g=>?_⟩
    · rw [htl]
      have hk4:(l.length+1)*16≤y6f:=by unfold y6f;omega
      generalize tcs l=row at ga htl ⊢
      simp [y2p,y4o,ga,htl,y4j,hk4]
    · simp [show j≠ia by omega,g]
set_option maxHeartbeats 1000000 in
theorem locs_ok {s:Sy} {id:Nat} {L:RkL} {m:Bool} {X0:Hp} (R:RkOk s id L m X0) {i:Nat} {e:RkE} (he:L.es[i]?=some e) {bx cb mb:Nat} (hbx:L.tag bx=0) (hbb:bx≠cb) {node:Str} (gb:X0.get bx=some (.cells [.s node,.sl none 0 0] 2)) (gc:X0.get cb=some (.cells [.p (some (e.sid,0,1))] mb)) (hmb:mb≤1) (hcb:L.tag cb=0) {w:V} {iid:Nat} {Q:y59}
    (hQ:∀X v ia,Hp.Lt X→X0.next≤X.next→(∀j blk,j≠bx→X0.get j=some blk→X.get j=some blk)→X.get bx=some (.cells [.s node,v] 2)→yho X (tcs ((elB e.bs).map fun k=>L.ts.getD k [])) v ia→(elB e.bs≠[]→X0.next≤ia)→Q .normal [(1,.fp [.p (some (id,0,10))] 0),(2,.sl none 0 0),(3,w),(6,.p (some (bx,0,2))),(12,.it iid)] X):
    AX Tryz.prog 44 (.post [1,2,3,6,12] (.block 2 (.post [1,2,3,6,12] (.rangeFunc (.t 24) [25] ye.a1 ye.b1)))) Q [(1,.fp [.p (some (id,0,10))] 0),(2,.sl none 0 0),(3,w),(6,.p (some (bx,0,2))),(12,.it iid),(24,.fn y3y [.p (some (cb,0,1))])] X0:=by
  have S0:=R.set i e he
  obtain ⟨ms,gs,hms⟩:=S0.box
  have hbl:=S0.ok.len
  have hel:=yam e.bs
  have hlt:=R.lt
  have nb:=hlt _ _ gb
  have nc':=hlt _ _ gc
  have ns:=hlt _ _ gs
  have hsb:e.sid≠bx:=fun q=>by have:=(R.tse i e he).1;rw [q,hbx] at this;omega
  obtain ⟨ls,hls⟩:∃ls,ls=(elB e.bs).map fun k=>L.ts.getD k []:=⟨_,rfl⟩
  have hll:ls.length=(elB e.bs).length:=by rw [hls];simp
  refine AX.pblock (AX.prange rfl fun S hS=>?_)
  have x1:X0.Ext (X0.add (.obj (.lp S .ready))):=.add hlt _
  refine (yj2 X0.next cb e.sid 0 ms mb [e.v] e.v e.bs (locS L.ts bx X0.next S) (LocJ X0 S bx node ls) _ S0.ok (x1.2 _ _ gc) hmb (x1.2 _ _ gs) hms rfl (S0.own.row.ext x1)
    ⟨Hp.add_lt hlt _,by simp,fun j blk _ g=>x1.2 _ _ g,by simp,.sl none 0 0,0,x1.2 _ _ gb,.inl ⟨rfl,0,rfl⟩,fun h=>absurd (by simp) h⟩ (fun k X b J=>J.to (Hp.add_lt J.lt _) (by simp) fun j blk g=>by have:=J.lt _ _ g;simp [show j≠X.next by omega,g])
    (fun k X b c J=>J.to (Hp.upd_lt (Hp.add_lt J.lt _) (by simp) _) (by simp) fun j blk g=>by have:=J.lt _ _ g;simp [show j≠X.next by omega,g]) ?_).mono ?_
  · intro k X n hn J
    have hk:=(List.getElem?_eq_some_iff.1 hn).1
    have hnl:=S0.lt n (List.mem_of_getElem? hn)
    obtain ⟨x,hx⟩:∃x,L.ts[n]?=some x:=⟨_,List.getElem?_eq_getElem hnl⟩
    have hgx:L.ts.getD n []=x:=by rw [List.getD_eq_getElem?_getD,hx];rfl
    have hlk:ls[k]?=some x:=by rw [hls];simp [hn,hgx,hx]
    have htk:ls.take (k+1)=ls.take k++[x]:=by rw [List.take_add_one,hlk];rfl
    have htl:(ls.take k).length=k:=by simp;omega
    obtain ⟨u,ia,jo,js,ji⟩:=J.out
    have nx:=J.nx
    have l1:Hp.Lt (X.upd X0.next (.obj (.lp S .busy))):=Hp.upd_lt J.lt (by omega) _
    have js':yho (X.upd X0.next (.obj (.lp S .busy))) (tcs (ls.take k)) u ia:=by
      rcases js with h | ⟨a,b,mm,c,d⟩
      · exact .inl h
      · have:=ji fun h=>a (by rw [h];rfl)
        exact .inr ⟨a,b,mm,by simp [show ia≠X0.next by omega,c],d⟩
    obtain ⟨pp,X2,ia2,q0,q1,q2,q3,q4,q5⟩:=tcs_app l1 (by rw [htl];omega) js' ji (by simpa using nx) x
    rw [htl] at q0 q3
    have hnb:bx≠X0.next:=by omega
    have est:locS L.ts bx X0.next S n X=(X2.upd bx (.cells [.s node,.sl pp (k+1) 1] 2)).upd X0.next (.obj (.lp S .ready)):=by
      simp only [locS,jo,hgx,q0]
    have gl:X2.get X0.next=some (.obj (.lp S .busy)):=q5 _ _ (by omega) (by simp)
    have gb2:X2.get bx=some (.cells [.s node,u] 2):=q5 _ _ (by omega) (by simp [hnb,jo])
    refine ⟨?_,?_⟩
    · rw [est]
      refine ⟨Hp.upd_lt (Hp.upd_lt q1 (by simp at q2;omega) _) (by simp at q2 ⊢;omega) _,by simp at q2 ⊢;omega,fun j blk hj g=>?_,by simp,.sl pp (k+1) 1,ia2,by simp [hnb],?_,fun _=>q4⟩
      · have:=hlt _ _ g
        simp [show j≠X0.next by omega,hj]
        exact q5 j blk (by omega) (by simp [show j≠X0.next by omega];exact J.ext _ _ hj g)
      · rw [htk]
        exact q3.imp (fun x=>x) fun ⟨a,b,mm,c,d⟩=>⟨a,b,mm,by simp [show ia2≠X0.next by omega,show ia2≠bx by omega,c],d⟩
    · rw [est]
      refine YC.walk hS J.lp rfl ?_
      simp only [ye.a1]
      apply jE
      simp [ye.r8,putAll]
      refine ⟨J.lp,?_⟩
      simp only [ye.b1]
      have RX:RkOk s id L m (X.upd X0.next (.obj (.lp S .busy))):=R.move l1 (by simp;omega) fun j blk h0 g=>by
        have:=hlt _ _ g
        simp [show j≠X0.next by omega]
        exact J.ext _ _ (fun q=>h0 (by rw [q];exact hbx)) g
      refine AX.pblock (AX.drw ?_)
      simp [ye.r9,jo,hnb]
      refine yez _ (yc6 RX hx) ?_
      simp [q0,-y2p,y7s,jo,hnb,gb2]
      simp [y8n,gl,Ne.symm hnb]
  · rintro u Y J
    obtain ⟨v,ia,jo,js,ji⟩:=J.out
    rw [←hll,List.take_length] at js ji
    refine .inl ⟨J.lp,?_⟩
    have nx:=J.nx
    have hd:∀j,j≠X0.next→(Y.del X0.next).get j=Y.get j:=fun j h=>by simp only [Hp.del];rw [if_neg h]
    simp
    refine hQ _ v ia (Hp.del_lt J.lt _) (by simp only [Hp.del];omega) (fun j blk hj g=>?_) ?_ ?_ (fun h=>?_)
    · have:=hlt _ _ g
      rw [hd _ (by omega)];exact J.ext _ _ hj g
    · rw [hd _ (by omega)];exact jo
    · rw [←hls]
      rcases js with h | ⟨a,b,mm,c,d⟩
      · exact .inl h
      · have:=ji fun h=>a (by rw [h];rfl)
        exact .inr ⟨a,b,mm,by rw [hd _ (by omega)];exact c,d⟩
    · have:=ji fun h2=>h (List.length_eq_zero_iff.1 (by rw [←hll,h2];rfl))
      omega
def y7r (L:RkL) (e:RkE):List Str:=(elB e.bs).map fun k=>L.ts.getD k []
structure FOk (L:RkL) (n0:Nat) (X:Hp) (f:Str × V):Prop where
  ex:∃e∈L.es,e.node=f.1∧elB e.bs≠[]∧∃ia m,n0≤ia∧f.2=.sl (some (ia,0,(ya7 (y7r L e)).length)) (ya7 (y7r L e)).length 1∧X.get ia=some (.cells (tcs (ya7 (y7r L e))) m)∧m≤(ya7 (y7r L e)).length
theorem yem (l:List Str):(ya7 l).length=l.length:=List.length_mergeSort l
theorem FOk.ne {L:RkL} {n0:Nat} {X:Hp} {f:Str × V} (h:FOk L n0 X f) {iw mw:Nat} {fs:List (Str × V)} (hw:X.get iw=some (.cells (ybx fs) mw)) (hsl:∀g∈fs,∃a n z,g.2=.sl a n z):∀e∈L.es,∀ia m,elB e.bs≠[]→X.get ia=some (.cells (tcs (ya7 (y7r L e))) m)→ia≠iw:=by
  intro e _ ia m hne hg q
  rw [q,hw] at hg
  injection hg with hg;injection hg with hg _
  have hl:(ya7 (y7r L e)).length=(elB e.bs).length:=by rw [yem];simp [y7r]
  have hp:0<(elB e.bs).length:=List.length_pos_iff.2 hne
  have hlen:=congrArg List.length hg
  rw [yb2,ycj,hl] at hlen
  cases fs with
  | nil=>simp at hlen;omega
  | cons g r=>
    obtain ⟨a,n,z,hgz⟩:=hsl g (by simp)
    have h1:=(yb3 (l:=g::r) (i:=0) rfl).2
    rw [hg,hgz] at h1
    simp [tcs] at h1
theorem FOk.keep {L:RkL} {n0:Nat} {X X':Hp} {f:Str × V} (h:FOk L n0 X f) (k:∀e∈L.es,∀ia m,elB e.bs≠[]→X.get ia=some (.cells (tcs (ya7 (y7r L e))) m)→X'.get ia=some (.cells (tcs (ya7 (y7r L e))) m)):FOk L n0 X' f:=by
  obtain ⟨e,h1,h2,h3,ia,m,h4,h5,h6,h7⟩:=h.ex
  exact ⟨e,h1,h2,h3,ia,m,h4,h5,k e h1 ia m h3 h6,h7⟩
theorem FOk.sl {L:RkL} {n0:Nat} {X:Hp} {f:Str × V} (h:FOk L n0 X f):∃a n z,f.2=.sl a n z:=by
  obtain ⟨e,_,_,_,ia,m,_,h5,_⟩:=h.ex
  exact ⟨_,_,_,h5⟩
def OwnW (n0:Nat) (X:Hp) (w:V) (fs:List (Str × V)):Prop:=(fs=[]∧w=.sl none 0 0)∨(fs≠[]∧∃iw mw,n0≤iw∧w=.sl (some (iw,0,fs.length*2)) fs.length 2∧X.get iw=some (.cells (ybx fs) mw)∧mw≤fs.length*2)
structure FctAt (L:RkL) (H:Hp) (w:V) (seen:List Nat) (fs:List (Str × V)) (X:Hp):Prop where
  ext:H.Ext X
  lt:Hp.Lt X
  own:OwnW H.next X w fs
  ok:∀f∈fs,FOk L H.next X f
  nod:(fs.map (·.1)).Nodup
  frm:∀f∈fs,∃j∈seen,∃e,L.es[j]?=some e∧e.node=f.1
  all:∀j∈seen,∀e,L.es[j]?=some e→elB e.bs≠[]→∃f∈fs,f.1=e.node
theorem FctAt.to {L:RkL} {H:Hp} {w:V} {seen:List Nat} {fs:List (Str × V)} {X X':Hp} (A:FctAt L H w seen fs X) (hn:X.next≤X'.next) (hl:Hp.Lt X') (k:∀j cs m,X.get j=some (.cells cs m)→X'.get j=some (.cells cs m)) (kh:∀j blk,H.get j=some blk→X'.get j=some blk):FctAt L H w seen fs X':=
  ⟨⟨Nat.le_trans A.ext.1 hn,kh⟩,hl,A.own.imp (fun x=>x) fun ⟨a,iw,mw,b,c,d,e⟩=>⟨a,iw,mw,b,c,k _ _ _ d,e⟩,fun f hf=>(A.ok f hf).keep fun e _ ia m _ g=>k _ _ _ g,A.nod,A.frm,A.all⟩
theorem FctAt.app {L:RkL} {H:Hp} {w:V} {seen:List Nat} {fs:List (Str × V)} {X:Hp} (A:FctAt L H w seen fs X) (hlt:Hp.Lt H) (hb:fs.length≤10000000) {f:Str × V} (hf:FOk L H.next X f) (hnw:∀g∈fs,g.1≠f.1) {j:Nat} {e:RkE} (he:L.es[j]?=some e) (hen:e.node=f.1):
    ∃w' X',y2p X 2 40 w (.fs [[.s f.1,f.2]])=some (w',X')∧FctAt L H w' (seen++[j]) (fs++[f]) X'∧∀i o,X.get i=some (.obj o)→X'.get i=some (.obj o):=by
  obtain ⟨fa,fn,fz,hfs⟩:=hf.sl
  have hnod:((fs++[f]).map (·.1)).Nodup:=by
    rw [List.map_append,List.nodup_append]
    refine ⟨A.nod,by simp,fun a ha b hb'=>?_⟩
    simp at hb';subst hb'
    obtain ⟨g,hg,rfl⟩:=List.mem_map.1 ha
    exact hnw g hg
  have hfrm:∀g∈fs++[f],∃j'∈seen++[j],∃e,L.es[j']?=some e∧e.node=g.1:=fun g hg=>by
    rcases List.mem_append.1 hg with hg | hg
    · obtain ⟨j',h1,h2⟩:=A.frm g hg
      exact ⟨j',List.mem_append.2 (.inl h1),h2⟩
    · simp at hg;subst hg
      exact ⟨j,by simp,e,he,hen⟩
  have hall:∀j'∈seen++[j],∀d,L.es[j']?=some d→elB d.bs≠[]→∃g∈fs++[f],g.1=d.node:=fun j' hj' d hd hne=>by
    rcases List.mem_append.1 hj' with h | h
    · obtain ⟨g,h1,h2⟩:=A.all j' h d hd hne
      exact ⟨g,List.mem_append.2 (.inl h1),h2⟩
    · simp at h;subst h
      rw [he] at hd;injection hd with hd;subst hd
      exact ⟨f,by simp,hen.symm⟩
  have hfv:ybx (fs++[f])=ybx fs++[.s f.1,f.2]:=by simp [ybx]
  rcases A.own with ⟨rfl,rfl⟩ | ⟨hne,iw,mw,h1,rfl,gw,hmw⟩
  · refine ⟨.sl (some (X.next,0,2)) 1 2,X.add (.cells [.s f.1,f.2] 2),by simp [y2p,y4o,y6f],⟨A.ext.trans (.add A.lt _),Hp.add_lt A.lt _,.inr ⟨by simp,X.next,2,A.ext.1,by simp,by simp [ybx],by simp⟩,fun g hg=>?_,hnod,hfrm,hall⟩,fun i o g=>by have:=A.lt _ _ g;simp [show i≠X.next by omega,g]⟩
    simp at hg;subst hg
    exact hf.keep fun e _ ia m _ g=>by have:=A.lt _ _ g;simp [show ia≠X.next by omega,g]
  · have hfl:=yb2 fs
    have hiw:=A.lt _ _ gw
    have hsl:∀g∈fs,∃a n z,g.2=.sl a n z:=fun g hg=>(A.ok g hg).sl
    have hnew:=hf.ne gw hsl
    refine ⟨.sl (some (iw,0,fs.length*2+2)) (fs.length+1) 2,X.upd iw (.cells (ybx fs++[.s f.1,f.2]) mw),?_,⟨⟨by simpa using A.ext.1,fun i blk g=>?_⟩,Hp.upd_lt A.lt hiw _,.inr ⟨by simp,iw,mw,h1,by simp [Nat.add_mul],by simp [hfv],by simp;omega⟩,fun g hg=>?_,hnod,hfrm,hall⟩,fun i o g=>?_⟩
    · have hk4:(fs.length+1)*40≤y6f:=by unfold y6f;omega
      rw [hfs]
      generalize ybx fs=row at gw hfl ⊢
      simp [y2p,y4o,gw,hfl,y4j,hk4]
    · have:=hlt _ _ g
      simp [show i≠iw by omega]
      exact A.ext.2 _ _ g
    · have hk:FOk L H.next X g:=by
        rcases List.mem_append.1 hg with h | h
        · exact A.ok g h
        · simp at h;subst h;exact hf
      exact hk.keep fun e he' ia m hne' g'=>by simp [hnew e he' ia m hne' g',g']
    · have:i≠iw:=fun q=>by rw [q,gw] at g;cases g
      simp [this,g]
end Go.Proofs.YtikpijbeobeckaaGreatDoor
