/- Part 4. -/
import Derived.Test.YtikpijbeobeckaaGreatDoorXGw3
set_option linter.unusedSimpArgs false
set_option linter.unusedVariables false
namespace Go.Proofs.YtikpijbeobeckaaGreatDoor.Am
open Go Go.RowKit
theorem y4s.still {P:Program} {o:Oper} {κ:K} {H:Hp} (S:Sim κ H) {a:Act} {v:V} {cv:Value} (hv:VR κ v cv) (hr:(execOp a.eval o).run P κ.w=.ok (.value cv) κ.w):
  ∃κ' nx cv,κ.Le κ'∧Sim κ' H∧VR κ' v cv∧(execOp a.eval o).run P κ.w=.ok nx κ'.w∧(nx=.value cv∨(nx=.skip∧cv=undef)):=
 ⟨κ,_,cv,.refl κ,S,hv,hr,.inl rfl⟩
theorem yal {P:Program} {t:TypeId} {b:Bool} (h:aggP P t=some b) (w:World):(isAgg t).run P w=.ok b w:=by
 unfold aggP at h
 cases hu:P.underlying t with
 | none=>simp [hu] at h
 | some d=>
  simp only [hu,Option.map_some] at h
  injection h with h
  simp only [isAgg,Sem.run_bind,run_underlying hu,Result.andThen_ok]
  subst h
  cases d <;> rfl
theorem y4m {P:Program} {t:TypeId} {n:Nat} (h:szP P t=some n) (w:World):(sizeOf t).run P w=.ok n w:=by
 unfold szP at h
 cases hi:P.info? t with
 | none=>simp [hi] at h
 | some i=>simp [hi] at h;simp [sizeOf,typeInfo,hi,h]
theorem ybq {P:Program} {t:TypeId} {cs:List Value} (h:yly P t=some cs) (w:World):∃z,z.cells.toList=cs∧(zeroValue t).run P w=.ok z w:=by
 unfold yly at h
 cases hi:P.info? t with
 | none=>simp [hi] at h
 | some i=>
  cases hz:i.zero with
  | none=>simp [hi,hz] at h
  | some z=>simp [hi,hz] at h;exact ⟨z,h,by simp [zeroValue,typeInfo,hi,hz]⟩
theorem yj9 {P:Program} {t:TypeId} {zs:List V} (h:zOk P t zs=true):∃cs,yly P t=some cs∧∀κ,VRs κ zs cs:=by
 unfold zOk at h
 split at h
 ·rename_i cs hcs;exact ⟨cs,hcs,fun κ=>yig h κ⟩
 ·cases h
theorem yan {P:Program} {t:TypeId} {e:TypeId} (h:y83 P t=some e):P.underlying t=some (.slice e):=by
 unfold y83 at h
 split at h
 ·injection h with h;subst h;assumption
 ·cases h
theorem VRs.one {κ:K} {v:V} {cs:List Value} (h:VRs κ [v] cs):∃c,cs=[c]∧VR κ v c:=by
 obtain ⟨hl,hv⟩:=h
 cases cs with
 | nil=>simp at hl
 | cons c r=>
  cases r with
  | nil=>exact ⟨c,rfl,by simpa using hv 0 v rfl⟩
  | cons _ _=>simp at hl
theorem VRs.sub {κ:K} {vs:List V} {cs:List Value} (h:VRs κ vs cs) (a n:Nat):VRs κ ((vs.drop a).take n) ((cs.drop a).take n):=by
 refine .of_get (by simp [h.1]) fun j v hj=>?_
 rw [kj] at hj ⊢
 split at hj
 ·rename_i hlt
  rw [if_pos hlt]
  rw [List.getElem?_drop] at hj ⊢
  exact h.get hj
 ·cases hj
section
variable {P:Program} {dst:Option Tmp} {type:TypeId} {pos:String} {after:Array Edge} {guard:Option (Nat × Bool)}
theorem yk8 {x:Operand} {y:AO} (h:y3z x y=true):y4s P ⟨dst,.move x,type,pos,after,guard⟩ (.mov y)∧y4s P ⟨dst,.assign x,type,pos,after,guard⟩ (.mov y):=by
 constructor <;> intro F H v H' hs κ a S r <;> simp only [y2c] at hs <;> injection hs with hs <;> injection hs with h1 h2 <;> subst h1 <;> subst h2 <;>
  exact y4s.still S (y2b h r) rfl
theorem yoj {c x y:Operand} {c' x' y':AO} (hc:y3z c c'=true) (hx:y3z x x'=true) (hy:y3z y y'=true):y4s P ⟨dst,.pick c x y,type,pos,after,guard⟩ (.pick c' x' y'):=by
 intro F H v H' hs κ a S r
 simp only [y2c] at hs
 have rc:=y2b hc r
 split at hs
 ·rename_i b hb
  injection hs with hs;injection hs with h1 h2;subst h1;subst h2
  rw [hb] at rc
  refine y4s.still (cv:=if b then a.eval x else a.eval y) S ?_ ?_
  ·cases b
   ·exact y2b hy r
   ·exact y2b hx r
  ·simp only [execOp,VR.inv_b rc,asBool,Sem.run_bind,Sem.run_pure,Result.andThen_ok]
 ·cases hs
theorem new_ok {κ:K} {H:Hp} (S:Sim κ H) {zs:List V} {cs:List Value} (hv:VRs κ zs cs) (e:TypeId):
  κ.Le (κ.new H.next zs.length (.cells cs.toArray e (0,0)))∧Sim (κ.new H.next zs.length (.cells cs.toArray e (0,0))) (H.add (.cells zs zs.length))∧
  VR (κ.new H.next zs.length (.cells cs.toArray e (0,0))) (.p (some (H.next,0,zs.length))) (.pointer (some ⟨κ.w.heap.size,0,none⟩)):=by
 refine ⟨K.new_le S _ _,S.new zs cs.toArray e (by simp [hv.1]) (fun j v hj=>?_),?_⟩
 ·have:=hv.2 j v hj
  simpa [kH,List.getD] using this
 ·have:=VR.p (κ:=κ.new H.next zs.length (.cells cs.toArray e (0,0))) H.next 0 zs.length (K.new_ok _ _ _ _ (kG _))
  rw [K.new_pl] at this
  exact this
theorem Sim.reCells {κ:K} {H:Hp} (S:Sim κ H) {id m:Nat} {cs cs':List V} (hg:H.get id=some (.cells cs m)) (hl:cs'.length=cs.length)
  (hv:∀(j:Nat) v',cs'[j]?=some v'→∃v,cs[j]?=some v∧∀c,VR κ v c→VR κ v' c):Sim κ (H.upd id (.cells cs' m)):=by
 have get:∀k cs2 m2,(H.upd id (.cells cs' m)).get k=some (.cells cs2 m2)→∃cs1,H.get k=some (.cells cs1 m2)∧cs1.length=cs2.length∧∀(j:Nat) v',cs2[j]?=some v'→∃v,cs1[j]?=some v∧∀c,VR κ v c→VR κ v' c:=fun k cs2 m2 h=>by
  simp only [Hp.upd] at h
  by_cases e:k=id
  ·subst e
   rw [if_pos rfl] at h;injection h with h;injection h with h1 h2;subst h1;subst h2
   exact ⟨cs,hg,hl.symm,hv⟩
  ·rw [if_neg e] at h
   exact ⟨cs2,h,rfl,fun j v' hj=>⟨v',hj,fun c r=>r⟩⟩
 have obj:∀k es,(H.upd id (.cells cs' m)).get k=some (.obj es)→H.get k=some (.obj es):=fun k es h=>by
  simp only [Hp.upd] at h
  by_cases e:k=id
  ·rw [if_pos e] at h;cases h
  ·rwa [if_neg e] at h
 refine ⟨fun k e o=>⟨(S.ok k e o).1,fun cs2 m2 h=>?_⟩,fun k h=>⟨(S.hole k h).1,?_⟩,fun k blk h=>?_,S.fz,S.ic,fun k cs2 m2 h=>?_,fun k cs2 m2 h e h1 h2=>?_,fun k es h=>S.maps k es (obj k es h),fun k k' e e' cs2 m2 cs3 m3 h h' h1 h2 h3 h4 h5=>?_,fun k cs2 m2 e e' h h1 h2 h3 h4 h5=>?_,fun k k' es es' h h' h1=>S.sepm k k' es es' (obj k es h) (obj k' es' h') h1,S.tb⟩
 ·obtain ⟨cs1,g,l,_⟩:=get k cs2 m2 h
  have:=(S.ok k e o).2 cs1 m2 g
  omega
 ·have:=(S.hole k h).2
  simp only [Hp.upd]
  rw [if_neg (fun e=>by subst e;rw [this] at hg;cases hg)];exact this
 ·simp only [Hp.upd] at h
  by_cases e:k=id
  ·subst e;exact S.lt _ _ hg
  ·rw [if_neg e] at h;exact S.lt _ _ h
 ·obtain ⟨cs1,g,l,_⟩:=get k cs2 m2 h
  have:=S.le k cs1 m2 g
  omega
 ·obtain ⟨cs1,g,l,hr⟩:=get k cs2 m2 h
  obtain ⟨⟨arr,t,fr,p1,p2,p3,p4⟩,p5⟩:=S.cells k cs1 m2 g e h1 (by omega)
  exact ⟨⟨arr,t,fr,p1,p2,fun j v hj hv'=>by
   obtain ⟨v0,g0,r0⟩:=hr j v hv'
   exact r0 _ (p3 j v0 hj g0),p4⟩,p5⟩
 ·obtain ⟨cs1,g,l,_⟩:=get k cs2 m2 h
  obtain ⟨cs4,g',l',_⟩:=get k' cs3 m3 h'
  exact S.sep k k' e e' cs1 m2 cs4 m3 g g' h1 (by omega) h3 (by omega) h5
 ·obtain ⟨cs1,g,l,_⟩:=get k cs2 m2 h
  exact S.base k cs1 m2 e e' g h1 (by omega) h3 (by omega) h5
theorem yov {e:TypeId} {off:Nat} {x:Operand} {y:AO} (h:y3z x y=true):y4s P ⟨dst,.box e x,type,pos,after,guard⟩ (.boxT e off y):=by
 intro F H v H' hs κ a S r
 simp only [y2c] at hs
 split at hs
 ·rename_i cs hcs
  split at hs
  ·rename_i hoff
   injection hs with hs;injection hs with h1 h2;subst h1;subst h2
   obtain ⟨hv,_⟩:=yaf hcs (y2b h r)
   obtain ⟨le,S',r'⟩:=new_ok S hv e
   have hlt:=(List.getElem?_eq_some_iff.1 hoff).1
   have S2:=S'.reCells (id:=H.next) (m:=cs.length) (cs:=cs) (cs':=cs.set off (.pz e cs.length H.next cs.length)) (by simp [Hp.add]) (by simp) fun j v' hj=>by
    by_cases ej:j=off
    ·subst ej
     simp [hlt] at hj
     subst hj
     refine ⟨_,hoff,fun c hc=>?_⟩
     cases hc
     refine .pz _ _ _ _ (K.new_ok _ _ _ _ (kG _)) ?_ (by rw [K.new_pl])
     rw [K.new_pl]
     have hl:(a.eval x).cells.toList.length=cs.length:=hv.1.symm
     show y2q (κ.w.alloc _) κ.w.heap.size=_
     simp only [y2q,y23,List.size_toArray,hl]
    ·rw [List.getElem?_set_ne (Ne.symm ej)] at hj
     exact ⟨v',hj,fun c r=>r⟩
   have he:(H.add (.cells cs cs.length)).upd H.next (.cells (cs.set off (.pz e cs.length H.next cs.length)) cs.length)=H.add (.cells (cs.set off (.pz e cs.length H.next cs.length)) cs.length):=by
    simp only [Hp.upd,Hp.add]
    congr 1
    funext k
    split <;> rfl
   rw [he] at S2
   refine ⟨_,_,_,le,S2,r',?_,.inl rfl⟩
   simp only [execOp,Instr.box,Sem.run_bind,newVar,newRow,run_newObj,Sem.run_pure,Result.andThen_ok]
   simp
   rfl
  ·cases hs
 ·cases hs
theorem does_new {e:TypeId} {zs:List V} (h:zOk P e zs=true):y4s P ⟨dst,.alloc e,type,pos,after,guard⟩ (.new zs):=by
 intro F H v H' hs κ a S r
 simp only [y2c] at hs
 injection hs with hs;injection hs with h1 h2;subst h1;subst h2
 obtain ⟨cs,hz,hv⟩:=yj9 h
 obtain ⟨z,hzc,hrun⟩:=ybq hz κ.w
 obtain ⟨le,S',r'⟩:=new_ok S (hv κ) e
 refine ⟨_,_,_,le,S',r',?_,.inl rfl⟩
 have:z.cells=cs.toArray:=by rw [←hzc]
 simp only [execOp,Instr.alloc,Sem.run_bind,hrun,Result.andThen_ok,newVar,newRow,this,run_newObj,Sem.run_pure]
 rfl
theorem does_box {e:TypeId} {x:Operand} {y:AO} (h:y3z x y=true):y4s P ⟨dst,.box e x,type,pos,after,guard⟩ (.box y):=by
 intro F H v H' hs κ a S r
 simp only [y2c] at hs
 split at hs
 ·rename_i cs hcs
  injection hs with hs;injection hs with h1 h2;subst h1;subst h2
  obtain ⟨hv,_⟩:=yaf hcs (y2b h r)
  obtain ⟨le,S',r'⟩:=new_ok S hv e
  refine ⟨_,_,_,le,S',r',?_,.inl rfl⟩
  simp only [execOp,Instr.box,Sem.run_bind,newVar,newRow,run_newObj,Sem.run_pure,Result.andThen_ok]
  simp
  rfl
 ·cases hs
theorem ycc {place:Nat→Option (Nat × Nat)} {κ:K} {F:Fr} {a:Act} (r:FR κ F a.tmps):∀{ps:List (Nat × Operand)} {qs:List (Nat × Nat × AO)},y7z place ps qs=true→
  (ps.map fun p=>(p.1,a.eval p.2)).length=(evp F qs).length∧
  ∀(j:Nat) (p:Nat × Value) (q:Nat × Nat × V),(ps.map fun p=>(p.1,a.eval p.2))[j]?=some p→(evp F qs)[j]?=some q→place p.1=some (q.1,q.2.1)∧VR κ q.2.2 p.2
 | [],[],_=>⟨rfl,fun j p q h=>by simp at h⟩
 | (i,o)::ps,(off,n,x)::qs,h=>by
  simp only [y7z,kF,beq_iff_eq] at h
  obtain ⟨⟨h1,h2⟩,h3⟩:=h
  obtain ⟨hl,hr⟩:=ycc r h3
  refine ⟨by simpa [evp] using hl,fun j p q hp hq=>?_⟩
  cases j with
  | zero=>
   simp at hp;simp [evp] at hq
   subst hp;subst hq
   exact ⟨h1,y2b h2 r⟩
  | succ j=>exact hr j p q (by simpa using hp) (by simpa [evp] using hq)
 | [],_::_,h=>by cases h
 | _::_,[],h=>by cases h
theorem yl7 {t:TypeId} {ps:Array (Nat × Operand)} {zero:List V} {qs:List (Nat × Nat × AO)} (hz:zOk P t zero=true)
  (hp:(match yn9 P t with | some pl=>y7z pl ps.toList qs | none=>false)=true):y4s P ⟨dst,.build t ps,type,pos,after,guard⟩ (.build zero qs):=by
 intro F H v H' hs κ a S r
 simp only [y2c] at hs
 split at hs
 ·rename_i cs hcs
  injection hs with hs;injection hs with h1 h2;subst h1;subst h2
  split at hp
  ·rename_i pl hpl
   obtain ⟨zcs,hzz,hv⟩:=yj9 hz
   obtain ⟨hl,hr⟩:=ycc r hp
   obtain ⟨z,hzc,_⟩:=ybq hzz κ.w
   have hvz:VRs κ zero z.cells.toList:=by rw [hzc];exact hv κ
   obtain ⟨cells,e1,e2⟩:=yfx pl _ _ z.cells zero cs hvz hl hr hcs
   refine y4s.still S (VR.agg' e2) ?_
   have hbuilt:P.built t (ps.map fun (i,x)=>(i,a.eval x)).toList=some cells:=by
    unfold yly at hzz
    unfold Program.built
    unfold yn9 at hpl
    cases hi:P.info? t with
    | none=>simp [hi] at hzz
    | some it=>
     cases hz0:it.zero with
     | none=>simp [hi,hz0] at hzz
     | some z0=>
      have hzeq:z0.cells=z.cells:=by
       simp [hi,hz0] at hzz
       apply Array.ext'
       rw [hzc,←hzz]
      cases hu:P.underlying t with
      | none=>simp [hu] at hpl
      | some d=>
       simp only [hu] at hpl
       cases d <;> try (simp at hpl;done)
       case array n e=>
        simp only at hpl
        cases hie:P.info? e with
        | none=>simp [szP,hie] at hpl
        | some ie=>
         simp only [szP,hie,Option.map_some] at hpl
         injection hpl with hpl;subst hpl
         simp only [hz0,hie,hzeq]
         simpa using e1
       case struct fields=>
        simp only at hpl
        split at hpl
        ·rename_i pls hpls
         injection hpl with hpl;subst hpl
         simp only [hz0,hpls,hzeq]
         simpa using e1
        ·cases hpl
   simp only [execOp,Sem.run_bind,run_build κ.w t _ cells hbuilt,Result.andThen_ok,Sem.run_pure]
  ·cases hp
 ·cases hs
theorem yop {t:TypeId} {x:Operand} {agg:Bool} {n:Nat} {y:AO} (hx:y3z x y=true) (ha:aggP P t=some agg) (hn:(if agg then szP P t == some n else n == 1)=true):
  y4s P ⟨dst,.load t x,type,pos,after,guard⟩ (.load agg n y):=by
 intro F H v H' hs κ a S r
 simp only [y2c] at hs
 split at hs
 ·rename_i vs hrd
  cases ho:one agg vs with
  | none=>simp [ho] at hs
  | some u=>
   simp [ho] at hs
   obtain ⟨h1,h2⟩:=hs;subst h1;subst h2
   obtain ⟨ad,l,e1,e2,e2',e3,e4⟩:=rd_ok S hrd (y2b hx r)
   have hagg:=yal ha κ.w
   cases agg with
   | true=>
    simp only [one] at ho;injection ho with ho;subst ho
    simp at hn
    have hsz:=y4m hn κ.w
    refine y4s.still S (VR.agg vs l e3.1 e3.2) ?_
    have hl:=run_loadCells_list (P:=P) κ.w ad l e4
    rw [e2] at hl
    simp only [execOp,Instr.loadAt,Instr.sureAddr,loadVar,e1,Sem.run_bind,Sem.run_pure,Result.andThen_ok,hagg,if_true,hsz,hl]
   | false=>
    simp at hn;subst hn
    cases vs with
    | nil=>simp at e2'
    | cons u1 rest=>
     cases rest with
     | cons _ _=>simp at e2'
     | nil=>
      simp only [one] at ho;injection ho with ho;subst ho
      obtain ⟨c,rfl,hc⟩:=e3.one
      refine y4s.still S hc ?_
      have:=e4 0 c rfl
      rw [show ad.add 0=ad from by simp [Addr.add]] at this
      simp only [execOp,Instr.loadAt,Instr.sureAddr,loadVar,e1,Sem.run_bind,Sem.run_pure,Result.andThen_ok,hagg,kN,if_false,run_load,this]
 ·cases hs
theorem yl6 {t:TypeId} {x y:Operand} {n:Nat} {x' y':AO} (hx:y3z x x'=true) (hy:y3z y y'=true) (hn:szP P t=some n):
  y4s P ⟨dst,.store t x y,type,pos,after,guard⟩ (.store n x' y'):=by
 intro F H v H' hs κ a S r
 simp only [y2c] at hs
 split at hs
 ·rename_i vs hvs
  split at hs
  ·rename_i hlen
   obtain ⟨hv,hcell⟩:=yaf hvs (y2b hy r)
   have hxa:=y2b hx r
   unfold swr at hs
   split at hs
   ·rename_i id off ext hpx
    rw [hpx] at hxa
    split at hs
    ·rename_i cs m hg
     split at hs
     ·rename_i hc
      obtain ⟨h1,h2,h3⟩:=hc
      subst h1
      simp at hs
      obtain ⟨q1,q2⟩:=hs;subst q1;subst q2
      cases hxa':a.eval x with
      | pointer ad=>
       rw [hxa'] at hxa
       cases hxa with
       | p _ _ _ ok=>
        obtain ⟨κ',le,S',run,pl',ok'⟩:=Sim.setAll_ok (P:=P) vs _ S hg (fun e=>absurd e h3) (off:=off) (i:=0) (by simpa using h2) (fun u hu=>List.all_eq_true.1 hcell u hu) hv
        refine ⟨κ',.skip,undef,le,by simpa using S',.junk _,?_,.inr ⟨rfl,rfl⟩⟩
        have hcs:(a.eval y).cells.size=n:=by have:=hv.1;simp at this;omega
        simp only [execOp,Instr.storeAt,Instr.sureAddr,hxa',storeVar,Sem.run_bind,Sem.run_pure,Result.andThen_ok,y4m hn κ.w,hcs,ne_eq,not_true_eq_false,if_false,run]
      | _=>rw [hxa'] at hxa;cases hxa
     ·simp at hs
    ·simp at hs
   ·simp at hs
  ·cases hs
 ·cases hs
end
end Go.Proofs.YtikpijbeobeckaaGreatDoor.Am
