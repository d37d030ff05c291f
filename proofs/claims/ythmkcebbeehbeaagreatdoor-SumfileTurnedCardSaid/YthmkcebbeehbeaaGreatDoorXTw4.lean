/- Part 4 of the proof of the laws of the queries: Am7, Am8. -/
import Derived.Laws.StructEq
import Derived.Test.YthmkcebbeehbeaaGreatDoorXTw3
set_option linter.unusedSimpArgs false
set_option linter.unusedVariables false
namespace Go.Proofs.YthmkcebbeehbeaaGreatDoor.Am
open Go Go.RowKit
theorem y6h.still {P:Program} {o:Oper} {κ:K} {H:Hp} (S:Sim κ H) {a:Act} {v:V} {cv:Value} (hv:VR κ v cv) (hr:(execOp a.eval o).run P κ.w=.ok (.value cv) κ.w):
    ∃κ' nx cv,κ.Le κ'∧Sim κ' H∧VR κ' v cv∧(execOp a.eval o).run P κ.w=.ok nx κ'.w∧(nx=.value cv∨(nx=.skip∧cv=undef)):=
  ⟨κ,_,cv,.refl κ,S,hv,hr,.inl rfl⟩
theorem ycn {P:Program} {t:TypeId} {b:Bool} (h:aggP P t=some b) (w:World):(isAgg t).run P w=.ok b w:=by
  unfold aggP at h
  cases hu:P.underlying t with
  | none=>simp [hu] at h
  | some d=>
    simp only [hu,Option.map_some] at h
    injection h with h
    simp only [isAgg,Sem.run_bind,run_underlying hu,Result.andThen_ok]
    subst h
    cases d <;> rfl
theorem y5s {P:Program} {t:TypeId} {n:Nat} (h:szP P t=some n) (w:World):(sizeOf t).run P w=.ok n w:=by
  unfold szP at h
  cases hi:P.info? t with
  | none=>simp [hi] at h
  | some i=>simp [hi] at h;simp [sizeOf,typeInfo,hi,h]
theorem ydj {P:Program} {t:TypeId} {cs:List Value} (h:yo8 P t=some cs) (w:World):∃z,z.cells.toList=cs∧(zeroValue t).run P w=.ok z w:=by
  unfold yo8 at h
  cases hi:P.info? t with
  | none=>simp [hi] at h
  | some i=>
    cases hz:i.zero with
    | none=>simp [hi,hz] at h
    | some z=>simp [hi,hz] at h;exact ⟨z,h,by simp [zeroValue,typeInfo,hi,hz]⟩
theorem yls {P:Program} {t:TypeId} {zs:List V} (h:zOk P t zs=true):∃cs,yo8 P t=some cs∧∀κ,VRs κ zs cs:=by
  unfold zOk at h
  split at h
  · rename_i cs hcs;exact ⟨cs,hcs,fun κ=>ykz h κ⟩
  · cases h
theorem ycu {P:Program} {t:TypeId} {e:TypeId} (h:yad P t=some e):P.underlying t=some (.slice e):=by
  unfold yad at h
  split at h
  · injection h with h;subst h;assumption
  · cases h
theorem VRs.one {κ:K} {v:V} {cs:List Value} (h:VRs κ [v] cs):∃c,cs=[c]∧VR κ v c:=by
  obtain ⟨hl,hv⟩:=h
  cases cs with
  | nil=>simp at hl
  | cons c r=>
    cases r with
    | nil=>exact ⟨c,rfl,by simpa using hv 0 v rfl⟩
    | cons _ _=>simp at hl
theorem VRs.sub {κ:K} {vs:List V} {cs:List Value} (h:VRs κ vs cs) (a n:Nat):VRs κ ((vs.drop a).take n) ((cs.drop a).take n):=by
  refine .of_get (by simp [h.1]) fun j v hj=>?_
  rw [List.getElem?_take] at hj ⊢
  split at hj
  · rename_i hlt
    rw [if_pos hlt]
    rw [List.getElem?_drop] at hj ⊢
    exact h.get hj
  · cases hj
section
variable {P:Program} {dst:Option Tmp} {type:TypeId} {pos:String} {after:Array Edge} {guard:Option (Nat × Bool)}
theorem yml {x:Operand} {y:AO} (h:y53 x y=true):y6h P ⟨dst,.move x,type,pos,after,guard⟩ (.mov y)∧y6h P ⟨dst,.assign x,type,pos,after,guard⟩ (.mov y):=by
  constructor <;> intro F H v H' hs κ a S r <;> simp only [y37] at hs <;> injection hs with hs <;> injection hs with h1 h2 <;> subst h1 <;> subst h2 <;>
    exact y6h.still S (y32 h r) rfl
theorem yqh {c x y:Operand} {c' x' y':AO} (hc:y53 c c'=true) (hx:y53 x x'=true) (hy:y53 y y'=true):y6h P ⟨dst,.pick c x y,type,pos,after,guard⟩ (.pick c' x' y'):=by
  intro F H v H' hs κ a S r
  simp only [y37] at hs
  have rc:=y32 hc r
  split at hs
  · rename_i b hb
    injection hs with hs;injection hs with h1 h2;subst h1;subst h2
    rw [hb] at rc
    refine y6h.still (cv:=if b then a.eval x else a.eval y) S ?_ ?_
    · cases b
      · exact y32 hy r
      · exact y32 hx r
    · simp only [execOp,VR.inv_b rc,asBool,Sem.run_bind,Sem.run_pure,Result.andThen_ok]
  · cases hs
theorem new_ok {κ:K} {H:Hp} (S:Sim κ H) {zs:List V} {cs:List Value} (hv:VRs κ zs cs) (e:TypeId):
    κ.Le (κ.new H.next zs.length (.cells cs.toArray e (0,0)))∧Sim (κ.new H.next zs.length (.cells cs.toArray e (0,0))) (H.add (.cells zs zs.length))∧
    VR (κ.new H.next zs.length (.cells cs.toArray e (0,0))) (.p (some (H.next,0,zs.length))) (.pointer (some ⟨κ.w.heap.size,0,none⟩)):=by
  refine ⟨K.new_le S _ _,S.new zs cs.toArray e (by simp [hv.1]) (fun j v hj=>?_),?_⟩
  · have:=hv.2 j v hj
    simpa [Array.getD_eq_getD_getElem?,List.getD] using this
  · have:=VR.p (κ:=κ.new H.next zs.length (.cells cs.toArray e (0,0))) H.next 0 zs.length (K.new_ok _ _ _ _ (Nat.le_refl _))
    rw [K.new_pl] at this
    exact this
theorem Sim.reCells {κ:K} {H:Hp} (S:Sim κ H) {id m:Nat} {cs cs':List V} (hg:H.get id=some (.cells cs m)) (hl:cs'.length=cs.length)
    (hv:∀(j:Nat) v',cs'[j]?=some v'→∃v,cs[j]?=some v∧∀c,VR κ v c→VR κ v' c):Sim κ (H.upd id (.cells cs' m)):=by
  have get:∀k cs2 m2,(H.upd id (.cells cs' m)).get k=some (.cells cs2 m2)→∃cs1,H.get k=some (.cells cs1 m2)∧cs1.length=cs2.length∧∀(j:Nat) v',cs2[j]?=some v'→∃v,cs1[j]?=some v∧∀c,VR κ v c→VR κ v' c:=fun k cs2 m2 h=>by
    simp only [Hp.upd] at h
    by_cases e:k=id
    · subst e
      rw [if_pos rfl] at h;injection h with h;injection h with h1 h2;subst h1;subst h2
      exact ⟨cs,hg,hl.symm,hv⟩
    · rw [if_neg e] at h
      exact ⟨cs2,h,rfl,fun j v' hj=>⟨v',hj,fun c r=>r⟩⟩
  have obj:∀k es,(H.upd id (.cells cs' m)).get k=some (.obj es)→H.get k=some (.obj es):=fun k es h=>by
    simp only [Hp.upd] at h
    by_cases e:k=id
    · rw [if_pos e] at h;cases h
    · rwa [if_neg e] at h
  refine ⟨fun k e o=>⟨(S.ok k e o).1,fun cs2 m2 h=>?_⟩,fun k h=>⟨(S.hole k h).1,?_⟩,fun k blk h=>?_,S.fz,S.ic,fun k cs2 m2 h=>?_,fun k cs2 m2 h e h1 h2=>?_,fun k es h=>S.maps k es (obj k es h),fun k k' e e' cs2 m2 cs3 m3 h h' h1 h2 h3 h4 h5=>?_,fun k cs2 m2 e e' h h1 h2 h3 h4 h5=>?_,fun k k' es es' h h' h1=>S.sepm k k' es es' (obj k es h) (obj k' es' h') h1,S.tb⟩
  · obtain ⟨cs1,g,l,_⟩:=get k cs2 m2 h
    have:=(S.ok k e o).2 cs1 m2 g
    omega
  · have:=(S.hole k h).2
    simp only [Hp.upd]
    rw [if_neg (fun e=>by subst e;rw [this] at hg;cases hg)];exact this
  · simp only [Hp.upd] at h
    by_cases e:k=id
    · subst e;exact S.lt _ _ hg
    · rw [if_neg e] at h;exact S.lt _ _ h
  · obtain ⟨cs1,g,l,_⟩:=get k cs2 m2 h
    have:=S.le k cs1 m2 g
    omega
  · obtain ⟨cs1,g,l,hr⟩:=get k cs2 m2 h
    obtain ⟨⟨arr,t,fr,p1,p2,p3,p4⟩,p5⟩:=S.cells k cs1 m2 g e h1 (by omega)
    exact ⟨⟨arr,t,fr,p1,p2,fun j v hj hv'=>by
      obtain ⟨v0,g0,r0⟩:=hr j v hv'
      exact r0 _ (p3 j v0 hj g0),p4⟩,p5⟩
  · obtain ⟨cs1,g,l,_⟩:=get k cs2 m2 h
    obtain ⟨cs4,g',l',_⟩:=get k' cs3 m3 h'
    exact S.sep k k' e e' cs1 m2 cs4 m3 g g' h1 (by omega) h3 (by omega) h5
  · obtain ⟨cs1,g,l,_⟩:=get k cs2 m2 h
    exact S.base k cs1 m2 e e' g h1 (by omega) h3 (by omega) h5
theorem yqs {e:TypeId} {off:Nat} {x:Operand} {y:AO} (h:y53 x y=true):y6h P ⟨dst,.box e x,type,pos,after,guard⟩ (.boxT e off y):=by
  intro F H v H' hs κ a S r
  simp only [y37] at hs
  split at hs
  · rename_i cs hcs
    split at hs
    · rename_i hoff
      injection hs with hs;injection hs with h1 h2;subst h1;subst h2
      obtain ⟨hv,_⟩:=ycf hcs (y32 h r)
      obtain ⟨le,S',r'⟩:=new_ok S hv e
      have hlt:=(List.getElem?_eq_some_iff.1 hoff).1
      have S2:=S'.reCells (id:=H.next) (m:=cs.length) (cs:=cs) (cs':=cs.set off (.pz e cs.length H.next cs.length)) (by simp [Hp.add]) (by simp) fun j v' hj=>by
        by_cases ej:j=off
        · subst ej
          simp [hlt] at hj
          subst hj
          refine ⟨_,hoff,fun c hc=>?_⟩
          cases hc
          refine .pz _ _ _ _ (K.new_ok _ _ _ _ (Nat.le_refl _)) ?_ (by rw [K.new_pl])
          rw [K.new_pl]
          have hl:(a.eval x).cells.toList.length=cs.length:=hv.1.symm
          show y3n (κ.w.alloc _) κ.w.heap.size=_
          simp only [y3n,y2r,List.size_toArray,hl]
        · rw [List.getElem?_set_ne (Ne.symm ej)] at hj
          exact ⟨v',hj,fun c r=>r⟩
      have he:(H.add (.cells cs cs.length)).upd H.next (.cells (cs.set off (.pz e cs.length H.next cs.length)) cs.length)=H.add (.cells (cs.set off (.pz e cs.length H.next cs.length)) cs.length):=by
        simp only [Hp.upd,Hp.add]
        congr 1
        funext k
        split <;> rfl
      rw [he] at S2
      refine ⟨_,_,_,le,S2,r',?_,.inl rfl⟩
      simp only [execOp,Instr.box,Sem.run_bind,newVar,newRow,run_newObj,Sem.run_pure,Result.andThen_ok]
      simp
      rfl
    · cases hs
  · cases hs
theorem does_new {e:TypeId} {zs:List V} (h:zOk P e zs=true):y6h P ⟨dst,.alloc e,type,pos,after,guard⟩ (.new zs):=by
  intro F H v H' hs κ a S r
  simp only [y37] at hs
  injection hs with hs;injection hs with h1 h2;subst h1;subst h2
  obtain ⟨cs,hz,hv⟩:=yls h
  obtain ⟨z,hzc,hrun⟩:=ydj hz κ.w
  obtain ⟨le,S',r'⟩:=new_ok S (hv κ) e
  refine ⟨_,_,_,le,S',r',?_,.inl rfl⟩
  have:z.cells=cs.toArray:=by rw [←hzc]
  simp only [execOp,Instr.alloc,Sem.run_bind,hrun,Result.andThen_ok,newVar,newRow,this,run_newObj,Sem.run_pure]
  rfl
theorem does_box {e:TypeId} {x:Operand} {y:AO} (h:y53 x y=true):y6h P ⟨dst,.box e x,type,pos,after,guard⟩ (.box y):=by
  intro F H v H' hs κ a S r
  simp only [y37] at hs
  split at hs
  · rename_i cs hcs
    injection hs with hs;injection hs with h1 h2;subst h1;subst h2
    obtain ⟨hv,_⟩:=ycf hcs (y32 h r)
    obtain ⟨le,S',r'⟩:=new_ok S hv e
    refine ⟨_,_,_,le,S',r',?_,.inl rfl⟩
    simp only [execOp,Instr.box,Sem.run_bind,newVar,newRow,run_newObj,Sem.run_pure,Result.andThen_ok]
    simp
    rfl
  · cases hs
theorem yea {place:Nat→Option (Nat × Nat)} {κ:K} {F:Fr} {a:Act} (r:FR κ F a.tmps):∀{ps:List (Nat × Operand)} {qs:List (Nat × Nat × AO)},y9i place ps qs=true→
    (ps.map fun p=>(p.1,a.eval p.2)).length=(evp F qs).length∧
    ∀(j:Nat) (p:Nat × Value) (q:Nat × Nat × V),(ps.map fun p=>(p.1,a.eval p.2))[j]?=some p→(evp F qs)[j]?=some q→place p.1=some (q.1,q.2.1)∧VR κ q.2.2 p.2
  | [],[],_=>⟨rfl,fun j p q h=>by simp at h⟩
  | (i,o)::ps,(off,n,x)::qs,h=>by
    simp only [y9i,Bool.and_eq_true,beq_iff_eq] at h
    obtain ⟨⟨h1,h2⟩,h3⟩:=h
    obtain ⟨hl,hr⟩:=yea r h3
    refine ⟨by simpa [evp] using hl,fun j p q hp hq=>?_⟩
    cases j with
    | zero=>
      simp at hp;simp [evp] at hq
      subst hp;subst hq
      exact ⟨h1,y32 h2 r⟩
    | succ j=>exact hr j p q (by simpa using hp) (by simpa [evp] using hq)
  | [],_::_,h=>by cases h
  | _::_,[],h=>by cases h
theorem ynj {t:TypeId} {ps:Array (Nat × Operand)} {zero:List V} {qs:List (Nat × Nat × AO)} (hz:zOk P t zero=true)
    (hp:(match ypl P t with | some pl=>y9i pl ps.toList qs | none=>false)=true):y6h P ⟨dst,.build t ps,type,pos,after,guard⟩ (.build zero qs):=by
  intro F H v H' hs κ a S r
  simp only [y37] at hs
  split at hs
  · rename_i cs hcs
    injection hs with hs;injection hs with h1 h2;subst h1;subst h2
    split at hp
    · rename_i pl hpl
      obtain ⟨zcs,hzz,hv⟩:=yls hz
      obtain ⟨hl,hr⟩:=yea r hp
      obtain ⟨z,hzc,_⟩:=ydj hzz κ.w
      have hvz:VRs κ zero z.cells.toList:=by rw [hzc];exact hv κ
      obtain ⟨cells,e1,e2⟩:=yi7 pl _ _ z.cells zero cs hvz hl hr hcs
      refine y6h.still S (VR.agg' e2) ?_
      have hbuilt:P.built t (ps.map fun (i,x)=>(i,a.eval x)).toList=some cells:=by
        unfold yo8 at hzz
        unfold Program.built
        unfold ypl at hpl
        cases hi:P.info? t with
        | none=>simp [hi] at hzz
        | some it=>
          cases hz0:it.zero with
          | none=>simp [hi,hz0] at hzz
          | some z0=>
            have hzeq:z0.cells=z.cells:=by
              simp [hi,hz0] at hzz
              apply Array.ext'
              rw [hzc,←hzz]
            cases hu:P.underlying t with
            | none=>simp [hu] at hpl
            | some d=>
              simp only [hu] at hpl
              cases d <;> try (simp at hpl;done)
              case array n e=>
                simp only at hpl
                cases hie:P.info? e with
                | none=>simp [szP,hie] at hpl
                | some ie=>
                  simp only [szP,hie,Option.map_some] at hpl
                  injection hpl with hpl;subst hpl
                  simp only [hz0,hie,hzeq]
                  simpa using e1
              case struct fields=>
                simp only at hpl
                split at hpl
                · rename_i pls hpls
                  injection hpl with hpl;subst hpl
                  simp only [hz0,hpls,hzeq]
                  simpa using e1
                · cases hpl
      simp only [execOp,Sem.run_bind,run_build κ.w t _ cells hbuilt,Result.andThen_ok,Sem.run_pure]
    · cases hp
  · cases hs
theorem yqm {t:TypeId} {x:Operand} {agg:Bool} {n:Nat} {y:AO} (hx:y53 x y=true) (ha:aggP P t=some agg) (hn:(if agg then szP P t == some n else n == 1)=true):
    y6h P ⟨dst,.load t x,type,pos,after,guard⟩ (.load agg n y):=by
  intro F H v H' hs κ a S r
  simp only [y37] at hs
  split at hs
  · rename_i vs hrd
    cases ho:one agg vs with
    | none=>simp [ho] at hs
    | some u=>
      simp [ho] at hs
      obtain ⟨h1,h2⟩:=hs;subst h1;subst h2
      obtain ⟨ad,l,e1,e2,e2',e3,e4⟩:=rd_ok S hrd (y32 hx r)
      have hagg:=ycn ha κ.w
      cases agg with
      | true=>
        simp only [one] at ho;injection ho with ho;subst ho
        simp at hn
        have hsz:=y5s hn κ.w
        refine y6h.still S (VR.agg vs l e3.1 e3.2) ?_
        have hl:=run_loadCells_list (P:=P) κ.w ad l e4
        rw [e2] at hl
        simp only [execOp,Instr.loadAt,Instr.sureAddr,loadVar,e1,Sem.run_bind,Sem.run_pure,Result.andThen_ok,hagg,if_true,hsz,hl]
      | false=>
        simp at hn;subst hn
        cases vs with
        | nil=>simp at e2'
        | cons u1 rest=>
          cases rest with
          | cons _ _=>simp at e2'
          | nil=>
            simp only [one] at ho;injection ho with ho;subst ho
            obtain ⟨c,rfl,hc⟩:=e3.one
            refine y6h.still S hc ?_
            have:=e4 0 c rfl
            rw [show ad.add 0=ad from by simp [Addr.add]] at this
            simp only [execOp,Instr.loadAt,Instr.sureAddr,loadVar,e1,Sem.run_bind,Sem.run_pure,Result.andThen_ok,hagg,Bool.false_eq_true,if_false,run_load,this]
  · cases hs
theorem yni {t:TypeId} {x y:Operand} {n:Nat} {x' y':AO} (hx:y53 x x'=true) (hy:y53 y y'=true) (hn:szP P t=some n):
    y6h P ⟨dst,.store t x y,type,pos,after,guard⟩ (.store n x' y'):=by
  intro F H v H' hs κ a S r
  simp only [y37] at hs
  split at hs
  · rename_i vs hvs
    split at hs
    · rename_i hlen
      obtain ⟨hv,hcell⟩:=ycf hvs (y32 hy r)
      have hxa:=y32 hx r
      unfold swr at hs
      split at hs
      · rename_i id off ext hpx
        rw [hpx] at hxa
        split at hs
        · rename_i cs m hg
          split at hs
          · rename_i hc
            obtain ⟨h1,h2,h3⟩:=hc
            subst h1
            simp at hs
            obtain ⟨q1,q2⟩:=hs;subst q1;subst q2
            cases hxa':a.eval x with
            | pointer ad=>
              rw [hxa'] at hxa
              cases hxa with
              | p _ _ _ ok=>
                obtain ⟨κ',le,S',run,pl',ok'⟩:=Sim.setAll_ok (P:=P) vs _ S hg (fun e=>absurd e h3) (off:=off) (i:=0) (by simpa using h2) (fun u hu=>List.all_eq_true.1 hcell u hu) hv
                refine ⟨κ',.skip,undef,le,by simpa using S',.junk _,?_,.inr ⟨rfl,rfl⟩⟩
                have hcs:(a.eval y).cells.size=n:=by have:=hv.1;simp at this;omega
                simp only [execOp,Instr.storeAt,Instr.sureAddr,hxa',storeVar,Sem.run_bind,Sem.run_pure,Result.andThen_ok,y5s hn κ.w,hcs,ne_eq,not_true_eq_false,if_false,run]
            | _=>rw [hxa'] at hxa;cases hxa
          · simp at hs
        · simp at hs
      · simp at hs
    · cases hs
  · cases hs
end
section
variable {P:Program} {dst:Option Tmp} {type:TypeId} {pos:String} {after:Array Edge} {guard:Option (Nat × Bool)}
theorem yqi {x:Operand} {y:AO} (hx:y53 x y=true):y6h P ⟨dst,.nilCheck x,type,pos,after,guard⟩ (.nilc y):=by
  intro F H v H' hs κ a S r
  have rx:=y32 hx r
  simp only [y37] at hs
  split at hs
  all_goals first | (cases hs;done) | skip
  all_goals rename_i hy
  all_goals injection hs with hs
  all_goals injection hs with h1 h2
  all_goals subst h1
  all_goals subst h2
  all_goals rw [hy] at rx
  all_goals refine y6h.still S rx ?_
  all_goals simp only [execOp]
  all_goals generalize a.eval x=c at rx
  all_goals cases rx
  all_goals rfl
theorem does_bin {op:BinOp} {t u:TypeId} {x y:Operand} {x' y':AO} (hx:y53 x x'=true) (hy:y53 y y'=true):y6h P ⟨dst,.binOp op t x y u,type,pos,after,guard⟩ (.bin op x' y'):=by
  intro F H v H' hs κ a S r
  simp only [y37] at hs
  cases hb:binV op (ev F x') (ev F y') with
  | none=>simp [hb] at hs
  | some w=>
    simp [hb] at hs
    obtain ⟨h1,h2⟩:=hs;subst h1;subst h2
    obtain ⟨cv,hv,hrun⟩:=bin_ok (P:=P) (t:=t) (ox:=x) (oy:=y) hb (y32 hx r) (y32 hy r) κ.w
    refine y6h.still S hv ?_
    simp only [execOp]
    rw [Sem.run_bind,hrun]
    rfl
theorem does_eqk {k:EK} {neg:Bool} {op:BinOp} {t u:TypeId} {x y:Operand} {x' y':AO} (hop:op=if neg then .neq else .eql) (hk:eqkP P k t=true) (hx:y53 x x'=true) (hy:y53 y y'=true) (hc:ekC k y=true):
    y6h P ⟨dst,.binOp op t x y u,type,pos,after,guard⟩ (.eqk k neg x' y'):=by
  intro F H v H' hs κ a S r
  simp only [y37] at hs
  cases hb:eqK k (ev F x') (ev F y') with
  | none=>simp [hb] at hs
  | some w=>
    simp [hb] at hs
    obtain ⟨h1,h2⟩:=hs;subst h1;subst h2
    unfold eqkP at hk
    split at hk
    · rename_i d hd
      have hrun:=eqK_ok (P:=P) hd hk hb neg (ox:=x) (oy:=y) (fun e=>by subst e;exact hc) (y32 hx r) (y32 hy r) κ.w
      refine y6h.still S (.b _) ?_
      simp only [execOp]
      subst hop
      rw [Sem.run_bind,hrun]
      rfl
    · cases hk
theorem yn7 {t:TypeId} {q:Nat} (h:yd5 P t q=true):aggP P t=some false:=by
  unfold yd5 at h
  unfold aggP
  split at h
  · split at h
    · rename_i e;rw [e];rfl
    · cases h
  · split at h
    · rename_i e;rw [e];rfl
    · cases h
  · split at h
    · rename_i e;rw [e];rfl
    · cases h
  · cases h
theorem yhg {q:Nat} {x y:V} {r:Bool} (h:yaj q x y=some r) {t:TypeId} (ht:yd5 P t q=true) {κ:K} {cx cy:Value} (hx:VR κ x cx) (hy:VR κ y cy) (d:Nat) (w:World):
    (Op.equalIn (d+1) t cx cy).run P w=.ok r w:=by
  unfold yaj at h
  split at h
  · split at h
    · rename_i e;subst e;injection h with h;subst h
      cases hx;cases hy
      simp only [yd5] at ht
      split at ht
      · rename_i k' hk;exact run_equalIn_int w d t _ k' _ _ hk
      · cases ht
    · cases h
  · injection h with h;subst h
    cases hx;cases hy
    simp only [yd5] at ht
    split at ht
    · rename_i hk
      rw [run_equalIn_string (P:=P) w d t _ _ hk,yfh,yfh]
    · cases ht
  · injection h with h;subst h
    cases hx;cases hy
    simp only [yd5] at ht
    split at ht
    · rename_i hk;exact run_equalIn_bool' w d t _ _ hk
    · cases ht
  · cases h
theorem yer {κ:K} {xs0 ys0:List V} {cx cy:Array Value} (hx:VRs κ xs0 cx.toList) (hy:VRs κ ys0 cy.toList) (d:Nat) (w:World):∀(fs:List Field) (ks:List Nat) (k:Nat) (xs ys:List V) (r:Bool),
    ymj P k fs ks=true→xs=xs0.drop k→ys=ys0.drop k→y72 ks xs ys=some r→(Op.eqFields (d+1) cx cy fs).run P w=.ok r w
  | [],[],k,xs,ys,r,hf,ex,ey,h=>by
    cases xs <;> cases ys <;> simp [y72] at h
    subst h;rfl
  | f::fs,q::qs,k,xs,ys,r,hf,ex,ey,h=>by
    simp only [ymj,Bool.and_eq_true,bne_iff_ne,ne_eq,beq_iff_eq] at hf
    obtain ⟨⟨⟨h1,h2⟩,h3⟩,h4⟩:=hf
    cases xs with
    | nil=>cases ys <;> simp [y72] at h
    | cons x xs=>
      cases ys with
      | nil=>simp [y72] at h
      | cons y ys=>
        have hxk:xs0[k]?=some x:=by have:=congrArg (·[0]?) ex;simpa using this.symm
        have hyk:ys0[k]?=some y:=by have:=congrArg (·[0]?) ey;simpa using this.symm
        obtain ⟨c1,g1,v1⟩:=hx.get hxk
        obtain ⟨c2,g2,v2⟩:=hy.get hyk
        have hagg:=ycn (yn7 h3) w
        have p1:(part f.type cx f.offset).run P w=.ok c1 w:=by
          rw [h2];rw [Array.getElem?_toList] at g1
          simp [part,Sem.run_bind,hagg,g1]
        have p2:(part f.type cy f.offset).run P w=.ok c2 w:=by
          rw [h2];rw [Array.getElem?_toList] at g2
          simp [part,Sem.run_bind,hagg,g2]
        simp only [y72] at h
        simp only [Op.eqFields]
        rw [if_pos h1]
        simp only [Sem.run_bind,p1,p2,Result.andThen_ok]
        split at h
        · rename_i hc
          rw [yhg hc h3 v1 v2 d w]
          simp only [Result.andThen_ok,Bool.not_true,Bool.false_eq_true,if_false]
          exact yer hx hy d w fs qs (k+1) xs ys r h4 (by have:=congrArg List.tail ex;simpa using this) (by have:=congrArg List.tail ey;simpa using this) h
        · rename_i hc
          injection h with h;subst h
          rw [yhg hc h3 v1 v2 d w]
          simp only [Result.andThen_ok,Bool.not_false,if_true,Sem.run_pure]
        · cases h
  | [],_::_,k,xs,ys,r,hf,_,_,_=>by cases hf
  | _::_,[],k,xs,ys,r,hf,_,_,_=>by cases hf
theorem does_eqa {ks:List Nat} {neg:Bool} {op:BinOp} {t u:TypeId} {x y:Operand} {x' y':AO} (hop:op=if neg then .neq else .eql) (hk:flatP P t ks=true) (hx:y53 x x'=true) (hy:y53 y y'=true):
    y6h P ⟨dst,.binOp op t x y u,type,pos,after,guard⟩ (.eqa neg ks x' y'):=by
  intro F H v H' hs κ a S r
  have rx:=y32 hx r
  have ry:=y32 hy r
  simp only [y37] at hs
  split at hs
  · rename_i xs ys e1 e2
    rw [e1] at rx
    rw [e2] at ry
    rw [Option.map_eq_some_iff] at hs
    obtain ⟨b,hb,hs⟩:=hs
    injection hs with hs1 hs2;subst hs1;subst hs2
    unfold flatP at hk
    split at hk
    · rename_i fs hu
      simp only [Bool.and_eq_true,Bool.not_eq_true'] at hk
      obtain ⟨⟨hf,hst⟩,hgd⟩:=hk
      generalize hcx:a.eval x=cx at rx
      generalize hcy:a.eval y=cy at ry
      cases rx with
      | agg _ cs1 l1 v1=>
        cases ry with
        | agg _ cs2 l2 v2=>
          have hfo:P.fieldsOf t=fs:=by simp [Program.fieldsOf,hu]
          have heq:(Op.equal t (.agg cs1.toArray) (.agg cs2.toArray)).run P κ.w=.ok b κ.w:=by
            show (Op.equalIn (9999+1) t _ _).run P κ.w=_
            rw [run_equalIn_struct κ.w 9999 t _ _ (by rw [hfo];exact hu) hst,hfo]
            exact yer (xs0:=xs) (ys0:=ys) (by simpa using ⟨l1,v1⟩) (by simpa using ⟨l2,v2⟩) 9998 κ.w fs.toList ks 0 xs ys b hf rfl rfl hb
          have hguard:(eqGuard op t x y (.agg cs1.toArray) (.agg cs2.toArray)).run P κ.w=.ok () κ.w:=by
            subst hop
            cases neg <;> simp [eqGuard,Sem.run_bind,run_program,hgd]
          refine y6h.still S (.b _) ?_
          simp only [execOp,hcx,hcy,Sem.run_bind,hguard,Result.andThen_ok]
          subst hop
          cases neg
          · have e:binOp .eql t (.agg cs1.toArray) (.agg cs2.toArray)=(do pure (.bool (←Op.equal t (.agg cs1.toArray) (.agg cs2.toArray)))):=rfl
            simp only [Bool.false_eq_true,if_false,e,Sem.run_bind,heq,Result.andThen_ok,Sem.run_pure]
          · have e:binOp .neq t (.agg cs1.toArray) (.agg cs2.toArray)=(do pure (.bool (!(←Op.equal t (.agg cs1.toArray) (.agg cs2.toArray))))):=rfl
            simp only [if_true,e,Sem.run_bind,heq,Result.andThen_ok,Sem.run_pure]
    · cases hk
  · cases hs
theorem does_un {op:UnOp} {t:TypeId} {x:Operand} {y:AO} (hx:y53 x y=true):y6h P ⟨dst,.unOp op t x,type,pos,after,guard⟩ (.un op y):=by
  intro F H v H' hs κ a S r
  have rx:=y32 hx r
  simp only [y37] at hs
  cases hb:unV op (ev F y) with
  | none=>simp [hb] at hs
  | some w=>
    simp [hb] at hs
    obtain ⟨h1,h2⟩:=hs;subst h1;subst h2
    unfold unV at hb
    split at hb
    · rename_i b hy
      injection hb with hb;subst hb
      rw [hy] at rx
      refine y6h.still S (.b _) ?_
      simp only [execOp,VR.inv_b rx,Op.unary,Sem.run_bind,Sem.run_pure,Result.andThen_ok]
    · rename_i k n hy
      injection hb with hb;subst hb
      rw [hy] at rx
      refine y6h.still S (.i _ _) ?_
      simp only [execOp,VR.inv_i rx,Op.unary,Op.intArith,Sem.run_bind,Sem.run_pure,Result.andThen_ok]
    · rename_i k n hy
      injection hb with hb;subst hb
      rw [hy] at rx
      refine y6h.still S (.i _ _) ?_
      simp only [execOp,VR.inv_i rx,Op.unary,Op.intBits,Sem.run_bind,Sem.run_pure,Result.andThen_ok,yr9]
    · cases hb
theorem yqp {s d:TypeId} {k:IntKind} {ds:TypeDesc} {x:Operand} {y:AO} (hx:y53 x y=true) (hs0:P.underlying s=some ds) (hd:P.underlying d=some (.int k)):
    y6h P ⟨dst,.convert s d x,type,pos,after,guard⟩ (.conv k y):=by
  intro F H v H' hs κ a S r
  have rx:=y32 hx r
  simp only [y37] at hs
  split at hs
  · rename_i k' n hy
    injection hs with hs;injection hs with h1 h2;subst h1;subst h2
    rw [hy] at rx
    refine y6h.still S (.i _ _) ?_
    simp only [execOp,VR.inv_i rx,convert,Sem.run_bind,run_underlying hs0,run_underlying hd,Result.andThen_ok,Conv.intToInt,Sem.run_pure]
  · cases hs
theorem yqk {f:FuncId} {first caps:Array Operand} {xs:List AO} (h0:first.isEmpty=true) (hx:yeb caps.toList xs=true):y6h P ⟨dst,.makeFunc (.func f) first caps,type,pos,after,guard⟩ (.mkfn f xs):=by
  intro F H v H' hs κ a S r
  simp only [y37] at hs
  injection hs with hs;injection hs with h1 h2;subst h1;subst h2
  have hv:=y82 hx r
  have h0':first=#[]:=by simpa using h0
  refine y6h.still S (.fn f _ _ hv.1 hv.2) ?_
  simp only [execOp,Instr.makeFunc,Sem.run_bind,Sem.run_pure,Result.andThen_ok,h0']
  have:Array.map a.eval caps=(List.map a.eval caps.toList).toArray:=by apply Array.ext';simp
  simp [this]
theorem yql {f:FuncId} {first caps:Array Operand} {xs:List AO} (h0:caps.isEmpty=true) (hx:yeb first.toList xs=true):y6h P ⟨dst,.makeFunc (.func f) first caps,type,pos,after,guard⟩ (.mkfb f xs):=by
  intro F H v H' hs κ a S r
  simp only [y37] at hs
  injection hs with hs;injection hs with h1 h2;subst h1;subst h2
  have hv:=y82 hx r
  have h0':caps=#[]:=by simpa using h0
  refine y6h.still S (.fb f _ _ hv.1 hv.2) ?_
  simp only [execOp,Instr.makeFunc,Sem.run_bind,Sem.run_pure,Result.andThen_ok,h0']
  have:Array.map a.eval first=(List.map a.eval first.toList).toArray:=by apply Array.ext';simp
  simp [this]
theorem ykm {P:Program} {t:TypeId} {agg:Bool} {off n:Nat} {cs:List Value} (ha:aggP P t=some agg) (hn:(if agg then szP P t == some n else n == 1)=true) (h:off+n≤cs.length) (w:World):
    (part t cs.toArray off).run P w=.ok (if agg then .agg ((cs.drop off).take n).toArray else cs.getD off undef) w:=by
  have hagg:=ycn ha w
  cases agg with
  | true=>
    simp at hn
    simp only [part,Sem.run_bind,hagg,Result.andThen_ok,if_true,y5s hn w,Sem.run_pure]
    congr 2
    apply Array.ext'
    simp [List.drop_take]
  | false=>
    simp at hn;subst hn
    have:cs[off]?=some (cs.getD off undef):=by simp [List.getD,show off<cs.length by omega]
    simp only [part,Sem.run_bind,hagg,Result.andThen_ok,Bool.false_eq_true,if_false,List.getElem?_toArray,this,Sem.run_pure]
theorem VRs.part {κ:K} {vs:List V} {cs:List Value} (h:VRs κ vs cs) {agg:Bool} {off n:Nat} (hn:agg=false→n=1) (hl:off+n≤vs.length) {v:V} (ho:Am.one agg ((vs.drop off).take n)=some v):
    VR κ v (if agg then .agg ((cs.drop off).take n).toArray else cs.getD off undef):=by
  cases agg with
  | true=>
    simp only [Am.one] at ho;injection ho with ho;subst ho
    have:=h.sub off n
    exact VR.agg _ _ this.1 this.2
  | false=>
    have:=hn rfl;subst this
    have hlt:off<vs.length:=by omega
    have e:(vs.drop off).take 1=[vs[off]]:=by
      rw [List.drop_eq_getElem_cons hlt];rfl
    rw [e] at ho
    simp only [Am.one] at ho;injection ho with ho;subst ho
    exact h.2 off _ (List.getElem?_eq_getElem hlt)
theorem does_fld {t:TypeId} {f:Nat} {x:Operand} {agg:Bool} {off n:Nat} {y:AO} {fs:Array Field} {fd:Field} (hx:y53 x y=true) (hu:P.underlying t=some (.struct fs)) (hf:fs[f]?=some fd) (hoff:fd.offset=off)
    (ha:aggP P fd.type=some agg) (hn:(if agg then szP P fd.type == some n else n == 1)=true):y6h P ⟨dst,.field t x f,type,pos,after,guard⟩ (.fld agg off n y):=by
  intro F H v H' hs κ a S r
  have rx:=y32 hx r
  simp only [y37] at hs
  split at hs
  · rename_i vs hy
    split at hs
    · rename_i hl
      cases ho:one agg ((vs.drop off).take n) with
      | none=>simp [ho] at hs
      | some u=>
        simp [ho] at hs
        obtain ⟨h1,h2⟩:=hs;subst h1;subst h2
        rw [hy] at rx
        cases hax:a.eval x with
        | agg arr=>
          rw [hax] at rx
          cases rx with
          | agg _ cs g1 g2=>
            refine y6h.still S (VRs.part ⟨g1,g2⟩ (fun e=>by subst e;simpa using hn) hl ho) ?_
            simp only [execOp,Instr.field,hax,Sem.run_bind,run_underlying hu,Result.andThen_ok,hf,asAgg,Sem.run_pure,hoff,ykm ha hn (by omega:off+n≤cs.length)]
        | _=>rw [hax] at rx;cases rx
    · cases hs
  · cases hs
theorem yqo {t:TypeId} {f:Nat} {x:Operand} {off n:Nat} {y:AO} {fs:Array Field} {fd:Field} (hx:y53 x y=true) (hu:P.underlying t=some (.struct fs)) (hf:fs[f]?=some fd) (hoff:fd.offset=off)
    (hn:szP P fd.type=some n) (hn0:0<n):y6h P ⟨dst,.fieldAddr t x f,type,pos,after,guard⟩ (.fadr off y):=by
  intro F H v H' hs κ a S r
  have rx:=y32 hx r
  have run:∀ad,(Instr.fieldAt t (.pointer (some ad)) f).run P κ.w=.ok (.pointer (some (ad.add off))) κ.w:=fun ad=>by
    have:¬n=0:=by omega
    simp only [Instr.fieldAt,Sem.run_bind,run_underlying hu,Result.andThen_ok,hf,Instr.sureAddr,Sem.run_pure,fieldPlace,y5s hn,this,if_false,hoff]
  simp only [y37] at hs
  split at hs
  · rename_i id o ext hy
    injection hs with hs;injection hs with h1 h2;subst h1;subst h2
    rw [hy] at rx
    cases hax:a.eval x with
    | pointer ad=>
      rw [hax] at rx
      cases rx with
      | p _ _ _ ok=>
        refine y6h.still S (.p id (o+off) ext ok) ?_
        simp only [execOp,hax,Sem.run_bind,run,Result.andThen_ok,Sem.run_pure,y64,Nat.add_assoc]
    | _=>rw [hax] at rx;cases rx
  · rename_i cs o hy
    injection hs with hs;injection hs with h1 h2;subst h1;subst h2
    rw [hy] at rx
    cases hax:a.eval x with
    | pointer ad=>
      rw [hax] at rx
      cases rx with
      | fp _ _ b o' cv hf' hc hv=>
        refine y6h.still S (.fp cs (o+off) b o' cv hf' hc hv) ?_
        simp only [execOp,hax,Sem.run_bind,run,Result.andThen_ok,Sem.run_pure,y64,Nat.add_assoc]
    | _=>rw [hax] at rx;cases rx
  · cases hs
theorem does_ext {n:Nat} {x:Operand} {y:AO} (hx:y53 x y=true):y6h P ⟨dst,.extract x n,type,pos,after,guard⟩ (.ext n y):=by
  intro F H v H' hs κ a S r
  have rx:=y32 hx r
  simp only [y37] at hs
  split at hs
  · rename_i vs hy
    split at hs
    · rename_i u hu
      injection hs with hs;injection hs with h1 h2;subst h1;subst h2
      rw [hy] at rx
      cases hax:a.eval x with
      | tuple arr=>
        rw [hax] at rx
        cases rx with
        | tup _ cs g1 g2=>
          obtain ⟨c,hc,hv⟩:=VRs.get ⟨g1,g2⟩ hu
          refine y6h.still S hv ?_
          simp [execOp,Instr.extract,hax,hc]
      | _=>rw [hax] at rx;cases rx
    · cases hs
  · cases hs
theorem does_idx {t:TypeId} {x i:Operand} {y j:AO} (hx:y53 x y=true) (hi:y53 i j=true) (hu:P.underlying t=some .string):y6h P ⟨dst,.index t x i,type,pos,after,guard⟩ (.idx y j):=by
  intro F H v H' hs κ a S r
  have rx:=y32 hx r
  have ri:=y32 hi r
  simp only [y37] at hs
  split at hs
  · rename_i bs k n hy hj
    rw [hy] at rx
    rw [hj] at ri
    split at hs
    · rename_i hn
      split at hs
      · rename_i b hb
        injection hs with hs;injection hs with h1 h2;subst h1;subst h2
        refine y6h.still S (.i _ _) ?_
        have:(⟨bs.toArray⟩:ByteArray)[n.toNat]?=some b:=by
          have hlt:=(List.getElem?_eq_some_iff.1 hb).1
          have hs':n.toNat<(⟨bs.toArray⟩:ByteArray).size:=by rw [ybb];exact hlt
          rw [getElem?_pos (⟨bs.toArray⟩:ByteArray) n.toNat hs']
          congr 1
          have:=(List.getElem?_eq_some_iff.1 hb).2
          rw [←this]
          rfl
        simp only [execOp,Instr.index,VR.inv_s rx,VR.inv_i ri,asIntOf,Sem.run_bind,Sem.run_pure,Result.andThen_ok,run_underlying hu,hn,if_true,this]
      · cases hs
    · cases hs
  · cases hs
theorem does_len {t:TypeId} {d:TypeDesc} {str:Bool} {x:Operand} {y:AO} (hx:y53 x y=true) (hu:P.underlying t=some d) (hl:lenT str d=true) {ts:Array TypeId} {args:Array Operand} (ht:ts.toList=[t]) (ha:args.toList=[x]):
    y6h P ⟨dst,.call ⟨.builtin .len,args,ts⟩,type,pos,after,guard⟩ (.len str y):=by
  intro F H v H' hs κ a S r
  have rx:=y32 hx r
  have e1:ts=#[t]:=by rw [←ht]
  have e2:args=#[x]:=by rw [←ha]
  subst e1;subst e2
  have un:=run_underlying hu κ.w
  simp only [y37] at hs
  cases str with
  | true=>
    cases d <;> simp only [lenT,Bool.false_eq_true] at hl
    split at hs
    all_goals first | (cases hs;done) | (rename_i h0 _;cases h0;done) | skip
    rename_i hy
    injection hs with hs;injection hs with h1 h2;subst h1;subst h2
    rw [hy] at rx
    refine y6h.still S (.i _ _) ?_
    simp [execOp,resolve,invoke,builtin,Builtin.len_,VR.inv_s rx,un,ybb,goInt]
  | false=>
    cases d <;> simp only [lenT,Bool.false_eq_true] at hl
    split at hs
    all_goals first | (cases hs;done) | (rename_i h0 _;cases h0;done) | skip
    all_goals rename_i hy
    all_goals injection hs with hs
    all_goals injection hs with h1 h2
    all_goals subst h1
    all_goals subst h2
    all_goals rw [hy] at rx
    all_goals refine y6h.still S (.i _ _) ?_
    all_goals generalize hc:a.eval x=c at rx
    all_goals cases rx
    all_goals simp [execOp,resolve,invoke,builtin,Builtin.len_,hc,un,goInt]
theorem does_app {sz bytes:Nat} {x y:Operand} {x' y':AO} (hx:y53 x x'=true) (hy:y53 y y'=true) {ts:Array TypeId} {args:Array Operand} (ha:args.toList=[x,y]) (hp:appP P sz bytes ts.toList=true):
    y6h P ⟨dst,.call ⟨.builtin .append,args,ts⟩,type,pos,after,guard⟩ (.app sz bytes x' y'):=by
  intro F H v H' hs κ a S r
  simp only [y37] at hs
  have e2:args=#[x,y]:=by rw [←ha]
  subst e2
  unfold appP at hp
  split at hp
  · rename_i sT xT hts
    have e1:ts=#[sT,xT]:=by rw [←hts]
    subst e1
    split at hp
    · rename_i e d hs1 hs2
      simp only [Bool.and_eq_true] at hp
      obtain ⟨hp1,hp2⟩:=hp
      split at hp2
      · rename_i i hi
        simp only [Bool.and_eq_true,beq_iff_eq,decide_eq_true_eq] at hp2
        obtain ⟨⟨⟨⟨q1,q2⟩,q3⟩,q4⟩,q5⟩:=hp2
        subst q1;subst q2
        split at q5
        · rename_i z hz
          have T:AppT P sT xT e i z:=⟨hs1,⟨d,hs2,fun k hk=>by subst hk;simp [yq1] at hp1⟩,hi,hz,by simpa using q5⟩
          obtain ⟨κ',cv,le,S',rv,run,_⟩:=ygx T q3 q4 S hs (y32 hx r) (y32 hy r) type
          refine ⟨κ',_,cv,le,S',rv,?_,.inl rfl⟩
          simp only [execOp,resolve,invoke,builtin,Sem.run_bind,Sem.run_pure,Result.andThen_ok]
          simp [run]
        · cases q5
      · cases hp2
    · cases hp
  · cases hp
theorem yqt {sz bytes:Nat} {x y:Operand} {x' y':AO} (hx:y53 x x'=true) (hy:y53 y y'=true) {ts:Array TypeId} {args:Array Operand} (ha:args.toList=[x,y]) (hp:appP P sz bytes ts.toList=true) {U:TypeId}
    (hU:(match ts.toList with | sT::_=>yad P sT == some U | _=>false)=true):y6h P ⟨dst,.call ⟨.builtin .append,args,ts⟩,type,pos,after,guard⟩ (.appT U sz bytes x' y'):=by
  intro F H v H' hs κ a S r
  have e2:args=#[x,y]:=by rw [←ha]
  subst e2
  unfold appP at hp
  split at hp
  · rename_i sT xT hts
    have e1:ts=#[sT,xT]:=by rw [←hts]
    subst e1
    split at hp
    · rename_i e d hs1 hs2
      simp only [Bool.and_eq_true] at hp
      obtain ⟨hp1,hp2⟩:=hp
      split at hp2
      · rename_i i hi
        simp only [Bool.and_eq_true,beq_iff_eq,decide_eq_true_eq] at hp2
        obtain ⟨⟨⟨⟨q1,q2⟩,q3⟩,q4⟩,q5⟩:=hp2
        subst q1;subst q2
        split at q5
        · rename_i z hz
          have T:AppT P sT xT e i z:=⟨hs1,⟨d,hs2,fun k hk=>by subst hk;simp [yq1] at hp1⟩,hi,hz,by simpa using q5⟩
          have hUe:e=U:=by simpa [yad,hs1] using hU
          subst hUe
          have key:∀(a1:Option (Nat × Nat × Nat)) (l1 s1:Nat) a2 l2 s2 H2,y48 H i.size i.bytes (.sl a1 l1 s1) (ev F y')=some (.sl a2 l2 s2,H2)→VR κ (.sl a1 l1 s1) (a.eval x)→STa κ e a1→
              ∃κ' nx cv,κ.Le κ'∧Sim κ' H2∧VR κ' (.st e a2 l2 s2) cv∧(execOp a.eval ⟨dst,.call ⟨.builtin .append,#[x,y],#[sT,xT]⟩,type,pos,after,guard⟩).run P κ.w=.ok nx κ'.w∧(nx=.value cv∨(nx=.skip∧cv=undef)):=fun a1 l1 s1 a2 l2 s2 H2 hap hvx hst=>by
            obtain ⟨κ',cv,le,S',rv,run,ht⟩:=ygx T q3 q4 S hap hvx (y32 hy r) type
            refine ⟨κ',_,cv,le,S',.st e a2 l2 s2 cv rv ?_,?_,.inl rfl⟩
            · have:=ht (by cases a1 <;> exact hst)
              cases a2 <;> exact this
            · simp only [execOp,resolve,invoke,builtin,Sem.run_bind,Sem.run_pure,Result.andThen_ok]
              simp [run]
          have rx:=y32 hx r
          simp only [y37] at hs
          split at hs
          · rename_i T' a1 l1 s1 hxe
            rw [hxe] at rx
            split at hs
            · rename_i hT
              subst hT
              split at hs
              · rename_i a2 l2 s2 H2 hap
                injection hs with hs;injection hs with p1 p2;subst p1;subst p2
                generalize hcx:a.eval x=c at rx
                cases rx with
                | st _ _ _ _ _ h0 hst=>exact key a1 l1 s1 a2 l2 s2 _ hap (by rw [hcx];exact h0) hst
              · cases hs
            · cases hs
          · rename_i z0 hxe
            rw [hxe] at rx
            split at hs
            · rename_i a2 l2 s2 H2 hap
              injection hs with hs;injection hs with p1 p2;subst p1;subst p2
              exact key none 0 z0 a2 l2 s2 _ hap rx trivial
            · cases hs
          · cases hs
        · cases q5
      · cases hp2
    · cases hp
  · cases hp
end
end Go.Proofs.YthmkcebbeehbeaaGreatDoor.Am
