/- Part 5. -/
import Derived.Laws.StructEq
import Derived.Test.YtikpijbeobeckaaGreatDoorXGw4
set_option linter.unusedSimpArgs false
set_option linter.unusedVariables false
namespace Go.Proofs.YtikpijbeobeckaaGreatDoor.Am
open Go Go.RowKit
section
variable {P:Program} {dst:Option Tmp} {type:TypeId} {pos:String} {after:Array Edge} {guard:Option (Nat × Bool)}
theorem yol {x:Operand} {y:AO} (hx:y3z x y=true):y4s P ⟨dst,.nilCheck x,type,pos,after,guard⟩ (.nilc y):=by
 intro F H v H' hs κ a S r
 have rx:=y2b hx r
 simp only [y2c] at hs
 split at hs
 all_goals first | (cases hs;done) | skip
 all_goals rename_i hy
 all_goals injection hs with hs
 all_goals injection hs with h1 h2
 all_goals subst h1
 all_goals subst h2
 all_goals rw [hy] at rx
 all_goals refine y4s.still S rx ?_
 all_goals simp only [execOp]
 all_goals generalize a.eval x=c at rx
 all_goals cases rx
 all_goals rfl
theorem does_bin {op:BinOp} {t u:TypeId} {x y:Operand} {x' y':AO} (hx:y3z x x'=true) (hy:y3z y y'=true):y4s P ⟨dst,.binOp op t x y u,type,pos,after,guard⟩ (.bin op x' y'):=by
 intro F H v H' hs κ a S r
 simp only [y2c] at hs
 cases hb:binV op (ev F x') (ev F y') with
 | none=>simp [hb] at hs
 | some w=>
  simp [hb] at hs
  obtain ⟨h1,h2⟩:=hs;subst h1;subst h2
  obtain ⟨cv,hv,hrun⟩:=bin_ok (P:=P) (t:=t) (ox:=x) (oy:=y) hb (y2b hx r) (y2b hy r) κ.w
  refine y4s.still S hv ?_
  simp only [execOp]
  rw [Sem.run_bind,hrun]
  rfl
theorem does_eqk {k:EK} {neg:Bool} {op:BinOp} {t u:TypeId} {x y:Operand} {x' y':AO} (hop:op=if neg then .neq else .eql) (hk:eqkP P k t=true) (hx:y3z x x'=true) (hy:y3z y y'=true) (hc:ekC k y=true):
  y4s P ⟨dst,.binOp op t x y u,type,pos,after,guard⟩ (.eqk k neg x' y'):=by
 intro F H v H' hs κ a S r
 simp only [y2c] at hs
 cases hb:eqK k (ev F x') (ev F y') with
 | none=>simp [hb] at hs
 | some w=>
  simp [hb] at hs
  obtain ⟨h1,h2⟩:=hs;subst h1;subst h2
  unfold eqkP at hk
  split at hk
  ·rename_i d hd
   have hrun:=eqK_ok (P:=P) hd hk hb neg (ox:=x) (oy:=y) (fun e=>by subst e;exact hc) (y2b hx r) (y2b hy r) κ.w
   refine y4s.still S (.b _) ?_
   simp only [execOp]
   subst hop
   rw [Sem.run_bind,hrun]
   rfl
  ·cases hk
theorem yok {t u:TypeId} {x y:Operand} {x':AO} (hx:y3z x x'=true) (hy:yny y=true) (ht:(y83 P t).isSome=true):
  y4s P ⟨dst,.binOp .eql t x y u,type,pos,after,guard⟩ (.nilq x'):=by
 intro F H v H' hs κ a S r
 obtain ⟨e,he⟩:=Option.isSome_iff_exists.1 ht
 have hu:P.underlying t=some (.slice e):=by
  unfold y83 at he
  split at he
  ·rename_i e' h;injection he with he;subst he;exact h
  ·cases he
 have hyc:y=.const (.slice none 0 0):=by
  unfold yny at hy
  split at hy
  ·rfl
  ·cases hy
 have rx:=y2b hx r
 have run:∀(p:Option Addr) (l c:Nat),a.eval x=.slice p l c→(execOp a.eval ⟨dst,.binOp .eql t x y u,type,pos,after,guard⟩).run P κ.w=.ok (.value (.bool p.isNone)) κ.w:=fun p l c hc=>by
  have h1:(Op.equal t (.slice p l c) (.slice none 0 0)).run P κ.w=.ok p.isNone κ.w:=yk5 hu fun n=>by cases p <;> simp [Op.equalIn,run_underlying hu]
  have ey:a.eval y=.slice none 0 0:=by rw [hyc];rfl
  have h2:(eqGuard .eql t x y (.slice p l c) (.slice none 0 0):Sem Unit)=pure ():=by rw [hyc];simp [eqGuard,go_sem]
  simp only [execOp,hc,ey]
  rw [h2]
  simp [binOp,h1]
 simp only [y2c] at hs
 split at hs <;> first | (cases hs;done) | skip
 all_goals rename_i hev
 all_goals rw [hev] at rx
 all_goals injection hs with hs
 all_goals injection hs with h1 h2
 all_goals subst h1
 all_goals subst h2
 all_goals generalize hc:a.eval x=cv at rx
 ·cases rx with
  | sl _ _ _ _ _ cap n a'=>exact y4s.still S (.b false) (run _ _ _ hc)
 ·cases rx with
  | sl0 _ a'=>exact y4s.still S (.jb _) (run _ _ _ hc)
 ·cases rx with
  | fs _ cap sz b o a'=>exact y4s.still S (.jb _) (run _ _ _ hc)
 ·cases rx with
  | fs _ cap sz b o a' cv' q1 q2 q3 q4=>
   have:=(q4 (by simp)).1
   subst this
   exact y4s.still S (.b false) (run _ _ _ hc)
theorem ykr {t:TypeId} {q:Nat} (h:yb6 P t q=true):aggP P t=some false:=by
 unfold yb6 at h
 unfold aggP
 split at h
 ·split at h
  ·rename_i e;rw [e];rfl
  ·cases h
 ·split at h
  ·rename_i e;rw [e];rfl
  ·cases h
 ·split at h
  ·rename_i e;rw [e];rfl
  ·cases h
 ·cases h
theorem yf3 {q:Nat} {x y:V} {r:Bool} (h:y8k q x y=some r) {t:TypeId} (ht:yb6 P t q=true) {κ:K} {cx cy:Value} (hx:VR κ x cx) (hy:VR κ y cy) (d:Nat) (w:World):
  (Op.equalIn (d+1) t cx cy).run P w=.ok r w:=by
 unfold y8k at h
 split at h
 ·split at h
  ·rename_i e;subst e;injection h with h;subst h
   cases hx;cases hy
   simp only [yb6] at ht
   split at ht
   ·rename_i k' hk;exact run_equalIn_int w d t _ k' _ _ hk
   ·cases ht
  ·cases h
 ·injection h with h;subst h
  cases hx;cases hy
  simp only [yb6] at ht
  split at ht
  ·rename_i hk
   rw [run_equalIn_string (P:=P) w d t _ _ hk,ydk,ydk]
  ·cases ht
 ·injection h with h;subst h
  cases hx;cases hy
  simp only [yb6] at ht
  split at ht
  ·rename_i hk;exact run_equalIn_bool' w d t _ _ hk
  ·cases ht
 ·cases h
theorem ycx {κ:K} {xs0 ys0:List V} {cx cy:Array Value} (hx:VRs κ xs0 cx.toList) (hy:VRs κ ys0 cy.toList) (d:Nat) (w:World):∀(fs:List Field) (ks:List Nat) (k:Nat) (xs ys:List V) (r:Bool),
  yk3 P k fs ks=true→xs=xs0.drop k→ys=ys0.drop k→y51 ks xs ys=some r→(Op.eqFields (d+1) cx cy fs).run P w=.ok r w
 | [],[],k,xs,ys,r,hf,ex,ey,h=>by
  cases xs <;> cases ys <;> simp [y51] at h
  subst h;rfl
 | f::fs,q::qs,k,xs,ys,r,hf,ex,ey,h=>by
  simp only [yk3,kF,bne_iff_ne,ne_eq,beq_iff_eq] at hf
  obtain ⟨⟨⟨h1,h2⟩,h3⟩,h4⟩:=hf
  cases xs with
  | nil=>cases ys <;> simp [y51] at h
  | cons x xs=>
   cases ys with
   | nil=>simp [y51] at h
   | cons y ys=>
    have hxk:xs0[k]?=some x:=by have:=congrArg (·[0]?) ex;simpa using this.symm
    have hyk:ys0[k]?=some y:=by have:=congrArg (·[0]?) ey;simpa using this.symm
    obtain ⟨c1,g1,v1⟩:=hx.get hxk
    obtain ⟨c2,g2,v2⟩:=hy.get hyk
    have hagg:=yal (ykr h3) w
    have p1:(part f.type cx f.offset).run P w=.ok c1 w:=by
     rw [h2];rw [Array.getElem?_toList] at g1
     simp [part,Sem.run_bind,hagg,g1]
    have p2:(part f.type cy f.offset).run P w=.ok c2 w:=by
     rw [h2];rw [Array.getElem?_toList] at g2
     simp [part,Sem.run_bind,hagg,g2]
    simp only [y51] at h
    simp only [Op.eqFields]
    rw [if_pos h1]
    simp only [Sem.run_bind,p1,p2,Result.andThen_ok]
    split at h
    ·rename_i hc
     rw [yf3 hc h3 v1 v2 d w]
     simp only [Result.andThen_ok,Bool.not_true,kN,if_false]
     exact ycx hx hy d w fs qs (k+1) xs ys r h4 (by have:=congrArg List.tail ex;simpa using this) (by have:=congrArg List.tail ey;simpa using this) h
    ·rename_i hc
     injection h with h;subst h
     rw [yf3 hc h3 v1 v2 d w]
     simp only [Result.andThen_ok,Bool.not_false,if_true,Sem.run_pure]
    ·cases h
 | [],_::_,k,xs,ys,r,hf,_,_,_=>by cases hf
 | _::_,[],k,xs,ys,r,hf,_,_,_=>by cases hf
theorem does_eqa {ks:List Nat} {neg:Bool} {op:BinOp} {t u:TypeId} {x y:Operand} {x' y':AO} (hop:op=if neg then .neq else .eql) (hk:flatP P t ks=true) (hx:y3z x x'=true) (hy:y3z y y'=true):
  y4s P ⟨dst,.binOp op t x y u,type,pos,after,guard⟩ (.eqa neg ks x' y'):=by
 intro F H v H' hs κ a S r
 have rx:=y2b hx r
 have ry:=y2b hy r
 simp only [y2c] at hs
 split at hs
 ·rename_i xs ys e1 e2
  rw [e1] at rx
  rw [e2] at ry
  rw [kd] at hs
  obtain ⟨b,hb,hs⟩:=hs
  injection hs with hs1 hs2;subst hs1;subst hs2
  unfold flatP at hk
  split at hk
  ·rename_i fs hu
   simp only [kF,Bool.not_eq_true'] at hk
   obtain ⟨⟨hf,hst⟩,hgd⟩:=hk
   generalize hcx:a.eval x=cx at rx
   generalize hcy:a.eval y=cy at ry
   cases rx with
   | agg _ cs1 l1 v1=>
    cases ry with
    | agg _ cs2 l2 v2=>
     have hfo:P.fieldsOf t=fs:=by simp [Program.fieldsOf,hu]
     have heq:(Op.equal t (.agg cs1.toArray) (.agg cs2.toArray)).run P κ.w=.ok b κ.w:=by
      show (Op.equalIn (9999+1) t _ _).run P κ.w=_
      rw [run_equalIn_struct κ.w 9999 t _ _ (by rw [hfo];exact hu) hst,hfo]
      exact ycx (xs0:=xs) (ys0:=ys) (by simpa using ⟨l1,v1⟩) (by simpa using ⟨l2,v2⟩) 9998 κ.w fs.toList ks 0 xs ys b hf rfl rfl hb
     have hguard:(eqGuard op t x y (.agg cs1.toArray) (.agg cs2.toArray)).run P κ.w=.ok () κ.w:=by
      subst hop
      cases neg <;> simp [eqGuard,Sem.run_bind,run_program,hgd]
     refine y4s.still S (.b _) ?_
     simp only [execOp,hcx,hcy,Sem.run_bind,hguard,Result.andThen_ok]
     subst hop
     cases neg
     ·have e:binOp .eql t (.agg cs1.toArray) (.agg cs2.toArray)=(do pure (.bool (←Op.equal t (.agg cs1.toArray) (.agg cs2.toArray)))):=rfl
      simp only [kN,if_false,e,Sem.run_bind,heq,Result.andThen_ok,Sem.run_pure]
     ·have e:binOp .neq t (.agg cs1.toArray) (.agg cs2.toArray)=(do pure (.bool (!(←Op.equal t (.agg cs1.toArray) (.agg cs2.toArray))))):=rfl
      simp only [if_true,e,Sem.run_bind,heq,Result.andThen_ok,Sem.run_pure]
  ·cases hk
 ·cases hs
theorem does_un {op:UnOp} {t:TypeId} {x:Operand} {y:AO} (hx:y3z x y=true):y4s P ⟨dst,.unOp op t x,type,pos,after,guard⟩ (.un op y):=by
 intro F H v H' hs κ a S r
 have rx:=y2b hx r
 simp only [y2c] at hs
 cases hb:unV op (ev F y) with
 | none=>simp [hb] at hs
 | some w=>
  simp [hb] at hs
  obtain ⟨h1,h2⟩:=hs;subst h1;subst h2
  unfold unV at hb
  split at hb
  ·rename_i b hy
   injection hb with hb;subst hb
   rw [hy] at rx
   refine y4s.still S (.b _) ?_
   simp only [execOp,VR.inv_b rx,Op.unary,Sem.run_bind,Sem.run_pure,Result.andThen_ok]
  ·rename_i k n hy
   injection hb with hb;subst hb
   rw [hy] at rx
   refine y4s.still S (.i _ _) ?_
   simp only [execOp,VR.inv_i rx,Op.unary,Op.intArith,Sem.run_bind,Sem.run_pure,Result.andThen_ok]
  ·rename_i k n hy
   injection hb with hb;subst hb
   rw [hy] at rx
   refine y4s.still S (.i _ _) ?_
   simp only [execOp,VR.inv_i rx,Op.unary,Op.intBits,Sem.run_bind,Sem.run_pure,Result.andThen_ok,bXor]
  ·cases hb
theorem yos {s d:TypeId} {k:IntKind} {ds:TypeDesc} {x:Operand} {y:AO} (hx:y3z x y=true) (hs0:P.underlying s=some ds) (hd:P.underlying d=some (.int k)):
  y4s P ⟨dst,.convert s d x,type,pos,after,guard⟩ (.conv k y):=by
 intro F H v H' hs κ a S r
 have rx:=y2b hx r
 simp only [y2c] at hs
 split at hs
 ·rename_i k' n hy
  injection hs with hs;injection hs with h1 h2;subst h1;subst h2
  rw [hy] at rx
  refine y4s.still S (.i _ _) ?_
  simp only [execOp,VR.inv_i rx,convert,Sem.run_bind,run_underlying hs0,run_underlying hd,Result.andThen_ok,Conv.intToInt,Sem.run_pure]
 ·cases hs
theorem yon {f:FuncId} {first caps:Array Operand} {xs:List AO} (h0:first.isEmpty=true) (hx:ycd caps.toList xs=true):y4s P ⟨dst,.makeFunc (.func f) first caps,type,pos,after,guard⟩ (.mkfn f xs):=by
 intro F H v H' hs κ a S r
 simp only [y2c] at hs
 injection hs with hs;injection hs with h1 h2;subst h1;subst h2
 have hv:=y5s hx r
 have h0':first=#[]:=by simpa using h0
 refine y4s.still S (.fn f _ _ hv.1 hv.2) ?_
 simp only [execOp,Instr.makeFunc,Sem.run_bind,Sem.run_pure,Result.andThen_ok,h0']
 have:Array.map a.eval caps=(List.map a.eval caps.toList).toArray:=by apply Array.ext';simp
 simp [this]
theorem yoo {f:FuncId} {first caps:Array Operand} {xs:List AO} (h0:caps.isEmpty=true) (hx:ycd first.toList xs=true):y4s P ⟨dst,.makeFunc (.func f) first caps,type,pos,after,guard⟩ (.mkfb f xs):=by
 intro F H v H' hs κ a S r
 simp only [y2c] at hs
 injection hs with hs;injection hs with h1 h2;subst h1;subst h2
 have hv:=y5s hx r
 have h0':caps=#[]:=by simpa using h0
 refine y4s.still S (.fb f _ _ hv.1 hv.2) ?_
 simp only [execOp,Instr.makeFunc,Sem.run_bind,Sem.run_pure,Result.andThen_ok,h0']
 have:Array.map a.eval first=(List.map a.eval first.toList).toArray:=by apply Array.ext';simp
 simp [this]
theorem yi1 {P:Program} {t:TypeId} {agg:Bool} {off n:Nat} {cs:List Value} (ha:aggP P t=some agg) (hn:(if agg then szP P t == some n else n == 1)=true) (h:off+n≤cs.length) (w:World):
  (part t cs.toArray off).run P w=.ok (if agg then .agg ((cs.drop off).take n).toArray else cs.getD off undef) w:=by
 have hagg:=yal ha w
 cases agg with
 | true=>
  simp at hn
  simp only [part,Sem.run_bind,hagg,Result.andThen_ok,if_true,y4m hn w,Sem.run_pure]
  congr 2
  apply Array.ext'
  simp [List.drop_take]
 | false=>
  simp at hn;subst hn
  have:cs[off]?=some (cs.getD off undef):=by simp [List.getD,show off<cs.length by omega]
  simp only [part,Sem.run_bind,hagg,Result.andThen_ok,kN,if_false,List.getElem?_toArray,this,Sem.run_pure]
theorem VRs.part {κ:K} {vs:List V} {cs:List Value} (h:VRs κ vs cs) {agg:Bool} {off n:Nat} (hn:agg=false→n=1) (hl:off+n≤vs.length) {v:V} (ho:Am.one agg ((vs.drop off).take n)=some v):
  VR κ v (if agg then .agg ((cs.drop off).take n).toArray else cs.getD off undef):=by
 cases agg with
 | true=>
  simp only [Am.one] at ho;injection ho with ho;subst ho
  have:=h.sub off n
  exact VR.agg _ _ this.1 this.2
 | false=>
  have:=hn rfl;subst this
  have hlt:off<vs.length:=by omega
  have e:(vs.drop off).take 1=[vs[off]]:=by
   rw [kP hlt];rfl
  rw [e] at ho
  simp only [Am.one] at ho;injection ho with ho;subst ho
  exact h.2 off _ (kC hlt)
theorem does_fld {t:TypeId} {f:Nat} {x:Operand} {agg:Bool} {off n:Nat} {y:AO} {fs:Array Field} {fd:Field} (hx:y3z x y=true) (hu:P.underlying t=some (.struct fs)) (hf:fs[f]?=some fd) (hoff:fd.offset=off)
  (ha:aggP P fd.type=some agg) (hn:(if agg then szP P fd.type == some n else n == 1)=true):y4s P ⟨dst,.field t x f,type,pos,after,guard⟩ (.fld agg off n y):=by
 intro F H v H' hs κ a S r
 have rx:=y2b hx r
 simp only [y2c] at hs
 split at hs
 ·rename_i vs hy
  split at hs
  ·rename_i hl
   cases ho:one agg ((vs.drop off).take n) with
   | none=>simp [ho] at hs
   | some u=>
    simp [ho] at hs
    obtain ⟨h1,h2⟩:=hs;subst h1;subst h2
    rw [hy] at rx
    cases hax:a.eval x with
    | agg arr=>
     rw [hax] at rx
     cases rx with
     | agg _ cs g1 g2=>
      refine y4s.still S (VRs.part ⟨g1,g2⟩ (fun e=>by subst e;simpa using hn) hl ho) ?_
      simp only [execOp,Instr.field,hax,Sem.run_bind,run_underlying hu,Result.andThen_ok,hf,asAgg,Sem.run_pure,hoff,yi1 ha hn (by omega:off+n≤cs.length)]
    | _=>rw [hax] at rx;cases rx
  ·cases hs
 ·cases hs
theorem yor {t:TypeId} {f:Nat} {x:Operand} {off n:Nat} {y:AO} {fs:Array Field} {fd:Field} (hx:y3z x y=true) (hu:P.underlying t=some (.struct fs)) (hf:fs[f]?=some fd) (hoff:fd.offset=off)
  (hn:szP P fd.type=some n) (hn0:0<n):y4s P ⟨dst,.fieldAddr t x f,type,pos,after,guard⟩ (.fadr off y):=by
 intro F H v H' hs κ a S r
 have rx:=y2b hx r
 have run:∀ad,(Instr.fieldAt t (.pointer (some ad)) f).run P κ.w=.ok (.pointer (some (ad.add off))) κ.w:=fun ad=>by
  have:¬n=0:=by omega
  simp only [Instr.fieldAt,Sem.run_bind,run_underlying hu,Result.andThen_ok,hf,Instr.sureAddr,Sem.run_pure,fieldPlace,y4m hn,this,if_false,hoff]
 simp only [y2c] at hs
 split at hs
 ·rename_i id o ext hy
  injection hs with hs;injection hs with h1 h2;subst h1;subst h2
  rw [hy] at rx
  cases hax:a.eval x with
  | pointer ad=>
   rw [hax] at rx
   cases rx with
   | p _ _ _ ok=>
    refine y4s.still S (.p id (o+off) ext ok) ?_
    simp only [execOp,hax,Sem.run_bind,run,Result.andThen_ok,Sem.run_pure,y4h,ki]
  | _=>rw [hax] at rx;cases rx
 ·rename_i cs o hy
  injection hs with hs;injection hs with h1 h2;subst h1;subst h2
  rw [hy] at rx
  cases hax:a.eval x with
  | pointer ad=>
   rw [hax] at rx
   cases rx with
   | fp _ _ b o' cv hf' hc hv=>
    refine y4s.still S (.fp cs (o+off) b o' cv hf' hc hv) ?_
    simp only [execOp,hax,Sem.run_bind,run,Result.andThen_ok,Sem.run_pure,y4h,ki]
  | _=>rw [hax] at rx;cases rx
 ·cases hs
theorem does_ext {n:Nat} {x:Operand} {y:AO} (hx:y3z x y=true):y4s P ⟨dst,.extract x n,type,pos,after,guard⟩ (.ext n y):=by
 intro F H v H' hs κ a S r
 have rx:=y2b hx r
 simp only [y2c] at hs
 split at hs
 ·rename_i vs hy
  split at hs
  ·rename_i u hu
   injection hs with hs;injection hs with h1 h2;subst h1;subst h2
   rw [hy] at rx
   cases hax:a.eval x with
   | tuple arr=>
    rw [hax] at rx
    cases rx with
    | tup _ cs g1 g2=>
     obtain ⟨c,hc,hv⟩:=VRs.get ⟨g1,g2⟩ hu
     refine y4s.still S hv ?_
     simp [execOp,Instr.extract,hax,hc]
   | _=>rw [hax] at rx;cases rx
  ·cases hs
 ·cases hs
theorem does_idx {t:TypeId} {x i:Operand} {y j:AO} (hx:y3z x y=true) (hi:y3z i j=true) (hu:P.underlying t=some .string):y4s P ⟨dst,.index t x i,type,pos,after,guard⟩ (.idx y j):=by
 intro F H v H' hs κ a S r
 have rx:=y2b hx r
 have ri:=y2b hi r
 simp only [y2c] at hs
 split at hs
 ·rename_i bs k n hy hj
  rw [hy] at rx
  rw [hj] at ri
  split at hs
  ·rename_i hn
   split at hs
   ·rename_i b hb
    injection hs with hs;injection hs with h1 h2;subst h1;subst h2
    refine y4s.still S (.i _ _) ?_
    have:(⟨bs.toArray⟩:ByteArray)[n.toNat]?=some b:=by
     have hlt:=(List.getElem?_eq_some_iff.1 hb).1
     have hs':n.toNat<(⟨bs.toArray⟩:ByteArray).size:=by rw [y9b];exact hlt
     rw [getElem?_pos (⟨bs.toArray⟩:ByteArray) n.toNat hs']
     congr 1
     have:=(List.getElem?_eq_some_iff.1 hb).2
     rw [←this]
     rfl
    simp only [execOp,Instr.index,VR.inv_s rx,VR.inv_i ri,asIntOf,Sem.run_bind,Sem.run_pure,Result.andThen_ok,run_underlying hu,hn,if_true,this]
   ·cases hs
  ·cases hs
 ·cases hs
theorem does_len {t:TypeId} {d:TypeDesc} {str:Bool} {x:Operand} {y:AO} (hx:y3z x y=true) (hu:P.underlying t=some d) (hl:lenT str d=true) {ts:Array TypeId} {args:Array Operand} (ht:ts.toList=[t]) (ha:args.toList=[x]):
  y4s P ⟨dst,.call ⟨.builtin .len,args,ts⟩,type,pos,after,guard⟩ (.len str y):=by
 intro F H v H' hs κ a S r
 have rx:=y2b hx r
 have e1:ts=#[t]:=by rw [←ht]
 have e2:args=#[x]:=by rw [←ha]
 subst e1;subst e2
 have un:=run_underlying hu κ.w
 simp only [y2c] at hs
 cases str with
 | true=>
  cases d <;> simp only [lenT,kN] at hl
  split at hs
  all_goals first | (cases hs;done) | (rename_i h0 _;cases h0;done) | skip
  rename_i hy
  injection hs with hs;injection hs with h1 h2;subst h1;subst h2
  rw [hy] at rx
  refine y4s.still S (.i _ _) ?_
  simp [execOp,resolve,invoke,builtin,Builtin.len_,VR.inv_s rx,un,y9b,goInt]
 | false=>
  cases d <;> simp only [lenT,kN] at hl
  split at hs
  all_goals first | (cases hs;done) | (rename_i h0 _;cases h0;done) | skip
  all_goals rename_i hy
  all_goals injection hs with hs
  all_goals injection hs with h1 h2
  all_goals subst h1
  all_goals subst h2
  all_goals rw [hy] at rx
  all_goals refine y4s.still S (.i _ _) ?_
  all_goals generalize hc:a.eval x=c at rx
  all_goals cases rx
  all_goals simp [execOp,resolve,invoke,builtin,Builtin.len_,hc,un,goInt]
theorem does_app {sz bytes:Nat} {x y:Operand} {x' y':AO} (hx:y3z x x'=true) (hy:y3z y y'=true) {ts:Array TypeId} {args:Array Operand} (ha:args.toList=[x,y]) (hp:appP P sz bytes ts.toList=true):
  y4s P ⟨dst,.call ⟨.builtin .append,args,ts⟩,type,pos,after,guard⟩ (.app sz bytes x' y'):=by
 intro F H v H' hs κ a S r
 simp only [y2c] at hs
 have e2:args=#[x,y]:=by rw [←ha]
 subst e2
 unfold appP at hp
 split at hp
 ·rename_i sT xT hts
  have e1:ts=#[sT,xT]:=by rw [←hts]
  subst e1
  split at hp
  ·rename_i e d hs1 hs2
   simp only [kF] at hp
   obtain ⟨hp1,hp2⟩:=hp
   split at hp2
   ·rename_i i hi
    simp only [kF,beq_iff_eq,decide_eq_true_eq] at hp2
    obtain ⟨⟨⟨⟨q1,q2⟩,q3⟩,q4⟩,q5⟩:=hp2
    subst q1;subst q2
    split at q5
    ·rename_i z hz
     have T:AppT P sT xT e i z:=⟨hs1,⟨d,hs2,fun k hk=>by subst hk;simp [ynz] at hp1⟩,hi,hz,by simpa using q5⟩
     obtain ⟨κ',cv,le,S',rv,run,_⟩:=yeu T q3 q4 S hs (y2b hx r) (y2b hy r) type
     refine ⟨κ',_,cv,le,S',rv,?_,.inl rfl⟩
     simp only [execOp,resolve,invoke,builtin,Sem.run_bind,Sem.run_pure,Result.andThen_ok]
     simp [run]
    ·cases q5
   ·cases hp2
  ·cases hp
 ·cases hp
theorem yow {sz bytes:Nat} {x y:Operand} {x' y':AO} (hx:y3z x x'=true) (hy:y3z y y'=true) {ts:Array TypeId} {args:Array Operand} (ha:args.toList=[x,y]) (hp:appP P sz bytes ts.toList=true) {U:TypeId}
  (hU:(match ts.toList with | sT::_=>y83 P sT == some U | _=>false)=true):y4s P ⟨dst,.call ⟨.builtin .append,args,ts⟩,type,pos,after,guard⟩ (.appT U sz bytes x' y'):=by
 intro F H v H' hs κ a S r
 have e2:args=#[x,y]:=by rw [←ha]
 subst e2
 unfold appP at hp
 split at hp
 ·rename_i sT xT hts
  have e1:ts=#[sT,xT]:=by rw [←hts]
  subst e1
  split at hp
  ·rename_i e d hs1 hs2
   simp only [kF] at hp
   obtain ⟨hp1,hp2⟩:=hp
   split at hp2
   ·rename_i i hi
    simp only [kF,beq_iff_eq,decide_eq_true_eq] at hp2
    obtain ⟨⟨⟨⟨q1,q2⟩,q3⟩,q4⟩,q5⟩:=hp2
    subst q1;subst q2
    split at q5
    ·rename_i z hz
     have T:AppT P sT xT e i z:=⟨hs1,⟨d,hs2,fun k hk=>by subst hk;simp [ynz] at hp1⟩,hi,hz,by simpa using q5⟩
     have hUe:e=U:=by simpa [y83,hs1] using hU
     subst hUe
     have key:∀(a1:Option (Nat × Nat × Nat)) (l1 s1:Nat) a2 l2 s2 H2,y28 H i.size i.bytes (.sl a1 l1 s1) (ev F y')=some (.sl a2 l2 s2,H2)→VR κ (.sl a1 l1 s1) (a.eval x)→STa κ e a1→
       ∃κ' nx cv,κ.Le κ'∧Sim κ' H2∧VR κ' (.st e a2 l2 s2) cv∧(execOp a.eval ⟨dst,.call ⟨.builtin .append,#[x,y],#[sT,xT]⟩,type,pos,after,guard⟩).run P κ.w=.ok nx κ'.w∧(nx=.value cv∨(nx=.skip∧cv=undef)):=fun a1 l1 s1 a2 l2 s2 H2 hap hvx hst=>by
      obtain ⟨κ',cv,le,S',rv,run,ht⟩:=yeu T q3 q4 S hap hvx (y2b hy r) type
      refine ⟨κ',_,cv,le,S',.st e a2 l2 s2 cv rv ?_,?_,.inl rfl⟩
      ·have:=ht (by cases a1 <;> exact hst)
       cases a2 <;> exact this
      ·simp only [execOp,resolve,invoke,builtin,Sem.run_bind,Sem.run_pure,Result.andThen_ok]
       simp [run]
     have rx:=y2b hx r
     simp only [y2c] at hs
     split at hs
     ·rename_i T' a1 l1 s1 hxe
      rw [hxe] at rx
      split at hs
      ·rename_i hT
       subst hT
       split at hs
       ·rename_i a2 l2 s2 H2 hap
        injection hs with hs;injection hs with p1 p2;subst p1;subst p2
        generalize hcx:a.eval x=c at rx
        cases rx with
        | st _ _ _ _ _ h0 hst=>exact key a1 l1 s1 a2 l2 s2 _ hap (by rw [hcx];exact h0) hst
       ·cases hs
      ·cases hs
     ·rename_i z0 hxe
      rw [hxe] at rx
      split at hs
      ·rename_i a2 l2 s2 H2 hap
       injection hs with hs;injection hs with p1 p2;subst p1;subst p2
       exact key none 0 z0 a2 l2 s2 _ hap rx trivial
      ·cases hs
     ·cases hs
    ·cases q5
   ·cases hp2
  ·cases hp
 ·cases hp
end
theorem y5d (n:Nat) (zero:List V):(y7x n zero).length=n*zero.length:=by
 unfold y7x
 split
 ·simp
 ·simp
theorem ygo (n:Nat) (zero:List V):y7x n zero=(List.replicate n zero).flatten:=by
 unfold y7x
 split
 ·rename_i z
  induction n with
  | zero=>rfl
  | succ n ih=>rw [List.replicate_succ,List.replicate_succ,List.flatten_cons,←ih];rfl
 ·rfl
theorem yfg (n:Nat) (zero:List V) (hz:0<zero.length) (j:Nat) (v:V) (h:(y7x n zero)[j]?=some v):zero[j % zero.length]?=some v:=by
 rw [ygo] at h
 obtain ⟨e,h1,h2⟩:=y9n zero.length hz (List.replicate n zero) (fun e he=>by rw [(List.mem_replicate.1 he).2]) j v h
 have:=(List.mem_replicate.1 (kY h1)).2
 subst this
 exact h2
theorem yj8 {κ:K} {zero:List V} {z:List Value} (hv:VRs κ zero z) (hz:0<zero.length) (n:Nat):
  VRs κ (y7x n zero) ((Array.range (n*zero.length)).map (z.toArray[· % z.toArray.size]!)).toList:=by
 refine .of_get (by simp [y5d]) fun j v hj=>?_
 have hl:j<n*zero.length:=by rw [←y5d n zero];exact (List.getElem?_eq_some_iff.1 hj).1
 obtain ⟨c,hc,hr⟩:=hv.get (yfg n zero hz j v hj)
 refine ⟨c,?_,hr⟩
 have hzl:zero.length=z.length:=hv.1
 rw [Array.getElem?_toList,Array.getElem?_map,Array.getElem?_range,if_pos hl]
 simp only [Option.map_some,List.size_toArray]
 rw [←hzl]
 have hlt:j % zero.length<z.length:=by rw [←hzl];exact Nat.mod_lt _ hz
 have:z.toArray[j % zero.length]! = c:=by
  rw [getElem!_pos z.toArray (j % zero.length) (by simpa using hlt)]
  have:=(List.getElem?_eq_some_iff.1 hc).2
  simpa using this
 rw [this]
theorem y8o:∀{qs:List (Nat × Nat × V)} {cells cs:List V},yck cells qs=some cs→cs.length=cells.length
 | [],cells,cs,h=>by simp only [yck] at h;injection h with h;subst h;rfl
 | (o,m,v)::qs,cells,cs,h=>by
  simp only [yck] at h
  split at h
  ·split at h
   ·rw [y8o h,y9c]
   ·cases h
  ·cases h
section
variable {P:Program} {dst:Option Tmp} {type:TypeId} {pos:String} {after:Array Edge} {guard:Option (Nat × Bool)}
theorem yit {t e:TypeId} {n:Nat} {ps:Array (Nat × Operand)} {zero:List V} {qs:List (Nat × Nat × AO)} (hz:zOk P e zero=true) (hs:szP P e=some zero.length) (h0:0<zero.length) (hb:n*zero.length≤2 ^ 24)
  (he:y83 P t=some e) (hp:y7z (fun i=>some (i*zero.length,zero.length)) ps.toList qs=true) {F:Fr} {κ:K} {a:Act} (r:FR κ F a.tmps) {cs:List V} (hf:yck (y7x n zero) (evp F qs)=some cs):
  ∃cells:Array Value,VRs κ cs cells.toList∧(Instr.buildSlice t n (ps.map fun (i,x)=>(i,a.eval x))).run P κ.w=.ok (.slice (some ⟨κ.w.heap.size,0,none⟩) n n) (κ.w.alloc (.cells cells e)):=by
 obtain ⟨zcs,hzz,hv⟩:=yj9 hz
 obtain ⟨z,hzc,hrz⟩:=ybq hzz κ.w
 obtain ⟨hl,hr⟩:=ycc r hp
 have hv':=yj8 (hv κ) h0 n
 obtain ⟨cells,e1,e2⟩:=yfx (fun i=>some (i*zero.length,zero.length)) _ _ _ _ cs hv' hl hr hf
 refine ⟨cells,e2,?_⟩
 have hzs:zero.length=zcs.length:=(hv κ).1
 have hzcells:z.cells=zcs.toArray:=by rw [←hzc]
 have hnb:¬(2 ^ 24<n*zero.length):=by omega
 have e1':Instr.fill (fun i=>some (i*zero.length,zero.length)) ((Array.range (n*zero.length)).map (zcs.toArray[· % zcs.toArray.size]!)) (ps.map fun (i,x)=>(i,a.eval x)).toList=some cells:=by
  simpa using e1
 have hnb':¬(n*zero.length > 2 ^ 24):=hnb
 simp only [Instr.buildSlice,Sem.run_bind,run_underlying (yan he),Result.andThen_ok,y4m hs,if_neg hnb']
 by_cases hn0:n*zero.length=0
 ·have hfill0:Instr.fill (fun i=>some (i*zero.length,zero.length)) ((Array.range (n*zero.length)).map ((#[]:Array Value)[· % (#[]:Array Value).size]!)) (ps.map fun (i,x)=>(i,a.eval x)).toList=some cells:=by
   rw [←e1',hn0]
   have:∀(g g':Nat→Value),(Array.range 0).map g=(Array.range 0).map g':=fun g g'=>by simp
   rw [this]
  simp only [hn0,if_true,Sem.run_pure,Result.andThen_ok]
  rw [hn0] at hfill0
  simp only [hfill0,newRow,Sem.run_bind,run_newObj,Sem.run_pure,Result.andThen_ok]
  rfl
 ·simp only [hn0,if_false,hrz,Sem.run_pure,Result.andThen_ok,Sem.run_bind,hzcells,e1',newRow,run_newObj]
  rfl
theorem does_bsl {t e:TypeId} {n:Nat} {ps:Array (Nat × Operand)} {zero:List V} {qs:List (Nat × Nat × AO)} (hz:zOk P e zero=true) (hs:szP P e=some zero.length) (h0:0<zero.length) (hb:n*zero.length≤2 ^ 24)
  (he:y83 P t=some e) (hp:y7z (fun i=>some (i*zero.length,zero.length)) ps.toList qs=true):y4s P ⟨dst,.buildSlice t n ps,type,pos,after,guard⟩ (.bsl n zero qs):=by
 intro F H v H' hst κ a S r
 simp only [y2c] at hst
 split at hst
 ·rename_i cs hcs
  injection hst with hst;injection hst with h1 h2;subst h1;subst h2
  obtain ⟨cells,hv,hrun⟩:=yit hz hs h0 hb he hp r hcs
  obtain ⟨le,S',_⟩:=new_ok S hv e
  have hlen:cs.length=n*zero.length:=by rw [y8o hcs,y5d]
  have hsz:cells.size=cs.length:=by have:=hv.1;simpa using this.symm
  refine ⟨_,_,.slice (some ⟨κ.w.heap.size,0,none⟩) n n,le,S',?_,?_,.inl rfl⟩
  ·refine .sl H.next 0 cs.length n zero.length n (cells.size,e) _ (K.new_ok _ _ _ _ (kG _)) h0 ⟨kG _,by have:=Nat.le_mul_of_pos_right n h0;omega⟩ (by omega) (by omega) ?_ (by rw [K.new_pl];simp;omega) (fun _=>by rw [K.new_pl])
   rw [K.new_pl]
   show y2q (κ.w.alloc _) κ.w.heap.size=_
   simp only [y2q,y23]
  ·simp only [execOp,Sem.run_bind,hrun,Result.andThen_ok,Sem.run_pure]
   simp
   rfl
 ·cases hst
theorem yot {t e:TypeId} {n:Nat} {ps:Array (Nat × Operand)} {zero:List V} {qs:List (Nat × Nat × AO)} (hz:zOk P e zero=true) (hs:szP P e=some zero.length) (h0:0<zero.length) (hb:n*zero.length≤2 ^ 24)
  (he:y83 P t=some e) (hp:y7z (fun i=>some (i*zero.length,zero.length)) ps.toList qs=true):y4s P ⟨dst,.buildSlice t n ps,type,pos,after,guard⟩ (.bslT e n zero qs):=by
 intro F H v H' hst κ a S r
 simp only [y2c] at hst
 split at hst
 ·rename_i cs hcs
  injection hst with hst;injection hst with h1 h2;subst h1;subst h2
  obtain ⟨cells,hv,hrun⟩:=yit hz hs h0 hb he hp r hcs
  obtain ⟨le,S',_⟩:=new_ok S hv e
  have hlen:cs.length=n*zero.length:=by rw [y8o hcs,y5d]
  have hsz:cells.size=cs.length:=by have:=hv.1;simpa using this.symm
  refine ⟨_,_,.slice (some ⟨κ.w.heap.size,0,none⟩) n n,le,S',?_,?_,.inl rfl⟩
  ·refine .st e _ n zero.length _ (.sl H.next 0 cs.length n zero.length n (cells.size,e) _ (K.new_ok _ _ _ _ (kG _)) h0 ⟨kG _,by have:=Nat.le_mul_of_pos_right n h0;omega⟩ (by omega) (by omega) ?_ (by rw [K.new_pl];simp;omega) (fun _=>by rw [K.new_pl])) ⟨cells.size,?_,by rw [K.new_pl]⟩
   ·rw [K.new_pl]
    show y2q (κ.w.alloc _) κ.w.heap.size=_
    simp only [y2q,y23]
   ·rw [K.new_pl]
    show y2q (κ.w.alloc _) κ.w.heap.size=_
    simp only [y2q,y23]
  ·simp only [execOp,Sem.run_bind,hrun,Result.andThen_ok,Sem.run_pure]
   simp
   rfl
 ·cases hst
def K.ice (κ:K) (o:Obj):K:={ κ with fz:=fun b=>κ.fz b∨b=κ.w.heap.size,ic:=fun b=>κ.ic b∨b=κ.w.heap.size,w:=κ.w.alloc o }
theorem K.ice_le {κ:K} {H:Hp} (S:Sim κ H) (o:Obj):κ.Le (κ.ice o):=
 ⟨fun _ _ h=>⟨h,rfl⟩,fun b h=>⟨.inl h,Below.heap_alloc κ.w o b (S.fz b h)⟩,fun b h=>⟨.inl h,Below.heap_alloc κ.w o b (S.fz b (S.ic b h))⟩,fun b h=>h.imp id (fun e=>.inl (Nat.le_of_eq e.symm)),fun b n h=>y5c h,by simp [K.ice],rfl,rfl,rfl,fun _ h=>⟨h,fun _ o=>o⟩,rfl,fun b r h=>⟨r,(Below.heap_alloc κ.w o b (lt_of_some h)).trans h⟩⟩
theorem Sim.ice {κ:K} {H:Hp} (S:Sim κ H) (o:Obj):Sim (κ.ice o) H:=by
 have le:=K.ice_le S o
 refine ⟨S.ok,S.hole,S.lt,fun b h=>?_,fun b h=>h.imp (S.ic b) id,S.le,fun id cs m hg e h1 h2=>?_,fun id es hg=>?_,S.sep,S.base,S.sepm,S.tb.mono le⟩
 ·simp only [K.ice,World.size_alloc]
  rcases h with h | h
  ·have:=S.fz b h;omega
  ·omega
 ·obtain ⟨⟨arr,t,fr,hb,hs,hv,hf⟩,hz⟩:=S.cells id cs m hg e h1 h2
  have hlt:=lt_of_some hb
  refine ⟨⟨arr,t,fr,(Below.heap_alloc κ.w o _ hlt).trans hb,hs,fun j v a b=>(hv j v a b).mono le,hf⟩,?_⟩
  rintro (h | h)
  ·exact hz h
  ·have:(κ.pl id e).1=κ.w.heap.size:=h
   omega
 ·obtain ⟨⟨x,hb,ho⟩,hz⟩:=S.maps id es hg
  have hlt:=lt_of_some hb
  refine ⟨⟨x,(Below.heap_alloc κ.w o _ hlt).trans hb,ho.mono le⟩,?_⟩
  rintro (h | h)
  ·exact hz h
  ·have:(κ.pl id 0).1=κ.w.heap.size:=h
   omega
theorem yp3 (cs:List V) (n sz i j:Nat) (e:List V) (v:V) (h1:((List.range n).map fun i=>(cs.drop (i*sz)).take sz)[i]?=some e) (h2:e[j]?=some v):i<n∧j<sz∧cs[i*sz+j]?=some v:=by
 have hi:i<n:=by
  have:=(List.getElem?_eq_some_iff.1 h1).1
  simpa using this
 simp [hi] at h1
 subst h1
 rw [kj] at h2
 split at h2
 ·rename_i hj
  rw [List.getElem?_drop] at h2
  exact ⟨hi,hj,h2⟩
 ·cases h2
theorem yik {κ:K} {cs:List V} {n sz b o cap:Nat} {cv:Nat→Value} (hz:0<sz) (hl:n*sz≤cs.length) (hcap:n≤cap) (hf:κ.ic b)
  (hc:∀(j:Nat) v,j<n*sz→cs[j]?=some v→κ.w.cell? ⟨b,o+j,none⟩=some (cv j)∧VR κ v (cv j)):
  VR κ (.fs ((List.range n).map fun i=>(cs.drop (i*sz)).take sz)) (.slice (some ⟨b,o,none⟩) n cap):=by
 have hin:∀{i j:Nat} {e:List V} {v:V},((List.range n).map fun i=>(cs.drop (i*sz)).take sz)[i]?=some e→e[j]?=some v→i*sz+j<n*sz∧cs[i*sz+j]?=some v:=fun {i j e v} h1 h2=>by
  obtain ⟨a,b,c⟩:=yp3 cs n sz i j e v h1 h2
  refine ⟨?_,c⟩
  have:(i+1)*sz≤n*sz:=Nat.mul_le_mul_right _ a
  rw [Nat.add_mul] at this;omega
 have key:=VR.fs (κ:=κ) ((List.range n).map fun i=>(cs.drop (i*sz)).take sz) cap sz b o (some ⟨b,o,none⟩) (fun i j=>cv (i*sz+j)) (by simpa using hcap) (fun e he=>by
   simp only [List.mem_map,List.mem_range] at he
   obtain ⟨i,hi,rfl⟩:=he
   have:(i+1)*sz≤n*sz:=Nat.mul_le_mul_right _ hi
   rw [Nat.add_mul] at this
   simp;omega) (fun h=>by cases h) (fun _=>⟨rfl,hf⟩)
  (fun i j e v h1 h2=>by
   obtain ⟨a,b⟩:=hin h1 h2
   rw [ki];exact (hc _ v a b).1)
  (fun i j e v h1 h2=>by
   obtain ⟨a,b⟩:=hin h1 h2
   exact (hc _ v a b).2)
 simpa using key
theorem does_bfz {t e:TypeId} {n sz:Nat} {ps:Array (Nat × Operand)} {zero:List V} {qs:List (Nat × Nat × AO)} (hz:zOk P e zero=true) (hs:szP P e=some zero.length) (h0:0<zero.length) (hb:n*zero.length≤2 ^ 24) (hsz:sz=zero.length)
  (he:y83 P t=some e) (hp:y7z (fun i=>some (i*zero.length,zero.length)) ps.toList qs=true):y4s P ⟨dst,.buildSlice t n ps,type,pos,after,guard⟩ (.bfz n sz zero qs):=by
 subst hsz
 intro F H v H' hst κ a S r
 simp only [y2c] at hst
 split at hst
 ·rename_i cs hcs
  injection hst with hst;injection hst with h1 h2;subst h1;subst h2
  obtain ⟨cells,hv,hrun⟩:=yit hz hs h0 hb he hp r hcs
  have hlen:cs.length=n*zero.length:=by rw [y8o hcs,y5d]
  have hsz:cells.size=cs.length:=by have:=hv.1;simpa using this.symm
  have le:=K.ice_le S (.cells cells e)
  refine ⟨κ.ice (.cells cells e),_,.slice (some ⟨κ.w.heap.size,0,none⟩) n n,le,S.ice _,?_,?_,.inl rfl⟩
  ·refine yik (cv:=fun j=>cells.getD j undef) h0 (by omega) (kG _) (.inr rfl) fun j v hj hv'=>?_
   refine ⟨?_,?_⟩
   ·have:=yao (w:=κ.w.alloc (.cells cells e)) (b:=κ.w.heap.size) (j:=j) (y23 _ _) (by omega)
    simpa [K.ice] using this
   ·have:=hv.2 j v hv'
    have h2:=this.mono le
    simpa [List.getD,kH] using h2
  ·simp only [execOp,Sem.run_bind,hrun,Result.andThen_ok,Sem.run_pure]
   simp [K.ice]
 ·cases hst
end
end Go.Proofs.YtikpijbeobeckaaGreatDoor.Am
