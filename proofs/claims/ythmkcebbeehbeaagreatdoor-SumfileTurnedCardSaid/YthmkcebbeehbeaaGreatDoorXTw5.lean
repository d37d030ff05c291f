/- Part 5 of the proof of the laws of the queries: Am9. -/
import Derived.Test.YthmkcebbeehbeaaGreatDoorXTw4
set_option linter.unusedSimpArgs false
set_option linter.unusedVariables false
namespace Go.Proofs.YthmkcebbeehbeaaGreatDoor.Am
open Go Go.RowKit
theorem y6w (n:Nat) (zero:List V):(yco n zero).length=n*zero.length:=by
  unfold yco
  split
  · simp
  · simp
theorem yiy (n:Nat) (zero:List V):yco n zero=(List.replicate n zero).flatten:=by
  unfold yco
  split
  · rename_i z
    induction n with
    | zero=>rfl
    | succ n ih=>rw [List.replicate_succ,List.replicate_succ,List.flatten_cons,←ih];rfl
  · rfl
theorem yhu (n:Nat) (zero:List V) (hz:0<zero.length) (j:Nat) (v:V) (h:(yco n zero)[j]?=some v):zero[j % zero.length]?=some v:=by
  rw [yiy] at h
  obtain ⟨e,h1,h2⟩:=ybq zero.length hz (List.replicate n zero) (fun e he=>by rw [(List.mem_replicate.1 he).2]) j v h
  have:=(List.mem_replicate.1 (List.mem_of_getElem? h1)).2
  subst this
  exact h2
theorem ylr {κ:K} {zero:List V} {z:List Value} (hv:VRs κ zero z) (hz:0<zero.length) (n:Nat):
    VRs κ (yco n zero) ((Array.range (n*zero.length)).map (z.toArray[· % z.toArray.size]!)).toList:=by
  refine .of_get (by simp [y6w]) fun j v hj=>?_
  have hl:j<n*zero.length:=by rw [←y6w n zero];exact (List.getElem?_eq_some_iff.1 hj).1
  obtain ⟨c,hc,hr⟩:=hv.get (yhu n zero hz j v hj)
  refine ⟨c,?_,hr⟩
  have hzl:zero.length=z.length:=hv.1
  rw [Array.getElem?_toList,Array.getElem?_map,Array.getElem?_range,if_pos hl]
  simp only [Option.map_some,List.size_toArray]
  rw [←hzl]
  have hlt:j % zero.length<z.length:=by rw [←hzl];exact Nat.mod_lt _ hz
  have:z.toArray[j % zero.length]! = c:=by
    rw [getElem!_pos z.toArray (j % zero.length) (by simpa using hlt)]
    have:=(List.getElem?_eq_some_iff.1 hc).2
    simpa using this
  rw [this]
theorem yai:∀{qs:List (Nat × Nat × V)} {cells cs:List V},yeg cells qs=some cs→cs.length=cells.length
  | [],cells,cs,h=>by simp only [yeg] at h;injection h with h;subst h;rfl
  | (o,m,v)::qs,cells,cs,h=>by
    simp only [yeg] at h
    split at h
    · split at h
      · rw [yai h,ybc]
      · cases h
    · cases h
section
variable {P:Program} {dst:Option Tmp} {type:TypeId} {pos:String} {after:Array Edge} {guard:Option (Nat × Bool)}
theorem ylf {t e:TypeId} {n:Nat} {ps:Array (Nat × Operand)} {zero:List V} {qs:List (Nat × Nat × AO)} (hz:zOk P e zero=true) (hs:szP P e=some zero.length) (h0:0<zero.length) (hb:n*zero.length≤2 ^ 24)
    (he:yad P t=some e) (hp:y9i (fun i=>some (i*zero.length,zero.length)) ps.toList qs=true) {F:Fr} {κ:K} {a:Act} (r:FR κ F a.tmps) {cs:List V} (hf:yeg (yco n zero) (evp F qs)=some cs):
    ∃cells:Array Value,VRs κ cs cells.toList∧(Instr.buildSlice t n (ps.map fun (i,x)=>(i,a.eval x))).run P κ.w=.ok (.slice (some ⟨κ.w.heap.size,0,none⟩) n n) (κ.w.alloc (.cells cells e)):=by
  obtain ⟨zcs,hzz,hv⟩:=yls hz
  obtain ⟨z,hzc,hrz⟩:=ydj hzz κ.w
  obtain ⟨hl,hr⟩:=yea r hp
  have hv':=ylr (hv κ) h0 n
  obtain ⟨cells,e1,e2⟩:=yi7 (fun i=>some (i*zero.length,zero.length)) _ _ _ _ cs hv' hl hr hf
  refine ⟨cells,e2,?_⟩
  have hzs:zero.length=zcs.length:=(hv κ).1
  have hzcells:z.cells=zcs.toArray:=by rw [←hzc]
  have hnb:¬(2 ^ 24<n*zero.length):=by omega
  have e1':Instr.fill (fun i=>some (i*zero.length,zero.length)) ((Array.range (n*zero.length)).map (zcs.toArray[· % zcs.toArray.size]!)) (ps.map fun (i,x)=>(i,a.eval x)).toList=some cells:=by
    simpa using e1
  have hnb':¬(n*zero.length > 2 ^ 24):=hnb
  simp only [Instr.buildSlice,Sem.run_bind,run_underlying (ycu he),Result.andThen_ok,y5s hs,if_neg hnb']
  by_cases hn0:n*zero.length=0
  · have hfill0:Instr.fill (fun i=>some (i*zero.length,zero.length)) ((Array.range (n*zero.length)).map ((#[]:Array Value)[· % (#[]:Array Value).size]!)) (ps.map fun (i,x)=>(i,a.eval x)).toList=some cells:=by
      rw [←e1',hn0]
      have:∀(g g':Nat→Value),(Array.range 0).map g=(Array.range 0).map g':=fun g g'=>by simp
      rw [this]
    simp only [hn0,if_true,Sem.run_pure,Result.andThen_ok]
    rw [hn0] at hfill0
    simp only [hfill0,newRow,Sem.run_bind,run_newObj,Sem.run_pure,Result.andThen_ok]
    rfl
  · simp only [hn0,if_false,hrz,Sem.run_pure,Result.andThen_ok,Sem.run_bind,hzcells,e1',newRow,run_newObj]
    rfl
theorem does_bsl {t e:TypeId} {n:Nat} {ps:Array (Nat × Operand)} {zero:List V} {qs:List (Nat × Nat × AO)} (hz:zOk P e zero=true) (hs:szP P e=some zero.length) (h0:0<zero.length) (hb:n*zero.length≤2 ^ 24)
    (he:yad P t=some e) (hp:y9i (fun i=>some (i*zero.length,zero.length)) ps.toList qs=true):y6h P ⟨dst,.buildSlice t n ps,type,pos,after,guard⟩ (.bsl n zero qs):=by
  intro F H v H' hst κ a S r
  simp only [y37] at hst
  split at hst
  · rename_i cs hcs
    injection hst with hst;injection hst with h1 h2;subst h1;subst h2
    obtain ⟨cells,hv,hrun⟩:=ylf hz hs h0 hb he hp r hcs
    obtain ⟨le,S',_⟩:=new_ok S hv e
    have hlen:cs.length=n*zero.length:=by rw [yai hcs,y6w]
    have hsz:cells.size=cs.length:=by have:=hv.1;simpa using this.symm
    refine ⟨_,_,.slice (some ⟨κ.w.heap.size,0,none⟩) n n,le,S',?_,?_,.inl rfl⟩
    · refine .sl H.next 0 cs.length n zero.length n (cells.size,e) _ (K.new_ok _ _ _ _ (Nat.le_refl _)) h0 ⟨Nat.le_refl _,by have:=Nat.le_mul_of_pos_right n h0;omega⟩ (by omega) (by omega) ?_ (by rw [K.new_pl];simp;omega) (fun _=>by rw [K.new_pl])
      rw [K.new_pl]
      show y3n (κ.w.alloc _) κ.w.heap.size=_
      simp only [y3n,y2r]
    · simp only [execOp,Sem.run_bind,hrun,Result.andThen_ok,Sem.run_pure]
      simp
      rfl
  · cases hst
theorem yqq {t e:TypeId} {n:Nat} {ps:Array (Nat × Operand)} {zero:List V} {qs:List (Nat × Nat × AO)} (hz:zOk P e zero=true) (hs:szP P e=some zero.length) (h0:0<zero.length) (hb:n*zero.length≤2 ^ 24)
    (he:yad P t=some e) (hp:y9i (fun i=>some (i*zero.length,zero.length)) ps.toList qs=true):y6h P ⟨dst,.buildSlice t n ps,type,pos,after,guard⟩ (.bslT e n zero qs):=by
  intro F H v H' hst κ a S r
  simp only [y37] at hst
  split at hst
  · rename_i cs hcs
    injection hst with hst;injection hst with h1 h2;subst h1;subst h2
    obtain ⟨cells,hv,hrun⟩:=ylf hz hs h0 hb he hp r hcs
    obtain ⟨le,S',_⟩:=new_ok S hv e
    have hlen:cs.length=n*zero.length:=by rw [yai hcs,y6w]
    have hsz:cells.size=cs.length:=by have:=hv.1;simpa using this.symm
    refine ⟨_,_,.slice (some ⟨κ.w.heap.size,0,none⟩) n n,le,S',?_,?_,.inl rfl⟩
    · refine .st e _ n zero.length _ (.sl H.next 0 cs.length n zero.length n (cells.size,e) _ (K.new_ok _ _ _ _ (Nat.le_refl _)) h0 ⟨Nat.le_refl _,by have:=Nat.le_mul_of_pos_right n h0;omega⟩ (by omega) (by omega) ?_ (by rw [K.new_pl];simp;omega) (fun _=>by rw [K.new_pl])) ⟨cells.size,?_,by rw [K.new_pl]⟩
      · rw [K.new_pl]
        show y3n (κ.w.alloc _) κ.w.heap.size=_
        simp only [y3n,y2r]
      · rw [K.new_pl]
        show y3n (κ.w.alloc _) κ.w.heap.size=_
        simp only [y3n,y2r]
    · simp only [execOp,Sem.run_bind,hrun,Result.andThen_ok,Sem.run_pure]
      simp
      rfl
  · cases hst
def K.ice (κ:K) (o:Obj):K:={ κ with fz:=fun b=>κ.fz b∨b=κ.w.heap.size,ic:=fun b=>κ.ic b∨b=κ.w.heap.size,w:=κ.w.alloc o }
theorem K.ice_le {κ:K} {H:Hp} (S:Sim κ H) (o:Obj):κ.Le (κ.ice o):=
  ⟨fun _ _ h=>⟨h,rfl⟩,fun b h=>⟨.inl h,Below.heap_alloc κ.w o b (S.fz b h)⟩,fun b h=>⟨.inl h,Below.heap_alloc κ.w o b (S.fz b (S.ic b h))⟩,fun b h=>h.imp id (fun e=>.inl (Nat.le_of_eq e.symm)),fun b n h=>y8b h,by simp [K.ice],rfl,rfl,rfl,fun _ h=>⟨h,fun _ o=>o⟩,rfl,fun b r h=>⟨r,(Below.heap_alloc κ.w o b (lt_of_some h)).trans h⟩⟩
theorem Sim.ice {κ:K} {H:Hp} (S:Sim κ H) (o:Obj):Sim (κ.ice o) H:=by
  have le:=K.ice_le S o
  refine ⟨S.ok,S.hole,S.lt,fun b h=>?_,fun b h=>h.imp (S.ic b) id,S.le,fun id cs m hg e h1 h2=>?_,fun id es hg=>?_,S.sep,S.base,S.sepm,S.tb.mono le⟩
  · simp only [K.ice,World.size_alloc]
    rcases h with h | h
    · have:=S.fz b h;omega
    · omega
  · obtain ⟨⟨arr,t,fr,hb,hs,hv,hf⟩,hz⟩:=S.cells id cs m hg e h1 h2
    have hlt:=lt_of_some hb
    refine ⟨⟨arr,t,fr,(Below.heap_alloc κ.w o _ hlt).trans hb,hs,fun j v a b=>(hv j v a b).mono le,hf⟩,?_⟩
    rintro (h | h)
    · exact hz h
    · have:(κ.pl id e).1=κ.w.heap.size:=h
      omega
  · obtain ⟨⟨x,hb,ho⟩,hz⟩:=S.maps id es hg
    have hlt:=lt_of_some hb
    refine ⟨⟨x,(Below.heap_alloc κ.w o _ hlt).trans hb,ho.mono le⟩,?_⟩
    rintro (h | h)
    · exact hz h
    · have:(κ.pl id 0).1=κ.w.heap.size:=h
      omega
theorem yr3 (cs:List V) (n sz i j:Nat) (e:List V) (v:V) (h1:((List.range n).map fun i=>(cs.drop (i*sz)).take sz)[i]?=some e) (h2:e[j]?=some v):i<n∧j<sz∧cs[i*sz+j]?=some v:=by
  have hi:i<n:=by
    have:=(List.getElem?_eq_some_iff.1 h1).1
    simpa using this
  simp [hi] at h1
  subst h1
  rw [List.getElem?_take] at h2
  split at h2
  · rename_i hj
    rw [List.getElem?_drop] at h2
    exact ⟨hi,hj,h2⟩
  · cases h2
theorem yl2 {κ:K} {cs:List V} {n sz b o cap:Nat} {cv:Nat→Value} (hz:0<sz) (hl:n*sz≤cs.length) (hcap:n≤cap) (hf:κ.ic b)
    (hc:∀(j:Nat) v,j<n*sz→cs[j]?=some v→κ.w.cell? ⟨b,o+j,none⟩=some (cv j)∧VR κ v (cv j)):
    VR κ (.fs ((List.range n).map fun i=>(cs.drop (i*sz)).take sz)) (.slice (some ⟨b,o,none⟩) n cap):=by
  have hin:∀{i j:Nat} {e:List V} {v:V},((List.range n).map fun i=>(cs.drop (i*sz)).take sz)[i]?=some e→e[j]?=some v→i*sz+j<n*sz∧cs[i*sz+j]?=some v:=fun {i j e v} h1 h2=>by
    obtain ⟨a,b,c⟩:=yr3 cs n sz i j e v h1 h2
    refine ⟨?_,c⟩
    have:(i+1)*sz≤n*sz:=Nat.mul_le_mul_right _ a
    rw [Nat.add_mul] at this;omega
  have key:=VR.fs (κ:=κ) ((List.range n).map fun i=>(cs.drop (i*sz)).take sz) cap sz b o (some ⟨b,o,none⟩) (fun i j=>cv (i*sz+j)) (by simpa using hcap) (fun e he=>by
      simp only [List.mem_map,List.mem_range] at he
      obtain ⟨i,hi,rfl⟩:=he
      have:(i+1)*sz≤n*sz:=Nat.mul_le_mul_right _ hi
      rw [Nat.add_mul] at this
      simp;omega) (fun h=>by cases h) (fun _=>⟨rfl,hf⟩)
    (fun i j e v h1 h2=>by
      obtain ⟨a,b⟩:=hin h1 h2
      rw [Nat.add_assoc];exact (hc _ v a b).1)
    (fun i j e v h1 h2=>by
      obtain ⟨a,b⟩:=hin h1 h2
      exact (hc _ v a b).2)
  simpa using key
theorem does_bfz {t e:TypeId} {n sz:Nat} {ps:Array (Nat × Operand)} {zero:List V} {qs:List (Nat × Nat × AO)} (hz:zOk P e zero=true) (hs:szP P e=some zero.length) (h0:0<zero.length) (hb:n*zero.length≤2 ^ 24) (hsz:sz=zero.length)
    (he:yad P t=some e) (hp:y9i (fun i=>some (i*zero.length,zero.length)) ps.toList qs=true):y6h P ⟨dst,.buildSlice t n ps,type,pos,after,guard⟩ (.bfz n sz zero qs):=by
  subst hsz
  intro F H v H' hst κ a S r
  simp only [y37] at hst
  split at hst
  · rename_i cs hcs
    injection hst with hst;injection hst with h1 h2;subst h1;subst h2
    obtain ⟨cells,hv,hrun⟩:=ylf hz hs h0 hb he hp r hcs
    have hlen:cs.length=n*zero.length:=by rw [yai hcs,y6w]
    have hsz:cells.size=cs.length:=by have:=hv.1;simpa using this.symm
    have le:=K.ice_le S (.cells cells e)
    refine ⟨κ.ice (.cells cells e),_,.slice (some ⟨κ.w.heap.size,0,none⟩) n n,le,S.ice _,?_,?_,.inl rfl⟩
    · refine yl2 (cv:=fun j=>cells.getD j undef) h0 (by omega) (Nat.le_refl _) (.inr rfl) fun j v hj hv'=>?_
      refine ⟨?_,?_⟩
      · have:=y99 (w:=κ.w.alloc (.cells cells e)) (b:=κ.w.heap.size) (j:=j) (y2r _ _) (by omega)
        simpa [K.ice] using this
      · have:=hv.2 j v hv'
        have h2:=this.mono le
        simpa [List.getD,Array.getD_eq_getD_getElem?] using h2
    · simp only [execOp,Sem.run_bind,hrun,Result.andThen_ok,Sem.run_pure]
      simp [K.ice]
  · cases hst
end
end Go.Proofs.YthmkcebbeehbeaaGreatDoor.Am
