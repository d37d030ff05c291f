/- Part 42. -/
import Derived.Shelf.Sort.Plain
import Derived.Shelf.Slices.In.SortNone
import Derived.Lib.RowBridge
import Derived.Shelf.SlSortCmp.NoneTotal
import Derived.Ground.SlsfProg
import Derived.Test.YtikpijbeobeckaaGreatDoorXGw20
import Derived.Test.YtikpijbeobeckaaGreatDoorXGw25
import Derived.Test.YtikpijbeobeckaaGreatDoorXGw33
import Derived.Test.YtikpijbeobeckaaGreatDoorXGw39
set_option linter.unusedSimpArgs false
set_option linter.unusedVariables false
namespace Go.Proofs
open Go.Shelf Go.RowKit Go.Sort Go.Lib
def Tryz.lays190_ren:Go.Shelf.Ren:=⟨fun | 190=>65 | 125=>116 | 258=>115 | 128=>174 | 129=>175 | 302=>165 | 303=>166 | 304=>167 | 305=>168 | 306=>169 | 307=>170 | 308=>171 | 309=>172 | 310=>173 | 333=>223 | 329=>224 | 330=>225 | 334=>226 | 335=>227 | 336=>153 | 344=>257 | n=>n,fun | 31=>35 | 9=>9 | 3=>3 | 46=>155 | 0=>0 | 51=>208 | 53=>47 | 4=>4 | 183=>201 | 182=>200 | 131=>187 | 5=>5 | 218=>251 | 222=>255 | 228=>276 | 229=>277 | n=>n,fun | n=>n⟩
theorem Tryz.lays190:Go.Proofs.Lays.n190 Tryz.prog Tryz.lays190_ren:={
 mixed:=by kernel_rfl
 f125:=Tryz.func116.trans (congrArg some (by kernel_rfl))
 f128:=Tryz.func174.trans (congrArg some (by kernel_rfl))
 f129:=Tryz.func175.trans (congrArg some (by kernel_rfl))
 f190:=Tryz.func65.trans (congrArg some (by kernel_rfl))
 f258:=Tryz.func115.trans (congrArg some (by kernel_rfl))
 f302:=Tryz.func165.trans (congrArg some (by kernel_rfl))
 f303:=Tryz.func166.trans (congrArg some (by kernel_rfl))
 f304:=Tryz.func167.trans (congrArg some (by kernel_rfl))
 f305:=Tryz.func168.trans (congrArg some (by kernel_rfl))
 f306:=Tryz.func169.trans (congrArg some (by kernel_rfl))
 f307:=Tryz.func170.trans (congrArg some (by kernel_rfl))
 f308:=Tryz.func171.trans (congrArg some (by kernel_rfl))
 f309:=Tryz.func172.trans (congrArg some (by kernel_rfl))
 f310:=Tryz.func173.trans (congrArg some (by kernel_rfl))
 f329:=Tryz.func224.trans (congrArg some (by kernel_rfl))
 f330:=Tryz.func225.trans (congrArg some (by kernel_rfl))
 f333:=Tryz.func223.trans (congrArg some (by kernel_rfl))
 f334:=Tryz.func226.trans (congrArg some (by kernel_rfl))
 f335:=Tryz.func227.trans (congrArg some (by kernel_rfl))
 f336:=Tryz.func153.trans (congrArg some (by kernel_rfl))
 f344:=Tryz.func257.trans (congrArg some (by kernel_rfl))
 t0:=Tryz.underlying0
 a0:=Tryz.isAgg0
 z0:=Tryz.sizeOf0
 v0:=Tryz.zeroValue0
 t3:=Tryz.underlying3
 a3:=Tryz.isAgg3
 z3:=Tryz.sizeOf3
 v3:=Tryz.zeroValue3
 t4:=Tryz.underlying4
 a4:=Tryz.isAgg4
 z4:=Tryz.sizeOf4
 v4:=Tryz.zeroValue4
 t5:=Tryz.underlying5
 a5:=Tryz.isAgg5
 z5:=Tryz.sizeOf5
 v5:=Tryz.zeroValue5
 t9:=Tryz.underlying9
 a9:=Tryz.isAgg9
 z9:=Tryz.sizeOf9
 v9:=Tryz.zeroValue9
 t31:=Tryz.underlying35
 a31:=Tryz.isAgg35
 z31:=Tryz.sizeOf35
 v31:=Tryz.zeroValue35
 t46:=Tryz.underlying155
 a46:=Tryz.isAgg155
 z46:=Tryz.sizeOf155
 v46:=Tryz.zeroValue155
 t51:=Tryz.underlying208
 a51:=Tryz.isAgg208
 z51:=Tryz.sizeOf208
 v51:=Tryz.zeroValue208
 t53:=Tryz.underlying47
 a53:=Tryz.isAgg47
 z53:=Tryz.sizeOf47
 v53:=Tryz.zeroValue47
 t131:=Tryz.underlying187
 a131:=Tryz.isAgg187
 z131:=Tryz.sizeOf187
 v131:=Tryz.zeroValue187
 t182:=Tryz.underlying200
 a182:=Tryz.isAgg200
 z182:=Tryz.sizeOf200
 v182:=Tryz.zeroValue200
 t183:=Tryz.underlying201
 a183:=Tryz.isAgg201
 z183:=Tryz.sizeOf201
 v183:=Tryz.zeroValue201
 t218:=Tryz.underlying251
 a218:=Tryz.isAgg251
 z218:=Tryz.sizeOf251
 v218:=Tryz.zeroValue251
 t222:=Tryz.underlying255
 a222:=Tryz.isAgg255
 z222:=Tryz.sizeOf255
 v222:=Tryz.zeroValue255
 t228:=Tryz.underlying276
 a228:=Tryz.isAgg276
 z228:=Tryz.sizeOf276
 v228:=Tryz.zeroValue276
 t229:=Tryz.underlying277
 a229:=Tryz.isAgg277
 z229:=Tryz.sizeOf277
 v229:=Tryz.zeroValue277 }
open Go.RowKit in
theorem Tryz.slices_Sort_string (blk off cap:Nat) (ss:List (List UInt8)) (w:World) (hH:Holds encStr w blk off ss.toArray) (hblk:blk<w.heap.size) (hsz:ss.length<4611686018427387904):
  Calls Tryz.prog 65 #[.slice (some ⟨blk,off,none⟩) ss.length cap] w fun e w'=>
   e=.returned (.tuple #[])∧∃n os,w'=grow (putRow encStr (Sort.ahead w n) blk off (ss.mergeSort fun x y=>decide (x≤y)).toArray) os:=Any.slices_Sort_string Tryz.lays190 blk off cap ss w hH hblk hsz
end Go.Proofs
namespace Go.Proofs.YtikpijbeobeckaaGreatDoor
open Am C
def yb0 (l:List Str):List Str:=l.mergeSort fun x y=>decide (x≤y)
theorem yjv (x y:Str):decide (x≤y)=!ltB y x:=by
 unfold ltB
 rw [Go.Proofs.bytesLess_eq]
 by_cases h:y<x
 ·have:¬x≤y:=fun k=>k h
  simp [h,this]
 ·have:x≤y:=h
  simp [h,this]
theorem yl0 {l:List Str} (h:l.Nodup):yb0 l=yfd l:=by
 have hp:=List.mergeSort_perm l fun x y=>decide (x≤y)
 have hs:(yb0 l).Pairwise fun a b=>decide (a≤b)=true:=List.pairwise_mergeSort (fun a b c h1 h2=>by
   rw [yjv] at h1 h2 ⊢
   cases hh:ltB c a with
   | false=>rfl
   | true=>
    rcases y8j a b with k | k | k
    ·have:=y7s hh k;rw [this] at h2;simp at h2
    ·subst k;rw [hh] at h2;simp at h2
    ·rw [k] at h1;simp at h1)
  (fun a b=>by
   rw [yjv,yjv]
   rcases y8j a b with k | k | k
   ·rw [y74 k];simp
   ·subst k
    have:ltB a a=false:=by cases hh:ltB a a with | false=>rfl | true=>exact absurd hh (y4z a)
    rw [this];simp
   ·rw [y74 k];simp) l
 have hn:(yb0 l).Nodup:=hp.nodup_iff.2 h
 have hr:y3o (yb0 l):=(hs.and hn).imp fun {a b} hab=>by
  obtain ⟨h1,h2⟩:=hab
  rw [yjv] at h1
  rcases y8j a b with k | k | k
  ·exact k
  ·exact absurd k h2
  ·rw [k] at h1;simp at h1
 exact y92 hr (yat l) fun x=>by rw [yib];exact hp.mem_iff
namespace Am
open Go Go.RowKit Go.Proofs Go.Sort
theorem y91:∀(zs cs:List V),zs.length=cs.length→setAll zs 0 cs=cs:=fun zs cs h=>by
 apply List.ext_getElem?
 intro j
 rw [yak cs zs 0 j (by omega)]
 by_cases hj:j<cs.length
 ·simp [hj]
 ·rw [if_neg (by omega),List.getElem?_eq_none (by omega),List.getElem?_eq_none (by omega)]
theorem SortS_ok (l:List Str) (hl:l.length≤1000000000) (hn:l≠[]) (id m:Nat) (H:Hp) (hg:H.get id=some (.cells (l.map V.s) m)):
  AC Tryz.prog y61 [.sl (some (id,0,l.length)) l.length 1] H (fun v H'=>v=.tup []∧H'=H.upd id (.cells ((yb0 l).map V.s) l.length)):=by
 refine ⟨by kernel_rfl,fun κ cs S r=>?_⟩
 obtain ⟨c,rfl,rc⟩:=r.one'
 have hm:=S.le id _ m hg
 have hP:=S.cells id _ m hg l.length (by simpa using hm) (by simp)
 obtain ⟨⟨arr,t,fr,p1,p2,p3,p4⟩,p5⟩:=hP
 have hlen:(yb0 l).length=l.length:=List.length_mergeSort l
 have hpos:0<l.length:=List.length_pos_iff.2 hn
 cases rc with
 | sl _ _ _ _ _ cap n a ok hsz hcap hext hext2 hn' hroom ha=>
 have ha:=ha (by omega)
 subst ha
 have hcell:∀j,j<l.length→κ.w.cell? ⟨(κ.pl id l.length).1,(κ.pl id l.length).2+0+j,none⟩=some (encStr (l.getD j [])):=fun j hj=>by
  rw [y6h p1 (by omega)]
  have:=p3 j (.s (l.getD j [])) hj (by simp [hj])
  have:=VR.inv_s this
  rw [Nat.add_zero,this]
 have hfro:∀j,j<l.length→κ.w.frozen? ⟨(κ.pl id l.length).1,(κ.pl id l.length).2+0+j,none⟩=false:=fun j hj=>y8c p1 p4 (by omega)
 have hH:Holds encStr κ.w (κ.pl id l.length).1 ((κ.pl id l.length).2+0) l.toArray:=fun j hj=>by
  have hj':j<l.length:=by simpa using hj
  refine ⟨?_,hfro j hj'⟩
  rw [hcell j hj']
  simp [hj']
 refine (Tryz.slices_Sort_string _ _ cap l κ.w hH (lt_of_some p1) (by omega)).mono fun e w' ⟨he,q,os,hw⟩=>?_
 have hsc:=Lib.putRow_eq_setCells encStr κ.w (κ.pl id l.length).1 ((κ.pl id l.length).2+0) l.toArray (yb0 l) q hH (by simpa using hlen)
 have hw2:w'=grow ((κ.w.drewN q).setCells (κ.pl id l.length).1 ((κ.pl id l.length).2+0) ((yb0 l).map encStr)) os:=by rw [hw,←hsc];rfl
 have bd:Below κ.w.heap.size κ.w (κ.w.drewN q):=by have:=Lib.below_grow κ.w.heap.size κ.w (kG _) q #[];simpa using this
 have le1:=K.below_le S bd
 have S1:=S.below bd
 have hvr:VRs { κ with w:=κ.w.drewN q } ((yb0 l).map V.s) ((yb0 l).map encStr):=⟨by simp,fun j v hj=>by
  rw [List.getElem?_map,kd] at hj
  obtain ⟨x,hx,rfl⟩:=hj
  rw [kQ,List.getElem?_map,hx]
  exact .s x⟩
 obtain ⟨κ2,le2,S2,run,pl2,ok2⟩:=Sim.setAll_ok (P:=Tryz.prog) ((yb0 l).map V.s) ((yb0 l).map encStr) S1 hg (fun e=>by simp at e;rw [e] at hlen;simp at hlen;omega) (off:=0) (i:=0) (by simp [hlen]) (fun v hv=>by
  obtain ⟨x,_,rfl⟩:=List.mem_map.1 hv;rfl) hvr
 have run2:=run_storeCells_cells (P:=Tryz.prog) (κ.pl id l.length).1 ((κ.pl id l.length).2+0) ((yb0 l).map encStr) 0 (κ.w.drewN q)
  (fun j hj=>by
   have hj':j<l.length:=by simpa [hlen] using hj
   have:=hcell j hj'
   simp only [Nat.add_zero] at this ⊢
   show (κ.w.cell? _).isSome=true
   rw [this];rfl)
  (fun j hj=>by
   have hj':j<l.length:=by simpa [hlen] using hj
   have:=hfro j hj'
   simp only [Nat.add_zero] at this ⊢
   exact this)
  (fun v hv=>by obtain ⟨x,_,rfl⟩:=List.mem_map.1 hv;rfl)
 have ew:κ2.w=(κ.w.drewN q).setCells (κ.pl id l.length).1 ((κ.pl id l.length).2+0) ((yb0 l).map encStr):=by
  have e1:(List.map V.s l).length=l.length:=by simp
  rw [e1] at run
  have:=run.symm.trans run2
  injection this with _ h
 have bg:Below κ2.w.heap.size κ2.w w':=by
  rw [hw2,←ew]
  exact Lib.below_grow κ2.w.heap.size κ2.w (kG _) 0 os
 have le3:=K.below_le S2 bg
 have S3:=S2.below bg
 refine ⟨{ κ2 with w:=w' },.tup [],_,_,he,rfl,le1.trans (le2.trans le3),S3,VR.tup (κ:={ κ2 with w:=w' }) [] [] rfl (fun j v h=>by simp at h),rfl,?_⟩
 rw [y91 _ _ (by simp [hlen])]
 simp
end Am
end Go.Proofs.YtikpijbeobeckaaGreatDoor
namespace Go.Proofs
open Go.Shelf Go.RowKit Go.Lib Go.Sort
def Tryz.laysSlF06_f66_ren:Go.Shelf.Ren:=⟨fun | 6=>66 | 15=>116 | 14=>117 | 28=>174 | 29=>175 | 20=>176 | 21=>177 | 22=>178 | 23=>179 | 24=>180 | 25=>181 | 26=>182 | 27=>183 | 46=>228 | 47=>224 | 48=>225 | 49=>229 | 50=>230 | 57=>258 | n=>n,fun | 22=>28 | 24=>37 | 25=>105 | 3=>3 | 39=>155 | 0=>0 | 53=>208 | 55=>47 | 4=>4 | 46=>201 | 45=>200 | 50=>187 | 5=>5 | 9=>9 | 66=>251 | 70=>255 | 76=>276 | 77=>277 | n=>n,fun | n=>n⟩
theorem Tryz.laysSlF06_f66:Go.Proofs.SlLaysF0.n6 Tryz.prog Tryz.laysSlF06_f66_ren:={
 mixed:=by kernel_rfl
 f6:=⟨Tryz.f66.name,by decide,Tryz.func66.trans (congrArg some (by kernel_rfl))⟩
 f14:=⟨Tryz.f117.name,by decide,Tryz.func117.trans (congrArg some (by kernel_rfl))⟩
 f15:=Tryz.func116.trans (congrArg some (by kernel_rfl))
 f20:=⟨Tryz.f176.name,by decide,Tryz.func176.trans (congrArg some (by kernel_rfl))⟩
 f21:=⟨Tryz.f177.name,by decide,Tryz.func177.trans (congrArg some (by kernel_rfl))⟩
 f22:=⟨Tryz.f178.name,by decide,Tryz.func178.trans (congrArg some (by kernel_rfl))⟩
 f23:=⟨Tryz.f179.name,by decide,Tryz.func179.trans (congrArg some (by kernel_rfl))⟩
 f24:=⟨Tryz.f180.name,by decide,Tryz.func180.trans (congrArg some (by kernel_rfl))⟩
 f25:=⟨Tryz.f181.name,by decide,Tryz.func181.trans (congrArg some (by kernel_rfl))⟩
 f26:=⟨Tryz.f182.name,by decide,Tryz.func182.trans (congrArg some (by kernel_rfl))⟩
 f27:=⟨Tryz.f183.name,by decide,Tryz.func183.trans (congrArg some (by kernel_rfl))⟩
 f28:=Tryz.func174.trans (congrArg some (by kernel_rfl))
 f29:=Tryz.func175.trans (congrArg some (by kernel_rfl))
 f46:=⟨Tryz.f228.name,by decide,Tryz.func228.trans (congrArg some (by kernel_rfl))⟩
 f47:=Tryz.func224.trans (congrArg some (by kernel_rfl))
 f48:=Tryz.func225.trans (congrArg some (by kernel_rfl))
 f49:=⟨Tryz.f229.name,by decide,Tryz.func229.trans (congrArg some (by kernel_rfl))⟩
 f50:=⟨Tryz.f230.name,by decide,Tryz.func230.trans (congrArg some (by kernel_rfl))⟩
 f57:=⟨Tryz.f258.name,by decide,Tryz.func258.trans (congrArg some (by kernel_rfl))⟩
 t0:=Tryz.underlying0
 a0:=Tryz.isAgg0
 z0:=Tryz.sizeOf0
 v0:=Tryz.zeroValue0
 t3:=Tryz.underlying3
 a3:=Tryz.isAgg3
 z3:=Tryz.sizeOf3
 v3:=Tryz.zeroValue3
 t4:=Tryz.underlying4
 a4:=Tryz.isAgg4
 z4:=Tryz.sizeOf4
 v4:=Tryz.zeroValue4
 t5:=Tryz.underlying5
 a5:=Tryz.isAgg5
 z5:=Tryz.sizeOf5
 v5:=Tryz.zeroValue5
 t9:=Tryz.underlying9
 a9:=Tryz.isAgg9
 z9:=Tryz.sizeOf9
 v9:=Tryz.zeroValue9
 t22:=Tryz.underlying28
 a22:=Tryz.isAgg28
 z22:=Tryz.sizeOf28
 v22:=Tryz.zeroValue28
 t25:=Tryz.underlying105
 a25:=Tryz.isAgg105
 z25:=Tryz.sizeOf105
 v25:=Tryz.zeroValue105
 t39:=Tryz.underlying155
 a39:=Tryz.isAgg155
 z39:=Tryz.sizeOf155
 v39:=Tryz.zeroValue155
 t45:=Tryz.underlying200
 a45:=Tryz.isAgg200
 z45:=Tryz.sizeOf200
 v45:=Tryz.zeroValue200
 t46:=Tryz.underlying201
 a46:=Tryz.isAgg201
 z46:=Tryz.sizeOf201
 v46:=Tryz.zeroValue201
 t50:=Tryz.underlying187
 a50:=Tryz.isAgg187
 z50:=Tryz.sizeOf187
 v50:=Tryz.zeroValue187
 t53:=Tryz.underlying208
 a53:=Tryz.isAgg208
 z53:=Tryz.sizeOf208
 v53:=Tryz.zeroValue208
 t55:=Tryz.underlying47
 a55:=Tryz.isAgg47
 z55:=Tryz.sizeOf47
 v55:=Tryz.zeroValue47
 t66:=Tryz.underlying251
 a66:=Tryz.isAgg251
 z66:=Tryz.sizeOf251
 v66:=Tryz.zeroValue251
 t70:=Tryz.underlying255
 a70:=Tryz.isAgg255
 z70:=Tryz.sizeOf255
 v70:=Tryz.zeroValue255
 t76:=Tryz.underlying276
 a76:=Tryz.isAgg276
 z76:=Tryz.sizeOf276
 v76:=Tryz.zeroValue276
 t77:=Tryz.underlying277
 a77:=Tryz.isAgg277
 z77:=Tryz.sizeOf277
 v77:=Tryz.zeroValue277 }
def y9r (x:List UInt8 × Option Addr × Nat × Nat):List Value:=[.string ⟨x.1.toArray⟩,.slice x.2.1 x.2.2.1 x.2.2.2]
set_option maxHeartbeats 1000000 in
theorem Tryz.closureF (x y:List UInt8 × Option Addr × Nat × Nat) (W:World):Calls Tryz.prog 67 #[.agg (y9r x).toArray,.agg (y9r y).toArray] W fun e w'=>e=.returned (.int .i64 (Lib.compareBytes x.1 y.1))∧∃q os',w'=grow (W.drewN q) os':=by
 have hcon:=fun W'=>Tryz.strings_Compare ⟨x.1.toArray⟩ ⟨y.1.toArray⟩ W'
 simp only [] at hcon
 change Calls Tryz.prog 67 #[.agg #[.string ⟨x.1.toArray⟩,.slice x.2.1 x.2.2.1 x.2.2.2],.agg #[.string ⟨y.1.toArray⟩,.slice y.2.1 y.2.2.1 y.2.2.2]] W _
 generalize Lib.compareBytes x.1 y.1=r at hcon ⊢
 go_enter Tryz.func67,Tryz.ntmps67
 go_wp2_with (go_at_call 68;refine (hcon _).mono ?_;rintro e w' ⟨rfl,rfl⟩)
 go_ret
 exact ⟨rfl,0,_,by rw [alloc_eq_grow,alloc_eq_grow,grow_grow];rfl⟩
theorem Tryz.cmpLaysF (blk off size:Nat) (w:World):CmpLays Tryz.prog 67 #[] y9r 2 (fun x y=>Lib.compareBytes x.1 y.1) blk off size w:=fun _ _ _ _ x y=>Tryz.closureF x y _
end Go.Proofs
namespace Go.Proofs.YtikpijbeobeckaaGreatDoor
open Am C
theorem cmpB_lt:∀a b:Str,(Go.Lib.compareBytes a b<0)↔ltB a b=true:=by
 have key:∀a b:Str,(Go.Lib.compareBytes a b<0)↔a<b:=by
  intro a
  induction a with
  | nil=>intro b;cases b <;> simp [Go.Lib.compareBytes]
  | cons x a ih=>
   intro b
   cases b with
   | nil=>simp [Go.Lib.compareBytes]
   | cons y b=>
    rw [List.cons_lt_cons_iff]
    unfold Go.Lib.compareBytes
    by_cases h1:x<y
    ·simp [h1]
    ·rw [if_neg h1]
     by_cases h2:y<x
     ·rw [if_pos h2]
      have:x≠y:=fun e=>by subst e;exact h1 h2
      simp [h1,this]
     ·rw [if_neg h2]
      have:x=y:=by
       have h3:¬x.toNat<y.toNat:=h1
       have h4:¬y.toNat<x.toNat:=h2
       exact UInt8.toNat_inj.1 (by omega)
      rw [ih];simp [h1,this]
 intro a b
 rw [key]
 unfold ltB
 rw [Go.Proofs.bytesLess_eq]
 simp
abbrev Sl3:=Option Go.Addr × Nat × Nat
theorem ltF (x y:Str × Sl3):ltOf (fun x y:Str × Sl3=>Go.Lib.compareBytes x.1 y.1) x y=ltB x.1 y.1:=by
 unfold ltOf
 rw [Bool.eq_iff_iff,decide_eq_true_eq]
 exact cmpB_lt _ _
theorem swoF:Go.Sort.SWO (ltOf fun x y:Str × Sl3=>Go.Lib.compareBytes x.1 y.1) where
 irrefl x:=by rw [ltF];cases h:ltB x.1 x.1 with | false=>rfl | true=>exact absurd h (y4z _)
 trans x y z h1 h2:=by rw [ltF] at *;exact y7s h1 h2
 ntrans x y z h1 h2:=by
  rw [ltF] at *
  cases h:ltB x.1 z.1 with
  | false=>rfl
  | true=>
   rcases y8j x.1 y.1 with k | k | k
   ·rw [h1] at k;cases k
   ·rw [←k,h] at h2;cases h2
   ·have:=y7s k h;rw [h2] at this;cases this
def ycw (l:List (Str × V)):List V:=l.flatMap fun f=>[.s f.1,f.2]
theorem yc0 (l:List (Str × V)):(ycw l).length=l.length*2:=by
 induction l with
 | nil=>rfl
 | cons a r ih=>simp only [ycw,List.flatMap_cons,kT,kO] at ih ⊢;rw [ih];simp;omega
theorem yc1 {l:List (Str × V)} {i:Nat} {f:Str × V} (h:l[i]?=some f):(ycw l)[i*2]?=some (.s f.1)∧(ycw l)[i*2+1]?=some f.2:=by
 induction l generalizing i with
 | nil=>cases h
 | cons a r ih=>
  have e:ycw (a::r)=.s a.1::a.2::ycw r:=rfl
  cases i with
  | zero=>simp at h;subst h;simp [e]
  | succ i=>
   have:=ih (by simpa using h)
   rw [e,show (i+1)*2=i*2+1+1 by omega,show i*2+1+1+1=(i*2+1)+1+1 by omega]
   simpa using this
theorem perm_one {l l':List (Str × Sl3)} (hp:l.Perm l') (h:y3o (l.map (·.1))) (h':l'.Pairwise fun x y=>ltB y.1 x.1=false):l'=l:=by
 have hn:(l.map (·.1)).Nodup:=h.nodup
 have hn':(l'.map (·.1)).Nodup:=(hp.map _).nodup_iff.1 hn
 have hr':y3o (l'.map (·.1)):=by
  rw [y3o,List.pairwise_map]
  rw [List.nodup_iff_pairwise_ne,List.pairwise_map] at hn'
  refine (h'.and hn').imp fun {a b} hab=>?_
  rcases y8j a.1 b.1 with k | k | k
  ·exact k
  ·exact absurd k hab.2
  ·rw [hab.1] at k;cases k
 have he:l'.map (·.1)=l.map (·.1):=y92 hr' h fun x=>(hp.map _).mem_iff.symm
 apply List.ext_getElem?
 intro i
 have hlen:l'.length=l.length:=hp.length_eq.symm
 cases hi:l'[i]? with
 | none=>
  have:=List.getElem?_eq_none_iff.1 hi
  exact (List.getElem?_eq_none (by omega)).symm
 | some x=>
  have hx:x∈l:=hp.mem_iff.2 (kY hi)
  obtain ⟨j,hj⟩:=List.mem_iff_getElem?.1 hx
  have h1:(l.map (·.1))[i]?=some x.1:=by rw [←he];simp [hi]
  have h2:(l.map (·.1))[j]?=some x.1:=by simp [hj]
  obtain ⟨q1,q2⟩:=List.getElem?_eq_some_iff.1 h1
  obtain ⟨r1,r2⟩:=List.getElem?_eq_some_iff.1 h2
  rw [List.nodup_iff_pairwise_ne] at hn
  have:i=j:=by
   rcases Nat.lt_trichotomy i j with h | h | h
   ·exact absurd (q2.trans r2.symm) (List.pairwise_iff_getElem.1 hn i j q1 r1 h)
   ·exact h
   ·exact absurd (r2.trans q2.symm) (List.pairwise_iff_getElem.1 hn j i r1 q1 h)
  rw [this,hj]
theorem yh9 (l:List (Str × Sl3)):∀t,(l.flatMap y9r)[t]! = (y9r l[t / 2]!)[t % 2]! ∨ l.length*2≤t:=by
 induction l with
 | nil=>intro t;exact .inr (Nat.zero_le _)
 | cons a r ih=>
  intro t
  have e:(a::r).flatMap y9r=y9r a++r.flatMap y9r:=rfl
  have la:(y9r a).length=2:=rfl
  rcases Nat.lt_or_ge t 2 with h | h
  ·left
   rw [e,show t / 2=0 by omega,show t % 2=t by omega]
   match t,h with
   | 0,_=>rfl
   | 1,_=>rfl
  ·obtain ⟨u,rfl⟩:∃u,t=u+2:=⟨t-2,by omega⟩
   rcases ih u with h1 | h1
   ·left
    rw [e,show (u+2) / 2=u / 2+1 by omega,show (u+2) % 2=u % 2 by omega]
    show (Go.Value.string _::Go.Value.slice _ _ _::r.flatMap y9r)[u+2]! = _
    simpa using h1
   ·right;simp;omega
theorem yh8 (l:List (Str × Sl3)):Go.Sort.flatK y9r 2 l.toArray=(l.flatMap y9r).toArray:=by
 have hl:(l.flatMap y9r).length=l.length*2:=by
  induction l with
  | nil=>rfl
  | cons a r ih=>simp only [List.flatMap_cons,kT,ih,kO];show 2+r.length*2=_;omega
 refine Go.Sort.ext_get! (by simp [hl]) fun t ht=>?_
 have ht':t<l.length*2:=by simpa using ht
 rw [Go.Sort.get_flatK _ _ _ _ (by simpa using ht')]
 rcases yh9 l t with h | h
 ·simpa using h.symm
 ·omega
namespace Am
open Go Go.RowKit Go.Proofs Go.Sort
theorem yf9 {κ:K} (cn:Str→Sl3):∀(l:List (Str × V)),(∀f∈l,VR κ f.2 (.slice (cn f.1).1 (cn f.1).2.1 (cn f.1).2.2))→VRs κ (ycw l) ((l.map fun f=>(f.1,cn f.1)).flatMap y9r)
 | [],_=>⟨rfl,fun j v h=>by simp [ycw] at h⟩
 | f::l,h=>by
  have ih:=yf9 cn l fun g hg=>h g (by simp [hg])
  have h0:VRs κ [.s f.1,f.2] (y9r (f.1,cn f.1)):=⟨rfl,fun j v hj=>by
   match j,hj with
   | 0,hj=>simp at hj;subst hj;exact .s f.1
   | 1,hj=>simp at hj;subst hj;exact h f (by simp)
   | j+2,hj=>simp at hj⟩
  have:=VRs.append h0 ih
  simpa [ycw] using this
theorem ylj (fs fs':List (Str × V)) (hl:fs.length≤1000000000) (hn:fs≠[]) (id m:Nat) (H:Hp) (hg:H.get id=some (.cells (ycw fs) m)) (hc:(ycw fs').all y3w=true) (hsl:∀f∈fs,∀κ c,VR κ f.2 c→∃p n k,c=.slice p n k) (hp:fs'.Perm fs) (hr:y3o (fs'.map (·.1))):
  AC Tryz.prog y3u [.sl (some (id,0,fs.length*2)) fs.length 2,.fn 67 []] H (fun v H'=>v=.tup []∧H'=H.upd id (.cells (ycw fs') (fs.length*2))):=by
 refine ⟨by kernel_rfl,fun κ cs S r=>?_⟩
 obtain ⟨hlen,hr0⟩:=r
 match cs,hlen with
 | [c0,c1],_=>
 have rc:VR κ _ c0:=hr0 0 _ rfl
 have rf:VR κ _ c1:=hr0 1 _ rfl
 cases rf with
 | fn _ _ c3 g1 g2=>
 have:c3=[]:=List.length_eq_zero_iff.1 g1.symm
 subst this
 have hfl:=yc0 fs
 have hm:=S.le id _ m hg
 have hP:=S.cells id _ m hg (fs.length*2) (by rw [←hfl];exact hm) (by omega)
 obtain ⟨⟨arr,t,fr,p1,p2,p3,p4⟩,p5⟩:=hP
 have hpos:0<fs.length:=List.length_pos_iff.2 hn
 cases rc with
 | sl _ _ _ _ _ cap n a ok hsz hcap hext hext2 hn' hroom ha=>
 have ha:=ha (by omega)
 subst ha
 have hnd:(fs.map (·.1)).Nodup:=(hp.map _).nodup_iff.1 hr.nodup
 obtain ⟨T,hT⟩:=Classical.axiomOfChoice (r:=fun (j:Nat) (x:Sl3)=>∀f,fs[j]?=some f→arr.getD ((κ.pl id (fs.length*2)).2+(j*2+1)) undef=.slice x.1 x.2.1 x.2.2) (fun j=>by
  cases hj:fs[j]? with
  | none=>exact ⟨(none,0,0),fun f h=>by cases h⟩
  | some f=>
   have hjl:=(List.getElem?_eq_some_iff.1 hj).1
   obtain ⟨p,n,k,e⟩:=hsl f (kY hj) κ _ (p3 (j*2+1) f.2 (by omega) (yc1 hj).2)
   exact ⟨(p,n,k),fun g hg=>by cases hg;exact e⟩)
 obtain ⟨cn,hcn⟩:=Classical.axiomOfChoice (r:=fun (x:Str) (y:Sl3)=>∀j f,fs[j]?=some f→f.1=x→T j=y) (fun x=>by
  by_cases h:∃(j:Nat) (f:Str × V),fs[j]?=some f∧f.1=x
  ·obtain ⟨j,f,h1,h2⟩:=h
   refine ⟨T j,fun j' f' h3 h4=>?_⟩
   have q1:(fs.map (·.1))[j]?=some x:=by simp [h1,h2]
   have q2:(fs.map (·.1))[j']?=some x:=by simp [h3,h4]
   obtain ⟨r1,r2⟩:=List.getElem?_eq_some_iff.1 q1
   obtain ⟨t1,t2⟩:=List.getElem?_eq_some_iff.1 q2
   rw [List.nodup_iff_pairwise_ne] at hnd
   rcases Nat.lt_trichotomy j j' with h | h | h
   ·exact absurd (r2.trans t2.symm) (List.pairwise_iff_getElem.1 hnd j j' r1 t1 h)
   ·rw [h]
   ·exact absurd (t2.trans r2.symm) (List.pairwise_iff_getElem.1 hnd j' j t1 r1 h)
  ·exact ⟨(none,0,0),fun j f h1 h2=>absurd ⟨j,f,h1,h2⟩ h⟩)
 have hvr:∀f∈fs,VR κ f.2 (.slice (cn f.1).1 (cn f.1).2.1 (cn f.1).2.2):=fun f hf=>by
  obtain ⟨j,hj⟩:=List.mem_iff_getElem?.1 hf
  have hjl:=(List.getElem?_eq_some_iff.1 hj).1
  have h1:=p3 (j*2+1) f.2 (by omega) (yc1 hj).2
  rw [hT j f hj,hcn f.1 j f hj rfl] at h1
  exact h1
 obtain ⟨e1,e2⟩:=yf9 cn fs hvr
 have hln:∀l:List (Str × V),((l.map fun f=>(f.1,cn f.1)).flatMap y9r).length=l.length*2:=fun l=>by
  induction l with
  | nil=>rfl
  | cons a r ih=>simp only [List.map_cons,List.flatMap_cons,kT,ih,kO];show 2+r.length*2=_;omega
 obtain ⟨xs,hxs⟩:∃xs,xs=fs.map fun f=>(f.1,cn f.1):=⟨_,rfl⟩
 obtain ⟨xs',hxs'⟩:∃xs,xs=fs'.map fun f=>(f.1,cn f.1):=⟨_,rfl⟩
 have hxl:xs.length=fs.length:=by rw [hxs,List.length_map]
 have hyl:(xs.flatMap y9r).length=fs.length*2:=by rw [hxs];exact hln fs
 have hpl:fs'.length=fs.length:=hp.length_eq
 have hyl':(xs'.flatMap y9r).length=fs.length*2:=by rw [hxs',hln,hpl]
 have hcell:∀j,j<fs.length*2→κ.w.cell? ⟨(κ.pl id (fs.length*2)).1,(κ.pl id (fs.length*2)).2+0+j,none⟩=some ((xs.flatMap y9r).getD j undef):=fun j hj=>by
  rw [y6h p1 (by omega)]
  rw [Nat.add_zero]
  congr 1
  have hi:j / 2<fs.length:=by omega
  obtain ⟨f,hf⟩:∃f,fs[j / 2]?=some f:=⟨_,kC hi⟩
  have hx:xs[j / 2]! = (f.1,cn f.1):=by
   have:xs[j / 2]?=some (f.1,cn f.1):=by rw [hxs];simp [hf]
   rw [List.getElem!_eq_getElem?_getD,this];rfl
  have hy:(xs.flatMap y9r).getD j undef=(y9r (f.1,cn f.1))[j % 2]! := by
   rcases yh9 xs j with h | h
   ·rw [←hx,←h,kQ,List.getElem!_eq_getElem?_getD,kC (by omega)];rfl
   ·omega
  rw [hy]
  rcases Nat.mod_two_eq_zero_or_one j with h | h
  ·have h1:=VR.inv_s (p3 (j / 2*2) (.s f.1) (by omega) (yc1 hf).1)
   rw [show j / 2*2=j by omega] at h1
   rw [h1,h];rfl
  ·have h1:=hT (j / 2) f hf
   rw [show j / 2*2+1=j by omega,hcn f.1 (j / 2) f hf rfl] at h1
   rw [h1,h];rfl
 have hfro:∀j,j<fs.length*2→κ.w.frozen? ⟨(κ.pl id (fs.length*2)).1,(κ.pl id (fs.length*2)).2+0+j,none⟩=false:=fun j hj=>y8c p1 p4 (by omega)
 have hH:Holds (fun v:Value=>v) κ.w (κ.pl id (fs.length*2)).1 ((κ.pl id (fs.length*2)).2+0) (xs.flatMap y9r).toArray:=fun j hj=>by
  have hj':j<fs.length*2:=by rw [←hyl];simpa using hj
  refine ⟨?_,hfro j hj'⟩
  rw [hcell j hj']
  rw [kQ,kC (show j<(xs.flatMap y9r).length by omega)]
  simp only [Option.getD_some,List.getElem!_toArray,List.getElem!_eq_getElem?_getD]
  rw [kC (show j<(xs.flatMap y9r).length by omega)];rfl
 have hHK:HoldsK y9r 2 κ.w (κ.pl id (fs.length*2)).1 ((κ.pl id (fs.length*2)).2+0) xs.toArray:=by
  unfold HoldsK
  rw [yh8]
  exact hH
 have eg:∀args w,(callFunc 67 args).run Tryz.prog w=.ok (.enter 67 args) w:=enters_of Tryz.func67 (by kernel_rfl) rfl
 have hcon:=AnyQ.slices_SortFunc Tryz.laysSlF06_f66 2 Tryz.isAgg37 Tryz.sizeOf37 y9r (fun _=>rfl) (fun x v hv=>by simp [y9r] at hv;rcases hv with rfl | rfl <;> rfl) (fun x y=>Lib.compareBytes x.1 y.1) swoF 67 #[] (κ.pl id (fs.length*2)).1 ((κ.pl id (fs.length*2)).2+0) cap xs.toArray κ.w eg (Tryz.cmpLaysF _ _ _ κ.w) hHK (lt_of_some p1) (by rw [List.size_toArray,hxl];omega)
 have hsz2:xs.toArray.size=fs.length:=by simpa using hxl
 rw [hsz2] at hcon
 refine hcon.mono fun e w' ⟨he,d',q,os,⟨hsd,_,hpm⟩,hso,hw⟩=>?_
 have hd'l:d'.size=fs.length:=hsd.trans hsz2
 have hpm':xs'.Perm d'.toList:=by
  have h1:(xs.toArray.extract 0 fs.length).toList=xs:=by rw [←hsz2,Array.extract_size]
  have h2:(d'.extract 0 fs.length).toList=d'.toList:=by rw [←hd'l,Array.extract_size]
  rw [h1,h2] at hpm
  exact (show xs'.Perm xs by rw [hxs,hxs'];exact hp.map _).trans hpm.symm
 have hd':d'.toList=xs':=perm_one hpm' (by rw [hxs'];simpa [List.map_map,Function.comp_def] using hr) (by
  rw [List.pairwise_iff_getElem]
  intro i j hi hj hij
  have:=hso i j (Nat.zero_le _) hij (by rw [←hd'l];simpa using hj)
  rw [ltF] at this
  simpa [show i<d'.size by simpa using hi,show j<d'.size by simpa using hj] using this)
 have ed:d'=xs'.toArray:=by rw [←hd']
 have hsc:=Lib.putRow_eq_setCells (fun v:Value=>v) κ.w (κ.pl id (fs.length*2)).1 ((κ.pl id (fs.length*2)).2+0) (xs.flatMap y9r).toArray (xs'.flatMap y9r) q hH (by simp only [List.size_toArray];omega)
 have hw2:w'=grow ((κ.w.drewN q).setCells (κ.pl id (fs.length*2)).1 ((κ.pl id (fs.length*2)).2+0) (xs'.flatMap y9r)) os:=by
  rw [hw,ed]
  unfold sortWorldK putRowK
  rw [yh8]
  have:(xs'.flatMap y9r).map (fun v:Value=>v)=xs'.flatMap y9r:=List.map_id _
  rw [this] at hsc
  rw [←hsc];rfl
 have bd:Below κ.w.heap.size κ.w (κ.w.drewN q):=by have:=Lib.below_grow κ.w.heap.size κ.w (kG _) q #[];simpa using this
 have le1:=K.below_le S bd
 have S1:=S.below bd
 have hvr':VRs κ (ycw fs') (xs'.flatMap y9r):=by rw [hxs'];exact yf9 cn fs' fun f hf=>hvr f (hp.mem_iff.1 hf)
 have hvr1:VRs { κ with w:=κ.w.drewN q } (ycw fs') (xs'.flatMap y9r):=⟨hvr'.1,fun j v hj=>(hvr'.2 j v hj).mono le1⟩
 have hfl':(ycw fs').length=fs.length*2:=by rw [yc0,hpl]
 obtain ⟨κ2,le2,S2,run,pl2,ok2⟩:=Sim.setAll_ok (P:=Tryz.prog) (ycw fs') (xs'.flatMap y9r) S1 hg (fun e=>by have:=congrArg List.length e;simp only [hfl',List.length_nil] at this;omega) (off:=0) (i:=0) (by omega) (fun v hv=>List.all_eq_true.1 hc v hv) hvr1
 have run2:=run_storeCells_cells (P:=Tryz.prog) (κ.pl id (fs.length*2)).1 ((κ.pl id (fs.length*2)).2+0) (xs'.flatMap y9r) 0 (κ.w.drewN q)
  (fun j hj=>by
   have hj':j<fs.length*2:=by omega
   have:=hcell j hj'
   simp only [Nat.add_zero] at this ⊢
   show (κ.w.cell? _).isSome=true
   rw [this];rfl)
  (fun j hj=>by
   have hj':j<fs.length*2:=by omega
   have:=hfro j hj'
   simp only [Nat.add_zero] at this ⊢
   exact this)
  (fun v hv=>by
   obtain ⟨x,_,hx⟩:=List.mem_flatMap.1 hv
   simp [y9r] at hx
   rcases hx with rfl | rfl <;> rfl)
 have ew:κ2.w=(κ.w.drewN q).setCells (κ.pl id (fs.length*2)).1 ((κ.pl id (fs.length*2)).2+0) (xs'.flatMap y9r):=by
  rw [hfl] at run
  have:=run.symm.trans run2
  injection this with _ h
 have bg:Below κ2.w.heap.size κ2.w w':=by
  rw [hw2,←ew]
  exact Lib.below_grow κ2.w.heap.size κ2.w (kG _) 0 os
 have le3:=K.below_le S2 bg
 have S3:=S2.below bg
 refine ⟨{ κ2 with w:=w' },.tup [],_,_,he,rfl,le1.trans (le2.trans le3),S3,VR.tup (κ:={ κ2 with w:=w' }) [] [] rfl (fun j v h=>by simp at h),rfl,?_⟩
 rw [y91 _ _ (by omega)]
 rw [hfl]
theorem yix (z:Nat) (H:Hp):AC Tryz.prog y3u [.sl none 0 z,.fn 67 []] H (fun v H'=>v=.tup []∧H'=H):=by
 refine AC.below (by kernel_rfl) fun κ cs r=>?_
 obtain ⟨hlen,hr0⟩:=r
 match cs,hlen with
 | [c0,c1],_=>
 have rc:VR κ _ c0:=hr0 0 _ rfl
 have rf:VR κ _ c1:=hr0 1 _ rfl
 cases rc with
 | sl0 _ a=>
 refine ⟨.tuple #[],fun κ'=>VR.tup (κ:=κ') [] [] rfl (fun j v h=>by simp at h),?_⟩
 exact (AnyF.slices_SortFunc_none Tryz.laysSlF06_f66 a 0 c1 κ.w).mono fun e w' ⟨he,hw⟩=>⟨he,by rw [hw];exact .refl _ _⟩
end Am
def locS (ts:List Str) (bx n0:Nat) (S:LpS) (n:Nat) (X:Hp):Hp:=match X.get bx with
 | some (.cells [a,v] _)=>match y28 (X.upd n0 (.obj (.lp S .busy))) 1 16 v (.fs [[.s (ts.getD n [])]]) with
  | some (v2,X2)=>(X2.upd bx (.cells [a,v2] 2)).upd n0 (.obj (.lp S .ready))
  | none=>X
 | _=>X
structure LocJ (X0:Hp) (S:LpS) (bx:Nat) (node:Str) (l:List Str) (k:Nat) (Y:Hp):Prop where
 lt:Hp.Lt Y
 nx:X0.next+1≤Y.next
 ext:∀j blk,j≠bx→X0.get j=some blk→Y.get j=some blk
 lp:Y.get X0.next=some (.obj (.lp S .ready))
 out:∃v ia,Y.get bx=some (.cells [.s node,v] 2)∧yiy Y (tcs (l.take k)) v ia∧(l.take k≠[]→X0.next+1≤ia)
theorem LocJ.to {X0:Hp} {S:LpS} {bx:Nat} {node:Str} {l:List Str} {k:Nat} {Y Y':Hp} (J:LocJ X0 S bx node l k Y) (hl:Hp.Lt Y') (hn:Y.next≤Y'.next) (h:∀j blk,Y.get j=some blk→Y'.get j=some blk):LocJ X0 S bx node l k Y':=by
 obtain ⟨v,ia,a,b,c⟩:=J.out
 exact ⟨hl,kV J.nx hn,fun j blk hj g=>h _ _ (J.ext j blk hj g),h _ _ J.lp,v,ia,h _ _ a,b.imp (fun x=>x) fun ⟨p,q,m,r,t⟩=>⟨p,q,m,h _ _ r,t⟩,c⟩
theorem ydl (l:List Str):(tcs l).length=l.length:=by simp [tcs]
theorem tcs_app {X:Hp} {n1:Nat} {l:List Str} {v:V} {ia:Nat} (hl:Hp.Lt X) (hb:l.length≤500000000) (h:yiy X (tcs l) v ia) (hia:l≠[]→n1≤ia) (hn:n1≤X.next) (x:Str):
  ∃pp X2 ia2,y28 X 1 16 v (.fs [[.s x]])=some (.sl pp (l.length+1) 1,X2)∧Hp.Lt X2∧X.next≤X2.next∧yiy X2 (tcs (l++[x])) (.sl pp (l.length+1) 1) ia2∧n1≤ia2∧∀j blk,j<n1→X.get j=some blk→X2.get j=some blk:=by
 rcases h with ⟨e,z,rfl⟩ | ⟨hne,rfl,ma,ga,hma⟩
 ·have e0:l=[]:=by simpa [tcs] using e
  subst e0
  refine ⟨some (X.next,0,1),X.add (.cells [.s x] 1),X.next,by simp [y28,y4e,y4x],Hp.add_lt hl _,by simp,.inr ⟨by simp [tcs],by simp [tcs],1,by simp [tcs],by simp [tcs]⟩,hn,fun j blk hj g=>?_⟩
  simp [show j≠X.next by omega,g]
 ·have hne':l≠[]:=fun h=>hne (by rw [h];rfl)
  have h1:=hia hne'
  have h2:=hl _ _ ga
  have htl:=ydl l
  rw [htl] at hma
  refine ⟨some (ia,0,l.length+1),X.upd ia (.cells (tcs l++[.s x]) ma),ia,?_,Hp.upd_lt hl h2 _,by simp,.inr ⟨by simp [tcs],by simp [tcs],ma,by simp [tcs],by simp [tcs];omega⟩,h1,fun j blk hj g=>?_⟩
  ·rw [htl]
   have hk4:(l.length+1)*16≤y4x:=by unfold y4x;omega
   generalize tcs l=row at ga htl ⊢
   simp [y28,y4e,ga,htl,y3w,hk4]
  ·simp [show j≠ia by omega,g]
set_option maxHeartbeats 1000000 in
theorem locs_ok {s:Sy} {id:Nat} {L:RkL} {m:Bool} {X0:Hp} (R:RkOk s id L m X0) {i:Nat} {e:RkE} (he:L.es[i]?=some e) {bx cb mb:Nat} (hbx:L.tag bx=0) (hbb:bx≠cb) {node:Str} (gb:X0.get bx=some (.cells [.s node,.sl none 0 0] 2)) (gc:X0.get cb=some (.cells [.p (some (e.sid,0,1))] mb)) (hmb:mb≤1) (hcb:L.tag cb=0) {w:V} {iid:Nat} {Q:y5i}
  (hQ:∀X v ia,Hp.Lt X→X0.next≤X.next→(∀j blk,j≠bx→X0.get j=some blk→X.get j=some blk)→X.get bx=some (.cells [.s node,v] 2)→yiy X (tcs ((elB e.bs).map fun k=>L.ts.getD k [])) v ia→(elB e.bs≠[]→X0.next≤ia)→Q .normal [(1,.fp [.p (some (id,0,10))] 0),(2,.sl none 0 0),(3,w),(6,.p (some (bx,0,2))),(12,.it iid)] X):
  AX Tryz.prog 44 (.post [1,2,3,6,12] (.block 2 (.post [1,2,3,6,12] (.rangeFunc (.t 24) [25] yh.a1 yh.b1)))) Q [(1,.fp [.p (some (id,0,10))] 0),(2,.sl none 0 0),(3,w),(6,.p (some (bx,0,2))),(12,.it iid),(24,.fn y43 [.p (some (cb,0,1))])] X0:=by
 have S0:=R.set i e he
 obtain ⟨ms,gs,hms⟩:=S0.box
 have hbl:=S0.ok.len
 have hel:=ybg e.bs
 have hlt:=R.lt
 have nb:=hlt _ _ gb
 have nc':=hlt _ _ gc
 have ns:=hlt _ _ gs
 have hsb:e.sid≠bx:=fun q=>by have:=(R.tse i e he).1;rw [q,hbx] at this;omega
 obtain ⟨ls,hls⟩:∃ls,ls=(elB e.bs).map fun k=>L.ts.getD k []:=⟨_,rfl⟩
 have hll:ls.length=(elB e.bs).length:=by rw [hls];simp
 refine AX.pblock (AX.prange rfl fun S hS=>?_)
 have x1:X0.Ext (X0.add (.obj (.lp S .ready))):=.add hlt _
 refine (ykj X0.next cb e.sid 0 ms mb [e.v] e.v e.bs (locS L.ts bx X0.next S) (LocJ X0 S bx node ls) _ S0.ok (x1.2 _ _ gc) hmb (x1.2 _ _ gs) hms rfl (S0.own.row.ext x1)
  ⟨Hp.add_lt hlt _,by simp,fun j blk _ g=>x1.2 _ _ g,by simp,.sl none 0 0,0,x1.2 _ _ gb,.inl ⟨rfl,0,rfl⟩,fun h=>absurd (by simp) h⟩ (fun k X b J=>J.to (Hp.add_lt J.lt _) (by simp) fun j blk g=>by have:=J.lt _ _ g;simp [show j≠X.next by omega,g])
  (fun k X b c J=>J.to (Hp.upd_lt (Hp.add_lt J.lt _) (by simp) _) (by simp) fun j blk g=>by have:=J.lt _ _ g;simp [show j≠X.next by omega,g]) ?_).mono ?_
 ·intro k X n hn J
  have hk:=(List.getElem?_eq_some_iff.1 hn).1
  have hnl:=S0.lt n (kY hn)
  obtain ⟨x,hx⟩:∃x,L.ts[n]?=some x:=⟨_,kC hnl⟩
  have hgx:L.ts.getD n []=x:=by rw [kQ,hx];rfl
  have hlk:ls[k]?=some x:=by rw [hls];simp [hn,hgx,hx]
  have htk:ls.take (k+1)=ls.take k++[x]:=by rw [kJ,hlk];rfl
  have htl:(ls.take k).length=k:=by simp;omega
  obtain ⟨u,ia,jo,js,ji⟩:=J.out
  have nx:=J.nx
  have l1:Hp.Lt (X.upd X0.next (.obj (.lp S .busy))):=Hp.upd_lt J.lt (by omega) _
  have js':yiy (X.upd X0.next (.obj (.lp S .busy))) (tcs (ls.take k)) u ia:=by
   rcases js with h | ⟨a,b,mm,c,d⟩
   ·exact .inl h
   ·have:=ji fun h=>a (by rw [h];rfl)
    exact .inr ⟨a,b,mm,by simp [show ia≠X0.next by omega,c],d⟩
  obtain ⟨pp,X2,ia2,q0,q1,q2,q3,q4,q5⟩:=tcs_app l1 (by rw [htl];omega) js' ji (by simpa using nx) x
  rw [htl] at q0 q3
  have hnb:bx≠X0.next:=by omega
  have est:locS L.ts bx X0.next S n X=(X2.upd bx (.cells [.s node,.sl pp (k+1) 1] 2)).upd X0.next (.obj (.lp S .ready)):=by
   simp only [locS,jo,hgx,q0]
  have gl:X2.get X0.next=some (.obj (.lp S .busy)):=q5 _ _ (by omega) (by simp)
  have gb2:X2.get bx=some (.cells [.s node,u] 2):=q5 _ _ (by omega) (by simp [hnb,jo])
  refine ⟨?_,?_⟩
  ·rw [est]
   refine ⟨Hp.upd_lt (Hp.upd_lt q1 (by simp at q2;omega) _) (by simp at q2 ⊢;omega) _,by simp at q2 ⊢;omega,fun j blk hj g=>?_,by simp,.sl pp (k+1) 1,ia2,by simp [hnb],?_,fun _=>q4⟩
   ·have:=hlt _ _ g
    simp [show j≠X0.next by omega,hj]
    exact q5 j blk (by omega) (by simp [show j≠X0.next by omega];exact J.ext _ _ hj g)
   ·rw [htk]
    exact q3.imp (fun x=>x) fun ⟨a,b,mm,c,d⟩=>⟨a,b,mm,by simp [show ia2≠X0.next by omega,show ia2≠bx by omega,c],d⟩
  ·rw [est]
   refine YC.walk hS J.lp rfl ?_
   simp only [yh.a1]
   apply jE
   simp [yh.r8,putAll]
   refine ⟨J.lp,?_⟩
   simp only [yh.b1]
   have RX:RkOk s id L m (X.upd X0.next (.obj (.lp S .busy))):=R.move l1 (by simp;omega) fun j blk h0 g=>by
    have:=hlt _ _ g
    simp [show j≠X0.next by omega]
    exact J.ext _ _ (fun q=>h0 (by rw [q];exact hbx)) g
   refine AX.pblock (AX.drw ?_)
   simp [yh.r9,jo,hnb]
   refine yg3 _ (yd6 RX hx) ?_
   simp [q0,-y28,y7x,jo,hnb,gb2]
   simp [y98,gl,Ne.symm hnb]
 ·rintro u Y J
  obtain ⟨v,ia,jo,js,ji⟩:=J.out
  rw [←hll,List.take_length] at js ji
  refine .inl ⟨J.lp,?_⟩
  have nx:=J.nx
  have hd:∀j,j≠X0.next→(Y.del X0.next).get j=Y.get j:=fun j h=>by simp only [Hp.del];rw [if_neg h]
  simp
  refine hQ _ v ia (Hp.del_lt J.lt _) (by simp only [Hp.del];omega) (fun j blk hj g=>?_) ?_ ?_ (fun h=>?_)
  ·have:=hlt _ _ g
   rw [hd _ (by omega)];exact J.ext _ _ hj g
  ·rw [hd _ (by omega)];exact jo
  ·rw [←hls]
   rcases js with h | ⟨a,b,mm,c,d⟩
   ·exact .inl h
   ·have:=ji fun h=>a (by rw [h];rfl)
    exact .inr ⟨a,b,mm,by rw [hd _ (by omega)];exact c,d⟩
  ·have:=ji fun h2=>h (List.length_eq_zero_iff.1 (by rw [←hll,h2];rfl))
   omega
end Go.Proofs.YtikpijbeobeckaaGreatDoor
