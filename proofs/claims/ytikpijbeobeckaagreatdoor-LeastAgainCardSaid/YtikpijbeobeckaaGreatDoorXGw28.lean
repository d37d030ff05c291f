/- Part 28. -/
import Derived.Test.YtikpijbeobeckaaGreatDoorCards
import Derived.Test.YtikpijbeobeckaaGreatDoorTie
import Derived.WalkKit
import Derived.ProofKit
import Derived.OpenShut
import Derived.Deep.DeepHandedRow
import Derived.Deep.DeepWitnessRowRef
import Derived.Lib.LaidTab
import Derived.Lib.LaidIn
import Derived.Lib.LaidU8
import Derived.Lib.TrailingZeros
import Derived.Test.YtikpijbeobeckaaGreatDoorXGw17
import Derived.Test.YtikpijbeobeckaaGreatDoorXGw19
import Derived.Test.YtikpijbeobeckaaGreatDoorXGw25
import Derived.Test.YtikpijbeobeckaaGreatDoorXGw27
set_option linter.unusedSimpArgs false
set_option linter.unusedVariables false
namespace Go.Proofs.YtikpijbeobeckaaGreatDoor
open Am C Go.Proofs
abbrev TMk:Ty:=.st [.int .i64,.str]
abbrev TOb:Ty:=.st [.str,.str,.sl TMk]
abbrev TFu:Ty:=.st [.str,.str,.str]
abbrev TCn:Ty:=.st [.int .i64,.str,.str,.int .i64,.str,.sl .str]
abbrev TSy:Ty:=.st [.sl TOb,.sl TFu,.sl TCn]
theorem isZ_ss {vs:List V} (h:IsZ (.sl .str) vs):∃l:List Str,vs=[ss l]∧l.length≤140737488351232∧∀x∈l,x.length≤140737488351232:=by
 obtain ⟨l,e,h1,h2⟩:=yh0 (fun x:Str=>[V.s x]) (fun x=>x.length≤140737488351232) (fun vs h=>by obtain ⟨x,h1,h2⟩:=y8z h;exact ⟨x,h1,h2⟩) h
 exact ⟨l,e,h1,h2⟩
theorem isZ_mk {vs:List V} (h:IsZ TMk vs):∃m:Mk,vs=y8a m∧m.tag.length≤140737488351232:=by
 obtain ⟨a,b,rfl,ha,hb⟩:=y46 (yjx h)
 obtain ⟨c,d,rfl,hc,hd⟩:=y46 hb
 obtain rfl:=ybx hd
 obtain ⟨n,rfl,_⟩:=yif ha
 obtain ⟨t,rfl,h1⟩:=y8z hc
 exact ⟨⟨n,t⟩,rfl,h1⟩
theorem isZ_ob {vs:List V} (h:IsZ TOb vs):∃o:Ob,vs=y4l o∧obZ o:=by
 obtain ⟨a,b,rfl,ha,hb⟩:=y46 (yjx h)
 obtain ⟨c,d,rfl,hc,hd⟩:=y46 hb
 obtain ⟨e,f,rfl,he,hf⟩:=y46 hd
 obtain rfl:=ybx hf
 obtain ⟨x,rfl,h1⟩:=y8z ha
 obtain ⟨y,rfl,h2⟩:=y8z hc
 obtain ⟨l,rfl,h3,h4⟩:=yh0 y8a _ (fun vs h=>isZ_mk h) he
 exact ⟨⟨x,y,l⟩,rfl,by simp only;omega,by simp only;omega,by simp only;omega,fun m hm=>by have:=h4 m hm;omega⟩
theorem isZ_fu {vs:List V} (h:IsZ TFu vs):∃f:Fu,vs=y75 f∧(fuS f∧f.ret.length≤140737488355328):=by
 obtain ⟨a,b,rfl,ha,hb⟩:=y46 (yjx h)
 obtain ⟨c,d,rfl,hc,hd⟩:=y46 hb
 obtain ⟨e,f,rfl,he,hf⟩:=y46 hd
 obtain rfl:=ybx hf
 obtain ⟨x,rfl,h1⟩:=y8z ha
 obtain ⟨y,rfl,h2⟩:=y8z hc
 obtain ⟨z,rfl,h3⟩:=y8z he
 exact ⟨⟨x,y,z⟩,rfl,⟨by simp only;omega,by simp only;omega⟩,by simp only;omega⟩
theorem isZ_cn {vs:List V} (h:IsZ TCn vs):∃c:Cn,vs=y3n c∧(c.a.length≤140737488355328∧c.b.length≤140737488355328∧c.tag.length≤140737488355328∧c.args.length≤140737488355328∧∀a∈c.args,a.length≤140737488355328):=by
 obtain ⟨a1,r1,rfl,k1,h⟩:=y46 (yjx h)
 obtain ⟨a2,r2,rfl,k2,h⟩:=y46 h
 obtain ⟨a3,r3,rfl,k3,h⟩:=y46 h
 obtain ⟨a4,r4,rfl,k4,h⟩:=y46 h
 obtain ⟨a5,r5,rfl,k5,h⟩:=y46 h
 obtain ⟨a6,r6,rfl,k6,h⟩:=y46 h
 obtain rfl:=ybx h
 obtain ⟨op,rfl,_⟩:=yif k1
 obtain ⟨a,rfl,b2⟩:=y8z k2
 obtain ⟨b,rfl,b3⟩:=y8z k3
 obtain ⟨k,rfl,_⟩:=yif k4
 obtain ⟨t,rfl,b5⟩:=y8z k5
 obtain ⟨l,rfl,b6,b7⟩:=isZ_ss k6
 exact ⟨⟨op,a,b,k,t,l⟩,rfl,by simp only;omega,by simp only;omega,by simp only;omega,by simp only;omega,fun x hx=>by have:=b7 x hx;omega⟩
theorem isZ_sy {vs:List V} (h:IsZs [.sl TOb,.sl TFu,.sl TCn] vs):∃s:Sy,vs=y5b s∧syZ s:=by
 obtain ⟨a1,r1,rfl,k1,h⟩:=y46 h
 obtain ⟨a2,r2,rfl,k2,h⟩:=y46 h
 obtain ⟨a3,r3,rfl,k3,h⟩:=y46 h
 obtain rfl:=ybx h
 obtain ⟨o,rfl,o1,o2⟩:=yh0 y4l _ (fun vs h=>isZ_ob h) k1
 obtain ⟨f,rfl,f1,f2⟩:=yh0 y75 _ (fun vs h=>isZ_fu h) k2
 obtain ⟨c,rfl,c1,c2⟩:=yh0 y3n _ (fun vs h=>isZ_cn h) k3
 exact ⟨⟨o,f,c⟩,rfl,by simp only;omega,by simp only;omega,by simp only;omega,o2,f2,c2⟩
end Go.Proofs.YtikpijbeobeckaaGreatDoor
namespace Go.Proofs.YtikpijbeobeckaaGreatDoor.rw
open Go Go.RowKit Go.ChangeShapes Go.WideShapes Go.ChangeAt Go.Proofs.YtikpijbeobeckaaGreatDoor.Am
theorem own:ownKnob Tryz.prog.godebug=none:=by kernel_rfl
theorem laidOut:laidOutB Tryz.prog=true:=by kernel_rfl
noncomputable abbrev N0:Nat:=(World.settled Tryz.prog default).heap.size
noncomputable def laidWorld (os:Os):World:=
 let N:=(World.settled Tryz.prog os).heap.size
 let w0:=World.holding Tryz.prog os ⟨#[.cells #[.string ⟨([118,97,108,117,101,32,111,117,116,32,111,102,32,114,97,110,103,101]:List UInt8).toArray⟩] 316,.cells #[.string ⟨([105,110,118,97,108,105,100,32,115,121,110,116,97,120]:List UInt8).toArray⟩] 316],#[],[]⟩
 let put (h:Array Obj) (g:Nat) (cs:Array Value):Array Obj:=h.modify g fun
  | .cells _ t frozen=>.cells cs t frozen
  | o=>o
 let h1:=put w0.heap 5 #[.iface 314 (.pointer (some ⟨N,0,none⟩))]
 let h2:=put h1 4 #[.iface 314 (.pointer (some ⟨N+1,0,none⟩))]
 let h3:=put h2 2 (Lib.firstTab.map fun z=>Value.int .u8 z).toArray
 let h4:=put h3 3 #[.int .u8 128,.int .u8 191,.int .u8 160,.int .u8 191,.int .u8 128,.int .u8 159,.int .u8 144,.int .u8 191,.int .u8 128,.int .u8 143,.int .u8 0,.int .u8 0,.int .u8 0,.int .u8 0,.int .u8 0,.int .u8 0,.int .u8 0,.int .u8 0,.int .u8 0,.int .u8 0,.int .u8 0,.int .u8 0,.int .u8 0,.int .u8 0,.int .u8 0,.int .u8 0,.int .u8 0,.int .u8 0,.int .u8 0,.int .u8 0,.int .u8 0,.int .u8 0]
 let h5:=put h4 6 #[.int .u64 1,.int .u64 10,.int .u64 100,.int .u64 1000,.int .u64 10000,.int .u64 100000,.int .u64 1000000,.int .u64 10000000,.int .u64 100000000,.int .u64 1000000000,.int .u64 10000000000,.int .u64 100000000000,.int .u64 1000000000000,.int .u64 10000000000000,.int .u64 100000000000000,.int .u64 1000000000000000,.int .u64 10000000000000000,.int .u64 100000000000000000,.int .u64 1000000000000000000,.int .u64 10000000000000000000]
 let h6:=put h5 7 #[.int .u8 0,.int .u8 1,.int .u8 28,.int .u8 2,.int .u8 29,.int .u8 14,.int .u8 24,.int .u8 3,.int .u8 30,.int .u8 22,.int .u8 20,.int .u8 15,.int .u8 25,.int .u8 17,.int .u8 4,.int .u8 8,.int .u8 31,.int .u8 27,.int .u8 13,.int .u8 23,.int .u8 21,.int .u8 19,.int .u8 16,.int .u8 7,.int .u8 26,.int .u8 12,.int .u8 18,.int .u8 6,.int .u8 11,.int .u8 5,.int .u8 10,.int .u8 9]
 let h7:=put h6 1 #[.int .u8 0,.int .u8 1,.int .u8 56,.int .u8 2,.int .u8 57,.int .u8 49,.int .u8 28,.int .u8 3,.int .u8 61,.int .u8 58,.int .u8 42,.int .u8 50,.int .u8 38,.int .u8 29,.int .u8 17,.int .u8 4,.int .u8 62,.int .u8 47,.int .u8 59,.int .u8 36,.int .u8 45,.int .u8 43,.int .u8 51,.int .u8 22,.int .u8 53,.int .u8 39,.int .u8 33,.int .u8 30,.int .u8 24,.int .u8 18,.int .u8 12,.int .u8 5,.int .u8 63,.int .u8 55,.int .u8 48,.int .u8 27,.int .u8 60,.int .u8 41,.int .u8 37,.int .u8 16,.int .u8 46,.int .u8 35,.int .u8 44,.int .u8 21,.int .u8 52,.int .u8 32,.int .u8 23,.int .u8 11,.int .u8 54,.int .u8 26,.int .u8 40,.int .u8 15,.int .u8 34,.int .u8 20,.int .u8 31,.int .u8 10,.int .u8 25,.int .u8 14,.int .u8 19,.int .u8 9,.int .u8 13,.int .u8 8,.int .u8 7,.int .u8 6]
 { w0 with heap:=h7 }
set_option maxRecDepth 1000000 in
theorem laid_in (os:Os) (args:Array Value):LaidIn Tryz.prog ((laidWorld os).forCall (fun _ _=>0) ⟨#[],args,[]⟩).memory Rows.leastListsRow.laid [1,2,3,4,5,6,7,N0,N0+1]:=
 LaidIn.of_run [1,2,3,4,5,6,7,N0,N0+1] 8 (by kernel_rfl) (by kernel_rfl) (by kernel_rfl) (by kernel_rfl)
theorem laid_met (os:Os) (args:Array Value):laidMet Tryz.prog Rows.leastListsRow.laid ((laidWorld os).forCall (fun _ _=>0) ⟨#[],args,[]⟩).memory:=(laid_in os args).met
theorem g6:Tryz.prog.globalNamed "internal/strconv.uint64pow10"=some 6:=by kernel_rfl
theorem t6:(Tryz.prog.globals[6]?).map (·.type)=some 311:=by kernel_rfl
theorem g1:Tryz.prog.globalNamed "math/bits.deBruijn64tab"=some 1:=by kernel_rfl
theorem t1:(Tryz.prog.globals[1]?).map (·.type)=some 250:=by kernel_rfl
def pows:List Int:=[1,10,100,1000,10000,100000,1000000,10000000,100000000,1000000000,10000000000,100000000000,1000000000000,10000000000000,100000000000000,1000000000000000,10000000000000000,100000000000000000,1000000000000000000,10000000000000000000]
def debs:List Int:=[0,1,56,2,57,49,28,3,61,58,42,50,38,29,17,4,62,47,59,36,45,43,51,22,53,39,33,30,24,18,12,5,63,55,48,27,60,41,37,16,46,35,44,21,52,32,23,11,54,26,40,15,34,20,31,10,25,14,19,9,13,8,7,6]
theorem tb_of {W:World} (h:laidMetH Tryz.prog Rows.leastListsRow.laid W):TBok (K.start W):=by
 have h0:laidMet Tryz.prog Rows.leastListsRow.laid W:=h
 intro q hq
 simp only [TBs,kK,List.not_mem_nil,or_false] at hq
 rcases hq with rfl | rfl
 ·obtain ⟨g,t,cs,fuel,p,h1,h2,h3,h4⟩:=Lib.laidMet.reads h0 (n := "internal/strconv.uint64pow10") (d:=Rows.laid_internal_strconv_uint64pow10) (.tail _ (.tail _ (.head _)))
  obtain rfl:=Option.some.inj (g6.symm.trans h1)
  obtain rfl:=Option.some.inj (t6.symm.trans h2)
  have h5:=Lib.cells_of_tab (t:=311) (e:=47) (n:=20) (k:=.u64) (zs:=pows) (by kernel_rfl) (by kernel_rfl) (by kernel_rfl) (by kernel_rfl) (cs:=cs.toList) (p:=p) h4
  simp only [World.var?,g6,Option.bind_some] at h3
  split at h3
  ·rename_i c ty fr hc
   injection h3 with h3
   subst h3
   refine ⟨Am.lt_of_some hc,ty,fr,?_⟩
   show W.heap[6]?=_
   rw [hc]
   have:c=(pows.map fun z=>Value.int .u64 z).toArray:=by rw [←h5]
   rw [this];rfl
  ·cases h3
 ·obtain ⟨g,t,cs,fuel,p,h1,h2,h3,h4⟩:=Lib.laidMet.reads h0 (n := "math/bits.deBruijn64tab") (d:=Rows.laid_math_bits_deBruijn64tab) (.tail _ (.head _))
  obtain rfl:=Option.some.inj (g1.symm.trans h1)
  obtain rfl:=Option.some.inj (t1.symm.trans h2)
  have h5:=Lib.cells_of_tab (t:=250) (e:=5) (n:=64) (k:=.u8) (zs:=debs) (by kernel_rfl) (by kernel_rfl) (by kernel_rfl) (by kernel_rfl) (cs:=cs.toList) (p:=p) h4
  simp only [World.var?,g1,Option.bind_some] at h3
  split at h3
  ·rename_i c ty fr hc
   injection h3 with h3
   subst h3
   refine ⟨Am.lt_of_some hc,ty,fr,?_⟩
   show W.heap[1]?=_
   rw [hc]
   have:c=(debs.map fun z=>Value.int .u8 z).toArray:=by rw [←h5]
   rw [this];rfl
  ·cases h3
end Go.Proofs.YtikpijbeobeckaaGreatDoor.rw
namespace Go.Proofs.YtikpijbeobeckaaGreatDoor
open Am
def y6i (b:Nat):List Nat:=(List.range 64).filter fun j=>b.testBit j
abbrev Bk:=Nat × Nat
def elB (bs:List Bk):List Nat:=bs.flatMap fun x=>(y6i x.2).map fun j=>x.1*64+j
structure OkB (bs:List Bk):Prop where
 rise:bs.Pairwise fun x y=>x.1<y.1
 bit:∀x∈bs,0<x.2∧x.2<18446744073709551616∧x.1≤4194304
theorem OkB.nil:OkB []:=⟨.nil,fun x h=>by cases h⟩
theorem OkB.tail {x:Bk} {bs:List Bk} (h:OkB (x::bs)):OkB bs:=⟨(List.pairwise_cons.1 h.rise).2,fun y hy=>h.bit y (by simp [hy])⟩
theorem ya8 {b j:Nat}:j∈y6i b↔j<64∧b.testBit j=true:=by simp [y6i]
theorem ya7 {bs:List Bk} {n:Nat}:n∈elB bs↔∃x∈bs,x.1=n / 64∧x.2.testBit (n % 64)=true:=by
 simp only [elB,List.mem_flatMap,List.mem_map,ya8]
 constructor
 ·rintro ⟨x,hx,j,⟨h1,h2⟩,rfl⟩
  exact ⟨x,hx,by omega,by rw [show (x.1*64+j) % 64=j by omega];exact h2⟩
 ·rintro ⟨x,hx,h1,h2⟩
  exact ⟨x,hx,n % 64,⟨Nat.mod_lt _ (by omega),h2⟩,by rw [h1];omega⟩
theorem ycn (b:Nat):(y6i b).Pairwise (· < ·):=List.Pairwise.filter _ List.pairwise_lt_range
theorem yfz:∀{bs:List Bk},OkB bs→(elB bs).Pairwise (· < ·)
 | [],_=>.nil
 | x::bs,h=>by
  have hx:=(List.pairwise_cons.1 h.rise).1
  have e:elB (x::bs)=(y6i x.2).map (fun j=>x.1*64+j)++elB bs:=rfl
  rw [e,List.pairwise_append]
  refine ⟨?_,yfz h.tail,fun a ha b hb=>?_⟩
  ·rw [List.pairwise_map]
   exact (ycn x.2).imp fun h=>by omega
  ·obtain ⟨j,hj,rfl⟩:=List.mem_map.1 ha
   obtain ⟨y,hy,h1,_⟩:=ya7.1 hb
   have:=hx y hy
   have:=(ya8.1 hj).1
   omega
theorem lt_ext:∀{a b:List Nat},a.Pairwise (· < ·)→b.Pairwise (· < ·)→(∀x,x∈a↔x∈b)→a=b
 | [],[],_,_,_=>rfl
 | [],b::s,_,_,h=>absurd ((h b).2 (by simp)) (by simp)
 | a::r,[],_,_,h=>absurd ((h a).1 (by simp)) (by simp)
 | a::r,b::s,ha,hb,h=>by
  have ha':=List.pairwise_cons.1 ha
  have hb':=List.pairwise_cons.1 hb
  have e:a=b:=by
   refine kg fun hne=>?_
   have h1:=ha'.1 b ((List.mem_cons.1 ((h b).2 (by simp))).resolve_left fun e=>hne e.symm)
   have h2:=hb'.1 a ((List.mem_cons.1 ((h a).1 (by simp))).resolve_left hne)
   omega
  subst e
  have:r=s:=lt_ext ha'.2 hb'.2 fun x=>⟨fun hx=>?_,fun hx=>?_⟩
  ·rw [this]
  ·exact (List.mem_cons.1 ((h x).1 (by simp [hx]))).resolve_left fun e=>by have:=ha'.1 x hx;omega
  ·exact (List.mem_cons.1 ((h x).2 (by simp [hx]))).resolve_left fun e=>by have:=hb'.1 x hx;omega
theorem ynw {b:Nat} (h0:b≠0) (h:b<18446744073709551616):∃t m,t=Go.Lib.ctz 64 b∧t<64∧b=2 ^ t*(2*m+1):=by
 obtain ⟨m,e,hl⟩:=Go.Lib.ctzFrom_spec 64 b (by omega) (by omega)
 exact ⟨_,m,by unfold Go.Lib.ctz;rw [if_neg h0],hl,e⟩
theorem yjt {b t m:Nat} (e:b=2 ^ t*(2*m+1)) (j:Nat):(b &&& (b-1)).testBit j=(b.testBit j&&decide (j≠t))∧(b.testBit j=true→t≤j)∧b.testBit t=true:=by
 have h1:∀j,b.testBit j=(decide (t≤j)&&(2*m+1).testBit (j-t)):=fun j=>by rw [e,Nat.testBit_two_pow_mul]
 have hp:0<2 ^ t:=Nat.two_pow_pos t
 have e2:b-1=2 ^ t*(2*m)+(2 ^ t-1):=by
  rw [e,Nat.mul_add,Nat.mul_one];omega
 have h2:∀j,(b-1).testBit j=if j<t then (2 ^ t-1).testBit j else (2*m).testBit (j-t):=fun j=>by
  rw [e2,Nat.testBit_two_pow_mul_add _ (by omega)]
 refine ⟨?_,fun h=>?_,?_⟩
 ·rw [Nat.testBit_and,h1,h2]
  by_cases hj:t≤j
  ·rw [if_neg (by omega)]
   by_cases he:j=t
   ·subst he
    simp
   ·obtain ⟨k,rfl⟩:∃k,j=t+(k+1):=⟨j-t-1,by omega⟩
    rw [show t+(k+1)-t=k+1 by omega,Nat.testBit_succ,Nat.testBit_succ,show (2*m+1) / 2=m by omega,show 2*m / 2=m by omega]
    simp
  ·simp [hj]
 ·rw [h1] at h;simp at h;exact h.1
 ·rw [h1];simp
theorem ypi {b:Nat} (h0:b≠0) (h:b<18446744073709551616):y6i b=Go.Lib.ctz 64 b::y6i (b &&& (b-1)):=by
 obtain ⟨t,m,et,ht,e⟩:=ynw h0 h
 rw [←et]
 refine lt_ext (ycn b) (List.pairwise_cons.2 ⟨fun j hj=>?_,ycn _⟩) fun j=>?_
 ·obtain ⟨h1,h2⟩:=ya8.1 hj
  obtain ⟨a1,a2,a3⟩:=yjt e j
  rw [a1] at h2
  simp at h2
  have:=a2 h2.1
  omega
 ·obtain ⟨a1,a2,a3⟩:=yjt e j
  simp only [ya8,kK,a1,kF,decide_eq_true_eq]
  constructor
  ·rintro ⟨h1,h2⟩
   by_cases hj:j=t
   ·exact .inl hj
   ·exact .inr ⟨h1,h2,hj⟩
  ·rintro (rfl | ⟨h1,h2,_⟩)
   ·exact ⟨ht,a3⟩
   ·exact ⟨h1,h2⟩
theorem yle:y6i 0=[]:=by simp [y6i]
theorem low_lt {b:Nat} (h:b<18446744073709551616):(b &&& (b-1))<18446744073709551616:=Nat.lt_of_le_of_lt Nat.and_le_left h
def yaq:Nat→Nat→Nat
 | 0,_=>0
 | f+1,x=>x % 2+yaq f (x / 2)
theorem ygt:∀(n x:Nat),((List.range n).filter fun j=>x.testBit j).length=yaq n x
 | 0,x=>rfl
 | n+1,x=>by
  rw [List.range_succ_eq_map,List.filter_cons]
  have ih:=ygt n (x / 2)
  have e:((List.map Nat.succ (List.range n)).filter fun j=>x.testBit j).length=((List.range n).filter fun j=>(x / 2).testBit j).length:=by
   rw [List.filter_map,List.length_map]
   congr 2
   funext j
   simp [Nat.testBit_succ]
  simp only [yaq]
  rw [←ih,←e]
  by_cases h:x % 2=1
  ·have:x.testBit 0=true:=by rw [Nat.testBit_zero];simp [h]
   simp [this,h];omega
  ·have:x.testBit 0=false:=by rw [Nat.testBit_zero];simp [h]
   have h0:x % 2=0:=by omega
   simp [this,h0]
theorem ycr:∀(k m x:Nat),yaq (k+m) x=yaq k (x % 2 ^ k)+yaq m (x / 2 ^ k)
 | 0,m,x=>by simp [yaq]
 | k+1,m,x=>by
  rw [show k+1+m=(k+m)+1 by omega]
  simp only [yaq]
  rw [ycr k m (x / 2),show x % 2 ^ (k+1) % 2=x % 2 from Nat.mod_mod_of_dvd _ ⟨2 ^ k,by rw [Nat.pow_succ,Nat.mul_comm]⟩,Nat.pow_succ,Nat.div_div_eq_div_mul,Nat.mul_comm 2 (2 ^ k)]
  have:x % (2 ^ k*2) / 2=x / 2 % 2 ^ k:=by
   rw [Nat.mul_comm,Nat.mod_mul_right_div_self]
  rw [this];omega
theorem bits_len (b:Nat):(y6i b).length=yaq 64 b:=ygt 64 b
theorem yed (q r c d:Nat) (hr:r<256) (hd:d<256):(256*q+r) &&& (256*c+d)=256*(q &&& c)+(r &&& d):=by
 refine Nat.eq_of_testBit_eq fun j=>?_
 have h8:(256:Nat)=2 ^ 8:=rfl
 have hrd:(r &&& d)<2 ^ 8:=Nat.lt_of_le_of_lt Nat.and_le_left hr
 rw [h8,Nat.testBit_and,Nat.testBit_two_pow_mul_add _ hr,Nat.testBit_two_pow_mul_add _ hd,Nat.testBit_two_pow_mul_add _ hrd]
 split <;> simp
def w8 (b0 b1 b2 b3 b4 b5 b6 b7:Nat):Nat:=256*(256*(256*(256*(256*(256*(256*b7+b6)+b5)+b4)+b3)+b2)+b1)+b0
theorem yho {b0 b1 b2 b3 b4 b5 b6 b7:Nat} (h:b0<256∧b1<256∧b2<256∧b3<256∧b4<256∧b5<256∧b6<256) (c:Nat) (hc:c<256):
  w8 b0 b1 b2 b3 b4 b5 b6 b7 &&& w8 c c c c c c c c=w8 (b0 &&& c) (b1 &&& c) (b2 &&& c) (b3 &&& c) (b4 &&& c) (b5 &&& c) (b6 &&& c) (b7 &&& c):=by
 unfold w8
 rw [yed _ _ _ _ h.1 hc,yed _ _ _ _ h.2.1 hc,yed _ _ _ _ h.2.2.1 hc,yed _ _ _ _ h.2.2.2.1 hc,yed _ _ _ _ h.2.2.2.2.1 hc,yed _ _ _ _ h.2.2.2.2.2.1 hc,yed _ _ _ _ h.2.2.2.2.2.2 hc]
def pA (b:Nat):Nat:=((b / 2) &&& 85)+(b &&& 85)
def pB (b:Nat):Nat:=((b / 4) &&& 51)+(b &&& 51)
def pC (b:Nat):Nat:=(b / 16+b) &&& 15
theorem pA_up:∀(b:Fin 256) (q:Fin 2),((128*q.val+b.val / 2) &&& 85)=((b.val / 2) &&& 85):=by decide +kernel
theorem pB_up:∀(b:Fin 256) (q:Fin 4),((64*q.val+b.val / 4) &&& 51)=((b.val / 4) &&& 51):=by decide +kernel
theorem pC_up:∀(b:Fin 256) (q:Fin 5),pB (pA b.val) % 16≤4∧pB (pA b.val)≤68∧((16*q.val+(pB (pA b.val) / 16+pB (pA b.val))) &&& 15)=pC (pB (pA b.val)):=by decide +kernel
theorem pA_le:∀b:Fin 256,pA b.val≤170∧((b.val / 2) &&& 85)≤85∧(b.val &&& 85)≤85:=by decide +kernel
theorem pop8:∀b:Fin 256,pC (pB (pA b.val))=yaq 8 b.val:=by decide +kernel
theorem pop8_le:∀b:Fin 256,yaq 8 b.val≤8:=by decide +kernel
theorem w8_of (x:Nat) (h:x<18446744073709551616):∃b0 b1 b2 b3 b4 b5 b6 b7,x=w8 b0 b1 b2 b3 b4 b5 b6 b7∧(b0<256∧b1<256∧b2<256∧b3<256∧b4<256∧b5<256∧b6<256)∧b7<256:=by
 refine ⟨x % 256,x / 256 % 256,x / 65536 % 256,x / 16777216 % 256,x / 4294967296 % 256,x / 1099511627776 % 256,x / 281474976710656 % 256,x / 72057594037927936,?_,⟨by omega,by omega,by omega,by omega,by omega,by omega,by omega⟩,by omega⟩
 unfold w8;omega
theorem yn8 {b0 b1 b2 b3 b4 b5 b6 b7:Nat} (h:b0<256∧b1<256∧b2<256∧b3<256∧b4<256∧b5<256∧b6<256):yaq 64 (w8 b0 b1 b2 b3 b4 b5 b6 b7) =
  yaq 8 b0+(yaq 8 b1+(yaq 8 b2+(yaq 8 b3+(yaq 8 b4+(yaq 8 b5+(yaq 8 b6+yaq 8 b7)))))):=by
 have st:∀m q r,r<256→yaq (8+m) (256*q+r)=yaq 8 r+yaq m q:=fun m q r hr=>by
  rw [ycr 8 m,show (2:Nat) ^ 8=256 from rfl,show (256*q+r) % 256=r by omega,show (256*q+r) / 256=q by omega]
 unfold w8
 rw [show (64:Nat)=8+(8+(8+(8+(8+(8+(8+8)))))) from rfl,st _ _ _ h.1,st _ _ _ h.2.1,st _ _ _ h.2.2.1,st _ _ _ h.2.2.2.1,st _ _ _ h.2.2.2.2.1,st _ _ _ h.2.2.2.2.2.1,st _ _ _ h.2.2.2.2.2.2]
def sA (x:Nat):Nat:=((x / 2) &&& 6148914691236517205)+(x &&& 6148914691236517205)
def sB (x:Nat):Nat:=((x / 4) &&& 3689348814741910323)+(x &&& 3689348814741910323)
def sC (x:Nat):Nat:=(x / 16+x) &&& 1085102592571150095
def sD (x:Nat):Nat:=x+x / 256
def sE (x:Nat):Nat:=x+x / 65536
def sF (x:Nat):Nat:=x+x / 4294967296
theorem sA_w8 {b0 b1 b2 b3 b4 b5 b6 b7:Nat} (h:b0<256∧b1<256∧b2<256∧b3<256∧b4<256∧b5<256∧b6<256) (h7:b7<256):sA (w8 b0 b1 b2 b3 b4 b5 b6 b7)=w8 (pA b0) (pA b1) (pA b2) (pA b3) (pA b4) (pA b5) (pA b6) (pA b7):=by
 have e:w8 b0 b1 b2 b3 b4 b5 b6 b7 / 2=w8 (128*(b1 % 2)+b0 / 2) (128*(b2 % 2)+b1 / 2) (128*(b3 % 2)+b2 / 2) (128*(b4 % 2)+b3 / 2) (128*(b5 % 2)+b4 / 2) (128*(b6 % 2)+b5 / 2) (128*(b7 % 2)+b6 / 2) (b7 / 2):=by unfold w8;omega
 have u:∀b q,b<256→((128*(q % 2)+b / 2) &&& 85)=((b / 2) &&& 85):=fun b q hb=>pA_up ⟨b,hb⟩ ⟨q % 2,by omega⟩
 unfold sA
 rw [e,show (6148914691236517205:Nat)=w8 85 85 85 85 85 85 85 85 from rfl,yho (by omega) 85 (by omega),yho h 85 (by omega),u _ _ h.1,u _ _ h.2.1,u _ _ h.2.2.1,u _ _ h.2.2.2.1,u _ _ h.2.2.2.2.1,u _ _ h.2.2.2.2.2.1,u _ _ h.2.2.2.2.2.2]
 unfold w8 pA;omega
theorem sB_w8 {b0 b1 b2 b3 b4 b5 b6 b7:Nat} (h:b0<256∧b1<256∧b2<256∧b3<256∧b4<256∧b5<256∧b6<256) (h7:b7<256):sB (w8 b0 b1 b2 b3 b4 b5 b6 b7)=w8 (pB b0) (pB b1) (pB b2) (pB b3) (pB b4) (pB b5) (pB b6) (pB b7):=by
 have e:w8 b0 b1 b2 b3 b4 b5 b6 b7 / 4=w8 (64*(b1 % 4)+b0 / 4) (64*(b2 % 4)+b1 / 4) (64*(b3 % 4)+b2 / 4) (64*(b4 % 4)+b3 / 4) (64*(b5 % 4)+b4 / 4) (64*(b6 % 4)+b5 / 4) (64*(b7 % 4)+b6 / 4) (b7 / 4):=by unfold w8;omega
 have u:∀b q,b<256→((64*(q % 4)+b / 4) &&& 51)=((b / 4) &&& 51):=fun b q hb=>pB_up ⟨b,hb⟩ ⟨q % 4,by omega⟩
 unfold sB
 rw [e,show (3689348814741910323:Nat)=w8 51 51 51 51 51 51 51 51 from rfl,yho (by omega) 51 (by omega),yho h 51 (by omega),u _ _ h.1,u _ _ h.2.1,u _ _ h.2.2.1,u _ _ h.2.2.2.1,u _ _ h.2.2.2.2.1,u _ _ h.2.2.2.2.2.1,u _ _ h.2.2.2.2.2.2]
 unfold w8 pB;omega
theorem sC_w8 {b0 b1 b2 b3 b4 b5 b6 b7:Nat} (h:b0≤68∧b1≤68∧b2≤68∧b3≤68∧b4≤68∧b5≤68∧b6≤68∧b7≤68) (g:b1 % 16≤4∧b2 % 16≤4∧b3 % 16≤4∧b4 % 16≤4∧b5 % 16≤4∧b6 % 16≤4∧b7 % 16≤4)
  (u:∀b q,(b=b0∨b=b1∨b=b2∨b=b3∨b=b4∨b=b5∨b=b6∨b=b7)→q≤4→((16*q+(b / 16+b)) &&& 15)=pC b):
  sC (w8 b0 b1 b2 b3 b4 b5 b6 b7)=w8 (pC b0) (pC b1) (pC b2) (pC b3) (pC b4) (pC b5) (pC b6) (pC b7):=by
 have e:w8 b0 b1 b2 b3 b4 b5 b6 b7 / 16+w8 b0 b1 b2 b3 b4 b5 b6 b7=w8 (16*(b1 % 16)+(b0 / 16+b0)) (16*(b2 % 16)+(b1 / 16+b1)) (16*(b3 % 16)+(b2 / 16+b2)) (16*(b4 % 16)+(b3 / 16+b3)) (16*(b5 % 16)+(b4 / 16+b4)) (16*(b6 % 16)+(b5 / 16+b5)) (16*(b7 % 16)+(b6 / 16+b6)) (b7 / 16+b7):=by
  unfold w8;omega
 unfold sC
 have u7:=u b7 0 (by simp) (by omega)
 rw [Nat.mul_zero,Nat.zero_add] at u7
 rw [e,show (1085102592571150095:Nat)=w8 15 15 15 15 15 15 15 15 from rfl,yho (by omega) 15 (by omega),u b0 _ (by simp) g.1,u b1 _ (by simp) g.2.1,u b2 _ (by simp) g.2.2.1,u b3 _ (by simp) g.2.2.2.1,u b4 _ (by simp) g.2.2.2.2.1,u b5 _ (by simp) g.2.2.2.2.2.1,u b6 _ (by simp) g.2.2.2.2.2.2,u7]
theorem ones_eq {x:Nat} (h:x<18446744073709551616):sF (sE (sD (sC (sB (sA x))))) % 128=(y6i x).length∧sA x<18446744073709551616∧sB (sA x)<18446744073709551616∧sB (sA x) / 16+sB (sA x)<18446744073709551616∧sD (sC (sB (sA x)))<18446744073709551616∧sE (sD (sC (sB (sA x))))<18446744073709551616∧sF (sE (sD (sC (sB (sA x)))))<9223372036854775808:=by
 obtain ⟨b0,b1,b2,b3,b4,b5,b6,b7,rfl,hb,h7⟩:=w8_of x h
 rw [bits_len,yn8 hb,sA_w8 hb h7]
 have a:∀b,b<256→pA b≤170:=fun b hb=>(pA_le ⟨b,hb⟩).1
 have c:∀b,b<256→pB (pA b) % 16≤4∧pB (pA b)≤68∧pC (pB (pA b))=yaq 8 b∧yaq 8 b≤8∧∀q,q≤4→((16*q+(pB (pA b) / 16+pB (pA b))) &&& 15)=pC (pB (pA b)):=fun b hb=>by
  have h1:=pC_up ⟨b,hb⟩ 0
  exact ⟨h1.1,h1.2.1,pop8 ⟨b,hb⟩,pop8_le ⟨b,hb⟩,fun q hq=>(pC_up ⟨b,hb⟩ ⟨q,by omega⟩).2.2⟩
 have a0:=a b0 hb.1;have a1:=a b1 hb.2.1;have a2:=a b2 hb.2.2.1;have a3:=a b3 hb.2.2.2.1;have a4:=a b4 hb.2.2.2.2.1;have a5:=a b5 hb.2.2.2.2.2.1;have a6:=a b6 hb.2.2.2.2.2.2;have a7:=a b7 h7
 obtain ⟨m0,n0,p0,q0,u0⟩:=c b0 hb.1
 obtain ⟨m1,n1,p1,q1,u1⟩:=c b1 hb.2.1
 obtain ⟨m2,n2,p2,q2,u2⟩:=c b2 hb.2.2.1
 obtain ⟨m3,n3,p3,q3,u3⟩:=c b3 hb.2.2.2.1
 obtain ⟨m4,n4,p4,q4,u4⟩:=c b4 hb.2.2.2.2.1
 obtain ⟨m5,n5,p5,q5,u5⟩:=c b5 hb.2.2.2.2.2.1
 obtain ⟨m6,n6,p6,q6,u6⟩:=c b6 hb.2.2.2.2.2.2
 obtain ⟨m7,n7,p7,q7,u7⟩:=c b7 h7
 rw [sB_w8 (by omega) (by omega),sC_w8 (by omega) (by omega) (by
  rintro b q (rfl | rfl | rfl | rfl | rfl | rfl | rfl | rfl) hq
  ·exact u0 q hq
  ·exact u1 q hq
  ·exact u2 q hq
  ·exact u3 q hq
  ·exact u4 q hq
  ·exact u5 q hq
  ·exact u6 q hq
  ·exact u7 q hq),p0,p1,p2,p3,p4,p5,p6,p7]
 generalize yaq 8 b0=o0 at *
 generalize yaq 8 b1=o1 at *
 generalize yaq 8 b2=o2 at *
 generalize yaq 8 b3=o3 at *
 generalize yaq 8 b4=o4 at *
 generalize yaq 8 b5=o5 at *
 generalize yaq 8 b6=o6 at *
 generalize yaq 8 b7=o7 at *
 have eD:sD (w8 o0 o1 o2 o3 o4 o5 o6 o7)=w8 (o0+o1) (o1+o2) (o2+o3) (o3+o4) (o4+o5) (o5+o6) (o6+o7) o7:=by unfold sD w8;omega
 have eE:sE (w8 (o0+o1) (o1+o2) (o2+o3) (o3+o4) (o4+o5) (o5+o6) (o6+o7) o7)=w8 (o0+o1+(o2+o3)) (o1+o2+(o3+o4)) (o2+o3+(o4+o5)) (o3+o4+(o5+o6)) (o4+o5+(o6+o7)) (o5+o6+o7) (o6+o7) o7:=by unfold sE w8;omega
 have eF:sF (w8 (o0+o1+(o2+o3)) (o1+o2+(o3+o4)) (o2+o3+(o4+o5)) (o3+o4+(o5+o6)) (o4+o5+(o6+o7)) (o5+o6+o7) (o6+o7) o7)=w8 (o0+o1+(o2+o3)+(o4+o5+(o6+o7))) (o1+o2+(o3+o4)+(o5+o6+o7)) (o2+o3+(o4+o5)+(o6+o7)) (o3+o4+(o5+o6)+o7) (o4+o5+(o6+o7)) (o5+o6+o7) (o6+o7) o7:=by unfold sF w8;omega
 rw [eD,eE,eF]
 refine ⟨by unfold w8;omega,by unfold w8;omega,by unfold w8;omega,by unfold w8;omega,by unfold w8;omega,by unfold w8;omega,by unfold w8;omega⟩
end Go.Proofs.YtikpijbeobeckaaGreatDoor
namespace Go.Proofs.YtikpijbeobeckaaGreatDoor.Am
open Go Go.RowKit
open Classical in
open Classical in
def Hp.on (L:List (Nat × Blk)) (n:Nat):Hp:=⟨fun k=>(L.find? fun p=>p.1 == k).map (·.2),n⟩
@[simp] theorem Hp.on_next (L:List (Nat × Blk)) (n:Nat):(Hp.on L n).next=n:=rfl
@[simp] theorem Hp.on_nil (n k:Nat):(Hp.on [] n).get k=Option.none:=rfl
@[simp] theorem Hp.on_cons (id:Nat) (b:Blk) (L:List (Nat × Blk)) (n k:Nat):(Hp.on ((id,b)::L) n).get k=if k=id then some b else (Hp.on L n).get k:=by
 simp only [Hp.on,List.find?_cons]
 by_cases h:k=id
 ·subst h;simp
 ·rw [if_neg h]
  have:(id == k)=false:=by simpa using fun e:id=k=>h e.symm
  simp [this]
end Go.Proofs.YtikpijbeobeckaaGreatDoor.Am
namespace Go.Proofs.YtikpijbeobeckaaGreatDoor
open Am C
theorem bv64 {a:Nat} (ha:a<18446744073709551616):(BitVec.ofInt 64 (a:Int)).toNat=a:=by
 rw [BitVec.ofInt_natCast,BitVec.toNat_ofNat];exact Nat.mod_eq_of_lt (by omega)
theorem ygd {n:Nat} (h:n<18446744073709551616):Go.IntKind.u64.wrap (n:Int)=n:=by rw [y99 (by omega) (by omega)]
theorem yea {a b:Nat} (ha:a<18446744073709551616) (hb:b<18446744073709551616):bAnd .u64 (a:Int) (b:Int)=((a &&& b:Nat):Int):=by
 show Go.IntKind.u64.wrap ((BitVec.ofInt 64 (a:Int) &&& BitVec.ofInt 64 (b:Int)).toNat:Int)=_
 rw [BitVec.toNat_and,bv64 ha,bv64 hb,ygd (Nat.lt_of_le_of_lt Nat.and_le_left ha)]
theorem bOr64 {a b:Nat} (ha:a<18446744073709551616) (hb:b<18446744073709551616):bOr .u64 (a:Int) (b:Int)=((a ||| b:Nat):Int):=by
 show Go.IntKind.u64.wrap ((BitVec.ofInt 64 (a:Int) ||| BitVec.ofInt 64 (b:Int)).toNat:Int)=_
 rw [BitVec.toNat_or,bv64 ha,bv64 hb,ygd (Nat.or_lt_two_pow (n:=64) ha hb)]
theorem yl4 (a b:Nat) (hb:0<b):(a:Int).fdiv (b:Int)=((a / b:Nat):Int):=by
 rw [Int.fdiv_eq_ediv_of_nonneg _ (by omega)];omega
theorem Ones_ok (x:Nat) (hx:x<18446744073709551616) (H:Hp):AC Tryz.prog y5g [.i .u64 (x:Nat)] H (fun v H'=>v=.i .i64 ((y6i x).length:Nat)∧H'=H):=by
 obtain ⟨e,h1,h2,h3,h4,h5,h6⟩:=ones_eq hx
 obtain ⟨a,ha⟩:∃a,a=sA x:=⟨_,rfl⟩
 obtain ⟨b,hb⟩:∃b,b=sB a:=⟨_,rfl⟩
 obtain ⟨c,hc⟩:∃c,c=sC b:=⟨_,rfl⟩
 obtain ⟨d,hd⟩:∃d,d=sD c:=⟨_,rfl⟩
 obtain ⟨f,hf⟩:∃f,f=sE d:=⟨_,rfl⟩
 obtain ⟨g,hg⟩:∃g,g=sF f:=⟨_,rfl⟩
 rw [←ha,←hb,←hc,←hd,←hf,←hg] at e
 rw [←ha] at h1 h2 h3 h4 h5 h6
 rw [←hb] at h2 h3 h4 h5 h6
 rw [←hc] at h4 h5 h6
 rw [←hd] at h4 h5 h6
 rw [←hf] at h5 h6
 rw [←hg] at h6
 have hcl:c<18446744073709551616:=by rw [hc];exact Nat.lt_of_le_of_lt Nat.and_le_left h3
 have q1:=yl4 x 2 (by omega)
 have q2:=yl4 a 4 (by omega)
 have q3:=yl4 b 16 (by omega)
 have q4:=yl4 c 256 (by omega)
 have q5:=yl4 d 65536 (by omega)
 have q6:=yl4 f 4294967296 (by omega)
 simp at q1 q2 q3 q4 q5 q6
 have a1:=yea (a:=x / 2) (b:=6148914691236517205) (by omega) (by omega)
 have a2:=yea (a:=x) (b:=6148914691236517205) (by omega) (by omega)
 have a3:=yea (a:=a / 4) (b:=3689348814741910323) (by omega) (by omega)
 have a4:=yea (a:=a) (b:=3689348814741910323) (by omega) (by omega)
 have a5:=yea (a:=b / 16+b) (b:=1085102592571150095) (by omega) (by omega)
 simp at a1 a2 a3 a4 a5
 have w1:Go.IntKind.u64.wrap (((x / 2 &&& 6148914691236517205:Nat):Int)+((x &&& 6148914691236517205:Nat):Int))=(a:Int):=by
  rw [ha,←ygd (n:=sA x) (by rw [←ha];exact h1)];unfold sA;simp
 have w2:Go.IntKind.u64.wrap (((a / 4 &&& 3689348814741910323:Nat):Int)+((a &&& 3689348814741910323:Nat):Int))=(b:Int):=by
  rw [hb,←ygd (n:=sB a) (by rw [←hb];exact h2)];unfold sB;simp
 have w3:Go.IntKind.u64.wrap ((b:Int) / 16+(b:Int))=(b:Int) / 16+(b:Int):=by rw [y99 (by omega) (by omega)]
 have w4:Go.IntKind.u64.wrap ((c:Int)+(c:Int) / 256)=(d:Int):=by rw [y99 (by omega) (by unfold sD at hd;omega),hd];unfold sD;omega
 have w5:Go.IntKind.u64.wrap ((d:Int)+(d:Int) / 65536)=(f:Int):=by rw [y99 (by omega) (by unfold sE at hf;omega),hf];unfold sE;omega
 have w6:Go.IntKind.u64.wrap ((f:Int)+(f:Int) / 4294967296)=(g:Int):=by rw [y99 (by omega) (by unfold sF at hg;omega),hg];unfold sF;omega
 have ec:(b / 16+b &&& 1085102592571150095)=c:=hc.symm
 refine AC.code y19.at y19.ok ?_
 simp only [y19]
 apply jA
 simp [y19.r0]
 apply jA
 simp [y19.r1,q1,a1,a2,w1]
 apply jA
 simp [y19.r2,q2,a3,a4,w2]
 apply jA
 simp [y19.r3,q3,a5,w3,ec]
 apply jA
 simp [y19.r4,q4,w4]
 apply jA
 simp [y19.r5,q5,w5]
 apply jA
 simp [y19.r6,q6,w6]
 apply jA
 simp [y19.r7]
 apply jD
 simp
 rw [wrap_i64 (by omega) (by omega)]
 show Go.IntKind.i64.wrap ((BitVec.ofInt 64 (g:Int) &&& BitVec.ofInt 64 ((127:Nat):Int)).toNat:Int)=_
 rw [BitVec.toNat_and,bv64 (by omega),bv64 (by omega),←e,show (127:Nat)=2 ^ 7-1 from rfl,Nat.and_two_pow_sub_one_eq_mod]
 rw [wrap_i64 (by omega) (by omega)]
def bkc (x:Bk):List V:=[.i .i64 (x.1:Nat),.i .u64 (x.2:Nat)]
def y6q (bs:List Bk):List V:=(bs.map bkc).flatten
theorem ypg:∀bs:List Bk,∀e∈bs.map bkc,e.length=2:=fun bs e he=>by
 obtain ⟨x,_,rfl⟩:=List.mem_map.1 he;rfl
theorem y8p (bs:List Bk):(y6q bs).length=bs.length*2:=by
 unfold y6q;rw [ydc (ypg bs)];simp
theorem ype (bs:List Bk):(y6q bs).all y3w=true:=by
 rw [ka];intro v hv
 obtain ⟨e,he,hv⟩:=List.mem_flatten.1 hv
 obtain ⟨x,_,rfl⟩:=List.mem_map.1 he
 simp [bkc] at hv
 rcases hv with rfl | rfl <;> rfl
theorem ypf {bs:List Bk} {i:Nat} {x:Bk} (h:bs[i]?=some x):((y6q bs).drop (i*2)).take 2=bkc x:=by
 induction bs generalizing i with
 | nil=>simp at h
 | cons a r ih=>
  cases i with
  | zero=>simp at h;subst h;rfl
  | succ i=>simp at h;rw [Nat.succ_mul];exact ih h
inductive RowB (H:Hp):V→List Bk→Prop
 | nil (z:Nat):RowB H (.sl none 0 z) []
 | row (id off m:Nat) (cs:List V) (bs:List Bk):H.get id=some (.cells cs m)→m≤cs.length→off+bs.length*2≤cs.length→(∀(i:Nat) x,bs[i]?=some x→(cs.drop (off+i*2)).take 2=bkc x)→RowB H (.sl (some (id,off,cs.length)) bs.length 2) bs
theorem RowB.ext {H X:Hp} {v:V} {bs:List Bk} (h:RowB H v bs) (e:H.Ext X):RowB X v bs:=by
 cases h with
 | nil z=>exact .nil z
 | row id off m cs bs g h1 h2 h3=>exact .row id off m cs bs (e.2 _ _ g) h1 h2 h3
theorem RowB.at {H:Hp} {v:V} {bs:List Bk} (h:RowB H v bs) {i:Nat} {x:Bk} (hx:bs[i]?=some x):∃id off m cs,v=.sl (some (id,off,cs.length)) bs.length 2∧H.get id=some (.cells cs m)∧m≤cs.length∧off+i*2+2≤cs.length∧(cs.drop (off+i*2)).take 2=bkc x∧off+bs.length*2≤cs.length:=by
 cases h with
 | nil z=>simp at hx
 | row id off m cs bs g h1 h2 h3=>
  have:=(List.getElem?_eq_some_iff.1 hx).1
  exact ⟨id,off,m,cs,rfl,g,h1,by omega,h3 i x hx,h2⟩
theorem RowB.len {H:Hp} {v:V} {bs:List Bk} (h:RowB H v bs):∃a z,v=.sl a bs.length z:=by
 cases h with
 | nil z=>exact ⟨_,_,rfl⟩
 | row id off m cs bs g h1 h2 h3=>exact ⟨_,_,rfl⟩
theorem RowB.own {H:Hp} {id m:Nat} {bs:List Bk} (h:H.get id=some (.cells (y6q bs) m)) (hm:m≤(y6q bs).length):RowB H (.sl (some (id,0,(y6q bs).length)) bs.length 2) bs:=
 .row id 0 m _ bs h hm (by rw [y8p];omega) fun i x hx=>by rw [Nat.zero_add];exact ypf hx
theorem y53 {cs:List V} {off:Nat} {v:V} (h:cs[off]?=some v):(cs.drop off).take 1=[v]:=y9a h
theorem yft (id off m:Nat) (cs:List V) (v:V) (H:Hp) (hg:H.get id=some (.cells cs m)) (hm:m≤cs.length) (hv:cs[off]?=some v):AC Tryz.prog y59 [.p (some (id,off,cs.length))] H (fun r H'=>r=v∧H'=H):=by
 have hl:=(List.getElem?_eq_some_iff.1 hv).1
 refine AC.code y2f.at y2f.ok ?_
 simp only [y2f]
 apply jA
 simp [y2f.r0]
 apply jB
 simp [y2f.r1]
 refine jF rfl (AX.skip ?_)
 simp
 apply jA
 simp [y2f.r3,hg,hm,y53 hv,show off+1≤cs.length by omega]
 apply jD
 simp
theorem OkB.len {bs:List Bk} (h:OkB bs):bs.length≤4194305:=by
 have:∀(bs:List Bk) (k:Nat),bs.Pairwise (fun x y=>x.1<y.1)→(∀x∈bs,k≤x.1∧x.1≤4194304)→bs.length+k≤4194305∨bs=[]:=by
  intro bs
  induction bs with
  | nil=>intro k _ _;exact .inr rfl
  | cons a r ih=>
   intro k hp hb
   obtain ⟨h1,h2⟩:=List.pairwise_cons.1 hp
   have ha:=hb a (by simp)
   rcases ih (a.1+1) h2 (fun x hx=>⟨h1 x hx,(hb x (by simp [hx])).2⟩) with h | h
   ·left;simp only [kO];omega
   ·subst h;left;simp;omega
 rcases this bs 0 h.rise (fun x hx=>⟨Nat.zero_le _,(h.bit x hx).2.2⟩) with h | h
 ·omega
 ·subst h;simp
theorem yk6 {bs:List Bk} {i:Nat} {x:Bk} (h:bs[i]?=some x):elB (bs.take (i+1))=elB (bs.take i)++(y6i x.2).map fun j=>x.1*64+j:=by
 rw [kJ,h];simp [elB]
theorem yhl (b:Nat):(y6i b).length≤64:=by
 have:=List.length_filter_le (fun j=>b.testBit j) (List.range 64)
 simpa [y6i] using this
theorem ybg (bs:List Bk):(elB bs).length≤64*bs.length:=by
 induction bs with
 | nil=>simp [elB]
 | cons a r ih=>
  have h1:=yhl a.2
  have:elB (a::r)=(y6i a.2).map (fun j=>a.1*64+j)++elB r:=rfl
  rw [this];simp;omega
def LenInv (v:V) (bs:List Bk) (H:Hp) (m:Nat) (F:Fr) (X:Hp):Prop:=
 ∃i,i≤bs.length∧m=bs.length-i∧H.Ext X∧(∀k blk,X.get k=some blk→k<X.next)∧F=[(3,.i .i64 ((elB (bs.take i)).length:Nat)),(7,v),(8,.i .i64 bs.length),(9,.i .i64 i)]
theorem yq3 (id off m:Nat) (cs:List V) (v:V) (bs:List Bk) (H:Hp) (hg:H.get id=some (.cells cs m)) (hm:m≤cs.length) (hv:cs[off]?=some v) (hr:RowB H v bs) (hb:OkB bs):
  AC Tryz.prog y6f [.p (some (id,off,cs.length))] H (fun r H'=>r=.i .i64 ((elB bs).length:Nat)∧H'=H):=by
 refine AC.codeP y1r.at y1r.ok (by simp) fun hlt=>?_
 have hbl:=hb.len
 simp only [y1r]
 apply jA
 simp [y1r.r0]
 apply jA
 simp [y1r.r1]
 apply jB
 simp [y1r.r2]
 refine AC.fix (yft id off m cs v H hg hm hv) ?_
 obtain ⟨a,z,ev⟩:=hr.len
 have el:∀(F:Fr),y2c (.len false (.t 7)) ((7,v)::F) H=some (.i .i64 bs.length,H):=fun F=>by rw [ev];rfl
 rw [ev]
 simp
 rw [←ev]
 refine AX.pblock (AX.loop (LenInv v bs H) bs.length ⟨_,_,.refl _ _,0,by omega,by omega,.refl _,hlt,by simp [elB]⟩ ?_)
 rintro m' F X ⟨i,hi,rfl,hx,hxl,rfl⟩
 simp only [y1r.l0]
 apply jA
 simp [y1r.r3]
 refine AX.seq (AX.pcond rfl (fun hc=>AX.skip ?_) (fun hc=>AX.exit ?_))
 ·simp at hc
  obtain ⟨x,hx1⟩:∃x,bs[i]?=some x:=⟨_,kC hc⟩
  obtain ⟨id2,off2,m2,cs2,rfl,g2,hm2,hl2,ht2,_⟩:=(hr.ext hx).at hx1
  have hxb:=hb.bit x (kY hx1)
  simp
  apply jC
  simp [y1r.r4,hc,g2,hm2,hl2,ht2,bkc]
  apply jE
  simp [y1r.r5]
  refine AC.fix (Ones_ok x.2 hxb.2.1 _) ?_
  have e1:=yk6 hx1
  have l1:=ybg (bs.take i)
  have l2:=yhl x.2
  have e2:(elB (bs.take (i+1))).length=(elB (bs.take i)).length+(y6i x.2).length:=by rw [e1];simp
  have e3:Go.IntKind.i64.wrap (((elB (bs.take i)).length:Int)+((y6i x.2).length:Int))=((elB (bs.take (i+1))).length:Nat):=by
   rw [wrap_i64 (by omega) (by simp at l1;omega),e2];simp
  simp [e3]
  apply jE
  simp [y1r.r6,ybz (show i≤9223372036854775000 by omega)]
  exact ⟨bs.length-(i+1),by omega,_,_,.refl _ _,i+1,by omega,rfl,(hx.trans (.add hxl _)).upd hlt (by have:=hx.1;simpa using this) _,Hp.upd_lt (Hp.add_lt hxl _) (by simp) _,by simp⟩
 simp at hc
 have:i=bs.length:=by omega
 subst this
 rw [List.take_length]
 simp
 apply jA
 simp [y1r.r7]
 apply jD
 simp
 exact ⟨hx,.refl _⟩
end Go.Proofs.YtikpijbeobeckaaGreatDoor
