/- Part 30. -/
import Derived.Lib.AppendZerosOnto
import Derived.Laws.NewBlocks
import Derived.Test.YtikpijbeobeckaaGreatDoorXGw25
import Derived.Test.YtikpijbeobeckaaGreatDoorXGw29
set_option linter.unusedSimpArgs false
set_option linter.unusedVariables false
namespace Go.Proofs.YtikpijbeobeckaaGreatDoor
open Am C
def y78 (n:Nat) (X:Hp) (v:V) (bs:List Bk):Prop:=(bs=[]∧∃z,v=.sl none 0 z)∨∃id m,n≤id∧v=.sl (some (id,0,(y6q bs).length)) bs.length 2∧X.get id=some (.cells (y6q bs) m)∧m≤(y6q bs).length
theorem y78.row {n:Nat} {X:Hp} {v:V} {bs:List Bk} (h:y78 n X v bs):RowB X v bs:=by
 rcases h with ⟨rfl,z,rfl⟩ | ⟨id,m,_,rfl,g,hm⟩
 ·exact .nil z
 ·exact .own g hm
theorem y78.to {n:Nat} {X X':Hp} {v:V} {bs:List Bk} (h:y78 n X v bs) (k:∀i blk,n≤i→X.get i=some blk→X'.get i=some blk):y78 n X' v bs:=
 h.imp id fun ⟨i,m,a,b,c,d⟩=>⟨i,m,a,b,k i _ a c,d⟩
theorem y78.app {n:Nat} {X:Hp} {v:V} {bs:List Bk} (h:y78 n X v bs) (hl:Hp.Lt X) (hn:n≤X.next) (hb:bs.length≤16000000) (q:Bk):
  ∃v2 X2,y28 X 2 16 v (.fs [bkc q])=some (v2,X2)∧y78 n X2 v2 (bs++[q])∧Hp.Lt X2∧X.next≤X2.next∧∀k,k<n→X2.get k=X.get k:=by
 have e0:y6q (bs++[q])=y6q bs++bkc q:=by simp [y6q]
 have l0:=y8p bs
 rcases h with ⟨rfl,z,rfl⟩ | ⟨id,m,h1,rfl,g,hm⟩
 ·refine ⟨.sl (some (X.next,0,2)) 1 2,X.add (.cells (bkc q) 2),by simp [y28,y4e,y4x,bkc],.inr ⟨X.next,2,hn,rfl,by simp [y6q,bkc],by simp [y6q,bkc]⟩,Hp.add_lt hl _,by simp,fun k hk=>?_⟩
  simp [show k≠X.next by omega]
 ·have hid:=hl _ _ g
  refine ⟨.sl (some (id,0,(y6q bs).length+2)) (bs.length+1) 2,X.upd id (.cells (y6q bs++bkc q) m),?_,.inr ⟨id,m,h1,?_,by rw [e0];simp,by rw [e0];simp;omega⟩,Hp.upd_lt hl hid _,by simp,fun k hk=>?_⟩
  ·simp [y28,y4e,y4x,g,bkc,y3w,l0]
   omega
  ·rw [e0];simp [bkc]
  ·simp [show k≠id by omega]
theorem ynu (a1 a2:Option (Nat × Nat × Nat)) (l1 l2 s1 s2:Nat) (H:Hp):AC Tryz.prog y9h [.sl a1 l1 s1,.sl a2 l2 s2] H (fun v H'=>v=.fn y71 [.p (some (H.next,0,1)),.p (some (H.next+1,0,1))]∧H'=(H.add (.cells [.sl a1 l1 s1] 1)).add (.cells [.sl a2 l2 s2] 1)):=by
 refine AC.code y3k.at y3k.ok ?_
 simp only [y3k]
 apply jA
 simp [y3k.r0]
 apply jA
 simp [y3k.r1]
 apply jD
 simp
structure MkJ (H:Hp) (f:Nat→Nat→Nat) (l:List (Bk × Bk)) (va vb:V) (lp:OB) (k:Nat) (X:Hp):Prop where
 lt:Hp.Lt X
 nx:H.next+5≤X.next
 ext:∀i blk,H.get i=some blk→X.get i=some blk
 out:∃v,X.get H.next=some (.cells [v] 1)∧y78 (H.next+5) X v (yct f (l.take k))
 bo:X.get (H.next+1)=some (.cells [.p (some (H.next,0,1))] 1)
 ba:X.get (H.next+2)=some (.cells [va] 1)
 bb:X.get (H.next+3)=some (.cells [vb] 1)
 lp:X.get (H.next+4)=some (.obj lp)
theorem MkJ.up {H:Hp} {f:Nat→Nat→Nat} {l:List (Bk × Bk)} {va vb:V} {lp:OB} {k:Nat} {X X':Hp} (J:MkJ H f l va vb lp k X) (e:X.Ext X') (hl:Hp.Lt X'):MkJ H f l va vb lp k X':=by
 obtain ⟨v,h1,h2⟩:=J.out
 exact ⟨hl,kV J.nx e.1,fun i blk h=>e.2 _ _ (J.ext i blk h),⟨v,e.2 _ _ h1,h2.to fun i blk _ h=>e.2 _ _ h⟩,e.2 _ _ J.bo,e.2 _ _ J.ba,e.2 _ _ J.bb,e.2 _ _ J.lp⟩
set_option maxHeartbeats 1000000 in
theorem made_ok (ids ofs ms idt oft mt:Nat) (css cst:List V) (va vb:V) (a b:List Bk) (fo:Go.FuncId) (f:Nat→Nat→Nat) (H:Hp) (hlt:Hp.Lt H) (ha:OkB a) (hb:OkB b)
  (gs:H.get ids=some (.cells css ms)) (hms:ms≤css.length) (hvs:css[ofs]?=some va) (ra:RowB H va a) (gt:H.get idt=some (.cells cst mt)) (hmt:mt≤cst.length) (hvt:cst[oft]?=some vb) (rb:RowB H vb b)
  (hf:∀x y,x<18446744073709551616→y<18446744073709551616→f x y<18446744073709551616)
  (hof:∀x y,x<18446744073709551616→y<18446744073709551616→∀X,AC Tryz.prog fo [.i .u64 (x:Nat),.i .u64 (y:Nat)] X (fun v X'=>v=.i .u64 (f x y:Nat)∧X'=X)):
  AC Tryz.prog ybc [.p (some (ids,ofs,css.length)),.p (some (idt,oft,cst.length)),.fn fo []] H (fun r X=>r=.p (some (H.next,0,1))∧H.Ext X∧Hp.Lt X∧∃v,X.get H.next=some (.cells [v] 1)∧y78 (H.next+1) X v (yct f (y7a a b))):=by
 have ns:=hlt _ _ gs
 have nt:=hlt _ _ gt
 have hlen:=ycg a b
 have la:=ha.len
 have lb:=hb.len
 obtain ⟨a1,z1,rfl⟩:=ra.len
 obtain ⟨a2,z2,rfl⟩:=rb.len
 refine AC.code y1y.at y1y.ok ?_
 simp only [y1y]
 apply jA
 simp [y1y.r0]
 apply jA
 simp [y1y.r1]
 apply jB
 simp [y1y.r2]
 refine AC.fix (yft ids ofs ms css _ _ (by simp [show ids≠H.next by omega,show ids≠H.next+1 by omega,gs]) hms hvs) ?_
 simp
 refine AC.fix (yft idt oft mt cst _ _ (by simp [show idt≠H.next by omega,show idt≠H.next+1 by omega,gt]) hmt hvt) ?_
 simp
 refine AC.fix (ynu _ _ _ _ _ _ _) ?_
 simp
 have x1:H.Ext (H.add (.cells [.sl none 0 0] 1)):=.add hlt _
 have t1:=Hp.add_lt hlt (.cells [.sl none 0 0] 1)
 have x2:=x1.trans (.add t1 (.cells [.p none] 1))
 have t2:=Hp.add_lt t1 (.cells [.p none] 1)
 have x3:=x2.upd hlt (k:=H.next+1) (by omega) (.cells [.p (some (H.next,0,1))] 1)
 have t3:=Hp.upd_lt t2 (k:=H.next+1) (by simp) (.cells [.p (some (H.next,0,1))] 1)
 have x4:=x3.trans (.add t3 (.cells [.sl a1 a.length z1] 1))
 have t4:=Hp.add_lt t3 (.cells [.sl a1 a.length z1] 1)
 have x5:=x4.trans (.add t4 (.cells [.sl a2 b.length z2] 1))
 have t5:=Hp.add_lt t4 (.cells [.sl a2 b.length z2] 1)
 refine AX.pblock (AX.prange rfl fun S hS=>?_)
 refine (ylo (H.next+4) (H.next+2) (H.next+3) 1 1 _ _ a b (MkJ H f (y7a a b) (.sl a1 a.length z1) (.sl a2 b.length z2) (.lp S .ready)) _ ha hb (by simp) (by omega) (by simp) (by omega) ⟨Hp.add_lt t5 _,by simp,(x5.trans (.add t5 _)).2,⟨.sl none 0 0,by simp [show H.next≠H.next+1+1+1+1 by omega,show H.next≠H.next+1+1+1 by omega,show H.next≠H.next+1+1 by omega],.inl ⟨rfl,0,rfl⟩⟩,by simp,by simp,by simp,by simp⟩ (fun k X J=>J.lt) (fun k X X' J e hl=>J.up e hl)
  (fun k X J=>⟨ra.ext ⟨by have:=J.nx;omega,J.ext⟩,rb.ext ⟨by have:=J.nx;omega,J.ext⟩⟩) ?_).mono ?_
 ·intro k X q hq J
  refine YC.walk hS J.lp rfl ?_
  simp only [y1y.a0]
  apply jA
  simp [y1y.r3,putAll,bkc]
  apply jE
  have nx:=J.nx
  have e1:X.Ext ((((X.add (.cells [.i .i64 0,.i .u64 0] 2)).upd X.next (.cells [.i .i64 (q.1.1:Nat),.i .u64 (q.1.2:Nat)] 2)).add (.cells [.i .i64 0,.i .u64 0] 2)).upd (X.next+1) (.cells [.i .i64 (q.2.1:Nat),.i .u64 (q.2.2:Nat)] 2)):=
   ((((Hp.Ext.add J.lt _).upd J.lt (kG _) _).trans (.add (Hp.upd_lt (Hp.add_lt J.lt _) (by simp) _) _)).upd J.lt (by omega) _)
  have l1:=Hp.upd_lt (k:=X.next+1) (Hp.add_lt (Hp.upd_lt (k:=X.next) (Hp.add_lt J.lt (.cells [.i .i64 0,.i .u64 0] 2)) (by simp) (.cells [.i .i64 (q.1.1:Nat),.i .u64 (q.1.2:Nat)] 2)) (.cells [.i .i64 0,.i .u64 0] 2)) (by simp) (.cells [.i .i64 (q.2.1:Nat),.i .u64 (q.2.2:Nat)] 2)
  simp [y1y.r4]
  obtain ⟨X1,hX1⟩:∃X1,X1=((((X.add (.cells [.i .i64 0,.i .u64 0] 2)).upd X.next (.cells [.i .i64 (q.1.1:Nat),.i .u64 (q.1.2:Nat)] 2)).add (.cells [.i .i64 0,.i .u64 0] 2)).upd (X.next+1) (.cells [.i .i64 (q.2.1:Nat),.i .u64 (q.2.2:Nat)] 2)):=⟨_,rfl⟩
  have g8:X1.get X.next=some (.cells [.i .i64 (q.1.1:Nat),.i .u64 (q.1.2:Nat)] 2):=by rw [hX1];simp
  have g9:X1.get (X.next+1)=some (.cells [.i .i64 (q.2.1:Nat),.i .u64 (q.2.2:Nat)] 2):=by rw [hX1];simp
  rw [←hX1] at e1 l1 ⊢
  have J1:=J.up e1 l1
  refine ⟨by rw [if_neg (by omega),if_neg (by omega),if_neg (by omega),if_neg (by omega)];exact J.lp,?_⟩
  obtain ⟨h1,h2⟩:=ycs a b ha hb
  have hqm:=kY hq
  have hq1:q.1.2<18446744073709551616∧q.2.2<18446744073709551616:=by
   have at64:∀{bs:List Bk},OkB bs→∀k,atB bs k<18446744073709551616:=fun {bs} h k=>by
    unfold atB
    cases hf:bs.find? fun x=>x.1 == k with
    | none=>simp
    | some x=>exact (h.bit x (List.mem_of_find?_eq_some hf)).2.1
   have:=h2 q hqm
   rw [this.2.2.1,this.2.2.2]
   exact ⟨at64 ha _,at64 hb _⟩
  have hkl:=(List.getElem?_eq_some_iff.1 hq).1
  have hmk:yct f ((y7a a b).take (k+1))=yct f ((y7a a b).take k)++(if f q.1.2 q.2.2≠0 then [(q.1.1,f q.1.2 q.2.2)] else []):=by
   rw [kJ,hq];exact mkB_snoc f q _
  have hmkl:(yct f ((y7a a b).take k)).length≤16000000:=by
   have:(yct f ((y7a a b).take k)).length≤((y7a a b).take k).length:=List.length_filterMap_le _ _
   rw [List.length_take] at this
   omega
  have ne1:X.next≠H.next+4:=by omega
  have ne2:X.next+1≠H.next+4:=by omega
  have ne3:H.next≠H.next+4:=by omega
  have ne4:H.next+1≠H.next+4:=by omega
  have ne5:X.next≠H.next+3:=by omega
  simp only [y1y.b0]
  refine AX.pblock (jA ?_)
  simp [y1y.r5,g8,g9,ne1,ne2,ne5]
  refine AC.fix (hof _ _ hq1.1 hq1.2 _) ?_
  simp
  refine AX.test (decide (f q.1.2 q.2.2≠0)) [(7,.p (some (H.next+1,0,1))),(8,.p (some (X.next,0,2))),(10,.i .u64 (f q.1.2 q.2.2:Nat)),(27,.b (decide (f q.1.2 q.2.2≠0)))] ?_ rfl (fun hc=>?_) (fun hc=>AX.skip ?_)
  ·simp [y1y.r6]
  ·simp at hc
   rw [if_pos hc] at hmk
   obtain ⟨v,o1,o2⟩:=J1.out
   obtain ⟨v2,X3,s1,s2,s3,s4,s5⟩:=(o2.to (X':=X1.upd (H.next+4) (.obj (.lp S .busy))) (fun i blk hi h=>by simp [show i≠H.next+4 by omega,h])).app (Hp.upd_lt l1 (by have:=J1.nx;omega) _) (by simpa using J1.nx) hmkl (q.1.1,f q.1.2 q.2.2)
   obtain ⟨p2,z3,rfl⟩:=s2.row.len
   simp [bkc,-y28] at s1
   have hx3:H.next+5≤X3.next:=kV J1.nx (by simpa using s4)
   have k0:X3.get H.next=some (.cells [v] 1):=by rw [s5 _ (by omega)];simp [ne3,o1]
   have k1:X3.get (H.next+1)=some (.cells [.p (some (H.next,0,1))] 1):=by rw [s5 _ (by omega)];simp [J1.bo]
   refine AX.drw ?_
   have o1':(X1.upd (H.next+4) (.obj (.lp S .busy))).get H.next=some (.cells [v] 1):=by simp [ne3,o1]
   simp [y1y.r7,g8,g9,ne1,ne2,ne3,ne5,J1.bo,o1,-y28,s1,y7x,k0,k1]
   have k4:X3.get (H.next+4)=some (.obj (.lp S .busy)):=by rw [s5 _ (by omega)];simp
   simp [y98,k4]
   have hlk:∀i blk,H.get i=some blk→i<H.next:=hlt
   have kk:∀i blk,i<H.next+4→i≠H.next→X1.get i=some blk→((X3.upd H.next (.cells [.sl p2 ((yct f (List.take k (y7a a b))).length+1) z3] 1)).upd (H.next+4) (.obj (.lp S .ready))).get i=some blk:=fun i blk h1 h2 h3=>by
    simp [show i≠H.next+4 by omega,h2]
    rw [s5 _ (by omega)]
    simp [show i≠H.next+4 by omega,h3]
   refine ⟨Hp.upd_lt (Hp.upd_lt s3 (by omega) _) (by simp;omega) _,by simpa using hx3,fun i blk h=>kk i blk (by have:=hlt _ _ h;omega) (by have:=hlt _ _ h;omega) (J1.ext i blk h),⟨_,by simp [ne3];rfl,?_⟩,kk _ _ (by omega) (by omega) J1.bo,kk _ _ (by omega) (by omega) J1.ba,kk _ _ (by omega) (by omega) J1.bb,by simp⟩
   rw [hmk]
   have:=s2.to (X':=(X3.upd H.next (.cells [.sl p2 ((yct f (List.take k (y7a a b))).length+1) z3] 1)).upd (H.next+4) (.obj (.lp S .ready))) fun i blk hi h=>by
    simp [show i≠H.next+4 by omega,show i≠H.next by omega,h]
   simpa using this
  ·have hc':f q.1.2 q.2.2=0:=by simpa using hc
   rw [if_neg (by simp [hc'])] at hmk
   rw [List.append_nil] at hmk
   simp [y98]
   have eu:X1.upd (H.next+4) (.obj (.lp S .ready))=X1:=Hp.upd_self J1.lp
   rw [eu]
   obtain ⟨v,o1,o2⟩:=J1.out
   exact ⟨J1.lt,J1.nx,J1.ext,⟨v,o1,by rw [hmk];exact o2⟩,J1.bo,J1.ba,J1.bb,J1.lp⟩
 ·rintro v X J
  obtain ⟨w,o1,o2⟩:=J.out
  have hfull:(y7a a b).take (y7a a b).length=y7a a b:=List.take_length
  rw [hfull] at o2
  refine .inl ⟨J.lp,?_⟩
  simp
  apply jA
  have hd:∀j,j≠H.next+4→(X.del (H.next+4)).get j=X.get j:=fun j h=>by simp only [Hp.del];rw [if_neg h]
  have b1:(X.del (H.next+1+1+1+1)).get (H.next+1)=some (.cells [.p (some (H.next,0,1))] 1):=(hd _ (by omega)).trans J.bo
  simp [y1y.r8,b1]
  apply jD
  simp
  have nx:=J.nx
  refine ⟨⟨by simp only [Hp.del];omega,fun i blk h=>(hd i (by have:=hlt _ _ h;omega)).trans (J.ext i blk h)⟩,fun i blk h=>?_,w,(hd _ (by omega)).trans o1,?_⟩
  ·by_cases hi:i=H.next+4
   ·subst hi;simp [Hp.del] at h
   ·exact J.lt i blk ((hd i hi).symm.trans h)
  ·rcases o2 with ⟨e,z,rfl⟩ | ⟨id,m,h1,rfl,g,hm⟩
   ·exact .inl ⟨e,z,rfl⟩
   ·exact .inr ⟨id,m,by omega,rfl,(hd _ (by omega)).trans g,hm⟩
theorem yi8 {x y:Nat} (hx:x<18446744073709551616) (hy:y<18446744073709551616):(x ||| y)<18446744073709551616:=Nat.or_lt_two_pow (n:=64) hx hy
theorem Join1_ok (x y:Nat) (hx:x<18446744073709551616) (hy:y<18446744073709551616) (X:Hp):AC Tryz.prog y7j [.i .u64 (x:Nat),.i .u64 (y:Nat)] X (fun v X'=>v=.i .u64 ((x ||| y:Nat):Nat)∧X'=X):=by
 refine AC.code y2v.at y2v.ok ?_
 simp only [y2v]
 apply jA
 simp [y2v.r0]
 apply jA
 simp [y2v.r1,bOr64 hx hy]
 apply jD
 simp
abbrev orB (a b:List Bk):List Bk:=yct (· ||| ·) (y7a a b)
theorem orB_ok {a b:List Bk} (ha:OkB a) (hb:OkB b):OkB (orB a b):=mk_ok (fun x y hx hy=>yi8 hx hy) ha hb
set_option maxHeartbeats 1000000 in
theorem BJoin_ok (ids ofs ms idt oft mt:Nat) (css cst:List V) (va vb:V) (a b:List Bk) (H:Hp) (hlt:Hp.Lt H) (ha:OkB a) (hb:OkB b)
  (gs:H.get ids=some (.cells css ms)) (hms:ms≤css.length) (hvs:css[ofs]?=some va) (ra:RowB H va a) (gt:H.get idt=some (.cells cst mt)) (hmt:mt≤cst.length) (hvt:cst[oft]?=some vb) (rb:RowB H vb b):
  AC Tryz.prog y8i [.p (some (ids,ofs,css.length)),.p (some (idt,oft,cst.length))] H (fun r X=>r=.i .i64 (((elB (orB a b)).length:Int)-((elB a).length:Int))∧Hp.Lt X∧H.next≤X.next∧
   (∀k blk,k≠ids→H.get k=some blk→X.get k=some blk)∧∃v,X.get ids=some (.cells (css.set ofs v) css.length)∧y78 H.next X v (orB a b)):=by
 have hos:=(List.getElem?_eq_some_iff.1 hvs).1
 have ns:=hlt _ _ gs
 have hO:=orB_ok ha hb
 have l1:=ybg a
 have l2:=ybg (orB a b)
 have la:=ha.len
 have lo:=hO.len
 refine AC.code y24.at y24.ok ?_
 simp only [y24]
 apply jA
 simp [y24.r0]
 apply jB
 simp [y24.r1]
 refine jF rfl (AX.skip ?_)
 simp
 apply jA
 simp [y24.r3]
 refine AC.fix (yq3 ids ofs ms css va a H gs hms hvs ra ha) ?_
 simp
 apply jA
 simp [y24.r4]
 refine (made_ok ids ofs ms idt oft mt css cst va vb a b y7j (· ||| ·) H hlt ha hb gs hms hvs ra gt hmt hvt rb (fun x y hx hy=>yi8 hx hy) (fun x y hx hy X=>Join1_ok x y hx hy X)).mono ?_
 rintro r X ⟨rfl,hx,hxl,v,g0,ho⟩
 have gs':=hx.2 _ _ gs
 obtain ⟨p,z,hv⟩:=ho.row.len
 subst hv
 simp [g0,gs',show ofs+1≤css.length by omega]
 have hset:(css.set ofs (.sl p (orB a b).length z)).length=css.length:=List.length_set
 have hx1:=Hp.upd_lt hxl (k:=ids) (by have:=hx.1;omega) (.cells (css.set ofs (.sl p (orB a b).length z)) css.length)
 have own:y78 H.next (X.upd ids (.cells (css.set ofs (.sl p (orB a b).length z)) css.length)) (.sl p (orB a b).length z) (orB a b):=by
  have:=ho.to (X':=X.upd ids (.cells (css.set ofs (.sl p (orB a b).length z)) css.length)) fun i blk hi h=>by simp [show i≠ids by omega,h]
  rcases this with h | ⟨id,m,h1,h2,h3,h4⟩
  ·exact .inl h
  ·exact .inr ⟨id,m,by omega,h2,h3,h4⟩
 apply jA
 simp [y24.r5]
 have hl:=yq3 ids ofs css.length (css.set ofs (.sl p (orB a b).length z)) (.sl p (orB a b).length z) (orB a b) (X.upd ids (.cells (css.set ofs (.sl p (orB a b).length z)) css.length)) (by simp) (by simp) (by simp [hos]) own.row hO
 rw [hset] at hl
 refine AC.fix hl ?_
 have hw:Go.IntKind.i64.wrap (((elB (orB a b)).length:Int)-((elB a).length:Int))=((elB (orB a b)).length:Int)-((elB a).length:Int):=by
  rw [wrap_i64 (by omega) (by omega)]
 simp [hw]
 apply jD
 simp
 refine ⟨hx1,hx.1,fun k blk hk h=>?_,_,rfl,own⟩
 simp [hk]
 exact hx.2 _ _ h
open Go Go.RowKit Go.Shelf Go.Lib Go.Proofs
theorem y6r {P:Program} (w:World) (dT sT ty elem:TypeId) (k b o dLen dCap:Nat) (a:Addr) (sLen sCap:Nat) (n:Nat) (cs:List Value)
  (hu:P.underlying dT=some (.slice elem)) (hs:(P.info? elem).map (·.size)=some k) (hn:n=Nat.min sLen dLen) (hl0:cs.length=n*k)
  (hsrc:∀j v,cs[j]?=some v→w.cell? (a.add j)=some v) (hc:∀j,j<cs.length→(w.cell? ⟨b,o+j,none⟩).isSome=true) (hf:∀j,j<cs.length→w.frozen? ⟨b,o+j,none⟩=false) (h1:∀v∈cs,v.oneCell'=true):
  (Builtin.copy_ #[dT,sT] ty #[.slice (some ⟨b,o,none⟩) dLen dCap,.slice (some a) sLen sCap]).run P w=.ok (goInt n) (w.setCells b o cs):=by
 have hl:=run_loadCells_list (P:=P) w a cs hsrc
 have hst:=run_storeCells_cells (P:=P) b o cs 0 w (by simpa using hc) (by simpa using hf) h1
 cases hq:P.info? elem with
 | none=>simp [hq] at hs
 | some i=>
  have hi:i.size=k:=by simpa [hq] using hs
  simp [Builtin.copy_,run_underlying hu,Builtin.lenOf,Builtin.firstCells,sizeOf,typeInfo,hq,hi,←hn,←hl0,hl,hst]
theorem infoB:(Tryz.prog.info? 149).map (fun i=>(i.zero,i.size,i.bytes))=some (some (.agg #[.int .i64 0,.int .u64 0]),2,16):=by kernel_rfl
theorem sizeB:(Tryz.prog.info? 149).map (·.size)=some 2:=by kernel_rfl
theorem y8d (k:Nat):(Builtin.zeroCells (Value.cells (.agg #[.int .i64 0,.int .u64 0])) k).size=k*2:=by simp [Builtin.zeroCells,Value.cells]
set_option maxHeartbeats 4000000 in
set_option maxRecDepth 100000 in
theorem yfv (b off n c vb voff m vc:Nat) (vs:List Value) (w:World) (hm:0<m) (hroom:n+m≤c) (hc63:c≤9223372036854775807)
  (hvl:vs.length=m*2) (hsp:∀j,j<m*2→(w.cell? ⟨b,off+n*2+j,none⟩).isSome=true) (hfz:∀j,j<m*2→w.frozen? ⟨b,off+n*2+j,none⟩=false)
  (hvs:∀j v,vs[j]?=some v→w.cell? ⟨vb,voff+j,none⟩=some v) (h1v:∀v∈vs,v.oneCell'=true):
  Calls Tryz.prog 156 #[.slice (some ⟨b,off,none⟩) n c,.int .i64 n,.slice (some ⟨vb,voff,none⟩) m vc] w fun e w'=>
   e=.returned (.slice (some ⟨b,off,none⟩) (n+m) c)∧w'=w.setCells b (off+n*2) vs:=by
 obtain ⟨i0,hi0,hz0,hzs,hzb⟩:=info_parts infoB
 have mixed:Tryz.prog.follows .mixedOrders=true:=by kernel_rfl
 have hz1:¬((m:Int)=0):=by omega
 have hsrc:Src Tryz.prog i0.size 146 (.slice (some ⟨vb,voff,none⟩) m vc) m vs w:=by rw [hzs];exact Src.ofSlice w Tryz.underlying146 ⟨vb,voff,none⟩ m vc vs (by omega) (fun j u hj=>by rw [Addr.add_lit];exact hvs j u hj) h1v
 go_enter Tryz.func156,Tryz.ntmps156
 go_wp2_with (at_builtin;refine wpList_append_room_src _ rfl _ _ 146 146 rfl 149 i0 Tryz.underlying146 hi0 b off n c rfl _ rfl m vs hsrc hroom (by rw [hvl,hzs];exact hsp) (by rw [hvl,hzs];exact hfz) ?_)
 go_ret
 exact ⟨rfl,rfl⟩
set_option maxHeartbeats 4000000 in
set_option maxRecDepth 100000 in
theorem yby (base:Option Addr) (n c vb voff m vc:Nat) (cs vs:List Value) (w:World) (hm:0<m) (hnc:n≤c) (hroom:c<n+m) (hbig:(n+m)*16≤140737488355328)
  (hcl:cs.length=n*2) (hvl:vs.length=m*2) (hnil:base=none→n=0)
  (hcs:∀a,base=some a→∀j v,cs[j]?=some v→w.cell? (a.add j)=some v)
  (hvs:∀j v,vs[j]?=some v→w.cell? ⟨vb,voff+j,none⟩=some v) (h1v:∀v∈vs,v.oneCell'=true):
  Calls Tryz.prog 156 #[.slice base n c,.int .i64 n,.slice (some ⟨vb,voff,none⟩) m vc] w fun e w'=>
   e=.returned (.slice (some ⟨w.heap.size,0,none⟩) (n+m) (grownCap w (n+m) c 149))∧
   w'=w.drew.alloc (.cells ((cs++vs).toArray++Builtin.zeroCells (Value.cells (.agg #[.int .i64 0,.int .u64 0])) (grownCap w (n+m) c 149-(n+m))) 149):=by
 obtain ⟨i0,hi0,hz0,hzs,hzb⟩:=info_parts infoB
 have mixed:Tryz.prog.follows .mixedOrders=true:=by kernel_rfl
 have hz1:¬((m:Int)=0):=by omega
 have hsrc:Src Tryz.prog i0.size 146 (.slice (some ⟨vb,voff,none⟩) m vc) m vs w:=by
  rw [hzs]
  exact Src.ofSlice w Tryz.underlying146 ⟨vb,voff,none⟩ m vc vs (by omega) (fun j u hj=>by rw [Addr.add_lit];exact hvs j u hj) h1v
 have hold:(Builtin.firstCells i0.size n (.slice base n c)).run Tryz.prog w.drew=.ok cs.toArray w.drew:=by
  rw [hzs]
  cases base with
  | none=>
   have h0:=hnil rfl
   subst h0
   have:cs=[]:=List.length_eq_zero_iff.1 (by simpa using hcl)
   rw [this]
   exact run_firstCells_none w.drew 2 0 0 c
  | some a=>exact run_firstCells_some w.drew 2 n a n c cs (by omega) (fun j v hj=>hcs a rfl j v hj)
 have hrun:∀ty,(Builtin.append_ #[146,146] ty #[.slice base n c,.slice (some ⟨vb,voff,none⟩) m vc]).run Tryz.prog w=_:=fun ty=>
  run_append_grow_src w 146 146 ty 149 i0 _ Tryz.underlying146 hi0 hz0 base n c cs hold _ m vs hsrc hroom (by omega) (by rw [hzb];exact growslice_fits hroom hbig)
 go_enter Tryz.func156,Tryz.ntmps156
 cases base with
 | none=>
  have h0:=hnil rfl
  subst h0
  go_wp2_with (at_builtin;refine Lib.wpList_append_run _ rfl _ _ _ _ rfl _ _ rfl rfl _ _ (hrun _) ?_)
  go_ret
  exact ⟨rfl,rfl⟩
 | some a=>
  obtain ⟨ab,ao,asp⟩:=a
  go_wp2_with (at_builtin;refine Lib.wpList_append_run _ rfl _ _ _ _ rfl _ _ rfl rfl _ _ (hrun _) ?_)
  all_goals (go_ret;exact ⟨rfl,rfl⟩)
set_option maxHeartbeats 4000000 in
set_option maxRecDepth 100000 in
theorem yl2 (b off n c i vb voff m vc:Nat) (cs vs:List Value) (w:World) (hi:i<n) (hm:0<m) (hroom:n+m≤c) (hc63:c≤9223372036854775807) (hvb:vb≠b)
  (hcl:cs.length=n*2) (hvl:vs.length=m*2)
  (hcs:∀j v,cs[j]?=some v→w.cell? ⟨b,off+j,none⟩=some v) (hsp:∀j,j<(n+m)*2→(w.cell? ⟨b,off+j,none⟩).isSome=true) (hfz:∀j,j<(n+m)*2→w.frozen? ⟨b,off+j,none⟩=false)
  (hvs:∀j v,vs[j]?=some v→w.cell? ⟨vb,voff+j,none⟩=some v) (h1c:∀v∈cs,v.oneCell'=true) (h1v:∀v∈vs,v.oneCell'=true)
  (tA tB:TypeId) (kA kB:Nat) (hsa:w.shape? vb=some (tA,kA)) (hsb:w.shape? b=some (tB,kB)) (hkB:kB≠0) (hfa:w.frozen? ⟨vb,voff,none⟩=false) (hfe:w.frozen? ⟨vb,kA,none⟩=false):
  Calls Tryz.prog 156 #[.slice (some ⟨b,off,none⟩) n c,.int .i64 i,.slice (some ⟨vb,voff,none⟩) m vc] w fun e w'=>
   e=.returned (.slice (some ⟨b,off,none⟩) (n+m) c)∧w'=(w.drew.setCells b (off+(i+m)*2) (cs.drop (i*2))).setCells b (off+i*2) vs:=by
 have u0:=run_underlying Tryz.underlying0;have u3:=run_underlying Tryz.underlying3;have u4:=run_underlying Tryz.underlying4;have u9:=run_underlying Tryz.underlying149;have u24:=run_underlying Tryz.underlying146
 have mixed:Tryz.prog.follows .mixedOrders=true:=by kernel_rfl
 have hz1:¬((m:Int)=0):=by omega
 have hz2:¬((i:Int)=(n:Int)):=by omega
 have hov:∀lb cb,(callFunc 217 #[.slice (some ⟨vb,voff,none⟩) m vc,.slice (some ⟨b,off+(i+m)*2,none⟩) lb cb]).run Tryz.prog w=.ok (.value (.bool false)) w:=fun lb cb=>by
  rw [run_callFunc_extern Tryz.func217 (by kernel_rfl) (by kernel_rfl) (by kernel_rfl) (e:=Extern.SlicesOverlaps.overlaps #[146,146] #[4]) (by kernel_rfl),
   Lib.run_overlaps_apart w 146 4 149 Tryz.underlying146 2 Tryz.sizeOf149 ⟨vb,voff,none⟩ ⟨b,off+(i+m)*2,none⟩ m vc lb cb hvb tA tB kA kB hsa hsb hkB hfa hfe]
  rfl
 have hdl:(cs.drop (i*2)).length=(n-i)*2:=by rw [List.length_drop,hcl];omega
 have hw1:IntKind.i64.wrap ((i:Int)+(m:Int))=(i:Int)+(m:Int):=by rw [IntKind.wrap_i64];omega
 have hb1:(0:Int)≤(i:Int)+(m:Int):=by omega
 have hin:i≤n:=by omega
 have htn:((i:Int)+(m:Int)).toNat=i+m:=by omega
 have hb2:¬(c=i+m):=by omega
 have hb3:(i:Int)≤(n:Int)+(m:Int):=by omega
 have hb4:¬(c=i):=by omega
 have hcp1:∀ty dc sc,(Builtin.copy_ #[146,146] ty #[.slice (some ⟨b,off+(i+m)*2,none⟩) (n+m-(i+m)) dc,.slice (some ⟨b,off+i*2,none⟩) (n+m-i) sc]).run Tryz.prog w.drew=.ok (goInt ((n-i:Nat):Int)) (w.drew.setCells b (off+(i+m)*2) (cs.drop (i*2))):=fun ty dc sc=>
  y6r w.drew _ _ ty 149 2 b (off+(i+m)*2) (n+m-(i+m)) dc ⟨b,off+i*2,none⟩ (n+m-i) sc (n-i) (cs.drop (i*2)) Tryz.underlying146 sizeB (by simp only [Nat.min_def];split <;> omega) hdl
   (fun j v hj=>by rw [Addr.add_lit,ki];exact hcs (i*2+j) v (by rwa [List.getElem?_drop] at hj))
   (fun j hj=>by rw [ki];exact hsp _ (by omega)) (fun j hj=>by rw [ki];exact hfz _ (by omega)) (fun v hv=>h1c v (List.mem_of_mem_drop hv))
 obtain ⟨W1,hW1⟩:∃W1,W1=w.drew.setCells b (off+(i+m)*2) (cs.drop (i*2)):=⟨_,rfl⟩
 have hsp1:∀k,k<(n+m)*2→(W1.cell? ⟨b,off+k,none⟩).isSome=true:=fun k hk=>by
  rw [hW1]
  exact isSome_setCells b _ _ _ (fun j hj=>by rw [ki];exact hsp _ (by omega)) _ (hsp k hk)
 have hcp2:∀(W:World),(∀x,W.cell? x=W1.cell? x)→(∀x,W.frozen? x=W1.frozen? x)→∀ty dc,(Builtin.copy_ #[146,146] ty #[.slice (some ⟨b,off+i*2,none⟩) (n+m-i) dc,.slice (some ⟨vb,voff,none⟩) m vc]).run Tryz.prog W=.ok (goInt m) (W.setCells b (off+i*2) vs):=fun W hWc hWf ty dc=>
  y6r W _ _ ty 149 2 b (off+i*2) (n+m-i) dc ⟨vb,voff,none⟩ m vc m vs Tryz.underlying146 sizeB (by simp only [Nat.min_def];split <;> omega) hvl
   (fun j v hj=>by
    rw [Addr.add_lit,hWc,hW1,World.cell?_setCells_out b _ _ _ _ (fun h _=>absurd h hvb)]
    exact hvs j v hj)
   (fun j hj=>by rw [hWc,ki];exact hsp1 _ (by omega)) (fun j hj=>by rw [hWf,hW1,World.frozen?_setCells,ki];exact hfz _ (by omega)) h1v
 rw [←hW1] at hcp1
 go_enter Tryz.func156,Tryz.ntmps156
 go_wp2_with (simp only [hov])
 go_region_law_o (refine step_copy_runI rfl _ _ 146 146 rfl _ _ (by simp [Act.eval,Act.put]) (by simp [Act.eval,Act.put]) (hcp1 _ _ _) ?_)
 go_wp2_with (at_builtin;refine wpList_copy_runI _ rfl _ _ 146 146 rfl _ _ rfl rfl (hcp2 _ (fun _=>rfl) (fun _=>rfl) _ _) ?_)
 go_ret
 first | exact ⟨rfl,rfl⟩ | exact ⟨rfl,by rw [hW1]⟩
set_option maxHeartbeats 4000000 in
set_option maxRecDepth 100000 in
theorem yo1 (b off n c i vb voff m vc:Nat) (cs vs:List Value) (w:World) (hi:i<n) (hm:0<m) (hnc:n≤c) (hroom:c<n+m) (hbig:(n+m)*16≤140737488355328)
  (hcl:cs.length=n*2) (hvl:vs.length=m*2)
  (hcs:∀j v,cs[j]?=some v→w.cell? ⟨b,off+j,none⟩=some v)
  (hvs:∀j v,vs[j]?=some v→w.cell? ⟨vb,voff+j,none⟩=some v) (h1c:∀v∈cs,v.oneCell'=true) (h1v:∀v∈vs,v.oneCell'=true):
  Calls Tryz.prog 156 #[.slice (some ⟨b,off,none⟩) n c,.int .i64 i,.slice (some ⟨vb,voff,none⟩) m vc] w fun e w'=>
   e=.returned (.slice (some ⟨w.heap.size,0,none⟩) (n+m) (grownCap w (n+m) c 149))∧
   w'=(((w.alloc (.cells ((cs.take (i*2)).toArray++Builtin.zeroCells (Value.cells (.agg #[.int .i64 0,.int .u64 0])) (n+m-i)++Builtin.zeroCells (Value.cells (.agg #[.int .i64 0,.int .u64 0])) (grownCap w (n+m) c 149-(n+m))) 149)).drew.setCells w.heap.size (i*2) vs).drew).setCells w.heap.size ((i+m)*2) (cs.drop (i*2)):=by
 have u0:=run_underlying Tryz.underlying0;have u3:=run_underlying Tryz.underlying3;have u4:=run_underlying Tryz.underlying4;have u9:=run_underlying Tryz.underlying149;have u24:=run_underlying Tryz.underlying146
 obtain ⟨i0,hi0,hz0,hzs,hzb⟩:=info_parts infoB
 have mixed:Tryz.prog.follows .mixedOrders=true:=by kernel_rfl
 have hz1:¬((m:Int)=0):=by omega
 have hz2:¬((i:Int)=(n:Int)):=by omega
 have hz3:(c:Int)<(n:Int)+(m:Int):=by omega
 have hbw:b<w.heap.size:=block_lt_of_cell (hcs 0 _ (kC (by omega)))
 have hvw:vb<w.heap.size:=block_lt_of_cell (hvs 0 _ (kC (by omega)))
 have hkk:(n:Int)+(m:Int)-(i:Int)=((n+m-i:Nat):Int):=by omega
 have hik:i+(n+m-i)=n+m:=by omega
 have hold:(Builtin.firstCells i0.size i (.slice (some ⟨b,off,none⟩) i c)).run Tryz.prog w.drew=.ok (cs.take (i*2)).toArray w.drew:=by
  rw [hzs]
  exact run_firstCells_some w.drew 2 i ⟨b,off,none⟩ i c (cs.take (i*2)) (by rw [List.length_take];omega) (fun j v hj=>by
   rw [Addr.add_lit]
   rw [kj] at hj
   split at hj
   ·exact hcs j v hj
   ·cases hj)
 have hrz:∀ty,(Builtin.append_ #[146,3] ty #[.slice (some ⟨b,off,none⟩) i c,.int .i64 ((n:Int)+(m:Int)-(i:Int))]).run Tryz.prog w =
   .ok (.slice (some ⟨w.heap.size,0,none⟩) (n+m) (grownCap w (n+m) c 149)) (w.drew.alloc (.cells ((cs.take (i*2)).toArray++Builtin.zeroCells (Value.cells (.agg #[.int .i64 0,.int .u64 0])) (n+m-i)++Builtin.zeroCells (Value.cells (.agg #[.int .i64 0,.int .u64 0])) (grownCap w (n+m) c 149-(n+m))) 149)):=fun ty=>by
  have h:=Lib.run_append_grow_zeros w 146 3 ty 149 i0 _ .i64 .i64 Tryz.underlying146 Tryz.underlying3 hi0 hz0 (some ⟨b,off,none⟩) i c (cs.take (i*2)) hold (n+m-i) (by omega) (by omega) (by omega) (by omega) (by rw [hzb];omega) (by rw [hzb,hik];exact growslice_fits hroom hbig)
  rw [hik] at h
  rw [hkk]
  exact h
 obtain ⟨G,hG⟩:∃G,G=grownCap w (n+m) c 149:=⟨_,rfl⟩
 obtain ⟨ROW,hROW⟩:∃ROW:Array Value,ROW=(cs.take (i*2)).toArray++Builtin.zeroCells (Value.cells (.agg #[.int .i64 0,.int .u64 0])) (n+m-i)++Builtin.zeroCells (Value.cells (.agg #[.int .i64 0,.int .u64 0])) (G-(n+m)):=⟨_,rfl⟩
 rw [←hG] at hrz ⊢
 rw [←hROW] at hrz ⊢
 have hzc:∀k,(Builtin.zeroCells (Value.cells (.agg #[.int .i64 0,.int .u64 0])) k).size=k*2:=fun k=>y8d k
 have hRl:(n+m)*2≤ROW.size:=by
  rw [hROW]
  simp only [Array.size_append,hzc,List.size_toArray,List.length_take]
  omega
 obtain ⟨W1,hW1⟩:∃W1,W1=w.drew.alloc (.cells ROW 149):=⟨_,rfl⟩
 rw [←hW1] at hrz
 have hN:∀j,j<(n+m)*2→(W1.cell? ⟨w.heap.size,j,none⟩).isSome=true:=fun j hj=>by
  rw [hW1,World.cell?_alloc_at (w:=w.drew) ROW _ w.heap.size j rfl,Array.getElem?_eq_getElem (by omega)];rfl
 have hNf:∀j,W1.frozen? ⟨w.heap.size,j,none⟩=false:=fun j=>by rw [hW1];exact World.frozen?_alloc_at (w:=w.drew) ROW _ w.heap.size j rfl
 have hOb:∀j v,w.cell? ⟨b,j,none⟩=some v→W1.cell? ⟨b,j,none⟩=some v:=fun j v h=>by rw [hW1,World.cell?_alloc_past (w:=w.drew) _ b j hbw];exact h
 have hOv:∀j v,w.cell? ⟨vb,j,none⟩=some v→W1.cell? ⟨vb,j,none⟩=some v:=fun j v h=>by rw [hW1,World.cell?_alloc_past (w:=w.drew) _ vb j hvw];exact h
 have hcpA:∀(W:World),(∀x,W.cell? x=W1.cell? x)→(∀x,W.frozen? x=W1.frozen? x)→∀ty dc,(Builtin.copy_ #[146,146] ty #[.slice (some ⟨w.heap.size,i*2,none⟩) (n+m-i) dc,.slice (some ⟨vb,voff,none⟩) m vc]).run Tryz.prog W=.ok (goInt m) (W.setCells w.heap.size (i*2) vs):=fun W hWc hWf ty dc=>
  y6r W _ _ ty 149 2 w.heap.size (i*2) (n+m-i) dc ⟨vb,voff,none⟩ m vc m vs Tryz.underlying146 sizeB (by simp only [Nat.min_def];split <;> omega) hvl
   (fun j v hj=>by rw [Addr.add_lit,hWc];exact hOv _ v (hvs j v hj))
   (fun j hj=>by rw [hWc];exact hN _ (by omega)) (fun j hj=>by rw [hWf];exact hNf _) h1v
 have hGn:n+m≤G:=by rw [hG];exact grownCap_ge w _ _ _
 have hG63:G≤9223372036854775807:=by
  have:=grownCap_le_maxLen w (n+m) c 149 (by unfold maxLen;omega)
  rw [←hG] at this
  unfold maxLen at this
  omega
 have hGi:¬(G=i):=by omega
 have hGim:¬(G=i+m):=by omega
 have hci:¬(c=i):=by omega
 have hbN:b≠w.heap.size:=by omega
 have hdl:(cs.drop (i*2)).length=(n-i)*2:=by rw [List.length_drop,hcl];omega
 have hcpB:∀(W:World),(∀x,W.cell? x=(W1.setCells w.heap.size (i*2) vs).cell? x)→(∀x,W.frozen? x=(W1.setCells w.heap.size (i*2) vs).frozen? x)→∀ty dc sc,(Builtin.copy_ #[146,146] ty #[.slice (some ⟨w.heap.size,(i+m)*2,none⟩) (n+m-(i+m)) dc,.slice (some ⟨b,off+i*2,none⟩) (n-i) sc]).run Tryz.prog W=.ok (goInt ((n-i:Nat):Int)) (W.setCells w.heap.size ((i+m)*2) (cs.drop (i*2))):=fun W hWc hWf ty dc sc=>
  y6r W _ _ ty 149 2 w.heap.size ((i+m)*2) (n+m-(i+m)) dc ⟨b,off+i*2,none⟩ (n-i) sc (n-i) (cs.drop (i*2)) Tryz.underlying146 sizeB (by simp only [Nat.min_def];split <;> omega) hdl
   (fun j v hj=>by
    rw [Addr.add_lit,hWc,World.cell?_setCells_out _ _ _ _ _ (fun h _=>absurd h hbN),ki]
    exact hOb _ v (hcs (i*2+j) v (by rwa [List.getElem?_drop] at hj)))
   (fun j hj=>by rw [hWc];exact isSome_setCells _ _ _ _ (fun t ht=>hN _ (by omega)) _ (hN _ (by omega)))
   (fun j hj=>by rw [hWf,World.frozen?_setCells];exact hNf _) (fun v hv=>h1c v (List.mem_of_mem_drop hv))
 subst hW1
 have hE1:∀x,((w.alloc (.cells ROW 149)).drew).cell? x=(w.drew.alloc (.cells ROW 149)).cell? x:=fun x=>rfl
 have hE2:∀x,((w.alloc (.cells ROW 149)).drew).frozen? x=(w.drew.alloc (.cells ROW 149)).frozen? x:=fun x=>rfl
 have hF1:∀x,(((w.alloc (.cells ROW 149)).drew.setCells w.heap.size (i*2) vs).drew).cell? x=((w.drew.alloc (.cells ROW 149)).setCells w.heap.size (i*2) vs).cell? x:=fun x=>rfl
 have hF2:∀x,(((w.alloc (.cells ROW 149)).drew.setCells w.heap.size (i*2) vs).drew).frozen? x=((w.drew.alloc (.cells ROW 149)).setCells w.heap.size (i*2) vs).frozen? x:=fun x=>rfl
 have hw1:IntKind.i64.wrap ((i:Int)+(m:Int))=(i:Int)+(m:Int):=by rw [IntKind.wrap_i64];omega
 have hb1:(0:Int)≤(i:Int)+(m:Int):=by omega
 have hin:i≤n:=by omega
 have htn:((i:Int)+(m:Int)).toNat=i+m:=by omega
 have hb3:(i:Int)≤(n:Int):=by omega
 clear hkk hik hold hROW hG hRl
 go_enter Tryz.func156,Tryz.ntmps156
 go_wp2_with (first
  | (at_builtin;refine Lib.wpList_append_run _ rfl _ _ _ _ rfl _ _ rfl rfl _ _ (hrz _) ?_)
  | (at_builtin;refine wpList_copy_runI _ rfl _ _ 146 146 rfl _ _ rfl rfl (hcpA _ hE1 hE2 _ _) ?_)
  | (at_builtin;refine wpList_copy_runI _ rfl _ _ 146 146 rfl _ _ rfl rfl (hcpB _ (fun _=>rfl) (fun _=>rfl) _ _ _) ?_))
 go_region_law_o (refine step_copy_runI rfl _ _ 146 146 rfl (.slice (some ⟨w.heap.size,(i+m)*2,none⟩) (n+m-(i+m)) (G-(i+m))) (.slice (some ⟨b,off+i*2,none⟩) (n-i) (c-i)) (by simp [Act.eval,Act.put]) (by simp [Act.eval,Act.put]) (hcpB _ hF1 hF2 3 (G-(i+m)) (c-i)) ?_)
 go_wp2
 go_ret
 exact ⟨rfl,rfl⟩
end Go.Proofs.YtikpijbeobeckaaGreatDoor
