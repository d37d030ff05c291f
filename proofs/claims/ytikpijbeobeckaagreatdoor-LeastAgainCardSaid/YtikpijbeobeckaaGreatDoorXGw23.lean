/- Part 23. -/
import Derived.Test.YtikpijbeobeckaaGreatDoorXGw22
set_option linter.unusedSimpArgs false
set_option linter.unusedVariables false
namespace Go.Proofs.YtikpijbeobeckaaGreatDoor
open Go Go.RowKit Go.Shelf
open Am (Str)
set_option maxHeartbeats 4000000 in
set_option maxRecDepth 100000 in
theorem ymh (fn:Str) (nm:Str) (n:Int) (hfn:fn.length≤16) (hnm:nm.length≤16) (hn:0≤n∧n≤268435456) (w:World) (ht:Pow w):
  Calls Tryz.prog 150 #[.agg #[.int .i64 1,.string ⟨fn.toArray⟩,.int .i64 0,.string ⟨nm.toArray⟩,.int .i64 n,.int .i64 (-1)]] w fun e w'=>e=.returned (.string ⟨(y2w ⟨1,fn,0,nm,n,(-1)⟩).toArray⟩)∧RowKit.Below w.heap.size w w':=by
 have N0:NB w 1 fn 0 nm n (-1) [] _:=NB.first w ht
 have dn:(y4w n.toNat).length≤9:=y36 8 _ (by omega)
 go_enter Tryz.func150,Tryz.ntmps150
 have k0:=N0.str fn (by simp;omega)
 go_wp2_with (go_at_call 204;refine k0.mono ?_)
 rintro e W1 ⟨rfl,N1⟩
 obtain ⟨_,_,_,c0,c1,c2,c3,c4,c5,_,_⟩:=id N1
 have k1:=N1.byte 46 (by simp;omega)
 go_wp2_with (go_at_call 206;refine k1.mono ?_)
 rintro e W2 ⟨rfl,N2⟩
 obtain ⟨_,_,_,c0,c1,c2,c3,c4,c5,_,_⟩:=id N2
 have k2:=N2.str nm (by simp;omega)
 go_wp2_with (go_at_call 204;refine k2.mono ?_)
 rintro e W3 ⟨rfl,N3⟩
 obtain ⟨_,_,_,c0,c1,c2,c3,c4,c5,_,_⟩:=id N3
 have k3:=N3.done
 go_wp2_with (go_at_call 207;refine k3.mono ?_)
 rintro e W4 ⟨rfl,N4⟩
 go_wp2
 go_ret
 refine ⟨?_,N4⟩
 simp [y2w,y68,y5q,y84]
set_option maxHeartbeats 4000000 in
set_option maxRecDepth 100000 in
theorem ymg (fn:Str) (cp:Int) (nm:Str) (n:Int) (hfn:fn.length≤16) (hnm:nm.length≤16) (hn:0≤n∧n≤268435456) (hcp:0<cp) (hcp2:cp≤268435456) (w:World) (ht:Pow w):
  Calls Tryz.prog 150 #[.agg #[.int .i64 1,.string ⟨fn.toArray⟩,.int .i64 cp,.string ⟨nm.toArray⟩,.int .i64 n,.int .i64 (-1)]] w fun e w'=>e=.returned (.string ⟨(y2w ⟨1,fn,cp,nm,n,(-1)⟩).toArray⟩)∧RowKit.Below w.heap.size w w':=by
 have N0:NB w 1 fn cp nm n (-1) [] _:=NB.first w ht
 have dcp:(y4w cp.toNat).length≤9:=y36 8 _ (by omega)
 have dn:(y4w n.toNat).length≤9:=y36 8 _ (by omega)
 go_enter Tryz.func150,Tryz.ntmps150
 have k0:=N0.str fn (by simp;omega)
 go_wp2_with (go_at_call 204;refine k0.mono ?_)
 rintro e W1 ⟨rfl,N1⟩
 obtain ⟨_,_,_,c0,c1,c2,c3,c4,c5,_,_⟩:=id N1
 have k1:=N1.text cp (by omega) (by omega)
 go_wp2_with (go_at_call 205;refine k1.mono ?_)
 rintro e W2 ⟨rfl,N2⟩
 obtain ⟨_,_,_,c0,c1,c2,c3,c4,c5,_,_⟩:=id N2
 have k2:=N2.str ([126]++y4w cp.toNat) (by simp;omega)
 go_wp2_with (go_at_call 204;refine k2.mono ?_)
 rintro e W3 ⟨rfl,N3⟩
 obtain ⟨_,_,_,c0,c1,c2,c3,c4,c5,_,_⟩:=id N3
 have k3:=N3.byte 46 (by simp;omega)
 go_wp2_with (go_at_call 206;refine k3.mono ?_)
 rintro e W4 ⟨rfl,N4⟩
 obtain ⟨_,_,_,c0,c1,c2,c3,c4,c5,_,_⟩:=id N4
 have k4:=N4.str nm (by simp;omega)
 go_wp2_with (go_at_call 204;refine k4.mono ?_)
 rintro e W5 ⟨rfl,N5⟩
 obtain ⟨_,_,_,c0,c1,c2,c3,c4,c5,_,_⟩:=id N5
 have k5:=N5.done
 go_wp2_with (go_at_call 207;refine k5.mono ?_)
 rintro e W6 ⟨rfl,N6⟩
 go_wp2
 go_ret
 refine ⟨?_,N6⟩
 simp [y2w,y68,y5q,y84,hcp]
set_option maxHeartbeats 4000000 in
set_option maxRecDepth 100000 in
theorem ymf (fn:Str) (nm:Str) (n:Int) (hfn:fn.length≤16) (hnm:nm.length≤16) (hn:0≤n∧n≤268435456) (w:World) (ht:Pow w):
  Calls Tryz.prog 150 #[.agg #[.int .i64 2,.string ⟨fn.toArray⟩,.int .i64 0,.string ⟨nm.toArray⟩,.int .i64 n,.int .i64 (-1)]] w fun e w'=>e=.returned (.string ⟨(y2w ⟨2,fn,0,nm,n,(-1)⟩).toArray⟩)∧RowKit.Below w.heap.size w w':=by
 have N0:NB w 2 fn 0 nm n (-1) [] _:=NB.first w ht
 have dn:(y4w n.toNat).length≤9:=y36 8 _ (by omega)
 go_enter Tryz.func150,Tryz.ntmps150
 have k0:=N0.str fn (by simp;omega)
 go_wp2_with (go_at_call 204;refine k0.mono ?_)
 rintro e W1 ⟨rfl,N1⟩
 obtain ⟨_,_,_,c0,c1,c2,c3,c4,c5,_,_⟩:=id N1
 have k1:=N1.byte 36 (by simp;omega)
 go_wp2_with (go_at_call 206;refine k1.mono ?_)
 rintro e W2 ⟨rfl,N2⟩
 obtain ⟨_,_,_,c0,c1,c2,c3,c4,c5,_,_⟩:=id N2
 have k2:=N2.text n (by omega) (by omega)
 go_wp2_with (go_at_call 205;refine k2.mono ?_)
 rintro e W3 ⟨rfl,N3⟩
 obtain ⟨_,_,_,c0,c1,c2,c3,c4,c5,_,_⟩:=id N3
 have k3:=N3.str (y4w n.toNat) (by simp;omega)
 go_wp2_with (go_at_call 204;refine k3.mono ?_)
 rintro e W4 ⟨rfl,N4⟩
 obtain ⟨_,_,_,c0,c1,c2,c3,c4,c5,_,_⟩:=id N4
 have k4:=N4.done
 go_wp2_with (go_at_call 207;refine k4.mono ?_)
 rintro e W5 ⟨rfl,N5⟩
 go_wp2
 go_ret
 refine ⟨?_,N5⟩
 simp [y2w,y68,y5q,y84]
set_option maxHeartbeats 4000000 in
set_option maxRecDepth 100000 in
theorem yme (fn:Str) (cp:Int) (nm:Str) (n:Int) (hfn:fn.length≤16) (hnm:nm.length≤16) (hn:0≤n∧n≤268435456) (hcp:0<cp) (hcp2:cp≤268435456) (w:World) (ht:Pow w):
  Calls Tryz.prog 150 #[.agg #[.int .i64 2,.string ⟨fn.toArray⟩,.int .i64 cp,.string ⟨nm.toArray⟩,.int .i64 n,.int .i64 (-1)]] w fun e w'=>e=.returned (.string ⟨(y2w ⟨2,fn,cp,nm,n,(-1)⟩).toArray⟩)∧RowKit.Below w.heap.size w w':=by
 have N0:NB w 2 fn cp nm n (-1) [] _:=NB.first w ht
 have dcp:(y4w cp.toNat).length≤9:=y36 8 _ (by omega)
 have dn:(y4w n.toNat).length≤9:=y36 8 _ (by omega)
 go_enter Tryz.func150,Tryz.ntmps150
 have k0:=N0.str fn (by simp;omega)
 go_wp2_with (go_at_call 204;refine k0.mono ?_)
 rintro e W1 ⟨rfl,N1⟩
 obtain ⟨_,_,_,c0,c1,c2,c3,c4,c5,_,_⟩:=id N1
 have k1:=N1.text cp (by omega) (by omega)
 go_wp2_with (go_at_call 205;refine k1.mono ?_)
 rintro e W2 ⟨rfl,N2⟩
 obtain ⟨_,_,_,c0,c1,c2,c3,c4,c5,_,_⟩:=id N2
 have k2:=N2.str ([126]++y4w cp.toNat) (by simp;omega)
 go_wp2_with (go_at_call 204;refine k2.mono ?_)
 rintro e W3 ⟨rfl,N3⟩
 obtain ⟨_,_,_,c0,c1,c2,c3,c4,c5,_,_⟩:=id N3
 have k3:=N3.byte 36 (by simp;omega)
 go_wp2_with (go_at_call 206;refine k3.mono ?_)
 rintro e W4 ⟨rfl,N4⟩
 obtain ⟨_,_,_,c0,c1,c2,c3,c4,c5,_,_⟩:=id N4
 have k4:=N4.text n (by omega) (by omega)
 go_wp2_with (go_at_call 205;refine k4.mono ?_)
 rintro e W5 ⟨rfl,N5⟩
 obtain ⟨_,_,_,c0,c1,c2,c3,c4,c5,_,_⟩:=id N5
 have k5:=N5.str (y4w n.toNat) (by simp;omega)
 go_wp2_with (go_at_call 204;refine k5.mono ?_)
 rintro e W6 ⟨rfl,N6⟩
 obtain ⟨_,_,_,c0,c1,c2,c3,c4,c5,_,_⟩:=id N6
 have k6:=N6.done
 go_wp2_with (go_at_call 207;refine k6.mono ?_)
 rintro e W7 ⟨rfl,N7⟩
 go_wp2
 go_ret
 refine ⟨?_,N7⟩
 simp [y2w,y68,y5q,y84,hcp]
set_option maxHeartbeats 4000000 in
set_option maxRecDepth 100000 in
theorem ymd (fn:Str) (nm:Str) (n:Int) (hfn:fn.length≤16) (hnm:nm.length≤16) (hn:0≤n∧n≤268435456) (w:World) (ht:Pow w):
  Calls Tryz.prog 150 #[.agg #[.int .i64 3,.string ⟨fn.toArray⟩,.int .i64 0,.string ⟨nm.toArray⟩,.int .i64 n,.int .i64 (-1)]] w fun e w'=>e=.returned (.string ⟨(y2w ⟨3,fn,0,nm,n,(-1)⟩).toArray⟩)∧RowKit.Below w.heap.size w w':=by
 have N0:NB w 3 fn 0 nm n (-1) [] _:=NB.first w ht
 have dn:(y4w n.toNat).length≤9:=y36 8 _ (by omega)
 go_enter Tryz.func150,Tryz.ntmps150
 have k0:=N0.str fn (by simp;omega)
 go_wp2_with (go_at_call 204;refine k0.mono ?_)
 rintro e W1 ⟨rfl,N1⟩
 obtain ⟨_,_,_,c0,c1,c2,c3,c4,c5,_,_⟩:=id N1
 have k1:=N1.byte 64 (by simp;omega)
 go_wp2_with (go_at_call 206;refine k1.mono ?_)
 rintro e W2 ⟨rfl,N2⟩
 obtain ⟨_,_,_,c0,c1,c2,c3,c4,c5,_,_⟩:=id N2
 have k2:=N2.text n (by omega) (by omega)
 go_wp2_with (go_at_call 205;refine k2.mono ?_)
 rintro e W3 ⟨rfl,N3⟩
 obtain ⟨_,_,_,c0,c1,c2,c3,c4,c5,_,_⟩:=id N3
 have k3:=N3.str (y4w n.toNat) (by simp;omega)
 go_wp2_with (go_at_call 204;refine k3.mono ?_)
 rintro e W4 ⟨rfl,N4⟩
 obtain ⟨_,_,_,c0,c1,c2,c3,c4,c5,_,_⟩:=id N4
 have k4:=N4.done
 go_wp2_with (go_at_call 207;refine k4.mono ?_)
 rintro e W5 ⟨rfl,N5⟩
 go_wp2
 go_ret
 refine ⟨?_,N5⟩
 simp [y2w,y68,y5q,y84]
set_option maxHeartbeats 4000000 in
set_option maxRecDepth 100000 in
theorem ymc (fn:Str) (cp:Int) (nm:Str) (n:Int) (hfn:fn.length≤16) (hnm:nm.length≤16) (hn:0≤n∧n≤268435456) (hcp:0<cp) (hcp2:cp≤268435456) (w:World) (ht:Pow w):
  Calls Tryz.prog 150 #[.agg #[.int .i64 3,.string ⟨fn.toArray⟩,.int .i64 cp,.string ⟨nm.toArray⟩,.int .i64 n,.int .i64 (-1)]] w fun e w'=>e=.returned (.string ⟨(y2w ⟨3,fn,cp,nm,n,(-1)⟩).toArray⟩)∧RowKit.Below w.heap.size w w':=by
 have N0:NB w 3 fn cp nm n (-1) [] _:=NB.first w ht
 have dcp:(y4w cp.toNat).length≤9:=y36 8 _ (by omega)
 have dn:(y4w n.toNat).length≤9:=y36 8 _ (by omega)
 go_enter Tryz.func150,Tryz.ntmps150
 have k0:=N0.str fn (by simp;omega)
 go_wp2_with (go_at_call 204;refine k0.mono ?_)
 rintro e W1 ⟨rfl,N1⟩
 obtain ⟨_,_,_,c0,c1,c2,c3,c4,c5,_,_⟩:=id N1
 have k1:=N1.text cp (by omega) (by omega)
 go_wp2_with (go_at_call 205;refine k1.mono ?_)
 rintro e W2 ⟨rfl,N2⟩
 obtain ⟨_,_,_,c0,c1,c2,c3,c4,c5,_,_⟩:=id N2
 have k2:=N2.str ([126]++y4w cp.toNat) (by simp;omega)
 go_wp2_with (go_at_call 204;refine k2.mono ?_)
 rintro e W3 ⟨rfl,N3⟩
 obtain ⟨_,_,_,c0,c1,c2,c3,c4,c5,_,_⟩:=id N3
 have k3:=N3.byte 64 (by simp;omega)
 go_wp2_with (go_at_call 206;refine k3.mono ?_)
 rintro e W4 ⟨rfl,N4⟩
 obtain ⟨_,_,_,c0,c1,c2,c3,c4,c5,_,_⟩:=id N4
 have k4:=N4.text n (by omega) (by omega)
 go_wp2_with (go_at_call 205;refine k4.mono ?_)
 rintro e W5 ⟨rfl,N5⟩
 obtain ⟨_,_,_,c0,c1,c2,c3,c4,c5,_,_⟩:=id N5
 have k5:=N5.str (y4w n.toNat) (by simp;omega)
 go_wp2_with (go_at_call 204;refine k5.mono ?_)
 rintro e W6 ⟨rfl,N6⟩
 obtain ⟨_,_,_,c0,c1,c2,c3,c4,c5,_,_⟩:=id N6
 have k6:=N6.done
 go_wp2_with (go_at_call 207;refine k6.mono ?_)
 rintro e W7 ⟨rfl,N7⟩
 go_wp2
 go_ret
 refine ⟨?_,N7⟩
 simp [y2w,y68,y5q,y84,hcp]
set_option maxHeartbeats 4000000 in
set_option maxRecDepth 100000 in
theorem ymb (fn:Str) (nm:Str) (n:Int) (hfn:fn.length≤16) (hnm:nm.length≤16) (hn:0≤n∧n≤268435456) (w:World) (ht:Pow w):
  Calls Tryz.prog 150 #[.agg #[.int .i64 4,.string ⟨fn.toArray⟩,.int .i64 0,.string ⟨nm.toArray⟩,.int .i64 n,.int .i64 (-1)]] w fun e w'=>e=.returned (.string ⟨(y2w ⟨4,fn,0,nm,n,(-1)⟩).toArray⟩)∧RowKit.Below w.heap.size w w':=by
 have N0:NB w 4 fn 0 nm n (-1) [] _:=NB.first w ht
 have dn:(y4w n.toNat).length≤9:=y36 8 _ (by omega)
 go_enter Tryz.func150,Tryz.ntmps150
 have k0:=N0.str fn (by simp;omega)
 go_wp2_with (go_at_call 204;refine k0.mono ?_)
 rintro e W1 ⟨rfl,N1⟩
 obtain ⟨_,_,_,c0,c1,c2,c3,c4,c5,_,_⟩:=id N1
 have k1:=N1.byte 40 (by simp;omega)
 go_wp2_with (go_at_call 206;refine k1.mono ?_)
 rintro e W2 ⟨rfl,N2⟩
 obtain ⟨_,_,_,c0,c1,c2,c3,c4,c5,_,_⟩:=id N2
 have k2:=N2.byte 41 (by simp;omega)
 go_wp2_with (go_at_call 206;refine k2.mono ?_)
 rintro e W3 ⟨rfl,N3⟩
 obtain ⟨_,_,_,c0,c1,c2,c3,c4,c5,_,_⟩:=id N3
 have k3:=N3.done
 go_wp2_with (go_at_call 207;refine k3.mono ?_)
 rintro e W4 ⟨rfl,N4⟩
 go_wp2
 go_ret
 refine ⟨?_,N4⟩
 simp [y2w,y68,y5q,y84]
set_option maxHeartbeats 4000000 in
set_option maxRecDepth 100000 in
theorem yma (fn:Str) (cp:Int) (nm:Str) (n:Int) (hfn:fn.length≤16) (hnm:nm.length≤16) (hn:0≤n∧n≤268435456) (hcp:0<cp) (hcp2:cp≤268435456) (w:World) (ht:Pow w):
  Calls Tryz.prog 150 #[.agg #[.int .i64 4,.string ⟨fn.toArray⟩,.int .i64 cp,.string ⟨nm.toArray⟩,.int .i64 n,.int .i64 (-1)]] w fun e w'=>e=.returned (.string ⟨(y2w ⟨4,fn,cp,nm,n,(-1)⟩).toArray⟩)∧RowKit.Below w.heap.size w w':=by
 have N0:NB w 4 fn cp nm n (-1) [] _:=NB.first w ht
 have dcp:(y4w cp.toNat).length≤9:=y36 8 _ (by omega)
 have dn:(y4w n.toNat).length≤9:=y36 8 _ (by omega)
 go_enter Tryz.func150,Tryz.ntmps150
 have k0:=N0.str fn (by simp;omega)
 go_wp2_with (go_at_call 204;refine k0.mono ?_)
 rintro e W1 ⟨rfl,N1⟩
 obtain ⟨_,_,_,c0,c1,c2,c3,c4,c5,_,_⟩:=id N1
 have k1:=N1.text cp (by omega) (by omega)
 go_wp2_with (go_at_call 205;refine k1.mono ?_)
 rintro e W2 ⟨rfl,N2⟩
 obtain ⟨_,_,_,c0,c1,c2,c3,c4,c5,_,_⟩:=id N2
 have k2:=N2.str ([126]++y4w cp.toNat) (by simp;omega)
 go_wp2_with (go_at_call 204;refine k2.mono ?_)
 rintro e W3 ⟨rfl,N3⟩
 obtain ⟨_,_,_,c0,c1,c2,c3,c4,c5,_,_⟩:=id N3
 have k3:=N3.byte 40 (by simp;omega)
 go_wp2_with (go_at_call 206;refine k3.mono ?_)
 rintro e W4 ⟨rfl,N4⟩
 obtain ⟨_,_,_,c0,c1,c2,c3,c4,c5,_,_⟩:=id N4
 have k4:=N4.byte 41 (by simp;omega)
 go_wp2_with (go_at_call 206;refine k4.mono ?_)
 rintro e W5 ⟨rfl,N5⟩
 obtain ⟨_,_,_,c0,c1,c2,c3,c4,c5,_,_⟩:=id N5
 have k5:=N5.done
 go_wp2_with (go_at_call 207;refine k5.mono ?_)
 rintro e W6 ⟨rfl,N6⟩
 go_wp2
 go_ret
 refine ⟨?_,N6⟩
 simp [y2w,y68,y5q,y84,hcp]
set_option maxHeartbeats 4000000 in
set_option maxRecDepth 100000 in
theorem ym9 (fn:Str) (nm:Str) (n:Int) (hfn:fn.length≤16) (hnm:nm.length≤16) (hn:0≤n∧n≤268435456) (hf0:id (fn=[])) (w:World) (ht:Pow w):
  Calls Tryz.prog 150 #[.agg #[.int .i64 5,.string ⟨fn.toArray⟩,.int .i64 0,.string ⟨nm.toArray⟩,.int .i64 n,.int .i64 (-1)]] w fun e w'=>e=.returned (.string ⟨(y2w ⟨5,fn,0,nm,n,(-1)⟩).toArray⟩)∧RowKit.Below w.heap.size w w':=by
 have N0:NB w 5 fn 0 nm n (-1) [] _:=NB.first w ht
 have dn:(y4w n.toNat).length≤9:=y36 8 _ (by omega)
 go_enter Tryz.func150,Tryz.ntmps150
 have k0:=N0.str fn (by simp;omega)
 go_wp2_with (go_at_call 204;refine k0.mono ?_)
 rintro e W1 ⟨rfl,N1⟩
 obtain ⟨_,_,_,c0,c1,c2,c3,c4,c5,_,_⟩:=id N1
 have k1:=N1.str nm (by simp;omega)
 go_wp2_with (go_at_call 204;refine k1.mono ?_)
 rintro e W2 ⟨rfl,N2⟩
 obtain ⟨_,_,_,c0,c1,c2,c3,c4,c5,_,_⟩:=id N2
 have k2:=N2.done
 go_wp2_with (go_at_call 207;refine k2.mono ?_)
 rintro e W3 ⟨rfl,N3⟩
 go_wp2
 go_ret
 have hf:fn=[]:=hf0
 refine ⟨?_,N3⟩
 simp [y2w,y68,y5q,y84,hf]
set_option maxHeartbeats 4000000 in
set_option maxRecDepth 100000 in
theorem ym8 (fn:Str) (nm:Str) (n:Int) (cl:Int) (hfn:fn.length≤16) (hnm:nm.length≤16) (hn:0≤n∧n≤268435456) (hf0:id (fn=[])) (hcl:cl≠-1) (hcl2:0≤cl∧cl≤268435456) (w:World) (ht:Pow w):
  Calls Tryz.prog 150 #[.agg #[.int .i64 5,.string ⟨fn.toArray⟩,.int .i64 0,.string ⟨nm.toArray⟩,.int .i64 n,.int .i64 cl]] w fun e w'=>e=.returned (.string ⟨(y2w ⟨5,fn,0,nm,n,cl⟩).toArray⟩)∧RowKit.Below w.heap.size w w':=by
 have N0:NB w 5 fn 0 nm n cl [] _:=NB.first w ht
 have dn:(y4w n.toNat).length≤9:=y36 8 _ (by omega)
 have dcl:(y4w cl.toNat).length≤9:=y36 8 _ (by omega)
 go_enter Tryz.func150,Tryz.ntmps150
 have k0:=N0.str fn (by simp;omega)
 go_wp2_with (go_at_call 204;refine k0.mono ?_)
 rintro e W1 ⟨rfl,N1⟩
 obtain ⟨_,_,_,c0,c1,c2,c3,c4,c5,_,_⟩:=id N1
 have k1:=N1.str nm (by simp;omega)
 go_wp2_with (go_at_call 204;refine k1.mono ?_)
 rintro e W2 ⟨rfl,N2⟩
 obtain ⟨_,_,_,c0,c1,c2,c3,c4,c5,_,_⟩:=id N2
 have k2:=N2.text cl (by omega) (by omega)
 go_wp2_with (go_at_call 205;refine k2.mono ?_)
 rintro e W3 ⟨rfl,N3⟩
 obtain ⟨_,_,_,c0,c1,c2,c3,c4,c5,_,_⟩:=id N3
 have k3:=N3.str ([43]++y4w cl.toNat) (by simp;omega)
 go_wp2_with (go_at_call 204;refine k3.mono ?_)
 rintro e W4 ⟨rfl,N4⟩
 obtain ⟨_,_,_,c0,c1,c2,c3,c4,c5,_,_⟩:=id N4
 have k4:=N4.done
 go_wp2_with (go_at_call 207;refine k4.mono ?_)
 rintro e W5 ⟨rfl,N5⟩
 go_wp2
 go_ret
 have hf:fn=[]:=hf0
 refine ⟨?_,N5⟩
 simp [y2w,y68,y5q,y84,hcl2,hf]
set_option maxHeartbeats 4000000 in
set_option maxRecDepth 100000 in
theorem ym7 (fn:Str) (nm:Str) (n:Int) (hfn:fn.length≤16) (hnm:nm.length≤16) (hn:0≤n∧n≤268435456) (w:World) (ht:Pow w):
  Calls Tryz.prog 150 #[.agg #[.int .i64 6,.string ⟨fn.toArray⟩,.int .i64 0,.string ⟨nm.toArray⟩,.int .i64 n,.int .i64 (-1)]] w fun e w'=>e=.returned (.string ⟨(y2w ⟨6,fn,0,nm,n,(-1)⟩).toArray⟩)∧RowKit.Below w.heap.size w w':=by
 have N0:NB w 6 fn 0 nm n (-1) [] _:=NB.first w ht
 have dn:(y4w n.toNat).length≤9:=y36 8 _ (by omega)
 go_enter Tryz.func150,Tryz.ntmps150
 have k0:=N0.str fn (by simp;omega)
 go_wp2_with (go_at_call 204;refine k0.mono ?_)
 rintro e W1 ⟨rfl,N1⟩
 obtain ⟨_,_,_,c0,c1,c2,c3,c4,c5,_,_⟩:=id N1
 have k1:=N1.byte 37 (by simp;omega)
 go_wp2_with (go_at_call 206;refine k1.mono ?_)
 rintro e W2 ⟨rfl,N2⟩
 obtain ⟨_,_,_,c0,c1,c2,c3,c4,c5,_,_⟩:=id N2
 have k2:=N2.str nm (by simp;omega)
 go_wp2_with (go_at_call 204;refine k2.mono ?_)
 rintro e W3 ⟨rfl,N3⟩
 obtain ⟨_,_,_,c0,c1,c2,c3,c4,c5,_,_⟩:=id N3
 have k3:=N3.done
 go_wp2_with (go_at_call 207;refine k3.mono ?_)
 rintro e W4 ⟨rfl,N4⟩
 go_wp2
 go_ret
 refine ⟨?_,N4⟩
 simp [y2w,y68,y5q,y84]
set_option maxHeartbeats 4000000 in
set_option maxRecDepth 100000 in
theorem ym6 (fn:Str) (nm:Str) (n:Int) (cl:Int) (hfn:fn.length≤16) (hnm:nm.length≤16) (hn:0≤n∧n≤268435456) (hcl:cl≠-1) (hcl2:0≤cl∧cl≤268435456) (w:World) (ht:Pow w):
  Calls Tryz.prog 150 #[.agg #[.int .i64 6,.string ⟨fn.toArray⟩,.int .i64 0,.string ⟨nm.toArray⟩,.int .i64 n,.int .i64 cl]] w fun e w'=>e=.returned (.string ⟨(y2w ⟨6,fn,0,nm,n,cl⟩).toArray⟩)∧RowKit.Below w.heap.size w w':=by
 have N0:NB w 6 fn 0 nm n cl [] _:=NB.first w ht
 have dn:(y4w n.toNat).length≤9:=y36 8 _ (by omega)
 have dcl:(y4w cl.toNat).length≤9:=y36 8 _ (by omega)
 go_enter Tryz.func150,Tryz.ntmps150
 have k0:=N0.str fn (by simp;omega)
 go_wp2_with (go_at_call 204;refine k0.mono ?_)
 rintro e W1 ⟨rfl,N1⟩
 obtain ⟨_,_,_,c0,c1,c2,c3,c4,c5,_,_⟩:=id N1
 have k1:=N1.byte 37 (by simp;omega)
 go_wp2_with (go_at_call 206;refine k1.mono ?_)
 rintro e W2 ⟨rfl,N2⟩
 obtain ⟨_,_,_,c0,c1,c2,c3,c4,c5,_,_⟩:=id N2
 have k2:=N2.str nm (by simp;omega)
 go_wp2_with (go_at_call 204;refine k2.mono ?_)
 rintro e W3 ⟨rfl,N3⟩
 obtain ⟨_,_,_,c0,c1,c2,c3,c4,c5,_,_⟩:=id N3
 have k3:=N3.text cl (by omega) (by omega)
 go_wp2_with (go_at_call 205;refine k3.mono ?_)
 rintro e W4 ⟨rfl,N4⟩
 obtain ⟨_,_,_,c0,c1,c2,c3,c4,c5,_,_⟩:=id N4
 have k4:=N4.str ([43]++y4w cl.toNat) (by simp;omega)
 go_wp2_with (go_at_call 204;refine k4.mono ?_)
 rintro e W5 ⟨rfl,N5⟩
 obtain ⟨_,_,_,c0,c1,c2,c3,c4,c5,_,_⟩:=id N5
 have k5:=N5.done
 go_wp2_with (go_at_call 207;refine k5.mono ?_)
 rintro e W6 ⟨rfl,N6⟩
 go_wp2
 go_ret
 refine ⟨?_,N6⟩
 simp [y2w,y68,y5q,y84,hcl2]
set_option maxHeartbeats 4000000 in
set_option maxRecDepth 100000 in
theorem ym5 (fn:Str) (cp:Int) (nm:Str) (n:Int) (hfn:fn.length≤16) (hnm:nm.length≤16) (hn:0≤n∧n≤268435456) (hcp:0<cp) (hcp2:cp≤268435456) (w:World) (ht:Pow w):
  Calls Tryz.prog 150 #[.agg #[.int .i64 6,.string ⟨fn.toArray⟩,.int .i64 cp,.string ⟨nm.toArray⟩,.int .i64 n,.int .i64 (-1)]] w fun e w'=>e=.returned (.string ⟨(y2w ⟨6,fn,cp,nm,n,(-1)⟩).toArray⟩)∧RowKit.Below w.heap.size w w':=by
 have N0:NB w 6 fn cp nm n (-1) [] _:=NB.first w ht
 have dcp:(y4w cp.toNat).length≤9:=y36 8 _ (by omega)
 have dn:(y4w n.toNat).length≤9:=y36 8 _ (by omega)
 go_enter Tryz.func150,Tryz.ntmps150
 have k0:=N0.str fn (by simp;omega)
 go_wp2_with (go_at_call 204;refine k0.mono ?_)
 rintro e W1 ⟨rfl,N1⟩
 obtain ⟨_,_,_,c0,c1,c2,c3,c4,c5,_,_⟩:=id N1
 have k1:=N1.text cp (by omega) (by omega)
 go_wp2_with (go_at_call 205;refine k1.mono ?_)
 rintro e W2 ⟨rfl,N2⟩
 obtain ⟨_,_,_,c0,c1,c2,c3,c4,c5,_,_⟩:=id N2
 have k2:=N2.str ([126]++y4w cp.toNat) (by simp;omega)
 go_wp2_with (go_at_call 204;refine k2.mono ?_)
 rintro e W3 ⟨rfl,N3⟩
 obtain ⟨_,_,_,c0,c1,c2,c3,c4,c5,_,_⟩:=id N3
 have k3:=N3.byte 37 (by simp;omega)
 go_wp2_with (go_at_call 206;refine k3.mono ?_)
 rintro e W4 ⟨rfl,N4⟩
 obtain ⟨_,_,_,c0,c1,c2,c3,c4,c5,_,_⟩:=id N4
 have k4:=N4.str nm (by simp;omega)
 go_wp2_with (go_at_call 204;refine k4.mono ?_)
 rintro e W5 ⟨rfl,N5⟩
 obtain ⟨_,_,_,c0,c1,c2,c3,c4,c5,_,_⟩:=id N5
 have k5:=N5.done
 go_wp2_with (go_at_call 207;refine k5.mono ?_)
 rintro e W6 ⟨rfl,N6⟩
 go_wp2
 go_ret
 refine ⟨?_,N6⟩
 simp [y2w,y68,y5q,y84,hcp]
set_option maxHeartbeats 4000000 in
set_option maxRecDepth 100000 in
theorem ym4 (fn:Str) (cp:Int) (nm:Str) (n:Int) (cl:Int) (hfn:fn.length≤16) (hnm:nm.length≤16) (hn:0≤n∧n≤268435456) (hcp:0<cp) (hcp2:cp≤268435456) (hcl:cl≠-1) (hcl2:0≤cl∧cl≤268435456) (w:World) (ht:Pow w):
  Calls Tryz.prog 150 #[.agg #[.int .i64 6,.string ⟨fn.toArray⟩,.int .i64 cp,.string ⟨nm.toArray⟩,.int .i64 n,.int .i64 cl]] w fun e w'=>e=.returned (.string ⟨(y2w ⟨6,fn,cp,nm,n,cl⟩).toArray⟩)∧RowKit.Below w.heap.size w w':=by
 have N0:NB w 6 fn cp nm n cl [] _:=NB.first w ht
 have dcp:(y4w cp.toNat).length≤9:=y36 8 _ (by omega)
 have dn:(y4w n.toNat).length≤9:=y36 8 _ (by omega)
 have dcl:(y4w cl.toNat).length≤9:=y36 8 _ (by omega)
 go_enter Tryz.func150,Tryz.ntmps150
 have k0:=N0.str fn (by simp;omega)
 go_wp2_with (go_at_call 204;refine k0.mono ?_)
 rintro e W1 ⟨rfl,N1⟩
 obtain ⟨_,_,_,c0,c1,c2,c3,c4,c5,_,_⟩:=id N1
 have k1:=N1.text cp (by omega) (by omega)
 go_wp2_with (go_at_call 205;refine k1.mono ?_)
 rintro e W2 ⟨rfl,N2⟩
 obtain ⟨_,_,_,c0,c1,c2,c3,c4,c5,_,_⟩:=id N2
 have k2:=N2.str ([126]++y4w cp.toNat) (by simp;omega)
 go_wp2_with (go_at_call 204;refine k2.mono ?_)
 rintro e W3 ⟨rfl,N3⟩
 obtain ⟨_,_,_,c0,c1,c2,c3,c4,c5,_,_⟩:=id N3
 have k3:=N3.byte 37 (by simp;omega)
 go_wp2_with (go_at_call 206;refine k3.mono ?_)
 rintro e W4 ⟨rfl,N4⟩
 obtain ⟨_,_,_,c0,c1,c2,c3,c4,c5,_,_⟩:=id N4
 have k4:=N4.str nm (by simp;omega)
 go_wp2_with (go_at_call 204;refine k4.mono ?_)
 rintro e W5 ⟨rfl,N5⟩
 obtain ⟨_,_,_,c0,c1,c2,c3,c4,c5,_,_⟩:=id N5
 have k5:=N5.text cl (by omega) (by omega)
 go_wp2_with (go_at_call 205;refine k5.mono ?_)
 rintro e W6 ⟨rfl,N6⟩
 obtain ⟨_,_,_,c0,c1,c2,c3,c4,c5,_,_⟩:=id N6
 have k6:=N6.str ([43]++y4w cl.toNat) (by simp;omega)
 go_wp2_with (go_at_call 204;refine k6.mono ?_)
 rintro e W7 ⟨rfl,N7⟩
 obtain ⟨_,_,_,c0,c1,c2,c3,c4,c5,_,_⟩:=id N7
 have k7:=N7.done
 go_wp2_with (go_at_call 207;refine k7.mono ?_)
 rintro e W8 ⟨rfl,N8⟩
 go_wp2
 go_ret
 refine ⟨?_,N8⟩
 simp [y2w,y68,y5q,y84,hcp,hcl2]
set_option maxHeartbeats 4000000 in
set_option maxRecDepth 100000 in
theorem ym3 (fn:Str) (nm:Str) (n:Int) (hfn:fn.length≤16) (hnm:nm.length≤16) (hn:0≤n∧n≤268435456) (w:World) (ht:Pow w):
  Calls Tryz.prog 150 #[.agg #[.int .i64 7,.string ⟨fn.toArray⟩,.int .i64 0,.string ⟨nm.toArray⟩,.int .i64 n,.int .i64 (-1)]] w fun e w'=>e=.returned (.string ⟨(y2w ⟨7,fn,0,nm,n,(-1)⟩).toArray⟩)∧RowKit.Below w.heap.size w w':=by
 have N0:NB w 7 fn 0 nm n (-1) [] _:=NB.first w ht
 have dn:(y4w n.toNat).length≤9:=y36 8 _ (by omega)
 go_enter Tryz.func150,Tryz.ntmps150
 have k0:=N0.str fn (by simp;omega)
 go_wp2_with (go_at_call 204;refine k0.mono ?_)
 rintro e W1 ⟨rfl,N1⟩
 obtain ⟨_,_,_,c0,c1,c2,c3,c4,c5,_,_⟩:=id N1
 have k1:=N1.byte 35 (by simp;omega)
 go_wp2_with (go_at_call 206;refine k1.mono ?_)
 rintro e W2 ⟨rfl,N2⟩
 obtain ⟨_,_,_,c0,c1,c2,c3,c4,c5,_,_⟩:=id N2
 have k2:=N2.text n (by omega) (by omega)
 go_wp2_with (go_at_call 205;refine k2.mono ?_)
 rintro e W3 ⟨rfl,N3⟩
 obtain ⟨_,_,_,c0,c1,c2,c3,c4,c5,_,_⟩:=id N3
 have k3:=N3.str (y4w n.toNat) (by simp;omega)
 go_wp2_with (go_at_call 204;refine k3.mono ?_)
 rintro e W4 ⟨rfl,N4⟩
 obtain ⟨_,_,_,c0,c1,c2,c3,c4,c5,_,_⟩:=id N4
 have k4:=N4.done
 go_wp2_with (go_at_call 207;refine k4.mono ?_)
 rintro e W5 ⟨rfl,N5⟩
 go_wp2
 go_ret
 refine ⟨?_,N5⟩
 simp [y2w,y68,y5q,y84]
set_option maxHeartbeats 4000000 in
set_option maxRecDepth 100000 in
theorem ym2 (fn:Str) (nm:Str) (n:Int) (cl:Int) (hfn:fn.length≤16) (hnm:nm.length≤16) (hn:0≤n∧n≤268435456) (hcl:cl≠-1) (hcl2:0≤cl∧cl≤268435456) (w:World) (ht:Pow w):
  Calls Tryz.prog 150 #[.agg #[.int .i64 7,.string ⟨fn.toArray⟩,.int .i64 0,.string ⟨nm.toArray⟩,.int .i64 n,.int .i64 cl]] w fun e w'=>e=.returned (.string ⟨(y2w ⟨7,fn,0,nm,n,cl⟩).toArray⟩)∧RowKit.Below w.heap.size w w':=by
 have N0:NB w 7 fn 0 nm n cl [] _:=NB.first w ht
 have dn:(y4w n.toNat).length≤9:=y36 8 _ (by omega)
 have dcl:(y4w cl.toNat).length≤9:=y36 8 _ (by omega)
 go_enter Tryz.func150,Tryz.ntmps150
 have k0:=N0.str fn (by simp;omega)
 go_wp2_with (go_at_call 204;refine k0.mono ?_)
 rintro e W1 ⟨rfl,N1⟩
 obtain ⟨_,_,_,c0,c1,c2,c3,c4,c5,_,_⟩:=id N1
 have k1:=N1.byte 35 (by simp;omega)
 go_wp2_with (go_at_call 206;refine k1.mono ?_)
 rintro e W2 ⟨rfl,N2⟩
 obtain ⟨_,_,_,c0,c1,c2,c3,c4,c5,_,_⟩:=id N2
 have k2:=N2.text n (by omega) (by omega)
 go_wp2_with (go_at_call 205;refine k2.mono ?_)
 rintro e W3 ⟨rfl,N3⟩
 obtain ⟨_,_,_,c0,c1,c2,c3,c4,c5,_,_⟩:=id N3
 have k3:=N3.str (y4w n.toNat) (by simp;omega)
 go_wp2_with (go_at_call 204;refine k3.mono ?_)
 rintro e W4 ⟨rfl,N4⟩
 obtain ⟨_,_,_,c0,c1,c2,c3,c4,c5,_,_⟩:=id N4
 have k4:=N4.text cl (by omega) (by omega)
 go_wp2_with (go_at_call 205;refine k4.mono ?_)
 rintro e W5 ⟨rfl,N5⟩
 obtain ⟨_,_,_,c0,c1,c2,c3,c4,c5,_,_⟩:=id N5
 have k5:=N5.str ([43]++y4w cl.toNat) (by simp;omega)
 go_wp2_with (go_at_call 204;refine k5.mono ?_)
 rintro e W6 ⟨rfl,N6⟩
 obtain ⟨_,_,_,c0,c1,c2,c3,c4,c5,_,_⟩:=id N6
 have k6:=N6.done
 go_wp2_with (go_at_call 207;refine k6.mono ?_)
 rintro e W7 ⟨rfl,N7⟩
 go_wp2
 go_ret
 refine ⟨?_,N7⟩
 simp [y2w,y68,y5q,y84,hcl2]
set_option maxHeartbeats 4000000 in
set_option maxRecDepth 100000 in
theorem ym1 (fn:Str) (cp:Int) (nm:Str) (n:Int) (hfn:fn.length≤16) (hnm:nm.length≤16) (hn:0≤n∧n≤268435456) (hcp:0<cp) (hcp2:cp≤268435456) (w:World) (ht:Pow w):
  Calls Tryz.prog 150 #[.agg #[.int .i64 7,.string ⟨fn.toArray⟩,.int .i64 cp,.string ⟨nm.toArray⟩,.int .i64 n,.int .i64 (-1)]] w fun e w'=>e=.returned (.string ⟨(y2w ⟨7,fn,cp,nm,n,(-1)⟩).toArray⟩)∧RowKit.Below w.heap.size w w':=by
 have N0:NB w 7 fn cp nm n (-1) [] _:=NB.first w ht
 have dcp:(y4w cp.toNat).length≤9:=y36 8 _ (by omega)
 have dn:(y4w n.toNat).length≤9:=y36 8 _ (by omega)
 go_enter Tryz.func150,Tryz.ntmps150
 have k0:=N0.str fn (by simp;omega)
 go_wp2_with (go_at_call 204;refine k0.mono ?_)
 rintro e W1 ⟨rfl,N1⟩
 obtain ⟨_,_,_,c0,c1,c2,c3,c4,c5,_,_⟩:=id N1
 have k1:=N1.text cp (by omega) (by omega)
 go_wp2_with (go_at_call 205;refine k1.mono ?_)
 rintro e W2 ⟨rfl,N2⟩
 obtain ⟨_,_,_,c0,c1,c2,c3,c4,c5,_,_⟩:=id N2
 have k2:=N2.str ([126]++y4w cp.toNat) (by simp;omega)
 go_wp2_with (go_at_call 204;refine k2.mono ?_)
 rintro e W3 ⟨rfl,N3⟩
 obtain ⟨_,_,_,c0,c1,c2,c3,c4,c5,_,_⟩:=id N3
 have k3:=N3.byte 35 (by simp;omega)
 go_wp2_with (go_at_call 206;refine k3.mono ?_)
 rintro e W4 ⟨rfl,N4⟩
 obtain ⟨_,_,_,c0,c1,c2,c3,c4,c5,_,_⟩:=id N4
 have k4:=N4.text n (by omega) (by omega)
 go_wp2_with (go_at_call 205;refine k4.mono ?_)
 rintro e W5 ⟨rfl,N5⟩
 obtain ⟨_,_,_,c0,c1,c2,c3,c4,c5,_,_⟩:=id N5
 have k5:=N5.str (y4w n.toNat) (by simp;omega)
 go_wp2_with (go_at_call 204;refine k5.mono ?_)
 rintro e W6 ⟨rfl,N6⟩
 obtain ⟨_,_,_,c0,c1,c2,c3,c4,c5,_,_⟩:=id N6
 have k6:=N6.done
 go_wp2_with (go_at_call 207;refine k6.mono ?_)
 rintro e W7 ⟨rfl,N7⟩
 go_wp2
 go_ret
 refine ⟨?_,N7⟩
 simp [y2w,y68,y5q,y84,hcp]
set_option maxHeartbeats 4000000 in
set_option maxRecDepth 100000 in
theorem ym0 (fn:Str) (cp:Int) (nm:Str) (n:Int) (cl:Int) (hfn:fn.length≤16) (hnm:nm.length≤16) (hn:0≤n∧n≤268435456) (hcp:0<cp) (hcp2:cp≤268435456) (hcl:cl≠-1) (hcl2:0≤cl∧cl≤268435456) (w:World) (ht:Pow w):
  Calls Tryz.prog 150 #[.agg #[.int .i64 7,.string ⟨fn.toArray⟩,.int .i64 cp,.string ⟨nm.toArray⟩,.int .i64 n,.int .i64 cl]] w fun e w'=>e=.returned (.string ⟨(y2w ⟨7,fn,cp,nm,n,cl⟩).toArray⟩)∧RowKit.Below w.heap.size w w':=by
 have N0:NB w 7 fn cp nm n cl [] _:=NB.first w ht
 have dcp:(y4w cp.toNat).length≤9:=y36 8 _ (by omega)
 have dn:(y4w n.toNat).length≤9:=y36 8 _ (by omega)
 have dcl:(y4w cl.toNat).length≤9:=y36 8 _ (by omega)
 go_enter Tryz.func150,Tryz.ntmps150
 have k0:=N0.str fn (by simp;omega)
 go_wp2_with (go_at_call 204;refine k0.mono ?_)
 rintro e W1 ⟨rfl,N1⟩
 obtain ⟨_,_,_,c0,c1,c2,c3,c4,c5,_,_⟩:=id N1
 have k1:=N1.text cp (by omega) (by omega)
 go_wp2_with (go_at_call 205;refine k1.mono ?_)
 rintro e W2 ⟨rfl,N2⟩
 obtain ⟨_,_,_,c0,c1,c2,c3,c4,c5,_,_⟩:=id N2
 have k2:=N2.str ([126]++y4w cp.toNat) (by simp;omega)
 go_wp2_with (go_at_call 204;refine k2.mono ?_)
 rintro e W3 ⟨rfl,N3⟩
 obtain ⟨_,_,_,c0,c1,c2,c3,c4,c5,_,_⟩:=id N3
 have k3:=N3.byte 35 (by simp;omega)
 go_wp2_with (go_at_call 206;refine k3.mono ?_)
 rintro e W4 ⟨rfl,N4⟩
 obtain ⟨_,_,_,c0,c1,c2,c3,c4,c5,_,_⟩:=id N4
 have k4:=N4.text n (by omega) (by omega)
 go_wp2_with (go_at_call 205;refine k4.mono ?_)
 rintro e W5 ⟨rfl,N5⟩
 obtain ⟨_,_,_,c0,c1,c2,c3,c4,c5,_,_⟩:=id N5
 have k5:=N5.str (y4w n.toNat) (by simp;omega)
 go_wp2_with (go_at_call 204;refine k5.mono ?_)
 rintro e W6 ⟨rfl,N6⟩
 obtain ⟨_,_,_,c0,c1,c2,c3,c4,c5,_,_⟩:=id N6
 have k6:=N6.text cl (by omega) (by omega)
 go_wp2_with (go_at_call 205;refine k6.mono ?_)
 rintro e W7 ⟨rfl,N7⟩
 obtain ⟨_,_,_,c0,c1,c2,c3,c4,c5,_,_⟩:=id N7
 have k7:=N7.str ([43]++y4w cl.toNat) (by simp;omega)
 go_wp2_with (go_at_call 204;refine k7.mono ?_)
 rintro e W8 ⟨rfl,N8⟩
 obtain ⟨_,_,_,c0,c1,c2,c3,c4,c5,_,_⟩:=id N8
 have k8:=N8.done
 go_wp2_with (go_at_call 207;refine k8.mono ?_)
 rintro e W9 ⟨rfl,N9⟩
 go_wp2
 go_ret
 refine ⟨?_,N9⟩
 simp [y2w,y68,y5q,y84,hcp,hcl2]
end Go.Proofs.YtikpijbeobeckaaGreatDoor
