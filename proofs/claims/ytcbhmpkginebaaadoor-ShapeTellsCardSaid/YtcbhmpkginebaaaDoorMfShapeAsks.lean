/-
  The walk of ShapeAsks.
-/
import Derived.Test.YtcbhmpkginebaaaDoorMg14
import Derived.Test.YtcbhmpkginebaaaDoorMfShLims
import Derived.Test.YtcbhmpkginebaaaDoorMfShTwin2
import Derived.Test.YtcbhmpkginebaaaDoorMfShapeBack
namespace Go.Proofs.YtcbhmpkginebaaaDoor
set_option linter.unusedVariables false
set_option linter.unusedSimpArgs false
open Go.ChangeShapes Go.WideShapes Go.ChangeAt Go.RowKit

section
variable {w : World} {p : PrR}
theorem rregs_is (h : ProgIn w p) (hl : PrLim p) {f a b : Int} (hr : regsE p.data f = (a, b)) :
    Calls Tryd.prog 18 #[p.val, .int .i64 f] w fun e w' => e = .returned (.tuple #[.int .i64 a, .int .i64 b]) ∧ Below w.heap.size w w' := by
  have := rregs_any h hl f
  rwa [hr] at this
theorem rplace_is (h : ProgIn w p) (hl : PrLim p) {f r a b c : Int} (hr : placeE p.data f r = (a, b, c)) :
    Calls Tryd.prog 20 #[p.val, .int .i64 f, .int .i64 r] w fun e w' => e = .returned (.tuple #[.int .i64 a, .int .i64 b, .int .i64 c]) ∧ Below w.heap.size w w' := by
  have := rplace_any h hl f r
  rwa [hr] at this
theorem rreg_is (h : ProgIn w p) (hl : PrLim p) {f b i a c : Int} (hr : regE p.data f b i = (a, c)) :
    Calls Tryd.prog 22 #[p.val, .int .i64 f, .int .i64 b, .int .i64 i] w fun e w' => e = .returned (.tuple #[.int .i64 a, .int .i64 c]) ∧ Below w.heap.size w w' := by
  have := rreg_any h hl f b i
  rwa [hr] at this
theorem rsame6_is {o : PrR} (h : ProgIn w p) (h' : ProgIn w o) {b : Bool} (hb : sameB p o = b) :
    Calls Tryd.prog 23 #[p.val, o.val] w fun e w' => e = .returned (.bool b) ∧ Below w.heap.size w w' := hb ▸ rsame6_any h h'
end
theorem OwnPr.keep {w w' : World} {lo : Nat} {p : PrR} (h : OwnPr w lo p) (hb : Below w.heap.size w w') : OwnPr w' lo p := ⟨h.types.keep hb, h.funs.keep hb⟩
set_option maxRecDepth 100000 in
set_option maxHeartbeats 6400000 in
theorem walk_ShapeAsks0 {w : World} {p : PrR} (h : ProgIn w p) (hf : ProgFit p) (ht : TabW w) (f r at_ : Int) :
    Calls Tryd.prog 4 #[p.val, .int .i64 f, .int .i64 r, .int .i64 at_] w fun e w' => e = .returned (.bool true) ∧ Below w.heap.size w w' := by
  obtain ⟨a, b, hre⟩ : ∃ a b, regsE p.data f = (a, b) := ⟨_, _, rfl⟩
  obtain ⟨c, d, i, hpe⟩ : ∃ c d i, placeE p.data f r = (c, d, i) := ⟨_, _, _, rfl⟩
  obtain ⟨m, k, hge⟩ : ∃ m k, regE p.data f r at_ = (m, k) := ⟨_, _, rfl⟩
  have HT := Lib.hid ht
  have HP := Lib.hid h
  have HW1 := Lib.hid (BoxP.new w #[.slice p.ta p.types.length p.tc, .slice p.fa p.funs.length p.fc])
  have HGR := Lib.hid (fun W (hb : Below w.heap.size w W) => rgreat6_any (h.on hb) hf (m := 300) (by decide))
  have HTW := Lib.hid (fun W (hb : Below w.heap.size w W) (hl : PrLim p) (hn : p.types.length ≤ 1000) => rtwin6_any (h.on hb) hl hn)
  have HA := Lib.hid (fun W (hb : Below w.heap.size w W) (hl : PrLim p) => rregs_is (h.on hb) hl hre)
  have HB := Lib.hid (fun W (hb : Below w.heap.size w W) (hl : PrLim p) => rplace_is (h.on hb) hl hpe)
  have HC := Lib.hid (fun W (hb : Below w.heap.size w W) (hl : PrLim p) => rreg_is (h.on hb) hl hge)
  have HA' := Lib.hid (fun (W : World) (x : PrR) (hx : ProgIn W x) (hl : PrLim x) (ht : TabW W) (hd : x.data = p.data) => pregs_is hx hl ht (f := f) (hd ▸ hre))
  have HB' := Lib.hid (fun (W : World) (x : PrR) (hx : ProgIn W x) (hl : PrLim x) (ht : TabW W) (hd : x.data = p.data) => pplace_is hx hl ht (f := f) (r := r) (hd ▸ hpe))
  have HC' := Lib.hid (fun (W : World) (x : PrR) (hx : ProgIn W x) (hl : PrLim x) (ht : TabW W) (hd : x.data = p.data) => preg_is hx hl ht (f := f) (b := r) (i := at_) (hd ▸ hge))
  have HS := Lib.hid (fun W (hb : Below w.heap.size w W) (x : PrR) (hx : ProgIn W x) (hd : x.data = p.data) => rsame6_is hx (h.on hb) (same_data.2 hd))
  obtain ⟨ta, tc, types, fa, fc, funs⟩ := p
  unfold PrR.val at *
  dsimp only at *
  clear h hf ht hre hpe hge
  go_enter Tryd.func4, Tryd.ntmps4
  go_wp2_with fail
  refine (HGR.out _ HW1.out.below).mono ?_
  rintro e1 w3 ⟨gr, rfl, hgr, hb3⟩
  have HW3 := Lib.hid (HW1.out.on hb3)
  have HGG := Lib.hid hgr
  clear hb3 hgr
  cases gr with
  | true =>
    go_wp2_with fail
    go_ret
    exact ⟨rfl, HW3.out.below⟩
  | false =>
    have HL := Lib.hid ((HGG.out rfl).lim (by decide))
    have HTL := Lib.hid (Nat.le_trans (HGG.out rfl).types (by omega : 20 ≤ 1000))
    have x0 := HW3.out.p.cells 0
    have x1 := HW3.out.p.cells 1
    go_wp2_with fail
    refine (HTW.out _ HW3.out.below HL.out HTL.out).mono ?_
    rintro e1 w4 ⟨x, rfl, hox, hdx, hb4⟩
    have HW4 := Lib.hid (HW3.out.on hb4)
    have HD := Lib.hid hdx
    have HLX := Lib.hid (HL.out.same hdx)
    have HX := Lib.hid hox.prog.1
    have HO := Lib.hid (Blk.new w4 35 #[.slice x.ta x.types.length x.tc, .slice x.fa x.funs.length x.fc])
    obtain ⟨xa, xc, xt, ya, yc, xf⟩ := x
    dsimp only at *
    clear hb4 x0 x1 hox hdx
    unfold PrR.val at *
    dsimp only at *
    have HB1 := Lib.hid ((Below.refl w4.heap.size w4).alloc (Nat.le_refl _) (.cells #[.slice xa xt.length xc, .slice ya xf.length yc] 35))
    have HZ0 : Hid (Two w (w4.alloc (.cells #[.slice xa xt.length xc, .slice ya xf.length yc] 35)) 35 w.heap.size w4.heap.size #[.slice ta types.length tc, .slice fa funs.length fc] #[.slice xa xt.length xc, .slice ya xf.length yc]) :=
      Lib.hid ⟨HW4.out.p.beneath HB1.out, HO.out, HW4.out.below.trans (HB1.out.mono HW4.out.below.size)⟩
    have HX0 := Lib.hid (HX.out.on HB1.out)
    clear HO HB1 HX
    have x0 := HZ0.out.x.cells 0
    have x1 := HZ0.out.x.cells 1
    have y0 := HZ0.out.y.cells 0
    have y1 := HZ0.out.y.cells 1
    go_wp2_with fail
    refine (HA'.out _ _ HX0.out HLX.out (HT.out.on HZ0.out.below) HD.out).mono ?_
    rintro e1 v0 ⟨rfl, hb⟩
    have HZ1 := Lib.hid (HZ0.out.on hb)
    have HX1 := Lib.hid (HX0.out.on hb)
    clear hb x0 x1 y0 y1
    have x0 := HZ1.out.x.cells 0
    have x1 := HZ1.out.x.cells 1
    have y0 := HZ1.out.y.cells 0
    have y1 := HZ1.out.y.cells 1
    go_wp2_with fail
    refine (HA.out _ HZ1.out.below HL.out).mono ?_
    rintro e1 v1 ⟨rfl, hb⟩
    have HZ2 := Lib.hid (HZ1.out.on hb)
    have HX2 := Lib.hid (HX1.out.on hb)
    clear hb x0 x1 y0 y1
    have x0 := HZ2.out.x.cells 0
    have x1 := HZ2.out.x.cells 1
    have y0 := HZ2.out.y.cells 0
    have y1 := HZ2.out.y.cells 1
    go_wp2_with fail
    refine (HB'.out _ _ HX2.out HLX.out (HT.out.on HZ2.out.below) HD.out).mono ?_
    rintro e1 v2 ⟨rfl, hb⟩
    have HZ3 := Lib.hid (HZ2.out.on hb)
    have HX3 := Lib.hid (HX2.out.on hb)
    clear hb x0 x1 y0 y1
    have x0 := HZ3.out.x.cells 0
    have x1 := HZ3.out.x.cells 1
    have y0 := HZ3.out.y.cells 0
    have y1 := HZ3.out.y.cells 1
    go_wp2_with fail
    refine (HB.out _ HZ3.out.below HL.out).mono ?_
    rintro e1 v3 ⟨rfl, hb⟩
    have HZ4 := Lib.hid (HZ3.out.on hb)
    have HX4 := Lib.hid (HX3.out.on hb)
    clear hb x0 x1 y0 y1
    have x0 := HZ4.out.x.cells 0
    have x1 := HZ4.out.x.cells 1
    have y0 := HZ4.out.y.cells 0
    have y1 := HZ4.out.y.cells 1
    go_wp2_with fail
    refine (HC'.out _ _ HX4.out HLX.out (HT.out.on HZ4.out.below) HD.out).mono ?_
    rintro e1 v4 ⟨rfl, hb⟩
    have HZ5 := Lib.hid (HZ4.out.on hb)
    have HX5 := Lib.hid (HX4.out.on hb)
    clear hb x0 x1 y0 y1
    have x0 := HZ5.out.x.cells 0
    have x1 := HZ5.out.x.cells 1
    have y0 := HZ5.out.y.cells 0
    have y1 := HZ5.out.y.cells 1
    go_wp2_with fail
    refine (HC.out _ HZ5.out.below HL.out).mono ?_
    rintro e1 v5 ⟨rfl, hb⟩
    have HZ6 := Lib.hid (HZ5.out.on hb)
    have HX6 := Lib.hid (HX5.out.on hb)
    clear hb x0 x1 y0 y1
    have x0 := HZ6.out.x.cells 0
    have x1 := HZ6.out.x.cells 1
    have y0 := HZ6.out.y.cells 0
    have y1 := HZ6.out.y.cells 1
    go_wp2_with fail
    refine (HS.out _ HZ6.out.below _ HX6.out HD.out).mono ?_
    rintro e1 v7 ⟨rfl, hb⟩
    have HZ7 := Lib.hid (HZ6.out.on hb)
    clear hb x0 x1 y0 y1
    go_wp2_with fail
    go_ret
    exact ⟨rfl, HZ7.out.below⟩
end Go.Proofs.YtcbhmpkginebaaaDoor
