/-
  The chapter's program with another second instruction may not be.
-/
import Derived.Test.YtcbhmpkginebaaaDoorMg14
import Derived.StillTailTactics
namespace Go.Proofs.YtcbhmpkginebaaaDoor
set_option linter.unusedVariables false
set_option linter.unusedSimpArgs false
open Go.ChangeShapes Go.WideShapes Go.ChangeAt Go.RowKit

/-- The chapter's program, its blocks from g on. -/
theorem chapter_at {w : World} {g : Nat} (hg : w.heap.size = g) : Calls Tryd.prog 25 #[] w fun e w' => e = .returned (chapV g) ∧ Chap w' g chJ 0 1 true ∧ Below w.heap.size w w' := hg ▸ chapter_any w
theorem Blk.whole {w : World} {g : Nat} {t : TypeId} {a0 a1 a2 a3 a4 a5 a6 b0 b1 b2 b3 b4 b5 b6 : Value} (h : Blk w g t #[a0, a1, a2, a3, a4, a5, a6]) :
    Blk (((((((w.setCell ⟨g, 0, none⟩ b0).setCell ⟨g, 1, none⟩ b1).setCell ⟨g, 2, none⟩ b2).setCell ⟨g, 3, none⟩ b3).setCell ⟨g, 4, none⟩ b4).setCell ⟨g, 5, none⟩ b5).setCell ⟨g, 6, none⟩ b6) g t #[b0, b1, b2, b3, b4, b5, b6] := by
  have := ((((((h.put 0 b0).put 1 b1).put 2 b2).put 3 b3).put 4 b4).put 5 b5).put 6 b6
  simpa using this
theorem Blk.far7 {w : World} {g k : Nat} {t : TypeId} {cs : Array Value} {b0 b1 b2 b3 b4 b5 b6 : Value} (h : Blk w k t cs) (hk : k ≠ g) :
    Blk (((((((w.setCell ⟨g, 0, none⟩ b0).setCell ⟨g, 1, none⟩ b1).setCell ⟨g, 2, none⟩ b2).setCell ⟨g, 3, none⟩ b3).setCell ⟨g, 4, none⟩ b4).setCell ⟨g, 5, none⟩ b5).setCell ⟨g, 6, none⟩ b6) k t cs :=
  ((((((h.far hk b0).far hk b1).far hk b2).far hk b3).far hk b4).far hk b5).far hk b6
set_option maxRecDepth 100000 in
set_option maxHeartbeats 3200000 in
theorem odd_any {w : World} (x : InR) (hx : x.Ok w) (h1 : x.args.length ≤ 1000) (h2 : x.from_.length ≤ 1000) (hc : checkP (chapP x.data 0 1 true) = 60) (ht : TabW w) :
    Calls Tryd.prog 24 #[x.val] w fun e w' => e = .returned (.bool true) ∧ Below w.heap.size w w' := by
  have HX := Lib.hid hx
  have HT := Lib.hid ht
  have H12 := Lib.hid (And.intro h1 h2)
  have HCK := Lib.hid hc
  have HW1 := Lib.hid (And.intro (Blk.new w 24 x.cells) ((Below.refl w.heap.size w).alloc (Nat.le_refl _) (.cells x.cells 24)))
  obtain ⟨g, hg⟩ : ∃ g, (w.alloc (.cells x.cells 24)).heap.size = g := ⟨_, rfl⟩
  have HG := Lib.hid hg
  obtain ⟨b0, hb0⟩ : ∃ b, w.heap.size = b := ⟨_, rfl⟩
  rw [hb0] at HW1
  clear hx ht h1 h2 hc hg
  unfold InR.val
  unfold InR.cells at HW1 HG
  go_enter Tryd.func24, Tryd.ntmps24
  go_wp2_with fail
  refine (chapter_at HG.out).mono ?_
  rintro e w2 ⟨rfl, hc1, hb1⟩
  have HC := Lib.hid hc1
  have HB2 := Lib.hid (HW1.out.1.beneath hb1)
  have HBL : Hid (Below b0 w w2) := Lib.hid (HW1.out.2.trans (hb1.mono (by rw [World.size_alloc, hb0]; omega)))
  have HGW : Hid (b0 ≤ g) := Lib.hid (by rw [← HG.out, World.size_alloc, hb0]; omega)
  clear hc1 hb1
  unfold chapV
  go_wp2_with fail
  obtain ⟨W, hW⟩ : ∃ W, w2.alloc (.cells #[.slice (some ⟨g + 5, 0, none⟩) 2 2, .slice (some ⟨g + 7, 0, none⟩) 1 1] 35) = W := ⟨_, rfl⟩
  obtain ⟨g2, hg2⟩ : ∃ g2, w2.heap.size = g2 := ⟨_, rfl⟩
  rw [hW, hg2]
  have HC2 : Hid (Chap W g chJ 0 1 true) := Lib.hid (hW ▸ HC.out.on ((Below.refl _ _).alloc (Nat.le_refl _) _))
  have HB3 : Hid (Blk W b0 24 x.cells) := Lib.hid (hW ▸ HB2.out.alloc _)
  have HP : Hid (Blk W g2 35 #[.slice (some ⟨g + 5, 0, none⟩) 2 2, .slice (some ⟨g + 7, 0, none⟩) 1 1]) := Lib.hid (hW ▸ hg2 ▸ Blk.new w2 _ _)
  have HBL2 : Hid (Below b0 w W) := Lib.hid (hW ▸ HBL.out.alloc (by have := HBL.out.size; omega) _)
  have hgn : g2 ≠ g + 3 := by
    have h1 := HC.out.b7.lt
    omega
  clear hW hg2
  have p1 : W.cell? ⟨g2, 1, none⟩ = some (.slice (some ⟨g + 7, 0, none⟩) 1 1) := HP.out.cells 1
  have f1 : W.cell? ⟨g + 7, 1, none⟩ = some (.slice (some ⟨g + 6, 0, none⟩) 2 2) := HC2.out.b7.cells 1
  have b5 : W.cell? ⟨g + 6, 5, none⟩ = some (.slice (some ⟨g + 3, 0, none⟩) 1 1) := HC2.out.b6.cells 5
  have x0 : W.cell? ⟨b0, 0, none⟩ = some (.int .u8 x.op) := HB3.out.cells 0
  have x1 : W.cell? ⟨b0, 1, none⟩ = some (.int .i64 x.ty) := HB3.out.cells 1
  have x2 : W.cell? ⟨b0, 2, none⟩ = some (.int .i64 x.a) := HB3.out.cells 2
  have x3 : W.cell? ⟨b0, 3, none⟩ = some (.int .i64 x.b) := HB3.out.cells 3
  have x4 : W.cell? ⟨b0, 4, none⟩ = some (.int .i64 x.n) := HB3.out.cells 4
  have x5 : W.cell? ⟨b0, 5, none⟩ = some (.slice x.aa x.args.length x.ac) := HB3.out.cells 5
  have x6 : W.cell? ⟨b0, 6, none⟩ = some (.slice x.fa x.from_.length x.fc) := HB3.out.cells 6
  go_still_tail 10, (by kernel_rfl)
  change wpList _ _ _ _ _ W.drew
  obtain ⟨V, hV⟩ : ∃ V, W.drew = V := ⟨_, rfl⟩
  rw [hV]
  have HC3 : Hid (Chap V g chJ 0 1 true) := Lib.hid (hV ▸ HC2.out.on (Below.refl _ _).drew)
  have HP3 : Hid (Blk V g2 35 #[.slice (some ⟨g + 5, 0, none⟩) 2 2, .slice (some ⟨g + 7, 0, none⟩) 1 1]) := Lib.hid (hV ▸ HP.out.drew)
  have HBL3 : Hid (Below b0 w V) := Lib.hid (hV ▸ HBL2.out.drew)
  clear hV p1 f1 b5 x0 x1 x2 x3 x4 x5 x6
  have y0 : V.cell? ⟨g + 3, 0, none⟩ = some (.int .u8 4) := HC3.out.b3.cells 0
  have y1 : V.cell? ⟨g + 3, 1, none⟩ = some (.int .i64 0) := HC3.out.b3.cells 1
  have y2 : V.cell? ⟨g + 3, 2, none⟩ = some (.int .i64 0) := HC3.out.b3.cells 2
  have y3 : V.cell? ⟨g + 3, 3, none⟩ = some (.int .i64 0) := HC3.out.b3.cells 3
  have y4 : V.cell? ⟨g + 3, 4, none⟩ = some (.int .i64 0) := HC3.out.b3.cells 4
  have y5 : V.cell? ⟨g + 3, 5, none⟩ = some (.slice none 0 0) := HC3.out.b3.cells 5
  have y6 : V.cell? ⟨g + 3, 6, none⟩ = some (.slice none 0 0) := HC3.out.b3.cells 6
  have z0 := HC3.out.b3.free 0
  have z1 := HC3.out.b3.free 1
  have z2 := HC3.out.b3.free 2
  have z3 := HC3.out.b3.free 3
  have z4 := HC3.out.b3.free 4
  have z5 := HC3.out.b3.free 5
  have z6 := HC3.out.b3.free 6
  have q0 := HP3.out.cells 0
  have q1 := HP3.out.cells 1
  go_wp2_with fail
  have HC4 : Hid (Chap (((((((V.setCell ⟨g + 3, 0, none⟩ (.int .u8 x.op)).setCell ⟨g + 3, 1, none⟩ (.int .i64 x.ty)).setCell ⟨g + 3, 2, none⟩ (.int .i64 x.a)).setCell ⟨g + 3, 3, none⟩ (.int .i64 x.b)).setCell ⟨g + 3, 4, none⟩ (.int .i64 x.n)).setCell ⟨g + 3, 5, none⟩ (.slice x.aa x.args.length x.ac)).setCell ⟨g + 3, 6, none⟩ (.slice x.fa x.from_.length x.fc)) g x 0 1 true) :=
    Lib.hid ⟨HC3.out.b1.far7 (by omega), HC3.out.b3.whole, HC3.out.b5.far7 (by omega), HC3.out.b6.far7 (by omega), HC3.out.b7.far7 (by omega)⟩
  have hw3 : b0 ≤ g + 3 := Nat.le_trans HGW.out (by omega)
  have HB5 : Hid (Below b0 w (((((((V.setCell ⟨g + 3, 0, none⟩ (.int .u8 x.op)).setCell ⟨g + 3, 1, none⟩ (.int .i64 x.ty)).setCell ⟨g + 3, 2, none⟩ (.int .i64 x.a)).setCell ⟨g + 3, 3, none⟩ (.int .i64 x.b)).setCell ⟨g + 3, 4, none⟩ (.int .i64 x.n)).setCell ⟨g + 3, 5, none⟩ (.slice x.aa x.args.length x.ac)).setCell ⟨g + 3, 6, none⟩ (.slice x.fa x.from_.length x.fc))) :=
    Lib.hid (((((((HBL3.out.setCell hw3 _).setCell hw3 _).setCell hw3 _).setCell hw3 _).setCell hw3 _).setCell hw3 _).setCell hw3 _)
  have HB6 := Lib.hid (hb0.symm ▸ HB5.out)
  have HB6' : Hid (Below w.heap.size w _) := HB6
  refine (chap_check HC4.out (HX.out.on HB6'.out) (HT.out.on HB6'.out) H12.out.1 H12.out.2 HCK.out).mono ?_
  rintro e w5 ⟨rfl, hb5⟩
  have HB7 : Hid (Below w.heap.size w w5) := Lib.hid (HB6'.out.trans (hb5.mono HB6'.out.size))
  clear hb5 y0 y1 y2 y3 y4 y5 y6 z0 z1 z2 z3 z4 z5 z6 q0 q1 hb0
  go_wp2_with fail
  go_ret
  exact ⟨rfl, HB7.out⟩
end Go.Proofs.YtcbhmpkginebaaaDoor
