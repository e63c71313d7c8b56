/-
  The registers that an instruction and an end read.
-/
import Derived.Test.YtbffebcjimhapaaGreatDoorMg6
namespace Go.Proofs.YtbffebcjimhapaaGreatDoor
set_option linter.unusedVariables false
set_option linter.unusedSimpArgs false
open Go.ChangeShapes Go.WideShapes Go.ChangeAt Go.RowKit
abbrev insV (op : Nat) (ty a b n : Int) (A : Option Addr) (la ca : Nat) (F : Option Addr) (lf cf : Nat) : Value :=
 .agg #[.int .u8 op, .int .i64 ty, .int .i64 a, .int .i64 b, .int .i64 n, .slice A la ca, .slice F lf cf]
def usesL (b0 b1 b3 : Bool) (a b : Int) (args : List Int) : List Int := (if b0 then [a] else []) ++ (if b1 then [b] else []) ++ (if b3 then args else [])
def endsL (k a : Int) : List Int := if k = 2 ∨ k = 3 then [a] else []
set_option maxRecDepth 100000 in
set_option maxHeartbeats 1600000 in
theorem uses_any {op : Nat} {b0 b1 b2 b3 b4 b5 : Bool} (h : Has op b0 b1 b2 b3 b4 b5) (hop : op ≤ 255) (ty a b n : Int) {A : Option Addr} {ca : Nat} {args : List Int} (hd : Hdr A args.length ca) {w : World} (ht : TabW w) (ha : IntsAt w 0 w.heap.size A args) (hl : args.length ≤ 1000) (F : Option Addr) (lf cf : Nat) :
 Calls Tryz.prog 115 #[insV op ty a b n A args.length ca F lf cf] w (SomeInts (usesL b0 b1 b3 a b args) w) := by
 have hb0 : Below w.heap.size w (w.alloc (.cells #[.int .u8 op, .int .i64 ty, .int .i64 a, .int .i64 b, .int .i64 n, .slice A args.length ca, .slice F lf cf] 74)) := (Below.refl _ _).alloc (Nat.le_refl _) _
 have HQ0 := Lib.hid hb0
 have KX0 := Lib.hid (Blk.new w 74 #[.int .u8 op, .int .i64 ty, .int .i64 a, .int .i64 b, .int .i64 n, .slice A args.length ca, .slice F lf cf])
 have HA := Lib.hid ha
 have HT := Lib.hid (ht.on hb0)
 have HH := Lib.hid h
 clear ht h ha hb0
 cases b0 <;> cases b1 <;> cases b3
 rotate_left 7
 · go_enter Tryz.func115, Tryz.ntmps115
   have HO0 := Lib.hid (OwnInts.nil (w.alloc (.cells #[.int .u8 op, .int .i64 ty, .int .i64 a, .int .i64 b, .int .i64 n, .slice A args.length ca, .slice F lf cf] 74)) w.heap.size)
   have x0 := KX0.out.cells 0
   have x1 := KX0.out.cells 1
   have x2 := KX0.out.cells 2
   have x3 := KX0.out.cells 3
   have x4 := KX0.out.cells 4
   have x5 := KX0.out.cells 5
   have x6 := KX0.out.cells 6
   go_wp2_with fail
   refine (of_is HH.out hop _ HT.out).mono ?_
   rintro e w1 ⟨rfl, hb⟩
   clear x0 x1 x2 x3 x4 x5 x6
   have KX1 := Lib.hid (KX0.out.beneath hb)
   have HQ1 := Lib.hid (HQ0.out.trans (hb.mono HQ0.out.size))
   have HO1 := Lib.hid (HO0.out.keep hb)
   clear hb
   have hb : Below w1.heap.size w1 (w1.alloc (.cells #[.bool true, .bool true, .bool b2, .bool true, .bool b4, .bool b5] 173)) := (Below.refl _ _).alloc (Nat.le_refl _) _
   have KX2 := Lib.hid (KX1.out.beneath hb)
   have HQ2 := Lib.hid (HQ1.out.trans (hb.mono HQ1.out.size))
   have HO2 := Lib.hid (HO1.out.keep hb)
   clear hb
   have KH2 := Lib.hid (Blk.new w1 173 #[.bool true, .bool true, .bool b2, .bool true, .bool b4, .bool b5])
   have x0 := KX2.out.cells 0
   have x1 := KX2.out.cells 1
   have x2 := KX2.out.cells 2
   have x3 := KX2.out.cells 3
   have x4 := KX2.out.cells 4
   have x5 := KX2.out.cells 5
   have x6 := KX2.out.cells 6
   have g0 := KH2.out.cells 0
   have g1 := KH2.out.cells 1
   have g2 := KH2.out.cells 2
   have g3 := KH2.out.cells 3
   have g4 := KH2.out.cells 4
   have g5 := KH2.out.cells 5
   have hlo := HQ2.out.size
   go_wp2_with (at_builtin; refine wpList_app1 rfl (.tmp 9) (.tmp 12) rfl w.heap.size _ [] rfl a HO2.out (by first | rfl | (rw [World.size_alloc]; rfl)) (by simp) hlo ?_; intro v2 w2 hown hg; refine pause ?_)
   clear hlo
   clear x0 x1 x2 x3 x4 x5 x6 g0 g1 g2 g3 g4 g5
   have hne := HO2.out.base
   have KX3 := Lib.hid (Blk.grown (KX2.out.alloc _) hg (HO2.out.ne KX2.out (by decide)))
   have KH3 := Lib.hid (Blk.grown (KH2.out.alloc _) hg (HO2.out.ne KH2.out (by decide)))
   have HQ3 := Lib.hid (Below.grown (HQ2.out.alloc HQ2.out.size _) hg (HQ2.out.alloc HQ2.out.size _).size hne)
   have HO3 := Lib.hid hown
   clear hown hg hne
   refine resume ?_
   have x0 := KX3.out.cells 0
   have x1 := KX3.out.cells 1
   have x2 := KX3.out.cells 2
   have x3 := KX3.out.cells 3
   have x4 := KX3.out.cells 4
   have x5 := KX3.out.cells 5
   have x6 := KX3.out.cells 6
   have g0 := KH3.out.cells 0
   have g1 := KH3.out.cells 1
   have g2 := KH3.out.cells 2
   have g3 := KH3.out.cells 3
   have g4 := KH3.out.cells 4
   have g5 := KH3.out.cells 5
   have hlo := HQ3.out.size
   go_wp2_with (at_builtin; refine wpList_app1 rfl (.tmp 16) (.tmp 19) rfl w.heap.size _ ([] ++ [a]) rfl b HO3.out (by first | rfl | (rw [World.size_alloc]; rfl)) (by simp) hlo ?_; intro v3 w3 hown hg; refine pause ?_)
   clear hlo
   clear x0 x1 x2 x3 x4 x5 x6 g0 g1 g2 g3 g4 g5
   have hne := HO3.out.base
   have KX4 := Lib.hid (Blk.grown (KX3.out.alloc _) hg (HO3.out.ne KX3.out (by decide)))
   have KH4 := Lib.hid (Blk.grown (KH3.out.alloc _) hg (HO3.out.ne KH3.out (by decide)))
   have HQ4 := Lib.hid (Below.grown (HQ3.out.alloc HQ3.out.size _) hg (HQ3.out.alloc HQ3.out.size _).size hne)
   have HO4 := Lib.hid hown
   clear hown hg hne
   refine resume ?_
   have x0 := KX4.out.cells 0
   have x1 := KX4.out.cells 1
   have x2 := KX4.out.cells 2
   have x3 := KX4.out.cells 3
   have x4 := KX4.out.cells 4
   have x5 := KX4.out.cells 5
   have x6 := KX4.out.cells 6
   have g0 := KH4.out.cells 0
   have g1 := KH4.out.cells 1
   have g2 := KH4.out.cells 2
   have g3 := KH4.out.cells 3
   have g4 := KH4.out.cells 4
   have g5 := KH4.out.cells 5
   have hlo := HQ4.out.size
   go_wp2_with (at_builtin; refine wpList_appN rfl (.tmp 23) (.tmp 25) rfl w.heap.size 0 w.heap.size _ (([] ++ [a]) ++ [b]) rfl HO4.out A args.length ca args rfl rfl hd.nil (HA.out.keep HQ4.out) (by simp; omega) hlo ?_; intro v4 w4 hown hg; refine pause ?_)
   clear hlo
   clear x0 x1 x2 x3 x4 x5 x6 g0 g1 g2 g3 g4 g5
   have hne := HO4.out.base
   have KX5 := Lib.hid (Blk.grown KX4.out hg (HO4.out.ne KX4.out (by decide)))
   have KH5 := Lib.hid (Blk.grown KH4.out hg (HO4.out.ne KH4.out (by decide)))
   have HQ5 := Lib.hid (Below.grown HQ4.out hg HQ4.out.size hne)
   have HO5 := Lib.hid hown
   clear hown hg hne
   refine resume ?_
   have x0 := KX5.out.cells 0
   have x1 := KX5.out.cells 1
   have x2 := KX5.out.cells 2
   have x3 := KX5.out.cells 3
   have x4 := KX5.out.cells 4
   have x5 := KX5.out.cells 5
   have x6 := KX5.out.cells 6
   have g0 := KH5.out.cells 0
   have g1 := KH5.out.cells 1
   have g2 := KH5.out.cells 2
   have g3 := KH5.out.cells 3
   have g4 := KH5.out.cells 4
   have g5 := KH5.out.cells 5
   go_wp2_with fail
   go_ret
   refine ⟨_, rfl, ?_, HQ5.out⟩
   have hfin := HO5.out
   simpa [usesL] using hfin
 · go_enter Tryz.func115, Tryz.ntmps115
   have HO0 := Lib.hid (OwnInts.nil (w.alloc (.cells #[.int .u8 op, .int .i64 ty, .int .i64 a, .int .i64 b, .int .i64 n, .slice A args.length ca, .slice F lf cf] 74)) w.heap.size)
   have x0 := KX0.out.cells 0
   have x1 := KX0.out.cells 1
   have x2 := KX0.out.cells 2
   have x3 := KX0.out.cells 3
   have x4 := KX0.out.cells 4
   have x5 := KX0.out.cells 5
   have x6 := KX0.out.cells 6
   go_wp2_with fail
   refine (of_is HH.out hop _ HT.out).mono ?_
   rintro e w1 ⟨rfl, hb⟩
   clear x0 x1 x2 x3 x4 x5 x6
   have KX1 := Lib.hid (KX0.out.beneath hb)
   have HQ1 := Lib.hid (HQ0.out.trans (hb.mono HQ0.out.size))
   have HO1 := Lib.hid (HO0.out.keep hb)
   clear hb
   have hb : Below w1.heap.size w1 (w1.alloc (.cells #[.bool false, .bool false, .bool b2, .bool false, .bool b4, .bool b5] 173)) := (Below.refl _ _).alloc (Nat.le_refl _) _
   have KX2 := Lib.hid (KX1.out.beneath hb)
   have HQ2 := Lib.hid (HQ1.out.trans (hb.mono HQ1.out.size))
   have HO2 := Lib.hid (HO1.out.keep hb)
   clear hb
   have KH2 := Lib.hid (Blk.new w1 173 #[.bool false, .bool false, .bool b2, .bool false, .bool b4, .bool b5])
   have x0 := KX2.out.cells 0
   have x1 := KX2.out.cells 1
   have x2 := KX2.out.cells 2
   have x3 := KX2.out.cells 3
   have x4 := KX2.out.cells 4
   have x5 := KX2.out.cells 5
   have x6 := KX2.out.cells 6
   have g0 := KH2.out.cells 0
   have g1 := KH2.out.cells 1
   have g2 := KH2.out.cells 2
   have g3 := KH2.out.cells 3
   have g4 := KH2.out.cells 4
   have g5 := KH2.out.cells 5
   go_wp2_with fail
   go_ret
   refine ⟨_, rfl, ?_, HQ2.out⟩
   have hfin := HO2.out
   simpa [usesL] using hfin
 · go_enter Tryz.func115, Tryz.ntmps115
   have HO0 := Lib.hid (OwnInts.nil (w.alloc (.cells #[.int .u8 op, .int .i64 ty, .int .i64 a, .int .i64 b, .int .i64 n, .slice A args.length ca, .slice F lf cf] 74)) w.heap.size)
   have x0 := KX0.out.cells 0
   have x1 := KX0.out.cells 1
   have x2 := KX0.out.cells 2
   have x3 := KX0.out.cells 3
   have x4 := KX0.out.cells 4
   have x5 := KX0.out.cells 5
   have x6 := KX0.out.cells 6
   go_wp2_with fail
   refine (of_is HH.out hop _ HT.out).mono ?_
   rintro e w1 ⟨rfl, hb⟩
   clear x0 x1 x2 x3 x4 x5 x6
   have KX1 := Lib.hid (KX0.out.beneath hb)
   have HQ1 := Lib.hid (HQ0.out.trans (hb.mono HQ0.out.size))
   have HO1 := Lib.hid (HO0.out.keep hb)
   clear hb
   have hb : Below w1.heap.size w1 (w1.alloc (.cells #[.bool false, .bool false, .bool b2, .bool true, .bool b4, .bool b5] 173)) := (Below.refl _ _).alloc (Nat.le_refl _) _
   have KX2 := Lib.hid (KX1.out.beneath hb)
   have HQ2 := Lib.hid (HQ1.out.trans (hb.mono HQ1.out.size))
   have HO2 := Lib.hid (HO1.out.keep hb)
   clear hb
   have KH2 := Lib.hid (Blk.new w1 173 #[.bool false, .bool false, .bool b2, .bool true, .bool b4, .bool b5])
   have x0 := KX2.out.cells 0
   have x1 := KX2.out.cells 1
   have x2 := KX2.out.cells 2
   have x3 := KX2.out.cells 3
   have x4 := KX2.out.cells 4
   have x5 := KX2.out.cells 5
   have x6 := KX2.out.cells 6
   have g0 := KH2.out.cells 0
   have g1 := KH2.out.cells 1
   have g2 := KH2.out.cells 2
   have g3 := KH2.out.cells 3
   have g4 := KH2.out.cells 4
   have g5 := KH2.out.cells 5
   have hlo := HQ2.out.size
   go_wp2_with (at_builtin; refine wpList_appN rfl (.tmp 23) (.tmp 25) rfl w.heap.size 0 w.heap.size _ [] rfl HO2.out A args.length ca args rfl rfl hd.nil (HA.out.keep HQ2.out) (by simp; omega) hlo ?_; intro v2 w2 hown hg; refine pause ?_)
   clear hlo
   clear x0 x1 x2 x3 x4 x5 x6 g0 g1 g2 g3 g4 g5
   have hne := HO2.out.base
   have KX3 := Lib.hid (Blk.grown KX2.out hg (HO2.out.ne KX2.out (by decide)))
   have KH3 := Lib.hid (Blk.grown KH2.out hg (HO2.out.ne KH2.out (by decide)))
   have HQ3 := Lib.hid (Below.grown HQ2.out hg HQ2.out.size hne)
   have HO3 := Lib.hid hown
   clear hown hg hne
   refine resume ?_
   have x0 := KX3.out.cells 0
   have x1 := KX3.out.cells 1
   have x2 := KX3.out.cells 2
   have x3 := KX3.out.cells 3
   have x4 := KX3.out.cells 4
   have x5 := KX3.out.cells 5
   have x6 := KX3.out.cells 6
   have g0 := KH3.out.cells 0
   have g1 := KH3.out.cells 1
   have g2 := KH3.out.cells 2
   have g3 := KH3.out.cells 3
   have g4 := KH3.out.cells 4
   have g5 := KH3.out.cells 5
   go_wp2_with fail
   go_ret
   refine ⟨_, rfl, ?_, HQ3.out⟩
   have hfin := HO3.out
   simpa [usesL] using hfin
 · go_enter Tryz.func115, Tryz.ntmps115
   have HO0 := Lib.hid (OwnInts.nil (w.alloc (.cells #[.int .u8 op, .int .i64 ty, .int .i64 a, .int .i64 b, .int .i64 n, .slice A args.length ca, .slice F lf cf] 74)) w.heap.size)
   have x0 := KX0.out.cells 0
   have x1 := KX0.out.cells 1
   have x2 := KX0.out.cells 2
   have x3 := KX0.out.cells 3
   have x4 := KX0.out.cells 4
   have x5 := KX0.out.cells 5
   have x6 := KX0.out.cells 6
   go_wp2_with fail
   refine (of_is HH.out hop _ HT.out).mono ?_
   rintro e w1 ⟨rfl, hb⟩
   clear x0 x1 x2 x3 x4 x5 x6
   have KX1 := Lib.hid (KX0.out.beneath hb)
   have HQ1 := Lib.hid (HQ0.out.trans (hb.mono HQ0.out.size))
   have HO1 := Lib.hid (HO0.out.keep hb)
   clear hb
   have hb : Below w1.heap.size w1 (w1.alloc (.cells #[.bool false, .bool true, .bool b2, .bool false, .bool b4, .bool b5] 173)) := (Below.refl _ _).alloc (Nat.le_refl _) _
   have KX2 := Lib.hid (KX1.out.beneath hb)
   have HQ2 := Lib.hid (HQ1.out.trans (hb.mono HQ1.out.size))
   have HO2 := Lib.hid (HO1.out.keep hb)
   clear hb
   have KH2 := Lib.hid (Blk.new w1 173 #[.bool false, .bool true, .bool b2, .bool false, .bool b4, .bool b5])
   have x0 := KX2.out.cells 0
   have x1 := KX2.out.cells 1
   have x2 := KX2.out.cells 2
   have x3 := KX2.out.cells 3
   have x4 := KX2.out.cells 4
   have x5 := KX2.out.cells 5
   have x6 := KX2.out.cells 6
   have g0 := KH2.out.cells 0
   have g1 := KH2.out.cells 1
   have g2 := KH2.out.cells 2
   have g3 := KH2.out.cells 3
   have g4 := KH2.out.cells 4
   have g5 := KH2.out.cells 5
   have hlo := HQ2.out.size
   go_wp2_with (at_builtin; refine wpList_app1 rfl (.tmp 16) (.tmp 19) rfl w.heap.size _ [] rfl b HO2.out (by first | rfl | (rw [World.size_alloc]; rfl)) (by simp) hlo ?_; intro v2 w2 hown hg; refine pause ?_)
   clear hlo
   clear x0 x1 x2 x3 x4 x5 x6 g0 g1 g2 g3 g4 g5
   have hne := HO2.out.base
   have KX3 := Lib.hid (Blk.grown (KX2.out.alloc _) hg (HO2.out.ne KX2.out (by decide)))
   have KH3 := Lib.hid (Blk.grown (KH2.out.alloc _) hg (HO2.out.ne KH2.out (by decide)))
   have HQ3 := Lib.hid (Below.grown (HQ2.out.alloc HQ2.out.size _) hg (HQ2.out.alloc HQ2.out.size _).size hne)
   have HO3 := Lib.hid hown
   clear hown hg hne
   refine resume ?_
   have x0 := KX3.out.cells 0
   have x1 := KX3.out.cells 1
   have x2 := KX3.out.cells 2
   have x3 := KX3.out.cells 3
   have x4 := KX3.out.cells 4
   have x5 := KX3.out.cells 5
   have x6 := KX3.out.cells 6
   have g0 := KH3.out.cells 0
   have g1 := KH3.out.cells 1
   have g2 := KH3.out.cells 2
   have g3 := KH3.out.cells 3
   have g4 := KH3.out.cells 4
   have g5 := KH3.out.cells 5
   go_wp2_with fail
   go_ret
   refine ⟨_, rfl, ?_, HQ3.out⟩
   have hfin := HO3.out
   simpa [usesL] using hfin
 · go_enter Tryz.func115, Tryz.ntmps115
   have HO0 := Lib.hid (OwnInts.nil (w.alloc (.cells #[.int .u8 op, .int .i64 ty, .int .i64 a, .int .i64 b, .int .i64 n, .slice A args.length ca, .slice F lf cf] 74)) w.heap.size)
   have x0 := KX0.out.cells 0
   have x1 := KX0.out.cells 1
   have x2 := KX0.out.cells 2
   have x3 := KX0.out.cells 3
   have x4 := KX0.out.cells 4
   have x5 := KX0.out.cells 5
   have x6 := KX0.out.cells 6
   go_wp2_with fail
   refine (of_is HH.out hop _ HT.out).mono ?_
   rintro e w1 ⟨rfl, hb⟩
   clear x0 x1 x2 x3 x4 x5 x6
   have KX1 := Lib.hid (KX0.out.beneath hb)
   have HQ1 := Lib.hid (HQ0.out.trans (hb.mono HQ0.out.size))
   have HO1 := Lib.hid (HO0.out.keep hb)
   clear hb
   have hb : Below w1.heap.size w1 (w1.alloc (.cells #[.bool false, .bool true, .bool b2, .bool true, .bool b4, .bool b5] 173)) := (Below.refl _ _).alloc (Nat.le_refl _) _
   have KX2 := Lib.hid (KX1.out.beneath hb)
   have HQ2 := Lib.hid (HQ1.out.trans (hb.mono HQ1.out.size))
   have HO2 := Lib.hid (HO1.out.keep hb)
   clear hb
   have KH2 := Lib.hid (Blk.new w1 173 #[.bool false, .bool true, .bool b2, .bool true, .bool b4, .bool b5])
   have x0 := KX2.out.cells 0
   have x1 := KX2.out.cells 1
   have x2 := KX2.out.cells 2
   have x3 := KX2.out.cells 3
   have x4 := KX2.out.cells 4
   have x5 := KX2.out.cells 5
   have x6 := KX2.out.cells 6
   have g0 := KH2.out.cells 0
   have g1 := KH2.out.cells 1
   have g2 := KH2.out.cells 2
   have g3 := KH2.out.cells 3
   have g4 := KH2.out.cells 4
   have g5 := KH2.out.cells 5
   have hlo := HQ2.out.size
   go_wp2_with (at_builtin; refine wpList_app1 rfl (.tmp 16) (.tmp 19) rfl w.heap.size _ [] rfl b HO2.out (by first | rfl | (rw [World.size_alloc]; rfl)) (by simp) hlo ?_; intro v2 w2 hown hg; refine pause ?_)
   clear hlo
   clear x0 x1 x2 x3 x4 x5 x6 g0 g1 g2 g3 g4 g5
   have hne := HO2.out.base
   have KX3 := Lib.hid (Blk.grown (KX2.out.alloc _) hg (HO2.out.ne KX2.out (by decide)))
   have KH3 := Lib.hid (Blk.grown (KH2.out.alloc _) hg (HO2.out.ne KH2.out (by decide)))
   have HQ3 := Lib.hid (Below.grown (HQ2.out.alloc HQ2.out.size _) hg (HQ2.out.alloc HQ2.out.size _).size hne)
   have HO3 := Lib.hid hown
   clear hown hg hne
   refine resume ?_
   have x0 := KX3.out.cells 0
   have x1 := KX3.out.cells 1
   have x2 := KX3.out.cells 2
   have x3 := KX3.out.cells 3
   have x4 := KX3.out.cells 4
   have x5 := KX3.out.cells 5
   have x6 := KX3.out.cells 6
   have g0 := KH3.out.cells 0
   have g1 := KH3.out.cells 1
   have g2 := KH3.out.cells 2
   have g3 := KH3.out.cells 3
   have g4 := KH3.out.cells 4
   have g5 := KH3.out.cells 5
   have hlo := HQ3.out.size
   go_wp2_with (at_builtin; refine wpList_appN rfl (.tmp 23) (.tmp 25) rfl w.heap.size 0 w.heap.size _ ([] ++ [b]) rfl HO3.out A args.length ca args rfl rfl hd.nil (HA.out.keep HQ3.out) (by simp; omega) hlo ?_; intro v3 w3 hown hg; refine pause ?_)
   clear hlo
   clear x0 x1 x2 x3 x4 x5 x6 g0 g1 g2 g3 g4 g5
   have hne := HO3.out.base
   have KX4 := Lib.hid (Blk.grown KX3.out hg (HO3.out.ne KX3.out (by decide)))
   have KH4 := Lib.hid (Blk.grown KH3.out hg (HO3.out.ne KH3.out (by decide)))
   have HQ4 := Lib.hid (Below.grown HQ3.out hg HQ3.out.size hne)
   have HO4 := Lib.hid hown
   clear hown hg hne
   refine resume ?_
   have x0 := KX4.out.cells 0
   have x1 := KX4.out.cells 1
   have x2 := KX4.out.cells 2
   have x3 := KX4.out.cells 3
   have x4 := KX4.out.cells 4
   have x5 := KX4.out.cells 5
   have x6 := KX4.out.cells 6
   have g0 := KH4.out.cells 0
   have g1 := KH4.out.cells 1
   have g2 := KH4.out.cells 2
   have g3 := KH4.out.cells 3
   have g4 := KH4.out.cells 4
   have g5 := KH4.out.cells 5
   go_wp2_with fail
   go_ret
   refine ⟨_, rfl, ?_, HQ4.out⟩
   have hfin := HO4.out
   simpa [usesL] using hfin
 · go_enter Tryz.func115, Tryz.ntmps115
   have HO0 := Lib.hid (OwnInts.nil (w.alloc (.cells #[.int .u8 op, .int .i64 ty, .int .i64 a, .int .i64 b, .int .i64 n, .slice A args.length ca, .slice F lf cf] 74)) w.heap.size)
   have x0 := KX0.out.cells 0
   have x1 := KX0.out.cells 1
   have x2 := KX0.out.cells 2
   have x3 := KX0.out.cells 3
   have x4 := KX0.out.cells 4
   have x5 := KX0.out.cells 5
   have x6 := KX0.out.cells 6
   go_wp2_with fail
   refine (of_is HH.out hop _ HT.out).mono ?_
   rintro e w1 ⟨rfl, hb⟩
   clear x0 x1 x2 x3 x4 x5 x6
   have KX1 := Lib.hid (KX0.out.beneath hb)
   have HQ1 := Lib.hid (HQ0.out.trans (hb.mono HQ0.out.size))
   have HO1 := Lib.hid (HO0.out.keep hb)
   clear hb
   have hb : Below w1.heap.size w1 (w1.alloc (.cells #[.bool true, .bool false, .bool b2, .bool false, .bool b4, .bool b5] 173)) := (Below.refl _ _).alloc (Nat.le_refl _) _
   have KX2 := Lib.hid (KX1.out.beneath hb)
   have HQ2 := Lib.hid (HQ1.out.trans (hb.mono HQ1.out.size))
   have HO2 := Lib.hid (HO1.out.keep hb)
   clear hb
   have KH2 := Lib.hid (Blk.new w1 173 #[.bool true, .bool false, .bool b2, .bool false, .bool b4, .bool b5])
   have x0 := KX2.out.cells 0
   have x1 := KX2.out.cells 1
   have x2 := KX2.out.cells 2
   have x3 := KX2.out.cells 3
   have x4 := KX2.out.cells 4
   have x5 := KX2.out.cells 5
   have x6 := KX2.out.cells 6
   have g0 := KH2.out.cells 0
   have g1 := KH2.out.cells 1
   have g2 := KH2.out.cells 2
   have g3 := KH2.out.cells 3
   have g4 := KH2.out.cells 4
   have g5 := KH2.out.cells 5
   have hlo := HQ2.out.size
   go_wp2_with (at_builtin; refine wpList_app1 rfl (.tmp 9) (.tmp 12) rfl w.heap.size _ [] rfl a HO2.out (by first | rfl | (rw [World.size_alloc]; rfl)) (by simp) hlo ?_; intro v2 w2 hown hg; refine pause ?_)
   clear hlo
   clear x0 x1 x2 x3 x4 x5 x6 g0 g1 g2 g3 g4 g5
   have hne := HO2.out.base
   have KX3 := Lib.hid (Blk.grown (KX2.out.alloc _) hg (HO2.out.ne KX2.out (by decide)))
   have KH3 := Lib.hid (Blk.grown (KH2.out.alloc _) hg (HO2.out.ne KH2.out (by decide)))
   have HQ3 := Lib.hid (Below.grown (HQ2.out.alloc HQ2.out.size _) hg (HQ2.out.alloc HQ2.out.size _).size hne)
   have HO3 := Lib.hid hown
   clear hown hg hne
   refine resume ?_
   have x0 := KX3.out.cells 0
   have x1 := KX3.out.cells 1
   have x2 := KX3.out.cells 2
   have x3 := KX3.out.cells 3
   have x4 := KX3.out.cells 4
   have x5 := KX3.out.cells 5
   have x6 := KX3.out.cells 6
   have g0 := KH3.out.cells 0
   have g1 := KH3.out.cells 1
   have g2 := KH3.out.cells 2
   have g3 := KH3.out.cells 3
   have g4 := KH3.out.cells 4
   have g5 := KH3.out.cells 5
   go_wp2_with fail
   go_ret
   refine ⟨_, rfl, ?_, HQ3.out⟩
   have hfin := HO3.out
   simpa [usesL] using hfin
 · go_enter Tryz.func115, Tryz.ntmps115
   have HO0 := Lib.hid (OwnInts.nil (w.alloc (.cells #[.int .u8 op, .int .i64 ty, .int .i64 a, .int .i64 b, .int .i64 n, .slice A args.length ca, .slice F lf cf] 74)) w.heap.size)
   have x0 := KX0.out.cells 0
   have x1 := KX0.out.cells 1
   have x2 := KX0.out.cells 2
   have x3 := KX0.out.cells 3
   have x4 := KX0.out.cells 4
   have x5 := KX0.out.cells 5
   have x6 := KX0.out.cells 6
   go_wp2_with fail
   refine (of_is HH.out hop _ HT.out).mono ?_
   rintro e w1 ⟨rfl, hb⟩
   clear x0 x1 x2 x3 x4 x5 x6
   have KX1 := Lib.hid (KX0.out.beneath hb)
   have HQ1 := Lib.hid (HQ0.out.trans (hb.mono HQ0.out.size))
   have HO1 := Lib.hid (HO0.out.keep hb)
   clear hb
   have hb : Below w1.heap.size w1 (w1.alloc (.cells #[.bool true, .bool false, .bool b2, .bool true, .bool b4, .bool b5] 173)) := (Below.refl _ _).alloc (Nat.le_refl _) _
   have KX2 := Lib.hid (KX1.out.beneath hb)
   have HQ2 := Lib.hid (HQ1.out.trans (hb.mono HQ1.out.size))
   have HO2 := Lib.hid (HO1.out.keep hb)
   clear hb
   have KH2 := Lib.hid (Blk.new w1 173 #[.bool true, .bool false, .bool b2, .bool true, .bool b4, .bool b5])
   have x0 := KX2.out.cells 0
   have x1 := KX2.out.cells 1
   have x2 := KX2.out.cells 2
   have x3 := KX2.out.cells 3
   have x4 := KX2.out.cells 4
   have x5 := KX2.out.cells 5
   have x6 := KX2.out.cells 6
   have g0 := KH2.out.cells 0
   have g1 := KH2.out.cells 1
   have g2 := KH2.out.cells 2
   have g3 := KH2.out.cells 3
   have g4 := KH2.out.cells 4
   have g5 := KH2.out.cells 5
   have hlo := HQ2.out.size
   go_wp2_with (at_builtin; refine wpList_app1 rfl (.tmp 9) (.tmp 12) rfl w.heap.size _ [] rfl a HO2.out (by first | rfl | (rw [World.size_alloc]; rfl)) (by simp) hlo ?_; intro v2 w2 hown hg; refine pause ?_)
   clear hlo
   clear x0 x1 x2 x3 x4 x5 x6 g0 g1 g2 g3 g4 g5
   have hne := HO2.out.base
   have KX3 := Lib.hid (Blk.grown (KX2.out.alloc _) hg (HO2.out.ne KX2.out (by decide)))
   have KH3 := Lib.hid (Blk.grown (KH2.out.alloc _) hg (HO2.out.ne KH2.out (by decide)))
   have HQ3 := Lib.hid (Below.grown (HQ2.out.alloc HQ2.out.size _) hg (HQ2.out.alloc HQ2.out.size _).size hne)
   have HO3 := Lib.hid hown
   clear hown hg hne
   refine resume ?_
   have x0 := KX3.out.cells 0
   have x1 := KX3.out.cells 1
   have x2 := KX3.out.cells 2
   have x3 := KX3.out.cells 3
   have x4 := KX3.out.cells 4
   have x5 := KX3.out.cells 5
   have x6 := KX3.out.cells 6
   have g0 := KH3.out.cells 0
   have g1 := KH3.out.cells 1
   have g2 := KH3.out.cells 2
   have g3 := KH3.out.cells 3
   have g4 := KH3.out.cells 4
   have g5 := KH3.out.cells 5
   have hlo := HQ3.out.size
   go_wp2_with (at_builtin; refine wpList_appN rfl (.tmp 23) (.tmp 25) rfl w.heap.size 0 w.heap.size _ ([] ++ [a]) rfl HO3.out A args.length ca args rfl rfl hd.nil (HA.out.keep HQ3.out) (by simp; omega) hlo ?_; intro v3 w3 hown hg; refine pause ?_)
   clear hlo
   clear x0 x1 x2 x3 x4 x5 x6 g0 g1 g2 g3 g4 g5
   have hne := HO3.out.base
   have KX4 := Lib.hid (Blk.grown KX3.out hg (HO3.out.ne KX3.out (by decide)))
   have KH4 := Lib.hid (Blk.grown KH3.out hg (HO3.out.ne KH3.out (by decide)))
   have HQ4 := Lib.hid (Below.grown HQ3.out hg HQ3.out.size hne)
   have HO4 := Lib.hid hown
   clear hown hg hne
   refine resume ?_
   have x0 := KX4.out.cells 0
   have x1 := KX4.out.cells 1
   have x2 := KX4.out.cells 2
   have x3 := KX4.out.cells 3
   have x4 := KX4.out.cells 4
   have x5 := KX4.out.cells 5
   have x6 := KX4.out.cells 6
   have g0 := KH4.out.cells 0
   have g1 := KH4.out.cells 1
   have g2 := KH4.out.cells 2
   have g3 := KH4.out.cells 3
   have g4 := KH4.out.cells 4
   have g5 := KH4.out.cells 5
   go_wp2_with fail
   go_ret
   refine ⟨_, rfl, ?_, HQ4.out⟩
   have hfin := HO4.out
   simpa [usesL] using hfin
 · go_enter Tryz.func115, Tryz.ntmps115
   have HO0 := Lib.hid (OwnInts.nil (w.alloc (.cells #[.int .u8 op, .int .i64 ty, .int .i64 a, .int .i64 b, .int .i64 n, .slice A args.length ca, .slice F lf cf] 74)) w.heap.size)
   have x0 := KX0.out.cells 0
   have x1 := KX0.out.cells 1
   have x2 := KX0.out.cells 2
   have x3 := KX0.out.cells 3
   have x4 := KX0.out.cells 4
   have x5 := KX0.out.cells 5
   have x6 := KX0.out.cells 6
   go_wp2_with fail
   refine (of_is HH.out hop _ HT.out).mono ?_
   rintro e w1 ⟨rfl, hb⟩
   clear x0 x1 x2 x3 x4 x5 x6
   have KX1 := Lib.hid (KX0.out.beneath hb)
   have HQ1 := Lib.hid (HQ0.out.trans (hb.mono HQ0.out.size))
   have HO1 := Lib.hid (HO0.out.keep hb)
   clear hb
   have hb : Below w1.heap.size w1 (w1.alloc (.cells #[.bool true, .bool true, .bool b2, .bool false, .bool b4, .bool b5] 173)) := (Below.refl _ _).alloc (Nat.le_refl _) _
   have KX2 := Lib.hid (KX1.out.beneath hb)
   have HQ2 := Lib.hid (HQ1.out.trans (hb.mono HQ1.out.size))
   have HO2 := Lib.hid (HO1.out.keep hb)
   clear hb
   have KH2 := Lib.hid (Blk.new w1 173 #[.bool true, .bool true, .bool b2, .bool false, .bool b4, .bool b5])
   have x0 := KX2.out.cells 0
   have x1 := KX2.out.cells 1
   have x2 := KX2.out.cells 2
   have x3 := KX2.out.cells 3
   have x4 := KX2.out.cells 4
   have x5 := KX2.out.cells 5
   have x6 := KX2.out.cells 6
   have g0 := KH2.out.cells 0
   have g1 := KH2.out.cells 1
   have g2 := KH2.out.cells 2
   have g3 := KH2.out.cells 3
   have g4 := KH2.out.cells 4
   have g5 := KH2.out.cells 5
   have hlo := HQ2.out.size
   go_wp2_with (at_builtin; refine wpList_app1 rfl (.tmp 9) (.tmp 12) rfl w.heap.size _ [] rfl a HO2.out (by first | rfl | (rw [World.size_alloc]; rfl)) (by simp) hlo ?_; intro v2 w2 hown hg; refine pause ?_)
   clear hlo
   clear x0 x1 x2 x3 x4 x5 x6 g0 g1 g2 g3 g4 g5
   have hne := HO2.out.base
   have KX3 := Lib.hid (Blk.grown (KX2.out.alloc _) hg (HO2.out.ne KX2.out (by decide)))
   have KH3 := Lib.hid (Blk.grown (KH2.out.alloc _) hg (HO2.out.ne KH2.out (by decide)))
   have HQ3 := Lib.hid (Below.grown (HQ2.out.alloc HQ2.out.size _) hg (HQ2.out.alloc HQ2.out.size _).size hne)
   have HO3 := Lib.hid hown
   clear hown hg hne
   refine resume ?_
   have x0 := KX3.out.cells 0
   have x1 := KX3.out.cells 1
   have x2 := KX3.out.cells 2
   have x3 := KX3.out.cells 3
   have x4 := KX3.out.cells 4
   have x5 := KX3.out.cells 5
   have x6 := KX3.out.cells 6
   have g0 := KH3.out.cells 0
   have g1 := KH3.out.cells 1
   have g2 := KH3.out.cells 2
   have g3 := KH3.out.cells 3
   have g4 := KH3.out.cells 4
   have g5 := KH3.out.cells 5
   have hlo := HQ3.out.size
   go_wp2_with (at_builtin; refine wpList_app1 rfl (.tmp 16) (.tmp 19) rfl w.heap.size _ ([] ++ [a]) rfl b HO3.out (by first | rfl | (rw [World.size_alloc]; rfl)) (by simp) hlo ?_; intro v3 w3 hown hg; refine pause ?_)
   clear hlo
   clear x0 x1 x2 x3 x4 x5 x6 g0 g1 g2 g3 g4 g5
   have hne := HO3.out.base
   have KX4 := Lib.hid (Blk.grown (KX3.out.alloc _) hg (HO3.out.ne KX3.out (by decide)))
   have KH4 := Lib.hid (Blk.grown (KH3.out.alloc _) hg (HO3.out.ne KH3.out (by decide)))
   have HQ4 := Lib.hid (Below.grown (HQ3.out.alloc HQ3.out.size _) hg (HQ3.out.alloc HQ3.out.size _).size hne)
   have HO4 := Lib.hid hown
   clear hown hg hne
   refine resume ?_
   have x0 := KX4.out.cells 0
   have x1 := KX4.out.cells 1
   have x2 := KX4.out.cells 2
   have x3 := KX4.out.cells 3
   have x4 := KX4.out.cells 4
   have x5 := KX4.out.cells 5
   have x6 := KX4.out.cells 6
   have g0 := KH4.out.cells 0
   have g1 := KH4.out.cells 1
   have g2 := KH4.out.cells 2
   have g3 := KH4.out.cells 3
   have g4 := KH4.out.cells 4
   have g5 := KH4.out.cells 5
   go_wp2_with fail
   go_ret
   refine ⟨_, rfl, ?_, HQ4.out⟩
   have hfin := HO4.out
   simpa [usesL] using hfin
set_option maxRecDepth 100000 in
set_option maxHeartbeats 1600000 in
theorem ruses_any {op : Nat} {b0 b1 b3 : Bool} (h0 : hasT op 0 = b0) (h1 : hasT op 1 = b1) (h3 : hasT op 3 = b3) (ty a b n : Int) {A : Option Addr} {ca : Nat} {args : List Int} (hd : Hdr A args.length ca) {w : World} (ha : IntsAt w 0 w.heap.size A args) (hl : args.length ≤ 1000) (F : Option Addr) (lf cf : Nat) :
 Calls Tryz.prog 124 #[insV op ty a b n A args.length ca F lf cf] w (SomeInts (usesL b0 b1 b3 a b args) w) := by
 have hb0 : Below w.heap.size w (w.alloc (.cells #[.int .u8 op, .int .i64 ty, .int .i64 a, .int .i64 b, .int .i64 n, .slice A args.length ca, .slice F lf cf] 74)) := (Below.refl _ _).alloc (Nat.le_refl _) _
 have HQ0 := Lib.hid hb0
 have KX0 := Lib.hid (Blk.new w 74 #[.int .u8 op, .int .i64 ty, .int .i64 a, .int .i64 b, .int .i64 n, .slice A args.length ca, .slice F lf cf])
 have HA := Lib.hid ha
 have H0 := Lib.hid h0
 have H1 := Lib.hid h1
 have H3 := Lib.hid h3
 clear ha hb0 h0 h1 h3
 cases b0 <;> cases b1 <;> cases b3
 rotate_left 7
 · go_enter Tryz.func124, Tryz.ntmps124
   have HO0 := Lib.hid (OwnInts.nil (w.alloc (.cells #[.int .u8 op, .int .i64 ty, .int .i64 a, .int .i64 b, .int .i64 n, .slice A args.length ca, .slice F lf cf] 74)) w.heap.size)
   have x0 := KX0.out.cells 0
   have x1 := KX0.out.cells 1
   have x2 := KX0.out.cells 2
   have x3 := KX0.out.cells 3
   have x4 := KX0.out.cells 4
   have x5 := KX0.out.cells 5
   have x6 := KX0.out.cells 6
   go_wp2_with fail
   have hc := rhasa_any op (w.alloc (.cells #[.int .u8 op, .int .i64 ty, .int .i64 a, .int .i64 b, .int .i64 n, .slice A args.length ca, .slice F lf cf] 74))
   rw [H0.out] at hc
   refine hc.mono ?_
   clear hc
   rintro e w1 ⟨rfl, hb⟩
   clear x0 x1 x2 x3 x4 x5 x6
   have KX1 := Lib.hid (KX0.out.beneath hb)
   have HQ1 := Lib.hid (HQ0.out.trans (hb.mono HQ0.out.size))
   have HO1 := Lib.hid (HO0.out.keep hb)
   clear hb
   have x0 := KX1.out.cells 0
   have x1 := KX1.out.cells 1
   have x2 := KX1.out.cells 2
   have x3 := KX1.out.cells 3
   have x4 := KX1.out.cells 4
   have x5 := KX1.out.cells 5
   have x6 := KX1.out.cells 6
   have hlo := HQ1.out.size
   go_wp2_with (at_builtin; refine wpList_app1 rfl (.tmp 7) (.tmp 10) rfl w.heap.size _ [] rfl a HO1.out (by first | rfl | (rw [World.size_alloc]; rfl)) (by simp) hlo ?_; intro v2 w2 hown hg; refine pause ?_)
   clear hlo
   clear x0 x1 x2 x3 x4 x5 x6
   have hne := HO1.out.base
   have KX2 := Lib.hid (Blk.grown (KX1.out.alloc _) hg (HO1.out.ne KX1.out (by decide)))
   have HQ2 := Lib.hid (Below.grown (HQ1.out.alloc HQ1.out.size _) hg (HQ1.out.alloc HQ1.out.size _).size hne)
   have HO2 := Lib.hid hown
   clear hown hg hne
   refine resume ?_
   have x0 := KX2.out.cells 0
   have x1 := KX2.out.cells 1
   have x2 := KX2.out.cells 2
   have x3 := KX2.out.cells 3
   have x4 := KX2.out.cells 4
   have x5 := KX2.out.cells 5
   have x6 := KX2.out.cells 6
   go_wp2_with fail
   have hc := rtwo_any op w2
   rw [H1.out] at hc
   refine hc.mono ?_
   clear hc
   rintro e w3 ⟨rfl, hb⟩
   clear x0 x1 x2 x3 x4 x5 x6
   have KX3 := Lib.hid (KX2.out.beneath hb)
   have HQ3 := Lib.hid (HQ2.out.trans (hb.mono HQ2.out.size))
   have HO3 := Lib.hid (HO2.out.keep hb)
   clear hb
   have x0 := KX3.out.cells 0
   have x1 := KX3.out.cells 1
   have x2 := KX3.out.cells 2
   have x3 := KX3.out.cells 3
   have x4 := KX3.out.cells 4
   have x5 := KX3.out.cells 5
   have x6 := KX3.out.cells 6
   have hlo := HQ3.out.size
   go_wp2_with (at_builtin; refine wpList_app1 rfl (.tmp 15) (.tmp 18) rfl w.heap.size _ ([] ++ [a]) rfl b HO3.out (by first | rfl | (rw [World.size_alloc]; rfl)) (by simp) hlo ?_; intro v4 w4 hown hg; refine pause ?_)
   clear hlo
   clear x0 x1 x2 x3 x4 x5 x6
   have hne := HO3.out.base
   have KX4 := Lib.hid (Blk.grown (KX3.out.alloc _) hg (HO3.out.ne KX3.out (by decide)))
   have HQ4 := Lib.hid (Below.grown (HQ3.out.alloc HQ3.out.size _) hg (HQ3.out.alloc HQ3.out.size _).size hne)
   have HO4 := Lib.hid hown
   clear hown hg hne
   refine resume ?_
   have x0 := KX4.out.cells 0
   have x1 := KX4.out.cells 1
   have x2 := KX4.out.cells 2
   have x3 := KX4.out.cells 3
   have x4 := KX4.out.cells 4
   have x5 := KX4.out.cells 5
   have x6 := KX4.out.cells 6
   go_wp2_with fail
   have hc := rargs_any op w4
   rw [H3.out] at hc
   refine hc.mono ?_
   clear hc
   rintro e w5 ⟨rfl, hb⟩
   clear x0 x1 x2 x3 x4 x5 x6
   have KX5 := Lib.hid (KX4.out.beneath hb)
   have HQ5 := Lib.hid (HQ4.out.trans (hb.mono HQ4.out.size))
   have HO5 := Lib.hid (HO4.out.keep hb)
   clear hb
   have x0 := KX5.out.cells 0
   have x1 := KX5.out.cells 1
   have x2 := KX5.out.cells 2
   have x3 := KX5.out.cells 3
   have x4 := KX5.out.cells 4
   have x5 := KX5.out.cells 5
   have x6 := KX5.out.cells 6
   have hlo := HQ5.out.size
   go_wp2_with (at_builtin; refine wpList_appN rfl (.tmp 23) (.tmp 25) rfl w.heap.size 0 w.heap.size _ (([] ++ [a]) ++ [b]) rfl HO5.out A args.length ca args rfl rfl hd.nil (HA.out.keep HQ5.out) (by simp; omega) hlo ?_; intro v6 w6 hown hg; refine pause ?_)
   clear hlo
   clear x0 x1 x2 x3 x4 x5 x6
   have hne := HO5.out.base
   have KX6 := Lib.hid (Blk.grown KX5.out hg (HO5.out.ne KX5.out (by decide)))
   have HQ6 := Lib.hid (Below.grown HQ5.out hg HQ5.out.size hne)
   have HO6 := Lib.hid hown
   clear hown hg hne
   refine resume ?_
   have x0 := KX6.out.cells 0
   have x1 := KX6.out.cells 1
   have x2 := KX6.out.cells 2
   have x3 := KX6.out.cells 3
   have x4 := KX6.out.cells 4
   have x5 := KX6.out.cells 5
   have x6 := KX6.out.cells 6
   go_wp2_with fail
   go_ret
   refine ⟨_, rfl, ?_, HQ6.out⟩
   have hfin := HO6.out
   simpa [usesL] using hfin
 · go_enter Tryz.func124, Tryz.ntmps124
   have HO0 := Lib.hid (OwnInts.nil (w.alloc (.cells #[.int .u8 op, .int .i64 ty, .int .i64 a, .int .i64 b, .int .i64 n, .slice A args.length ca, .slice F lf cf] 74)) w.heap.size)
   have x0 := KX0.out.cells 0
   have x1 := KX0.out.cells 1
   have x2 := KX0.out.cells 2
   have x3 := KX0.out.cells 3
   have x4 := KX0.out.cells 4
   have x5 := KX0.out.cells 5
   have x6 := KX0.out.cells 6
   go_wp2_with fail
   have hc := rhasa_any op (w.alloc (.cells #[.int .u8 op, .int .i64 ty, .int .i64 a, .int .i64 b, .int .i64 n, .slice A args.length ca, .slice F lf cf] 74))
   rw [H0.out] at hc
   refine hc.mono ?_
   clear hc
   rintro e w1 ⟨rfl, hb⟩
   clear x0 x1 x2 x3 x4 x5 x6
   have KX1 := Lib.hid (KX0.out.beneath hb)
   have HQ1 := Lib.hid (HQ0.out.trans (hb.mono HQ0.out.size))
   have HO1 := Lib.hid (HO0.out.keep hb)
   clear hb
   have x0 := KX1.out.cells 0
   have x1 := KX1.out.cells 1
   have x2 := KX1.out.cells 2
   have x3 := KX1.out.cells 3
   have x4 := KX1.out.cells 4
   have x5 := KX1.out.cells 5
   have x6 := KX1.out.cells 6
   go_wp2_with fail
   have hc := rtwo_any op w1
   rw [H1.out] at hc
   refine hc.mono ?_
   clear hc
   rintro e w2 ⟨rfl, hb⟩
   clear x0 x1 x2 x3 x4 x5 x6
   have KX2 := Lib.hid (KX1.out.beneath hb)
   have HQ2 := Lib.hid (HQ1.out.trans (hb.mono HQ1.out.size))
   have HO2 := Lib.hid (HO1.out.keep hb)
   clear hb
   have x0 := KX2.out.cells 0
   have x1 := KX2.out.cells 1
   have x2 := KX2.out.cells 2
   have x3 := KX2.out.cells 3
   have x4 := KX2.out.cells 4
   have x5 := KX2.out.cells 5
   have x6 := KX2.out.cells 6
   go_wp2_with fail
   have hc := rargs_any op w2
   rw [H3.out] at hc
   refine hc.mono ?_
   clear hc
   rintro e w3 ⟨rfl, hb⟩
   clear x0 x1 x2 x3 x4 x5 x6
   have KX3 := Lib.hid (KX2.out.beneath hb)
   have HQ3 := Lib.hid (HQ2.out.trans (hb.mono HQ2.out.size))
   have HO3 := Lib.hid (HO2.out.keep hb)
   clear hb
   have x0 := KX3.out.cells 0
   have x1 := KX3.out.cells 1
   have x2 := KX3.out.cells 2
   have x3 := KX3.out.cells 3
   have x4 := KX3.out.cells 4
   have x5 := KX3.out.cells 5
   have x6 := KX3.out.cells 6
   go_wp2_with fail
   go_ret
   refine ⟨_, rfl, ?_, HQ3.out⟩
   have hfin := HO3.out
   simpa [usesL] using hfin
 · go_enter Tryz.func124, Tryz.ntmps124
   have HO0 := Lib.hid (OwnInts.nil (w.alloc (.cells #[.int .u8 op, .int .i64 ty, .int .i64 a, .int .i64 b, .int .i64 n, .slice A args.length ca, .slice F lf cf] 74)) w.heap.size)
   have x0 := KX0.out.cells 0
   have x1 := KX0.out.cells 1
   have x2 := KX0.out.cells 2
   have x3 := KX0.out.cells 3
   have x4 := KX0.out.cells 4
   have x5 := KX0.out.cells 5
   have x6 := KX0.out.cells 6
   go_wp2_with fail
   have hc := rhasa_any op (w.alloc (.cells #[.int .u8 op, .int .i64 ty, .int .i64 a, .int .i64 b, .int .i64 n, .slice A args.length ca, .slice F lf cf] 74))
   rw [H0.out] at hc
   refine hc.mono ?_
   clear hc
   rintro e w1 ⟨rfl, hb⟩
   clear x0 x1 x2 x3 x4 x5 x6
   have KX1 := Lib.hid (KX0.out.beneath hb)
   have HQ1 := Lib.hid (HQ0.out.trans (hb.mono HQ0.out.size))
   have HO1 := Lib.hid (HO0.out.keep hb)
   clear hb
   have x0 := KX1.out.cells 0
   have x1 := KX1.out.cells 1
   have x2 := KX1.out.cells 2
   have x3 := KX1.out.cells 3
   have x4 := KX1.out.cells 4
   have x5 := KX1.out.cells 5
   have x6 := KX1.out.cells 6
   go_wp2_with fail
   have hc := rtwo_any op w1
   rw [H1.out] at hc
   refine hc.mono ?_
   clear hc
   rintro e w2 ⟨rfl, hb⟩
   clear x0 x1 x2 x3 x4 x5 x6
   have KX2 := Lib.hid (KX1.out.beneath hb)
   have HQ2 := Lib.hid (HQ1.out.trans (hb.mono HQ1.out.size))
   have HO2 := Lib.hid (HO1.out.keep hb)
   clear hb
   have x0 := KX2.out.cells 0
   have x1 := KX2.out.cells 1
   have x2 := KX2.out.cells 2
   have x3 := KX2.out.cells 3
   have x4 := KX2.out.cells 4
   have x5 := KX2.out.cells 5
   have x6 := KX2.out.cells 6
   go_wp2_with fail
   have hc := rargs_any op w2
   rw [H3.out] at hc
   refine hc.mono ?_
   clear hc
   rintro e w3 ⟨rfl, hb⟩
   clear x0 x1 x2 x3 x4 x5 x6
   have KX3 := Lib.hid (KX2.out.beneath hb)
   have HQ3 := Lib.hid (HQ2.out.trans (hb.mono HQ2.out.size))
   have HO3 := Lib.hid (HO2.out.keep hb)
   clear hb
   have x0 := KX3.out.cells 0
   have x1 := KX3.out.cells 1
   have x2 := KX3.out.cells 2
   have x3 := KX3.out.cells 3
   have x4 := KX3.out.cells 4
   have x5 := KX3.out.cells 5
   have x6 := KX3.out.cells 6
   have hlo := HQ3.out.size
   go_wp2_with (at_builtin; refine wpList_appN rfl (.tmp 23) (.tmp 25) rfl w.heap.size 0 w.heap.size _ [] rfl HO3.out A args.length ca args rfl rfl hd.nil (HA.out.keep HQ3.out) (by simp; omega) hlo ?_; intro v4 w4 hown hg; refine pause ?_)
   clear hlo
   clear x0 x1 x2 x3 x4 x5 x6
   have hne := HO3.out.base
   have KX4 := Lib.hid (Blk.grown KX3.out hg (HO3.out.ne KX3.out (by decide)))
   have HQ4 := Lib.hid (Below.grown HQ3.out hg HQ3.out.size hne)
   have HO4 := Lib.hid hown
   clear hown hg hne
   refine resume ?_
   have x0 := KX4.out.cells 0
   have x1 := KX4.out.cells 1
   have x2 := KX4.out.cells 2
   have x3 := KX4.out.cells 3
   have x4 := KX4.out.cells 4
   have x5 := KX4.out.cells 5
   have x6 := KX4.out.cells 6
   go_wp2_with fail
   go_ret
   refine ⟨_, rfl, ?_, HQ4.out⟩
   have hfin := HO4.out
   simpa [usesL] using hfin
 · go_enter Tryz.func124, Tryz.ntmps124
   have HO0 := Lib.hid (OwnInts.nil (w.alloc (.cells #[.int .u8 op, .int .i64 ty, .int .i64 a, .int .i64 b, .int .i64 n, .slice A args.length ca, .slice F lf cf] 74)) w.heap.size)
   have x0 := KX0.out.cells 0
   have x1 := KX0.out.cells 1
   have x2 := KX0.out.cells 2
   have x3 := KX0.out.cells 3
   have x4 := KX0.out.cells 4
   have x5 := KX0.out.cells 5
   have x6 := KX0.out.cells 6
   go_wp2_with fail
   have hc := rhasa_any op (w.alloc (.cells #[.int .u8 op, .int .i64 ty, .int .i64 a, .int .i64 b, .int .i64 n, .slice A args.length ca, .slice F lf cf] 74))
   rw [H0.out] at hc
   refine hc.mono ?_
   clear hc
   rintro e w1 ⟨rfl, hb⟩
   clear x0 x1 x2 x3 x4 x5 x6
   have KX1 := Lib.hid (KX0.out.beneath hb)
   have HQ1 := Lib.hid (HQ0.out.trans (hb.mono HQ0.out.size))
   have HO1 := Lib.hid (HO0.out.keep hb)
   clear hb
   have x0 := KX1.out.cells 0
   have x1 := KX1.out.cells 1
   have x2 := KX1.out.cells 2
   have x3 := KX1.out.cells 3
   have x4 := KX1.out.cells 4
   have x5 := KX1.out.cells 5
   have x6 := KX1.out.cells 6
   go_wp2_with fail
   have hc := rtwo_any op w1
   rw [H1.out] at hc
   refine hc.mono ?_
   clear hc
   rintro e w2 ⟨rfl, hb⟩
   clear x0 x1 x2 x3 x4 x5 x6
   have KX2 := Lib.hid (KX1.out.beneath hb)
   have HQ2 := Lib.hid (HQ1.out.trans (hb.mono HQ1.out.size))
   have HO2 := Lib.hid (HO1.out.keep hb)
   clear hb
   have x0 := KX2.out.cells 0
   have x1 := KX2.out.cells 1
   have x2 := KX2.out.cells 2
   have x3 := KX2.out.cells 3
   have x4 := KX2.out.cells 4
   have x5 := KX2.out.cells 5
   have x6 := KX2.out.cells 6
   have hlo := HQ2.out.size
   go_wp2_with (at_builtin; refine wpList_app1 rfl (.tmp 15) (.tmp 18) rfl w.heap.size _ [] rfl b HO2.out (by first | rfl | (rw [World.size_alloc]; rfl)) (by simp) hlo ?_; intro v3 w3 hown hg; refine pause ?_)
   clear hlo
   clear x0 x1 x2 x3 x4 x5 x6
   have hne := HO2.out.base
   have KX3 := Lib.hid (Blk.grown (KX2.out.alloc _) hg (HO2.out.ne KX2.out (by decide)))
   have HQ3 := Lib.hid (Below.grown (HQ2.out.alloc HQ2.out.size _) hg (HQ2.out.alloc HQ2.out.size _).size hne)
   have HO3 := Lib.hid hown
   clear hown hg hne
   refine resume ?_
   have x0 := KX3.out.cells 0
   have x1 := KX3.out.cells 1
   have x2 := KX3.out.cells 2
   have x3 := KX3.out.cells 3
   have x4 := KX3.out.cells 4
   have x5 := KX3.out.cells 5
   have x6 := KX3.out.cells 6
   go_wp2_with fail
   have hc := rargs_any op w3
   rw [H3.out] at hc
   refine hc.mono ?_
   clear hc
   rintro e w4 ⟨rfl, hb⟩
   clear x0 x1 x2 x3 x4 x5 x6
   have KX4 := Lib.hid (KX3.out.beneath hb)
   have HQ4 := Lib.hid (HQ3.out.trans (hb.mono HQ3.out.size))
   have HO4 := Lib.hid (HO3.out.keep hb)
   clear hb
   have x0 := KX4.out.cells 0
   have x1 := KX4.out.cells 1
   have x2 := KX4.out.cells 2
   have x3 := KX4.out.cells 3
   have x4 := KX4.out.cells 4
   have x5 := KX4.out.cells 5
   have x6 := KX4.out.cells 6
   go_wp2_with fail
   go_ret
   refine ⟨_, rfl, ?_, HQ4.out⟩
   have hfin := HO4.out
   simpa [usesL] using hfin
 · go_enter Tryz.func124, Tryz.ntmps124
   have HO0 := Lib.hid (OwnInts.nil (w.alloc (.cells #[.int .u8 op, .int .i64 ty, .int .i64 a, .int .i64 b, .int .i64 n, .slice A args.length ca, .slice F lf cf] 74)) w.heap.size)
   have x0 := KX0.out.cells 0
   have x1 := KX0.out.cells 1
   have x2 := KX0.out.cells 2
   have x3 := KX0.out.cells 3
   have x4 := KX0.out.cells 4
   have x5 := KX0.out.cells 5
   have x6 := KX0.out.cells 6
   go_wp2_with fail
   have hc := rhasa_any op (w.alloc (.cells #[.int .u8 op, .int .i64 ty, .int .i64 a, .int .i64 b, .int .i64 n, .slice A args.length ca, .slice F lf cf] 74))
   rw [H0.out] at hc
   refine hc.mono ?_
   clear hc
   rintro e w1 ⟨rfl, hb⟩
   clear x0 x1 x2 x3 x4 x5 x6
   have KX1 := Lib.hid (KX0.out.beneath hb)
   have HQ1 := Lib.hid (HQ0.out.trans (hb.mono HQ0.out.size))
   have HO1 := Lib.hid (HO0.out.keep hb)
   clear hb
   have x0 := KX1.out.cells 0
   have x1 := KX1.out.cells 1
   have x2 := KX1.out.cells 2
   have x3 := KX1.out.cells 3
   have x4 := KX1.out.cells 4
   have x5 := KX1.out.cells 5
   have x6 := KX1.out.cells 6
   go_wp2_with fail
   have hc := rtwo_any op w1
   rw [H1.out] at hc
   refine hc.mono ?_
   clear hc
   rintro e w2 ⟨rfl, hb⟩
   clear x0 x1 x2 x3 x4 x5 x6
   have KX2 := Lib.hid (KX1.out.beneath hb)
   have HQ2 := Lib.hid (HQ1.out.trans (hb.mono HQ1.out.size))
   have HO2 := Lib.hid (HO1.out.keep hb)
   clear hb
   have x0 := KX2.out.cells 0
   have x1 := KX2.out.cells 1
   have x2 := KX2.out.cells 2
   have x3 := KX2.out.cells 3
   have x4 := KX2.out.cells 4
   have x5 := KX2.out.cells 5
   have x6 := KX2.out.cells 6
   have hlo := HQ2.out.size
   go_wp2_with (at_builtin; refine wpList_app1 rfl (.tmp 15) (.tmp 18) rfl w.heap.size _ [] rfl b HO2.out (by first | rfl | (rw [World.size_alloc]; rfl)) (by simp) hlo ?_; intro v3 w3 hown hg; refine pause ?_)
   clear hlo
   clear x0 x1 x2 x3 x4 x5 x6
   have hne := HO2.out.base
   have KX3 := Lib.hid (Blk.grown (KX2.out.alloc _) hg (HO2.out.ne KX2.out (by decide)))
   have HQ3 := Lib.hid (Below.grown (HQ2.out.alloc HQ2.out.size _) hg (HQ2.out.alloc HQ2.out.size _).size hne)
   have HO3 := Lib.hid hown
   clear hown hg hne
   refine resume ?_
   have x0 := KX3.out.cells 0
   have x1 := KX3.out.cells 1
   have x2 := KX3.out.cells 2
   have x3 := KX3.out.cells 3
   have x4 := KX3.out.cells 4
   have x5 := KX3.out.cells 5
   have x6 := KX3.out.cells 6
   go_wp2_with fail
   have hc := rargs_any op w3
   rw [H3.out] at hc
   refine hc.mono ?_
   clear hc
   rintro e w4 ⟨rfl, hb⟩
   clear x0 x1 x2 x3 x4 x5 x6
   have KX4 := Lib.hid (KX3.out.beneath hb)
   have HQ4 := Lib.hid (HQ3.out.trans (hb.mono HQ3.out.size))
   have HO4 := Lib.hid (HO3.out.keep hb)
   clear hb
   have x0 := KX4.out.cells 0
   have x1 := KX4.out.cells 1
   have x2 := KX4.out.cells 2
   have x3 := KX4.out.cells 3
   have x4 := KX4.out.cells 4
   have x5 := KX4.out.cells 5
   have x6 := KX4.out.cells 6
   have hlo := HQ4.out.size
   go_wp2_with (at_builtin; refine wpList_appN rfl (.tmp 23) (.tmp 25) rfl w.heap.size 0 w.heap.size _ ([] ++ [b]) rfl HO4.out A args.length ca args rfl rfl hd.nil (HA.out.keep HQ4.out) (by simp; omega) hlo ?_; intro v5 w5 hown hg; refine pause ?_)
   clear hlo
   clear x0 x1 x2 x3 x4 x5 x6
   have hne := HO4.out.base
   have KX5 := Lib.hid (Blk.grown KX4.out hg (HO4.out.ne KX4.out (by decide)))
   have HQ5 := Lib.hid (Below.grown HQ4.out hg HQ4.out.size hne)
   have HO5 := Lib.hid hown
   clear hown hg hne
   refine resume ?_
   have x0 := KX5.out.cells 0
   have x1 := KX5.out.cells 1
   have x2 := KX5.out.cells 2
   have x3 := KX5.out.cells 3
   have x4 := KX5.out.cells 4
   have x5 := KX5.out.cells 5
   have x6 := KX5.out.cells 6
   go_wp2_with fail
   go_ret
   refine ⟨_, rfl, ?_, HQ5.out⟩
   have hfin := HO5.out
   simpa [usesL] using hfin
 · go_enter Tryz.func124, Tryz.ntmps124
   have HO0 := Lib.hid (OwnInts.nil (w.alloc (.cells #[.int .u8 op, .int .i64 ty, .int .i64 a, .int .i64 b, .int .i64 n, .slice A args.length ca, .slice F lf cf] 74)) w.heap.size)
   have x0 := KX0.out.cells 0
   have x1 := KX0.out.cells 1
   have x2 := KX0.out.cells 2
   have x3 := KX0.out.cells 3
   have x4 := KX0.out.cells 4
   have x5 := KX0.out.cells 5
   have x6 := KX0.out.cells 6
   go_wp2_with fail
   have hc := rhasa_any op (w.alloc (.cells #[.int .u8 op, .int .i64 ty, .int .i64 a, .int .i64 b, .int .i64 n, .slice A args.length ca, .slice F lf cf] 74))
   rw [H0.out] at hc
   refine hc.mono ?_
   clear hc
   rintro e w1 ⟨rfl, hb⟩
   clear x0 x1 x2 x3 x4 x5 x6
   have KX1 := Lib.hid (KX0.out.beneath hb)
   have HQ1 := Lib.hid (HQ0.out.trans (hb.mono HQ0.out.size))
   have HO1 := Lib.hid (HO0.out.keep hb)
   clear hb
   have x0 := KX1.out.cells 0
   have x1 := KX1.out.cells 1
   have x2 := KX1.out.cells 2
   have x3 := KX1.out.cells 3
   have x4 := KX1.out.cells 4
   have x5 := KX1.out.cells 5
   have x6 := KX1.out.cells 6
   have hlo := HQ1.out.size
   go_wp2_with (at_builtin; refine wpList_app1 rfl (.tmp 7) (.tmp 10) rfl w.heap.size _ [] rfl a HO1.out (by first | rfl | (rw [World.size_alloc]; rfl)) (by simp) hlo ?_; intro v2 w2 hown hg; refine pause ?_)
   clear hlo
   clear x0 x1 x2 x3 x4 x5 x6
   have hne := HO1.out.base
   have KX2 := Lib.hid (Blk.grown (KX1.out.alloc _) hg (HO1.out.ne KX1.out (by decide)))
   have HQ2 := Lib.hid (Below.grown (HQ1.out.alloc HQ1.out.size _) hg (HQ1.out.alloc HQ1.out.size _).size hne)
   have HO2 := Lib.hid hown
   clear hown hg hne
   refine resume ?_
   have x0 := KX2.out.cells 0
   have x1 := KX2.out.cells 1
   have x2 := KX2.out.cells 2
   have x3 := KX2.out.cells 3
   have x4 := KX2.out.cells 4
   have x5 := KX2.out.cells 5
   have x6 := KX2.out.cells 6
   go_wp2_with fail
   have hc := rtwo_any op w2
   rw [H1.out] at hc
   refine hc.mono ?_
   clear hc
   rintro e w3 ⟨rfl, hb⟩
   clear x0 x1 x2 x3 x4 x5 x6
   have KX3 := Lib.hid (KX2.out.beneath hb)
   have HQ3 := Lib.hid (HQ2.out.trans (hb.mono HQ2.out.size))
   have HO3 := Lib.hid (HO2.out.keep hb)
   clear hb
   have x0 := KX3.out.cells 0
   have x1 := KX3.out.cells 1
   have x2 := KX3.out.cells 2
   have x3 := KX3.out.cells 3
   have x4 := KX3.out.cells 4
   have x5 := KX3.out.cells 5
   have x6 := KX3.out.cells 6
   go_wp2_with fail
   have hc := rargs_any op w3
   rw [H3.out] at hc
   refine hc.mono ?_
   clear hc
   rintro e w4 ⟨rfl, hb⟩
   clear x0 x1 x2 x3 x4 x5 x6
   have KX4 := Lib.hid (KX3.out.beneath hb)
   have HQ4 := Lib.hid (HQ3.out.trans (hb.mono HQ3.out.size))
   have HO4 := Lib.hid (HO3.out.keep hb)
   clear hb
   have x0 := KX4.out.cells 0
   have x1 := KX4.out.cells 1
   have x2 := KX4.out.cells 2
   have x3 := KX4.out.cells 3
   have x4 := KX4.out.cells 4
   have x5 := KX4.out.cells 5
   have x6 := KX4.out.cells 6
   go_wp2_with fail
   go_ret
   refine ⟨_, rfl, ?_, HQ4.out⟩
   have hfin := HO4.out
   simpa [usesL] using hfin
 · go_enter Tryz.func124, Tryz.ntmps124
   have HO0 := Lib.hid (OwnInts.nil (w.alloc (.cells #[.int .u8 op, .int .i64 ty, .int .i64 a, .int .i64 b, .int .i64 n, .slice A args.length ca, .slice F lf cf] 74)) w.heap.size)
   have x0 := KX0.out.cells 0
   have x1 := KX0.out.cells 1
   have x2 := KX0.out.cells 2
   have x3 := KX0.out.cells 3
   have x4 := KX0.out.cells 4
   have x5 := KX0.out.cells 5
   have x6 := KX0.out.cells 6
   go_wp2_with fail
   have hc := rhasa_any op (w.alloc (.cells #[.int .u8 op, .int .i64 ty, .int .i64 a, .int .i64 b, .int .i64 n, .slice A args.length ca, .slice F lf cf] 74))
   rw [H0.out] at hc
   refine hc.mono ?_
   clear hc
   rintro e w1 ⟨rfl, hb⟩
   clear x0 x1 x2 x3 x4 x5 x6
   have KX1 := Lib.hid (KX0.out.beneath hb)
   have HQ1 := Lib.hid (HQ0.out.trans (hb.mono HQ0.out.size))
   have HO1 := Lib.hid (HO0.out.keep hb)
   clear hb
   have x0 := KX1.out.cells 0
   have x1 := KX1.out.cells 1
   have x2 := KX1.out.cells 2
   have x3 := KX1.out.cells 3
   have x4 := KX1.out.cells 4
   have x5 := KX1.out.cells 5
   have x6 := KX1.out.cells 6
   have hlo := HQ1.out.size
   go_wp2_with (at_builtin; refine wpList_app1 rfl (.tmp 7) (.tmp 10) rfl w.heap.size _ [] rfl a HO1.out (by first | rfl | (rw [World.size_alloc]; rfl)) (by simp) hlo ?_; intro v2 w2 hown hg; refine pause ?_)
   clear hlo
   clear x0 x1 x2 x3 x4 x5 x6
   have hne := HO1.out.base
   have KX2 := Lib.hid (Blk.grown (KX1.out.alloc _) hg (HO1.out.ne KX1.out (by decide)))
   have HQ2 := Lib.hid (Below.grown (HQ1.out.alloc HQ1.out.size _) hg (HQ1.out.alloc HQ1.out.size _).size hne)
   have HO2 := Lib.hid hown
   clear hown hg hne
   refine resume ?_
   have x0 := KX2.out.cells 0
   have x1 := KX2.out.cells 1
   have x2 := KX2.out.cells 2
   have x3 := KX2.out.cells 3
   have x4 := KX2.out.cells 4
   have x5 := KX2.out.cells 5
   have x6 := KX2.out.cells 6
   go_wp2_with fail
   have hc := rtwo_any op w2
   rw [H1.out] at hc
   refine hc.mono ?_
   clear hc
   rintro e w3 ⟨rfl, hb⟩
   clear x0 x1 x2 x3 x4 x5 x6
   have KX3 := Lib.hid (KX2.out.beneath hb)
   have HQ3 := Lib.hid (HQ2.out.trans (hb.mono HQ2.out.size))
   have HO3 := Lib.hid (HO2.out.keep hb)
   clear hb
   have x0 := KX3.out.cells 0
   have x1 := KX3.out.cells 1
   have x2 := KX3.out.cells 2
   have x3 := KX3.out.cells 3
   have x4 := KX3.out.cells 4
   have x5 := KX3.out.cells 5
   have x6 := KX3.out.cells 6
   go_wp2_with fail
   have hc := rargs_any op w3
   rw [H3.out] at hc
   refine hc.mono ?_
   clear hc
   rintro e w4 ⟨rfl, hb⟩
   clear x0 x1 x2 x3 x4 x5 x6
   have KX4 := Lib.hid (KX3.out.beneath hb)
   have HQ4 := Lib.hid (HQ3.out.trans (hb.mono HQ3.out.size))
   have HO4 := Lib.hid (HO3.out.keep hb)
   clear hb
   have x0 := KX4.out.cells 0
   have x1 := KX4.out.cells 1
   have x2 := KX4.out.cells 2
   have x3 := KX4.out.cells 3
   have x4 := KX4.out.cells 4
   have x5 := KX4.out.cells 5
   have x6 := KX4.out.cells 6
   have hlo := HQ4.out.size
   go_wp2_with (at_builtin; refine wpList_appN rfl (.tmp 23) (.tmp 25) rfl w.heap.size 0 w.heap.size _ ([] ++ [a]) rfl HO4.out A args.length ca args rfl rfl hd.nil (HA.out.keep HQ4.out) (by simp; omega) hlo ?_; intro v5 w5 hown hg; refine pause ?_)
   clear hlo
   clear x0 x1 x2 x3 x4 x5 x6
   have hne := HO4.out.base
   have KX5 := Lib.hid (Blk.grown KX4.out hg (HO4.out.ne KX4.out (by decide)))
   have HQ5 := Lib.hid (Below.grown HQ4.out hg HQ4.out.size hne)
   have HO5 := Lib.hid hown
   clear hown hg hne
   refine resume ?_
   have x0 := KX5.out.cells 0
   have x1 := KX5.out.cells 1
   have x2 := KX5.out.cells 2
   have x3 := KX5.out.cells 3
   have x4 := KX5.out.cells 4
   have x5 := KX5.out.cells 5
   have x6 := KX5.out.cells 6
   go_wp2_with fail
   go_ret
   refine ⟨_, rfl, ?_, HQ5.out⟩
   have hfin := HO5.out
   simpa [usesL] using hfin
 · go_enter Tryz.func124, Tryz.ntmps124
   have HO0 := Lib.hid (OwnInts.nil (w.alloc (.cells #[.int .u8 op, .int .i64 ty, .int .i64 a, .int .i64 b, .int .i64 n, .slice A args.length ca, .slice F lf cf] 74)) w.heap.size)
   have x0 := KX0.out.cells 0
   have x1 := KX0.out.cells 1
   have x2 := KX0.out.cells 2
   have x3 := KX0.out.cells 3
   have x4 := KX0.out.cells 4
   have x5 := KX0.out.cells 5
   have x6 := KX0.out.cells 6
   go_wp2_with fail
   have hc := rhasa_any op (w.alloc (.cells #[.int .u8 op, .int .i64 ty, .int .i64 a, .int .i64 b, .int .i64 n, .slice A args.length ca, .slice F lf cf] 74))
   rw [H0.out] at hc
   refine hc.mono ?_
   clear hc
   rintro e w1 ⟨rfl, hb⟩
   clear x0 x1 x2 x3 x4 x5 x6
   have KX1 := Lib.hid (KX0.out.beneath hb)
   have HQ1 := Lib.hid (HQ0.out.trans (hb.mono HQ0.out.size))
   have HO1 := Lib.hid (HO0.out.keep hb)
   clear hb
   have x0 := KX1.out.cells 0
   have x1 := KX1.out.cells 1
   have x2 := KX1.out.cells 2
   have x3 := KX1.out.cells 3
   have x4 := KX1.out.cells 4
   have x5 := KX1.out.cells 5
   have x6 := KX1.out.cells 6
   have hlo := HQ1.out.size
   go_wp2_with (at_builtin; refine wpList_app1 rfl (.tmp 7) (.tmp 10) rfl w.heap.size _ [] rfl a HO1.out (by first | rfl | (rw [World.size_alloc]; rfl)) (by simp) hlo ?_; intro v2 w2 hown hg; refine pause ?_)
   clear hlo
   clear x0 x1 x2 x3 x4 x5 x6
   have hne := HO1.out.base
   have KX2 := Lib.hid (Blk.grown (KX1.out.alloc _) hg (HO1.out.ne KX1.out (by decide)))
   have HQ2 := Lib.hid (Below.grown (HQ1.out.alloc HQ1.out.size _) hg (HQ1.out.alloc HQ1.out.size _).size hne)
   have HO2 := Lib.hid hown
   clear hown hg hne
   refine resume ?_
   have x0 := KX2.out.cells 0
   have x1 := KX2.out.cells 1
   have x2 := KX2.out.cells 2
   have x3 := KX2.out.cells 3
   have x4 := KX2.out.cells 4
   have x5 := KX2.out.cells 5
   have x6 := KX2.out.cells 6
   go_wp2_with fail
   have hc := rtwo_any op w2
   rw [H1.out] at hc
   refine hc.mono ?_
   clear hc
   rintro e w3 ⟨rfl, hb⟩
   clear x0 x1 x2 x3 x4 x5 x6
   have KX3 := Lib.hid (KX2.out.beneath hb)
   have HQ3 := Lib.hid (HQ2.out.trans (hb.mono HQ2.out.size))
   have HO3 := Lib.hid (HO2.out.keep hb)
   clear hb
   have x0 := KX3.out.cells 0
   have x1 := KX3.out.cells 1
   have x2 := KX3.out.cells 2
   have x3 := KX3.out.cells 3
   have x4 := KX3.out.cells 4
   have x5 := KX3.out.cells 5
   have x6 := KX3.out.cells 6
   have hlo := HQ3.out.size
   go_wp2_with (at_builtin; refine wpList_app1 rfl (.tmp 15) (.tmp 18) rfl w.heap.size _ ([] ++ [a]) rfl b HO3.out (by first | rfl | (rw [World.size_alloc]; rfl)) (by simp) hlo ?_; intro v4 w4 hown hg; refine pause ?_)
   clear hlo
   clear x0 x1 x2 x3 x4 x5 x6
   have hne := HO3.out.base
   have KX4 := Lib.hid (Blk.grown (KX3.out.alloc _) hg (HO3.out.ne KX3.out (by decide)))
   have HQ4 := Lib.hid (Below.grown (HQ3.out.alloc HQ3.out.size _) hg (HQ3.out.alloc HQ3.out.size _).size hne)
   have HO4 := Lib.hid hown
   clear hown hg hne
   refine resume ?_
   have x0 := KX4.out.cells 0
   have x1 := KX4.out.cells 1
   have x2 := KX4.out.cells 2
   have x3 := KX4.out.cells 3
   have x4 := KX4.out.cells 4
   have x5 := KX4.out.cells 5
   have x6 := KX4.out.cells 6
   go_wp2_with fail
   have hc := rargs_any op w4
   rw [H3.out] at hc
   refine hc.mono ?_
   clear hc
   rintro e w5 ⟨rfl, hb⟩
   clear x0 x1 x2 x3 x4 x5 x6
   have KX5 := Lib.hid (KX4.out.beneath hb)
   have HQ5 := Lib.hid (HQ4.out.trans (hb.mono HQ4.out.size))
   have HO5 := Lib.hid (HO4.out.keep hb)
   clear hb
   have x0 := KX5.out.cells 0
   have x1 := KX5.out.cells 1
   have x2 := KX5.out.cells 2
   have x3 := KX5.out.cells 3
   have x4 := KX5.out.cells 4
   have x5 := KX5.out.cells 5
   have x6 := KX5.out.cells 6
   go_wp2_with fail
   go_ret
   refine ⟨_, rfl, ?_, HQ5.out⟩
   have hfin := HO5.out
   simpa [usesL] using hfin
end Go.Proofs.YtbffebcjimhapaaGreatDoor
