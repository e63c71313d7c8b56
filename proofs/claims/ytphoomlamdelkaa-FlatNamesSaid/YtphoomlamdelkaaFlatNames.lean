/-
  The walk of the law FlatNames.
-/
import Derived.Test.YtphoomlamdelkaaFlatLaw1
namespace Go.Proofs.Ytphoomlamdelkaa
set_option linter.unusedVariables false
set_option linter.unusedSimpArgs false
open Go.ChangeShapes Go.WideShapes Go.ChangeAt Go.RowKit

set_option maxRecDepth 100000 in
set_option maxHeartbeats 1600000 in
theorem walk_FlatNames {w : World} : Calls Try.prog 8 #[] w fun e w' => e = .returned (.bool true) ∧ Below w.heap.size w w' := by
  have HB0 := Lib.hid (Below.refl w.heap.size w)
  go_enter Try.func8, Try.ntmps8
  go_wp2_with fail
  refine (chapterF_any _).mono ?_
  rintro e w1 ⟨A1, c1, rows1, rfl, htab, ht, hb⟩
  have HB1 := Lib.hid (HB0.out.trans (hb.mono HB0.out.size))
  have hc := pflat_any htab 3 4
  rw [ht, cf_l34] at hc
  try dsimp only at hc
  have HC := Lib.hid hc
  clear htab ht hb hc
  go_wp2_with fail
  refine HC.out.mono ?_
  rintro e w2 ⟨rfl, hb⟩
  have HB2 := Lib.hid (HB1.out.trans (hb.mono HB1.out.size))
  clear hb HC
  go_wp2_with fail
  refine (chapterF_any _).mono ?_
  rintro e w3 ⟨A3, c3, rows3, rfl, htab, ht, hb⟩
  have HB3 := Lib.hid (HB2.out.trans (hb.mono HB2.out.size))
  have hc := pflat_any htab 0 (-1)
  rw [ht, cf_l0m] at hc
  try dsimp only at hc
  have HC := Lib.hid hc
  clear htab ht hb hc
  go_wp2_with fail
  refine HC.out.mono ?_
  rintro e w4 ⟨rfl, hb⟩
  have HB4 := Lib.hid (HB3.out.trans (hb.mono HB3.out.size))
  clear hb HC
  go_wp2_with fail
  refine (chapterF_any _).mono ?_
  rintro e w5 ⟨A5, c5, rows5, rfl, htab, ht, hb⟩
  have HB5 := Lib.hid (HB4.out.trans (hb.mono HB4.out.size))
  have hc := pfields_any htab 5
  rw [ht, cf_a5, cf_f5] at hc
  try dsimp only at hc
  have HC := Lib.hid hc
  clear htab ht hb hc
  go_wp2_with fail
  refine HC.out.mono ?_
  rintro e w6 ⟨v1, rfl, hown, hb⟩
  clear hown
  have HB6 := Lib.hid (HB5.out.trans (hb.mono HB5.out.size))
  clear hb HC
  go_wp2_with fail
  refine (chapterF_any _).mono ?_
  rintro e w7 ⟨A7, c7, rows7, rfl, htab, ht, hb⟩
  have HB7 := Lib.hid (HB6.out.trans (hb.mono HB6.out.size))
  have hc := pstep_any htab 0 0
  rw [ht, cf_s00] at hc
  try dsimp only at hc
  have HC := Lib.hid hc
  clear htab ht hb hc
  go_wp2_with fail
  refine HC.out.mono ?_
  rintro e w8 ⟨rfl, hb⟩
  have HB8 := Lib.hid (HB7.out.trans (hb.mono HB7.out.size))
  clear hb HC
  go_wp2_with fail
  refine (chapterF_any _).mono ?_
  rintro e w9 ⟨A9, c9, rows9, rfl, htab, ht, hb⟩
  have HB9 := Lib.hid (HB8.out.trans (hb.mono HB8.out.size))
  have hc := pstep_any htab 3 1
  rw [ht, cf_s31] at hc
  try dsimp only at hc
  have HC := Lib.hid hc
  clear htab ht hb hc
  go_wp2_with fail
  refine HC.out.mono ?_
  rintro e w10 ⟨rfl, hb⟩
  have HB10 := Lib.hid (HB9.out.trans (hb.mono HB9.out.size))
  clear hb HC
  go_wp2_with fail
  refine (chapterF_any _).mono ?_
  rintro e w11 ⟨A11, c11, rows11, rfl, htab, ht, hb⟩
  have HB11 := Lib.hid (HB10.out.trans (hb.mono HB10.out.size))
  have hc := pflat_any htab 4 4
  rw [ht, cf_l44] at hc
  try dsimp only at hc
  have HC := Lib.hid hc
  clear htab ht hb hc
  go_wp2_with fail
  refine HC.out.mono ?_
  rintro e w12 ⟨rfl, hb⟩
  have HB12 := Lib.hid (HB11.out.trans (hb.mono HB11.out.size))
  clear hb HC
  go_wp2_with fail
  refine (aliveF_any _).mono ?_
  rintro e w99 ⟨rfl, hb⟩
  have HB99 := Lib.hid (HB12.out.trans (hb.mono HB12.out.size))
  clear hb
  go_wp2_with fail
  go_ret
  exact ⟨rfl, HB99.out⟩
end Go.Proofs.Ytphoomlamdelkaa
