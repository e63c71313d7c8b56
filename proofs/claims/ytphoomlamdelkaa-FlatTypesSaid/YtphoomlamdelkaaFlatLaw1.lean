/-
  The laws' own words for flat fields: chapter, alive.
-/
import Derived.Test.YtphoomlamdelkaaFlatProg2
import Derived.Test.YtphoomlamdelkaaTypLaw1
namespace Go.Proofs.Ytphoomlamdelkaa
set_option linter.unusedVariables false
set_option linter.unusedSimpArgs false
open Go.ChangeShapes Go.WideShapes Go.ChangeAt Go.RowKit

def chapterF : List Ty := [⟨1, 0, 0, []⟩, ⟨2, 2, 0, []⟩, ⟨4, 0, 0, [0, 1]⟩, ⟨5, 2, 2, []⟩, ⟨4, 0, 0, [3, 0]⟩]
theorem chapterF_any (w : World) : Calls Try.prog 32 #[] w (SomeTab chapterF w) := by
  go_enter Try.func32, Try.ntmps32
  go_wp2_with fail
  go_ret
  have hi0 := ints_built w [0, 1] w.heap.size rfl
  have hb1 : Below (w.heap.size + 1) (w.alloc (.cells #[.int .i64 0, .int .i64 1] 3)) ((w.alloc (.cells #[.int .i64 0, .int .i64 1] 3)).alloc (.cells #[.int .i64 3, .int .i64 0] 3)) := (Below.refl _ _).alloc (by rw [World.size_alloc]; omega) _
  have hi : IntsAt ((w.alloc (.cells #[.int .i64 0, .int .i64 1] 3)).alloc (.cells #[.int .i64 3, .int .i64 0] 3)) 0 (w.heap.size + 1 + 1) (some ⟨w.heap.size, 0, none⟩) [0, 1] := (IntsAt.keep hi0 hb1).more (Nat.le_refl _) (by omega)
  have hj := ints_built (w.alloc (.cells #[.int .i64 0, .int .i64 1] 3)) [3, 0] (w.heap.size + 1) (by rw [World.size_alloc])
  rw [World.size_alloc] at hj
  have he : ∀ B, IntsAt ((w.alloc (.cells #[.int .i64 0, .int .i64 1] 3)).alloc (.cells #[.int .i64 3, .int .i64 0] 3)) 0 B none [] := fun B => CellsAt.empty
  refine ⟨some ⟨w.heap.size + 1 + 1, 0, none⟩, 5, [⟨1, 0, 0, none, 0, []⟩, ⟨2, 2, 0, none, 0, []⟩, ⟨4, 0, 0, some ⟨w.heap.size, 0, none⟩, 2, [0, 1]⟩, ⟨5, 2, 2, none, 0, []⟩, ⟨4, 0, 0, some ⟨w.heap.size + 1, 0, none⟩, 2, [3, 0]⟩], rfl, ⟨⟨⟨Nat.le_of_ble_eq_true rfl, by unfold maxLen; omega, fun h => by cases h⟩, ?_⟩, ?_⟩, rfl, (((Below.refl _ _).alloc (Nat.le_refl _) _).alloc (by simp) _).alloc (by rw [World.size_alloc, World.size_alloc]; omega) _⟩
  · refine (typs_built ((w.alloc (.cells #[.int .i64 0, .int .i64 1] 3)).alloc (.cells #[.int .i64 3, .int .i64 0] 3)) [⟨1, 0, 0, none, 0, []⟩, ⟨2, 2, 0, none, 0, []⟩, ⟨4, 0, 0, some ⟨w.heap.size, 0, none⟩, 2, [0, 1]⟩, ⟨5, 2, 2, none, 0, []⟩, ⟨4, 0, 0, some ⟨w.heap.size + 1, 0, none⟩, 2, [3, 0]⟩] (w.heap.size + 1 + 1) (by rw [World.size_alloc, World.size_alloc]) ?_).more (Nat.le_refl _) (by simp)
    intro r hr
    simp only [List.mem_cons, List.not_mem_nil, or_false] at hr
    rcases hr with rfl | rfl | rfl | rfl | rfl
    · exact ⟨Nat.le_of_ble_eq_true rfl, ⟨Nat.le_refl _, by show _ ≤ 9223372036854775807; exact Nat.le_of_ble_eq_true rfl, fun _ => ⟨rfl, rfl⟩⟩, he _⟩
    · exact ⟨Nat.le_of_ble_eq_true rfl, ⟨Nat.le_refl _, by show _ ≤ 9223372036854775807; exact Nat.le_of_ble_eq_true rfl, fun _ => ⟨rfl, rfl⟩⟩, he _⟩
    · exact ⟨Nat.le_of_ble_eq_true rfl, ⟨Nat.le_refl _, by show _ ≤ 9223372036854775807; exact Nat.le_of_ble_eq_true rfl, fun h => by cases h⟩, hi.more (Nat.le_refl _) (by rw [World.size_alloc, World.size_alloc]; omega)⟩
    · exact ⟨Nat.le_of_ble_eq_true rfl, ⟨Nat.le_refl _, by show _ ≤ 9223372036854775807; exact Nat.le_of_ble_eq_true rfl, fun _ => ⟨rfl, rfl⟩⟩, he _⟩
    · exact ⟨Nat.le_of_ble_eq_true rfl, ⟨Nat.le_refl _, by show _ ≤ 9223372036854775807; exact Nat.le_of_ble_eq_true rfl, fun h => by cases h⟩, hj.more (Nat.le_refl _) (by rw [World.size_alloc, World.size_alloc]; omega)⟩
  · intro r hr
    simp only [List.mem_cons, List.not_mem_nil, or_false] at hr
    rcases hr with rfl | rfl | rfl | rfl | rfl <;> exact Nat.le_of_ble_eq_true rfl
theorem cf_a3 : askedT chapterF 3 = 0 := by decide
theorem cf_f3 : fieldsT chapterF 3 = [0, 1] := by decide
theorem cf_a4 : askedT chapterF 4 = 0 := by decide
theorem cf_f4 : fieldsT chapterF 4 = [0, 1, 0] := by decide
theorem cf_a5 : askedT chapterF 5 = 2 := by decide
theorem cf_f5 : fieldsT chapterF 5 = [] := by decide
theorem cf_s41 : stepT chapterF 4 1 = (2, 0) := by decide
theorem cf_s00 : stepT chapterF 0 0 = (0, 2) := by decide
theorem cf_s31 : stepT chapterF 3 1 = (0, 0) := by decide
theorem cf_l30 : flatT chapterF 3 0 = (0, 0) := by decide
theorem cf_l31 : flatT chapterF 3 1 = (1, 0) := by decide
theorem cf_l32 : flatT chapterF 3 2 = (0, 0) := by decide
theorem cf_l33 : flatT chapterF 3 3 = (1, 0) := by decide
theorem cf_l34 : flatT chapterF 3 4 = (0, 2) := by decide
theorem cf_l0m : flatT chapterF 0 (-1) = (0, 2) := by decide
theorem cf_l44 : flatT chapterF 4 4 = (2, 0) := by decide

set_option maxRecDepth 100000 in
set_option maxHeartbeats 1600000 in
theorem aliveF_any (w : World) : Calls Try.prog 35 #[] w fun e w' => e = .returned (.bool true) ∧ Below w.heap.size w w' := by
  have HB0 := Lib.hid (Below.refl w.heap.size w)
  go_enter Try.func35, Try.ntmps35
  go_wp2_with fail
  refine (chapterF_any _).mono ?_
  rintro e w1 ⟨A1, c1, rows1, rfl, htab, ht, hb⟩
  have HB1 := Lib.hid (HB0.out.trans (hb.mono HB0.out.size))
  have hc := pfields_any htab 3
  rw [ht, cf_a3, cf_f3] at hc
  try dsimp only at hc
  have HC := Lib.hid hc
  clear htab ht hb hc
  go_wp2_with fail
  refine HC.out.mono ?_
  rintro e w2 ⟨v1, rfl, hown, hb⟩
  have L_2 := Lib.hid hown
  clear hown
  have HB2 := Lib.hid (HB1.out.trans (hb.mono HB1.out.size))
  clear hb HC
  go_wp2_with fail
  refine (chapterF_any _).mono ?_
  rintro e w3 ⟨A3, c3, rows3, rfl, htab, ht, hb⟩
  have L_3 := Lib.hid (L_2.out.keep hb)
  have HB3 := Lib.hid (HB2.out.trans (hb.mono HB2.out.size))
  have hc := pfields_any htab 4
  rw [ht, cf_a4, cf_f4] at hc
  try dsimp only at hc
  have HC := Lib.hid hc
  clear htab ht hb hc
  go_wp2_with fail
  refine HC.out.mono ?_
  rintro e w4 ⟨v2, rfl, hown, hb⟩
  have L_4 := Lib.hid (L_3.out.keep hb)
  have K_4 := Lib.hid hown
  clear hown
  have HB4 := Lib.hid (HB3.out.trans (hb.mono HB3.out.size))
  clear hb HC
  go_wp2_with fail
  refine (chapterF_any _).mono ?_
  rintro e w5 ⟨A5, c5, rows5, rfl, htab, ht, hb⟩
  have L_5 := Lib.hid (L_4.out.keep hb)
  have K_5 := Lib.hid (K_4.out.keep hb)
  have HB5 := Lib.hid (HB4.out.trans (hb.mono HB4.out.size))
  have hc := pstep_any htab 4 1
  rw [ht, cf_s41] at hc
  try dsimp only at hc
  have HC := Lib.hid hc
  clear htab ht hb hc
  go_wp2_with fail
  refine HC.out.mono ?_
  rintro e w6 ⟨rfl, hb⟩
  have L_6 := Lib.hid (L_5.out.keep hb)
  have K_6 := Lib.hid (K_5.out.keep hb)
  have HB6 := Lib.hid (HB5.out.trans (hb.mono HB5.out.size))
  clear hb HC
  go_wp2_with fail
  go_loopw [7, 8] (fun a i wr => ∃ j : Nat, j ≤ 4 ∧ i = .int .i64 j ∧ a = .bool true ∧ Below w6.heap.size w6 wr) (fun _ i _ => 4 - (intOf i).toNat)
  case atStart => exact ⟨0, by omega, rfl, rfl, Below.refl _ _⟩
  case round =>
    obtain ⟨j, hj, rfl, rfl, hbel⟩ := hrel
    have HBL := Lib.hid hbel
    clear hbel
    by_cases hlt : j < 4
    · have hj4 : j = 0 ∨ j = 1 ∨ j = 2 ∨ j = 3 := by omega
      rcases hj4 with rfl | rfl | rfl | rfl
      · clear hj hlt
        go_wp2_with fail
        refine (chapterF_any _).mono ?_
        rintro e wa ⟨Aa, ca, rowsa, rfl, htab, ht, hb⟩
        have HBA := Lib.hid (HBL.out.trans (hb.mono HBL.out.size))
        have hc := pflat_any htab 3 0
        rw [ht, cf_l30] at hc
        try dsimp only at hc
        have HC := Lib.hid hc
        clear htab ht hb hc
        go_wp2_with fail
        refine HC.out.mono ?_
        rintro e wb ⟨rfl, hb⟩
        have HBB := Lib.hid (HBA.out.trans (hb.mono HBA.out.size))
        clear hb HC
        go_wp2_with fail
        go_roundw
        case rel => exact ⟨1, by omega, by go_num, rfl, HBB.out⟩
        case measure => simp [intOf]
      · clear hj hlt
        go_wp2_with fail
        refine (chapterF_any _).mono ?_
        rintro e wa ⟨Aa, ca, rowsa, rfl, htab, ht, hb⟩
        have HBA := Lib.hid (HBL.out.trans (hb.mono HBL.out.size))
        have hc := pflat_any htab 3 1
        rw [ht, cf_l31] at hc
        try dsimp only at hc
        have HC := Lib.hid hc
        clear htab ht hb hc
        go_wp2_with fail
        refine HC.out.mono ?_
        rintro e wb ⟨rfl, hb⟩
        have HBB := Lib.hid (HBA.out.trans (hb.mono HBA.out.size))
        clear hb HC
        go_wp2_with fail
        go_roundw
        case rel => exact ⟨2, by omega, by go_num, rfl, HBB.out⟩
        case measure => simp [intOf]
      · clear hj hlt
        go_wp2_with fail
        refine (chapterF_any _).mono ?_
        rintro e wa ⟨Aa, ca, rowsa, rfl, htab, ht, hb⟩
        have HBA := Lib.hid (HBL.out.trans (hb.mono HBL.out.size))
        have hc := pflat_any htab 3 2
        rw [ht, cf_l32] at hc
        try dsimp only at hc
        have HC := Lib.hid hc
        clear htab ht hb hc
        go_wp2_with fail
        refine HC.out.mono ?_
        rintro e wb ⟨rfl, hb⟩
        have HBB := Lib.hid (HBA.out.trans (hb.mono HBA.out.size))
        clear hb HC
        go_wp2_with fail
        go_roundw
        case rel => exact ⟨3, by omega, by go_num, rfl, HBB.out⟩
        case measure => simp [intOf]
      · clear hj hlt
        go_wp2_with fail
        refine (chapterF_any _).mono ?_
        rintro e wa ⟨Aa, ca, rowsa, rfl, htab, ht, hb⟩
        have HBA := Lib.hid (HBL.out.trans (hb.mono HBL.out.size))
        have hc := pflat_any htab 3 3
        rw [ht, cf_l33] at hc
        try dsimp only at hc
        have HC := Lib.hid hc
        clear htab ht hb hc
        go_wp2_with fail
        refine HC.out.mono ?_
        rintro e wb ⟨rfl, hb⟩
        have HBB := Lib.hid (HBA.out.trans (hb.mono HBA.out.size))
        clear hb HC
        go_wp2_with fail
        go_roundw
        case rel => exact ⟨4, by omega, by go_num, rfl, HBB.out⟩
        case measure => simp [intOf]
    · have hO1 := L_6.out.keep HBL.out
      have hO2 := K_6.out.keep HBL.out
      obtain ⟨A7, c7, rfl, hnil7, hints7, hle7, hcap7⟩ := hO1.form
      obtain ⟨A8, c8, rfl, hnil8, hints8, hle8, hcap8⟩ := hO2.form
      have HBQ := Lib.hid (HB6.out.trans (HBL.out.mono HB6.out.size))
      have hb7 : Below wr.heap.size wr (wr.alloc (.cells (([0, 1] : List Int).map (Value.int .i64)).toArray 3)) := (Below.refl _ _).alloc (Nat.le_refl _) _
      have HS := Lib.hid (sameInts_any (xs := [0, 1]) (ys := [0, 1]) ⟨hle7, hcap7, hnil7⟩ (hints7.keep hb7) (c' := 2) ⟨Nat.le_refl 2, by show 2 ≤ 9223372036854775807; omega, fun h => by cases h⟩ (ints_built wr [0, 1] wr.heap.size rfl))
      have HB7 := Lib.hid hb7
      have HI8 := Lib.hid hints8
      have HH8 : Hid (Hdr A8 ([0, 1, 0] : List Int).length c8) := Lib.hid ⟨hle8, hcap8, hnil8⟩
      clear hO1 hO2 hnil7 hints7 hle7 hcap7 hnil8 hints8 hle8 hcap8 hb7
      go_wp2_with fail
      refine HS.out.mono ?_
      rintro e w97 ⟨rfl, hb⟩
      have HB97 := Lib.hid (HB7.out.trans (hb.mono HB7.out.size))
      clear hb HS
      have hb9 : Below w97.heap.size w97 (w97.alloc (.cells (([0, 1, 0] : List Int).map (Value.int .i64)).toArray 3)) := (Below.refl _ _).alloc (Nat.le_refl _) _
      have HS := Lib.hid (sameInts_any (xs := [0, 1, 0]) (ys := [0, 1, 0]) HH8.out ((HI8.out.keep HB97.out).keep (hb9.mono HB97.out.size)) (c' := 3) ⟨Nat.le_refl 3, by show 3 ≤ 9223372036854775807; omega, fun h => by cases h⟩ (ints_built w97 [0, 1, 0] w97.heap.size rfl))
      have HB9 := Lib.hid hb9
      clear hb9
      go_wp2_with fail
      refine HS.out.mono ?_
      rintro e w98 ⟨rfl, hb⟩
      have HB98 := Lib.hid (HB9.out.trans (hb.mono HB9.out.size))
      clear hb HS
      go_wp2_with fail
      go_ret
      exact ⟨rfl, (HBQ.out.trans (HB97.out.mono HBQ.out.size)).trans (HB98.out.mono (Nat.le_trans HBQ.out.size HB97.out.size))⟩
end Go.Proofs.Ytphoomlamdelkaa
