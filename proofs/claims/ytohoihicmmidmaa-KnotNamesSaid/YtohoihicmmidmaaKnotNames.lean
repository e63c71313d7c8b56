/-
  The walk of the law KnotNames.
-/
import Derived.Test.YtohoihicmmidmaaKnArrs
namespace Go.Proofs.Ytohoihicmmidmaa
set_option linter.unusedVariables false
set_option linter.unusedSimpArgs false
open Go.Instr
open Go.ChangeShapes Go.WideShapes Go.ChangeAt Go.RowKit Kn

theorem ch1 : tiedE 4 chL 1 = 0 := by decide
theorem ch0 : tiedE 4 chL 0 = 0 := by decide
theorem chTies {a : Nat} (ha : a < 4) : tiesB chL a = chL.any (tieP (placeOf [[3], [1, 2], [0]]) a) := (ties_places chOk chK ha).symm
theorem chTied1 : tiedA 4 chL 1 = true := by
  unfold tiedA
  rw [if_pos ch1]
  show tiesB chL 1 = true
  rw [chTies (by decide)]
  decide
theorem chTied0 : tiedA 4 chL 0 = false := by
  unfold tiedA
  rw [if_pos ch0]
  show tiesB chL 0 = false
  rw [chTies (by decide)]
  decide
def lpL : List (Int × Int) := [(0, 0)]
theorem lpOk : okG 1 lpL := (check_ok (n := 1) (by decide : checkG 1 lpL = 0)).2.2.2
theorem lpE : tiedE 1 lpL 0 = 0 := by decide
theorem lpTied : tiedA 1 lpL 0 = true := by
  unfold tiedA
  rw [if_pos lpE]
  show tiesB lpL 0 = true
  unfold tiesB lpL
  rw [List.any_eq_true]
  exact ⟨(0, 0), by simp, by
    simp only [Bool.and_eq_true]
    exact ⟨by decide, wayB_iff.2 (Way.refl 0)⟩⟩
theorem gin1 (w : World) (x y : Int) : GIn (w.alloc (.cells #[.int .i64 x, .int .i64 y] 32)) (some ⟨w.heap.size, 0, none⟩) 1 [(x, y)] := by
  have hb := Blk.new w 32 #[.int .i64 x, .int .i64 y]
  refine ⟨⟨Nat.le_refl _, by unfold maxLen; omega, fun h => by cases h⟩, fun hn => ⟨w.heap.size, 0, rfl, Nat.zero_le _, hb.lt, fun i hi j hj => ?_⟩⟩
  rw [hb.cells]
  match i, hi, j, hj with
  | 0, _, 0, _ => rfl
  | 0, _, 1, _ => rfl
/-- Many arrows, all of them from 0 to 0. -/
theorem madeArr (k : Nat) : (madeCells #[.int .i64 0, .int .i64 0] (k * 2)).toList = (List.replicate k ((0 : Int), (0 : Int))).flatMap arr2 := by
  apply List.ext_getElem?
  intro j
  by_cases hj : j < k * 2
  · have h1 := flat_at (List.replicate k ((0 : Int), (0 : Int))) (j / 2) (j % 2) (by rw [List.length_replicate]; omega) (by omega)
    rw [show j / 2 * 2 + j % 2 = j by omega, List.getD_eq_getElem?_getD, List.getElem?_replicate, if_pos (by omega)] at h1
    rw [h1]
    have h2 : j % 2 = 0 ∨ j % 2 = 1 := by omega
    rw [Array.getElem?_toList]
    rcases h2 with h2 | h2 <;> simp [madeCells, hj, h2, arrCell]
  · rw [List.getElem?_eq_none (by rw [Array.length_toList, size_madeCells]; omega), List.getElem?_eq_none (by rw [arr_flat, List.length_replicate]; omega)]
theorem manyCheck : checkG 1 (List.replicate 10001 ((0 : Int), (0 : Int))) = 4 := by
  unfold checkG
  rw [if_pos (.inr (by rw [List.length_replicate]; omega))]
theorem manyHeads : headsG 1 (List.replicate 10001 ((0 : Int), (0 : Int))) = [] := by
  unfold headsG
  rw [if_neg (by rw [manyCheck]; decide)]
set_option maxRecDepth 100000 in
set_option maxHeartbeats 6400000 in
theorem walk_KnotNames {w : World} : Calls Try.prog 5 #[] w fun e w' => e = .returned (.bool true) ∧ Below w.heap.size w w' := by
  have HC1 := Lib.hid (heads_any (GIn.none (w := w)) 1001)
  rw [show headsG 1001 [] = [] from rfl, show checkG 1001 [] = 4 from rfl] at HC1
  go_enter Try.func5, Try.ntmps5
  go_wp2_with fail
  refine HC1.out.mono ?_
  rintro e w1 ⟨v1, rfl, hv1, hb1⟩
  have HB1 := Lib.hid hb1
  have n2 : Below w1.heap.size w1 (w1.alloc (.cells #[.int .i64 0, .int .i64 2] 32)) := (Below.refl _ _).alloc (Nat.le_refl _) _
  have HB2 := Lib.hid (HB1.out.trans (n2.mono HB1.out.size))
  have HC2 := Lib.hid (ranks_any (gin1 w1 0 2) 2)
  rw [show ranksG 2 [(0, 2)] = [] from by unfold ranksG; rw [if_neg (by decide)], show checkG 2 [(0, 2)] = 2 from by decide] at HC2
  clear hb1 hv1 n2
  go_wp2_with fail
  refine HC2.out.mono ?_
  rintro e w3 ⟨v3, rfl, hv3, hb3⟩
  have HB3 := Lib.hid (HB2.out.trans (hb3.mono HB2.out.size))
  have HC3 := Lib.hid (heads_any (GIn.none (w := w3)) (-1))
  rw [show headsG (-1) [] = [] from by unfold headsG; rw [if_neg (by decide)], show checkG (-1) [] = 2 from by decide] at HC3
  clear hb3 hv3
  go_wp2_with fail
  refine HC3.out.mono ?_
  rintro e w4 ⟨v4, rfl, hv4, hb4⟩
  have HB4 := Lib.hid (HB3.out.trans (hb4.mono HB3.out.size))
  have HC4 := Lib.hid (tied_any (GIn.none (w := w4)) 2 2)
  rw [show tiedE 2 [] 2 = 2 from by decide, show tiedA 2 [] 2 = false from by unfold tiedA; rw [if_neg (by decide)]] at HC4
  clear hb4 hv4
  go_wp2_with fail
  refine HC4.out.mono ?_
  rintro e w5 ⟨rfl, hb5⟩
  have HB5 := Lib.hid (HB4.out.trans (hb5.mono HB4.out.size))
  clear hb5
  go_wp2_with fail
  refine (chapter_any w5).mono ?_
  rintro e w6 ⟨rfl, hg6, hb6⟩
  have HB6 := Lib.hid (HB5.out.trans (hb6.mono HB5.out.size))
  have HC6 := Lib.hid (tied_any hg6 4 1)
  rw [ch1, chTied1] at HC6
  clear hb6 hg6
  go_wp2_with fail
  refine HC6.out.mono ?_
  rintro e w7 ⟨rfl, hb7⟩
  have HB7 := Lib.hid (HB6.out.trans (hb7.mono HB6.out.size))
  clear hb7
  go_wp2_with fail
  refine (chapter_any w7).mono ?_
  rintro e w8 ⟨rfl, hg8, hb8⟩
  have HB8 := Lib.hid (HB7.out.trans (hb8.mono HB7.out.size))
  have HC8 := Lib.hid (tied_any hg8 4 0)
  rw [ch0, chTied0] at HC8
  clear hb8 hg8
  go_wp2_with fail
  refine HC8.out.mono ?_
  rintro e w9 ⟨rfl, hb9⟩
  have HB9 := Lib.hid (HB8.out.trans (hb9.mono HB8.out.size))
  have n10 : Below w9.heap.size w9 (w9.alloc (.cells #[.int .i64 0, .int .i64 0] 32)) := (Below.refl _ _).alloc (Nat.le_refl _) _
  have HB10 := Lib.hid (HB9.out.trans (n10.mono HB9.out.size))
  have HC10 := Lib.hid (tied_any (l := lpL) (gin1 w9 0 0) 1 0)
  rw [lpE, lpTied] at HC10
  clear hb9 n10
  go_wp2_with fail
  refine HC10.out.mono ?_
  rintro e w11 ⟨rfl, hb11⟩
  have HB11 := Lib.hid (HB10.out.trans (hb11.mono HB10.out.size))
  have HC11 := Lib.hid (heads_any (GIn.none (w := w11)) 0)
  rw [show headsG 0 [] = [] from by unfold headsG; rw [if_pos (by decide)]; rfl, show checkG 0 [] = 0 from by decide] at HC11
  clear hb11
  go_wp2_with fail
  refine HC11.out.mono ?_
  rintro e w12 ⟨v12, rfl, hv12, hb12⟩
  have HB12 := Lib.hid (HB11.out.trans (hb12.mono HB11.out.size))
  obtain ⟨A12, c12, rfl, _⟩ := hv12.form
  clear hb12 hv12
  obtain ⟨i0, hi, hz0, hz1, hz2⟩ := info_parts arrInfo
  go_wp2_with (at_make; refine wpList_make_full _ rfl (.const (.int .i64 10001)) (.const (.int .i64 10001)) 22 rfl w12.heap.size 32 i0 (.agg #[.int .i64 0, .int .i64 0]) 2 Try.underlying22 hi hz0 hz1 .i64 .i64 10001 10001 10001 rfl rfl rfl rfl (by rw [hz2]; omega) (by unfold maxLen; omega) (Nat.le_refl _) ?_; intro w13 hown hg; refine pause ?_)
  have hown2 : w13.ownsRow w12.heap.size 32 2 (.slice (some ⟨w12.heap.size, 0, none⟩) 10001 10001) (List.replicate 10001 ((0 : Int), (0 : Int))).length ((List.replicate 10001 ((0 : Int), (0 : Int))).flatMap arr2) := by
    rw [← madeArr, List.length_replicate]; exact hown
  obtain ⟨A13, c13, he13, hgin⟩ := arrs_own hown2
  have hb13 : Below w12.heap.size w12 w13 := ⟨hg.os, hg.tape, hg.output, hg.size, fun k hk => hg.block k hk (by simp)⟩
  have HB13 := Lib.hid (HB12.out.trans (hb13.mono HB12.out.size))
  have HC13 := heads_any hgin 1
  rw [manyHeads, manyCheck, ← he13] at HC13
  have HC13 := Lib.hid HC13
  clear hown hg hown2 he13 hgin hb13
  refine resume ?_
  go_wp2_with fail
  refine HC13.out.mono ?_
  rintro e w14 ⟨v14, rfl, hv14, hb14⟩
  have HB14 := Lib.hid (HB13.out.trans (hb14.mono HB13.out.size))
  clear hb14 hv14
  go_wp2_with fail
  refine (alive_any w14).mono ?_
  rintro e w15 ⟨rfl, hb15⟩
  have HB15 := Lib.hid (HB14.out.trans (hb15.mono HB14.out.size))
  clear hb15
  go_wp2_with fail
  go_ret
  exact ⟨rfl, HB15.out⟩
end Go.Proofs.Ytohoihicmmidmaa
