/-
  The chapter's arrows, and that the program answers as the chapter says.
-/
import Derived.Test.YtohoihicmmidmaaKnProg3
namespace Go.Proofs.Ytohoihicmmidmaa
set_option linter.unusedVariables false
set_option linter.unusedSimpArgs false
open Go.ChangeShapes Go.WideShapes Go.ChangeAt Go.RowKit Kn

def chL : List (Int × Int) := [(0, 1), (1, 2), (2, 1), (2, 3)]
theorem chCheck : checkG 4 chL = 0 := by decide
theorem chOk : okG 4 chL := (check_ok chCheck).2.2.2
theorem chAll : (knotsP (toL chL) 4 4).all = [[3], [1, 2], [0]] := by decide
theorem chK : Knots (Arr chL) 4 [[3], [1, 2], [0]] := chAll ▸ knots_of chOk
theorem chHead {a m : Nat} {A : List Nat} (ha : a < 4) (hA : ([[3], [1, 2], [0]] : List (List Nat))[placeOf [[3], [1, 2], [0]] a]? = some A) (hm : m ∈ A) (hl : ∀ b ∈ A, m ≤ b) : headN (Arr chL) a = m := head_eq (chK.head ha hA hm hl)
theorem chHeads : headsG 4 chL = [0, 1, 1, 3] := by
  unfold headsG
  rw [if_pos chCheck]
  show nI (headsL (Arr chL) 4) = _
  have h0 : headN (Arr chL) 0 = 0 := chHead (A := [0]) (by decide) (by decide) (by decide) (by decide)
  have h1 : headN (Arr chL) 1 = 1 := chHead (A := [1, 2]) (by decide) (by decide) (by decide) (by decide)
  have h2 : headN (Arr chL) 2 = 1 := chHead (A := [1, 2]) (by decide) (by decide) (by decide) (by decide)
  have h3 : headN (Arr chL) 3 = 3 := chHead (A := [3]) (by decide) (by decide) (by decide) (by decide)
  show nI [headN (Arr chL) 0, headN (Arr chL) 1, headN (Arr chL) 2, headN (Arr chL) 3] = _
  rw [h0, h1, h2, h3]
  rfl
theorem chRank {a : Nat} (ha : a < 4) : rankN (Arr chL) 4 a = (ranksP (toL chL) [[3], [1, 2], [0]]).getD (placeOf [[3], [1, 2], [0]] a) 0 := rank_eq chOk (ranks_is (arr_iff chOk) chK) ha
theorem chRanks : ranksG 4 chL = [2, 1, 1, 0] := by
  unfold ranksG
  rw [if_pos chCheck]
  show nI [rankN (Arr chL) 4 0, rankN (Arr chL) 4 1, rankN (Arr chL) 4 2, rankN (Arr chL) 4 3] = _
  rw [chRank (by decide), chRank (by decide), chRank (by decide), chRank (by decide)]
  decide
theorem chapter_gin (w : World) : GIn (w.alloc (.cells #[.int .i64 0, .int .i64 1, .int .i64 1, .int .i64 2, .int .i64 2, .int .i64 1, .int .i64 2, .int .i64 3] 32)) (some ⟨w.heap.size, 0, none⟩) 4 chL := by
  have hb := Blk.new w 32 #[.int .i64 0, .int .i64 1, .int .i64 1, .int .i64 2, .int .i64 2, .int .i64 1, .int .i64 2, .int .i64 3]
  refine ⟨⟨Nat.le_refl _, by unfold maxLen; omega, fun h => by cases h⟩, fun hn => ⟨w.heap.size, 0, rfl, Nat.zero_le _, hb.lt, fun i hi j hj => ?_⟩⟩
  rw [hb.cells]
  match i, hi, j, hj with
  | 0, _, 0, _ => rfl
  | 0, _, 1, _ => rfl
  | 1, _, 0, _ => rfl
  | 1, _, 1, _ => rfl
  | 2, _, 0, _ => rfl
  | 2, _, 1, _ => rfl
  | 3, _, 0, _ => rfl
  | 3, _, 1, _ => rfl
theorem chapter_any (w : World) : Calls Try.prog 14 #[] w fun e w' => e = .returned (.slice (some ⟨w.heap.size, 0, none⟩) 4 4) ∧ GIn w' (some ⟨w.heap.size, 0, none⟩) 4 chL ∧ Below w.heap.size w w' := by
  have HG := Lib.hid (chapter_gin w)
  have HB : Hid (Below w.heap.size w (w.alloc (.cells #[.int .i64 0, .int .i64 1, .int .i64 1, .int .i64 2, .int .i64 2, .int .i64 1, .int .i64 2, .int .i64 3] 32))) := Lib.hid ((Below.refl _ _).alloc (Nat.le_refl _) _)
  go_enter Try.func14, Try.ntmps14
  go_wp2_with fail
  go_ret
  exact ⟨rfl, HG.out, HB.out⟩
theorem lit4 (w : World) (a b c d : Int) : OwnInts (w.alloc (.cells #[.int .i64 a, .int .i64 b, .int .i64 c, .int .i64 d] 3)) 0 (.slice (some ⟨w.heap.size, 0, none⟩) 4 4) [a, b, c, d] :=
  IBlk.own (ys := [a, b, c, d]) (Blk.new w 3 #[.int .i64 a, .int .i64 b, .int .i64 c, .int .i64 d]) (Nat.zero_le _) (by show 4 ≤ maxLen; unfold maxLen; omega)
/-- Two lists, told apart. -/
theorem same_of {w : World} {lo lo' : Nat} {v v' : Value} {xs ys : List Int} (h : OwnInts w lo v xs) (h' : OwnInts w lo' v' ys) {b : Bool} (hb : decide (xs = ys) = b) : Calls Try.prog 18 #[v, v'] w fun e w' => e = .returned (.bool b) ∧ Below w.heap.size w w' := by
  obtain ⟨A, c, rfl, h1, h2⟩ := h.full
  obtain ⟨A', c', rfl, h3, h4⟩ := h'.full
  rw [← hb]
  exact sameInts_any h1 h2 h3 h4
set_option maxHeartbeats 1600000 in
theorem alive_any (w : World) : Calls Try.prog 8 #[] w fun e w' => e = .returned (.bool true) ∧ Below w.heap.size w w' := by
  go_enter Try.func8, Try.ntmps8
  go_wp2_with fail
  refine (chapter_any w).mono ?_
  rintro e w1 ⟨rfl, hg1, hb1⟩
  have HB1 := Lib.hid hb1
  have HH := Lib.hid (heads_any hg1 4)
  rw [chHeads, chCheck] at HH
  clear hg1 hb1
  go_wp2_with fail
  refine HH.out.mono ?_
  rintro e w2 ⟨v2, rfl, ho2, hb2⟩
  have HB2 := Lib.hid (HB1.out.trans (hb2.mono HB1.out.size))
  have HO2 := Lib.hid ho2
  clear hb2 ho2
  go_wp2_with fail
  refine (chapter_any w2).mono ?_
  rintro e w3 ⟨rfl, hg3, hb3⟩
  have HB3 := Lib.hid (HB2.out.trans (hb3.mono HB2.out.size))
  have HO3 := Lib.hid (HO2.out.keep hb3)
  have HR := Lib.hid (ranks_any hg3 4)
  rw [chRanks, chCheck] at HR
  clear hg3 hb3
  go_wp2_with fail
  refine HR.out.mono ?_
  rintro e w4 ⟨v4, rfl, ho4, hb4⟩
  have HB4 := Lib.hid (HB3.out.trans (hb4.mono HB3.out.size))
  have HO4 := Lib.hid (HO3.out.keep hb4)
  have HP4 := Lib.hid ho4
  clear hb4 ho4
  have n5 : Below w4.heap.size w4 (w4.alloc (.cells #[.int .i64 0, .int .i64 1, .int .i64 1, .int .i64 3] 3)) := (Below.refl _ _).alloc (Nat.le_refl _) _
  have HS5 := Lib.hid (same_of (HO4.out.keep n5) (lit4 w4 0 1 1 3) (b := true) (by decide))
  have HP5 := Lib.hid (HP4.out.keep n5)
  have HB5 := Lib.hid (HB4.out.trans (n5.mono HB4.out.size))
  clear n5
  go_wp2_with fail
  refine HS5.out.mono ?_
  rintro e w6 ⟨rfl, hb6⟩
  have HB6 := Lib.hid (HB5.out.trans (hb6.mono HB5.out.size))
  have HP6 := HP5.out.keep hb6
  have n7 : Below w6.heap.size w6 (w6.alloc (.cells #[.int .i64 2, .int .i64 1, .int .i64 1, .int .i64 0] 3)) := (Below.refl _ _).alloc (Nat.le_refl _) _
  have HS7 := Lib.hid (same_of (HP6.keep n7) (lit4 w6 2 1 1 0) (b := true) (by decide))
  have HB7 := Lib.hid (HB6.out.trans (n7.mono HB6.out.size))
  clear n7 hb6 HP6
  go_wp2_with fail
  refine HS7.out.mono ?_
  rintro e w8 ⟨rfl, hb8⟩
  have HB8 := Lib.hid (HB7.out.trans (hb8.mono HB7.out.size))
  clear hb8
  go_wp2_with fail
  go_ret
  exact ⟨rfl, HB8.out⟩
end Go.Proofs.Ytohoihicmmidmaa
