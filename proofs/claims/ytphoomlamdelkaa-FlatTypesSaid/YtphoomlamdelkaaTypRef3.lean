/-
  The reference's answers for types: Check, asked, Scalar, Cells, PartOf, Part.
-/
import Derived.Test.YtphoomlamdelkaaTypOf
import Derived.Test.YtphoomlamdelkaaTypPure2
namespace Go.Proofs.Ytphoomlamdelkaa
set_option linter.unusedVariables false
set_option linter.unusedSimpArgs false
open Go.ChangeShapes Go.WideShapes Go.ChangeAt Go.RowKit

/-- A table that came in, by its slice. -/
structure TabIn (w : World) (A : Option Addr) (c : Nat) (rows : List TyR) : Prop where
  hdr : Hdr A rows.length c
  rows : TypsAt w 0 w.heap.size A rows
theorem TabIn.on {w w' : World} {A : Option Addr} {c : Nat} {rows : List TyR} (h : TabIn w A c rows) (hb : Below w.heap.size w w') : TabIn w' A c rows := ⟨h.hdr, h.rows.on hb⟩
theorem TabIn.len {w : World} {A : Option Addr} {c : Nat} {rows : List TyR} (h : TabIn w A c rows) : rows.length ≤ 9223372036854775807 := by
  have := Nat.le_trans h.hdr.fit h.hdr.cap
  unfold maxLen at this
  omega
section
variable {w : World} {A : Option Addr} {c : Nat} {rows : List TyR}
theorem rmay_is (h : TabIn w A c rows) {k : Nat} (hk : k < rows.length) {b : Bool} (hb : mayT (tbl rows) k = b) :
    Calls Try.prog 42 #[.slice A rows.length c, .int .i64 k] w fun e w' => e = .returned (.bool b) ∧ Below w.heap.size w w' := hb ▸ mayType_any h.hdr h.rows hk

set_option maxHeartbeats 800000 in
theorem rcheck_any (h : TabIn w A c rows) : Calls Try.prog 16 #[.slice A rows.length c] w fun e w' => e = .returned (.int .i64 (checkT (tbl rows))) ∧ Below w.heap.size w w' := by
  have hl := h.len
  have HX := Lib.hid h
  clear h
  by_cases h16 : 16 < rows.length
  · rw [check_many (by rw [tbl_len]; exact h16)]
    go_enter Try.func16, Try.ntmps16
    go_wp2_with fail
    go_ret
    exact ⟨rfl, Below.refl _ _⟩
  have H16 : Hid ((tbl rows).length ≤ 16) := Lib.hid (by rw [tbl_len]; omega)
  go_enter Try.func16, Try.ntmps16
  go_wp2_with fail
  go_loopw [3] (fun i wr => ∃ k : Nat, k ≤ rows.length ∧ i = .int .i64 k ∧ allGood (tbl rows) k = true ∧ Below w.heap.size w wr) (fun i _ => rows.length - (intOf i).toNat)
  case atStart => exact ⟨0, Nat.zero_le _, rfl, rfl, Below.refl _ _⟩
  case round =>
    obtain ⟨k, hk, rfl, hgood, hbel⟩ := hrel
    have HG := Lib.hid hgood
    have HB := Lib.hid hbel
    clear hgood hbel
    by_cases hlt : k < rows.length
    · cases hm : mayT (tbl rows) k with
      | false =>
        have HM := Lib.hid hm
        clear hm
        go_wp2_with fail
        refine (rmay_is (HX.out.on HB.out) hlt HM.out).mono ?_
        rintro e w1 ⟨rfl, hb1⟩
        have HB1 := Lib.hid (HB.out.trans (hb1.mono HB.out.size))
        clear hb1
        go_wp2_with fail
        go_ret
        exact ⟨ret_num (check_bad H16.out (k := k) (by rw [tbl_len]; exact hlt) (by unfold goodT; rw [HM.out]; rfl)).symm, HB1.out⟩
      | true =>
        have HM := Lib.hid hm
        clear hm
        by_cases h32 : (ofT (tbl rows) k).length ≤ 32
        all_goals
          go_wp2_with fail
          refine (rmay_is (HX.out.on HB.out) hlt HM.out).mono ?_
          rintro e w1 ⟨rfl, hb1⟩
          have HB1 := Lib.hid (HB.out.trans (hb1.mono HB.out.size))
          clear hb1
          go_wp2_with fail
          refine (rof_any HX.out.hdr k w1 (HX.out.on HB1.out).rows hlt HG.out HM.out).mono ?_
          rintro e w2 ⟨v1, rfl, hown1, hb2⟩
          obtain ⟨A1, c1, rfl, _⟩ := hown1.form
          have HB2 := Lib.hid (HB1.out.trans (hb2.mono HB1.out.size))
          clear hown1 hb2
          go_wp2_with fail
        · go_roundw
          case rel => exact ⟨k + 1, by omega, by go_num, allGood_succ HG.out (by unfold goodT; rw [HM.out]; simpa using h32), HB2.out⟩
          case measure => simp [intOf]; omega
        · go_ret
          exact ⟨ret_num (check_bad H16.out (k := k) (by rw [tbl_len]; exact hlt) (by unfold goodT; rw [HM.out]; simpa using h32)).symm, HB2.out⟩
    · go_wp2_with fail
      go_ret
      exact ⟨ret_num (check_good H16.out (by rw [tbl_len]; exact allGood_mono HG.out (by omega))).symm, HB.out⟩
theorem rcheck_is (h : TabIn w A c rows) {e0 : Int} (he : checkT (tbl rows) = e0) : Calls Try.prog 16 #[.slice A rows.length c] w fun e w' => e = .returned (.int .i64 e0) ∧ Below w.heap.size w w' := he ▸ rcheck_any h

theorem rasked_any (h : TabIn w A c rows) (k : Int) : Calls Try.prog 52 #[.slice A rows.length c, .int .i64 k] w fun e w' => e = .returned (.int .i64 (askedT (tbl rows) k)) ∧ Below w.heap.size w w' := by
  have hl := h.len
  obtain ⟨ch, hch⟩ : ∃ ch, checkT (tbl rows) = ch := ⟨_, rfl⟩
  have HX := Lib.hid h
  have HC := Lib.hid hch
  clear h hch
  by_cases h0 : ch = 0
  · subst h0
    go_enter Try.func52, Try.ntmps52
    go_wp2_with fail
    refine (rcheck_is HX.out HC.out).mono ?_
    rintro e w1 ⟨rfl, hb1⟩
    have HB1 := Lib.hid hb1
    clear hb1
    go_wp2_with fail
    all_goals go_ret
    all_goals refine ⟨ret_num ?_, HB1.out⟩
    all_goals unfold askedT
    all_goals rw [tbl_len, HC.out]
    all_goals simp
    all_goals omega
  · go_enter Try.func52, Try.ntmps52
    go_wp2_with fail
    refine (rcheck_is HX.out HC.out).mono ?_
    rintro e w1 ⟨rfl, hb1⟩
    have HB1 := Lib.hid hb1
    clear hb1
    go_wp2_with fail
    all_goals go_ret
    all_goals refine ⟨ret_num ?_, HB1.out⟩
    all_goals unfold askedT
    all_goals rw [HC.out, if_pos h0]
theorem rasked_is (h : TabIn w A c rows) (k : Int) {e0 : Int} (he : askedT (tbl rows) k = e0) : Calls Try.prog 52 #[.slice A rows.length c, .int .i64 k] w fun e w' => e = .returned (.int .i64 e0) ∧ Below w.heap.size w w' := he ▸ rasked_any h k

theorem rscalar_any (h : TabIn w A c rows) (k : Int) : Calls Try.prog 27 #[.slice A rows.length c, .int .i64 k] w fun e w' => e = .returned (.tuple #[.bool (scalarT (tbl rows) k), .int .i64 (askedT (tbl rows) k)]) ∧ Below w.heap.size w w' := by
  have hl := h.len
  obtain ⟨ch, hch⟩ : ∃ ch, askedT (tbl rows) k = ch := ⟨_, rfl⟩
  have HX := Lib.hid h
  have HC := Lib.hid hch
  have HS : Hid (scalarT (tbl rows) k = if ch = 0 then plainB (tbl rows) k else false) := Lib.hid (by unfold scalarT; rw [hch])
  rw [hch]
  clear h hch
  by_cases h0 : ch = 0
  · subst h0
    go_enter Try.func27, Try.ntmps27
    go_wp2_with fail
    refine (rasked_is HX.out k HC.out).mono ?_
    rintro e w1 ⟨rfl, hb1⟩
    have HB1 := Lib.hid hb1
    clear hb1
    go_wp2_with fail
    refine (rplain_any HX.out.hdr (HX.out.on HB1.out).rows k).mono ?_
    rintro e w1 ⟨rfl, rfl⟩
    go_wp2_with fail
    go_ret2
    exact ⟨by rw [HS.out, if_pos trivial]; rfl, HB1.out⟩
  · go_enter Try.func27, Try.ntmps27
    go_wp2_with fail
    refine (rasked_is HX.out k HC.out).mono ?_
    rintro e w1 ⟨rfl, hb1⟩
    have HB1 := Lib.hid hb1
    clear hb1
    go_wp2_with fail
    go_ret2
    exact ⟨by rw [HS.out, if_neg h0]; rfl, HB1.out⟩

/-- An answer of a list of its own, and an error. -/
def SomeInts2 (xs : List Int) (er : Int) (w : World) (e : Ending) (w' : World) : Prop := ∃ v, e = .returned (.tuple #[v, .int .i64 er]) ∧ OwnInts w' w.heap.size v xs ∧ Below w.heap.size w w'
theorem rcells_any (h : TabIn w A c rows) (k : Int) : Calls Try.prog 28 #[.slice A rows.length c, .int .i64 k] w (SomeInts2 (cellsT (tbl rows) k) (askedT (tbl rows) k) w) := by
  have hl := h.len
  obtain ⟨ch, hch⟩ : ∃ ch, askedT (tbl rows) k = ch := ⟨_, rfl⟩
  have HX := Lib.hid h
  have HC := Lib.hid hch
  have HS : Hid (cellsT (tbl rows) k = if ch = 0 then ofT (tbl rows) k.toNat else []) := Lib.hid (by unfold cellsT; rw [hch])
  rw [hch]
  clear h hch
  by_cases h0 : ch = 0
  · subst h0
    have HG := Lib.hid (asked_good HC.out)
    obtain ⟨_, k0, k1⟩ := asked_zero HC.out
    rw [tbl_len] at k1
    obtain ⟨i, rfl⟩ := Int.eq_ofNat_of_zero_le k0
    go_enter Try.func28, Try.ntmps28
    go_wp2_with fail
    refine (rasked_is HX.out _ HC.out).mono ?_
    rintro e w1 ⟨rfl, hb1⟩
    have HB1 := Lib.hid hb1
    clear hb1
    go_wp2_with fail
    refine (rof_any HX.out.hdr i w1 (HX.out.on HB1.out).rows (by omega) HG.out.below HG.out.may).mono ?_
    rintro e w2 ⟨v1, rfl, hown1, hb2⟩
    have HO := Lib.hid (hown1.more HB1.out.size)
    have HB2 := Lib.hid (HB1.out.trans (hb2.mono HB1.out.size))
    clear hown1 hb2
    go_wp2_with fail
    go_ret2
    exact ⟨_, rfl, by rw [HS.out, if_pos trivial]; exact HO.out, HB2.out⟩
  · go_enter Try.func28, Try.ntmps28
    go_wp2_with fail
    refine (rasked_is HX.out k HC.out).mono ?_
    rintro e w1 ⟨rfl, hb1⟩
    have HB1 := Lib.hid hb1
    clear hb1
    go_wp2_with fail
    go_ret2
    exact ⟨_, rfl, by rw [HS.out, if_neg h0]; exact OwnInts.nil _ _, HB1.out⟩
end
end Go.Proofs.Ytphoomlamdelkaa
