/-
  The reference's answers for types: Ahead, Offset, Same, Twin.
-/
import Derived.Test.YtphoomlamdelkaaTypRef4
import Derived.Test.YtphoomlamdelkaaTypOwn
namespace Go.Proofs.Ytphoomlamdelkaa
set_option linter.unusedVariables false
set_option linter.unusedSimpArgs false
open Go.ChangeShapes Go.WideShapes Go.ChangeAt Go.RowKit

section
variable {w : World} {A : Option Addr} {c : Nat} {rows : List TyR}
set_option maxHeartbeats 400000 in
theorem rahead_any (h : TabIn w A c rows) {k : Nat} (hg : Good (tbl rows) k) (n : Nat) (hn : n ≤ (partsT ((tbl rows).getD k default)).length) :
    Calls Try.prog 55 #[.slice A rows.length c, .int .i64 k, .int .i64 n] w fun e w' => e = .returned (.int .i64 (aheadT (tbl rows) k n)) ∧ Below w.heap.size w w' := by
  have hl := h.len
  have hk : k < rows.length := by have := hg.lt; rwa [tbl_len] at this
  have hn16 := Nat.le_trans hn hg.parts_le
  have HX := Lib.hid h
  have HG := Lib.hid hg
  have HN := Lib.hid hn
  have HD : Hid ((tbl rows).getD k default = (rows.getD k default).data) := Lib.hid (tbl_at hk)
  have hrow := h.row hk
  obtain ⟨b, off, rfl, hbl, c0, c1, c2, c3⟩ := (HX.out.rows.elem hk).at_
  generalize rows.getD k default = r at c0 c1 c2 c3 HD hrow
  have HR := Lib.hid hrow
  clear hrow h hg hn
  go_enter Try.func55, Try.ntmps55
  go_wp2_with fail
  go_loopw [7, 8] (fun a i wr => ∃ j : Nat, j ≤ n ∧ i = .int .i64 j ∧ a = .int .i64 (aheadT (tbl rows) k j) ∧ Below w.heap.size w wr) (fun _ i _ => n - (intOf i).toNat)
  case atStart => exact ⟨0, Nat.zero_le _, rfl, by rw [ahead_zero]; rfl, Below.refl _ _⟩
  case round =>
    obtain ⟨j, hj, rfl, rfl, hbel⟩ := hrel
    have hah := ahead_le HG.out j (Nat.le_trans hj HN.out)
    have HA : Hid (j < n → aheadT (tbl rows) k (j + 1) = aheadT (tbl rows) k j + (ofP (tbl rows) ((partsT ((tbl rows).getD k default)).getD j 0)).length) := Lib.hid fun h => ahead_succ (Nat.lt_of_lt_of_le h HN.out)
    generalize hat : aheadT (tbl rows) k j = at_ at hah HA
    have HE := Lib.hid hat
    clear hat
    have d0 := (hbel.cell (p := ⟨b, off + k * 4, none⟩) hbl).trans c0
    have d1 := (hbel.cell (p := ⟨b, off + k * 4 + 1, none⟩) hbl).trans c1
    have d2 := (hbel.cell (p := ⟨b, off + k * 4 + 2, none⟩) hbl).trans c2
    have d3 := (hbel.cell (p := ⟨b, off + k * 4 + 3, none⟩) hbl).trans c3
    have HB := Lib.hid hbel
    clear hbel
    by_cases hlt : j < n
    · obtain ⟨p, hp⟩ : ∃ p, (partsT ((tbl rows).getD k default)).getD j 0 = p := ⟨_, rfl⟩
      have hpm : p ∈ partsT ((tbl rows).getD k default) := by rw [← hp]; exact mem_getD0 (Nat.lt_of_lt_of_le hlt HN.out)
      have hp2 := HG.out.part hpm
      obtain ⟨p0, p1⟩ := HG.out.parts p hpm
      obtain ⟨q, rfl⟩ := Int.eq_ofNat_of_zero_le p0
      rw [Int.toNat_natCast] at hp2
      have HP : Hid (partOfT r.data j = (q : Int)) := Lib.hid (by rw [← HD.out, partOf_in (Nat.lt_of_lt_of_le hlt HN.out)]; exact hp)
      have hle := hp2.le
      have HQ := Lib.hid hp2
      have HS : Hid (aheadT (tbl rows) k (j + 1) = at_ + (ofT (tbl rows) q).length) := Lib.hid (by rw [HA.out hlt, hp]; rfl)
      clear hpm hp2 hp
      go_wp2_with fail
      refine (rpartOf_any r ((HR.out.keep HB.out).more (Nat.le_refl _) HB.out.size) j (by omega)).mono ?_
      rw [HP.out]
      rintro e w1 ⟨rfl, hb1⟩
      have HB1 := Lib.hid (HB.out.trans (hb1.mono HB.out.size))
      clear hb1
      go_wp2_with fail
      refine (rof_any HX.out.hdr q w1 (HX.out.on HB1.out).rows (by omega) HQ.out.below HQ.out.may).mono ?_
      rintro e w2 ⟨v1, rfl, hown1, hb2⟩
      obtain ⟨A1, c1', rfl, _⟩ := hown1.form
      have HB2 := Lib.hid (HB1.out.trans (hb2.mono HB1.out.size))
      clear hown1 hb2
      go_wp2_with fail
      go_roundw
      case rel => exact ⟨j + 1, by omega, by go_num, by rw [HS.out]; go_num, HB2.out⟩
      case measure => simp [intOf]; omega
    · go_wp2_with fail
      go_ret
      exact ⟨ret_num (by rw [← HE.out, show j = n by omega]), HB.out⟩

theorem part_zero {t : List Ty} {k n : Int} (h : (partT t k n).2 = 0) : askedT t k = 0 ∧ 0 ≤ n ∧ n < (partsT (t.getD k.toNat default)).length := by
  unfold partT at h
  by_cases ha : askedT t k = 0
  · refine ⟨ha, ?_⟩
    rw [if_neg (by rw [ha]; decide)] at h
    split at h
    · assumption
    · exact absurd h (by decide)
  · rw [if_pos ha] at h
    exact absurd h ha
theorem roffset_any (h : TabIn w A c rows) (k n : Int) (hn : n ≤ 9223372036854775807) : Calls Try.prog 30 #[.slice A rows.length c, .int .i64 k, .int .i64 n] w fun e w' => e = .returned (.tuple #[.int .i64 (offsetT (tbl rows) k n).1, .int .i64 (offsetT (tbl rows) k n).2]) ∧ Below w.heap.size w w' := by
  have HX := Lib.hid h
  have HP : Hid (Calls Try.prog 29 #[.slice A rows.length c, .int .i64 k, .int .i64 n] w fun e w' => e = .returned (.tuple #[.int .i64 (partT (tbl rows) k n).1, .int .i64 (partT (tbl rows) k n).2]) ∧ Below w.heap.size w w') := Lib.hid (rpart_any h k n hn)
  clear h
  obtain ⟨p1, hp1⟩ : ∃ p1, (partT (tbl rows) k n).1 = p1 := ⟨_, rfl⟩
  obtain ⟨p2, hp2⟩ : ∃ p2, (partT (tbl rows) k n).2 = p2 := ⟨_, rfl⟩
  rw [hp1, hp2] at HP
  have HO : Hid (offsetT (tbl rows) k n = if p2 ≠ 0 then (0, p2) else (((aheadT (tbl rows) k.toNat n.toNat : Nat) : Int), 0)) := Lib.hid (by unfold offsetT; rw [hp2])
  have H2 := Lib.hid hp2
  clear hp1 hp2
  by_cases h0 : p2 = 0
  · subst h0
    obtain ⟨ha, n0, n1⟩ := part_zero H2.out
    have HG := Lib.hid (asked_good ha)
    obtain ⟨_, k0, k1⟩ := asked_zero ha
    obtain ⟨i, rfl⟩ := Int.eq_ofNat_of_zero_le k0
    obtain ⟨m, rfl⟩ := Int.eq_ofNat_of_zero_le n0
    rw [Int.toNat_natCast] at HG n1
    have HM : Hid (m ≤ (partsT ((tbl rows).getD i default)).length) := Lib.hid (by omega)
    clear ha k0 n0 n1 k1
    go_enter Try.func30, Try.ntmps30
    go_wp2_with fail
    refine HP.out.mono ?_
    rintro e w1 ⟨rfl, hb1⟩
    have HB1 := Lib.hid hb1
    clear hb1
    go_wp2_with fail
    refine (rahead_any (HX.out.on HB1.out) HG.out m HM.out).mono ?_
    rintro e w2 ⟨rfl, hb2⟩
    have HB2 := Lib.hid (HB1.out.trans (hb2.mono HB1.out.size))
    clear hb2
    go_wp2_with fail
    go_ret2
    exact ⟨by rw [HO.out]; rfl, HB2.out⟩
  · go_enter Try.func30, Try.ntmps30
    go_wp2_with fail
    refine HP.out.mono ?_
    rintro e w1 ⟨rfl, hb1⟩
    have HB1 := Lib.hid hb1
    clear hb1
    go_wp2_with fail
    go_ret2
    exact ⟨by rw [HO.out, if_pos h0]; rfl, HB1.out⟩
end

end Go.Proofs.Ytphoomlamdelkaa
