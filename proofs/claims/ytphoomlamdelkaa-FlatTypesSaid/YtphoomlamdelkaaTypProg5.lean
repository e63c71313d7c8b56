/-
  The program's Check, asked, Scalar of types.
-/
import Derived.Test.YtphoomlamdelkaaTypProg4
namespace Go.Proofs.Ytphoomlamdelkaa
set_option linter.unusedVariables false
set_option linter.unusedSimpArgs false
open Go.ChangeShapes Go.WideShapes Go.ChangeAt Go.RowKit

/-- A table that came in, no type of which has too many parts. -/
structure TabFew (w : World) (A : Option Addr) (c : Nat) (rows : List TyR) : Prop where
  tab : TabIn w A c rows
  few : ∀ r ∈ rows, r.parts.length ≤ 1000
theorem TabFew.on {w w' : World} {A : Option Addr} {c : Nat} {rows : List TyR} (h : TabFew w A c rows) (hb : Below w.heap.size w w') : TabFew w' A c rows := ⟨h.tab.on hb, h.few⟩
theorem sizes_snoc (t : List Ty) (k : Nat) : sizesT t (k + 1) = sizesT t k ++ [((ofT t k).length : Int)] := by
  unfold sizesT
  rw [List.range_succ, List.map_append]; rfl
section
variable {w : World} {A : Option Addr} {c : Nat} {rows : List TyR}
set_option maxHeartbeats 800000 in
theorem pcheck_any (h : TabFew w A c rows) : Calls Try.prog 15 #[.slice A rows.length c] w fun e w' => e = .returned (.int .i64 (checkT (tbl rows))) ∧ Below w.heap.size w w' := by
  have hl := h.tab.len
  have HX := Lib.hid h
  clear h
  by_cases h16 : 16 < rows.length
  · rw [check_many (by rw [tbl_len]; exact h16)]
    go_enter Try.func15, Try.ntmps15
    go_wp2_with fail
    go_ret
    exact ⟨rfl, Below.refl _ _⟩
  have H16 : Hid ((tbl rows).length ≤ 16) := Lib.hid (by rw [tbl_len]; omega)
  go_enter Try.func15, Try.ntmps15
  go_wp2_with fail
  go_loopw [3, 12] (fun v i wr => ∃ k : Nat, k ≤ rows.length ∧ i = .int .i64 k ∧ allGood (tbl rows) k = true ∧ OwnInts wr w.heap.size v (sizesT (tbl rows) k) ∧ Below w.heap.size w wr) (fun _ i _ => rows.length - (intOf i).toNat)
  case atStart => exact ⟨0, Nat.zero_le _, rfl, rfl, OwnInts.nil _ _, Below.refl _ _⟩
  case round =>
    obtain ⟨k, hk, rfl, hgood, hown, hbel⟩ := hrel
    have HG := Lib.hid hgood
    have HB := Lib.hid hbel
    obtain ⟨S, cs, hv, hnil, hints, hle, hcap⟩ := hown.form
    rw [sizes_len] at hv hnil hle
    subst hv
    have HO := Lib.hid hown
    have HM : Hid (k < rows.length → MayIn wr A c rows k S cs) := Lib.hid fun hlt => ⟨HX.out.tab.on hbel, hlt, hgood, ⟨hle, hcap, hnil⟩, hints.more (Nat.zero_le _) (Nat.le_refl _), HX.out.few⟩
    clear hgood hown hbel hnil hints hle hcap
    by_cases hlt : k < rows.length
    · have HC := Lib.hid (may_any (HM.out hlt))
      cases hg : goodT (tbl rows) k with
      | false =>
        have HGF := Lib.hid hg
        clear hg
        go_wp2_with fail
        refine HC.out.mono ?_
        rintro e w1 ⟨n, rfl, hn, hb1⟩
        rw [HGF.out]
        have HB1 := Lib.hid (HB.out.trans (hb1.mono HB.out.size))
        clear hb1 hn
        go_wp2_with fail
        go_ret
        exact ⟨ret_num (check_bad H16.out (k := k) (by rw [tbl_len]; exact hlt) HGF.out).symm, HB1.out⟩
      | true =>
        have HGT := Lib.hid hg
        have hle32 := good_le hg
        clear hg
        go_wp2_with fail
        refine HC.out.mono ?_
        rintro e w1 ⟨n, rfl, hn, hb1⟩
        rw [HGT.out]
        have HN := Lib.hid (hn HGT.out)
        have HO1 := Lib.hid (HO.out.keep hb1)
        have HB1 := Lib.hid (HB.out.trans (hb1.mono HB.out.size))
        have HLN : Hid ((sizesT (tbl rows) k).length ≤ 1000) := Lib.hid (by rw [sizes_len]; have := H16.out; rw [tbl_len] at this; omega)
        clear hb1 hn
        go_wp2_with (at_builtin; refine wpList_app1 rfl (.tmp 24) (.tmp 26) rfl w.heap.size _ _ rfl n HO1.out rfl (by have := HLN.out; omega) HB1.out.size ?_; intro v' w3 hown3 hg3; refine pause ?_)
        have hB3 := (HB1.out.alloc HB1.out.size (.cells #[.int .i64 n] 3)).grown hg3 (by rw [World.size_alloc]; have := HB1.out.size; omega) HO1.out.base
        have HO3 := Lib.hid hown3
        have HB3 := Lib.hid hB3
        clear hown3 hg3 hB3
        refine resume ?_
        go_wp2_with fail
        go_roundw
        case rel => exact ⟨k + 1, by omega, by go_num, allGood_succ HG.out HGT.out, by rw [sizes_snoc, ← HN.out]; exact HO3.out, HB3.out⟩
        case measure => simp [intOf]; omega
    · clear HM
      go_wp2_with fail
      go_ret
      exact ⟨ret_num (check_good H16.out (by rw [tbl_len]; exact allGood_mono HG.out (by omega))).symm, HB.out⟩
theorem pcheck_is (h : TabFew w A c rows) {e0 : Int} (he : checkT (tbl rows) = e0) : Calls Try.prog 15 #[.slice A rows.length c] w fun e w' => e = .returned (.int .i64 e0) ∧ Below w.heap.size w w' := he ▸ pcheck_any h

theorem pasked_any (h : TabFew w A c rows) (k : Int) : Calls Try.prog 47 #[.slice A rows.length c, .int .i64 k] w fun e w' => e = .returned (.int .i64 (askedT (tbl rows) k)) ∧ Below w.heap.size w w' := by
  have hl := h.tab.len
  obtain ⟨ch, hch⟩ : ∃ ch, checkT (tbl rows) = ch := ⟨_, rfl⟩
  have HX := Lib.hid h
  have HC := Lib.hid hch
  clear h hch
  by_cases h0 : ch = 0
  · subst h0
    have HO : Hid (∀ w2 : World, IntsAt (w2.alloc (.cells #[.int .i64 k] 3)) 0 (w2.alloc (.cells #[.int .i64 k] 3)).heap.size (some ⟨w2.heap.size, 0, none⟩) [k] ∧ Hdr (some ⟨w2.heap.size, 0, none⟩) 1 1) := Lib.hid fun w2 => (own_hdr (OwnInts.one w2 0 w2.heap.size k (Nat.zero_le _) rfl)).symm
    obtain ⟨lb, hlb⟩ : ∃ lb, lowerB [k] rows.length = lb := ⟨_, rfl⟩
    have HL := Lib.hid hlb
    have HA : Hid (askedT (tbl rows) k = if lb then 0 else 2) := Lib.hid (by
      unfold askedT
      rw [tbl_len, HC.out, ← hlb, lowerB_one]
      simp)
    clear hlb
    go_enter Try.func47, Try.ntmps47
    go_wp2_with fail
    refine (pcheck_is HX.out HC.out).mono ?_
    rintro e w1 ⟨rfl, hb1⟩
    have HB1 := Lib.hid hb1
    clear hb1
    go_wp2_with fail
    refine (there_any (xs := [k]) (HO.out _).2 (HO.out _).1 rows.length).mono ?_
    rw [HL.out]
    rintro e w2 ⟨rfl, hb2⟩
    have HB2 := Lib.hid (HB1.out.trans ((below_new hb2).mono HB1.out.size))
    clear hb2
    cases lb
    all_goals
      go_wp2_with fail
      go_ret
      exact ⟨ret_num (by rw [HA.out]; rfl), HB2.out⟩
  · have HA : Hid (askedT (tbl rows) k = ch) := Lib.hid (by unfold askedT; rw [HC.out, if_pos h0])
    go_enter Try.func47, Try.ntmps47
    go_wp2_with fail
    refine (pcheck_is HX.out HC.out).mono ?_
    rintro e w1 ⟨rfl, hb1⟩
    have HB1 := Lib.hid hb1
    clear hb1
    go_wp2_with fail
    go_ret
    exact ⟨ret_num HA.out.symm, HB1.out⟩
theorem pasked_is (h : TabFew w A c rows) (k : Int) {e0 : Int} (he : askedT (tbl rows) k = e0) : Calls Try.prog 47 #[.slice A rows.length c, .int .i64 k] w fun e w' => e = .returned (.int .i64 e0) ∧ Below w.heap.size w w' := he ▸ pasked_any h k

theorem pscalarF_any (h : TabFew w A c rows) (k : Int) : Calls Try.prog 26 #[.slice A rows.length c, .int .i64 k] w fun e w' => e = .returned (.tuple #[.bool (scalarT (tbl rows) k), .int .i64 (askedT (tbl rows) k)]) ∧ Below w.heap.size w w' := by
  have hl := h.tab.len
  obtain ⟨ch, hch⟩ : ∃ ch, askedT (tbl rows) k = ch := ⟨_, rfl⟩
  have HX := Lib.hid h
  have HC := Lib.hid hch
  have HS : Hid (scalarT (tbl rows) k = if ch = 0 then plainB (tbl rows) k else false) := Lib.hid (by unfold scalarT; rw [hch])
  rw [hch]
  clear h hch
  by_cases h0 : ch = 0
  · subst h0
    obtain ⟨_, k0, k1⟩ := asked_zero HC.out
    rw [tbl_len] at k1
    obtain ⟨i, rfl⟩ := Int.eq_ofNat_of_zero_le k0
    have hi : i < rows.length := by omega
    have HP := Lib.hid (plain_in hi)
    obtain ⟨b, off, rfl, hbl, c0, c1, c2, c3⟩ := (HX.out.tab.rows.elem hi).at_
    generalize rows.getD i default = r at c0 c1 c2 c3 HP
    go_enter Try.func26, Try.ntmps26
    go_wp2_with fail
    refine (pasked_is HX.out _ HC.out).mono ?_
    rintro e w1 ⟨rfl, hb1⟩
    have d0 := (hb1.cell (p := ⟨b, off + i * 4, none⟩) hbl).trans c0
    have d1 := (hb1.cell (p := ⟨b, off + i * 4 + 1, none⟩) hbl).trans c1
    have d2 := (hb1.cell (p := ⟨b, off + i * 4 + 2, none⟩) hbl).trans c2
    have d3 := (hb1.cell (p := ⟨b, off + i * 4 + 3, none⟩) hbl).trans c3
    have HB1 := Lib.hid hb1
    clear hb1
    go_wp2_with fail
    refine (pscalar_any r).mono ?_
    rintro e w2 ⟨rfl, hb2⟩
    have HB2 := Lib.hid (HB1.out.trans (hb2.mono HB1.out.size))
    clear hb2
    go_wp2_with fail
    go_ret2
    exact ⟨by rw [HS.out, if_pos trivial, HP.out]; rfl, HB2.out⟩
  · go_enter Try.func26, Try.ntmps26
    go_wp2_with fail
    refine (pasked_is HX.out k HC.out).mono ?_
    rintro e w1 ⟨rfl, hb1⟩
    have HB1 := Lib.hid hb1
    clear hb1
    go_wp2_with fail
    go_ret2
    exact ⟨by rw [HS.out, if_neg h0]; rfl, HB1.out⟩
end
end Go.Proofs.Ytphoomlamdelkaa
