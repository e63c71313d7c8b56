/-
  The program's Cells, Part, Offset of types.
-/
import Derived.Test.YtphoomlamdelkaaTypParts
import Derived.Test.YtphoomlamdelkaaTypRef5
namespace Go.Proofs.Ytphoomlamdelkaa
set_option linter.unusedVariables false
set_option linter.unusedSimpArgs false
open Go.ChangeShapes Go.WideShapes Go.ChangeAt Go.RowKit

section
variable {w : World} {A : Option Addr} {c : Nat} {rows : List TyR}
theorem pcellsF_any (h : TabFew w A c rows) (k : Int) : Calls Try.prog 20 #[.slice A rows.length c, .int .i64 k] w (SomeInts2 (cellsT (tbl rows) k) (askedT (tbl rows) k) w) := by
  have hl := h.tab.len
  obtain ⟨ch, hch⟩ : ∃ ch, askedT (tbl rows) k = ch := ⟨_, rfl⟩
  have HX := Lib.hid h
  have HC := Lib.hid hch
  have HS : Hid (cellsT (tbl rows) k = if ch = 0 then ofT (tbl rows) k.toNat else []) := Lib.hid (by unfold cellsT; rw [hch])
  rw [hch]
  clear h hch
  by_cases h0 : ch = 0
  · subst h0
    have HG := Lib.hid (asked_good HC.out)
    obtain ⟨_, k0, k1⟩ := asked_zero HC.out
    rw [tbl_len] at k1
    obtain ⟨i, rfl⟩ := Int.eq_ofNat_of_zero_le k0
    go_enter Try.func20, Try.ntmps20
    go_wp2_with fail
    refine (pasked_is HX.out _ HC.out).mono ?_
    rintro e w1 ⟨rfl, hb1⟩
    have HB1 := Lib.hid hb1
    clear hb1
    go_wp2_with fail
    refine (pcells_any (HX.out.on HB1.out).tab HG.out).mono ?_
    rintro e w2 ⟨v1, rfl, hown1, hb2⟩
    have HO := Lib.hid (hown1.more HB1.out.size)
    have HB2 := Lib.hid (HB1.out.trans (hb2.mono HB1.out.size))
    clear hown1 hb2
    go_wp2_with fail
    go_ret2
    exact ⟨_, rfl, by rw [HS.out, if_pos trivial]; exact HO.out, HB2.out⟩
  · go_enter Try.func20, Try.ntmps20
    go_wp2_with fail
    refine (pasked_is HX.out k HC.out).mono ?_
    rintro e w1 ⟨rfl, hb1⟩
    have HB1 := Lib.hid hb1
    clear hb1
    go_wp2_with fail
    go_ret2
    exact ⟨_, rfl, by rw [HS.out, if_neg h0]; exact OwnInts.nil _ _, HB1.out⟩

theorem many_ok {t : List Ty} {k : Nat} (h : Good t k) (h5 : (t.getD k default).kind = 5) : 1 ≤ (t.getD k default).many ∧ (t.getD k default).many ≤ 16 := by
  have := may_array h.may h5
  exact ⟨this.2.2.1, this.2.2.2⟩
set_option maxHeartbeats 800000 in
theorem ppart_any (h : TabFew w A c rows) (k n : Int) : Calls Try.prog 21 #[.slice A rows.length c, .int .i64 k, .int .i64 n] w fun e w' => e = .returned (.tuple #[.int .i64 (partT (tbl rows) k n).1, .int .i64 (partT (tbl rows) k n).2]) ∧ Below w.heap.size w w' := by
  have hl := h.tab.len
  obtain ⟨ch, hch⟩ : ∃ ch, askedT (tbl rows) k = ch := ⟨_, rfl⟩
  have HX := Lib.hid h
  have HC := Lib.hid hch
  clear h hch
  by_cases h0 : ch = 0
  · subst h0
    have HG := Lib.hid (asked_good HC.out)
    obtain ⟨_, k0, k1⟩ := asked_zero HC.out
    rw [tbl_len] at k1
    obtain ⟨i, rfl⟩ := Int.eq_ofNat_of_zero_le k0
    rw [Int.toNat_natCast] at HG
    have hi : i < rows.length := by omega
    have HD : Hid ((tbl rows).getD i default = (rows.getD i default).data) := Lib.hid (tbl_at hi)
    have HM := Lib.hid (many_ok HG.out)
    have HPL := Lib.hid HG.out.parts_le
    have hrow := HX.out.tab.row hi
    have HP : Hid (partT (tbl rows) i n = if lowerB [n] (partsT ((tbl rows).getD i default)).length then ((partsT ((tbl rows).getD i default)).getD n.toNat 0, 0) else (0, 2)) := Lib.hid (by
      unfold partT
      rw [if_neg (by rw [HC.out]; decide), Int.toNat_natCast, lowerB_one]
      simp)
    obtain ⟨b, off, rfl, hbl, c0, c1, c2, c3⟩ := (HX.out.tab.rows.elem hi).at_
    rw [HD.out] at HM HPL HP
    generalize rows.getD i default = r at c0 c1 c2 c3 HD hrow HM HPL HP
    have HR := Lib.hid hrow
    clear hrow HD
    have HO : Hid (∀ w2 : World, IntsAt (w2.alloc (.cells #[.int .i64 n] 3)) 0 (w2.alloc (.cells #[.int .i64 n] 3)).heap.size (some ⟨w2.heap.size, 0, none⟩) [n] ∧ Hdr (some ⟨w2.heap.size, 0, none⟩) 1 1) := Lib.hid fun w2 => (own_hdr (OwnInts.one w2 0 w2.heap.size n (Nat.zero_le _) rfl)).symm
    go_enter Try.func21, Try.ntmps21
    go_wp2_with fail
    refine (pasked_is HX.out _ HC.out).mono ?_
    rintro e w1 ⟨rfl, hb1⟩
    have HB1 := Lib.hid hb1
    have d0 := (hb1.cell (p := ⟨b, off + i * 4, none⟩) hbl).trans c0
    have d1 := (hb1.cell (p := ⟨b, off + i * 4 + 1, none⟩) hbl).trans c1
    have d2 := (hb1.cell (p := ⟨b, off + i * 4 + 2, none⟩) hbl).trans c2
    have d3 := (hb1.cell (p := ⟨b, off + i * 4 + 3, none⟩) hbl).trans c3
    clear hb1
    go_wp2_with fail
    refine (parts_any r ((HR.out.keep HB1.out).more (Nat.le_refl _) HB1.out.size) HM.out).mono ?_
    rintro e w2 ⟨A2, c2', rfl, hh2, hi2, hb2⟩
    have HH2 := Lib.hid hh2
    have HI2 := Lib.hid hi2
    have HB2 := Lib.hid (HB1.out.trans (hb2.mono HB1.out.size))
    have hpl := HPL.out
    clear hh2 hi2 hb2 d0 d1 d2 d3
    generalize partsT r.data = ps at HH2 HI2 HP HPL hpl
    cases hlow : lowerB [n] ps.length with
    | false =>
      have HL := Lib.hid hlow
      clear hlow
      go_wp2_with fail
      refine (there_any (xs := [n]) (HO.out _).2 (HO.out _).1 ps.length).mono ?_
      rw [HL.out]
      rintro e w3 ⟨rfl, hb3⟩
      have HB3 := Lib.hid (HB2.out.trans ((below_new hb3).mono HB2.out.size))
      clear hb3
      go_wp2_with fail
      go_ret2
      exact ⟨by rw [HP.out, HL.out]; rfl, HB3.out⟩
    | true =>
      have HL := Lib.hid hlow
      have hn2 := lowerB_iff.1 hlow n (by simp)
      obtain ⟨n0, n1⟩ := hn2
      obtain ⟨m, rfl⟩ := Int.eq_ofNat_of_zero_le n0
      obtain ⟨bb, oo, x, rfl, hcx, HE⟩ := HI2.out.cell (k := m) (by omega)
      have HCX := Lib.hid hcx
      have hbx := World.block_lt_of_cell? _ _ hcx
      simp only at hbx
      clear hlow hcx
      go_wp2_with fail
      refine (there_any (xs := [(m : Int)]) (HO.out _).2 (HO.out _).1 ps.length).mono ?_
      rw [HL.out]
      rintro e w3 ⟨rfl, hb3⟩
      have hb3' := below_new hb3
      have hcx3 := (hb3'.cell (p := ⟨bb, oo + m, none⟩) hbx).trans HCX.out
      have HB3 := Lib.hid (HB2.out.trans (hb3'.mono HB2.out.size))
      clear hb3 hb3'
      go_wp2_with fail
      go_ret2
      exact ⟨by rw [HP.out, HL.out, ← HE.out]; rfl, HB3.out⟩
  · have HP : Hid (partT (tbl rows) k n = (0, ch)) := Lib.hid (by unfold partT; rw [if_pos (by rw [HC.out]; exact h0), HC.out])
    go_enter Try.func21, Try.ntmps21
    go_wp2_with fail
    refine (pasked_is HX.out k HC.out).mono ?_
    rintro e w1 ⟨rfl, hb1⟩
    have HB1 := Lib.hid hb1
    clear hb1
    go_wp2_with fail
    go_ret2
    exact ⟨by rw [HP.out]; rfl, HB1.out⟩

set_option maxHeartbeats 1600000 in
theorem poffset_any (h : TabFew w A c rows) (k n : Int) : Calls Try.prog 22 #[.slice A rows.length c, .int .i64 k, .int .i64 n] w fun e w' => e = .returned (.tuple #[.int .i64 (offsetT (tbl rows) k n).1, .int .i64 (offsetT (tbl rows) k n).2]) ∧ Below w.heap.size w w' := by
  have hl := h.tab.len
  have HX := Lib.hid h
  have HPC := Lib.hid (ppart_any h k n)
  clear h
  obtain ⟨p1, hp1⟩ : ∃ p1, (partT (tbl rows) k n).1 = p1 := ⟨_, rfl⟩
  obtain ⟨p2, hp2⟩ : ∃ p2, (partT (tbl rows) k n).2 = p2 := ⟨_, rfl⟩
  have HPC2 : Hid (Calls Try.prog 21 #[.slice A rows.length c, .int .i64 k, .int .i64 n] w fun e w' => e = .returned (.tuple #[.int .i64 p1, .int .i64 p2]) ∧ Below w.heap.size w w') := Lib.hid (by rw [← hp1, ← hp2]; exact HPC.out)
  have HO : Hid (offsetT (tbl rows) k n = if p2 ≠ 0 then (0, p2) else (((aheadT (tbl rows) k.toNat n.toNat : Nat) : Int), 0)) := Lib.hid (by unfold offsetT; rw [hp2])
  have H2 := Lib.hid hp2
  clear hp1 hp2 HPC
  by_cases h0 : p2 = 0
  · subst h0
    obtain ⟨ha, n0, n1⟩ := part_zero H2.out
    have HG := Lib.hid (asked_good ha)
    obtain ⟨_, k0, k1⟩ := asked_zero ha
    rw [tbl_len] at k1
    obtain ⟨i, rfl⟩ := Int.eq_ofNat_of_zero_le k0
    obtain ⟨m, rfl⟩ := Int.eq_ofNat_of_zero_le n0
    rw [Int.toNat_natCast] at HG n1
    have hi : i < rows.length := by omega
    have HD : Hid ((tbl rows).getD i default = (rows.getD i default).data) := Lib.hid (tbl_at hi)
    have HM := Lib.hid (many_ok HG.out)
    have HPL := Lib.hid HG.out.parts_le
    have HPB := Lib.hid HG.out.parts
    have HPG := Lib.hid (fun p hp => HG.out.part (p := p) hp)
    have HAL := Lib.hid (fun j hj => ahead_le HG.out j hj)
    have HAS := Lib.hid (fun j hj => ahead_succ (t := tbl rows) (k := i) (n := j) hj)
    have hrow := HX.out.tab.row hi
    obtain ⟨b, off, rfl, hbl, c0, c1, c2, c3⟩ := (HX.out.tab.rows.elem hi).at_
    rw [HD.out] at HM HPL n1 HPB HPG HAL HAS
    generalize rows.getD i default = r at c0 c1 c2 c3 HD hrow HM HPL n1 HPB HPG HAL HAS
    have HR := Lib.hid hrow
    clear hrow HD ha
    go_enter Try.func22, Try.ntmps22
    go_wp2_with fail
    refine HPC2.out.mono ?_
    rintro e w1 ⟨rfl, hb1⟩
    have HB1 := Lib.hid hb1
    have d0 := (hb1.cell (p := ⟨b, off + i * 4, none⟩) hbl).trans c0
    have d1 := (hb1.cell (p := ⟨b, off + i * 4 + 1, none⟩) hbl).trans c1
    have d2 := (hb1.cell (p := ⟨b, off + i * 4 + 2, none⟩) hbl).trans c2
    have d3 := (hb1.cell (p := ⟨b, off + i * 4 + 3, none⟩) hbl).trans c3
    clear hb1
    go_wp2_with fail
    refine (parts_any r ((HR.out.keep HB1.out).more (Nat.le_refl _) HB1.out.size) HM.out).mono ?_
    rintro e w2 ⟨A2, c2', rfl, hh2, hi2, hb2⟩
    have HH2 := Lib.hid hh2
    have HI2 := Lib.hid hi2
    have HB2 := Lib.hid (HB1.out.trans (hb2.mono HB1.out.size))
    have hpl := HPL.out
    have hfit := hh2.fit
    have hcap := hh2.cap
    unfold maxLen at hcap
    clear hh2 hi2 hb2 d0 d1 d2 d3 HR HM
    generalize partsT r.data = ps at HH2 HI2 HPL hpl n1 HPB HPG HAL HAS hfit hcap
    have hmp : m < ps.length := by omega
    obtain ⟨bb, oo, x0, rfl, _, _⟩ := HI2.out.cell (k := m) hmp
    have hn3 : ¬ c2' < m := by omega
    go_wp2_with fail
    go_loopw [6, 30] (fun a i' wr => ∃ j : Nat, j ≤ m ∧ i' = .int .i64 j ∧ a = .int .i64 (aheadT (tbl rows) i j) ∧ Below w2.heap.size w2 wr) (fun _ i' _ => m - (intOf i').toNat)
    case atStart => exact ⟨0, Nat.zero_le _, rfl, by rw [ahead_zero]; rfl, Below.refl _ _⟩
    case round =>
      obtain ⟨j, hj, rfl, rfl, hbel⟩ := hrel
      have hah := HAL.out j (by omega)
      have HS : Hid (j < m → aheadT (tbl rows) i (j + 1) = aheadT (tbl rows) i j + (ofP (tbl rows) (ps.getD j 0)).length) := Lib.hid fun h => HAS.out j (by omega)
      generalize hat : aheadT (tbl rows) i j = at_ at hah HS
      have HE := Lib.hid hat
      clear hat
      have HB3 := Lib.hid (HB2.out.trans (hbel.mono HB2.out.size))
      have HBL := Lib.hid hbel
      by_cases hlt : j < m
      · obtain ⟨b3, o3, x, hA3, hcx, HX3⟩ := HI2.out.cell (k := j) (by omega)
        injection hA3 with hA3
        injection hA3 with hb3' ho3 _
        subst hb3' ho3
        have hcx3 := (hbel.cell (p := ⟨bb, oo + j, none⟩) (World.block_lt_of_cell? _ _ hcx)).trans hcx
        have hxm : x ∈ ps := by have := mem_getD (d := (0 : Int)) (l := ps) (i := j) (by omega); rwa [HX3.out] at this
        obtain ⟨x0', x1'⟩ := HPB.out x hxm
        have hgx := HPG.out x hxm
        obtain ⟨q, rfl⟩ := Int.eq_ofNat_of_zero_le x0'
        rw [Int.toNat_natCast] at hgx
        have hle := hgx.le
        have HGX := Lib.hid hgx
        have HSS : Hid (aheadT (tbl rows) i (j + 1) = at_ + (ofT (tbl rows) q).length) := Lib.hid (by rw [HS.out hlt, HX3.out]; rfl)
        clear hbel hxm hgx hcx
        go_wp2_with fail
        refine (pcells_any (HX.out.on HB3.out).tab HGX.out).mono ?_
        rintro e w4 ⟨v1, rfl, hown1, hb4⟩
        obtain ⟨A4, c4, rfl, _⟩ := hown1.form
        have HB4 := Lib.hid (HBL.out.trans (hb4.mono HBL.out.size))
        clear hown1 hb4
        go_wp2_with fail
        go_roundw
        case rel => exact ⟨j + 1, by omega, by go_num, by rw [HSS.out]; go_num, HB4.out⟩
        case measure => simp [intOf]; omega
      · clear hbel
        go_wp2_with fail
        go_ret2
        exact ⟨by rw [HO.out, if_neg (by simp), Int.toNat_natCast, Int.toNat_natCast, show m = j by omega, HE.out]; rfl, HB3.out⟩
  · go_enter Try.func22, Try.ntmps22
    go_wp2_with fail
    refine HPC2.out.mono ?_
    rintro e w1 ⟨rfl, hb1⟩
    have HB1 := Lib.hid hb1
    clear hb1
    go_wp2_with fail
    go_ret2
    exact ⟨by rw [HO.out, if_pos h0]; rfl, HB1.out⟩
end
end Go.Proofs.Ytphoomlamdelkaa
