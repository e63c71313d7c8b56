/-
  The program's answers for memories: whether a value is one of it, how deep it points.
-/
import Derived.Test.YthddacnnhmcoaaaMmRef2
import Derived.Test.YthddacnnhmcoaaaOff
namespace Go.Proofs.Ythddacnnhmcoaaa
set_option linter.unusedVariables false
set_option linter.unusedSimpArgs false
open Go.ChangeShapes Go.WideShapes Go.ChangeAt Go.RowKit

section
variable {w : World} {A : Option Addr} {c : Nat} {rows : List BkR}
set_option maxHeartbeats 1600000 in
theorem pis_any (h : MemIn w A c rows) (v : Vl) : Calls Try.prog 44 #[.slice A rows.length c, valV v.k v.n v.b v.t] w fun e w' => e = .returned (.bool (isV (mmb rows) v)) ∧ Below w.heap.size w w' := by
  have hl := h.len
  have HX := Lib.hid h
  clear h
  obtain ⟨mb, hmb⟩ : ∃ mb, mayB v.k v.n v.b v.t = mb := ⟨_, rfl⟩
  have HM := Lib.hid hmb
  obtain ⟨W0, hW0⟩ : ∃ W0, w.alloc (.cells #[.int .u8 v.k, .int .i64 v.n, .int .i64 v.b, .int .i64 v.t] 29) = W0 := ⟨_, rfl⟩
  have HB0 : Hid (Below w.heap.size w W0) := Lib.hid (by rw [← hW0]; exact (Below.refl _ _).alloc (Nat.le_refl _) _)
  have hk := Blk.new w 29 #[.int .u8 v.k, .int .i64 v.n, .int .i64 v.b, .int .i64 v.t]
  rw [hW0] at hk
  have k0 := hk.cells 0
  have k1 := hk.cells 1
  have k2 := hk.cells 2
  have k3 := hk.cells 3
  have HC := Lib.hid (fun w => check_any v.k v.n v.b v.t w)
  have HW0 := Lib.hid hW0
  clear hW0 hk
  cases mb with
  | false =>
    have HI : Hid (isV (mmb rows) v = false) := Lib.hid (by unfold isV; rw [hmb]; rfl)
    have hch : chkV v.k v.n v.b v.t = 8 := (chk_f (fun hp => by rw [← may_t hp] at hmb; cases hmb)).symm
    rw [hch] at HC
    clear hmb hch
    go_enter Try.func44, Try.ntmps44
    go_wp2_with fail
    rw [HW0.out]
    refine wp_region_off (by kernel_rfl) (by kernel_rfl) ?_
    rintro W rfl
    have ok0 := fun m => Off.at k0 m
    have ok1 := fun m => Off.at k1 m
    have ok2 := fun m => Off.at k2 m
    have ok3 := fun m => Off.at k3 m
    repeat (go_big_quiet_step ((go_at_call 61; exact Calls.off (HC.out _))))
    refine wpQuiet_nil ?_
    intro w2 hw
    obtain ⟨⟨w2, hb⟩, rfl⟩ := hw
    go_wp2_with fail
    go_ret
    exact ⟨ret_bool HI.out.symm, HB0.out.trans (hb.mono HB0.out.size)⟩
  | true =>
    have HMP : Hid (MayP v.k v.n v.b v.t) := Lib.hid (by unfold mayB at hmb; exact of_decide_eq_true hmb)
    have hch : chkV v.k v.n v.b v.t = 0 := (chk_t HMP.out).symm
    rw [hch] at HC
    clear hmb hch
    by_cases hk : v.k = 2
    · by_cases hb : v.b = 0
      · have HI : Hid (isV (mmb rows) v = true) := Lib.hid (by unfold isV; rw [HM.out]; simp [hb])
        have hkk : (v.k != 2) = false := by simpa using hk
        have hbb : (v.b == 0) = true := by simpa using hb
        clear hk hb
        go_enter Try.func44, Try.ntmps44
        go_wp2_with fail
        rw [HW0.out]
        refine wp_region_off (by kernel_rfl) (by kernel_rfl) ?_
        rintro W rfl
        have ok0 := fun m => Off.at k0 m
        have ok1 := fun m => Off.at k1 m
        have ok2 := fun m => Off.at k2 m
        have ok3 := fun m => Off.at k3 m
        repeat (go_big_quiet_step ((go_at_call 61; exact Calls.off (HC.out _))))
        refine wpQuiet_nil ?_
        intro w2 hw
        obtain ⟨⟨w2, hb⟩, rfl⟩ := hw
        go_wp2_with fail
        go_ret
        exact ⟨ret_bool HI.out.symm, HB0.out.trans (hb.mono HB0.out.size)⟩
      · have hb1 : 1 ≤ v.b := by have := HMP.out; unfold MayP at this; omega
        have ht0 : 0 ≤ v.t := by have := HMP.out; unfold MayP at this; omega
        by_cases hbl : v.b ≤ rows.length
        · obtain ⟨i, hi⟩ : ∃ i : Nat, v.b - 1 = i := ⟨(v.b - 1).toNat, by omega⟩
          have hil : i < rows.length := by omega
          have HI : Hid (isV (mmb rows) v = decide (v.t < (rows.getD i default).cells.length)) := Lib.hid (by
            unfold isV
            rw [HM.out, blk_row hi hil, mmb_len, decide_eq_false (by simpa using hk), decide_eq_false hb, decide_eq_true hbl]
            rfl)
          obtain ⟨bb, off, hA, hbk, _, _, _, _, c4⟩ := (HX.out.rows.elem hil).at_
          subst hA
          generalize rows.getD i default = r at HI c4
          have hwr : IntKind.i64.wrap (v.b - 1) = (i : Int) := by rw [IntWalk.i64_in _ (by omega)]; exact hi
          have hwr2 : IntKind.i64.wrap (i : Int) = (i : Int) := IntWalk.i64_in _ (by omega)
          have hd : decide (v.b ≤ (rows.length : Int)) = true := by simpa using hbl
          have hi0 : (0 : Int) ≤ (i : Int) := Int.natCast_nonneg _
          have hi1 : (i : Int) < (rows.length : Int) := by omega
          have hkk : (v.k != 2) = false := by simpa using hk
          have hbb : (v.b == 0) = false := by simpa using hb
          have d4 := (HB0.out.cell (p := ⟨bb, off + i * 5 + 4, none⟩) hbk).trans c4
          clear hk hb
          go_enter Try.func44, Try.ntmps44
          go_wp2_with fail
          rw [HW0.out]
          refine wp_region_off (by kernel_rfl) (by kernel_rfl) ?_
          rintro W rfl
          have ok0 := fun m => Off.at k0 m
          have ok1 := fun m => Off.at k1 m
          have ok2 := fun m => Off.at k2 m
          have ok3 := fun m => Off.at k3 m
          have od4 := fun m => Off.at d4 m
          repeat (go_big_quiet_step ((go_at_call 61; exact Calls.off (HC.out _))))
          refine wpQuiet_nil ?_
          intro w2 hw
          obtain ⟨⟨w2, hb⟩, rfl⟩ := hw
          go_wp2_with fail
          go_ret
          exact ⟨ret_bool (by rw [HI.out]), HB0.out.trans (hb.mono HB0.out.size)⟩
        · have HI : Hid (isV (mmb rows) v = false) := Lib.hid (by
            unfold isV
            rw [HM.out, mmb_len, decide_eq_false (by simpa using hk), decide_eq_false hb, decide_eq_false hbl]
            rfl)
          have hd : decide (v.b ≤ (rows.length : Int)) = false := by simpa using hbl
          have hkk : (v.k != 2) = false := by simpa using hk
          have hbb : (v.b == 0) = false := by simpa using hb
          clear hk hb hbl
          go_enter Try.func44, Try.ntmps44
          go_wp2_with fail
          rw [HW0.out]
          refine wp_region_off (by kernel_rfl) (by kernel_rfl) ?_
          rintro W rfl
          have ok0 := fun m => Off.at k0 m
          have ok1 := fun m => Off.at k1 m
          have ok2 := fun m => Off.at k2 m
          have ok3 := fun m => Off.at k3 m
          repeat (go_big_quiet_step ((go_at_call 61; exact Calls.off (HC.out _))))
          refine wpQuiet_nil ?_
          intro w2 hw
          obtain ⟨⟨w2, hb⟩, rfl⟩ := hw
          go_wp2_with fail
          go_ret
          exact ⟨ret_bool (by rw [HI.out]), HB0.out.trans (hb.mono HB0.out.size)⟩
    · have HI : Hid (isV (mmb rows) v = true) := Lib.hid (by unfold isV; rw [HM.out]; simp [hk])
      have hkk : (v.k != 2) = true := by simpa using hk
      clear hk
      go_enter Try.func44, Try.ntmps44
      go_wp2_with fail
      rw [HW0.out]
      refine wp_region_off (by kernel_rfl) (by kernel_rfl) ?_
      rintro W rfl
      have ok0 := fun m => Off.at k0 m
      have ok1 := fun m => Off.at k1 m
      have ok2 := fun m => Off.at k2 m
      have ok3 := fun m => Off.at k3 m
      repeat (go_big_quiet_step ((go_at_call 61; exact Calls.off (HC.out _))))
      refine wpQuiet_nil ?_
      intro w2 hw
      obtain ⟨⟨w2, hb⟩, rfl⟩ := hw
      go_wp2_with fail
      go_ret
      exact ⟨ret_bool HI.out.symm, HB0.out.trans (hb.mono HB0.out.size)⟩
theorem pis_is (h : MemIn w A c rows) (v : Vl) {b : Bool} (hb : isV (mmb rows) v = b) : Calls Try.prog 44 #[.slice A rows.length c, valV v.k v.n v.b v.t] w fun e w' => e = .returned (.bool b) ∧ Below w.heap.size w w' := hb ▸ pis_any h v

/-- Of a value of a memory. -/
theorem pdeep_any (h : MemIn w A c rows) (v : Vl) (hv : isV (mmb rows) v = true) : Calls Try.prog 45 #[.slice A rows.length c, valV v.k v.n v.b v.t] w fun e w' => e = .returned (.int .i64 (deepM (mmb rows) v)) ∧ Below w.heap.size w w' := by
  have hl := h.len
  by_cases hk : v.k = 2
  · have hkk : (v.k != 2) = false := by simpa using hk
    by_cases hb : v.b = 0
    · have HD : Hid (deepM (mmb rows) v = 0) := Lib.hid (by unfold deepM; rw [if_neg (fun h => by omega)])
      have hbb : (v.b == 0) = true := by simpa using hb
      clear h hk hv hb
      go_enter Try.func45, Try.ntmps45
      go_wp2_with fail
      go_ret
      exact ⟨ret_i64 HD.out.symm, (Below.refl _ _).alloc (Nat.le_refl _) _⟩
    · have hbl := isV_ptr hk hv hb
      have hbb : (v.b == 0) = false := by simpa using hb
      rw [mmb_len] at hbl
      obtain ⟨_, hb1, hb2, _, _⟩ := hbl
      obtain ⟨i, hi⟩ : ∃ i : Nat, v.b - 1 = i := ⟨(v.b - 1).toNat, by omega⟩
      have hil : i < rows.length := by omega
      have HD : Hid (deepM (mmb rows) v = (rows.getD i default).depth) := Lib.hid (by unfold deepM; rw [if_pos ⟨hk, by omega⟩, blk_row hi hil]; rfl)
      obtain ⟨bb, off, hA, hbk, _, _, c2, _, _⟩ := (h.rows.elem hil).at_
      subst hA
      generalize rows.getD i default = r at HD c2
      have hwr : IntKind.i64.wrap (v.b - 1) = (i : Int) := by rw [IntWalk.i64_in _ (by omega)]; exact hi
      clear h hk hv hb
      go_enter Try.func45, Try.ntmps45
      go_wp2_with fail
      go_ret
      exact ⟨ret_i64 HD.out.symm, (Below.refl _ _).alloc (Nat.le_refl _) _⟩
  · have hkk : (v.k != 2) = true := by simpa using hk
    have HD : Hid (deepM (mmb rows) v = 0) := Lib.hid (by unfold deepM; rw [if_neg (fun h => hk h.1)])
    clear h hk hv
    go_enter Try.func45, Try.ntmps45
    go_wp2_with fail
    go_ret
    exact ⟨ret_i64 HD.out.symm, (Below.refl _ _).alloc (Nat.le_refl _) _⟩
end
end Go.Proofs.Ythddacnnhmcoaaa
