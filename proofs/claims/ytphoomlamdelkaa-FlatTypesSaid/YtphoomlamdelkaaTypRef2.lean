/-
  The reference's answer for types: which type may be; how great a table is.
-/
import Derived.Test.YtphoomlamdelkaaTypRef1
import Derived.OwnWalk
namespace Go.Proofs.Ytphoomlamdelkaa
set_option linter.unusedVariables false
set_option linter.unusedSimpArgs false
open Go.ChangeShapes Go.WideShapes Go.ChangeAt Go.RowKit

set_option maxHeartbeats 800000 in
theorem mayType_any {w : World} {lo : Nat} {A : Option Addr} {c : Nat} {rows : List TyR} (hh : Hdr A rows.length c) (hx : TypsAt w lo w.heap.size A rows) {k : Nat} (hk : k < rows.length) :
    Calls Try.prog 42 #[.slice A rows.length c, .int .i64 k] w fun e w' => e = .returned (.bool (mayT (tbl rows) k)) ∧ Below w.heap.size w w' := by
  have hl := Nat.le_trans hh.fit hh.cap
  unfold maxLen at hl
  obtain ⟨b, off, rfl, hbl, c0, c1, c2, c3⟩ := (hx.elem hk).at_
  have HM : Hid (mayT (tbl rows) k = mayX (tbl rows) (rows.getD k default).data k) := Lib.hid (by unfold mayT; rw [tbl_at hk])
  have hrk := hx.ok _ (mem_getD (d := default) hk)
  generalize rows.getD k default = r at c0 c1 c2 c3 HM hrk
  obtain ⟨κ, el, ma, pa, pc, parts⟩ := r
  simp only at c0 c1 c2 c3
  have hlp := Nat.le_trans hrk.hdr.fit hrk.hdr.cap
  unfold maxLen at hlp
  simp only at hlp
  have hb0 : ∀ o : Obj, Below w.heap.size w (w.alloc o) := fun o => (Below.refl _ _).alloc (Nat.le_refl _) _
  have HX : Hid (∀ o, TypsAt (w.alloc o) lo (w.alloc o).heap.size (some ⟨b, off, none⟩) rows) := Lib.hid fun o => hx.on (hb0 o)
  have HR : Hid (∀ o, TyR.Ok (w.alloc o) lo (w.alloc o).heap.size ⟨κ, el, ma, pa, pc, parts⟩) := Lib.hid fun o => (hrk.keep (hb0 o)).more (Nat.le_refl _) (hb0 o).size
  have HH := Lib.hid hh
  clear hx hrk hh hb0
  by_cases e1 : κ = 1
  · subst e1
    go_enter Try.func42, Try.ntmps42
    go_wp2_with fail
    all_goals go_ret
    all_goals refine ⟨ret_bool ?_, (Below.refl _ _).alloc (Nat.le_refl _) _⟩
    all_goals rw [HM.out]
    all_goals show _ = (decide (el = 0) && (decide (ma = 0) && decide (parts.length = 0)))
    all_goals (first | rfl | (rw [Bool.eq_iff_iff]; simp only [Bool.and_eq_true, Bool.or_eq_true, decide_eq_true_eq, beq_iff_eq, bne_iff_ne, Bool.not_eq_true', beq_eq_false_iff_ne, decide_eq_false_iff_not, Bool.false_eq_true, false_iff, true_iff, iff_false, iff_true, true_and, and_true, false_and, and_false, true_or, or_true, false_or, or_false, ne_eq]; first | done | omega | (intros; omega)) | (rw [Bool.eq_iff_iff]; simp [*]; done) | (rw [Bool.eq_iff_iff]; simp [*]; omega))
  by_cases e2 : κ = 2
  · subst e2
    go_enter Try.func42, Try.ntmps42
    go_wp2_with fail
    all_goals go_ret
    all_goals refine ⟨ret_bool ?_, (Below.refl _ _).alloc (Nat.le_refl _) _⟩
    all_goals rw [HM.out]
    all_goals show _ = (decide (0 ≤ el) && (decide (el < (tbl rows).length) && (decide (ma = 0) && decide (parts.length = 0))))
    all_goals rw [tbl_len]
    all_goals (first | rfl | (rw [Bool.eq_iff_iff]; simp only [Bool.and_eq_true, Bool.or_eq_true, decide_eq_true_eq, beq_iff_eq, bne_iff_ne, Bool.not_eq_true', beq_eq_false_iff_ne, decide_eq_false_iff_not, Bool.false_eq_true, false_iff, true_iff, iff_false, iff_true, true_and, and_true, false_and, and_false, true_or, or_true, false_or, or_false, ne_eq]; first | done | omega | (intros; omega)) | (rw [Bool.eq_iff_iff]; simp [*]; done) | (rw [Bool.eq_iff_iff]; simp [*]; omega))
  by_cases e3 : κ = 3
  · subst e3
    go_enter Try.func42, Try.ntmps42
    go_wp2_with fail
    refine (mayFn_any HH.out (HX.out _) ⟨3, el, ma, pa, pc, parts⟩ (HR.out _)).mono ?_
    rintro e w1 ⟨rfl, hb1⟩
    go_wp2_with fail
    all_goals go_ret
    all_goals refine ⟨ret_bool ?_, below_new hb1⟩
    all_goals rw [HM.out]
    all_goals rfl
  by_cases e4 : κ = 4
  · subst e4
    cases hv : lowerB parts (k : Int)
    all_goals
      have HV := Lib.hid hv
      clear hv
      have hlow := fun o => lower_is (HR.out o).hdr (HR.out o).ints k HV.out
      simp only at hlow
      go_enter Try.func42, Try.ntmps42
      go_wp2_with (go_at_call 67; refine (hlow _).mono ?_; rintro e w' ⟨rfl, rfl⟩)
      all_goals clear hlow
      all_goals go_ret
      all_goals refine ⟨ret_bool ?_, (Below.refl _ _).alloc (Nat.le_refl _) _⟩
      all_goals rw [HM.out]
      all_goals show _ = (decide (el = 0) && (decide (ma = 0) && (decide (1 ≤ parts.length) && (decide (parts.length ≤ 8) && lowerB parts k))))
      all_goals rw [HV.out]
      all_goals (first | rfl | (rw [Bool.eq_iff_iff]; simp only [Bool.and_eq_true, Bool.or_eq_true, decide_eq_true_eq, beq_iff_eq, bne_iff_ne, Bool.not_eq_true', beq_eq_false_iff_ne, decide_eq_false_iff_not, Bool.false_eq_true, false_iff, true_iff, iff_false, iff_true, true_and, and_true, false_and, and_false, true_or, or_true, false_or, or_false, ne_eq]; first | done | omega | (intros; omega)) | (rw [Bool.eq_iff_iff]; simp [*]; done) | (rw [Bool.eq_iff_iff]; simp [*]; omega))
  by_cases e5 : κ = 5
  · subst e5
    go_enter Try.func42, Try.ntmps42
    go_wp2_with fail
    all_goals go_ret
    all_goals refine ⟨ret_bool ?_, (Below.refl _ _).alloc (Nat.le_refl _) _⟩
    all_goals rw [HM.out]
    all_goals show _ = (decide (0 ≤ el) && (decide (el < k) && (decide (1 ≤ ma) && (decide (ma ≤ 16) && decide (parts.length = 0)))))
    all_goals (first | rfl | (rw [Bool.eq_iff_iff]; simp only [Bool.and_eq_true, Bool.or_eq_true, decide_eq_true_eq, beq_iff_eq, bne_iff_ne, Bool.not_eq_true', beq_eq_false_iff_ne, decide_eq_false_iff_not, Bool.false_eq_true, false_iff, true_iff, iff_false, iff_true, true_and, and_true, false_and, and_false, true_or, or_true, false_or, or_false, ne_eq]; first | done | omega | (intros; omega)) | (rw [Bool.eq_iff_iff]; simp [*]; done) | (rw [Bool.eq_iff_iff]; simp [*]; omega))
  have HO := Lib.hid (mayX_other (tbl rows) ⟨κ, el, ma, parts⟩ k e1 e2 e3 e4 e5)
  go_enter Try.func42, Try.ntmps42
  go_wp2_with fail
  all_goals go_ret
  all_goals refine ⟨ret_bool ?_, (Below.refl _ _).alloc (Nat.le_refl _) _⟩
  all_goals rw [HM.out]
  all_goals exact (HO.out).symm

def greatP (r : TyR) : Bool := decide (20 < r.parts.length)
/-- How the reference tells that a table is great: of the first 30 some has too many parts; or there are too many. -/
def greatT (rows : List TyR) : Bool := !((rows.take 30).all fun r => decide (r.parts.length ≤ 20)) || decide (20 < rows.length)
theorem great_any {w : World} {lo B : Nat} {A : Option Addr} {c : Nat} {rows : List TyR} (hh : Hdr A rows.length c) (hx : TypsAt w lo B A rows) :
    Calls Try.prog 12 #[.slice A rows.length c] w fun e w' => e = .returned (.bool (greatT rows)) ∧ w = w' := by
  have hl := Nat.le_trans hh.fit hh.cap
  unfold maxLen at hl
  have HX := Lib.hid hx
  clear hx hh
  go_enter Try.func12, Try.ntmps12
  go_wp2_with fail
  go_loop [3] (fun i => ∃ k : Nat, k ≤ rows.length ∧ k ≤ 30 ∧ i = .int .i64 k ∧ AllTo (fun r => decide (r.parts.length ≤ 20)) (rows.take 30) k) (fun i => 30 - (intOf i).toNat)
  case atStart => exact ⟨0, Nat.zero_le _, by omega, rfl, AllTo.zero _ _⟩
  case round =>
    obtain ⟨k, hk, hk30, rfl, hall⟩ := hrel
    have HA := Lib.hid hall
    clear hall
    by_cases hlt : k < rows.length ∧ k < 30
    · obtain ⟨hlt, h30⟩ := hlt
      obtain ⟨b, off, rfl, _, _, _, _, c3⟩ := (HX.out.elem hlt).at_
      have HG : Hid ((rows.take 30).getD k default = rows.getD k default) := Lib.hid (by rw [List.getD_eq_getElem?_getD, List.getElem?_take, if_pos h30, ← List.getD_eq_getElem?_getD])
      have HL : Hid (k < (rows.take 30).length) := Lib.hid (by rw [List.length_take]; omega)
      have hok := (HX.out.ok _ (mem_getD (d := default) hlt)).hdr
      have hlp := Nat.le_trans hok.fit hok.cap
      unfold maxLen at hlp
      clear hok
      generalize rows.getD k default = r at c3 HG hlp
      by_cases hp : r.parts.length ≤ 20
      · go_wp2_with fail
        go_round
        case rel => exact ⟨k + 1, by omega, by omega, by go_num, HA.out.step (d := default) HL.out (by rw [HG.out]; simpa using hp)⟩
        case measure => simp [intOf]; omega
      · go_wp2_with fail
        go_ret
        refine ⟨ret_bool ?_, rfl⟩
        unfold greatT
        rw [all_stop (d := default) HL.out (by rw [HG.out]; simpa using hp)]
        rfl
    · by_cases h1 : k < rows.length
      · have h30 : ¬ k < 30 := fun h => hlt ⟨h1, h⟩
        clear hlt
        go_wp2_with fail
        all_goals go_ret
        all_goals refine ⟨ret_bool ?_, rfl⟩
        all_goals unfold greatT
        all_goals rw [HA.out.done (by rw [List.length_take]; omega)]
        all_goals (first | rfl | (rw [Bool.eq_iff_iff]; simp only [Bool.and_eq_true, Bool.or_eq_true, decide_eq_true_eq, beq_iff_eq, bne_iff_ne, Bool.not_eq_true', beq_eq_false_iff_ne, decide_eq_false_iff_not, Bool.false_eq_true, false_iff, true_iff, iff_false, iff_true, true_and, and_true, false_and, and_false, true_or, or_true, false_or, or_false, ne_eq]; first | done | omega | (intros; omega)) | (rw [Bool.eq_iff_iff]; simp [*]; done) | (rw [Bool.eq_iff_iff]; simp [*]; omega))
      · clear hlt
        go_wp2_with fail
        all_goals go_ret
        all_goals refine ⟨ret_bool ?_, rfl⟩
        all_goals unfold greatT
        all_goals rw [HA.out.done (by rw [List.length_take]; omega)]
        all_goals (first | rfl | (rw [Bool.eq_iff_iff]; simp only [Bool.and_eq_true, Bool.or_eq_true, decide_eq_true_eq, beq_iff_eq, bne_iff_ne, Bool.not_eq_true', beq_eq_false_iff_ne, decide_eq_false_iff_not, Bool.false_eq_true, false_iff, true_iff, iff_false, iff_true, true_and, and_true, false_and, and_false, true_or, or_true, false_or, or_false, ne_eq]; first | done | omega | (intros; omega)) | (rw [Bool.eq_iff_iff]; simp [*]; done) | (rw [Bool.eq_iff_iff]; simp [*]; omega))
end Go.Proofs.Ytphoomlamdelkaa
