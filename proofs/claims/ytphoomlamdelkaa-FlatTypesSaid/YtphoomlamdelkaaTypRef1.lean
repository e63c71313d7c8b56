/-
  The reference's answer for types: small functions.
-/
import Derived.Test.YtphoomlamdelkaaTyp
import Derived.Test.YtphoomlamdelkaaLoops
import Derived.Outline
import Derived.WalkKit
import Derived.ProofKit
import Derived.OpenShut
import Derived.LoopTactic
namespace Go.Proofs.Ytphoomlamdelkaa
set_option linter.unusedVariables false
set_option linter.unusedSimpArgs false
open Go.ChangeShapes Go.WideShapes Go.ChangeAt Go.RowKit

def lowP (m : Int) (n : Int) : Bool := decide (0 ≤ n) && decide (n < m)
theorem lower_any {w : World} {lo B : Nat} {A : Option Addr} {c : Nat} {xs : List Int} (hh : Hdr A xs.length c) (hx : IntsAt w lo B A xs) (m : Int) :
    Calls Try.prog 67 #[.slice A xs.length c, .int .i64 m] w fun e w' => e = .returned (.bool (lowerB xs m)) ∧ w = w' := by
  have hl := Nat.le_trans hh.fit hh.cap
  unfold maxLen at hl
  have HX := Lib.hid hx
  clear hx hh
  go_enter Try.func67, Try.ntmps67
  go_wp2_with fail
  go_loop [5] (fun i => ∃ k : Nat, k ≤ xs.length ∧ i = .int .i64 k ∧ AllTo (lowP m) xs k) (fun i => xs.length - (intOf i).toNat)
  case atStart => exact ⟨0, Nat.zero_le _, rfl, AllTo.zero _ _⟩
  case round =>
    obtain ⟨k, hk, rfl, hall⟩ := hrel
    have HA := Lib.hid hall
    clear hall
    by_cases hlt : k < xs.length
    · obtain ⟨b, off, x, rfl, hcell, HE⟩ := HX.out.cell hlt
      by_cases h0 : x < 0
      · go_wp2_with fail
        go_ret
        exact ⟨ret_bool (all_stop (d := 0) hlt (by rw [HE.out]; simp [lowP]; omega)).symm, rfl⟩
      · by_cases h1 : x < m
        · go_wp2_with fail
          go_round
          case rel => exact ⟨k + 1, by omega, by go_num, HA.out.step (d := 0) hlt (by rw [HE.out]; simp [lowP]; omega)⟩
          case measure => simp [intOf]; omega
        · go_wp2_with fail
          go_ret
          exact ⟨ret_bool (all_stop (d := 0) hlt (by rw [HE.out]; simp [lowP]; omega)).symm, rfl⟩
    · go_wp2_with fail
      go_ret
      exact ⟨ret_bool (HA.out.done (by omega)).symm, rfl⟩

theorem nat_beq (a b : Nat) : ((a : Int) == (b : Int)) = (a == b) := by rw [Bool.eq_iff_iff, beq_iff_eq, beq_iff_eq]; omega
theorem plain_in {rows : List TyR} {i : Nat} (h : i < rows.length) : plainB (tbl rows) (i : Int) = scalK (rows.getD i default).kind := by
  unfold plainB
  rw [tbl_len, Int.toNat_natCast, tbl_at h, decide_eq_true (by omega : (0 : Int) ≤ (i : Int)), decide_eq_true (by omega : (i : Int) < (rows.length : Int))]
  rfl
theorem plain_out {rows : List TyR} {k : Int} (h : k < 0 ∨ (rows.length : Int) ≤ k) : plainB (tbl rows) k = false := by
  unfold plainB
  rw [tbl_len]
  rcases h with h | h
  · rw [decide_eq_false (by omega : ¬ (0 : Int) ≤ k)]; rfl
  · rw [decide_eq_false (by omega : ¬ k < (rows.length : Int))]; simp
set_option maxHeartbeats 400000 in
theorem rplain_any {w : World} {lo B : Nat} {A : Option Addr} {c : Nat} {rows : List TyR} (hh : Hdr A rows.length c) (hx : TypsAt w lo B A rows) (k : Int) :
    Calls Try.prog 53 #[.slice A rows.length c, .int .i64 k] w fun e w' => e = .returned (.bool (plainB (tbl rows) k)) ∧ w = w' := by
  have hl := Nat.le_trans hh.fit hh.cap
  unfold maxLen at hl
  have HX := Lib.hid hx
  clear hx hh
  by_cases h0 : k < 0
  · rw [plain_out (.inl h0)]
    go_enter Try.func53, Try.ntmps53
    go_wp2_with fail
    go_ret
    exact ⟨rfl, rfl⟩
  by_cases h1 : (rows.length : Int) ≤ k
  · rw [plain_out (.inr h1)]
    go_enter Try.func53, Try.ntmps53
    go_wp2_with fail
    go_ret
    exact ⟨rfl, rfl⟩
  obtain ⟨i, rfl⟩ := Int.eq_ofNat_of_zero_le (show 0 ≤ k by omega)
  have hi : i < rows.length := by omega
  rw [plain_in hi]
  obtain ⟨b, off, rfl, _, hc, _, _, _⟩ := (HX.out.elem hi).at_
  generalize (rows.getD i default).kind = κ at hc ⊢
  go_enter Try.func53, Try.ntmps53
  go_wp2_with fail
  all_goals go_ret
  all_goals exact ⟨ret_bool (by unfold scalK; (first | rfl | (rw [Bool.eq_iff_iff]; simp only [Bool.and_eq_true, Bool.or_eq_true, decide_eq_true_eq, beq_iff_eq, bne_iff_ne, Bool.not_eq_true', beq_eq_false_iff_ne, decide_eq_false_iff_not, Bool.false_eq_true, false_iff, true_iff, iff_false, iff_true, true_and, and_true, false_and, and_false, true_or, or_true, false_or, or_false, ne_eq]; first | done | omega | (intros; omega)) | (rw [Bool.eq_iff_iff]; simp [*]; done) | (rw [Bool.eq_iff_iff]; simp [*]; omega))), rfl⟩
theorem rplain_is {w : World} {lo B : Nat} {A : Option Addr} {c : Nat} {rows : List TyR} (hh : Hdr A rows.length c) (hx : TypsAt w lo B A rows) (k : Int) {b : Bool} (hb : plainB (tbl rows) k = b) :
    Calls Try.prog 53 #[.slice A rows.length c, .int .i64 k] w fun e w' => e = .returned (.bool b) ∧ w = w' := hb ▸ rplain_any hh hx k
theorem lower_is {w : World} {lo B : Nat} {A : Option Addr} {c : Nat} {xs : List Int} (hh : Hdr A xs.length c) (hx : IntsAt w lo B A xs) (m : Int) {b : Bool} (hb : lowerB xs m = b) :
    Calls Try.prog 67 #[.slice A xs.length c, .int .i64 m] w fun e w' => e = .returned (.bool b) ∧ w = w' := hb ▸ lower_any hh hx m

set_option maxHeartbeats 400000 in
theorem mayFn_any {w : World} {lo : Nat} {A : Option Addr} {c : Nat} {rows : List TyR} (hh : Hdr A rows.length c) (hx : TypsAt w lo w.heap.size A rows) (r : TyR) (hr : r.Ok w lo w.heap.size) :
    Calls Try.prog 66 #[.slice A rows.length c, r.val] w fun e w' => e = .returned (.bool (mayFnB (tbl rows) r.data)) ∧ Below w.heap.size w w' := by
  obtain ⟨κ, el, ma, pa, pc, parts⟩ := r
  have hl := Nat.le_trans hr.hdr.fit hr.hdr.cap
  unfold maxLen at hl
  have hb0 : Below w.heap.size w (w.alloc (.cells #[.int .u8 κ, .int .i64 el, .int .i64 ma, .slice pa parts.length pc] 31)) := (Below.refl _ _).alloc (Nat.le_refl _) _
  have HX := Lib.hid (hx.on hb0)
  have HR := Lib.hid (hr.keep hb0)
  have HH := Lib.hid hh
  clear hx hr hh hb0
  unfold TyR.val
  go_enter Try.func66, Try.ntmps66
  go_wp2_with fail
  go_loop [5] (fun i => ∃ k : Nat, k ≤ parts.length ∧ i = .int .i64 k ∧ AllTo (plainB (tbl rows)) parts k) (fun i => parts.length - (intOf i).toNat)
  case atStart => exact ⟨0, Nat.zero_le _, rfl, AllTo.zero _ _⟩
  case round =>
    obtain ⟨k, hk, rfl, hall⟩ := hrel
    have HA := Lib.hid hall
    clear hall
    by_cases hlt : k < parts.length
    · obtain ⟨b, off, x, hA, hcell, HE⟩ := HR.out.ints.cell hlt
      simp only at hA
      subst hA
      cases hv : plainB (tbl rows) x with
      | true =>
        have HV := Lib.hid hv
        clear hv
        go_wp2_with (go_at_call 53; refine (rplain_is HH.out HX.out x HV.out).mono ?_; rintro e w' ⟨rfl, rfl⟩)
        go_round
        case rel => exact ⟨k + 1, by omega, by go_num, HA.out.step (d := 0) hlt (by rw [HE.out]; exact HV.out)⟩
        case measure => simp [intOf]; omega
      | false =>
        have HV := Lib.hid hv
        clear hv
        go_wp2_with (go_at_call 53; refine (rplain_is HH.out HX.out x HV.out).mono ?_; rintro e w' ⟨rfl, rfl⟩)
        go_ret
        refine ⟨ret_bool ?_, (Below.refl _ _).alloc (Nat.le_refl _) _⟩
        show false = (parts.all _ && _)
        rw [all_stop (d := 0) hlt (by rw [HE.out]; exact HV.out)]; rfl
    · have HD : Hid (parts.all (plainB (tbl rows)) = true) := Lib.hid (HA.out.done (by omega))
      go_wp2_with (go_at_call 53; refine (rplain_any HH.out HX.out el).mono ?_; rintro e w1 ⟨rfl, rfl⟩)
      all_goals go_ret
      all_goals refine ⟨ret_bool ?_, (Below.refl _ _).alloc (Nat.le_refl _) _⟩
      all_goals show _ = (parts.all _ && (plainB _ el && (decide (parts.length ≤ 4) && decide (ma = 0))))
      all_goals rw [HD.out]
      all_goals (first | rfl | (rw [Bool.eq_iff_iff]; simp only [Bool.and_eq_true, Bool.or_eq_true, decide_eq_true_eq, beq_iff_eq, bne_iff_ne, Bool.not_eq_true', beq_eq_false_iff_ne, decide_eq_false_iff_not, Bool.false_eq_true, false_iff, true_iff, iff_false, iff_true, true_and, and_true, false_and, and_false, true_or, or_true, false_or, or_false, ne_eq]; first | done | omega | (intros; omega)) | (rw [Bool.eq_iff_iff]; simp [*]; done) | (rw [Bool.eq_iff_iff]; simp [*]; omega))
end Go.Proofs.Ytphoomlamdelkaa
