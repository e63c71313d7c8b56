/-
  The walk of calc.Fits.
-/
import Derived.Test.YtliihlidobajdaaCalc
import Derived.Test.YtliihlidobajdaaMem
import Derived.Lib.Hide
namespace Go.Proofs.Ytliihlidobajdaa
set_option linter.unusedVariables false
open Go.ChangeShapes Go.WideShapes Go.ChangeAt Go.RowKit

theorem fits_any (k n b t q : Int) (w : World) : Calls Try.prog 13 #[valV k n b t, .int .u8 q] w fun e w' => e = .returned (.bool (fitsB k n b t q)) ∧ Below w.heap.size w w' := by
  by_cases hq : 1 ≤ q ∧ q ≤ 3
  · have f1 := Lib.hid (first_yes hq).1
    have f2 := Lib.hid (first_yes hq).2
    by_cases hm : MayP k n b t
    · have hf : fitsB k n b t q = (k == q) := by unfold fitsB; rw [← may_t hm]; rfl
      rw [hf]
      have hc := Lib.hid (chk_t hm)
      clear hf hm
      go_enter Try.func13, Try.ntmps13
      go_wp2_with fail
      refine (first_any _ _).mono ?_
      rintro e w1 ⟨rfl, hb1⟩
      rw [f1.out, f2.out]
      have B1 := (Blk.new w 23 #[.int .u8 k, .int .i64 n, .int .i64 b, .int .i64 t]).beneath hb1
      have c1 := B1.cells
      have z1 := B1.lt
      have H1 := Lib.hid (below_new hb1)
      clear f1 f2 hb1
      go_wp2_with fail
      refine (check_any _ _ _ _ _).mono ?_
      rintro e w2 ⟨rfl, hb2⟩
      rw [← hc.out]
      have c2 := ((B1.alloc _).beneath hb2).cells
      have c3 := ((Blk.new w1 23 #[.int .u8 q, .int .i64 0, .int .i64 0, .int .i64 0]).beneath hb2).cells
      have H2 := Lib.hid (below_new hb2)
      clear hb2 hc c1
      go_wp2_with fail
      go_ret
      exact ⟨rfl, H1.out.trans (H2.out.mono (by omega))⟩
    · have hf : fitsB k n b t q = false := by unfold fitsB; rw [← may_f hm]; rfl
      rw [hf]
      have hc := Lib.hid (chk_f hm)
      clear hf hm
      go_enter Try.func13, Try.ntmps13
      go_wp2_with fail
      refine (first_any _ _).mono ?_
      rintro e w1 ⟨rfl, hb1⟩
      rw [f1.out, f2.out]
      have B1 := (Blk.new w 23 #[.int .u8 k, .int .i64 n, .int .i64 b, .int .i64 t]).beneath hb1
      have c1 := B1.cells
      have z1 := B1.lt
      have H1 := Lib.hid (below_new hb1)
      clear f1 f2 hb1
      go_wp2_with fail
      refine (check_any _ _ _ _ _).mono ?_
      rintro e w2 ⟨rfl, hb2⟩
      rw [← hc.out]
      have H2 := Lib.hid (below_new hb2)
      clear hb2 hc c1
      go_wp2_with fail
      go_ret
      exact ⟨rfl, H1.out.trans (H2.out.mono (by omega))⟩
  · rw [fits_no hq]
    have f1 := Lib.hid (first_no hq).1
    have f2 := Lib.hid (first_no hq).2
    go_enter Try.func13, Try.ntmps13
    go_wp2_with fail
    refine (first_any _ _).mono ?_
    rintro e w1 ⟨rfl, hb1⟩
    rw [f1.out, f2.out]
    have z1 := hb1.size
    have H1 := Lib.hid (below_new hb1)
    clear f1 f2 hb1
    go_wp2_with fail
    go_ret
    exact ⟨rfl, H1.out.alloc (by simp at z1; omega) _⟩
end Go.Proofs.Ytliihlidobajdaa
