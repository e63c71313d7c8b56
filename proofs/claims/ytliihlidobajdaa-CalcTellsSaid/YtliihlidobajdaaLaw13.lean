/-
  The walks of the statements of layer 13.
-/
import Derived.Test.YtliihlidobajdaaCalc2
import Derived.Test.YtliihlidobajdaaCalcRef
import Derived.Test.YtliihlidobajdaaOff
import Derived.Test.YtliihlidobajdaaCalcLaws
namespace Go.Proofs.Ytliihlidobajdaa
set_option linter.unusedVariables false
open Go.ChangeShapes Go.WideShapes Go.ChangeAt Go.RowKit

theorem in64_of {a : Int} (h : (Lit.int .i64 a).wf = true) : In64 a := by
  have := bounds_i64 h
  unfold In64; omega

theorem walk_CalcDoes (op a b : Int) (w : World) (w0 : (Lit.int .u8 op).wf = true) (w1 : (Lit.int .i64 a).wf = true) (w2 : (Lit.int .i64 b).wf = true) :
    Calls Try.prog 4 #[.int .u8 op, .int .i64 a, .int .i64 b] w fun e w' => e = .returned (.bool true) ∧ Below w.heap.size w w' := by
  have wa := in64_of w1
  have wb := in64_of w2
  go_enter Try.func4, Try.ntmps4
  go_wp2_with fail
  refine (do_any _ _ _ _).mono ?_
  rintro e w1 ⟨rfl, hb1⟩
  go_wp2_with fail
  refine (rdo_any _ _ _ wa wb _).mono ?_
  rintro e w2 ⟨rfl, rfl⟩
  go_wp2_with fail
  go_ret
  exact ⟨rfl, hb1⟩
theorem is_any (op a b want : Int) (w : World) : Calls Try.prog 18 #[.int .u8 op, .int .i64 a, .int .i64 b, .int .i64 want] w fun e w' => e = .returned (.bool (isB op a b want)) ∧ Below w.heap.size w w' := by
  by_cases h : doE op b = 0
  · have hs : isB op a b want = (doV op a b == want) := by unfold isB; rw [h]; rfl
    have h' := Lib.hid h
    rw [hs]
    clear h hs
    go_enter Try.func18, Try.ntmps18
    go_wp2_with fail
    refine (do_any _ _ _ _).mono ?_
    rintro e w1 ⟨rfl, hb1⟩
    rw [h'.out]
    go_wp2_with fail
    go_ret
    exact ⟨rfl, hb1⟩
  · have h0 : (doE op b == 0) = false := by simpa using h
    have hs : isB op a b want = false := by unfold isB; rw [h0]; rfl
    rw [hs]
    clear h hs
    go_enter Try.func18, Try.ntmps18
    go_wp2_with fail
    refine (do_any _ _ _ _).mono ?_
    rintro e w1 ⟨rfl, hb1⟩
    go_wp2_with fail
    go_ret
    exact ⟨rfl, hb1⟩
theorem is_true {op a b want : Int} (w : World) (h : isB op a b want = true) : Calls Try.prog 18 #[.int .u8 op, .int .i64 a, .int .i64 b, .int .i64 want] w fun e w' => e = .returned (.bool true) ∧ Below w.heap.size w w' := by
  have := is_any op a b want w
  rw [h] at this
  exact this

theorem alive_any (w : World) : Calls Try.prog 17 #[] w fun e w' => e = .returned (.bool true) ∧ Below w.heap.size w w' := by
  have hb0 : Below w.heap.size w w := Below.refl _ _
  go_enter Try.func17, Try.ntmps17
  go_wp2_with fail
  refine (carry hb0 (is_true _ (by decide +kernel))).mono ?_
  rintro e w1 ⟨rfl, hb1⟩
  go_wp2_with fail
  refine (carry hb1 (is_true _ (by decide +kernel))).mono ?_
  rintro e w2 ⟨rfl, hb2⟩
  go_wp2_with fail
  refine (carry hb2 (is_true _ (by decide +kernel))).mono ?_
  rintro e w3 ⟨rfl, hb3⟩
  go_wp2_with fail
  refine (carry hb3 (is_true _ (by decide +kernel))).mono ?_
  rintro e w4 ⟨rfl, hb4⟩
  go_wp2_with fail
  go_ret
  exact ⟨rfl, hb4⟩

set_option maxHeartbeats 1000000 in
theorem walk_CalcRing (a b c : Int) (w : World) (w0 : (Lit.int .i64 a).wf = true) (w1 : (Lit.int .i64 b).wf = true) (w2 : (Lit.int .i64 c).wf = true) :
    Calls Try.prog 5 #[.int .i64 a, .int .i64 b, .int .i64 c] w fun e w' => e = .returned (.bool true) ∧ Below w.heap.size w w' := by
  have wa := in64_of w0
  have hb0 : Below w.heap.size w w := Below.refl _ _
  go_enter Try.func5, Try.ntmps5
  go_wp2_with fail
  refine (carry hb0 (alive_any _)).mono ?_
  rintro e w1 ⟨rfl, hb1⟩
  go_wp2_with fail
  refine (carry hb1 (do_any _ _ _ _)).mono ?_
  rintro e w2 ⟨rfl, hb2⟩
  go_wp2_with fail
  refine (carry hb2 (do_any _ _ _ _)).mono ?_
  rintro e w3 ⟨rfl, hb3⟩
  go_wp2_with fail
  refine (carry hb3 (do_any _ _ _ _)).mono ?_
  rintro e w4 ⟨rfl, hb4⟩
  go_wp2_with fail
  refine (carry hb4 (do_any _ _ _ _)).mono ?_
  rintro e w5 ⟨rfl, hb5⟩
  go_wp2_with fail
  refine (carry hb5 (do_any _ _ _ _)).mono ?_
  rintro e w6 ⟨rfl, hb6⟩
  go_wp2_with fail
  refine (carry hb6 (do_any _ _ _ _)).mono ?_
  rintro e w7 ⟨rfl, hb7⟩
  go_wp2_with fail
  refine (carry hb7 (do_any _ _ _ _)).mono ?_
  rintro e w8 ⟨rfl, hb8⟩
  go_wp2_with fail
  refine (carry hb8 (do_any _ _ _ _)).mono ?_
  rintro e w9 ⟨rfl, hb9⟩
  go_wp2_with fail
  refine (carry hb9 (is_true _ (ring1 a b c))).mono ?_
  rintro e w10 ⟨rfl, hb10⟩
  go_wp2_with fail
  refine (carry hb10 (is_true _ (ring2 a b))).mono ?_
  rintro e w11 ⟨rfl, hb11⟩
  go_wp2_with fail
  refine (carry hb11 (is_true _ (ring3 a b))).mono ?_
  rintro e w12 ⟨rfl, hb12⟩
  go_wp2_with fail
  refine (carry hb12 (is_true _ (ring4 a b c))).mono ?_
  rintro e w13 ⟨rfl, hb13⟩
  go_wp2_with fail
  refine (carry hb13 (is_true _ (ring5 a b c))).mono ?_
  rintro e w14 ⟨rfl, hb14⟩
  go_wp2_with fail
  refine (carry hb14 (is_true _ (ring6 wa))).mono ?_
  rintro e w15 ⟨rfl, hb15⟩
  go_wp2_with fail
  refine (carry hb15 (is_true _ (ring7 wa))).mono ?_
  rintro e w16 ⟨rfl, hb16⟩
  go_wp2_with fail
  refine (carry hb16 (is_true _ (ring8 wa))).mono ?_
  rintro e w17 ⟨rfl, hb17⟩
  go_wp2_with fail
  refine (carry hb17 (is_true _ (ring9 a))).mono ?_
  rintro e w18 ⟨rfl, hb18⟩
  go_wp2_with fail
  go_ret
  exact ⟨rfl, hb18⟩

set_option maxHeartbeats 2000000 in
theorem walk_CalcDiv (a b : Int) (w : World) (w0 : (Lit.int .i64 a).wf = true) (w1 : (Lit.int .i64 b).wf = true) :
    Calls Try.prog 6 #[.int .i64 a, .int .i64 b] w fun e w' => e = .returned (.bool true) ∧ Below w.heap.size w w' := by
  have wa := in64_of w0
  have wb := in64_of w1
  have hb0 : Below w.heap.size w w := Below.refl _ _
  by_cases hb : b = 0
  · subst hb
    have e1 := Lib.hid (@doV_div0 a)
    have e2 := Lib.hid doE_div0
    clear w0 w1 wa wb
    go_enter Try.func6, Try.ntmps6
    go_wp2_with fail
    refine (carry hb0 (alive_any _)).mono ?_
    rintro e w1 ⟨rfl, hb1⟩
    go_wp2_with fail
    refine (carry hb1 (do_any _ _ _ _)).mono ?_
    rintro e w2 ⟨rfl, hb2⟩
    rw [e1.out, e2.out]
    go_wp2_with fail
    go_ret
    exact ⟨rfl, hb2⟩
  have e2 := Lib.hid (doE_div hb)
  have e0 : (b == 0) = false := by simpa using hb
  by_cases ha' : a = -9223372036854775808
  · have e3 : (a == -9223372036854775808) = true := by simp [ha']
    have A := Lib.hid ha'
    clear ha' w0 w1 wa wb hb
    go_enter Try.func6, Try.ntmps6
    go_wp2_with fail
    refine (carry hb0 (alive_any _)).mono ?_
    rintro e w1 ⟨rfl, hb1⟩
    go_wp2_with fail
    refine (carry hb1 (do_any _ _ _ _)).mono ?_
    rintro e w2 ⟨rfl, hb2⟩
    rw [e2.out]
    go_wp2_with fail
    go_ret
    exact ⟨rfl, hb2⟩
  have e3 : (a == -9223372036854775808) = false := by simpa using ha'
  by_cases hb' : b = -9223372036854775808
  · have e4 : (b == -9223372036854775808) = true := by simp [hb']
    have A := Lib.hid hb'
    clear ha' hb' w0 w1 wa wb hb
    go_enter Try.func6, Try.ntmps6
    go_wp2_with fail
    refine (carry hb0 (alive_any _)).mono ?_
    rintro e w1 ⟨rfl, hb1⟩
    go_wp2_with fail
    refine (carry hb1 (do_any _ _ _ _)).mono ?_
    rintro e w2 ⟨rfl, hb2⟩
    rw [e2.out]
    go_wp2_with fail
    go_ret
    exact ⟨rfl, hb2⟩
  have e4 : (b == -9223372036854775808) = false := by simpa using hb'
  have L := left_of wa wb hb ha' hb'
  generalize b * a.tdiv b = m at L
  generalize a.tmod b = r at L
  have lb1 : -9223372036854775807 ≤ b := by unfold In64 at wb; omega
  have lb2 : b ≤ 9223372036854775807 := by unfold In64 at wb; omega
  have H1 := Lib.hid L.hm
  have H2 := Lib.hid L.hr
  have H3 := Lib.hid L.back
  have l1 := L.lo
  have l2 := L.hi
  have l3 := L.pos
  have l4 := L.neg
  have l5 := L.up
  have l6 := L.down
  clear L w0 w1 wa wb ha' hb'
  by_cases hbs : b < 0
  · obtain ⟨n1, n2⟩ := l4 hbs
    clear l3 l4 hb
    rcases Int.lt_trichotomy r 0 with hr | hr | hr
    · have ha : a < 0 := by
        rcases Int.lt_or_le a 0 with h | h
        · exact h
        · have := l5 h; omega
      have r0 : (r == 0) = false := by simp; omega
      clear l5 l6
      go_enter Try.func6, Try.ntmps6
      go_wp2_with fail
      refine (carry hb0 (alive_any _)).mono ?_
      rintro e w1 ⟨rfl, hb1⟩
      go_wp2_with fail
      refine (carry hb1 (do_any _ _ _ _)).mono ?_
      rintro e w2 ⟨rfl, hb2⟩
      rw [e2.out]
      go_wp2_with fail
      refine (carry hb2 (do_any _ _ _ _)).mono ?_
      rintro e w3 ⟨rfl, hb3⟩
      rw [H1.out]
      go_wp2_with fail
      refine (carry hb3 (do_any _ _ _ _)).mono ?_
      rintro e w4 ⟨rfl, hb4⟩
      rw [H2.out]
      go_wp2_with fail
      refine (carry hb4 (is_true _ H3.out)).mono ?_
      rintro e w5 ⟨rfl, hb5⟩
      go_wp2_with fail
      go_ret
      exact ⟨rfl, hb5⟩
    · subst hr
      clear l5 l6
      go_enter Try.func6, Try.ntmps6
      go_wp2_with fail
      refine (carry hb0 (alive_any _)).mono ?_
      rintro e w1 ⟨rfl, hb1⟩
      go_wp2_with fail
      refine (carry hb1 (do_any _ _ _ _)).mono ?_
      rintro e w2 ⟨rfl, hb2⟩
      rw [e2.out]
      go_wp2_with fail
      refine (carry hb2 (do_any _ _ _ _)).mono ?_
      rintro e w3 ⟨rfl, hb3⟩
      rw [H1.out]
      go_wp2_with fail
      refine (carry hb3 (do_any _ _ _ _)).mono ?_
      rintro e w4 ⟨rfl, hb4⟩
      rw [H2.out]
      go_wp2_with fail
      refine (carry hb4 (is_true _ H3.out)).mono ?_
      rintro e w5 ⟨rfl, hb5⟩
      go_wp2_with fail
      go_ret
      exact ⟨rfl, hb5⟩
    · have ha : 0 ≤ a := by
        rcases Int.lt_or_le a 0 with h | h
        · have := l6 (by omega); omega
        · exact h
      have r0 : (r == 0) = false := by simp; omega
      clear l5 l6
      go_enter Try.func6, Try.ntmps6
      go_wp2_with fail
      refine (carry hb0 (alive_any _)).mono ?_
      rintro e w1 ⟨rfl, hb1⟩
      go_wp2_with fail
      refine (carry hb1 (do_any _ _ _ _)).mono ?_
      rintro e w2 ⟨rfl, hb2⟩
      rw [e2.out]
      go_wp2_with fail
      refine (carry hb2 (do_any _ _ _ _)).mono ?_
      rintro e w3 ⟨rfl, hb3⟩
      rw [H1.out]
      go_wp2_with fail
      refine (carry hb3 (do_any _ _ _ _)).mono ?_
      rintro e w4 ⟨rfl, hb4⟩
      rw [H2.out]
      go_wp2_with fail
      refine (carry hb4 (is_true _ H3.out)).mono ?_
      rintro e w5 ⟨rfl, hb5⟩
      go_wp2_with fail
      go_ret
      exact ⟨rfl, hb5⟩
  · obtain ⟨n1, n2⟩ := l3 (by omega)
    clear l3 l4 hb
    rcases Int.lt_trichotomy r 0 with hr | hr | hr
    · have ha : a < 0 := by
        rcases Int.lt_or_le a 0 with h | h
        · exact h
        · have := l5 h; omega
      have r0 : (r == 0) = false := by simp; omega
      clear l5 l6
      go_enter Try.func6, Try.ntmps6
      go_wp2_with fail
      refine (carry hb0 (alive_any _)).mono ?_
      rintro e w1 ⟨rfl, hb1⟩
      go_wp2_with fail
      refine (carry hb1 (do_any _ _ _ _)).mono ?_
      rintro e w2 ⟨rfl, hb2⟩
      rw [e2.out]
      go_wp2_with fail
      refine (carry hb2 (do_any _ _ _ _)).mono ?_
      rintro e w3 ⟨rfl, hb3⟩
      rw [H1.out]
      go_wp2_with fail
      refine (carry hb3 (do_any _ _ _ _)).mono ?_
      rintro e w4 ⟨rfl, hb4⟩
      rw [H2.out]
      go_wp2_with fail
      refine (carry hb4 (is_true _ H3.out)).mono ?_
      rintro e w5 ⟨rfl, hb5⟩
      go_wp2_with fail
      go_ret
      exact ⟨rfl, hb5⟩
    · subst hr
      clear l5 l6
      go_enter Try.func6, Try.ntmps6
      go_wp2_with fail
      refine (carry hb0 (alive_any _)).mono ?_
      rintro e w1 ⟨rfl, hb1⟩
      go_wp2_with fail
      refine (carry hb1 (do_any _ _ _ _)).mono ?_
      rintro e w2 ⟨rfl, hb2⟩
      rw [e2.out]
      go_wp2_with fail
      refine (carry hb2 (do_any _ _ _ _)).mono ?_
      rintro e w3 ⟨rfl, hb3⟩
      rw [H1.out]
      go_wp2_with fail
      refine (carry hb3 (do_any _ _ _ _)).mono ?_
      rintro e w4 ⟨rfl, hb4⟩
      rw [H2.out]
      go_wp2_with fail
      refine (carry hb4 (is_true _ H3.out)).mono ?_
      rintro e w5 ⟨rfl, hb5⟩
      go_wp2_with fail
      go_ret
      exact ⟨rfl, hb5⟩
    · have ha : 0 ≤ a := by
        rcases Int.lt_or_le a 0 with h | h
        · have := l6 (by omega); omega
        · exact h
      have r0 : (r == 0) = false := by simp; omega
      clear l5 l6
      go_enter Try.func6, Try.ntmps6
      go_wp2_with fail
      refine (carry hb0 (alive_any _)).mono ?_
      rintro e w1 ⟨rfl, hb1⟩
      go_wp2_with fail
      refine (carry hb1 (do_any _ _ _ _)).mono ?_
      rintro e w2 ⟨rfl, hb2⟩
      rw [e2.out]
      go_wp2_with fail
      refine (carry hb2 (do_any _ _ _ _)).mono ?_
      rintro e w3 ⟨rfl, hb3⟩
      rw [H1.out]
      go_wp2_with fail
      refine (carry hb3 (do_any _ _ _ _)).mono ?_
      rintro e w4 ⟨rfl, hb4⟩
      rw [H2.out]
      go_wp2_with fail
      refine (carry hb4 (is_true _ H3.out)).mono ?_
      rintro e w5 ⟨rfl, hb5⟩
      go_wp2_with fail
      go_ret
      exact ⟨rfl, hb5⟩

set_option maxHeartbeats 2000000 in
theorem walk_CalcOrder (a b c : Int) (w : World) (w0 : (Lit.int .i64 a).wf = true) (w1 : (Lit.int .i64 b).wf = true) (w2 : (Lit.int .i64 c).wf = true) :
    Calls Try.prog 7 #[.int .i64 a, .int .i64 b, .int .i64 c] w fun e w' => e = .returned (.bool true) ∧ Below w.heap.size w w' := by
  have hb0 : Below w.heap.size w w := Below.refl _ _
  clear w0 w1 w2
  rcases Int.lt_trichotomy a b with h | h | h
  · have h1 := Lib.hid (less_t h)
    have h2 := Lib.hid (less_f (a := b) (b := a) (by omega))
    have h3 := Lib.hid (eq_f (a := a) (b := b) (by omega))
    have hne : (a == b) = false := by simp; omega
    by_cases hc : b < c
    · have h4 := Lib.hid (less_t hc)
      have h5 := Lib.hid (is_less (a := a) (b := c) (by omega))
      go_enter Try.func7, Try.ntmps7
      go_wp2_with fail
      refine (carry hb0 (alive_any _)).mono ?_
      rintro e w1 ⟨rfl, hb1⟩
      go_wp2_with fail
      refine (carry hb1 (do_any _ _ _ _)).mono ?_
      rintro e w2 ⟨rfl, hb2⟩
      rw [h1.out]
      go_wp2_with fail
      refine (carry hb2 (do_any _ _ _ _)).mono ?_
      rintro e w3 ⟨rfl, hb3⟩
      rw [h2.out]
      go_wp2_with fail
      refine (carry hb3 (do_any _ _ _ _)).mono ?_
      rintro e w4 ⟨rfl, hb4⟩
      rw [h3.out]
      go_wp2_with fail
      refine (carry hb4 (do_any _ _ _ _)).mono ?_
      rintro e w5 ⟨rfl, hb5⟩
      rw [h4.out]
      go_wp2_with fail
      refine (carry hb5 (is_true _ h5.out)).mono ?_
      rintro e w6 ⟨rfl, hb6⟩
      go_wp2_with fail
      go_ret
      exact ⟨rfl, hb6⟩
    · have h4 := Lib.hid (less_f hc)
      go_enter Try.func7, Try.ntmps7
      go_wp2_with fail
      refine (carry hb0 (alive_any _)).mono ?_
      rintro e w1 ⟨rfl, hb1⟩
      go_wp2_with fail
      refine (carry hb1 (do_any _ _ _ _)).mono ?_
      rintro e w2 ⟨rfl, hb2⟩
      rw [h1.out]
      go_wp2_with fail
      refine (carry hb2 (do_any _ _ _ _)).mono ?_
      rintro e w3 ⟨rfl, hb3⟩
      rw [h2.out]
      go_wp2_with fail
      refine (carry hb3 (do_any _ _ _ _)).mono ?_
      rintro e w4 ⟨rfl, hb4⟩
      rw [h3.out]
      go_wp2_with fail
      refine (carry hb4 (do_any _ _ _ _)).mono ?_
      rintro e w5 ⟨rfl, hb5⟩
      rw [h4.out]
      go_wp2_with fail
      go_ret
      exact ⟨rfl, hb5⟩
  · subst h
    have h1 := Lib.hid (less_f (a := a) (b := a) (by omega))
    have h3 := Lib.hid (eq_t (a := a) (b := a) rfl)
    by_cases hc : a < c
    · have h4 := Lib.hid (less_t hc)
      go_enter Try.func7, Try.ntmps7
      go_wp2_with fail
      refine (carry hb0 (alive_any _)).mono ?_
      rintro e w1 ⟨rfl, hb1⟩
      go_wp2_with fail
      refine (carry hb1 (do_any _ _ _ _)).mono ?_
      rintro e w2 ⟨rfl, hb2⟩
      rw [h1.out]
      go_wp2_with fail
      refine (carry hb2 (do_any _ _ _ _)).mono ?_
      rintro e w3 ⟨rfl, hb3⟩
      rw [h1.out]
      go_wp2_with fail
      refine (carry hb3 (do_any _ _ _ _)).mono ?_
      rintro e w4 ⟨rfl, hb4⟩
      rw [h3.out]
      go_wp2_with fail
      refine (carry hb4 (do_any _ _ _ _)).mono ?_
      rintro e w5 ⟨rfl, hb5⟩
      rw [h4.out]
      go_wp2_with fail
      go_ret
      exact ⟨rfl, hb5⟩
    · have h4 := Lib.hid (less_f hc)
      go_enter Try.func7, Try.ntmps7
      go_wp2_with fail
      refine (carry hb0 (alive_any _)).mono ?_
      rintro e w1 ⟨rfl, hb1⟩
      go_wp2_with fail
      refine (carry hb1 (do_any _ _ _ _)).mono ?_
      rintro e w2 ⟨rfl, hb2⟩
      rw [h1.out]
      go_wp2_with fail
      refine (carry hb2 (do_any _ _ _ _)).mono ?_
      rintro e w3 ⟨rfl, hb3⟩
      rw [h1.out]
      go_wp2_with fail
      refine (carry hb3 (do_any _ _ _ _)).mono ?_
      rintro e w4 ⟨rfl, hb4⟩
      rw [h3.out]
      go_wp2_with fail
      refine (carry hb4 (do_any _ _ _ _)).mono ?_
      rintro e w5 ⟨rfl, hb5⟩
      rw [h4.out]
      go_wp2_with fail
      go_ret
      exact ⟨rfl, hb5⟩
  · have h1 := Lib.hid (less_f (a := a) (b := b) (by omega))
    have h2 := Lib.hid (less_t h)
    have h3 := Lib.hid (eq_f (a := a) (b := b) (by omega))
    have hne : (a == b) = false := by simp; omega
    by_cases hc : b < c
    · have h4 := Lib.hid (less_t hc)
      go_enter Try.func7, Try.ntmps7
      go_wp2_with fail
      refine (carry hb0 (alive_any _)).mono ?_
      rintro e w1 ⟨rfl, hb1⟩
      go_wp2_with fail
      refine (carry hb1 (do_any _ _ _ _)).mono ?_
      rintro e w2 ⟨rfl, hb2⟩
      rw [h1.out]
      go_wp2_with fail
      refine (carry hb2 (do_any _ _ _ _)).mono ?_
      rintro e w3 ⟨rfl, hb3⟩
      rw [h2.out]
      go_wp2_with fail
      refine (carry hb3 (do_any _ _ _ _)).mono ?_
      rintro e w4 ⟨rfl, hb4⟩
      rw [h3.out]
      go_wp2_with fail
      refine (carry hb4 (do_any _ _ _ _)).mono ?_
      rintro e w5 ⟨rfl, hb5⟩
      rw [h4.out]
      go_wp2_with fail
      go_ret
      exact ⟨rfl, hb5⟩
    · have h4 := Lib.hid (less_f hc)
      go_enter Try.func7, Try.ntmps7
      go_wp2_with fail
      refine (carry hb0 (alive_any _)).mono ?_
      rintro e w1 ⟨rfl, hb1⟩
      go_wp2_with fail
      refine (carry hb1 (do_any _ _ _ _)).mono ?_
      rintro e w2 ⟨rfl, hb2⟩
      rw [h1.out]
      go_wp2_with fail
      refine (carry hb2 (do_any _ _ _ _)).mono ?_
      rintro e w3 ⟨rfl, hb3⟩
      rw [h2.out]
      go_wp2_with fail
      refine (carry hb3 (do_any _ _ _ _)).mono ?_
      rintro e w4 ⟨rfl, hb4⟩
      rw [h3.out]
      go_wp2_with fail
      refine (carry hb4 (do_any _ _ _ _)).mono ?_
      rintro e w5 ⟨rfl, hb5⟩
      rw [h4.out]
      go_wp2_with fail
      go_ret
      exact ⟨rfl, hb5⟩

end Go.Proofs.Ytliihlidobajdaa
