/-
  The walks of Small, the program's and the reference's; and of the law NumSmall.
-/
import Derived.Test.YtfaakkgoigmoiaaNumTold
import Derived.Test.YtfaakkgoigmoiaaNumRef2
namespace Go.Proofs.Ytfaakkgoigmoiaa
set_option linter.unusedVariables false
open Go.ChangeShapes Go.WideShapes Go.ChangeAt Go.RowKit Go.Lib

def smE (n er most : Int) : Int := if most < 0 ∨ 1000000 < most then 2 else if er ≠ 0 ∨ n < 0 ∨ most < n then 10 else 0
def smV (n er most : Int) : Int := if most < 0 ∨ 1000000 < most then 0 else if er ≠ 0 ∨ n < 0 ∨ most < n then 0 else n
theorem sm_arg {n er most : Int} (h : most < 0 ∨ 1000000 < most) : smV n er most = 0 ∧ smE n er most = 2 := by unfold smV smE; rw [if_pos h, if_pos h]; exact ⟨rfl, rfl⟩
theorem sm_bad {n er most : Int} (h : ¬ (most < 0 ∨ 1000000 < most)) (h' : er ≠ 0 ∨ n < 0 ∨ most < n) : smV n er most = 0 ∧ smE n er most = 10 := by unfold smV smE; rw [if_neg h, if_pos h', if_neg h, if_pos h']; exact ⟨rfl, rfl⟩
theorem sm_well {n er most : Int} (h : ¬ (most < 0 ∨ 1000000 < most)) (h' : ¬ (er ≠ 0 ∨ n < 0 ∨ most < n)) : smV n er most = n ∧ smE n er most = 0 := by unfold smV smE; rw [if_neg h, if_neg h', if_neg h, if_neg h']; exact ⟨rfl, rfl⟩

theorem small_is (s : ByteArray) (n er most : Int) (ht : Told s.data.toList n er) (w : World) :
    Calls Try.prog 9 #[.string s, .int .i64 most] w fun e w' => e = .returned (.tuple #[.int .i64 (smV n er most), .int .i64 (smE n er most)]) ∧ Below w.heap.size w w' := by
  have HT := Lib.hid ht
  have her : er = 0 ∨ er = 10 := by rcases ht with ⟨h, _⟩ | ⟨h, _, _⟩ <;> omega
  clear ht
  by_cases ha : most < 0 ∨ 1000000 < most
  · have H := Lib.hid (sm_arg (n := n) (er := er) ha)
    rcases ha with ha | ha
    · go_enter Try.func9, Try.ntmps9
      go_wp2
      go_ret2
      exact ⟨two_eq H.out, Below.refl _ _⟩
    · go_enter Try.func9, Try.ntmps9
      go_wp2
      go_ret2
      exact ⟨two_eq H.out, Below.refl _ _⟩
  have q1 : 0 ≤ most := by omega
  have q2 : most ≤ 1000000 := by omega
  rcases her with rfl | rfl
  · by_cases h1 : n < 0
    · have H := Lib.hid (sm_bad (er := 0) ha (.inr (.inl h1)))
      clear ha
      go_enter Try.func9, Try.ntmps9
      go_wp2_with fail
      refine (read_is s _ _ HT.out _).mono ?_
      rintro e w1 ⟨rfl, hb1⟩
      go_wp2_with fail
      go_ret2
      exact ⟨two_eq H.out, hb1⟩
    by_cases h2 : most < n
    · have H := Lib.hid (sm_bad (er := 0) ha (.inr (.inr h2)))
      clear ha
      go_enter Try.func9, Try.ntmps9
      go_wp2_with fail
      refine (read_is s _ _ HT.out _).mono ?_
      rintro e w1 ⟨rfl, hb1⟩
      go_wp2_with fail
      go_ret2
      exact ⟨two_eq H.out, hb1⟩
    have H := Lib.hid (sm_well (er := 0) (n := n) ha (by omega))
    clear ha
    go_enter Try.func9, Try.ntmps9
    go_wp2_with fail
    refine (read_is s _ _ HT.out _).mono ?_
    rintro e w1 ⟨rfl, hb1⟩
    go_wp2_with fail
    go_ret2
    exact ⟨two_eq H.out, hb1⟩
  · have H := Lib.hid (sm_bad (er := 10) (n := n) ha (.inl (by decide)))
    clear ha
    go_enter Try.func9, Try.ntmps9
    go_wp2_with fail
    refine (read_is s _ _ HT.out _).mono ?_
    rintro e w1 ⟨rfl, hb1⟩
    go_wp2_with fail
    go_ret2
    exact ⟨two_eq H.out, hb1⟩

theorem rsmall_is (s : ByteArray) (n er most : Int) (ht : Told s.data.toList n er) (w : World) :
    Calls Try.prog 10 #[.string s, .int .i64 most] w fun e w' => e = .returned (.tuple #[.int .i64 (smV n er most), .int .i64 (smE n er most)]) ∧ Below w.heap.size w w' := by
  have HT := Lib.hid ht
  have her : er = 0 ∨ er = 10 := by rcases ht with ⟨h, _⟩ | ⟨h, _, _⟩ <;> omega
  clear ht
  by_cases ha : most < 0 ∨ 1000000 < most
  · have H := Lib.hid (sm_arg (n := n) (er := er) ha)
    rcases ha with ha | ha
    · go_enter Try.func10, Try.ntmps10
      go_wp2
      go_ret2
      exact ⟨two_eq H.out, Below.refl _ _⟩
    · go_enter Try.func10, Try.ntmps10
      go_wp2
      go_ret2
      exact ⟨two_eq H.out, Below.refl _ _⟩
  have q1 : 0 ≤ most := by omega
  have q2 : most ≤ 1000000 := by omega
  rcases her with rfl | rfl
  · by_cases h1 : n < 0
    · have H := Lib.hid (sm_bad (er := 0) ha (.inr (.inl h1)))
      clear ha
      go_enter Try.func10, Try.ntmps10
      go_wp2_with fail
      refine (rread_is s _ _ HT.out _).mono ?_
      rintro e w1 ⟨rfl, hb1⟩
      go_wp2_with fail
      go_ret2
      exact ⟨two_eq H.out, hb1⟩
    by_cases h2 : most < n
    · have H := Lib.hid (sm_bad (er := 0) ha (.inr (.inr h2)))
      clear ha
      go_enter Try.func10, Try.ntmps10
      go_wp2_with fail
      refine (rread_is s _ _ HT.out _).mono ?_
      rintro e w1 ⟨rfl, hb1⟩
      go_wp2_with fail
      go_ret2
      exact ⟨two_eq H.out, hb1⟩
    have H := Lib.hid (sm_well (er := 0) (n := n) ha (by omega))
    clear ha
    go_enter Try.func10, Try.ntmps10
    go_wp2_with fail
    refine (rread_is s _ _ HT.out _).mono ?_
    rintro e w1 ⟨rfl, hb1⟩
    go_wp2_with fail
    go_ret2
    exact ⟨two_eq H.out, hb1⟩
  · have H := Lib.hid (sm_bad (er := 10) (n := n) ha (.inl (by decide)))
    clear ha
    go_enter Try.func10, Try.ntmps10
    go_wp2_with fail
    refine (rread_is s _ _ HT.out _).mono ?_
    rintro e w1 ⟨rfl, hb1⟩
    go_wp2_with fail
    go_ret2
    exact ⟨two_eq H.out, hb1⟩

theorem walk_NumSmall (s : ByteArray) (most : Int) (w : World) (w0 : s.size ≤ maxLen) (w1 : (Lit.int .i64 most).wf = true) :
    Calls Try.prog 3 #[.string s, .int .i64 most] w fun e w' => e = .returned (.bool true) ∧ Below w.heap.size w w' := by
  unfold maxLen at w0
  clear w1
  obtain ⟨n, er, ht⟩ := told_ex s.data.toList
  have HT := Lib.hid ht
  clear ht
  by_cases h : 1000 < s.size
  · have q : (1000 : Int) < s.size := by omega
    go_enter Try.func3, Try.ntmps3
    go_wp2
    go_ret
    exact ⟨rfl, Below.refl _ _⟩
  · have q : (s.size : Int) ≤ 1000 := by omega
    go_enter Try.func3, Try.ntmps3
    go_wp2_with fail
    refine (small_is s n er most HT.out _).mono ?_
    rintro e w1 ⟨rfl, hb1⟩
    go_wp2_with fail
    refine (rsmall_is s n er most HT.out _).mono ?_
    rintro e w2 ⟨rfl, hb2⟩
    go_wp2_with fail
    go_ret
    exact ⟨rfl, hb1.trans (hb2.mono hb1.size)⟩

end Go.Proofs.Ytfaakkgoigmoiaa
