/-
  The walks of Small, the program's and the reference's.
-/
import Derived.Test.YtbkgcikhiomenaaNumTold
import Derived.Test.YtbkgcikhiomenaaNumRef2
namespace Go.Proofs.Ytbkgcikhiomenaa
set_option linter.unusedVariables false
set_option linter.unusedSimpArgs false
open Go.ChangeShapes Go.WideShapes Go.ChangeAt Go.RowKit Go.Lib

def smE (n er most : Int) : Int := if most < 0 ∨ 1000000 < most then 2 else if er ≠ 0 ∨ n < 0 ∨ most < n then 10 else 0
def smV (n er most : Int) : Int := if most < 0 ∨ 1000000 < most then 0 else if er ≠ 0 ∨ n < 0 ∨ most < n then 0 else n
theorem sm_arg {n er most : Int} (h : most < 0 ∨ 1000000 < most) : smV n er most = 0 ∧ smE n er most = 2 := by unfold smV smE; rw [if_pos h, if_pos h]; exact ⟨rfl, rfl⟩
theorem sm_bad {n er most : Int} (h : ¬ (most < 0 ∨ 1000000 < most)) (h' : er ≠ 0 ∨ n < 0 ∨ most < n) : smV n er most = 0 ∧ smE n er most = 10 := by unfold smV smE; rw [if_neg h, if_pos h', if_neg h, if_pos h']; exact ⟨rfl, rfl⟩
theorem sm_well {n er most : Int} (h : ¬ (most < 0 ∨ 1000000 < most)) (h' : ¬ (er ≠ 0 ∨ n < 0 ∨ most < n)) : smV n er most = n ∧ smE n er most = 0 := by unfold smV smE; rw [if_neg h, if_neg h', if_neg h, if_neg h']; exact ⟨rfl, rfl⟩

theorem small_is (s : ByteArray) (n er most : Int) (ht : Told s.data.toList n er) (w : World) :
    Calls Try.prog 25 #[.string s, .int .i64 most] w fun e w' => e = .returned (.tuple #[.int .i64 (smV n er most), .int .i64 (smE n er most)]) ∧ Below w.heap.size w w' := by
  have HT := Lib.hid ht
  have her : er = 0 ∨ er = 10 := by rcases ht with ⟨h, _⟩ | ⟨h, _, _⟩ <;> omega
  clear ht
  by_cases ha : most < 0 ∨ 1000000 < most
  · have H := Lib.hid (sm_arg (n := n) (er := er) ha)
    rcases ha with ha | ha
    · go_enter Try.func25, Try.ntmps25
      go_wp2
      go_ret2
      exact ⟨two_eq H.out, Below.refl _ _⟩
    · go_enter Try.func25, Try.ntmps25
      go_wp2
      go_ret2
      exact ⟨two_eq H.out, Below.refl _ _⟩
  have q1 : 0 ≤ most := by omega
  have q2 : most ≤ 1000000 := by omega
  rcases her with rfl | rfl
  · by_cases h1 : n < 0
    · have H := Lib.hid (sm_bad (er := 0) ha (.inr (.inl h1)))
      clear ha
      go_enter Try.func25, Try.ntmps25
      go_wp2_with fail
      refine (read_is s _ _ HT.out _).mono ?_
      rintro e w1 ⟨rfl, hb1⟩
      go_wp2_with fail
      go_ret2
      exact ⟨two_eq H.out, hb1⟩
    by_cases h2 : most < n
    · have H := Lib.hid (sm_bad (er := 0) ha (.inr (.inr h2)))
      clear ha
      go_enter Try.func25, Try.ntmps25
      go_wp2_with fail
      refine (read_is s _ _ HT.out _).mono ?_
      rintro e w1 ⟨rfl, hb1⟩
      go_wp2_with fail
      go_ret2
      exact ⟨two_eq H.out, hb1⟩
    have H := Lib.hid (sm_well (er := 0) (n := n) ha (by omega))
    clear ha
    go_enter Try.func25, Try.ntmps25
    go_wp2_with fail
    refine (read_is s _ _ HT.out _).mono ?_
    rintro e w1 ⟨rfl, hb1⟩
    go_wp2_with fail
    go_ret2
    exact ⟨two_eq H.out, hb1⟩
  · have H := Lib.hid (sm_bad (er := 10) (n := n) ha (.inl (by decide)))
    clear ha
    go_enter Try.func25, Try.ntmps25
    go_wp2_with fail
    refine (read_is s _ _ HT.out _).mono ?_
    rintro e w1 ⟨rfl, hb1⟩
    go_wp2_with fail
    go_ret2
    exact ⟨two_eq H.out, hb1⟩

theorem rsmall_is (s : ByteArray) (n er most : Int) (ht : Told s.data.toList n er) (w : World) :
    Calls Try.prog 26 #[.string s, .int .i64 most] w fun e w' => e = .returned (.tuple #[.int .i64 (smV n er most), .int .i64 (smE n er most)]) ∧ Below w.heap.size w w' := by
  have HT := Lib.hid ht
  have her : er = 0 ∨ er = 10 := by rcases ht with ⟨h, _⟩ | ⟨h, _, _⟩ <;> omega
  clear ht
  by_cases ha : most < 0 ∨ 1000000 < most
  · have H := Lib.hid (sm_arg (n := n) (er := er) ha)
    rcases ha with ha | ha
    · go_enter Try.func26, Try.ntmps26
      go_wp2
      go_ret2
      exact ⟨two_eq H.out, Below.refl _ _⟩
    · go_enter Try.func26, Try.ntmps26
      go_wp2
      go_ret2
      exact ⟨two_eq H.out, Below.refl _ _⟩
  have q1 : 0 ≤ most := by omega
  have q2 : most ≤ 1000000 := by omega
  rcases her with rfl | rfl
  · by_cases h1 : n < 0
    · have H := Lib.hid (sm_bad (er := 0) ha (.inr (.inl h1)))
      clear ha
      go_enter Try.func26, Try.ntmps26
      go_wp2_with fail
      refine (rread_is s _ _ HT.out _).mono ?_
      rintro e w1 ⟨rfl, hb1⟩
      go_wp2_with fail
      go_ret2
      exact ⟨two_eq H.out, hb1⟩
    by_cases h2 : most < n
    · have H := Lib.hid (sm_bad (er := 0) ha (.inr (.inr h2)))
      clear ha
      go_enter Try.func26, Try.ntmps26
      go_wp2_with fail
      refine (rread_is s _ _ HT.out _).mono ?_
      rintro e w1 ⟨rfl, hb1⟩
      go_wp2_with fail
      go_ret2
      exact ⟨two_eq H.out, hb1⟩
    have H := Lib.hid (sm_well (er := 0) (n := n) ha (by omega))
    clear ha
    go_enter Try.func26, Try.ntmps26
    go_wp2_with fail
    refine (rread_is s _ _ HT.out _).mono ?_
    rintro e w1 ⟨rfl, hb1⟩
    go_wp2_with fail
    go_ret2
    exact ⟨two_eq H.out, hb1⟩
  · have H := Lib.hid (sm_bad (er := 10) (n := n) ha (.inl (by decide)))
    clear ha
    go_enter Try.func26, Try.ntmps26
    go_wp2_with fail
    refine (rread_is s _ _ HT.out _).mono ?_
    rintro e w1 ⟨rfl, hb1⟩
    go_wp2_with fail
    go_ret2
    exact ⟨two_eq H.out, hb1⟩
end Go.Proofs.Ytbkgcikhiomenaa
