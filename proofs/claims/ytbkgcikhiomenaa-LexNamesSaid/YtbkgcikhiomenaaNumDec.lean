/-
  The texts of numbers, asked by their form: what may be decided.
-/
import Derived.Test.YtbkgcikhiomenaaNumTold
namespace Go.Proofs.Ytbkgcikhiomenaa
set_option linter.unusedVariables false
set_option linter.unusedSimpArgs false
open Go.RowKit Go.Lib

def canonB (l : List UInt8) : Bool := l.all (fun c => decide (48 ≤ c.toNat) && decide (c.toNat ≤ 57)) && !l.isEmpty && (l == [48] || l.head? != some 48)
theorem canonB_iff {l : List UInt8} : canonB l = true ↔ Canon l := by
  unfold canonB Canon AllDig Dig
  simp only [Bool.and_eq_true, List.all_eq_true, decide_eq_true_eq, Bool.or_eq_true, beq_iff_eq, bne_iff_ne, Bool.not_eq_true', List.isEmpty_eq_false_iff, ne_eq]
  constructor
  · rintro ⟨⟨h1, h2⟩, h3⟩; exact ⟨h1, h2, h3⟩
  · rintro ⟨h1, h2, h3⟩; exact ⟨⟨h1, h2⟩, h3⟩
def posB (l : List UInt8) (n : Int) : Bool := canonB l && decide ((valD l : Int) = n) && decide (valD l ≤ 9223372036854775807)
def negB (l : List UInt8) (n : Int) : Bool := match l with
  | c :: r => c == 45 && canonB r && r != [48] && decide (-(valD r : Int) = n) && decide (valD r ≤ 9223372036854775808)
  | [] => false
def badB (l : List UInt8) : Bool := !(canonB l && decide (valD l ≤ 9223372036854775807)) && match l with
  | c :: r => !(c == 45 && canonB r && r != [48] && decide (valD r ≤ 9223372036854775808))
  | [] => true
theorem num_pos {l : List UInt8} {n : Int} (h : posB l n = true) : NumOf l n := by
  unfold posB at h
  simp only [Bool.and_eq_true, decide_eq_true_eq] at h
  obtain ⟨⟨h1, rfl⟩, h3⟩ := h
  exact numOf_pos (canonB_iff.1 h1) h3
theorem num_neg {l : List UInt8} {n : Int} (h : negB l n = true) : NumOf l n := by
  unfold negB at h
  split at h
  · simp only [Bool.and_eq_true, decide_eq_true_eq, beq_iff_eq, bne_iff_ne, ne_eq] at h
    obtain ⟨⟨⟨⟨rfl, h1⟩, h2⟩, rfl⟩, h4⟩ := h
    exact numOf_neg (canonB_iff.1 h1) h2 h4
  · cases h
theorem num_bad {l : List UInt8} (h : badB l = true) (m : Int) : ¬ NumOf l m := fun hn => by
  unfold badB at h
  rcases numOf_form hn with ⟨h1, _, h2⟩ | ⟨r, rfl, h1, h2, _, h3⟩
  · rw [canonB_iff.2 h1] at h
    simp [h2] at h
  · simp [canonB_iff.2 h1, h2, h3] at h

theorem told_yes {l : List UInt8} {n : Int} (h : NumOf l n) : Told l n 0 := .inl ⟨rfl, h⟩
theorem told_no {l : List UInt8} (h : ∀ m, ¬ NumOf l m) : Told l 0 10 := .inr ⟨rfl, rfl, h⟩
end Go.Proofs.Ytbkgcikhiomenaa
