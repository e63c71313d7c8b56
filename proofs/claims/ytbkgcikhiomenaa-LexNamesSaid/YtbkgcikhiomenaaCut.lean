/-
  The walk of strings.CutPrefix.
-/
import Derived.Test.YtbkgcikhiomenaaProg
import Derived.Test.YtbkgcikhiomenaaNumPure
import Derived.WalkKit
import Derived.ProofKit
import Derived.OpenShut
import Derived.Outline
import Derived.WalkSpells
import Derived.WalkLawsBesides
import Derived.Lib.Strings
import Derived.Lib.IndexBytes
namespace Go.Proofs.Ytbkgcikhiomenaa
set_option linter.unusedVariables false
set_option linter.unusedSimpArgs false
open Go.ChangeShapes Go.WideShapes Go.ChangeAt Go.RowKit Go.Lib

/-- Behind a sign: whether there is one (m), and the rest (r). -/
def Signed (s : ByteArray) (m : Bool) (r : ByteArray) : Prop :=
  (m = true ∧ 1 ≤ s.size ∧ s.data.toList.head? = some 45 ∧ r = s.extract 1 s.size) ∨ (m = false ∧ s.data.toList.head? ≠ some 45 ∧ r = s)
theorem signed_ex (s : ByteArray) : ∃ m r, Signed s m r := by
  by_cases h : s.data.toList.head? = some 45
  · refine ⟨true, _, .inl ⟨rfl, ?_, h, rfl⟩⟩
    rcases Nat.eq_zero_or_pos s.size with h0 | h0
    · have : s.data.toList = [] := List.eq_nil_of_length_eq_zero (by simpa using h0)
      rw [this] at h; cases h
    · exact h0
  · exact ⟨false, s, .inr ⟨rfl, h, rfl⟩⟩
theorem first_eq {s : ByteArray} (h : 1 ≤ s.size) : (s.extract 0 1).toList = [45] ↔ s.data.toList.head? = some 45 := by
  rw [ByteArray.toList_eq, extract_data]
  have hl : s.data.toList.length = s.size := by simp
  generalize s.data.toList = l at *
  cases l with
  | nil => simp at hl; omega
  | cons a l => simp

theorem cut_is (s : ByteArray) (m : Bool) (r : ByteArray) (h : Signed s m r) (w : World) :
    Calls Try.prog 24 #[.string s, .string ⟨#[45]⟩] w fun e w' => e = .returned (.tuple #[.string r, .bool m]) ∧ w = w' := by
  rcases h with ⟨rfl, h1, h2, rfl⟩ | ⟨rfl, h2, rfl⟩
  · have hb : ((s.extract 0 1).toList == [45]) = true := by rw [(first_eq h1).2 h2]; rfl
    have q1 : (1 : Int) ≤ s.size := by omega
    clear h2
    go_enter Try.func24, Try.ntmps24
    go_wp2
    go_ret2
    exact ⟨rfl, rfl⟩
  · by_cases h0 : r.size = 0
    · have q1 : (r.size : Int) < 1 := by omega
      clear h2
      go_enter Try.func24, Try.ntmps24
      go_wp2
      go_ret2
      exact ⟨rfl, rfl⟩
    · have h1 : 1 ≤ r.size := by omega
      have hb : ((r.extract 0 1).toList == [45]) = false := beq_eq_false_iff_ne.2 fun e => h2 ((first_eq h1).1 e)
      have q1 : (1 : Int) ≤ r.size := by omega
      clear h2 h0
      go_enter Try.func24, Try.ntmps24
      go_wp2
      go_ret2
      exact ⟨rfl, rfl⟩
end Go.Proofs.Ytbkgcikhiomenaa
