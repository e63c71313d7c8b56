/-
  Plain words for loops: all of a list, step by step; for a seat without lists of int.
-/
import Derived.Test.YtbkgcikhiomenaaProg
import Derived.Test.YtbkgcikhiomenaaRows0
import Derived.Test.YtbkgcikhiomenaaApp
import Derived.Test.YtbkgcikhiomenaaAppS
import Derived.Lib.Hide
namespace Go.Proofs.Ytbkgcikhiomenaa
set_option linter.unusedVariables false
set_option linter.unusedSimpArgs false
open Go.RowKit

theorem ret_bool {a b : Bool} (h : a = b) : Ending.returned (.bool a) = .returned (.bool b) := by rw [h]
theorem ret_num {k : IntKind} {a b : Int} (h : a = b) : Ending.returned (.int k a) = .returned (.int k b) := by rw [h]

section
variable {α : Type} {d : α} {xs : List α} {P : α → Bool} {k : Nat}
theorem take_succ_getD (h : k < xs.length) : xs.take (k + 1) = xs.take k ++ [xs.getD k d] := by
  rw [List.take_succ_eq_append_getElem h, getD_lt xs h]
/-- The first k are so. -/
def AllTo (P : α → Bool) (xs : List α) (k : Nat) : Prop := (xs.take k).all P = true
theorem AllTo.zero (P : α → Bool) (xs : List α) : AllTo P xs 0 := by simp [AllTo]
theorem AllTo.step (h : AllTo P xs k) (hk : k < xs.length) (hp : P (xs.getD k d) = true) : AllTo P xs (k + 1) := by
  unfold AllTo at h ⊢
  rw [take_succ_getD (d := d) hk, List.all_append, h]
  simpa using hp
theorem AllTo.done (h : AllTo P xs k) (hk : xs.length ≤ k) : xs.all P = true := by
  unfold AllTo at h
  rwa [List.take_of_length_le hk] at h
theorem all_stop (hk : k < xs.length) (hp : P (xs.getD k d) = false) : xs.all P = false := by
  cases h : xs.all P with
  | false => rfl
  | true =>
    rw [List.all_eq_true] at h
    rw [h _ (mem_getD' hk)] at hp
    cases hp
where mem_getD' {k : Nat} (h : k < xs.length) : xs.getD k d ∈ xs := by rw [getD_lt xs h]; exact List.getElem_mem h
end

/-- A slice's header. -/
structure Hdr (A : Option Addr) (n c : Nat) : Prop where
  fit : n ≤ c
  cap : c ≤ maxLen
  nil : A = none → n = 0 ∧ c = 0
theorem Hdr.le {A : Option Addr} {n c : Nat} (h : Hdr A n c) : n ≤ 9223372036854775807 := by
  have := Nat.le_trans h.fit h.cap
  unfold maxLen at this
  omega
def Enters (F : FuncId) : Prop := ∀ args w, (callFunc F args).run Try.prog w = .ok (.enter F args) w
/-- The walk stops here. -/
def Pause (p : Prop) : Prop := p
theorem pause {p : Prop} (h : Pause p) : p := h
theorem resume {p : Prop} (h : p) : Pause p := h
end Go.Proofs.Ytbkgcikhiomenaa
