/-
  Plain words for loops: all of a list, step by step; the cells of a slice of numbers, in the walk's own spelling.
-/
import Derived.Test.YtbffebcjimhapaaGreatDoorMg4
import Derived.Lib.Hide
namespace Go.Proofs.YtbffebcjimhapaaGreatDoor
set_option linter.unusedVariables false
set_option linter.unusedSimpArgs false
open Go.RowKit
theorem ret_bool {a b : Bool} (h : a = b) : Ending.returned (.bool a) = .returned (.bool b) := by rw [h]
theorem ret_num {k : IntKind} {a b : Int} (h : a = b) : Ending.returned (.int k a) = .returned (.int k b) := by rw [h]
section
variable {α : Type} {d : α} {xs : List α} {P : α → Bool} {k : Nat}
theorem take_succ_getD (h : k < xs.length) : xs.take (k + 1) = xs.take k ++ [xs.getD k d] := by
 rw [List.take_succ_eq_append_getElem h, getD_lt xs h]
def AllTo (P : α → Bool) (xs : List α) (k : Nat) : Prop := (xs.take k).all P = true
theorem AllTo.zero (P : α → Bool) (xs : List α) : AllTo P xs 0 := by simp [AllTo]
theorem AllTo.step (h : AllTo P xs k) (hk : k < xs.length) (hp : P (xs.getD k d) = true) : AllTo P xs (k + 1) := by
 unfold AllTo at h ⊢
 rw [take_succ_getD (d := d) hk, List.all_append, h]
 simpa using hp
theorem AllTo.done (h : AllTo P xs k) (hk : xs.length ≤ k) : xs.all P = true := by
 unfold AllTo at h
 rwa [List.take_of_length_le hk] at h
theorem all_stop (hk : k < xs.length) (hp : P (xs.getD k d) = false) : xs.all P = false := by
 cases h : xs.all P with
 | false => rfl
 | true =>
   rw [List.all_eq_true] at h
   rw [h _ (mem_getD' hk)] at hp
   cases hp
where mem_getD' {k : Nat} (h : k < xs.length) : xs.getD k d ∈ xs := by rw [getD_lt xs h]; exact List.getElem_mem h
end
theorem IntsAt.cell {w : World} {lo B : Nat} {A : Option Addr} {xs : List Int} (h : IntsAt w lo B A xs) {k : Nat} (hk : k < xs.length) :
 ∃ b off x, A = some ⟨b, off, none⟩ ∧ w.cell? ⟨b, off + k, none⟩ = some (.int .i64 x) ∧ Hid (xs.getD k 0 = x) := by
 obtain ⟨b, off, rfl, _, _, hc⟩ := h (by omega)
 have := hc k hk 0 (by omega)
 rw [Nat.mul_one, Nat.add_zero] at this
 exact ⟨b, off, _, rfl, this, Lib.hid rfl⟩
def Pause (p : Prop) : Prop := p
theorem pause {p : Prop} (h : Pause p) : p := h
theorem resume {p : Prop} (h : p) : Pause p := h
end Go.Proofs.YtbffebcjimhapaaGreatDoor
