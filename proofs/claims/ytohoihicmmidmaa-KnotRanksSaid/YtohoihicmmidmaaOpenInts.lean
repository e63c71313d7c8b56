/-
  Slices of whole numbers as they come in, in one form for nil and any other.
-/
import Derived.Test.YtohoihicmmidmaaProg
import Derived.Test.YtohoihicmmidmaaRows0
import Derived.Test.YtohoihicmmidmaaApp
namespace Go.Proofs.Ytohoihicmmidmaa
set_option linter.unusedVariables false
set_option linter.unusedSimpArgs false
open Go.ChangeShapes Go.WideShapes Go.Deep Go.RowKit
section
variable {H : Type} {enc : TypeId × Value → H} {w : World} {base : Nat} {spare : Nat → Bool} {held : Bool}
theorem cellsInt : Try.prog.cellsOf 3 = 1 := by kernel_rfl
/-- A slice's header. -/
structure Hdr (A : Option Addr) (n c : Nat) : Prop where
  fit : n ≤ c
  cap : c ≤ maxLen
  nil : A = none → n = 0 ∧ c = 0
theorem open_nums {fuel : Nat} {cs : List Value} {x : DataW H × List MemPlace} (h : DataW.trod enc Try.prog w base spare held fuel 25 cs = some x) :
    ∃ (A : Option Addr) (c : Nat) (xs : List Int), cs = [.slice A xs.length c] ∧ Hdr A xs.length c ∧ IntsAt w 0 w.heap.size A xs ∧ ∀ x ∈ xs, (Lit.int .i64 x).wf = true := by
  obtain ⟨A, n, c, V, rfl, h1, h2, h3, h4, h5⟩ := open_rows Try.underlying25 (by rw [cellsInt]; omega) h
  rw [cellsInt] at h4 h5
  have key : ∀ i, i < n → ∃ z : Int, V i = [.int .i64 z] ∧ (Lit.int .i64 z).wf = true := fun i hi => by
    obtain ⟨_, m, y, hy⟩ := h5 i hi
    obtain ⟨z, hz, _, hw⟩ := DataW.trod_int Try.underlying3 hy
    exact ⟨z, hz, hw⟩
  obtain ⟨f, hf⟩ := choose_lt key
  have hlen : ((List.range n).map f).length = n := by simp
  refine ⟨A, c, (List.range n).map f, by rw [hlen], ⟨by rw [hlen]; exact h1, h2, by rw [hlen]; exact h3⟩, ?_, ?_⟩
  · unfold IntsAt
    rw [hlen]
    refine h4.congr fun i hi j hj => ?_
    obtain rfl : j = 0 := by omega
    rw [(hf i hi).1]
    simp [List.getD, hi]
  · intro x hx
    obtain ⟨i, hi, rfl⟩ := List.mem_map.1 hx
    exact (hf i (List.mem_range.1 hi)).2
end
end Go.Proofs.Ytohoihicmmidmaa
