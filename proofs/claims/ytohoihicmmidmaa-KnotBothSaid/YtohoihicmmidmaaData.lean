/-
  Words for data in memory: a slice whose elements are so many cells; values, blocks of memory as lists. No program in sight but for the numbers of types.
-/
import Derived.Test.YtohoihicmmidmaaMem
namespace Go.Proofs.Ytohoihicmmidmaa
set_option linter.unusedVariables false
set_option linter.unusedSimpArgs false
open Go.RowKit

/-- A slice at A of n elements of 'size' cells each, in a block from lo on and below B: cell j of element i is f i j. -/
def CellsAt (w : World) (lo B : Nat) (A : Option Addr) (size n : Nat) (f : Nat → Nat → Value) : Prop :=
  0 < n → ∃ b off, A = some ⟨b, off, none⟩ ∧ lo ≤ b ∧ b < B ∧ ∀ i, i < n → ∀ j, j < size → w.cell? ⟨b, off + i * size + j, none⟩ = some (f i j)

section
variable {w w' : World} {lo lo' B B' size n : Nat} {A : Option Addr} {f g : Nat → Nat → Value}
theorem CellsAt.keep (h : CellsAt w lo B A size n f) (hb : Below B w w') : CellsAt w' lo B A size n f := fun hn => by
  obtain ⟨b, off, rfl, h1, h2, hc⟩ := h hn
  exact ⟨b, off, rfl, h1, h2, fun i hi j hj => (hb.cell (p := ⟨b, off + i * size + j, none⟩) h2).trans (hc i hi j hj)⟩
theorem CellsAt.more (h : CellsAt w lo B A size n f) (h1 : lo' ≤ lo) (h2 : B ≤ B') : CellsAt w lo' B' A size n f := fun hn => by
  obtain ⟨b, off, rfl, g1, g2, hc⟩ := h hn
  exact ⟨b, off, rfl, by omega, by omega, hc⟩
theorem CellsAt.empty : CellsAt w lo B A size 0 f := fun h => absurd h (by omega)
theorem CellsAt.congr (h : CellsAt w lo B A size n f) (e : ∀ i, i < n → ∀ j, j < size → f i j = g i j) : CellsAt w lo B A size n g := fun hn => by
  obtain ⟨b, off, rfl, g1, g2, hc⟩ := h hn
  exact ⟨b, off, rfl, g1, g2, fun i hi j hj => by rw [hc i hi j hj, e i hi j hj]⟩
end
end Go.Proofs.Ytohoihicmmidmaa
