/-
  Slices of structs as they come in: every element's cells, each field's own reading.
-/
import Derived.Test.YtbffebcjimhapaaDoorMg1
import Derived.Deep.Slices
import Derived.Deep.Fields
namespace Go.Proofs.YtbffebcjimhapaaDoor
set_option linter.unusedVariables false
set_option linter.unusedSimpArgs false
open Go.ChangeShapes Go.WideShapes Go.Deep Go.RowKit

section
variable {H : Type} {enc : TypeId × Value → H} {P : Program} {w : World} {base : Nat} {spare : Nat → Bool} {held : Bool}
/-- A slice that came in: its elements' cells; each element's cells read as its type's. -/
theorem open_rows {t e : TypeId} {fuel : Nat} {cs : List Value} {x : DataW H × List MemPlace} (ht : P.underlying t = some (.slice e)) (hc : 0 < P.cellsOf e) (h : DataW.trod enc P w base spare held fuel t cs = some x) :
    ∃ (A : Option Addr) (n c : Nat) (V : Nat → List Value), cs = [.slice A n c] ∧ n ≤ c ∧ c ≤ maxLen ∧ (A = none → n = 0 ∧ c = 0) ∧
      CellsAt w 0 w.heap.size A (P.cellsOf e) n (fun i j => (V i).getD j undef) ∧ ∀ i, i < n → (V i).length = P.cellsOf e ∧ ∃ m y, DataW.trod enc P w base spare held m e (V i) = some y := by
  rcases open_slice ht h with ⟨rfl, _⟩ | ⟨a, len, cap, m, n, D, Pl, rfl, hb, hl, hm, hmm, _, hx⟩
  · exact ⟨none, 0, 0, fun _ => [], rfl, Nat.le_refl _, by unfold maxLen; omega, fun _ => ⟨rfl, rfl⟩, CellsAt.empty, fun i hi => by omega⟩
  · have hlm : len ≤ m := by rw [hmm]; split <;> omega
    obtain ⟨V, hV⟩ := choose_lt (α := List Value) (p := fun i cs' => w.cells? base (a.add (i * P.cellsOf e)) (P.cellsOf e) = some cs' ∧ DataW.trod enc P w base spare held n e cs' = some (D i, Pl i)) hx
    refine ⟨some a, len, cap, V, rfl, hl, hm, (fun h => by cases h), (fun hn => ?_), fun i hi => ?_⟩
    · obtain ⟨b, off, spot⟩ := a
      obtain ⟨h0, _⟩ := hV 0 (by omega)
      obtain ⟨hb0, hlen0, hcell0⟩ := World.cells?_some h0
      have hspot : spot = none := by
        have g := hcell0 0 hc
        rw [List.getElem?_eq_getElem (by omega)] at g
        simpa [Addr.add] using World.cell?_spot g
      subst hspot
      have hcell : ∀ i, i < len → ∀ j, j < P.cellsOf e → w.cell? ⟨b, off + i * P.cellsOf e + j, none⟩ = some ((V i).getD j undef) := by
        intro i hi j hj
        obtain ⟨h1, _⟩ := hV i (by omega)
        obtain ⟨_, hlen1, hcell1⟩ := World.cells?_some h1
        have g := hcell1 j hj
        rw [add_plain, add_plain] at g
        rw [g, List.getD_eq_getElem?_getD, List.getElem?_eq_getElem (by omega)]
        rfl
      exact ⟨b, off, rfl, Nat.zero_le _, World.block_lt_of_cell? w _ (hcell 0 hn 0 hc), hcell⟩
    · obtain ⟨h1, h2⟩ := hV i (by omega)
      obtain ⟨_, hlen1, _⟩ := World.cells?_some h1
      exact ⟨hlen1, n, _, h2⟩
/-- The fields of an element, where each is one cell. -/
theorem open_one {t : TypeId} {fs : Array Field} {fuel : Nat} {cs : List Value} {x : DataW H × List MemPlace} (hs : P.underlying t = some (.struct fs)) (hone : ∀ (i : Nat) (f : Field), fs[i]? = some f → f.offset = i ∧ P.cellsOf f.type = 1)
    (hC : P.cellsOf t = fs.size) (h : DataW.trod enc P w base spare held fuel t cs = some x) :
    ∃ n, cs.length = fs.size ∧ ∀ (i : Nat) (f : Field), fs[i]? = some f → ∃ y, DataW.trod enc P w base spare held n f.type [cs.getD i undef] = some y := by
  obtain ⟨xs, n, _, _, hlen, hxl, hf⟩ := DataW.trod_struct hs h
  refine ⟨n, by omega, fun i f hi => ?_⟩
  have hlt : i < fs.size := (Array.getElem?_eq_some_iff.1 hi).1
  obtain ⟨ho, hc1⟩ := hone i f hi
  have g := hf i f hi
  rw [ho, hc1, take1_drop cs i undef (by omega), List.getElem?_eq_getElem (by omega)] at g
  exact ⟨_, g⟩
end
end Go.Proofs.YtbffebcjimhapaaDoor
