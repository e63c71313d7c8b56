/-
  An argument of the type []uint8, opened.
-/
import Derived.Test.YthddacnnhmcoaaaOpenMem
import Derived.Test.YthddacnnhmcoaaaMmNew1
namespace Go.Proofs.Ythddacnnhmcoaaa
set_option linter.unusedVariables false
set_option linter.unusedSimpArgs false
open Go.ChangeShapes Go.WideShapes Go.Deep Go.RowKit
theorem cellsU8 : Try.prog.cellsOf 5 = 1 := by kernel_rfl
section
variable {H : Type} {enc : TypeId × Value → H} {w : World} {base : Nat} {spare : Nat → Bool} {held : Bool}
theorem open_kinds {fuel : Nat} {cs : List Value} {x : DataW H × List MemPlace} (h : DataW.trod enc Try.prog w base spare held fuel 25 cs = some x) :
    ∃ (A : Option Addr) (c : Nat) (l : List Int), cs = [.slice A l.length c] ∧ KindsAt w A c l := by
  obtain ⟨A, n, c, V, rfl, h1, h2, h3, h4, h5⟩ := open_rows Try.underlying25 (by rw [cellsU8]; omega) h
  rw [cellsU8] at h4 h5
  have key : ∀ i, i < n → ∃ k : Int, ∀ j, j < 1 → (V i).getD j undef = .int .u8 k := fun i hi => by
    obtain ⟨_, m, y, hy⟩ := h5 i hi
    obtain ⟨z0, e0, _, w0⟩ := DataW.trod_int Try.underlying5 hy
    refine ⟨z0, fun j hj => ?_⟩
    match j, hj with
    | 0, _ => rw [e0]; rfl
  obtain ⟨f, hf⟩ := choose_lt key
  have hlen : ((List.range n).map f).length = n := by simp
  refine ⟨A, c, (List.range n).map f, by rw [hlen], ⟨by rw [hlen]; exact ⟨h1, h2, h3⟩, ?_⟩⟩
  rw [hlen]
  refine h4.congr fun i hi j hj => ?_
  rw [hf i hi j hj]
  simp [List.getD, hi]
theorem open_kinds_arg {b0 : Nat} {r : Reach} {v : Value} {d : DataW H} {p : List MemPlace}
    (hv : Value.okWide Try.prog w r b0 25 v) (h : DataW.Trod enc Try.prog w base spare held 25 v d p) : ∃ A c l, v = .slice A (List.length l) c ∧ KindsAt w A c l := by
  obtain ⟨a, len, cap, rfl⟩ := okWide_slice Try.underlying25 hv
  obtain ⟨fuel, hf⟩ := h
  obtain ⟨A, c, l, e, hm⟩ := open_kinds hf
  have e1 : ([Value.slice a len cap] : List Value) = [.slice A l.length c] := e
  injection e1 with e1 _
  exact ⟨A, c, l, e1, hm⟩
end
end Go.Proofs.Ythddacnnhmcoaaa
