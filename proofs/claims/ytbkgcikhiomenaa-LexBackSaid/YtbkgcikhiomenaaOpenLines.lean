/-
  An argument of the type [][]string, opened.
-/
import Derived.Test.YtbkgcikhiomenaaLift
import Derived.Test.YtbkgcikhiomenaaLexLines
import Derived.Test.YtbkgcikhiomenaaRows0
import Derived.Test.YtbkgcikhiomenaaApp
import Derived.Lib.SmallJoins
namespace Go.Proofs.Ytbkgcikhiomenaa
set_option linter.unusedVariables false
set_option linter.unusedSimpArgs false
open Go.ChangeShapes Go.WideShapes Go.ChangeAt Go.RowKit Go.Joins Go.Deep
section
variable {H : Type} {enc : TypeId × Value → H} {w : World} {base : Nat} {spare : Nat → Bool} {held : Bool}
theorem cellsString : Try.prog.cellsOf 9 = 1 := by kernel_rfl
theorem cellsStrings : Try.prog.cellsOf 39 = 1 := by kernel_rfl
theorem open_strs {fuel : Nat} {cs : List Value} {x : DataW H × List MemPlace} (h : DataW.trod enc Try.prog w base spare held fuel 39 cs = some x) :
    ∃ (A : Option Addr) (c : Nat) (xs : List ByteArray), cs = [.slice A xs.length c] ∧ Hdr A xs.length c ∧ StrsAt w 0 w.heap.size A xs := by
  obtain ⟨A, n, c, V, rfl, h1, h2, h3, h4, h5⟩ := open_rows Try.underlying39 (by rw [cellsString]; omega) h
  rw [cellsString] at h4 h5
  have key : ∀ i, i < n → ∃ z : ByteArray, V i = [.string z] := fun i hi => by
    obtain ⟨_, m, y, hy⟩ := h5 i hi
    obtain ⟨z, hz, _⟩ := DataW.trod_string Try.underlying9 hy
    exact ⟨z, hz⟩
  obtain ⟨f, hf⟩ := choose_lt key
  have hlen : ((List.range n).map f).length = n := by simp
  refine ⟨A, c, (List.range n).map f, by rw [hlen], ⟨by rw [hlen]; exact h1, h2, by rw [hlen]; exact h3⟩, ?_⟩
  unfold StrsAt
  rw [hlen]
  refine h4.congr fun i hi j hj => ?_
  obtain rfl : j = 0 := by omega
  rw [hf i hi]
  simp [List.getD, hi]
theorem open_lns {fuel : Nat} {cs : List Value} {x : DataW H × List MemPlace} (h : DataW.trod enc Try.prog w base spare held fuel 22 cs = some x) :
    ∃ (A : Option Addr) (c : Nat) (rows : List LnR), cs = [.slice A rows.length c] ∧ LinesAt w A c rows := by
  obtain ⟨A, n, c, V, rfl, h1, h2, h3, h4, h5⟩ := open_rows Try.underlying22 (by rw [cellsStrings]; omega) h
  rw [cellsStrings] at h4 h5
  have key : ∀ i, i < n → ∃ r : LnR, V i = [r.cell] ∧ r.At w := fun i hi => by
    obtain ⟨_, m, y, hy⟩ := h5 i hi
    obtain ⟨A4, c4, xs, e4, hh, hv⟩ := open_strs hy
    exact ⟨⟨A4, c4, xs⟩, e4, hh, hv⟩
  obtain ⟨f, hf⟩ := choose_lt key
  have hlen : ((List.range n).map f).length = n := by simp
  refine ⟨A, c, (List.range n).map f, by rw [hlen], ⟨by rw [hlen]; exact h1, h2, by rw [hlen]; exact h3⟩, ?_, ?_⟩
  · rw [hlen]
    refine h4.congr fun i hi j hj => ?_
    obtain rfl : j = 0 := by omega
    rw [(hf i hi).1]
    simp [List.getD, hi]
  · intro r hr
    obtain ⟨i, hi, rfl⟩ := List.mem_map.1 hr
    exact (hf i (List.mem_range.1 hi)).2
theorem open_lines_arg {b0 : Nat} {r : Reach} {v : Value} {d : DataW H} {p : List MemPlace}
    (hv : Value.okWide Try.prog w r b0 22 v) (h : DataW.Trod enc Try.prog w base spare held 22 v d p) : ∃ A c rows, v = .slice A rows.length c ∧ LinesAt w A c rows := by
  obtain ⟨a, len, cap, rfl⟩ := okWide_slice Try.underlying22 hv
  obtain ⟨fuel, hf⟩ := h
  obtain ⟨A, c, rows, e, hm⟩ := open_lns hf
  have e1 : ([Value.slice a len cap] : List Value) = [.slice A rows.length c] := e
  injection e1 with e1 _
  exact ⟨A, c, rows, e1, hm⟩
end
end Go.Proofs.Ytbkgcikhiomenaa
