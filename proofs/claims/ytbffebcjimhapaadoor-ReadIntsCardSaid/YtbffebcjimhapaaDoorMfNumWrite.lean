/-
  The walk of num.Write (strconv.FormatInt, base 10): the number's text. The library's table is a fact of the world, carried.
-/
import Derived.Test.YtbffebcjimhapaaDoorMg23
import Derived.Test.YtbffebcjimhapaaDoorShelf
namespace Go.Proofs.YtbffebcjimhapaaDoor
set_option linter.unusedVariables false
set_option linter.unusedSimpArgs false
open Go.ChangeShapes Go.WideShapes Go.ChangeAt Go.RowKit Go.Lib

/-- The table that the library's writer reads. -/
def Tab (w : World) : Prop := Lib.TabIs Tryd.prog w "internal/strconv.uint64pow10" .u64 Lib.pow10Tab
theorem gTab : Tryd.prog.globalNamed "internal/strconv.uint64pow10" = some 1 := by kernel_rfl
theorem Tab.of_same {w w' : World} (h : Tab w) (e : w'.heap[1]? = w.heap[1]?) : Tab w' := by
  unfold Tab Lib.TabIs World.var? at h ⊢
  rw [gTab] at h ⊢
  simp only [Option.bind_some, e] at h ⊢
  exact h
theorem Tab.lt {w : World} (h : Tab w) : 1 < w.heap.size := by
  by_cases hc : 1 < w.heap.size
  · exact hc
  · unfold Tab Lib.TabIs World.var? at h
    rw [gTab] at h
    simp [Array.getElem?_eq_none (Nat.le_of_not_lt hc)] at h
theorem Tab.beneath {w w' : World} (h : Tab w) (hb : Below w.heap.size w w') : Tab w' := h.of_same (hb.block 1 h.lt)

theorem below_grow (w : World) (k : Nat) (os : Array Obj) : Below w.heap.size w (Go.Sort.grow (w.drewN k) os) :=
  ⟨rfl, rfl, rfl, by show w.heap.size ≤ (w.heap ++ os).size; rw [Array.size_append]; omega, fun j hj => by show (w.heap ++ os)[j]? = _; rw [Array.getElem?_append_left hj]⟩

theorem write_is (n : Int) (hn : In64n n) (w : World) (ht : Tab w) :
    Calls Tryd.prog 14 #[.int .i64 n] w fun e w' => e = .returned (.string ⟨(itoa n).toArray⟩) ∧ Below w.heap.size w w' := by
  obtain ⟨h0, h1⟩ := hn
  go_enter Tryd.func14, Tryd.ntmps14
  go_wp2_with fail
  refine (Tryd.strconv_FormatInt_10 n (by omega) (by omega) _ ht).mono ?_
  rintro e w1 ⟨rfl, k, os, rfl⟩
  go_wp2_with fail
  go_ret
  exact ⟨rfl, below_grow _ _ _⟩
theorem in64n_of {a : Int} (h : (Lit.int .i64 a).wf = true) : In64n a := by
  simp only [Lit.wf, Bool.and_eq_true, decide_eq_true_eq] at h
  have h1 : IntKind.i64.min = -9223372036854775808 := by decide
  have h2 : IntKind.i64.max = 9223372036854775807 := by decide
  unfold In64n
  omega
end Go.Proofs.YtbffebcjimhapaaDoor
