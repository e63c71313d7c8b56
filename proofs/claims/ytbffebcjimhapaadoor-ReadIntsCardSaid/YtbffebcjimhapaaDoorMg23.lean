/-
  What a card of this seat lays, and a world that holds it.
-/
import Derived.Test.YtbffebcjimhapaaDoorMg22
import Derived.Test.YtbffebcjimhapaaDoorCards
import Derived.Test.YtbffebcjimhapaaDoorTie
import Derived.Deep.DeepHandedRow
import Derived.Lib.LaidTab
import Derived.Stop.LaidErr
namespace Go.Proofs.YtbffebcjimhapaaDoor
set_option linter.unusedVariables false
set_option linter.unusedSimpArgs false
open Go.ChangeShapes Go.WideShapes Go.ChangeAt Go.RowKit

theorem gHas : Tryd.prog.globalNamed "fescue/shape.table" = some 0 := by kernel_rfl
theorem gHasType : (Tryd.prog.globals[0]?).map (·.type) = some 131 := by kernel_rfl
theorem cellsHasTab : Tryd.prog.cellsOf 131 = 138 := by kernel_rfl
theorem cellsHas : Tryd.prog.cellsOf 111 = 6 := by kernel_rfl
theorem cellsBool : Tryd.prog.cellsOf 4 = 1 := by kernel_rfl
section
variable {H : Type} {enc : TypeId × Value → H} {w : World} {base : Nat} {sp : Nat → Bool} {held : Bool}
theorem has_cells {fuel : Nat} {cs : List Value} {p : List MemPlace} {b0 b1 b2 b3 b4 b5 : Bool}
    (h : DataW.trod enc Tryd.prog w base sp held fuel 111 cs = some (.agg [.lit (.bool b0), .lit (.bool b1), .lit (.bool b2), .lit (.bool b3), .lit (.bool b4), .lit (.bool b5)], p)) :
    cs[0]? = some (.bool b0) ∧ cs[1]? = some (.bool b1) ∧ cs[2]? = some (.bool b2) ∧ cs[3]? = some (.bool b3) ∧ cs[4]? = some (.bool b4) ∧ cs[5]? = some (.bool b5) := by
  cases fuel with
  | zero => simp [DataW.trod] at h
  | succ fuel =>
    simp only [DataW.trod, Tryd.underlying111, cellsHas] at h
    split at h
    · rename_i hl
      obtain ⟨xs, hm, hx⟩ := Option.map_eq_some_iff.1 h
      have hx1 : xs.map (·.1) = [.lit (.bool b0), .lit (.bool b1), .lit (.bool b2), .lit (.bool b3), .lit (.bool b4), .lit (.bool b5)] := by
        have := congrArg Prod.fst hx
        simpa using this
      have c0 : cs[0]? = some (.bool b0) := by
        obtain ⟨y, hy, hf⟩ := Lib.mapM_at hm 0 _ rfl
        obtain ⟨b', hc, hy'⟩ := DataW.trod_bool Tryd.underlying4 hf
        have e : b' = b0 := by
          have := congrArg (fun l => l[0]?) hx1
          simpa [hy, hy'] using this
        rw [cellsBool] at hc
        have := congrArg (fun l => l[0]?) hc
        simpa [List.getElem?_take, List.getElem?_drop, e] using this
      have c1 : cs[1]? = some (.bool b1) := by
        obtain ⟨y, hy, hf⟩ := Lib.mapM_at hm 1 _ rfl
        obtain ⟨b', hc, hy'⟩ := DataW.trod_bool Tryd.underlying4 hf
        have e : b' = b1 := by
          have := congrArg (fun l => l[1]?) hx1
          simpa [hy, hy'] using this
        rw [cellsBool] at hc
        have := congrArg (fun l => l[0]?) hc
        simpa [List.getElem?_take, List.getElem?_drop, e] using this
      have c2 : cs[2]? = some (.bool b2) := by
        obtain ⟨y, hy, hf⟩ := Lib.mapM_at hm 2 _ rfl
        obtain ⟨b', hc, hy'⟩ := DataW.trod_bool Tryd.underlying4 hf
        have e : b' = b2 := by
          have := congrArg (fun l => l[2]?) hx1
          simpa [hy, hy'] using this
        rw [cellsBool] at hc
        have := congrArg (fun l => l[0]?) hc
        simpa [List.getElem?_take, List.getElem?_drop, e] using this
      have c3 : cs[3]? = some (.bool b3) := by
        obtain ⟨y, hy, hf⟩ := Lib.mapM_at hm 3 _ rfl
        obtain ⟨b', hc, hy'⟩ := DataW.trod_bool Tryd.underlying4 hf
        have e : b' = b3 := by
          have := congrArg (fun l => l[3]?) hx1
          simpa [hy, hy'] using this
        rw [cellsBool] at hc
        have := congrArg (fun l => l[0]?) hc
        simpa [List.getElem?_take, List.getElem?_drop, e] using this
      have c4 : cs[4]? = some (.bool b4) := by
        obtain ⟨y, hy, hf⟩ := Lib.mapM_at hm 4 _ rfl
        obtain ⟨b', hc, hy'⟩ := DataW.trod_bool Tryd.underlying4 hf
        have e : b' = b4 := by
          have := congrArg (fun l => l[4]?) hx1
          simpa [hy, hy'] using this
        rw [cellsBool] at hc
        have := congrArg (fun l => l[0]?) hc
        simpa [List.getElem?_take, List.getElem?_drop, e] using this
      have c5 : cs[5]? = some (.bool b5) := by
        obtain ⟨y, hy, hf⟩ := Lib.mapM_at hm 5 _ rfl
        obtain ⟨b', hc, hy'⟩ := DataW.trod_bool Tryd.underlying4 hf
        have e : b' = b5 := by
          have := congrArg (fun l => l[5]?) hx1
          simpa [hy, hy'] using this
        rw [cellsBool] at hc
        have := congrArg (fun l => l[0]?) hc
        simpa [List.getElem?_take, List.getElem?_drop, e] using this
      exact ⟨c0, c1, c2, c3, c4, c5⟩
    · cases h
/-- The table, as it is listed. -/
def tabD : DataW H := .agg ((List.range 23).map fun i => .agg [.lit (.bool (hasT i 0)), .lit (.bool (hasT i 1)), .lit (.bool (hasT i 2)), .lit (.bool (hasT i 3)), .lit (.bool (hasT i 4)), .lit (.bool (hasT i 5))])
theorem tab_cells {fuel : Nat} {cs : List Value} {p : List MemPlace} (h : DataW.trod enc Tryd.prog w base sp held fuel 131 cs = some (tabD, p)) :
    ∀ i, i < 23 → ∀ j, j < 6 → cs[i * 6 + j]? = some (.bool (hasT i j)) := by
  intro i hi
  cases fuel with
  | zero => simp [DataW.trod] at h
  | succ fuel =>
    simp only [DataW.trod, Tryd.underlying131, cellsHasTab, cellsHas] at h
    split at h
    · rename_i hl
      obtain ⟨xs, hm, hx⟩ := Option.map_eq_some_iff.1 h
      have hx1 : xs.map (·.1) = (List.range 23).map fun i => (.agg [.lit (.bool (hasT i 0)), .lit (.bool (hasT i 1)), .lit (.bool (hasT i 2)), .lit (.bool (hasT i 3)), .lit (.bool (hasT i 4)), .lit (.bool (hasT i 5))] : DataW H) := by
        have := congrArg Prod.fst hx
        simpa [tabD] using this
      obtain ⟨⟨y1, y2⟩, hy, hf⟩ := Lib.mapM_at hm i i (by simp [hi])
      have e : y1 = .agg [.lit (.bool (hasT i 0)), .lit (.bool (hasT i 1)), .lit (.bool (hasT i 2)), .lit (.bool (hasT i 3)), .lit (.bool (hasT i 4)), .lit (.bool (hasT i 5))] := by
        have := congrArg (fun l => l[i]?) hx1
        simpa [hy, hi] using this
      subst e
      obtain ⟨c0, c1, c2, c3, c4, c5⟩ := has_cells hf
      have key : ∀ j b, j < 6 → ((cs.drop (i * 6)).take 6)[j]? = some b → cs[i * 6 + j]? = some b := fun j b hj hb => by
        rw [List.getElem?_take, if_pos hj, List.getElem?_drop] at hb
        exact hb
      intro j hj
      match j, hj with
      | 0, _ => exact key 0 _ (by omega) c0
      | 1, _ => exact key 1 _ (by omega) c1
      | 2, _ => exact key 2 _ (by omega) c2
      | 3, _ => exact key 3 _ (by omega) c3
      | 4, _ => exact key 4 _ (by omega) c4
      | 5, _ => exact key 5 _ (by omega) c5
    · cases h
end
theorem laid_is : (Rows.laid_fescue_shape_table : DataW Unit) = tabD := rfl
/-- What the list gives: the table. -/
theorem tab_of_laid {W : World} (h : laidMet Tryd.prog Rows.readShapesRow.laid W) : TabW W := by
  obtain ⟨ps, ⟨g', t', cs, fuel, p, q, hg', ht', hvar, hd, _, _⟩, _⟩ := h
  obtain rfl := Option.some.inj (gHas.symm.trans hg')
  obtain rfl := Option.some.inj (gHasType.symm.trans ht')
  rw [laid_is] at hd
  intro i hi j hj
  have h2 := World.var?_cell gHas hvar (i * 6 + j)
  rw [h2]
  have h3 := tab_cells hd i hi j hj
  simpa using h3
/- A world for the witness: the settled one, its tables laid. -/
def layAs (cs : Array Value) : Obj → Obj
  | .cells _ t frozen => .cells cs t frozen
  | o => o
def shapeTabA : Array Value := #[.bool false, .bool false, .bool false, .bool false, .bool false, .bool false, .bool false, .bool false, .bool true, .bool false, .bool false, .bool true, .bool false, .bool false, .bool false, .bool false, .bool false, .bool true, .bool false, .bool false, .bool true, .bool false, .bool false, .bool true, .bool true, .bool true, .bool false, .bool false, .bool false, .bool true, .bool true, .bool true, .bool false, .bool false, .bool false, .bool true, .bool true, .bool true, .bool false, .bool false, .bool false, .bool true, .bool true, .bool true, .bool false, .bool false, .bool false, .bool true, .bool true, .bool true, .bool false, .bool false, .bool false, .bool true, .bool true, .bool true, .bool false, .bool false, .bool false, .bool true, .bool true, .bool true, .bool false, .bool false, .bool false, .bool true, .bool false, .bool false, .bool false, .bool false, .bool false, .bool true, .bool false, .bool false, .bool false, .bool false, .bool false, .bool true, .bool true, .bool false, .bool false, .bool false, .bool false, .bool false, .bool true, .bool false, .bool true, .bool false, .bool false, .bool true, .bool true, .bool true, .bool false, .bool false, .bool false, .bool true, .bool true, .bool false, .bool false, .bool false, .bool false, .bool true, .bool true, .bool true, .bool false, .bool false, .bool false, .bool false, .bool false, .bool false, .bool true, .bool true, .bool false, .bool true, .bool true, .bool false, .bool false, .bool true, .bool false, .bool true, .bool false, .bool false, .bool false, .bool false, .bool false, .bool true, .bool true, .bool false, .bool false, .bool false, .bool false, .bool false, .bool false, .bool false, .bool false, .bool true, .bool true, .bool true]
noncomputable def laidWorld (os : Os) : World :=
  { World.holding Tryd.prog os ⟨#[], #[], []⟩ with heap := ((((World.holding Tryd.prog os ⟨#[], #[], []⟩).heap.modify 0 (layAs shapeTabA)).modify 1 (layAs #[.int .u64 1, .int .u64 10, .int .u64 100, .int .u64 1000, .int .u64 10000, .int .u64 100000, .int .u64 1000000, .int .u64 10000000, .int .u64 100000000, .int .u64 1000000000, .int .u64 10000000000, .int .u64 100000000000, .int .u64 1000000000000, .int .u64 10000000000000, .int .u64 100000000000000, .int .u64 1000000000000000, .int .u64 10000000000000000, .int .u64 100000000000000000, .int .u64 1000000000000000000, .int .u64 10000000000000000000])).modify 2 (layAs #[.int .u8 0, .int .u8 1, .int .u8 28, .int .u8 2, .int .u8 29, .int .u8 14, .int .u8 24, .int .u8 3, .int .u8 30, .int .u8 22, .int .u8 20, .int .u8 15, .int .u8 25, .int .u8 17, .int .u8 4, .int .u8 8, .int .u8 31, .int .u8 27, .int .u8 13, .int .u8 23, .int .u8 21, .int .u8 19, .int .u8 16, .int .u8 7, .int .u8 26, .int .u8 12, .int .u8 18, .int .u8 6, .int .u8 11, .int .u8 5, .int .u8 10, .int .u8 9])).modify 3 (layAs #[.int .u8 0, .int .u8 1, .int .u8 56, .int .u8 2, .int .u8 57, .int .u8 49, .int .u8 28, .int .u8 3, .int .u8 61, .int .u8 58, .int .u8 42, .int .u8 50, .int .u8 38, .int .u8 29, .int .u8 17, .int .u8 4, .int .u8 62, .int .u8 47, .int .u8 59, .int .u8 36, .int .u8 45, .int .u8 43, .int .u8 51, .int .u8 22, .int .u8 53, .int .u8 39, .int .u8 33, .int .u8 30, .int .u8 24, .int .u8 18, .int .u8 12, .int .u8 5, .int .u8 63, .int .u8 55, .int .u8 48, .int .u8 27, .int .u8 60, .int .u8 41, .int .u8 37, .int .u8 16, .int .u8 46, .int .u8 35, .int .u8 44, .int .u8 21, .int .u8 52, .int .u8 32, .int .u8 23, .int .u8 11, .int .u8 54, .int .u8 26, .int .u8 40, .int .u8 15, .int .u8 34, .int .u8 20, .int .u8 31, .int .u8 10, .int .u8 25, .int .u8 14, .int .u8 19, .int .u8 9, .int .u8 13, .int .u8 8, .int .u8 7, .int .u8 6]) }
theorem laid_met (os : Os) (args : Array Value) : laidMet Tryd.prog Rows.readShapesRow.laid ((laidWorld os).forCall (fun _ _ => 0) ⟨#[], args, []⟩).memory :=
  laidMet_of_run' 8 (by kernel_rfl) (by kernel_rfl)
theorem laid_met4 (os : Os) (args : Array Value) : laidMet Tryd.prog Rows.readIntsRow.laid ((laidWorld os).forCall (fun _ _ => 0) ⟨#[], args, []⟩).memory :=
  laidMet_of_run' 8 (by kernel_rfl) (by kernel_rfl)
end Go.Proofs.YtbffebcjimhapaaDoor
