/-
  The program's table of kinds.
-/
import Derived.Test.YtbffebcjimhapaaGreatDoorMg14
import Derived.Laws.Rows
import Derived.Lib.OthersKept
namespace Go.Proofs.YtbffebcjimhapaaGreatDoor
set_option linter.unusedVariables false
set_option linter.unusedSimpArgs false
open Go.ChangeShapes Go.WideShapes Go.ChangeAt Go.RowKit
def kindsA : Array Value := ((List.range 64).map fun i => Value.int .i64 (kindN i)).toArray
def blanks : ByteArray := ⟨#[32, 9, 13]⟩
def tabN (k i : Nat) : Int := if i = 32 ∧ 1 ≤ k ∨ i = 9 ∧ 2 ≤ k ∨ i = 13 ∧ 3 ≤ k then 1 else 0
def tabA (k : Nat) : Array Value := ((List.range 64).map fun i => Value.int .i64 (tabN k i)).toArray
def Kn (w0 w : World) (k : Nat) : Prop := w.heap[w0.heap.size]? = some (.cells (tabA k) 101 (0, 0)) ∧ w.heap[w0.heap.size + 1]? = some (.stringIter blanks k) ∧ Below w0.heap.size w0 w
theorem Kn.next {w0 w w2 : World} {k : Nat} (h : Kn w0 w k) (e : w2 = w.iterAt (w0.heap.size + 1) blanks (k + 1)) : w2.heap[w0.heap.size]? = some (.cells (tabA k) 101 (0, 0)) ∧ w2.heap[w0.heap.size + 1]? = some (.stringIter blanks (k + 1)) ∧ Below w0.heap.size w0 w2 := by
 subst e
 exact ⟨(Lib.iterAt_other _ _ _ _ _ (by omega)).trans h.1, Lib.iterAt_heap _ _ _ _ _ h.2.1, Lib.below_iterAt h.2.2 (by omega) _ _⟩
theorem Kn.set {w0 w2 : World} {k i : Nat} (h : w2.heap[w0.heap.size]? = some (.cells (tabA k) 101 (0, 0)) ∧ w2.heap[w0.heap.size + 1]? = some (.stringIter blanks (k + 1)) ∧ Below w0.heap.size w0 w2) (hs : (tabA k).setIfInBounds i (.int .i64 1) = tabA (k + 1)) : Kn w0 (w2.setCell ⟨w0.heap.size, i, none⟩ (.int .i64 1)) (k + 1) :=
 ⟨(heap_setCell_same _ _ _ _ _ _ h.1).trans (by rw [hs]), (heap_setCell_other _ _ _ _ (by show w0.heap.size + 1 ≠ w0.heap.size; omega)).trans h.2.1, h.2.2.setCell (Nat.le_refl _) _⟩
theorem belowSetRow {B : Nat} {a w : World} (h : Below B a w) {g : Nat} (hg : B ≤ g) {cs : Array Value} : Below B a (w.setRow g cs) :=
 h.trans ⟨rfl, rfl, rfl, by rw [size_setRow]; exact Nat.le_refl _, fun i hi => setRow_other w g i cs (by omega)⟩
theorem tab_at (k i : Nat) (h : i < 64) : (tabA k)[i]? = some (.int .i64 (tabN k i)) := by
 unfold tabA; rw [List.getElem?_toArray, List.getElem?_map, List.getElem?_range h]; rfl
theorem tab_lastK : ((tabA 3).setIfInBounds 10 (.int .i64 2)).setIfInBounds 35 (.int .i64 3) = kindsA := by kernel_rfl
theorem tab_all : kindsA.all (·.oneCell') = true := by kernel_rfl
theorem kinds_size : kindsA.size = 64 := by kernel_rfl
theorem Kn.cell {w0 w2 : World} {k : Nat} {X : Prop} (h : w2.heap[w0.heap.size]? = some (.cells (tabA k) 101 (0, 0)) ∧ X) (i : Nat) (hi : i < 64) : w2.cell? ⟨w0.heap.size, i, none⟩ = some (.int .i64 (tabN k i)) ∧ w2.frozen? ⟨w0.heap.size, i, none⟩ = false :=
 ⟨(cell_of_row _ _ _ _ _ _ h.1).trans (tab_at k i hi), frozen_of_row _ _ _ _ _ h.1⟩
theorem tab_zero : tabA 0 = (List.replicate 64 (Value.int .i64 0)).toArray := by kernel_rfl
theorem tabInfo : (Tryz.prog.info? 101).map (·.size) = some 64 := by kernel_rfl
set_option maxRecDepth 100000 in
theorem kinds_any (w : World) : Calls Tryz.prog 54 #[] w fun e w' => e = .returned (.agg kindsA) ∧ Below w.heap.size w w' := by
 go_enter Tryz.func54, Tryz.ntmps54
 go_wp2_with fail
 go_loopw [2] (fun r w' => ∃ k : Nat, k ≤ 3 ∧ Hid (Kn w w' k)) (fun _ w' => 3 - w'.iterPos (w.heap.size + 1))
 case atStart => exact ⟨0, Nat.zero_le _, Lib.hid ⟨(heap_alloc2_old _ _ _).trans (by rw [tab_zero]; kernel_rfl), (heap_alloc2_new _ _ _), ((Below.refl _ _).alloc (Nat.le_refl _) _).alloc (by simp) _⟩⟩
 case round =>
  obtain ⟨k, hk, H⟩ := hrel
  rename_i wr
  obtain rfl | rfl | rfl | rfl : k = 0 ∨ k = 1 ∨ k = 2 ∨ k = 3 := by omega
  · have hnx : ∀ ty, (Instr.next (.pointer (some ⟨w.heap.size + 1, 0, none⟩)) true ty).run Tryz.prog wr = _ := fun ty => Lib.run_next_ascii_at wr _ blanks 0 ty H.out.2.1 (by decide) (by decide)
    have HN := Lib.hid (Kn.next H.out rfl)
    have hp : wr.iterPos (w.heap.size + 1) = 0 := by unfold World.iterPos; rw [H.out.2.1]
    obtain ⟨w2, hw2⟩ : ∃ w2, wr.iterAt (w.heap.size + 1) blanks (0 + 1) = w2 := ⟨_, rfl⟩
    have hz : ((blanks[0]'(by decide)).toNat : Int) = 32 := by rfl
    rw [hw2] at hnx HN
    simp only [hz] at hnx
    have HP := Lib.hid hp
    obtain ⟨c1, f1⟩ := Kn.cell HN.out 32 (by decide)
    clear hw2 hz hp
    go_wp2_with fail
    go_roundw
    case rel => exact ⟨0 + 1, by omega, Lib.hid (Kn.set HN.out (by kernel_rfl))⟩
    case measure => rw [HP.out]; have := (Kn.set (i := 32) HN.out (by kernel_rfl)).2.1; unfold World.iterPos; rw [this]; simp
  · have hnx : ∀ ty, (Instr.next (.pointer (some ⟨w.heap.size + 1, 0, none⟩)) true ty).run Tryz.prog wr = _ := fun ty => Lib.run_next_ascii_at wr _ blanks 1 ty H.out.2.1 (by decide) (by decide)
    have HN := Lib.hid (Kn.next H.out rfl)
    have hp : wr.iterPos (w.heap.size + 1) = 1 := by unfold World.iterPos; rw [H.out.2.1]
    obtain ⟨w2, hw2⟩ : ∃ w2, wr.iterAt (w.heap.size + 1) blanks (1 + 1) = w2 := ⟨_, rfl⟩
    have hz : ((blanks[1]'(by decide)).toNat : Int) = 9 := by rfl
    rw [hw2] at hnx HN
    simp only [hz] at hnx
    have HP := Lib.hid hp
    obtain ⟨c1, f1⟩ := Kn.cell HN.out 9 (by decide)
    clear hw2 hz hp
    go_wp2_with fail
    go_roundw
    case rel => exact ⟨1 + 1, by omega, Lib.hid (Kn.set HN.out (by kernel_rfl))⟩
    case measure => rw [HP.out]; have := (Kn.set (i := 9) HN.out (by kernel_rfl)).2.1; unfold World.iterPos; rw [this]; simp
  · have hnx : ∀ ty, (Instr.next (.pointer (some ⟨w.heap.size + 1, 0, none⟩)) true ty).run Tryz.prog wr = _ := fun ty => Lib.run_next_ascii_at wr _ blanks 2 ty H.out.2.1 (by decide) (by decide)
    have HN := Lib.hid (Kn.next H.out rfl)
    have hp : wr.iterPos (w.heap.size + 1) = 2 := by unfold World.iterPos; rw [H.out.2.1]
    obtain ⟨w2, hw2⟩ : ∃ w2, wr.iterAt (w.heap.size + 1) blanks (2 + 1) = w2 := ⟨_, rfl⟩
    have hz : ((blanks[2]'(by decide)).toNat : Int) = 13 := by rfl
    rw [hw2] at hnx HN
    simp only [hz] at hnx
    have HP := Lib.hid hp
    obtain ⟨c1, f1⟩ := Kn.cell HN.out 13 (by decide)
    clear hw2 hz hp
    go_wp2_with fail
    go_roundw
    case rel => exact ⟨2 + 1, by omega, Lib.hid (Kn.set HN.out (by kernel_rfl))⟩
    case measure => rw [HP.out]; have := (Kn.set (i := 13) HN.out (by kernel_rfl)).2.1; unfold World.iterPos; rw [this]; simp
  · have hnx : ∀ ty, (Instr.next (.pointer (some ⟨w.heap.size + 1, 0, none⟩)) true ty).run Tryz.prog wr = _ := fun ty => Lib.run_next_end_at wr _ blanks 3 ty H.out.2.1 (by decide)
    obtain ⟨c1, f1⟩ := Kn.cell H.out 10 (by decide)
    obtain ⟨c2, f2⟩ := Kn.cell H.out 35 (by decide)
    have HA := Lib.hid (show (wr.setCell ⟨w.heap.size, 10, none⟩ (.int .i64 2)).heap[w.heap.size]? = some (.cells ((tabA 3).setIfInBounds 10 (.int .i64 2)) 101 (0, 0)) from heap_setCell_same _ _ _ _ _ _ H.out.1)
    have HB := Lib.hid (show ((wr.setCell ⟨w.heap.size, 10, none⟩ (.int .i64 2)).setCell ⟨w.heap.size, 35, none⟩ (.int .i64 3)).heap[w.heap.size]? = some (.cells kindsA 101 (0, 0)) from (heap_setCell_same _ _ _ _ _ _ HA.out).trans (by rw [tab_lastK]))
    have HI := Lib.hid (show (Tryz.prog.info? 101).map (·.size) = some kindsA.size by rw [kinds_size]; exact tabInfo)
    have HU := Lib.hid Tryz.underlying101
    have HZ := Lib.hid kinds_size
    go_wp2_with (first
     | (refine wpList_load_row rfl 101 (.tmp 0) (by rfl) w.heap.size (by rfl) 101 kindsA (0, 0) _ HB.out HU.out (by rfl) HI.out ?_)
     | (refine wpList_store_row rfl 101 (.tmp 0) (.tmp 11) (by rfl) w.heap.size kindsA (by rfl) (by rfl) 101 kindsA HB.out HI.out rfl tab_all ?_))
    refine bodyPost_ret (v := .agg kindsA) (results_cell_row (p := 0) (ty := 101) rfl _ _ w.heap.size 101 kindsA (0, 0) _ rfl (setRow_heap _ _ _ _ _ _ HB.out) HU.out rfl HI.out) rfl ⟨rfl, ?_⟩
    exact belowSetRow ((H.out.2.2.setCell (Nat.le_refl _) _).setCell (Nat.le_refl _) _) (Nat.le_refl _)
end Go.Proofs.YtbffebcjimhapaaGreatDoor
