/-
  Words for memory: a block that is known whole, and what becomes of it. And what stands on it: Data.
-/
import Derived.WalkKit
import Derived.ProofKit
import Derived.OpenShut
import Derived.Below
import Derived.Deep.Draws
import Derived.Laws.Rows
namespace Go.Proofs.YtbffebcjimhapaaGreatDoor
set_option linter.unusedVariables false
set_option linter.unusedSimpArgs false
open Go.RowKit
def Blk (w : World) (g : Nat) (t : TypeId) (cs : Array Value) : Prop := w.heap[g]? = some (.cells cs t (0, 0))
section
variable {w w' : World} {g : Nat} {t : TypeId} {cs : Array Value}
theorem Blk.lt (h : Blk w g t cs) : g < w.heap.size := by
 have h' : w.heap[g]? = some (.cells cs t (0, 0)) := h
 exact (Array.getElem?_eq_some_iff.1 h').1
theorem Blk.cells (h : Blk w g t cs) (i : Nat) : w.cell? ⟨g, i, none⟩ = cs[i]? := cell_of_row w g i cs t (0, 0) h
theorem Blk.free (h : Blk w g t cs) (i : Nat) : w.frozen? ⟨g, i, none⟩ = false := by
 have h' : w.heap[g]? = some (.cells cs t (0, 0)) := h
 simp [World.frozen?, h']
theorem Blk.new (w : World) (t : TypeId) (cs : Array Value) : Blk (w.alloc (.cells cs t)) w.heap.size t cs := by
 show (w.heap.push _)[w.heap.size]? = _
 simp
theorem Blk.new2 (w : World) (o : Obj) (t : TypeId) (cs : Array Value) : Blk ((w.alloc o).alloc (.cells cs t)) (w.heap.size + 1) t cs := by
 have h := Blk.new (w.alloc o) t cs
 rw [World.size_alloc] at h
 exact h
theorem Blk.drew (h : Blk w g t cs) : Blk w.drew g t cs := h
theorem Blk.drewN (h : Blk w g t cs) (n : Nat) : Blk (w.drewN n) g t cs := h
theorem Blk.alloc (h : Blk w g t cs) (o : Obj) : Blk (w.alloc o) g t cs := (Below.heap_alloc w o g h.lt).trans h
theorem Blk.below {B : Nat} (h : Blk w g t cs) (hb : Below B w w') (hg : g < B) : Blk w' g t cs := (hb.block g hg).trans h
theorem Blk.beneath (h : Blk w g t cs) (hb : Below w.heap.size w w') : Blk w' g t cs := h.below hb h.lt
theorem Blk.far (h : Blk w g t cs) {p : Addr} (hp : g ≠ p.block) (u : Value) : Blk (w.setCell p u) g t cs := (Below.heap_setCell w p u g hp).trans h
theorem Blk.put (h : Blk w g t cs) (i : Nat) (u : Value) : Blk (w.setCell ⟨g, i, none⟩ u) g t (cs.setIfInBounds i u) := by
 have h' : w.heap[g]? = some (.cells cs t (0, 0)) := h
 show (w.setCell ⟨g, i, none⟩ u).heap[g]? = _
 simp [World.setCell, Array.getElem?_modify, h']
end
theorem below_new {w w1 : World} {o : Obj} (h : Below (w.alloc o).heap.size (w.alloc o) w1) : Below w.heap.size w w1 :=
 ((Below.refl _ _).alloc (Nat.le_refl _) _).trans (h.mono (by simp))
theorem below_new2 {w w1 : World} {o o' : Obj} (h : Below ((w.alloc o).alloc o').heap.size ((w.alloc o).alloc o') w1) : Below w.heap.size w w1 :=
 (((Below.refl _ _).alloc (Nat.le_refl _) _).alloc (by simp) _).trans (h.mono (by simp; omega))
theorem belowDrewN {B : Nat} {a w : World} (h : Below B a w) (n : Nat) : Below B a (w.drewN n) := ⟨h.os, h.tape, h.output, h.size, h.block⟩
theorem belowSet0 {B j : Nat} {a w : World} {v : Value} (h : Below B a w) : Below B a (w.setCell ⟨B, j, none⟩ v) := h.setCell (Nat.le_refl _) _
theorem belowSetK {B k j : Nat} {a w : World} {v : Value} (h : Below B a w) : Below B a (w.setCell ⟨B + k, j, none⟩ v) := h.setCell (Nat.le_add_right _ _) _
theorem isSome_setCell (w : World) (a b : Addr) (v : Value) : ((w.setCell a v).cell? b).isSome = (w.cell? b).isSome := by
 by_cases h : a = b
 · subst h
   cases hc : w.cell? a with
   | some u => rw [World.cell?_setCell_same w a v hc]; rfl
   | none =>
     cases hs : (w.setCell a v).cell? a with
     | none => rfl
     | some u =>
       exfalso
       unfold World.cell? at hc hs
       simp only [World.setCell, Array.getElem?_modify, if_true] at hs
       cases hh : w.heap[a.block]? with
       | none => rw [hh] at hs; simp at hs
       | some x =>
         rw [hh] at hs hc
         cases x <;> simp at hs hc
         cases hsp : a.spot with
         | some _ => simp [hsp] at hs
         | none =>
           simp [hsp] at hs hc
           have := (Array.getElem?_eq_some_iff.1 hs).1
           simp at this
           omega
 · rw [World.cell?_setCell_other w a b v h]
attribute [go_sem] isSome_setCell
def CellsAt (w : World) (lo B : Nat) (A : Option Addr) (size n : Nat) (f : Nat → Nat → Value) : Prop :=
 0 < n → ∃ b off, A = some ⟨b, off, none⟩ ∧ lo ≤ b ∧ b < B ∧ ∀ i, i < n → ∀ j, j < size → w.cell? ⟨b, off + i * size + j, none⟩ = some (f i j)
section
variable {w w' : World} {lo lo' B B' size n : Nat} {A : Option Addr} {f g : Nat → Nat → Value}
theorem CellsAt.keep (h : CellsAt w lo B A size n f) (hb : Below B w w') : CellsAt w' lo B A size n f := fun hn => by
 obtain ⟨b, off, rfl, h1, h2, hc⟩ := h hn
 exact ⟨b, off, rfl, h1, h2, fun i hi j hj => (hb.cell (p := ⟨b, off + i * size + j, none⟩) h2).trans (hc i hi j hj)⟩
theorem CellsAt.more (h : CellsAt w lo B A size n f) (h1 : lo' ≤ lo) (h2 : B ≤ B') : CellsAt w lo' B' A size n f := fun hn => by
 obtain ⟨b, off, rfl, g1, g2, hc⟩ := h hn
 exact ⟨b, off, rfl, by omega, by omega, hc⟩
theorem CellsAt.empty : CellsAt w lo B A size 0 f := fun h => absurd h (by omega)
theorem CellsAt.congr (h : CellsAt w lo B A size n f) (e : ∀ i, i < n → ∀ j, j < size → f i j = g i j) : CellsAt w lo B A size n g := fun hn => by
 obtain ⟨b, off, rfl, g1, g2, hc⟩ := h hn
 exact ⟨b, off, rfl, g1, g2, fun i hi j hj => by rw [hc i hi j hj, e i hi j hj]⟩
end
end Go.Proofs.YtbffebcjimhapaaGreatDoor
