/-
  Lists of kinds, as they lie; the reference's first values.
-/
import Derived.Test.YthddacnnhmcoaaaMmTwin
import Derived.Test.YthddacnnhmcoaaaMmLoops
import Derived.Test.YthddacnnhmcoaaaAppS
import Derived.Outline
namespace Go.Proofs.Ythddacnnhmcoaaa
set_option linter.unusedVariables false
set_option linter.unusedSimpArgs false
open Go.ChangeShapes Go.WideShapes Go.ChangeAt Go.RowKit

/-- A list of kinds that came in. -/
structure KindsAt (w : World) (A : Option Addr) (c : Nat) (l : List Int) : Prop where
  hdr : Hdr A l.length c
  cells : CellsAt w 0 w.heap.size A 1 l.length fun i _ => .int .u8 (l.getD i 0)
theorem KindsAt.on {w w' : World} {A : Option Addr} {c : Nat} {l : List Int} (h : KindsAt w A c l) (hb : Below w.heap.size w w') : KindsAt w' A c l := ⟨h.hdr, (CellsAt.keep h.cells hb).more (Nat.le_refl _) hb.size⟩
theorem KindsAt.elem {w : World} {A : Option Addr} {c : Nat} {l : List Int} (h : KindsAt w A c l) {i : Nat} (hi : i < l.length) : ∃ b off k, A = some ⟨b, off, none⟩ ∧ b < w.heap.size ∧ w.cell? ⟨b, off + i, none⟩ = some (.int .u8 k) ∧ Hid (l.getD i 0 = k) := by
  obtain ⟨b, off, rfl, h1, h2, hc⟩ := h.cells (by omega)
  have c0 := hc i hi 0 (by omega)
  rw [Nat.mul_one, Nat.add_zero] at c0
  exact ⟨b, off, _, rfl, h2, c0, Lib.hid rfl⟩
/-- append of one value that has just been laid in a block of its own. -/
theorem wpList_appV1 {w : World} {ops : Array Oper} {rest : List Oper} {o : Oper} {a : Act} {Q : Exit → Act → World → Prop} (hgd : o.guard = none) (s x : Operand)
    (ho : o.op = .call { callee := .builtin .append, args := #[s, x], argTypes := #[68, 68] })
    (lo : Nat) (v : Value) (xs : List Vl) (hs : a.eval s = v) (y : Vl) (hown : OwnVals w lo v xs) (hx : a.eval x = .slice (some ⟨w.heap.size, 0, none⟩) 1 1) (hlen : xs.length ≤ 1000000) (hlo : lo ≤ w.heap.size)
    (h : ∀ v' w', OwnVals w' lo v' (xs ++ [y]) → (w.alloc (.cells #[.int .u8 y.k, .int .i64 y.n, .int .i64 y.b, .int .i64 y.t] 29)).grownBy w' v.ownBlock → wpList Try.prog ops Q rest (a.put o.dst v') w') : wpList Try.prog ops Q (o :: rest) a (w.alloc (.cells #[.int .u8 y.k, .int .i64 y.n, .int .i64 y.b, .int .i64 y.t] 29)) := by
  obtain ⟨i0, hi, hz0, hz1, hz2⟩ := info_parts valInfo
  refine wpList_appS hgd s x 68 29 ho i0 _ 4 32 Try.underlying68 hi hz0 hz1 hz2 rfl (by decide) lo v xs.length _ hs hown _ hx rfl ?_ hlen (by decide) hlo ?_
  · intro u hu
    simp at hu
    rcases hu with rfl | rfl | rfl | rfl <;> rfl
  · intro v' w' h1 h2
    refine h v' w' ?_ h2
    unfold OwnVals
    rw [List.length_append, List.flatMap_append]
    simpa [Vl.cells4] using h1
theorem kind_first {k : Int} (h : kindOk k = true) : firstK k = k ∧ firstE k = 0 := by
  unfold kindOk at h
  simp only [Bool.and_eq_true, decide_eq_true_eq] at h
  exact first_yes h
theorem kind_bad {k : Int} (h : kindOk k = false) : firstE k ≠ 0 := by
  unfold kindOk at h
  intro e
  simp only [Bool.and_eq_false_iff, decide_eq_false_iff_not] at h
  unfold firstE at e
  split at e
  · omega
  · cases e
def FirstsOf (l : List Int) (w : World) (e : Ending) (w' : World) : Prop := ∃ v, e = .returned (.tuple #[v, .bool (l.all kindOk)]) ∧ (l.all kindOk = true → OwnVals w' w.heap.size v (l.map firstV)) ∧ Below w.heap.size w w'
end Go.Proofs.Ythddacnnhmcoaaa
