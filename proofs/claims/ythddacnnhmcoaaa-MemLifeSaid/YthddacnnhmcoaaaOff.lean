/-
  A region that draws its order, whose operations read memory and whose calls make memory of their own: one walk, in the order of the text. The class of worlds: those that are as W was below W's size (Off W).
-/
import Derived.WalkKit
import Derived.ProofKit
import Derived.OpenShut
import Derived.BigQuiet
import Derived.Below
import Derived.Deep.Draws
namespace Go.Proofs.Ythddacnnhmcoaaa
set_option linter.unusedVariables false
set_option linter.unusedSimpArgs false
open Go.RowKit

/-- The worlds that are as W was, below W's size. -/
structure Off (W : World) where
  val : World
  below : Below W.heap.size W val

instance (W : World) : Nonempty (Off W) := ⟨⟨W, Below.refl _ _⟩⟩
theorem Off.size {W : World} (n : Off W) : W.heap.size ≤ n.val.heap.size := n.below.size
theorem Off.at {W : World} {a : Addr} {v : Value} (h : W.cell? a = some v) (n : Off W) : n.val.cell? a = some v :=
  (n.below.cell (World.block_lt_of_cell? W a h)).trans h

theorem wp_region_off {P : Program} {id : Nat} {Q : Exit → Act → World → Prop} {a : Act} {w : World} {l : List Oper} (hm : P.follows .mixedOrders = true) (hB : Region.lexB .any l.toArray = true)
    (h : ∀ W : World, w = W → wpQuiet P l.toArray (fun w' => ∃ n : Off W, w' = n.val) (fun a' => ∀ w', (∃ n : Off W, w' = n.val) → Q .normal a' w') l a) : (Code.region id l.toArray true).wp P Q a w :=
  wp_region_quiet (C := fun w' => ∃ n : Off w, w' = n.val) hm hB ⟨⟨_, (Below.refl _ _).drew⟩, rfl⟩ (by simpa using h w rfl)

/-- A callee's contract, met in a world of the class. -/
theorem Calls.off {P : Program} {f : FuncId} {args : Array Value} {W : World} {n : Off W} {v : Value}
    (h : Calls P f args n.val fun e w' => e = .returned v ∧ Below n.val.heap.size n.val w') : Calls P f args n.val fun e w'' => e = .returned v ∧ ∃ m : Off W, w'' = m.val :=
  h.mono fun _ w' ⟨he, hb⟩ => ⟨he, ⟨w', n.below.trans (hb.mono n.below.size)⟩, rfl⟩
theorem Calls.off_same {P : Program} {f : FuncId} {args : Array Value} {W : World} {n : Off W} {v : Value}
    (h : Calls P f args n.val fun e w' => e = .returned v ∧ n.val = w') : Calls P f args n.val fun e w'' => e = .returned v ∧ ∃ m : Off W, w'' = m.val :=
  h.mono fun _ w' ⟨he, hb⟩ => ⟨he, n, hb.symm⟩

end Go.Proofs.Ythddacnnhmcoaaa
