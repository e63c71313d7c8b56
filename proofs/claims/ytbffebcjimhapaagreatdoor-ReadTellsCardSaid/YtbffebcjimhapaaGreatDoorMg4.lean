/-
  Slices of whole numbers as they come in, in one form for nil and any other. And what stands on it: AppInts.
-/
import Derived.Test.YtbffebcjimhapaaGreatDoorMg2
import Derived.Test.YtbffebcjimhapaaGreatDoorMg3
import Derived.Test.YtbffebcjimhapaaGreatDoorProg
import Derived.OwnWalk
namespace Go.Proofs.YtbffebcjimhapaaGreatDoor
set_option linter.unusedVariables false
set_option linter.unusedSimpArgs false
open Go.ChangeShapes Go.WideShapes Go.Deep Go.RowKit
section
variable {H : Type} {enc : TypeId × Value → H} {w : World} {base : Nat} {spare : Nat → Bool} {held : Bool}
structure Hdr (A : Option Addr) (n c : Nat) : Prop where
 fit : n ≤ c
 cap : c ≤ maxLen
 nil : A = none → n = 0 ∧ c = 0
end
end Go.Proofs.YtbffebcjimhapaaGreatDoor
namespace Go.Proofs.YtbffebcjimhapaaGreatDoor
set_option linter.unusedVariables false
set_option linter.unusedSimpArgs false
open Go.RowKit
theorem OwnInts.keep {w w' : World} {lo : Nat} {v : Value} {xs : List Int} (h : OwnInts w lo v xs) (hb : Below w.heap.size w w') : OwnInts w' lo v xs := by
 unfold OwnInts at h ⊢
 refine ⟨h.1, ?_⟩
 rcases h.2 with h1 | ⟨g, cap, cur, h1, h2, h3, h4⟩
 · exact .inl h1
 · exact .inr ⟨g, cap, cur, h1, h2, (hb.block g (Array.getElem?_eq_some_iff.1 h3).1).trans h3, h4⟩
theorem OwnInts.more {w : World} {lo lo' : Nat} {v : Value} {xs : List Int} (h : OwnInts w lo v xs) (hl : lo' ≤ lo) : OwnInts w lo' v xs := by
 unfold OwnInts at h ⊢
 refine ⟨h.1, ?_⟩
 rcases h.2 with h1 | ⟨g, cap, cur, h1, h2, h3⟩
 · exact .inl h1
 · exact .inr ⟨g, cap, cur, h1, Nat.le_trans hl h2, h3⟩
theorem OwnInts.base {w : World} {lo : Nat} {v : Value} {xs : List Int} (h : OwnInts w lo v xs) : ∀ k, v.ownBlock = some k → lo ≤ k := own_base h
theorem OwnInts.ne {w : World} {lo g : Nat} {t : TypeId} {cs : Array Value} {v : Value} {xs : List Int} (h : OwnInts w lo v xs) (hg : Blk w g t cs) (hne : 3 ≠ t) : v.ownBlock ≠ some g := own_ne h hg hne
theorem intInfo : (Tryz.prog.info? 3).map (fun i => (i.zero, i.size, i.bytes)) = some (some (.int .i64 0), 1, 8) := by kernel_rfl
def SomeInts (xs : List Int) (w : World) (e : Ending) (w' : World) : Prop := ∃ v, e = .returned v ∧ OwnInts w' w.heap.size v xs ∧ Below w.heap.size w w'
set_option maxRecDepth 100000 in
theorem wpList_app1 {w : World} {ops : Array Oper} {rest : List Oper} {o : Oper} {a : Act} {Q : Exit → Act → World → Prop} (hgd : o.guard = none) (s x : Operand)
 (ho : o.op = .call { callee := .builtin .append, args := #[s, x], argTypes := #[72, 72] })
 (base : Nat) (v : Value) (xs : List Int) (hs : a.eval s = v) (y : Int) (hown : OwnInts w base v xs) (hx : a.eval x = .slice (some ⟨w.heap.size, 0, none⟩) 1 1)
 (hlen : xs.length ≤ 1000000) (hbase : base ≤ w.heap.size)
 (h : ∀ v' w', OwnInts w' base v' (xs ++ [y]) → (w.alloc (.cells #[.int .i64 y] 3)).grownBy w' v.ownBlock → wpList Tryz.prog ops Q rest (a.put o.dst v') w') : wpList Tryz.prog ops Q (o :: rest) a (w.alloc (.cells #[.int .i64 y] 3)) := by
 obtain ⟨i0, hi, hz0, hz1, hz2⟩ := info_parts intInfo
 refine wpList_app hgd s x 72 ho base 3 i0 (.int .i64 0) 1 8 Tryz.underlying72 hi hz0 hz1 hz2 rfl (by decide) v xs.length (xs.map (Value.int .i64)) hs (World.ownsRow.alloc hown _) _ 1 1 [.int .i64 y] hx (by intro h; cases h) rfl ?_ ?_ ?_ ?_ ?_ ?_
 · intro ad had j u hj
   injection had with had
   subst had
   match j, hj with
   | 0, hj => simp at hj; subst hj; simp [Addr.add]
 · intro u hu; simp at hu; subst hu; rfl
 · unfold maxLen; omega
 · omega
 · simp; omega
 · intro v' w' h1 h2
   exact h v' w' (by unfold OwnInts; rw [List.length_append, List.map_append]; exact h1) h2
set_option maxRecDepth 100000 in
theorem wpList_appN {w : World} {ops : Array Oper} {rest : List Oper} {o : Oper} {a : Act} {Q : Exit → Act → World → Prop} (hgd : o.guard = none) (s x : Operand)
 (ho : o.op = .call { callee := .builtin .append, args := #[s, x], argTypes := #[72, 72] })
 (base lo B : Nat) (v : Value) (xs : List Int) (hs : a.eval s = v) (hown : OwnInts w base v xs) (A : Option Addr) (m c : Nat) (ys : List Int) (hx : a.eval x = .slice A m c) (hm : ys.length = m) (hA : A = none → m = 0 ∧ c = 0) (hys : IntsAt w lo B A ys)
 (hlen : xs.length + ys.length ≤ 1000000) (hbase : base ≤ w.heap.size)
 (h : ∀ v' w', OwnInts w' base v' (xs ++ ys) → w.grownBy w' v.ownBlock → wpList Tryz.prog ops Q rest (a.put o.dst v') w') : wpList Tryz.prog ops Q (o :: rest) a w := by
 obtain ⟨i0, hi, hz0, hz1, hz2⟩ := info_parts intInfo
 subst hm
 refine wpList_app hgd s x 72 ho base 3 i0 (.int .i64 0) 1 8 Tryz.underlying72 hi hz0 hz1 hz2 rfl (by decide) v xs.length (xs.map (Value.int .i64)) hs hown A ys.length c (ys.map (Value.int .i64)) hx hA (by simp) hys.news ?_ ?_ ?_ hbase ?_
 · intro u hu
   obtain ⟨z, _, rfl⟩ := List.mem_map.1 hu
   rfl
 · unfold maxLen; omega
 · omega
 · intro v' w' h1 h2
   exact h v' w' (by unfold OwnInts; rw [List.length_append, List.map_append]; exact h1) h2
end Go.Proofs.YtbffebcjimhapaaGreatDoor
