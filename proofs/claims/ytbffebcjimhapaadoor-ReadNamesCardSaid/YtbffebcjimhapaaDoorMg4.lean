/-
  Slices of whole numbers as they come in, in one form for nil and any other. append at slices of whole numbers that the call owns; answers that are lists of numbers.
-/
import Derived.Test.YtbffebcjimhapaaDoorMg3
import Derived.Test.YtbffebcjimhapaaDoorProg
import Derived.OwnWalk
namespace Go.Proofs.YtbffebcjimhapaaDoor
set_option linter.unusedVariables false
set_option linter.unusedSimpArgs false
open Go.ChangeShapes Go.WideShapes Go.Deep Go.RowKit
section
variable {H : Type} {enc : TypeId × Value → H} {w : World} {base : Nat} {spare : Nat → Bool} {held : Bool}
theorem cellsInt : Tryd.prog.cellsOf 3 = 1 := by kernel_rfl
/-- A slice's header. -/
structure Hdr (A : Option Addr) (n c : Nat) : Prop where
  fit : n ≤ c
  cap : c ≤ maxLen
  nil : A = none → n = 0 ∧ c = 0
theorem open_nums {fuel : Nat} {cs : List Value} {x : DataW H × List MemPlace} (h : DataW.trod enc Tryd.prog w base spare held fuel 37 cs = some x) :
    ∃ (A : Option Addr) (c : Nat) (xs : List Int), cs = [.slice A xs.length c] ∧ Hdr A xs.length c ∧ IntsAt w 0 w.heap.size A xs ∧ ∀ x ∈ xs, (Lit.int .i64 x).wf = true := by
  obtain ⟨A, n, c, V, rfl, h1, h2, h3, h4, h5⟩ := open_rows Tryd.underlying37 (by rw [cellsInt]; omega) h
  rw [cellsInt] at h4 h5
  have key : ∀ i, i < n → ∃ z : Int, V i = [.int .i64 z] ∧ (Lit.int .i64 z).wf = true := fun i hi => by
    obtain ⟨_, m, y, hy⟩ := h5 i hi
    obtain ⟨z, hz, _, hw⟩ := DataW.trod_int Tryd.underlying3 hy
    exact ⟨z, hz, hw⟩
  obtain ⟨f, hf⟩ := choose_lt key
  have hlen : ((List.range n).map f).length = n := by simp
  refine ⟨A, c, (List.range n).map f, by rw [hlen], ⟨by rw [hlen]; exact h1, h2, by rw [hlen]; exact h3⟩, ?_, ?_⟩
  · unfold IntsAt
    rw [hlen]
    refine h4.congr fun i hi j hj => ?_
    obtain rfl : j = 0 := by omega
    rw [(hf i hi).1]
    simp [List.getD, hi]
  · intro x hx
    obtain ⟨i, hi, rfl⟩ := List.mem_map.1 hx
    exact (hf i (List.mem_range.1 hi)).2
end
end Go.Proofs.YtbffebcjimhapaaDoor
namespace Go.Proofs.YtbffebcjimhapaaDoor
set_option linter.unusedVariables false
set_option linter.unusedSimpArgs false
open Go.RowKit

theorem OwnInts.keep {w w' : World} {lo : Nat} {v : Value} {xs : List Int} (h : OwnInts w lo v xs) (hb : Below w.heap.size w w') : OwnInts w' lo v xs := by
  unfold OwnInts at h ⊢
  refine ⟨h.1, ?_⟩
  rcases h.2 with h1 | ⟨g, cap, cur, h1, h2, h3, h4⟩
  · exact .inl h1
  · exact .inr ⟨g, cap, cur, h1, h2, (hb.block g (Array.getElem?_eq_some_iff.1 h3).1).trans h3, h4⟩
theorem OwnInts.more {w : World} {lo lo' : Nat} {v : Value} {xs : List Int} (h : OwnInts w lo v xs) (hl : lo' ≤ lo) : OwnInts w lo' v xs := by
  unfold OwnInts at h ⊢
  refine ⟨h.1, ?_⟩
  rcases h.2 with h1 | ⟨g, cap, cur, h1, h2, h3⟩
  · exact .inl h1
  · exact .inr ⟨g, cap, cur, h1, Nat.le_trans hl h2, h3⟩
theorem OwnInts.base {w : World} {lo : Nat} {v : Value} {xs : List Int} (h : OwnInts w lo v xs) : ∀ k, v.ownBlock = some k → lo ≤ k := own_base h
theorem OwnInts.ne {w : World} {lo g : Nat} {t : TypeId} {cs : Array Value} {v : Value} {xs : List Int} (h : OwnInts w lo v xs) (hg : Blk w g t cs) (hne : 3 ≠ t) : v.ownBlock ≠ some g := own_ne h hg hne
theorem intInfo : (Tryd.prog.info? 3).map (fun i => (i.zero, i.size, i.bytes)) = some (some (.int .i64 0), 1, 8) := by kernel_rfl
/-- An answer that is a list of its own. -/
def SomeInts (xs : List Int) (w : World) (e : Ending) (w' : World) : Prop := ∃ v, e = .returned v ∧ OwnInts w' w.heap.size v xs ∧ Below w.heap.size w w'

set_option maxRecDepth 100000 in
/-- append of one number that has just been laid in a block of its own. -/
theorem wpList_app1 {w : World} {ops : Array Oper} {rest : List Oper} {o : Oper} {a : Act} {Q : Exit → Act → World → Prop} (hgd : o.guard = none) (s x : Operand)
    (ho : o.op = .call { callee := .builtin .append, args := #[s, x], argTypes := #[37, 37] })
    (base : Nat) (v : Value) (xs : List Int) (hs : a.eval s = v) (y : Int) (hown : OwnInts w base v xs) (hx : a.eval x = .slice (some ⟨w.heap.size, 0, none⟩) 1 1)
    (hlen : xs.length ≤ 1000000) (hbase : base ≤ w.heap.size)
    (h : ∀ v' w', OwnInts w' base v' (xs ++ [y]) → (w.alloc (.cells #[.int .i64 y] 3)).grownBy w' v.ownBlock → wpList Tryd.prog ops Q rest (a.put o.dst v') w') : wpList Tryd.prog ops Q (o :: rest) a (w.alloc (.cells #[.int .i64 y] 3)) := by
  obtain ⟨i0, hi, hz0, hz1, hz2⟩ := info_parts intInfo
  refine wpList_app hgd s x 37 ho base 3 i0 (.int .i64 0) 1 8 Tryd.underlying37 hi hz0 hz1 hz2 rfl (by decide) v xs.length (xs.map (Value.int .i64)) hs (World.ownsRow.alloc hown _) _ 1 1 [.int .i64 y] hx (by intro h; cases h) rfl ?_ ?_ ?_ ?_ ?_ ?_
  · intro ad had j u hj
    injection had with had
    subst had
    match j, hj with
    | 0, hj => simp at hj; subst hj; simp [Addr.add]
  · intro u hu; simp at hu; subst hu; rfl
  · unfold maxLen; omega
  · omega
  · simp; omega
  · intro v' w' h1 h2
    exact h v' w' (by unfold OwnInts; rw [List.length_append, List.map_append]; exact h1) h2
set_option maxRecDepth 100000 in
/-- append of a list that lies somewhere. -/
theorem wpList_appN {w : World} {ops : Array Oper} {rest : List Oper} {o : Oper} {a : Act} {Q : Exit → Act → World → Prop} (hgd : o.guard = none) (s x : Operand)
    (ho : o.op = .call { callee := .builtin .append, args := #[s, x], argTypes := #[37, 37] })
    (base lo B : Nat) (v : Value) (xs : List Int) (hs : a.eval s = v) (hown : OwnInts w base v xs) (A : Option Addr) (m c : Nat) (ys : List Int) (hx : a.eval x = .slice A m c) (hm : ys.length = m) (hA : A = none → m = 0 ∧ c = 0) (hys : IntsAt w lo B A ys)
    (hlen : xs.length + ys.length ≤ 1000000) (hbase : base ≤ w.heap.size)
    (h : ∀ v' w', OwnInts w' base v' (xs ++ ys) → w.grownBy w' v.ownBlock → wpList Tryd.prog ops Q rest (a.put o.dst v') w') : wpList Tryd.prog ops Q (o :: rest) a w := by
  obtain ⟨i0, hi, hz0, hz1, hz2⟩ := info_parts intInfo
  subst hm
  refine wpList_app hgd s x 37 ho base 3 i0 (.int .i64 0) 1 8 Tryd.underlying37 hi hz0 hz1 hz2 rfl (by decide) v xs.length (xs.map (Value.int .i64)) hs hown A ys.length c (ys.map (Value.int .i64)) hx hA (by simp) hys.news ?_ ?_ ?_ hbase ?_
  · intro u hu
    obtain ⟨z, _, rfl⟩ := List.mem_map.1 hu
    rfl
  · unfold maxLen; omega
  · omega
  · intro v' w' h1 h2
    exact h v' w' (by unfold OwnInts; rw [List.length_append, List.map_append]; exact h1) h2

end Go.Proofs.YtbffebcjimhapaaDoor
