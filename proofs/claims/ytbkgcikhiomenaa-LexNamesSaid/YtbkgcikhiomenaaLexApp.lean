/-
  Lists of texts and of lines, put behind others.
-/
import Derived.Test.YtbkgcikhiomenaaLexProg2
import Derived.Test.YtbkgcikhiomenaaLexRef4
namespace Go.Proofs.Ytbkgcikhiomenaa
set_option linter.unusedVariables false
set_option linter.unusedSimpArgs false
open Go.ChangeShapes Go.WideShapes Go.ChangeAt Go.RowKit

theorem add_at (b o j : Nat) : (⟨b, o, none⟩ : Addr).add j = ⟨b, o + j, none⟩ := by unfold Addr.add; split <;> simp_all
/-- A list of no texts, in a block of its own. -/
theorem OwnStrs.lit (w : World) : OwnStrs (w.alloc (.cells #[] 9)) w.heap.size (.slice (some ⟨w.heap.size, 0, none⟩) 0 0) [] :=
  World.ownsRow_lit w #[] 0 (Nat.le_refl _) (by unfold maxLen; omega) rfl
theorem OwnLines.lit (w : World) : OwnLines (w.alloc (.cells #[] 39)) w.heap.size (.slice (some ⟨w.heap.size, 0, none⟩) 0 0) [] :=
  ⟨World.ownsRow_lit w #[] 0 (Nat.le_refl _) (by unfold maxLen; omega) rfl, fun r h => by cases h⟩
set_option maxRecDepth 100000 in
/-- Texts put behind texts of the call's own. -/
theorem wpList_appTs {w : World} {ops : Array Oper} {rest : List Oper} {o : Oper} {a : Act} {Q : Exit → Act → World → Prop} (hgd : o.guard = none) (s x : Operand)
    (ho : o.op = .call { callee := .builtin .append, args := #[s, x], argTypes := #[39, 39] })
    (lo : Nat) (v : Value) (xs : List ByteArray) (hs : a.eval s = v) (hown : OwnStrs w lo v xs) {A : Option Addr} {c : Nat} (ys : List ByteArray) (hx : a.eval x = .slice A ys.length c) (hh : Hdr A ys.length c) (hy : StrsAt w 0 w.heap.size A ys)
    (hlen : xs.length ≤ 1000000) (hlen2 : ys.length ≤ 1000000) (hlo : lo ≤ w.heap.size)
    (h : ∀ v' w', OwnStrs w' lo v' (xs ++ ys) → w.grownBy w' v.ownBlock → wpList Try.prog ops Q rest (a.put o.dst v') w') : wpList Try.prog ops Q (o :: rest) a w := by
  obtain ⟨i0, hi, hz0, hz1, hz2⟩ := info_parts strInfo
  refine wpList_app hgd s x 39 ho lo 9 i0 _ 1 16 Try.underlying39 hi hz0 hz1 hz2 rfl (by decide) v xs.length _ hs hown A ys.length c (ys.map Value.string) hx hh.nil (by simp) ?_ ?_ ?_ ?_ hlo ?_
  · intro ad had j u hj
    subst had
    obtain ⟨hlt, hu⟩ := List.getElem?_eq_some_iff.1 hj
    rw [List.length_map] at hlt
    obtain ⟨b, off, y, e, _, hc, HE⟩ := StrsAt.elem hy hlt
    injection e with e
    subst e
    rw [add_at, hc, ← hu, ← HE.out, List.getElem_map, List.getD_eq_getElem?_getD, List.getElem?_eq_getElem hlt]
    rfl
  · intro u hu
    obtain ⟨y, _, rfl⟩ := List.mem_map.1 hu
    rfl
  · unfold maxLen; omega
  · omega
  · intro v' w' h1 h2
    refine h v' w' ?_ h2
    unfold OwnStrs
    rw [List.length_append, List.map_append]
    exact h1
theorem OwnLines.pushAll {w w' : World} {lo : Nat} {v v' : Value} {rows rows2 : List LnR} (hown : OwnLines w lo v rows) (hr : ∀ r ∈ rows2, r.Ok w) (h1 : w'.ownsRow lo 39 1 v' (rows.length + rows2.length) (rows.map LnR.cell ++ rows2.map LnR.cell)) (h2 : w.grownBy w' v.ownBlock) : OwnLines w' lo v' (rows ++ rows2) := by
  have hk : ∀ b, TBlk w b 9 → w'.heap[b]? = w.heap[b]? := fun b ht => by
    obtain ⟨cur, ht⟩ := ht
    refine h2.block b (Array.getElem?_eq_some_iff.1 ht).1 fun e => ?_
    rcases hown.row.2 with ⟨hv, _⟩ | ⟨g, cap, cur2, hv, _, hg, _⟩
    · rw [hv] at e; cases e
    · rw [hv] at e
      have e2 : b = g := Option.some.inj e
      subst e2
      exact absurd (TBlk.type ⟨_, hg⟩ ⟨_, ht⟩) (by decide)
  refine ⟨by rw [List.length_append, List.map_append]; exact h1, fun q hq => ?_⟩
  rcases List.mem_append.1 hq with hq | hq
  · exact (hown.ok q hq).still h2.size hk
  · exact (hr q hq).still h2.size hk
set_option maxRecDepth 100000 in
/-- Lines put behind lines of the call's own. -/
theorem wpList_appLs {w : World} {ops : Array Oper} {rest : List Oper} {o : Oper} {a : Act} {Q : Exit → Act → World → Prop} (hgd : o.guard = none) (s x : Operand)
    (ho : o.op = .call { callee := .builtin .append, args := #[s, x], argTypes := #[22, 22] })
    (lo : Nat) (v : Value) (rows : List LnR) (hs : a.eval s = v) (hown : OwnLines w lo v rows) {A : Option Addr} {c : Nat} (rows2 : List LnR) (hx : a.eval x = .slice A rows2.length c) (hy : LinesAt w A c rows2) (hr : ∀ r ∈ rows2, r.Ok w)
    (hlen : rows.length ≤ 1000000) (hlen2 : rows2.length ≤ 1000000) (hlo : lo ≤ w.heap.size)
    (h : ∀ v' w', OwnLines w' lo v' (rows ++ rows2) → w.grownBy w' v.ownBlock → wpList Try.prog ops Q rest (a.put o.dst v') w') : wpList Try.prog ops Q (o :: rest) a w := by
  obtain ⟨i0, hi, hz0, hz1, hz2⟩ := info_parts linesInfo
  refine wpList_app hgd s x 22 ho lo 39 i0 _ 1 24 Try.underlying22 hi hz0 hz1 hz2 rfl (by decide) v rows.length _ hs hown.row A rows2.length c (rows2.map LnR.cell) hx hy.hdr.nil (by simp) ?_ ?_ ?_ ?_ hlo ?_
  · intro ad had j u hj
    subst had
    obtain ⟨hlt, hu⟩ := List.getElem?_eq_some_iff.1 hj
    rw [List.length_map] at hlt
    obtain ⟨b, off, r, e, _, hc, _, HE⟩ := hy.elem hlt
    injection e with e
    subst e
    rw [add_at, hc, ← hu, List.getElem_map]
    have h3 : rows2[j] = r := by
      have := HE.out
      rw [List.getD_eq_getElem?_getD, List.getElem?_eq_getElem hlt] at this
      exact this
    rw [h3]
    rfl
  · intro u hu
    obtain ⟨y, _, rfl⟩ := List.mem_map.1 hu
    rfl
  · unfold maxLen; omega
  · omega
  · intro v' w' h1 h2
    exact h v' w' (OwnLines.pushAll hown hr h1 h2) h2
theorem OwnStrs.fresh {w w1 w2 : World} {v : Value} {xs : List ByteArray} {lo : Nat} (h : OwnStrs w2 lo v xs) (hv : w1.grownBy w2 (Value.ownBlock (.slice (some ⟨w.heap.size, 0, none⟩) 0 0))) (hb : Below w.heap.size w w1) : Below w.heap.size w w2 :=
  Below.grown (B := w.heap.size) hb hv hb.size fun k e => by have : w.heap.size = k := Option.some.inj e; omega
end Go.Proofs.Ytbkgcikhiomenaa
