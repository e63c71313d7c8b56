/-
  The program's reader of lines: the end of a line.
-/
import Derived.Test.YtbffebcjimhapaaGreatDoorMg11
import Derived.Deep.AppendLies
import Derived.Deep.RegionHeld3
namespace Go.Proofs.YtbffebcjimhapaaGreatDoor
set_option linter.unusedVariables false
set_option linter.unusedSimpArgs false
open Go.ChangeShapes Go.WideShapes Go.ChangeAt Go.RowKit
theorem TBlk.type {w : World} {g : Nat} {t t' : TypeId} (h : TBlk w g t) (h' : TBlk w g t') : t = t' := by
 obtain ⟨c, h⟩ := h
 obtain ⟨c', h'⟩ := h'
 rw [h] at h'
 injection h' with h'
 injection h' with _ h' _
theorem LnR.Ok.still {w w' : World} {r : LnR} (h : r.Ok w) (hs : w.heap.size ≤ w'.heap.size) (hk : ∀ b, TBlk w b 9 → w'.heap[b]? = w.heap[b]?) : r.Ok w' := by
 refine ⟨⟨h.at_.hdr, fun hn => ?_⟩, fun hn => ?_⟩
 · obtain ⟨b, off, e, l1, l2, hc⟩ := h.at_.strs hn
   obtain ⟨b', o', e', ht⟩ := h.blk hn
   rw [e] at e'
   injection e' with e'
   injection e' with e' _ _
   subst e'
   exact ⟨b, off, e, l1, Nat.lt_of_lt_of_le l2 hs, fun i hi j hj => by rw [World.cell?_of_block (hk b ht)]; exact hc i hi j hj⟩
 · obtain ⟨b, o, e, ht⟩ := h.blk hn
   have h1 := hk b ht
   obtain ⟨cur, ht⟩ := ht
   exact ⟨b, o, e, cur, h1.trans ht⟩
theorem OwnLines.still {w w' : World} {lo : Nat} {v : Value} {rows : List LnR} (h : OwnLines w lo v rows) (hs : w.heap.size ≤ w'.heap.size) (hk : ∀ b, (TBlk w b 9 ∨ TBlk w b 51) → w'.heap[b]? = w.heap[b]?) : OwnLines w' lo v rows := by
 refine ⟨⟨h.row.1, ?_⟩, fun r hr => (h.ok r hr).still hs fun b hb => hk b (.inl hb)⟩
 rcases h.row.2 with h1 | ⟨g, cap, cur, h1, h2, h3, h4⟩
 · exact .inl h1
 · exact .inr ⟨g, cap, cur, h1, h2, (hk g (.inr ⟨cur, h3⟩)).trans h3, h4⟩
theorem OwnLines.off {w : World} {lo : Nat} {v : Value} {rows : List LnR} (h : OwnLines w lo v rows) {p : Addr} {t : TypeId} (hp : TBlk w p.block t) (h1 : t ≠ 9) (h2 : t ≠ 51) (u : Value) : OwnLines (w.setCell p u) lo v rows := by
 refine h.still (by simp [World.setCell]) fun b hb => Below.heap_setCell w p u b ?_
 rintro rfl
 rcases hb with hb | hb
 · exact h1 (hp.type hb)
 · exact h2 (hp.type hb)
theorem OwnLines.push {w w' : World} {lo : Nat} {v v' : Value} {rows : List LnR} {r : LnR} (hown : OwnLines w lo v rows) (hr : r.Ok w) (h1 : w'.ownsRow lo 51 1 v' (rows.length + 1) (rows.map LnR.cell ++ [r.cell])) (h2 : w.grownBy w' v.ownBlock) : OwnLines w' lo v' (rows ++ [r]) := by
 have hk : ∀ b, TBlk w b 9 → w'.heap[b]? = w.heap[b]? := fun b ht => by
  obtain ⟨cur, ht⟩ := ht
  refine h2.block b (Array.getElem?_eq_some_iff.1 ht).1 fun e => ?_
  rcases hown.row.2 with ⟨hv, _⟩ | ⟨g, cap, cur2, hv, _, hg, _⟩
  · rw [hv] at e; cases e
  · rw [hv] at e
    have e2 : b = g := Option.some.inj e
    subst e2
    exact absurd (TBlk.type ⟨_, hg⟩ ⟨_, ht⟩) (by decide)
 refine ⟨by rw [List.length_append, List.map_append]; exact h1, fun q hq => ?_⟩
 rcases List.mem_append.1 hq with hq | hq
 · exact (hown.ok q hq).still h2.size hk
 · rw [List.mem_singleton.1 hq]; exact hr.still h2.size hk
set_option maxRecDepth 100000 in
theorem step_appL {w : World} {ops : Array Oper} {o : Oper} {a : Act} {K : Act → World → Prop} {Q : Exit → Act → World → Prop} {E : Prop} (hgd : o.guard = none) (s x : Operand)
 (ho : o.op = .call { callee := .builtin .append, args := #[s, x], argTypes := #[45, 45] })
 (lo : Nat) (v : Value) (rows : List LnR) (r : LnR) (hs : a.eval s = v) (hown : OwnLines w lo v rows) (hr : r.Ok w) (B : Nat) (hx : a.eval x = .slice (some ⟨B, 0, none⟩) 1 1)
 (hB : w.heap[B]? = some (.cells #[.slice r.a r.xs.length r.c] 51 (0, 0))) (hlen : rows.length ≤ 1000000) (hlo : lo ≤ w.heap.size)
 (h : ∀ v' w', OwnLines w' lo v' (rows ++ [r]) → w.grownBy w' v.ownBlock → K (a.put o.dst v') w') :
 if Region.wanted o (yielded ops a.tmps) = true then Oper.wp Tryz.prog o a w K Q else E := by
 obtain ⟨i0, hi, hz0, hz1, hz2⟩ := info_parts linesInfo
 refine step_append_lies (P := Tryz.prog) w hgd s x 45 ho lo 51 i0 _ 1 24 Tryz.underlying45 hi hz0 hz1 hz2 rfl (by decide) v rows.length _ hs hown.row ⟨B, 0, none⟩ 1 1 [r.cell] hx rfl (World.news_of_block hB) ?_ (by omega) ?_ ?_ hlo _ rfl ?_
 · intro u hu
   obtain rfl := List.mem_singleton.1 hu
   rfl
 · unfold maxLen; omega
 · omega
 · intro g cap w2 h1 h2 h3 h4
   exact h _ w2 (OwnLines.push hown hr h1 h2) h2
section
variable {w : World} {g : Nat} {s : ByteArray} {p : Nat} {ws ls : Value}
theorem cell_set (w : World) (g i j : Nat) (u : Value) (h : i ≠ j) : (w.setCell ⟨g, i, none⟩ u).cell? ⟨g, j, none⟩ = w.cell? ⟨g, j, none⟩ := World.cell?_setCell_other _ _ _ _ fun e => h (by injection e)
theorem Rd.blkSet (h : Rd w g s p ws ls) (i : Nat) (u : Value) : TBlk (w.setCell ⟨g, i, none⟩ u) g 104 := by
 obtain ⟨cur, hb⟩ := h.blk
 refine ⟨cur.setIfInBounds i u, ?_⟩
 simp [World.setCell, Array.getElem?_modify, hb]
theorem Rd.setLines (h : Rd w g s p ws ls) (u : Value) : Rd (w.setCell ⟨g, 67, none⟩ u) g s p ws u :=
 ⟨h.blkSet 67 u, (cell_set w g 67 0 u (by decide)).trans h.text, (cell_set w g 67 1 u (by decide)).trans h.place, fun i hi => (cell_set w g 67 (2 + i) u (by omega)).trans (h.kinds i hi), (cell_set w g 67 66 u (by decide)).trans h.words, World.cell?_setCell_same w _ _ h.lines⟩
theorem Rd.setWords (h : Rd w g s p ws ls) (u : Value) : Rd (w.setCell ⟨g, 66, none⟩ u) g s p u ls :=
 ⟨h.blkSet 66 u, (cell_set w g 66 0 u (by decide)).trans h.text, (cell_set w g 66 1 u (by decide)).trans h.place, fun i hi => (cell_set w g 66 (2 + i) u (by omega)).trans (h.kinds i hi), World.cell?_setCell_same w _ _ h.words, (cell_set w g 66 67 u (by decide)).trans h.lines⟩
theorem Rd.setPlace (h : Rd w g s p ws ls) (q : Nat) : Rd (w.setCell ⟨g, 1, none⟩ (.int .i64 q)) g s q ws ls :=
 ⟨h.blkSet 1 _, (cell_set w g 1 0 _ (by decide)).trans h.text, World.cell?_setCell_same w _ _ h.place, fun i hi => (cell_set w g 1 (2 + i) _ (by omega)).trans (h.kinds i hi), (cell_set w g 1 66 _ (by decide)).trans h.words, (cell_set w g 1 67 _ (by decide)).trans h.lines⟩
end
end Go.Proofs.YtbffebcjimhapaaGreatDoor
