/-
  A table of the call's own that is written over: what stays true of it.
-/
import Derived.Test.YtphoomlamdelkaaTypTwinP
import Derived.Test.YtphoomlamdelkaaTypesAsks
namespace Go.Proofs.Ytphoomlamdelkaa
set_option linter.unusedVariables false
set_option linter.unusedSimpArgs false
open Go.ChangeShapes Go.WideShapes Go.ChangeAt Go.RowKit

/-- Rows of the call's own, their lists' numbers unknown. -/
structure Spoilt (w : World) (lo g c : Nat) (cur : List TyR) : Prop where
  row : w.ownsRow lo 31 4 (.slice (some ⟨g, 0, none⟩) cur.length c) cur.length (cur.flatMap TyR.cells4)
  inner : ∀ r ∈ cur, ∃ ys : List Int, ys.length = r.parts.length ∧ OwnInts w lo (.slice r.pa r.parts.length r.pc) ys
theorem OwnInts.over {w : World} {lo : Nat} {v : Value} {ys : List Int} (h : OwnInts w lo v ys) {g j : Nat} {z : Int} (hg : w.grownBy (w.setCell ⟨g, j, none⟩ (.int .i64 z)) (some g)) : ∃ ys' : List Int, ys'.length = ys.length ∧ OwnInts (w.setCell ⟨g, j, none⟩ (.int .i64 z)) lo v ys' := by
  by_cases hb : v.ownBlock = some g
  · rcases h.2 with ⟨rfl, _⟩ | ⟨g', cap, cur, rfl, _⟩
    · simp [Value.ownBlock] at hb
    · have e : g' = g := by simpa [Value.ownBlock] using hb
      subst e
      have h' : w.ownsRow lo 3 1 (.slice (some ⟨g', 0, none⟩) ys.length cap) ys.length (ys.map (Value.int .i64)) := h
      refine ⟨ys.set j z, List.length_set, ?_⟩
      unfold OwnInts
      rw [List.length_set, List.map_set]
      exact (h'.stored j (.int .i64 z)).1
  · exact ⟨ys, rfl, World.ownsRow.kept h hg (.inr hb)⟩
theorem flat_kind (z : Nat) : ∀ (rows : List TyR) (k : Nat), k < rows.length → (rows.flatMap TyR.cells4).set (k * 4) (.int .u8 z) = (rows.set k { rows.getD k default with kind := z }).flatMap TyR.cells4
  | r :: rs, 0, _ => rfl
  | r :: rs, k + 1, h => by
    have ih := flat_kind z rs k (by simpa using h)
    rw [show (k + 1) * 4 = k * 4 + 1 + 1 + 1 + 1 by omega]
    show _ :: _ :: _ :: _ :: ((rs.flatMap TyR.cells4).set (k * 4) (.int .u8 z)) = _
    rw [ih]
    rfl
theorem Spoilt.of {w : World} {lo g c : Nat} {cur : List TyR} (h : OwnTys w lo (.slice (some ⟨g, 0, none⟩) cur.length c) cur) : Spoilt w lo g c cur := ⟨h.row, fun r hr => ⟨r.parts, rfl, (h.inner r hr).1⟩⟩
theorem Spoilt.at_ {w : World} {lo g c : Nat} {cur : List TyR} (h : Spoilt w lo g c cur) {k : Nat} (hk : k < cur.length) {j : Nat} (hj : j < 4) : w.cell? ⟨g, k * 4 + j, none⟩ = some ((cur.getD k default).cells4.getD j undef) := by
  rw [h.row.cellAt (k * 4 + j) (by omega)]
  have hf := flat_getD TyR.cells4 4 (fun _ => rfl) default cur k j hk hj
  rw [List.getD_eq_getElem?_getD] at hf
  have hlt : k * 4 + j < (cur.flatMap TyR.cells4).length := by rw [flat_len]; omega
  rw [List.getElem?_eq_getElem hlt] at hf ⊢
  exact congrArg some hf
/-- A number written into the list of row k. -/
theorem Spoilt.part {w : World} {lo g c : Nat} {cur : List TyR} (h : Spoilt w lo g c cur) {k : Nat} (hk : k < cur.length) {j : Nat} (hj : j < (cur.getD k default).parts.length) :
    ∃ b, (cur.getD k default).pa = some ⟨b, 0, none⟩ ∧ lo ≤ b ∧ (∃ x, w.cell? ⟨b, j, none⟩ = some (.int .i64 x)) ∧ w.frozen? ⟨b, j, none⟩ = false ∧ ∀ z : Int, Spoilt (w.setCell ⟨b, j, none⟩ (.int .i64 z)) lo g c cur := by
  obtain ⟨ys, hl, ho⟩ := h.inner _ (mem_getD (d := default) hk)
  have ho2 := ho
  rw [← hl] at ho2
  obtain ⟨b, hA, hb, hc, hf, _⟩ := ho2.spot (j := j) (by omega)
  refine ⟨b, hA, hb, ⟨_, hc⟩, hf, fun z => ?_⟩
  have ho3 : w.ownsRow lo 3 1 (.slice (some ⟨b, 0, none⟩) ys.length (cur.getD k default).pc) ys.length (ys.map (Value.int .i64)) := by rw [← hA]; exact ho2
  have hg := (ho3.stored j (.int .i64 z)).2
  refine ⟨World.ownsRow.kept h.row hg ?_, fun r hr => ?_⟩
  · have := rows_ne h.row ho3 (by decide)
    exact this
  · obtain ⟨ys2, hl2, ho4⟩ := h.inner r hr
    obtain ⟨ys3, hl3, ho5⟩ := ho4.over hg
    exact ⟨ys3, by rw [hl3, hl2], ho5⟩
/-- A kind written into row k. -/
theorem Spoilt.kind {w : World} {lo g c : Nat} {cur : List TyR} (h : Spoilt w lo g c cur) {k : Nat} (hk : k < cur.length) (z : Nat) :
    lo ≤ g ∧ w.frozen? ⟨g, k * 4, none⟩ = false ∧ ∃ cur', cur'.length = cur.length ∧ (∀ j, (cur'.getD j default).parts = (cur.getD j default).parts) ∧ Spoilt (w.setCell ⟨g, k * 4, none⟩ (.int .u8 z)) lo g c cur' := by
  obtain ⟨h1, h2⟩ := h.row.stored (k * 4) (.int .u8 z)
  rw [flat_kind z cur k hk] at h1
  refine ⟨own_base h.row g rfl, h.row.frozenAt _, cur.set k { cur.getD k default with kind := z }, List.length_set, fun j => ?_, ?_, fun r hr => ?_⟩
  · by_cases hjk : k = j
    · subst hjk; rw [getD_set_eq _ _ hk]
    · rw [getD_set_ne _ _ hjk]
  · rw [List.length_set]; exact h1
  · rcases List.mem_or_eq_of_mem_set hr with hr | rfl
    · obtain ⟨ys, hl, ho⟩ := h.inner r hr
      exact ⟨ys, hl, World.ownsRow.kept ho h2 (rows_ne ho h.row (by decide))⟩
    · obtain ⟨ys, hl, ho⟩ := h.inner _ (mem_getD (d := default) hk)
      exact ⟨ys, hl, World.ownsRow.kept ho h2 (rows_ne ho h.row (by decide))⟩
end Go.Proofs.Ytphoomlamdelkaa
