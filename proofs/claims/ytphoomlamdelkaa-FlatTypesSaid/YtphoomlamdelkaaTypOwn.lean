/-
  Tables of types that the call owns.
-/
import Derived.Test.YtphoomlamdelkaaTyp
import Derived.Test.YtphoomlamdelkaaAppInts
import Derived.Test.YtphoomlamdelkaaAppS
namespace Go.Proofs.Ytphoomlamdelkaa
set_option linter.unusedVariables false
set_option linter.unusedSimpArgs false
open Go.ChangeShapes Go.WideShapes Go.ChangeAt Go.RowKit

def TyR.cells4 (r : TyR) : List Value := [.int .u8 r.kind, .int .i64 r.elem, .int .i64 r.many, .slice r.pa r.parts.length r.pc]
structure OwnTys (w : World) (lo : Nat) (v : Value) (rows : List TyR) : Prop where
  row : w.ownsRow lo 31 4 v rows.length (rows.flatMap TyR.cells4)
  inner : ∀ r ∈ rows, OwnInts w lo (.slice r.pa r.parts.length r.pc) r.parts ∧ r.kind ≤ 255
theorem flat_getD {α : Type} (f : α → List Value) (size : Nat) (hf : ∀ x, (f x).length = size) (d : α) : ∀ (l : List α) (i j : Nat), i < l.length → j < size → (l.flatMap f).getD (i * size + j) undef = (f (l.getD i d)).getD j undef
  | x :: l, 0, j, _, hj => by
    rw [List.flatMap_cons, Nat.zero_mul, Nat.zero_add, List.getD_eq_getElem?_getD, List.getElem?_append_left (by rw [hf]; exact hj), ← List.getD_eq_getElem?_getD]
    rfl
  | x :: l, i + 1, j, hi, hj => by
    rw [List.flatMap_cons, List.getD_eq_getElem?_getD, List.getElem?_append_right (by rw [hf, Nat.add_mul]; omega), hf, show (i + 1) * size + j - size = i * size + j by rw [Nat.add_mul]; omega, ← List.getD_eq_getElem?_getD, flat_getD f size hf d l i j (by simpa using hi) hj]
    rfl
theorem own_hdr {w : World} {lo : Nat} {A : Option Addr} {c : Nat} {xs : List Int} (h : OwnInts w lo (.slice A xs.length c) xs) : Hdr A xs.length c ∧ IntsAt w lo w.heap.size A xs := by
  obtain ⟨A', c', e, hnil, hints, hle, hcap⟩ := h.form
  injection e with e1 e2 e3
  subst e1 e3
  exact ⟨⟨hle, hcap, hnil⟩, hints⟩
section
variable {w w' : World} {lo lo' : Nat} {v : Value} {rows : List TyR}
theorem OwnTys.nil (w : World) (lo : Nat) : OwnTys w lo (.slice none 0 0) [] := ⟨World.ownsRow_nil _ _ _ _, fun r hr => by cases hr⟩
theorem OwnTys.keep (h : OwnTys w lo v rows) (hb : Below w.heap.size w w') : OwnTys w' lo v rows := ⟨ownsRow_keep h.row hb, fun r hr => ⟨(h.inner r hr).1.keep hb, (h.inner r hr).2⟩⟩
theorem OwnTys.more (h : OwnTys w lo v rows) (hl : lo' ≤ lo) : OwnTys w lo' v rows := ⟨ownsRow_more h.row hl, fun r hr => ⟨(h.inner r hr).1.more hl, (h.inner r hr).2⟩⟩
theorem OwnTys.form (h : OwnTys w lo v rows) : ∃ A c, v = .slice A rows.length c ∧ Hdr A rows.length c ∧ TypsAt w lo w.heap.size A rows := by
  obtain ⟨A, c, hv, hle, hcap, hnil, hc⟩ := ownsRow_form h.row (by omega)
  refine ⟨A, c, hv, ⟨hle, hcap, hnil⟩, ⟨hc.congr fun i hi j hj => ?_, fun r hr => ?_⟩⟩
  · rw [flat_getD TyR.cells4 4 (fun _ => rfl) default rows i j hi hj]
    match j, hj with
    | 0, _ => rfl
    | 1, _ => rfl
    | 2, _ => rfl
    | 3, _ => rfl
  · obtain ⟨h1, h2⟩ := h.inner r hr
    obtain ⟨h3, h4⟩ := own_hdr h1
    exact ⟨h2, h3, h4⟩
/-- One row more. -/
theorem OwnTys.push {r : TyR} (h : OwnTys w lo v rows) {v' : Value} (hr : w'.ownsRow lo 31 4 v' (rows.length + 1) (rows.flatMap TyR.cells4 ++ r.cells4))
    (hg : w.grownBy w' v.ownBlock) (hne : ∀ r ∈ rows, (Value.slice r.pa r.parts.length r.pc).ownBlock = none ∨ (Value.slice r.pa r.parts.length r.pc).ownBlock ≠ v.ownBlock) (hi : OwnInts w lo (.slice r.pa r.parts.length r.pc) r.parts) (hne' : (Value.slice r.pa r.parts.length r.pc).ownBlock = none ∨ (Value.slice r.pa r.parts.length r.pc).ownBlock ≠ v.ownBlock) (hk : r.kind ≤ 255) : OwnTys w' lo v' (rows ++ [r]) := by
  refine ⟨by rw [List.length_append, List.flatMap_append]; simpa using hr, fun q hq => ?_⟩
  rcases List.mem_append.1 hq with hq | hq
  · obtain ⟨h1, h2⟩ := h.inner q hq
    exact ⟨World.ownsRow.kept h1 hg (hne q hq), h2⟩
  · obtain rfl := List.mem_singleton.1 hq
    exact ⟨World.ownsRow.kept hi hg hne', hk⟩
end
/-- Rows of two types are two rows. -/
theorem rows_ne {w : World} {lo lo' : Nat} {e e' : TypeId} {size size' n n' : Nat} {v v' : Value} {xs xs' : List Value} (h : w.ownsRow lo e size v n xs) (h' : w.ownsRow lo' e' size' v' n' xs') (hne : e ≠ e') : v.ownBlock = none ∨ v.ownBlock ≠ v'.ownBlock := by
  rcases h.2 with ⟨rfl, _⟩ | ⟨g, cap, cur, rfl, hb, hh, _⟩
  · exact .inl rfl
  · right
    rcases h'.2 with ⟨rfl, _⟩ | ⟨g', cap', cur', rfl, hb', hh', _⟩
    · simp [Value.ownBlock]
    · intro he
      have : g = g' := by simpa [Value.ownBlock] using he
      subst this
      rw [hh] at hh'
      injection hh' with hh'
      injection hh' with _ ht _
      exact hne ht
end Go.Proofs.Ytphoomlamdelkaa
