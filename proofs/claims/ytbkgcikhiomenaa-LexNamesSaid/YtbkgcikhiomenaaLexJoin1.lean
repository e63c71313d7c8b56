/-
  Plain law: the text of lines.
-/
import Derived.Test.YtbkgcikhiomenaaLexAny
import Derived.Test.YtbkgcikhiomenaaLexRef4
namespace Go.Proofs.Ytbkgcikhiomenaa
set_option linter.unusedVariables false
set_option linter.unusedSimpArgs false
open Go.ChangeShapes Go.WideShapes Go.ChangeAt Go.RowKit

def mayW (s : Bs) : Bool := !s.isEmpty && !spB s
def mayL (l : List Bs) : Bool := !l.isEmpty && l.all mayW
def mayP (l : List (List Bs)) : Bool := l.all mayL
/-- Words with a blank between. -/
def wordsT (ws : List Bs) : Bs := (ws.flatMap fun w => 32 :: w).drop 1
def lineT (ws : List Bs) : Bs := wordsT ws ++ [10]
def textT (l : List (List Bs)) : Bs := l.flatMap lineT
def overP (l : List (List Bs)) : Bool := l.any (fun ws => decide (64 < ws.length)) || decide (16384 < (textT l).length)
/-- The text of lines, and the error. -/
def joinP (l : List (List Bs)) : Bs × Int := if mayP l then (if overP l then ([], 4) else (textT l, 0)) else ([], 2)
theorem wordsT_snoc (ws : List Bs) (w : Bs) : wordsT (ws ++ [w]) = wordsT ws ++ (if ws.isEmpty then [] else [32]) ++ w := by
  unfold wordsT
  rw [List.flatMap_append]
  cases ws with
  | nil => simp
  | cons a t => simp
theorem textT_snoc (l : List (List Bs)) (ws : List Bs) : textT (l ++ [ws]) = textT l ++ lineT ws := by
  unfold textT
  rw [List.flatMap_append]
  simp
theorem wordsT_len {ws : List Bs} (h : ∀ w ∈ ws, w.length ≤ 20000) : (wordsT ws).length ≤ 20001 * ws.length := by
  have h1 : ∀ l : List Bs, (∀ w ∈ l, w.length ≤ 20000) → (l.flatMap fun w => 32 :: w).length ≤ 20001 * l.length := by
    intro l
    induction l with
    | nil => intro _; exact Nat.zero_le _
    | cons a t ih =>
      intro hl
      have h2 := ih fun w hw => hl w (List.mem_cons_of_mem _ hw)
      have h3 := hl a List.mem_cons_self
      rw [List.flatMap_cons, List.length_append, List.length_cons, List.length_cons]
      omega
  have h2 := h1 ws h
  unfold wordsT
  rw [List.length_drop]
  omega
theorem textT_take (l : List (List Bs)) (k : Nat) : (textT (l.take k)).length ≤ (textT l).length := by
  conv => rhs; rw [← List.take_append_drop k l]
  unfold textT
  rw [List.flatMap_append, List.length_append]
  omega
theorem joinP_arg {l : List (List Bs)} {ws : List Bs} (h : ws ∈ l) (hn : mayL ws = false) : joinP l = ([], 2) := by
  unfold joinP
  rw [if_neg]
  unfold mayP
  rw [List.all_eq_true]
  intro hh
  rw [hh ws h] at hn
  cases hn
theorem joinP_many {l : List (List Bs)} (h : mayP l = true) {k : Nat} (hk : k < l.length) (ho : 64 < (l.getD k []).length ∨ 16384 < (textT (l.take (k + 1))).length) : joinP l = ([], 4) := by
  unfold joinP
  rw [if_pos h, if_pos]
  unfold overP
  rw [Bool.or_eq_true]
  rcases ho with ho | ho
  · left
    rw [List.any_eq_true]
    refine ⟨l.getD k [], ?_, decide_eq_true ho⟩
    rw [List.getD_eq_getElem?_getD, List.getElem?_eq_getElem hk]
    exact List.getElem_mem hk
  · right
    have := textT_take l (k + 1)
    exact decide_eq_true (by omega)
theorem joinP_ok {l : List (List Bs)} (h : mayP l = true) (h1 : ∀ ws ∈ l, ws.length ≤ 64) (h2 : (textT l).length ≤ 16384) : joinP l = (textT l, 0) := by
  unfold joinP
  rw [if_pos h, if_neg]
  unfold overP
  rw [Bool.or_eq_true]
  rintro (ho | ho)
  · obtain ⟨ws, hw, hl⟩ := List.any_eq_true.1 ho
    have := of_decide_eq_true hl
    have := h1 ws hw
    omega
  · have := of_decide_eq_true ho
    omega
/-- Lines that are few, their words not too great. -/
def FewL (rows : List LnR) : Prop := rows.length ≤ 3000 ∧ ∀ r ∈ rows, r.xs.length ≤ 80 ∧ ∀ x ∈ r.xs, x.size ≤ 20000
def JoinOf (rows : List LnR) (w : World) (e : Ending) (w' : World) : Prop :=
  ∃ t er, e = .returned (.tuple #[.string ⟨t.toArray⟩, .int .i64 er]) ∧ joinP (rows.map LnR.data) = (t, er) ∧ Below w.heap.size w w'
theorem data_at {rows : List LnR} {k : Nat} (h : k < rows.length) : (rows.map LnR.data).getD k [] = (rows.getD k default).data := by
  rw [List.getD_eq_getElem?_getD, List.getElem?_map, List.getD_eq_getElem?_getD, List.getElem?_eq_getElem h]
  rfl
theorem data_mem {rows : List LnR} {k : Nat} (h : k < rows.length) : (rows.getD k default).data ∈ rows.map LnR.data := by
  refine List.mem_map_of_mem ?_
  rw [List.getD_eq_getElem?_getD, List.getElem?_eq_getElem h]
  exact List.getElem_mem h
theorem row_mem {rows : List LnR} {k : Nat} (h : k < rows.length) : rows.getD k default ∈ rows := by
  rw [List.getD_eq_getElem?_getD, List.getElem?_eq_getElem h]
  exact List.getElem_mem h
end Go.Proofs.Ytbkgcikhiomenaa
