/-
  Lists of arrows, copied, made.
-/
import Derived.Test.YtohoihicmmidmaaKnEq
namespace Go.Proofs.Ytohoihicmmidmaa
set_option linter.unusedVariables false
set_option linter.unusedSimpArgs false
open Go.Instr
open Go.ChangeShapes Go.WideShapes Go.ChangeAt Go.RowKit Kn

theorem arrInfo : (Try.prog.info? 32).map (fun i => (i.zero, i.size, i.bytes)) = some (some (.agg #[.int .i64 0, .int .i64 0]), 2, 16) := by kernel_rfl
theorem arr_flat (l : List (Int × Int)) : (l.flatMap arr2).length = l.length * 2 := by
  induction l with
  | nil => rfl
  | cons r rs ih => rw [List.flatMap_cons, List.length_append, ih, List.length_cons]; show 2 + _ = _; omega
theorem flat_at : ∀ (l : List (Int × Int)) (i j : Nat), i < l.length → j < 2 → (l.flatMap arr2)[i * 2 + j]? = some (arrCell (l.getD i (0, 0)) j)
  | [], i, j, hi, _ => by cases hi
  | p :: l, 0, j, _, hj => by
    rw [List.flatMap_cons, List.getElem?_append_left (by show 0 * 2 + j < 2; omega)]
    match j, hj with
    | 0, _ => rfl
    | 1, _ => rfl
  | p :: l, i + 1, j, hi, hj => by
    rw [List.flatMap_cons, List.getElem?_append_right (by show 2 ≤ (i + 1) * 2 + j; omega)]
    rw [show (i + 1) * 2 + j - (arr2 p).length = i * 2 + j by show (i + 1) * 2 + j - 2 = _; omega]
    rw [flat_at l i j (by simpa using hi) hj]
    rfl
theorem ArsAt.news {w : World} {lo B : Nat} {A : Option Addr} {l : List (Int × Int)} (h : ArsAt w lo B A l) : ∀ ad, A = some ad → ∀ j u, (l.flatMap arr2)[j]? = some u → w.cell? (ad.add j) = some u := by
  intro ad hA j u hj
  obtain ⟨hlt, _⟩ := List.getElem?_eq_some_iff.1 hj
  rw [arr_flat] at hlt
  obtain ⟨b, off, e, _, _, hc⟩ := h (by omega)
  rw [hA] at e
  injection e with e
  subst e
  rw [add_lit]
  have h1 := hc (j / 2) (by omega) (j % 2) (by omega)
  have h2 := flat_at l (j / 2) (j % 2) (by omega) (by omega)
  rw [show j / 2 * 2 + j % 2 = j by omega] at h2
  rw [hj] at h2
  rw [show off + j / 2 * 2 + j % 2 = off + j by omega] at h1
  rw [h1, h2]
theorem arrs_own {w : World} {lo : Nat} {v : Value} {l : List (Int × Int)} (h : w.ownsRow lo 32 2 v l.length (l.flatMap arr2)) : ∃ A c, v = .slice A l.length c ∧ GIn w A c l := by
  obtain ⟨A, c, hv, hle, hcap, hnil, hc⟩ := ownsRow_form h (by omega)
  refine ⟨A, c, hv, ⟨hle, hcap, hnil⟩, ?_⟩
  unfold ArsAt
  refine (hc.more (Nat.zero_le _) (Nat.le_refl _)).congr fun i hi j hj => ?_
  rw [List.getD_eq_getElem?_getD, flat_at l i j hi hj]
  rfl
/-- A list of arrows that is not too long, copied. -/
theorem wpList_appG {w : World} {ops : Array Oper} {rest : List Oper} {o : Oper} {a : Act} {Q : Exit → Act → World → Prop} (hgd : o.guard = none) (s x : Operand)
    (ho : o.op = .call { callee := .builtin .append, args := #[s, x], argTypes := #[22, 22] }) (hs : a.eval s = .slice (some ⟨w.heap.size, 0, none⟩) 0 0)
    {A : Option Addr} {c : Nat} {l : List (Int × Int)} (hx : a.eval x = .slice A l.length c) (h0 : GIn w A c l) (hl : l.length ≤ 10000)
    (h : ∀ v' w', GIn w' A c l → (∃ A' c', v' = .slice A' l.length c' ∧ GIn w' A' c' l) → Below w.heap.size w w' → wpList Try.prog ops Q rest (a.put o.dst v') w') : wpList Try.prog ops Q (o :: rest) a (w.alloc (.cells #[] 32)) := by
  obtain ⟨i0, hi, hz0, hz1, hz2⟩ := info_parts arrInfo
  have hb : Below w.heap.size w (w.alloc (.cells #[] 32)) := (Below.refl _ _).alloc (Nat.le_refl _) _
  have hx1 := h0.on hb
  refine wpList_app (P := Try.prog) hgd s x 22 ho w.heap.size 32 i0 _ 2 16 Try.underlying22 hi hz0 hz1 hz2 rfl (by decide) _ 0 [] hs (World.ownsRow_lit w #[] 0 (Nat.le_refl _) (by unfold maxLen; omega) rfl) A l.length c (l.flatMap arr2) hx h0.hdr.nil (arr_flat l) hx1.ars.news ?_ ?_ ?_ (by simp) ?_
  · intro u hu
    obtain ⟨p, _, hp⟩ := List.mem_flatMap.1 hu
    simp only [arr2, List.mem_cons, List.not_mem_nil, or_false] at hp
    rcases hp with rfl | rfl <;> rfl
  · unfold maxLen; omega
  · omega
  · intro v' w' h1 h2
    rw [Nat.zero_add, List.nil_append] at h1
    have hbb : Below w.heap.size w w' := hb.grown h2 (by simp) (fun k hk => by have : w.heap.size = k := Option.some.inj hk; omega)
    exact h v' w' (h0.on hbb) (arrs_own h1) hbb
end Go.Proofs.Ytohoihicmmidmaa
