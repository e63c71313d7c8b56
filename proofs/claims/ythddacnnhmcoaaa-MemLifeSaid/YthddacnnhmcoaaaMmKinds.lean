/-
  Lists of kinds: copied, turned to texts; how great a memory is that New makes.
-/
import Derived.Test.YthddacnnhmcoaaaMmNew1
import Derived.Test.YthddacnnhmcoaaaMmSpoil
import Derived.Laws.BytesArg
namespace Go.Proofs.Ythddacnnhmcoaaa
set_option linter.unusedVariables false
set_option linter.unusedSimpArgs false
open Go.ChangeShapes Go.WideShapes Go.ChangeAt Go.RowKit

theorem u8Info : (Try.prog.info? 5).map (fun i => (i.zero, i.size, i.bytes)) = some (some (.int .u8 0), 1, 1) := by kernel_rfl
theorem KindsAt.news {w : World} {A : Option Addr} {c : Nat} {l : List Int} (h : KindsAt w A c l) : ∀ ad, A = some ad → ∀ j u, (l.map (Value.int .u8))[j]? = some u → w.cell? (ad.add j) = some u := by
  intro ad hA q u hq
  obtain ⟨hlt, hu⟩ := List.getElem?_eq_some_iff.1 hq
  rw [List.length_map] at hlt
  obtain ⟨b, off, e, h1, h2, hc⟩ := h.cells (by omega)
  rw [hA] at e
  injection e with e
  subst e
  have hcc := hc q hlt 0 (by omega)
  rw [Nat.mul_one, Nat.add_zero] at hcc
  rw [add_lit, hcc, ← hu]
  simp [List.getD, List.getElem?_eq_getElem hlt]
/-- A copy of a list of kinds. -/
theorem wpList_appK {w : World} {ops : Array Oper} {rest : List Oper} {o : Oper} {a : Act} {Q : Exit → Act → World → Prop} (hgd : o.guard = none) (s x : Operand)
    (ho : o.op = .call { callee := .builtin .append, args := #[s, x], argTypes := #[25, 25] })
    (hs : a.eval s = .slice (some ⟨w.heap.size, 0, none⟩) 0 0) {A : Option Addr} {c : Nat} {l : List Int} (hx : a.eval x = .slice A l.length c) (hk : KindsAt w A c l) (hlen : l.length ≤ 1000)
    (h : ∀ A' c' w', KindsAt w' A' c' l → Below w.heap.size w w' → wpList Try.prog ops Q rest (a.put o.dst (.slice A' l.length c')) w') :
    wpList Try.prog ops Q (o :: rest) a (w.alloc (.cells #[] 5)) := by
  obtain ⟨i0, hi, hz0, hz1, hz2⟩ := info_parts u8Info
  have hb0 : Below w.heap.size w (w.alloc (.cells #[] 5)) := (Below.refl _ _).alloc (Nat.le_refl _) _
  refine wpList_app hgd s x 25 ho w.heap.size 5 i0 _ 1 1 Try.underlying25 hi hz0 hz1 hz2 rfl (by decide) _ 0 [] hs (World.ownsRow_lit w #[] 0 (Nat.le_refl _) (by unfold maxLen; omega) rfl) A l.length c (l.map (Value.int .u8)) hx hk.hdr.nil (by simp) (hk.on hb0).news ?_ (by unfold maxLen; omega) (by omega) hb0.size ?_
  · intro u hu
    obtain ⟨n, _, rfl⟩ := List.mem_map.1 hu
    rfl
  · intro v' w' h1 h2
    rw [Nat.zero_add, List.nil_append] at h1
    obtain ⟨A', c', rfl, q1, q2, q3, q4⟩ := ownsRow_form h1 (by omega)
    refine h A' c' w' ⟨⟨q1, q2, q3⟩, ?_⟩ (Below.grown hb0 h2 hb0.size fun k hk => by have : w.heap.size = k := Option.some.inj hk; omega)
    refine (q4.more (Nat.zero_le _) (Nat.le_refl _)).congr fun i hi j hj => ?_
    obtain rfl : j = 0 := by omega
    simp [List.getD, List.getElem?_eq_getElem hi]
/-- The text of a list of kinds. -/
theorem conv_kinds {w : World} {A : Option Addr} {c : Nat} {l : List Int} (h : KindsAt w A c l) : (convert 25 9 (.slice A l.length c)).run Try.prog w = .ok (.string (strOfNums l)) w := by
  by_cases hn : 0 < l.length
  · obtain ⟨b, off, rfl, _, _, hc⟩ := h.cells hn
    refine run_convert_bytes_arg w 25 5 Try.underlying25 Try.underlying5 b off l.length c l rfl (fun i hi => ?_) 9 Try.underlying9
    have := hc i hi 0 (by omega)
    rwa [Nat.mul_one, Nat.add_zero] at this
  · have hl : l = [] := List.eq_nil_of_length_eq_zero (by omega)
    subst hl
    cases A with
    | none => exact run_convert_bytes_nil w 25 5 Try.underlying25 Try.underlying5 _ c 9 Try.underlying9
    | some ad =>
      rw [run_convert_bytes_string w 25 9 5 (some ad) ([] : List Int).length c Try.underlying25 Try.underlying5 Try.underlying9, run_bytesToString w ad ([] : List Int).length c [] (by simp [loadCells, loadCellsFrom])]
      rfl
/-- No memory of the laws is great: 40 blocks of 40 cells. -/
theorem few40 {rows : List BkR} (hg : greatM rows = false) : rows.length ≤ 40 ∧ ∀ r ∈ rows, r.cells.length ≤ 40 := by
  unfold greatM at hg
  rw [Bool.or_eq_false_iff, Bool.not_eq_false', decide_eq_false_iff_not] at hg
  obtain ⟨h1, h2⟩ := hg
  rw [List.take_of_length_le (by omega)] at h1
  refine ⟨by omega, fun r hr => ?_⟩
  have := List.all_eq_true.1 h1 r hr
  have := of_decide_eq_true this
  omega
theorem FewB.make {rows : List BkR} (hg : greatM rows = false) (si ki de : Int) {l : List Int} (hl : l.length ≤ 40) : FewB (newM (mmb rows) si ki de l) := by
  obtain ⟨h1, h2⟩ := few40 hg
  unfold newM
  split
  · refine ⟨by rw [List.length_append, mmb_len]; simp; omega, fun b hb => ?_⟩
    rcases List.mem_append.1 hb with hb | hb
    · obtain ⟨r, hr, rfl⟩ := List.mem_map.1 hb
      have := h2 r hr
      show r.cells.length ≤ 1000
      omega
    · obtain rfl := List.mem_singleton.1 hb
      show (l.map firstV).length ≤ 1000
      rw [List.length_map]; omega
  · exact FewB.nil
theorem FewB.pop {m : List Bk} (h : FewB m) (d : Int) : FewB (popM m d) := by
  unfold popM
  split
  · refine ⟨by rw [List.length_map]; exact h.1, fun b hb => ?_⟩
    obtain ⟨x, hx, rfl⟩ := List.mem_map.1 hb
    have := h.2 x hx
    unfold popB
    split
    · exact this
    · exact this
  · exact FewB.nil
end Go.Proofs.Ythddacnnhmcoaaa
