/-
  Plain law of lines: what is read may be joined. No program in sight.
-/
import Derived.Test.YtbkgcikhiomenaaLexLaw
namespace Go.Proofs.Ytbkgcikhiomenaa
set_option linter.unusedVariables false
set_option linter.unusedSimpArgs false
open Go.RowKit

theorem cut_all (x : UInt8) : ∀ t : Bs, ∀ p ∈ cutB x t, ∀ c ∈ p, c ∈ t ∧ c ≠ x
  | [], p, hp, c, hc => by
    obtain rfl := List.mem_singleton.1 hp
    cases hc
  | d :: t, p, hp, c, hc => by
    by_cases h : d = x
    · subst h
      rw [cut_at] at hp
      rcases List.mem_cons.1 hp with rfl | hp
      · cases hc
      · obtain ⟨h1, h2⟩ := cut_all _ t p hp c hc
        exact ⟨List.mem_cons_of_mem _ h1, h2⟩
    · rw [cut_on h] at hp
      rw [cut_head x t] at *
      rcases List.mem_cons.1 hp with rfl | hp
      · rcases List.mem_cons.1 hc with rfl | hc
        · exact ⟨List.mem_cons_self, h⟩
        · obtain ⟨h1, h2⟩ := cut_all x t ((cutB x t).headD []) (by rw [cut_head x t]; exact List.mem_cons_self) c hc
          exact ⟨List.mem_cons_of_mem _ h1, h2⟩
      · obtain ⟨h1, h2⟩ := cut_all x t p (by rw [cut_head x t]; exact List.mem_cons_of_mem _ hp) c hc
        exact ⟨List.mem_cons_of_mem _ h1, h2⟩
theorem words_may {p : Bs} (h10 : ∀ c ∈ p, c ≠ 10) {w : Bs} (hw : w ∈ wordsR p) : mayW w = true := by
  unfold wordsR at hw
  obtain ⟨hm, hne⟩ := List.mem_filter.1 hw
  unfold mayW spB
  rw [Bool.and_eq_true, Bool.not_eq_true', Bool.not_eq_true']
  refine ⟨by simpa using hne, ?_⟩
  rw [List.any_eq_false]
  intro c hc
  obtain ⟨h1, h2⟩ := cut_all 32 _ w hm c hc
  obtain ⟨d, hd, he⟩ := List.mem_map.1 h1
  have hd35 := cut_no 35 p d hd
  have hdp : d ∈ p := (cut_all 35 p _ (by rw [cut_head 35 p]; exact List.mem_cons_self) d hd).1
  have hd10 := h10 d hdp
  by_cases h9 : d = 9 ∨ d = 13
  · rw [if_pos h9] at he
    exact absurd he.symm h2
  · rw [if_neg h9] at he
    subst he
    unfold isPlain isBlank
    simp only [Bool.not_not, Bool.or_eq_true, beq_iff_eq, not_or]
    exact ⟨⟨⟨⟨h2, fun e => h9 (.inl e)⟩, fun e => h9 (.inr e)⟩, hd10⟩, hd35⟩
def lens (l : List Bs) : Nat := (l.map List.length).sum
theorem lens_cons (p : Bs) (l : List Bs) : lens (p :: l) = p.length + lens l := by unfold lens; rw [List.map_cons, List.sum_cons]
theorem cut_lens (x : UInt8) : ∀ t : Bs, lens (cutB x t) ≤ t.length
  | [] => Nat.le_refl _
  | d :: t => by
    have ih := cut_lens x t
    by_cases h : d = x
    · subst h
      rw [cut_at, lens_cons, List.length_cons]
      simp only [List.length_nil]
      omega
    · rw [cut_on h, lens_cons, List.length_cons, List.length_cons]
      rw [cut_head x t, lens_cons] at ih
      omega
theorem lens_filter (f : Bs → Bool) : ∀ l : List Bs, lens (l.filter f) ≤ lens l
  | [] => Nat.le_refl _
  | p :: l => by
    have ih := lens_filter f l
    rw [List.filter_cons]
    split
    · rw [lens_cons, lens_cons]; omega
    · rw [lens_cons]; omega
theorem words_lens (p : Bs) : lens (wordsR p) ≤ p.length := by
  have h1 : lens (wordsR p) ≤ lens (cutB 32 (spaced ((cutB 35 p).headD []))) := lens_filter _ _
  have h2 := cut_lens 32 (spaced ((cutB 35 p).headD []))
  have h3 : (spaced ((cutB 35 p).headD [])).length = ((cutB 35 p).headD []).length := by unfold spaced; rw [List.length_map]
  have h4 := cut_lens 35 p
  rw [cut_head 35 p, lens_cons] at h4
  omega
theorem line_len : ∀ ws : List Bs, (∀ w ∈ ws, 0 < w.length) → (ws.flatMap fun w => 32 :: w).length ≤ 2 * lens ws
  | [], _ => Nat.le_refl _
  | w :: ws, h => by
    have ih := line_len ws fun v hv => h v (List.mem_cons_of_mem _ hv)
    have hw := h w List.mem_cons_self
    rw [List.flatMap_cons, List.length_append, List.length_cons, lens_cons]
    omega
theorem lineT_le {ws : List Bs} (h : mayL ws = true) : (lineT ws).length ≤ 2 * lens ws := by
  unfold mayL at h
  rw [Bool.and_eq_true, List.all_eq_true] at h
  have hpos : ∀ w ∈ ws, 0 < w.length := fun w hw => by
    have := h.2 w hw
    unfold mayW at this
    rw [Bool.and_eq_true] at this
    cases w with
    | nil => exact absurd this.1 (by decide)
    | cons => exact Nat.succ_pos _
  have h1 := line_len ws hpos
  have h2 : 0 < (ws.flatMap fun w => 32 :: w).length := by
    cases ws with
    | nil => exact absurd h.1 (by decide)
    | cons w t => rw [List.flatMap_cons, List.cons_append, List.length_cons]; exact Nat.succ_pos _
  unfold lineT wordsT
  rw [List.length_append, List.length_drop]
  simp only [List.length_cons, List.length_nil]
  omega
theorem text_le : ∀ (l : List Bs) , (textT ((l.map wordsR).filter fun ws => !ws.isEmpty)).length ≤ 2 * lens l ∨ ¬ ∀ p ∈ l, ∀ c ∈ p, c ≠ 10
  | [] => .inl (Nat.le_refl _)
  | p :: l => by
    by_cases h10 : ∀ q ∈ p :: l, ∀ c ∈ q, c ≠ 10
    · left
      rcases text_le l with ih | ih
      · rw [List.map_cons, List.filter_cons, lens_cons]
        split
        · rename_i hne
          have hm : mayL (wordsR p) = true := by
            unfold mayL
            rw [Bool.and_eq_true, List.all_eq_true]
            exact ⟨hne, fun w hw => words_may (h10 p List.mem_cons_self) hw⟩
          have h1 := lineT_le hm
          have h2 := words_lens p
          show (lineT (wordsR p) ++ textT _).length ≤ _
          rw [List.length_append]
          have ih' : (textT ((l.map wordsR).filter fun ws => !ws.isEmpty)).length ≤ 2 * lens l := ih
          omega
        · have ih' : (textT ((l.map wordsR).filter fun ws => !ws.isEmpty)).length ≤ 2 * lens l := ih
          omega
      · exact absurd (fun q hq => h10 q (List.mem_cons_of_mem _ hq)) ih
    · exact .inr h10
/-- What has lines may be joined. -/
theorem lines_join {s : Bs} {m : List (List Bs)} (hs : s.length ≤ 8000) (h : linesP s = some m) : joinP m = (textT m, 0) := by
  unfold linesP at h
  rw [if_neg (by omega)] at h
  obtain ⟨h1, h2⟩ := raw_some h
  have h10 : ∀ p ∈ cutB 10 s, ∀ c ∈ p, c ≠ 10 := fun p hp c hc => (cut_all 10 s p hp c hc).2
  have hmem : ∀ ws ∈ m, ∃ p ∈ cutB 10 s, wordsR p = ws ∧ (!ws.isEmpty) = true := fun ws hw => by
    rw [← h2] at hw
    obtain ⟨h3, h4⟩ := List.mem_filter.1 hw
    obtain ⟨p, hp, e⟩ := List.mem_map.1 h3
    exact ⟨p, hp, e, h4⟩
  refine joinP_ok ?_ ?_ ?_
  · unfold mayP
    rw [List.all_eq_true]
    intro ws hw
    obtain ⟨p, hp, e, hne⟩ := hmem ws hw
    unfold mayL
    rw [Bool.and_eq_true, List.all_eq_true]
    refine ⟨hne, fun v hv => words_may (h10 p hp) (by rw [e]; exact hv)⟩
  · intro ws hw
    obtain ⟨p, hp, e, hne⟩ := hmem ws hw
    have := (List.any_eq_false.1 h1) ws (by rw [← e]; exact List.mem_map.2 ⟨p, hp, rfl⟩)
    have := of_decide_eq_false (by simpa using this : decide (64 < ws.length) = false)
    omega
  · rcases text_le (cutB 10 s) with h3 | h3
    · have h4 := cut_lens 10 s
      rw [← h2]
      have h5 : (textT (((cutB 10 s).map wordsR).filter fun ws => !ws.isEmpty)).length ≤ 2 * lens (cutB 10 s) := h3
      show (textT ((rawL s).filter fun l => !l.isEmpty)).length ≤ 16384
      unfold rawL
      omega
    · exact absurd h10 h3
/-- The lines of a text: how many, and how great. -/
theorem lines_few {s : Bs} {m : List (List Bs)} (h : linesP s = some m) : m.length ≤ s.length + 1 ∧ ∀ ws ∈ m, ws.length ≤ 64 ∧ ∀ w ∈ ws, w.length ≤ s.length := by
  unfold linesP at h
  split at h
  · cases h
  · obtain ⟨h1, h2⟩ := raw_some h
    refine ⟨?_, fun ws hw => ?_⟩
    · have h3 : m.length ≤ (rawL s).length := by rw [← h2]; exact List.length_filter_le _ _
      have h4 : ∀ t : Bs, (cutB 10 t).length ≤ t.length + 1 := by
        intro t
        induction t with
        | nil => exact Nat.le_refl _
        | cons c t ih =>
          by_cases e : c = 10
          · subst e; rw [cut_at, List.length_cons, List.length_cons]; omega
          · rw [cut_on e, List.length_cons, List.length_cons]
            rw [cut_head 10 t, List.length_cons] at ih
            omega
      have h5 := h4 s
      unfold rawL at h3
      rw [List.length_map] at h3
      omega
    · rw [← h2] at hw
      obtain ⟨h3, h4⟩ := List.mem_filter.1 hw
      have := (List.any_eq_false.1 h1) ws h3
      have := of_decide_eq_false (by simpa using this : decide (64 < ws.length) = false)
      refine ⟨by omega, fun w hw2 => ?_⟩
      obtain ⟨p, hp, e⟩ := List.mem_map.1 h3
      have h5 := words_lens p
      rw [e] at h5
      have h6 : w.length ≤ lens ws := by
        unfold lens
        have : ∀ l : List Nat, ∀ x ∈ l, x ≤ l.sum := fun l => by
          induction l with
          | nil => intro x hx; cases hx
          | cons a t ih =>
            intro x hx
            rw [List.sum_cons]
            rcases List.mem_cons.1 hx with rfl | hx
            · omega
            · have := ih x hx; omega
        exact this _ _ (List.mem_map.2 ⟨w, hw2, rfl⟩)
      have h7 := cut_lens 10 s
      have h8 : p.length ≤ lens (cutB 10 s) := by
        unfold lens
        have : ∀ l : List Nat, ∀ x ∈ l, x ≤ l.sum := fun l => by
          induction l with
          | nil => intro x hx; cases hx
          | cons a t ih =>
            intro x hx
            rw [List.sum_cons]
            rcases List.mem_cons.1 hx with rfl | hx
            · omega
            · have := ih x hx; omega
        exact this _ _ (List.mem_map.2 ⟨p, hp, rfl⟩)
      omega
end Go.Proofs.Ytbkgcikhiomenaa
