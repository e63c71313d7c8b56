/-
  Plain law of lines: two texts with a line feed between; what counts for nothing; what is joined is read as that, and the other way round. No program in sight.
-/
import Derived.Test.YtbkgcikhiomenaaLexTells
import Derived.Test.YtbkgcikhiomenaaLexJoin1
namespace Go.Proofs.Ytbkgcikhiomenaa
set_option linter.unusedVariables false
set_option linter.unusedSimpArgs false
open Go.RowKit

/-- All lines' words, empty lines and too long ones too. -/
def rawL (s : Bs) : List (List Bs) := (cutB 10 s).map wordsR
theorem outR_raw (s : Bs) : outR s [] [] = if (rawL s).any (fun l => decide (64 < l.length)) then none else some ((rawL s).filter fun l => !l.isEmpty) := outR_start s
theorem cut_join (x : UInt8) (b : Bs) : ∀ a : Bs, cutB x (a ++ x :: b) = cutB x a ++ cutB x b
  | [] => by rw [List.nil_append, cut_at]; rfl
  | c :: t => by
    have ih := cut_join x b t
    rw [List.cons_append]
    by_cases h : c = x
    · subst h; rw [cut_at, cut_at, ih]; rfl
    · rw [cut_on h, cut_on h, ih]
      conv => lhs; rw [cut_head x t]
      rfl
theorem raw_join (a b : Bs) : rawL (a ++ 10 :: b) = rawL a ++ rawL b := by unfold rawL; rw [cut_join, List.map_append]
theorem cut_tail {x : UInt8} {n : Bs} (hn : ∀ c ∈ n, c ≠ x) : ∀ a : Bs, ∃ p l, cutB x a = p ++ [l] ∧ cutB x (a ++ n) = p ++ [l ++ n]
  | [] => ⟨[], [], rfl, by
    have := cut_app hn []
    rw [List.append_nil] at this
    rw [List.nil_append, this]
    show [n ++ []] = [[] ++ n]
    simp⟩
  | c :: t => by
    obtain ⟨p, l, h1, h2⟩ := cut_tail hn t
    rw [List.cons_append]
    by_cases h : c = x
    · subst h
      rw [cut_at, cut_at, h1, h2]
      exact ⟨[] :: p, l, rfl, rfl⟩
    · rw [cut_on h, cut_on h, h1, h2]
      cases p with
      | nil => exact ⟨[], c :: l, rfl, rfl⟩
      | cons q p => exact ⟨(c :: q) :: p, l, rfl, rfl⟩
theorem raw_tail {n : Bs} (hn : ∀ c ∈ n, c ≠ 10) (hw : ∀ p, wordsR (p ++ n) = wordsR p) (a : Bs) : rawL (a ++ n) = rawL a := by
  obtain ⟨p, l, h1, h2⟩ := cut_tail hn a
  unfold rawL
  rw [h1, h2, List.map_append, List.map_append, List.map_cons, List.map_cons, hw]
theorem raw_blank {c : UInt8} (h : isBlank c = true) (s : Bs) : rawL (c :: s) = rawL s := by
  have h10 : c ≠ 10 := by rintro rfl; exact absurd h (by decide)
  unfold rawL
  rw [cut_on h10, List.map_cons, words_blank h]
  conv => rhs; rw [cut_head 10 s]
  rfl
theorem head_hash (q : Bs) : ∀ p : Bs, (cutB 35 (p ++ 35 :: q)).headD [] = (cutB 35 p).headD []
  | [] => by rw [List.nil_append, cut_at]; rfl
  | c :: t => by
    rw [List.cons_append]
    by_cases h : c = 35
    · subst h; rw [cut_at, cut_at]; rfl
    · rw [cut_on h, cut_on h]
      show c :: _ = c :: _
      rw [head_hash q t]
theorem words_noise (q p : Bs) : wordsR (p ++ 35 :: q) = wordsR p := by unfold wordsR; rw [head_hash]
theorem head_blank {c : UInt8} (h : c ≠ 35) : ∀ p : Bs, (cutB 35 (p ++ [c])).headD [] = (cutB 35 p).headD [] ∨ (cutB 35 (p ++ [c])).headD [] = (cutB 35 p).headD [] ++ [c]
  | [] => by right; rw [List.nil_append, cut_on h]; rfl
  | d :: t => by
    rw [List.cons_append]
    by_cases h2 : d = 35
    · subst h2; left; rw [cut_at, cut_at]; rfl
    · rw [cut_on h2, cut_on h2]
      rcases head_blank h t with e | e
      · left; show d :: _ = d :: _; rw [e]
      · right; show d :: _ = (d :: _) ++ [c]; rw [e]; rfl
theorem words_tail {c : UInt8} (h : isBlank c = true) (p : Bs) : wordsR (p ++ [c]) = wordsR p := by
  have h35 : c ≠ 35 := by rintro rfl; exact absurd h (by decide)
  have hs : (if c = 9 ∨ c = 13 then 32 else c) = 32 := by
    unfold isBlank at h
    simp only [Bool.or_eq_true, beq_iff_eq] at h
    rcases h with (rfl | rfl) | rfl <;> rfl
  unfold wordsR
  rcases head_blank h35 p with e | e
  · rw [e]
  · rw [e]
    have e2 : spaced ((cutB 35 p).headD [] ++ [c]) = spaced ((cutB 35 p).headD []) ++ 32 :: [] := by unfold spaced; rw [List.map_append, List.map_cons, hs]; rfl
    rw [e2, cut_join, List.filter_append]
    show _ ++ [] = _
    rw [List.append_nil]
theorem raw_some {s : Bs} {m : List (List Bs)} (h : outR s [] [] = some m) : (rawL s).any (fun l => decide (64 < l.length)) = false ∧ (rawL s).filter (fun l => !l.isEmpty) = m := by
  rw [outR_raw] at h
  cases ha : (rawL s).any (fun l => decide (64 < l.length)) with
  | true => rw [ha] at h; cases h
  | false => rw [ha] at h; exact ⟨rfl, Option.some.inj h⟩
theorem raw_of {s : Bs} (h : (rawL s).any (fun l => decide (64 < l.length)) = false) : outR s [] [] = some ((rawL s).filter fun l => !l.isEmpty) := by rw [outR_raw, h]; rfl
/-- Both texts' lines, if the raw lines are both's and empty ones. -/
theorem both_of {s a b : Bs} {x y : List (List Bs)} (ha : outR a [] [] = some x) (hb : outR b [] [] = some y) {e : List (List Bs)} (he : ∀ l ∈ e, l = []) (h : rawL s = rawL a ++ (e ++ rawL b)) : outR s [] [] = some (x ++ y) := by
  obtain ⟨a1, a2⟩ := raw_some ha
  obtain ⟨b1, b2⟩ := raw_some hb
  have e1 : e.any (fun l => decide (64 < l.length)) = false := by
    rw [List.any_eq_false]
    intro l hl
    rw [he l hl]
    decide
  have e2 : e.filter (fun l => !l.isEmpty) = [] := by
    rw [List.filter_eq_nil_iff]
    intro l hl
    rw [he l hl]
    decide
  rw [raw_of (by rw [h, List.any_append, List.any_append, a1, e1, b1]; rfl), h, List.filter_append, List.filter_append, a2, e2, b2]
  rfl
theorem parts_1 {a b : Bs} {x y : List (List Bs)} (ha : outR a [] [] = some x) (hb : outR b [] [] = some y) : outR (a ++ 10 :: b) [] [] = some (x ++ y) :=
  both_of ha hb (e := []) (fun l h => by cases h) (by rw [raw_join]; rfl)
theorem parts_2 {a b n : Bs} {x y : List (List Bs)} (ha : outR a [] [] = some x) (hb : outR b [] [] = some y) (hn : ∀ c ∈ n, c ≠ 10) : outR ((a ++ 35 :: n) ++ 10 :: b) [] [] = some (x ++ y) :=
  both_of ha hb (e := []) (fun l h => by cases h) (by
    rw [raw_join, raw_tail (n := 35 :: n) (fun c hc => by
      rcases List.mem_cons.1 hc with rfl | hc
      · decide
      · exact hn c hc) (words_noise n)]
    rfl)
theorem parts_3 {a b : Bs} {x y : List (List Bs)} (ha : outR a [] [] = some x) (hb : outR b [] [] = some y) : outR (32 :: 9 :: (((a ++ [13]) ++ 10 :: 10 :: 32 :: 10 :: b) ++ [32])) [] [] = some (x ++ y) :=
  both_of ha hb (e := [[], []]) (fun l h => by simpa using h) (by
    rw [raw_blank (by decide), raw_blank (by decide), raw_tail (n := [32]) (by decide) (words_tail (by decide)), raw_join, raw_tail (n := [13]) (by decide) (words_tail (by decide))]
    rw [show (10 :: 32 :: 10 :: b : Bs) = [] ++ 10 :: ([32] ++ 10 :: b) from rfl, raw_join, raw_join]
    rfl)
/-! what is joined -/
theorem out_words {r : Bs} {ls : List (List Bs)} (hr : ∀ c t, r = c :: t → isPlain c = false) : ∀ (ws acc : List Bs), (∀ w ∈ ws, mayW w = true) → outR ((ws.flatMap fun w => 32 :: w) ++ r) acc ls = outR r (acc ++ ws) ls
  | [], acc, _ => by rw [List.append_nil]; rfl
  | w :: ws, acc, h => by
    have hw := h w List.mem_cons_self
    unfold mayW spB at hw
    rw [Bool.and_eq_true, Bool.not_eq_true', Bool.not_eq_true', List.any_eq_false] at hw
    rw [List.flatMap_cons, List.append_assoc, List.cons_append, out_blank (by decide), out_word (by rintro rfl; exact absurd hw.1 (by decide)) (fun c hc => by simpa using hw.2 c hc) ?_, out_words hr ws (acc ++ [w]) (fun v hv => h v (List.mem_cons_of_mem _ hv)), List.append_assoc]
    · rfl
    · intro c t e
      cases ws with
      | nil => exact hr c t e
      | cons v vs =>
        rw [List.flatMap_cons] at e
        have e2 : (32 : UInt8) = c := (List.cons.inj e).1
        rw [← e2]
        decide
theorem out_line {ws : List Bs} {r : Bs} {ls : List (List Bs)} (h : mayL ws = true) (hl : ws.length ≤ 64) : outR (lineT ws ++ r) [] ls = outR r [] (ls ++ [ws]) := by
  unfold mayL at h
  rw [Bool.and_eq_true, List.all_eq_true] at h
  have hne : ws.isEmpty = false := by simpa using h.1
  have h1 : outR (32 :: (lineT ws ++ r)) [] ls = outR (10 :: r) ([] ++ ws) ls := by
    rw [← out_words (r := 10 :: r) (ls := ls) (fun c t e => by rw [← (List.cons.inj e).1]; decide) ws [] h.2]
    unfold lineT wordsT
    cases ws with
    | nil => cases hne
    | cons w t => simp
  rw [out_blank (by decide)] at h1
  rw [h1, List.nil_append, out_feed, if_neg (by omega), hne]
  rfl
theorem out_text : ∀ (l ls : List (List Bs)), mayP l = true → (∀ ws ∈ l, ws.length ≤ 64) → outR (textT l) [] ls = some (ls ++ l)
  | [], ls, _, _ => by
    show outR [] [] ls = _
    rw [out_nil]
    rfl
  | ws :: l, ls, h, hl => by
    unfold mayP at h
    rw [List.all_cons, Bool.and_eq_true] at h
    show outR (lineT ws ++ textT l) [] ls = _
    rw [out_line h.1 (hl ws List.mem_cons_self), out_text l (ls ++ [ws]) h.2 fun v hv => hl v (List.mem_cons_of_mem _ hv), List.append_assoc]
    rfl
/-- What is joined has these lines. -/
theorem join_back {l : List (List Bs)} {t : Bs} (h : joinP l = (t, 0)) : linesP t = some l := by
  unfold joinP at h
  cases hm : mayP l with
  | false => rw [hm] at h; cases h
  | true =>
    rw [hm] at h
    cases ho : overP l with
    | true => rw [ho] at h; cases h
    | false =>
      rw [ho] at h
      obtain ⟨h1, _⟩ := Prod.mk.inj h
      unfold overP at ho
      rw [Bool.or_eq_false_iff, List.any_eq_false] at ho
      have h2 := of_decide_eq_false ho.2
      have h3 : textT l = t := h1
      unfold linesP
      rw [← h3, if_neg h2]
      exact out_text l [] hm fun ws hw => by
        have := ho.1 ws hw
        have := of_decide_eq_false (by simpa using this : decide (64 < ws.length) = false)
        omega
end Go.Proofs.Ytbkgcikhiomenaa
