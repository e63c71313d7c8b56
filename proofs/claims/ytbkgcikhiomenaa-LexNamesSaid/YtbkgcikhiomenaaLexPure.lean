/-
  Plain law of lines and words: to read on from a place gives what the reference's cuts give. No program in sight.
-/
import Derived.WalkKit
namespace Go.Proofs.Ytbkgcikhiomenaa
set_option linter.unusedVariables false
set_option linter.unusedSimpArgs false

abbrev Bs := List UInt8
def isBlank (c : UInt8) : Bool := c == 32 || c == 9 || c == 13
def isPlain (c : UInt8) : Bool := !(isBlank c || c == 10 || c == 35)
/-- What stands between a byte. -/
def cutB (x : UInt8) : Bs → List Bs
  | [] => [[]]
  | c :: t => if c = x then [] :: cutB x t else (c :: (cutB x t).headD []) :: (cutB x t).drop 1
def spaced (l : Bs) : Bs := l.map fun c => if c = 9 ∨ c = 13 then 32 else c
/-- A line's words, as the reference has them. -/
def wordsR (l : Bs) : List Bs := (cutB 32 (spaced ((cutB 35 l).headD []))).filter fun w => !w.isEmpty
/-- What reading on from a place answers: the words of the line so far, the lines so far. -/
def outR (s : Bs) (ws : List Bs) (ls : List (List Bs)) : Option (List (List Bs)) :=
  let all := (ws ++ wordsR ((cutB 10 s).headD [])) :: ((cutB 10 s).drop 1).map wordsR
  if all.any (fun l => decide (64 < l.length)) then none else some (ls ++ all.filter fun l => !l.isEmpty)

theorem cut_head (x : UInt8) : ∀ s : Bs, cutB x s = (cutB x s).headD [] :: (cutB x s).drop 1
  | [] => rfl
  | c :: t => by
    unfold cutB
    split <;> rfl
theorem cut_at (x : UInt8) (t : Bs) : cutB x (x :: t) = [] :: cutB x t := by
  rw [cutB, if_pos rfl]
theorem cut_on {x c : UInt8} (h : c ≠ x) (t : Bs) : cutB x (c :: t) = (c :: (cutB x t).headD []) :: (cutB x t).drop 1 := by
  rw [cutB, if_neg h]
theorem cut_app {x : UInt8} {p : Bs} (h : ∀ c ∈ p, c ≠ x) (t : Bs) : cutB x (p ++ t) = (p ++ (cutB x t).headD []) :: (cutB x t).drop 1 := by
  induction p with
  | nil => simpa using cut_head x t
  | cons c p ih =>
    rw [List.cons_append, cut_on (h c (List.mem_cons_self ..)), ih fun d hd => h d (List.mem_cons_of_mem _ hd)]
    rfl
theorem words_nil : wordsR [] = [] := rfl
theorem words_blank {c : UInt8} (h : isBlank c = true) (l : Bs) : wordsR (c :: l) = wordsR l := by
  have h35 : c ≠ 35 := by rintro rfl; exact absurd h (by decide)
  have hs : (if c = 9 ∨ c = 13 then 32 else c) = 32 := by
    unfold isBlank at h
    simp only [Bool.or_eq_true, beq_iff_eq] at h
    rcases h with (rfl | rfl) | rfl <;> rfl
  unfold wordsR
  rw [cut_on h35]
  show (cutB 32 (spaced (c :: (cutB 35 l).headD []))).filter _ = _
  rw [show spaced (c :: (cutB 35 l).headD []) = 32 :: spaced ((cutB 35 l).headD []) by unfold spaced; rw [List.map_cons, hs], cut_at]
  rfl
theorem words_hash (l : Bs) : wordsR (35 :: l) = [] := by
  unfold wordsR
  rw [cut_at]
  rfl
theorem plain_ne {c : UInt8} (h : isPlain c = true) : c ≠ 35 ∧ c ≠ 10 ∧ c ≠ 32 ∧ c ≠ 9 ∧ c ≠ 13 := by
  unfold isPlain isBlank at h
  simp only [Bool.not_eq_true', Bool.or_eq_false_iff, beq_eq_false_iff_ne] at h
  exact ⟨h.2, h.1.2, h.1.1.1.1, h.1.1.1.2, h.1.1.2⟩
/-- A word, and what stands behind it. -/
theorem words_word {p l : Bs} (hp : p ≠ []) (ha : ∀ c ∈ p, isPlain c = true) (hl : ∀ c t, l = c :: t → isPlain c = false) (h10 : ∀ c ∈ l, c ≠ 10) : wordsR (p ++ l) = p :: wordsR l := by
  have e35 := cut_app (x := 35) (fun c hc => (plain_ne (ha c hc)).1) l
  have hsp : spaced p = p := by
    unfold spaced
    conv => rhs; rw [← List.map_id p]
    refine List.map_congr_left fun c hc => ?_
    have := plain_ne (ha c hc)
    rw [if_neg (by rintro (h | h); exact this.2.2.2.1 h; exact this.2.2.2.2 h)]
    rfl
  unfold wordsR
  rw [e35]
  show (cutB 32 (spaced (p ++ (cutB 35 l).headD []))).filter _ = _
  rw [show spaced (p ++ (cutB 35 l).headD []) = p ++ spaced ((cutB 35 l).headD []) by unfold spaced at hsp ⊢; rw [List.map_append, hsp]]
  have hm : (cutB 32 (spaced ((cutB 35 l).headD []))).headD [] = [] := by
    match l, hl, h10 with
    | [], _, _ => rfl
    | c :: t, hl, h10 =>
      have hc := hl c t rfl
      have hc10 := h10 c (List.mem_cons_self ..)
      by_cases h35 : c = 35
      · subst h35; rw [cut_at]; rfl
      · have hb : isBlank c = true := by
          unfold isPlain at hc
          simp only [Bool.not_eq_false', Bool.or_eq_true, beq_iff_eq] at hc
          rcases hc with (h | h) | h
          · exact h
          · exact absurd h hc10
          · exact absurd h h35
        have hs : (if c = 9 ∨ c = 13 then 32 else c) = 32 := by
          unfold isBlank at hb
          simp only [Bool.or_eq_true, beq_iff_eq] at hb
          rcases hb with (rfl | rfl) | rfl <;> rfl
        rw [cut_on h35]
        show (cutB 32 (spaced (c :: (cutB 35 t).headD []))).headD [] = []
        rw [show spaced (c :: (cutB 35 t).headD []) = 32 :: spaced ((cutB 35 t).headD []) by unfold spaced; rw [List.map_cons, hs], cut_at]
        rfl
  rw [cut_app (x := 32) (fun c hc => (plain_ne (ha c hc)).2.2.1), hm, List.append_nil, cut_head 32 (spaced ((cutB 35 l).headD [])), hm]
  rw [List.filter_cons, if_pos (by cases p with | nil => exact absurd rfl hp | cons => rfl)]
  rfl
section
variable {s : Bs} {ws : List Bs} {ls : List (List Bs)}
theorem out_nil : outR [] ws ls = if 64 < ws.length then none else some (ls ++ if ws.isEmpty then [] else [ws]) := by
  unfold outR
  show (if ([ws ++ []].any fun l => decide (64 < l.length)) = true then none else some (ls ++ [ws ++ []].filter fun l => !l.isEmpty)) = _
  rw [List.append_nil]
  by_cases h : 64 < ws.length
  · rw [if_pos (by simpa using h), if_pos h]
  · rw [if_neg (by simpa using h), if_neg h]
    cases ws <;> rfl
theorem out_feed (t : Bs) : outR (10 :: t) ws ls = if 64 < ws.length then none else outR t [] (ls ++ if ws.isEmpty then [] else [ws]) := by
  unfold outR
  rw [cut_at]
  show (if (((ws ++ []) :: (cutB 10 t).map wordsR).any fun l => decide (64 < l.length)) = true then none else some (ls ++ ((ws ++ []) :: (cutB 10 t).map wordsR).filter fun l => !l.isEmpty)) = _
  rw [List.append_nil, List.any_cons, cut_head 10 t]
  show (if (decide (64 < ws.length) || (wordsR ((cutB 10 t).headD []) :: ((cutB 10 t).drop 1).map wordsR).any fun l => decide (64 < l.length)) = true then none else _) = _
  by_cases h : 64 < ws.length
  · rw [if_pos (by simp [h]), if_pos h]
  · rw [if_neg h, decide_eq_false h, Bool.false_or]
    show _ = if (([] ++ wordsR ((cutB 10 t).headD [])) :: ((cutB 10 t).drop 1).map wordsR).any (fun l => decide (64 < l.length)) = true then none else some ((ls ++ if ws.isEmpty then [] else [ws]) ++ (([] ++ wordsR ((cutB 10 t).headD [])) :: ((cutB 10 t).drop 1).map wordsR).filter fun l => !l.isEmpty)
    rw [List.nil_append]
    split
    · rfl
    · rw [List.append_assoc]
      cases ws <;> rfl
theorem out_blank {c : UInt8} (h : isBlank c = true) (t : Bs) : outR (c :: t) ws ls = outR t ws ls := by
  have h10 : c ≠ 10 := by rintro rfl; exact absurd h (by decide)
  unfold outR
  rw [cut_on h10]
  show (if ((ws ++ wordsR (c :: (cutB 10 t).headD [])) :: ((cutB 10 t).drop 1).map wordsR).any _ = true then none else some (ls ++ ((ws ++ wordsR (c :: (cutB 10 t).headD [])) :: ((cutB 10 t).drop 1).map wordsR).filter _)) = _
  rw [words_blank h]
theorem cut_behind : ∀ t : Bs, cutB 10 (t.dropWhile (· != 10)) = [] :: (cutB 10 t).drop 1
  | [] => rfl
  | c :: t => by
    by_cases h : c = 10
    · subst h
      rw [List.dropWhile_cons, if_neg (by decide), cut_at]; rfl
    · rw [List.dropWhile_cons, if_pos (by simpa using h), cut_on h, cut_behind t]
      rfl
theorem out_hash (t : Bs) : outR (35 :: t) ws ls = outR (t.dropWhile (· != 10)) ws ls := by
  unfold outR
  rw [cut_on (by decide), cut_behind]
  show (if ((ws ++ wordsR (35 :: (cutB 10 t).headD [])) :: ((cutB 10 t).drop 1).map wordsR).any _ = true then none else some (ls ++ ((ws ++ wordsR (35 :: (cutB 10 t).headD [])) :: ((cutB 10 t).drop 1).map wordsR).filter _)) = _
  rw [words_hash]
  rfl
theorem cut_no (x : UInt8) : ∀ t : Bs, ∀ c ∈ (cutB x t).headD [], c ≠ x
  | [], c, h => by cases h
  | d :: t, c, h => by
    by_cases e : d = x
    · subst e; rw [cut_at] at h; cases h
    · rw [cut_on e] at h
      rcases List.mem_cons.1 h with rfl | h
      · exact e
      · exact cut_no x t c h
/-- A word is read: p, and r stands behind it. -/
theorem out_word {p r : Bs} (hp : p ≠ []) (ha : ∀ c ∈ p, isPlain c = true) (hr : ∀ c t, r = c :: t → isPlain c = false) : outR (p ++ r) ws ls = outR r (ws ++ [p]) ls := by
  unfold outR
  rw [cut_app (fun c hc => (plain_ne (ha c hc)).2.1)]
  show (if ((ws ++ wordsR (p ++ (cutB 10 r).headD [])) :: ((cutB 10 r).drop 1).map wordsR).any _ = true then none else some (ls ++ ((ws ++ wordsR (p ++ (cutB 10 r).headD [])) :: ((cutB 10 r).drop 1).map wordsR).filter _)) = _
  rw [words_word hp ha ?_ (cut_no 10 r)]
  · rw [List.append_assoc]; rfl
  · intro c t e
    match r, hr with
    | [], _ => cases e
    | d :: r', hr =>
      have hd := hr d r' rfl
      by_cases h10 : d = 10
      · subst h10; rw [cut_at] at e; cases e
      · rw [cut_on h10] at e
        have e2 : d = c := (List.cons.inj e).1
        subst e2
        exact hd
end
end Go.Proofs.Ytbkgcikhiomenaa
