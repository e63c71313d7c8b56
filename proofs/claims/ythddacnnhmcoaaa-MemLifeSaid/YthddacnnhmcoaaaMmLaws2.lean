/-
  Plain law: what is made is new. No program in sight.
-/
import Derived.Test.YthddacnnhmcoaaaMmLaws
namespace Go.Proofs.Ythddacnnhmcoaaa
set_option linter.unusedVariables false
set_option linter.unusedSimpArgs false

section
variable {m : List Bk} {b : Bk} {q : Vl}
theorem getD_app {α : Type} {d : α} (l : List α) (x : α) {i : Nat} (h : i < l.length) : (l ++ [x]).getD i d = l.getD i d := by
  rw [List.getD_eq_getElem?_getD, List.getElem?_append_left h, List.getD_eq_getElem?_getD]
theorem getD_last {α : Type} {d : α} (l : List α) (x : α) : (l ++ [x]).getD l.length d = x := by
  rw [List.getD_eq_getElem?_getD, List.getElem?_append_right (Nat.le_refl _)]; simp
/-- A value of a memory is one of the greater memory. -/
theorem isV_app (b : Bk) (h : isV m q = true) : isV (m ++ [b]) q = true := by
  by_cases hp : q.k = 2 ∧ q.b ≠ 0
  · have hin := isV_ptr hp.1 h hp.2
    unfold isV at h ⊢
    rw [Bool.and_eq_true] at h ⊢
    refine ⟨h.1, ?_⟩
    have hb : blkOf (m ++ [b]) q = blkOf m q := by unfold blkOf; exact getD_app _ _ (by omega)
    rw [hb, List.length_append]
    simp only [Bool.or_eq_true, Bool.and_eq_true, decide_eq_true_eq]
    right; right
    constructor
    · have := hin.2.2.1
      show q.b ≤ ((m.length + 1 : Nat) : Int)
      omega
    · exact hin.2.2.2.2
  · unfold isV at h ⊢
    rw [Bool.and_eq_true] at h ⊢
    refine ⟨h.1, ?_⟩
    simp only [Bool.or_eq_true, Bool.and_eq_true, decide_eq_true_eq]
    by_cases hk : q.k = 2
    · right; left
      by_cases hz : q.b = 0
      · exact hz
      · exact absurd ⟨hk, hz⟩ hp
    · exact .inl hk
theorem okB_app (x : Bk) (h : okB m b = true) : okB (m ++ [x]) b = true := by
  unfold okB at h ⊢
  simp only [Bool.and_eq_true] at h ⊢
  obtain ⟨h1, h2, h3, h4, h5, h6⟩ := h
  exact ⟨h1, h2, h3, h4, h5, List.all_eq_true.2 fun v hv => isV_app x (List.all_eq_true.1 h6 v hv)⟩
theorem ptr_app_in (b : Bk) (hq : ptrM m q = 0) : ptrM (m ++ [b]) q = 0 ∧ blkOf (m ++ [b]) q = blkOf m q := by
  obtain ⟨h1, h2, h3⟩ := ptr_zero hq
  refine ⟨?_, ?_⟩
  · unfold ptrM
    rw [if_pos ⟨h1, isV_app b h2⟩, if_neg h3]
  · unfold blkOf
    exact getD_app _ _ (ptr_lt hq)
theorem ptr_app_null (b : Bk) (hq : ptrM m q = 140) : ptrM (m ++ [b]) q = 140 := by
  obtain ⟨h1, h2, h3⟩ := ptr_140 hq
  unfold ptrM
  rw [if_pos ⟨h1, isV_app b h2⟩, if_pos h3]
end
section
variable {m : List Bk} {s k d : Int} {l : List Int} {q : Vl}
theorem new_ok (h : newE m s k d l = 0) : mayM m = true ∧ l.all kindOk = true ∧ 0 ≤ s ∧ 0 ≤ k ∧ 0 ≤ d ∧ 1 ≤ l.length ∧ l.length ≤ 32 ∧ m.length < 4096 := by
  unfold newE at h
  cases hm : mayM m with
  | false => rw [if_pos hm] at h; cases h
  | true =>
    rw [if_neg (by rw [hm]; decide)] at h
    by_cases hc : l.all kindOk = false ∨ s < 0 ∨ k < 0 ∨ d < 0 ∨ l.length < 1 ∨ 32 < l.length
    · rw [if_pos hc] at h; cases h
    · rw [if_neg hc] at h
      by_cases hl : 4096 ≤ m.length
      · rw [if_pos hl] at h; cases h
      · cases ha : l.all kindOk with
        | false => exact absurd (.inl ha) hc
        | true => exact ⟨rfl, rfl, by omega, by omega, by omega, by omega, by omega, by omega⟩
theorem first_may {k : Int} (h : kindOk k = true) : mayB k 0 0 0 = true := by
  unfold kindOk at h
  simp only [Bool.and_eq_true, decide_eq_true_eq] at h
  unfold mayB
  rw [decide_eq_true_eq]
  unfold MayP
  omega
theorem new_may (h : newE m s k d l = 0) : mayM (m ++ [newB s k d l]) = true := by
  obtain ⟨hm, ha, h1, h2, h3, h4, h5, h6⟩ := new_ok h
  have hm2 := hm
  unfold mayM at hm ⊢
  rw [Bool.and_eq_true] at hm ⊢
  refine ⟨by rw [List.length_append]; exact decide_eq_true (show m.length + 1 ≤ 4096 by omega), List.all_eq_true.2 fun x hx => ?_⟩
  rcases List.mem_append.1 hx with hx | hx
  · exact okB_app _ (List.all_eq_true.1 hm.2 x hx)
  · obtain rfl := List.mem_singleton.1 hx
    unfold okB newB
    simp only [Bool.and_eq_true, decide_eq_true_eq, List.length_map]
    refine ⟨h1, h2, h3, h4, h5, List.all_eq_true.2 fun v hv => ?_⟩
    obtain ⟨y, hy, rfl⟩ := List.mem_map.1 hv
    unfold isV firstV
    rw [Bool.and_eq_true]
    refine ⟨first_may (List.all_eq_true.1 ha y hy), ?_⟩
    simp
/-- The new block's pointers. -/
theorem new_ptr (h : newE m s k d l = 0) {i : Int} (h0 : 0 ≤ i) (hi : i < l.length) :
    ptrM (m ++ [newB s k d l]) ⟨2, 0, m.length + 1, i⟩ = 0 ∧ blkOf (m ++ [newB s k d l]) ⟨2, 0, m.length + 1, i⟩ = newB s k d l := by
  have hb : blkOf (m ++ [newB s k d l]) ⟨2, 0, m.length + 1, i⟩ = newB s k d l := by
    unfold blkOf
    show (m ++ [newB s k d l]).getD ((m.length : Int) + 1 - 1).toNat default = _
    rw [show ((m.length : Int) + 1 - 1).toNat = m.length by omega]
    exact getD_last _ _
  have hv : isV (m ++ [newB s k d l]) ⟨2, 0, m.length + 1, i⟩ = true := by
    unfold isV
    rw [hb, Bool.and_eq_true]
    refine ⟨?_, ?_⟩
    · unfold mayB
      rw [decide_eq_true_eq]
      unfold MayP
      right; left
      refine ⟨rfl, rfl, ?_, h0, .inl ?_⟩
      · show 0 ≤ (m.length : Int) + 1; omega
      · show 0 < (m.length : Int) + 1; omega
    · simp only [Bool.or_eq_true, Bool.and_eq_true, decide_eq_true_eq]
      right; right
      refine ⟨?_, ?_⟩
      · rw [List.length_append]
        show (m.length : Int) + 1 ≤ ((m.length + 1 : Nat) : Int)
        omega
      · show i < ((l.map firstV).length : Int)
        rw [List.length_map]; exact hi
  refine ⟨?_, hb⟩
  unfold ptrM
  rw [if_pos ⟨rfl, hv⟩, if_neg (show ¬ (m.length : Int) + 1 = 0 by omega)]
theorem new_old (h : newE m s k d l = 0) (q : Vl) : loadE m q = 2 ∨ (loadE m q ≠ 2 ∧ loadE (m ++ [newB s k d l]) q = loadE m q ∧ loadV (m ++ [newB s k d l]) q = loadV m q) := by
  have hm := (new_ok h).1
  have hx := new_may h
  rcases ptr_vals m q with hq | hq | hq
  · obtain ⟨h1, h2⟩ := ptr_app_in (newB s k d l) hq
    have he : loadE (m ++ [newB s k d l]) q = loadE m q := by rw [load_eq hx, load_eq hm, h1, hq, h2]
    refine .inr ⟨?_, he, ?_⟩
    · rw [load_eq hm, hq, if_neg (fun e => e rfl)]
      split <;> decide
    · unfold loadV cellOf
      rw [he, h2]
  · left
    rw [load_eq hm, hq, if_pos (by decide)]
  · have h1 := ptr_app_null (newB s k d l) hq
    have e1 : loadE m q = 140 := by rw [load_eq hm, hq, if_pos (by decide)]
    have e2 : loadE (m ++ [newB s k d l]) q = 140 := by rw [load_eq hx, h1, if_pos (by decide)]
    refine .inr ⟨by rw [e1]; decide, by rw [e1, e2], ?_⟩
    unfold loadV
    rw [e1, e2, if_neg (by decide), if_neg (by decide)]
theorem new_apart (h : newE m s k d l = 0) : loadE m ⟨2, 0, m.length + 1, 0⟩ ≠ 0 := by
  intro he
  have := ptr_in (load_ok he).2.1
  have h2 := this.2.2.1
  have h3 : (m.length : Int) + 1 ≤ m.length := h2
  omega
theorem new_cell (h : newE m s k d l = 0) {i : Nat} (hi : i < l.length) :
    moveE (m ++ [newB s k d l]) ⟨2, 0, m.length + 1, 0⟩ i = 0 ∧ moveV (m ++ [newB s k d l]) ⟨2, 0, m.length + 1, 0⟩ i = ⟨2, 0, m.length + 1, i⟩ ∧
    loadE (m ++ [newB s k d l]) ⟨2, 0, m.length + 1, i⟩ = 0 ∧ loadV (m ++ [newB s k d l]) ⟨2, 0, m.length + 1, i⟩ = firstV (l.getD i 0) := by
  have hx := new_may h
  obtain ⟨p0, b0⟩ := new_ptr h (i := 0) (by omega) (by omega)
  obtain ⟨p1, b1⟩ := new_ptr h (i := (i : Int)) (by omega) (by omega)
  have he : moveE (m ++ [newB s k d l]) ⟨2, 0, m.length + 1, 0⟩ i = 0 := by
    unfold moveE
    rw [if_neg (by rw [hx]; decide), if_neg (fun e => e p0), b0, if_neg]
    show ¬ ((i : Int) < -0 ∨ ((l.map firstV).length : Int) - 0 ≤ i)
    rw [List.length_map]; omega
  have hl : loadE (m ++ [newB s k d l]) ⟨2, 0, m.length + 1, i⟩ = 0 := by
    rw [load_eq hx, if_neg (fun e => e p1), b1]; rfl
  refine ⟨he, ?_, hl, ?_⟩
  · unfold moveV
    rw [if_pos he]
    show Vl.mk 2 0 _ (0 + (i : Int)) = _
    rw [Int.zero_add]
  · unfold loadV cellOf
    rw [if_pos hl, b1]
    show (l.map firstV).getD i default = _
    simp [List.getD, List.getElem?_eq_getElem hi]
theorem new_end (h : newE m s k d l = 0) : moveE (m ++ [newB s k d l]) ⟨2, 0, m.length + 1, 0⟩ l.length = 2 ∧ depthE (m ++ [newB s k d l]) ⟨2, 0, m.length + 1, 0⟩ = 0 ∧ depthM (m ++ [newB s k d l]) ⟨2, 0, m.length + 1, 0⟩ = d := by
  have hx := new_may h
  have hl := (new_ok h).2.2.2.2.2.1
  obtain ⟨p0, b0⟩ := new_ptr h (i := 0) (by omega) (by omega)
  have hd : depthE (m ++ [newB s k d l]) ⟨2, 0, m.length + 1, 0⟩ = 0 := by
    unfold depthE
    rw [if_neg (by rw [hx]; decide), if_neg (by rw [(ptr_zero p0).2.1]; decide)]
  refine ⟨?_, hd, ?_⟩
  · unfold moveE
    rw [if_neg (by rw [hx]; decide), if_neg (fun e => e p0), b0, if_pos]
    right
    show ((l.map firstV).length : Int) - 0 ≤ l.length
    rw [List.length_map]; omega
  · unfold depthM
    rw [if_pos hd]
    unfold deepM
    rw [if_pos ⟨rfl, by show 0 < (m.length : Int) + 1; omega⟩, b0]
    rfl
end
end Go.Proofs.Ythddacnnhmcoaaa
