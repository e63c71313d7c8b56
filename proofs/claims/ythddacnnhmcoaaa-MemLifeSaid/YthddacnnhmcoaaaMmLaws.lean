/-
  Plain law: what is stored is loaded, what is freed is gone. No program in sight.
-/
import Derived.Test.YthddacnnhmcoaaaMmOwn
namespace Go.Proofs.Ythddacnnhmcoaaa
set_option linter.unusedVariables false
set_option linter.unusedSimpArgs false

/-- As many blocks, each of as many cells. -/
def Alike (m m' : List Bk) : Prop := m'.length = m.length ∧ ∀ i, (m'.getD i default).cells.length = (m.getD i default).cells.length
section
variable {m m' : List Bk} {p q v : Vl} {b : Bk} {i : Nat}
theorem isV_alike (h : Alike m m') (v : Vl) : isV m' v = isV m v := by
  unfold isV blkOf
  rw [h.1, h.2]
theorem ptr_alike (h : Alike m m') (p : Vl) : ptrM m' p = ptrM m p := by
  unfold ptrM
  rw [isV_alike h]
theorem alike_set (hb : b.cells.length = (m.getD i default).cells.length) : Alike m (m.set i b) := by
  refine ⟨List.length_set, fun j => ?_⟩
  by_cases e : i = j
  · subst e
    by_cases hi : i < m.length
    · rw [getD_set_eq _ _ hi, hb]
    · rw [List.set_eq_of_length_le (by omega)]
  · rw [getD_set_ne _ _ e]
theorem okB_alike (h : Alike m m') (b : Bk) : okB m' b = okB m b := by
  unfold okB
  rw [show isV m' = isV m from funext (isV_alike h)]
theorem may_set (hm : mayM m = true) (hb : b.cells.length = (m.getD i default).cells.length) (hok : okB m b = true) : mayM (m.set i b) = true := by
  unfold mayM at hm ⊢
  rw [Bool.and_eq_true] at hm ⊢
  refine ⟨by rw [List.length_set]; exact hm.1, ?_⟩
  rw [List.all_eq_true]
  intro x hx
  rw [okB_alike (alike_set hb)]
  rcases List.mem_or_eq_of_mem_set hx with hx | rfl
  · exact List.all_eq_true.1 hm.2 x hx
  · exact hok
theorem may_at (hm : mayM m = true) (hi : i < m.length) : okB m (m.getD i default) = true := by
  unfold mayM at hm
  rw [Bool.and_eq_true] at hm
  exact List.all_eq_true.1 hm.2 _ (mem_getD hi)
theorem okB_put (h : okB m b = true) (hv : isV m v = true) (i : Nat) : okB m (putC b i v) = true := by
  unfold okB putC at *
  simp only [Bool.and_eq_true, List.length_set] at h ⊢
  obtain ⟨h1, h2, h3, h4, h5, h6⟩ := h
  refine ⟨h1, h2, h3, h4, h5, List.all_eq_true.2 fun x hx => ?_⟩
  rcases List.mem_or_eq_of_mem_set hx with hx | rfl
  · exact List.all_eq_true.1 h6 x hx
  · exact hv
theorem okB_cell (h : okB m b = true) {j : Nat} (hj : j < b.cells.length) : isV m (b.cells.getD j default) = true := by
  unfold okB at h
  simp only [Bool.and_eq_true] at h
  exact List.all_eq_true.1 h.2.2.2.2.2 _ (mem_getD hj)
theorem ptr_lt (h : ptrM m p = 0) : (p.b - 1).toNat < m.length := by
  have := ptr_in h
  omega
theorem blk_set (hi : (p.b - 1).toNat < m.length) (q : Vl) : blkOf (m.set (p.b - 1).toNat b) q = if (p.b - 1).toNat = (q.b - 1).toNat then b else blkOf m q := by
  unfold blkOf
  split
  · rename_i e
    rw [← e, getD_set_eq _ _ hi]
  · rename_i e
    rw [getD_set_ne _ _ e]
theorem load_eq (hm : mayM m = true) (q : Vl) : loadE m q = if ptrM m q ≠ 0 then ptrM m q else if (blkOf m q).alive = false then 142 else 0 := by
  unfold loadE
  rw [if_neg (by rw [hm]; decide)]
theorem load_ok (h : loadE m q = 0) : mayM m = true ∧ ptrM m q = 0 ∧ (blkOf m q).alive = true := by
  unfold loadE at h
  cases hm : mayM m with
  | false => rw [if_pos hm] at h; cases h
  | true =>
    rw [if_neg (by rw [hm]; decide)] at h
    by_cases hp : ptrM m q = 0
    · rw [if_neg (fun e => e hp)] at h
      cases ha : (blkOf m q).alive with
      | false => rw [if_pos ha] at h; cases h
      | true => exact ⟨rfl, hp, rfl⟩
    · rw [if_pos hp] at h; exact absurd h hp
theorem free_ok (h : freeE m p = 0) : mayM m = true ∧ ptrM m p = 0 ∧ ¬ (0 < (blkOf m p).depth ∨ 0 < p.t) ∧ (blkOf m p).alive = true := by
  unfold freeE at h
  cases hm : mayM m with
  | false => rw [if_pos hm] at h; cases h
  | true =>
    rw [if_neg (by rw [hm]; decide)] at h
    by_cases hp : ptrM m p = 0
    · rw [if_neg (fun e => e hp)] at h
      by_cases hd : 0 < (blkOf m p).depth ∨ 0 < p.t
      · rw [if_pos hd] at h; cases h
      · rw [if_neg hd] at h
        cases ha : (blkOf m p).alive with
        | false => rw [if_pos ha] at h; cases h
        | true => exact ⟨rfl, hp, hd, rfl⟩
    · rw [if_pos hp] at h; exact absurd h hp
theorem store_ok (h : storeE m p v = 0) : mayM m = true ∧ ptrM m p = 0 ∧ isV m v = true ∧ (cellOf m p).k = v.k ∧ (blkOf m p).alive = true ∧ ¬ (blkOf m p).depth < deepM m v := by
  unfold storeE at h
  cases hm : mayM m with
  | false => rw [if_pos hm] at h; cases h
  | true =>
    rw [if_neg (by rw [hm]; decide)] at h
    by_cases h2 : ptrM m p = 2 ∨ isV m v = false ∨ (ptrM m p = 0 ∧ (cellOf m p).k ≠ v.k)
    · rw [if_pos h2] at h; cases h
    · rw [if_neg h2] at h
      by_cases hp : ptrM m p = 0
      · rw [if_neg (fun e => e hp)] at h
        cases ha : (blkOf m p).alive with
        | false => rw [if_pos ha] at h; cases h
        | true =>
          rw [if_neg (by rw [ha]; decide)] at h
          by_cases hd : (blkOf m p).depth < deepM m v
          · rw [if_pos hd] at h; cases h
          · refine ⟨rfl, hp, ?_, ?_, rfl, hd⟩
            · cases hv : isV m v with
              | true => rfl
              | false => exact absurd (.inr (.inl hv)) h2
            · by_cases e : (cellOf m p).k = v.k
              · exact e
              · exact absurd (.inr (.inr ⟨hp, e⟩)) h2
      · rw [if_pos hp] at h; exact absurd h hp
end
section
variable {m : List Bk} {p q v : Vl}
/-- Two pointers that may be, to the same block or not. -/
theorem ptr_idx (hp : ptrM m p = 0) (hq : ptrM m q = 0) : (p.b - 1).toNat = (q.b - 1).toNat ↔ p.b = q.b := by
  have h1 := ptr_in hp
  have h2 := ptr_in hq
  omega
theorem free_laws (h : freeE m p = 0) :
    mayM (freeM m p) = true ∧ loadE (freeM m p) p = 142 ∧ freeE (freeM m p) p = 142 ∧
    (¬ (q.k = 2 ∧ q.b = p.b) → loadE (freeM m p) q = loadE m q ∧ loadV (freeM m p) q = loadV m q) ∧
    (q.k = 2 ∧ q.b = p.b → loadE m q = 0 → loadE (freeM m p) q = 142 ∧ storeE (freeM m p) q (loadV m q) = 142) := by
  obtain ⟨hm, hp, hd, ha⟩ := free_ok h
  have hi := ptr_lt hp
  have hal : Alike m (m.set (p.b - 1).toNat (deadB (blkOf m p))) := alike_set rfl
  have hmx : mayM (m.set (p.b - 1).toNat (deadB (blkOf m p))) = true := may_set hm rfl (may_at hm hi)
  unfold freeM
  rw [if_pos h]
  have hblk : ∀ u : Vl, u.b = p.b → blkOf (m.set (p.b - 1).toNat (deadB (blkOf m p))) u = deadB (blkOf m p) := fun u e => by
    rw [blk_set hi, if_pos (by rw [e])]
  refine ⟨hmx, ?_, ?_, ?_, ?_⟩
  · rw [load_eq hmx, ptr_alike hal, hp, if_neg (fun e => e rfl), hblk p rfl]; rfl
  · unfold freeE
    rw [if_neg (by rw [hmx]; decide), ptr_alike hal, hp, if_neg (fun e => e rfl), hblk p rfl, if_neg (show ¬ (0 < (deadB (blkOf m p)).depth ∨ 0 < p.t) from hd)]; rfl
  · intro hn
    have key : loadE (m.set (p.b - 1).toNat (deadB (blkOf m p))) q = loadE m q ∧ (loadE m q = 0 → cellOf (m.set (p.b - 1).toNat (deadB (blkOf m p))) q = cellOf m q) := by
      rw [load_eq hmx, load_eq hm, ptr_alike hal]
      by_cases hq : ptrM m q = 0
      · have hne : ¬ (p.b - 1).toNat = (q.b - 1).toNat := fun e => hn ⟨(ptr_zero hq).1, ((ptr_idx hp hq).1 e).symm⟩
        have hb : blkOf (m.set (p.b - 1).toNat (deadB (blkOf m p))) q = blkOf m q := by rw [blk_set hi, if_neg hne]
        unfold cellOf
        rw [hb]
        exact ⟨rfl, fun _ => rfl⟩
      · rw [if_pos hq, if_pos hq]
        exact ⟨rfl, fun e => absurd e hq⟩
    refine ⟨key.1, ?_⟩
    unfold loadV
    rw [key.1]
    by_cases e : loadE m q = 0
    · rw [if_pos e, if_pos e]; exact key.2 e
    · rw [if_neg e, if_neg e]
  · rintro ⟨_, e⟩ hl
    obtain ⟨_, hq, _⟩ := load_ok hl
    have hb := hblk q e
    have hbq : blkOf m q = blkOf m p := by unfold blkOf; rw [e]
    refine ⟨by rw [load_eq hmx, ptr_alike hal, hq, if_neg (fun e => e rfl), hb]; rfl, ?_⟩
    have hc : cellOf (m.set (p.b - 1).toNat (deadB (blkOf m p))) q = cellOf m q := by unfold cellOf; rw [hb, hbq]; rfl
    have hv : loadV m q = cellOf m q := by unfold loadV; rw [if_pos hl]
    have hjn := ptr_in hq
    have hvi : isV m (cellOf m q) = true := okB_cell (may_at hm (ptr_lt hq)) (by unfold blkOf at hjn; omega)
    unfold storeE
    rw [if_neg (by rw [hmx]; decide), ptr_alike hal, isV_alike hal, hv, hvi, hc, hq, hb]
    rw [if_neg (by
      rintro (h1 | h1 | h1)
      · cases h1
      · cases h1
      · exact h1.2 rfl), if_neg (fun e => e rfl)]
    rfl
theorem store_laws (h : storeE m p v = 0) :
    mayM (storeM m p v) = true ∧ loadE (storeM m p v) p = 0 ∧ loadV (storeM m p v) p = v ∧ loadE (storeM m p v) q = loadE m q ∧ (p ≠ q → loadV (storeM m p v) q = loadV m q) := by
  obtain ⟨hm, hp, hv, hk, ha, hd⟩ := store_ok h
  have hi := ptr_lt hp
  have hlen : (putC (blkOf m p) p.t.toNat v).cells.length = (blkOf m p).cells.length := List.length_set
  have hal : Alike m (m.set (p.b - 1).toNat (putC (blkOf m p) p.t.toNat v)) := alike_set hlen
  have hmx : mayM (m.set (p.b - 1).toNat (putC (blkOf m p) p.t.toNat v)) = true := may_set hm hlen (okB_put (may_at hm hi) hv _)
  unfold storeM
  rw [if_pos h]
  have hblk : ∀ u : Vl, u.b = p.b → blkOf (m.set (p.b - 1).toNat (putC (blkOf m p) p.t.toNat v)) u = putC (blkOf m p) p.t.toNat v := fun u e => by
    rw [blk_set hi, if_pos (by rw [e])]
  have hpin := ptr_in hp
  have hl1 : loadE (m.set (p.b - 1).toNat (putC (blkOf m p) p.t.toNat v)) p = 0 := by
    rw [load_eq hmx, ptr_alike hal, hp, if_neg (fun e => e rfl), hblk p rfl, if_neg (by show ¬ (blkOf m p).alive = false; rw [ha]; decide)]
  have hl2 : loadE (m.set (p.b - 1).toNat (putC (blkOf m p) p.t.toNat v)) q = loadE m q := by
    rw [load_eq hmx, load_eq hm, ptr_alike hal]
    by_cases hq : ptrM m q = 0
    · by_cases e : q.b = p.b
      · rw [hblk q e, show blkOf m q = blkOf m p by unfold blkOf; rw [e]]; rfl
      · rw [blk_set hi, if_neg (fun e2 => e ((ptr_idx hp hq).1 e2).symm)]
    · rw [if_pos hq, if_pos hq]
  refine ⟨hmx, hl1, ?_, hl2, fun hpq => ?_⟩
  · unfold loadV
    rw [if_pos hl1]
    unfold cellOf
    rw [hblk p rfl]
    exact getD_set_eq _ _ (by omega)
  · unfold loadV
    rw [hl2]
    by_cases hl : loadE m q = 0
    · rw [if_pos hl, if_pos hl]
      obtain ⟨_, hq, _⟩ := load_ok hl
      have hqin := ptr_in hq
      unfold cellOf
      by_cases e : q.b = p.b
      · have hbq : blkOf m q = blkOf m p := by unfold blkOf; rw [e]
        rw [hblk q e, hbq]
        refine getD_set_ne _ _ fun e2 => hpq ?_
        have hkp := (ptr_zero hp).1
        have hkq := (ptr_zero hq).1
        obtain ⟨pk, pn, pb, pt⟩ := p
        obtain ⟨qk, qn, qb, qt⟩ := q
        simp only at hkp hkq hpin hqin e e2
        rw [Vl.mk.injEq]
        omega
      · rw [blk_set hi, if_neg (fun e2 => e ((ptr_idx hp hq).1 e2).symm)]
    · rw [if_neg hl, if_neg hl]
end
end Go.Proofs.Ythddacnnhmcoaaa
