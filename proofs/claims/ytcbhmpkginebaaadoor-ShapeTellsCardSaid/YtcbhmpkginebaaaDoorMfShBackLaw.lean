/-
  The plain law of ShapeBack: registers and places, there and back.
-/
import Derived.Test.YtcbhmpkginebaaaDoorMg14
namespace Go.Proofs.YtcbhmpkginebaaaDoor
set_option linter.unusedVariables false
set_option linter.unusedSimpArgs false
open Go.RowKit

theorem many_cons (b : PBlk) (l : List PBlk) : manyB (b :: l) = b.ins.length + manyB l := by
  unfold manyB
  rw [List.map_cons, List.sum_cons]
theorem where_spec (l : List PBlk) (k r : Nat) (h : r < manyB l) : ∃ b i, whereB l k r = (k + b, i) ∧ b < l.length ∧ i < (l.getD b default).ins.length ∧ manyB (l.take b) + i = r := by
  induction l generalizing k r with
  | nil => exact absurd h (Nat.not_lt_zero _)
  | cons x l ih =>
    rw [many_cons] at h
    by_cases hr : r < x.ins.length
    · exact ⟨0, r, if_pos hr, by simp, by simpa using hr, by simp [manyB]⟩
    · obtain ⟨b, i, h1, h2, h3, h4⟩ := ih (k + 1) (r - x.ins.length) (by omega)
      refine ⟨b + 1, i, ?_, by simp; omega, by simpa using h3, ?_⟩
      · have : whereB (x :: l) k r = whereB l (k + 1) (r - x.ins.length) := if_neg hr
        rw [this, h1]
        congr 1
        omega
      · rw [List.take_succ_cons, many_cons]
        omega
theorem where_zero (l : List PBlk) (k : Nat) (h : 0 < manyB l) : ∃ c, whereB l k 0 = (c, 0) ∧ k ≤ c := by
  induction l generalizing k with
  | nil => exact absurd h (Nat.lt_irrefl 0)
  | cons x l ih =>
    rw [many_cons] at h
    by_cases hr : 0 < x.ins.length
    · exact ⟨k, if_pos hr, Nat.le_refl _⟩
    · obtain ⟨c, h1, h2⟩ := ih (k + 1) (by omega)
      have : whereB (x :: l) k 0 = whereB l (k + 1) (0 - x.ins.length) := if_neg hr
      rw [this, Nat.zero_sub, h1]
      exact ⟨c, rfl, by omega⟩
theorem where_next (l : List PBlk) (k r : Nat) (h : r + 1 < manyB l) : ((whereB l k (r + 1)).1 = (whereB l k r).1 ∧ (whereB l k (r + 1)).2 = (whereB l k r).2 + 1) ∨ ((whereB l k r).1 < (whereB l k (r + 1)).1 ∧ (whereB l k (r + 1)).2 = 0) := by
  induction l generalizing k r with
  | nil => exact absurd h (Nat.not_lt_zero _)
  | cons x l ih =>
    rw [many_cons] at h
    by_cases hr : r < x.ins.length
    · have h1 : whereB (x :: l) k r = (k, r) := if_pos hr
      rw [h1]
      by_cases hs : r + 1 < x.ins.length
      · have h2 : whereB (x :: l) k (r + 1) = (k, r + 1) := if_pos hs
        rw [h2]
        exact .inl ⟨rfl, rfl⟩
      · have h2 : whereB (x :: l) k (r + 1) = whereB l (k + 1) (r + 1 - x.ins.length) := if_neg hs
        rw [h2, show r + 1 - x.ins.length = 0 by omega]
        obtain ⟨c, h3, h4⟩ := where_zero l (k + 1) (by omega)
        rw [h3]
        exact .inr ⟨by show k < c; omega, rfl⟩
    · have h1 : whereB (x :: l) k r = whereB l (k + 1) (r - x.ins.length) := if_neg hr
      have h2 : whereB (x :: l) k (r + 1) = whereB l (k + 1) (r + 1 - x.ins.length) := if_neg (by omega)
      rw [h1, h2, show r + 1 - x.ins.length = r - x.ins.length + 1 by omega]
      exact ih (k + 1) (r - x.ins.length) (by omega)
section
variable {p : PProg} {f r n e b i g : Int}
theorem regs_split (h : regsE p f = (n, e)) : (e ≠ 0 ∧ askedP p f = e ∧ n = 0) ∨ (e = 0 ∧ askedP p f = 0 ∧ n = (regsP p (funAt p f) : Nat)) := by
  unfold regsE at h
  by_cases ha : askedP p f = 0
  · rw [if_neg (by simpa using ha)] at h
    injection h with h1 h2
    exact .inr ⟨h2.symm, ha, h1.symm⟩
  · rw [if_pos (by simpa using ha)] at h
    injection h with h1 h2
    exact .inl ⟨by rw [← h2]; exact ha, h2, h1.symm⟩
theorem back_bad (h1 : regsE p f = (n, e)) (h2 : placeE p f r = (b, i, g)) (h : e ≠ 0 ∨ g ≠ 0) : (e = 0 ∨ e = g) ∧ b = 0 ∧ i = 0 := by
  unfold placeE at h2
  rcases regs_split h1 with ⟨he, ha, _⟩ | ⟨he, ha, _⟩
  · rw [if_pos (by rw [ha]; exact he), ha] at h2
    injection h2 with h3 h4
    injection h4 with h4 h5
    exact ⟨.inr h5, h3.symm, h4.symm⟩
  · rw [if_neg (by simpa using ha)] at h2
    refine ⟨.inl he, ?_⟩
    by_cases hi : inB r (regsP p (funAt p f)) = true
    · rw [if_pos hi] at h2
      exfalso
      rcases h with h | h
      · exact h he
      · split at h2
        · injection h2 with h3 h4
          injection h4 with h4 h5
          exact h h5.symm
        · injection h2 with h3 h4
          injection h4 with h4 h5
          exact h h5.symm
    · rw [if_neg hi] at h2
      injection h2 with h3 h4
      injection h4 with h4 h5
      exact ⟨h3.symm, h4.symm⟩
theorem place_good (h1 : regsE p f = (n, 0)) (h2 : placeE p f r = (b, i, 0)) : askedP p f = 0 ∧ n = (regsP p (funAt p f) : Nat) ∧ 0 ≤ r ∧ r < n ∧
    ((r < parsP p (funAt p f) ∧ b = -1 ∧ i = r) ∨ (¬ r < parsP p (funAt p f) ∧ b = ((whereB (funAt p f).blocks 0 (r.toNat - parsP p (funAt p f))).1 : Nat) ∧ i = ((whereB (funAt p f).blocks 0 (r.toNat - parsP p (funAt p f))).2 : Nat))) := by
  rcases regs_split h1 with ⟨he, _, _⟩ | ⟨_, ha, hn⟩
  · exact absurd rfl he
  · unfold placeE at h2
    rw [if_neg (by simpa using ha)] at h2
    by_cases hi : inB r (regsP p (funAt p f)) = true
    · rw [if_pos hi] at h2
      obtain ⟨r0, r1⟩ := inB_iff.1 hi
      refine ⟨ha, hn, r0, by rw [hn]; exact r1, ?_⟩
      by_cases hp : r < parsP p (funAt p f)
      · rw [if_pos hp] at h2
        injection h2 with h3 h4
        injection h4 with h4 h5
        exact .inl ⟨hp, h3.symm, h4.symm⟩
      · rw [if_neg hp] at h2
        injection h2 with h3 h4
        injection h4 with h4 h5
        exact .inr ⟨hp, h3.symm, h4.symm⟩
    · rw [if_neg hi] at h2
      injection h2 with h3 h4
      injection h4 with h4 h5
      exact absurd h5 (by decide)
theorem back_par (h1 : regsE p f = (n, 0)) (h2 : placeE p f r = (b, i, 0)) (hb : b < 0) : b = -1 ∧ i = r ∧ 0 ≤ r ∧ r < n := by
  obtain ⟨_, _, r0, r1, h | h⟩ := place_good h1 h2
  · exact ⟨h.2.1, h.2.2, r0, r1⟩
  · exfalso; omega
theorem back_reg (h1 : regsE p f = (n, 0)) (h2 : placeE p f r = (b, i, 0)) (hb : ¬ b < 0) : regE p f b i = (r, 0) ∧ 0 ≤ r ∧ r < n ∧ 0 ≤ i ∧ i ≤ r := by
  obtain ⟨ha, hn, r0, r1, h | h⟩ := place_good h1 h2
  · exfalso; omega
  · obtain ⟨hp, hb2, hi2⟩ := h
    have hrg : regsP p (funAt p f) = parsP p (funAt p f) + manyB (funAt p f).blocks := rfl
    obtain ⟨b', i', h3, h4, h5, h6⟩ := where_spec (funAt p f).blocks 0 (r.toNat - parsP p (funAt p f)) (by omega)
    rw [h3] at hb2 hi2
    dsimp only at hb2 hi2
    rw [Nat.zero_add] at hb2
    subst hb2 hi2
    refine ⟨?_, r0, r1, by omega, by omega⟩
    unfold regE
    rw [if_neg (by simpa using ha), Int.toNat_natCast, Int.toNat_natCast, inB_iff.2 ⟨by omega, by omega⟩, inB_iff.2 ⟨by omega, by omega⟩, Bool.and_true, if_pos rfl]
    congr 1
    omega
theorem back_next {c j k : Int} (h1 : regsE p f = (n, 0)) (h2 : placeE p f r = (b, i, 0)) (hb : ¬ b < 0) (h3 : placeE p f (r + 1) = (c, j, k)) : (k ≠ 0 → r + 1 = n) ∧ (k = 0 → (c = b ∧ j = i + 1) ∨ (b < c ∧ j = 0)) := by
  obtain ⟨ha, hn, r0, r1, h | h⟩ := place_good h1 h2
  · exfalso; omega
  · obtain ⟨hp, hb2, hi2⟩ := h
    by_cases hlt : r + 1 < n
    · have hrg : regsP p (funAt p f) = parsP p (funAt p f) + manyB (funAt p f).blocks := rfl
      unfold placeE at h3
      rw [if_neg (by simpa using ha), if_pos (inB_iff.2 ⟨by omega, by omega⟩), if_neg (by omega)] at h3
      injection h3 with h3 h4
      injection h4 with h4 h5
      refine ⟨fun hk => absurd h5.symm hk, fun _ => ?_⟩
      rw [show (r + 1).toNat - parsP p (funAt p f) = r.toNat - parsP p (funAt p f) + 1 by omega] at h3 h4
      rcases where_next (funAt p f).blocks 0 (r.toNat - parsP p (funAt p f)) (by omega) with ⟨h6, h7⟩ | ⟨h6, h7⟩
      · exact .inl ⟨by omega, by omega⟩
      · exact .inr ⟨by omega, by omega⟩
    · refine ⟨fun _ => by omega, fun hk => ?_⟩
      exfalso
      subst hk
      obtain ⟨_, hn2, _, r2, _⟩ := place_good h1 h3
      omega
end
theorem regs_few {p : PrR} {f n : Int} (hl : ∀ t ∈ p.types, t.parts.length ≤ 1000) (h : regsE p.data f = (n, 0)) : n ≤ 1128 := by
  rcases regs_split h with ⟨he, _, _⟩ | ⟨_, ha, hn⟩
  · exact absurd rfl he
  · obtain ⟨k, rfl, fr, hg⟩ := asked_ok ha
    rw [fun_at hg] at hn
    have h1 := pars_at hg
    have h2 := hg.many
    have h3 : regsP p.data fr.data = parsP p.data fr.data + manyB (fr.blocks.map BlR.data) := rfl
    have h4 := hl _ (mem_getD (d := default) (show fr.sig.toNat < p.types.length by have := hg.s0; have := hg.s1; omega))
    omega
end Go.Proofs.YtcbhmpkginebaaaDoor
