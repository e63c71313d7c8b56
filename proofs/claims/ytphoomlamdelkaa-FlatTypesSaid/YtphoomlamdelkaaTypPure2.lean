/-
  Plain law: what a good table is; parts and where they begin.
-/
import Derived.Test.YtphoomlamdelkaaTypPure
namespace Go.Proofs.Ytphoomlamdelkaa
set_option linter.unusedVariables false
set_option linter.unusedSimpArgs false

theorem check_zero {t : List Ty} (h : checkT t = 0) : t.length ≤ 16 ∧ allGood t t.length = true := by
  unfold checkT at h
  split at h
  · cases h
  · split at h
    · exact ⟨by omega, ‹_›⟩
    · cases h
theorem check_many {t : List Ty} (h : 16 < t.length) : checkT t = 4 := by unfold checkT; rw [if_pos h]
theorem check_good {t : List Ty} (h : t.length ≤ 16) (hg : allGood t t.length = true) : checkT t = 0 := by unfold checkT; rw [if_neg (by omega), if_pos hg]
theorem check_bad {t : List Ty} (h : t.length ≤ 16) {k : Nat} (hk : k < t.length) (hg : goodT t k = false) : checkT t = 30 := by
  unfold checkT
  rw [if_neg (by omega), if_neg]
  intro h'
  rw [allGood_iff.1 h' k hk] at hg
  cases hg
theorem allGood_succ {t : List Ty} {k : Nat} (h : allGood t k = true) (hg : goodT t k = true) : allGood t (k + 1) = true := by
  show (allGood t k && goodT t k) = true
  rw [h, hg]; rfl
theorem check_vals (t : List Ty) : checkT t = 0 ∨ checkT t = 4 ∨ checkT t = 30 := by
  unfold checkT
  split
  · exact .inr (.inl rfl)
  · split
    · exact .inl rfl
    · exact .inr (.inr rfl)

structure Good (t : List Ty) (k : Nat) : Prop where
  zero : checkT t = 0
  lt : k < t.length
section
variable {t : List Ty} {k : Nat}
theorem Good.of_zero (h : checkT t = 0) (hk : k < t.length) : Good t k := ⟨h, hk⟩
theorem Good.good (h : Good t k) : goodT t k = true := allGood_iff.1 (check_zero h.zero).2 k h.lt
theorem Good.may (h : Good t k) : mayT t k = true := good_may h.good
theorem Good.le (h : Good t k) : (ofT t k).length ≤ 32 := good_le h.good
theorem Good.below (h : Good t k) : allGood t k = true := allGood_mono (check_zero h.zero).2 (Nat.le_of_lt h.lt)
theorem Good.parts (h : Good t k) : ∀ p ∈ partsT (t.getD k default), 0 ≤ p ∧ p < k := by
  intro p hp
  unfold partsT at hp
  split at hp
  · exact may_struct h.may ‹_› p hp
  · split at hp
    · have := may_array h.may ‹_›
      rw [List.eq_of_mem_replicate hp]
      exact ⟨this.1, this.2.1⟩
    · cases hp
theorem Good.part (h : Good t k) {p : Int} (hp : p ∈ partsT (t.getD k default)) : Good t p.toNat := by
  have := h.parts p hp
  exact ⟨h.zero, by have := h.lt; omega⟩
theorem Good.parts_le (h : Good t k) : (partsT (t.getD k default)).length ≤ 16 := by
  unfold partsT
  split
  · have := (struct_len h.may ‹_›).2; omega
  · split
    · rw [List.length_replicate]; have := may_array h.may ‹_›; omega
    · simp
theorem ofT_parts (h : Good t k) (hs : (t.getD k default).kind = 4 ∨ (t.getD k default).kind = 5) : ofT t k = (partsT (t.getD k default)).flatMap (ofP t) := by
  unfold partsT
  rcases hs with hs | hs
  · rw [if_pos hs, of_struct hs (may_struct h.may hs)]; rfl
  · have := may_array h.may hs
    rw [if_neg (by omega), if_pos hs, of_array hs ⟨this.1, this.2.1⟩, List.flatMap_def, List.map_replicate]; rfl
end
theorem asked_zero {t : List Ty} {k : Int} (h : askedT t k = 0) : checkT t = 0 ∧ 0 ≤ k ∧ k < t.length := by
  unfold askedT at h
  by_cases hc : checkT t = 0
  · rw [if_neg (by simpa using hc)] at h
    split at h
    · exact ⟨hc, ‹_›⟩
    · cases h
  · rw [if_pos hc] at h
    exact absurd h hc
theorem asked_good {t : List Ty} {k : Int} (h : askedT t k = 0) : Good t k.toNat := by
  obtain ⟨h1, h2, h3⟩ := asked_zero h
  exact ⟨h1, by omega⟩
def scalarT (t : List Ty) (k : Int) : Bool := if askedT t k = 0 then plainB t k else false
def cellsT (t : List Ty) (k : Int) : List Int := if askedT t k = 0 then ofT t k.toNat else []
def partOfT (x : Ty) (n : Int) : Int := if 0 ≤ n ∧ n < (partsT x).length then (partsT x).getD n.toNat 0 else -1
theorem partOf_in {x : Ty} {n : Nat} (h : n < (partsT x).length) : partOfT x n = (partsT x).getD n 0 := by
  unfold partOfT
  rw [if_pos ⟨by omega, by omega⟩, Int.toNat_natCast]
theorem partsT4 {x : Ty} (h : x.kind = 4) : partsT x = x.parts := by unfold partsT; rw [if_pos h]
theorem partsT5 {x : Ty} (h : x.kind = 5) : partsT x = List.replicate x.many.toNat x.elem := by unfold partsT; rw [if_neg (by omega), if_pos h]
theorem partsT0 {x : Ty} (h4 : x.kind ≠ 4) (h5 : x.kind ≠ 5) : partsT x = [] := by unfold partsT; rw [if_neg h4, if_neg h5]
theorem sum_take_succ (l : List Nat) (n : Nat) (h : n < l.length) : (l.take (n + 1)).sum = (l.take n).sum + l[n] := by
  rw [List.take_succ_eq_append_getElem h, List.sum_append]; simp
theorem ahead_succ {t : List Ty} {k n : Nat} (h : n < (partsT (t.getD k default)).length) : aheadT t k (n + 1) = aheadT t k n + (ofP t ((partsT (t.getD k default)).getD n 0)).length := by
  unfold aheadT
  generalize partsT (t.getD k default) = l at h
  have e : l.getD n 0 = l[n] := by rw [List.getD_eq_getElem?_getD, List.getElem?_eq_getElem h]; rfl
  rw [List.take_succ_eq_append_getElem h, List.map_append, List.sum_append, e]
  simp [ofP]
theorem mem_getD0 {l : List Int} {n : Nat} (h : n < l.length) : l.getD n 0 ∈ l := by
  rw [List.getD_eq_getElem?_getD, List.getElem?_eq_getElem h]; exact List.getElem_mem h
theorem ahead_zero (t : List Ty) (k : Nat) : aheadT t k 0 = 0 := by simp [aheadT]
theorem ahead_le {t : List Ty} {k : Nat} (h : Good t k) : ∀ n, n ≤ (partsT (t.getD k default)).length → aheadT t k n ≤ n * 32
  | 0, _ => by rw [ahead_zero]; omega
  | n + 1, hn => by
    rw [ahead_succ (by omega)]
    have := ahead_le h n (by omega)
    have hm : (partsT (t.getD k default)).getD n 0 ∈ partsT (t.getD k default) := mem_getD0 (by omega)
    have h2 : (ofP t ((partsT (t.getD k default)).getD n 0)).length ≤ 32 := (h.part hm).le
    omega
end Go.Proofs.Ytphoomlamdelkaa
