/-
  Plain law: tables of types, their cells, parts and offsets. No program in sight. And what stands on it: TypPure2.
-/
import Derived.WalkKit
namespace Go.Proofs.YtbffebcjimhapaaGreatDoor
set_option linter.unusedVariables false
set_option linter.unusedSimpArgs false
structure Ty where
 kind : Nat
 elem : Int
 many : Int
 parts : List Int
deriving DecidableEq, Inhabited
def cellsAt (x : Ty) (tb : List (List Int)) (k : Nat) : List Int :=
 if x.kind = 4 then x.parts.flatMap fun p => tb.getD p.toNat []
 else if x.kind = 5 then (List.replicate x.many.toNat (tb.getD x.elem.toNat [])).flatten
 else [(k : Int)]
def tab (t : List Ty) : Nat → List (List Int)
 | 0 => []
 | n + 1 => tab t n ++ [cellsAt (t.getD n default) (tab t n) n]
def ofT (t : List Ty) (k : Nat) : List Int := (tab t (k + 1)).getD k []
theorem tab_len (t : List Ty) : ∀ n, (tab t n).length = n
 | 0 => rfl
 | n + 1 => by simp [tab, tab_len t n]
theorem tab_last (t : List Ty) (n : Nat) : (tab t (n + 1)).getD n [] = cellsAt (t.getD n default) (tab t n) n := by
 show (tab t n ++ [_]).getD n [] = _
 rw [List.getD_eq_getElem?_getD, List.getElem?_append_right (by rw [tab_len]; omega), tab_len, Nat.sub_self]
 rfl
theorem ofT_eq (t : List Ty) (k : Nat) : ofT t k = cellsAt (t.getD k default) (tab t k) k := tab_last t k
theorem tab_of (t : List Ty) : ∀ n j, j < n → (tab t n).getD j [] = ofT t j
 | n + 1, j, h => by
   by_cases hj : j = n
   · subst hj; rfl
   · have h' : j < n := by omega
     rw [← tab_of t n j h']
     show (tab t n ++ [_]).getD j [] = _
     rw [List.getD_eq_getElem?_getD, List.getElem?_append_left (by rw [tab_len]; omega), ← List.getD_eq_getElem?_getD]
theorem of_struct {t : List Ty} {k : Nat} (h : (t.getD k default).kind = 4) (hp : ∀ p ∈ (t.getD k default).parts, 0 ≤ p ∧ p < k) : ofT t k = (t.getD k default).parts.flatMap fun p => ofT t p.toNat := by
 rw [ofT_eq, cellsAt, if_pos h, List.flatMap_def, List.flatMap_def]
 congr 1
 refine List.map_congr_left fun p hm => ?_
 have := hp p hm
 exact tab_of t k _ (by omega)
theorem of_array {t : List Ty} {k : Nat} (h : (t.getD k default).kind = 5) (hp : 0 ≤ (t.getD k default).elem ∧ (t.getD k default).elem < k) : ofT t k = (List.replicate (t.getD k default).many.toNat (ofT t (t.getD k default).elem.toNat)).flatten := by
 rw [ofT_eq, cellsAt, if_neg (by omega), if_pos h, tab_of t k _ (by omega)]
theorem of_scalar {t : List Ty} {k : Nat} (h4 : (t.getD k default).kind ≠ 4) (h5 : (t.getD k default).kind ≠ 5) : ofT t k = [(k : Int)] := by
 rw [ofT_eq, cellsAt, if_neg h4, if_neg h5]
def lowerB (l : List Int) (m : Int) : Bool := l.all fun n => decide (0 ≤ n) && decide (n < m)
theorem lowerB_iff {l : List Int} {m : Int} : lowerB l m = true ↔ ∀ n ∈ l, 0 ≤ n ∧ n < m := by simp [lowerB]
def scalK (k : Nat) : Bool := k == 1 || k == 2 || k == 3
def plainB (t : List Ty) (k : Int) : Bool := decide (0 ≤ k) && decide (k < t.length) && scalK (t.getD k.toNat default).kind
def mayFnB (t : List Ty) (x : Ty) : Bool := x.parts.all (plainB t) && (plainB t x.elem && (decide (x.parts.length ≤ 4) && decide (x.many = 0)))
def mayX (t : List Ty) (x : Ty) (k : Nat) : Bool :=
 if x.kind = 1 then decide (x.elem = 0) && (decide (x.many = 0) && decide (x.parts.length = 0))
 else if x.kind = 2 then decide (0 ≤ x.elem) && (decide (x.elem < t.length) && (decide (x.many = 0) && decide (x.parts.length = 0)))
 else if x.kind = 3 then mayFnB t x
 else if x.kind = 4 then decide (x.elem = 0) && (decide (x.many = 0) && (decide (1 ≤ x.parts.length) && (decide (x.parts.length ≤ 8) && lowerB x.parts k)))
 else if x.kind = 5 then decide (0 ≤ x.elem) && (decide (x.elem < k) && (decide (1 ≤ x.many) && (decide (x.many ≤ 16) && decide (x.parts.length = 0))))
 else false
theorem mayX_other (t : List Ty) (x : Ty) (k : Nat) (e1 : ¬ x.kind = 1) (e2 : ¬ x.kind = 2) (e3 : ¬ x.kind = 3) (e4 : ¬ x.kind = 4) (e5 : ¬ x.kind = 5) : mayX t x k = false := by
 unfold mayX
 rw [if_neg e1, if_neg e2, if_neg e3, if_neg e4, if_neg e5]
def mayT (t : List Ty) (k : Nat) : Bool := mayX t (t.getD k default) k
def goodT (t : List Ty) (k : Nat) : Bool := mayT t k && decide ((ofT t k).length ≤ 32)
def allGood (t : List Ty) : Nat → Bool
 | 0 => true
 | n + 1 => allGood t n && goodT t n
theorem allGood_iff {t : List Ty} : ∀ {n : Nat}, allGood t n = true ↔ ∀ k, k < n → goodT t k = true
 | 0 => by simp [allGood]
 | n + 1 => by
   simp only [allGood, Bool.and_eq_true, allGood_iff]
   constructor
   · rintro ⟨h1, h2⟩ k hk
     by_cases e : k = n
     · rw [e]; exact h2
     · exact h1 k (by omega)
   · intro h; exact ⟨fun k hk => h k (by omega), h n (by omega)⟩
def checkT (t : List Ty) : Int := if 16 < t.length then 4 else if allGood t t.length then 0 else 30
theorem may_struct {t : List Ty} {k : Nat} (h : mayT t k = true) (h4 : (t.getD k default).kind = 4) : ∀ p ∈ (t.getD k default).parts, 0 ≤ p ∧ p < k := by
 unfold mayT mayX at h
 rw [if_neg (by omega), if_neg (by omega), if_neg (by omega), if_pos h4] at h
 simp only [Bool.and_eq_true] at h
 exact lowerB_iff.1 h.2.2.2.2
theorem may_array {t : List Ty} {k : Nat} (h : mayT t k = true) (h5 : (t.getD k default).kind = 5) : 0 ≤ (t.getD k default).elem ∧ (t.getD k default).elem < k ∧ 1 ≤ (t.getD k default).many ∧ (t.getD k default).many ≤ 16 := by
 unfold mayT mayX at h
 rw [if_neg (by omega), if_neg (by omega), if_neg (by omega), if_neg (by omega), if_pos h5] at h
 simp only [Bool.and_eq_true, decide_eq_true_eq] at h
 exact ⟨h.1, h.2.1, h.2.2.1, h.2.2.2.1⟩
def askedT (t : List Ty) (k : Int) : Int := if checkT t ≠ 0 then checkT t else if 0 ≤ k ∧ k < t.length then 0 else 2
def partsT (x : Ty) : List Int := if x.kind = 4 then x.parts else if x.kind = 5 then List.replicate x.many.toNat x.elem else []
def partT (t : List Ty) (k n : Int) : Int × Int :=
 if askedT t k ≠ 0 then (0, askedT t k)
 else if 0 ≤ n ∧ n < (partsT (t.getD k.toNat default)).length then ((partsT (t.getD k.toNat default)).getD n.toNat 0, 0) else (0, 2)
def aheadT (t : List Ty) (k : Nat) (n : Nat) : Nat := (((partsT (t.getD k default)).take n).map fun p => (ofT t p.toNat).length).sum
def offsetT (t : List Ty) (k n : Int) : Int × Int := if (partT t k n).2 ≠ 0 then (0, (partT t k n).2) else (aheadT t k.toNat n.toNat, 0)
theorem allGood_mono {t : List Ty} {n m : Nat} (h : allGood t n = true) (hm : m ≤ n) : allGood t m = true := allGood_iff.2 fun k hk => allGood_iff.1 h k (by omega)
theorem good_may {t : List Ty} {k : Nat} (h : goodT t k = true) : mayT t k = true := by
 unfold goodT at h; rw [Bool.and_eq_true] at h; exact h.1
theorem good_le {t : List Ty} {k : Nat} (h : goodT t k = true) : (ofT t k).length ≤ 32 := by
 unfold goodT at h; rw [Bool.and_eq_true, decide_eq_true_eq] at h; exact h.2
theorem flatMap_le {α β : Type} (f : α → List β) (m : Nat) : ∀ (l : List α), (∀ x ∈ l, (f x).length ≤ m) → (l.flatMap f).length ≤ l.length * m
 | [], _ => by simp
 | x :: l, h => by
   rw [List.flatMap_cons, List.length_append, List.length_cons, Nat.add_mul, Nat.one_mul]
   have := flatMap_le f m l (fun y hy => h y (by simp [hy]))
   have := h x (by simp)
   omega
def ofP (t : List Ty) (p : Int) : List Int := ofT t p.toNat
theorem struct_len {t : List Ty} {k : Nat} (h : mayT t k = true) (h4 : (t.getD k default).kind = 4) : 1 ≤ (t.getD k default).parts.length ∧ (t.getD k default).parts.length ≤ 8 := by
 unfold mayT mayX at h
 rw [if_neg (by omega), if_neg (by omega), if_neg (by omega), if_pos h4] at h
 simp only [Bool.and_eq_true, decide_eq_true_eq] at h
 exact ⟨h.2.2.1, h.2.2.2.1⟩
theorem part_le {t : List Ty} {k : Nat} (hg : allGood t k = true) {p : Int} (hp : 0 ≤ p ∧ p < k) : (ofP t p).length ≤ 32 := good_le (allGood_iff.1 hg _ (by omega))
theorem take_le {t : List Ty} {k : Nat} (hg : allGood t k = true) (h : mayT t k = true) (h4 : (t.getD k default).kind = 4) (j : Nat) : (((t.getD k default).parts.take j).flatMap (ofP t)).length ≤ 256 := by
 have h1 := flatMap_le (ofP t) 32 ((t.getD k default).parts.take j) (fun x hx => part_le hg (may_struct h h4 x (List.mem_of_mem_take hx)))
 have h2 := (struct_len h h4).2
 have h3 : ((t.getD k default).parts.take j).length ≤ (t.getD k default).parts.length := by rw [List.length_take]; omega
 omega
theorem rep_len {α : Type} (l : List α) : ∀ n, ((List.replicate n l).flatten).length = n * l.length
 | 0 => by simp
 | n + 1 => by rw [List.replicate_succ, List.flatten_cons, List.length_append, rep_len l n, Nat.add_mul, Nat.one_mul, Nat.add_comm]
theorem rep_snoc {α : Type} (l : List α) (n : Nat) : (List.replicate (n + 1) l).flatten = (List.replicate n l).flatten ++ l := by
 rw [List.replicate_succ', List.flatten_append]; simp
theorem check_zero {t : List Ty} (h : checkT t = 0) : t.length ≤ 16 ∧ allGood t t.length = true := by
 unfold checkT at h
 split at h
 · cases h
 · split at h
   · exact ⟨by omega, ‹_›⟩
   · cases h
theorem check_many {t : List Ty} (h : 16 < t.length) : checkT t = 4 := by unfold checkT; rw [if_pos h]
theorem check_good {t : List Ty} (h : t.length ≤ 16) (hg : allGood t t.length = true) : checkT t = 0 := by unfold checkT; rw [if_neg (by omega), if_pos hg]
theorem check_bad {t : List Ty} (h : t.length ≤ 16) {k : Nat} (hk : k < t.length) (hg : goodT t k = false) : checkT t = 30 := by
 unfold checkT
 rw [if_neg (by omega), if_neg]
 intro h'
 rw [allGood_iff.1 h' k hk] at hg
 cases hg
theorem allGood_succ {t : List Ty} {k : Nat} (h : allGood t k = true) (hg : goodT t k = true) : allGood t (k + 1) = true := by
 show (allGood t k && goodT t k) = true
 rw [h, hg]; rfl
structure Good (t : List Ty) (k : Nat) : Prop where
 zero : checkT t = 0
 lt : k < t.length
section
variable {t : List Ty} {k : Nat}
theorem Good.good (h : Good t k) : goodT t k = true := allGood_iff.1 (check_zero h.zero).2 k h.lt
theorem Good.may (h : Good t k) : mayT t k = true := good_may h.good
theorem Good.below (h : Good t k) : allGood t k = true := allGood_mono (check_zero h.zero).2 (Nat.le_of_lt h.lt)
theorem Good.parts (h : Good t k) : ∀ p ∈ partsT (t.getD k default), 0 ≤ p ∧ p < k := by
 intro p hp
 unfold partsT at hp
 split at hp
 · exact may_struct h.may ‹_› p hp
 · split at hp
   · have := may_array h.may ‹_›
     rw [List.eq_of_mem_replicate hp]
     exact ⟨this.1, this.2.1⟩
   · cases hp
theorem Good.part (h : Good t k) {p : Int} (hp : p ∈ partsT (t.getD k default)) : Good t p.toNat := by
 have := h.parts p hp
 exact ⟨h.zero, by have := h.lt; omega⟩
end
def scalarT (t : List Ty) (k : Int) : Bool := if askedT t k = 0 then plainB t k else false
def cellsT (t : List Ty) (k : Int) : List Int := if askedT t k = 0 then ofT t k.toNat else []
def partOfT (x : Ty) (n : Int) : Int := if 0 ≤ n ∧ n < (partsT x).length then (partsT x).getD n.toNat 0 else -1
end Go.Proofs.YtbffebcjimhapaaGreatDoor
