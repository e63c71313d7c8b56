/-
  Plain law: flat fields of types, and those of cells. No program in sight.
-/
import Derived.Test.YtphoomlamdelkaaTypPure2
namespace Go.Proofs.Ytphoomlamdelkaa
set_option linter.unusedVariables false
set_option linter.unusedSimpArgs false

/-- Part by part, each one's numbers behind the fields ahead. -/
def joinF (F : Int → List Int) (G : Int → List Int) : Int → List Int → List Int
  | _, [] => []
  | b, p :: ps => (G p).map (· + b) ++ joinF F G (b + (F p).length) ps
def fAt (x : Ty) (tb : List (List Int × List Int)) (k : Nat) : List Int × List Int :=
  if x.kind = 4 then (x.parts.flatMap fun p => (tb.getD p.toNat ([], [])).1, joinF (fun p => (tb.getD p.toNat ([], [])).1) (fun p => (tb.getD p.toNat ([], [])).2) 0 x.parts)
  else if x.kind = 5 then ((tb.getD x.elem.toNat ([], [])).1, (List.replicate x.many.toNat (tb.getD x.elem.toNat ([], [])).2).flatten)
  else ([(k : Int)], [0])
def ftab (t : List Ty) : Nat → List (List Int × List Int)
  | 0 => []
  | n + 1 => ftab t n ++ [fAt (t.getD n default) (ftab t n) n]
def ffT (t : List Ty) (k : Nat) : List Int × List Int := (ftab t (k + 1)).getD k ([], [])
/-- The flat fields of a type; those of its cells. -/
def fldT (t : List Ty) (k : Nat) : List Int := (ffT t k).1
def flaT (t : List Ty) (k : Nat) : List Int := (ffT t k).2
theorem ftab_len (t : List Ty) : ∀ n, (ftab t n).length = n
  | 0 => rfl
  | n + 1 => by simp [ftab, ftab_len t n]
theorem ffT_eq (t : List Ty) (k : Nat) : ffT t k = fAt (t.getD k default) (ftab t k) k := by
  show (ftab t k ++ [_]).getD k ([], []) = _
  rw [List.getD_eq_getElem?_getD, List.getElem?_append_right (by rw [ftab_len]; omega), ftab_len, Nat.sub_self]
  rfl
theorem ftab_of (t : List Ty) : ∀ n j, j < n → (ftab t n).getD j ([], []) = ffT t j
  | n + 1, j, h => by
    by_cases hj : j = n
    · subst hj; rfl
    · have h' : j < n := by omega
      rw [← ftab_of t n j h']
      show (ftab t n ++ [_]).getD j ([], []) = _
      rw [List.getD_eq_getElem?_getD, List.getElem?_append_left (by rw [ftab_len]; omega), ← List.getD_eq_getElem?_getD]
def fldP (t : List Ty) (p : Int) : List Int := fldT t p.toNat
def flaP (t : List Ty) (p : Int) : List Int := flaT t p.toNat
theorem joinF_congr {F F' G G' : Int → List Int} : ∀ (l : List Int) (b : Int), (∀ p ∈ l, F p = F' p ∧ G p = G' p) → joinF F G b l = joinF F' G' b l
  | [], _, _ => rfl
  | p :: ps, b, h => by
    show (G p).map (· + b) ++ joinF F G (b + (F p).length) ps = (G' p).map (· + b) ++ joinF F' G' (b + (F' p).length) ps
    rw [(h p (by simp)).1, (h p (by simp)).2, joinF_congr ps _ (fun q hq => h q (by simp [hq]))]
section
variable {t : List Ty} {k : Nat}
theorem ff_struct (h : (t.getD k default).kind = 4) (hp : ∀ p ∈ (t.getD k default).parts, 0 ≤ p ∧ p < k) : fldT t k = (t.getD k default).parts.flatMap (fldP t) ∧ flaT t k = joinF (fldP t) (flaP t) 0 (t.getD k default).parts := by
  unfold fldT flaT
  rw [ffT_eq, fAt, if_pos h]
  refine ⟨?_, ?_⟩
  · show List.flatMap _ _ = List.flatMap _ _
    rw [List.flatMap_def, List.flatMap_def]
    congr 1
    refine List.map_congr_left fun p hm => ?_
    have := hp p hm
    rw [ftab_of t k _ (by omega)]
    rfl
  · refine joinF_congr _ _ fun p hm => ?_
    have := hp p hm
    rw [ftab_of t k _ (by omega)]
    exact ⟨rfl, rfl⟩
theorem ff_array (h : (t.getD k default).kind = 5) (hp : 0 ≤ (t.getD k default).elem ∧ (t.getD k default).elem < k) : fldT t k = fldP t (t.getD k default).elem ∧ flaT t k = (List.replicate (t.getD k default).many.toNat (flaP t (t.getD k default).elem)).flatten := by
  unfold fldT flaT
  rw [ffT_eq, fAt, if_neg (by omega), if_pos h, ftab_of t k _ (by omega)]
  exact ⟨rfl, rfl⟩
theorem ff_scalar (h4 : (t.getD k default).kind ≠ 4) (h5 : (t.getD k default).kind ≠ 5) : fldT t k = [(k : Int)] ∧ flaT t k = [0] := by
  unfold fldT flaT
  rw [ffT_eq, fAt, if_neg h4, if_neg h5]
  exact ⟨rfl, rfl⟩
end
theorem joinF_snoc (F G : Int → List Int) : ∀ (l : List Int) (b p : Int), joinF F G b (l ++ [p]) = joinF F G b l ++ (G p).map (· + (b + (l.flatMap F).length))
  | [], b, p => by simp [joinF]
  | q :: l, b, p => by
    show (G q).map (· + b) ++ joinF F G (b + (F q).length) (l ++ [p]) = ((G q).map (· + b) ++ joinF F G (b + (F q).length) l) ++ _
    rw [joinF_snoc F G l _ p, List.append_assoc, List.flatMap_cons, List.length_append]
    congr 3
    funext x
    omega
theorem joinF_shift (F G : Int → List Int) : ∀ (l : List Int) (b c : Int), (joinF F G b l).map (· + c) = joinF F G (b + c) l
  | [], _, _ => rfl
  | p :: ps, b, c => by
    show ((G p).map (· + b) ++ joinF F G (b + (F p).length) ps).map (· + c) = (G p).map (· + (b + c)) ++ joinF F G (b + c + (F p).length) ps
    rw [List.map_append, joinF_shift F G ps, List.map_map]
    congr 1
    · refine List.map_congr_left fun x _ => ?_
      show x + b + c = x + (b + c)
      omega
    · congr 1
      omega
theorem joinF_len (F G : Int → List Int) : ∀ (l : List Int) (b : Int), (joinF F G b l).length = (l.map fun p => (G p).length).sum
  | [], _ => rfl
  | p :: ps, b => by
    show ((G p).map (· + b) ++ joinF F G (b + (F p).length) ps).length = _
    rw [List.length_append, List.length_map, joinF_len F G ps]
    rfl
theorem sum_map_congr {α : Type} (f g : α → Nat) : ∀ (l : List α), (∀ x ∈ l, f x = g x) → (l.map f).sum = (l.map g).sum
  | [], _ => rfl
  | x :: l, h => by
    rw [List.map_cons, List.map_cons, List.sum_cons, List.sum_cons, h x (by simp), sum_map_congr f g l (fun y hy => h y (by simp [hy]))]
theorem sum_map_le {α : Type} (f g : α → Nat) : ∀ (l : List α), (∀ x ∈ l, f x ≤ g x) → (l.map f).sum ≤ (l.map g).sum
  | [], _ => Nat.le_refl _
  | x :: l, h => by
    rw [List.map_cons, List.map_cons, List.sum_cons, List.sum_cons]
    have h1 := h x (by simp)
    have h2 := sum_map_le f g l (fun y hy => h y (by simp [hy]))
    omega
theorem flatMap_len {α β : Type} (f : α → List β) : ∀ (l : List α), (l.flatMap f).length = (l.map fun x => (f x).length).sum
  | [] => rfl
  | x :: l => by rw [List.flatMap_cons, List.length_append, flatMap_len f l]; rfl
/-- A cell has one flat field; fields are no more than cells, and there is one. -/
theorem fla_len {t : List Ty} : ∀ {k : Nat}, Good t k → (flaT t k).length = (ofT t k).length ∧ (fldT t k).length ≤ (ofT t k).length ∧ 1 ≤ (fldT t k).length := by
  intro k
  induction k using Nat.strongRecOn with
  | _ k ih =>
    intro hg
    by_cases h4 : (t.getD k default).kind = 4
    · have hp := may_struct hg.may h4
      have hq : ∀ p ∈ (t.getD k default).parts, (flaP t p).length = (ofP t p).length ∧ (fldP t p).length ≤ (ofP t p).length ∧ 1 ≤ (fldP t p).length := fun p hm => by
        have := hp p hm
        exact ih p.toNat (by omega) (hg.part (by rw [partsT4 h4]; exact hm))
      obtain ⟨e1, e2⟩ := ff_struct h4 hp
      have e3 : ofT t k = (t.getD k default).parts.flatMap (ofP t) := of_struct h4 hp
      rw [e1, e2, e3, joinF_len, flatMap_len, flatMap_len]
      refine ⟨sum_map_congr _ _ _ fun p hm => (hq p hm).1, sum_map_le _ _ _ fun p hm => (hq p hm).2.1, ?_⟩
      have h1 := (struct_len hg.may h4).1
      match hl : (t.getD k default).parts, h1 with
      | p :: ps, _ =>
        have := (hq p (by rw [hl]; simp)).2.2
        rw [List.map_cons, List.sum_cons]
        omega
    · by_cases h5 : (t.getD k default).kind = 5
      · obtain ⟨a1, a2, a3, a4⟩ := may_array hg.may h5
        obtain ⟨e1, e2⟩ := ff_array h5 ⟨a1, a2⟩
        have e3 := of_array h5 ⟨a1, a2⟩
        obtain ⟨i1, i2, i3⟩ := ih (t.getD k default).elem.toNat (by omega) (hg.part (by rw [partsT5 h5]; exact List.mem_replicate.2 ⟨by omega, rfl⟩))
        rw [e1, e2, e3, rep_len, rep_len]
        refine ⟨by show _ * (flaT t _).length = _; rw [i1], ?_, i3⟩
        refine Nat.le_trans i2 ?_
        have := Nat.mul_le_mul_right (ofT t (t.getD k default).elem.toNat).length (show 1 ≤ (t.getD k default).many.toNat by omega)
        omega
      · obtain ⟨e1, e2⟩ := ff_scalar h4 h5
        rw [e1, e2, of_scalar h4 h5]
        exact ⟨rfl, Nat.le_refl _, Nat.le_refl _⟩
end Go.Proofs.Ytphoomlamdelkaa
