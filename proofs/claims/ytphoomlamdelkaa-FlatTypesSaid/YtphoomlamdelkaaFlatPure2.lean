/-
  Plain law: what the functions of flat fields answer; where a part's flat fields stand; what flat fields are. No program in sight.
-/
import Derived.Test.YtphoomlamdelkaaFlatPure
import Derived.Test.YtphoomlamdelkaaTypesParts
namespace Go.Proofs.Ytphoomlamdelkaa
set_option linter.unusedVariables false
set_option linter.unusedSimpArgs false

def flatT (t : List Ty) (k cell : Int) : Int × Int :=
  if askedT t k ≠ 0 then (0, askedT t k)
  else if 0 ≤ cell ∧ cell < (ofT t k.toNat).length then ((flaT t k.toNat).getD cell.toNat 0, 0) else (0, 2)
def toT (t : List Ty) (k n : Nat) : Nat := if (t.getD k default).kind = 5 then 0 else (((t.getD k default).parts.take n).map fun p => (fldP t p).length).sum
def stepT (t : List Ty) (k n : Int) : Int × Int := if (partT t k n).2 ≠ 0 then (0, (partT t k n).2) else ((toT t k.toNat n.toNat : Int), 0)

theorem joinF_app (F G : Int → List Int) : ∀ (l r : List Int) (b : Int), joinF F G b (l ++ r) = joinF F G b l ++ joinF F G (b + (l.flatMap F).length) r
  | [], r, b => by simp [joinF]
  | q :: l, r, b => by
    show (G q).map (· + b) ++ joinF F G (b + (F q).length) (l ++ r) = ((G q).map (· + b) ++ joinF F G (b + (F q).length) l) ++ _
    rw [joinF_app F G l r, List.append_assoc, List.flatMap_cons, List.length_append]
    congr 3
    omega
theorem getD_map_add (l : List Int) (b : Int) {i : Nat} (h : i < l.length) : (l.map (· + b)).getD i 0 = l.getD i 0 + b := by
  rw [List.getD_eq_getElem?_getD, List.getElem?_map, List.getElem?_eq_getElem h, List.getD_eq_getElem?_getD, List.getElem?_eq_getElem h]; rfl
theorem getD_app_right (l r : List Int) (i : Nat) : (l ++ r).getD (l.length + i) 0 = r.getD i 0 := by
  rw [List.getD_eq_getElem?_getD, List.getElem?_append_right (by omega), List.getD_eq_getElem?_getD, show l.length + i - l.length = i by omega]
theorem getD_app_left (l r : List Int) {i : Nat} (h : i < l.length) : (l ++ r).getD i 0 = l.getD i 0 := by
  rw [List.getD_eq_getElem?_getD, List.getElem?_append_left h, List.getD_eq_getElem?_getD]
theorem rep_split {α : Type} (l : List α) (n m : Nat) : (List.replicate (n + m) l).flatten = (List.replicate n l).flatten ++ (List.replicate m l).flatten := by
  rw [← List.replicate_append_replicate, List.flatten_append]
/-- The flat field of a part's cell. -/
theorem fla_part {t : List Ty} {k n i : Nat} (hg : Good t k) (hn : n < (partsT (t.getD k default)).length) (hi : i < (ofP t ((partsT (t.getD k default)).getD n 0)).length) :
    aheadT t k n + i < (ofT t k).length ∧ (flaT t k).getD (aheadT t k n + i) 0 = (toT t k n : Int) + (flaP t ((partsT (t.getD k default)).getD n 0)).getD i 0 := by
  have hal := ahead_len n (t := t) (k := k) (by omega)
  obtain ⟨rest, hsp, _⟩ := (part_law hg hn).split
  have hlen : aheadT t k n + i < (ofT t k).length := by rw [hsp, List.length_append, List.length_append, hal]; omega
  refine ⟨hlen, ?_⟩
  have hm : (partsT (t.getD k default)).getD n 0 ∈ partsT (t.getD k default) := mem_getD0 hn
  have hgp := hg.part hm
  have hfl : (flaP t ((partsT (t.getD k default)).getD n 0)).length = (ofP t ((partsT (t.getD k default)).getD n 0)).length := (fla_len hgp).1
  by_cases h4 : (t.getD k default).kind = 4
  · have hp := may_struct hg.may h4
    obtain ⟨_, e2⟩ := ff_struct h4 hp
    rw [partsT4 h4] at hn hi hm hfl hal ⊢
    have hq : ∀ p ∈ (t.getD k default).parts, (flaP t p).length = (ofP t p).length := fun p hpm => (fla_len (hg.part (by rw [partsT4 h4]; exact hpm))).1
    unfold toT
    rw [if_neg (by omega), e2]
    generalize (t.getD k default).parts = ps at hn hi hm hfl hal hq
    have hps : ps = ps.take n ++ (ps.getD n 0 :: ps.drop (n + 1)) := by
      rw [getD_lt ps hn, ← List.drop_eq_getElem_cons hn, List.take_append_drop]
    have hjl : (joinF (fldP t) (flaP t) 0 (ps.take n)).length = aheadT t k n := by
      rw [joinF_len, hal, flatMap_len]
      exact sum_map_congr _ _ _ fun p hpm => hq p (List.mem_of_mem_take hpm)
    have hj : joinF (fldP t) (flaP t) 0 ps = joinF (fldP t) (flaP t) 0 (ps.take n) ++ ((flaP t (ps.getD n 0)).map (fun x : Int => x + (0 + (((ps.take n).flatMap (fldP t)).length : Int))) ++ joinF (fldP t) (flaP t) (0 + ((ps.take n).flatMap (fldP t)).length + (fldP t (ps.getD n 0)).length) (ps.drop (n + 1))) := by
      have h1 := joinF_app (fldP t) (flaP t) (ps.take n) (ps.getD n 0 :: ps.drop (n + 1)) 0
      rw [← hps] at h1
      exact h1
    rw [hj, ← hjl, getD_app_right, getD_app_left _ _ (by rw [List.length_map, hfl]; exact hi), getD_map_add _ _ (by rw [hfl]; exact hi), flatMap_len]
    omega
  · have h5 : (t.getD k default).kind = 5 := by
      by_cases h5 : (t.getD k default).kind = 5
      · exact h5
      · rw [partsT0 h4 h5] at hn; cases hn
    obtain ⟨a1, a2, a3, a4⟩ := may_array hg.may h5
    obtain ⟨_, e2⟩ := ff_array h5 ⟨a1, a2⟩
    rw [partsT5 h5] at hn hi hm hfl hal ⊢
    rw [List.length_replicate] at hn
    have hpe := List.eq_of_mem_replicate hm
    rw [hpe] at hi hfl ⊢
    unfold toT
    rw [if_pos h5, e2]
    have hah : aheadT t k n = n * (flaP t (t.getD k default).elem).length := by
      rw [hal, List.take_replicate, Nat.min_eq_left (by omega), List.flatMap_def, List.map_replicate, rep_len, hfl]
    obtain ⟨m, hmm⟩ : ∃ m, (t.getD k default).many.toNat = n + (1 + m) := ⟨(t.getD k default).many.toNat - n - 1, by omega⟩
    rw [hmm, rep_split, rep_split]
    have : aheadT t k n = ((List.replicate n (flaP t (t.getD k default).elem)).flatten).length := by rw [hah, rep_len]
    rw [this, getD_app_right, getD_app_left _ _ (by rw [rep_len, hfl]; omega)]
    simp
structure FlaOk (fld fla of_ : List Int) : Prop where
  len : fla.length = of_.length
  lo : ∀ i, i < fla.length → 0 ≤ fla.getD i 0 ∧ fla.getD i 0 < fld.length ∧ fld.getD (fla.getD i 0).toNat 0 = of_.getD i 0
  met : ∀ n, n < fld.length → ∃ i, i < fla.length ∧ fla.getD i 0 = n
theorem FlaOk.nil : FlaOk [] [] [] := ⟨rfl, (fun i h => by cases h), (fun n h => by cases h)⟩
theorem FlaOk.app {a b c a' b' c' : List Int} (h : FlaOk a b c) (h' : FlaOk a' b' c') : FlaOk (a ++ a') (b ++ b'.map (· + (a.length : Int))) (c ++ c') := by
  refine ⟨by rw [List.length_append, List.length_map, List.length_append, h.len, h'.len], fun i hi => ?_, fun n hn => ?_⟩
  · rw [List.length_append, List.length_map] at hi
    by_cases hlt : i < b.length
    · obtain ⟨h1, h2, h3⟩ := h.lo i hlt
      rw [getD_app_left _ _ hlt, getD_app_left c _ (by rw [← h.len]; exact hlt), List.length_append, getD_app_left a _ (by omega)]
      exact ⟨h1, by omega, h3⟩
    · obtain ⟨j, rfl⟩ : ∃ j, i = b.length + j := ⟨i - b.length, by omega⟩
      have hj : j < b'.length := by omega
      obtain ⟨h1, h2, h3⟩ := h'.lo j hj
      rw [getD_app_right, getD_map_add _ _ hj, h.len, getD_app_right, List.length_append, show (b'.getD j 0 + (a.length : Int)).toNat = a.length + (b'.getD j 0).toNat by omega, getD_app_right]
      exact ⟨by omega, by omega, h3⟩
  · rw [List.length_append] at hn
    by_cases hlt : n < a.length
    · obtain ⟨i, h1, h2⟩ := h.met n hlt
      exact ⟨i, by rw [List.length_append]; omega, by rw [getD_app_left _ _ h1]; exact h2⟩
    · obtain ⟨j, h1, h2⟩ := h'.met (n - a.length) (by omega)
      exact ⟨b.length + j, by rw [List.length_append, List.length_map]; omega, by rw [getD_app_right, getD_map_add _ _ h1, h2]; omega⟩
theorem FlaOk.join {F G O : Int → List Int} (ps : List Int) (h : ∀ p ∈ ps, FlaOk (F p) (G p) (O p)) : FlaOk (ps.flatMap F) (joinF F G 0 ps) (ps.flatMap O) := by
  induction ps with
  | nil => exact FlaOk.nil
  | cons p ps ih =>
    have h1 := (h p (by simp)).app (ih fun q hq => h q (by simp [hq]))
    rw [joinF_shift] at h1
    rw [List.flatMap_cons, List.flatMap_cons]
    have e : joinF F G 0 (p :: ps) = G p ++ joinF F G (0 + (F p).length) ps := by
      show (G p).map (· + 0) ++ _ = _
      congr 1
      simp
    rw [e]
    exact h1
theorem FlaOk.rep {a b c : List Int} (h : FlaOk a b c) : ∀ m, FlaOk a (List.replicate (m + 1) b).flatten (List.replicate (m + 1) c).flatten
  | 0 => by simpa using h
  | m + 1 => by
    have h1 := FlaOk.rep h m
    rw [rep_snoc b (m + 1), rep_snoc c (m + 1)]
    refine ⟨by rw [List.length_append, List.length_append, h1.len, h.len], fun i hi => ?_, fun n hn => ?_⟩
    · rw [List.length_append] at hi
      by_cases hlt : i < ((List.replicate (m + 1) b).flatten).length
      · rw [getD_app_left _ _ hlt, getD_app_left _ _ (by rw [← h1.len]; exact hlt)]
        exact h1.lo i hlt
      · obtain ⟨j, rfl⟩ : ∃ j, i = ((List.replicate (m + 1) b).flatten).length + j := ⟨i - ((List.replicate (m + 1) b).flatten).length, by omega⟩
        rw [getD_app_right, h1.len, getD_app_right]
        exact h.lo j (by omega)
    · obtain ⟨i, g1, g2⟩ := h1.met n hn
      exact ⟨i, by rw [List.length_append]; omega, by rw [getD_app_left _ _ g1]; exact g2⟩
theorem fla_ok {t : List Ty} : ∀ {k : Nat}, Good t k → FlaOk (fldT t k) (flaT t k) (ofT t k) := by
  intro k
  induction k using Nat.strongRecOn with
  | _ k ih =>
    intro hg
    by_cases h4 : (t.getD k default).kind = 4
    · have hp := may_struct hg.may h4
      obtain ⟨e1, e2⟩ := ff_struct h4 hp
      have e3 : ofT t k = (t.getD k default).parts.flatMap (ofP t) := of_struct h4 hp
      rw [e1, e2, e3]
      exact FlaOk.join _ fun p hm => by
        have := hp p hm
        exact ih p.toNat (by omega) (hg.part (by rw [partsT4 h4]; exact hm))
    · by_cases h5 : (t.getD k default).kind = 5
      · obtain ⟨a1, a2, a3, a4⟩ := may_array hg.may h5
        obtain ⟨e1, e2⟩ := ff_array h5 ⟨a1, a2⟩
        have e3 := of_array h5 ⟨a1, a2⟩
        have h1 := ih (t.getD k default).elem.toNat (by omega) (hg.part (by rw [partsT5 h5]; exact List.mem_replicate.2 ⟨by omega, rfl⟩))
        rw [e1, e2, e3]
        obtain ⟨m, hm⟩ : ∃ m, (t.getD k default).many.toNat = m + 1 := ⟨(t.getD k default).many.toNat - 1, by omega⟩
        rw [hm]
        exact FlaOk.rep h1 m
      · obtain ⟨e1, e2⟩ := ff_scalar h4 h5
        rw [e1, e2, of_scalar h4 h5]
        refine ⟨rfl, fun i hi => ?_, fun n hn => ⟨0, by simp, ?_⟩⟩
        · have : i = 0 := by simpa using hi
          subst this
          simp
        · have : n = 0 := by simpa using hn
          subst this
          simp
/-- Without arrays flat fields are cells. -/
theorem fld_of {t : List Ty} (h : ∀ i, i < t.length → (t.getD i default).kind ≠ 5) : ∀ {k : Nat}, Good t k → fldT t k = ofT t k := by
  intro k
  induction k using Nat.strongRecOn with
  | _ k ih =>
    intro hg
    have h5 := h k hg.lt
    by_cases h4 : (t.getD k default).kind = 4
    · have hp := may_struct hg.may h4
      obtain ⟨e1, _⟩ := ff_struct h4 hp
      have e3 : ofT t k = (t.getD k default).parts.flatMap (ofP t) := of_struct h4 hp
      rw [e1, e3, List.flatMap_def, List.flatMap_def]
      congr 1
      refine List.map_congr_left fun p hm => ?_
      have := hp p hm
      exact ih p.toNat (by omega) (hg.part (by rw [partsT4 h4]; exact hm))
    · rw [(ff_scalar h4 h5).1, of_scalar h4 h5]
end Go.Proofs.Ytphoomlamdelkaa
