/-
  Plain law: life holds on. No program in sight.
-/
import Derived.Test.YthddacnnhmcoaaaMmLaws2
import Derived.Test.YthddacnnhmcoaaaMmNew5
namespace Go.Proofs.Ythddacnnhmcoaaa
set_option linter.unusedVariables false
set_option linter.unusedSimpArgs false

theorem holds_both {m : List Bk} : holdsM m = true ↔ mayM m = true ∧ lifeM m = true := by unfold holdsM; rw [Bool.and_eq_true]
section
variable {m m' : List Bk} {p v : Vl} {b : Bk} {d : Int}
theorem deep_same (h : ∀ i, (m'.getD i default).depth = (m.getD i default).depth) (v : Vl) : deepM m' v = deepM m v := by
  unfold deepM blkOf
  rw [h]
theorem lifeB_same (h : ∀ i, (m'.getD i default).depth = (m.getD i default).depth) (b : Bk) : lifeB m' b = lifeB m b := by
  unfold lifeB
  rw [show (fun v => decide (deepM m' v ≤ b.depth)) = fun v => decide (deepM m v ≤ b.depth) from funext fun v => by rw [deep_same h]]
theorem depth_set {i : Nat} (hb : b.depth = (m.getD i default).depth) : ∀ j, ((m.set i b).getD j default).depth = (m.getD j default).depth := fun j => by
  by_cases e : i = j
  · subst e
    by_cases hi : i < m.length
    · rw [getD_set_eq _ _ hi, hb]
    · rw [List.set_eq_of_length_le (by omega)]
  · rw [getD_set_ne _ _ e]
theorem life_set {i : Nat} (hm : lifeM m = true) (hb : b.depth = (m.getD i default).depth) (hok : lifeB m b = true) : lifeM (m.set i b) = true := by
  unfold lifeM at hm ⊢
  rw [List.all_eq_true]
  intro x hx
  rw [lifeB_same (depth_set hb)]
  rcases List.mem_or_eq_of_mem_set hx with hx | rfl
  · exact List.all_eq_true.1 hm x hx
  · exact hok
theorem life_at {i : Nat} (hm : lifeM m = true) (hi : i < m.length) : lifeB m (m.getD i default) = true := by
  unfold lifeM at hm
  exact List.all_eq_true.1 hm _ (mem_getD hi)
theorem life_free (h : holdsM m = true) (hf : freeE m p = 0) : holdsM (freeM m p) = true := by
  refine holds_both.2 ⟨(free_laws (q := p) hf).1, ?_⟩
  unfold freeM
  rw [if_pos hf]
  exact life_set (holds_both.1 h).2 rfl (by unfold lifeB deadB; rfl)
theorem life_store (h : holdsM m = true) (hs : storeE m p v = 0) : holdsM (storeM m p v) = true := by
  obtain ⟨_, hp, _, _, _, hd⟩ := store_ok hs
  have hl := life_at (holds_both.1 h).2 (ptr_lt hp)
  refine holds_both.2 ⟨(store_laws (q := p) hs).1, ?_⟩
  unfold storeM
  rw [if_pos hs]
  refine life_set (holds_both.1 h).2 rfl ?_
  unfold lifeB at hl ⊢
  rw [Bool.or_eq_true] at hl ⊢
  rcases hl with hl | hl
  · exact .inl hl
  · refine .inr (List.all_eq_true.2 fun x hx => ?_)
    rcases List.mem_or_eq_of_mem_set hx with hx | rfl
    · exact List.all_eq_true.1 hl x hx
    · exact decide_eq_true (show deepM m x ≤ (blkOf m p).depth by omega)
theorem deep_app (b : Bk) (h : isV m v = true) : deepM (m ++ [b]) v = deepM m v := by
  unfold deepM
  by_cases hc : v.k = 2 ∧ 0 < v.b
  · have hin := isV_ptr hc.1 h (by omega)
    rw [if_pos hc, if_pos hc]
    unfold blkOf
    rw [getD_app _ _ (by omega)]
  · rw [if_neg hc, if_neg hc]
theorem life_new {s k : Int} {l : List Int} (h : holdsM m = true) (hn : newE m s k d l = 0) : holdsM (newM m s k d l) = true := by
  have ho := new_ok hn
  rw [(new_yes hn).1]
  refine holds_both.2 ⟨new_may hn, ?_⟩
  have hm := (holds_both.1 h).2
  have hmay := ho.1
  unfold lifeM at hm ⊢
  refine List.all_eq_true.2 fun x hx => ?_
  rcases List.mem_append.1 hx with hx | hx
  · have hl := List.all_eq_true.1 hm x hx
    unfold mayM at hmay
    rw [Bool.and_eq_true] at hmay
    have hok := List.all_eq_true.1 hmay.2 x hx
    unfold okB at hok
    simp only [Bool.and_eq_true] at hok
    unfold lifeB at hl ⊢
    rw [Bool.or_eq_true] at hl ⊢
    rcases hl with hl | hl
    · exact .inl hl
    · refine .inr (List.all_eq_true.2 fun y hy => ?_)
      rw [deep_app _ (List.all_eq_true.1 hok.2.2.2.2.2 y hy)]
      exact List.all_eq_true.1 hl y hy
  · obtain rfl := List.mem_singleton.1 hx
    unfold lifeB
    rw [Bool.or_eq_true]
    refine .inr (List.all_eq_true.2 fun y hy => ?_)
    obtain ⟨z, _, rfl⟩ := List.mem_map.1 hy
    refine decide_eq_true ?_
    unfold deepM firstV
    rw [if_neg (by rintro ⟨_, h2⟩; exact absurd (show (0 : Int) < 0 from h2) (by decide))]
    exact ho.2.2.2.2.1
theorem getD_map (f : Bk → Bk) (hf : f default = default) (l : List Bk) (i : Nat) : (l.map f).getD i default = f (l.getD i default) := by
  by_cases h : i < l.length
  · rw [getD_lt _ (by rw [List.length_map]; exact h), getD_lt _ h, List.getElem_map]
  · rw [List.getD_eq_getElem?_getD, List.getElem?_eq_none (by rw [List.length_map]; omega), List.getD_eq_getElem?_getD, List.getElem?_eq_none (by omega)]
    exact hf.symm
theorem popB_default (d : Int) : popB d default = default := by
  unfold popB
  split <;> rfl
theorem popB_cells (d : Int) (b : Bk) : (popB d b).cells = b.cells := by unfold popB; split <;> rfl
theorem popB_depth (d : Int) (b : Bk) : (popB d b).depth = b.depth := by unfold popB; split <;> rfl
theorem popB_ok (d : Int) (b : Bk) : okB m (popB d b) = okB m b := by unfold popB; split <;> rfl
theorem pop_ok (h : popE m d = 0) : mayM m = true ∧ 1 ≤ d := by
  unfold popE at h
  cases hm : mayM m with
  | false => rw [if_pos hm] at h; cases h
  | true =>
    rw [if_neg (by rw [hm]; decide)] at h
    by_cases hd : d < 1
    · rw [if_pos hd] at h; cases h
    · exact ⟨rfl, by omega⟩
theorem pop_alike (d : Int) : Alike m (m.map (popB d)) := ⟨List.length_map _, fun i => by rw [getD_map _ (popB_default d), popB_cells]⟩
theorem pop_deep (d : Int) (v : Vl) : deepM (m.map (popB d)) v = deepM m v := deep_same (fun i => by rw [getD_map _ (popB_default d), popB_depth]) v
theorem pop_may (h : popE m d = 0) : mayM (m.map (popB d)) = true := by
  have hm := (pop_ok h).1
  unfold mayM at hm ⊢
  rw [Bool.and_eq_true] at hm ⊢
  refine ⟨by rw [List.length_map]; exact hm.1, List.all_eq_true.2 fun x hx => ?_⟩
  obtain ⟨y, hy, rfl⟩ := List.mem_map.1 hx
  rw [okB_alike (pop_alike d), popB_ok]
  exact List.all_eq_true.1 hm.2 y hy
theorem life_pop (h : holdsM m = true) (hp : popE m d = 0) : holdsM (popM m d) = true := by
  unfold popM
  rw [if_pos hp]
  refine holds_both.2 ⟨pop_may hp, ?_⟩
  have hm := (holds_both.1 h).2
  unfold lifeM at hm ⊢
  refine List.all_eq_true.2 fun x hx => ?_
  obtain ⟨y, hy, rfl⟩ := List.mem_map.1 hx
  have hl := List.all_eq_true.1 hm y hy
  rw [lifeB_same (m := m) (m' := m.map (popB d)) (fun i => by rw [getD_map _ (popB_default d), popB_depth])]
  by_cases hc : d ≤ y.depth
  · rw [show popB d y = deadB y by unfold popB; rw [if_pos hc]]; rfl
  · rw [show popB d y = y by unfold popB; rw [if_neg hc]]; exact hl
/-- Behind a Pop: no block that is alive is so deep, nor points so deep. -/
theorem pop_low (h : holdsM m = true) (hp : popE m d = 0) {j : Nat} (hj : j < (popM m d).length) (ha : ((popM m d).getD j default).alive = true) :
    ((popM m d).getD j default).depth < d ∧ ∀ n, n < ((popM m d).getD j default).cells.length → depthE (popM m d) (((popM m d).getD j default).cells.getD n default) = 0 ∧ depthM (popM m d) (((popM m d).getD j default).cells.getD n default) < d := by
  have hmay := pop_may hp
  have hlm := (holds_both.1 h).2
  have hmm := (holds_both.1 h).1
  unfold popM at hj ha ⊢
  rw [if_pos hp] at hj ha ⊢
  rw [List.length_map] at hj
  rw [getD_map _ (popB_default d)] at ha ⊢
  rw [popB_cells, popB_depth]
  have hnd : ¬ d ≤ (m.getD j default).depth := by
    intro e
    unfold popB at ha
    rw [if_pos e] at ha
    cases ha
  have hal : (m.getD j default).alive = true := by
    unfold popB at ha
    rw [if_neg hnd] at ha
    exact ha
  refine ⟨by omega, fun n hn => ?_⟩
  have hv := okB_cell (may_at hmm hj) hn
  have hle : deepM m ((m.getD j default).cells.getD n default) ≤ (m.getD j default).depth := by
    have hl := life_at hlm hj
    unfold lifeB at hl
    rw [Bool.or_eq_true] at hl
    rcases hl with hl | hl
    · rw [hal] at hl; cases hl
    · exact of_decide_eq_true (List.all_eq_true.1 hl _ (mem_getD hn))
  have hde : depthE (m.map (popB d)) ((m.getD j default).cells.getD n default) = 0 := by
    unfold depthE
    rw [if_neg (by rw [hmay]; decide), isV_alike (pop_alike d), hv, if_neg (by decide)]
  refine ⟨hde, ?_⟩
  unfold depthM
  rw [if_pos hde, pop_deep]
  omega
end
end Go.Proofs.Ythddacnnhmcoaaa
