/-
  Plain law: what the document's own answer goes through: sets that grow till no arrow leads out of them; ranks that grow till no arrow is against them. No program in sight.
-/
import Derived.Test.YtohoihicmmidmaaKnPure2
set_option linter.unusedVariables false
set_option linter.unusedSimpArgs false
namespace Go.Proofs.Ytohoihicmmidmaa.Kn

/-- The arrows of a list. -/
def Arr (l : List (Int × Int)) (x y : Nat) : Prop := ((x : Int), (y : Int)) ∈ l
/-- All ends are points. -/
def okG (n : Nat) (l : List (Int × Int)) : Prop := ∀ p ∈ l, 0 ≤ p.1 ∧ p.1 < n ∧ 0 ≤ p.2 ∧ p.2 < n
/-- The points to which arrows lead. -/
def toL (l : List (Int × Int)) (a : Nat) : List Nat := (l.filter (fun p => p.1 == (a : Int))).map (fun p => p.2.toNat)
theorem arr_iff {n : Nat} {l : List (Int × Int)} (h : okG n l) (a b : Nat) : Arr l a b ↔ b ∈ toL l a := by
  unfold Arr toL
  rw [List.mem_map]
  constructor
  · intro hm
    exact ⟨_, List.mem_filter.2 ⟨hm, by simp⟩, by simp⟩
  · rintro ⟨⟨x, y⟩, hm, rfl⟩
    obtain ⟨h1, h2⟩ := List.mem_filter.1 hm
    simp at h2
    have := h _ h1
    simp at this
    subst h2
    rw [Int.toNat_of_nonneg this.2.2.1]
    exact h1
theorem arr_lt {n : Nat} {l : List (Int × Int)} (h : okG n l) (a b : Nat) (e : Arr l a b) : b < n := by
  have := h _ e
  simp at this; omega
theorem arr_lt1 {n : Nat} {l : List (Int × Int)} (h : okG n l) (a b : Nat) (e : Arr l a b) : a < n := by
  have := h _ e
  simp at this; omega
theorem arr_at {n : Nat} {l : List (Int × Int)} (h : okG n l) {p : Int × Int} (hp : p ∈ l) : ∃ x y : Nat, x < n ∧ y < n ∧ p = ((x : Int), (y : Int)) ∧ Arr l x y := by
  obtain ⟨x, y⟩ := p
  obtain ⟨h1, h2, h3, h4⟩ := h _ hp
  simp only at h1 h2 h3 h4
  obtain ⟨x, rfl⟩ := Int.eq_ofNat_of_zero_le h1
  obtain ⟨y, rfl⟩ := Int.eq_ofNat_of_zero_le h3
  exact ⟨x, y, by omega, by omega, rfl, hp⟩

noncomputable def wayB (E : Nat → Nat → Prop) (a b : Nat) : Bool := @decide (Way E a b) (Classical.propDecidable _)
theorem wayB_iff {E : Nat → Nat → Prop} {a b : Nat} : wayB E a b = true ↔ Way E a b := by unfold wayB; simp
noncomputable def comeL (E : Nat → Nat → Prop) (n a : Nat) : List Bool := (List.range n).map (wayB E a)
theorem comeL_len (E : Nat → Nat → Prop) (n a : Nat) : (comeL E n a).length = n := by simp [comeL]
theorem comeL_at (E : Nat → Nat → Prop) {n a b : Nat} (hb : b < n) : (comeL E n a).getD b false = wayB E a b := by
  simp [comeL, List.getD_eq_getElem?_getD, hb]

/-- A set on its way. -/
structure ComeMid (l : List (Int × Int)) (n a : Nat) (bs : List Bool) : Prop where
  len : bs.length = n
  self : bs.getD a false = true
  way : ∀ b, bs.getD b false = true → Way (Arr l) a b
def falses (bs : List Bool) : Nat := bs.count false
theorem getD_setB {bs : List Bool} {k j : Nat} {x : Bool} (h : k < bs.length) : (bs.set k x).getD j false = if j = k then x else bs.getD j false := by
  rw [List.getD_eq_getElem?_getD, List.getElem?_set, List.getD_eq_getElem?_getD]
  by_cases e : j = k
  · subst e; simp [h]
  · have : ¬ k = j := fun h => e h.symm
    simp [e, this]
theorem falses_set {bs : List Bool} {k : Nat} (h : k < bs.length) (hf : bs.getD k false = false) : falses (bs.set k true) + 1 = falses bs := by
  unfold falses
  have e : bs[k] = false := by
    rw [List.getD_eq_getElem?_getD, List.getElem?_eq_getElem h] at hf; exact hf
  have hpos : 0 < bs.count false := List.count_pos_iff.2 (e ▸ List.getElem_mem h)
  rw [List.count_set h, e]
  simp
  omega
theorem come_start {l : List (Int × Int)} {n a : Nat} (ha : a < n) : ComeMid l n a ((List.replicate n false).set a true) := by
  refine ⟨by simp, by rw [getD_setB (by simpa using ha), if_pos rfl], fun b hb => ?_⟩
  rw [getD_setB (by simpa using ha)] at hb
  by_cases e : b = a
  · subst e; exact Way.refl _
  · rw [if_neg e] at hb
    rw [List.getD_eq_getElem?_getD, List.getElem?_replicate] at hb
    split at hb <;> simp at hb
theorem ComeMid.grow {l : List (Int × Int)} {n a : Nat} {bs : List Bool} (M : ComeMid l n a bs) {x y : Nat} (hy : y < n) (e : Arr l x y) (hx : bs.getD x false = true) : ComeMid l n a (bs.set y true) := by
  have hy' : y < bs.length := by rw [M.len]; exact hy
  refine ⟨by simp [M.len], ?_, fun b hb => ?_⟩
  · rw [getD_setB hy']; split
    · rfl
    · exact M.self
  · rw [getD_setB hy'] at hb
    by_cases h : b = y
    · subst h; exact (M.way x hx).snoc e
    · rw [if_neg h] at hb; exact M.way b hb
/-- No arrow leads out of the set. -/
def ClosedB (l : List (Int × Int)) (bs : List Bool) (k : Nat) : Prop := ∀ i x y : Nat, i < k → l[i]? = some ((x : Int), (y : Int)) → bs.getD x false = true → bs.getD y false = true
theorem ComeMid.done {l : List (Int × Int)} {n a : Nat} {bs : List Bool} (M : ComeMid l n a bs) (hc : ClosedB l bs l.length) : bs = comeL (Arr l) n a := by
  have key : ∀ b, Way (Arr l) a b → bs.getD b false = true := by
    intro b h
    induction h with
    | refl => exact M.self
    | snoc _ e ih =>
      obtain ⟨i, hi, he⟩ := List.getElem_of_mem e
      exact hc i _ _ hi (by rw [List.getElem?_eq_getElem hi, he]) ih
  apply List.ext_getElem
  · rw [M.len, comeL_len]
  · intro b h1 h2
    have e1 : bs[b] = bs.getD b false := by rw [List.getD_eq_getElem?_getD, List.getElem?_eq_getElem h1]; rfl
    have e2 : (comeL (Arr l) n a)[b] = wayB (Arr l) a b := by simp [comeL]
    rw [e1, e2, Bool.eq_iff_iff, wayB_iff]
    exact ⟨M.way b, key b⟩

/-- The head of a point's knot, as a number. -/
noncomputable def headN (E : Nat → Nat → Prop) (a : Nat) : Nat := @ite Nat (∃ h, IsHead E a h) (Classical.propDecidable _) (Classical.epsilon (IsHead E a)) a
theorem least_of (P : Nat → Prop) : ∀ k, P k → ∃ h, P h ∧ ∀ b, P b → h ≤ b := by
  intro k
  induction k using Nat.strongRecOn with
  | _ k ih =>
    intro hk
    by_cases h : ∃ j, j < k ∧ P j
    · obtain ⟨j, hj, hp⟩ := h
      exact ih j hj hp
    · exact ⟨k, hk, fun b hb => Nat.le_of_not_lt fun hl => h ⟨b, hl, hb⟩⟩
theorem head_ex (E : Nat → Nat → Prop) (a : Nat) : ∃ h, IsHead E a h := by
  obtain ⟨h, ⟨h1, h2⟩, h3⟩ := least_of (fun b => Way E a b ∧ Way E b a) a ⟨Way.refl a, Way.refl a⟩
  exact ⟨h, h1, h2, fun b b1 b2 => h3 b ⟨b1, b2⟩⟩
theorem head_is (E : Nat → Nat → Prop) (a : Nat) : IsHead E a (headN E a) := by
  unfold headN
  rw [if_pos (head_ex E a)]
  exact Classical.epsilon_spec (head_ex E a)
theorem head_eq {E : Nat → Nat → Prop} {a h : Nat} (H : IsHead E a h) : headN E a = h := (head_is E a).one H
theorem head_le (E : Nat → Nat → Prop) (a : Nat) : headN E a ≤ a := (head_is E a).le
theorem head_same {E : Nat → Nat → Prop} {a b : Nat} : headN E a = headN E b ↔ Way E a b ∧ Way E b a := (head_is E a).iff (head_is E b)
theorem head_head (E : Nat → Nat → Prop) (a : Nat) : headN E (headN E a) = headN E a := head_eq (head_is E a).self
noncomputable def headsL (E : Nat → Nat → Prop) (n : Nat) : List Nat := (List.range n).map (headN E)
/-- The search for a head: from below. -/
theorem head_first {E : Nat → Nat → Prop} {a h : Nat} (h1 : wayB E a h = true) (h2 : wayB E h a = true) (h3 : ∀ b < h, ¬ (wayB E a b = true ∧ wayB E b a = true)) : headN E a = h :=
  head_eq ⟨wayB_iff.1 h1, wayB_iff.1 h2, fun b b1 b2 => Nat.le_of_not_lt fun hl => h3 b hl ⟨wayB_iff.2 b1, wayB_iff.2 b2⟩⟩

/-- Ranks, as numbers. -/
noncomputable def rankN (E : Nat → Nat → Prop) (n : Nat) : Nat → Nat := Classical.epsilon (IsRank E n)
theorem rank_is {n : Nat} {l : List (Int × Int)} (h : okG n l) : IsRank (Arr l) n (rankN (Arr l) n) := by
  have hE : ∀ a b, Arr l a b ↔ b ∈ toL l a := arr_iff h
  have K := knots_all hE (arr_lt h)
  exact Classical.epsilon_spec ⟨_, ranks_is hE K⟩
theorem rank_eq {n : Nat} {l : List (Int × Int)} (h : okG n l) {r : Nat → Nat} (R : IsRank (Arr l) n r) {a : Nat} (ha : a < n) : rankN (Arr l) n a = r a := (rank_is h).one (arr_lt h) R ha
noncomputable def ranksL (E : Nat → Nat → Prop) (n : Nat) : List Nat := (List.range n).map (rankN E n)
theorem rank_head {n : Nat} {l : List (Int × Int)} (h : okG n l) {a : Nat} (ha : a < n) : rankN (Arr l) n (headN (Arr l) a) = rankN (Arr l) n a :=
  ((rank_is h).same (arr_lt h) ha (head_is _ a).on (head_is _ a).back).symm
theorem rank_small {n : Nat} {l : List (Int × Int)} (h : okG n l) {a : Nat} (ha : a < n) : rankN (Arr l) n a < n := by
  have R := rank_is h
  -- ranks 0 .. r a are all taken
  have key := R.lt (arr_lt h) _ a (Nat.le_refl _) ha
  refine Nat.lt_of_not_le fun hge => ?_
  have hc : ∀ j, ∃ b, j ≤ rankN (Arr l) n a → b < n ∧ rankN (Arr l) n b = j := fun j => by
    by_cases hj : j ≤ rankN (Arr l) n a
    · obtain ⟨b, hb⟩ := key j hj
      exact ⟨b, fun _ => hb⟩
    · exact ⟨0, fun h => absurd h hj⟩
  obtain ⟨f, hf⟩ : ∃ f : Nat → Nat, ∀ j, j ≤ rankN (Arr l) n a → f j < n ∧ rankN (Arr l) n (f j) = j := ⟨fun j => (hc j).choose, fun j => (hc j).choose_spec⟩
  have hnd : ((List.range (n + 1)).map f).Nodup := by
    rw [List.nodup_iff_pairwise_ne, List.pairwise_map]
    refine List.Pairwise.imp_of_mem ?_ (List.nodup_iff_pairwise_ne.1 List.nodup_range)
    intro i j hi hj hne e
    rw [List.mem_range] at hi hj
    have h1 := (hf i (by omega)).2
    have h2 := (hf j (by omega)).2
    rw [e] at h1
    omega
  have := few_of (n := n) hnd (fun x hx => by
    obtain ⟨j, hj, rfl⟩ := List.mem_map.1 hx
    rw [List.mem_range] at hj
    exact (hf j (by omega)).1)
  simp at this
  omega

/-- Ranks on their way. -/
structure RankMid (l : List (Int × Int)) (n : Nat) (o : List Nat) : Prop where
  len : o.length = n
  le : ∀ a, a < n → o.getD a 0 ≤ rankN (Arr l) n a
def ClosedR (l : List (Int × Int)) (o : List Nat) (k : Nat) : Prop :=
  ∀ i x y : Nat, i < k → l[i]? = some ((x : Int), (y : Int)) → headN (Arr l) x ≠ headN (Arr l) y → o.getD (headN (Arr l) y) 0 < o.getD (headN (Arr l) x) 0
theorem rank_start (l : List (Int × Int)) (n : Nat) : RankMid l n (List.replicate n 0) := by
  refine ⟨by simp, fun a ha => ?_⟩
  simp [List.getD_eq_getElem?_getD, ha]
theorem RankMid.grow {l : List (Int × Int)} {n : Nat} {o : List Nat} (h : okG n l) (M : RankMid l n o) {x y : Nat} (e : Arr l x y) (hne : headN (Arr l) x ≠ headN (Arr l) y) : RankMid l n (o.set (headN (Arr l) x) (o.getD (headN (Arr l) y) 0 + 1)) := by
  have hx := arr_lt1 h x y e
  have hy := arr_lt h x y e
  have hhx : headN (Arr l) x < n := by have := head_le (Arr l) x; omega
  have hhy : headN (Arr l) y < n := by have := head_le (Arr l) y; omega
  refine ⟨by simp [M.len], fun a ha => ?_⟩
  rw [getD_set (by rw [M.len]; exact hhx)]
  split
  · rename_i e1
    subst e1
    rw [rank_head h hx]
    have h1 := M.le _ hhy
    rw [rank_head h hy] at h1
    have h2 := (rank_is h).down x y hx e (fun w => hne (head_same.2 ⟨Way.one e, w⟩))
    omega
  · exact M.le a ha
theorem sum_set {o : List Nat} {k v : Nat} (h : k < o.length) : (o.set k v).sum + o.getD k 0 = o.sum + v := by
  induction o generalizing k with
  | nil => simp at h
  | cons a o ih =>
    cases k with
    | zero => simp; omega
    | succ k =>
      have := ih (k := k) (by simpa using h)
      simp at this ⊢
      omega
theorem sum_le : ∀ {o r : List Nat}, o.length = r.length → (∀ k, o.getD k 0 ≤ r.getD k 0) → o.sum ≤ r.sum
  | [], r, h, _ => by simp
  | a :: o, [], h, _ => by simp at h
  | a :: o, b :: r, h, hle => by
    have h0 := hle 0
    have := sum_le (o := o) (r := r) (by simpa using h) (fun k => by simpa using hle (k + 1))
    simp at h0 ⊢
    omega
noncomputable def room (l : List (Int × Int)) (n : Nat) (o : List Nat) : Nat := (ranksL (Arr l) n).sum - o.sum
theorem ranksL_at (E : Nat → Nat → Prop) {n a : Nat} (ha : a < n) : (ranksL E n).getD a 0 = rankN E n a := by simp [ranksL, List.getD_eq_getElem?_getD, ha]
theorem RankMid.sum {l : List (Int × Int)} {n : Nat} {o : List Nat} (M : RankMid l n o) : o.sum ≤ (ranksL (Arr l) n).sum := by
  refine sum_le (by rw [M.len]; simp [ranksL]) fun k => ?_
  by_cases hk : k < n
  · rw [ranksL_at _ hk]; exact M.le k hk
  · rw [List.getD_eq_getElem?_getD, List.getElem?_eq_none (by rw [M.len]; omega)]; exact Nat.zero_le _
theorem RankMid.room_lt {l : List (Int × Int)} {n : Nat} {o : List Nat} (h : okG n l) (M : RankMid l n o) {x y : Nat} (e : Arr l x y) (hne : headN (Arr l) x ≠ headN (Arr l) y) (hv : o.getD (headN (Arr l) x) 0 ≤ o.getD (headN (Arr l) y) 0) :
    room l n (o.set (headN (Arr l) x) (o.getD (headN (Arr l) y) 0 + 1)) < room l n o := by
  have M' := M.grow h e hne
  have hx := arr_lt1 h x y e
  have hhx : headN (Arr l) x < n := by have := head_le (Arr l) x; omega
  have h1 := M'.sum
  have h2 := sum_set (o := o) (k := headN (Arr l) x) (v := o.getD (headN (Arr l) y) 0 + 1) (by rw [M.len]; exact hhx)
  unfold room
  omega
theorem RankMid.done {l : List (Int × Int)} {n : Nat} {o : List Nat} (h : okG n l) (M : RankMid l n o) (hc : ClosedR l o l.length) : ∀ a, a < n → o.getD (headN (Arr l) a) 0 = rankN (Arr l) n a := by
  have R := rank_is h
  have key : ∀ (k a : Nat), rankN (Arr l) n a ≤ k → a < n → rankN (Arr l) n a ≤ o.getD (headN (Arr l) a) 0 := by
    intro k
    induction k with
    | zero => intro a h1 _; omega
    | succ k ih =>
      intro a h1 ha
      rcases R.next a ha with h0 | ⟨x, y, hx, e, w1, w2, w3, hr⟩
      · omega
      · have e1 := R.same (arr_lt h) ha w1 w2
        have hh : headN (Arr l) a = headN (Arr l) x := head_same.2 ⟨w1, w2⟩
        have i1 := ih y (by omega) (arr_lt h x y e)
        obtain ⟨i, hi, he⟩ := List.getElem_of_mem e
        have := hc i x y hi (by rw [List.getElem?_eq_getElem hi, he]) (fun hq => w3 (head_same.1 hq).2)
        rw [hh]
        omega
  intro a ha
  refine Nat.le_antisymm ?_ (key _ a (Nat.le_refl _) ha)
  have := M.le (headN (Arr l) a) (by have := head_le (Arr l) a; omega)
  rw [rank_head h ha] at this
  exact this

/-- Does an arrow lead from a point into its own knot? -/
noncomputable def tiesB (l : List (Int × Int)) (a : Nat) : Bool := l.any fun p => p.1 == (a : Int) && wayB (Arr l) p.2.toNat a
end Go.Proofs.Ytohoihicmmidmaa.Kn
