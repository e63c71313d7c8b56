/-
  Plain law: heads and ranks of knots; that both are told by what comes to what. No program in sight.
-/
import Derived.Test.YtohoihicmmidmaaKnPure
set_option linter.unusedVariables false
set_option linter.unusedSimpArgs false
namespace Go.Proofs.Ytohoihicmmidmaa.Kn

theorem getD_mem {l : List (List Nat)} {k : Nat} {A : List Nat} (h : l[k]? = some A) : A ∈ l := List.mem_of_getElem? h

/-- The place of a point's knot. -/
def placeOf (all : List (List Nat)) (a : Nat) : Nat := (all.findIdx? (fun A => decide (a ∈ A))).getD 0

theorem place_is : ∀ {all : List (List Nat)}, all.flatten.Nodup → ∀ {k : Nat} {A : List Nat} {a : Nat}, all[k]? = some A → a ∈ A → placeOf all a = k
  | [], _, k, A, a, h, _ => by simp at h
  | B :: r, hd, k, A, a, h, ha => by
    rw [List.flatten_cons, List.nodup_append] at hd
    cases k with
    | zero =>
      have e : B = A := by simpa using h
      subst e
      simp [placeOf, List.findIdx?_cons, ha]
    | succ k =>
      have h' : r[k]? = some A := by simpa using h
      have hB : a ∉ B := fun hb => hd.2.2 a hb a (List.mem_flatten.2 ⟨A, List.mem_of_getElem? h', ha⟩) rfl
      have ih := place_is hd.2.1 h' ha
      unfold placeOf at ih ⊢
      have hs : ∃ j, r.findIdx? (fun A => decide (a ∈ A)) = some j := by
        cases e : r.findIdx? (fun A => decide (a ∈ A)) with
        | some j => exact ⟨j, rfl⟩
        | none =>
          rw [List.findIdx?_eq_none_iff] at e
          have := e A (List.mem_of_getElem? h')
          simp [ha] at this
      obtain ⟨j, hj⟩ := hs
      rw [hj] at ih
      simp only [List.findIdx?_cons, hB, decide_false, Bool.false_eq_true, if_false, hj]
      simp at ih ⊢
      exact ih
theorem place_none {all : List (List Nat)} {a : Nat} (h : a ∉ all.flatten) : placeOf all a = 0 := by
  unfold placeOf
  have : all.findIdx? (fun A => decide (a ∈ A)) = none := by
    rw [List.findIdx?_eq_none_iff]
    intro A hA
    simp
    intro ha
    exact h (List.mem_flatten.2 ⟨A, hA, ha⟩)
  rw [this]; rfl
theorem place_snoc {all : List (List Nat)} {S : List Nat} (hd : (all ++ [S]).flatten.Nodup) (a : Nat) : placeOf (all ++ [S]) a = if a ∈ S then all.length else placeOf all a := by
  by_cases h : a ∈ S
  · rw [if_pos h]
    exact place_is hd (k := all.length) (by simp) h
  · rw [if_neg h]
    by_cases h' : a ∈ all.flatten
    · obtain ⟨A, hA, ha⟩ := List.mem_flatten.1 h'
      obtain ⟨k, hk, rfl⟩ := List.getElem_of_mem hA
      rw [place_is hd (k := k) (A := all[k]) (by rw [List.getElem?_append_left hk, List.getElem?_eq_getElem hk]) ha]
      have hd' : all.flatten.Nodup := by
        rw [List.flatten_append, List.nodup_append] at hd
        exact hd.1
      rw [place_is hd' (List.getElem?_eq_getElem hk) ha]
    · rw [place_none h', place_none (by simp [h, h'])]

section
variable {E : Nat → Nat → Prop} {n : Nat} {all : List (List Nat)}

theorem Knots.at (K : Knots E n all) {a : Nat} (ha : a < n) : ∃ A, all[placeOf all a]? = some A ∧ a ∈ A := by
  obtain ⟨A, hA, h⟩ := List.mem_flatten.1 ((K.mem a).2 ha)
  obtain ⟨k, hk, e⟩ := List.getElem_of_mem hA
  have := place_is K.nd (k := k) (A := A) (by rw [List.getElem?_eq_getElem hk, e]) h
  exact ⟨A, by rw [this, List.getElem?_eq_getElem hk, e], h⟩
theorem Knots.lt (K : Knots E n all) {a : Nat} (ha : a < n) : placeOf all a < all.length := by
  obtain ⟨A, hA, _⟩ := K.at ha
  exact (List.getElem?_eq_some_iff.1 hA).1
theorem Knots.arrow (K : Knots E n all) {a b : Nat} (ha : a < n) (h : E a b) : b < n ∧ placeOf all b ≤ placeOf all a := by
  obtain ⟨A, hA, haA⟩ := K.at ha
  obtain ⟨j, B, h1, h2, h3⟩ := K.shut _ A hA a haA b h
  exact ⟨(K.mem b).1 (List.mem_flatten.2 ⟨B, getD_mem h2, h3⟩), by rw [place_is K.nd h2 h3]; exact h1⟩
theorem Knots.way (K : Knots E n all) {a b : Nat} (ha : a < n) (h : Way E a b) : b < n ∧ placeOf all b ≤ placeOf all a := by
  induction h with
  | refl => exact ⟨ha, Nat.le_refl _⟩
  | snoc _ e ih =>
    have := K.arrow ih.1 e
    exact ⟨this.1, Nat.le_trans this.2 ih.2⟩
theorem Knots.same (K : Knots E n all) {a b : Nat} (ha : a < n) (hb : b < n) : placeOf all a = placeOf all b ↔ Way E a b ∧ Way E b a := by
  constructor
  · intro h
    obtain ⟨A, hA, haA⟩ := K.at ha
    obtain ⟨B, hB, hbB⟩ := K.at hb
    rw [h, hB] at hA
    cases hA
    have := (K.knot _ (getD_mem hB)).2
    exact ⟨this a haA b hbB, this b hbB a haA⟩
  · rintro ⟨h1, h2⟩
    have := (K.way ha h1).2
    have := (K.way hb h2).2
    omega
theorem Knots.in_iff (K : Knots E n all) {a b : Nat} {A : List Nat} (ha : a < n) (hA : all[placeOf all a]? = some A) : b ∈ A ↔ Way E a b ∧ Way E b a := by
  obtain ⟨A', hA', haA⟩ := K.at ha
  rw [hA] at hA'
  cases hA'
  constructor
  · intro hb
    have := (K.knot A (getD_mem hA)).2
    exact ⟨this a haA b hb, this b hb a haA⟩
  · intro h
    have hb := (K.way ha h.1).1
    have e := (K.same ha hb).2 h
    obtain ⟨B, hB, hbB⟩ := K.at hb
    rw [← e, hA] at hB
    cases hB
    exact hbB

/-- The head of a point's knot. -/
structure IsHead (E : Nat → Nat → Prop) (a h : Nat) : Prop where
  on : Way E a h
  back : Way E h a
  least : ∀ b, Way E a b → Way E b a → h ≤ b
theorem IsHead.one {a h h' : Nat} (H : IsHead E a h) (H' : IsHead E a h') : h = h' :=
  Nat.le_antisymm (H.least _ H'.on H'.back) (H'.least _ H.on H.back)
theorem IsHead.le {a h : Nat} (H : IsHead E a h) : h ≤ a := H.least a (Way.refl a) (Way.refl a)
theorem IsHead.self {a h : Nat} (H : IsHead E a h) : IsHead E h h :=
  ⟨Way.refl h, Way.refl h, fun b h1 h2 => H.least b (H.on.trans h1) (h2.trans H.back)⟩
theorem IsHead.iff {a b h k : Nat} (H : IsHead E a h) (K : IsHead E b k) : h = k ↔ Way E a b ∧ Way E b a := by
  constructor
  · rintro rfl
    exact ⟨H.on.trans K.back, K.on.trans H.back⟩
  · rintro ⟨h1, h2⟩
    exact H.one ⟨h1.trans K.on, K.back.trans h2, fun c c1 c2 => K.least c (h2.trans c1) (c2.trans h1)⟩
theorem Knots.head (K : Knots E n all) {a m : Nat} {A : List Nat} (ha : a < n) (hA : all[placeOf all a]? = some A) (hm : m ∈ A) (hl : ∀ b ∈ A, m ≤ b) : IsHead E a m :=
  ⟨((K.in_iff ha hA).1 hm).1, ((K.in_iff ha hA).1 hm).2, fun b h1 h2 => hl b ((K.in_iff ha hA).2 ⟨h1, h2⟩)⟩

/-- Ranks: arrows go down, but within a knot; no rank is greater than it must be. -/
structure IsRank (E : Nat → Nat → Prop) (n : Nat) (r : Nat → Nat) : Prop where
  within : ∀ x y, x < n → E x y → Way E y x → r x = r y
  down : ∀ x y, x < n → E x y → ¬ Way E y x → r y < r x
  next : ∀ a, a < n → r a = 0 ∨ ∃ x y, x < n ∧ E x y ∧ Way E a x ∧ Way E x a ∧ ¬ Way E y x ∧ r x = r y + 1
variable {r r' : Nat → Nat}
theorem IsRank.same (hlt : ∀ a b, E a b → b < n) (R : IsRank E n r) {a b : Nat} (ha : a < n) (h1 : Way E a b) (h2 : Way E b a) : r a = r b := by
  induction h1 with
  | refl => rfl
  | snoc w e ih =>
    rename_i b c
    have hb : b < n := by
      cases w with
      | refl => exact ha
      | snoc _ e' => exact hlt _ _ e'
    have cb : Way E c b := h2.trans w
    rw [ih ((Way.one e).trans h2)]
    exact R.within b c hb e cb
theorem IsRank.le (hlt : ∀ a b, E a b → b < n) (R : IsRank E n r) (R' : IsRank E n r') : ∀ (k a : Nat), r a ≤ k → a < n → r a ≤ r' a
  | 0, a, h, _ => by omega
  | k + 1, a, h, ha => by
    rcases R.next a ha with h0 | ⟨x, y, hx, e, w1, w2, w3, hr⟩
    · omega
    · have e1 := R.same hlt ha w1 w2
      have e2 := R'.same hlt ha w1 w2
      have ih := IsRank.le hlt R R' k y (by omega) (hlt x y e)
      have := R'.down x y hx e w3
      omega
theorem IsRank.one (hlt : ∀ a b, E a b → b < n) (R : IsRank E n r) (R' : IsRank E n r') {a : Nat} (ha : a < n) : r a = r' a :=
  Nat.le_antisymm (R.le hlt R' _ a (Nat.le_refl _) ha) (R'.le hlt R _ a (Nat.le_refl _) ha)
theorem IsRank.lt (hlt : ∀ a b, E a b → b < n) (R : IsRank E n r) : ∀ (k a : Nat), r a ≤ k → a < n → ∀ j ≤ r a, ∃ b < n, r b = j
  | 0, a, h, ha, j, hj => ⟨a, ha, by omega⟩
  | k + 1, a, h, ha, j, hj => by
    by_cases e : j = r a
    · exact ⟨a, ha, e.symm⟩
    · rcases R.next a ha with h0 | ⟨x, y, hx, ex, w1, w2, w3, hr⟩
      · omega
      · have e1 := R.same hlt ha w1 w2
        exact IsRank.lt hlt R k y (by omega) (hlt x y ex) j (by omega)

/-! ### ranks, knot by knot -/
def arrR (pl : Nat → Nat) (k : Nat) : List Nat → List Nat → List Nat
  | [], rk => rk
  | b :: t, rk => arrR pl k t (if pl b ≠ k then rk.set k (max (rk.getD k 0) (rk.getD (pl b) 0 + 1)) else rk)
def ptsR (to : Nat → List Nat) (pl : Nat → Nat) (k : Nat) : List Nat → List Nat → List Nat
  | [], rk => rk
  | a :: t, rk => ptsR to pl k t (arrR pl k (to a) rk)
def allR (to : Nat → List Nat) (pl : Nat → Nat) : Nat → List (List Nat) → List Nat → List Nat
  | _, [], rk => rk
  | k, A :: t, rk => allR to pl (k + 1) t (ptsR to pl k A rk)

theorem arrR_len (pl : Nat → Nat) (k : Nat) : ∀ (bs rk : List Nat), (arrR pl k bs rk).length = rk.length
  | [], _ => rfl
  | b :: t, rk => by unfold arrR; rw [arrR_len pl k t]; split <;> simp
theorem ptsR_len (to : Nat → List Nat) (pl : Nat → Nat) (k : Nat) : ∀ (as rk : List Nat), (ptsR to pl k as rk).length = rk.length
  | [], _ => rfl
  | a :: t, rk => by unfold ptsR; rw [ptsR_len to pl k t, arrR_len]
theorem allR_len (to : Nat → List Nat) (pl : Nat → Nat) : ∀ (A : List (List Nat)) (k : Nat) (rk : List Nat), (allR to pl k A rk).length = rk.length
  | [], _, _ => rfl
  | A :: t, k, rk => by unfold allR; rw [allR_len to pl t, ptsR_len]

/-- One knot's rank while its arrows are gone through: D says which have been. -/
structure RkMid (pl : Nat → Nat) (k : Nat) (D : Nat → Prop) (rk0 rk : List Nat) : Prop where
  len : rk.length = rk0.length
  other : ∀ j, j ≠ k → rk.getD j 0 = rk0.getD j 0
  up : ∀ b, D b → pl b ≠ k → rk0.getD (pl b) 0 + 1 ≤ rk.getD k 0
  got : rk.getD k 0 = 0 ∨ ∃ b, D b ∧ pl b ≠ k ∧ rk.getD k 0 = rk0.getD (pl b) 0 + 1
theorem getD_set {l : List Nat} {k j x : Nat} (h : k < l.length) : (l.set k x).getD j 0 = if j = k then x else l.getD j 0 := by
  rw [List.getD_eq_getElem?_getD, List.getElem?_set, List.getD_eq_getElem?_getD]
  by_cases e : j = k
  · subst e; simp [h]
  · have : ¬ k = j := fun h => e h.symm
    simp [e, this]
theorem RkMid.mono {pl : Nat → Nat} {k : Nat} {D D' : Nat → Prop} {rk0 rk : List Nat} (M : RkMid pl k D rk0 rk) (h : ∀ b, D b ↔ D' b) : RkMid pl k D' rk0 rk :=
  ⟨M.len, M.other, fun b hb => M.up b ((h b).2 hb), M.got.imp id (fun ⟨b, h1, h2⟩ => ⟨b, (h b).1 h1, h2⟩)⟩
theorem arr_mid {pl : Nat → Nat} {k : Nat} {rk0 : List Nat} (hk : k < rk0.length) : ∀ (bs rk : List Nat) (D : Nat → Prop), RkMid pl k D rk0 rk → RkMid pl k (fun b => D b ∨ b ∈ bs) rk0 (arrR pl k bs rk)
  | [], rk, D, M => M.mono (fun b => by simp)
  | b :: t, rk, D, M => by
    unfold arrR
    have key : RkMid pl k (fun c => D c ∨ c = b) rk0 (if pl b ≠ k then rk.set k (max (rk.getD k 0) (rk.getD (pl b) 0 + 1)) else rk) := by
      by_cases e : pl b = k
      · rw [if_neg (by simp [e])]
        refine ⟨M.len, M.other, fun c hc hne => ?_, M.got.imp id (fun ⟨c, h1, h2⟩ => ⟨c, Or.inl h1, h2⟩)⟩
        rcases hc with hc | rfl
        · exact M.up c hc hne
        · exact absurd e hne
      · rw [if_pos e]
        have hk' : k < rk.length := by rw [M.len]; exact hk
        have hb := M.other (pl b) e
        refine ⟨by simp [M.len], fun j hj => by rw [getD_set hk', if_neg hj]; exact M.other j hj, fun c hc hne => ?_, ?_⟩
        · rw [getD_set hk', if_pos rfl]
          rcases hc with hc | rfl
          · have := M.up c hc hne; omega
          · omega
        · rw [getD_set hk', if_pos rfl]
          by_cases hle : rk.getD (pl b) 0 + 1 ≤ rk.getD k 0
          · rw [Nat.max_eq_left hle]
            exact M.got.imp id (fun ⟨c, h1, h2⟩ => ⟨c, Or.inl h1, h2⟩)
          · rw [Nat.max_eq_right (by omega)]
            exact Or.inr ⟨b, Or.inr rfl, e, by rw [hb]⟩
    exact (arr_mid hk t _ _ key).mono (fun c => by simp [or_assoc])
theorem pts_mid {to : Nat → List Nat} {pl : Nat → Nat} {k : Nat} {rk0 : List Nat} (hk : k < rk0.length) : ∀ (as rk : List Nat) (D : Nat → Prop), RkMid pl k D rk0 rk → RkMid pl k (fun b => D b ∨ ∃ a ∈ as, b ∈ to a) rk0 (ptsR to pl k as rk)
  | [], rk, D, M => M.mono (fun b => by simp)
  | a :: t, rk, D, M => by
    unfold ptsR
    exact (pts_mid hk t _ _ (arr_mid hk (to a) rk D M)).mono (fun c => by simp [or_assoc])
/-- What holds of the knots that are done. -/
def RkOk (to : Nat → List Nat) (pl : Nat → Nat) (all : List (List Nat)) (k : Nat) (rk : List Nat) : Prop :=
  (∀ j A, all[j]? = some A → j < k → (∀ a ∈ A, ∀ b ∈ to a, pl b ≠ j → rk.getD (pl b) 0 + 1 ≤ rk.getD j 0) ∧ (rk.getD j 0 = 0 ∨ ∃ a ∈ A, ∃ b ∈ to a, pl b ≠ j ∧ rk.getD j 0 = rk.getD (pl b) 0 + 1)) ∧
  (∀ j, k ≤ j → rk.getD j 0 = 0)
theorem all_ok {to : Nat → List Nat} {pl : Nat → Nat} {all : List (List Nat)} (hdown : ∀ j A, all[j]? = some A → ∀ a ∈ A, ∀ b ∈ to a, pl b ≤ j) :
    ∀ (t : List (List Nat)) (k : Nat) (rk : List Nat), all.drop k = t → rk.length = all.length → RkOk to pl all k rk → RkOk to pl all (k + t.length) (allR to pl k t rk)
  | [], k, rk, _, _, h => by simpa [allR] using h
  | A :: t, k, rk, hd, hl, h => by
    have hA : all[k]? = some A := by
      have := congrArg (·[0]?) hd
      simpa using this
    have hk : k < all.length := (List.getElem?_eq_some_iff.1 hA).1
    have ht : all.drop (k + 1) = t := by
      rw [← List.drop_drop, hd]; rfl
    have M := pts_mid (to := to) (pl := pl) (k := k) (rk0 := rk) (by omega) A rk (fun _ => False) ⟨rfl, fun _ _ => rfl, fun b hb => hb.elim, Or.inl (h.2 k (Nat.le_refl k))⟩
    unfold allR
    have e : k + (A :: t).length = (k + 1) + t.length := by simp; omega
    rw [e]
    refine all_ok hdown t (k + 1) _ ht (by rw [M.len]; exact hl) ⟨fun j B hB hj => ?_, fun j hj => by rw [M.other j (by omega)]; exact h.2 j (by omega)⟩
    by_cases ej : j = k
    · subst ej
      rw [hA] at hB
      cases hB
      refine ⟨fun a ha b hb hne => ?_, ?_⟩
      · rw [M.other _ hne]
        exact M.up b (Or.inr ⟨a, ha, hb⟩) hne
      · rcases M.got with h0 | ⟨b, hb, hne, hr⟩
        · exact Or.inl h0
        · rcases hb with hb | ⟨a, ha, hb⟩
          · exact hb.elim
          · exact Or.inr ⟨a, ha, b, hb, hne, by rw [M.other _ hne]; exact hr⟩
    · have hj' : j < k := by omega
      obtain ⟨h1, h2⟩ := h.1 j B hB hj'
      have oj := M.other j ej
      have ob : ∀ a ∈ B, ∀ b ∈ to a, (ptsR to pl k A rk).getD (pl b) 0 = rk.getD (pl b) 0 := fun a ha b hb => M.other _ (by have := hdown j B hB a ha b hb; omega)
      refine ⟨fun a ha b hb hne => by rw [ob a ha b hb, oj]; exact h1 a ha b hb hne, ?_⟩
      rw [oj]
      exact h2.imp id (fun ⟨a, ha, b, hb, hne, hr⟩ => ⟨a, ha, b, hb, hne, by rw [ob a ha b hb]; exact hr⟩)

def ranksP (to : Nat → List Nat) (all : List (List Nat)) : List Nat := allR to (placeOf all) 0 all (List.replicate all.length 0)
theorem ranks_is {to : Nat → List Nat} (hE : ∀ a b, E a b ↔ b ∈ to a) (K : Knots E n all) : IsRank E n (fun a => (ranksP to all).getD (placeOf all a) 0) := by
  have hin : ∀ j A, all[j]? = some A → ∀ a ∈ A, a < n ∧ placeOf all a = j := fun j A hA a ha =>
    ⟨(K.mem a).1 (List.mem_flatten.2 ⟨A, getD_mem hA, ha⟩), place_is K.nd hA ha⟩
  have hdown : ∀ j A, all[j]? = some A → ∀ a ∈ A, ∀ b ∈ to a, placeOf all b ≤ j := fun j A hA a ha b hb => by
    obtain ⟨h1, h2⟩ := hin j A hA a ha
    have := (K.arrow h1 ((hE a b).2 hb)).2
    omega
  have ok := all_ok hdown all 0 (List.replicate all.length 0) (by simp) (by simp) ⟨fun j A _ h => absurd h (by omega), fun j _ => by
    rw [List.getD_eq_getElem?_getD, List.getElem?_replicate]; split <;> rfl⟩
  have ok' : RkOk to (placeOf all) all all.length (ranksP to all) := by simpa [ranksP] using ok
  refine ⟨fun x y hx e w => ?_, fun x y hx e w => ?_, fun a ha => ?_⟩
  · show (ranksP to all).getD _ 0 = (ranksP to all).getD _ 0
    rw [(K.same hx (K.arrow hx e).1).2 ⟨Way.one e, w⟩]
  · obtain ⟨A, hA, hxA⟩ := K.at hx
    have hne : placeOf all y ≠ placeOf all x := fun h => w ((K.same (K.arrow hx e).1 hx).1 h).1
    have := (ok'.1 _ A hA (K.lt hx)).1 x hxA y ((hE x y).1 e) hne
    show (ranksP to all).getD _ 0 < (ranksP to all).getD _ 0
    omega
  · obtain ⟨A, hA, haA⟩ := K.at ha
    rcases (ok'.1 _ A hA (K.lt ha)).2 with h | ⟨x, hxA, y, hy, hne, hr⟩
    · exact Or.inl h
    · obtain ⟨hx, px⟩ := hin _ A hA x hxA
      have e := (hE x y).2 hy
      have w := (K.same ha hx).1 px.symm
      refine Or.inr ⟨x, y, hx, e, w.1, w.2, fun h => hne ?_, ?_⟩
      · rw [← px]
        exact ((K.same hx (K.arrow hx e).1).2 ⟨Way.one e, h⟩).symm
      · show (ranksP to all).getD _ 0 = (ranksP to all).getD _ 0 + 1
        rw [px]; exact hr

/-- A way back to a point by an arrow of its own: just if that arrow stays within the knot. -/
theorem Knots.tied (K : Knots E n all) {x y a : Nat} (hx : x < n) (e : E x y) (hxa : x = a) : placeOf all y = placeOf all a ↔ Way E y a := by
  subst hxa
  constructor
  · intro h
    exact ((K.same (K.arrow hx e).1 hx).1 h).1
  · intro h
    exact (K.same (K.arrow hx e).1 hx).2 ⟨h, Way.one e⟩
end
end Go.Proofs.Ytohoihicmmidmaa.Kn
