/-
  Plain law: knots of a graph, found by one walk with a stack of open points. No program in sight.
-/
set_option linter.unusedVariables false
set_option linter.unusedSimpArgs false
namespace Go.Proofs.Ytohoihicmmidmaa.Kn

/-- A way of arrows. -/
inductive Way (E : Nat → Nat → Prop) : Nat → Nat → Prop
  | refl (a : Nat) : Way E a a
  | snoc {a b c : Nat} : Way E a b → E b c → Way E a c
theorem Way.trans {E : Nat → Nat → Prop} {a b c : Nat} (h : Way E a b) (k : Way E b c) : Way E a c := by
  induction k with
  | refl => exact h
  | snoc _ e ih => exact ih.snoc e
theorem Way.one {E : Nat → Nat → Prop} {a b : Nat} (h : E a b) : Way E a b := (Way.refl a).snoc h

theorem few_of {n : Nat} : ∀ {l : List Nat}, l.Nodup → (∀ a ∈ l, a < n) → l.length ≤ n := by
  induction n with
  | zero => intro l _ h; cases l with
    | nil => simp
    | cons a l => exact absurd (h a (by simp)) (by omega)
  | succ n ih =>
    intro l hd h
    have := @ih (l.filter (· != n)) (hd.filter _) (fun a ha => by
      obtain ⟨h1, h2⟩ := List.mem_filter.1 ha
      have := h a h1; simp at h2; omega)
    have e : l.length ≤ (l.filter (· != n)).length + 1 := by
      clear ih this h
      induction l with
      | nil => simp
      | cons a l ih =>
        obtain ⟨h1, h2⟩ := List.nodup_cons.1 hd
        by_cases ha : a = n
        · subst ha
          have : (l.filter (· != a)) = l := List.filter_eq_self.2 (fun x hx => by
            simp; rintro rfl; exact h1 hx)
          simp [this]
        · have := ih h2
          simp [ha]; omega
    omega
theorem few_lt {n a : Nat} {l : List Nat} (hd : l.Nodup) (h : ∀ a ∈ l, a < n) (ha : a < n) (hn : a ∉ l) : l.length < n := by
  have := few_of (l := a :: l) (List.nodup_cons.2 ⟨hn, hd⟩) (fun x hx => by
    rcases List.mem_cons.1 hx with rfl | hx
    · exact ha
    · exact h x hx)
  simp at this; omega

theorem idxOf_pre {l m : List Nat} {a : Nat} (h : l <+: m) (ha : a ∈ l) : m.idxOf a = l.idxOf a := by
  obtain ⟨t, rfl⟩ := h
  rw [List.idxOf_append, if_pos ha]
theorem mem_of_idx {l m : List Nat} {a : Nat} (h : l <+: m) (hi : m.idxOf a < l.length) : a ∈ l := by
  obtain ⟨t, rfl⟩ := h
  by_cases ha : a ∈ l
  · exact ha
  · rw [List.idxOf_append] at hi; simp [ha] at hi; omega

structure KS where
  ks : List Nat
  op : List Nat
  all : List (List Nat)

def loopP (V : KS → Nat → KS × Nat) : List Nat → KS → Nat → KS × Nat
  | [], s, low => (s, low)
  | b :: r, s, low =>
    if b ∈ s.ks then (if b ∈ s.op then loopP V r s (min low (s.ks.idxOf b)) else loopP V r s low)
    else loopP V r (V s b).1 (min low (V s b).2)
def begP (s : KS) (a : Nat) : KS := ⟨s.ks ++ [a], s.op ++ [a], s.all⟩
def endP (s : KS) (a : Nat) : KS := ⟨s.ks, s.op.take (s.op.idxOf a), s.all ++ [s.op.drop (s.op.idxOf a)]⟩
def visitP (to : Nat → List Nat) (n : Nat) : Nat → KS → Nat → KS × Nat
  | 0, s, a => (s, n)
  | f + 1, s, a =>
    if (loopP (visitP to n f) (to a) (begP s a) s.ks.length).2 < s.ks.length then loopP (visitP to n f) (to a) (begP s a) s.ks.length
    else (endP (loopP (visitP to n f) (to a) (begP s a) s.ks.length).1 a, n)

structure Inv (E : Nat → Nat → Prop) (n : Nat) (s : KS) (g : List Nat) : Prop where
  nd : s.ks.Nodup
  lt : ∀ a ∈ s.ks, a < n
  sub : s.op.Sublist s.ks
  gop : ∀ a ∈ g, a ∈ s.op
  split : ∀ a, a ∈ s.ks ↔ a ∈ s.op ∨ a ∈ s.all.flatten
  apart : ∀ a ∈ s.op, a ∉ s.all.flatten
  fnd : s.all.flatten.Nodup
  black : ∀ a ∈ s.ks, a ∉ g → ∀ b, E a b → b ∈ s.ks
  shut : ∀ (k : Nat) (A : List Nat), s.all[k]? = some A → ∀ a ∈ A, ∀ b, E a b → ∃ (j : Nat) (B : List Nat), j ≤ k ∧ s.all[j]? = some B ∧ b ∈ B
  up : s.op.Pairwise (Way E)
  down : ∀ y ∈ s.op, ∃ x ∈ g, s.ks.idxOf x ≤ s.ks.idxOf y ∧ Way E y x
  knot : ∀ A ∈ s.all, A ≠ [] ∧ ∀ a ∈ A, ∀ b ∈ A, Way E a b

structure Post (E : Nat → Nat → Prop) (n : Nat) (s : KS) (g : List Nat) (a : Nat) (s' : KS) (r : Nat) : Prop where
  inv : Inv E n s' g
  ks : s.ks ++ [a] <+: s'.ks
  op : s.op <+: s'.op
  all : s.all <+: s'.all
  wit : r = n ∨ ∃ y ∈ s.op, s.ks.idxOf y = r ∧ Way E a y
  out : ∀ x ∈ s'.op, x ∉ s.op → ∀ y ∈ s.op, E x y → r ≤ s.ks.idxOf y

/-- What holds between the rounds of the loop over a point's arrows (done: those gone through). -/
structure Mid (E : Nat → Nat → Prop) (n : Nat) (s : KS) (g : List Nat) (a : Nat) (done : List Nat) (t : KS) (low : Nat) : Prop where
  inv : Inv E n t (a :: g)
  ks : s.ks ++ [a] <+: t.ks
  op : s.op ++ [a] <+: t.op
  all : s.all <+: t.all
  le : low ≤ s.ks.length
  wit : ∃ y ∈ t.op, t.ks.idxOf y = low ∧ Way E a y
  out : ∀ x ∈ t.op, x ∉ s.op → x ≠ a → ∀ y ∈ s.op, E x y → low ≤ s.ks.idxOf y
  outa : ∀ b ∈ done, b ∈ t.ks ∧ (b ∈ s.op → low ≤ s.ks.idxOf b)

theorem pre_snoc {l m : List Nat} {a : Nat} (h : l ++ [a] <+: m) : l <+: m := (List.prefix_append l [a]).trans h

theorem beg_mid {E : Nat → Nat → Prop} {n : Nat} {s : KS} {g : List Nat} {a : Nat} (I : Inv E n s g) (ha : a < n) (hn : a ∉ s.ks) (hg : ∀ x ∈ g, Way E x a) :
    Mid E n s g a [] (begP s a) s.ks.length := by
  have hno : a ∉ s.op := fun h => hn (I.sub.subset h)
  have hnf : a ∉ s.all.flatten := fun h => hn ((I.split a).2 (Or.inr h))
  have idx : ∀ x ∈ s.ks, (s.ks ++ [a]).idxOf x = s.ks.idxOf x := fun x hx => by rw [List.idxOf_append, if_pos hx]
  have idxa : (s.ks ++ [a]).idxOf a = s.ks.length := by rw [List.idxOf_append]; simp [hn]
  have ople : ∀ y ∈ s.op, Way E y a := fun y hy => by
    obtain ⟨x, hx, _, h⟩ := I.down y hy
    exact h.trans (hg x hx)
  refine ⟨⟨?_, ?_, ?_, ?_, ?_, ?_, I.fnd, ?_, I.shut, ?_, ?_, I.knot⟩, List.prefix_refl _, List.prefix_refl _, List.prefix_refl _, Nat.le_refl _, ⟨a, by simp [begP], idxa, Way.refl a⟩, ?_, by simp⟩
  · show (s.ks ++ [a]).Nodup
    rw [List.nodup_append]
    refine ⟨I.nd, by simp, fun x hx y hy e => ?_⟩
    rw [List.mem_singleton] at hy
    subst hy e
    exact hn hx
  · intro x hx
    rcases List.mem_append.1 hx with hx | hx
    · exact I.lt x hx
    · rw [List.mem_singleton] at hx; exact hx ▸ ha
  · exact I.sub.append (List.Sublist.refl _)
  · intro x hx
    rcases List.mem_cons.1 hx with rfl | hx
    · simp [begP]
    · simp [begP, I.gop x hx]
  · intro x
    have := I.split x
    simp only [begP, List.mem_append, List.mem_singleton, this]
    constructor
    · rintro ((h | h) | h)
      · exact Or.inl (Or.inl h)
      · exact Or.inr h
      · exact Or.inl (Or.inr h)
    · rintro ((h | h) | h)
      · exact Or.inl (Or.inl h)
      · exact Or.inr h
      · exact Or.inl (Or.inr h)
  · intro x hx
    rcases List.mem_append.1 hx with hx | hx
    · exact I.apart x hx
    · rw [List.mem_singleton] at hx; exact hx ▸ hnf
  · intro x hx hxg b hb
    rcases List.mem_append.1 hx with hx | hx
    · exact List.mem_append_left _ (I.black x hx (fun h => hxg (List.mem_cons_of_mem _ h)) b hb)
    · rw [List.mem_singleton] at hx; exact absurd (by simp [hx]) hxg
  · show (s.op ++ [a]).Pairwise (Way E)
    rw [List.pairwise_append]
    exact ⟨I.up, by simp, fun x hx y hy => by rw [List.mem_singleton] at hy; exact hy ▸ ople x hx⟩
  · intro y hy
    rcases List.mem_append.1 hy with hy | hy
    · obtain ⟨x, hx, h1, h2⟩ := I.down y hy
      refine ⟨x, List.mem_cons_of_mem _ hx, ?_, h2⟩
      show (s.ks ++ [a]).idxOf x ≤ (s.ks ++ [a]).idxOf y
      rw [idx x (I.sub.subset (I.gop x hx)), idx y (I.sub.subset hy)]; exact h1
    · rw [List.mem_singleton] at hy
      subst hy
      exact ⟨y, by simp, Nat.le_refl _, Way.refl y⟩
  · intro x hx h1 h2
    rcases List.mem_append.1 hx with hx | hx
    · exact absurd hx h1
    · exact absurd (List.mem_singleton.1 hx) h2

theorem Mid.notin {E : Nat → Nat → Prop} {n : Nat} {s : KS} {g : List Nat} {a : Nat} {done : List Nat} {t : KS} {low : Nat} (M : Mid E n s g a done t low) : ∀ y ∈ s.op, y ∈ t.op := fun y hy => (pre_snoc M.op).subset hy

/-- A point that the loop meets closed. -/
theorem Mid.closed {E : Nat → Nat → Prop} {n : Nat} {s : KS} {g : List Nat} {a : Nat} {done : List Nat} {t : KS} {low b : Nat} (M : Mid E n s g a done t low) (hk : b ∈ t.ks) (ho : b ∉ t.op) : Mid E n s g a (done ++ [b]) t low := by
  refine ⟨M.inv, M.ks, M.op, M.all, M.le, M.wit, M.out, fun x hx => ?_⟩
  rcases List.mem_append.1 hx with hx | hx
  · exact M.outa x hx
  · rw [List.mem_singleton] at hx; subst hx
    exact ⟨hk, fun h => absurd (M.notin x h) ho⟩
/-- .. open. -/
theorem Mid.opened {E : Nat → Nat → Prop} {n : Nat} {s : KS} {g : List Nat} {a : Nat} {done : List Nat} {t : KS} {low b : Nat} (I : Inv E n s g) (M : Mid E n s g a done t low) (hab : E a b) (hk : b ∈ t.ks) (ho : b ∈ t.op) : Mid E n s g a (done ++ [b]) t (min low (t.ks.idxOf b)) := by
  refine ⟨M.inv, M.ks, M.op, M.all, Nat.le_trans (Nat.min_le_left _ _) M.le, ?_, fun x h1 h2 h3 y h4 h5 => Nat.le_trans (Nat.min_le_left _ _) (M.out x h1 h2 h3 y h4 h5), fun x hx => ?_⟩
  · obtain ⟨y, h1, h2, h3⟩ := M.wit
    by_cases h : low ≤ t.ks.idxOf b
    · exact ⟨y, h1, by rw [h2]; omega, h3⟩
    · exact ⟨b, ho, by omega, Way.one hab⟩
  · rcases List.mem_append.1 hx with hx | hx
    · exact ⟨(M.outa x hx).1, fun h => Nat.le_trans (Nat.min_le_left _ _) ((M.outa x hx).2 h)⟩
    · rw [List.mem_singleton] at hx; subst hx
      refine ⟨hk, fun h => ?_⟩
      rw [idxOf_pre (pre_snoc M.ks) (I.sub.subset h)]
      exact Nat.min_le_right _ _
/-- .. new. -/
theorem Mid.new {E : Nat → Nat → Prop} {n : Nat} {s : KS} {g : List Nat} {a : Nat} {done : List Nat} {t : KS} {low b : Nat} (I : Inv E n s g) (hs : s.ks.length < n) (M : Mid E n s g a done t low) (hab : E a b) (hk : b ∉ t.ks) {t' : KS} {r : Nat} (P : Post E n t (a :: g) b t' r) : Mid E n s g a (done ++ [b]) t' (min low r) := by
  have pk := pre_snoc P.ks
  refine ⟨P.inv, M.ks.trans pk, M.op.trans P.op, M.all.trans P.all, Nat.le_trans (Nat.min_le_left _ _) M.le, ?_, ?_, fun x hx => ?_⟩
  · obtain ⟨y, h1, h2, h3⟩ := M.wit
    have hle := M.le
    have keep : ∃ y ∈ t'.op, t'.ks.idxOf y = low ∧ Way E a y := ⟨y, P.op.subset h1, by rw [idxOf_pre pk (M.inv.sub.subset h1)]; exact h2, h3⟩
    rcases P.wit with rfl | ⟨z, hz1, hz2, hz3⟩
    · rw [Nat.min_eq_left (by omega)]; exact keep
    · by_cases h : low ≤ r
      · rw [Nat.min_eq_left h]; exact keep
      · rw [Nat.min_eq_right (by omega)]
        exact ⟨z, P.op.subset hz1, by rw [idxOf_pre pk (M.inv.sub.subset hz1)]; exact hz2, (Way.one hab).trans hz3⟩
  · intro x h1 h2 h3 y h4 h5
    by_cases hx : x ∈ t.op
    · exact Nat.le_trans (Nat.min_le_left _ _) (M.out x hx h2 h3 y h4 h5)
    · have := P.out x h1 hx y (M.notin y h4) h5
      rw [idxOf_pre (pre_snoc M.ks) (I.sub.subset h4)] at this
      exact Nat.le_trans (Nat.min_le_right _ _) this
  · rcases List.mem_append.1 hx with hx | hx
    · exact ⟨pk.subset (M.outa x hx).1, fun h => Nat.le_trans (Nat.min_le_left _ _) ((M.outa x hx).2 h)⟩
    · rw [List.mem_singleton] at hx; subst hx
      exact ⟨P.ks.subset (by simp), fun h => absurd (M.inv.sub.subset (M.notin x h)) hk⟩
/-- What a new point that an arrow leads to asks. -/
theorem Mid.pre {E : Nat → Nat → Prop} {n : Nat} {s : KS} {g : List Nat} {a : Nat} {done : List Nat} {t : KS} {low b : Nat} (hg : ∀ x ∈ g, Way E x a) (hab : E a b) : ∀ x ∈ a :: g, Way E x b := by
  intro x hx
  rcases List.mem_cons.1 hx with rfl | hx
  · exact Way.one hab
  · exact (hg x hx).snoc hab

theorem Mid.idxa {E : Nat → Nat → Prop} {n : Nat} {s : KS} {g : List Nat} {a : Nat} {done : List Nat} {t : KS} {low : Nat} (hn : a ∉ s.ks) (M : Mid E n s g a done t low) : t.ks.idxOf a = s.ks.length := by
  rw [idxOf_pre M.ks (by simp), List.idxOf_append]; simp [hn]
theorem Mid.behind {E : Nat → Nat → Prop} {n : Nat} {s : KS} {g : List Nat} {a : Nat} {done : List Nat} {t : KS} {low : Nat} (I : Inv E n s g) (M : Mid E n s g a done t low) : ∀ y ∈ t.op, y ∈ s.ks → y ∈ s.op := by
  intro y hy hk
  rcases (I.split y).1 hk with h | h
  · exact h
  · refine absurd ?_ (M.inv.apart y hy)
    obtain ⟨u, hu⟩ := M.all
    rw [← hu, List.flatten_append]
    exact List.mem_append_left _ h

theorem Mid.later {E : Nat → Nat → Prop} {n : Nat} {s : KS} {g : List Nat} {a : Nat} {done : List Nat} {t : KS} {low : Nat} (I : Inv E n s g) (hn : a ∉ s.ks) (M : Mid E n s g a done t low) : ∀ y ∈ t.op, y ∉ s.op → s.ks.length ≤ t.ks.idxOf y := by
  intro y hy h
  refine Nat.le_of_not_lt (fun hlt => h (M.behind I y hy (mem_of_idx (pre_snoc M.ks) hlt)))

/-- An end that stays open. -/
theorem Mid.low_end {E : Nat → Nat → Prop} {n : Nat} {s : KS} {g : List Nat} {a : Nat} {t : KS} {low : Nat} {to : List Nat} (hto : ∀ b, E a b → b ∈ to) (I : Inv E n s g) (hn : a ∉ s.ks) (M : Mid E n s g a to t low) (hl : low < s.ks.length) : Post E n s g a t low := by
  obtain ⟨z, hz1, hz2, hz3⟩ := M.wit
  have hzk : z ∈ s.ks := mem_of_idx (pre_snoc M.ks) (by omega)
  have hzo := M.behind I z hz1 hzk
  have zi : t.ks.idxOf z = s.ks.idxOf z := idxOf_pre (pre_snoc M.ks) hzk
  have J := M.inv
  refine ⟨⟨J.nd, J.lt, J.sub, fun x hx => J.gop x (List.mem_cons_of_mem _ hx), J.split, J.apart, J.fnd, ?_, J.shut, J.up, ?_, J.knot⟩, M.ks, pre_snoc M.op, M.all, Or.inr ⟨z, hzo, by rw [← zi]; exact hz2, hz3⟩, ?_⟩
  · intro x hx hxg b hb
    by_cases hxa : x = a
    · subst hxa
      exact (M.outa b (hto b hb)).1
    · exact J.black x hx (by simp [hxa, hxg]) b hb
  · intro y hy
    obtain ⟨x, hx, h1, h2⟩ := J.down y hy
    rcases List.mem_cons.1 hx with rfl | hx
    · obtain ⟨x', hx', h3, h4⟩ := I.down z hzo
      refine ⟨x', hx', ?_, (h2.trans hz3).trans h4⟩
      rw [idxOf_pre (pre_snoc M.ks) (I.sub.subset (I.gop x' hx'))]
      have := M.idxa hn
      omega
    · exact ⟨x, hx, h1, h2⟩
  · intro x hx hxo y hy hxy
    by_cases hxa : x = a
    · subst hxa
      exact (M.outa y (hto y hxy)).2 hy
    · exact M.out x hx hxo hxa y hy hxy

/-- An end that shuts a knot. -/
theorem Mid.shut_end {E : Nat → Nat → Prop} {n : Nat} {s : KS} {g : List Nat} {a : Nat} {t : KS} {low : Nat} {to : List Nat} (hto : ∀ b, E a b → b ∈ to) (I : Inv E n s g) (hn : a ∉ s.ks) (hg : ∀ x ∈ g, Way E x a) (M : Mid E n s g a to t low) (hl : ¬ low < s.ks.length) : Post E n s g a (endP t a) n := by
  have J := M.inv
  have hno : a ∉ s.op := fun h => hn (I.sub.subset h)
  obtain ⟨u, hu⟩ := M.op
  have at_ : t.op.idxOf a = s.op.length := by
    rw [← hu, List.append_assoc, List.idxOf_append]; simp [hno]
  have etake : t.op.take (t.op.idxOf a) = s.op := by rw [at_, ← hu, List.append_assoc, List.take_left]
  have edrop : t.op.drop (t.op.idxOf a) = a :: u := by rw [at_, ← hu, List.append_assoc, List.drop_left]; rfl
  have eop : t.op = s.op ++ (a :: u) := by rw [← hu]; simp
  have hnd : t.op.Nodup := J.sub.nodup J.nd
  have hnot : ∀ x ∈ a :: u, x ∉ s.op := by
    intro x hx hxo
    rw [eop, List.nodup_append] at hnd
    exact hnd.2.2 x hxo x hx rfl
  have hin : ∀ x ∈ a :: u, x ∈ t.op := fun x hx => by rw [eop]; exact List.mem_append_right _ hx
  have tob : ∀ x ∈ t.ks, x ∉ g → ∀ b, E x b → b ∈ t.ks := by
    intro x hx hxg b hb
    by_cases hxa : x = a
    · subst hxa
      exact (M.outa b (hto b hb)).1
    · exact J.black x hx (by simp [hxa, hxg]) b hb
  have outx : ∀ x ∈ a :: u, ∀ y ∈ s.op, ¬ E x y := by
    intro x hx y hy hxy
    have h1 : low ≤ s.ks.idxOf y := by
      by_cases hxa : x = a
      · subst hxa
        exact (M.outa y (hto y hxy)).2 hy
      · exact M.out x (hin x hx) (hnot x hx) hxa y hy hxy
    have := List.idxOf_lt_length_of_mem (I.sub.subset hy)
    omega
  have toA : ∀ x ∈ a :: u, Way E x a := by
    intro x hx
    obtain ⟨x', hx', _, h⟩ := J.down x (hin x hx)
    rcases List.mem_cons.1 hx' with rfl | hx'
    · exact h
    · exact h.trans (hg x' hx')
  have fromA : ∀ x ∈ a :: u, Way E a x := by
    intro x hx
    rcases List.mem_cons.1 hx with rfl | hx
    · exact Way.refl x
    · have := J.up
      rw [eop, List.pairwise_append] at this
      exact (List.pairwise_cons.1 this.2.1).1 x hx
  have e : endP t a = ⟨t.ks, s.op, t.all ++ [a :: u]⟩ := by rw [endP, etake, edrop]
  rw [e]
  have flat : (t.all ++ [a :: u]).flatten = t.all.flatten ++ (a :: u) := by simp
  refine ⟨⟨J.nd, J.lt, ?_, I.gop, ?_, ?_, ?_, ?_, ?_, I.up, ?_, ?_⟩, M.ks, List.prefix_refl _, M.all.trans (List.prefix_append _ _), Or.inl rfl, ?_⟩
  · exact I.sub.trans ((pre_snoc M.ks).sublist)
  · intro x
    show x ∈ t.ks ↔ x ∈ s.op ∨ x ∈ (t.all ++ [a :: u]).flatten
    rw [J.split x, flat, eop, List.mem_append, List.mem_append]
    constructor
    · rintro ((h | h) | h)
      · exact Or.inl h
      · exact Or.inr (Or.inr h)
      · exact Or.inr (Or.inl h)
    · rintro (h | h | h)
      · exact Or.inl (Or.inl h)
      · exact Or.inr h
      · exact Or.inl (Or.inr h)
  · intro x hx
    show x ∉ (t.all ++ [a :: u]).flatten
    rw [flat, List.mem_append]
    rintro (h | h)
    · exact J.apart x (M.notin x hx) h
    · exact hnot x h hx
  · show (t.all ++ [a :: u]).flatten.Nodup
    rw [flat, List.nodup_append]
    refine ⟨J.fnd, ?_, fun x hx y hy e => ?_⟩
    · rw [eop, List.nodup_append] at hnd; exact hnd.2.1
    · subst e
      exact J.apart x (hin x hy) hx
  · exact tob
  · intro k A hA x hx b hb
    have hk : k ≤ t.all.length := by
      have := (List.getElem?_eq_some_iff.1 hA).1
      simp at this; omega
    by_cases hlt : k < t.all.length
    · rw [List.getElem?_append_left hlt] at hA
      obtain ⟨j, B, h1, h2, h3⟩ := J.shut k A hA x hx b hb
      exact ⟨j, B, h1, by show (t.all ++ [a :: u])[j]? = some B; rw [List.getElem?_append_left (by omega)]; exact h2, h3⟩
    · have : k = t.all.length := by omega
      subst this
      have hA' : A = a :: u := by simpa using hA.symm
      subst hA'
      have hxg : x ∉ g := fun h => hnot x hx (I.gop x h)
      have hbk := tob x (J.sub.subset (hin x hx)) hxg b hb
      rcases (J.split b).1 hbk with h | h
      · rw [eop] at h
        rcases List.mem_append.1 h with h | h
        · exact absurd hb (outx x hx b h)
        · exact ⟨t.all.length, a :: u, Nat.le_refl _, by simp, h⟩
      · obtain ⟨B, hB, hbB⟩ := List.mem_flatten.1 h
        obtain ⟨j, hj, ej⟩ := List.getElem_of_mem hB
        exact ⟨j, B, by omega, by show (t.all ++ [a :: u])[j]? = some B; rw [List.getElem?_append_left hj, List.getElem?_eq_getElem hj, ej], hbB⟩
  · intro y hy
    obtain ⟨x, hx, h1, h2⟩ := I.down y hy
    refine ⟨x, hx, ?_, h2⟩
    show t.ks.idxOf x ≤ t.ks.idxOf y
    rw [idxOf_pre (pre_snoc M.ks) (I.sub.subset (I.gop x hx)), idxOf_pre (pre_snoc M.ks) (I.sub.subset hy)]
    exact h1
  · intro A hA
    rcases List.mem_append.1 hA with h | h
    · exact J.knot A h
    · rw [List.mem_singleton] at h; subst h
      exact ⟨by simp, fun x hx y hy => (toA x hx).trans (fromA y hy)⟩
  · intro x hx hxo
    exact absurd hx hxo

/-- The loop, whatever the visits are. -/
theorem loop_mid {E : Nat → Nat → Prop} {n : Nat} {s : KS} {g : List Nat} {a : Nat} (I : Inv E n s g) (hs : s.ks.length < n) (hg : ∀ x ∈ g, Way E x a) (V : KS → Nat → KS × Nat) (hlt : ∀ b, E a b → b < n)
    (hV : ∀ t b, Inv E n t (a :: g) → s.ks.length < t.ks.length → b < n → b ∉ t.ks → (∀ x ∈ a :: g, Way E x b) → Post E n t (a :: g) b (V t b).1 (V t b).2) :
    ∀ (rest done : List Nat) (t : KS) (low : Nat), (∀ b ∈ rest, E a b) → Mid E n s g a done t low → Mid E n s g a (done ++ rest) (loopP V rest t low).1 (loopP V rest t low).2
  | [], done, t, low, _, M => by simpa [loopP] using M
  | b :: r, done, t, low, hr, M => by
    have hab := hr b (by simp)
    have hr' : ∀ b ∈ r, E a b := fun x hx => hr x (by simp [hx])
    have e : done ++ b :: r = (done ++ [b]) ++ r := by simp
    rw [e]
    unfold loopP
    by_cases hk : b ∈ t.ks
    · rw [if_pos hk]
      by_cases ho : b ∈ t.op
      · rw [if_pos ho]
        exact loop_mid I hs hg V hlt hV r _ _ _ hr' (M.opened I hab hk ho)
      · rw [if_neg ho]
        exact loop_mid I hs hg V hlt hV r _ _ _ hr' (M.closed hk ho)
    · rw [if_neg hk]
      have hl : s.ks.length < t.ks.length := by
        have := M.ks.length_le; simp at this; omega
      exact loop_mid I hs hg V hlt hV r _ _ _ hr' (M.new I hs hab hk (hV t b M.inv hl (hlt b hab) hk (Mid.pre (n := n) (s := s) (done := done) (t := t) (low := low) hg hab)))

theorem visit_post {E : Nat → Nat → Prop} {n : Nat} {to : Nat → List Nat} (hE : ∀ a b, E a b ↔ b ∈ to a) (hlt : ∀ a b, E a b → b < n) :
    ∀ (f : Nat) (s : KS) (g : List Nat) (a : Nat), n ≤ s.ks.length + f → Inv E n s g → a < n → a ∉ s.ks → (∀ x ∈ g, Way E x a) → Post E n s g a (visitP to n f s a).1 (visitP to n f s a).2
  | 0, s, g, a, hf, I, ha, hn, _ => by
    have := few_lt I.nd I.lt ha hn
    omega
  | f + 1, s, g, a, hf, I, ha, hn, hg => by
    have hs := few_lt I.nd I.lt ha hn
    have M := loop_mid I hs hg (visitP to n f) (fun b hb => hlt a b hb) (fun t b It hl hb hk hw => visit_post hE hlt f t (a :: g) b (by omega) It hb hk hw) (to a) [] (begP s a) s.ks.length (fun b hb => (hE a b).2 hb) (beg_mid I ha hn hg)
    simp only [List.nil_append] at M
    have hto : ∀ b, E a b → b ∈ to a := fun b hb => (hE a b).1 hb
    unfold visitP
    split
    · rename_i hl
      exact M.low_end hto I hn hl
    · rename_i hl
      exact M.shut_end hto I hn hg hl

/-- All points, one behind the other. -/
def knotsP (to : Nat → List Nat) (n : Nat) : Nat → KS
  | 0 => ⟨[], [], []⟩
  | k + 1 => if k ∈ (knotsP to n k).ks then knotsP to n k else (visitP to n n (knotsP to n k) k).1

theorem knots_inv {E : Nat → Nat → Prop} {n : Nat} {to : Nat → List Nat} (hE : ∀ a b, E a b ↔ b ∈ to a) (hlt : ∀ a b, E a b → b < n) : ∀ k, k ≤ n → Inv E n (knotsP to n k) [] ∧ ∀ a < k, a ∈ (knotsP to n k).ks
  | 0, _ => ⟨⟨by simp [knotsP], by simp [knotsP], by simp [knotsP], by simp, by simp [knotsP], by simp [knotsP], by simp [knotsP], by simp [knotsP], by simp [knotsP], by simp [knotsP], by simp [knotsP], by simp [knotsP]⟩, by intro a h; omega⟩
  | k + 1, hk => by
    obtain ⟨I, hin⟩ := knots_inv hE hlt k (by omega)
    unfold knotsP
    by_cases h : k ∈ (knotsP to n k).ks
    · rw [if_pos h]
      refine ⟨I, fun a ha => ?_⟩
      by_cases e : a = k
      · exact e ▸ h
      · exact hin a (by omega)
    · rw [if_neg h]
      have P := visit_post hE hlt n _ [] k (by omega) I (by omega) h (by simp)
      refine ⟨P.inv, fun a ha => ?_⟩
      by_cases e : a = k
      · exact P.ks.subset (by simp [e])
      · exact (pre_snoc P.ks).subset (hin a (by omega))

/-- Knots: each point lies in one; all of one come to each other; arrows lead to no later one. -/
structure Knots (E : Nat → Nat → Prop) (n : Nat) (all : List (List Nat)) : Prop where
  nd : all.flatten.Nodup
  mem : ∀ a, a ∈ all.flatten ↔ a < n
  knot : ∀ A ∈ all, A ≠ [] ∧ ∀ a ∈ A, ∀ b ∈ A, Way E a b
  shut : ∀ (k : Nat) (A : List Nat), all[k]? = some A → ∀ a ∈ A, ∀ b, E a b → ∃ (j : Nat) (B : List Nat), j ≤ k ∧ all[j]? = some B ∧ b ∈ B

theorem knots_all {E : Nat → Nat → Prop} {n : Nat} {to : Nat → List Nat} (hE : ∀ a b, E a b ↔ b ∈ to a) (hlt : ∀ a b, E a b → b < n) : Knots E n (knotsP to n n).all := by
  obtain ⟨I, hin⟩ := knots_inv hE hlt n (Nat.le_refl n)
  refine ⟨I.fnd, fun a => ⟨fun h => I.lt a ((I.split a).2 (Or.inr h)), fun h => ?_⟩, I.knot, I.shut⟩
  rcases (I.split a).1 (hin a h) with h | h
  · obtain ⟨x, hx, _⟩ := I.down a h
    cases hx
  · exact h

end Go.Proofs.Ytohoihicmmidmaa.Kn
