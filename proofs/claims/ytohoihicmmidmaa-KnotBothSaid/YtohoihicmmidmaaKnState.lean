/-
  The program's walk through a graph: what lies where.
-/
import Derived.Test.YtohoihicmmidmaaKnMap
namespace Go.Proofs.Ytohoihicmmidmaa
set_option linter.unusedVariables false
set_option linter.unusedSimpArgs false
open Go.ChangeShapes Go.WideShapes Go.ChangeAt Go.RowKit Kn

/-- The blocks: the variables that the walk holds (known, open, to, visit, all, place, n), and where they lead. -/
structure Ads where
  gn : Nat
  ga : Nat
  gp : Nat
  T : Nat
  gt : Nat
  P : Nat
  M : Nat
  gk : Nat
  go : Nat
  gv : Nat
  H : Nat
def Ads.caps (d : Ads) : Array Value := #[.pointer (some ⟨d.gk, 0, none⟩), .pointer (some ⟨d.go, 0, none⟩), .pointer (some ⟨d.gt, 0, none⟩), .pointer (some ⟨d.gv, 0, none⟩), .pointer (some ⟨d.ga, 0, none⟩), .pointer (some ⟨d.gp, 0, none⟩), .pointer (some ⟨d.gn, 0, none⟩)]
structure Ads.Ord (d : Ads) : Prop where
  o1 : d.gn < d.ga
  o2 : d.ga < d.gp
  o3 : d.gp < d.T
  o4 : d.T < d.gt
  o5 : d.gt < d.P
  o6 : d.P < d.M
  o7 : d.M < d.gk
  o8 : d.gk < d.go
  o9 : d.go < d.gv
  o10 : d.gv < d.H
/-- What stays. -/
structure KFix (w : World) (d : Ads) (n : Nat) (l : List (Int × Int)) (vs : List Value) : Prop where
  fk : Blk w d.gk 55 #[.map (some d.M)]
  ft : Blk w d.gt 43 #[.slice (some ⟨d.T, 0, none⟩) n n]
  fv : Blk w d.gv 56 #[.func (.func 31) #[] d.caps]
  fp : Blk w d.gp 25 #[.slice (some ⟨d.P, 0, none⟩) n n]
  fn : Blk w d.gn 3 #[.int .i64 (n : Int)]
  tos : Tos w d.T d.T n vs (toL l)
  rows : ∀ a, a < n → ∀ k, (vs.getD a undef).ownBlock = some k → k < d.gt
/-- What turns. -/
structure KC (w0 w : World) (d : Ads) (n : Nat) (l : List (Int × Int)) (vs : List Value) (cnt : Nat) (f : Int → Option (Int × Int)) (pl : List Nat) (vo : Value) (op : List Nat) (va : Value) (rows : List Value) (all : List (List Nat)) : Prop where
  ord : d.Ord
  os : w.os = w0.os
  tape : w.tape = w0.tape
  output : w.output = w0.output
  size : d.H ≤ w.heap.size
  low : ∀ k, k < d.gn → w.heap[k]? = w0.heap[k]?
  fix : KFix w d n l vs
  map : KMap w d.M cnt f
  place : IBlk w d.P (nI pl)
  cellO : Blk w d.go 25 #[vo]
  opn : OwnInts w d.H vo (nI op)
  cellA : Blk w d.ga 43 #[va]
  arow : w.ownsRow d.H 25 1 va all.length rows
  inner : ∀ i, i < all.length → OwnInts w d.H (rows.getD i undef) (nI (all.getD i []))
  apart : ∀ i, i < all.length → ∀ k, (rows.getD i undef).ownBlock = some k → vo.ownBlock ≠ some k
/-- A world turned at certain blocks alone. -/
structure Turn (w w' : World) (C : Nat → Prop) : Prop where
  os : w'.os = w.os
  tape : w'.tape = w.tape
  output : w'.output = w.output
  size : w.heap.size ≤ w'.heap.size
  block : ∀ k, k < w.heap.size → ¬ C k → w'.heap[k]? = w.heap[k]?
theorem Turn.below {w w' : World} (h : Below w.heap.size w w') : Turn w w' (fun _ => False) := ⟨h.os, h.tape, h.output, h.size, fun k hk _ => h.block k hk⟩
theorem Turn.grown {w w' : World} {row : Option Nat} (h : w.grownBy w' row) : Turn w w' (fun k => row = some k) := ⟨h.os, h.tape, h.output, h.size, fun k hk hn => h.block k hk (fun e => hn e.symm)⟩
theorem Turn.set (w : World) (p : Addr) (u : Value) : Turn w (w.setCell p u) (fun k => k = p.block) := ⟨rfl, rfl, rfl, by simp [World.setCell], fun k hk hn => Below.heap_setCell w p u k hn⟩
theorem Turn.trans {w w' w'' : World} {C D : Nat → Prop} (h : Turn w w' C) (k : Turn w' w'' D) : Turn w w'' (fun j => C j ∨ D j) :=
  ⟨k.os.trans h.os, k.tape.trans h.tape, k.output.trans h.output, Nat.le_trans h.size k.size, fun j hj hn => (k.block j (Nat.lt_of_lt_of_le hj h.size) (fun e => hn (.inr e))).trans (h.block j hj (fun e => hn (.inl e)))⟩
section
variable {w w' : World} {C : Nat → Prop}
theorem Turn.blk (h : Turn w w' C) {g : Nat} {t : TypeId} {cs : Array Value} (hb : Blk w g t cs) (hn : ¬ C g) : Blk w' g t cs := (h.block g hb.lt hn).trans hb
theorem Turn.iblk (h : Turn w w' C) {g : Nat} {ys : List Int} (hb : IBlk w g ys) (hn : ¬ C g) : IBlk w' g ys := h.blk hb hn
theorem Turn.own (h : Turn w w' C) {lo : Nat} {v : Value} {xs : List Int} (ho : OwnInts w lo v xs) (hn : ∀ k, v.ownBlock = some k → ¬ C k) : OwnInts w' lo v xs := by
  unfold OwnInts at ho ⊢
  refine ⟨ho.1, ?_⟩
  rcases ho.2 with h1 | ⟨g, cap, cur, h1, h2, h3, h4⟩
  · exact .inl h1
  · exact .inr ⟨g, cap, cur, h1, h2, (h.block g (Array.getElem?_eq_some_iff.1 h3).1 (hn g (by rw [h1]; rfl))).trans h3, h4⟩
theorem Turn.row (h : Turn w w' C) {lo : Nat} {e : TypeId} {size n : Nat} {v : Value} {xs : List Value} (ho : w.ownsRow lo e size v n xs) (hn : ∀ k, v.ownBlock = some k → ¬ C k) : w'.ownsRow lo e size v n xs := by
  refine ⟨ho.1, ?_⟩
  rcases ho.2 with h1 | ⟨g, cap, cur, h1, h2, h3, h4⟩
  · exact .inl h1
  · exact .inr ⟨g, cap, cur, h1, h2, (h.block g (Array.getElem?_eq_some_iff.1 h3).1 (hn g (by rw [h1]; rfl))).trans h3, h4⟩
theorem Turn.kmap (h : Turn w w' C) {B n : Nat} {f : Int → Option (Int × Int)} (hm : KMap w B n f) (hn : ¬ C B) : KMap w' B n f := hm.kept (h.block B hm.lt hn)
theorem Turn.tos (h : Turn w w' C) {lo gt n : Nat} {vs : List Value} {f : Nat → List Nat} (ht : Tos w lo gt n vs f) (hg : ¬ C gt) (hn : ∀ a, a < n → ∀ k, (vs.getD a undef).ownBlock = some k → ¬ C k) : Tos w' lo gt n vs f :=
  ⟨ht.len, h.blk ht.blk hg, fun a ha => h.own (ht.own a ha) (hn a ha), ht.apart⟩
theorem Turn.fix (h : Turn w w' C) {d : Ads} {n : Nat} {l : List (Int × Int)} {vs : List Value} (o : d.Ord) (hf : KFix w d n l vs) (hC : ∀ k, C k → k = d.P ∨ k = d.M ∨ k = d.go ∨ k = d.ga ∨ d.H ≤ k) : KFix w' d n l vs := by
  obtain ⟨p1, p2, p3, p4, p5, p6, p7, p8, p9, p10⟩ := o
  have hT : ∀ a, a < n → ∀ k, (vs.getD a undef).ownBlock = some k → ¬ C k := fun a ha k hk hc => by
    have h1 := hf.rows a ha k hk
    have h2 := ((hf.tos.own a ha).blockLt k hk).1
    rcases hC k hc with e | e | e | e | e <;> omega
  refine ⟨h.blk hf.fk ?_, h.blk hf.ft ?_, h.blk hf.fv ?_, h.blk hf.fp ?_, h.blk hf.fn ?_, h.tos hf.tos ?_ hT, hf.rows⟩
  all_goals (intro hc; rcases hC _ hc with e | e | e | e | e <;> omega)
end
section
variable {w0 w w' : World} {d : Ads} {n cnt : Nat} {l : List (Int × Int)} {vs : List Value} {f : Int → Option (Int × Int)} {pl : List Nat} {vo : Value} {op : List Nat} {va : Value} {rows : List Value} {all : List (List Nat)}
theorem KC.openNe (h : KC w0 w d n l vs cnt f pl vo op va rows all) {g : Nat} {t : TypeId} {cs : Array Value} (hg : Blk w g t cs) (ht : 3 ≠ t) : vo.ownBlock ≠ some g := h.opn.ne hg ht
theorem KC.below (h : KC w0 w d n l vs cnt f pl vo op va rows all) (hb : Below w.heap.size w w') : KC w0 w' d n l vs cnt f pl vo op va rows all := by
  have t := Turn.below hb
  exact ⟨h.ord, t.os.trans h.os, t.tape.trans h.tape, t.output.trans h.output, Nat.le_trans h.size t.size, fun k hk => (t.block k (by obtain ⟨p1, p2, p3, p4, p5, p6, p7, p8, p9, p10⟩ := h.ord; have := h.size; omega) id).trans (h.low k hk),
    t.fix h.ord h.fix (fun _ e => e.elim), t.kmap h.map id, t.iblk h.place id, t.blk h.cellO id, t.own h.opn (fun _ _ => id), t.blk h.cellA id, t.row h.arow (fun _ _ => id), fun i hi => t.own (h.inner i hi) (fun _ _ => id), h.apart⟩
/-- The map turned. -/
theorem KC.setMap (h : KC w0 w d n l vs cnt f pl vo op va rows all) (hg : w.grownBy w' (some d.M)) {cnt' : Nat} {f' : Int → Option (Int × Int)} (hm : KMap w' d.M cnt' f') : KC w0 w' d n l vs cnt' f' pl vo op va rows all := by
  obtain ⟨p1, p2, p3, p4, p5, p6, p7, p8, p9, p10⟩ := h.ord
  have t := Turn.grown hg
  have hs := h.size
  have big : ∀ k, d.H ≤ k → ¬ (some d.M = some k) := fun k hk e => by have := Option.some.inj e; omega
  have ne : ∀ {k}, k ≠ d.M → ¬ (some d.M = some k) := fun hk e => hk (Option.some.inj e).symm
  exact ⟨h.ord, t.os.trans h.os, t.tape.trans h.tape, t.output.trans h.output, Nat.le_trans h.size t.size, fun k hk => (t.block k (by omega) (ne (by omega))).trans (h.low k hk),
    t.fix h.ord h.fix (fun k e => .inr (.inl (Option.some.inj e).symm)), hm, t.iblk h.place (ne (by omega)), t.blk h.cellO (ne (by omega)), t.own h.opn (fun k hk => big k (h.opn.blockLt k hk).1), t.blk h.cellA (ne (by omega)),
    t.row h.arow (fun k hk => big k (own_base h.arow k hk)), fun i hi => t.own (h.inner i hi) (fun k hk => big k ((h.inner i hi).blockLt k hk).1), h.apart⟩
/-- A place set. -/
theorem KC.setPlace (h : KC w0 w d n l vs cnt f pl vo op va rows all) (b z : Nat) : KC w0 (w.setCell ⟨d.P, b, none⟩ (.int .i64 (z : Int))) d n l vs cnt f (pl.set b z) vo op va rows all := by
  obtain ⟨p1, p2, p3, p4, p5, p6, p7, p8, p9, p10⟩ := h.ord
  have t := Turn.set w ⟨d.P, b, none⟩ (.int .i64 (z : Int))
  have hs := h.size
  have hP := h.place.put b (z : Int)
  rw [nI_set] at hP
  have big : ∀ k, d.H ≤ k → ¬ (k = d.P) := fun k hk e => by omega
  exact ⟨h.ord, t.os.trans h.os, t.tape.trans h.tape, t.output.trans h.output, Nat.le_trans h.size t.size, fun k hk => (t.block k (by omega) (by show ¬ k = d.P; omega)).trans (h.low k hk),
    t.fix h.ord h.fix (fun k e => .inl e), t.kmap h.map (by show ¬ d.M = d.P; omega), hP, t.blk h.cellO (by show ¬ d.go = d.P; omega), t.own h.opn (fun k hk => big k (h.opn.blockLt k hk).1), t.blk h.cellA (by show ¬ d.ga = d.P; omega),
    t.row h.arow (fun k hk => big k (own_base h.arow k hk)), fun i hi => t.own (h.inner i hi) (fun k hk => big k ((h.inner i hi).blockLt k hk).1), h.apart⟩
theorem KC.arowNe (h : KC w0 w d n l vs cnt f pl vo op va rows all) : ∀ k, vo.ownBlock = some k → va.ownBlock ≠ some k := by
  intro k hk e
  rcases h.opn.2 with ⟨h1, _⟩ | ⟨g, cap, cur, h1, h2, h3, h4⟩
  · rw [h1] at hk; cases hk
  · rcases h.arow.2 with ⟨k1, _⟩ | ⟨g', cap', cur', k1, k2, k3, k4⟩
    · rw [k1] at e; cases e
    · rw [h1] at hk
      rw [k1] at e
      have e1 : g = k := Option.some.inj hk
      have e2 : g' = k := Option.some.inj e
      subst e1
      subst e2
      rw [h3] at k3
      injection k3 with k3
      injection k3 with _ k3 _
      exact absurd k3 (by decide)
theorem KC.innerNe (h : KC w0 w d n l vs cnt f pl vo op va rows all) {i : Nat} (hi : i < all.length) : ∀ k, (rows.getD i undef).ownBlock = some k → va.ownBlock ≠ some k := by
  intro k hk e
  rcases (h.inner i hi).2 with ⟨h1, _⟩ | ⟨g, cap, cur, h1, h2, h3, h4⟩
  · rw [h1] at hk; cases hk
  · rcases h.arow.2 with ⟨k1, _⟩ | ⟨g', cap', cur', k1, k2, k3, k4⟩
    · rw [k1] at e; cases e
    · rw [h1] at hk
      rw [k1] at e
      have e1 : g = k := Option.some.inj hk
      have e2 : g' = k := Option.some.inj e
      subst e1
      subst e2
      rw [h3] at k3
      injection k3 with k3
      injection k3 with _ k3 _
      exact absurd k3 (by decide)
/-- Open is another list, in its own block or a new one. -/
theorem KC.setOpen (h : KC w0 w d n l vs cnt f pl vo op va rows all) (hg : w.grownBy w' vo.ownBlock) {vo' : Value} {op' : List Nat} (ho : OwnInts w' d.H vo' (nI op')) (hl : ∀ k, vo'.ownBlock = some k → vo.ownBlock = some k ∨ w.heap.size ≤ k) : KC w0 (w'.setCell ⟨d.go, 0, none⟩ vo') d n l vs cnt f pl vo' op' va rows all := by
  obtain ⟨p1, p2, p3, p4, p5, p6, p7, p8, p9, p10⟩ := h.ord
  have hs := h.size
  have t1 := Turn.grown hg
  have t := t1.trans (Turn.set w' ⟨d.go, 0, none⟩ vo')
  have hob : ∀ k, vo.ownBlock = some k → d.H ≤ k := fun k hk => (h.opn.blockLt k hk).1
  have hO1 : Blk w' d.go 25 #[vo] := t1.blk h.cellO (fun e => by have := hob _ e; omega)
  have lowk : ∀ {k}, k < d.H → k ≠ d.go → ¬ (vo.ownBlock = some k ∨ k = d.go) := fun hk hne e => by
    rcases e with e | e
    · have := hob _ e; omega
    · exact hne e
  have hiA : ∀ k, va.ownBlock = some k → ¬ (vo.ownBlock = some k ∨ k = d.go) := fun k hk e => by
    rcases e with e | e
    · exact h.arowNe k e hk
    · have := own_base h.arow k hk; omega
  have hiI : ∀ i, i < all.length → ∀ k, (rows.getD i undef).ownBlock = some k → ¬ (vo.ownBlock = some k ∨ k = d.go) := fun i hi k hk e => by
    rcases e with e | e
    · exact h.apart i hi k hk e
    · have := ((h.inner i hi).blockLt k hk).1; omega
  refine ⟨h.ord, t.os.trans h.os, t.tape.trans h.tape, t.output.trans h.output, Nat.le_trans h.size t.size, fun k hk => (t.block k (by omega) (lowk (by omega) (by omega))).trans (h.low k hk),
    t.fix h.ord h.fix (fun k e => ?_), t.kmap h.map (lowk (by omega) (by omega)), t.iblk h.place (lowk (by omega) (by omega)), ?_, ?_, t.blk h.cellA (lowk (by omega) (by omega)),
    t.row h.arow hiA, fun i hi => t.own (h.inner i hi) (hiI i hi), fun i hi k hk e => ?_⟩
  · rcases e with e | e
    · exact .inr (.inr (.inr (.inr (hob k e))))
    · exact .inr (.inr (.inl e))
  · have := hO1.put 0 vo'
    exact this
  · exact ho.other hO1 (by decide) _ _
  · rcases hl k e with e2 | e2
    · exact h.apart i hi k hk e2
    · have := ((h.inner i hi).blockLt k hk).2; omega
/-- All is one more list, in its own block or a new one. -/
theorem KC.setAll (h : KC w0 w d n l vs cnt f pl vo op va rows all) (hg : w.grownBy w' va.ownBlock) {va' r : Value} {A : List Nat} (ho : w'.ownsRow d.H 25 1 va' (all.length + 1) (rows ++ [r])) (hr : OwnInts w d.H r (nI A)) (hra : ∀ k, r.ownBlock = some k → vo.ownBlock ≠ some k) :
    KC w0 (w'.setCell ⟨d.ga, 0, none⟩ va') d n l vs cnt f pl vo op va' (rows ++ [r]) (all ++ [A]) := by
  obtain ⟨p1, p2, p3, p4, p5, p6, p7, p8, p9, p10⟩ := h.ord
  have hs := h.size
  have t1 := Turn.grown hg
  have t := t1.trans (Turn.set w' ⟨d.ga, 0, none⟩ va')
  have hob : ∀ k, va.ownBlock = some k → d.H ≤ k := fun k hk => own_base h.arow k hk
  have hO1 : Blk w' d.ga 43 #[va] := t1.blk h.cellA (fun e => by have := hob _ e; omega)
  have lowk : ∀ {k}, k < d.H → k ≠ d.ga → ¬ (va.ownBlock = some k ∨ k = d.ga) := fun hk hne e => by
    rcases e with e | e
    · have := hob _ e; omega
    · exact hne e
  have hiO : ∀ k, vo.ownBlock = some k → ¬ (va.ownBlock = some k ∨ k = d.ga) := fun k hk e => by
    rcases e with e | e
    · exact h.arowNe k hk e
    · have := (h.opn.blockLt k hk).1; omega
  have hiI : ∀ i, i < all.length → ∀ k, (rows.getD i undef).ownBlock = some k → ¬ (va.ownBlock = some k ∨ k = d.ga) := fun i hi k hk e => by
    rcases e with e | e
    · exact h.innerNe hi k hk e
    · have := ((h.inner i hi).blockLt k hk).1; omega
  have hrn : ∀ k, r.ownBlock = some k → ¬ (va.ownBlock = some k ∨ k = d.ga) := fun k hk e => by
    rcases e with e | e
    · rcases hr.2 with ⟨h1, _⟩ | ⟨g, cap, cur, h1, h2, h3, h4⟩
      · rw [h1] at hk; cases hk
      · rcases h.arow.2 with ⟨k1, _⟩ | ⟨g', cap', cur', k1, k2, k3, k4⟩
        · rw [k1] at e; cases e
        · rw [h1] at hk
          rw [k1] at e
          have e1 : g = k := Option.some.inj hk
          have e2 : g' = k := Option.some.inj e
          subst e1
          subst e2
          rw [h3] at k3
          injection k3 with k3
          injection k3 with _ k3 _
          exact absurd k3 (by decide)
    · have := (hr.blockLt k hk).1; omega
  have hlen : rows.length = all.length := by have := h.arow.1; omega
  have getL : ∀ i, i < all.length → (rows ++ [r]).getD i undef = rows.getD i undef := fun i hi => by
    rw [List.getD_eq_getElem?_getD, List.getElem?_append_left (by omega), ← List.getD_eq_getElem?_getD]
  have getR : (rows ++ [r]).getD all.length undef = r := by
    rw [List.getD_eq_getElem?_getD, List.getElem?_append_right (by omega), hlen, Nat.sub_self]; rfl
  have getA : ∀ i, i < all.length → (all ++ [A]).getD i [] = all.getD i [] := fun i hi => by
    rw [List.getD_eq_getElem?_getD, List.getElem?_append_left hi, ← List.getD_eq_getElem?_getD]
  have getB : (all ++ [A]).getD all.length [] = A := by
    rw [List.getD_eq_getElem?_getD, List.getElem?_append_right (Nat.le_refl _), Nat.sub_self]; rfl
  refine ⟨h.ord, t.os.trans h.os, t.tape.trans h.tape, t.output.trans h.output, Nat.le_trans h.size t.size, fun k hk => (t.block k (by omega) (lowk (by omega) (by omega))).trans (h.low k hk),
    t.fix h.ord h.fix (fun k e => ?_), t.kmap h.map (lowk (by omega) (by omega)), t.iblk h.place (lowk (by omega) (by omega)), t.blk h.cellO (lowk (by omega) (by omega)), t.own h.opn hiO, ?_, ?_, fun i hi => ?_, fun i hi k hk => ?_⟩
  · rcases e with e | e
    · exact .inr (.inr (.inr (.inr (hob k e))))
    · exact .inr (.inr (.inr (.inl e)))
  · exact hO1.put 0 va'
  · rw [List.length_append, List.length_singleton]
    refine ⟨ho.1, ?_⟩
    rcases ho.2 with h1 | ⟨g, cap, cur, h1, h2, h3, h4⟩
    · exact .inl h1
    · exact .inr ⟨g, cap, cur, h1, h2, (Below.heap_setCell w' _ va' g (by show g ≠ d.ga; omega)).trans h3, h4⟩
  · rw [List.length_append, List.length_singleton] at hi
    by_cases e : i < all.length
    · rw [getL i e, getA i e]; exact t.own (h.inner i e) (hiI i e)
    · obtain rfl : i = all.length := by omega
      rw [getR, getB]; exact t.own hr hrn
  · rw [List.length_append, List.length_singleton] at hi
    by_cases e : i < all.length
    · rw [getL i e] at hk; exact h.apart i e k hk
    · obtain rfl : i = all.length := by omega
      rw [getR] at hk; exact hra k hk
theorem KC.mapCongr {f' : Int → Option (Int × Int)} (h : KC w0 w d n l vs cnt f pl vo op va rows all) (e : ∀ a, f a = f' a) : KC w0 w d n l vs cnt f' pl vo op va rows all := by
  have : f = f' := funext e
  exact this ▸ h
theorem KC.placeCongr {pl' : List Nat} (h : KC w0 w d n l vs cnt f pl vo op va rows all) (e : pl = pl') : KC w0 w d n l vs cnt f pl' vo op va rows all := e ▸ h
end
/-- A list of the call's own, cut short. -/
theorem OwnInts.cut {w : World} {lo k c : Nat} {A : Option Addr} {xs : List Int} (h : OwnInts w lo (.slice A xs.length c) xs) (hk : k ≤ xs.length) (h0 : A ≠ none) : OwnInts w lo (.slice A k c) (xs.take k) := by
  unfold OwnInts at h ⊢
  rcases h.2 with ⟨h1, _⟩ | ⟨g, cap, cur, h1, h2, h3, h4, h5, h6, h7⟩
  · injection h1 with h1 _ _
    exact absurd h1 h0
  · injection h1 with e1 _ e3
    subst e1 e3
    refine ⟨by simp, .inr ⟨g, c, cur, ?_, h2, h3, by rw [List.length_take]; omega, h5, h6, ?_⟩⟩
    · rw [List.length_take, Nat.min_eq_left hk]
    · have := congrArg (List.take k) h7
      rw [List.take_take, ← List.map_take] at this
      rw [← this, List.length_take, Nat.mul_one, Nat.mul_one, Nat.min_eq_left hk]
/-- What is known of points: when they were begun; whether they are open. -/
def knownF (ks op : List Nat) (a : Int) : Option (Int × Int) :=
  if 0 ≤ a ∧ a.toNat ∈ ks then some ((ks.idxOf a.toNat : Int), if a.toNat ∈ op then (ks.idxOf a.toNat : Int) else -1) else none
def placeL (n : Nat) (all : List (List Nat)) : List Nat := (List.range n).map (placeOf all)
/-- The state of a walk. -/
def KSt (w0 w : World) (d : Ads) (n : Nat) (l : List (Int × Int)) (vs : List Value) (s : KS) : Prop := ∃ vo va rows, KC w0 w d n l vs s.ks.length (knownF s.ks s.op) (placeL n s.all) vo s.op va rows s.all
end Go.Proofs.Ytohoihicmmidmaa
