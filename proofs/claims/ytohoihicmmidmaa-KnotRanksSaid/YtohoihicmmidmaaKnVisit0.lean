/-
  Plain words for the program's walk through a graph: what is known, where the knots are, step by step.
-/
import Derived.Test.YtohoihicmmidmaaKnState
namespace Go.Proofs.Ytohoihicmmidmaa
set_option linter.unusedVariables false
set_option linter.unusedSimpArgs false
open Go.ChangeShapes Go.WideShapes Go.ChangeAt Go.RowKit Kn

theorem wf_nat {a : Nat} (h : a ≤ 1000) : (Lit.int .i64 (a : Int)).wf = true := WalkArith.wf_i64 (by omega)
theorem knownF_mem {ks op : List Nat} {b : Nat} (h : b ∈ ks) : knownF ks op (b : Int) = some ((ks.idxOf b : Int), if b ∈ op then (ks.idxOf b : Int) else -1) := by
  unfold knownF
  simp [h]
theorem knownF_not {ks op : List Nat} {b : Nat} (h : b ∉ ks) : knownF ks op (b : Int) = none := by
  unfold knownF
  simp [h]
theorem knownF_beg {ks op : List Nat} {a : Nat} (hn : a ∉ ks) (b : Int) : (if b = (a : Int) then some ((ks.length : Int), (ks.length : Int)) else knownF ks op b) = knownF (ks ++ [a]) (op ++ [a]) b := by
  by_cases e : b = (a : Int)
  · subst e
    rw [if_pos rfl, knownF_mem (by simp), List.idxOf_append, if_neg hn]
    simp
  · rw [if_neg e]
    by_cases h0 : 0 ≤ b
    · obtain ⟨c, rfl⟩ := Int.eq_ofNat_of_zero_le h0
      have hca : c ≠ a := fun h => e (by rw [h])
      by_cases hc : c ∈ ks
      · rw [knownF_mem hc, knownF_mem (by simp [hc]), List.idxOf_append, if_pos hc]
        simp [hca]
      · rw [knownF_not hc, knownF_not (by simp [hc, hca])]
    · unfold knownF
      rw [if_neg (fun h => h0 h.1), if_neg (fun h => h0 h.1)]
theorem knownF_shut {ks X Y : List Nat} {b : Nat} (hb : b ∈ ks) (hX : b ∉ X) (hY : b ∉ Y) (c : Int) : (if c = (b : Int) then some ((ks.idxOf b : Int), (-1 : Int)) else knownF ks (X ++ b :: Y) c) = knownF ks (X ++ Y) c := by
  by_cases e : c = (b : Int)
  · subst e
    rw [if_pos rfl, knownF_mem hb]
    simp [hX, hY]
  · rw [if_neg e]
    by_cases h0 : 0 ≤ c
    · obtain ⟨z, rfl⟩ := Int.eq_ofNat_of_zero_le h0
      have hzb : z ≠ b := fun h => e (by rw [h])
      by_cases hz : z ∈ ks
      · rw [knownF_mem hz, knownF_mem hz]
        simp [hzb]
      · rw [knownF_not hz, knownF_not hz]
    · unfold knownF
      rw [if_neg (fun h => h0 h.1), if_neg (fun h => h0 h.1)]
def placeM (n : Nat) (all : List (List Nat)) (S : List Nat) : List Nat := (List.range n).map fun b => if b ∈ S then all.length else placeOf all b
theorem placeM_len (n : Nat) (all : List (List Nat)) (S : List Nat) : (placeM n all S).length = n := by simp [placeM]
theorem placeL_len (n : Nat) (all : List (List Nat)) : (placeL n all).length = n := by simp [placeL]
theorem placeL_at {n : Nat} (all : List (List Nat)) {a : Nat} (ha : a < n) : (placeL n all).getD a 0 = placeOf all a := by simp [placeL, List.getD_eq_getElem?_getD, ha]
theorem placeM_zero (n : Nat) (all : List (List Nat)) : placeM n all [] = placeL n all := by simp [placeM, placeL]
theorem placeM_step {n : Nat} (all : List (List Nat)) (S : List Nat) {b : Nat} (hb : b < n) : (placeM n all S).set b all.length = placeM n all (S ++ [b]) := by
  apply List.ext_getElem
  · simp [placeM]
  · intro i h1 h2
    rw [List.getElem_set]
    have hi : i < n := by rw [placeM_len] at h2; exact h2
    by_cases e : b = i
    · subst e; simp [placeM]
    · have e' : ¬ i = b := fun h => e h.symm
      simp [placeM, e, e']
theorem placeM_end {n : Nat} {all : List (List Nat)} {S : List Nat} (hd : (all ++ [S]).flatten.Nodup) : placeM n all S = placeL n (all ++ [S]) := by
  unfold placeM placeL
  apply List.map_congr_left
  intro b _
  rw [place_snoc hd]
theorem idx_first {l : List Nat} {a : Nat} (h : a ∈ l) : l.idxOf a < l.length ∧ (nI l).getD (l.idxOf a) 0 = (a : Int) ∧ ∀ j, j < l.idxOf a → (nI l).getD j 0 ≠ (a : Int) := by
  have hlt := List.idxOf_lt_length_of_mem h
  refine ⟨hlt, ?_, fun j hj e => ?_⟩
  · rw [nI_at, getD_lt _ hlt, List.getElem_idxOf hlt]
  · rw [nI_at, getD_lt _ (by omega)] at e
    have h1 : l[j]'(by omega) = a := by omega
    have h2 := List.not_of_lt_findIdx (p := (· == a)) (xs := l) (i := j) hj
    simp at h2
    exact h2 h1
set_option maxRecDepth 100000 in
/-- append of one number, just laid in a block of its own: where the list then lies. -/
theorem wpList_app1L {w : World} {ops : Array Oper} {rest : List Oper} {o : Oper} {a : Act} {Q : Exit → Act → World → Prop} (hgd : o.guard = none) (s x : Operand)
    (ho : o.op = .call { callee := .builtin .append, args := #[s, x], argTypes := #[25, 25] })
    (base : Nat) (v : Value) (xs : List Int) (hs : a.eval s = v) (y : Int) (hown : OwnInts w base v xs) (hx : a.eval x = .slice (some ⟨w.heap.size, 0, none⟩) 1 1)
    (hlen : xs.length ≤ 1000000) (hbase : base ≤ w.heap.size)
    (h : ∀ v' w', OwnInts w' base v' (xs ++ [y]) → (w.alloc (.cells #[.int .i64 y] 3)).grownBy w' v.ownBlock → (∀ k, v'.ownBlock = some k → v.ownBlock = some k ∨ (w.alloc (.cells #[.int .i64 y] 3)).heap.size ≤ k) → wpList Try.prog ops Q rest (a.put o.dst v') w') : wpList Try.prog ops Q (o :: rest) a (w.alloc (.cells #[.int .i64 y] 3)) := by
  obtain ⟨i0, hi, hz0, hz1, hz2⟩ := info_parts intInfo
  refine wpList_plain hgd fun K hK => ?_
  refine wp_append_lies (P := Try.prog) _ s x 25 ho base 3 i0 _ 1 8 Try.underlying25 hi hz0 hz1 hz2 rfl (by decide) v xs.length (xs.map (Value.int .i64)) hs (World.ownsRow.alloc hown _) _ 1 1 [.int .i64 y] hx rfl (World.news_of_block (Blk.new w 3 #[.int .i64 y])) ?_ (by omega) ?_ ?_ ?_ _ rfl ?_
  · intro u hu; simp at hu; subst hu; rfl
  · unfold maxLen; omega
  · omega
  · rw [World.size_alloc]; omega
  · intro g cap w2 h1 h2 h3 h4
    refine hK _ _ (h _ w2 (by unfold OwnInts; rw [List.length_append, List.map_append]; exact h1) h2 (fun k hk => ?_))
    have e1 : g = k := Option.some.inj hk
    subst e1
    rcases h3 with h3 | h3
    · exact .inl h3
    · exact .inr (by omega)
set_option maxRecDepth 100000 in
/-- append of one list of numbers to a list of such, as one step of a drawn region. -/
theorem step_appR {w : World} {ops : Array Oper} {o : Oper} {a : Act} {K : Act → World → Prop} {Q : Exit → Act → World → Prop} {E : Prop} (hgd : o.guard = none) (s x : Operand)
    (ho : o.op = .call { callee := .builtin .append, args := #[s, x], argTypes := #[43, 43] })
    (base : Nat) (v : Value) (n : Nat) (rows : List Value) (hs : a.eval s = v) (r : Value) (hr : r.oneCell' = true) (hown : w.ownsRow base 25 1 v n rows) (B : Nat) (hx : a.eval x = .slice (some ⟨B, 0, none⟩) 1 1) (hB : Blk w B 25 #[r])
    (hlen : n ≤ 1000000) (hbase : base ≤ w.heap.size)
    (h : ∀ v' w', w'.ownsRow base 25 1 v' (n + 1) (rows ++ [r]) → w.grownBy w' v.ownBlock → (∃ g c, v' = .slice (some ⟨g, 0, none⟩) (n + 1) c) → K (a.put o.dst v') w') :
    if Region.wanted o (yielded ops a.tmps) = true then Oper.wp Try.prog o a w K Q else E := by
  obtain ⟨i0, hi, hz0, hz1, hz2⟩ := info_parts rowsInfo
  refine step_append_lies (P := Try.prog) w hgd s x 43 ho base 25 i0 _ 1 24 Try.underlying43 hi hz0 hz1 hz2 rfl (by decide) v n _ hs hown ⟨B, 0, none⟩ 1 1 [r] hx rfl (World.news_of_block hB) ?_ (by omega) ?_ ?_ hbase _ rfl ?_
  · intro u hu
    simp at hu
    subst hu
    exact hr
  · unfold maxLen; omega
  · omega
  · intro g cap w2 h1 h2 h3 h4
    exact h _ w2 h1 h2 ⟨g, cap, rfl⟩
theorem enters_visit : ∀ args w, (callFunc 31 args).run Try.prog w = .ok (.enter 31 args) w := fun _ _ => by kernel_rfl
end Go.Proofs.Ytohoihicmmidmaa
