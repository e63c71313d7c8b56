/-
  The program's out: of each point, the points to which arrows lead: rows that grow, one behind the other, in whatever order.
-/
import Derived.Test.YtohoihicmmidmaaKnRef4
import Derived.Test.YtohoihicmmidmaaHeldT
import Derived.Deep.AppendLies
namespace Go.Proofs.Ytohoihicmmidmaa
set_option linter.unusedVariables false
set_option linter.unusedSimpArgs false
open Go.ChangeShapes Go.WideShapes Go.ChangeAt Go.RowKit Kn

theorem OwnInts.grown {w w' : World} {lo : Nat} {v : Value} {xs : List Int} {row : Option Nat} (h : OwnInts w lo v xs) (hg : w.grownBy w' row) (hne : ∀ k, v.ownBlock = some k → row ≠ some k) : OwnInts w' lo v xs := by
  unfold OwnInts at h ⊢
  refine ⟨h.1, ?_⟩
  rcases h.2 with h1 | ⟨g, cap, cur, h1, h2, h3, h4⟩
  · exact .inl h1
  · exact .inr ⟨g, cap, cur, h1, h2, (hg.block g (Array.getElem?_eq_some_iff.1 h3).1 (fun e => hne g (by rw [h1]; rfl) e.symm)).trans h3, h4⟩
theorem OwnInts.other {w : World} {lo g : Nat} {t : TypeId} {cs : Array Value} {v : Value} {xs : List Int} (h : OwnInts w lo v xs) (hg : Blk w g t cs) (hne : 3 ≠ t) (i : Nat) (u : Value) : OwnInts (w.setCell ⟨g, i, none⟩ u) lo v xs := by
  have h0 := h.ne hg hne
  unfold OwnInts at h ⊢
  refine ⟨h.1, ?_⟩
  rcases h.2 with h1 | ⟨g', cap, cur, h1, h2, h3, h4⟩
  · exact .inl h1
  · exact .inr ⟨g', cap, cur, h1, h2, (Below.heap_setCell w _ u g' (by rw [h1] at h0; exact fun e => h0 (congrArg some e))).trans h3, h4⟩
theorem OwnInts.blockLt {w : World} {lo : Nat} {v : Value} {xs : List Int} (h : OwnInts w lo v xs) : ∀ k, v.ownBlock = some k → lo ≤ k ∧ k < w.heap.size := by
  intro k hk
  rcases h.2 with ⟨h1, _⟩ | ⟨g', cap, cur, h1, h2, h3, h4⟩
  · rw [h1] at hk; cases hk
  · rw [h1] at hk
    have e : g' = k := Option.some.inj hk
    subst e
    exact ⟨h2, (Array.getElem?_eq_some_iff.1 h3).1⟩

/-- The rows, as they lie: each a list of the call's own, no two in one block. -/
structure Tos (w : World) (lo gt n : Nat) (vs : List Value) (f : Nat → List Nat) : Prop where
  len : vs.length = n
  blk : Blk w gt 25 vs.toArray
  own : ∀ a, a < n → OwnInts w lo (vs.getD a undef) (nI (f a))
  apart : ∀ a b, a < n → b < n → a ≠ b → ∀ k, (vs.getD a undef).ownBlock = some k → (vs.getD b undef).ownBlock ≠ some k
section
variable {w w' : World} {lo gt n : Nat} {vs : List Value} {f : Nat → List Nat}
theorem Tos.keep (h : Tos w lo gt n vs f) (hb : Below w.heap.size w w') : Tos w' lo gt n vs f := ⟨h.len, h.blk.beneath hb, fun a ha => (h.own a ha).keep hb, h.apart⟩
theorem Tos.at_ (h : Tos w lo gt n vs f) {a : Nat} (ha : a < n) : w.cell? ⟨gt, a, none⟩ = some (vs.getD a undef) := by
  rw [h.blk.cells a]
  simp [h.len, ha, List.getD_eq_getElem?_getD]
theorem getD_setV {vs : List Value} {k j : Nat} {x : Value} (h : k < vs.length) : (vs.set k x).getD j undef = if j = k then x else vs.getD j undef := by
  rw [List.getD_eq_getElem?_getD, List.getElem?_set, List.getD_eq_getElem?_getD]
  by_cases e : j = k
  · subst e; simp [h]
  · have : ¬ k = j := fun h => e h.symm
    simp [e, this]
/-- A row grown. -/
theorem Tos.push (h : Tos w lo gt n vs f) {x : Nat} (hx : x < n) {v' : Value} {ys : List Nat} (h1 : OwnInts w' lo v' (nI ys)) (h2 : w.grownBy w' (vs.getD x undef).ownBlock) (h3 : ∀ k, v'.ownBlock = some k → (vs.getD x undef).ownBlock = some k ∨ w.heap.size ≤ k) :
    Tos (w'.setCell ⟨gt, x, none⟩ v') lo gt n (vs.set x v') (fun a => if a = x then ys else f a) := by
  have hb : Blk w' gt 25 vs.toArray := h.blk.grown h2 ((h.own x hx).ne h.blk (by decide))
  have hxl : x < vs.length := by rw [h.len]; exact hx
  refine ⟨by rw [List.length_set, h.len], ?_, fun a ha => ?_, fun a b ha hb' hne k hk => ?_⟩
  · have := hb.put x v'
    rwa [List.setIfInBounds_toArray] at this
  · rw [getD_setV hxl]
    by_cases e : a = x
    · rw [if_pos e, if_pos e]
      exact h1.other hb (by decide) _ _
    · rw [if_neg e, if_neg e]
      refine ((h.own a ha).grown h2 (fun k hk => ?_)).other hb (by decide) _ _
      exact fun e2 => h.apart a x ha hx e k hk e2
  · rw [getD_setV hxl] at hk ⊢
    by_cases ea : a = x
    · rw [if_pos ea] at hk
      rw [if_neg (fun e => hne (ea.trans e.symm))]
      intro e2
      rcases h3 k hk with h4 | h4
      · exact h.apart b x hb' hx (fun e => hne (ea.trans e.symm)) k e2 h4
      · have := ((h.own b hb').blockLt k e2).2; omega
    · rw [if_neg ea] at hk
      by_cases eb : b = x
      · rw [if_pos eb]
        intro e2
        rcases h3 k e2 with h4 | h4
        · exact h.apart a x ha hx ea k hk h4
        · have := ((h.own a ha).blockLt k hk).2; omega
      · rw [if_neg eb]
        exact h.apart a b ha hb' hne k hk
theorem Tos.congr {f' : Nat → List Nat} (h : Tos w lo gt n vs f) (e : ∀ a, f a = f' a) : Tos w lo gt n vs f' := ⟨h.len, h.blk, fun a ha => by rw [← e a]; exact h.own a ha, h.apart⟩
end
theorem toL_snoc (l : List (Int × Int)) (x y a : Nat) : toL (l ++ [((x : Int), (y : Int))]) a = if a = x then toL l a ++ [y] else toL l a := by
  unfold toL
  rw [List.filter_append, List.map_append]
  by_cases e : a = x
  · subst e; simp
  · rw [if_neg e]
    have : ((x : Int) == (a : Int)) = false := by simp; omega
    simp [this]
theorem toL_len (l : List (Int × Int)) (a : Nat) : (toL l a).length ≤ l.length := by
  unfold toL
  rw [List.length_map]
  exact List.length_filter_le _ _
theorem rowsInfo : (Try.prog.info? 25).map (fun i => (i.zero, i.size, i.bytes)) = some (some (.slice none 0 0), 1, 24) := by kernel_rfl
theorem make_rows (n : Nat) (hn : n ≤ 1000000) (w : World) : (Instr.makeSlice 43 (.int .i64 (n : Int)) (.int .i64 (n : Int))).run Try.prog w = .ok (.slice (some ⟨w.heap.size, 0, none⟩) n n) (w.alloc (.cells (madeCells #[.slice none 0 0] n) 25)) :=
  run_make_row' 43 25 (.slice none 0 0) 24 Try.underlying43 rowsInfo rfl .i64 .i64 n (by omega) (by omega) w
theorem Tos.made (w : World) (n : Nat) : Tos (w.alloc (.cells (madeCells #[.slice none 0 0] n) 25)) w.heap.size w.heap.size n (List.replicate n (.slice none 0 0)) (toL []) := by
  have hg : ∀ a, a < n → (List.replicate n (Value.slice none 0 0)).getD a undef = .slice none 0 0 := fun a ha => by
    rw [List.getD_eq_getElem?_getD, List.getElem?_replicate, if_pos ha]; rfl
  refine ⟨by simp, by rw [← made_rep]; exact Blk.new _ _ _, fun a ha => by rw [hg a ha]; exact OwnInts.nil _ _, fun a b ha hb _ k hk => ?_⟩
  rw [hg a ha] at hk
  cases hk
set_option maxRecDepth 100000 in
/-- append of one number, laid somewhere, as one step of a drawn region. -/
theorem step_app1 {w : World} {ops : Array Oper} {o : Oper} {a : Act} {K : Act → World → Prop} {Q : Exit → Act → World → Prop} {E : Prop} (hgd : o.guard = none) (s x : Operand)
    (ho : o.op = .call { callee := .builtin .append, args := #[s, x], argTypes := #[25, 25] })
    (base : Nat) (v : Value) (xs : List Int) (hs : a.eval s = v) (y : Int) (hown : OwnInts w base v xs) (B : Nat) (hx : a.eval x = .slice (some ⟨B, 0, none⟩) 1 1) (hB : Blk w B 3 #[.int .i64 y])
    (hlen : xs.length ≤ 1000000) (hbase : base ≤ w.heap.size)
    (h : ∀ v' w', OwnInts w' base v' (xs ++ [y]) → w.grownBy w' v.ownBlock → (∀ k, v'.ownBlock = some k → v.ownBlock = some k ∨ w.heap.size ≤ k) → K (a.put o.dst v') w') :
    if Region.wanted o (yielded ops a.tmps) = true then Oper.wp Try.prog o a w K Q else E := by
  obtain ⟨i0, hi, hz0, hz1, hz2⟩ := info_parts intInfo
  refine step_append_lies (P := Try.prog) w hgd s x 25 ho base 3 i0 _ 1 8 Try.underlying25 hi hz0 hz1 hz2 rfl (by decide) v xs.length _ hs hown ⟨B, 0, none⟩ 1 1 [.int .i64 y] hx rfl (World.news_of_block hB) ?_ (by omega) ?_ ?_ hbase _ rfl ?_
  · intro u hu
    simp at hu
    subst hu
    rfl
  · unfold maxLen; omega
  · omega
  · intro g cap w2 h1 h2 h3 h4
    refine h _ w2 (by unfold OwnInts; rw [List.length_append, List.map_append]; exact h1) h2 (fun k hk => ?_)
    have e1 : g = k := Option.some.inj hk
    subst e1
    rcases h3 with h3 | h3
    · exact .inl h3
    · exact .inr (by omega)
set_option maxHeartbeats 3200000 in
theorem out_any {w : World} {A : Option Addr} {c : Nat} {l : List (Int × Int)} {n : Nat} (hx : GIn w A c l) (hn : n ≤ 1000) (hll : l.length ≤ 10000) (hok : okG n l) :
    Calls Try.prog 22 #[.int .i64 n, .slice A l.length c] w fun e w' => e = .returned (.slice (some ⟨w.heap.size, 0, none⟩) n n) ∧ (∃ vs, Tos w' w.heap.size w.heap.size n vs (toL l)) ∧ Below w.heap.size w w' := by
  have hl := hx.len
  have hmk := make_rows n (by omega)
  have HT0 := Lib.hid (Tos.made w n)
  have hb0 : Below w.heap.size w (w.alloc (.cells (madeCells #[.slice none 0 0] n) 25)) := (Below.refl _ _).alloc (Nat.le_refl _) _
  have HB0 := Lib.hid hb0
  have HX := Lib.hid hx
  have HOK := Lib.hid hok
  clear hx hok hb0
  go_enter Try.func22, Try.ntmps22
  go_wp2_with fail
  clear hmk
  go_loopw [12] (fun i wr => ∃ (k : Nat) (vs : List Value), k ≤ l.length ∧ i = .int .i64 k ∧ Tos wr w.heap.size w.heap.size n vs (toL (l.take k)) ∧ Below w.heap.size w wr) (fun i _ => l.length - (intOf i).toNat)
  case atStart => exact ⟨0, _, Nat.zero_le _, rfl, by rw [List.take_zero]; exact HT0.out, HB0.out⟩
  case round =>
    obtain ⟨k, vs, hk, rfl, htos, hbel⟩ := hrel
    have HT := Lib.hid htos
    have HB := Lib.hid hbel
    clear htos hbel
    by_cases hlt : k < l.length
    · obtain ⟨b, off, p, q, rfl, hbk, v0, v1, HE⟩ := (HX.out.on HB.out).elem hlt
      obtain ⟨he, hpm⟩ := getA hlt HE.out
      obtain ⟨x, y, hxn, hyn, e1, har⟩ := arr_at HOK.out hpm
      injection e1 with e1 e2
      subst e1 e2
      have HTK : Hid (l.take (k + 1) = l.take k ++ [((x : Int), (y : Int))]) := Lib.hid (by rw [take_succ_getD (d := ((0 : Int), (0 : Int))) hlt, HE.out])
      clear he hpm har HE
      have hx0 : (0 : Int) ≤ (x : Int) := Int.natCast_nonneg _
      have hx1 : (x : Int) < (n : Int) := by omega
      go_wp2_with fail
      obtain ⟨W, hW⟩ : ∃ W, wr.alloc (.cells #[.int .i64 (x : Int), .int .i64 (y : Int)] 32) = W := ⟨_, rfl⟩
      have hwr : Below wr.heap.size wr W := by rw [← hW]; exact (Below.refl _ _).alloc (Nat.le_refl _) _
      have HWB : Hid (Blk W wr.heap.size 32 #[.int .i64 (x : Int), .int .i64 (y : Int)]) := Lib.hid (by rw [← hW]; exact Blk.new _ _ _)
      have HT1 := Lib.hid (HT.out.keep hwr)
      have HB1 := Lib.hid (HB.out.trans (hwr.mono HB.out.size))
      rw [hW]
      have b0 := HWB.out.cells 0
      have b1 := HWB.out.cells 1
      have tx := HT1.out.at_ hxn
      have HOW := Lib.hid (HT1.out.own x hxn)
      obtain ⟨V, hV⟩ : ∃ V, vs.getD x undef = V := ⟨_, rfl⟩
      rw [hV] at tx HOW
      have HV := Lib.hid hV
      have hzl : w.heap.size < W.heap.size := HT1.out.blk.lt
      have hbl : wr.heap.size < W.heap.size := HWB.out.lt
      clear hV hwr hW v0 v1
      refine wp_region_T (fun w' => w'.cell? ⟨wr.heap.size, 0, none⟩ = some (.int .i64 (x : Int)) ∧ w'.cell? ⟨wr.heap.size, 1, none⟩ = some (.int .i64 (y : Int)) ∧ w'.cell? ⟨w.heap.size, x, none⟩ = some V) 13 (by kernel_rfl) ⟨b0, b1, tx⟩ (fun hHeld => ?_)
      refine wpAnyT_take (i := 0) (by kernel_rfl) (by decide) rfl (by kernel_rfl) (by kernel_rfl) (by kernel_rfl) (fun _ _ _ h => h) (Or.inl ⟨by rfl, by (intro w hSw; (try dsimp only at hSw); go_simp; (try with_reducible rfl))⟩) (by assumption) ?_; (try simp only [Act.put, List.setIfInBounds_toArray, List.set_cons_zero, List.set_cons_succ])
      refine wpAnyT_take (i := 1) (by kernel_rfl) (by decide) rfl (by kernel_rfl) (by kernel_rfl) (by kernel_rfl) (fun _ _ _ h => h) (Or.inl ⟨by rfl, by (intro w hSw; (try dsimp only at hSw); go_simp; (try with_reducible rfl))⟩) (by assumption) ?_; (try simp only [Act.put, List.setIfInBounds_toArray, List.set_cons_zero, List.set_cons_succ])
      refine wpAnyT_take (i := 2) (by kernel_rfl) (by decide) rfl (by kernel_rfl) (by kernel_rfl) (by kernel_rfl) (fun _ _ _ h => h) (Or.inl ⟨by rfl, by (intro w hSw; (try dsimp only at hSw); go_simp; (try with_reducible rfl))⟩) (by assumption) ?_; (try simp only [Act.put, List.setIfInBounds_toArray, List.set_cons_zero, List.set_cons_succ])
      refine wpAnyT_take (i := 3) (by kernel_rfl) (by decide) rfl (by kernel_rfl) (by kernel_rfl) (by kernel_rfl) (fun _ _ _ h => h) (Or.inl ⟨by rfl, by (intro w hSw; (try dsimp only at hSw); go_simp; (try with_reducible rfl))⟩) (by assumption) ?_; (try simp only [Act.put, List.setIfInBounds_toArray, List.set_cons_zero, List.set_cons_succ])
      refine wpAnyT_take (i := 4) (by kernel_rfl) (by decide) rfl (by kernel_rfl) (by kernel_rfl) (by kernel_rfl) (fun _ _ _ h => h) (Or.inl ⟨by rfl, by (intro w hSw; (try dsimp only at hSw); go_simp; (try with_reducible rfl))⟩) (by assumption) ?_; (try simp only [Act.put, List.setIfInBounds_toArray, List.set_cons_zero, List.set_cons_succ])
      refine wpAnyT_take (i := 5) (by kernel_rfl) (by decide) rfl (by kernel_rfl) (by kernel_rfl) (by kernel_rfl) (fun _ _ _ h => h) (Or.inl ⟨by rfl, by (intro w hSw; (try dsimp only at hSw); go_simp; (try with_reducible rfl))⟩) (by assumption) ?_; (try simp only [Act.put, List.setIfInBounds_toArray, List.set_cons_zero, List.set_cons_succ])
      refine wpAnyT_take (i := 6) (by kernel_rfl) (by decide) rfl (by kernel_rfl) (by kernel_rfl) (by kernel_rfl) (fun _ _ _ h => h) (Or.inl ⟨by rfl, by (intro w hSw; (try dsimp only at hSw); go_simp; (try with_reducible rfl))⟩) (by assumption) ?_; (try simp only [Act.put, List.setIfInBounds_toArray, List.set_cons_zero, List.set_cons_succ])
      refine wpAnyT_take (i := 7) (by kernel_rfl) (by decide) rfl (by kernel_rfl) (by kernel_rfl) (by kernel_rfl) (fun _ _ _ h => h) (Or.inl ⟨by rfl, by (intro w hSw; (try dsimp only at hSw); go_simp; (try with_reducible rfl))⟩) (by assumption) ?_; (try simp only [Act.put, List.setIfInBounds_toArray, List.set_cons_zero, List.set_cons_succ])
      refine wpAnyT_take (i := 8) (by kernel_rfl) (by decide) rfl (by kernel_rfl) (by kernel_rfl) (by kernel_rfl) (fun _ _ _ h => h) (Or.inl ⟨by rfl, by (intro w hSw; (try dsimp only at hSw); go_simp; (try with_reducible rfl))⟩) (by assumption) ?_; (try simp only [Act.put, List.setIfInBounds_toArray, List.set_cons_zero, List.set_cons_succ])
      refine wpAnyT_take (i := 9) (by kernel_rfl) (by decide) rfl (by kernel_rfl) (by kernel_rfl) (by kernel_rfl) (fun _ _ _ h => h) (Or.inl ⟨by rfl, by (intro w hSw; (try dsimp only at hSw); go_simp; (try with_reducible rfl))⟩) (by assumption) ?_; (try simp only [Act.put, List.setIfInBounds_toArray, List.set_cons_zero, List.set_cons_succ])
      refine wpAnyT_one (i := 10) (by kernel_rfl) rfl (fun K hK => ?_)
      go_simp
      have hbA : Below W.heap.size W (W.drew.alloc (.cells #[.int .i64 (y : Int)] 3)) := ((Below.refl _ _).drew).alloc (Nat.le_refl _) _
      have HBA := Lib.hid hbA
      have HTA := Lib.hid (HT1.out.keep hbA)
      have HOA := Lib.hid (HOW.out.keep hbA)
      have hka := HWB.out.beneath hbA
      have c0 : (W.drew.alloc (.cells #[.int .i64 (y : Int)] 3)).cell? ⟨wr.heap.size, 0, none⟩ = some (.int .i64 (x : Int)) := hka.cells 0
      have c1 : (W.drew.alloc (.cells #[.int .i64 (y : Int)] 3)).cell? ⟨wr.heap.size, 1, none⟩ = some (.int .i64 (y : Int)) := hka.cells 1
      have c2 : (W.drew.alloc (.cells #[.int .i64 (y : Int)] 3)).cell? ⟨w.heap.size, x, none⟩ = some V := by have := HTA.out.at_ hxn; rwa [HV.out] at this
      clear hka hbA
      refine hK.out _ _ (fun _ => ⟨c0, c1, c2⟩) (fun hH => ?_); clear hHeld hK K; have hHeld := hH (by decide); clear hH
      refine wpAnyT_one (i := 11) (by kernel_rfl) rfl (fun K hK => ?_)
      refine step_app1 rfl (.tmp 23) (.tmp 26) rfl w.heap.size V _ (by rfl) (y : Int) HOA.out W.heap.size (by rfl) (Blk.new W.drew _ _) (by rw [nI_len]; have := toL_len (l.take k) x; rw [List.length_take] at this; omega) (by show w.heap.size ≤ (W.alloc _).heap.size; rw [World.size_alloc]; omega) ?_
      intro v4 w4 hown4 hg4 hl4
      obtain ⟨A4, c4, hv4, _⟩ := hown4.form
      obtain ⟨n4, hn4⟩ : ∃ n4, (nI (toL (l.take k) x) ++ [(y : Int)]).length = n4 := ⟨_, rfl⟩
      rw [hn4] at hv4
      clear hn4
      subst hv4
      have hk4 : Blk w4 wr.heap.size 32 #[.int .i64 (x : Int), .int .i64 (y : Int)] := (HWB.out.beneath HBA.out).grown hg4 (HOA.out.ne (HWB.out.beneath HBA.out) (by decide))
      have ht4 : Blk w4 w.heap.size 25 vs.toArray := HTA.out.blk.grown hg4 (HOA.out.ne HTA.out.blk (by decide))
      have d0 : w4.cell? ⟨wr.heap.size, 0, none⟩ = some (.int .i64 (x : Int)) := hk4.cells 0
      have d1 : w4.cell? ⟨wr.heap.size, 1, none⟩ = some (.int .i64 (y : Int)) := hk4.cells 1
      have d2 : w4.cell? ⟨w.heap.size, x, none⟩ = some V := by
        rw [ht4.cells x]
        have := HTA.out.at_ hxn
        rw [HTA.out.blk.cells x, HV.out] at this
        exact this
      have d3 := ht4.free x
      have HTN : Hid (Tos (w4.setCell ⟨w.heap.size, x, none⟩ (.slice A4 n4 c4)) w.heap.size w.heap.size n (vs.set x (.slice A4 n4 c4)) (toL (l.take (k + 1)))) := Lib.hid (by
        have hp := HTA.out.push hxn (v' := .slice A4 n4 c4) (ys := toL (l.take k) x ++ [y]) (w' := w4) (by rw [nI_app]; exact hown4) (by rw [HV.out]; exact hg4) (by rw [HV.out]; exact hl4)
        refine hp.congr (fun a => ?_)
        rw [HTK.out, toL_snoc]
        by_cases e : a = x
        · subst e; rfl
        · rw [if_neg e, if_neg e])
      have HBN : Hid (Below w.heap.size w (w4.setCell ⟨w.heap.size, x, none⟩ (.slice A4 n4 c4))) := Lib.hid (belowSet0 (Below.grown (HB1.out.trans (HBA.out.mono (by omega))) hg4 (by show w.heap.size ≤ (W.alloc _).heap.size; rw [World.size_alloc]; omega) HOA.out.base))
      clear hk4 ht4 hown4 hg4 hl4
      refine hK.out _ _ (fun _ => ⟨d0, d1, d2⟩) (fun hH => ?_); clear hHeld hK K; have hHeld := hH (by decide); clear hH
      refine wpAnyT_take (i := 12) (by kernel_rfl) (by decide) rfl (by kernel_rfl) (by kernel_rfl) (by kernel_rfl) (fun _ _ _ h => h) (Or.inl ⟨by rfl, by (intro w hSw; (try dsimp only at hSw); go_simp; (try with_reducible rfl))⟩) (by assumption) ?_; (try simp only [Act.put, List.setIfInBounds_toArray, List.set_cons_zero, List.set_cons_succ])
      refine wpAnyT_one (i := 13) (by kernel_rfl) rfl (fun K hK => ?_)
      go_simp
      refine hK.out _ _ (fun e => absurd rfl e) (fun hH => ?_); refine wpAnyT_done (by kernel_rfl) ?_ _; clear hHeld hK K hH
      clear b0 b1 c0 c1 c2 d0 d1 d2 d3 tx
      go_wp2_with fail
      go_roundw
      case rel => exact ⟨k + 1, _, by omega, by go_num, HTN.out, HBN.out⟩
      case measure => simp [intOf]; omega
    · have hkl : k = l.length := by omega
      have HTL : Hid (Tos wr w.heap.size w.heap.size n vs (toL l)) := Lib.hid (by have := HT.out; rwa [List.take_of_length_le (by omega)] at this)
      clear hkl
      go_wp2_with fail
      go_ret
      exact ⟨rfl, ⟨vs, HTL.out⟩, HB.out⟩
end Go.Proofs.Ytohoihicmmidmaa
