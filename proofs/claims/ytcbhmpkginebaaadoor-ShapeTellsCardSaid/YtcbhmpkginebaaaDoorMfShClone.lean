/-
  slices.Clone, of instructions, of blocks and of functions; rows with an element written over.
-/
import Derived.Test.YtcbhmpkginebaaaDoorMg14
import Derived.Test.YtcbhmpkginebaaaDoorMfShTwin1
import Derived.Test.YtcbhmpkginebaaaDoorMfTypClone
namespace Go.Proofs.YtcbhmpkginebaaaDoor
set_option linter.unusedVariables false
set_option linter.unusedSimpArgs false
open Go.Instr
open Go.ChangeShapes Go.WideShapes Go.ChangeAt Go.RowKit

theorem flatN_len {α : Type} (f : α → List Value) (size : Nat) (hf : ∀ x, (f x).length = size) (rows : List α) : (rows.flatMap f).length = rows.length * size := by
  induction rows with
  | nil => simp
  | cons r rs ih => rw [List.flatMap_cons, List.length_append, ih, hf, List.length_cons, Nat.add_mul]; omega
section
variable {α : Type} [Inhabited α] (f : α → List Value) (size : Nat) (hf : ∀ x, (f x).length = size)
include hf
theorem cells_news {w : World} {lo B : Nat} {A : Option Addr} (hs : 0 < size) (g : α → Nat → Value) (hg : ∀ x j, j < size → (f x).getD j undef = g x j) (rows : List α) (h : CellsAt w lo B A size rows.length fun i j => g (rows.getD i default) j) :
    ∀ ad, A = some ad → ∀ j u, (rows.flatMap f)[j]? = some u → w.cell? (ad.add j) = some u := by
  intro ad hA q u hq
  obtain ⟨hlt, hu⟩ := List.getElem?_eq_some_iff.1 hq
  rw [flatN_len f size hf] at hlt
  have hi : q / size < rows.length := (Nat.div_lt_iff_lt_mul hs).2 hlt
  have hj : q % size < size := Nat.mod_lt _ hs
  obtain ⟨b, off, e, h1, h2, hc⟩ := h (Nat.lt_of_le_of_lt (Nat.zero_le _) hi)
  rw [hA] at e
  injection e with e
  subst e
  rw [add_lit]
  have hcc := hc (q / size) hi (q % size) hj
  have hdm : q / size * size + q % size = q := by rw [Nat.mul_comm]; exact Nat.div_add_mod q size
  rw [Nat.add_assoc, hdm] at hcc
  rw [hcc]
  have hfl := flat_getD f size hf default rows (q / size) (q % size) hi hj
  rw [hdm, List.getD_eq_getElem?_getD, hq, hg _ _ hj] at hfl
  exact congrArg some hfl.symm
/-- An element of a row, one of its cells written over. -/
theorem flat_set : ∀ (l : List α) (k : Nat) (x' : α) (j : Nat) (u : Value), k < l.length → j < size → f x' = (f (l.getD k default)).set j u → (l.set k x').flatMap f = (l.flatMap f).set (k * size + j) u
  | x :: l, 0, x', j, u, _, hj, hx => by
    rw [List.set_cons_zero, List.flatMap_cons, List.flatMap_cons, Nat.zero_mul, Nat.zero_add, List.set_append_left _ _ (by rw [hf]; exact hj)]
    exact congrArg (· ++ _) hx
  | x :: l, k + 1, x', j, u, hk, hj, hx => by
    rw [List.set_cons_succ, List.flatMap_cons, List.flatMap_cons, List.set_append_right _ _ (by rw [hf, Nat.add_mul]; omega), hf, show (k + 1) * size + j - size = k * size + j by rw [Nat.add_mul]; omega]
    exact congrArg (_ ++ ·) (flat_set l k x' j u (by simpa using hk) hj hx)
end
theorem set_getD_same {α : Type} {d : α} {l : List α} {k : Nat} {x : α} (h : k < l.length) : (l.set k x).getD k d = x := by
  rw [List.getD_eq_getElem?_getD, List.getElem?_set_self h]; rfl
theorem set_getD_other {α : Type} {d : α} {l : List α} {k i : Nat} {x : α} (h : k ≠ i) : (l.set k x).getD i d = l.getD i d := by
  rw [List.getD_eq_getElem?_getD, List.getElem?_set_ne h, List.getD_eq_getElem?_getD]
def SomeRowI (rows : List InR) (w : World) (e : Ending) (w' : World) : Prop := ∃ A c, e = .returned (.slice A rows.length c) ∧ w'.ownsRow w.heap.size 24 7 (.slice A rows.length c) rows.length (rows.flatMap InR.cells7) ∧ Below w.heap.size w w'
theorem flatI_one (rows : List InR) : ∀ u ∈ rows.flatMap InR.cells7, u.oneCell' = true := by
  intro u hu
  obtain ⟨r, _, hr⟩ := List.mem_flatMap.1 hu
  simp only [InR.cells7, List.mem_cons, List.not_mem_nil, or_false] at hr
  rcases hr with rfl | rfl | rfl | rfl | rfl | rfl | rfl <;> rfl
theorem wpList_appRowsI {w : World} {ops : Array Oper} {rest : List Oper} {o : Oper} {a : Act} {Q : Exit → Act → World → Prop} (hgd : o.guard = none) (s x : Operand)
    (ho : o.op = .call { callee := .builtin .append, args := #[s, x], argTypes := #[56, 56] })
    (base : Nat) (v : Value) (hs : a.eval s = v) (hown : w.ownsRow base 24 7 v 0 []) (A : Option Addr) (c : Nat) (rows : List InR) (hx : a.eval x = .slice A rows.length c) (hys : InsAt w A c rows)
    (hlen : rows.length ≤ 1000000) (hbase : base ≤ w.heap.size)
    (h : ∀ v' w', w'.ownsRow base 24 7 v' rows.length (rows.flatMap InR.cells7) → w.grownBy w' v.ownBlock → wpList Tryd.prog ops Q rest (a.put o.dst v') w') : wpList Tryd.prog ops Q (o :: rest) a w := by
  obtain ⟨i0, hi, hz0, hz1, hz2⟩ := info_parts insInfo
  refine wpList_app hgd s x 56 ho base 24 i0 _ 7 88 Tryd.underlying56 hi hz0 hz1 hz2 rfl (by decide) v 0 [] hs hown A rows.length c (rows.flatMap InR.cells7) hx hys.hdr.nil (flatN_len InR.cells7 7 (fun _ => rfl) rows) (cells_news InR.cells7 7 (fun _ => rfl) (by decide) InR.cell ?_ rows hys.cells) (flatI_one rows) ?_ ?_ hbase ?_
  · intro x j hj
    match j, hj with
    | 0, _ => rfl
    | 1, _ => rfl
    | 2, _ => rfl
    | 3, _ => rfl
    | 4, _ => rfl
    | 5, _ => rfl
    | 6, _ => rfl
  · unfold maxLen; omega
  · omega
  · intro v' w' h1 h2
    rw [Nat.zero_add, List.nil_append] at h1
    exact h v' w' h1 h2
theorem cloneI_any {w : World} {A : Option Addr} {c : Nat} {rows : List InR} (hx : InsAt w A c rows) (hl : rows.length ≤ 1000000) :
    Calls Tryd.prog 55 #[.slice A rows.length c] w (SomeRowI rows w) := by
  have qn : ∀ (w : World) (a : Option Addr) (n c n' c' : Nat), (binOp .eql 56 (.slice a n c) (.slice none n' c')).run Tryd.prog w = .ok (.bool a.isNone) w := fun w a n c n' c' => Lib.run_eql_slice_nil w _ _ a n c n' c' Tryd.underlying56
  cases A with
  | none =>
    obtain ⟨h0, hc⟩ := hx.hdr.nil rfl
    obtain rfl := List.eq_nil_of_length_eq_zero h0
    subst hc
    clear hx hl h0
    go_enter Tryd.func55, Tryd.ntmps55
    go_wp2_with fail
    go_ret
    exact ⟨none, 0, rfl, World.ownsRow_nil _ _ _ _, Below.refl _ _⟩
  | some ad =>
    have hb0 : Below w.heap.size w (w.alloc (.cells #[] 24)) := (Below.refl _ _).alloc (Nat.le_refl _) _
    have HX := Lib.hid (hx.on hb0)
    have HB := Lib.hid hb0
    have HZ : Hid ((w.alloc (.cells #[] 24)).ownsRow w.heap.size 24 7 (.slice (some ⟨w.heap.size, 0, none⟩) 0 0) 0 []) := Lib.hid (World.ownsRow_lit w #[] 0 (Nat.le_refl _) (by unfold maxLen; omega) rfl)
    clear hx hb0
    go_enter Tryd.func55, Tryd.ntmps55
    go_wp2_with (at_builtin; refine wpList_appRowsI rfl (.tmp 5) (.tmp 6) rfl w.heap.size _ rfl HZ.out (some ad) c rows rfl HX.out (by omega) (by simp) ?_; intro v1 w1 hown1 hg1; refine pause ?_)
    have HB1 := Lib.hid (HB.out.grown hg1 (by simp) (fun k hk => by have : w.heap.size = k := Option.some.inj hk; omega))
    obtain ⟨A1, c1, rfl, _⟩ := ownsRow_form hown1 (by decide)
    have HO := Lib.hid hown1
    clear hown1 hg1
    refine resume ?_
    go_wp2_with fail
    go_ret
    exact ⟨A1, c1, rfl, HO.out, HB1.out⟩
def SomeRowB (rows : List BlR) (w : World) (e : Ending) (w' : World) : Prop := ∃ A c, e = .returned (.slice A rows.length c) ∧ w'.ownsRow w.heap.size 58 5 (.slice A rows.length c) rows.length (rows.flatMap BlR.cells5) ∧ Below w.heap.size w w'
theorem flatB_one (rows : List BlR) : ∀ u ∈ rows.flatMap BlR.cells5, u.oneCell' = true := by
  intro u hu
  obtain ⟨r, _, hr⟩ := List.mem_flatMap.1 hu
  simp only [BlR.cells5, List.mem_cons, List.not_mem_nil, or_false] at hr
  rcases hr with rfl | rfl | rfl | rfl | rfl <;> rfl
theorem wpList_appRowsB {w : World} {ops : Array Oper} {rest : List Oper} {o : Oper} {a : Act} {Q : Exit → Act → World → Prop} (hgd : o.guard = none) (s x : Operand)
    (ho : o.op = .call { callee := .builtin .append, args := #[s, x], argTypes := #[53, 53] })
    (base : Nat) (v : Value) (hs : a.eval s = v) (hown : w.ownsRow base 58 5 v 0 []) (A : Option Addr) (c : Nat) (rows : List BlR) (hx : a.eval x = .slice A rows.length c) (hys : BlksAt w A c rows)
    (hlen : rows.length ≤ 1000000) (hbase : base ≤ w.heap.size)
    (h : ∀ v' w', w'.ownsRow base 58 5 v' rows.length (rows.flatMap BlR.cells5) → w.grownBy w' v.ownBlock → wpList Tryd.prog ops Q rest (a.put o.dst v') w') : wpList Tryd.prog ops Q (o :: rest) a w := by
  obtain ⟨i0, hi, hz0, hz1, hz2⟩ := info_parts blockInfo
  refine wpList_app hgd s x 53 ho base 58 i0 _ 5 56 Tryd.underlying53 hi hz0 hz1 hz2 rfl (by decide) v 0 [] hs hown A rows.length c (rows.flatMap BlR.cells5) hx hys.hdr.nil (flatN_len BlR.cells5 5 (fun _ => rfl) rows) (cells_news BlR.cells5 5 (fun _ => rfl) (by decide) BlR.cell ?_ rows hys.cells) (flatB_one rows) ?_ ?_ hbase ?_
  · intro x j hj
    match j, hj with
    | 0, _ => rfl
    | 1, _ => rfl
    | 2, _ => rfl
    | 3, _ => rfl
    | 4, _ => rfl
  · unfold maxLen; omega
  · omega
  · intro v' w' h1 h2
    rw [Nat.zero_add, List.nil_append] at h1
    exact h v' w' h1 h2
theorem cloneB_any {w : World} {A : Option Addr} {c : Nat} {rows : List BlR} (hx : BlksAt w A c rows) (hl : rows.length ≤ 1000000) :
    Calls Tryd.prog 54 #[.slice A rows.length c] w (SomeRowB rows w) := by
  have qn : ∀ (w : World) (a : Option Addr) (n c n' c' : Nat), (binOp .eql 53 (.slice a n c) (.slice none n' c')).run Tryd.prog w = .ok (.bool a.isNone) w := fun w a n c n' c' => Lib.run_eql_slice_nil w _ _ a n c n' c' Tryd.underlying53
  cases A with
  | none =>
    obtain ⟨h0, hc⟩ := hx.hdr.nil rfl
    obtain rfl := List.eq_nil_of_length_eq_zero h0
    subst hc
    clear hx hl h0
    go_enter Tryd.func54, Tryd.ntmps54
    go_wp2_with fail
    go_ret
    exact ⟨none, 0, rfl, World.ownsRow_nil _ _ _ _, Below.refl _ _⟩
  | some ad =>
    have hb0 : Below w.heap.size w (w.alloc (.cells #[] 58)) := (Below.refl _ _).alloc (Nat.le_refl _) _
    have HX := Lib.hid (hx.on hb0)
    have HB := Lib.hid hb0
    have HZ : Hid ((w.alloc (.cells #[] 58)).ownsRow w.heap.size 58 5 (.slice (some ⟨w.heap.size, 0, none⟩) 0 0) 0 []) := Lib.hid (World.ownsRow_lit w #[] 0 (Nat.le_refl _) (by unfold maxLen; omega) rfl)
    clear hx hb0
    go_enter Tryd.func54, Tryd.ntmps54
    go_wp2_with (at_builtin; refine wpList_appRowsB rfl (.tmp 5) (.tmp 6) rfl w.heap.size _ rfl HZ.out (some ad) c rows rfl HX.out (by omega) (by simp) ?_; intro v1 w1 hown1 hg1; refine pause ?_)
    have HB1 := Lib.hid (HB.out.grown hg1 (by simp) (fun k hk => by have : w.heap.size = k := Option.some.inj hk; omega))
    obtain ⟨A1, c1, rfl, _⟩ := ownsRow_form hown1 (by decide)
    have HO := Lib.hid hown1
    clear hown1 hg1
    refine resume ?_
    go_wp2_with fail
    go_ret
    exact ⟨A1, c1, rfl, HO.out, HB1.out⟩
def SomeRowF (rows : List FuR) (w : World) (e : Ending) (w' : World) : Prop := ∃ A c, e = .returned (.slice A rows.length c) ∧ w'.ownsRow w.heap.size 55 2 (.slice A rows.length c) rows.length (rows.flatMap FuR.cells2) ∧ Below w.heap.size w w'
theorem flatF_one (rows : List FuR) : ∀ u ∈ rows.flatMap FuR.cells2, u.oneCell' = true := by
  intro u hu
  obtain ⟨r, _, hr⟩ := List.mem_flatMap.1 hu
  simp only [FuR.cells2, List.mem_cons, List.not_mem_nil, or_false] at hr
  rcases hr with rfl | rfl <;> rfl
theorem wpList_appRowsF {w : World} {ops : Array Oper} {rest : List Oper} {o : Oper} {a : Act} {Q : Exit → Act → World → Prop} (hgd : o.guard = none) (s x : Operand)
    (ho : o.op = .call { callee := .builtin .append, args := #[s, x], argTypes := #[33, 33] })
    (base : Nat) (v : Value) (hs : a.eval s = v) (hown : w.ownsRow base 55 2 v 0 []) (A : Option Addr) (c : Nat) (rows : List FuR) (hx : a.eval x = .slice A rows.length c) (hys : FusAt w A c rows)
    (hlen : rows.length ≤ 1000000) (hbase : base ≤ w.heap.size)
    (h : ∀ v' w', w'.ownsRow base 55 2 v' rows.length (rows.flatMap FuR.cells2) → w.grownBy w' v.ownBlock → wpList Tryd.prog ops Q rest (a.put o.dst v') w') : wpList Tryd.prog ops Q (o :: rest) a w := by
  obtain ⟨i0, hi, hz0, hz1, hz2⟩ := info_parts funcInfo
  refine wpList_app hgd s x 33 ho base 55 i0 _ 2 32 Tryd.underlying33 hi hz0 hz1 hz2 rfl (by decide) v 0 [] hs hown A rows.length c (rows.flatMap FuR.cells2) hx hys.hdr.nil (flatN_len FuR.cells2 2 (fun _ => rfl) rows) (cells_news FuR.cells2 2 (fun _ => rfl) (by decide) FuR.cell ?_ rows hys.cells) (flatF_one rows) ?_ ?_ hbase ?_
  · intro x j hj
    match j, hj with
    | 0, _ => rfl
    | 1, _ => rfl
  · unfold maxLen; omega
  · omega
  · intro v' w' h1 h2
    rw [Nat.zero_add, List.nil_append] at h1
    exact h v' w' h1 h2
theorem cloneF_any {w : World} {A : Option Addr} {c : Nat} {rows : List FuR} (hx : FusAt w A c rows) (hl : rows.length ≤ 1000000) :
    Calls Tryd.prog 53 #[.slice A rows.length c] w (SomeRowF rows w) := by
  have qn : ∀ (w : World) (a : Option Addr) (n c n' c' : Nat), (binOp .eql 33 (.slice a n c) (.slice none n' c')).run Tryd.prog w = .ok (.bool a.isNone) w := fun w a n c n' c' => Lib.run_eql_slice_nil w _ _ a n c n' c' Tryd.underlying33
  cases A with
  | none =>
    obtain ⟨h0, hc⟩ := hx.hdr.nil rfl
    obtain rfl := List.eq_nil_of_length_eq_zero h0
    subst hc
    clear hx hl h0
    go_enter Tryd.func53, Tryd.ntmps53
    go_wp2_with fail
    go_ret
    exact ⟨none, 0, rfl, World.ownsRow_nil _ _ _ _, Below.refl _ _⟩
  | some ad =>
    have hb0 : Below w.heap.size w (w.alloc (.cells #[] 55)) := (Below.refl _ _).alloc (Nat.le_refl _) _
    have HX := Lib.hid (hx.on hb0)
    have HB := Lib.hid hb0
    have HZ : Hid ((w.alloc (.cells #[] 55)).ownsRow w.heap.size 55 2 (.slice (some ⟨w.heap.size, 0, none⟩) 0 0) 0 []) := Lib.hid (World.ownsRow_lit w #[] 0 (Nat.le_refl _) (by unfold maxLen; omega) rfl)
    clear hx hb0
    go_enter Tryd.func53, Tryd.ntmps53
    go_wp2_with (at_builtin; refine wpList_appRowsF rfl (.tmp 5) (.tmp 6) rfl w.heap.size _ rfl HZ.out (some ad) c rows rfl HX.out (by omega) (by simp) ?_; intro v1 w1 hown1 hg1; refine pause ?_)
    have HB1 := Lib.hid (HB.out.grown hg1 (by simp) (fun k hk => by have : w.heap.size = k := Option.some.inj hk; omega))
    obtain ⟨A1, c1, rfl, _⟩ := ownsRow_form hown1 (by decide)
    have HO := Lib.hid hown1
    clear hown1 hg1
    refine resume ?_
    go_wp2_with fail
    go_ret
    exact ⟨A1, c1, rfl, HO.out, HB1.out⟩
end Go.Proofs.YtcbhmpkginebaaaDoor
