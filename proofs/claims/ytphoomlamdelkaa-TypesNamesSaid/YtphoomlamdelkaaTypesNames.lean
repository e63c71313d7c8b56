/-
  The walk of the law TypesNames.
-/
import Derived.Test.YtphoomlamdelkaaTypLaw1
namespace Go.Proofs.Ytphoomlamdelkaa
set_option linter.unusedVariables false
set_option linter.unusedSimpArgs false
open Go.ChangeShapes Go.WideShapes Go.ChangeAt Go.RowKit

/-- A row of a literal: no parts, or the one list of them that has just been laid. -/
def LitRow (g : Nat) (xs : List Int) (r : TyR) : Prop := r.kind ≤ 255 ∧ ((r.pa = none ∧ r.pc = 0 ∧ r.parts = []) ∨ (r.pa = some ⟨g, 0, none⟩ ∧ r.pc = xs.length ∧ r.parts = xs))
theorem lit_ok {w : World} {g : Nat} {xs : List Int} {r : TyR} (hi : IntsAt w 0 w.heap.size (some ⟨g, 0, none⟩) xs) (hx : xs.length ≤ 1000) (h : LitRow g xs r) : r.Ok w 0 w.heap.size ∧ r.parts.length ≤ 1000 := by
  obtain ⟨h1, h2 | h2⟩ := h
  · obtain ⟨ha, hb, hc⟩ := h2
    refine ⟨⟨h1, ?_, ?_⟩, by rw [hc]; simp⟩
    · rw [ha, hb, hc]; exact ⟨Nat.le_refl _, by unfold maxLen; omega, fun _ => ⟨rfl, rfl⟩⟩
    · rw [ha, hc]; exact CellsAt.empty
  · obtain ⟨ha, hb, hc⟩ := h2
    refine ⟨⟨h1, ?_, ?_⟩, by rw [hc]; exact hx⟩
    · rw [ha, hb, hc]; exact ⟨Nat.le_refl _, by unfold maxLen; omega, fun h => by cases h⟩
    · rw [ha, hc]; exact hi
theorem tab_lit0 (w : World) (rows : List TyR) (g : Nat) (hg : g = w.heap.size) (hr : ∀ r ∈ rows, LitRow 0 [] r) (hl : rows.length ≤ 1000) : TabFew (w.alloc (.cells (rows.flatMap TyR.cells4).toArray 31)) (some ⟨g, 0, none⟩) rows.length rows := by
  have hi : IntsAt w 0 w.heap.size (some ⟨0, 0, none⟩) [] := CellsAt.empty
  exact ⟨⟨⟨Nat.le_refl _, by unfold maxLen; omega, fun h => by cases h⟩, (typs_built w rows g hg fun r h => (lit_ok hi (by simp) (hr r h)).1).more (Nat.le_refl _) (by simp)⟩, fun r h => (lit_ok hi (by simp) (hr r h)).2⟩
theorem tab_lit1 (w : World) (xs : List Int) (rows : List TyR) (g : Nat) (hg : g = w.heap.size + 1) (hx : xs.length ≤ 1000) (hr : ∀ r ∈ rows, LitRow w.heap.size xs r) (hl : rows.length ≤ 1000) :
    TabFew ((w.alloc (.cells (xs.map (Value.int .i64)).toArray 3)).alloc (.cells (rows.flatMap TyR.cells4).toArray 31)) (some ⟨g, 0, none⟩) rows.length rows := by
  have hi := ints_built w xs w.heap.size rfl
  have hi2 : IntsAt (w.alloc (.cells (xs.map (Value.int .i64)).toArray 3)) 0 (w.alloc (.cells (xs.map (Value.int .i64)).toArray 3)).heap.size (some ⟨w.heap.size, 0, none⟩) xs := hi.more (Nat.le_refl _) (by rw [World.size_alloc]; omega)
  exact ⟨⟨⟨Nat.le_refl _, by unfold maxLen; omega, fun h => by cases h⟩, (typs_built _ rows g (by rw [World.size_alloc]; exact hg) fun r h => (lit_ok hi2 hx (hr r h)).1).more (Nat.le_refl _) (by simp)⟩, fun r h => (lit_ok hi2 hx (hr r h)).2⟩
theorem odd_any {w : World} {A : Option Addr} {c : Nat} {rows : List TyR} (h : TabFew w A c rows) (he : checkT (tbl rows) = 30) : Calls Try.prog 24 #[.slice A rows.length c] w fun e w' => e = .returned (.bool true) ∧ Below w.heap.size w w' := by
  have HC := Lib.hid (pcheck_is h he)
  clear h he
  go_enter Try.func24, Try.ntmps24
  go_wp2_with fail
  refine HC.out.mono ?_
  rintro e w1 ⟨rfl, hb1⟩
  have HB1 := Lib.hid hb1
  clear hb1
  go_wp2_with fail
  go_ret
  exact ⟨rfl, HB1.out⟩
theorem pcheck_long {w : World} {A : Option Addr} {n c : Nat} (h : 16 < n) (hn : n ≤ 1000) : Calls Try.prog 15 #[.slice A n c] w fun e w' => e = .returned (.int .i64 4) ∧ Below w.heap.size w w' := by
  go_enter Try.func15, Try.ntmps15
  go_wp2_with fail
  go_ret
  exact ⟨rfl, Below.refl _ _⟩
theorem ch_a4 : askedT chapterT 4 = 2 := by decide
theorem ch_c4 : cellsT chapterT 4 = [] := by decide
theorem ch_p00 : partT chapterT 0 0 = (0, 2) := by decide
theorem ch_p31 : partT chapterT 3 1 = (2, 0) := by decide
theorem ch_p22 : partT chapterT 2 2 = (0, 2) := by decide
theorem ch_s1 : scalarT chapterT 1 = true := by decide
theorem ch_a1 : askedT chapterT 1 = 0 := by decide
theorem ch_s2 : scalarT chapterT 2 = false := by decide
theorem ch_a2 : askedT chapterT 2 = 0 := by decide
theorem make17 : ∃ M : Array Value, ∀ w : World, (Instr.makeSlice 22 (.int .i64 17) (.int .i64 17)).run Try.prog w = .ok (.slice (some ⟨w.heap.size, 0, none⟩) 17 17) (w.alloc (.cells M 31)) := by
  obtain ⟨i0, hi, hz0, hz1, hz2⟩ := info_parts typeInfo
  exact ⟨_, fun w => run_make w 22 31 i0 _ Try.underlying22 hi hz0 .i64 .i64 17 17 (by omega) (by omega) (by rw [hz2]; decide) (by omega)⟩
theorem pcheck_nil (w : World) : Calls Try.prog 15 #[.slice none 0 0] w fun e w' => e = .returned (.int .i64 0) ∧ Below w.heap.size w w' := by
  have h : TabFew w none 0 [] := ⟨⟨⟨Nat.le_refl _, by unfold maxLen; omega, fun _ => ⟨rfl, rfl⟩⟩, ⟨CellsAt.empty, fun r hr => by cases hr⟩⟩, fun r hr => by cases hr⟩
  exact pcheck_is h (by decide)
theorem tab_o0 (w : World) : TabFew ((w.alloc (.cells #[.int .i64 0] 3)).alloc (.cells #[.int .u8 4, .int .i64 0, .int .i64 0, .slice (some ⟨w.heap.size, 0, none⟩) 1 1] 31)) (some ⟨w.heap.size + 1, 0, none⟩) 1 [⟨4, 0, 0, some ⟨w.heap.size, 0, none⟩, 1, [0]⟩] := tab_lit1 w [0] [⟨4, 0, 0, some ⟨w.heap.size, 0, none⟩, 1, [0]⟩] (w.heap.size + 1) rfl (by decide) (by intro r hr; simp only [List.mem_cons, List.not_mem_nil, or_false] at hr; rcases hr with rfl <;> first | exact ⟨Nat.le_of_ble_eq_true rfl, .inl ⟨rfl, rfl, rfl⟩⟩ | exact ⟨Nat.le_of_ble_eq_true rfl, .inr ⟨rfl, rfl, rfl⟩⟩) (Nat.le_of_ble_eq_true rfl)
theorem call_o0 (w : World) (g : Nat) (hg : w.heap.size = g) : Calls Try.prog 24 #[.slice (some ⟨g + 1, 0, none⟩) 1 1] ((w.alloc (.cells #[.int .i64 0] 3)).alloc (.cells #[.int .u8 4, .int .i64 0, .int .i64 0, .slice (some ⟨g, 0, none⟩) 1 1] 31)) fun e w' => e = .returned (.bool true) ∧ Below w.heap.size w w' := by
  subst hg
  exact (odd_any (tab_o0 w) (by show checkT [⟨4, 0, 0, [0]⟩] = 30; decide)).mono fun _ _ ⟨he, hb⟩ => ⟨he, below_new2 hb⟩
theorem tab_o1 (w : World) : TabFew (w.alloc (.cells #[.int .u8 5, .int .i64 1, .int .i64 1, .slice none 0 0, .int .u8 1, .int .i64 0, .int .i64 0, .slice none 0 0] 31)) (some ⟨w.heap.size, 0, none⟩) 2 [⟨5, 1, 1, none, 0, []⟩, ⟨1, 0, 0, none, 0, []⟩] := tab_lit0 w [⟨5, 1, 1, none, 0, []⟩, ⟨1, 0, 0, none, 0, []⟩] w.heap.size rfl (by intro r hr; simp only [List.mem_cons, List.not_mem_nil, or_false] at hr; rcases hr with rfl | rfl <;> exact ⟨Nat.le_of_ble_eq_true rfl, .inl ⟨rfl, rfl, rfl⟩⟩) (Nat.le_of_ble_eq_true rfl)
theorem call_o1 (w : World) (g : Nat) (hg : w.heap.size = g) : Calls Try.prog 24 #[.slice (some ⟨g, 0, none⟩) 2 2] (w.alloc (.cells #[.int .u8 5, .int .i64 1, .int .i64 1, .slice none 0 0, .int .u8 1, .int .i64 0, .int .i64 0, .slice none 0 0] 31)) fun e w' => e = .returned (.bool true) ∧ Below w.heap.size w w' := by
  subst hg
  exact (odd_any (tab_o1 w) (by show checkT [⟨5, 1, 1, []⟩, ⟨1, 0, 0, []⟩] = 30; decide)).mono fun _ _ ⟨he, hb⟩ => ⟨he, below_new hb⟩
theorem tab_o2 (w : World) : TabFew (w.alloc (.cells #[.int .u8 2, .int .i64 1, .int .i64 0, .slice none 0 0] 31)) (some ⟨w.heap.size, 0, none⟩) 1 [⟨2, 1, 0, none, 0, []⟩] := tab_lit0 w [⟨2, 1, 0, none, 0, []⟩] w.heap.size rfl (by intro r hr; simp only [List.mem_cons, List.not_mem_nil, or_false] at hr; rcases hr with rfl <;> exact ⟨Nat.le_of_ble_eq_true rfl, .inl ⟨rfl, rfl, rfl⟩⟩) (Nat.le_of_ble_eq_true rfl)
theorem call_o2 (w : World) (g : Nat) (hg : w.heap.size = g) : Calls Try.prog 24 #[.slice (some ⟨g, 0, none⟩) 1 1] (w.alloc (.cells #[.int .u8 2, .int .i64 1, .int .i64 0, .slice none 0 0] 31)) fun e w' => e = .returned (.bool true) ∧ Below w.heap.size w w' := by
  subst hg
  exact (odd_any (tab_o2 w) (by show checkT [⟨2, 1, 0, []⟩] = 30; decide)).mono fun _ _ ⟨he, hb⟩ => ⟨he, below_new hb⟩
theorem tab_o3 (w : World) : TabFew (w.alloc (.cells #[.int .u8 0, .int .i64 0, .int .i64 0, .slice none 0 0] 31)) (some ⟨w.heap.size, 0, none⟩) 1 [⟨0, 0, 0, none, 0, []⟩] := tab_lit0 w [⟨0, 0, 0, none, 0, []⟩] w.heap.size rfl (by intro r hr; simp only [List.mem_cons, List.not_mem_nil, or_false] at hr; rcases hr with rfl <;> exact ⟨Nat.le_of_ble_eq_true rfl, .inl ⟨rfl, rfl, rfl⟩⟩) (Nat.le_of_ble_eq_true rfl)
theorem call_o3 (w : World) (g : Nat) (hg : w.heap.size = g) : Calls Try.prog 24 #[.slice (some ⟨g, 0, none⟩) 1 1] (w.alloc (.cells #[.int .u8 0, .int .i64 0, .int .i64 0, .slice none 0 0] 31)) fun e w' => e = .returned (.bool true) ∧ Below w.heap.size w w' := by
  subst hg
  exact (odd_any (tab_o3 w) (by show checkT [⟨0, 0, 0, []⟩] = 30; decide)).mono fun _ _ ⟨he, hb⟩ => ⟨he, below_new hb⟩
theorem tab_o4 (w : World) : TabFew (w.alloc (.cells #[.int .u8 1, .int .i64 0, .int .i64 0, .slice none 0 0, .int .u8 4, .int .i64 0, .int .i64 0, .slice none 0 0] 31)) (some ⟨w.heap.size, 0, none⟩) 2 [⟨1, 0, 0, none, 0, []⟩, ⟨4, 0, 0, none, 0, []⟩] := tab_lit0 w [⟨1, 0, 0, none, 0, []⟩, ⟨4, 0, 0, none, 0, []⟩] w.heap.size rfl (by intro r hr; simp only [List.mem_cons, List.not_mem_nil, or_false] at hr; rcases hr with rfl | rfl <;> exact ⟨Nat.le_of_ble_eq_true rfl, .inl ⟨rfl, rfl, rfl⟩⟩) (Nat.le_of_ble_eq_true rfl)
theorem call_o4 (w : World) (g : Nat) (hg : w.heap.size = g) : Calls Try.prog 24 #[.slice (some ⟨g, 0, none⟩) 2 2] (w.alloc (.cells #[.int .u8 1, .int .i64 0, .int .i64 0, .slice none 0 0, .int .u8 4, .int .i64 0, .int .i64 0, .slice none 0 0] 31)) fun e w' => e = .returned (.bool true) ∧ Below w.heap.size w w' := by
  subst hg
  exact (odd_any (tab_o4 w) (by show checkT [⟨1, 0, 0, []⟩, ⟨4, 0, 0, []⟩] = 30; decide)).mono fun _ _ ⟨he, hb⟩ => ⟨he, below_new hb⟩
theorem tab_o5 (w : World) : TabFew (w.alloc (.cells #[.int .u8 1, .int .i64 0, .int .i64 0, .slice none 0 0, .int .u8 5, .int .i64 0, .int .i64 0, .slice none 0 0] 31)) (some ⟨w.heap.size, 0, none⟩) 2 [⟨1, 0, 0, none, 0, []⟩, ⟨5, 0, 0, none, 0, []⟩] := tab_lit0 w [⟨1, 0, 0, none, 0, []⟩, ⟨5, 0, 0, none, 0, []⟩] w.heap.size rfl (by intro r hr; simp only [List.mem_cons, List.not_mem_nil, or_false] at hr; rcases hr with rfl | rfl <;> exact ⟨Nat.le_of_ble_eq_true rfl, .inl ⟨rfl, rfl, rfl⟩⟩) (Nat.le_of_ble_eq_true rfl)
theorem call_o5 (w : World) (g : Nat) (hg : w.heap.size = g) : Calls Try.prog 24 #[.slice (some ⟨g, 0, none⟩) 2 2] (w.alloc (.cells #[.int .u8 1, .int .i64 0, .int .i64 0, .slice none 0 0, .int .u8 5, .int .i64 0, .int .i64 0, .slice none 0 0] 31)) fun e w' => e = .returned (.bool true) ∧ Below w.heap.size w w' := by
  subst hg
  exact (odd_any (tab_o5 w) (by show checkT [⟨1, 0, 0, []⟩, ⟨5, 0, 0, []⟩] = 30; decide)).mono fun _ _ ⟨he, hb⟩ => ⟨he, below_new hb⟩
theorem tab_o6 (w : World) : TabFew (w.alloc (.cells #[.int .u8 1, .int .i64 0, .int .i64 0, .slice none 0 0, .int .u8 5, .int .i64 0, .int .i64 17, .slice none 0 0] 31)) (some ⟨w.heap.size, 0, none⟩) 2 [⟨1, 0, 0, none, 0, []⟩, ⟨5, 0, 17, none, 0, []⟩] := tab_lit0 w [⟨1, 0, 0, none, 0, []⟩, ⟨5, 0, 17, none, 0, []⟩] w.heap.size rfl (by intro r hr; simp only [List.mem_cons, List.not_mem_nil, or_false] at hr; rcases hr with rfl | rfl <;> exact ⟨Nat.le_of_ble_eq_true rfl, .inl ⟨rfl, rfl, rfl⟩⟩) (Nat.le_of_ble_eq_true rfl)
theorem call_o6 (w : World) (g : Nat) (hg : w.heap.size = g) : Calls Try.prog 24 #[.slice (some ⟨g, 0, none⟩) 2 2] (w.alloc (.cells #[.int .u8 1, .int .i64 0, .int .i64 0, .slice none 0 0, .int .u8 5, .int .i64 0, .int .i64 17, .slice none 0 0] 31)) fun e w' => e = .returned (.bool true) ∧ Below w.heap.size w w' := by
  subst hg
  exact (odd_any (tab_o6 w) (by show checkT [⟨1, 0, 0, []⟩, ⟨5, 0, 17, []⟩] = 30; decide)).mono fun _ _ ⟨he, hb⟩ => ⟨he, below_new hb⟩
theorem tab_o7 (w : World) : TabFew ((w.alloc (.cells #[.int .i64 0] 3)).alloc (.cells #[.int .u8 1, .int .i64 0, .int .i64 0, .slice none 0 0, .int .u8 4, .int .i64 0, .int .i64 0, .slice (some ⟨w.heap.size, 0, none⟩) 1 1, .int .u8 3, .int .i64 1, .int .i64 0, .slice none 0 0] 31)) (some ⟨w.heap.size + 1, 0, none⟩) 3 [⟨1, 0, 0, none, 0, []⟩, ⟨4, 0, 0, some ⟨w.heap.size, 0, none⟩, 1, [0]⟩, ⟨3, 1, 0, none, 0, []⟩] := tab_lit1 w [0] [⟨1, 0, 0, none, 0, []⟩, ⟨4, 0, 0, some ⟨w.heap.size, 0, none⟩, 1, [0]⟩, ⟨3, 1, 0, none, 0, []⟩] (w.heap.size + 1) rfl (by decide) (by intro r hr; simp only [List.mem_cons, List.not_mem_nil, or_false] at hr; rcases hr with rfl | rfl | rfl <;> first | exact ⟨Nat.le_of_ble_eq_true rfl, .inl ⟨rfl, rfl, rfl⟩⟩ | exact ⟨Nat.le_of_ble_eq_true rfl, .inr ⟨rfl, rfl, rfl⟩⟩) (Nat.le_of_ble_eq_true rfl)
theorem call_o7 (w : World) (g : Nat) (hg : w.heap.size = g) : Calls Try.prog 24 #[.slice (some ⟨g + 1, 0, none⟩) 3 3] ((w.alloc (.cells #[.int .i64 0] 3)).alloc (.cells #[.int .u8 1, .int .i64 0, .int .i64 0, .slice none 0 0, .int .u8 4, .int .i64 0, .int .i64 0, .slice (some ⟨g, 0, none⟩) 1 1, .int .u8 3, .int .i64 1, .int .i64 0, .slice none 0 0] 31)) fun e w' => e = .returned (.bool true) ∧ Below w.heap.size w w' := by
  subst hg
  exact (odd_any (tab_o7 w) (by show checkT [⟨1, 0, 0, []⟩, ⟨4, 0, 0, [0]⟩, ⟨3, 1, 0, []⟩] = 30; decide)).mono fun _ _ ⟨he, hb⟩ => ⟨he, below_new2 hb⟩
theorem tab_o8 (w : World) : TabFew (w.alloc (.cells #[.int .u8 1, .int .i64 0, .int .i64 1, .slice none 0 0] 31)) (some ⟨w.heap.size, 0, none⟩) 1 [⟨1, 0, 1, none, 0, []⟩] := tab_lit0 w [⟨1, 0, 1, none, 0, []⟩] w.heap.size rfl (by intro r hr; simp only [List.mem_cons, List.not_mem_nil, or_false] at hr; rcases hr with rfl <;> exact ⟨Nat.le_of_ble_eq_true rfl, .inl ⟨rfl, rfl, rfl⟩⟩) (Nat.le_of_ble_eq_true rfl)
theorem call_o8 (w : World) (g : Nat) (hg : w.heap.size = g) : Calls Try.prog 24 #[.slice (some ⟨g, 0, none⟩) 1 1] (w.alloc (.cells #[.int .u8 1, .int .i64 0, .int .i64 1, .slice none 0 0] 31)) fun e w' => e = .returned (.bool true) ∧ Below w.heap.size w w' := by
  subst hg
  exact (odd_any (tab_o8 w) (by show checkT [⟨1, 0, 1, []⟩] = 30; decide)).mono fun _ _ ⟨he, hb⟩ => ⟨he, below_new hb⟩
theorem tab_o9 (w : World) : TabFew (w.alloc (.cells #[.int .u8 1, .int .i64 0, .int .i64 0, .slice none 0 0, .int .u8 5, .int .i64 0, .int .i64 16, .slice none 0 0, .int .u8 5, .int .i64 1, .int .i64 3, .slice none 0 0] 31)) (some ⟨w.heap.size, 0, none⟩) 3 [⟨1, 0, 0, none, 0, []⟩, ⟨5, 0, 16, none, 0, []⟩, ⟨5, 1, 3, none, 0, []⟩] := tab_lit0 w [⟨1, 0, 0, none, 0, []⟩, ⟨5, 0, 16, none, 0, []⟩, ⟨5, 1, 3, none, 0, []⟩] w.heap.size rfl (by intro r hr; simp only [List.mem_cons, List.not_mem_nil, or_false] at hr; rcases hr with rfl | rfl | rfl <;> exact ⟨Nat.le_of_ble_eq_true rfl, .inl ⟨rfl, rfl, rfl⟩⟩) (Nat.le_of_ble_eq_true rfl)
theorem call_o9 (w : World) (g : Nat) (hg : w.heap.size = g) : Calls Try.prog 24 #[.slice (some ⟨g, 0, none⟩) 3 3] (w.alloc (.cells #[.int .u8 1, .int .i64 0, .int .i64 0, .slice none 0 0, .int .u8 5, .int .i64 0, .int .i64 16, .slice none 0 0, .int .u8 5, .int .i64 1, .int .i64 3, .slice none 0 0] 31)) fun e w' => e = .returned (.bool true) ∧ Below w.heap.size w w' := by
  subst hg
  exact (odd_any (tab_o9 w) (by show checkT [⟨1, 0, 0, []⟩, ⟨5, 0, 16, []⟩, ⟨5, 1, 3, []⟩] = 30; decide)).mono fun _ _ ⟨he, hb⟩ => ⟨he, below_new hb⟩
theorem tab_good (w : World) : TabFew ((w.alloc (.cells #[.int .i64 0, .int .i64 3] 3)).alloc (.cells #[.int .u8 1, .int .i64 0, .int .i64 0, .slice none 0 0, .int .u8 5, .int .i64 0, .int .i64 16, .slice none 0 0, .int .u8 5, .int .i64 1, .int .i64 2, .slice none 0 0, .int .u8 3, .int .i64 3, .int .i64 0, .slice (some ⟨w.heap.size, 0, none⟩) 2 2] 31)) (some ⟨w.heap.size + 1, 0, none⟩) 4 [⟨1, 0, 0, none, 0, []⟩, ⟨5, 0, 16, none, 0, []⟩, ⟨5, 1, 2, none, 0, []⟩, ⟨3, 3, 0, some ⟨w.heap.size, 0, none⟩, 2, [0, 3]⟩] := tab_lit1 w [0, 3] [⟨1, 0, 0, none, 0, []⟩, ⟨5, 0, 16, none, 0, []⟩, ⟨5, 1, 2, none, 0, []⟩, ⟨3, 3, 0, some ⟨w.heap.size, 0, none⟩, 2, [0, 3]⟩] (w.heap.size + 1) rfl (by decide) (by intro r hr; simp only [List.mem_cons, List.not_mem_nil, or_false] at hr; rcases hr with rfl | rfl | rfl | rfl <;> first | exact ⟨Nat.le_of_ble_eq_true rfl, .inl ⟨rfl, rfl, rfl⟩⟩ | exact ⟨Nat.le_of_ble_eq_true rfl, .inr ⟨rfl, rfl, rfl⟩⟩) (Nat.le_of_ble_eq_true rfl)
theorem call_good (w : World) (g : Nat) (hg : w.heap.size = g) : Calls Try.prog 15 #[.slice (some ⟨g + 1, 0, none⟩) 4 4] ((w.alloc (.cells #[.int .i64 0, .int .i64 3] 3)).alloc (.cells #[.int .u8 1, .int .i64 0, .int .i64 0, .slice none 0 0, .int .u8 5, .int .i64 0, .int .i64 16, .slice none 0 0, .int .u8 5, .int .i64 1, .int .i64 2, .slice none 0 0, .int .u8 3, .int .i64 3, .int .i64 0, .slice (some ⟨g, 0, none⟩) 2 2] 31)) fun e w' => e = .returned (.int .i64 0) ∧ Below w.heap.size w w' := by
  subst hg
  exact (pcheck_is (tab_good w) (by show checkT [⟨1, 0, 0, []⟩, ⟨5, 0, 16, []⟩, ⟨5, 1, 2, []⟩, ⟨3, 3, 0, [0, 3]⟩] = 0; decide)).mono fun _ _ ⟨he, hb⟩ => ⟨he, below_new2 hb⟩

set_option maxRecDepth 100000 in
set_option maxHeartbeats 1600000 in
theorem walk_TypesNames {w : World} : Calls Try.prog 5 #[] w fun e w' => e = .returned (.bool true) ∧ Below w.heap.size w w' := by
  have hb0 : Below w.heap.size w (w.alloc (.cells #[.int .u8 1, .int .i64 0, .int .i64 0, .slice none 0 0] 31)) := (Below.refl _ _).alloc (Nat.le_refl _) _
  have KN := Lib.hid (Blk.new w 31 #[.int .u8 1, .int .i64 0, .int .i64 0, .slice none 0 0])
  have HB0 := Lib.hid hb0
  clear hb0
  go_enter Try.func5, Try.ntmps5
  go_wp2_with fail
  refine (call_o0 _ (w.heap.size + 1) (by rw [World.size_alloc])).mono ?_
  rintro e w1 ⟨rfl, hb⟩
  have K1 := KN.out.beneath hb
  have HB1 := Lib.hid (HB0.out.trans (hb.mono HB0.out.size))
  have r0 := K1.cells 0
  have r1 := K1.cells 1
  have r2 := K1.cells 2
  have r3 := K1.cells 3
  have zz := K1.lt
  replace KN := Lib.hid K1
  clear hb K1
  go_wp2_with fail
  clear r0 r1 r2 r3 zz
  refine (call_o1 _ _ rfl).mono ?_
  rintro e w2 ⟨rfl, hb⟩
  have K2 := KN.out.beneath hb
  have HB2 := Lib.hid (HB1.out.trans (hb.mono HB1.out.size))
  have r0 := K2.cells 0
  have r1 := K2.cells 1
  have r2 := K2.cells 2
  have r3 := K2.cells 3
  have zz := K2.lt
  replace KN := Lib.hid K2
  clear hb K2
  go_wp2_with fail
  clear r0 r1 r2 r3 zz
  refine (call_o2 _ _ rfl).mono ?_
  rintro e w3 ⟨rfl, hb⟩
  have K3 := KN.out.beneath hb
  have HB3 := Lib.hid (HB2.out.trans (hb.mono HB2.out.size))
  have r0 := K3.cells 0
  have r1 := K3.cells 1
  have r2 := K3.cells 2
  have r3 := K3.cells 3
  have zz := K3.lt
  replace KN := Lib.hid K3
  clear hb K3
  go_wp2_with fail
  clear r0 r1 r2 r3 zz
  refine (call_o3 _ _ rfl).mono ?_
  rintro e w4 ⟨rfl, hb⟩
  have K4 := KN.out.beneath hb
  have HB4 := Lib.hid (HB3.out.trans (hb.mono HB3.out.size))
  have r0 := K4.cells 0
  have r1 := K4.cells 1
  have r2 := K4.cells 2
  have r3 := K4.cells 3
  have zz := K4.lt
  replace KN := Lib.hid K4
  clear hb K4
  go_wp2_with fail
  clear r0 r1 r2 r3 zz
  refine (call_o4 _ _ rfl).mono ?_
  rintro e w5 ⟨rfl, hb⟩
  have K5 := KN.out.beneath hb
  have HB5 := Lib.hid (HB4.out.trans (hb.mono HB4.out.size))
  have r0 := K5.cells 0
  have r1 := K5.cells 1
  have r2 := K5.cells 2
  have r3 := K5.cells 3
  have zz := K5.lt
  replace KN := Lib.hid K5
  clear hb K5
  go_wp2_with fail
  clear r0 r1 r2 r3 zz
  refine (call_o5 _ _ rfl).mono ?_
  rintro e w6 ⟨rfl, hb⟩
  have K6 := KN.out.beneath hb
  have HB6 := Lib.hid (HB5.out.trans (hb.mono HB5.out.size))
  have r0 := K6.cells 0
  have r1 := K6.cells 1
  have r2 := K6.cells 2
  have r3 := K6.cells 3
  have zz := K6.lt
  replace KN := Lib.hid K6
  clear hb K6
  go_wp2_with fail
  clear r0 r1 r2 r3 zz
  refine (call_o6 _ _ rfl).mono ?_
  rintro e w7 ⟨rfl, hb⟩
  have K7 := KN.out.beneath hb
  have HB7 := Lib.hid (HB6.out.trans (hb.mono HB6.out.size))
  have r0 := K7.cells 0
  have r1 := K7.cells 1
  have r2 := K7.cells 2
  have r3 := K7.cells 3
  have zz := K7.lt
  replace KN := Lib.hid K7
  clear hb K7
  go_wp2_with fail
  clear r0 r1 r2 r3 zz
  refine (call_o7 _ _ rfl).mono ?_
  rintro e w8 ⟨rfl, hb⟩
  have K8 := KN.out.beneath hb
  have HB8 := Lib.hid (HB7.out.trans (hb.mono HB7.out.size))
  have r0 := K8.cells 0
  have r1 := K8.cells 1
  have r2 := K8.cells 2
  have r3 := K8.cells 3
  have zz := K8.lt
  replace KN := Lib.hid K8
  clear hb K8
  go_wp2_with fail
  clear r0 r1 r2 r3 zz
  refine (call_o8 _ _ rfl).mono ?_
  rintro e w9 ⟨rfl, hb⟩
  have K9 := KN.out.beneath hb
  have HB9 := Lib.hid (HB8.out.trans (hb.mono HB8.out.size))
  have r0 := K9.cells 0
  have r1 := K9.cells 1
  have r2 := K9.cells 2
  have r3 := K9.cells 3
  have zz := K9.lt
  replace KN := Lib.hid K9
  clear hb K9
  go_wp2_with fail
  clear r0 r1 r2 r3 zz
  refine (call_o9 _ _ rfl).mono ?_
  rintro e w10 ⟨rfl, hb⟩
  have K10 := KN.out.beneath hb
  have HB10 := Lib.hid (HB9.out.trans (hb.mono HB9.out.size))
  have r0 := K10.cells 0
  have r1 := K10.cells 1
  have r2 := K10.cells 2
  have r3 := K10.cells 3
  have zz := K10.lt
  replace KN := Lib.hid K10
  clear hb K10
  go_wp2_with fail
  clear r0 r1 r2 r3 zz
  refine (call_good _ _ rfl).mono ?_
  rintro e w11 ⟨rfl, hb⟩
  have HB11 := Lib.hid (HB10.out.trans (hb.mono HB10.out.size))
  clear hb KN
  go_wp2_with fail
  refine (chapter_any _).mono ?_
  rintro e w12 ⟨A12, c12, rows12, rfl, htab, ht, hb⟩
  have HB12 := Lib.hid (HB11.out.trans (hb.mono HB11.out.size))
  have hc := pcellsF_any htab 4
  rw [ht, ch_a4, ch_c4] at hc
  try dsimp only at hc
  have HC := Lib.hid hc
  clear htab ht hb hc
  go_wp2_with fail
  refine HC.out.mono ?_
  rintro e w13 ⟨v, rfl, hown, hb⟩
  clear hown
  have HB13 := Lib.hid (HB12.out.trans (hb.mono HB12.out.size))
  clear hb HC
  go_wp2_with fail
  refine (chapter_any _).mono ?_
  rintro e w14 ⟨A14, c14, rows14, rfl, htab, ht, hb⟩
  have HB14 := Lib.hid (HB13.out.trans (hb.mono HB13.out.size))
  have hc := ppart_any htab 0 0
  rw [ht, ch_p00] at hc
  try dsimp only at hc
  have HC := Lib.hid hc
  clear htab ht hb hc
  go_wp2_with fail
  refine HC.out.mono ?_
  rintro e w15 ⟨rfl, hb⟩
  have HB15 := Lib.hid (HB14.out.trans (hb.mono HB14.out.size))
  clear hb HC
  go_wp2_with fail
  refine (chapter_any _).mono ?_
  rintro e w16 ⟨A16, c16, rows16, rfl, htab, ht, hb⟩
  have HB16 := Lib.hid (HB15.out.trans (hb.mono HB15.out.size))
  have hc := ppart_any htab 3 1
  rw [ht, ch_p31] at hc
  try dsimp only at hc
  have HC := Lib.hid hc
  clear htab ht hb hc
  go_wp2_with fail
  refine HC.out.mono ?_
  rintro e w17 ⟨rfl, hb⟩
  have HB17 := Lib.hid (HB16.out.trans (hb.mono HB16.out.size))
  clear hb HC
  go_wp2_with fail
  refine (chapter_any _).mono ?_
  rintro e w18 ⟨A18, c18, rows18, rfl, htab, ht, hb⟩
  have HB18 := Lib.hid (HB17.out.trans (hb.mono HB17.out.size))
  have hc := ppart_any htab 2 2
  rw [ht, ch_p22] at hc
  try dsimp only at hc
  have HC := Lib.hid hc
  clear htab ht hb hc
  go_wp2_with fail
  refine HC.out.mono ?_
  rintro e w19 ⟨rfl, hb⟩
  have HB19 := Lib.hid (HB18.out.trans (hb.mono HB18.out.size))
  clear hb HC
  go_wp2_with fail
  refine (chapter_any _).mono ?_
  rintro e w20 ⟨A20, c20, rows20, rfl, htab, ht, hb⟩
  have HB20 := Lib.hid (HB19.out.trans (hb.mono HB19.out.size))
  have hc := pscalarF_any htab 1
  rw [ht, ch_s1, ch_a1] at hc
  try dsimp only at hc
  have HC := Lib.hid hc
  clear htab ht hb hc
  go_wp2_with fail
  refine HC.out.mono ?_
  rintro e w21 ⟨rfl, hb⟩
  have HB21 := Lib.hid (HB20.out.trans (hb.mono HB20.out.size))
  clear hb HC
  go_wp2_with fail
  refine (chapter_any _).mono ?_
  rintro e w22 ⟨A22, c22, rows22, rfl, htab, ht, hb⟩
  have HB22 := Lib.hid (HB21.out.trans (hb.mono HB21.out.size))
  have hc := pscalarF_any htab 2
  rw [ht, ch_s2, ch_a2] at hc
  try dsimp only at hc
  have HC := Lib.hid hc
  clear htab ht hb hc
  go_wp2_with fail
  refine HC.out.mono ?_
  rintro e w23 ⟨rfl, hb⟩
  have HB23 := Lib.hid (HB22.out.trans (hb.mono HB22.out.size))
  clear hb HC
  go_wp2_with fail
  refine (alive_any _).mono ?_
  rintro e w24 ⟨rfl, hb⟩
  have HB24 := Lib.hid (HB23.out.trans (hb.mono HB23.out.size))
  clear hb
  obtain ⟨M, hmk⟩ := make17
  go_wp2_with fail
  refine (pcheck_long (by omega) (by omega)).mono ?_
  rintro e w25 ⟨rfl, hb⟩
  have HB25 := Lib.hid (HB24.out.trans ((below_new hb).mono HB24.out.size))
  clear hb hmk
  go_wp2_with fail
  refine (pcheck_nil _).mono ?_
  rintro e w26 ⟨rfl, hb⟩
  have HB26 := Lib.hid (HB25.out.trans (hb.mono HB25.out.size))
  clear hb
  go_wp2_with fail
  go_ret
  exact ⟨rfl, HB26.out⟩
end Go.Proofs.Ytphoomlamdelkaa
