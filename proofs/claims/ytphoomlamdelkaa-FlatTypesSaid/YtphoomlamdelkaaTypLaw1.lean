/-
  The laws' own words for types: chapter, alive.
-/
import Derived.Test.YtphoomlamdelkaaTypProg6
namespace Go.Proofs.Ytphoomlamdelkaa
set_option linter.unusedVariables false
set_option linter.unusedSimpArgs false
open Go.ChangeShapes Go.WideShapes Go.ChangeAt Go.RowKit

theorem typs_built (w0 : World) (rows : List TyR) (g : Nat) (hg : g = w0.heap.size) (hok : ∀ r ∈ rows, r.Ok w0 0 w0.heap.size) :
    TypsAt (w0.alloc (.cells (rows.flatMap TyR.cells4).toArray 31)) 0 (w0.heap.size + 1) (some ⟨g, 0, none⟩) rows := by
  subst hg
  have hb : Below w0.heap.size w0 (w0.alloc (.cells (rows.flatMap TyR.cells4).toArray 31)) := (Below.refl _ _).alloc (Nat.le_refl _) _
  have hlen : (rows.flatMap TyR.cells4).length = rows.length * 4 := by
    induction rows with
    | nil => rfl
    | cons r rows ih => rw [List.flatMap_cons, List.length_append, ih (fun q hq => hok q (by simp [hq])) ((Below.refl _ _).alloc (Nat.le_refl _) _), List.length_cons]; show 4 + _ = _; omega
  refine ⟨fun hn => ⟨_, 0, rfl, Nat.zero_le _, by omega, fun i hi j hj => ?_⟩, fun r hr => ((hok r hr).keep hb).more (Nat.le_refl _) (by omega)⟩
  rw [(Blk.new w0 31 (rows.flatMap TyR.cells4).toArray).cells, List.getElem?_toArray, Nat.zero_add]
  have h1 := flat_getD TyR.cells4 4 (fun _ => rfl) default rows i j hi hj
  rw [List.getD_eq_getElem?_getD] at h1
  have h2 : i * 4 + j < (rows.flatMap TyR.cells4).length := by rw [hlen]; omega
  rw [List.getElem?_eq_getElem h2] at h1 ⊢
  rw [show (rows.flatMap TyR.cells4)[i * 4 + j] = (some (rows.flatMap TyR.cells4)[i * 4 + j]).getD undef from rfl, h1]
  match j, hj with
  | 0, _ => rfl
  | 1, _ => rfl
  | 2, _ => rfl
  | 3, _ => rfl
/-- A table, somewhere. -/
def SomeTab (t : List Ty) (w : World) (e : Ending) (w' : World) : Prop := ∃ A c rows, e = .returned (.slice A rows.length c) ∧ TabFew w' A c rows ∧ tbl rows = t ∧ Below w.heap.size w w'
def chapterT : List Ty := [⟨1, 0, 0, []⟩, ⟨2, 2, 0, []⟩, ⟨4, 0, 0, [0, 1]⟩, ⟨5, 2, 2, []⟩]
theorem chapter_any (w : World) : Calls Try.prog 25 #[] w (SomeTab chapterT w) := by
  go_enter Try.func25, Try.ntmps25
  go_wp2_with fail
  go_ret
  have hi : IntsAt (w.alloc (.cells #[.int .i64 0, .int .i64 1] 3)) 0 (w.heap.size + 1) (some ⟨w.heap.size, 0, none⟩) [0, 1] := fun _ =>
    ⟨_, 0, rfl, Nat.zero_le _, by omega, fun i hi j hj => by
      have hj0 : j = 0 := by omega
      subst hj0
      rw [(Blk.new w 3 #[.int .i64 0, .int .i64 1]).cells]
      match i, hi with
      | 0, _ => rfl
      | 1, _ => rfl⟩
  have he : ∀ B, IntsAt (w.alloc (.cells #[.int .i64 0, .int .i64 1] 3)) 0 B none [] := fun B => CellsAt.empty
  refine ⟨some ⟨w.heap.size + 1, 0, none⟩, 4, [⟨1, 0, 0, none, 0, []⟩, ⟨2, 2, 0, none, 0, []⟩, ⟨4, 0, 0, some ⟨w.heap.size, 0, none⟩, 2, [0, 1]⟩, ⟨5, 2, 2, none, 0, []⟩], rfl, ⟨⟨⟨Nat.le_of_ble_eq_true rfl, by unfold maxLen; omega, fun h => by cases h⟩, ?_⟩, ?_⟩, rfl, ((Below.refl _ _).alloc (Nat.le_refl _) _).alloc (by simp) _⟩
  · refine (typs_built (w.alloc (.cells #[.int .i64 0, .int .i64 1] 3)) [⟨1, 0, 0, none, 0, []⟩, ⟨2, 2, 0, none, 0, []⟩, ⟨4, 0, 0, some ⟨w.heap.size, 0, none⟩, 2, [0, 1]⟩, ⟨5, 2, 2, none, 0, []⟩] (w.heap.size + 1) (by rw [World.size_alloc]) ?_).more (Nat.le_refl _) (by simp)
    intro r hr
    simp only [List.mem_cons, List.not_mem_nil, or_false] at hr
    rcases hr with rfl | rfl | rfl | rfl
    · exact ⟨Nat.le_of_ble_eq_true rfl, ⟨Nat.le_refl _, by show _ ≤ 9223372036854775807; exact Nat.le_of_ble_eq_true rfl, fun _ => ⟨rfl, rfl⟩⟩, he _⟩
    · exact ⟨Nat.le_of_ble_eq_true rfl, ⟨Nat.le_refl _, by show _ ≤ 9223372036854775807; exact Nat.le_of_ble_eq_true rfl, fun _ => ⟨rfl, rfl⟩⟩, he _⟩
    · exact ⟨Nat.le_of_ble_eq_true rfl, ⟨Nat.le_refl _, by show _ ≤ 9223372036854775807; exact Nat.le_of_ble_eq_true rfl, fun h => by cases h⟩, hi.more (Nat.le_refl _) (by rw [World.size_alloc]; omega)⟩
    · exact ⟨Nat.le_of_ble_eq_true rfl, ⟨Nat.le_refl _, by show _ ≤ 9223372036854775807; exact Nat.le_of_ble_eq_true rfl, fun _ => ⟨rfl, rfl⟩⟩, he _⟩
  · intro r hr
    simp only [List.mem_cons, List.not_mem_nil, or_false] at hr
    rcases hr with rfl | rfl | rfl | rfl <;> exact Nat.le_of_ble_eq_true rfl

theorem ch_check : checkT chapterT = 0 := by decide
theorem ch_asked3 : askedT chapterT 3 = 0 := by decide
theorem ch_cells : cellsT chapterT 3 = [0, 1, 0, 1] := by decide
theorem ch_off : offsetT chapterT 3 1 = (2, 0) := by decide

theorem ints_built (w0 : World) (xs : List Int) (g : Nat) (hg : g = w0.heap.size) : IntsAt (w0.alloc (.cells (xs.map (Value.int .i64)).toArray 3)) 0 (w0.heap.size + 1) (some ⟨g, 0, none⟩) xs := by
  subst hg
  intro hn
  refine ⟨_, 0, rfl, Nat.zero_le _, by omega, fun i hi j hj => ?_⟩
  have hj0 : j = 0 := by omega
  subst hj0
  rw [(Blk.new w0 3 (xs.map (Value.int .i64)).toArray).cells, List.getElem?_toArray, List.getElem?_map, Nat.zero_add, Nat.mul_one, Nat.add_zero, List.getElem?_eq_getElem hi]
  exact congrArg (fun z => some (Value.int .i64 z)) (getD_lt xs hi).symm
theorem alive_any (w : World) : Calls Try.prog 19 #[] w fun e w' => e = .returned (.bool true) ∧ Below w.heap.size w w' := by
  go_enter Try.func19, Try.ntmps19
  go_wp2_with fail
  refine (chapter_any _).mono ?_
  rintro e w1 ⟨A1, c1, rows1, rfl, htab1, ht1, hb1⟩
  have HT1 := Lib.hid htab1
  have HB1 := Lib.hid hb1
  have hc := pcellsF_any htab1 3
  rw [ht1, ch_asked3, ch_cells] at hc
  have HC := Lib.hid hc
  clear htab1 hb1 hc ht1
  go_wp2_with fail
  refine HC.out.mono ?_
  rintro e w2 ⟨v2, rfl, hown2, hb2⟩
  have HO2 := Lib.hid hown2
  have HB2 := Lib.hid (HB1.out.trans (hb2.mono HB1.out.size))
  clear hown2 hb2
  go_wp2_with fail
  refine (chapter_any _).mono ?_
  rintro e w3 ⟨A3, c3, rows3, rfl, htab3, ht3, hb3⟩
  have HO3 := Lib.hid (HO2.out.keep hb3)
  have HB3 := Lib.hid (HB2.out.trans (hb3.mono HB2.out.size))
  have hc := poffset_any htab3 3 1
  rw [ht3, ch_off] at hc
  have HC3 := Lib.hid hc
  clear htab3 hb3 hc ht3
  go_wp2_with fail
  refine HC3.out.mono ?_
  rintro e w4 ⟨rfl, hb4⟩
  have HO4 := Lib.hid (HO3.out.keep hb4)
  have HB4 := Lib.hid (HB3.out.trans (hb4.mono HB3.out.size))
  clear hb4
  go_wp2_with fail
  refine (chapter_any _).mono ?_
  rintro e w5 ⟨A5, c5, rows5, rfl, htab5, ht5, hb5⟩
  have HO5 := Lib.hid (HO4.out.keep hb5)
  have HB5 := Lib.hid (HB4.out.trans (hb5.mono HB4.out.size))
  have hc := pcheck_any htab5
  rw [ht5, ch_check] at hc
  have HC5 := Lib.hid hc
  clear htab5 hb5 hc ht5
  go_wp2_with fail
  refine HC5.out.mono ?_
  rintro e w6 ⟨rfl, hb6⟩
  have hO6 := HO5.out.keep hb6
  have HB6 := Lib.hid (HB5.out.trans (hb6.mono HB5.out.size))
  obtain ⟨A6, c6, rfl, hnil6, hints6, hle6, hcap6⟩ := hO6.form
  have hb7 : Below w6.heap.size w6 (w6.alloc (.cells (([0, 1, 0, 1] : List Int).map (Value.int .i64)).toArray 3)) := (Below.refl _ _).alloc (Nat.le_refl _) _
  have HS := Lib.hid (sameInts_any (xs := [0, 1, 0, 1]) (ys := [0, 1, 0, 1]) ⟨hle6, hcap6, hnil6⟩ (hints6.keep hb7) (c' := 4) ⟨Nat.le_refl 4, by show 4 ≤ 9223372036854775807; omega, fun h => by cases h⟩ (ints_built w6 [0, 1, 0, 1] w6.heap.size rfl))
  have HB7 := Lib.hid hb7
  clear hb6 hO6 hnil6 hints6 hle6 hcap6 hb7
  go_wp2_with fail
  refine HS.out.mono ?_
  rintro e w7 ⟨rfl, hb8⟩
  have HB8 := Lib.hid ((HB6.out.trans (HB7.out.mono HB6.out.size)).trans (hb8.mono (HB6.out.trans (HB7.out.mono HB6.out.size)).size))
  clear hb8
  go_wp2_with fail
  go_ret
  exact ⟨rfl, HB8.out⟩
end Go.Proofs.Ytphoomlamdelkaa
