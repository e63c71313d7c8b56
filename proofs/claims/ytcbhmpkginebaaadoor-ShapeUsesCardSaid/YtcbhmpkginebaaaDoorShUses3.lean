/-
  Lists of numbers: compared, copied, written.
-/
import Derived.Test.YtcbhmpkginebaaaDoorShUses2
import Derived.BigQuiet
import Derived.Deep.QuietTactic
import Derived.OwnWalk
import Derived.Laws.OwnMore
namespace Go.Proofs.YtcbhmpkginebaaaDoor
set_option linter.unusedVariables false
set_option linter.unusedSimpArgs false
open Go.ChangeShapes Go.WideShapes Go.ChangeAt Go.RowKit

theorem take_eq_succ {α : Type} {d : α} {xs ys : List α} {k : Nat} (h : xs.take k = ys.take k) (h1 : k < xs.length) (h2 : k < ys.length) (e : xs.getD k d = ys.getD k d) : xs.take (k + 1) = ys.take (k + 1) := by
  rw [take_succ_getD (d := d) h1, take_succ_getD (d := d) h2, h, e]
theorem ne_of_getD {α : Type} {d : α} {xs ys : List α} {k : Nat} (e : xs.getD k d ≠ ys.getD k d) : xs ≠ ys := fun h => e (by rw [h])
theorem sameInts_any {w : World} {lo lo' B B' : Nat} {A A' : Option Addr} {c c' : Nat} {xs ys : List Int} (hh : Hdr A xs.length c) (hx : IntsAt w lo B A xs) (hh' : Hdr A' ys.length c') (hy : IntsAt w lo' B' A' ys) :
    Calls Tryd.prog 11 #[.slice A xs.length c, .slice A' ys.length c'] w fun e w' => e = .returned (.bool (decide (xs = ys))) ∧ Below w.heap.size w w' := by
  have hl := Nat.le_trans hh.fit hh.cap
  have hl' := Nat.le_trans hh'.fit hh'.cap
  unfold maxLen at hl hl'
  have HX := Lib.hid hx
  have HY := Lib.hid hy
  clear hx hy hh hh'
  by_cases hlen : xs.length = ys.length
  · have q : (xs.length : Int) = ys.length := by omega
    go_enter Tryd.func11, Tryd.ntmps11
    go_wp2_with fail
    go_loopw [5] (fun i wr => ∃ k : Nat, k ≤ xs.length ∧ i = .int .i64 k ∧ Hid (xs.take k = ys.take k) ∧ Below w.heap.size w wr) (fun i _ => xs.length - (intOf i).toNat)
    case atStart => exact ⟨0, Nat.zero_le _, rfl, Lib.hid rfl, Below.refl _ _⟩
    case round =>
      obtain ⟨k, hk, rfl, HT, hbel⟩ := hrel
      have HB := Lib.hid hbel
      clear hbel
      by_cases hlt : k < xs.length
      · obtain ⟨b, off, x, rfl, hcell, HE⟩ := (HX.out.cell hlt)
        obtain ⟨b', off', y, rfl, hcell', HE'⟩ := (HY.out.cell (k := k) (by omega))
        have d1 := (HB.out.cell (p := ⟨b, off + k, none⟩) (World.block_lt_of_cell? w _ hcell)).trans hcell
        have d2 := (HB.out.cell (p := ⟨b', off' + k, none⟩) (World.block_lt_of_cell? w _ hcell')).trans hcell'
        clear hcell hcell'
        by_cases hxy : x = y
        · subst hxy
          go_wp2_with fail
          go_quiet (fail)
          go_wp2_with fail
          go_roundw
          case rel => exact ⟨k + 1, by omega, by go_num, Lib.hid (take_eq_succ (d := 0) HT.out hlt (by omega) (by rw [HE.out, HE'.out])), belowDrewN HB.out _⟩
          case measure => simp [intOf]; omega
        · have hne : (x == y) = false := by simpa using hxy
          have HN : Hid (xs ≠ ys) := Lib.hid (ne_of_getD (d := 0) (k := k) (by rw [HE.out, HE'.out]; exact hxy))
          go_wp2_with fail
          go_quiet (fail)
          go_wp2_with fail
          go_ret
          exact ⟨ret_bool (by rw [decide_eq_false HN.out]), belowDrewN HB.out _⟩
      · go_wp2_with fail
        go_ret
        exact ⟨ret_bool (by rw [decide_eq_true]; have := HT.out; rwa [List.take_of_length_le (by omega), List.take_of_length_le (by omega)] at this), HB.out⟩
  · have q : ¬ (xs.length : Int) = ys.length := by omega
    have HN : Hid (xs ≠ ys) := Lib.hid (fun h => hlen (by rw [h]))
    clear hlen
    go_enter Tryd.func11, Tryd.ntmps11
    go_wp2_with fail
    go_ret
    exact ⟨ret_bool (by rw [decide_eq_false HN.out]), Below.refl _ _⟩
/-- A number laid into a list of the call's own. -/
theorem OwnInts.spot {w : World} {lo c : Nat} {A : Option Addr} {xs : List Int} (h : OwnInts w lo (.slice A xs.length c) xs) {j : Nat} (hj : j < xs.length) :
    ∃ g, A = some ⟨g, 0, none⟩ ∧ lo ≤ g ∧ w.cell? ⟨g, j, none⟩ = some (.int .i64 (xs.getD j 0)) ∧ w.frozen? ⟨g, j, none⟩ = false ∧ ∀ z : Int, OwnInts (w.setCell ⟨g, j, none⟩ (.int .i64 z)) lo (.slice A xs.length c) (xs.set j z) := by
  rcases h.2 with ⟨_, hn⟩ | ⟨g, cap, cur, he, hb, _⟩
  · exact absurd hn (by omega)
  · injection he with h1 _ h3
    subst h1
    have h' : w.ownsRow lo 3 1 (.slice (some ⟨g, 0, none⟩) xs.length c) xs.length (xs.map (Value.int .i64)) := h
    refine ⟨g, rfl, hb, ?_, h'.frozenAt j, fun z => ?_⟩
    · rw [h'.cellAt j (by omega), List.getElem?_map, List.getElem?_eq_getElem hj]
      simp [List.getD, List.getElem?_eq_getElem hj]
    · have h2 := (h'.stored j (.int .i64 z)).1
      unfold OwnInts
      rw [List.length_set, List.map_set]
      exact h2

theorem OwnInts.full {w : World} {lo : Nat} {v : Value} {xs : List Int} (h : OwnInts w lo v xs) : ∃ A c, v = .slice A xs.length c ∧ Hdr A xs.length c ∧ IntsAt w 0 w.heap.size A xs := by
  obtain ⟨A, c, hv, hn, hi, h1, h2⟩ := h.form
  exact ⟨A, c, hv, ⟨h1, h2, hn⟩, hi.more (Nat.zero_le _) (Nat.le_refl _)⟩
theorem ranswers_is {op : Nat} {b : Bool} (h : hasT op 5 = b) (w : World) : Calls Tryd.prog 10 #[.int .u8 op] w fun e w' => e = .returned (.bool b) ∧ Below w.heap.size w w' := h ▸ ranswers_any op w
theorem ownInts_zero (w : World) (lo g : Nat) (h : lo ≤ w.heap.size) (hg : g = w.heap.size) : OwnInts (w.alloc (.cells #[] 3)) lo (.slice (some ⟨g, 0, none⟩) 0 0) [] := by
  subst hg
  exact World.ownsRow_lit w #[] 0 h (by unfold maxLen; omega) rfl
end Go.Proofs.YtcbhmpkginebaaaDoor
