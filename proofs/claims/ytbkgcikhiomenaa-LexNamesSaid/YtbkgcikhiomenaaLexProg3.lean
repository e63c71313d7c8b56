/-
  The program's reader of lines: what its end of a line does.
-/
import Derived.Test.YtbkgcikhiomenaaLexProg2
import Derived.Deep.RegionLaw
namespace Go.Proofs.Ytbkgcikhiomenaa
set_option linter.unusedVariables false
set_option linter.unusedSimpArgs false
open Go.ChangeShapes Go.WideShapes Go.ChangeAt Go.RowKit

/-- What the end of a line does: m its words, l the lines ahead of it. -/
def EndOf (g : Nat) (s : ByteArray) (p lo : Nat) (m : List Bs) (l : List (List Bs)) (n : Nat) (w : World) (e : Ending) (w' : World) : Prop :=
  ∃ ls' rows', e = .returned (.bool (decide (m.length ≤ 64))) ∧ Rd w' g s p (.slice none 0 0) ls' ∧ OwnLines w' lo ls' rows' ∧ rows'.map LnR.data = l ++ (if m.isEmpty then [] else [m]) ∧ rows'.length ≤ n + 1 ∧ Below lo w w'
set_option maxRecDepth 100000 in
set_option maxHeartbeats 1600000 in
theorem end_any {w : World} {g : Nat} {s : ByteArray} {p lo : Nat} {ws ls : Value} {xs : List ByteArray} {rows : List LnR} (h : Rd w g s p ws ls) (hg : lo ≤ g) (hw : OwnStrs w lo ws xs) (hl : OwnLines w lo ls rows) (hx : xs.length ≤ 100000) (hr : rows.length ≤ 100000) :
    Calls Try.prog 34 #[.pointer (some ⟨g, 0, none⟩)] w (EndOf g s p lo (xs.map toL) (rows.map LnR.data) rows.length w) := by
  obtain ⟨⟨ra, rc, rxs⟩, hv, hrx, hok⟩ := hw.row
  have e1 : rxs = xs := hrx
  subst e1
  have e2 : ws = .slice ra rxs.length rc := hv
  subst e2
  have HOK := Lib.hid hok
  obtain ⟨A, c, rfl, hlin⟩ := hl.full
  have HL := Lib.hid hl
  have HR := Lib.hid h
  have c66 := h.words
  have c67 := h.lines
  have f66 := h.free 66
  have f67 := h.free 67
  have hgl := h.lt
  clear hw hok hrx hv hlin h hl
  by_cases h0 : 0 < rxs.length
  · have h0z : (0 : Int) < (rxs.length : Int) := by omega
    have hemp : (rxs.map toL).isEmpty = false := by cases rxs with
      | nil => exact absurd h0 (by decide)
      | cons => rfl
    have HEMP := Lib.hid hemp
    clear h0 hemp
    go_enter Try.func34, Try.ntmps34
    go_wp2_with fail
    go_region_law
      (first
        | (refine step_appL rfl (.tmp 14) (.tmp 19) rfl lo _ rows ⟨ra, rc, rxs⟩ (by rfl) ((HL.out.keep ((Below.refl _ _).drew)).keep ((Below.refl _ _).alloc (Nat.le_refl _) _)) ((HOK.out.on ((Below.refl _ _).drew)).on ((Below.refl _ _).alloc (Nat.le_refl _) _)) _ (by rfl) (Blk.new _ _ _) (by omega) (by simp; omega) ?_
           intro v' w1 hown hgr
           have hR0 := (HR.out.on (w' := w.drew.alloc (.cells #[.slice ra rxs.length rc] 39)) (Below.heap_alloc w.drew _ g hgl))
           have hRd := hR0.on (hgr.block g hR0.lt (fun e => by
             rcases HL.out.row.2 with ⟨hv, _⟩ | ⟨q, cap, cur, hv, _, hq, _⟩
             · rw [hv] at e; cases e
             · rw [hv] at e
               have e2 : g = q := Option.some.inj e
               subst e2
               exact absurd (TBlk.type ⟨_, hq⟩ HR.out.blk) (by decide)))
           obtain ⟨A2, c2, hv2, _⟩ := hown.full
           rw [show (rows ++ [(⟨ra, rc, rxs⟩ : LnR)]).length = rows.length + 1 by simp] at hv2
           subst hv2
           have HB1 := Lib.hid (Below.grown (B := lo) (a := w) (((Below.refl _ _).drew).alloc (by show lo ≤ w.heap.size; omega) _) hgr (by rw [World.size_alloc]; show lo ≤ w.heap.size + 1; omega) (own_base HL.out.row))
           have k66 := hRd.words
           have k67 := hRd.lines
           have j66 := hRd.free 66
           have j67 := hRd.free 67
           have HRD := Lib.hid hRd
           have HOW := Lib.hid hown
           have HGR := Lib.hid hgr
           clear hRd hown hgr hR0))
    all_goals
      have HRL := Lib.hid ((HRD.out.setLines (.slice A2 (rows.length + 1) c2)).setWords (.slice none 0 0))
      have HOL := Lib.hid (((HOW.out.off (p := ⟨g, 67, none⟩) HRD.out.blk (by decide) (by decide) (.slice A2 (rows.length + 1) c2))).off (p := ⟨g, 66, none⟩) (HRD.out.setLines (.slice A2 (rows.length + 1) c2)).blk (by decide) (by decide) (.slice none 0 0))
      have HBL := Lib.hid ((HB1.out.setCell (p := ⟨g, 67, none⟩) hg (.slice A2 (rows.length + 1) c2)).setCell (p := ⟨g, 66, none⟩) hg (.slice none 0 0))
      go_wp2_with fail
      go_ret
      exact ⟨_, rows ++ [⟨ra, rc, rxs⟩], ret_bool (by rw [Bool.eq_iff_iff, decide_eq_true_eq, decide_eq_true_eq, List.length_map]; omega), HRL.out, HOL.out, by rw [HEMP.out, List.map_append]; rfl, by simp, HBL.out⟩
  · have h0z : ¬ (0 : Int) < (rxs.length : Int) := by omega
    have hnil : rxs = [] := List.eq_nil_of_length_eq_zero (by omega)
    subst hnil
    have HRL := Lib.hid (HR.out.setWords (.slice none 0 0))
    have HOL := Lib.hid (HL.out.off (p := ⟨g, 66, none⟩) HR.out.blk (by decide) (by decide) (.slice none 0 0))
    clear h0
    go_enter Try.func34, Try.ntmps34
    go_wp2_with fail
    go_ret
    exact ⟨.slice A rows.length c, rows, rfl, HRL.out, HOL.out, (List.append_nil _).symm, by omega, (Below.refl _ _).setCell hg _⟩
end Go.Proofs.Ytbkgcikhiomenaa
