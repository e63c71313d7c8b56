/-
  The reference's comparison of lines.
-/
import Derived.Test.YtbkgcikhiomenaaLexLines
namespace Go.Proofs.Ytbkgcikhiomenaa
set_option linter.unusedVariables false
set_option linter.unusedSimpArgs false
open Go.ChangeShapes Go.WideShapes Go.ChangeAt Go.RowKit

theorem take_next {α : Type} {d : α} (l : List α) {k : Nat} (h : k < l.length) : l.take (k + 1) = l.take k ++ [l.getD k d] := by
  rw [List.take_add_one, List.getElem?_eq_getElem h, List.getD_eq_getElem?_getD, List.getElem?_eq_getElem h]
  rfl
theorem take_eq_next {α : Type} {d : α} {xs ys : List α} {k : Nat} (h : xs.take k = ys.take k) (h1 : k < xs.length) (h2 : k < ys.length) (e : xs.getD k d = ys.getD k d) : xs.take (k + 1) = ys.take (k + 1) := by
  rw [take_next (d := d) xs h1, take_next (d := d) ys h2, h, e]
theorem ne_at {α : Type} {d : α} {xs ys : List α} {k : Nat} (e : xs.getD k d ≠ ys.getD k d) : xs ≠ ys := fun h => e (by rw [h])
/-- What lines tell. -/
def lns (rows : List LnR) : List (List ByteArray) := rows.map LnR.xs
theorem lns_len (rows : List LnR) : (lns rows).length = rows.length := List.length_map _
theorem lns_at {rows : List LnR} {k : Nat} (h : k < rows.length) : (lns rows).getD k [] = (rows.getD k default).xs := by
  unfold lns
  rw [List.getD_eq_getElem?_getD, List.getElem?_map, List.getD_eq_getElem?_getD, List.getElem?_eq_getElem h]
  rfl
set_option maxRecDepth 100000 in
set_option maxHeartbeats 3200000 in
theorem rsamel_any {w : World} {A A' : Option Addr} {c c' : Nat} {rows rows' : List LnR} (h : LinesAt w A c rows) (h' : LinesAt w A' c' rows') :
    Calls Try.prog 12 #[.slice A rows.length c, .slice A' rows'.length c'] w fun e w' => e = .returned (.bool (decide (lns rows = lns rows'))) ∧ Below w.heap.size w w' := by
  have hl := h.hdr.le
  have hl' := h'.hdr.le
  have HX := Lib.hid h
  have HY := Lib.hid h'
  clear h h'
  by_cases hlen : rows.length = rows'.length
  · have q : (rows.length : Int) = rows'.length := by omega
    have HLEN := Lib.hid hlen
    go_enter Try.func12, Try.ntmps12
    go_wp2_with fail
    go_loopw [5] (fun i wr => ∃ k : Nat, k ≤ rows.length ∧ i = .int .i64 k ∧ Hid ((lns rows).take k = (lns rows').take k) ∧ Hid (Below w.heap.size w wr)) (fun i _ => rows.length - (intOf i).toNat)
    case atStart => exact ⟨0, Nat.zero_le _, rfl, Lib.hid rfl, Lib.hid (Below.refl _ _)⟩
    case round =>
      obtain ⟨k, hk, rfl, HT, HB⟩ := hrel
      by_cases hlt : k < rows.length
      · have hlt' : k < rows'.length := by omega
        obtain ⟨b, off, r, rfl, hb, d0, hr, HE⟩ := (HX.out.on HB.out).elem hlt
        obtain ⟨b', off', r', rfl, hb', d0', hr', HE'⟩ := (HY.out.on HB.out).elem hlt'
        have HD : Hid ((lns rows).getD k [] = r.xs) := Lib.hid (by rw [lns_at hlt, HE.out])
        have HD' : Hid ((lns rows').getD k [] = r'.xs) := Lib.hid (by rw [lns_at hlt', HE'.out])
        have hrl := hr.hdr.le
        have hrl' := hr'.hdr.le
        have HR := Lib.hid hr.strs
        have HR' := Lib.hid hr'.strs
        have HLT := Lib.hid hlt
        have HLT' := Lib.hid hlt'
        obtain ⟨ra, rc, xs⟩ := r
        obtain ⟨ra', rc', ys⟩ := r'
        dsimp only at d0 d0' hrl hrl' HR HR' HD HD'
        clear hr hr'
        by_cases hxl : xs.length = ys.length
        · have qx : (xs.length : Int) = ys.length := by omega
          have HXL := Lib.hid hxl
          go_wp2_with fail
          go_quiet (fail)
          go_wp2_with fail
          have HD0 := Lib.hid d0
          have HD0' := Lib.hid d0'
          clear d0 d0'
          go_loopw [6] (fun i wx => ∃ j : Nat, j ≤ xs.length ∧ i = .int .i64 j ∧ Hid (xs.take j = ys.take j) ∧ Hid (Below wr.heap.size wr wx)) (fun i _ => xs.length - (intOf i).toNat)
          case atStart => exact ⟨0, Nat.zero_le _, rfl, Lib.hid rfl, Lib.hid (belowDrewN (Below.refl _ _) _)⟩
          case round =>
            obtain ⟨j, hj, rfl, HTX, HBX⟩ := hrel
            have e0 := (HBX.out.cell (p := ⟨b, off + k, none⟩) hb).trans HD0.out
            have e0' := (HBX.out.cell (p := ⟨b', off' + k, none⟩) hb').trans HD0'.out
            by_cases hjl : j < xs.length
            · have hjl' : j < ys.length := by omega
              obtain ⟨b2, o2, x, rfl, hb2, v0, HEX⟩ := (HR.out.on HBX.out).elem hjl
              obtain ⟨b2', o2', y, rfl, hb2', v0', HEY⟩ := (HR'.out.on HBX.out).elem hjl'
              by_cases hxy : x = y
              · subst hxy
                have HT1 : Hid (xs.take (j + 1) = ys.take (j + 1)) := Lib.hid (take_eq_next (d := ⟨#[]⟩) HTX.out hjl hjl' (by rw [HEX.out, HEY.out]))
                go_wp2_with fail
                go_quiet (fail)
                go_wp2_with fail
                go_roundw
                case rel => exact ⟨j + 1, by omega, by go_num, HT1, Lib.hid (belowDrewN HBX.out _)⟩
                case measure => simp [intOf]; omega
              · have hq1 : (x.toList == y.toList) = false := by
                  rw [ByteArray.toList_eq, ByteArray.toList_eq]
                  exact beq_eq_false_iff_ne.2 fun e => hxy (toL_inj e)
                have HN : Hid (decide (lns rows = lns rows') = false) := Lib.hid (decide_eq_false (ne_at (d := []) (k := k) (by
                  rw [HD.out, HD'.out]
                  exact ne_at (d := ⟨#[]⟩) (k := j) (by rw [HEX.out, HEY.out]; exact hxy))))
                clear hxy
                go_wp2_with fail
                go_quiet (fail)
                go_wp2_with fail
                go_ret
                exact ⟨ret_bool HN.out.symm, belowDrewN (HB.out.trans (HBX.out.mono HB.out.size)) _⟩
            · have HT1 : Hid ((lns rows).take (k + 1) = (lns rows').take (k + 1)) := Lib.hid (take_eq_next (d := []) HT.out (by rw [lns_len]; exact HLT.out) (by rw [lns_len]; exact HLT'.out) (by
                rw [HD.out, HD'.out]
                have := HTX.out
                rwa [List.take_of_length_le (by omega), List.take_of_length_le (by omega)] at this))
              go_wp2_with fail
              go_roundw
              case rel => exact ⟨k + 1, by omega, by go_num, HT1, Lib.hid (HB.out.trans (HBX.out.mono HB.out.size))⟩
              case measure => simp [intOf]; omega
        · have qx : ¬ (xs.length : Int) = ys.length := by omega
          have HN : Hid (decide (lns rows = lns rows') = false) := Lib.hid (decide_eq_false (ne_at (d := []) (k := k) (by rw [HD.out, HD'.out]; exact fun e => hxl (by rw [e]))))
          clear hxl
          go_wp2_with fail
          go_quiet (fail)
          go_wp2_with fail
          go_ret
          exact ⟨ret_bool HN.out.symm, belowDrewN HB.out _⟩
      · have HT2 : Hid (decide (lns rows = lns rows') = true) := Lib.hid (decide_eq_true (by
          have := HT.out
          rwa [List.take_of_length_le (by rw [lns_len]; omega), List.take_of_length_le (by rw [lns_len]; omega)] at this))
        go_wp2_with fail
        go_ret
        exact ⟨ret_bool HT2.out.symm, HB.out⟩
  · have q : ¬ (rows.length : Int) = rows'.length := by omega
    have HN : Hid (decide (lns rows = lns rows') = false) := Lib.hid (decide_eq_false (fun e => hlen (by rw [← lns_len, e, lns_len])))
    clear hlen
    go_enter Try.func12, Try.ntmps12
    go_wp2_with fail
    go_ret
    exact ⟨ret_bool HN.out.symm, Below.refl _ _⟩
end Go.Proofs.Ytbkgcikhiomenaa
