/-
  The reference's Same of types.
-/
import Derived.Test.YtcbhmpkginebaaaDoorMg14
namespace Go.Proofs.YtcbhmpkginebaaaDoor
set_option linter.unusedVariables false
set_option linter.unusedSimpArgs false
open Go.ChangeShapes Go.WideShapes Go.ChangeAt Go.RowKit

theorem tbl_take_succ {xs ys : List TyR} {k : Nat} (h : (tbl xs).take k = (tbl ys).take k) (h1 : k < xs.length) (h2 : k < ys.length) (e : (xs.getD k default).data = (ys.getD k default).data) : (tbl xs).take (k + 1) = (tbl ys).take (k + 1) :=
  take_eq_succ (d := default) h (by rw [tbl_len]; exact h1) (by rw [tbl_len]; exact h2) (by rw [tbl_at h1, tbl_at h2, e])
theorem tbl_ne {xs ys : List TyR} {k : Nat} (h1 : k < xs.length) (h2 : k < ys.length) (e : (xs.getD k default).data ≠ (ys.getD k default).data) : tbl xs ≠ tbl ys :=
  ne_of_getD (d := default) (k := k) (by rw [tbl_at h1, tbl_at h2]; exact e)
set_option maxRecDepth 100000 in
set_option maxHeartbeats 1600000 in
theorem rsame_any {w : World} {A A' : Option Addr} {c c' : Nat} {xs ys : List TyR} (h : TabIn w A c xs) (h' : TabIn w A' c' ys) :
    Calls Tryd.prog 46 #[.slice A xs.length c, .slice A' ys.length c'] w fun e w' => e = .returned (.bool (decide (tbl xs = tbl ys))) ∧ Below w.heap.size w w' := by
  have hl := h.len
  have hl' := h'.len
  have HX := Lib.hid h
  have HY := Lib.hid h'
  clear h h'
  by_cases hlen : xs.length = ys.length
  · have q : (xs.length : Int) = ys.length := by omega
    go_enter Tryd.func46, Tryd.ntmps46
    go_wp2_with fail
    go_loopw [5] (fun i wr => ∃ k : Nat, k ≤ xs.length ∧ i = .int .i64 k ∧ Hid ((tbl xs).take k = (tbl ys).take k) ∧ Below w.heap.size w wr) (fun i _ => xs.length - (intOf i).toNat)
    case atStart => exact ⟨0, Nat.zero_le _, rfl, Lib.hid rfl, Below.refl _ _⟩
    case round =>
      obtain ⟨k, hk, rfl, HT, hbel⟩ := hrel
      by_cases hlt : k < xs.length
      · have hlt' : k < ys.length := by omega
        have ⟨b, off, hA, hbl, c0, c1, c2, c3⟩ := (HX.out.rows.elem hlt).at_
        have ⟨b', off', hA', hbl', c0', c1', c2', c3'⟩ := (HY.out.rows.elem hlt').at_
        subst hA hA'
        have d0 := (hbel.cell (p := ⟨b, off + k * 4, none⟩) hbl).trans c0
        have d1 := (hbel.cell (p := ⟨b, off + k * 4 + 1, none⟩) hbl).trans c1
        have d2 := (hbel.cell (p := ⟨b, off + k * 4 + 2, none⟩) hbl).trans c2
        have d3 := (hbel.cell (p := ⟨b, off + k * 4 + 3, none⟩) hbl).trans c3
        have d0' := (hbel.cell (p := ⟨b', off' + k * 4, none⟩) hbl').trans c0'
        have d1' := (hbel.cell (p := ⟨b', off' + k * 4 + 1, none⟩) hbl').trans c1'
        have d2' := (hbel.cell (p := ⟨b', off' + k * 4 + 2, none⟩) hbl').trans c2'
        have d3' := (hbel.cell (p := ⟨b', off' + k * 4 + 3, none⟩) hbl').trans c3'
        have hr := ((HX.out.row hlt).keep hbel).more (Nat.le_refl _) hbel.size
        have hr' := ((HY.out.row hlt').keep hbel).more (Nat.le_refl _) hbel.size
        have HB := Lib.hid hbel
        clear hbel c0 c1 c2 c3 c0' c1' c2' c3'
        have HNE : Hid ((xs.getD k default).data ≠ (ys.getD k default).data → tbl xs ≠ tbl ys) := Lib.hid (tbl_ne hlt hlt')
        have HEQ : Hid ((xs.getD k default).data = (ys.getD k default).data → (tbl xs).take (k + 1) = (tbl ys).take (k + 1)) := Lib.hid (tbl_take_succ HT.out hlt hlt')
        generalize xs.getD k default = r at d0 d1 d2 d3 hr HNE HEQ
        generalize ys.getD k default = r' at d0' d1' d2' d3' hr' HNE HEQ
        obtain ⟨κ, el, ma, pa, pc, ps⟩ := r
        obtain ⟨κ', el', ma', pa', pc', ps'⟩ := r'
        simp only at d0 d1 d2 d3 d0' d1' d2' d3'
        have hlp := Nat.le_trans hr.hdr.fit hr.hdr.cap
        have hlp' := Nat.le_trans hr'.hdr.fit hr'.hdr.cap
        unfold maxLen at hlp hlp'
        simp only at hlp hlp'
        have HR := Lib.hid hr
        have HR' := Lib.hid hr'
        clear hr hr'
        by_cases e0 : κ = κ'
        · subst e0
          by_cases e1 : el = el'
          · subst e1
            by_cases e2 : ma = ma'
            · subst e2
              by_cases e3 : ps.length = ps'.length
              · have qq : (ps.length : Int) = ps'.length := by omega
                go_wp2_with fail
                go_quiet (fail)
                go_wp2_with fail
                go_loopw [6] (fun i wo => ∃ j : Nat, j ≤ ps.length ∧ i = .int .i64 j ∧ Hid (ps.take j = ps'.take j) ∧ Below wr.heap.size wr wo) (fun i _ => ps.length - (intOf i).toNat)
                case atStart => exact ⟨0, Nat.zero_le _, rfl, Lib.hid rfl, belowDrewN (Below.refl _ _) _⟩
                case round =>
                  obtain ⟨j, hj, rfl, HP, hbi⟩ := hrel
                  have f3 := (hbi.cell (p := ⟨b, off + k * 4 + 3, none⟩) (World.block_lt_of_cell? _ _ d3)).trans d3
                  have f3' := (hbi.cell (p := ⟨b', off' + k * 4 + 3, none⟩) (World.block_lt_of_cell? _ _ d3')).trans d3'
                  have HI := Lib.hid hbi
                  by_cases hj2 : j < ps.length
                  · obtain ⟨bb, oo, x, hpa, hcell, HE⟩ := ((HR.out.keep hbi).ints.cell hj2)
                    obtain ⟨bb', oo', y, hpa', hcell', HE'⟩ := ((HR'.out.keep hbi).ints.cell (k := j) (by show j < ps'.length; omega))
                    simp only at hpa hpa' HE HE'
                    subst hpa hpa'
                    clear hbi
                    by_cases hxy : x = y
                    · subst hxy
                      go_wp2_with fail
                      go_quiet (fail)
                      go_wp2_with fail
                      go_roundw
                      case rel => exact ⟨j + 1, by omega, by go_num, Lib.hid (take_eq_succ (d := 0) HP.out hj2 (by omega) (by rw [HE.out, HE'.out])), belowDrewN HI.out _⟩
                      case measure => simp [intOf]; omega
                    · have hne : (x == y) = false := by simpa using hxy
                      have HN : Hid (tbl xs ≠ tbl ys) := Lib.hid (HNE.out (fun h => by
                        injection h with _ _ _ h
                        exact ne_of_getD (d := 0) (k := j) (by rw [HE.out, HE'.out]; exact hxy) h))
                      go_wp2_with fail
                      go_quiet (fail)
                      go_wp2_with fail
                      go_ret
                      exact ⟨ret_bool (by rw [decide_eq_false HN.out]), belowDrewN (HB.out.trans (HI.out.mono HB.out.size)) _⟩
                  · clear hbi
                    have HPS : Hid (ps = ps') := Lib.hid (by have := HP.out; rwa [List.take_of_length_le (by omega), List.take_of_length_le (by omega)] at this)
                    go_wp2_with fail
                    go_roundw
                    case rel => exact ⟨k + 1, by omega, by go_num, Lib.hid (HEQ.out (by show (⟨κ, el, ma, ps⟩ : Ty) = ⟨κ, el, ma, ps'⟩; rw [HPS.out])), HB.out.trans (HI.out.mono HB.out.size)⟩
                    case measure => simp [intOf]; omega
              · have qq : ((ps.length : Int) == ps'.length) = false := by simp; omega
                have qq2 : ((ps.length : Int) != ps'.length) = true := by simp; omega
                have E3 := Lib.hid e3
                clear e3
                have HN := Lib.hid (HNE.out (fun h => E3.out (by injection h with _ _ _ h; exact congrArg List.length h)))
                go_wp2_with fail
                go_quiet (fail)
                go_wp2_with fail
                go_ret
                exact ⟨ret_bool (by rw [decide_eq_false HN.out]), belowDrewN HB.out _⟩
            · have qq : (ma == ma') = false := by simpa using e2
              have qq2 : (ma != ma') = true := by simpa using e2
              have E2 := Lib.hid e2
              clear e2
              have HN := Lib.hid (HNE.out (fun h => E2.out (by injection h with _ _ h _)))
              go_wp2_with fail
              go_quiet (fail)
              go_wp2_with fail
              go_ret
              exact ⟨ret_bool (by rw [decide_eq_false HN.out]), belowDrewN HB.out _⟩
          · have qq : (el == el') = false := by simpa using e1
            have qq2 : (el != el') = true := by simpa using e1
            have E1 := Lib.hid e1
            clear e1
            have HN := Lib.hid (HNE.out (fun h => E1.out (by injection h with _ h _ _)))
            go_wp2_with fail
            go_quiet (fail)
            go_wp2_with fail
            go_ret
            exact ⟨ret_bool (by rw [decide_eq_false HN.out]), belowDrewN HB.out _⟩
        · have qq : ((κ : Int) == κ') = false := by simp; omega
          have qq2 : ((κ : Int) != κ') = true := by simp; omega
          have HN := Lib.hid (HNE.out (fun h => e0 (by injection h with h _ _ _)))
          go_wp2_with fail
          go_quiet (fail)
          go_wp2_with fail
          go_ret
          exact ⟨ret_bool (by rw [decide_eq_false HN.out]), belowDrewN HB.out _⟩
      · have HB := Lib.hid hbel
        clear hbel
        go_wp2_with fail
        go_ret
        exact ⟨ret_bool (by rw [decide_eq_true]; have := HT.out; rwa [List.take_of_length_le (by rw [tbl_len]; omega), List.take_of_length_le (by rw [tbl_len]; omega)] at this), HB.out⟩
  · have q : ¬ (xs.length : Int) = ys.length := by omega
    have HN : Hid (tbl xs ≠ tbl ys) := Lib.hid (fun h => hlen (by rw [← tbl_len xs, h, tbl_len]))
    clear hlen
    go_enter Tryd.func46, Tryd.ntmps46
    go_wp2_with fail
    go_ret
    exact ⟨ret_bool (by rw [decide_eq_false HN.out]), Below.refl _ _⟩
end Go.Proofs.YtcbhmpkginebaaaDoor
