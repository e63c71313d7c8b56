/-
  The walk of the law LexJoins.
-/
import Derived.Test.YtbkgcikhiomenaaLexJoin2
import Derived.Test.YtbkgcikhiomenaaLexRef6
import Derived.Test.YtbkgcikhiomenaaLexGreat
import Derived.Test.YtbkgcikhiomenaaLexApp
import Derived.Test.YtbkgcikhiomenaaLexTells
namespace Go.Proofs.Ytbkgcikhiomenaa
set_option linter.unusedVariables false
set_option linter.unusedSimpArgs false
open Go.ChangeShapes Go.WideShapes Go.ChangeAt Go.RowKit

theorem data_lns (rows : List LnR) : rows.map LnR.data = (lns rows).map (List.map toL) := by unfold lns; rw [List.map_map]; rfl
theorem few_lns {rows rows' : List LnR} (h : FewL rows) (e : lns rows' = lns rows) : FewL rows' := by
  have hl : rows'.length = rows.length := by rw [← lns_len, e, lns_len]
  refine ⟨by rw [hl]; exact h.1, fun r hr => ?_⟩
  have hm : r.xs ∈ lns rows := by rw [← e]; exact List.mem_map.2 ⟨r, hr, rfl⟩
  obtain ⟨q, hq, hx⟩ := List.mem_map.1 hm
  rw [← hx]
  exact h.2 q hq
set_option maxRecDepth 100000 in
set_option maxHeartbeats 3200000 in
theorem walk_LexJoins {w : World} {A : Option Addr} {c : Nat} {rows : List LnR} (h : LinesAt w A c rows) :
    Calls Try.prog 5 #[.slice A rows.length c] w fun e w' => e = .returned (.bool true) ∧ Below w.heap.size w w' := by
  have hl := h.hdr.le
  have HX := Lib.hid h
  clear h
  go_enter Try.func5, Try.ntmps5
  go_wp2_with (go_at_call 15; refine (rgreatl_any HX.out 20000 (Nat.le_refl _)).mono ?_; rintro e w1 ⟨b, rfl, hb, hb1⟩; have HG := Lib.hid hb; have HB1 := Lib.hid hb1; clear hb hb1; cases b)
  · have HF : Hid (FewL rows) := Lib.hid (FewC.few ((show NotGreat rows 20000 false from HG.out) rfl) (Nat.le_refl _))
    have hrz : (rows.length : Int) ≤ 3000 := by have := HF.out.1; omega
    clear HG
    go_loopw [3, 4] (fun v i wr => ∃ (k : Nat) (rs : List LnR), k ≤ rows.length ∧ i = .int .i64 k ∧ Hid (OwnLines wr w.heap.size v rs ∧ lns rs = (lns rows).take k) ∧ Hid (Below w.heap.size w wr)) (fun _ i _ => rows.length - (intOf i).toNat)
    case atStart => exact ⟨0, [], Nat.zero_le _, rfl, Lib.hid ⟨OwnLines.nil _ _, rfl⟩, HB1⟩
    case round =>
      obtain ⟨k, rs, hk, rfl, HO, HB⟩ := hrel
      have HRL : Hid (rs.length = k) := Lib.hid (by
        have := congrArg List.length HO.out.2
        rw [lns_len, List.length_take, lns_len] at this
        omega)
      by_cases hlt : k < rows.length
      · have hkz : (k : Int) < rows.length := by omega
        obtain ⟨b, off, r, rfl, hb, d00, hr, HE⟩ := HX.out.elem hlt
        have HBA := fun o => Lib.hid (HB.out.alloc HB.out.size o)
        have d1 := ((HBA (.cells #[] 9)).out.cell (p := ⟨b, off + k, none⟩) hb).trans d00
        have hrl := hr.hdr.le
        have HH := Lib.hid hr.hdr
        have HR := Lib.hid hr.strs
        have HFX : Hid (r.xs.length ≤ 80 ∧ ∀ x ∈ r.xs, x.size ≤ 20000) := Lib.hid (by rw [← HE.out]; exact HF.out.2 _ (row_mem hlt))
        have HTK : Hid ((lns rows).take (k + 1) = (lns rows).take k ++ [r.xs]) := Lib.hid (by rw [take_next (d := []) _ (by rw [lns_len]; exact hlt), lns_at hlt, HE.out])
        have HLT := Lib.hid hlt
        obtain ⟨ra, rc, xs⟩ := r
        dsimp only at d1 hrl HH HR HFX HTK
        clear hr hlt d00
        go_wp2_with (first
          | (refine wpList_appTs rfl (.tmp 18) (.tmp 22) (by rfl) wr.heap.size _ [] (by rfl) (OwnStrs.lit wr) xs (by rfl) HH.out (HR.out.on (HBA (.cells #[] 9)).out) (Nat.zero_le _) (by have := HFX.out.1; omega) (by rw [World.size_alloc]; omega) ?_; intro v' w2 hown hgr; rw [List.nil_append] at hown; have HB2 := Lib.hid (hown.fresh hgr ((Below.refl _ _).alloc (Nat.le_refl _) _)); obtain ⟨r2, hv2, hx2, hok⟩ := hown.row; obtain ⟨ra2, rc2, xs2⟩ := r2; dsimp only [LnR.cell] at hv2 hx2; subst hx2; subst hv2; have HOK := Lib.hid hok; clear hgr hok)
          | (refine wpList_appL rfl (.tmp 17) (.tmp 24) (by rfl) w.heap.size _ rs (by rfl) ⟨ra2, rc2, _⟩ (HO.out.1.keep HB2.out) HOK.out (by rfl) (by have := HRL.out; omega) (Nat.le_trans HB.out.size HB2.out.size) ?_; intro v3 w3 hown3 hgr3; have HO3 := Lib.hid hown3; have HB3 := Lib.hid (Below.grown (B := w.heap.size) ((HB.out.trans (HB2.out.mono HB.out.size)).alloc (Nat.le_trans HB.out.size HB2.out.size) _) hgr3 (by rw [World.size_alloc]; exact Nat.le_succ_of_le (Nat.le_trans HB.out.size HB2.out.size)) (own_base HO.out.1.row)); clear hown3 hgr3))
        go_roundw
        case rel => exact ⟨k + 1, rs ++ [⟨ra2, rc2, _⟩], by have := HLT.out; omega, by go_num, Lib.hid ⟨HO3.out, by rw [HTK.out]; unfold lns; rw [List.map_append]; have := HO.out.2; unfold lns at this; rw [this]; rfl⟩, HB3⟩
        case measure => simp [intOf]; have := HLT.out; omega
      · obtain rfl : k = rows.length := by omega
        have HLN : Hid (lns rs = lns rows) := Lib.hid (by rw [HO.out.2, List.take_of_length_le (by rw [lns_len]; exact Nat.le_refl _)])
        have HF2 : Hid (FewL rs) := Lib.hid (few_lns HF.out HLN.out)
        have HJ : Hid (joinP (rs.map LnR.data) = joinP (rows.map LnR.data)) := Lib.hid (by rw [data_lns, HLN.out, ← data_lns])
        obtain ⟨A3, c3, rfl, _⟩ := HO.out.1.full
        go_wp2_with (first
          | (go_at_call 16; refine (pjoin_any HO.out.1.at_ HF2.out).mono ?_; rintro e w4 ⟨t4, er4, rfl, hj4, hb4⟩; have HJ4 := Lib.hid hj4; have HB4 := Lib.hid hb4; clear hj4 hb4)
          | (go_at_call 17; refine (rjoin_any (HX.out.on (HB.out.trans (HB4.out.mono HB.out.size))) HF.out).mono ?_; rintro e w5 ⟨t5, er5, rfl, hj5, hb5⟩; have he := HJ4.out.symm.trans (HJ.out.trans hj5); injection he with he1 he2; subst he1 he2; have HB5 := Lib.hid hb5; clear hj5 hb5)
          | (go_at_call 12; refine (rsamel_any ((HO.out.1.keep HB4.out).keep HB5.out).at_ ((HX.out.on (HB.out.trans (HB4.out.mono HB.out.size))).on HB5.out)).mono ?_; rintro e w6 ⟨rfl, hb6⟩; rw [decide_eq_true HLN.out]; have HB6 := Lib.hid hb6; clear hb6))
        go_ret
        exact ⟨rfl, ((HB.out.trans (HB4.out.mono HB.out.size)).trans (HB5.out.mono (Nat.le_trans HB.out.size HB4.out.size))).trans (HB6.out.mono (Nat.le_trans (Nat.le_trans HB.out.size HB4.out.size) HB5.out.size))⟩
  · go_ret
    exact ⟨rfl, HB1.out⟩
end Go.Proofs.Ytbkgcikhiomenaa
