/-
  The program's answers for memories: Pop.
-/
import Derived.Test.YthddacnnhmcoaaaMmProg6
namespace Go.Proofs.Ythddacnnhmcoaaa
set_option linter.unusedVariables false
set_option linter.unusedSimpArgs false
open Go.ChangeShapes Go.WideShapes Go.ChangeAt Go.RowKit

section
variable {w : World} {A : Option Addr} {c : Nat} {rows : List BkR}
set_option maxHeartbeats 1600000 in
theorem ppop_any (h : MemFew w A c rows) (d : Int) {e0 : Int} {m0 : List Bk} (he : popE (mmb rows) d = e0) (hv : popM (mmb rows) d = m0) :
    Calls Try.prog 15 #[.slice A rows.length c, .int .i64 d] w (SomeMemE m0 e0 w) := by
  obtain ⟨mb, hmb⟩ : ∃ mb, mayM (mmb rows) = mb := ⟨_, rfl⟩
  have HX := Lib.hid h
  have HC := Lib.hid (pcheckm_is h.mem (e0 := if mb then 0 else 8) (by unfold checkM; rw [hmb]))
  have hE : e0 = if mb = false then 8 else if d < 1 then 2 else 0 := by rw [← he]; unfold popE; rw [hmb]
  have hV : m0 = if e0 = 0 then (mmb rows).map (popB d) else [] := by rw [← hv]; unfold popM; rw [he]
  have hlen := h.few
  clear h he hv hmb
  cases mb with
  | false =>
    obtain rfl : e0 = 8 := by rw [hE]; rfl
    obtain rfl : m0 = [] := by rw [hV]; rfl
    clear hE hV
    go_enter Try.func15, Try.ntmps15
    go_wp2_with fail
    refine HC.out.mono ?_
    rintro e w1 ⟨rfl, hb⟩
    have HB1 := Lib.hid hb
    clear hb
    go_wp2_with fail
    go_ret2
    exact SomeMemE.none (B := 0) HB1.out
  | true =>
    by_cases hd : d < 1
    · obtain rfl : e0 = 2 := by rw [hE, if_neg (by simp), if_pos hd]
      obtain rfl : m0 = [] := by rw [hV]; rfl
      clear hE hV
      go_enter Try.func15, Try.ntmps15
      go_wp2_with fail
      refine HC.out.mono ?_
      rintro e w1 ⟨rfl, hb⟩
      have HB1 := Lib.hid hb
      clear hb
      go_wp2_with fail
      go_ret2
      exact SomeMemE.none (B := 0) HB1.out
    · obtain rfl : e0 = 0 := by rw [hE, if_neg (by simp), if_neg hd]
      have HV : Hid (m0 = (mmb rows).map (popB d)) := Lib.hid (by rw [hV]; rfl)
      clear hE hV
      go_enter Try.func15, Try.ntmps15
      go_wp2_with fail
      refine HC.out.mono ?_
      rintro e w0 ⟨rfl, hb⟩
      have HB0 := Lib.hid hb
      have HT := Lib.hid (ptwinm_any (HX.out.on hb))
      clear hb
      go_wp2_with fail
      refine HT.out.mono ?_
      rintro e w1 ⟨v1, rows1, rfl, hown1, hm1, hb⟩
      obtain ⟨A1, c1, rfl, hmo⟩ := hown1.own
      have hl1 : rows1.length = rows.length := by have := congrArg List.length hm1; rwa [mmb_len, mmb_len] at this
      have hl1' : rows1.length ≤ 1000 := by omega
      have HB1 := Lib.hid (HB0.out.trans (hb.mono HB0.out.size))
      have HM := Lib.hid hm1
      have HO := Lib.hid (hmo.more HB0.out.size)
      clear hown1 hm1 hb hmo hl1
      go_wp2_with fail
      go_loopw [20] (fun i wr => ∃ (j : Nat) (cur : List BkR), j ≤ rows1.length ∧ i = .int .i64 j ∧ Hid (cur.length = rows1.length ∧ mmb cur = ((mmb rows1).take j).map (popB d) ++ (mmb rows1).drop j) ∧ MemOwn wr w.heap.size A1 c1 cur ∧ Below w.heap.size w wr) (fun i _ => rows1.length - (intOf i).toNat)
      case atStart => exact ⟨0, rows1, Nat.zero_le _, rfl, Lib.hid ⟨rfl, by simp⟩, HO.out, HB1.out⟩
      case round =>
        obtain ⟨j, cur, hj, rfl, HCU, hown, hbel⟩ := hrel
        have HOW := Lib.hid hown
        have HBL := Lib.hid hbel
        clear hown hbel
        by_cases hlt : j < rows1.length
        · have hjc : j < cur.length := by rw [HCU.out.1]; exact hlt
          have HJ := Lib.hid hjc
          have HAT : Hid ((cur.getD j default).data = (mmb rows1).getD j default) := Lib.hid (by
            rw [← mmb_at hjc, HCU.out.2, List.getD_eq_getElem?_getD, List.getElem?_append_right (by simp; omega), List.length_map, List.length_take, mmb_len, Nat.min_eq_left (by omega), Nat.sub_self, List.getElem?_drop, Nat.add_zero, List.getD_eq_getElem?_getD])
          have HNEXT : Hid (∀ b : Bk, b = popB d ((mmb rows1).getD j default) → (mmb cur).set j b = ((mmb rows1).take (j + 1)).map (popB d) ++ (mmb rows1).drop (j + 1)) := Lib.hid (by
            rintro b rfl
            have hl : j < (mmb rows1).length := by rw [mmb_len]; exact hlt
            rw [HCU.out.2, take_succ_getD (d := default) hl, List.map_append, List.drop_eq_getElem_cons hl, List.set_append_right _ _ (by simp; omega)]
            simp only [List.length_map, List.length_take, mmb_len, Nat.min_eq_left (Nat.le_of_lt hlt), Nat.sub_self, List.set_cons_zero, List.map_cons, List.map_nil, List.append_assoc, List.singleton_append])
          obtain ⟨bb, off, hA, hbk, d0, d1, d2, d3, d4⟩ := (HOW.out.mem.rows.elem hjc).at_
          by_cases hdp : d ≤ (cur.getD j default).depth
          · obtain ⟨g, hA2, hlo2, hg2, hcell, hfro, hput⟩ := HOW.out.putRow (i := j) (j := 3) hjc (by omega) { cur.getD j default with alive := false } rfl rfl rfl (fun q hq hne => by
              match q, hq with
              | 0, _ => rfl
              | 1, _ => rfl
              | 2, _ => rfl
              | 3, _ => exact absurd rfl hne
              | 4, _ => rfl)
            rw [hA] at hA2
            injection hA2 with hA2
            injection hA2 with e1 e2 _
            subst e1 e2
            subst hA
            rw [Nat.zero_add] at d2
            have HP := Lib.hid hput
            have HB2 := Lib.hid (HBL.out.setCell (p := ⟨bb, j * 5 + 3, none⟩) hlo2 (.bool false))
            have HR := Lib.hid (HNEXT.out ({ cur.getD j default with alive := false } : BkR).data (by rw [← HAT.out]; unfold popB; rw [if_pos (by exact hdp)]; rfl))
            clear hput d0 d1 d3 d4
            generalize hcv : (cur.getD j default).cell 3 = cv at hcell
            generalize (cur.getD j default).depth = dp at hdp d2
            have hdd : decide (d ≤ dp) = true := decide_eq_true hdp
            clear hcv
            go_wp2_with fail
            go_roundw
            case rel => exact ⟨j + 1, cur.set j { cur.getD j default with alive := false }, by omega, by go_num, Lib.hid ⟨by rw [List.length_set]; exact HCU.out.1, by rw [mmb_set]; exact HR.out⟩, HP.out, HB2.out⟩
            case measure => simp [intOf]; omega
          · subst hA
            have HR := Lib.hid (HNEXT.out (cur.getD j default).data (by rw [← HAT.out]; unfold popB; rw [if_neg (by exact hdp)]))
            have HSELF : Hid ((mmb cur).set j (cur.getD j default).data = mmb cur) := Lib.hid (by
              rw [← mmb_at hjc]
              have hl : j < (mmb cur).length := by rw [mmb_len]; exact hjc
              rw [getD_lt _ hl]
              exact List.set_getElem_self hl)
            clear d0 d1 d3 d4
            generalize (cur.getD j default).depth = dp at hdp d2
            have hdd : decide (d ≤ dp) = false := decide_eq_false hdp
            go_wp2_with fail
            go_roundw
            case rel => exact ⟨j + 1, cur, by omega, by go_num, Lib.hid ⟨HCU.out.1, by rw [← HR.out, HSELF.out]⟩, HOW.out, HBL.out⟩
            case measure => simp [intOf]; omega
        · have hjn : j = rows1.length := by omega
          have HE : Hid (mmb cur = (mmb rows).map (popB d)) := Lib.hid (by
            rw [HCU.out.2, List.take_of_length_le (by rw [mmb_len]; omega), List.drop_of_length_le (by rw [mmb_len]; omega), List.append_nil, HM.out])
          have HCL := Lib.hid HCU.out.1
          clear hjn
          go_wp2_with fail
          go_ret2
          exact ⟨A1, c1, cur, by rw [HCL.out]; rfl, HOW.out, by rw [HE.out, HV.out], HBL.out⟩
end
end Go.Proofs.Ythddacnnhmcoaaa
