/-
  The reference's answers for memories: Free, Pop.
-/
import Derived.Test.YthddacnnhmcoaaaMmDo
namespace Go.Proofs.Ythddacnnhmcoaaa
set_option linter.unusedVariables false
set_option linter.unusedSimpArgs false
open Go.ChangeShapes Go.WideShapes Go.ChangeAt Go.RowKit

section
variable {w : World} {A : Option Addr} {c : Nat} {rows : List BkR}
theorem free_bad {m : List Bk} {p : Vl} (hm : mayM m = false) : freeE m p = 8 ∧ freeM m p = [] := by
  have : freeE m p = 8 := by unfold freeE; rw [if_pos hm]
  exact ⟨this, by unfold freeM; rw [this]; rfl⟩
theorem SomeMemE.up {w w1 w' : World} {m : List Bk} {er : Int} {e : Ending} (hb : Below w.heap.size w w1) (h : SomeMemE m er w1 e w') : SomeMemE m er w e w' := by
  obtain ⟨A, c, rows, he, ho, hm, hb'⟩ := h
  exact ⟨A, c, rows, he, ho.more hb.size, hm, hb.trans (hb'.mono hb.size)⟩
theorem rfree_any (h : MemFew w A c rows) (p : Vl) {e0 : Int} {m0 : List Bk} (he : freeE (mmb rows) p = e0) (hv : freeM (mmb rows) p = m0) :
    Calls Try.prog 32 #[.slice A rows.length c, valV p.k p.n p.b p.t] w (SomeMemE m0 e0 w) := by
  have hb0 : Below w.heap.size w (w.alloc (.cells #[.int .u8 p.k, .int .i64 p.n, .int .i64 p.b, .int .i64 p.t] 29)) := (Below.refl _ _).alloc (Nat.le_refl _) _
  have HB0 := Lib.hid hb0
  have HX := Lib.hid (h.on hb0)
  have HK := Lib.hid (Blk.new w 29 #[.int .u8 p.k, .int .i64 p.n, .int .i64 p.b, .int .i64 p.t])
  have HE := Lib.hid he
  have HV := Lib.hid hv
  obtain ⟨mb, hmb⟩ : ∃ mb, mayM (mmb rows) = mb := ⟨_, rfl⟩
  have HM := Lib.hid hmb
  clear h hb0 he hv hmb
  have HC := Lib.hid (rmaym_is HX.out.mem HM.out)
  cases mb with
  | false =>
    obtain ⟨h1, h2⟩ := free_bad (p := p) HM.out
    obtain rfl : e0 = 8 := HE.out.symm.trans h1
    obtain rfl : m0 = [] := HV.out.symm.trans h2
    clear h1 h2
    go_enter Try.func32, Try.ntmps32
    go_wp2_with fail
    refine HC.out.mono ?_
    rintro e w1 ⟨rfl, hb⟩
    have HB1 := Lib.hid (HB0.out.trans (hb.mono HB0.out.size))
    clear hb
    go_wp2_with fail
    go_ret2
    exact SomeMemE.none (B := 0) HB1.out
  | true =>
    go_enter Try.func32, Try.ntmps32
    go_wp2_with fail
    refine HC.out.mono ?_
    rintro e w1 ⟨rfl, hb⟩
    have kb := HK.out.beneath hb
    have k0 := kb.cells 0
    have k1 := kb.cells 1
    have k2 := kb.cells 2
    have k3 := kb.cells 3
    have HB1 := Lib.hid (HB0.out.trans (hb.mono HB0.out.size))
    have HC2 := Lib.hid (rfreed_any (HX.out.on hb) p HE.out HV.out HM.out)
    clear hb kb
    go_wp2_with fail
    refine HC2.out.mono ?_
    rintro e w2 hsm
    have HS := Lib.hid (hsm.up HB1.out)
    obtain ⟨A2, c2, rows2, rfl, _⟩ := hsm
    clear k0 k1 k2 k3
    go_wp2_with fail
    go_ret2
    exact HS.out

theorem popB_len (d : Int) (b : Bk) : (popB d b).cells = b.cells := by unfold popB; split <;> rfl
set_option maxHeartbeats 1600000 in
theorem rpopped_any (h : MemFew w A c rows) (d : Int) : Calls Try.prog 41 #[.slice A rows.length c, .int .i64 d] w fun e w' => ∃ A2 c2 rows2, e = .returned (.slice A2 rows2.length c2) ∧ MemOwn w' w.heap.size A2 c2 rows2 ∧ mmb rows2 = (mmb rows).map (popB d) ∧ Below w.heap.size w w' := by
  have HT := Lib.hid (rtwinm_any h)
  have hlen := h.few
  clear h
  go_enter Try.func41, Try.ntmps41
  go_wp2_with fail
  refine HT.out.mono ?_
  rintro e w1 ⟨v1, rows1, rfl, hown1, hm1, hb⟩
  obtain ⟨A1, c1, rfl, hmo⟩ := hown1.own
  have hl1 : rows1.length = rows.length := by have := congrArg List.length hm1; rwa [mmb_len, mmb_len] at this
  have hl1' : rows1.length ≤ 1000 := by omega
  have HB1 := Lib.hid hb
  have HM := Lib.hid hm1
  have HO := Lib.hid hmo
  clear hown1 hm1 hb hmo hl1
  go_wp2_with fail
  go_loopw [6] (fun i wr => ∃ (j : Nat) (cur : List BkR), j ≤ rows1.length ∧ i = .int .i64 j ∧ Hid (cur.length = rows1.length ∧ mmb cur = ((mmb rows1).take j).map (popB d) ++ (mmb rows1).drop j) ∧ MemOwn wr w.heap.size A1 c1 cur ∧ Below w.heap.size w wr) (fun i _ => rows1.length - (intOf i).toNat)
  case atStart => exact ⟨0, rows1, Nat.zero_le _, rfl, Lib.hid ⟨rfl, by simp⟩, HO.out, HB1.out⟩
  case round =>
    obtain ⟨j, cur, hj, rfl, HCU, hown, hbel⟩ := hrel
    have HOW := Lib.hid hown
    have HBL := Lib.hid hbel
    clear hown hbel
    by_cases hlt : j < rows1.length
    · have hjc : j < cur.length := by rw [HCU.out.1]; exact hlt
      have HJ := Lib.hid hjc
      have HAT : Hid ((cur.getD j default).data = (mmb rows1).getD j default) := Lib.hid (by
        rw [← mmb_at hjc, HCU.out.2, List.getD_eq_getElem?_getD, List.getElem?_append_right (by simp; omega), List.length_map, List.length_take, mmb_len, Nat.min_eq_left (by omega), Nat.sub_self, List.getElem?_drop, Nat.add_zero, List.getD_eq_getElem?_getD])
      have HNEXT : Hid (∀ b : Bk, b = popB d ((mmb rows1).getD j default) → (mmb cur).set j b = ((mmb rows1).take (j + 1)).map (popB d) ++ (mmb rows1).drop (j + 1)) := Lib.hid (by
        rintro b rfl
        have hl : j < (mmb rows1).length := by rw [mmb_len]; exact hlt
        rw [HCU.out.2, take_succ_getD (d := default) hl, List.map_append, List.drop_eq_getElem_cons hl, List.set_append_right _ _ (by simp; omega)]
        simp only [List.length_map, List.length_take, mmb_len, Nat.min_eq_left (Nat.le_of_lt hlt), Nat.sub_self, List.set_cons_zero, List.map_cons, List.map_nil, List.append_assoc, List.singleton_append])
      obtain ⟨bb, off, hA, hbk, d0, d1, d2, d3, d4⟩ := (HOW.out.mem.rows.elem hjc).at_
      by_cases hdp : d ≤ (cur.getD j default).depth
      · obtain ⟨g, hA2, hlo2, hg2, hcell, hfro, hput⟩ := HOW.out.putRow (i := j) (j := 3) hjc (by omega) { cur.getD j default with alive := false } rfl rfl rfl (fun q hq hne => by
          match q, hq with
          | 0, _ => rfl
          | 1, _ => rfl
          | 2, _ => rfl
          | 3, _ => exact absurd rfl hne
          | 4, _ => rfl)
        rw [hA] at hA2
        injection hA2 with hA2
        injection hA2 with e1 e2 _
        subst e1 e2
        subst hA
        rw [Nat.zero_add] at d2
        have HP := Lib.hid hput
        have HB2 := Lib.hid (HBL.out.setCell (p := ⟨bb, j * 5 + 3, none⟩) hlo2 (.bool false))
        have HR := Lib.hid (HNEXT.out ({ cur.getD j default with alive := false } : BkR).data (by rw [← HAT.out]; unfold popB; rw [if_pos (by exact hdp)]; rfl))
        clear hput d0 d1 d3 d4
        generalize hcv : (cur.getD j default).cell 3 = cv at hcell
        generalize (cur.getD j default).depth = dp at hdp d2
        have hdd : decide (d ≤ dp) = true := decide_eq_true hdp
        clear hcv
        go_wp2_with fail
        go_roundw
        case rel => exact ⟨j + 1, cur.set j { cur.getD j default with alive := false }, by omega, by go_num, Lib.hid ⟨by rw [List.length_set]; exact HCU.out.1, by rw [mmb_set]; exact HR.out⟩, HP.out, HB2.out⟩
        case measure => simp [intOf]; omega
      · subst hA
        have HR := Lib.hid (HNEXT.out (cur.getD j default).data (by rw [← HAT.out]; unfold popB; rw [if_neg (by exact hdp)]))
        have HSELF : Hid ((mmb cur).set j (cur.getD j default).data = mmb cur) := Lib.hid (by
          rw [← mmb_at hjc]
          have hl : j < (mmb cur).length := by rw [mmb_len]; exact hjc
          rw [getD_lt _ hl]
          exact List.set_getElem_self hl)
        clear d0 d1 d3 d4
        generalize (cur.getD j default).depth = dp at hdp d2
        have hdd : decide (d ≤ dp) = false := decide_eq_false hdp
        go_wp2_with fail
        go_roundw
        case rel => exact ⟨j + 1, cur, by omega, by go_num, Lib.hid ⟨HCU.out.1, by rw [← HR.out, HSELF.out]⟩, HOW.out, HBL.out⟩
        case measure => simp [intOf]; omega
    · have hjn : j = rows1.length := by omega
      have HE : Hid (mmb cur = (mmb rows).map (popB d)) := Lib.hid (by
        rw [HCU.out.2, List.take_of_length_le (by rw [mmb_len]; omega), List.drop_of_length_le (by rw [mmb_len]; omega), List.append_nil, HM.out])
      have HCL := Lib.hid HCU.out.1
      clear hjn
      go_wp2_with fail
      go_ret
      exact ⟨A1, c1, cur, by rw [HCL.out]; rfl, HOW.out, HE.out, HBL.out⟩
theorem rpop_any (h : MemFew w A c rows) (d : Int) {e0 : Int} {m0 : List Bk} (he : popE (mmb rows) d = e0) (hv : popM (mmb rows) d = m0) :
    Calls Try.prog 16 #[.slice A rows.length c, .int .i64 d] w (SomeMemE m0 e0 w) := by
  obtain ⟨mb, hmb⟩ : ∃ mb, mayM (mmb rows) = mb := ⟨_, rfl⟩
  have HX := Lib.hid h
  have HC := Lib.hid (rmaym_is h.mem hmb)
  have hE : e0 = if mb = false then 8 else if d < 1 then 2 else 0 := by rw [← he]; unfold popE; rw [hmb]
  have hV : m0 = if e0 = 0 then (mmb rows).map (popB d) else [] := by rw [← hv]; unfold popM; rw [he]
  clear h he hv hmb
  cases mb with
  | false =>
    obtain rfl : e0 = 8 := by rw [hE]; rfl
    obtain rfl : m0 = [] := by rw [hV]; rfl
    clear hE hV
    go_enter Try.func16, Try.ntmps16
    go_wp2_with fail
    refine HC.out.mono ?_
    rintro e w1 ⟨rfl, hb⟩
    have HB1 := Lib.hid hb
    clear hb
    go_wp2_with fail
    go_ret2
    exact SomeMemE.none (B := 0) HB1.out
  | true =>
    by_cases hd : d < 1
    · obtain rfl : e0 = 2 := by rw [hE, if_neg (by simp), if_pos hd]
      obtain rfl : m0 = [] := by rw [hV]; rfl
      clear hE hV
      go_enter Try.func16, Try.ntmps16
      go_wp2_with fail
      refine HC.out.mono ?_
      rintro e w1 ⟨rfl, hb⟩
      have HB1 := Lib.hid hb
      clear hb
      go_wp2_with fail
      go_ret2
      exact SomeMemE.none (B := 0) HB1.out
    · obtain rfl : e0 = 0 := by rw [hE, if_neg (by simp), if_neg hd]
      have HV : Hid (m0 = (mmb rows).map (popB d)) := Lib.hid (by rw [hV]; rfl)
      clear hE hV
      go_enter Try.func16, Try.ntmps16
      go_wp2_with fail
      refine HC.out.mono ?_
      rintro e w1 ⟨rfl, hb⟩
      have HB1 := Lib.hid hb
      have HP := Lib.hid (rpopped_any (HX.out.on hb) d)
      clear hb
      go_wp2_with fail
      refine HP.out.mono ?_
      rintro e w2 ⟨A2, c2, rows2, rfl, ho, hm, hb⟩
      have HS : Hid (SomeMemE m0 0 w (.returned (.tuple #[.slice A2 rows2.length c2, .int .i64 0])) w2) := Lib.hid ⟨A2, c2, rows2, rfl, ho.more HB1.out.size, by rw [hm, HV.out], HB1.out.trans (hb.mono HB1.out.size)⟩
      clear ho hm hb
      go_wp2_with fail
      go_ret2
      exact HS.out
end
end Go.Proofs.Ythddacnnhmcoaaa
