/-
  The reference's answers for memories: how great, whether a value is one of it, whether it may be, pointers.
-/
import Derived.Test.YthddacnnhmcoaaaMmData
import Derived.Outline
import Derived.BigQuiet
import Derived.Deep.QuietTactic
namespace Go.Proofs.Ythddacnnhmcoaaa
set_option linter.unusedVariables false
set_option linter.unusedSimpArgs false
open Go.ChangeShapes Go.WideShapes Go.ChangeAt Go.RowKit

def greatM (rows : List BkR) : Bool := !((rows.take 50).all fun r => decide (r.cells.length ≤ 40)) || decide (40 < rows.length)
theorem mgreat_any {w : World} {A : Option Addr} {c : Nat} {rows : List BkR} (h : MemIn w A c rows) :
    Calls Try.prog 11 #[.slice A rows.length c] w fun e w' => e = .returned (.bool (greatM rows)) ∧ w = w' := by
  have hl := h.len
  have HX := Lib.hid h
  clear h
  go_enter Try.func11, Try.ntmps11
  go_wp2_with fail
  go_loop [3] (fun i => ∃ k : Nat, k ≤ rows.length ∧ k ≤ 50 ∧ i = .int .i64 k ∧ AllTo (fun r => decide (r.cells.length ≤ 40)) (rows.take 50) k) (fun i => 50 - (intOf i).toNat)
  case atStart => exact ⟨0, Nat.zero_le _, by omega, rfl, AllTo.zero _ _⟩
  case round =>
    obtain ⟨k, hk, hk50, rfl, hall⟩ := hrel
    have HA := Lib.hid hall
    clear hall
    by_cases hlt : k < rows.length ∧ k < 50
    · obtain ⟨hlt, h50⟩ := hlt
      obtain ⟨b, off, rfl, _, _, _, _, _, c4⟩ := (HX.out.rows.elem hlt).at_
      have HG : Hid ((rows.take 50).getD k default = rows.getD k default) := Lib.hid (by rw [List.getD_eq_getElem?_getD, List.getElem?_take, if_pos h50, ← List.getD_eq_getElem?_getD])
      have HL : Hid (k < (rows.take 50).length) := Lib.hid (by rw [List.length_take]; omega)
      have hlp := (HX.out.row hlt).hdr.le
      generalize rows.getD k default = r at c4 HG hlp
      by_cases hp : r.cells.length ≤ 40
      · go_wp2_with fail
        go_round
        case rel => exact ⟨k + 1, by omega, by omega, by go_num, HA.out.step (d := default) HL.out (by rw [HG.out]; simpa using hp)⟩
        case measure => simp [intOf]; omega
      · go_wp2_with fail
        go_ret
        refine ⟨ret_bool ?_, rfl⟩
        unfold greatM
        rw [all_stop (d := default) HL.out (by rw [HG.out]; simpa using hp)]
        rfl
    · by_cases h1 : k < rows.length
      · have h50 : ¬ k < 50 := fun h => hlt ⟨h1, h⟩
        clear hlt
        go_wp2_with fail
        all_goals go_ret
        all_goals refine ⟨ret_bool ?_, rfl⟩
        all_goals unfold greatM
        all_goals rw [HA.out.done (by rw [List.length_take]; omega)]
        all_goals (first | rfl | (rw [Bool.eq_iff_iff]; simp only [Bool.and_eq_true, Bool.or_eq_true, decide_eq_true_eq, beq_iff_eq, bne_iff_ne, Bool.not_eq_true', beq_eq_false_iff_ne, decide_eq_false_iff_not, Bool.false_eq_true, false_iff, true_iff, iff_false, iff_true, true_and, and_true, false_and, and_false, true_or, or_true, false_or, or_false, ne_eq]; first | done | omega | (intros; omega)) | (rw [Bool.eq_iff_iff]; simp [*]; done) | (rw [Bool.eq_iff_iff]; simp [*]; omega))
      · clear hlt
        go_wp2_with fail
        all_goals go_ret
        all_goals refine ⟨ret_bool ?_, rfl⟩
        all_goals unfold greatM
        all_goals rw [HA.out.done (by rw [List.length_take]; omega)]
        all_goals (first | rfl | (rw [Bool.eq_iff_iff]; simp only [Bool.and_eq_true, Bool.or_eq_true, decide_eq_true_eq, beq_iff_eq, bne_iff_ne, Bool.not_eq_true', beq_eq_false_iff_ne, decide_eq_false_iff_not, Bool.false_eq_true, false_iff, true_iff, iff_false, iff_true, true_and, and_true, false_and, and_false, true_or, or_true, false_or, or_false, ne_eq]; first | done | omega | (intros; omega)) | (rw [Bool.eq_iff_iff]; simp [*]; done) | (rw [Bool.eq_iff_iff]; simp [*]; omega))
theorem mgreat_is {w : World} {A : Option Addr} {c : Nat} {rows : List BkR} (h : MemIn w A c rows) {b : Bool} (hb : greatM rows = b) :
    Calls Try.prog 11 #[.slice A rows.length c] w fun e w' => e = .returned (.bool b) ∧ w = w' := hb ▸ mgreat_any h

/-- The row to which a pointer leads. -/
theorem blk_row {rows : List BkR} {v : Vl} {i : Nat} (hi : v.b - 1 = (i : Int)) (hl : i < rows.length) : blkOf (mmb rows) v = (rows.getD i default).data := by
  unfold blkOf
  rw [hi, Int.toNat_natCast, mmb_at hl]
section
variable {w : World} {A : Option Addr} {c : Nat} {rows : List BkR}
set_option maxHeartbeats 800000 in
theorem ris_any (h : MemIn w A c rows) (v : Vl) : Calls Try.prog 46 #[.slice A rows.length c, valV v.k v.n v.b v.t] w fun e w' => e = .returned (.bool (isV (mmb rows) v)) ∧ Below w.heap.size w w' := by
  have hl := h.len
  have HX := Lib.hid h
  clear h
  obtain ⟨mb, hmb⟩ : ∃ mb, mayB v.k v.n v.b v.t = mb := ⟨_, rfl⟩
  have HM := Lib.hid hmb
  have hb0 : Below w.heap.size w (w.alloc (.cells #[.int .u8 v.k, .int .i64 v.n, .int .i64 v.b, .int .i64 v.t] 29)) := (Below.refl _ _).alloc (Nat.le_refl _) _
  have HB0 := Lib.hid hb0
  have HK := Lib.hid (Blk.new w 29 #[.int .u8 v.k, .int .i64 v.n, .int .i64 v.b, .int .i64 v.t])
  have HC := Lib.hid (fun w => rmay_any v.k v.n v.b v.t w)
  rw [hmb] at HC
  clear hb0
  cases mb with
  | false =>
    have HI : Hid (isV (mmb rows) v = false) := Lib.hid (by unfold isV; rw [hmb]; rfl)
    clear hmb
    go_enter Try.func46, Try.ntmps46
    go_wp2_with fail
    refine (HC.out _).mono ?_
    rintro e w1 ⟨rfl, hb⟩
    have HB1 := Lib.hid (HB0.out.trans (hb.mono HB0.out.size))
    clear hb
    go_wp2_with fail
    go_ret
    exact ⟨ret_bool HI.out.symm, HB1.out⟩
  | true =>
    have HMP : Hid (MayP v.k v.n v.b v.t) := Lib.hid (by unfold mayB at hmb; exact of_decide_eq_true hmb)
    clear hmb
    by_cases hk : v.k = 2
    · by_cases hb : v.b = 0
      · have HI : Hid (isV (mmb rows) v = true) := Lib.hid (by unfold isV; rw [HM.out]; simp [hb])
        have hkk : (v.k != 2) = false := by simpa using hk
        have hbb : (v.b == 0) = true := by simpa using hb
        clear hk hb
        go_enter Try.func46, Try.ntmps46
        go_wp2_with fail
        refine (HC.out _).mono ?_
        rintro e w1 ⟨rfl, hb1⟩
        have k1 := HK.out.beneath hb1
        have c0 : w1.cell? ⟨w.heap.size, 0, none⟩ = some (.int .u8 v.k) := k1.cells 0
        have c2 : w1.cell? ⟨w.heap.size, 2, none⟩ = some (.int .i64 v.b) := k1.cells 2
        have HB1 := Lib.hid (HB0.out.trans (hb1.mono HB0.out.size))
        clear k1 hb1
        go_wp2_with fail
        go_ret
        exact ⟨ret_bool HI.out.symm, HB1.out⟩
      · have hb1 : 1 ≤ v.b := by have := HMP.out; unfold MayP at this; omega
        have ht0 : 0 ≤ v.t := by have := HMP.out; unfold MayP at this; omega
        by_cases hbl : v.b ≤ rows.length
        · obtain ⟨i, hi⟩ : ∃ i : Nat, v.b - 1 = i := ⟨(v.b - 1).toNat, by omega⟩
          have hil : i < rows.length := by omega
          have HI : Hid (isV (mmb rows) v = decide (v.t < (rows.getD i default).cells.length)) := Lib.hid (by
            unfold isV
            rw [HM.out, blk_row hi hil, mmb_len, decide_eq_false (by simpa using hk), decide_eq_false hb, decide_eq_true hbl]
            rfl)
          obtain ⟨bb, off, hA, hbk, _, _, _, _, c4⟩ := (HX.out.rows.elem hil).at_
          subst hA
          generalize rows.getD i default = r at HI c4
          have hwr : IntKind.i64.wrap (v.b - 1) = (i : Int) := by rw [IntWalk.i64_in _ (by omega)]; exact hi
          have hd : decide (v.b ≤ (rows.length : Int)) = true := by simpa using hbl
          have hi0 : (0 : Int) ≤ (i : Int) := Int.natCast_nonneg _
          have hi1 : (i : Int) < (rows.length : Int) := by omega
          have hkk : (v.k != 2) = false := by simpa using hk
          have hbb : (v.b == 0) = false := by simpa using hb
          clear hk hb
          go_enter Try.func46, Try.ntmps46
          go_wp2_with fail
          refine (HC.out _).mono ?_
          rintro e w1 ⟨rfl, hb2⟩
          have k1 := HK.out.beneath hb2
          have c0 : w1.cell? ⟨w.heap.size, 0, none⟩ = some (.int .u8 v.k) := k1.cells 0
          have c2 : w1.cell? ⟨w.heap.size, 2, none⟩ = some (.int .i64 v.b) := k1.cells 2
          have c3 : w1.cell? ⟨w.heap.size, 3, none⟩ = some (.int .i64 v.t) := k1.cells 3
          have HB1 := Lib.hid (HB0.out.trans (hb2.mono HB0.out.size))
          have d4 := (HB1.out.cell (p := ⟨bb, off + i * 5 + 4, none⟩) hbk).trans c4
          clear k1 hb2 c4
          go_wp2_with fail
          go_quiet (fail)
          go_wp2_with fail
          go_ret
          exact ⟨ret_bool (by rw [HI.out]), belowDrewN HB1.out _⟩
        · have HI : Hid (isV (mmb rows) v = false) := Lib.hid (by
            unfold isV
            rw [HM.out, mmb_len, decide_eq_false (by simpa using hk), decide_eq_false hb, decide_eq_false hbl]
            rfl)
          have hd : decide (v.b ≤ (rows.length : Int)) = false := by simpa using hbl
          have hkk : (v.k != 2) = false := by simpa using hk
          have hbb : (v.b == 0) = false := by simpa using hb
          clear hk hb hbl
          go_enter Try.func46, Try.ntmps46
          go_wp2_with fail
          refine (HC.out _).mono ?_
          rintro e w1 ⟨rfl, hb2⟩
          have k1 := HK.out.beneath hb2
          have c0 : w1.cell? ⟨w.heap.size, 0, none⟩ = some (.int .u8 v.k) := k1.cells 0
          have c2 : w1.cell? ⟨w.heap.size, 2, none⟩ = some (.int .i64 v.b) := k1.cells 2
          have c3 : w1.cell? ⟨w.heap.size, 3, none⟩ = some (.int .i64 v.t) := k1.cells 3
          have HB1 := Lib.hid (HB0.out.trans (hb2.mono HB0.out.size))
          clear k1 hb2
          go_wp2_with fail
          go_quiet (fail)
          go_wp2_with fail
          go_ret
          exact ⟨ret_bool (by rw [HI.out]), belowDrewN HB1.out _⟩
    · have HI : Hid (isV (mmb rows) v = true) := Lib.hid (by unfold isV; rw [HM.out]; simp [hk])
      have hkk : (v.k != 2) = true := by simpa using hk
      clear hk
      go_enter Try.func46, Try.ntmps46
      go_wp2_with fail
      refine (HC.out _).mono ?_
      rintro e w1 ⟨rfl, hb1⟩
      have k1 := HK.out.beneath hb1
      have c0 : w1.cell? ⟨w.heap.size, 0, none⟩ = some (.int .u8 v.k) := k1.cells 0
      have HB1 := Lib.hid (HB0.out.trans (hb1.mono HB0.out.size))
      clear k1 hb1
      go_wp2_with fail
      go_ret
      exact ⟨ret_bool HI.out.symm, HB1.out⟩
theorem ris_is (h : MemIn w A c rows) (v : Vl) {b : Bool} (hb : isV (mmb rows) v = b) : Calls Try.prog 46 #[.slice A rows.length c, valV v.k v.n v.b v.t] w fun e w' => e = .returned (.bool b) ∧ Below w.heap.size w w' := hb ▸ ris_any h v
end
theorem okB_num {m : List Bk} {b : Bk} : okB m b = (decide (0 ≤ b.site ∧ 0 ≤ b.type ∧ 0 ≤ b.depth ∧ 1 ≤ b.cells.length ∧ b.cells.length ≤ 32) && b.cells.all (isV m)) := by
  unfold okB
  rw [Bool.eq_iff_iff]
  simp only [Bool.and_eq_true, decide_eq_true_eq]
  constructor
  · rintro ⟨h1, h2, h3, h4, h5, h6⟩; exact ⟨⟨h1, h2, h3, h4, h5⟩, h6⟩
  · rintro ⟨⟨h1, h2, h3, h4, h5⟩, h6⟩; exact ⟨h1, h2, h3, h4, h5, h6⟩
section
variable {w : World} {A : Option Addr} {c : Nat} {rows : List BkR}
set_option maxHeartbeats 1600000 in
theorem rmaym_any (h : MemIn w A c rows) : Calls Try.prog 38 #[.slice A rows.length c] w fun e w' => e = .returned (.bool (mayM (mmb rows))) ∧ Below w.heap.size w w' := by
  have hl := h.len
  have HX := Lib.hid h
  clear h
  by_cases hbig : 4096 < rows.length
  · have HI : Hid (mayM (mmb rows) = false) := Lib.hid (by unfold mayM; rw [mmb_len, decide_eq_false (by omega)]; rfl)
    go_enter Try.func38, Try.ntmps38
    go_wp2_with fail
    go_ret
    exact ⟨ret_bool HI.out.symm, Below.refl _ _⟩
  have HI : Hid (mayM (mmb rows) = (mmb rows).all (okB (mmb rows))) := Lib.hid (by unfold mayM; rw [mmb_len, decide_eq_true (by omega)]; rfl)
  go_enter Try.func38, Try.ntmps38
  go_wp2_with fail
  go_loopw [3] (fun i wr => ∃ j : Nat, j ≤ rows.length ∧ i = .int .i64 j ∧ AllTo (okB (mmb rows)) (mmb rows) j ∧ Below w.heap.size w wr) (fun i _ => rows.length - (intOf i).toNat)
  case atStart => exact ⟨0, Nat.zero_le _, rfl, AllTo.zero _ _, Below.refl _ _⟩
  case round =>
    obtain ⟨j, hj, rfl, hall, hbel⟩ := hrel
    have HA := Lib.hid hall
    have HB := Lib.hid hbel
    clear hall hbel
    by_cases hlt : j < rows.length
    · have HLT : Hid (j < (mmb rows).length) := Lib.hid (by rw [mmb_len]; exact hlt)
      obtain ⟨bb, off, hA, hbk, c0, c1, c2, c3, c4⟩ := (HX.out.rows.elem hlt).at_
      subst hA
      have d0 := (HB.out.cell (p := ⟨bb, off + j * 5, none⟩) hbk).trans c0
      have d1 := (HB.out.cell (p := ⟨bb, off + j * 5 + 1, none⟩) hbk).trans c1
      have d2 := (HB.out.cell (p := ⟨bb, off + j * 5 + 2, none⟩) hbk).trans c2
      have d4 := (HB.out.cell (p := ⟨bb, off + j * 5 + 4, none⟩) hbk).trans c4
      have hr := HX.out.row hlt
      have HD : Hid ((mmb rows).getD j default = (rows.getD j default).data) := Lib.hid (mmb_at hlt)
      generalize rows.getD j default = r at c0 c1 c2 c3 c4 d0 d1 d2 d4 hr HD
      have hlr := hr.hdr.le
      have HR := Lib.hid hr
      have HOK : Hid (okB (mmb rows) r.data = (decide (0 ≤ r.site ∧ 0 ≤ r.type ∧ 0 ≤ r.depth ∧ 1 ≤ r.cells.length ∧ r.cells.length ≤ 32) && r.cells.all (isV (mmb rows)))) := Lib.hid okB_num
      clear hr c0 c1 c2 c3
      by_cases hnum : 0 ≤ r.site ∧ 0 ≤ r.type ∧ 0 ≤ r.depth ∧ 1 ≤ r.cells.length ∧ r.cells.length ≤ 32
      · have HOK2 : Hid (okB (mmb rows) r.data = r.cells.all (isV (mmb rows))) := Lib.hid (by rw [HOK.out, decide_eq_true hnum]; rfl)
        obtain ⟨n1, n2, n3, n4, n5⟩ := hnum
        go_wp2_with fail
        go_loopw [4] (fun i wr2 => ∃ q : Nat, q ≤ r.cells.length ∧ i = .int .i64 q ∧ AllTo (isV (mmb rows)) r.cells q ∧ Below wr.heap.size wr wr2) (fun i _ => r.cells.length - (intOf i).toNat)
        case atStart => exact ⟨0, Nat.zero_le _, rfl, AllTo.zero _ _, Below.refl _ _⟩
        case round =>
          obtain ⟨q, hq, rfl, hall, hbel⟩ := hrel
          have HQ := Lib.hid hall
          have HB2 := Lib.hid (HB.out.trans (hbel.mono HB.out.size))
          have HB3 := Lib.hid hbel
          have g4 := (HB2.out.cell (p := ⟨bb, off + j * 5 + 4, none⟩) hbk).trans c4
          clear hall hbel d0 d1 d2 d4
          by_cases hlq : q < r.cells.length
          · obtain ⟨b2, o2, v, hA2, hb2, v0, v1, v2, v3, HE⟩ := (HR.out.vals.keep HB2.out).elem hlq
            cases hiv : isV (mmb rows) v with
            | true =>
              have HC := Lib.hid (ris_is (HX.out.on HB2.out) v hiv)
              have HIV := Lib.hid hiv
              clear hiv
              rw [hA2] at g4
              clear hA2
              go_wp2_with fail
              refine HC.out.mono ?_
              rintro e w1 ⟨rfl, hb⟩
              have HB4 := Lib.hid (HB3.out.trans (hb.mono HB3.out.size))
              clear hb
              go_wp2_with fail
              go_roundw
              case rel => exact ⟨q + 1, by omega, by go_num, HQ.out.step (d := default) hlq (by rw [HE.out]; exact HIV.out), HB4.out⟩
              case measure => simp [intOf]; omega
            | false =>
              have HC := Lib.hid (ris_is (HX.out.on HB2.out) v hiv)
              have HF : Hid (mayM (mmb rows) = false) := Lib.hid (by
                rw [HI.out]
                refine all_stop (d := default) HLT.out ?_
                rw [HD.out, HOK2.out]
                exact all_stop (d := default) hlq (by rw [HE.out]; exact hiv))
              clear hiv
              rw [hA2] at g4
              clear hA2
              go_wp2_with fail
              refine HC.out.mono ?_
              rintro e w1 ⟨rfl, hb⟩
              have HB4 := Lib.hid (HB2.out.trans (hb.mono HB2.out.size))
              clear hb
              go_wp2_with fail
              go_ret
              exact ⟨ret_bool HF.out.symm, HB4.out⟩
          · go_wp2_with fail
            go_roundw
            case rel => exact ⟨j + 1, by omega, by go_num, HA.out.step (d := default) HLT.out (by rw [HD.out, HOK2.out]; exact HQ.out.done (by omega)), HB2.out⟩
            case measure => simp [intOf]; omega
      · have HF : Hid (mayM (mmb rows) = false) := Lib.hid (by
          rw [HI.out]
          refine all_stop (d := default) HLT.out ?_
          rw [HD.out, HOK.out, decide_eq_false hnum]; rfl)
        have HN := Lib.hid hnum
        clear hnum
        go_wp2_with fail
        all_goals first
          | (exfalso; have := HN.out; omega)
          | (go_ret; exact ⟨ret_bool HF.out.symm, HB.out⟩)
    · go_wp2_with fail
      go_ret
      exact ⟨ret_bool (by rw [HI.out, HA.out.done (by rw [mmb_len]; omega)]), HB.out⟩
theorem rmaym_is (h : MemIn w A c rows) {b : Bool} (hb : mayM (mmb rows) = b) : Calls Try.prog 38 #[.slice A rows.length c] w fun e w' => e = .returned (.bool b) ∧ Below w.heap.size w w' := hb ▸ rmaym_any h
theorem rcheckm_any (h : MemIn w A c rows) : Calls Try.prog 25 #[.slice A rows.length c] w fun e w' => e = .returned (.int .i64 (checkM (mmb rows))) ∧ Below w.heap.size w w' := by
  have HX := Lib.hid h
  clear h
  unfold checkM
  cases hm : mayM (mmb rows)
  all_goals
    have HC := Lib.hid (rmaym_is HX.out hm)
    clear hm
    go_enter Try.func25, Try.ntmps25
    go_wp2_with fail
    refine HC.out.mono ?_
    rintro e w1 ⟨rfl, hb⟩
    have HB := Lib.hid hb
    clear hb
    go_wp2_with fail
    go_ret
    exact ⟨rfl, HB.out⟩

set_option maxHeartbeats 800000 in
theorem rpointer_any (h : MemIn w A c rows) (p : Vl) : Calls Try.prog 64 #[.slice A rows.length c, valV p.k p.n p.b p.t] w fun e w' => e = .returned (.int .i64 (ptrM (mmb rows) p)) ∧ Below w.heap.size w w' := by
  have hb0 : Below w.heap.size w (w.alloc (.cells #[.int .u8 p.k, .int .i64 p.n, .int .i64 p.b, .int .i64 p.t] 29)) := (Below.refl _ _).alloc (Nat.le_refl _) _
  have HB0 := Lib.hid hb0
  have HX := Lib.hid (h.on hb0)
  have HK := Lib.hid (Blk.new w 29 #[.int .u8 p.k, .int .i64 p.n, .int .i64 p.b, .int .i64 p.t])
  clear hb0 h
  by_cases hk : p.k = 2
  · have hkk : (p.k != 2) = false := by simpa using hk
    cases hiv : isV (mmb rows) p with
    | false =>
      have HP : Hid (ptrM (mmb rows) p = 2) := Lib.hid (by unfold ptrM; rw [if_neg (by rw [hiv]; simp)])
      have HC := Lib.hid (ris_is HX.out p hiv)
      clear hiv hk
      go_enter Try.func64, Try.ntmps64
      go_wp2_with fail
      refine HC.out.mono ?_
      rintro e w1 ⟨rfl, hb⟩
      have HB1 := Lib.hid (HB0.out.trans (hb.mono HB0.out.size))
      clear hb
      go_wp2_with fail
      go_ret
      exact ⟨ret_i64 HP.out.symm, HB1.out⟩
    | true =>
      have HP : Hid (ptrM (mmb rows) p = if p.b = 0 then 140 else 0) := Lib.hid (by unfold ptrM; rw [if_pos ⟨hk, hiv⟩])
      have HC := Lib.hid (ris_is HX.out p hiv)
      clear hiv hk
      by_cases hb : p.b = 0
      · have hbb : (p.b == 0) = true := by simpa using hb
        have HP2 : Hid (ptrM (mmb rows) p = 140) := Lib.hid (by rw [HP.out, if_pos hb])
        clear hb
        go_enter Try.func64, Try.ntmps64
        go_wp2_with fail
        refine HC.out.mono ?_
        rintro e w1 ⟨rfl, hb1⟩
        have c2 : w1.cell? ⟨w.heap.size, 2, none⟩ = some (.int .i64 p.b) := (HK.out.beneath hb1).cells 2
        have HB1 := Lib.hid (HB0.out.trans (hb1.mono HB0.out.size))
        clear hb1
        go_wp2_with fail
        go_ret
        exact ⟨ret_i64 HP2.out.symm, HB1.out⟩
      · have hbb : (p.b == 0) = false := by simpa using hb
        have HP2 : Hid (ptrM (mmb rows) p = 0) := Lib.hid (by rw [HP.out, if_neg hb])
        clear hb
        go_enter Try.func64, Try.ntmps64
        go_wp2_with fail
        refine HC.out.mono ?_
        rintro e w1 ⟨rfl, hb1⟩
        have c2 : w1.cell? ⟨w.heap.size, 2, none⟩ = some (.int .i64 p.b) := (HK.out.beneath hb1).cells 2
        have HB1 := Lib.hid (HB0.out.trans (hb1.mono HB0.out.size))
        clear hb1
        go_wp2_with fail
        go_ret
        exact ⟨ret_i64 HP2.out.symm, HB1.out⟩
  · have hkk : (p.k != 2) = true := by simpa using hk
    have HP : Hid (ptrM (mmb rows) p = 2) := Lib.hid (by unfold ptrM; rw [if_neg (fun h => hk h.1)])
    clear hk
    go_enter Try.func64, Try.ntmps64
    go_wp2_with fail
    go_ret
    exact ⟨ret_i64 HP.out.symm, HB0.out⟩
theorem rpointer_is (h : MemIn w A c rows) (p : Vl) {e0 : Int} (he : ptrM (mmb rows) p = e0) : Calls Try.prog 64 #[.slice A rows.length c, valV p.k p.n p.b p.t] w fun e w' => e = .returned (.int .i64 e0) ∧ Below w.heap.size w w' := he ▸ rpointer_any h p

/-- Of a value of a memory. -/
theorem rdeep_any (h : MemIn w A c rows) (v : Vl) (hv : isV (mmb rows) v = true) : Calls Try.prog 47 #[.slice A rows.length c, valV v.k v.n v.b v.t] w fun e w' => e = .returned (.int .i64 (deepM (mmb rows) v)) ∧ Below w.heap.size w w' := by
  have hl := h.len
  by_cases hk : v.k = 2
  · have hkk : (v.k == 2) = true := by simpa using hk
    by_cases hb : 0 < v.b
    · have hbl := deep_in hv hk hb
      rw [mmb_len] at hbl
      obtain ⟨i, hi⟩ : ∃ i : Nat, v.b - 1 = i := ⟨(v.b - 1).toNat, by omega⟩
      have hil : i < rows.length := by omega
      have HD : Hid (deepM (mmb rows) v = (rows.getD i default).depth) := Lib.hid (by unfold deepM; rw [if_pos ⟨hk, hb⟩, blk_row hi hil]; rfl)
      obtain ⟨bb, off, hA, hbk, _, _, c2, _, _⟩ := (h.rows.elem hil).at_
      subst hA
      generalize rows.getD i default = r at HD c2
      have hwr : IntKind.i64.wrap (v.b - 1) = (i : Int) := by rw [IntWalk.i64_in _ (by omega)]; exact hi
      clear h hk hv
      go_enter Try.func47, Try.ntmps47
      go_wp2_with fail
      go_ret
      exact ⟨ret_i64 HD.out.symm, (Below.refl _ _).alloc (Nat.le_refl _) _⟩
    · have HD : Hid (deepM (mmb rows) v = 0) := Lib.hid (by unfold deepM; rw [if_neg (fun h => hb h.2)])
      clear h hk hv
      go_enter Try.func47, Try.ntmps47
      go_wp2_with fail
      go_ret
      exact ⟨ret_i64 HD.out.symm, (Below.refl _ _).alloc (Nat.le_refl _) _⟩
  · have hkk : (v.k == 2) = false := by simpa using hk
    have HD : Hid (deepM (mmb rows) v = 0) := Lib.hid (by unfold deepM; rw [if_neg (fun h => hk h.1)])
    clear h hk hv
    go_enter Try.func47, Try.ntmps47
    go_wp2_with fail
    go_ret
    exact ⟨ret_i64 HD.out.symm, (Below.refl _ _).alloc (Nat.le_refl _) _⟩
end
end Go.Proofs.Ythddacnnhmcoaaa
