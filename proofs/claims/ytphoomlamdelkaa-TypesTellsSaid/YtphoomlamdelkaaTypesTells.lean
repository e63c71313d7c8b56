/-
  The walk of the law TypesTells.
-/
import Derived.Test.YtphoomlamdelkaaTypSpoil
import Derived.Test.YtphoomlamdelkaaTypSameP
namespace Go.Proofs.Ytphoomlamdelkaa
set_option linter.unusedVariables false
set_option linter.unusedSimpArgs false
open Go.ChangeShapes Go.WideShapes Go.ChangeAt Go.RowKit

set_option maxRecDepth 100000 in
set_option maxHeartbeats 3200000 in
theorem walk_TypesTells {w : World} {A : Option Addr} {c : Nat} {rows : List TyR} (h : TabIn w A c rows) {B : Option Addr} {d : Nat} {rowso : List TyR} (h' : TabIn w B d rowso) :
    Calls Try.prog 3 #[.slice A rows.length c, .slice B rowso.length d] w fun e w' => e = .returned (.bool true) ∧ Below w.heap.size w w' := by
  have HX := Lib.hid h
  have HY := Lib.hid h'
  clear h h'
  cases hgr : greatT rows with
  | true =>
    have HGR := Lib.hid hgr
    clear hgr
    go_enter Try.func3, Try.ntmps3
    go_wp2_with fail
    refine (great_is HX.out.hdr HX.out.rows HGR.out).mono ?_
    rintro e w1 ⟨rfl, rfl⟩
    go_wp2_with fail
    go_ret
    exact ⟨rfl, Below.refl _ _⟩
  | false =>
  cases hgo : greatT rowso with
  | true =>
    have HGR := Lib.hid hgr
    have HGO := Lib.hid hgo
    clear hgr hgo
    go_enter Try.func3, Try.ntmps3
    go_wp2_with fail
    refine (great_is HX.out.hdr HX.out.rows HGR.out).mono ?_
    rintro e w1 ⟨rfl, rfl⟩
    go_wp2_with fail
    refine (great_is HY.out.hdr HY.out.rows HGO.out).mono ?_
    rintro e w1 ⟨rfl, rfl⟩
    go_wp2_with fail
    go_ret
    exact ⟨rfl, Below.refl _ _⟩
  | false =>
    have HGR := Lib.hid hgr
    have HGO := Lib.hid hgo
    obtain ⟨hfew, hl20⟩ := few_of HX.out hgr
    obtain ⟨hfewo, hl20o⟩ := few_of HY.out hgo
    have HF := Lib.hid hfew
    have HFO := Lib.hid hfewo
    obtain ⟨e0, he0⟩ : ∃ e0, checkT (tbl rows) = e0 := ⟨_, rfl⟩
    obtain ⟨d0, hd0⟩ : ∃ d0, decide (tbl rows = tbl rowso) = d0 := ⟨_, rfl⟩
    have HE0 := Lib.hid he0
    have HD0 := Lib.hid hd0
    clear hgr hgo hfew hfewo he0 hd0
    go_enter Try.func3, Try.ntmps3
    go_wp2_with fail
    refine (great_is HX.out.hdr HX.out.rows HGR.out).mono ?_
    rintro e w1 ⟨rfl, rfl⟩
    go_wp2_with fail
    refine (great_is HY.out.hdr HY.out.rows HGO.out).mono ?_
    rintro e w1 ⟨rfl, rfl⟩
    go_wp2_with fail
    refine (rtwin_any HX.out (by omega) HF.out.few).mono ?_
    rintro e w1 ⟨v1, rows', rfl, hown1, he1, hb1⟩
    obtain ⟨A', c', rfl, htab1⟩ := own_tab hown1
    have HB1 := Lib.hid hb1
    have HE := Lib.hid he1
    have hl1 : rows'.length ≤ 20 := by have := congrArg List.length he1; rw [tbl_len, tbl_len] at this; omega
    have HW1 : Hid (TabFew w1 A' c' rows') := Lib.hid ⟨htab1, few_tbl he1 HF.out.few⟩
    clear hb1 hown1 htab1 he1
    go_wp2_with fail
    refine (ptwin_any HW1.out (by omega)).mono ?_
    rintro e w2 ⟨v2, rows2, rfl, hown2, he2, hb2⟩
    obtain ⟨A2, c2, rfl, htab2⟩ := own_tab hown2
    have HQ2 := Lib.hid hb2
    have HE2 : Hid (tbl rows2 = tbl rows) := Lib.hid (he2.trans HE.out)
    have hl2 : rows2.length ≤ 20 := by have := congrArg List.length HE2.out; rw [tbl_len, tbl_len] at this; omega
    have HO2 := Lib.hid hown2
    have HT2 := Lib.hid htab2
    have HP2 := Lib.hid (few_tbl HE2.out HF.out.few)
    clear hb2 hown2 htab2 he2
    go_wp2_with fail
    have hc := pcheck_any (HW1.out.on HQ2.out)
    rw [HE.out, HE0.out] at hc
    refine hc.mono ?_
    clear hc
    rintro e w3 ⟨rfl, hb⟩
    have HO3 := Lib.hid (HO2.out.keep hb)
    have HT3 := Lib.hid (HT2.out.on hb)
    have HQ3 := Lib.hid (HQ2.out.trans (hb.mono HQ2.out.size))
    clear hb
    go_wp2_with fail
    have hc := rcheck_any (HF.out.on (HB1.out.trans (HQ3.out.mono HB1.out.size))).tab
    rw [HE0.out] at hc
    refine hc.mono ?_
    clear hc
    rintro e w4 ⟨rfl, hb⟩
    have HO4 := Lib.hid (HO3.out.keep hb)
    have HT4 := Lib.hid (HT3.out.on hb)
    have HQ4 := Lib.hid (HQ3.out.trans (hb.mono HQ3.out.size))
    clear hb
    go_wp2_with fail
    have hc := psame_any (HW1.out.on HQ4.out).tab (HFO.out.on (HB1.out.trans (HQ4.out.mono HB1.out.size))).tab
    rw [HE.out, HD0.out] at hc
    refine hc.mono ?_
    clear hc
    rintro e w5 ⟨rfl, hb⟩
    have HO5 := Lib.hid (HO4.out.keep hb)
    have HT5 := Lib.hid (HT4.out.on hb)
    have HQ5 := Lib.hid (HQ4.out.trans (hb.mono HQ4.out.size))
    clear hb
    go_wp2_with fail
    have hc := rsame_any (HF.out.on (HB1.out.trans (HQ5.out.mono HB1.out.size))).tab (HFO.out.on (HB1.out.trans (HQ5.out.mono HB1.out.size))).tab
    rw [HD0.out] at hc
    refine hc.mono ?_
    clear hc
    rintro e w6 ⟨rfl, hb⟩
    have HO6 := Lib.hid (HO5.out.keep hb)
    have HT6 := Lib.hid (HT5.out.on hb)
    have HQ6 := Lib.hid (HQ5.out.trans (hb.mono HQ5.out.size))
    clear hb
    go_wp2_with fail
    have hc := psame_any (HW1.out.on HQ6.out).tab (HF.out.on (HB1.out.trans (HQ6.out.mono HB1.out.size))).tab
    rw [HE.out, decide_eq_true (rfl : tbl rows = tbl rows)] at hc
    refine hc.mono ?_
    clear hc
    rintro e w7 ⟨rfl, hb⟩
    have HO7 := Lib.hid (HO6.out.keep hb)
    have HT7 := Lib.hid (HT6.out.on hb)
    have HQ7 := Lib.hid (HQ6.out.trans (hb.mono HQ6.out.size))
    clear hb
    go_wp2_with fail
    have hc := rsame_any HT7.out (HF.out.on (HB1.out.trans (HQ7.out.mono HB1.out.size))).tab
    rw [HE2.out, decide_eq_true (rfl : tbl rows = tbl rows)] at hc
    refine hc.mono ?_
    clear hc
    rintro e w8 ⟨rfl, hb⟩
    have HO8 := Lib.hid (HO7.out.keep hb)
    have HT8 := Lib.hid (HT7.out.on hb)
    have HQ8 := Lib.hid (HQ7.out.trans (hb.mono HQ7.out.size))
    clear hb
    go_wp2_with fail
    have hrow := HO8.out.row
    rcases hrow.2 with ⟨hv, hn⟩ | ⟨g, cap, cs, hv, hg, _⟩
    · injection hv with hv1 hv2 hv3
      subst hv1 hv3
      have hnil : rows2 = [] := List.eq_nil_of_length_eq_zero hn
      subst hnil
      clear hrow hn hv2
      go_loopw [8, 9] (fun i _ wr => i = .int .i64 0 ∧ wr = w8) (fun _ _ _ => 0)
      case atStart => exact ⟨rfl, rfl⟩
      case round =>
      obtain ⟨rfl, rfl⟩ := hrel
      have HBL := HQ8
      go_wp2_with fail
      have hc := rsame_any (HW1.out.on HBL.out).tab (HF.out.on (HB1.out.trans (HBL.out.mono HB1.out.size))).tab
      rw [HE.out, decide_eq_true (rfl : tbl rows = tbl rows)] at hc
      refine hc.mono ?_
      clear hc
      rintro e w99 ⟨rfl, hb⟩
      have HQ99 := Lib.hid (HB1.out.trans ((HBL.out.trans (hb.mono HBL.out.size)).mono HB1.out.size))
      clear hb
      go_wp2_with fail
      go_ret
      exact ⟨rfl, HQ99.out⟩
    · injection hv with hv1 hv2 hv3
      subst hv1 hv3
      have HS : Hid (Spoilt w8 w1.heap.size g c2 rows2) := Lib.hid (Spoilt.of HO8.out)
      have HG := Lib.hid hg
      clear hrow hv2 hg
      go_loopw [8, 9] (fun i _ wr => ∃ (k : Nat) (cur : List TyR), k ≤ rows2.length ∧ i = .int .i64 k ∧ cur.length = rows2.length ∧ (∀ r ∈ cur, r.parts.length ≤ 1000) ∧ Spoilt wr w1.heap.size g c2 cur ∧ Below w1.heap.size w1 wr) (fun i _ _ => rows2.length - (intOf i).toNat)
      case atStart => exact ⟨0, rows2, Nat.zero_le _, rfl, rfl, HP2.out, HS.out, HQ8.out⟩
      case round =>
      obtain ⟨k, cur, hk, rfl, hcl, hps, hsp, hbel⟩ := hrel
      have HBL := Lib.hid hbel
      have HSP := Lib.hid hsp
      have HCL := Lib.hid hcl
      have HPS := Lib.hid hps
      clear hbel hsp hcl hps
      by_cases hlt : k < rows2.length
      · have hkc : k < cur.length := by rw [HCL.out]; exact hlt
        have hpk := HPS.out _ (mem_getD (d := default) hkc)
        have HAT : Hid (∀ wo, Spoilt wo w1.heap.size g c2 cur → wo.cell? ⟨g, k * 4, none⟩ = some (.int .u8 (cur.getD k default).kind) ∧ wo.cell? ⟨g, k * 4 + 3, none⟩ = some (.slice (cur.getD k default).pa (cur.getD k default).parts.length (cur.getD k default).pc)) := Lib.hid fun wo ho => ⟨ho.at_ hkc (j := 0) (by omega), ho.at_ hkc (j := 3) (by omega)⟩
        have HPART : Hid (∀ wo, Spoilt wo w1.heap.size g c2 cur → ∀ j, j < (cur.getD k default).parts.length → ∃ b, (cur.getD k default).pa = some ⟨b, 0, none⟩ ∧ w1.heap.size ≤ b ∧ (∃ x, wo.cell? ⟨b, j, none⟩ = some (.int .i64 x)) ∧ wo.frozen? ⟨b, j, none⟩ = false ∧ ∀ z : Int, Spoilt (wo.setCell ⟨b, j, none⟩ (.int .i64 z)) w1.heap.size g c2 cur) := Lib.hid fun wo ho j hj => ho.part hkc hj
        generalize cur.getD k default = r at hpk HAT HPART
        obtain ⟨κ, el, ma, pa, pc, ps⟩ := r
        have hpk2 : ps.length ≤ 1000 := hpk
        clear hpk
        obtain ⟨_, d3⟩ := HAT.out _ HSP.out
        try simp only at d3
        go_wp2_with fail
        go_loopw [9] (fun i wo => ∃ (j : Nat), j ≤ ps.length ∧ i = .int .i64 j ∧ Spoilt wo w1.heap.size g c2 cur ∧ Below w1.heap.size w1 wo) (fun i _ => ps.length - (intOf i).toNat)
        case atStart => exact ⟨0, Nat.zero_le _, rfl, HSP.out, HBL.out⟩
        case round =>
        obtain ⟨j, hj, rfl, hsp, hbel⟩ := hrel
        have HSI := Lib.hid hsp
        have HBI := Lib.hid hbel
        clear hsp hbel d3
        obtain ⟨i0, i3⟩ := HAT.out _ HSI.out
        try simp only at i0 i3
        by_cases hj2 : j < ps.length
        · obtain ⟨b, hpa, hlo, ⟨x, hx⟩, hfr, hset⟩ := HPART.out _ HSI.out j hj2
          try simp only at hpa
          subst hpa
          have HS2 := Lib.hid (hset (-7))
          have HB2 := Lib.hid (HBI.out.setCell (p := ⟨b, j, none⟩) hlo (.int .i64 (-7)))
          clear hset hlo
          go_wp2_with fail
          go_roundw
          case rel => exact ⟨j + 1, by omega, by go_num, HS2.out, HB2.out⟩
          case measure => simp [intOf]; omega
        · obtain ⟨hlo, hfr, cur', hc1, hc2, hc3⟩ := HSI.out.kind hkc 9
          have HS2 := Lib.hid hc3
          have HB2 := Lib.hid (HBI.out.setCell (p := ⟨g, k * 4, none⟩) hlo (.int .u8 9))
          have HC1 := Lib.hid hc1
          have HC2 : Hid (∀ r ∈ cur', r.parts.length ≤ 1000) := Lib.hid fun r hr => by
            obtain ⟨i, hi, rfl⟩ := List.getElem_of_mem hr
            rw [← getD_lt (d := default) cur' hi, hc2 i]
            exact HPS.out _ (mem_getD (d := default) (by omega))
          clear hlo hc1 hc2 hc3
          go_wp2_with fail
          go_roundw
          case rel => exact ⟨k + 1, cur', by omega, by go_num, HC1.out.trans HCL.out, HC2.out, HS2.out, HB2.out⟩
          case measure => simp [intOf]; omega
      · go_wp2_with fail
        have hc := rsame_any (HW1.out.on HBL.out).tab (HF.out.on (HB1.out.trans (HBL.out.mono HB1.out.size))).tab
        rw [HE.out, decide_eq_true (rfl : tbl rows = tbl rows)] at hc
        refine hc.mono ?_
        clear hc
        rintro e w99 ⟨rfl, hb⟩
        have HQ99 := Lib.hid (HB1.out.trans ((HBL.out.trans (hb.mono HBL.out.size)).mono HB1.out.size))
        clear hb
        go_wp2_with fail
        go_ret
        exact ⟨rfl, HQ99.out⟩
end Go.Proofs.Ytphoomlamdelkaa
