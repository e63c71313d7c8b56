/-
  The walk of the law FlatTells.
-/
import Derived.Test.YtphoomlamdelkaaFlatProg2
import Derived.Test.YtphoomlamdelkaaTypesAsks
namespace Go.Proofs.Ytphoomlamdelkaa
set_option linter.unusedVariables false
set_option linter.unusedSimpArgs false
open Go.ChangeShapes Go.WideShapes Go.ChangeAt Go.RowKit

set_option maxRecDepth 100000 in
set_option maxHeartbeats 3200000 in
theorem walk_FlatTells {w : World} {A : Option Addr} {c : Nat} {rows : List TyR} (h : TabIn w A c rows) (k : Int) (n : Int) (hn : (Lit.int .i64 n).wf = true) :
    Calls Try.prog 9 #[.slice A rows.length c, .int .i64 k, .int .i64 n] w fun e w' => e = .returned (.bool true) ∧ Below w.heap.size w w' := by
  have HX := Lib.hid h
  have hn2 : n ≤ 9223372036854775807 := by
    simp only [Lit.wf, Bool.and_eq_true, decide_eq_true_eq] at hn
    have h2 : IntKind.i64.max = 9223372036854775807 := by decide
    omega
  clear h hn
  cases hgr : greatT rows with
  | true =>
    have HGR := Lib.hid hgr
    clear hgr
    go_enter Try.func9, Try.ntmps9
    go_wp2_with fail
    refine (great_is HX.out.hdr HX.out.rows HGR.out).mono ?_
    rintro e w1 ⟨rfl, rfl⟩
    go_wp2_with fail
    go_ret
    exact ⟨rfl, Below.refl _ _⟩
  | false =>
    have HGR := Lib.hid hgr
    obtain ⟨hfew, hl20⟩ := few_of HX.out hgr
    have HF := Lib.hid hfew
    obtain ⟨er, her⟩ : ∃ er, askedT (tbl rows) k = er := ⟨_, rfl⟩
    obtain ⟨ls, hls⟩ : ∃ ls, fieldsT (tbl rows) k = ls := ⟨_, rfl⟩
    obtain ⟨p1, hp1⟩ : ∃ p1, (flatT (tbl rows) k n).1 = p1 := ⟨_, rfl⟩
    obtain ⟨p2, hp2⟩ : ∃ p2, (flatT (tbl rows) k n).2 = p2 := ⟨_, rfl⟩
    obtain ⟨o1, ho1⟩ : ∃ o1, (stepT (tbl rows) k n).1 = o1 := ⟨_, rfl⟩
    obtain ⟨o2, ho2⟩ : ∃ o2, (stepT (tbl rows) k n).2 = o2 := ⟨_, rfl⟩
    have hl32 : ls.length ≤ 32 := by
      rw [← hls]
      unfold fieldsT
      split
      · rename_i h0; exact Nat.le_trans (fla_len (asked_good h0)).2.1 (asked_good h0).le
      · simp
    have HER := Lib.hid her
    have HLS := Lib.hid hls
    have HP1 := Lib.hid hp1
    have HP2 := Lib.hid hp2
    have HO1 := Lib.hid ho1
    have HO2 := Lib.hid ho2
    clear hgr hfew her hls hp1 hp2 ho1 ho2
    go_enter Try.func9, Try.ntmps9
    go_wp2_with fail
    refine (great_is HX.out.hdr HX.out.rows HGR.out).mono ?_
    rintro e w1 ⟨rfl, rfl⟩
    go_wp2_with fail
    refine (rtwin_any HX.out (by omega) HF.out.few).mono ?_
    rintro e w1 ⟨v1, rows', rfl, hown1, he1, hb1⟩
    obtain ⟨A', c', rfl, htab1⟩ := own_tab hown1
    have HB1 := Lib.hid hb1
    have HE := Lib.hid he1
    have HW1 : Hid (TabFew w1 A' c' rows') := Lib.hid ⟨htab1, few_tbl he1 HF.out.few⟩
    clear hb1 hown1 htab1 he1
    go_wp2_with fail
    have hq0 : Below w1.heap.size w1 w1 := Below.refl _ _
    have HQ1 := Lib.hid hq0
    clear hq0
    have hc := pfields_any (HW1.out.on HQ1.out) k
    rw [HE.out, HER.out, HLS.out] at hc
    refine hc.mono ?_
    clear hc
    rintro e w2 ⟨va, rfl, ha, hb⟩
    obtain ⟨Aa, ca, rfl, hna, hia, hla, hma⟩ := ha.form
    have HHa : Hid (Hdr Aa ls.length ca) := Lib.hid ⟨hla, hma, hna⟩
    have HA2 := Lib.hid ha
    clear ha hna hia hla hma
    have HQ2 := Lib.hid (HQ1.out.trans (hb.mono HQ1.out.size))
    clear hb
    go_wp2_with fail
    have hc := rfields_any (HF.out.on (HB1.out.trans (HQ2.out.mono HB1.out.size))).tab k
    rw [HER.out, HLS.out] at hc
    refine hc.mono ?_
    clear hc
    rintro e w3 ⟨vb, rfl, ha, hb⟩
    have HA3 := Lib.hid (HA2.out.keep hb)
    obtain ⟨Ab, cb, rfl, hnb, hib, hlb, hmb⟩ := ha.form
    have HHb : Hid (Hdr Ab ls.length cb) := Lib.hid ⟨hlb, hmb, hnb⟩
    have HV3 := Lib.hid ha
    clear ha hnb hib hlb hmb
    have HQ3 := Lib.hid (HQ2.out.trans (hb.mono HQ2.out.size))
    clear hb
    go_wp2_with fail
    have hc := pflat_any (HW1.out.on HQ3.out) k n
    rw [HE.out, HP1.out, HP2.out] at hc
    refine hc.mono ?_
    clear hc
    rintro e w4 ⟨rfl, hb⟩
    have HA4 := Lib.hid (HA3.out.keep hb)
    have HV4 := Lib.hid (HV3.out.keep hb)
    have HQ4 := Lib.hid (HQ3.out.trans (hb.mono HQ3.out.size))
    clear hb
    go_wp2_with fail
    have hc := rflat_any (HF.out.on (HB1.out.trans (HQ4.out.mono HB1.out.size))).tab k n
    rw [HP1.out, HP2.out] at hc
    refine hc.mono ?_
    clear hc
    rintro e w5 ⟨rfl, hb⟩
    have HA5 := Lib.hid (HA4.out.keep hb)
    have HV5 := Lib.hid (HV4.out.keep hb)
    have HQ5 := Lib.hid (HQ4.out.trans (hb.mono HQ4.out.size))
    clear hb
    go_wp2_with fail
    have hc := pstep_any (HW1.out.on HQ5.out) k n
    rw [HE.out, HO1.out, HO2.out] at hc
    refine hc.mono ?_
    clear hc
    rintro e w6 ⟨rfl, hb⟩
    have HA6 := Lib.hid (HA5.out.keep hb)
    have HV6 := Lib.hid (HV5.out.keep hb)
    have HQ6 := Lib.hid (HQ5.out.trans (hb.mono HQ5.out.size))
    clear hb
    go_wp2_with fail
    have hc := rstep_any (HF.out.on (HB1.out.trans (HQ6.out.mono HB1.out.size))).tab k n hn2
    rw [HO1.out, HO2.out] at hc
    refine hc.mono ?_
    clear hc
    rintro e w7 ⟨rfl, hb⟩
    have HA7 := Lib.hid (HA6.out.keep hb)
    have HV7 := Lib.hid (HV6.out.keep hb)
    have HQ7 := Lib.hid (HQ6.out.trans (hb.mono HQ6.out.size))
    clear hb
    go_wp2_with fail
    obtain ⟨Aa2, ca2, hea, hna, hia, hla, hma⟩ := HA7.out.form
    obtain ⟨Ab2, cb2, heb, hnb, hib, hlb, hmb⟩ := HV7.out.form
    have hs := sameInts_any HHa.out (by injection hea with e1 e2 e3; rw [e1]; exact hia) HHb.out (by injection heb with e1 e2 e3; rw [e1]; exact hib)
    rw [decide_eq_true (rfl : ls = ls)] at hs
    clear hea hna hia hla hma heb hnb hib hlb hmb
    refine hs.mono ?_
    clear hs
    rintro e w8 ⟨rfl, hb⟩
    have HA8 := Lib.hid (HA7.out.keep hb)
    have HQ8 := Lib.hid (HQ7.out.trans (hb.mono HQ7.out.size))
    clear hb
    go_wp2_with fail
    go_loopw [21] (fun x wr => ∃ (j : Nat) (ys : List Int), j ≤ ls.length ∧ ys.length = ls.length ∧ x = .int .i64 j ∧ OwnInts wr w1.heap.size (.slice Aa ls.length ca) ys ∧ Below w1.heap.size w1 wr) (fun x _ => ls.length - (intOf x).toNat)
    case atStart => exact ⟨0, ls, Nat.zero_le _, rfl, rfl, HA8.out, HQ8.out⟩
    case round =>
      obtain ⟨j, ys, hj, hyl, rfl, hown, hbel⟩ := hrel
      have HBL := Lib.hid hbel
      by_cases hlt : j < ls.length
      · rw [← hyl] at hown
        obtain ⟨g, rfl, hg, hcell, hfro, hset⟩ := hown.spot (j := j) (by omega)
        have hb2 : Below w1.heap.size w1 (wr.setCell ⟨g, j, none⟩ (.int .i64 (-7))) := hbel.setCell hg _
        have HS := Lib.hid (hset (-7))
        have HB2 := Lib.hid hb2
        clear hown hg hset hb2 hbel
        go_wp2_with fail
        go_roundw
        case rel => exact ⟨j + 1, ys.set j (-7), by omega, by rw [List.length_set]; exact hyl, by go_num, by have := HS.out; rw [hyl] at this; exact this, HB2.out⟩
        case measure => simp [intOf]; omega
      · clear hown hbel
        go_wp2_with fail
        have hc := rsame_any (HW1.out.on HBL.out).tab (HF.out.on (HB1.out.trans (HBL.out.mono HB1.out.size))).tab
        rw [HE.out, decide_eq_true (rfl : tbl rows = tbl rows)] at hc
        refine hc.mono ?_
        clear hc
        rintro e w99 ⟨rfl, hb⟩
        have HQ99 := Lib.hid (HB1.out.trans ((HBL.out.trans (hb.mono HBL.out.size)).mono HB1.out.size))
        clear hb
        go_wp2_with fail
        go_ret
        exact ⟨rfl, HQ99.out⟩
end Go.Proofs.Ytphoomlamdelkaa
