/-
  The walk of the law MemTells.
-/
import Derived.Test.YthddacnnhmcoaaaMmHolds
import Derived.Test.YthddacnnhmcoaaaMmSameP
import Derived.Test.YthddacnnhmcoaaaMmSpoil
namespace Go.Proofs.Ythddacnnhmcoaaa
set_option linter.unusedVariables false
set_option linter.unusedSimpArgs false
open Go.ChangeShapes Go.WideShapes Go.ChangeAt Go.RowKit

set_option maxRecDepth 100000 in
set_option maxHeartbeats 6400000 in
theorem walk_MemTells {w : World} {A : Option Addr} {c : Nat} {rows : List BkR} (h : MemIn w A c rows) {A' : Option Addr} {c' : Nat} {rowso : List BkR} (h' : MemIn w A' c' rowso) (v : Vl) :
    Calls Try.prog 4 #[.slice A rows.length c, .slice A' rowso.length c', valV v.k v.n v.b v.t] w fun e w' => e = .returned (.bool true) ∧ Below w.heap.size w w' := by
  have hb0 : Below w.heap.size w (w.alloc (.cells #[.int .u8 v.k, .int .i64 v.n, .int .i64 v.b, .int .i64 v.t] 29)) := (Below.refl _ _).alloc (Nat.le_refl _) _
  have HQ0 := Lib.hid hb0
  have HK0 := Lib.hid (Blk.new w 29 #[.int .u8 v.k, .int .i64 v.n, .int .i64 v.b, .int .i64 v.t])
  cases hg : greatM rows with
  | true =>
    have HG := Lib.hid (mgreat_is (h.on hb0) hg)
    clear h h' hb0 hg
    go_enter Try.func4, Try.ntmps4
    go_wp2_with fail
    refine HG.out.mono ?_
    rintro e w1 ⟨rfl, rfl⟩
    go_wp2_with fail
    go_ret
    exact ⟨rfl, HQ0.out⟩
  | false =>
  cases hg' : greatM rowso with
  | true =>
    have HG := Lib.hid (mgreat_is (h.on hb0) hg)
    have HG' := Lib.hid (mgreat_is (h'.on hb0) hg')
    clear h h' hb0 hg hg'
    go_enter Try.func4, Try.ntmps4
    go_wp2_with fail
    refine HG.out.mono ?_
    rintro e w1 ⟨rfl, rfl⟩
    go_wp2_with fail
    refine HG'.out.mono ?_
    rintro e w1 ⟨rfl, rfl⟩
    go_wp2_with fail
    go_ret
    exact ⟨rfl, HQ0.out⟩
  | false =>
    have HG := Lib.hid (mgreat_is (h.on hb0) hg)
    have HG' := Lib.hid (mgreat_is (h'.on hb0) hg')
    have HF := Lib.hid (mfew_of h hg)
    have HO := Lib.hid h'
    have HFB := Lib.hid (FewB.of HF.out)
    obtain ⟨de, hde⟩ : ∃ x, depthE (mmb rows) v = x := ⟨_, rfl⟩
    obtain ⟨dm, hdm⟩ : ∃ x, depthM (mmb rows) v = x := ⟨_, rfl⟩
    obtain ⟨hm, hhm⟩ : ∃ x, holdsM (mmb rows) = x := ⟨_, rfl⟩
    obtain ⟨ce, hce⟩ : ∃ x, checkM (mmb rows) = x := ⟨_, rfl⟩
    obtain ⟨so, hso⟩ : ∃ x, decide (mmb rows = mmb rowso) = x := ⟨_, rfl⟩
    have HDE := Lib.hid hde
    have HDM := Lib.hid hdm
    have HHM := Lib.hid hhm
    have HCE := Lib.hid hce
    have HSO := Lib.hid hso
    clear h h' hb0 hg hg' hde hdm hhm hce hso
    go_enter Try.func4, Try.ntmps4
    go_wp2_with fail
    refine HG.out.mono ?_
    rintro e w1 ⟨rfl, rfl⟩
    go_wp2_with fail
    refine HG'.out.mono ?_
    rintro e w1 ⟨rfl, rfl⟩
    go_wp2_with fail
    refine (rtwinm_any (HF.out.on HQ0.out)).mono ?_
    rintro e w1 ⟨v1, rows1, rfl, hown1, hm1, hb⟩
    obtain ⟨A1, c1, rfl, hmo1⟩ := hown1.own
    have HM1 := Lib.hid hm1
    obtain ⟨hx1, hx2⟩ := HFB.out.rows hm1
    have HT1 : Hid (MemFew w1 A1 c1 rows1) := Lib.hid ⟨hmo1.mem, hx1, hx2⟩
    have HQ1 := Lib.hid (HQ0.out.trans (hb.mono HQ0.out.size))
    have HK1 := Lib.hid (HK0.out.beneath hb)
    have HL1 := Lib.hid (Below.refl w1.heap.size w1)
    clear hown1 hm1 hb hmo1 hx1 hx2
    go_wp2_with fail
    refine (ptwinm_any HT1.out).mono ?_
    rintro e w2 ⟨v2, rows2, rfl, hown2, hm2, hb⟩
    obtain ⟨A2, c2, rfl, hmo2⟩ := hown2.own
    have HM2 := Lib.hid (hm2.trans HM1.out)
    have HP2 := Lib.hid hmo2
    have HU2 := Lib.hid hmo2.under
    have HT2 := Lib.hid (HT1.out.on hb)
    have HK2 := Lib.hid (HK1.out.beneath hb)
    have HQ2 := Lib.hid (HQ1.out.trans (hb.mono HQ1.out.size))
    have HL2 := Lib.hid (HL1.out.trans (hb.mono HL1.out.size))
    clear hown2 hm2 hb hmo2
    have k0 := HK2.out.cells 0
    have k1 := HK2.out.cells 1
    have k2 := HK2.out.cells 2
    have k3 := HK2.out.cells 3
    go_wp2_with fail
    have hc := pdepth_any HT2.out.mem v ((congrArg (fun m => depthE m v) HM1.out).trans HDE.out) ((congrArg (fun m => depthM m v) HM1.out).trans HDM.out)
    refine hc.mono ?_
    clear hc
    rintro e w3 ⟨rfl, hb⟩
    have HP3 := Lib.hid (HP2.out.on hb)
    have HT3 := Lib.hid (HT2.out.on hb)
    have HK3 := Lib.hid (HK2.out.beneath hb)
    have HQ3 := Lib.hid (HQ2.out.trans (hb.mono HQ2.out.size))
    have HL3 := Lib.hid (HL2.out.trans (hb.mono HL2.out.size))
    clear hb
    clear k0 k1 k2 k3
    have k0 := HK3.out.cells 0
    have k1 := HK3.out.cells 1
    have k2 := HK3.out.cells 2
    have k3 := HK3.out.cells 3
    go_wp2_with fail
    have hc := rdepth_any (HF.out.on HQ3.out).mem v HDE.out HDM.out
    refine hc.mono ?_
    clear hc
    rintro e w4 ⟨rfl, hb⟩
    have HP4 := Lib.hid (HP3.out.on hb)
    have HT4 := Lib.hid (HT3.out.on hb)
    have HK4 := Lib.hid (HK3.out.beneath hb)
    have HQ4 := Lib.hid (HQ3.out.trans (hb.mono HQ3.out.size))
    have HL4 := Lib.hid (HL3.out.trans (hb.mono HL3.out.size))
    clear hb
    clear k0 k1 k2 k3
    go_wp2_with fail
    have hc := pholds_any HT4.out.mem
    rw [HM1.out, HHM.out, HCE.out] at hc
    refine hc.mono ?_
    clear hc
    rintro e w5 ⟨rfl, hb⟩
    have HP5 := Lib.hid (HP4.out.on hb)
    have HT5 := Lib.hid (HT4.out.on hb)
    have HK5 := Lib.hid (HK4.out.beneath hb)
    have HQ5 := Lib.hid (HQ4.out.trans (hb.mono HQ4.out.size))
    have HL5 := Lib.hid (HL4.out.trans (hb.mono HL4.out.size))
    clear hb
    go_wp2_with fail
    have hc := rholds_any (HF.out.on HQ5.out).mem
    rw [HHM.out, HCE.out] at hc
    refine hc.mono ?_
    clear hc
    rintro e w6 ⟨rfl, hb⟩
    have HP6 := Lib.hid (HP5.out.on hb)
    have HT6 := Lib.hid (HT5.out.on hb)
    have HK6 := Lib.hid (HK5.out.beneath hb)
    have HQ6 := Lib.hid (HQ5.out.trans (hb.mono HQ5.out.size))
    have HL6 := Lib.hid (HL5.out.trans (hb.mono HL5.out.size))
    clear hb
    go_wp2_with fail
    have hc := pcheckm_any HT6.out.mem
    rw [HM1.out, HCE.out] at hc
    refine hc.mono ?_
    clear hc
    rintro e w7 ⟨rfl, hb⟩
    have HP7 := Lib.hid (HP6.out.on hb)
    have HT7 := Lib.hid (HT6.out.on hb)
    have HK7 := Lib.hid (HK6.out.beneath hb)
    have HQ7 := Lib.hid (HQ6.out.trans (hb.mono HQ6.out.size))
    have HL7 := Lib.hid (HL6.out.trans (hb.mono HL6.out.size))
    clear hb
    go_wp2_with fail
    have hc := rcheckm_any (HF.out.on HQ7.out).mem
    rw [HCE.out] at hc
    refine hc.mono ?_
    clear hc
    rintro e w8 ⟨rfl, hb⟩
    have HP8 := Lib.hid (HP7.out.on hb)
    have HT8 := Lib.hid (HT7.out.on hb)
    have HK8 := Lib.hid (HK7.out.beneath hb)
    have HQ8 := Lib.hid (HQ7.out.trans (hb.mono HQ7.out.size))
    have HL8 := Lib.hid (HL7.out.trans (hb.mono HL7.out.size))
    clear hb
    go_wp2_with fail
    have hc := psame_any HT8.out.mem (HO.out.on HQ8.out)
    rw [HM1.out, HSO.out] at hc
    refine hc.mono ?_
    clear hc
    rintro e w9 ⟨rfl, hb⟩
    have HP9 := Lib.hid (HP8.out.on hb)
    have HT9 := Lib.hid (HT8.out.on hb)
    have HK9 := Lib.hid (HK8.out.beneath hb)
    have HQ9 := Lib.hid (HQ8.out.trans (hb.mono HQ8.out.size))
    have HL9 := Lib.hid (HL8.out.trans (hb.mono HL8.out.size))
    clear hb
    go_wp2_with fail
    have hc := rsamem_any (HF.out.on HQ9.out).mem (HO.out.on HQ9.out)
    rw [HSO.out] at hc
    refine hc.mono ?_
    clear hc
    rintro e w10 ⟨rfl, hq⟩
    have hb := hq.below
    clear hq
    have HP10 := Lib.hid (HP9.out.on hb)
    have HT10 := Lib.hid (HT9.out.on hb)
    have HK10 := Lib.hid (HK9.out.beneath hb)
    have HQ10 := Lib.hid (HQ9.out.trans (hb.mono HQ9.out.size))
    have HL10 := Lib.hid (HL9.out.trans (hb.mono HL9.out.size))
    clear hb
    go_wp2_with fail
    have hc := psame_any HT10.out.mem (HF.out.on HQ10.out).mem
    rw [decide_eq_true HM1.out] at hc
    refine hc.mono ?_
    clear hc
    rintro e w11 ⟨rfl, hb⟩
    have HP11 := Lib.hid (HP10.out.on hb)
    have HT11 := Lib.hid (HT10.out.on hb)
    have HK11 := Lib.hid (HK10.out.beneath hb)
    have HQ11 := Lib.hid (HQ10.out.trans (hb.mono HQ10.out.size))
    have HL11 := Lib.hid (HL10.out.trans (hb.mono HL10.out.size))
    clear hb
    go_wp2_with fail
    have hc := rsamem_any HP11.out.mem (HF.out.on HQ11.out).mem
    rw [decide_eq_true HM2.out] at hc
    refine hc.mono ?_
    clear hc
    rintro e w12 ⟨rfl, hq⟩
    have hb := hq.below
    clear hq
    have HP12 := Lib.hid (HP11.out.on hb)
    have HT12 := Lib.hid (HT11.out.on hb)
    have HK12 := Lib.hid (HK11.out.beneath hb)
    have HQ12 := Lib.hid (HQ11.out.trans (hb.mono HQ11.out.size))
    have HL12 := Lib.hid (HL11.out.trans (hb.mono HL11.out.size))
    clear hb
    go_wp2_with fail
    obtain ⟨hx1, hx2⟩ := HFB.out.rows HM2.out
    refine (spoil_any HP12.out HU2.out hx1 hx2).mono ?_
    clear hx1 hx2
    rintro e w90 ⟨⟨u90, rfl⟩, hb, _⟩
    have HL90 := Lib.hid (HL12.out.trans (hb.mono HL1.out.size))
    have HQ90 := Lib.hid (HQ12.out.trans (hb.mono HQ1.out.size))
    clear hb
    go_wp2_with fail
    have hc := rsamem_any (HT1.out.on HL90.out).mem (HF.out.on HQ90.out).mem
    rw [decide_eq_true HM1.out] at hc
    refine hc.mono ?_
    clear hc
    rintro e w91 ⟨rfl, hq⟩
    have HQ91 := Lib.hid (HQ90.out.trans (hq.below.mono HQ90.out.size))
    clear hq
    go_wp2_with fail
    go_ret
    exact ⟨rfl, HQ91.out⟩
end Go.Proofs.Ythddacnnhmcoaaa
