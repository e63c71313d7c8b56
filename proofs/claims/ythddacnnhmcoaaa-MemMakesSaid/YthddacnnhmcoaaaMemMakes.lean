/-
  The walk of the law MemMakes.
-/
import Derived.Test.YthddacnnhmcoaaaMmNew6
import Derived.Test.YthddacnnhmcoaaaMmKinds
import Derived.Test.YthddacnnhmcoaaaMmProg7
import Derived.Test.YthddacnnhmcoaaaMmSame
namespace Go.Proofs.Ythddacnnhmcoaaa
set_option linter.unusedVariables false
set_option linter.unusedSimpArgs false
open Go.ChangeShapes Go.WideShapes Go.ChangeAt Go.RowKit

set_option maxRecDepth 100000 in
set_option maxHeartbeats 6400000 in
theorem walk_MemMakes {w : World} {A : Option Addr} {c : Nat} {rows : List BkR} (h : MemIn w A c rows) (si ki de : Int) {Ak : Option Addr} {ck : Nat} {l : List Int} (hk : KindsAt w Ak ck l) :
    Calls Try.prog 3 #[.slice A rows.length c, .agg #[.int .i64 si, .int .i64 ki, .int .i64 de], .slice Ak l.length ck] w fun e w' => e = .returned (.bool true) ∧ Below w.heap.size w w' := by
  have hb0 : Below w.heap.size w (w.alloc (.cells #[.int .i64 si, .int .i64 ki, .int .i64 de] 24)) := (Below.refl _ _).alloc (Nat.le_refl _) _
  have HQ0 := Lib.hid hb0
  have HKX0 := Lib.hid (Blk.new w 24 #[.int .i64 si, .int .i64 ki, .int .i64 de])
  cases hg : greatM rows with
  | true =>
    have HG := Lib.hid (mgreat_is (h.on hb0) hg)
    clear h hk hb0 hg
    go_enter Try.func3, Try.ntmps3
    go_wp2_with fail
    refine HG.out.mono ?_
    rintro e w1 ⟨rfl, rfl⟩
    go_wp2_with fail
    go_ret
    exact ⟨rfl, HQ0.out⟩
  | false =>
  by_cases hl : 40 < (l.length : Int)
  · have HG := Lib.hid (mgreat_is (h.on hb0) hg)
    clear h hk hb0 hg
    go_enter Try.func3, Try.ntmps3
    go_wp2_with fail
    refine HG.out.mono ?_
    rintro e w1 ⟨rfl, rfl⟩
    go_wp2_with fail
    go_ret
    exact ⟨rfl, HQ0.out⟩
  · have HG := Lib.hid (mgreat_is (h.on hb0) hg)
    have HGR := Lib.hid hg
    have HF := Lib.hid (mfew_of h hg)
    have HFB := Lib.hid (FewB.of HF.out)
    have HKI := Lib.hid hk
    obtain ⟨ne, hne⟩ : ∃ x, newE (mmb rows) si ki de l = x := ⟨_, rfl⟩
    obtain ⟨nm, hnm⟩ : ∃ x, newM (mmb rows) si ki de l = x := ⟨_, rfl⟩
    obtain ⟨np, hnp⟩ : ∃ x, newP (mmb rows) si ki de l = x := ⟨_, rfl⟩
    obtain ⟨oe, hoe⟩ : ∃ x, popE (mmb rows) de = x := ⟨_, rfl⟩
    obtain ⟨om, hom⟩ : ∃ x, popM (mmb rows) de = x := ⟨_, rfl⟩
    have HNE := Lib.hid hne
    have HNM := Lib.hid hnm
    have HNP := Lib.hid hnp
    have HOE := Lib.hid hoe
    have HOM := Lib.hid hom
    clear h hk hb0 hg hne hnm hnp hoe hom
    go_enter Try.func3, Try.ntmps3
    go_wp2_with fail
    refine HG.out.mono ?_
    rintro e w1 ⟨rfl, rfl⟩
    go_wp2_with fail
    refine (rtwinm_any (HF.out.on HQ0.out)).mono ?_
    rintro e w1 ⟨v1, rows1, rfl, hown1, hm1, hb⟩
    obtain ⟨A1, c1, rfl, hmo1⟩ := hown1.own
    have HM1 := Lib.hid hm1
    obtain ⟨hx1, hx2⟩ := HFB.out.rows hm1
    have HT1 : Hid (MemFew w1 A1 c1 rows1) := Lib.hid ⟨hmo1.mem, hx1, hx2⟩
    have HL1 := Lib.hid (Below.refl w1.heap.size w1)
    have HQ1 := Lib.hid (HQ0.out.trans (hb.mono HQ0.out.size))
    have HKX1 := Lib.hid (HKX0.out.beneath hb)
    have HKI1 := Lib.hid (HKI.out.on HQ1.out)
    clear hown1 hm1 hb hmo1 hx1 hx2
    go_wp2_with (at_builtin; refine wpList_appK rfl (.tmp 29) (.tmp 30) rfl rfl rfl HKI1.out (by omega) ?_; intro Ay cy w2 hki hb; refine pause ?_)
    have HMI2 := Lib.hid hki
    clear hki
    have HKX2 := Lib.hid (HKX1.out.beneath hb)
    have HT2 := Lib.hid (HT1.out.on hb)
    have HKI2 := Lib.hid (HKI1.out.on hb)
    have HL2 := Lib.hid (HL1.out.trans (hb.mono HL1.out.size))
    have HQ2 := Lib.hid (HQ1.out.trans (hb.mono HQ1.out.size))
    have HS2 := Lib.hid hb.size
    clear hb
    refine resume ?_
    have x0 := HKX2.out.cells 0
    have x1 := HKX2.out.cells 1
    have x2 := HKX2.out.cells 2
    go_wp2_with fail
    refine (pnew_any HT2.out HMI2.out (by omega) si ki de ((congrArg (fun m => newE m si ki de l) HM1.out).trans HNE.out) ((congrArg (fun m => newM m si ki de l) HM1.out).trans HNM.out) ((congrArg (fun m => newP m si ki de l) HM1.out).trans HNP.out)).mono ?_
    rintro e w3 ⟨va, ra, rfl, ho, hm, hb⟩
    obtain ⟨Aa, ca, rfl, ho'⟩ := ho.own
    have HaM := Lib.hid hm
    have HaU := Lib.hid ho'.under
    clear ho hm
    have HKX3 := Lib.hid (HKX2.out.beneath hb)
    have HT3 := Lib.hid (HT2.out.on hb)
    have HKI3 := Lib.hid (HKI2.out.on hb)
    have HMI3 := Lib.hid (HMI2.out.on hb)
    have HL3 := Lib.hid (HL2.out.trans (hb.mono HL2.out.size))
    have HQ3 := Lib.hid (HQ2.out.trans (hb.mono HQ2.out.size))
    have HS3 := Lib.hid hb.size
    clear hb
    have Ha_3 := Lib.hid ho'
    clear ho'
    have hb : Below w3.heap.size w3 (w3.alloc (.cells #[.int .u8 np.k, .int .i64 np.n, .int .i64 np.b, .int .i64 np.t] 29)) := (Below.refl _ _).alloc (Nat.le_refl _) _
    have HKX4 := Lib.hid (HKX3.out.beneath hb)
    have HT4 := Lib.hid (HT3.out.on hb)
    have HKI4 := Lib.hid (HKI3.out.on hb)
    have HMI4 := Lib.hid (HMI3.out.on hb)
    have Ha_4 := Lib.hid (Ha_3.out.on hb)
    have HL4 := Lib.hid (HL3.out.trans (hb.mono HL3.out.size))
    have HQ4 := Lib.hid (HQ3.out.trans (hb.mono HQ3.out.size))
    have HS4 := Lib.hid hb.size
    clear hb
    have KA4 := Lib.hid (Blk.new w3 29 #[.int .u8 np.k, .int .i64 np.n, .int .i64 np.b, .int .i64 np.t])
    clear x0 x1 x2
    have x0 := HKX4.out.cells 0
    have x1 := HKX4.out.cells 1
    have x2 := HKX4.out.cells 2
    go_wp2_with fail
    refine (rnew_any (HF.out.on HQ4.out) HKI4.out (by omega) si ki de HNE.out HNM.out HNP.out).mono ?_
    rintro e w4 ⟨vb, rb, rfl, ho, hm, hb⟩
    obtain ⟨Ab, cb, rfl, ho'⟩ := ho.own
    have HbM := Lib.hid hm
    have HbU := Lib.hid ho'.under
    clear ho hm
    have HKX5 := Lib.hid (HKX4.out.beneath hb)
    have HT5 := Lib.hid (HT4.out.on hb)
    have HKI5 := Lib.hid (HKI4.out.on hb)
    have HMI5 := Lib.hid (HMI4.out.on hb)
    have Ha_5 := Lib.hid (Ha_4.out.on hb)
    have KA5 := Lib.hid (KA4.out.beneath hb)
    have HL5 := Lib.hid (HL4.out.trans (hb.mono HL4.out.size))
    have HQ5 := Lib.hid (HQ4.out.trans (hb.mono HQ4.out.size))
    have HS5 := Lib.hid hb.size
    clear hb
    have Hb_5 := Lib.hid ho'
    clear ho'
    have hb : Below w4.heap.size w4 (w4.alloc (.cells #[.int .u8 np.k, .int .i64 np.n, .int .i64 np.b, .int .i64 np.t] 29)) := (Below.refl _ _).alloc (Nat.le_refl _) _
    have HKX6 := Lib.hid (HKX5.out.beneath hb)
    have HT6 := Lib.hid (HT5.out.on hb)
    have HKI6 := Lib.hid (HKI5.out.on hb)
    have HMI6 := Lib.hid (HMI5.out.on hb)
    have Ha_6 := Lib.hid (Ha_5.out.on hb)
    have KA6 := Lib.hid (KA5.out.beneath hb)
    have Hb_6 := Lib.hid (Hb_5.out.on hb)
    have HL6 := Lib.hid (HL5.out.trans (hb.mono HL5.out.size))
    have HQ6 := Lib.hid (HQ5.out.trans (hb.mono HQ5.out.size))
    have HS6 := Lib.hid hb.size
    clear hb
    have KB6 := Lib.hid (Blk.new w4 29 #[.int .u8 np.k, .int .i64 np.n, .int .i64 np.b, .int .i64 np.t])
    clear x0 x1 x2
    have x0 := HKX6.out.cells 0
    have x1 := HKX6.out.cells 1
    have x2 := HKX6.out.cells 2
    go_wp2_with fail
    refine (ppop_any HT6.out de ((congrArg (fun m => popE m de) HM1.out).trans HOE.out) ((congrArg (fun m => popM m de) HM1.out).trans HOM.out)).mono ?_
    rintro e w5 ⟨Ac, cc, rc, rfl, ho, hm, hb⟩
    have HcM := Lib.hid hm
    have HcU := Lib.hid ho.under
    have ho' := ho
    clear ho hm
    have HKX7 := Lib.hid (HKX6.out.beneath hb)
    have HT7 := Lib.hid (HT6.out.on hb)
    have HKI7 := Lib.hid (HKI6.out.on hb)
    have HMI7 := Lib.hid (HMI6.out.on hb)
    have Ha_7 := Lib.hid (Ha_6.out.on hb)
    have KA7 := Lib.hid (KA6.out.beneath hb)
    have Hb_7 := Lib.hid (Hb_6.out.on hb)
    have KB7 := Lib.hid (KB6.out.beneath hb)
    have HL7 := Lib.hid (HL6.out.trans (hb.mono HL6.out.size))
    have HQ7 := Lib.hid (HQ6.out.trans (hb.mono HQ6.out.size))
    have HS7 := Lib.hid hb.size
    clear hb
    have Hc_7 := Lib.hid ho'
    clear ho'
    clear x0 x1 x2
    have x0 := HKX7.out.cells 0
    have x1 := HKX7.out.cells 1
    have x2 := HKX7.out.cells 2
    go_wp2_with fail
    refine (rpop_any (HF.out.on HQ7.out) de HOE.out HOM.out).mono ?_
    rintro e w6 ⟨Ad, cd, rd, rfl, ho, hm, hb⟩
    have HdM := Lib.hid hm
    have HdU := Lib.hid ho.under
    have ho' := ho
    clear ho hm
    have HKX8 := Lib.hid (HKX7.out.beneath hb)
    have HT8 := Lib.hid (HT7.out.on hb)
    have HKI8 := Lib.hid (HKI7.out.on hb)
    have HMI8 := Lib.hid (HMI7.out.on hb)
    have Ha_8 := Lib.hid (Ha_7.out.on hb)
    have KA8 := Lib.hid (KA7.out.beneath hb)
    have Hb_8 := Lib.hid (Hb_7.out.on hb)
    have KB8 := Lib.hid (KB7.out.beneath hb)
    have Hc_8 := Lib.hid (Hc_7.out.on hb)
    have HL8 := Lib.hid (HL7.out.trans (hb.mono HL7.out.size))
    have HQ8 := Lib.hid (HQ7.out.trans (hb.mono HQ7.out.size))
    have HS8 := Lib.hid hb.size
    clear hb
    have Hd_8 := Lib.hid ho'
    clear ho'
    clear x0 x1 x2
    have hqv := eqValV
    go_wp2_with fail
    have hc := rsamem_any Ha_8.out.mem Hb_8.out.mem
    rw [decide_eq_true (HaM.out.trans HbM.out.symm)] at hc
    refine hc.mono ?_
    clear hc
    rintro e w7 ⟨rfl, hq⟩
    have hb := hq.below
    clear hq
    have HKX9 := Lib.hid (HKX8.out.beneath hb)
    have HT9 := Lib.hid (HT8.out.on hb)
    have HKI9 := Lib.hid (HKI8.out.on hb)
    have HMI9 := Lib.hid (HMI8.out.on hb)
    have Ha_9 := Lib.hid (Ha_8.out.on hb)
    have KA9 := Lib.hid (KA8.out.beneath hb)
    have Hb_9 := Lib.hid (Hb_8.out.on hb)
    have KB9 := Lib.hid (KB8.out.beneath hb)
    have Hc_9 := Lib.hid (Hc_8.out.on hb)
    have Hd_9 := Lib.hid (Hd_8.out.on hb)
    have HL9 := Lib.hid (HL8.out.trans (hb.mono HL8.out.size))
    have HQ9 := Lib.hid (HQ8.out.trans (hb.mono HQ8.out.size))
    have HS9 := Lib.hid hb.size
    clear hb
    have ka0 := KA9.out.cells 0
    have ka1 := KA9.out.cells 1
    have ka2 := KA9.out.cells 2
    have ka3 := KA9.out.cells 3
    have kb0 := KB9.out.cells 0
    have kb1 := KB9.out.cells 1
    have kb2 := KB9.out.cells 2
    have kb3 := KB9.out.cells 3
    go_wp2_with fail
    have hc := rsamem_any Hc_9.out.mem Hd_9.out.mem
    rw [decide_eq_true (HcM.out.trans HdM.out.symm)] at hc
    refine hc.mono ?_
    clear hc
    rintro e w8 ⟨rfl, hq⟩
    have hb := hq.below
    clear hq
    have HKX10 := Lib.hid (HKX9.out.beneath hb)
    have HT10 := Lib.hid (HT9.out.on hb)
    have HKI10 := Lib.hid (HKI9.out.on hb)
    have HMI10 := Lib.hid (HMI9.out.on hb)
    have Ha_10 := Lib.hid (Ha_9.out.on hb)
    have KA10 := Lib.hid (KA9.out.beneath hb)
    have Hb_10 := Lib.hid (Hb_9.out.on hb)
    have KB10 := Lib.hid (KB9.out.beneath hb)
    have Hc_10 := Lib.hid (Hc_9.out.on hb)
    have Hd_10 := Lib.hid (Hd_9.out.on hb)
    have HL10 := Lib.hid (HL9.out.trans (hb.mono HL9.out.size))
    have HQ10 := Lib.hid (HQ9.out.trans (hb.mono HQ9.out.size))
    have HS10 := Lib.hid hb.size
    clear hb
    clear ka0 ka1 ka2 ka3 kb0 kb1 kb2 kb3
    have hv1 := conv_kinds HMI10.out
    have hv2 := conv_kinds HKI10.out
    go_wp2_with fail
    clear hqv hv1 hv2
    obtain ⟨hx1, hx2⟩ := ((HNM.out ▸ FewB.make HGR.out si ki de (by omega) : FewB nm)).rows HaM.out
    refine (spoil_any Ha_10.out HaU.out hx1 hx2).mono ?_
    clear hx1 hx2
    rintro e w9 ⟨⟨u9, rfl⟩, hb, ha⟩
    have HL11 := Lib.hid (HL10.out.trans (hb.mono HL2.out.size))
    have HQ11 := Lib.hid (HQ10.out.trans (hb.mono HQ2.out.size))
    have HS11 := Lib.hid (Nat.le_of_eq ha.1.symm)
    have Hc_11 := Lib.hid (Hc_10.out.above ha (by have h4 := HS4.out; have h5 := HS5.out; have h6 := HS6.out; omega))
    clear hb ha
    go_wp2_with fail
    obtain ⟨hx1, hx2⟩ := ((HOM.out ▸ HFB.out.pop de : FewB om)).rows HcM.out
    refine (spoil_any Hc_11.out HcU.out hx1 hx2).mono ?_
    clear hx1 hx2
    rintro e w10 ⟨⟨u10, rfl⟩, hb, ha⟩
    have HL12 := Lib.hid (HL11.out.trans (hb.mono HL6.out.size))
    have HQ12 := Lib.hid (HQ11.out.trans (hb.mono HQ6.out.size))
    have HS12 := Lib.hid (Nat.le_of_eq ha.1.symm)
    clear hb ha
    go_wp2_with fail
    have hc := rsamem_any (HT1.out.on HL12.out).mem (HF.out.on HQ12.out).mem
    rw [decide_eq_true HM1.out] at hc
    refine hc.mono ?_
    clear hc
    rintro e w11 ⟨rfl, hq⟩
    have HQ99 := Lib.hid (HQ12.out.trans (hq.below.mono HQ12.out.size))
    clear hq
    go_wp2_with fail
    go_ret
    exact ⟨rfl, HQ99.out⟩
end Go.Proofs.Ythddacnnhmcoaaa
