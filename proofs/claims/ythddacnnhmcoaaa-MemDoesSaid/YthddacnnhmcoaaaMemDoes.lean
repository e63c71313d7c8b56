/-
  The walk of the law MemDoes.
-/
import Derived.Test.YthddacnnhmcoaaaMmSpoil
import Derived.Test.YthddacnnhmcoaaaMmSame
namespace Go.Proofs.Ythddacnnhmcoaaa
set_option linter.unusedVariables false
set_option linter.unusedSimpArgs false
open Go.ChangeShapes Go.WideShapes Go.ChangeAt Go.RowKit

set_option maxRecDepth 100000 in
set_option maxHeartbeats 6400000 in
theorem walk_MemDoes {w : World} {A : Option Addr} {c : Nat} {rows : List BkR} (h : MemIn w A c rows) (p v : Vl) (d : Int) :
    Calls Try.prog 5 #[.slice A rows.length c, valV p.k p.n p.b p.t, valV v.k v.n v.b v.t, .int .i64 d] w fun e w' => e = .returned (.bool true) ∧ Below w.heap.size w w' := by
  have hbx := Boxed.start w p v
  have HBX0 := Lib.hid hbx
  cases hg : greatM rows with
  | true =>
    have HG := Lib.hid (mgreat_is (h.on hbx.below) hg)
    clear h hbx hg
    go_enter Try.func5, Try.ntmps5
    go_wp2_with fail
    refine HG.out.mono ?_
    rintro e w1 ⟨rfl, rfl⟩
    go_wp2_with fail
    go_ret
    exact ⟨rfl, HBX0.out.below⟩
  | false =>
    have HG := Lib.hid (mgreat_is (h.on hbx.below) hg)
    have HF := Lib.hid (mfew_of h hg)
    have HFB := Lib.hid (FewB.of HF.out)
    obtain ⟨le, hle⟩ : ∃ x, loadE (mmb rows) p = x := ⟨_, rfl⟩
    obtain ⟨lv, hlv⟩ : ∃ x, loadV (mmb rows) p = x := ⟨_, rfl⟩
    obtain ⟨se, hse⟩ : ∃ x, storeE (mmb rows) p v = x := ⟨_, rfl⟩
    obtain ⟨sm, hsm⟩ : ∃ x, storeM (mmb rows) p v = x := ⟨_, rfl⟩
    obtain ⟨fe, hfe⟩ : ∃ x, freeE (mmb rows) p = x := ⟨_, rfl⟩
    obtain ⟨fm, hfm⟩ : ∃ x, freeM (mmb rows) p = x := ⟨_, rfl⟩
    obtain ⟨me, hme⟩ : ∃ x, moveE (mmb rows) p d = x := ⟨_, rfl⟩
    obtain ⟨mv, hmv⟩ : ∃ x, moveV (mmb rows) p d = x := ⟨_, rfl⟩
    have HLE := Lib.hid hle
    have HLV := Lib.hid hlv
    have HSE := Lib.hid hse
    have HSM := Lib.hid hsm
    have HFE := Lib.hid hfe
    have HFM := Lib.hid hfm
    have HME := Lib.hid hme
    have HMV := Lib.hid hmv
    clear h hbx hg hle hlv hse hsm hfe hfm hme hmv
    go_enter Try.func5, Try.ntmps5
    go_wp2_with fail
    refine HG.out.mono ?_
    rintro e w1 ⟨rfl, rfl⟩
    go_wp2_with fail
    refine (rtwinm_any (HF.out.on HBX0.out.below)).mono ?_
    rintro e w1 ⟨v1, rows1, rfl, hown1, hm1, hb⟩
    obtain ⟨A1, c1, rfl, hmo1⟩ := hown1.own
    have HBX1 := Lib.hid (HBX0.out.on hb)
    have HM1 := Lib.hid hm1
    obtain ⟨hx1, hx2⟩ := HFB.out.rows hm1
    have HT1 : Hid (MemFew w1 A1 c1 rows1) := Lib.hid ⟨hmo1.mem, hx1, hx2⟩
    have HL1 := Lib.hid (Below.refl w1.heap.size w1)
    have HQ1 := Lib.hid HBX1.out.below
    clear hown1 hm1 hb hmo1 hx1 hx2
    obtain ⟨i0, i1, i2, i3⟩ := HBX1.out.p
    go_wp2_with fail
    refine (pload_any HT1.out.mem p ((congrArg (fun m => loadE m p) HM1.out).trans HLE.out) ((congrArg (fun m => loadV m p) HM1.out).trans HLV.out)).mono ?_
    rintro e w2 ⟨rfl, hb⟩
    have HBX2 := Lib.hid (HBX1.out.on hb)
    have HT2 := Lib.hid (HT1.out.on hb)
    have HL2 := Lib.hid (HL1.out.trans (hb.mono HL1.out.size))
    have HQ2 := Lib.hid (HQ1.out.trans (hb.mono HQ1.out.size))
    have HS2 := Lib.hid hb.size
    clear hb
    have hb : Below w2.heap.size w2 (w2.alloc (.cells #[.int .u8 lv.k, .int .i64 lv.n, .int .i64 lv.b, .int .i64 lv.t] 29)) := (Below.refl _ _).alloc (Nat.le_refl _) _
    have HBX3 := Lib.hid (HBX2.out.on hb)
    have HT3 := Lib.hid (HT2.out.on hb)
    have HL3 := Lib.hid (HL2.out.trans (hb.mono HL2.out.size))
    have HQ3 := Lib.hid (HQ2.out.trans (hb.mono HQ2.out.size))
    have HS3 := Lib.hid hb.size
    clear hb
    have KA3 := Lib.hid (Blk.new w2 29 #[.int .u8 lv.k, .int .i64 lv.n, .int .i64 lv.b, .int .i64 lv.t])
    clear i0 i1 i2 i3
    obtain ⟨i0, i1, i2, i3⟩ := HBX3.out.p
    go_wp2_with fail
    refine (rload_any (HF.out.on HQ3.out).mem p HLE.out HLV.out).mono ?_
    rintro e w3 ⟨rfl, hb⟩
    have HBX4 := Lib.hid (HBX3.out.on hb)
    have HT4 := Lib.hid (HT3.out.on hb)
    have KA4 := Lib.hid (KA3.out.beneath hb)
    have HL4 := Lib.hid (HL3.out.trans (hb.mono HL3.out.size))
    have HQ4 := Lib.hid (HQ3.out.trans (hb.mono HQ3.out.size))
    have HS4 := Lib.hid hb.size
    clear hb
    have hb : Below w3.heap.size w3 (w3.alloc (.cells #[.int .u8 lv.k, .int .i64 lv.n, .int .i64 lv.b, .int .i64 lv.t] 29)) := (Below.refl _ _).alloc (Nat.le_refl _) _
    have HBX5 := Lib.hid (HBX4.out.on hb)
    have HT5 := Lib.hid (HT4.out.on hb)
    have KA5 := Lib.hid (KA4.out.beneath hb)
    have HL5 := Lib.hid (HL4.out.trans (hb.mono HL4.out.size))
    have HQ5 := Lib.hid (HQ4.out.trans (hb.mono HQ4.out.size))
    have HS5 := Lib.hid hb.size
    clear hb
    have KB5 := Lib.hid (Blk.new w3 29 #[.int .u8 lv.k, .int .i64 lv.n, .int .i64 lv.b, .int .i64 lv.t])
    clear i0 i1 i2 i3
    obtain ⟨i0, i1, i2, i3⟩ := HBX5.out.p
    obtain ⟨j0, j1, j2, j3⟩ := HBX5.out.v
    go_wp2_with fail
    refine (pstore_any HT5.out p v ((congrArg (fun m => storeE m p v) HM1.out).trans HSE.out) ((congrArg (fun m => storeM m p v) HM1.out).trans HSM.out)).mono ?_
    rintro e w4 ⟨Aa, ca, ra, rfl, ho, hm, hb⟩
    have HaM := Lib.hid hm
    have HaU := Lib.hid ho.under
    have ho' := ho
    clear ho hm
    have HBX6 := Lib.hid (HBX5.out.on hb)
    have HT6 := Lib.hid (HT5.out.on hb)
    have KA6 := Lib.hid (KA5.out.beneath hb)
    have KB6 := Lib.hid (KB5.out.beneath hb)
    have HL6 := Lib.hid (HL5.out.trans (hb.mono HL5.out.size))
    have HQ6 := Lib.hid (HQ5.out.trans (hb.mono HQ5.out.size))
    have HS6 := Lib.hid hb.size
    clear hb
    have Ha_6 := Lib.hid ho'
    clear ho'
    clear i0 i1 i2 i3 j0 j1 j2 j3
    obtain ⟨i0, i1, i2, i3⟩ := HBX6.out.p
    obtain ⟨j0, j1, j2, j3⟩ := HBX6.out.v
    go_wp2_with fail
    refine (rstore_any (HF.out.on HQ6.out) p v HSE.out HSM.out).mono ?_
    rintro e w5 ⟨Ab, cb, rb, rfl, ho, hm, hb⟩
    have HbM := Lib.hid hm
    have HbU := Lib.hid ho.under
    have ho' := ho
    clear ho hm
    have HBX7 := Lib.hid (HBX6.out.on hb)
    have HT7 := Lib.hid (HT6.out.on hb)
    have KA7 := Lib.hid (KA6.out.beneath hb)
    have KB7 := Lib.hid (KB6.out.beneath hb)
    have Ha_7 := Lib.hid (Ha_6.out.on hb)
    have HL7 := Lib.hid (HL6.out.trans (hb.mono HL6.out.size))
    have HQ7 := Lib.hid (HQ6.out.trans (hb.mono HQ6.out.size))
    have HS7 := Lib.hid hb.size
    clear hb
    have Hb_7 := Lib.hid ho'
    clear ho'
    clear i0 i1 i2 i3 j0 j1 j2 j3
    obtain ⟨i0, i1, i2, i3⟩ := HBX7.out.p
    go_wp2_with fail
    refine (pfree_any HT7.out p ((congrArg (fun m => freeE m p) HM1.out).trans HFE.out) ((congrArg (fun m => freeM m p) HM1.out).trans HFM.out)).mono ?_
    rintro e w6 ⟨Af, cf, rf, rfl, ho, hm, hb⟩
    have HfM := Lib.hid hm
    have HfU := Lib.hid ho.under
    have ho' := ho
    clear ho hm
    have HBX8 := Lib.hid (HBX7.out.on hb)
    have HT8 := Lib.hid (HT7.out.on hb)
    have KA8 := Lib.hid (KA7.out.beneath hb)
    have KB8 := Lib.hid (KB7.out.beneath hb)
    have Ha_8 := Lib.hid (Ha_7.out.on hb)
    have Hb_8 := Lib.hid (Hb_7.out.on hb)
    have HL8 := Lib.hid (HL7.out.trans (hb.mono HL7.out.size))
    have HQ8 := Lib.hid (HQ7.out.trans (hb.mono HQ7.out.size))
    have HS8 := Lib.hid hb.size
    clear hb
    have Hf_8 := Lib.hid ho'
    clear ho'
    clear i0 i1 i2 i3
    obtain ⟨i0, i1, i2, i3⟩ := HBX8.out.p
    go_wp2_with fail
    refine (rfree_any (HF.out.on HQ8.out) p HFE.out HFM.out).mono ?_
    rintro e w7 ⟨Ag, cg, rg, rfl, ho, hm, hb⟩
    have HgM := Lib.hid hm
    have HgU := Lib.hid ho.under
    have ho' := ho
    clear ho hm
    have HBX9 := Lib.hid (HBX8.out.on hb)
    have HT9 := Lib.hid (HT8.out.on hb)
    have KA9 := Lib.hid (KA8.out.beneath hb)
    have KB9 := Lib.hid (KB8.out.beneath hb)
    have Ha_9 := Lib.hid (Ha_8.out.on hb)
    have Hb_9 := Lib.hid (Hb_8.out.on hb)
    have Hf_9 := Lib.hid (Hf_8.out.on hb)
    have HL9 := Lib.hid (HL8.out.trans (hb.mono HL8.out.size))
    have HQ9 := Lib.hid (HQ8.out.trans (hb.mono HQ8.out.size))
    have HS9 := Lib.hid hb.size
    clear hb
    have Hg_9 := Lib.hid ho'
    clear ho'
    clear i0 i1 i2 i3
    obtain ⟨i0, i1, i2, i3⟩ := HBX9.out.p
    go_wp2_with fail
    refine (pmove_any HT9.out.mem p d ((congrArg (fun m => moveE m p d) HM1.out).trans HME.out) ((congrArg (fun m => moveV m p d) HM1.out).trans HMV.out)).mono ?_
    rintro e w8 ⟨rfl, hb⟩
    have HBX10 := Lib.hid (HBX9.out.on hb)
    have HT10 := Lib.hid (HT9.out.on hb)
    have KA10 := Lib.hid (KA9.out.beneath hb)
    have KB10 := Lib.hid (KB9.out.beneath hb)
    have Ha_10 := Lib.hid (Ha_9.out.on hb)
    have Hb_10 := Lib.hid (Hb_9.out.on hb)
    have Hf_10 := Lib.hid (Hf_9.out.on hb)
    have Hg_10 := Lib.hid (Hg_9.out.on hb)
    have HL10 := Lib.hid (HL9.out.trans (hb.mono HL9.out.size))
    have HQ10 := Lib.hid (HQ9.out.trans (hb.mono HQ9.out.size))
    have HS10 := Lib.hid hb.size
    clear hb
    have hb : Below w8.heap.size w8 (w8.alloc (.cells #[.int .u8 mv.k, .int .i64 mv.n, .int .i64 mv.b, .int .i64 mv.t] 29)) := (Below.refl _ _).alloc (Nat.le_refl _) _
    have HBX11 := Lib.hid (HBX10.out.on hb)
    have HT11 := Lib.hid (HT10.out.on hb)
    have KA11 := Lib.hid (KA10.out.beneath hb)
    have KB11 := Lib.hid (KB10.out.beneath hb)
    have Ha_11 := Lib.hid (Ha_10.out.on hb)
    have Hb_11 := Lib.hid (Hb_10.out.on hb)
    have Hf_11 := Lib.hid (Hf_10.out.on hb)
    have Hg_11 := Lib.hid (Hg_10.out.on hb)
    have HL11 := Lib.hid (HL10.out.trans (hb.mono HL10.out.size))
    have HQ11 := Lib.hid (HQ10.out.trans (hb.mono HQ10.out.size))
    have HS11 := Lib.hid hb.size
    clear hb
    have KC11 := Lib.hid (Blk.new w8 29 #[.int .u8 mv.k, .int .i64 mv.n, .int .i64 mv.b, .int .i64 mv.t])
    clear i0 i1 i2 i3
    obtain ⟨i0, i1, i2, i3⟩ := HBX11.out.p
    go_wp2_with fail
    refine (rmove_any (HF.out.on HQ11.out).mem p d HME.out HMV.out).mono ?_
    rintro e w9 ⟨rfl, hb⟩
    have HBX12 := Lib.hid (HBX11.out.on hb)
    have HT12 := Lib.hid (HT11.out.on hb)
    have KA12 := Lib.hid (KA11.out.beneath hb)
    have KB12 := Lib.hid (KB11.out.beneath hb)
    have Ha_12 := Lib.hid (Ha_11.out.on hb)
    have Hb_12 := Lib.hid (Hb_11.out.on hb)
    have Hf_12 := Lib.hid (Hf_11.out.on hb)
    have Hg_12 := Lib.hid (Hg_11.out.on hb)
    have KC12 := Lib.hid (KC11.out.beneath hb)
    have HL12 := Lib.hid (HL11.out.trans (hb.mono HL11.out.size))
    have HQ12 := Lib.hid (HQ11.out.trans (hb.mono HQ11.out.size))
    have HS12 := Lib.hid hb.size
    clear hb
    have hb : Below w9.heap.size w9 (w9.alloc (.cells #[.int .u8 mv.k, .int .i64 mv.n, .int .i64 mv.b, .int .i64 mv.t] 29)) := (Below.refl _ _).alloc (Nat.le_refl _) _
    have HBX13 := Lib.hid (HBX12.out.on hb)
    have HT13 := Lib.hid (HT12.out.on hb)
    have KA13 := Lib.hid (KA12.out.beneath hb)
    have KB13 := Lib.hid (KB12.out.beneath hb)
    have Ha_13 := Lib.hid (Ha_12.out.on hb)
    have Hb_13 := Lib.hid (Hb_12.out.on hb)
    have Hf_13 := Lib.hid (Hf_12.out.on hb)
    have Hg_13 := Lib.hid (Hg_12.out.on hb)
    have KC13 := Lib.hid (KC12.out.beneath hb)
    have HL13 := Lib.hid (HL12.out.trans (hb.mono HL12.out.size))
    have HQ13 := Lib.hid (HQ12.out.trans (hb.mono HQ12.out.size))
    have HS13 := Lib.hid hb.size
    clear hb
    have KD13 := Lib.hid (Blk.new w9 29 #[.int .u8 mv.k, .int .i64 mv.n, .int .i64 mv.b, .int .i64 mv.t])
    have hqv := eqValV
    clear i0 i1 i2 i3
    have ka0 := KA13.out.cells 0
    have ka1 := KA13.out.cells 1
    have ka2 := KA13.out.cells 2
    have ka3 := KA13.out.cells 3
    have kb0 := KB13.out.cells 0
    have kb1 := KB13.out.cells 1
    have kb2 := KB13.out.cells 2
    have kb3 := KB13.out.cells 3
    go_wp2_with fail
    have hc := rsamem_any Ha_13.out.mem Hb_13.out.mem
    rw [decide_eq_true (HaM.out.trans HbM.out.symm)] at hc
    refine hc.mono ?_
    clear hc
    rintro e w10 ⟨rfl, hq⟩
    have hb := hq.below
    clear hq
    have HBX14 := Lib.hid (HBX13.out.on hb)
    have HT14 := Lib.hid (HT13.out.on hb)
    have KA14 := Lib.hid (KA13.out.beneath hb)
    have KB14 := Lib.hid (KB13.out.beneath hb)
    have Ha_14 := Lib.hid (Ha_13.out.on hb)
    have Hb_14 := Lib.hid (Hb_13.out.on hb)
    have Hf_14 := Lib.hid (Hf_13.out.on hb)
    have Hg_14 := Lib.hid (Hg_13.out.on hb)
    have KC14 := Lib.hid (KC13.out.beneath hb)
    have KD14 := Lib.hid (KD13.out.beneath hb)
    have HL14 := Lib.hid (HL13.out.trans (hb.mono HL13.out.size))
    have HQ14 := Lib.hid (HQ13.out.trans (hb.mono HQ13.out.size))
    have HS14 := Lib.hid hb.size
    clear hb
    clear ka0 ka1 ka2 ka3 kb0 kb1 kb2 kb3
    go_wp2_with fail
    have hc := rsamem_any Hf_14.out.mem Hg_14.out.mem
    rw [decide_eq_true (HfM.out.trans HgM.out.symm)] at hc
    refine hc.mono ?_
    clear hc
    rintro e w11 ⟨rfl, hq⟩
    have hb := hq.below
    clear hq
    have HBX15 := Lib.hid (HBX14.out.on hb)
    have HT15 := Lib.hid (HT14.out.on hb)
    have KA15 := Lib.hid (KA14.out.beneath hb)
    have KB15 := Lib.hid (KB14.out.beneath hb)
    have Ha_15 := Lib.hid (Ha_14.out.on hb)
    have Hb_15 := Lib.hid (Hb_14.out.on hb)
    have Hf_15 := Lib.hid (Hf_14.out.on hb)
    have Hg_15 := Lib.hid (Hg_14.out.on hb)
    have KC15 := Lib.hid (KC14.out.beneath hb)
    have KD15 := Lib.hid (KD14.out.beneath hb)
    have HL15 := Lib.hid (HL14.out.trans (hb.mono HL14.out.size))
    have HQ15 := Lib.hid (HQ14.out.trans (hb.mono HQ14.out.size))
    have HS15 := Lib.hid hb.size
    clear hb
    have kc0 := KC15.out.cells 0
    have kc1 := KC15.out.cells 1
    have kc2 := KC15.out.cells 2
    have kc3 := KC15.out.cells 3
    have kd0 := KD15.out.cells 0
    have kd1 := KD15.out.cells 1
    have kd2 := KD15.out.cells 2
    have kd3 := KD15.out.cells 3
    go_wp2_with fail
    clear kc0 kc1 kc2 kc3 kd0 kd1 kd2 kd3
    clear hqv
    obtain ⟨hx1, hx2⟩ := ((HSM.out ▸ HFB.out.store p v : FewB sm)).rows HaM.out
    refine (spoil_any Ha_15.out HaU.out hx1 hx2).mono ?_
    clear hx1 hx2
    rintro e w12 ⟨⟨u12, rfl⟩, hb, ha⟩
    have HL16 := Lib.hid (HL15.out.trans (hb.mono HL5.out.size))
    have HQ16 := Lib.hid (HQ15.out.trans (hb.mono HQ5.out.size))
    have HS16 := Lib.hid (Nat.le_of_eq ha.1.symm)
    have Hf_16 := Lib.hid (Hf_15.out.above ha (by have h7 := HS7.out; omega))
    clear hb ha
    go_wp2_with fail
    obtain ⟨hx1, hx2⟩ := ((HFM.out ▸ HFB.out.free p : FewB fm)).rows HfM.out
    refine (spoil_any Hf_16.out HfU.out hx1 hx2).mono ?_
    clear hx1 hx2
    rintro e w13 ⟨⟨u13, rfl⟩, hb, ha⟩
    have HL17 := Lib.hid (HL16.out.trans (hb.mono HL7.out.size))
    have HQ17 := Lib.hid (HQ16.out.trans (hb.mono HQ7.out.size))
    have HS17 := Lib.hid (Nat.le_of_eq ha.1.symm)
    clear hb ha
    go_wp2_with fail
    have hc := rsamem_any (HT1.out.on HL17.out).mem (HF.out.on HQ17.out).mem
    rw [decide_eq_true HM1.out] at hc
    refine hc.mono ?_
    clear hc
    rintro e w14 ⟨rfl, hq⟩
    have HQ99 := Lib.hid (HQ17.out.trans (hq.below.mono HQ17.out.size))
    clear hq
    go_wp2_with fail
    go_ret
    exact ⟨rfl, HQ99.out⟩
end Go.Proofs.Ythddacnnhmcoaaa
