/-
  The walk of the law MemLife.
-/
import Derived.Test.YthddacnnhmcoaaaMmAlive
import Derived.Test.YthddacnnhmcoaaaMmLaws3
import Derived.Test.YthddacnnhmcoaaaMmKinds
import Derived.Test.YthddacnnhmcoaaaMmHolds
import Derived.Test.YthddacnnhmcoaaaMemNames
import Derived.Deep.CutRange
namespace Go.Proofs.Ythddacnnhmcoaaa
set_option linter.unusedVariables false
set_option linter.unusedSimpArgs false
open Go.ChangeShapes Go.WideShapes Go.ChangeAt Go.RowKit

theorem held {e : Int} {b : Bool} (h : e = 0 → b = true) : (e == 0) = false ∨ ((e == 0) = true ∧ b = true) := by
  by_cases he : e = 0
  · exact .inr ⟨beq_iff_eq.2 he, h he⟩
  · exact .inl (beq_eq_false_iff_ne.2 he)
set_option maxRecDepth 100000 in
set_option maxHeartbeats 12800000 in
theorem walk_MemLife {w : World} {A : Option Addr} {c : Nat} {rows : List BkR} (h : MemIn w A c rows) (p v : Vl) (d : Int) :
    Calls Try.prog 9 #[.slice A rows.length c, valV p.k p.n p.b p.t, valV v.k v.n v.b v.t, .int .i64 d] w fun e w' => e = .returned (.bool true) ∧ Below w.heap.size w w' := by
  have HQ0 : Hid (Below w.heap.size w ((w.alloc (.cells #[.int .u8 p.k, .int .i64 p.n, .int .i64 p.b, .int .i64 p.t] 29)).alloc (.cells #[.int .u8 v.k, .int .i64 v.n, .int .i64 v.b, .int .i64 v.t] 29))) := Lib.hid (((Below.refl _ _).alloc (Nat.le_refl _) _).alloc (by simp) _)
  have HH := Lib.hid h
  have HKP_0 := Lib.hid ((Blk.new w 29 #[.int .u8 p.k, .int .i64 p.n, .int .i64 p.b, .int .i64 p.t]).alloc (.cells #[.int .u8 v.k, .int .i64 v.n, .int .i64 v.b, .int .i64 v.t] 29))
  have HKV_0 := Lib.hid (Blk.new2 w (.cells #[.int .u8 p.k, .int .i64 p.n, .int .i64 p.b, .int .i64 p.t] 29) 29 #[.int .u8 v.k, .int .i64 v.n, .int .i64 v.b, .int .i64 v.t])
  clear h
  obtain ⟨gr, hgr⟩ : ∃ x, greatM rows = x := ⟨_, rfl⟩
  have HGR := Lib.hid hgr
  obtain ⟨hm, hhm⟩ : ∃ x, holdsM (mmb rows) = x := ⟨_, rfl⟩
  have HHM := Lib.hid hhm
  obtain ⟨ce, hce⟩ : ∃ x, checkM (mmb rows) = x := ⟨_, rfl⟩
  have HCE := Lib.hid hce
  clear hgr hhm hce
  cases gr with
  | true =>
    go_enter Try.func9, Try.ntmps9
    go_wp2_with fail
    refine (alive_any _).mono ?_
    rintro e w1 ⟨rfl, hb⟩
    have HKP_1 := Lib.hid (HKP_0.out.beneath hb)
    have HKV_1 := Lib.hid (HKV_0.out.beneath hb)
    have HQ1 := Lib.hid (HQ0.out.trans (hb.mono HQ0.out.size))
    clear hb
    have hc := pholds_any (HH.out.on HQ1.out)
    rw [HHM.out, HCE.out] at hc
    go_wp2_with fail
    refine (hc).mono ?_
    rintro e w2 ⟨rfl, hb⟩
    clear hc
    have HKP_2 := Lib.hid (HKP_1.out.beneath hb)
    have HKV_2 := Lib.hid (HKV_1.out.beneath hb)
    have HQ2 := Lib.hid (HQ1.out.trans (hb.mono HQ1.out.size))
    clear hb
    go_wp2_with fail
    refine (mgreat_is (HH.out.on HQ2.out) HGR.out).mono ?_
    rintro e w99 ⟨rfl, rfl⟩
    go_wp2_with fail
    go_ret
    exact ⟨rfl, HQ2.out⟩
  | false =>
    by_cases hce0 : ce = 0
    rotate_left
    · have hqe : (ce != 0) = true := by simpa using hce0
      go_enter Try.func9, Try.ntmps9
      go_wp2_with fail
      refine (alive_any _).mono ?_
      rintro e w1 ⟨rfl, hb⟩
      have HKP_1 := Lib.hid (HKP_0.out.beneath hb)
      have HKV_1 := Lib.hid (HKV_0.out.beneath hb)
      have HQ1 := Lib.hid (HQ0.out.trans (hb.mono HQ0.out.size))
      clear hb
      have hc := pholds_any (HH.out.on HQ1.out)
      rw [HHM.out, HCE.out] at hc
      go_wp2_with fail
      refine (hc).mono ?_
      rintro e w2 ⟨rfl, hb⟩
      clear hc
      have HKP_2 := Lib.hid (HKP_1.out.beneath hb)
      have HKV_2 := Lib.hid (HKV_1.out.beneath hb)
      have HQ2 := Lib.hid (HQ1.out.trans (hb.mono HQ1.out.size))
      clear hb
      go_wp2_with fail
      refine (mgreat_is (HH.out.on HQ2.out) HGR.out).mono ?_
      rintro e w99 ⟨rfl, rfl⟩
      go_wp2_with fail
      go_ret
      exact ⟨rfl, HQ2.out⟩
    · subst hce0
      cases hm with
      | false =>
        go_enter Try.func9, Try.ntmps9
        go_wp2_with fail
        refine (alive_any _).mono ?_
        rintro e w1 ⟨rfl, hb⟩
        have HKP_1 := Lib.hid (HKP_0.out.beneath hb)
        have HKV_1 := Lib.hid (HKV_0.out.beneath hb)
        have HQ1 := Lib.hid (HQ0.out.trans (hb.mono HQ0.out.size))
        clear hb
        have hc := pholds_any (HH.out.on HQ1.out)
        rw [HHM.out, HCE.out] at hc
        go_wp2_with fail
        refine (hc).mono ?_
        rintro e w2 ⟨rfl, hb⟩
        clear hc
        have HKP_2 := Lib.hid (HKP_1.out.beneath hb)
        have HKV_2 := Lib.hid (HKV_1.out.beneath hb)
        have HQ2 := Lib.hid (HQ1.out.trans (hb.mono HQ1.out.size))
        clear hb
        go_wp2_with fail
        refine (mgreat_is (HH.out.on HQ2.out) HGR.out).mono ?_
        rintro e w99 ⟨rfl, rfl⟩
        go_wp2_with fail
        go_ret
        exact ⟨rfl, HQ2.out⟩
      | true =>
        have HF := Lib.hid (mfew_of HH.out HGR.out)
        have HFB := Lib.hid (FewB.of HF.out)
        obtain ⟨se, hse⟩ : ∃ x, storeE (mmb rows) p v = x := ⟨_, rfl⟩
        have HSE := Lib.hid hse
        obtain ⟨sm, hsm⟩ : ∃ x, storeM (mmb rows) p v = x := ⟨_, rfl⟩
        have HSM := Lib.hid hsm
        obtain ⟨fe, hfe⟩ : ∃ x, freeE (mmb rows) p = x := ⟨_, rfl⟩
        have HFE := Lib.hid hfe
        obtain ⟨fm, hfm⟩ : ∃ x, freeM (mmb rows) p = x := ⟨_, rfl⟩
        have HFM := Lib.hid hfm
        obtain ⟨ne, hne⟩ : ∃ x, newE (mmb rows) 0 0 3 [2, 1] = x := ⟨_, rfl⟩
        have HNE := Lib.hid hne
        obtain ⟨nm, hnm⟩ : ∃ x, newM (mmb rows) 0 0 3 [2, 1] = x := ⟨_, rfl⟩
        have HNM := Lib.hid hnm
        obtain ⟨np, hnp⟩ : ∃ x, newP (mmb rows) 0 0 3 [2, 1] = x := ⟨_, rfl⟩
        have HNP := Lib.hid hnp
        obtain ⟨oe, hoe⟩ : ∃ x, popE (mmb rows) d = x := ⟨_, rfl⟩
        have HOE := Lib.hid hoe
        obtain ⟨om, hom⟩ : ∃ x, popM (mmb rows) d = x := ⟨_, rfl⟩
        have HOM := Lib.hid hom
        have hs1 : se = 0 → holdsM sm = true := fun e => by rw [← hsm]; exact life_store HHM.out (hse.trans e)
        have hs2 : fe = 0 → holdsM fm = true := fun e => by rw [← hfm]; exact life_free HHM.out (hfe.trans e)
        have hs3 : ne = 0 → holdsM nm = true := fun e => by rw [← hnm]; exact life_new HHM.out (hne.trans e)
        have hs4 : oe = 0 → holdsM om = true := fun e => by rw [← hom]; exact life_pop HHM.out (hoe.trans e)
        have HLOW : Hid (∀ j, j < om.length → oe = 0 ∧ ((om.getD j default).alive = true → (om.getD j default).depth < d ∧ ∀ n, n < (om.getD j default).cells.length → depthE om ((om.getD j default).cells.getD n default) = 0 ∧ depthM om ((om.getD j default).cells.getD n default) < d)) := Lib.hid fun j hj => by
          have he : oe = 0 := by
            by_cases e : oe = 0
            · exact e
            · rw [← hom] at hj; unfold popM at hj; rw [hoe, if_neg e] at hj; exact absurd hj (Nat.not_lt_zero _)
          refine ⟨he, fun ha => ?_⟩
          rw [← hom] at hj ha ⊢
          exact pop_low HHM.out (hoe.trans he) hj ha
        have HXS : Hid (FewB sm) := Lib.hid (hsm ▸ HFB.out.store p v)
        have HXF : Hid (FewB fm) := Lib.hid (hfm ▸ HFB.out.free p)
        have HXN : Hid (FewB nm) := Lib.hid (hnm ▸ FewB.make HGR.out 0 0 3 (by decide))
        have HXO : Hid (FewB om) := Lib.hid (hom ▸ HFB.out.pop d)
        obtain ⟨b1, hb1⟩ : ∃ x, holdsM sm = x := ⟨_, rfl⟩
        have HB1 := Lib.hid hb1
        obtain ⟨x1, hx1⟩ : ∃ x, checkM sm = x := ⟨_, rfl⟩
        have HC1 := Lib.hid hx1
        rw [hb1] at hs1
        have HS1 := Lib.hid (held hs1)
        obtain ⟨b2, hb2⟩ : ∃ x, holdsM fm = x := ⟨_, rfl⟩
        have HB2 := Lib.hid hb2
        obtain ⟨x2, hx2⟩ : ∃ x, checkM fm = x := ⟨_, rfl⟩
        have HC2 := Lib.hid hx2
        rw [hb2] at hs2
        have HS2 := Lib.hid (held hs2)
        obtain ⟨b3, hb3⟩ : ∃ x, holdsM nm = x := ⟨_, rfl⟩
        have HB3 := Lib.hid hb3
        obtain ⟨x3, hx3⟩ : ∃ x, checkM nm = x := ⟨_, rfl⟩
        have HC3 := Lib.hid hx3
        rw [hb3] at hs3
        have HS3 := Lib.hid (held hs3)
        obtain ⟨b4, hb4⟩ : ∃ x, holdsM om = x := ⟨_, rfl⟩
        have HB4 := Lib.hid hb4
        obtain ⟨x4, hx4⟩ : ∃ x, checkM om = x := ⟨_, rfl⟩
        have HC4 := Lib.hid hx4
        rw [hb4] at hs4
        have HS4 := Lib.hid (held hs4)
        clear hse hsm hfe hfm hne hnm hnp hoe hom hs1 hs2 hs3 hs4 hb1 hb2 hb3 hb4 hx1 hx2 hx3 hx4
        go_enter Try.func9, Try.ntmps9
        go_wp2_with fail
        refine (alive_any _).mono ?_
        rintro e w1 ⟨rfl, hb⟩
        have HKP_1 := Lib.hid (HKP_0.out.beneath hb)
        have HKV_1 := Lib.hid (HKV_0.out.beneath hb)
        have HQ1 := Lib.hid (HQ0.out.trans (hb.mono HQ0.out.size))
        clear hb
        have hc := pholds_any (HH.out.on HQ1.out)
        rw [HHM.out, HCE.out] at hc
        go_wp2_with fail
        refine (hc).mono ?_
        rintro e w2 ⟨rfl, hb⟩
        clear hc
        have HKP_2 := Lib.hid (HKP_1.out.beneath hb)
        have HKV_2 := Lib.hid (HKV_1.out.beneath hb)
        have HQ2 := Lib.hid (HQ1.out.trans (hb.mono HQ1.out.size))
        clear hb
        go_wp2_with fail
        refine (mgreat_is (HH.out.on HQ2.out) HGR.out).mono ?_
        rintro e w99 ⟨rfl, rfl⟩
        have hkp0 := HKP_2.out.cells 0
        have hkp1 := HKP_2.out.cells 1
        have hkp2 := HKP_2.out.cells 2
        have hkp3 := HKP_2.out.cells 3
        have hkv0 := HKV_2.out.cells 0
        have hkv1 := HKV_2.out.cells 1
        have hkv2 := HKV_2.out.cells 2
        have hkv3 := HKV_2.out.cells 3
        go_wp2_with fail
        refine (pstore_any (HF.out.on HQ2.out) p v HSE.out HSM.out).mono ?_
        rintro e w3 ⟨Aa, ca, ra, rfl, ho, hm, hb⟩
        have HKP_3 := Lib.hid (HKP_2.out.beneath hb)
        have HKV_3 := Lib.hid (HKV_2.out.beneath hb)
        have HQ3 := Lib.hid (HQ2.out.trans (hb.mono HQ2.out.size))
        clear hb
        have HA_3 := Lib.hid (MemFew.ofOwn ho hm (HXS.out))
        have EHA := Lib.hid hm
        clear ho hm
        clear hkp0 hkp1 hkp2 hkp3 hkv0 hkv1 hkv2 hkv3
        have hkp0 := HKP_3.out.cells 0
        have hkp1 := HKP_3.out.cells 1
        have hkp2 := HKP_3.out.cells 2
        have hkp3 := HKP_3.out.cells 3
        go_wp2_with fail
        refine (pfree_any (HF.out.on HQ3.out) p HFE.out HFM.out).mono ?_
        rintro e w4 ⟨Ab, cb, rb, rfl, ho, hm, hb⟩
        have HKP_4 := Lib.hid (HKP_3.out.beneath hb)
        have HA_4 := Lib.hid (HA_3.out.on hb)
        have HQ4 := Lib.hid (HQ3.out.trans (hb.mono HQ3.out.size))
        clear hb
        have HB_4 := Lib.hid (MemFew.ofOwn ho hm (HXF.out))
        have EHB := Lib.hid hm
        clear ho hm
        clear hkp0 hkp1 hkp2 hkp3
        have hki := kinds_two w4 (g := w4.heap.size) rfl 2 1
        have hb : Below w4.heap.size w4 (w4.alloc (.cells #[.int .u8 2, .int .u8 1] 5)) := (Below.refl _ _).alloc (Nat.le_refl _) _
        have HA_5 := Lib.hid (HA_4.out.on hb)
        have HB_5 := Lib.hid (HB_4.out.on hb)
        have HQ5 := Lib.hid (HQ4.out.trans (hb.mono HQ4.out.size))
        clear hb
        go_wp2_with fail
        refine (pnew_any (HF.out.on HQ5.out) hki (l := [2, 1]) (by decide) 0 0 3 HNE.out HNM.out HNP.out).mono ?_
        rintro e w5 ⟨vc, rc, rfl, ho, hm, hb⟩
        clear hki
        obtain ⟨Ac, cc, rfl, ho2⟩ := ho.own
        clear ho
        have ho := ho2
        clear ho2
        have HA_6 := Lib.hid (HA_5.out.on hb)
        have HB_6 := Lib.hid (HB_5.out.on hb)
        have HQ6 := Lib.hid (HQ5.out.trans (hb.mono HQ5.out.size))
        clear hb
        have HC_6 := Lib.hid (MemFew.ofOwn ho hm (HXN.out))
        have EHC := Lib.hid hm
        clear ho hm
        have hb : Below w5.heap.size w5 (w5.alloc (.cells #[.int .u8 np.k, .int .i64 np.n, .int .i64 np.b, .int .i64 np.t] 29)) := (Below.refl _ _).alloc (Nat.le_refl _) _
        have HA_7 := Lib.hid (HA_6.out.on hb)
        have HB_7 := Lib.hid (HB_6.out.on hb)
        have HC_7 := Lib.hid (HC_6.out.on hb)
        have HQ7 := Lib.hid (HQ6.out.trans (hb.mono HQ6.out.size))
        clear hb
        have KN_7 := Lib.hid (Blk.new w5 29 #[.int .u8 np.k, .int .i64 np.n, .int .i64 np.b, .int .i64 np.t])
        go_wp2_with fail
        refine (ppop_any (HF.out.on HQ7.out) d HOE.out HOM.out).mono ?_
        rintro e w6 ⟨Ad, cd, rd, rfl, ho, hm, hb⟩
        have HA_8 := Lib.hid (HA_7.out.on hb)
        have HB_8 := Lib.hid (HB_7.out.on hb)
        have HC_8 := Lib.hid (HC_7.out.on hb)
        have HQ8 := Lib.hid (HQ7.out.trans (hb.mono HQ7.out.size))
        clear hb
        have HD_8 := Lib.hid (MemFew.ofOwn ho hm (HXO.out))
        have EHD := Lib.hid hm
        clear ho hm
        have hc := pholds_any HA_8.out.mem
        rw [EHA.out, HB1.out, HC1.out] at hc
        go_wp2_with fail
        refine (hc).mono ?_
        rintro e w7 ⟨rfl, hb⟩
        clear hc
        have HA_9 := Lib.hid (HA_8.out.on hb)
        have HB_9 := Lib.hid (HB_8.out.on hb)
        have HC_9 := Lib.hid (HC_8.out.on hb)
        have HD_9 := Lib.hid (HD_8.out.on hb)
        have HQ9 := Lib.hid (HQ8.out.trans (hb.mono HQ8.out.size))
        clear hb
        have hc := pholds_any HB_9.out.mem
        rw [EHB.out, HB2.out, HC2.out] at hc
        go_wp2_with fail
        refine (hc).mono ?_
        rintro e w8 ⟨rfl, hb⟩
        clear hc
        have HB_10 := Lib.hid (HB_9.out.on hb)
        have HC_10 := Lib.hid (HC_9.out.on hb)
        have HD_10 := Lib.hid (HD_9.out.on hb)
        have HQ10 := Lib.hid (HQ9.out.trans (hb.mono HQ9.out.size))
        clear hb
        have hc := pholds_any HC_10.out.mem
        rw [EHC.out, HB3.out, HC3.out] at hc
        go_wp2_with fail
        refine (hc).mono ?_
        rintro e w9 ⟨rfl, hb⟩
        clear hc
        have HC_11 := Lib.hid (HC_10.out.on hb)
        have HD_11 := Lib.hid (HD_10.out.on hb)
        have HQ11 := Lib.hid (HQ10.out.trans (hb.mono HQ10.out.size))
        clear hb
        have hc := pholds_any HD_11.out.mem
        rw [EHD.out, HB4.out, HC4.out] at hc
        go_wp2_with fail
        refine (hc).mono ?_
        rintro e w10 ⟨rfl, hb⟩
        clear hc
        have HD_12 := Lib.hid (HD_11.out.on hb)
        have HQ12 := Lib.hid (HQ11.out.trans (hb.mono HQ11.out.size))
        clear hb
        go_upto_region 13 with fail
        go_cut [129] from 100 to 128 (fun b wx => b = .bool false ∧ wx = w10)
        case first =>
          rcases HS1.out with hs1 | ⟨hs1, rfl⟩ <;> rcases HS2.out with hs2 | ⟨hs2, rfl⟩ <;> rcases HS3.out with hs3 | ⟨hs3, rfl⟩ <;> rcases HS4.out with hs4 | ⟨hs4, rfl⟩
          all_goals (go_wp2_with fail; go_meet; exact ⟨rfl, rfl⟩)
        case rest =>
        obtain ⟨rfl, hwc⟩ := hcut
        replace hwc := hwc.symm
        subst hwc
        have HRL : Hid (rd.length = om.length) := Lib.hid (by rw [← EHD.out, mmb_len])
        clear HS1 HS2 HS3 HS4
        go_wp2_with fail
        go_loopw [29] (fun i wr => ∃ j : Nat, j ≤ rd.length ∧ i = .int .i64 j ∧ Hid (Below w10.heap.size w10 wr)) (fun i _ => rd.length - (intOf i).toNat)
        case atStart => exact ⟨0, Nat.zero_le _, rfl, Lib.hid (Below.refl _ _)⟩
        case round =>
          obtain ⟨j, hj, rfl, HB⟩ := hrel
          have hb := HB.out
          have HD_13 := Lib.hid (HD_12.out.on hb)
          have HQ13 := Lib.hid (HQ12.out.trans (hb.mono HQ12.out.size))
          clear hb
          have HZ13 := HB
          have hfew := HD_13.out.few
          clear HB
          by_cases hlt : j < rd.length
          · have hlow := HLOW.out j (by rw [← HRL.out]; exact hlt)
            have hoe0 : (oe == 0) = true := beq_iff_eq.2 hlow.1
            have HLW := Lib.hid hlow.2
            clear hlow
            obtain ⟨b, off, hA, hbl, d0, d1, d2, d3, d4⟩ := (HD_13.out.mem.rows.elem hlt).at_
            subst hA
            have hr := HD_13.out.mem.row hlt
            have hpl := HD_13.out.each _ (mem_getD (d := default) hlt)
            have HDT : Hid ((om.getD j default) = (rd.getD j default).data) := Lib.hid (by rw [← EHD.out]; exact mmb_at hlt)
            rw [HDT.out] at HLW
            have HAT := Lib.hid d4
            generalize rd.getD j default = r at d0 d1 d2 d3 d4 hr hpl HDT HLW HAT
            obtain ⟨si, ty, de, al, ca0, cc0, vs⟩ := r
            simp only [BkR.data] at HLW
            simp only at d0 d1 d2 d3 d4 hpl HAT
            have HR := Lib.hid hr.vals
            have hcc := hr.hdr.le
            clear hr d0 d1 HDT
            cases al with
            | false =>
              go_wp2_with fail
              go_loopw [30] (fun i wx => i = .int .i64 0 ∧ Hid (Below wr.heap.size wr wx)) (fun _ _ => 0)
              case atStart => exact ⟨rfl, Lib.hid (Below.refl _ _)⟩
              case round =>
                obtain ⟨rfl, HBX⟩ := hrel
                have e2 := (HBX.out.cell (p := ⟨b, off + j * 5 + 2, none⟩) hbl).trans d2
                have e3 := (HBX.out.cell (p := ⟨b, off + j * 5 + 3, none⟩) hbl).trans d3
                have e4 := (HBX.out.cell (p := ⟨b, off + j * 5 + 4, none⟩) hbl).trans d4
                clear d2 d3 d4
                by_cases hv : 0 < (vs.length : Int)
                all_goals
                  go_wp2_with fail
                  go_roundw
                  case rel => exact ⟨j + 1, by omega, by go_num, Lib.hid (HZ13.out.trans (HBX.out.mono HZ13.out.size))⟩
                  case measure => simp [intOf]; omega
            | true =>
              have hdd : ¬ d ≤ de := by have := (HLW.out (by first | rfl | trivial)).1; omega
              have HLC := Lib.hid (HLW.out (by first | rfl | trivial)).2
              go_wp2_with fail
              clear hdd
              go_loopw [30] (fun i wx => ∃ n : Nat, n ≤ vs.length ∧ i = .int .i64 n ∧ Hid (Below wr.heap.size wr wx)) (fun i _ => vs.length - (intOf i).toNat)
              case atStart => exact ⟨0, Nat.zero_le _, rfl, Lib.hid (Below.refl _ _)⟩
              case round =>
                obtain ⟨n, hn, rfl, HBX⟩ := hrel
                have e2 := (HBX.out.cell (p := ⟨b, off + j * 5 + 2, none⟩) hbl).trans d2
                have e3 := (HBX.out.cell (p := ⟨b, off + j * 5 + 3, none⟩) hbl).trans d3
                have e4 := (HBX.out.cell (p := ⟨b, off + j * 5 + 4, none⟩) hbl).trans d4
                have HRX := HZ13
                clear d2 d3 d4
                by_cases hvn : n < vs.length
                ·
                  obtain ⟨b2, o2, y, rfl, hb2, v0, v1, v2, v3, HY⟩ := (HR.out.keep HBX.out).elem hvn
                  have HLC2 := Lib.hid (HLC.out n hvn)
                  rw [HY.out] at HLC2
                  have hb := HBX.out
                  have HD2 := Lib.hid (HD_13.out.on hb)
                  obtain ⟨dd, hdd⟩ : ∃ x, depthM om y = x := ⟨_, rfl⟩
                  have hddd : ¬ d ≤ dd := by have := HLC2.out.2; omega
                  have HDD := Lib.hid hdd
                  clear hdd hb
                  go_wp2_with fail
                  refine (pdepth_any HD2.out.mem y (e0 := 0) (d0 := dd) (by rw [EHD.out]; exact HLC2.out.1) (by rw [EHD.out]; exact HDD.out)).mono ?_
                  rintro e w77 ⟨rfl, hb⟩
                  have HBY := Lib.hid (HBX.out.trans (hb.mono HBX.out.size))
                  clear hb
                  go_wp2_with fail
                  go_roundw
                  case rel => exact ⟨n + 1, by omega, by go_num, HBY⟩
                  case measure => simp [intOf]; omega
                ·
                  go_wp2_with fail
                  go_roundw
                  case rel => exact ⟨j + 1, by omega, by go_num, Lib.hid (HZ13.out.trans (HBX.out.mono HZ13.out.size))⟩
                  case measure => simp [intOf]; omega
          ·
            go_wp2_with fail
            go_ret
            exact ⟨rfl, HQ13.out⟩
end Go.Proofs.Ythddacnnhmcoaaa
