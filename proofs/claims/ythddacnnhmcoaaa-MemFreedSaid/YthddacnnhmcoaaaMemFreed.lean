/-
  The walk of the law MemFreed.
-/
import Derived.Test.YthddacnnhmcoaaaMmAlive
import Derived.Test.YthddacnnhmcoaaaMmLaws
namespace Go.Proofs.Ythddacnnhmcoaaa
set_option linter.unusedVariables false
set_option linter.unusedSimpArgs false
open Go.ChangeShapes Go.WideShapes Go.ChangeAt Go.RowKit

theorem loadV_no {m : List Bk} {p : Vl} {e : Int} (h : loadE m p = e) (he : e ≠ 0) : loadV m p = default := by
  unfold loadV
  rw [if_neg (by rw [h]; exact he)]
theorem mmb_nil {rows : List BkR} (h : mmb rows = []) : rows = [] := List.map_eq_nil_iff.1 h
set_option maxRecDepth 100000 in
set_option maxHeartbeats 6400000 in
theorem walk_MemFreed {w : World} {A : Option Addr} {c : Nat} {rows : List BkR} (h : MemIn w A c rows) (p q : Vl) :
    Calls Try.prog 7 #[.slice A rows.length c, valV p.k p.n p.b p.t, valV q.k q.n q.b q.t] w fun e w' => e = .returned (.bool true) ∧ Below w.heap.size w w' := by
  have HQ0 : Hid (Below w.heap.size w ((w.alloc (.cells #[.int .u8 p.k, .int .i64 p.n, .int .i64 p.b, .int .i64 p.t] 29)).alloc (.cells #[.int .u8 q.k, .int .i64 q.n, .int .i64 q.b, .int .i64 q.t] 29))) := Lib.hid (((Below.refl _ _).alloc (Nat.le_refl _) _).alloc (by simp) _)
  have HH := Lib.hid h
  have HKP_0 := Lib.hid ((Blk.new w 29 #[.int .u8 p.k, .int .i64 p.n, .int .i64 p.b, .int .i64 p.t]).alloc (.cells #[.int .u8 q.k, .int .i64 q.n, .int .i64 q.b, .int .i64 q.t] 29))
  have HKQ_0 := Lib.hid (Blk.new2 w (.cells #[.int .u8 p.k, .int .i64 p.n, .int .i64 p.b, .int .i64 p.t] 29) 29 #[.int .u8 q.k, .int .i64 q.n, .int .i64 q.b, .int .i64 q.t])
  have hqv := eqValV
  clear h
  obtain ⟨gr, hg⟩ : ∃ gr, greatM rows = gr := ⟨_, rfl⟩
  have HG := Lib.hid hg
  clear hg
  cases gr with
  | true =>
    go_enter Try.func7, Try.ntmps7
    go_wp2_with fail
    refine (alive_any _).mono ?_
    rintro e w1 ⟨rfl, hb⟩
    have HKP_1 := Lib.hid (HKP_0.out.beneath hb)
    have HKQ_1 := Lib.hid (HKQ_0.out.beneath hb)
    have HQ1 := Lib.hid (HQ0.out.trans (hb.mono HQ0.out.size))
    clear hb
    go_wp2_with fail
    refine (mgreat_is (HH.out.on HQ1.out) HG.out).mono ?_
    rintro e w9 ⟨rfl, rfl⟩
    go_wp2_with fail
    go_ret
    exact ⟨rfl, HQ1.out⟩
  | false =>
    have HF := Lib.hid (mfew_of HH.out HG.out)
    have HFB := Lib.hid (FewB.of HF.out)
    obtain ⟨fe, hfe⟩ : ∃ x, freeE (mmb rows) p = x := ⟨_, rfl⟩
    obtain ⟨fm, hfm⟩ : ∃ x, freeM (mmb rows) p = x := ⟨_, rfl⟩
    have HFE := Lib.hid hfe
    have HFM := Lib.hid hfm
    have HXB : Hid (FewB fm) := Lib.hid (hfm ▸ HFB.out.free p)
    clear hfm
    by_cases hz : fe = 0
    rotate_left
    · have hfn : freeM (mmb rows) p = [] := by unfold freeM; rw [hfe, if_neg hz]
      obtain rfl := HFM.out.symm.trans hfn
      have hqe : (fe != 0) = true := by simpa using hz
      clear hfn hfe
      go_enter Try.func7, Try.ntmps7
      go_wp2_with fail
      refine (alive_any _).mono ?_
      rintro e w1 ⟨rfl, hb⟩
      have HKP_1 := Lib.hid (HKP_0.out.beneath hb)
      have HKQ_1 := Lib.hid (HKQ_0.out.beneath hb)
      have HQ1 := Lib.hid (HQ0.out.trans (hb.mono HQ0.out.size))
      clear hb
      go_wp2_with fail
      refine (mgreat_is (HH.out.on HQ1.out) HG.out).mono ?_
      rintro e w9 ⟨rfl, rfl⟩
      have hkp0 := HKP_1.out.cells 0
      have hkp1 := HKP_1.out.cells 1
      have hkp2 := HKP_1.out.cells 2
      have hkp3 := HKP_1.out.cells 3
      go_wp2_with fail
      refine (pfree_any (HF.out.on HQ1.out) p HFE.out HFM.out).mono ?_
      rintro e w2 ⟨Ax, cx, rx, rfl, ho, hm, hb⟩
      have HKP_2 := Lib.hid (HKP_1.out.beneath hb)
      have HKQ_2 := Lib.hid (HKQ_1.out.beneath hb)
      have HQ2 := Lib.hid (HQ1.out.trans (hb.mono HQ1.out.size))
      clear hb
      obtain rfl := mmb_nil hm
      clear ho hm
      clear hkp0 hkp1 hkp2 hkp3
      go_wp2_with fail
      go_ret
      exact ⟨rfl, HQ2.out⟩
    · subst hz
      have hlaw := free_laws (q := q) hfe
      rw [HFM.out] at hlaw
      obtain ⟨_, hl1, hl2, hl3, hl4⟩ := hlaw
      have HL1 := Lib.hid hl1
      have HL2 := Lib.hid hl2
      have HL3 := Lib.hid hl3
      have HL4 := Lib.hid hl4
      clear hl1 hl2 hl3 hl4 hfe
      obtain ⟨le, hle⟩ : ∃ x, loadE (mmb rows) q = x := ⟨_, rfl⟩
      obtain ⟨lv, hlv⟩ : ∃ x, loadV (mmb rows) q = x := ⟨_, rfl⟩
      have HLE := Lib.hid hle
      have HLV := Lib.hid hlv
      clear hle hlv
      by_cases hn : q.k = 2 ∧ q.b = p.b
      rotate_left
      · have hl := HL3.out hn
        rw [HLE.out, HLV.out] at hl
        have HA1 := Lib.hid hl.1
        have HA2 := Lib.hid hl.2
        clear hl
        by_cases hk : q.k = 2
        · have hb2 : (q.b != p.b) = true := bne_iff_ne.2 fun e => hn ⟨hk, e⟩
          have hk2 : (q.k != 2) = false := by rw [hk]; rfl
          clear hk
          clear hn
          go_enter Try.func7, Try.ntmps7
          go_wp2_with fail
          refine (alive_any _).mono ?_
          rintro e w1 ⟨rfl, hb⟩
          have HKP_1 := Lib.hid (HKP_0.out.beneath hb)
          have HKQ_1 := Lib.hid (HKQ_0.out.beneath hb)
          have HQ1 := Lib.hid (HQ0.out.trans (hb.mono HQ0.out.size))
          clear hb
          go_wp2_with fail
          refine (mgreat_is (HH.out.on HQ1.out) HG.out).mono ?_
          rintro e w9 ⟨rfl, rfl⟩
          have hkp0 := HKP_1.out.cells 0
          have hkp1 := HKP_1.out.cells 1
          have hkp2 := HKP_1.out.cells 2
          have hkp3 := HKP_1.out.cells 3
          go_wp2_with fail
          refine (pfree_any (HF.out.on HQ1.out) p HFE.out HFM.out).mono ?_
          rintro e w2 ⟨Ax, cx, rx, rfl, ho, hm, hb⟩
          have HKP_2 := Lib.hid (HKP_1.out.beneath hb)
          have HKQ_2 := Lib.hid (HKQ_1.out.beneath hb)
          have HQ2 := Lib.hid (HQ1.out.trans (hb.mono HQ1.out.size))
          clear hb
          have HX_2 := Lib.hid (MemFew.ofOwn ho hm HXB.out)
          have HXM := Lib.hid hm
          clear ho hm
          clear hkp0 hkp1 hkp2 hkp3
          have hkp0 := HKP_2.out.cells 0
          have hkp1 := HKP_2.out.cells 1
          have hkp2 := HKP_2.out.cells 2
          have hkp3 := HKP_2.out.cells 3
          go_wp2_with fail
          refine (pload_any HX_2.out.mem p (e0 := 142) (v0 := ⟨0, 0, 0, 0⟩) (by rw [HXM.out]; exact HL1.out) (by rw [HXM.out]; exact loadV_no HL1.out (by decide))).mono ?_
          rintro e w3 ⟨rfl, hb⟩
          have HKP_3 := Lib.hid (HKP_2.out.beneath hb)
          have HKQ_3 := Lib.hid (HKQ_2.out.beneath hb)
          have HX_3 := Lib.hid (HX_2.out.on hb)
          have HQ3 := Lib.hid (HQ2.out.trans (hb.mono HQ2.out.size))
          clear hb
          have hb : Below w3.heap.size w3 (w3.alloc (.cells #[.int .u8 0, .int .i64 0, .int .i64 0, .int .i64 0] 29)) := (Below.refl _ _).alloc (Nat.le_refl _) _
          have HKP_4 := Lib.hid (HKP_3.out.beneath hb)
          have HKQ_4 := Lib.hid (HKQ_3.out.beneath hb)
          have HX_4 := Lib.hid (HX_3.out.on hb)
          have HQ4 := Lib.hid (HQ3.out.trans (hb.mono HQ3.out.size))
          clear hb
          have KU_4 := Lib.hid (Blk.new w3 29 #[.int .u8 0, .int .i64 0, .int .i64 0, .int .i64 0])
          clear hkp0 hkp1 hkp2 hkp3
          have hkp0 := HKP_4.out.cells 0
          have hkp1 := HKP_4.out.cells 1
          have hkp2 := HKP_4.out.cells 2
          have hkp3 := HKP_4.out.cells 3
          go_wp2_with fail
          refine (pfree_any HX_4.out p (e0 := 142) (m0 := []) (by rw [HXM.out]; exact HL2.out) (by rw [HXM.out]; unfold freeM; rw [HL2.out, if_neg (by decide)])).mono ?_
          rintro e w4 ⟨Ay, cy, ry, rfl, ho, hm, hb⟩
          have HKP_5 := Lib.hid (HKP_4.out.beneath hb)
          have HKQ_5 := Lib.hid (HKQ_4.out.beneath hb)
          have HX_5 := Lib.hid (HX_4.out.on hb)
          have KU_5 := Lib.hid (KU_4.out.beneath hb)
          have HQ5 := Lib.hid (HQ4.out.trans (hb.mono HQ4.out.size))
          clear hb
          clear ho hm
          clear hkp0 hkp1 hkp2 hkp3
          have hkq0 := HKQ_5.out.cells 0
          have hkq1 := HKQ_5.out.cells 1
          have hkq2 := HKQ_5.out.cells 2
          have hkq3 := HKQ_5.out.cells 3
          go_wp2_with fail
          refine (pload_any (HF.out.on HQ5.out).mem q HLE.out HLV.out).mono ?_
          rintro e w5 ⟨rfl, hb⟩
          have HKP_6 := Lib.hid (HKP_5.out.beneath hb)
          have HKQ_6 := Lib.hid (HKQ_5.out.beneath hb)
          have HX_6 := Lib.hid (HX_5.out.on hb)
          have HQ6 := Lib.hid (HQ5.out.trans (hb.mono HQ5.out.size))
          clear hb
          have hb : Below w5.heap.size w5 (w5.alloc (.cells #[.int .u8 lv.k, .int .i64 lv.n, .int .i64 lv.b, .int .i64 lv.t] 29)) := (Below.refl _ _).alloc (Nat.le_refl _) _
          have HKP_7 := Lib.hid (HKP_6.out.beneath hb)
          have HKQ_7 := Lib.hid (HKQ_6.out.beneath hb)
          have HX_7 := Lib.hid (HX_6.out.on hb)
          have HQ7 := Lib.hid (HQ6.out.trans (hb.mono HQ6.out.size))
          clear hb
          have KW_7 := Lib.hid (Blk.new w5 29 #[.int .u8 lv.k, .int .i64 lv.n, .int .i64 lv.b, .int .i64 lv.t])
          clear hkq0 hkq1 hkq2 hkq3
          have hkq0 := HKQ_7.out.cells 0
          have hkq1 := HKQ_7.out.cells 1
          have hkq2 := HKQ_7.out.cells 2
          have hkq3 := HKQ_7.out.cells 3
          go_wp2_with fail
          refine (pload_any HX_7.out.mem q (e0 := le) (v0 := lv) (by rw [HXM.out]; exact HA1.out) (by rw [HXM.out]; exact HA2.out)).mono ?_
          rintro e w6 ⟨rfl, hb⟩
          have HKP_8 := Lib.hid (HKP_7.out.beneath hb)
          have HKQ_8 := Lib.hid (HKQ_7.out.beneath hb)
          have HX_8 := Lib.hid (HX_7.out.on hb)
          have KW_8 := Lib.hid (KW_7.out.beneath hb)
          have HQ8 := Lib.hid (HQ7.out.trans (hb.mono HQ7.out.size))
          clear hb
          have hb : Below w6.heap.size w6 (w6.alloc (.cells #[.int .u8 lv.k, .int .i64 lv.n, .int .i64 lv.b, .int .i64 lv.t] 29)) := (Below.refl _ _).alloc (Nat.le_refl _) _
          have HKP_9 := Lib.hid (HKP_8.out.beneath hb)
          have HKQ_9 := Lib.hid (HKQ_8.out.beneath hb)
          have HX_9 := Lib.hid (HX_8.out.on hb)
          have KW_9 := Lib.hid (KW_8.out.beneath hb)
          have HQ9 := Lib.hid (HQ8.out.trans (hb.mono HQ8.out.size))
          clear hb
          have KX_9 := Lib.hid (Blk.new w6 29 #[.int .u8 lv.k, .int .i64 lv.n, .int .i64 lv.b, .int .i64 lv.t])
          clear hkq0 hkq1 hkq2 hkq3
          have hkp0 := HKP_9.out.cells 0
          have hkp1 := HKP_9.out.cells 1
          have hkp2 := HKP_9.out.cells 2
          have hkp3 := HKP_9.out.cells 3
          have hkq0 := HKQ_9.out.cells 0
          have hkq1 := HKQ_9.out.cells 1
          have hkq2 := HKQ_9.out.cells 2
          have hkq3 := HKQ_9.out.cells 3
          have kw0 := KW_9.out.cells 0
          have kw1 := KW_9.out.cells 1
          have kw2 := KW_9.out.cells 2
          have kw3 := KW_9.out.cells 3
          have kx0 := KX_9.out.cells 0
          have kx1 := KX_9.out.cells 1
          have kx2 := KX_9.out.cells 2
          have kx3 := KX_9.out.cells 3
          go_wp2_with fail
          go_ret
          exact ⟨rfl, HQ9.out⟩
        · clear HL4
          clear hn
          go_enter Try.func7, Try.ntmps7
          go_wp2_with fail
          refine (alive_any _).mono ?_
          rintro e w1 ⟨rfl, hb⟩
          have HKP_1 := Lib.hid (HKP_0.out.beneath hb)
          have HKQ_1 := Lib.hid (HKQ_0.out.beneath hb)
          have HQ1 := Lib.hid (HQ0.out.trans (hb.mono HQ0.out.size))
          clear hb
          go_wp2_with fail
          refine (mgreat_is (HH.out.on HQ1.out) HG.out).mono ?_
          rintro e w9 ⟨rfl, rfl⟩
          have hkp0 := HKP_1.out.cells 0
          have hkp1 := HKP_1.out.cells 1
          have hkp2 := HKP_1.out.cells 2
          have hkp3 := HKP_1.out.cells 3
          go_wp2_with fail
          refine (pfree_any (HF.out.on HQ1.out) p HFE.out HFM.out).mono ?_
          rintro e w2 ⟨Ax, cx, rx, rfl, ho, hm, hb⟩
          have HKP_2 := Lib.hid (HKP_1.out.beneath hb)
          have HKQ_2 := Lib.hid (HKQ_1.out.beneath hb)
          have HQ2 := Lib.hid (HQ1.out.trans (hb.mono HQ1.out.size))
          clear hb
          have HX_2 := Lib.hid (MemFew.ofOwn ho hm HXB.out)
          have HXM := Lib.hid hm
          clear ho hm
          clear hkp0 hkp1 hkp2 hkp3
          have hkp0 := HKP_2.out.cells 0
          have hkp1 := HKP_2.out.cells 1
          have hkp2 := HKP_2.out.cells 2
          have hkp3 := HKP_2.out.cells 3
          go_wp2_with fail
          refine (pload_any HX_2.out.mem p (e0 := 142) (v0 := ⟨0, 0, 0, 0⟩) (by rw [HXM.out]; exact HL1.out) (by rw [HXM.out]; exact loadV_no HL1.out (by decide))).mono ?_
          rintro e w3 ⟨rfl, hb⟩
          have HKP_3 := Lib.hid (HKP_2.out.beneath hb)
          have HKQ_3 := Lib.hid (HKQ_2.out.beneath hb)
          have HX_3 := Lib.hid (HX_2.out.on hb)
          have HQ3 := Lib.hid (HQ2.out.trans (hb.mono HQ2.out.size))
          clear hb
          have hb : Below w3.heap.size w3 (w3.alloc (.cells #[.int .u8 0, .int .i64 0, .int .i64 0, .int .i64 0] 29)) := (Below.refl _ _).alloc (Nat.le_refl _) _
          have HKP_4 := Lib.hid (HKP_3.out.beneath hb)
          have HKQ_4 := Lib.hid (HKQ_3.out.beneath hb)
          have HX_4 := Lib.hid (HX_3.out.on hb)
          have HQ4 := Lib.hid (HQ3.out.trans (hb.mono HQ3.out.size))
          clear hb
          have KU_4 := Lib.hid (Blk.new w3 29 #[.int .u8 0, .int .i64 0, .int .i64 0, .int .i64 0])
          clear hkp0 hkp1 hkp2 hkp3
          have hkp0 := HKP_4.out.cells 0
          have hkp1 := HKP_4.out.cells 1
          have hkp2 := HKP_4.out.cells 2
          have hkp3 := HKP_4.out.cells 3
          go_wp2_with fail
          refine (pfree_any HX_4.out p (e0 := 142) (m0 := []) (by rw [HXM.out]; exact HL2.out) (by rw [HXM.out]; unfold freeM; rw [HL2.out, if_neg (by decide)])).mono ?_
          rintro e w4 ⟨Ay, cy, ry, rfl, ho, hm, hb⟩
          have HKP_5 := Lib.hid (HKP_4.out.beneath hb)
          have HKQ_5 := Lib.hid (HKQ_4.out.beneath hb)
          have HX_5 := Lib.hid (HX_4.out.on hb)
          have KU_5 := Lib.hid (KU_4.out.beneath hb)
          have HQ5 := Lib.hid (HQ4.out.trans (hb.mono HQ4.out.size))
          clear hb
          clear ho hm
          clear hkp0 hkp1 hkp2 hkp3
          have hkq0 := HKQ_5.out.cells 0
          have hkq1 := HKQ_5.out.cells 1
          have hkq2 := HKQ_5.out.cells 2
          have hkq3 := HKQ_5.out.cells 3
          go_wp2_with fail
          refine (pload_any (HF.out.on HQ5.out).mem q HLE.out HLV.out).mono ?_
          rintro e w5 ⟨rfl, hb⟩
          have HKP_6 := Lib.hid (HKP_5.out.beneath hb)
          have HKQ_6 := Lib.hid (HKQ_5.out.beneath hb)
          have HX_6 := Lib.hid (HX_5.out.on hb)
          have HQ6 := Lib.hid (HQ5.out.trans (hb.mono HQ5.out.size))
          clear hb
          have hb : Below w5.heap.size w5 (w5.alloc (.cells #[.int .u8 lv.k, .int .i64 lv.n, .int .i64 lv.b, .int .i64 lv.t] 29)) := (Below.refl _ _).alloc (Nat.le_refl _) _
          have HKP_7 := Lib.hid (HKP_6.out.beneath hb)
          have HKQ_7 := Lib.hid (HKQ_6.out.beneath hb)
          have HX_7 := Lib.hid (HX_6.out.on hb)
          have HQ7 := Lib.hid (HQ6.out.trans (hb.mono HQ6.out.size))
          clear hb
          have KW_7 := Lib.hid (Blk.new w5 29 #[.int .u8 lv.k, .int .i64 lv.n, .int .i64 lv.b, .int .i64 lv.t])
          clear hkq0 hkq1 hkq2 hkq3
          have hkq0 := HKQ_7.out.cells 0
          have hkq1 := HKQ_7.out.cells 1
          have hkq2 := HKQ_7.out.cells 2
          have hkq3 := HKQ_7.out.cells 3
          go_wp2_with fail
          refine (pload_any HX_7.out.mem q (e0 := le) (v0 := lv) (by rw [HXM.out]; exact HA1.out) (by rw [HXM.out]; exact HA2.out)).mono ?_
          rintro e w6 ⟨rfl, hb⟩
          have HKP_8 := Lib.hid (HKP_7.out.beneath hb)
          have HKQ_8 := Lib.hid (HKQ_7.out.beneath hb)
          have HX_8 := Lib.hid (HX_7.out.on hb)
          have KW_8 := Lib.hid (KW_7.out.beneath hb)
          have HQ8 := Lib.hid (HQ7.out.trans (hb.mono HQ7.out.size))
          clear hb
          have hb : Below w6.heap.size w6 (w6.alloc (.cells #[.int .u8 lv.k, .int .i64 lv.n, .int .i64 lv.b, .int .i64 lv.t] 29)) := (Below.refl _ _).alloc (Nat.le_refl _) _
          have HKP_9 := Lib.hid (HKP_8.out.beneath hb)
          have HKQ_9 := Lib.hid (HKQ_8.out.beneath hb)
          have HX_9 := Lib.hid (HX_8.out.on hb)
          have KW_9 := Lib.hid (KW_8.out.beneath hb)
          have HQ9 := Lib.hid (HQ8.out.trans (hb.mono HQ8.out.size))
          clear hb
          have KX_9 := Lib.hid (Blk.new w6 29 #[.int .u8 lv.k, .int .i64 lv.n, .int .i64 lv.b, .int .i64 lv.t])
          clear hkq0 hkq1 hkq2 hkq3
          have hkp0 := HKP_9.out.cells 0
          have hkp1 := HKP_9.out.cells 1
          have hkp2 := HKP_9.out.cells 2
          have hkp3 := HKP_9.out.cells 3
          have hkq0 := HKQ_9.out.cells 0
          have hkq1 := HKQ_9.out.cells 1
          have hkq2 := HKQ_9.out.cells 2
          have hkq3 := HKQ_9.out.cells 3
          have kw0 := KW_9.out.cells 0
          have kw1 := KW_9.out.cells 1
          have kw2 := KW_9.out.cells 2
          have kw3 := KW_9.out.cells 3
          have kx0 := KX_9.out.cells 0
          have kx1 := KX_9.out.cells 1
          have kx2 := KX_9.out.cells 2
          have kx3 := KX_9.out.cells 3
          go_wp2_with fail
          go_ret
          exact ⟨rfl, HQ9.out⟩
      · obtain ⟨hk, hb2⟩ := hn
        obtain ⟨xe, hxe⟩ : ∃ x, loadE fm q = x := ⟨_, rfl⟩
        obtain ⟨xv, hxv⟩ : ∃ x, loadV fm q = x := ⟨_, rfl⟩
        obtain ⟨se, hse⟩ : ∃ x, storeE fm q lv = x := ⟨_, rfl⟩
        obtain ⟨sm, hsm⟩ : ∃ x, storeM fm q lv = x := ⟨_, rfl⟩
        have HXE := Lib.hid hxe
        have HXV := Lib.hid hxv
        have HSE := Lib.hid hse
        have HSM := Lib.hid hsm
        clear hxe hxv hse hsm
        have hfin : ¬ le = 0 ∨ (le = 0 ∧ xe = 142 ∧ se = 142) := by
          by_cases hl0 : le = 0
          · refine .inr ⟨hl0, ?_⟩
            have h5 := HL4.out ⟨hk, hb2⟩ (HLE.out.trans hl0)
            rw [HLV.out] at h5
            exact ⟨HXE.out.symm.trans h5.1, HSE.out.symm.trans h5.2⟩
          · exact .inl hl0
        have hk2 : (q.k != 2) = false := by rw [hk]; rfl
        have hb3 : (q.b != p.b) = false := by rw [hb2]; simp
        clear hk hb2
        rcases hfin with hl0 | ⟨rfl, rfl, rfl⟩
        · have hqe : (le != 0) = true := by simpa using hl0
          go_enter Try.func7, Try.ntmps7
          go_wp2_with fail
          refine (alive_any _).mono ?_
          rintro e w1 ⟨rfl, hb⟩
          have HKP_1 := Lib.hid (HKP_0.out.beneath hb)
          have HKQ_1 := Lib.hid (HKQ_0.out.beneath hb)
          have HQ1 := Lib.hid (HQ0.out.trans (hb.mono HQ0.out.size))
          clear hb
          go_wp2_with fail
          refine (mgreat_is (HH.out.on HQ1.out) HG.out).mono ?_
          rintro e w9 ⟨rfl, rfl⟩
          have hkp0 := HKP_1.out.cells 0
          have hkp1 := HKP_1.out.cells 1
          have hkp2 := HKP_1.out.cells 2
          have hkp3 := HKP_1.out.cells 3
          go_wp2_with fail
          refine (pfree_any (HF.out.on HQ1.out) p HFE.out HFM.out).mono ?_
          rintro e w2 ⟨Ax, cx, rx, rfl, ho, hm, hb⟩
          have HKP_2 := Lib.hid (HKP_1.out.beneath hb)
          have HKQ_2 := Lib.hid (HKQ_1.out.beneath hb)
          have HQ2 := Lib.hid (HQ1.out.trans (hb.mono HQ1.out.size))
          clear hb
          have HX_2 := Lib.hid (MemFew.ofOwn ho hm HXB.out)
          have HXM := Lib.hid hm
          clear ho hm
          clear hkp0 hkp1 hkp2 hkp3
          have hkp0 := HKP_2.out.cells 0
          have hkp1 := HKP_2.out.cells 1
          have hkp2 := HKP_2.out.cells 2
          have hkp3 := HKP_2.out.cells 3
          go_wp2_with fail
          refine (pload_any HX_2.out.mem p (e0 := 142) (v0 := ⟨0, 0, 0, 0⟩) (by rw [HXM.out]; exact HL1.out) (by rw [HXM.out]; exact loadV_no HL1.out (by decide))).mono ?_
          rintro e w3 ⟨rfl, hb⟩
          have HKP_3 := Lib.hid (HKP_2.out.beneath hb)
          have HKQ_3 := Lib.hid (HKQ_2.out.beneath hb)
          have HX_3 := Lib.hid (HX_2.out.on hb)
          have HQ3 := Lib.hid (HQ2.out.trans (hb.mono HQ2.out.size))
          clear hb
          have hb : Below w3.heap.size w3 (w3.alloc (.cells #[.int .u8 0, .int .i64 0, .int .i64 0, .int .i64 0] 29)) := (Below.refl _ _).alloc (Nat.le_refl _) _
          have HKP_4 := Lib.hid (HKP_3.out.beneath hb)
          have HKQ_4 := Lib.hid (HKQ_3.out.beneath hb)
          have HX_4 := Lib.hid (HX_3.out.on hb)
          have HQ4 := Lib.hid (HQ3.out.trans (hb.mono HQ3.out.size))
          clear hb
          have KU_4 := Lib.hid (Blk.new w3 29 #[.int .u8 0, .int .i64 0, .int .i64 0, .int .i64 0])
          clear hkp0 hkp1 hkp2 hkp3
          have hkp0 := HKP_4.out.cells 0
          have hkp1 := HKP_4.out.cells 1
          have hkp2 := HKP_4.out.cells 2
          have hkp3 := HKP_4.out.cells 3
          go_wp2_with fail
          refine (pfree_any HX_4.out p (e0 := 142) (m0 := []) (by rw [HXM.out]; exact HL2.out) (by rw [HXM.out]; unfold freeM; rw [HL2.out, if_neg (by decide)])).mono ?_
          rintro e w4 ⟨Ay, cy, ry, rfl, ho, hm, hb⟩
          have HKP_5 := Lib.hid (HKP_4.out.beneath hb)
          have HKQ_5 := Lib.hid (HKQ_4.out.beneath hb)
          have HX_5 := Lib.hid (HX_4.out.on hb)
          have KU_5 := Lib.hid (KU_4.out.beneath hb)
          have HQ5 := Lib.hid (HQ4.out.trans (hb.mono HQ4.out.size))
          clear hb
          clear ho hm
          clear hkp0 hkp1 hkp2 hkp3
          have hkq0 := HKQ_5.out.cells 0
          have hkq1 := HKQ_5.out.cells 1
          have hkq2 := HKQ_5.out.cells 2
          have hkq3 := HKQ_5.out.cells 3
          go_wp2_with fail
          refine (pload_any (HF.out.on HQ5.out).mem q HLE.out HLV.out).mono ?_
          rintro e w5 ⟨rfl, hb⟩
          have HKP_6 := Lib.hid (HKP_5.out.beneath hb)
          have HKQ_6 := Lib.hid (HKQ_5.out.beneath hb)
          have HX_6 := Lib.hid (HX_5.out.on hb)
          have HQ6 := Lib.hid (HQ5.out.trans (hb.mono HQ5.out.size))
          clear hb
          have hb : Below w5.heap.size w5 (w5.alloc (.cells #[.int .u8 lv.k, .int .i64 lv.n, .int .i64 lv.b, .int .i64 lv.t] 29)) := (Below.refl _ _).alloc (Nat.le_refl _) _
          have HKP_7 := Lib.hid (HKP_6.out.beneath hb)
          have HKQ_7 := Lib.hid (HKQ_6.out.beneath hb)
          have HX_7 := Lib.hid (HX_6.out.on hb)
          have HQ7 := Lib.hid (HQ6.out.trans (hb.mono HQ6.out.size))
          clear hb
          have KW_7 := Lib.hid (Blk.new w5 29 #[.int .u8 lv.k, .int .i64 lv.n, .int .i64 lv.b, .int .i64 lv.t])
          clear hkq0 hkq1 hkq2 hkq3
          have hkq0 := HKQ_7.out.cells 0
          have hkq1 := HKQ_7.out.cells 1
          have hkq2 := HKQ_7.out.cells 2
          have hkq3 := HKQ_7.out.cells 3
          go_wp2_with fail
          refine (pload_any HX_7.out.mem q (e0 := xe) (v0 := xv) (by rw [HXM.out]; exact HXE.out) (by rw [HXM.out]; exact HXV.out)).mono ?_
          rintro e w6 ⟨rfl, hb⟩
          have HKP_8 := Lib.hid (HKP_7.out.beneath hb)
          have HKQ_8 := Lib.hid (HKQ_7.out.beneath hb)
          have HX_8 := Lib.hid (HX_7.out.on hb)
          have KW_8 := Lib.hid (KW_7.out.beneath hb)
          have HQ8 := Lib.hid (HQ7.out.trans (hb.mono HQ7.out.size))
          clear hb
          have hb : Below w6.heap.size w6 (w6.alloc (.cells #[.int .u8 xv.k, .int .i64 xv.n, .int .i64 xv.b, .int .i64 xv.t] 29)) := (Below.refl _ _).alloc (Nat.le_refl _) _
          have HKP_9 := Lib.hid (HKP_8.out.beneath hb)
          have HKQ_9 := Lib.hid (HKQ_8.out.beneath hb)
          have HX_9 := Lib.hid (HX_8.out.on hb)
          have KW_9 := Lib.hid (KW_8.out.beneath hb)
          have HQ9 := Lib.hid (HQ8.out.trans (hb.mono HQ8.out.size))
          clear hb
          have KX_9 := Lib.hid (Blk.new w6 29 #[.int .u8 xv.k, .int .i64 xv.n, .int .i64 xv.b, .int .i64 xv.t])
          clear hkq0 hkq1 hkq2 hkq3
          have hkp0 := HKP_9.out.cells 0
          have hkp1 := HKP_9.out.cells 1
          have hkp2 := HKP_9.out.cells 2
          have hkp3 := HKP_9.out.cells 3
          have hkq0 := HKQ_9.out.cells 0
          have hkq1 := HKQ_9.out.cells 1
          have hkq2 := HKQ_9.out.cells 2
          have hkq3 := HKQ_9.out.cells 3
          have kw0 := KW_9.out.cells 0
          have kw1 := KW_9.out.cells 1
          have kw2 := KW_9.out.cells 2
          have kw3 := KW_9.out.cells 3
          have kx0 := KX_9.out.cells 0
          have kx1 := KX_9.out.cells 1
          have kx2 := KX_9.out.cells 2
          have kx3 := KX_9.out.cells 3
          go_wp2_with fail
          refine (pstore_any HX_9.out q lv (e0 := se) (m0 := sm) (by rw [HXM.out]; exact HSE.out) (by rw [HXM.out]; exact HSM.out)).mono ?_
          rintro e w7 ⟨Az, cz, rz, rfl, ho, hm, hb⟩
          have HKP_10 := Lib.hid (HKP_9.out.beneath hb)
          have HKQ_10 := Lib.hid (HKQ_9.out.beneath hb)
          have HX_10 := Lib.hid (HX_9.out.on hb)
          have KW_10 := Lib.hid (KW_9.out.beneath hb)
          have KX_10 := Lib.hid (KX_9.out.beneath hb)
          have HQ10 := Lib.hid (HQ9.out.trans (hb.mono HQ9.out.size))
          clear hb
          clear ho hm
          clear hkp0 hkp1 hkp2 hkp3 hkq0 hkq1 hkq2 hkq3 kw0 kw1 kw2 kw3 kx0 kx1 kx2 kx3
          go_wp2_with fail
          go_ret
          exact ⟨rfl, HQ10.out⟩
        · clear HL4
          go_enter Try.func7, Try.ntmps7
          go_wp2_with fail
          refine (alive_any _).mono ?_
          rintro e w1 ⟨rfl, hb⟩
          have HKP_1 := Lib.hid (HKP_0.out.beneath hb)
          have HKQ_1 := Lib.hid (HKQ_0.out.beneath hb)
          have HQ1 := Lib.hid (HQ0.out.trans (hb.mono HQ0.out.size))
          clear hb
          go_wp2_with fail
          refine (mgreat_is (HH.out.on HQ1.out) HG.out).mono ?_
          rintro e w9 ⟨rfl, rfl⟩
          have hkp0 := HKP_1.out.cells 0
          have hkp1 := HKP_1.out.cells 1
          have hkp2 := HKP_1.out.cells 2
          have hkp3 := HKP_1.out.cells 3
          go_wp2_with fail
          refine (pfree_any (HF.out.on HQ1.out) p HFE.out HFM.out).mono ?_
          rintro e w2 ⟨Ax, cx, rx, rfl, ho, hm, hb⟩
          have HKP_2 := Lib.hid (HKP_1.out.beneath hb)
          have HKQ_2 := Lib.hid (HKQ_1.out.beneath hb)
          have HQ2 := Lib.hid (HQ1.out.trans (hb.mono HQ1.out.size))
          clear hb
          have HX_2 := Lib.hid (MemFew.ofOwn ho hm HXB.out)
          have HXM := Lib.hid hm
          clear ho hm
          clear hkp0 hkp1 hkp2 hkp3
          have hkp0 := HKP_2.out.cells 0
          have hkp1 := HKP_2.out.cells 1
          have hkp2 := HKP_2.out.cells 2
          have hkp3 := HKP_2.out.cells 3
          go_wp2_with fail
          refine (pload_any HX_2.out.mem p (e0 := 142) (v0 := ⟨0, 0, 0, 0⟩) (by rw [HXM.out]; exact HL1.out) (by rw [HXM.out]; exact loadV_no HL1.out (by decide))).mono ?_
          rintro e w3 ⟨rfl, hb⟩
          have HKP_3 := Lib.hid (HKP_2.out.beneath hb)
          have HKQ_3 := Lib.hid (HKQ_2.out.beneath hb)
          have HX_3 := Lib.hid (HX_2.out.on hb)
          have HQ3 := Lib.hid (HQ2.out.trans (hb.mono HQ2.out.size))
          clear hb
          have hb : Below w3.heap.size w3 (w3.alloc (.cells #[.int .u8 0, .int .i64 0, .int .i64 0, .int .i64 0] 29)) := (Below.refl _ _).alloc (Nat.le_refl _) _
          have HKP_4 := Lib.hid (HKP_3.out.beneath hb)
          have HKQ_4 := Lib.hid (HKQ_3.out.beneath hb)
          have HX_4 := Lib.hid (HX_3.out.on hb)
          have HQ4 := Lib.hid (HQ3.out.trans (hb.mono HQ3.out.size))
          clear hb
          have KU_4 := Lib.hid (Blk.new w3 29 #[.int .u8 0, .int .i64 0, .int .i64 0, .int .i64 0])
          clear hkp0 hkp1 hkp2 hkp3
          have hkp0 := HKP_4.out.cells 0
          have hkp1 := HKP_4.out.cells 1
          have hkp2 := HKP_4.out.cells 2
          have hkp3 := HKP_4.out.cells 3
          go_wp2_with fail
          refine (pfree_any HX_4.out p (e0 := 142) (m0 := []) (by rw [HXM.out]; exact HL2.out) (by rw [HXM.out]; unfold freeM; rw [HL2.out, if_neg (by decide)])).mono ?_
          rintro e w4 ⟨Ay, cy, ry, rfl, ho, hm, hb⟩
          have HKP_5 := Lib.hid (HKP_4.out.beneath hb)
          have HKQ_5 := Lib.hid (HKQ_4.out.beneath hb)
          have HX_5 := Lib.hid (HX_4.out.on hb)
          have KU_5 := Lib.hid (KU_4.out.beneath hb)
          have HQ5 := Lib.hid (HQ4.out.trans (hb.mono HQ4.out.size))
          clear hb
          clear ho hm
          clear hkp0 hkp1 hkp2 hkp3
          have hkq0 := HKQ_5.out.cells 0
          have hkq1 := HKQ_5.out.cells 1
          have hkq2 := HKQ_5.out.cells 2
          have hkq3 := HKQ_5.out.cells 3
          go_wp2_with fail
          refine (pload_any (HF.out.on HQ5.out).mem q HLE.out HLV.out).mono ?_
          rintro e w5 ⟨rfl, hb⟩
          have HKP_6 := Lib.hid (HKP_5.out.beneath hb)
          have HKQ_6 := Lib.hid (HKQ_5.out.beneath hb)
          have HX_6 := Lib.hid (HX_5.out.on hb)
          have HQ6 := Lib.hid (HQ5.out.trans (hb.mono HQ5.out.size))
          clear hb
          have hb : Below w5.heap.size w5 (w5.alloc (.cells #[.int .u8 lv.k, .int .i64 lv.n, .int .i64 lv.b, .int .i64 lv.t] 29)) := (Below.refl _ _).alloc (Nat.le_refl _) _
          have HKP_7 := Lib.hid (HKP_6.out.beneath hb)
          have HKQ_7 := Lib.hid (HKQ_6.out.beneath hb)
          have HX_7 := Lib.hid (HX_6.out.on hb)
          have HQ7 := Lib.hid (HQ6.out.trans (hb.mono HQ6.out.size))
          clear hb
          have KW_7 := Lib.hid (Blk.new w5 29 #[.int .u8 lv.k, .int .i64 lv.n, .int .i64 lv.b, .int .i64 lv.t])
          clear hkq0 hkq1 hkq2 hkq3
          have hkq0 := HKQ_7.out.cells 0
          have hkq1 := HKQ_7.out.cells 1
          have hkq2 := HKQ_7.out.cells 2
          have hkq3 := HKQ_7.out.cells 3
          go_wp2_with fail
          refine (pload_any HX_7.out.mem q (e0 := 142) (v0 := xv) (by rw [HXM.out]; exact HXE.out) (by rw [HXM.out]; exact HXV.out)).mono ?_
          rintro e w6 ⟨rfl, hb⟩
          have HKP_8 := Lib.hid (HKP_7.out.beneath hb)
          have HKQ_8 := Lib.hid (HKQ_7.out.beneath hb)
          have HX_8 := Lib.hid (HX_7.out.on hb)
          have KW_8 := Lib.hid (KW_7.out.beneath hb)
          have HQ8 := Lib.hid (HQ7.out.trans (hb.mono HQ7.out.size))
          clear hb
          have hb : Below w6.heap.size w6 (w6.alloc (.cells #[.int .u8 xv.k, .int .i64 xv.n, .int .i64 xv.b, .int .i64 xv.t] 29)) := (Below.refl _ _).alloc (Nat.le_refl _) _
          have HKP_9 := Lib.hid (HKP_8.out.beneath hb)
          have HKQ_9 := Lib.hid (HKQ_8.out.beneath hb)
          have HX_9 := Lib.hid (HX_8.out.on hb)
          have KW_9 := Lib.hid (KW_8.out.beneath hb)
          have HQ9 := Lib.hid (HQ8.out.trans (hb.mono HQ8.out.size))
          clear hb
          have KX_9 := Lib.hid (Blk.new w6 29 #[.int .u8 xv.k, .int .i64 xv.n, .int .i64 xv.b, .int .i64 xv.t])
          clear hkq0 hkq1 hkq2 hkq3
          have hkp0 := HKP_9.out.cells 0
          have hkp1 := HKP_9.out.cells 1
          have hkp2 := HKP_9.out.cells 2
          have hkp3 := HKP_9.out.cells 3
          have hkq0 := HKQ_9.out.cells 0
          have hkq1 := HKQ_9.out.cells 1
          have hkq2 := HKQ_9.out.cells 2
          have hkq3 := HKQ_9.out.cells 3
          have kw0 := KW_9.out.cells 0
          have kw1 := KW_9.out.cells 1
          have kw2 := KW_9.out.cells 2
          have kw3 := KW_9.out.cells 3
          have kx0 := KX_9.out.cells 0
          have kx1 := KX_9.out.cells 1
          have kx2 := KX_9.out.cells 2
          have kx3 := KX_9.out.cells 3
          go_wp2_with fail
          refine (pstore_any HX_9.out q lv (e0 := 142) (m0 := sm) (by rw [HXM.out]; exact HSE.out) (by rw [HXM.out]; exact HSM.out)).mono ?_
          rintro e w7 ⟨Az, cz, rz, rfl, ho, hm, hb⟩
          have HKP_10 := Lib.hid (HKP_9.out.beneath hb)
          have HKQ_10 := Lib.hid (HKQ_9.out.beneath hb)
          have HX_10 := Lib.hid (HX_9.out.on hb)
          have KW_10 := Lib.hid (KW_9.out.beneath hb)
          have KX_10 := Lib.hid (KX_9.out.beneath hb)
          have HQ10 := Lib.hid (HQ9.out.trans (hb.mono HQ9.out.size))
          clear hb
          clear ho hm
          clear hkp0 hkp1 hkp2 hkp3 hkq0 hkq1 hkq2 hkq3 kw0 kw1 kw2 kw3 kx0 kx1 kx2 kx3
          go_wp2_with fail
          go_ret
          exact ⟨rfl, HQ10.out⟩
end Go.Proofs.Ythddacnnhmcoaaa
