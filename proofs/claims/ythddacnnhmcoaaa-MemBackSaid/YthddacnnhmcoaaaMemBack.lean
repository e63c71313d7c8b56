/-
  The walk of the law MemBack.
-/
import Derived.Test.YthddacnnhmcoaaaMmAlive
import Derived.Test.YthddacnnhmcoaaaMmLaws
namespace Go.Proofs.Ythddacnnhmcoaaa
set_option linter.unusedVariables false
set_option linter.unusedSimpArgs false
open Go.ChangeShapes Go.WideShapes Go.ChangeAt Go.RowKit

theorem mmb_none {rows : List BkR} (h : mmb rows = []) : rows = [] := List.map_eq_nil_iff.1 h
set_option maxRecDepth 100000 in
set_option maxHeartbeats 6400000 in
theorem walk_MemBack {w : World} {A : Option Addr} {c : Nat} {rows : List BkR} (h : MemIn w A c rows) (p q v : Vl) :
    Calls Try.prog 6 #[.slice A rows.length c, valV p.k p.n p.b p.t, valV q.k q.n q.b q.t, valV v.k v.n v.b v.t] w fun e w' => e = .returned (.bool true) ∧ Below w.heap.size w w' := by
  have HQ0 : Hid (Below w.heap.size w (((w.alloc (.cells #[.int .u8 p.k, .int .i64 p.n, .int .i64 p.b, .int .i64 p.t] 29)).alloc (.cells #[.int .u8 q.k, .int .i64 q.n, .int .i64 q.b, .int .i64 q.t] 29)).alloc (.cells #[.int .u8 v.k, .int .i64 v.n, .int .i64 v.b, .int .i64 v.t] 29))) := Lib.hid ((((Below.refl _ _).alloc (Nat.le_refl _) _).alloc (by simp) _).alloc (by simp; omega) _)
  have HH := Lib.hid h
  have HKP_0 := Lib.hid (((Blk.new w 29 #[.int .u8 p.k, .int .i64 p.n, .int .i64 p.b, .int .i64 p.t]).alloc (.cells #[.int .u8 q.k, .int .i64 q.n, .int .i64 q.b, .int .i64 q.t] 29)).alloc (.cells #[.int .u8 v.k, .int .i64 v.n, .int .i64 v.b, .int .i64 v.t] 29))
  have HKQ_0 := Lib.hid ((Blk.new2 w (.cells #[.int .u8 p.k, .int .i64 p.n, .int .i64 p.b, .int .i64 p.t] 29) 29 #[.int .u8 q.k, .int .i64 q.n, .int .i64 q.b, .int .i64 q.t]).alloc (.cells #[.int .u8 v.k, .int .i64 v.n, .int .i64 v.b, .int .i64 v.t] 29))
  have HKV_0 := Lib.hid (Blk.newAt (w := ((w.alloc (.cells #[.int .u8 p.k, .int .i64 p.n, .int .i64 p.b, .int .i64 p.t] 29)).alloc (.cells #[.int .u8 q.k, .int .i64 q.n, .int .i64 q.b, .int .i64 q.t] 29))) (g := w.heap.size + 2) (by simp) 29 #[.int .u8 v.k, .int .i64 v.n, .int .i64 v.b, .int .i64 v.t])
  have hqv := eqValV
  clear h
  obtain ⟨gr, hg⟩ : ∃ gr, greatM rows = gr := ⟨_, rfl⟩
  have HG := Lib.hid hg
  clear hg
  cases gr with
  | true =>
    go_enter Try.func6, Try.ntmps6
    go_wp2_with fail
    refine (alive_any _).mono ?_
    rintro e w1 ⟨rfl, hb⟩
    have HKP_1 := Lib.hid (HKP_0.out.beneath hb)
    have HKQ_1 := Lib.hid (HKQ_0.out.beneath hb)
    have HKV_1 := Lib.hid (HKV_0.out.beneath hb)
    have HQ1 := Lib.hid (HQ0.out.trans (hb.mono HQ0.out.size))
    clear hb
    go_wp2_with fail
    refine (mgreat_is (HH.out.on HQ1.out) HG.out).mono ?_
    rintro e w9 ⟨rfl, rfl⟩
    go_wp2_with fail
    go_ret
    exact ⟨rfl, HQ1.out⟩
  | false =>
    have HF := Lib.hid (mfew_of HH.out HG.out)
    have HFB := Lib.hid (FewB.of HF.out)
    obtain ⟨se, hse⟩ : ∃ x, storeE (mmb rows) p v = x := ⟨_, rfl⟩
    obtain ⟨sm, hsm⟩ : ∃ x, storeM (mmb rows) p v = x := ⟨_, rfl⟩
    obtain ⟨le, hle⟩ : ∃ x, loadE (mmb rows) q = x := ⟨_, rfl⟩
    obtain ⟨lv, hlv⟩ : ∃ x, loadV (mmb rows) q = x := ⟨_, rfl⟩
    have HSE := Lib.hid hse
    have HSM := Lib.hid hsm
    have HLE := Lib.hid hle
    have HLV := Lib.hid hlv
    have HXB : Hid (FewB sm) := Lib.hid (hsm ▸ HFB.out.store p v)
    clear hsm hle hlv
    by_cases hz : se = 0
    rotate_left
    · have hfn : storeM (mmb rows) p v = [] := by unfold storeM; rw [hse, if_neg hz]
      obtain rfl := HSM.out.symm.trans hfn
      have hqe : (se != 0) = true := by simpa using hz
      clear hfn hse
      go_enter Try.func6, Try.ntmps6
      go_wp2_with fail
      refine (alive_any _).mono ?_
      rintro e w1 ⟨rfl, hb⟩
      have HKP_1 := Lib.hid (HKP_0.out.beneath hb)
      have HKQ_1 := Lib.hid (HKQ_0.out.beneath hb)
      have HKV_1 := Lib.hid (HKV_0.out.beneath hb)
      have HQ1 := Lib.hid (HQ0.out.trans (hb.mono HQ0.out.size))
      clear hb
      go_wp2_with fail
      refine (mgreat_is (HH.out.on HQ1.out) HG.out).mono ?_
      rintro e w9 ⟨rfl, rfl⟩
      have hkp0 := HKP_1.out.cells 0
      have hkp1 := HKP_1.out.cells 1
      have hkp2 := HKP_1.out.cells 2
      have hkp3 := HKP_1.out.cells 3
      have hkv0 := HKV_1.out.cells 0
      have hkv1 := HKV_1.out.cells 1
      have hkv2 := HKV_1.out.cells 2
      have hkv3 := HKV_1.out.cells 3
      go_wp2_with fail
      refine (pstore_any (HF.out.on HQ1.out) p v HSE.out HSM.out).mono ?_
      rintro e w2 ⟨Ax, cx, rx, rfl, ho, hm, hb⟩
      have HKP_2 := Lib.hid (HKP_1.out.beneath hb)
      have HKQ_2 := Lib.hid (HKQ_1.out.beneath hb)
      have HKV_2 := Lib.hid (HKV_1.out.beneath hb)
      have HQ2 := Lib.hid (HQ1.out.trans (hb.mono HQ1.out.size))
      clear hb
      obtain rfl := mmb_none hm
      clear ho hm
      clear hkp0 hkp1 hkp2 hkp3 hkv0 hkv1 hkv2 hkv3
      have hkq0 := HKQ_2.out.cells 0
      have hkq1 := HKQ_2.out.cells 1
      have hkq2 := HKQ_2.out.cells 2
      have hkq3 := HKQ_2.out.cells 3
      go_wp2_with fail
      refine (pload_any (HF.out.on HQ2.out).mem q HLE.out HLV.out).mono ?_
      rintro e w3 ⟨rfl, hb⟩
      have HKP_3 := Lib.hid (HKP_2.out.beneath hb)
      have HKQ_3 := Lib.hid (HKQ_2.out.beneath hb)
      have HKV_3 := Lib.hid (HKV_2.out.beneath hb)
      have HQ3 := Lib.hid (HQ2.out.trans (hb.mono HQ2.out.size))
      clear hb
      have hb : Below w3.heap.size w3 (w3.alloc (.cells #[.int .u8 lv.k, .int .i64 lv.n, .int .i64 lv.b, .int .i64 lv.t] 29)) := (Below.refl _ _).alloc (Nat.le_refl _) _
      have HKP_4 := Lib.hid (HKP_3.out.beneath hb)
      have HKQ_4 := Lib.hid (HKQ_3.out.beneath hb)
      have HKV_4 := Lib.hid (HKV_3.out.beneath hb)
      have HQ4 := Lib.hid (HQ3.out.trans (hb.mono HQ3.out.size))
      clear hb
      have KW_4 := Lib.hid (Blk.new w3 29 #[.int .u8 lv.k, .int .i64 lv.n, .int .i64 lv.b, .int .i64 lv.t])
      clear hkq0 hkq1 hkq2 hkq3
      go_wp2_with fail
      go_ret
      exact ⟨rfl, HQ4.out⟩
    · subst hz
      have hlaw := store_laws (q := q) hse
      rw [HSM.out, HLE.out, HLV.out] at hlaw
      obtain ⟨hl0, hl1, hl2, hl3, hl4⟩ := hlaw
      have HL0 := Lib.hid hl0
      have HL1 := Lib.hid hl1
      have HL2 := Lib.hid hl2
      have HL3 := Lib.hid hl3
      have HL4 := Lib.hid hl4
      clear hl0 hl1 hl2 hl3 hl4 hse
      obtain ⟨ov, hov⟩ : ∃ x, loadV sm q = x := ⟨_, rfl⟩
      have HOV := Lib.hid hov
      have hfin : (p = q) ∨ (¬ p = q ∧ ov = lv) := by
        by_cases e : p = q
        · exact .inl e
        · exact .inr ⟨e, hov.symm.trans (HL4.out e)⟩
      clear hov
      have hfin2 : (decide (p = q) = true) ∨ (decide (p = q) = false ∧ ov = lv) := hfin.imp (fun h => decide_eq_true h) (fun h => ⟨decide_eq_false h.1, h.2⟩)
      clear hfin
      rcases hfin2 with hpq | ⟨hpq, rfl⟩
      · clear HL4
        go_enter Try.func6, Try.ntmps6
        go_wp2_with fail
        refine (alive_any _).mono ?_
        rintro e w1 ⟨rfl, hb⟩
        have HKP_1 := Lib.hid (HKP_0.out.beneath hb)
        have HKQ_1 := Lib.hid (HKQ_0.out.beneath hb)
        have HKV_1 := Lib.hid (HKV_0.out.beneath hb)
        have HQ1 := Lib.hid (HQ0.out.trans (hb.mono HQ0.out.size))
        clear hb
        go_wp2_with fail
        refine (mgreat_is (HH.out.on HQ1.out) HG.out).mono ?_
        rintro e w9 ⟨rfl, rfl⟩
        have hkp0 := HKP_1.out.cells 0
        have hkp1 := HKP_1.out.cells 1
        have hkp2 := HKP_1.out.cells 2
        have hkp3 := HKP_1.out.cells 3
        have hkv0 := HKV_1.out.cells 0
        have hkv1 := HKV_1.out.cells 1
        have hkv2 := HKV_1.out.cells 2
        have hkv3 := HKV_1.out.cells 3
        go_wp2_with fail
        refine (pstore_any (HF.out.on HQ1.out) p v HSE.out HSM.out).mono ?_
        rintro e w2 ⟨Ax, cx, rx, rfl, ho, hm, hb⟩
        have HKP_2 := Lib.hid (HKP_1.out.beneath hb)
        have HKQ_2 := Lib.hid (HKQ_1.out.beneath hb)
        have HKV_2 := Lib.hid (HKV_1.out.beneath hb)
        have HQ2 := Lib.hid (HQ1.out.trans (hb.mono HQ1.out.size))
        clear hb
        have HX_2 := Lib.hid (MemFew.ofOwn ho hm HXB.out)
        have HXM := Lib.hid hm
        clear ho hm
        clear hkp0 hkp1 hkp2 hkp3 hkv0 hkv1 hkv2 hkv3
        have hkq0 := HKQ_2.out.cells 0
        have hkq1 := HKQ_2.out.cells 1
        have hkq2 := HKQ_2.out.cells 2
        have hkq3 := HKQ_2.out.cells 3
        go_wp2_with fail
        refine (pload_any (HF.out.on HQ2.out).mem q HLE.out HLV.out).mono ?_
        rintro e w3 ⟨rfl, hb⟩
        have HKP_3 := Lib.hid (HKP_2.out.beneath hb)
        have HKQ_3 := Lib.hid (HKQ_2.out.beneath hb)
        have HKV_3 := Lib.hid (HKV_2.out.beneath hb)
        have HX_3 := Lib.hid (HX_2.out.on hb)
        have HQ3 := Lib.hid (HQ2.out.trans (hb.mono HQ2.out.size))
        clear hb
        have hb : Below w3.heap.size w3 (w3.alloc (.cells #[.int .u8 lv.k, .int .i64 lv.n, .int .i64 lv.b, .int .i64 lv.t] 29)) := (Below.refl _ _).alloc (Nat.le_refl _) _
        have HKP_4 := Lib.hid (HKP_3.out.beneath hb)
        have HKQ_4 := Lib.hid (HKQ_3.out.beneath hb)
        have HKV_4 := Lib.hid (HKV_3.out.beneath hb)
        have HX_4 := Lib.hid (HX_3.out.on hb)
        have HQ4 := Lib.hid (HQ3.out.trans (hb.mono HQ3.out.size))
        clear hb
        have KW_4 := Lib.hid (Blk.new w3 29 #[.int .u8 lv.k, .int .i64 lv.n, .int .i64 lv.b, .int .i64 lv.t])
        clear hkq0 hkq1 hkq2 hkq3
        have hkp0 := HKP_4.out.cells 0
        have hkp1 := HKP_4.out.cells 1
        have hkp2 := HKP_4.out.cells 2
        have hkp3 := HKP_4.out.cells 3
        go_wp2_with fail
        refine (pload_any HX_4.out.mem p (e0 := 0) (v0 := v) (by rw [HXM.out]; exact HL1.out) (by rw [HXM.out]; exact HL2.out)).mono ?_
        rintro e w4 ⟨rfl, hb⟩
        have HKP_5 := Lib.hid (HKP_4.out.beneath hb)
        have HKQ_5 := Lib.hid (HKQ_4.out.beneath hb)
        have HKV_5 := Lib.hid (HKV_4.out.beneath hb)
        have HX_5 := Lib.hid (HX_4.out.on hb)
        have KW_5 := Lib.hid (KW_4.out.beneath hb)
        have HQ5 := Lib.hid (HQ4.out.trans (hb.mono HQ4.out.size))
        clear hb
        have hb : Below w4.heap.size w4 (w4.alloc (.cells #[.int .u8 v.k, .int .i64 v.n, .int .i64 v.b, .int .i64 v.t] 29)) := (Below.refl _ _).alloc (Nat.le_refl _) _
        have HKP_6 := Lib.hid (HKP_5.out.beneath hb)
        have HKQ_6 := Lib.hid (HKQ_5.out.beneath hb)
        have HKV_6 := Lib.hid (HKV_5.out.beneath hb)
        have HX_6 := Lib.hid (HX_5.out.on hb)
        have KW_6 := Lib.hid (KW_5.out.beneath hb)
        have HQ6 := Lib.hid (HQ5.out.trans (hb.mono HQ5.out.size))
        clear hb
        have KN_6 := Lib.hid (Blk.new w4 29 #[.int .u8 v.k, .int .i64 v.n, .int .i64 v.b, .int .i64 v.t])
        clear hkp0 hkp1 hkp2 hkp3
        have hkq0 := HKQ_6.out.cells 0
        have hkq1 := HKQ_6.out.cells 1
        have hkq2 := HKQ_6.out.cells 2
        have hkq3 := HKQ_6.out.cells 3
        go_wp2_with fail
        refine (pload_any HX_6.out.mem q (e0 := le) (v0 := ov) (by rw [HXM.out]; exact HL3.out) (by rw [HXM.out]; exact HOV.out)).mono ?_
        rintro e w5 ⟨rfl, hb⟩
        have HKP_7 := Lib.hid (HKP_6.out.beneath hb)
        have HKQ_7 := Lib.hid (HKQ_6.out.beneath hb)
        have HKV_7 := Lib.hid (HKV_6.out.beneath hb)
        have HX_7 := Lib.hid (HX_6.out.on hb)
        have KW_7 := Lib.hid (KW_6.out.beneath hb)
        have KN_7 := Lib.hid (KN_6.out.beneath hb)
        have HQ7 := Lib.hid (HQ6.out.trans (hb.mono HQ6.out.size))
        clear hb
        have hb : Below w5.heap.size w5 (w5.alloc (.cells #[.int .u8 ov.k, .int .i64 ov.n, .int .i64 ov.b, .int .i64 ov.t] 29)) := (Below.refl _ _).alloc (Nat.le_refl _) _
        have HKP_8 := Lib.hid (HKP_7.out.beneath hb)
        have HKQ_8 := Lib.hid (HKQ_7.out.beneath hb)
        have HKV_8 := Lib.hid (HKV_7.out.beneath hb)
        have HX_8 := Lib.hid (HX_7.out.on hb)
        have KW_8 := Lib.hid (KW_7.out.beneath hb)
        have KN_8 := Lib.hid (KN_7.out.beneath hb)
        have HQ8 := Lib.hid (HQ7.out.trans (hb.mono HQ7.out.size))
        clear hb
        have KO_8 := Lib.hid (Blk.new w5 29 #[.int .u8 ov.k, .int .i64 ov.n, .int .i64 ov.b, .int .i64 ov.t])
        clear hkq0 hkq1 hkq2 hkq3
        have hkp0 := HKP_8.out.cells 0
        have hkp1 := HKP_8.out.cells 1
        have hkp2 := HKP_8.out.cells 2
        have hkp3 := HKP_8.out.cells 3
        have hkq0 := HKQ_8.out.cells 0
        have hkq1 := HKQ_8.out.cells 1
        have hkq2 := HKQ_8.out.cells 2
        have hkq3 := HKQ_8.out.cells 3
        have hkv0 := HKV_8.out.cells 0
        have hkv1 := HKV_8.out.cells 1
        have hkv2 := HKV_8.out.cells 2
        have hkv3 := HKV_8.out.cells 3
        have kw0 := KW_8.out.cells 0
        have kw1 := KW_8.out.cells 1
        have kw2 := KW_8.out.cells 2
        have kw3 := KW_8.out.cells 3
        have kn0 := KN_8.out.cells 0
        have kn1 := KN_8.out.cells 1
        have kn2 := KN_8.out.cells 2
        have kn3 := KN_8.out.cells 3
        have ko0 := KO_8.out.cells 0
        have ko1 := KO_8.out.cells 1
        have ko2 := KO_8.out.cells 2
        have ko3 := KO_8.out.cells 3
        go_wp2_with fail
        refine (pcheckm_is HX_8.out.mem (e0 := 0) (by rw [HXM.out]; unfold checkM; rw [HL0.out]; rfl)).mono ?_
        rintro e w6 ⟨rfl, hb⟩
        have HKP_9 := Lib.hid (HKP_8.out.beneath hb)
        have HKQ_9 := Lib.hid (HKQ_8.out.beneath hb)
        have HKV_9 := Lib.hid (HKV_8.out.beneath hb)
        have HX_9 := Lib.hid (HX_8.out.on hb)
        have KW_9 := Lib.hid (KW_8.out.beneath hb)
        have KN_9 := Lib.hid (KN_8.out.beneath hb)
        have KO_9 := Lib.hid (KO_8.out.beneath hb)
        have HQ9 := Lib.hid (HQ8.out.trans (hb.mono HQ8.out.size))
        clear hb
        clear hkp0 hkp1 hkp2 hkp3 hkq0 hkq1 hkq2 hkq3 hkv0 hkv1 hkv2 hkv3 kw0 kw1 kw2 kw3 kn0 kn1 kn2 kn3 ko0 ko1 ko2 ko3
        have hkp0 := HKP_9.out.cells 0
        have hkp1 := HKP_9.out.cells 1
        have hkp2 := HKP_9.out.cells 2
        have hkp3 := HKP_9.out.cells 3
        have hkq0 := HKQ_9.out.cells 0
        have hkq1 := HKQ_9.out.cells 1
        have hkq2 := HKQ_9.out.cells 2
        have hkq3 := HKQ_9.out.cells 3
        have hkv0 := HKV_9.out.cells 0
        have hkv1 := HKV_9.out.cells 1
        have hkv2 := HKV_9.out.cells 2
        have hkv3 := HKV_9.out.cells 3
        have kw0 := KW_9.out.cells 0
        have kw1 := KW_9.out.cells 1
        have kw2 := KW_9.out.cells 2
        have kw3 := KW_9.out.cells 3
        have kn0 := KN_9.out.cells 0
        have kn1 := KN_9.out.cells 1
        have kn2 := KN_9.out.cells 2
        have kn3 := KN_9.out.cells 3
        have ko0 := KO_9.out.cells 0
        have ko1 := KO_9.out.cells 1
        have ko2 := KO_9.out.cells 2
        have ko3 := KO_9.out.cells 3
        go_wp2_with fail
        go_ret
        exact ⟨rfl, HQ9.out⟩
      · clear HL4
        go_enter Try.func6, Try.ntmps6
        go_wp2_with fail
        refine (alive_any _).mono ?_
        rintro e w1 ⟨rfl, hb⟩
        have HKP_1 := Lib.hid (HKP_0.out.beneath hb)
        have HKQ_1 := Lib.hid (HKQ_0.out.beneath hb)
        have HKV_1 := Lib.hid (HKV_0.out.beneath hb)
        have HQ1 := Lib.hid (HQ0.out.trans (hb.mono HQ0.out.size))
        clear hb
        go_wp2_with fail
        refine (mgreat_is (HH.out.on HQ1.out) HG.out).mono ?_
        rintro e w9 ⟨rfl, rfl⟩
        have hkp0 := HKP_1.out.cells 0
        have hkp1 := HKP_1.out.cells 1
        have hkp2 := HKP_1.out.cells 2
        have hkp3 := HKP_1.out.cells 3
        have hkv0 := HKV_1.out.cells 0
        have hkv1 := HKV_1.out.cells 1
        have hkv2 := HKV_1.out.cells 2
        have hkv3 := HKV_1.out.cells 3
        go_wp2_with fail
        refine (pstore_any (HF.out.on HQ1.out) p v HSE.out HSM.out).mono ?_
        rintro e w2 ⟨Ax, cx, rx, rfl, ho, hm, hb⟩
        have HKP_2 := Lib.hid (HKP_1.out.beneath hb)
        have HKQ_2 := Lib.hid (HKQ_1.out.beneath hb)
        have HKV_2 := Lib.hid (HKV_1.out.beneath hb)
        have HQ2 := Lib.hid (HQ1.out.trans (hb.mono HQ1.out.size))
        clear hb
        have HX_2 := Lib.hid (MemFew.ofOwn ho hm HXB.out)
        have HXM := Lib.hid hm
        clear ho hm
        clear hkp0 hkp1 hkp2 hkp3 hkv0 hkv1 hkv2 hkv3
        have hkq0 := HKQ_2.out.cells 0
        have hkq1 := HKQ_2.out.cells 1
        have hkq2 := HKQ_2.out.cells 2
        have hkq3 := HKQ_2.out.cells 3
        go_wp2_with fail
        refine (pload_any (HF.out.on HQ2.out).mem q HLE.out HLV.out).mono ?_
        rintro e w3 ⟨rfl, hb⟩
        have HKP_3 := Lib.hid (HKP_2.out.beneath hb)
        have HKQ_3 := Lib.hid (HKQ_2.out.beneath hb)
        have HKV_3 := Lib.hid (HKV_2.out.beneath hb)
        have HX_3 := Lib.hid (HX_2.out.on hb)
        have HQ3 := Lib.hid (HQ2.out.trans (hb.mono HQ2.out.size))
        clear hb
        have hb : Below w3.heap.size w3 (w3.alloc (.cells #[.int .u8 ov.k, .int .i64 ov.n, .int .i64 ov.b, .int .i64 ov.t] 29)) := (Below.refl _ _).alloc (Nat.le_refl _) _
        have HKP_4 := Lib.hid (HKP_3.out.beneath hb)
        have HKQ_4 := Lib.hid (HKQ_3.out.beneath hb)
        have HKV_4 := Lib.hid (HKV_3.out.beneath hb)
        have HX_4 := Lib.hid (HX_3.out.on hb)
        have HQ4 := Lib.hid (HQ3.out.trans (hb.mono HQ3.out.size))
        clear hb
        have KW_4 := Lib.hid (Blk.new w3 29 #[.int .u8 ov.k, .int .i64 ov.n, .int .i64 ov.b, .int .i64 ov.t])
        clear hkq0 hkq1 hkq2 hkq3
        have hkp0 := HKP_4.out.cells 0
        have hkp1 := HKP_4.out.cells 1
        have hkp2 := HKP_4.out.cells 2
        have hkp3 := HKP_4.out.cells 3
        go_wp2_with fail
        refine (pload_any HX_4.out.mem p (e0 := 0) (v0 := v) (by rw [HXM.out]; exact HL1.out) (by rw [HXM.out]; exact HL2.out)).mono ?_
        rintro e w4 ⟨rfl, hb⟩
        have HKP_5 := Lib.hid (HKP_4.out.beneath hb)
        have HKQ_5 := Lib.hid (HKQ_4.out.beneath hb)
        have HKV_5 := Lib.hid (HKV_4.out.beneath hb)
        have HX_5 := Lib.hid (HX_4.out.on hb)
        have KW_5 := Lib.hid (KW_4.out.beneath hb)
        have HQ5 := Lib.hid (HQ4.out.trans (hb.mono HQ4.out.size))
        clear hb
        have hb : Below w4.heap.size w4 (w4.alloc (.cells #[.int .u8 v.k, .int .i64 v.n, .int .i64 v.b, .int .i64 v.t] 29)) := (Below.refl _ _).alloc (Nat.le_refl _) _
        have HKP_6 := Lib.hid (HKP_5.out.beneath hb)
        have HKQ_6 := Lib.hid (HKQ_5.out.beneath hb)
        have HKV_6 := Lib.hid (HKV_5.out.beneath hb)
        have HX_6 := Lib.hid (HX_5.out.on hb)
        have KW_6 := Lib.hid (KW_5.out.beneath hb)
        have HQ6 := Lib.hid (HQ5.out.trans (hb.mono HQ5.out.size))
        clear hb
        have KN_6 := Lib.hid (Blk.new w4 29 #[.int .u8 v.k, .int .i64 v.n, .int .i64 v.b, .int .i64 v.t])
        clear hkp0 hkp1 hkp2 hkp3
        have hkq0 := HKQ_6.out.cells 0
        have hkq1 := HKQ_6.out.cells 1
        have hkq2 := HKQ_6.out.cells 2
        have hkq3 := HKQ_6.out.cells 3
        go_wp2_with fail
        refine (pload_any HX_6.out.mem q (e0 := le) (v0 := ov) (by rw [HXM.out]; exact HL3.out) (by rw [HXM.out]; exact HOV.out)).mono ?_
        rintro e w5 ⟨rfl, hb⟩
        have HKP_7 := Lib.hid (HKP_6.out.beneath hb)
        have HKQ_7 := Lib.hid (HKQ_6.out.beneath hb)
        have HKV_7 := Lib.hid (HKV_6.out.beneath hb)
        have HX_7 := Lib.hid (HX_6.out.on hb)
        have KW_7 := Lib.hid (KW_6.out.beneath hb)
        have KN_7 := Lib.hid (KN_6.out.beneath hb)
        have HQ7 := Lib.hid (HQ6.out.trans (hb.mono HQ6.out.size))
        clear hb
        have hb : Below w5.heap.size w5 (w5.alloc (.cells #[.int .u8 ov.k, .int .i64 ov.n, .int .i64 ov.b, .int .i64 ov.t] 29)) := (Below.refl _ _).alloc (Nat.le_refl _) _
        have HKP_8 := Lib.hid (HKP_7.out.beneath hb)
        have HKQ_8 := Lib.hid (HKQ_7.out.beneath hb)
        have HKV_8 := Lib.hid (HKV_7.out.beneath hb)
        have HX_8 := Lib.hid (HX_7.out.on hb)
        have KW_8 := Lib.hid (KW_7.out.beneath hb)
        have KN_8 := Lib.hid (KN_7.out.beneath hb)
        have HQ8 := Lib.hid (HQ7.out.trans (hb.mono HQ7.out.size))
        clear hb
        have KO_8 := Lib.hid (Blk.new w5 29 #[.int .u8 ov.k, .int .i64 ov.n, .int .i64 ov.b, .int .i64 ov.t])
        clear hkq0 hkq1 hkq2 hkq3
        have hkp0 := HKP_8.out.cells 0
        have hkp1 := HKP_8.out.cells 1
        have hkp2 := HKP_8.out.cells 2
        have hkp3 := HKP_8.out.cells 3
        have hkq0 := HKQ_8.out.cells 0
        have hkq1 := HKQ_8.out.cells 1
        have hkq2 := HKQ_8.out.cells 2
        have hkq3 := HKQ_8.out.cells 3
        have hkv0 := HKV_8.out.cells 0
        have hkv1 := HKV_8.out.cells 1
        have hkv2 := HKV_8.out.cells 2
        have hkv3 := HKV_8.out.cells 3
        have kw0 := KW_8.out.cells 0
        have kw1 := KW_8.out.cells 1
        have kw2 := KW_8.out.cells 2
        have kw3 := KW_8.out.cells 3
        have kn0 := KN_8.out.cells 0
        have kn1 := KN_8.out.cells 1
        have kn2 := KN_8.out.cells 2
        have kn3 := KN_8.out.cells 3
        have ko0 := KO_8.out.cells 0
        have ko1 := KO_8.out.cells 1
        have ko2 := KO_8.out.cells 2
        have ko3 := KO_8.out.cells 3
        go_wp2_with fail
        refine (pcheckm_is HX_8.out.mem (e0 := 0) (by rw [HXM.out]; unfold checkM; rw [HL0.out]; rfl)).mono ?_
        rintro e w6 ⟨rfl, hb⟩
        have HKP_9 := Lib.hid (HKP_8.out.beneath hb)
        have HKQ_9 := Lib.hid (HKQ_8.out.beneath hb)
        have HKV_9 := Lib.hid (HKV_8.out.beneath hb)
        have HX_9 := Lib.hid (HX_8.out.on hb)
        have KW_9 := Lib.hid (KW_8.out.beneath hb)
        have KN_9 := Lib.hid (KN_8.out.beneath hb)
        have KO_9 := Lib.hid (KO_8.out.beneath hb)
        have HQ9 := Lib.hid (HQ8.out.trans (hb.mono HQ8.out.size))
        clear hb
        clear hkp0 hkp1 hkp2 hkp3 hkq0 hkq1 hkq2 hkq3 hkv0 hkv1 hkv2 hkv3 kw0 kw1 kw2 kw3 kn0 kn1 kn2 kn3 ko0 ko1 ko2 ko3
        have hkp0 := HKP_9.out.cells 0
        have hkp1 := HKP_9.out.cells 1
        have hkp2 := HKP_9.out.cells 2
        have hkp3 := HKP_9.out.cells 3
        have hkq0 := HKQ_9.out.cells 0
        have hkq1 := HKQ_9.out.cells 1
        have hkq2 := HKQ_9.out.cells 2
        have hkq3 := HKQ_9.out.cells 3
        have hkv0 := HKV_9.out.cells 0
        have hkv1 := HKV_9.out.cells 1
        have hkv2 := HKV_9.out.cells 2
        have hkv3 := HKV_9.out.cells 3
        have kw0 := KW_9.out.cells 0
        have kw1 := KW_9.out.cells 1
        have kw2 := KW_9.out.cells 2
        have kw3 := KW_9.out.cells 3
        have kn0 := KN_9.out.cells 0
        have kn1 := KN_9.out.cells 1
        have kn2 := KN_9.out.cells 2
        have kn3 := KN_9.out.cells 3
        have ko0 := KO_9.out.cells 0
        have ko1 := KO_9.out.cells 1
        have ko2 := KO_9.out.cells 2
        have ko3 := KO_9.out.cells 3
        go_wp2_with fail
        go_ret
        exact ⟨rfl, HQ9.out⟩
end Go.Proofs.Ythddacnnhmcoaaa
