/-
  The walk of the law MemFresh.
-/
import Derived.Test.YthddacnnhmcoaaaMmAlive
import Derived.Test.YthddacnnhmcoaaaMmLaws2
import Derived.Test.YthddacnnhmcoaaaMmKinds
namespace Go.Proofs.Ythddacnnhmcoaaa
set_option linter.unusedVariables false
set_option linter.unusedSimpArgs false
open Go.ChangeShapes Go.WideShapes Go.ChangeAt Go.RowKit

theorem mmb_empty {rows : List BkR} (h : mmb rows = []) : rows = [] := List.map_eq_nil_iff.1 h
set_option maxRecDepth 100000 in
set_option maxHeartbeats 6400000 in
theorem walk_MemFresh {w : World} {A : Option Addr} {c : Nat} {rows : List BkR} (h : MemIn w A c rows) {Ak : Option Addr} {ck : Nat} {l : List Int} (hk : KindsAt w Ak ck l) (q : Vl) :
    Calls Try.prog 8 #[.slice A rows.length c, .slice Ak l.length ck, valV q.k q.n q.b q.t] w fun e w' => e = .returned (.bool true) ∧ Below w.heap.size w w' := by
  have HQ0 : Hid (Below w.heap.size w (w.alloc (.cells #[.int .u8 q.k, .int .i64 q.n, .int .i64 q.b, .int .i64 q.t] 29))) := Lib.hid ((Below.refl _ _).alloc (Nat.le_refl _) _)
  have HH := Lib.hid h
  have HKI := Lib.hid hk
  have HKQ_0 := Lib.hid (Blk.new w 29 #[.int .u8 q.k, .int .i64 q.n, .int .i64 q.b, .int .i64 q.t])
  have hqv := eqValV
  clear h hk
  obtain ⟨gr, hg⟩ : ∃ gr, greatM rows = gr := ⟨_, rfl⟩
  have HG := Lib.hid hg
  clear hg
  cases gr with
  | true =>
    go_enter Try.func8, Try.ntmps8
    go_wp2_with fail
    refine (alive_any _).mono ?_
    rintro e w1 ⟨rfl, hb⟩
    have HKQ_1 := Lib.hid (HKQ_0.out.beneath hb)
    have HQ1 := Lib.hid (HQ0.out.trans (hb.mono HQ0.out.size))
    clear hb
    go_wp2_with fail
    refine (mgreat_is (HH.out.on HQ1.out) HG.out).mono ?_
    rintro e w99 ⟨rfl, rfl⟩
    go_wp2_with fail
    go_ret
    exact ⟨rfl, HQ1.out⟩
  | false =>
    by_cases hl : 40 < (l.length : Int)
    ·
      go_enter Try.func8, Try.ntmps8
      go_wp2_with fail
      refine (alive_any _).mono ?_
      rintro e w1 ⟨rfl, hb⟩
      have HKQ_1 := Lib.hid (HKQ_0.out.beneath hb)
      have HQ1 := Lib.hid (HQ0.out.trans (hb.mono HQ0.out.size))
      clear hb
      go_wp2_with fail
      refine (mgreat_is (HH.out.on HQ1.out) HG.out).mono ?_
      rintro e w99 ⟨rfl, rfl⟩
      go_wp2_with fail
      go_ret
      exact ⟨rfl, HQ1.out⟩
    ·
      have HF := Lib.hid (mfew_of HH.out HG.out)
      obtain ⟨ne, hne⟩ : ∃ x, newE (mmb rows) 5 6 7 l = x := ⟨_, rfl⟩
      obtain ⟨nm, hnm⟩ : ∃ x, newM (mmb rows) 5 6 7 l = x := ⟨_, rfl⟩
      obtain ⟨np, hnp⟩ : ∃ x, newP (mmb rows) 5 6 7 l = x := ⟨_, rfl⟩
      have HNE := Lib.hid hne
      have HNM := Lib.hid hnm
      have HNP := Lib.hid hnp
      have HXB : Hid (FewB nm) := Lib.hid (hnm ▸ FewB.make HG.out 5 6 7 (by omega))
      by_cases hz : ne = 0
      rotate_left
      · have hfn := new_not hne hz
        obtain rfl := HNM.out.symm.trans hfn.1
        have hqe : (ne != 0) = true := by simpa using hz
        clear hfn hne hnm hnp
        go_enter Try.func8, Try.ntmps8
        go_wp2_with fail
        refine (alive_any _).mono ?_
        rintro e w1 ⟨rfl, hb⟩
        have HKQ_1 := Lib.hid (HKQ_0.out.beneath hb)
        have HQ1 := Lib.hid (HQ0.out.trans (hb.mono HQ0.out.size))
        clear hb
        go_wp2_with fail
        refine (mgreat_is (HH.out.on HQ1.out) HG.out).mono ?_
        rintro e w99 ⟨rfl, rfl⟩
        go_wp2_with fail
        refine (pnew_any (HF.out.on HQ1.out) (HKI.out.on HQ1.out) (by omega) 5 6 7 HNE.out HNM.out HNP.out).mono ?_
        rintro e w2 ⟨vx, rx, rfl, ho, hm, hb⟩
        obtain ⟨Ax, cx, rfl, ho2⟩ := ho.own
        clear ho
        have HKQ_2 := Lib.hid (HKQ_1.out.beneath hb)
        have HQ2 := Lib.hid (HQ1.out.trans (hb.mono HQ1.out.size))
        clear hb
        have HX_2 := Lib.hid (MemFew.ofOwn ho2 hm HXB.out)
        have HXM := Lib.hid hm
        clear ho2
        obtain rfl := mmb_empty hm
        clear hm
        have hb : Below w2.heap.size w2 (w2.alloc (.cells #[.int .u8 np.k, .int .i64 np.n, .int .i64 np.b, .int .i64 np.t] 29)) := (Below.refl _ _).alloc (Nat.le_refl _) _
        have HKQ_3 := Lib.hid (HKQ_2.out.beneath hb)
        have HX_3 := Lib.hid (HX_2.out.on hb)
        have HQ3 := Lib.hid (HQ2.out.trans (hb.mono HQ2.out.size))
        clear hb
        have KP_3 := Lib.hid (Blk.new w2 29 #[.int .u8 np.k, .int .i64 np.n, .int .i64 np.b, .int .i64 np.t])
        go_wp2_with fail
        go_ret
        exact ⟨rfl, HQ3.out⟩
      · subst hz
        have hny := new_yes hne
        rw [hnm, hnp] at hny
        obtain ⟨hny1, hny2⟩ := hny
        have HNY := Lib.hid hny1
        have HLX : Hid (nm.length = rows.length + 1) := Lib.hid (by rw [hny1, List.length_append, mmb_len]; rfl)
        have HMY : Hid (checkM nm = 0) := Lib.hid (by rw [hny1]; unfold checkM; rw [new_may hne]; rfl)
        have HAP := Lib.hid (new_apart hne)
        have HEN := Lib.hid (new_end hne)
        rw [← hny1] at HEN
        have HCE : Hid (∀ i : Nat, i < l.length → moveE nm ⟨2, 0, (mmb rows).length + 1, 0⟩ i = 0 ∧ moveV nm ⟨2, 0, (mmb rows).length + 1, 0⟩ i = ⟨2, 0, (mmb rows).length + 1, i⟩ ∧ loadE nm ⟨2, 0, (mmb rows).length + 1, i⟩ = 0 ∧ loadV nm ⟨2, 0, (mmb rows).length + 1, i⟩ = firstV (l.getD i 0)) := Lib.hid (fun i hi => by rw [hny1]; exact new_cell hne hi)
        have hold := new_old hne q
        rw [← hny1] at hold
        obtain ⟨le, hle⟩ : ∃ x, loadE (mmb rows) q = x := ⟨_, rfl⟩
        obtain ⟨lv, hlv⟩ : ∃ x, loadV (mmb rows) q = x := ⟨_, rfl⟩
        obtain ⟨xe, hxe⟩ : ∃ x, loadE nm q = x := ⟨_, rfl⟩
        obtain ⟨xv, hxv⟩ : ∃ x, loadV nm q = x := ⟨_, rfl⟩
        have HLE := Lib.hid hle
        have HLV := Lib.hid hlv
        have HXE := Lib.hid hxe
        have HXV := Lib.hid hxv
        rw [hle, hlv, hxe, hxv] at hold
        have hapart : decide (np = q) = false ∨ (decide (np = q) = true ∧ (le == 0) = false) := by
          by_cases e : np = q
          · right; refine ⟨decide_eq_true e, ?_⟩; rw [beq_eq_false_iff_ne]; intro e2; subst e; exact HAP.out (by rw [← hny2]; exact hle.trans e2)
          · exact .inl (decide_eq_false e)
        clear hle hlv hxe hxv hne hnm hnp hny1
        have HPV := Lib.hid hny2
        rw [← hny2] at HEN
        clear hny2 HAP
        rcases hapart with hpq | ⟨hpq, hpz⟩
        ·
          rcases hold with hold | ⟨hold, hold1, hold2⟩
          · have ho2 : (le != 2) = false := by rw [hold]; rfl
            clear hold
            go_enter Try.func8, Try.ntmps8
            go_wp2_with fail
            refine (alive_any _).mono ?_
            rintro e w1 ⟨rfl, hb⟩
            have HKQ_1 := Lib.hid (HKQ_0.out.beneath hb)
            have HQ1 := Lib.hid (HQ0.out.trans (hb.mono HQ0.out.size))
            clear hb
            go_wp2_with fail
            refine (mgreat_is (HH.out.on HQ1.out) HG.out).mono ?_
            rintro e w99 ⟨rfl, rfl⟩
            go_wp2_with fail
            refine (pnew_any (HF.out.on HQ1.out) (HKI.out.on HQ1.out) (by omega) 5 6 7 HNE.out HNM.out HNP.out).mono ?_
            rintro e w2 ⟨vx, rx, rfl, ho, hm, hb⟩
            obtain ⟨Ax, cx, rfl, ho2⟩ := ho.own
            clear ho
            have HKQ_2 := Lib.hid (HKQ_1.out.beneath hb)
            have HQ2 := Lib.hid (HQ1.out.trans (hb.mono HQ1.out.size))
            clear hb
            have HX_2 := Lib.hid (MemFew.ofOwn ho2 hm HXB.out)
            have HXM := Lib.hid hm
            clear ho2
            have hrl : (rx.length : Int) = (rows.length : Int) + 1 := by have := HLX.out; rw [← hm, mmb_len] at this; omega
            have HRL := Lib.hid hrl
            clear hm hrl
            have hb : Below w2.heap.size w2 (w2.alloc (.cells #[.int .u8 np.k, .int .i64 np.n, .int .i64 np.b, .int .i64 np.t] 29)) := (Below.refl _ _).alloc (Nat.le_refl _) _
            have HKQ_3 := Lib.hid (HKQ_2.out.beneath hb)
            have HX_3 := Lib.hid (HX_2.out.on hb)
            have HQ3 := Lib.hid (HQ2.out.trans (hb.mono HQ2.out.size))
            clear hb
            have KP_3 := Lib.hid (Blk.new w2 29 #[.int .u8 np.k, .int .i64 np.n, .int .i64 np.b, .int .i64 np.t])
            have hkq0 := HKQ_3.out.cells 0
            have hkq1 := HKQ_3.out.cells 1
            have hkq2 := HKQ_3.out.cells 2
            have hkq3 := HKQ_3.out.cells 3
            go_wp2_with fail
            refine (pload_any (HF.out.on HQ3.out).mem q HLE.out HLV.out).mono ?_
            rintro e w3 ⟨rfl, hb⟩
            have HKQ_4 := Lib.hid (HKQ_3.out.beneath hb)
            have HX_4 := Lib.hid (HX_3.out.on hb)
            have KP_4 := Lib.hid (KP_3.out.beneath hb)
            have HQ4 := Lib.hid (HQ3.out.trans (hb.mono HQ3.out.size))
            clear hb
            have hb : Below w3.heap.size w3 (w3.alloc (.cells #[.int .u8 lv.k, .int .i64 lv.n, .int .i64 lv.b, .int .i64 lv.t] 29)) := (Below.refl _ _).alloc (Nat.le_refl _) _
            have HKQ_5 := Lib.hid (HKQ_4.out.beneath hb)
            have HX_5 := Lib.hid (HX_4.out.on hb)
            have KP_5 := Lib.hid (KP_4.out.beneath hb)
            have HQ5 := Lib.hid (HQ4.out.trans (hb.mono HQ4.out.size))
            clear hb
            have KW_5 := Lib.hid (Blk.new w3 29 #[.int .u8 lv.k, .int .i64 lv.n, .int .i64 lv.b, .int .i64 lv.t])
            clear hkq0 hkq1 hkq2 hkq3
            have hkq0 := HKQ_5.out.cells 0
            have hkq1 := HKQ_5.out.cells 1
            have hkq2 := HKQ_5.out.cells 2
            have hkq3 := HKQ_5.out.cells 3
            go_wp2_with fail
            refine (pload_any HX_5.out.mem q (e0 := xe) (v0 := xv) (by rw [HXM.out]; exact HXE.out) (by rw [HXM.out]; exact HXV.out)).mono ?_
            rintro e w4 ⟨rfl, hb⟩
            have HKQ_6 := Lib.hid (HKQ_5.out.beneath hb)
            have HX_6 := Lib.hid (HX_5.out.on hb)
            have KP_6 := Lib.hid (KP_5.out.beneath hb)
            have KW_6 := Lib.hid (KW_5.out.beneath hb)
            have HQ6 := Lib.hid (HQ5.out.trans (hb.mono HQ5.out.size))
            clear hb
            have hb : Below w4.heap.size w4 (w4.alloc (.cells #[.int .u8 xv.k, .int .i64 xv.n, .int .i64 xv.b, .int .i64 xv.t] 29)) := (Below.refl _ _).alloc (Nat.le_refl _) _
            have HKQ_7 := Lib.hid (HKQ_6.out.beneath hb)
            have HX_7 := Lib.hid (HX_6.out.on hb)
            have KP_7 := Lib.hid (KP_6.out.beneath hb)
            have KW_7 := Lib.hid (KW_6.out.beneath hb)
            have HQ7 := Lib.hid (HQ6.out.trans (hb.mono HQ6.out.size))
            clear hb
            have KX_7 := Lib.hid (Blk.new w4 29 #[.int .u8 xv.k, .int .i64 xv.n, .int .i64 xv.b, .int .i64 xv.t])
            clear hkq0 hkq1 hkq2 hkq3
            have hkq0 := HKQ_7.out.cells 0
            have hkq1 := HKQ_7.out.cells 1
            have hkq2 := HKQ_7.out.cells 2
            have hkq3 := HKQ_7.out.cells 3
            have kp0 := KP_7.out.cells 0
            have kp1 := KP_7.out.cells 1
            have kp2 := KP_7.out.cells 2
            have kp3 := KP_7.out.cells 3
            have kw0 := KW_7.out.cells 0
            have kw1 := KW_7.out.cells 1
            have kw2 := KW_7.out.cells 2
            have kw3 := KW_7.out.cells 3
            have kx0 := KX_7.out.cells 0
            have kx1 := KX_7.out.cells 1
            have kx2 := KX_7.out.cells 2
            have kx3 := KX_7.out.cells 3
            go_wp2_with fail
            refine (pcheckm_is HX_7.out.mem (e0 := 0) (by rw [HXM.out]; exact HMY.out)).mono ?_
            rintro e w5 ⟨rfl, hb⟩
            have HKQ_8 := Lib.hid (HKQ_7.out.beneath hb)
            have HX_8 := Lib.hid (HX_7.out.on hb)
            have KP_8 := Lib.hid (KP_7.out.beneath hb)
            have KW_8 := Lib.hid (KW_7.out.beneath hb)
            have KX_8 := Lib.hid (KX_7.out.beneath hb)
            have HQ8 := Lib.hid (HQ7.out.trans (hb.mono HQ7.out.size))
            clear hb
            clear hkq0 hkq1 hkq2 hkq3 kp0 kp1 kp2 kp3 kw0 kw1 kw2 kw3 kx0 kx1 kx2 kx3
            have hrl := HRL.out
            have hwr : IntKind.i64.wrap ((rows.length : Int) + 1) = (rows.length : Int) + 1 := IntWalk.i64_in _ (by have := HF.out.few; omega)
            go_wp2_with fail
            clear hrl hwr
            go_loopw [15] (fun i wr => ∃ k : Nat, k ≤ l.length ∧ i = .int .i64 k ∧ Hid (Below w5.heap.size w5 wr)) (fun i _ => l.length - (intOf i).toNat)
            case atStart => exact ⟨0, Nat.zero_le _, rfl, Lib.hid (Below.refl _ _)⟩
            case round =>
              obtain ⟨k, hk, rfl, HB⟩ := hrel
              have hb := HB.out
              have HX_9 := Lib.hid (HX_8.out.on hb)
              have KP_9 := Lib.hid (KP_8.out.beneath hb)
              have HQ9 := Lib.hid (HQ8.out.trans (hb.mono HQ8.out.size))
              clear hb
              have HZ9 := HB
              by_cases hlt : k < l.length
              · have hcl := HCE.out k hlt
                rw [← HPV.out] at hcl
                obtain ⟨rv, hrv⟩ : ∃ x : Vl, (⟨2, 0, (mmb rows).length + 1, k⟩ : Vl) = x := ⟨_, rfl⟩
                rw [hrv] at hcl
                have HCL := Lib.hid hcl
                clear hcl hrv
                have kp0 := KP_9.out.cells 0
                have kp1 := KP_9.out.cells 1
                have kp2 := KP_9.out.cells 2
                have kp3 := KP_9.out.cells 3
                go_wp2_with fail
                refine (pmove_any HX_9.out.mem np k (e0 := 0) (v0 := rv) (by rw [HXM.out]; exact HCL.out.1) (by rw [HXM.out]; exact HCL.out.2.1)).mono ?_
                rintro e w6 ⟨rfl, hb⟩
                have HX_10 := Lib.hid (HX_9.out.on hb)
                have KP_10 := Lib.hid (KP_9.out.beneath hb)
                have HQ10 := Lib.hid (HQ9.out.trans (hb.mono HQ9.out.size))
                have HZ10 := Lib.hid (HZ9.out.trans (hb.mono HZ9.out.size))
                clear hb
                have hb : Below w6.heap.size w6 (w6.alloc (.cells #[.int .u8 rv.k, .int .i64 rv.n, .int .i64 rv.b, .int .i64 rv.t] 29)) := (Below.refl _ _).alloc (Nat.le_refl _) _
                have HX_11 := Lib.hid (HX_10.out.on hb)
                have KP_11 := Lib.hid (KP_10.out.beneath hb)
                have HQ11 := Lib.hid (HQ10.out.trans (hb.mono HQ10.out.size))
                have HZ11 := Lib.hid (HZ10.out.trans (hb.mono HZ10.out.size))
                clear hb
                have KR_11 := Lib.hid (Blk.new w6 29 #[.int .u8 rv.k, .int .i64 rv.n, .int .i64 rv.b, .int .i64 rv.t])
                clear kp0 kp1 kp2 kp3
                have kr0 := KR_11.out.cells 0
                have kr1 := KR_11.out.cells 1
                have kr2 := KR_11.out.cells 2
                have kr3 := KR_11.out.cells 3
                obtain ⟨bk, ofk, kd, rfl, hbk, d0, HKD⟩ := (HKI.out.on HQ11.out).elem hlt
                clear d0 hbk
                go_wp2_with fail
                refine (pload_any HX_11.out.mem rv (e0 := 0) (v0 := ⟨kd, 0, 0, 0⟩) (by rw [HXM.out]; exact HCL.out.2.2.1) (by rw [HXM.out, HCL.out.2.2.2, HKD.out]; rfl)).mono ?_
                rintro e w7 ⟨rfl, hb⟩
                have HX_12 := Lib.hid (HX_11.out.on hb)
                have KP_12 := Lib.hid (KP_11.out.beneath hb)
                have KR_12 := Lib.hid (KR_11.out.beneath hb)
                have HQ12 := Lib.hid (HQ11.out.trans (hb.mono HQ11.out.size))
                have HZ12 := Lib.hid (HZ11.out.trans (hb.mono HZ11.out.size))
                clear hb
                have hb : Below w7.heap.size w7 (w7.alloc (.cells #[.int .u8 kd, .int .i64 0, .int .i64 0, .int .i64 0] 29)) := (Below.refl _ _).alloc (Nat.le_refl _) _
                have HX_13 := Lib.hid (HX_12.out.on hb)
                have KP_13 := Lib.hid (KP_12.out.beneath hb)
                have KR_13 := Lib.hid (KR_12.out.beneath hb)
                have HQ13 := Lib.hid (HQ12.out.trans (hb.mono HQ12.out.size))
                have HZ13 := Lib.hid (HZ12.out.trans (hb.mono HZ12.out.size))
                clear hb
                have KV_13 := Lib.hid (Blk.new w7 29 #[.int .u8 kd, .int .i64 0, .int .i64 0, .int .i64 0])
                clear kr0 kr1 kr2 kr3
                have kv0 := KV_13.out.cells 0
                have kv1 := KV_13.out.cells 1
                have kv2 := KV_13.out.cells 2
                have kv3 := KV_13.out.cells 3
                obtain ⟨bk2, ofk2, kd2, hbe, hbk, d0, HKD2⟩ := (HKI.out.on HQ13.out).elem hlt
                obtain rfl : kd = kd2 := HKD.out.symm.trans HKD2.out
                injection hbe with hbe
                injection hbe with hbe1 hbe2 _
                subst hbe1 hbe2
                have hq4 := eqValA
                clear hqv
                go_wp2_with fail
                go_quiet (fail)
                go_wp2_with fail
                go_roundw
                case rel => exact ⟨k + 1, by omega, by go_num, Lib.hid (belowDrewN HZ13.out _)⟩
                case measure => simp [intOf]; omega
              · obtain rfl : k = l.length := by omega
                have kp0 := KP_9.out.cells 0
                have kp1 := KP_9.out.cells 1
                have kp2 := KP_9.out.cells 2
                have kp3 := KP_9.out.cells 3
                go_wp2_with fail
                refine (pmove_any HX_9.out.mem np l.length (e0 := 2) (v0 := ⟨0, 0, 0, 0⟩) (by rw [HXM.out]; exact HEN.out.1) (by rw [HXM.out]; unfold moveV; rw [HEN.out.1, if_neg (by decide)]; rfl)).mono ?_
                rintro e w6 ⟨rfl, hb⟩
                have HX_10 := Lib.hid (HX_9.out.on hb)
                have KP_10 := Lib.hid (KP_9.out.beneath hb)
                have HQ10 := Lib.hid (HQ9.out.trans (hb.mono HQ9.out.size))
                have HZ10 := Lib.hid (HZ9.out.trans (hb.mono HZ9.out.size))
                clear hb
                have hb : Below w6.heap.size w6 (w6.alloc (.cells #[.int .u8 0, .int .i64 0, .int .i64 0, .int .i64 0] 29)) := (Below.refl _ _).alloc (Nat.le_refl _) _
                have HX_11 := Lib.hid (HX_10.out.on hb)
                have KP_11 := Lib.hid (KP_10.out.beneath hb)
                have HQ11 := Lib.hid (HQ10.out.trans (hb.mono HQ10.out.size))
                have HZ11 := Lib.hid (HZ10.out.trans (hb.mono HZ10.out.size))
                clear hb
                have KZ_11 := Lib.hid (Blk.new w6 29 #[.int .u8 0, .int .i64 0, .int .i64 0, .int .i64 0])
                clear kp0 kp1 kp2 kp3
                have kp0 := KP_11.out.cells 0
                have kp1 := KP_11.out.cells 1
                have kp2 := KP_11.out.cells 2
                have kp3 := KP_11.out.cells 3
                go_wp2_with fail
                refine (pdepth_any HX_11.out.mem np (e0 := 0) (d0 := 7) (by rw [HXM.out]; exact HEN.out.2.1) (by rw [HXM.out]; exact HEN.out.2.2)).mono ?_
                rintro e w7 ⟨rfl, hb⟩
                have HX_12 := Lib.hid (HX_11.out.on hb)
                have KP_12 := Lib.hid (KP_11.out.beneath hb)
                have KZ_12 := Lib.hid (KZ_11.out.beneath hb)
                have HQ12 := Lib.hid (HQ11.out.trans (hb.mono HQ11.out.size))
                have HZ12 := Lib.hid (HZ11.out.trans (hb.mono HZ11.out.size))
                clear hb
                clear kp0 kp1 kp2 kp3
                go_wp2_with fail
                go_ret
                exact ⟨rfl, HQ12.out⟩
          · have ho2 : (le != 2) = true := by simpa using hold
            obtain rfl : xe = le := hold1
            obtain rfl : xv = lv := hold2
            clear hold
            go_enter Try.func8, Try.ntmps8
            go_wp2_with fail
            refine (alive_any _).mono ?_
            rintro e w1 ⟨rfl, hb⟩
            have HKQ_1 := Lib.hid (HKQ_0.out.beneath hb)
            have HQ1 := Lib.hid (HQ0.out.trans (hb.mono HQ0.out.size))
            clear hb
            go_wp2_with fail
            refine (mgreat_is (HH.out.on HQ1.out) HG.out).mono ?_
            rintro e w99 ⟨rfl, rfl⟩
            go_wp2_with fail
            refine (pnew_any (HF.out.on HQ1.out) (HKI.out.on HQ1.out) (by omega) 5 6 7 HNE.out HNM.out HNP.out).mono ?_
            rintro e w2 ⟨vx, rx, rfl, ho, hm, hb⟩
            obtain ⟨Ax, cx, rfl, ho2⟩ := ho.own
            clear ho
            have HKQ_2 := Lib.hid (HKQ_1.out.beneath hb)
            have HQ2 := Lib.hid (HQ1.out.trans (hb.mono HQ1.out.size))
            clear hb
            have HX_2 := Lib.hid (MemFew.ofOwn ho2 hm HXB.out)
            have HXM := Lib.hid hm
            clear ho2
            have hrl : (rx.length : Int) = (rows.length : Int) + 1 := by have := HLX.out; rw [← hm, mmb_len] at this; omega
            have HRL := Lib.hid hrl
            clear hm hrl
            have hb : Below w2.heap.size w2 (w2.alloc (.cells #[.int .u8 np.k, .int .i64 np.n, .int .i64 np.b, .int .i64 np.t] 29)) := (Below.refl _ _).alloc (Nat.le_refl _) _
            have HKQ_3 := Lib.hid (HKQ_2.out.beneath hb)
            have HX_3 := Lib.hid (HX_2.out.on hb)
            have HQ3 := Lib.hid (HQ2.out.trans (hb.mono HQ2.out.size))
            clear hb
            have KP_3 := Lib.hid (Blk.new w2 29 #[.int .u8 np.k, .int .i64 np.n, .int .i64 np.b, .int .i64 np.t])
            have hkq0 := HKQ_3.out.cells 0
            have hkq1 := HKQ_3.out.cells 1
            have hkq2 := HKQ_3.out.cells 2
            have hkq3 := HKQ_3.out.cells 3
            go_wp2_with fail
            refine (pload_any (HF.out.on HQ3.out).mem q HLE.out HLV.out).mono ?_
            rintro e w3 ⟨rfl, hb⟩
            have HKQ_4 := Lib.hid (HKQ_3.out.beneath hb)
            have HX_4 := Lib.hid (HX_3.out.on hb)
            have KP_4 := Lib.hid (KP_3.out.beneath hb)
            have HQ4 := Lib.hid (HQ3.out.trans (hb.mono HQ3.out.size))
            clear hb
            have hb : Below w3.heap.size w3 (w3.alloc (.cells #[.int .u8 xv.k, .int .i64 xv.n, .int .i64 xv.b, .int .i64 xv.t] 29)) := (Below.refl _ _).alloc (Nat.le_refl _) _
            have HKQ_5 := Lib.hid (HKQ_4.out.beneath hb)
            have HX_5 := Lib.hid (HX_4.out.on hb)
            have KP_5 := Lib.hid (KP_4.out.beneath hb)
            have HQ5 := Lib.hid (HQ4.out.trans (hb.mono HQ4.out.size))
            clear hb
            have KW_5 := Lib.hid (Blk.new w3 29 #[.int .u8 xv.k, .int .i64 xv.n, .int .i64 xv.b, .int .i64 xv.t])
            clear hkq0 hkq1 hkq2 hkq3
            have hkq0 := HKQ_5.out.cells 0
            have hkq1 := HKQ_5.out.cells 1
            have hkq2 := HKQ_5.out.cells 2
            have hkq3 := HKQ_5.out.cells 3
            go_wp2_with fail
            refine (pload_any HX_5.out.mem q (e0 := xe) (v0 := xv) (by rw [HXM.out]; exact HXE.out) (by rw [HXM.out]; exact HXV.out)).mono ?_
            rintro e w4 ⟨rfl, hb⟩
            have HKQ_6 := Lib.hid (HKQ_5.out.beneath hb)
            have HX_6 := Lib.hid (HX_5.out.on hb)
            have KP_6 := Lib.hid (KP_5.out.beneath hb)
            have KW_6 := Lib.hid (KW_5.out.beneath hb)
            have HQ6 := Lib.hid (HQ5.out.trans (hb.mono HQ5.out.size))
            clear hb
            have hb : Below w4.heap.size w4 (w4.alloc (.cells #[.int .u8 xv.k, .int .i64 xv.n, .int .i64 xv.b, .int .i64 xv.t] 29)) := (Below.refl _ _).alloc (Nat.le_refl _) _
            have HKQ_7 := Lib.hid (HKQ_6.out.beneath hb)
            have HX_7 := Lib.hid (HX_6.out.on hb)
            have KP_7 := Lib.hid (KP_6.out.beneath hb)
            have KW_7 := Lib.hid (KW_6.out.beneath hb)
            have HQ7 := Lib.hid (HQ6.out.trans (hb.mono HQ6.out.size))
            clear hb
            have KX_7 := Lib.hid (Blk.new w4 29 #[.int .u8 xv.k, .int .i64 xv.n, .int .i64 xv.b, .int .i64 xv.t])
            clear hkq0 hkq1 hkq2 hkq3
            have hkq0 := HKQ_7.out.cells 0
            have hkq1 := HKQ_7.out.cells 1
            have hkq2 := HKQ_7.out.cells 2
            have hkq3 := HKQ_7.out.cells 3
            have kp0 := KP_7.out.cells 0
            have kp1 := KP_7.out.cells 1
            have kp2 := KP_7.out.cells 2
            have kp3 := KP_7.out.cells 3
            have kw0 := KW_7.out.cells 0
            have kw1 := KW_7.out.cells 1
            have kw2 := KW_7.out.cells 2
            have kw3 := KW_7.out.cells 3
            have kx0 := KX_7.out.cells 0
            have kx1 := KX_7.out.cells 1
            have kx2 := KX_7.out.cells 2
            have kx3 := KX_7.out.cells 3
            go_wp2_with fail
            refine (pcheckm_is HX_7.out.mem (e0 := 0) (by rw [HXM.out]; exact HMY.out)).mono ?_
            rintro e w5 ⟨rfl, hb⟩
            have HKQ_8 := Lib.hid (HKQ_7.out.beneath hb)
            have HX_8 := Lib.hid (HX_7.out.on hb)
            have KP_8 := Lib.hid (KP_7.out.beneath hb)
            have KW_8 := Lib.hid (KW_7.out.beneath hb)
            have KX_8 := Lib.hid (KX_7.out.beneath hb)
            have HQ8 := Lib.hid (HQ7.out.trans (hb.mono HQ7.out.size))
            clear hb
            clear hkq0 hkq1 hkq2 hkq3 kp0 kp1 kp2 kp3 kw0 kw1 kw2 kw3 kx0 kx1 kx2 kx3
            have hrl := HRL.out
            have hwr : IntKind.i64.wrap ((rows.length : Int) + 1) = (rows.length : Int) + 1 := IntWalk.i64_in _ (by have := HF.out.few; omega)
            go_wp2_with fail
            clear hrl hwr
            go_loopw [15] (fun i wr => ∃ k : Nat, k ≤ l.length ∧ i = .int .i64 k ∧ Hid (Below w5.heap.size w5 wr)) (fun i _ => l.length - (intOf i).toNat)
            case atStart => exact ⟨0, Nat.zero_le _, rfl, Lib.hid (Below.refl _ _)⟩
            case round =>
              obtain ⟨k, hk, rfl, HB⟩ := hrel
              have hb := HB.out
              have HX_9 := Lib.hid (HX_8.out.on hb)
              have KP_9 := Lib.hid (KP_8.out.beneath hb)
              have HQ9 := Lib.hid (HQ8.out.trans (hb.mono HQ8.out.size))
              clear hb
              have HZ9 := HB
              by_cases hlt : k < l.length
              · have hcl := HCE.out k hlt
                rw [← HPV.out] at hcl
                obtain ⟨rv, hrv⟩ : ∃ x : Vl, (⟨2, 0, (mmb rows).length + 1, k⟩ : Vl) = x := ⟨_, rfl⟩
                rw [hrv] at hcl
                have HCL := Lib.hid hcl
                clear hcl hrv
                have kp0 := KP_9.out.cells 0
                have kp1 := KP_9.out.cells 1
                have kp2 := KP_9.out.cells 2
                have kp3 := KP_9.out.cells 3
                go_wp2_with fail
                refine (pmove_any HX_9.out.mem np k (e0 := 0) (v0 := rv) (by rw [HXM.out]; exact HCL.out.1) (by rw [HXM.out]; exact HCL.out.2.1)).mono ?_
                rintro e w6 ⟨rfl, hb⟩
                have HX_10 := Lib.hid (HX_9.out.on hb)
                have KP_10 := Lib.hid (KP_9.out.beneath hb)
                have HQ10 := Lib.hid (HQ9.out.trans (hb.mono HQ9.out.size))
                have HZ10 := Lib.hid (HZ9.out.trans (hb.mono HZ9.out.size))
                clear hb
                have hb : Below w6.heap.size w6 (w6.alloc (.cells #[.int .u8 rv.k, .int .i64 rv.n, .int .i64 rv.b, .int .i64 rv.t] 29)) := (Below.refl _ _).alloc (Nat.le_refl _) _
                have HX_11 := Lib.hid (HX_10.out.on hb)
                have KP_11 := Lib.hid (KP_10.out.beneath hb)
                have HQ11 := Lib.hid (HQ10.out.trans (hb.mono HQ10.out.size))
                have HZ11 := Lib.hid (HZ10.out.trans (hb.mono HZ10.out.size))
                clear hb
                have KR_11 := Lib.hid (Blk.new w6 29 #[.int .u8 rv.k, .int .i64 rv.n, .int .i64 rv.b, .int .i64 rv.t])
                clear kp0 kp1 kp2 kp3
                have kr0 := KR_11.out.cells 0
                have kr1 := KR_11.out.cells 1
                have kr2 := KR_11.out.cells 2
                have kr3 := KR_11.out.cells 3
                obtain ⟨bk, ofk, kd, rfl, hbk, d0, HKD⟩ := (HKI.out.on HQ11.out).elem hlt
                clear d0 hbk
                go_wp2_with fail
                refine (pload_any HX_11.out.mem rv (e0 := 0) (v0 := ⟨kd, 0, 0, 0⟩) (by rw [HXM.out]; exact HCL.out.2.2.1) (by rw [HXM.out, HCL.out.2.2.2, HKD.out]; rfl)).mono ?_
                rintro e w7 ⟨rfl, hb⟩
                have HX_12 := Lib.hid (HX_11.out.on hb)
                have KP_12 := Lib.hid (KP_11.out.beneath hb)
                have KR_12 := Lib.hid (KR_11.out.beneath hb)
                have HQ12 := Lib.hid (HQ11.out.trans (hb.mono HQ11.out.size))
                have HZ12 := Lib.hid (HZ11.out.trans (hb.mono HZ11.out.size))
                clear hb
                have hb : Below w7.heap.size w7 (w7.alloc (.cells #[.int .u8 kd, .int .i64 0, .int .i64 0, .int .i64 0] 29)) := (Below.refl _ _).alloc (Nat.le_refl _) _
                have HX_13 := Lib.hid (HX_12.out.on hb)
                have KP_13 := Lib.hid (KP_12.out.beneath hb)
                have KR_13 := Lib.hid (KR_12.out.beneath hb)
                have HQ13 := Lib.hid (HQ12.out.trans (hb.mono HQ12.out.size))
                have HZ13 := Lib.hid (HZ12.out.trans (hb.mono HZ12.out.size))
                clear hb
                have KV_13 := Lib.hid (Blk.new w7 29 #[.int .u8 kd, .int .i64 0, .int .i64 0, .int .i64 0])
                clear kr0 kr1 kr2 kr3
                have kv0 := KV_13.out.cells 0
                have kv1 := KV_13.out.cells 1
                have kv2 := KV_13.out.cells 2
                have kv3 := KV_13.out.cells 3
                obtain ⟨bk2, ofk2, kd2, hbe, hbk, d0, HKD2⟩ := (HKI.out.on HQ13.out).elem hlt
                obtain rfl : kd = kd2 := HKD.out.symm.trans HKD2.out
                injection hbe with hbe
                injection hbe with hbe1 hbe2 _
                subst hbe1 hbe2
                have hq4 := eqValA
                clear hqv
                go_wp2_with fail
                go_quiet (fail)
                go_wp2_with fail
                go_roundw
                case rel => exact ⟨k + 1, by omega, by go_num, Lib.hid (belowDrewN HZ13.out _)⟩
                case measure => simp [intOf]; omega
              · obtain rfl : k = l.length := by omega
                have kp0 := KP_9.out.cells 0
                have kp1 := KP_9.out.cells 1
                have kp2 := KP_9.out.cells 2
                have kp3 := KP_9.out.cells 3
                go_wp2_with fail
                refine (pmove_any HX_9.out.mem np l.length (e0 := 2) (v0 := ⟨0, 0, 0, 0⟩) (by rw [HXM.out]; exact HEN.out.1) (by rw [HXM.out]; unfold moveV; rw [HEN.out.1, if_neg (by decide)]; rfl)).mono ?_
                rintro e w6 ⟨rfl, hb⟩
                have HX_10 := Lib.hid (HX_9.out.on hb)
                have KP_10 := Lib.hid (KP_9.out.beneath hb)
                have HQ10 := Lib.hid (HQ9.out.trans (hb.mono HQ9.out.size))
                have HZ10 := Lib.hid (HZ9.out.trans (hb.mono HZ9.out.size))
                clear hb
                have hb : Below w6.heap.size w6 (w6.alloc (.cells #[.int .u8 0, .int .i64 0, .int .i64 0, .int .i64 0] 29)) := (Below.refl _ _).alloc (Nat.le_refl _) _
                have HX_11 := Lib.hid (HX_10.out.on hb)
                have KP_11 := Lib.hid (KP_10.out.beneath hb)
                have HQ11 := Lib.hid (HQ10.out.trans (hb.mono HQ10.out.size))
                have HZ11 := Lib.hid (HZ10.out.trans (hb.mono HZ10.out.size))
                clear hb
                have KZ_11 := Lib.hid (Blk.new w6 29 #[.int .u8 0, .int .i64 0, .int .i64 0, .int .i64 0])
                clear kp0 kp1 kp2 kp3
                have kp0 := KP_11.out.cells 0
                have kp1 := KP_11.out.cells 1
                have kp2 := KP_11.out.cells 2
                have kp3 := KP_11.out.cells 3
                go_wp2_with fail
                refine (pdepth_any HX_11.out.mem np (e0 := 0) (d0 := 7) (by rw [HXM.out]; exact HEN.out.2.1) (by rw [HXM.out]; exact HEN.out.2.2)).mono ?_
                rintro e w7 ⟨rfl, hb⟩
                have HX_12 := Lib.hid (HX_11.out.on hb)
                have KP_12 := Lib.hid (KP_11.out.beneath hb)
                have KZ_12 := Lib.hid (KZ_11.out.beneath hb)
                have HQ12 := Lib.hid (HQ11.out.trans (hb.mono HQ11.out.size))
                have HZ12 := Lib.hid (HZ11.out.trans (hb.mono HZ11.out.size))
                clear hb
                clear kp0 kp1 kp2 kp3
                go_wp2_with fail
                go_ret
                exact ⟨rfl, HQ12.out⟩
        ·
          rcases hold with hold | ⟨hold, hold1, hold2⟩
          · have ho2 : (le != 2) = false := by rw [hold]; rfl
            clear hold
            go_enter Try.func8, Try.ntmps8
            go_wp2_with fail
            refine (alive_any _).mono ?_
            rintro e w1 ⟨rfl, hb⟩
            have HKQ_1 := Lib.hid (HKQ_0.out.beneath hb)
            have HQ1 := Lib.hid (HQ0.out.trans (hb.mono HQ0.out.size))
            clear hb
            go_wp2_with fail
            refine (mgreat_is (HH.out.on HQ1.out) HG.out).mono ?_
            rintro e w99 ⟨rfl, rfl⟩
            go_wp2_with fail
            refine (pnew_any (HF.out.on HQ1.out) (HKI.out.on HQ1.out) (by omega) 5 6 7 HNE.out HNM.out HNP.out).mono ?_
            rintro e w2 ⟨vx, rx, rfl, ho, hm, hb⟩
            obtain ⟨Ax, cx, rfl, ho2⟩ := ho.own
            clear ho
            have HKQ_2 := Lib.hid (HKQ_1.out.beneath hb)
            have HQ2 := Lib.hid (HQ1.out.trans (hb.mono HQ1.out.size))
            clear hb
            have HX_2 := Lib.hid (MemFew.ofOwn ho2 hm HXB.out)
            have HXM := Lib.hid hm
            clear ho2
            have hrl : (rx.length : Int) = (rows.length : Int) + 1 := by have := HLX.out; rw [← hm, mmb_len] at this; omega
            have HRL := Lib.hid hrl
            clear hm hrl
            have hb : Below w2.heap.size w2 (w2.alloc (.cells #[.int .u8 np.k, .int .i64 np.n, .int .i64 np.b, .int .i64 np.t] 29)) := (Below.refl _ _).alloc (Nat.le_refl _) _
            have HKQ_3 := Lib.hid (HKQ_2.out.beneath hb)
            have HX_3 := Lib.hid (HX_2.out.on hb)
            have HQ3 := Lib.hid (HQ2.out.trans (hb.mono HQ2.out.size))
            clear hb
            have KP_3 := Lib.hid (Blk.new w2 29 #[.int .u8 np.k, .int .i64 np.n, .int .i64 np.b, .int .i64 np.t])
            have hkq0 := HKQ_3.out.cells 0
            have hkq1 := HKQ_3.out.cells 1
            have hkq2 := HKQ_3.out.cells 2
            have hkq3 := HKQ_3.out.cells 3
            go_wp2_with fail
            refine (pload_any (HF.out.on HQ3.out).mem q HLE.out HLV.out).mono ?_
            rintro e w3 ⟨rfl, hb⟩
            have HKQ_4 := Lib.hid (HKQ_3.out.beneath hb)
            have HX_4 := Lib.hid (HX_3.out.on hb)
            have KP_4 := Lib.hid (KP_3.out.beneath hb)
            have HQ4 := Lib.hid (HQ3.out.trans (hb.mono HQ3.out.size))
            clear hb
            have hb : Below w3.heap.size w3 (w3.alloc (.cells #[.int .u8 lv.k, .int .i64 lv.n, .int .i64 lv.b, .int .i64 lv.t] 29)) := (Below.refl _ _).alloc (Nat.le_refl _) _
            have HKQ_5 := Lib.hid (HKQ_4.out.beneath hb)
            have HX_5 := Lib.hid (HX_4.out.on hb)
            have KP_5 := Lib.hid (KP_4.out.beneath hb)
            have HQ5 := Lib.hid (HQ4.out.trans (hb.mono HQ4.out.size))
            clear hb
            have KW_5 := Lib.hid (Blk.new w3 29 #[.int .u8 lv.k, .int .i64 lv.n, .int .i64 lv.b, .int .i64 lv.t])
            clear hkq0 hkq1 hkq2 hkq3
            have hkq0 := HKQ_5.out.cells 0
            have hkq1 := HKQ_5.out.cells 1
            have hkq2 := HKQ_5.out.cells 2
            have hkq3 := HKQ_5.out.cells 3
            go_wp2_with fail
            refine (pload_any HX_5.out.mem q (e0 := xe) (v0 := xv) (by rw [HXM.out]; exact HXE.out) (by rw [HXM.out]; exact HXV.out)).mono ?_
            rintro e w4 ⟨rfl, hb⟩
            have HKQ_6 := Lib.hid (HKQ_5.out.beneath hb)
            have HX_6 := Lib.hid (HX_5.out.on hb)
            have KP_6 := Lib.hid (KP_5.out.beneath hb)
            have KW_6 := Lib.hid (KW_5.out.beneath hb)
            have HQ6 := Lib.hid (HQ5.out.trans (hb.mono HQ5.out.size))
            clear hb
            have hb : Below w4.heap.size w4 (w4.alloc (.cells #[.int .u8 xv.k, .int .i64 xv.n, .int .i64 xv.b, .int .i64 xv.t] 29)) := (Below.refl _ _).alloc (Nat.le_refl _) _
            have HKQ_7 := Lib.hid (HKQ_6.out.beneath hb)
            have HX_7 := Lib.hid (HX_6.out.on hb)
            have KP_7 := Lib.hid (KP_6.out.beneath hb)
            have KW_7 := Lib.hid (KW_6.out.beneath hb)
            have HQ7 := Lib.hid (HQ6.out.trans (hb.mono HQ6.out.size))
            clear hb
            have KX_7 := Lib.hid (Blk.new w4 29 #[.int .u8 xv.k, .int .i64 xv.n, .int .i64 xv.b, .int .i64 xv.t])
            clear hkq0 hkq1 hkq2 hkq3
            have hkq0 := HKQ_7.out.cells 0
            have hkq1 := HKQ_7.out.cells 1
            have hkq2 := HKQ_7.out.cells 2
            have hkq3 := HKQ_7.out.cells 3
            have kp0 := KP_7.out.cells 0
            have kp1 := KP_7.out.cells 1
            have kp2 := KP_7.out.cells 2
            have kp3 := KP_7.out.cells 3
            have kw0 := KW_7.out.cells 0
            have kw1 := KW_7.out.cells 1
            have kw2 := KW_7.out.cells 2
            have kw3 := KW_7.out.cells 3
            have kx0 := KX_7.out.cells 0
            have kx1 := KX_7.out.cells 1
            have kx2 := KX_7.out.cells 2
            have kx3 := KX_7.out.cells 3
            go_wp2_with fail
            refine (pcheckm_is HX_7.out.mem (e0 := 0) (by rw [HXM.out]; exact HMY.out)).mono ?_
            rintro e w5 ⟨rfl, hb⟩
            have HKQ_8 := Lib.hid (HKQ_7.out.beneath hb)
            have HX_8 := Lib.hid (HX_7.out.on hb)
            have KP_8 := Lib.hid (KP_7.out.beneath hb)
            have KW_8 := Lib.hid (KW_7.out.beneath hb)
            have KX_8 := Lib.hid (KX_7.out.beneath hb)
            have HQ8 := Lib.hid (HQ7.out.trans (hb.mono HQ7.out.size))
            clear hb
            clear hkq0 hkq1 hkq2 hkq3 kp0 kp1 kp2 kp3 kw0 kw1 kw2 kw3 kx0 kx1 kx2 kx3
            have hrl := HRL.out
            have hwr : IntKind.i64.wrap ((rows.length : Int) + 1) = (rows.length : Int) + 1 := IntWalk.i64_in _ (by have := HF.out.few; omega)
            go_wp2_with fail
            clear hrl hwr
            go_loopw [15] (fun i wr => ∃ k : Nat, k ≤ l.length ∧ i = .int .i64 k ∧ Hid (Below w5.heap.size w5 wr)) (fun i _ => l.length - (intOf i).toNat)
            case atStart => exact ⟨0, Nat.zero_le _, rfl, Lib.hid (Below.refl _ _)⟩
            case round =>
              obtain ⟨k, hk, rfl, HB⟩ := hrel
              have hb := HB.out
              have HX_9 := Lib.hid (HX_8.out.on hb)
              have KP_9 := Lib.hid (KP_8.out.beneath hb)
              have HQ9 := Lib.hid (HQ8.out.trans (hb.mono HQ8.out.size))
              clear hb
              have HZ9 := HB
              by_cases hlt : k < l.length
              · have hcl := HCE.out k hlt
                rw [← HPV.out] at hcl
                obtain ⟨rv, hrv⟩ : ∃ x : Vl, (⟨2, 0, (mmb rows).length + 1, k⟩ : Vl) = x := ⟨_, rfl⟩
                rw [hrv] at hcl
                have HCL := Lib.hid hcl
                clear hcl hrv
                have kp0 := KP_9.out.cells 0
                have kp1 := KP_9.out.cells 1
                have kp2 := KP_9.out.cells 2
                have kp3 := KP_9.out.cells 3
                go_wp2_with fail
                refine (pmove_any HX_9.out.mem np k (e0 := 0) (v0 := rv) (by rw [HXM.out]; exact HCL.out.1) (by rw [HXM.out]; exact HCL.out.2.1)).mono ?_
                rintro e w6 ⟨rfl, hb⟩
                have HX_10 := Lib.hid (HX_9.out.on hb)
                have KP_10 := Lib.hid (KP_9.out.beneath hb)
                have HQ10 := Lib.hid (HQ9.out.trans (hb.mono HQ9.out.size))
                have HZ10 := Lib.hid (HZ9.out.trans (hb.mono HZ9.out.size))
                clear hb
                have hb : Below w6.heap.size w6 (w6.alloc (.cells #[.int .u8 rv.k, .int .i64 rv.n, .int .i64 rv.b, .int .i64 rv.t] 29)) := (Below.refl _ _).alloc (Nat.le_refl _) _
                have HX_11 := Lib.hid (HX_10.out.on hb)
                have KP_11 := Lib.hid (KP_10.out.beneath hb)
                have HQ11 := Lib.hid (HQ10.out.trans (hb.mono HQ10.out.size))
                have HZ11 := Lib.hid (HZ10.out.trans (hb.mono HZ10.out.size))
                clear hb
                have KR_11 := Lib.hid (Blk.new w6 29 #[.int .u8 rv.k, .int .i64 rv.n, .int .i64 rv.b, .int .i64 rv.t])
                clear kp0 kp1 kp2 kp3
                have kr0 := KR_11.out.cells 0
                have kr1 := KR_11.out.cells 1
                have kr2 := KR_11.out.cells 2
                have kr3 := KR_11.out.cells 3
                obtain ⟨bk, ofk, kd, rfl, hbk, d0, HKD⟩ := (HKI.out.on HQ11.out).elem hlt
                clear d0 hbk
                go_wp2_with fail
                refine (pload_any HX_11.out.mem rv (e0 := 0) (v0 := ⟨kd, 0, 0, 0⟩) (by rw [HXM.out]; exact HCL.out.2.2.1) (by rw [HXM.out, HCL.out.2.2.2, HKD.out]; rfl)).mono ?_
                rintro e w7 ⟨rfl, hb⟩
                have HX_12 := Lib.hid (HX_11.out.on hb)
                have KP_12 := Lib.hid (KP_11.out.beneath hb)
                have KR_12 := Lib.hid (KR_11.out.beneath hb)
                have HQ12 := Lib.hid (HQ11.out.trans (hb.mono HQ11.out.size))
                have HZ12 := Lib.hid (HZ11.out.trans (hb.mono HZ11.out.size))
                clear hb
                have hb : Below w7.heap.size w7 (w7.alloc (.cells #[.int .u8 kd, .int .i64 0, .int .i64 0, .int .i64 0] 29)) := (Below.refl _ _).alloc (Nat.le_refl _) _
                have HX_13 := Lib.hid (HX_12.out.on hb)
                have KP_13 := Lib.hid (KP_12.out.beneath hb)
                have KR_13 := Lib.hid (KR_12.out.beneath hb)
                have HQ13 := Lib.hid (HQ12.out.trans (hb.mono HQ12.out.size))
                have HZ13 := Lib.hid (HZ12.out.trans (hb.mono HZ12.out.size))
                clear hb
                have KV_13 := Lib.hid (Blk.new w7 29 #[.int .u8 kd, .int .i64 0, .int .i64 0, .int .i64 0])
                clear kr0 kr1 kr2 kr3
                have kv0 := KV_13.out.cells 0
                have kv1 := KV_13.out.cells 1
                have kv2 := KV_13.out.cells 2
                have kv3 := KV_13.out.cells 3
                obtain ⟨bk2, ofk2, kd2, hbe, hbk, d0, HKD2⟩ := (HKI.out.on HQ13.out).elem hlt
                obtain rfl : kd = kd2 := HKD.out.symm.trans HKD2.out
                injection hbe with hbe
                injection hbe with hbe1 hbe2 _
                subst hbe1 hbe2
                have hq4 := eqValA
                clear hqv
                go_wp2_with fail
                go_quiet (fail)
                go_wp2_with fail
                go_roundw
                case rel => exact ⟨k + 1, by omega, by go_num, Lib.hid (belowDrewN HZ13.out _)⟩
                case measure => simp [intOf]; omega
              · obtain rfl : k = l.length := by omega
                have kp0 := KP_9.out.cells 0
                have kp1 := KP_9.out.cells 1
                have kp2 := KP_9.out.cells 2
                have kp3 := KP_9.out.cells 3
                go_wp2_with fail
                refine (pmove_any HX_9.out.mem np l.length (e0 := 2) (v0 := ⟨0, 0, 0, 0⟩) (by rw [HXM.out]; exact HEN.out.1) (by rw [HXM.out]; unfold moveV; rw [HEN.out.1, if_neg (by decide)]; rfl)).mono ?_
                rintro e w6 ⟨rfl, hb⟩
                have HX_10 := Lib.hid (HX_9.out.on hb)
                have KP_10 := Lib.hid (KP_9.out.beneath hb)
                have HQ10 := Lib.hid (HQ9.out.trans (hb.mono HQ9.out.size))
                have HZ10 := Lib.hid (HZ9.out.trans (hb.mono HZ9.out.size))
                clear hb
                have hb : Below w6.heap.size w6 (w6.alloc (.cells #[.int .u8 0, .int .i64 0, .int .i64 0, .int .i64 0] 29)) := (Below.refl _ _).alloc (Nat.le_refl _) _
                have HX_11 := Lib.hid (HX_10.out.on hb)
                have KP_11 := Lib.hid (KP_10.out.beneath hb)
                have HQ11 := Lib.hid (HQ10.out.trans (hb.mono HQ10.out.size))
                have HZ11 := Lib.hid (HZ10.out.trans (hb.mono HZ10.out.size))
                clear hb
                have KZ_11 := Lib.hid (Blk.new w6 29 #[.int .u8 0, .int .i64 0, .int .i64 0, .int .i64 0])
                clear kp0 kp1 kp2 kp3
                have kp0 := KP_11.out.cells 0
                have kp1 := KP_11.out.cells 1
                have kp2 := KP_11.out.cells 2
                have kp3 := KP_11.out.cells 3
                go_wp2_with fail
                refine (pdepth_any HX_11.out.mem np (e0 := 0) (d0 := 7) (by rw [HXM.out]; exact HEN.out.2.1) (by rw [HXM.out]; exact HEN.out.2.2)).mono ?_
                rintro e w7 ⟨rfl, hb⟩
                have HX_12 := Lib.hid (HX_11.out.on hb)
                have KP_12 := Lib.hid (KP_11.out.beneath hb)
                have KZ_12 := Lib.hid (KZ_11.out.beneath hb)
                have HQ12 := Lib.hid (HQ11.out.trans (hb.mono HQ11.out.size))
                have HZ12 := Lib.hid (HZ11.out.trans (hb.mono HZ11.out.size))
                clear hb
                clear kp0 kp1 kp2 kp3
                go_wp2_with fail
                go_ret
                exact ⟨rfl, HQ12.out⟩
          · have ho2 : (le != 2) = true := by simpa using hold
            obtain rfl : xe = le := hold1
            obtain rfl : xv = lv := hold2
            clear hold
            go_enter Try.func8, Try.ntmps8
            go_wp2_with fail
            refine (alive_any _).mono ?_
            rintro e w1 ⟨rfl, hb⟩
            have HKQ_1 := Lib.hid (HKQ_0.out.beneath hb)
            have HQ1 := Lib.hid (HQ0.out.trans (hb.mono HQ0.out.size))
            clear hb
            go_wp2_with fail
            refine (mgreat_is (HH.out.on HQ1.out) HG.out).mono ?_
            rintro e w99 ⟨rfl, rfl⟩
            go_wp2_with fail
            refine (pnew_any (HF.out.on HQ1.out) (HKI.out.on HQ1.out) (by omega) 5 6 7 HNE.out HNM.out HNP.out).mono ?_
            rintro e w2 ⟨vx, rx, rfl, ho, hm, hb⟩
            obtain ⟨Ax, cx, rfl, ho2⟩ := ho.own
            clear ho
            have HKQ_2 := Lib.hid (HKQ_1.out.beneath hb)
            have HQ2 := Lib.hid (HQ1.out.trans (hb.mono HQ1.out.size))
            clear hb
            have HX_2 := Lib.hid (MemFew.ofOwn ho2 hm HXB.out)
            have HXM := Lib.hid hm
            clear ho2
            have hrl : (rx.length : Int) = (rows.length : Int) + 1 := by have := HLX.out; rw [← hm, mmb_len] at this; omega
            have HRL := Lib.hid hrl
            clear hm hrl
            have hb : Below w2.heap.size w2 (w2.alloc (.cells #[.int .u8 np.k, .int .i64 np.n, .int .i64 np.b, .int .i64 np.t] 29)) := (Below.refl _ _).alloc (Nat.le_refl _) _
            have HKQ_3 := Lib.hid (HKQ_2.out.beneath hb)
            have HX_3 := Lib.hid (HX_2.out.on hb)
            have HQ3 := Lib.hid (HQ2.out.trans (hb.mono HQ2.out.size))
            clear hb
            have KP_3 := Lib.hid (Blk.new w2 29 #[.int .u8 np.k, .int .i64 np.n, .int .i64 np.b, .int .i64 np.t])
            have hkq0 := HKQ_3.out.cells 0
            have hkq1 := HKQ_3.out.cells 1
            have hkq2 := HKQ_3.out.cells 2
            have hkq3 := HKQ_3.out.cells 3
            go_wp2_with fail
            refine (pload_any (HF.out.on HQ3.out).mem q HLE.out HLV.out).mono ?_
            rintro e w3 ⟨rfl, hb⟩
            have HKQ_4 := Lib.hid (HKQ_3.out.beneath hb)
            have HX_4 := Lib.hid (HX_3.out.on hb)
            have KP_4 := Lib.hid (KP_3.out.beneath hb)
            have HQ4 := Lib.hid (HQ3.out.trans (hb.mono HQ3.out.size))
            clear hb
            have hb : Below w3.heap.size w3 (w3.alloc (.cells #[.int .u8 xv.k, .int .i64 xv.n, .int .i64 xv.b, .int .i64 xv.t] 29)) := (Below.refl _ _).alloc (Nat.le_refl _) _
            have HKQ_5 := Lib.hid (HKQ_4.out.beneath hb)
            have HX_5 := Lib.hid (HX_4.out.on hb)
            have KP_5 := Lib.hid (KP_4.out.beneath hb)
            have HQ5 := Lib.hid (HQ4.out.trans (hb.mono HQ4.out.size))
            clear hb
            have KW_5 := Lib.hid (Blk.new w3 29 #[.int .u8 xv.k, .int .i64 xv.n, .int .i64 xv.b, .int .i64 xv.t])
            clear hkq0 hkq1 hkq2 hkq3
            have hkq0 := HKQ_5.out.cells 0
            have hkq1 := HKQ_5.out.cells 1
            have hkq2 := HKQ_5.out.cells 2
            have hkq3 := HKQ_5.out.cells 3
            go_wp2_with fail
            refine (pload_any HX_5.out.mem q (e0 := xe) (v0 := xv) (by rw [HXM.out]; exact HXE.out) (by rw [HXM.out]; exact HXV.out)).mono ?_
            rintro e w4 ⟨rfl, hb⟩
            have HKQ_6 := Lib.hid (HKQ_5.out.beneath hb)
            have HX_6 := Lib.hid (HX_5.out.on hb)
            have KP_6 := Lib.hid (KP_5.out.beneath hb)
            have KW_6 := Lib.hid (KW_5.out.beneath hb)
            have HQ6 := Lib.hid (HQ5.out.trans (hb.mono HQ5.out.size))
            clear hb
            have hb : Below w4.heap.size w4 (w4.alloc (.cells #[.int .u8 xv.k, .int .i64 xv.n, .int .i64 xv.b, .int .i64 xv.t] 29)) := (Below.refl _ _).alloc (Nat.le_refl _) _
            have HKQ_7 := Lib.hid (HKQ_6.out.beneath hb)
            have HX_7 := Lib.hid (HX_6.out.on hb)
            have KP_7 := Lib.hid (KP_6.out.beneath hb)
            have KW_7 := Lib.hid (KW_6.out.beneath hb)
            have HQ7 := Lib.hid (HQ6.out.trans (hb.mono HQ6.out.size))
            clear hb
            have KX_7 := Lib.hid (Blk.new w4 29 #[.int .u8 xv.k, .int .i64 xv.n, .int .i64 xv.b, .int .i64 xv.t])
            clear hkq0 hkq1 hkq2 hkq3
            have hkq0 := HKQ_7.out.cells 0
            have hkq1 := HKQ_7.out.cells 1
            have hkq2 := HKQ_7.out.cells 2
            have hkq3 := HKQ_7.out.cells 3
            have kp0 := KP_7.out.cells 0
            have kp1 := KP_7.out.cells 1
            have kp2 := KP_7.out.cells 2
            have kp3 := KP_7.out.cells 3
            have kw0 := KW_7.out.cells 0
            have kw1 := KW_7.out.cells 1
            have kw2 := KW_7.out.cells 2
            have kw3 := KW_7.out.cells 3
            have kx0 := KX_7.out.cells 0
            have kx1 := KX_7.out.cells 1
            have kx2 := KX_7.out.cells 2
            have kx3 := KX_7.out.cells 3
            go_wp2_with fail
            refine (pcheckm_is HX_7.out.mem (e0 := 0) (by rw [HXM.out]; exact HMY.out)).mono ?_
            rintro e w5 ⟨rfl, hb⟩
            have HKQ_8 := Lib.hid (HKQ_7.out.beneath hb)
            have HX_8 := Lib.hid (HX_7.out.on hb)
            have KP_8 := Lib.hid (KP_7.out.beneath hb)
            have KW_8 := Lib.hid (KW_7.out.beneath hb)
            have KX_8 := Lib.hid (KX_7.out.beneath hb)
            have HQ8 := Lib.hid (HQ7.out.trans (hb.mono HQ7.out.size))
            clear hb
            clear hkq0 hkq1 hkq2 hkq3 kp0 kp1 kp2 kp3 kw0 kw1 kw2 kw3 kx0 kx1 kx2 kx3
            have hrl := HRL.out
            have hwr : IntKind.i64.wrap ((rows.length : Int) + 1) = (rows.length : Int) + 1 := IntWalk.i64_in _ (by have := HF.out.few; omega)
            go_wp2_with fail
            clear hrl hwr
            go_loopw [15] (fun i wr => ∃ k : Nat, k ≤ l.length ∧ i = .int .i64 k ∧ Hid (Below w5.heap.size w5 wr)) (fun i _ => l.length - (intOf i).toNat)
            case atStart => exact ⟨0, Nat.zero_le _, rfl, Lib.hid (Below.refl _ _)⟩
            case round =>
              obtain ⟨k, hk, rfl, HB⟩ := hrel
              have hb := HB.out
              have HX_9 := Lib.hid (HX_8.out.on hb)
              have KP_9 := Lib.hid (KP_8.out.beneath hb)
              have HQ9 := Lib.hid (HQ8.out.trans (hb.mono HQ8.out.size))
              clear hb
              have HZ9 := HB
              by_cases hlt : k < l.length
              · have hcl := HCE.out k hlt
                rw [← HPV.out] at hcl
                obtain ⟨rv, hrv⟩ : ∃ x : Vl, (⟨2, 0, (mmb rows).length + 1, k⟩ : Vl) = x := ⟨_, rfl⟩
                rw [hrv] at hcl
                have HCL := Lib.hid hcl
                clear hcl hrv
                have kp0 := KP_9.out.cells 0
                have kp1 := KP_9.out.cells 1
                have kp2 := KP_9.out.cells 2
                have kp3 := KP_9.out.cells 3
                go_wp2_with fail
                refine (pmove_any HX_9.out.mem np k (e0 := 0) (v0 := rv) (by rw [HXM.out]; exact HCL.out.1) (by rw [HXM.out]; exact HCL.out.2.1)).mono ?_
                rintro e w6 ⟨rfl, hb⟩
                have HX_10 := Lib.hid (HX_9.out.on hb)
                have KP_10 := Lib.hid (KP_9.out.beneath hb)
                have HQ10 := Lib.hid (HQ9.out.trans (hb.mono HQ9.out.size))
                have HZ10 := Lib.hid (HZ9.out.trans (hb.mono HZ9.out.size))
                clear hb
                have hb : Below w6.heap.size w6 (w6.alloc (.cells #[.int .u8 rv.k, .int .i64 rv.n, .int .i64 rv.b, .int .i64 rv.t] 29)) := (Below.refl _ _).alloc (Nat.le_refl _) _
                have HX_11 := Lib.hid (HX_10.out.on hb)
                have KP_11 := Lib.hid (KP_10.out.beneath hb)
                have HQ11 := Lib.hid (HQ10.out.trans (hb.mono HQ10.out.size))
                have HZ11 := Lib.hid (HZ10.out.trans (hb.mono HZ10.out.size))
                clear hb
                have KR_11 := Lib.hid (Blk.new w6 29 #[.int .u8 rv.k, .int .i64 rv.n, .int .i64 rv.b, .int .i64 rv.t])
                clear kp0 kp1 kp2 kp3
                have kr0 := KR_11.out.cells 0
                have kr1 := KR_11.out.cells 1
                have kr2 := KR_11.out.cells 2
                have kr3 := KR_11.out.cells 3
                obtain ⟨bk, ofk, kd, rfl, hbk, d0, HKD⟩ := (HKI.out.on HQ11.out).elem hlt
                clear d0 hbk
                go_wp2_with fail
                refine (pload_any HX_11.out.mem rv (e0 := 0) (v0 := ⟨kd, 0, 0, 0⟩) (by rw [HXM.out]; exact HCL.out.2.2.1) (by rw [HXM.out, HCL.out.2.2.2, HKD.out]; rfl)).mono ?_
                rintro e w7 ⟨rfl, hb⟩
                have HX_12 := Lib.hid (HX_11.out.on hb)
                have KP_12 := Lib.hid (KP_11.out.beneath hb)
                have KR_12 := Lib.hid (KR_11.out.beneath hb)
                have HQ12 := Lib.hid (HQ11.out.trans (hb.mono HQ11.out.size))
                have HZ12 := Lib.hid (HZ11.out.trans (hb.mono HZ11.out.size))
                clear hb
                have hb : Below w7.heap.size w7 (w7.alloc (.cells #[.int .u8 kd, .int .i64 0, .int .i64 0, .int .i64 0] 29)) := (Below.refl _ _).alloc (Nat.le_refl _) _
                have HX_13 := Lib.hid (HX_12.out.on hb)
                have KP_13 := Lib.hid (KP_12.out.beneath hb)
                have KR_13 := Lib.hid (KR_12.out.beneath hb)
                have HQ13 := Lib.hid (HQ12.out.trans (hb.mono HQ12.out.size))
                have HZ13 := Lib.hid (HZ12.out.trans (hb.mono HZ12.out.size))
                clear hb
                have KV_13 := Lib.hid (Blk.new w7 29 #[.int .u8 kd, .int .i64 0, .int .i64 0, .int .i64 0])
                clear kr0 kr1 kr2 kr3
                have kv0 := KV_13.out.cells 0
                have kv1 := KV_13.out.cells 1
                have kv2 := KV_13.out.cells 2
                have kv3 := KV_13.out.cells 3
                obtain ⟨bk2, ofk2, kd2, hbe, hbk, d0, HKD2⟩ := (HKI.out.on HQ13.out).elem hlt
                obtain rfl : kd = kd2 := HKD.out.symm.trans HKD2.out
                injection hbe with hbe
                injection hbe with hbe1 hbe2 _
                subst hbe1 hbe2
                have hq4 := eqValA
                clear hqv
                go_wp2_with fail
                go_quiet (fail)
                go_wp2_with fail
                go_roundw
                case rel => exact ⟨k + 1, by omega, by go_num, Lib.hid (belowDrewN HZ13.out _)⟩
                case measure => simp [intOf]; omega
              · obtain rfl : k = l.length := by omega
                have kp0 := KP_9.out.cells 0
                have kp1 := KP_9.out.cells 1
                have kp2 := KP_9.out.cells 2
                have kp3 := KP_9.out.cells 3
                go_wp2_with fail
                refine (pmove_any HX_9.out.mem np l.length (e0 := 2) (v0 := ⟨0, 0, 0, 0⟩) (by rw [HXM.out]; exact HEN.out.1) (by rw [HXM.out]; unfold moveV; rw [HEN.out.1, if_neg (by decide)]; rfl)).mono ?_
                rintro e w6 ⟨rfl, hb⟩
                have HX_10 := Lib.hid (HX_9.out.on hb)
                have KP_10 := Lib.hid (KP_9.out.beneath hb)
                have HQ10 := Lib.hid (HQ9.out.trans (hb.mono HQ9.out.size))
                have HZ10 := Lib.hid (HZ9.out.trans (hb.mono HZ9.out.size))
                clear hb
                have hb : Below w6.heap.size w6 (w6.alloc (.cells #[.int .u8 0, .int .i64 0, .int .i64 0, .int .i64 0] 29)) := (Below.refl _ _).alloc (Nat.le_refl _) _
                have HX_11 := Lib.hid (HX_10.out.on hb)
                have KP_11 := Lib.hid (KP_10.out.beneath hb)
                have HQ11 := Lib.hid (HQ10.out.trans (hb.mono HQ10.out.size))
                have HZ11 := Lib.hid (HZ10.out.trans (hb.mono HZ10.out.size))
                clear hb
                have KZ_11 := Lib.hid (Blk.new w6 29 #[.int .u8 0, .int .i64 0, .int .i64 0, .int .i64 0])
                clear kp0 kp1 kp2 kp3
                have kp0 := KP_11.out.cells 0
                have kp1 := KP_11.out.cells 1
                have kp2 := KP_11.out.cells 2
                have kp3 := KP_11.out.cells 3
                go_wp2_with fail
                refine (pdepth_any HX_11.out.mem np (e0 := 0) (d0 := 7) (by rw [HXM.out]; exact HEN.out.2.1) (by rw [HXM.out]; exact HEN.out.2.2)).mono ?_
                rintro e w7 ⟨rfl, hb⟩
                have HX_12 := Lib.hid (HX_11.out.on hb)
                have KP_12 := Lib.hid (KP_11.out.beneath hb)
                have KZ_12 := Lib.hid (KZ_11.out.beneath hb)
                have HQ12 := Lib.hid (HQ11.out.trans (hb.mono HQ11.out.size))
                have HZ12 := Lib.hid (HZ11.out.trans (hb.mono HZ11.out.size))
                clear hb
                clear kp0 kp1 kp2 kp3
                go_wp2_with fail
                go_ret
                exact ⟨rfl, HQ12.out⟩
end Go.Proofs.Ythddacnnhmcoaaa
