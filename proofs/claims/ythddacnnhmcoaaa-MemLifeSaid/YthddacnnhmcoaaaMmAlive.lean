/-
  The laws' own examples: alive, number.
-/
import Derived.Test.YthddacnnhmcoaaaMmNew6
import Derived.Test.YthddacnnhmcoaaaMmSame
import Derived.Test.YthddacnnhmcoaaaMmProg4
import Derived.Test.YthddacnnhmcoaaaMmProg5
import Derived.Test.YthddacnnhmcoaaaMmProg6
import Derived.Test.YthddacnnhmcoaaaMmSpoil
namespace Go.Proofs.Ythddacnnhmcoaaa
set_option linter.unusedVariables false
set_option linter.unusedSimpArgs false
open Go.ChangeShapes Go.WideShapes Go.ChangeAt Go.RowKit

theorem eqValA (k n b t k' n' b' t' : Int) (w : World) : (Op.equalIn 10000 29 (.agg #[.int .u8 k, .int .i64 n, .int .i64 b, .int .i64 t]) (.agg #[.int .u8 k', .int .i64 n', .int .i64 b', .int .i64 t'])).run Try.prog w = .ok (k == k' && (n == n' && (b == b' && t == t'))) w := eqVal4 k n b t k' n' b' t' w
theorem number_any (k : Int) (w : World) : Calls Try.prog 36 #[.int .i64 k] w fun e w' => e = .returned (valV 1 k 0 0) ∧ Below w.heap.size w w' := by
  have HR := Lib.hid (Blk.new w 29 #[.int .u8 1, .int .i64 k, .int .i64 0, .int .i64 0])
  have HB0 : Hid (Below w.heap.size w (w.alloc (.cells #[.int .u8 1, .int .i64 k, .int .i64 0, .int .i64 0] 29))) := Lib.hid ((Below.refl _ _).alloc (Nat.le_refl _) _)
  go_enter Try.func36, Try.ntmps36
  go_wp2_with fail
  have q0 := HR.out.cells 0
  have q1 := HR.out.cells 1
  have q2 := HR.out.cells 2
  have q3 := HR.out.cells 3
  exact bodyPost_ret (v := valV 1 k 0 0) (by simp [results, Try.results36, go_sem, q0, q1, q2, q3]) rfl ⟨rfl, HB0.out⟩
theorem kinds_one (w : World) (k : Int) : KindsAt (w.alloc (.cells #[.int .u8 k] 5)) (some ⟨w.heap.size, 0, none⟩) 1 [k] := by
  have hb := Blk.new w 5 #[.int .u8 k]
  refine ⟨⟨Nat.le_refl _, by unfold maxLen; decide, fun h => by cases h⟩, fun hn => ⟨w.heap.size, 0, rfl, Nat.zero_le _, hb.lt, fun i hi j hj => ?_⟩⟩
  have h1 : i < 1 := hi
  have hi0 : i = 0 := by omega
  have hj0 : j = 0 := by omega
  subst hi0 hj0
  exact hb.cells 0
theorem kinds_oneAt (w : World) {g : Nat} (h : g = w.heap.size) (k : Int) : KindsAt (w.alloc (.cells #[.int .u8 k] 5)) (some ⟨g, 0, none⟩) 1 [k] := by subst h; exact kinds_one w k
theorem MemFew.nil (w : World) : MemFew w none 0 [] := ⟨MemIn.none, Nat.zero_le _, fun r hr => by cases hr⟩
theorem MemFew.ofOwn {w : World} {lo c : Nat} {A : Option Addr} {rows : List BkR} (h : MemOwn w lo A c rows) {m : List Bk} (hm : mmb rows = m) (hf : FewB m) : MemFew w A c rows := by
  obtain ⟨h1, h2⟩ := hf.rows hm
  exact ⟨h.mem, h1, h2⟩
def al1 : List Bk := [⟨0, 0, 0, true, [⟨1, 0, 0, 0⟩]⟩]
def al2 : List Bk := [⟨0, 0, 0, true, [⟨1, 7, 0, 0⟩]⟩]
def al3 : List Bk := [⟨0, 0, 0, false, [⟨1, 7, 0, 0⟩]⟩]
def al4 : List Bk := [⟨0, 0, 0, true, [⟨2, 0, 0, 0⟩]⟩]
def al5 : List Bk := [⟨0, 0, 0, true, [⟨2, 0, 0, 0⟩]⟩, ⟨0, 0, 1, true, [⟨1, 0, 0, 0⟩]⟩]
theorem FewB.small {m : List Bk} (h : (decide (m.length ≤ 1000) && m.all fun b => decide (b.cells.length ≤ 1000)) = true) : FewB m := by
  rw [Bool.and_eq_true] at h
  exact ⟨of_decide_eq_true h.1, fun b hb => of_decide_eq_true (List.all_eq_true.1 h.2 b hb)⟩
set_option maxRecDepth 100000 in
set_option maxHeartbeats 6400000 in
theorem alive_any (w : World) : Calls Try.prog 35 #[] w fun e w' => e = .returned (.bool true) ∧ Below w.heap.size w w' := by
  have hmx4 : ∀ w : World, (Builtin.max_ #[30, 30, 30, 30] 30 #[.int .i64 0, .int .i64 0, .int .i64 0, .int .i64 0]).run Try.prog w = .ok (.int .i64 0) w := fun w => by simp [Builtin.max_, Builtin.max2]
  have HQ0 := Lib.hid (Below.refl w.heap.size w)
  have hqv := eqValV
  go_enter Try.func35, Try.ntmps35
  have hki := kinds_oneAt w (g := w.heap.size) (by first | rfl | simp) 1
  have hb : Below w.heap.size w (w.alloc (.cells #[.int .u8 1] 5)) := (Below.refl _ _).alloc (Nat.le_refl _) _
  have HQ1 := Lib.hid (HQ0.out.trans (hb.mono HQ0.out.size))
  clear hb
  go_wp2_with fail
  refine (pnew_any (MemFew.nil _) hki (l := [1]) (by decide) 0 0 0 (e0 := 0) (m0 := al1) (p0 := ⟨2, 0, 1, 0⟩) (rfl) (rfl) (rfl)).mono ?_
  clear hki
  rintro e w1 ⟨vm, rm, rfl, ho, hm, hb⟩
  obtain ⟨Am, cm, rfl, ho2⟩ := ho.own
  clear ho
  have ho := ho2
  clear ho2
  have HQ2 := Lib.hid (HQ1.out.trans (hb.mono HQ1.out.size))
  clear hb
  have Hm_2 := Lib.hid (MemFew.ofOwn ho hm (FewB.small (m := al1) (by rfl)))
  have Em := Lib.hid hm
  clear ho hm
  have hb : Below w1.heap.size w1 (w1.alloc (.cells #[.int .u8 2, .int .i64 0, .int .i64 1, .int .i64 0] 29)) := (Below.refl _ _).alloc (Nat.le_refl _) _
  have Hm_3 := Lib.hid (Hm_2.out.on hb)
  have HQ3 := Lib.hid (HQ2.out.trans (hb.mono HQ2.out.size))
  clear hb
  have KP_3 := Lib.hid (Blk.new w1 29 #[.int .u8 2, .int .i64 0, .int .i64 1, .int .i64 0])
  have kp0 := KP_3.out.cells 0
  have kp1 := KP_3.out.cells 1
  have kp2 := KP_3.out.cells 2
  have kp3 := KP_3.out.cells 3
  go_wp2_with fail
  go_region_held3 (fun w' => w'.cell? ⟨w1.heap.size, 0, none⟩ = some (.int .u8 2) ∧ w'.cell? ⟨w1.heap.size, 1, none⟩ = some (.int .i64 0) ∧ w'.cell? ⟨w1.heap.size, 2, none⟩ = some (.int .i64 1) ∧ w'.cell? ⟨w1.heap.size, 3, none⟩ = some (.int .i64 0)) (go_keep)
    (first
      | (go_at_call 36
         refine (number_any 7 _).mono ?_
         rintro e w2 ⟨rfl, hb⟩
         have hb : Below (w1.alloc (.cells #[.int .u8 2, .int .i64 0, .int .i64 1, .int .i64 0] 29)).heap.size (w1.alloc (.cells #[.int .u8 2, .int .i64 0, .int .i64 1, .int .i64 0] 29)) w2 := (Below.refl _ _).drew.trans hb
         have Hm_4 := Lib.hid (Hm_3.out.on hb)
         have KP_4 := Lib.hid (KP_3.out.beneath hb)
         have HQ4 := Lib.hid (HQ3.out.trans (hb.mono HQ3.out.size))
         clear hb
         have kq0 := KP_4.out.cells 0
         have kq1 := KP_4.out.cells 1
         have kq2 := KP_4.out.cells 2
         have kq3 := KP_4.out.cells 3
         clear kp0 kp1 kp2 kp3)
      | (go_at_call 29
         refine (pstore_any Hm_4.out ⟨2, 0, 1, 0⟩ ⟨1, 7, 0, 0⟩ (e0 := 0) (m0 := al2) (by rw [Em.out]; rfl) (by rw [Em.out]; rfl)).mono ?_
         rintro e w3 ⟨Ax, cx, rx, rfl, ho, hm, hb⟩
         have Hm_5 := Lib.hid (Hm_4.out.on hb)
         have KP_5 := Lib.hid (KP_4.out.beneath hb)
         have HQ5 := Lib.hid (HQ4.out.trans (hb.mono HQ4.out.size))
         clear hb
         have Hx_5 := Lib.hid (MemFew.ofOwn ho hm (FewB.small (m := al2) (by rfl)))
         have Ex := Lib.hid hm
         clear ho hm
         have kr0 := KP_5.out.cells 0
         have kr1 := KP_5.out.cells 1
         have kr2 := KP_5.out.cells 2
         have kr3 := KP_5.out.cells 3
         clear kq0 kq1 kq2 kq3))
  go_wp2_with fail
  refine (pload_any Hx_5.out.mem ⟨2, 0, 1, 0⟩ (e0 := 0) (v0 := ⟨1, 7, 0, 0⟩) (by rw [Ex.out]; rfl) (by rw [Ex.out]; rfl)).mono ?_
  rintro e w4 ⟨rfl, hb⟩
  have Hm_6 := Lib.hid (Hm_5.out.on hb)
  have KP_6 := Lib.hid (KP_5.out.beneath hb)
  have Hx_6 := Lib.hid (Hx_5.out.on hb)
  have HQ6 := Lib.hid (HQ5.out.trans (hb.mono HQ5.out.size))
  clear hb
  have hb : Below w4.heap.size w4 (w4.alloc (.cells #[.int .u8 1, .int .i64 7, .int .i64 0, .int .i64 0] 29)) := (Below.refl _ _).alloc (Nat.le_refl _) _
  have Hm_7 := Lib.hid (Hm_6.out.on hb)
  have KP_7 := Lib.hid (KP_6.out.beneath hb)
  have Hx_7 := Lib.hid (Hx_6.out.on hb)
  have HQ7 := Lib.hid (HQ6.out.trans (hb.mono HQ6.out.size))
  clear hb
  have KV_7 := Lib.hid (Blk.new w4 29 #[.int .u8 1, .int .i64 7, .int .i64 0, .int .i64 0])
  clear kr0 kr1 kr2 kr3
  have kp0 := KP_7.out.cells 0
  have kp1 := KP_7.out.cells 1
  have kp2 := KP_7.out.cells 2
  have kp3 := KP_7.out.cells 3
  go_wp2_with fail
  refine (pfree_any Hx_7.out ⟨2, 0, 1, 0⟩ (e0 := 0) (m0 := al3) (by rw [Ex.out]; rfl) (by rw [Ex.out]; rfl)).mono ?_
  rintro e w5 ⟨Ay, cy, ry, rfl, ho, hm, hb⟩
  have Hm_8 := Lib.hid (Hm_7.out.on hb)
  have KP_8 := Lib.hid (KP_7.out.beneath hb)
  have Hx_8 := Lib.hid (Hx_7.out.on hb)
  have KV_8 := Lib.hid (KV_7.out.beneath hb)
  have HQ8 := Lib.hid (HQ7.out.trans (hb.mono HQ7.out.size))
  clear hb
  have Hy_8 := Lib.hid (MemFew.ofOwn ho hm (FewB.small (m := al3) (by rfl)))
  have Ey := Lib.hid hm
  clear ho hm
  clear kp0 kp1 kp2 kp3
  have kp0 := KP_8.out.cells 0
  have kp1 := KP_8.out.cells 1
  have kp2 := KP_8.out.cells 2
  have kp3 := KP_8.out.cells 3
  go_wp2_with fail
  refine (pload_any Hy_8.out.mem ⟨2, 0, 1, 0⟩ (e0 := 142) (v0 := ⟨0, 0, 0, 0⟩) (by rw [Ey.out]; rfl) (by rw [Ey.out]; rfl)).mono ?_
  rintro e w6 ⟨rfl, hb⟩
  have Hm_9 := Lib.hid (Hm_8.out.on hb)
  have KP_9 := Lib.hid (KP_8.out.beneath hb)
  have Hx_9 := Lib.hid (Hx_8.out.on hb)
  have KV_9 := Lib.hid (KV_8.out.beneath hb)
  have Hy_9 := Lib.hid (Hy_8.out.on hb)
  have HQ9 := Lib.hid (HQ8.out.trans (hb.mono HQ8.out.size))
  clear hb
  have hb : Below w6.heap.size w6 (w6.alloc (.cells #[.int .u8 0, .int .i64 0, .int .i64 0, .int .i64 0] 29)) := (Below.refl _ _).alloc (Nat.le_refl _) _
  have Hm_10 := Lib.hid (Hm_9.out.on hb)
  have KP_10 := Lib.hid (KP_9.out.beneath hb)
  have Hx_10 := Lib.hid (Hx_9.out.on hb)
  have KV_10 := Lib.hid (KV_9.out.beneath hb)
  have Hy_10 := Lib.hid (Hy_9.out.on hb)
  have HQ10 := Lib.hid (HQ9.out.trans (hb.mono HQ9.out.size))
  clear hb
  have KU_10 := Lib.hid (Blk.new w6 29 #[.int .u8 0, .int .i64 0, .int .i64 0, .int .i64 0])
  clear kp0 kp1 kp2 kp3
  have hki := kinds_oneAt (w6.alloc (.cells #[.int .u8 0, .int .i64 0, .int .i64 0, .int .i64 0] 29)) (g := w6.heap.size + 1) (by first | rfl | simp) 2
  have hb : Below (w6.alloc (.cells #[.int .u8 0, .int .i64 0, .int .i64 0, .int .i64 0] 29)).heap.size (w6.alloc (.cells #[.int .u8 0, .int .i64 0, .int .i64 0, .int .i64 0] 29)) ((w6.alloc (.cells #[.int .u8 0, .int .i64 0, .int .i64 0, .int .i64 0] 29)).alloc (.cells #[.int .u8 2] 5)) := (Below.refl _ _).alloc (Nat.le_refl _) _
  have Hm_11 := Lib.hid (Hm_10.out.on hb)
  have KP_11 := Lib.hid (KP_10.out.beneath hb)
  have Hx_11 := Lib.hid (Hx_10.out.on hb)
  have KV_11 := Lib.hid (KV_10.out.beneath hb)
  have Hy_11 := Lib.hid (Hy_10.out.on hb)
  have KU_11 := Lib.hid (KU_10.out.beneath hb)
  have HQ11 := Lib.hid (HQ10.out.trans (hb.mono HQ10.out.size))
  clear hb
  go_wp2_with fail
  refine (pnew_any (MemFew.nil _) hki (l := [2]) (by decide) 0 0 0 (e0 := 0) (m0 := al4) (p0 := ⟨2, 0, 1, 0⟩) (rfl) (rfl) (rfl)).mono ?_
  clear hki
  rintro e w7 ⟨vh, rh, rfl, ho, hm, hb⟩
  obtain ⟨Ah, ch, rfl, ho2⟩ := ho.own
  clear ho
  have ho := ho2
  clear ho2
  have Hm_12 := Lib.hid (Hm_11.out.on hb)
  have KP_12 := Lib.hid (KP_11.out.beneath hb)
  have Hx_12 := Lib.hid (Hx_11.out.on hb)
  have KV_12 := Lib.hid (KV_11.out.beneath hb)
  have Hy_12 := Lib.hid (Hy_11.out.on hb)
  have KU_12 := Lib.hid (KU_11.out.beneath hb)
  have HQ12 := Lib.hid (HQ11.out.trans (hb.mono HQ11.out.size))
  clear hb
  have Hh_12 := Lib.hid (MemFew.ofOwn ho hm (FewB.small (m := al4) (by rfl)))
  have Eh := Lib.hid hm
  clear ho hm
  have hb : Below w7.heap.size w7 (w7.alloc (.cells #[.int .u8 2, .int .i64 0, .int .i64 1, .int .i64 0] 29)) := (Below.refl _ _).alloc (Nat.le_refl _) _
  have Hm_13 := Lib.hid (Hm_12.out.on hb)
  have KP_13 := Lib.hid (KP_12.out.beneath hb)
  have Hx_13 := Lib.hid (Hx_12.out.on hb)
  have KV_13 := Lib.hid (KV_12.out.beneath hb)
  have Hy_13 := Lib.hid (Hy_12.out.on hb)
  have KU_13 := Lib.hid (KU_12.out.beneath hb)
  have Hh_13 := Lib.hid (Hh_12.out.on hb)
  have HQ13 := Lib.hid (HQ12.out.trans (hb.mono HQ12.out.size))
  clear hb
  have KB_13 := Lib.hid (Blk.new w7 29 #[.int .u8 2, .int .i64 0, .int .i64 1, .int .i64 0])
  have hki := kinds_oneAt (w7.alloc (.cells #[.int .u8 2, .int .i64 0, .int .i64 1, .int .i64 0] 29)) (g := w7.heap.size + 1) (by first | rfl | simp) 1
  have hb : Below (w7.alloc (.cells #[.int .u8 2, .int .i64 0, .int .i64 1, .int .i64 0] 29)).heap.size (w7.alloc (.cells #[.int .u8 2, .int .i64 0, .int .i64 1, .int .i64 0] 29)) ((w7.alloc (.cells #[.int .u8 2, .int .i64 0, .int .i64 1, .int .i64 0] 29)).alloc (.cells #[.int .u8 1] 5)) := (Below.refl _ _).alloc (Nat.le_refl _) _
  have Hm_14 := Lib.hid (Hm_13.out.on hb)
  have KP_14 := Lib.hid (KP_13.out.beneath hb)
  have Hx_14 := Lib.hid (Hx_13.out.on hb)
  have KV_14 := Lib.hid (KV_13.out.beneath hb)
  have Hy_14 := Lib.hid (Hy_13.out.on hb)
  have KU_14 := Lib.hid (KU_13.out.beneath hb)
  have Hh_14 := Lib.hid (Hh_13.out.on hb)
  have KB_14 := Lib.hid (KB_13.out.beneath hb)
  have HQ14 := Lib.hid (HQ13.out.trans (hb.mono HQ13.out.size))
  clear hb
  go_wp2_with fail
  refine (pnew_any Hh_14.out hki (l := [1]) (by decide) 0 0 1 (e0 := 0) (m0 := al5) (p0 := ⟨2, 0, 2, 0⟩) (by rw [Eh.out]; rfl) (by rw [Eh.out]; rfl) (by rw [Eh.out]; rfl)).mono ?_
  clear hki
  rintro e w8 ⟨vb, rb, rfl, ho, hm, hb⟩
  obtain ⟨Ab, cb, rfl, ho2⟩ := ho.own
  clear ho
  have ho := ho2
  clear ho2
  have Hm_15 := Lib.hid (Hm_14.out.on hb)
  have KP_15 := Lib.hid (KP_14.out.beneath hb)
  have Hx_15 := Lib.hid (Hx_14.out.on hb)
  have KV_15 := Lib.hid (KV_14.out.beneath hb)
  have Hy_15 := Lib.hid (Hy_14.out.on hb)
  have KU_15 := Lib.hid (KU_14.out.beneath hb)
  have Hh_15 := Lib.hid (Hh_14.out.on hb)
  have KB_15 := Lib.hid (KB_14.out.beneath hb)
  have HQ15 := Lib.hid (HQ14.out.trans (hb.mono HQ14.out.size))
  clear hb
  have Hb_15 := Lib.hid (MemFew.ofOwn ho hm (FewB.small (m := al5) (by rfl)))
  have Eb := Lib.hid hm
  clear ho hm
  have hb : Below w8.heap.size w8 (w8.alloc (.cells #[.int .u8 2, .int .i64 0, .int .i64 2, .int .i64 0] 29)) := (Below.refl _ _).alloc (Nat.le_refl _) _
  have Hm_16 := Lib.hid (Hm_15.out.on hb)
  have KP_16 := Lib.hid (KP_15.out.beneath hb)
  have Hx_16 := Lib.hid (Hx_15.out.on hb)
  have KV_16 := Lib.hid (KV_15.out.beneath hb)
  have Hy_16 := Lib.hid (Hy_15.out.on hb)
  have KU_16 := Lib.hid (KU_15.out.beneath hb)
  have Hh_16 := Lib.hid (Hh_15.out.on hb)
  have KB_16 := Lib.hid (KB_15.out.beneath hb)
  have Hb_16 := Lib.hid (Hb_15.out.on hb)
  have HQ16 := Lib.hid (HQ15.out.trans (hb.mono HQ15.out.size))
  clear hb
  have KR_16 := Lib.hid (Blk.new w8 29 #[.int .u8 2, .int .i64 0, .int .i64 2, .int .i64 0])
  have kb0 := KB_16.out.cells 0
  have kb1 := KB_16.out.cells 1
  have kb2 := KB_16.out.cells 2
  have kb3 := KB_16.out.cells 3
  have kr0 := KR_16.out.cells 0
  have kr1 := KR_16.out.cells 1
  have kr2 := KR_16.out.cells 2
  have kr3 := KR_16.out.cells 3
  go_wp2_with fail
  refine (pstore_any Hb_16.out ⟨2, 0, 1, 0⟩ ⟨2, 0, 2, 0⟩ (e0 := 144) (m0 := []) (by rw [Eb.out]; rfl) (by rw [Eb.out]; rfl)).mono ?_
  rintro e w9 ⟨Az, cz, rz, rfl, ho, hm, hb⟩
  have Hm_17 := Lib.hid (Hm_16.out.on hb)
  have KP_17 := Lib.hid (KP_16.out.beneath hb)
  have Hx_17 := Lib.hid (Hx_16.out.on hb)
  have KV_17 := Lib.hid (KV_16.out.beneath hb)
  have Hy_17 := Lib.hid (Hy_16.out.on hb)
  have KU_17 := Lib.hid (KU_16.out.beneath hb)
  have Hh_17 := Lib.hid (Hh_16.out.on hb)
  have KB_17 := Lib.hid (KB_16.out.beneath hb)
  have Hb_17 := Lib.hid (Hb_16.out.on hb)
  have KR_17 := Lib.hid (KR_16.out.beneath hb)
  have HQ17 := Lib.hid (HQ16.out.trans (hb.mono HQ16.out.size))
  clear hb
  clear ho hm
  clear kb0 kb1 kb2 kb3 kr0 kr1 kr2 kr3
  have kv0 := KV_17.out.cells 0
  have kv1 := KV_17.out.cells 1
  have kv2 := KV_17.out.cells 2
  have kv3 := KV_17.out.cells 3
  go_wp2_with fail
  have hq4 := eqValA
  clear hqv
  go_region_held3 (fun w' => w'.cell? ⟨w4.heap.size, 0, none⟩ = some (.int .u8 1) ∧ w'.cell? ⟨w4.heap.size, 1, none⟩ = some (.int .i64 7) ∧ w'.cell? ⟨w4.heap.size, 2, none⟩ = some (.int .i64 0) ∧ w'.cell? ⟨w4.heap.size, 3, none⟩ = some (.int .i64 0)) (go_keep)
    (first
      | (go_at_call 36
         refine (number_any 7 _).mono ?_
         rintro e w10 ⟨rfl, hb⟩
         have hb : Below w9.heap.size w9 w10 := (Below.refl _ _).drew.trans hb
         have HQ18 := Lib.hid (HQ17.out.trans (hb.mono HQ17.out.size))
         have kw0 := (KV_17.out.beneath hb).cells 0
         have kw1 := (KV_17.out.beneath hb).cells 1
         have kw2 := (KV_17.out.beneath hb).cells 2
         have kw3 := (KV_17.out.beneath hb).cells 3
         clear hb kv0 kv1 kv2 kv3))
  all_goals
    go_wp2_with fail
    go_ret
    exact ⟨rfl, HQ18.out⟩
end Go.Proofs.Ythddacnnhmcoaaa
