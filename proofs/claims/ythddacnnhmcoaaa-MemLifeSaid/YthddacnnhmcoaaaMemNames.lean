/-
  The walk of the law MemNames.
-/
import Derived.Test.YthddacnnhmcoaaaMmAlive
import Derived.Test.YthddacnnhmcoaaaMmHolds
import Derived.Test.YthddacnnhmcoaaaMmProg7
namespace Go.Proofs.Ythddacnnhmcoaaa
set_option linter.unusedVariables false
set_option linter.unusedSimpArgs false
open Go.ChangeShapes Go.WideShapes Go.ChangeAt Go.RowKit

theorem kinds_two (w : World) {g : Nat} (h : g = w.heap.size) (k k' : Int) : KindsAt (w.alloc (.cells #[.int .u8 k, .int .u8 k'] 5)) (some ⟨g, 0, none⟩) 2 [k, k'] := by
  have hb := Blk.newAt h 5 #[.int .u8 k, .int .u8 k']
  refine ⟨⟨Nat.le_refl _, by unfold maxLen; decide, fun h => by cases h⟩, fun hn => ⟨g, 0, rfl, Nat.zero_le _, hb.lt, fun i hi j hj => ?_⟩⟩
  have h1 : i < 2 := hi
  have hj0 : j = 0 := by omega
  subst hj0
  match i, h1 with
  | 0, _ => exact hb.cells 0
  | 1, _ => exact hb.cells 1
theorem kinds_none (w : World) : KindsAt w none 0 [] := ⟨⟨Nat.le_refl _, by unfold maxLen; omega, fun _ => ⟨rfl, rfl⟩⟩, CellsAt.empty⟩
/-- A memory of one block, laid in place. -/
theorem mem_one (w : World) {g : Nat} (h : g = w.heap.size) (r : BkR) (hr : r.Ok w 0 w.heap.size) :
    MemIn (w.alloc (.cells #[.int .i64 r.site, .int .i64 r.type, .int .i64 r.depth, .bool r.alive, .slice r.ca r.cells.length r.cc] 70)) (some ⟨g, 0, none⟩) 1 [r] := by
  have hb := Blk.newAt h 70 #[.int .i64 r.site, .int .i64 r.type, .int .i64 r.depth, .bool r.alive, .slice r.ca r.cells.length r.cc]
  have hbl : Below w.heap.size w (w.alloc (.cells #[.int .i64 r.site, .int .i64 r.type, .int .i64 r.depth, .bool r.alive, .slice r.ca r.cells.length r.cc] 70)) := (Below.refl _ _).alloc (Nat.le_refl _) _
  refine ⟨⟨Nat.le_refl _, by unfold maxLen; decide, fun h => by cases h⟩, ⟨fun hn => ⟨g, 0, rfl, Nat.zero_le _, hb.lt, fun i hi j hj => ?_⟩, fun x hx => ?_⟩⟩
  · have h1 : i < 1 := hi
    have hi0 : i = 0 := by omega
    subst hi0
    match j, hj with
    | 0, _ => exact hb.cells 0
    | 1, _ => exact hb.cells 1
    | 2, _ => exact hb.cells 2
    | 3, _ => exact hb.cells 3
    | 4, _ => exact hb.cells 4
  · obtain rfl := List.mem_singleton.1 hx
    exact (hr.keep hbl).more (Nat.le_refl _) hbl.size
theorem vals_one_at (w : World) {g : Nat} (h : g = w.heap.size) (v : Vl) (s t d : Int) (al : Bool) : BkR.Ok (w.alloc (.cells #[.int .u8 v.k, .int .i64 v.n, .int .i64 v.b, .int .i64 v.t] 29)) 0 (w.alloc (.cells #[.int .u8 v.k, .int .i64 v.n, .int .i64 v.b, .int .i64 v.t] 29)).heap.size ⟨s, t, d, al, some ⟨g, 0, none⟩, 1, [v]⟩ := by
  have hb := Blk.newAt h 29 #[.int .u8 v.k, .int .i64 v.n, .int .i64 v.b, .int .i64 v.t]
  refine ⟨⟨Nat.le_refl _, show 1 ≤ maxLen by unfold maxLen; decide, fun h => by cases h⟩, fun hn => ⟨g, 0, rfl, Nat.zero_le _, hb.lt, fun i hi j hj => ?_⟩⟩
  have h1 : i < 1 := hi
  have hi0 : i = 0 := by omega
  subst hi0
  match j, hj with
  | 0, _ => exact hb.cells 0
  | 1, _ => exact hb.cells 1
  | 2, _ => exact hb.cells 2
  | 3, _ => exact hb.cells 3
theorem row_empty (w : World) (s t d : Int) (al : Bool) : BkR.Ok w 0 w.heap.size ⟨s, t, d, al, none, 0, []⟩ := ⟨⟨Nat.le_refl _, Nat.zero_le _, fun _ => ⟨rfl, rfl⟩⟩, CellsAt.empty⟩
def nmM : List Bk := [⟨3, 4, 1, true, [⟨2, 0, 0, 0⟩, ⟨3, 0, 0, 0⟩]⟩]
def nmX : List Bk := [⟨3, 4, 1, true, [⟨2, 0, 1, 0⟩, ⟨3, 0, 0, 0⟩]⟩]
def nmY : List Bk := [⟨3, 4, 1, false, [⟨2, 0, 1, 0⟩, ⟨3, 0, 0, 0⟩]⟩]
set_option maxRecDepth 100000 in
set_option maxHeartbeats 6400000 in
theorem walk_MemNames (w : World) : Calls Try.prog 10 #[] w fun e w' => e = .returned (.bool true) ∧ Below w.heap.size w w' := by
  have HQ0 := Lib.hid (Below.refl w.heap.size w)
  have hq4 := eqValA
  go_enter Try.func10, Try.ntmps10
  have hki := kinds_two w (g := w.heap.size) rfl 2 3
  have hb : Below w.heap.size w (w.alloc (.cells #[.int .u8 2, .int .u8 3] 5)) := (Below.refl _ _).alloc (Nat.le_refl _) _
  have HQ1 := Lib.hid (HQ0.out.trans (hb.mono HQ0.out.size))
  clear hb
  go_wp2_with fail
  refine (pnew_any (MemFew.nil _) hki (l := [2, 3]) (by decide) 3 4 1 (e0 := 0) (m0 := nmM) (p0 := ⟨2, 0, 1, 0⟩) rfl rfl rfl).mono ?_
  rintro e w1 ⟨vm, rm, rfl, ho, hm, hb⟩
  clear hki
  obtain ⟨Am, cm, rfl, ho2⟩ := ho.own
  clear ho
  have HQ2 := Lib.hid (HQ1.out.trans (hb.mono HQ1.out.size))
  clear hb
  have HM_2 := Lib.hid (MemFew.ofOwn ho2 hm (FewB.small (m := nmM) (by rfl)))
  have EM := Lib.hid hm
  clear ho2 hm
  have hb : Below w1.heap.size w1 (w1.alloc (.cells #[.int .u8 2, .int .i64 0, .int .i64 1, .int .i64 0] 29)) := (Below.refl _ _).alloc (Nat.le_refl _) _
  have HM_3 := Lib.hid (HM_2.out.on hb)
  have HQ3 := Lib.hid (HQ2.out.trans (hb.mono HQ2.out.size))
  clear hb
  have KP_3 := Lib.hid (Blk.new w1 29 #[.int .u8 2, .int .i64 0, .int .i64 1, .int .i64 0])
  have hb : Below (w1.alloc (.cells #[.int .u8 2, .int .i64 0, .int .i64 1, .int .i64 0] 29)).heap.size (w1.alloc (.cells #[.int .u8 2, .int .i64 0, .int .i64 1, .int .i64 0] 29)) ((w1.alloc (.cells #[.int .u8 2, .int .i64 0, .int .i64 1, .int .i64 0] 29)).alloc (.cells #[.int .u8 2, .int .i64 0, .int .i64 0, .int .i64 0] 29)) := (Below.refl _ _).alloc (Nat.le_refl _) _
  have HM_4 := Lib.hid (HM_3.out.on hb)
  have KP_4 := Lib.hid (KP_3.out.beneath hb)
  have HQ4 := Lib.hid (HQ3.out.trans (hb.mono HQ3.out.size))
  clear hb
  have KN_4 := Lib.hid (Blk.newAt (w := (w1.alloc (.cells #[.int .u8 2, .int .i64 0, .int .i64 1, .int .i64 0] 29))) (g := w1.heap.size + 1) (by simp) 29 #[.int .u8 2, .int .i64 0, .int .i64 0, .int .i64 0])
  have kn0 := KN_4.out.cells 0
  have kn1 := KN_4.out.cells 1
  have kn2 := KN_4.out.cells 2
  have kn3 := KN_4.out.cells 3
  go_wp2_with fail
  refine (pload_any HM_4.out.mem ⟨2, 0, 0, 0⟩ (e0 := 140) (v0 := ⟨0, 0, 0, 0⟩) (by rw [EM.out]; rfl) (by rw [EM.out]; rfl)).mono ?_
  rintro e w2 ⟨rfl, hb⟩
  have HM_5 := Lib.hid (HM_4.out.on hb)
  have KP_5 := Lib.hid (KP_4.out.beneath hb)
  have KN_5 := Lib.hid (KN_4.out.beneath hb)
  have HQ5 := Lib.hid (HQ4.out.trans (hb.mono HQ4.out.size))
  clear hb
  have hb : Below w2.heap.size w2 (w2.alloc (.cells #[.int .u8 0, .int .i64 0, .int .i64 0, .int .i64 0] 29)) := (Below.refl _ _).alloc (Nat.le_refl _) _
  have HM_6 := Lib.hid (HM_5.out.on hb)
  have KP_6 := Lib.hid (KP_5.out.beneath hb)
  have HQ6 := Lib.hid (HQ5.out.trans (hb.mono HQ5.out.size))
  clear hb
  have KA_6 := Lib.hid (Blk.new w2 29 #[.int .u8 0, .int .i64 0, .int .i64 0, .int .i64 0])
  clear kn0 kn1 kn2 kn3
  have kp0 := KP_6.out.cells 0
  have kp1 := KP_6.out.cells 1
  have kp2 := KP_6.out.cells 2
  have kp3 := KP_6.out.cells 3
  go_wp2_with fail
  refine (pfree_any HM_6.out ⟨2, 0, 1, 0⟩ (e0 := 143) (m0 := []) (by rw [EM.out]; rfl) (by rw [EM.out]; rfl)).mono ?_
  rintro e w3 ⟨A1, c1, r1, rfl, ho, hm, hb⟩
  have HM_7 := Lib.hid (HM_6.out.on hb)
  have KP_7 := Lib.hid (KP_6.out.beneath hb)
  have HQ7 := Lib.hid (HQ6.out.trans (hb.mono HQ6.out.size))
  clear hb
  clear ho hm
  clear kp0 kp1 kp2 kp3
  have kp0 := KP_7.out.cells 0
  have kp1 := KP_7.out.cells 1
  have kp2 := KP_7.out.cells 2
  have kp3 := KP_7.out.cells 3
  go_wp2_with fail
  go_region_held3 (fun w' => w'.cell? ⟨w1.heap.size, 0, none⟩ = some (.int .u8 2) ∧ w'.cell? ⟨w1.heap.size, 1, none⟩ = some (.int .i64 0) ∧ w'.cell? ⟨w1.heap.size, 2, none⟩ = some (.int .i64 1) ∧ w'.cell? ⟨w1.heap.size, 3, none⟩ = some (.int .i64 0)) (go_keep)
    (first
      | (go_at_call 36
         refine (number_any 1 _).mono ?_
         rintro e w4 ⟨rfl, hb⟩
         have hb : Below w3.heap.size w3 w4 := (Below.refl _ _).drew.trans hb
         have HM_8 := Lib.hid (HM_7.out.on hb)
         have KP_8 := Lib.hid (KP_7.out.beneath hb)
         have HQ8 := Lib.hid (HQ7.out.trans (hb.mono HQ7.out.size))
         clear hb
         have kq0 := KP_8.out.cells 0
         have kq1 := KP_8.out.cells 1
         have kq2 := KP_8.out.cells 2
         have kq3 := KP_8.out.cells 3
         clear kp0 kp1 kp2 kp3)
      | (go_at_call 29
         refine (pstore_any HM_8.out ⟨2, 0, 1, 0⟩ ⟨1, 1, 0, 0⟩ (e0 := 2) (m0 := []) (by rw [EM.out]; rfl) (by rw [EM.out]; rfl)).mono ?_
         rintro e w5 ⟨A2, c2, r2, rfl, ho, hm, hb⟩
         have HM_9 := Lib.hid (HM_8.out.on hb)
         have KP_9 := Lib.hid (KP_8.out.beneath hb)
         have HQ9 := Lib.hid (HQ8.out.trans (hb.mono HQ8.out.size))
         clear hb ho hm
         have kr0 := KP_9.out.cells 0
         have kr1 := KP_9.out.cells 1
         have kr2 := KP_9.out.cells 2
         have kr3 := KP_9.out.cells 3
         clear kq0 kq1 kq2 kq3))
  go_wp2_with fail
  refine (pstore_any HM_9.out ⟨2, 0, 1, 0⟩ ⟨2, 0, 1, 0⟩ (e0 := 0) (m0 := nmX) (by rw [EM.out]; rfl) (by rw [EM.out]; rfl)).mono ?_
  rintro e w6 ⟨Ax, cx, rx, rfl, ho, hm, hb⟩
  have HM_10 := Lib.hid (HM_9.out.on hb)
  have KP_10 := Lib.hid (KP_9.out.beneath hb)
  have HQ10 := Lib.hid (HQ9.out.trans (hb.mono HQ9.out.size))
  clear hb
  have HX_10 := Lib.hid (MemFew.ofOwn ho hm (FewB.small (m := nmX) (by rfl)))
  have EX := Lib.hid hm
  clear ho hm
  clear kr0 kr1 kr2 kr3
  have kp0 := KP_10.out.cells 0
  have kp1 := KP_10.out.cells 1
  have kp2 := KP_10.out.cells 2
  have kp3 := KP_10.out.cells 3
  go_wp2_with fail
  refine (pmove_any HM_10.out.mem ⟨2, 0, 1, 0⟩ 1 (e0 := 0) (v0 := ⟨2, 0, 1, 1⟩) (by rw [EM.out]; rfl) (by rw [EM.out]; rfl)).mono ?_
  rintro e w7 ⟨rfl, hb⟩
  have HM_11 := Lib.hid (HM_10.out.on hb)
  have KP_11 := Lib.hid (KP_10.out.beneath hb)
  have HX_11 := Lib.hid (HX_10.out.on hb)
  have HQ11 := Lib.hid (HQ10.out.trans (hb.mono HQ10.out.size))
  clear hb
  have hb : Below w7.heap.size w7 (w7.alloc (.cells #[.int .u8 2, .int .i64 0, .int .i64 1, .int .i64 1] 29)) := (Below.refl _ _).alloc (Nat.le_refl _) _
  have HM_12 := Lib.hid (HM_11.out.on hb)
  have KP_12 := Lib.hid (KP_11.out.beneath hb)
  have HX_12 := Lib.hid (HX_11.out.on hb)
  have HQ12 := Lib.hid (HQ11.out.trans (hb.mono HQ11.out.size))
  clear hb
  have KQ_12 := Lib.hid (Blk.new w7 29 #[.int .u8 2, .int .i64 0, .int .i64 1, .int .i64 1])
  clear kp0 kp1 kp2 kp3
  have kp0 := KP_12.out.cells 0
  have kp1 := KP_12.out.cells 1
  have kp2 := KP_12.out.cells 2
  have kp3 := KP_12.out.cells 3
  go_wp2_with fail
  refine (pmove_any HM_12.out.mem ⟨2, 0, 1, 0⟩ 2 (e0 := 2) (v0 := ⟨0, 0, 0, 0⟩) (by rw [EM.out]; rfl) (by rw [EM.out]; rfl)).mono ?_
  rintro e w8 ⟨rfl, hb⟩
  have HM_13 := Lib.hid (HM_12.out.on hb)
  have KP_13 := Lib.hid (KP_12.out.beneath hb)
  have HX_13 := Lib.hid (HX_12.out.on hb)
  have KQ_13 := Lib.hid (KQ_12.out.beneath hb)
  have HQ13 := Lib.hid (HQ12.out.trans (hb.mono HQ12.out.size))
  clear hb
  have hb : Below w8.heap.size w8 (w8.alloc (.cells #[.int .u8 0, .int .i64 0, .int .i64 0, .int .i64 0] 29)) := (Below.refl _ _).alloc (Nat.le_refl _) _
  have HM_14 := Lib.hid (HM_13.out.on hb)
  have KP_14 := Lib.hid (KP_13.out.beneath hb)
  have HX_14 := Lib.hid (HX_13.out.on hb)
  have KQ_14 := Lib.hid (KQ_13.out.beneath hb)
  have HQ14 := Lib.hid (HQ13.out.trans (hb.mono HQ13.out.size))
  clear hb
  have KB_14 := Lib.hid (Blk.new w8 29 #[.int .u8 0, .int .i64 0, .int .i64 0, .int .i64 0])
  clear kp0 kp1 kp2 kp3
  have kq0 := KQ_14.out.cells 0
  have kq1 := KQ_14.out.cells 1
  have kq2 := KQ_14.out.cells 2
  have kq3 := KQ_14.out.cells 3
  go_wp2_with fail
  refine (pmove_any HM_14.out.mem ⟨2, 0, 1, 1⟩ (-2) (e0 := 2) (v0 := ⟨0, 0, 0, 0⟩) (by rw [EM.out]; rfl) (by rw [EM.out]; rfl)).mono ?_
  rintro e w9 ⟨rfl, hb⟩
  have HM_15 := Lib.hid (HM_14.out.on hb)
  have KP_15 := Lib.hid (KP_14.out.beneath hb)
  have HX_15 := Lib.hid (HX_14.out.on hb)
  have KQ_15 := Lib.hid (KQ_14.out.beneath hb)
  have HQ15 := Lib.hid (HQ14.out.trans (hb.mono HQ14.out.size))
  clear hb
  have hb : Below w9.heap.size w9 (w9.alloc (.cells #[.int .u8 0, .int .i64 0, .int .i64 0, .int .i64 0] 29)) := (Below.refl _ _).alloc (Nat.le_refl _) _
  have HM_16 := Lib.hid (HM_15.out.on hb)
  have KP_16 := Lib.hid (KP_15.out.beneath hb)
  have HX_16 := Lib.hid (HX_15.out.on hb)
  have KQ_16 := Lib.hid (KQ_15.out.beneath hb)
  have HQ16 := Lib.hid (HQ15.out.trans (hb.mono HQ15.out.size))
  clear hb
  have KC_16 := Lib.hid (Blk.new w9 29 #[.int .u8 0, .int .i64 0, .int .i64 0, .int .i64 0])
  clear kq0 kq1 kq2 kq3
  go_wp2_with fail
  refine (ppop_any HX_16.out 1 (e0 := 0) (m0 := nmY) (by rw [EX.out]; rfl) (by rw [EX.out]; rfl)).mono ?_
  rintro e w10 ⟨Ay, cy, ry, rfl, ho, hm, hb⟩
  have HM_17 := Lib.hid (HM_16.out.on hb)
  have KP_17 := Lib.hid (KP_16.out.beneath hb)
  have HX_17 := Lib.hid (HX_16.out.on hb)
  have KQ_17 := Lib.hid (KQ_16.out.beneath hb)
  have HQ17 := Lib.hid (HQ16.out.trans (hb.mono HQ16.out.size))
  clear hb
  have HY_17 := Lib.hid (MemFew.ofOwn ho hm (FewB.small (m := nmY) (by rfl)))
  have EY := Lib.hid hm
  clear ho hm
  have kq0 := KQ_17.out.cells 0
  have kq1 := KQ_17.out.cells 1
  have kq2 := KQ_17.out.cells 2
  have kq3 := KQ_17.out.cells 3
  go_wp2_with fail
  refine (pload_any HY_17.out.mem ⟨2, 0, 1, 1⟩ (e0 := 142) (v0 := ⟨0, 0, 0, 0⟩) (by rw [EY.out]; rfl) (by rw [EY.out]; rfl)).mono ?_
  rintro e w11 ⟨rfl, hb⟩
  have HM_18 := Lib.hid (HM_17.out.on hb)
  have KP_18 := Lib.hid (KP_17.out.beneath hb)
  have HX_18 := Lib.hid (HX_17.out.on hb)
  have KQ_18 := Lib.hid (KQ_17.out.beneath hb)
  have HY_18 := Lib.hid (HY_17.out.on hb)
  have HQ18 := Lib.hid (HQ17.out.trans (hb.mono HQ17.out.size))
  clear hb
  have hb : Below w11.heap.size w11 (w11.alloc (.cells #[.int .u8 0, .int .i64 0, .int .i64 0, .int .i64 0] 29)) := (Below.refl _ _).alloc (Nat.le_refl _) _
  have HM_19 := Lib.hid (HM_18.out.on hb)
  have KP_19 := Lib.hid (KP_18.out.beneath hb)
  have HX_19 := Lib.hid (HX_18.out.on hb)
  have KQ_19 := Lib.hid (KQ_18.out.beneath hb)
  have HQ19 := Lib.hid (HQ18.out.trans (hb.mono HQ18.out.size))
  clear hb
  have KD_19 := Lib.hid (Blk.new w11 29 #[.int .u8 0, .int .i64 0, .int .i64 0, .int .i64 0])
  clear kq0 kq1 kq2 kq3
  go_wp2_with fail
  refine (number_any 0 _).mono ?_
  rintro e w12 ⟨rfl, hb⟩
  have HM_20 := Lib.hid (HM_19.out.on hb)
  have KP_20 := Lib.hid (KP_19.out.beneath hb)
  have HX_20 := Lib.hid (HX_19.out.on hb)
  have KQ_20 := Lib.hid (KQ_19.out.beneath hb)
  have HQ20 := Lib.hid (HQ19.out.trans (hb.mono HQ19.out.size))
  clear hb
  go_wp2_with fail
  refine (pload_any HM_20.out.mem ⟨1, 0, 0, 0⟩ (e0 := 2) (v0 := ⟨0, 0, 0, 0⟩) (by rw [EM.out]; rfl) (by rw [EM.out]; rfl)).mono ?_
  rintro e w13 ⟨rfl, hb⟩
  have HM_21 := Lib.hid (HM_20.out.on hb)
  have KP_21 := Lib.hid (KP_20.out.beneath hb)
  have HX_21 := Lib.hid (HX_20.out.on hb)
  have KQ_21 := Lib.hid (KQ_20.out.beneath hb)
  have HQ21 := Lib.hid (HQ20.out.trans (hb.mono HQ20.out.size))
  clear hb
  have hb : Below w13.heap.size w13 (w13.alloc (.cells #[.int .u8 0, .int .i64 0, .int .i64 0, .int .i64 0] 29)) := (Below.refl _ _).alloc (Nat.le_refl _) _
  have HM_22 := Lib.hid (HM_21.out.on hb)
  have KP_22 := Lib.hid (KP_21.out.beneath hb)
  have HX_22 := Lib.hid (HX_21.out.on hb)
  have KQ_22 := Lib.hid (KQ_21.out.beneath hb)
  have HQ22 := Lib.hid (HQ21.out.trans (hb.mono HQ21.out.size))
  clear hb
  have KE_22 := Lib.hid (Blk.new w13 29 #[.int .u8 0, .int .i64 0, .int .i64 0, .int .i64 0])
  go_wp2_with fail
  refine (ppop_any HM_22.out 0 (e0 := 2) (m0 := []) (by rw [EM.out]; rfl) (by rw [EM.out]; rfl)).mono ?_
  rintro e w14 ⟨A3, c3, r3, rfl, ho, hm, hb⟩
  have HM_23 := Lib.hid (HM_22.out.on hb)
  have KP_23 := Lib.hid (KP_22.out.beneath hb)
  have HX_23 := Lib.hid (HX_22.out.on hb)
  have KQ_23 := Lib.hid (KQ_22.out.beneath hb)
  have HQ23 := Lib.hid (HQ22.out.trans (hb.mono HQ22.out.size))
  clear hb
  clear ho hm
  have hki := kinds_oneAt w14 (g := w14.heap.size) (by first | rfl | simp) 4
  have hb : Below w14.heap.size w14 (w14.alloc (.cells #[.int .u8 4] 5)) := (Below.refl _ _).alloc (Nat.le_refl _) _
  have HM_24 := Lib.hid (HM_23.out.on hb)
  have KP_24 := Lib.hid (KP_23.out.beneath hb)
  have HX_24 := Lib.hid (HX_23.out.on hb)
  have KQ_24 := Lib.hid (KQ_23.out.beneath hb)
  have HQ24 := Lib.hid (HQ23.out.trans (hb.mono HQ23.out.size))
  clear hb
  go_wp2_with fail
  refine (pnew_any HM_24.out hki (l := [4]) (by decide) 0 0 0 (e0 := 2) (m0 := []) (p0 := ⟨0, 0, 0, 0⟩) (by rw [EM.out]; rfl) (by rw [EM.out]; rfl) (by rw [EM.out]; rfl)).mono ?_
  rintro e w15 ⟨v4, r4, rfl, ho, hm, hb⟩
  clear hki
  have HM_25 := Lib.hid (HM_24.out.on hb)
  have KP_25 := Lib.hid (KP_24.out.beneath hb)
  have HX_25 := Lib.hid (HX_24.out.on hb)
  have KQ_25 := Lib.hid (KQ_24.out.beneath hb)
  have HQ25 := Lib.hid (HQ24.out.trans (hb.mono HQ24.out.size))
  clear hb
  clear ho hm
  have hb : Below w15.heap.size w15 (w15.alloc (.cells #[.int .u8 0, .int .i64 0, .int .i64 0, .int .i64 0] 29)) := (Below.refl _ _).alloc (Nat.le_refl _) _
  have HM_26 := Lib.hid (HM_25.out.on hb)
  have KP_26 := Lib.hid (KP_25.out.beneath hb)
  have HX_26 := Lib.hid (HX_25.out.on hb)
  have KQ_26 := Lib.hid (KQ_25.out.beneath hb)
  have HQ26 := Lib.hid (HQ25.out.trans (hb.mono HQ25.out.size))
  clear hb
  have KF_26 := Lib.hid (Blk.new w15 29 #[.int .u8 0, .int .i64 0, .int .i64 0, .int .i64 0])
  go_wp2_with fail
  refine (pnew_any HM_26.out (kinds_none _) (l := []) (by decide) 0 0 0 (e0 := 2) (m0 := []) (p0 := ⟨0, 0, 0, 0⟩) (by rw [EM.out]; rfl) (by rw [EM.out]; rfl) (by rw [EM.out]; rfl)).mono ?_
  rintro e w16 ⟨v5, r5, rfl, ho, hm, hb⟩
  have HM_27 := Lib.hid (HM_26.out.on hb)
  have KP_27 := Lib.hid (KP_26.out.beneath hb)
  have HX_27 := Lib.hid (HX_26.out.on hb)
  have KQ_27 := Lib.hid (KQ_26.out.beneath hb)
  have HQ27 := Lib.hid (HQ26.out.trans (hb.mono HQ26.out.size))
  clear hb
  clear ho hm
  have hb : Below w16.heap.size w16 (w16.alloc (.cells #[.int .u8 0, .int .i64 0, .int .i64 0, .int .i64 0] 29)) := (Below.refl _ _).alloc (Nat.le_refl _) _
  have HM_28 := Lib.hid (HM_27.out.on hb)
  have KP_28 := Lib.hid (KP_27.out.beneath hb)
  have HX_28 := Lib.hid (HX_27.out.on hb)
  have KQ_28 := Lib.hid (KQ_27.out.beneath hb)
  have HQ28 := Lib.hid (HQ27.out.trans (hb.mono HQ27.out.size))
  clear hb
  have KG_28 := Lib.hid (Blk.new w16 29 #[.int .u8 0, .int .i64 0, .int .i64 0, .int .i64 0])
  have hc := pholds_any HX_28.out.mem
  rw [EX.out, show holdsM nmX = true from rfl, show checkM nmX = 0 from rfl] at hc
  go_wp2_with fail
  refine (hc).mono ?_
  rintro e w17 ⟨rfl, hb⟩
  clear hc
  have HM_29 := Lib.hid (HM_28.out.on hb)
  have KP_29 := Lib.hid (KP_28.out.beneath hb)
  have HX_29 := Lib.hid (HX_28.out.on hb)
  have KQ_29 := Lib.hid (KQ_28.out.beneath hb)
  have HQ29 := Lib.hid (HQ28.out.trans (hb.mono HQ28.out.size))
  clear hb
  have kp0 := KP_29.out.cells 0
  have kp1 := KP_29.out.cells 1
  have kp2 := KP_29.out.cells 2
  have kp3 := KP_29.out.cells 3
  have kq0 := KQ_29.out.cells 0
  have kq1 := KQ_29.out.cells 1
  have kq2 := KQ_29.out.cells 2
  have kq3 := KQ_29.out.cells 3
  go_wp2_with fail
  refine (alive_any _).mono ?_
  rintro e w18 ⟨rfl, hb⟩
  have HM_30 := Lib.hid (HM_29.out.on hb)
  have KP_30 := Lib.hid (KP_29.out.beneath hb)
  have HX_30 := Lib.hid (HX_29.out.on hb)
  have KQ_30 := Lib.hid (KQ_29.out.beneath hb)
  have HQ30 := Lib.hid (HQ29.out.trans (hb.mono HQ29.out.size))
  clear hb
  clear kp0 kp1 kp2 kp3 kq0 kq1 kq2 kq3
  have hme := mem_one w18 rfl ⟨0, 0, 0, false, none, 0, []⟩ (row_empty _ 0 0 0 false)
  have hb : Below w18.heap.size w18 (w18.alloc (.cells #[.int .i64 0, .int .i64 0, .int .i64 0, .bool false, .slice none 0 0] 70)) := (Below.refl _ _).alloc (Nat.le_refl _) _
  have HQ31 := Lib.hid (HQ30.out.trans (hb.mono HQ30.out.size))
  clear hb
  go_wp2_with fail
  refine (pcheckm_is hme (e0 := 8) rfl).mono ?_
  rintro e w19 ⟨rfl, hb⟩
  clear hme
  have HQ32 := Lib.hid (HQ31.out.trans (hb.mono HQ31.out.size))
  clear hb
  have hro := vals_one_at w19 rfl ⟨2, 0, 2, 0⟩ 0 0 0 false
  have hb : Below w19.heap.size w19 (w19.alloc (.cells #[.int .u8 2, .int .i64 0, .int .i64 2, .int .i64 0] 29)) := (Below.refl _ _).alloc (Nat.le_refl _) _
  have HQ33 := Lib.hid (HQ32.out.trans (hb.mono HQ32.out.size))
  clear hb
  have hme := mem_one (w19.alloc (.cells #[.int .u8 2, .int .i64 0, .int .i64 2, .int .i64 0] 29)) (g := w19.heap.size + 1) (by simp) ⟨0, 0, 0, false, some ⟨w19.heap.size, 0, none⟩, 1, [⟨2, 0, 2, 0⟩]⟩ hro
  have hb : Below (w19.alloc (.cells #[.int .u8 2, .int .i64 0, .int .i64 2, .int .i64 0] 29)).heap.size (w19.alloc (.cells #[.int .u8 2, .int .i64 0, .int .i64 2, .int .i64 0] 29)) ((w19.alloc (.cells #[.int .u8 2, .int .i64 0, .int .i64 2, .int .i64 0] 29)).alloc (.cells #[.int .i64 0, .int .i64 0, .int .i64 0, .bool false, .slice (some ⟨w19.heap.size, 0, none⟩) 1 1] 70)) := (Below.refl _ _).alloc (Nat.le_refl _) _
  have HQ34 := Lib.hid (HQ33.out.trans (hb.mono HQ33.out.size))
  clear hb
  go_wp2_with fail
  refine (pcheckm_is hme (e0 := 8) rfl).mono ?_
  rintro e w20 ⟨rfl, hb⟩
  clear hme hro
  have HQ35 := Lib.hid (HQ34.out.trans (hb.mono HQ34.out.size))
  clear hb
  go_wp2_with fail
  go_ret
  exact ⟨rfl, HQ35.out⟩
end Go.Proofs.Ythddacnnhmcoaaa
