/-
  The program's word for shapes: may an instruction be: its walk, part 2.
-/
import Derived.Test.YtbffebcjimhapaaGreatDoorMg31
namespace Go.Proofs.YtbffebcjimhapaaGreatDoor
set_option linter.unusedVariables false
set_option linter.unusedSimpArgs false
open Go.ChangeShapes Go.WideShapes Go.ChangeAt Go.RowKit
set_option maxRecDepth 100000 in
set_option maxHeartbeats 3200000 in
theorem pins_g3 {w : World} (x : InR) (g0 : hasT x.op 0 = true) (g1 : hasT x.op 1 = false) (g2 : hasT x.op 2 = false) (hx : x.Ok w) (hal : x.args.length ≤ 1000) (hfl : x.from_.length ≤ 1000) (t f r b : Int) (ht : TabW w) {z : Bool} (hz : insB x.data t f r b = z) :
    Calls Tryz.prog 91 #[x.val, szV t f r b] w fun e w' => e = .returned (.bool z) ∧ Below w.heap.size w w' := by
 have hop := hx.op
 have HX := Lib.hid hx
 obtain ⟨nu, hnu⟩ : ∃ v, numB x.data f = v := ⟨_, rfl⟩
 have HNU := Lib.hid (fun w => pnumber_any x t f r b w hnu)
 have HT := Lib.hid ht
 have hf0 := has_facts x.op
 have hsp := pins_split x.data t f r b (Has.mk' x.op)
 have hh := Has.mk' x.op
 rw [hz] at hsp
 generalize hasT x.op 0 = b0 at hf0 hsp hh g0
 generalize hasT x.op 1 = b1 at hf0 hsp hh g1
 generalize hasT x.op 2 = b2 at hf0 hsp hh g2
 generalize hasT x.op 3 = b3 at hf0 hsp hh
 generalize hasT x.op 4 = b4 at hf0 hsp hh
 generalize hasT x.op 5 = b5 at hf0 hsp hh
 unfold InR.val szV at *
 obtain ⟨op, ty, a, bb, n, aa, ac, args, xa, xc, from_⟩ := x
 unfold InR.data at hsp hnu
 dsimp only at *
 rw [hnu] at hsp
 obtain ⟨la, hla⟩ : ∃ v, args.length = v := ⟨_, rfl⟩
 obtain ⟨lf, hlf⟩ : ∃ v, from_.length = v := ⟨_, rfl⟩
 have HLA := Lib.hid hla
 have HLF := Lib.hid hlf
 rw [hla] at hal hsp HNU ⊢
 rw [hlf] at hfl hsp HNU ⊢
 clear hla hlf
 subst g0
 subst g1
 subst g2
 have HK := Lib.hid hf0.1
 have HH := Lib.hid hh
 obtain ⟨o, ho⟩ : ∃ v, (true || (false || (false || (b3 || (b4 || b5))))) = v := ⟨_, rfl⟩
 obtain ⟨ia, hia⟩ : ∃ v, inB a r = v := ⟨_, rfl⟩
 obtain ⟨ib, hib⟩ : ∃ v, inB bb r = v := ⟨_, rfl⟩
 obtain ⟨al, hal2⟩ : ∃ v, allB args r = v := ⟨_, rfl⟩
 rw [ho, hia, hib, hal2] at hsp
 obtain ⟨sv1, hs1⟩ : ∃ v, (o && ((!true || ia) && ((!false || ib) && (al && nu)))) = v := ⟨_, rfl⟩
 obtain ⟨q2, hq2⟩ : ∃ v, zero5 true false false b3 b4 a bb n la lf = v := ⟨_, rfl⟩
 obtain ⟨q3, hq3⟩ : ∃ v, typeB b5 ty t = v := ⟨_, rfl⟩
 rw [hs1, hq2, hq3] at hsp
 have HS1 := Lib.hid hs1
 have HQ2 := Lib.hid hq2
 have HQ3 := Lib.hid hq3
 have HR := Lib.hid hsp
 have hEQ := fun w => eqHasT (b0 := true) (b1 := false) (b2 := false) (b3 := b3) (b4 := b4) (b5 := b5) (o := o) ho w
 have HEQ := Lib.hid hEQ
 have HA := Lib.hid hia
 have HB := Lib.hid hib
 have HG := Lib.hid hal2
 clear hx ht hz hsp hnu hf0 hh ho hia hib hal2 hs1 hq2 hq3 hEQ
 have hopz : (op : Int) ≤ 255 := by omega
 have hal3 : (la : Int) ≤ 1000 := by omega
 have hfl3 : (lf : Int) ≤ 1000 := by omega
 clear hal hfl
 have HB2 := Lib.hid (below2 w (.cells #[.int .u8 op, .int .i64 ty, .int .i64 a, .int .i64 bb, .int .i64 n, .slice aa la ac, .slice xa lf xc] 74) (.cells #[.int .i64 t, .int .i64 f, .int .i64 r, .int .i64 b] 148))
 have HX0 := Lib.hid ((Blk.new w 74 #[.int .u8 op, .int .i64 ty, .int .i64 a, .int .i64 bb, .int .i64 n, .slice aa la ac, .slice xa lf xc]).alloc (.cells #[.int .i64 t, .int .i64 f, .int .i64 r, .int .i64 b] 148))
 have HS0 := Lib.hid (Blk.new2 w (.cells #[.int .u8 op, .int .i64 ty, .int .i64 a, .int .i64 bb, .int .i64 n, .slice aa la ac, .slice xa lf xc] 74) 148 #[.int .i64 t, .int .i64 f, .int .i64 r, .int .i64 b])
 have x0 := HX0.out.cells 0
 go_enter Tryz.func91, Tryz.ntmps91
 go_wp2_with fail
 refine (of_is HH.out (by omega) _ (HT.out.on HB2.out)).mono ?_
 rintro e w1 ⟨rfl, hb1⟩
 clear x0
 have hX1 := HX0.out.beneath hb1
 have hS1 := HS0.out.beneath hb1
 have hB1 := HB2.out.trans (hb1.mono HB2.out.size)
 have HW1 := Lib.hid (show Box3 w (w1.alloc (.cells #[.bool true, .bool false, .bool false, .bool b3, .bool b4, .bool b5] 173)) w.heap.size (w.heap.size + 1) w1.heap.size #[.int .u8 op, .int .i64 ty, .int .i64 a, .int .i64 bb, .int .i64 n, .slice aa la ac, .slice xa lf xc] #[.int .i64 t, .int .i64 f, .int .i64 r, .int .i64 b] #[.bool true, .bool false, .bool false, .bool b3, .bool b4, .bool b5] from ⟨hX1.alloc _, hS1.alloc _, Blk.new _ _ _, hB1.alloc hB1.size _⟩)
 clear hX1 hS1 hB1 hb1 HX0 HS0 HB2
 go_upto_region 2 with fail
 go_cut [51] (fun c wx => c = .bool (!sv1) ∧ Hid (Box3 w wx w.heap.size (w.heap.size + 1) w1.heap.size #[.int .u8 op, .int .i64 ty, .int .i64 a, .int .i64 bb, .int .i64 n, .slice aa la ac, .slice xa lf xc] #[.int .i64 t, .int .i64 f, .int .i64 r, .int .i64 b] #[.bool true, .bool false, .bool false, .bool b3, .bool b4, .bool b5]))
 case first =>
  have x0 := HW1.out.x.cells 0
  have x1 := HW1.out.x.cells 1
  have x2 := HW1.out.x.cells 2
  have x3 := HW1.out.x.cells 3
  have x4 := HW1.out.x.cells 4
  have x5 := HW1.out.x.cells 5
  have x6 := HW1.out.x.cells 6
  have s0 := HW1.out.s.cells 0
  have s1 := HW1.out.s.cells 1
  have s2 := HW1.out.s.cells 2
  have s3 := HW1.out.s.cells 3
  have h0 := HW1.out.h.cells 0
  have h1 := HW1.out.h.cells 1
  have h2 := HW1.out.h.cells 2
  have h3 := HW1.out.h.cells 3
  have h4 := HW1.out.h.cells 4
  have h5 := HW1.out.h.cells 5
  have hEQ := HEQ.out
  cases o with
  | false =>
    have hv : sv1 = false := by rw [← HS1.out]; simp
    subst hv
    go_wp2_with fail
    go_meet
    exact ⟨rfl, HW1⟩
  | true =>
    cases ia with
    | false =>
      go_wp2_with fail
      refine (pbelow_is HA.out _).mono ?_
      rintro e w9 ⟨rfl, rfl⟩
      have hv : sv1 = false := by rw [← HS1.out]; simp
      subst hv
      go_wp2_with fail
      go_meet
      exact ⟨rfl, HW1⟩
    | true =>
      go_wp2_with fail
      refine (pbelow_is HA.out _).mono ?_
      rintro e w9 ⟨rfl, rfl⟩
      cases al with
      | false =>
        go_wp2_with fail
        refine (pall_is HX.out.ahdr (HX.out.args.up HW1.out.below) HLA.out r HG.out).mono ?_
        rintro e w2 ⟨rfl, hb2⟩
        have HW2 := Lib.hid (HW1.out.on hb2)
        clear hb2
        clear x0 x1 x2 x3 x4 x5 x6 s0 s1 s2 s3 h0 h1 h2 h3 h4 h5
        have x0 := HW2.out.x.cells 0
        have x1 := HW2.out.x.cells 1
        have x2 := HW2.out.x.cells 2
        have x3 := HW2.out.x.cells 3
        have x4 := HW2.out.x.cells 4
        have x5 := HW2.out.x.cells 5
        have x6 := HW2.out.x.cells 6
        have s0 := HW2.out.s.cells 0
        have s1 := HW2.out.s.cells 1
        have s2 := HW2.out.s.cells 2
        have s3 := HW2.out.s.cells 3
        have h0 := HW2.out.h.cells 0
        have h1 := HW2.out.h.cells 1
        have h2 := HW2.out.h.cells 2
        have h3 := HW2.out.h.cells 3
        have h4 := HW2.out.h.cells 4
        have h5 := HW2.out.h.cells 5
        have hv : sv1 = false := by rw [← HS1.out]; simp
        subst hv
        go_wp2_with fail
        go_meet
        exact ⟨rfl, HW2⟩
      | true =>
        go_wp2_with fail
        refine (pall_is HX.out.ahdr (HX.out.args.up HW1.out.below) HLA.out r HG.out).mono ?_
        rintro e w2 ⟨rfl, hb2⟩
        have HW2 := Lib.hid (HW1.out.on hb2)
        clear hb2
        clear x0 x1 x2 x3 x4 x5 x6 s0 s1 s2 s3 h0 h1 h2 h3 h4 h5
        have x0 := HW2.out.x.cells 0
        have x1 := HW2.out.x.cells 1
        have x2 := HW2.out.x.cells 2
        have x3 := HW2.out.x.cells 3
        have x4 := HW2.out.x.cells 4
        have x5 := HW2.out.x.cells 5
        have x6 := HW2.out.x.cells 6
        have s0 := HW2.out.s.cells 0
        have s1 := HW2.out.s.cells 1
        have s2 := HW2.out.s.cells 2
        have s3 := HW2.out.s.cells 3
        have h0 := HW2.out.h.cells 0
        have h1 := HW2.out.h.cells 1
        have h2 := HW2.out.h.cells 2
        have h3 := HW2.out.h.cells 3
        have h4 := HW2.out.h.cells 4
        have h5 := HW2.out.h.cells 5
        go_wp2_with fail
        refine (HNU.out _).mono ?_
        rintro e w3 ⟨rfl, hb3⟩
        have HW3 := Lib.hid (HW2.out.on hb3)
        clear hb3
        clear x0 x1 x2 x3 x4 x5 x6 s0 s1 s2 s3 h0 h1 h2 h3 h4 h5
        have x0 := HW3.out.x.cells 0
        have x1 := HW3.out.x.cells 1
        have x2 := HW3.out.x.cells 2
        have x3 := HW3.out.x.cells 3
        have x4 := HW3.out.x.cells 4
        have x5 := HW3.out.x.cells 5
        have x6 := HW3.out.x.cells 6
        have s0 := HW3.out.s.cells 0
        have s1 := HW3.out.s.cells 1
        have s2 := HW3.out.s.cells 2
        have s3 := HW3.out.s.cells 3
        have h0 := HW3.out.h.cells 0
        have h1 := HW3.out.h.cells 1
        have h2 := HW3.out.h.cells 2
        have h3 := HW3.out.h.cells 3
        have h4 := HW3.out.h.cells 4
        have h5 := HW3.out.h.cells 5
        have hv : sv1 = nu := by rw [← HS1.out]; simp
        subst hv
        go_wp2_with fail
        go_meet
        exact ⟨rfl, HW3⟩
 case rest =>
  clear HW1 HS1 HEQ
  obtain ⟨rfl, HW2⟩ := hcut
  cases sv1 with
  | false =>
    have HZ : Hid (z = false) := Lib.hid (by rw [HR.out]; rfl)
    go_wp2_with fail
    go_ret
    exact ⟨ret_bool HZ.out.symm, HW2.out.below⟩
  | true =>
    go_upto_region 4 with fail
    go_cut [6] (fun c wx => c = .bool (!q2) ∧ Hid (Box3 w wx w.heap.size (w.heap.size + 1) w1.heap.size #[.int .u8 op, .int .i64 ty, .int .i64 a, .int .i64 bb, .int .i64 n, .slice aa la ac, .slice xa lf xc] #[.int .i64 t, .int .i64 f, .int .i64 r, .int .i64 b] #[.bool true, .bool false, .bool false, .bool b3, .bool b4, .bool b5]))
    case first =>
     have x0 := HW2.out.x.cells 0
     have x1 := HW2.out.x.cells 1
     have x2 := HW2.out.x.cells 2
     have x3 := HW2.out.x.cells 3
     have x4 := HW2.out.x.cells 4
     have x5 := HW2.out.x.cells 5
     have x6 := HW2.out.x.cells 6
     have s0 := HW2.out.s.cells 0
     have s1 := HW2.out.s.cells 1
     have s2 := HW2.out.s.cells 2
     have s3 := HW2.out.s.cells 3
     have h0 := HW2.out.h.cells 0
     have h1 := HW2.out.h.cells 1
     have h2 := HW2.out.h.cells 2
     have h3 := HW2.out.h.cells 3
     have h4 := HW2.out.h.cells 4
     have h5 := HW2.out.h.cells 5
     by_cases z1 : bb = 0
     · obtain rfl := z1
       by_cases z2 : n = 0
       · obtain rfl := z2
         cases b3 with
         | true =>
           cases b4 with
           | true =>
             exact absurd HK.out (by simp [okHas])
           | false =>
             by_cases z4 : lf = 0
             · obtain rfl := z4
               have hv : q2 = true := by rw [← HQ2.out]; simp [zero5, *]
               skip
               subst hv
               go_wp2_with fail
               go_meet
               exact ⟨by first | rfl | exact congrArg Value.bool (decide_eq_false (by omega)), HW2⟩
             · have ez4 : 0 < (lf : Int) := by omega
               have hv : q2 = false := by rw [← HQ2.out]; simp [zero5, *]
               clear z4
               subst hv
               go_wp2_with fail
               go_meet
               exact ⟨by first | rfl | exact congrArg Value.bool (decide_eq_true (by omega)), HW2⟩
         | false =>
           by_cases z3 : la = 0
           · obtain rfl := z3
             cases b4 with
             | true =>
               exact absurd HK.out (by simp [okHas])
             | false =>
               by_cases z4 : lf = 0
               · obtain rfl := z4
                 have hv : q2 = true := by rw [← HQ2.out]; simp [zero5, *]
                 skip
                 subst hv
                 go_wp2_with fail
                 go_meet
                 exact ⟨by first | rfl | exact congrArg Value.bool (decide_eq_false (by omega)), HW2⟩
               · have ez4 : 0 < (lf : Int) := by omega
                 have hv : q2 = false := by rw [← HQ2.out]; simp [zero5, *]
                 clear z4
                 subst hv
                 go_wp2_with fail
                 go_meet
                 exact ⟨by first | rfl | exact congrArg Value.bool (decide_eq_true (by omega)), HW2⟩
           · have ez3 : 0 < (la : Int) := by omega
             have hv : q2 = false := by rw [← HQ2.out]; simp [zero5, *]
             clear z3
             subst hv
             go_wp2_with fail
             go_meet
             exact ⟨by first | rfl | exact congrArg Value.bool (decide_eq_true (by omega)), HW2⟩
       · have ez2 : (n != 0) = true := bne_iff_ne.2 z2
         have hv : q2 = false := by rw [← HQ2.out]; simp [zero5, *]
         clear z2
         subst hv
         go_wp2_with fail
         go_meet
         exact ⟨by first | rfl | exact congrArg Value.bool (decide_eq_true (by omega)), HW2⟩
     · have ez1 : (bb != 0) = true := bne_iff_ne.2 z1
       have hv : q2 = false := by rw [← HQ2.out]; simp [zero5, *]
       clear z1
       subst hv
       go_wp2_with fail
       go_meet
       exact ⟨by first | rfl | exact congrArg Value.bool (decide_eq_true (by omega)), HW2⟩
    case rest =>
     clear HW2 HQ2
     obtain ⟨rfl, HW2⟩ := hcut
     go_upto_region 5 with fail
     go_cut [7] (fun c wx => c = .bool q3 ∧ Hid (Box3 w wx w.heap.size (w.heap.size + 1) w1.heap.size #[.int .u8 op, .int .i64 ty, .int .i64 a, .int .i64 bb, .int .i64 n, .slice aa la ac, .slice xa lf xc] #[.int .i64 t, .int .i64 f, .int .i64 r, .int .i64 b] #[.bool true, .bool false, .bool false, .bool b3, .bool b4, .bool b5]))
     case first =>
      have x0 := HW2.out.x.cells 0
      have x1 := HW2.out.x.cells 1
      have x2 := HW2.out.x.cells 2
      have x3 := HW2.out.x.cells 3
      have x4 := HW2.out.x.cells 4
      have x5 := HW2.out.x.cells 5
      have x6 := HW2.out.x.cells 6
      have s0 := HW2.out.s.cells 0
      have s1 := HW2.out.s.cells 1
      have s2 := HW2.out.s.cells 2
      have s3 := HW2.out.s.cells 3
      have h0 := HW2.out.h.cells 0
      have h1 := HW2.out.h.cells 1
      have h2 := HW2.out.h.cells 2
      have h3 := HW2.out.h.cells 3
      have h4 := HW2.out.h.cells 4
      have h5 := HW2.out.h.cells 5
      unfold typeB at HQ3
      cases b5 with
      | true =>
        have HT3 : Hid (inB ty t = q3) := Lib.hid HQ3.out
        cases q3 with
        | false =>
          go_wp2_with fail
          refine (pbelow_is HT3.out _).mono ?_
          rintro e w9 ⟨rfl, rfl⟩
          go_wp2_with fail
          go_meet
          exact ⟨rfl, HW2⟩
        | true =>
          go_wp2_with fail
          refine (pbelow_is HT3.out _).mono ?_
          rintro e w9 ⟨rfl, rfl⟩
          go_wp2_with fail
          go_meet
          exact ⟨rfl, HW2⟩
      | false =>
        have ez : (ty == 0) = q3 := by rw [← HQ3.out, Bool.eq_iff_iff]; simp
        go_wp2_with fail
        go_meet
        exact ⟨rfl, HW2⟩
     case rest =>
      clear HW2 HQ3
      obtain ⟨rfl, HW2⟩ := hcut
      have x0 := HW2.out.x.cells 0
      have x1 := HW2.out.x.cells 1
      have x2 := HW2.out.x.cells 2
      have x3 := HW2.out.x.cells 3
      have x4 := HW2.out.x.cells 4
      have x5 := HW2.out.x.cells 5
      have x6 := HW2.out.x.cells 6
      have s0 := HW2.out.s.cells 0
      have s1 := HW2.out.s.cells 1
      have s2 := HW2.out.s.cells 2
      have s3 := HW2.out.s.cells 3
      have h0 := HW2.out.h.cells 0
      have h1 := HW2.out.h.cells 1
      have h2 := HW2.out.h.cells 2
      have h3 := HW2.out.h.cells 3
      have h4 := HW2.out.h.cells 4
      have h5 := HW2.out.h.cells 5
      cases q2 with
      | false =>
        cases b4 with
        | true =>
          have HZ : Hid (z = false) := Lib.hid (by rw [HR.out]; simp [tailB, *])
          go_wp2_with fail
          go_ret
          exact ⟨ret_bool (by rw [HZ.out] <;> rfl), HW2.out.below⟩
        | false =>
          have HZ : Hid (z = false) := Lib.hid (by rw [HR.out]; simp [tailB, *])
          go_wp2_with fail
          go_ret
          exact ⟨ret_bool (by rw [HZ.out] <;> rfl), HW2.out.below⟩
      | true =>
        cases q3 with
        | false =>
          cases b4 with
          | true =>
            have HZ : Hid (z = false) := Lib.hid (by rw [HR.out]; simp [tailB, *])
            go_wp2_with fail
            go_ret
            exact ⟨ret_bool (by rw [HZ.out] <;> rfl), HW2.out.below⟩
          | false =>
            have HZ : Hid (z = false) := Lib.hid (by rw [HR.out]; simp [tailB, *])
            go_wp2_with fail
            go_ret
            exact ⟨ret_bool (by rw [HZ.out] <;> rfl), HW2.out.below⟩
        | true =>
          cases b4 with
          | false =>
            by_cases l4 : la ≤ 4
            · have l4z : (la : Int) ≤ 4 := by omega
              have HZ : Hid (z = true) := Lib.hid (by rw [HR.out]; simp [tailB, *])
              go_wp2_with fail
              go_ret
              exact ⟨ret_bool (by rw [HZ.out] <;> first | rfl | exact decide_eq_true (by omega)), HW2.out.below⟩
            · have l4z : ¬ (la : Int) ≤ 4 := by omega
              have HZ : Hid (z = false) := Lib.hid (by rw [HR.out]; simp [tailB, *])
              go_wp2_with fail
              go_ret
              exact ⟨ret_bool (by rw [HZ.out] <;> first | rfl | exact decide_eq_false (by omega)), HW2.out.below⟩
          | true =>
            have HR2 : Hid (z = (allB from_ b && (decide (lf = la) && (decide (1 ≤ lf) && decide (lf ≤ 16))))) := Lib.hid (by rw [HR.out]; rfl)
            obtain ⟨fb, hfb⟩ : ∃ v, allB from_ b = v := ⟨_, rfl⟩
            have HF := Lib.hid hfb
            clear hfb
            cases fb with
            | false =>
              go_wp2_with fail
              refine (pall_is HX.out.fhdr (HX.out.from_.up HW2.out.below) HLF.out b HF.out).mono ?_
              rintro e w3 ⟨rfl, hb3⟩
              have HW3 := Lib.hid (HW2.out.on hb3)
              clear hb3
              clear x0 x1 x2 x3 x4 x5 x6 s0 s1 s2 s3 h0 h1 h2 h3 h4 h5
              have x0 := HW3.out.x.cells 0
              have x1 := HW3.out.x.cells 1
              have x2 := HW3.out.x.cells 2
              have x3 := HW3.out.x.cells 3
              have x4 := HW3.out.x.cells 4
              have x5 := HW3.out.x.cells 5
              have x6 := HW3.out.x.cells 6
              have s0 := HW3.out.s.cells 0
              have s1 := HW3.out.s.cells 1
              have s2 := HW3.out.s.cells 2
              have s3 := HW3.out.s.cells 3
              have h0 := HW3.out.h.cells 0
              have h1 := HW3.out.h.cells 1
              have h2 := HW3.out.h.cells 2
              have h3 := HW3.out.h.cells 3
              have h4 := HW3.out.h.cells 4
              have h5 := HW3.out.h.cells 5
              have HZ : Hid (z = false) := Lib.hid (by rw [HR2.out, HF.out]; simp [*])
              go_wp2_with fail
              go_ret
              exact ⟨ret_bool (by rw [HZ.out] <;> rfl), HW3.out.below⟩
            | true =>
              go_wp2_with fail
              refine (pall_is HX.out.fhdr (HX.out.from_.up HW2.out.below) HLF.out b HF.out).mono ?_
              rintro e w3 ⟨rfl, hb3⟩
              have HW3 := Lib.hid (HW2.out.on hb3)
              clear hb3
              clear x0 x1 x2 x3 x4 x5 x6 s0 s1 s2 s3 h0 h1 h2 h3 h4 h5
              have x0 := HW3.out.x.cells 0
              have x1 := HW3.out.x.cells 1
              have x2 := HW3.out.x.cells 2
              have x3 := HW3.out.x.cells 3
              have x4 := HW3.out.x.cells 4
              have x5 := HW3.out.x.cells 5
              have x6 := HW3.out.x.cells 6
              have s0 := HW3.out.s.cells 0
              have s1 := HW3.out.s.cells 1
              have s2 := HW3.out.s.cells 2
              have s3 := HW3.out.s.cells 3
              have h0 := HW3.out.h.cells 0
              have h1 := HW3.out.h.cells 1
              have h2 := HW3.out.h.cells 2
              have h3 := HW3.out.h.cells 3
              have h4 := HW3.out.h.cells 4
              have h5 := HW3.out.h.cells 5
              by_cases f0 : lf = la
              · have f0z : ((lf : Int) == (la : Int)) = true := by simp [f0]
                by_cases f1 : 1 ≤ lf
                · have f1z : 1 ≤ (lf : Int) := by omega
                  by_cases f2 : lf ≤ 16
                  · have f2z : (lf : Int) ≤ 16 := by omega
                    have HZ : Hid (z = true) := Lib.hid (by rw [HR2.out, HF.out, decide_eq_true f0, decide_eq_true f1, decide_eq_true f2]; rfl)
                    clear f0 f1 f2
                    go_wp2_with fail
                    go_ret
                    exact ⟨ret_bool (by rw [HZ.out] <;> first | rfl | exact decide_eq_true (by omega)), HW3.out.below⟩
                  · have f2z : ¬ (lf : Int) ≤ 16 := by omega
                    have HZ : Hid (z = false) := Lib.hid (by rw [HR2.out, decide_eq_false f2]; simp)
                    clear f0 f1 f2
                    go_wp2_with fail
                    go_ret
                    exact ⟨ret_bool (by rw [HZ.out] <;> first | rfl | exact decide_eq_false (by omega)), HW3.out.below⟩
                · have f1z : ¬ 1 ≤ (lf : Int) := by omega
                  have HZ : Hid (z = false) := Lib.hid (by rw [HR2.out, decide_eq_false f1]; simp)
                  clear f0 f1
                  go_wp2_with fail
                  go_ret
                  exact ⟨ret_bool (by rw [HZ.out] <;> first | rfl | exact decide_eq_false (by omega)), HW3.out.below⟩
              · have f0z : ((lf : Int) == (la : Int)) = false := by rw [beq_eq_false_iff_ne]; omega
                have HZ : Hid (z = false) := Lib.hid (by rw [HR2.out, decide_eq_false f0]; simp)
                clear f0
                go_wp2_with fail
                go_ret
                exact ⟨ret_bool (by rw [HZ.out]), HW3.out.below⟩
end Go.Proofs.YtbffebcjimhapaaGreatDoor
