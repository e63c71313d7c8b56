/-
  The walk of the statement ReadNames.
-/
import Derived.Test.YtbffebcjimhapaaDoorMg23
import Derived.Test.YtbffebcjimhapaaDoorMfRdNames
import Derived.BigRegion
namespace Go.Proofs.YtbffebcjimhapaaDoor
set_option linter.unusedVariables false
set_option linter.unusedSimpArgs false
open Go.ChangeShapes Go.WideShapes Go.ChangeAt Go.RowKit

set_option maxRecDepth 100000 in
set_option maxHeartbeats 6400000 in
theorem walk_ReadNames (w : World) (htab : TabW w) :
    Calls Tryd.prog 3 #[] w fun e w' => e = .returned (.bool true) ∧ Below w.heap.size w w' := by
  have HR := Lib.hid (pread_any (kindsS ++ restS) (by decide) w htab)
  rw [evBig] at HR
  have HT := Lib.hid htab
  have HAL := Lib.hid (fun W (hb : Below w.heap.size w W) => alive7_any W (htab.on hb))
  have hmk1 : ∀ W, (Instr.makeSlice 44 (.int .i64 16385) (.int .i64 16385)).run Tryd.prog W = .ok (.slice (some ⟨W.heap.size, 0, none⟩) 16385 16385) (W.alloc (.cells (zc 16385) 5)) := fun W => make_run W 16385 (by decide)
  have hcv1 := fun W => conv_run W 16385
  clear htab
  go_enter Tryd.func3, Tryd.ntmps3
  go_wp2_with fail
  refine HR.out.mono ?_
  rintro e w1 ⟨r, rfl, hown, hdat, hb⟩
  have HB1 := Lib.hid hb
  obtain ⟨ta, tc, types, fa, fc, funs⟩ := r
  have hown5 := hown.keepOn (w' := w1.alloc (.cells #[.slice ta types.length tc, .slice fa funs.length fc] 25)) ((Below.refl _ _).alloc (Nat.le_refl _) _)
  obtain ⟨b1, o1, b2, o2, c1, b3, o3, c2, b4, o4, c3, A5, c5, A6, c6, b7, o7, c7, b8, o8, c8, b9, o9, A10, c10, e1, e2, e3, e4, hbig⟩ := big_at hown5.prog.1 hdat
  have e1 : types.length = 5 := e1
  have e2 : funs.length = 1 := e2
  have e3 : ta = some ⟨b9, o9, none⟩ := e3
  have e4 : fa = some ⟨b1, o1, none⟩ := e4
  unfold PrR.val
  dsimp only at *
  rw [e1, e2, e3, e4] at hbig
  rw [e1, e2, e3, e4]
  have HPB := Lib.hid (Blk.new w1 25 #[.slice (some ⟨b9, o9, none⟩) 5 tc, .slice (some ⟨b1, o1, none⟩) 1 fc])
  have HB2 := Lib.hid (HB1.out.alloc HB1.out.size (.cells #[.slice (some ⟨b9, o9, none⟩) 5 tc, .slice (some ⟨b1, o1, none⟩) 1 fc] 25))
  obtain ⟨gP, hgP⟩ : ∃ gP, w1.heap.size = gP := ⟨_, rfl⟩
  rw [hgP] at HPB
  obtain ⟨w2, hw2⟩ : ∃ w2, w1.alloc (.cells #[.slice (some ⟨b9, o9, none⟩) 5 tc, .slice (some ⟨b1, o1, none⟩) 1 fc] 25) = w2 := ⟨_, rfl⟩
  rw [hw2] at hbig HPB HB2
  have HBG := Lib.hid hbig
  have p0 := HPB.out.cells 0
  have p1 := HPB.out.cells 1
  have f0 := HBG.out.f0
  have f1 := HBG.out.f1
  have f2 := HBG.out.f2
  have f3 := HBG.out.f3
  have f4 := HBG.out.f4
  have f5 := HBG.out.f5
  have f6 := HBG.out.f6
  have f7 := HBG.out.f7
  have f8 := HBG.out.f8
  have f9 := HBG.out.f9
  have f10 := HBG.out.f10
  have f11 := HBG.out.f11
  have f12 := HBG.out.f12
  have f13 := HBG.out.f13
  have f14 := HBG.out.f14
  have f15 := HBG.out.f15
  have f16 := HBG.out.f16
  have f17 := HBG.out.f17
  have f18 := HBG.out.f18
  have f19 := HBG.out.f19
  have f20 := HBG.out.f20
  have f21 := HBG.out.f21
  have f22 := HBG.out.f22
  have f23 := HBG.out.f23
  have f24 := HBG.out.f24
  have f25 := HBG.out.f25
  have f26 := HBG.out.f26
  have f27 := HBG.out.f27
  have f28 := HBG.out.f28
  have f29 := HBG.out.f29
  have f30 := HBG.out.f30
  clear hown hdat hb hown5 hbig e1 e2 e3 e4
  go_upto_region 2 with fail
  refine wp_region_T (fun w' => w'.cell? ⟨gP, 1, none⟩ = some (.slice (some ⟨b1, o1, none⟩) 1 fc) ∧ w'.cell? ⟨b1, o1 + 1, none⟩ = some (.slice (some ⟨b2, o2, none⟩) 2 c1) ∧ w'.cell? ⟨b2, o2, none⟩ = some (.slice (some ⟨b3, o3, none⟩) 8 c2) ∧ w'.cell? ⟨b2, o2 + 5, none⟩ = some (.slice (some ⟨b4, o4, none⟩) 1 c3) ∧ w'.cell? ⟨b4, o4, none⟩ = some (.int .u8 22) ∧ w'.cell? ⟨b4, o4 + 1, none⟩ = some (.int .i64 0) ∧ w'.cell? ⟨b4, o4 + 2, none⟩ = some (.int .i64 0) ∧ w'.cell? ⟨b4, o4 + 3, none⟩ = some (.int .i64 0) ∧ w'.cell? ⟨b4, o4 + 4, none⟩ = some (.int .i64 0) ∧ w'.cell? ⟨b4, o4 + 5, none⟩ = some (.slice (some ⟨b7, o7, none⟩) 1 c7) ∧ w'.cell? ⟨b4, o4 + 6, none⟩ = some (.slice (some ⟨b8, o8, none⟩) 1 c8)) 20 (by kernel_rfl) ⟨p1, f0, f1, f6, f20, f21, f22, f23, f24, f25, f26⟩ (fun hHeld => ?_)
  refine wpAnyT_take (i := 0) (by kernel_rfl) (by decide) rfl (by kernel_rfl) (by kernel_rfl) (by kernel_rfl) (fun _ _ _ h => h) (Or.inl ⟨by rfl, by (intro w hSw; (try dsimp only at hSw); go_simp; (try with_reducible rfl))⟩) (by assumption) ?_; (try simp only [Act.put, List.setIfInBounds_toArray, List.set_cons_zero, List.set_cons_succ])
  refine wpAnyT_take (i := 1) (by kernel_rfl) (by decide) rfl (by kernel_rfl) (by kernel_rfl) (by kernel_rfl) (fun _ _ _ h => h) (Or.inl ⟨by rfl, by (intro w hSw; (try dsimp only at hSw); go_simp; (try with_reducible rfl))⟩) (by assumption) ?_; (try simp only [Act.put, List.setIfInBounds_toArray, List.set_cons_zero, List.set_cons_succ])
  refine wpAnyT_take (i := 2) (by kernel_rfl) (by decide) rfl (by kernel_rfl) (by kernel_rfl) (by kernel_rfl) (fun _ _ _ h => h) (Or.inl ⟨by rfl, by (intro w hSw; (try dsimp only at hSw); go_simp; (try with_reducible rfl))⟩) (by assumption) ?_; (try simp only [Act.put, List.setIfInBounds_toArray, List.set_cons_zero, List.set_cons_succ])
  refine wpAnyT_take (i := 3) (by kernel_rfl) (by decide) rfl (by kernel_rfl) (by kernel_rfl) (by kernel_rfl) (fun _ _ _ h => h) (Or.inl ⟨by rfl, by (intro w hSw; (try dsimp only at hSw); go_simp; (try with_reducible rfl))⟩) (by assumption) ?_; (try simp only [Act.put, List.setIfInBounds_toArray, List.set_cons_zero, List.set_cons_succ])
  refine wpAnyT_take (i := 4) (by kernel_rfl) (by decide) rfl (by kernel_rfl) (by kernel_rfl) (by kernel_rfl) (fun _ _ _ h => h) (Or.inl ⟨by rfl, by (intro w hSw; (try dsimp only at hSw); go_simp; (try with_reducible rfl))⟩) (by assumption) ?_; (try simp only [Act.put, List.setIfInBounds_toArray, List.set_cons_zero, List.set_cons_succ])
  refine wpAnyT_take (i := 5) (by kernel_rfl) (by decide) rfl (by kernel_rfl) (by kernel_rfl) (by kernel_rfl) (fun _ _ _ h => h) (Or.inl ⟨by rfl, by (intro w hSw; (try dsimp only at hSw); go_simp; (try with_reducible rfl))⟩) (by assumption) ?_; (try simp only [Act.put, List.setIfInBounds_toArray, List.set_cons_zero, List.set_cons_succ])
  refine wpAnyT_take (i := 6) (by kernel_rfl) (by decide) rfl (by kernel_rfl) (by kernel_rfl) (by kernel_rfl) (fun _ _ _ h => h) (Or.inl ⟨by rfl, by (intro w hSw; (try dsimp only at hSw); go_simp; (try with_reducible rfl))⟩) (by assumption) ?_; (try simp only [Act.put, List.setIfInBounds_toArray, List.set_cons_zero, List.set_cons_succ])
  refine wpAnyT_take (i := 7) (by kernel_rfl) (by decide) rfl (by kernel_rfl) (by kernel_rfl) (by kernel_rfl) (fun _ _ _ h => h) (Or.inl ⟨by rfl, by (intro w hSw; (try dsimp only at hSw); go_simp; (try with_reducible rfl))⟩) (by assumption) ?_; (try simp only [Act.put, List.setIfInBounds_toArray, List.set_cons_zero, List.set_cons_succ])
  refine wpAnyT_take (i := 8) (by kernel_rfl) (by decide) rfl (by kernel_rfl) (by kernel_rfl) (by kernel_rfl) (fun _ _ _ h => h) (Or.inl ⟨by rfl, by (intro w hSw; (try dsimp only at hSw); go_simp; (try with_reducible rfl))⟩) (by assumption) ?_; (try simp only [Act.put, List.setIfInBounds_toArray, List.set_cons_zero, List.set_cons_succ])
  refine wpAnyT_take (i := 9) (by kernel_rfl) (by decide) rfl (by kernel_rfl) (by kernel_rfl) (by kernel_rfl) (fun _ _ _ h => h) (Or.inl ⟨by rfl, by (intro w hSw; (try dsimp only at hSw); go_simp; (try with_reducible rfl))⟩) (by assumption) ?_; (try simp only [Act.put, List.setIfInBounds_toArray, List.set_cons_zero, List.set_cons_succ])
  refine wpAnyT_take (i := 10) (by kernel_rfl) (by decide) rfl (by kernel_rfl) (by kernel_rfl) (by kernel_rfl) (fun _ _ _ h => h) (Or.inl ⟨by rfl, by (intro w hSw; (try dsimp only at hSw); go_simp; (try with_reducible rfl))⟩) (by assumption) ?_; (try simp only [Act.put, List.setIfInBounds_toArray, List.set_cons_zero, List.set_cons_succ])
  refine wpAnyT_take (i := 11) (by kernel_rfl) (by decide) rfl (by kernel_rfl) (by kernel_rfl) (by kernel_rfl) (fun _ _ _ h => h) (Or.inl ⟨by rfl, by (intro w hSw; (try dsimp only at hSw); go_simp; (try with_reducible rfl))⟩) (by assumption) ?_; (try simp only [Act.put, List.setIfInBounds_toArray, List.set_cons_zero, List.set_cons_succ])
  refine wpAnyT_take (i := 12) (by kernel_rfl) (by decide) rfl (by kernel_rfl) (by kernel_rfl) (by kernel_rfl) (fun _ _ _ h => h) (Or.inl ⟨by rfl, by (intro w hSw; (try dsimp only at hSw); go_simp; (try with_reducible rfl))⟩) (by assumption) ?_; (try simp only [Act.put, List.setIfInBounds_toArray, List.set_cons_zero, List.set_cons_succ])
  refine wpAnyT_take (i := 13) (by kernel_rfl) (by decide) rfl (by kernel_rfl) (by kernel_rfl) (by kernel_rfl) (fun _ _ _ h => h) (Or.inl ⟨by rfl, by (intro w hSw; (try dsimp only at hSw); go_simp; (try with_reducible rfl))⟩) (by assumption) ?_; (try simp only [Act.put, List.setIfInBounds_toArray, List.set_cons_zero, List.set_cons_succ])
  refine wpAnyT_take (i := 14) (by kernel_rfl) (by decide) rfl (by kernel_rfl) (by kernel_rfl) (by kernel_rfl) (fun _ _ _ h => h) (Or.inl ⟨by rfl, by (intro w hSw; (try dsimp only at hSw); go_simp; (try with_reducible rfl))⟩) (by assumption) ?_; (try simp only [Act.put, List.setIfInBounds_toArray, List.set_cons_zero, List.set_cons_succ])
  refine wpAnyT_take (i := 15) (by kernel_rfl) (by decide) rfl (by kernel_rfl) (by kernel_rfl) (by kernel_rfl) (fun _ _ _ h => h) (Or.inl ⟨by rfl, by (intro w hSw; (try dsimp only at hSw); go_simp; (try with_reducible rfl))⟩) (by assumption) ?_; (try simp only [Act.put, List.setIfInBounds_toArray, List.set_cons_zero, List.set_cons_succ])
  refine wpAnyT_take (i := 16) (by kernel_rfl) (by decide) rfl (by kernel_rfl) (by kernel_rfl) (by kernel_rfl) (fun _ _ _ h => h) (Or.inl ⟨by rfl, by (intro w hSw; (try dsimp only at hSw); go_simp; (try with_reducible rfl))⟩) (by assumption) ?_; (try simp only [Act.put, List.setIfInBounds_toArray, List.set_cons_zero, List.set_cons_succ])
  refine wpAnyT_take (i := 17) (by kernel_rfl) (by decide) rfl (by kernel_rfl) (by kernel_rfl) (by kernel_rfl) (fun _ _ _ h => h) (Or.inl ⟨by rfl, by (intro w hSw; (try dsimp only at hSw); go_simp; (try with_reducible rfl))⟩) (by assumption) ?_; (try simp only [Act.put, List.setIfInBounds_toArray, List.set_cons_zero, List.set_cons_succ])
  refine wpAnyT_one (i := 18) (by kernel_rfl) rfl (fun K hK => ?_)
  go_simp
  have HBG3 := Lib.hid (HBG.out.on (w' := (w2.drew).alloc (.cells #[.int .u8 0, .int .i64 0, .int .i64 0, .int .i64 0, .int .i64 0, .slice none 0 0, .slice none 0 0] 39)) (((Below.refl _ _).drew).alloc (Nat.le_refl _) _))
  have HPB3 := Lib.hid (HPB.out.beneath (w' := (w2.drew).alloc (.cells #[.int .u8 0, .int .i64 0, .int .i64 0, .int .i64 0, .int .i64 0, .slice none 0 0, .slice none 0 0] 39)) (((Below.refl _ _).drew).alloc (Nat.le_refl _) _))
  have HB3 := Lib.hid ((HB2.out.drew).alloc HB2.out.size (.cells #[.int .u8 0, .int .i64 0, .int .i64 0, .int .i64 0, .int .i64 0, .slice none 0 0, .slice none 0 0] 39))

  have y1 := HPB3.out.cells 1
  have y0' : (w2.drew.alloc (.cells #[.int .u8 0, .int .i64 0, .int .i64 0, .int .i64 0, .int .i64 0, .slice none 0 0, .slice none 0 0] 39)).cell? ⟨b1, o1 + 1, none⟩ = some (.slice (some ⟨b2, o2, none⟩) 2 c1) := HBG3.out.f0
  have y1' : (w2.drew.alloc (.cells #[.int .u8 0, .int .i64 0, .int .i64 0, .int .i64 0, .int .i64 0, .slice none 0 0, .slice none 0 0] 39)).cell? ⟨b2, o2, none⟩ = some (.slice (some ⟨b3, o3, none⟩) 8 c2) := HBG3.out.f1
  have y6' : (w2.drew.alloc (.cells #[.int .u8 0, .int .i64 0, .int .i64 0, .int .i64 0, .int .i64 0, .slice none 0 0, .slice none 0 0] 39)).cell? ⟨b2, o2 + 5, none⟩ = some (.slice (some ⟨b4, o4, none⟩) 1 c3) := HBG3.out.f6
  have y20' : (w2.drew.alloc (.cells #[.int .u8 0, .int .i64 0, .int .i64 0, .int .i64 0, .int .i64 0, .slice none 0 0, .slice none 0 0] 39)).cell? ⟨b4, o4, none⟩ = some (.int .u8 22) := HBG3.out.f20
  have y21' : (w2.drew.alloc (.cells #[.int .u8 0, .int .i64 0, .int .i64 0, .int .i64 0, .int .i64 0, .slice none 0 0, .slice none 0 0] 39)).cell? ⟨b4, o4 + 1, none⟩ = some (.int .i64 0) := HBG3.out.f21
  have y22' : (w2.drew.alloc (.cells #[.int .u8 0, .int .i64 0, .int .i64 0, .int .i64 0, .int .i64 0, .slice none 0 0, .slice none 0 0] 39)).cell? ⟨b4, o4 + 2, none⟩ = some (.int .i64 0) := HBG3.out.f22
  have y23' : (w2.drew.alloc (.cells #[.int .u8 0, .int .i64 0, .int .i64 0, .int .i64 0, .int .i64 0, .slice none 0 0, .slice none 0 0] 39)).cell? ⟨b4, o4 + 3, none⟩ = some (.int .i64 0) := HBG3.out.f23
  have y24' : (w2.drew.alloc (.cells #[.int .u8 0, .int .i64 0, .int .i64 0, .int .i64 0, .int .i64 0, .slice none 0 0, .slice none 0 0] 39)).cell? ⟨b4, o4 + 4, none⟩ = some (.int .i64 0) := HBG3.out.f24
  have y25' : (w2.drew.alloc (.cells #[.int .u8 0, .int .i64 0, .int .i64 0, .int .i64 0, .int .i64 0, .slice none 0 0, .slice none 0 0] 39)).cell? ⟨b4, o4 + 5, none⟩ = some (.slice (some ⟨b7, o7, none⟩) 1 c7) := HBG3.out.f25
  have y26' : (w2.drew.alloc (.cells #[.int .u8 0, .int .i64 0, .int .i64 0, .int .i64 0, .int .i64 0, .slice none 0 0, .slice none 0 0] 39)).cell? ⟨b4, o4 + 6, none⟩ = some (.slice (some ⟨b8, o8, none⟩) 1 c8) := HBG3.out.f26
  refine hK.out _ _ (fun _ => ⟨y1, y0', y1', y6', y20', y21', y22', y23', y24', y25', y26'⟩) (fun hH => ?_); clear hHeld hK K; have hHeld := hH (by decide); clear hH
  refine wpAnyT_one (i := 19) (by kernel_rfl) rfl (fun K hK => ?_)
  go_simp
  refine hK.out _ _ (fun _ => ⟨y1, y0', y1', y6', y20', y21', y22', y23', y24', y25', y26'⟩) (fun hH => ?_); clear hHeld hK K; have hHeld := hH (by decide); clear hH
  refine wpAnyT_one (i := 20) (by kernel_rfl) rfl (fun K hK => ?_)
  have HXB := Lib.hid (Blk.new w2.drew 39 #[.int .u8 0, .int .i64 0, .int .i64 0, .int .i64 0, .int .i64 0, .slice none 0 0, .slice none 0 0])
  have z0 := HXB.out.cells 0
  have z1 := HXB.out.cells 1
  have z2 := HXB.out.cells 2
  have z3 := HXB.out.cells 3
  have z4 := HXB.out.cells 4
  have z5 := HXB.out.cells 5
  have z6 := HXB.out.cells 6
  have zz := HXB.out.free
  go_simp
  refine hK.out _ _ (fun e => absurd rfl e) (fun hH => ?_); refine wpAnyT_done (by kernel_rfl) ?_ _; clear hHeld hK K hH
  clear y0' y1' y6' y20' y21' y22' y23' y24' y25' y26' y1 z0 z1 z2 z3 z4 z5 z6 zz HXB f0 f1 f2 f3 f4 f5 f6 f7 f8 f9 f10 f11 f12 f13 f14 f15 f16 f17 f18 f19 f20 f21 f22 f23 f24 f25 f26 f27 f28 f29 f30 p0 p1
  have hbe : Below w2.heap.size w2 ((w2.alloc (.cells #[.int .u8 22, .int .i64 0, .int .i64 0, .int .i64 0, .int .i64 0, .slice (some ⟨b7, o7, none⟩) 1 c7, .slice (some ⟨b8, o8, none⟩) 1 c8] 39)).drew) := ((Below.refl _ _).alloc (Nat.le_refl _) _).drew
  have HBG4 := Lib.hid (HBG.out.on hbe)
  have HPB4 := Lib.hid (HPB.out.beneath hbe)
  have HB4 := Lib.hid (HB2.out.trans (hbe.mono HB2.out.size))
  have HX4 : Hid (Blk ((w2.alloc (.cells #[.int .u8 22, .int .i64 0, .int .i64 0, .int .i64 0, .int .i64 0, .slice (some ⟨b7, o7, none⟩) 1 c7, .slice (some ⟨b8, o8, none⟩) 1 c8] 39)).drew) w2.heap.size 39 #[.int .u8 22, .int .i64 0, .int .i64 0, .int .i64 0, .int .i64 0, .slice (some ⟨b7, o7, none⟩) 1 c7, .slice (some ⟨b8, o8, none⟩) 1 c8]) := Lib.hid ((Blk.new w2 39 #[.int .u8 22, .int .i64 0, .int .i64 0, .int .i64 0, .int .i64 0, .slice (some ⟨b7, o7, none⟩) 1 c7, .slice (some ⟨b8, o8, none⟩) 1 c8]).drew)
  clear hbe
  obtain ⟨w4, hw4⟩ : ∃ w4, (w2.alloc (.cells #[.int .u8 22, .int .i64 0, .int .i64 0, .int .i64 0, .int .i64 0, .slice (some ⟨b7, o7, none⟩) 1 c7, .slice (some ⟨b8, o8, none⟩) 1 c8] 39)).drew = w4 := ⟨_, rfl⟩
  rw [hw4] at HBG4 HPB4 HB4 HX4 ⊢
  obtain ⟨gX, hgX⟩ : ∃ gX, w2.heap.size = gX := ⟨_, rfl⟩
  rw [hgX] at HX4 ⊢
  clear hw4 hgX HBG HPB HBG3 HPB3 HB3 HB2
  have p0 := HPB4.out.cells 0
  have p1 := HPB4.out.cells 1
  have x0 := HX4.out.cells 0
  have x1 := HX4.out.cells 1
  have x2 := HX4.out.cells 2
  have x3 := HX4.out.cells 3
  have x4 := HX4.out.cells 4
  have x5 := HX4.out.cells 5
  have x6 := HX4.out.cells 6
  have f0 := HBG4.out.f0
  have f1 := HBG4.out.f1
  have f2 := HBG4.out.f2
  have f3 := HBG4.out.f3
  have f4 := HBG4.out.f4
  have f5 := HBG4.out.f5
  have f6 := HBG4.out.f6
  have f7 := HBG4.out.f7
  have f8 := HBG4.out.f8
  have f9 := HBG4.out.f9
  have f10 := HBG4.out.f10
  have f11 := HBG4.out.f11
  have f12 := HBG4.out.f12
  have f13 := HBG4.out.f13
  have f14 := HBG4.out.f14
  have f15 := HBG4.out.f15
  have f16 := HBG4.out.f16
  have f17 := HBG4.out.f17
  have f18 := HBG4.out.f18
  have f19 := HBG4.out.f19
  have f20 := HBG4.out.f20
  have f21 := HBG4.out.f21
  have f22 := HBG4.out.f22
  have f23 := HBG4.out.f23
  have f24 := HBG4.out.f24
  have f25 := HBG4.out.f25
  have f26 := HBG4.out.f26
  have f27 := HBG4.out.f27
  have f28 := HBG4.out.f28
  have f29 := HBG4.out.f29
  have f30 := HBG4.out.f30
  go_wp2_with fail
  clear f0 f1 f2 f3 f4 f5 f6 f7 f8 f9 f10 f11 f12 f13 f14 f15 f16 f17 f18 f19 f20 f21 f22 f23 f24 f25 f26 f27 f28 f29 f30 p0 p1 x0 x1 x2 x3 x4 x5 x6 HBG4 HPB4 HX4 HR
  refine (text7_any litN0 (by decide) _).mono ?_
  rintro e wt ⟨rfl, ht⟩
  subst wt
  go_wp2_with fail
  refine (odd7_any (textS ++ litN0) (by decide) 70 _ (HT.out.on HB4.out)).mono ?_
  rintro e w5 ⟨rfl, hb⟩
  rw [evN0]
  have HB5 := Lib.hid (HB4.out.trans (hb.mono HB4.out.size))
  clear hb
  go_wp2_with fail
  refine (text7_any litN1 (by decide) _).mono ?_
  rintro e wt ⟨rfl, ht⟩
  subst wt
  go_wp2_with fail
  refine (odd7_any (textS ++ litN1) (by decide) 70 _ (HT.out.on HB5.out)).mono ?_
  rintro e w6 ⟨rfl, hb⟩
  rw [evN1]
  have HB6 := Lib.hid (HB5.out.trans (hb.mono HB5.out.size))
  clear hb
  go_wp2_with fail
  refine (text7_any litN2 (by decide) _).mono ?_
  rintro e wt ⟨rfl, ht⟩
  subst wt
  go_wp2_with fail
  refine (odd7_any (textS ++ litN2) (by decide) 70 _ (HT.out.on HB6.out)).mono ?_
  rintro e w7 ⟨rfl, hb⟩
  rw [evN2]
  have HB7 := Lib.hid (HB6.out.trans (hb.mono HB6.out.size))
  clear hb
  go_wp2_with fail
  refine (text7_any litN3 (by decide) _).mono ?_
  rintro e wt ⟨rfl, ht⟩
  subst wt
  go_wp2_with fail
  refine (odd7_any (textS ++ litN3) (by decide) 70 _ (HT.out.on HB7.out)).mono ?_
  rintro e w8 ⟨rfl, hb⟩
  rw [evN3]
  have HB8 := Lib.hid (HB7.out.trans (hb.mono HB7.out.size))
  clear hb
  go_wp2_with fail
  refine (text7_any litN4 (by decide) _).mono ?_
  rintro e wt ⟨rfl, ht⟩
  subst wt
  go_wp2_with fail
  refine (odd7_any (textS ++ litN4) (by decide) 70 _ (HT.out.on HB8.out)).mono ?_
  rintro e w9 ⟨rfl, hb⟩
  rw [evN4]
  have HB9 := Lib.hid (HB8.out.trans (hb.mono HB8.out.size))
  clear hb
  go_wp2_with fail
  refine (text7_any litN5 (by decide) _).mono ?_
  rintro e wt ⟨rfl, ht⟩
  subst wt
  go_wp2_with fail
  refine (odd7_any (textS ++ litN5) (by decide) 70 _ (HT.out.on HB9.out)).mono ?_
  rintro e w10 ⟨rfl, hb⟩
  rw [evN5]
  have HB10 := Lib.hid (HB9.out.trans (hb.mono HB9.out.size))
  clear hb
  go_wp2_with fail
  refine (odd7_any litN6 (by decide) 70 _ (HT.out.on HB10.out)).mono ?_
  rintro e w11 ⟨rfl, hb⟩
  rw [evN6]
  have HB11 := Lib.hid (HB10.out.trans (hb.mono HB10.out.size))
  clear hb
  go_wp2_with fail
  refine (odd7_any litN7 (by decide) 70 _ (HT.out.on HB11.out)).mono ?_
  rintro e w12 ⟨rfl, hb⟩
  rw [evN7]
  have HB12 := Lib.hid (HB11.out.trans (hb.mono HB11.out.size))
  clear hb
  go_wp2_with fail
  refine (odd7_any litN8 (by decide) 70 _ (HT.out.on HB12.out)).mono ?_
  rintro e w13 ⟨rfl, hb⟩
  rw [evN8]
  have HB13 := Lib.hid (HB12.out.trans (hb.mono HB12.out.size))
  clear hb
  go_wp2_with fail
  refine (text7_any litN9 (by decide) _).mono ?_
  rintro e wt ⟨rfl, ht⟩
  subst wt
  go_wp2_with fail
  refine (odd7_any (textS ++ litN9) (by decide) 70 _ (HT.out.on HB13.out)).mono ?_
  rintro e w14 ⟨rfl, hb⟩
  rw [evN9]
  have HB14 := Lib.hid (HB13.out.trans (hb.mono HB13.out.size))
  clear hb
  go_wp2_with fail
  refine (odd7_any litN10 (by decide) 60 _ (HT.out.on HB14.out)).mono ?_
  rintro e w15 ⟨rfl, hb⟩
  rw [evN10]
  have HB15 := Lib.hid (HB14.out.trans (hb.mono HB14.out.size))
  clear hb
  go_wp2_with fail
  refine (odd7_any litN11 (by decide) 30 _ (HT.out.on HB15.out)).mono ?_
  rintro e w16 ⟨rfl, hb⟩
  rw [evN11]
  have HB16 := Lib.hid (HB15.out.trans (hb.mono HB15.out.size))
  clear hb
  go_wp2_with fail
  refine (text7_any litN12 (by decide) _).mono ?_
  rintro e wt ⟨rfl, ht⟩
  subst wt
  go_wp2_with fail
  refine (odd7_any (textS ++ litN12) (by decide) 60 _ (HT.out.on HB16.out)).mono ?_
  rintro e w17 ⟨rfl, hb⟩
  rw [evN12]
  have HB17 := Lib.hid (HB16.out.trans (hb.mono HB16.out.size))
  clear hb
  go_wp2_with fail
  have HBZ := Lib.hid (HB17.out.alloc HB17.out.size (.cells (zc 16385) 5))
  refine (odd7_any (zeros 16385) (by rw [zeros_size]; decide) 4 _ (HT.out.on HBZ.out)).mono ?_
  rintro e w18 ⟨rfl, hb⟩
  rw [evN13]
  have HB18 := Lib.hid (HBZ.out.trans (hb.mono HBZ.out.size))
  clear hb
  go_wp2_with fail
  refine (text7_any litN14 (by decide) _).mono ?_
  rintro e wt ⟨rfl, ht⟩
  subst wt
  go_wp2_with fail
  refine (odd7_any (textS ++ litN14) (by decide) 70 _ (HT.out.on HB18.out)).mono ?_
  rintro e w19 ⟨rfl, hb⟩
  rw [evN14]
  have HB19 := Lib.hid (HB18.out.trans (hb.mono HB18.out.size))
  clear hb
  go_wp2_with fail
  refine (HAL.out _ HB19.out).mono ?_
  rintro e w20 ⟨rfl, hb⟩
  have HBE := Lib.hid (HB19.out.trans (hb.mono HB19.out.size))
  clear hb
  go_wp2_with fail
  go_ret
  exact ⟨rfl, HBE.out⟩
end Go.Proofs.YtbffebcjimhapaaDoor
