/-
  The walks of CalcNames and CalcTells.
-/
import Derived.Test.YtliihlidobajdaaLaw13
import Derived.Test.YtliihlidobajdaaVal
namespace Go.Proofs.Ytliihlidobajdaa
set_option linter.unusedVariables false
open Go.ChangeShapes Go.WideShapes Go.ChangeAt Go.RowKit

set_option maxHeartbeats 2000000 in
theorem walk_CalcNames (w : World) :
    Calls Try.prog 8 #[] w fun e w' => e = .returned (.bool true) ∧ Below w.heap.size w w' := by
  have hb0 : Below w.heap.size w w := Below.refl _ _
  go_enter Try.func8, Try.ntmps8
  go_wp2_with fail
  refine (do_any _ _ _ _).mono ?_
  rintro e w1 ⟨rfl, hraw⟩
  rw [show doE 7 0 = 130 from rfl]
  have hb1 : Below w.heap.size w w1 := Below.trans (by (repeat (first | exact hb0 | apply Below.alloc | apply Below.drew)) <;> (have z := hb0.size; first | omega | (simp; done) | (simp; omega))) (hraw.mono (by have z := hb0.size; (try simp only [World.size_alloc]); omega))
  clear hraw hb0
  go_wp2_with fail
  refine (do_any _ _ _ _).mono ?_
  rintro e w2 ⟨rfl, hraw⟩
  rw [show doE 10 1 = 2 from rfl]
  have hb2 : Below w.heap.size w w2 := Below.trans (by (repeat (first | exact hb1 | apply Below.alloc | apply Below.drew)) <;> (have z := hb1.size; first | omega | (simp; done) | (simp; omega))) (hraw.mono (by have z := hb1.size; (try simp only [World.size_alloc]); omega))
  clear hraw hb1
  go_wp2_with fail
  refine (first_any _ _).mono ?_
  rintro e w3 ⟨rfl, hraw⟩
  rw [show firstK 2 = 2 from by decide, show firstE 2 = 0 from by decide]
  have hb3 : Below w.heap.size w w3 := Below.trans (by (repeat (first | exact hb2 | apply Below.alloc | apply Below.drew)) <;> (have z := hb2.size; first | omega | (simp; done) | (simp; omega))) (hraw.mono (by have z := hb2.size; (try simp only [World.size_alloc]); omega))
  clear hraw hb2
  go_wp2_with fail
  refine (first_any _ _).mono ?_
  rintro e w4 ⟨rfl, hraw⟩
  rw [show firstK 4 = 0 from by decide, show firstE 4 = 2 from by decide]
  have Bv : Blk w4 w3.heap.size 23 #[.int .u8 2, .int .i64 0, .int .i64 0, .int .i64 0] := Blk.beneath (by first | exact Blk.new _ _ _ | exact (Blk.new _ _ _).alloc _ | exact ((Blk.new _ _ _).alloc _).alloc _) hraw
  have hb4 : Below w.heap.size w w4 := Below.trans (by (repeat (first | exact hb3 | apply Below.alloc | apply Below.drew)) <;> (have z := hb3.size; first | omega | (simp; done) | (simp; omega))) (hraw.mono (by have z := hb3.size; (try simp only [World.size_alloc]); omega))
  clear hraw hb3
  go_wp2_with fail
  refine (check_any _ _ _ _ _).mono ?_
  rintro e w5 ⟨rfl, hraw⟩
  rw [show chkV 0 0 0 0 = 8 from by decide]
  replace Bv : Blk w5 w3.heap.size 23 #[.int .u8 2, .int .i64 0, .int .i64 0, .int .i64 0] := Blk.beneath (by repeat (first | exact Bv | apply Blk.alloc | apply Blk.drew)) hraw
  have hb5 : Below w.heap.size w w5 := Below.trans (by (repeat (first | exact hb4 | apply Below.alloc | apply Below.drew)) <;> (have z := hb4.size; first | omega | (simp; done) | (simp; omega))) (hraw.mono (by have z := hb4.size; (try simp only [World.size_alloc]); omega))
  clear hraw hb4
  go_wp2_with fail
  refine (check_any _ _ _ _ _).mono ?_
  rintro e w6 ⟨rfl, hraw⟩
  rw [show chkV 2 0 0 1 = 8 from by decide]
  replace Bv : Blk w6 w3.heap.size 23 #[.int .u8 2, .int .i64 0, .int .i64 0, .int .i64 0] := Blk.beneath (by repeat (first | exact Bv | apply Blk.alloc | apply Blk.drew)) hraw
  have hb6 : Below w.heap.size w w6 := Below.trans (by (repeat (first | exact hb5 | apply Below.alloc | apply Below.drew)) <;> (have z := hb5.size; first | omega | (simp; done) | (simp; omega))) (hraw.mono (by have z := hb5.size; (try simp only [World.size_alloc]); omega))
  clear hraw hb5
  go_wp2_with fail
  refine (check_any _ _ _ _ _).mono ?_
  rintro e w7 ⟨rfl, hraw⟩
  rw [show chkV 3 9 0 0 = 8 from by decide]
  replace Bv : Blk w7 w3.heap.size 23 #[.int .u8 2, .int .i64 0, .int .i64 0, .int .i64 0] := Blk.beneath (by repeat (first | exact Bv | apply Blk.alloc | apply Blk.drew)) hraw
  have hb7 : Below w.heap.size w w7 := Below.trans (by (repeat (first | exact hb6 | apply Below.alloc | apply Below.drew)) <;> (have z := hb6.size; first | omega | (simp; done) | (simp; omega))) (hraw.mono (by have z := hb6.size; (try simp only [World.size_alloc]); omega))
  clear hraw hb6
  go_wp2_with fail
  refine (check_any _ _ _ _ _).mono ?_
  rintro e w8 ⟨rfl, hraw⟩
  rw [show chkV 1 0 1 0 = 8 from by decide]
  replace Bv : Blk w8 w3.heap.size 23 #[.int .u8 2, .int .i64 0, .int .i64 0, .int .i64 0] := Blk.beneath (by repeat (first | exact Bv | apply Blk.alloc | apply Blk.drew)) hraw
  have hb8 : Below w.heap.size w w8 := Below.trans (by (repeat (first | exact hb7 | apply Below.alloc | apply Below.drew)) <;> (have z := hb7.size; first | omega | (simp; done) | (simp; omega))) (hraw.mono (by have z := hb7.size; (try simp only [World.size_alloc]); omega))
  clear hraw hb7
  go_wp2_with fail
  refine (alive_any _).mono ?_
  rintro e w9 ⟨rfl, hraw⟩
  replace Bv : Blk w9 w3.heap.size 23 #[.int .u8 2, .int .i64 0, .int .i64 0, .int .i64 0] := Blk.beneath (by repeat (first | exact Bv | apply Blk.alloc | apply Blk.drew)) hraw
  have hb9 : Below w.heap.size w w9 := Below.trans (by (repeat (first | exact hb8 | apply Below.alloc | apply Below.drew)) <;> (have z := hb8.size; first | omega | (simp; done) | (simp; omega))) (hraw.mono (by have z := hb8.size; (try simp only [World.size_alloc]); omega))
  clear hraw hb8
  go_wp2_with fail
  refine (is_true _ (by decide +kernel)).mono ?_
  rintro e w10 ⟨rfl, hraw⟩
  replace Bv : Blk w10 w3.heap.size 23 #[.int .u8 2, .int .i64 0, .int .i64 0, .int .i64 0] := Blk.beneath (by repeat (first | exact Bv | apply Blk.alloc | apply Blk.drew)) hraw
  have hb10 : Below w.heap.size w w10 := Below.trans (by (repeat (first | exact hb9 | apply Below.alloc | apply Below.drew)) <;> (have z := hb9.size; first | omega | (simp; done) | (simp; omega))) (hraw.mono (by have z := hb9.size; (try simp only [World.size_alloc]); omega))
  clear hraw hb9
  go_wp2_with fail
  refine (is_true _ (by decide +kernel)).mono ?_
  rintro e w11 ⟨rfl, hraw⟩
  replace Bv : Blk w11 w3.heap.size 23 #[.int .u8 2, .int .i64 0, .int .i64 0, .int .i64 0] := Blk.beneath (by repeat (first | exact Bv | apply Blk.alloc | apply Blk.drew)) hraw
  have hb11 : Below w.heap.size w w11 := Below.trans (by (repeat (first | exact hb10 | apply Below.alloc | apply Below.drew)) <;> (have z := hb10.size; first | omega | (simp; done) | (simp; omega))) (hraw.mono (by have z := hb10.size; (try simp only [World.size_alloc]); omega))
  clear hraw hb10
  go_wp2_with fail
  refine (is_true _ (by decide +kernel)).mono ?_
  rintro e w12 ⟨rfl, hraw⟩
  replace Bv : Blk w12 w3.heap.size 23 #[.int .u8 2, .int .i64 0, .int .i64 0, .int .i64 0] := Blk.beneath (by repeat (first | exact Bv | apply Blk.alloc | apply Blk.drew)) hraw
  have hb12 : Below w.heap.size w w12 := Below.trans (by (repeat (first | exact hb11 | apply Below.alloc | apply Below.drew)) <;> (have z := hb11.size; first | omega | (simp; done) | (simp; omega))) (hraw.mono (by have z := hb11.size; (try simp only [World.size_alloc]); omega))
  clear hraw hb11
  go_wp2_with fail
  refine (is_true _ (by decide +kernel)).mono ?_
  rintro e w13 ⟨rfl, hraw⟩
  replace Bv : Blk w13 w3.heap.size 23 #[.int .u8 2, .int .i64 0, .int .i64 0, .int .i64 0] := Blk.beneath (by repeat (first | exact Bv | apply Blk.alloc | apply Blk.drew)) hraw
  have hb13 : Below w.heap.size w w13 := Below.trans (by (repeat (first | exact hb12 | apply Below.alloc | apply Below.drew)) <;> (have z := hb12.size; first | omega | (simp; done) | (simp; omega))) (hraw.mono (by have z := hb12.size; (try simp only [World.size_alloc]); omega))
  clear hraw hb12
  have cBv := Bv.cells
  have zBv := Bv.lt
  go_wp2_with fail
  refine (fits_any _ _ _ _ _ _).mono ?_
  rintro e w14 ⟨rfl, hraw⟩
  rw [show fitsB 2 0 3 1 2 = true from by decide]
  replace Bv : Blk w14 w3.heap.size 23 #[.int .u8 2, .int .i64 0, .int .i64 0, .int .i64 0] := Blk.beneath (by repeat (first | exact Bv | apply Blk.alloc | apply Blk.drew)) hraw
  have hb14 : Below w.heap.size w w14 := Below.trans (by (repeat (first | exact hb13 | apply Below.alloc | apply Below.drew)) <;> (have z := hb13.size; first | omega | (simp; done) | (simp; omega))) (hraw.mono (by have z := hb13.size; (try simp only [World.size_alloc]); omega))
  clear hraw hb13
  go_wp2_with fail
  refine (fits_any _ _ _ _ _ _).mono ?_
  rintro e w15 ⟨rfl, hraw⟩
  rw [show fitsB 1 0 0 0 3 = false from by decide]
  replace Bv : Blk w15 w3.heap.size 23 #[.int .u8 2, .int .i64 0, .int .i64 0, .int .i64 0] := Blk.beneath (by repeat (first | exact Bv | apply Blk.alloc | apply Blk.drew)) hraw
  have hb15 : Below w.heap.size w w15 := Below.trans (by (repeat (first | exact hb14 | apply Below.alloc | apply Below.drew)) <;> (have z := hb14.size; first | omega | (simp; done) | (simp; omega))) (hraw.mono (by have z := hb14.size; (try simp only [World.size_alloc]); omega))
  clear hraw hb14
  go_wp2_with fail
  go_ret
  refine ⟨rfl, ?_⟩
  (repeat (first | exact hb15 | apply Below.alloc | apply Below.drew)) <;> (have z := hb15.size; first | omega | (simp; done) | (simp; omega))

set_option maxHeartbeats 2000000 in
theorem walk_CalcTells {H : Type} {enc : TypeId × Value → H} {base : Nat} {d : DataW H} {p : List MemPlace} (v : Value) (q : Int) (w : World) (ok : Value.okWide Try.prog w .any base 23 v) (tr : DataW.Trod enc Try.prog w 0 (fun _ => true) true 23 v d p) (wq : (Lit.int .u8 q).wf = true) :
    Calls Try.prog 3 #[v, .int .u8 q] w fun e w' => e = .returned (.bool true) ∧ Below w.heap.size w w' := by
  obtain ⟨k, n, b, t, rfl, w0, w1, w2, w3⟩ := open_val ok tr
  clear ok tr w0 w1 w2 w3 wq
  have hb0 : Below w.heap.size w w := Below.refl _ _
  go_enter Try.func3, Try.ntmps3
  go_wp2_with fail
  refine (first_any _ _).mono ?_
  rintro e w1 ⟨rfl, hraw⟩
  have Bv : Blk w1 w.heap.size 23 #[.int .u8 k, .int .i64 n, .int .i64 b, .int .i64 t] := Blk.beneath (by first | exact Blk.new _ _ _ | exact (Blk.new _ _ _).alloc _ | exact ((Blk.new _ _ _).alloc _).alloc _) hraw
  have hb1 : Below w.heap.size w w1 := Below.trans (by (repeat (first | exact hb0 | apply Below.alloc | apply Below.drew)) <;> (have z := hb0.size; first | omega | (simp; done) | (simp; omega))) (hraw.mono (by have z := hb0.size; (try simp only [World.size_alloc]); omega))
  clear hraw hb0
  go_wp2_with fail
  refine (rfirst_any _ _).mono ?_
  rintro e w2 ⟨rfl, hraw⟩
  have Bx : Blk w2 w1.heap.size 23 #[.int .u8 (firstK q), .int .i64 0, .int .i64 0, .int .i64 0] := Blk.beneath (by first | exact Blk.new _ _ _ | exact (Blk.new _ _ _).alloc _ | exact ((Blk.new _ _ _).alloc _).alloc _) hraw
  replace Bv : Blk w2 w.heap.size 23 #[.int .u8 k, .int .i64 n, .int .i64 b, .int .i64 t] := Blk.beneath (by repeat (first | exact Bv | apply Blk.alloc | apply Blk.drew)) hraw
  have hb2 : Below w.heap.size w w2 := Below.trans (by (repeat (first | exact hb1 | apply Below.alloc | apply Below.drew)) <;> (have z := hb1.size; first | omega | (simp; done) | (simp; omega))) (hraw.mono (by have z := hb1.size; (try simp only [World.size_alloc]); omega))
  clear hraw hb1
  go_wp2_with fail
  refine wp_region_off (by kernel_rfl) (by kernel_rfl) ?_
  intro W1 hW1
  have Cv : Blk W1 _ _ _ := hW1 ▸ Bv.alloc _
  have Cx : Blk W1 _ _ _ := hW1 ▸ Bx.alloc _
  have Cy : Blk W1 _ _ _ := hW1 ▸ Blk.new w2 23 #[.int .u8 (firstK q), .int .i64 0, .int .i64 0, .int .i64 0]
  have qv : ∀ (m : Off W1) (i : Nat), _ := fun m i => (Cv.beneath m.below).cells i
  have qx : ∀ (m : Off W1) (i : Nat), _ := fun m i => (Cx.beneath m.below).cells i
  have qy : ∀ (m : Off W1) (i : Nat), _ := fun m i => (Cy.beneath m.below).cells i
  have hbW : Below w.heap.size w W1 := hW1 ▸ hb2.alloc hb2.size _
  have HB := Lib.hid hbW
  clear hW1 Cv Cx Cy Bv Bx hb2 hbW
  repeat (go_big_quiet_step (first | (go_at_call 11; exact Calls.off (check_any _ _ _ _ _)) | (go_at_call 12; exact Calls.off (rcheck_any _ _ _ _ _)) | (go_at_call 13; exact Calls.off (fits_any _ _ _ _ _ _)) | (go_at_call 14; exact Calls.off (rfits_any _ _ _ _ _ _))))
  repeat (go_big_quiet_step (first | (go_at_call 11; exact Calls.off (check_any _ _ _ _ _)) | (go_at_call 12; exact Calls.off (rcheck_any _ _ _ _ _)) | (go_at_call 13; exact Calls.off (fits_any _ _ _ _ _ _)) | (go_at_call 14; exact Calls.off (rfits_any _ _ _ _ _ _))))
  refine wpQuiet_nil ?_
  intro w3 hw3
  obtain ⟨⟨w3, hb3⟩, rfl⟩ := hw3
  go_wp2_with fail
  go_ret
  exact ⟨rfl, HB.out.trans (hb3.mono HB.out.size)⟩

end Go.Proofs.Ytliihlidobajdaa
