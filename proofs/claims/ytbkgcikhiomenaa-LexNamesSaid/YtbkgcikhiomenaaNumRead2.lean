/-
  The walk of num.Read, behind the first tests.
-/
import Derived.Test.YtbkgcikhiomenaaNumRead
import Derived.Deep.Cut
namespace Go.Proofs.Ytbkgcikhiomenaa
set_option linter.unusedVariables false
set_option linter.unusedSimpArgs false
open Go.ChangeShapes Go.WideShapes Go.ChangeAt Go.RowKit Go.Lib

set_option maxHeartbeats 1000000 in
theorem read_nodig_f (s r : ByteArray) (h : Signed s false r) (h1 : 1 ≤ r.size) (h2 : r.size ≤ 19) (hz : ((r[0].toNat : Int) == 48) = false) (hd : ¬ AllDig r.data.toList) (w : World) :
    Calls Try.prog 37 #[.string s] w fun e w' => e = .returned (.tuple #[.int .i64 0, .int .i64 10]) ∧ Below w.heap.size w w' := by
  have hmf : ∀ (fn : Fn) (first cap : Array Value) (w : World), (Instr.makeFunc fn first cap).run Try.prog w = .ok (.func fn first cap) w := fun _ _ _ _ => rfl
  have HS := Lib.hid h
  have he := isEmpty_f h1
  have q1 : (r.size : Int) ≤ 19 := by omega
  have q0 : 0 < r.size := by omega
  have HY : Hid (∀ w, Calls Try.prog 44 #[.string r] w (NoDigits w)) := digits_no r hd
  clear hd
  clear h
  go_enter_defers Try.func37, Try.ntmps37
  go_upto_region 14 with (first | (go_at_call 24; refine (cut_is _ _ _ HS.out _).mono ?_; rintro e w' ⟨rfl, rfl⟩) | (go_at_call 44; refine (HY.out _).mono ?_; rintro e w1 ⟨x, rfl, hb1⟩; have B2 := ((Blk.new w 2 #[.int .i64 0]).alloc (.cells #[.int .i64 0] 23)).beneath hb1; have B3 := (Blk.new2 w (.cells #[.int .i64 0] 2) 23 #[.int .i64 0]).beneath hb1; have c2 := B2.cells; have c3 := B3.cells; have f2 := B2.free; have f3 := B3.free; have hB := Lib.hid (below_new2 hb1)))
  have D2 : Blk ((w1.setCell ⟨w.heap.size + 1, 0, none⟩ (.int .i64 10)).setCell ⟨w.heap.size, 0, none⟩ (.int .i64 (wrap64 x))) w.heap.size 2 #[.int .i64 (wrap64 x)] := ((B2.far (p := ⟨w.heap.size + 1, 0, none⟩) (Nat.succ_ne_self _).symm _).put 0 _)
  have D3 : Blk ((w1.setCell ⟨w.heap.size + 1, 0, none⟩ (.int .i64 10)).setCell ⟨w.heap.size, 0, none⟩ (.int .i64 (wrap64 x))) (w.heap.size + 1) 23 #[.int .i64 10] := ((B3.put 0 _).far (p := ⟨w.heap.size, 0, none⟩) (Nat.succ_ne_self _) _)
  have HW : Hid (Below w.heap.size w ((w1.setCell ⟨w.heap.size + 1, 0, none⟩ (.int .i64 10)).setCell ⟨w.heap.size, 0, none⟩ (.int .i64 (wrap64 x)))) := (belowSet0 (belowSetK hB.out))
  clear c2 c3 f2 f3 B2 B3 hB hb1
  generalize ((w1.setCell ⟨w.heap.size + 1, 0, none⟩ (.int .i64 10)).setCell ⟨w.heap.size, 0, none⟩ (.int .i64 (wrap64 x))) = W2 at D2 D3 HW ⊢
  have c2 := D2.cells
  have c3 := D3.cells
  have f2 := D2.free
  have f3 := D3.free
  go_region
  go_wp2
  refine leaves_cons (f := 43) (args := #[.pointer (some ⟨w.heap.size + 1, 0, none⟩), .pointer (some ⟨w.heap.size, 0, none⟩)]) (by simp) (by simp [go_sem]) ?_
  refine (late_bad' _ _ 10 rfl _ _ ?_ ?_ ?_).mono ?_
  · simp [go_sem, c3]
  · exact ⟨_, by simp [go_sem, c2]; rfl⟩
  · simp [go_sem, f2]
  rintro e u' w'' ⟨rfl, rfl, rfl⟩
  refine ⟨.tuple #[.int .i64 0, .int .i64 10], ?_, rfl, ?_⟩
  · clear hz he q1 hmf
    simp [results, Try.results37, go_sem, c2, c3]
  · refine belowSet0 ?_
    first | exact Below.drew (belowSetK (belowSet0 HW.out)) | exact belowSetK (belowSet0 HW.out)

set_option maxHeartbeats 1000000 in
theorem read_nodig_t (s r : ByteArray) (h : Signed s true r) (h1 : 1 ≤ r.size) (h2 : r.size ≤ 19) (hz : ((r[0].toNat : Int) == 48) = false) (hd : ¬ AllDig r.data.toList) (w : World) :
    Calls Try.prog 37 #[.string s] w fun e w' => e = .returned (.tuple #[.int .i64 0, .int .i64 10]) ∧ Below w.heap.size w w' := by
  have hmf : ∀ (fn : Fn) (first cap : Array Value) (w : World), (Instr.makeFunc fn first cap).run Try.prog w = .ok (.func fn first cap) w := fun _ _ _ _ => rfl
  have HS := Lib.hid h
  have he := isEmpty_f h1
  have q1 : (r.size : Int) ≤ 19 := by omega
  have q0 : 0 < r.size := by omega
  have HY : Hid (∀ w, Calls Try.prog 44 #[.string r] w (NoDigits w)) := digits_no r hd
  clear hd
  clear h
  go_enter_defers Try.func37, Try.ntmps37
  go_upto_region 14 with (first | (go_at_call 24; refine (cut_is _ _ _ HS.out _).mono ?_; rintro e w' ⟨rfl, rfl⟩) | (go_at_call 44; refine (HY.out _).mono ?_; rintro e w1 ⟨x, rfl, hb1⟩; have B2 := ((Blk.new w 2 #[.int .i64 0]).alloc (.cells #[.int .i64 0] 23)).beneath hb1; have B3 := (Blk.new2 w (.cells #[.int .i64 0] 2) 23 #[.int .i64 0]).beneath hb1; have c2 := B2.cells; have c3 := B3.cells; have f2 := B2.free; have f3 := B3.free; have hB := Lib.hid (below_new2 hb1)))
  have D2 : Blk (((w1.setCell ⟨w.heap.size + 1, 0, none⟩ (.int .i64 10)).setCell ⟨w.heap.size, 0, none⟩ (.int .i64 (wrap64 x))).setCell ⟨w.heap.size, 0, none⟩ (.int .i64 (wrap64 (-wrap64 x)))) w.heap.size 2 #[.int .i64 (wrap64 (-wrap64 x))] := (((B2.far (p := ⟨w.heap.size + 1, 0, none⟩) (Nat.succ_ne_self _).symm _).put 0 _).put 0 _)
  have D3 : Blk (((w1.setCell ⟨w.heap.size + 1, 0, none⟩ (.int .i64 10)).setCell ⟨w.heap.size, 0, none⟩ (.int .i64 (wrap64 x))).setCell ⟨w.heap.size, 0, none⟩ (.int .i64 (wrap64 (-wrap64 x)))) (w.heap.size + 1) 23 #[.int .i64 10] := (((B3.put 0 _).far (p := ⟨w.heap.size, 0, none⟩) (Nat.succ_ne_self _) _).far (p := ⟨w.heap.size, 0, none⟩) (Nat.succ_ne_self _) _)
  have HW : Hid (Below w.heap.size w (((w1.setCell ⟨w.heap.size + 1, 0, none⟩ (.int .i64 10)).setCell ⟨w.heap.size, 0, none⟩ (.int .i64 (wrap64 x))).setCell ⟨w.heap.size, 0, none⟩ (.int .i64 (wrap64 (-wrap64 x))))) := (belowSet0 (belowSet0 (belowSetK hB.out)))
  clear c2 c3 f2 f3 B2 B3 hB hb1
  generalize (((w1.setCell ⟨w.heap.size + 1, 0, none⟩ (.int .i64 10)).setCell ⟨w.heap.size, 0, none⟩ (.int .i64 (wrap64 x))).setCell ⟨w.heap.size, 0, none⟩ (.int .i64 (wrap64 (-wrap64 x)))) = W2 at D2 D3 HW ⊢
  have c2 := D2.cells
  have c3 := D3.cells
  have f2 := D2.free
  have f3 := D3.free
  go_region
  go_wp2
  refine leaves_cons (f := 43) (args := #[.pointer (some ⟨w.heap.size + 1, 0, none⟩), .pointer (some ⟨w.heap.size, 0, none⟩)]) (by simp) (by simp [go_sem]) ?_
  refine (late_bad' _ _ 10 rfl _ _ ?_ ?_ ?_).mono ?_
  · simp [go_sem, c3]
  · exact ⟨_, by simp [go_sem, c2]; rfl⟩
  · simp [go_sem, f2]
  rintro e u' w'' ⟨rfl, rfl, rfl⟩
  refine ⟨.tuple #[.int .i64 0, .int .i64 10], ?_, rfl, ?_⟩
  · clear hz he q1 hmf
    simp [results, Try.results37, go_sem, c2, c3]
  · refine belowSet0 ?_
    first | exact Below.drew (belowSetK (belowSet0 HW.out)) | exact belowSetK (belowSet0 HW.out)

set_option maxHeartbeats 1000000 in
theorem read_pos (s r : ByteArray) (h : Signed s false r) (h1 : 1 ≤ r.size) (h2 : r.size ≤ 19) (hz : ((r[0].toNat : Int) == 48) = false) (hd : AllDig r.data.toList) (hx : valD r.data.toList ≤ 9223372036854775807) (w : World) :
    Calls Try.prog 37 #[.string s] w fun e w' => e = .returned (.tuple #[.int .i64 (valD r.data.toList : Nat), .int .i64 0]) ∧ Below w.heap.size w w' := by
  have hmf : ∀ (fn : Fn) (first cap : Array Value) (w : World), (Instr.makeFunc fn first cap).run Try.prog w = .ok (.func fn first cap) w := fun _ _ _ _ => rfl
  have HS := Lib.hid h
  have he := isEmpty_f h1
  have q1 : (r.size : Int) ≤ 19 := by omega
  have q0 : 0 < r.size := by omega
  have HY := Lib.hid (digits_yes r h2 hd)
  clear hd
  generalize valD r.data.toList = n at *
  have q2 : (n : Int) ≤ 9223372036854775807 := by omega
  clear hx
  clear h
  go_enter_defers Try.func37, Try.ntmps37
  go_upto_region 14 with (first | (go_at_call 24; refine (cut_is _ _ _ HS.out _).mono ?_; rintro e w' ⟨rfl, rfl⟩) | (go_at_call 44; refine (HY.out _).mono ?_; rintro e w1 ⟨rfl, hb1⟩; have B2 := ((Blk.new w 2 #[.int .i64 0]).alloc (.cells #[.int .i64 0] 23)).beneath hb1; have B3 := (Blk.new2 w (.cells #[.int .i64 0] 2) 23 #[.int .i64 0]).beneath hb1; have c2 := B2.cells; have c3 := B3.cells; have f2 := B2.free; have f3 := B3.free; have hB := Lib.hid (below_new2 hb1)))
  have D2 : Blk (w1.setCell ⟨w.heap.size, 0, none⟩ (.int .i64 (n : Nat))) w.heap.size 2 #[.int .i64 (n : Nat)] := (B2.put 0 _)
  have D3 : Blk (w1.setCell ⟨w.heap.size, 0, none⟩ (.int .i64 (n : Nat))) (w.heap.size + 1) 23 #[.int .i64 0] := (B3.far (p := ⟨w.heap.size, 0, none⟩) (Nat.succ_ne_self _) _)
  have HW : Hid (Below w.heap.size w (w1.setCell ⟨w.heap.size, 0, none⟩ (.int .i64 (n : Nat)))) := (belowSet0 hB.out)
  clear c2 c3 f2 f3 B2 B3 hB hb1
  generalize (w1.setCell ⟨w.heap.size, 0, none⟩ (.int .i64 (n : Nat))) = W2 at D2 D3 HW ⊢
  have c2 := D2.cells
  have c3 := D3.cells
  have f2 := D2.free
  have f3 := D3.free
  go_region
  go_wp2
  refine leaves_cons (f := 43) (args := #[.pointer (some ⟨w.heap.size + 1, 0, none⟩), .pointer (some ⟨w.heap.size, 0, none⟩)]) (by simp) (by simp [go_sem]) ?_
  refine (late_well _ _ _ _ ?_).mono ?_
  · simp [go_sem, c3]
  rintro e u' w'' ⟨rfl, rfl, rfl⟩
  refine ⟨.tuple #[.int .i64 n, .int .i64 0], ?_, rfl, ?_⟩
  · clear hz he q1 hmf
    simp [results, Try.results37, go_sem, c2, c3]
  · first | exact Below.drew (belowSetK (belowSet0 HW.out)) | exact belowSetK (belowSet0 HW.out)

end Go.Proofs.Ytbkgcikhiomenaa
