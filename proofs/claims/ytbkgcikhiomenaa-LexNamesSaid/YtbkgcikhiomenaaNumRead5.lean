/-
  The walk of num.Read, where a number is great, or below 0.
-/
import Derived.Test.YtbkgcikhiomenaaNumRead3
import Derived.Deep.CutRange
namespace Go.Proofs.Ytbkgcikhiomenaa
set_option linter.unusedVariables false
set_option linter.unusedSimpArgs false
open Go.ChangeShapes Go.WideShapes Go.ChangeAt Go.RowKit Go.Lib

set_option maxHeartbeats 1000000 in
theorem read_neg (s r : ByteArray) (h : Signed s true r) (h1 : 1 ≤ r.size) (h2 : r.size ≤ 19) (hz : ((r[0].toNat : Int) == 48) = false) (hd : AllDig r.data.toList) (hx : valD r.data.toList ≤ 9223372036854775808) (w : World) :
    Calls Try.prog 37 #[.string s] w fun e w' => e = .returned (.tuple #[.int .i64 (wrap64 (-wrap64 (valD r.data.toList : Nat))), .int .i64 0]) ∧ Below w.heap.size w w' := by
  have hmf : ∀ (fn : Fn) (first cap : Array Value) (w : World), (Instr.makeFunc fn first cap).run Try.prog w = .ok (.func fn first cap) w := fun _ _ _ _ => rfl
  have HS := Lib.hid h
  have he := isEmpty_f h1
  have q1 : (r.size : Int) ≤ 19 := by omega
  have q0 : 0 < r.size := by omega
  have HY : Hid (∀ w, Calls Try.prog 44 #[.string r] w (YesDigits (valD r.data.toList : Nat) w)) := digits_named r h2 hd
  have HQ : Hid (∀ x : Int, x = (valD r.data.toList : Nat) → x ≤ (9223372036854775808 : Int)) := by intro x hx'; omega
  clear hd hx
  generalize (valD r.data.toList : Int) = n at HY HQ ⊢
  clear h
  go_enter_defers Try.func37, Try.ntmps37
  go_upto_region 9 with (first | (go_at_call 24; refine (cut_is _ _ _ HS.out _).mono ?_; rintro e w' ⟨rfl, rfl⟩) | (go_at_call 44; refine (HY.out _).mono ?_; rintro e w1 ⟨x, rfl, hb1, hx⟩; have B2 := ((Blk.new w 2 #[.int .i64 0]).alloc (.cells #[.int .i64 0] 23)).beneath hb1; have B3 := (Blk.new2 w (.cells #[.int .i64 0] 2) 23 #[.int .i64 0]).beneath hb1; have c2 := B2.cells; have c3 := B3.cells; have f2 := B2.free; have f3 := B3.free; have hB := Lib.hid (below_new2 hb1)))
  go_cut [45] from 39 to 45 (fun s45 wx => s45 = .bool false ∧ w1 = wx)
  case first =>
    have q2 := HQ.out x hx.out
    go_wp2
    go_meet
    case rel => exact ⟨by first | rfl | exact congrArg Value.bool (decide_eq_false (by omega)), rfl⟩
  obtain ⟨rfl, rfl⟩ := hcut
  clear HQ HY
  go_upto_region 14 with (fail)
  have D2 : Blk ((w1.setCell ⟨w.heap.size, 0, none⟩ (.int .i64 (wrap64 x))).setCell ⟨w.heap.size, 0, none⟩ (.int .i64 (wrap64 (-wrap64 x)))) w.heap.size 2 #[.int .i64 (wrap64 (-wrap64 x))] := ((B2.put 0 _).put 0 _)
  have D3 : Blk ((w1.setCell ⟨w.heap.size, 0, none⟩ (.int .i64 (wrap64 x))).setCell ⟨w.heap.size, 0, none⟩ (.int .i64 (wrap64 (-wrap64 x)))) (w.heap.size + 1) 23 #[.int .i64 0] := ((B3.far (p := ⟨w.heap.size, 0, none⟩) (Nat.succ_ne_self _) _).far (p := ⟨w.heap.size, 0, none⟩) (Nat.succ_ne_self _) _)
  have HW : Hid (Below w.heap.size w ((w1.setCell ⟨w.heap.size, 0, none⟩ (.int .i64 (wrap64 x))).setCell ⟨w.heap.size, 0, none⟩ (.int .i64 (wrap64 (-wrap64 x))))) := (belowSet0 (belowSet0 hB.out))
  clear c2 c3 f2 f3 B2 B3 hB hb1
  generalize ((w1.setCell ⟨w.heap.size, 0, none⟩ (.int .i64 (wrap64 x))).setCell ⟨w.heap.size, 0, none⟩ (.int .i64 (wrap64 (-wrap64 x)))) = W2 at D2 D3 HW ⊢
  have c2 := D2.cells
  have c3 := D3.cells
  have f2 := D2.free
  have f3 := D3.free
  go_region
  go_wp2
  refine leaves_cons (f := 43) (args := #[.pointer (some ⟨w.heap.size + 1, 0, none⟩), .pointer (some ⟨w.heap.size, 0, none⟩)]) (by simp) (by simp [go_sem]) ?_
  refine (late_well _ _ _ _ ?_).mono ?_
  · simp [go_sem, c3]
  rintro e u' w'' ⟨rfl, rfl, rfl⟩
  refine ⟨.tuple #[.int .i64 (wrap64 (-wrap64 x)), .int .i64 0], ?_, by rw [hx.out], ?_⟩
  · clear hz he q1 hmf
    simp [results, Try.results37, go_sem, c2, c3]
  · first | exact Below.drew (belowSetK (belowSet0 HW.out)) | exact belowSetK (belowSet0 HW.out)

end Go.Proofs.Ytbkgcikhiomenaa
