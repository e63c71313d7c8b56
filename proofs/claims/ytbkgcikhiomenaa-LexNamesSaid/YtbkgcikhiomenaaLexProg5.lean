/-
  The program's lines of a text.
-/
import Derived.Test.YtbkgcikhiomenaaLexProg4
import Derived.Test.YtbkgcikhiomenaaLexRef3
namespace Go.Proofs.Ytbkgcikhiomenaa
set_option linter.unusedVariables false
set_option linter.unusedSimpArgs false
open Go.ChangeShapes Go.WideShapes Go.ChangeAt Go.RowKit

def rdA (s : ByteArray) : Array Value := (Value.string s :: .int .i64 0 :: (kindsA.toList ++ [.slice none 0 0, .slice none 0 0])).toArray
theorem wpList_build2 {P : Program} {ops : Array Oper} {Q : Exit → Act → World → Prop} {w : World} {rest : List Oper} {o : Oper} {a : Act} (hg : o.guard = none) (t : TypeId) (i j : Nat) (x y : Operand) (ho : o.op = .build t #[(i, x), (j, y)]) (vx vy : Value) (hx : a.eval x = vx) (hy : a.eval y = vy) (cs : Array Value)
    (hf : P.built t [(i, vx), (j, vy)] = some cs) (h : wpList P ops Q rest (a.put o.dst (.agg cs)) w) : wpList P ops Q (o :: rest) a w := by
  have e : ((#[(i, x), (j, y)] : Array (Nat × Operand)).map fun (i, x) => (i, a.eval x)).toList = [(i, vx), (j, vy)] := by simp [hx, hy]
  exact wpList_build hg t _ ho (by rw [e, hf]; rfl) (by rw [e, hf]; exact h)
theorem rd_built (s : ByteArray) : Try.prog.built 52 [(0, .string s), (2, .agg kindsA)] = some (rdA s) := by kernel_rfl
structure RdA (w : World) (s : ByteArray) : Prop where
  rd : Rd (w.alloc (.cells (rdA s) 52)) w.heap.size s 0 (.slice none 0 0) (.slice none 0 0)
theorem RdA.on (w : World) (s : ByteArray) : RdA w s := by
  have hb : (w.alloc (.cells (rdA s) 52)).heap[w.heap.size]? = some (.cells (rdA s) 52 (0, 0)) := heap_alloc_new w _
  have hc : ∀ i, (w.alloc (.cells (rdA s) 52)).cell? ⟨w.heap.size, i, none⟩ = (rdA s)[i]? := fun i => cell_of_row _ _ _ _ _ _ hb
  have hk : kindsA.toList = (List.range 64).map fun i => Value.int .i64 (kindN i) := rfl
  have hl : kindsA.toList.length = 64 := by rw [hk]; simp
  have hr : ∀ i, (rdA s)[i + 1 + 1]? = (kindsA.toList ++ [.slice none 0 0, .slice none 0 0])[i]? := fun i => by unfold rdA; rw [List.getElem?_toArray, List.getElem?_cons_succ, List.getElem?_cons_succ]
  refine ⟨⟨⟨_, hb⟩, (hc 0).trans rfl, (hc 1).trans rfl, fun i hi => (hc _).trans ?_, (hc 66).trans ?_, (hc 67).trans ?_⟩⟩
  · rw [show 2 + i = i + 1 + 1 by omega, hr, List.getElem?_append_left (by omega), hk, List.getElem?_map, List.getElem?_range hi]; rfl
  · rw [hr, List.getElem?_append_right (by omega), hl]; rfl
  · rw [hr, List.getElem?_append_right (by omega), hl]; rfl
set_option maxRecDepth 100000 in
theorem plines_any (s : ByteArray) (hs : s.size ≤ 20000) (w : World) : Calls Try.prog 8 #[.string s] w (LinesOut (linesP (toL s)) w) := by
  by_cases hbig : 16384 < s.size
  · have hq : (16384 : Int) < (s.size : Int) := by omega
    rw [show linesP (toL s) = none by unfold linesP; rw [toL_size, if_pos hbig]]
    clear hbig
    go_enter Try.func8, Try.ntmps8
    go_wp2_with fail
    go_ret2
    exact ⟨rfl, Below.refl _ _⟩
  · have hq : ¬ (16384 : Int) < (s.size : Int) := by omega
    rw [show linesP (toL s) = outR (toL s) [] [] by unfold linesP; rw [toL_size, if_neg hbig]]
    clear hbig
    go_enter Try.func8, Try.ntmps8
    go_wp2_with (first
      | (go_at_call 20; refine (kinds_any _).mono ?_; rintro e w1 ⟨rfl, hb1⟩)
      | (refine wpList_build2 rfl 52 0 2 (.tmp 8) (.tmp 9) (by rfl) (.string s) (.agg kindsA) (by rfl) (by rfl) (rdA s) (rd_built s) ?_; have d1 := (RdA.on w1 s).rd; have hlo1 := hb1.size; have hbl := Lib.hid (hb1.trans ((Below.refl _ _).alloc hlo1 (.cells (rdA s) 52)));  have HR := Lib.hid d1; clear d1)
      | (go_at_call 21; refine (run_any (lo := w.heap.size) HR.out hlo1 (by rw [World.size_alloc]; omega) hs).mono ?_; rintro e w2 ⟨p, ls, rows, rfl, hrd, hown, hrows, hbel⟩; obtain ⟨ob, HOB⟩ : ∃ ob, Hid ((outR (toL s) [] []).isSome = ob) := ⟨_, Lib.hid rfl⟩; rw [HOB.out]; have HRD := Lib.hid hrd; have HOW := Lib.hid hown; have HRW := Lib.hid hrows; have HBL := Lib.hid hbel; have c67 := hrd.lines; clear hrd hown hrows hbel))
    · have ho : ob = false := by simpa using ‹(!ob) = true›
      go_ret2
      cases hE : outR (toL s) [] [] with
      | none => exact ⟨rfl, hbl.out.trans HBL.out⟩
      | some out => have := HOB.out; rw [hE, ho] at this; cases this
    · have ho : ob = true := by simpa using ‹(!ob) = false›
      go_ret2
      cases hE : outR (toL s) [] [] with
      | none => have := HOB.out; rw [hE, ho] at this; cases this
      | some out => exact ⟨_, rows, rfl, HOW.out, HRW.out out hE, hbl.out.trans HBL.out⟩
end Go.Proofs.Ytbkgcikhiomenaa
