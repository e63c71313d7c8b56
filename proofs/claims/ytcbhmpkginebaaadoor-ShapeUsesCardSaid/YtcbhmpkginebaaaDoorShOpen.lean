/-
  Arguments of the types Ins and End, opened.
-/
import Derived.Test.YtcbhmpkginebaaaDoorShCard
import Derived.Lib.SmallJoins
namespace Go.Proofs.YtcbhmpkginebaaaDoor
set_option linter.unusedVariables false
set_option linter.unusedSimpArgs false
open Go.ChangeShapes Go.WideShapes Go.ChangeAt Go.RowKit Go.Joins

theorem array7 {α : Type} {cs : Array α} (h : cs.size = 7) : ∃ c0 c1 c2 c3 c4 c5 c6, cs = #[c0, c1, c2, c3, c4, c5, c6] := by
  obtain ⟨l⟩ := cs
  match l, h with
  | [c0, c1, c2, c3, c4, c5, c6], _ => exact ⟨c0, c1, c2, c3, c4, c5, c6, rfl⟩
theorem list7 {α : Type} {l : List α} (h : l.length = 7) : ∃ c0 c1 c2 c3 c4 c5 c6, l = [c0, c1, c2, c3, c4, c5, c6] := by
  match l, h with
  | [c0, c1, c2, c3, c4, c5, c6], _ => exact ⟨c0, c1, c2, c3, c4, c5, c6, rfl⟩
theorem cellsIns : Tryd.prog.cellsOf 24 = 7 := by kernel_rfl
theorem cellsEnd : Tryd.prog.cellsOf 26 = 4 := by kernel_rfl
theorem cellsU8 : Tryd.prog.cellsOf 5 = 1 := by kernel_rfl
theorem cellsI64 : Tryd.prog.cellsOf 2 = 1 := by kernel_rfl
theorem cellsInts : Tryd.prog.cellsOf 22 = 1 := by kernel_rfl
section
variable {H : Type} {enc : TypeId × Value → H} {w : World} {base b0 : Nat} {spare : Nat → Bool} {held : Bool} {r : Reach} {v : Value} {d : DataW H} {p : List MemPlace}
set_option maxRecDepth 100000 in
theorem open_ins_arg (hv : Value.okWide Tryd.prog w r b0 24 v) (h : DataW.Trod enc Tryd.prog w base spare held 24 v d p) :
    ∃ (op : Nat) (ty a b n : Int) (A : Option Addr) (ca : Nat) (args : List Int) (F : Option Addr) (lf cf : Nat), v = insV op ty a b n A args.length ca F lf cf ∧ op ≤ 255 ∧ Hdr A args.length ca ∧ IntsAt w 0 w.heap.size A args := by
  obtain ⟨cs, rfl, hsz⟩ := okWide_struct Tryd.underlying24 hv
  obtain ⟨c0, c1, c2, c3, c4, c5, c6, rfl⟩ := array7 (hsz.trans cellsIns)
  obtain ⟨fuel, hf⟩ := h
  obtain ⟨xs, n, _, _, hl, hlen, hq⟩ := DataW.trod_struct Tryd.underlying24 hf
  obtain ⟨y0, y1, y2, y3, y4, y5, y6, rfl⟩ := list7 hlen
  have q0 : DataW.trod enc Tryd.prog w base spare held n 5 [c0] = some y0 := by
    have := hq 0 _ rfl
    simpa [Value.cells, cellsU8, cellsInt, cellsI64, cellsInts] using this
  have q1 : DataW.trod enc Tryd.prog w base spare held n 3 [c1] = some y1 := by
    have := hq 1 _ rfl
    simpa [Value.cells, cellsU8, cellsInt, cellsI64, cellsInts] using this
  have q2 : DataW.trod enc Tryd.prog w base spare held n 3 [c2] = some y2 := by
    have := hq 2 _ rfl
    simpa [Value.cells, cellsU8, cellsInt, cellsI64, cellsInts] using this
  have q3 : DataW.trod enc Tryd.prog w base spare held n 3 [c3] = some y3 := by
    have := hq 3 _ rfl
    simpa [Value.cells, cellsU8, cellsInt, cellsI64, cellsInts] using this
  have q4 : DataW.trod enc Tryd.prog w base spare held n 2 [c4] = some y4 := by
    have := hq 4 _ rfl
    simpa [Value.cells, cellsU8, cellsInt, cellsI64, cellsInts] using this
  have q5 : DataW.trod enc Tryd.prog w base spare held n 22 [c5] = some y5 := by
    have := hq 5 _ rfl
    simpa [Value.cells, cellsU8, cellsInt, cellsI64, cellsInts] using this
  have q6 : DataW.trod enc Tryd.prog w base spare held n 22 [c6] = some y6 := by
    have := hq 6 _ rfl
    simpa [Value.cells, cellsU8, cellsInt, cellsI64, cellsInts] using this
  obtain ⟨z0, e0, _, w0⟩ := DataW.trod_int Tryd.underlying5 q0
  obtain ⟨z1, e1, _, _⟩ := DataW.trod_int Tryd.underlying3 q1
  obtain ⟨z2, e2, _, _⟩ := DataW.trod_int Tryd.underlying3 q2
  obtain ⟨z3, e3, _, _⟩ := DataW.trod_int Tryd.underlying3 q3
  obtain ⟨z4, e4, _, _⟩ := DataW.trod_int Tryd.underlying2 q4
  obtain ⟨A, ca, args, e5, hd, ha, _⟩ := open_nums q5
  obtain ⟨F, lf, cf, e6⟩ := slice_form Tryd.underlying22 q6
  injection e0 with e0 _
  injection e1 with e1 _
  injection e2 with e2 _
  injection e3 with e3 _
  injection e4 with e4 _
  injection e5 with e5 _
  injection e6 with e6 _
  subst e0 e1 e2 e3 e4 e5 e6
  simp only [Lit.wf, Bool.and_eq_true, decide_eq_true_eq] at w0
  have h2 : IntKind.u8.max = 255 := by decide
  have h3 : IntKind.u8.min = 0 := by decide
  refine ⟨z0.toNat, z1, z2, z3, z4, A, ca, args, F, lf, cf, ?_, by omega, hd, ha⟩
  unfold insV
  rw [show ((z0.toNat : Nat) : Int) = z0 by omega]
set_option maxRecDepth 100000 in
theorem open_end_arg (hv : Value.okWide Tryd.prog w r b0 26 v) (h : DataW.Trod enc Tryd.prog w base spare held 26 v d p) :
    ∃ k a t e : Int, v = .agg #[.int .u8 k, .int .i64 a, .int .i64 t, .int .i64 e] := by
  obtain ⟨c0, c1, c2, c3, y0, y1, y2, y3, m, rfl, rfl, rfl, h0, h1, h2, h3⟩ := open_agg4 Tryd.underlying26 (by kernel_rfl) cellsEnd hv h
  obtain ⟨k, e0, _, _⟩ := DataW.trod_int Tryd.underlying5 h0
  obtain ⟨n, e1, _, _⟩ := DataW.trod_int Tryd.underlying3 h1
  obtain ⟨b, e2, _, _⟩ := DataW.trod_int Tryd.underlying3 h2
  obtain ⟨t, e3, _, _⟩ := DataW.trod_int Tryd.underlying3 h3
  simp at e0 e1 e2 e3
  subst e0 e1 e2 e3
  exact ⟨k, n, b, t, rfl⟩
set_option maxRecDepth 100000 in
theorem walk_ShapeUses (v0 v1 : Value) (W : World) {base : Nat} {d0 d1 : DataW H} {p0 p1 : List MemPlace} (o0 : Value.okWide Tryd.prog W r b0 24 v0) (h0 : DataW.Trod enc Tryd.prog W base spare held 24 v0 d0 p0)
    (o1 : Value.okWide Tryd.prog W r b0 26 v1) (h1 : DataW.Trod enc Tryd.prog W base spare held 26 v1 d1 p1) (ht : TabW W) :
    Calls Tryd.prog 3 #[v0, v1] W fun e w' => e = .returned (.bool true) ∧ Below W.heap.size W w' := by
  obtain ⟨op, ty, a, b, n, A, ca, args, F, lf, cf, rfl, hop, hd, ha⟩ := open_ins_arg o0 h0
  obtain ⟨k, ea, et, ee, rfl⟩ := open_end_arg o1 h1
  exact walk_ShapeUses0 hop ty a b n hd ha F lf cf k ea et ee ht
end
end Go.Proofs.YtcbhmpkginebaaaDoor
