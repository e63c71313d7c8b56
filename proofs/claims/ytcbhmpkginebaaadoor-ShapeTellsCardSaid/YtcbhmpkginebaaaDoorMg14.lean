/-
  Arguments of the types Ins and End, opened. An argument of the type Program, opened: how it lies; and that no list of instructions is greater than memory.
-/
import Derived.Test.YtcbhmpkginebaaaDoorMg13
import Derived.Lib.SmallJoins
namespace Go.Proofs.YtcbhmpkginebaaaDoor
set_option linter.unusedVariables false
set_option linter.unusedSimpArgs false
open Go.ChangeShapes Go.WideShapes Go.ChangeAt Go.RowKit Go.Joins

theorem array7 {α : Type} {cs : Array α} (h : cs.size = 7) : ∃ c0 c1 c2 c3 c4 c5 c6, cs = #[c0, c1, c2, c3, c4, c5, c6] := by
  obtain ⟨l⟩ := cs
  match l, h with
  | [c0, c1, c2, c3, c4, c5, c6], _ => exact ⟨c0, c1, c2, c3, c4, c5, c6, rfl⟩
theorem list7 {α : Type} {l : List α} (h : l.length = 7) : ∃ c0 c1 c2 c3 c4 c5 c6, l = [c0, c1, c2, c3, c4, c5, c6] := by
  match l, h with
  | [c0, c1, c2, c3, c4, c5, c6], _ => exact ⟨c0, c1, c2, c3, c4, c5, c6, rfl⟩
theorem cellsIns : Tryd.prog.cellsOf 24 = 7 := by kernel_rfl
theorem cellsEnd : Tryd.prog.cellsOf 26 = 4 := by kernel_rfl
theorem cellsU8 : Tryd.prog.cellsOf 5 = 1 := by kernel_rfl
theorem cellsI64 : Tryd.prog.cellsOf 2 = 1 := by kernel_rfl
theorem cellsInts : Tryd.prog.cellsOf 22 = 1 := by kernel_rfl
section
variable {H : Type} {enc : TypeId × Value → H} {w : World} {base b0 : Nat} {spare : Nat → Bool} {held : Bool} {r : Reach} {v : Value} {d : DataW H} {p : List MemPlace}
set_option maxRecDepth 100000 in
theorem open_ins_arg (hv : Value.okWide Tryd.prog w r b0 24 v) (h : DataW.Trod enc Tryd.prog w base spare held 24 v d p) :
    ∃ (op : Nat) (ty a b n : Int) (A : Option Addr) (ca : Nat) (args : List Int) (F : Option Addr) (lf cf : Nat), v = insV op ty a b n A args.length ca F lf cf ∧ op ≤ 255 ∧ Hdr A args.length ca ∧ IntsAt w 0 w.heap.size A args := by
  obtain ⟨cs, rfl, hsz⟩ := okWide_struct Tryd.underlying24 hv
  obtain ⟨c0, c1, c2, c3, c4, c5, c6, rfl⟩ := array7 (hsz.trans cellsIns)
  obtain ⟨fuel, hf⟩ := h
  obtain ⟨xs, n, _, _, hl, hlen, hq⟩ := DataW.trod_struct Tryd.underlying24 hf
  obtain ⟨y0, y1, y2, y3, y4, y5, y6, rfl⟩ := list7 hlen
  have q0 : DataW.trod enc Tryd.prog w base spare held n 5 [c0] = some y0 := by
    have := hq 0 _ rfl
    simpa [Value.cells, cellsU8, cellsInt, cellsI64, cellsInts] using this
  have q1 : DataW.trod enc Tryd.prog w base spare held n 3 [c1] = some y1 := by
    have := hq 1 _ rfl
    simpa [Value.cells, cellsU8, cellsInt, cellsI64, cellsInts] using this
  have q2 : DataW.trod enc Tryd.prog w base spare held n 3 [c2] = some y2 := by
    have := hq 2 _ rfl
    simpa [Value.cells, cellsU8, cellsInt, cellsI64, cellsInts] using this
  have q3 : DataW.trod enc Tryd.prog w base spare held n 3 [c3] = some y3 := by
    have := hq 3 _ rfl
    simpa [Value.cells, cellsU8, cellsInt, cellsI64, cellsInts] using this
  have q4 : DataW.trod enc Tryd.prog w base spare held n 2 [c4] = some y4 := by
    have := hq 4 _ rfl
    simpa [Value.cells, cellsU8, cellsInt, cellsI64, cellsInts] using this
  have q5 : DataW.trod enc Tryd.prog w base spare held n 22 [c5] = some y5 := by
    have := hq 5 _ rfl
    simpa [Value.cells, cellsU8, cellsInt, cellsI64, cellsInts] using this
  have q6 : DataW.trod enc Tryd.prog w base spare held n 22 [c6] = some y6 := by
    have := hq 6 _ rfl
    simpa [Value.cells, cellsU8, cellsInt, cellsI64, cellsInts] using this
  obtain ⟨z0, e0, _, w0⟩ := DataW.trod_int Tryd.underlying5 q0
  obtain ⟨z1, e1, _, _⟩ := DataW.trod_int Tryd.underlying3 q1
  obtain ⟨z2, e2, _, _⟩ := DataW.trod_int Tryd.underlying3 q2
  obtain ⟨z3, e3, _, _⟩ := DataW.trod_int Tryd.underlying3 q3
  obtain ⟨z4, e4, _, _⟩ := DataW.trod_int Tryd.underlying2 q4
  obtain ⟨A, ca, args, e5, hd, ha, _⟩ := open_nums q5
  obtain ⟨F, lf, cf, e6⟩ := slice_form Tryd.underlying22 q6
  injection e0 with e0 _
  injection e1 with e1 _
  injection e2 with e2 _
  injection e3 with e3 _
  injection e4 with e4 _
  injection e5 with e5 _
  injection e6 with e6 _
  subst e0 e1 e2 e3 e4 e5 e6
  simp only [Lit.wf, Bool.and_eq_true, decide_eq_true_eq] at w0
  have h2 : IntKind.u8.max = 255 := by decide
  have h3 : IntKind.u8.min = 0 := by decide
  refine ⟨z0.toNat, z1, z2, z3, z4, A, ca, args, F, lf, cf, ?_, by omega, hd, ha⟩
  unfold insV
  rw [show ((z0.toNat : Nat) : Int) = z0 by omega]
set_option maxRecDepth 100000 in
theorem open_end_arg (hv : Value.okWide Tryd.prog w r b0 26 v) (h : DataW.Trod enc Tryd.prog w base spare held 26 v d p) :
    ∃ k a t e : Int, v = .agg #[.int .u8 k, .int .i64 a, .int .i64 t, .int .i64 e] := by
  obtain ⟨c0, c1, c2, c3, y0, y1, y2, y3, m, rfl, rfl, rfl, h0, h1, h2, h3⟩ := open_agg4 Tryd.underlying26 (by kernel_rfl) cellsEnd hv h
  obtain ⟨k, e0, _, _⟩ := DataW.trod_int Tryd.underlying5 h0
  obtain ⟨n, e1, _, _⟩ := DataW.trod_int Tryd.underlying3 h1
  obtain ⟨b, e2, _, _⟩ := DataW.trod_int Tryd.underlying3 h2
  obtain ⟨t, e3, _, _⟩ := DataW.trod_int Tryd.underlying3 h3
  simp at e0 e1 e2 e3
  subst e0 e1 e2 e3
  exact ⟨k, n, b, t, rfl⟩
set_option maxRecDepth 100000 in
theorem walk_ShapeUses (v0 v1 : Value) (W : World) {base : Nat} {d0 d1 : DataW H} {p0 p1 : List MemPlace} (o0 : Value.okWide Tryd.prog W r b0 24 v0) (h0 : DataW.Trod enc Tryd.prog W base spare held 24 v0 d0 p0)
    (o1 : Value.okWide Tryd.prog W r b0 26 v1) (h1 : DataW.Trod enc Tryd.prog W base spare held 26 v1 d1 p1) (ht : TabW W) :
    Calls Tryd.prog 3 #[v0, v1] W fun e w' => e = .returned (.bool true) ∧ Below W.heap.size W w' := by
  obtain ⟨op, ty, a, b, n, A, ca, args, F, lf, cf, rfl, hop, hd, ha⟩ := open_ins_arg o0 h0
  obtain ⟨k, ea, et, ee, rfl⟩ := open_end_arg o1 h1
  exact walk_ShapeUses0 hop ty a b n hd ha F lf cf k ea et ee ht
end
end Go.Proofs.YtcbhmpkginebaaaDoor
namespace Go.Proofs.YtcbhmpkginebaaaDoor
set_option linter.unusedVariables false
set_option linter.unusedSimpArgs false
open Go.ChangeShapes Go.WideShapes Go.ChangeAt Go.RowKit Go.Deep Go.Joins

section
variable {H : Type} {enc : TypeId × Value → H} {P : Program} {w : World} {base : Nat} {spare : Nat → Bool} {held : Bool}
/-- Nothing in a datum takes more than memory. -/
def Fits {H : Type} (P : Program) (t : TypeId) (d : DataW H) : Prop := ∀ n ∈ d.weights P t, n ≤ reachBytes
theorem weights_all {e : TypeId} {l : List (DataW H)} {d : DataW H} (h : d ∈ l) {n : Nat} (hn : n ∈ d.weights P e) : n ∈ DataW.weightsAll P e l := by
  induction l with
  | nil => exact absurd h List.not_mem_nil
  | cons x l ih =>
    rw [DataW.weightsAll, List.mem_append]
    rcases List.mem_cons.1 h with rfl | h
    · exact .inl hn
    · exact .inr (ih h)
theorem open_rows_w {t e : TypeId} {fuel : Nat} {cs : List Value} {x : DataW H × List MemPlace} (ht : P.underlying t = some (.slice e)) (hc : 0 < P.cellsOf e) (h : DataW.trod enc P w base spare held fuel t cs = some x) (hw : Fits P t x.1) :
    ∃ (A : Option Addr) (n c : Nat) (V : Nat → List Value), cs = [.slice A n c] ∧ n ≤ c ∧ c ≤ maxLen ∧ (A = none → n = 0 ∧ c = 0) ∧
      CellsAt w 0 w.heap.size A (P.cellsOf e) n (fun i j => (V i).getD j undef) ∧ n * P.bytesOf e ≤ reachBytes ∧ ∀ i, i < n → (V i).length = P.cellsOf e ∧ ∃ m y, DataW.trod enc P w base spare held m e (V i) = some y ∧ Fits P e y.1 := by
  rcases open_slice ht h with ⟨rfl, _⟩ | ⟨a, len, cap, m, n, D, Pl, rfl, hb, hl, hm, hmm, rfl, hx⟩
  · exact ⟨none, 0, 0, fun _ => [], rfl, Nat.le_refl _, by unfold maxLen; omega, fun _ => ⟨rfl, rfl⟩, CellsAt.empty, by rw [Nat.zero_mul]; exact Nat.zero_le _, fun i hi => by omega⟩
  · have hlm : len ≤ m := by rw [hmm]; split <;> omega
    have hwt : ∀ k ∈ ((((List.range len).map D).length + ((List.range (m - len)).map fun j => D (len + j)).length) * P.bytesOf e :: (DataW.weightsAll P e ((List.range len).map D) ++ DataW.weightsAll P e ((List.range (m - len)).map fun j => D (len + j)))), k ≤ reachBytes := by
      have h1 := hw
      unfold Fits at h1
      dsimp only at h1
      rw [DataW.weights] at h1
      simp only [ht] at h1
      exact h1
    obtain ⟨V, hV⟩ := choose_lt (α := List Value) (p := fun i cs' => w.cells? base (a.add (i * P.cellsOf e)) (P.cellsOf e) = some cs' ∧ DataW.trod enc P w base spare held n e cs' = some (D i, Pl i)) hx
    refine ⟨some a, len, cap, V, rfl, hl, hm, (fun h => by cases h), (fun hn => ?_), ?_, fun i hi => ?_⟩
    · obtain ⟨b, off, spot⟩ := a
      obtain ⟨h0, _⟩ := hV 0 (by omega)
      obtain ⟨hb0, hlen0, hcell0⟩ := World.cells?_some h0
      have hspot : spot = none := by
        have g := hcell0 0 hc
        rw [List.getElem?_eq_getElem (by omega)] at g
        simpa [Addr.add] using World.cell?_spot g
      subst hspot
      have hcell : ∀ i, i < len → ∀ j, j < P.cellsOf e → w.cell? ⟨b, off + i * P.cellsOf e + j, none⟩ = some ((V i).getD j undef) := by
        intro i hi j hj
        obtain ⟨h1, _⟩ := hV i (by omega)
        obtain ⟨_, hlen1, hcell1⟩ := World.cells?_some h1
        have g := hcell1 j hj
        rw [add_plain, add_plain] at g
        rw [g, List.getD_eq_getElem?_getD, List.getElem?_eq_getElem (by omega)]
        rfl
      exact ⟨b, off, rfl, Nat.zero_le _, World.block_lt_of_cell? w _ (hcell 0 hn 0 hc), hcell⟩
    · have := hwt _ (List.mem_cons_self ..)
      rw [List.length_map, List.length_map, List.length_range, List.length_range] at this
      exact Nat.le_trans (Nat.mul_le_mul_right _ (by omega)) this
    · obtain ⟨h1, h2⟩ := hV i (by omega)
      obtain ⟨_, hlen1, _⟩ := World.cells?_some h1
      refine ⟨hlen1, n, _, h2, fun k hk => hwt k (List.mem_cons_of_mem _ (List.mem_append_left _ ?_))⟩
      exact weights_all (List.mem_map.2 ⟨i, List.mem_range.2 hi, rfl⟩) hk
theorem fits_fst {t : TypeId} {f0 f1 : Field} {a b : DataW H} (ht : P.underlying t = some (.struct #[f0, f1])) (h : Fits P t (.agg [a, b])) : Fits P f0.type a := fun n hn => h n (by
  rw [DataW.weights]
  simp only [ht]
  rw [show (#[f0, f1] : Array Field).toList.map (·.type) = [f0.type, f1.type] from rfl, DataW.weightsEach]
  exact List.mem_append_left _ hn)
theorem fits_snd {t : TypeId} {f0 f1 : Field} {a b : DataW H} (ht : P.underlying t = some (.struct #[f0, f1])) (h : Fits P t (.agg [a, b])) : Fits P f1.type b := fun n hn => h n (by
  rw [DataW.weights]
  simp only [ht]
  rw [show (#[f0, f1] : Array Field).toList.map (·.type) = [f0.type, f1.type] from rfl, DataW.weightsEach, DataW.weightsEach]
  exact List.mem_append_right _ (List.mem_append_left _ hn))
end
theorem cellsBlock : Tryd.prog.cellsOf 58 = 5 := by kernel_rfl
theorem cellsFunc : Tryd.prog.cellsOf 55 = 2 := by kernel_rfl
theorem cellsInss : Tryd.prog.cellsOf 56 = 1 := by kernel_rfl
theorem cellsBlks : Tryd.prog.cellsOf 53 = 1 := by kernel_rfl
theorem cellsFuns : Tryd.prog.cellsOf 33 = 1 := by kernel_rfl
theorem cellsTyps : Tryd.prog.cellsOf 32 = 1 := by kernel_rfl
theorem cellsProg : Tryd.prog.cellsOf 35 = 2 := by kernel_rfl
theorem bytesIns : Tryd.prog.bytesOf 24 = 88 := by kernel_rfl
section
variable {H : Type} {enc : TypeId × Value → H} {w : World} {base b0 : Nat} {spare : Nat → Bool} {held : Bool} {r : Reach} {v : Value} {d : DataW H} {p : List MemPlace}
theorem open_inss {fuel : Nat} {cs : List Value} {x : DataW H × List MemPlace} (h : DataW.trod enc Tryd.prog w base spare held fuel 56 cs = some x) (hw : Fits Tryd.prog 56 x.1) :
    ∃ (A : Option Addr) (c : Nat) (rows : List InR), cs = [.slice A rows.length c] ∧ InsAt w A c rows ∧ rows.length ≤ 4000000000000 := by
  obtain ⟨A, n, c, V, rfl, h1, h2, h3, h4, h6, h5⟩ := open_rows_w Tryd.underlying56 (by rw [cellsIns]; omega) h hw
  rw [cellsIns] at h4 h5
  rw [bytesIns] at h6
  unfold reachBytes at h6
  have key : ∀ i, i < n → ∃ r : InR, (∀ j, j < 7 → (V i).getD j undef = r.cell j) ∧ r.Ok w := fun i hi => by
    obtain ⟨_, m, y, hy, _⟩ := h5 i hi
    obtain ⟨m', hl, hf⟩ := open_one Tryd.underlying24 (hone_of (by kernel_rfl)) (by kernel_rfl) hy
    obtain ⟨y0, g0⟩ := hf 0 _ rfl
    obtain ⟨y1, g1⟩ := hf 1 _ rfl
    obtain ⟨y2, g2⟩ := hf 2 _ rfl
    obtain ⟨y3, g3⟩ := hf 3 _ rfl
    obtain ⟨y4, g4⟩ := hf 4 _ rfl
    obtain ⟨y5, g5⟩ := hf 5 _ rfl
    obtain ⟨y6, g6⟩ := hf 6 _ rfl
    obtain ⟨z0, e0, _, w0⟩ := DataW.trod_int Tryd.underlying5 g0
    obtain ⟨z1, e1, _, w1⟩ := DataW.trod_int Tryd.underlying3 g1
    obtain ⟨z2, e2, _, w2⟩ := DataW.trod_int Tryd.underlying3 g2
    obtain ⟨z3, e3, _, w3⟩ := DataW.trod_int Tryd.underlying3 g3
    obtain ⟨z4, e4, _, w4⟩ := DataW.trod_int Tryd.underlying2 g4
    obtain ⟨A5, c5, xs, e5, hh5, hi5, _⟩ := open_nums g5
    obtain ⟨A6, c6, ys, e6, hh6, hi6, _⟩ := open_nums g6
    simp only [List.cons.injEq, and_true] at e0 e1 e2 e3 e4 e5 e6
    simp only [Lit.wf, Bool.and_eq_true, decide_eq_true_eq] at w0
    have m0 : IntKind.u8.min = 0 := by decide
    have m1 : IntKind.u8.max = 255 := by decide
    refine ⟨⟨z0.toNat, z1, z2, z3, z4, A5, c5, xs, A6, c6, ys⟩, fun j hj => ?_, ⟨by show z0.toNat ≤ 255; omega, hh5, hi5, hh6, hi6⟩⟩
    match j, hj with
    | 0, _ => rw [e0]; show Value.int .u8 z0 = .int .u8 (z0.toNat : Int); congr 1; omega
    | 1, _ => rw [e1]; rfl
    | 2, _ => rw [e2]; rfl
    | 3, _ => rw [e3]; rfl
    | 4, _ => rw [e4]; rfl
    | 5, _ => rw [e5]; rfl
    | 6, _ => rw [e6]; rfl
  obtain ⟨f, hf⟩ := choose_lt key
  have hlen : ((List.range n).map f).length = n := by simp
  refine ⟨A, c, (List.range n).map f, by rw [hlen], ⟨⟨by rw [hlen]; exact h1, h2, by rw [hlen]; exact h3⟩, ?_, ?_⟩, by rw [hlen]; omega⟩
  · rw [hlen]
    refine h4.congr fun i hi j hj => ?_
    rw [(hf i hi).1 j hj]
    simp [List.getD, hi]
  · intro r hr
    obtain ⟨i, hi, rfl⟩ := List.mem_map.1 hr
    exact (hf i (List.mem_range.1 hi)).2
theorem take1_0 (cs : List Value) (h : 0 < cs.length) : cs.take 1 = [cs.getD 0 undef] := by
  cases cs with
  | nil => exact absurd h (Nat.lt_irrefl 0)
  | cons a l => rfl
theorem take1_1 (cs : List Value) (h : 1 < cs.length) : (cs.drop 1).take 1 = [cs.getD 1 undef] := by
  rw [take1_0 _ (by rw [List.length_drop]; omega), List.getD_eq_getElem?_getD, List.getElem?_drop, ← List.getD_eq_getElem?_getD]
theorem open_blocks {fuel : Nat} {cs : List Value} {x : DataW H × List MemPlace} (h : DataW.trod enc Tryd.prog w base spare held fuel 53 cs = some x) (hw : Fits Tryd.prog 53 x.1) :
    ∃ (A : Option Addr) (c : Nat) (rows : List BlR), cs = [.slice A rows.length c] ∧ BlksAt w A c rows ∧ ∀ b ∈ rows, b.ins.length ≤ 4000000000000 := by
  obtain ⟨A, n, c, V, rfl, h1, h2, h3, h4, h6, h5⟩ := open_rows_w Tryd.underlying53 (by rw [cellsBlock]; omega) h hw
  rw [cellsBlock] at h4 h5
  have key : ∀ i, i < n → ∃ r : BlR, (∀ j, j < 5 → (V i).getD j undef = r.cell j) ∧ r.Ok w ∧ r.ins.length ≤ 4000000000000 := fun i hi => by
    obtain ⟨hl5, m, y, hy, hfy⟩ := h5 i hi
    obtain ⟨y0, y1, m', hye, _, g0, g1⟩ := trod_struct2 Tryd.underlying58 hy
    rw [hye] at hfy
    have hf0 := fits_fst Tryd.underlying58 hfy
    dsimp only at g0 g1 hf0
    rw [cellsInss, List.drop_zero, take1_0 (V i) (by omega)] at g0
    obtain ⟨A0, c0, ins, e0, hins, hfit⟩ := open_inss g0 hf0
    rw [cellsEnd] at g1
    obtain ⟨m2, hl2, hf⟩ := open_one Tryd.underlying26 (hone_of (by kernel_rfl)) (by kernel_rfl) g1
    obtain ⟨u0, k0⟩ := hf 0 _ rfl
    obtain ⟨u1, k1⟩ := hf 1 _ rfl
    obtain ⟨u2, k2⟩ := hf 2 _ rfl
    obtain ⟨u3, k3⟩ := hf 3 _ rfl
    obtain ⟨z0, d0, _, w0⟩ := DataW.trod_int Tryd.underlying5 k0
    obtain ⟨z1, d1, _, _⟩ := DataW.trod_int Tryd.underlying3 k1
    obtain ⟨z2, d2, _, _⟩ := DataW.trod_int Tryd.underlying3 k2
    obtain ⟨z3, d3, _, _⟩ := DataW.trod_int Tryd.underlying3 k3
    simp only [List.cons.injEq, and_true] at e0 d0 d1 d2 d3
    simp only [Lit.wf, Bool.and_eq_true, decide_eq_true_eq] at w0
    have m0 : IntKind.u8.min = 0 := by decide
    have m1 : IntKind.u8.max = 255 := by decide
    have hget : ∀ j, j < 4 → (V i).getD (1 + j) undef = (((V i).drop 1).take 4).getD j undef := fun j hj => by
      rw [List.getD_eq_getElem?_getD, List.getD_eq_getElem?_getD, List.getElem?_take_of_lt hj, List.getElem?_drop]
    refine ⟨⟨A0, c0, ins, z0.toNat, z1, z2, z3⟩, fun j hj => ?_, ⟨by show z0.toNat ≤ 255; omega, hins⟩, hfit⟩
    match j, hj with
    | 0, _ => rw [e0]; rfl
    | 1, _ => exact (hget 0 (by omega)).trans (d0.trans (by show Value.int .u8 z0 = .int .u8 (z0.toNat : Int); congr 1; omega))
    | 2, _ => exact (hget 1 (by omega)).trans d1
    | 3, _ => exact (hget 2 (by omega)).trans d2
    | 4, _ => exact (hget 3 (by omega)).trans d3
  obtain ⟨f, hf⟩ := choose_lt key
  have hlen : ((List.range n).map f).length = n := by simp
  refine ⟨A, c, (List.range n).map f, by rw [hlen], ⟨⟨by rw [hlen]; exact h1, h2, by rw [hlen]; exact h3⟩, ?_, ?_⟩, ?_⟩
  · rw [hlen]
    refine h4.congr fun i hi j hj => ?_
    rw [(hf i hi).1 j hj]
    simp [List.getD, hi]
  · intro r hr
    obtain ⟨i, hi, rfl⟩ := List.mem_map.1 hr
    exact (hf i (List.mem_range.1 hi)).2.1
  · intro r hr
    obtain ⟨i, hi, rfl⟩ := List.mem_map.1 hr
    exact (hf i (List.mem_range.1 hi)).2.2
theorem open_funcs {fuel : Nat} {cs : List Value} {x : DataW H × List MemPlace} (h : DataW.trod enc Tryd.prog w base spare held fuel 33 cs = some x) (hw : Fits Tryd.prog 33 x.1) :
    ∃ (A : Option Addr) (c : Nat) (rows : List FuR), cs = [.slice A rows.length c] ∧ FusAt w A c rows ∧ ∀ f ∈ rows, ∀ b ∈ f.blocks, b.ins.length ≤ 4000000000000 := by
  obtain ⟨A, n, c, V, rfl, h1, h2, h3, h4, h6, h5⟩ := open_rows_w Tryd.underlying33 (by rw [cellsFunc]; omega) h hw
  rw [cellsFunc] at h4 h5
  have key : ∀ i, i < n → ∃ r : FuR, (∀ j, j < 2 → (V i).getD j undef = r.cell j) ∧ r.Ok w ∧ ∀ b ∈ r.blocks, b.ins.length ≤ 4000000000000 := fun i hi => by
    obtain ⟨hl2, m, y, hy, hfy⟩ := h5 i hi
    obtain ⟨y0, y1, m', hye, _, g0, g1⟩ := trod_struct2 Tryd.underlying55 hy
    rw [hye] at hfy
    have hf1 := fits_snd Tryd.underlying55 hfy
    dsimp only at g0 g1 hf1
    rw [cellsInt, List.drop_zero, take1_0 (V i) (by omega)] at g0
    rw [cellsBlks, take1_1 (V i) (by omega)] at g1
    obtain ⟨z0, e0, _, _⟩ := DataW.trod_int Tryd.underlying3 g0
    obtain ⟨A1, c1, blocks, e1, hb, hfit⟩ := open_blocks g1 hf1
    simp only [List.cons.injEq, and_true] at e0 e1
    refine ⟨⟨z0, A1, c1, blocks⟩, fun j hj => ?_, ⟨hb⟩, hfit⟩
    match j, hj with
    | 0, _ => rw [e0]; rfl
    | 1, _ => rw [e1]; rfl
  obtain ⟨f, hf⟩ := choose_lt key
  have hlen : ((List.range n).map f).length = n := by simp
  refine ⟨A, c, (List.range n).map f, by rw [hlen], ⟨⟨by rw [hlen]; exact h1, h2, by rw [hlen]; exact h3⟩, ?_, ?_⟩, ?_⟩
  · rw [hlen]
    refine h4.congr fun i hi j hj => ?_
    rw [(hf i hi).1 j hj]
    simp [List.getD, hi]
  · intro r hr
    obtain ⟨i, hi, rfl⟩ := List.mem_map.1 hr
    exact (hf i (List.mem_range.1 hi)).2.1
  · intro r hr
    obtain ⟨i, hi, rfl⟩ := List.mem_map.1 hr
    exact (hf i (List.mem_range.1 hi)).2.2
set_option maxRecDepth 100000 in
theorem open_prog_arg (hv : Value.okWide Tryd.prog w r b0 35 v) (h : DataW.Trod enc Tryd.prog w base spare held 35 v d p) (hw : Fits Tryd.prog 35 d) :
    ∃ q : PrR, v = q.val ∧ ProgIn w q ∧ ProgFit q := by
  obtain ⟨cs, rfl, hsz⟩ := okWide_struct Tryd.underlying35 hv
  rw [cellsProg] at hsz
  obtain ⟨c0, c1, rfl⟩ : ∃ c0 c1, cs = #[c0, c1] := by
    obtain ⟨l⟩ := cs
    match l, hsz with
    | [c0, c1], _ => exact ⟨c0, c1, rfl⟩
  obtain ⟨fuel, hf⟩ := h
  obtain ⟨y0, y1, m', hye, _, g0, g1⟩ := trod_struct2 Tryd.underlying35 hf
  injection hye with hye _
  subst hye
  have hf1 := fits_snd Tryd.underlying35 hw
  dsimp only at g0 g1 hf1
  have h0 : DataW.trod enc Tryd.prog w base spare held m' 32 [c0] = some y0 := by
    rw [cellsTyps] at g0
    exact g0
  have h1 : DataW.trod enc Tryd.prog w base spare held m' 33 [c1] = some y1 := by
    rw [cellsFuns] at g1
    exact g1
  obtain ⟨A0, k0, ts, e0, hh, htt⟩ := open_types h0
  obtain ⟨A1, k1, fs, e1, hfs, hfit⟩ := open_funcs h1 hf1
  injection e0 with e0 _
  injection e1 with e1 _
  subst e0 e1
  exact ⟨⟨A0, k0, ts, A1, k1, fs⟩, rfl, ⟨⟨hh, htt⟩, hfs⟩, hfit⟩
end
end Go.Proofs.YtcbhmpkginebaaaDoor
