/-
  Memories of blocks as they lie in memory.
-/
import Derived.Test.YthddacnnhmcoaaaMmPure
namespace Go.Proofs.Ythddacnnhmcoaaa
set_option linter.unusedVariables false
set_option linter.unusedSimpArgs false
open Go.ChangeShapes Go.WideShapes Go.Deep Go.RowKit

def Vl.cell (v : Vl) (j : Nat) : Value := match j with
  | 0 => .int .u8 v.k
  | 1 => .int .i64 v.n
  | 2 => .int .i64 v.b
  | _ => .int .i64 v.t
def Vl.cells4 (v : Vl) : List Value := [.int .u8 v.k, .int .i64 v.n, .int .i64 v.b, .int .i64 v.t]
def Vl.val (v : Vl) : Value := valV v.k v.n v.b v.t
/-- A block as it lies: with where its cells lie. -/
structure BkR where
  site : Int
  type : Int
  depth : Int
  alive : Bool
  ca : Option Addr
  cc : Nat
  cells : List Vl
deriving Inhabited
def BkR.data (r : BkR) : Bk := ⟨r.site, r.type, r.depth, r.alive, r.cells⟩
def BkR.cell (r : BkR) (j : Nat) : Value := match j with
  | 0 => .int .i64 r.site
  | 1 => .int .i64 r.type
  | 2 => .int .i64 r.depth
  | 3 => .bool r.alive
  | _ => .slice r.ca r.cells.length r.cc
def BkR.cells5 (r : BkR) : List Value := [.int .i64 r.site, .int .i64 r.type, .int .i64 r.depth, .bool r.alive, .slice r.ca r.cells.length r.cc]
def BkR.val (r : BkR) : Value := .agg #[.int .i64 r.site, .int .i64 r.type, .int .i64 r.depth, .bool r.alive, .slice r.ca r.cells.length r.cc]
def ValsAt (w : World) (lo B : Nat) (A : Option Addr) (vs : List Vl) : Prop := CellsAt w lo B A 4 vs.length fun i j => (vs.getD i default).cell j
structure BkR.Ok (w : World) (lo B : Nat) (r : BkR) : Prop where
  hdr : Hdr r.ca r.cells.length r.cc
  vals : ValsAt w lo B r.ca r.cells
structure BlksAt (w : World) (lo B : Nat) (A : Option Addr) (rows : List BkR) : Prop where
  cells : CellsAt w lo B A 5 rows.length fun i j => (rows.getD i default).cell j
  ok : ∀ r ∈ rows, r.Ok w lo B
section
variable {w w' : World} {lo lo' B B' : Nat} {A : Option Addr} {rows : List BkR} {r : BkR} {vs : List Vl}
theorem ValsAt.keep (h : ValsAt w lo B A vs) (hb : Below B w w') : ValsAt w' lo B A vs := CellsAt.keep h hb
theorem ValsAt.more (h : ValsAt w lo B A vs) (h1 : lo' ≤ lo) (h2 : B ≤ B') : ValsAt w lo' B' A vs := CellsAt.more h h1 h2
theorem BkR.Ok.keep (h : r.Ok w lo B) (hb : Below B w w') : r.Ok w' lo B := ⟨h.hdr, h.vals.keep hb⟩
theorem BkR.Ok.more (h : r.Ok w lo B) (h1 : lo' ≤ lo) (h2 : B ≤ B') : r.Ok w lo' B' := ⟨h.hdr, h.vals.more h1 h2⟩
theorem BlksAt.keep (h : BlksAt w lo B A rows) (hb : Below B w w') : BlksAt w' lo B A rows := ⟨h.cells.keep hb, fun r hr => (h.ok r hr).keep hb⟩
theorem BlksAt.more (h : BlksAt w lo B A rows) (h1 : lo' ≤ lo) (h2 : B ≤ B') : BlksAt w lo' B' A rows := ⟨h.cells.more h1 h2, fun r hr => (h.ok r hr).more h1 h2⟩
end
theorem mem_getD {α : Type} {d : α} {l : List α} {i : Nat} (h : i < l.length) : l.getD i d ∈ l := by rw [getD_lt l h]; exact List.getElem_mem h

/-- The cells of element i. -/
structure Elem (w : World) (A : Option Addr) (i : Nat) (r : BkR) : Prop where
  at_ : ∃ b off, A = some ⟨b, off, none⟩ ∧ b < w.heap.size ∧ w.cell? ⟨b, off + i * 5, none⟩ = some (.int .i64 r.site) ∧ w.cell? ⟨b, off + i * 5 + 1, none⟩ = some (.int .i64 r.type) ∧ w.cell? ⟨b, off + i * 5 + 2, none⟩ = some (.int .i64 r.depth) ∧ w.cell? ⟨b, off + i * 5 + 3, none⟩ = some (.bool r.alive) ∧ w.cell? ⟨b, off + i * 5 + 4, none⟩ = some (.slice r.ca r.cells.length r.cc)
theorem BlksAt.elem {w : World} {lo B : Nat} {A : Option Addr} {rows : List BkR} (h : BlksAt w lo B A rows) {i : Nat} (hi : i < rows.length) : Elem w A i (rows.getD i default) := by
  obtain ⟨b, off, rfl, h1, h2, hc⟩ := h.cells (by omega)
  have c0 := hc i hi 0 (by omega)
  exact ⟨b, off, rfl, World.block_lt_of_cell? w _ c0, c0, hc i hi 1 (by omega), hc i hi 2 (by omega), hc i hi 3 (by omega), hc i hi 4 (by omega)⟩
theorem ValsAt.elem {w : World} {lo B : Nat} {A : Option Addr} {vs : List Vl} (h : ValsAt w lo B A vs) {i : Nat} (hi : i < vs.length) :
    ∃ b off v, A = some ⟨b, off, none⟩ ∧ b < w.heap.size ∧ w.cell? ⟨b, off + i * 4, none⟩ = some (.int .u8 (Vl.k v)) ∧ w.cell? ⟨b, off + i * 4 + 1, none⟩ = some (.int .i64 v.n) ∧ w.cell? ⟨b, off + i * 4 + 2, none⟩ = some (.int .i64 v.b) ∧ w.cell? ⟨b, off + i * 4 + 3, none⟩ = some (.int .i64 v.t) ∧ Hid (vs.getD i default = v) := by
  obtain ⟨b, off, rfl, h1, h2, hc⟩ := h (by omega)
  have c0 := hc i hi 0 (by omega)
  exact ⟨b, off, _, rfl, World.block_lt_of_cell? w _ c0, c0, hc i hi 1 (by omega), hc i hi 2 (by omega), hc i hi 3 (by omega), Lib.hid rfl⟩

/-- The memory that rows tell. -/
def mmb (rows : List BkR) : List Bk := rows.map BkR.data
theorem mmb_len (rows : List BkR) : (mmb rows).length = rows.length := by simp [mmb]
theorem mmb_at {rows : List BkR} {i : Nat} (h : i < rows.length) : (mmb rows).getD i default = (rows.getD i default).data := by
  unfold mmb
  rw [List.getD_eq_getElem?_getD, List.getElem?_map, List.getElem?_eq_getElem h, getD_lt rows h]
  rfl
/-- A memory that came in, by its slice. -/
structure MemIn (w : World) (A : Option Addr) (c : Nat) (rows : List BkR) : Prop where
  hdr : Hdr A rows.length c
  rows : BlksAt w 0 w.heap.size A rows
section
variable {w w' : World} {A : Option Addr} {c : Nat} {rows : List BkR}
theorem MemIn.on (h : MemIn w A c rows) (hb : Below w.heap.size w w') : MemIn w' A c rows := ⟨h.hdr, (h.rows.keep hb).more (Nat.le_refl _) hb.size⟩
theorem MemIn.len (h : MemIn w A c rows) : rows.length ≤ 9223372036854775807 := h.hdr.le
theorem MemIn.row (h : MemIn w A c rows) {i : Nat} (hi : i < rows.length) : (rows.getD i default).Ok w 0 w.heap.size := h.rows.ok _ (mem_getD (d := default) hi)
theorem MemIn.none : MemIn w Option.none 0 [] := ⟨⟨Nat.le_refl _, by unfold maxLen; omega, fun _ => ⟨rfl, rfl⟩⟩, CellsAt.empty, fun r hr => by cases hr⟩
end

section
variable {H : Type} {enc : TypeId × Value → H} {w : World} {base : Nat} {spare : Nat → Bool} {held : Bool}
theorem cellsVal : Try.prog.cellsOf 29 = 4 := by kernel_rfl
theorem cellsBlk : Try.prog.cellsOf 70 = 5 := by kernel_rfl
theorem open_vals {fuel : Nat} {cs : List Value} {x : DataW H × List MemPlace} (h : DataW.trod enc Try.prog w base spare held fuel 68 cs = some x) :
    ∃ (A : Option Addr) (c : Nat) (vs : List Vl), cs = [.slice A vs.length c] ∧ Hdr A vs.length c ∧ ValsAt w 0 w.heap.size A vs := by
  obtain ⟨A, n, c, V, rfl, h1, h2, h3, h4, h5⟩ := open_rows Try.underlying68 (by rw [cellsVal]; omega) h
  rw [cellsVal] at h4 h5
  have key : ∀ i, i < n → ∃ v : Vl, ∀ j, j < 4 → (V i).getD j undef = v.cell j := fun i hi => by
    obtain ⟨_, m, y, hy⟩ := h5 i hi
    obtain ⟨m', hl, hf⟩ := open_one Try.underlying29 (hone_of (by kernel_rfl)) (by kernel_rfl) hy
    obtain ⟨y0, g0⟩ := hf 0 _ rfl
    obtain ⟨y1, g1⟩ := hf 1 _ rfl
    obtain ⟨y2, g2⟩ := hf 2 _ rfl
    obtain ⟨y3, g3⟩ := hf 3 _ rfl
    obtain ⟨z0, e0, _, w0⟩ := DataW.trod_int Try.underlying5 g0
    obtain ⟨z1, e1, _, w1⟩ := DataW.trod_int Try.underlying2 g1
    obtain ⟨z2, e2, _, w2⟩ := DataW.trod_int Try.underlying3 g2
    obtain ⟨z3, e3, _, w3⟩ := DataW.trod_int Try.underlying3 g3
    simp only [List.cons.injEq, and_true] at e0 e1 e2 e3
    refine ⟨⟨z0, z1, z2, z3⟩, fun j hj => ?_⟩
    match j, hj with
    | 0, _ => rw [e0]; rfl
    | 1, _ => rw [e1]; rfl
    | 2, _ => rw [e2]; rfl
    | 3, _ => rw [e3]; rfl
  obtain ⟨f, hf⟩ := choose_lt key
  have hlen : ((List.range n).map f).length = n := by simp
  refine ⟨A, c, (List.range n).map f, by rw [hlen], ⟨by rw [hlen]; exact h1, h2, by rw [hlen]; exact h3⟩, ?_⟩
  unfold ValsAt
  rw [hlen]
  refine h4.congr fun i hi j hj => ?_
  rw [hf i hi j hj]
  simp [List.getD, hi]
theorem open_blks {fuel : Nat} {cs : List Value} {x : DataW H × List MemPlace} (h : DataW.trod enc Try.prog w base spare held fuel 22 cs = some x) :
    ∃ (A : Option Addr) (c : Nat) (rows : List BkR), cs = [.slice A rows.length c] ∧ MemIn w A c rows := by
  obtain ⟨A, n, c, V, rfl, h1, h2, h3, h4, h5⟩ := open_rows Try.underlying22 (by rw [cellsBlk]; omega) h
  rw [cellsBlk] at h4 h5
  have key : ∀ i, i < n → ∃ r : BkR, (∀ j, j < 5 → (V i).getD j undef = r.cell j) ∧ r.Ok w 0 w.heap.size := fun i hi => by
    obtain ⟨_, m, y, hy⟩ := h5 i hi
    obtain ⟨m', hl, hf⟩ := open_one Try.underlying70 (hone_of (by kernel_rfl)) (by kernel_rfl) hy
    obtain ⟨y0, g0⟩ := hf 0 _ rfl
    obtain ⟨y1, g1⟩ := hf 1 _ rfl
    obtain ⟨y2, g2⟩ := hf 2 _ rfl
    obtain ⟨y3, g3⟩ := hf 3 _ rfl
    obtain ⟨y4, g4⟩ := hf 4 _ rfl
    obtain ⟨z0, e0, _, w0⟩ := DataW.trod_int Try.underlying3 g0
    obtain ⟨z1, e1, _, w1⟩ := DataW.trod_int Try.underlying3 g1
    obtain ⟨z2, e2, _, w2⟩ := DataW.trod_int Try.underlying3 g2
    obtain ⟨z3, e3, _⟩ := DataW.trod_bool Try.underlying4 g3
    obtain ⟨A4, c4, vs, e4, hh, hv⟩ := open_vals g4
    simp only [List.cons.injEq, and_true] at e0 e1 e2 e3 e4
    refine ⟨⟨z0, z1, z2, z3, A4, c4, vs⟩, fun j hj => ?_, hh, hv⟩
    match j, hj with
    | 0, _ => rw [e0]; rfl
    | 1, _ => rw [e1]; rfl
    | 2, _ => rw [e2]; rfl
    | 3, _ => rw [e3]; rfl
    | 4, _ => rw [e4]; rfl
  obtain ⟨f, hf⟩ := choose_lt key
  have hlen : ((List.range n).map f).length = n := by simp
  refine ⟨A, c, (List.range n).map f, by rw [hlen], ⟨⟨by rw [hlen]; exact h1, h2, by rw [hlen]; exact h3⟩, ⟨?_, ?_⟩⟩⟩
  · rw [hlen]
    refine h4.congr fun i hi j hj => ?_
    rw [(hf i hi).1 j hj]
    simp [List.getD, hi]
  · intro r hr
    obtain ⟨i, hi, rfl⟩ := List.mem_map.1 hr
    exact (hf i (List.mem_range.1 hi)).2
theorem open_mem_arg {b0 : Nat} {r : Reach} {v : Value} {d : DataW H} {p : List MemPlace}
    (hv : Value.okWide Try.prog w r b0 22 v) (h : DataW.Trod enc Try.prog w base spare held 22 v d p) : ∃ A c rows, v = .slice A rows.length c ∧ MemIn w A c rows := by
  obtain ⟨a, len, cap, rfl⟩ := okWide_slice Try.underlying22 hv
  obtain ⟨fuel, hf⟩ := h
  obtain ⟨A, c, rows, e, hm⟩ := open_blks hf
  have e1 : ([Value.slice a len cap] : List Value) = [.slice A rows.length c] := e
  injection e1 with e1 _
  exact ⟨A, c, rows, e1, hm⟩
end
end Go.Proofs.Ythddacnnhmcoaaa
