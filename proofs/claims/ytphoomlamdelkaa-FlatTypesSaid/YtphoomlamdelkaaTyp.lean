/-
  Tables of types as they lie in memory.
-/
import Derived.Test.YtphoomlamdelkaaOpenInts
import Derived.Test.YtphoomlamdelkaaTypPure
namespace Go.Proofs.Ytphoomlamdelkaa
set_option linter.unusedVariables false
set_option linter.unusedSimpArgs false
open Go.ChangeShapes Go.WideShapes Go.Deep Go.RowKit

/-- A type as it lies: with where its parts lie. -/
structure TyR where
  kind : Nat
  elem : Int
  many : Int
  pa : Option Addr
  pc : Nat
  parts : List Int
deriving Inhabited
def TyR.data (r : TyR) : Ty := ⟨r.kind, r.elem, r.many, r.parts⟩
def TyR.cell (r : TyR) (j : Nat) : Value := match j with
  | 0 => .int .u8 r.kind
  | 1 => .int .i64 r.elem
  | 2 => .int .i64 r.many
  | _ => .slice r.pa r.parts.length r.pc
def TyR.val (r : TyR) : Value := .agg #[.int .u8 r.kind, .int .i64 r.elem, .int .i64 r.many, .slice r.pa r.parts.length r.pc]
structure TyR.Ok (w : World) (lo B : Nat) (r : TyR) : Prop where
  kind : r.kind ≤ 255
  hdr : Hdr r.pa r.parts.length r.pc
  ints : IntsAt w lo B r.pa r.parts
structure TypsAt (w : World) (lo B : Nat) (A : Option Addr) (rows : List TyR) : Prop where
  cells : CellsAt w lo B A 4 rows.length fun i j => (rows.getD i default).cell j
  ok : ∀ r ∈ rows, r.Ok w lo B
section
variable {w w' : World} {lo lo' B B' : Nat} {A : Option Addr} {rows : List TyR} {r : TyR}
theorem TyR.Ok.keep (h : r.Ok w lo B) (hb : Below B w w') : r.Ok w' lo B := ⟨h.kind, h.hdr, h.ints.keep hb⟩
theorem TyR.Ok.more (h : r.Ok w lo B) (h1 : lo' ≤ lo) (h2 : B ≤ B') : r.Ok w lo' B' := ⟨h.kind, h.hdr, h.ints.more h1 h2⟩
theorem TypsAt.keep (h : TypsAt w lo B A rows) (hb : Below B w w') : TypsAt w' lo B A rows := ⟨h.cells.keep hb, fun r hr => (h.ok r hr).keep hb⟩
theorem TypsAt.more (h : TypsAt w lo B A rows) (h1 : lo' ≤ lo) (h2 : B ≤ B') : TypsAt w lo' B' A rows := ⟨h.cells.more h1 h2, fun r hr => (h.ok r hr).more h1 h2⟩
/-- In the world behind a call the table lies as before. -/
theorem TypsAt.on (h : TypsAt w lo w.heap.size A rows) (hb : Below w.heap.size w w') : TypsAt w' lo w'.heap.size A rows := (h.keep hb).more (Nat.le_refl _) hb.size
end

theorem mem_getD {α : Type} {d : α} {l : List α} {i : Nat} (h : i < l.length) : l.getD i d ∈ l := by rw [getD_lt l h]; exact List.getElem_mem h
/-- The cells of element i. -/
structure Elem (w : World) (A : Option Addr) (i : Nat) (r : TyR) : Prop where
  at_ : ∃ b off, A = some ⟨b, off, none⟩ ∧ b < w.heap.size ∧ w.cell? ⟨b, off + i * 4, none⟩ = some (.int .u8 r.kind) ∧ w.cell? ⟨b, off + i * 4 + 1, none⟩ = some (.int .i64 r.elem) ∧ w.cell? ⟨b, off + i * 4 + 2, none⟩ = some (.int .i64 r.many) ∧ w.cell? ⟨b, off + i * 4 + 3, none⟩ = some (.slice r.pa r.parts.length r.pc)
theorem TypsAt.elem {w : World} {lo B : Nat} {A : Option Addr} {rows : List TyR} (h : TypsAt w lo B A rows) {i : Nat} (hi : i < rows.length) : Elem w A i (rows.getD i default) := by
  obtain ⟨b, off, rfl, h1, h2, hc⟩ := h.cells (by omega)
  have c0 := hc i hi 0 (by omega)
  exact ⟨b, off, rfl, World.block_lt_of_cell? w _ c0, c0, hc i hi 1 (by omega), hc i hi 2 (by omega), hc i hi 3 (by omega)⟩

/-- The table that rows tell. -/
def tbl (rows : List TyR) : List Ty := rows.map TyR.data
theorem tbl_len (rows : List TyR) : (tbl rows).length = rows.length := by simp [tbl]
theorem tbl_at {rows : List TyR} {i : Nat} (h : i < rows.length) : (tbl rows).getD i default = (rows.getD i default).data := by
  unfold tbl
  rw [List.getD_eq_getElem?_getD, List.getElem?_map, List.getElem?_eq_getElem h, getD_lt rows h]
  rfl

section
variable {H : Type} {enc : TypeId × Value → H} {w : World} {base : Nat} {spare : Nat → Bool} {held : Bool}
theorem cellsType : Try.prog.cellsOf 31 = 4 := by kernel_rfl
theorem open_types {fuel : Nat} {cs : List Value} {x : DataW H × List MemPlace} (h : DataW.trod enc Try.prog w base spare held fuel 22 cs = some x) :
    ∃ (A : Option Addr) (c : Nat) (rows : List TyR), cs = [.slice A rows.length c] ∧ Hdr A rows.length c ∧ TypsAt w 0 w.heap.size A rows := by
  obtain ⟨A, n, c, V, rfl, h1, h2, h3, h4, h5⟩ := open_rows Try.underlying22 (by rw [cellsType]; omega) h
  rw [cellsType] at h4 h5
  have key : ∀ i, i < n → ∃ r : TyR, (∀ j, j < 4 → (V i).getD j undef = r.cell j) ∧ r.Ok w 0 w.heap.size := fun i hi => by
    obtain ⟨_, m, y, hy⟩ := h5 i hi
    obtain ⟨m', hl, hf⟩ := open_one Try.underlying31 (hone_of (by kernel_rfl)) (by kernel_rfl) hy
    obtain ⟨y0, g0⟩ := hf 0 _ rfl
    obtain ⟨y1, g1⟩ := hf 1 _ rfl
    obtain ⟨y2, g2⟩ := hf 2 _ rfl
    obtain ⟨y3, g3⟩ := hf 3 _ rfl
    obtain ⟨z0, e0, _, w0⟩ := DataW.trod_int Try.underlying5 g0
    obtain ⟨z1, e1, _, w1⟩ := DataW.trod_int Try.underlying3 g1
    obtain ⟨z2, e2, _, w2⟩ := DataW.trod_int Try.underlying3 g2
    obtain ⟨A3, c3, xs, e3, hh, hi3, _⟩ := open_nums g3
    simp only [List.cons.injEq, and_true] at e0 e1 e2 e3
    simp only [Lit.wf, Bool.and_eq_true, decide_eq_true_eq] at w0
    have m0 : IntKind.u8.min = 0 := by decide
    have m1 : IntKind.u8.max = 255 := by decide
    refine ⟨⟨z0.toNat, z1, z2, A3, c3, xs⟩, fun j hj => ?_, ⟨by show z0.toNat ≤ 255; omega, hh, hi3⟩⟩
    match j, hj with
    | 0, _ => rw [e0]; show Value.int .u8 z0 = .int .u8 (z0.toNat : Int); congr 1; omega
    | 1, _ => rw [e1]; rfl
    | 2, _ => rw [e2]; rfl
    | 3, _ => rw [e3]; rfl
  obtain ⟨f, hf⟩ := choose_lt key
  have hlen : ((List.range n).map f).length = n := by simp
  refine ⟨A, c, (List.range n).map f, by rw [hlen], ⟨by rw [hlen]; exact h1, h2, by rw [hlen]; exact h3⟩, ⟨?_, ?_⟩⟩
  · rw [hlen]
    refine h4.congr fun i hi j hj => ?_
    rw [(hf i hi).1 j hj]
    simp [List.getD, hi]
  · intro r hr
    obtain ⟨i, hi, rfl⟩ := List.mem_map.1 hr
    exact (hf i (List.mem_range.1 hi)).2
end
end Go.Proofs.Ytphoomlamdelkaa
