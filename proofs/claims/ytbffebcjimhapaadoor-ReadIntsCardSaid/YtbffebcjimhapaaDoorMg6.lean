/-
  What operations have: the program's table, and the reference's words for it. Programs as plain lists; which shapes may be; registers and places. No program in sight. Tables of types as they lie in memory. The reference's answer for types: small functions. The reference's answer for types: which type may be; how great a table is. The reference's cells of a type: it calls itself. The reference's answers for types: Check, asked, Scalar, Cells, PartOf, Part. Programs as they lie in memory.
-/
import Derived.Test.YtbffebcjimhapaaDoorMg5
import Derived.WalkKit
import Derived.ProofKit
import Derived.OpenShut
import Derived.Outline
import Derived.Deep.Light
import Derived.Lib.Hide
import Derived.LoopTactic
import Derived.OwnWalk
namespace Go.Proofs.YtbffebcjimhapaaDoor
set_option linter.unusedVariables false
set_option linter.unusedSimpArgs false
open Go.ChangeShapes Go.WideShapes Go.ChangeAt Go.RowKit

/-- What an operation has: the table of shape. -/
def hasT (op : Nat) (j : Nat) : Bool := match j with
  | 0 => (4 ≤ op && op ≤ 10) || op == 13 || op == 14 || op == 15 || op == 16 || op == 17 || op == 19 || op == 21
  | 1 => (4 ≤ op && op ≤ 10) || op == 15 || op == 17
  | 2 => op == 1 || op == 3 || op == 14 || op == 18
  | 3 => op == 18 || op == 19 || op == 22
  | 4 => op == 22
  | _ => 1 ≤ op && op ≤ 22 && op != 13 && op != 17 && op != 21
def TabW (w : World) : Prop := ∀ i, i < 23 → ∀ j, j < 6 → w.cell? ⟨0, i * 6 + j, none⟩ = some (.bool (hasT i j))
theorem TabW.on {w w' : World} (h : TabW w) (hb : Below w.heap.size w w') : TabW w' := fun i hi j hj => by
  have h1 := h i hi j hj
  exact (hb.cell (p := ⟨0, i * 6 + j, none⟩) (World.block_lt_of_cell? w _ h1)).trans h1
def hasV (op : Nat) : Value := .agg #[.bool (hasT op 0), .bool (hasT op 1), .bool (hasT op 2), .bool (hasT op 3), .bool (hasT op 4), .bool (hasT op 5)]

theorem of_any (op : Nat) (hop : op ≤ 255) (w : World) (ht : TabW w) : Calls Tryd.prog 62 #[.int .u8 op] w fun e w' => e = .returned (hasV op) ∧ Below w.heap.size w w' := by
  by_cases h : op < 23
  · have h0 : w.cell? ⟨0, op * 6, none⟩ = _ := ht op h 0 (by omega)
    have h1 := ht op h 1 (by omega)
    have h2 := ht op h 2 (by omega)
    have h3 := ht op h 3 (by omega)
    have h4 := ht op h 4 (by omega)
    have h5 := ht op h 5 (by omega)
    have z0 : 0 < w.heap.size := World.block_lt_of_cell? w _ h0
    have q0 : (0 : Int) ≤ (op : Int) := by omega
    have q1 : (op : Int) < 23 := by omega
    go_enter Tryd.func62, Tryd.ntmps62
    go_wp2
    refine bodyPost_ret (v := hasV op) (by simp [results, Tryd.results62, go_sem, hasV]) rfl ⟨rfl, ?_⟩
    exact ((Below.refl _ _).alloc (Nat.le_refl _) _)
  · have hv : hasV op = .agg #[.bool false, .bool false, .bool false, .bool false, .bool false, .bool false] := by
      unfold hasV hasT
      simp
      omega
    rw [hv]
    have q1 : (23 : Int) ≤ (op : Int) := by omega
    have q2 : (op : Int) ≤ 255 := by omega
    go_enter Tryd.func62, Tryd.ntmps62
    go_wp2
    refine bodyPost_ret (v := .agg #[.bool false, .bool false, .bool false, .bool false, .bool false, .bool false]) (by simp [results, Tryd.results62, go_sem]) rfl ⟨rfl, ?_⟩
    exact ((Below.refl _ _).alloc (Nat.le_refl _) _)

/-- Has: six answers. -/
structure Has (op : Nat) (b0 b1 b2 b3 b4 b5 : Bool) : Prop where
  h0 : hasT op 0 = b0
  h1 : hasT op 1 = b1
  h2 : hasT op 2 = b2
  h3 : hasT op 3 = b3
  h4 : hasT op 4 = b4
  h5 : hasT op 5 = b5
theorem Has.mk' (op : Nat) : Has op (hasT op 0) (hasT op 1) (hasT op 2) (hasT op 3) (hasT op 4) (hasT op 5) := ⟨rfl, rfl, rfl, rfl, rfl, rfl⟩
theorem of_is {op : Nat} {b0 b1 b2 b3 b4 b5 : Bool} (h : Has op b0 b1 b2 b3 b4 b5) (hop : op ≤ 255) (w : World) (ht : TabW w) : Calls Tryd.prog 62 #[.int .u8 op] w fun e w' => e = .returned (.agg #[.bool b0, .bool b1, .bool b2, .bool b3, .bool b4, .bool b5]) ∧ Below w.heap.size w w' := by
  obtain ⟨rfl, rfl, rfl, rfl, rfl, rfl⟩ := h
  exact of_any op hop w ht


theorem field_has (b0 b1 b2 b3 b4 b5 : Bool) (w : World) : (Instr.field 111 (.agg #[.bool b0, .bool b1, .bool b2, .bool b3, .bool b4, .bool b5]) 5).run Tryd.prog w = .ok (.bool b5) w := by
  simp [Instr.field, part, isAgg, asAgg, run_underlying Tryd.underlying111, run_underlying Tryd.underlying4]
set_option maxRecDepth 100000 in
theorem answers_any {op : Nat} {b0 b1 b2 b3 b4 b5 : Bool} (h : Has op b0 b1 b2 b3 b4 b5) (hop : op ≤ 255) (w : World) (ht : TabW w) : Calls Tryd.prog 88 #[.int .u8 op] w fun e w' => e = .returned (.bool b5) ∧ Below w.heap.size w w' := by
  have HT := Lib.hid ht
  have HH := Lib.hid h
  clear ht h
  go_enter Tryd.func88, Tryd.ntmps88
  go_wp2_with fail
  refine (of_is HH.out hop _ HT.out).mono ?_
  rintro e w1 ⟨rfl, hb1⟩
  have hf := field_has b0 b1 b2 b3 b4 b5
  go_wp2_with fail
  go_ret
  exact ⟨rfl, hb1⟩
end Go.Proofs.YtbffebcjimhapaaDoor
namespace Go.Proofs.YtbffebcjimhapaaDoor
set_option linter.unusedVariables false
set_option linter.unusedSimpArgs false
open Go.RowKit

structure PIns where
  op : Nat
  ty : Int
  a : Int
  b : Int
  n : Int
  args : List Int
  from_ : List Int
deriving Inhabited, DecidableEq
structure PEnd where
  kind : Nat
  a : Int
  to : Int
  els : Int
deriving Inhabited, DecidableEq
structure PBlk where
  ins : List PIns
  fin : PEnd
deriving Inhabited, DecidableEq
structure PFun where
  sig : Int
  blocks : List PBlk
deriving Inhabited, DecidableEq
structure PProg where
  types : List Ty
  funs : List PFun
deriving Inhabited
def inB (n m : Int) : Bool := decide (0 ≤ n) && decide (n < m)
theorem inB_iff {n m : Int} : inB n m = true ↔ 0 ≤ n ∧ n < m := by simp [inB]
theorem inB_not {n m : Int} : inB n m = false ↔ n < 0 ∨ m ≤ n := by
  rw [← Bool.not_eq_true, inB_iff]
  omega
def allB (l : List Int) (m : Int) : Bool := l.all fun n => inB n m
/-- May an instruction's number be? -/
def numB (x : PIns) (funs : Int) : Bool := if x.op = 3 ∨ x.op = 18 then inB x.n funs else if x.op = 14 then inB x.n 8 else true
/-- May an instruction be, where there are so many types, functions, registers and blocks? -/
def insB (x : PIns) (types funs regs blocks : Int) : Bool :=
  decide (1 ≤ x.op ∧ x.op ≤ 22) &&
  ((!hasT x.op 0 || inB x.a regs) && ((!hasT x.op 1 || inB x.b regs) && (allB x.args regs && (numB x funs &&
  ((hasT x.op 0 || decide (x.a = 0)) && ((hasT x.op 1 || decide (x.b = 0)) && ((hasT x.op 2 || decide (x.n = 0)) && ((hasT x.op 3 || decide (x.args.length = 0)) &&
  ((if hasT x.op 5 then inB x.ty types else decide (x.ty = 0)) &&
  (if x.op = 22 then decide (x.from_.length = x.args.length) && (decide (1 ≤ x.from_.length ∧ x.from_.length ≤ 16) && allB x.from_ blocks) else decide (x.from_.length = 0) && decide (x.args.length ≤ 4)))))))))))
/-- May an end be? -/
def endB (x : PEnd) (regs blocks : Int) : Bool :=
  if x.kind = 1 then decide (x.a = 0 ∧ x.els = 0) && inB x.to blocks
  else if x.kind = 2 then inB x.a regs && (inB x.to blocks && inB x.els blocks)
  else if x.kind = 3 then decide (x.to = 0 ∧ x.els = 0) && inB x.a regs
  else false
def manyB (l : List PBlk) : Nat := (l.map fun b => b.ins.length).sum
/-- The parts of a function's type. -/
def parsP (p : PProg) (f : PFun) : Nat := (p.types.getD f.sig.toNat default).parts.length
def regsP (p : PProg) (f : PFun) : Nat := parsP p f + manyB f.blocks
def funB (p : PProg) (f : PFun) : Bool :=
  (inB f.sig p.types.length && (decide ((p.types.getD f.sig.toNat default).kind = 3) && (decide (1 ≤ f.blocks.length ∧ f.blocks.length ≤ 16) && decide (manyB f.blocks ≤ 128)))) &&
  f.blocks.all fun b => (b.ins.all fun x => insB x p.types.length p.funs.length (regsP p f) f.blocks.length) && endB b.fin (regsP p f) f.blocks.length
/-- The error of a program. -/
def checkP (p : PProg) : Int := if checkT p.types ≠ 0 then checkT p.types else if (1 ≤ p.funs.length ∧ p.funs.length ≤ 8) ∧ p.funs.all (funB p) = true then 0 else 60
def funAt (p : PProg) (f : Int) : PFun := p.funs.getD f.toNat default
def askedP (p : PProg) (f : Int) : Int := if checkP p ≠ 0 then checkP p else if inB f p.funs.length then 0 else 2
def regsE (p : PProg) (f : Int) : Int × Int := if askedP p f ≠ 0 then (0, askedP p f) else (regsP p (funAt p f), 0)
/-- Where the r-th instruction stands, counted from a block on. -/
def whereB : List PBlk → Nat → Nat → Nat × Nat
  | [], k, r => (k, r)
  | b :: l, k, r => if r < b.ins.length then (k, r) else whereB l (k + 1) (r - b.ins.length)
def placeE (p : PProg) (f r : Int) : Int × Int × Int :=
  if askedP p f ≠ 0 then (0, 0, askedP p f)
  else if inB r (regsP p (funAt p f)) then
    (if r < parsP p (funAt p f) then (-1, r, 0) else (((whereB (funAt p f).blocks 0 (r.toNat - parsP p (funAt p f))).1 : Nat), ((whereB (funAt p f).blocks 0 (r.toNat - parsP p (funAt p f))).2 : Nat), 0))
  else (0, 0, 2)
def regE (p : PProg) (f b i : Int) : Int × Int :=
  if askedP p f ≠ 0 then (0, askedP p f)
  else if inB b (funAt p f).blocks.length && inB i ((funAt p f).blocks.getD b.toNat default).ins.length then
    ((parsP p (funAt p f) + manyB ((funAt p f).blocks.take b.toNat) + i.toNat : Nat), 0)
  else (0, 2)
theorem many_snoc (l : List PBlk) (b : PBlk) : manyB (l ++ [b]) = manyB l + b.ins.length := by
  unfold manyB
  rw [List.map_append, List.sum_append]
  simp
theorem many_take {l : List PBlk} {k : Nat} (h : k < l.length) : manyB (l.take (k + 1)) = manyB (l.take k) + (l.getD k default).ins.length := by
  rw [take_succ_getD (d := default) h, many_snoc]
theorem many_le (l : List PBlk) (k : Nat) : manyB (l.take k) ≤ manyB l := by
  conv => rhs; rw [← List.take_append_drop k l]
  unfold manyB
  rw [List.map_append, List.sum_append]
  omega
end Go.Proofs.YtbffebcjimhapaaDoor
namespace Go.Proofs.YtbffebcjimhapaaDoor
set_option linter.unusedVariables false
set_option linter.unusedSimpArgs false
open Go.ChangeShapes Go.WideShapes Go.Deep Go.RowKit

/-- A type as it lies: with where its parts lie. -/
structure TyR where
  kind : Nat
  elem : Int
  many : Int
  pa : Option Addr
  pc : Nat
  parts : List Int
deriving Inhabited
def TyR.data (r : TyR) : Ty := ⟨r.kind, r.elem, r.many, r.parts⟩
def TyR.cell (r : TyR) (j : Nat) : Value := match j with
  | 0 => .int .u8 r.kind
  | 1 => .int .i64 r.elem
  | 2 => .int .i64 r.many
  | _ => .slice r.pa r.parts.length r.pc
def TyR.val (r : TyR) : Value := .agg #[.int .u8 r.kind, .int .i64 r.elem, .int .i64 r.many, .slice r.pa r.parts.length r.pc]
structure TyR.Ok (w : World) (lo B : Nat) (r : TyR) : Prop where
  kind : r.kind ≤ 255
  hdr : Hdr r.pa r.parts.length r.pc
  ints : IntsAt w lo B r.pa r.parts
structure TypsAt (w : World) (lo B : Nat) (A : Option Addr) (rows : List TyR) : Prop where
  cells : CellsAt w lo B A 4 rows.length fun i j => (rows.getD i default).cell j
  ok : ∀ r ∈ rows, r.Ok w lo B
section
variable {w w' : World} {lo lo' B B' : Nat} {A : Option Addr} {rows : List TyR} {r : TyR}
theorem TyR.Ok.keep (h : r.Ok w lo B) (hb : Below B w w') : r.Ok w' lo B := ⟨h.kind, h.hdr, h.ints.keep hb⟩
theorem TyR.Ok.more (h : r.Ok w lo B) (h1 : lo' ≤ lo) (h2 : B ≤ B') : r.Ok w lo' B' := ⟨h.kind, h.hdr, h.ints.more h1 h2⟩
theorem TypsAt.keep (h : TypsAt w lo B A rows) (hb : Below B w w') : TypsAt w' lo B A rows := ⟨h.cells.keep hb, fun r hr => (h.ok r hr).keep hb⟩
theorem TypsAt.more (h : TypsAt w lo B A rows) (h1 : lo' ≤ lo) (h2 : B ≤ B') : TypsAt w lo' B' A rows := ⟨h.cells.more h1 h2, fun r hr => (h.ok r hr).more h1 h2⟩
/-- In the world behind a call the table lies as before. -/
theorem TypsAt.on (h : TypsAt w lo w.heap.size A rows) (hb : Below w.heap.size w w') : TypsAt w' lo w'.heap.size A rows := (h.keep hb).more (Nat.le_refl _) hb.size
end

theorem mem_getD {α : Type} {d : α} {l : List α} {i : Nat} (h : i < l.length) : l.getD i d ∈ l := by rw [getD_lt l h]; exact List.getElem_mem h
/-- The cells of element i. -/
structure Elem (w : World) (A : Option Addr) (i : Nat) (r : TyR) : Prop where
  at_ : ∃ b off, A = some ⟨b, off, none⟩ ∧ b < w.heap.size ∧ w.cell? ⟨b, off + i * 4, none⟩ = some (.int .u8 r.kind) ∧ w.cell? ⟨b, off + i * 4 + 1, none⟩ = some (.int .i64 r.elem) ∧ w.cell? ⟨b, off + i * 4 + 2, none⟩ = some (.int .i64 r.many) ∧ w.cell? ⟨b, off + i * 4 + 3, none⟩ = some (.slice r.pa r.parts.length r.pc)
theorem TypsAt.elem {w : World} {lo B : Nat} {A : Option Addr} {rows : List TyR} (h : TypsAt w lo B A rows) {i : Nat} (hi : i < rows.length) : Elem w A i (rows.getD i default) := by
  obtain ⟨b, off, rfl, h1, h2, hc⟩ := h.cells (by omega)
  have c0 := hc i hi 0 (by omega)
  exact ⟨b, off, rfl, World.block_lt_of_cell? w _ c0, c0, hc i hi 1 (by omega), hc i hi 2 (by omega), hc i hi 3 (by omega)⟩

/-- The table that rows tell. -/
def tbl (rows : List TyR) : List Ty := rows.map TyR.data
theorem tbl_len (rows : List TyR) : (tbl rows).length = rows.length := by simp [tbl]
theorem tbl_at {rows : List TyR} {i : Nat} (h : i < rows.length) : (tbl rows).getD i default = (rows.getD i default).data := by
  unfold tbl
  rw [List.getD_eq_getElem?_getD, List.getElem?_map, List.getElem?_eq_getElem h, getD_lt rows h]
  rfl

section
variable {H : Type} {enc : TypeId × Value → H} {w : World} {base : Nat} {spare : Nat → Bool} {held : Bool}
theorem cellsType : Tryd.prog.cellsOf 41 = 4 := by kernel_rfl
theorem open_types {fuel : Nat} {cs : List Value} {x : DataW H × List MemPlace} (h : DataW.trod enc Tryd.prog w base spare held fuel 22 cs = some x) :
    ∃ (A : Option Addr) (c : Nat) (rows : List TyR), cs = [.slice A rows.length c] ∧ Hdr A rows.length c ∧ TypsAt w 0 w.heap.size A rows := by
  obtain ⟨A, n, c, V, rfl, h1, h2, h3, h4, h5⟩ := open_rows Tryd.underlying22 (by rw [cellsType]; omega) h
  rw [cellsType] at h4 h5
  have key : ∀ i, i < n → ∃ r : TyR, (∀ j, j < 4 → (V i).getD j undef = r.cell j) ∧ r.Ok w 0 w.heap.size := fun i hi => by
    obtain ⟨_, m, y, hy⟩ := h5 i hi
    obtain ⟨m', hl, hf⟩ := open_one Tryd.underlying41 (hone_of (by kernel_rfl)) (by kernel_rfl) hy
    obtain ⟨y0, g0⟩ := hf 0 _ rfl
    obtain ⟨y1, g1⟩ := hf 1 _ rfl
    obtain ⟨y2, g2⟩ := hf 2 _ rfl
    obtain ⟨y3, g3⟩ := hf 3 _ rfl
    obtain ⟨z0, e0, _, w0⟩ := DataW.trod_int Tryd.underlying5 g0
    obtain ⟨z1, e1, _, w1⟩ := DataW.trod_int Tryd.underlying3 g1
    obtain ⟨z2, e2, _, w2⟩ := DataW.trod_int Tryd.underlying3 g2
    obtain ⟨A3, c3, xs, e3, hh, hi3, _⟩ := open_nums g3
    simp only [List.cons.injEq, and_true] at e0 e1 e2 e3
    simp only [Lit.wf, Bool.and_eq_true, decide_eq_true_eq] at w0
    have m0 : IntKind.u8.min = 0 := by decide
    have m1 : IntKind.u8.max = 255 := by decide
    refine ⟨⟨z0.toNat, z1, z2, A3, c3, xs⟩, fun j hj => ?_, ⟨by show z0.toNat ≤ 255; omega, hh, hi3⟩⟩
    match j, hj with
    | 0, _ => rw [e0]; show Value.int .u8 z0 = .int .u8 (z0.toNat : Int); congr 1; omega
    | 1, _ => rw [e1]; rfl
    | 2, _ => rw [e2]; rfl
    | 3, _ => rw [e3]; rfl
  obtain ⟨f, hf⟩ := choose_lt key
  have hlen : ((List.range n).map f).length = n := by simp
  refine ⟨A, c, (List.range n).map f, by rw [hlen], ⟨by rw [hlen]; exact h1, h2, by rw [hlen]; exact h3⟩, ⟨?_, ?_⟩⟩
  · rw [hlen]
    refine h4.congr fun i hi j hj => ?_
    rw [(hf i hi).1 j hj]
    simp [List.getD, hi]
  · intro r hr
    obtain ⟨i, hi, rfl⟩ := List.mem_map.1 hr
    exact (hf i (List.mem_range.1 hi)).2
end
end Go.Proofs.YtbffebcjimhapaaDoor
namespace Go.Proofs.YtbffebcjimhapaaDoor
set_option linter.unusedVariables false
set_option linter.unusedSimpArgs false
open Go.ChangeShapes Go.WideShapes Go.ChangeAt Go.RowKit

def lowP (m : Int) (n : Int) : Bool := decide (0 ≤ n) && decide (n < m)
theorem nat_beq (a b : Nat) : ((a : Int) == (b : Int)) = (a == b) := by rw [Bool.eq_iff_iff, beq_iff_eq, beq_iff_eq]; omega
theorem plain_in {rows : List TyR} {i : Nat} (h : i < rows.length) : plainB (tbl rows) (i : Int) = scalK (rows.getD i default).kind := by
  unfold plainB
  rw [tbl_len, Int.toNat_natCast, tbl_at h, decide_eq_true (by omega : (0 : Int) ≤ (i : Int)), decide_eq_true (by omega : (i : Int) < (rows.length : Int))]
  rfl
theorem plain_out {rows : List TyR} {k : Int} (h : k < 0 ∨ (rows.length : Int) ≤ k) : plainB (tbl rows) k = false := by
  unfold plainB
  rw [tbl_len]
  rcases h with h | h
  · rw [decide_eq_false (by omega : ¬ (0 : Int) ≤ k)]; rfl
  · rw [decide_eq_false (by omega : ¬ k < (rows.length : Int))]; simp
end Go.Proofs.YtbffebcjimhapaaDoor
namespace Go.Proofs.YtbffebcjimhapaaDoor
set_option linter.unusedVariables false
set_option linter.unusedSimpArgs false
open Go.ChangeShapes Go.WideShapes Go.ChangeAt Go.RowKit

def greatP (r : TyR) : Bool := decide (20 < r.parts.length)
/-- How the reference tells that a table is great: of the first 30 some has too many parts; or there are too many. -/
def greatT (rows : List TyR) : Bool := !((rows.take 30).all fun r => decide (r.parts.length ≤ 20)) || decide (20 < rows.length)
end Go.Proofs.YtbffebcjimhapaaDoor
namespace Go.Proofs.YtbffebcjimhapaaDoor
set_option linter.unusedVariables false
set_option linter.unusedSimpArgs false
open Go.ChangeShapes Go.WideShapes Go.ChangeAt Go.RowKit

theorem app_next {W w1 w2 : World} {v v' : Value} {xs ys : List Int} (hb : Below W.heap.size W w1) (hown : OwnInts w1 W.heap.size v xs) (hg : w1.grownBy w2 v.ownBlock) : Below W.heap.size W w2 := hb.grown hg hb.size hown.base
theorem flat_snoc {t : List Ty} {ps : List Int} {j : Nat} (h : j < ps.length) : (ps.take (j + 1)).flatMap (ofP t) = (ps.take j).flatMap (ofP t) ++ ofP t (ps.getD j 0) := by
  rw [take_succ_getD (d := 0) h, List.flatMap_append]; simp

theorem OwnInts.one (w : World) (lo g : Nat) (y : Int) (h : lo ≤ w.heap.size) (hg : g = w.heap.size) : OwnInts (w.alloc (.cells #[.int .i64 y] 3)) lo (.slice (some ⟨g, 0, none⟩) 1 1) [y] := by
  subst hg
  refine ⟨rfl, .inr ⟨w.heap.size, 1, #[.int .i64 y], rfl, h, ?_, Nat.le_refl 1, by unfold maxLen; omega, rfl, rfl⟩⟩
  show (w.heap.push _)[w.heap.size]? = _
  simp
end Go.Proofs.YtbffebcjimhapaaDoor
namespace Go.Proofs.YtbffebcjimhapaaDoor
set_option linter.unusedVariables false
set_option linter.unusedSimpArgs false
open Go.ChangeShapes Go.WideShapes Go.ChangeAt Go.RowKit

/-- A table that came in, by its slice. -/
structure TabIn (w : World) (A : Option Addr) (c : Nat) (rows : List TyR) : Prop where
  hdr : Hdr A rows.length c
  rows : TypsAt w 0 w.heap.size A rows
theorem TabIn.on {w w' : World} {A : Option Addr} {c : Nat} {rows : List TyR} (h : TabIn w A c rows) (hb : Below w.heap.size w w') : TabIn w' A c rows := ⟨h.hdr, h.rows.on hb⟩
theorem TabIn.len {w : World} {A : Option Addr} {c : Nat} {rows : List TyR} (h : TabIn w A c rows) : rows.length ≤ 9223372036854775807 := by
  have := Nat.le_trans h.hdr.fit h.hdr.cap
  unfold maxLen at this
  omega
section
variable {w : World} {A : Option Addr} {c : Nat} {rows : List TyR}
end
end Go.Proofs.YtbffebcjimhapaaDoor
namespace Go.Proofs.YtbffebcjimhapaaDoor
set_option linter.unusedVariables false
set_option linter.unusedSimpArgs false
open Go.ChangeShapes Go.WideShapes Go.Deep Go.RowKit

/-- An instruction as it lies. -/
structure InR where
  op : Nat
  ty : Int
  a : Int
  b : Int
  n : Int
  aa : Option Addr
  ac : Nat
  args : List Int
  fa : Option Addr
  fc : Nat
  from_ : List Int
deriving Inhabited
def InR.data (r : InR) : PIns := ⟨r.op, r.ty, r.a, r.b, r.n, r.args, r.from_⟩
def InR.cell (r : InR) (j : Nat) : Value := match j with
  | 0 => .int .u8 r.op
  | 1 => .int .i64 r.ty
  | 2 => .int .i64 r.a
  | 3 => .int .i64 r.b
  | 4 => .int .i64 r.n
  | 5 => .slice r.aa r.args.length r.ac
  | _ => .slice r.fa r.from_.length r.fc
def InR.val (r : InR) : Value := .agg #[.int .u8 r.op, .int .i64 r.ty, .int .i64 r.a, .int .i64 r.b, .int .i64 r.n, .slice r.aa r.args.length r.ac, .slice r.fa r.from_.length r.fc]
structure InR.Ok (w : World) (r : InR) : Prop where
  op : r.op ≤ 255
  ahdr : Hdr r.aa r.args.length r.ac
  args : IntsAt w 0 w.heap.size r.aa r.args
  fhdr : Hdr r.fa r.from_.length r.fc
  from_ : IntsAt w 0 w.heap.size r.fa r.from_
/-- A list of instructions as it lies. -/
structure InsAt (w : World) (A : Option Addr) (c : Nat) (rows : List InR) : Prop where
  hdr : Hdr A rows.length c
  cells : CellsAt w 0 w.heap.size A 7 rows.length fun i j => (rows.getD i default).cell j
  ok : ∀ r ∈ rows, r.Ok w
structure BlR where
  ia : Option Addr
  ic : Nat
  ins : List InR
  kind : Nat
  a : Int
  to : Int
  els : Int
deriving Inhabited
def BlR.data (r : BlR) : PBlk := ⟨r.ins.map InR.data, ⟨r.kind, r.a, r.to, r.els⟩⟩
def BlR.cell (r : BlR) (j : Nat) : Value := match j with
  | 0 => .slice r.ia r.ins.length r.ic
  | 1 => .int .u8 r.kind
  | 2 => .int .i64 r.a
  | 3 => .int .i64 r.to
  | _ => .int .i64 r.els
def BlR.val (r : BlR) : Value := .agg #[.slice r.ia r.ins.length r.ic, .int .u8 r.kind, .int .i64 r.a, .int .i64 r.to, .int .i64 r.els]
structure BlR.Ok (w : World) (r : BlR) : Prop where
  kind : r.kind ≤ 255
  ins : InsAt w r.ia r.ic r.ins
structure BlksAt (w : World) (A : Option Addr) (c : Nat) (rows : List BlR) : Prop where
  hdr : Hdr A rows.length c
  cells : CellsAt w 0 w.heap.size A 5 rows.length fun i j => (rows.getD i default).cell j
  ok : ∀ r ∈ rows, r.Ok w
structure FuR where
  sig : Int
  ba : Option Addr
  bc : Nat
  blocks : List BlR
deriving Inhabited
def FuR.data (r : FuR) : PFun := ⟨r.sig, r.blocks.map BlR.data⟩
def FuR.cell (r : FuR) (j : Nat) : Value := match j with
  | 0 => .int .i64 r.sig
  | _ => .slice r.ba r.blocks.length r.bc
def FuR.val (r : FuR) : Value := .agg #[.int .i64 r.sig, .slice r.ba r.blocks.length r.bc]
structure FuR.Ok (w : World) (r : FuR) : Prop where
  blocks : BlksAt w r.ba r.bc r.blocks
structure FusAt (w : World) (A : Option Addr) (c : Nat) (rows : List FuR) : Prop where
  hdr : Hdr A rows.length c
  cells : CellsAt w 0 w.heap.size A 2 rows.length fun i j => (rows.getD i default).cell j
  ok : ∀ r ∈ rows, r.Ok w
/-- A program as it lies. -/
structure PrR where
  ta : Option Addr
  tc : Nat
  types : List TyR
  fa : Option Addr
  fc : Nat
  funs : List FuR
deriving Inhabited
def PrR.data (r : PrR) : PProg := ⟨tbl r.types, r.funs.map FuR.data⟩
def PrR.val (r : PrR) : Value := .agg #[.slice r.ta r.types.length r.tc, .slice r.fa r.funs.length r.fc]
structure ProgIn (w : World) (r : PrR) : Prop where
  types : TabIn w r.ta r.tc r.types
  funs : FusAt w r.fa r.fc r.funs
section
variable {w w' : World} {A : Option Addr} {c : Nat}
theorem IntsAt.up {xs : List Int} (h : IntsAt w 0 w.heap.size A xs) (hb : Below w.heap.size w w') : IntsAt w' 0 w'.heap.size A xs := (IntsAt.keep h hb).more (Nat.le_refl _) hb.size
theorem InR.Ok.on {r : InR} (h : r.Ok w) (hb : Below w.heap.size w w') : r.Ok w' := ⟨h.op, h.ahdr, h.args.up hb, h.fhdr, h.from_.up hb⟩
theorem InsAt.on {rows : List InR} (h : InsAt w A c rows) (hb : Below w.heap.size w w') : InsAt w' A c rows := ⟨h.hdr, (CellsAt.keep h.cells hb).more (Nat.le_refl _) hb.size, fun r hr => (h.ok r hr).on hb⟩
theorem BlR.Ok.on {r : BlR} (h : r.Ok w) (hb : Below w.heap.size w w') : r.Ok w' := ⟨h.kind, h.ins.on hb⟩
theorem BlksAt.on {rows : List BlR} (h : BlksAt w A c rows) (hb : Below w.heap.size w w') : BlksAt w' A c rows := ⟨h.hdr, (CellsAt.keep h.cells hb).more (Nat.le_refl _) hb.size, fun r hr => (h.ok r hr).on hb⟩
theorem FuR.Ok.on {r : FuR} (h : r.Ok w) (hb : Below w.heap.size w w') : r.Ok w' := ⟨h.blocks.on hb⟩
theorem FusAt.on {rows : List FuR} (h : FusAt w A c rows) (hb : Below w.heap.size w w') : FusAt w' A c rows := ⟨h.hdr, (CellsAt.keep h.cells hb).more (Nat.le_refl _) hb.size, fun r hr => (h.ok r hr).on hb⟩
theorem ProgIn.on {r : PrR} (h : ProgIn w r) (hb : Below w.heap.size w w') : ProgIn w' r := ⟨h.types.on hb, h.funs.on hb⟩
/-- The cells of an instruction. -/
theorem InsAt.elem {rows : List InR} (h : InsAt w A c rows) {i : Nat} (hi : i < rows.length) : ∃ b off r, A = some ⟨b, off, none⟩ ∧ b < w.heap.size ∧
    (w.cell? ⟨b, off + i * 7, none⟩ = some (.int .u8 r.op) ∧ w.cell? ⟨b, off + i * 7 + 1, none⟩ = some (.int .i64 r.ty) ∧ w.cell? ⟨b, off + i * 7 + 2, none⟩ = some (.int .i64 r.a) ∧ w.cell? ⟨b, off + i * 7 + 3, none⟩ = some (.int .i64 r.b) ∧ w.cell? ⟨b, off + i * 7 + 4, none⟩ = some (.int .i64 r.n) ∧ w.cell? ⟨b, off + i * 7 + 5, none⟩ = some (.slice r.aa r.args.length r.ac) ∧ w.cell? ⟨b, off + i * 7 + 6, none⟩ = some (.slice r.fa r.from_.length r.fc)) ∧ InR.Ok w r ∧ Hid (rows.getD i default = r) := by
  obtain ⟨b, off, rfl, h1, h2, hc⟩ := h.cells (by omega)
  have c0 := hc i hi 0 (by omega)
  exact ⟨b, off, _, rfl, World.block_lt_of_cell? w _ c0, ⟨c0, hc i hi 1 (by omega), hc i hi 2 (by omega), hc i hi 3 (by omega), hc i hi 4 (by omega), hc i hi 5 (by omega), hc i hi 6 (by omega)⟩, h.ok _ (mem_getD (d := default) hi), Lib.hid rfl⟩
theorem BlksAt.elem {rows : List BlR} (h : BlksAt w A c rows) {i : Nat} (hi : i < rows.length) : ∃ b off r, A = some ⟨b, off, none⟩ ∧ b < w.heap.size ∧
    (w.cell? ⟨b, off + i * 5, none⟩ = some (.slice r.ia r.ins.length r.ic) ∧ w.cell? ⟨b, off + i * 5 + 1, none⟩ = some (.int .u8 r.kind) ∧ w.cell? ⟨b, off + i * 5 + 2, none⟩ = some (.int .i64 r.a) ∧ w.cell? ⟨b, off + i * 5 + 3, none⟩ = some (.int .i64 r.to) ∧ w.cell? ⟨b, off + i * 5 + 4, none⟩ = some (.int .i64 r.els)) ∧ BlR.Ok w r ∧ Hid (rows.getD i default = r) := by
  obtain ⟨b, off, rfl, h1, h2, hc⟩ := h.cells (by omega)
  have c0 := hc i hi 0 (by omega)
  exact ⟨b, off, _, rfl, World.block_lt_of_cell? w _ c0, ⟨c0, hc i hi 1 (by omega), hc i hi 2 (by omega), hc i hi 3 (by omega), hc i hi 4 (by omega)⟩, h.ok _ (mem_getD (d := default) hi), Lib.hid rfl⟩
theorem FusAt.elem {rows : List FuR} (h : FusAt w A c rows) {i : Nat} (hi : i < rows.length) : ∃ b off r, A = some ⟨b, off, none⟩ ∧ b < w.heap.size ∧
    (w.cell? ⟨b, off + i * 2, none⟩ = some (.int .i64 r.sig) ∧ w.cell? ⟨b, off + i * 2 + 1, none⟩ = some (.slice r.ba r.blocks.length r.bc)) ∧ FuR.Ok w r ∧ Hid (rows.getD i default = r) := by
  obtain ⟨b, off, rfl, h1, h2, hc⟩ := h.cells (by omega)
  have c0 := hc i hi 0 (by omega)
  exact ⟨b, off, _, rfl, World.block_lt_of_cell? w _ c0, ⟨c0, hc i hi 1 (by omega)⟩, h.ok _ (mem_getD (d := default) hi), Lib.hid rfl⟩
end
theorem Hdr.cle {A : Option Addr} {n c : Nat} (h : Hdr A n c) : n ≤ 9223372036854775807 := by
  have := Nat.le_trans h.fit h.cap
  unfold maxLen at this
  exact this
section
variable {α β : Type} [Inhabited α] [Inhabited β]
theorem map_getD (f : α → β) (l : List α) {k : Nat} (h : k < l.length) : (l.map f).getD k default = f (l.getD k default) := by
  rw [List.getD_eq_getElem?_getD, List.getElem?_map, List.getElem?_eq_getElem h, getD_lt l h]
  rfl
end
end Go.Proofs.YtbffebcjimhapaaDoor
