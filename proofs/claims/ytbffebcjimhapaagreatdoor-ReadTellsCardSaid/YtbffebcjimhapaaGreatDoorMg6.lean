/-
  What operations have: the program's table, and the reference's words for it. And what stands on it: ShPure, Typ, TypRef1, TypRef2, TypOf, TypRef3, ShData.
-/
import Derived.Test.YtbffebcjimhapaaGreatDoorMg0
import Derived.Test.YtbffebcjimhapaaGreatDoorMg4
import Derived.Test.YtbffebcjimhapaaGreatDoorMg5
import Derived.WalkKit
import Derived.ProofKit
import Derived.OpenShut
import Derived.Outline
import Derived.Deep.Light
import Derived.Lib.Hide
import Derived.LoopTactic
import Derived.OwnWalk
namespace Go.Proofs.YtbffebcjimhapaaGreatDoor
set_option linter.unusedVariables false
set_option linter.unusedSimpArgs false
open Go.ChangeShapes Go.WideShapes Go.ChangeAt Go.RowKit
def hasT (op : Nat) (j : Nat) : Bool := match j with
 | 0 => (4 ≤ op && op ≤ 10) || op == 13 || op == 14 || op == 15 || op == 16 || op == 17 || op == 19 || op == 21
 | 1 => (4 ≤ op && op ≤ 10) || op == 15 || op == 17
 | 2 => op == 1 || op == 3 || op == 14 || op == 18
 | 3 => op == 18 || op == 19 || op == 22
 | 4 => op == 22
 | _ => 1 ≤ op && op ≤ 22 && op != 13 && op != 17 && op != 21
def TabW (w : World) : Prop := ∀ i, i < 23 → ∀ j, j < 6 → w.cell? ⟨0, i * 6 + j, none⟩ = some (.bool (hasT i j))
theorem TabW.on {w w' : World} (h : TabW w) (hb : Below w.heap.size w w') : TabW w' := fun i hi j hj => by
 have h1 := h i hi j hj
 exact (hb.cell (p := ⟨0, i * 6 + j, none⟩) (World.block_lt_of_cell? w _ h1)).trans h1
def hasV (op : Nat) : Value := .agg #[.bool (hasT op 0), .bool (hasT op 1), .bool (hasT op 2), .bool (hasT op 3), .bool (hasT op 4), .bool (hasT op 5)]
theorem of_any (op : Nat) (hop : op ≤ 255) (w : World) (ht : TabW w) : Calls Tryz.prog 114 #[.int .u8 op] w fun e w' => e = .returned (hasV op) ∧ Below w.heap.size w w' := by
 by_cases h : op < 23
 · have h0 : w.cell? ⟨0, op * 6, none⟩ = _ := ht op h 0 (by omega)
   have h1 := ht op h 1 (by omega)
   have h2 := ht op h 2 (by omega)
   have h3 := ht op h 3 (by omega)
   have h4 := ht op h 4 (by omega)
   have h5 := ht op h 5 (by omega)
   have z0 : 0 < w.heap.size := World.block_lt_of_cell? w _ h0
   have q0 : (0 : Int) ≤ (op : Int) := by omega
   have q1 : (op : Int) < 23 := by omega
   go_enter Tryz.func114, Tryz.ntmps114
   go_wp2
   refine bodyPost_ret (v := hasV op) (by simp [results, Tryz.results114, go_sem, hasV]) rfl ⟨rfl, ?_⟩
   exact ((Below.refl _ _).alloc (Nat.le_refl _) _)
 · have hv : hasV op = .agg #[.bool false, .bool false, .bool false, .bool false, .bool false, .bool false] := by
    unfold hasV hasT
    simp
    omega
   rw [hv]
   have q1 : (23 : Int) ≤ (op : Int) := by omega
   have q2 : (op : Int) ≤ 255 := by omega
   go_enter Tryz.func114, Tryz.ntmps114
   go_wp2
   refine bodyPost_ret (v := .agg #[.bool false, .bool false, .bool false, .bool false, .bool false, .bool false]) (by simp [results, Tryz.results114, go_sem]) rfl ⟨rfl, ?_⟩
   exact ((Below.refl _ _).alloc (Nat.le_refl _) _)
structure Has (op : Nat) (b0 b1 b2 b3 b4 b5 : Bool) : Prop where
 h0 : hasT op 0 = b0
 h1 : hasT op 1 = b1
 h2 : hasT op 2 = b2
 h3 : hasT op 3 = b3
 h4 : hasT op 4 = b4
 h5 : hasT op 5 = b5
theorem Has.mk' (op : Nat) : Has op (hasT op 0) (hasT op 1) (hasT op 2) (hasT op 3) (hasT op 4) (hasT op 5) := ⟨rfl, rfl, rfl, rfl, rfl, rfl⟩
theorem of_is {op : Nat} {b0 b1 b2 b3 b4 b5 : Bool} (h : Has op b0 b1 b2 b3 b4 b5) (hop : op ≤ 255) (w : World) (ht : TabW w) : Calls Tryz.prog 114 #[.int .u8 op] w fun e w' => e = .returned (.agg #[.bool b0, .bool b1, .bool b2, .bool b3, .bool b4, .bool b5]) ∧ Below w.heap.size w w' := by
 obtain ⟨rfl, rfl, rfl, rfl, rfl, rfl⟩ := h
 exact of_any op hop w ht
theorem field_has (b0 b1 b2 b3 b4 b5 : Bool) (w : World) : (Instr.field 173 (.agg #[.bool b0, .bool b1, .bool b2, .bool b3, .bool b4, .bool b5]) 5).run Tryz.prog w = .ok (.bool b5) w := by
 simp [Instr.field, part, isAgg, asAgg, run_underlying Tryz.underlying173, run_underlying Tryz.underlying4]
set_option maxRecDepth 100000 in
theorem answers_any {op : Nat} {b0 b1 b2 b3 b4 b5 : Bool} (h : Has op b0 b1 b2 b3 b4 b5) (hop : op ≤ 255) (w : World) (ht : TabW w) : Calls Tryz.prog 72 #[.int .u8 op] w fun e w' => e = .returned (.bool b5) ∧ Below w.heap.size w w' := by
 have HT := Lib.hid ht
 have HH := Lib.hid h
 clear ht h
 go_enter Tryz.func72, Tryz.ntmps72
 go_wp2_with fail
 refine (of_is HH.out hop _ HT.out).mono ?_
 rintro e w1 ⟨rfl, hb1⟩
 have hf := field_has b0 b1 b2 b3 b4 b5
 go_wp2_with fail
 go_ret
 exact ⟨rfl, hb1⟩
theorem rtwo_any (op : Nat) (w : World) : Calls Tryz.prog 149 #[.int .u8 op] w fun e w' => e = .returned (.bool (hasT op 1)) ∧ Below w.heap.size w w' := by
 go_enter Tryz.func149, Tryz.ntmps149
 go_wp2
 all_goals go_ret
 all_goals refine ⟨ret_bool ?_, Below.refl _ _⟩
 all_goals show _ = ((decide (4 ≤ op) && decide (op ≤ 10)) || op == 15 || op == 17)
 all_goals (first | rfl | (rw [Bool.eq_iff_iff]; simp only [Bool.and_eq_true, Bool.or_eq_true, decide_eq_true_eq, beq_iff_eq, bne_iff_ne, Bool.not_eq_true', beq_eq_false_iff_ne, decide_eq_false_iff_not, Bool.false_eq_true, false_iff, true_iff, iff_false, iff_true, true_and, and_true, false_and, and_false, true_or, or_true, false_or, or_false, ne_eq]; first | done | omega | (intros; omega)) | (rw [Bool.eq_iff_iff]; simp [*]; done) | (rw [Bool.eq_iff_iff]; simp [*]; omega))
theorem rargs_any (op : Nat) (w : World) : Calls Tryz.prog 150 #[.int .u8 op] w fun e w' => e = .returned (.bool (hasT op 3)) ∧ Below w.heap.size w w' := by
 go_enter Tryz.func150, Tryz.ntmps150
 go_wp2
 all_goals go_ret
 all_goals refine ⟨ret_bool ?_, Below.refl _ _⟩
 all_goals show _ = (op == 18 || op == 19 || op == 22)
 all_goals (first | rfl | (rw [Bool.eq_iff_iff]; simp only [Bool.and_eq_true, Bool.or_eq_true, decide_eq_true_eq, beq_iff_eq, bne_iff_ne, Bool.not_eq_true', beq_eq_false_iff_ne, decide_eq_false_iff_not, Bool.false_eq_true, false_iff, true_iff, iff_false, iff_true, true_and, and_true, false_and, and_false, true_or, or_true, false_or, or_false, ne_eq]; first | done | omega | (intros; omega)) | (rw [Bool.eq_iff_iff]; simp [*]; done) | (rw [Bool.eq_iff_iff]; simp [*]; omega))
theorem ranswers_any (op : Nat) (w : World) : Calls Tryz.prog 122 #[.int .u8 op] w fun e w' => e = .returned (.bool (hasT op 5)) ∧ Below w.heap.size w w' := by
 go_enter Tryz.func122, Tryz.ntmps122
 go_wp2
 all_goals go_ret
 all_goals refine ⟨ret_bool ?_, Below.refl _ _⟩
 all_goals show _ = (decide (1 ≤ op) && decide (op ≤ 22) && op != 13 && op != 17 && op != 21)
 all_goals (first | rfl | (rw [Bool.eq_iff_iff]; simp only [Bool.and_eq_true, Bool.or_eq_true, decide_eq_true_eq, beq_iff_eq, bne_iff_ne, Bool.not_eq_true', beq_eq_false_iff_ne, decide_eq_false_iff_not, Bool.false_eq_true, false_iff, true_iff, iff_false, iff_true, true_and, and_true, false_and, and_false, true_or, or_true, false_or, or_false, ne_eq]; first | done | omega | (intros; omega)) | (rw [Bool.eq_iff_iff]; simp [*]; done) | (rw [Bool.eq_iff_iff]; simp [*]; omega))
theorem rhasa_any (op : Nat) (w : World) : Calls Tryz.prog 148 #[.int .u8 op] w fun e w' => e = .returned (.bool (hasT op 0)) ∧ Below w.heap.size w w' := by
 obtain ⟨b, hb⟩ : ∃ b, hasT op 1 = b := ⟨_, rfl⟩
 have HT := Lib.hid (rtwo_any op w)
 rw [hb] at HT
 have HBT := Lib.hid hb
 clear hb
 cases b with
 | true =>
   have hq : hasT op 0 = true := by
    have := HBT.out
    revert this
    show ((decide (4 ≤ op) && decide (op ≤ 10)) || op == 15 || op == 17) = true → ((decide (4 ≤ op) && decide (op ≤ 10)) || op == 13 || op == 14 || op == 15 || op == 16 || op == 17 || op == 19 || op == 21) = true
    simp only [Bool.or_eq_true, Bool.and_eq_true, decide_eq_true_eq, beq_iff_eq]
    omega
   rw [hq]
   clear hq
   go_enter Tryz.func148, Tryz.ntmps148
   go_wp2_with fail
   refine HT.out.mono ?_
   rintro e w1 ⟨rfl, hb⟩
   go_wp2_with fail
   go_ret
   exact ⟨rfl, hb⟩
 | false =>
   go_enter Tryz.func148, Tryz.ntmps148
   go_wp2_with fail
   refine HT.out.mono ?_
   rintro e w1 ⟨rfl, hb⟩
   go_wp2_with fail
   all_goals go_ret
   all_goals refine ⟨ret_bool ?_, hb⟩
   all_goals have h9 : ((decide (4 ≤ op) && decide (op ≤ 10)) || op == 15 || op == 17) = false := HBT.out
   all_goals show _ = ((decide (4 ≤ op) && decide (op ≤ 10)) || op == 13 || op == 14 || op == 15 || op == 16 || op == 17 || op == 19 || op == 21)
   all_goals simp only [Bool.or_eq_false_iff, Bool.and_eq_false_iff, decide_eq_false_iff_not, beq_eq_false_iff_ne] at h9
   all_goals (first | rfl | (rw [Bool.eq_iff_iff]; simp only [Bool.and_eq_true, Bool.or_eq_true, decide_eq_true_eq, beq_iff_eq, bne_iff_ne, Bool.not_eq_true', beq_eq_false_iff_ne, decide_eq_false_iff_not, Bool.false_eq_true, false_iff, true_iff, iff_false, iff_true, true_and, and_true, false_and, and_false, true_or, or_true, false_or, or_false, ne_eq]; first | done | omega | (intros; omega)) | (rw [Bool.eq_iff_iff]; simp [*]; done) | (rw [Bool.eq_iff_iff]; simp [*]; omega))
end Go.Proofs.YtbffebcjimhapaaGreatDoor
namespace Go.Proofs.YtbffebcjimhapaaGreatDoor
set_option linter.unusedVariables false
set_option linter.unusedSimpArgs false
open Go.RowKit
structure PIns where
 op : Nat
 ty : Int
 a : Int
 b : Int
 n : Int
 args : List Int
 from_ : List Int
deriving Inhabited, DecidableEq
structure PEnd where
 kind : Nat
 a : Int
 to : Int
 els : Int
deriving Inhabited, DecidableEq
structure PBlk where
 ins : List PIns
 fin : PEnd
deriving Inhabited, DecidableEq
structure PFun where
 sig : Int
 blocks : List PBlk
deriving Inhabited, DecidableEq
structure PProg where
 types : List Ty
 funs : List PFun
deriving Inhabited
def inB (n m : Int) : Bool := decide (0 ≤ n) && decide (n < m)
theorem inB_iff {n m : Int} : inB n m = true ↔ 0 ≤ n ∧ n < m := by simp [inB]
theorem inB_not {n m : Int} : inB n m = false ↔ n < 0 ∨ m ≤ n := by
 rw [← Bool.not_eq_true, inB_iff]
 omega
def allB (l : List Int) (m : Int) : Bool := l.all fun n => inB n m
def numB (x : PIns) (funs : Int) : Bool := if x.op = 3 ∨ x.op = 18 then inB x.n funs else if x.op = 14 then inB x.n 8 else true
def insB (x : PIns) (types funs regs blocks : Int) : Bool :=
 decide (1 ≤ x.op ∧ x.op ≤ 22) &&
 ((!hasT x.op 0 || inB x.a regs) && ((!hasT x.op 1 || inB x.b regs) && (allB x.args regs && (numB x funs &&
 ((hasT x.op 0 || decide (x.a = 0)) && ((hasT x.op 1 || decide (x.b = 0)) && ((hasT x.op 2 || decide (x.n = 0)) && ((hasT x.op 3 || decide (x.args.length = 0)) &&
 ((if hasT x.op 5 then inB x.ty types else decide (x.ty = 0)) &&
 (if x.op = 22 then decide (x.from_.length = x.args.length) && (decide (1 ≤ x.from_.length ∧ x.from_.length ≤ 16) && allB x.from_ blocks) else decide (x.from_.length = 0) && decide (x.args.length ≤ 4)))))))))))
def endB (x : PEnd) (regs blocks : Int) : Bool :=
 if x.kind = 1 then decide (x.a = 0 ∧ x.els = 0) && inB x.to blocks
 else if x.kind = 2 then inB x.a regs && (inB x.to blocks && inB x.els blocks)
 else if x.kind = 3 then decide (x.to = 0 ∧ x.els = 0) && inB x.a regs
 else false
def manyB (l : List PBlk) : Nat := (l.map fun b => b.ins.length).sum
def parsP (p : PProg) (f : PFun) : Nat := (p.types.getD f.sig.toNat default).parts.length
def regsP (p : PProg) (f : PFun) : Nat := parsP p f + manyB f.blocks
def funB (p : PProg) (f : PFun) : Bool :=
 (inB f.sig p.types.length && (decide ((p.types.getD f.sig.toNat default).kind = 3) && (decide (1 ≤ f.blocks.length ∧ f.blocks.length ≤ 16) && decide (manyB f.blocks ≤ 128)))) &&
 f.blocks.all fun b => (b.ins.all fun x => insB x p.types.length p.funs.length (regsP p f) f.blocks.length) && endB b.fin (regsP p f) f.blocks.length
def checkP (p : PProg) : Int := if checkT p.types ≠ 0 then checkT p.types else if (1 ≤ p.funs.length ∧ p.funs.length ≤ 8) ∧ p.funs.all (funB p) = true then 0 else 60
def funAt (p : PProg) (f : Int) : PFun := p.funs.getD f.toNat default
def askedP (p : PProg) (f : Int) : Int := if checkP p ≠ 0 then checkP p else if inB f p.funs.length then 0 else 2
def regsE (p : PProg) (f : Int) : Int × Int := if askedP p f ≠ 0 then (0, askedP p f) else (regsP p (funAt p f), 0)
def whereB : List PBlk → Nat → Nat → Nat × Nat
 | [], k, r => (k, r)
 | b :: l, k, r => if r < b.ins.length then (k, r) else whereB l (k + 1) (r - b.ins.length)
def placeE (p : PProg) (f r : Int) : Int × Int × Int :=
 if askedP p f ≠ 0 then (0, 0, askedP p f)
 else if inB r (regsP p (funAt p f)) then
  (if r < parsP p (funAt p f) then (-1, r, 0) else (((whereB (funAt p f).blocks 0 (r.toNat - parsP p (funAt p f))).1 : Nat), ((whereB (funAt p f).blocks 0 (r.toNat - parsP p (funAt p f))).2 : Nat), 0))
 else (0, 0, 2)
def regE (p : PProg) (f b i : Int) : Int × Int :=
 if askedP p f ≠ 0 then (0, askedP p f)
 else if inB b (funAt p f).blocks.length && inB i ((funAt p f).blocks.getD b.toNat default).ins.length then
  ((parsP p (funAt p f) + manyB ((funAt p f).blocks.take b.toNat) + i.toNat : Nat), 0)
 else (0, 2)
theorem many_snoc (l : List PBlk) (b : PBlk) : manyB (l ++ [b]) = manyB l + b.ins.length := by
 unfold manyB
 rw [List.map_append, List.sum_append]
 simp
theorem many_take {l : List PBlk} {k : Nat} (h : k < l.length) : manyB (l.take (k + 1)) = manyB (l.take k) + (l.getD k default).ins.length := by
 rw [take_succ_getD (d := default) h, many_snoc]
end Go.Proofs.YtbffebcjimhapaaGreatDoor
namespace Go.Proofs.YtbffebcjimhapaaGreatDoor
set_option linter.unusedVariables false
set_option linter.unusedSimpArgs false
open Go.ChangeShapes Go.WideShapes Go.Deep Go.RowKit
structure TyR where
 kind : Nat
 elem : Int
 many : Int
 pa : Option Addr
 pc : Nat
 parts : List Int
deriving Inhabited
def TyR.data (r : TyR) : Ty := ⟨r.kind, r.elem, r.many, r.parts⟩
def TyR.cell (r : TyR) (j : Nat) : Value := match j with
 | 0 => .int .u8 r.kind
 | 1 => .int .i64 r.elem
 | 2 => .int .i64 r.many
 | _ => .slice r.pa r.parts.length r.pc
def TyR.val (r : TyR) : Value := .agg #[.int .u8 r.kind, .int .i64 r.elem, .int .i64 r.many, .slice r.pa r.parts.length r.pc]
structure TyR.Ok (w : World) (lo B : Nat) (r : TyR) : Prop where
 kind : r.kind ≤ 255
 hdr : Hdr r.pa r.parts.length r.pc
 ints : IntsAt w lo B r.pa r.parts
structure TypsAt (w : World) (lo B : Nat) (A : Option Addr) (rows : List TyR) : Prop where
 cells : CellsAt w lo B A 4 rows.length fun i j => (rows.getD i default).cell j
 ok : ∀ r ∈ rows, r.Ok w lo B
section
variable {w w' : World} {lo lo' B B' : Nat} {A : Option Addr} {rows : List TyR} {r : TyR}
theorem TyR.Ok.keep (h : r.Ok w lo B) (hb : Below B w w') : r.Ok w' lo B := ⟨h.kind, h.hdr, h.ints.keep hb⟩
theorem TyR.Ok.more (h : r.Ok w lo B) (h1 : lo' ≤ lo) (h2 : B ≤ B') : r.Ok w lo' B' := ⟨h.kind, h.hdr, h.ints.more h1 h2⟩
theorem TypsAt.keep (h : TypsAt w lo B A rows) (hb : Below B w w') : TypsAt w' lo B A rows := ⟨h.cells.keep hb, fun r hr => (h.ok r hr).keep hb⟩
theorem TypsAt.more (h : TypsAt w lo B A rows) (h1 : lo' ≤ lo) (h2 : B ≤ B') : TypsAt w lo' B' A rows := ⟨h.cells.more h1 h2, fun r hr => (h.ok r hr).more h1 h2⟩
theorem TypsAt.on (h : TypsAt w lo w.heap.size A rows) (hb : Below w.heap.size w w') : TypsAt w' lo w'.heap.size A rows := (h.keep hb).more (Nat.le_refl _) hb.size
end
theorem mem_getD {α : Type} {d : α} {l : List α} {i : Nat} (h : i < l.length) : l.getD i d ∈ l := by rw [getD_lt l h]; exact List.getElem_mem h
structure Elem (w : World) (A : Option Addr) (i : Nat) (r : TyR) : Prop where
 at_ : ∃ b off, A = some ⟨b, off, none⟩ ∧ b < w.heap.size ∧ w.cell? ⟨b, off + i * 4, none⟩ = some (.int .u8 r.kind) ∧ w.cell? ⟨b, off + i * 4 + 1, none⟩ = some (.int .i64 r.elem) ∧ w.cell? ⟨b, off + i * 4 + 2, none⟩ = some (.int .i64 r.many) ∧ w.cell? ⟨b, off + i * 4 + 3, none⟩ = some (.slice r.pa r.parts.length r.pc)
theorem TypsAt.elem {w : World} {lo B : Nat} {A : Option Addr} {rows : List TyR} (h : TypsAt w lo B A rows) {i : Nat} (hi : i < rows.length) : Elem w A i (rows.getD i default) := by
 obtain ⟨b, off, rfl, h1, h2, hc⟩ := h.cells (by omega)
 have c0 := hc i hi 0 (by omega)
 exact ⟨b, off, rfl, World.block_lt_of_cell? w _ c0, c0, hc i hi 1 (by omega), hc i hi 2 (by omega), hc i hi 3 (by omega)⟩
def tbl (rows : List TyR) : List Ty := rows.map TyR.data
theorem tbl_len (rows : List TyR) : (tbl rows).length = rows.length := by simp [tbl]
theorem tbl_at {rows : List TyR} {i : Nat} (h : i < rows.length) : (tbl rows).getD i default = (rows.getD i default).data := by
 unfold tbl
 rw [List.getD_eq_getElem?_getD, List.getElem?_map, List.getElem?_eq_getElem h, getD_lt rows h]
 rfl
section
variable {H : Type} {enc : TypeId × Value → H} {w : World} {base : Nat} {spare : Nat → Bool} {held : Bool}
end
end Go.Proofs.YtbffebcjimhapaaGreatDoor
namespace Go.Proofs.YtbffebcjimhapaaGreatDoor
set_option linter.unusedVariables false
set_option linter.unusedSimpArgs false
open Go.ChangeShapes Go.WideShapes Go.ChangeAt Go.RowKit
def lowP (m : Int) (n : Int) : Bool := decide (0 ≤ n) && decide (n < m)
theorem lower_any {w : World} {lo B : Nat} {A : Option Addr} {c : Nat} {xs : List Int} (hh : Hdr A xs.length c) (hx : IntsAt w lo B A xs) (m : Int) :
 Calls Tryz.prog 145 #[.slice A xs.length c, .int .i64 m] w fun e w' => e = .returned (.bool (lowerB xs m)) ∧ w = w' := by
 have hl := Nat.le_trans hh.fit hh.cap
 unfold maxLen at hl
 have HX := Lib.hid hx
 clear hx hh
 go_enter Tryz.func145, Tryz.ntmps145
 go_wp2_with fail
 go_loop [5] (fun i => ∃ k : Nat, k ≤ xs.length ∧ i = .int .i64 k ∧ AllTo (lowP m) xs k) (fun i => xs.length - (intOf i).toNat)
 case atStart => exact ⟨0, Nat.zero_le _, rfl, AllTo.zero _ _⟩
 case round =>
  obtain ⟨k, hk, rfl, hall⟩ := hrel
  have HA := Lib.hid hall
  clear hall
  by_cases hlt : k < xs.length
  · obtain ⟨b, off, x, rfl, hcell, HE⟩ := HX.out.cell hlt
    by_cases h0 : x < 0
    · go_wp2_with fail
      go_ret
      exact ⟨ret_bool (all_stop (d := 0) hlt (by rw [HE.out]; simp [lowP]; omega)).symm, rfl⟩
    · by_cases h1 : x < m
      · go_wp2_with fail
        go_round
        case rel => exact ⟨k + 1, by omega, by go_num, HA.out.step (d := 0) hlt (by rw [HE.out]; simp [lowP]; omega)⟩
        case measure => simp [intOf]; omega
      · go_wp2_with fail
        go_ret
        exact ⟨ret_bool (all_stop (d := 0) hlt (by rw [HE.out]; simp [lowP]; omega)).symm, rfl⟩
  · go_wp2_with fail
    go_ret
    exact ⟨ret_bool (HA.out.done (by omega)).symm, rfl⟩
theorem plain_in {rows : List TyR} {i : Nat} (h : i < rows.length) : plainB (tbl rows) (i : Int) = scalK (rows.getD i default).kind := by
 unfold plainB
 rw [tbl_len, Int.toNat_natCast, tbl_at h, decide_eq_true (by omega : (0 : Int) ≤ (i : Int)), decide_eq_true (by omega : (i : Int) < (rows.length : Int))]
 rfl
theorem plain_out {rows : List TyR} {k : Int} (h : k < 0 ∨ (rows.length : Int) ≤ k) : plainB (tbl rows) k = false := by
 unfold plainB
 rw [tbl_len]
 rcases h with h | h
 · rw [decide_eq_false (by omega : ¬ (0 : Int) ≤ k)]; rfl
 · rw [decide_eq_false (by omega : ¬ k < (rows.length : Int))]; simp
set_option maxHeartbeats 400000 in
theorem rplain_any {w : World} {lo B : Nat} {A : Option Addr} {c : Nat} {rows : List TyR} (hh : Hdr A rows.length c) (hx : TypsAt w lo B A rows) (k : Int) :
 Calls Tryz.prog 166 #[.slice A rows.length c, .int .i64 k] w fun e w' => e = .returned (.bool (plainB (tbl rows) k)) ∧ w = w' := by
 have hl := Nat.le_trans hh.fit hh.cap
 unfold maxLen at hl
 have HX := Lib.hid hx
 clear hx hh
 by_cases h0 : k < 0
 · rw [plain_out (.inl h0)]
   go_enter Tryz.func166, Tryz.ntmps166
   go_wp2_with fail
   go_ret
   exact ⟨rfl, rfl⟩
 by_cases h1 : (rows.length : Int) ≤ k
 · rw [plain_out (.inr h1)]
   go_enter Tryz.func166, Tryz.ntmps166
   go_wp2_with fail
   go_ret
   exact ⟨rfl, rfl⟩
 obtain ⟨i, rfl⟩ := Int.eq_ofNat_of_zero_le (show 0 ≤ k by omega)
 have hi : i < rows.length := by omega
 rw [plain_in hi]
 obtain ⟨b, off, rfl, _, hc, _, _, _⟩ := (HX.out.elem hi).at_
 generalize (rows.getD i default).kind = κ at hc ⊢
 go_enter Tryz.func166, Tryz.ntmps166
 go_wp2_with fail
 all_goals go_ret
 all_goals exact ⟨ret_bool (by unfold scalK; (first | rfl | (rw [Bool.eq_iff_iff]; simp only [Bool.and_eq_true, Bool.or_eq_true, decide_eq_true_eq, beq_iff_eq, bne_iff_ne, Bool.not_eq_true', beq_eq_false_iff_ne, decide_eq_false_iff_not, Bool.false_eq_true, false_iff, true_iff, iff_false, iff_true, true_and, and_true, false_and, and_false, true_or, or_true, false_or, or_false, ne_eq]; first | done | omega | (intros; omega)) | (rw [Bool.eq_iff_iff]; simp [*]; done) | (rw [Bool.eq_iff_iff]; simp [*]; omega))), rfl⟩
theorem rplain_is {w : World} {lo B : Nat} {A : Option Addr} {c : Nat} {rows : List TyR} (hh : Hdr A rows.length c) (hx : TypsAt w lo B A rows) (k : Int) {b : Bool} (hb : plainB (tbl rows) k = b) :
 Calls Tryz.prog 166 #[.slice A rows.length c, .int .i64 k] w fun e w' => e = .returned (.bool b) ∧ w = w' := hb ▸ rplain_any hh hx k
theorem lower_is {w : World} {lo B : Nat} {A : Option Addr} {c : Nat} {xs : List Int} (hh : Hdr A xs.length c) (hx : IntsAt w lo B A xs) (m : Int) {b : Bool} (hb : lowerB xs m = b) :
 Calls Tryz.prog 145 #[.slice A xs.length c, .int .i64 m] w fun e w' => e = .returned (.bool b) ∧ w = w' := hb ▸ lower_any hh hx m
set_option maxHeartbeats 400000 in
theorem mayFn_any {w : World} {lo : Nat} {A : Option Addr} {c : Nat} {rows : List TyR} (hh : Hdr A rows.length c) (hx : TypsAt w lo w.heap.size A rows) (r : TyR) (hr : r.Ok w lo w.heap.size) :
 Calls Tryz.prog 144 #[.slice A rows.length c, r.val] w fun e w' => e = .returned (.bool (mayFnB (tbl rows) r.data)) ∧ Below w.heap.size w w' := by
 obtain ⟨κ, el, ma, pa, pc, parts⟩ := r
 have hl := Nat.le_trans hr.hdr.fit hr.hdr.cap
 unfold maxLen at hl
 have hb0 : Below w.heap.size w (w.alloc (.cells #[.int .u8 κ, .int .i64 el, .int .i64 ma, .slice pa parts.length pc] 78)) := (Below.refl _ _).alloc (Nat.le_refl _) _
 have HX := Lib.hid (hx.on hb0)
 have HR := Lib.hid (hr.keep hb0)
 have HH := Lib.hid hh
 clear hx hr hh hb0
 unfold TyR.val
 go_enter Tryz.func144, Tryz.ntmps144
 go_wp2_with fail
 go_loop [5] (fun i => ∃ k : Nat, k ≤ parts.length ∧ i = .int .i64 k ∧ AllTo (plainB (tbl rows)) parts k) (fun i => parts.length - (intOf i).toNat)
 case atStart => exact ⟨0, Nat.zero_le _, rfl, AllTo.zero _ _⟩
 case round =>
  obtain ⟨k, hk, rfl, hall⟩ := hrel
  have HA := Lib.hid hall
  clear hall
  by_cases hlt : k < parts.length
  · obtain ⟨b, off, x, hA, hcell, HE⟩ := HR.out.ints.cell hlt
    simp only at hA
    subst hA
    cases hv : plainB (tbl rows) x with
    | true =>
      have HV := Lib.hid hv
      clear hv
      go_wp2_with (go_at_call 166; refine (rplain_is HH.out HX.out x HV.out).mono ?_; rintro e w' ⟨rfl, rfl⟩)
      go_round
      case rel => exact ⟨k + 1, by omega, by go_num, HA.out.step (d := 0) hlt (by rw [HE.out]; exact HV.out)⟩
      case measure => simp [intOf]; omega
    | false =>
      have HV := Lib.hid hv
      clear hv
      go_wp2_with (go_at_call 166; refine (rplain_is HH.out HX.out x HV.out).mono ?_; rintro e w' ⟨rfl, rfl⟩)
      go_ret
      refine ⟨ret_bool ?_, (Below.refl _ _).alloc (Nat.le_refl _) _⟩
      show false = (parts.all _ && _)
      rw [all_stop (d := 0) hlt (by rw [HE.out]; exact HV.out)]; rfl
  · have HD : Hid (parts.all (plainB (tbl rows)) = true) := Lib.hid (HA.out.done (by omega))
    go_wp2_with (go_at_call 166; refine (rplain_any HH.out HX.out el).mono ?_; rintro e w1 ⟨rfl, rfl⟩)
    all_goals go_ret
    all_goals refine ⟨ret_bool ?_, (Below.refl _ _).alloc (Nat.le_refl _) _⟩
    all_goals show _ = (parts.all _ && (plainB _ el && (decide (parts.length ≤ 4) && decide (ma = 0))))
    all_goals rw [HD.out]
    all_goals (first | rfl | (rw [Bool.eq_iff_iff]; simp only [Bool.and_eq_true, Bool.or_eq_true, decide_eq_true_eq, beq_iff_eq, bne_iff_ne, Bool.not_eq_true', beq_eq_false_iff_ne, decide_eq_false_iff_not, Bool.false_eq_true, false_iff, true_iff, iff_false, iff_true, true_and, and_true, false_and, and_false, true_or, or_true, false_or, or_false, ne_eq]; first | done | omega | (intros; omega)) | (rw [Bool.eq_iff_iff]; simp [*]; done) | (rw [Bool.eq_iff_iff]; simp [*]; omega))
set_option maxHeartbeats 800000 in
theorem mayType_any {w : World} {lo : Nat} {A : Option Addr} {c : Nat} {rows : List TyR} (hh : Hdr A rows.length c) (hx : TypsAt w lo w.heap.size A rows) {k : Nat} (hk : k < rows.length) :
 Calls Tryz.prog 107 #[.slice A rows.length c, .int .i64 k] w fun e w' => e = .returned (.bool (mayT (tbl rows) k)) ∧ Below w.heap.size w w' := by
 have hl := Nat.le_trans hh.fit hh.cap
 unfold maxLen at hl
 obtain ⟨b, off, rfl, hbl, c0, c1, c2, c3⟩ := (hx.elem hk).at_
 have HM : Hid (mayT (tbl rows) k = mayX (tbl rows) (rows.getD k default).data k) := Lib.hid (by unfold mayT; rw [tbl_at hk])
 have hrk := hx.ok _ (mem_getD (d := default) hk)
 generalize rows.getD k default = r at c0 c1 c2 c3 HM hrk
 obtain ⟨κ, el, ma, pa, pc, parts⟩ := r
 simp only at c0 c1 c2 c3
 have hlp := Nat.le_trans hrk.hdr.fit hrk.hdr.cap
 unfold maxLen at hlp
 simp only at hlp
 have hb0 : ∀ o : Obj, Below w.heap.size w (w.alloc o) := fun o => (Below.refl _ _).alloc (Nat.le_refl _) _
 have HX : Hid (∀ o, TypsAt (w.alloc o) lo (w.alloc o).heap.size (some ⟨b, off, none⟩) rows) := Lib.hid fun o => hx.on (hb0 o)
 have HR : Hid (∀ o, TyR.Ok (w.alloc o) lo (w.alloc o).heap.size ⟨κ, el, ma, pa, pc, parts⟩) := Lib.hid fun o => (hrk.keep (hb0 o)).more (Nat.le_refl _) (hb0 o).size
 have HH := Lib.hid hh
 clear hx hrk hh hb0
 by_cases e1 : κ = 1
 · subst e1
   go_enter Tryz.func107, Tryz.ntmps107
   go_wp2_with fail
   all_goals go_ret
   all_goals refine ⟨ret_bool ?_, (Below.refl _ _).alloc (Nat.le_refl _) _⟩
   all_goals rw [HM.out]
   all_goals show _ = (decide (el = 0) && (decide (ma = 0) && decide (parts.length = 0)))
   all_goals (first | rfl | (rw [Bool.eq_iff_iff]; simp only [Bool.and_eq_true, Bool.or_eq_true, decide_eq_true_eq, beq_iff_eq, bne_iff_ne, Bool.not_eq_true', beq_eq_false_iff_ne, decide_eq_false_iff_not, Bool.false_eq_true, false_iff, true_iff, iff_false, iff_true, true_and, and_true, false_and, and_false, true_or, or_true, false_or, or_false, ne_eq]; first | done | omega | (intros; omega)) | (rw [Bool.eq_iff_iff]; simp [*]; done) | (rw [Bool.eq_iff_iff]; simp [*]; omega))
 by_cases e2 : κ = 2
 · subst e2
   go_enter Tryz.func107, Tryz.ntmps107
   go_wp2_with fail
   all_goals go_ret
   all_goals refine ⟨ret_bool ?_, (Below.refl _ _).alloc (Nat.le_refl _) _⟩
   all_goals rw [HM.out]
   all_goals show _ = (decide (0 ≤ el) && (decide (el < (tbl rows).length) && (decide (ma = 0) && decide (parts.length = 0))))
   all_goals rw [tbl_len]
   all_goals (first | rfl | (rw [Bool.eq_iff_iff]; simp only [Bool.and_eq_true, Bool.or_eq_true, decide_eq_true_eq, beq_iff_eq, bne_iff_ne, Bool.not_eq_true', beq_eq_false_iff_ne, decide_eq_false_iff_not, Bool.false_eq_true, false_iff, true_iff, iff_false, iff_true, true_and, and_true, false_and, and_false, true_or, or_true, false_or, or_false, ne_eq]; first | done | omega | (intros; omega)) | (rw [Bool.eq_iff_iff]; simp [*]; done) | (rw [Bool.eq_iff_iff]; simp [*]; omega))
 by_cases e3 : κ = 3
 · subst e3
   go_enter Tryz.func107, Tryz.ntmps107
   go_wp2_with fail
   refine (mayFn_any HH.out (HX.out _) ⟨3, el, ma, pa, pc, parts⟩ (HR.out _)).mono ?_
   rintro e w1 ⟨rfl, hb1⟩
   go_wp2_with fail
   all_goals go_ret
   all_goals refine ⟨ret_bool ?_, below_new hb1⟩
   all_goals rw [HM.out]
   all_goals rfl
 by_cases e4 : κ = 4
 · subst e4
   cases hv : lowerB parts (k : Int)
   all_goals
    have HV := Lib.hid hv
    clear hv
    have hlow := fun o => lower_is (HR.out o).hdr (HR.out o).ints k HV.out
    simp only at hlow
    go_enter Tryz.func107, Tryz.ntmps107
    go_wp2_with (go_at_call 145; refine (hlow _).mono ?_; rintro e w' ⟨rfl, rfl⟩)
    all_goals clear hlow
    all_goals go_ret
    all_goals refine ⟨ret_bool ?_, (Below.refl _ _).alloc (Nat.le_refl _) _⟩
    all_goals rw [HM.out]
    all_goals show _ = (decide (el = 0) && (decide (ma = 0) && (decide (1 ≤ parts.length) && (decide (parts.length ≤ 8) && lowerB parts k))))
    all_goals rw [HV.out]
    all_goals (first | rfl | (rw [Bool.eq_iff_iff]; simp only [Bool.and_eq_true, Bool.or_eq_true, decide_eq_true_eq, beq_iff_eq, bne_iff_ne, Bool.not_eq_true', beq_eq_false_iff_ne, decide_eq_false_iff_not, Bool.false_eq_true, false_iff, true_iff, iff_false, iff_true, true_and, and_true, false_and, and_false, true_or, or_true, false_or, or_false, ne_eq]; first | done | omega | (intros; omega)) | (rw [Bool.eq_iff_iff]; simp [*]; done) | (rw [Bool.eq_iff_iff]; simp [*]; omega))
 by_cases e5 : κ = 5
 · subst e5
   go_enter Tryz.func107, Tryz.ntmps107
   go_wp2_with fail
   all_goals go_ret
   all_goals refine ⟨ret_bool ?_, (Below.refl _ _).alloc (Nat.le_refl _) _⟩
   all_goals rw [HM.out]
   all_goals show _ = (decide (0 ≤ el) && (decide (el < k) && (decide (1 ≤ ma) && (decide (ma ≤ 16) && decide (parts.length = 0)))))
   all_goals (first | rfl | (rw [Bool.eq_iff_iff]; simp only [Bool.and_eq_true, Bool.or_eq_true, decide_eq_true_eq, beq_iff_eq, bne_iff_ne, Bool.not_eq_true', beq_eq_false_iff_ne, decide_eq_false_iff_not, Bool.false_eq_true, false_iff, true_iff, iff_false, iff_true, true_and, and_true, false_and, and_false, true_or, or_true, false_or, or_false, ne_eq]; first | done | omega | (intros; omega)) | (rw [Bool.eq_iff_iff]; simp [*]; done) | (rw [Bool.eq_iff_iff]; simp [*]; omega))
 have HO := Lib.hid (mayX_other (tbl rows) ⟨κ, el, ma, parts⟩ k e1 e2 e3 e4 e5)
 go_enter Tryz.func107, Tryz.ntmps107
 go_wp2_with fail
 all_goals go_ret
 all_goals refine ⟨ret_bool ?_, (Below.refl _ _).alloc (Nat.le_refl _) _⟩
 all_goals rw [HM.out]
 all_goals exact (HO.out).symm
def greatP (r : TyR) : Bool := decide (20 < r.parts.length)
def greatT (rows : List TyR) : Bool := !((rows.take 30).all fun r => decide (r.parts.length ≤ 20)) || decide (20 < rows.length)
theorem flat_snoc {t : List Ty} {ps : List Int} {j : Nat} (h : j < ps.length) : (ps.take (j + 1)).flatMap (ofP t) = (ps.take j).flatMap (ofP t) ++ ofP t (ps.getD j 0) := by
 rw [take_succ_getD (d := 0) h, List.flatMap_append]; simp
theorem OwnInts.one (w : World) (lo g : Nat) (y : Int) (h : lo ≤ w.heap.size) (hg : g = w.heap.size) : OwnInts (w.alloc (.cells #[.int .i64 y] 3)) lo (.slice (some ⟨g, 0, none⟩) 1 1) [y] := by
 subst hg
 refine ⟨rfl, .inr ⟨w.heap.size, 1, #[.int .i64 y], rfl, h, ?_, Nat.le_refl 1, by unfold maxLen; omega, rfl, rfl⟩⟩
 show (w.heap.push _)[w.heap.size]? = _
 simp
set_option maxHeartbeats 1600000 in
theorem rof_any {A : Option Addr} {c lo : Nat} {rows : List TyR} (hh : Hdr A rows.length c) : ∀ (k : Nat) (w : World), TypsAt w lo w.heap.size A rows → k < rows.length → allGood (tbl rows) k = true → mayT (tbl rows) k = true →
 Calls Tryz.prog 108 #[.slice A rows.length c, .int .i64 k] w (SomeInts (ofT (tbl rows) k) w) := by
 intro k
 induction k using Nat.strongRecOn with
 | _ k ih =>
 intro w hx hk hgood hmay
 have hl := Nat.le_trans hh.fit hh.cap
 unfold maxLen at hl
 have hh' := Lib.hid hh
 obtain ⟨b, off, rfl, hbl, c0, c1, c2, c3⟩ := (hx.elem hk).at_
 have HD : Hid ((tbl rows).getD k default = (rows.getD k default).data) := Lib.hid (tbl_at hk)
 have hrk := hx.ok _ (mem_getD (d := default) hk)
 have IH := Lib.hid ih
 have HG := Lib.hid hgood
 have HM := Lib.hid hmay
 have HX := Lib.hid hx
 clear ih hgood hmay hh hx
 generalize rows.getD k default = r at c0 c1 c2 c3 HD hrk
 obtain ⟨κ, el, ma, pa, pc, parts⟩ := r
 simp only at c0 c1 c2 c3
 have hlp := Nat.le_trans hrk.hdr.fit hrk.hdr.cap
 unfold maxLen at hlp
 simp only at hlp
 have HK := Lib.hid hrk
 clear hrk
 have hb0 : Below w.heap.size w (w.alloc (.cells #[.int .u8 κ, .int .i64 el, .int .i64 ma, .slice pa parts.length pc] 78)) := (Below.refl _ _).alloc (Nat.le_refl _) _
 have HB := Lib.hid hb0
 have HN := Lib.hid (Blk.new w 78 #[.int .u8 κ, .int .i64 el, .int .i64 ma, .slice pa parts.length pc])
 clear hb0
 by_cases e4 : κ = 4
 · subst e4
   have hlow := may_struct HM.out (by rw [HD.out]; rfl)
   rw [HD.out] at hlow
   have HL := Lib.hid hlow
   have hsl := struct_len HM.out (by rw [HD.out]; rfl)
   rw [HD.out] at hsl
   simp only [TyR.data] at hsl
   clear hlow
   go_enter Tryz.func108, Tryz.ntmps108
   go_wp2_with fail
   go_loopw [6, 7] (fun v i wr => ∃ j : Nat, j ≤ parts.length ∧ i = .int .i64 j ∧ OwnInts wr w.heap.size v ((parts.take j).flatMap (ofP (tbl rows))) ∧ Blk wr w.heap.size 78 #[.int .u8 4, .int .i64 el, .int .i64 ma, .slice pa parts.length pc] ∧ Below w.heap.size w wr) (fun _ i _ => parts.length - (intOf i).toNat)
   case atStart => exact ⟨0, Nat.zero_le _, rfl, OwnInts.nil _ _, HN.out, HB.out⟩
   case round =>
    obtain ⟨j, hj, rfl, hown, hblk, hbel⟩ := hrel
    have k3 : wr.cell? ⟨w.heap.size, 3, none⟩ = some (.slice pa parts.length pc) := hblk.cells 3
    have HO := Lib.hid hown
    have HBk := Lib.hid hblk
    have HBl := Lib.hid hbel
    have hz := hblk.lt
    clear hown hblk hbel
    by_cases hlt : j < parts.length
    · obtain ⟨b2, off2, x, hpa, hcell, HE⟩ := (HK.out.keep HBl.out).ints.cell hlt
      simp only at hpa
      subst hpa
      have hxm : x ∈ parts := by have := mem_getD (d := (0 : Int)) hlt; rwa [HE.out] at this
      obtain ⟨hx0, hx1⟩ := HL.out x hxm
      obtain ⟨i, rfl⟩ := Int.eq_ofNat_of_zero_le hx0
      have hik : i < k := by omega
      have HC := Lib.hid (IH.out i hik wr (HX.out.on HBl.out) (by omega) (allGood_mono HG.out (by omega)) (good_may (allGood_iff.1 HG.out i hik)))
      have hle : (ofT (tbl rows) i).length ≤ 32 := good_le (allGood_iff.1 HG.out i hik)
      have hacc : ((parts.take j).flatMap (ofP (tbl rows))).length ≤ 256 := by
       have := take_le HG.out HM.out (by rw [HD.out]; rfl) j
       rw [HD.out] at this
       exact this
      clear hxm
      go_wp2_with fail
      refine HC.out.mono ?_
      rintro e w1 ⟨v1, rfl, hown1, hb1⟩
      obtain ⟨A1, c1', rfl, hnil, hints, _, _⟩ := hown1.form
      have hO1 := HO.out.keep hb1
      have hBl1 := HBl.out.trans (hb1.mono HBl.out.size)
      have hBk1 := HBk.out.beneath hb1
      have HI := Lib.hid hints
      have HO1 := Lib.hid hO1
      have HBl1 := Lib.hid hBl1
      have HBk1 := Lib.hid hBk1
      have HNil := Lib.hid hnil
      clear hown1 hb1 hnil hints hO1 hBl1 hBk1 HC
      go_wp2_with (at_builtin; refine wpList_appN rfl (.tmp 24) (.tmp 31) rfl w.heap.size wr.heap.size w1.heap.size _ _ rfl HO1.out A1 _ c1' _ rfl rfl HNil.out HI.out (by omega) HBl1.out.size ?_; intro v' w2 hown2 hg2)
      have hB2 := HBl1.out.grown hg2 HBl1.out.size HO1.out.base
      have hK2 := HBk1.out.grown hg2 (HO1.out.ne HBk1.out (by decide))
      have HO2 := Lib.hid hown2
      have HB2 := Lib.hid hB2
      have HK2 := Lib.hid hK2
      clear hown2 hg2 hB2 hK2
      go_wp2_with fail
      go_roundw
      case rel => exact ⟨j + 1, by omega, by go_num, by rw [flat_snoc hlt, HE.out]; exact HO2.out, HK2.out, HB2.out⟩
      case measure => simp [intOf]; omega
    · go_wp2_with fail
      go_ret
      refine ⟨_, rfl, ?_, HBl.out⟩
      rw [of_struct (by rw [HD.out]; rfl) (by rw [HD.out]; exact HL.out), HD.out]
      have := HO.out
      rw [List.take_of_length_le (by omega)] at this
      exact this
 by_cases e5 : κ = 5
 · subst e5
   have hlow := may_array HM.out (by rw [HD.out]; rfl)
   rw [HD.out] at hlow
   simp only [TyR.data] at hlow
   obtain ⟨el0, elk, ma1, ma16⟩ := hlow
   obtain ⟨i, rfl⟩ := Int.eq_ofNat_of_zero_le el0
   obtain ⟨m, rfl⟩ := Int.eq_ofNat_of_zero_le (show 0 ≤ ma by omega)
   have hik : i < k := by omega
   have hle : (ofT (tbl rows) i).length ≤ 32 := good_le (allGood_iff.1 HG.out i hik)
   go_enter Tryz.func108, Tryz.ntmps108
   go_wp2_with fail
   go_loopw [8, 9] (fun v i' wr => ∃ j : Nat, j ≤ m ∧ i' = .int .i64 j ∧ OwnInts wr w.heap.size v ((List.replicate j (ofT (tbl rows) i)).flatten) ∧ Blk wr w.heap.size 78 #[.int .u8 5, .int .i64 i, .int .i64 m, .slice pa parts.length pc] ∧ Below w.heap.size w wr) (fun _ i _ => m - (intOf i).toNat)
   case atStart => exact ⟨0, Nat.zero_le _, rfl, OwnInts.nil _ _, HN.out, HB.out⟩
   case round =>
    obtain ⟨j, hj, rfl, hown, hblk, hbel⟩ := hrel
    have k1 : wr.cell? ⟨w.heap.size, 1, none⟩ = some (.int .i64 i) := hblk.cells 1
    have k2 : wr.cell? ⟨w.heap.size, 2, none⟩ = some (.int .i64 m) := hblk.cells 2
    have HO := Lib.hid hown
    have HBk := Lib.hid hblk
    have HBl := Lib.hid hbel
    have hz := hblk.lt
    clear hown hblk hbel
    by_cases hlt : j < m
    · have HC := Lib.hid (IH.out i hik wr (HX.out.on HBl.out) (by omega) (allGood_mono HG.out (by omega)) (good_may (allGood_iff.1 HG.out i hik)))
      have hacc : ((List.replicate j (ofT (tbl rows) i)).flatten).length ≤ 512 := by
       rw [rep_len]
       have := Nat.mul_le_mul (show j ≤ 16 by omega) hle
       omega
      go_wp2_with fail
      refine HC.out.mono ?_
      rintro e w1 ⟨v1, rfl, hown1, hb1⟩
      obtain ⟨A1, c1', rfl, hnil, hints, _, _⟩ := hown1.form
      have hO1 := HO.out.keep hb1
      have hBl1 := HBl.out.trans (hb1.mono HBl.out.size)
      have hBk1 := HBk.out.beneath hb1
      have HI := Lib.hid hints
      have HO1 := Lib.hid hO1
      have HBl1 := Lib.hid hBl1
      have HBk1 := Lib.hid hBk1
      have HNil := Lib.hid hnil
      clear hown1 hb1 hnil hints hO1 hBl1 hBk1 HC
      go_wp2_with (at_builtin; refine wpList_appN rfl (.tmp 43) (.tmp 47) rfl w.heap.size wr.heap.size w1.heap.size _ _ rfl HO1.out A1 _ c1' _ rfl rfl HNil.out HI.out (by omega) HBl1.out.size ?_; intro v' w2 hown2 hg2)
      have hB2 := HBl1.out.grown hg2 HBl1.out.size HO1.out.base
      have hK2 := HBk1.out.grown hg2 (HO1.out.ne HBk1.out (by decide))
      have HO2 := Lib.hid hown2
      have HB2 := Lib.hid hB2
      have HK2 := Lib.hid hK2
      clear hown2 hg2 hB2 hK2
      go_wp2_with fail
      go_roundw
      case rel => exact ⟨j + 1, by omega, by go_num, by rw [rep_snoc]; exact HO2.out, HK2.out, HB2.out⟩
      case measure => simp [intOf]; omega
    · go_wp2_with fail
      go_ret
      refine ⟨_, rfl, ?_, HBl.out⟩
      rw [of_array (by rw [HD.out]; rfl) (by rw [HD.out]; exact ⟨by show (0 : Int) ≤ (i : Int); omega, elk⟩), HD.out]
      have := HO.out
      rw [show j = m by omega] at this
      exact this
 have HS := Lib.hid (of_scalar (t := tbl rows) (k := k) (by rw [HD.out]; exact e4) (by rw [HD.out]; exact e5))
 go_enter Tryz.func108, Tryz.ntmps108
 go_wp2_with fail
 go_ret
 refine ⟨_, rfl, ?_, ?_⟩
 · rw [HS.out]
   exact OwnInts.one _ _ (w.heap.size + 1) _ (by rw [World.size_alloc]; omega) (by rw [World.size_alloc])
 · exact ((Below.refl _ _).alloc (Nat.le_refl _) _).alloc (by simp) _
structure TabIn (w : World) (A : Option Addr) (c : Nat) (rows : List TyR) : Prop where
 hdr : Hdr A rows.length c
 rows : TypsAt w 0 w.heap.size A rows
theorem TabIn.on {w w' : World} {A : Option Addr} {c : Nat} {rows : List TyR} (h : TabIn w A c rows) (hb : Below w.heap.size w w') : TabIn w' A c rows := ⟨h.hdr, h.rows.on hb⟩
theorem TabIn.len {w : World} {A : Option Addr} {c : Nat} {rows : List TyR} (h : TabIn w A c rows) : rows.length ≤ 9223372036854775807 := by
 have := Nat.le_trans h.hdr.fit h.hdr.cap
 unfold maxLen at this
 omega
section
variable {w : World} {A : Option Addr} {c : Nat} {rows : List TyR}
theorem rmay_is (h : TabIn w A c rows) {k : Nat} (hk : k < rows.length) {b : Bool} (hb : mayT (tbl rows) k = b) :
 Calls Tryz.prog 107 #[.slice A rows.length c, .int .i64 k] w fun e w' => e = .returned (.bool b) ∧ Below w.heap.size w w' := hb ▸ mayType_any h.hdr h.rows hk
set_option maxHeartbeats 800000 in
theorem rcheck_any (h : TabIn w A c rows) : Calls Tryz.prog 67 #[.slice A rows.length c] w fun e w' => e = .returned (.int .i64 (checkT (tbl rows))) ∧ Below w.heap.size w w' := by
 have hl := h.len
 have HX := Lib.hid h
 clear h
 by_cases h16 : 16 < rows.length
 · rw [check_many (by rw [tbl_len]; exact h16)]
   go_enter Tryz.func67, Tryz.ntmps67
   go_wp2_with fail
   go_ret
   exact ⟨rfl, Below.refl _ _⟩
 have H16 : Hid ((tbl rows).length ≤ 16) := Lib.hid (by rw [tbl_len]; omega)
 go_enter Tryz.func67, Tryz.ntmps67
 go_wp2_with fail
 go_loopw [3] (fun i wr => ∃ k : Nat, k ≤ rows.length ∧ i = .int .i64 k ∧ allGood (tbl rows) k = true ∧ Below w.heap.size w wr) (fun i _ => rows.length - (intOf i).toNat)
 case atStart => exact ⟨0, Nat.zero_le _, rfl, rfl, Below.refl _ _⟩
 case round =>
  obtain ⟨k, hk, rfl, hgood, hbel⟩ := hrel
  have HG := Lib.hid hgood
  have HB := Lib.hid hbel
  clear hgood hbel
  by_cases hlt : k < rows.length
  · cases hm : mayT (tbl rows) k with
    | false =>
      have HM := Lib.hid hm
      clear hm
      go_wp2_with fail
      refine (rmay_is (HX.out.on HB.out) hlt HM.out).mono ?_
      rintro e w1 ⟨rfl, hb1⟩
      have HB1 := Lib.hid (HB.out.trans (hb1.mono HB.out.size))
      clear hb1
      go_wp2_with fail
      go_ret
      exact ⟨ret_num (check_bad H16.out (k := k) (by rw [tbl_len]; exact hlt) (by unfold goodT; rw [HM.out]; rfl)).symm, HB1.out⟩
    | true =>
      have HM := Lib.hid hm
      clear hm
      by_cases h32 : (ofT (tbl rows) k).length ≤ 32
      all_goals
       go_wp2_with fail
       refine (rmay_is (HX.out.on HB.out) hlt HM.out).mono ?_
       rintro e w1 ⟨rfl, hb1⟩
       have HB1 := Lib.hid (HB.out.trans (hb1.mono HB.out.size))
       clear hb1
       go_wp2_with fail
       refine (rof_any HX.out.hdr k w1 (HX.out.on HB1.out).rows hlt HG.out HM.out).mono ?_
       rintro e w2 ⟨v1, rfl, hown1, hb2⟩
       obtain ⟨A1, c1, rfl, _⟩ := hown1.form
       have HB2 := Lib.hid (HB1.out.trans (hb2.mono HB1.out.size))
       clear hown1 hb2
       go_wp2_with fail
      · go_roundw
        case rel => exact ⟨k + 1, by omega, by go_num, allGood_succ HG.out (by unfold goodT; rw [HM.out]; simpa using h32), HB2.out⟩
        case measure => simp [intOf]; omega
      · go_ret
        exact ⟨ret_num (check_bad H16.out (k := k) (by rw [tbl_len]; exact hlt) (by unfold goodT; rw [HM.out]; simpa using h32)).symm, HB2.out⟩
  · go_wp2_with fail
    go_ret
    exact ⟨ret_num (check_good H16.out (by rw [tbl_len]; exact allGood_mono HG.out (by omega))).symm, HB.out⟩
end
end Go.Proofs.YtbffebcjimhapaaGreatDoor
namespace Go.Proofs.YtbffebcjimhapaaGreatDoor
set_option linter.unusedVariables false
set_option linter.unusedSimpArgs false
open Go.ChangeShapes Go.WideShapes Go.Deep Go.RowKit
structure InR where
 op : Nat
 ty : Int
 a : Int
 b : Int
 n : Int
 aa : Option Addr
 ac : Nat
 args : List Int
 fa : Option Addr
 fc : Nat
 from_ : List Int
deriving Inhabited
def InR.data (r : InR) : PIns := ⟨r.op, r.ty, r.a, r.b, r.n, r.args, r.from_⟩
def InR.cell (r : InR) (j : Nat) : Value := match j with
 | 0 => .int .u8 r.op
 | 1 => .int .i64 r.ty
 | 2 => .int .i64 r.a
 | 3 => .int .i64 r.b
 | 4 => .int .i64 r.n
 | 5 => .slice r.aa r.args.length r.ac
 | _ => .slice r.fa r.from_.length r.fc
def InR.val (r : InR) : Value := .agg #[.int .u8 r.op, .int .i64 r.ty, .int .i64 r.a, .int .i64 r.b, .int .i64 r.n, .slice r.aa r.args.length r.ac, .slice r.fa r.from_.length r.fc]
structure InR.Ok (w : World) (r : InR) : Prop where
 op : r.op ≤ 255
 ahdr : Hdr r.aa r.args.length r.ac
 args : IntsAt w 0 w.heap.size r.aa r.args
 fhdr : Hdr r.fa r.from_.length r.fc
 from_ : IntsAt w 0 w.heap.size r.fa r.from_
structure InsAt (w : World) (A : Option Addr) (c : Nat) (rows : List InR) : Prop where
 hdr : Hdr A rows.length c
 cells : CellsAt w 0 w.heap.size A 7 rows.length fun i j => (rows.getD i default).cell j
 ok : ∀ r ∈ rows, r.Ok w
structure BlR where
 ia : Option Addr
 ic : Nat
 ins : List InR
 kind : Nat
 a : Int
 to : Int
 els : Int
deriving Inhabited
def BlR.data (r : BlR) : PBlk := ⟨r.ins.map InR.data, ⟨r.kind, r.a, r.to, r.els⟩⟩
def BlR.cell (r : BlR) (j : Nat) : Value := match j with
 | 0 => .slice r.ia r.ins.length r.ic
 | 1 => .int .u8 r.kind
 | 2 => .int .i64 r.a
 | 3 => .int .i64 r.to
 | _ => .int .i64 r.els
def BlR.val (r : BlR) : Value := .agg #[.slice r.ia r.ins.length r.ic, .int .u8 r.kind, .int .i64 r.a, .int .i64 r.to, .int .i64 r.els]
structure BlR.Ok (w : World) (r : BlR) : Prop where
 kind : r.kind ≤ 255
 ins : InsAt w r.ia r.ic r.ins
structure BlksAt (w : World) (A : Option Addr) (c : Nat) (rows : List BlR) : Prop where
 hdr : Hdr A rows.length c
 cells : CellsAt w 0 w.heap.size A 5 rows.length fun i j => (rows.getD i default).cell j
 ok : ∀ r ∈ rows, r.Ok w
structure FuR where
 sig : Int
 ba : Option Addr
 bc : Nat
 blocks : List BlR
deriving Inhabited
def FuR.data (r : FuR) : PFun := ⟨r.sig, r.blocks.map BlR.data⟩
def FuR.cell (r : FuR) (j : Nat) : Value := match j with
 | 0 => .int .i64 r.sig
 | _ => .slice r.ba r.blocks.length r.bc
def FuR.val (r : FuR) : Value := .agg #[.int .i64 r.sig, .slice r.ba r.blocks.length r.bc]
structure FuR.Ok (w : World) (r : FuR) : Prop where
 blocks : BlksAt w r.ba r.bc r.blocks
structure FusAt (w : World) (A : Option Addr) (c : Nat) (rows : List FuR) : Prop where
 hdr : Hdr A rows.length c
 cells : CellsAt w 0 w.heap.size A 2 rows.length fun i j => (rows.getD i default).cell j
 ok : ∀ r ∈ rows, r.Ok w
structure PrR where
 ta : Option Addr
 tc : Nat
 types : List TyR
 fa : Option Addr
 fc : Nat
 funs : List FuR
deriving Inhabited
def PrR.data (r : PrR) : PProg := ⟨tbl r.types, r.funs.map FuR.data⟩
def PrR.val (r : PrR) : Value := .agg #[.slice r.ta r.types.length r.tc, .slice r.fa r.funs.length r.fc]
structure ProgIn (w : World) (r : PrR) : Prop where
 types : TabIn w r.ta r.tc r.types
 funs : FusAt w r.fa r.fc r.funs
section
variable {w w' : World} {A : Option Addr} {c : Nat}
theorem IntsAt.up {xs : List Int} (h : IntsAt w 0 w.heap.size A xs) (hb : Below w.heap.size w w') : IntsAt w' 0 w'.heap.size A xs := (IntsAt.keep h hb).more (Nat.le_refl _) hb.size
theorem InR.Ok.on {r : InR} (h : r.Ok w) (hb : Below w.heap.size w w') : r.Ok w' := ⟨h.op, h.ahdr, h.args.up hb, h.fhdr, h.from_.up hb⟩
theorem InsAt.on {rows : List InR} (h : InsAt w A c rows) (hb : Below w.heap.size w w') : InsAt w' A c rows := ⟨h.hdr, (CellsAt.keep h.cells hb).more (Nat.le_refl _) hb.size, fun r hr => (h.ok r hr).on hb⟩
theorem BlR.Ok.on {r : BlR} (h : r.Ok w) (hb : Below w.heap.size w w') : r.Ok w' := ⟨h.kind, h.ins.on hb⟩
theorem BlksAt.on {rows : List BlR} (h : BlksAt w A c rows) (hb : Below w.heap.size w w') : BlksAt w' A c rows := ⟨h.hdr, (CellsAt.keep h.cells hb).more (Nat.le_refl _) hb.size, fun r hr => (h.ok r hr).on hb⟩
theorem FuR.Ok.on {r : FuR} (h : r.Ok w) (hb : Below w.heap.size w w') : r.Ok w' := ⟨h.blocks.on hb⟩
theorem FusAt.on {rows : List FuR} (h : FusAt w A c rows) (hb : Below w.heap.size w w') : FusAt w' A c rows := ⟨h.hdr, (CellsAt.keep h.cells hb).more (Nat.le_refl _) hb.size, fun r hr => (h.ok r hr).on hb⟩
theorem ProgIn.on {r : PrR} (h : ProgIn w r) (hb : Below w.heap.size w w') : ProgIn w' r := ⟨h.types.on hb, h.funs.on hb⟩
theorem InsAt.elem {rows : List InR} (h : InsAt w A c rows) {i : Nat} (hi : i < rows.length) : ∃ b off r, A = some ⟨b, off, none⟩ ∧ b < w.heap.size ∧
 (w.cell? ⟨b, off + i * 7, none⟩ = some (.int .u8 r.op) ∧ w.cell? ⟨b, off + i * 7 + 1, none⟩ = some (.int .i64 r.ty) ∧ w.cell? ⟨b, off + i * 7 + 2, none⟩ = some (.int .i64 r.a) ∧ w.cell? ⟨b, off + i * 7 + 3, none⟩ = some (.int .i64 r.b) ∧ w.cell? ⟨b, off + i * 7 + 4, none⟩ = some (.int .i64 r.n) ∧ w.cell? ⟨b, off + i * 7 + 5, none⟩ = some (.slice r.aa r.args.length r.ac) ∧ w.cell? ⟨b, off + i * 7 + 6, none⟩ = some (.slice r.fa r.from_.length r.fc)) ∧ InR.Ok w r ∧ Hid (rows.getD i default = r) := by
 obtain ⟨b, off, rfl, h1, h2, hc⟩ := h.cells (by omega)
 have c0 := hc i hi 0 (by omega)
 exact ⟨b, off, _, rfl, World.block_lt_of_cell? w _ c0, ⟨c0, hc i hi 1 (by omega), hc i hi 2 (by omega), hc i hi 3 (by omega), hc i hi 4 (by omega), hc i hi 5 (by omega), hc i hi 6 (by omega)⟩, h.ok _ (mem_getD (d := default) hi), Lib.hid rfl⟩
theorem BlksAt.elem {rows : List BlR} (h : BlksAt w A c rows) {i : Nat} (hi : i < rows.length) : ∃ b off r, A = some ⟨b, off, none⟩ ∧ b < w.heap.size ∧
 (w.cell? ⟨b, off + i * 5, none⟩ = some (.slice r.ia r.ins.length r.ic) ∧ w.cell? ⟨b, off + i * 5 + 1, none⟩ = some (.int .u8 r.kind) ∧ w.cell? ⟨b, off + i * 5 + 2, none⟩ = some (.int .i64 r.a) ∧ w.cell? ⟨b, off + i * 5 + 3, none⟩ = some (.int .i64 r.to) ∧ w.cell? ⟨b, off + i * 5 + 4, none⟩ = some (.int .i64 r.els)) ∧ BlR.Ok w r ∧ Hid (rows.getD i default = r) := by
 obtain ⟨b, off, rfl, h1, h2, hc⟩ := h.cells (by omega)
 have c0 := hc i hi 0 (by omega)
 exact ⟨b, off, _, rfl, World.block_lt_of_cell? w _ c0, ⟨c0, hc i hi 1 (by omega), hc i hi 2 (by omega), hc i hi 3 (by omega), hc i hi 4 (by omega)⟩, h.ok _ (mem_getD (d := default) hi), Lib.hid rfl⟩
theorem FusAt.elem {rows : List FuR} (h : FusAt w A c rows) {i : Nat} (hi : i < rows.length) : ∃ b off r, A = some ⟨b, off, none⟩ ∧ b < w.heap.size ∧
 (w.cell? ⟨b, off + i * 2, none⟩ = some (.int .i64 r.sig) ∧ w.cell? ⟨b, off + i * 2 + 1, none⟩ = some (.slice r.ba r.blocks.length r.bc)) ∧ FuR.Ok w r ∧ Hid (rows.getD i default = r) := by
 obtain ⟨b, off, rfl, h1, h2, hc⟩ := h.cells (by omega)
 have c0 := hc i hi 0 (by omega)
 exact ⟨b, off, _, rfl, World.block_lt_of_cell? w _ c0, ⟨c0, hc i hi 1 (by omega)⟩, h.ok _ (mem_getD (d := default) hi), Lib.hid rfl⟩
end
theorem Hdr.cle {A : Option Addr} {n c : Nat} (h : Hdr A n c) : n ≤ 9223372036854775807 := by
 have := Nat.le_trans h.fit h.cap
 unfold maxLen at this
 exact this
section
variable {α β : Type} [Inhabited α] [Inhabited β]
theorem map_getD (f : α → β) (l : List α) {k : Nat} (h : k < l.length) : (l.map f).getD k default = f (l.getD k default) := by
 rw [List.getD_eq_getElem?_getD, List.getElem?_map, List.getElem?_eq_getElem h, getD_lt l h]
 rfl
end
end Go.Proofs.YtbffebcjimhapaaGreatDoor
