/-
  The program of the first text of ReadNames, and what lies where of it; texts that are none.
-/
import Derived.Test.YtbffebcjimhapaaDoorMg23
import Derived.Laws.MakeOwn
namespace Go.Proofs.YtbffebcjimhapaaDoor
set_option linter.unusedVariables false
set_option linter.unusedSimpArgs false
open Go.ChangeShapes Go.WideShapes Go.ChangeAt Go.RowKit

def kindsS : ByteArray := ⟨#[116, 121, 112, 101, 32, 105, 110, 116, 10, 116, 121, 112, 101, 32, 112, 116, 114, 32, 116, 50, 10, 116, 121, 112, 101, 32, 115, 116, 114, 117, 99, 116, 32, 116, 48, 32, 116, 49, 10, 116, 121, 112, 101, 32, 97, 114, 114, 97, 121, 32, 116, 50, 32, 51, 10, 116, 121, 112, 101, 32, 102, 110, 32, 116, 48, 32, 116, 49, 32, 116, 48, 10]⟩
def restS : ByteArray := ⟨#[102, 117, 110, 99, 32, 116, 52, 10, 98, 108, 111, 99, 107, 10, 115, 116, 111, 114, 101, 32, 114, 48, 32, 114, 49, 10, 114, 51, 32, 116, 49, 32, 61, 32, 102, 105, 101, 108, 100, 32, 114, 48, 32, 49, 10, 114, 52, 32, 116, 48, 32, 61, 32, 99, 97, 108, 108, 32, 102, 48, 32, 114, 48, 32, 114, 49, 10, 114, 53, 32, 116, 48, 32, 61, 32, 105, 99, 97, 108, 108, 32, 114, 48, 32, 114, 49, 10, 112, 114, 105, 110, 116, 32, 114, 49, 10, 102, 114, 101, 101, 32, 114, 48, 10, 114, 56, 32, 116, 52, 32, 61, 32, 102, 110, 32, 102, 48, 10, 114, 57, 32, 116, 49, 32, 61, 32, 110, 117, 108, 108, 10, 98, 114, 97, 110, 99, 104, 32, 114, 49, 32, 98, 48, 32, 98, 49, 10, 98, 108, 111, 99, 107, 10, 114, 49, 48, 32, 116, 48, 32, 61, 32, 112, 104, 105, 32, 98, 48, 32, 114, 49, 10, 114, 101, 116, 117, 114, 110, 32, 114, 49, 48]⟩
def bigI : List PIns := [⟨17, 0, 0, 1, 0, [], []⟩, ⟨14, 1, 0, 0, 1, [], []⟩, ⟨18, 0, 0, 0, 0, [0, 1], []⟩, ⟨19, 0, 0, 0, 0, [1], []⟩, ⟨21, 0, 1, 0, 0, [], []⟩, ⟨13, 0, 0, 0, 0, [], []⟩, ⟨3, 4, 0, 0, 0, [], []⟩, ⟨2, 1, 0, 0, 0, [], []⟩]
def bigJ : List PIns := [⟨22, 0, 0, 0, 0, [1], [0]⟩]
def bigB : List PBlk := [⟨bigI, ⟨2, 1, 0, 1⟩⟩, ⟨bigJ, ⟨3, 10, 0, 0⟩⟩]
def bigT : List Ty := [⟨1, 0, 0, []⟩, ⟨2, 2, 0, []⟩, ⟨4, 0, 0, [0, 1]⟩, ⟨5, 2, 3, []⟩, ⟨3, 0, 0, [1, 0]⟩]
def bigP : PProg := ⟨bigT, [⟨4, bigB⟩]⟩
theorem evBig : readA (toL (kindsS ++ restS)) = (bigP, 0) := by
  rw [toL_app]
  kernel_rfl
def zeros (k : Nat) : ByteArray := ⟨(List.replicate k 0).toArray⟩
theorem toL_zeros (k : Nat) : toL (zeros k) = List.replicate k 0 := rfl
theorem zeros_size (k : Nat) : (zeros k).size = k := by rw [← toL_size, toL_zeros, List.length_replicate]
theorem zeros_lines : linesP (toL (zeros 16385)) = none := by
  unfold linesP
  rw [toL_size, zeros_size, if_pos (by decide)]
def zc (k : Nat) : Array Value := (List.replicate k (Value.int .u8 0)).toArray
theorem zc_made (k : Nat) : madeCells (Value.int .u8 0).cells k = zc k := by
  unfold madeCells zc
  apply Array.ext
  · simp
  · intro i h1 h2
    simp [Value.cells, Nat.mod_one]
theorem addr_add (b o j : Nat) : (⟨b, o, none⟩ : Addr).add j = ⟨b, o + j, none⟩ := by unfold Addr.add; split <;> simp_all
theorem infoU8 : (Tryd.prog.info? 5).map (fun i => (i.zero, i.size, i.bytes)) = some (some (.int .u8 0), 1, 1) := by kernel_rfl
theorem make_run (W : World) (k : Nat) (hk : k ≤ 20000) : (Instr.makeSlice 44 (.int .i64 (k : Int)) (.int .i64 (k : Int))).run Tryd.prog W = .ok (.slice (some ⟨W.heap.size, 0, none⟩) k k) (W.alloc (.cells (zc k) 5)) := by
  obtain ⟨i0, hi, hz0, hz1, hz2⟩ := info_parts infoU8
  have h := run_makeSlice (P := Tryd.prog) W 44 5 i0 _ Tryd.underlying44 hi hz0 .i64 .i64 (k : Int) (k : Int) (by omega) (Int.le_refl _) (by rw [hz1, Int.toNat_natCast]; omega) (by rw [hz2]; omega) (by omega)
  rw [hz1, Int.toNat_natCast, Nat.mul_one, zc_made] at h
  exact h
theorem conv_run (W : World) (k : Nat) : (convert 44 9 (.slice (some ⟨W.heap.size, 0, none⟩) k k)).run Tryd.prog (W.alloc (.cells (zc k) 5)) = .ok (.string (zeros k)) (W.alloc (.cells (zc k) 5)) := by
  have h := run_convert_bytes_back (P := Tryd.prog) (W.alloc (.cells (zc k) 5)) 44 9 5 ⟨W.heap.size, 0, none⟩ k (List.replicate k 0) Tryd.underlying44 Tryd.underlying5 Tryd.underlying9 (fun j hj => ?_)
  · rw [List.length_replicate] at h
    exact h
  · rw [List.length_replicate] at hj
    rw [addr_add, cell_of_row _ _ _ _ _ _ (heap_alloc_new W _)]
    unfold zc
    rw [List.getElem?_toArray, Nat.zero_add, List.getElem?_eq_getElem (by rw [List.length_replicate]; exact hj), List.getElem_replicate, List.getElem_replicate]
    rfl
def litN0 : ByteArray := ⟨#[114, 49, 32, 116, 48, 32, 61, 32, 105, 110, 116, 32, 48, 53, 10, 114, 101, 116, 117, 114, 110, 32, 114, 49]⟩
theorem evN0 : oddB (readA (toL (textS ++ litN0))) 70 = true := by
  rw [toL_app]
  kernel_rfl
def litN1 : ByteArray := ⟨#[114, 49, 32, 116, 48, 32, 61, 32, 115, 117, 109, 32, 114, 48, 32, 114, 48, 10, 114, 101, 116, 117, 114, 110, 32, 114, 49]⟩
theorem evN1 : oddB (readA (toL (textS ++ litN1))) 70 = true := by
  rw [toL_app]
  kernel_rfl
def litN2 : ByteArray := ⟨#[97, 100, 100, 32, 114, 48, 32, 114, 48, 10, 114, 101, 116, 117, 114, 110, 32, 114, 49]⟩
theorem evN2 : oddB (readA (toL (textS ++ litN2))) 70 = true := by
  rw [toL_app]
  kernel_rfl
def litN3 : ByteArray := ⟨#[114, 49, 32, 116, 48, 32, 61, 32, 102, 114, 101, 101, 32, 114, 48, 10, 114, 101, 116, 117, 114, 110, 32, 114, 49]⟩
theorem evN3 : oddB (readA (toL (textS ++ litN3))) 70 = true := by
  rw [toL_app]
  kernel_rfl
def litN4 : ByteArray := ⟨#[114, 49, 32, 116, 48, 32, 61, 32, 97, 100, 100, 32, 114, 48, 10, 114, 101, 116, 117, 114, 110, 32, 114, 49]⟩
theorem evN4 : oddB (readA (toL (textS ++ litN4))) 70 = true := by
  rw [toL_app]
  kernel_rfl
def litN5 : ByteArray := ⟨#[114, 101, 116, 117, 114, 110, 32, 114, 48, 32, 114, 48]⟩
theorem evN5 : oddB (readA (toL (textS ++ litN5))) 70 = true := by
  rw [toL_app]
  kernel_rfl
def litN6 : ByteArray := ⟨#[98, 108, 111, 99, 107]⟩
theorem evN6 : oddB (readA (toL litN6)) 70 = true := by kernel_rfl
def litN7 : ByteArray := ⟨#[116, 121, 112, 101]⟩
theorem evN7 : oddB (readA (toL litN7)) 70 = true := by kernel_rfl
def litN8 : ByteArray := ⟨#[116, 121, 112, 101, 32, 105, 110, 116, 32, 116, 48]⟩
theorem evN8 : oddB (readA (toL litN8)) 70 = true := by kernel_rfl
def litN9 : ByteArray := ⟨#[114, 49, 32, 116, 48, 32, 61, 32, 112, 104, 105, 32, 98, 48, 10, 114, 101, 116, 117, 114, 110, 32, 114, 49]⟩
theorem evN9 : oddB (readA (toL (textS ++ litN9))) 70 = true := by
  rw [toL_app]
  kernel_rfl
def litN10 : ByteArray := ⟨#[]⟩
theorem evN10 : oddB (readA (toL litN10)) 60 = true := by kernel_rfl
def litN11 : ByteArray := ⟨#[116, 121, 112, 101, 32, 112, 116, 114, 32, 116, 49]⟩
theorem evN11 : oddB (readA (toL litN11)) 30 = true := by kernel_rfl
def litN12 : ByteArray := ⟨#[114, 101, 116, 117, 114, 110, 32, 114, 57]⟩
theorem evN12 : oddB (readA (toL (textS ++ litN12))) 60 = true := by
  rw [toL_app]
  kernel_rfl
theorem evN13 : oddB (readA (toL (zeros 16385))) 4 = true := by rw [readA_none zeros_lines]; rfl
def litN14 : ByteArray := ⟨#[114, 49, 32, 116, 48, 32, 61, 32, 97, 100, 100, 32, 114, 48, 32, 114, 48, 10, 114, 101, 116, 117, 114, 110, 32, 114, 49, 10, 114, 101, 116, 117, 114, 110, 32, 114, 49]⟩
theorem evN14 : oddB (readA (toL (textS ++ litN14))) 70 = true := by
  rw [toL_app]
  kernel_rfl
/-- An element of a list that tells another. -/
theorem row_data {α β : Type} [Inhabited α] [Inhabited β] {f : α → β} {rows : List α} {l : List β} (h : rows.map f = l) {k : Nat} (hk : k < l.length) : k < rows.length ∧ f (rows.getD k default) = l.getD k default := by
  subst h
  rw [List.length_map] at hk
  exact ⟨hk, (map_getD f rows hk).symm⟩
theorem ints_at {w : World} {A : Option Addr} {xs : List Int} {x : Int} (h : IntsAt w 0 w.heap.size A xs) (hx : xs = [x]) : ∃ b off, A = some ⟨b, off, none⟩ ∧ b < w.heap.size ∧ w.cell? ⟨b, off, none⟩ = some (.int .i64 x) := by
  subst hx
  obtain ⟨b, off, e, _, h2, hc⟩ := h (Nat.succ_pos _)
  exact ⟨b, off, e, h2, hc 0 (Nat.succ_pos _) 0 (Nat.succ_pos _)⟩
/-- What lies where of the first text's program. -/
structure BigAt (w : World) (b1 o1 b2 o2 c1 b3 o3 c2 b4 o4 c3 : Nat) (A5 : Option Addr) (c5 : Nat) (A6 : Option Addr) (c6 b7 o7 c7 b8 o8 c8 b9 o9 : Nat) (A10 : Option Addr) (c10 : Nat) : Prop where
  l1 : b1 < w.heap.size
  l2 : b2 < w.heap.size
  l3 : b3 < w.heap.size
  l4 : b4 < w.heap.size
  l7 : b7 < w.heap.size
  l8 : b8 < w.heap.size
  l9 : b9 < w.heap.size
  f0 : w.cell? ⟨b1, o1 + 1, none⟩ = some (.slice (some ⟨b2, o2, none⟩) 2 c1)
  f1 : w.cell? ⟨b2, o2, none⟩ = some (.slice (some ⟨b3, o3, none⟩) 8 c2)
  f2 : w.cell? ⟨b2, o2 + 1, none⟩ = some (.int .u8 2)
  f3 : w.cell? ⟨b2, o2 + 2, none⟩ = some (.int .i64 1)
  f4 : w.cell? ⟨b2, o2 + 3, none⟩ = some (.int .i64 0)
  f5 : w.cell? ⟨b2, o2 + 4, none⟩ = some (.int .i64 1)
  f6 : w.cell? ⟨b2, o2 + 5, none⟩ = some (.slice (some ⟨b4, o4, none⟩) 1 c3)
  f7 : w.cell? ⟨b3, o3, none⟩ = some (.int .u8 17)
  f8 : w.cell? ⟨b3, o3 + 2, none⟩ = some (.int .i64 0)
  f9 : w.cell? ⟨b3, o3 + 3, none⟩ = some (.int .i64 1)
  f10 : w.cell? ⟨b3, o3 + 7, none⟩ = some (.int .u8 14)
  f11 : w.cell? ⟨b3, o3 + 11, none⟩ = some (.int .i64 1)
  f12 : w.cell? ⟨b3, o3 + 8, none⟩ = some (.int .i64 1)
  f13 : w.cell? ⟨b3, o3 + 14, none⟩ = some (.int .u8 18)
  f14 : w.cell? ⟨b3, o3 + 19, none⟩ = some (.slice A5 2 c5)
  f15 : w.cell? ⟨b3, o3 + 21, none⟩ = some (.int .u8 19)
  f16 : w.cell? ⟨b3, o3 + 23, none⟩ = some (.int .i64 0)
  f17 : w.cell? ⟨b3, o3 + 26, none⟩ = some (.slice A6 1 c6)
  f18 : w.cell? ⟨b3, o3 + 42, none⟩ = some (.int .u8 3)
  f19 : w.cell? ⟨b3, o3 + 49, none⟩ = some (.int .u8 2)
  f20 : w.cell? ⟨b4, o4, none⟩ = some (.int .u8 22)
  f21 : w.cell? ⟨b4, o4 + 1, none⟩ = some (.int .i64 0)
  f22 : w.cell? ⟨b4, o4 + 2, none⟩ = some (.int .i64 0)
  f23 : w.cell? ⟨b4, o4 + 3, none⟩ = some (.int .i64 0)
  f24 : w.cell? ⟨b4, o4 + 4, none⟩ = some (.int .i64 0)
  f25 : w.cell? ⟨b4, o4 + 5, none⟩ = some (.slice (some ⟨b7, o7, none⟩) 1 c7)
  f26 : w.cell? ⟨b4, o4 + 6, none⟩ = some (.slice (some ⟨b8, o8, none⟩) 1 c8)
  f27 : w.cell? ⟨b7, o7, none⟩ = some (.int .i64 1)
  f28 : w.cell? ⟨b8, o8, none⟩ = some (.int .i64 0)
  f29 : w.cell? ⟨b9, o9 + 14, none⟩ = some (.int .i64 3)
  f30 : w.cell? ⟨b9, o9 + 19, none⟩ = some (.slice A10 2 c10)
theorem BigAt.on {w w' : World} {b1 o1 b2 o2 c1 b3 o3 c2 b4 o4 c3 c5 c6 b7 o7 c7 b8 o8 c8 b9 o9 c10 : Nat} {A5 A6 A10 : Option Addr} (h : BigAt w b1 o1 b2 o2 c1 b3 o3 c2 b4 o4 c3 A5 c5 A6 c6 b7 o7 c7 b8 o8 c8 b9 o9 A10 c10) (hb : Below w.heap.size w w') : BigAt w' b1 o1 b2 o2 c1 b3 o3 c2 b4 o4 c3 A5 c5 A6 c6 b7 o7 c7 b8 o8 c8 b9 o9 A10 c10 :=
  ⟨Nat.lt_of_lt_of_le h.l1 hb.size, Nat.lt_of_lt_of_le h.l2 hb.size, Nat.lt_of_lt_of_le h.l3 hb.size, Nat.lt_of_lt_of_le h.l4 hb.size, Nat.lt_of_lt_of_le h.l7 hb.size, Nat.lt_of_lt_of_le h.l8 hb.size, Nat.lt_of_lt_of_le h.l9 hb.size, (hb.cell (p := ⟨b1, o1 + 1, none⟩) h.l1).trans h.f0, (hb.cell (p := ⟨b2, o2, none⟩) h.l2).trans h.f1, (hb.cell (p := ⟨b2, o2 + 1, none⟩) h.l2).trans h.f2, (hb.cell (p := ⟨b2, o2 + 2, none⟩) h.l2).trans h.f3, (hb.cell (p := ⟨b2, o2 + 3, none⟩) h.l2).trans h.f4, (hb.cell (p := ⟨b2, o2 + 4, none⟩) h.l2).trans h.f5, (hb.cell (p := ⟨b2, o2 + 5, none⟩) h.l2).trans h.f6, (hb.cell (p := ⟨b3, o3, none⟩) h.l3).trans h.f7, (hb.cell (p := ⟨b3, o3 + 2, none⟩) h.l3).trans h.f8, (hb.cell (p := ⟨b3, o3 + 3, none⟩) h.l3).trans h.f9, (hb.cell (p := ⟨b3, o3 + 7, none⟩) h.l3).trans h.f10, (hb.cell (p := ⟨b3, o3 + 11, none⟩) h.l3).trans h.f11, (hb.cell (p := ⟨b3, o3 + 8, none⟩) h.l3).trans h.f12, (hb.cell (p := ⟨b3, o3 + 14, none⟩) h.l3).trans h.f13, (hb.cell (p := ⟨b3, o3 + 19, none⟩) h.l3).trans h.f14, (hb.cell (p := ⟨b3, o3 + 21, none⟩) h.l3).trans h.f15, (hb.cell (p := ⟨b3, o3 + 23, none⟩) h.l3).trans h.f16, (hb.cell (p := ⟨b3, o3 + 26, none⟩) h.l3).trans h.f17, (hb.cell (p := ⟨b3, o3 + 42, none⟩) h.l3).trans h.f18, (hb.cell (p := ⟨b3, o3 + 49, none⟩) h.l3).trans h.f19, (hb.cell (p := ⟨b4, o4, none⟩) h.l4).trans h.f20, (hb.cell (p := ⟨b4, o4 + 1, none⟩) h.l4).trans h.f21, (hb.cell (p := ⟨b4, o4 + 2, none⟩) h.l4).trans h.f22, (hb.cell (p := ⟨b4, o4 + 3, none⟩) h.l4).trans h.f23, (hb.cell (p := ⟨b4, o4 + 4, none⟩) h.l4).trans h.f24, (hb.cell (p := ⟨b4, o4 + 5, none⟩) h.l4).trans h.f25, (hb.cell (p := ⟨b4, o4 + 6, none⟩) h.l4).trans h.f26, (hb.cell (p := ⟨b7, o7, none⟩) h.l7).trans h.f27, (hb.cell (p := ⟨b8, o8, none⟩) h.l8).trans h.f28, (hb.cell (p := ⟨b9, o9 + 14, none⟩) h.l9).trans h.f29, (hb.cell (p := ⟨b9, o9 + 19, none⟩) h.l9).trans h.f30⟩
theorem big_at {w : World} {r : PrR} (hp : ProgIn w r) (h : r.data = bigP) : ∃ b1 o1 b2 o2 c1 b3 o3 c2 b4 o4 c3 A5 c5 A6 c6 b7 o7 c7 b8 o8 c8 b9 o9 A10 c10, r.types.length = 5 ∧ r.funs.length = 1 ∧ r.ta = some ⟨b9, o9, none⟩ ∧ r.fa = some ⟨b1, o1, none⟩ ∧ BigAt w b1 o1 b2 o2 c1 b3 o3 c2 b4 o4 c3 A5 c5 A6 c6 b7 o7 c7 b8 o8 c8 b9 o9 A10 c10 := by
  have hf : r.funs.map FuR.data = [⟨4, bigB⟩] := congrArg PProg.funs h
  have ht : r.types.map TyR.data = bigT := congrArg PProg.types h
  have hfl : r.funs.length = 1 := by rw [← List.length_map (f := FuR.data), hf]; rfl
  have htl : r.types.length = 5 := by rw [← List.length_map (f := TyR.data), ht]; rfl
  obtain ⟨g1, g2⟩ := row_data hf (k := 0) (by decide)
  have hbk : (r.funs.getD 0 default).blocks.map BlR.data = bigB := congrArg PFun.blocks g2
  have hF := hp.funs.ok _ (mem_getD (d := default) g1)
  obtain ⟨b1, o1, e1, _, l1, hc1⟩ := hp.funs.cells (by omega)
  have k1 := hc1 0 g1 1 (by omega)
  dsimp only at k1
  generalize r.funs.getD 0 default = f at *
  have hbl : f.blocks.length = 2 := by rw [← List.length_map (f := BlR.data), hbk]; rfl
  obtain ⟨g3, g4⟩ := row_data hbk (k := 0) (by decide)
  obtain ⟨g5, g6⟩ := row_data hbk (k := 1) (by decide)
  have hB0 := hF.blocks.ok _ (mem_getD (d := default) g3)
  have hB1 := hF.blocks.ok _ (mem_getD (d := default) g5)
  obtain ⟨b2, o2, e2, _, l2, hc2⟩ := hF.blocks.cells (by omega)
  have k2 := hc2 0 g3
  have k3 := hc2 1 g5
  dsimp only at k2 k3
  generalize f.blocks.getD 0 default = x0 at *
  generalize f.blocks.getD 1 default = x1 at *
  have hi0 : x0.ins.map InR.data = bigI := congrArg PBlk.ins g4
  have hi1 : x1.ins.map InR.data = bigJ := congrArg PBlk.ins g6
  have hil0 : x0.ins.length = 8 := by rw [← List.length_map (f := InR.data), hi0]; rfl
  have hil1 : x1.ins.length = 1 := by rw [← List.length_map (f := InR.data), hi1]; rfl
  have hk0 : (⟨x0.kind, x0.a, x0.to, x0.els⟩ : PEnd) = ⟨2, 1, 0, 1⟩ := congrArg PBlk.fin g4
  obtain ⟨b3, o3, e3, _, l3, hc3⟩ := hB0.ins.cells (by omega)
  obtain ⟨b4, o4, e4, _, l4, hc4⟩ := hB1.ins.cells (by omega)
  obtain ⟨g7, g8⟩ := row_data hi1 (k := 0) (by decide)
  have hX := hB1.ins.ok _ (mem_getD (d := default) g7)
  have k4 := hc4 0 g7
  dsimp only at k4
  generalize x1.ins.getD 0 default = x4 at *
  obtain ⟨b7, o7, e7, l7, k7⟩ := ints_at hX.args (congrArg PIns.args g8)
  obtain ⟨b8, o8, e8, l8, k8⟩ := ints_at hX.from_ (congrArg PIns.from_ g8)
  obtain ⟨b9, o9, e9, _, l9, hc9⟩ := hp.types.rows.cells (by omega)
  obtain ⟨g9, g10⟩ := row_data ht (k := 3) (by decide)
  obtain ⟨g11, g12⟩ := row_data ht (k := 4) (by decide)
  have k9 := hc9 3 g9
  have k10 := hc9 4 g11
  dsimp only at k9 k10
  generalize r.types.getD 3 default = t3 at *
  generalize r.types.getD 4 default = t4 at *
  obtain ⟨m0, d0⟩ := row_data hi0 (k := 0) (by decide)
  have n0 := hc3 0 m0
  dsimp only at n0
  generalize x0.ins.getD 0 default = y0 at *
  obtain ⟨m1, d1⟩ := row_data hi0 (k := 1) (by decide)
  have n1 := hc3 1 m1
  dsimp only at n1
  generalize x0.ins.getD 1 default = y1 at *
  obtain ⟨m2, d2⟩ := row_data hi0 (k := 2) (by decide)
  have n2 := hc3 2 m2
  dsimp only at n2
  generalize x0.ins.getD 2 default = y2 at *
  obtain ⟨m3, d3⟩ := row_data hi0 (k := 3) (by decide)
  have n3 := hc3 3 m3
  dsimp only at n3
  generalize x0.ins.getD 3 default = y3 at *
  obtain ⟨m6, d6⟩ := row_data hi0 (k := 6) (by decide)
  have n6 := hc3 6 m6
  dsimp only at n6
  generalize x0.ins.getD 6 default = y6 at *
  obtain ⟨m7, d7⟩ := row_data hi0 (k := 7) (by decide)
  have n7 := hc3 7 m7
  dsimp only at n7
  generalize x0.ins.getD 7 default = y7 at *
  have k1' : w.cell? ⟨b1, o1 + 1, none⟩ = some (.slice (some ⟨b2, o2, none⟩) 2 f.bc) := by rw [← e2, ← hbl]; exact k1
  have k2' : w.cell? ⟨b2, o2, none⟩ = some (.slice (some ⟨b3, o3, none⟩) 8 x0.ic) := by rw [← e3, ← hil0]; exact k2 0 (by omega)
  have k3' : w.cell? ⟨b2, o2 + 5, none⟩ = some (.slice (some ⟨b4, o4, none⟩) 1 x1.ic) := by rw [← e4, ← hil1]; exact k3 0 (by omega)
  have ka : x4.args = [1] := congrArg PIns.args g8
  have kf : x4.from_ = [0] := congrArg PIns.from_ g8
  have kal : x4.args.length = 1 := by rw [ka]; rfl
  have kfl : x4.from_.length = 1 := by rw [kf]; rfl
  have k5' : w.cell? ⟨b4, o4 + 5, none⟩ = some (.slice (some ⟨b7, o7, none⟩) 1 x4.ac) := by rw [← e7, ← kal]; exact k4 5 (by omega)
  have k6' : w.cell? ⟨b4, o4 + 6, none⟩ = some (.slice (some ⟨b8, o8, none⟩) 1 x4.fc) := by rw [← e8, ← kfl]; exact k4 6 (by omega)
  exact ⟨b1, o1, b2, o2, f.bc, b3, o3, x0.ic, b4, o4, x1.ic, y2.aa, y2.ac, y3.aa, y3.ac, b7, o7, x4.ac, b8, o8, x4.fc, b9, o9, t4.pa, t4.pc, htl, hfl, e9, e1, ⟨l1, l2, l3, l4, l7, l8, l9, k1',
    k2',
    (k2 1 (by omega)).trans (congrArg (fun n : Nat => some (Value.int .u8 (n : Int))) (congrArg PEnd.kind hk0)),
    (k2 2 (by omega)).trans (congrArg (fun n : Int => some (Value.int .i64 n)) (congrArg PEnd.a hk0)),
    (k2 3 (by omega)).trans (congrArg (fun n : Int => some (Value.int .i64 n)) (congrArg PEnd.to hk0)),
    (k2 4 (by omega)).trans (congrArg (fun n : Int => some (Value.int .i64 n)) (congrArg PEnd.els hk0)),
    k3',
    (n0 0 (by omega)).trans (congrArg (fun n : Nat => some (Value.int .u8 (n : Int))) (congrArg PIns.op d0)),
    (n0 2 (by omega)).trans (congrArg (fun n : Int => some (Value.int .i64 n)) (congrArg PIns.a d0)),
    (n0 3 (by omega)).trans (congrArg (fun n : Int => some (Value.int .i64 n)) (congrArg PIns.b d0)),
    (n1 0 (by omega)).trans (congrArg (fun n : Nat => some (Value.int .u8 (n : Int))) (congrArg PIns.op d1)),
    (n1 4 (by omega)).trans (congrArg (fun n : Int => some (Value.int .i64 n)) (congrArg PIns.n d1)),
    (n1 1 (by omega)).trans (congrArg (fun n : Int => some (Value.int .i64 n)) (congrArg PIns.ty d1)),
    (n2 0 (by omega)).trans (congrArg (fun n : Nat => some (Value.int .u8 (n : Int))) (congrArg PIns.op d2)),
    (n2 5 (by omega)).trans (congrArg (fun l : List Int => some (Value.slice y2.aa l.length y2.ac)) (congrArg PIns.args d2)),
    (n3 0 (by omega)).trans (congrArg (fun n : Nat => some (Value.int .u8 (n : Int))) (congrArg PIns.op d3)),
    (n3 2 (by omega)).trans (congrArg (fun n : Int => some (Value.int .i64 n)) (congrArg PIns.a d3)),
    (n3 5 (by omega)).trans (congrArg (fun l : List Int => some (Value.slice y3.aa l.length y3.ac)) (congrArg PIns.args d3)),
    (n6 0 (by omega)).trans (congrArg (fun n : Nat => some (Value.int .u8 (n : Int))) (congrArg PIns.op d6)),
    (n7 0 (by omega)).trans (congrArg (fun n : Nat => some (Value.int .u8 (n : Int))) (congrArg PIns.op d7)),
    (k4 0 (by omega)).trans (congrArg (fun n : Nat => some (Value.int .u8 (n : Int))) (congrArg PIns.op g8)),
    (k4 1 (by omega)).trans (congrArg (fun n : Int => some (Value.int .i64 n)) (congrArg PIns.ty g8)),
    (k4 2 (by omega)).trans (congrArg (fun n : Int => some (Value.int .i64 n)) (congrArg PIns.a g8)),
    (k4 3 (by omega)).trans (congrArg (fun n : Int => some (Value.int .i64 n)) (congrArg PIns.b g8)),
    (k4 4 (by omega)).trans (congrArg (fun n : Int => some (Value.int .i64 n)) (congrArg PIns.n g8)),
    k5',
    k6',
    k7,
    k8,
    (k9 2 (by omega)).trans (congrArg (fun n : Int => some (Value.int .i64 n)) (congrArg Ty.many g10)),
    (k10 3 (by omega)).trans (congrArg (fun l : List Int => some (Value.slice t4.pa l.length t4.pc)) (congrArg Ty.parts g12))⟩⟩
end Go.Proofs.YtbffebcjimhapaaDoor
