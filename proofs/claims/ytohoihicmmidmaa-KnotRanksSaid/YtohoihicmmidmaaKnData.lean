/-
  Arrows as they lie in memory; a list of them that came in; whether a graph may be.
-/
import Derived.Test.YtohoihicmmidmaaAppInts
import Derived.Test.YtohoihicmmidmaaAppS
import Derived.Test.YtohoihicmmidmaaLoops
import Derived.Test.YtohoihicmmidmaaKnPure3
import Derived.OwnWalk
import Derived.Laws.OwnMore
import Derived.Outline
import Derived.BigQuiet
import Derived.Deep.QuietTactic
import Derived.Lib.MinMax
namespace Go.Proofs.Ytohoihicmmidmaa
set_option linter.unusedVariables false
set_option linter.unusedSimpArgs false
open Go.ChangeShapes Go.WideShapes Go.Deep Go.RowKit Kn

def arrV (p : Int × Int) : Value := .agg #[.int .i64 p.1, .int .i64 p.2]
def arrCell (p : Int × Int) (j : Nat) : Value := match j with
  | 0 => .int .i64 p.1
  | _ => .int .i64 p.2
def arr2 (p : Int × Int) : List Value := [.int .i64 p.1, .int .i64 p.2]
def ArsAt (w : World) (lo B : Nat) (A : Option Addr) (l : List (Int × Int)) : Prop := CellsAt w lo B A 2 l.length fun i j => arrCell (l.getD i (0, 0)) j
/-- A list of arrows that can be read. -/
structure GIn (w : World) (A : Option Addr) (c : Nat) (l : List (Int × Int)) : Prop where
  hdr : Hdr A l.length c
  ars : ArsAt w 0 w.heap.size A l
section
variable {w w' : World} {lo lo' B B' : Nat} {A : Option Addr} {c : Nat} {l : List (Int × Int)}
theorem ArsAt.keep (h : ArsAt w lo B A l) (hb : Below B w w') : ArsAt w' lo B A l := CellsAt.keep h hb
theorem ArsAt.more (h : ArsAt w lo B A l) (h1 : lo' ≤ lo) (h2 : B ≤ B') : ArsAt w lo' B' A l := CellsAt.more h h1 h2
theorem GIn.on (h : GIn w A c l) (hb : Below w.heap.size w w') : GIn w' A c l := ⟨h.hdr, (h.ars.keep hb).more (Nat.le_refl _) hb.size⟩
theorem GIn.len (h : GIn w A c l) : l.length ≤ 9223372036854775807 := by
  have := Nat.le_trans h.hdr.fit h.hdr.cap
  unfold maxLen at this
  omega
theorem GIn.elem (h : GIn w A c l) {i : Nat} (hi : i < l.length) :
    ∃ b off x y, A = some ⟨b, off, none⟩ ∧ b < w.heap.size ∧ w.cell? ⟨b, off + i * 2, none⟩ = some (.int .i64 x) ∧ w.cell? ⟨b, off + i * 2 + 1, none⟩ = some (.int .i64 y) ∧ Hid (l.getD i (0, 0) = (x, y)) := by
  obtain ⟨b, off, rfl, h1, h2, hc⟩ := h.ars (by omega)
  have c0 := hc i hi 0 (by omega)
  exact ⟨b, off, _, _, rfl, World.block_lt_of_cell? w _ c0, c0, hc i hi 1 (by omega), Lib.hid rfl⟩
theorem GIn.none : GIn w Option.none 0 [] := ⟨⟨Nat.le_refl _, by unfold maxLen; omega, fun _ => ⟨rfl, rfl⟩⟩, CellsAt.empty⟩
end
theorem getD_memA {l : List (Int × Int)} {i : Nat} (h : i < l.length) : l.getD i (0, 0) ∈ l := by rw [getD_lt l h]; exact List.getElem_mem h

section
variable {H : Type} {enc : TypeId × Value → H} {w : World} {base : Nat} {spare : Nat → Bool} {held : Bool}
theorem cellsArr : Try.prog.cellsOf 32 = 2 := by kernel_rfl
theorem cellsInt' : Try.prog.cellsOf 3 = 1 := by kernel_rfl
theorem open_arrs {fuel : Nat} {cs : List Value} {x : DataW H × List MemPlace} (h : DataW.trod enc Try.prog w base spare held fuel 22 cs = some x) :
    ∃ (A : Option Addr) (c : Nat) (l : List (Int × Int)), cs = [.slice A l.length c] ∧ GIn w A c l := by
  obtain ⟨A, n, c, V, rfl, h1, h2, h3, h4, h5⟩ := open_rows Try.underlying22 (by rw [cellsArr]; omega) h
  rw [cellsArr] at h4 h5
  have key : ∀ i, i < n → ∃ p : Int × Int, ∀ j, j < 2 → (V i).getD j undef = arrCell p j := fun i hi => by
    obtain ⟨hlen, m, y, hy⟩ := h5 i hi
    obtain ⟨xs, m', _, _, _, hl, hf⟩ := DataW.trod_array Try.underlying32 hy
    rw [cellsInt'] at hf
    have g0 := hf 0 (by omega)
    have g1 := hf 1 (by omega)
    rw [take1_drop (V i) _ undef (by omega), List.getElem?_eq_getElem (by omega)] at g0 g1
    obtain ⟨z0, e0, _, w0⟩ := DataW.trod_int Try.underlying3 g0
    obtain ⟨z1, e1, _, w1⟩ := DataW.trod_int Try.underlying3 g1
    simp only [List.cons.injEq, and_true] at e0 e1
    refine ⟨(z0, z1), fun j hj => ?_⟩
    match j, hj with
    | 0, _ => exact e0
    | 1, _ => exact e1
  obtain ⟨f, hf⟩ := choose_lt key
  have hlen : ((List.range n).map f).length = n := by simp
  refine ⟨A, c, (List.range n).map f, by rw [hlen], ⟨by rw [hlen]; exact h1, h2, by rw [hlen]; exact h3⟩, ?_⟩
  unfold ArsAt
  rw [hlen]
  refine h4.congr fun i hi j hj => ?_
  rw [hf i hi j hj]
  simp [List.getD, hi]
theorem open_arrs_arg {b0 : Nat} {r : Reach} {v : Value} {d : DataW H} {p : List MemPlace}
    (hv : Value.okWide Try.prog w r b0 22 v) (h : DataW.Trod enc Try.prog w base spare held 22 v d p) : ∃ A c l, v = .slice A l.length c ∧ GIn w A c l := by
  obtain ⟨a, len, cap, rfl⟩ := okWide_slice Try.underlying22 hv
  obtain ⟨fuel, hf⟩ := h
  obtain ⟨A, c, l, e, hm⟩ := open_arrs hf
  have e1 : ([Value.slice a len cap] : List Value) = [.slice A l.length c] := e
  injection e1 with e1 _
  exact ⟨A, c, l, e1, hm⟩
end

/-! ### whether a graph may be -/
def badA (n : Int) (p : Int × Int) : Bool := decide (p.1 < 0) || decide (n ≤ p.1) || decide (p.2 < 0) || decide (n ≤ p.2)
def checkG (n : Int) (l : List (Int × Int)) : Int := if 1000 < n ∨ 10000 < l.length then 4 else if n < 0 ∨ l.any (badA n) = true then 2 else 0
theorem badA_iff {n : Int} {p : Int × Int} : badA n p = false ↔ 0 ≤ p.1 ∧ p.1 < n ∧ 0 ≤ p.2 ∧ p.2 < n := by
  unfold badA
  simp only [Bool.or_eq_false_iff, decide_eq_false_iff_not]
  omega
theorem check_ok {n : Int} {l : List (Int × Int)} (h : checkG n l = 0) : 0 ≤ n ∧ n ≤ 1000 ∧ l.length ≤ 10000 ∧ okG n.toNat l := by
  unfold checkG at h
  split at h
  · cases h
  · rename_i h1
    split at h
    · cases h
    · rename_i h2
      refine ⟨by omega, by omega, by omega, fun p hp => ?_⟩
      have hb : badA n p = false := by
        cases hb : badA n p with
        | false => rfl
        | true => exact absurd (Or.inr (List.any_eq_true.2 ⟨p, hp, hb⟩)) h2
      have := badA_iff.1 hb
      omega
theorem check_nn (n : Int) (l : List (Int × Int)) : checkG n l = 0 ∨ checkG n l = 2 ∨ checkG n l = 4 := by
  unfold checkG
  split
  · exact .inr (.inr rfl)
  · split
    · exact .inr (.inl rfl)
    · exact .inl rfl
end Go.Proofs.Ytohoihicmmidmaa
