/-
  The program's reader of lines: what it holds; the kind of a byte.
-/
import Derived.Test.YtbkgcikhiomenaaLexLines
namespace Go.Proofs.Ytbkgcikhiomenaa
set_option linter.unusedVariables false
set_option linter.unusedSimpArgs false
open Go.ChangeShapes Go.WideShapes Go.ChangeAt Go.RowKit

def kindN (i : Nat) : Int := if i = 32 ∨ i = 9 ∨ i = 13 then 1 else if i = 10 then 2 else if i = 35 then 3 else 0
def kindB (c : UInt8) : Int := if isBlank c then 1 else if c = 10 then 2 else if c = 35 then 3 else 0
theorem kind_small {c : UInt8} : kindB c = kindN c.toNat := by
  unfold kindB kindN isBlank
  have h : ∀ d : UInt8, c = d ↔ c.toNat = d.toNat := fun d => UInt8.toNat_inj.symm
  simp only [Bool.or_eq_true, beq_iff_eq, h]
  have e1 : (32 : UInt8).toNat = 32 := rfl
  have e2 : (9 : UInt8).toNat = 9 := rfl
  have e3 : (13 : UInt8).toNat = 13 := rfl
  have e4 : (10 : UInt8).toNat = 10 := rfl
  have e5 : (35 : UInt8).toNat = 35 := rfl
  rw [e1, e2, e3, e4, e5]
  by_cases h1 : c.toNat = 32 ∨ c.toNat = 9 ∨ c.toNat = 13
  · rw [if_pos h1, if_pos (by omega)]
  · rw [if_neg h1, if_neg (by omega)]
theorem kind_great {i : Nat} (h : 64 ≤ i) : kindN i = 0 := by
  unfold kindN
  rw [if_neg (by omega), if_neg (by omega), if_neg (by omega)]
/-- A reader: its text, its place, its words and lines. -/
structure Rd (w : World) (g : Nat) (s : ByteArray) (p : Nat) (ws ls : Value) : Prop where
  blk : TBlk w g 52
  text : w.cell? ⟨g, 0, none⟩ = some (.string s)
  place : w.cell? ⟨g, 1, none⟩ = some (.int .i64 p)
  kinds : ∀ i, i < 64 → w.cell? ⟨g, 2 + i, none⟩ = some (.int .i64 (kindN i))
  words : w.cell? ⟨g, 66, none⟩ = some ws
  lines : w.cell? ⟨g, 67, none⟩ = some ls
theorem Rd.lt {w : World} {g : Nat} {s : ByteArray} {p : Nat} {ws ls : Value} (h : Rd w g s p ws ls) : g < w.heap.size := World.block_lt_of_cell? w _ h.text
theorem Rd.free {w : World} {g : Nat} {s : ByteArray} {p : Nat} {ws ls : Value} (h : Rd w g s p ws ls) (i : Nat) : w.frozen? ⟨g, i, none⟩ = false := by
  obtain ⟨cur, h⟩ := h.blk
  simp [World.frozen?, h]
theorem Rd.on {w w' : World} {g : Nat} {s : ByteArray} {p : Nat} {ws ls : Value} (h : Rd w g s p ws ls) (e : w'.heap[g]? = w.heap[g]?) : Rd w' g s p ws ls := by
  have hc : ∀ i, w'.cell? ⟨g, i, none⟩ = w.cell? ⟨g, i, none⟩ := fun i => World.cell?_of_block (a := ⟨g, i, none⟩) e
  obtain ⟨cur, hb⟩ := h.blk
  exact ⟨⟨cur, e.trans hb⟩, (hc 0).trans h.text, (hc 1).trans h.place, fun i hi => (hc _).trans (h.kinds i hi), (hc 66).trans h.words, (hc 67).trans h.lines⟩
set_option maxRecDepth 100000 in
theorem kind_any {w : World} {g : Nat} {s : ByteArray} {p : Nat} {ws ls : Value} (h : Rd w g s p ws ls) (hp : p < s.size) :
    Calls Try.prog 35 #[.pointer (some ⟨g, 0, none⟩)] w fun e w' => e = .returned (.int .i64 (kindB (s[p]'hp))) ∧ ∃ n, w' = w.drewN n := by
  have c0 := h.text
  have c1 := h.place
  have hpz : (p : Int) < (s.size : Int) := by omega
  have HK := Lib.hid h.kinds
  rw [kind_small]
  clear h
  by_cases hs : (s[p]'hp).toNat < 64
  · have d0 := HK.out _ hs
    have hsz : (((s[p]'hp).toNat : Nat) : Int) < 64 := by omega
    go_enter Try.func35, Try.ntmps35
    go_wp2_with fail
    go_quiet (fail)
    go_wp2_with fail
    go_ret
    exact ⟨rfl, _, rfl⟩
  · have hsz : ¬ (((s[p]'hp).toNat : Nat) : Int) < 64 := by omega
    have hb : (((s[p]'hp).toNat : Nat) : Int) < 256 := by have := (s[p]'hp).toNat_lt; omega
    rw [kind_great (by omega)]
    go_enter Try.func35, Try.ntmps35
    go_wp2_with fail
    go_quiet (fail)
    go_wp2_with fail
    go_ret
    exact ⟨rfl, _, rfl⟩
end Go.Proofs.Ytbkgcikhiomenaa
