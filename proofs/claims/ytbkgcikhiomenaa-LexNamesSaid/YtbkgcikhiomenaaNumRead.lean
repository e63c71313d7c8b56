/-
  The walk of num.Read: a text's number, or the error.
-/
import Derived.Test.YtbkgcikhiomenaaNum
import Derived.Test.YtbkgcikhiomenaaCut
import Derived.Recover
import Derived.Defers
import Derived.BigQuiet
import Derived.RegionTactic
import Derived.ChangeAlike
namespace Go.Proofs.Ytbkgcikhiomenaa
set_option linter.unusedVariables false
set_option linter.unusedSimpArgs false
open Go.ChangeShapes Go.WideShapes Go.ChangeAt Go.RowKit Go.Lib

theorem late_bad (a b : Addr) (er n : Int) (h : (er != 0) = true) (w : World) (u : FrameMode) (hc : w.cell? a = some (.int .i64 er)) (hn : w.cell? b = some (.int .i64 n)) (hf : w.frozen? b = false) :
    CallsD Try.prog 43 #[.pointer (some a), .pointer (some b)] u w fun e u' w' => u' = u ∧ (e = .returned (.tuple #[]) ∧ w' = w.setCell b (.int .i64 0)) := by
  go_enter_d Try.func43, Try.ntmps43
  go_wp2
  go_end0
  exact ⟨rfl, rfl⟩
theorem late_well (a b : Addr) (w : World) (u : FrameMode) (hc : w.cell? a = some (.int .i64 0)) :
    CallsD Try.prog 43 #[.pointer (some a), .pointer (some b)] u w fun e u' w' => u' = u ∧ (e = .returned (.tuple #[]) ∧ w' = w) := by
  go_enter_d Try.func43, Try.ntmps43
  go_wp2
  go_end0
  exact ⟨rfl, rfl⟩

theorem late_bad' (a b : Addr) (er : Int) (h : (er != 0) = true) (w : World) (u : FrameMode) (hc : w.cell? a = some (.int .i64 er)) (hn : ∃ n : Int, w.cell? b = some (.int .i64 n)) (hf : w.frozen? b = false) :
    CallsD Try.prog 43 #[.pointer (some a), .pointer (some b)] u w fun e u' w' => u' = u ∧ (e = .returned (.tuple #[]) ∧ w' = w.setCell b (.int .i64 0)) := by
  obtain ⟨n, hn⟩ := hn
  exact late_bad a b er n h w u hc hn hf
/-- Where the rest is empty, too long, or begins with a 0 that is not all. -/
def BadRest (s r : ByteArray) : Prop := r.size = 0 ∨ 19 < r.size ∨ (1 ≤ r.size ∧ r.size ≤ 19 ∧ r.data.toList.head? = some 48 ∧ s.data.toList ≠ [48])
theorem isEmpty_t {r : ByteArray} (hr : r.size = 0) : r.toList.isEmpty = true := by
  rw [ByteArray.toList_eq]; have : r.data.toList = [] := List.eq_nil_of_length_eq_zero (by simpa using hr); rw [this]; rfl
theorem isEmpty_f {r : ByteArray} (hr : 1 ≤ r.size) : r.toList.isEmpty = false := by
  rw [ByteArray.toList_eq]
  have hl : r.data.toList.length = r.size := by simp
  cases h : r.data.toList with
  | nil => rw [h] at hl; simp at hl; omega
  | cons a l => rfl
theorem head_at {r : ByteArray} (hr : 0 < r.size) : r.data.toList.head? = some r[0] := by
  have hl : r.data.toList.length = r.size := by simp
  rw [List.head?_eq_getElem?, List.getElem?_eq_getElem (by omega)]
  rfl

theorem read_bad1 (s : ByteArray) (m : Bool) (r : ByteArray) (h : Signed s m r) (hbad : BadRest s r) (w : World) :
    Calls Try.prog 37 #[.string s] w fun e w' => e = .returned (.tuple #[.int .i64 0, .int .i64 10]) ∧ Below w.heap.size w w' := by
  have hmf : ∀ (fn : Fn) (first cap : Array Value) (w : World), (Instr.makeFunc fn first cap).run Try.prog w = .ok (.func fn first cap) w := fun _ _ _ _ => rfl
  have HS := Lib.hid h
  rcases hbad with hr | hr | ⟨h1, h2, h3, h4⟩
  · have he := isEmpty_t hr
    clear h hr
    go_enter_defers Try.func37, Try.ntmps37
    go_wp2_with (go_at_call 24; refine (cut_is _ _ _ HS.out _).mono ?_; rintro e w' ⟨rfl, rfl⟩)
    refine leaves_cons (f := 43) (args := #[.pointer (some ⟨w.heap.size + 1, 0, none⟩), .pointer (some ⟨w.heap.size, 0, none⟩)]) (by simp) (by simp [go_sem]) ?_
    refine (late_bad _ _ 10 0 rfl _ _ ?_ ?_ ?_).mono ?_
    · simp [go_sem]
    · simp [go_sem]
    · simp [go_sem]
    rintro e u' w'' ⟨rfl, rfl, rfl⟩
    simp [Leaves, settle, results, Try.results37, go_sem]
    exact ((Below.refl _ _).alloc (Nat.le_refl _) _).alloc (by simp) _
  · have he := isEmpty_f (r := r) (by omega)
    have q1 : (19 : Int) < r.size := by omega
    clear h hr
    go_enter_defers Try.func37, Try.ntmps37
    go_wp2_with (go_at_call 24; refine (cut_is _ _ _ HS.out _).mono ?_; rintro e w' ⟨rfl, rfl⟩)
    refine leaves_cons (f := 43) (args := #[.pointer (some ⟨w.heap.size + 1, 0, none⟩), .pointer (some ⟨w.heap.size, 0, none⟩)]) (by simp) (by simp [go_sem]) ?_
    refine (late_bad _ _ 10 0 rfl _ _ ?_ ?_ ?_).mono ?_
    · simp [go_sem]
    · simp [go_sem]
    · simp [go_sem]
    rintro e u' w'' ⟨rfl, rfl, rfl⟩
    simp [Leaves, settle, results, Try.results37, go_sem]
    exact ((Below.refl _ _).alloc (Nat.le_refl _) _).alloc (by simp) _
  · have he := isEmpty_f h1
    have q1 : (r.size : Int) ≤ 19 := by omega
    have q0 : 0 < r.size := by omega
    have q2 : ((r[0].toNat : Int) == 48) = true := by
      rw [head_at q0] at h3
      injection h3 with h3
      rw [h3]; rfl
    have q3 : (s.toList == [48]) = false := beq_eq_false_iff_ne.2 fun e => h4 (by rw [ByteArray.toList_eq] at e; exact e)
    clear h h2 h3 h4 h1
    go_enter_defers Try.func37, Try.ntmps37
    go_wp2_with (go_at_call 24; refine (cut_is _ _ _ HS.out _).mono ?_; rintro e w' ⟨rfl, rfl⟩)
    refine leaves_cons (f := 43) (args := #[.pointer (some ⟨w.heap.size + 1, 0, none⟩), .pointer (some ⟨w.heap.size, 0, none⟩)]) (by simp) (by simp [go_sem]) ?_
    refine (late_bad _ _ 10 0 rfl _ _ ?_ ?_ ?_).mono ?_
    · simp [go_sem]
    · simp [go_sem]
    · simp [go_sem]
    rintro e u' w'' ⟨rfl, rfl, rfl⟩
    simp [Leaves, settle, results, Try.results37, go_sem]
    exact ((Below.refl _ _).alloc (Nat.le_refl _) _).alloc (by simp) _

end Go.Proofs.Ytbkgcikhiomenaa
