/-
  The number of a mark: the program's and the reference's.
-/
import Derived.Test.YtbkgcikhiomenaaLexProg5
import Derived.Test.YtbkgcikhiomenaaNumSmall2
import Derived.Test.YtbkgcikhiomenaaCut
namespace Go.Proofs.Ytbkgcikhiomenaa
set_option linter.unusedVariables false
set_option linter.unusedSimpArgs false
open Go.ChangeShapes Go.WideShapes Go.ChangeAt Go.RowKit Go.Lib

theorem firstc_eq {s : ByteArray} {c : UInt8} (h : 1 ≤ s.size) : (s.extract 0 1).toList = [c] ↔ s.data.toList.head? = some c := by
  rw [ByteArray.toList_eq, extract_data]
  have hl : s.data.toList.length = s.size := by simp
  generalize s.data.toList = l at *
  cases l with
  | nil => simp at hl; omega
  | cons a l => simp
theorem cutc_is (s : ByteArray) (c : UInt8) (w : World) :
    Calls Try.prog 24 #[.string s, .string ⟨#[c]⟩] w fun e w' => e = .returned (.tuple #[.string (if s.data.toList.head? = some c then s.extract 1 s.size else s), .bool (decide (s.data.toList.head? = some c))]) ∧ w = w' := by
  by_cases h2 : s.data.toList.head? = some c
  · have h1 : 1 ≤ s.size := by
      rcases Nat.eq_zero_or_pos s.size with h0 | h0
      · have : s.data.toList = [] := List.eq_nil_of_length_eq_zero (by simpa using h0)
        rw [this] at h2; cases h2
      · exact h0
    rw [if_pos h2, decide_eq_true h2]
    have hb : ((s.extract 0 1).toList == [c]) = true := by rw [(firstc_eq h1).2 h2]; simp
    have q1 : (1 : Int) ≤ s.size := by omega
    clear h2
    go_enter Try.func24, Try.ntmps24
    go_wp2
    go_ret2
    exact ⟨rfl, rfl⟩
  · rw [if_neg h2, decide_eq_false h2]
    by_cases h0 : s.size = 0
    · have q1 : (s.size : Int) < 1 := by omega
      clear h2
      go_enter Try.func24, Try.ntmps24
      go_wp2
      go_ret2
      exact ⟨rfl, rfl⟩
    · have h1 : 1 ≤ s.size := by omega
      have hb : ((s.extract 0 1).toList == [c]) = false := beq_eq_false_iff_ne.2 fun e => h2 ((firstc_eq h1).1 e)
      have q1 : (1 : Int) ≤ s.size := by omega
      clear h2 h0
      go_enter Try.func24, Try.ntmps24
      go_wp2
      go_ret2
      exact ⟨rfl, rfl⟩
theorem byte_cell (wr : World) (c : UInt8) : (convert 35 9 (.slice (some ⟨wr.heap.size, 0, none⟩) 1 1)).run Try.prog (wr.alloc (.cells #[.int .u8 (c.toNat : Int)] 5)) =
    .ok (.string ⟨#[c]⟩) (wr.alloc (.cells #[.int .u8 (c.toNat : Int)] 5)) := by
  refine run_convert_bytes_back (P := Try.prog) _ 35 9 5 ⟨wr.heap.size, 0, none⟩ 1 [c] Try.underlying35 Try.underlying5 Try.underlying9 ?_
  intro j hj
  have hj0 : j = 0 := by simp at hj; omega
  subst hj0
  rw [add_lit0]
  rw [(Blk.new wr 5 #[.int .u8 (c.toNat : Int)]).cells 0]
  rfl
theorem sm_zero {n er : Int} (h : smE n er 999 ≠ 0) : smV n er 999 = 0 ∧ smE n er 999 = 10 := by
  have hq : ¬ ((999 : Int) < 0 ∨ (1000000 : Int) < 999) := by omega
  by_cases h2 : er ≠ 0 ∨ n < 0 ∨ 999 < n
  · exact sm_bad hq h2
  · exact absurd (sm_well hq h2).2 h
theorem size_of_head {s : ByteArray} {c : UInt8} (h : s.data.toList.head? = some c) : ∃ h1 : 0 < s.size, s[0]'h1 = c := by
  have h1 : 0 < s.size := by
    rcases Nat.eq_zero_or_pos s.size with h0 | h0
    · have : s.data.toList = [] := List.eq_nil_of_length_eq_zero (by simpa using h0)
      rw [this] at h; cases h
    · exact h0
  refine ⟨h1, ?_⟩
  have h2 : s.data.toList.head? = some (s[0]'h1) := by
    rw [List.head?_eq_getElem?, Array.getElem?_toList]
    exact Array.getElem?_eq_getElem h1
  rw [h2] at h
  exact Option.some.inj h
/-- The number of a mark, or the error. -/
def markOf (s : Bs) (c : UInt8) (n er : Int) : Int × Int := if s.head? = some c then (smV n er 999, smE n er 999) else (0, 10)
theorem pmark_any (s : ByteArray) (c : UInt8) (n er : Int) (ht : Told (s.data.toList.drop 1) n er) (w : World) :
    Calls Try.prog 10 #[.string s, .int .u8 (c.toNat : Int)] w fun e w' => e = .returned (.tuple #[.int .i64 (markOf s.data.toList c n er).1, .int .i64 (markOf s.data.toList c n er).2]) ∧ Below w.heap.size w w' := by
  have HT := Lib.hid ht
  clear ht
  have hB := byte_cell
  unfold markOf
  by_cases h : s.data.toList.head? = some c
  · rw [if_pos h]
    have HH := Lib.hid h
    have HC := Lib.hid (show (if s.data.toList.head? = some c then s.extract 1 s.size else s) = s.extract 1 s.size from if_pos h)
    have HE : Hid (Told (s.extract 1 s.size).data.toList n er) := Lib.hid (by
      rw [extract_data, List.take_of_length_le (by simp)]; exact HT.out)
    clear h
    go_enter Try.func10, Try.ntmps10
    go_wp2_with (first
      | (go_at_call 24; refine (cutc_is s c _).mono ?_; rintro e w1 ⟨rfl, rfl⟩; rw [HC.out, decide_eq_true HH.out])
      | (go_at_call 25; refine (small_is _ n er 999 HE.out _).mono ?_; rintro e w1 ⟨rfl, hb1⟩))
    go_ret2
    exact ⟨rfl, ((Below.refl _ _).alloc (Nat.le_refl _) _).trans (hb1.mono (by rw [World.size_alloc]; omega))⟩
  · rw [if_neg h]
    have HH := Lib.hid h
    have HC := Lib.hid (show (if s.data.toList.head? = some c then s.extract 1 s.size else s) = s from if_neg h)
    clear h
    go_enter Try.func10, Try.ntmps10
    go_wp2_with (first
      | (go_at_call 24; refine (cutc_is s c _).mono ?_; rintro e w1 ⟨rfl, rfl⟩; rw [HC.out, decide_eq_false HH.out]))
    go_ret2
    exact ⟨rfl, (Below.refl _ _).alloc (Nat.le_refl _) _⟩
theorem rmark_any (s : ByteArray) (c : UInt8) (n er : Int) (ht : Told (s.data.toList.drop 1) n er) (w : World) :
    Calls Try.prog 11 #[.string s, .int .u8 (c.toNat : Int)] w fun e w' => e = .returned (.tuple #[.int .i64 (markOf s.data.toList c n er).1, .int .i64 (markOf s.data.toList c n er).2]) ∧ Below w.heap.size w w' := by
  have HT := Lib.hid ht
  clear ht
  unfold markOf
  by_cases h : s.data.toList.head? = some c
  · rw [if_pos h]
    obtain ⟨h1, h2⟩ := size_of_head h
    have h1z : (0 : Int) < s.size := by omega
    have h1y : (1 : Int) ≤ s.size := by omega
    have hne : s.toList.isEmpty = false := by rw [ByteArray.toList_eq]; cases hq : s.data.toList with
      | nil => rw [hq] at h; cases h
      | cons => rfl
    have hne2 : s.toList ≠ [] := fun e => by rw [e] at hne; cases hne
    have hq1 : (((s[0]'h1).toNat : Int) == (c.toNat : Int)) = true := by rw [h2]; simp
    have hq2 : (((s[0]'h1).toNat : Int) != (c.toNat : Int)) = false := by rw [h2]; simp
    have HE : Hid (Told (s.extract 1 s.size).data.toList n er) := Lib.hid (by
      rw [extract_data, List.take_of_length_le (by simp)]; exact HT.out)
    clear h h2
    by_cases he : smE n er 999 = 0
    · have HX := Lib.hid he
      rw [he]
      clear he
      go_enter Try.func11, Try.ntmps11
      go_wp2_with (first
        | (go_at_call 26; refine (rsmall_is _ n er 999 HE.out _).mono ?_; rintro e w1 ⟨rfl, hb1⟩; rw [HX.out]))
      go_ret2
      exact ⟨rfl, hb1⟩
    · have HX := Lib.hid (sm_zero he)
      rw [HX.out.1, HX.out.2]
      clear he
      go_enter Try.func11, Try.ntmps11
      go_wp2_with (first
        | (go_at_call 26; refine (rsmall_is _ n er 999 HE.out _).mono ?_; rintro e w1 ⟨rfl, hb1⟩; rw [HX.out.1, HX.out.2]))
      go_ret2
      exact ⟨rfl, hb1⟩
  · rw [if_neg h]
    by_cases h0 : s.size = 0
    · have hne : s.toList = [] := by rw [ByteArray.toList_eq]; exact List.eq_nil_of_length_eq_zero (by simpa using h0)
      have hne2 : s.toList.isEmpty = true := by rw [hne]; rfl
      clear h h0
      go_enter Try.func11, Try.ntmps11
      go_wp2_with fail
      go_ret2
      exact ⟨rfl, Below.refl _ _⟩
    · have h1 : 0 < s.size := by omega
      have h1z : (0 : Int) < s.size := by omega
      have hne2 : s.toList ≠ [] := fun e => by rw [ByteArray.toList_eq] at e; have := congrArg List.length e; rw [Array.length_toList] at this; exact h0 this
      have hne : s.toList.isEmpty = false := by cases hq : s.toList with
        | nil => exact absurd hq hne2
        | cons => rfl
      have h2 : s[0]'h1 ≠ c := fun e => h (by rw [← e, List.head?_eq_getElem?, Array.getElem?_toList]; exact Array.getElem?_eq_getElem h1)
      have hq1 : (((s[0]'h1).toNat : Int) == (c.toNat : Int)) = false := beq_eq_false_iff_ne.2 fun e => h2 (UInt8.toNat_inj.1 (by omega))
      have hq2 : (((s[0]'h1).toNat : Int) != (c.toNat : Int)) = true := by rw [bne, hq1]; rfl
      clear h h0 h2
      go_enter Try.func11, Try.ntmps11
      go_wp2_with fail
      go_ret2
      exact ⟨rfl, Below.refl _ _⟩
end Go.Proofs.Ytbkgcikhiomenaa
