/-
  The walks of the laws' words is, none, alive.
-/
import Derived.Test.YtfaakkgoigmoiaaDoorNumWrite
namespace Go.Proofs.YtfaakkgoigmoiaaDoor
set_option linter.unusedVariables false
open Go.ChangeShapes Go.WideShapes Go.ChangeAt Go.RowKit Go.Lib

def canonB (l : List UInt8) : Bool := l.all (fun c => decide (48 ≤ c.toNat) && decide (c.toNat ≤ 57)) && !l.isEmpty && (l == [48] || l.head? != some 48)
theorem canonB_iff {l : List UInt8} : canonB l = true ↔ Canon l := by
  unfold canonB Canon AllDig Dig
  simp only [Bool.and_eq_true, List.all_eq_true, decide_eq_true_eq, Bool.or_eq_true, beq_iff_eq, bne_iff_ne, Bool.not_eq_true', List.isEmpty_eq_false_iff, ne_eq]
  constructor
  · rintro ⟨⟨h1, h2⟩, h3⟩; exact ⟨h1, h2, h3⟩
  · rintro ⟨h1, h2, h3⟩; exact ⟨⟨h1, h2⟩, h3⟩
def posB (l : List UInt8) (n : Int) : Bool := canonB l && decide ((valD l : Int) = n) && decide (valD l ≤ 9223372036854775807)
def negB (l : List UInt8) (n : Int) : Bool := match l with
  | c :: r => c == 45 && canonB r && r != [48] && decide (-(valD r : Int) = n) && decide (valD r ≤ 9223372036854775808)
  | [] => false
def badB (l : List UInt8) : Bool := !(canonB l && decide (valD l ≤ 9223372036854775807)) && match l with
  | c :: r => !(c == 45 && canonB r && r != [48] && decide (valD r ≤ 9223372036854775808))
  | [] => true
theorem num_pos {l : List UInt8} {n : Int} (h : posB l n = true) : NumOf l n := by
  unfold posB at h
  simp only [Bool.and_eq_true, decide_eq_true_eq] at h
  obtain ⟨⟨h1, rfl⟩, h3⟩ := h
  exact numOf_pos (canonB_iff.1 h1) h3
theorem num_neg {l : List UInt8} {n : Int} (h : negB l n = true) : NumOf l n := by
  unfold negB at h
  split at h
  · simp only [Bool.and_eq_true, decide_eq_true_eq, beq_iff_eq, bne_iff_ne, ne_eq] at h
    obtain ⟨⟨⟨⟨rfl, h1⟩, h2⟩, rfl⟩, h4⟩ := h
    exact numOf_neg (canonB_iff.1 h1) h2 h4
  · cases h
theorem num_bad {l : List UInt8} (h : badB l = true) (m : Int) : ¬ NumOf l m := fun hn => by
  unfold badB at h
  rcases numOf_form hn with ⟨h1, _, h2⟩ | ⟨r, rfl, h1, h2, _, h3⟩
  · rw [canonB_iff.2 h1] at h
    simp [h2] at h
  · simp [canonB_iff.2 h1, h2, h3] at h

theorem is_yes (s : ByteArray) (n : Int) (h : NumOf s.data.toList n) (w : World) :
    Calls Tryd.prog 13 #[.string s, .int .i64 n] w fun e w' => e = .returned (.bool true) ∧ Below w.heap.size w w' := by
  have HT := Lib.hid (show Told s.data.toList n 0 from .inl ⟨rfl, h⟩)
  clear h
  go_enter Tryd.func13, Tryd.ntmps13
  go_wp2_with fail
  refine (read_is s n 0 HT.out _).mono ?_
  rintro e w1 ⟨rfl, hb1⟩
  go_wp2_with fail
  go_ret
  exact ⟨rfl, hb1⟩
theorem none_yes (s : ByteArray) (h : ∀ m, ¬ NumOf s.data.toList m) (w : World) :
    Calls Tryd.prog 14 #[.string s] w fun e w' => e = .returned (.bool true) ∧ Below w.heap.size w w' := by
  have HT := Lib.hid (show Told s.data.toList 0 10 from .inr ⟨rfl, rfl, h⟩)
  clear h
  go_enter Tryd.func14, Tryd.ntmps14
  go_wp2_with fail
  refine (read_is s 0 10 HT.out _).mono ?_
  rintro e w1 ⟨rfl, hb1⟩
  go_wp2_with fail
  go_ret
  exact ⟨rfl, hb1⟩
theorem write_lit (n : Int) (l : List UInt8) (h : NumOf l n) (w : World) (ht : Tab w) :
    Calls Tryd.prog 10 #[.int .i64 n] w fun e w' => e = .returned (.string ⟨l.toArray⟩) ∧ Below w.heap.size w w' := by
  have := write_is n h.1 w ht
  rwa [h.2] at this
theorem alive_is (w : World) (htab : Tab w) :
    Calls Tryd.prog 12 #[] w fun e w' => e = .returned (.bool true) ∧ Below w.heap.size w w' := by
  go_enter Tryd.func12, Tryd.ntmps12
  go_wp2_with fail
  refine (is_yes _ 0 (num_pos (by decide)) _).mono ?_
  rintro e w1 ⟨rfl, hb1⟩
  go_wp2_with fail
  refine (is_yes _ (-7) (num_neg (by decide)) _).mono ?_
  rintro e w2 ⟨rfl, hb2⟩
  go_wp2_with fail
  refine (none_yes _ (num_bad (by decide)) _).mono ?_
  rintro e w3 ⟨rfl, hb3⟩
  have b2 := hb1.trans (hb2.mono hb1.size)
  have b3 := b2.trans (hb3.mono b2.size)
  go_wp2_with fail
  refine (write_lit 120 [49, 50, 48] (num_pos (by decide)) _ (htab.beneath b3)).mono ?_
  rintro e w4 ⟨rfl, hb4⟩
  go_wp2_with fail
  go_ret
  exact ⟨rfl, b3.trans (hb4.mono b3.size)⟩
end Go.Proofs.YtfaakkgoigmoiaaDoor
