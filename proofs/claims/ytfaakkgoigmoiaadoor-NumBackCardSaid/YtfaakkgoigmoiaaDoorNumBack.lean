/-
  The walk of the law NumBack.
-/
import Derived.Test.YtfaakkgoigmoiaaDoorNumAlive
namespace Go.Proofs.YtfaakkgoigmoiaaDoor
set_option linter.unusedVariables false
open Go.ChangeShapes Go.WideShapes Go.ChangeAt Go.RowKit Go.Lib

theorem num_itoa {n : Int} (h : In64n n) : NumOf (⟨(itoa n).toArray⟩ : ByteArray).data.toList n := ⟨h, by simp⟩
theorem write_text (n : Int) (s : ByteArray) (h : NumOf s.data.toList n) (w : World) (ht : Tab w) :
    Calls Tryd.prog 10 #[.int .i64 n] w fun e w' => e = .returned (.string s) ∧ Below w.heap.size w w' := by
  have := write_lit n _ h w ht
  rwa [show (⟨s.data.toList.toArray⟩ : ByteArray) = s by cases s; simp] at this

theorem walk_NumBack (n : Int) (s : ByteArray) (w : World) (w0 : (Lit.int .i64 n).wf = true) (w1 : s.size ≤ maxLen) (htab : Tab w) :
    Calls Tryd.prog 4 #[.int .i64 n, .string s] w fun e w' => e = .returned (.bool true) ∧ Below w.heap.size w w' := by
  unfold maxLen at w1
  have HN := Lib.hid (in64n_of w0)
  clear w0
  by_cases h : 1000 < s.size
  · have q : (1000 : Int) < s.size := by omega
    go_enter Tryd.func4, Tryd.ntmps4
    go_wp2_with fail
    refine (alive_is _ htab).mono ?_
    rintro e w1 ⟨rfl, hb1⟩
    have b1 := hb1
    go_wp2_with fail
    go_ret
    exact ⟨rfl, b1⟩
  · have q : (s.size : Int) ≤ 1000 := by omega
    obtain ⟨m, er, ht⟩ := told_ex s.data.toList
    rcases ht with ⟨rfl, ht⟩ | ⟨rfl, rfl, ht⟩
    · have HM := Lib.hid ht
      clear ht
      go_enter Tryd.func4, Tryd.ntmps4
      go_wp2_with fail
      refine (alive_is _ htab).mono ?_
      rintro e w1 ⟨rfl, hb1⟩
      have b1 := hb1
      go_wp2_with fail
      refine (read_is s m 0 (.inl ⟨rfl, HM.out⟩) _).mono ?_
      rintro e w2 ⟨rfl, hb2⟩
      have b2 := b1.trans (hb2.mono b1.size)
      go_wp2_with fail
      refine (write_is n HN.out _ (htab.beneath b2)).mono ?_
      rintro e w3 ⟨rfl, hb3⟩
      have b3 := b2.trans (hb3.mono b2.size)
      go_wp2_with fail
      refine (is_yes _ n (num_itoa HN.out) _).mono ?_
      rintro e w4 ⟨rfl, hb4⟩
      have b4 := b3.trans (hb4.mono b3.size)
      go_wp2_with fail
      refine (write_text m s HM.out _ (htab.beneath b4)).mono ?_
      rintro e w5 ⟨rfl, hb5⟩
      have b5 := b4.trans (hb5.mono b4.size)
      go_wp2_with fail
      go_ret
      exact ⟨rfl, b5⟩
    · have HM := Lib.hid ht
      clear ht
      go_enter Tryd.func4, Tryd.ntmps4
      go_wp2_with fail
      refine (alive_is _ htab).mono ?_
      rintro e w1 ⟨rfl, hb1⟩
      have b1 := hb1
      go_wp2_with fail
      refine (read_is s 0 10 (.inr ⟨rfl, rfl, HM.out⟩) _).mono ?_
      rintro e w2 ⟨rfl, hb2⟩
      have b2 := b1.trans (hb2.mono b1.size)
      go_wp2_with fail
      refine (write_is n HN.out _ (htab.beneath b2)).mono ?_
      rintro e w3 ⟨rfl, hb3⟩
      have b3 := b2.trans (hb3.mono b2.size)
      go_wp2_with fail
      refine (is_yes _ n (num_itoa HN.out) _).mono ?_
      rintro e w4 ⟨rfl, hb4⟩
      have b4 := b3.trans (hb4.mono b3.size)
      go_wp2_with fail
      go_ret
      exact ⟨rfl, b4⟩
end Go.Proofs.YtfaakkgoigmoiaaDoor
