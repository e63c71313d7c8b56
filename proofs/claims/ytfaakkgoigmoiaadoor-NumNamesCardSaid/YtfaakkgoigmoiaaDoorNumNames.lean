/-
  The walk of the law NumNames.
-/
import Derived.Test.YtfaakkgoigmoiaaDoorNumAlive
import Derived.Test.YtfaakkgoigmoiaaDoorNumSmall1
namespace Go.Proofs.YtfaakkgoigmoiaaDoor
set_option linter.unusedVariables false
open Go.ChangeShapes Go.WideShapes Go.ChangeAt Go.RowKit Go.Lib

theorem small_at (s : ByteArray) (n er most v e : Int) (ht : Told s.data.toList n er) (hv : smV n er most = v ∧ smE n er most = e) (w : World) :
    Calls Tryd.prog 15 #[.string s, .int .i64 most] w fun e' w' => e' = .returned (.tuple #[.int .i64 v, .int .i64 e]) ∧ Below w.heap.size w w' := by
  have := small_is s n er most ht w
  rwa [hv.1, hv.2] at this
theorem told_yes {l : List UInt8} {n : Int} (h : NumOf l n) : Told l n 0 := .inl ⟨rfl, h⟩
theorem told_no {l : List UInt8} (h : ∀ m, ¬ NumOf l m) : Told l 0 10 := .inr ⟨rfl, rfl, h⟩

theorem walk_NumNames (w : World) (htab : Tab w) :
    Calls Tryd.prog 7 #[] w fun e w' => e = .returned (.bool true) ∧ Below w.heap.size w w' := by
  go_enter Tryd.func7, Tryd.ntmps7
  go_wp2_with fail
  refine (small_at _ 12 0 12 12 0 (told_yes (num_pos (by decide))) (by decide) _).mono ?_
  rintro e w1 ⟨rfl, hb1⟩
  have b1 := hb1
  go_wp2_with fail
  refine (small_at _ 12 0 11 0 10 (told_yes (num_pos (by decide))) (by decide) _).mono ?_
  rintro e w2 ⟨rfl, hb2⟩
  have b2 := b1.trans (hb2.mono b1.size)
  go_wp2_with fail
  refine (small_at _ 1 0 (-1) 0 2 (told_yes (num_pos (by decide))) (by decide) _).mono ?_
  rintro e w3 ⟨rfl, hb3⟩
  have b3 := b2.trans (hb3.mono b2.size)
  go_wp2_with fail
  refine (small_at _ 0 10 1000001 0 2 (told_no (num_bad (by decide))) (by decide) _).mono ?_
  rintro e w4 ⟨rfl, hb4⟩
  have b4 := b3.trans (hb4.mono b3.size)
  go_wp2_with fail
  refine (small_at _ 1000000 0 1000000 1000000 0 (told_yes (num_pos (by decide))) (by decide) _).mono ?_
  rintro e w5 ⟨rfl, hb5⟩
  have b5 := b4.trans (hb5.mono b4.size)
  go_wp2_with fail
  refine (small_at _ (-1) 0 5 0 10 (told_yes (num_neg (by decide))) (by decide) _).mono ?_
  rintro e w6 ⟨rfl, hb6⟩
  have b6 := b5.trans (hb6.mono b5.size)
  go_wp2_with fail
  refine (alive_is _ (htab.beneath b6)).mono ?_
  rintro e w7 ⟨rfl, hb7⟩
  have b7 := b6.trans (hb7.mono b6.size)
  go_wp2_with fail
  refine (is_yes _ (-9223372036854775808) (num_neg (by decide)) _).mono ?_
  rintro e w8 ⟨rfl, hb8⟩
  have b8 := b7.trans (hb8.mono b7.size)
  go_wp2_with fail
  refine (is_yes _ 9223372036854775807 (num_pos (by decide)) _).mono ?_
  rintro e w9 ⟨rfl, hb9⟩
  have b9 := b8.trans (hb9.mono b8.size)
  go_wp2_with fail
  refine (none_yes _ (num_bad (by decide)) _).mono ?_
  rintro e w10 ⟨rfl, hb10⟩
  have b10 := b9.trans (hb10.mono b9.size)
  go_wp2_with fail
  refine (none_yes _ (num_bad (by decide)) _).mono ?_
  rintro e w11 ⟨rfl, hb11⟩
  have b11 := b10.trans (hb11.mono b10.size)
  go_wp2_with fail
  refine (none_yes _ (num_bad (by decide)) _).mono ?_
  rintro e w12 ⟨rfl, hb12⟩
  have b12 := b11.trans (hb12.mono b11.size)
  go_wp2_with fail
  refine (none_yes _ (num_bad (by decide)) _).mono ?_
  rintro e w13 ⟨rfl, hb13⟩
  have b13 := b12.trans (hb13.mono b12.size)
  go_wp2_with fail
  refine (none_yes _ (num_bad (by decide)) _).mono ?_
  rintro e w14 ⟨rfl, hb14⟩
  have b14 := b13.trans (hb14.mono b13.size)
  go_wp2_with fail
  refine (none_yes _ (num_bad (by decide)) _).mono ?_
  rintro e w15 ⟨rfl, hb15⟩
  have b15 := b14.trans (hb15.mono b14.size)
  go_wp2_with fail
  refine (none_yes _ (num_bad (by decide)) _).mono ?_
  rintro e w16 ⟨rfl, hb16⟩
  have b16 := b15.trans (hb16.mono b15.size)
  go_wp2_with fail
  refine (none_yes _ (num_bad (by decide)) _).mono ?_
  rintro e w17 ⟨rfl, hb17⟩
  have b17 := b16.trans (hb17.mono b16.size)
  go_wp2_with fail
  refine (write_lit (-9223372036854775808) [45, 57, 50, 50, 51, 51, 55, 50, 48, 51, 54, 56, 53, 52, 55, 55, 53, 56, 48, 56] (num_neg (by decide)) _ (htab.beneath b17)).mono ?_
  rintro e w18 ⟨rfl, hb18⟩
  have b18 := b17.trans (hb18.mono b17.size)
  go_wp2_with fail
  go_ret
  exact ⟨rfl, b18⟩
end Go.Proofs.YtfaakkgoigmoiaaDoor
