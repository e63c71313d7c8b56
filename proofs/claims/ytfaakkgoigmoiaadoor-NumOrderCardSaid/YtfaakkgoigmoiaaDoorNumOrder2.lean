/-
  The walk of the law NumOrder.
-/
import Derived.Test.YtfaakkgoigmoiaaDoorNumOrder
import Derived.WalkLawsBesides
import Derived.Outline
namespace Go.Proofs.YtfaakkgoigmoiaaDoor
set_option linter.unusedVariables false
open Go.ChangeShapes Go.WideShapes Go.ChangeAt Go.RowKit Go.Lib

set_option maxHeartbeats 1000000 in
theorem walk_NumOrder (a b : Int) (w : World) (w0 : (Lit.int .i64 a).wf = true) (w1 : (Lit.int .i64 b).wf = true) (htab : Tab w) :
    Calls Tryd.prog 5 #[.int .i64 a, .int .i64 b] w fun e w' => e = .returned (.bool true) ∧ Below w.heap.size w w' := by
  have ha := in64n_of w0
  have hb := in64n_of w1
  clear w0 w1
  obtain ⟨X, hX⟩ := text_ex a
  obtain ⟨Y, hY⟩ := text_ex b
  have HA := Lib.hid ha
  have HB := Lib.hid hb
  have HX := Lib.hid hX
  have HY := Lib.hid hY
  have HT := Lib.hid htab
  have hxy := text_eq hX hY
  clear hX hY htab
  by_cases ha0 : a < 0
  · by_cases hm : a = -9223372036854775808
    · subst hm
      go_enter Tryd.func5, Tryd.ntmps5
      go_wp2_with fail
      refine (alive_is _ HT.out).mono ?_
      rintro e w1 ⟨rfl, hb1⟩
      go_wp2_with fail
      refine (write_as _ HA.out X HX.out _ (HT.out.beneath hb1)).mono ?_
      rintro e w2 ⟨rfl, hb2⟩
      have b2 := hb1.trans (hb2.mono hb1.size)
      clear hb1 hb2
      go_wp2_with fail
      refine (write_as _ HB.out Y HY.out _ (HT.out.beneath b2)).mono ?_
      rintro e w3 ⟨rfl, hb3⟩
      have b3 := b2.trans (hb3.mono b2.size)
      clear b2 hb3
      go_wp2_with fail
      go_ret
      exact ⟨rfl, b3⟩
    · obtain ⟨Z, hZ⟩ := text_ex (-a)
      have hneg := text_neg HX.out hZ ha0
      have HZ := Lib.hid hZ
      have HNA : Hid (In64n (-a)) := Lib.hid (by unfold In64n at ha ⊢; omega)
      have hgt : -9223372036854775808 < a := by unfold In64n at ha; omega
      have hsz : Z.size ≤ 100 := by rw [text_size hZ]; have := itoa_len20 HNA.out; omega
      have hw : wrap64 (-a) = -a := by unfold wrap64; unfold In64n at ha; omega
      clear hZ hm
      go_enter Tryd.func5, Tryd.ntmps5
      go_wp2_with fail
      refine (alive_is _ HT.out).mono ?_
      rintro e w1 ⟨rfl, hb1⟩
      go_wp2_with fail
      refine (write_as _ HA.out X HX.out _ (HT.out.beneath hb1)).mono ?_
      rintro e w2 ⟨rfl, hb2⟩
      have b2 := hb1.trans (hb2.mono hb1.size)
      clear hb1 hb2
      go_wp2_with fail
      refine (write_as _ HB.out Y HY.out _ (HT.out.beneath b2)).mono ?_
      rintro e w3 ⟨rfl, hb3⟩
      have b3 := b2.trans (hb3.mono b2.size)
      clear b2 hb3
      go_wp2_with fail
      refine (write_as _ HNA.out Z HZ.out _ (HT.out.beneath b3)).mono ?_
      rintro e w4 ⟨rfl, hb4⟩
      have b4 := b3.trans (hb4.mono b3.size)
      clear b3 hb4
      go_wp2_with fail
      go_ret
      exact ⟨rfl, b4⟩
  · by_cases hb0 : b < 0
    · go_enter Tryd.func5, Tryd.ntmps5
      go_wp2_with fail
      refine (alive_is _ HT.out).mono ?_
      rintro e w1 ⟨rfl, hb1⟩
      go_wp2_with fail
      refine (write_as _ HA.out X HX.out _ (HT.out.beneath hb1)).mono ?_
      rintro e w2 ⟨rfl, hb2⟩
      have b2 := hb1.trans (hb2.mono hb1.size)
      clear hb1 hb2
      go_wp2_with fail
      refine (write_as _ HB.out Y HY.out _ (HT.out.beneath b2)).mono ?_
      rintro e w3 ⟨rfl, hb3⟩
      have b3 := b2.trans (hb3.mono b2.size)
      clear b2 hb3
      go_wp2_with fail
      go_ret
      exact ⟨rfl, b3⟩
    · rcases Nat.lt_trichotomy X.size Y.size with hs | hs | hs
      · have hlt := text_short HX.out HY.out (by omega) (by omega) hs
        have hne : (a == b) = false := by simp; omega
        have q1 : (X.size : Int) < Y.size := by omega
        go_enter Tryd.func5, Tryd.ntmps5
        go_wp2_with fail
        refine (alive_is _ HT.out).mono ?_
        rintro e w1 ⟨rfl, hb1⟩
        go_wp2_with fail
        refine (write_as _ HA.out X HX.out _ (HT.out.beneath hb1)).mono ?_
        rintro e w2 ⟨rfl, hb2⟩
        have b2 := hb1.trans (hb2.mono hb1.size)
        clear hb1 hb2
        go_wp2_with fail
        refine (write_as _ HB.out Y HY.out _ (HT.out.beneath b2)).mono ?_
        rintro e w3 ⟨rfl, hb3⟩
        have b3 := b2.trans (hb3.mono b2.size)
        clear b2 hb3
        go_wp2_with fail
        go_ret
        exact ⟨rfl, b3⟩
      · have hls := text_less HX.out HY.out (by omega) (by omega) hs
        have q1 : (X.size : Int) = Y.size := by omega
        clear hs
        go_enter Tryd.func5, Tryd.ntmps5
        go_wp2_with fail
        refine (alive_is _ HT.out).mono ?_
        rintro e w1 ⟨rfl, hb1⟩
        go_wp2_with fail
        refine (write_as _ HA.out X HX.out _ (HT.out.beneath hb1)).mono ?_
        rintro e w2 ⟨rfl, hb2⟩
        have b2 := hb1.trans (hb2.mono hb1.size)
        clear hb1 hb2
        go_wp2_with fail
        refine (write_as _ HB.out Y HY.out _ (HT.out.beneath b2)).mono ?_
        rintro e w3 ⟨rfl, hb3⟩
        have b3 := b2.trans (hb3.mono b2.size)
        clear b2 hb3
        go_wp2_with fail
        go_ret
        exact ⟨rfl, b3⟩
      · have hlt := text_short HY.out HX.out (by omega) (by omega) hs
        have hne : (a == b) = false := by simp; omega
        have q1 : (Y.size : Int) < X.size := by omega
        have q2 : ¬ a < b := by omega
        go_enter Tryd.func5, Tryd.ntmps5
        go_wp2_with fail
        refine (alive_is _ HT.out).mono ?_
        rintro e w1 ⟨rfl, hb1⟩
        go_wp2_with fail
        refine (write_as _ HA.out X HX.out _ (HT.out.beneath hb1)).mono ?_
        rintro e w2 ⟨rfl, hb2⟩
        have b2 := hb1.trans (hb2.mono hb1.size)
        clear hb1 hb2
        go_wp2_with fail
        refine (write_as _ HB.out Y HY.out _ (HT.out.beneath b2)).mono ?_
        rintro e w3 ⟨rfl, hb3⟩
        have b3 := b2.trans (hb3.mono b2.size)
        clear b2 hb3
        go_wp2_with fail
        go_ret
        exact ⟨rfl, b3⟩
end Go.Proofs.YtfaakkgoigmoiaaDoor
