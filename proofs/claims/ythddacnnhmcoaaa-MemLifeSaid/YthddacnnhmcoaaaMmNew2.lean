/-
  The reference's first values of a list of kinds.
-/
import Derived.Test.YthddacnnhmcoaaaMmNew1
import Derived.Test.YthddacnnhmcoaaaMmCalc
namespace Go.Proofs.Ythddacnnhmcoaaa
set_option linter.unusedVariables false
set_option linter.unusedSimpArgs false
open Go.ChangeShapes Go.WideShapes Go.ChangeAt Go.RowKit

theorem all_bad {l : List Int} {k : Nat} {x : Int} (hk : k < l.length) (e : l.getD k 0 = x) (hx : kindOk x = false) : l.all kindOk = false := by
  rw [List.all_eq_false]
  exact ⟨x, by rw [← e, getD_lt l hk]; exact List.getElem_mem hk, by rw [hx]; simp⟩
set_option maxHeartbeats 1600000 in
theorem rfirsts_any {w : World} {A : Option Addr} {c : Nat} {l : List Int} (h : KindsAt w A c l) (hl : l.length ≤ 100000) :
    Calls Try.prog 39 #[.slice A l.length c] w (FirstsOf l w) := by
  have HX := Lib.hid h
  obtain ⟨ok, hok⟩ : ∃ ok, l.all kindOk = ok := ⟨_, rfl⟩
  unfold FirstsOf
  rw [hok]
  have HOK := Lib.hid hok
  clear h hok
  go_enter Try.func39, Try.ntmps39
  go_wp2_with fail
  go_loopw [4, 5] (fun v i wr => ∃ (k : Nat), k ≤ l.length ∧ i = .int .i64 k ∧ Hid ((l.take k).all kindOk = true) ∧ Hid (OwnVals wr w.heap.size v ((l.take k).map firstV)) ∧ Hid (Below w.heap.size w wr)) (fun _ i _ => l.length - (intOf i).toNat)
  case atStart => exact ⟨0, Nat.zero_le _, rfl, Lib.hid rfl, Lib.hid (OwnVals.nil _ _), Lib.hid (Below.refl _ _)⟩
  case round =>
    obtain ⟨k, hk, rfl, HA, HO, HB⟩ := hrel
    by_cases hlt : k < l.length
    · obtain ⟨b, off, x, rfl, hbk, d0, HE⟩ := (HX.out.on HB.out).elem hlt
      have HC := Lib.hid (rfirst_any x wr)
      cases hkx : kindOk x with
      | false =>
        have HBAD := Lib.hid (all_bad hlt HE.out hkx)
        obtain rfl : ok = false := HOK.out.symm.trans HBAD.out
        have hne := kind_bad hkx
        generalize firstE x = fe at HC hne
        generalize firstK x = fk at HC
        have hqe : (fe != 0) = true := by simpa using hne
        clear hkx hne
        go_wp2_with fail
        refine HC.out.mono ?_
        rintro e w1 ⟨rfl, hb⟩
        have HB2 : Hid (Below w.heap.size w (w1.alloc (.cells #[.int .u8 fk, .int .i64 0, .int .i64 0, .int .i64 0] 29))) := Lib.hid ((HB.out.trans (hb.mono HB.out.size)).alloc (Nat.le_trans HB.out.size hb.size) _)
        clear hb
        go_wp2_with fail
        go_ret2
        exact ⟨_, rfl, (fun h => by cases h), HB2.out⟩
      | true =>
        rw [(kind_first hkx).1, (kind_first hkx).2] at HC
        have HKX := Lib.hid hkx
        have HLN : Hid ((l.take k).length = k) := Lib.hid (by rw [List.length_take]; omega)
        have HNX : Hid ((l.take (k + 1)) = l.take k ++ [x]) := Lib.hid (by rw [take_succ_getD (d := 0) hlt, HE.out])
        clear hkx
        go_wp2_with fail
        refine HC.out.mono ?_
        rintro e w1 ⟨rfl, hb⟩
        have HB1 := Lib.hid (HB.out.trans (hb.mono HB.out.size))
        have hO1 := HO.out.keep hb
        have hb2 : Below w1.heap.size w1 (w1.alloc (.cells #[.int .u8 x, .int .i64 0, .int .i64 0, .int .i64 0] 29)) := (Below.refl _ _).alloc (Nat.le_refl _) _
        have HO2 := Lib.hid (hO1.keep hb2)
        have HB2 := Lib.hid (HB1.out.trans (hb2.mono HB1.out.size))
        have hO3 := HO2.out.base
        clear hb hb2 hO1
        go_wp2_with (at_builtin; refine wpList_appV1 rfl (.tmp 24) (.tmp 26) rfl w.heap.size _ ((l.take k).map firstV) rfl (firstV x) HO2.out (by rw [World.size_alloc]; rfl) (by rw [List.length_map, HLN.out]; omega) HB2.out.size ?_; intro v' w3 hown3 hg3; refine pause ?_)
        have HB3 := Lib.hid (Below.grown (HB2.out.alloc HB2.out.size _) hg3 (HB2.out.alloc HB2.out.size _).size hO3)
        have HO3 : Hid (OwnVals w3 w.heap.size v' ((l.take (k + 1)).map firstV)) := Lib.hid (by rw [HNX.out, List.map_append]; exact hown3)
        have HA3 : Hid ((l.take (k + 1)).all kindOk = true) := Lib.hid (by rw [HNX.out, List.all_append, HA.out]; simp [HKX.out])
        clear hown3 hg3 hO3
        refine resume ?_
        go_wp2_with fail
        go_roundw
        case rel => exact ⟨k + 1, by omega, by go_num, HA3, HO3, HB3⟩
        case measure => simp [intOf]; omega
    · have HAL : Hid (l.all kindOk = true) := Lib.hid (by have := HA.out; rwa [List.take_of_length_le (by omega)] at this)
      obtain rfl : ok = true := HOK.out.symm.trans HAL.out
      have HO3 := Lib.hid (show OwnVals wr w.heap.size _ (l.map firstV) by have := HO.out; rwa [List.take_of_length_le (by omega)] at this)
      go_wp2_with fail
      go_ret2
      exact ⟨_, by rfl, (by first | exact HO3.out | exact fun _ => HO3.out), HB.out⟩
end Go.Proofs.Ythddacnnhmcoaaa
