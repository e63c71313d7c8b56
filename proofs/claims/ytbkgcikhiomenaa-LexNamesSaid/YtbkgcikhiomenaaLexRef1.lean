/-
  The reference's cut.
-/
import Derived.Test.YtbkgcikhiomenaaLexData
namespace Go.Proofs.Ytbkgcikhiomenaa
set_option linter.unusedVariables false
set_option linter.unusedSimpArgs false
open Go.ChangeShapes Go.WideShapes Go.ChangeAt Go.RowKit

theorem drop_at (s : ByteArray) {k : Nat} (h : k < s.size) : (toL s).drop k = (s[k]'h) :: (toL s).drop (k + 1) := by
  have h1 : k < (toL s).length := by rw [toL_size]; exact h
  rw [List.drop_eq_getElem_cons h1]
  have h2 := toL_at s h
  rw [List.getElem?_eq_getElem h1] at h2
  rw [Option.some.inj h2]
theorem take_on (s : ByteArray) {m k : Nat} (hm : m ≤ k) (h : k < s.size) : ((toL s).drop m).take (k + 1 - m) = ((toL s).drop m).take (k - m) ++ [s[k]'h] := by
  rw [show k + 1 - m = (k - m) + 1 by omega, List.take_add_one, List.getElem?_drop, show m + (k - m) = k by omega, toL_at s h]
  rfl
set_option maxRecDepth 100000 in
set_option maxHeartbeats 1600000 in
theorem cut_any (s : ByteArray) (x : UInt8) (hs : s.size ≤ 100000) (w : World) : Calls Try.prog 22 #[.string s, .int .u8 x.toNat] w (SomeStrs (cutB x (toL s)) w) := by
  go_enter Try.func22, Try.ntmps22
  go_wp2_with fail
  go_loopw [5, 6, 7] (fun v f i wr => ∃ (m k : Nat) (xs : List ByteArray), m ≤ k ∧ k ≤ s.size ∧ xs.length ≤ k ∧ f = .int .i64 m ∧ i = .int .i64 k ∧ Hid (OwnStrs wr w.heap.size v xs) ∧ Hid (cutB x (toL s) = xs.map toL ++ cutWith x (((toL s).drop m).take (k - m)) ((toL s).drop k)) ∧ Hid (Below w.heap.size w wr)) (fun _ _ i _ => s.size - (intOf i).toNat)
  case atStart => exact ⟨0, 0, [], Nat.le_refl _, Nat.zero_le _, Nat.zero_le _, rfl, rfl, Lib.hid (OwnStrs.nil _ _), Lib.hid (by simp [cutWith_nil]), Lib.hid (Below.refl _ _)⟩
  case round =>
    obtain ⟨m, k, xs, hm, hk, hl, rfl, rfl, HO, HT, HB⟩ := hrel
    by_cases hlt : k < s.size
    · have hltz : (k : Int) < (s.size : Int) := by omega
      by_cases hc : s[k]'hlt = x
      · have HT1 : Hid (cutB x (toL s) = (xs ++ [s.extract m k]).map toL ++ cutWith x (((toL s).drop (k + 1)).take (k + 1 - (k + 1))) ((toL s).drop (k + 1))) := Lib.hid (by
          have := HT.out
          rw [drop_at s hlt, hc, cutWith_at] at this
          rw [this, List.map_append, List.append_assoc, Nat.sub_self, List.take_zero]
          show _ = _ ++ ([toL (s.extract m k)] ++ _)
          rw [toL_extract s hk]
          rfl)
        go_wp2_with (at_builtin; refine wpList_appT rfl (.tmp 19) (.tmp 24) rfl w.heap.size _ xs rfl (s.extract m k) HO.out (by rfl) (by omega) HB.out.size ?_; intro v' w1 hown hg; refine pause ?_)
        have HB1 := Lib.hid (Below.grown (HB.out.alloc HB.out.size _) hg (HB.out.alloc HB.out.size _).size HO.out.base)
        have HO1 := Lib.hid hown
        clear hown hg
        refine resume ?_
        go_wp2_with fail
        go_roundw
        case rel => exact ⟨k + 1, k + 1, xs ++ [s.extract m k], Nat.le_refl _, by omega, by rw [List.length_append]; show xs.length + 1 ≤ k + 1; omega, by go_num, by go_num, HO1, HT1, HB1⟩
        case measure => simp [intOf]; omega
      · have HT1 : Hid (cutB x (toL s) = xs.map toL ++ cutWith x (((toL s).drop m).take (k + 1 - m)) ((toL s).drop (k + 1))) := Lib.hid (by
          have := HT.out
          rw [drop_at s hlt, cutWith_on hc] at this
          rw [this, take_on s hm hlt])
        have hne : (((s[k]'hlt).toNat : Int) == (x.toNat : Int)) = false := by
          rw [beq_eq_false_iff_ne]
          intro e
          exact hc (UInt8.toNat_inj.1 (by omega))
        go_wp2_with fail
        go_roundw
        case rel => exact ⟨m, k + 1, xs, by omega, by omega, by omega, rfl, by go_num, HO, HT1, HB⟩
        case measure => simp [intOf]; omega
    · obtain rfl : k = s.size := by omega
      have HT1 : Hid ((xs ++ [s.extract m s.size]).map toL = cutB x (toL s)) := Lib.hid (by
        have := HT.out
        rw [show (toL s).drop s.size = [] from List.drop_eq_nil_of_le (by rw [toL_size]; exact Nat.le_refl _), cutWith_end] at this
        rw [this, List.map_append]
        show _ ++ [toL (s.extract m s.size)] = _
        rw [toL_extract s (Nat.le_refl _)])
      go_wp2_with (at_builtin; refine wpList_appT rfl (.tmp 28) (.tmp 32) rfl w.heap.size _ xs rfl (s.extract m s.size) HO.out (by rfl) (by omega) HB.out.size ?_; intro v' w1 hown hg; refine pause ?_)
      have HB1 := Lib.hid (Below.grown (HB.out.alloc HB.out.size _) hg (HB.out.alloc HB.out.size _).size HO.out.base)
      have HO1 := Lib.hid hown
      clear hown hg
      refine resume ?_
      go_wp2_with fail
      go_ret
      exact ⟨_, _, rfl, HO1.out, HT1.out, HB1.out⟩
end Go.Proofs.Ytbkgcikhiomenaa
