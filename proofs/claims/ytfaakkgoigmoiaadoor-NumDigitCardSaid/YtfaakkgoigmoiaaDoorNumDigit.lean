/-
  The walk of the law NumDigit.
-/
import Derived.Test.YtfaakkgoigmoiaaDoorNumAlive
import Derived.Deep.RegionWith
namespace Go.Proofs.YtfaakkgoigmoiaaDoor
set_option linter.unusedVariables false
open Go.ChangeShapes Go.WideShapes Go.ChangeAt Go.RowKit Go.Lib

theorem cat_list (l : List UInt8) (k : Nat) : ((⟨l.toArray⟩ : ByteArray) ++ ⟨[dgc k].toArray⟩).data.toList = l ++ [dgc k] := by
  simp [ByteArray.data_append]
theorem dgc_dec {u k : Nat} (hk : k < 10) (hu : 1 ≤ u) : decDigits (10 * u + k) = decDigits u ++ [dgc k] := by
  rw [dec_big (by omega), show (10 * u + k) / 10 = u by omega, show (10 * u + k) % 10 = k by omega]
  unfold dgc
  rw [show k % 10 = k by omega]
theorem num_up {n : Int} {k : Nat} (hk : k < 10) (h0 : 0 < n) (h1 : n ≤ 922337203685477570) : NumOf ((⟨(itoa n).toArray⟩ : ByteArray) ++ ⟨[dgc k].toArray⟩).data.toList (10 * n + k) := by
  refine ⟨⟨by omega, by omega⟩, ?_⟩
  rw [cat_list, itoa_pos (by omega), itoa_pos (by omega), show (10 * n + (k : Int)).toNat = 10 * n.toNat + k by omega, dgc_dec hk (by omega)]
theorem num_down {n : Int} {k : Nat} (hk : k < 10) (h0 : n < 0) (h1 : -922337203685477570 ≤ n) : NumOf ((⟨(itoa n).toArray⟩ : ByteArray) ++ ⟨[dgc k].toArray⟩).data.toList (10 * n - k) := by
  refine ⟨⟨by omega, by omega⟩, ?_⟩
  rw [cat_list, itoa_neg' (by omega), itoa_neg' h0, show (10 * n - (k : Int)).natAbs = 10 * n.natAbs + k by omega, dgc_dec hk (by omega)]; rfl
theorem num_zero (k : Nat) (m : Int) : ¬ NumOf ((⟨(itoa 0).toArray⟩ : ByteArray) ++ ⟨[dgc k].toArray⟩).data.toList m := fun h => by
  rw [cat_list, itoa_zero] at h
  rcases numOf_form h with ⟨⟨_, _, h1 | h1⟩, _⟩ | ⟨r, h1, _⟩
  · simp at h1
  · exact h1 rfl
  · have := List.head_eq_of_cons_eq h1
    exact absurd this (by decide)
theorem digit_at (wr : World) (k : Nat) (hk : k < 10) : (convert 32 9 (.slice (some ⟨wr.heap.size, 0, none⟩) 1 1)).run Tryd.prog (wr.alloc (.cells #[.int .u8 (48 + (k : Int))] 5)) =
    .ok (.string ⟨[dgc k].toArray⟩) (wr.alloc (.cells #[.int .u8 (48 + (k : Int))] 5)) := by
  have := digit_cell wr k
  rwa [show ((k : Int) % 10) = k by omega] at this

theorem digit_blk (wr : World) (k g : Nat) (hk : k < 10) (B : Blk wr g 5 #[.int .u8 (48 + (k : Int))]) : (convert 32 9 (.slice (some ⟨g, 0, none⟩) 1 1)).run Tryd.prog wr =
    .ok (.string ⟨[dgc k].toArray⟩) wr := by
  refine run_convert_bytes_back (P := Tryd.prog) _ 32 9 5 ⟨g, 0, none⟩ 1 [dgc k] Tryd.underlying32 Tryd.underlying5 Tryd.underlying9 ?_
  intro j hj
  have hj0 : j = 0 := by simp at hj; omega
  subst hj0
  rw [add_lit0]
  rw [B.cells 0]
  show some (Value.int .u8 (48 + (k : Int))) = some (Value.int .u8 ((dgc k).toNat : Int))
  unfold dgc
  rw [toNat_digit (u := k % 10) (by omega), show k % 10 = k by omega]
  congr 2

theorem und {w w' : World} (h : Below w.drew.heap.size w.drew w') : Below w.heap.size w w' := ⟨h.os, h.tape, h.output, h.size, h.block⟩
theorem shut {w w1 w2 w3 : World} (b1 : Below w.heap.size w w1) (b2 : Below w1.heap.size w1 w2) (b3 : Below w2.heap.size w2 w3) : Below w.heap.size w w3 :=
  (b1.trans (b2.mono b1.size)).trans (b3.mono (b1.trans (b2.mono b1.size)).size)
theorem itoa_len {n : Int} (h : In64n n) : (itoa n).length ≤ 20 := by
  rcases numOf_form (l := itoa n) ⟨h, rfl⟩ with ⟨h1, _, h2⟩ | ⟨r, h1, h2, _, _, h3⟩
  · have := canon_len h1 (by omega); omega
  · rw [h1]; have := canon_len h2 h3; simp; omega

set_option maxHeartbeats 1000000 in
theorem walk_NumDigit (n d : Int) (w : World) (w0 : (Lit.int .i64 n).wf = true) (w1 : (Lit.int .u8 d).wf = true) (htab : Tab w) :
    Calls Tryd.prog 6 #[.int .i64 n, .int .u8 d] w fun e w' => e = .returned (.bool true) ∧ Below w.heap.size w w' := by
  have HN := Lib.hid (in64n_of w0)
  clear w0
  have hd0 : 0 ≤ d := by
    simp only [Lit.wf, Bool.and_eq_true, decide_eq_true_eq] at w1
    have : IntKind.u8.min = 0 := by decide
    omega
  clear w1
  by_cases g1 : 9 < d
  · clear hd0
    go_enter Tryd.func6, Tryd.ntmps6
    go_wp2_with fail
    refine (alive_is _ htab).mono ?_
    rintro e w1 ⟨rfl, hb1⟩
    have b1 := hb1
    go_wp2_with fail
    go_ret
    exact ⟨rfl, b1⟩
  have g1' : d ≤ 9 := by omega
  by_cases g2 : 922337203685477570 < n
  · clear hd0 g1
    go_enter Tryd.func6, Tryd.ntmps6
    go_wp2_with fail
    refine (alive_is _ htab).mono ?_
    rintro e w1 ⟨rfl, hb1⟩
    have b1 := hb1
    go_wp2_with fail
    go_ret
    exact ⟨rfl, b1⟩
  have g2' : n ≤ 922337203685477570 := by omega
  by_cases g3 : n < -922337203685477570
  · clear hd0 g1 g2
    go_enter Tryd.func6, Tryd.ntmps6
    go_wp2_with fail
    refine (alive_is _ htab).mono ?_
    rintro e w1 ⟨rfl, hb1⟩
    have b1 := hb1
    go_wp2_with fail
    go_ret
    exact ⟨rfl, b1⟩
  have g3' : -922337203685477570 ≤ n := by omega
  obtain ⟨k, rfl⟩ := Int.eq_ofNat_of_zero_le hd0
  have hk : k < 10 := by omega
  clear hd0 g1 g2 g3
  have m0 : wrap64 (k : Int) = k := by unfold wrap64; omega
  have m1 : wrap64 (10 * n) = 10 * n := by unfold wrap64; omega
  have m5 : IntKind.u8.wrap (48 + (k : Int)) = 48 + (k : Int) := by rw [IntKind.wrap_u8]; omega
  rcases Int.lt_trichotomy n 0 with hn | rfl | hn
  · have HX := Lib.hid (num_down hk hn g3')
    have m2 : wrap64 (10 * n - k) = 10 * n - k := by unfold wrap64; omega
    go_enter Tryd.func6, Tryd.ntmps6
    go_wp2_with fail
    refine (alive_is _ htab).mono ?_
    rintro e w1 ⟨rfl, hb1⟩
    have b1 := hb1
    have T1 : Tab w1 := htab.beneath b1
    have T2 : ∀ o, Tab (w1.alloc o) := fun o => T1.beneath (below_new (Below.refl _ _))
    have hl := itoa_len HN.out
    have hcv0 := digit_blk ((w1.alloc (.cells #[.int .u8 (48 + (k : Int))] 5)).drew) k w1.heap.size hk (Blk.new w1 5 #[.int .u8 (48 + (k : Int))]).drew
    go_wp2
    go_region_with (go_at_call 10; refine (write_is n HN.out _ (by first | exact T1 | exact T2 _)).mono ?_; rintro e w2 ⟨rfl, hb2⟩; have hcv := digit_at w2 k hk; first | have hcv2 := digit_blk w2 k w1.heap.size hk ((Blk.new w1 5 #[.int .u8 (48 + (k : Int))]).beneath hb2) | have hcv2 := digit_blk w2 k w1.heap.size hk ((Blk.new w1 5 #[.int .u8 (48 + (k : Int))]).drew.beneath hb2) | have hcv2 := digit_blk w2 k w1.heap.size hk (((Blk.new w1 5 #[.int .u8 (48 + (k : Int))]).drewN 1).beneath hb2) | skip)
    all_goals go_wp2_with fail
    all_goals refine (is_yes _ _ (by exact HX.out) _).mono ?_
    all_goals rintro e w3 ⟨rfl, hb3⟩
    all_goals go_wp2_with fail
    all_goals go_ret
    all_goals first | with_reducible exact ⟨rfl, shut b1 (hb2) (hb3)⟩ | with_reducible exact ⟨rfl, shut b1 (hb2) (und hb3)⟩ | with_reducible exact ⟨rfl, shut b1 (hb2) (below_new hb3)⟩ | with_reducible exact ⟨rfl, shut b1 (hb2) (below_new (und hb3))⟩ | with_reducible exact ⟨rfl, shut b1 (und hb2) (hb3)⟩ | with_reducible exact ⟨rfl, shut b1 (und hb2) (und hb3)⟩ | with_reducible exact ⟨rfl, shut b1 (und hb2) (below_new hb3)⟩ | with_reducible exact ⟨rfl, shut b1 (und hb2) (below_new (und hb3))⟩ | with_reducible exact ⟨rfl, shut b1 (below_new hb2) (hb3)⟩ | with_reducible exact ⟨rfl, shut b1 (below_new hb2) (und hb3)⟩ | with_reducible exact ⟨rfl, shut b1 (below_new hb2) (below_new hb3)⟩ | with_reducible exact ⟨rfl, shut b1 (below_new hb2) (below_new (und hb3))⟩ | with_reducible exact ⟨rfl, shut b1 (below_new (und hb2)) (hb3)⟩ | with_reducible exact ⟨rfl, shut b1 (below_new (und hb2)) (und hb3)⟩ | with_reducible exact ⟨rfl, shut b1 (below_new (und hb2)) (below_new hb3)⟩ | with_reducible exact ⟨rfl, shut b1 (below_new (und hb2)) (below_new (und hb3))⟩
  · have HX := Lib.hid (num_zero k)
    go_enter Tryd.func6, Tryd.ntmps6
    go_wp2_with fail
    refine (alive_is _ htab).mono ?_
    rintro e w1 ⟨rfl, hb1⟩
    have b1 := hb1
    have T1 : Tab w1 := htab.beneath b1
    have T2 : ∀ o, Tab (w1.alloc o) := fun o => T1.beneath (below_new (Below.refl _ _))
    have hl := itoa_len HN.out
    have hcv0 := digit_blk ((w1.alloc (.cells #[.int .u8 (48 + (k : Int))] 5)).drew) k w1.heap.size hk (Blk.new w1 5 #[.int .u8 (48 + (k : Int))]).drew
    go_wp2
    go_region_with (go_at_call 10; refine (write_is 0 HN.out _ (by first | exact T1 | exact T2 _)).mono ?_; rintro e w2 ⟨rfl, hb2⟩; have hcv := digit_at w2 k hk; first | have hcv2 := digit_blk w2 k w1.heap.size hk ((Blk.new w1 5 #[.int .u8 (48 + (k : Int))]).beneath hb2) | have hcv2 := digit_blk w2 k w1.heap.size hk ((Blk.new w1 5 #[.int .u8 (48 + (k : Int))]).drew.beneath hb2) | have hcv2 := digit_blk w2 k w1.heap.size hk (((Blk.new w1 5 #[.int .u8 (48 + (k : Int))]).drewN 1).beneath hb2) | skip)
    all_goals go_wp2_with fail
    all_goals refine (none_yes _ (by exact HX.out) _).mono ?_
    all_goals rintro e w3 ⟨rfl, hb3⟩
    all_goals go_wp2_with fail
    all_goals go_ret
    all_goals first | with_reducible exact ⟨rfl, shut b1 (hb2) (hb3)⟩ | with_reducible exact ⟨rfl, shut b1 (hb2) (und hb3)⟩ | with_reducible exact ⟨rfl, shut b1 (hb2) (below_new hb3)⟩ | with_reducible exact ⟨rfl, shut b1 (hb2) (below_new (und hb3))⟩ | with_reducible exact ⟨rfl, shut b1 (und hb2) (hb3)⟩ | with_reducible exact ⟨rfl, shut b1 (und hb2) (und hb3)⟩ | with_reducible exact ⟨rfl, shut b1 (und hb2) (below_new hb3)⟩ | with_reducible exact ⟨rfl, shut b1 (und hb2) (below_new (und hb3))⟩ | with_reducible exact ⟨rfl, shut b1 (below_new hb2) (hb3)⟩ | with_reducible exact ⟨rfl, shut b1 (below_new hb2) (und hb3)⟩ | with_reducible exact ⟨rfl, shut b1 (below_new hb2) (below_new hb3)⟩ | with_reducible exact ⟨rfl, shut b1 (below_new hb2) (below_new (und hb3))⟩ | with_reducible exact ⟨rfl, shut b1 (below_new (und hb2)) (hb3)⟩ | with_reducible exact ⟨rfl, shut b1 (below_new (und hb2)) (und hb3)⟩ | with_reducible exact ⟨rfl, shut b1 (below_new (und hb2)) (below_new hb3)⟩ | with_reducible exact ⟨rfl, shut b1 (below_new (und hb2)) (below_new (und hb3))⟩
  · have HX := Lib.hid (num_up hk hn g2')
    have m2 : wrap64 (10 * n + k) = 10 * n + k := by unfold wrap64; omega
    have m3 : ¬ n < 0 := by omega
    have m4 : (n == 0) = false := by simp; omega
    go_enter Tryd.func6, Tryd.ntmps6
    go_wp2_with fail
    refine (alive_is _ htab).mono ?_
    rintro e w1 ⟨rfl, hb1⟩
    have b1 := hb1
    have T1 : Tab w1 := htab.beneath b1
    have T2 : ∀ o, Tab (w1.alloc o) := fun o => T1.beneath (below_new (Below.refl _ _))
    have hl := itoa_len HN.out
    have hcv0 := digit_blk ((w1.alloc (.cells #[.int .u8 (48 + (k : Int))] 5)).drew) k w1.heap.size hk (Blk.new w1 5 #[.int .u8 (48 + (k : Int))]).drew
    go_wp2
    go_region_with (go_at_call 10; refine (write_is n HN.out _ (by first | exact T1 | exact T2 _)).mono ?_; rintro e w2 ⟨rfl, hb2⟩; have hcv := digit_at w2 k hk; first | have hcv2 := digit_blk w2 k w1.heap.size hk ((Blk.new w1 5 #[.int .u8 (48 + (k : Int))]).beneath hb2) | have hcv2 := digit_blk w2 k w1.heap.size hk ((Blk.new w1 5 #[.int .u8 (48 + (k : Int))]).drew.beneath hb2) | have hcv2 := digit_blk w2 k w1.heap.size hk (((Blk.new w1 5 #[.int .u8 (48 + (k : Int))]).drewN 1).beneath hb2) | skip)
    all_goals go_wp2_with fail
    all_goals refine (is_yes _ _ (by exact HX.out) _).mono ?_
    all_goals rintro e w3 ⟨rfl, hb3⟩
    all_goals go_wp2_with fail
    all_goals go_ret
    all_goals first | with_reducible exact ⟨rfl, shut b1 (hb2) (hb3)⟩ | with_reducible exact ⟨rfl, shut b1 (hb2) (und hb3)⟩ | with_reducible exact ⟨rfl, shut b1 (hb2) (below_new hb3)⟩ | with_reducible exact ⟨rfl, shut b1 (hb2) (below_new (und hb3))⟩ | with_reducible exact ⟨rfl, shut b1 (und hb2) (hb3)⟩ | with_reducible exact ⟨rfl, shut b1 (und hb2) (und hb3)⟩ | with_reducible exact ⟨rfl, shut b1 (und hb2) (below_new hb3)⟩ | with_reducible exact ⟨rfl, shut b1 (und hb2) (below_new (und hb3))⟩ | with_reducible exact ⟨rfl, shut b1 (below_new hb2) (hb3)⟩ | with_reducible exact ⟨rfl, shut b1 (below_new hb2) (und hb3)⟩ | with_reducible exact ⟨rfl, shut b1 (below_new hb2) (below_new hb3)⟩ | with_reducible exact ⟨rfl, shut b1 (below_new hb2) (below_new (und hb3))⟩ | with_reducible exact ⟨rfl, shut b1 (below_new (und hb2)) (hb3)⟩ | with_reducible exact ⟨rfl, shut b1 (below_new (und hb2)) (und hb3)⟩ | with_reducible exact ⟨rfl, shut b1 (below_new (und hb2)) (below_new hb3)⟩ | with_reducible exact ⟨rfl, shut b1 (below_new (und hb2)) (below_new (und hb3))⟩
end Go.Proofs.YtfaakkgoigmoiaaDoor
