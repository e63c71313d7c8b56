/-
  The walk of the law KnotBoth.
-/
import Derived.Test.YtohoihicmmidmaaKnAlive
namespace Go.Proofs.Ytohoihicmmidmaa
set_option linter.unusedVariables false
set_option linter.unusedSimpArgs false
open Go.Instr
open Go.ChangeShapes Go.WideShapes Go.ChangeAt Go.RowKit Kn

theorem both_is {E : Nat → Nat → Prop} (a b : Nat) : (wayB E a b && wayB E b a) = ((headN E a : Int) == (headN E b : Int)) := by
  rw [Bool.eq_iff_iff, Bool.and_eq_true, wayB_iff, wayB_iff, ← head_same]
  simp
  omega
set_option maxRecDepth 100000 in
set_option maxHeartbeats 6400000 in
theorem walk_KnotBoth {w : World} (n : Int) {A : Option Addr} {c : Nat} {l : List (Int × Int)} (h : GIn w A c l) (a b : Int) :
    Calls Try.prog 3 #[.int .i64 n, .slice A l.length c, .int .i64 a, .int .i64 b] w fun e w' => e = .returned (.bool true) ∧ Below w.heap.size w w' := by
  have hl0 := h.len
  have H := Lib.hid h
  clear h
  go_enter Try.func3, Try.ntmps3
  go_wp2_with fail
  refine (alive_any w).mono ?_
  rintro e w1 ⟨rfl, hb1⟩
  have HB1 := Lib.hid hb1
  have H1 := Lib.hid (H.out.on hb1)
  clear hb1
  cases hg : greatG n l with
  | true =>
    have HG := Lib.hid (great_any H1.out n)
    rw [hg] at HG
    clear hg
    go_wp2_with fail
    refine HG.out.mono ?_
    rintro e w2 ⟨rfl, rfl⟩
    go_wp2_with fail
    go_ret
    exact ⟨rfl, HB1.out⟩
  | false =>
    have HG := Lib.hid (great_any H1.out n)
    rw [hg] at HG
    clear hg
    by_cases h60 : 60 < n
    · go_wp2_with fail
      refine HG.out.mono ?_
      rintro e w2 ⟨rfl, rfl⟩
      go_wp2_with fail
      go_ret
      exact ⟨rfl, HB1.out⟩
    · have HC := Lib.hid (heads_any H1.out n)
      obtain ⟨e0, he0⟩ : ∃ e0, checkG n l = e0 := ⟨_, rfl⟩
      rw [he0] at HC
      by_cases h0 : e0 = 0
      · subst h0
        obtain ⟨hn0, hn, hl, hok⟩ := check_ok he0
        obtain ⟨m, rfl⟩ := Int.eq_ofNat_of_zero_le hn0
        rw [Int.toNat_natCast] at hok
        have HGG : Hid (headsG (m : Int) l = nI (headsL (Arr l) m)) := Lib.hid (by unfold headsG; rw [if_pos he0, Int.toNat_natCast])
        rw [HGG.out] at HC
        have HOK := Lib.hid hok
        have hm : m ≤ 1000 := by omega
        clear he0 hok hn0 hn
        go_wp2_with fail
        refine HG.out.mono ?_
        rintro e w2 ⟨rfl, rfl⟩
        go_wp2_with fail
        refine HC.out.mono ?_
        rintro e w3 ⟨v3, rfl, hv3, hb3⟩
        obtain ⟨A3, c3, rfl, hh3, hi3⟩ := hv3.full
        rw [nI_len, headsL_len] at hh3 ⊢
        have HB3 := Lib.hid (HB1.out.trans (hb3.mono HB1.out.size))
        have H3 := Lib.hid (H1.out.on hb3)
        have HI3 := Lib.hid hi3
        clear hb3 hv3 hh3 hi3
        by_cases ha0 : a < 0
        · go_wp2_with fail
          go_ret
          exact ⟨rfl, HB3.out⟩
        by_cases hb0 : b < 0
        · go_wp2_with fail
          go_ret
          exact ⟨rfl, HB3.out⟩
        by_cases han : (m : Int) ≤ a
        · go_wp2_with fail
          go_ret
          exact ⟨rfl, HB3.out⟩
        by_cases hbn : (m : Int) ≤ b
        · go_wp2_with fail
          go_ret
          exact ⟨rfl, HB3.out⟩
        obtain ⟨x, rfl⟩ := Int.eq_ofNat_of_zero_le (show 0 ≤ a by omega)
        obtain ⟨y, rfl⟩ := Int.eq_ofNat_of_zero_le (show 0 ≤ b by omega)
        have hx : x < m := by omega
        have hy : y < m := by omega
        have HCA := Lib.hid (come_any H3.out hm HOK.out hx)
        obtain ⟨p, hp⟩ : ∃ p, wayB (Arr l) x y = p := ⟨_, rfl⟩
        obtain ⟨q, hq⟩ : ∃ q, wayB (Arr l) y x = q := ⟨_, rfl⟩
        have HP := Lib.hid hp
        have HQ := Lib.hid hq
        have HPQ : Hid ((p && q) = ((headN (Arr l) x : Int) == (headN (Arr l) y : Int))) := Lib.hid (by rw [← hp, ← hq]; exact both_is x y)
        clear hp hq ha0 hb0 han hbn
        -- what follows behind the two calls
        have hend : ∀ w5 : World, Below w3.heap.size w3 w5 → Below w.heap.size w w5 ∧
            (∃ bb off, A3 = some ⟨bb, off, none⟩ ∧ w5.cell? ⟨bb, off + x, none⟩ = some (.int .i64 (headN (Arr l) x : Int)) ∧ w5.cell? ⟨bb, off + y, none⟩ = some (.int .i64 (headN (Arr l) y : Int)) ∧ w5.cell? ⟨bb, off + headN (Arr l) x, none⟩ = some (.int .i64 (headN (Arr l) x : Int))) := fun w5 hb5 => by
          refine ⟨HB3.out.trans (hb5.mono HB3.out.size), ?_⟩
          have hle := head_le (Arr l) x
          obtain ⟨bb, off, z, e1, d1, E1⟩ := HI3.out.cell (k := x) (by rw [nI_len, headsL_len]; exact hx)
          obtain ⟨bb2, off2, z2, e2, d2, E2⟩ := HI3.out.cell (k := y) (by rw [nI_len, headsL_len]; exact hy)
          obtain ⟨bb3, off3, z3, e3, d3, E3⟩ := HI3.out.cell (k := headN (Arr l) x) (by rw [nI_len, headsL_len]; omega)
          rw [e1] at e2 e3
          injection e2 with e2
          injection e2 with q1 q2 _
          injection e3 with e3
          injection e3 with q3 q4 _
          subst q1 q2 q3 q4
          rw [← E1.out, nI_at, headsL_at _ hx] at d1
          rw [← E2.out, nI_at, headsL_at _ hy] at d2
          rw [← E3.out, nI_at, headsL_at _ (by omega), head_head] at d3
          exact ⟨bb, off, e1, (hb5.cell (p := ⟨bb, off + x, none⟩) (World.block_lt_of_cell? _ _ d1)).trans d1, (hb5.cell (p := ⟨bb, off + y, none⟩) (World.block_lt_of_cell? _ _ d2)).trans d2, (hb5.cell (p := ⟨bb, off + headN (Arr l) x, none⟩) (World.block_lt_of_cell? _ _ d3)).trans d3⟩
        have HEND := Lib.hid hend
        have hle := head_le (Arr l) x
        have hle2 := head_le (Arr l) y
        clear hend
        go_wp2_with fail
        refine HCA.out.mono ?_
        rintro e w4 ⟨rfl, hbb, hb4⟩
        rw [comeL_len]
        have HB4 := Lib.hid hb4
        have cx := hbb.at_ (i := y) (by rw [comeL_len]; exact hy)
        rw [comeL_at _ hy, HP.out] at cx
        have HCB := Lib.hid (come_any (H3.out.on hb4) hm HOK.out hy)
        clear hbb hb4
        have hu0 : (0 : Int) ≤ (headN (Arr l) x : Int) := Int.natCast_nonneg _
        have hux : (headN (Arr l) x : Int) ≤ (x : Int) := by omega
        have hr := HPQ.out.symm
        have hum : headN (Arr l) x < m := by omega
        generalize headN (Arr l) x = u at *
        generalize headN (Arr l) y = v at *
        clear hle hle2
        have d1 : decide ((u : Int) ≤ (x : Int)) = true := by simp; omega
        have d2 : decide ((0 : Int) ≤ (u : Int)) = true := by simp
        cases p with
        | false =>
          rw [Bool.false_and] at hr
          obtain ⟨hbe, bb, off, rfl, k1, k2, k3⟩ := HEND.out _ HB4.out
          have HBE := Lib.hid hbe
          clear hbe
          go_wp2_with fail
          go_quiet (fail)
          go_wp2_with fail
          go_ret
          exact ⟨rfl, belowDrewN HBE.out _⟩
        | true =>
          rw [Bool.true_and] at hr
          go_wp2_with fail
          refine HCB.out.mono ?_
          rintro e w5 ⟨rfl, hbb, hb5⟩
          rw [comeL_len]
          have cy := hbb.at_ (i := x) (by rw [comeL_len]; exact hx)
          rw [comeL_at _ hx, HQ.out] at cy
          obtain ⟨hbe, bb, off, rfl, k1, k2, k3⟩ := HEND.out _ (HB4.out.trans (hb5.mono HB4.out.size))
          have HBE := Lib.hid hbe
          clear hbe hbb hb5 cx
          cases q with
          | false =>
            go_wp2_with fail
            go_quiet (fail)
            go_wp2_with fail
            go_ret
            exact ⟨rfl, belowDrewN HBE.out _⟩
          | true =>
            go_wp2_with fail
            go_quiet (fail)
            go_wp2_with fail
            go_ret
            exact ⟨rfl, belowDrewN HBE.out _⟩
      · have HGG : Hid (headsG n l = []) := Lib.hid (by unfold headsG; rw [if_neg (by rw [he0]; exact h0)])
        rw [HGG.out] at HC
        have hne : (e0 == 0) = false := by simpa using h0
        have hne2 : (e0 != 0) = true := by simpa using h0
        clear he0
        go_wp2_with fail
        refine HG.out.mono ?_
        rintro e w2 ⟨rfl, rfl⟩
        go_wp2_with fail
        refine HC.out.mono ?_
        rintro e w3 ⟨v3, rfl, hv3, hb3⟩
        obtain ⟨A3, c3, rfl, _⟩ := hv3.full
        have HB3 := Lib.hid (HB1.out.trans (hb3.mono HB1.out.size))
        clear hb3 hv3
        go_wp2_with fail
        go_ret
        exact ⟨rfl, HB3.out⟩
end Go.Proofs.Ytohoihicmmidmaa
