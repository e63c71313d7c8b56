/-
  The document's Ranks, Ties, Tied.
-/
import Derived.Test.YtohoihicmmidmaaKnRef3
namespace Go.Proofs.Ytohoihicmmidmaa
set_option linter.unusedVariables false
set_option linter.unusedSimpArgs false
open Go.ChangeShapes Go.WideShapes Go.ChangeAt Go.RowKit Kn

noncomputable def ranksG (n : Int) (l : List (Int × Int)) : List Int := if checkG n l = 0 then nI (ranksL (Arr l) n.toNat) else []
theorem ranksL_len (E : Nat → Nat → Prop) (n : Nat) : (ranksL E n).length = n := by simp [ranksL]
theorem rranks_any {w : World} {A : Option Addr} {c : Nat} {l : List (Int × Int)} (hx : GIn w A c l) (n : Int) :
    Calls Try.prog 16 #[.int .i64 n, .slice A l.length c] w (SomeIntsE (ranksG n l) (checkG n l) w) := by
  have HX := Lib.hid hx
  have HC := Lib.hid (rheads_any hx n)
  clear hx
  obtain ⟨e0, he0⟩ : ∃ e0, checkG n l = e0 := ⟨_, rfl⟩
  rw [he0] at HC ⊢
  by_cases h0 : e0 = 0
  · subst h0
    obtain ⟨hn0, hn, hl, hok⟩ := check_ok he0
    obtain ⟨m, rfl⟩ := Int.eq_ofNat_of_zero_le hn0
    rw [Int.toNat_natCast] at hok
    have HG : Hid (ranksG (m : Int) l = nI (ranksL (Arr l) m)) := Lib.hid (by unfold ranksG; rw [if_pos he0, Int.toNat_natCast])
    have HH : Hid (headsG (m : Int) l = nI (headsL (Arr l) m)) := Lib.hid (by unfold headsG; rw [if_pos he0, Int.toNat_natCast])
    have HOK := Lib.hid hok
    have hm : m ≤ 1000 := by omega
    rw [HH.out] at HC
    clear he0 hok
    go_enter Try.func16, Try.ntmps16
    go_wp2_with fail
    refine HC.out.mono ?_
    rintro e w1 ⟨v, rfl, hown, hb1⟩
    have HB1 := Lib.hid hb1
    obtain ⟨A1, c1, rfl, hh1, hi1⟩ := hown.full
    rw [nI_len, headsL_len] at hh1 ⊢
    have HR := Lib.hid (ranked_any (HX.out.on hb1) hm HOK.out hh1 hi1)
    clear hb1 hown hh1 hi1
    go_wp2_with fail
    refine HR.out.mono ?_
    rintro e w2 ⟨rfl, hbk, hb2⟩
    have HBK := Lib.hid hbk
    have HB2 := Lib.hid (HB1.out.trans (hb2.mono HB1.out.size))
    clear hbk hb2
    go_wp2_with fail
    go_ret2
    exact ⟨_, rfl, by rw [HG.out]; exact (HBK.out.own (lo := w.heap.size) HB1.out.size (by rw [nI_len, ranksL_len]; unfold maxLen; omega)), HB2.out⟩
  · have HG : Hid (ranksG n l = []) := Lib.hid (by unfold ranksG; rw [if_neg (by rw [he0]; exact h0)])
    have hne : (e0 == 0) = false := by simpa using h0
    have hne2 : (e0 != 0) = true := by simpa using h0
    clear he0
    go_enter Try.func16, Try.ntmps16
    go_wp2_with fail
    refine HC.out.mono ?_
    rintro e w1 ⟨v, rfl, hown, hb1⟩
    have HB1 := Lib.hid hb1
    clear hb1 hown
    go_wp2_with fail
    go_ret2
    exact ⟨_, rfl, by rw [HG.out]; exact OwnInts.nil _ _, HB1.out⟩
noncomputable def tieA (l : List (Int × Int)) (a : Nat) (p : Int × Int) : Bool := p.1 == (a : Int) && wayB (Arr l) p.2.toNat a
set_option maxHeartbeats 800000 in
theorem ties_any {w : World} {A : Option Addr} {c : Nat} {l : List (Int × Int)} {n a : Nat} (hx : GIn w A c l) (hn : n ≤ 1000) (hok : okG n l) (ha : a < n) :
    Calls Try.prog 29 #[.int .i64 n, .slice A l.length c, .int .i64 a] w fun e w' => e = .returned (.bool (tiesB l a)) ∧ Below w.heap.size w w' := by
  have hl := hx.len
  have HX := Lib.hid hx
  have HOK := Lib.hid hok
  clear hx hok
  go_enter Try.func29, Try.ntmps29
  go_wp2_with fail
  go_loopw [7] (fun i wr => ∃ k : Nat, k ≤ l.length ∧ i = .int .i64 k ∧ Hid (AllTo (fun x => !tieA l a x) l k) ∧ Below w.heap.size w wr) (fun i _ => l.length - (intOf i).toNat)
  case atStart => exact ⟨0, Nat.zero_le _, rfl, Lib.hid (AllTo.zero _ _), Below.refl _ _⟩
  case round =>
    obtain ⟨k, hk, rfl, HA, hbel⟩ := hrel
    have HB := Lib.hid hbel
    clear hbel
    by_cases hlt : k < l.length
    · obtain ⟨b, off, p, q, rfl, hbk, v0, v1, HE⟩ := (HX.out.on HB.out).elem hlt
      obtain ⟨he, hpm⟩ := getA hlt HE.out
      obtain ⟨x, y, hx, hy, e1, har⟩ := arr_at HOK.out hpm
      injection e1 with e1 e2
      subst e1 e2
      clear he hpm har
      by_cases hxa : x = a
      · subst hxa
        obtain ⟨q, hq⟩ : ∃ q, wayB (Arr l) y x = q := ⟨_, rfl⟩
        have HT : Hid (tieA l x ((x : Int), (y : Int)) = q) := Lib.hid (by unfold tieA; simp [hq])
        have HCM := Lib.hid (come_any (HX.out.on HB.out) hn HOK.out hy)
        have HQ := Lib.hid hq
        clear hq
        go_wp2_with fail
        refine HCM.out.mono ?_
        rintro e w1 ⟨rfl, hbb, hb1⟩
        rw [comeL_len]
        have HB1 := Lib.hid (HB.out.trans (hb1.mono HB.out.size))
        have cx := hbb.at_ (i := x) (by rw [comeL_len]; exact hx)
        rw [comeL_at _ hx, HQ.out] at cx
        clear hbb hb1
        cases q with
        | false =>
          go_wp2_with fail
          go_roundw
          case rel => exact ⟨k + 1, by omega, by go_num, Lib.hid (HA.out.step (d := (0, 0)) hlt (by rw [HE.out, HT.out]; rfl)), HB1.out⟩
          case measure => simp [intOf]; omega
        | true =>
          have HR : Hid (tiesB l x = true) := Lib.hid (any_of_some (P := tieA l x) hlt (by rw [HE.out, HT.out]))
          go_wp2_with fail
          go_ret
          exact ⟨ret_bool HR.out.symm, HB1.out⟩
      · have hne : ((x : Int) == (a : Int)) = false := by simp; omega
        have HT : Hid (tieA l a ((x : Int), (y : Int)) = false) := Lib.hid (by unfold tieA; simp; omega)
        clear hxa
        go_wp2_with fail
        go_roundw
        case rel => exact ⟨k + 1, by omega, by go_num, Lib.hid (HA.out.step (d := (0, 0)) hlt (by rw [HE.out, HT.out]; rfl)), HB.out⟩
        case measure => simp [intOf]; omega
    · have HR : Hid (tiesB l a = false) := Lib.hid (any_of_none (P := tieA l a) HA.out (by omega))
      go_wp2_with fail
      go_ret
      exact ⟨ret_bool HR.out.symm, HB.out⟩
/-- Tied's error; its answer. -/
def tiedE (n : Int) (l : List (Int × Int)) (a : Int) : Int := if checkG n l = 0 then (if a < 0 ∨ n ≤ a then 2 else 0) else checkG n l
noncomputable def tiedA (n : Int) (l : List (Int × Int)) (a : Int) : Bool := if tiedE n l a = 0 then tiesB l a.toNat else false
theorem rtied_any {w : World} {A : Option Addr} {c : Nat} {l : List (Int × Int)} (hx : GIn w A c l) (n a : Int) :
    Calls Try.prog 17 #[.int .i64 n, .slice A l.length c, .int .i64 a] w fun e w' => e = .returned (.tuple #[.bool (tiedA n l a), .int .i64 (tiedE n l a)]) ∧ Below w.heap.size w w' := by
  have HX := Lib.hid hx
  have HC := Lib.hid (rcheck_any hx n)
  clear hx
  obtain ⟨e0, he0⟩ : ∃ e0, checkG n l = e0 := ⟨_, rfl⟩
  rw [he0] at HC
  have HE0 := Lib.hid he0
  by_cases h0 : e0 = 0
  · subst h0
    by_cases hs : a < 0
    · have HR : Hid (tiedE n l a = 2 ∧ tiedA n l a = false) := Lib.hid (by
        have : tiedE n l a = 2 := by unfold tiedE; rw [if_pos HE0.out, if_pos (.inl hs)]
        exact ⟨this, by unfold tiedA; rw [this]; rfl⟩)
      rw [HR.out.1, HR.out.2]
      clear he0
      go_enter Try.func17, Try.ntmps17
      go_wp2_with fail
      refine HC.out.mono ?_
      rintro e w1 ⟨rfl, hb1⟩
      have HB1 := Lib.hid hb1
      clear hb1
      go_wp2_with fail
      go_ret2
      exact ⟨rfl, HB1.out⟩
    by_cases hg : n ≤ a
    · have HR : Hid (tiedE n l a = 2 ∧ tiedA n l a = false) := Lib.hid (by
        have : tiedE n l a = 2 := by unfold tiedE; rw [if_pos HE0.out, if_pos (.inr hg)]
        exact ⟨this, by unfold tiedA; rw [this]; rfl⟩)
      rw [HR.out.1, HR.out.2]
      clear he0
      go_enter Try.func17, Try.ntmps17
      go_wp2_with fail
      refine HC.out.mono ?_
      rintro e w1 ⟨rfl, hb1⟩
      have HB1 := Lib.hid hb1
      clear hb1
      go_wp2_with fail
      go_ret2
      exact ⟨rfl, HB1.out⟩
    obtain ⟨hn0, hn, hl, hok⟩ := check_ok he0
    obtain ⟨m, rfl⟩ := Int.eq_ofNat_of_zero_le hn0
    obtain ⟨z, rfl⟩ := Int.eq_ofNat_of_zero_le (show 0 ≤ a by omega)
    rw [Int.toNat_natCast] at hok
    have HR : Hid (tiedE (m : Int) l (z : Int) = 0 ∧ tiedA (m : Int) l (z : Int) = tiesB l z) := Lib.hid (by
      have : tiedE (m : Int) l (z : Int) = 0 := by unfold tiedE; rw [if_pos HE0.out, if_neg (by omega)]
      exact ⟨this, by unfold tiedA; rw [this, if_pos rfl, Int.toNat_natCast]⟩)
    rw [HR.out.1, HR.out.2]
    have HOK := Lib.hid hok
    have hm : m ≤ 1000 := by omega
    have hz : z < m := by omega
    clear he0 hok
    go_enter Try.func17, Try.ntmps17
    go_wp2_with fail
    refine HC.out.mono ?_
    rintro e w1 ⟨rfl, hb1⟩
    have HB1 := Lib.hid hb1
    have HT := Lib.hid (ties_any (HX.out.on hb1) hm HOK.out hz)
    clear hb1
    go_wp2_with fail
    refine HT.out.mono ?_
    rintro e w2 ⟨rfl, hb2⟩
    have HB2 := Lib.hid (HB1.out.trans (hb2.mono HB1.out.size))
    clear hb2
    go_wp2_with fail
    go_ret2
    exact ⟨rfl, HB2.out⟩
  · have HR : Hid (tiedE n l a = e0 ∧ tiedA n l a = false) := Lib.hid (by
      have : tiedE n l a = e0 := by unfold tiedE; rw [if_neg (by rw [he0]; exact h0), he0]
      exact ⟨this, by unfold tiedA; rw [this, if_neg h0]⟩)
    rw [HR.out.1, HR.out.2]
    have hne : (e0 == 0) = false := by simpa using h0
    have hne2 : (e0 != 0) = true := by simpa using h0
    clear he0
    go_enter Try.func17, Try.ntmps17
    go_wp2_with fail
    refine HC.out.mono ?_
    rintro e w1 ⟨rfl, hb1⟩
    have HB1 := Lib.hid hb1
    clear hb1
    go_wp2_with fail
    go_ret2
    exact ⟨rfl, HB1.out⟩
end Go.Proofs.Ytohoihicmmidmaa
