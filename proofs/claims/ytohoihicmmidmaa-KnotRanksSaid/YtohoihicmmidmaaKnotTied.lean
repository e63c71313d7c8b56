/-
  The walk of the law KnotTied.
-/
import Derived.Test.YtohoihicmmidmaaKnAlive
namespace Go.Proofs.Ytohoihicmmidmaa
set_option linter.unusedVariables false
set_option linter.unusedSimpArgs false
open Go.Instr
open Go.ChangeShapes Go.WideShapes Go.ChangeAt Go.RowKit Kn

/-- Some of the first k is so. -/
def anyTo (P : Int × Int → Bool) (l : List (Int × Int)) (k : Nat) : Bool := (l.take k).any P
theorem anyTo_succ (P : Int × Int → Bool) {l : List (Int × Int)} {k : Nat} (hk : k < l.length) : anyTo P l (k + 1) = (anyTo P l k || P (l.getD k (0, 0))) := by
  unfold anyTo
  rw [take_succ_getD (d := ((0 : Int), (0 : Int))) hk, List.any_append]
  simp
theorem tied_no {n : Int} {l : List (Int × Int)} {a : Int} (h : tiedE n l a ≠ 0) : tiedA n l a = false := by
  unfold tiedA; rw [if_neg h]
theorem tied_yes {n : Int} {l : List (Int × Int)} {a : Int} (h : tiedE n l a = 0) : checkG n l = 0 ∧ 0 ≤ a ∧ a < n ∧ tiedA n l a = tiesB l a.toNat := by
  have hA : tiedA n l a = tiesB l a.toNat := by unfold tiedA; rw [if_pos h]
  unfold tiedE at h
  split at h
  · rename_i h1
    split at h
    · cases h
    · rename_i h2
      exact ⟨h1, by omega, by omega, hA⟩
  · rename_i h1
    exact absurd h h1
set_option maxRecDepth 100000 in
set_option maxHeartbeats 6400000 in
theorem walk_KnotTied {w : World} (n : Int) {A : Option Addr} {c : Nat} {l : List (Int × Int)} (h : GIn w A c l) (a : Int) :
    Calls Try.prog 7 #[.int .i64 n, .slice A l.length c, .int .i64 a] w fun e w' => e = .returned (.bool true) ∧ Below w.heap.size w w' := by
  have hl0 := h.len
  have H := Lib.hid h
  clear h
  go_enter Try.func7, Try.ntmps7
  go_wp2_with fail
  refine (alive_any w).mono ?_
  rintro e w1 ⟨rfl, hb1⟩
  have HB1 := Lib.hid hb1
  have H1 := Lib.hid (H.out.on hb1)
  clear hb1
  cases hg : greatG n l with
  | true =>
    have HG := Lib.hid (great_any H1.out n)
    rw [hg] at HG
    clear hg
    go_wp2_with fail
    refine HG.out.mono ?_
    rintro e w2 ⟨rfl, rfl⟩
    go_wp2_with fail
    go_ret
    exact ⟨rfl, HB1.out⟩
  | false =>
    have HG := Lib.hid (great_any H1.out n)
    rw [hg] at HG
    clear hg
    by_cases h60 : 60 < n
    · go_wp2_with fail
      refine HG.out.mono ?_
      rintro e w2 ⟨rfl, rfl⟩
      go_wp2_with fail
      go_ret
      exact ⟨rfl, HB1.out⟩
    · have HC := Lib.hid (tied_any H1.out n a)
      obtain ⟨te, hte⟩ : ∃ te, tiedE n l a = te := ⟨_, rfl⟩
      obtain ⟨ta, hta⟩ : ∃ ta, tiedA n l a = ta := ⟨_, rfl⟩
      rw [hte, hta] at HC
      have HTE := Lib.hid hte
      have HTA := Lib.hid hta
      clear hte hta
      by_cases h0 : te = 0
      · subst h0
        obtain ⟨hc, ha0, han, htt⟩ := tied_yes HTE.out
        obtain ⟨hn0, hn, hl, hok⟩ := check_ok hc
        obtain ⟨m, rfl⟩ := Int.eq_ofNat_of_zero_le hn0
        obtain ⟨z, rfl⟩ := Int.eq_ofNat_of_zero_le ha0
        rw [Int.toNat_natCast] at hok htt
        have HOK := Lib.hid hok
        have HTT : Hid (ta = tiesB l z) := Lib.hid (by rw [← HTA.out]; exact htt)
        have hm : m ≤ 1000 := by omega
        have hz : z < m := by omega
        clear hc hok htt ha0 han hn0 hn
        go_wp2_with fail
        refine HG.out.mono ?_
        rintro e w2 ⟨rfl, rfl⟩
        go_wp2_with fail
        refine HC.out.mono ?_
        rintro e w3 ⟨rfl, hb3⟩
        have HB3 := Lib.hid (HB1.out.trans (hb3.mono HB1.out.size))
        have H3 := Lib.hid (H1.out.on hb3)
        clear hb3
        go_wp2_with fail
        go_loopw [10, 11] (fun bv i wr => ∃ (k : Nat) (b : Bool), k ≤ l.length ∧ i = .int .i64 k ∧ bv = .bool b ∧ Hid (b = anyTo (tieA l z) l k) ∧ Below w3.heap.size w3 wr) (fun _ i _ => l.length - (intOf i).toNat)
        case atStart => exact ⟨0, false, Nat.zero_le _, rfl, rfl, Lib.hid rfl, Below.refl _ _⟩
        case round =>
          obtain ⟨k, b, hk, rfl, rfl, HA, hbr⟩ := hrel
          have HBR := Lib.hid hbr
          clear hbr
          by_cases hlt : k < l.length
          · obtain ⟨bb, off, p, q, rfl, hbk, u0, u1, HE⟩ := (H3.out.on HBR.out).elem hlt
            obtain ⟨he, hpm⟩ := getA hlt HE.out
            obtain ⟨x, y, hx, hy, e1, har⟩ := arr_at HOK.out hpm
            injection e1 with e1 e2
            subst e1 e2
            have HN : Hid (anyTo (tieA l z) l (k + 1) = (b || tieA l z ((x : Int), (y : Int)))) := Lib.hid (by rw [anyTo_succ _ hlt, HE.out, HA.out])
            clear he hpm har
            cases b with
            | true =>
              go_wp2_with fail
              go_roundw
              case rel => exact ⟨k + 1, true, by omega, by go_num, rfl, Lib.hid (by rw [HN.out]; rfl), HBR.out⟩
              case measure => simp [intOf]; omega
            | false =>
              by_cases hxz : x = z
              · subst hxz
                obtain ⟨q, hq⟩ : ∃ q, wayB (Arr l) y x = q := ⟨_, rfl⟩
                have HT : Hid (tieA l x ((x : Int), (y : Int)) = q) := Lib.hid (by unfold tieA; simp [hq])
                have HCM := Lib.hid (come_any (H3.out.on HBR.out) hm HOK.out hy)
                have HQ := Lib.hid hq
                clear hq
                go_wp2_with fail
                refine HCM.out.mono ?_
                rintro e w4 ⟨rfl, hbb, hb4⟩
                rw [comeL_len]
                have HB4 := Lib.hid (HBR.out.trans (hb4.mono HBR.out.size))
                have cx := hbb.at_ (i := x) (by rw [comeL_len]; exact hx)
                rw [comeL_at _ hx, HQ.out] at cx
                clear hbb hb4
                go_wp2_with fail
                go_roundw
                case rel => exact ⟨k + 1, q, by omega, by go_num, rfl, Lib.hid (by rw [HN.out, HT.out]; rfl), HB4.out⟩
                case measure => simp [intOf]; omega
              · have hne : ((x : Int) == (z : Int)) = false := by simp; omega
                have HT : Hid (tieA l z ((x : Int), (y : Int)) = false) := Lib.hid (by unfold tieA; simp; omega)
                clear hxz
                go_wp2_with fail
                go_roundw
                case rel => exact ⟨k + 1, false, by omega, by go_num, rfl, Lib.hid (by rw [HN.out, HT.out]; rfl), HBR.out⟩
                case measure => simp [intOf]; omega
          · have HF : Hid (b = ta) := Lib.hid (by
              rw [HA.out, HTT.out]
              unfold anyTo tiesB
              rw [List.take_of_length_le (by omega)]
              rfl)
            have HB := Lib.hid (HB3.out.trans (HBR.out.mono HB3.out.size))
            have hbt := HF.out
            subst hbt
            go_wp2_with fail
            go_ret
            exact ⟨by simp, HB.out⟩
      · have HTF := Lib.hid (tied_no (by rw [HTE.out]; exact h0))
        have htf : ta = false := by rw [← HTA.out]; exact HTF.out
        subst htf
        have hne : (te == 0) = false := by simpa using h0
        have hne2 : (te != 0) = true := by simpa using h0
        go_wp2_with fail
        refine HG.out.mono ?_
        rintro e w2 ⟨rfl, rfl⟩
        go_wp2_with fail
        refine HC.out.mono ?_
        rintro e w3 ⟨rfl, hb3⟩
        have HB3 := Lib.hid (HB1.out.trans (hb3.mono HB1.out.size))
        clear hb3
        go_wp2_with fail
        go_ret
        exact ⟨rfl, HB3.out⟩
end Go.Proofs.Ytohoihicmmidmaa
