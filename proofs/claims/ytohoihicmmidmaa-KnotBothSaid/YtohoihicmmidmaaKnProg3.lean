/-
  The program's Tied.
-/
import Derived.Test.YtohoihicmmidmaaKnProg2
namespace Go.Proofs.Ytohoihicmmidmaa
set_option linter.unusedVariables false
set_option linter.unusedSimpArgs false
open Go.ChangeShapes Go.WideShapes Go.ChangeAt Go.RowKit Kn

theorem enters_tied1 : Enters 24 := fun _ _ => by kernel_rfl
/-- What the closure tells: an arrow from a, within its knot (by places). -/
def tieP (pl : Nat → Nat) (a : Nat) (p : Int × Int) : Bool := p.1 == (a : Int) && pl p.2.toNat == pl a
theorem tied1_any {w : World} {ga gp P n a : Nat} {all : List (List Nat)} (h1 : w.cell? ⟨ga, 0, none⟩ = some (.int .i64 (a : Int))) (h2 : w.cell? ⟨gp, 0, none⟩ = some (.slice (some ⟨P, 0, none⟩) n n)) (hP : IBlk w P (nI (placeL n all))) (ha : a < n) (hn : n ≤ 1000) (x y : Nat) (hy : y < n) :
    Calls Try.prog 24 #[.agg #[.int .i64 (x : Int), .int .i64 (y : Int)], .pointer (some ⟨ga, 0, none⟩), .pointer (some ⟨gp, 0, none⟩)] w fun e w' => e = .returned (.bool (tieP (placeOf all) a ((x : Int), (y : Int)))) ∧ Below w.heap.size w w' := by
  have hb0 : Below w.heap.size w (w.alloc (.cells #[.int .i64 (x : Int), .int .i64 (y : Int)] 32)) := (Below.refl _ _).alloc (Nat.le_refl _) _
  have HB0 := Lib.hid hb0
  have z1 := World.block_lt_of_cell? _ _ h1
  have z2 := World.block_lt_of_cell? _ _ h2
  simp only at z1 z2
  have zP := hP.lt
  have c1 : (w.alloc (.cells #[.int .i64 (x : Int), .int .i64 (y : Int)] 32)).cell? ⟨ga, 0, none⟩ = some (.int .i64 (a : Int)) := (hb0.cell (p := ⟨ga, 0, none⟩) z1).trans h1
  have c2 : (w.alloc (.cells #[.int .i64 (x : Int), .int .i64 (y : Int)] 32)).cell? ⟨gp, 0, none⟩ = some (.slice (some ⟨P, 0, none⟩) n n) := (hb0.cell (p := ⟨gp, 0, none⟩) z2).trans h2
  have px := (hP.beneath hb0).at_ (i := y) (by rw [nI_len, placeL_len]; exact hy)
  have pa := (hP.beneath hb0).at_ (i := a) (by rw [nI_len, placeL_len]; exact ha)
  rw [nI_at, placeL_at _ hy] at px
  rw [nI_at, placeL_at _ ha] at pa
  have b0 : (w.alloc (.cells #[.int .i64 (x : Int), .int .i64 (y : Int)] 32)).cell? ⟨w.heap.size, 0, none⟩ = some (.int .i64 (x : Int)) := (Blk.new w 32 #[.int .i64 (x : Int), .int .i64 (y : Int)]).cells 0
  have b1 : (w.alloc (.cells #[.int .i64 (x : Int), .int .i64 (y : Int)] 32)).cell? ⟨w.heap.size, 1, none⟩ = some (.int .i64 (y : Int)) := (Blk.new w 32 #[.int .i64 (x : Int), .int .i64 (y : Int)]).cells 1
  have HTI : Hid (tieP (placeOf all) a ((x : Int), (y : Int)) = ((x : Int) == (a : Int) && placeOf all y == placeOf all a)) := Lib.hid (by simp [tieP])
  clear h1 h2 hb0 hP
  generalize placeOf all y = py at *
  generalize placeOf all a = pa' at *
  by_cases hxa : x = a
  · subst hxa
    obtain ⟨q, hq⟩ : ∃ q, ((py : Int) == (pa' : Int)) = q := ⟨_, rfl⟩
    have HR : Hid (tieP (placeOf all) x ((x : Int), (y : Int)) = q) := Lib.hid (by
      rw [HTI.out, ← hq, Bool.eq_iff_iff]
      simp
      omega)
    have hx0 : ((x : Int) == (x : Int)) = true := by simp
    rw [HR.out]
    go_enter Try.func24, Try.ntmps24
    go_wp2_with fail
    go_quiet (fail)
    go_wp2_with fail
    go_ret
    exact ⟨rfl, belowDrewN HB0.out _⟩
  · have hne : ((x : Int) == (a : Int)) = false := by simp; omega
    have HR : Hid (tieP (placeOf all) a ((x : Int), (y : Int)) = false) := Lib.hid (by rw [HTI.out, hne]; rfl)
    rw [HR.out]
    clear hxa
    go_enter Try.func24, Try.ntmps24
    go_wp2_with fail
    go_quiet (fail)
    go_wp2_with fail
    go_ret
    exact ⟨rfl, belowDrewN HB0.out _⟩
theorem ties_places {n a : Nat} {l : List (Int × Int)} {all : List (List Nat)} (hok : okG n l) (K : Knots (Arr l) n all) (ha : a < n) : l.any (tieP (placeOf all) a) = tiesB l a := by
  have e : ∀ p ∈ l, tieP (placeOf all) a p = tieA l a p := by
    intro p hp
    obtain ⟨x, y, hx, hy, rfl, har⟩ := arr_at hok hp
    unfold tieP tieA
    simp only [Int.toNat_natCast]
    by_cases h : x = a
    · have h1 := K.tied hx har h
      rw [Bool.eq_iff_iff]
      simp only [Bool.and_eq_true, beq_iff_eq, wayB_iff, h1]
    · have hne : ((x : Int) == (a : Int)) = false := by simp; omega
      rw [hne]; rfl
  unfold tiesB
  rw [Bool.eq_iff_iff, List.any_eq_true, List.any_eq_true]
  constructor
  · rintro ⟨p, hp, h⟩
    exact ⟨p, hp, by have := e p hp; rw [h] at this; exact this.symm⟩
  · rintro ⟨p, hp, h⟩
    exact ⟨p, hp, by rw [e p hp]; exact h⟩
theorem tied_any {w : World} {A : Option Addr} {c : Nat} {l : List (Int × Int)} (hx : GIn w A c l) (n a : Int) :
    Calls Try.prog 13 #[.int .i64 n, .slice A l.length c, .int .i64 a] w fun e w' => e = .returned (.tuple #[.bool (tiedA n l a), .int .i64 (tiedE n l a)]) ∧ Below w.heap.size w w' := by
  have hb0 : Below w.heap.size w (w.alloc (.cells #[.int .i64 a] 3)) := (Below.refl _ _).alloc (Nat.le_refl _) _
  have HX := Lib.hid (hx.on hb0)
  have HB0 := Lib.hid hb0
  have HC := Lib.hid (check_any (hx.on hb0) n)
  have HBX := Lib.hid (Blk.new w 3 #[.int .i64 a])
  clear hx hb0
  obtain ⟨e0, he0⟩ : ∃ e0, checkG n l = e0 := ⟨_, rfl⟩
  rw [he0] at HC
  have HE0 := Lib.hid he0
  by_cases h0 : e0 = 0
  · subst h0
    by_cases hs : a < 0
    · have HR : Hid (tiedE n l a = 2 ∧ tiedA n l a = false) := Lib.hid (by
        have : tiedE n l a = 2 := by unfold tiedE; rw [if_pos HE0.out, if_pos (.inl hs)]
        exact ⟨this, by unfold tiedA; rw [this]; rfl⟩)
      rw [HR.out.1, HR.out.2]
      clear he0
      go_enter Try.func13, Try.ntmps13
      go_wp2_with fail
      refine HC.out.mono ?_
      rintro e w1 ⟨rfl, hb1⟩
      have k1 : w1.cell? ⟨w.heap.size, 0, none⟩ = some (.int .i64 a) := (HBX.out.beneath hb1).cells 0
      have HB1 := Lib.hid (HB0.out.trans (hb1.mono HB0.out.size))
      clear hb1
      go_wp2_with fail
      go_ret2
      exact ⟨rfl, HB1.out⟩
    by_cases hg : n ≤ a
    · have HR : Hid (tiedE n l a = 2 ∧ tiedA n l a = false) := Lib.hid (by
        have : tiedE n l a = 2 := by unfold tiedE; rw [if_pos HE0.out, if_pos (.inr hg)]
        exact ⟨this, by unfold tiedA; rw [this]; rfl⟩)
      rw [HR.out.1, HR.out.2]
      clear he0
      go_enter Try.func13, Try.ntmps13
      go_wp2_with fail
      refine HC.out.mono ?_
      rintro e w1 ⟨rfl, hb1⟩
      have k1 : w1.cell? ⟨w.heap.size, 0, none⟩ = some (.int .i64 a) := (HBX.out.beneath hb1).cells 0
      have HB1 := Lib.hid (HB0.out.trans (hb1.mono HB0.out.size))
      clear hb1
      go_wp2_with fail
      go_ret2
      exact ⟨rfl, HB1.out⟩
    obtain ⟨hn0, hn, hl, hok⟩ := check_ok he0
    obtain ⟨m, rfl⟩ := Int.eq_ofNat_of_zero_le hn0
    obtain ⟨z, rfl⟩ := Int.eq_ofNat_of_zero_le (show 0 ≤ a by omega)
    rw [Int.toNat_natCast] at hok
    have HR : Hid (tiedE (m : Int) l (z : Int) = 0 ∧ tiedA (m : Int) l (z : Int) = tiesB l z) := Lib.hid (by
      have : tiedE (m : Int) l (z : Int) = 0 := by unfold tiedE; rw [if_pos HE0.out, if_neg (by omega)]
      exact ⟨this, by unfold tiedA; rw [this, if_pos rfl, Int.toNat_natCast]⟩)
    rw [HR.out.1, HR.out.2]
    have HOK := Lib.hid hok
    have hm : m ≤ 1000 := by omega
    have hz : z < m := by omega
    clear he0 hok
    go_enter Try.func13, Try.ntmps13
    go_wp2_with fail
    refine HC.out.mono ?_
    rintro e w1 ⟨rfl, hb1⟩
    have HB1 := Lib.hid (HB0.out.trans (hb1.mono HB0.out.size))
    have HX1 := Lib.hid (HX.out.on hb1)
    have HBX1 := Lib.hid (HBX.out.beneath hb1)
    have k1 : w1.cell? ⟨w.heap.size, 0, none⟩ = some (.int .i64 (z : Int)) := HBX1.out.cells 0
    have HA := Lib.hid (knots_any HX1.out hm hl HOK.out)
    clear hb1
    go_wp2_with fail
    refine HA.out.mono ?_
    rintro e w2 ⟨va, P, rows, rfl, hP, hpl, hal, hb2⟩
    have HK := Lib.hid (knots_of HOK.out)
    generalize (knotsP (toL l) m m).all = all at *
    obtain ⟨Aa, ca, rfl, hha⟩ := hal.hdr
    have hb3 : Below w2.heap.size w2 (w2.alloc (.cells #[.slice (some ⟨P, 0, none⟩) m m] 25)) := (Below.refl _ _).alloc (Nat.le_refl _) _
    have HB3 := Lib.hid ((HB1.out.trans (hb2.mono HB1.out.size)).trans (hb3.mono (Nat.le_trans HB1.out.size hb2.size)))
    have hx3 := (HX1.out.on hb2).on hb3
    have hba := (HBX1.out.beneath hb2).beneath hb3
    have hbp := Blk.new w2 25 #[.slice (some ⟨P, 0, none⟩) m m]
    have hp3 := hpl.beneath hb3
    have HCF := Lib.hid (containsFunc_any hx3 24 #[.pointer (some ⟨w.heap.size, 0, none⟩), .pointer (some ⟨w2.heap.size, 0, none⟩)] (tieP (placeOf all) z) ⟨enters_tied1, fun W v hW hv => by
      obtain ⟨x, y, hx, hy, rfl, _⟩ := arr_at HOK.out hv
      exact tied1_any ((hba.beneath hW).cells 0) ((hbp.beneath hW).cells 0) (hp3.beneath hW) hz hm x y hy⟩)
    rw [ties_places HOK.out HK.out hz] at HCF
    clear hal hb2 hpl hha hb3 hx3 hba hbp hp3 k1
    go_wp2_with fail
    refine HCF.out.mono ?_
    rintro e w4 ⟨rfl, hb4⟩
    have HB4 := Lib.hid (HB3.out.trans (hb4.mono HB3.out.size))
    clear hb4
    go_wp2_with fail
    go_ret2
    exact ⟨rfl, HB4.out⟩
  · have HR : Hid (tiedE n l a = e0 ∧ tiedA n l a = false) := Lib.hid (by
      have : tiedE n l a = e0 := by unfold tiedE; rw [if_neg (by rw [he0]; exact h0), he0]
      exact ⟨this, by unfold tiedA; rw [this, if_neg h0]⟩)
    rw [HR.out.1, HR.out.2]
    have hne : (e0 == 0) = false := by simpa using h0
    have hne2 : (e0 != 0) = true := by simpa using h0
    clear he0
    go_enter Try.func13, Try.ntmps13
    go_wp2_with fail
    refine HC.out.mono ?_
    rintro e w1 ⟨rfl, hb1⟩
    have HB1 := Lib.hid (HB0.out.trans (hb1.mono HB0.out.size))
    clear hb1
    go_wp2_with fail
    go_ret2
    exact ⟨rfl, HB1.out⟩
end Go.Proofs.Ytohoihicmmidmaa
