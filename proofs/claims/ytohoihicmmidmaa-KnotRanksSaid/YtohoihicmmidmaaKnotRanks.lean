/-
  The walk of the law KnotRanks.
-/
import Derived.Test.YtohoihicmmidmaaKnotTied
import Derived.Deep.CutRange
namespace Go.Proofs.Ytohoihicmmidmaa
set_option linter.unusedVariables false
set_option linter.unusedSimpArgs false
open Go.Instr
open Go.ChangeShapes Go.WideShapes Go.ChangeAt Go.RowKit Kn

/-- An arrow out of a point's knot, to one of just one less. -/
noncomputable def nextA (l : List (Int × Int)) (m a : Nat) (p : Int × Int) : Bool :=
  (headN (Arr l) p.1.toNat : Int) == (headN (Arr l) a : Int) && ((headN (Arr l) p.2.toNat : Int) != (headN (Arr l) a : Int) && ((rankN (Arr l) m p.2.toNat : Int) == (rankN (Arr l) m a : Int) - 1))
theorem next_all {l : List (Int × Int)} {m a : Nat} (hok : okG m l) (ha : a < m) : (((rankN (Arr l) m a : Int) == 0) || anyTo (nextA l m a) l l.length) = true := by
  have R := rank_is hok
  rcases R.next a ha with h | ⟨x, y, hx, e, w1, w2, w3, hr⟩
  · rw [h]; rfl
  · have hra := R.same (arr_lt hok) ha w1 w2
    have h1 : headN (Arr l) x = headN (Arr l) a := head_same.2 ⟨w2, w1⟩
    have h2 : headN (Arr l) y ≠ headN (Arr l) a := fun h => by
      have h3 := head_same.1 (h.trans h1.symm)
      exact w3 h3.1
    have hn : nextA l m a ((x : Int), (y : Int)) = true := by
      unfold nextA
      simp only [Int.toNat_natCast, Bool.and_eq_true, beq_iff_eq, bne_iff_ne]
      exact ⟨by omega, by omega, by omega⟩
    have : anyTo (nextA l m a) l l.length = true := by
      unfold anyTo
      rw [List.take_length, List.any_eq_true]
      exact ⟨_, e, hn⟩
    rw [this, Bool.or_true]
theorem arrow_ok {l : List (Int × Int)} {m x y : Nat} (hok : okG m l) (hx : x < m) (e : Arr l x y) : (headN (Arr l) x = headN (Arr l) y ∧ rankN (Arr l) m x = rankN (Arr l) m y) ∨ (headN (Arr l) x ≠ headN (Arr l) y ∧ rankN (Arr l) m y < rankN (Arr l) m x) := by
  have R := rank_is hok
  by_cases h : headN (Arr l) x = headN (Arr l) y
  · exact .inl ⟨h, R.within x y hx e (head_same.1 h).2⟩
  · exact .inr ⟨h, R.down x y hx e (fun w => h (head_same.2 ⟨Way.one e, w⟩))⟩
set_option maxRecDepth 100000 in
set_option maxHeartbeats 6400000 in
theorem walk_KnotRanks {w : World} (n : Int) {A : Option Addr} {c : Nat} {l : List (Int × Int)} (h : GIn w A c l) (at_ a : Int) :
    Calls Try.prog 4 #[.int .i64 n, .slice A l.length c, .int .i64 at_, .int .i64 a] w fun e w' => e = .returned (.bool true) ∧ Below w.heap.size w w' := by
  have hl0 := h.len
  have H := Lib.hid h
  clear h
  go_enter Try.func4, Try.ntmps4
  go_wp2_with fail
  refine (alive_any w).mono ?_
  rintro e w1 ⟨rfl, hb1⟩
  have HB1 := Lib.hid hb1
  have H1 := Lib.hid (H.out.on hb1)
  clear hb1
  cases hg : greatG n l with
  | true =>
    have HG := Lib.hid (great_any H1.out n)
    rw [hg] at HG
    clear hg
    go_wp2_with fail
    refine HG.out.mono ?_
    rintro e w2 ⟨rfl, rfl⟩
    go_wp2_with fail
    go_ret
    exact ⟨rfl, HB1.out⟩
  | false =>
    have HG := Lib.hid (great_any H1.out n)
    rw [hg] at HG
    clear hg
    by_cases h60 : 60 < n
    · go_wp2_with fail
      refine HG.out.mono ?_
      rintro e w2 ⟨rfl, rfl⟩
      go_wp2_with fail
      go_ret
      exact ⟨rfl, HB1.out⟩
    · have HC := Lib.hid (heads_any H1.out n)
      have HC2 : Hid (∀ W, Below w1.heap.size w1 W → Calls Try.prog 12 #[.int .i64 n, .slice A l.length c] W (SomeIntsE (ranksG n l) (checkG n l) W)) := Lib.hid (fun W hb => ranks_any (H1.out.on hb) n)
      obtain ⟨e0, he0⟩ : ∃ e0, checkG n l = e0 := ⟨_, rfl⟩
      rw [he0] at HC HC2
      by_cases h0 : e0 = 0
      · subst h0
        obtain ⟨hn0, hn, hl, hok⟩ := check_ok he0
        obtain ⟨m, rfl⟩ := Int.eq_ofNat_of_zero_le hn0
        rw [Int.toNat_natCast] at hok
        have HGG : Hid (headsG (m : Int) l = nI (headsL (Arr l) m)) := Lib.hid (by unfold headsG; rw [if_pos he0, Int.toNat_natCast])
        have HRG : Hid (ranksG (m : Int) l = nI (ranksL (Arr l) m)) := Lib.hid (by unfold ranksG; rw [if_pos he0, Int.toNat_natCast])
        rw [HGG.out] at HC
        rw [HRG.out] at HC2
        have HOK := Lib.hid hok
        have hm : m ≤ 1000 := by omega
        clear he0 hok hn0 hn
        go_wp2_with fail
        refine HG.out.mono ?_
        rintro e w2 ⟨rfl, rfl⟩
        go_wp2_with fail
        refine HC.out.mono ?_
        rintro e w3 ⟨v3, rfl, hv3, hb3⟩
        obtain ⟨A3, c3, rfl, hh3, hi3'⟩ := hv3.full
        rw [nI_len, headsL_len] at hh3 ⊢
        have HI3 := Lib.hid hi3'
        have HB3 := Lib.hid (HB1.out.trans (hb3.mono HB1.out.size))
        have H3 := Lib.hid (H1.out.on hb3)
        have HC3 := Lib.hid (HC2.out w3 hb3)
        clear hb3 hv3 hi3' hh3
        go_wp2_with fail
        refine HC3.out.mono ?_
        rintro e w4 ⟨v4, rfl, hv4, hb4⟩
        have hi3 := HI3.out.keep hb4
        obtain ⟨A4, c4, rfl, hh4, hi4⟩ := hv4.full
        rw [nI_len, ranksL_len] at hh4 ⊢
        have HB4 := Lib.hid (HB3.out.trans (hb4.mono HB3.out.size))
        have H4 := Lib.hid (H3.out.on hb4)
        -- the two lists, wherever a world is as w4 was
        have hread : 0 < m → ∃ bb off b2 o2, A3 = some ⟨bb, off, none⟩ ∧ A4 = some ⟨b2, o2, none⟩ ∧ ∀ z, z < m → w4.cell? ⟨bb, off + z, none⟩ = some (.int .i64 (headN (Arr l) z : Int)) ∧ w4.cell? ⟨b2, o2 + z, none⟩ = some (.int .i64 (rankN (Arr l) m z : Int)) := fun hpos => by
          obtain ⟨bb, off, z1, e1, _, _⟩ := hi3.cell (k := 0) (by rw [nI_len, headsL_len]; exact hpos)
          obtain ⟨b2, o2, z2, e2, _, _⟩ := hi4.cell (k := 0) (by rw [nI_len, ranksL_len]; exact hpos)
          refine ⟨bb, off, b2, o2, e1, e2, fun z hz => ?_⟩
          obtain ⟨bb', off', y1, e3, d1, E1⟩ := hi3.cell (k := z) (by rw [nI_len, headsL_len]; exact hz)
          obtain ⟨b2', o2', y2, e4, d2, E2⟩ := hi4.cell (k := z) (by rw [nI_len, ranksL_len]; exact hz)
          rw [e1] at e3
          rw [e2] at e4
          injection e3 with e3
          injection e3 with q1 q2 _
          injection e4 with e4
          injection e4 with q3 q4 _
          subst q1 q2 q3 q4
          rw [← E1.out, nI_at, headsL_at _ hz] at d1
          rw [← E2.out, nI_at, ranksL_at _ hz] at d2
          exact ⟨d1, d2⟩
        have HRD := Lib.hid hread
        clear hb4 hv4 hh4 hi3 hi4 hread
        go_upto_region 8 with fail
        go_cut [78] from 71 to 77 (fun s wx => s = .bool (decide (0 ≤ at_ ∧ at_ < (l.length : Int))) ∧ wx = w4)
        case first =>
          by_cases q0 : 0 ≤ at_
          · by_cases q1 : at_ < (l.length : Int)
            all_goals (go_wp2_with fail; go_meet; exact ⟨by simp; omega, rfl⟩)
          · go_wp2_with fail
            go_meet
            exact ⟨by simp; omega, rfl⟩
        case rest =>
        obtain ⟨rfl, hwc⟩ := hcut
        replace hwc := hwc.symm
        subst hwc
        go_upto_if 78 with fail
        go_cut [14, 15, 78] from 79 to 130 (fun _ _ _ wx => Below w4.heap.size w4 wx)
        case first =>
          by_cases hat : 0 ≤ at_ ∧ at_ < (l.length : Int)
          · have hdt : decide (0 ≤ at_ ∧ at_ < (l.length : Int)) = true := by simp [hat]
            rw [hdt]
            obtain ⟨ha0, ha1⟩ := hat
            obtain ⟨k, rfl⟩ := Int.eq_ofNat_of_zero_le ha0
            have hlt : k < l.length := by omega
            obtain ⟨bl, ol, p, q, rfl, hbk, u0, u1, HE⟩ := H4.out.elem hlt
            obtain ⟨he, hpm⟩ := getA hlt HE.out
            obtain ⟨x, y, hx, hy, e1, har⟩ := arr_at HOK.out hpm
            injection e1 with e1 e2
            subst e1 e2
            obtain ⟨bb, off, b2, o2, rfl, rfl, hz⟩ := HRD.out (by omega)
            obtain ⟨hx1, hx2⟩ := hz x hx
            obtain ⟨hy1, hy2⟩ := hz y hy
            have hao := arrow_ok HOK.out hx har
            clear he hpm har hz hdt
            rcases hao with ⟨hxy, hrr⟩ | ⟨hxy, hrr⟩
            · have f1 : ((headN (Arr l) x : Int) == (headN (Arr l) y : Int)) = true := by simp; omega
              have f2 : ((rankN (Arr l) m x : Int) == (rankN (Arr l) m y : Int)) = true := by simp; omega
              have f3 : ((rankN (Arr l) m x : Int) != (rankN (Arr l) m y : Int)) = false := by simp; omega
              have f4 : ((headN (Arr l) x : Int) != (headN (Arr l) y : Int)) = false := by simp; omega
              clear hxy hrr
              go_wp2_with fail
              go_quiet (fail)
              go_wp2_with fail
              go_quiet (fail)
              go_wp2_with fail
              go_meet
              exact belowDrewN (belowDrewN (Below.refl _ _) _) _
            · have f1 : ((headN (Arr l) x : Int) == (headN (Arr l) y : Int)) = false := by simp; omega
              have f4 : ((headN (Arr l) x : Int) != (headN (Arr l) y : Int)) = true := by simp; omega
              have f5 : decide ((rankN (Arr l) m x : Int) ≤ (rankN (Arr l) m y : Int)) = false := by simp; omega
              have f6 : (rankN (Arr l) m y : Int) < (rankN (Arr l) m x : Int) := by omega
              clear hxy hrr
              go_wp2_with fail
              go_quiet (fail)
              go_wp2_with fail
              go_quiet (fail)
              go_wp2_with fail
              go_meet
              exact belowDrewN (belowDrewN (Below.refl _ _) _) _
          · have hdt : decide (0 ≤ at_ ∧ at_ < (l.length : Int)) = false := by simp; omega
            rw [hdt]
            clear hdt
            go_wp2_with fail
            go_meet
            exact Below.refl _ _
        case rest =>
        have HCU := Lib.hid hcut
        have HB5 := Lib.hid (HB4.out.trans (hcut.mono HB4.out.size))
        clear hcut
        by_cases a0 : a < 0
        · go_wp2_with fail
          go_ret
          exact ⟨rfl, HB5.out⟩
        by_cases a1 : (m : Int) ≤ a
        · go_wp2_with fail
          go_ret
          exact ⟨rfl, HB5.out⟩
        obtain ⟨z, rfl⟩ := Int.eq_ofNat_of_zero_le (show 0 ≤ a by omega)
        have hzm : z < m := by omega
        have HNA := Lib.hid (next_all HOK.out hzm)
        obtain ⟨bb, off, b2, o2, rfl, rfl, hz⟩ := HRD.out (by omega)
        have HZ := Lib.hid hz
        clear hz
        obtain ⟨cz1, cz2⟩ := HZ.out z hzm
        have cw1 := (HCU.out.cell (p := ⟨bb, off + z, none⟩) (World.block_lt_of_cell? _ _ cz1)).trans cz1
        have cw2 := (HCU.out.cell (p := ⟨b2, o2 + z, none⟩) (World.block_lt_of_cell? _ _ cz2)).trans cz2
        have hzz := head_le (Arr l) z
        have hra0 : (0 : Int) ≤ (rankN (Arr l) m z : Int) := Int.natCast_nonneg _
        have hrs : rankN (Arr l) m z < m := rank_small HOK.out hzm
        have d9 : decide ((0 : Int) ≤ (rankN (Arr l) m z : Int)) = true := by simp
        obtain ⟨q0, hq0⟩ : ∃ q0, ((rankN (Arr l) m z : Int) == 0) = q0 := ⟨_, rfl⟩
        have HQ0 := Lib.hid hq0
        clear a0 a1
        go_wp2_with fail
        go_loopw [16, 17] (fun bv i wr => ∃ (j : Nat) (b : Bool), j ≤ l.length ∧ i = .int .i64 j ∧ bv = .bool b ∧ Hid (b = (q0 || anyTo (nextA l m z) l j)) ∧ Below w4.heap.size w4 wr) (fun _ i _ => l.length - (intOf i).toNat)
        case atStart => exact ⟨0, q0, Nat.zero_le _, rfl, rfl, Lib.hid (by simp [anyTo]), HCU.out⟩
        case round =>
          obtain ⟨j, b, hj, rfl, rfl, HA, hbr⟩ := hrel
          have HBR := Lib.hid hbr
          have cz1' := (hbr.cell (p := ⟨bb, off + z, none⟩) (World.block_lt_of_cell? _ _ cz1)).trans cz1
          have cz2' := (hbr.cell (p := ⟨b2, o2 + z, none⟩) (World.block_lt_of_cell? _ _ cz2)).trans cz2
          clear hbr
          by_cases hltj : j < l.length
          · obtain ⟨bl2, ol2, p2, q2, hAj, hbk2, t0, t1, HE2⟩ := (H4.out.on HBR.out).elem hltj
            subst hAj
            obtain ⟨he2, hpm2⟩ := getA hltj HE2.out
            obtain ⟨x2, y2, hx2', hy2', e2, har2⟩ := arr_at HOK.out hpm2
            injection e2 with e2 e3
            subst e2 e3
            obtain ⟨hz1, hz2⟩ := HZ.out x2 hx2'
            obtain ⟨hz3, hz4⟩ := HZ.out y2 hy2'
            have g1 := (HBR.out.cell (p := ⟨bb, off + x2, none⟩) (World.block_lt_of_cell? _ _ hz1)).trans hz1
            have g3 := (HBR.out.cell (p := ⟨bb, off + y2, none⟩) (World.block_lt_of_cell? _ _ hz3)).trans hz3
            have g4 := (HBR.out.cell (p := ⟨b2, o2 + y2, none⟩) (World.block_lt_of_cell? _ _ hz4)).trans hz4
            have HN : Hid (anyTo (nextA l m z) l (j + 1) = (anyTo (nextA l m z) l j || ((headN (Arr l) x2 : Int) == (headN (Arr l) z : Int) && ((headN (Arr l) y2 : Int) != (headN (Arr l) z : Int) && ((rankN (Arr l) m y2 : Int) == (rankN (Arr l) m z : Int) - 1))))) := Lib.hid (by
              rw [anyTo_succ _ hltj, HE2.out]
              unfold nextA
              simp only [Int.toNat_natCast])
            clear he2 hpm2 har2 hz1 hz2 hz3 hz4 HE2
            obtain ⟨r1, hr1⟩ : ∃ r1, ((headN (Arr l) x2 : Int) == (headN (Arr l) z : Int)) = r1 := ⟨_, rfl⟩
            obtain ⟨r2, hr2⟩ : ∃ r2, ((headN (Arr l) y2 : Int) == (headN (Arr l) z : Int)) = r2 := ⟨_, rfl⟩
            obtain ⟨r3, hr3⟩ : ∃ r3, ((rankN (Arr l) m y2 : Int) == (rankN (Arr l) m z : Int) - 1) = r3 := ⟨_, rfl⟩
            have hr2' : ((headN (Arr l) y2 : Int) != (headN (Arr l) z : Int)) = !r2 := by rw [← hr2]; rfl
            have HNB : Hid ((q0 || anyTo (nextA l m z) l (j + 1)) = (b || (r1 && (!r2 && r3)))) := Lib.hid (by
              rw [HN.out, hr1, hr2', hr3, HA.out, Bool.or_assoc])
            cases b with
            | true =>
              go_wp2_with fail
              go_quiet (fail)
              go_wp2_with fail
              go_roundw
              case rel => exact ⟨j + 1, true, by omega, by go_num, rfl, Lib.hid (by rw [HNB.out]; rfl), belowDrewN HBR.out _⟩
              case measure => simp [intOf]; omega
            | false =>
              cases r1 with
              | false =>
                go_wp2_with fail
                go_quiet (fail)
                go_wp2_with fail
                go_roundw
                case rel => exact ⟨j + 1, false, by omega, by go_num, rfl, Lib.hid (by rw [HNB.out]; rfl), belowDrewN HBR.out _⟩
                case measure => simp [intOf]; omega
              | true =>
                cases r2 with
                | true =>
                  rw [Bool.not_true] at hr2'
                  go_wp2_with fail
                  go_quiet (fail)
                  go_wp2_with fail
                  go_roundw
                  case rel => exact ⟨j + 1, false, by omega, by go_num, rfl, Lib.hid (by rw [HNB.out]; rfl), belowDrewN HBR.out _⟩
                  case measure => simp [intOf]; omega
                | false =>
                  rw [Bool.not_false] at hr2'
                  go_wp2_with fail
                  go_quiet (fail)
                  go_wp2_with fail
                  go_roundw
                  case rel => exact ⟨j + 1, r3, by omega, by go_num, rfl, Lib.hid (by rw [HNB.out]; simp), belowDrewN HBR.out _⟩
                  case measure => simp [intOf]; omega
          · have hbt : b = true := by
              have h1 := HA.out
              rw [show j = l.length by omega] at h1
              rw [h1, ← HQ0.out]
              exact HNA.out
            subst hbt
            have HB := Lib.hid (HB4.out.trans (HBR.out.mono HB4.out.size))
            go_wp2_with fail
            go_ret
            exact ⟨rfl, HB.out⟩
      · have HGG : Hid (headsG n l = []) := Lib.hid (by unfold headsG; rw [if_neg (by rw [he0]; exact h0)])
        have HRG : Hid (ranksG n l = []) := Lib.hid (by unfold ranksG; rw [if_neg (by rw [he0]; exact h0)])
        rw [HGG.out] at HC
        rw [HRG.out] at HC2
        have hne : (e0 == 0) = false := by simpa using h0
        have hne2 : (e0 != 0) = true := by simpa using h0
        clear he0
        go_wp2_with fail
        refine HG.out.mono ?_
        rintro e w2 ⟨rfl, rfl⟩
        go_wp2_with fail
        refine HC.out.mono ?_
        rintro e w3 ⟨v3, rfl, hv3, hb3⟩
        have HB3 := Lib.hid (HB1.out.trans (hb3.mono HB1.out.size))
        have HC3 := Lib.hid (HC2.out w3 hb3)
        clear hb3 hv3
        go_wp2_with fail
        refine HC3.out.mono ?_
        rintro e w4 ⟨v4, rfl, hv4, hb4⟩
        have HB4 := Lib.hid (HB3.out.trans (hb4.mono HB3.out.size))
        clear hb4 hv4
        go_wp2_with fail
        go_ret
        exact ⟨by simp, HB4.out⟩
end Go.Proofs.Ytohoihicmmidmaa
