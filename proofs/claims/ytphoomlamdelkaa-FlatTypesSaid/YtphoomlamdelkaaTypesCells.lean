/-
  Plain law on the cells of a type; the walk of the law TypesCells.
-/
import Derived.Test.YtphoomlamdelkaaTypLaw1
namespace Go.Proofs.Ytphoomlamdelkaa
set_option linter.unusedVariables false
set_option linter.unusedSimpArgs false
open Go.ChangeShapes Go.WideShapes Go.ChangeAt Go.RowKit

theorem may_kind {t : List Ty} {k : Nat} (h : mayT t k = true) : 1 ≤ (t.getD k default).kind ∧ (t.getD k default).kind ≤ 5 := by
  by_cases h1 : (t.getD k default).kind = 1
  · omega
  by_cases h2 : (t.getD k default).kind = 2
  · omega
  by_cases h3 : (t.getD k default).kind = 3
  · omega
  by_cases h4 : (t.getD k default).kind = 4
  · omega
  by_cases h5 : (t.getD k default).kind = 5
  · omega
  exfalso
  unfold mayT at h
  rw [mayX_other _ _ _ h1 h2 h3 h4 h5] at h
  cases h
theorem plain_at {t : List Ty} {k : Nat} (h : k < t.length) : plainB t (k : Int) = scalK (t.getD k default).kind := by
  unfold plainB
  rw [Int.toNat_natCast, decide_eq_true (by omega : (0 : Int) ≤ (k : Int)), decide_eq_true (by omega : (k : Int) < (t.length : Int))]
  rfl
theorem parts_ne {t : List Ty} {k : Nat} (h : Good t k) (hs : (t.getD k default).kind = 4 ∨ (t.getD k default).kind = 5) : partsT (t.getD k default) ≠ [] := by
  rcases hs with hs | hs
  · rw [partsT4 hs]
    intro e
    have := (struct_len h.may hs).1
    rw [e] at this
    cases this
  · rw [partsT5 hs]
    intro e
    have h1 := congrArg List.length e
    rw [List.length_replicate] at h1
    have h2 : (t.getD k default).many.toNat = 0 := h1
    have := (many_ok h hs).1
    omega
theorem cells_spec {t : List Ty} : ∀ k, Good t k → (∀ c ∈ ofT t k, ∃ i : Nat, c = i ∧ i ≤ k ∧ i < t.length ∧ scalK (t.getD i default).kind = true ∧ (¬ scalK (t.getD k default).kind = true → i < k)) ∧ ofT t k ≠ [] := by
  intro k
  induction k using Nat.strongRecOn with
  | _ k ih =>
  intro hg
  by_cases hs : (t.getD k default).kind = 4 ∨ (t.getD k default).kind = 5
  · have hns : ¬ scalK (t.getD k default).kind = true := by rcases hs with hs | hs <;> rw [hs] <;> decide
    rw [ofT_parts hg hs]
    have hp : ∀ p ∈ partsT (t.getD k default), 0 ≤ p ∧ p < k := hg.parts
    refine ⟨fun c hc => ?_, ?_⟩
    · obtain ⟨p, hpm, hcp⟩ := List.mem_flatMap.1 hc
      have hpk := hp p hpm
      obtain ⟨i, h1, h2, h3, h4, _⟩ := (ih p.toNat (by omega) (hg.part hpm)).1 c hcp
      exact ⟨i, h1, by omega, h3, h4, fun _ => by omega⟩
    · intro e
      have hne := parts_ne hg hs
      cases hl : partsT (t.getD k default) with
      | nil => exact hne hl
      | cons p ps =>
        rw [hl, List.flatMap_cons] at e
        have hpm : p ∈ partsT (t.getD k default) := by rw [hl]; simp
        exact (ih p.toNat (by have := hp p hpm; omega) (hg.part hpm)).2 (List.append_eq_nil_iff.1 e).1
  · have hk := may_kind hg.may
    have hsc : scalK (t.getD k default).kind = true := by
      have : (t.getD k default).kind = 1 ∨ (t.getD k default).kind = 2 ∨ (t.getD k default).kind = 3 := by omega
      rcases this with h | h | h <;> rw [h] <;> rfl
    rw [of_scalar (fun h => hs (.inl h)) (fun h => hs (.inr h))]
    refine ⟨fun c hc => ?_, by simp⟩
    rw [List.mem_singleton] at hc
    exact ⟨k, hc, Nat.le_refl _, hg.lt, hsc, fun h => absurd hsc h⟩
theorem cells_scalar {t : List Ty} {k : Nat} (hg : Good t k) (h : scalK (t.getD k default).kind = true) : ofT t k = [(k : Int)] := by
  refine of_scalar ?_ ?_ <;> intro e <;> rw [e] at h <;> cases h
theorem asked_of {t : List Ty} {k i : Nat} (hg : Good t k) (h : i < t.length) : askedT t i = 0 := by
  unfold askedT
  rw [if_neg (by rw [hg.zero]; simp), if_pos (by omega)]
theorem scalar_of {t : List Ty} {k i : Nat} (hg : Good t k) (h : i < t.length) (hs : scalK (t.getD i default).kind = true) : scalarT t i = true := by
  unfold scalarT
  rw [if_pos (asked_of hg h), plain_at h, hs]

/-- Where a table is not great. -/
theorem few_of {w : World} {A : Option Addr} {c : Nat} {rows : List TyR} (h : TabIn w A c rows) (hg : greatT rows = false) : TabFew w A c rows ∧ rows.length ≤ 20 := by
  unfold greatT at hg
  simp only [Bool.or_eq_false_iff, Bool.not_eq_false', decide_eq_false_iff_not] at hg
  have hl : rows.length ≤ 20 := by omega
  refine ⟨⟨h, fun r hr => ?_⟩, hl⟩
  have := List.all_eq_true.1 hg.1 r (by rw [List.take_of_length_le (by omega)]; exact hr)
  simp only [decide_eq_true_eq] at this
  omega
theorem great_is {w : World} {lo B : Nat} {A : Option Addr} {c : Nat} {rows : List TyR} (hh : Hdr A rows.length c) (hx : TypsAt w lo B A rows) {b : Bool} (hb : greatT rows = b) :
    Calls Try.prog 12 #[.slice A rows.length c] w fun e w' => e = .returned (.bool b) ∧ w = w' := hb ▸ great_any hh hx

set_option maxRecDepth 100000 in
set_option maxHeartbeats 1600000 in
theorem walk_TypesCells {w : World} {A : Option Addr} {c : Nat} {rows : List TyR} (h : TabIn w A c rows) (k : Int) :
    Calls Try.prog 7 #[.slice A rows.length c, .int .i64 k] w fun e w' => e = .returned (.bool true) ∧ Below w.heap.size w w' := by
  have HX := Lib.hid h
  clear h
  cases hgr : greatT rows with
  | true =>
    have HGR := Lib.hid hgr
    clear hgr
    go_enter Try.func7, Try.ntmps7
    go_wp2_with fail
    refine (alive_any _).mono ?_
    rintro e w1 ⟨rfl, hb1⟩
    have HB1 := Lib.hid hb1
    clear hb1
    go_wp2_with fail
    refine (great_is (HX.out.on HB1.out).hdr (HX.out.on HB1.out).rows HGR.out).mono ?_
    rintro e w1 ⟨rfl, rfl⟩
    go_wp2_with fail
    go_ret
    exact ⟨rfl, HB1.out⟩
  | false =>
    have HGR := Lib.hid hgr
    obtain ⟨hfew, hl20⟩ := few_of HX.out hgr
    have HF := Lib.hid hfew
    clear hgr hfew
    by_cases hch : askedT (tbl rows) k = 0
    · have HCH := Lib.hid hch
      have HG := Lib.hid (asked_good hch)
      obtain ⟨_, k0, k1⟩ := asked_zero hch
      obtain ⟨i, rfl⟩ := Int.eq_ofNat_of_zero_le k0
      have HI : Hid (i < (tbl rows).length) := Lib.hid (by omega)
      rw [Int.toNat_natCast] at HG
      have HCV : Hid (cellsT (tbl rows) i = ofT (tbl rows) i) := Lib.hid (by unfold cellsT; rw [if_pos hch, Int.toNat_natCast])
      have HSV : Hid (scalarT (tbl rows) i = scalK ((tbl rows).getD i default).kind) := Lib.hid (by unfold scalarT; rw [if_pos hch, plain_at HI.out])
      have HCS := Lib.hid (cells_spec i HG.out)
      have hle := HG.out.le
      have hge : 1 ≤ (ofT (tbl rows) i).length := List.length_pos_iff.2 HCS.out.2
      have HSC : Hid (scalK ((tbl rows).getD i default).kind = true → ofT (tbl rows) i = [(i : Int)]) := Lib.hid (cells_scalar HG.out)
      obtain ⟨sk, hsk⟩ : ∃ sk, scalK ((tbl rows).getD i default).kind = sk := ⟨_, rfl⟩
      rw [hsk] at HSV HSC HCS
      clear hch k0 k1 hsk
      go_enter Try.func7, Try.ntmps7
      go_wp2_with fail
      refine (alive_any _).mono ?_
      rintro e w1 ⟨rfl, hb1⟩
      have HB1 := Lib.hid hb1
      clear hb1
      go_wp2_with fail
      refine (great_is (HX.out.on HB1.out).hdr (HX.out.on HB1.out).rows HGR.out).mono ?_
      rintro e w1 ⟨rfl, rfl⟩
      go_wp2_with fail
      refine (pcellsF_any (HF.out.on HB1.out) i).mono ?_
      rw [HCH.out, HCV.out]
      rintro e w2 ⟨v2, rfl, hown2, hb2⟩
      have HO2 := Lib.hid hown2
      have HB2 := Lib.hid (HB1.out.trans (hb2.mono HB1.out.size))
      clear hown2 hb2
      go_wp2_with fail
      refine (pscalarF_any (HF.out.on HB2.out) i).mono ?_
      rw [HCH.out, HSV.out]
      rintro e w3 ⟨rfl, hb3⟩
      have hown3 := HO2.out.keep hb3
      obtain ⟨A3, c3, rfl, hnil3, hints3, hle3, hcap3⟩ := hown3.form
      have HI3 := Lib.hid hints3
      have HB3 := Lib.hid (HB2.out.trans (hb3.mono HB2.out.size))
      unfold maxLen at hcap3
      clear hown3 hb3 hnil3 hints3 HO2
      generalize hls : ofT (tbl rows) i = ls at HCS HSC HI3 hle hge hle3
      have HLS := Lib.hid hls
      clear hls
      go_wp2_with fail
      go_loopw [10] (fun x wr => ∃ j : Nat, j ≤ ls.length ∧ x = .int .i64 j ∧ Below w3.heap.size w3 wr) (fun x _ => ls.length - (intOf x).toNat)
      case atStart => exact ⟨0, Nat.zero_le _, rfl, Below.refl _ _⟩
      case round =>
        obtain ⟨j, hj, rfl, hbel⟩ := hrel
        have HBL := Lib.hid hbel
        have HB4 := Lib.hid (HB3.out.trans (hbel.mono HB3.out.size))
        clear hbel
        by_cases hlt : j < ls.length
        · obtain ⟨b4, o4, x, hA4, hcx, HE⟩ := (HI3.out.keep HBL.out).cell hlt
          subst hA4
          have hxm : x ∈ ls := by have := mem_getD (d := (0 : Int)) hlt; rwa [HE.out] at this
          obtain ⟨q, rfl, hq1, hq2, hq3, _⟩ := HCS.out.1 x hxm
          have HA4 := Lib.hid (asked_of HG.out hq2)
          have HS4 := Lib.hid (scalar_of HG.out hq2 hq3)
          clear hxm hq1 hq2 hq3
          go_wp2_with fail
          refine (pscalarF_any (HF.out.on HB4.out) q).mono ?_
          rw [HA4.out, HS4.out]
          rintro e w5 ⟨rfl, hb5⟩
          have HB5 := Lib.hid (HBL.out.trans (hb5.mono HBL.out.size))
          clear hb5
          go_wp2_with fail
          go_roundw
          case rel => exact ⟨j + 1, by omega, by go_num, HB5.out⟩
          case measure => simp [intOf]; omega
        · obtain ⟨b4, o4, x, hA4, hcx, HE⟩ := (HI3.out.keep HBL.out).cell (k := 0) (by omega)
          subst hA4
          rw [Nat.add_zero] at hcx
          cases sk with
          | true =>
            have hone := HSC.out rfl
            subst hone
            have hxi : x = i := by have := HE.out; simpa using this.symm
            subst hxi
            simp only [List.length_cons, List.length_nil] at hle hge hle3 hlt hj
            go_wp2_with fail
            go_ret
            exact ⟨rfl, HB4.out⟩
          | false =>
            have hne : (x == (i : Int)) = false := by
              have hxm : x ∈ ls := by have := mem_getD (d := (0 : Int)) (l := ls) (i := 0) (by omega); rwa [HE.out] at this
              obtain ⟨q, rfl, hq1, hq2, hq3, hq4⟩ := HCS.out.1 x hxm
              have := hq4 (by simp)
              simp
              omega
            go_wp2_with fail
            all_goals go_ret
            all_goals exact ⟨rfl, HB4.out⟩
    · have HCV : Hid (cellsT (tbl rows) k = []) := Lib.hid (by unfold cellsT; rw [if_neg hch])
      have HSV : Hid (scalarT (tbl rows) k = false) := Lib.hid (by unfold scalarT; rw [if_neg hch])
      obtain ⟨er, her⟩ : ∃ er, askedT (tbl rows) k = er := ⟨_, rfl⟩
      rw [her] at hch
      have HER := Lib.hid her
      clear her
      go_enter Try.func7, Try.ntmps7
      go_wp2_with fail
      refine (alive_any _).mono ?_
      rintro e w1 ⟨rfl, hb1⟩
      have HB1 := Lib.hid hb1
      clear hb1
      go_wp2_with fail
      refine (great_is (HX.out.on HB1.out).hdr (HX.out.on HB1.out).rows HGR.out).mono ?_
      rintro e w1 ⟨rfl, rfl⟩
      go_wp2_with fail
      refine (pcellsF_any (HF.out.on HB1.out) k).mono ?_
      rw [HER.out, HCV.out]
      rintro e w2 ⟨v2, rfl, hown2, hb2⟩
      obtain ⟨A2, c2, rfl, _⟩ := hown2.form
      have HB2 := Lib.hid (HB1.out.trans (hb2.mono HB1.out.size))
      clear hown2 hb2
      go_wp2_with fail
      refine (pscalarF_any (HF.out.on HB2.out) k).mono ?_
      rw [HER.out, HSV.out]
      rintro e w3 ⟨rfl, hb3⟩
      have HB3 := Lib.hid (HB2.out.trans (hb3.mono HB2.out.size))
      clear hb3
      go_wp2_with fail
      go_ret
      exact ⟨rfl, HB3.out⟩
end Go.Proofs.Ytphoomlamdelkaa
