/-
  The walk of the law TypesParts; ahead of it the plain law: where a part's cells stand.
-/
import Derived.Test.YtphoomlamdelkaaTypesCells
namespace Go.Proofs.Ytphoomlamdelkaa
set_option linter.unusedVariables false
set_option linter.unusedSimpArgs false
open Go.ChangeShapes Go.WideShapes Go.ChangeAt Go.RowKit

theorem ahead_len {t : List Ty} {k : Nat} : ∀ n, n ≤ (partsT (t.getD k default)).length → aheadT t k n = (((partsT (t.getD k default)).take n).flatMap (ofP t)).length
  | 0, _ => by rw [ahead_zero]; rfl
  | n + 1, hn => by
    rw [ahead_succ (by omega), ahead_len n (by omega), take_succ_getD (d := 0) (by omega), List.flatMap_append, List.length_append]
    simp
structure PartLaw (t : List Ty) (k n : Nat) (all own : List Int) : Prop where
  split : ∃ rest, all = ((partsT (t.getD k default)).take n).flatMap (ofP t) ++ (own ++ rest) ∧ (n + 1 = (partsT (t.getD k default)).length → rest = [])
theorem part_law {t : List Ty} {k n : Nat} (hg : Good t k) (hn : n < (partsT (t.getD k default)).length) : PartLaw t k n (ofT t k) (ofP t ((partsT (t.getD k default)).getD n 0)) := by
  have hs : (t.getD k default).kind = 4 ∨ (t.getD k default).kind = 5 := by
    by_cases h4 : (t.getD k default).kind = 4
    · exact .inl h4
    by_cases h5 : (t.getD k default).kind = 5
    · exact .inr h5
    rw [partsT0 h4 h5] at hn
    cases hn
  refine ⟨((partsT (t.getD k default)).drop (n + 1)).flatMap (ofP t), ?_, fun h => ?_⟩
  · rw [ofT_parts hg hs]
    have h1 := List.take_append_drop (n + 1) (partsT (t.getD k default))
    have h2 := congrArg (fun l => l.flatMap (ofP t)) h1
    simp only [List.flatMap_append] at h2
    rw [← h2, take_succ_getD (d := 0) hn, List.flatMap_append, List.append_assoc]
    simp
  · rw [List.drop_of_length_le (by omega)]; rfl
theorem IntsAt.sub {w : World} {lo B : Nat} {b off : Nat} {xs : List Int} (h : IntsAt w lo B (some ⟨b, off, none⟩) xs) {i : Nat} {ys : List Int} (hi : i + ys.length ≤ xs.length) (hy : ∀ j, j < ys.length → xs.getD (i + j) 0 = ys.getD j 0) : IntsAt w lo B (some ⟨b, off + i, none⟩) ys := by
  intro hn
  obtain ⟨b', off', e, h1, h2, hc⟩ := h (by omega)
  injection e with e
  injection e with e1 e2 _
  subst e1 e2
  refine ⟨_, _, rfl, h1, h2, fun j hj q hq => ?_⟩
  have := hc (i + j) (by omega) q hq
  rw [show off + i + j * 1 + q = off + (i + j) * 1 + q by omega, this]
  show some (Value.int .i64 (xs.getD (i + j) 0)) = some (.int .i64 (ys.getD j 0))
  rw [hy j hj]


section
variable {w : World} {A : Option Addr} {c : Nat} {rows : List TyR}
set_option maxRecDepth 100000 in
set_option maxHeartbeats 800000 in
theorem tparts_early (h : TabIn w A c rows) (k n : Int) (hc : greatT rows = true ∨ n < 0 ∨ 100 < n) :
    Calls Try.prog 4 #[.slice A rows.length c, .int .i64 k, .int .i64 n] w fun e w' => e = .returned (.bool true) ∧ Below w.heap.size w w' := by
  have HX := Lib.hid h
  clear h
  obtain ⟨gr, hgr⟩ : ∃ gr, greatT rows = gr := ⟨_, rfl⟩
  rw [hgr] at hc
  have HGR := Lib.hid hgr
  clear hgr
  cases gr
  · rcases hc with hc | hc | hc
    · cases hc
    all_goals
      go_enter Try.func4, Try.ntmps4
      go_wp2_with fail
      refine (alive_any _).mono ?_
      rintro e w1 ⟨rfl, hb1⟩
      have HB1 := Lib.hid hb1
      clear hb1
      go_wp2_with fail
      refine (great_is (HX.out.on HB1.out).hdr (HX.out.on HB1.out).rows HGR.out).mono ?_
      rintro e w1 ⟨rfl, rfl⟩
      go_wp2_with fail
      go_ret
      exact ⟨rfl, HB1.out⟩
  · clear hc
    go_enter Try.func4, Try.ntmps4
    go_wp2_with fail
    refine (alive_any _).mono ?_
    rintro e w1 ⟨rfl, hb1⟩
    have HB1 := Lib.hid hb1
    clear hb1
    go_wp2_with fail
    refine (great_is (HX.out.on HB1.out).hdr (HX.out.on HB1.out).rows HGR.out).mono ?_
    rintro e w1 ⟨rfl, rfl⟩
    go_wp2_with fail
    go_ret
    exact ⟨rfl, HB1.out⟩
set_option maxRecDepth 100000 in
set_option maxHeartbeats 1600000 in
theorem tparts_bad (h : TabFew w A c rows) (hgr : greatT rows = false) (k n : Int) (hn0 : 0 ≤ n) (hn1 : n ≤ 100) {er p2 : Int} {ls : List Int} (her : askedT (tbl rows) k = er) (hls : cellsT (tbl rows) k = ls)
    (hp1 : (partT (tbl rows) k n).1 = 0) (hp2 : (partT (tbl rows) k n).2 = p2) (ho1 : (offsetT (tbl rows) k n).1 = 0) (ho2 : (offsetT (tbl rows) k n).2 = p2) (hne : p2 ≠ 0) :
    Calls Try.prog 4 #[.slice A rows.length c, .int .i64 k, .int .i64 n] w fun e w' => e = .returned (.bool true) ∧ Below w.heap.size w w' := by
  have HF := Lib.hid h
  have HGR := Lib.hid hgr
  have HER := Lib.hid her
  have HLS := Lib.hid hls
  have HP1 := Lib.hid hp1
  have HP2 := Lib.hid hp2
  have HO1 := Lib.hid ho1
  have HO2 := Lib.hid ho2
  clear h hgr her hls hp1 hp2 ho1 ho2
  go_enter Try.func4, Try.ntmps4
  go_wp2_with fail
  refine (alive_any _).mono ?_
  rintro e w1 ⟨rfl, hb1⟩
  have HB1 := Lib.hid hb1
  clear hb1
  go_wp2_with fail
  refine (great_is (HF.out.tab.on HB1.out).hdr (HF.out.tab.on HB1.out).rows HGR.out).mono ?_
  rintro e w1 ⟨rfl, rfl⟩
  go_wp2_with fail
  refine (pcellsF_any (HF.out.on HB1.out) k).mono ?_
  rw [HER.out, HLS.out]
  rintro e w2 ⟨v2, rfl, hown2, hb2⟩
  have HB2 := Lib.hid (HB1.out.trans (hb2.mono HB1.out.size))
  clear hown2 hb2
  go_wp2_with fail
  refine (ppart_any (HF.out.on HB2.out) k n).mono ?_
  rw [HP1.out, HP2.out]
  rintro e w3 ⟨rfl, hb3⟩
  have HB3 := Lib.hid (HB2.out.trans (hb3.mono HB2.out.size))
  clear hb3
  go_wp2_with fail
  refine (poffset_any (HF.out.on HB3.out) k n).mono ?_
  rw [HO1.out, HO2.out]
  rintro e w4 ⟨rfl, hb4⟩
  have HB4 := Lib.hid (HB3.out.trans (hb4.mono HB3.out.size))
  clear hb4
  by_cases her0 : er = 0
  · go_wp2_with fail
    go_ret
    exact ⟨rfl, HB4.out⟩
  · go_wp2_with fail
    go_ret
    exact ⟨rfl, HB4.out⟩
/-- What the law finds where there is such a part. -/
structure Found (t : List Ty) (i m a q : Nat) (own ls : List Int) (e1 e2 : Int) : Prop where
  er : askedT t i = 0
  lsv : cellsT t i = ls
  p1 : (partT t i m).1 = q
  p2 : (partT t i m).2 = 0
  o1 : (offsetT t i m).1 = a
  o2 : (offsetT t i m).2 = 0
  aq : askedT t q = 0
  cq : cellsT t q = own
  l1 : 1 ≤ own.length
  aN : a + own.length ≤ ls.length
  l32 : ls.length ≤ 32
  gd : ∀ j, j < own.length → ls.getD (a + j) 0 = own.getD j 0
  n1 : (offsetT t i (m + 1)).1 = e1
  n2 : (offsetT t i (m + 1)).2 = e2
  last : (e2 = 2 ∧ a + own.length = ls.length) ∨ (e2 = 0 ∧ e1 = a + own.length)
set_option maxRecDepth 100000 in
set_option maxHeartbeats 1600000 in
theorem tparts_good (h : TabFew w A c rows) (hgr : greatT rows = false) {i m a q : Nat} {own ls : List Int} {e1 e2 : Int} (hm : m ≤ 100) (hf : Found (tbl rows) i m a q own ls e1 e2) :
    Calls Try.prog 4 #[.slice A rows.length c, .int .i64 i, .int .i64 m] w fun e w' => e = .returned (.bool true) ∧ Below w.heap.size w w' := by
  have HF := Lib.hid h
  have HGR := Lib.hid hgr
  have hl1 := hf.l1
  have haN := hf.aN
  have hl32 := hf.l32
  have H := Lib.hid hf
  clear h hgr hf
  go_enter Try.func4, Try.ntmps4
  go_wp2_with fail
  refine (alive_any _).mono ?_
  rintro e w1 ⟨rfl, hb1⟩
  have HB1 := Lib.hid hb1
  clear hb1
  go_wp2_with fail
  refine (great_is (HF.out.tab.on HB1.out).hdr (HF.out.tab.on HB1.out).rows HGR.out).mono ?_
  rintro e w1 ⟨rfl, rfl⟩
  go_wp2_with fail
  refine (pcellsF_any (HF.out.on HB1.out) i).mono ?_
  rw [H.out.er, H.out.lsv]
  rintro e w2 ⟨v2, rfl, hown2, hb2⟩
  have HW2 := Lib.hid hown2
  have HB2 := Lib.hid (HB1.out.trans (hb2.mono HB1.out.size))
  clear hown2 hb2
  go_wp2_with fail
  refine (ppart_any (HF.out.on HB2.out) i m).mono ?_
  rw [H.out.p1, H.out.p2]
  rintro e w3 ⟨rfl, hb3⟩
  have HW3 := Lib.hid (HW2.out.keep hb3)
  have HB3 := Lib.hid (HB2.out.trans (hb3.mono HB2.out.size))
  clear hb3
  go_wp2_with fail
  refine (poffset_any (HF.out.on HB3.out) i m).mono ?_
  rw [H.out.o1, H.out.o2]
  rintro e w4 ⟨rfl, hb4⟩
  have hown4 := HW3.out.keep hb4
  obtain ⟨A4, c4, rfl, hnil4, hints4, hle4, hcap4⟩ := hown4.form
  unfold maxLen at hcap4
  obtain ⟨b4, o4, x4, hA4, _, _⟩ := hints4.cell (k := 0) (by omega)
  subst hA4
  have HI4 := Lib.hid hints4
  have HB4 := Lib.hid (HB3.out.trans (hb4.mono HB3.out.size))
  clear hb4 hown4 hints4 hnil4
  have hca : ¬ c4 = a := by omega
  go_wp2_with fail
  refine (pcellsF_any (HF.out.on HB4.out) q).mono ?_
  rw [H.out.aq, H.out.cq]
  rintro e w5 ⟨v5, rfl, hown5, hb5⟩
  obtain ⟨A5, c5, rfl, hnil5, hints5, hle5, hcap5⟩ := hown5.form
  have HB5 := Lib.hid (HB4.out.trans (hb5.mono HB4.out.size))
  have hs0 := (sameInts_any (xs := own) (ys := own) (c := c4 - a) ⟨by omega, by unfold maxLen; omega, fun h => by cases h⟩ ((HI4.out.keep hb5).sub haN H.out.gd) ⟨hle5, hcap5, hnil5⟩ hints5)
  rw [decide_eq_true rfl] at hs0
  have HS := Lib.hid hs0
  clear hs0
  unfold maxLen at hcap5
  clear hb5 hown5 hints5 hnil5
  go_wp2_with fail
  refine HS.out.mono ?_
  rintro e w6 ⟨rfl, hb6⟩
  have HB6 := Lib.hid (HB5.out.trans (hb6.mono HB5.out.size))
  clear hb6 HS
  go_wp2_with fail
  refine (poffset_any (HF.out.on HB6.out) i (m + 1)).mono ?_
  rw [H.out.n1, H.out.n2]
  rintro e w7 ⟨rfl, hb7⟩
  have HB7 := Lib.hid (HB6.out.trans (hb7.mono HB6.out.size))
  clear hb7
  rcases H.out.last with ⟨rfl, hl⟩ | ⟨rfl, rfl⟩
  · have hl2 : (a : Int) + own.length = ls.length := by omega
    clear hl
    go_wp2_with fail
    go_ret
    exact ⟨rfl, HB7.out⟩
  · go_wp2_with fail
    go_ret
    exact ⟨rfl, HB7.out⟩
end
theorem found_of {t : List Ty} {i m : Nat} (hgood : Good t i) (ha0 : askedT t i = 0) (hm : m < (partsT (t.getD i default)).length) : ∃ a q own ls e1 e2, Found t i m a q own ls e1 e2 := by
  obtain ⟨p1, hp1⟩ : ∃ p1, (partsT (t.getD i default)).getD m 0 = p1 := ⟨_, rfl⟩
  have hpm : p1 ∈ partsT (t.getD i default) := by rw [← hp1]; exact mem_getD0 hm
  obtain ⟨q0, q1⟩ := hgood.parts p1 hpm
  have hgq := hgood.part hpm
  obtain ⟨q, rfl⟩ := Int.eq_ofNat_of_zero_le q0
  rw [Int.toNat_natCast] at hgq
  have hpt : partT t i m = ((q : Int), 0) := by
    unfold partT
    rw [if_neg (by rw [ha0]; simp), Int.toNat_natCast, if_pos ⟨by omega, by omega⟩, Int.toNat_natCast, hp1]
  have hoff : offsetT t i m = (((aheadT t i m : Nat) : Int), 0) := by
    unfold offsetT
    rw [hpt, if_neg (by simp), Int.toNat_natCast, Int.toNat_natCast]
  have hls : cellsT t i = ofT t i := by unfold cellsT; rw [if_pos ha0, Int.toNat_natCast]
  have haq := asked_of hgood hgq.lt
  have hcq : cellsT t q = ofT t q := by unfold cellsT; rw [if_pos haq, Int.toNat_natCast]
  obtain ⟨rest, hsp, hlast⟩ := (part_law hgood hm).split
  rw [hp1] at hsp
  have hsp' : ofT t i = ((partsT (t.getD i default)).take m).flatMap (ofP t) ++ (ofT t q ++ rest) := hsp
  have hal := ahead_len m (t := t) (k := i) (by omega)
  have hN : (ofT t i).length = aheadT t i m + ((ofT t q).length + rest.length) := by rw [hsp', List.length_append, List.length_append, hal]
  refine ⟨aheadT t i m, q, ofT t q, ofT t i, (offsetT t i (m + 1)).1, (offsetT t i (m + 1)).2, ha0, hls, by rw [hpt], by rw [hpt], by rw [hoff], by rw [hoff], haq, hcq, List.length_pos_iff.2 (cells_spec q hgq).2, by omega, hgood.le, fun j hj => ?_, rfl, rfl, ?_⟩
  · rw [hsp', List.getD_eq_getElem?_getD, List.getElem?_append_right (by omega), ← hal, show aheadT t i m + j - aheadT t i m = j by omega, List.getElem?_append_left hj, ← List.getD_eq_getElem?_getD]
  · by_cases hmn : m + 1 = (partsT (t.getD i default)).length
    · left
      have hr := hlast hmn
      subst hr
      have hnext : partT t i (m + 1) = (0, 2) := by
        unfold partT
        rw [if_neg (by rw [ha0]; simp), Int.toNat_natCast, if_neg (by omega)]
      refine ⟨by unfold offsetT; rw [hnext]; rfl, ?_⟩
      rw [hN]; simp
    · right
      have hnext : partT t i (m + 1) = ((partsT (t.getD i default)).getD (m + 1) 0, 0) := by
        unfold partT
        rw [if_neg (by rw [ha0]; simp), Int.toNat_natCast, if_pos ⟨by omega, by omega⟩]
        congr 2
      have hnof : offsetT t i (m + 1) = (((aheadT t i (m + 1) : Nat) : Int), 0) := by
        unfold offsetT
        rw [hnext, if_neg (by simp), Int.toNat_natCast, show ((m : Int) + 1).toNat = m + 1 by omega]
      refine ⟨by rw [hnof], ?_⟩
      rw [hnof, ahead_succ hm, hp1]
      show ((aheadT t i m + (ofT t q).length : Nat) : Int) = _
      omega
theorem part_bad {t : List Ty} {k n : Int} (h : (partT t k n).2 ≠ 0) : (partT t k n).1 = 0 ∧ (offsetT t k n).1 = 0 ∧ (offsetT t k n).2 = (partT t k n).2 := by
  refine ⟨?_, ?_, ?_⟩
  · unfold partT at h ⊢
    split
    · rfl
    · rename_i hz
      rw [if_neg hz] at h
      split
      · rename_i hin
        rw [if_pos hin] at h
        exact absurd rfl h
      · rfl
  · unfold offsetT; rw [if_pos h]
  · unfold offsetT; rw [if_pos h]
theorem walk_TypesParts {w : World} {A : Option Addr} {c : Nat} {rows : List TyR} (h : TabIn w A c rows) (k n : Int) :
    Calls Try.prog 4 #[.slice A rows.length c, .int .i64 k, .int .i64 n] w fun e w' => e = .returned (.bool true) ∧ Below w.heap.size w w' := by
  by_cases hc : greatT rows = true ∨ n < 0 ∨ 100 < n
  · exact tparts_early h k n hc
  have hgr : greatT rows = false := by
    cases hg : greatT rows with
    | false => rfl
    | true => exact absurd (.inl hg) hc
  have hn0 : 0 ≤ n := by
    by_cases hh : n < 0
    · exact absurd (.inr (.inl hh)) hc
    · omega
  have hn1 : n ≤ 100 := by
    by_cases hh : 100 < n
    · exact absurd (.inr (.inr hh)) hc
    · omega
  obtain ⟨hfew, _⟩ := few_of h hgr
  by_cases hp : (partT (tbl rows) k n).2 = 0
  · obtain ⟨ha0, n0, n1⟩ := part_zero hp
    have hgood := asked_good ha0
    obtain ⟨_, k0, _⟩ := asked_zero ha0
    obtain ⟨i, rfl⟩ := Int.eq_ofNat_of_zero_le k0
    obtain ⟨m, rfl⟩ := Int.eq_ofNat_of_zero_le n0
    rw [Int.toNat_natCast] at hgood n1
    obtain ⟨a, q, own, ls, e1, e2, hf⟩ := found_of hgood ha0 (m := m) (by omega)
    exact tparts_good hfew hgr (by omega) hf
  · obtain ⟨h1, h2, h3⟩ := part_bad hp
    exact tparts_bad hfew hgr k n hn0 hn1 rfl rfl h1 rfl h2 h3 hp
end Go.Proofs.Ytphoomlamdelkaa
