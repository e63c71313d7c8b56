/-
  The walk of the law FlatParts.
-/
import Derived.Test.YtphoomlamdelkaaFlatLaw1
namespace Go.Proofs.Ytphoomlamdelkaa
set_option linter.unusedVariables false
set_option linter.unusedSimpArgs false
open Go.ChangeShapes Go.WideShapes Go.ChangeAt Go.RowKit

section
variable {w : World} {A : Option Addr} {c : Nat} {rows : List TyR}
set_option maxRecDepth 100000 in
set_option maxHeartbeats 800000 in
theorem fparts_early (h : TabIn w A c rows) (k n cell : Int) (hc : greatT rows = true ∨ cell < 0 ∨ 100 < cell) :
    Calls Try.prog 11 #[.slice A rows.length c, .int .i64 k, .int .i64 n, .int .i64 cell] w fun e w' => e = .returned (.bool true) ∧ Below w.heap.size w w' := by
  have HX := Lib.hid h
  clear h
  obtain ⟨gr, hgr⟩ : ∃ gr, greatT rows = gr := ⟨_, rfl⟩
  rw [hgr] at hc
  have HGR := Lib.hid hgr
  clear hgr
  cases gr
  · rcases hc with hc | hc | hc
    · cases hc
    all_goals
      go_enter Try.func11, Try.ntmps11
      go_wp2_with fail
      refine (aliveF_any _).mono ?_
      rintro e w1 ⟨rfl, hb1⟩
      have HB1 := Lib.hid hb1
      clear hb1
      go_wp2_with fail
      refine (great_is (HX.out.on HB1.out).hdr (HX.out.on HB1.out).rows HGR.out).mono ?_
      rintro e w1 ⟨rfl, rfl⟩
      go_wp2_with fail
      go_ret
      exact ⟨rfl, HB1.out⟩
  · clear hc
    go_enter Try.func11, Try.ntmps11
    go_wp2_with fail
    refine (aliveF_any _).mono ?_
    rintro e w1 ⟨rfl, hb1⟩
    have HB1 := Lib.hid hb1
    clear hb1
    go_wp2_with fail
    refine (great_is (HX.out.on HB1.out).hdr (HX.out.on HB1.out).rows HGR.out).mono ?_
    rintro e w1 ⟨rfl, rfl⟩
    go_wp2_with fail
    go_ret
    exact ⟨rfl, HB1.out⟩
/-- What the law is told. -/
structure Told4 (t : List Ty) (k n cell p at_ s e own h whole i : Int) : Prop where
  f_p : partT t k n = (p, e)
  f_o : offsetT t k n = (at_, e)
  f_s : stepT t k n = (s, e)
  f_own : e = 0 → flatT t p cell = (own, h)
  f_whole : e = 0 → h = 0 → flatT t k (at_ + cell) = (whole, i)
  f_bad : e ≠ 0 → s = 0
  f_bad2 : e = 0 → h ≠ 0 → h = 2
  f_good : e = 0 → h = 0 → i = 0 ∧ whole = s + own
  f_at0 : e = 0 → 0 ≤ at_ ∧ at_ ≤ 1000
  f_s0 : e = 0 → h = 0 → 0 ≤ s ∧ s ≤ 1000 ∧ 0 ≤ own ∧ own ≤ 1000
set_option maxRecDepth 100000 in
set_option maxHeartbeats 1600000 in
theorem fparts_told (h : TabFew w A c rows) (hgr : greatT rows = false) (k n cell : Int) (hn0 : 0 ≤ cell) (hn1 : cell ≤ 100) {p at_ s er own hh whole i : Int} (ht : Told4 (tbl rows) k n cell p at_ s er own hh whole i) :
    Calls Try.prog 11 #[.slice A rows.length c, .int .i64 k, .int .i64 n, .int .i64 cell] w fun e w' => e = .returned (.bool true) ∧ Below w.heap.size w w' := by
  have HF := Lib.hid h
  have HGR := Lib.hid hgr
  have HT := Lib.hid ht
  clear h hgr ht
  by_cases he : er = 0
  · subst he
    obtain ⟨a0, a1⟩ := HT.out.f_at0 rfl
    by_cases hh0 : hh = 0
    · subst hh0
      obtain ⟨s0, s1, o0, o1⟩ := HT.out.f_s0 rfl rfl
      obtain ⟨rfl, rfl⟩ := HT.out.f_good rfl rfl
      go_enter Try.func11, Try.ntmps11
      go_wp2_with fail
      refine (aliveF_any _).mono ?_
      rintro e w1 ⟨rfl, hb1⟩
      have HB1 := Lib.hid hb1
      clear hb1
      go_wp2_with fail
      refine (great_is (HF.out.tab.on HB1.out).hdr (HF.out.tab.on HB1.out).rows HGR.out).mono ?_
      rintro e w1 ⟨rfl, rfl⟩
      go_wp2_with fail
      refine (ppart_any (HF.out.on HB1.out) k n).mono ?_
      rw [HT.out.f_p]
      rintro e w3 ⟨rfl, hb⟩
      have HB3 := Lib.hid (HB1.out.trans (hb.mono HB1.out.size))
      clear hb
      go_wp2_with fail
      refine (poffset_any (HF.out.on HB3.out) k n).mono ?_
      rw [HT.out.f_o]
      rintro e w4 ⟨rfl, hb⟩
      have HB4 := Lib.hid (HB3.out.trans (hb.mono HB3.out.size))
      clear hb
      go_wp2_with fail
      refine (pstep_any (HF.out.on HB4.out) k n).mono ?_
      rw [HT.out.f_s]
      rintro e w5 ⟨rfl, hb⟩
      have HB5 := Lib.hid (HB4.out.trans (hb.mono HB4.out.size))
      clear hb
      go_wp2_with fail
      refine (pflat_any (HF.out.on HB5.out) p cell).mono ?_
      rw [HT.out.f_own rfl]
      rintro e w6 ⟨rfl, hb⟩
      have HB6 := Lib.hid (HB5.out.trans (hb.mono HB5.out.size))
      clear hb
      go_wp2_with fail
      refine (pflat_any (HF.out.on HB6.out) k (at_ + cell)).mono ?_
      rw [HT.out.f_whole rfl rfl]
      rintro e w7 ⟨rfl, hb⟩
      have HB7 := Lib.hid (HB6.out.trans (hb.mono HB6.out.size))
      clear hb
      go_wp2_with fail
      go_ret
      exact ⟨rfl, HB7.out⟩
    · obtain rfl := HT.out.f_bad2 rfl hh0
      go_enter Try.func11, Try.ntmps11
      go_wp2_with fail
      refine (aliveF_any _).mono ?_
      rintro e w1 ⟨rfl, hb1⟩
      have HB1 := Lib.hid hb1
      clear hb1
      go_wp2_with fail
      refine (great_is (HF.out.tab.on HB1.out).hdr (HF.out.tab.on HB1.out).rows HGR.out).mono ?_
      rintro e w1 ⟨rfl, rfl⟩
      go_wp2_with fail
      refine (ppart_any (HF.out.on HB1.out) k n).mono ?_
      rw [HT.out.f_p]
      rintro e w3 ⟨rfl, hb⟩
      have HB3 := Lib.hid (HB1.out.trans (hb.mono HB1.out.size))
      clear hb
      go_wp2_with fail
      refine (poffset_any (HF.out.on HB3.out) k n).mono ?_
      rw [HT.out.f_o]
      rintro e w4 ⟨rfl, hb⟩
      have HB4 := Lib.hid (HB3.out.trans (hb.mono HB3.out.size))
      clear hb
      go_wp2_with fail
      refine (pstep_any (HF.out.on HB4.out) k n).mono ?_
      rw [HT.out.f_s]
      rintro e w5 ⟨rfl, hb⟩
      have HB5 := Lib.hid (HB4.out.trans (hb.mono HB4.out.size))
      clear hb
      go_wp2_with fail
      refine (pflat_any (HF.out.on HB5.out) p cell).mono ?_
      rw [HT.out.f_own rfl]
      rintro e w6 ⟨rfl, hb⟩
      have HB6 := Lib.hid (HB5.out.trans (hb.mono HB5.out.size))
      clear hb
      go_wp2_with fail
      go_ret
      exact ⟨rfl, HB6.out⟩
  · obtain rfl := HT.out.f_bad he
    go_enter Try.func11, Try.ntmps11
    go_wp2_with fail
    refine (aliveF_any _).mono ?_
    rintro e w1 ⟨rfl, hb1⟩
    have HB1 := Lib.hid hb1
    clear hb1
    go_wp2_with fail
    refine (great_is (HF.out.tab.on HB1.out).hdr (HF.out.tab.on HB1.out).rows HGR.out).mono ?_
    rintro e w1 ⟨rfl, rfl⟩
    go_wp2_with fail
    refine (ppart_any (HF.out.on HB1.out) k n).mono ?_
    rw [HT.out.f_p]
    rintro e w3 ⟨rfl, hb⟩
    have HB3 := Lib.hid (HB1.out.trans (hb.mono HB1.out.size))
    clear hb
    go_wp2_with fail
    refine (poffset_any (HF.out.on HB3.out) k n).mono ?_
    rw [HT.out.f_o]
    rintro e w4 ⟨rfl, hb⟩
    have HB4 := Lib.hid (HB3.out.trans (hb.mono HB3.out.size))
    clear hb
    go_wp2_with fail
    refine (pstep_any (HF.out.on HB4.out) k n).mono ?_
    rw [HT.out.f_s]
    rintro e w5 ⟨rfl, hb⟩
    have HB5 := Lib.hid (HB4.out.trans (hb.mono HB4.out.size))
    clear hb
    go_wp2_with fail
    go_ret
    exact ⟨rfl, HB5.out⟩
end
theorem told4_of (t : List Ty) (k n cell : Int) (h0 : 0 ≤ cell) : ∃ p at_ s e own h whole i, Told4 t k n cell p at_ s e own h whole i := by
  by_cases hp : (partT t k n).2 = 0
  · obtain ⟨ha0, n0, n1⟩ := part_zero hp
    have hgood := asked_good ha0
    obtain ⟨_, k0, _⟩ := asked_zero ha0
    obtain ⟨i, rfl⟩ := Int.eq_ofNat_of_zero_le k0
    obtain ⟨m, rfl⟩ := Int.eq_ofNat_of_zero_le n0
    obtain ⟨cl, rfl⟩ := Int.eq_ofNat_of_zero_le h0
    rw [Int.toNat_natCast] at hgood n1
    have hm : m < (partsT (t.getD i default)).length := by omega
    obtain ⟨p1, hp1⟩ : ∃ p1, (partsT (t.getD i default)).getD m 0 = p1 := ⟨_, rfl⟩
    have hpm : p1 ∈ partsT (t.getD i default) := by rw [← hp1]; exact mem_getD0 hm
    obtain ⟨q0, q1⟩ := hgood.parts p1 hpm
    have hgq := hgood.part hpm
    obtain ⟨q, rfl⟩ := Int.eq_ofNat_of_zero_le q0
    rw [Int.toNat_natCast] at hgq
    have hpt : partT t i m = ((q : Int), 0) := by
      unfold partT
      rw [if_neg (by rw [ha0]; simp), Int.toNat_natCast, if_pos ⟨by omega, by omega⟩, Int.toNat_natCast, hp1]
    have hoff : offsetT t i m = (((aheadT t i m : Nat) : Int), 0) := by
      unfold offsetT
      rw [hpt, if_neg (by simp), Int.toNat_natCast, Int.toNat_natCast]
    have hst : stepT t i m = (((toT t i m : Nat) : Int), 0) := by
      unfold stepT
      rw [hpt, if_neg (by simp), Int.toNat_natCast, Int.toNat_natCast]
    have haq := asked_of hgood hgq.lt
    have hah := ahead_le hgood m (by omega)
    have hpl := hgood.parts_le
    by_cases hin : cl < (ofT t q).length
    · have hl := fla_part hgood hm (i := cl) (by rw [hp1]; exact hin)
      rw [hp1] at hl
      have hown : flatT t q cl = ((flaT t q).getD cl 0, 0) := by
        unfold flatT
        rw [if_neg (by rw [haq]; simp), Int.toNat_natCast, if_pos ⟨by omega, by omega⟩, Int.toNat_natCast]
      have hwh : flatT t i (aheadT t i m + cl) = ((flaT t i).getD (aheadT t i m + cl) 0, 0) := by
        unfold flatT
        rw [if_neg (by rw [ha0]; simp), Int.toNat_natCast, if_pos ⟨by omega, by omega⟩, show ((aheadT t i m : Int) + cl).toNat = aheadT t i m + cl by omega]
      have hb1 := (fla_ok hgq).lo cl (by rw [(fla_len hgq).1]; exact hin)
      have hb2 := (fla_len hgq).2.1
      have hb3 := hgq.le
      have hb4 : toT t i m ≤ 1000 := by
        unfold toT
        split
        · omega
        · by_cases h4 : (t.getD i default).kind = 4
          · have := to_le hgood h4 m (by rw [partsT4 h4] at hm; omega)
            unfold toT at this
            rw [if_neg (by omega)] at this
            omega
          · rw [partsT0 h4 ‹_›] at hm
            cases hm
      refine ⟨q, _, _, 0, _, 0, _, 0, hpt, hoff, hst, fun _ => hown, fun _ _ => hwh, fun h => absurd rfl h, fun _ h => absurd rfl h, fun _ _ => ⟨rfl, hl.2⟩, fun _ => ⟨by omega, by omega⟩, fun _ _ => ⟨by omega, by omega, hb1.1, by omega⟩⟩
    · have hown : flatT t q cl = (0, 2) := by
        unfold flatT
        rw [if_neg (by rw [haq]; simp), Int.toNat_natCast, if_neg (by omega)]
      exact ⟨q, _, _, 0, 0, 2, 0, 0, hpt, hoff, hst, fun _ => hown, (fun _ h => absurd h (by decide)), fun h => absurd rfl h, fun _ _ => rfl, (fun _ h => absurd h (by decide)), fun _ => ⟨by omega, by omega⟩, (fun _ h => absurd h (by decide))⟩
  · obtain ⟨h1, h2, h3⟩ := part_bad hp
    refine ⟨0, 0, 0, (partT t k n).2, 0, 0, 0, 0, by rw [← h1], by rw [← h2, ← h3], by unfold stepT; rw [if_pos hp], fun h => absurd h hp, fun h => absurd h hp, fun _ => rfl, fun h => absurd h hp, fun h => absurd h hp, fun h => absurd h hp, fun h => absurd h hp⟩
theorem walk_FlatParts {w : World} {A : Option Addr} {c : Nat} {rows : List TyR} (h : TabIn w A c rows) (k n cell : Int) :
    Calls Try.prog 11 #[.slice A rows.length c, .int .i64 k, .int .i64 n, .int .i64 cell] w fun e w' => e = .returned (.bool true) ∧ Below w.heap.size w w' := by
  by_cases hc : greatT rows = true ∨ cell < 0 ∨ 100 < cell
  · exact fparts_early h k n cell hc
  have hgr : greatT rows = false := by
    cases hg : greatT rows with
    | false => rfl
    | true => exact absurd (.inl hg) hc
  have hn0 : 0 ≤ cell := by
    by_cases hh : cell < 0
    · exact absurd (.inr (.inl hh)) hc
    · omega
  have hn1 : cell ≤ 100 := by
    by_cases hh : 100 < cell
    · exact absurd (.inr (.inr hh)) hc
    · omega
  obtain ⟨hfew, _⟩ := few_of h hgr
  obtain ⟨p, at_, s, er, own, hh, whole, i, ht⟩ := told4_of (tbl rows) k n cell hn0
  exact fparts_told hfew hgr k n cell hn0 hn1 ht
end Go.Proofs.Ytphoomlamdelkaa
