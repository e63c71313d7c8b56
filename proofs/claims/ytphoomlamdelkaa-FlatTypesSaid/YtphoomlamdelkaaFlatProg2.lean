/-
  The program's Fields, Flat, Step of flat.
-/
import Derived.Test.YtphoomlamdelkaaFlatProg
namespace Go.Proofs.Ytphoomlamdelkaa
set_option linter.unusedVariables false
set_option linter.unusedSimpArgs false
open Go.ChangeShapes Go.WideShapes Go.ChangeAt Go.RowKit

/-- What a walk from nothing leaves in the walker. -/
def FlatDone (g : Nat) (A : Option Addr) (c n : Nat) (xs : List Int) (w : World) (e : Ending) (w' : World) : Prop := ∃ v' f, e = .returned (.tuple #[]) ∧ Wlk w' w.heap.size g (.slice A n c) v' true f xs ∧ Below w.heap.size w w'
section
variable {w : World} {A : Option Addr} {c : Nat} {rows : List TyR}
theorem pcells_is (h : TabFew w A c rows) (k : Int) {e0 : Int} (he : askedT (tbl rows) k = e0) : Calls Try.prog 20 #[.slice A rows.length c, .int .i64 k] w (SomeInts2 (cellsT (tbl rows) k) e0 w) := he ▸ pcellsF_any h k
theorem wlk_made (h : TabFew w A c rows) (once : Bool) : Wlk (w.alloc (.cells (wlkCells (.slice A rows.length c) (.slice none 0 0) once 0) 68)) w.heap.size w.heap.size (.slice A rows.length c) (.slice none 0 0) once 0 [] :=
  ⟨Blk.new _ _ _, OwnInts.nil _ _, Nat.le_refl _⟩
theorem wlk_start (h : TabFew w A c rows) {k : Nat} (hg : Good (tbl rows) k) (once : Bool) :
    Calls Try.prog 57 #[.pointer (some ⟨w.heap.size, 0, none⟩), .int .i64 k] (w.alloc (.cells (wlkCells (.slice A rows.length c) (.slice none 0 0) once 0) 68))
      (SomeWlk w.heap.size w.heap.size (.slice A rows.length c) once ((fldT (tbl rows) k).length : Int) (addT (tbl rows) once k 0) (w.alloc (.cells (wlkCells (.slice A rows.length c) (.slice none 0 0) once 0) 68))) := by
  have := wlk_any (once := once) (lo := w.heap.size) (g := w.heap.size) k _ _ 0 [] h.tab.hdr (h.tab.rows.keep ((Below.refl _ _).alloc (Nat.le_refl _) _)) (by rw [World.size_alloc]; omega) hg (wlk_made h once) (by have := hg.le; simp; omega) (by have := hg.le; omega)
  rw [Nat.zero_add, List.nil_append] at this
  exact this
theorem pfields_any (h : TabFew w A c rows) (k : Int) : Calls Try.prog 33 #[.slice A rows.length c, .int .i64 k] w (SomeInts2 (fieldsT (tbl rows) k) (askedT (tbl rows) k) w) := by
  have hl := h.tab.len
  obtain ⟨ch, hch⟩ : ∃ ch, askedT (tbl rows) k = ch := ⟨_, rfl⟩
  have HX := Lib.hid h
  have HC := Lib.hid hch
  have HS : Hid (fieldsT (tbl rows) k = if ch = 0 then fldT (tbl rows) k.toNat else []) := Lib.hid (by unfold fieldsT; rw [hch])
  rw [hch]
  clear h hch
  by_cases h0 : ch = 0
  · subst h0
    have HG := Lib.hid (asked_good HC.out)
    obtain ⟨_, k0, k1⟩ := asked_zero HC.out
    rw [tbl_len] at k1
    obtain ⟨i, rfl⟩ := Int.eq_ofNat_of_zero_le k0
    rw [Int.toNat_natCast] at HG HS
    go_enter Try.func33, Try.ntmps33
    go_wp2_with fail
    refine (pcells_is HX.out _ HC.out).mono ?_
    rintro e w1 ⟨v0, rfl, _, hb1⟩
    have HB1 := Lib.hid hb1
    have HQ := Lib.hid (wlk_start (HX.out.on hb1) HG.out true)
    clear hb1
    go_wp2_with fail
    refine HQ.out.mono ?_
    rintro e w2 ⟨v2, rfl, hwk, hwd⟩
    obtain ⟨_, _, _, _, s4, _⟩ := hwk.t0
    have hsz := HB1.out.size
    have HO := Lib.hid (hwk.own.more HB1.out.size)
    have HB2 := Lib.hid (HB1.out.trans ((Below.trans ((Below.refl _ _).alloc (Nat.le_refl _) _) hwd.below).mono HB1.out.size))
    clear hwk hwd HQ
    go_wp2_with fail
    go_ret2
    exact ⟨_, rfl, by rw [HS.out, if_pos trivial]; exact HO.out, HB2.out⟩
  · go_enter Try.func33, Try.ntmps33
    go_wp2_with fail
    refine (pcells_is HX.out k HC.out).mono ?_
    rintro e w1 ⟨v0, rfl, _, hb1⟩
    have HB1 := Lib.hid hb1
    clear hb1
    go_wp2_with fail
    go_ret2
    exact ⟨_, rfl, by rw [HS.out, if_neg h0]; exact OwnInts.nil _ _, HB1.out⟩

theorem add_false (t : List Ty) (k : Nat) : addT t false k 0 = flaT t k := by
  show (flaT t k).map _ = _
  exact (List.map_congr_left fun x _ => (show x + ((0 : Nat) : Int) = x by simp)).trans (List.map_id _)
theorem pflat_any (h : TabFew w A c rows) (k n : Int) : Calls Try.prog 31 #[.slice A rows.length c, .int .i64 k, .int .i64 n] w fun e w' => e = .returned (.tuple #[.int .i64 (flatT (tbl rows) k n).1, .int .i64 (flatT (tbl rows) k n).2]) ∧ Below w.heap.size w w' := by
  have hl := h.tab.len
  obtain ⟨ch, hch⟩ : ∃ ch, askedT (tbl rows) k = ch := ⟨_, rfl⟩
  have HX := Lib.hid h
  have HC := Lib.hid hch
  have HS : Hid (flatT (tbl rows) k n = if ch ≠ 0 then (0, ch) else if 0 ≤ n ∧ n < (ofT (tbl rows) k.toNat).length then ((flaT (tbl rows) k.toNat).getD n.toNat 0, 0) else (0, 2)) := Lib.hid (by unfold flatT; rw [hch])
  clear h hch
  by_cases h0 : ch = 0
  · subst h0
    have HG := Lib.hid (asked_good HC.out)
    obtain ⟨_, k0, k1⟩ := asked_zero HC.out
    rw [tbl_len] at k1
    obtain ⟨i, rfl⟩ := Int.eq_ofNat_of_zero_le k0
    rw [Int.toNat_natCast] at HG HS
    have hle := HG.out.le
    have HLN := Lib.hid (fla_len HG.out).1
    by_cases hin : 0 ≤ n ∧ n < (ofT (tbl rows) i).length
    · obtain ⟨n0, n1⟩ := hin
      obtain ⟨m, rfl⟩ := Int.eq_ofNat_of_zero_le n0
      have HR : Hid (flatT (tbl rows) i m = ((flaT (tbl rows) i).getD m 0, 0)) := Lib.hid (by rw [HS.out, if_neg (by simp), if_pos ⟨n0, n1⟩, Int.toNat_natCast])
      have HM : Hid (m < (flaT (tbl rows) i).length) := Lib.hid (by rw [HLN.out]; omega)
      go_enter Try.func31, Try.ntmps31
      go_wp2_with fail
      refine (pcells_is HX.out _ HC.out).mono ?_
      rintro e w1 ⟨v0, rfl, _, hb1⟩
      have HB1 := Lib.hid hb1
      have HQ := Lib.hid (wlk_start (HX.out.on hb1) HG.out false)
      rw [add_false] at HQ
      clear hb1
      go_wp2_with fail
      refine HQ.out.mono ?_
      rintro e w2 ⟨v2, rfl, hwk, hwd⟩
      obtain ⟨_, _, _, _, s4, _⟩ := hwk.t0
      have hown := hwk.own
      obtain ⟨A2, c2, rfl, _, hints, _, _⟩ := hown.form
      have HB2 := Lib.hid (HB1.out.trans (Below.trans ((Below.refl _ _).alloc (Nat.le_refl _) _) hwd.below |>.mono HB1.out.size))
      obtain ⟨b4, o4, x4, hA4, hcx, HE⟩ := hints.cell HM.out
      subst hA4
      have hml := HM.out
      clear hwk hwd HQ hown hints n1 n0
      generalize (flaT (tbl rows) i).length = lf at s4 hml
      go_wp2_with fail
      go_ret2
      exact ⟨by rw [HR.out, ← HE.out]; rfl, HB2.out⟩
    · have HR : Hid (flatT (tbl rows) i n = (0, 2)) := Lib.hid (by rw [HS.out, if_neg (by simp), if_neg hin])
      have HIN := Lib.hid hin
      clear hin
      by_cases hn0 : n < 0
      all_goals
        go_enter Try.func31, Try.ntmps31
        go_wp2_with fail
        refine (pcells_is HX.out _ HC.out).mono ?_
        rintro e w1 ⟨v0, rfl, _, hb1⟩
        have HB1 := Lib.hid hb1
        have HQ := Lib.hid (wlk_start (HX.out.on hb1) HG.out false)
        rw [add_false] at HQ
        clear hb1
        go_wp2_with fail
        refine HQ.out.mono ?_
        rintro e w2 ⟨v2, rfl, hwk, hwd⟩
        obtain ⟨_, _, _, _, s4, _⟩ := hwk.t0
        have hown := hwk.own
        obtain ⟨A2, c2, rfl, _, hints, _, _⟩ := hown.form
        have HB2 := Lib.hid (HB1.out.trans (Below.trans ((Below.refl _ _).alloc (Nat.le_refl _) _) hwd.below |>.mono HB1.out.size))
        have hge : 0 ≤ n → ((flaT (tbl rows) i).length : Int) ≤ n := fun h => by rw [HLN.out]; have := HIN.out; omega
        clear hwk hwd HQ hown hints
      · clear hge
        go_wp2_with fail
        go_ret2
        exact ⟨by rw [HR.out]; rfl, HB2.out⟩
      · have hge2 := hge (by omega)
        clear hge
        generalize (flaT (tbl rows) i).length = lf at s4 hge2
        go_wp2_with fail
        go_ret2
        exact ⟨by rw [HR.out]; rfl, HB2.out⟩
  · have HR : Hid (flatT (tbl rows) k n = (0, ch)) := Lib.hid (by rw [HS.out, if_pos h0])
    go_enter Try.func31, Try.ntmps31
    go_wp2_with fail
    refine (pcells_is HX.out k HC.out).mono ?_
    rintro e w1 ⟨v0, rfl, _, hb1⟩
    have HB1 := Lib.hid hb1
    clear hb1
    go_wp2_with fail
    go_ret2
    exact ⟨by rw [HR.out]; rfl, HB1.out⟩

theorem fields_good {t : List Ty} {i p : Nat} (hg : Good t i) (hp : Good t p) : askedT t p = 0 ∧ fieldsT t p = fldT t p := by
  have h := asked_of hg hp.lt
  exact ⟨h, by unfold fieldsT; rw [if_pos h, Int.toNat_natCast]⟩
set_option maxHeartbeats 1600000 in
theorem pstep_any (h : TabFew w A c rows) (k n : Int) : Calls Try.prog 34 #[.slice A rows.length c, .int .i64 k, .int .i64 n] w fun e w' => e = .returned (.tuple #[.int .i64 (stepT (tbl rows) k n).1, .int .i64 (stepT (tbl rows) k n).2]) ∧ Below w.heap.size w w' := by
  have hl := h.tab.len
  have HX := Lib.hid h
  have HPC := Lib.hid (ppart_any h k n)
  clear h
  obtain ⟨p1, hp1⟩ : ∃ p1, (partT (tbl rows) k n).1 = p1 := ⟨_, rfl⟩
  obtain ⟨p2, hp2⟩ : ∃ p2, (partT (tbl rows) k n).2 = p2 := ⟨_, rfl⟩
  have HPC2 : Hid (Calls Try.prog 21 #[.slice A rows.length c, .int .i64 k, .int .i64 n] w fun e w' => e = .returned (.tuple #[.int .i64 p1, .int .i64 p2]) ∧ Below w.heap.size w w') := Lib.hid (by rw [← hp1, ← hp2]; exact HPC.out)
  have HO : Hid (stepT (tbl rows) k n = if p2 ≠ 0 then (0, p2) else (((toT (tbl rows) k.toNat n.toNat : Nat) : Int), 0)) := Lib.hid (by unfold stepT; rw [hp2])
  have H2 := Lib.hid hp2
  clear hp1 hp2 HPC
  by_cases h0 : p2 = 0
  · subst h0
    obtain ⟨ha, n0, n1⟩ := part_zero H2.out
    have HG := Lib.hid (asked_good ha)
    obtain ⟨_, k0, k1⟩ := asked_zero ha
    rw [tbl_len] at k1
    obtain ⟨i, rfl⟩ := Int.eq_ofNat_of_zero_le k0
    obtain ⟨m, rfl⟩ := Int.eq_ofNat_of_zero_le n0
    rw [Int.toNat_natCast] at HG n1
    have hi : i < rows.length := by omega
    have HR : Hid (stepT (tbl rows) i m = ((toT (tbl rows) i m : Int), 0)) := Lib.hid (by rw [HO.out, if_neg (by simp), Int.toNat_natCast, Int.toNat_natCast])
    have HD : Hid ((tbl rows).getD i default = (rows.getD i default).data) := Lib.hid (tbl_at hi)
    have HPG := Lib.hid (fun p hp => HG.out.part (p := p) hp)
    have HPB := Lib.hid HG.out.parts
    have hrow := HX.out.tab.row hi
    obtain ⟨b, off, rfl, hbl, c0, c1, c2, c3⟩ := (HX.out.tab.rows.elem hi).at_
    rw [HD.out] at n1
    generalize rows.getD i default = r at c0 c1 c2 c3 HD hrow n1
    obtain ⟨κ, el, ma, pa, pc, parts⟩ := r
    simp only at c0 c1 c2 c3
    have hlp := Nat.le_trans hrow.hdr.fit hrow.hdr.cap
    unfold maxLen at hlp
    simp only at hlp
    have hfit := hrow.hdr.fit
    have hcap := hrow.hdr.cap
    unfold maxLen at hcap
    simp only at hfit hcap
    have HRW := Lib.hid hrow
    clear hrow ha
    by_cases e5 : κ = 5
    · subst e5
      have HT : Hid (toT (tbl rows) i m = 0) := Lib.hid (by unfold toT; rw [if_pos (by rw [HD.out]; rfl)])
      go_enter Try.func34, Try.ntmps34
      go_wp2_with fail
      refine HPC2.out.mono ?_
      rintro e w1 ⟨rfl, hb1⟩
      have HB1 := Lib.hid hb1
      have d0 := (hb1.cell (p := ⟨b, off + i * 4, none⟩) hbl).trans c0
      clear hb1
      go_wp2_with fail
      go_ret2
      exact ⟨by rw [HR.out, HT.out]; rfl, HB1.out⟩
    by_cases e4 : κ = 4
    · subst e4
      have HPS : Hid (partsT ((tbl rows).getD i default) = parts) := Lib.hid (by rw [HD.out]; rfl)
      have n1' : (m : Int) < parts.length := n1
      clear n1
      have hmp : m < parts.length := by omega
      have HTS : Hid (∀ j, j < parts.length → toT (tbl rows) i (j + 1) = toT (tbl rows) i j + (fldP (tbl rows) (parts.getD j 0)).length) := Lib.hid fun j hj => by
        have := to_succ (t := tbl rows) (k := i) (n := j) (by rw [HD.out]; rfl) (by rw [HD.out]; exact hj)
        rw [HD.out] at this
        exact this
      have HTL : Hid (∀ j, j ≤ parts.length → toT (tbl rows) i j ≤ j * 32) := Lib.hid fun j hj => to_le HG.out (by rw [HD.out]; rfl) j (by rw [HD.out]; exact hj)
      have h8 : parts.length ≤ 16 := by have := HG.out.parts_le; rwa [HPS.out] at this
      obtain ⟨bp, op, x0, hpa, _, _⟩ := HRW.out.ints.cell (k := m) hmp
      simp only at hpa
      subst hpa
      have hn3 : ¬ pc < m := by omega
      go_enter Try.func34, Try.ntmps34
      go_wp2_with fail
      refine HPC2.out.mono ?_
      rintro e w1 ⟨rfl, hb1⟩
      have HB1 := Lib.hid hb1
      have d0 := (hb1.cell (p := ⟨b, off + i * 4, none⟩) hbl).trans c0
      have d3 := (hb1.cell (p := ⟨b, off + i * 4 + 3, none⟩) hbl).trans c3
      clear hb1
      go_wp2_with fail
      go_loopw [6, 38] (fun a i' wr => ∃ j : Nat, j ≤ m ∧ i' = .int .i64 j ∧ a = .int .i64 (toT (tbl rows) i j) ∧ Below w1.heap.size w1 wr) (fun _ i' _ => m - (intOf i').toNat)
      case atStart => exact ⟨0, Nat.zero_le _, rfl, by rw [to_zero]; rfl, Below.refl _ _⟩
      case round =>
        obtain ⟨j, hj, rfl, rfl, hbel⟩ := hrel
        have htl := HTL.out j (by omega)
        generalize hto : toT (tbl rows) i j = tj at htl
        have HTO := Lib.hid hto
        have HBL := Lib.hid hbel
        have HB3 := Lib.hid (HB1.out.trans (hbel.mono HB1.out.size))
        clear hto
        by_cases hlt : j < m
        · have hjp : j < parts.length := by omega
          obtain ⟨b2, off2, x, hpa, hcell, HE⟩ := (HRW.out.keep HB3.out).ints.cell (k := j) hjp
          simp only at hpa
          injection hpa with hpa
          injection hpa with hpa1 hpa2 _
          subst hpa1 hpa2
          have hxm : x ∈ partsT ((tbl rows).getD i default) := by rw [HPS.out]; have := mem_getD (d := (0 : Int)) hjp; rwa [HE.out] at this
          have hx2 := HPG.out x hxm
          obtain ⟨x0', x1'⟩ := HPB.out x hxm
          obtain ⟨p, rfl⟩ := Int.eq_ofNat_of_zero_le x0'
          rw [Int.toNat_natCast] at hx2
          have hfl32 : (fldT (tbl rows) p).length ≤ 32 := Nat.le_trans (fla_len hx2).2.1 hx2.le
          have hfg := fields_good HG.out hx2
          have hc := pfields_any (HX.out.on HB3.out) p
          rw [hfg.1, hfg.2] at hc
          have HCC := Lib.hid hc
          clear hxm hx2 hbel hc hfg
          go_wp2_with fail
          refine HCC.out.mono ?_
          rintro e w4 ⟨v4, rfl, hown4, hb4⟩
          obtain ⟨A4, c4', rfl, _⟩ := hown4.form
          have HB4 := Lib.hid (HBL.out.trans (hb4.mono HBL.out.size))
          clear hown4 hb4 HCC
          go_wp2_with fail
          go_roundw
          case rel => exact ⟨j + 1, by omega, by go_num, by rw [HTS.out j hjp, HE.out, HTO.out]; show _ = Value.int .i64 ((tj + (fldT (tbl rows) p).length : Nat) : Int); go_num, HB4.out⟩
          case measure => simp [intOf]; omega
        · clear hbel
          go_wp2_with fail
          go_ret2
          exact ⟨by rw [HR.out, ← show j = m by omega, HTO.out]; rfl, HB3.out⟩
    · exfalso
      have : partsT ({ kind := κ, elem := el, many := ma, pa := pa, pc := pc, parts := parts } : TyR).data = [] := partsT0 e4 e5
      rw [this] at n1
      simp at n1
      omega
  · go_enter Try.func34, Try.ntmps34
    go_wp2_with fail
    refine HPC2.out.mono ?_
    rintro e w1 ⟨rfl, hb1⟩
    have HB1 := Lib.hid hb1
    clear hb1
    go_wp2_with fail
    go_ret2
    exact ⟨by rw [HO.out, if_pos h0]; rfl, HB1.out⟩
end
end Go.Proofs.Ytphoomlamdelkaa
