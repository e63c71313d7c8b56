/-
  The reference's cells of a type: it calls itself.
-/
import Derived.Test.YtphoomlamdelkaaTypRef2
import Derived.Test.YtphoomlamdelkaaAppInts
namespace Go.Proofs.Ytphoomlamdelkaa
set_option linter.unusedVariables false
set_option linter.unusedSimpArgs false
open Go.ChangeShapes Go.WideShapes Go.ChangeAt Go.RowKit

theorem app_next {W w1 w2 : World} {v v' : Value} {xs ys : List Int} (hb : Below W.heap.size W w1) (hown : OwnInts w1 W.heap.size v xs) (hg : w1.grownBy w2 v.ownBlock) : Below W.heap.size W w2 := hb.grown hg hb.size hown.base
theorem flat_snoc {t : List Ty} {ps : List Int} {j : Nat} (h : j < ps.length) : (ps.take (j + 1)).flatMap (ofP t) = (ps.take j).flatMap (ofP t) ++ ofP t (ps.getD j 0) := by
  rw [take_succ_getD (d := 0) h, List.flatMap_append]; simp

theorem OwnInts.one (w : World) (lo g : Nat) (y : Int) (h : lo ≤ w.heap.size) (hg : g = w.heap.size) : OwnInts (w.alloc (.cells #[.int .i64 y] 3)) lo (.slice (some ⟨g, 0, none⟩) 1 1) [y] := by
  subst hg
  refine ⟨rfl, .inr ⟨w.heap.size, 1, #[.int .i64 y], rfl, h, ?_, Nat.le_refl 1, by unfold maxLen; omega, rfl, rfl⟩⟩
  show (w.heap.push _)[w.heap.size]? = _
  simp
set_option maxHeartbeats 1600000 in
theorem rof_any {A : Option Addr} {c lo : Nat} {rows : List TyR} (hh : Hdr A rows.length c) : ∀ (k : Nat) (w : World), TypsAt w lo w.heap.size A rows → k < rows.length → allGood (tbl rows) k = true → mayT (tbl rows) k = true →
    Calls Try.prog 43 #[.slice A rows.length c, .int .i64 k] w (SomeInts (ofT (tbl rows) k) w) := by
  intro k
  induction k using Nat.strongRecOn with
  | _ k ih =>
  intro w hx hk hgood hmay
  have hl := Nat.le_trans hh.fit hh.cap
  unfold maxLen at hl
  have hh' := Lib.hid hh
  obtain ⟨b, off, rfl, hbl, c0, c1, c2, c3⟩ := (hx.elem hk).at_
  have HD : Hid ((tbl rows).getD k default = (rows.getD k default).data) := Lib.hid (tbl_at hk)
  have hrk := hx.ok _ (mem_getD (d := default) hk)
  have IH := Lib.hid ih
  have HG := Lib.hid hgood
  have HM := Lib.hid hmay
  have HX := Lib.hid hx
  clear ih hgood hmay hh hx
  generalize rows.getD k default = r at c0 c1 c2 c3 HD hrk
  obtain ⟨κ, el, ma, pa, pc, parts⟩ := r
  simp only at c0 c1 c2 c3
  have hlp := Nat.le_trans hrk.hdr.fit hrk.hdr.cap
  unfold maxLen at hlp
  simp only at hlp
  have HK := Lib.hid hrk
  clear hrk
  have hb0 : Below w.heap.size w (w.alloc (.cells #[.int .u8 κ, .int .i64 el, .int .i64 ma, .slice pa parts.length pc] 31)) := (Below.refl _ _).alloc (Nat.le_refl _) _
  have HB := Lib.hid hb0
  have HN := Lib.hid (Blk.new w 31 #[.int .u8 κ, .int .i64 el, .int .i64 ma, .slice pa parts.length pc])
  clear hb0
  by_cases e4 : κ = 4
  · subst e4
    have hlow := may_struct HM.out (by rw [HD.out]; rfl)
    rw [HD.out] at hlow
    have HL := Lib.hid hlow
    have hsl := struct_len HM.out (by rw [HD.out]; rfl)
    rw [HD.out] at hsl
    simp only [TyR.data] at hsl
    clear hlow
    go_enter Try.func43, Try.ntmps43
    go_wp2_with fail
    go_loopw [6, 7] (fun v i wr => ∃ j : Nat, j ≤ parts.length ∧ i = .int .i64 j ∧ OwnInts wr w.heap.size v ((parts.take j).flatMap (ofP (tbl rows))) ∧ Blk wr w.heap.size 31 #[.int .u8 4, .int .i64 el, .int .i64 ma, .slice pa parts.length pc] ∧ Below w.heap.size w wr) (fun _ i _ => parts.length - (intOf i).toNat)
    case atStart => exact ⟨0, Nat.zero_le _, rfl, OwnInts.nil _ _, HN.out, HB.out⟩
    case round =>
      obtain ⟨j, hj, rfl, hown, hblk, hbel⟩ := hrel
      have k3 : wr.cell? ⟨w.heap.size, 3, none⟩ = some (.slice pa parts.length pc) := hblk.cells 3
      have HO := Lib.hid hown
      have HBk := Lib.hid hblk
      have HBl := Lib.hid hbel
      have hz := hblk.lt
      clear hown hblk hbel
      by_cases hlt : j < parts.length
      · obtain ⟨b2, off2, x, hpa, hcell, HE⟩ := (HK.out.keep HBl.out).ints.cell hlt
        simp only at hpa
        subst hpa
        have hxm : x ∈ parts := by have := mem_getD (d := (0 : Int)) hlt; rwa [HE.out] at this
        obtain ⟨hx0, hx1⟩ := HL.out x hxm
        obtain ⟨i, rfl⟩ := Int.eq_ofNat_of_zero_le hx0
        have hik : i < k := by omega
        have HC := Lib.hid (IH.out i hik wr (HX.out.on HBl.out) (by omega) (allGood_mono HG.out (by omega)) (good_may (allGood_iff.1 HG.out i hik)))
        have hle : (ofT (tbl rows) i).length ≤ 32 := good_le (allGood_iff.1 HG.out i hik)
        have hacc : ((parts.take j).flatMap (ofP (tbl rows))).length ≤ 256 := by
          have := take_le HG.out HM.out (by rw [HD.out]; rfl) j
          rw [HD.out] at this
          exact this
        clear hxm
        go_wp2_with fail
        refine HC.out.mono ?_
        rintro e w1 ⟨v1, rfl, hown1, hb1⟩
        obtain ⟨A1, c1', rfl, hnil, hints, _, _⟩ := hown1.form
        have hO1 := HO.out.keep hb1
        have hBl1 := HBl.out.trans (hb1.mono HBl.out.size)
        have hBk1 := HBk.out.beneath hb1
        have HI := Lib.hid hints
        have HO1 := Lib.hid hO1
        have HBl1 := Lib.hid hBl1
        have HBk1 := Lib.hid hBk1
        have HNil := Lib.hid hnil
        clear hown1 hb1 hnil hints hO1 hBl1 hBk1 HC
        go_wp2_with (at_builtin; refine wpList_appN rfl (.tmp 24) (.tmp 31) rfl w.heap.size wr.heap.size w1.heap.size _ _ rfl HO1.out A1 _ c1' _ rfl rfl HNil.out HI.out (by omega) HBl1.out.size ?_; intro v' w2 hown2 hg2)
        have hB2 := HBl1.out.grown hg2 HBl1.out.size HO1.out.base
        have hK2 := HBk1.out.grown hg2 (HO1.out.ne HBk1.out (by decide))
        have HO2 := Lib.hid hown2
        have HB2 := Lib.hid hB2
        have HK2 := Lib.hid hK2
        clear hown2 hg2 hB2 hK2
        go_wp2_with fail
        go_roundw
        case rel => exact ⟨j + 1, by omega, by go_num, by rw [flat_snoc hlt, HE.out]; exact HO2.out, HK2.out, HB2.out⟩
        case measure => simp [intOf]; omega
      · go_wp2_with fail
        go_ret
        refine ⟨_, rfl, ?_, HBl.out⟩
        rw [of_struct (by rw [HD.out]; rfl) (by rw [HD.out]; exact HL.out), HD.out]
        have := HO.out
        rw [List.take_of_length_le (by omega)] at this
        exact this
  by_cases e5 : κ = 5
  · subst e5
    have hlow := may_array HM.out (by rw [HD.out]; rfl)
    rw [HD.out] at hlow
    simp only [TyR.data] at hlow
    obtain ⟨el0, elk, ma1, ma16⟩ := hlow
    obtain ⟨i, rfl⟩ := Int.eq_ofNat_of_zero_le el0
    obtain ⟨m, rfl⟩ := Int.eq_ofNat_of_zero_le (show 0 ≤ ma by omega)
    have hik : i < k := by omega
    have hle : (ofT (tbl rows) i).length ≤ 32 := good_le (allGood_iff.1 HG.out i hik)
    go_enter Try.func43, Try.ntmps43
    go_wp2_with fail
    go_loopw [8, 9] (fun v i' wr => ∃ j : Nat, j ≤ m ∧ i' = .int .i64 j ∧ OwnInts wr w.heap.size v ((List.replicate j (ofT (tbl rows) i)).flatten) ∧ Blk wr w.heap.size 31 #[.int .u8 5, .int .i64 i, .int .i64 m, .slice pa parts.length pc] ∧ Below w.heap.size w wr) (fun _ i _ => m - (intOf i).toNat)
    case atStart => exact ⟨0, Nat.zero_le _, rfl, OwnInts.nil _ _, HN.out, HB.out⟩
    case round =>
      obtain ⟨j, hj, rfl, hown, hblk, hbel⟩ := hrel
      have k1 : wr.cell? ⟨w.heap.size, 1, none⟩ = some (.int .i64 i) := hblk.cells 1
      have k2 : wr.cell? ⟨w.heap.size, 2, none⟩ = some (.int .i64 m) := hblk.cells 2
      have HO := Lib.hid hown
      have HBk := Lib.hid hblk
      have HBl := Lib.hid hbel
      have hz := hblk.lt
      clear hown hblk hbel
      by_cases hlt : j < m
      · have HC := Lib.hid (IH.out i hik wr (HX.out.on HBl.out) (by omega) (allGood_mono HG.out (by omega)) (good_may (allGood_iff.1 HG.out i hik)))
        have hacc : ((List.replicate j (ofT (tbl rows) i)).flatten).length ≤ 512 := by
          rw [rep_len]
          have := Nat.mul_le_mul (show j ≤ 16 by omega) hle
          omega
        go_wp2_with fail
        refine HC.out.mono ?_
        rintro e w1 ⟨v1, rfl, hown1, hb1⟩
        obtain ⟨A1, c1', rfl, hnil, hints, _, _⟩ := hown1.form
        have hO1 := HO.out.keep hb1
        have hBl1 := HBl.out.trans (hb1.mono HBl.out.size)
        have hBk1 := HBk.out.beneath hb1
        have HI := Lib.hid hints
        have HO1 := Lib.hid hO1
        have HBl1 := Lib.hid hBl1
        have HBk1 := Lib.hid hBk1
        have HNil := Lib.hid hnil
        clear hown1 hb1 hnil hints hO1 hBl1 hBk1 HC
        go_wp2_with (at_builtin; refine wpList_appN rfl (.tmp 43) (.tmp 47) rfl w.heap.size wr.heap.size w1.heap.size _ _ rfl HO1.out A1 _ c1' _ rfl rfl HNil.out HI.out (by omega) HBl1.out.size ?_; intro v' w2 hown2 hg2)
        have hB2 := HBl1.out.grown hg2 HBl1.out.size HO1.out.base
        have hK2 := HBk1.out.grown hg2 (HO1.out.ne HBk1.out (by decide))
        have HO2 := Lib.hid hown2
        have HB2 := Lib.hid hB2
        have HK2 := Lib.hid hK2
        clear hown2 hg2 hB2 hK2
        go_wp2_with fail
        go_roundw
        case rel => exact ⟨j + 1, by omega, by go_num, by rw [rep_snoc]; exact HO2.out, HK2.out, HB2.out⟩
        case measure => simp [intOf]; omega
      · go_wp2_with fail
        go_ret
        refine ⟨_, rfl, ?_, HBl.out⟩
        rw [of_array (by rw [HD.out]; rfl) (by rw [HD.out]; exact ⟨by show (0 : Int) ≤ (i : Int); omega, elk⟩), HD.out]
        have := HO.out
        rw [show j = m by omega] at this
        exact this
  have HS := Lib.hid (of_scalar (t := tbl rows) (k := k) (by rw [HD.out]; exact e4) (by rw [HD.out]; exact e5))
  go_enter Try.func43, Try.ntmps43
  go_wp2_with fail
  go_ret
  refine ⟨_, rfl, ?_, ?_⟩
  · rw [HS.out]
    exact OwnInts.one _ _ (w.heap.size + 1) _ (by rw [World.size_alloc]; omega) (by rw [World.size_alloc])
  · exact ((Below.refl _ _).alloc (Nat.le_refl _) _).alloc (by simp) _
end Go.Proofs.Ytphoomlamdelkaa
