/-
  The reference's flat fields of a type: it calls itself.
-/
import Derived.Test.YtphoomlamdelkaaTypRef5
import Derived.Test.YtphoomlamdelkaaFlatPure
namespace Go.Proofs.Ytphoomlamdelkaa
set_option linter.unusedVariables false
set_option linter.unusedSimpArgs false
open Go.ChangeShapes Go.WideShapes Go.ChangeAt Go.RowKit

theorem fld_snoc {t : List Ty} {ps : List Int} {j : Nat} (h : j < ps.length) : (ps.take (j + 1)).flatMap (fldP t) = (ps.take j).flatMap (fldP t) ++ fldP t (ps.getD j 0) := by
  rw [take_succ_getD (d := 0) h, List.flatMap_append]; simp
theorem fld_take_le {t : List Ty} {k : Nat} (hg : Good t k) (h4 : (t.getD k default).kind = 4) (j : Nat) : (((t.getD k default).parts.take j).flatMap (fldP t)).length ≤ 256 := by
  have h1 := flatMap_le (fldP t) 32 ((t.getD k default).parts.take j) (fun x hx => by
    have h3 := hg.part (p := x) (by rw [partsT4 h4]; exact List.mem_of_mem_take hx)
    exact Nat.le_trans (fla_len h3).2.1 h3.le)
  have h2 := (struct_len hg.may h4).2
  have h3 : ((t.getD k default).parts.take j).length ≤ (t.getD k default).parts.length := by rw [List.length_take]; omega
  omega
set_option maxHeartbeats 1600000 in
theorem rfld_any {A : Option Addr} {c lo : Nat} {rows : List TyR} (hh : Hdr A rows.length c) : ∀ (k : Nat) (w : World), TypsAt w lo w.heap.size A rows → Good (tbl rows) k →
    Calls Try.prog 59 #[.slice A rows.length c, .int .i64 k] w (SomeInts (fldT (tbl rows) k) w) := by
  intro k
  induction k using Nat.strongRecOn with
  | _ k ih =>
  intro w hx hgd
  have hk : k < rows.length := by have := hgd.lt; rwa [tbl_len] at this
  have hl := Nat.le_trans hh.fit hh.cap
  unfold maxLen at hl
  have hh' := Lib.hid hh
  obtain ⟨b, off, rfl, hbl, c0, c1, c2, c3⟩ := (hx.elem hk).at_
  have HD : Hid ((tbl rows).getD k default = (rows.getD k default).data) := Lib.hid (tbl_at hk)
  have hrk := hx.ok _ (mem_getD (d := default) hk)
  have IH := Lib.hid ih
  have HG := Lib.hid hgd
  have HX := Lib.hid hx
  clear ih hgd hh hx
  generalize rows.getD k default = r at c0 c1 c2 c3 HD hrk
  obtain ⟨κ, el, ma, pa, pc, parts⟩ := r
  simp only at c0 c1 c2 c3
  have hlp := Nat.le_trans hrk.hdr.fit hrk.hdr.cap
  unfold maxLen at hlp
  simp only at hlp
  have HK := Lib.hid hrk
  clear hrk
  have hb0 : Below w.heap.size w (w.alloc (.cells #[.int .u8 κ, .int .i64 el, .int .i64 ma, .slice pa parts.length pc] 31)) := (Below.refl _ _).alloc (Nat.le_refl _) _
  have HB := Lib.hid hb0
  have HN := Lib.hid (Blk.new w 31 #[.int .u8 κ, .int .i64 el, .int .i64 ma, .slice pa parts.length pc])
  clear hb0
  by_cases e4 : κ = 4
  · subst e4
    have hlow := may_struct HG.out.may (by rw [HD.out]; rfl)
    rw [HD.out] at hlow
    have HL := Lib.hid hlow
    have hsl := struct_len HG.out.may (by rw [HD.out]; rfl)
    rw [HD.out] at hsl
    simp only [TyR.data] at hsl
    clear hlow
    go_enter Try.func59, Try.ntmps59
    go_wp2_with fail
    go_loopw [6, 7] (fun v i wr => ∃ j : Nat, j ≤ parts.length ∧ i = .int .i64 j ∧ OwnInts wr w.heap.size v ((parts.take j).flatMap (fldP (tbl rows))) ∧ Blk wr w.heap.size 31 #[.int .u8 4, .int .i64 el, .int .i64 ma, .slice pa parts.length pc] ∧ Below w.heap.size w wr) (fun _ i _ => parts.length - (intOf i).toNat)
    case atStart => exact ⟨0, Nat.zero_le _, rfl, OwnInts.nil _ _, HN.out, HB.out⟩
    case round =>
      obtain ⟨j, hj, rfl, hown, hblk, hbel⟩ := hrel
      have k3 : wr.cell? ⟨w.heap.size, 3, none⟩ = some (.slice pa parts.length pc) := hblk.cells 3
      have HO := Lib.hid hown
      have HBk := Lib.hid hblk
      have HBl := Lib.hid hbel
      have hz := hblk.lt
      clear hown hblk hbel
      by_cases hlt : j < parts.length
      · obtain ⟨b2, off2, x, hpa, hcell, HE⟩ := (HK.out.keep HBl.out).ints.cell hlt
        simp only at hpa
        subst hpa
        have hxm : x ∈ parts := by have := mem_getD (d := (0 : Int)) hlt; rwa [HE.out] at this
        obtain ⟨hx0, hx1⟩ := HL.out x hxm
        obtain ⟨i, rfl⟩ := Int.eq_ofNat_of_zero_le hx0
        have hik : i < k := by omega
        have HGi : Hid (Good (tbl rows) i) := Lib.hid (HG.out.part (p := (i : Int)) (by rw [partsT4 (by rw [HD.out]; rfl), HD.out]; exact hxm))
        have HC := Lib.hid (IH.out i hik wr (HX.out.on HBl.out) HGi.out)
        have hle : (fldT (tbl rows) i).length ≤ 32 := Nat.le_trans (fla_len HGi.out).2.1 HGi.out.le
        have hacc : ((parts.take j).flatMap (fldP (tbl rows))).length ≤ 256 := by
          have := fld_take_le HG.out (by rw [HD.out]; rfl) j
          rw [HD.out] at this
          exact this
        clear hxm
        go_wp2_with fail
        refine HC.out.mono ?_
        rintro e w1 ⟨v1, rfl, hown1, hb1⟩
        obtain ⟨A1, c1', rfl, hnil, hints, _, _⟩ := hown1.form
        have hO1 := HO.out.keep hb1
        have hBl1 := HBl.out.trans (hb1.mono HBl.out.size)
        have hBk1 := HBk.out.beneath hb1
        have HI := Lib.hid hints
        have HO1 := Lib.hid hO1
        have HBl1 := Lib.hid hBl1
        have HBk1 := Lib.hid hBk1
        have HNil := Lib.hid hnil
        clear hown1 hb1 hnil hints hO1 hBl1 hBk1 HC
        go_wp2_with (at_builtin; refine wpList_appN rfl (.tmp 31) (.tmp 38) rfl w.heap.size wr.heap.size w1.heap.size _ _ rfl HO1.out A1 _ c1' _ rfl rfl HNil.out HI.out (by omega) HBl1.out.size ?_; intro v' w2 hown2 hg2)
        have hB2 := HBl1.out.grown hg2 HBl1.out.size HO1.out.base
        have hK2 := HBk1.out.grown hg2 (HO1.out.ne HBk1.out (by decide))
        have HO2 := Lib.hid hown2
        have HB2 := Lib.hid hB2
        have HK2 := Lib.hid hK2
        clear hown2 hg2 hB2 hK2
        go_wp2_with fail
        go_roundw
        case rel => exact ⟨j + 1, by omega, by go_num, by rw [fld_snoc hlt, HE.out]; exact HO2.out, HK2.out, HB2.out⟩
        case measure => simp [intOf]; omega
      · go_wp2_with fail
        go_ret
        refine ⟨_, rfl, ?_, HBl.out⟩
        rw [(ff_struct (t := tbl rows) (k := k) (by rw [HD.out]; rfl) (by rw [HD.out]; exact HL.out)).1, HD.out]
        have := HO.out
        rw [List.take_of_length_le (by omega)] at this
        exact this
  by_cases e5 : κ = 5
  · subst e5
    have hlow := may_array HG.out.may (by rw [HD.out]; rfl)
    rw [HD.out] at hlow
    simp only [TyR.data] at hlow
    obtain ⟨el0, elk, ma1, ma16⟩ := hlow
    obtain ⟨i, rfl⟩ := Int.eq_ofNat_of_zero_le el0
    have hik : i < k := by omega
    have HGi : Hid (Good (tbl rows) i) := Lib.hid (HG.out.part (p := (i : Int)) (by rw [partsT5 (by rw [HD.out]; rfl), HD.out]; exact List.mem_replicate.2 ⟨by show ma.toNat ≠ 0; omega, rfl⟩))
    have HC := Lib.hid (IH.out i hik _ (HX.out.on HB.out) HGi.out)
    have HS : Hid (fldT (tbl rows) k = fldT (tbl rows) i) := Lib.hid (by rw [(ff_array (t := tbl rows) (k := k) (by rw [HD.out]; rfl) (by rw [HD.out]; exact ⟨by show (0 : Int) ≤ (i : Int); omega, elk⟩)).1, HD.out]; rfl)
    go_enter Try.func59, Try.ntmps59
    go_wp2_with fail
    refine HC.out.mono ?_
    rintro e w1 ⟨v1, rfl, hown1, hb1⟩
    have HO1 := Lib.hid (hown1.more HB.out.size)
    have HB1 := Lib.hid (HB.out.trans (hb1.mono HB.out.size))
    clear hown1 hb1
    go_wp2_with fail
    go_ret
    exact ⟨_, rfl, by rw [HS.out]; exact HO1.out, HB1.out⟩
  have HS := Lib.hid (ff_scalar (t := tbl rows) (k := k) (by rw [HD.out]; exact e4) (by rw [HD.out]; exact e5)).1
  go_enter Try.func59, Try.ntmps59
  go_wp2_with fail
  go_ret
  refine ⟨_, rfl, ?_, ?_⟩
  · rw [HS.out]
    exact OwnInts.one _ _ (w.heap.size + 1) _ (by rw [World.size_alloc]; omega) (by rw [World.size_alloc])
  · exact ((Below.refl _ _).alloc (Nat.le_refl _) _).alloc (by simp) _

/-- The answer of Fields. -/
def fieldsT (t : List Ty) (k : Int) : List Int := if askedT t k = 0 then fldT t k.toNat else []
theorem rcells_is {w : World} {A : Option Addr} {c : Nat} {rows : List TyR} (h : TabIn w A c rows) (k : Int) {e0 : Int} (he : askedT (tbl rows) k = e0) : Calls Try.prog 28 #[.slice A rows.length c, .int .i64 k] w (SomeInts2 (cellsT (tbl rows) k) e0 w) := he ▸ rcells_any h k
theorem rfields_any {w : World} {A : Option Addr} {c : Nat} {rows : List TyR} (h : TabIn w A c rows) (k : Int) : Calls Try.prog 36 #[.slice A rows.length c, .int .i64 k] w (SomeInts2 (fieldsT (tbl rows) k) (askedT (tbl rows) k) w) := by
  have hl := h.len
  obtain ⟨ch, hch⟩ : ∃ ch, askedT (tbl rows) k = ch := ⟨_, rfl⟩
  have HX := Lib.hid h
  have HC := Lib.hid hch
  have HS : Hid (fieldsT (tbl rows) k = if ch = 0 then fldT (tbl rows) k.toNat else []) := Lib.hid (by unfold fieldsT; rw [hch])
  rw [hch]
  clear h hch
  by_cases h0 : ch = 0
  · subst h0
    have HG := Lib.hid (asked_good HC.out)
    obtain ⟨_, k0, k1⟩ := asked_zero HC.out
    rw [tbl_len] at k1
    obtain ⟨i, rfl⟩ := Int.eq_ofNat_of_zero_le k0
    go_enter Try.func36, Try.ntmps36
    go_wp2_with fail
    refine (rcells_is HX.out _ HC.out).mono ?_
    rintro e w1 ⟨v0, rfl, _, hb1⟩
    have HB1 := Lib.hid hb1
    clear hb1
    go_wp2_with fail
    refine (rfld_any HX.out.hdr i w1 (HX.out.on HB1.out).rows HG.out).mono ?_
    rintro e w2 ⟨v1, rfl, hown1, hb2⟩
    have HO := Lib.hid (hown1.more HB1.out.size)
    have HB2 := Lib.hid (HB1.out.trans (hb2.mono HB1.out.size))
    clear hown1 hb2
    go_wp2_with fail
    go_ret2
    exact ⟨_, rfl, by rw [HS.out, if_pos trivial]; exact HO.out, HB2.out⟩
  · go_enter Try.func36, Try.ntmps36
    go_wp2_with fail
    refine (rcells_is HX.out k HC.out).mono ?_
    rintro e w1 ⟨v0, rfl, _, hb1⟩
    have HB1 := Lib.hid hb1
    clear hb1
    go_wp2_with fail
    go_ret2
    exact ⟨_, rfl, by rw [HS.out, if_neg h0]; exact OwnInts.nil _ _, HB1.out⟩
end Go.Proofs.Ytphoomlamdelkaa
