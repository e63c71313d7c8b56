/-
  The reference's flat field of a cell, step to a part, and their answers.
-/
import Derived.Test.YtphoomlamdelkaaFlatRef1
import Derived.Test.YtphoomlamdelkaaFlatPure2
import Derived.Deep.RegionHeld3
namespace Go.Proofs.Ytphoomlamdelkaa
set_option linter.unusedVariables false
set_option linter.unusedSimpArgs false
open Go.ChangeShapes Go.WideShapes Go.ChangeAt Go.RowKit

theorem rof_good {A : Option Addr} {c lo : Nat} {rows : List TyR} (hh : Hdr A rows.length c) {k : Nat} {w : World} (hx : TypsAt w lo w.heap.size A rows) (hg : Good (tbl rows) k) :
    Calls Try.prog 43 #[.slice A rows.length c, .int .i64 k] w (SomeInts (ofT (tbl rows) k) w) :=
  rof_any hh k w hx (by have := hg.lt; rwa [tbl_len] at this) hg.below hg.may
theorem rep_getD (l : List Int) : ∀ (m c : Nat), c < m * l.length → ((List.replicate m l).flatten).getD c 0 = l.getD (c % l.length) 0
  | 0, c, h => by omega
  | m + 1, c, h => by
    rw [List.replicate_succ, List.flatten_cons]
    by_cases hc : c < l.length
    · rw [getD_app_left _ _ hc, Nat.mod_eq_of_lt hc]
    · obtain ⟨j, rfl⟩ : ∃ j, c = l.length + j := ⟨c - l.length, by omega⟩
      rw [getD_app_right, rep_getD l m j (by rw [Nat.add_mul, Nat.one_mul] at h; omega), Nat.add_mod_left]
theorem of_pos {t : List Ty} {k : Nat} (h : Good t k) : 1 ≤ (ofT t k).length := List.length_pos_iff.2 (cells_spec k h).2
/-- The flat field of an array's cell is that of its element's. -/
theorem fla_elem {t : List Ty} {k i : Nat} (hg : Good t k) (h5 : (t.getD k default).kind = 5) (hi : i < (ofT t k).length) {e : Nat} (he : (t.getD k default).elem = e) :
    (flaT t k).getD i 0 = (flaT t e).getD (i % (ofT t e).length) 0 ∧ i % (ofT t e).length < (ofT t e).length := by
  obtain ⟨a1, a2, a3, a4⟩ := may_array hg.may h5
  obtain ⟨_, e2⟩ := ff_array h5 ⟨a1, a2⟩
  have e3 := of_array h5 ⟨a1, a2⟩
  have hge : Good t e := by
    have := hg.part (p := (t.getD k default).elem) (by rw [partsT5 h5]; exact List.mem_replicate.2 ⟨by omega, rfl⟩)
    rw [he, Int.toNat_natCast] at this
    exact this
  rw [e3, rep_len, he, Int.toNat_natCast] at hi
  have hl := (fla_len hge).1
  rw [e2, he]
  show ((List.replicate _ (flaT t (e : Int).toNat)).flatten).getD i 0 = _ ∧ _
  rw [Int.toNat_natCast, rep_getD _ _ _ (by rw [hl]; exact hi), hl]
  exact ⟨rfl, Nat.mod_lt _ (of_pos hge)⟩
theorem to_succ {t : List Ty} {k n : Nat} (h4 : (t.getD k default).kind = 4) (hn : n < (t.getD k default).parts.length) : toT t k (n + 1) = toT t k n + (fldP t ((t.getD k default).parts.getD n 0)).length := by
  unfold toT
  rw [if_neg (by omega), if_neg (by omega), take_succ_getD (d := 0) hn, List.map_append, List.sum_append]
  simp
theorem to_le {t : List Ty} {k : Nat} (hg : Good t k) (h4 : (t.getD k default).kind = 4) : ∀ n, n ≤ (t.getD k default).parts.length → toT t k n ≤ n * 32
  | 0, _ => by unfold toT; rw [if_neg (by omega)]; simp
  | n + 1, hn => by
    rw [to_succ h4 (by omega)]
    have h1 := to_le hg h4 n (by omega)
    have h2 : Good t ((t.getD k default).parts.getD n 0).toNat := hg.part (by rw [partsT4 h4]; exact mem_getD0 (by omega))
    have h3 : (fldP t ((t.getD k default).parts.getD n 0)).length ≤ 32 := Nat.le_trans (fla_len h2).2.1 h2.le
    omega
theorem to_zero {t : List Ty} {k : Nat} : toT t k 0 = 0 := by unfold toT; split <;> simp
theorem ahead_all {t : List Ty} {k : Nat} (hg : Good t k) (h4 : (t.getD k default).kind = 4) : aheadT t k (t.getD k default).parts.length = (ofT t k).length := by
  have h := ahead_len (t := t) (k := k) (partsT (t.getD k default)).length (Nat.le_refl _)
  rw [List.take_length, ← ofT_parts hg (.inl h4), partsT4 h4] at h
  exact h

set_option maxHeartbeats 3200000 in
theorem rat_any {A : Option Addr} {c lo : Nat} {rows : List TyR} (hh : Hdr A rows.length c) : ∀ (k : Nat) (w : World), TypsAt w lo w.heap.size A rows → Good (tbl rows) k → ∀ i, i < (ofT (tbl rows) k).length →
    Calls Try.prog 60 #[.slice A rows.length c, .int .i64 k, .int .i64 i] w fun e w' => e = .returned (.int .i64 ((flaT (tbl rows) k).getD i 0)) ∧ Below w.heap.size w w' := by
  intro k
  induction k using Nat.strongRecOn with
  | _ k ih =>
  intro w hx hgd i hi
  have hk : k < rows.length := by have := hgd.lt; rwa [tbl_len] at this
  have hl := Nat.le_trans hh.fit hh.cap
  unfold maxLen at hl
  have hle := hgd.le
  obtain ⟨b, off, rfl, hbl, c0, c1, c2, c3⟩ := (hx.elem hk).at_
  have HD : Hid ((tbl rows).getD k default = (rows.getD k default).data) := Lib.hid (tbl_at hk)
  have hrk := hx.ok _ (mem_getD (d := default) hk)
  have IH := Lib.hid ih
  have HH := Lib.hid hh
  have HG := Lib.hid hgd
  have HX := Lib.hid hx
  have HIL := Lib.hid hi
  have hi32 : i < 32 := by omega
  clear ih hgd hh hx hi hle
  generalize rows.getD k default = r at c0 c1 c2 c3 HD hrk
  obtain ⟨κ, el, ma, pa, pc, parts⟩ := r
  simp only at c0 c1 c2 c3
  have hlp := Nat.le_trans hrk.hdr.fit hrk.hdr.cap
  unfold maxLen at hlp
  simp only at hlp
  have HK := Lib.hid hrk
  clear hrk
  have hb0 : Below w.heap.size w (w.alloc (.cells #[.int .u8 κ, .int .i64 el, .int .i64 ma, .slice pa parts.length pc] 31)) := (Below.refl _ _).alloc (Nat.le_refl _) _
  have HB := Lib.hid hb0
  have HN := Lib.hid (Blk.new w 31 #[.int .u8 κ, .int .i64 el, .int .i64 ma, .slice pa parts.length pc])
  clear hb0
  by_cases e4 : κ = 4
  · subst e4
    have hlow := may_struct HG.out.may (by rw [HD.out]; rfl)
    rw [HD.out] at hlow
    have HL := Lib.hid hlow
    have hsl := struct_len HG.out.may (by rw [HD.out]; rfl)
    rw [HD.out] at hsl
    simp only [TyR.data] at hsl
    clear hlow
    have HALL : Hid (aheadT (tbl rows) k parts.length = (ofT (tbl rows) k).length) := Lib.hid (by
      have := ahead_all HG.out (by rw [HD.out]; rfl)
      rw [HD.out] at this
      exact this)
    have HPS : Hid (partsT ((tbl rows).getD k default) = parts) := Lib.hid (by rw [HD.out]; rfl)
    have HAS : Hid (∀ j, j < parts.length → aheadT (tbl rows) k (j + 1) = aheadT (tbl rows) k j + (ofP (tbl rows) (parts.getD j 0)).length) := Lib.hid fun j hj => by
      have := ahead_succ (t := tbl rows) (k := k) (n := j) (by rw [HPS.out]; exact hj)
      rwa [HPS.out] at this
    have HTS : Hid (∀ j, j < parts.length → toT (tbl rows) k (j + 1) = toT (tbl rows) k j + (fldP (tbl rows) (parts.getD j 0)).length) := Lib.hid fun j hj => by
      have := to_succ (t := tbl rows) (k := k) (n := j) (by rw [HD.out]; rfl) (by rw [HD.out]; exact hj)
      rw [HD.out] at this
      exact this
    have HTL : Hid (∀ j, j ≤ parts.length → toT (tbl rows) k j ≤ j * 32) := Lib.hid fun j hj => to_le HG.out (by rw [HD.out]; rfl) j (by rw [HD.out]; exact hj)
    have HFP : Hid (∀ j q, j < parts.length → q < (ofP (tbl rows) (parts.getD j 0)).length → (flaT (tbl rows) k).getD (aheadT (tbl rows) k j + q) 0 = (toT (tbl rows) k j : Int) + (flaP (tbl rows) (parts.getD j 0)).getD q 0) := Lib.hid fun j q hj hq => by
      have := (fla_part (t := tbl rows) (k := k) (n := j) (i := q) HG.out (by rw [HPS.out]; exact hj) (by rw [HPS.out]; exact hq)).2
      rwa [HPS.out] at this
    go_enter Try.func60, Try.ntmps60
    go_wp2_with fail
    go_loopw [2, 8, 9, 10] (fun cv a i' _ wr => ∃ j q : Nat, j ≤ parts.length ∧ i' = .int .i64 j ∧ cv = .int .i64 q ∧ Hid (i = aheadT (tbl rows) k j + q) ∧ a = .int .i64 (toT (tbl rows) k j) ∧ Blk wr w.heap.size 31 #[.int .u8 4, .int .i64 el, .int .i64 ma, .slice pa parts.length pc] ∧ Below w.heap.size w wr) (fun _ _ i _ _ => parts.length - (intOf i).toNat)
    case atStart => exact ⟨0, i, Nat.zero_le _, rfl, rfl, Lib.hid (by rw [ahead_zero]; omega), by rw [to_zero]; rfl, HN.out, HB.out⟩
    case round =>
      obtain ⟨j, q, hj, rfl, rfl, HQ, rfl, hblk, hbel⟩ := hrel
      have k3 : wr.cell? ⟨w.heap.size, 3, none⟩ = some (.slice pa parts.length pc) := hblk.cells 3
      have htl := HTL.out j hj
      have HBk := Lib.hid hblk
      have HBl := Lib.hid hbel
      have hz := hblk.lt
      clear hblk hbel
      have hq32 : q < 32 := by have := HQ.out; omega
      generalize hto : toT (tbl rows) k j = tj at htl
      have HTO := Lib.hid hto
      clear hto
      by_cases hlt : j < parts.length
      · obtain ⟨b2, off2, x, hpa, hcell, HE⟩ := (HK.out.keep HBl.out).ints.cell hlt
        simp only at hpa
        subst hpa
        have hxm : x ∈ parts := by have := mem_getD (d := (0 : Int)) hlt; rwa [HE.out] at this
        obtain ⟨hx0, hx1⟩ := HL.out x hxm
        obtain ⟨p, rfl⟩ := Int.eq_ofNat_of_zero_le hx0
        have hik : p < k := by omega
        have HGi : Hid (Good (tbl rows) p) := Lib.hid (HG.out.part (p := (p : Int)) (by rw [HPS.out]; exact hxm))
        have hsz32 : (ofT (tbl rows) p).length ≤ 32 := HGi.out.le
        have hfl32 : (fldT (tbl rows) p).length ≤ 32 := Nat.le_trans (fla_len HGi.out).2.1 hsz32
        have HC := Lib.hid (rof_good HH.out (HX.out.on HBl.out) HGi.out)
        clear hxm
        go_wp2_with fail
        refine HC.out.mono ?_
        rintro e w1 ⟨v1, rfl, hown1, hb1⟩
        obtain ⟨A1, c1', rfl, hnil, hints, _, _⟩ := hown1.form
        have HBl1 := Lib.hid (HBl.out.trans (hb1.mono HBl.out.size))
        have HBk1 := Lib.hid (HBk.out.beneath hb1)
        have n3 := HBk1.out.cells 3
        have hcell1 := (hb1.cell (p := ⟨b2, off2 + j, none⟩) (World.block_lt_of_cell? _ _ hcell)).trans hcell
        clear hown1 hb1 hnil hints HC hcell k3
        by_cases hin : q < (ofT (tbl rows) p).length
        · have HV : Hid ((flaT (tbl rows) k).getD i 0 = (tj : Int) + (flaT (tbl rows) p).getD q 0) := Lib.hid (by
            rw [HQ.out, HFP.out j q hlt (by rw [HE.out]; exact hin), HE.out, HTO.out]; rfl)
          have hbd : 0 ≤ (flaT (tbl rows) p).getD q 0 ∧ (flaT (tbl rows) p).getD q 0 < 32 := by
            have hl1 := (fla_len HGi.out).1
            obtain ⟨h1, h2, _⟩ := (fla_ok HGi.out).lo q (by omega)
            omega
          have HC := Lib.hid (IH.out p hik w1 (HX.out.on HBl1.out) HGi.out q hin)
          generalize (flaT (tbl rows) p).getD q 0 = fv at HC HV hbd
          obtain ⟨hf0, hf1⟩ := hbd
          go_wp2_with fail
          refine HC.out.mono ?_
          rintro e w2 ⟨rfl, hb2⟩
          have HB2 := Lib.hid (HBl1.out.trans (hb2.mono HBl1.out.size))
          clear hb2
          go_wp2_with fail
          go_ret
          exact ⟨ret_num (by rw [HV.out]), HB2.out⟩
        · have HC := Lib.hid (rfld_any HH.out p w1 (HX.out.on HBl1.out) HGi.out)
          go_wp2_with fail
          refine HC.out.mono ?_
          rintro e w2 ⟨v2, rfl, hown2, hb2⟩
          obtain ⟨A2, c2', rfl, _⟩ := hown2.form
          have HBl2 := Lib.hid (HBl1.out.trans (hb2.mono HBl1.out.size))
          have HBk2 := Lib.hid (HBk1.out.beneath hb2)
          clear hown2 hb2 HC
          go_wp2_with fail
          go_roundw
          case rel => exact ⟨j + 1, q - (ofT (tbl rows) p).length, by omega, by go_num, by go_num, Lib.hid (by rw [HAS.out j hlt, HE.out]; have := HQ.out; show _ = _ + (ofT (tbl rows) p).length + _; omega), by rw [HTS.out j hlt, HE.out, HTO.out]; show _ = Value.int .i64 ((tj + (fldT (tbl rows) p).length : Nat) : Int); go_num, HBk2.out, HBl2.out⟩
          case measure => simp [intOf]; omega
      · exfalso
        have h1 := HALL.out
        have h2 := HQ.out
        have h3 := HIL.out
        rw [show j = parts.length by omega] at h2
        omega
  by_cases e5 : κ = 5
  · subst e5
    have hlow := may_array HG.out.may (by rw [HD.out]; rfl)
    rw [HD.out] at hlow
    simp only [TyR.data] at hlow
    obtain ⟨el0, elk, ma1, ma16⟩ := hlow
    obtain ⟨p, rfl⟩ := Int.eq_ofNat_of_zero_le el0
    have hik : p < k := by omega
    have HGi : Hid (Good (tbl rows) p) := Lib.hid (HG.out.part (p := (p : Int)) (by rw [partsT5 (by rw [HD.out]; rfl), HD.out]; exact List.mem_replicate.2 ⟨by show ma.toNat ≠ 0; omega, rfl⟩))
    obtain ⟨hv, hm⟩ := fla_elem HG.out (by rw [HD.out]; rfl) HIL.out (e := p) (by rw [HD.out]; rfl)
    have HV := Lib.hid hv
    have hpos := of_pos HGi.out
    have h32 := HGi.out.le
    have HM := Lib.hid hm
    clear hv hm
    generalize hW : w.alloc (.cells #[.int .u8 5, .int .i64 (p : Int), .int .i64 ma, .slice pa parts.length pc] 31) = W at HB HN
    have HW := Lib.hid hW
    have n1 : W.cell? ⟨w.heap.size, 1, none⟩ = some (.int .i64 p) := HN.out.cells 1
    have HCL : Hid (∀ W', Below W.heap.size W W' → W'.cell? ⟨w.heap.size, 1, none⟩ = some (.int .i64 p)) := Lib.hid fun W' h => (HN.out.beneath h).cells 1
    have HTX : Hid (∀ W', Below W.heap.size W W' → TypsAt W' lo W'.heap.size (some ⟨b, off, none⟩) rows) := Lib.hid fun W' h => (HX.out.on HB.out).on h
    clear hW
    generalize hsz : (ofT (tbl rows) p).length = sz at hpos h32 HV HM
    have HSZ := Lib.hid hsz
    clear hsz
    obtain ⟨md, hmd⟩ : ∃ md : Nat, i % sz = md := ⟨_, rfl⟩
    have HMD : Hid ((i : Int).tmod sz = md) := Lib.hid (by rw [← hmd]; rfl)
    have HMD2 : Hid ((i : Int) % (sz : Int) = md) := Lib.hid (by rw [← hmd]; omega)
    rw [hmd] at HV HM
    clear hmd
    go_enter Try.func60, Try.ntmps60
    go_wp2_with fail
    rw [HW.out]
    have hmd1 := HMD.out
    have hmd2 : (i : Int) % (sz : Int) = md := HMD2.out
    have hmd3 : IntKind.i64.wrap (md : Int) = md := IntWalk.i64_in _ (by have := HM.out; omega)
    have hsz0 : ¬ (sz : Int) = 0 := by omega
    have hsz1 : ¬ sz = 0 := by omega
    go_region_held3 (fun w' => w'.cell? ⟨w.heap.size, 1, none⟩ = some (.int .i64 p)) (go_keep)
      (first
        | (go_at_call 43
           refine (rof_good HH.out (HTX.out _ (by exact (Below.refl _ _).drew)) HGi.out).mono ?_
           rintro e w1 ⟨v1, rfl, hown1, hb1⟩
           obtain ⟨A1, c1', hv1, _⟩ := hown1.form
           rw [HSZ.out] at hv1
           subst hv1
           have hb2 : Below W.heap.size W w1 := (Below.refl _ _).drew.trans hb1
           have HB1 := Lib.hid hb2
           have hcl := HCL.out w1 hb2
           clear hown1 hb1 hb2)
        | (go_at_call 60
           refine (IH.out p hik _ (HTX.out _ HB1.out) HGi.out md (by rw [HSZ.out]; exact HM.out)).mono ?_
           rintro e w2 ⟨rfl, hb3⟩
           have hcl2 := HCL.out w2 (HB1.out.trans (hb3.mono HB1.out.size))
           have HB3 := Lib.hid (HB1.out.trans (hb3.mono HB1.out.size))
           clear hb3))
    all_goals
      go_wp2_with fail
      go_ret
      exact ⟨ret_num (by rw [HV.out, List.getD_eq_getElem?_getD]), HB.out.trans (HB3.out.mono HB.out.size)⟩
  have HS := Lib.hid (ff_scalar (t := tbl rows) (k := k) (by rw [HD.out]; exact e4) (by rw [HD.out]; exact e5)).2
  have HO := Lib.hid (of_scalar (t := tbl rows) (k := k) (by rw [HD.out]; exact e4) (by rw [HD.out]; exact e5))
  have HI0 : Hid (i = 0) := Lib.hid (by have := HIL.out; rw [HO.out] at this; simpa using this)
  go_enter Try.func60, Try.ntmps60
  go_wp2_with fail
  go_ret
  exact ⟨ret_num (by rw [HS.out, HI0.out]; rfl), HB.out⟩

section
variable {w : World} {A : Option Addr} {c : Nat} {rows : List TyR}
set_option maxHeartbeats 800000 in
theorem rto_any (h : TabIn w A c rows) {k : Nat} (hg : Good (tbl rows) k) (n : Nat) (hn : n ≤ (partsT ((tbl rows).getD k default)).length) :
    Calls Try.prog 61 #[.slice A rows.length c, .int .i64 k, .int .i64 n] w fun e w' => e = .returned (.int .i64 (toT (tbl rows) k n)) ∧ Below w.heap.size w w' := by
  have hl := h.len
  have hk : k < rows.length := by have := hg.lt; rwa [tbl_len] at this
  have hn16 := Nat.le_trans hn hg.parts_le
  have HX := Lib.hid h
  have HG := Lib.hid hg
  have HN := Lib.hid hn
  have HD : Hid ((tbl rows).getD k default = (rows.getD k default).data) := Lib.hid (tbl_at hk)
  have hrow := h.row hk
  obtain ⟨b, off, rfl, hbl, c0, c1, c2, c3⟩ := (HX.out.rows.elem hk).at_
  generalize rows.getD k default = r at c0 c1 c2 c3 HD hrow
  obtain ⟨κ, el, ma, pa, pc, parts⟩ := r
  simp only at c0 c1 c2 c3
  have HR := Lib.hid hrow
  clear hrow h hg hn
  by_cases e5 : κ = 5
  · subst e5
    have HT : Hid (toT (tbl rows) k n = 0) := Lib.hid (by unfold toT; rw [if_pos (by rw [HD.out]; rfl)])
    go_enter Try.func61, Try.ntmps61
    go_wp2_with fail
    go_ret
    exact ⟨ret_num (by rw [HT.out]; rfl), Below.refl _ _⟩
  by_cases e4 : κ = 4
  · subst e4
    have HPS : Hid (partsT ((tbl rows).getD k default) = parts) := Lib.hid (by rw [HD.out]; rfl)
    have hnp : n ≤ parts.length := by have := HN.out; rwa [HPS.out] at this
    have HTS : Hid (∀ j, j < parts.length → toT (tbl rows) k (j + 1) = toT (tbl rows) k j + (fldP (tbl rows) (parts.getD j 0)).length) := Lib.hid fun j hj => by
      have := to_succ (t := tbl rows) (k := k) (n := j) (by rw [HD.out]; rfl) (by rw [HD.out]; exact hj)
      rw [HD.out] at this
      exact this
    have HTL : Hid (∀ j, j ≤ parts.length → toT (tbl rows) k j ≤ j * 32) := Lib.hid fun j hj => to_le HG.out (by rw [HD.out]; rfl) j (by rw [HD.out]; exact hj)
    have hlp := Nat.le_trans HR.out.hdr.fit HR.out.hdr.cap
    unfold maxLen at hlp
    simp only at hlp
    go_enter Try.func61, Try.ntmps61
    go_wp2_with fail
    go_loopw [7, 8] (fun a i wr => ∃ j : Nat, j ≤ n ∧ i = .int .i64 j ∧ a = .int .i64 (toT (tbl rows) k j) ∧ Below w.heap.size w wr) (fun _ i _ => n - (intOf i).toNat)
    case atStart => exact ⟨0, Nat.zero_le _, rfl, by rw [to_zero]; rfl, Below.refl _ _⟩
    case round =>
      obtain ⟨j, hj, rfl, rfl, hbel⟩ := hrel
      have htl := HTL.out j (Nat.le_trans hj hnp)
      generalize hto : toT (tbl rows) k j = tj at htl
      have HTO := Lib.hid hto
      have d0 := (hbel.cell (p := ⟨b, off + k * 4, none⟩) hbl).trans c0
      have d3 := (hbel.cell (p := ⟨b, off + k * 4 + 3, none⟩) hbl).trans c3
      have HB := Lib.hid hbel
      clear hto
      by_cases hlt : j < n
      · obtain ⟨b2, off2, x, hpa, hcell, HE⟩ := (HR.out.keep hbel).ints.cell (k := j) (by show j < parts.length; omega)
        simp only at hpa
        subst hpa
        have hjp : j < parts.length := by omega
        have hxm : x ∈ partsT ((tbl rows).getD k default) := by rw [HPS.out]; have := mem_getD (d := (0 : Int)) hjp; rwa [HE.out] at this
        have hx2 := HG.out.part hxm
        obtain ⟨x0, x1⟩ := HG.out.parts x hxm
        obtain ⟨p, rfl⟩ := Int.eq_ofNat_of_zero_le x0
        rw [Int.toNat_natCast] at hx2
        have hfl32 : (fldT (tbl rows) p).length ≤ 32 := Nat.le_trans (fla_len hx2).2.1 hx2.le
        have HC := Lib.hid (rfld_any HX.out.hdr p wr (HX.out.on hbel).rows hx2)
        clear hxm hx2 hbel
        go_wp2_with fail
        refine HC.out.mono ?_
        rintro e w2 ⟨v2, rfl, hown2, hb2⟩
        obtain ⟨A2, c2', rfl, _⟩ := hown2.form
        have HB2 := Lib.hid (HB.out.trans (hb2.mono HB.out.size))
        clear hown2 hb2 HC
        go_wp2_with fail
        go_roundw
        case rel => exact ⟨j + 1, by omega, by go_num, by rw [HTS.out j hjp, HE.out, HTO.out]; show _ = Value.int .i64 ((tj + (fldT (tbl rows) p).length : Nat) : Int); go_num, HB2.out⟩
        case measure => simp [intOf]; omega
      · clear hbel
        go_wp2_with fail
        go_ret
        exact ⟨ret_num (by rw [← HTO.out, show j = n by omega]), HB.out⟩
  have hn0 : n = 0 := by
    have := HN.out
    rw [HD.out, partsT0 (by exact e4) (by exact e5)] at this
    simpa using this
  subst hn0
  go_enter Try.func61, Try.ntmps61
  go_wp2_with fail
  go_loopw [7, 8] (fun a i wr => i = .int .i64 0 ∧ a = .int .i64 0 ∧ Below w.heap.size w wr) (fun _ i _ => 0)
  case atStart => exact ⟨rfl, rfl, Below.refl _ _⟩
  case round =>
    obtain ⟨rfl, rfl, hbel⟩ := hrel
    have HB := Lib.hid hbel
    clear hbel
    go_wp2_with fail
    go_ret
    exact ⟨ret_num (by rw [to_zero]; rfl), HB.out⟩

theorem rflat_any (h : TabIn w A c rows) (k n : Int) : Calls Try.prog 37 #[.slice A rows.length c, .int .i64 k, .int .i64 n] w fun e w' => e = .returned (.tuple #[.int .i64 (flatT (tbl rows) k n).1, .int .i64 (flatT (tbl rows) k n).2]) ∧ Below w.heap.size w w' := by
  have hl := h.len
  obtain ⟨ch, hch⟩ : ∃ ch, askedT (tbl rows) k = ch := ⟨_, rfl⟩
  have HX := Lib.hid h
  have HC := Lib.hid hch
  have HS : Hid (flatT (tbl rows) k n = if ch ≠ 0 then (0, ch) else if 0 ≤ n ∧ n < (ofT (tbl rows) k.toNat).length then ((flaT (tbl rows) k.toNat).getD n.toNat 0, 0) else (0, 2)) := Lib.hid (by unfold flatT; rw [hch])
  clear h hch
  by_cases h0 : ch = 0
  · subst h0
    have HG := Lib.hid (asked_good HC.out)
    obtain ⟨_, k0, k1⟩ := asked_zero HC.out
    rw [tbl_len] at k1
    obtain ⟨i, rfl⟩ := Int.eq_ofNat_of_zero_le k0
    rw [Int.toNat_natCast] at HG HS
    have hle := HG.out.le
    have HCV : Hid (cellsT (tbl rows) i = ofT (tbl rows) i) := Lib.hid (by unfold cellsT; rw [if_pos HC.out, Int.toNat_natCast])
    by_cases hin : 0 ≤ n ∧ n < (ofT (tbl rows) i).length
    · obtain ⟨n0, n1⟩ := hin
      obtain ⟨m, rfl⟩ := Int.eq_ofNat_of_zero_le n0
      have HM : Hid (m < (ofT (tbl rows) i).length) := Lib.hid (by omega)
      have HR : Hid (flatT (tbl rows) i m = ((flaT (tbl rows) i).getD m 0, 0)) := Lib.hid (by rw [HS.out, if_neg (by simp), if_pos ⟨n0, n1⟩, Int.toNat_natCast])
      go_enter Try.func37, Try.ntmps37
      go_wp2_with fail
      refine (rcells_is HX.out _ HC.out).mono ?_
      rw [HCV.out]
      rintro e w1 ⟨v1, rfl, hown1, hb1⟩
      obtain ⟨A1, c1, rfl, _⟩ := hown1.form
      have HB1 := Lib.hid hb1
      clear hb1 hown1
      go_wp2_with fail
      refine (rat_any HX.out.hdr i w1 (HX.out.on HB1.out).rows HG.out m HM.out).mono ?_
      rintro e w2 ⟨rfl, hb2⟩
      have HB2 := Lib.hid (HB1.out.trans (hb2.mono HB1.out.size))
      clear hb2
      go_wp2_with fail
      go_ret2
      exact ⟨by rw [HR.out]; rfl, HB2.out⟩
    · have HR : Hid (flatT (tbl rows) i n = (0, 2)) := Lib.hid (by rw [HS.out, if_neg (by simp), if_neg hin])
      have HIN := Lib.hid hin
      clear hin
      by_cases hn0 : n < 0
      all_goals
        go_enter Try.func37, Try.ntmps37
        go_wp2_with fail
        refine (rcells_is HX.out _ HC.out).mono ?_
        rw [HCV.out]
        rintro e w1 ⟨v1, rfl, hown1, hb1⟩
        obtain ⟨A1, c1, rfl, _⟩ := hown1.form
        have HB1 := Lib.hid hb1
        have hge : 0 ≤ n → ((ofT (tbl rows) i).length : Int) ≤ n := fun h => by have := HIN.out; omega
        clear hb1 hown1
      · clear hge
        go_wp2_with fail
        go_ret2
        exact ⟨by rw [HR.out]; rfl, HB1.out⟩
      · have hge2 := hge (by omega)
        clear hge
        go_wp2_with fail
        go_ret2
        exact ⟨by rw [HR.out]; rfl, HB1.out⟩
  · have HR : Hid (flatT (tbl rows) k n = (0, ch)) := Lib.hid (by rw [HS.out, if_pos h0])
    go_enter Try.func37, Try.ntmps37
    go_wp2_with fail
    refine (rcells_is HX.out k HC.out).mono ?_
    rintro e w1 ⟨v0, rfl, _, hb1⟩
    have HB1 := Lib.hid hb1
    clear hb1
    go_wp2_with fail
    go_ret2
    exact ⟨by rw [HR.out]; rfl, HB1.out⟩

theorem rstep_any (h : TabIn w A c rows) (k n : Int) (hn : n ≤ 9223372036854775807) : Calls Try.prog 38 #[.slice A rows.length c, .int .i64 k, .int .i64 n] w fun e w' => e = .returned (.tuple #[.int .i64 (stepT (tbl rows) k n).1, .int .i64 (stepT (tbl rows) k n).2]) ∧ Below w.heap.size w w' := by
  have HX := Lib.hid h
  have HP : Hid (Calls Try.prog 29 #[.slice A rows.length c, .int .i64 k, .int .i64 n] w fun e w' => e = .returned (.tuple #[.int .i64 (partT (tbl rows) k n).1, .int .i64 (partT (tbl rows) k n).2]) ∧ Below w.heap.size w w') := Lib.hid (rpart_any h k n hn)
  clear h
  obtain ⟨p1, hp1⟩ : ∃ p1, (partT (tbl rows) k n).1 = p1 := ⟨_, rfl⟩
  obtain ⟨p2, hp2⟩ : ∃ p2, (partT (tbl rows) k n).2 = p2 := ⟨_, rfl⟩
  rw [hp1, hp2] at HP
  have HO : Hid (stepT (tbl rows) k n = if p2 ≠ 0 then (0, p2) else (((toT (tbl rows) k.toNat n.toNat : Nat) : Int), 0)) := Lib.hid (by unfold stepT; rw [hp2])
  have H2 := Lib.hid hp2
  clear hp1 hp2
  by_cases h0 : p2 = 0
  · subst h0
    obtain ⟨ha, n0, n1⟩ := part_zero H2.out
    have HG := Lib.hid (asked_good ha)
    obtain ⟨_, k0, k1⟩ := asked_zero ha
    obtain ⟨i, rfl⟩ := Int.eq_ofNat_of_zero_le k0
    obtain ⟨m, rfl⟩ := Int.eq_ofNat_of_zero_le n0
    rw [Int.toNat_natCast] at HG n1
    have HM : Hid (m ≤ (partsT ((tbl rows).getD i default)).length) := Lib.hid (by omega)
    clear ha k0 n0 n1 k1
    go_enter Try.func38, Try.ntmps38
    go_wp2_with fail
    refine HP.out.mono ?_
    rintro e w1 ⟨rfl, hb1⟩
    have HB1 := Lib.hid hb1
    clear hb1
    go_wp2_with fail
    refine (rto_any (HX.out.on HB1.out) HG.out m HM.out).mono ?_
    rintro e w2 ⟨rfl, hb2⟩
    have HB2 := Lib.hid (HB1.out.trans (hb2.mono HB1.out.size))
    clear hb2
    go_wp2_with fail
    go_ret2
    exact ⟨by rw [HO.out]; rfl, HB2.out⟩
  · go_enter Try.func38, Try.ntmps38
    go_wp2_with fail
    refine HP.out.mono ?_
    rintro e w1 ⟨rfl, hb1⟩
    have HB1 := Lib.hid hb1
    clear hb1
    go_wp2_with fail
    go_ret2
    exact ⟨by rw [HO.out, if_pos h0]; rfl, HB1.out⟩
end
end Go.Proofs.Ytphoomlamdelkaa
