/-
  The walk of the law TypesAsks.
-/
import Derived.Test.YtphoomlamdelkaaTypesCells
import Derived.Test.YtphoomlamdelkaaTypSame
import Derived.Test.YtphoomlamdelkaaTypTwin
import Derived.Laws.OwnMore
namespace Go.Proofs.Ytphoomlamdelkaa
set_option linter.unusedVariables false
set_option linter.unusedSimpArgs false
open Go.ChangeShapes Go.WideShapes Go.ChangeAt Go.RowKit

theorem few_tbl {rows rows' : List TyR} (he : tbl rows' = tbl rows) (hf : ∀ r ∈ rows, r.parts.length ≤ 1000) : ∀ r ∈ rows', r.parts.length ≤ 1000 := fun r hr => by
  have h1 : r.data ∈ tbl rows' := List.mem_map.2 ⟨r, hr, rfl⟩
  rw [he] at h1
  obtain ⟨q, hq, e⟩ := List.mem_map.1 h1
  have := hf q hq
  have e2 : r.parts = q.parts := by
    have := congrArg Ty.parts e
    exact this.symm
  rw [e2]; exact this
theorem own_tab {w : World} {lo : Nat} {v : Value} {rows : List TyR} (h : OwnTys w lo v rows) : ∃ A c, v = .slice A rows.length c ∧ TabIn w A c rows := by
  obtain ⟨A, c, hv, hh, ht⟩ := h.form
  exact ⟨A, c, hv, hh, ht.more (Nat.zero_le _) (Nat.le_refl _)⟩
/-- A number laid into a list of the call's own. -/
theorem OwnInts.spot {w : World} {lo c : Nat} {A : Option Addr} {xs : List Int} (h : OwnInts w lo (.slice A xs.length c) xs) {j : Nat} (hj : j < xs.length) :
    ∃ g, A = some ⟨g, 0, none⟩ ∧ lo ≤ g ∧ w.cell? ⟨g, j, none⟩ = some (.int .i64 (xs.getD j 0)) ∧ w.frozen? ⟨g, j, none⟩ = false ∧ ∀ z : Int, OwnInts (w.setCell ⟨g, j, none⟩ (.int .i64 z)) lo (.slice A xs.length c) (xs.set j z) := by
  rcases h.2 with ⟨_, hn⟩ | ⟨g, cap, cur, he, hb, _⟩
  · exact absurd hn (by omega)
  · injection he with h1 _ h3
    subst h1
    have h' : w.ownsRow lo 3 1 (.slice (some ⟨g, 0, none⟩) xs.length c) xs.length (xs.map (Value.int .i64)) := h
    refine ⟨g, rfl, hb, ?_, h'.frozenAt j, fun z => ?_⟩
    · rw [h'.cellAt j (by omega), List.getElem?_map, List.getElem?_eq_getElem hj]
      simp [List.getD, List.getElem?_eq_getElem hj]
    · have h2 := (h'.stored j (.int .i64 z)).1
      unfold OwnInts
      rw [List.length_set, List.map_set]
      exact h2

set_option maxRecDepth 100000 in
set_option maxHeartbeats 3200000 in
theorem walk_TypesAsks {w : World} {A : Option Addr} {c : Nat} {rows : List TyR} (h : TabIn w A c rows) (k : Int) (n : Int) (hn : (Lit.int .i64 n).wf = true) :
    Calls Try.prog 6 #[.slice A rows.length c, .int .i64 k, .int .i64 n] w fun e w' => e = .returned (.bool true) ∧ Below w.heap.size w w' := by
  have HX := Lib.hid h
  have hn2 : n ≤ 9223372036854775807 := by
    simp only [Lit.wf, Bool.and_eq_true, decide_eq_true_eq] at hn
    have h2 : IntKind.i64.max = 9223372036854775807 := by decide
    omega
  clear h hn
  cases hgr : greatT rows with
  | true =>
    have HGR := Lib.hid hgr
    clear hgr
    go_enter Try.func6, Try.ntmps6
    go_wp2_with fail
    refine (great_is HX.out.hdr HX.out.rows HGR.out).mono ?_
    rintro e w1 ⟨rfl, rfl⟩
    go_wp2_with fail
    go_ret
    exact ⟨rfl, Below.refl _ _⟩
  | false =>
    have HGR := Lib.hid hgr
    obtain ⟨hfew, hl20⟩ := few_of HX.out hgr
    have HF := Lib.hid hfew
    obtain ⟨er, her⟩ : ∃ er, askedT (tbl rows) k = er := ⟨_, rfl⟩
    obtain ⟨sc, hsc⟩ : ∃ sc, scalarT (tbl rows) k = sc := ⟨_, rfl⟩
    obtain ⟨ls, hls⟩ : ∃ ls, cellsT (tbl rows) k = ls := ⟨_, rfl⟩
    obtain ⟨p1, hp1⟩ : ∃ p1, (partT (tbl rows) k n).1 = p1 := ⟨_, rfl⟩
    obtain ⟨p2, hp2⟩ : ∃ p2, (partT (tbl rows) k n).2 = p2 := ⟨_, rfl⟩
    obtain ⟨o1, ho1⟩ : ∃ o1, (offsetT (tbl rows) k n).1 = o1 := ⟨_, rfl⟩
    obtain ⟨o2, ho2⟩ : ∃ o2, (offsetT (tbl rows) k n).2 = o2 := ⟨_, rfl⟩
    have hl32 : ls.length ≤ 32 := by
      rw [← hls]
      unfold cellsT
      split
      · rename_i h0; exact (asked_good h0).le
      · simp
    have HER := Lib.hid her
    have HSC := Lib.hid hsc
    have HLS := Lib.hid hls
    have HP1 := Lib.hid hp1
    have HP2 := Lib.hid hp2
    have HO1 := Lib.hid ho1
    have HO2 := Lib.hid ho2
    clear hgr hfew her hsc hls hp1 hp2 ho1 ho2
    go_enter Try.func6, Try.ntmps6
    go_wp2_with fail
    refine (great_is HX.out.hdr HX.out.rows HGR.out).mono ?_
    rintro e w1 ⟨rfl, rfl⟩
    go_wp2_with fail
    refine (rtwin_any HX.out (by omega) HF.out.few).mono ?_
    rintro e w1 ⟨v1, rows', rfl, hown1, he1, hb1⟩
    obtain ⟨A', c', rfl, htab1⟩ := own_tab hown1
    have HB1 := Lib.hid hb1
    have HE := Lib.hid he1
    have HW1 : Hid (TabFew w1 A' c' rows') := Lib.hid ⟨htab1, few_tbl he1 HF.out.few⟩
    clear hb1 hown1 htab1 he1
    go_wp2_with fail
    have hc := pscalarF_any HW1.out k
    rw [HE.out, HER.out, HSC.out] at hc
    refine hc.mono ?_
    clear hc
    rintro e w2 ⟨rfl, hb⟩
    have HW2 := Lib.hid (HW1.out.on hb)
    have HB2 := Lib.hid (HB1.out.trans (hb.mono HB1.out.size))
    clear hb
    go_wp2_with fail
    have hc := rscalar_any (HF.out.on HB2.out).tab k
    rw [HER.out, HSC.out] at hc
    refine hc.mono ?_
    clear hc
    rintro e w3 ⟨rfl, hb⟩
    have HW3 := Lib.hid (HW2.out.on hb)
    have HB3 := Lib.hid (HB2.out.trans (hb.mono HB2.out.size))
    clear hb
    go_wp2_with fail
    have hq0 : Below w3.heap.size w3 w3 := Below.refl _ _
    have HQ3 := Lib.hid hq0
    clear hq0
    have hc := pcellsF_any (HW3.out.on HQ3.out) k
    rw [HE.out, HER.out, HLS.out] at hc
    refine hc.mono ?_
    clear hc
    rintro e w4 ⟨va, rfl, ha, hb⟩
    obtain ⟨Aa, ca, rfl, hna, hia, hla, hma⟩ := ha.form
    have HHa : Hid (Hdr Aa ls.length ca) := Lib.hid ⟨hla, hma, hna⟩
    have HA4 := Lib.hid ha
    clear ha hna hia hla hma
    have HQ4 := Lib.hid (HQ3.out.trans (hb.mono HQ3.out.size))
    clear hb
    go_wp2_with fail
    have hc := rcells_any (HF.out.on (HB3.out.trans (HQ4.out.mono HB3.out.size))).tab k
    rw [HER.out, HLS.out] at hc
    refine hc.mono ?_
    clear hc
    rintro e w5 ⟨vb, rfl, ha, hb⟩
    have HA5 := Lib.hid (HA4.out.keep hb)
    obtain ⟨Ab, cb, rfl, hnb, hib, hlb, hmb⟩ := ha.form
    have HHb : Hid (Hdr Ab ls.length cb) := Lib.hid ⟨hlb, hmb, hnb⟩
    have HV5 := Lib.hid ha
    clear ha hnb hib hlb hmb
    have HQ5 := Lib.hid (HQ4.out.trans (hb.mono HQ4.out.size))
    clear hb
    go_wp2_with fail
    have hc := ppart_any (HW3.out.on HQ5.out) k n
    rw [HE.out, HP1.out, HP2.out] at hc
    refine hc.mono ?_
    clear hc
    rintro e w6 ⟨rfl, hb⟩
    have HA6 := Lib.hid (HA5.out.keep hb)
    have HV6 := Lib.hid (HV5.out.keep hb)
    have HQ6 := Lib.hid (HQ5.out.trans (hb.mono HQ5.out.size))
    clear hb
    go_wp2_with fail
    have hc := rpart_any (HF.out.on (HB3.out.trans (HQ6.out.mono HB3.out.size))).tab k n hn2
    rw [HP1.out, HP2.out] at hc
    refine hc.mono ?_
    clear hc
    rintro e w7 ⟨rfl, hb⟩
    have HA7 := Lib.hid (HA6.out.keep hb)
    have HV7 := Lib.hid (HV6.out.keep hb)
    have HQ7 := Lib.hid (HQ6.out.trans (hb.mono HQ6.out.size))
    clear hb
    go_wp2_with fail
    have hc := poffset_any (HW3.out.on HQ7.out) k n
    rw [HE.out, HO1.out, HO2.out] at hc
    refine hc.mono ?_
    clear hc
    rintro e w8 ⟨rfl, hb⟩
    have HA8 := Lib.hid (HA7.out.keep hb)
    have HV8 := Lib.hid (HV7.out.keep hb)
    have HQ8 := Lib.hid (HQ7.out.trans (hb.mono HQ7.out.size))
    clear hb
    go_wp2_with fail
    have hc := roffset_any (HF.out.on (HB3.out.trans (HQ8.out.mono HB3.out.size))).tab k n hn2
    rw [HO1.out, HO2.out] at hc
    refine hc.mono ?_
    clear hc
    rintro e w9 ⟨rfl, hb⟩
    have HA9 := Lib.hid (HA8.out.keep hb)
    have HV9 := Lib.hid (HV8.out.keep hb)
    have HQ9 := Lib.hid (HQ8.out.trans (hb.mono HQ8.out.size))
    clear hb
    go_wp2_with fail
    obtain ⟨Aa2, ca2, hea, hna, hia, hla, hma⟩ := HA9.out.form
    obtain ⟨Ab2, cb2, heb, hnb, hib, hlb, hmb⟩ := HV9.out.form
    have hs := sameInts_any HHa.out (by injection hea with e1 e2 e3; rw [e1]; exact hia) HHb.out (by injection heb with e1 e2 e3; rw [e1]; exact hib)
    rw [decide_eq_true (rfl : ls = ls)] at hs
    clear hea hna hia hla hma heb hnb hib hlb hmb
    refine hs.mono ?_
    clear hs
    rintro e w10 ⟨rfl, hb⟩
    have HA10 := Lib.hid (HA9.out.keep hb)
    have HQ10 := Lib.hid (HQ9.out.trans (hb.mono HQ9.out.size))
    clear hb
    go_wp2_with fail
    go_loopw [25] (fun x wr => ∃ (j : Nat) (ys : List Int), j ≤ ls.length ∧ ys.length = ls.length ∧ x = .int .i64 j ∧ OwnInts wr w3.heap.size (.slice Aa ls.length ca) ys ∧ Below w3.heap.size w3 wr) (fun x _ => ls.length - (intOf x).toNat)
    case atStart => exact ⟨0, ls, Nat.zero_le _, rfl, rfl, HA10.out, HQ10.out⟩
    case round =>
      obtain ⟨j, ys, hj, hyl, rfl, hown, hbel⟩ := hrel
      have HBL := Lib.hid hbel
      by_cases hlt : j < ls.length
      · rw [← hyl] at hown
        obtain ⟨g, rfl, hg, hcell, hfro, hset⟩ := hown.spot (j := j) (by omega)
        have hb2 : Below w3.heap.size w3 (wr.setCell ⟨g, j, none⟩ (.int .i64 (-7))) := hbel.setCell hg _
        have HS := Lib.hid (hset (-7))
        have HB2 := Lib.hid hb2
        clear hown hg hset hb2 hbel
        go_wp2_with fail
        go_roundw
        case rel => exact ⟨j + 1, ys.set j (-7), by omega, by rw [List.length_set]; exact hyl, by go_num, by have := HS.out; rw [hyl] at this; exact this, HB2.out⟩
        case measure => simp [intOf]; omega
      · clear hown hbel
        go_wp2_with fail
        have hc := rsame_any (HW3.out.on HBL.out).tab (HF.out.on (HB3.out.trans (HBL.out.mono HB3.out.size))).tab
        rw [HE.out, decide_eq_true (rfl : tbl rows = tbl rows)] at hc
        refine hc.mono ?_
        clear hc
        rintro e w99 ⟨rfl, hb⟩
        have HQ99 := Lib.hid (HB3.out.trans ((HBL.out.trans (hb.mono HBL.out.size)).mono HB3.out.size))
        clear hb
        go_wp2_with fail
        go_ret
        exact ⟨rfl, HQ99.out⟩
end Go.Proofs.Ytphoomlamdelkaa
