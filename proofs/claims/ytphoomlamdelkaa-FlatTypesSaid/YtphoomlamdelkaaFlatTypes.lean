/-
  The walk of the law FlatTypes.
-/
import Derived.Test.YtphoomlamdelkaaFlatLaw1
import Derived.Test.YtphoomlamdelkaaTypesAsks
namespace Go.Proofs.Ytphoomlamdelkaa
set_option linter.unusedVariables false
set_option linter.unusedSimpArgs false
open Go.ChangeShapes Go.WideShapes Go.ChangeAt Go.RowKit

/-- A row of truths of the call's own. -/
def OwnBs (w : World) (lo : Nat) (v : Value) (bs : List Bool) : Prop := w.ownsRow lo 4 1 v bs.length (bs.map Value.bool)
theorem boolInfo : (Try.prog.info? 4).map (fun i => (i.zero, i.size, i.bytes)) = some (some (.bool false), 1, 1) := by kernel_rfl
theorem OwnBs.spot {w : World} {lo c : Nat} {A : Option Addr} {bs : List Bool} (h : OwnBs w lo (.slice A bs.length c) bs) {j : Nat} (hj : j < bs.length) :
    ∃ g, A = some ⟨g, 0, none⟩ ∧ lo ≤ g ∧ w.cell? ⟨g, j, none⟩ = some (.bool (bs.getD j false)) ∧ w.frozen? ⟨g, j, none⟩ = false ∧ ∀ z : Bool, OwnBs (w.setCell ⟨g, j, none⟩ (.bool z)) lo (.slice A bs.length c) (bs.set j z) := by
  rcases h.2 with ⟨_, hn⟩ | ⟨g, cap, cur, he, hb, _⟩
  · exact absurd hn (by omega)
  · injection he with h1 _ h3
    subst h1
    have h' : w.ownsRow lo 4 1 (.slice (some ⟨g, 0, none⟩) bs.length c) bs.length (bs.map Value.bool) := h
    refine ⟨g, rfl, hb, ?_, h'.frozenAt j, fun z => ?_⟩
    · rw [h'.cellAt j (by omega), List.getElem?_map, List.getElem?_eq_getElem hj]
      simp [List.getD, List.getElem?_eq_getElem hj]
    · have h2 := (h'.stored j (.bool z)).1
      unfold OwnBs
      rw [List.length_set, List.map_set]
      exact h2
theorem OwnBs.keep {w w' : World} {lo : Nat} {v : Value} {bs : List Bool} (h : OwnBs w lo v bs) (hb : Below w.heap.size w w') : OwnBs w' lo v bs := ownsRow_keep h hb
theorem getD_set_b (l : List Bool) (i j : Nat) (h : i < l.length) : (l.set i true).getD j false = if j = i then true else l.getD j false := by
  by_cases e : j = i
  · subst e
    rw [if_pos rfl, List.getD_eq_getElem?_getD, List.getElem?_set_self h]; rfl
  · rw [if_neg e, List.getD_eq_getElem?_getD, List.getElem?_set_ne (fun h => e h.symm), List.getD_eq_getElem?_getD]
/-- What the table's own numbers are. -/
structure FT (t : List Ty) (i : Nat) (ls cs fs : List Int) : Prop where
  er : askedT t i = 0
  lsv : fieldsT t i = ls
  csv : cellsT t i = cs
  ok : FlaOk ls fs cs
  at_ : ∀ j, j < cs.length → flatT t i j = (fs.getD j 0, 0)
  l1 : 1 ≤ ls.length
  l2 : ls.length ≤ cs.length
  l3 : cs.length ≤ 32
  same : (∀ j, j < t.length → (t.getD j default).kind ≠ 5) → ls = cs
theorem ft_of {t : List Ty} {i : Nat} (h : askedT t i = 0) : ∃ ls cs fs, FT t i ls cs fs := by
  have hg := asked_good h
  rw [Int.toNat_natCast] at hg
  have hl := fla_len hg
  refine ⟨fldT t i, ofT t i, flaT t i, h, by unfold fieldsT; rw [if_pos h, Int.toNat_natCast], by unfold cellsT; rw [if_pos h, Int.toNat_natCast], fla_ok hg, fun j hj => ?_, hl.2.2, hl.2.1, hg.le, fun hn => fld_of hn hg⟩
  unfold flatT
  rw [if_neg (by rw [h]; simp), Int.toNat_natCast, if_pos ⟨by omega, by omega⟩, Int.toNat_natCast]
def arrTo (rows : List TyR) (j : Nat) : Bool := (rows.take j).any fun r => r.kind == 5
theorem arrTo_succ {rows : List TyR} {j : Nat} (h : j < rows.length) : arrTo rows (j + 1) = (arrTo rows j || (rows.getD j default).kind == 5) := by
  unfold arrTo
  rw [take_succ_getD (d := default) h, List.any_append]; simp
theorem arr_none {rows : List TyR} (h : arrTo rows rows.length = false) : ∀ j, j < (tbl rows).length → ((tbl rows).getD j default).kind ≠ 5 := by
  intro j hj e
  rw [tbl_len] at hj
  rw [tbl_at hj] at e
  unfold arrTo at h
  rw [List.take_length] at h
  have := List.any_eq_false.1 h _ (mem_getD (d := default) hj)
  apply this
  have e2 : (rows.getD j default).kind = 5 := e
  rw [e2]; rfl

section
variable {w : World} {A : Option Addr} {c : Nat} {rows : List TyR}
set_option maxRecDepth 100000 in
set_option maxHeartbeats 3200000 in
theorem ftypes_good (h : TabFew w A c rows) (hgr : greatT rows = false) {i : Nat} {ls cs fs : List Int} (hf : FT (tbl rows) i ls cs fs) :
    Calls Try.prog 10 #[.slice A rows.length c, .int .i64 i] w fun e w' => e = .returned (.bool true) ∧ Below w.heap.size w w' := by
  have HF := Lib.hid h
  have HGR := Lib.hid hgr
  have H := Lib.hid hf
  have hl1 := hf.l1
  have hl2 := hf.l2
  have hl3 := hf.l3
  have hrl := h.tab.len
  have hlf : fs.length = cs.length := hf.ok.len
  have HLF := Lib.hid hlf
  clear h hgr hf hlf
  obtain ⟨i0, hi, hz0, hz1, hz2⟩ := info_parts boolInfo
  have HI0 := Lib.hid hi
  have HZ0 := Lib.hid hz0
  have HZ1 := Lib.hid hz1
  have HZ2 := Lib.hid hz2
  clear hi hz0 hz1 hz2
  go_enter Try.func10, Try.ntmps10
  go_wp2_with fail
  refine (aliveF_any _).mono ?_
  rintro e w1 ⟨rfl, hb1⟩
  have HB1 := Lib.hid hb1
  clear hb1
  go_wp2_with fail
  refine (great_is (HF.out.tab.on HB1.out).hdr (HF.out.tab.on HB1.out).rows HGR.out).mono ?_
  rintro e w1 ⟨rfl, rfl⟩
  go_wp2_with fail
  refine (pfields_any (HF.out.on HB1.out) i).mono ?_
  rw [H.out.er, H.out.lsv]
  rintro e w2 ⟨v2, rfl, hown2, hb⟩
  have HB2 := Lib.hid (HB1.out.trans (hb.mono HB1.out.size))
  have HL2 := Lib.hid hown2
  clear hown2 hb
  go_wp2_with fail
  refine (pcellsF_any (HF.out.on HB2.out) i).mono ?_
  rw [H.out.er, H.out.csv]
  rintro e w3 ⟨v3, rfl, hown3, hb⟩
  have HB3 := Lib.hid (HB2.out.trans (hb.mono HB2.out.size))
  have hown2 := HL2.out.keep hb
  obtain ⟨A2, c2, rfl, hnil2, hints2, hle2, hcap2⟩ := hown2.form
  obtain ⟨A3, c3, rfl, hnil3, hints3, hle3, hcap3⟩ := hown3.form
  have HI2 := Lib.hid hints2
  have HI3 := Lib.hid hints3
  have HH2 : Hid (Hdr A2 ls.length c2) := Lib.hid ⟨hle2, hcap2, hnil2⟩
  have HH3 : Hid (Hdr A3 cs.length c3) := Lib.hid ⟨hle3, hcap3, hnil3⟩
  unfold maxLen at hcap2 hcap3
  clear hown2 hown3 hb hnil2 hnil3 hints2 hints3 HL2
  go_wp2_with (refine wpList_make_full _ rfl (.tmp 60) (.tmp 60) 50 rfl w3.heap.size 4 i0 (.bool false) 1 Try.underlying50 HI0.out HZ0.out HZ1.out .i64 .i64 ls.length ls.length ls.length rfl rfl rfl rfl (by rw [HZ2.out]; omega) (by unfold maxLen; omega) (Nat.le_refl _) ?_; intro w4 hown4 hg4; refine pause ?_)
  have hb4 : Below w3.heap.size w3 w4 := (Below.refl _ _).grown hg4 (Nat.le_refl _) (fun k hk => by cases hk)
  have hO4 : OwnBs w4 w3.heap.size (.slice (some ⟨w3.heap.size, 0, none⟩) ls.length ls.length) (List.replicate ls.length false) := by
    unfold OwnBs
    rw [List.length_replicate, List.map_replicate]
    have e1 : (madeCells (Value.bool false).cells (ls.length * 1)).toList = List.replicate ls.length (Value.bool false) := by
      show (madeCells #[.bool false] (ls.length * 1)).toList = _
      rw [made_one, Nat.mul_one]
    rw [← e1]
    exact hown4
  have HQ4 := Lib.hid hb4
  have HO4 := Lib.hid hO4
  clear hown4 hg4 hb4 hO4
  refine resume ?_
  go_wp2_with fail
  go_loopw [11] (fun x wr => ∃ (j : Nat) (bs : List Bool), j ≤ cs.length ∧ x = .int .i64 j ∧ Hid (bs.length = ls.length ∧ ∀ q, q < j → bs.getD (fs.getD q 0).toNat false = true) ∧ OwnBs wr w3.heap.size (.slice (some ⟨w3.heap.size, 0, none⟩) ls.length ls.length) bs ∧ Below w3.heap.size w3 wr) (fun x _ => cs.length - (intOf x).toNat)
  case atStart => exact ⟨0, _, Nat.zero_le _, rfl, Lib.hid ⟨List.length_replicate, fun q hq => absurd hq (by omega)⟩, HO4.out, HQ4.out⟩
  case round =>
    obtain ⟨j, bs, hj, rfl, HBS, hown, hbel⟩ := hrel
    have HBL := Lib.hid hbel
    have HOB := Lib.hid hown
    have HBF := Lib.hid (HB3.out.trans (hbel.mono HB3.out.size))
    clear hown hbel
    by_cases hlt : j < cs.length
    · obtain ⟨f0, f1, f2⟩ := H.out.ok.lo j (by rw [HLF.out]; exact hlt)
      have HAT := Lib.hid (H.out.at_ j hlt)
      obtain ⟨q, hq⟩ := Int.eq_ofNat_of_zero_le f0
      have HQV := Lib.hid hq
      rw [hq] at f1 f2 HAT
      rw [Int.toNat_natCast] at f2
      have hql : q < ls.length := by omega
      obtain ⟨b5, o5, x5, hA5, hcx5, HE5⟩ := (HI2.out.keep HBL.out).cell hql
      obtain ⟨b6, o6, x6, hA6, hcx6, HE6⟩ := (HI3.out.keep HBL.out).cell hlt
      have hx56 : x5 = x6 := by rw [← HE5.out, ← HE6.out]; exact f2
      subst hx56
      have z5 := World.block_lt_of_cell? _ _ hcx5
      have z6 := World.block_lt_of_cell? _ _ hcx6
      simp only at z5 z6
      subst hA5 hA6
      clear f0 f2 hq
      go_wp2_with fail
      refine (pflat_any (HF.out.on HBF.out) i j).mono ?_
      rw [HAT.out]
      rintro e w7 ⟨rfl, hb⟩
      have d5 := (hb.cell (p := ⟨b5, o5 + q, none⟩) z5).trans hcx5
      have d6 := (hb.cell (p := ⟨b6, o6 + j, none⟩) z6).trans hcx6
      have hO7 := HOB.out.keep hb
      rw [← HBS.out.1] at hO7
      obtain ⟨g7, hg7, hlo7, hcell7, hfro7, hset7⟩ := hO7.spot (j := q) (by rw [HBS.out.1]; exact hql)
      injection hg7 with hg7
      injection hg7 with hg7 _ _
      subst hg7
      have HO8 : Hid (∀ n, OwnBs ((w7.drewN n).setCell ⟨w3.heap.size, q, none⟩ (.bool true)) w3.heap.size (.slice (some ⟨w3.heap.size, 0, none⟩) ls.length ls.length) (bs.set q true)) := Lib.hid fun n => by
        obtain ⟨g8, hg8, _, _, _, hs8⟩ := (hO7.keep (belowDrewN (Below.refl _ _) n)).spot (j := q) (by rw [HBS.out.1]; exact hql)
        injection hg8 with hg8
        injection hg8 with hg8 _ _
        subst hg8
        have := hs8 true
        rwa [HBS.out.1] at this
      have HB8 : Hid (∀ n, Below w3.heap.size w3 ((w7.drewN n).setCell ⟨w3.heap.size, q, none⟩ (.bool true))) := Lib.hid fun n => (belowDrewN (HBL.out.trans (hb.mono HBL.out.size)) n).setCell (Nat.le_refl _) _
      have HBS8 : Hid ((bs.set q true).length = ls.length ∧ ∀ p, p < j + 1 → (bs.set q true).getD (fs.getD p 0).toNat false = true) := Lib.hid ⟨by rw [List.length_set]; exact HBS.out.1, fun p hp => by
        rw [getD_set_b _ _ _ (by rw [HBS.out.1]; exact hql)]
        by_cases hpj : p = j
        · subst hpj
          rw [if_pos (by rw [HQV.out]; rfl)]
        · split
          · rfl
          · exact HBS.out.2 p (by omega)⟩
      clear hO7 hlo7 hset7 hb hcx5 hcx6
      generalize bs.getD q false = bq at hcell7
      have hq0 : (0 : Int) ≤ (q : Int) := Int.natCast_nonneg _
      have hq1 : (q : Int) < (ls.length : Int) := f1
      have hj0 : (0 : Int) ≤ (j : Int) := Int.natCast_nonneg _
      have hj1 : (j : Int) < (cs.length : Int) := by omega
      have hd1 : decide ((q : Int) < 0) = false := by simp
      have hd2 : decide ((ls.length : Int) ≤ (q : Int)) = false := by simp; omega
      have hd3 : decide (ls.length ≤ q) = false := by simp; omega
      go_wp2_with fail
      go_quiet (fail)
      go_wp2_with fail
      go_roundw
      case rel => exact ⟨j + 1, bs.set q true, by omega, by go_num, HBS8, HO8.out _, HB8.out _⟩
      case measure => simp [intOf]; omega
    · have hjc : j = cs.length := by omega
      have HMET : Hid (∀ q, q < ls.length → bs.getD q false = true) := Lib.hid fun q hq => by
        obtain ⟨p, hp1, hp2⟩ := H.out.ok.met q hq
        have := HBS.out.2 p (by rw [hjc, ← HLF.out]; exact hp1)
        rwa [hp2, Int.toNat_natCast] at this
      have HLB : Hid (bs.length = ls.length) := Lib.hid HBS.out.1
      clear hjc HBS
      go_wp2_with fail
      go_loopw [14] (fun x wr2 => ∃ q : Nat, q ≤ ls.length ∧ x = .int .i64 q ∧ wr2 = wr) (fun x _ => ls.length - (intOf x).toNat)
      case atStart => exact ⟨0, Nat.zero_le _, rfl, rfl⟩
      case round =>
        obtain ⟨q, hq, rfl, rfl⟩ := hrel
        by_cases hlq : q < ls.length
        · have hO7 := HOB.out
          rw [← HLB.out] at hO7
          obtain ⟨g7, hg7, _, hcell7, _, _⟩ := hO7.spot (j := q) (by rw [HLB.out]; exact hlq)
          injection hg7 with hg7
          injection hg7 with hg7 _ _
          subst hg7
          rw [HMET.out q hlq] at hcell7
          clear hO7
          go_wp2_with fail
          go_roundw
          case rel => exact ⟨q + 1, by omega, by go_num, trivial⟩
          case measure => simp [intOf]; omega
        · go_wp2_with fail
          go_loopw [15, 16] (fun a x wr3 => ∃ p : Nat, p ≤ rows.length ∧ x = .int .i64 p ∧ Hid (a = .bool (arrTo rows p)) ∧ wr3 = wr) (fun _ x _ => rows.length - (intOf x).toNat)
          case atStart => exact ⟨0, Nat.zero_le _, rfl, Lib.hid rfl, rfl⟩
          case round =>
            obtain ⟨p, hp, rfl, HA, rfl⟩ := hrel
            have HBN : Hid (Below w.heap.size w wr) := HBF
            by_cases hlp : p < rows.length
            · obtain ⟨b9, o9, hA9, hb9, c0, c1, c2', c3'⟩ := (HF.out.tab.rows.elem hlp).at_
              subst hA9
              have d0 := (HBN.out.cell (p := ⟨b9, o9 + p * 4, none⟩) hb9).trans c0
              have HS9 := Lib.hid (arrTo_succ hlp)
              generalize (rows.getD p default).kind = κ at d0 HS9
              obtain ⟨av, hav⟩ : ∃ av, arrTo rows p = av := ⟨_, rfl⟩
              have HAV := Lib.hid hav
              obtain rfl := HA.out
              rw [hav] at HS9
              clear HA
              rw [hav]
              clear hav c0 c1 c2' c3'
              have hp0 : (0 : Int) ≤ (p : Int) := Int.natCast_nonneg _
              have hp1 : (p : Int) < (rows.length : Int) := by omega
              cases av with
              | true =>
                go_wp2_with fail
                go_roundw
                case rel => exact ⟨p + 1, by omega, by go_num, Lib.hid (by rw [HS9.out]; rfl), trivial⟩
                case measure => simp [intOf]; omega
              | false =>
                by_cases hκ : κ = 5
                · subst hκ
                  go_wp2_with fail
                  go_roundw
                  case rel => exact ⟨p + 1, by omega, by go_num, Lib.hid (by rw [HS9.out]; rfl), trivial⟩
                  case measure => simp [intOf]; omega
                · have hκ2 : ((κ : Int) == 5) = false := by simp; omega
                  have HK2 : Hid ((κ == 5) = false) := Lib.hid (by simpa using hκ)
                  clear hκ
                  go_wp2_with fail
                  go_roundw
                  case rel => exact ⟨p + 1, by omega, by go_num, Lib.hid (by rw [HS9.out, HK2.out]; rfl), trivial⟩
                  case measure => simp [intOf]; omega
            · have hpr : p = rows.length := by omega
              have HPR := Lib.hid hpr
              obtain ⟨av, hav⟩ : ∃ av, arrTo rows p = av := ⟨_, rfl⟩
              have HAV := Lib.hid hav
              obtain rfl := HA.out
              clear HA hpr
              rw [hav]
              clear hav
              cases av with
              | true =>
                go_wp2_with fail
                go_ret
                exact ⟨rfl, HBN.out⟩
              | false =>
                have hsm := H.out.same (arr_none (by rw [← HPR.out]; exact HAV.out))
                have hs := sameInts_any HH2.out (HI2.out.keep HBL.out) HH3.out (HI3.out.keep HBL.out)
                rw [decide_eq_true hsm] at hs
                have HS := Lib.hid hs
                clear hs hsm
                go_wp2_with fail
                refine HS.out.mono ?_
                rintro e w99 ⟨rfl, hb⟩
                have HB99 := Lib.hid (HBN.out.trans (hb.mono HBN.out.size))
                clear hb
                go_wp2_with fail
                go_ret
                exact ⟨rfl, HB99.out⟩
set_option maxRecDepth 100000 in
set_option maxHeartbeats 1600000 in
theorem walk_FlatTypes (h : TabIn w A c rows) (k : Int) :
    Calls Try.prog 10 #[.slice A rows.length c, .int .i64 k] w fun e w' => e = .returned (.bool true) ∧ Below w.heap.size w w' := by
  cases hgr : greatT rows with
  | true =>
    have HX := Lib.hid h
    have HGR := Lib.hid hgr
    clear h hgr
    go_enter Try.func10, Try.ntmps10
    go_wp2_with fail
    refine (aliveF_any _).mono ?_
    rintro e w1 ⟨rfl, hb1⟩
    have HB1 := Lib.hid hb1
    clear hb1
    go_wp2_with fail
    refine (great_is (HX.out.on HB1.out).hdr (HX.out.on HB1.out).rows HGR.out).mono ?_
    rintro e w1 ⟨rfl, rfl⟩
    go_wp2_with fail
    go_ret
    exact ⟨rfl, HB1.out⟩
  | false =>
    obtain ⟨hfew, hl20⟩ := few_of h hgr
    by_cases hch : askedT (tbl rows) k = 0
    · obtain ⟨_, k0, k1⟩ := asked_zero hch
      obtain ⟨i, rfl⟩ := Int.eq_ofNat_of_zero_le k0
      obtain ⟨ls, cs, fs, hf⟩ := ft_of hch
      exact ftypes_good hfew hgr hf
    · have HF := Lib.hid hfew
      have HGR := Lib.hid hgr
      have HFV : Hid (fieldsT (tbl rows) k = []) := Lib.hid (by unfold fieldsT; rw [if_neg hch])
      have HCV : Hid (cellsT (tbl rows) k = []) := Lib.hid (by unfold cellsT; rw [if_neg hch])
      obtain ⟨er, her⟩ : ∃ er, askedT (tbl rows) k = er := ⟨_, rfl⟩
      rw [her] at hch
      have HER := Lib.hid her
      clear her h hfew hgr
      go_enter Try.func10, Try.ntmps10
      go_wp2_with fail
      refine (aliveF_any _).mono ?_
      rintro e w1 ⟨rfl, hb1⟩
      have HB1 := Lib.hid hb1
      clear hb1
      go_wp2_with fail
      refine (great_is (HF.out.tab.on HB1.out).hdr (HF.out.tab.on HB1.out).rows HGR.out).mono ?_
      rintro e w1 ⟨rfl, rfl⟩
      go_wp2_with fail
      refine (pfields_any (HF.out.on HB1.out) k).mono ?_
      rw [HER.out, HFV.out]
      rintro e w2 ⟨v2, rfl, hown2, hb⟩
      obtain ⟨A2, c2, rfl, _⟩ := hown2.form
      have HB2 := Lib.hid (HB1.out.trans (hb.mono HB1.out.size))
      clear hown2 hb
      go_wp2_with fail
      refine (pcellsF_any (HF.out.on HB2.out) k).mono ?_
      rw [HER.out, HCV.out]
      rintro e w3 ⟨v3, rfl, hown3, hb⟩
      have HB3 := Lib.hid (HB2.out.trans (hb.mono HB2.out.size))
      clear hown3 hb
      go_wp2_with fail
      go_ret
      exact ⟨rfl, HB3.out⟩
end
end Go.Proofs.Ytphoomlamdelkaa
