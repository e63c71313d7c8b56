/-
  The program's may at the types of functions. The program's may at structs and arrays, and at what is no kind; may at any type. The program's Check, asked, Scalar of types. The program's small words for shapes; slices.IndexFunc, slices.ContainsFunc at instructions, blocks and functions. The program's words for shapes: may an end be; may an instruction's number be. The program's word for shapes: may an instruction be. The program's word for shapes: may an instruction be: its walk, part 1.
-/
import Derived.Test.YtcbhmpkginebaaaDoorMg8
import Derived.OwnWalk
import Derived.Laws.StructEq
import Derived.Deep.DeepCutAuto
namespace Go.Proofs.YtcbhmpkginebaaaDoor
set_option linter.unusedVariables false
set_option linter.unusedSimpArgs false
open Go.ChangeShapes Go.WideShapes Go.ChangeAt Go.RowKit

theorem mayFn_all {t : List Ty} {el ma : Int} {ps : List Int} : mayFnB t ⟨3, el, ma, ps⟩ = (decide (ma = 0) && (decide (ps.length ≤ 4) && ([el] ++ ps).all (plainB t))) := by
  unfold mayFnB
  rw [List.all_append]
  simp only [List.all_cons, List.all_nil, Bool.and_true]
  generalize ps.all (plainB t) = a
  generalize plainB t el = b
  generalize decide (ps.length ≤ 4) = c
  generalize decide (ma = 0) = d
  cases a <;> cases b <;> cases c <;> cases d <;> rfl
theorem plain_lower {t : List Ty} {l : List Int} (h : lowerB l t.length = false) : l.all (plainB t) = false := by
  cases hc : l.all (plainB t) with
  | false => rfl
  | true =>
    exfalso
    have : lowerB l t.length = true := lowerB_iff.2 fun n hn => by
      have := List.all_eq_true.1 hc n hn
      unfold plainB at this
      simp only [Bool.and_eq_true, decide_eq_true_eq] at this
      exact this.1
    rw [this] at h
    cases h

set_option maxHeartbeats 1600000 in
theorem may3_any {w : World} {A : Option Addr} {c : Nat} {rows : List TyR} {k : Nat} {S : Option Addr} {cs : Nat} (h : MayIn w A c rows k S cs) (hκ : (rows.getD k default).kind = 3) :
    Calls Tryd.prog 70 #[.slice A rows.length c, .int .i64 k, .slice S k cs] w (MayAns (tbl rows) k w) := by
  have hl := h.tab.len
  have hk := h.lt
  obtain ⟨b, off, rfl, hbl, c0, c1, c2, c3⟩ := (h.tab.rows.elem hk).at_
  have HM : Hid (mayT (tbl rows) k = mayX (tbl rows) (rows.getD k default).data k) := Lib.hid (by unfold mayT; rw [tbl_at hk])
  have HG := Lib.hid (good_scalar (t := tbl rows) (k := k) (by rw [tbl_at hk]; show (rows.getD k default).kind ≠ 4; omega) (by rw [tbl_at hk]; show (rows.getD k default).kind ≠ 5; omega))
  have hrk := h.tab.row hk
  have hfew := h.few _ (mem_getD (d := default) hk)
  have HI := Lib.hid h
  clear h
  generalize rows.getD k default = r at c0 c1 c2 c3 HM hrk hκ hfew
  obtain ⟨κ, el, ma, pa, pc, parts⟩ := r
  simp only at c0 c1 c2 c3 hκ hfew
  subst hκ
  have hlp := Nat.le_trans hrk.hdr.fit hrk.hdr.cap
  unfold maxLen at hlp
  simp only at hlp
  have HK := Lib.hid hrk
  clear hrk
  have HF := Lib.hid (mayFn_all (t := tbl rows) (el := el) (ma := ma) (ps := parts))
  have HX : Hid (mayT (tbl rows) k = mayFnB (tbl rows) ⟨3, el, ma, parts⟩) := HM
  clear HM
  by_cases h4 : (parts.length : Int) ≤ 4
  · have HH : Hid (∀ w2 : World, OwnInts (w2.alloc (.cells #[.int .i64 el] 3)) w.heap.size (.slice (some ⟨w2.heap.size, 0, none⟩) 1 1) [el] ∨ ¬ w.heap.size ≤ w2.heap.size) := Lib.hid fun w2 => by
      by_cases hle : w.heap.size ≤ w2.heap.size
      · exact .inl (OwnInts.one w2 _ w2.heap.size el hle rfl)
      · exact .inr hle
    have H4 : Hid (decide (parts.length ≤ 4) = true) := Lib.hid (by simp; omega)
    go_enter Tryd.func70, Tryd.ntmps70
    go_wp2_with fail
    refine (pplain_any ⟨3, el, ma, pa, pc, parts⟩ (by simpa using hlp)).mono ?_
    rintro e w1 ⟨rfl, hb1⟩
    have hkx : Blk w1 (w.heap.size + 1) 78 #[.int .u8 3, .int .i64 el, .int .i64 ma, .slice pa parts.length pc] := (Blk.new2 w _ _ _).beneath hb1
    have hkb : Blk w1 w.heap.size 32 #[.slice (some ⟨b, off, none⟩) rows.length c] := ((Blk.new w _ _).alloc _).beneath hb1
    have k0 := hkx.cells 0
    have k1 := hkx.cells 1
    have k3 := hkx.cells 3
    have KX := Lib.hid hkx
    have KB := Lib.hid hkb
    have HB := Lib.hid (below_new2 hb1)
    have hz := hb1.size
    simp only [World.size_alloc] at hz
    have k3a := (hkx.alloc (.cells #[.int .i64 el] 3)).cells 3
    clear hkx hkb hb1
    have HO1 : Hid (OwnInts (w1.alloc (.cells #[.int .i64 el] 3)) w.heap.size (.slice (some ⟨w1.heap.size, 0, none⟩) 1 1) [el]) := Lib.hid ((HH.out w1).resolve_right (fun h => h HB.out.size))
    have HB1 : Hid (Below w.heap.size w (w1.alloc (.cells #[.int .i64 el] 3))) := Lib.hid (HB.out.alloc HB.out.size _)
    clear HH
    have HPK : Hid (plainK (TyR.data ⟨3, el, ma, pa, pc, parts⟩) = decide (ma = 0)) := Lib.hid rfl
    rw [HPK.out]
    obtain ⟨pb, hpb⟩ : ∃ pb, decide (ma = 0) = pb := ⟨_, rfl⟩
    rw [hpb]
    have HP := Lib.hid hpb
    clear hpb HPK
    go_wp2_with (at_builtin; refine wpList_appN rfl (.tmp 40) (.tmp 42) rfl w.heap.size 0 w.heap.size _ [el] rfl HO1.out pa parts.length pc parts rfl rfl HK.out.hdr.nil (HK.out.ints.keep HB1.out) (by simp; omega) HB1.out.size ?_; intro v2 w2 hown2 hg2; refine pause ?_)
    have hb2 := HB1.out.grown hg2 HB1.out.size HO1.out.base
    have hkx2 := (Blk.alloc KX.out _).grown hg2 (HO1.out.ne (Blk.alloc KX.out _) (by decide))
    have hkb2 := (Blk.alloc KB.out _).grown hg2 (HO1.out.ne (Blk.alloc KB.out _) (by decide))
    obtain ⟨A2, c2', rfl, hnil2, hints2, hle2, hcap2⟩ := hown2.form
    have k0' := hkx2.cells 0
    have k1' := hkx2.cells 1
    have k3' := hkx2.cells 3
    have kb' := hkb2.cells 0
    have KB2 := Lib.hid hkb2
    have HB2 := Lib.hid hb2
    have HN2 : Hid (Hdr A2 ([el] ++ parts).length c2') := Lib.hid ⟨hle2, hcap2, hnil2⟩
    have HI2 := Lib.hid hints2
    clear k0 k1 k3 k3a KX KB hown2 hg2 hb2 hkx2 hkb2 hnil2 hints2 hle2 hcap2
    refine resume ?_
    cases pb with
    | false =>
      go_wp2_with fail
      all_goals go_ret2
      all_goals refine mayAns_of rfl ?_ (fun h => by cases h) HB2.out
      all_goals rw [HG.out.1, HX.out, HF.out, HP.out]
      all_goals rfl
    | true =>
      cases hth : lowerB ([el] ++ parts) rows.length with
      | false =>
        have HTH : Hid (lowerB ([el] ++ parts) rows.length = false) := Lib.hid hth
        have HPL : Hid (([el] ++ parts).all (plainB (tbl rows)) = false) := Lib.hid (plain_lower (by rw [tbl_len]; exact hth))
        clear hth
        go_wp2_with fail
        refine (there_any HN2.out HI2.out rows.length).mono ?_
        rw [HTH.out]
        rintro e w3 ⟨rfl, hb3⟩
        have HB3 := Lib.hid (HB2.out.trans (hb3.mono HB2.out.size))
        clear hb3
        go_wp2_with fail
        all_goals go_ret2
        all_goals refine mayAns_of rfl ?_ (fun h => by cases h) HB3.out
        all_goals rw [HG.out.1, HX.out, HF.out, HP.out, HPL.out, H4.out]
        all_goals rfl
      | true =>
        have HTH : Hid (lowerB ([el] ++ parts) rows.length = true) := Lib.hid hth
        clear hth
        obtain ⟨q, hq⟩ : ∃ q, ([el] ++ parts).all (plainB (tbl rows)) = q := ⟨_, rfl⟩
        have HAN : Hid (([el] ++ parts).any (fun x => !plainB (tbl rows) x) = !q) := Lib.hid (by rw [← hq, List.any_eq_not_all_not]; simp)
        have HQ := Lib.hid hq
        clear hq
        go_wp2_with fail
        refine (there_any HN2.out HI2.out rows.length).mono ?_
        rw [HTH.out]
        rintro e w3 ⟨rfl, hb3⟩
        have HB3 := Lib.hid (HB2.out.trans (hb3.mono HB2.out.size))
        have HI3 := Lib.hid ((HI2.out.keep hb3).more (Nat.le_refl _) hb3.size)
        have HAB : Hid (AnswersBy w3 88 #[.pointer (some ⟨w.heap.size, 0, none⟩)] ([el] ++ parts) (fun x => !plainB (tbl rows) x)) := Lib.hid ⟨enters_may, fun W x hbW hx => by
          obtain ⟨x0, x1⟩ := lowerB_iff.1 HTH.out x hx
          obtain ⟨i, rfl⟩ := Int.eq_ofNat_of_zero_le x0
          exact may1_any (HI.out.tab.on ((HB3.out).trans (hbW.mono HB3.out.size))) (by omega) (((KB2.out.beneath hb3).beneath hbW).cells 0)⟩
        clear hb3
        go_wp2_with fail
        refine (containsFunc_any HN2.out HI3.out _ _ _ HAB.out).mono ?_
        rw [HAN.out]
        rintro e w4 ⟨rfl, hb4⟩
        have HB4 := Lib.hid (HB3.out.trans (hb4.mono HB3.out.size))
        clear hb4
        go_wp2_with fail
        all_goals go_ret2
        all_goals refine mayAns_of rfl ?_ (fun _ => HG.out.2) HB4.out
        all_goals rw [HG.out.1, HX.out, HF.out, HP.out, H4.out, HQ.out]
        all_goals first | rfl | (simp [*]; done)
  · have HH : Hid (∀ w2 : World, OwnInts (w2.alloc (.cells #[.int .i64 el] 3)) w.heap.size (.slice (some ⟨w2.heap.size, 0, none⟩) 1 1) [el] ∨ ¬ w.heap.size ≤ w2.heap.size) := Lib.hid fun w2 => by
      by_cases hle : w.heap.size ≤ w2.heap.size
      · exact .inl (OwnInts.one w2 _ w2.heap.size el hle rfl)
      · exact .inr hle
    have H4 : Hid (decide (parts.length ≤ 4) = false) := Lib.hid (by simp; omega)
    go_enter Tryd.func70, Tryd.ntmps70
    go_wp2_with fail
    refine (pplain_any ⟨3, el, ma, pa, pc, parts⟩ (by simpa using hlp)).mono ?_
    rintro e w1 ⟨rfl, hb1⟩
    have hkx : Blk w1 (w.heap.size + 1) 78 #[.int .u8 3, .int .i64 el, .int .i64 ma, .slice pa parts.length pc] := (Blk.new2 w _ _ _).beneath hb1
    have hkb : Blk w1 w.heap.size 32 #[.slice (some ⟨b, off, none⟩) rows.length c] := ((Blk.new w _ _).alloc _).beneath hb1
    have k0 := hkx.cells 0
    have k1 := hkx.cells 1
    have k3 := hkx.cells 3
    have KX := Lib.hid hkx
    have KB := Lib.hid hkb
    have HB := Lib.hid (below_new2 hb1)
    have hz := hb1.size
    simp only [World.size_alloc] at hz
    have k3a := (hkx.alloc (.cells #[.int .i64 el] 3)).cells 3
    clear hkx hkb hb1
    have HO1 : Hid (OwnInts (w1.alloc (.cells #[.int .i64 el] 3)) w.heap.size (.slice (some ⟨w1.heap.size, 0, none⟩) 1 1) [el]) := Lib.hid ((HH.out w1).resolve_right (fun h => h HB.out.size))
    have HB1 : Hid (Below w.heap.size w (w1.alloc (.cells #[.int .i64 el] 3))) := Lib.hid (HB.out.alloc HB.out.size _)
    clear HH
    have HPK : Hid (plainK (TyR.data ⟨3, el, ma, pa, pc, parts⟩) = decide (ma = 0)) := Lib.hid rfl
    rw [HPK.out]
    obtain ⟨pb, hpb⟩ : ∃ pb, decide (ma = 0) = pb := ⟨_, rfl⟩
    rw [hpb]
    have HP := Lib.hid hpb
    clear hpb HPK
    go_wp2_with (at_builtin; refine wpList_appN rfl (.tmp 40) (.tmp 42) rfl w.heap.size 0 w.heap.size _ [el] rfl HO1.out pa parts.length pc parts rfl rfl HK.out.hdr.nil (HK.out.ints.keep HB1.out) (by simp; omega) HB1.out.size ?_; intro v2 w2 hown2 hg2; refine pause ?_)
    have hb2 := HB1.out.grown hg2 HB1.out.size HO1.out.base
    have hkx2 := (Blk.alloc KX.out _).grown hg2 (HO1.out.ne (Blk.alloc KX.out _) (by decide))
    have hkb2 := (Blk.alloc KB.out _).grown hg2 (HO1.out.ne (Blk.alloc KB.out _) (by decide))
    obtain ⟨A2, c2', rfl, hnil2, hints2, hle2, hcap2⟩ := hown2.form
    have k0' := hkx2.cells 0
    have k1' := hkx2.cells 1
    have k3' := hkx2.cells 3
    have kb' := hkb2.cells 0
    have KB2 := Lib.hid hkb2
    have HB2 := Lib.hid hb2
    have HN2 : Hid (Hdr A2 ([el] ++ parts).length c2') := Lib.hid ⟨hle2, hcap2, hnil2⟩
    have HI2 := Lib.hid hints2
    clear k0 k1 k3 k3a KX KB hown2 hg2 hb2 hkx2 hkb2 hnil2 hints2 hle2 hcap2
    refine resume ?_
    cases pb
    all_goals
      go_wp2_with fail
      all_goals go_ret2
      all_goals refine mayAns_of rfl ?_ (fun h => by cases h) HB2.out
      all_goals rw [HG.out.1, HX.out, HF.out, HP.out, H4.out]
      all_goals rfl
end Go.Proofs.YtcbhmpkginebaaaDoor
namespace Go.Proofs.YtcbhmpkginebaaaDoor
set_option linter.unusedVariables false
set_option linter.unusedSimpArgs false
open Go.ChangeShapes Go.WideShapes Go.ChangeAt Go.RowKit

theorem may0_any {w : World} {A : Option Addr} {c : Nat} {rows : List TyR} {k : Nat} {S : Option Addr} {cs : Nat} (h : MayIn w A c rows k S cs) (hκ : (rows.getD k default).kind < 1 ∨ 5 < (rows.getD k default).kind) :
    Calls Tryd.prog 70 #[.slice A rows.length c, .int .i64 k, .slice S k cs] w (MayAns (tbl rows) k w) := by
  have hl := h.tab.len
  have hk := h.lt
  obtain ⟨b, off, rfl, hbl, c0, c1, c2, c3⟩ := (h.tab.rows.elem hk).at_
  have HM : Hid (mayT (tbl rows) k = mayX (tbl rows) (rows.getD k default).data k) := Lib.hid (by unfold mayT; rw [tbl_at hk])
  have HD : Hid ((tbl rows).getD k default = (rows.getD k default).data) := Lib.hid (tbl_at hk)
  have hrk := h.tab.row hk
  have hfew := h.few _ (mem_getD (d := default) hk)
  have HI := Lib.hid h
  clear h
  generalize rows.getD k default = r at c0 c1 c2 c3 HM hrk hκ hfew HD
  obtain ⟨κ, el, ma, pa, pc, parts⟩ := r
  simp only at c0 c1 c2 c3 hκ hfew
  have hlp := Nat.le_trans hrk.hdr.fit hrk.hdr.cap
  unfold maxLen at hlp
  simp only at hlp
  clear hrk
  have HX : Hid (goodT (tbl rows) k = false) := Lib.hid (by unfold goodT; rw [HM.out, mayX_other _ _ _ (by show ¬ κ = 1; omega) (by show ¬ κ = 2; omega) (by show ¬ κ = 3; omega) (by show ¬ κ = 4; omega) (by show ¬ κ = 5; omega)]; rfl)
  go_enter Tryd.func70, Tryd.ntmps70
  go_wp2_with fail
  refine (pplain_any ⟨κ, el, ma, pa, pc, parts⟩ (by simpa using hlp)).mono ?_
  rintro e w1 ⟨rfl, hb1⟩
  have kx : Blk w1 (w.heap.size + 1) 78 #[.int .u8 κ, .int .i64 el, .int .i64 ma, .slice pa parts.length pc] := (Blk.new2 w _ _ _).beneath hb1
  have k0 := kx.cells 0
  have HB := Lib.hid (below_new2 hb1)
  have hz := hb1.size
  simp only [World.size_alloc] at hz
  clear kx hb1
  go_wp2_with fail
  all_goals go_ret2
  all_goals exact mayAns_of rfl HX.out.symm (fun h => by cases h) HB.out

theorem good_array {t : List Ty} {k : Nat} {el ma : Int} {ps : List Int} (hd : t.getD k default = ⟨5, el, ma, ps⟩) (h0 : 0 ≤ el) (h1 : el < k) (hm1 : 1 ≤ ma) (hm : ma ≤ 16) (hp : ps.length = 0) :
    ((ofT t k).length : Int) = ma * (ofT t el.toNat).length ∧ goodT t k = decide ((ofT t k).length ≤ 32) := by
  have h := of_array (t := t) (k := k) (by rw [hd]) (by rw [hd]; exact ⟨h0, h1⟩)
  rw [hd] at h
  refine ⟨?_, ?_⟩
  · rw [h, rep_len]
    show (((ma.toNat * (ofT t el.toNat).length : Nat)) : Int) = _
    rw [Int.natCast_mul, Int.toNat_of_nonneg (by omega)]
  · unfold goodT mayT
    rw [hd]
    show (decide (0 ≤ el) && (decide (el < k) && (decide (1 ≤ ma) && (decide (ma ≤ 16) && decide (ps.length = 0)))) && _) = _
    rw [decide_eq_true h0, decide_eq_true h1, decide_eq_true hm1, decide_eq_true hm, decide_eq_true hp]
    rfl
set_option maxHeartbeats 1600000 in
theorem may5_any {w : World} {A : Option Addr} {c : Nat} {rows : List TyR} {k : Nat} {S : Option Addr} {cs : Nat} (h : MayIn w A c rows k S cs) (hκ : (rows.getD k default).kind = 5) :
    Calls Tryd.prog 70 #[.slice A rows.length c, .int .i64 k, .slice S k cs] w (MayAns (tbl rows) k w) := by
  have hl := h.tab.len
  have hk := h.lt
  obtain ⟨b, off, rfl, hbl, c0, c1, c2, c3⟩ := (h.tab.rows.elem hk).at_
  have HM : Hid (mayT (tbl rows) k = mayX (tbl rows) (rows.getD k default).data k) := Lib.hid (by unfold mayT; rw [tbl_at hk])
  have HD : Hid ((tbl rows).getD k default = (rows.getD k default).data) := Lib.hid (tbl_at hk)
  have hrk := h.tab.row hk
  have hfew := h.few _ (mem_getD (d := default) hk)
  have HI := Lib.hid h
  clear h
  generalize rows.getD k default = r at c0 c1 c2 c3 HM hrk hκ hfew HD
  obtain ⟨κ, el, ma, pa, pc, parts⟩ := r
  simp only at c0 c1 c2 c3 hκ hfew
  subst hκ
  have HK := Lib.hid hrk
  clear hrk
  have HX : Hid (mayT (tbl rows) k = (decide (0 ≤ el) && (decide (el < k) && (decide (1 ≤ ma) && (decide (ma ≤ 16) && decide (parts.length = 0)))))) := HM
  clear HM
  have HA := Lib.hid (fun h0 h1 hm1 hm hp => good_array (t := tbl rows) (k := k) (el := el) (ma := ma) (ps := parts) HD.out h0 h1 hm1 hm hp)
  have HF : Hid (mayT (tbl rows) k = false → goodT (tbl rows) k = false) := Lib.hid (fun h => by unfold goodT; rw [h]; rfl)
  go_enter Tryd.func70, Tryd.ntmps70
  go_wp2_with fail
  refine (pplain_any ⟨5, el, ma, pa, pc, parts⟩ (by simp; omega)).mono ?_
  rintro e w1 ⟨rfl, hb1⟩
  have kx : Blk w1 (w.heap.size + 1) 78 #[.int .u8 5, .int .i64 el, .int .i64 ma, .slice pa parts.length pc] := (Blk.new2 w _ _ _).beneath hb1
  have k0 := kx.cells 0
  have k1 := kx.cells 1
  have k2 := kx.cells 2
  have KX := Lib.hid kx
  have HB := Lib.hid (below_new2 hb1)
  have hz := hb1.size
  simp only [World.size_alloc] at hz
  clear kx hb1
  have HPK : Hid (plainK (TyR.data ⟨5, el, ma, pa, pc, parts⟩) = decide (parts.length = 0)) := Lib.hid rfl
  rw [HPK.out]
  clear HPK
  by_cases hp0 : parts.length = 0
  · have HP0 := Lib.hid hp0
    rw [decide_eq_true hp0]
    clear hp0
    have HO : Hid (∀ w2 : World, IntsAt (w2.alloc (.cells #[.int .i64 el] 3)) 0 (w2.alloc (.cells #[.int .i64 el] 3)).heap.size (some ⟨w2.heap.size, 0, none⟩) [el] ∧ Hdr (some ⟨w2.heap.size, 0, none⟩) 1 1) := Lib.hid fun w2 => (own_hdr (OwnInts.one w2 0 w2.heap.size el (Nat.zero_le _) rfl)).symm
    by_cases hin : 0 ≤ el ∧ el < k
    · obtain ⟨el0, elk⟩ := hin
      have HL : Hid (lowerB [el] k = true) := Lib.hid (by rw [lowerB_one, decide_eq_true el0, decide_eq_true elk]; rfl)
      go_wp2_with fail
      refine (there_any (xs := [el]) (HO.out _).2 (HO.out _).1 k).mono ?_
      rw [HL.out]
      rintro e w2 ⟨rfl, hb2⟩
      have HB2 := Lib.hid (HB.out.trans ((below_new hb2).mono HB.out.size))
      have kx2 : Blk w2 (w.heap.size + 1) 78 #[.int .u8 5, .int .i64 el, .int .i64 ma, .slice pa parts.length pc] := (KX.out.alloc _).beneath hb2
      have m0 := kx2.cells 0
      have m1 := kx2.cells 1
      have m2 := kx2.cells 2
      clear k0 k1 k2 kx2 hb2
      by_cases hm : 1 ≤ ma ∧ ma ≤ 16
      · obtain ⟨ma1, ma16⟩ := hm
        obtain ⟨i, rfl⟩ := Int.eq_ofNat_of_zero_le el0
        have hik : i < k := by omega
        have hle : (ofT (tbl rows) i).length ≤ 32 := good_le (allGood_iff.1 HI.out.good i hik)
        have HG := Lib.hid (HA.out el0 elk ma1 ma16 HP0.out)
        rw [Int.toNat_natCast] at HG
        have hsz := (HI.out.sizes.keep HB2.out).cell (k := i) (by rw [sizes_len]; exact hik)
        obtain ⟨bs, os, y, rfl, hcy, HY⟩ := hsz
        have HYV : Hid (y = (ofT (tbl rows) i).length) := Lib.hid (by rw [← HY.out, sizes_at hik])
        have hy0 : 0 ≤ y ∧ y ≤ 32 := by have := HYV.out; omega
        obtain ⟨y0, y1⟩ := hy0
        have hmul : ma * y ≤ 512 ∧ 0 ≤ ma * y := by
          refine ⟨?_, Int.mul_nonneg (by omega) y0⟩
          have := Int.mul_le_mul ma16 y1 y0 (by omega)
          omega
        obtain ⟨mu1, mu0⟩ := hmul
        have hwr : IntKind.i64.wrap (ma * y) = ma * y := IntWalk.i64_in _ (by omega)
        have HMV : Hid (ma * y = (ofT (tbl rows) k).length) := Lib.hid (by rw [HYV.out]; exact HG.out.1.symm)
        go_wp2_with fail
        go_quiet (fail)
        go_wp2_with fail
        go_ret2
        exact mayAns_of rfl (by rw [HG.out.2, HMV.out, decide_eq_decide]; omega) (fun _ => HMV.out) (belowDrewN HB2.out _)
      · have HN := Lib.hid (HF.out (by rw [HX.out]; by_cases h1 : 1 ≤ ma
                                       · rw [decide_eq_false (fun h2 => hm ⟨h1, h2⟩)]; simp
                                       · rw [decide_eq_false h1]; simp))
        by_cases hm1 : ma < 1
        · clear hm
          go_wp2_with fail
          go_ret2
          exact mayAns_of rfl HN.out.symm (fun h => by cases h) HB2.out
        · have hq : decide (ma ≤ 16) = false := decide_eq_false (by omega)
          have hq1 : 1 ≤ ma := by omega
          clear hm hm1
          go_wp2_with fail
          go_ret2
          exact mayAns_of rfl HN.out.symm (fun h => by cases h) HB2.out
    · have HL : Hid (lowerB [el] k = false) := Lib.hid (by
        rw [lowerB_one]
        by_cases h0 : 0 ≤ el
        · rw [decide_eq_false (fun h2 => hin ⟨h0, h2⟩)]; simp
        · rw [decide_eq_false h0]; rfl)
      have HN := Lib.hid (HF.out (by rw [HX.out, ← Bool.and_assoc, ← lowerB_one, HL.out]; rfl))
      clear hin
      go_wp2_with fail
      refine (there_any (xs := [el]) (HO.out _).2 (HO.out _).1 k).mono ?_
      rw [HL.out]
      rintro e w2 ⟨rfl, hb2⟩
      have HB2 := Lib.hid (HB.out.trans ((below_new hb2).mono HB.out.size))
      clear hb2
      go_wp2_with fail
      all_goals go_ret2
      all_goals exact mayAns_of rfl HN.out.symm (fun h => by cases h) HB2.out
  · rw [decide_eq_false hp0]
    have HN := Lib.hid (HF.out (by rw [HX.out, decide_eq_false hp0]; simp))
    clear hp0
    go_wp2_with fail
    all_goals go_ret2
    all_goals exact mayAns_of rfl HN.out.symm (fun h => by cases h) HB.out

/-- The sizes of parts. -/
def psz (t : List Ty) (ps : List Int) : List Int := ps.map fun p => ((ofP t p).length : Int)
theorem psz_sum (t : List Ty) : ∀ ps : List Int, (psz t ps).sum = ((ps.flatMap (ofP t)).length : Int)
  | [] => rfl
  | p :: ps => by
    show ((ofP t p).length : Int) + (psz t ps).sum = _
    rw [psz_sum t ps, List.flatMap_cons, List.length_append]
    omega
theorem psz_snoc {t : List Ty} {ps : List Int} {j : Nat} (h : j < ps.length) : psz t (ps.take (j + 1)) = psz t (ps.take j) ++ [((ofP t (ps.getD j 0)).length : Int)] := by
  unfold psz
  rw [take_succ_getD (d := 0) h, List.map_append]; rfl
theorem psz_len (t : List Ty) (ps : List Int) : (psz t ps).length = ps.length := by simp [psz]
set_option maxHeartbeats 1600000 in
theorem may4_any {w : World} {A : Option Addr} {c : Nat} {rows : List TyR} {k : Nat} {S : Option Addr} {cs : Nat} (h : MayIn w A c rows k S cs) (hκ : (rows.getD k default).kind = 4) :
    Calls Tryd.prog 70 #[.slice A rows.length c, .int .i64 k, .slice S k cs] w (MayAns (tbl rows) k w) := by
  have hl := h.tab.len
  have hk := h.lt
  obtain ⟨b, off, rfl, hbl, c0, c1, c2, c3⟩ := (h.tab.rows.elem hk).at_
  have HM : Hid (mayT (tbl rows) k = mayX (tbl rows) (rows.getD k default).data k) := Lib.hid (by unfold mayT; rw [tbl_at hk])
  have HD : Hid ((tbl rows).getD k default = (rows.getD k default).data) := Lib.hid (tbl_at hk)
  have hrk := h.tab.row hk
  have hfew := h.few _ (mem_getD (d := default) hk)
  have HI := Lib.hid h
  clear h
  generalize rows.getD k default = r at c0 c1 c2 c3 HM hrk hκ hfew HD
  obtain ⟨κ, el, ma, pa, pc, parts⟩ := r
  simp only at c0 c1 c2 c3 hκ hfew
  subst hκ
  have HK := Lib.hid hrk
  clear hrk
  have HX : Hid (mayT (tbl rows) k = (decide (el = 0) && (decide (ma = 0) && (decide (1 ≤ parts.length) && (decide (parts.length ≤ 8) && lowerB parts k))))) := HM
  clear HM
  have HF : Hid (mayT (tbl rows) k = false → goodT (tbl rows) k = false) := Lib.hid (fun h => by unfold goodT; rw [h]; rfl)
  go_enter Tryd.func70, Tryd.ntmps70
  go_wp2_with fail
  refine (pplain_any ⟨4, el, ma, pa, pc, parts⟩ (by simp; omega)).mono ?_
  rintro e w1 ⟨rfl, hb1⟩
  have kx : Blk w1 (w.heap.size + 1) 78 #[.int .u8 4, .int .i64 el, .int .i64 ma, .slice pa parts.length pc] := (Blk.new2 w _ _ _).beneath hb1
  have k0 := kx.cells 0
  have k3 := kx.cells 3
  have KX := Lib.hid kx
  have HB := Lib.hid (below_new2 hb1)
  have hz := hb1.size
  simp only [World.size_alloc] at hz
  clear kx hb1
  have HPK : Hid (plainK (TyR.data ⟨4, el, ma, pa, pc, parts⟩) = (decide (el = 0) && decide (ma = 0))) := Lib.hid rfl
  rw [HPK.out]
  clear HPK
  obtain ⟨pb, hpb⟩ : ∃ pb, (decide (el = 0) && decide (ma = 0)) = pb := ⟨_, rfl⟩
  rw [hpb]
  have HP := Lib.hid hpb
  clear hpb
  cases pb with
  | false =>
    have HN := Lib.hid (HF.out (by rw [HX.out, ← Bool.and_assoc, HP.out]; rfl))
    go_wp2_with fail
    all_goals go_ret2
    all_goals exact mayAns_of rfl HN.out.symm (fun h => by cases h) HB.out
  | true =>
    cases hlow : lowerB parts k with
    | false =>
      have HL := Lib.hid hlow
      clear hlow
      have HN := Lib.hid (HF.out (by rw [HX.out, HL.out]; simp))
      go_wp2_with fail
      refine (there_any (HK.out.keep HB.out).hdr ((HK.out.keep HB.out).ints.more (Nat.le_refl _) HB.out.size) k).mono ?_
      simp only
      rw [HL.out]
      rintro e w2 ⟨rfl, hb2⟩
      have HB2 := Lib.hid (HB.out.trans (hb2.mono HB.out.size))
      clear hb2
      go_wp2_with fail
      all_goals go_ret2
      all_goals exact mayAns_of rfl HN.out.symm (fun h => by cases h) HB2.out
    | true =>
      have HL := Lib.hid hlow
      clear hlow
      have HPS : Hid (ofT (tbl rows) k = parts.flatMap (ofP (tbl rows))) := Lib.hid (by
        rw [of_struct (by rw [HD.out]; rfl) (by rw [HD.out]; exact lowerB_iff.1 HL.out), HD.out]; rfl)
      have HPB : Hid (∀ p ∈ parts, 0 ≤ p ∧ p < k ∧ (ofP (tbl rows) p).length ≤ 32) := Lib.hid fun p hp => by
        obtain ⟨p0, p1⟩ := lowerB_iff.1 HL.out p hp
        exact ⟨p0, p1, part_le HI.out.good ⟨p0, p1⟩⟩
      go_wp2_with fail
      refine (there_any (HK.out.keep HB.out).hdr ((HK.out.keep HB.out).ints.more (Nat.le_refl _) HB.out.size) k).mono ?_
      simp only
      rw [HL.out]
      rintro e w2 ⟨rfl, hb2⟩
      have KX2 := Lib.hid (KX.out.beneath hb2)
      have m3 := KX2.out.cells 3
      have hz2 := KX2.out.lt
      have HB2 := Lib.hid (HB.out.trans (hb2.mono HB.out.size))
      clear hb2 k0 k3 KX
      go_wp2_with fail
      go_loopw [12, 77] (fun v i wr => ∃ j : Nat, j ≤ parts.length ∧ i = .int .i64 j ∧ OwnInts wr w.heap.size v (psz (tbl rows) (parts.take j)) ∧ Blk wr (w.heap.size + 1) 78 #[.int .u8 4, .int .i64 el, .int .i64 ma, .slice pa parts.length pc] ∧ Below w.heap.size w wr) (fun _ i _ => parts.length - (intOf i).toNat)
      case atStart => exact ⟨0, Nat.zero_le _, rfl, OwnInts.nil _ _, KX2.out, HB2.out⟩
      case round =>
        obtain ⟨j, hj, rfl, hown, hblk, hbel⟩ := hrel
        have HO := Lib.hid hown
        have HBk := Lib.hid hblk
        have HBl := Lib.hid hbel
        clear hown hblk hbel
        by_cases hlt : j < parts.length
        · obtain ⟨bp, op, x, hpa, hcx, HE⟩ := (HK.out.keep HBl.out).ints.cell hlt
          simp only at hpa
          subst hpa
          obtain ⟨x0, x1, x2⟩ := HPB.out x (by have := mem_getD (d := (0 : Int)) hlt; rwa [HE.out] at this)
          obtain ⟨i, rfl⟩ := Int.eq_ofNat_of_zero_le x0
          have hik : i < k := by omega
          obtain ⟨bs, os, y, rfl, hcy, HY⟩ := (HI.out.sizes.keep HBl.out).cell (k := i) (by rw [sizes_len]; exact hik)
          have HYV : Hid (y = (ofP (tbl rows) (i : Int)).length) := Lib.hid (by rw [← HY.out, sizes_at hik]; rfl)
          have HLN : Hid ((psz (tbl rows) (parts.take j)).length ≤ 1000) := Lib.hid (by rw [psz_len, List.length_take]; omega)
          go_wp2_with (at_builtin; refine wpList_app1 rfl (.tmp 81) (.tmp 86) rfl w.heap.size _ _ rfl y HO.out rfl (by have := HLN.out; omega) HBl.out.size ?_; intro v' w3 hown3 hg3; refine pause ?_)
          have hB3 := (HBl.out.alloc HBl.out.size (.cells #[.int .i64 y] 3)).grown hg3 (by rw [World.size_alloc]; have := HBl.out.size; omega) HO.out.base
          have hK3 := (HBk.out.alloc (.cells #[.int .i64 y] 3)).grown hg3 ((OwnInts.keep HO.out ((Below.refl _ _).alloc (Nat.le_refl _) _)).ne (HBk.out.alloc (.cells #[.int .i64 y] 3)) (by decide))
          have HO3 := Lib.hid hown3
          have HB3 := Lib.hid hB3
          have HK3 := Lib.hid hK3
          clear hown3 hg3 hB3 hK3
          refine resume ?_
          go_wp2_with fail
          go_roundw
          case rel => exact ⟨j + 1, by omega, by go_num, by rw [psz_snoc hlt, HE.out, ← HYV.out]; exact HO3.out, HK3.out, HB3.out⟩
          case measure => simp [intOf]; omega
        · have HFU : Hid (psz (tbl rows) (parts.take j) = psz (tbl rows) parts) := Lib.hid (by rw [List.take_of_length_le (by omega)])
          have HO4 : Hid (OwnInts wr w.heap.size u12 (psz (tbl rows) parts)) := Lib.hid (by have := HO.out; rwa [HFU.out] at this)
          clear HO
          obtain ⟨A4, c4, hv4, hnil4, hints4, hle4, hcap4⟩ := HO4.out.form
          subst hv4
          have HH4 : Hid (Hdr A4 (psz (tbl rows) parts).length c4) := Lib.hid ⟨hle4, hcap4, hnil4⟩
          have HI4 := Lib.hid hints4
          have HLL : Hid ((psz (tbl rows) parts).length = parts.length) := Lib.hid (psz_len _ _)
          clear hnil4 hints4 hle4 hcap4
          have HBD : Hid (∀ x ∈ psz (tbl rows) parts, 0 ≤ x ∧ x ≤ 512) := Lib.hid fun x hx => by
            obtain ⟨p, hp, rfl⟩ := List.mem_map.1 hx
            have := (HPB.out p hp).2.2
            omega
          have HSUM : Hid ((psz (tbl rows) parts).sum = (ofT (tbl rows) k).length) := Lib.hid (by rw [psz_sum, HPS.out])
          have HG : Hid (goodT (tbl rows) k = ((decide (1 ≤ parts.length) && decide (parts.length ≤ 8)) && decide ((ofT (tbl rows) k).length ≤ 32))) := Lib.hid (by
            unfold goodT
            rw [HX.out, ← Bool.and_assoc, HP.out, HL.out]
            simp)
          obtain ⟨sm, hsm⟩ : ∃ sm, (psz (tbl rows) parts).sum = sm := ⟨_, rfl⟩
          have HSM := Lib.hid hsm
          have hc4 := sum_any HH4.out HI4.out HBD.out (by rw [HLL.out]; omega)
          rw [hsm, HLL.out] at hc4
          have HC4 := Lib.hid hc4
          have HV : Hid (sm = (ofT (tbl rows) k).length) := Lib.hid (by rw [← hsm, HSUM.out])
          clear hc4 hsm HSUM HSM HBD HI4 HH4 HO4 HFU
          generalize psz (tbl rows) parts = ys at HLL
          have hyl := HLL.out
          obtain ⟨q, hq⟩ : ∃ q, (ofT (tbl rows) k).length = q := ⟨_, rfl⟩
          rw [hq] at HV HG
          have HQ := Lib.hid hq
          clear hq
          obtain rfl := HV.out
          go_wp2_with fail
          all_goals
            refine HC4.out.mono ?_
            rintro e w5 ⟨rfl, rfl⟩
            go_wp2_with fail
            all_goals go_ret2
            all_goals refine mayAns_of rfl ?_ (fun _ => by rw [HQ.out]) HBl.out
            all_goals rw [HG.out]
            all_goals (first | rfl | (rw [Bool.eq_iff_iff]; simp only [Bool.and_eq_true, Bool.or_eq_true, decide_eq_true_eq, beq_iff_eq, bne_iff_ne, Bool.not_eq_true', beq_eq_false_iff_ne, decide_eq_false_iff_not, Bool.false_eq_true, false_iff, true_iff, iff_false, iff_true, true_and, and_true, false_and, and_false, true_or, or_true, false_or, or_false, ne_eq]; first | done | omega | (intros; omega)) | (rw [Bool.eq_iff_iff]; simp [*]; done) | (rw [Bool.eq_iff_iff]; simp [*]; omega))
theorem may_any {w : World} {A : Option Addr} {c : Nat} {rows : List TyR} {k : Nat} {S : Option Addr} {cs : Nat} (h : MayIn w A c rows k S cs) :
    Calls Tryd.prog 70 #[.slice A rows.length c, .int .i64 k, .slice S k cs] w (MayAns (tbl rows) k w) := by
  by_cases h0 : (rows.getD k default).kind < 1 ∨ 5 < (rows.getD k default).kind
  · exact may0_any h h0
  by_cases h1 : (rows.getD k default).kind = 1 ∨ (rows.getD k default).kind = 2
  · exact may12_any h h1
  by_cases h3 : (rows.getD k default).kind = 3
  · exact may3_any h h3
  by_cases h4 : (rows.getD k default).kind = 4
  · exact may4_any h h4
  · exact may5_any h (by omega)
end Go.Proofs.YtcbhmpkginebaaaDoor
namespace Go.Proofs.YtcbhmpkginebaaaDoor
set_option linter.unusedVariables false
set_option linter.unusedSimpArgs false
open Go.ChangeShapes Go.WideShapes Go.ChangeAt Go.RowKit

/-- A table that came in, no type of which has too many parts. -/
structure TabFew (w : World) (A : Option Addr) (c : Nat) (rows : List TyR) : Prop where
  tab : TabIn w A c rows
  few : ∀ r ∈ rows, r.parts.length ≤ 1000
theorem TabFew.on {w w' : World} {A : Option Addr} {c : Nat} {rows : List TyR} (h : TabFew w A c rows) (hb : Below w.heap.size w w') : TabFew w' A c rows := ⟨h.tab.on hb, h.few⟩
theorem sizes_snoc (t : List Ty) (k : Nat) : sizesT t (k + 1) = sizesT t k ++ [((ofT t k).length : Int)] := by
  unfold sizesT
  rw [List.range_succ, List.map_append]; rfl
section
variable {w : World} {A : Option Addr} {c : Nat} {rows : List TyR}
set_option maxHeartbeats 800000 in
theorem pcheck_any (h : TabFew w A c rows) : Calls Tryd.prog 48 #[.slice A rows.length c] w fun e w' => e = .returned (.int .i64 (checkT (tbl rows))) ∧ Below w.heap.size w w' := by
  have hl := h.tab.len
  have HX := Lib.hid h
  clear h
  by_cases h16 : 16 < rows.length
  · rw [check_many (by rw [tbl_len]; exact h16)]
    go_enter Tryd.func48, Tryd.ntmps48
    go_wp2_with fail
    go_ret
    exact ⟨rfl, Below.refl _ _⟩
  have H16 : Hid ((tbl rows).length ≤ 16) := Lib.hid (by rw [tbl_len]; omega)
  go_enter Tryd.func48, Tryd.ntmps48
  go_wp2_with fail
  go_loopw [3, 12] (fun v i wr => ∃ k : Nat, k ≤ rows.length ∧ i = .int .i64 k ∧ allGood (tbl rows) k = true ∧ OwnInts wr w.heap.size v (sizesT (tbl rows) k) ∧ Below w.heap.size w wr) (fun _ i _ => rows.length - (intOf i).toNat)
  case atStart => exact ⟨0, Nat.zero_le _, rfl, rfl, OwnInts.nil _ _, Below.refl _ _⟩
  case round =>
    obtain ⟨k, hk, rfl, hgood, hown, hbel⟩ := hrel
    have HG := Lib.hid hgood
    have HB := Lib.hid hbel
    obtain ⟨S, cs, hv, hnil, hints, hle, hcap⟩ := hown.form
    rw [sizes_len] at hv hnil hle
    subst hv
    have HO := Lib.hid hown
    have HM : Hid (k < rows.length → MayIn wr A c rows k S cs) := Lib.hid fun hlt => ⟨HX.out.tab.on hbel, hlt, hgood, ⟨hle, hcap, hnil⟩, hints.more (Nat.zero_le _) (Nat.le_refl _), HX.out.few⟩
    clear hgood hown hbel hnil hints hle hcap
    by_cases hlt : k < rows.length
    · have HC := Lib.hid (may_any (HM.out hlt))
      cases hg : goodT (tbl rows) k with
      | false =>
        have HGF := Lib.hid hg
        clear hg
        go_wp2_with fail
        refine HC.out.mono ?_
        rintro e w1 ⟨n, rfl, hn, hb1⟩
        rw [HGF.out]
        have HB1 := Lib.hid (HB.out.trans (hb1.mono HB.out.size))
        clear hb1 hn
        go_wp2_with fail
        go_ret
        exact ⟨ret_num (check_bad H16.out (k := k) (by rw [tbl_len]; exact hlt) HGF.out).symm, HB1.out⟩
      | true =>
        have HGT := Lib.hid hg
        have hle32 := good_le hg
        clear hg
        go_wp2_with fail
        refine HC.out.mono ?_
        rintro e w1 ⟨n, rfl, hn, hb1⟩
        rw [HGT.out]
        have HN := Lib.hid (hn HGT.out)
        have HO1 := Lib.hid (HO.out.keep hb1)
        have HB1 := Lib.hid (HB.out.trans (hb1.mono HB.out.size))
        have HLN : Hid ((sizesT (tbl rows) k).length ≤ 1000) := Lib.hid (by rw [sizes_len]; have := H16.out; rw [tbl_len] at this; omega)
        clear hb1 hn
        go_wp2_with (at_builtin; refine wpList_app1 rfl (.tmp 24) (.tmp 26) rfl w.heap.size _ _ rfl n HO1.out rfl (by have := HLN.out; omega) HB1.out.size ?_; intro v' w3 hown3 hg3; refine pause ?_)
        have hB3 := (HB1.out.alloc HB1.out.size (.cells #[.int .i64 n] 3)).grown hg3 (by rw [World.size_alloc]; have := HB1.out.size; omega) HO1.out.base
        have HO3 := Lib.hid hown3
        have HB3 := Lib.hid hB3
        clear hown3 hg3 hB3
        refine resume ?_
        go_wp2_with fail
        go_roundw
        case rel => exact ⟨k + 1, by omega, by go_num, allGood_succ HG.out HGT.out, by rw [sizes_snoc, ← HN.out]; exact HO3.out, HB3.out⟩
        case measure => simp [intOf]; omega
    · clear HM
      go_wp2_with fail
      go_ret
      exact ⟨ret_num (check_good H16.out (by rw [tbl_len]; exact allGood_mono HG.out (by omega))).symm, HB.out⟩
theorem pcheck_is (h : TabFew w A c rows) {e0 : Int} (he : checkT (tbl rows) = e0) : Calls Tryd.prog 48 #[.slice A rows.length c] w fun e w' => e = .returned (.int .i64 e0) ∧ Below w.heap.size w w' := he ▸ pcheck_any h
end
end Go.Proofs.YtcbhmpkginebaaaDoor
namespace Go.Proofs.YtcbhmpkginebaaaDoor
set_option linter.unusedVariables false
set_option linter.unusedSimpArgs false
open Go.ChangeShapes Go.WideShapes Go.ChangeAt Go.RowKit

section
variable {α : Type} {P : α → Bool} {xs : List α} {k : Nat}
theorem anyR_none (h : AllTo (fun x => !P x) xs k) (hk : xs.length ≤ k) : xs.any P = false := by
  have := h.done hk
  rw [List.any_eq_not_all_not, this]; rfl
theorem anyR_some [Inhabited α] (hk : k < xs.length) (hp : P (xs.getD k default) = true) : xs.any P = true := by
  rw [List.any_eq_true]
  exact ⟨_, mem_getD (d := default) hk, hp⟩
end
structure AnswersI (w : World) (F : FuncId) (cap : Array Value) (xs : List InR) (P : InR → Bool) : Prop where
  enters : Enters F
  calls : ∀ (W : World) (v : InR), Below w.heap.size w W → v ∈ xs → Calls Tryd.prog F (#[v.val] ++ cap) W fun e w' => e = .returned (.bool (P v)) ∧ Below W.heap.size W w'
theorem indexI_any {w : World} {A : Option Addr} {c : Nat} {xs : List InR} (hx : InsAt w A c xs) (F : FuncId) (cap : Array Value) (P : InR → Bool) (hf : AnswersI w F cap xs P) :
    Calls Tryd.prog 94 #[.slice A xs.length c, .func (.func F) #[] cap] w (SomeIndex (xs.any P) w) := by
  have hl := hx.hdr.cle
  have HX := Lib.hid hx
  have HF := Lib.hid hf
  have eg := hf.enters
  unfold Enters at eg
  clear hx hf
  go_enter Tryd.func94, Tryd.ntmps94
  go_wp2_with fail
  go_loopw [8] (fun i wr => ∃ k : Nat, k ≤ xs.length ∧ i = .int .i64 k ∧ AllTo (fun x => !P x) xs k ∧ Below w.heap.size w wr) (fun i _ => xs.length - (intOf i).toNat)
  case atStart => exact ⟨0, Nat.zero_le _, rfl, AllTo.zero _ _, Below.refl _ _⟩
  case round =>
    obtain ⟨k, hk, rfl, hall, hbel⟩ := hrel
    have HA := Lib.hid hall
    have HB := Lib.hid hbel
    clear hall hbel
    by_cases hlt : k < xs.length
    · obtain ⟨b, off, x, rfl, hbk, ⟨d0, d1, d2, d3, d4, d5, d6⟩, _, HE⟩ := (HX.out.on HB.out).elem hlt
      have hxm : x ∈ xs := by have := mem_getD (d := (default : InR)) hlt; rwa [HE.out] at this
      have HC := Lib.hid (HF.out.calls wr x HB.out hxm)
      clear hxm
      cases hp : P x with
      | true =>
        rw [hp] at HC
        have HP := Lib.hid hp
        clear hp
        go_wp2_with fail
        refine HC.out.mono ?_
        rintro e w1 ⟨rfl, hb1⟩
        have HB1 := Lib.hid (HB.out.trans (hb1.mono HB.out.size))
        clear hb1
        go_wp2_with fail
        go_ret
        exact ⟨_, rfl, by rw [anyR_some hlt (by rw [HE.out]; exact HP.out)]; simp, HB1.out⟩
      | false =>
        rw [hp] at HC
        have HP := Lib.hid hp
        clear hp
        go_wp2_with fail
        refine HC.out.mono ?_
        rintro e w1 ⟨rfl, hb1⟩
        have HB1 := Lib.hid (HB.out.trans (hb1.mono HB.out.size))
        clear hb1
        go_wp2_with fail
        go_roundw
        case rel => exact ⟨k + 1, by omega, by go_num, HA.out.step (d := default) hlt (by rw [HE.out, HP.out]; rfl), HB1.out⟩
        case measure => simp [intOf]; omega
    · go_wp2_with fail
      go_ret
      exact ⟨_, rfl, by rw [anyR_none HA.out (by omega)]; rfl, HB.out⟩
theorem containsI_any {w : World} {A : Option Addr} {c : Nat} {xs : List InR} (hx : InsAt w A c xs) (F : FuncId) (cap : Array Value) (P : InR → Bool) (hf : AnswersI w F cap xs P) {b : Bool} (hb : xs.any P = b) :
    Calls Tryd.prog 76 #[.slice A xs.length c, .func (.func F) #[] cap] w fun e w' => e = .returned (.bool b) ∧ Below w.heap.size w w' := by
  have HI := Lib.hid (indexI_any hx F cap P hf)
  rw [hb] at HI
  clear hx hf hb
  go_enter Tryd.func76, Tryd.ntmps76
  go_wp2_with fail
  refine HI.out.mono ?_
  rintro e w1 ⟨r, rfl, hr, hb1⟩
  have HR := Lib.hid hr
  have HB := Lib.hid hb1
  clear hr hb1
  go_wp2_with fail
  go_ret
  exact ⟨ret_bool HR.out, HB.out⟩
structure AnswersB (w : World) (F : FuncId) (cap : Array Value) (xs : List BlR) (P : BlR → Bool) : Prop where
  enters : Enters F
  calls : ∀ (W : World) (v : BlR), Below w.heap.size w W → v ∈ xs → Calls Tryd.prog F (#[v.val] ++ cap) W fun e w' => e = .returned (.bool (P v)) ∧ Below W.heap.size W w'
theorem indexB_any {w : World} {A : Option Addr} {c : Nat} {xs : List BlR} (hx : BlksAt w A c xs) (F : FuncId) (cap : Array Value) (P : BlR → Bool) (hf : AnswersB w F cap xs P) :
    Calls Tryd.prog 93 #[.slice A xs.length c, .func (.func F) #[] cap] w (SomeIndex (xs.any P) w) := by
  have hl := hx.hdr.cle
  have HX := Lib.hid hx
  have HF := Lib.hid hf
  have eg := hf.enters
  unfold Enters at eg
  clear hx hf
  go_enter Tryd.func93, Tryd.ntmps93
  go_wp2_with fail
  go_loopw [8] (fun i wr => ∃ k : Nat, k ≤ xs.length ∧ i = .int .i64 k ∧ AllTo (fun x => !P x) xs k ∧ Below w.heap.size w wr) (fun i _ => xs.length - (intOf i).toNat)
  case atStart => exact ⟨0, Nat.zero_le _, rfl, AllTo.zero _ _, Below.refl _ _⟩
  case round =>
    obtain ⟨k, hk, rfl, hall, hbel⟩ := hrel
    have HA := Lib.hid hall
    have HB := Lib.hid hbel
    clear hall hbel
    by_cases hlt : k < xs.length
    · obtain ⟨b, off, x, rfl, hbk, ⟨d0, d1, d2, d3, d4⟩, _, HE⟩ := (HX.out.on HB.out).elem hlt
      have hxm : x ∈ xs := by have := mem_getD (d := (default : BlR)) hlt; rwa [HE.out] at this
      have HC := Lib.hid (HF.out.calls wr x HB.out hxm)
      clear hxm
      cases hp : P x with
      | true =>
        rw [hp] at HC
        have HP := Lib.hid hp
        clear hp
        go_wp2_with fail
        refine HC.out.mono ?_
        rintro e w1 ⟨rfl, hb1⟩
        have HB1 := Lib.hid (HB.out.trans (hb1.mono HB.out.size))
        clear hb1
        go_wp2_with fail
        go_ret
        exact ⟨_, rfl, by rw [anyR_some hlt (by rw [HE.out]; exact HP.out)]; simp, HB1.out⟩
      | false =>
        rw [hp] at HC
        have HP := Lib.hid hp
        clear hp
        go_wp2_with fail
        refine HC.out.mono ?_
        rintro e w1 ⟨rfl, hb1⟩
        have HB1 := Lib.hid (HB.out.trans (hb1.mono HB.out.size))
        clear hb1
        go_wp2_with fail
        go_roundw
        case rel => exact ⟨k + 1, by omega, by go_num, HA.out.step (d := default) hlt (by rw [HE.out, HP.out]; rfl), HB1.out⟩
        case measure => simp [intOf]; omega
    · go_wp2_with fail
      go_ret
      exact ⟨_, rfl, by rw [anyR_none HA.out (by omega)]; rfl, HB.out⟩
theorem containsB_any {w : World} {A : Option Addr} {c : Nat} {xs : List BlR} (hx : BlksAt w A c xs) (F : FuncId) (cap : Array Value) (P : BlR → Bool) (hf : AnswersB w F cap xs P) {b : Bool} (hb : xs.any P = b) :
    Calls Tryd.prog 74 #[.slice A xs.length c, .func (.func F) #[] cap] w fun e w' => e = .returned (.bool b) ∧ Below w.heap.size w w' := by
  have HI := Lib.hid (indexB_any hx F cap P hf)
  rw [hb] at HI
  clear hx hf hb
  go_enter Tryd.func74, Tryd.ntmps74
  go_wp2_with fail
  refine HI.out.mono ?_
  rintro e w1 ⟨r, rfl, hr, hb1⟩
  have HR := Lib.hid hr
  have HB := Lib.hid hb1
  clear hr hb1
  go_wp2_with fail
  go_ret
  exact ⟨ret_bool HR.out, HB.out⟩
structure AnswersF (w : World) (F : FuncId) (cap : Array Value) (xs : List FuR) (P : FuR → Bool) : Prop where
  enters : Enters F
  calls : ∀ (W : World) (v : FuR), Below w.heap.size w W → v ∈ xs → Calls Tryd.prog F (#[v.val] ++ cap) W fun e w' => e = .returned (.bool (P v)) ∧ Below W.heap.size W w'
theorem indexF_any {w : World} {A : Option Addr} {c : Nat} {xs : List FuR} (hx : FusAt w A c xs) (F : FuncId) (cap : Array Value) (P : FuR → Bool) (hf : AnswersF w F cap xs P) :
    Calls Tryd.prog 71 #[.slice A xs.length c, .func (.func F) #[] cap] w (SomeIndex (xs.any P) w) := by
  have hl := hx.hdr.cle
  have HX := Lib.hid hx
  have HF := Lib.hid hf
  have eg := hf.enters
  unfold Enters at eg
  clear hx hf
  go_enter Tryd.func71, Tryd.ntmps71
  go_wp2_with fail
  go_loopw [8] (fun i wr => ∃ k : Nat, k ≤ xs.length ∧ i = .int .i64 k ∧ AllTo (fun x => !P x) xs k ∧ Below w.heap.size w wr) (fun i _ => xs.length - (intOf i).toNat)
  case atStart => exact ⟨0, Nat.zero_le _, rfl, AllTo.zero _ _, Below.refl _ _⟩
  case round =>
    obtain ⟨k, hk, rfl, hall, hbel⟩ := hrel
    have HA := Lib.hid hall
    have HB := Lib.hid hbel
    clear hall hbel
    by_cases hlt : k < xs.length
    · obtain ⟨b, off, x, rfl, hbk, ⟨d0, d1⟩, _, HE⟩ := (HX.out.on HB.out).elem hlt
      have hxm : x ∈ xs := by have := mem_getD (d := (default : FuR)) hlt; rwa [HE.out] at this
      have HC := Lib.hid (HF.out.calls wr x HB.out hxm)
      clear hxm
      cases hp : P x with
      | true =>
        rw [hp] at HC
        have HP := Lib.hid hp
        clear hp
        go_wp2_with fail
        refine HC.out.mono ?_
        rintro e w1 ⟨rfl, hb1⟩
        have HB1 := Lib.hid (HB.out.trans (hb1.mono HB.out.size))
        clear hb1
        go_wp2_with fail
        go_ret
        exact ⟨_, rfl, by rw [anyR_some hlt (by rw [HE.out]; exact HP.out)]; simp, HB1.out⟩
      | false =>
        rw [hp] at HC
        have HP := Lib.hid hp
        clear hp
        go_wp2_with fail
        refine HC.out.mono ?_
        rintro e w1 ⟨rfl, hb1⟩
        have HB1 := Lib.hid (HB.out.trans (hb1.mono HB.out.size))
        clear hb1
        go_wp2_with fail
        go_roundw
        case rel => exact ⟨k + 1, by omega, by go_num, HA.out.step (d := default) hlt (by rw [HE.out, HP.out]; rfl), HB1.out⟩
        case measure => simp [intOf]; omega
    · go_wp2_with fail
      go_ret
      exact ⟨_, rfl, by rw [anyR_none HA.out (by omega)]; rfl, HB.out⟩
theorem containsF_any {w : World} {A : Option Addr} {c : Nat} {xs : List FuR} (hx : FusAt w A c xs) (F : FuncId) (cap : Array Value) (P : FuR → Bool) (hf : AnswersF w F cap xs P) {b : Bool} (hb : xs.any P = b) :
    Calls Tryd.prog 49 #[.slice A xs.length c, .func (.func F) #[] cap] w fun e w' => e = .returned (.bool b) ∧ Below w.heap.size w w' := by
  have HI := Lib.hid (indexF_any hx F cap P hf)
  rw [hb] at HI
  clear hx hf hb
  go_enter Tryd.func49, Tryd.ntmps49
  go_wp2_with fail
  refine HI.out.mono ?_
  rintro e w1 ⟨r, rfl, hr, hb1⟩
  have HR := Lib.hid hr
  have HB := Lib.hid hb1
  clear hr hb1
  go_wp2_with fail
  go_ret
  exact ⟨ret_bool HR.out, HB.out⟩
/-- below. -/
theorem pbelow_any (n m : Int) (w : World) : Calls Tryd.prog 43 #[.int .i64 n, .int .i64 m] w fun e w' => e = .returned (.bool (inB n m)) ∧ w = w' := by
  by_cases h0 : 0 ≤ n
  · by_cases h1 : n < m
    · have HZ : Hid (inB n m = true) := Lib.hid (inB_iff.2 ⟨h0, h1⟩)
      go_enter Tryd.func43, Tryd.ntmps43
      go_wp2_with fail
      go_ret
      exact ⟨ret_bool (by rw [HZ.out] <;> first | rfl | exact decide_eq_true h1), rfl⟩
    · have HZ : Hid (inB n m = false) := Lib.hid (inB_not.2 (by omega))
      go_enter Tryd.func43, Tryd.ntmps43
      go_wp2_with fail
      go_ret
      exact ⟨ret_bool (by rw [HZ.out] <;> first | rfl | exact decide_eq_false h1), rfl⟩
  · have HZ : Hid (inB n m = false) := Lib.hid (inB_not.2 (by omega))
    go_enter Tryd.func43, Tryd.ntmps43
    go_wp2_with fail
    go_ret
    exact ⟨ret_bool (by rw [HZ.out]), rfl⟩
theorem pbelow_is {n m : Int} {b : Bool} (h : inB n m = b) (w : World) : Calls Tryd.prog 43 #[.int .i64 n, .int .i64 m] w fun e w' => e = .returned (.bool b) ∧ w = w' := h ▸ pbelow_any n m w
theorem enters_all1 : Enters 101 := fun _ _ => by kernel_rfl
theorem all1_any {w : World} {g : Nat} (x m : Int) (hc : w.cell? ⟨g, 0, none⟩ = some (.int .i64 m)) :
    Calls Tryd.prog 101 #[.int .i64 x, .pointer (some ⟨g, 0, none⟩)] w fun e w' => e = .returned (.bool (!inB x m)) ∧ Below w.heap.size w w' := by
  go_enter Tryd.func101, Tryd.ntmps101
  go_wp2_with fail
  refine (pbelow_any x m _).mono ?_
  rintro e w1 ⟨rfl, rfl⟩
  go_wp2_with fail
  go_ret
  exact ⟨rfl, Below.refl _ _⟩
theorem pall_any {w : World} {A : Option Addr} {c : Nat} {xs : List Int} (hh : Hdr A xs.length c) (hx : IntsAt w 0 w.heap.size A xs) (m : Int) {b : Bool} (hb : allB xs m = b) :
    Calls Tryd.prog 91 #[.slice A xs.length c, .int .i64 m] w fun e w' => e = .returned (.bool b) ∧ Below w.heap.size w w' := by
  have hany : xs.any (fun n => !inB n m) = !b := by
    rw [← hb]
    unfold allB
    rw [List.all_eq_not_any_not, Bool.not_not]
  have HB1 := Lib.hid ((Below.refl w.heap.size w).alloc (Nat.le_refl _) (.cells #[.int .i64 m] 3))
  have hcell : ∀ W, Below (w.alloc (.cells #[.int .i64 m] 3)).heap.size (w.alloc (.cells #[.int .i64 m] 3)) W → W.cell? ⟨w.heap.size, 0, none⟩ = some (.int .i64 m) := fun W hW =>
    ((Blk.new w 3 #[.int .i64 m]).beneath hW).cells 0
  have hA : AnswersBy (w.alloc (.cells #[.int .i64 m] 3)) 101 #[.pointer (some ⟨w.heap.size, 0, none⟩)] xs (fun n => !inB n m) :=
    ⟨enters_all1, fun W v hW _ => all1_any v m (hcell W hW)⟩
  have HC := Lib.hid (containsFunc_any hh (hx.up HB1.out) _ _ _ hA)
  rw [hany] at HC
  clear hany hA hcell hx hh hb
  go_enter Tryd.func91, Tryd.ntmps91
  go_wp2_with fail
  refine HC.out.mono ?_
  rintro e w1 ⟨rfl, hb1⟩
  have HB2 := Lib.hid (HB1.out.trans (hb1.mono HB1.out.size))
  clear hb1
  go_wp2_with fail
  go_ret
  exact ⟨rfl, HB2.out⟩
set_option maxRecDepth 100000 in
theorem pmany_any {w : World} (f : FuR) (h : BlksAt w f.ba f.bc f.blocks) (hf : f.blocks.length ≤ 1000) (hi : ∀ r ∈ f.blocks, r.ins.length ≤ 1000000) :
    Calls Tryd.prog 40 #[f.val] w fun e w' => e = .returned (.int .i64 (manyB (f.blocks.map BlR.data) : Nat)) ∧ Below w.heap.size w w' := by
  unfold FuR.val
  obtain ⟨sig, A, c, rows⟩ := f
  dsimp only at *
  have HX := Lib.hid h
  have hl : (rows.length : Int) ≤ 1000 := by omega
  have HF := Lib.hid hf
  have HI := Lib.hid hi
  clear h hf hi
  have HB1 := Lib.hid ((Below.refl w.heap.size w).alloc (Nat.le_refl _) (.cells #[.int .i64 sig, .slice A rows.length c] 55))
  go_enter Tryd.func40, Tryd.ntmps40
  go_wp2_with fail
  go_loopw [2, 8] (fun v i wr => ∃ k n : Nat, k ≤ rows.length ∧ i = .int .i64 k ∧ v = .int .i64 n ∧ n ≤ 1000000 * k ∧ Hid (n = manyB ((rows.map BlR.data).take k)) ∧ Hid (Below w.heap.size w wr)) (fun _ i _ => rows.length - (intOf i).toNat)
  case atStart => exact ⟨0, 0, Nat.zero_le _, rfl, rfl, Nat.zero_le _, Lib.hid rfl, HB1⟩
  case round =>
    clear HB1
    obtain ⟨k, n, hk, rfl, rfl, hn, HN, HB⟩ := hrel
    have hnz : (n : Int) ≤ 1000000000 := by omega
    by_cases hlt : k < rows.length
    · have hkz : (k : Int) < rows.length := by omega
      obtain ⟨b, off, r, rfl, hb, ⟨d0, d1, d2, d3, d4⟩, hr, HE⟩ := (HX.out.on HB.out).elem hlt
      have hrl : r.ins.length ≤ 1000000 := by
        have := HI.out _ (mem_getD (d := default) hlt)
        rwa [HE.out] at this
      have hrz : (r.ins.length : Int) ≤ 1000000 := by omega
      have HM : Hid (manyB ((rows.map BlR.data).take (k + 1)) = manyB ((rows.map BlR.data).take k) + r.ins.length) := Lib.hid (by
        rw [many_take (by rw [List.length_map]; exact hlt), map_getD BlR.data rows hlt, HE.out]
        show _ + (r.ins.map InR.data).length = _
        rw [List.length_map])
      have HLT := Lib.hid hlt
      have HRL := Lib.hid hrl
      have HNN := Lib.hid hn
      have HB2 := Lib.hid (fun o => HB.out.alloc HB.out.size o)
      clear hr hlt hrl hn
      go_wp2_with fail
      go_roundw
      case rel => exact ⟨k + 1, n + r.ins.length, by have := HLT.out; omega, by go_num, by go_num, by have := HRL.out; have := HNN.out; omega, Lib.hid (by rw [HM.out, HN.out]), Lib.hid (HB2.out _)⟩
      case measure => simp [intOf]; have := HLT.out; omega
    · obtain rfl : k = rows.length := by omega
      go_wp2_with fail
      go_ret
      exact ⟨ret_num (by rw [HN.out, List.take_of_length_le (by rw [List.length_map]; exact Nat.le_refl _)]), HB.out⟩
end Go.Proofs.YtcbhmpkginebaaaDoor
namespace Go.Proofs.YtcbhmpkginebaaaDoor
set_option linter.unusedVariables false
set_option linter.unusedSimpArgs false
open Go.ChangeShapes Go.WideShapes Go.ChangeAt Go.RowKit

theorem eqEnd4 (k n b t k' n' b' t' : Int) (w : World) : (Op.equalIn 10000 26 (.agg #[.int .u8 k, .int .i64 n, .int .i64 b, .int .i64 t]) (.agg #[.int .u8 k', .int .i64 n', .int .i64 b', .int .i64 t'])).run Tryd.prog w = .ok (k == k' && (n == n' && (b == b' && t == t'))) w := by
  have u0 := Tryd.underlying5
  have u2 := Tryd.underlying3
  have hS : Tryd.prog.underlying 26 = some (.struct (Tryd.prog.fieldsOf 26)) := by kernel_rfl
  rw [show (10000 : Nat) = 9999 + 1 from rfl, run_equalIn_agg w 9999 26 _ _ hS (by kernel_rfl)]
  simp only [Program.fieldsOf, Tryd.underlying26]
  go_simp
  by_cases h1 : k = k' <;> by_cases h2 : n = n' <;> by_cases h3 : b = b' <;> by_cases h4 : t = t' <;> simp [h1, h2, h3, h4]
theorem eqEndT {k n b t k' n' b' t' : Int} {z : Bool} (h : (k == k' && (n == n' && (b == b' && t == t'))) = z) (w : World) : (Op.equalIn 10000 26 (.agg #[.int .u8 k, .int .i64 n, .int .i64 b, .int .i64 t]) (.agg #[.int .u8 k', .int .i64 n', .int .i64 b', .int .i64 t'])).run Tryd.prog w = .ok z w := h ▸ eqEnd4 k n b t k' n' b' t' w
def szV (t f r b : Int) : Value := .agg #[.int .i64 t, .int .i64 f, .int .i64 r, .int .i64 b]
theorem below2 (w : World) (o o2 : Obj) : Below w.heap.size w ((w.alloc o).alloc o2) := ((Below.refl _ _).alloc (Nat.le_refl _) _).alloc (by rw [World.size_alloc]; omega) _
set_option maxRecDepth 100000 in
set_option maxHeartbeats 1600000 in
theorem pend_any (x : PEnd) (t f r b : Int) (w : World) {z : Bool} (hz : endB x r b = z) :
    Calls Tryd.prog 77 #[endVal x, szV t f r b] w fun e w' => e = .returned (.bool z) ∧ Below w.heap.size w w' := by
  unfold endVal szV
  obtain ⟨kind, a, tgt, els⟩ := x
  unfold endB at hz
  dsimp only at *
  have HB := Lib.hid (below2 w)
  by_cases k1 : kind = 1
  · have e1 : ((kind : Int) == 1) = true := op_is k1
    rw [if_pos k1] at hz
    by_cases q0 : a = 0 ∧ els = 0
    · rw [decide_eq_true q0, Bool.true_and] at hz
      obtain ⟨rfl, rfl⟩ := q0
      have HQ := fun w => eqEndT (k := kind) (n := 0) (b := tgt) (t := 0) (k' := kind) (n' := 0) (b' := tgt) (t' := 0) (z := true) (by simp) w
      have HH := Lib.hid hz
      clear k1 hz
      go_enter Tryd.func77, Tryd.ntmps77
      go_wp2_with fail
      refine (pbelow_is HH.out _).mono ?_
      rintro e w1 ⟨rfl, rfl⟩
      go_wp2_with fail
      go_ret
      exact ⟨rfl, HB.out _ _⟩
    · rw [decide_eq_false q0, Bool.false_and] at hz
      have HQ := fun w => eqEndT (k := kind) (n := a) (b := tgt) (t := els) (k' := kind) (n' := 0) (b' := tgt) (t' := 0) (z := false) (by
        rw [← Bool.not_eq_true]; simp only [Bool.and_eq_true, beq_iff_eq]; rintro ⟨_, h1, _, h2⟩; exact q0 ⟨h1, h2⟩) w
      have HH := Lib.hid hz
      clear k1 hz q0
      go_enter Tryd.func77, Tryd.ntmps77
      go_wp2_with fail
      go_ret
      exact ⟨ret_bool HH.out, HB.out _ _⟩
  rw [if_neg k1] at hz
  have e1 : ((kind : Int) == 1) = false := op_no k1
  clear k1
  by_cases k2 : kind = 2
  · have e2 : ((kind : Int) == 2) = true := op_is k2
    rw [if_pos k2] at hz
    obtain ⟨c1, h1⟩ : ∃ c, inB a r = c := ⟨_, rfl⟩
    obtain ⟨c2, h2⟩ : ∃ c, inB tgt b = c := ⟨_, rfl⟩
    obtain ⟨c3, h3⟩ : ∃ c, inB els b = c := ⟨_, rfl⟩
    rw [h1, h2, h3] at hz
    have H1 := Lib.hid h1
    have H2 := Lib.hid h2
    have H3 := Lib.hid h3
    have HH := Lib.hid hz
    clear h1 h2 h3 hz k2
    cases c1 with
    | false =>
      go_enter Tryd.func77, Tryd.ntmps77
      go_wp2_with fail
      refine (pbelow_is H1.out _).mono ?_
      rintro e w1 ⟨rfl, rfl⟩
      go_wp2_with fail
      go_ret
      exact ⟨ret_bool HH.out, HB.out _ _⟩
    | true =>
      cases c2 with
      | false =>
        go_enter Tryd.func77, Tryd.ntmps77
        go_wp2_with fail
        refine (pbelow_is H1.out _).mono ?_
        rintro e w1 ⟨rfl, rfl⟩
        go_wp2_with fail
        refine (pbelow_is H2.out _).mono ?_
        rintro e w1 ⟨rfl, rfl⟩
        go_wp2_with fail
        go_ret
        exact ⟨ret_bool HH.out, HB.out _ _⟩
      | true =>
        go_enter Tryd.func77, Tryd.ntmps77
        go_wp2_with fail
        refine (pbelow_is H1.out _).mono ?_
        rintro e w1 ⟨rfl, rfl⟩
        go_wp2_with fail
        refine (pbelow_is H2.out _).mono ?_
        rintro e w1 ⟨rfl, rfl⟩
        go_wp2_with fail
        refine (pbelow_is H3.out _).mono ?_
        rintro e w1 ⟨rfl, rfl⟩
        go_wp2_with fail
        go_ret
        exact ⟨ret_bool HH.out, HB.out _ _⟩
  rw [if_neg k2] at hz
  have e2 : ((kind : Int) == 2) = false := op_no k2
  clear k2
  by_cases k3 : kind = 3
  · have e3 : ((kind : Int) == 3) = true := op_is k3
    rw [if_pos k3] at hz
    by_cases q0 : tgt = 0 ∧ els = 0
    · rw [decide_eq_true q0, Bool.true_and] at hz
      obtain ⟨rfl, rfl⟩ := q0
      have HQ := fun w => eqEndT (k := kind) (n := a) (b := 0) (t := 0) (k' := kind) (n' := a) (b' := 0) (t' := 0) (z := true) (by simp) w
      have HH := Lib.hid hz
      clear k3 hz
      go_enter Tryd.func77, Tryd.ntmps77
      go_wp2_with fail
      refine (pbelow_is HH.out _).mono ?_
      rintro e w1 ⟨rfl, rfl⟩
      go_wp2_with fail
      go_ret
      exact ⟨rfl, HB.out _ _⟩
    · rw [decide_eq_false q0, Bool.false_and] at hz
      have HQ := fun w => eqEndT (k := kind) (n := a) (b := tgt) (t := els) (k' := kind) (n' := a) (b' := 0) (t' := 0) (z := false) (by
        rw [← Bool.not_eq_true]; simp only [Bool.and_eq_true, beq_iff_eq]; rintro ⟨_, _, h1, h2⟩; exact q0 ⟨h1, h2⟩) w
      have HH := Lib.hid hz
      clear k3 hz q0
      go_enter Tryd.func77, Tryd.ntmps77
      go_wp2_with fail
      go_ret
      exact ⟨ret_bool HH.out, HB.out _ _⟩
  · rw [if_neg k3] at hz
    have e3 : ((kind : Int) == 3) = false := op_no k3
    have HH := Lib.hid hz
    clear k3 hz
    go_enter Tryd.func77, Tryd.ntmps77
    go_wp2_with fail
    go_ret
    exact ⟨ret_bool HH.out, HB.out _ _⟩
set_option maxRecDepth 100000 in
set_option maxHeartbeats 1600000 in
theorem pnumber_any (x : InR) (t f r b : Int) (w : World) {z : Bool} (hz : numB x.data f = z) :
    Calls Tryd.prog 92 #[x.val, szV t f r b] w fun e w' => e = .returned (.bool z) ∧ Below w.heap.size w w' := by
  unfold InR.val szV
  unfold numB at hz
  obtain ⟨op, ty, a, bb, n, aa, ac, args, xa, xc, from_⟩ := x
  unfold InR.data at hz
  dsimp only at *
  have HB := Lib.hid (below2 w)
  by_cases h3 : op = 3 ∨ op = 18
  · rw [if_pos h3] at hz
    have e3 : ((op : Int) == 3) = true ∨ ((op : Int) == 3) = false ∧ ((op : Int) == 18) = true := by
      rcases h3 with h | h
      · exact .inl (op_is h)
      · exact .inr ⟨op_no (m := 3) (by omega), op_is h⟩
    clear h3
    by_cases n0 : 0 ≤ n
    · by_cases n1 : n < f
      · have HQ : Hid (z = true) := Lib.hid (by rw [← hz, inB_iff]; exact ⟨n0, n1⟩)
        rcases e3 with e3 | ⟨e3, e4⟩
        all_goals
          go_enter Tryd.func92, Tryd.ntmps92
          go_wp2_with fail
          go_ret
          exact ⟨ret_bool (by rw [HQ.out] <;> first | rfl | exact decide_eq_true n1), HB.out _ _⟩
      · have HQ : Hid (z = false) := Lib.hid (by rw [← hz, inB_not]; omega)
        rcases e3 with e3 | ⟨e3, e4⟩
        all_goals
          go_enter Tryd.func92, Tryd.ntmps92
          go_wp2_with fail
          go_ret
          exact ⟨ret_bool (by rw [HQ.out] <;> first | rfl | exact decide_eq_false n1), HB.out _ _⟩
    · have HQ : Hid (z = false) := Lib.hid (by rw [← hz, inB_not]; omega)
      rcases e3 with e3 | ⟨e3, e4⟩
      all_goals
        go_enter Tryd.func92, Tryd.ntmps92
        go_wp2_with fail
        go_ret
        exact ⟨ret_bool HQ.out.symm, HB.out _ _⟩
  rw [if_neg h3] at hz
  have e3 : ((op : Int) == 3) = false := op_no (m := 3) (by omega)
  have e18 : ((op : Int) == 18) = false := op_no (m := 18) (by omega)
  clear h3
  by_cases h14 : op = 14
  · have e14 : ((op : Int) == 14) = true := op_is h14
    rw [if_pos h14] at hz
    clear h14
    by_cases n0 : 0 ≤ n
    · by_cases n1 : n < 8
      · have HQ : Hid (z = true) := Lib.hid (by rw [← hz, inB_iff]; exact ⟨n0, n1⟩)
        go_enter Tryd.func92, Tryd.ntmps92
        go_wp2_with fail
        go_ret
        exact ⟨ret_bool (by rw [HQ.out] <;> first | rfl | exact decide_eq_true n1), HB.out _ _⟩
      · have HQ : Hid (z = false) := Lib.hid (by rw [← hz, inB_not]; omega)
        go_enter Tryd.func92, Tryd.ntmps92
        go_wp2_with fail
        go_ret
        exact ⟨ret_bool (by rw [HQ.out] <;> first | rfl | exact decide_eq_false n1), HB.out _ _⟩
    · have HQ : Hid (z = false) := Lib.hid (by rw [← hz, inB_not]; omega)
      go_enter Tryd.func92, Tryd.ntmps92
      go_wp2_with fail
      go_ret
      exact ⟨ret_bool HQ.out.symm, HB.out _ _⟩
  · have e14 : ((op : Int) == 14) = false := op_no h14
    rw [if_neg h14] at hz
    have HQ := Lib.hid hz
    clear h14 hz
    go_enter Tryd.func92, Tryd.ntmps92
    go_wp2_with fail
    go_ret
    exact ⟨ret_bool HQ.out, HB.out _ _⟩
end Go.Proofs.YtcbhmpkginebaaaDoor
namespace Go.Proofs.YtcbhmpkginebaaaDoor
set_option linter.unusedVariables false
set_option linter.unusedSimpArgs false
open Go.ChangeShapes Go.WideShapes Go.ChangeAt Go.RowKit

/-- The boxes of an instruction, the sizes, and what its operation has. -/
structure Box3 (w0 w : World) (g1 g2 g3 : Nat) (x s h : Array Value) : Prop where
  x : Blk w g1 24 x
  s : Blk w g2 101 s
  h : Blk w g3 65 h
  below : Below w0.heap.size w0 w
theorem Box3.on {w0 w w' : World} {g1 g2 g3 : Nat} {x s h : Array Value} (H : Box3 w0 w g1 g2 g3 x s h) (hb : Below w.heap.size w w') : Box3 w0 w' g1 g2 g3 x s h := ⟨H.x.beneath hb, H.s.beneath hb, H.h.beneath hb, H.below.trans (hb.mono H.below.size)⟩
theorem eqHas (b0 b1 b2 b3 b4 b5 : Bool) (w : World) : (Op.equalIn 10000 65 (.agg #[.bool b0, .bool b1, .bool b2, .bool b3, .bool b4, .bool b5]) (.agg #[.bool false, .bool false, .bool false, .bool false, .bool false, .bool false])).run Tryd.prog w = .ok (!(b0 || (b1 || (b2 || (b3 || (b4 || b5)))))) w := by
  have u4 := Tryd.underlying4
  have hS : Tryd.prog.underlying 65 = some (.struct (Tryd.prog.fieldsOf 65)) := by kernel_rfl
  rw [show (10000 : Nat) = 9999 + 1 from rfl, run_equalIn_agg w 9999 65 _ _ hS (by kernel_rfl)]
  simp only [Program.fieldsOf, Tryd.underlying65]
  go_simp
  cases b0 <;> cases b1 <;> cases b2 <;> cases b3 <;> cases b4 <;> cases b5 <;> simp
theorem eqHasT {b0 b1 b2 b3 b4 b5 o : Bool} (h : (b0 || (b1 || (b2 || (b3 || (b4 || b5))))) = o) (w : World) : (Op.equalIn 10000 65 (.agg #[.bool b0, .bool b1, .bool b2, .bool b3, .bool b4, .bool b5]) (.agg #[.bool false, .bool false, .bool false, .bool false, .bool false, .bool false])).run Tryd.prog w = .ok (!o) w := h ▸ eqHas b0 b1 b2 b3 b4 b5 w
/-- Which five answers there are. -/
def okHas (b0 b1 b2 b3 b4 : Bool) : Bool := (!b1 || b0) && ((!b4 || b3) && ((!b4 || (!b0 && !b2)) && ((!b1 || (!b2 && !b3)) && !(b0 && (b2 && b3)) && (b4 || (!b3 || (b0 || b2))))))
theorem hasT_big {op : Nat} (h : 23 ≤ op) (j : Nat) : hasT op j = false := by
  unfold hasT
  split <;> simp <;> omega
theorem has_facts (op : Nat) : okHas (hasT op 0) (hasT op 1) (hasT op 2) (hasT op 3) (hasT op 4) = true ∧ decide (1 ≤ op ∧ op ≤ 22) = (hasT op 0 || (hasT op 1 || (hasT op 2 || (hasT op 3 || (hasT op 4 || hasT op 5))))) ∧ decide (op = 22) = hasT op 4 := by
  by_cases h : op < 23
  · revert op
    decide
  · rw [hasT_big (by omega), hasT_big (by omega), hasT_big (by omega), hasT_big (by omega), hasT_big (by omega), hasT_big (by omega)]
    refine ⟨by decide, ?_, ?_⟩ <;> simp <;> omega
theorem pall_is {w : World} {A : Option Addr} {c n : Nat} {xs : List Int} (hh : Hdr A xs.length c) (hx : IntsAt w 0 w.heap.size A xs) (hn : xs.length = n) (m : Int) {b : Bool} (hb : allB xs m = b) :
    Calls Tryd.prog 91 #[.slice A n c, .int .i64 m] w fun e w' => e = .returned (.bool b) ∧ Below w.heap.size w w' := hn ▸ pall_any hh hx m hb
/-- What must be nothing. -/
def zero5 (b0 b1 b2 b3 b4 : Bool) (a b n : Int) (la lf : Nat) : Bool := (b0 || decide (a = 0)) && ((b1 || decide (b = 0)) && ((b2 || decide (n = 0)) && ((b3 || decide (la = 0)) && (b4 || decide (lf = 0)))))
def tailB (b4 : Bool) (la lf : Nat) (from_ : List Int) (bl : Int) : Bool := if b4 then allB from_ bl && (decide (lf = la) && (decide (1 ≤ lf) && decide (lf ≤ 16))) else decide (la ≤ 4)
theorem pins_split (x : PIns) (t f r bl : Int) {b0 b1 b2 b3 b4 b5 : Bool} (h : Has x.op b0 b1 b2 b3 b4 b5) :
    insB x t f r bl = (((b0 || (b1 || (b2 || (b3 || (b4 || b5))))) && ((!b0 || inB x.a r) && ((!b1 || inB x.b r) && (allB x.args r && numB x f)))) && (zero5 b0 b1 b2 b3 b4 x.a x.b x.n x.args.length x.from_.length && (typeB b5 x.ty t && tailB b4 x.args.length x.from_.length x.from_ bl))) := by
  obtain ⟨_, h1, h4⟩ := has_facts x.op
  unfold insB zero5 typeB tailB
  rw [h1]
  obtain ⟨e0, e1, e2, e3, e4, e5⟩ := h
  rw [e0, e1, e2, e3, e4, e5]
  rw [e4] at h4
  generalize (b0 || (b1 || (b2 || (b3 || (b4 || b5))))) = O
  generalize numB x f = N
  generalize inB x.a r = A
  generalize inB x.b r = B
  generalize allB x.args r = G
  generalize (if b5 = true then inB x.ty t else decide (x.ty = 0)) = T
  generalize decide (x.a = 0) = Z
  generalize decide (x.b = 0) = Y
  generalize decide (x.n = 0) = X
  generalize decide (x.args.length = 0) = L
  generalize decide (x.args.length ≤ 4) = K
  generalize allB x.from_ bl = F
  cases b4 with
  | true =>
    have : x.op = 22 := by simpa using h4
    rw [if_pos this]
    rw [show decide (1 ≤ x.from_.length ∧ x.from_.length ≤ 16) = (decide (1 ≤ x.from_.length) && decide (x.from_.length ≤ 16)) from by rw [Bool.eq_iff_iff]; simp]
    generalize decide (x.from_.length = x.args.length) = E
    generalize decide (1 ≤ x.from_.length) = D1
    generalize decide (x.from_.length ≤ 16) = D2
    simp only [Bool.true_or, Bool.true_and, Bool.and_true, if_true]
    ac_rfl
  | false =>
    have : x.op ≠ 22 := by simpa using h4
    rw [if_neg this]
    generalize decide (x.from_.length = 0) = E
    simp only [Bool.false_or, Bool.false_eq_true, if_false]
    ac_rfl
end Go.Proofs.YtcbhmpkginebaaaDoor
namespace Go.Proofs.YtcbhmpkginebaaaDoor
set_option linter.unusedVariables false
set_option linter.unusedSimpArgs false
open Go.ChangeShapes Go.WideShapes Go.ChangeAt Go.RowKit

set_option maxRecDepth 100000 in
set_option maxHeartbeats 3200000 in
theorem pins_g1 {w : World} (x : InR) (g0 : hasT x.op 0 = true) (g1 : hasT x.op 1 = true) (hx : x.Ok w) (hal : x.args.length ≤ 1000) (hfl : x.from_.length ≤ 1000) (t f r b : Int) (ht : TabW w) {z : Bool} (hz : insB x.data t f r b = z) :
    Calls Tryd.prog 73 #[x.val, szV t f r b] w fun e w' => e = .returned (.bool z) ∧ Below w.heap.size w w' := by
  have hop := hx.op
  have HX := Lib.hid hx
  obtain ⟨nu, hnu⟩ : ∃ v, numB x.data f = v := ⟨_, rfl⟩
  have HNU := Lib.hid (fun w => pnumber_any x t f r b w hnu)
  have HT := Lib.hid ht
  have hf0 := has_facts x.op
  have hsp := pins_split x.data t f r b (Has.mk' x.op)
  have hh := Has.mk' x.op
  rw [hz] at hsp
  generalize hasT x.op 0 = b0 at hf0 hsp hh g0
  generalize hasT x.op 1 = b1 at hf0 hsp hh g1
  generalize hasT x.op 2 = b2 at hf0 hsp hh
  generalize hasT x.op 3 = b3 at hf0 hsp hh
  generalize hasT x.op 4 = b4 at hf0 hsp hh
  generalize hasT x.op 5 = b5 at hf0 hsp hh
  unfold InR.val szV at *
  obtain ⟨op, ty, a, bb, n, aa, ac, args, xa, xc, from_⟩ := x
  unfold InR.data at hsp hnu
  dsimp only at *
  rw [hnu] at hsp
  obtain ⟨la, hla⟩ : ∃ v, args.length = v := ⟨_, rfl⟩
  obtain ⟨lf, hlf⟩ : ∃ v, from_.length = v := ⟨_, rfl⟩
  have HLA := Lib.hid hla
  have HLF := Lib.hid hlf
  rw [hla] at hal hsp HNU ⊢
  rw [hlf] at hfl hsp HNU ⊢
  clear hla hlf
  subst g0
  subst g1
  have HK := Lib.hid hf0.1
  have HH := Lib.hid hh
  obtain ⟨o, ho⟩ : ∃ v, (true || (true || (b2 || (b3 || (b4 || b5))))) = v := ⟨_, rfl⟩
  obtain ⟨ia, hia⟩ : ∃ v, inB a r = v := ⟨_, rfl⟩
  obtain ⟨ib, hib⟩ : ∃ v, inB bb r = v := ⟨_, rfl⟩
  obtain ⟨al, hal2⟩ : ∃ v, allB args r = v := ⟨_, rfl⟩
  rw [ho, hia, hib, hal2] at hsp
  obtain ⟨sv1, hs1⟩ : ∃ v, (o && ((!true || ia) && ((!true || ib) && (al && nu)))) = v := ⟨_, rfl⟩
  obtain ⟨q2, hq2⟩ : ∃ v, zero5 true true b2 b3 b4 a bb n la lf = v := ⟨_, rfl⟩
  obtain ⟨q3, hq3⟩ : ∃ v, typeB b5 ty t = v := ⟨_, rfl⟩
  rw [hs1, hq2, hq3] at hsp
  have HS1 := Lib.hid hs1
  have HQ2 := Lib.hid hq2
  have HQ3 := Lib.hid hq3
  have HR := Lib.hid hsp
  have hEQ := fun w => eqHasT (b0 := true) (b1 := true) (b2 := b2) (b3 := b3) (b4 := b4) (b5 := b5) (o := o) ho w
  have HEQ := Lib.hid hEQ
  have HA := Lib.hid hia
  have HB := Lib.hid hib
  have HG := Lib.hid hal2
  clear hx ht hz hsp hnu hf0 hh ho hia hib hal2 hs1 hq2 hq3 hEQ
  have hopz : (op : Int) ≤ 255 := by omega
  have hal3 : (la : Int) ≤ 1000 := by omega
  have hfl3 : (lf : Int) ≤ 1000 := by omega
  clear hal hfl
  have HB2 := Lib.hid (below2 w (.cells #[.int .u8 op, .int .i64 ty, .int .i64 a, .int .i64 bb, .int .i64 n, .slice aa la ac, .slice xa lf xc] 24) (.cells #[.int .i64 t, .int .i64 f, .int .i64 r, .int .i64 b] 101))
  have HX0 := Lib.hid ((Blk.new w 24 #[.int .u8 op, .int .i64 ty, .int .i64 a, .int .i64 bb, .int .i64 n, .slice aa la ac, .slice xa lf xc]).alloc (.cells #[.int .i64 t, .int .i64 f, .int .i64 r, .int .i64 b] 101))
  have HS0 := Lib.hid (Blk.new2 w (.cells #[.int .u8 op, .int .i64 ty, .int .i64 a, .int .i64 bb, .int .i64 n, .slice aa la ac, .slice xa lf xc] 24) 101 #[.int .i64 t, .int .i64 f, .int .i64 r, .int .i64 b])
  have x0 := HX0.out.cells 0
  go_enter Tryd.func73, Tryd.ntmps73
  go_wp2_with fail
  refine (of_is HH.out (by omega) _ (HT.out.on HB2.out)).mono ?_
  rintro e w1 ⟨rfl, hb1⟩
  clear x0
  have hX1 := HX0.out.beneath hb1
  have hS1 := HS0.out.beneath hb1
  have hB1 := HB2.out.trans (hb1.mono HB2.out.size)
  have HW1 := Lib.hid (show Box3 w (w1.alloc (.cells #[.bool true, .bool true, .bool b2, .bool b3, .bool b4, .bool b5] 65)) w.heap.size (w.heap.size + 1) w1.heap.size #[.int .u8 op, .int .i64 ty, .int .i64 a, .int .i64 bb, .int .i64 n, .slice aa la ac, .slice xa lf xc] #[.int .i64 t, .int .i64 f, .int .i64 r, .int .i64 b] #[.bool true, .bool true, .bool b2, .bool b3, .bool b4, .bool b5] from ⟨hX1.alloc _, hS1.alloc _, Blk.new _ _ _, hB1.alloc hB1.size _⟩)
  clear hX1 hS1 hB1 hb1 HX0 HS0 HB2
  go_upto_region 2 with fail
  go_cut [51] (fun c wx => c = .bool (!sv1) ∧ Hid (Box3 w wx w.heap.size (w.heap.size + 1) w1.heap.size #[.int .u8 op, .int .i64 ty, .int .i64 a, .int .i64 bb, .int .i64 n, .slice aa la ac, .slice xa lf xc] #[.int .i64 t, .int .i64 f, .int .i64 r, .int .i64 b] #[.bool true, .bool true, .bool b2, .bool b3, .bool b4, .bool b5]))
  case first =>
    have x0 := HW1.out.x.cells 0
    have x1 := HW1.out.x.cells 1
    have x2 := HW1.out.x.cells 2
    have x3 := HW1.out.x.cells 3
    have x4 := HW1.out.x.cells 4
    have x5 := HW1.out.x.cells 5
    have x6 := HW1.out.x.cells 6
    have s0 := HW1.out.s.cells 0
    have s1 := HW1.out.s.cells 1
    have s2 := HW1.out.s.cells 2
    have s3 := HW1.out.s.cells 3
    have h0 := HW1.out.h.cells 0
    have h1 := HW1.out.h.cells 1
    have h2 := HW1.out.h.cells 2
    have h3 := HW1.out.h.cells 3
    have h4 := HW1.out.h.cells 4
    have h5 := HW1.out.h.cells 5
    have hEQ := HEQ.out
    cases o with
    | false =>
      have hv : sv1 = false := by rw [← HS1.out]; simp
      subst hv
      go_wp2_with fail
      go_meet
      exact ⟨rfl, HW1⟩
    | true =>
      cases ia with
      | false =>
        go_wp2_with fail
        refine (pbelow_is HA.out _).mono ?_
        rintro e w9 ⟨rfl, rfl⟩
        have hv : sv1 = false := by rw [← HS1.out]; simp
        subst hv
        go_wp2_with fail
        go_meet
        exact ⟨rfl, HW1⟩
      | true =>
        go_wp2_with fail
        refine (pbelow_is HA.out _).mono ?_
        rintro e w9 ⟨rfl, rfl⟩
        cases ib with
        | false =>
          go_wp2_with fail
          refine (pbelow_is HB.out _).mono ?_
          rintro e w9 ⟨rfl, rfl⟩
          have hv : sv1 = false := by rw [← HS1.out]; simp
          subst hv
          go_wp2_with fail
          go_meet
          exact ⟨rfl, HW1⟩
        | true =>
          go_wp2_with fail
          refine (pbelow_is HB.out _).mono ?_
          rintro e w9 ⟨rfl, rfl⟩
          cases al with
          | false =>
            go_wp2_with fail
            refine (pall_is HX.out.ahdr (HX.out.args.up HW1.out.below) HLA.out r HG.out).mono ?_
            rintro e w2 ⟨rfl, hb2⟩
            have HW2 := Lib.hid (HW1.out.on hb2)
            clear hb2
            clear x0 x1 x2 x3 x4 x5 x6 s0 s1 s2 s3 h0 h1 h2 h3 h4 h5
            have x0 := HW2.out.x.cells 0
            have x1 := HW2.out.x.cells 1
            have x2 := HW2.out.x.cells 2
            have x3 := HW2.out.x.cells 3
            have x4 := HW2.out.x.cells 4
            have x5 := HW2.out.x.cells 5
            have x6 := HW2.out.x.cells 6
            have s0 := HW2.out.s.cells 0
            have s1 := HW2.out.s.cells 1
            have s2 := HW2.out.s.cells 2
            have s3 := HW2.out.s.cells 3
            have h0 := HW2.out.h.cells 0
            have h1 := HW2.out.h.cells 1
            have h2 := HW2.out.h.cells 2
            have h3 := HW2.out.h.cells 3
            have h4 := HW2.out.h.cells 4
            have h5 := HW2.out.h.cells 5
            have hv : sv1 = false := by rw [← HS1.out]; simp
            subst hv
            go_wp2_with fail
            go_meet
            exact ⟨rfl, HW2⟩
          | true =>
            go_wp2_with fail
            refine (pall_is HX.out.ahdr (HX.out.args.up HW1.out.below) HLA.out r HG.out).mono ?_
            rintro e w2 ⟨rfl, hb2⟩
            have HW2 := Lib.hid (HW1.out.on hb2)
            clear hb2
            clear x0 x1 x2 x3 x4 x5 x6 s0 s1 s2 s3 h0 h1 h2 h3 h4 h5
            have x0 := HW2.out.x.cells 0
            have x1 := HW2.out.x.cells 1
            have x2 := HW2.out.x.cells 2
            have x3 := HW2.out.x.cells 3
            have x4 := HW2.out.x.cells 4
            have x5 := HW2.out.x.cells 5
            have x6 := HW2.out.x.cells 6
            have s0 := HW2.out.s.cells 0
            have s1 := HW2.out.s.cells 1
            have s2 := HW2.out.s.cells 2
            have s3 := HW2.out.s.cells 3
            have h0 := HW2.out.h.cells 0
            have h1 := HW2.out.h.cells 1
            have h2 := HW2.out.h.cells 2
            have h3 := HW2.out.h.cells 3
            have h4 := HW2.out.h.cells 4
            have h5 := HW2.out.h.cells 5
            go_wp2_with fail
            refine (HNU.out _).mono ?_
            rintro e w3 ⟨rfl, hb3⟩
            have HW3 := Lib.hid (HW2.out.on hb3)
            clear hb3
            clear x0 x1 x2 x3 x4 x5 x6 s0 s1 s2 s3 h0 h1 h2 h3 h4 h5
            have x0 := HW3.out.x.cells 0
            have x1 := HW3.out.x.cells 1
            have x2 := HW3.out.x.cells 2
            have x3 := HW3.out.x.cells 3
            have x4 := HW3.out.x.cells 4
            have x5 := HW3.out.x.cells 5
            have x6 := HW3.out.x.cells 6
            have s0 := HW3.out.s.cells 0
            have s1 := HW3.out.s.cells 1
            have s2 := HW3.out.s.cells 2
            have s3 := HW3.out.s.cells 3
            have h0 := HW3.out.h.cells 0
            have h1 := HW3.out.h.cells 1
            have h2 := HW3.out.h.cells 2
            have h3 := HW3.out.h.cells 3
            have h4 := HW3.out.h.cells 4
            have h5 := HW3.out.h.cells 5
            have hv : sv1 = nu := by rw [← HS1.out]; simp
            subst hv
            go_wp2_with fail
            go_meet
            exact ⟨rfl, HW3⟩
  case rest =>
    clear HW1 HS1 HEQ
    obtain ⟨rfl, HW2⟩ := hcut
    cases sv1 with
    | false =>
      have HZ : Hid (z = false) := Lib.hid (by rw [HR.out]; rfl)
      go_wp2_with fail
      go_ret
      exact ⟨ret_bool HZ.out.symm, HW2.out.below⟩
    | true =>
      go_upto_region 4 with fail
      go_cut [6] (fun c wx => c = .bool (!q2) ∧ Hid (Box3 w wx w.heap.size (w.heap.size + 1) w1.heap.size #[.int .u8 op, .int .i64 ty, .int .i64 a, .int .i64 bb, .int .i64 n, .slice aa la ac, .slice xa lf xc] #[.int .i64 t, .int .i64 f, .int .i64 r, .int .i64 b] #[.bool true, .bool true, .bool b2, .bool b3, .bool b4, .bool b5]))
      case first =>
        have x0 := HW2.out.x.cells 0
        have x1 := HW2.out.x.cells 1
        have x2 := HW2.out.x.cells 2
        have x3 := HW2.out.x.cells 3
        have x4 := HW2.out.x.cells 4
        have x5 := HW2.out.x.cells 5
        have x6 := HW2.out.x.cells 6
        have s0 := HW2.out.s.cells 0
        have s1 := HW2.out.s.cells 1
        have s2 := HW2.out.s.cells 2
        have s3 := HW2.out.s.cells 3
        have h0 := HW2.out.h.cells 0
        have h1 := HW2.out.h.cells 1
        have h2 := HW2.out.h.cells 2
        have h3 := HW2.out.h.cells 3
        have h4 := HW2.out.h.cells 4
        have h5 := HW2.out.h.cells 5
        cases b2 with
        | true =>
          exact absurd HK.out (by simp [okHas])
        | false =>
          by_cases z2 : n = 0
          · obtain rfl := z2
            cases b3 with
            | true =>
              exact absurd HK.out (by simp [okHas])
            | false =>
              by_cases z3 : la = 0
              · obtain rfl := z3
                cases b4 with
                | true =>
                  exact absurd HK.out (by simp [okHas])
                | false =>
                  by_cases z4 : lf = 0
                  · obtain rfl := z4
                    have hv : q2 = true := by rw [← HQ2.out]; simp [zero5, *]
                    skip
                    subst hv
                    go_wp2_with fail
                    go_meet
                    exact ⟨by first | rfl | exact congrArg Value.bool (decide_eq_false (by omega)), HW2⟩
                  · have ez4 : 0 < (lf : Int) := by omega
                    have hv : q2 = false := by rw [← HQ2.out]; simp [zero5, *]
                    clear z4
                    subst hv
                    go_wp2_with fail
                    go_meet
                    exact ⟨by first | rfl | exact congrArg Value.bool (decide_eq_true (by omega)), HW2⟩
              · have ez3 : 0 < (la : Int) := by omega
                have hv : q2 = false := by rw [← HQ2.out]; simp [zero5, *]
                clear z3
                subst hv
                go_wp2_with fail
                go_meet
                exact ⟨by first | rfl | exact congrArg Value.bool (decide_eq_true (by omega)), HW2⟩
          · have ez2 : (n != 0) = true := bne_iff_ne.2 z2
            have hv : q2 = false := by rw [← HQ2.out]; simp [zero5, *]
            clear z2
            subst hv
            go_wp2_with fail
            go_meet
            exact ⟨by first | rfl | exact congrArg Value.bool (decide_eq_true (by omega)), HW2⟩
      case rest =>
        clear HW2 HQ2
        obtain ⟨rfl, HW2⟩ := hcut
        go_upto_region 5 with fail
        go_cut [7] (fun c wx => c = .bool q3 ∧ Hid (Box3 w wx w.heap.size (w.heap.size + 1) w1.heap.size #[.int .u8 op, .int .i64 ty, .int .i64 a, .int .i64 bb, .int .i64 n, .slice aa la ac, .slice xa lf xc] #[.int .i64 t, .int .i64 f, .int .i64 r, .int .i64 b] #[.bool true, .bool true, .bool b2, .bool b3, .bool b4, .bool b5]))
        case first =>
          have x0 := HW2.out.x.cells 0
          have x1 := HW2.out.x.cells 1
          have x2 := HW2.out.x.cells 2
          have x3 := HW2.out.x.cells 3
          have x4 := HW2.out.x.cells 4
          have x5 := HW2.out.x.cells 5
          have x6 := HW2.out.x.cells 6
          have s0 := HW2.out.s.cells 0
          have s1 := HW2.out.s.cells 1
          have s2 := HW2.out.s.cells 2
          have s3 := HW2.out.s.cells 3
          have h0 := HW2.out.h.cells 0
          have h1 := HW2.out.h.cells 1
          have h2 := HW2.out.h.cells 2
          have h3 := HW2.out.h.cells 3
          have h4 := HW2.out.h.cells 4
          have h5 := HW2.out.h.cells 5
          unfold typeB at HQ3
          cases b5 with
          | true =>
            have HT3 : Hid (inB ty t = q3) := Lib.hid HQ3.out
            cases q3 with
            | false =>
              go_wp2_with fail
              refine (pbelow_is HT3.out _).mono ?_
              rintro e w9 ⟨rfl, rfl⟩
              go_wp2_with fail
              go_meet
              exact ⟨rfl, HW2⟩
            | true =>
              go_wp2_with fail
              refine (pbelow_is HT3.out _).mono ?_
              rintro e w9 ⟨rfl, rfl⟩
              go_wp2_with fail
              go_meet
              exact ⟨rfl, HW2⟩
          | false =>
            have ez : (ty == 0) = q3 := by rw [← HQ3.out, Bool.eq_iff_iff]; simp
            go_wp2_with fail
            go_meet
            exact ⟨rfl, HW2⟩
        case rest =>
          clear HW2 HQ3
          obtain ⟨rfl, HW2⟩ := hcut
          have x0 := HW2.out.x.cells 0
          have x1 := HW2.out.x.cells 1
          have x2 := HW2.out.x.cells 2
          have x3 := HW2.out.x.cells 3
          have x4 := HW2.out.x.cells 4
          have x5 := HW2.out.x.cells 5
          have x6 := HW2.out.x.cells 6
          have s0 := HW2.out.s.cells 0
          have s1 := HW2.out.s.cells 1
          have s2 := HW2.out.s.cells 2
          have s3 := HW2.out.s.cells 3
          have h0 := HW2.out.h.cells 0
          have h1 := HW2.out.h.cells 1
          have h2 := HW2.out.h.cells 2
          have h3 := HW2.out.h.cells 3
          have h4 := HW2.out.h.cells 4
          have h5 := HW2.out.h.cells 5
          cases q2 with
          | false =>
            cases b4 with
            | true =>
              have HZ : Hid (z = false) := Lib.hid (by rw [HR.out]; simp [tailB, *])
              go_wp2_with fail
              go_ret
              exact ⟨ret_bool (by rw [HZ.out] <;> rfl), HW2.out.below⟩
            | false =>
              have HZ : Hid (z = false) := Lib.hid (by rw [HR.out]; simp [tailB, *])
              go_wp2_with fail
              go_ret
              exact ⟨ret_bool (by rw [HZ.out] <;> rfl), HW2.out.below⟩
          | true =>
            cases q3 with
            | false =>
              cases b4 with
              | true =>
                have HZ : Hid (z = false) := Lib.hid (by rw [HR.out]; simp [tailB, *])
                go_wp2_with fail
                go_ret
                exact ⟨ret_bool (by rw [HZ.out] <;> rfl), HW2.out.below⟩
              | false =>
                have HZ : Hid (z = false) := Lib.hid (by rw [HR.out]; simp [tailB, *])
                go_wp2_with fail
                go_ret
                exact ⟨ret_bool (by rw [HZ.out] <;> rfl), HW2.out.below⟩
            | true =>
              cases b4 with
              | false =>
                by_cases l4 : la ≤ 4
                · have l4z : (la : Int) ≤ 4 := by omega
                  have HZ : Hid (z = true) := Lib.hid (by rw [HR.out]; simp [tailB, *])
                  go_wp2_with fail
                  go_ret
                  exact ⟨ret_bool (by rw [HZ.out] <;> first | rfl | exact decide_eq_true (by omega)), HW2.out.below⟩
                · have l4z : ¬ (la : Int) ≤ 4 := by omega
                  have HZ : Hid (z = false) := Lib.hid (by rw [HR.out]; simp [tailB, *])
                  go_wp2_with fail
                  go_ret
                  exact ⟨ret_bool (by rw [HZ.out] <;> first | rfl | exact decide_eq_false (by omega)), HW2.out.below⟩
              | true =>
                have HR2 : Hid (z = (allB from_ b && (decide (lf = la) && (decide (1 ≤ lf) && decide (lf ≤ 16))))) := Lib.hid (by rw [HR.out]; rfl)
                obtain ⟨fb, hfb⟩ : ∃ v, allB from_ b = v := ⟨_, rfl⟩
                have HF := Lib.hid hfb
                clear hfb
                cases fb with
                | false =>
                  go_wp2_with fail
                  refine (pall_is HX.out.fhdr (HX.out.from_.up HW2.out.below) HLF.out b HF.out).mono ?_
                  rintro e w3 ⟨rfl, hb3⟩
                  have HW3 := Lib.hid (HW2.out.on hb3)
                  clear hb3
                  clear x0 x1 x2 x3 x4 x5 x6 s0 s1 s2 s3 h0 h1 h2 h3 h4 h5
                  have x0 := HW3.out.x.cells 0
                  have x1 := HW3.out.x.cells 1
                  have x2 := HW3.out.x.cells 2
                  have x3 := HW3.out.x.cells 3
                  have x4 := HW3.out.x.cells 4
                  have x5 := HW3.out.x.cells 5
                  have x6 := HW3.out.x.cells 6
                  have s0 := HW3.out.s.cells 0
                  have s1 := HW3.out.s.cells 1
                  have s2 := HW3.out.s.cells 2
                  have s3 := HW3.out.s.cells 3
                  have h0 := HW3.out.h.cells 0
                  have h1 := HW3.out.h.cells 1
                  have h2 := HW3.out.h.cells 2
                  have h3 := HW3.out.h.cells 3
                  have h4 := HW3.out.h.cells 4
                  have h5 := HW3.out.h.cells 5
                  have HZ : Hid (z = false) := Lib.hid (by rw [HR2.out, HF.out]; simp [*])
                  go_wp2_with fail
                  go_ret
                  exact ⟨ret_bool (by rw [HZ.out] <;> rfl), HW3.out.below⟩
                | true =>
                  go_wp2_with fail
                  refine (pall_is HX.out.fhdr (HX.out.from_.up HW2.out.below) HLF.out b HF.out).mono ?_
                  rintro e w3 ⟨rfl, hb3⟩
                  have HW3 := Lib.hid (HW2.out.on hb3)
                  clear hb3
                  clear x0 x1 x2 x3 x4 x5 x6 s0 s1 s2 s3 h0 h1 h2 h3 h4 h5
                  have x0 := HW3.out.x.cells 0
                  have x1 := HW3.out.x.cells 1
                  have x2 := HW3.out.x.cells 2
                  have x3 := HW3.out.x.cells 3
                  have x4 := HW3.out.x.cells 4
                  have x5 := HW3.out.x.cells 5
                  have x6 := HW3.out.x.cells 6
                  have s0 := HW3.out.s.cells 0
                  have s1 := HW3.out.s.cells 1
                  have s2 := HW3.out.s.cells 2
                  have s3 := HW3.out.s.cells 3
                  have h0 := HW3.out.h.cells 0
                  have h1 := HW3.out.h.cells 1
                  have h2 := HW3.out.h.cells 2
                  have h3 := HW3.out.h.cells 3
                  have h4 := HW3.out.h.cells 4
                  have h5 := HW3.out.h.cells 5
                  by_cases f0 : lf = la
                  · have f0z : ((lf : Int) == (la : Int)) = true := by simp [f0]
                    by_cases f1 : 1 ≤ lf
                    · have f1z : 1 ≤ (lf : Int) := by omega
                      by_cases f2 : lf ≤ 16
                      · have f2z : (lf : Int) ≤ 16 := by omega
                        have HZ : Hid (z = true) := Lib.hid (by rw [HR2.out, HF.out, decide_eq_true f0, decide_eq_true f1, decide_eq_true f2]; rfl)
                        clear f0 f1 f2
                        go_wp2_with fail
                        go_ret
                        exact ⟨ret_bool (by rw [HZ.out] <;> first | rfl | exact decide_eq_true (by omega)), HW3.out.below⟩
                      · have f2z : ¬ (lf : Int) ≤ 16 := by omega
                        have HZ : Hid (z = false) := Lib.hid (by rw [HR2.out, decide_eq_false f2]; simp)
                        clear f0 f1 f2
                        go_wp2_with fail
                        go_ret
                        exact ⟨ret_bool (by rw [HZ.out] <;> first | rfl | exact decide_eq_false (by omega)), HW3.out.below⟩
                    · have f1z : ¬ 1 ≤ (lf : Int) := by omega
                      have HZ : Hid (z = false) := Lib.hid (by rw [HR2.out, decide_eq_false f1]; simp)
                      clear f0 f1
                      go_wp2_with fail
                      go_ret
                      exact ⟨ret_bool (by rw [HZ.out] <;> first | rfl | exact decide_eq_false (by omega)), HW3.out.below⟩
                  · have f0z : ((lf : Int) == (la : Int)) = false := by rw [beq_eq_false_iff_ne]; omega
                    have HZ : Hid (z = false) := Lib.hid (by rw [HR2.out, decide_eq_false f0]; simp)
                    clear f0
                    go_wp2_with fail
                    go_ret
                    exact ⟨ret_bool (by rw [HZ.out]), HW3.out.below⟩
set_option maxRecDepth 100000 in
set_option maxHeartbeats 3200000 in
theorem pins_g2 {w : World} (x : InR) (g0 : hasT x.op 0 = true) (g1 : hasT x.op 1 = false) (g2 : hasT x.op 2 = true) (hx : x.Ok w) (hal : x.args.length ≤ 1000) (hfl : x.from_.length ≤ 1000) (t f r b : Int) (ht : TabW w) {z : Bool} (hz : insB x.data t f r b = z) :
    Calls Tryd.prog 73 #[x.val, szV t f r b] w fun e w' => e = .returned (.bool z) ∧ Below w.heap.size w w' := by
  have hop := hx.op
  have HX := Lib.hid hx
  obtain ⟨nu, hnu⟩ : ∃ v, numB x.data f = v := ⟨_, rfl⟩
  have HNU := Lib.hid (fun w => pnumber_any x t f r b w hnu)
  have HT := Lib.hid ht
  have hf0 := has_facts x.op
  have hsp := pins_split x.data t f r b (Has.mk' x.op)
  have hh := Has.mk' x.op
  rw [hz] at hsp
  generalize hasT x.op 0 = b0 at hf0 hsp hh g0
  generalize hasT x.op 1 = b1 at hf0 hsp hh g1
  generalize hasT x.op 2 = b2 at hf0 hsp hh g2
  generalize hasT x.op 3 = b3 at hf0 hsp hh
  generalize hasT x.op 4 = b4 at hf0 hsp hh
  generalize hasT x.op 5 = b5 at hf0 hsp hh
  unfold InR.val szV at *
  obtain ⟨op, ty, a, bb, n, aa, ac, args, xa, xc, from_⟩ := x
  unfold InR.data at hsp hnu
  dsimp only at *
  rw [hnu] at hsp
  obtain ⟨la, hla⟩ : ∃ v, args.length = v := ⟨_, rfl⟩
  obtain ⟨lf, hlf⟩ : ∃ v, from_.length = v := ⟨_, rfl⟩
  have HLA := Lib.hid hla
  have HLF := Lib.hid hlf
  rw [hla] at hal hsp HNU ⊢
  rw [hlf] at hfl hsp HNU ⊢
  clear hla hlf
  subst g0
  subst g1
  subst g2
  have HK := Lib.hid hf0.1
  have HH := Lib.hid hh
  obtain ⟨o, ho⟩ : ∃ v, (true || (false || (true || (b3 || (b4 || b5))))) = v := ⟨_, rfl⟩
  obtain ⟨ia, hia⟩ : ∃ v, inB a r = v := ⟨_, rfl⟩
  obtain ⟨ib, hib⟩ : ∃ v, inB bb r = v := ⟨_, rfl⟩
  obtain ⟨al, hal2⟩ : ∃ v, allB args r = v := ⟨_, rfl⟩
  rw [ho, hia, hib, hal2] at hsp
  obtain ⟨sv1, hs1⟩ : ∃ v, (o && ((!true || ia) && ((!false || ib) && (al && nu)))) = v := ⟨_, rfl⟩
  obtain ⟨q2, hq2⟩ : ∃ v, zero5 true false true b3 b4 a bb n la lf = v := ⟨_, rfl⟩
  obtain ⟨q3, hq3⟩ : ∃ v, typeB b5 ty t = v := ⟨_, rfl⟩
  rw [hs1, hq2, hq3] at hsp
  have HS1 := Lib.hid hs1
  have HQ2 := Lib.hid hq2
  have HQ3 := Lib.hid hq3
  have HR := Lib.hid hsp
  have hEQ := fun w => eqHasT (b0 := true) (b1 := false) (b2 := true) (b3 := b3) (b4 := b4) (b5 := b5) (o := o) ho w
  have HEQ := Lib.hid hEQ
  have HA := Lib.hid hia
  have HB := Lib.hid hib
  have HG := Lib.hid hal2
  clear hx ht hz hsp hnu hf0 hh ho hia hib hal2 hs1 hq2 hq3 hEQ
  have hopz : (op : Int) ≤ 255 := by omega
  have hal3 : (la : Int) ≤ 1000 := by omega
  have hfl3 : (lf : Int) ≤ 1000 := by omega
  clear hal hfl
  have HB2 := Lib.hid (below2 w (.cells #[.int .u8 op, .int .i64 ty, .int .i64 a, .int .i64 bb, .int .i64 n, .slice aa la ac, .slice xa lf xc] 24) (.cells #[.int .i64 t, .int .i64 f, .int .i64 r, .int .i64 b] 101))
  have HX0 := Lib.hid ((Blk.new w 24 #[.int .u8 op, .int .i64 ty, .int .i64 a, .int .i64 bb, .int .i64 n, .slice aa la ac, .slice xa lf xc]).alloc (.cells #[.int .i64 t, .int .i64 f, .int .i64 r, .int .i64 b] 101))
  have HS0 := Lib.hid (Blk.new2 w (.cells #[.int .u8 op, .int .i64 ty, .int .i64 a, .int .i64 bb, .int .i64 n, .slice aa la ac, .slice xa lf xc] 24) 101 #[.int .i64 t, .int .i64 f, .int .i64 r, .int .i64 b])
  have x0 := HX0.out.cells 0
  go_enter Tryd.func73, Tryd.ntmps73
  go_wp2_with fail
  refine (of_is HH.out (by omega) _ (HT.out.on HB2.out)).mono ?_
  rintro e w1 ⟨rfl, hb1⟩
  clear x0
  have hX1 := HX0.out.beneath hb1
  have hS1 := HS0.out.beneath hb1
  have hB1 := HB2.out.trans (hb1.mono HB2.out.size)
  have HW1 := Lib.hid (show Box3 w (w1.alloc (.cells #[.bool true, .bool false, .bool true, .bool b3, .bool b4, .bool b5] 65)) w.heap.size (w.heap.size + 1) w1.heap.size #[.int .u8 op, .int .i64 ty, .int .i64 a, .int .i64 bb, .int .i64 n, .slice aa la ac, .slice xa lf xc] #[.int .i64 t, .int .i64 f, .int .i64 r, .int .i64 b] #[.bool true, .bool false, .bool true, .bool b3, .bool b4, .bool b5] from ⟨hX1.alloc _, hS1.alloc _, Blk.new _ _ _, hB1.alloc hB1.size _⟩)
  clear hX1 hS1 hB1 hb1 HX0 HS0 HB2
  go_upto_region 2 with fail
  go_cut [51] (fun c wx => c = .bool (!sv1) ∧ Hid (Box3 w wx w.heap.size (w.heap.size + 1) w1.heap.size #[.int .u8 op, .int .i64 ty, .int .i64 a, .int .i64 bb, .int .i64 n, .slice aa la ac, .slice xa lf xc] #[.int .i64 t, .int .i64 f, .int .i64 r, .int .i64 b] #[.bool true, .bool false, .bool true, .bool b3, .bool b4, .bool b5]))
  case first =>
    have x0 := HW1.out.x.cells 0
    have x1 := HW1.out.x.cells 1
    have x2 := HW1.out.x.cells 2
    have x3 := HW1.out.x.cells 3
    have x4 := HW1.out.x.cells 4
    have x5 := HW1.out.x.cells 5
    have x6 := HW1.out.x.cells 6
    have s0 := HW1.out.s.cells 0
    have s1 := HW1.out.s.cells 1
    have s2 := HW1.out.s.cells 2
    have s3 := HW1.out.s.cells 3
    have h0 := HW1.out.h.cells 0
    have h1 := HW1.out.h.cells 1
    have h2 := HW1.out.h.cells 2
    have h3 := HW1.out.h.cells 3
    have h4 := HW1.out.h.cells 4
    have h5 := HW1.out.h.cells 5
    have hEQ := HEQ.out
    cases o with
    | false =>
      have hv : sv1 = false := by rw [← HS1.out]; simp
      subst hv
      go_wp2_with fail
      go_meet
      exact ⟨rfl, HW1⟩
    | true =>
      cases ia with
      | false =>
        go_wp2_with fail
        refine (pbelow_is HA.out _).mono ?_
        rintro e w9 ⟨rfl, rfl⟩
        have hv : sv1 = false := by rw [← HS1.out]; simp
        subst hv
        go_wp2_with fail
        go_meet
        exact ⟨rfl, HW1⟩
      | true =>
        go_wp2_with fail
        refine (pbelow_is HA.out _).mono ?_
        rintro e w9 ⟨rfl, rfl⟩
        cases al with
        | false =>
          go_wp2_with fail
          refine (pall_is HX.out.ahdr (HX.out.args.up HW1.out.below) HLA.out r HG.out).mono ?_
          rintro e w2 ⟨rfl, hb2⟩
          have HW2 := Lib.hid (HW1.out.on hb2)
          clear hb2
          clear x0 x1 x2 x3 x4 x5 x6 s0 s1 s2 s3 h0 h1 h2 h3 h4 h5
          have x0 := HW2.out.x.cells 0
          have x1 := HW2.out.x.cells 1
          have x2 := HW2.out.x.cells 2
          have x3 := HW2.out.x.cells 3
          have x4 := HW2.out.x.cells 4
          have x5 := HW2.out.x.cells 5
          have x6 := HW2.out.x.cells 6
          have s0 := HW2.out.s.cells 0
          have s1 := HW2.out.s.cells 1
          have s2 := HW2.out.s.cells 2
          have s3 := HW2.out.s.cells 3
          have h0 := HW2.out.h.cells 0
          have h1 := HW2.out.h.cells 1
          have h2 := HW2.out.h.cells 2
          have h3 := HW2.out.h.cells 3
          have h4 := HW2.out.h.cells 4
          have h5 := HW2.out.h.cells 5
          have hv : sv1 = false := by rw [← HS1.out]; simp
          subst hv
          go_wp2_with fail
          go_meet
          exact ⟨rfl, HW2⟩
        | true =>
          go_wp2_with fail
          refine (pall_is HX.out.ahdr (HX.out.args.up HW1.out.below) HLA.out r HG.out).mono ?_
          rintro e w2 ⟨rfl, hb2⟩
          have HW2 := Lib.hid (HW1.out.on hb2)
          clear hb2
          clear x0 x1 x2 x3 x4 x5 x6 s0 s1 s2 s3 h0 h1 h2 h3 h4 h5
          have x0 := HW2.out.x.cells 0
          have x1 := HW2.out.x.cells 1
          have x2 := HW2.out.x.cells 2
          have x3 := HW2.out.x.cells 3
          have x4 := HW2.out.x.cells 4
          have x5 := HW2.out.x.cells 5
          have x6 := HW2.out.x.cells 6
          have s0 := HW2.out.s.cells 0
          have s1 := HW2.out.s.cells 1
          have s2 := HW2.out.s.cells 2
          have s3 := HW2.out.s.cells 3
          have h0 := HW2.out.h.cells 0
          have h1 := HW2.out.h.cells 1
          have h2 := HW2.out.h.cells 2
          have h3 := HW2.out.h.cells 3
          have h4 := HW2.out.h.cells 4
          have h5 := HW2.out.h.cells 5
          go_wp2_with fail
          refine (HNU.out _).mono ?_
          rintro e w3 ⟨rfl, hb3⟩
          have HW3 := Lib.hid (HW2.out.on hb3)
          clear hb3
          clear x0 x1 x2 x3 x4 x5 x6 s0 s1 s2 s3 h0 h1 h2 h3 h4 h5
          have x0 := HW3.out.x.cells 0
          have x1 := HW3.out.x.cells 1
          have x2 := HW3.out.x.cells 2
          have x3 := HW3.out.x.cells 3
          have x4 := HW3.out.x.cells 4
          have x5 := HW3.out.x.cells 5
          have x6 := HW3.out.x.cells 6
          have s0 := HW3.out.s.cells 0
          have s1 := HW3.out.s.cells 1
          have s2 := HW3.out.s.cells 2
          have s3 := HW3.out.s.cells 3
          have h0 := HW3.out.h.cells 0
          have h1 := HW3.out.h.cells 1
          have h2 := HW3.out.h.cells 2
          have h3 := HW3.out.h.cells 3
          have h4 := HW3.out.h.cells 4
          have h5 := HW3.out.h.cells 5
          have hv : sv1 = nu := by rw [← HS1.out]; simp
          subst hv
          go_wp2_with fail
          go_meet
          exact ⟨rfl, HW3⟩
  case rest =>
    clear HW1 HS1 HEQ
    obtain ⟨rfl, HW2⟩ := hcut
    cases sv1 with
    | false =>
      have HZ : Hid (z = false) := Lib.hid (by rw [HR.out]; rfl)
      go_wp2_with fail
      go_ret
      exact ⟨ret_bool HZ.out.symm, HW2.out.below⟩
    | true =>
      go_upto_region 4 with fail
      go_cut [6] (fun c wx => c = .bool (!q2) ∧ Hid (Box3 w wx w.heap.size (w.heap.size + 1) w1.heap.size #[.int .u8 op, .int .i64 ty, .int .i64 a, .int .i64 bb, .int .i64 n, .slice aa la ac, .slice xa lf xc] #[.int .i64 t, .int .i64 f, .int .i64 r, .int .i64 b] #[.bool true, .bool false, .bool true, .bool b3, .bool b4, .bool b5]))
      case first =>
        have x0 := HW2.out.x.cells 0
        have x1 := HW2.out.x.cells 1
        have x2 := HW2.out.x.cells 2
        have x3 := HW2.out.x.cells 3
        have x4 := HW2.out.x.cells 4
        have x5 := HW2.out.x.cells 5
        have x6 := HW2.out.x.cells 6
        have s0 := HW2.out.s.cells 0
        have s1 := HW2.out.s.cells 1
        have s2 := HW2.out.s.cells 2
        have s3 := HW2.out.s.cells 3
        have h0 := HW2.out.h.cells 0
        have h1 := HW2.out.h.cells 1
        have h2 := HW2.out.h.cells 2
        have h3 := HW2.out.h.cells 3
        have h4 := HW2.out.h.cells 4
        have h5 := HW2.out.h.cells 5
        by_cases z1 : bb = 0
        · obtain rfl := z1
          cases b3 with
          | true =>
            exact absurd HK.out (by simp [okHas])
          | false =>
            by_cases z3 : la = 0
            · obtain rfl := z3
              cases b4 with
              | true =>
                exact absurd HK.out (by simp [okHas])
              | false =>
                by_cases z4 : lf = 0
                · obtain rfl := z4
                  have hv : q2 = true := by rw [← HQ2.out]; simp [zero5, *]
                  skip
                  subst hv
                  go_wp2_with fail
                  go_meet
                  exact ⟨by first | rfl | exact congrArg Value.bool (decide_eq_false (by omega)), HW2⟩
                · have ez4 : 0 < (lf : Int) := by omega
                  have hv : q2 = false := by rw [← HQ2.out]; simp [zero5, *]
                  clear z4
                  subst hv
                  go_wp2_with fail
                  go_meet
                  exact ⟨by first | rfl | exact congrArg Value.bool (decide_eq_true (by omega)), HW2⟩
            · have ez3 : 0 < (la : Int) := by omega
              have hv : q2 = false := by rw [← HQ2.out]; simp [zero5, *]
              clear z3
              subst hv
              go_wp2_with fail
              go_meet
              exact ⟨by first | rfl | exact congrArg Value.bool (decide_eq_true (by omega)), HW2⟩
        · have ez1 : (bb != 0) = true := bne_iff_ne.2 z1
          have hv : q2 = false := by rw [← HQ2.out]; simp [zero5, *]
          clear z1
          subst hv
          go_wp2_with fail
          go_meet
          exact ⟨by first | rfl | exact congrArg Value.bool (decide_eq_true (by omega)), HW2⟩
      case rest =>
        clear HW2 HQ2
        obtain ⟨rfl, HW2⟩ := hcut
        go_upto_region 5 with fail
        go_cut [7] (fun c wx => c = .bool q3 ∧ Hid (Box3 w wx w.heap.size (w.heap.size + 1) w1.heap.size #[.int .u8 op, .int .i64 ty, .int .i64 a, .int .i64 bb, .int .i64 n, .slice aa la ac, .slice xa lf xc] #[.int .i64 t, .int .i64 f, .int .i64 r, .int .i64 b] #[.bool true, .bool false, .bool true, .bool b3, .bool b4, .bool b5]))
        case first =>
          have x0 := HW2.out.x.cells 0
          have x1 := HW2.out.x.cells 1
          have x2 := HW2.out.x.cells 2
          have x3 := HW2.out.x.cells 3
          have x4 := HW2.out.x.cells 4
          have x5 := HW2.out.x.cells 5
          have x6 := HW2.out.x.cells 6
          have s0 := HW2.out.s.cells 0
          have s1 := HW2.out.s.cells 1
          have s2 := HW2.out.s.cells 2
          have s3 := HW2.out.s.cells 3
          have h0 := HW2.out.h.cells 0
          have h1 := HW2.out.h.cells 1
          have h2 := HW2.out.h.cells 2
          have h3 := HW2.out.h.cells 3
          have h4 := HW2.out.h.cells 4
          have h5 := HW2.out.h.cells 5
          unfold typeB at HQ3
          cases b5 with
          | true =>
            have HT3 : Hid (inB ty t = q3) := Lib.hid HQ3.out
            cases q3 with
            | false =>
              go_wp2_with fail
              refine (pbelow_is HT3.out _).mono ?_
              rintro e w9 ⟨rfl, rfl⟩
              go_wp2_with fail
              go_meet
              exact ⟨rfl, HW2⟩
            | true =>
              go_wp2_with fail
              refine (pbelow_is HT3.out _).mono ?_
              rintro e w9 ⟨rfl, rfl⟩
              go_wp2_with fail
              go_meet
              exact ⟨rfl, HW2⟩
          | false =>
            have ez : (ty == 0) = q3 := by rw [← HQ3.out, Bool.eq_iff_iff]; simp
            go_wp2_with fail
            go_meet
            exact ⟨rfl, HW2⟩
        case rest =>
          clear HW2 HQ3
          obtain ⟨rfl, HW2⟩ := hcut
          have x0 := HW2.out.x.cells 0
          have x1 := HW2.out.x.cells 1
          have x2 := HW2.out.x.cells 2
          have x3 := HW2.out.x.cells 3
          have x4 := HW2.out.x.cells 4
          have x5 := HW2.out.x.cells 5
          have x6 := HW2.out.x.cells 6
          have s0 := HW2.out.s.cells 0
          have s1 := HW2.out.s.cells 1
          have s2 := HW2.out.s.cells 2
          have s3 := HW2.out.s.cells 3
          have h0 := HW2.out.h.cells 0
          have h1 := HW2.out.h.cells 1
          have h2 := HW2.out.h.cells 2
          have h3 := HW2.out.h.cells 3
          have h4 := HW2.out.h.cells 4
          have h5 := HW2.out.h.cells 5
          cases q2 with
          | false =>
            cases b4 with
            | true =>
              have HZ : Hid (z = false) := Lib.hid (by rw [HR.out]; simp [tailB, *])
              go_wp2_with fail
              go_ret
              exact ⟨ret_bool (by rw [HZ.out] <;> rfl), HW2.out.below⟩
            | false =>
              have HZ : Hid (z = false) := Lib.hid (by rw [HR.out]; simp [tailB, *])
              go_wp2_with fail
              go_ret
              exact ⟨ret_bool (by rw [HZ.out] <;> rfl), HW2.out.below⟩
          | true =>
            cases q3 with
            | false =>
              cases b4 with
              | true =>
                have HZ : Hid (z = false) := Lib.hid (by rw [HR.out]; simp [tailB, *])
                go_wp2_with fail
                go_ret
                exact ⟨ret_bool (by rw [HZ.out] <;> rfl), HW2.out.below⟩
              | false =>
                have HZ : Hid (z = false) := Lib.hid (by rw [HR.out]; simp [tailB, *])
                go_wp2_with fail
                go_ret
                exact ⟨ret_bool (by rw [HZ.out] <;> rfl), HW2.out.below⟩
            | true =>
              cases b4 with
              | false =>
                by_cases l4 : la ≤ 4
                · have l4z : (la : Int) ≤ 4 := by omega
                  have HZ : Hid (z = true) := Lib.hid (by rw [HR.out]; simp [tailB, *])
                  go_wp2_with fail
                  go_ret
                  exact ⟨ret_bool (by rw [HZ.out] <;> first | rfl | exact decide_eq_true (by omega)), HW2.out.below⟩
                · have l4z : ¬ (la : Int) ≤ 4 := by omega
                  have HZ : Hid (z = false) := Lib.hid (by rw [HR.out]; simp [tailB, *])
                  go_wp2_with fail
                  go_ret
                  exact ⟨ret_bool (by rw [HZ.out] <;> first | rfl | exact decide_eq_false (by omega)), HW2.out.below⟩
              | true =>
                have HR2 : Hid (z = (allB from_ b && (decide (lf = la) && (decide (1 ≤ lf) && decide (lf ≤ 16))))) := Lib.hid (by rw [HR.out]; rfl)
                obtain ⟨fb, hfb⟩ : ∃ v, allB from_ b = v := ⟨_, rfl⟩
                have HF := Lib.hid hfb
                clear hfb
                cases fb with
                | false =>
                  go_wp2_with fail
                  refine (pall_is HX.out.fhdr (HX.out.from_.up HW2.out.below) HLF.out b HF.out).mono ?_
                  rintro e w3 ⟨rfl, hb3⟩
                  have HW3 := Lib.hid (HW2.out.on hb3)
                  clear hb3
                  clear x0 x1 x2 x3 x4 x5 x6 s0 s1 s2 s3 h0 h1 h2 h3 h4 h5
                  have x0 := HW3.out.x.cells 0
                  have x1 := HW3.out.x.cells 1
                  have x2 := HW3.out.x.cells 2
                  have x3 := HW3.out.x.cells 3
                  have x4 := HW3.out.x.cells 4
                  have x5 := HW3.out.x.cells 5
                  have x6 := HW3.out.x.cells 6
                  have s0 := HW3.out.s.cells 0
                  have s1 := HW3.out.s.cells 1
                  have s2 := HW3.out.s.cells 2
                  have s3 := HW3.out.s.cells 3
                  have h0 := HW3.out.h.cells 0
                  have h1 := HW3.out.h.cells 1
                  have h2 := HW3.out.h.cells 2
                  have h3 := HW3.out.h.cells 3
                  have h4 := HW3.out.h.cells 4
                  have h5 := HW3.out.h.cells 5
                  have HZ : Hid (z = false) := Lib.hid (by rw [HR2.out, HF.out]; simp [*])
                  go_wp2_with fail
                  go_ret
                  exact ⟨ret_bool (by rw [HZ.out] <;> rfl), HW3.out.below⟩
                | true =>
                  go_wp2_with fail
                  refine (pall_is HX.out.fhdr (HX.out.from_.up HW2.out.below) HLF.out b HF.out).mono ?_
                  rintro e w3 ⟨rfl, hb3⟩
                  have HW3 := Lib.hid (HW2.out.on hb3)
                  clear hb3
                  clear x0 x1 x2 x3 x4 x5 x6 s0 s1 s2 s3 h0 h1 h2 h3 h4 h5
                  have x0 := HW3.out.x.cells 0
                  have x1 := HW3.out.x.cells 1
                  have x2 := HW3.out.x.cells 2
                  have x3 := HW3.out.x.cells 3
                  have x4 := HW3.out.x.cells 4
                  have x5 := HW3.out.x.cells 5
                  have x6 := HW3.out.x.cells 6
                  have s0 := HW3.out.s.cells 0
                  have s1 := HW3.out.s.cells 1
                  have s2 := HW3.out.s.cells 2
                  have s3 := HW3.out.s.cells 3
                  have h0 := HW3.out.h.cells 0
                  have h1 := HW3.out.h.cells 1
                  have h2 := HW3.out.h.cells 2
                  have h3 := HW3.out.h.cells 3
                  have h4 := HW3.out.h.cells 4
                  have h5 := HW3.out.h.cells 5
                  by_cases f0 : lf = la
                  · have f0z : ((lf : Int) == (la : Int)) = true := by simp [f0]
                    by_cases f1 : 1 ≤ lf
                    · have f1z : 1 ≤ (lf : Int) := by omega
                      by_cases f2 : lf ≤ 16
                      · have f2z : (lf : Int) ≤ 16 := by omega
                        have HZ : Hid (z = true) := Lib.hid (by rw [HR2.out, HF.out, decide_eq_true f0, decide_eq_true f1, decide_eq_true f2]; rfl)
                        clear f0 f1 f2
                        go_wp2_with fail
                        go_ret
                        exact ⟨ret_bool (by rw [HZ.out] <;> first | rfl | exact decide_eq_true (by omega)), HW3.out.below⟩
                      · have f2z : ¬ (lf : Int) ≤ 16 := by omega
                        have HZ : Hid (z = false) := Lib.hid (by rw [HR2.out, decide_eq_false f2]; simp)
                        clear f0 f1 f2
                        go_wp2_with fail
                        go_ret
                        exact ⟨ret_bool (by rw [HZ.out] <;> first | rfl | exact decide_eq_false (by omega)), HW3.out.below⟩
                    · have f1z : ¬ 1 ≤ (lf : Int) := by omega
                      have HZ : Hid (z = false) := Lib.hid (by rw [HR2.out, decide_eq_false f1]; simp)
                      clear f0 f1
                      go_wp2_with fail
                      go_ret
                      exact ⟨ret_bool (by rw [HZ.out] <;> first | rfl | exact decide_eq_false (by omega)), HW3.out.below⟩
                  · have f0z : ((lf : Int) == (la : Int)) = false := by rw [beq_eq_false_iff_ne]; omega
                    have HZ : Hid (z = false) := Lib.hid (by rw [HR2.out, decide_eq_false f0]; simp)
                    clear f0
                    go_wp2_with fail
                    go_ret
                    exact ⟨ret_bool (by rw [HZ.out]), HW3.out.below⟩
end Go.Proofs.YtcbhmpkginebaaaDoor
