/-
  The program's may at the types of functions.
-/
import Derived.Test.YtphoomlamdelkaaTypProg2
namespace Go.Proofs.Ytphoomlamdelkaa
set_option linter.unusedVariables false
set_option linter.unusedSimpArgs false
open Go.ChangeShapes Go.WideShapes Go.ChangeAt Go.RowKit

theorem mayFn_all {t : List Ty} {el ma : Int} {ps : List Int} : mayFnB t ⟨3, el, ma, ps⟩ = (decide (ma = 0) && (decide (ps.length ≤ 4) && ([el] ++ ps).all (plainB t))) := by
  unfold mayFnB
  rw [List.all_append]
  simp only [List.all_cons, List.all_nil, Bool.and_true]
  generalize ps.all (plainB t) = a
  generalize plainB t el = b
  generalize decide (ps.length ≤ 4) = c
  generalize decide (ma = 0) = d
  cases a <;> cases b <;> cases c <;> cases d <;> rfl
theorem plain_lower {t : List Ty} {l : List Int} (h : lowerB l t.length = false) : l.all (plainB t) = false := by
  cases hc : l.all (plainB t) with
  | false => rfl
  | true =>
    exfalso
    have : lowerB l t.length = true := lowerB_iff.2 fun n hn => by
      have := List.all_eq_true.1 hc n hn
      unfold plainB at this
      simp only [Bool.and_eq_true, decide_eq_true_eq] at this
      exact this.1
    rw [this] at h
    cases h

set_option maxHeartbeats 1600000 in
theorem may3_any {w : World} {A : Option Addr} {c : Nat} {rows : List TyR} {k : Nat} {S : Option Addr} {cs : Nat} (h : MayIn w A c rows k S cs) (hκ : (rows.getD k default).kind = 3) :
    Calls Try.prog 41 #[.slice A rows.length c, .int .i64 k, .slice S k cs] w (MayAns (tbl rows) k w) := by
  have hl := h.tab.len
  have hk := h.lt
  obtain ⟨b, off, rfl, hbl, c0, c1, c2, c3⟩ := (h.tab.rows.elem hk).at_
  have HM : Hid (mayT (tbl rows) k = mayX (tbl rows) (rows.getD k default).data k) := Lib.hid (by unfold mayT; rw [tbl_at hk])
  have HG := Lib.hid (good_scalar (t := tbl rows) (k := k) (by rw [tbl_at hk]; show (rows.getD k default).kind ≠ 4; omega) (by rw [tbl_at hk]; show (rows.getD k default).kind ≠ 5; omega))
  have hrk := h.tab.row hk
  have hfew := h.few _ (mem_getD (d := default) hk)
  have HI := Lib.hid h
  clear h
  generalize rows.getD k default = r at c0 c1 c2 c3 HM hrk hκ hfew
  obtain ⟨κ, el, ma, pa, pc, parts⟩ := r
  simp only at c0 c1 c2 c3 hκ hfew
  subst hκ
  have hlp := Nat.le_trans hrk.hdr.fit hrk.hdr.cap
  unfold maxLen at hlp
  simp only at hlp
  have HK := Lib.hid hrk
  clear hrk
  have HF := Lib.hid (mayFn_all (t := tbl rows) (el := el) (ma := ma) (ps := parts))
  have HX : Hid (mayT (tbl rows) k = mayFnB (tbl rows) ⟨3, el, ma, parts⟩) := HM
  clear HM
  by_cases h4 : (parts.length : Int) ≤ 4
  · have HH : Hid (∀ w2 : World, OwnInts (w2.alloc (.cells #[.int .i64 el] 3)) w.heap.size (.slice (some ⟨w2.heap.size, 0, none⟩) 1 1) [el] ∨ ¬ w.heap.size ≤ w2.heap.size) := Lib.hid fun w2 => by
      by_cases hle : w.heap.size ≤ w2.heap.size
      · exact .inl (OwnInts.one w2 _ w2.heap.size el hle rfl)
      · exact .inr hle
    have H4 : Hid (decide (parts.length ≤ 4) = true) := Lib.hid (by simp; omega)
    go_enter Try.func41, Try.ntmps41
    go_wp2_with fail
    refine (pplain_any ⟨3, el, ma, pa, pc, parts⟩ (by simpa using hlp)).mono ?_
    rintro e w1 ⟨rfl, hb1⟩
    have hkx : Blk w1 (w.heap.size + 1) 31 #[.int .u8 3, .int .i64 el, .int .i64 ma, .slice pa parts.length pc] := (Blk.new2 w _ _ _).beneath hb1
    have hkb : Blk w1 w.heap.size 22 #[.slice (some ⟨b, off, none⟩) rows.length c] := ((Blk.new w _ _).alloc _).beneath hb1
    have k0 := hkx.cells 0
    have k1 := hkx.cells 1
    have k3 := hkx.cells 3
    have KX := Lib.hid hkx
    have KB := Lib.hid hkb
    have HB := Lib.hid (below_new2 hb1)
    have hz := hb1.size
    simp only [World.size_alloc] at hz
    have k3a := (hkx.alloc (.cells #[.int .i64 el] 3)).cells 3
    clear hkx hkb hb1
    have HO1 : Hid (OwnInts (w1.alloc (.cells #[.int .i64 el] 3)) w.heap.size (.slice (some ⟨w1.heap.size, 0, none⟩) 1 1) [el]) := Lib.hid ((HH.out w1).resolve_right (fun h => h HB.out.size))
    have HB1 : Hid (Below w.heap.size w (w1.alloc (.cells #[.int .i64 el] 3))) := Lib.hid (HB.out.alloc HB.out.size _)
    clear HH
    have HPK : Hid (plainK (TyR.data ⟨3, el, ma, pa, pc, parts⟩) = decide (ma = 0)) := Lib.hid rfl
    rw [HPK.out]
    obtain ⟨pb, hpb⟩ : ∃ pb, decide (ma = 0) = pb := ⟨_, rfl⟩
    rw [hpb]
    have HP := Lib.hid hpb
    clear hpb HPK
    go_wp2_with (at_builtin; refine wpList_appN rfl (.tmp 40) (.tmp 42) rfl w.heap.size 0 w.heap.size _ [el] rfl HO1.out pa parts.length pc parts rfl rfl HK.out.hdr.nil (HK.out.ints.keep HB1.out) (by simp; omega) HB1.out.size ?_; intro v2 w2 hown2 hg2; refine pause ?_)
    have hb2 := HB1.out.grown hg2 HB1.out.size HO1.out.base
    have hkx2 := (Blk.alloc KX.out _).grown hg2 (HO1.out.ne (Blk.alloc KX.out _) (by decide))
    have hkb2 := (Blk.alloc KB.out _).grown hg2 (HO1.out.ne (Blk.alloc KB.out _) (by decide))
    obtain ⟨A2, c2', rfl, hnil2, hints2, hle2, hcap2⟩ := hown2.form
    have k0' := hkx2.cells 0
    have k1' := hkx2.cells 1
    have k3' := hkx2.cells 3
    have kb' := hkb2.cells 0
    have KB2 := Lib.hid hkb2
    have HB2 := Lib.hid hb2
    have HN2 : Hid (Hdr A2 ([el] ++ parts).length c2') := Lib.hid ⟨hle2, hcap2, hnil2⟩
    have HI2 := Lib.hid hints2
    clear k0 k1 k3 k3a KX KB hown2 hg2 hb2 hkx2 hkb2 hnil2 hints2 hle2 hcap2
    refine resume ?_
    cases pb with
    | false =>
      go_wp2_with fail
      all_goals go_ret2
      all_goals refine mayAns_of rfl ?_ (fun h => by cases h) HB2.out
      all_goals rw [HG.out.1, HX.out, HF.out, HP.out]
      all_goals rfl
    | true =>
      cases hth : lowerB ([el] ++ parts) rows.length with
      | false =>
        have HTH : Hid (lowerB ([el] ++ parts) rows.length = false) := Lib.hid hth
        have HPL : Hid (([el] ++ parts).all (plainB (tbl rows)) = false) := Lib.hid (plain_lower (by rw [tbl_len]; exact hth))
        clear hth
        go_wp2_with fail
        refine (there_any HN2.out HI2.out rows.length).mono ?_
        rw [HTH.out]
        rintro e w3 ⟨rfl, hb3⟩
        have HB3 := Lib.hid (HB2.out.trans (hb3.mono HB2.out.size))
        clear hb3
        go_wp2_with fail
        all_goals go_ret2
        all_goals refine mayAns_of rfl ?_ (fun h => by cases h) HB3.out
        all_goals rw [HG.out.1, HX.out, HF.out, HP.out, HPL.out, H4.out]
        all_goals rfl
      | true =>
        have HTH : Hid (lowerB ([el] ++ parts) rows.length = true) := Lib.hid hth
        clear hth
        obtain ⟨q, hq⟩ : ∃ q, ([el] ++ parts).all (plainB (tbl rows)) = q := ⟨_, rfl⟩
        have HAN : Hid (([el] ++ parts).any (fun x => !plainB (tbl rows) x) = !q) := Lib.hid (by rw [← hq, List.any_eq_not_all_not]; simp)
        have HQ := Lib.hid hq
        clear hq
        go_wp2_with fail
        refine (there_any HN2.out HI2.out rows.length).mono ?_
        rw [HTH.out]
        rintro e w3 ⟨rfl, hb3⟩
        have HB3 := Lib.hid (HB2.out.trans (hb3.mono HB2.out.size))
        have HI3 := Lib.hid ((HI2.out.keep hb3).more (Nat.le_refl _) hb3.size)
        have HAB : Hid (AnswersBy w3 64 #[.pointer (some ⟨w.heap.size, 0, none⟩)] ([el] ++ parts) (fun x => !plainB (tbl rows) x)) := Lib.hid ⟨enters_may, fun W x hbW hx => by
          obtain ⟨x0, x1⟩ := lowerB_iff.1 HTH.out x hx
          obtain ⟨i, rfl⟩ := Int.eq_ofNat_of_zero_le x0
          exact may1_any (HI.out.tab.on ((HB3.out).trans (hbW.mono HB3.out.size))) (by omega) (((KB2.out.beneath hb3).beneath hbW).cells 0)⟩
        clear hb3
        go_wp2_with fail
        refine (containsFunc_any HN2.out HI3.out _ _ _ HAB.out).mono ?_
        rw [HAN.out]
        rintro e w4 ⟨rfl, hb4⟩
        have HB4 := Lib.hid (HB3.out.trans (hb4.mono HB3.out.size))
        clear hb4
        go_wp2_with fail
        all_goals go_ret2
        all_goals refine mayAns_of rfl ?_ (fun _ => HG.out.2) HB4.out
        all_goals rw [HG.out.1, HX.out, HF.out, HP.out, H4.out, HQ.out]
        all_goals first | rfl | (simp [*]; done)
  · have HH : Hid (∀ w2 : World, OwnInts (w2.alloc (.cells #[.int .i64 el] 3)) w.heap.size (.slice (some ⟨w2.heap.size, 0, none⟩) 1 1) [el] ∨ ¬ w.heap.size ≤ w2.heap.size) := Lib.hid fun w2 => by
      by_cases hle : w.heap.size ≤ w2.heap.size
      · exact .inl (OwnInts.one w2 _ w2.heap.size el hle rfl)
      · exact .inr hle
    have H4 : Hid (decide (parts.length ≤ 4) = false) := Lib.hid (by simp; omega)
    go_enter Try.func41, Try.ntmps41
    go_wp2_with fail
    refine (pplain_any ⟨3, el, ma, pa, pc, parts⟩ (by simpa using hlp)).mono ?_
    rintro e w1 ⟨rfl, hb1⟩
    have hkx : Blk w1 (w.heap.size + 1) 31 #[.int .u8 3, .int .i64 el, .int .i64 ma, .slice pa parts.length pc] := (Blk.new2 w _ _ _).beneath hb1
    have hkb : Blk w1 w.heap.size 22 #[.slice (some ⟨b, off, none⟩) rows.length c] := ((Blk.new w _ _).alloc _).beneath hb1
    have k0 := hkx.cells 0
    have k1 := hkx.cells 1
    have k3 := hkx.cells 3
    have KX := Lib.hid hkx
    have KB := Lib.hid hkb
    have HB := Lib.hid (below_new2 hb1)
    have hz := hb1.size
    simp only [World.size_alloc] at hz
    have k3a := (hkx.alloc (.cells #[.int .i64 el] 3)).cells 3
    clear hkx hkb hb1
    have HO1 : Hid (OwnInts (w1.alloc (.cells #[.int .i64 el] 3)) w.heap.size (.slice (some ⟨w1.heap.size, 0, none⟩) 1 1) [el]) := Lib.hid ((HH.out w1).resolve_right (fun h => h HB.out.size))
    have HB1 : Hid (Below w.heap.size w (w1.alloc (.cells #[.int .i64 el] 3))) := Lib.hid (HB.out.alloc HB.out.size _)
    clear HH
    have HPK : Hid (plainK (TyR.data ⟨3, el, ma, pa, pc, parts⟩) = decide (ma = 0)) := Lib.hid rfl
    rw [HPK.out]
    obtain ⟨pb, hpb⟩ : ∃ pb, decide (ma = 0) = pb := ⟨_, rfl⟩
    rw [hpb]
    have HP := Lib.hid hpb
    clear hpb HPK
    go_wp2_with (at_builtin; refine wpList_appN rfl (.tmp 40) (.tmp 42) rfl w.heap.size 0 w.heap.size _ [el] rfl HO1.out pa parts.length pc parts rfl rfl HK.out.hdr.nil (HK.out.ints.keep HB1.out) (by simp; omega) HB1.out.size ?_; intro v2 w2 hown2 hg2; refine pause ?_)
    have hb2 := HB1.out.grown hg2 HB1.out.size HO1.out.base
    have hkx2 := (Blk.alloc KX.out _).grown hg2 (HO1.out.ne (Blk.alloc KX.out _) (by decide))
    have hkb2 := (Blk.alloc KB.out _).grown hg2 (HO1.out.ne (Blk.alloc KB.out _) (by decide))
    obtain ⟨A2, c2', rfl, hnil2, hints2, hle2, hcap2⟩ := hown2.form
    have k0' := hkx2.cells 0
    have k1' := hkx2.cells 1
    have k3' := hkx2.cells 3
    have kb' := hkb2.cells 0
    have KB2 := Lib.hid hkb2
    have HB2 := Lib.hid hb2
    have HN2 : Hid (Hdr A2 ([el] ++ parts).length c2') := Lib.hid ⟨hle2, hcap2, hnil2⟩
    have HI2 := Lib.hid hints2
    clear k0 k1 k3 k3a KX KB hown2 hg2 hb2 hkx2 hkb2 hnil2 hints2 hle2 hcap2
    refine resume ?_
    cases pb
    all_goals
      go_wp2_with fail
      all_goals go_ret2
      all_goals refine mayAns_of rfl ?_ (fun h => by cases h) HB2.out
      all_goals rw [HG.out.1, HX.out, HF.out, HP.out, H4.out]
      all_goals rfl
end Go.Proofs.Ytphoomlamdelkaa
