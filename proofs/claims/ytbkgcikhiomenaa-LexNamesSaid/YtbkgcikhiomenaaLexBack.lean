/-
  The walk of the law LexBack.
-/
import Derived.Test.YtbkgcikhiomenaaLexAre
import Derived.Test.YtbkgcikhiomenaaLexLaw2
import Derived.Test.YtbkgcikhiomenaaLexJoin2
import Derived.Test.YtbkgcikhiomenaaLexGreat
namespace Go.Proofs.Ytbkgcikhiomenaa
set_option linter.unusedVariables false
set_option linter.unusedSimpArgs false
open Go.ChangeShapes Go.WideShapes Go.ChangeAt Go.RowKit

theorem joinP_err {l : List (List Bs)} {t : Bs} {er : Int} (h : joinP l = (t, er)) : er = 0 ∨ er ≠ 0 := by omega
theorem joinP_len {l : List (List Bs)} {t : Bs} (h : joinP l = (t, 0)) : t.length ≤ 16384 := by
  unfold joinP at h
  cases hm : mayP l with
  | false => rw [hm] at h; cases h
  | true =>
    rw [hm] at h
    cases ho : overP l with
    | true => rw [ho] at h; cases h
    | false =>
      rw [ho] at h
      obtain ⟨h1, _⟩ := Prod.mk.inj h
      unfold overP at ho
      rw [Bool.or_eq_false_iff] at ho
      have h2 := of_decide_eq_false ho.2
      have h3 : textT l = t := h1
      rw [← h3]
      omega
theorem toL_arr (t : Bs) : toL ⟨t.toArray⟩ = t := rfl
theorem few_lines {s : Bs} {m : List (List Bs)} {rows : List LnR} (h : linesP s = some m) (hs : s.length ≤ 2000) (hr : rows.map LnR.data = m) : FewL rows := by
  obtain ⟨h1, h2⟩ := lines_few h
  rw [← hr, List.length_map] at h1
  refine ⟨by omega, fun r hrr => ?_⟩
  obtain ⟨h3, h4⟩ := h2 r.data (by rw [← hr]; exact List.mem_map.2 ⟨r, hrr, rfl⟩)
  have h5 : r.data.length = r.xs.length := List.length_map _
  refine ⟨by omega, fun x hx => ?_⟩
  have := h4 (toL x) (List.mem_map.2 ⟨x, hx, rfl⟩)
  rw [toL_size] at this
  omega
set_option maxRecDepth 100000 in
set_option maxHeartbeats 6400000 in
theorem walk_LexBack {w : World} {A : Option Addr} {c : Nat} {rows : List LnR} (h : LinesAt w A c rows) (s : ByteArray) (ws : s.size ≤ maxLen) :
    Calls Try.prog 7 #[.slice A rows.length c, .string s] w fun e w' => e = .returned (.bool true) ∧ Below w.heap.size w w' := by
  unfold maxLen at ws
  have HX := Lib.hid h
  have hl := h.hdr.le
  clear h
  by_cases h1 : 2000 < s.size
  · have q1 : (2000 : Int) < s.size := by omega
    clear h1
    go_enter Try.func7, Try.ntmps7
    go_wp2_with (first
      | (go_at_call 13; refine (alive_any _).mono ?_; rintro e w1 ⟨rfl, hb1⟩; have HB1 := Lib.hid hb1; clear hb1)
      | (go_at_call 15; refine (rgreatl_any (HX.out.on HB1.out) 2000 (by decide)).mono ?_; rintro e w2 ⟨b, rfl, hb, hb2⟩; have HB2 := Lib.hid hb2; clear hb hb2; cases b))
    all_goals
      go_ret
      exact ⟨rfl, HB1.out.trans (HB2.out.mono HB1.out.size)⟩
  have q1 : ¬ (2000 : Int) < s.size := by omega
  have H1 := Lib.hid (Nat.le_of_not_lt h1)
  clear h1
  obtain ⟨o, ho⟩ : ∃ o, linesP (toL s) = o := ⟨_, rfl⟩
  obtain ⟨jt, hjt⟩ : ∃ j, joinP (rows.map LnR.data) = j := ⟨_, rfl⟩
  obtain ⟨t, er⟩ := jt
  have HJ := Lib.hid hjt
  have HO := Lib.hid ho
  clear ho hjt
  by_cases her : er = 0
  · subst her
    have HT : Hid (linesP (toL ⟨t.toArray⟩) = some (rows.map LnR.data)) := Lib.hid (by rw [toL_arr]; exact join_back HJ.out)
    have HTL : Hid ((⟨t.toArray⟩ : ByteArray).size ≤ 20000) := Lib.hid (by rw [← toL_size, toL_arr]; have := joinP_len HJ.out; omega)
    cases o with
    | none =>
      have HE : Hid (errL none = 4) := Lib.hid rfl
      go_enter Try.func7, Try.ntmps7
      go_wp2_with (first
        | (go_at_call 13; refine (alive_any _).mono ?_; rintro e w1 ⟨rfl, hb1⟩; have HB1 := Lib.hid hb1; clear hb1)
        | (go_at_call 15; refine (rgreatl_any (HX.out.on HB1.out) 2000 (by decide)).mono ?_; rintro e w2 ⟨b, rfl, hb, hb2⟩; have HG := Lib.hid hb; have HB2 := Lib.hid (HB1.out.trans (hb2.mono HB1.out.size)); clear hb hb2; cases b)
        | (go_at_call 16; refine (pjoin_any (HX.out.on HB2.out) (FewC.few ((show NotGreat rows 2000 false from HG.out) rfl) (by decide))).mono ?_; rintro e w3 ⟨t3, er3, rfl, hj3, hb3⟩; have he := HJ.out.symm.trans hj3; injection he with he1 he2; subst he1 he2; have HB3 := Lib.hid (HB2.out.trans (hb3.mono HB2.out.size)); clear hj3 hb3)
        | (go_at_call 14; refine (are_any _ HTL.out (HX.out.on HB3.out) true (decide_eq_true HT.out)).mono ?_; rintro e w4 ⟨rfl, hb4⟩; have HB4 := Lib.hid (HB3.out.trans (hb4.mono HB3.out.size)); clear hb4)
        | (go_at_call 8; refine (plines_any s (by have := H1.out; omega) _).mono ?_; intro e w5 hl; rw [HO.out] at hl; obtain ⟨rfl, hb5⟩ := hl; have HB5 := Lib.hid (HB4.out.trans (hb5.mono HB4.out.size)); clear hb5))
      · go_ret
        exact ⟨rfl, HB5.out⟩
      · go_ret
        exact ⟨rfl, HB2.out⟩
    | some m =>
      have HE : Hid (errL (some m) = 0) := Lib.hid rfl
      have HJ2 : Hid (joinP m = (textT m, 0)) := Lib.hid (lines_join (by rw [toL_size]; have := H1.out; omega) HO.out)
      have HT2 : Hid (linesP (toL ⟨(textT m).toArray⟩) = some m) := Lib.hid (by rw [toL_arr]; exact join_back HJ2.out)
      have HTL2 : Hid ((⟨(textT m).toArray⟩ : ByteArray).size ≤ 20000) := Lib.hid (by rw [← toL_size, toL_arr]; have := joinP_len HJ2.out; omega)
      obtain ⟨tm, htm⟩ : ∃ tm, textT m = tm := ⟨_, rfl⟩
      rw [htm] at HJ2 HT2 HTL2
      clear htm
      go_enter Try.func7, Try.ntmps7
      go_wp2_with (first
        | (go_at_call 13; refine (alive_any _).mono ?_; rintro e w1 ⟨rfl, hb1⟩; have HB1 := Lib.hid hb1; clear hb1; have tok1 : True := trivial)
        | (go_at_call 15; refine (rgreatl_any (HX.out.on HB1.out) 2000 (by decide)).mono ?_; rintro e w2 ⟨b, rfl, hb, hb2⟩; have HG := Lib.hid hb; have HB2 := Lib.hid (HB1.out.trans (hb2.mono HB1.out.size)); clear hb hb2; cases b)
        | (go_at_call 16; have _t := tok1; refine (pjoin_any (HX.out.on HB2.out) (FewC.few ((show NotGreat rows 2000 false from HG.out) rfl) (by decide))).mono ?_; rintro e w3 ⟨t3, er3, rfl, hj3, hb3⟩; have he := HJ.out.symm.trans hj3; injection he with he1 he2; subst he1 he2; have HB3 := Lib.hid (HB2.out.trans (hb3.mono HB2.out.size)); clear hj3 hb3 tok1 _t; have tok2 : True := trivial)
        | (go_at_call 14; have _t := tok2; refine (are_any _ HTL.out (HX.out.on HB3.out) true (decide_eq_true HT.out)).mono ?_; rintro e w4 ⟨rfl, hb4⟩; have HB4 := Lib.hid (HB3.out.trans (hb4.mono HB3.out.size)); clear hb4 tok2 _t)
        | (go_at_call 8; refine (plines_any s (by have := H1.out; omega) _).mono ?_; intro e w5 hl; rw [HO.out] at hl; obtain ⟨A5, c5, rs, rfl, hown, hrw, hb5⟩ := hl.form; rw [HE.out]; have HRS : Hid (rs.map LnR.data = m) := Lib.hid hrw.out; have HL := Lib.hid hl; have HW := Lib.hid hown; have HB5 := Lib.hid (HB4.out.trans (hb5.mono HB4.out.size)); clear hb5 hl hown hrw)
        | (go_at_call 16; refine (pjoin_any HW.out.at_ (few_lines HO.out (by rw [toL_size]; exact H1.out) HRS.out)).mono ?_; rintro e w6 ⟨t6, er6, rfl, hj6, hb6⟩; rw [HRS.out] at hj6; have he := HJ2.out.symm.trans hj6; injection he with he1 he2; subst he1 he2; have HB6 := Lib.hid (HB5.out.trans (hb6.mono HB5.out.size)); have HB6' := Lib.hid hb6; clear hj6 hb6)
        | (go_at_call 14; refine (are_any _ HTL2.out (HW.out.keep HB6'.out).at_ true (decide_eq_true (HT2.out.trans (by rw [HRS.out])))).mono ?_; rintro e w7 ⟨rfl, hb7⟩; have HB7 := Lib.hid (HB6.out.trans (hb7.mono HB6.out.size)); clear hb7))
      · go_ret
        exact ⟨rfl, HB7.out⟩
      · go_ret
        exact ⟨rfl, HB2.out⟩
  · have herb : (er == 0) = false := beq_eq_false_iff_ne.2 her
    clear her
    cases o with
    | none =>
      go_enter Try.func7, Try.ntmps7
      go_wp2_with (first
        | (go_at_call 13; refine (alive_any _).mono ?_; rintro e w1 ⟨rfl, hb1⟩; have HB1 := Lib.hid hb1; clear hb1)
        | (go_at_call 15; refine (rgreatl_any (HX.out.on HB1.out) 2000 (by decide)).mono ?_; rintro e w2 ⟨b, rfl, hb, hb2⟩; have HG := Lib.hid hb; have HB2 := Lib.hid (HB1.out.trans (hb2.mono HB1.out.size)); clear hb hb2; cases b)
        | (go_at_call 16; refine (pjoin_any (HX.out.on HB2.out) (FewC.few ((show NotGreat rows 2000 false from HG.out) rfl) (by decide))).mono ?_; rintro e w3 ⟨t3, er3, rfl, hj3, hb3⟩; have he := HJ.out.symm.trans hj3; injection he with he1 he2; subst he1 he2; have HB3 := Lib.hid (HB2.out.trans (hb3.mono HB2.out.size)); clear hj3 hb3)
        | (go_at_call 8; refine (plines_any s (by have := H1.out; omega) _).mono ?_; intro e w5 hl; rw [HO.out] at hl; obtain ⟨rfl, hb5⟩ := hl; have HB5 := Lib.hid (HB3.out.trans (hb5.mono HB3.out.size)); clear hb5))
      · go_ret
        exact ⟨rfl, HB5.out⟩
      · go_ret
        exact ⟨rfl, HB2.out⟩
    | some m =>
      have HE : Hid (errL (some m) = 0) := Lib.hid rfl
      have HJ2 : Hid (joinP m = (textT m, 0)) := Lib.hid (lines_join (by rw [toL_size]; have := H1.out; omega) HO.out)
      have HT2 : Hid (linesP (toL ⟨(textT m).toArray⟩) = some m) := Lib.hid (by rw [toL_arr]; exact join_back HJ2.out)
      have HTL2 : Hid ((⟨(textT m).toArray⟩ : ByteArray).size ≤ 20000) := Lib.hid (by rw [← toL_size, toL_arr]; have := joinP_len HJ2.out; omega)
      obtain ⟨tm, htm⟩ : ∃ tm, textT m = tm := ⟨_, rfl⟩
      rw [htm] at HJ2 HT2 HTL2
      clear htm
      go_enter Try.func7, Try.ntmps7
      go_wp2_with (first
        | (go_at_call 13; refine (alive_any _).mono ?_; rintro e w1 ⟨rfl, hb1⟩; have HB1 := Lib.hid hb1; clear hb1; have tok1 : True := trivial)
        | (go_at_call 15; refine (rgreatl_any (HX.out.on HB1.out) 2000 (by decide)).mono ?_; rintro e w2 ⟨b, rfl, hb, hb2⟩; have HG := Lib.hid hb; have HB2 := Lib.hid (HB1.out.trans (hb2.mono HB1.out.size)); clear hb hb2; cases b)
        | (go_at_call 16; have _t := tok1; refine (pjoin_any (HX.out.on HB2.out) (FewC.few ((show NotGreat rows 2000 false from HG.out) rfl) (by decide))).mono ?_; rintro e w3 ⟨t3, er3, rfl, hj3, hb3⟩; have he := HJ.out.symm.trans hj3; injection he with he1 he2; subst he1 he2; have HB3 := Lib.hid (HB2.out.trans (hb3.mono HB2.out.size)); clear hj3 hb3 tok1 _t)
        | (go_at_call 8; refine (plines_any s (by have := H1.out; omega) _).mono ?_; intro e w5 hl; rw [HO.out] at hl; obtain ⟨A5, c5, rs, rfl, hown, hrw, hb5⟩ := hl.form; rw [HE.out]; have HRS : Hid (rs.map LnR.data = m) := Lib.hid hrw.out; have HL := Lib.hid hl; have HW := Lib.hid hown; have HB5 := Lib.hid (HB3.out.trans (hb5.mono HB3.out.size)); clear hb5 hl hown hrw)
        | (go_at_call 16; refine (pjoin_any HW.out.at_ (few_lines HO.out (by rw [toL_size]; exact H1.out) HRS.out)).mono ?_; rintro e w6 ⟨t6, er6, rfl, hj6, hb6⟩; rw [HRS.out] at hj6; have he := HJ2.out.symm.trans hj6; injection he with he1 he2; subst he1 he2; have HB6 := Lib.hid (HB5.out.trans (hb6.mono HB5.out.size)); have HB6' := Lib.hid hb6; clear hj6 hb6)
        | (go_at_call 14; refine (are_any _ HTL2.out (HW.out.keep HB6'.out).at_ true (decide_eq_true (HT2.out.trans (by rw [HRS.out])))).mono ?_; rintro e w7 ⟨rfl, hb7⟩; have HB7 := Lib.hid (HB6.out.trans (hb7.mono HB6.out.size)); clear hb7))
      · go_ret
        exact ⟨rfl, HB7.out⟩
      · go_ret
        exact ⟨rfl, HB2.out⟩
end Go.Proofs.Ytbkgcikhiomenaa
