/-
  The walk of the law LexTells.
-/
import Derived.Test.YtbkgcikhiomenaaLexMark
import Derived.Test.YtbkgcikhiomenaaLexRef4
namespace Go.Proofs.Ytbkgcikhiomenaa
set_option linter.unusedVariables false
set_option linter.unusedSimpArgs false
open Go.ChangeShapes Go.WideShapes Go.ChangeAt Go.RowKit

def errL (o : Option (List (List Bs))) : Int := if o.isSome then 0 else 4
/-- Lines' answer in one form. -/
theorem LinesOut.form {o : Option (List (List Bs))} {w w' : World} {e : Ending} (h : LinesOut o w e w') : ∃ A c rows, e = .returned (.tuple #[.slice A rows.length c, .int .i64 (errL o)]) ∧ OwnLines w' w.heap.size (.slice A rows.length c) rows ∧ Hid (rows.map LnR.data = o.getD []) ∧ Below w.heap.size w w' := by
  cases o with
  | none =>
    obtain ⟨rfl, hb⟩ := h
    exact ⟨none, 0, [], rfl, OwnLines.nil _ _, Lib.hid rfl, hb⟩
  | some m =>
    obtain ⟨v, rows, rfl, ho, hm, hb⟩ := h
    obtain ⟨A, c, rfl, _⟩ := ho.full
    exact ⟨A, c, rows, rfl, ho, Lib.hid hm, hb⟩
theorem lns_data {rows rows' : List LnR} (h : rows.map LnR.data = rows'.map LnR.data) : lns rows = lns rows' := by
  have h1 : ∀ l : List LnR, l.map LnR.data = (lns l).map (List.map toL) := fun l => by unfold lns; rw [List.map_map]; rfl
  rw [h1, h1] at h
  exact (List.map_inj_right fun a b h2 => (List.map_inj_right fun a b h3 => toL_inj h3).1 h2).1 h
theorem OwnLines.at_ {w : World} {lo : Nat} {A : Option Addr} {c : Nat} {rows : List LnR} (h : OwnLines w lo (.slice A rows.length c) rows) : LinesAt w A c rows := by
  obtain ⟨A2, c2, e, h2⟩ := h.full
  injection e with e1 _ e3
  subst e1 e3
  exact h2
set_option maxRecDepth 100000 in
set_option maxHeartbeats 1600000 in
theorem walk_LexTells {w : World} (s : ByteArray) (w0 : s.size ≤ maxLen) (c : Int) (w1 : (Lit.int .u8 c).wf = true) :
    Calls Try.prog 3 #[.string s, .int .u8 c] w fun e w' => e = .returned (.bool true) ∧ Below w.heap.size w w' := by
  unfold maxLen at w0
  have hc : 0 ≤ c ∧ c < 256 := by
    have h1 : IntKind.u8.min ≤ c ∧ c ≤ IntKind.u8.max := by simpa [Lit.wf] using w1
    have h2 : IntKind.u8.min = 0 := rfl
    have h3 : IntKind.u8.max = 255 := rfl
    omega
  clear w1
  obtain ⟨d, rfl⟩ : ∃ d : UInt8, (d.toNat : Int) = c := ⟨UInt8.ofNat c.toNat, by rw [UInt8.toNat_ofNat']; omega⟩
  clear hc
  by_cases hg : (2000 < s.size ∧ s.size ≤ 16384) ∨ 17000 < s.size
  · by_cases h2 : 2000 < s.size
    · have q2 : (2000 : Int) < s.size := by omega
      by_cases h3 : s.size ≤ 16384
      · have q3 : (s.size : Int) ≤ 16384 := by omega
        clear hg h2 h3
        go_enter Try.func3, Try.ntmps3
        go_wp2_with fail
        go_ret
        exact ⟨rfl, Below.refl _ _⟩
      · have q3 : ¬ (s.size : Int) ≤ 16384 := by omega
        have q4 : (17000 : Int) < s.size := by omega
        clear hg h2 h3
        go_enter Try.func3, Try.ntmps3
        go_wp2_with fail
        go_ret
        exact ⟨rfl, Below.refl _ _⟩
    · exfalso; omega
  · obtain ⟨n, er, ht⟩ := told_ex (s.data.toList.drop 1)
    have HS : s.size ≤ 20000 := by omega
    have HT := Lib.hid ht
    obtain ⟨o, ho⟩ : ∃ o, linesP (toL s) = o := ⟨_, rfl⟩
    obtain ⟨mv, hmv⟩ : ∃ x, (markOf s.data.toList d n er).1 = x := ⟨_, rfl⟩
    obtain ⟨me, hme⟩ : ∃ x, (markOf s.data.toList d n er).2 = x := ⟨_, rfl⟩
    obtain ⟨eo, heo⟩ : ∃ x, errL o = x := ⟨_, rfl⟩
    have HO := Lib.hid ho
    have HMV := Lib.hid hmv
    have HME := Lib.hid hme
    have HEO := Lib.hid heo
    have HSZ := Lib.hid HS
    have q5 : ¬ (17000 : Int) < s.size := by omega
    have tail : True := trivial
    by_cases h2 : 2000 < s.size
    all_goals
      first
        | (have q2 : (2000 : Int) < s.size := by omega
           have q3 : ¬ (s.size : Int) ≤ 16384 := by omega)
        | (have q2 : ¬ (2000 : Int) < s.size := by omega)
      clear hg h2 ht ho hmv hme heo HS tail
      go_enter Try.func3, Try.ntmps3
      go_wp2_with (first
        | (go_at_call 8; refine (plines_any s HSZ.out _).mono ?_; intro e w1 hl; rw [HO.out] at hl; obtain ⟨A, c, rows, rfl, hown, hrw, hb1⟩ := hl.form; rw [HEO.out]; have HL := Lib.hid hl; have HW := Lib.hid hown; have HB := Lib.hid hb1; clear hl hown hb1)
        | (go_at_call 9; refine (rlines_any s HSZ.out _).mono ?_; intro e w2 hl2; rw [HO.out] at hl2; obtain ⟨A2, c2, rows2, rfl, hown2, hrw2, hb2⟩ := hl2.form; rw [HEO.out]; have HW2 := Lib.hid hown2; have HB2 := Lib.hid hb2; clear hl2 hown2 hb2)
        | (go_at_call 10; refine (pmark_any s d n er HT.out _).mono ?_; rw [HMV.out, HME.out]; rintro e w3 ⟨rfl, hb3⟩; have HB3 := Lib.hid hb3; clear hb3)
        | (go_at_call 11; refine (rmark_any s d n er HT.out _).mono ?_; rw [HMV.out, HME.out]; rintro e w4 ⟨rfl, hb4⟩; have HB4 := Lib.hid hb4; clear hb4)
        | (go_at_call 12; refine (rsamel_any (((HW.out.keep HB2.out).keep HB3.out).keep HB4.out).at_ ((HW2.out.keep HB3.out).keep HB4.out).at_).mono ?_; rintro e w5 ⟨rfl, hb5⟩; rw [decide_eq_true (lns_data (hrw.out.trans hrw2.out.symm))]; have HB5 := Lib.hid hb5; clear hb5))
      go_ret
      exact ⟨rfl, (((HB.out.trans (HB2.out.mono HB.out.size)).trans (HB3.out.mono (Nat.le_trans HB.out.size HB2.out.size))).trans (HB4.out.mono (Nat.le_trans (Nat.le_trans HB.out.size HB2.out.size) HB3.out.size))).trans (HB5.out.mono (Nat.le_trans (Nat.le_trans (Nat.le_trans HB.out.size HB2.out.size) HB3.out.size) HB4.out.size))⟩
end Go.Proofs.Ytbkgcikhiomenaa
