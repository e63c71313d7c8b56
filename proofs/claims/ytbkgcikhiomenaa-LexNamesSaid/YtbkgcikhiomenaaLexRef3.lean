/-
  The reference's lines of a text.
-/
import Derived.Test.YtbkgcikhiomenaaLexRef2
import Derived.Test.YtbkgcikhiomenaaLexLines
namespace Go.Proofs.Ytbkgcikhiomenaa
set_option linter.unusedVariables false
set_option linter.unusedSimpArgs false
open Go.ChangeShapes Go.WideShapes Go.ChangeAt Go.RowKit

def wordsF (x : ByteArray) : List Bs := wordsR (toL x)
theorem takeF (xs : List ByteArray) {k : Nat} (h : k < xs.length) {x : ByteArray} (e : xs.getD k ⟨#[]⟩ = x) : (xs.take (k + 1)).map wordsF = (xs.take k).map wordsF ++ [wordsF x] := by
  have hx : xs[k] = x := by rw [← e, List.getD_eq_getElem?_getD, List.getElem?_eq_getElem h]; rfl
  rw [List.take_add_one, List.getElem?_eq_getElem h, hx, List.map_append]
  rfl
theorem anyF (xs : List ByteArray) {k : Nat} (h : k < xs.length) {x : ByteArray} (e : xs.getD k ⟨#[]⟩ = x) (hx : 64 < (wordsF x).length) : (xs.map wordsF).any (fun l => decide (64 < l.length)) = true := by
  have hx2 : xs[k] = x := by rw [← e, List.getD_eq_getElem?_getD, List.getElem?_eq_getElem h]; rfl
  rw [List.any_eq_true]
  exact ⟨wordsF x, List.mem_map.2 ⟨x, by rw [← hx2]; exact List.getElem_mem h, rfl⟩, decide_eq_true hx⟩
set_option maxRecDepth 100000 in
set_option maxHeartbeats 3200000 in
theorem rlines_any (s : ByteArray) (hs : s.size ≤ 20000) (w : World) : Calls Try.prog 9 #[.string s] w (LinesOut (linesP (toL s)) w) := by
  by_cases hbig : 16384 < s.size
  · have hq : (16384 : Int) < (s.size : Int) := by omega
    rw [show linesP (toL s) = none by unfold linesP; rw [toL_size, if_pos hbig]]
    clear hbig
    go_enter Try.func9, Try.ntmps9
    go_wp2_with fail
    go_ret2
    exact ⟨rfl, Below.refl _ _⟩
  · have hq : ¬ (16384 : Int) < (s.size : Int) := by omega
    obtain ⟨out, hout⟩ : ∃ o, linesP (toL s) = o := ⟨_, rfl⟩
    rw [hout]
    have HOUT : Hid (outR (toL s) [] [] = out) := Lib.hid (by rw [← hout]; unfold linesP; rw [toL_size, if_neg hbig])
    clear hbig hout
    go_enter Try.func9, Try.ntmps9
    go_wp2_with fail
    refine (cut_any s 10 (by omega) w).mono ?_
    rintro e w1 ⟨v1, xs1, rfl, hown1, hm1, hb1⟩
    obtain ⟨A1, c1, rfl, hh1, hs1⟩ := hown1.full
    have HS1 := Lib.hid hs1
    have HQ1 := Lib.hid hb1
    have HF : Hid ((cutB 10 (toL s)).map wordsR = xs1.map wordsF) := Lib.hid (by rw [← hm1, List.map_map]; rfl)
    have hl1 : xs1.length ≤ 30000 := by
      have h1 := (cut_small 10 (toL s)).1
      rw [← hm1, List.length_map, toL_size] at h1
      omega
    have HSM : Hid (∀ x ∈ xs1, x.size ≤ 90000) := Lib.hid fun x hx => by
      have h1 := (cut_small 10 (toL s)).2 (toL x) (by rw [← hm1]; exact List.mem_map.2 ⟨x, hx, rfl⟩)
      rw [toL_size, toL_size] at h1
      omega
    clear hown1 hh1 hs1 hb1 hm1
    go_wp2_with fail
    go_loopw [4, 6] (fun v i wr => ∃ (k : Nat) (acc : List LnR), k ≤ xs1.length ∧ acc.length ≤ k ∧ i = .int .i64 k ∧ Hid (OwnLines wr w1.heap.size v acc) ∧ Hid (((xs1.take k).map wordsF).any (fun l => decide (64 < l.length)) = false) ∧ Hid (acc.map LnR.data = ((xs1.take k).map wordsF).filter fun l => !l.isEmpty) ∧ Hid (Below w1.heap.size w1 wr)) (fun _ i _ => xs1.length - (intOf i).toNat)
    case atStart => exact ⟨0, [], Nat.zero_le _, Nat.zero_le _, rfl, Lib.hid (OwnLines.nil _ _), Lib.hid rfl, Lib.hid rfl, Lib.hid (Below.refl _ _)⟩
    case round =>
      obtain ⟨k, acc, hk, hal, rfl, HO, HN, HA, HB⟩ := hrel
      by_cases hlt : k < xs1.length
      · obtain ⟨b, off, x, rfl, hbl, d0, HE⟩ := (HS1.out.on HB.out).elem hlt
        have hxs : x.size ≤ 90000 := HSM.out x (by
          have := HE.out
          rw [List.getD_eq_getElem?_getD, List.getElem?_eq_getElem hlt] at this
          rw [← this]
          exact List.getElem_mem hlt)
        go_wp2_with fail
        refine (words_any x hxs wr).mono ?_
        rintro e w2 ⟨v2, xs2, rfl, hown2, hm2, hb2⟩
        obtain ⟨r, hv2, hr2, hok2⟩ := hown2.row
        obtain ⟨ra, rc, rxs⟩ := r
        have e1 : rxs = xs2 := hr2
        subst e1
        have e2 : v2 = .slice ra rxs.length rc := hv2
        subst e2
        have HLN : Hid ((wordsF x).length = rxs.length) := Lib.hid (by show (wordsR (toL x)).length = _; rw [← hm2, List.length_map])
        have HDT : Hid (LnR.data ⟨ra, rc, rxs⟩ = wordsF x) := Lib.hid hm2
        have HOK := Lib.hid hok2
        have HB2 := Lib.hid (HB.out.trans (hb2.mono HB.out.size))
        have HO2 := Lib.hid (HO.out.keep hb2)
        clear hown2 hm2 hb2 hv2 hr2 hok2 d0
        by_cases h64 : 64 < rxs.length
        · have h64z : (64 : Int) < (rxs.length : Int) := by omega
          have HNO : Hid (out = none) := Lib.hid (by rw [← HOUT.out, outR_start, HF.out, if_pos (anyF xs1 hlt HE.out (by rw [HLN.out]; exact h64))])
          obtain rfl := HNO.out
          clear h64
          go_wp2_with fail
          go_ret2
          exact ⟨rfl, HQ1.out.trans (HB2.out.mono HQ1.out.size)⟩
        · have h64z : ¬ (64 : Int) < (rxs.length : Int) := by omega
          have HN1 : Hid (((xs1.take (k + 1)).map wordsF).any (fun l => decide (64 < l.length)) = false) := Lib.hid (by
            rw [takeF xs1 hlt HE.out, List.any_append, HN.out, Bool.false_or, List.any_cons, List.any_nil, Bool.or_false]
            exact decide_eq_false (by rw [HLN.out]; exact h64))
          clear h64
          by_cases h0 : 0 < rxs.length
          · have h0z : (0 : Int) < (rxs.length : Int) := by omega
            have HA1 : Hid ((acc ++ [(⟨ra, rc, rxs⟩ : LnR)]).map LnR.data = ((xs1.take (k + 1)).map wordsF).filter fun l => !l.isEmpty) := Lib.hid (by
              rw [takeF xs1 hlt HE.out, List.filter_append, List.map_append, HA.out]
              congr 1
              show [LnR.data ⟨ra, rc, rxs⟩] = _
              rw [HDT.out, List.filter_cons, if_pos]
              · rfl
              · have h1 := HLN.out
                cases hw : wordsF x with
                | nil => rw [hw] at h1; have : (0 : Nat) = rxs.length := h1; omega
                | cons a l => rfl)
            clear h0
            go_wp2_with (at_builtin; refine wpList_appL rfl (.tmp 30) (.tmp 32) rfl w1.heap.size _ acc rfl ⟨ra, rc, rxs⟩ HO2.out HOK.out (by rfl) (by omega) HB2.out.size ?_; intro v' w3 hown hg; refine pause ?_)
            have HB3 := Lib.hid (Below.grown (HB2.out.alloc HB2.out.size _) hg (HB2.out.alloc HB2.out.size _).size (own_base HO2.out.row))
            have HO3 := Lib.hid hown
            clear hown hg
            refine resume ?_
            go_wp2_with fail
            go_roundw
            case rel => exact ⟨k + 1, acc ++ [(⟨ra, rc, rxs⟩ : LnR)], by omega, by rw [List.length_append]; show acc.length + 1 ≤ k + 1; omega, by go_num, HO3, HN1, HA1, HB3⟩
            case measure => simp [intOf]; omega
          · have h0z : ¬ (0 : Int) < (rxs.length : Int) := by omega
            have HA1 : Hid (acc.map LnR.data = ((xs1.take (k + 1)).map wordsF).filter fun l => !l.isEmpty) := Lib.hid (by
              rw [takeF xs1 hlt HE.out, List.filter_append, HA.out]
              have h1 : wordsF x = [] := List.eq_nil_of_length_eq_zero (by rw [HLN.out]; omega)
              rw [h1]
              exact (List.append_nil _).symm)
            clear h0
            go_wp2_with fail
            go_roundw
            case rel => exact ⟨k + 1, acc, by omega, by omega, by go_num, HO2, HN1, HA1, HB2⟩
            case measure => simp [intOf]; omega
      · obtain rfl : k = xs1.length := by omega
        have hn := HN.out
        have ha := HA.out
        rw [List.take_length] at hn ha
        have HSO : Hid (out = some (acc.map LnR.data)) := Lib.hid (by rw [← HOUT.out, outR_start, HF.out, if_neg (by rw [hn]; decide), ha])
        obtain rfl := HSO.out
        clear hn ha
        go_wp2_with fail
        go_ret2
        exact ⟨_, acc, rfl, HO.out.more HQ1.out.size, rfl, HQ1.out.trans (HB.out.mono HQ1.out.size)⟩
end Go.Proofs.Ytbkgcikhiomenaa
