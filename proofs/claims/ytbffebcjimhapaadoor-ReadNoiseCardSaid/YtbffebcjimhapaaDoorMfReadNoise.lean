/-
  The walk of the statement ReadNoise: for every text it returns true.
-/
import Derived.Test.YtbffebcjimhapaaDoorMg23
namespace Go.Proofs.YtbffebcjimhapaaDoor
set_option linter.unusedVariables false
set_option linter.unusedSimpArgs false
open Go.ChangeShapes Go.WideShapes Go.ChangeAt Go.RowKit

set_option maxRecDepth 100000 in
set_option maxHeartbeats 3200000 in
theorem walk_ReadNoise (s : ByteArray) (w : World) (w0 : s.size ≤ maxLen) (htab : TabW w) :
    Calls Tryd.prog 5 #[.string s] w fun e w' => e = .returned (.bool true) ∧ Below w.heap.size w w' := by
  have HA := Lib.hid (alive7_any w htab)
  have HT := Lib.hid htab
  have hmx : s.size ≤ 9223372036854775807 := w0
  clear w0 htab
  by_cases hs : 3000 < s.size
  · have q1 : (3000 : Int) < s.size := by omega
    go_enter Tryd.func5, Tryd.ntmps5
    go_wp2_with (go_at_call 10; refine HA.out.mono ?_; rintro e w1 ⟨rfl, hb⟩; have HB := Lib.hid hb; clear hb)
    go_ret
    exact ⟨rfl, HB.out⟩
  have q1 : ¬ (3000 : Int) < s.size := by omega
  have HL := Lib.hid (fun W => plines_any s (by omega) W)
  cases hm : linesP (toL s) with
  | none =>
    rw [hm] at HL
    have HOD := Lib.hid (fun W (hb : Below w.heap.size w W) => odd7_any s (by omega) 4 W (HT.out.on hb))
    rw [show oddB (readA (toL s)) 4 = true by rw [readA_none hm]; rfl] at HOD
    clear hm hs
    go_enter Tryd.func5, Tryd.ntmps5
    go_wp2_with (first
      | (go_at_call 10; refine HA.out.mono ?_; rintro e w1 ⟨rfl, hb⟩; have HB := Lib.hid hb; clear hb)
      | (go_at_call 11; refine (HL.out _).mono ?_; rintro e w2 ⟨rfl, hb⟩; have HB2 := Lib.hid (HB.out.trans (hb.mono HB.out.size)); clear hb)
      | (go_at_call 8; refine (HOD.out _ HB2.out).mono ?_; rintro e w3 ⟨rfl, hb⟩; have HB3 := Lib.hid (HB2.out.trans (hb.mono HB2.out.size)); clear hb))
    go_ret
    exact ⟨rfl, HB3.out⟩
  | some m =>
    rw [hm] at HL
    have HML := Lib.hid hm
    obtain ⟨z, hz⟩ : ∃ z, readA (toL s) = z := ⟨_, rfl⟩
    have HR := Lib.hid (fun W (hb : Below w.heap.size w W) => hz ▸ pread_any s (by omega) W (HT.out.on hb))
    have HZ := Lib.hid hz
    have hfew := (lines_few hm).2
    have hlen := (lines_few hm).1
    rw [toL_size] at hlen hfew
    have hm3 : m.length ≤ 3001 := by omega
    have HF : Hid (∀ ws ∈ m, ws.length ≤ 64 ∧ ∀ w ∈ ws, w.length ≤ 3000) := Lib.hid (fun ws hw => ⟨(hfew ws hw).1, fun x hx => by have := (hfew ws hw).2 x hx; omega⟩)
    clear hm hz hfew hlen
    go_enter Tryd.func5, Tryd.ntmps5
    go_wp2_with (first
      | (go_at_call 10; refine HA.out.mono ?_; rintro e w1 ⟨rfl, hb⟩; have HB := Lib.hid hb; clear hb)
      | (go_at_call 11; refine (HL.out _).mono ?_; rintro e w2 ⟨v2, rows, rfl, hown, hdat, hb⟩; have HB2 := Lib.hid (HB.out.trans (hb.mono HB.out.size)); obtain ⟨A, c, rfl, hat⟩ := hown.full; have HAT := Lib.hid hat; have HD := Lib.hid hdat; have hrl : rows.length ≤ 3001 := by { rw [← List.length_map (f := LnR.data), hdat]; exact hm3 }; clear hb hown hdat hat))
    go_loopw [6, 7] (fun vz vi wr => ∃ (i : Nat) (z : ByteArray), i ≤ rows.length ∧ vi = .int .i64 i ∧ vz = .string z ∧ Hid (toL z = noiseT (m.take i)) ∧ wr = w2) (fun _ vi _ => rows.length - (intOf vi).toNat)
    case atStart => exact ⟨0, _, Nat.zero_le _, rfl, rfl, Lib.hid rfl, rfl⟩
    case round =>
      obtain ⟨i, z0, hi, rfl, rfl, HZ0, rfl⟩ := hrel
      obtain ⟨wo, hwo⟩ : ∃ wo : World, wo = wr := ⟨_, rfl⟩
      subst hwo
      have hz0 : z0.size ≤ 700000000 := by
        have h1 := noiseT_len (m.take i) (fun ws hw => HF.out ws (List.mem_of_mem_take hw))
        rw [← HZ0.out, toL_size, List.length_take] at h1
        omega
      by_cases hlt : i < rows.length
      · obtain ⟨b, off, r, hA, hb, c0, hr, HE⟩ := HAT.out.elem hlt
        have hA : A = some ⟨b, off, none⟩ := hA
        subst hA
        have HMI : Hid (m.getD i [] = r.xs.map toL) := Lib.hid (by
          rw [← HD.out]
          rw [List.getD_eq_getElem?_getD, List.getElem?_map]
          have h1 : rows.getD i default = r := HE.out
          rw [List.getD_eq_getElem?_getD] at h1
          cases hq : rows[i]? with
          | none =>
            rw [List.getElem?_eq_none_iff] at hq
            omega
          | some x =>
            rw [hq] at h1
            have h1 : x = r := h1
            rw [h1]
            rfl)
        have hmi : i < m.length := by rw [← HD.out, List.length_map]; exact hlt
        have HML2 := Lib.hid hmi
        have HST := Lib.hid hr.strs
        have hrc := hr.hdr.cle
        have hr64 : r.xs.length ≤ 64 := by
          have h1 := (HF.out _ (mem_getD (d := []) hmi)).1
          rw [HMI.out, List.length_map] at h1
          exact h1
        have HX3 : Hid (∀ x ∈ r.xs, x.size ≤ 3000) := Lib.hid (fun x hx => by
          have h1 := (HF.out _ (mem_getD (d := []) hmi)).2 (toL x) (by rw [HMI.out]; exact List.mem_map_of_mem hx)
          rw [toL_size] at h1
          exact h1)
        have q3 : (0 : Int) ≤ (i : Int) := Int.natCast_nonneg _
        have q4 : (i : Int) < (rows.length : Int) := by omega
        obtain ⟨ra, rc, xs⟩ := r
        dsimp only at *
        clear hr HE hmi
        go_wp2_with fail
        go_loopw [6, 8] (fun vz vk wi => ∃ (k : Nat) (y : ByteArray), k ≤ xs.length ∧ vk = .int .i64 k ∧ vz = .string y ∧ Hid (toL y = toL z0 ++ noiseW ((xs.map toL).take k)) ∧ wi = wo) (fun _ vk _ => xs.length - (intOf vk).toNat)
        case atStart => exact ⟨0, z0, Nat.zero_le _, rfl, rfl, Lib.hid (by show toL z0 = toL z0 ++ []; rw [List.append_nil]), rfl⟩
        case round =>
          obtain ⟨k, y, hk, rfl, rfl, HY, rfl⟩ := hrel
          have hy0 : y.size ≤ 800000000 := by
            have h1 := noiseW_len (B := 3000) ((xs.map toL).take k) (fun v hv => by
              obtain ⟨x, hx, rfl⟩ := List.mem_map.1 (List.mem_of_mem_take hv)
              rw [toL_size]
              exact HX3.out x hx)
            have h2 := congrArg List.length HY.out
            rw [List.length_append, toL_size, toL_size] at h2
            rw [List.length_take, List.length_map] at h1
            have h3 : min k xs.length * (3000 + 2) ≤ 64 * 3002 := Nat.mul_le_mul (by omega) (Nat.le_refl _)
            omega
          by_cases hkt : k < xs.length
          · obtain ⟨b2, off2, x, hra, hb2, d0, HEX⟩ := HST.out.elem hkt
            have hra : ra = some ⟨b2, off2, none⟩ := hra
            subst hra
            have hxs : x.size ≤ 3000 := by
              rw [← HEX.out]
              exact HX3.out _ (mem_getD hkt)
            have HYN : Hid (toL ((y ++ ⟨#[32, 9]⟩) ++ x) = toL z0 ++ noiseW ((xs.map toL).take (k + 1))) := Lib.hid (by
              rw [take_succ_getD (d := []) (by rw [List.length_map]; exact hkt), noiseW_snoc, toL_app, toL_app, HY.out, map_getDs, HEX.out]
              simp only [List.append_assoc]
              rfl)
            have q5 : (0 : Int) ≤ (k : Int) := Int.natCast_nonneg _
            have q6 : (k : Int) < (xs.length : Int) := by omega
            have q7 : (y ++ ⟨#[32, 9]⟩).size ≤ 800000002 := by
              have h1 : (y ++ ⟨#[32, 9]⟩).size = y.size + 2 := by rw [ByteArray.size_append]; rfl
              omega
            clear HEX
            go_wp2_with fail
            go_roundw
            case rel => exact ⟨k + 1, _, by omega, by go_num, rfl, HYN, by first | rfl | trivial⟩
            case measure => simp [intOf]; omega
          · obtain rfl : k = xs.length := by omega
            have HYN : Hid (toL (y ++ ⟨#[35, 32, 114, 48, 13, 10, 10]⟩) = noiseT (m.take (i + 1))) := Lib.hid (by
              rw [take_succ_getD (d := []) HML2.out, noiseT_snoc, HMI.out, toL_app, HY.out, HZ0.out]
              rw [← List.length_map (f := toL), List.take_length]
              unfold noiseL
              rw [List.append_assoc]
              rfl)
            go_wp2_with fail
            go_roundw
            case rel => exact ⟨i + 1, _, by omega, by go_num, rfl, HYN, by first | rfl | trivial⟩
            case measure => simp [intOf]; omega
      · obtain rfl : i = rows.length := by omega
        have HZA : Hid (toL z0 = noiseT m) := Lib.hid (by
          have h1 := HZ0.out
          rw [← List.length_map (f := LnR.data), HD.out, List.take_length] at h1
          exact h1)
        by_cases hbig : 16384 < z0.size
        · have q5 : (16384 : Int) < z0.size := by omega
          go_wp2_with fail
          go_ret
          exact ⟨rfl, HB2.out⟩
        · have q5 : ¬ (16384 : Int) < z0.size := by omega
          have hrn : readA (toL z0) = z := by
            rw [HZA.out, readA_noise HML.out (by rw [← HZA.out, toL_size]; omega)]
            exact HZ.out
          have HRN := Lib.hid (fun W (hb : Below w.heap.size w W) => hrn ▸ pread_any z0 (by omega) W (HT.out.on hb))
          obtain ⟨p, er⟩ := z
          clear hbig hrn
          go_wp2_with (first
            | (go_at_call 7; refine (HRN.out _ HB3.out).mono ?_; rintro e w5 ⟨r5, rfl, hown, hdat, hb⟩; have HB5 := Lib.hid (HB3.out.trans (hb.mono HB3.out.size)); have HP5 := Lib.hid (HP3.out.beneath hb); have HO35 := Lib.hid (HO3.out.keepOn hb); have HD5 := Lib.hid hdat; have HO5 := Lib.hid hown; clear hb hown hdat; obtain ⟨ta5, tc5, types5, fa5, fc5, funs5⟩ := r5; unfold PrR.val; dsimp only at *; have HPN5 := Lib.hid (Blk.new w5 25 #[.slice ta5 types5.length tc5, .slice fa5 funs5.length fc5]); have HP6 := Lib.hid (HP5.out.alloc (.cells #[.slice ta5 types5.length tc5, .slice fa5 funs5.length fc5] 25)); have HO36 := Lib.hid (HO35.out.keepOn (w' := w5.alloc (.cells #[.slice ta5 types5.length tc5, .slice fa5 funs5.length fc5] 25)) ((Below.refl _ _).alloc (Nat.le_refl _) _)); have HO6 := Lib.hid (HO5.out.keepOn (w' := w5.alloc (.cells #[.slice ta5 types5.length tc5, .slice fa5 funs5.length fc5] 25)) ((Below.refl _ _).alloc (Nat.le_refl _) _)); have HB6 := Lib.hid (HB5.out.alloc HB5.out.size (.cells #[.slice ta5 types5.length tc5, .slice fa5 funs5.length fc5] 25)); have e0 := HP6.out.cells 0; have e1 := HP6.out.cells 1)
            | (go_at_call 7; refine (HR.out _ HB2.out).mono ?_; rintro e w3 ⟨r3, rfl, hown, hdat, hb⟩; have HB3' := Lib.hid (HB2.out.trans (hb.mono HB2.out.size)); have HD3 := Lib.hid hdat; clear hb hdat; obtain ⟨ta3, tc3, types3, fa3, fc3, funs3⟩ := r3; unfold PrR.val; dsimp only at *; have HP3 := Lib.hid (Blk.new w3 25 #[.slice ta3 types3.length tc3, .slice fa3 funs3.length fc3]); have HO3 := Lib.hid (hown.keepOn (w' := w3.alloc (.cells #[.slice ta3 types3.length tc3, .slice fa3 funs3.length fc3] 25)) ((Below.refl _ _).alloc (Nat.le_refl _) _)); have HB3 := Lib.hid (HB3'.out.alloc HB3'.out.size (.cells #[.slice ta3 types3.length tc3, .slice fa3 funs3.length fc3] 25)); clear hown HB3')
            | (go_at_call 13; refine (rsame6_any (p := ⟨ta3, tc3, types3, fa3, fc3, funs3⟩) (o := ⟨ta5, tc5, types5, fa5, fc5, funs5⟩) HO36.out.prog.1 HO6.out.prog.1).mono ?_; rintro e w7 ⟨rfl, hb⟩; rw [same_data.2 (HD3.out.trans HD5.out.symm)]; have HB7 := Lib.hid (HB6.out.trans (hb.mono HB6.out.size)); clear hb))
          go_ret
          exact ⟨rfl, HB7.out⟩
end Go.Proofs.YtbffebcjimhapaaDoor
