/-
  The walk of the statement ReadShapes: for every text it returns true.
-/
import Derived.Test.YtbffebcjimhapaaDoorMg23
namespace Go.Proofs.YtbffebcjimhapaaDoor
set_option linter.unusedVariables false
set_option linter.unusedSimpArgs false
open Go.ChangeShapes Go.WideShapes Go.ChangeAt Go.RowKit

set_option maxRecDepth 100000 in
set_option maxHeartbeats 3200000 in
theorem walk_ReadShapes (s : ByteArray) (w : World) (w0 : s.size ≤ maxLen) (htab : TabW w) :
    Calls Tryd.prog 4 #[.string s] w fun e w' => e = .returned (.bool true) ∧ Below w.heap.size w w' := by
  have HA := Lib.hid (alive7_any w htab)
  have HT := Lib.hid htab
  have hmx : s.size ≤ 9223372036854775807 := w0
  clear w0 htab
  by_cases hs : 3000 < s.size
  · have q1 : (3000 : Int) < s.size := by omega
    go_enter Tryd.func4, Tryd.ntmps4
    go_wp2_with (go_at_call 10; refine HA.out.mono ?_; rintro e w1 ⟨rfl, hb⟩; have HB := Lib.hid hb; clear hb)
    go_ret
    exact ⟨rfl, HB.out⟩
  have q1 : ¬ (3000 : Int) < s.size := by omega
  obtain ⟨z, hz⟩ : ∃ z, readA (toL s) = z := ⟨_, rfl⟩
  have HR := Lib.hid (fun W (hb : Below w.heap.size w W) => hz ▸ pread_any s (by omega) W (HT.out.on hb))
  have HL := Lib.hid (fun W => plines_any s (by omega) W)
  obtain ⟨p, er⟩ := z
  by_cases he : er = 0
  · subst he
    obtain ⟨m, hm1, hm2, hm3⟩ := readA_inv hz
    have hcnt := programQ_count hm2
    have hlen := lines_len hm1
    have HPL := Lib.hid (programQ_few (lines64 hm1) hm2)
    rw [hm1] at HL
    have HM3 := Lib.hid hm3
    have HCN := Lib.hid hcnt
    have HLE := Lib.hid hlen
    clear hz hm1 hm2 hm3 hcnt hlen hs
    go_enter Tryd.func4, Tryd.ntmps4
    go_wp2_with (first
      | (go_at_call 10; refine HA.out.mono ?_; rintro e w1 ⟨rfl, hb⟩; have HB := Lib.hid hb; clear hb)
      | (go_at_call 7; refine (HR.out _ HB.out).mono ?_; rintro e w2 ⟨r, rfl, hown, hdat, hb⟩; have HB2 := Lib.hid (HB.out.trans (hb.mono HB.out.size)); have HD := Lib.hid hdat; have HO := Lib.hid hown; clear hb hown hdat; obtain ⟨ta, tc, types, fa, fc, funs⟩ := r; unfold PrR.val; dsimp only at *))
    have HPB0 := Lib.hid (Blk.new w2 25 #[.slice ta types.length tc, .slice fa funs.length fc])
    have HBN0 := Lib.hid (HB2.out.alloc HB2.out.size (.cells #[.slice ta types.length tc, .slice fa funs.length fc] 25))
    have HO0 := Lib.hid ((HO.out.keepOn (w' := w2.alloc (.cells #[.slice ta types.length tc, .slice fa funs.length fc] 25)) ((Below.refl _ _).alloc (Nat.le_refl _) _)).prog.1)
    have HDF : Hid (funs.map FuR.data = p.funs) := Lib.hid (congrArg PProg.funs HD.out)
    have HDT : Hid (types.length = p.types.length) := Lib.hid (by rw [← congrArg PProg.types HD.out]; exact (List.length_map ..).symm)
    obtain ⟨gP, hgP⟩ : ∃ gP, w2.heap.size = gP := ⟨_, rfl⟩
    rw [hgP] at HPB0 ⊢
    obtain ⟨w3, hw3⟩ : ∃ w3, w2.alloc (.cells #[.slice ta types.length tc, .slice fa funs.length fc] 25) = w3 := ⟨_, rfl⟩
    rw [hw3] at HPB0 HBN0 HO0 ⊢
    have HPB := HPB0
    have HBN := HBN0
    have HOP := HO0
    have p0 := HPB.out.cells 0
    have p1 := HPB.out.cells 1
    clear HPB0 HBN0 HO0 hgP hw3 HO
    have hfl : funs.length ≤ 20000 := by
      have h1 := HPL.out.many
      have h2 := HLE.out
      have h3 := HDF.out
      rw [← h3, List.length_map] at h1
      omega
    go_loopw [6, 7] (fun vn vi wr => ∃ i N : Nat, i ≤ funs.length ∧ vi = .int .i64 i ∧ vn = .int .i64 N ∧ Hid (N = types.length + cntF (p.funs.take i)) ∧ wr = w3) (fun _ vi _ => funs.length - (intOf vi).toNat)
    case atStart => exact ⟨0, types.length, Nat.zero_le _, rfl, rfl, Lib.hid rfl, rfl⟩
    case round =>
      obtain ⟨i, N, hi, rfl, rfl, HN, rfl⟩ := hrel
      obtain ⟨wo, hwo⟩ : ∃ wo : World, wo = wr := ⟨_, rfl⟩
      subst hwo
      have hNb : N ≤ 20000 := by
        have h1 := HN.out
        have h2 := cntF_le p.funs i
        have h3 := HCN.out
        have h4 := HLE.out
        have h5 := HDT.out
        omega
      by_cases hlt : i < funs.length
      · obtain ⟨b, off, r, hfa, hb, ⟨c0, c1⟩, hr, HE⟩ := HOP.out.funs.elem hlt
        have hfa : fa = some ⟨b, off, none⟩ := hfa
        subst hfa
        have HRB := Lib.hid hr.blocks
        have HDI : Hid ((p.funs.getD i default).blocks = r.blocks.map BlR.data) := Lib.hid (by
          rw [← HDF.out, map_getD FuR.data funs hlt]
          rw [show funs.getD i default = r from HE.out]
          rfl)
        have HIL : Hid (i < p.funs.length) := Lib.hid (by rw [← HDF.out, List.length_map]; exact hlt)
        have q3 : (0 : Int) ≤ (i : Int) := Int.natCast_nonneg _
        have q4 : (i : Int) < (funs.length : Int) := by omega
        have HNI : Hid (types.length + cntF (p.funs.take (i + 1)) = N + 1 + cntB (r.blocks.map BlR.data)) := Lib.hid (by
          rw [cntF_next HIL.out, HDI.out, HN.out]
          omega)
        have HNB : Hid (N + 1 + cntB (r.blocks.map BlR.data) ≤ 20000) := Lib.hid (by
          have h1 := HNI.out
          have h2 := cntF_le p.funs (i + 1)
          have h3 := HCN.out
          have h4 := HLE.out
          have h5 := HDT.out
          omega)
        have hbl : r.blocks.length ≤ 20000 := by
          have h1 := sum_len (fun b : PBlk => b.ins.length + 2) (fun b => by omega) (r.blocks.map BlR.data)
          rw [List.length_map] at h1
          have h2 := HNB.out
          unfold cntB at h2
          omega
        obtain ⟨sig, ba, bc, blocks⟩ := r
        dsimp only at *
        clear hr HE
        go_wp2_with fail
        go_loopw [6, 8] (fun vn vk wi => ∃ k M : Nat, k ≤ blocks.length ∧ vk = .int .i64 k ∧ vn = .int .i64 M ∧ Hid (M = N + 1 + cntB ((blocks.map BlR.data).take k)) ∧ wi = wo) (fun _ vk _ => blocks.length - (intOf vk).toNat)
        case atStart => exact ⟨0, N + 1, Nat.zero_le _, rfl, by first | rfl | go_num, Lib.hid rfl, rfl⟩
        case round =>
          obtain ⟨k, M, hk, rfl, rfl, HM, rfl⟩ := hrel
          have hMb : M ≤ 20000 := by
            have h1 := HM.out
            have h2 := cntB_le (blocks.map BlR.data) k
            have h3 := HNB.out
            omega
          by_cases hkt : k < blocks.length
          · obtain ⟨b2, off2, rb, hba, hb2, ⟨d0, d1, d2, d3, d4⟩, hrb, HE2⟩ := HRB.out.elem hkt
            have hba : ba = some ⟨b2, off2, none⟩ := hba
            subst hba
            have HMN : Hid (N + 1 + cntB ((blocks.map BlR.data).take (k + 1)) = M + 2 + rb.ins.length) := Lib.hid (by
              rw [cntB_next (by rw [List.length_map]; exact hkt), map_getD BlR.data blocks hkt, show blocks.getD k default = rb from HE2.out, HM.out]
              have e : rb.data.ins.length = rb.ins.length := List.length_map ..
              rw [e]
              omega)
            have hML : M + 2 + rb.ins.length ≤ 20000 := by
              have h1 := HMN.out
              have h2 := cntB_le (blocks.map BlR.data) (k + 1)
              have h3 := HNB.out
              omega
            have q5 : (0 : Int) ≤ (k : Int) := Int.natCast_nonneg _
            have q6 : (k : Int) < (blocks.length : Int) := by omega
            clear hrb HE2 d1 d2 d3 d4
            go_wp2_with fail
            go_roundw
            case rel => exact ⟨k + 1, M + 2 + rb.ins.length, by omega, by go_num, by go_num, Lib.hid HMN.out.symm, by first | rfl | trivial⟩
            case measure => simp [intOf]; omega
          · obtain rfl : k = blocks.length := by omega
            have HMD : Hid (types.length + cntF (p.funs.take (i + 1)) = M) := Lib.hid (by
              rw [HNI.out, HM.out, ← List.length_map (f := BlR.data), List.take_length])
            go_wp2_with fail
            go_roundw
            case rel => exact ⟨i + 1, M, by omega, by go_num, rfl, Lib.hid HMD.out.symm, by first | rfl | trivial⟩
            case measure => simp [intOf]; omega
      · obtain rfl : i = funs.length := by omega
        have HNM : Hid (m.length = N) := Lib.hid (by
          have h1 := HN.out
          rw [← HDF.out, ← List.length_map (f := FuR.data), List.take_length, HDF.out] at h1
          rw [h1, HDT.out, HCN.out])
        go_wp2_with (first
          | (go_at_call 11; refine (HL.out _).mono ?_; rintro e w4 ⟨v4, rows4, rfl, hown, hdat, hb⟩; have HB4 := Lib.hid (HBN.out.trans (hb.mono HBN.out.size)); have HPB4 := Lib.hid (HPB.out.beneath hb); have HOP4 := Lib.hid (HOP.out.on hb); obtain ⟨A4, c4, rfl, _⟩ := hown.full; have e0 := HPB4.out.cells 0; have e1 := HPB4.out.cells 1; have hrl : rows4.length = N := by { rw [← HNM.out, ← hdat, List.length_map] }; have HRL := Lib.hid hrl; rw [hrl]; clear hown hdat hb hrl)
          | (go_at_call 12; refine (ppcheck_is (p := ⟨ta, tc, types, fa, fc, funs⟩) HOP4.out ((show PLim m.length (PrR.data ⟨ta, tc, types, fa, fc, funs⟩) by rw [HD.out]; exact HPL.out).prog HLE.out) (HT.out.on HB4.out) (r := 0) (by rw [HD.out]; exact HM3.out)).mono ?_; rintro e w5 ⟨rfl, hb⟩; have HB5 := Lib.hid (HB4.out.trans (hb.mono HB4.out.size)); clear hb))
        go_ret
        exact ⟨rfl, HB5.out⟩
  · obtain rfl := readA_err hz he
    have q2 : (er != 0) = true := by simpa using he
    clear hz he hs
    go_enter Tryd.func4, Tryd.ntmps4
    go_wp2_with (first
      | (go_at_call 10; refine HA.out.mono ?_; rintro e w1 ⟨rfl, hb⟩; have HB := Lib.hid hb; clear hb)
      | (go_at_call 7; refine (HR.out _ HB.out).mono ?_; rintro e w2 ⟨r, rfl, hown, hdat, hb⟩; have HB2 := Lib.hid (HB.out.trans (hb.mono HB.out.size)); clear hb hown; obtain ⟨ta, tc, types, fa, fc, funs⟩ := r; unfold PrR.val; dsimp only at *; have e1 : types = [] := List.map_eq_nil_iff.1 (congrArg PProg.types hdat); have e2 : funs = [] := List.map_eq_nil_iff.1 (congrArg PProg.funs hdat); subst e1 e2; clear hdat; have HBN := Lib.hid (HB2.out.alloc HB2.out.size (.cells #[.slice ta 0 tc, .slice fa 0 fc] 25))))
    go_ret
    exact ⟨rfl, HBN.out⟩
end Go.Proofs.YtbffebcjimhapaaDoor
