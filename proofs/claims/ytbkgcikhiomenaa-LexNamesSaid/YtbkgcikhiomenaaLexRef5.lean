/-
  The reference's questions on lines: may they be; are they great.
-/
import Derived.Test.YtbkgcikhiomenaaLexJoin1
namespace Go.Proofs.Ytbkgcikhiomenaa
set_option linter.unusedVariables false
set_option linter.unusedSimpArgs false
open Go.ChangeShapes Go.WideShapes Go.ChangeAt Go.RowKit

theorem u8_lit (c : UInt8) (d : Nat) (hd : d < 256) : ((c.toNat : Int) == (d : Int)) = (c == UInt8.ofNat d) := by
  rw [Bool.eq_iff_iff, beq_iff_eq, beq_iff_eq, ← UInt8.toNat_inj, UInt8.toNat_ofNat']
  omega
set_option maxRecDepth 100000 in
set_option maxHeartbeats 1600000 in
theorem rmay_any (s : ByteArray) (hs : s.size ≤ 9223372036854775807) (w : World) :
    Calls Try.prog 41 #[.string s] w fun e w' => e = .returned (.bool (mayW (toL s))) ∧ Below w.heap.size w w' := by
  go_enter Try.func41, Try.ntmps41
  go_wp2_with fail
  go_loopw [3] (fun i wr => ∃ k : Nat, k ≤ s.size ∧ i = .int .i64 k ∧ Hid (NoSp s k) ∧ Hid (Below w.heap.size w wr)) (fun i _ => s.size - (intOf i).toNat)
  case atStart => exact ⟨0, Nat.zero_le _, rfl, Lib.hid (fun j _ h => absurd h (Nat.not_lt_zero _)), Lib.hid (Below.refl _ _)⟩
  case round =>
    obtain ⟨k, hk, rfl, HN, HB⟩ := hrel
    by_cases hlt : k < s.size
    · have hkz : (k : Int) < s.size := by omega
      obtain ⟨c, hc⟩ : ∃ c : UInt8, s[k]'hlt = c := ⟨_, rfl⟩
      have HC := Lib.hid hc
      have HLT := Lib.hid hlt
      cases hp : isPlain c with
      | true =>
        have HN2 : Hid (NoSp s (k + 1)) := Lib.hid (fun j hj hlt => by
          by_cases e : j = k
          · subst e; rw [HC.out]; exact hp
          · exact HN.out j hj (by omega))
        have h1 := plain_ne hp
        have e1 : ((c.toNat : Int) == 32) = false := (u8_lit c 32 (by decide)).trans (beq_eq_false_iff_ne.2 h1.2.2.1)
        have e2 : ((c.toNat : Int) == 9) = false := (u8_lit c 9 (by decide)).trans (beq_eq_false_iff_ne.2 h1.2.2.2.1)
        have e3 : ((c.toNat : Int) == 13) = false := (u8_lit c 13 (by decide)).trans (beq_eq_false_iff_ne.2 h1.2.2.2.2)
        have e4 : ((c.toNat : Int) == 10) = false := (u8_lit c 10 (by decide)).trans (beq_eq_false_iff_ne.2 h1.2.1)
        have e5 : ((c.toNat : Int) == 35) = false := (u8_lit c 35 (by decide)).trans (beq_eq_false_iff_ne.2 h1.1)
        clear h1 hp
        go_wp2_with fail
        go_roundw
        case rel => exact ⟨k + 1, by have := HLT.out; omega, by go_num, HN2, HB⟩
        case measure => simp [intOf]; have := HLT.out; omega
      | false =>
        have HF : Hid (mayW (toL s) = false) := Lib.hid (by
          unfold mayW
          rw [sp_hit hlt (by rw [hc]; exact hp)]
          cases (toL s).isEmpty <;> rfl)
        have hcase : c = 32 ∨ c ≠ 32 ∧ c = 9 ∨ c ≠ 32 ∧ c ≠ 9 ∧ c = 13 ∨ c ≠ 32 ∧ c ≠ 9 ∧ c ≠ 13 ∧ c = 10 ∨ c ≠ 32 ∧ c ≠ 9 ∧ c ≠ 13 ∧ c ≠ 10 ∧ c = 35 := by
          unfold isPlain isBlank at hp
          simp only [Bool.not_eq_false', Bool.or_eq_true, beq_iff_eq] at hp
          by_cases a1 : c = 32
          · exact .inl a1
          by_cases a2 : c = 9
          · exact .inr (.inl ⟨a1, a2⟩)
          by_cases a3 : c = 13
          · exact .inr (.inr (.inl ⟨a1, a2, a3⟩))
          by_cases a4 : c = 10
          · exact .inr (.inr (.inr (.inl ⟨a1, a2, a3, a4⟩)))
          · rcases hp with (((h | h) | h) | h) | h
            · exact absurd h a1
            · exact absurd h a2
            · exact absurd h a3
            · exact absurd h a4
            · exact .inr (.inr (.inr (.inr ⟨a1, a2, a3, a4, h⟩)))
        have no : ∀ d, d < 256 → c ≠ UInt8.ofNat d → ((c.toNat : Int) == (d : Int)) = false := fun d hd h => (u8_lit c d hd).trans (beq_eq_false_iff_ne.2 h)
        have yes : ∀ d, d < 256 → c = UInt8.ofNat d → ((c.toNat : Int) == (d : Int)) = true := fun d hd h => (u8_lit c d hd).trans (beq_iff_eq.2 h)
        have NO := Lib.hid no
        have YES := Lib.hid yes
        clear hp no yes
        rcases hcase with h | ⟨h1, h⟩ | ⟨h1, h2, h⟩ | ⟨h1, h2, h3, h⟩ | ⟨h1, h2, h3, h4, h⟩
        · have e1 : ((c.toNat : Int) == 32) = true := YES.out 32 (by decide) h
          clear h
          go_wp2_with fail
          go_ret
          exact ⟨ret_bool HF.out.symm, HB.out⟩
        · have e1 : ((c.toNat : Int) == 32) = false := NO.out 32 (by decide) h1
          have e2 : ((c.toNat : Int) == 9) = true := YES.out 9 (by decide) h
          clear h h1
          go_wp2_with fail
          go_ret
          exact ⟨ret_bool HF.out.symm, HB.out⟩
        · have e1 : ((c.toNat : Int) == 32) = false := NO.out 32 (by decide) h1
          have e2 : ((c.toNat : Int) == 9) = false := NO.out 9 (by decide) h2
          have e3 : ((c.toNat : Int) == 13) = true := YES.out 13 (by decide) h
          clear h h1 h2
          go_wp2_with fail
          go_ret
          exact ⟨ret_bool HF.out.symm, HB.out⟩
        · have e1 : ((c.toNat : Int) == 32) = false := NO.out 32 (by decide) h1
          have e2 : ((c.toNat : Int) == 9) = false := NO.out 9 (by decide) h2
          have e3 : ((c.toNat : Int) == 13) = false := NO.out 13 (by decide) h3
          have e4 : ((c.toNat : Int) == 10) = true := YES.out 10 (by decide) h
          clear h h1 h2 h3
          go_wp2_with fail
          go_ret
          exact ⟨ret_bool HF.out.symm, HB.out⟩
        · have e1 : ((c.toNat : Int) == 32) = false := NO.out 32 (by decide) h1
          have e2 : ((c.toNat : Int) == 9) = false := NO.out 9 (by decide) h2
          have e3 : ((c.toNat : Int) == 13) = false := NO.out 13 (by decide) h3
          have e4 : ((c.toNat : Int) == 10) = false := NO.out 10 (by decide) h4
          have e5 : ((c.toNat : Int) == 35) = true := YES.out 35 (by decide) h
          clear h h1 h2 h3 h4
          go_wp2_with fail
          go_ret
          exact ⟨ret_bool HF.out.symm, HB.out⟩
    · obtain rfl : k = s.size := by omega
      by_cases h0 : s.size = 0
      · have he1 : s.toList = [] := by rw [ByteArray.toList_eq]; exact List.eq_nil_of_length_eq_zero (by simpa using h0)
        have he2 : s.toList.isEmpty = true := by rw [he1]; rfl
        have HF : Hid (mayW (toL s) = false) := Lib.hid (by unfold mayW; rw [show toL s = [] from by rw [← he1, ByteArray.toList_eq]; rfl]; rfl)
        clear h0
        go_wp2_with fail
        go_ret
        exact ⟨ret_bool HF.out.symm, HB.out⟩
      · have he1 : s.toList ≠ [] := fun e => by rw [ByteArray.toList_eq] at e; have := congrArg List.length e; rw [Array.length_toList] at this; exact h0 this
        have he2 : s.toList.isEmpty = false := by cases hq : s.toList with
          | nil => exact absurd hq he1
          | cons => rfl
        have HF : Hid (mayW (toL s) = true) := Lib.hid (by unfold mayW; rw [HN.out.none, show toL s = s.toList from by rw [ByteArray.toList_eq]; rfl, he2]; rfl)
        clear h0
        go_wp2_with fail
        go_ret
        exact ⟨ret_bool HF.out.symm, HB.out⟩
set_option maxRecDepth 100000 in
set_option maxHeartbeats 3200000 in
theorem rmayAll_any {w : World} {A : Option Addr} {c : Nat} {rows : List LnR} (h : LinesAt w A c rows) (hf : FewL rows) :
    Calls Try.prog 32 #[.slice A rows.length c] w fun e w' => e = .returned (.bool (mayP (rows.map LnR.data))) ∧ Below w.heap.size w w' := by
  have hl := h.hdr.le
  have hrz : (rows.length : Int) ≤ 3000 := by have := hf.1; omega
  have HX := Lib.hid h
  have HF := Lib.hid hf
  clear h hf
  go_enter Try.func32, Try.ntmps32
  go_wp2_with fail
  go_loopw [3] (fun i wr => ∃ k : Nat, k ≤ rows.length ∧ i = .int .i64 k ∧ Hid (∀ i, i < k → mayL (rows.getD i default).data = true) ∧ Hid (Below w.heap.size w wr)) (fun i _ => rows.length - (intOf i).toNat)
  case atStart => exact ⟨0, Nat.zero_le _, rfl, Lib.hid (fun i h => absurd h (Nat.not_lt_zero _)), Lib.hid (Below.refl _ _)⟩
  case round =>
    obtain ⟨k, hk, rfl, HM, HB⟩ := hrel
    obtain ⟨wo, rfl⟩ : ∃ wo : World, wo = wr := ⟨_, rfl⟩
    by_cases hlt : k < rows.length
    · have hkz : (k : Int) < rows.length := by omega
      obtain ⟨b, off, r, rfl, hb, d0, hr, HE⟩ := (HX.out.on HB.out).elem hlt
      have HD : Hid (r.data ∈ rows.map LnR.data) := Lib.hid (by rw [← HE.out]; exact data_mem hlt)
      have HE2 : Hid ((rows.getD k default).data = r.data) := Lib.hid (by rw [HE.out])
      have hrl := hr.hdr.le
      have HR := Lib.hid hr.strs
      have HFX : Hid (r.xs.length ≤ 80 ∧ ∀ x ∈ r.xs, x.size ≤ 20000) := Lib.hid (by rw [← HE.out]; exact HF.out.2 _ (row_mem hlt))
      have HLT := Lib.hid hlt
      have HNO : mayL r.data = false → Hid (mayP (rows.map LnR.data) = false) := fun hn => Lib.hid (by
        unfold mayP
        rw [List.all_eq_false]
        exact ⟨r.data, HD.out, by rw [hn]; decide⟩)
      obtain ⟨ra, rc, xs⟩ := r
      dsimp only at d0 hrl HR HD HE2 HFX HNO
      have hxm : (xs.length : Int) ≤ 80 := by have := HFX.out.1; omega
      clear hr hlt
      go_wp2_with fail
      have HD0 := Lib.hid d0
      clear d0
      go_loopw [4] (fun i wx => ∃ j : Nat, j ≤ xs.length ∧ i = .int .i64 j ∧ Hid (∀ i, i < j → mayW ((xs.map toL).getD i []) = true) ∧ Hid (Below wo.heap.size wo wx)) (fun i _ => xs.length - (intOf i).toNat)
      case atStart => exact ⟨0, Nat.zero_le _, rfl, Lib.hid (fun i h => absurd h (Nat.not_lt_zero _)), Lib.hid (Below.refl _ _)⟩
      case round =>
        obtain ⟨j, hj, rfl, HMX, HBX⟩ := hrel
        obtain ⟨wx, rfl⟩ : ∃ wx : World, wx = wr := ⟨_, rfl⟩
        have e0 := (HBX.out.cell (p := ⟨b, off + k, none⟩) hb).trans HD0.out
        by_cases hjl : j < xs.length
        · have hjz : (j : Int) < xs.length := by omega
          obtain ⟨b2, o2, x, rfl, hb2, v0, HEX⟩ := (HR.out.on HBX.out).elem hjl
          have HXS : Hid (x.size ≤ 20000) := Lib.hid (HFX.out.2 x (by rw [← HEX.out, List.getD_eq_getElem?_getD, List.getElem?_eq_getElem hjl]; exact List.getElem_mem hjl))
          have HXE : Hid ((xs.map toL).getD j [] = toL x) := Lib.hid (by rw [← HEX.out, List.getD_eq_getElem?_getD, List.getElem?_map, List.getD_eq_getElem?_getD, List.getElem?_eq_getElem hjl]; rfl)
          have HJL := Lib.hid hjl
          cases hs : mayW (toL x) with
          | false =>
            have HJ := HNO (by
              unfold mayL
              rw [Bool.and_eq_false_iff]
              right
              rw [List.all_eq_false]
              refine ⟨toL x, ?_, by rw [hs]; decide⟩
              show toL x ∈ xs.map toL
              rw [← HXE.out, List.getD_eq_getElem?_getD, List.getElem?_eq_getElem (by rw [List.length_map]; exact hjl)]
              exact List.getElem_mem _)
            have HS := Lib.hid hs
            clear hs hjl HNO
            go_wp2_with (go_at_call 41; refine (rmay_any x (by have := HXS.out; omega) _).mono ?_; rintro e w2 ⟨rfl, hb3⟩; rw [HS.out]; have HB3 := Lib.hid hb3; clear hb3)
            go_ret
            exact ⟨ret_bool HJ.out.symm, (HB.out.trans (HBX.out.mono HB.out.size)).trans (HB3.out.mono (Nat.le_trans HB.out.size HBX.out.size))⟩
          | true =>
            have HS := Lib.hid hs
            clear hs hjl
            go_wp2_with (go_at_call 41; refine (rmay_any x (by have := HXS.out; omega) _).mono ?_; rintro e w2 ⟨rfl, hb3⟩; rw [HS.out]; have HB3 := Lib.hid hb3; clear hb3)
            go_roundw
            case rel => exact ⟨j + 1, by have := HJL.out; omega, by go_num, Lib.hid (fun i hi => by
              by_cases e : i = j
              · subst e; rw [HXE.out]; exact HS.out
              · exact HMX.out i (by omega)), Lib.hid (HBX.out.trans (HB3.out.mono HBX.out.size))⟩
            case measure => simp [intOf]; have := HJL.out; omega
        · obtain rfl : j = xs.length := by omega
          by_cases hx0 : xs.length = 0
          · have hxz : ((xs.length : Int) == 0) = true := by rw [beq_iff_eq]; omega
            have HJ := HNO (by rw [List.eq_nil_of_length_eq_zero hx0]; rfl)
            clear hx0 HNO
            go_wp2_with fail
            go_ret
            exact ⟨ret_bool HJ.out.symm, HB.out.trans (HBX.out.mono HB.out.size)⟩
          · have hxz : ((xs.length : Int) == 0) = false := by rw [beq_eq_false_iff_ne]; omega
            have HX0 := Lib.hid hx0
            clear hx0
            go_wp2_with fail
            go_roundw
            case rel => exact ⟨k + 1, by have := HLT.out; omega, by go_num, Lib.hid (fun i hi => by
              by_cases e : i = k
              · subst e
                rw [HE2.out]
                unfold mayL
                rw [Bool.and_eq_true]
                refine ⟨?_, ?_⟩
                · show (!(xs.map toL).isEmpty) = true
                  cases xs with
                  | nil => exact absurd rfl HX0.out
                  | cons => rfl
                · rw [List.all_eq_true]
                  intro y hy
                  obtain ⟨q, hq, rfl⟩ := List.mem_iff_getElem.1 hy
                  have hq' : q < (xs.map toL).length := hq
                  have hq2 : q < xs.length := by rwa [List.length_map] at hq'
                  have := HMX.out q hq2
                  rw [List.getD_eq_getElem?_getD, List.getElem?_eq_getElem hq'] at this
                  exact this
              · exact HM.out i (by omega)), Lib.hid (HB.out.trans (HBX.out.mono HB.out.size))⟩
            case measure => simp [intOf]; have := HLT.out; omega
    · obtain rfl : k = rows.length := by omega
      have HMP : Hid (mayP (rows.map LnR.data) = true) := Lib.hid (by
        unfold mayP
        rw [List.all_eq_true]
        intro y hy
        obtain ⟨q, hq, rfl⟩ := List.mem_iff_getElem.1 hy
        have hq2 : q < rows.length := by rwa [List.length_map] at hq
        have := HM.out q hq2
        rw [← data_at hq2, List.getD_eq_getElem?_getD, List.getElem?_eq_getElem hq] at this
        exact this)
      go_wp2_with fail
      go_ret
      exact ⟨ret_bool HMP.out.symm, HB.out⟩
end Go.Proofs.Ytbkgcikhiomenaa
