/-
  The program's text of lines.
-/
import Derived.Test.YtbkgcikhiomenaaLexJoin1
namespace Go.Proofs.Ytbkgcikhiomenaa
set_option linter.unusedVariables false
set_option linter.unusedSimpArgs false
open Go.ChangeShapes Go.WideShapes Go.ChangeAt Go.RowKit

set_option maxRecDepth 100000 in
set_option maxHeartbeats 3200000 in
theorem pjoin_any {w : World} {A : Option Addr} {c : Nat} {rows : List LnR} (h : LinesAt w A c rows) (hf : FewL rows) :
    Calls Try.prog 16 #[.slice A rows.length c] w (JoinOf rows w) := by
  have hl := h.hdr.le
  have hrz : (rows.length : Int) ≤ 3000 := by have := hf.1; omega
  have HX := Lib.hid h
  have HF := Lib.hid hf
  clear h hf
  go_enter Try.func16, Try.ntmps16
  go_wp2_with fail
  go_loopw [15] (fun i wr => ∃ k : Nat, k ≤ rows.length ∧ i = .int .i64 k ∧ Hid (∀ i, i < k → mayL (rows.getD i default).data = true) ∧ Hid (Below w.heap.size w wr)) (fun i _ => rows.length - (intOf i).toNat)
  case atStart => exact ⟨0, Nat.zero_le _, rfl, Lib.hid (fun i h => absurd h (Nat.not_lt_zero _)), Lib.hid (Below.refl _ _)⟩
  case round =>
    obtain ⟨k, hk, rfl, HM, HB⟩ := hrel
    obtain ⟨wo, rfl⟩ : ∃ wo : World, wo = wr := ⟨_, rfl⟩
    by_cases hlt : k < rows.length
    · have hkz : (k : Int) < rows.length := by omega
      obtain ⟨b, off, r, rfl, hb, d0, hr, HE⟩ := (HX.out.on HB.out).elem hlt
      have HD : Hid (r.data ∈ rows.map LnR.data) := Lib.hid (by rw [← HE.out]; exact data_mem hlt)
      have HE2 : Hid ((rows.getD k default).data = r.data) := Lib.hid (by rw [HE.out])
      have hrl := hr.hdr.le
      have HR := Lib.hid hr.strs
      have HFX : Hid (r.xs.length ≤ 80 ∧ ∀ x ∈ r.xs, x.size ≤ 20000) := Lib.hid (by rw [← HE.out]; exact HF.out.2 _ (row_mem hlt))
      have HLT := Lib.hid hlt
      obtain ⟨ra, rc, xs⟩ := r
      dsimp only at d0 hrl HR HD HE2 HFX
      clear hr hlt
      by_cases hx0 : xs.length = 0
      · obtain rfl : xs = [] := List.eq_nil_of_length_eq_zero hx0
        have HJ := Lib.hid (joinP_arg HD.out (by rfl))
        clear hx0
        go_wp2_with fail
        go_ret2
        exact ⟨[], 2, rfl, HJ.out, HB.out⟩
      · have hxz : ((xs.length : Int) == 0) = false := by rw [beq_eq_false_iff_ne]; omega
        have hxm : (xs.length : Int) ≤ 80 := by have := HFX.out.1; omega
        have HX0 := Lib.hid hx0
        clear hx0
        go_wp2_with fail
        have HD0 := Lib.hid d0
        clear d0
        go_loopw [24] (fun i wx => ∃ j : Nat, j ≤ xs.length ∧ i = .int .i64 j ∧ Hid (∀ i, i < j → mayW ((xs.map toL).getD i []) = true) ∧ Hid (Below wo.heap.size wo wx)) (fun i _ => xs.length - (intOf i).toNat)
        case atStart => exact ⟨0, Nat.zero_le _, rfl, Lib.hid (fun i h => absurd h (Nat.not_lt_zero _)), Lib.hid (Below.refl _ _)⟩
        case round =>
          obtain ⟨j, hj, rfl, HMX, HBX⟩ := hrel
          by_cases hjl : j < xs.length
          · have hjz : (j : Int) < xs.length := by omega
            obtain ⟨b2, o2, x, rfl, hb2, v0, HEX⟩ := (HR.out.on HBX.out).elem hjl
            have hxs : x.size ≤ 20000 := HFX.out.2 x (by rw [← HEX.out, List.getD_eq_getElem?_getD, List.getElem?_eq_getElem hjl]; exact List.getElem_mem hjl)
            have HXS := Lib.hid hxs
            have HXE : Hid ((xs.map toL).getD j [] = toL x) := Lib.hid (by rw [← HEX.out, List.getD_eq_getElem?_getD, List.getElem?_map, List.getD_eq_getElem?_getD, List.getElem?_eq_getElem hjl]; rfl)
            have HBAD : mayW (toL x) = false → Hid (joinP (rows.map LnR.data) = ([], 2)) := fun hbad => Lib.hid (joinP_arg HD.out (by
              unfold mayL
              rw [Bool.and_eq_false_iff]
              right
              rw [List.all_eq_false]
              refine ⟨toL x, ?_, by rw [hbad]; decide⟩
              show toL x ∈ xs.map toL
              rw [← HXE.out, List.getD_eq_getElem?_getD, List.getElem?_eq_getElem (by rw [List.length_map]; exact hjl)]
              exact List.getElem_mem _))
            have HJL := Lib.hid hjl
            clear hxs hjl
            by_cases hxe : x.size = 0
            · have he1 : x.toList = [] := by rw [ByteArray.toList_eq]; exact List.eq_nil_of_length_eq_zero (by simpa using hxe)
              have he2 : x.toList.isEmpty = true := by rw [he1]; rfl
              have HJ := HBAD (by unfold mayW; rw [show toL x = [] from by rw [← he1, ByteArray.toList_eq]; rfl]; rfl)
              clear hxe HBAD
              go_wp2_with fail
              go_ret2
              exact ⟨[], 2, rfl, HJ.out, HB.out.trans (HBX.out.mono HB.out.size)⟩
            · have he1 : x.toList ≠ [] := fun e => by rw [ByteArray.toList_eq] at e; have := congrArg List.length e; rw [Array.length_toList] at this; exact hxe this
              have he2 : x.toList.isEmpty = false := by cases hq : x.toList with
                | nil => exact absurd hq he1
                | cons => rfl
              have hem : (toL x).isEmpty = false := by rw [show toL x = x.toList from by rw [ByteArray.toList_eq]; rfl]; exact he2
              cases hs : spB (toL x) with
              | true =>
                have HJ := HBAD (by unfold mayW; rw [hem, hs]; rfl)
                have HS := Lib.hid hs
                clear hxe HBAD he1 hem hs
                go_wp2_with (go_at_call 27; refine (containsAny_any x (by have := HXS.out; omega) _).mono ?_; rintro e w2 ⟨rfl, hb3⟩; rw [HS.out]; have HB3 := Lib.hid hb3; clear hb3)
                go_ret2
                exact ⟨[], 2, rfl, HJ.out, (HB.out.trans (HBX.out.mono HB.out.size)).trans (HB3.out.mono (Nat.le_trans HB.out.size HBX.out.size))⟩
              | false =>
                have HS := Lib.hid hs
                have HMY : Hid (mayW (toL x) = true) := Lib.hid (by unfold mayW; rw [hem, hs]; rfl)
                clear hxe HBAD he1 hem hs
                go_wp2_with (go_at_call 27; refine (containsAny_any x (by have := HXS.out; omega) _).mono ?_; rintro e w2 ⟨rfl, hb3⟩; rw [HS.out]; have HB3 := Lib.hid hb3; clear hb3)
                go_roundw
                case rel => exact ⟨j + 1, by have := HJL.out; omega, by go_num, Lib.hid (fun i hi => by
                  by_cases e : i = j
                  · subst e; rw [HXE.out]; exact HMY.out
                  · exact HMX.out i (by omega)), Lib.hid (HBX.out.trans (HB3.out.mono HBX.out.size))⟩
                case measure => simp [intOf]; have := HJL.out; omega
          · obtain rfl : j = xs.length := by omega
            go_wp2_with fail
            go_roundw
            case rel => exact ⟨k + 1, by have := HLT.out; omega, by go_num, Lib.hid (fun i hi => by
              by_cases e : i = k
              · subst e
                rw [HE2.out]
                unfold mayL
                rw [Bool.and_eq_true]
                refine ⟨?_, ?_⟩
                · show (!(xs.map toL).isEmpty) = true
                  cases xs with
                  | nil => exact absurd rfl HX0.out
                  | cons => rfl
                · rw [List.all_eq_true]
                  intro y hy
                  obtain ⟨q, hq, rfl⟩ := List.mem_iff_getElem.1 hy
                  have hq' : q < (xs.map toL).length := hq
                  have hq2 : q < xs.length := by rwa [List.length_map] at hq'
                  have := HMX.out q hq2
                  rw [List.getD_eq_getElem?_getD, List.getElem?_eq_getElem hq'] at this
                  exact this
              · exact HM.out i (by omega)), Lib.hid (HB.out.trans (HBX.out.mono HB.out.size))⟩
            case measure => simp [intOf]; have := HLT.out; omega
    · obtain rfl : k = rows.length := by omega
      have HMP : Hid (mayP (rows.map LnR.data) = true) := Lib.hid (by
        unfold mayP
        rw [List.all_eq_true]
        intro y hy
        obtain ⟨q, hq, rfl⟩ := List.mem_iff_getElem.1 hy
        have hq2 : q < rows.length := by rwa [List.length_map] at hq
        have := HM.out q hq2
        rw [← data_at hq2, List.getD_eq_getElem?_getD, List.getElem?_eq_getElem hq] at this
        exact this)
      go_wp2_with fail
      have HBD : Hid (Lib.IsBuilder 62 5 w.heap.size wo.heap.size (Lib.byteCells (textT ((rows.map LnR.data).take 0))) (wo.alloc (.cells #[.pointer none, .slice none 0 0] 62))) := Lib.hid (.inl ⟨HB.out.size, _, heap_alloc_new wo _, World.ownsRow_nil _ _ _ _, by intro e; cases e⟩)
      have HB0 := Lib.hid (HB.out.alloc HB.out.size (.cells #[.pointer none, .slice none 0 0] 62))
      clear HM
      go_loopw [38] (fun i wx => ∃ k : Nat, k ≤ rows.length ∧ i = .int .i64 k ∧ Hid (Lib.IsBuilder 62 5 w.heap.size wo.heap.size (Lib.byteCells (textT ((rows.map LnR.data).take k))) wx) ∧ Hid (Below w.heap.size w wx) ∧ Hid ((textT ((rows.map LnR.data).take k)).length ≤ 16384 ∧ ∀ i, i < k → ((rows.map LnR.data).getD i []).length ≤ 64)) (fun i _ => rows.length - (intOf i).toNat)
      case atStart => exact ⟨0, Nat.zero_le _, rfl, HBD, HB0, Lib.hid ⟨Nat.zero_le _, fun i h => absurd h (Nat.not_lt_zero _)⟩⟩
      case round =>
        obtain ⟨k, hk2, rfl, HBX, HBW, HS⟩ := hrel
        obtain ⟨wx, rfl⟩ : ∃ wx : World, wx = wr := ⟨_, rfl⟩
        by_cases hlt2 : k < rows.length
        · have hkz : (k : Int) < rows.length := by omega
          obtain ⟨b, off, r, rfl, hb, d0, hr, HE⟩ := (HX.out.on HBW.out).elem hlt2
          have HE2 : Hid ((rows.map LnR.data).getD k [] = r.data) := Lib.hid (by rw [data_at hlt2, HE.out])
          have hrl := hr.hdr.le
          have HR := Lib.hid (show StrsAt w 0 w.heap.size r.a r.xs from by
            have := (HX.out.rows _ (row_mem hlt2)).strs
            rwa [HE.out] at this)
          have HFX : Hid (r.xs.length ≤ 80 ∧ ∀ x ∈ r.xs, x.size ≤ 20000) := Lib.hid (by rw [← HE.out]; exact HF.out.2 _ (row_mem hlt2))
          have HLT := Lib.hid hlt2
          obtain ⟨ra, rc, xs⟩ := r
          dsimp only at d0 hrl HR HE2 HFX
          have hxm : (xs.length : Int) ≤ 80 := by have := HFX.out.1; omega
          clear hr hlt2
          go_wp2_with fail
          have HD0 := Lib.hid d0
          clear d0
          go_loopw [44] (fun i wy => ∃ j : Nat, j ≤ xs.length ∧ i = .int .i64 j ∧ Hid (Lib.IsBuilder 62 5 w.heap.size wo.heap.size (Lib.byteCells (textT ((rows.map LnR.data).take k) ++ wordsT ((xs.map toL).take j))) wy) ∧ Hid (Below w.heap.size w wy)) (fun i _ => xs.length - (intOf i).toNat)
          case atStart => exact ⟨0, Nat.zero_le _, rfl, Lib.hid (by rw [show wordsT ((xs.map toL).take 0) = [] from rfl, List.append_nil]; exact HBX.out), HBW⟩
          case round =>
            obtain ⟨j, hj, rfl, HBY, HBZ⟩ := hrel
            obtain ⟨wy, rfl⟩ : ∃ wy : World, wy = wr := ⟨_, rfl⟩
            by_cases hjl : j < xs.length
            · have hjz : (j : Int) < xs.length := by omega
              obtain ⟨b2, o2, x, rfl, hb2, v0, HEX⟩ := (HR.out.on HBZ.out).elem hjl
              have HXS : Hid (x.size ≤ 20000) := Lib.hid (HFX.out.2 x (by rw [← HEX.out, List.getD_eq_getElem?_getD, List.getElem?_eq_getElem hjl]; exact List.getElem_mem hjl))
              have HSN : Hid (wordsT ((xs.map toL).take (j + 1)) = wordsT ((xs.map toL).take j) ++ (if j = 0 then [] else [32]) ++ toL x) := Lib.hid (by
                rw [take_next (d := []) _ (by rw [List.length_map]; exact hjl), wordsT_snoc]
                have h1 : (xs.map toL).getD j [] = toL x := by rw [← HEX.out, List.getD_eq_getElem?_getD, List.getElem?_map, List.getD_eq_getElem?_getD, List.getElem?_eq_getElem hjl]; rfl
                have h2 : ((xs.map toL).take j).isEmpty = decide (j = 0) := by
                  rw [Bool.eq_iff_iff, List.isEmpty_iff, decide_eq_true_eq, ← List.length_eq_zero_iff, List.length_take, List.length_map]
                  omega
                rw [h1, h2]
                by_cases h3 : j = 0
                · rw [if_pos h3, decide_eq_true h3, if_pos rfl]
                · rw [if_neg h3, decide_eq_false h3, if_neg (by decide)])
              have HLN : Hid ((textT ((rows.map LnR.data).take k) ++ wordsT ((xs.map toL).take j)).length ≤ 2000000) := Lib.hid (by
                have h1 := HS.out.1
                have h2 : (wordsT ((xs.map toL).take j)).length ≤ 20001 * ((xs.map toL).take j).length := wordsT_len (fun v hv => by
                  obtain ⟨y, hy, rfl⟩ := List.mem_map.1 (List.mem_of_mem_take hv)
                  rw [toL_size]; exact HFX.out.2 y hy)
                have h3 := HFX.out.1
                rw [List.length_take, List.length_map] at h2
                rw [List.length_append]
                omega)
              have HJL := Lib.hid hjl
              by_cases hj0 : j = 0
              · have hjy : ¬ (0 : Int) < (j : Int) := by omega
                have HJ0 := Lib.hid hj0
                clear hj0 hjl
                go_wp2_with (go_at_call 29; refine (writeString_any w.heap.size wo.heap.size _ x _ HBY.out (by rw [Lib.byteCells_length]; have := HLN.out; have := HXS.out; omega) HBZ.out.size).mono ?_; rintro e wz ⟨rfl, hbd, hb3⟩; have HBD2 := Lib.hid hbd; have HB3 := Lib.hid hb3; clear hbd hb3)
                go_roundw
                case rel => exact ⟨j + 1, by have := HJL.out; omega, by go_num, Lib.hid (by
                  rw [HSN.out, if_pos HJ0.out, List.append_nil, ← List.append_assoc, Lib.byteCells_append]
                  exact .inr HBD2.out), Lib.hid (HBZ.out.trans HB3.out)⟩
                case measure => simp [intOf]; have := HJL.out; omega
              · have hjy : (0 : Int) < (j : Int) := by omega
                have HJ0 := Lib.hid hj0
                clear hj0 hjl
                go_wp2_with (first
                  | (go_at_call 28; refine (writeByte_any w.heap.size wo.heap.size _ 32 _ HBY.out (by rw [Lib.byteCells_length]; have := HLN.out; omega) HBZ.out.size).mono ?_; rintro e wz ⟨rfl, hbd, hb3⟩; have HBD2 := Lib.hid hbd; have HB3 := Lib.hid hb3; clear hbd hb3)
                  | (go_at_call 29; refine (writeString_any w.heap.size wo.heap.size _ x _ (.inr HBD2.out) (by rw [List.length_append, Lib.byteCells_length]; have := HLN.out; have := HXS.out; simp only [List.length_cons, List.length_nil]; omega) (Nat.le_trans HBZ.out.size HB3.out.size)).mono ?_; rintro e wz2 ⟨rfl, hbd, hb4⟩; have HBD3 := Lib.hid hbd; have HB4 := Lib.hid hb4; clear hbd hb4))
                go_roundw
                case rel => exact ⟨j + 1, by have := HJL.out; omega, by go_num, Lib.hid (by
                  rw [HSN.out, if_neg HJ0.out, ← List.append_assoc, ← List.append_assoc, Lib.byteCells_append, Lib.byteCells_append]
                  exact .inr HBD3.out), Lib.hid ((HBZ.out.trans HB3.out).trans HB4.out)⟩
                case measure => simp [intOf]; have := HJL.out; omega
            · obtain rfl : j = xs.length := by omega
              have HSN : Hid (textT ((rows.map LnR.data).take (k + 1)) = textT ((rows.map LnR.data).take k) ++ wordsT ((xs.map toL).take xs.length) ++ [10]) := Lib.hid (by
                rw [take_next (d := []) _ (by rw [List.length_map]; exact HLT.out), textT_snoc, HE2.out, show (xs.map toL).take xs.length = xs.map toL from List.take_of_length_le (by rw [List.length_map]; exact Nat.le_refl _)]
                unfold lineT
                rw [← List.append_assoc]
                rfl)
              obtain ⟨n, HN⟩ : ∃ n, Hid ((textT ((rows.map LnR.data).take (k + 1))).length = n) := ⟨_, Lib.hid rfl⟩
              have HBL : Hid ((Lib.byteCells (textT ((rows.map LnR.data).take k) ++ wordsT ((xs.map toL).take xs.length)) ++ [Value.int .u8 10]).length = n) := Lib.hid (by
                rw [← HN.out, HSN.out, List.length_append, List.length_append, Lib.byteCells_length]; rfl)
              have HLN : Hid (n ≤ 2000000) := Lib.hid (by
                have h1 := HS.out.1
                have h2 : (wordsT ((xs.map toL).take xs.length)).length ≤ 20001 * ((xs.map toL).take xs.length).length := wordsT_len (fun v hv => by
                  obtain ⟨y, hy, rfl⟩ := List.mem_map.1 (List.mem_of_mem_take hv)
                  rw [toL_size]; exact HFX.out.2 y hy)
                have h3 := HFX.out.1
                rw [List.length_take, List.length_map] at h2
                rw [← HN.out, HSN.out, List.length_append, List.length_append]
                simp only [List.length_cons, List.length_nil]
                omega)
              have hnz : (n : Int) ≤ 2000000 := by have := HLN.out; omega
              by_cases h64 : 64 < xs.length
              · have h64z : (64 : Int) < xs.length := by omega
                have HJ := Lib.hid (joinP_many HMP.out (k := k) (by rw [List.length_map]; exact HLT.out) (.inl (by rw [HE2.out]; show 64 < (xs.map toL).length; rw [List.length_map]; exact h64)))
                clear h64
                go_wp2_with (first
                  | (go_at_call 28; refine (writeByte_any w.heap.size wo.heap.size _ 10 _ HBY.out (by have := HBL.out; rw [List.length_append] at this; simp only [List.length_cons, List.length_nil] at this; have := HLN.out; omega) HBZ.out.size).mono ?_; rintro e wz ⟨rfl, hbd, hb3⟩; have HBD2 := Lib.hid hbd; have HB3 := Lib.hid hb3; clear hbd hb3))
                go_ret2
                exact ⟨[], 4, rfl, HJ.out, HBZ.out.trans HB3.out⟩
              · have h64z : ¬ (64 : Int) < xs.length := by omega
                have H64 := Lib.hid h64
                clear h64
                by_cases hn : 16384 < n
                · have hnz2 : (16384 : Int) < n := by omega
                  have HJ := Lib.hid (joinP_many HMP.out (k := k) (by rw [List.length_map]; exact HLT.out) (.inr (by rw [HN.out]; exact hn)))
                  clear hn
                  go_wp2_with (first
                    | (go_at_call 28; refine (writeByte_any w.heap.size wo.heap.size _ 10 _ HBY.out (by have := HBL.out; rw [List.length_append] at this; simp only [List.length_cons, List.length_nil] at this; have := HLN.out; omega) HBZ.out.size).mono ?_; rintro e wz ⟨rfl, hbd, hb3⟩; have HBD2 := Lib.hid hbd; have HB3 := Lib.hid hb3; clear hbd hb3)
                    | (go_at_call 30; refine (Try.Builder_Len w.heap.size wo.heap.size _ _ (.inr HBD2.out)).mono ?_; rintro e wz2 ⟨rfl, hw⟩; rw [hw, HBL.out]; clear hw wz2))
                  go_ret2
                  exact ⟨[], 4, rfl, HJ.out, HBZ.out.trans HB3.out⟩
                · have hnz2 : ¬ (16384 : Int) < n := by omega
                  have HNN := Lib.hid hn
                  clear hn
                  go_wp2_with (first
                    | (go_at_call 28; refine (writeByte_any w.heap.size wo.heap.size _ 10 _ HBY.out (by have := HBL.out; rw [List.length_append] at this; simp only [List.length_cons, List.length_nil] at this; have := HLN.out; omega) HBZ.out.size).mono ?_; rintro e wz ⟨rfl, hbd, hb3⟩; have HBD2 := Lib.hid hbd; have HB3 := Lib.hid hb3; clear hbd hb3)
                    | (go_at_call 30; refine (Try.Builder_Len w.heap.size wo.heap.size _ _ (.inr HBD2.out)).mono ?_; rintro e wz2 ⟨rfl, hw⟩; rw [hw, HBL.out]; clear hw wz2))
                  go_roundw
                  case rel => exact ⟨k + 1, by have := HLT.out; omega, by go_num, Lib.hid (by
                    rw [HSN.out, Lib.byteCells_append]
                    exact .inr HBD2.out), Lib.hid (HBZ.out.trans HB3.out), Lib.hid ⟨by rw [HN.out]; exact Nat.le_of_not_lt HNN.out, fun i hi => by
                      by_cases e : i = k
                      · subst e
                        rw [HE2.out]
                        show (xs.map toL).length ≤ 64
                        rw [List.length_map]
                        exact Nat.le_of_not_lt H64.out
                      · exact HS.out.2 i (by omega)⟩⟩
                  case measure => simp [intOf]; have := HLT.out; omega
        · obtain rfl : k = rows.length := by omega
          have HT : Hid ((rows.map LnR.data).take rows.length = rows.map LnR.data) := Lib.hid (List.take_of_length_le (by rw [List.length_map]; exact Nat.le_refl _))
          have HJ : Hid (joinP (rows.map LnR.data) = (textT (rows.map LnR.data), 0)) := Lib.hid (joinP_ok HMP.out (fun y hy => by
            obtain ⟨q, hq, rfl⟩ := List.mem_iff_getElem.1 hy
            have hq2 : q < rows.length := by rwa [List.length_map] at hq
            have := HS.out.2 q hq2
            rw [List.getD_eq_getElem?_getD, List.getElem?_eq_getElem hq] at this
            exact this) (by have := HS.out.1; rwa [HT.out] at this))
          go_wp2_with (first
            | (go_at_call 31; refine (Try.Builder_String_any w.heap.size wo.heap.size _ _ HBX.out HBW.out.size).mono ?_; rw [HT.out]; rintro e wz ⟨rfl, hb3⟩; have HB3 := Lib.hid hb3; clear hb3))
          go_ret2
          exact ⟨_, 0, rfl, HJ.out, HBW.out.trans HB3.out⟩
end Go.Proofs.Ytbkgcikhiomenaa
