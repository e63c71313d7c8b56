/-
  The walk of the law LexNames.
-/
import Derived.Test.YtbkgcikhiomenaaLexBack
import Derived.Test.YtbkgcikhiomenaaLexParts
import Derived.Laws.MakeOwn
namespace Go.Proofs.Ytbkgcikhiomenaa
set_option linter.unusedVariables false
set_option linter.unusedSimpArgs false
open Go.ChangeShapes Go.WideShapes Go.ChangeAt Go.RowKit

def many (k : Nat) : Bs := (List.replicate k [97, 32]).flatten
theorem many_on (k : Nat) : many (k + 1) = many k ++ [97, 32] := by
  unfold many
  rw [List.replicate_succ', List.flatten_append]
  rfl
theorem many_lines : linesP (many 64) = some [List.replicate 64 [97]] := by decide +kernel
theorem many_over : linesP (many 64 ++ [97]) = none := by decide +kernel
def zeros (k : Nat) : ByteArray := ⟨(List.replicate k 0).toArray⟩
theorem toL_zeros (k : Nat) : toL (zeros k) = List.replicate k 0 := rfl
theorem zeros_size (k : Nat) : (zeros k).size = k := by rw [← toL_size, toL_zeros, List.length_replicate]
theorem zeros_lines : linesP (toL (zeros 16385)) = none := by
  unfold linesP
  rw [toL_size, zeros_size, if_pos (by decide)]
theorem zeros_join : joinP [[toL (zeros 16384)]] = ([], 4) := by
  have hm : mayP [[toL (zeros 16384)]] = true := by
    have h1 : mayW (toL (zeros 16384)) = true := by
      unfold mayW
      rw [Bool.and_eq_true, Bool.not_eq_true', Bool.not_eq_true']
      refine ⟨?_, ?_⟩
      · rw [toL_zeros]; rfl
      · unfold spB
        rw [List.any_eq_false]
        intro c hc
        rw [toL_zeros] at hc
        rw [List.eq_of_mem_replicate hc]
        decide
    unfold mayP mayL
    simp [h1]
  refine joinP_many hm (k := 0) (by decide) (.inr ?_)
  show 16384 < (textT [[toL (zeros 16384)]]).length
  unfold textT lineT wordsT
  simp [toL_size, zeros_size]
def zc (k : Nat) : Array Value := (List.replicate k (Value.int .u8 0)).toArray
theorem zc_made (k : Nat) : madeCells (Value.int .u8 0).cells k = zc k := by
  unfold madeCells zc
  apply Array.ext
  · simp
  · intro i h1 h2
    simp [Value.cells, Nat.mod_one]
theorem make_run (W : World) (k : Nat) (hk : k ≤ 20000) : (Instr.makeSlice 35 (.int .i64 (k : Int)) (.int .i64 (k : Int))).run Try.prog W = .ok (.slice (some ⟨W.heap.size, 0, none⟩) k k) (W.alloc (.cells (zc k) 5)) := by
  obtain ⟨i0, hi, hz0, hz1, hz2⟩ := info_parts infoByte
  have h := run_makeSlice (P := Try.prog) W 35 5 i0 _ Try.underlying35 hi hz0 .i64 .i64 (k : Int) (k : Int) (by omega) (Int.le_refl _) (by rw [hz1, Int.toNat_natCast]; omega) (by rw [hz2]; omega) (by omega)
  rw [hz1, Int.toNat_natCast, Nat.mul_one, zc_made] at h
  exact h
theorem conv_run (W : World) (k : Nat) : (convert 35 9 (.slice (some ⟨W.heap.size, 0, none⟩) k k)).run Try.prog (W.alloc (.cells (zc k) 5)) = .ok (.string (zeros k)) (W.alloc (.cells (zc k) 5)) := by
  have h := run_convert_bytes_back (P := Try.prog) (W.alloc (.cells (zc k) 5)) 35 9 5 ⟨W.heap.size, 0, none⟩ k (List.replicate k 0) Try.underlying35 Try.underlying5 Try.underlying9 (fun j hj => ?_)
  · rw [List.length_replicate] at h
    exact h
  · rw [List.length_replicate] at hj
    rw [add_at, cell_of_row _ _ _ _ _ _ (heap_alloc_new W _)]
    unfold zc
    rw [List.getElem?_toArray, Nat.zero_add, List.getElem?_eq_getElem (by rw [List.length_replicate]; exact hj), List.getElem_replicate, List.getElem_replicate]
    rfl
theorem want21 (w : World) (x y z : ByteArray) : LinesAt (((w.alloc (.cells #[.string x, .string y] 9)).alloc (.cells #[.string z] 9)).alloc (.cells #[.slice (some ⟨w.heap.size, 0, none⟩) 2 2, .slice (some ⟨w.heap.size + 1, 0, none⟩) 1 1] 39)) (some ⟨w.heap.size + 1 + 1, 0, none⟩) 2 [⟨some ⟨w.heap.size, 0, none⟩, 2, [x, y]⟩, ⟨some ⟨w.heap.size + 1, 0, none⟩, 1, [z]⟩] := by
  refine lines_block (rows := [⟨some ⟨w.heap.size, 0, none⟩, 2, [x, y]⟩, ⟨some ⟨w.heap.size + 1, 0, none⟩, 1, [z]⟩]) (heap_at _ _ _ (by rw [World.size_alloc, World.size_alloc])) rfl (by show 2 ≤ 1000000; omega) ?_
  intro r hr
  rcases List.mem_cons.1 hr with rfl | hr
  · exact at_block (xs := [x, y]) (heap_back (heap_back (heap_at w _ _ rfl))) rfl (by show 2 ≤ 1000000; omega)
  · obtain rfl := List.mem_singleton.1 hr
    exact at_block (xs := [z]) (heap_back (heap_at _ _ _ (by rw [World.size_alloc]))) rfl (by show 1 ≤ 1000000; omega)
theorem want1 (w : World) (x : ByteArray) {g : Nat} (hg : w.heap.size = g) : LinesAt ((w.alloc (.cells #[.string x] 9)).alloc (.cells #[.slice (some ⟨g, 0, none⟩) 1 1] 39)) (some ⟨g + 1, 0, none⟩) 1 [⟨some ⟨g, 0, none⟩, 1, [x]⟩] := by
  subst hg
  refine lines_block (rows := [⟨some ⟨w.heap.size, 0, none⟩, 1, [x]⟩]) (heap_at _ _ _ (by rw [World.size_alloc])) rfl (by show 1 ≤ 1000000; omega) ?_
  intro r hr
  obtain rfl := List.mem_singleton.1 hr
  exact at_block (xs := [x]) (heap_back (heap_at w _ _ rfl)) rfl (by show 1 ≤ 1000000; omega)
theorem want0 (w : World) : LinesAt ((w.alloc (.cells #[] 9)).alloc (.cells #[.slice (some ⟨w.heap.size, 0, none⟩) 0 0] 39)) (some ⟨w.heap.size + 1, 0, none⟩) 1 [⟨some ⟨w.heap.size, 0, none⟩, 0, []⟩] := by
  refine lines_block (rows := [⟨some ⟨w.heap.size, 0, none⟩, 0, []⟩]) (heap_at _ _ _ (by rw [World.size_alloc])) rfl (by show 1 ≤ 1000000; omega) ?_
  intro r hr
  obtain rfl := List.mem_singleton.1 hr
  exact at_block (xs := []) (heap_back (heap_at w _ _ rfl)) rfl (by show 0 ≤ 1000000; omega)
theorem few_rows {rows : List LnR} (h1 : rows.length ≤ 3000) (h2 : rows.all (fun r => decide (r.xs.length ≤ 80) && r.xs.all fun x => decide (x.size ≤ 20000)) = true) : FewL rows := by
  refine ⟨h1, fun r hr => ?_⟩
  have := List.all_eq_true.1 h2 r hr
  rw [Bool.and_eq_true, decide_eq_true_eq, List.all_eq_true] at this
  exact ⟨this.1, fun x hx => of_decide_eq_true (this.2 x hx)⟩
theorem joins_ok {rows : List LnR} {l : List (List Bs)} {t : Bs} {er : Int} {w w' : World} {e : Ending} (h : JoinOf rows w e w') (hj : joinP l = (t, er)) (hd : rows.map LnR.data = l) : e = .returned (.tuple #[.string ⟨t.toArray⟩, .int .i64 er]) ∧ Below w.heap.size w w' := by
  obtain ⟨t2, er2, rfl, h2, hb⟩ := h
  rw [hd, hj] at h2
  injection h2 with e1 e2
  subst e1 e2
  exact ⟨rfl, hb⟩
theorem last_lines : linesP (toL ⟨#[13, 10, 97, 13, 10]⟩) = some [[[97]]] := by decide
theorem names_join : joinP [[[97], [98]], [[99]]] = ([97, 32, 98, 10, 99, 10], 0) := by decide
theorem empty_join : joinP [[]] = ([], 2) := by decide
theorem hash_join : joinP [[[97, 35]]] = ([], 2) := by decide
set_option maxRecDepth 100000 in
set_option maxHeartbeats 800000 in
theorem walk_LexNames (w : World) : Calls Try.prog 6 #[] w fun e w' => e = .returned (.bool true) ∧ Below w.heap.size w w' := by
  go_enter Try.func6, Try.ntmps6
  go_wp2_with fail
  go_loopw [1, 2] (fun v i wr => ∃ (k : Nat) (z : ByteArray), k ≤ 64 ∧ i = .int .i64 k ∧ v = .string z ∧ z.size = 2 * k ∧ Hid (toL z = many k) ∧ Hid (Below w.heap.size w wr)) (fun _ i _ => 64 - (intOf i).toNat)
  case atStart => exact ⟨0, ⟨#[]⟩, Nat.zero_le _, rfl, rfl, rfl, Lib.hid rfl, Lib.hid (Below.refl _ _)⟩
  case round =>
    obtain ⟨k, z, hk, rfl, rfl, hz, HZ, HB⟩ := hrel
    have hzz : (z.size : Int) ≤ 128 := by omega
    have HZS := Lib.hid hz
    by_cases hlt : k < 64
    · have hkz : (k : Int) < 64 := by omega
      have HLT := Lib.hid hlt
      clear hz hlt
      go_wp2_with fail
      go_roundw
      case rel => exact ⟨k + 1, z ++ ⟨#[97, 32]⟩, by have := HLT.out; omega, by go_num, rfl, by rw [size_app, HZS.out]; show 2 * k + 2 = _; omega, Lib.hid (by rw [toL_app, many_on, HZ.out]; rfl), HB⟩
      case measure => simp [intOf]; have := HLT.out; omega
    · obtain rfl : k = 64 := by omega
      clear hz hlt
      obtain ⟨wo, rfl⟩ : ∃ wo : World, wo = wr := ⟨_, rfl⟩
      have HO1 : Hid (linesP (toL z) = some [List.replicate 64 [97]]) := Lib.hid (by rw [HZ.out]; exact many_lines)
      have HO2 : Hid (linesP (toL (z ++ ⟨#[97]⟩)) = none) := Lib.hid (by rw [toL_app, HZ.out]; exact many_over)
      have HE1 : Hid (errL (some [List.replicate 64 [97]]) = 0) := Lib.hid rfl
      have HSZ : Hid (z.size ≤ 128) := Lib.hid (by have := HZS.out; omega)
      have HS2 : Hid ((z ++ (⟨#[97]⟩ : ByteArray)).size ≤ 20000) := Lib.hid (by
        have h1 := size_app z ⟨#[97]⟩
        have h2 : (⟨#[97]⟩ : ByteArray).size = 1 := rfl
        have := HSZ.out
        omega)
      have hmk1 : ∀ W, (Instr.makeSlice 35 (.int .i64 16385) (.int .i64 16385)).run Try.prog W = .ok (.slice (some ⟨W.heap.size, 0, none⟩) 16385 16385) (W.alloc (.cells (zc 16385) 5)) := fun W => make_run W 16385 (by decide)
      have hmk2 : ∀ W, (Instr.makeSlice 35 (.int .i64 16384) (.int .i64 16384)).run Try.prog W = .ok (.slice (some ⟨W.heap.size, 0, none⟩) 16384 16384) (W.alloc (.cells (zc 16384) 5)) := fun W => make_run W 16384 (by decide)
      have hcv1 := fun W => conv_run W 16385
      have hcv2 := fun W => conv_run W 16384
      go_wp2_with fail
      refine (plines_any z (by have := HSZ.out; omega) _).mono ?_
      intro e w1 hl1
      rw [HO1.out] at hl1
      obtain ⟨A1, c1, rs, rfl, hown1, hrw1, hb1⟩ := hl1.form
      rw [HE1.out]
      have HW := Lib.hid hown1
      have HRW : Hid (rs.map LnR.data = [List.replicate 64 [97]]) := Lib.hid hrw1.out
      have HB1 := Lib.hid (HB.out.trans (hb1.mono HB.out.size))
      clear hl1 hown1 hrw1 hb1
      go_wp2_with fail
      refine (plines_any _ HS2.out _).mono ?_
      intro e w2 hl2
      rw [HO2.out] at hl2
      obtain ⟨rfl, hb2⟩ := hl2
      have HB2 := Lib.hid hb2
      clear hb2
      go_wp2_with fail
      refine (plines_any _ (by rw [zeros_size]; decide) _).mono ?_
      intro e w3 hl3
      rw [zeros_lines] at hl3
      obtain ⟨rfl, hb3⟩ := hl3
      have HB3 := Lib.hid (HB2.out.trans (((Below.refl w2.heap.size w2).alloc (Nat.le_refl _) _ |>.trans (hb3.mono (by simp only [World.size_alloc]; omega))).mono HB2.out.size))
      clear hb3
      go_wp2_with fail
      refine (pjoin_any (want21 w3 ⟨#[97]⟩ ⟨#[98]⟩ ⟨#[99]⟩) (few_rows (by show 2 ≤ 3000; omega) rfl)).mono ?_
      intro e w4 hj4
      obtain ⟨rfl, hb4⟩ := joins_ok hj4 names_join rfl
      have HB4 := Lib.hid (HB3.out.trans ((((((Below.refl w3.heap.size w3).alloc (Nat.le_refl _) _).alloc (by simp only [World.size_alloc]; omega) _).alloc (by simp only [World.size_alloc]; omega) _).trans (hb4.mono (by simp only [World.size_alloc]; omega))).mono HB3.out.size))
      clear hb4 hj4
      go_wp2_with fail
      refine (pjoin_any (want0 w4) (few_rows (by show 1 ≤ 3000; omega) rfl)).mono ?_
      intro e w5 hj5
      obtain ⟨rfl, hb5⟩ := joins_ok hj5 empty_join rfl
      have HB5 := Lib.hid (HB4.out.trans (((((Below.refl w4.heap.size w4).alloc (Nat.le_refl _) _).alloc (by simp only [World.size_alloc]; omega) _).trans (hb5.mono (by simp only [World.size_alloc]; omega))).mono HB4.out.size))
      clear hb5 hj5
      go_wp2_with fail
      refine (pjoin_any (want1 w5 ⟨#[97, 35]⟩ rfl) (few_rows (by show 1 ≤ 3000; omega) rfl)).mono ?_
      intro e w6 hj6
      obtain ⟨rfl, hb6⟩ := joins_ok hj6 hash_join rfl
      have HB6 := Lib.hid (HB5.out.trans (((((Below.refl w5.heap.size w5).alloc (Nat.le_refl _) _).alloc (by simp only [World.size_alloc]; omega) _).trans (hb6.mono (by simp only [World.size_alloc]; omega))).mono HB5.out.size))
      clear hb6 hj6
      go_wp2_with fail
      refine (pjoin_any (want1 (w6.alloc (.cells (zc 16384) 5)) (zeros 16384) (by rw [World.size_alloc])) (few_rows (by show 1 ≤ 3000; omega) (by simp [zeros_size]))).mono ?_
      intro e w7 hj7
      obtain ⟨rfl, hb7⟩ := joins_ok hj7 zeros_join rfl
      have HB7 := Lib.hid (HB6.out.trans ((((((Below.refl w6.heap.size w6).alloc (Nat.le_refl _) _).alloc (by simp only [World.size_alloc]; omega) _).alloc (by simp only [World.size_alloc]; omega) _).trans (hb7.mono (by simp only [World.size_alloc]; omega))).mono HB6.out.size))
      clear hb7 hj7
      go_wp2_with fail
      refine (alive_any _).mono ?_
      rintro e w8 ⟨rfl, hb8⟩
      have HB8 := Lib.hid (HB7.out.trans (hb8.mono HB7.out.size))
      clear hb8
      obtain ⟨r, hr⟩ : ∃ r, rs = [r] := by
        have h := HRW.out
        match rs, h with
        | [r], _ => exact ⟨r, rfl⟩
        | [], h => cases h
        | _ :: _ :: _, h => have h1 := congrArg List.length h; rw [List.length_map] at h1; simp at h1
      subst hr
      obtain ⟨b0, off0, r0, rfl, hb0, d0, hr0, HE0⟩ := (HW.out.keep HB8.out).at_.elem (i := 0) (by show 0 < 1; omega)
      obtain rfl : r = r0 := HE0.out
      have hxl : r.xs.length = 64 := by
        have h := HRW.out
        rw [List.map_cons, List.map_nil, List.cons.injEq] at h
        have h1 := congrArg List.length h.1
        unfold LnR.data at h1
        rwa [List.length_map, List.length_replicate] at h1
      rw [hxl, Nat.add_zero] at d0
      clear hr0 hxl
      go_wp2_with fail
      refine (none_is _ 0 10 (told_no (num_bad (by decide))) true (by decide) _).mono ?_
      rintro e w9 ⟨rfl, hb9⟩
      have HB9 := Lib.hid (HB8.out.trans (hb9.mono HB8.out.size))
      clear hb9
      go_wp2_with fail
      refine (none_is _ 1 0 (told_yes (num_pos (by decide))) true (by decide) _).mono ?_
      rintro e w10 ⟨rfl, hb10⟩
      have HB10 := Lib.hid (HB9.out.trans (hb10.mono HB9.out.size))
      clear hb10
      go_wp2_with fail
      refine (none_is _ 0 10 (told_no (num_bad (by decide))) true (by decide) _).mono ?_
      rintro e w11 ⟨rfl, hb11⟩
      have HB11 := Lib.hid (HB10.out.trans (hb11.mono HB10.out.size))
      clear hb11
      go_wp2_with fail
      refine (none_is _ 1000 0 (told_yes (num_pos (by decide))) true (by decide) _).mono ?_
      rintro e w12 ⟨rfl, hb12⟩
      have HB12 := Lib.hid (HB11.out.trans (hb12.mono HB11.out.size))
      clear hb12
      go_wp2_with fail
      refine (mark_is _ 999 0 (told_yes (num_pos (by decide))) 999 true (by decide) _).mono ?_
      rintro e w13 ⟨rfl, hb13⟩
      have HB13 := Lib.hid (HB12.out.trans (hb13.mono HB12.out.size))
      clear hb13
      go_wp2_with fail
      refine (mark_is _ 0 0 (told_yes (num_pos (by decide))) 0 true (by decide) _).mono ?_
      rintro e w14 ⟨rfl, hb14⟩
      have HB14 := Lib.hid (HB13.out.trans (hb14.mono HB13.out.size))
      clear hb14
      go_wp2_with fail
      refine (are_any _ (by decide) (lines_none _) true (by decide)).mono ?_
      rintro e w15 ⟨rfl, hb15⟩
      have HB15 := Lib.hid (HB14.out.trans (hb15.mono HB14.out.size))
      clear hb15
      go_wp2_with fail
      refine (are_any _ (by decide) (want1 w15 ⟨#[97]⟩ rfl) true (decide_eq_true (last_lines.trans rfl))).mono ?_
      rintro e w16 ⟨rfl, hb16⟩
      have HB16 := Lib.hid (HB15.out.trans (((((Below.refl w15.heap.size w15).alloc (Nat.le_refl _) _).alloc (by simp only [World.size_alloc]; omega) _).trans (hb16.mono (by simp only [World.size_alloc]; omega))).mono HB15.out.size))
      clear hb16
      go_wp2_with fail
      go_ret
      exact ⟨rfl, HB1.out.trans (HB16.out.mono HB1.out.size)⟩
end Go.Proofs.Ytbkgcikhiomenaa
