/-
  The reference's text of a line, and of lines.
-/
import Derived.Test.YtbkgcikhiomenaaLexRef5
import Derived.Laws.BytesArg
import Derived.Lib.AppendStr
namespace Go.Proofs.Ytbkgcikhiomenaa
set_option linter.unusedVariables false
set_option linter.unusedSimpArgs false
open Go.ChangeShapes Go.WideShapes Go.ChangeAt Go.RowKit

/-- Bytes of the call's own. -/
def OwnBts (w : World) (lo : Nat) (v : Value) (l : Bs) : Prop := w.ownsRow lo 5 1 v l.length (Lib.byteCells l)
theorem OwnBts.nil (w : World) (lo : Nat) : OwnBts w lo (.slice none 0 0) [] := World.ownsRow_nil _ _ _ _
def LineOf (l : Bs) (w : World) (e : Ending) (w' : World) : Prop := ∃ v, e = .returned v ∧ OwnBts w' w.heap.size v l ∧ Below w.heap.size w w'
theorem bytes_one (c : UInt8) : Lib.byteCells [c] = [Value.int .u8 c.toNat] := rfl
set_option maxRecDepth 100000 in
theorem wpList_appB {w : World} {ops : Array Oper} {rest : List Oper} {o : Oper} {a : Act} {Q : Exit → Act → World → Prop} (hgd : o.guard = none) (s x : Operand)
    (ho : o.op = .call { callee := .builtin .append, args := #[s, x], argTypes := #[35, 35] })
    (lo : Nat) (v : Value) (l : Bs) (c : UInt8) (hs : a.eval s = v) (hown : OwnBts w lo v l) (d : Int) (hd : (c.toNat : Int) = d) (hx : a.eval x = .slice (some ⟨w.heap.size, 0, none⟩) 1 1) (hlen : l.length ≤ 100000000) (hlo : lo ≤ w.heap.size)
    (h : ∀ v' w', OwnBts w' lo v' (l ++ [c]) → (w.alloc (.cells #[.int .u8 d] 5)).grownBy w' v.ownBlock → wpList Try.prog ops Q rest (a.put o.dst v') w') : wpList Try.prog ops Q (o :: rest) a (w.alloc (.cells #[.int .u8 d] 5)) := by
  obtain ⟨i0, hi, hz0, hz1, hz2⟩ := info_parts infoByte
  refine wpList_append_own _ hgd s x 35 ho lo 5 i0 (.int .u8 0) 1 1 Try.underlying35 hi hz0 hz1 hz2 rfl (by decide) v l.length _ hs (World.ownsRow.alloc hown _) ⟨w.heap.size, 0, none⟩ 1 1 [.int .u8 d] hx rfl ?_ ?_ ?_ ?_ ?_ ?_
  · intro j u hj
    match j, hj with
    | 0, hj => simp at hj; subst hj; simp [Addr.add]
  · intro u hu; simp at hu; subst hu; rfl
  · unfold maxLen; omega
  · omega
  · rw [World.size_alloc]; omega
  · intro v' w' h1 h2 _
    refine h v' w' ?_ h2
    unfold OwnBts
    rw [List.length_append, Lib.byteCells_append, bytes_one, hd]
    exact h1
set_option maxRecDepth 100000 in
theorem wpList_appStr {w : World} {ops : Array Oper} {rest : List Oper} {o : Oper} {a : Act} {Q : Exit → Act → World → Prop} (hgd : o.guard = none) (s x : Operand)
    (ho : o.op = .call { callee := .builtin .append, args := #[s, x], argTypes := #[35, 9] })
    (lo : Nat) (v : Value) (l : Bs) (y : ByteArray) (hs : a.eval s = v) (hown : OwnBts w lo v l) (hx : a.eval x = .string y) (hlen : l.length ≤ 100000000) (hy : y.size ≤ 100000000) (hlo : lo ≤ w.heap.size)
    (h : ∀ v' w', OwnBts w' lo v' (l ++ toL y) → w.grownBy w' v.ownBlock → wpList Try.prog ops Q rest (a.put o.dst v') w') : wpList Try.prog ops Q (o :: rest) a w := by
  obtain ⟨i0, hi, hz0, hz1, hz2⟩ := info_parts infoByte
  refine Lib.wpList_append_own_string _ hgd s x 35 9 ho lo 5 i0 Try.underlying35 Try.underlying9 hi hz0 hz1 hz2 v l.length _ hs hown y hx ?_ ?_ hlo ?_
  · unfold maxLen; omega
  · omega
  · intro v' w' h1 h2 _
    refine h v' w' ?_ h2
    unfold OwnBts
    rw [List.length_append, Lib.byteCells_append, toL_size]
    exact h1
theorem OwnBts.base {w : World} {lo : Nat} {v : Value} {l : Bs} (h : OwnBts w lo v l) : ∀ k, v.ownBlock = some k → lo ≤ k := own_base h
set_option maxRecDepth 100000 in
set_option maxHeartbeats 1600000 in
theorem rline_any {w : World} {A : Option Addr} {c : Nat} {xs : List ByteArray} (h : Hdr A xs.length c) (hs : StrsAt w 0 w.heap.size A xs) (hx : xs.length ≤ 80) (hf : ∀ x ∈ xs, x.size ≤ 20000) :
    Calls Try.prog 33 #[.slice A xs.length c] w (LineOf (lineT (xs.map toL)) w) := by
  have hl := h.le
  have hxz : (xs.length : Int) ≤ 80 := by omega
  have HX := Lib.hid hs
  have HF := Lib.hid hf
  have HXL := Lib.hid hx
  clear h hs hf
  go_enter Try.func33, Try.ntmps33
  go_wp2_with fail
  go_loopw [3, 4] (fun v i wr => ∃ k : Nat, k ≤ xs.length ∧ i = .int .i64 k ∧ Hid (OwnBts wr w.heap.size v (wordsT ((xs.map toL).take k))) ∧ Hid (Below w.heap.size w wr)) (fun _ i _ => xs.length - (intOf i).toNat)
  case atStart => exact ⟨0, Nat.zero_le _, rfl, Lib.hid (OwnBts.nil _ _), Lib.hid (Below.refl _ _)⟩
  case round =>
    obtain ⟨k, hk, rfl, HO, HB⟩ := hrel
    have HLN : Hid ((wordsT ((xs.map toL).take k)).length ≤ 2000000) := Lib.hid (by
      have h2 : (wordsT ((xs.map toL).take k)).length ≤ 20001 * ((xs.map toL).take k).length := wordsT_len (fun v hv => by
        obtain ⟨y, hy, rfl⟩ := List.mem_map.1 (List.mem_of_mem_take hv)
        rw [toL_size]; exact HF.out y hy)
      rw [List.length_take, List.length_map] at h2
      have := HXL.out
      omega)
    by_cases hlt : k < xs.length
    · have hkz : (k : Int) < xs.length := by omega
      obtain ⟨b, off, x, rfl, hb, v00, HEX⟩ := HX.out.elem hlt
      have V0 := Lib.hid v00
      have v0 := (HB.out.cell (p := ⟨b, off + k, none⟩) hb).trans V0.out
      clear v00
      have HXS : Hid (x.size ≤ 20000) := Lib.hid (HF.out x (by rw [← HEX.out, List.getD_eq_getElem?_getD, List.getElem?_eq_getElem hlt]; exact List.getElem_mem hlt))
      have HSN : Hid (wordsT ((xs.map toL).take (k + 1)) = wordsT ((xs.map toL).take k) ++ (if k = 0 then [] else [32]) ++ toL x) := Lib.hid (by
        rw [take_next (d := []) _ (by rw [List.length_map]; exact hlt), wordsT_snoc]
        have h1 : (xs.map toL).getD k [] = toL x := by rw [← HEX.out, List.getD_eq_getElem?_getD, List.getElem?_map, List.getD_eq_getElem?_getD, List.getElem?_eq_getElem hlt]; rfl
        have h2 : ((xs.map toL).take k).isEmpty = decide (k = 0) := by
          rw [Bool.eq_iff_iff, List.isEmpty_iff, decide_eq_true_eq, ← List.length_eq_zero_iff, List.length_take, List.length_map]
          omega
        rw [h1, h2]
        by_cases h3 : k = 0
        · rw [if_pos h3, decide_eq_true h3, if_pos rfl]
        · rw [if_neg h3, decide_eq_false h3, if_neg (by decide)])
      have HLT := Lib.hid hlt
      clear hlt
      by_cases hk0 : k = 0
      · have hkn : ¬ (0 : Int) < k := by omega
        have HK0 := Lib.hid hk0
        clear hk0
        go_wp2_with (first
          | (refine wpList_appStr rfl (.tmp 16) (.tmp 20) (by rfl) w.heap.size _ _ x (by rfl) HO.out (by rfl) (by have := HLN.out; omega) (by have := HXS.out; omega) HB.out.size ?_; intro v' w1 hown hgr; have HOW := Lib.hid hown; have HBW := Lib.hid (Below.grown (B := w.heap.size) HB.out hgr HB.out.size HO.out.base); clear hown hgr))
        go_roundw
        case rel => exact ⟨k + 1, by have := HLT.out; omega, by go_num, Lib.hid (by rw [HSN.out, if_pos HK0.out, List.append_nil]; exact HOW.out), HBW⟩
        case measure => simp [intOf]; have := HLT.out; omega
      · have hkn : (0 : Int) < k := by omega
        have HK0 := Lib.hid hk0
        clear hk0
        go_wp2_with (first
          | (refine wpList_appB rfl (.tmp 13) (.tmp 14) (by rfl) w.heap.size _ _ 32 (by rfl) HO.out 32 (by rfl) (by rfl) (by have := HLN.out; omega) HB.out.size ?_; intro v' w1 hown hgr; have HOW := Lib.hid hown; have HBW := Lib.hid (Below.grown (B := w.heap.size) (HB.out.alloc HB.out.size _) hgr (Nat.le_trans HB.out.size (by rw [World.size_alloc]; omega)) HO.out.base); have v1 := (HBW.out.cell (p := ⟨b, off + k, none⟩) hb).trans V0.out; clear hown hgr)
          | (refine wpList_appStr rfl (.tmp 16) (.tmp 20) (by rfl) w.heap.size _ _ x (by rfl) HOW.out (by rfl) (by rw [List.length_append]; have := HLN.out; simp only [List.length_cons, List.length_nil]; omega) (by have := HXS.out; omega) HBW.out.size ?_; intro v' w2 hown hgr; have HOW2 := Lib.hid hown; have HBW2 := Lib.hid (Below.grown (B := w.heap.size) HBW.out hgr HBW.out.size HOW.out.base); clear hown hgr))
        go_roundw
        case rel => exact ⟨k + 1, by have := HLT.out; omega, by go_num, Lib.hid (by rw [HSN.out, if_neg HK0.out]; exact HOW2.out), HBW2⟩
        case measure => simp [intOf]; have := HLT.out; omega
    · obtain rfl : k = xs.length := by omega
      go_wp2_with (first
        | (refine wpList_appB rfl (.tmp 22) (.tmp 23) (by rfl) w.heap.size _ _ 10 (by rfl) HO.out 10 (by rfl) (by rfl) (by have := HLN.out; omega) HB.out.size ?_; intro v' w1 hown hgr; have HOW := Lib.hid hown; have HBW := Lib.hid (Below.grown (B := w.heap.size) (HB.out.alloc HB.out.size _) hgr (Nat.le_trans HB.out.size (by rw [World.size_alloc]; omega)) HO.out.base); clear hown hgr))
      go_ret
      refine ⟨_, rfl, ?_, HBW.out⟩
      have := HOW.out
      rwa [show (xs.map toL).take xs.length = xs.map toL from List.take_of_length_le (by rw [List.length_map]; exact Nat.le_refl _)] at this
def textJ (o : Bs × Int) (w : World) (e : Ending) (w' : World) : Prop := e = .returned (.tuple #[.string ⟨o.1.toArray⟩, .int .i64 o.2]) ∧ Below w.heap.size w w'
theorem lineT_len {xs : List ByteArray} (hx : xs.length ≤ 80) (hf : ∀ x ∈ xs, x.size ≤ 20000) : (lineT (xs.map toL)).length ≤ 2000000 ∧ 0 < (lineT (xs.map toL)).length := by
  have h2 : (wordsT (xs.map toL)).length ≤ 20001 * (xs.map toL).length := wordsT_len (fun v hv => by
    obtain ⟨y, hy, rfl⟩ := List.mem_map.1 hv
    rw [toL_size]; exact hf y hy)
  rw [List.length_map] at h2
  unfold lineT
  rw [List.length_append]
  simp only [List.length_cons, List.length_nil]
  omega
set_option maxRecDepth 100000 in
/-- Bytes of the call's own, put behind bytes of the call's own. -/
theorem wpList_appBs {w : World} {ops : Array Oper} {rest : List Oper} {o : Oper} {a : Act} {Q : Exit → Act → World → Prop} (hgd : o.guard = none) (s x : Operand)
    (ho : o.op = .call { callee := .builtin .append, args := #[s, x], argTypes := #[35, 35] })
    (lo lo2 : Nat) (v y : Value) (l m : Bs) (hs : a.eval s = v) (hown : OwnBts w lo v l) (hx : a.eval x = y) (hy : OwnBts w lo2 y m) (hm : 0 < m.length) (hlen : l.length ≤ 100000000) (hlen2 : m.length ≤ 100000000) (hlo : lo ≤ w.heap.size)
    (h : ∀ v' w', OwnBts w' lo v' (l ++ m) → w.grownBy w' v.ownBlock → wpList Try.prog ops Q rest (a.put o.dst v') w') : wpList Try.prog ops Q (o :: rest) a w := by
  obtain ⟨i0, hi, hz0, hz1, hz2⟩ := info_parts infoByte
  obtain ⟨A, c, rfl, hle, hcm, hnil, hc⟩ := ownsRow_form hy (by decide)
  obtain ⟨g, off, rfl, _, _, hcell⟩ := hc (by omega)
  refine wpList_append_own _ hgd s x 35 ho lo 5 i0 (.int .u8 0) 1 1 Try.underlying35 hi hz0 hz1 hz2 rfl (by decide) v l.length _ hs hown ⟨g, off, none⟩ m.length c (Lib.byteCells m) hx ?_ ?_ ?_ ?_ ?_ hlo ?_
  · rw [Lib.byteCells_length, Nat.mul_one]
  · intro j u hj
    have hjl : j < m.length := by
      have := (List.getElem?_eq_some_iff.1 hj).1
      rwa [Lib.byteCells_length] at this
    have := hcell j hjl 0 (by decide)
    rw [Nat.mul_one, Nat.add_zero] at this
    rw [show (⟨g, off, none⟩ : Addr).add j = ⟨g, off + j, none⟩ by unfold Addr.add; split <;> simp_all, this]
    show some ((Lib.byteCells m).getD (j * 1 + 0) undef) = some u
    rw [Nat.mul_one, Nat.add_zero, List.getD_eq_getElem?_getD, hj]
    rfl
  · intro u hu
    obtain ⟨b, _, rfl⟩ := List.mem_map.1 hu
    rfl
  · unfold maxLen; omega
  · omega
  · intro v' w' h1 h2 _
    refine h v' w' ?_ h2
    unfold OwnBts
    rw [List.length_append, Lib.byteCells_append]
    exact h1
theorem OwnBts.keep {w w' : World} {lo : Nat} {v : Value} {l : Bs} (h : OwnBts w lo v l) (hb : Below w.heap.size w w') : OwnBts w' lo v l := ownsRow_keep h hb
theorem OwnBts.text {w : World} {lo : Nat} {v : Value} {l : Bs} (h : OwnBts w lo v l) : (convert 35 9 v).run Try.prog w = .ok (.string ⟨l.toArray⟩) w := by
  obtain ⟨A, c, rfl, hle, hcm, hnil, hc⟩ := ownsRow_form h (by decide)
  rcases Nat.eq_zero_or_pos l.length with h0 | h0
  · obtain rfl : l = [] := List.eq_nil_of_length_eq_zero h0
    cases A with
    | none => exact run_convert_bytes_nil w 35 5 Try.underlying35 Try.underlying5 _ _ _ Try.underlying9
    | some ad => exact run_convert_bytes_back (P := Try.prog) w 35 9 5 ad c [] Try.underlying35 Try.underlying5 Try.underlying9 (fun j hj => absurd hj (Nat.not_lt_zero _))
  · obtain ⟨g, off, rfl, _, _, hcell⟩ := hc h0
    refine run_convert_bytes_back (P := Try.prog) w 35 9 5 ⟨g, off, none⟩ c l Try.underlying35 Try.underlying5 Try.underlying9 (fun j hj => ?_)
    have := hcell j hj 0 (by decide)
    rw [Nat.mul_one, Nat.add_zero] at this
    rw [show (⟨g, off, none⟩ : Addr).add j = ⟨g, off + j, none⟩ by unfold Addr.add; split <;> simp_all, this]
    show some ((Lib.byteCells l).getD (j * 1 + 0) undef) = _
    unfold Lib.byteCells
    rw [Nat.mul_one, Nat.add_zero, List.getD_eq_getElem?_getD, List.getElem?_map, List.getElem?_eq_getElem hj]
    rfl
set_option maxRecDepth 100000 in
set_option maxHeartbeats 1600000 in
theorem rjoin_any {w : World} {A : Option Addr} {c : Nat} {rows : List LnR} (h : LinesAt w A c rows) (hf : FewL rows) :
    Calls Try.prog 17 #[.slice A rows.length c] w (JoinOf rows w) := by
  have hl := h.hdr.le
  have hrz : (rows.length : Int) ≤ 3000 := by have := hf.1; omega
  have HX := Lib.hid h
  have HF := Lib.hid hf
  clear h hf
  cases hm : mayP (rows.map LnR.data) with
  | false =>
    have HM := Lib.hid hm
    have HJ : Hid (joinP (rows.map LnR.data) = ([], 2)) := Lib.hid (by unfold joinP; rw [hm]; rfl)
    clear hm
    go_enter Try.func17, Try.ntmps17
    go_wp2_with (go_at_call 32; refine (rmayAll_any HX.out HF.out).mono ?_; rintro e w1 ⟨rfl, hb1⟩; rw [HM.out]; have HB1 := Lib.hid hb1; clear hb1)
    go_ret2
    exact ⟨[], 2, rfl, HJ.out, HB1.out⟩
  | true =>
    have HMP := Lib.hid hm
    clear hm
    go_enter Try.func17, Try.ntmps17
    go_wp2_with (go_at_call 32; refine (rmayAll_any HX.out HF.out).mono ?_; rintro e w1 ⟨rfl, hb1⟩; rw [HMP.out]; have HB1 := Lib.hid hb1; clear hb1)
    go_loopw [4, 5] (fun v i wr => ∃ k : Nat, k ≤ rows.length ∧ i = .int .i64 k ∧ Hid (OwnBts wr w.heap.size v (textT ((rows.map LnR.data).take k))) ∧ Hid (Below w.heap.size w wr) ∧ Hid ((textT ((rows.map LnR.data).take k)).length ≤ 16384 ∧ ∀ i, i < k → ((rows.map LnR.data).getD i []).length ≤ 64)) (fun _ i _ => rows.length - (intOf i).toNat)
    case atStart => exact ⟨0, Nat.zero_le _, rfl, Lib.hid (OwnBts.nil _ _), HB1, Lib.hid ⟨Nat.zero_le _, fun i h => absurd h (Nat.not_lt_zero _)⟩⟩
    case round =>
      obtain ⟨k, hk, rfl, HO, HB, HS⟩ := hrel
      by_cases hlt : k < rows.length
      · have hkz : (k : Int) < rows.length := by omega
        obtain ⟨b, off, r, rfl, hb, d00, hr, HE⟩ := HX.out.elem hlt
        have D0 := Lib.hid d00
        have d0 := (HB.out.cell (p := ⟨b, off + k, none⟩) hb).trans D0.out
        clear d00
        have HE2 : Hid ((rows.map LnR.data).getD k [] = r.data) := Lib.hid (by rw [data_at hlt, HE.out])
        have hrl := hr.hdr.le
        have HH := Lib.hid hr.hdr
        have HR := Lib.hid hr.strs
        have HFX : Hid (r.xs.length ≤ 80 ∧ ∀ x ∈ r.xs, x.size ≤ 20000) := Lib.hid (by rw [← HE.out]; exact HF.out.2 _ (row_mem hlt))
        have HLT := Lib.hid hlt
        obtain ⟨ra, rc, xs⟩ := r
        dsimp only at d0 hrl HH HR HE2 HFX D0
        have hxm : (xs.length : Int) ≤ 80 := by have := HFX.out.1; omega
        have HLL := Lib.hid (lineT_len HFX.out.1 HFX.out.2)
        have HSN : Hid (textT ((rows.map LnR.data).take (k + 1)) = textT ((rows.map LnR.data).take k) ++ lineT (xs.map toL)) := Lib.hid (by
          rw [take_next (d := []) _ (by rw [List.length_map]; exact HLT.out), textT_snoc, HE2.out]
          rfl)
        obtain ⟨n, HN⟩ : ∃ n, Hid ((textT ((rows.map LnR.data).take (k + 1))).length = n) := ⟨_, Lib.hid rfl⟩
        have HLN : Hid (n ≤ 3000000) := Lib.hid (by
          have h1 := HS.out.1
          have h2 := HLL.out.1
          rw [← HN.out, HSN.out, List.length_append]
          omega)
        have hnz : (n : Int) ≤ 3000000 := by have := HLN.out; omega
        clear hr hlt
        by_cases h64 : 64 < xs.length
        · have h64z : (64 : Int) < xs.length := by omega
          have HJ := Lib.hid (joinP_many HMP.out (k := k) (by rw [List.length_map]; exact HLT.out) (.inl (by rw [HE2.out]; show 64 < (xs.map toL).length; rw [List.length_map]; exact h64)))
          clear h64
          go_wp2_with (first
            | (go_at_call 33; refine (rline_any HH.out (HR.out.on HB.out) HFX.out.1 HFX.out.2).mono ?_; rintro e w2 ⟨v2, rfl, hown2, hb2⟩; have HO2 := Lib.hid hown2; have HB2 := Lib.hid hb2; clear hown2 hb2)
            | (refine wpList_appBs rfl (.tmp 15) (.tmp 20) (by rfl) w.heap.size _ _ _ _ _ (by rfl) (HO.out.keep HB2.out) (by rfl) HO2.out HLL.out.2 (by have := HS.out.1; omega) (by have := HLL.out.1; omega) (Nat.le_trans HB.out.size HB2.out.size) ?_; intro v' w3 hown hgr; rw [← HSN.out] at hown; obtain ⟨A3, c3, hv3, _⟩ := ownsRow_form hown (by decide); rw [HN.out] at hv3; subst hv3; have HOW := Lib.hid hown; have HBW := Lib.hid (Below.grown (B := w.heap.size) (HB.out.trans (HB2.out.mono HB.out.size)) hgr (Nat.le_trans HB.out.size HB2.out.size) HO.out.base); have d1 := (HBW.out.cell (p := ⟨b, off + k, none⟩) hb).trans D0.out; clear hown hgr))
          go_ret2
          exact ⟨[], 4, rfl, HJ.out, HBW.out⟩
        · have h64z : ¬ (64 : Int) < xs.length := by omega
          have H64 := Lib.hid h64
          clear h64
          by_cases hn : 16384 < n
          · have hnz2 : (16384 : Int) < n := by omega
            have HJ := Lib.hid (joinP_many HMP.out (k := k) (by rw [List.length_map]; exact HLT.out) (.inr (by rw [HN.out]; exact hn)))
            clear hn
            go_wp2_with (first
              | (go_at_call 33; refine (rline_any HH.out (HR.out.on HB.out) HFX.out.1 HFX.out.2).mono ?_; rintro e w2 ⟨v2, rfl, hown2, hb2⟩; have HO2 := Lib.hid hown2; have HB2 := Lib.hid hb2; clear hown2 hb2)
              | (refine wpList_appBs rfl (.tmp 15) (.tmp 20) (by rfl) w.heap.size _ _ _ _ _ (by rfl) (HO.out.keep HB2.out) (by rfl) HO2.out HLL.out.2 (by have := HS.out.1; omega) (by have := HLL.out.1; omega) (Nat.le_trans HB.out.size HB2.out.size) ?_; intro v' w3 hown hgr; rw [← HSN.out] at hown; obtain ⟨A3, c3, hv3, _⟩ := ownsRow_form hown (by decide); rw [HN.out] at hv3; subst hv3; have HOW := Lib.hid hown; have HBW := Lib.hid (Below.grown (B := w.heap.size) (HB.out.trans (HB2.out.mono HB.out.size)) hgr (Nat.le_trans HB.out.size HB2.out.size) HO.out.base); have d1 := (HBW.out.cell (p := ⟨b, off + k, none⟩) hb).trans D0.out; clear hown hgr))
            go_ret2
            exact ⟨[], 4, rfl, HJ.out, HBW.out⟩
          · have hnz2 : ¬ (16384 : Int) < n := by omega
            have HNN := Lib.hid hn
            clear hn
            go_wp2_with (first
              | (go_at_call 33; refine (rline_any HH.out (HR.out.on HB.out) HFX.out.1 HFX.out.2).mono ?_; rintro e w2 ⟨v2, rfl, hown2, hb2⟩; have HO2 := Lib.hid hown2; have HB2 := Lib.hid hb2; clear hown2 hb2)
              | (refine wpList_appBs rfl (.tmp 15) (.tmp 20) (by rfl) w.heap.size _ _ _ _ _ (by rfl) (HO.out.keep HB2.out) (by rfl) HO2.out HLL.out.2 (by have := HS.out.1; omega) (by have := HLL.out.1; omega) (Nat.le_trans HB.out.size HB2.out.size) ?_; intro v' w3 hown hgr; rw [← HSN.out] at hown; obtain ⟨A3, c3, hv3, _⟩ := ownsRow_form hown (by decide); rw [HN.out] at hv3; subst hv3; have HOW := Lib.hid hown; have HBW := Lib.hid (Below.grown (B := w.heap.size) (HB.out.trans (HB2.out.mono HB.out.size)) hgr (Nat.le_trans HB.out.size HB2.out.size) HO.out.base); have d1 := (HBW.out.cell (p := ⟨b, off + k, none⟩) hb).trans D0.out; clear hown hgr))
            go_roundw
            case rel => exact ⟨k + 1, by have := HLT.out; omega, by go_num, Lib.hid (by first | exact HOW.out | (unfold OwnBts; rw [HN.out]; exact HOW.out)), HBW, Lib.hid ⟨by rw [HN.out]; exact Nat.le_of_not_lt HNN.out, fun i hi => by
              by_cases e : i = k
              · subst e
                rw [HE2.out]
                show (xs.map toL).length ≤ 64
                rw [List.length_map]
                exact Nat.le_of_not_lt H64.out
              · exact HS.out.2 i (by omega)⟩⟩
            case measure => simp [intOf]; have := HLT.out; omega
      · obtain rfl : k = rows.length := by omega
        have HT : Hid ((rows.map LnR.data).take rows.length = rows.map LnR.data) := Lib.hid (List.take_of_length_le (by rw [List.length_map]; exact Nat.le_refl _))
        have HJ : Hid (joinP (rows.map LnR.data) = (textT (rows.map LnR.data), 0)) := Lib.hid (joinP_ok HMP.out (fun y hy => by
          obtain ⟨q, hq, rfl⟩ := List.mem_iff_getElem.1 hy
          have hq2 : q < rows.length := by rwa [List.length_map] at hq
          have := HS.out.2 q hq2
          rw [List.getD_eq_getElem?_getD, List.getElem?_eq_getElem hq] at this
          exact this) (by have := HS.out.1; rwa [HT.out] at this))
        have hcv := HO.out.text
        rw [HT.out] at hcv
        go_wp2_with fail
        go_ret2
        exact ⟨_, 0, rfl, HJ.out, HB.out⟩
end Go.Proofs.Ytbkgcikhiomenaa
