/-
  slices.EqualFunc at instructions, blocks and functions.
-/
import Derived.Test.YtcbhmpkginebaaaDoorMg14
import Derived.Test.YtcbhmpkginebaaaDoorMfShSame2
namespace Go.Proofs.YtcbhmpkginebaaaDoor
set_option linter.unusedVariables false
set_option linter.unusedSimpArgs false
open Go.ChangeShapes Go.WideShapes Go.ChangeAt Go.RowKit

/-- Does a function answer whether two elements tell the same? -/
structure EqualsI (w : World) (F : FuncId) (cap : Array Value) (xs ys : List InR) : Prop where
  enters : Enters F
  calls : ∀ (W : World) (v u : InR), Below w.heap.size w W → v ∈ xs → u ∈ ys → v.Ok W → u.Ok W → ∀ z : Bool, decide (v.data = u.data) = z → Calls Tryd.prog F (#[v.val, u.val] ++ cap) W fun e w' => e = .returned (.bool z) ∧ Below W.heap.size W w'
set_option maxRecDepth 100000 in
set_option maxHeartbeats 1600000 in
theorem equalI_any {w : World} {A A' : Option Addr} {c c' : Nat} {xs ys : List InR} (h : InsAt w A c xs) (h' : InsAt w A' c' ys) (F : FuncId) (cap : Array Value) (hf : EqualsI w F cap xs ys) :
    Calls Tryd.prog 62 #[.slice A xs.length c, .slice A' ys.length c', .func (.func F) #[] cap] w fun e w' => e = .returned (.bool (decide (insD xs = insD ys))) ∧ Below w.heap.size w w' := by
  have hl := h.hdr.cle
  have hl' := h'.hdr.cle
  have eg := hf.enters
  unfold Enters at eg
  have HF := Lib.hid hf
  have HX := Lib.hid h
  have HY := Lib.hid h'
  clear h h' hf
  by_cases hlen : xs.length = ys.length
  · have q : (xs.length : Int) = ys.length := by omega
    clear hlen
    go_enter Tryd.func62, Tryd.ntmps62
    go_wp2_with fail
    go_loopw [17] (fun i wr => ∃ k : Nat, k ≤ xs.length ∧ i = .int .i64 k ∧ Hid ((insD xs).take k = (insD ys).take k) ∧ Hid (Below w.heap.size w wr)) (fun i _ => xs.length - (intOf i).toNat)
    case atStart => exact ⟨0, Nat.zero_le _, rfl, Lib.hid rfl, Lib.hid (Below.refl _ _)⟩
    case round =>
      obtain ⟨k, hk, rfl, HT, HB⟩ := hrel
      by_cases hlt : k < xs.length
      · have hlt' : k < ys.length := by omega
        obtain ⟨bb, off, r, rfl, hb, ⟨d0, d1, d2, d3, d4, d5, d6⟩, hr, HE⟩ := (HX.out.on HB.out).elem hlt
        obtain ⟨bb', off', r', rfl, hb', ⟨d0', d1', d2', d3', d4', d5', d6'⟩, hr', HE'⟩ := (HY.out.on HB.out).elem hlt'
        have HNE : Hid (r.data ≠ r'.data → insD xs ≠ insD ys) := Lib.hid (fun hn => ne_of_getD (d := default) (k := k) (by rw [insD_at hlt, insD_at hlt', HE.out, HE'.out]; exact hn))
        have HEQ : Hid (r.data = r'.data → (insD xs).take (k + 1) = (insD ys).take (k + 1)) := Lib.hid (fun he => take_eq_succ (d := default) HT.out (by rw [insD_len]; exact hlt) (by rw [insD_len]; exact hlt') (by rw [insD_at hlt, insD_at hlt', HE.out, HE'.out]; exact he))
        have hk0 : (0 : Int) ≤ (k : Int) := Int.natCast_nonneg _
        have hk1 : (k : Int) < (xs.length : Int) := by omega
        have hk2 : (k : Int) < (ys.length : Int) := by omega
        have HLT := Lib.hid hlt
        have HM := Lib.hid (show r ∈ xs by have := mem_getD (d := (default : InR)) hlt; rwa [HE.out] at this)
        have HM' := Lib.hid (show r' ∈ ys by have := mem_getD (d := (default : InR)) hlt'; rwa [HE'.out] at this)
        have HR := Lib.hid hr
        have HR' := Lib.hid hr'
        obtain ⟨dd, hd⟩ : ∃ dd, decide (r.data = r'.data) = dd := ⟨_, rfl⟩
        have HC := Lib.hid (fun W (hw : Below wr.heap.size wr W) => HF.out.calls W r r' (HB.out.trans (hw.mono HB.out.size)) HM.out HM'.out (HR.out.on hw) (HR'.out.on hw) dd hd)
        have HD := Lib.hid hd
        clear hr hr' hlt hlt' HE HE' hd HM HM' HR HR'
        obtain ⟨op, ty, xa, xb, xn, aa, ac, args, fa, fc, from_⟩ := r
        obtain ⟨op', ty', xa', xb', xn', aa', ac', args', fa', fc', from_'⟩ := r'
        unfold InR.val at HC
        dsimp only at *
        have hA1 : Below wr.heap.size wr (wr.alloc (.cells #[.int .u8 op, .int .i64 ty, .int .i64 xa, .int .i64 xb, .int .i64 xn, .slice aa args.length ac, .slice fa from_.length fc] 24)) := (Below.refl _ _).alloc (Nat.le_refl _) _
        have g0 := (hA1.cell (p := ⟨bb', off' + k * 7, none⟩) hb').trans d0'
        have g1 := (hA1.cell (p := ⟨bb', off' + k * 7 + 1, none⟩) hb').trans d1'
        have g2 := (hA1.cell (p := ⟨bb', off' + k * 7 + 2, none⟩) hb').trans d2'
        have g3 := (hA1.cell (p := ⟨bb', off' + k * 7 + 3, none⟩) hb').trans d3'
        have g4 := (hA1.cell (p := ⟨bb', off' + k * 7 + 4, none⟩) hb').trans d4'
        have g5 := (hA1.cell (p := ⟨bb', off' + k * 7 + 5, none⟩) hb').trans d5'
        have g6 := (hA1.cell (p := ⟨bb', off' + k * 7 + 6, none⟩) hb').trans d6'
        have HB2 := Lib.hid (hA1.trans ((Below.refl _ _).alloc hA1.size (.cells #[.int .u8 op', .int .i64 ty', .int .i64 xa', .int .i64 xb', .int .i64 xn', .slice aa' args'.length ac', .slice fa' from_'.length fc'] 24)))
        clear hA1 hb hb'
        cases dd with
        | true =>
          go_wp2_with fail
          refine (HC.out _ HB2.out).mono ?_
          rintro e w1 ⟨rfl, hb1⟩
          have HB1 := Lib.hid (HB.out.trans ((HB2.out.trans (hb1.mono HB2.out.size)).mono HB.out.size))
          have HE2 := Lib.hid (HEQ.out (of_decide_eq_true HD.out))
          clear hb1
          go_wp2_with fail
          go_roundw
          case rel => exact ⟨k + 1, by have := HLT.out; omega, by go_num, HE2, HB1⟩
          case measure => simp [intOf]; have := HLT.out; omega
        | false =>
          have HN := Lib.hid (HNE.out (of_decide_eq_false HD.out))
          go_wp2_with fail
          refine (HC.out _ HB2.out).mono ?_
          rintro e w1 ⟨rfl, hb1⟩
          have HB1 := Lib.hid (HB.out.trans ((HB2.out.trans (hb1.mono HB2.out.size)).mono HB.out.size))
          clear hb1
          go_wp2_with fail
          go_ret
          exact ⟨ret_bool (by rw [decide_eq_false HN.out]), HB1.out⟩
      · have HPS : Hid (insD xs = insD ys) := Lib.hid (by have := HT.out; rwa [List.take_of_length_le (by rw [insD_len]; omega), List.take_of_length_le (by rw [insD_len]; omega)] at this)
        go_wp2_with fail
        go_ret
        exact ⟨ret_bool (by rw [decide_eq_true HPS.out]), HB.out⟩
  · have q : ¬ (xs.length : Int) = ys.length := by omega
    have HN : Hid (insD xs ≠ insD ys) := Lib.hid (fun h => hlen (by rw [← insD_len xs, h, insD_len]))
    clear hlen
    go_enter Tryd.func62, Tryd.ntmps62
    go_wp2_with fail
    go_ret
    exact ⟨ret_bool (by rw [decide_eq_false HN.out]), Below.refl _ _⟩
/-- Does a function answer whether two elements tell the same? -/
structure EqualsB (w : World) (F : FuncId) (cap : Array Value) (xs ys : List BlR) : Prop where
  enters : Enters F
  calls : ∀ (W : World) (v u : BlR), Below w.heap.size w W → v ∈ xs → u ∈ ys → v.Ok W → u.Ok W → ∀ z : Bool, decide (v.data = u.data) = z → Calls Tryd.prog F (#[v.val, u.val] ++ cap) W fun e w' => e = .returned (.bool z) ∧ Below W.heap.size W w'
set_option maxRecDepth 100000 in
set_option maxHeartbeats 1600000 in
theorem equalB_any {w : World} {A A' : Option Addr} {c c' : Nat} {xs ys : List BlR} (h : BlksAt w A c xs) (h' : BlksAt w A' c' ys) (F : FuncId) (cap : Array Value) (hf : EqualsB w F cap xs ys) :
    Calls Tryd.prog 64 #[.slice A xs.length c, .slice A' ys.length c', .func (.func F) #[] cap] w fun e w' => e = .returned (.bool (decide (blkD xs = blkD ys))) ∧ Below w.heap.size w w' := by
  have hl := h.hdr.cle
  have hl' := h'.hdr.cle
  have eg := hf.enters
  unfold Enters at eg
  have HF := Lib.hid hf
  have HX := Lib.hid h
  have HY := Lib.hid h'
  clear h h' hf
  by_cases hlen : xs.length = ys.length
  · have q : (xs.length : Int) = ys.length := by omega
    clear hlen
    go_enter Tryd.func64, Tryd.ntmps64
    go_wp2_with fail
    go_loopw [17] (fun i wr => ∃ k : Nat, k ≤ xs.length ∧ i = .int .i64 k ∧ Hid ((blkD xs).take k = (blkD ys).take k) ∧ Hid (Below w.heap.size w wr)) (fun i _ => xs.length - (intOf i).toNat)
    case atStart => exact ⟨0, Nat.zero_le _, rfl, Lib.hid rfl, Lib.hid (Below.refl _ _)⟩
    case round =>
      obtain ⟨k, hk, rfl, HT, HB⟩ := hrel
      by_cases hlt : k < xs.length
      · have hlt' : k < ys.length := by omega
        obtain ⟨bb, off, r, rfl, hb, ⟨d0, d1, d2, d3, d4⟩, hr, HE⟩ := (HX.out.on HB.out).elem hlt
        obtain ⟨bb', off', r', rfl, hb', ⟨d0', d1', d2', d3', d4'⟩, hr', HE'⟩ := (HY.out.on HB.out).elem hlt'
        have HNE : Hid (r.data ≠ r'.data → blkD xs ≠ blkD ys) := Lib.hid (fun hn => ne_of_getD (d := default) (k := k) (by rw [blkD_at hlt, blkD_at hlt', HE.out, HE'.out]; exact hn))
        have HEQ : Hid (r.data = r'.data → (blkD xs).take (k + 1) = (blkD ys).take (k + 1)) := Lib.hid (fun he => take_eq_succ (d := default) HT.out (by rw [blkD_len]; exact hlt) (by rw [blkD_len]; exact hlt') (by rw [blkD_at hlt, blkD_at hlt', HE.out, HE'.out]; exact he))
        have hk0 : (0 : Int) ≤ (k : Int) := Int.natCast_nonneg _
        have hk1 : (k : Int) < (xs.length : Int) := by omega
        have hk2 : (k : Int) < (ys.length : Int) := by omega
        have HLT := Lib.hid hlt
        have HM := Lib.hid (show r ∈ xs by have := mem_getD (d := (default : BlR)) hlt; rwa [HE.out] at this)
        have HM' := Lib.hid (show r' ∈ ys by have := mem_getD (d := (default : BlR)) hlt'; rwa [HE'.out] at this)
        have HR := Lib.hid hr
        have HR' := Lib.hid hr'
        obtain ⟨dd, hd⟩ : ∃ dd, decide (r.data = r'.data) = dd := ⟨_, rfl⟩
        have HC := Lib.hid (fun W (hw : Below wr.heap.size wr W) => HF.out.calls W r r' (HB.out.trans (hw.mono HB.out.size)) HM.out HM'.out (HR.out.on hw) (HR'.out.on hw) dd hd)
        have HD := Lib.hid hd
        clear hr hr' hlt hlt' HE HE' hd HM HM' HR HR'
        obtain ⟨ia, ic, ins, kd, xa, et, el⟩ := r
        obtain ⟨ia', ic', ins', kd', xa', et', el'⟩ := r'
        unfold BlR.val at HC
        dsimp only at *
        have hA1 : Below wr.heap.size wr (wr.alloc (.cells #[.slice ia ins.length ic, .int .u8 kd, .int .i64 xa, .int .i64 et, .int .i64 el] 58)) := (Below.refl _ _).alloc (Nat.le_refl _) _
        have g0 := (hA1.cell (p := ⟨bb', off' + k * 5, none⟩) hb').trans d0'
        have g1 := (hA1.cell (p := ⟨bb', off' + k * 5 + 1, none⟩) hb').trans d1'
        have g2 := (hA1.cell (p := ⟨bb', off' + k * 5 + 2, none⟩) hb').trans d2'
        have g3 := (hA1.cell (p := ⟨bb', off' + k * 5 + 3, none⟩) hb').trans d3'
        have g4 := (hA1.cell (p := ⟨bb', off' + k * 5 + 4, none⟩) hb').trans d4'
        have HB2 := Lib.hid (hA1.trans ((Below.refl _ _).alloc hA1.size (.cells #[.slice ia' ins'.length ic', .int .u8 kd', .int .i64 xa', .int .i64 et', .int .i64 el'] 58)))
        clear hA1 hb hb'
        cases dd with
        | true =>
          go_wp2_with fail
          refine (HC.out _ HB2.out).mono ?_
          rintro e w1 ⟨rfl, hb1⟩
          have HB1 := Lib.hid (HB.out.trans ((HB2.out.trans (hb1.mono HB2.out.size)).mono HB.out.size))
          have HE2 := Lib.hid (HEQ.out (of_decide_eq_true HD.out))
          clear hb1
          go_wp2_with fail
          go_roundw
          case rel => exact ⟨k + 1, by have := HLT.out; omega, by go_num, HE2, HB1⟩
          case measure => simp [intOf]; have := HLT.out; omega
        | false =>
          have HN := Lib.hid (HNE.out (of_decide_eq_false HD.out))
          go_wp2_with fail
          refine (HC.out _ HB2.out).mono ?_
          rintro e w1 ⟨rfl, hb1⟩
          have HB1 := Lib.hid (HB.out.trans ((HB2.out.trans (hb1.mono HB2.out.size)).mono HB.out.size))
          clear hb1
          go_wp2_with fail
          go_ret
          exact ⟨ret_bool (by rw [decide_eq_false HN.out]), HB1.out⟩
      · have HPS : Hid (blkD xs = blkD ys) := Lib.hid (by have := HT.out; rwa [List.take_of_length_le (by rw [blkD_len]; omega), List.take_of_length_le (by rw [blkD_len]; omega)] at this)
        go_wp2_with fail
        go_ret
        exact ⟨ret_bool (by rw [decide_eq_true HPS.out]), HB.out⟩
  · have q : ¬ (xs.length : Int) = ys.length := by omega
    have HN : Hid (blkD xs ≠ blkD ys) := Lib.hid (fun h => hlen (by rw [← blkD_len xs, h, blkD_len]))
    clear hlen
    go_enter Tryd.func64, Tryd.ntmps64
    go_wp2_with fail
    go_ret
    exact ⟨ret_bool (by rw [decide_eq_false HN.out]), Below.refl _ _⟩
/-- Does a function answer whether two elements tell the same? -/
structure EqualsF (w : World) (F : FuncId) (cap : Array Value) (xs ys : List FuR) : Prop where
  enters : Enters F
  calls : ∀ (W : World) (v u : FuR), Below w.heap.size w W → v ∈ xs → u ∈ ys → v.Ok W → u.Ok W → ∀ z : Bool, decide (v.data = u.data) = z → Calls Tryd.prog F (#[v.val, u.val] ++ cap) W fun e w' => e = .returned (.bool z) ∧ Below W.heap.size W w'
set_option maxRecDepth 100000 in
set_option maxHeartbeats 1600000 in
theorem equalF_any {w : World} {A A' : Option Addr} {c c' : Nat} {xs ys : List FuR} (h : FusAt w A c xs) (h' : FusAt w A' c' ys) (F : FuncId) (cap : Array Value) (hf : EqualsF w F cap xs ys) :
    Calls Tryd.prog 66 #[.slice A xs.length c, .slice A' ys.length c', .func (.func F) #[] cap] w fun e w' => e = .returned (.bool (decide (funD xs = funD ys))) ∧ Below w.heap.size w w' := by
  have hl := h.hdr.cle
  have hl' := h'.hdr.cle
  have eg := hf.enters
  unfold Enters at eg
  have HF := Lib.hid hf
  have HX := Lib.hid h
  have HY := Lib.hid h'
  clear h h' hf
  by_cases hlen : xs.length = ys.length
  · have q : (xs.length : Int) = ys.length := by omega
    clear hlen
    go_enter Tryd.func66, Tryd.ntmps66
    go_wp2_with fail
    go_loopw [17] (fun i wr => ∃ k : Nat, k ≤ xs.length ∧ i = .int .i64 k ∧ Hid ((funD xs).take k = (funD ys).take k) ∧ Hid (Below w.heap.size w wr)) (fun i _ => xs.length - (intOf i).toNat)
    case atStart => exact ⟨0, Nat.zero_le _, rfl, Lib.hid rfl, Lib.hid (Below.refl _ _)⟩
    case round =>
      obtain ⟨k, hk, rfl, HT, HB⟩ := hrel
      by_cases hlt : k < xs.length
      · have hlt' : k < ys.length := by omega
        obtain ⟨bb, off, r, rfl, hb, ⟨d0, d1⟩, hr, HE⟩ := (HX.out.on HB.out).elem hlt
        obtain ⟨bb', off', r', rfl, hb', ⟨d0', d1'⟩, hr', HE'⟩ := (HY.out.on HB.out).elem hlt'
        have HNE : Hid (r.data ≠ r'.data → funD xs ≠ funD ys) := Lib.hid (fun hn => ne_of_getD (d := default) (k := k) (by rw [funD_at hlt, funD_at hlt', HE.out, HE'.out]; exact hn))
        have HEQ : Hid (r.data = r'.data → (funD xs).take (k + 1) = (funD ys).take (k + 1)) := Lib.hid (fun he => take_eq_succ (d := default) HT.out (by rw [funD_len]; exact hlt) (by rw [funD_len]; exact hlt') (by rw [funD_at hlt, funD_at hlt', HE.out, HE'.out]; exact he))
        have hk0 : (0 : Int) ≤ (k : Int) := Int.natCast_nonneg _
        have hk1 : (k : Int) < (xs.length : Int) := by omega
        have hk2 : (k : Int) < (ys.length : Int) := by omega
        have HLT := Lib.hid hlt
        have HM := Lib.hid (show r ∈ xs by have := mem_getD (d := (default : FuR)) hlt; rwa [HE.out] at this)
        have HM' := Lib.hid (show r' ∈ ys by have := mem_getD (d := (default : FuR)) hlt'; rwa [HE'.out] at this)
        have HR := Lib.hid hr
        have HR' := Lib.hid hr'
        obtain ⟨dd, hd⟩ : ∃ dd, decide (r.data = r'.data) = dd := ⟨_, rfl⟩
        have HC := Lib.hid (fun W (hw : Below wr.heap.size wr W) => HF.out.calls W r r' (HB.out.trans (hw.mono HB.out.size)) HM.out HM'.out (HR.out.on hw) (HR'.out.on hw) dd hd)
        have HD := Lib.hid hd
        clear hr hr' hlt hlt' HE HE' hd HM HM' HR HR'
        obtain ⟨sig, ba, bc, blocks⟩ := r
        obtain ⟨sig', ba', bc', blocks'⟩ := r'
        unfold FuR.val at HC
        dsimp only at *
        have hA1 : Below wr.heap.size wr (wr.alloc (.cells #[.int .i64 sig, .slice ba blocks.length bc] 55)) := (Below.refl _ _).alloc (Nat.le_refl _) _
        have g0 := (hA1.cell (p := ⟨bb', off' + k * 2, none⟩) hb').trans d0'
        have g1 := (hA1.cell (p := ⟨bb', off' + k * 2 + 1, none⟩) hb').trans d1'
        have HB2 := Lib.hid (hA1.trans ((Below.refl _ _).alloc hA1.size (.cells #[.int .i64 sig', .slice ba' blocks'.length bc'] 55)))
        clear hA1 hb hb'
        cases dd with
        | true =>
          go_wp2_with fail
          refine (HC.out _ HB2.out).mono ?_
          rintro e w1 ⟨rfl, hb1⟩
          have HB1 := Lib.hid (HB.out.trans ((HB2.out.trans (hb1.mono HB2.out.size)).mono HB.out.size))
          have HE2 := Lib.hid (HEQ.out (of_decide_eq_true HD.out))
          clear hb1
          go_wp2_with fail
          go_roundw
          case rel => exact ⟨k + 1, by have := HLT.out; omega, by go_num, HE2, HB1⟩
          case measure => simp [intOf]; have := HLT.out; omega
        | false =>
          have HN := Lib.hid (HNE.out (of_decide_eq_false HD.out))
          go_wp2_with fail
          refine (HC.out _ HB2.out).mono ?_
          rintro e w1 ⟨rfl, hb1⟩
          have HB1 := Lib.hid (HB.out.trans ((HB2.out.trans (hb1.mono HB2.out.size)).mono HB.out.size))
          clear hb1
          go_wp2_with fail
          go_ret
          exact ⟨ret_bool (by rw [decide_eq_false HN.out]), HB1.out⟩
      · have HPS : Hid (funD xs = funD ys) := Lib.hid (by have := HT.out; rwa [List.take_of_length_le (by rw [funD_len]; omega), List.take_of_length_le (by rw [funD_len]; omega)] at this)
        go_wp2_with fail
        go_ret
        exact ⟨ret_bool (by rw [decide_eq_true HPS.out]), HB.out⟩
  · have q : ¬ (xs.length : Int) = ys.length := by omega
    have HN : Hid (funD xs ≠ funD ys) := Lib.hid (fun h => hlen (by rw [← funD_len xs, h, funD_len]))
    clear hlen
    go_enter Tryd.func66, Tryd.ntmps66
    go_wp2_with fail
    go_ret
    exact ⟨ret_bool (by rw [decide_eq_false HN.out]), Below.refl _ _⟩
end Go.Proofs.YtcbhmpkginebaaaDoor
