/-
  The program's Same of types.
-/
import Derived.Test.YtcbhmpkginebaaaDoorMg14
import Derived.Test.YtcbhmpkginebaaaDoorMfTypSame
namespace Go.Proofs.YtcbhmpkginebaaaDoor
set_option linter.unusedVariables false
set_option linter.unusedSimpArgs false
open Go.ChangeShapes Go.WideShapes Go.ChangeAt Go.RowKit

set_option maxHeartbeats 400000 in
theorem pequal_any {w : World} {lo lo' B B' : Nat} {A A' : Option Addr} {c c' : Nat} {xs ys : List Int} (hh : Hdr A xs.length c) (hx : IntsAt w lo B A xs) (hh' : Hdr A' ys.length c') (hy : IntsAt w lo' B' A' ys) :
    Calls Tryd.prog 60 #[.slice A xs.length c, .slice A' ys.length c'] w fun e w' => e = .returned (.bool (decide (xs = ys))) ∧ Below w.heap.size w w' := by
  have hl := Nat.le_trans hh.fit hh.cap
  have hl' := Nat.le_trans hh'.fit hh'.cap
  unfold maxLen at hl hl'
  have HX := Lib.hid hx
  have HY := Lib.hid hy
  clear hx hy hh hh'
  by_cases hlen : xs.length = ys.length
  · have q : (xs.length : Int) = ys.length := by omega
    go_enter Tryd.func60, Tryd.ntmps60
    go_wp2_with fail
    go_loopw [13] (fun i wr => ∃ k : Nat, k ≤ xs.length ∧ i = .int .i64 k ∧ Hid (xs.take k = ys.take k) ∧ Below w.heap.size w wr) (fun i _ => xs.length - (intOf i).toNat)
    case atStart => exact ⟨0, Nat.zero_le _, rfl, Lib.hid rfl, Below.refl _ _⟩
    case round =>
      obtain ⟨k, hk, rfl, HT, hbel⟩ := hrel
      have HB := Lib.hid hbel
      clear hbel
      by_cases hlt : k < xs.length
      · obtain ⟨b, off, x, rfl, hcell, HE⟩ := (HX.out.cell hlt)
        obtain ⟨b', off', y, rfl, hcell', HE'⟩ := (HY.out.cell (k := k) (by omega))
        have d1 := (HB.out.cell (p := ⟨b, off + k, none⟩) (World.block_lt_of_cell? w _ hcell)).trans hcell
        have d2 := (HB.out.cell (p := ⟨b', off' + k, none⟩) (World.block_lt_of_cell? w _ hcell')).trans hcell'
        clear hcell hcell'
        by_cases hxy : x = y
        · subst hxy
          go_wp2_with fail
          go_quiet (fail)
          go_wp2_with fail
          go_roundw
          case rel => exact ⟨k + 1, by omega, by go_num, Lib.hid (take_eq_succ (d := 0) HT.out hlt (by omega) (by rw [HE.out, HE'.out])), belowDrewN HB.out _⟩
          case measure => simp [intOf]; omega
        · have hne : (x == y) = false := by simpa using hxy
          have hne2 : (x != y) = true := by simpa using hxy
          have HN : Hid (xs ≠ ys) := Lib.hid (ne_of_getD (d := 0) (k := k) (by rw [HE.out, HE'.out]; exact hxy))
          go_wp2_with fail
          go_quiet (fail)
          go_wp2_with fail
          go_ret
          exact ⟨ret_bool (by rw [decide_eq_false HN.out]), belowDrewN HB.out _⟩
      · go_wp2_with fail
        go_ret
        exact ⟨ret_bool (by rw [decide_eq_true]; have := HT.out; rwa [List.take_of_length_le (by omega), List.take_of_length_le (by omega)] at this), HB.out⟩
  · have q : ¬ (xs.length : Int) = ys.length := by omega
    have HN : Hid (xs ≠ ys) := Lib.hid (fun h => hlen (by rw [h]))
    clear hlen
    go_enter Tryd.func60, Tryd.ntmps60
    go_wp2_with fail
    go_ret
    exact ⟨ret_bool (by rw [decide_eq_false HN.out]), Below.refl _ _⟩

set_option maxHeartbeats 800000 in
theorem same1_any {w : World} {r r' : TyR} (hr : r.Ok w 0 w.heap.size) (hr' : r'.Ok w 0 w.heap.size) :
    Calls Tryd.prog 84 #[r.val, r'.val] w fun e w' => e = .returned (.bool (decide (r.data = r'.data))) ∧ Below w.heap.size w w' := by
  obtain ⟨κ, el, ma, pa, pc, ps⟩ := r
  obtain ⟨κ', el', ma', pa', pc', ps'⟩ := r'
  have hb0 : Below w.heap.size w ((w.alloc (.cells #[.int .u8 κ, .int .i64 el, .int .i64 ma, .slice pa ps.length pc] 78)).alloc (.cells #[.int .u8 κ', .int .i64 el', .int .i64 ma', .slice pa' ps'.length pc'] 78)) := ((Below.refl _ _).alloc (Nat.le_refl _) _).alloc (by simp) _
  have HE := Lib.hid (pequal_any hr.hdr (hr.keep hb0).ints hr'.hdr (hr'.keep hb0).ints)
  have HB := Lib.hid hb0
  clear hb0 hr hr'
  unfold TyR.data TyR.val
  dsimp only
  obtain ⟨dd, hd⟩ : ∃ dd, decide ((⟨κ, el, ma, ps⟩ : Ty) = ⟨κ', el', ma', ps'⟩) = dd := ⟨_, rfl⟩
  rw [hd]
  have HD := Lib.hid hd
  clear hd
  by_cases e0 : κ = κ'
  · subst e0
    by_cases e1 : el = el'
    · subst e1
      by_cases e2 : ma = ma'
      · subst e2
        have HP : Hid (decide (ps = ps') = dd) := Lib.hid (by rw [← HD.out]; simp)
        go_enter Tryd.func84, Tryd.ntmps84
        go_wp2_with fail
        refine HE.out.mono ?_
        rintro e w1 ⟨rfl, hb1⟩
        have HB1 := Lib.hid (HB.out.trans (hb1.mono HB.out.size))
        clear hb1
        go_wp2_with fail
        go_ret
        exact ⟨ret_bool HP.out, HB1.out⟩
      · have qq : (ma == ma') = false := by simpa using e2
        have HN : Hid (¬ (⟨κ, el, ma, ps⟩ : Ty) = ⟨κ, el, ma', ps'⟩) := Lib.hid (fun h => e2 (by injection h with _ _ h _))
        clear e2
        go_enter Tryd.func84, Tryd.ntmps84
        go_wp2_with fail
        go_ret
        exact ⟨ret_bool (by rw [← HD.out, decide_eq_false HN.out]), HB.out⟩
    · have qq : (el == el') = false := by simpa using e1
      have HN : Hid (¬ (⟨κ, el, ma, ps⟩ : Ty) = ⟨κ, el', ma', ps'⟩) := Lib.hid (fun h => e1 (by injection h with _ h _ _))
      clear e1
      go_enter Tryd.func84, Tryd.ntmps84
      go_wp2_with fail
      go_ret
      exact ⟨ret_bool (by rw [← HD.out, decide_eq_false HN.out]), HB.out⟩
  · have qq : ((κ : Int) == κ') = false := by simp; omega
    have HN : Hid (¬ (⟨κ, el, ma, ps⟩ : Ty) = ⟨κ', el', ma', ps'⟩) := Lib.hid (fun h => e0 (by injection h with h _ _ _))
    clear e0
    go_enter Tryd.func84, Tryd.ntmps84
    go_wp2_with fail
    go_ret
    exact ⟨ret_bool (by rw [← HD.out, decide_eq_false HN.out]), HB.out⟩

theorem enters_same : Enters 84 := fun _ _ => by kernel_rfl
set_option maxHeartbeats 800000 in
theorem equalFunc_any {w : World} {A A' : Option Addr} {c c' : Nat} {xs ys : List TyR} (h : TabIn w A c xs) (h' : TabIn w A' c' ys) (F : FuncId) (eg : Enters F)
    (hf : ∀ (W : World) (r r' : TyR), r.Ok W 0 W.heap.size → r'.Ok W 0 W.heap.size → Calls Tryd.prog F #[r.val, r'.val] W fun e w' => e = .returned (.bool (decide (r.data = r'.data))) ∧ Below W.heap.size W w') :
    Calls Tryd.prog 83 #[.slice A xs.length c, .slice A' ys.length c', .func (.func F) #[] #[]] w fun e w' => e = .returned (.bool (decide (tbl xs = tbl ys))) ∧ Below w.heap.size w w' := by
  have hl := h.len
  have hl' := h'.len
  unfold Enters at eg
  have HF := Lib.hid hf
  have HX := Lib.hid h
  have HY := Lib.hid h'
  clear h h' hf
  by_cases hlen : xs.length = ys.length
  · have q : (xs.length : Int) = ys.length := by omega
    clear hlen
    go_enter Tryd.func83, Tryd.ntmps83
    go_wp2_with fail
    go_loopw [17] (fun i wr => ∃ k : Nat, k ≤ xs.length ∧ i = .int .i64 k ∧ Hid ((tbl xs).take k = (tbl ys).take k) ∧ Below w.heap.size w wr) (fun i _ => xs.length - (intOf i).toNat)
    case atStart => exact ⟨0, Nat.zero_le _, rfl, Lib.hid rfl, Below.refl _ _⟩
    case round =>
      obtain ⟨k, hk, rfl, HT, hbel⟩ := hrel
      by_cases hlt : k < xs.length
      · have hlt' : k < ys.length := by omega
        have ⟨b, off, hA, hbl, c0, c1, c2, c3⟩ := (HX.out.rows.elem hlt).at_
        have ⟨b', off', hA', hbl', c0', c1', c2', c3'⟩ := (HY.out.rows.elem hlt').at_
        subst hA hA'
        have d0 := (hbel.cell (p := ⟨b, off + k * 4, none⟩) hbl).trans c0
        have d1 := (hbel.cell (p := ⟨b, off + k * 4 + 1, none⟩) hbl).trans c1
        have d2 := (hbel.cell (p := ⟨b, off + k * 4 + 2, none⟩) hbl).trans c2
        have d3 := (hbel.cell (p := ⟨b, off + k * 4 + 3, none⟩) hbl).trans c3
        have d0' := (hbel.cell (p := ⟨b', off' + k * 4, none⟩) hbl').trans c0'
        have d1' := (hbel.cell (p := ⟨b', off' + k * 4 + 1, none⟩) hbl').trans c1'
        have d2' := (hbel.cell (p := ⟨b', off' + k * 4 + 2, none⟩) hbl').trans c2'
        have d3' := (hbel.cell (p := ⟨b', off' + k * 4 + 3, none⟩) hbl').trans c3'
        have hr := ((HX.out.row hlt).keep hbel).more (Nat.le_refl _) hbel.size
        have hr' := ((HY.out.row hlt').keep hbel).more (Nat.le_refl _) hbel.size
        have HB := Lib.hid hbel
        clear hbel c0 c1 c2 c3 c0' c1' c2' c3'
        have HNE : Hid ((xs.getD k default).data ≠ (ys.getD k default).data → tbl xs ≠ tbl ys) := Lib.hid (tbl_ne hlt hlt')
        have HEQ : Hid ((xs.getD k default).data = (ys.getD k default).data → (tbl xs).take (k + 1) = (tbl ys).take (k + 1)) := Lib.hid (tbl_take_succ HT.out hlt hlt')
        generalize xs.getD k default = r at d0 d1 d2 d3 hr HNE HEQ
        generalize ys.getD k default = r' at d0' d1' d2' d3' hr' HNE HEQ
        obtain ⟨κ, el, ma, pa, pc, ps⟩ := r
        obtain ⟨κ', el', ma', pa', pc', ps'⟩ := r'
        simp only at d0 d1 d2 d3 d0' d1' d2' d3'
        have HR := Lib.hid hr
        have HR' := Lib.hid hr'
        clear hr hr'
        have hz' : b' < wr.heap.size := World.block_lt_of_cell? _ _ d0'
        have hA1 : Below wr.heap.size wr (wr.alloc (.cells #[.int .u8 κ, .int .i64 el, .int .i64 ma, .slice pa ps.length pc] 78)) := (Below.refl _ _).alloc (Nat.le_refl _) _
        have g0' := (hA1.cell (p := ⟨b', off' + k * 4 , none⟩) hz').trans d0'
        have g1' := (hA1.cell (p := ⟨b', off' + k * 4 + 1, none⟩) hz').trans d1'
        have g2' := (hA1.cell (p := ⟨b', off' + k * 4 + 2, none⟩) hz').trans d2'
        have g3' := (hA1.cell (p := ⟨b', off' + k * 4 + 3, none⟩) hz').trans d3'
        clear hA1 hz'
        have hb0 : Below wr.heap.size wr ((wr.alloc (.cells #[.int .u8 κ, .int .i64 el, .int .i64 ma, .slice pa ps.length pc] 78)).alloc (.cells #[.int .u8 κ', .int .i64 el', .int .i64 ma', .slice pa' ps'.length pc'] 78)) := ((Below.refl _ _).alloc (Nat.le_refl _) _).alloc (by simp) _
        have hc := HF.out _ _ _ ((HR.out.keep hb0).more (Nat.le_refl _) hb0.size) ((HR'.out.keep hb0).more (Nat.le_refl _) hb0.size)
        obtain ⟨dd, hd⟩ : ∃ dd, decide ((⟨κ, el, ma, ps⟩ : Ty) = ⟨κ', el', ma', ps'⟩) = dd := ⟨_, rfl⟩
        have HD := Lib.hid hd
        unfold TyR.data at hc
        rw [hd] at hc
        have HC := Lib.hid hc
        clear hb0 hc hd
        cases dd with
        | true =>
          go_wp2_with fail
          refine HC.out.mono ?_
          rintro e w1 ⟨rfl, hb1⟩
          have HB1 := Lib.hid (HB.out.trans ((below_new2 hb1).mono HB.out.size))
          clear hb1
          go_wp2_with fail
          go_roundw
          case rel => exact ⟨k + 1, by omega, by go_num, Lib.hid (HEQ.out (of_decide_eq_true HD.out)), HB1.out⟩
          case measure => simp [intOf]; omega
        | false =>
          have HN := Lib.hid (HNE.out (of_decide_eq_false HD.out))
          go_wp2_with fail
          refine HC.out.mono ?_
          rintro e w1 ⟨rfl, hb1⟩
          have HB1 := Lib.hid (HB.out.trans ((below_new2 hb1).mono HB.out.size))
          clear hb1
          go_wp2_with fail
          go_ret
          exact ⟨ret_bool (by rw [decide_eq_false HN.out]), HB1.out⟩
      · have HB := Lib.hid hbel
        clear hbel
        have HPS : Hid (tbl xs = tbl ys) := Lib.hid (by have := HT.out; rwa [List.take_of_length_le (by rw [tbl_len]; omega), List.take_of_length_le (by rw [tbl_len]; omega)] at this)
        go_wp2_with fail
        go_ret
        exact ⟨ret_bool (by rw [decide_eq_true HPS.out]), HB.out⟩
  · have q : ¬ (xs.length : Int) = ys.length := by omega
    have HN : Hid (tbl xs ≠ tbl ys) := Lib.hid (fun h => hlen (by have := congrArg List.length h; rwa [tbl_len, tbl_len] at this))
    clear hlen
    go_enter Tryd.func83, Tryd.ntmps83
    go_wp2_with fail
    go_ret
    exact ⟨ret_bool (by rw [decide_eq_false HN.out]), Below.refl _ _⟩
theorem psame_any {w : World} {A A' : Option Addr} {c c' : Nat} {xs ys : List TyR} (h : TabIn w A c xs) (h' : TabIn w A' c' ys) :
    Calls Tryd.prog 65 #[.slice A xs.length c, .slice A' ys.length c'] w fun e w' => e = .returned (.bool (decide (tbl xs = tbl ys))) ∧ Below w.heap.size w w' := by
  have HC := Lib.hid (equalFunc_any h h' _ enters_same fun W r r' hr hr' => same1_any hr hr')
  clear h h'
  go_enter Tryd.func65, Tryd.ntmps65
  go_wp2_with fail
  refine HC.out.mono ?_
  rintro e w1 ⟨rfl, hb1⟩
  have HB1 := Lib.hid hb1
  clear hb1
  go_wp2_with fail
  go_ret
  exact ⟨rfl, HB1.out⟩
end Go.Proofs.YtcbhmpkginebaaaDoor
