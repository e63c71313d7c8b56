/-
  The program's Same of memories.
-/
import Derived.Test.YthddacnnhmcoaaaMmSame
import Derived.Test.YthddacnnhmcoaaaMmProg1
namespace Go.Proofs.Ythddacnnhmcoaaa
set_option linter.unusedVariables false
set_option linter.unusedSimpArgs false
open Go.ChangeShapes Go.WideShapes Go.ChangeAt Go.RowKit

set_option maxHeartbeats 800000 in
theorem pequalV_any {w : World} {lo lo' : Nat} {A A' : Option Addr} {c c' : Nat} {xs ys : List Vl} (hh : Hdr A xs.length c) (hx : ValsAt w lo w.heap.size A xs) (hh' : Hdr A' ys.length c') (hy : ValsAt w lo' w.heap.size A' ys) :
    Calls Try.prog 54 #[.slice A xs.length c, .slice A' ys.length c'] w (Quiet (decide (xs = ys)) w) := by
  have hl := hh.le
  have hl' := hh'.le
  have HX := Lib.hid hx
  have HY := Lib.hid hy
  clear hx hy hh hh'
  by_cases hlen : xs.length = ys.length
  · have q : (xs.length : Int) = ys.length := by omega
    have hqv := eqValV
    go_enter Try.func54, Try.ntmps54
    go_wp2_with fail
    go_loopw [13] (fun i wr => ∃ k : Nat, k ≤ xs.length ∧ i = .int .i64 k ∧ Hid (xs.take k = ys.take k) ∧ Drawn w wr) (fun i _ => xs.length - (intOf i).toNat)
    case atStart => exact ⟨0, Nat.zero_le _, rfl, Lib.hid rfl, Drawn.refl _⟩
    case round =>
      obtain ⟨k, hk, rfl, HT, hdr⟩ := hrel
      have HDR := Lib.hid hdr
      have hbel := hdr.below
      clear hdr
      by_cases hlt : k < xs.length
      · obtain ⟨b, off, v, rfl, hbk, v0, v1, v2, v3, HE⟩ := (HX.out.keep hbel).elem hlt
        obtain ⟨b', off', u, rfl, hbk', u0, u1, u2, u3, HE'⟩ := (HY.out.keep hbel).elem (i := k) (by omega)
        clear hbel
        have hq0 : (0 : Int) ≤ (k : Int) := Int.natCast_nonneg _
        have hq1 : (k : Int) < (xs.length : Int) := by omega
        have hq2 : (k : Int) < (ys.length : Int) := by omega
        by_cases hxy : v = u
        · have hd : decide (v = u) = true := decide_eq_true hxy
          have HXY := Lib.hid hxy
          clear hxy
          go_wp2_with fail
          go_quiet (fail)
          go_wp2_with fail
          go_roundw
          case rel => exact ⟨k + 1, by omega, by go_num, Lib.hid (take_eq_succ (d := default) HT.out hlt (by omega) (by rw [HE.out, HE'.out]; exact HXY.out)), HDR.out.more _⟩
          case measure => simp [intOf]; omega
        · have hd : decide (v = u) = false := decide_eq_false hxy
          have HN : Hid (xs ≠ ys) := Lib.hid (ne_of_getD (d := default) (k := k) (by rw [HE.out, HE'.out]; exact hxy))
          clear hxy
          go_wp2_with fail
          go_quiet (fail)
          go_wp2_with fail
          go_ret
          exact ⟨ret_bool (by rw [decide_eq_false HN.out]), HDR.out.more _⟩
      · clear hbel
        go_wp2_with fail
        go_ret
        exact ⟨ret_bool (by rw [decide_eq_true]; have := HT.out; rwa [List.take_of_length_le (by omega), List.take_of_length_le (by omega)] at this), HDR.out⟩
  · have q : ¬ (xs.length : Int) = ys.length := by omega
    have HN : Hid (xs ≠ ys) := Lib.hid (fun h => hlen (by rw [h]))
    clear hlen
    go_enter Try.func54, Try.ntmps54
    go_wp2_with fail
    go_ret
    exact ⟨ret_bool (by rw [decide_eq_false HN.out]), Drawn.refl _⟩
set_option maxHeartbeats 1600000 in
theorem same1_any {w : World} {r r' : BkR} (hr : r.Ok w 0 w.heap.size) (hr' : r'.Ok w 0 w.heap.size) :
    Calls Try.prog 53 #[r.val, r'.val] w fun e w' => e = .returned (.bool (decide (r.data = r'.data))) ∧ Below w.heap.size w w' := by
  obtain ⟨s, ty, de, al, ca, cc, vs⟩ := r
  obtain ⟨s', ty', de', al', ca', cc', vs'⟩ := r'
  have hb0 : Below w.heap.size w ((w.alloc (.cells #[.int .i64 s, .int .i64 ty, .int .i64 de, .bool al, .slice ca vs.length cc] 70)).alloc (.cells #[.int .i64 s', .int .i64 ty', .int .i64 de', .bool al', .slice ca' vs'.length cc'] 70)) := ((Below.refl _ _).alloc (Nat.le_refl _) _).alloc (by simp) _
  have HE := Lib.hid (pequalV_any (lo := 0) (lo' := 0) hr.hdr ((hr.keep hb0).vals.more (Nat.le_refl _) hb0.size) hr'.hdr ((hr'.keep hb0).vals.more (Nat.le_refl _) hb0.size))
  have HB := Lib.hid hb0
  clear hb0 hr hr'
  unfold BkR.data BkR.val
  dsimp only
  obtain ⟨dd, hd⟩ : ∃ dd, decide ((⟨s, ty, de, al, vs⟩ : Bk) = ⟨s', ty', de', al', vs'⟩) = dd := ⟨_, rfl⟩
  rw [hd]
  have HD := Lib.hid hd
  clear hd
  by_cases e0 : s = s'
  · subst e0
    by_cases e1 : ty = ty'
    · subst e1
      by_cases e2 : de = de'
      · subst e2
        by_cases e3 : al = al'
        · subst e3
          have HP : Hid (decide (vs = vs') = dd) := Lib.hid (by rw [← HD.out]; simp)
          go_enter Try.func53, Try.ntmps53
          go_wp2_with fail
          refine HE.out.mono ?_
          rintro e w1 ⟨rfl, hq⟩
          have HB1 := Lib.hid (HB.out.trans (hq.below.mono HB.out.size))
          clear hq
          go_wp2_with fail
          go_ret
          exact ⟨ret_bool HP.out, HB1.out⟩
        · have qq : (al == al') = false := by simpa using e3
          have HN : Hid (¬ (⟨s, ty, de, al, vs⟩ : Bk) = ⟨s, ty, de, al', vs'⟩) := Lib.hid (fun h => e3 (by injection h with _ _ _ h _))
          clear e3
          go_enter Try.func53, Try.ntmps53
          go_wp2_with fail
          go_ret
          exact ⟨ret_bool (by rw [← HD.out, decide_eq_false HN.out]), HB.out⟩
      · have qq : (de == de') = false := by simpa using e2
        have HN : Hid (¬ (⟨s, ty, de, al, vs⟩ : Bk) = ⟨s, ty, de', al', vs'⟩) := Lib.hid (fun h => e2 (by injection h with _ _ h _ _))
        clear e2
        go_enter Try.func53, Try.ntmps53
        go_wp2_with fail
        go_ret
        exact ⟨ret_bool (by rw [← HD.out, decide_eq_false HN.out]), HB.out⟩
    · have qq : (ty == ty') = false := by simpa using e1
      have HN : Hid (¬ (⟨s, ty, de, al, vs⟩ : Bk) = ⟨s, ty', de', al', vs'⟩) := Lib.hid (fun h => e1 (by injection h with _ h _ _ _))
      clear e1
      go_enter Try.func53, Try.ntmps53
      go_wp2_with fail
      go_ret
      exact ⟨ret_bool (by rw [← HD.out, decide_eq_false HN.out]), HB.out⟩
  · have qq : (s == s') = false := by simpa using e0
    have HN : Hid (¬ (⟨s, ty, de, al, vs⟩ : Bk) = ⟨s', ty', de', al', vs'⟩) := Lib.hid (fun h => e0 (by injection h with h _ _ _ _))
    clear e0
    go_enter Try.func53, Try.ntmps53
    go_wp2_with fail
    go_ret
    exact ⟨ret_bool (by rw [← HD.out, decide_eq_false HN.out]), HB.out⟩
theorem enters_same : Enters 53 := fun _ _ => by kernel_rfl
set_option maxHeartbeats 800000 in
theorem equalFunc_any {w : World} {A A' : Option Addr} {c c' : Nat} {xs ys : List BkR} (h : MemIn w A c xs) (h' : MemIn w A' c' ys) (F : FuncId) (eg : Enters F)
    (hf : ∀ (W : World) (r r' : BkR), r.Ok W 0 W.heap.size → r'.Ok W 0 W.heap.size → Calls Try.prog F #[r.val, r'.val] W fun e w' => e = .returned (.bool (decide (r.data = r'.data))) ∧ Below W.heap.size W w') :
    Calls Try.prog 52 #[.slice A xs.length c, .slice A' ys.length c', .func (.func F) #[] #[]] w fun e w' => e = .returned (.bool (decide (mmb xs = mmb ys))) ∧ Below w.heap.size w w' := by
  have hl := h.len
  have hl' := h'.len
  unfold Enters at eg
  have HF := Lib.hid hf
  have HX := Lib.hid h
  have HY := Lib.hid h'
  clear h h' hf
  by_cases hlen : xs.length = ys.length
  · have q : (xs.length : Int) = ys.length := by omega
    clear hlen
    go_enter Try.func52, Try.ntmps52
    go_wp2_with fail
    go_loopw [17] (fun i wr => ∃ k : Nat, k ≤ xs.length ∧ i = .int .i64 k ∧ Hid ((mmb xs).take k = (mmb ys).take k) ∧ Below w.heap.size w wr) (fun i _ => xs.length - (intOf i).toNat)
    case atStart => exact ⟨0, Nat.zero_le _, rfl, Lib.hid rfl, Below.refl _ _⟩
    case round =>
      obtain ⟨k, hk, rfl, HT, hbel⟩ := hrel
      by_cases hlt : k < xs.length
      · have hlt' : k < ys.length := by omega
        have ⟨b, off, hA, hbl, c0, c1, c2, c3, c4⟩ := (HX.out.rows.elem hlt).at_
        have ⟨b', off', hA', hbl', c0', c1', c2', c3', c4'⟩ := (HY.out.rows.elem hlt').at_
        subst hA hA'
        have d0 := (hbel.cell (p := ⟨b, off + k * 5, none⟩) hbl).trans c0
        have d1 := (hbel.cell (p := ⟨b, off + k * 5 + 1, none⟩) hbl).trans c1
        have d2 := (hbel.cell (p := ⟨b, off + k * 5 + 2, none⟩) hbl).trans c2
        have d3 := (hbel.cell (p := ⟨b, off + k * 5 + 3, none⟩) hbl).trans c3
        have d4 := (hbel.cell (p := ⟨b, off + k * 5 + 4, none⟩) hbl).trans c4
        have d0' := (hbel.cell (p := ⟨b', off' + k * 5, none⟩) hbl').trans c0'
        have d1' := (hbel.cell (p := ⟨b', off' + k * 5 + 1, none⟩) hbl').trans c1'
        have d2' := (hbel.cell (p := ⟨b', off' + k * 5 + 2, none⟩) hbl').trans c2'
        have d3' := (hbel.cell (p := ⟨b', off' + k * 5 + 3, none⟩) hbl').trans c3'
        have d4' := (hbel.cell (p := ⟨b', off' + k * 5 + 4, none⟩) hbl').trans c4'
        have hr := ((HX.out.row hlt).keep hbel).more (Nat.le_refl _) hbel.size
        have hr' := ((HY.out.row hlt').keep hbel).more (Nat.le_refl _) hbel.size
        have HB := Lib.hid hbel
        clear hbel c0 c1 c2 c3 c4 c0' c1' c2' c3' c4'
        have HNE : Hid ((xs.getD k default).data ≠ (ys.getD k default).data → mmb xs ≠ mmb ys) := Lib.hid (mmb_ne hlt hlt')
        have HEQ : Hid ((xs.getD k default).data = (ys.getD k default).data → (mmb xs).take (k + 1) = (mmb ys).take (k + 1)) := Lib.hid (mmb_take HT.out hlt hlt')
        generalize xs.getD k default = r at d0 d1 d2 d3 d4 hr HNE HEQ
        generalize ys.getD k default = r' at d0' d1' d2' d3' d4' hr' HNE HEQ
        obtain ⟨s, ty, de, al, ca, cc, vs⟩ := r
        obtain ⟨s', ty', de', al', ca', cc', vs'⟩ := r'
        simp only at d0 d1 d2 d3 d4 d0' d1' d2' d3' d4'
        have HR := Lib.hid hr
        have HR' := Lib.hid hr'
        clear hr hr'
        have hz' : b' < wr.heap.size := World.block_lt_of_cell? _ _ d0'
        have hA1 : Below wr.heap.size wr (wr.alloc (.cells #[.int .i64 s, .int .i64 ty, .int .i64 de, .bool al, .slice ca vs.length cc] 70)) := (Below.refl _ _).alloc (Nat.le_refl _) _
        have g0' := (hA1.cell (p := ⟨b', off' + k * 5 , none⟩) hz').trans d0'
        have g1' := (hA1.cell (p := ⟨b', off' + k * 5 + 1, none⟩) hz').trans d1'
        have g2' := (hA1.cell (p := ⟨b', off' + k * 5 + 2, none⟩) hz').trans d2'
        have g3' := (hA1.cell (p := ⟨b', off' + k * 5 + 3, none⟩) hz').trans d3'
        have g4' := (hA1.cell (p := ⟨b', off' + k * 5 + 4, none⟩) hz').trans d4'
        clear hA1 hz'
        have hb0 : Below wr.heap.size wr ((wr.alloc (.cells #[.int .i64 s, .int .i64 ty, .int .i64 de, .bool al, .slice ca vs.length cc] 70)).alloc (.cells #[.int .i64 s', .int .i64 ty', .int .i64 de', .bool al', .slice ca' vs'.length cc'] 70)) := ((Below.refl _ _).alloc (Nat.le_refl _) _).alloc (by simp) _
        have hc := HF.out _ _ _ ((HR.out.keep hb0).more (Nat.le_refl _) hb0.size) ((HR'.out.keep hb0).more (Nat.le_refl _) hb0.size)
        obtain ⟨dd, hd⟩ : ∃ dd, decide ((⟨s, ty, de, al, vs⟩ : Bk) = ⟨s', ty', de', al', vs'⟩) = dd := ⟨_, rfl⟩
        have HD := Lib.hid hd
        unfold BkR.data at hc
        rw [hd] at hc
        have HC := Lib.hid hc
        clear hb0 hc hd
        cases dd with
        | true =>
          go_wp2_with fail
          refine HC.out.mono ?_
          rintro e w1 ⟨rfl, hb1⟩
          have HB1 := Lib.hid (HB.out.trans ((below_new2 hb1).mono HB.out.size))
          clear hb1
          go_wp2_with fail
          go_roundw
          case rel => exact ⟨k + 1, by omega, by go_num, Lib.hid (HEQ.out (of_decide_eq_true HD.out)), HB1.out⟩
          case measure => simp [intOf]; omega
        | false =>
          have HN := Lib.hid (HNE.out (of_decide_eq_false HD.out))
          go_wp2_with fail
          refine HC.out.mono ?_
          rintro e w1 ⟨rfl, hb1⟩
          have HB1 := Lib.hid (HB.out.trans ((below_new2 hb1).mono HB.out.size))
          clear hb1
          go_wp2_with fail
          go_ret
          exact ⟨ret_bool (by rw [decide_eq_false HN.out]), HB1.out⟩
      · have HB := Lib.hid hbel
        clear hbel
        have HPS : Hid (mmb xs = mmb ys) := Lib.hid (by have := HT.out; rwa [List.take_of_length_le (by rw [mmb_len]; omega), List.take_of_length_le (by rw [mmb_len]; omega)] at this)
        go_wp2_with fail
        go_ret
        exact ⟨ret_bool (by rw [decide_eq_true HPS.out]), HB.out⟩
  · have q : ¬ (xs.length : Int) = ys.length := by omega
    have HN : Hid (mmb xs ≠ mmb ys) := Lib.hid (fun h => hlen (by have := congrArg List.length h; rwa [mmb_len, mmb_len] at this))
    clear hlen
    go_enter Try.func52, Try.ntmps52
    go_wp2_with fail
    go_ret
    exact ⟨ret_bool (by rw [decide_eq_false HN.out]), Below.refl _ _⟩
theorem psame_any {w : World} {A A' : Option Addr} {c c' : Nat} {xs ys : List BkR} (h : MemIn w A c xs) (h' : MemIn w A' c' ys) :
    Calls Try.prog 26 #[.slice A xs.length c, .slice A' ys.length c'] w fun e w' => e = .returned (.bool (decide (mmb xs = mmb ys))) ∧ Below w.heap.size w w' := by
  have HC := Lib.hid (equalFunc_any h h' _ enters_same fun W r r' hr hr' => same1_any hr hr')
  clear h h'
  go_enter Try.func26, Try.ntmps26
  go_wp2_with fail
  refine HC.out.mono ?_
  rintro e w1 ⟨rfl, hb1⟩
  have HB1 := Lib.hid hb1
  clear hb1
  go_wp2_with fail
  go_ret
  exact ⟨rfl, HB1.out⟩
end Go.Proofs.Ythddacnnhmcoaaa
