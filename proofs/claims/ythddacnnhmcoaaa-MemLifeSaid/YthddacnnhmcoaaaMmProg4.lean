/-
  The program's answers for memories: Depth, Move.
-/
import Derived.Test.YthddacnnhmcoaaaMmProg3
namespace Go.Proofs.Ythddacnnhmcoaaa
set_option linter.unusedVariables false
set_option linter.unusedSimpArgs false
open Go.ChangeShapes Go.WideShapes Go.ChangeAt Go.RowKit

theorem asked_move {m : List Bk} {p : Vl} {d : Int} : moveE m p d = if askedM m p false ≠ 0 then askedM m p false else if d < -p.t ∨ ((blkOf m p).cells.length : Int) - p.t ≤ d then 2 else 0 := by
  unfold moveE askedM
  cases hm : mayM m with
  | false => simp
  | true => simp
section
variable {w : World} {A : Option Addr} {c : Nat} {rows : List BkR}
theorem pdepth_any (h : MemIn w A c rows) (v : Vl) {e0 d0 : Int} (he : depthE (mmb rows) v = e0) (hd : depthM (mmb rows) v = d0) :
    Calls Try.prog 20 #[.slice A rows.length c, valV v.k v.n v.b v.t] w fun e w' => e = .returned (.tuple #[.int .i64 d0, .int .i64 e0]) ∧ Below w.heap.size w w' := by
  have hb0 : Below w.heap.size w (w.alloc (.cells #[.int .u8 v.k, .int .i64 v.n, .int .i64 v.b, .int .i64 v.t] 29)) := (Below.refl _ _).alloc (Nat.le_refl _) _
  have HB0 := Lib.hid hb0
  have HX := Lib.hid (h.on hb0)
  have HK := Lib.hid (Blk.new w 29 #[.int .u8 v.k, .int .i64 v.n, .int .i64 v.b, .int .i64 v.t])
  obtain ⟨mb, hmb⟩ : ∃ mb, mayM (mmb rows) = mb := ⟨_, rfl⟩
  obtain ⟨iv, hiv⟩ : ∃ iv, isV (mmb rows) v = iv := ⟨_, rfl⟩
  have HM := Lib.hid hmb
  have HI := Lib.hid hiv
  have HC := Lib.hid (pcheckm_is HX.out (e0 := if mb then 0 else 8) (by unfold checkM; rw [hmb]))
  unfold depthM at hd
  rw [he] at hd
  unfold depthE at he
  rw [hmb, hiv] at he
  clear h hb0 hmb hiv
  cases mb with
  | false =>
    obtain rfl : e0 = 8 := by rw [← he]; rfl
    obtain rfl : d0 = 0 := by rw [← hd]; rfl
    clear he hd
    go_enter Try.func20, Try.ntmps20
    go_wp2_with fail
    refine HC.out.mono ?_
    rintro e w1 ⟨rfl, hb⟩
    have HB1 := Lib.hid (HB0.out.trans (hb.mono HB0.out.size))
    clear hb
    go_wp2_with fail
    go_ret2
    exact ⟨rfl, HB1.out⟩
  | true =>
    cases iv with
    | false =>
      obtain rfl : e0 = 2 := by rw [← he]; rfl
      obtain rfl : d0 = 0 := by rw [← hd]; rfl
      clear he hd
      go_enter Try.func20, Try.ntmps20
      go_wp2_with fail
      refine HC.out.mono ?_
      rintro e w1 ⟨rfl, hb⟩
      have kb := HK.out.beneath hb
      have k0 := kb.cells 0
      have k1 := kb.cells 1
      have k2 := kb.cells 2
      have k3 := kb.cells 3
      have HB1 := Lib.hid (HB0.out.trans (hb.mono HB0.out.size))
      have HC2 := Lib.hid (pis_is (HX.out.on hb) v HI.out)
      clear hb kb
      go_wp2_with fail
      refine HC2.out.mono ?_
      rintro e w2 ⟨rfl, hb⟩
      have HB2 := Lib.hid (HB1.out.trans (hb.mono HB1.out.size))
      clear hb
      go_wp2_with fail
      go_ret2
      exact ⟨rfl, HB2.out⟩
    | true =>
      obtain rfl : e0 = 0 := by rw [← he]; rfl
      have HD : Hid (deepM (mmb rows) v = d0) := Lib.hid (by rw [← hd]; rfl)
      clear he hd
      go_enter Try.func20, Try.ntmps20
      go_wp2_with fail
      refine HC.out.mono ?_
      rintro e w1 ⟨rfl, hb⟩
      have kb := HK.out.beneath hb
      have k0 := kb.cells 0
      have k1 := kb.cells 1
      have k2 := kb.cells 2
      have k3 := kb.cells 3
      have HK1 := Lib.hid kb
      have HB1 := Lib.hid (HB0.out.trans (hb.mono HB0.out.size))
      have HX1 := Lib.hid (HX.out.on hb)
      have HC2 := Lib.hid (pis_is HX1.out v HI.out)
      clear hb kb
      go_wp2_with fail
      refine HC2.out.mono ?_
      rintro e w2 ⟨rfl, hb⟩
      have kb := HK1.out.beneath hb
      have j0 := kb.cells 0
      have j1 := kb.cells 1
      have j2 := kb.cells 2
      have j3 := kb.cells 3
      have HB2 := Lib.hid (HB1.out.trans (hb.mono HB1.out.size))
      have HC3 := Lib.hid (pdeep_any (HX1.out.on hb) v HI.out)
      rw [HD.out] at HC3
      clear hb kb k0 k1 k2 k3
      go_wp2_with fail
      refine HC3.out.mono ?_
      rintro e w3 ⟨rfl, hb⟩
      have HB3 := Lib.hid (HB2.out.trans (hb.mono HB2.out.size))
      clear hb
      go_wp2_with fail
      go_ret2
      exact ⟨rfl, HB3.out⟩

set_option maxHeartbeats 1600000 in
theorem pmove_any (h : MemIn w A c rows) (p : Vl) (d : Int) {e0 : Int} {v0 : Vl} (he : moveE (mmb rows) p d = e0) (hv : moveV (mmb rows) p d = v0) :
    Calls Try.prog 33 #[.slice A rows.length c, valV p.k p.n p.b p.t, .int .i64 d] w fun e w' => e = .returned (.tuple #[valV v0.k v0.n v0.b v0.t, .int .i64 e0]) ∧ Below w.heap.size w w' := by
  have hl := h.len
  have hb0 : Below w.heap.size w ((w.alloc (.cells #[.int .u8 p.k, .int .i64 p.n, .int .i64 p.b, .int .i64 p.t] 29)).alloc (.cells #[.int .u8 0, .int .i64 0, .int .i64 0, .int .i64 0] 29)) := ((Below.refl _ _).alloc (Nat.le_refl _) _).alloc (by simp) _
  have HB0 := Lib.hid hb0
  have HX := Lib.hid (h.on hb0)
  have HK := Lib.hid ((Blk.new w 29 #[.int .u8 p.k, .int .i64 p.n, .int .i64 p.b, .int .i64 p.t]).alloc (.cells #[.int .u8 0, .int .i64 0, .int .i64 0, .int .i64 0] 29))
  have HR := Lib.hid (Blk.new2 w (.cells #[.int .u8 p.k, .int .i64 p.n, .int .i64 p.b, .int .i64 p.t] 29) 29 #[.int .u8 0, .int .i64 0, .int .i64 0, .int .i64 0])
  have hE := asked_move (m := mmb rows) (p := p) (d := d)
  have hV : moveV (mmb rows) p d = if e0 = 0 then { p with t := p.t + d } else default := by unfold moveV; rw [he]
  rw [he] at hE
  rw [hv] at hV
  obtain ⟨pe, hpe⟩ : ∃ pe, askedM (mmb rows) p false = pe := ⟨_, rfl⟩
  have HC := Lib.hid (paskedm_any HX.out p false hpe)
  rw [hpe] at hE
  by_cases h0 : pe = 0
  · subst h0
    obtain ⟨hm, hpp⟩ := asked_zero hpe
    obtain ⟨i, q, r, hs⟩ := spot_of hpp
    have HS := Lib.hid hs
    rw [if_neg (by simp), hs.blk] at hE
    have hlt := hs.lt
    have hqt := hs.qt
    have hok := h.row hs.lt
    rw [hs.get] at hok
    obtain ⟨bb, off, hA, hbk, d0, d1, d2, d3, d4⟩ := (h.rows.elem hs.lt).at_
    rw [hs.get] at d0 d1 d2 d3 d4
    have hql := hok.hdr.le
    have hE2 : e0 = if d < -(q : Int) ∨ (r.cells.length : Int) - q ≤ d then 2 else 0 := by rw [hE, hs.tq]; rfl
    subst hA
    have hwr : IntKind.i64.wrap (p.b - 1) = (i : Int) := by rw [IntWalk.i64_in _ (by have := hs.bi; omega)]; exact hs.bi
    have hi0 : (0 : Int) ≤ (i : Int) := Int.natCast_nonneg _
    have hi1 : (i : Int) < (rows.length : Int) := by omega
    have hq0 : (0 : Int) ≤ (q : Int) := Int.natCast_nonneg _
    have hq1 : (q : Int) < (r.cells.length : Int) := by omega
    have hbd1 : 1 ≤ p.b := by have := hs.bi; omega
    have hbd2 : p.b ≤ rows.length := by have := hs.bi; omega
    have HWR := Lib.hid hwr
    have HW3 : Hid (IntKind.i64.wrap (i : Int) = (i : Int)) := Lib.hid (IntWalk.i64_in _ (by omega))
    have HW4 : Hid (IntKind.i64.wrap (-(q : Int)) = -(q : Int)) := Lib.hid (IntWalk.i64_in _ (by omega))
    have HW5 : Hid (IntKind.i64.wrap ((r.cells.length : Int) - q) = (r.cells.length : Int) - q) := Lib.hid (IntWalk.i64_in _ (by omega))
    by_cases hbad : d < -(q : Int) ∨ (r.cells.length : Int) - q ≤ d
    · obtain rfl : e0 = 2 := by rw [hE2, if_pos hbad]
      obtain rfl : v0 = default := by rw [hV]; rfl
      clear h hb0 hE hE2 hV hm hpe hpp hs hok hwr he hv d0 d1 d2 d3
      by_cases hb1 : d < -(q : Int)
      all_goals
        go_enter Try.func33, Try.ntmps33
        go_wp2_with fail
        refine HC.out.mono ?_
        rintro e w1 ⟨rfl, hb⟩
        have k2 : w1.cell? ⟨w.heap.size, 2, none⟩ = some (.int .i64 p.b) := (HK.out.beneath hb).cells 2
        have k3 : w1.cell? ⟨w.heap.size, 3, none⟩ = some (.int .i64 p.t) := (HK.out.beneath hb).cells 3
        rw [HS.out.tq] at k3
        have rb := HR.out.beneath hb
        have hz := rb.lt
        have r0 := rb.cells 0
        have r1 := rb.cells 1
        have r2 := rb.cells 2
        have r3 := rb.cells 3
        have rf := rb.free
        have HB1 := Lib.hid (HB0.out.trans (hb.mono HB0.out.size))
        have g4 := (HB1.out.cell (p := ⟨bb, off + i * 5 + 4, none⟩) hbk).trans d4
        have hbi := HS.out.bi
        have hw3 := HW3.out
        have hw4 := HW4.out
        have hw5 := HW5.out
        have hwr2 := HWR.out
        have PB := Lib.hid (fun n => put4 (rb.drewN n) (.int .u8 0) (.int .i64 0) (.int .i64 0) (.int .i64 0))
        clear hb rb d4
      · have hd1 : decide (d < -(q : Int)) = true := decide_eq_true hb1
        clear hbad
        go_wp2_with fail
        go_quiet (fail)
        go_wp2_with fail
        have q0 := fun n => (PB.out n).cells 0
        have q1 := fun n => (PB.out n).cells 1
        have q2 := fun n => (PB.out n).cells 2
        have q3 := fun n => (PB.out n).cells 3
        exact bodyPost_ret (v := .tuple #[valV 0 0 0 0, .int .i64 2]) (by simp [results, Try.results33, go_sem, q0, q1, q2, q3]) rfl ⟨rfl, below4 (belowDrewN HB1.out _)⟩
      · have hd1 : decide (d < -(q : Int)) = false := decide_eq_false (by omega)
        have hb2 : (r.cells.length : Int) - q ≤ d := by omega
        have hd2 : decide ((r.cells.length : Int) - q ≤ d) = true := decide_eq_true hb2
        clear hbad
        go_wp2_with fail
        go_quiet (fail)
        go_wp2_with fail
        have q0 := fun n => (PB.out n).cells 0
        have q1 := fun n => (PB.out n).cells 1
        have q2 := fun n => (PB.out n).cells 2
        have q3 := fun n => (PB.out n).cells 3
        exact bodyPost_ret (v := .tuple #[valV 0 0 0 0, .int .i64 2]) (by simp [results, Try.results33, go_sem, q0, q1, q2, q3]) rfl ⟨rfl, below4 (belowDrewN HB1.out _)⟩
    · obtain rfl : e0 = 0 := by rw [hE2, if_neg hbad]
      obtain rfl : v0 = { p with t := (q : Int) + d } := by rw [hV, if_pos rfl, hs.tq]
      have hb1 : -(q : Int) ≤ d := by omega
      have hb2 : d < (r.cells.length : Int) - q := by omega
      clear h hb0 hE hE2 hV hm hpe hpp hs hok hwr he hv d0 d1 d2 d3 hbad
      go_enter Try.func33, Try.ntmps33
      go_wp2_with fail
      refine HC.out.mono ?_
      rintro e w1 ⟨rfl, hb⟩
      have kb := HK.out.beneath hb
      have k0 := kb.cells 0
      have k1 := kb.cells 1
      have k2 : w1.cell? ⟨w.heap.size, 2, none⟩ = some (.int .i64 p.b) := (HK.out.beneath hb).cells 2
      have k3 : w1.cell? ⟨w.heap.size, 3, none⟩ = some (.int .i64 p.t) := (HK.out.beneath hb).cells 3
      rw [HS.out.tq] at k3
      have kf := kb.free
      have rb := HR.out.beneath hb
      have hz := rb.lt
      have r0 := rb.cells 0
      have r1 := rb.cells 1
      have r2 := rb.cells 2
      have r3 := rb.cells 3
      have rf := rb.free
      have HB1 := Lib.hid (HB0.out.trans (hb.mono HB0.out.size))
      have g4 := (HB1.out.cell (p := ⟨bb, off + i * 5 + 4, none⟩) hbk).trans d4
      have hbi := HS.out.bi
      have hw3 := HW3.out
      have hw4 := HW4.out
      have hw5 := HW5.out
      have hwr2 := HWR.out
      have hd1 : decide (d < -(q : Int)) = false := decide_eq_false (by omega)
      have hd2 : decide ((r.cells.length : Int) - q ≤ d) = false := decide_eq_false (by omega)
      have PB := Lib.hid (fun n => put4 ((rb.drewN n).far (p := ⟨w.heap.size, 3, none⟩) (by simp) (.int .i64 ((q : Int) + d))) (.int .u8 p.k) (.int .i64 p.n) (.int .i64 p.b) (.int .i64 ((q : Int) + d)))
      have HBE : Hid (∀ n, Below w.heap.size w ((w1.drewN n).setCell ⟨w.heap.size, 3, none⟩ (.int .i64 ((q : Int) + d)))) := Lib.hid fun n => belowSet0 (belowDrewN HB1.out n)
      clear hb rb kb d4
      go_wp2_with fail
      go_quiet (fail)
      go_wp2_with fail
      have q0 := fun n => (PB.out n).cells 0
      have q1 := fun n => (PB.out n).cells 1
      have q2 := fun n => (PB.out n).cells 2
      have q3 := fun n => (PB.out n).cells 3
      exact bodyPost_ret (v := .tuple #[valV p.k p.n p.b ((q : Int) + d), .int .i64 0]) (by simp [results, Try.results33, go_sem, q0, q1, q2, q3]) rfl ⟨rfl, below4 (HBE.out _)⟩
  · obtain rfl : e0 = pe := by rw [hE, if_pos h0]
    obtain rfl : v0 = default := by rw [hV, if_neg h0]
    clear h hb0 hE hV hpe he hv
    go_enter Try.func33, Try.ntmps33
    go_wp2_with fail
    refine HC.out.mono ?_
    rintro e w1 ⟨rfl, hb⟩
    have rb := HR.out.beneath hb
    have hz := rb.lt
    have r0 := rb.cells 0
    have r1 := rb.cells 1
    have r2 := rb.cells 2
    have r3 := rb.cells 3
    have rf := rb.free
    have HB1 := Lib.hid (HB0.out.trans (hb.mono HB0.out.size))
    have PB := Lib.hid (put4 rb (.int .u8 0) (.int .i64 0) (.int .i64 0) (.int .i64 0))
    clear hb rb
    go_wp2_with fail
    have q0 := PB.out.cells 0
    have q1 := PB.out.cells 1
    have q2 := PB.out.cells 2
    have q3 := PB.out.cells 3
    exact bodyPost_ret (v := .tuple #[valV 0 0 0 0, .int .i64 e0]) (by simp [results, Try.results33, go_sem, q0, q1, q2, q3]) rfl ⟨rfl, below4 HB1.out⟩
end
end Go.Proofs.Ythddacnnhmcoaaa
