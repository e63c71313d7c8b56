/-
  The reference's answers for memories: what is loaded, how pointers move, how deep they point, whether life holds.
-/
import Derived.Test.YthddacnnhmcoaaaMmRef1
import Derived.Deep.RegionHeld3
namespace Go.Proofs.Ythddacnnhmcoaaa
set_option linter.unusedVariables false
set_option linter.unusedSimpArgs false
open Go.ChangeShapes Go.WideShapes Go.ChangeAt Go.RowKit

/-- A pointer to a cell that is there: its row, its cell. -/
structure Spot (rows : List BkR) (p : Vl) (i q : Nat) (r : BkR) : Prop where
  bi : p.b - 1 = (i : Int)
  tq : p.t = (q : Int)
  lt : i < rows.length
  qt : q < r.cells.length
  get : rows.getD i default = r
  blk : blkOf (mmb rows) p = r.data
  cell : cellOf (mmb rows) p = r.cells.getD q default
theorem spot_of {rows : List BkR} {p : Vl} (h : ptrM (mmb rows) p = 0) : ∃ i q r, Spot rows p i q r := by
  obtain ⟨h1, h2, h3, h4, h5⟩ := ptr_in h
  rw [mmb_len] at h3
  obtain ⟨i, hi⟩ : ∃ i : Nat, p.b - 1 = i := ⟨(p.b - 1).toNat, by omega⟩
  obtain ⟨q, hq⟩ : ∃ q : Nat, p.t = q := ⟨p.t.toNat, by omega⟩
  have hil : i < rows.length := by omega
  have hb := blk_row hi hil
  rw [hb] at h5
  have h5' : p.t < ((rows.getD i default).cells.length : Int) := h5
  refine ⟨i, q, _, hi, hq, hil, by omega, rfl, hb, ?_⟩
  unfold cellOf
  rw [hb, hq, Int.toNat_natCast]
  rfl
/-- A struct of four cells, written whole. -/
theorem put4 {w : World} {g : Nat} {t : TypeId} {x0 x1 x2 x3 : Value} (h : Blk w g t #[x0, x1, x2, x3]) (a0 a1 a2 a3 : Value) :
    Blk ((((w.setCell ⟨g, 0, none⟩ a0).setCell ⟨g, 1, none⟩ a1).setCell ⟨g, 2, none⟩ a2).setCell ⟨g, 3, none⟩ a3) g t #[a0, a1, a2, a3] := (((h.put 0 a0).put 1 a1).put 2 a2).put 3 a3
theorem below4 {B k : Nat} {a w : World} {v0 v1 v2 v3 : Value} (h : Below B a w) : Below B a ((((w.setCell ⟨B + k, 0, none⟩ v0).setCell ⟨B + k, 1, none⟩ v1).setCell ⟨B + k, 2, none⟩ v2).setCell ⟨B + k, 3, none⟩ v3) := belowSetK (belowSetK (belowSetK (belowSetK h)))
section
variable {w : World} {A : Option Addr} {c : Nat} {rows : List BkR}
set_option maxHeartbeats 1600000 in
/-- On a memory that may be. -/
theorem rloaded_any (h : MemIn w A c rows) (p : Vl) {e0 : Int} {v0 : Vl} (he : loadE (mmb rows) p = e0) (hv : loadV (mmb rows) p = v0) (hm : mayM (mmb rows) = true) :
    Calls Try.prog 56 #[.slice A rows.length c, valV p.k p.n p.b p.t] w fun e w' => e = .returned (.tuple #[valV v0.k v0.n v0.b v0.t, .int .i64 e0]) ∧ Below w.heap.size w w' := by
  have hl := h.len
  have hb0 : Below w.heap.size w ((w.alloc (.cells #[.int .u8 p.k, .int .i64 p.n, .int .i64 p.b, .int .i64 p.t] 29)).alloc (.cells #[.int .u8 0, .int .i64 0, .int .i64 0, .int .i64 0] 29)) := ((Below.refl _ _).alloc (Nat.le_refl _) _).alloc (by simp) _
  have HB0 := Lib.hid hb0
  have HX := Lib.hid (h.on hb0)
  have HK := Lib.hid ((Blk.new w 29 #[.int .u8 p.k, .int .i64 p.n, .int .i64 p.b, .int .i64 p.t]).alloc (.cells #[.int .u8 0, .int .i64 0, .int .i64 0, .int .i64 0] 29))
  have HR := Lib.hid (Blk.new2 w (.cells #[.int .u8 p.k, .int .i64 p.n, .int .i64 p.b, .int .i64 p.t] 29) 29 #[.int .u8 0, .int .i64 0, .int .i64 0, .int .i64 0])
  have hE : loadE (mmb rows) p = if ptrM (mmb rows) p ≠ 0 then ptrM (mmb rows) p else if (blkOf (mmb rows) p).alive = false then 142 else 0 := by unfold loadE; rw [if_neg (by rw [hm]; simp)]
  have hV : loadV (mmb rows) p = if e0 = 0 then cellOf (mmb rows) p else default := by unfold loadV; rw [he]
  rw [he] at hE
  rw [hv] at hV
  obtain ⟨pe, hpe⟩ : ∃ pe, ptrM (mmb rows) p = pe := ⟨_, rfl⟩
  have HC := Lib.hid (rpointer_is HX.out p hpe)
  rw [hpe] at hE
  by_cases h0 : pe = 0
  · subst h0
    obtain ⟨i, q, r, hs⟩ := spot_of hpe
    have HS := Lib.hid hs
    rw [if_neg (by simp), hs.blk] at hE
    have hlt := hs.lt
    have hqt := hs.qt
    have hok := h.row hs.lt
    rw [hs.get] at hok
    obtain ⟨bb, off, hA, hbk, d0, d1, d2, d3, d4⟩ := (h.rows.elem hs.lt).at_
    rw [hs.get] at d0 d1 d2 d3 d4
    obtain ⟨bv, ov, v, hav, hbv, f0, f1, f2, f3, HE⟩ := hok.vals.elem hs.qt
    obtain ⟨al, hal⟩ : ∃ al, r.alive = al := ⟨_, rfl⟩
    have hal2 : r.data.alive = al := hal
    rw [hal] at d3
    rw [hal2] at hE
    rw [hav] at d4
    have hql := hok.hdr.le
    subst hA
    have hwr : IntKind.i64.wrap (p.b - 1) = (i : Int) := by rw [IntWalk.i64_in _ (by have := hs.bi; omega)]; exact hs.bi
    have hi0 : (0 : Int) ≤ (i : Int) := Int.natCast_nonneg _
    have hi1 : (i : Int) < (rows.length : Int) := by omega
    have hq0 : (0 : Int) ≤ (q : Int) := Int.natCast_nonneg _
    have hq1 : (q : Int) < (r.cells.length : Int) := by omega
    have hbd1 : 1 ≤ p.b := by have := hs.bi; omega
    have hbd2 : p.b ≤ rows.length := by have := hs.bi; omega
    have HWR := Lib.hid hwr
    have hne1 : ¬ w.heap.size + 1 = bb := by omega
    have hne2 : ¬ w.heap.size + 1 = bv := by omega
    have hne3 : ¬ bb = w.heap.size + 1 := by omega
    have hne4 : ¬ bv = w.heap.size + 1 := by omega
    cases al with
    | false =>
      obtain rfl : e0 = 142 := by rw [hE]; rfl
      obtain rfl : v0 = default := by rw [hV]; rfl
      clear h hb0 hE hV hm hpe hs hok hal hal2 hav hwr he hv d0 d1 d2 d4 f0 f1 f2 f3
      go_enter Try.func56, Try.ntmps56
      go_wp2_with fail
      refine HC.out.mono ?_
      rintro e w1 ⟨rfl, hb⟩
      have k2 : w1.cell? ⟨w.heap.size, 2, none⟩ = some (.int .i64 p.b) := (HK.out.beneath hb).cells 2
      have rb := HR.out.beneath hb
      have hz := rb.lt
      have r0 := rb.cells 0
      have r1 := rb.cells 1
      have r2 := rb.cells 2
      have r3 := rb.cells 3
      have rf := rb.free
      have g3 := ((HB0.out.trans (hb.mono HB0.out.size)).cell (p := ⟨bb, off + i * 5 + 3, none⟩) hbk).trans d3
      have hbi := HS.out.bi
      have HB1 := Lib.hid (HB0.out.trans (hb.mono HB0.out.size))
      have PB := Lib.hid (put4 rb (.int .u8 0) (.int .i64 0) (.int .i64 0) (.int .i64 0))
      clear hb rb d3
      go_wp2_with fail
      have q0 := PB.out.cells 0
      have q1 := PB.out.cells 1
      have q2 := PB.out.cells 2
      have q3 := PB.out.cells 3
      exact bodyPost_ret (v := .tuple #[valV 0 0 0 0, .int .i64 142]) (by simp [results, Try.results56, go_sem, q0, q1, q2, q3]) rfl ⟨rfl, below4 HB1.out⟩
    | true =>
      obtain rfl : e0 = 0 := by rw [hE]; rfl
      obtain rfl : v0 = v := by rw [hV, if_pos rfl, hs.cell]; exact HE.out
      clear h hb0 hE hV hm hpe hs hok hal hal2 hav hwr he hv d0 d1 d2
      go_enter Try.func56, Try.ntmps56
      go_wp2_with fail
      refine HC.out.mono ?_
      rintro e w1 ⟨rfl, hb⟩
      have k2 : w1.cell? ⟨w.heap.size, 2, none⟩ = some (.int .i64 p.b) := (HK.out.beneath hb).cells 2
      have k3 : w1.cell? ⟨w.heap.size, 3, none⟩ = some (.int .i64 p.t) := (HK.out.beneath hb).cells 3
      have rb := HR.out.beneath hb
      have hz := rb.lt
      have r0 := rb.cells 0
      have r1 := rb.cells 1
      have r2 := rb.cells 2
      have r3 := rb.cells 3
      have rf := rb.free
      have g3 := ((HB0.out.trans (hb.mono HB0.out.size)).cell (p := ⟨bb, off + i * 5 + 3, none⟩) hbk).trans d3
      have g4 := ((HB0.out.trans (hb.mono HB0.out.size)).cell (p := ⟨bb, off + i * 5 + 4, none⟩) hbk).trans d4
      have u0 := ((HB0.out.trans (hb.mono HB0.out.size)).cell (p := ⟨bv, ov + q * 4, none⟩) hbv).trans f0
      have u1 := ((HB0.out.trans (hb.mono HB0.out.size)).cell (p := ⟨bv, ov + q * 4 + 1, none⟩) hbv).trans f1
      have u2 := ((HB0.out.trans (hb.mono HB0.out.size)).cell (p := ⟨bv, ov + q * 4 + 2, none⟩) hbv).trans f2
      have u3 := ((HB0.out.trans (hb.mono HB0.out.size)).cell (p := ⟨bv, ov + q * 4 + 3, none⟩) hbv).trans f3
      have hbi := HS.out.bi
      have htq := HS.out.tq
      have HB1 := Lib.hid (HB0.out.trans (hb.mono HB0.out.size))
      have PB := Lib.hid (put4 rb (.int .u8 v0.k) (.int .i64 v0.n) (.int .i64 v0.b) (.int .i64 v0.t))
      clear hb rb d3 d4 f0 f1 f2 f3
      go_wp2_with fail
      have hwr2 := HWR.out
      have hwr3 : IntKind.i64.wrap (i : Int) = (i : Int) := IntWalk.i64_in _ (by omega)
      go_region_held3 (fun w' => w'.cell? ⟨w.heap.size, 2, none⟩ = some (.int .i64 p.b) ∧ w'.cell? ⟨w.heap.size, 3, none⟩ = some (.int .i64 p.t) ∧ w'.cell? ⟨bb, off + i * 5 + 4, none⟩ = some (.slice (some ⟨bv, ov, none⟩) r.cells.length r.cc) ∧ w'.cell? ⟨bv, ov + q * 4, none⟩ = some (.int .u8 v0.k) ∧ w'.cell? ⟨bv, ov + q * 4 + 1, none⟩ = some (.int .i64 v0.n) ∧ w'.cell? ⟨bv, ov + q * 4 + 2, none⟩ = some (.int .i64 v0.b) ∧ w'.cell? ⟨bv, ov + q * 4 + 3, none⟩ = some (.int .i64 v0.t)) (go_keep) (fail)
      all_goals
        go_wp2_with fail
        have q0 := PB.out.cells 0
        have q1 := PB.out.cells 1
        have q2 := PB.out.cells 2
        have q3 := PB.out.cells 3
        exact bodyPost_ret (v := .tuple #[valV v0.k v0.n v0.b v0.t, .int .i64 0]) (by simp [results, Try.results56, go_sem, q0, q1, q2, q3]) rfl ⟨rfl, (below4 HB1.out).drew⟩
  · obtain rfl : e0 = pe := by rw [hE, if_pos h0]
    obtain rfl : v0 = default := by rw [hV, if_neg h0]
    clear h hb0 hE hV hm hpe he hv
    go_enter Try.func56, Try.ntmps56
    go_wp2_with fail
    refine HC.out.mono ?_
    rintro e w1 ⟨rfl, hb⟩
    have rb := HR.out.beneath hb
    have hz := rb.lt
    have r0 := rb.cells 0
    have r1 := rb.cells 1
    have r2 := rb.cells 2
    have r3 := rb.cells 3
    have rf := rb.free
    have HB1 := Lib.hid (HB0.out.trans (hb.mono HB0.out.size))
    have PB := Lib.hid (put4 rb (.int .u8 0) (.int .i64 0) (.int .i64 0) (.int .i64 0))
    clear hb rb
    go_wp2_with fail
    have q0 := PB.out.cells 0
    have q1 := PB.out.cells 1
    have q2 := PB.out.cells 2
    have q3 := PB.out.cells 3
    exact bodyPost_ret (v := .tuple #[valV 0 0 0 0, .int .i64 e0]) (by simp [results, Try.results56, go_sem, q0, q1, q2, q3]) rfl ⟨rfl, below4 HB1.out⟩
theorem load_bad {m : List Bk} {p : Vl} (hm : mayM m = false) : loadE m p = 8 ∧ loadV m p = default := by
  have : loadE m p = 8 := by unfold loadE; rw [if_pos hm]
  exact ⟨this, by unfold loadV; rw [this]; rfl⟩
set_option maxHeartbeats 800000 in
theorem rload_any (h : MemIn w A c rows) (p : Vl) {e0 : Int} {v0 : Vl} (he : loadE (mmb rows) p = e0) (hv : loadV (mmb rows) p = v0) :
    Calls Try.prog 28 #[.slice A rows.length c, valV p.k p.n p.b p.t] w fun e w' => e = .returned (.tuple #[valV v0.k v0.n v0.b v0.t, .int .i64 e0]) ∧ Below w.heap.size w w' := by
  have hb0 : Below w.heap.size w ((w.alloc (.cells #[.int .u8 p.k, .int .i64 p.n, .int .i64 p.b, .int .i64 p.t] 29)).alloc (.cells #[.int .u8 0, .int .i64 0, .int .i64 0, .int .i64 0] 29)) := ((Below.refl _ _).alloc (Nat.le_refl _) _).alloc (by simp) _
  have HB0 := Lib.hid hb0
  have HX := Lib.hid (h.on hb0)
  have HK := Lib.hid ((Blk.new w 29 #[.int .u8 p.k, .int .i64 p.n, .int .i64 p.b, .int .i64 p.t]).alloc (.cells #[.int .u8 0, .int .i64 0, .int .i64 0, .int .i64 0] 29))
  have HR := Lib.hid (Blk.new2 w (.cells #[.int .u8 p.k, .int .i64 p.n, .int .i64 p.b, .int .i64 p.t] 29) 29 #[.int .u8 0, .int .i64 0, .int .i64 0, .int .i64 0])
  have HE := Lib.hid he
  have HV := Lib.hid hv
  obtain ⟨mb, hmb⟩ : ∃ mb, mayM (mmb rows) = mb := ⟨_, rfl⟩
  have HM := Lib.hid hmb
  clear h hb0 he hv hmb
  have HC := Lib.hid (rmaym_is HX.out HM.out)
  cases mb with
  | false =>
    obtain ⟨h1, h2⟩ := load_bad (p := p) HM.out
    obtain rfl : e0 = 8 := HE.out.symm.trans h1
    obtain rfl : v0 = default := HV.out.symm.trans h2
    clear h1 h2
    go_enter Try.func28, Try.ntmps28
    go_wp2_with fail
    refine HC.out.mono ?_
    rintro e w1 ⟨rfl, hb⟩
    have rb := HR.out.beneath hb
    have hz := rb.lt
    have r0 := rb.cells 0
    have r1 := rb.cells 1
    have r2 := rb.cells 2
    have r3 := rb.cells 3
    have rf := rb.free
    have HB1 := Lib.hid (HB0.out.trans (hb.mono HB0.out.size))
    have PB := Lib.hid (put4 rb (.int .u8 0) (.int .i64 0) (.int .i64 0) (.int .i64 0))
    clear hb rb
    go_wp2_with fail
    have q0 := PB.out.cells 0
    have q1 := PB.out.cells 1
    have q2 := PB.out.cells 2
    have q3 := PB.out.cells 3
    exact bodyPost_ret (v := .tuple #[valV 0 0 0 0, .int .i64 8]) (by simp [results, Try.results28, go_sem, q0, q1, q2, q3]) rfl ⟨rfl, below4 HB1.out⟩
  | true =>
    go_enter Try.func28, Try.ntmps28
    go_wp2_with fail
    refine HC.out.mono ?_
    rintro e w1 ⟨rfl, hb⟩
    have kb := HK.out.beneath hb
    have k0 := kb.cells 0
    have k1 := kb.cells 1
    have k2 := kb.cells 2
    have k3 := kb.cells 3
    have HR1 := Lib.hid (HR.out.beneath hb)
    have HB1 := Lib.hid (HB0.out.trans (hb.mono HB0.out.size))
    have HC2 := Lib.hid (rloaded_any (HX.out.on hb) p HE.out HV.out HM.out)
    clear hb kb
    go_wp2_with fail
    refine HC2.out.mono ?_
    rintro e w2 ⟨rfl, hb⟩
    have rb := HR1.out.beneath hb
    have hz := rb.lt
    have r0 := rb.cells 0
    have r1 := rb.cells 1
    have r2 := rb.cells 2
    have r3 := rb.cells 3
    have rf := rb.free
    have HB2 := Lib.hid (HB1.out.trans (hb.mono HB1.out.size))
    have PB := Lib.hid (put4 rb (.int .u8 v0.k) (.int .i64 v0.n) (.int .i64 v0.b) (.int .i64 v0.t))
    clear hb rb
    go_wp2_with fail
    have q0 := PB.out.cells 0
    have q1 := PB.out.cells 1
    have q2 := PB.out.cells 2
    have q3 := PB.out.cells 3
    exact bodyPost_ret (v := .tuple #[valV v0.k v0.n v0.b v0.t, .int .i64 e0]) (by simp [results, Try.results28, go_sem, q0, q1, q2, q3]) rfl ⟨rfl, below4 HB2.out⟩
end
end Go.Proofs.Ythddacnnhmcoaaa
