/-
  The program's answers for memories: Load.
-/
import Derived.Test.YthddacnnhmcoaaaMmProg2
import Derived.Test.YthddacnnhmcoaaaMmRef3
namespace Go.Proofs.Ythddacnnhmcoaaa
set_option linter.unusedVariables false
set_option linter.unusedSimpArgs false
open Go.ChangeShapes Go.WideShapes Go.ChangeAt Go.RowKit

theorem asked_zero {m : List Bk} {p : Vl} (h : askedM m p false = 0) : mayM m = true ∧ ptrM m p = 0 := by
  unfold askedM at h
  cases hm : mayM m with
  | false => rw [hm, if_pos rfl] at h; cases h
  | true => rw [hm, if_neg (by simp), if_neg (by simp)] at h; exact ⟨rfl, h⟩
theorem asked_load {m : List Bk} {p : Vl} : loadE m p = if askedM m p false ≠ 0 then askedM m p false else if (blkOf m p).alive = false then 142 else 0 := by
  unfold loadE askedM
  cases hm : mayM m with
  | false => simp
  | true => simp
/-- A struct of five cells, written whole. -/
theorem put5 {w : World} {g : Nat} {t : TypeId} {x0 x1 x2 x3 x4 : Value} (h : Blk w g t #[x0, x1, x2, x3, x4]) (a0 a1 a2 a3 a4 : Value) :
    Blk (((((w.setCell ⟨g, 0, none⟩ a0).setCell ⟨g, 1, none⟩ a1).setCell ⟨g, 2, none⟩ a2).setCell ⟨g, 3, none⟩ a3).setCell ⟨g, 4, none⟩ a4) g t #[a0, a1, a2, a3, a4] := ((((h.put 0 a0).put 1 a1).put 2 a2).put 3 a3).put 4 a4
theorem below5 {B k : Nat} {a w : World} {v0 v1 v2 v3 v4 : Value} (h : Below B a w) : Below B a (((((w.setCell ⟨B + k, 0, none⟩ v0).setCell ⟨B + k, 1, none⟩ v1).setCell ⟨B + k, 2, none⟩ v2).setCell ⟨B + k, 3, none⟩ v3).setCell ⟨B + k, 4, none⟩ v4) := belowSetK (belowSetK (belowSetK (belowSetK (belowSetK h))))
section
variable {w : World} {A : Option Addr} {c : Nat} {rows : List BkR}
set_option maxHeartbeats 800000 in
theorem pload_any (h : MemIn w A c rows) (p : Vl) {e0 : Int} {v0 : Vl} (he : loadE (mmb rows) p = e0) (hv : loadV (mmb rows) p = v0) :
    Calls Try.prog 27 #[.slice A rows.length c, valV p.k p.n p.b p.t] w fun e w' => e = .returned (.tuple #[valV v0.k v0.n v0.b v0.t, .int .i64 e0]) ∧ Below w.heap.size w w' := by
  have hl := h.len
  have hb0 : Below w.heap.size w ((w.alloc (.cells #[.int .u8 p.k, .int .i64 p.n, .int .i64 p.b, .int .i64 p.t] 29)).alloc (.cells #[.int .u8 0, .int .i64 0, .int .i64 0, .int .i64 0] 29)) := ((Below.refl _ _).alloc (Nat.le_refl _) _).alloc (by simp) _
  have HB0 := Lib.hid hb0
  have HX := Lib.hid (h.on hb0)
  have HK := Lib.hid ((Blk.new w 29 #[.int .u8 p.k, .int .i64 p.n, .int .i64 p.b, .int .i64 p.t]).alloc (.cells #[.int .u8 0, .int .i64 0, .int .i64 0, .int .i64 0] 29))
  have HR := Lib.hid (Blk.new2 w (.cells #[.int .u8 p.k, .int .i64 p.n, .int .i64 p.b, .int .i64 p.t] 29) 29 #[.int .u8 0, .int .i64 0, .int .i64 0, .int .i64 0])
  have hE := asked_load (m := mmb rows) (p := p)
  have hV : loadV (mmb rows) p = if e0 = 0 then cellOf (mmb rows) p else default := by unfold loadV; rw [he]
  rw [he] at hE
  rw [hv] at hV
  obtain ⟨pe, hpe⟩ : ∃ pe, askedM (mmb rows) p false = pe := ⟨_, rfl⟩
  have HC := Lib.hid (paskedm_any HX.out p false hpe)
  rw [hpe] at hE
  by_cases h0 : pe = 0
  · subst h0
    obtain ⟨hm, hpp⟩ := asked_zero hpe
    obtain ⟨i, q, r, hs⟩ := spot_of hpp
    have HS := Lib.hid hs
    rw [if_neg (by simp), hs.blk] at hE
    have hlt := hs.lt
    have hqt := hs.qt
    have hok := h.row hs.lt
    rw [hs.get] at hok
    obtain ⟨bb, off, hA, hbk, d0, d1, d2, d3, d4⟩ := (h.rows.elem hs.lt).at_
    rw [hs.get] at d0 d1 d2 d3 d4
    obtain ⟨bv, ov, v, hav, hbv, f0, f1, f2, f3, HE⟩ := hok.vals.elem hs.qt
    obtain ⟨al, hal⟩ : ∃ al, r.alive = al := ⟨_, rfl⟩
    have hal2 : r.data.alive = al := hal
    rw [hal] at d3
    rw [hal2] at hE
    rw [hav] at d4
    have hql := hok.hdr.le
    subst hA
    have hwr : IntKind.i64.wrap (p.b - 1) = (i : Int) := by rw [IntWalk.i64_in _ (by have := hs.bi; omega)]; exact hs.bi
    have hi0 : (0 : Int) ≤ (i : Int) := Int.natCast_nonneg _
    have hi1 : (i : Int) < (rows.length : Int) := by omega
    have hq0 : (0 : Int) ≤ (q : Int) := Int.natCast_nonneg _
    have hq1 : (q : Int) < (r.cells.length : Int) := by omega
    have hbd1 : 1 ≤ p.b := by have := hs.bi; omega
    have hbd2 : p.b ≤ rows.length := by have := hs.bi; omega
    have HWR := Lib.hid hwr
    have hwr3 : IntKind.i64.wrap (i : Int) = (i : Int) := IntWalk.i64_in _ (by omega)
    have hne1 : ¬ w.heap.size + 1 = bb := by omega
    have hne2 : ¬ w.heap.size + 1 = bv := by omega
    have hne3 : ¬ bb = w.heap.size + 1 := by omega
    have hne4 : ¬ bv = w.heap.size + 1 := by omega
    have HROW : Hid (∀ w1, Below w.heap.size w w1 → w1.cell? ⟨bb, off + i * 5, none⟩ = some (.int .i64 r.site) ∧ w1.cell? ⟨bb, off + i * 5 + 1, none⟩ = some (.int .i64 r.type) ∧ w1.cell? ⟨bb, off + i * 5 + 2, none⟩ = some (.int .i64 r.depth) ∧ w1.cell? ⟨bb, off + i * 5 + 3, none⟩ = some (.bool al) ∧ w1.cell? ⟨bb, off + i * 5 + 4, none⟩ = some (.slice (some ⟨bv, ov, none⟩) r.cells.length r.cc)) := Lib.hid fun w1 hb => ⟨(hb.cell (p := ⟨bb, off + i * 5, none⟩) hbk).trans d0, (hb.cell (p := ⟨bb, off + i * 5 + 1, none⟩) hbk).trans d1, (hb.cell (p := ⟨bb, off + i * 5 + 2, none⟩) hbk).trans d2, (hb.cell (p := ⟨bb, off + i * 5 + 3, none⟩) hbk).trans d3, (hb.cell (p := ⟨bb, off + i * 5 + 4, none⟩) hbk).trans d4⟩
    have HVAL : Hid (∀ w1, Below w.heap.size w w1 → w1.cell? ⟨bv, ov + q * 4, none⟩ = some (.int .u8 v.k) ∧ w1.cell? ⟨bv, ov + q * 4 + 1, none⟩ = some (.int .i64 v.n) ∧ w1.cell? ⟨bv, ov + q * 4 + 2, none⟩ = some (.int .i64 v.b) ∧ w1.cell? ⟨bv, ov + q * 4 + 3, none⟩ = some (.int .i64 v.t)) := Lib.hid fun w1 hb => ⟨(hb.cell (p := ⟨bv, ov + q * 4, none⟩) hbv).trans f0, (hb.cell (p := ⟨bv, ov + q * 4 + 1, none⟩) hbv).trans f1, (hb.cell (p := ⟨bv, ov + q * 4 + 2, none⟩) hbv).trans f2, (hb.cell (p := ⟨bv, ov + q * 4 + 3, none⟩) hbv).trans f3⟩
    have HEE := Lib.hid hE
    have HVV := Lib.hid hV
    clear h hb0 hE hV hm hpe hpp hs hok hal hal2 hav hwr he hv d0 d1 d2 d3 d4 f0 f1 f2 f3
    cases al with
    | false =>
      obtain rfl : e0 = 142 := by rw [HEE.out]; rfl
      obtain rfl : v0 = default := by rw [HVV.out]; rfl
      go_enter Try.func27, Try.ntmps27
      go_wp2_with fail
      refine HC.out.mono ?_
      rintro e w1 ⟨rfl, hb⟩
      have k2 : w1.cell? ⟨w.heap.size, 2, none⟩ = some (.int .i64 p.b) := (HK.out.beneath hb).cells 2
      have k3 : w1.cell? ⟨w.heap.size, 3, none⟩ = some (.int .i64 p.t) := (HK.out.beneath hb).cells 3
      rw [HS.out.tq] at k3
      have rb := HR.out.beneath hb
      have hz := rb.lt
      have r0 := rb.cells 0
      have r1 := rb.cells 1
      have r2 := rb.cells 2
      have r3 := rb.cells 3
      have rf := rb.free
      have HB1 := Lib.hid (HB0.out.trans (hb.mono HB0.out.size))
      obtain ⟨g0, g1, g2, g3, g4⟩ := HROW.out w1 HB1.out
      obtain ⟨u0, u1, u2, u3⟩ := HVAL.out w1 HB1.out
      have hbi := HS.out.bi
      have hwr := HWR.out
      have hn5 : ¬ bv = w1.heap.size := by omega
      have hn6 : ¬ w.heap.size = w1.heap.size := by omega
      have hn7 : ¬ w.heap.size + 1 = w1.heap.size := by omega
      have hn8 : ¬ w1.heap.size = bv := by omega
      have hn9 : ¬ w1.heap.size = w.heap.size := by omega
      have hn10 : ¬ w1.heap.size = w.heap.size + 1 := by omega
      have PB := Lib.hid (put4 rb (.int .u8 0) (.int .i64 0) (.int .i64 0) (.int .i64 0))
      clear hb rb
      go_wp2_with fail
      have q0 := (PB.out.alloc (.cells #[.int .i64 r.site, .int .i64 r.type, .int .i64 r.depth, .bool false, .slice (some ⟨bv, ov, none⟩) r.cells.length r.cc] 70)).cells 0
      have q1 := (PB.out.alloc (.cells #[.int .i64 r.site, .int .i64 r.type, .int .i64 r.depth, .bool false, .slice (some ⟨bv, ov, none⟩) r.cells.length r.cc] 70)).cells 1
      have q2 := (PB.out.alloc (.cells #[.int .i64 r.site, .int .i64 r.type, .int .i64 r.depth, .bool false, .slice (some ⟨bv, ov, none⟩) r.cells.length r.cc] 70)).cells 2
      have q3 := (PB.out.alloc (.cells #[.int .i64 r.site, .int .i64 r.type, .int .i64 r.depth, .bool false, .slice (some ⟨bv, ov, none⟩) r.cells.length r.cc] 70)).cells 3
      exact bodyPost_ret (v := .tuple #[valV 0 0 0 0, .int .i64 142]) (by simp [results, Try.results27, go_sem, q0, q1, q2, q3]) rfl ⟨rfl, (below4 HB1.out).alloc (below4 HB1.out).size _⟩
    | true =>
      obtain rfl : e0 = 0 := by rw [HEE.out]; rfl
      obtain rfl : v0 = v := by rw [HVV.out, if_pos rfl, HS.out.cell]; exact HE.out
      go_enter Try.func27, Try.ntmps27
      go_wp2_with fail
      refine HC.out.mono ?_
      rintro e w1 ⟨rfl, hb⟩
      have k2 : w1.cell? ⟨w.heap.size, 2, none⟩ = some (.int .i64 p.b) := (HK.out.beneath hb).cells 2
      have hb2 : Below w1.heap.size w1 (w1.alloc (.cells #[.int .i64 r.site, .int .i64 r.type, .int .i64 r.depth, .bool true, .slice (some ⟨bv, ov, none⟩) r.cells.length r.cc] 70)) := (Below.refl _ _).alloc (Nat.le_refl _) _
      have k3 : (w1.alloc (.cells #[.int .i64 r.site, .int .i64 r.type, .int .i64 r.depth, .bool true, .slice (some ⟨bv, ov, none⟩) r.cells.length r.cc] 70)).cell? ⟨w.heap.size, 3, none⟩ = some (.int .i64 p.t) := ((HK.out.beneath hb).beneath hb2).cells 3
      rw [HS.out.tq] at k3
      have rb := HR.out.beneath hb
      have hz := rb.lt
      have r0 := rb.cells 0
      have r1 := rb.cells 1
      have r2 := rb.cells 2
      have r3 := rb.cells 3
      have rf := rb.free
      have HB1 := Lib.hid (HB0.out.trans (hb.mono HB0.out.size))
      obtain ⟨g0, g1, g2, g3, g4⟩ := HROW.out w1 HB1.out
      obtain ⟨u0, u1, u2, u3⟩ := HVAL.out _ (HB1.out.trans (hb2.mono HB1.out.size))
      have hbi := HS.out.bi
      have hwr := HWR.out
      have hn5 : ¬ bv = w1.heap.size := by omega
      have hn6 : ¬ w.heap.size = w1.heap.size := by omega
      have hn7 : ¬ w.heap.size + 1 = w1.heap.size := by omega
      have hn8 : ¬ w1.heap.size = bv := by omega
      have hn9 : ¬ w1.heap.size = w.heap.size := by omega
      have hn10 : ¬ w1.heap.size = w.heap.size + 1 := by omega
      have PB := Lib.hid (put4 rb (.int .u8 v0.k) (.int .i64 v0.n) (.int .i64 v0.b) (.int .i64 v0.t))
      clear hb rb hb2
      go_wp2_with fail
      have q0 := (PB.out.alloc (.cells #[.int .i64 r.site, .int .i64 r.type, .int .i64 r.depth, .bool true, .slice (some ⟨bv, ov, none⟩) r.cells.length r.cc] 70)).cells 0
      have q1 := (PB.out.alloc (.cells #[.int .i64 r.site, .int .i64 r.type, .int .i64 r.depth, .bool true, .slice (some ⟨bv, ov, none⟩) r.cells.length r.cc] 70)).cells 1
      have q2 := (PB.out.alloc (.cells #[.int .i64 r.site, .int .i64 r.type, .int .i64 r.depth, .bool true, .slice (some ⟨bv, ov, none⟩) r.cells.length r.cc] 70)).cells 2
      have q3 := (PB.out.alloc (.cells #[.int .i64 r.site, .int .i64 r.type, .int .i64 r.depth, .bool true, .slice (some ⟨bv, ov, none⟩) r.cells.length r.cc] 70)).cells 3
      exact bodyPost_ret (v := .tuple #[valV v0.k v0.n v0.b v0.t, .int .i64 0]) (by simp [results, Try.results27, go_sem, q0, q1, q2, q3]) rfl ⟨rfl, (below4 HB1.out).alloc (below4 HB1.out).size _⟩
  · obtain rfl : e0 = pe := by rw [hE, if_pos h0]
    obtain rfl : v0 = default := by rw [hV, if_neg h0]
    clear h hb0 hE hV hpe he hv
    go_enter Try.func27, Try.ntmps27
    go_wp2_with fail
    refine HC.out.mono ?_
    rintro e w1 ⟨rfl, hb⟩
    have rb := HR.out.beneath hb
    have hz := rb.lt
    have r0 := rb.cells 0
    have r1 := rb.cells 1
    have r2 := rb.cells 2
    have r3 := rb.cells 3
    have rf := rb.free
    have HB1 := Lib.hid (HB0.out.trans (hb.mono HB0.out.size))
    have PB := Lib.hid (put4 rb (.int .u8 0) (.int .i64 0) (.int .i64 0) (.int .i64 0))
    clear hb rb
    go_wp2_with fail
    have q0 := PB.out.cells 0
    have q1 := PB.out.cells 1
    have q2 := PB.out.cells 2
    have q3 := PB.out.cells 3
    exact bodyPost_ret (v := .tuple #[valV 0 0 0 0, .int .i64 e0]) (by simp [results, Try.results27, go_sem, q0, q1, q2, q3]) rfl ⟨rfl, below4 HB1.out⟩
end
end Go.Proofs.Ythddacnnhmcoaaa
