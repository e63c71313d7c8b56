/-
  The program's answers for memories: Free.
-/
import Derived.Test.YthddacnnhmcoaaaMmProg4
import Derived.Test.YthddacnnhmcoaaaMmTwinP
import Derived.Test.YthddacnnhmcoaaaMmDo2
namespace Go.Proofs.Ythddacnnhmcoaaa
set_option linter.unusedVariables false
set_option linter.unusedSimpArgs false
open Go.ChangeShapes Go.WideShapes Go.ChangeAt Go.RowKit

theorem asked_free {m : List Bk} {p : Vl} : freeE m p = if askedM m p false ≠ 0 then askedM m p false else if 0 < (blkOf m p).depth ∨ 0 < p.t then 143 else if (blkOf m p).alive = false then 142 else 0 := by
  unfold freeE askedM
  cases hm : mayM m with
  | false => simp
  | true => simp
section
variable {w : World} {A : Option Addr} {c : Nat} {rows : List BkR}
set_option maxHeartbeats 1600000 in
theorem pfree_any (h : MemFew w A c rows) (p : Vl) {e0 : Int} {m0 : List Bk} (he : freeE (mmb rows) p = e0) (hv : freeM (mmb rows) p = m0) :
    Calls Try.prog 31 #[.slice A rows.length c, valV p.k p.n p.b p.t] w (SomeMemE m0 e0 w) := by
  have hl := h.mem.len
  have hb0 : Below w.heap.size w (w.alloc (.cells #[.int .u8 p.k, .int .i64 p.n, .int .i64 p.b, .int .i64 p.t] 29)) := (Below.refl _ _).alloc (Nat.le_refl _) _
  have HB0 := Lib.hid hb0
  have HX := Lib.hid (h.on hb0)
  have HK := Lib.hid (Blk.new w 29 #[.int .u8 p.k, .int .i64 p.n, .int .i64 p.b, .int .i64 p.t])
  have hE := asked_free (m := mmb rows) (p := p)
  have hV : freeM (mmb rows) p = if e0 = 0 then (mmb rows).set (p.b - 1).toNat (deadB (blkOf (mmb rows) p)) else [] := by unfold freeM; rw [he]
  rw [he] at hE
  rw [hv] at hV
  obtain ⟨pe, hpe⟩ : ∃ pe, askedM (mmb rows) p false = pe := ⟨_, rfl⟩
  have HC := Lib.hid (paskedm_any HX.out.mem p false hpe)
  rw [hpe] at hE
  by_cases h0 : pe = 0
  · subst h0
    obtain ⟨hm, hpp⟩ := asked_zero hpe
    obtain ⟨i, q, r, hs⟩ := spot_of hpp
    have HS := Lib.hid hs
    rw [if_neg (by simp), hs.blk] at hE
    rw [hs.blk] at hV
    have hlt := hs.lt
    obtain ⟨bb, off, hA, hbk, d0, d1, d2, d3, d4⟩ := (h.mem.rows.elem hs.lt).at_
    rw [hs.get] at d0 d1 d2 d3 d4
    obtain ⟨al, hal⟩ : ∃ al, r.alive = al := ⟨_, rfl⟩
    have hal2 : r.data.alive = al := hal
    have hdd : r.data.depth = r.depth := rfl
    rw [hal] at d3
    rw [hal2, hdd, hs.tq] at hE
    subst hA
    have hwr : IntKind.i64.wrap (p.b - 1) = (i : Int) := by rw [IntWalk.i64_in _ (by have := hs.bi; omega)]; exact hs.bi
    have hwr3 : IntKind.i64.wrap (i : Int) = (i : Int) := IntWalk.i64_in _ (by omega)
    have hi0 : (0 : Int) ≤ (i : Int) := Int.natCast_nonneg _
    have hi1 : (i : Int) < (rows.length : Int) := by omega
    have hbd1 : 1 ≤ p.b := by have := hs.bi; omega
    have hbd2 : p.b ≤ rows.length := by have := hs.bi; omega
    have HWR := Lib.hid hwr
    have HROW : Hid (∀ w1, Below w.heap.size w w1 → w1.cell? ⟨bb, off + i * 5, none⟩ = some (.int .i64 r.site) ∧ w1.cell? ⟨bb, off + i * 5 + 1, none⟩ = some (.int .i64 r.type) ∧ w1.cell? ⟨bb, off + i * 5 + 2, none⟩ = some (.int .i64 r.depth) ∧ w1.cell? ⟨bb, off + i * 5 + 3, none⟩ = some (.bool al) ∧ w1.cell? ⟨bb, off + i * 5 + 4, none⟩ = some (.slice r.ca r.cells.length r.cc)) := Lib.hid fun w1 hb => ⟨(hb.cell (p := ⟨bb, off + i * 5, none⟩) hbk).trans d0, (hb.cell (p := ⟨bb, off + i * 5 + 1, none⟩) hbk).trans d1, (hb.cell (p := ⟨bb, off + i * 5 + 2, none⟩) hbk).trans d2, (hb.cell (p := ⟨bb, off + i * 5 + 3, none⟩) hbk).trans d3, (hb.cell (p := ⟨bb, off + i * 5 + 4, none⟩) hbk).trans d4⟩
    have HV := Lib.hid hV
    have HGET := Lib.hid hs.get
    have HEE := Lib.hid hE
    clear h hb0 hE hV hm hpe hpp hs hal hal2 hdd he hv hwr d0 d1 d2 d3 d4
    by_cases hbad : 0 < r.depth ∨ 0 < (q : Int)
    · obtain rfl : e0 = 143 := by rw [HEE.out, if_pos hbad]
      obtain rfl : m0 = [] := by rw [HV.out]; rfl
      by_cases hb1 : 0 < r.depth
      · clear hbad
        go_enter Try.func31, Try.ntmps31
        go_wp2_with fail
        refine HC.out.mono ?_
        rintro e w1 ⟨rfl, hb⟩
        have k2 : w1.cell? ⟨w.heap.size, 2, none⟩ = some (.int .i64 p.b) := (HK.out.beneath hb).cells 2
        have hz := (HK.out.beneath hb).lt
        have hb2 : Below w1.heap.size w1 (w1.alloc (.cells #[.int .i64 r.site, .int .i64 r.type, .int .i64 r.depth, .bool al, .slice r.ca r.cells.length r.cc] 70)) := (Below.refl _ _).alloc (Nat.le_refl _) _
        have k3 : (w1.alloc (.cells #[.int .i64 r.site, .int .i64 r.type, .int .i64 r.depth, .bool al, .slice r.ca r.cells.length r.cc] 70)).cell? ⟨w.heap.size, 3, none⟩ = some (.int .i64 p.t) := ((HK.out.beneath hb).beneath hb2).cells 3
        rw [HS.out.tq] at k3
        have HB1 := Lib.hid (HB0.out.trans (hb.mono HB0.out.size))
        obtain ⟨g0, g1, g2, g3, g4⟩ := HROW.out w1 HB1.out
        have HB2 := Lib.hid (HB1.out.trans (hb2.mono HB1.out.size))
        have HK2 := Lib.hid ((HK.out.beneath hb).beneath hb2)
        have HX2 := Lib.hid ((HX.out.on hb).on hb2)
        have hbi := HS.out.bi
        have hwr := HWR.out
        have hn6 : ¬ w.heap.size = w1.heap.size := by omega
        have hn9 : ¬ w1.heap.size = w.heap.size := by omega
        clear hb hb2
        go_wp2_with fail
        go_ret2
        exact SomeMemE.none (B := 0) HB2.out
      · have hq1 : 0 < (q : Int) := by omega
        clear hbad
        go_enter Try.func31, Try.ntmps31
        go_wp2_with fail
        refine HC.out.mono ?_
        rintro e w1 ⟨rfl, hb⟩
        have k2 : w1.cell? ⟨w.heap.size, 2, none⟩ = some (.int .i64 p.b) := (HK.out.beneath hb).cells 2
        have hz := (HK.out.beneath hb).lt
        have hb2 : Below w1.heap.size w1 (w1.alloc (.cells #[.int .i64 r.site, .int .i64 r.type, .int .i64 r.depth, .bool al, .slice r.ca r.cells.length r.cc] 70)) := (Below.refl _ _).alloc (Nat.le_refl _) _
        have k3 : (w1.alloc (.cells #[.int .i64 r.site, .int .i64 r.type, .int .i64 r.depth, .bool al, .slice r.ca r.cells.length r.cc] 70)).cell? ⟨w.heap.size, 3, none⟩ = some (.int .i64 p.t) := ((HK.out.beneath hb).beneath hb2).cells 3
        rw [HS.out.tq] at k3
        have HB1 := Lib.hid (HB0.out.trans (hb.mono HB0.out.size))
        obtain ⟨g0, g1, g2, g3, g4⟩ := HROW.out w1 HB1.out
        have HB2 := Lib.hid (HB1.out.trans (hb2.mono HB1.out.size))
        have HK2 := Lib.hid ((HK.out.beneath hb).beneath hb2)
        have HX2 := Lib.hid ((HX.out.on hb).on hb2)
        have hbi := HS.out.bi
        have hwr := HWR.out
        have hn6 : ¬ w.heap.size = w1.heap.size := by omega
        have hn9 : ¬ w1.heap.size = w.heap.size := by omega
        clear hb hb2
        go_wp2_with fail
        go_ret2
        exact SomeMemE.none (B := 0) HB2.out
    · have hE2 := HEE.out
      rw [if_neg hbad] at hE2
      have hb1 : r.depth ≤ 0 := by omega
      have hq0 : ¬ 0 < (q : Int) := by omega
      have HE2 := Lib.hid hE2
      clear hE2 hbad
      cases al with
      | false =>
        obtain rfl : e0 = 142 := by rw [HE2.out]; rfl
        obtain rfl : m0 = [] := by rw [HV.out]; rfl
        go_enter Try.func31, Try.ntmps31
        go_wp2_with fail
        refine HC.out.mono ?_
        rintro e w1 ⟨rfl, hb⟩
        have k2 : w1.cell? ⟨w.heap.size, 2, none⟩ = some (.int .i64 p.b) := (HK.out.beneath hb).cells 2
        have hz := (HK.out.beneath hb).lt
        have hb2 : Below w1.heap.size w1 (w1.alloc (.cells #[.int .i64 r.site, .int .i64 r.type, .int .i64 r.depth, .bool false, .slice r.ca r.cells.length r.cc] 70)) := (Below.refl _ _).alloc (Nat.le_refl _) _
        have k3 : (w1.alloc (.cells #[.int .i64 r.site, .int .i64 r.type, .int .i64 r.depth, .bool false, .slice r.ca r.cells.length r.cc] 70)).cell? ⟨w.heap.size, 3, none⟩ = some (.int .i64 p.t) := ((HK.out.beneath hb).beneath hb2).cells 3
        rw [HS.out.tq] at k3
        have HB1 := Lib.hid (HB0.out.trans (hb.mono HB0.out.size))
        obtain ⟨g0, g1, g2, g3, g4⟩ := HROW.out w1 HB1.out
        have HB2 := Lib.hid (HB1.out.trans (hb2.mono HB1.out.size))
        have HK2 := Lib.hid ((HK.out.beneath hb).beneath hb2)
        have HX2 := Lib.hid ((HX.out.on hb).on hb2)
        have hbi := HS.out.bi
        have hwr := HWR.out
        have hn6 : ¬ w.heap.size = w1.heap.size := by omega
        have hn9 : ¬ w1.heap.size = w.heap.size := by omega
        clear hb hb2
        go_wp2_with fail
        go_ret2
        exact SomeMemE.none (B := 0) HB2.out
      | true =>
        obtain rfl : e0 = 0 := by rw [HE2.out]; rfl
        have HV2 : Hid (m0 = (mmb rows).set i (deadB r.data)) := Lib.hid (by rw [HV.out, if_pos rfl, HS.out.bi, Int.toNat_natCast])
        go_enter Try.func31, Try.ntmps31
        go_wp2_with fail
        refine HC.out.mono ?_
        rintro e w1 ⟨rfl, hb⟩
        have k2 : w1.cell? ⟨w.heap.size, 2, none⟩ = some (.int .i64 p.b) := (HK.out.beneath hb).cells 2
        have hz := (HK.out.beneath hb).lt
        have hb2 : Below w1.heap.size w1 (w1.alloc (.cells #[.int .i64 r.site, .int .i64 r.type, .int .i64 r.depth, .bool true, .slice r.ca r.cells.length r.cc] 70)) := (Below.refl _ _).alloc (Nat.le_refl _) _
        have k3 : (w1.alloc (.cells #[.int .i64 r.site, .int .i64 r.type, .int .i64 r.depth, .bool true, .slice r.ca r.cells.length r.cc] 70)).cell? ⟨w.heap.size, 3, none⟩ = some (.int .i64 p.t) := ((HK.out.beneath hb).beneath hb2).cells 3
        rw [HS.out.tq] at k3
        have HB1 := Lib.hid (HB0.out.trans (hb.mono HB0.out.size))
        obtain ⟨g0, g1, g2, g3, g4⟩ := HROW.out w1 HB1.out
        have HB2 := Lib.hid (HB1.out.trans (hb2.mono HB1.out.size))
        have HK2 := Lib.hid ((HK.out.beneath hb).beneath hb2)
        have HX2 := Lib.hid ((HX.out.on hb).on hb2)
        have hbi := HS.out.bi
        have hwr := HWR.out
        have hn6 : ¬ w.heap.size = w1.heap.size := by omega
        have hn9 : ¬ w1.heap.size = w.heap.size := by omega
        clear hb hb2
        have HT := Lib.hid (ptwinm_any HX2.out)
        go_wp2_with fail
        refine HT.out.mono ?_
        rintro e w2 ⟨v2, rows2, rfl, hown2, hm2, hb⟩
        obtain ⟨A2, c2, rfl, hmo⟩ := hown2.own
        have hl2 : rows2.length = rows.length := by have := congrArg List.length hm2; rwa [mmb_len, mmb_len] at this
        have j2 : w2.cell? ⟨w.heap.size, 2, none⟩ = some (.int .i64 p.b) := (HK2.out.beneath hb).cells 2
        have hd2 : (rows2.getD i default).data = r.data := by rw [← mmb_at (by omega), hm2, mmb_at hlt, HGET.out]
        obtain ⟨g, hA2, hlo2, hg2, hcell, hfro, hput⟩ := hmo.putRow (i := i) (j := 3) (by omega) (by omega) { rows2.getD i default with alive := false } rfl rfl rfl (fun q hq hne => by
          match q, hq with
          | 0, _ => rfl
          | 1, _ => rfl
          | 2, _ => rfl
          | 3, _ => exact absurd rfl hne
          | 4, _ => rfl)
        subst hA2
        have hsz2 := HB2.out.size
        have HP := Lib.hid (hput.more hsz2)
        have HB3 := Lib.hid ((HB2.out.trans (hb.mono hsz2)).setCell (p := ⟨g, i * 5 + 3, none⟩) (by show w.heap.size ≤ g; omega) (.bool false))
        have HD2 := Lib.hid hd2
        have HM2 := Lib.hid hm2
        have hlt2 : i < rows2.length := by omega
        have HL2 := Lib.hid hl2
        rw [← hl2] at hbd2 hi1
        clear hown2 hmo hm2 hb k2 k3 g0 g1 g2 g3 g4 hd2 hput hl2 hsz2 hn6 hn9
        generalize hcv : (rows2.getD i default).cell 3 = cv at hcell
        clear hcv
        go_wp2_with fail
        go_ret2
        refine ⟨some ⟨g, 0, none⟩, c2, rows2.set i { rows2.getD i default with alive := false }, by rw [List.length_set]; rfl, HP.out, ?_, HB3.out⟩
        rw [mmb_set, HM2.out, HV2.out]
        congr 1
        show (⟨_, _, _, false, _⟩ : Bk) = deadB r.data
        rw [← HD2.out]; rfl
  · obtain rfl : e0 = pe := by rw [hE, if_pos h0]
    obtain rfl : m0 = [] := by rw [hV, if_neg h0]
    clear h hb0 hE hV hpe he hv
    go_enter Try.func31, Try.ntmps31
    go_wp2_with fail
    refine HC.out.mono ?_
    rintro e w1 ⟨rfl, hb⟩
    have HB1 := Lib.hid (HB0.out.trans (hb.mono HB0.out.size))
    clear hb
    go_wp2_with fail
    go_ret2
    exact SomeMemE.none (B := 0) HB1.out
end
end Go.Proofs.Ythddacnnhmcoaaa
