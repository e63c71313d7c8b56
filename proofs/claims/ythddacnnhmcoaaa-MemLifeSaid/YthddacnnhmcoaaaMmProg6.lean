/-
  The program's answers for memories: Store.
-/
import Derived.Test.YthddacnnhmcoaaaMmProg5
import Derived.Test.YthddacnnhmcoaaaMmDo3
namespace Go.Proofs.Ythddacnnhmcoaaa
set_option linter.unusedVariables false
set_option linter.unusedSimpArgs false
open Go.ChangeShapes Go.WideShapes Go.ChangeAt Go.RowKit

section
variable {w : World} {A : Option Addr} {c : Nat} {rows : List BkR}
set_option maxHeartbeats 3200000 in
/-- On a memory that may be. -/
theorem pstored_any (h : MemFew w A c rows) (p v : Vl) {e0 : Int} {m0 : List Bk} (he : storeE (mmb rows) p v = e0) (hv : storeM (mmb rows) p v = m0) (hm : mayM (mmb rows) = true) :
    Calls Try.prog 29 #[.slice A rows.length c, valV p.k p.n p.b p.t, valV v.k v.n v.b v.t] w (SomeMemE m0 e0 w) := by
  have hl := h.mem.len
  have hbx := Boxed.start w p v
  have HBX := Lib.hid hbx
  have HX0 := Lib.hid h
  have HX := Lib.hid (h.on hbx.below)
  have hE := store_eq (p := p) (v := v) hm
  have hV : storeM (mmb rows) p v = if e0 = 0 then (mmb rows).set (p.b - 1).toNat (putC (blkOf (mmb rows) p) p.t.toNat v) else [] := by unfold storeM; rw [he]
  rw [he] at hE
  rw [hv] at hV
  obtain ⟨pe, hpe⟩ : ∃ pe, ptrM (mmb rows) p = pe := ⟨_, rfl⟩
  obtain ⟨iv, hiv⟩ : ∃ iv, isV (mmb rows) v = iv := ⟨_, rfl⟩
  have hca : pe = 2 → Calls Try.prog 55 #[.slice A rows.length c, valV p.k p.n p.b p.t, .bool true] _ _ := fun e => paskedm_any HX.out.mem p true (e0 := 2) (by unfold askedM; rw [if_neg (by rw [hm]; simp), hpe, e, if_neg (by decide)])
  have hcb : pe = 0 ∨ pe = 140 → Calls Try.prog 55 #[.slice A rows.length c, valV p.k p.n p.b p.t, .bool true] _ _ := fun e => paskedm_any HX.out.mem p true (e0 := 0) (by
    unfold askedM; rw [if_neg (by rw [hm]; simp), hpe]
    rcases e with e | e
    · rw [e]; simp
    · rw [e]; simp)
  have HPE := Lib.hid hpe
  have HIV := Lib.hid hiv
  rw [hpe, hiv] at hE
  obtain ⟨a0, a1, a2, a3⟩ := hbx.p
  obtain ⟨b0, b1, b2, b3⟩ := hbx.v
  have hpv := ptr_vals (mmb rows) p
  rw [hpe] at hpv
  clear h hbx hm he hv
  by_cases h2 : pe = 2
  · subst h2
    obtain rfl : e0 = 2 := by rw [hE, if_pos (.inl rfl)]
    obtain rfl : m0 = [] := by rw [hV]; rfl
    have HC := Lib.hid (hca rfl)
    clear hE hV hpe hiv hpv hca hcb
    go_enter Try.func29, Try.ntmps29
    go_wp2_with fail
    refine HC.out.mono ?_
    rintro e w1 ⟨rfl, hb⟩
    have HB1 := Lib.hid (HBX.out.on hb)
    clear hb
    go_wp2_with fail
    go_ret2
    exact SomeMemE.none (B := 0) HB1.out.below
  have hpv2 : pe = 0 ∨ pe = 140 := by omega
  have HC := Lib.hid (hcb hpv2)
  clear hca hcb
  cases iv with
  | false =>
    obtain rfl : e0 = 2 := by rw [hE, if_pos (.inr (.inl rfl))]
    obtain rfl : m0 = [] := by rw [hV]; rfl
    clear hE hV hpe hiv hpv
    rcases hpv2 with rfl | rfl
    all_goals
      clear h2
      go_enter Try.func29, Try.ntmps29
      go_wp2_with fail
      refine HC.out.mono ?_
      rintro e w1 ⟨rfl, hb⟩
      have HB1 := Lib.hid (HBX.out.on hb)
      have HX1 := Lib.hid (HX.out.on hb)
      obtain ⟨j0, j1, j2, j3⟩ := HB1.out.v
      obtain ⟨i0, i1, i2, i3⟩ := HB1.out.p
      have hz := HB1.out.kv.lt
      clear hb
      go_wp2_with fail
      refine wp_region_off (by kernel_rfl) (by kernel_rfl) ?_
      rintro W rfl
      have oj0 := fun m => Off.at j0 m
      have oj1 := fun m => Off.at j1 m
      have oj2 := fun m => Off.at j2 m
      have oj3 := fun m => Off.at j3 m
      repeat (go_big_quiet_step ((go_at_call 44; exact Calls.off (pis_is (HX1.out.mem.on (Off.below _)) v HIV.out))))
      refine wpQuiet_nil ?_
      intro w2 hw2
      obtain ⟨⟨w2, hb2⟩, rfl⟩ := hw2
      have HB2 := Lib.hid (HB1.out.on hb2)
      go_wp2_with fail
      go_ret2
      exact SomeMemE.none (B := 0) HB2.out.below
  | true =>
    rcases hpv2 with rfl | rfl
    · obtain ⟨i, q, r, hs⟩ := spot_of hpe
      have HS := Lib.hid hs
      rw [hs.cell] at hE
      rw [hs.blk] at hE hV
      have hlt := hs.lt
      have hqt := hs.qt
      have hok := HX0.out.mem.row hs.lt
      rw [hs.get] at hok
      obtain ⟨bb, off, hA, hbk, d0, d1, d2, d3, d4⟩ := (HX0.out.mem.rows.elem hs.lt).at_
      rw [hs.get] at d0 d1 d2 d3 d4
      obtain ⟨bv, ov, u, hav, hbv, f0, f1, f2, f3, HE⟩ := hok.vals.elem hs.qt
      rw [HE.out] at hE
      rw [hav] at d4
      have hql := hok.hdr.le
      subst hA
      have hbi := hs.bi
      have HWR : Hid (IntKind.i64.wrap (p.b - 1) = (i : Int)) := Lib.hid (by rw [IntWalk.i64_in _ (by omega)]; exact hbi)
      have HW3 : Hid (IntKind.i64.wrap (i : Int) = (i : Int)) := Lib.hid (IntWalk.i64_in _ (by omega))
      have hi0 : (0 : Int) ≤ (i : Int) := Int.natCast_nonneg _
      have hi1 : (i : Int) < (rows.length : Int) := by omega
      have hq0 : (0 : Int) ≤ (q : Int) := Int.natCast_nonneg _
      have hq1 : (q : Int) < (r.cells.length : Int) := by omega
      have hbd1 : 1 ≤ p.b := by omega
      have hbd2 : p.b ≤ rows.length := by omega
      have hp0 : 0 < p.b := by omega
      have hpz : (p.b == 0) = false := by simp; omega
      have HGET := Lib.hid hs.get
      have HHOK := Lib.hid hok
      have HFEW : Hid (r.cells.length ≤ 1000) := Lib.hid (HX0.out.each r (by rw [← hs.get]; exact mem_getD hs.lt))
      clear hbi hpe hs hok hpv h2 hiv
      obtain ⟨dk, hdk⟩ : ∃ dk, decide (u.k ≠ v.k) = dk := ⟨_, rfl⟩
      have hneq : (u.k != v.k) = dk := by rw [← hdk]; by_cases e : u.k = v.k <;> simp [e]
      have HBODY : Hid (∀ w1, Boxed w w1 p v → w1.cell? ⟨bb, off + i * 5 + 4, none⟩ = some (.slice (some ⟨bv, ov, none⟩) r.cells.length r.cc) ∧ w1.cell? ⟨bv, ov + q * 4, none⟩ = some (.int .u8 u.k)) := Lib.hid fun w1 hb => ⟨(hb.below.cell (p := ⟨bb, off + i * 5 + 4, none⟩) hbk).trans d4, (hb.below.cell (p := ⟨bv, ov + q * 4, none⟩) hbv).trans f0⟩
      have HROW : Hid (∀ w1, Boxed w w1 p v → w1.cell? ⟨bb, off + i * 5 + 3, none⟩ = some (.bool r.alive) ∧ w1.cell? ⟨bb, off + i * 5 + 2, none⟩ = some (.int .i64 r.depth)) := Lib.hid fun w1 hb => ⟨(hb.below.cell (p := ⟨bb, off + i * 5 + 3, none⟩) hbk).trans d3, (hb.below.cell (p := ⟨bb, off + i * 5 + 2, none⟩) hbk).trans d2⟩
      clear d0 d1 d2 d3 d4 f0 f1 f2 f3
      have HEa : Hid (dk = true → e0 = 2) := Lib.hid (fun h => by rw [hE, if_pos (.inr (.inr ⟨rfl, of_decide_eq_true (hdk.trans h)⟩))])
      have HEb : Hid (dk = false → e0 = if r.data.alive = false then 142 else if r.data.depth < deepM (mmb rows) v then 144 else 0) := Lib.hid (fun h => by
        have h3 := hdk.trans h
        rw [hE, if_neg (by
          rintro (h | h | h)
          · omega
          · cases h
          · exact of_decide_eq_false h3 h.2), if_neg (by simp)])
      have HHV := Lib.hid hV
      clear hE hV hdk
      go_enter Try.func29, Try.ntmps29
      go_wp2_with fail
      refine HC.out.mono ?_
      rintro e w1 ⟨rfl, hb⟩
      have HB1 := Lib.hid (HBX.out.on hb)
      have HX1 := Lib.hid (HX.out.on hb)
      obtain ⟨j0, j1, j2, j3⟩ := HB1.out.v
      obtain ⟨i0, i1, i2, i3⟩ := HB1.out.p
      rw [HS.out.tq] at i3
      obtain ⟨g4, g5⟩ := HBODY.out w1 HB1.out
      have hz := HB1.out.kv.lt
      have hbi := HS.out.bi
      have hwr := HWR.out
      have hw3 := HW3.out
      clear hb a0 a1 a2 a3 b0 b1 b2 b3
      go_wp2_with fail
      cases dk with
      | true =>
        obtain rfl : e0 = 2 := HEa.out (by first | rfl | trivial)
        obtain rfl : m0 = [] := by rw [HHV.out]; rfl
        refine wp_region_off (by kernel_rfl) (by kernel_rfl) ?_
        rintro W rfl
        have oj0 := fun m => Off.at j0 m
        have oj1 := fun m => Off.at j1 m
        have oj2 := fun m => Off.at j2 m
        have oj3 := fun m => Off.at j3 m
        have oi2 := fun m => Off.at i2 m
        have oi3 := fun m => Off.at i3 m
        have og4 := fun m => Off.at g4 m
        have og5 := fun m => Off.at g5 m
        repeat (go_big_quiet_step ((go_at_call 44; exact Calls.off (pis_is (HX1.out.mem.on (Off.below _)) v HIV.out))))
        refine wpQuiet_nil ?_
        intro w2 hw2
        obtain ⟨⟨w2, hb2⟩, rfl⟩ := hw2
        have HB2 := Lib.hid (HB1.out.on hb2)
        go_wp2_with fail
        go_ret2
        exact SomeMemE.none (B := 0) HB2.out.below
      | false =>
        have hE2 := HEb.out (by first | rfl | trivial)
        have HE2 := Lib.hid hE2
        clear hE2
        refine wp_region_off (by kernel_rfl) (by kernel_rfl) ?_
        rintro W rfl
        have oj0 := fun m => Off.at j0 m
        have oj1 := fun m => Off.at j1 m
        have oj2 := fun m => Off.at j2 m
        have oj3 := fun m => Off.at j3 m
        have oi2 := fun m => Off.at i2 m
        have oi3 := fun m => Off.at i3 m
        have og4 := fun m => Off.at g4 m
        have og5 := fun m => Off.at g5 m
        repeat (go_big_quiet_step ((go_at_call 44; exact Calls.off (pis_is (HX1.out.mem.on (Off.below _)) v HIV.out))))
        refine wpQuiet_nil ?_
        intro w2 hw2
        obtain ⟨⟨w2, hb2⟩, rfl⟩ := hw2
        have HB2 := Lib.hid (HB1.out.on hb2)
        have HX2 := Lib.hid (HX1.out.on hb2)
        clear hb2 oj0 oj1 oj2 oj3 oi2 oi3 og4 og5 j0 j1 j2 j3 i0 i1 i2 i3 g4 g5 hz
        obtain ⟨j0, j1, j2, j3⟩ := HB2.out.v
        obtain ⟨i0, i1, i2, i3⟩ := HB2.out.p
        rw [HS.out.tq] at i3
        obtain ⟨g4, g5⟩ := HBODY.out w2 HB2.out
        obtain ⟨g3, g2⟩ := HROW.out w2 HB2.out
        have hz := HB2.out.kv.lt
        obtain ⟨al, hal⟩ : ∃ al, r.alive = al := ⟨_, rfl⟩
        rw [hal] at g3
        have hal2 : r.data.alive = al := hal
        have HAL := Lib.hid hal2
        clear hal hal2
        cases al with
        | false =>
          obtain rfl : e0 = 142 := by rw [HE2.out, if_pos HAL.out]
          obtain rfl : m0 = [] := by rw [HHV.out]; rfl
          go_wp2_with fail
          go_ret2
          exact SomeMemE.none (B := 0) HB2.out.below
        | true =>
          obtain ⟨dv, hdv⟩ : ∃ dv, deepM (mmb rows) v = dv := ⟨_, rfl⟩
          have hE3 : e0 = if r.depth < dv then 144 else 0 := by
            have h1 := HE2.out
            rw [if_neg (by rw [HAL.out]; simp), hdv] at h1
            exact h1
          have HDV := Lib.hid hdv
          have HE3 := Lib.hid hE3
          clear hdv hE3
          go_wp2_with fail
          refine wp_region_off (by kernel_rfl) (by kernel_rfl) ?_
          rintro W rfl
          have oj0 := fun m => Off.at j0 m
          have oj1 := fun m => Off.at j1 m
          have oj2 := fun m => Off.at j2 m
          have oj3 := fun m => Off.at j3 m
          have oi2 := fun m => Off.at i2 m
          have og2 := fun m => Off.at g2 m
          have HDC := Lib.hid (fun (m : Off w2) => Calls.off (pdeep_any (HX2.out.mem.on m.below) v HIV.out))
          rw [HDV.out] at HDC
          by_cases hlt2 : r.depth < dv
          · have hdd : decide (r.depth < dv) = true := decide_eq_true hlt2
            obtain rfl : e0 = 144 := by rw [HE3.out, if_pos hlt2]
            obtain rfl : m0 = [] := by rw [HHV.out]; rfl
            repeat (go_big_quiet_step ((go_at_call 45; exact HDC.out _)))
            refine wpQuiet_nil ?_
            intro w3 hw3
            obtain ⟨⟨w3, hb3⟩, rfl⟩ := hw3
            have HB3 := Lib.hid (HB2.out.on hb3)
            go_wp2_with fail
            go_ret2
            exact SomeMemE.none (B := 0) HB3.out.below
          · have hdd : decide (r.depth < dv) = false := decide_eq_false hlt2
            obtain rfl : e0 = 0 := by rw [HE3.out, if_neg hlt2]
            have HM0 : Hid (m0 = (mmb rows).set i (putC r.data q v)) := Lib.hid (by rw [HHV.out, if_pos rfl, HS.out.bi, HS.out.tq, Int.toNat_natCast, Int.toNat_natCast])
            repeat (go_big_quiet_step ((go_at_call 45; exact HDC.out _)))
            refine wpQuiet_nil ?_
            intro w3 hw3
            obtain ⟨⟨w3, hb3⟩, rfl⟩ := hw3
            have HB3 := Lib.hid (HB2.out.on hb3)
            have HT := Lib.hid (ptwinm_any (HX2.out.on hb3))
            clear hb3 oj0 oj1 oj2 oj3 oi2 og2 hdd hlt2
            go_wp2_with fail
            refine HT.out.mono ?_
            rintro e w4 ⟨v4, rows4, rfl, hown4, hm4, hb⟩
            obtain ⟨A4, c4, rfl, hmo⟩ := hown4.own
            have hl4 : rows4.length = rows.length := by have := congrArg List.length hm4; rwa [mmb_len, mmb_len] at this
            have hd4 : (rows4.getD i default).data = r.data := by rw [← mmb_at (by omega), hm4, mmb_at hlt, HGET.out]
            have hc4 : (rows4.getD i default).cells = r.cells := congrArg Bk.cells hd4
            have hqt4 : q < (rows4.getD i default).cells.length := by rw [hc4]; exact hqt
            obtain ⟨b5, o5, hca5, hlo5, hb5, hcell5, hfro5, htb5, hput5⟩ := hmo.putWhole (i := i) (k := q) (by omega) hqt4 v
            obtain ⟨g, hA5, hlog, htg⟩ := hmo.top (by omega)
            obtain ⟨bx, offx, hAx, hbx2, y0, y1, y2, y3, y4⟩ := (hmo.mem.rows.elem (i := i) (by omega)).at_
            rw [hA5] at hAx
            injection hAx with hAx
            injection hAx with ex1 ex2 _
            subst ex1 ex2
            subst hA5
            rw [hca5, Nat.zero_add] at y4
            have HB4 := Lib.hid (HB3.out.on hb)
            have hsz4 := HB3.out.below.size
            have hsz5 := HB3.out.kv.lt
            have HP := Lib.hid (hput5.more (by omega : w.heap.size ≤ w3.heap.size))
            have HBE := Lib.hid ((((HB4.out.below.setCell (p := ⟨b5, o5 + q * 4 + 0, none⟩) (by show w.heap.size ≤ b5; omega) (.int .u8 v.k)).setCell (p := ⟨b5, o5 + q * 4 + 1, none⟩) (by show w.heap.size ≤ b5; omega) (.int .i64 v.n)).setCell (p := ⟨b5, o5 + q * 4 + 2, none⟩) (by show w.heap.size ≤ b5; omega) (.int .i64 v.b)).setCell (p := ⟨b5, o5 + q * 4 + 3, none⟩) (by show w.heap.size ≤ b5; omega) (.int .i64 v.t))
            have hgb : ¬ b5 = g := htb5.ne htg (by decide)
            have hgb' : ¬ g = b5 := fun e => hgb e.symm
            have hn1 : ¬ b5 = w.heap.size := by omega
            have hn2 : ¬ b5 = w.heap.size + 1 := by omega
            have hn3 : ¬ w.heap.size = b5 := by omega
            have hn4 : ¬ w.heap.size + 1 = b5 := by omega
            have x0 := hcell5 0 (by omega)
            have x1 := hcell5 1 (by omega)
            have x2 := hcell5 2 (by omega)
            have x3 := hcell5 3 (by omega)
            rw [Nat.add_zero] at x0
            generalize ((rows4.getD i default).cells.getD q default).cell 0 = z0 at x0
            generalize ((rows4.getD i default).cells.getD q default).cell 1 = z1 at x1
            generalize ((rows4.getD i default).cells.getD q default).cell 2 = z2 at x2
            generalize ((rows4.getD i default).cells.getD q default).cell 3 = z3 at x3
            have HD4 := Lib.hid hd4
            have HM4 := Lib.hid hm4
            have HL4 := Lib.hid hl4
            have hq4 : (q : Int) < ((rows4.getD i default).cells.length : Int) := by omega
            have hi4 : (i : Int) < (rows4.length : Int) := by omega
            have hcc4 := (hmo.mem.row (i := i) (by omega)).hdr.le
            clear j0 j1 j2 j3 i0 i1 i2 i3 g4 g5 g3 g2 hz hown4 hmo hm4 hb hl4 hd4 hc4 hqt4 hcell5 hput5 y0 y1 y2 y3 hi1 hq1
            obtain ⟨j0, j1, j2, j3⟩ := HB4.out.v
            obtain ⟨i0, i1, i2, i3⟩ := HB4.out.p
            rw [HS.out.tq] at i3
            have HDR : Hid (({ rows4.getD i default with cells := (rows4.getD i default).cells.set q v } : BkR).data = putC r.data q v) := Lib.hid (by rw [← HD4.out]; rfl)
            generalize hr4 : rows4.getD i default = r4 at hca5 HP hq4 hcc4 y4 HD4 HDR
            clear hr4
            go_wp2_with fail
            go_region_held3 (fun w' => w'.cell? ⟨w.heap.size + 1, 0, none⟩ = some (.int .u8 v.k) ∧ w'.cell? ⟨w.heap.size + 1, 1, none⟩ = some (.int .i64 v.n) ∧ w'.cell? ⟨w.heap.size + 1, 2, none⟩ = some (.int .i64 v.b) ∧ w'.cell? ⟨w.heap.size + 1, 3, none⟩ = some (.int .i64 v.t) ∧ w'.cell? ⟨w.heap.size, 2, none⟩ = some (.int .i64 p.b) ∧ w'.cell? ⟨w.heap.size, 3, none⟩ = some (.int .i64 q) ∧ w'.cell? ⟨g, i * 5 + 4, none⟩ = some (.slice (some ⟨b5, o5, none⟩) r4.cells.length r4.cc)) (go_keep) (fail)
            all_goals
              go_wp2_with fail
              go_ret2
              refine ⟨some ⟨g, 0, none⟩, c4, rows4.set i { r4 with cells := r4.cells.set q v }, by rw [List.length_set]; rfl, HP.out.on (Below.refl _ _).drew, ?_, HBE.out.drew⟩
              rw [mmb_set, HM4.out, HM0.out, HDR.out]
    · obtain rfl : e0 = 140 := by
        rw [hE, if_neg (by
          rintro (h | h | h)
          · omega
          · cases h
          · exact absurd h.1 (by decide)), if_pos (by decide)]
      obtain rfl : m0 = [] := by rw [hV]; rfl
      have HP0 := Lib.hid (ptr_140 hpe).2.2
      clear hE hV hpe hiv hpv h2
      go_enter Try.func29, Try.ntmps29
      go_wp2_with fail
      refine HC.out.mono ?_
      rintro e w1 ⟨rfl, hb⟩
      have HB1 := Lib.hid (HBX.out.on hb)
      have HX1 := Lib.hid (HX.out.on hb)
      obtain ⟨j0, j1, j2, j3⟩ := HB1.out.v
      obtain ⟨i0, i1, i2, i3⟩ := HB1.out.p
      rw [HP0.out] at i2
      clear hb a0 a1 a2 a3 b0 b1 b2 b3
      go_wp2_with fail
      refine wp_region_off (by kernel_rfl) (by kernel_rfl) ?_
      rintro W rfl
      have oj0 := fun m => Off.at j0 m
      have oj1 := fun m => Off.at j1 m
      have oj2 := fun m => Off.at j2 m
      have oj3 := fun m => Off.at j3 m
      have oi2 := fun m => Off.at i2 m
      repeat (go_big_quiet_step ((go_at_call 44; exact Calls.off (pis_is (HX1.out.mem.on (Off.below _)) v HIV.out))))
      refine wpQuiet_nil ?_
      intro w2 hw2
      obtain ⟨⟨w2, hb2⟩, rfl⟩ := hw2
      have HB2 := Lib.hid (HB1.out.on hb2)
      obtain ⟨l0, l1, l2, l3⟩ := HB2.out.p
      rw [HP0.out] at l2
      clear j0 j1 j2 j3 i0 i1 i2 i3 oj0 oj1 oj2 oj3 oi2
      go_wp2_with fail
      go_ret2
      exact SomeMemE.none (B := 0) HB2.out.below
theorem pstore_bad (h : MemFew w A c rows) (p v : Vl) (hm : mayM (mmb rows) = false) :
    Calls Try.prog 29 #[.slice A rows.length c, valV p.k p.n p.b p.t, valV v.k v.n v.b v.t] w (SomeMemE [] 8 w) := by
  have hbx := Boxed.start w p v
  have HBX := Lib.hid hbx
  have HC := Lib.hid (paskedm_any (h.on hbx.below).mem p true (e0 := 8) (by unfold askedM; rw [if_pos hm]))
  obtain ⟨a0, a1, a2, a3⟩ := hbx.p
  clear h hbx hm
  go_enter Try.func29, Try.ntmps29
  go_wp2_with fail
  refine HC.out.mono ?_
  rintro e w1 ⟨rfl, hb⟩
  have HB1 := Lib.hid (HBX.out.on hb)
  clear hb
  go_wp2_with fail
  go_ret2
  exact SomeMemE.none (B := 0) HB1.out.below
theorem pstore_any (h : MemFew w A c rows) (p v : Vl) {e0 : Int} {m0 : List Bk} (he : storeE (mmb rows) p v = e0) (hv : storeM (mmb rows) p v = m0) :
    Calls Try.prog 29 #[.slice A rows.length c, valV p.k p.n p.b p.t, valV v.k v.n v.b v.t] w (SomeMemE m0 e0 w) := by
  cases hm : mayM (mmb rows) with
  | true => exact pstored_any h p v he hv hm
  | false =>
    obtain ⟨h1, h2⟩ := store_bad (p := p) (v := v) hm
    rw [h1] at he
    rw [h2] at hv
    subst he hv
    exact pstore_bad h p v hm
end
end Go.Proofs.Ythddacnnhmcoaaa
