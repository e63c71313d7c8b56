/-
  The reference's answers for memories: how deep a value points, whether life holds, how pointers move.
-/
import Derived.Test.YthddacnnhmcoaaaMmRef2
namespace Go.Proofs.Ythddacnnhmcoaaa
set_option linter.unusedVariables false
set_option linter.unusedSimpArgs false
open Go.ChangeShapes Go.WideShapes Go.ChangeAt Go.RowKit

section
variable {w : World} {A : Option Addr} {c : Nat} {rows : List BkR}
theorem rdepth_any (h : MemIn w A c rows) (v : Vl) {e0 d0 : Int} (he : depthE (mmb rows) v = e0) (hd : depthM (mmb rows) v = d0) :
    Calls Try.prog 21 #[.slice A rows.length c, valV v.k v.n v.b v.t] w fun e w' => e = .returned (.tuple #[.int .i64 d0, .int .i64 e0]) ∧ Below w.heap.size w w' := by
  have hb0 : Below w.heap.size w (w.alloc (.cells #[.int .u8 v.k, .int .i64 v.n, .int .i64 v.b, .int .i64 v.t] 29)) := (Below.refl _ _).alloc (Nat.le_refl _) _
  have HB0 := Lib.hid hb0
  have HX := Lib.hid (h.on hb0)
  have HK := Lib.hid (Blk.new w 29 #[.int .u8 v.k, .int .i64 v.n, .int .i64 v.b, .int .i64 v.t])
  obtain ⟨mb, hmb⟩ : ∃ mb, mayM (mmb rows) = mb := ⟨_, rfl⟩
  obtain ⟨iv, hiv⟩ : ∃ iv, isV (mmb rows) v = iv := ⟨_, rfl⟩
  have HM := Lib.hid hmb
  have HI := Lib.hid hiv
  have HC := Lib.hid (rmaym_is HX.out hmb)
  unfold depthM at hd
  rw [he] at hd
  unfold depthE at he
  rw [hmb, hiv] at he
  clear h hb0 hmb hiv
  cases mb with
  | false =>
    obtain rfl : e0 = 8 := by rw [← he]; rfl
    obtain rfl : d0 = 0 := by rw [← hd]; rfl
    clear he hd
    go_enter Try.func21, Try.ntmps21
    go_wp2_with fail
    refine HC.out.mono ?_
    rintro e w1 ⟨rfl, hb⟩
    have HB1 := Lib.hid (HB0.out.trans (hb.mono HB0.out.size))
    clear hb
    go_wp2_with fail
    go_ret2
    exact ⟨rfl, HB1.out⟩
  | true =>
    cases iv with
    | false =>
      obtain rfl : e0 = 2 := by rw [← he]; rfl
      obtain rfl : d0 = 0 := by rw [← hd]; rfl
      clear he hd
      go_enter Try.func21, Try.ntmps21
      go_wp2_with fail
      refine HC.out.mono ?_
      rintro e w1 ⟨rfl, hb⟩
      have kb := HK.out.beneath hb
      have k0 := kb.cells 0
      have k1 := kb.cells 1
      have k2 := kb.cells 2
      have k3 := kb.cells 3
      have HB1 := Lib.hid (HB0.out.trans (hb.mono HB0.out.size))
      have HC2 := Lib.hid (ris_is (HX.out.on hb) v HI.out)
      clear hb kb
      go_wp2_with fail
      refine HC2.out.mono ?_
      rintro e w2 ⟨rfl, hb⟩
      have HB2 := Lib.hid (HB1.out.trans (hb.mono HB1.out.size))
      clear hb
      go_wp2_with fail
      go_ret2
      exact ⟨rfl, HB2.out⟩
    | true =>
      obtain rfl : e0 = 0 := by rw [← he]; rfl
      have HD : Hid (deepM (mmb rows) v = d0) := Lib.hid (by rw [← hd]; rfl)
      clear he hd
      go_enter Try.func21, Try.ntmps21
      go_wp2_with fail
      refine HC.out.mono ?_
      rintro e w1 ⟨rfl, hb⟩
      have kb := HK.out.beneath hb
      have k0 := kb.cells 0
      have k1 := kb.cells 1
      have k2 := kb.cells 2
      have k3 := kb.cells 3
      have HK1 := Lib.hid kb
      have HB1 := Lib.hid (HB0.out.trans (hb.mono HB0.out.size))
      have HX1 := Lib.hid (HX.out.on hb)
      have HC2 := Lib.hid (ris_is HX1.out v HI.out)
      clear hb kb
      go_wp2_with fail
      refine HC2.out.mono ?_
      rintro e w2 ⟨rfl, hb⟩
      have kb := HK1.out.beneath hb
      have j0 := kb.cells 0
      have j1 := kb.cells 1
      have j2 := kb.cells 2
      have j3 := kb.cells 3
      have HB2 := Lib.hid (HB1.out.trans (hb.mono HB1.out.size))
      have HC3 := Lib.hid (rdeep_any (HX1.out.on hb) v HI.out)
      rw [HD.out] at HC3
      clear hb kb k0 k1 k2 k3
      go_wp2_with fail
      refine HC3.out.mono ?_
      rintro e w3 ⟨rfl, hb⟩
      have HB3 := Lib.hid (HB2.out.trans (hb.mono HB2.out.size))
      clear hb
      go_wp2_with fail
      go_ret2
      exact ⟨rfl, HB3.out⟩

theorem may_all {m : List Bk} (h : mayM m = true) : ∀ b ∈ m, ∀ v ∈ b.cells, isV m v = true := by
  intro b hb v hv
  unfold mayM at h
  rw [Bool.and_eq_true] at h
  have h1 := List.all_eq_true.1 h.2 b hb
  rw [okB_num, Bool.and_eq_true] at h1
  exact List.all_eq_true.1 h1.2 v hv
theorem mem_mmb {rows : List BkR} {i : Nat} (hi : i < rows.length) : (rows.getD i default).data ∈ mmb rows := by
  rw [← mmb_at hi]
  exact mem_getD (by rw [mmb_len]; exact hi)
set_option maxHeartbeats 3200000 in
theorem rlife_any (h : MemIn w A c rows) (hm : mayM (mmb rows) = true) : Calls Try.prog 50 #[.slice A rows.length c] w fun e w' => e = .returned (.bool (lifeM (mmb rows))) ∧ Below w.heap.size w w' := by
  have hl := h.len
  have HX := Lib.hid h
  have HALL := Lib.hid (may_all hm)
  clear h hm
  go_enter Try.func50, Try.ntmps50
  go_wp2_with fail
  go_loopw [3] (fun i wr => ∃ j : Nat, j ≤ rows.length ∧ i = .int .i64 j ∧ AllTo (lifeB (mmb rows)) (mmb rows) j ∧ Below w.heap.size w wr) (fun i _ => rows.length - (intOf i).toNat)
  case atStart => exact ⟨0, Nat.zero_le _, rfl, AllTo.zero _ _, Below.refl _ _⟩
  case round =>
    obtain ⟨j, hj, rfl, hall, hbel⟩ := hrel
    have HA := Lib.hid hall
    have HB := Lib.hid hbel
    clear hall hbel
    by_cases hlt : j < rows.length
    · have HLT : Hid (j < (mmb rows).length) := Lib.hid (by rw [mmb_len]; exact hlt)
      obtain ⟨bb, off, hA, hbk, c0, c1, c2, c3, c4⟩ := (HX.out.rows.elem hlt).at_
      subst hA
      have hr := HX.out.row hlt
      have HD : Hid ((mmb rows).getD j default = (rows.getD j default).data) := Lib.hid (mmb_at hlt)
      have HAV : Hid (∀ v ∈ (rows.getD j default).cells, isV (mmb rows) v = true) := Lib.hid (fun v hv => HALL.out _ (mem_mmb hlt) v hv)
      generalize rows.getD j default = r at c0 c1 c2 c3 c4 hr HD HAV
      have hlr := hr.hdr.le
      have HR := Lib.hid hr
      have HLB : Hid (lifeB (mmb rows) r.data = (!r.alive || r.cells.all fun v => decide (deepM (mmb rows) v ≤ r.depth))) := Lib.hid rfl
      obtain ⟨al, hal⟩ : ∃ al, r.alive = al := ⟨_, rfl⟩
      rw [hal] at c3 HLB
      have hi0 : (0 : Int) ≤ (j : Int) := Int.natCast_nonneg _
      have hi1 : (j : Int) < (rows.length : Int) := by omega
      clear hr c0 c1 hal
      go_wp2_with fail
      go_loopw [4] (fun i wr2 => ∃ q : Nat, q ≤ r.cells.length ∧ i = .int .i64 q ∧ Hid (al = true → AllTo (fun v => decide (deepM (mmb rows) v ≤ r.depth)) r.cells q) ∧ Below wr.heap.size wr wr2) (fun i _ => r.cells.length - (intOf i).toNat)
      case atStart => exact ⟨0, Nat.zero_le _, rfl, Lib.hid fun _ => AllTo.zero _ _, Below.refl _ _⟩
      case round =>
        obtain ⟨q, hq, rfl, HQ, hbel⟩ := hrel
        have HB2 := Lib.hid (HB.out.trans (hbel.mono HB.out.size))
        have HB3 := Lib.hid hbel
        have g2 := (HB2.out.cell (p := ⟨bb, off + j * 5 + 2, none⟩) hbk).trans c2
        have g3 := (HB2.out.cell (p := ⟨bb, off + j * 5 + 3, none⟩) hbk).trans c3
        have g4 := (HB2.out.cell (p := ⟨bb, off + j * 5 + 4, none⟩) hbk).trans c4
        have zb : bb < wr.heap.size := World.block_lt_of_cell? _ _ g4
        clear hbel
        by_cases hlq : q < r.cells.length
        · obtain ⟨b2, o2, v, hA2, hb2, v0, v1, v2, v3, HE⟩ := (HR.out.vals.keep HB2.out).elem hlq
          have HVM : Hid (isV (mmb rows) v = true) := Lib.hid (HAV.out v (by rw [← HE.out]; exact mem_getD hlq))
          rw [hA2] at g4
          clear hA2
          have hq0 : (0 : Int) ≤ (q : Int) := Int.natCast_nonneg _
          have hq1 : (q : Int) < (r.cells.length : Int) := by omega
          cases al with
          | false =>
            go_wp2_with fail
            go_quiet (fail)
            go_wp2_with fail
            go_roundw
            case rel => exact ⟨q + 1, by omega, by go_num, Lib.hid (fun h => absurd h (by decide)), belowDrewN HB3.out _⟩
            case measure => simp [intOf]; omega
          | true =>
            obtain ⟨dv, hdv⟩ : ∃ dv, deepM (mmb rows) v = dv := ⟨_, rfl⟩
            have hcd := rdeep_any (w := wr.drew) ((HX.out.on HB2.out).on (Below.refl _ _).drew) v HVM.out
            rw [hdv] at hcd
            have HCD := Lib.hid hcd
            have HDV := Lib.hid hdv
            clear hcd hdv
            by_cases hdp : dv ≤ r.depth
            · have hdd : decide (r.depth < dv) = false := by simpa using hdp
              go_wp2_with fail
              go_region_held3 (fun w' => w'.cell? ⟨bb, off + j * 5 + 2, none⟩ = some (.int .i64 r.depth) ∧ w'.cell? ⟨bb, off + j * 5 + 3, none⟩ = some (.bool true) ∧ w'.cell? ⟨bb, off + j * 5 + 4, none⟩ = some (.slice (some ⟨b2, o2, none⟩) r.cells.length r.cc) ∧ w'.cell? ⟨b2, o2 + q * 4, none⟩ = some (.int .u8 v.k) ∧ w'.cell? ⟨b2, o2 + q * 4 + 1, none⟩ = some (.int .i64 v.n) ∧ w'.cell? ⟨b2, o2 + q * 4 + 2, none⟩ = some (.int .i64 v.b) ∧ w'.cell? ⟨b2, o2 + q * 4 + 3, none⟩ = some (.int .i64 v.t)) (go_keep)
                (first
                  | (go_at_call 47
                     refine HCD.out.mono ?_
                     rintro e w1 ⟨rfl, hb⟩
                     have m2 := (hb.cell (p := ⟨bb, off + j * 5 + 2, none⟩) zb).trans g2
                     have m3 := (hb.cell (p := ⟨bb, off + j * 5 + 3, none⟩) zb).trans g3
                     have m4 := (hb.cell (p := ⟨bb, off + j * 5 + 4, none⟩) zb).trans g4
                     have n0 := (hb.cell (p := ⟨b2, o2 + q * 4, none⟩) hb2).trans v0
                     have n1 := (hb.cell (p := ⟨b2, o2 + q * 4 + 1, none⟩) hb2).trans v1
                     have n2 := (hb.cell (p := ⟨b2, o2 + q * 4 + 2, none⟩) hb2).trans v2
                     have n3 := (hb.cell (p := ⟨b2, o2 + q * 4 + 3, none⟩) hb2).trans v3
                     have HB4 := Lib.hid (HB3.out.trans ((Below.trans (Below.refl wr.heap.size wr).drew hb).mono HB3.out.size))
                     clear hb))
              go_wp2_with fail
              go_roundw
              case rel => exact ⟨q + 1, by omega, by go_num, Lib.hid (fun _ => (HQ.out (by first | rfl | trivial)).step (d := default) hlq (by rw [HE.out, HDV.out]; exact decide_eq_true hdp)), HB4.out⟩
              case measure => simp [intOf]; omega
            · have hdd : decide (r.depth < dv) = true := by simpa using hdp
              have HF : Hid (lifeM (mmb rows) = false) := Lib.hid (by
                unfold lifeM
                refine all_stop (d := default) HLT.out ?_
                rw [HD.out, HLB.out]
                show (false || _) = false
                rw [Bool.false_or]
                exact all_stop (d := default) hlq (by rw [HE.out, HDV.out]; exact decide_eq_false hdp))
              go_wp2_with fail
              go_region_held3 (fun w' => w'.cell? ⟨bb, off + j * 5 + 2, none⟩ = some (.int .i64 r.depth) ∧ w'.cell? ⟨bb, off + j * 5 + 3, none⟩ = some (.bool true) ∧ w'.cell? ⟨bb, off + j * 5 + 4, none⟩ = some (.slice (some ⟨b2, o2, none⟩) r.cells.length r.cc) ∧ w'.cell? ⟨b2, o2 + q * 4, none⟩ = some (.int .u8 v.k) ∧ w'.cell? ⟨b2, o2 + q * 4 + 1, none⟩ = some (.int .i64 v.n) ∧ w'.cell? ⟨b2, o2 + q * 4 + 2, none⟩ = some (.int .i64 v.b) ∧ w'.cell? ⟨b2, o2 + q * 4 + 3, none⟩ = some (.int .i64 v.t)) (go_keep)
                (first
                  | (go_at_call 47
                     refine HCD.out.mono ?_
                     rintro e w1 ⟨rfl, hb⟩
                     have m2 := (hb.cell (p := ⟨bb, off + j * 5 + 2, none⟩) zb).trans g2
                     have m3 := (hb.cell (p := ⟨bb, off + j * 5 + 3, none⟩) zb).trans g3
                     have m4 := (hb.cell (p := ⟨bb, off + j * 5 + 4, none⟩) zb).trans g4
                     have n0 := (hb.cell (p := ⟨b2, o2 + q * 4, none⟩) hb2).trans v0
                     have n1 := (hb.cell (p := ⟨b2, o2 + q * 4 + 1, none⟩) hb2).trans v1
                     have n2 := (hb.cell (p := ⟨b2, o2 + q * 4 + 2, none⟩) hb2).trans v2
                     have n3 := (hb.cell (p := ⟨b2, o2 + q * 4 + 3, none⟩) hb2).trans v3
                     have HB4 := Lib.hid (HB2.out.trans ((Below.trans (Below.refl wr.heap.size wr).drew hb).mono HB2.out.size))
                     clear hb))
              go_wp2_with fail
              go_ret
              exact ⟨ret_bool HF.out.symm, HB4.out⟩
        · have HL2 : Hid (lifeB (mmb rows) r.data = true) := Lib.hid (by
            rw [HLB.out]
            cases al with
            | false => rfl
            | true => exact (HQ.out (by first | rfl | trivial)).done (by omega))
          go_wp2_with fail
          go_roundw
          case rel => exact ⟨j + 1, by omega, by go_num, HA.out.step (d := default) HLT.out (by rw [HD.out]; exact HL2.out), HB2.out⟩
          case measure => simp [intOf]; omega
    · go_wp2_with fail
      go_ret
      exact ⟨ret_bool (by unfold lifeM; rw [HA.out.done (by rw [mmb_len]; omega)]), HB.out⟩
theorem rholds_any (h : MemIn w A c rows) : Calls Try.prog 23 #[.slice A rows.length c] w fun e w' => e = .returned (.tuple #[.bool (holdsM (mmb rows)), .int .i64 (checkM (mmb rows))]) ∧ Below w.heap.size w w' := by
  have HX := Lib.hid h
  clear h
  unfold holdsM checkM
  cases hm : mayM (mmb rows) with
  | false =>
    have HC := Lib.hid (rmaym_is HX.out hm)
    clear hm
    go_enter Try.func23, Try.ntmps23
    go_wp2_with fail
    refine HC.out.mono ?_
    rintro e w1 ⟨rfl, hb⟩
    have HB := Lib.hid hb
    clear hb
    go_wp2_with fail
    go_ret2
    exact ⟨rfl, HB.out⟩
  | true =>
    have HC := Lib.hid (rmaym_is HX.out hm)
    have HM := Lib.hid hm
    clear hm
    go_enter Try.func23, Try.ntmps23
    go_wp2_with fail
    refine HC.out.mono ?_
    rintro e w1 ⟨rfl, hb⟩
    have HB := Lib.hid hb
    have HC2 := Lib.hid (rlife_any (HX.out.on hb) HM.out)
    clear hb
    go_wp2_with fail
    refine HC2.out.mono ?_
    rintro e w2 ⟨rfl, hb⟩
    have HB2 := Lib.hid (HB.out.trans (hb.mono HB.out.size))
    clear hb
    go_wp2_with fail
    go_ret2
    exact ⟨rfl, HB2.out⟩

set_option maxHeartbeats 1600000 in
/-- On a memory that may be. -/
theorem rmoved_any (h : MemIn w A c rows) (p : Vl) (d : Int) {e0 : Int} {v0 : Vl} (he : moveE (mmb rows) p d = e0) (hv : moveV (mmb rows) p d = v0) (hm : mayM (mmb rows) = true) :
    Calls Try.prog 59 #[.slice A rows.length c, valV p.k p.n p.b p.t, .int .i64 d] w fun e w' => e = .returned (.tuple #[valV v0.k v0.n v0.b v0.t, .int .i64 e0]) ∧ Below w.heap.size w w' := by
  have hl := h.len
  have hb0 : Below w.heap.size w ((w.alloc (.cells #[.int .u8 p.k, .int .i64 p.n, .int .i64 p.b, .int .i64 p.t] 29)).alloc (.cells #[.int .u8 0, .int .i64 0, .int .i64 0, .int .i64 0] 29)) := ((Below.refl _ _).alloc (Nat.le_refl _) _).alloc (by simp) _
  have HB0 := Lib.hid hb0
  have HX := Lib.hid (h.on hb0)
  have HK := Lib.hid ((Blk.new w 29 #[.int .u8 p.k, .int .i64 p.n, .int .i64 p.b, .int .i64 p.t]).alloc (.cells #[.int .u8 0, .int .i64 0, .int .i64 0, .int .i64 0] 29))
  have HR := Lib.hid (Blk.new2 w (.cells #[.int .u8 p.k, .int .i64 p.n, .int .i64 p.b, .int .i64 p.t] 29) 29 #[.int .u8 0, .int .i64 0, .int .i64 0, .int .i64 0])
  have hE : moveE (mmb rows) p d = if ptrM (mmb rows) p ≠ 0 then ptrM (mmb rows) p else if d < -p.t ∨ ((blkOf (mmb rows) p).cells.length : Int) - p.t ≤ d then 2 else 0 := by unfold moveE; rw [if_neg (by rw [hm]; simp)]
  have hV : moveV (mmb rows) p d = if e0 = 0 then { p with t := p.t + d } else default := by unfold moveV; rw [he]
  rw [he] at hE
  rw [hv] at hV
  obtain ⟨pe, hpe⟩ : ∃ pe, ptrM (mmb rows) p = pe := ⟨_, rfl⟩
  have HC := Lib.hid (rpointer_is HX.out p hpe)
  rw [hpe] at hE
  by_cases h0 : pe = 0
  · subst h0
    obtain ⟨i, q, r, hs⟩ := spot_of hpe
    have HS := Lib.hid hs
    rw [if_neg (by simp), hs.blk] at hE
    have hlt := hs.lt
    have hqt := hs.qt
    have hok := h.row hs.lt
    rw [hs.get] at hok
    obtain ⟨bb, off, hA, hbk, d0, d1, d2, d3, d4⟩ := (h.rows.elem hs.lt).at_
    rw [hs.get] at d0 d1 d2 d3 d4
    have hql := hok.hdr.le
    have hE2 : e0 = if d < -(q : Int) ∨ (r.cells.length : Int) - q ≤ d then 2 else 0 := by rw [hE, hs.tq]; rfl
    subst hA
    have hwr : IntKind.i64.wrap (p.b - 1) = (i : Int) := by rw [IntWalk.i64_in _ (by have := hs.bi; omega)]; exact hs.bi
    have hi0 : (0 : Int) ≤ (i : Int) := Int.natCast_nonneg _
    have hi1 : (i : Int) < (rows.length : Int) := by omega
    have hq0 : (0 : Int) ≤ (q : Int) := Int.natCast_nonneg _
    have hq1 : (q : Int) < (r.cells.length : Int) := by omega
    have hbd1 : 1 ≤ p.b := by have := hs.bi; omega
    have hbd2 : p.b ≤ rows.length := by have := hs.bi; omega
    have HWR := Lib.hid hwr
    have HW3 : Hid (IntKind.i64.wrap (i : Int) = (i : Int)) := Lib.hid (IntWalk.i64_in _ (by omega))
    have HW4 : Hid (IntKind.i64.wrap (-(q : Int)) = -(q : Int)) := Lib.hid (IntWalk.i64_in _ (by omega))
    have HW5 : Hid (IntKind.i64.wrap ((r.cells.length : Int) - q) = (r.cells.length : Int) - q) := Lib.hid (IntWalk.i64_in _ (by omega))
    by_cases hbad : d < -(q : Int) ∨ (r.cells.length : Int) - q ≤ d
    · obtain rfl : e0 = 2 := by rw [hE2, if_pos hbad]
      obtain rfl : v0 = default := by rw [hV]; rfl
      clear h hb0 hE hE2 hV hm hpe hs hok hwr he hv d0 d1 d2 d3
      by_cases hb1 : d < -(q : Int)
      all_goals
        go_enter Try.func59, Try.ntmps59
        go_wp2_with fail
        refine HC.out.mono ?_
        rintro e w1 ⟨rfl, hb⟩
        have k2 : w1.cell? ⟨w.heap.size, 2, none⟩ = some (.int .i64 p.b) := (HK.out.beneath hb).cells 2
        have k3 : w1.cell? ⟨w.heap.size, 3, none⟩ = some (.int .i64 p.t) := (HK.out.beneath hb).cells 3
        rw [HS.out.tq] at k3
        have rb := HR.out.beneath hb
        have hz := rb.lt
        have r0 := rb.cells 0
        have r1 := rb.cells 1
        have r2 := rb.cells 2
        have r3 := rb.cells 3
        have rf := rb.free
        have HB1 := Lib.hid (HB0.out.trans (hb.mono HB0.out.size))
        have g4 := (HB1.out.cell (p := ⟨bb, off + i * 5 + 4, none⟩) hbk).trans d4
        have hbi := HS.out.bi
        have hw3 := HW3.out
        have hw4 := HW4.out
        have hw5 := HW5.out
        have hwr2 := HWR.out
        have PB := Lib.hid (fun n => put4 (rb.drewN n) (.int .u8 0) (.int .i64 0) (.int .i64 0) (.int .i64 0))
        clear hb rb d4
      · have hd1 : decide (d < -(q : Int)) = true := decide_eq_true hb1
        clear hbad
        go_wp2_with fail
        go_quiet (fail)
        go_wp2_with fail
        have q0 := fun n => (PB.out n).cells 0
        have q1 := fun n => (PB.out n).cells 1
        have q2 := fun n => (PB.out n).cells 2
        have q3 := fun n => (PB.out n).cells 3
        exact bodyPost_ret (v := .tuple #[valV 0 0 0 0, .int .i64 2]) (by simp [results, Try.results59, go_sem, q0, q1, q2, q3]) rfl ⟨rfl, below4 (belowDrewN HB1.out _)⟩
      · have hd1 : decide (d < -(q : Int)) = false := decide_eq_false (by omega)
        have hb2 : (r.cells.length : Int) - q ≤ d := by omega
        have hd2 : decide ((r.cells.length : Int) - q ≤ d) = true := decide_eq_true hb2
        clear hbad
        go_wp2_with fail
        go_quiet (fail)
        go_wp2_with fail
        have q0 := fun n => (PB.out n).cells 0
        have q1 := fun n => (PB.out n).cells 1
        have q2 := fun n => (PB.out n).cells 2
        have q3 := fun n => (PB.out n).cells 3
        exact bodyPost_ret (v := .tuple #[valV 0 0 0 0, .int .i64 2]) (by simp [results, Try.results59, go_sem, q0, q1, q2, q3]) rfl ⟨rfl, below4 (belowDrewN HB1.out _)⟩
    · obtain rfl : e0 = 0 := by rw [hE2, if_neg hbad]
      obtain rfl : v0 = { p with t := (q : Int) + d } := by rw [hV, if_pos rfl, hs.tq]
      have hb1 : -(q : Int) ≤ d := by omega
      have hb2 : d < (r.cells.length : Int) - q := by omega
      clear h hb0 hE hE2 hV hm hpe hs hok hwr he hv d0 d1 d2 d3 hbad
      go_enter Try.func59, Try.ntmps59
      go_wp2_with fail
      refine HC.out.mono ?_
      rintro e w1 ⟨rfl, hb⟩
      have kb := HK.out.beneath hb
      have k0 := kb.cells 0
      have k1 := kb.cells 1
      have k2 : w1.cell? ⟨w.heap.size, 2, none⟩ = some (.int .i64 p.b) := (HK.out.beneath hb).cells 2
      have k3 : w1.cell? ⟨w.heap.size, 3, none⟩ = some (.int .i64 p.t) := (HK.out.beneath hb).cells 3
      rw [HS.out.tq] at k3
      have kf := kb.free
      have rb := HR.out.beneath hb
      have hz := rb.lt
      have r0 := rb.cells 0
      have r1 := rb.cells 1
      have r2 := rb.cells 2
      have r3 := rb.cells 3
      have rf := rb.free
      have HB1 := Lib.hid (HB0.out.trans (hb.mono HB0.out.size))
      have g4 := (HB1.out.cell (p := ⟨bb, off + i * 5 + 4, none⟩) hbk).trans d4
      have hbi := HS.out.bi
      have hw3 := HW3.out
      have hw4 := HW4.out
      have hw5 := HW5.out
      have hwr2 := HWR.out
      have hd1 : decide (d < -(q : Int)) = false := decide_eq_false (by omega)
      have hd2 : decide ((r.cells.length : Int) - q ≤ d) = false := decide_eq_false (by omega)
      have PB := Lib.hid (fun n => put4 ((rb.drewN n).far (p := ⟨w.heap.size, 3, none⟩) (by simp) (.int .i64 ((q : Int) + d))) (.int .u8 p.k) (.int .i64 p.n) (.int .i64 p.b) (.int .i64 ((q : Int) + d)))
      have HBE : Hid (∀ n, Below w.heap.size w ((w1.drewN n).setCell ⟨w.heap.size, 3, none⟩ (.int .i64 ((q : Int) + d)))) := Lib.hid fun n => belowSet0 (belowDrewN HB1.out n)
      clear hb rb kb d4
      go_wp2_with fail
      go_quiet (fail)
      go_wp2_with fail
      have q0 := fun n => (PB.out n).cells 0
      have q1 := fun n => (PB.out n).cells 1
      have q2 := fun n => (PB.out n).cells 2
      have q3 := fun n => (PB.out n).cells 3
      exact bodyPost_ret (v := .tuple #[valV p.k p.n p.b ((q : Int) + d), .int .i64 0]) (by simp [results, Try.results59, go_sem, q0, q1, q2, q3]) rfl ⟨rfl, below4 (HBE.out _)⟩
  · obtain rfl : e0 = pe := by rw [hE, if_pos h0]
    obtain rfl : v0 = default := by rw [hV, if_neg h0]
    clear h hb0 hE hV hm hpe he hv
    go_enter Try.func59, Try.ntmps59
    go_wp2_with fail
    refine HC.out.mono ?_
    rintro e w1 ⟨rfl, hb⟩
    have rb := HR.out.beneath hb
    have hz := rb.lt
    have r0 := rb.cells 0
    have r1 := rb.cells 1
    have r2 := rb.cells 2
    have r3 := rb.cells 3
    have rf := rb.free
    have HB1 := Lib.hid (HB0.out.trans (hb.mono HB0.out.size))
    have PB := Lib.hid (put4 rb (.int .u8 0) (.int .i64 0) (.int .i64 0) (.int .i64 0))
    clear hb rb
    go_wp2_with fail
    have q0 := PB.out.cells 0
    have q1 := PB.out.cells 1
    have q2 := PB.out.cells 2
    have q3 := PB.out.cells 3
    exact bodyPost_ret (v := .tuple #[valV 0 0 0 0, .int .i64 e0]) (by simp [results, Try.results59, go_sem, q0, q1, q2, q3]) rfl ⟨rfl, below4 HB1.out⟩
theorem move_bad {m : List Bk} {p : Vl} {d : Int} (hm : mayM m = false) : moveE m p d = 8 ∧ moveV m p d = default := by
  have : moveE m p d = 8 := by unfold moveE; rw [if_pos hm]
  exact ⟨this, by unfold moveV; rw [this]; rfl⟩
set_option maxHeartbeats 800000 in
theorem rmove_any (h : MemIn w A c rows) (p : Vl) (d : Int) {e0 : Int} {v0 : Vl} (he : moveE (mmb rows) p d = e0) (hv : moveV (mmb rows) p d = v0) :
    Calls Try.prog 34 #[.slice A rows.length c, valV p.k p.n p.b p.t, .int .i64 d] w fun e w' => e = .returned (.tuple #[valV v0.k v0.n v0.b v0.t, .int .i64 e0]) ∧ Below w.heap.size w w' := by
  have hb0 : Below w.heap.size w ((w.alloc (.cells #[.int .u8 p.k, .int .i64 p.n, .int .i64 p.b, .int .i64 p.t] 29)).alloc (.cells #[.int .u8 0, .int .i64 0, .int .i64 0, .int .i64 0] 29)) := ((Below.refl _ _).alloc (Nat.le_refl _) _).alloc (by simp) _
  have HB0 := Lib.hid hb0
  have HX := Lib.hid (h.on hb0)
  have HK := Lib.hid ((Blk.new w 29 #[.int .u8 p.k, .int .i64 p.n, .int .i64 p.b, .int .i64 p.t]).alloc (.cells #[.int .u8 0, .int .i64 0, .int .i64 0, .int .i64 0] 29))
  have HR := Lib.hid (Blk.new2 w (.cells #[.int .u8 p.k, .int .i64 p.n, .int .i64 p.b, .int .i64 p.t] 29) 29 #[.int .u8 0, .int .i64 0, .int .i64 0, .int .i64 0])
  have HE := Lib.hid he
  have HV := Lib.hid hv
  obtain ⟨mb, hmb⟩ : ∃ mb, mayM (mmb rows) = mb := ⟨_, rfl⟩
  have HM := Lib.hid hmb
  clear h hb0 he hv hmb
  have HC := Lib.hid (rmaym_is HX.out HM.out)
  cases mb with
  | false =>
    obtain ⟨h1, h2⟩ := move_bad (p := p) (d := d) HM.out
    obtain rfl : e0 = 8 := HE.out.symm.trans h1
    obtain rfl : v0 = default := HV.out.symm.trans h2
    clear h1 h2
    go_enter Try.func34, Try.ntmps34
    go_wp2_with fail
    refine HC.out.mono ?_
    rintro e w1 ⟨rfl, hb⟩
    have rb := HR.out.beneath hb
    have hz := rb.lt
    have r0 := rb.cells 0
    have r1 := rb.cells 1
    have r2 := rb.cells 2
    have r3 := rb.cells 3
    have rf := rb.free
    have HB1 := Lib.hid (HB0.out.trans (hb.mono HB0.out.size))
    have PB := Lib.hid (put4 rb (.int .u8 0) (.int .i64 0) (.int .i64 0) (.int .i64 0))
    clear hb rb
    go_wp2_with fail
    have q0 := PB.out.cells 0
    have q1 := PB.out.cells 1
    have q2 := PB.out.cells 2
    have q3 := PB.out.cells 3
    exact bodyPost_ret (v := .tuple #[valV 0 0 0 0, .int .i64 8]) (by simp [results, Try.results34, go_sem, q0, q1, q2, q3]) rfl ⟨rfl, below4 HB1.out⟩
  | true =>
    go_enter Try.func34, Try.ntmps34
    go_wp2_with fail
    refine HC.out.mono ?_
    rintro e w1 ⟨rfl, hb⟩
    have kb := HK.out.beneath hb
    have k0 := kb.cells 0
    have k1 := kb.cells 1
    have k2 := kb.cells 2
    have k3 := kb.cells 3
    have HR1 := Lib.hid (HR.out.beneath hb)
    have HB1 := Lib.hid (HB0.out.trans (hb.mono HB0.out.size))
    have HC2 := Lib.hid (rmoved_any (HX.out.on hb) p d HE.out HV.out HM.out)
    clear hb kb
    go_wp2_with fail
    refine HC2.out.mono ?_
    rintro e w2 ⟨rfl, hb⟩
    have rb := HR1.out.beneath hb
    have hz := rb.lt
    have r0 := rb.cells 0
    have r1 := rb.cells 1
    have r2 := rb.cells 2
    have r3 := rb.cells 3
    have rf := rb.free
    have HB2 := Lib.hid (HB1.out.trans (hb.mono HB1.out.size))
    have PB := Lib.hid (put4 rb (.int .u8 v0.k) (.int .i64 v0.n) (.int .i64 v0.b) (.int .i64 v0.t))
    clear hb rb
    go_wp2_with fail
    have q0 := PB.out.cells 0
    have q1 := PB.out.cells 1
    have q2 := PB.out.cells 2
    have q3 := PB.out.cells 3
    exact bodyPost_ret (v := .tuple #[valV v0.k v0.n v0.b v0.t, .int .i64 e0]) (by simp [results, Try.results34, go_sem, q0, q1, q2, q3]) rfl ⟨rfl, below4 HB2.out⟩
end
end Go.Proofs.Ythddacnnhmcoaaa
