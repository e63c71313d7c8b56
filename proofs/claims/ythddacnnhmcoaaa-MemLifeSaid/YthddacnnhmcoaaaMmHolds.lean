/-
  The program's answers for memories: Holds.
-/
import Derived.Test.YthddacnnhmcoaaaMmProg7
namespace Go.Proofs.Ythddacnnhmcoaaa
set_option linter.unusedVariables false
set_option linter.unusedSimpArgs false
open Go.ChangeShapes Go.WideShapes Go.ChangeAt Go.RowKit

theorem enters_holds1 : Enters 49 := fun _ _ => by kernel_rfl
section
variable {w : World} {A : Option Addr} {c : Nat} {rows : List BkR}
theorem holds1_any {gm gb : Nat} {dep : Int} (h : MemIn w A c rows) (hm : w.cell? ⟨gm, 0, none⟩ = some (.slice A rows.length c)) (hd : w.cell? ⟨gb, 2, none⟩ = some (.int .i64 dep)) (v : Vl) (hv : isV (mmb rows) v = true) {b : Bool} (hb : decide (dep < deepM (mmb rows) v) = b) :
    Calls Try.prog 49 #[valV v.k v.n v.b v.t, .pointer (some ⟨gm, 0, none⟩), .pointer (some ⟨gb, 0, none⟩)] w fun e w' => e = .returned (.bool b) ∧ Below w.heap.size w w' := by
  have hb0 : Below w.heap.size w (w.alloc (.cells #[.int .u8 v.k, .int .i64 v.n, .int .i64 v.b, .int .i64 v.t] 29)) := (Below.refl _ _).alloc (Nat.le_refl _) _
  have HB0 := Lib.hid hb0
  have HX := Lib.hid (h.on hb0)
  have HK := Blk.new w 29 #[.int .u8 v.k, .int .i64 v.n, .int .i64 v.b, .int .i64 v.t]
  have k0 := HK.cells 0
  have k1 := HK.cells 1
  have k2 := HK.cells 2
  have k3 := HK.cells 3
  have m0 := (hb0.cell (p := ⟨gm, 0, none⟩) (World.block_lt_of_cell? w _ hm)).trans hm
  have e2 := (hb0.cell (p := ⟨gb, 2, none⟩) (World.block_lt_of_cell? w _ hd)).trans hd
  have HV := Lib.hid hv
  obtain ⟨dv, hdv⟩ : ∃ dv, deepM (mmb rows) v = dv := ⟨_, rfl⟩
  rw [hdv] at hb
  have HDV := Lib.hid hdv
  have HDD := Lib.hid hb
  clear h hm hd hv hb0 HK hdv
  go_enter Try.func49, Try.ntmps49
  go_wp2_with fail
  refine wp_region_off (by kernel_rfl) (by kernel_rfl) ?_
  rintro W rfl
  have ok0 := fun m => Off.at k0 m
  have ok1 := fun m => Off.at k1 m
  have ok2 := fun m => Off.at k2 m
  have ok3 := fun m => Off.at k3 m
  have om0 := fun m => Off.at m0 m
  have oe2 := fun m => Off.at e2 m
  have HDC := Lib.hid (fun (m : Off (w.alloc (.cells #[.int .u8 v.k, .int .i64 v.n, .int .i64 v.b, .int .i64 v.t] 29))) => Calls.off (pdeep_any (HX.out.on m.below) v HV.out))
  rw [HDV.out] at HDC
  repeat (go_big_quiet_step ((go_at_call 45; exact HDC.out _)))
  refine wpQuiet_nil ?_
  intro w2 hw2
  obtain ⟨⟨w2, hb2⟩, rfl⟩ := hw2
  have HB2 := Lib.hid (HB0.out.trans (hb2.mono HB0.out.size))
  go_wp2_with fail
  go_ret
  exact ⟨rfl, HB2.out⟩
theorem life_step {m : List Bk} {j : Nat} (h : (m.take j).all (lifeB m) = true) (hj : j < m.length) (hb : lifeB m (m.getD j default) = true) : (m.take (j + 1)).all (lifeB m) = true := by
  rw [take_succ_getD (d := default) hj, List.all_append, h, Bool.true_and]
  show (lifeB m (m.getD j default) && true) = true
  rw [hb]; rfl
theorem life_done {m : List Bk} {j : Nat} (h : (m.take j).all (lifeB m) = true) (hj : m.length ≤ j) : lifeM m = true := by
  rw [List.take_of_length_le hj] at h
  exact h
theorem life_bad {m : List Bk} {j : Nat} (hj : j < m.length) (hb : lifeB m (m.getD j default) = false) : lifeM m = false := by
  unfold lifeM
  rw [List.all_eq_false]
  exact ⟨_, mem_getD (d := default) hj, by rw [hb]; simp⟩
set_option maxHeartbeats 1600000 in
theorem pholds_any (h : MemIn w A c rows) : Calls Try.prog 22 #[.slice A rows.length c] w fun e w' => e = .returned (.tuple #[.bool (holdsM (mmb rows)), .int .i64 (checkM (mmb rows))]) ∧ Below w.heap.size w w' := by
  have hl := h.len
  have hb0 : Below w.heap.size w (w.alloc (.cells #[.slice A rows.length c] 22)) := (Below.refl _ _).alloc (Nat.le_refl _) _
  have HB0 := Lib.hid hb0
  have HX := Lib.hid (h.on hb0)
  have HX0 := Lib.hid h
  have HK := Lib.hid (Blk.new w 22 #[.slice A rows.length c])
  unfold holdsM checkM
  cases hm : mayM (mmb rows) with
  | false =>
    have HC := Lib.hid (pcheckm_is HX.out (e0 := 8) (by unfold checkM; rw [hm]; rfl))
    clear h hb0 hm
    go_enter Try.func22, Try.ntmps22
    go_wp2_with fail
    refine HC.out.mono ?_
    rintro e w1 ⟨rfl, hb⟩
    have HB1 := Lib.hid (HB0.out.trans (hb.mono HB0.out.size))
    clear hb
    go_wp2_with fail
    go_ret2
    exact ⟨rfl, HB1.out⟩
  | true =>
    have HC := Lib.hid (pcheckm_is HX.out (e0 := 0) (by unfold checkM; rw [hm]; rfl))
    have HM := Lib.hid hm
    obtain ⟨lf, hlf⟩ : ∃ lf, lifeM (mmb rows) = lf := ⟨_, rfl⟩
    have HLF := Lib.hid hlf
    rw [hlf]
    clear h hb0 hm hlf
    go_enter Try.func22, Try.ntmps22
    go_wp2_with fail
    refine HC.out.mono ?_
    rintro e w1 ⟨rfl, hb⟩
    have HB1 := Lib.hid (HB0.out.trans (hb.mono HB0.out.size))
    have kb := HK.out.beneath hb
    have HK1 := Lib.hid kb
    have zk := kb.lt
    have kk := kb.cells 0
    clear hb kb
    go_wp2_with fail
    go_loopw [14] (fun i wr => ∃ j : Nat, j ≤ rows.length ∧ i = .int .i64 j ∧ Hid (((mmb rows).take j).all (lifeB (mmb rows)) = true) ∧ Blk wr w.heap.size 22 #[.slice A rows.length c] ∧ Below w.heap.size w wr) (fun i _ => rows.length - (intOf i).toNat)
    case atStart => exact ⟨0, Nat.zero_le _, rfl, Lib.hid rfl, HK1.out, HB1.out⟩
    case round =>
      clear kk zk
      obtain ⟨j, hj, rfl, HA, hblk, hbel⟩ := hrel
      have HBK := Lib.hid hblk
      have HB := Lib.hid hbel
      have zk := hblk.lt
      have kk := hblk.cells 0
      by_cases hlt : j < rows.length
      · have hXw := HX0.out.on hbel
        obtain ⟨bb, off, hA, hbk, c0, c1, c2, c3, c4⟩ := (hXw.rows.elem hlt).at_
        subst hA
        have hr := hXw.row hlt
        have HXW := Lib.hid hXw
        have HIV : Hid (∀ v ∈ (rows.getD j default).cells, isV (mmb rows) v = true) := Lib.hid (may_all HM.out _ (mem_mmb hlt))
        have HST : Hid (lifeB (mmb rows) (rows.getD j default).data = true → ((mmb rows).take (j + 1)).all (lifeB (mmb rows)) = true) := Lib.hid fun hb => life_step HA.out (by rw [mmb_len]; exact hlt) (by rw [mmb_at hlt]; exact hb)
        have HBD : Hid (lifeB (mmb rows) (rows.getD j default).data = false → lf = false) := Lib.hid fun hb => by rw [← HLF.out]; exact life_bad (by rw [mmb_len]; exact hlt) (by rw [mmb_at hlt]; exact hb)
        clear hXw hbel hblk
        generalize rows.getD j default = r at c0 c1 c2 c3 c4 hr HIV HST HBD
        obtain ⟨s, ty, de, al, ca, cc, vs⟩ := r
        simp only at c0 c1 c2 c3 c4
        have hlr := hr.hdr.le
        simp only at hlr
        have HR := Lib.hid hr
        have hbx : Below wr.heap.size wr (wr.alloc (.cells #[.int .i64 s, .int .i64 ty, .int .i64 de, .bool al, .slice ca vs.length cc] 70)) := (Below.refl _ _).alloc (Nat.le_refl _) _
        have HBX := Lib.hid hbx
        have HKX := Lib.hid (HBK.out.beneath hbx)
        have HNB := Lib.hid (Blk.new wr 70 #[.int .i64 s, .int .i64 ty, .int .i64 de, .bool al, .slice ca vs.length cc])
        have HBW := Lib.hid (HB.out.trans (hbx.mono HB.out.size))
        clear hr hbx
        cases al with
        | false =>
          have HS := Lib.hid (HST.out rfl)
          clear HST HBD
          go_wp2_with fail
          go_roundw
          case rel => exact ⟨j + 1, by omega, by go_num, HS, HKX.out, HBW.out⟩
          case measure => simp [intOf]; omega
        | true =>
          have hA : AnswersBy (wr.alloc (.cells #[.int .i64 s, .int .i64 ty, .int .i64 de, .bool true, .slice ca vs.length cc] 70)) 49 #[.pointer (some ⟨w.heap.size, 0, none⟩), .pointer (some ⟨wr.heap.size, 0, none⟩)] vs (fun v => decide (de < deepM (mmb rows) v)) :=
            ⟨enters_holds1, fun W v hb hvm => holds1_any (HXW.out.on (HBX.out.trans (hb.mono HBX.out.size))) ((HKX.out.beneath hb).cells 0) ((HNB.out.beneath hb).cells 2) v (HIV.out v hvm) rfl⟩
          obtain ⟨av, hav⟩ : ∃ av, (vs.any fun v => decide (de < deepM (mmb rows) v)) = av := ⟨_, rfl⟩
          have hcf := containsFunc_any (lo := 0) HR.out.hdr ((HR.out.vals.keep HBX.out).more (Nat.le_refl _) HBX.out.size) _ _ _ hA
          rw [hav] at hcf
          have HCF := Lib.hid hcf
          have hlb : lifeB (mmb rows) ⟨s, ty, de, true, vs⟩ = !av := by
            rw [← hav, List.any_eq_not_all_not, Bool.not_not]
            show (false || vs.all fun v => decide (deepM (mmb rows) v ≤ de)) = _
            rw [Bool.false_or]
            congr 1
            funext v
            by_cases hq : de < deepM (mmb rows) v
            · rw [decide_eq_true hq, decide_eq_false (by omega)]; rfl
            · rw [decide_eq_false hq, decide_eq_true (by omega)]; rfl
          clear hA hcf hav
          cases av with
          | true =>
            have HL0 := Lib.hid (HBD.out hlb)
            obtain rfl := HL0.out
            clear HST HBD hlb HL0
            go_wp2_with fail
            refine HCF.out.mono ?_
            rintro e w2 ⟨rfl, hb⟩
            have HB2 := Lib.hid (HBW.out.trans (hb.mono HBW.out.size))
            clear hb
            go_wp2_with fail
            go_ret2
            exact ⟨rfl, HB2.out⟩
          | false =>
            have HS := Lib.hid (HST.out hlb)
            clear HST HBD hlb
            go_wp2_with fail
            refine HCF.out.mono ?_
            rintro e w2 ⟨rfl, hb⟩
            have HK2 := Lib.hid (HKX.out.beneath hb)
            have HB2 := Lib.hid (HBW.out.trans (hb.mono HBW.out.size))
            clear hb
            go_wp2_with fail
            go_roundw
            case rel => exact ⟨j + 1, by omega, by go_num, HS, HK2.out, HB2.out⟩
            case measure => simp [intOf]; omega
      · have HL1 := Lib.hid (life_done HA.out (by rw [mmb_len]; omega))
        obtain rfl : lf = true := by rw [← HLF.out]; exact HL1.out
        clear hbel hblk
        go_wp2_with fail
        go_ret2
        exact ⟨rfl, HB.out⟩
end
end Go.Proofs.Ythddacnnhmcoaaa
