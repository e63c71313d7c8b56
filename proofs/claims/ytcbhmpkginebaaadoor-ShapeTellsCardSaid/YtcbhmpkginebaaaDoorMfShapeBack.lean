/-
  The walk of ShapeBack.
-/
import Derived.Test.YtcbhmpkginebaaaDoorMg14
import Derived.Test.YtcbhmpkginebaaaDoorMfShBackLaw
namespace Go.Proofs.YtcbhmpkginebaaaDoor
set_option linter.unusedVariables false
set_option linter.unusedSimpArgs false
open Go.ChangeShapes Go.WideShapes Go.ChangeAt Go.RowKit

section
variable {w : World} {p : PrR}
theorem pregs_is (h : ProgIn w p) (hl : PrLim p) (ht : TabW w) {f a b : Int} (hr : regsE p.data f = (a, b)) :
    Calls Tryd.prog 17 #[p.val, .int .i64 f] w fun e w' => e = .returned (.tuple #[.int .i64 a, .int .i64 b]) ∧ Below w.heap.size w w' := by
  have := pregs_any h hl ht f
  rwa [hr] at this
theorem pplace_is (h : ProgIn w p) (hl : PrLim p) (ht : TabW w) {f r a b c : Int} (hr : placeE p.data f r = (a, b, c)) :
    Calls Tryd.prog 19 #[p.val, .int .i64 f, .int .i64 r] w fun e w' => e = .returned (.tuple #[.int .i64 a, .int .i64 b, .int .i64 c]) ∧ Below w.heap.size w w' := by
  have := pplace_any h hl ht f r
  rwa [hr] at this
theorem preg_is (h : ProgIn w p) (hl : PrLim p) (ht : TabW w) {f b i a c : Int} (hr : regE p.data f b i = (a, c)) :
    Calls Tryd.prog 21 #[p.val, .int .i64 f, .int .i64 b, .int .i64 i] w fun e w' => e = .returned (.tuple #[.int .i64 a, .int .i64 c]) ∧ Below w.heap.size w w' := by
  have := preg_any h hl ht f b i
  rwa [hr] at this
end
set_option maxRecDepth 100000 in
set_option maxHeartbeats 3200000 in
theorem walk_ShapeBack0 {w : World} {p : PrR} (h : ProgIn w p) (hf : ProgFit p) (ht : TabW w) (f r : Int) :
    Calls Tryd.prog 6 #[p.val, .int .i64 f, .int .i64 r] w fun e w' => e = .returned (.bool true) ∧ Below w.heap.size w w' := by
  have HP := Lib.hid h
  have HF := Lib.hid hf
  have HT := Lib.hid ht
  obtain ⟨n, e, hre⟩ : ∃ n e, regsE p.data f = (n, e) := ⟨_, _, rfl⟩
  obtain ⟨b, i, g, hpe⟩ : ∃ b i g, placeE p.data f r = (b, i, g) := ⟨_, _, _, rfl⟩
  have HRE := Lib.hid hre
  have HPE := Lib.hid hpe
  have HW1 := Lib.hid (BoxP.new w #[.slice p.ta p.types.length p.tc, .slice p.fa p.funs.length p.fc])
  have HGR := Lib.hid (fun W (hb : Below w.heap.size w W) => rgreat6_any (h.on hb) hf (m := 300) (by decide))
  have HRG := Lib.hid (fun W (hb : Below w.heap.size w W) (hl : PrLim p) => pregs_is (h.on hb) hl (ht.on hb) hre)
  have HPL := Lib.hid (fun W (hb : Below w.heap.size w W) (hl : PrLim p) => pplace_is (h.on hb) hl (ht.on hb) hpe)
  have HPL2 := Lib.hid (fun W (hb : Below w.heap.size w W) (hl : PrLim p) (c j k : Int) (h3 : placeE p.data f (r + 1) = (c, j, k)) => pplace_is (h.on hb) hl (ht.on hb) h3)
  have HRR := Lib.hid (fun W (hb : Below w.heap.size w W) (hl : PrLim p) (a c : Int) (h3 : regE p.data f b i = (a, c)) => preg_is (h.on hb) hl (ht.on hb) h3)
  obtain ⟨ta, tc, types, fa, fc, funs⟩ := p
  unfold PrR.val at *
  dsimp only at *
  clear h hf ht hre hpe
  go_enter Tryd.func6, Tryd.ntmps6
  go_wp2_with fail
  refine (alive_any _ (HT.out.on HW1.out.below)).mono ?_
  rintro e1 w2 ⟨rfl, hb2⟩
  have HW2 := Lib.hid (HW1.out.on hb2)
  clear hb2
  have x0 := HW2.out.p.cells 0
  have x1 := HW2.out.p.cells 1
  go_wp2_with fail
  refine (HGR.out _ HW2.out.below).mono ?_
  rintro e1 w3 ⟨gr, rfl, hgr, hb3⟩
  have HW3 := Lib.hid (HW2.out.on hb3)
  have HGG := Lib.hid hgr
  clear hb3 x0 x1 hgr
  cases gr with
  | true =>
    go_wp2_with fail
    go_ret
    exact ⟨rfl, HW3.out.below⟩
  | false =>
    have HL := Lib.hid ((HGG.out rfl).lim (by decide))
    have x0 := HW3.out.p.cells 0
    have x1 := HW3.out.p.cells 1
    go_wp2_with fail
    refine (HRG.out _ HW3.out.below HL.out).mono ?_
    rintro e1 w4 ⟨rfl, hb4⟩
    have HW4 := Lib.hid (HW3.out.on hb4)
    clear hb4 x0 x1
    have x0 := HW4.out.p.cells 0
    have x1 := HW4.out.p.cells 1
    go_wp2_with fail
    refine (HPL.out _ HW4.out.below HL.out).mono ?_
    rintro e1 w5 ⟨rfl, hb5⟩
    have HW5 := Lib.hid (HW4.out.on hb5)
    clear hb5 x0 x1
    by_cases ze : e = 0
    · subst ze
      by_cases zg : g = 0
      · subst zg
        by_cases zb : b < 0
        · obtain ⟨rfl, rfl, r0, r1⟩ := back_par HRE.out HPE.out zb
          have rg : i ≥ 0 := r0
          clear zb
          go_wp2_with fail
          go_ret
          exact ⟨ret_bool (by first | rfl | exact decide_eq_true r1), HW5.out.below⟩
        · obtain ⟨hreg, r0, r1, i0, i1⟩ := back_reg HRE.out HPE.out zb
          have hn := regs_few HL.out.parts HRE.out
          have hrn : ¬ n ≤ r := by omega
          have HREG := Lib.hid hreg
          obtain ⟨c, j, k, h3⟩ : ∃ c j k, placeE (PrR.data ⟨ta, tc, types, fa, fc, funs⟩) f (r + 1) = (c, j, k) := ⟨_, _, _, rfl⟩
          have HNX := Lib.hid (back_next HRE.out HPE.out zb h3)
          have H3 := Lib.hid h3
          clear hreg h3
          have x0 := HW5.out.p.cells 0
          have x1 := HW5.out.p.cells 1
          go_wp2_with fail
          refine (HRR.out _ HW5.out.below HL.out _ _ HREG.out).mono ?_
          rintro e1 w6 ⟨rfl, hb6⟩
          have HW6 := Lib.hid (HW5.out.on hb6)
          clear hb6 x0 x1
          have x0 := HW6.out.p.cells 0
          have x1 := HW6.out.p.cells 1
          go_wp2_with fail
          refine (HPL2.out _ HW6.out.below HL.out _ _ _ H3.out).mono ?_
          rintro e1 w7 ⟨rfl, hb7⟩
          have HW7 := Lib.hid (HW6.out.on hb7)
          clear hb7 x0 x1
          by_cases zk : k = 0
          · subst zk
            rcases HNX.out.2 rfl with ⟨rfl, rfl⟩ | ⟨hc, rfl⟩
            · go_wp2_with fail
              go_ret
              exact ⟨rfl, HW7.out.below⟩
            · have hcb : (c == b) = false := by rw [beq_eq_false_iff_ne]; omega
              go_wp2_with fail
              go_ret
              exact ⟨rfl, HW7.out.below⟩
          · have hrn2 := HNX.out.1 zk
            have ek : (k != 0) = true := bne_iff_ne.2 zk
            have hre : (r + 1 == n) = true := by rw [beq_iff_eq]; exact hrn2
            clear zk hrn2
            go_wp2_with fail
            go_ret
            exact ⟨ret_bool (by first | rfl | exact hre), HW7.out.below⟩
      · obtain ⟨_, rfl, rfl⟩ := back_bad HRE.out HPE.out (.inr zg)
        have eg : (g != 0) = true := bne_iff_ne.2 zg
        clear zg
        go_wp2_with fail
        go_ret
        exact ⟨rfl, HW5.out.below⟩
    · obtain ⟨hh, rfl, rfl⟩ := back_bad HRE.out HPE.out (.inl ze)
      obtain rfl : e = g := by rcases hh with hh | hh; exact absurd hh ze; exact hh
      have ee : (e != 0) = true := bne_iff_ne.2 ze
      have ee2 : (e == 0) = false := beq_eq_false_iff_ne.2 ze
      clear ze hh
      go_wp2_with fail
      go_ret
      exact ⟨rfl, HW5.out.below⟩
end Go.Proofs.YtcbhmpkginebaaaDoor
