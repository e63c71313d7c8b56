/-
  The walk of ShapeTells.
-/
import Derived.Test.YtcbhmpkginebaaaDoorMg14
import Derived.Test.YtcbhmpkginebaaaDoorMfShapeAsks
import Derived.Test.YtcbhmpkginebaaaDoorMfShTwinP
import Derived.Test.YtcbhmpkginebaaaDoorMfShSameP2
namespace Go.Proofs.YtcbhmpkginebaaaDoor
set_option linter.unusedVariables false
set_option linter.unusedSimpArgs false
open Go.ChangeShapes Go.WideShapes Go.ChangeAt Go.RowKit

theorem same_of {x p o : PrR} (h : x.data = p.data) : sameB x o = sameB p o := by
  rw [Bool.eq_iff_iff, same_data, same_data, h]
theorem psame6_is {w : World} {p o : PrR} (h : ProgIn w p) (h' : ProgIn w o) {b : Bool} (hb : sameB p o = b) :
    Calls Tryd.prog 30 #[p.val, o.val] w fun e w' => e = .returned (.bool b) ∧ Below w.heap.size w w' := hb ▸ psame6_any h h'
/-- Three programs' boxes. -/
structure Three (w0 w : World) (g1 g2 g3 : Nat) (p o x : Array Value) : Prop where
  p : Blk w g1 35 p
  o : Blk w g2 35 o
  x : Blk w g3 35 x
  below : Below w0.heap.size w0 w
theorem Three.on {w0 w w' : World} {g1 g2 g3 : Nat} {p o x : Array Value} (h : Three w0 w g1 g2 g3 p o x) (hb : Below w.heap.size w w') : Three w0 w' g1 g2 g3 p o x := ⟨h.p.beneath hb, h.o.beneath hb, h.x.beneath hb, h.below.trans (hb.mono h.below.size)⟩
set_option maxRecDepth 100000 in
set_option maxHeartbeats 6400000 in
theorem walk_ShapeTells0 {w : World} {p o : PrR} (h : ProgIn w p) (hf : ProgFit p) (h' : ProgIn w o) (hf' : ProgFit o) (ht : TabW w) :
    Calls Tryd.prog 7 #[p.val, o.val] w fun e w' => e = .returned (.bool true) ∧ Below w.heap.size w w' := by
  obtain ⟨c, hc⟩ : ∃ c, checkP p.data = c := ⟨_, rfl⟩
  obtain ⟨z, hz⟩ : ∃ z, sameB p o = z := ⟨_, rfl⟩
  have HT := Lib.hid ht
  have HGR := Lib.hid (fun W (hb : Below w.heap.size w W) => rgreat6_any (h.on hb) hf (m := 300) (by decide))
  have HGO := Lib.hid (fun W (hb : Below w.heap.size w W) => rgreat6_any (h'.on hb) hf' (m := 300) (by decide))
  have HTW := Lib.hid (fun W (hb : Below w.heap.size w W) (hl : PrLim p) (hn : p.types.length ≤ 1000) => rtwin6_any (h.on hb) hl hn)
  have HRC := Lib.hid (fun W (hb : Below w.heap.size w W) (hl : PrLim p) => rpcheck_is (h.on hb) hl hc)
  have HRS := Lib.hid (fun W (hb : Below w.heap.size w W) => rsame6_is (h.on hb) (h'.on hb) hz)
  have HPC := Lib.hid (fun W (x : PrR) (hx : ProgIn W x) (hl : PrLim x) (ht : TabW W) (hd : x.data = p.data) => ppcheck_is hx hl ht (hd ▸ hc))
  have HPS := Lib.hid (fun W (hb : Below w.heap.size w W) (x : PrR) (hx : ProgIn W x) (hd : x.data = p.data) => psame6_is hx (h'.on hb) ((same_of hd).trans hz))
  have HPT := Lib.hid (fun W (hb : Below w.heap.size w W) (x : PrR) (hx : ProgIn W x) (hd : x.data = p.data) => psame6_is hx (h.on hb) (same_data.2 hd))
  have HRT := Lib.hid (fun W (hb : Below w.heap.size w W) (x : PrR) (hx : ProgIn W x) (hd : x.data = p.data) => rsame6_is hx (h.on hb) (same_data.2 hd))
  have HBX : Hid (Two w ((w.alloc (.cells #[.slice p.ta p.types.length p.tc, .slice p.fa p.funs.length p.fc] 35)).alloc (.cells #[.slice o.ta o.types.length o.tc, .slice o.fa o.funs.length o.fc] 35)) 35 w.heap.size (w.heap.size + 1) #[.slice p.ta p.types.length p.tc, .slice p.fa p.funs.length p.fc] #[.slice o.ta o.types.length o.tc, .slice o.fa o.funs.length o.fc]) :=
    Lib.hid ⟨(Blk.new _ _ _).alloc _, Blk.new2 _ _ _ _, ((Below.refl _ _).alloc (Nat.le_refl _) _).alloc (by rw [World.size_alloc]; omega) _⟩
  obtain ⟨ta, tc, types, fa, fc, funs⟩ := p
  obtain ⟨oa, oc, otypes, ga, gc, ofuns⟩ := o
  unfold PrR.val at *
  dsimp only at *
  clear h hf h' hf' ht hc hz
  go_enter Tryd.func7, Tryd.ntmps7
  go_wp2_with fail
  refine (HGR.out _ HBX.out.below).mono ?_
  rintro e1 w3 ⟨gr, rfl, hgr, hb3⟩
  have HW3 := Lib.hid (HBX.out.on hb3)
  have HGG := Lib.hid hgr
  clear hb3 hgr
  cases gr with
  | true =>
    go_wp2_with fail
    go_ret
    exact ⟨rfl, HW3.out.below⟩
  | false =>
    have HL := Lib.hid ((HGG.out rfl).lim (by decide))
    have HTL := Lib.hid (Nat.le_trans (HGG.out rfl).types (by omega : 20 ≤ 1000))
    have y0 := HW3.out.y.cells 0
    have y1 := HW3.out.y.cells 1
    go_wp2_with fail
    refine (HGO.out _ HW3.out.below).mono ?_
    rintro e1 w4 ⟨gr, rfl, hgr, hb4⟩
    have HW4 := Lib.hid (HW3.out.on hb4)
    have HGH := Lib.hid hgr
    clear hb4 hgr y0 y1
    cases gr with
    | true =>
      go_wp2_with fail
      go_ret
      exact ⟨rfl, HW4.out.below⟩
    | false =>
      have x0 := HW4.out.x.cells 0
      have x1 := HW4.out.x.cells 1
      go_wp2_with fail
      refine (HTW.out _ HW4.out.below HL.out HTL.out).mono ?_
      rintro e1 w5 ⟨x, rfl, hox, hdx, hb5⟩
      have HW5 := Lib.hid (HW4.out.on hb5)
      have HD := Lib.hid hdx
      have HLX := Lib.hid (HL.out.same hdx)
      have HTX : Hid (x.types.length ≤ 1000) := Lib.hid (by rw [types_same hdx]; exact HTL.out)
      have HX := Lib.hid hox.prog.1
      have HTP := Lib.hid (fun W (hb : Below w5.heap.size w5 W) => ptwin6_any (HX.out.on hb) HLX.out HTX.out)
      obtain ⟨xa, xc, xt, ya, yc, xf⟩ := x
      unfold PrR.val at *
      dsimp only at *
      have HZ0 : Hid (Three w (w5.alloc (.cells #[.slice xa xt.length xc, .slice ya xf.length yc] 35)) w.heap.size (w.heap.size + 1) w5.heap.size #[.slice ta types.length tc, .slice fa funs.length fc] #[.slice oa otypes.length oc, .slice ga ofuns.length gc] #[.slice xa xt.length xc, .slice ya xf.length yc]) :=
        Lib.hid ⟨HW5.out.x.alloc _, HW5.out.y.alloc _, Blk.new _ _ _, HW5.out.below.alloc HW5.out.below.size _⟩
      obtain ⟨W6, hW6⟩ : ∃ W6, w5.alloc (.cells #[.slice xa xt.length xc, .slice ya xf.length yc] 35) = W6 := ⟨_, rfl⟩
      have HB6 : Hid (Below w5.heap.size w5 W6) := Lib.hid (hW6 ▸ ((Below.refl _ _).alloc (Nat.le_refl _) _))
      rw [hW6] at HZ0
      have HX6 := Lib.hid (HX.out.on HB6.out)
      have HW6 := Lib.hid hW6
      clear hb5 x0 x1 hox hdx hW6
      go_wp2_with fail
      rw [HW6.out]
      refine (HTP.out _ HB6.out).mono ?_
      rintro e1 w7 ⟨y, rfl, hoy, hdy, hb7⟩
      have HZ7 := Lib.hid (HZ0.out.on hb7)
      have HX7 := Lib.hid (HX6.out.on hb7)
      have HDY := Lib.hid (hdy.trans HD.out)
      have HY := Lib.hid hoy.prog.1
      have HMY := Lib.hid hoy.mine
      have HB7 := Lib.hid hb7
      obtain ⟨va, vc, vt, ua, uc, vf⟩ := y
      unfold PrR.val at *
      dsimp only at *
      clear hoy hdy hb7
      go_upto_region 5 with fail
      have HNB8 : Hid (Below w7.heap.size w7 (w7.alloc (.cells #[.slice va vt.length vc, .slice ua vf.length uc] 35))) := Lib.hid ((Below.refl _ _).alloc (Nat.le_refl _) _)
      have HYB : Hid (Blk (w7.alloc (.cells #[.slice va vt.length vc, .slice ua vf.length uc] 35)) w7.heap.size 35 #[.slice va vt.length vc, .slice ua vf.length uc]) := Lib.hid (Blk.new _ _ _)
      obtain ⟨W8, hW8⟩ : ∃ W8, w7.alloc (.cells #[.slice va vt.length vc, .slice ua vf.length uc] 35) = W8 := ⟨_, rfl⟩
      rw [hW8] at HNB8 HYB ⊢
      have HZ8 := Lib.hid (HZ7.out.on HNB8.out)
      have HX8 := Lib.hid (HX7.out.on HNB8.out)
      have HY8 := Lib.hid (HY.out.on HNB8.out)
      have HMY8 := Lib.hid (HMY.out.keep HNB8.out)
      have HB8 : Hid (Below W6.heap.size W6 W8) := Lib.hid (HB7.out.trans (HNB8.out.mono HB7.out.size))
      clear hW8
      have p0 := HZ8.out.p.cells 0
      have p1 := HZ8.out.p.cells 1
      have o0 := HZ8.out.o.cells 0
      have o1 := HZ8.out.o.cells 1
      have x0 := HZ8.out.x.cells 0
      have x1 := HZ8.out.x.cells 1
      have y0 := HYB.out.cells 0
      have y1 := HYB.out.cells 1
      have HBW := Lib.hid HZ8.out.below
      have C1 : Hid (∀ n : Off W8, Calls Tryd.prog 27 #[.agg #[.slice xa xt.length xc, .slice ya xf.length yc]] n.val fun e w'' => e = .returned (.int .i64 c) ∧ ∃ m : Off W8, w'' = m.val) := Lib.hid (fun n => Calls.off (HPC.out n.val ⟨xa, xc, xt, ya, yc, xf⟩ (HX8.out.on n.below) HLX.out (HT.out.on (HBW.out.trans (n.below.mono HBW.out.size))) HD.out))
      have C2 : Hid (∀ n : Off W8, Calls Tryd.prog 29 #[.agg #[.slice ta types.length tc, .slice fa funs.length fc]] n.val fun e w'' => e = .returned (.int .i64 c) ∧ ∃ m : Off W8, w'' = m.val) := Lib.hid (fun n => Calls.off (HRC.out n.val (HBW.out.trans (n.below.mono HBW.out.size)) HL.out))
      have C3 : Hid (∀ n : Off W8, Calls Tryd.prog 30 #[.agg #[.slice xa xt.length xc, .slice ya xf.length yc], .agg #[.slice oa otypes.length oc, .slice ga ofuns.length gc]] n.val fun e w'' => e = .returned (.bool z) ∧ ∃ m : Off W8, w'' = m.val) := Lib.hid (fun n => Calls.off (HPS.out n.val (HBW.out.trans (n.below.mono HBW.out.size)) ⟨xa, xc, xt, ya, yc, xf⟩ (HX8.out.on n.below) HD.out))
      have C4 : Hid (∀ n : Off W8, Calls Tryd.prog 23 #[.agg #[.slice ta types.length tc, .slice fa funs.length fc], .agg #[.slice oa otypes.length oc, .slice ga ofuns.length gc]] n.val fun e w'' => e = .returned (.bool z) ∧ ∃ m : Off W8, w'' = m.val) := Lib.hid (fun n => Calls.off (HRS.out n.val (HBW.out.trans (n.below.mono HBW.out.size))))
      have C5 : Hid (∀ n : Off W8, Calls Tryd.prog 30 #[.agg #[.slice xa xt.length xc, .slice ya xf.length yc], .agg #[.slice ta types.length tc, .slice fa funs.length fc]] n.val fun e w'' => e = .returned (.bool true) ∧ ∃ m : Off W8, w'' = m.val) := Lib.hid (fun n => Calls.off (HPT.out n.val (HBW.out.trans (n.below.mono HBW.out.size)) ⟨xa, xc, xt, ya, yc, xf⟩ (HX8.out.on n.below) HD.out))
      have C6 : Hid (∀ n : Off W8, Calls Tryd.prog 23 #[.agg #[.slice va vt.length vc, .slice ua vf.length uc], .agg #[.slice ta types.length tc, .slice fa funs.length fc]] n.val fun e w'' => e = .returned (.bool true) ∧ ∃ m : Off W8, w'' = m.val) := Lib.hid (fun n => Calls.off (HRT.out n.val (HBW.out.trans (n.below.mono HBW.out.size)) ⟨va, vc, vt, ua, uc, vf⟩ (HY8.out.on n.below) HDY.out))
      cases z
      all_goals
        refine wp_region_off (by kernel_rfl) (by kernel_rfl) ?_
        rintro W rfl
        have op0 := fun m => Off.at p0 m
        have op1 := fun m => Off.at p1 m
        have oo0 := fun m => Off.at o0 m
        have oo1 := fun m => Off.at o1 m
        have ox0 := fun m => Off.at x0 m
        have ox1 := fun m => Off.at x1 m
        have oy0 := fun m => Off.at y0 m
        have oy1 := fun m => Off.at y1 m
        repeat (go_big_quiet_step (first
          | (go_at_call 27; with_reducible exact C1.out _)
          | (go_at_call 29; with_reducible exact C2.out _)
          | (go_at_call 30; with_reducible exact C3.out _)
          | (go_at_call 23; with_reducible exact C4.out _)
          | (go_at_call 30; with_reducible exact C5.out _)
          | (go_at_call 23; with_reducible exact C6.out _)))
        refine wpQuiet_nil ?_
        intro w9 hw9
        obtain ⟨⟨w9, hb9⟩, rfl⟩ := hw9
        have HZ9 := Lib.hid (HZ8.out.on hb9)
        have HB9 := Lib.hid (HB8.out.trans (hb9.mono HB8.out.size))
        have HSP := Lib.hid (spoil_any (HY8.out.on hb9) (HMY8.out.keep hb9) HB9.out.size)
        have y0' := (HYB.out.beneath hb9).cells 0
        have y1' := (HYB.out.beneath hb9).cells 1
        clear hb9 p0 p1 o0 o1 x0 x1 y0 y1 op0 op1 oo0 oo1 ox0 ox1 oy0 oy1
        unfold PrR.val at HSP
        dsimp only at HSP
        go_wp2_with fail
      all_goals
        refine HSP.out.mono ?_
        rintro e1 w10 ⟨⟨v, rfl⟩, hb10⟩
        have HB10 := Lib.hid (HB9.out.trans hb10)
        have HZ10 := Lib.hid (HZ0.out.on HB10.out)
        have HX10 := Lib.hid (HX6.out.on HB10.out)
        have p0 := HZ10.out.p.cells 0
        have p1 := HZ10.out.p.cells 1
        have x0 := HZ10.out.x.cells 0
        have x1 := HZ10.out.x.cells 1
        clear hb10 y0' y1'
        go_wp2_with fail
        refine (HRT.out w10 HZ10.out.below ⟨xa, xc, xt, ya, yc, xf⟩ HX10.out HD.out).mono ?_
        rintro e1 w11 ⟨rfl, hb11⟩
        have HZ11 := Lib.hid (HZ10.out.on hb11)
        clear hb11 p0 p1 x0 x1
        go_wp2_with fail
        go_ret
        exact ⟨rfl, HZ11.out.below⟩
end Go.Proofs.YtcbhmpkginebaaaDoor
