/-
  The reference's word for whether two lists of instructions are the same.
-/
import Derived.Test.YtcbhmpkginebaaaDoorMg14
import Derived.Test.YtcbhmpkginebaaaDoorMfShOwn
import Derived.Deep.RegionHeld3
import Derived.Outline
namespace Go.Proofs.YtcbhmpkginebaaaDoor
set_option linter.unusedVariables false
set_option linter.unusedSimpArgs false
open Go.ChangeShapes Go.WideShapes Go.ChangeAt Go.RowKit

/-- Two instructions' boxes. -/
structure Two (w0 w : World) (t : TypeId) (gx gy : Nat) (x y : Array Value) : Prop where
  x : Blk w gx t x
  y : Blk w gy t y
  below : Below w0.heap.size w0 w
theorem Two.on {w0 w w' : World} {t : TypeId} {gx gy : Nat} {x y : Array Value} (h : Two w0 w t gx gy x y) (hb : Below w.heap.size w w') : Two w0 w' t gx gy x y := ⟨h.x.beneath hb, h.y.beneath hb, h.below.trans (hb.mono h.below.size)⟩
def insD (l : List InR) : List PIns := l.map InR.data
theorem insD_len (l : List InR) : (insD l).length = l.length := List.length_map ..
theorem insD_at {l : List InR} {k : Nat} (h : k < l.length) : (insD l).getD k default = (l.getD k default).data := map_getD InR.data l h
theorem same_bool {a b : Int} (h : a = b) : (a != b) = false := by rw [h]; simp
theorem same_boolN {a b : Nat} (h : a = b) : ((a : Int) != (b : Int)) = false := by rw [h]; simp
theorem ne_bool {a b : Int} (h : a ≠ b) : (a != b) = true := bne_iff_ne.2 h
theorem ne_boolN {a b : Nat} (h : a ≠ b) : ((a : Int) != (b : Int)) = true := bne_iff_ne.2 (by omega)
theorem sames_is {w : World} {A A' : Option Addr} {c c' : Nat} {xs ys : List Int} (hh : Hdr A xs.length c) (hx : IntsAt w 0 w.heap.size A xs) (hh' : Hdr A' ys.length c') (hy : IntsAt w 0 w.heap.size A' ys) {b : Bool} (hb : decide (xs = ys) = b) :
    Calls Tryd.prog 11 #[.slice A xs.length c, .slice A' ys.length c'] w fun e w' => e = .returned (.bool b) ∧ Below w.heap.size w w' := hb ▸ sameInts_any hh hx hh' hy
set_option maxRecDepth 100000 in
set_option maxHeartbeats 6400000 in
theorem rsameIns_any {w : World} {A A' : Option Addr} {c c' : Nat} {xs ys : List InR} (h : InsAt w A c xs) (h' : InsAt w A' c' ys) :
    Calls Tryd.prog 69 #[.slice A xs.length c, .slice A' ys.length c'] w fun e w' => e = .returned (.bool (decide (insD xs = insD ys))) ∧ Below w.heap.size w w' := by
  have hl := h.hdr.cle
  have hl' := h'.hdr.cle
  have HX := Lib.hid h
  have HY := Lib.hid h'
  clear h h'
  by_cases hlen : xs.length = ys.length
  · have q : (xs.length : Int) = ys.length := by omega
    clear hlen
    go_enter Tryd.func69, Tryd.ntmps69
    go_wp2_with fail
    go_loopw [5] (fun i wr => ∃ k : Nat, k ≤ xs.length ∧ i = .int .i64 k ∧ Hid ((insD xs).take k = (insD ys).take k) ∧ Hid (Below w.heap.size w wr)) (fun i _ => xs.length - (intOf i).toNat)
    case atStart => exact ⟨0, Nat.zero_le _, rfl, Lib.hid rfl, Lib.hid (Below.refl _ _)⟩
    case round =>
      obtain ⟨k, hk, rfl, HT, HB⟩ := hrel
      by_cases hlt : k < xs.length
      · have hlt' : k < ys.length := by omega
        obtain ⟨b, off, r, rfl, hb, ⟨d0, d1, d2, d3, d4, d5, d6⟩, hr, HE⟩ := (HX.out.on HB.out).elem hlt
        obtain ⟨b', off', r', rfl, hb', ⟨d0', d1', d2', d3', d4', d5', d6'⟩, hr', HE'⟩ := (HY.out.on HB.out).elem hlt'
        have HNE : Hid (r.data ≠ r'.data → insD xs ≠ insD ys) := Lib.hid (fun hn => ne_of_getD (d := default) (k := k) (by rw [insD_at hlt, insD_at hlt', HE.out, HE'.out]; exact hn))
        have HEQ : Hid (r.data = r'.data → (insD xs).take (k + 1) = (insD ys).take (k + 1)) := Lib.hid (fun he => take_eq_succ (d := default) HT.out (by rw [insD_len]; exact hlt) (by rw [insD_len]; exact hlt') (by rw [insD_at hlt, insD_at hlt', HE.out, HE'.out]; exact he))
        have hk0 : (0 : Int) ≤ (k : Int) := Int.natCast_nonneg _
        have hk1 : (k : Int) < (xs.length : Int) := by omega
        have hk2 : (k : Int) < (ys.length : Int) := by omega
        have HLT := Lib.hid hlt
        have HR := Lib.hid hr
        have HR' := Lib.hid hr'
        obtain ⟨op, ty, xa, xb, xn, aa, ac, args, fa, fc, from_⟩ := r
        obtain ⟨op', ty', xa', xb', xn', aa', ac', args', fa', fc', from_'⟩ := r'
        dsimp only at *
        have hal := hr.ahdr.cle
        have hfl := hr.fhdr.cle
        have hal' := hr'.ahdr.cle
        have hfl' := hr'.fhdr.cle
        have n1 : wr.heap.size ≠ b := by omega
        have n2 : wr.heap.size ≠ b' := by omega
        have n3 : wr.heap.size + 1 ≠ b := by omega
        have n4 : wr.heap.size + 1 ≠ b' := by omega
        clear hr hr' hlt hlt' HE HE'
        go_wp2_with fail
        go_upto_region 7 with fail
        go_cut [6, 7] (fun x y wx => ∃ gx gy : Nat, x = .pointer (some ⟨gx, 0, none⟩) ∧ y = .pointer (some ⟨gy, 0, none⟩) ∧ Hid (Two wr wx 24 gx gy #[.int .u8 op, .int .i64 ty, .int .i64 xa, .int .i64 xb, .int .i64 xn, .slice aa args.length ac, .slice fa from_.length fc] #[.int .u8 op', .int .i64 ty', .int .i64 xa', .int .i64 xb', .int .i64 xn', .slice aa' args'.length ac', .slice fa' from_'.length fc']))
        case first =>
          go_region_held3 (fun w' => w'.cell? ⟨b, off + k * 7, none⟩ = some (.int .u8 op) ∧ w'.cell? ⟨b, off + k * 7 + 1, none⟩ = some (.int .i64 ty) ∧ w'.cell? ⟨b, off + k * 7 + 2, none⟩ = some (.int .i64 xa) ∧ w'.cell? ⟨b, off + k * 7 + 3, none⟩ = some (.int .i64 xb) ∧ w'.cell? ⟨b, off + k * 7 + 4, none⟩ = some (.int .i64 xn) ∧ w'.cell? ⟨b, off + k * 7 + 5, none⟩ = some (.slice aa args.length ac) ∧ w'.cell? ⟨b, off + k * 7 + 6, none⟩ = some (.slice fa from_.length fc) ∧ w'.cell? ⟨b', off' + k * 7, none⟩ = some (.int .u8 op') ∧ w'.cell? ⟨b', off' + k * 7 + 1, none⟩ = some (.int .i64 ty') ∧ w'.cell? ⟨b', off' + k * 7 + 2, none⟩ = some (.int .i64 xa') ∧ w'.cell? ⟨b', off' + k * 7 + 3, none⟩ = some (.int .i64 xb') ∧ w'.cell? ⟨b', off' + k * 7 + 4, none⟩ = some (.int .i64 xn') ∧ w'.cell? ⟨b', off' + k * 7 + 5, none⟩ = some (.slice aa' args'.length ac') ∧ w'.cell? ⟨b', off' + k * 7 + 6, none⟩ = some (.slice fa' from_'.length fc')) (go_keep) (fail)
          all_goals
            go_wp2_with fail
            go_meet
            first
              | exact ⟨_, _, rfl, rfl, Lib.hid ⟨((Blk.new _ _ _).alloc _).drew, (Blk.new2 _ _ _ _).drew, (((Below.refl _ _).alloc (Nat.le_refl _) _).alloc (by rw [World.size_alloc]; omega) _).drew⟩⟩
              | exact ⟨_, _, rfl, rfl, Lib.hid ⟨(Blk.new2 _ _ _ _).drew, ((Blk.new _ _ _).alloc _).drew, (((Below.refl _ _).alloc (Nat.le_refl _) _).alloc (by rw [World.size_alloc]; omega) _).drew⟩⟩
        case rest =>
          clear d0 d1 d2 d3 d4 d5 d6 d0' d1' d2' d3' d4' d5' d6' n1 n2 n3 n4 hb hb'
          obtain ⟨gx, gy, rfl, rfl, HW⟩ := hcut
          have x0 := HW.out.x.cells 0; have x1 := HW.out.x.cells 1; have x2 := HW.out.x.cells 2; have x3 := HW.out.x.cells 3; have x4 := HW.out.x.cells 4; have x5 := HW.out.x.cells 5; have x6 := HW.out.x.cells 6; have y0 := HW.out.y.cells 0; have y1 := HW.out.y.cells 1; have y2 := HW.out.y.cells 2; have y3 := HW.out.y.cells 3; have y4 := HW.out.y.cells 4; have y5 := HW.out.y.cells 5; have y6 := HW.out.y.cells 6
          by_cases e0 : op = op'
          · subst e0
            by_cases e1 : ty = ty'
            · subst e1
              by_cases e2 : xa = xa'
              · subst e2
                by_cases e3 : xb = xb'
                · subst e3
                  by_cases e4 : xn = xn'
                  · subst e4
                    obtain ⟨q5, hq5⟩ : ∃ q, decide (args = args') = q := ⟨_, rfl⟩
                    have HQ5 := Lib.hid hq5
                    clear hq5
                    have HB2 := Lib.hid (HB.out.trans (HW.out.below.mono HB.out.size))
                    go_wp2_with fail
                    refine (sames_is HR.out.ahdr (HR.out.args.up HW.out.below) HR'.out.ahdr (HR'.out.args.up HW.out.below) HQ5.out).mono ?_
                    rintro e w2 ⟨rfl, hb2⟩
                    have HW2 := Lib.hid (HW.out.on hb2)
                    clear hb2 x0 x1 x2 x3 x4 x5 x6 y0 y1 y2 y3 y4 y5 y6
                    have x0 := HW2.out.x.cells 0; have x1 := HW2.out.x.cells 1; have x2 := HW2.out.x.cells 2; have x3 := HW2.out.x.cells 3; have x4 := HW2.out.x.cells 4; have x5 := HW2.out.x.cells 5; have x6 := HW2.out.x.cells 6; have y0 := HW2.out.y.cells 0; have y1 := HW2.out.y.cells 1; have y2 := HW2.out.y.cells 2; have y3 := HW2.out.y.cells 3; have y4 := HW2.out.y.cells 4; have y5 := HW2.out.y.cells 5; have y6 := HW2.out.y.cells 6
                    cases q5 with
                    | false =>
                      have HN := Lib.hid (HNE.out (fun h => by injection h with _ _ _ _ _ h _; exact of_decide_eq_false HQ5.out h))
                      go_wp2_with fail
                      go_ret
                      exact ⟨ret_bool (by rw [decide_eq_false HN.out]), HB.out.trans (HW2.out.below.mono HB.out.size)⟩
                    | true =>
                      obtain ⟨q6, hq6⟩ : ∃ q, decide (from_ = from_') = q := ⟨_, rfl⟩
                      have HQ6 := Lib.hid hq6
                      clear hq6
                      go_wp2_with fail
                      refine (sames_is HR.out.fhdr (HR.out.from_.up HW2.out.below) HR'.out.fhdr (HR'.out.from_.up HW2.out.below) HQ6.out).mono ?_
                      rintro e w3 ⟨rfl, hb3⟩
                      have HW3 := Lib.hid (HW2.out.on hb3)
                      clear hb3 x0 x1 x2 x3 x4 x5 x6 y0 y1 y2 y3 y4 y5 y6
                      cases q6 with
                      | false =>
                        have HN := Lib.hid (HNE.out (fun h => by injection h with _ _ _ _ _ _ h; exact of_decide_eq_false HQ6.out h))
                        go_wp2_with fail
                        go_ret
                        exact ⟨ret_bool (by rw [decide_eq_false HN.out]), HB.out.trans (HW3.out.below.mono HB.out.size)⟩
                      | true =>
                        have HE2 := Lib.hid (HEQ.out (by rw [InR.data, InR.data]; dsimp only; rw [of_decide_eq_true HQ5.out, of_decide_eq_true HQ6.out]))
                        have HB4 := Lib.hid (HB.out.trans (HW3.out.below.mono HB.out.size))
                        go_wp2_with fail
                        go_roundw
                        case rel => exact ⟨k + 1, by have := HLT.out; omega, by go_num, HE2, HB4⟩
                        case measure => simp [intOf]; have := HLT.out; omega
                  · have z4 := ne_bool e4
                    have E4 := Lib.hid e4
                    clear e4
                    have HN := Lib.hid (HNE.out (fun h => by injection h with _ _ _ _ h _ _; exact E4.out h))
                    go_wp2_with fail
                    go_ret
                    exact ⟨ret_bool (by rw [decide_eq_false HN.out]), HB.out.trans (HW.out.below.mono HB.out.size)⟩
                · have z3 := ne_bool e3
                  have E3 := Lib.hid e3
                  clear e3
                  have HN := Lib.hid (HNE.out (fun h => by injection h with _ _ _ h _ _ _; exact E3.out h))
                  go_wp2_with fail
                  go_ret
                  exact ⟨ret_bool (by rw [decide_eq_false HN.out]), HB.out.trans (HW.out.below.mono HB.out.size)⟩
              · have z2 := ne_bool e2
                have E2 := Lib.hid e2
                clear e2
                have HN := Lib.hid (HNE.out (fun h => by injection h with _ _ h _ _ _ _; exact E2.out h))
                go_wp2_with fail
                go_ret
                exact ⟨ret_bool (by rw [decide_eq_false HN.out]), HB.out.trans (HW.out.below.mono HB.out.size)⟩
            · have z1 := ne_bool e1
              have E1 := Lib.hid e1
              clear e1
              have HN := Lib.hid (HNE.out (fun h => by injection h with _ h _ _ _ _ _; exact E1.out h))
              go_wp2_with fail
              go_ret
              exact ⟨ret_bool (by rw [decide_eq_false HN.out]), HB.out.trans (HW.out.below.mono HB.out.size)⟩
          · have z0 := ne_boolN e0
            have E0 := Lib.hid e0
            clear e0
            have HN := Lib.hid (HNE.out (fun h => by injection h with h _ _ _ _ _ _; exact E0.out h))
            go_wp2_with fail
            go_ret
            exact ⟨ret_bool (by rw [decide_eq_false HN.out]), HB.out.trans (HW.out.below.mono HB.out.size)⟩
      · go_wp2_with fail
        go_ret
        exact ⟨ret_bool (by rw [decide_eq_true]; have := HT.out; rwa [List.take_of_length_le (by rw [insD_len]; omega), List.take_of_length_le (by rw [insD_len]; omega)] at this), HB.out⟩
  · have q : ¬ (xs.length : Int) = ys.length := by omega
    have HN : Hid (insD xs ≠ insD ys) := Lib.hid (fun h => hlen (by rw [← insD_len xs, h, insD_len]))
    clear hlen
    go_enter Tryd.func69, Tryd.ntmps69
    go_wp2_with fail
    go_ret
    exact ⟨ret_bool (by rw [decide_eq_false HN.out]), Below.refl _ _⟩
end Go.Proofs.YtcbhmpkginebaaaDoor
