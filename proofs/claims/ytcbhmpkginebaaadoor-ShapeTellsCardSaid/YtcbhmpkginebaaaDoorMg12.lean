/-
  Words for the step from a walk to a statement: all arguments read behind the call as they read before, where nothing below the old heap's size has turned. Lists of numbers: compared, copied, written. The walk of the law ShapeUses.
-/
import Derived.Test.YtcbhmpkginebaaaDoorMg11
import Derived.Test.YtcbhmpkginebaaaDoorRows
import Derived.WalkKit
import Derived.ProofKit
import Derived.OpenShut
import Derived.ShutString
import Derived.ChangeOld
import Derived.Below
import Derived.Carry
import Derived.BigQuiet
import Derived.Deep.QuietTactic
import Derived.OwnWalk
import Derived.Laws.OwnMore
import Derived.Deep.RegionHeld3
namespace Go.Proofs.YtcbhmpkginebaaaDoor
set_option linter.unusedVariables false
set_option linter.unusedSimpArgs false
open Go.ChangeShapes Go.WideShapes Go.ChangeAt Go.RowKit

theorem own : ownKnob Tryd.prog.godebug = none := by kernel_rfl
theorem laidOut : laidOutB Tryd.prog = true := by kernel_rfl

theorem trodAll_below {H : Type} {enc : TypeId × Value → H} {P : Program} (hl : laidOutB P = true) {W W' : World} :
    ∀ {ts : List TypeId} {vs : List Value} {ds : List (DataW H)} {ps : List MemPlace}, (ts.all fun t => P.readableRec t && decide (t < P.types.size)) = true →
      DataW.TrodAll enc P W 0 (fun _ => true) true ts vs ds ps → Below W.heap.size W W' → DataW.TrodAll enc P W' 0 (fun b => decide (b < W.heap.size)) true ts vs ds ps
  | [], vs, ds, ps, _, h, _ => by
    obtain ⟨rfl, rfl, rfl⟩ := trodAll_nil h
    exact trodAll_mk0
  | t :: ts, vs, ds, ps, ht, h, hb => by
    have hlt := DataW.TrodAll.lt h
    obtain ⟨v, vs', d, ds', p, q, rfl, rfl, rfl, h0, hr⟩ := trodAll_cons h
    simp only [List.all_cons, Bool.and_eq_true, decide_eq_true_eq] at ht
    exact trodAll_cons_mk (Below.trod hl ht.1.1 ht.1.2 h0 hb (fun x hx => hlt x (by simp [hx]))) (trodAll_below hl ht.2 hr hb)

end Go.Proofs.YtcbhmpkginebaaaDoor
namespace Go.Proofs.YtcbhmpkginebaaaDoor
set_option linter.unusedVariables false
set_option linter.unusedSimpArgs false
open Go.ChangeShapes Go.WideShapes Go.ChangeAt Go.RowKit

/-- A number laid into a list of the call's own. -/
theorem OwnInts.spot {w : World} {lo c : Nat} {A : Option Addr} {xs : List Int} (h : OwnInts w lo (.slice A xs.length c) xs) {j : Nat} (hj : j < xs.length) :
    ∃ g, A = some ⟨g, 0, none⟩ ∧ lo ≤ g ∧ w.cell? ⟨g, j, none⟩ = some (.int .i64 (xs.getD j 0)) ∧ w.frozen? ⟨g, j, none⟩ = false ∧ ∀ z : Int, OwnInts (w.setCell ⟨g, j, none⟩ (.int .i64 z)) lo (.slice A xs.length c) (xs.set j z) := by
  rcases h.2 with ⟨_, hn⟩ | ⟨g, cap, cur, he, hb, _⟩
  · exact absurd hn (by omega)
  · injection he with h1 _ h3
    subst h1
    have h' : w.ownsRow lo 3 1 (.slice (some ⟨g, 0, none⟩) xs.length c) xs.length (xs.map (Value.int .i64)) := h
    refine ⟨g, rfl, hb, ?_, h'.frozenAt j, fun z => ?_⟩
    · rw [h'.cellAt j (by omega), List.getElem?_map, List.getElem?_eq_getElem hj]
      simp [List.getD, List.getElem?_eq_getElem hj]
    · have h2 := (h'.stored j (.int .i64 z)).1
      unfold OwnInts
      rw [List.length_set, List.map_set]
      exact h2

theorem OwnInts.full {w : World} {lo : Nat} {v : Value} {xs : List Int} (h : OwnInts w lo v xs) : ∃ A c, v = .slice A xs.length c ∧ Hdr A xs.length c ∧ IntsAt w 0 w.heap.size A xs := by
  obtain ⟨A, c, hv, hn, hi, h1, h2⟩ := h.form
  exact ⟨A, c, hv, ⟨h1, h2, hn⟩, hi.more (Nat.zero_le _) (Nat.le_refl _)⟩
theorem ransw_is {op : Nat} {b : Bool} (h : hasT op 5 = b) (w : World) : Calls Tryd.prog 10 #[.int .u8 op] w fun e w' => e = .returned (.bool b) ∧ Below w.heap.size w w' := h ▸ ranswers_any op w
theorem ownInts_zero (w : World) (lo g : Nat) (h : lo ≤ w.heap.size) (hg : g = w.heap.size) : OwnInts (w.alloc (.cells #[] 3)) lo (.slice (some ⟨g, 0, none⟩) 0 0) [] := by
  subst hg
  exact World.ownsRow_lit w #[] 0 h (by unfold maxLen; omega) rfl
end Go.Proofs.YtcbhmpkginebaaaDoor
namespace Go.Proofs.YtcbhmpkginebaaaDoor
set_option linter.unusedVariables false
set_option linter.unusedSimpArgs false
open Go.ChangeShapes Go.WideShapes Go.ChangeAt Go.RowKit

theorem Blk.newAt {w : World} {g : Nat} (h : g = w.heap.size) (t : TypeId) (cs : Array Value) : Blk (w.alloc (.cells cs t)) g t cs := by subst h; exact Blk.new w t cs
theorem OwnInts.off {w : World} {lo : Nat} {v : Value} {xs : List Int} (h : OwnInts w lo v xs) {p : Addr} (hp : v.ownBlock ≠ some p.block) (u : Value) : OwnInts (w.setCell p u) lo v xs := by
  refine ⟨h.1, ?_⟩
  rcases h.2 with h1 | ⟨g, cap, cur, h1, h2, h3, h4⟩
  · exact .inl h1
  · exact .inr ⟨g, cap, cur, h1, h2, (Below.heap_setCell w p u g (by rintro rfl; exact hp (by rw [h1]; rfl))).trans h3, h4⟩
set_option maxRecDepth 100000 in
set_option maxHeartbeats 6400000 in
theorem walk_ShapeUses0 {op : Nat} (hop : op ≤ 255) (ty a b n : Int) {A : Option Addr} {ca : Nat} {args : List Int} {w : World} (hd : Hdr A args.length ca) (ha : IntsAt w 0 w.heap.size A args) (F : Option Addr) (lf cf : Nat) (k ea et ee : Int) (ht : TabW w) :
    Calls Tryd.prog 3 #[insV op ty a b n A args.length ca F lf cf, .agg #[.int .u8 k, .int .i64 ea, .int .i64 et, .int .i64 ee]] w fun e w' => e = .returned (.bool true) ∧ Below w.heap.size w w' := by
  have HQ2 : Hid (Below w.heap.size w ((w.alloc (.cells #[.int .u8 op, .int .i64 ty, .int .i64 a, .int .i64 b, .int .i64 n, .slice A args.length ca, .slice F lf cf] 24)).alloc (.cells #[.int .u8 k, .int .i64 ea, .int .i64 et, .int .i64 ee] 26))) := Lib.hid (((Below.refl _ _).alloc (Nat.le_refl _) _).alloc (by simp) _)
  have KX2 := Lib.hid ((Blk.new w 24 #[.int .u8 op, .int .i64 ty, .int .i64 a, .int .i64 b, .int .i64 n, .slice A args.length ca, .slice F lf cf]).alloc (.cells #[.int .u8 k, .int .i64 ea, .int .i64 et, .int .i64 ee] 26))
  have KY2 := Lib.hid (Blk.new2 w (.cells #[.int .u8 op, .int .i64 ty, .int .i64 a, .int .i64 b, .int .i64 n, .slice A args.length ca, .slice F lf cf] 24) 26 #[.int .u8 k, .int .i64 ea, .int .i64 et, .int .i64 ee])
  have HA := Lib.hid ha
  have HT := Lib.hid ht
  have HD := Lib.hid hd
  obtain ⟨b0, hb0⟩ : ∃ x, hasT op 0 = x := ⟨_, rfl⟩
  obtain ⟨b1, hb1⟩ : ∃ x, hasT op 1 = x := ⟨_, rfl⟩
  obtain ⟨b2, hb2⟩ : ∃ x, hasT op 2 = x := ⟨_, rfl⟩
  obtain ⟨b3, hb3⟩ : ∃ x, hasT op 3 = x := ⟨_, rfl⟩
  obtain ⟨b4, hb4⟩ : ∃ x, hasT op 4 = x := ⟨_, rfl⟩
  obtain ⟨b5, hb5⟩ : ∃ x, hasT op 5 = x := ⟨_, rfl⟩
  have HH : Hid (Has op b0 b1 b2 b3 b4 b5) := Lib.hid ⟨hb0, hb1, hb2, hb3, hb4, hb5⟩
  obtain ⟨ls, hls⟩ : ∃ x, usesL b0 b1 b3 a b args = x := ⟨_, rfl⟩
  have HLS := Lib.hid hls
  clear ha ht hb0 hb1 hb2 hb3 hb4 hb5 hls
  by_cases hl : 100 < (args.length : Int)
  · have x5 := KX2.out.cells 5
    clear hd
    go_enter Tryd.func3, Tryd.ntmps3
    go_wp2_with fail
    go_ret
    exact ⟨rfl, HQ2.out⟩
  · have hle : args.length ≤ 1000 := by omega
    have hln : ls.length ≤ 2000 := by rw [← HLS.out]; unfold usesL; cases b0 <;> cases b1 <;> cases b3 <;> simp <;> omega
    have HQ3 : Hid (Below w.heap.size w (((w.alloc (.cells #[.int .u8 op, .int .i64 ty, .int .i64 a, .int .i64 b, .int .i64 n, .slice A args.length ca, .slice F lf cf] 24)).alloc (.cells #[.int .u8 k, .int .i64 ea, .int .i64 et, .int .i64 ee] 26)).alloc (.cells #[.int .u8 op, .int .i64 ty, .int .i64 a, .int .i64 b, .int .i64 n, .slice A args.length ca, .slice F lf cf] 24))) := Lib.hid (HQ2.out.alloc HQ2.out.size _)
    have HQ4 : Hid (Below w.heap.size w ((((w.alloc (.cells #[.int .u8 op, .int .i64 ty, .int .i64 a, .int .i64 b, .int .i64 n, .slice A args.length ca, .slice F lf cf] 24)).alloc (.cells #[.int .u8 k, .int .i64 ea, .int .i64 et, .int .i64 ee] 26)).alloc (.cells #[.int .u8 op, .int .i64 ty, .int .i64 a, .int .i64 b, .int .i64 n, .slice A args.length ca, .slice F lf cf] 24)).alloc (.cells #[] 3))) := Lib.hid (HQ3.out.alloc HQ3.out.size _)
    have KO4 : Hid (Blk ((((w.alloc (.cells #[.int .u8 op, .int .i64 ty, .int .i64 a, .int .i64 b, .int .i64 n, .slice A args.length ca, .slice F lf cf] 24)).alloc (.cells #[.int .u8 k, .int .i64 ea, .int .i64 et, .int .i64 ee] 26)).alloc (.cells #[.int .u8 op, .int .i64 ty, .int .i64 a, .int .i64 b, .int .i64 n, .slice A args.length ca, .slice F lf cf] 24)).alloc (.cells #[] 3)) (w.heap.size + 2) 24 #[.int .u8 op, .int .i64 ty, .int .i64 a, .int .i64 b, .int .i64 n, .slice A args.length ca, .slice F lf cf]) := Lib.hid ((Blk.newAt (by simp) _ _).alloc _)
    have KX4 := Lib.hid ((KX2.out.alloc (.cells #[.int .u8 op, .int .i64 ty, .int .i64 a, .int .i64 b, .int .i64 n, .slice A args.length ca, .slice F lf cf] 24)).alloc (.cells #[] 3))
    have KY4 := Lib.hid ((KY2.out.alloc (.cells #[.int .u8 op, .int .i64 ty, .int .i64 a, .int .i64 b, .int .i64 n, .slice A args.length ca, .slice F lf cf] 24)).alloc (.cells #[] 3))
    have HZ4 : Hid (OwnInts ((((w.alloc (.cells #[.int .u8 op, .int .i64 ty, .int .i64 a, .int .i64 b, .int .i64 n, .slice A args.length ca, .slice F lf cf] 24)).alloc (.cells #[.int .u8 k, .int .i64 ea, .int .i64 et, .int .i64 ee] 26)).alloc (.cells #[.int .u8 op, .int .i64 ty, .int .i64 a, .int .i64 b, .int .i64 n, .slice A args.length ca, .slice F lf cf] 24)).alloc (.cells #[] 3)) w.heap.size (.slice (some ⟨w.heap.size + 3, 0, none⟩) 0 0) []) := Lib.hid (ownInts_zero _ _ _ HQ3.out.size (by simp))
    have x0 := KX2.out.cells 0
    have x1 := KX2.out.cells 1
    have x2 := KX2.out.cells 2
    have x3 := KX2.out.cells 3
    have x4 := KX2.out.cells 4
    have x5 := KX2.out.cells 5
    have x6 := KX2.out.cells 6
    have y5 := KX4.out.cells 5
    clear hd
    go_enter Tryd.func3, Tryd.ntmps3
    go_wp2_with (at_builtin; refine wpList_appN rfl (.tmp 14) (.tmp 16) rfl w.heap.size 0 w.heap.size _ [] rfl HZ4.out A args.length ca args rfl rfl HD.out.nil (HA.out.keep HQ4.out) (by simp; omega) HQ4.out.size ?_; intro v1 w5 hown hg; refine pause ?_)
    rw [List.nil_append] at hown
    have hne : ∀ j, (Value.slice (some ⟨w.heap.size + 3, 0, none⟩) 0 0).ownBlock = some j → w.heap.size + 3 = j := fun j h => Option.some.inj h
    have KX5 := Lib.hid (Blk.grown KX4.out hg (fun h => by have := hne _ h; omega))
    have KY5 := Lib.hid (Blk.grown KY4.out hg (fun h => by have := hne _ h; omega))
    have KO5 := Lib.hid (Blk.grown KO4.out hg (fun h => by have := hne _ h; omega))
    have HQ5 := Lib.hid (Below.grown HQ4.out hg HQ4.out.size (fun j h => by have := hne _ h; omega))
    have hno : v1.ownBlock ≠ some (w.heap.size + 2) := hown.ne KO5.out (by decide)
    obtain ⟨A1, c1, rfl, hh1, hi1⟩ := hown.full
    have HO5 := Lib.hid hown
    have HN5 := Lib.hid hno
    have KO6 : Hid (Blk (w5.setCell ⟨w.heap.size + 2, 5, none⟩ (.slice A1 args.length c1)) (w.heap.size + 2) 24 #[.int .u8 op, .int .i64 ty, .int .i64 a, .int .i64 b, .int .i64 n, .slice A1 args.length c1, .slice F lf cf]) := Lib.hid (KO5.out.put 5 _)
    have KX6 := Lib.hid (KX5.out.far (p := ⟨w.heap.size + 2, 5, none⟩) (by show w.heap.size ≠ w.heap.size + 2; omega) (.slice A1 args.length c1))
    have KY6 := Lib.hid (KY5.out.far (p := ⟨w.heap.size + 2, 5, none⟩) (by show w.heap.size + 1 ≠ w.heap.size + 2; omega) (.slice A1 args.length c1))
    have HO6 := Lib.hid (HO5.out.off (p := ⟨w.heap.size + 2, 5, none⟩) HN5.out (.slice A1 args.length c1))
    have HQ6 := Lib.hid (HQ5.out.setCell (p := ⟨w.heap.size + 2, 5, none⟩) (by show w.heap.size ≤ w.heap.size + 2; omega) (.slice A1 args.length c1))
    obtain ⟨A9, c9, e9, hh6, hi6⟩ := HO6.out.full
    injection e9 with e9 _ e10
    subst e9 e10
    have HI6 := Lib.hid hi6
    have HH6 := Lib.hid hh6
    have o5 := KO5.out.cells 5
    have f5 := KO5.out.free 5
    have p0 := KO6.out.cells 0
    have p1 := KO6.out.cells 1
    have p2 := KO6.out.cells 2
    have p3 := KO6.out.cells 3
    have p4 := KO6.out.cells 4
    have p5 := KO6.out.cells 5
    have p6 := KO6.out.cells 6
    clear hown hg hne hno hh1 hi1 hi6 hh6 x0 x1 x2 x3 x4 x5 x6 y5
    refine resume ?_
    go_wp2_with fail
    have hc := uses_any HH.out hop ty a b n HH6.out (HT.out.on HQ6.out) HI6.out hle F lf cf
    rw [HLS.out] at hc
    refine hc.mono ?_
    clear hc o5 f5 p0 p1 p2 p3 p4 p5 p6
    rintro e w7 ⟨v2, rfl, hown, hb⟩
    obtain ⟨A2, c2, rfl, hh7, hi7⟩ := hown.full
    have HL7 := Lib.hid hown
    have HHL := Lib.hid hh7
    have HIL := Lib.hid hi7
    have HU7 := Lib.hid hb
    have KX7 := Lib.hid (KX6.out.beneath hb)
    have KY7 := Lib.hid (KY6.out.beneath hb)
    have KO7 := Lib.hid (KO6.out.beneath hb)
    have HQ7 := Lib.hid (HQ6.out.trans (hb.mono HQ6.out.size))
    have HI7 := Lib.hid ((HI6.out.keep hb).more (Nat.le_refl _) hb.size)
    clear hown hb hh7 hi7
    have HC : Hid (Below w7.heap.size w7 w7.drew) := Lib.hid (Below.refl _ _).drew
    have hzx := KX7.out.lt
    have hzy := KY7.out.lt
    have x0 := KX7.out.cells 0
    have x1 := KX7.out.cells 1
    have x2 := KX7.out.cells 2
    have x3 := KX7.out.cells 3
    have x4 := KX7.out.cells 4
    have x5 := KX7.out.cells 5
    have x6 := KX7.out.cells 6
    have y0 := KY7.out.cells 0
    have y1 := KY7.out.cells 1
    have y2 := KY7.out.cells 2
    have y3 := KY7.out.cells 3
    go_wp2_with fail
    go_region_held3 (fun w' => w'.cell? ⟨w.heap.size, 0, none⟩ = some (.int .u8 op) ∧ w'.cell? ⟨w.heap.size, 1, none⟩ = some (.int .i64 ty) ∧ w'.cell? ⟨w.heap.size, 2, none⟩ = some (.int .i64 a) ∧ w'.cell? ⟨w.heap.size, 3, none⟩ = some (.int .i64 b) ∧ w'.cell? ⟨w.heap.size, 4, none⟩ = some (.int .i64 n) ∧ w'.cell? ⟨w.heap.size, 5, none⟩ = some (.slice A args.length ca) ∧ w'.cell? ⟨w.heap.size, 6, none⟩ = some (.slice F lf cf) ∧ w'.cell? ⟨w.heap.size + 1, 0, none⟩ = some (.int .u8 k) ∧ w'.cell? ⟨w.heap.size + 1, 1, none⟩ = some (.int .i64 ea) ∧ w'.cell? ⟨w.heap.size + 1, 2, none⟩ = some (.int .i64 et) ∧ w'.cell? ⟨w.heap.size + 1, 3, none⟩ = some (.int .i64 ee)) (go_keep)
      (first
        | (go_at_call 9
           refine (answers_any HH.out hop _ (HT.out.on (HQ7.out.trans (HC.out.mono HQ7.out.size)))).mono ?_
           rintro e0 wz ⟨rfl, hb⟩
           have HC := Lib.hid (HC.out.trans (hb.mono HC.out.size))
           have x0 := (KX7.out.below HC.out hzx).cells 0
           have x1 := (KX7.out.below HC.out hzx).cells 1
           have x2 := (KX7.out.below HC.out hzx).cells 2
           have x3 := (KX7.out.below HC.out hzx).cells 3
           have x4 := (KX7.out.below HC.out hzx).cells 4
           have x5 := (KX7.out.below HC.out hzx).cells 5
           have x6 := (KX7.out.below HC.out hzx).cells 6
           have y0 := (KY7.out.below HC.out hzy).cells 0
           have y1 := (KY7.out.below HC.out hzy).cells 1
           have y2 := (KY7.out.below HC.out hzy).cells 2
           have y3 := (KY7.out.below HC.out hzy).cells 3
           clear hb)
        | (go_at_call 10
           refine (ransw_is HH.out.h5 _).mono ?_
           rintro e0 wz ⟨rfl, hb⟩
           have HC := Lib.hid (HC.out.trans (hb.mono HC.out.size))
           have x0 := (KX7.out.below HC.out hzx).cells 0
           have x1 := (KX7.out.below HC.out hzx).cells 1
           have x2 := (KX7.out.below HC.out hzx).cells 2
           have x3 := (KX7.out.below HC.out hzx).cells 3
           have x4 := (KX7.out.below HC.out hzx).cells 4
           have x5 := (KX7.out.below HC.out hzx).cells 5
           have x6 := (KX7.out.below HC.out hzx).cells 6
           have y0 := (KY7.out.below HC.out hzy).cells 0
           have y1 := (KY7.out.below HC.out hzy).cells 1
           have y2 := (KY7.out.below HC.out hzy).cells 2
           have y3 := (KY7.out.below HC.out hzy).cells 3
           clear hb)
        | (go_at_call 12
           refine (HLS.out ▸ ruses_any HH.out.h0 HH.out.h1 HH.out.h3 ty a b n HD.out ((HA.out.keep (HQ7.out.trans (HC.out.mono HQ7.out.size))).more (Nat.le_refl _) (HQ7.out.trans (HC.out.mono HQ7.out.size)).size) hle F lf cf).mono ?_
           rintro e0 wz ⟨v3, rfl, hown, hb⟩
           obtain ⟨A3, c3, rfl, hh3, hi3⟩ := hown.full
           have HH3 := Lib.hid hh3
           have HI3 := Lib.hid hi3
           clear hown hh3 hi3
           have HC := Lib.hid (HC.out.trans (hb.mono HC.out.size))
           have x0 := (KX7.out.below HC.out hzx).cells 0
           have x1 := (KX7.out.below HC.out hzx).cells 1
           have x2 := (KX7.out.below HC.out hzx).cells 2
           have x3 := (KX7.out.below HC.out hzx).cells 3
           have x4 := (KX7.out.below HC.out hzx).cells 4
           have x5 := (KX7.out.below HC.out hzx).cells 5
           have x6 := (KX7.out.below HC.out hzx).cells 6
           have y0 := (KY7.out.below HC.out hzy).cells 0
           have y1 := (KY7.out.below HC.out hzy).cells 1
           have y2 := (KY7.out.below HC.out hzy).cells 2
           have y3 := (KY7.out.below HC.out hzy).cells 3
           clear hb)
        | (go_at_call 11
           refine (sameInts_any HHL.out (HIL.out.keep HC.out) HH3.out HI3.out).mono ?_
           rintro e0 wz ⟨rfl, hb⟩
           have HC := Lib.hid (HC.out.trans (hb.mono HC.out.size))
           have x0 := (KX7.out.below HC.out hzx).cells 0
           have x1 := (KX7.out.below HC.out hzx).cells 1
           have x2 := (KX7.out.below HC.out hzx).cells 2
           have x3 := (KX7.out.below HC.out hzx).cells 3
           have x4 := (KX7.out.below HC.out hzx).cells 4
           have x5 := (KX7.out.below HC.out hzx).cells 5
           have x6 := (KX7.out.below HC.out hzx).cells 6
           have y0 := (KY7.out.below HC.out hzy).cells 0
           have y1 := (KY7.out.below HC.out hzy).cells 1
           have y2 := (KY7.out.below HC.out hzy).cells 2
           have y3 := (KY7.out.below HC.out hzy).cells 3
           clear hb)
        | (go_at_call 13
           refine (ends_any k ea et ee _).mono ?_
           rintro e0 wz ⟨v4, rfl, hown, hb⟩
           obtain ⟨A4, c4, rfl, hh4, hi4⟩ := hown.full
           have HH4 := Lib.hid hh4
           have HI4 := Lib.hid hi4
           (try have HI5 := Lib.hid ((HI5.out.keep hb).more (Nat.le_refl _) hb.size))
           clear hown hh4 hi4
           have HC := Lib.hid (HC.out.trans (hb.mono HC.out.size))
           have x0 := (KX7.out.below HC.out hzx).cells 0
           have x1 := (KX7.out.below HC.out hzx).cells 1
           have x2 := (KX7.out.below HC.out hzx).cells 2
           have x3 := (KX7.out.below HC.out hzx).cells 3
           have x4 := (KX7.out.below HC.out hzx).cells 4
           have x5 := (KX7.out.below HC.out hzx).cells 5
           have x6 := (KX7.out.below HC.out hzx).cells 6
           have y0 := (KY7.out.below HC.out hzy).cells 0
           have y1 := (KY7.out.below HC.out hzy).cells 1
           have y2 := (KY7.out.below HC.out hzy).cells 2
           have y3 := (KY7.out.below HC.out hzy).cells 3
           clear hb)
        | (go_at_call 14
           refine (rends_any k ea et ee _).mono ?_
           rintro e0 wz ⟨v5, rfl, hown, hb⟩
           obtain ⟨A5, c5, rfl, hh5, hi5⟩ := hown.full
           have HH5 := Lib.hid hh5
           have HI5 := Lib.hid hi5
           (try have HI4 := Lib.hid ((HI4.out.keep hb).more (Nat.le_refl _) hb.size))
           clear hown hh5 hi5
           have HC := Lib.hid (HC.out.trans (hb.mono HC.out.size))
           have x0 := (KX7.out.below HC.out hzx).cells 0
           have x1 := (KX7.out.below HC.out hzx).cells 1
           have x2 := (KX7.out.below HC.out hzx).cells 2
           have x3 := (KX7.out.below HC.out hzx).cells 3
           have x4 := (KX7.out.below HC.out hzx).cells 4
           have x5 := (KX7.out.below HC.out hzx).cells 5
           have x6 := (KX7.out.below HC.out hzx).cells 6
           have y0 := (KY7.out.below HC.out hzy).cells 0
           have y1 := (KY7.out.below HC.out hzy).cells 1
           have y2 := (KY7.out.below HC.out hzy).cells 2
           have y3 := (KY7.out.below HC.out hzy).cells 3
           clear hb)
        | (go_at_call 11
           refine (sameInts_any HH4.out HI4.out HH5.out HI5.out).mono ?_
           rintro e0 wz ⟨rfl, hb⟩
           have HC := Lib.hid (HC.out.trans (hb.mono HC.out.size))
           have x0 := (KX7.out.below HC.out hzx).cells 0
           have x1 := (KX7.out.below HC.out hzx).cells 1
           have x2 := (KX7.out.below HC.out hzx).cells 2
           have x3 := (KX7.out.below HC.out hzx).cells 3
           have x4 := (KX7.out.below HC.out hzx).cells 4
           have x5 := (KX7.out.below HC.out hzx).cells 5
           have x6 := (KX7.out.below HC.out hzx).cells 6
           have y0 := (KY7.out.below HC.out hzy).cells 0
           have y1 := (KY7.out.below HC.out hzy).cells 1
           have y2 := (KY7.out.below HC.out hzy).cells 2
           have y3 := (KY7.out.below HC.out hzy).cells 3
           clear hb))
    all_goals
      have HCL := HC
      clear HC
      have HO7 := Lib.hid (HL7.out.keep HCL.out)
      go_wp2_with fail
      clear x0 x1 x2 x3 x4 x5 x6 y0 y1 y2 y3
      go_loopw [8] (fun x wr => ∃ (j : Nat) (ys : List Int), j ≤ ls.length ∧ ys.length = ls.length ∧ x = .int .i64 j ∧ Hid (OwnInts wr (w5.setCell ⟨w.heap.size + 2, 5, none⟩ (.slice A1 args.length c1)).heap.size (.slice A2 ls.length c2) ys) ∧ Hid (Below (w5.setCell ⟨w.heap.size + 2, 5, none⟩ (.slice A1 args.length c1)).heap.size (w5.setCell ⟨w.heap.size + 2, 5, none⟩ (.slice A1 args.length c1)) wr)) (fun x _ => ls.length - (intOf x).toNat)
      case atStart => exact ⟨0, ls, Nat.zero_le _, rfl, rfl, HO7, Lib.hid (HU7.out.trans (HCL.out.mono HU7.out.size))⟩
      case round =>
        obtain ⟨j, ys, hj, hyl, rfl, HOW, HB⟩ := hrel
        by_cases hlt : j < ls.length
        · have hown := HOW.out
          rw [← hyl] at hown
          obtain ⟨g, rfl, hg, hcell, hfro, hset⟩ := hown.spot (j := j) (by omega)
          generalize ys.getD j 0 = z at hcell
          have HSE := Lib.hid (hset (wrap64 (z - 1)))
          have HB2 := Lib.hid (HB.out.setCell (p := ⟨g, j, none⟩) hg (.int .i64 (wrap64 (z - 1))))
          clear hown hset
          go_wp2_with fail
          go_roundw
          case rel => exact ⟨j + 1, ys.set j (wrap64 (z - 1)), by omega, by rw [List.length_set]; exact hyl, by go_num, Lib.hid (by have := HSE.out; rw [hyl] at this; exact this), HB2⟩
          case measure => simp [intOf]; omega
        · have hq := HQ6.out.trans (HB.out.mono HQ6.out.size)
          have x5 := (KX6.out.beneath HB.out).cells 5
          have p5 := (KO6.out.beneath HB.out).cells 5
          have HQ8 := Lib.hid hq
          clear hq
          go_wp2_with fail
          have hc := sameInts_any HH6.out (HI6.out.keep HB.out) HD.out (HA.out.keep HQ8.out)
          rw [decide_eq_true (rfl : args = args)] at hc
          refine hc.mono ?_
          clear hc
          rintro e w99 ⟨rfl, hb⟩
          have HQ99 := Lib.hid (HQ8.out.trans (hb.mono HQ8.out.size))
          clear hb
          go_wp2_with fail
          go_ret
          exact ⟨rfl, HQ99.out⟩
end Go.Proofs.YtcbhmpkginebaaaDoor
