/-
  The program's Same of programs.
-/
import Derived.Test.YtcbhmpkginebaaaDoorMg14
import Derived.Test.YtcbhmpkginebaaaDoorMfShSameP1
import Derived.Test.YtcbhmpkginebaaaDoorMfTypSameP
import Derived.Laws.EntriesVeiled
namespace Go.Proofs.YtcbhmpkginebaaaDoor
set_option linter.unusedVariables false
set_option linter.unusedSimpArgs false
open Go.ChangeShapes Go.WideShapes Go.ChangeAt Go.RowKit

theorem sblk_at (w : World) (t : TypeId) (cs : Array Value) (g : Nat) (h : w.heap.size = g) : Blk (w.alloc (.cells cs t)) g t cs := h ▸ Blk.new w t cs
theorem eq_boolN {a b : Nat} (h : a ≠ b) : ((a : Int) == (b : Int)) = false := beq_eq_false_iff_ne.2 (by omega)
theorem eq_bool {a b : Int} (h : a ≠ b) : (a == b) = false := beq_eq_false_iff_ne.2 h
theorem pequal_is {w : World} {A A' : Option Addr} {c c' : Nat} {xs ys : List Int} (hh : Hdr A xs.length c) (hx : IntsAt w 0 w.heap.size A xs) (hh' : Hdr A' ys.length c') (hy : IntsAt w 0 w.heap.size A' ys) {b : Bool} (hb : decide (xs = ys) = b) :
    Calls Tryd.prog 60 #[.slice A xs.length c, .slice A' ys.length c'] w fun e w' => e = .returned (.bool b) ∧ Below w.heap.size w w' := hb ▸ pequal_any hh hx hh' hy
theorem enters_same1 : Enters 59 := fun _ _ => by kernel_rfl
theorem enters_same2 : Enters 61 := fun _ _ => by kernel_rfl
theorem enters_same3 : Enters 63 := fun _ _ => by kernel_rfl
set_option maxRecDepth 100000 in
set_option maxHeartbeats 3200000 in
theorem psame1_any {w : World} {r r' : InR} (hr : r.Ok w) (hr' : r'.Ok w) {z : Bool} (hz : decide (r.data = r'.data) = z) :
    Calls Tryd.prog 59 #[r.val, r'.val] w fun e w' => e = .returned (.bool z) ∧ Below w.heap.size w w' := by
  have HR := Lib.hid hr
  have HR' := Lib.hid hr'
  have hal := hr.ahdr.cle
  have hfl := hr.fhdr.cle
  have hal' := hr'.ahdr.cle
  have hfl' := hr'.fhdr.cle
  have HZ := Lib.hid hz
  obtain ⟨op, ty, xa, xb, xn, aa, ac, args, fa, fc, from_⟩ := r
  obtain ⟨op', ty', xa', xb', xn', aa', ac', args', fa', fc', from_'⟩ := r'
  unfold InR.val
  unfold InR.data at HZ
  dsimp only at *
  clear hr hr' hz
  have HW : Hid (Two w ((w.alloc (.cells #[.int .u8 op, .int .i64 ty, .int .i64 xa, .int .i64 xb, .int .i64 xn, .slice aa args.length ac, .slice fa from_.length fc] 24)).alloc (.cells #[.int .u8 op', .int .i64 ty', .int .i64 xa', .int .i64 xb', .int .i64 xn', .slice aa' args'.length ac', .slice fa' from_'.length fc'] 24)) 24 w.heap.size (w.heap.size + 1) #[.int .u8 op, .int .i64 ty, .int .i64 xa, .int .i64 xb, .int .i64 xn, .slice aa args.length ac, .slice fa from_.length fc] #[.int .u8 op', .int .i64 ty', .int .i64 xa', .int .i64 xb', .int .i64 xn', .slice aa' args'.length ac', .slice fa' from_'.length fc']) :=
    Lib.hid ⟨(Blk.new _ _ _).alloc _, Blk.new2 _ _ _ _, ((Below.refl _ _).alloc (Nat.le_refl _) _).alloc (by rw [World.size_alloc]; omega) _⟩
  by_cases e0 : op = op'
  · subst e0
    by_cases e1 : ty = ty'
    · subst e1
      by_cases e2 : xa = xa'
      · subst e2
        by_cases e3 : xb = xb'
        · subst e3
          by_cases e4 : xn = xn'
          · subst e4
            obtain ⟨q5, hq5⟩ : ∃ q, decide (args = args') = q := ⟨_, rfl⟩
            have HQ5 := Lib.hid hq5
            clear hq5
            go_enter Tryd.func59, Tryd.ntmps59
            go_wp2_with fail
            refine (pequal_is HR.out.ahdr (HR.out.args.up HW.out.below) HR'.out.ahdr (HR'.out.args.up HW.out.below) HQ5.out).mono ?_
            rintro e w2 ⟨rfl, hb2⟩
            have HW2 := Lib.hid (HW.out.on hb2)
            clear hb2
            have x0 := HW2.out.x.cells 0; have x1 := HW2.out.x.cells 1; have x2 := HW2.out.x.cells 2; have x3 := HW2.out.x.cells 3; have x4 := HW2.out.x.cells 4; have x5 := HW2.out.x.cells 5; have x6 := HW2.out.x.cells 6; have y0 := HW2.out.y.cells 0; have y1 := HW2.out.y.cells 1; have y2 := HW2.out.y.cells 2; have y3 := HW2.out.y.cells 3; have y4 := HW2.out.y.cells 4; have y5 := HW2.out.y.cells 5; have y6 := HW2.out.y.cells 6
            cases q5 with
            | false =>
              have HQ : Hid (false = z) := Lib.hid (by rw [← HZ.out]; exact (decide_eq_false (fun h => by injection h with _ _ _ _ _ h _; exact of_decide_eq_false HQ5.out h)).symm)
              go_wp2_with fail
              go_ret
              exact ⟨ret_bool HQ.out, HW2.out.below⟩
            | true =>
              obtain ⟨q6, hq6⟩ : ∃ q, decide (from_ = from_') = q := ⟨_, rfl⟩
              have HQ6 := Lib.hid hq6
              clear hq6
              go_wp2_with fail
              refine (pequal_is HR.out.fhdr (HR.out.from_.up HW2.out.below) HR'.out.fhdr (HR'.out.from_.up HW2.out.below) HQ6.out).mono ?_
              rintro e w3 ⟨rfl, hb3⟩
              have HW3 := Lib.hid (HW2.out.on hb3)
              clear hb3 x0 x1 x2 x3 x4 x5 x6 y0 y1 y2 y3 y4 y5 y6
              have HQ : Hid (q6 = z) := Lib.hid (by rw [← HZ.out, ← HQ6.out, of_decide_eq_true HQ5.out]; simp)
              go_wp2_with fail
              go_ret
              exact ⟨ret_bool HQ.out, HW3.out.below⟩
          · have z4 := eq_bool e4
            have E4 := Lib.hid e4
            clear e4
            have HQ : Hid (false = z) := Lib.hid (by rw [← HZ.out]; exact (decide_eq_false (fun h => by injection h with _ _ _ _ h _ _; exact E4.out h)).symm)
            go_enter Tryd.func59, Tryd.ntmps59
            go_wp2_with fail
            go_ret
            exact ⟨ret_bool HQ.out, HW.out.below⟩
        · have z3 := eq_bool e3
          have E3 := Lib.hid e3
          clear e3
          have HQ : Hid (false = z) := Lib.hid (by rw [← HZ.out]; exact (decide_eq_false (fun h => by injection h with _ _ _ h _ _ _; exact E3.out h)).symm)
          go_enter Tryd.func59, Tryd.ntmps59
          go_wp2_with fail
          go_ret
          exact ⟨ret_bool HQ.out, HW.out.below⟩
      · have z2 := eq_bool e2
        have E2 := Lib.hid e2
        clear e2
        have HQ : Hid (false = z) := Lib.hid (by rw [← HZ.out]; exact (decide_eq_false (fun h => by injection h with _ _ h _ _ _ _; exact E2.out h)).symm)
        go_enter Tryd.func59, Tryd.ntmps59
        go_wp2_with fail
        go_ret
        exact ⟨ret_bool HQ.out, HW.out.below⟩
    · have z1 := eq_bool e1
      have E1 := Lib.hid e1
      clear e1
      have HQ : Hid (false = z) := Lib.hid (by rw [← HZ.out]; exact (decide_eq_false (fun h => by injection h with _ h _ _ _ _ _; exact E1.out h)).symm)
      go_enter Tryd.func59, Tryd.ntmps59
      go_wp2_with fail
      go_ret
      exact ⟨ret_bool HQ.out, HW.out.below⟩
  · have z0 := eq_boolN e0
    have E0 := Lib.hid e0
    clear e0
    have HQ : Hid (false = z) := Lib.hid (by rw [← HZ.out]; exact (decide_eq_false (fun h => by injection h with h _ _ _ _ _ _; exact E0.out h)).symm)
    go_enter Tryd.func59, Tryd.ntmps59
    go_wp2_with fail
    go_ret
    exact ⟨ret_bool HQ.out, HW.out.below⟩
set_option maxRecDepth 100000 in
set_option maxHeartbeats 3200000 in
theorem psame2_any {w : World} {g : Nat} {r r' : BlR} (hr : r.Ok w) (hr' : r'.Ok w) (ho : w.cell? ⟨g, 0, none⟩ = some (.func (.func 59) #[] #[])) {z : Bool} (hz : decide (r.data = r'.data) = z) :
    Calls Tryd.prog 61 #[r.val, r'.val, .pointer (some ⟨g, 0, none⟩)] w fun e w' => e = .returned (.bool z) ∧ Below w.heap.size w w' := by
  obtain ⟨u, hu⟩ : ∃ u, decide (insD r.ins = insD r'.ins) = u := ⟨_, rfl⟩
  have HC := Lib.hid (fun W (hb : Below w.heap.size w W) => equalI_any (hr.ins.on hb) (hr'.ins.on hb) 59 #[] ⟨enters_same1, fun W' v t hb' hv ht hvo hto z hz => psame1_any hvo hto hz⟩)
  rw [hu] at HC
  have HZ := Lib.hid hz
  have HU := Lib.hid hu
  have hgo : g < w.heap.size := World.block_lt_of_cell? w _ ho
  obtain ⟨ia, ic, ins, kd, ea, et, el⟩ := r
  obtain ⟨ia', ic', ins', kd', ea', et', el'⟩ := r'
  unfold BlR.val
  dsimp only at *
  have HW : Hid (Two w ((w.alloc (.cells #[.slice ia ins.length ic, .int .u8 kd, .int .i64 ea, .int .i64 et, .int .i64 el] 58)).alloc (.cells #[.slice ia' ins'.length ic', .int .u8 kd', .int .i64 ea', .int .i64 et', .int .i64 el'] 58)) 58 w.heap.size (w.heap.size + 1) #[.slice ia ins.length ic, .int .u8 kd, .int .i64 ea, .int .i64 et, .int .i64 el] #[.slice ia' ins'.length ic', .int .u8 kd', .int .i64 ea', .int .i64 et', .int .i64 el']) :=
    Lib.hid ⟨(Blk.new _ _ _).alloc _, Blk.new2 _ _ _ _, ((Below.refl _ _).alloc (Nat.le_refl _) _).alloc (by rw [World.size_alloc]; omega) _⟩
  have o0 := (HW.out.below.cell (p := ⟨g, 0, none⟩) hgo).trans ho
  clear hr hr' hz hu ho hgo
  cases hq : decide ((⟨kd, ea, et, el⟩ : PEnd) = ⟨kd', ea', et', el'⟩) with
  | false =>
    have qe := seqEnd_is hq
    have HQ : Hid (false = z) := Lib.hid (by rw [← HZ.out]; exact (decide_eq_false (fun h => by injection h with _ h; exact of_decide_eq_false hq h)).symm)
    clear hq
    go_enter Tryd.func61, Tryd.ntmps61
    go_wp2_with fail
    go_ret
    exact ⟨ret_bool HQ.out, HW.out.below⟩
  | true =>
    have qe := seqEnd_is hq
    have HQ : Hid (u = z) := Lib.hid (by
      rw [← HZ.out, ← HU.out]
      show decide (insD ins = insD ins') = decide ((⟨insD ins, ⟨kd, ea, et, el⟩⟩ : PBlk) = ⟨insD ins', ⟨kd', ea', et', el'⟩⟩)
      rw [of_decide_eq_true hq]; simp)
    clear hq
    go_enter Tryd.func61, Tryd.ntmps61
    go_wp2_with fail
    refine (HC.out _ HW.out.below).mono ?_
    rintro e w1 ⟨rfl, hb1⟩
    have HB1 := Lib.hid (HW.out.on hb1)
    clear hb1
    go_wp2_with fail
    go_ret
    exact ⟨ret_bool HQ.out, HB1.out.below⟩
set_option maxRecDepth 100000 in
set_option maxHeartbeats 3200000 in
theorem psame3_any {w : World} {g g1 : Nat} {r r' : FuR} (hr : r.Ok w) (hr' : r'.Ok w) (ho : w.cell? ⟨g, 0, none⟩ = some (.func (.func 61) #[] #[.pointer (some ⟨g1, 0, none⟩)])) (ho1 : w.cell? ⟨g1, 0, none⟩ = some (.func (.func 59) #[] #[])) {z : Bool} (hz : decide (r.data = r'.data) = z) :
    Calls Tryd.prog 63 #[r.val, r'.val, .pointer (some ⟨g, 0, none⟩)] w fun e w' => e = .returned (.bool z) ∧ Below w.heap.size w w' := by
  obtain ⟨u, hu⟩ : ∃ u, decide (blkD r.blocks = blkD r'.blocks) = u := ⟨_, rfl⟩
  have hg1 : g1 < w.heap.size := World.block_lt_of_cell? w _ ho1
  have HC := Lib.hid (fun W (hb : Below w.heap.size w W) => equalB_any (hr.blocks.on hb) (hr'.blocks.on hb) 61 #[.pointer (some ⟨g1, 0, none⟩)] ⟨enters_same2, fun W' v t hb' hv ht hvo hto z hz => psame2_any hvo hto (((hb.trans (hb'.mono hb.size)).cell (p := ⟨g1, 0, none⟩) hg1).trans ho1) hz⟩)
  rw [hu] at HC
  have HZ := Lib.hid hz
  have HU := Lib.hid hu
  have hgo : g < w.heap.size := World.block_lt_of_cell? w _ ho
  obtain ⟨sig, ba, bc, bls⟩ := r
  obtain ⟨sig', ba', bc', bls'⟩ := r'
  unfold FuR.val
  dsimp only at *
  have HW : Hid (Two w ((w.alloc (.cells #[.int .i64 sig, .slice ba bls.length bc] 55)).alloc (.cells #[.int .i64 sig', .slice ba' bls'.length bc'] 55)) 55 w.heap.size (w.heap.size + 1) #[.int .i64 sig, .slice ba bls.length bc] #[.int .i64 sig', .slice ba' bls'.length bc']) :=
    Lib.hid ⟨(Blk.new _ _ _).alloc _, Blk.new2 _ _ _ _, ((Below.refl _ _).alloc (Nat.le_refl _) _).alloc (by rw [World.size_alloc]; omega) _⟩
  have o0 := (HW.out.below.cell (p := ⟨g, 0, none⟩) hgo).trans ho
  clear hr hr' hz hu ho hgo ho1 hg1
  by_cases hq : sig = sig'
  · subst hq
    have HQ : Hid (u = z) := Lib.hid (by
      rw [← HZ.out, ← HU.out]
      show decide (blkD bls = blkD bls') = decide ((⟨sig, blkD bls⟩ : PFun) = ⟨sig, blkD bls'⟩)
      simp)
    go_enter Tryd.func63, Tryd.ntmps63
    go_wp2_with fail
    refine (HC.out _ HW.out.below).mono ?_
    rintro e w1 ⟨rfl, hb1⟩
    have HB1 := Lib.hid (HW.out.on hb1)
    clear hb1
    go_wp2_with fail
    go_ret
    exact ⟨ret_bool HQ.out, HB1.out.below⟩
  · have qe := eq_bool hq
    have HQ : Hid (false = z) := Lib.hid (by rw [← HZ.out]; exact (decide_eq_false (fun h => by injection h with h _; exact hq h)).symm)
    clear hq
    go_enter Tryd.func63, Tryd.ntmps63
    go_wp2_with fail
    go_ret
    exact ⟨ret_bool HQ.out, HW.out.below⟩
theorem psameT_is {w : World} {A A' : Option Addr} {c c' : Nat} {xs ys : List TyR} (h : TabIn w A c xs) (h' : TabIn w A' c' ys) {b : Bool} (hb : decide (tbl xs = tbl ys) = b) :
    Calls Tryd.prog 65 #[.slice A xs.length c, .slice A' ys.length c'] w fun e w' => e = .returned (.bool b) ∧ Below w.heap.size w w' := hb ▸ psame_any h h'
set_option maxRecDepth 100000 in
set_option maxHeartbeats 3200000 in
theorem psame6_any {w : World} {p o : PrR} (h : ProgIn w p) (h' : ProgIn w o) :
    Calls Tryd.prog 30 #[p.val, o.val] w fun e w' => e = .returned (.bool (sameB p o)) ∧ Below w.heap.size w w' := by
  obtain ⟨z, hz⟩ : ∃ z, decide (tbl p.types = tbl o.types) = z := ⟨_, rfl⟩
  obtain ⟨u, hu⟩ : ∃ u, decide (funD p.funs = funD o.funs) = u := ⟨_, rfl⟩
  have HTS := Lib.hid (fun W (hb : Below w.heap.size w W) => psameT_is (h.on hb).types (h'.on hb).types hz)
  have HFS := Lib.hid (fun W (hb : Below w.heap.size w W) (g g1 : Nat) (ho : W.cell? ⟨g, 0, none⟩ = some (.func (.func 61) #[] #[.pointer (some ⟨g1, 0, none⟩)])) (ho1 : W.cell? ⟨g1, 0, none⟩ = some (.func (.func 59) #[] #[])) =>
    equalF_any (h.funs.on hb) (h'.funs.on hb) 63 #[.pointer (some ⟨g, 0, none⟩)] ⟨enters_same3, fun W' v t hb' hv ht hvo hto z hz => psame3_any hvo hto ((hb'.cell (p := ⟨g, 0, none⟩) (World.block_lt_of_cell? W _ ho)).trans ho) ((hb'.cell (p := ⟨g1, 0, none⟩) (World.block_lt_of_cell? W _ ho1)).trans ho1) hz⟩)
  rw [hu] at HFS
  have HS : Hid (sameB p o = (z && u)) := Lib.hid (by unfold sameB; rw [hz, hu])
  rw [HS.out]
  clear h h' hz hu HS
  obtain ⟨ta, tc, types, fa, fc, xs⟩ := p
  obtain ⟨ta', tc', types', fa', fc', ys⟩ := o
  unfold PrR.val at *
  dsimp only at *
  have HW : Hid (Two w ((w.alloc (.cells #[.slice ta types.length tc, .slice fa xs.length fc] 35)).alloc (.cells #[.slice ta' types'.length tc', .slice fa' ys.length fc'] 35)) 35 w.heap.size (w.heap.size + 1) #[.slice ta types.length tc, .slice fa xs.length fc] #[.slice ta' types'.length tc', .slice fa' ys.length fc']) :=
    Lib.hid ⟨(Blk.new _ _ _).alloc _, Blk.new2 _ _ _ _, ((Below.refl _ _).alloc (Nat.le_refl _) _).alloc (by rw [World.size_alloc]; omega) _⟩
  go_enter Tryd.func30, Tryd.ntmps30
  go_wp2_with fail
  have hbB : Below (w.heap.size + 1 + 1) ((w.alloc (.cells #[.slice ta types.length tc, .slice fa xs.length fc] 35)).alloc (.cells #[.slice ta' types'.length tc', .slice fa' ys.length fc'] 35)) ((((w.alloc (.cells #[.slice ta types.length tc, .slice fa xs.length fc] 35)).alloc (.cells #[.slice ta' types'.length tc', .slice fa' ys.length fc'] 35)).alloc (.cells #[.func (.func 59) #[] #[]] 87)).alloc (.cells #[.func (.func 61) #[] #[.pointer (some ⟨w.heap.size + 1 + 1, 0, none⟩)]] 89)) :=
    ((Below.refl _ _).alloc (by simp) _).alloc (by simp) _
  have HF1 := Lib.hid ((sblk_at ((w.alloc (.cells #[.slice ta types.length tc, .slice fa xs.length fc] 35)).alloc (.cells #[.slice ta' types'.length tc', .slice fa' ys.length fc'] 35)) 87 #[.func (.func 59) #[] #[]] (w.heap.size + 1 + 1) (by simp)).alloc (.cells #[.func (.func 61) #[] #[.pointer (some ⟨w.heap.size + 1 + 1, 0, none⟩)]] 89))
  have HF2 := Lib.hid (sblk_at (((w.alloc (.cells #[.slice ta types.length tc, .slice fa xs.length fc] 35)).alloc (.cells #[.slice ta' types'.length tc', .slice fa' ys.length fc'] 35)).alloc (.cells #[.func (.func 59) #[] #[]] 87)) 89 #[.func (.func 61) #[] #[.pointer (some ⟨w.heap.size + 1 + 1, 0, none⟩)]] (w.heap.size + 1 + 1 + 1) (by simp))
  have HW2 := Lib.hid (HW.out.on (hbB.mono (by simp)))
  clear hbB
  refine (HTS.out _ HW2.out.below).mono ?_
  rintro e w1 ⟨rfl, hb1⟩
  have HW3 := Lib.hid (HW2.out.on hb1)
  have HG1 := Lib.hid (HF1.out.beneath hb1)
  have HG2 := Lib.hid (HF2.out.beneath hb1)
  clear hb1
  cases z with
  | false =>
    go_wp2_with fail
    go_ret
    exact ⟨rfl, HW3.out.below⟩
  | true =>
    have x1 := HW3.out.x.cells 1
    have y1 := HW3.out.y.cells 1
    go_wp2_with fail
    refine (HFS.out _ HW3.out.below _ _ (HG2.out.cells 0) (HG1.out.cells 0)).mono ?_
    rintro e w2 ⟨rfl, hb2⟩
    have HW4 := Lib.hid (HW3.out.on hb2)
    clear hb2 x1 y1
    go_wp2_with fail
    go_ret
    exact ⟨rfl, HW4.out.below⟩
end Go.Proofs.YtcbhmpkginebaaaDoor
